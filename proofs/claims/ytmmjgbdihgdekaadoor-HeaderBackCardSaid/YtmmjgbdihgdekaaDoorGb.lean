import Derived.Test.YtmmjgbdihgdekaaDoorG8
import Derived.Test.YtmmjgbdihgdekaaDoorG9
import Derived.Test.YtmmjgbdihgdekaaDoorGa
import Derived.Test.YtmmjgbdihgdekaaDoorG6
import Derived.Test.YtmmjgbdihgdekaaDoorG4
/- Parse of a named text, in all. -/
namespace Go.Proofs.YtmmjgbdihgdekaaDoor
open Go Go.RowKit
set_option linter.unusedSimpArgs false
set_option linter.unusedVariables false
set_option maxRecDepth 100000
set_option maxHeartbeats 4000000
theorem parseN0_call (t : List UInt8) (ht : t.length ≤ 20000) : VCall Tryd.prog 43 [.sl 0 0 t.length none 1] ⟨[(0, .cells true (t.map bV))], 1⟩ (fun v K => v = hresV (hparse t) ∧ K = ⟨[(0, .cells true (t.map bV))], 1⟩) := by
  refine VCall.trimB (Q' := fun v => v = hresV (hparse t)) (Q := fun v K => HKN t (hparse t) v K) ?_ ?_ ?_
  · intro b x hx
    rw [hget_cons] at hx
    split at hx
    · injection hx with hx
      exact ⟨_, .inl hx.symm, nameless_map nameless_bV t⟩
    · simp [hget] at hx
  rotate_left
  · rintro v K h
    refine ⟨fun b z hz => ?_, _, rfl, h.out.frz.toB⟩
    rw [hget_cons] at hz
    split at hz
    · rename_i e; subst e; rw [← hz]; exact h.txt
    · simp [hget] at hz
  · have hca : ∀ (x : List UInt8) (H : Heap), True → x.length ≤ 20000 → VCall Tryd.prog 139 [roB x, strV [13, 10]] H (fun v K => v = booV (x.contains 13 || x.contains 10) ∧ K = H) := fun x H _ hx => containsAny_call x H (by omega)
    have hv := lvis_all (Q := fun _ => True) (fun _ => trivial) (spH t []).1 [] []
    cases hb : (spH t []).2 with
    | nil => exact parseB_of (Q := fun _ => True) hca t ht hv (by rw [hb]; rfl)
    | cons c r => exact parseA_of (Q := fun _ => True) hca t ht hv _ _ (by rw [hb]; rfl)
end Go.Proofs.YtmmjgbdihgdekaaDoor

/- The law HeaderParses, walked. -/
namespace Go.Proofs.YtmmjgbdihgdekaaDoor
open Go Go.RowKit
set_option linter.unusedSimpArgs false
set_option linter.unusedVariables false
set_option maxRecDepth 100000
set_option maxHeartbeats 16000000
theorem headerParses_nil : VCall Tryd.prog 9 [roB []] ⟨[], 0⟩ (fun v _ => v = .sc (.bool true)) := (VCall.closedO orcC_ok mixed 80 (by simp [nameless_roB]) (by kernel_rfl)).mono fun v K h => h.1
theorem parse1_call (t : List UInt8) (ht : t.length ≤ 20000) : VCall Tryd.prog 43 [.sl 1 0 t.length none 1] ⟨[(1, .cells true (t.map bV)), (0, .cells true [])], 2⟩ (fun v K => v = hresV (hparse t) ∧ K = ⟨[(1, .cells true (t.map bV)), (0, .cells true [])], 2⟩) := by
  refine VCall.at (n1 := 1) (O1 := [(0, .cells true (t.map bV))]) [1] [(1, 0)] rfl ⟨⟨_, rfl, .cells (.of (nameless_map nameless_bV t))⟩, trivial⟩ (.cons (.sl (List.Mem.head _)) .nil) (parseN0_call t ht) ?_
  rintro v K ⟨rfl, rfl⟩
  exact ⟨hresV (hparse t), [(1, .cells true (t.map bV))], ⟨rfl, .of (nameless_hresV _), ⟨⟨_, rfl, .cells (.of (nameless_map nameless_bV t))⟩, trivial⟩⟩, rfl, rfl, rfl⟩
/-- The text is the document's too, if it is a header. -/
theorem headerParses_walk (t : List UInt8) : VCall Tryd.prog 9 [roB t] ⟨[], 0⟩ (fun v _ => v = .sc (.bool true)) := by
  by_cases h0 : t.length = 0
  · obtain rfl : t = [] := List.eq_nil_of_length_eq_zero h0
    exact headerParses_nil
  by_cases hl : t.length ≤ 1500
  · have hp := parse1_call t (by omega)
    have hrp := fun H => rparse_call t (by omega) H
    obtain ⟨hf, hfn⟩ := hgo_flds 10000 t [] [] (by simp; omega) (fun f hf => by cases hf)
    obtain ⟨b, e, e1, e2⟩ := hres_flds (hparse t)
    rw [e1] at hp
    rw [e2] at hrp
    have hfl : (hparse t).flds.length ≤ 2000 := by
      have : (hparse t).flds.length ≤ ([] : List HF).length + t.length + 1 := hfn
      simp only [List.length_nil] at this
      omega
    have hf : ∀ f ∈ (hparse t).flds, f.1.length ≤ 10000 ∧ f.2.length ≤ 10000 := hf
    generalize (hparse t).flds = l at *
    have ha := fun H => allh_call l H
    have hal := fun H => all11_call l (by omega) hf H
    have hsm := fun H => same11_call l l H (by omega)
    rw [show (l == l) = true by simp] at hsm
    have htx := fun H => text_call l hfl hf H
    have hrt := fun H => rtext_call l hfl hf H
    refine VCall.go Tryd.func9 rfl ?_
    repeat' (first | with_reducible refine And.intro ?_ ?_ | ((with_reducible intro hc); (try simp only [zA, zB, zC, zD, zE, zF, zG, zH, zI, zJ, zK, zL, zM, zN, zO, zP, zQ, zR, zS, zT, zU, zV, zW] at hc); (first | (exact absurd rfl hc) | (exact absurd trivial hc) | (exfalso; omega) | skip)) | exact Is.mk rfl rfl | ((conv => whnf); first | with_reducible refine And.intro ?_ ?_ | with_reducible intro hx | exact Is.mk rfl rfl | (with_reducible first | apply Val.via | apply ValH.via) | refine ifB_intro ?_ ?_ | refine xA (by omega) ?_ | ((refine xB ?_); intro kw hk1 hk2) | refine xC (by omega) ?_ | refine xD ?_ | refine xE (by omega) ?_ | refine xF (by omega) ?_ | refine xG ?_ | refine xH ?_ | refine xI (by omega) ?_ | refine xJ (by omega) ?_ | (with_reducible refine stopA ?_) | refine Exists.intro _ (And.intro (by (first | exact vat_of rfl rfl rfl | exact vbytes_map t | exact vbytes_whole t | exact vbytes_map b | exact vbytes_map (txtH l) | rfl)) ?_) | refine GOp.drawn (by rfl) (by rfl) (Nat.le_of_ble_eq_true (by rfl)) (by rfl) | refine GOp.via (by rfl) ?_ | refine GWP.drawY mixed _ (by kernel_rfl) (by rfl) ?_ | (first | (refine GCall.mk ((lives11_call _).mono ?_); rintro _ _ ⟨rfl, rfl⟩)) | (with_reducible first | refine stopO ?_ | refine stopE ?_ | refine stopD ?_ | refine stopW ?_ | refine stopG ?_ | refine stopC ?_ | refine stopR ?_)))
    (all_goals (first | omega | (rw [List.length_map]; done) | (rw [List.length_map]; omega) | skip))
    refine GOp'.via ((vapp_full sty_b (d := .slice 5) Tryd.underlying22 (by intro k h; cases h) (b := 0) (o := 0) (n := 0) (c := 0) (z' := 1) (vs := []) (rw := true) (velems_roB t _) (one_map t) rfl (by omega) (by omega) (by simp) (by omega) (by omega)).trans (by rw [Nat.zero_add])) ?_
    repeat' (first | with_reducible refine And.intro ?_ ?_ | ((with_reducible intro hc); (try simp only [zA, zB, zC, zD, zE, zF, zG, zH, zI, zJ, zK, zL, zM, zN, zO, zP, zQ, zR, zS, zT, zU, zV, zW] at hc); (first | (exact absurd rfl hc) | (exact absurd trivial hc) | (exfalso; omega) | skip)) | exact Is.mk rfl rfl | ((conv => whnf); first | with_reducible refine And.intro ?_ ?_ | with_reducible intro hx | exact Is.mk rfl rfl | (with_reducible first | apply Val.via | apply ValH.via) | refine ifB_intro ?_ ?_ | refine xA (by omega) ?_ | ((refine xB ?_); intro kw hk1 hk2) | refine xC (by omega) ?_ | refine xD ?_ | refine xE (by omega) ?_ | refine xF (by omega) ?_ | refine xG ?_ | refine xH ?_ | refine xI (by omega) ?_ | refine xJ (by omega) ?_ | (with_reducible refine stopA ?_) | refine Exists.intro _ (And.intro (by (first | exact vat_of rfl rfl rfl | exact vbytes_map t | exact vbytes_whole t | exact vbytes_map b | exact vbytes_map (txtH l) | rfl)) ?_) | refine GOp.drawn (by rfl) (by rfl) (Nat.le_of_ble_eq_true (by rfl)) (by rfl) | refine GOp.via (by rfl) ?_ | refine GWP.drawY mixed _ (by kernel_rfl) (by rfl) ?_ | (first | (refine GCall.mk ((hp).mono ?_); rintro _ _ ⟨rfl, rfl⟩) | (refine GCall.mk ((hrp _).mono ?_); rintro _ _ ⟨rfl, rfl⟩)) | (with_reducible first | refine stopO ?_ | refine stopE ?_ | refine stopD ?_ | refine stopW ?_ | refine stopG ?_ | refine stopC ?_ | refine stopR ?_)))
    (all_goals (first | omega | (rw [List.length_map]; done) | (rw [List.length_map]; omega) | skip))
    ((refine GWP'.mk (GWP.loopB [1] (fun (a : List VV × Nat) => a.1.length = t.length ∧ a.2 ≤ t.length ∧ ∀ v ∈ a.1, ∃ z, v = u8V z) (fun a => [(47, iV a.2)]) (fun a => [(1, .cells true a.1)]) 3 (fun a => t.length - a.2) (t.map bV, 0) ⟨by simp, Nat.zero_le _, all_u8 t⟩ ?_); (conv => whnf); refine And.intro ?_ ?_)); (focus (focus (refine KeptA.of [] rfl rfl (by repeat' (first | exact trivial | refine And.intro rfl ?_)) rfl ?_ ?_; all_goals (repeat' (first | exact trivial | (refine And.intro ?_ ?_) | (refine Exists.intro _ (And.intro rfl ?_)) | (refine RenO.opt ?_) | (refine RenO.toOpt ?_) | (refine RenO.cells ?_) | exact RenO.defs | exact RenL.nil | (refine RenL.cons ?_ ?_) | (first | exact RenL.of (nameless_map nameless_bV t) | (with_reducible exact RenV.sc) | exact RenV.gsN | exact RenV.gsZ | exact RenV.gsL (by decide) | exact RenV.slL (by decide) | ((first | refine RenV.gsE (by (first | exact List.Mem.head _ | exact List.Mem.tail _ (List.Mem.head _) | exact List.Mem.tail _ (List.Mem.tail _ (List.Mem.head _)) | (simp; done))) ?_ | refine RenV.eq (scI_eq ?_) (nameless_sc _)); (first | rfl | omega | (simp only [List.length_append, List.length_cons, List.length_nil, List.length_map, List.length_take, List.length_drop] <;> omega) | (simp only <;> omega) | (simp <;> omega))) | exact RenV.undef) | (with_unfolding_all exact (rfl : (_ : VObj) = _))))))); rintro ⟨row, j⟩ ⟨g1, g2, g3⟩; simp only at g1 g2 g3 ⊢; by_cases hjl : j < t.length; (focus ((have hv : ∃ z, row[j]? = some (u8V z) := row_at (by omega) g3); obtain ⟨z, hv⟩ := hv; (repeat' (first | with_reducible refine And.intro ?_ ?_ | ((with_reducible intro hc); (try simp only [zA, zB, zC, zD, zE, zF, zG, zH, zI, zJ, zK, zL, zM, zN, zO, zP, zQ, zR, zS, zT, zU, zV, zW] at hc); (first | (exact absurd rfl hc) | (exact absurd trivial hc) | (exfalso; omega) | skip)) | exact Is.mk rfl rfl | ((conv => whnf); first | with_reducible refine And.intro ?_ ?_ | with_reducible intro hx | exact Is.mk rfl rfl | (with_reducible first | apply Val.via | apply ValH.via) | refine ifB_intro ?_ ?_ | refine xA (by omega) ?_ | ((refine xB ?_); intro kw hk1 hk2) | refine xC (by omega) ?_ | refine xD ?_ | refine xE (by omega) ?_ | refine xF (by omega) ?_ | refine xG ?_ | refine xH ?_ | refine xI (by omega) ?_ | refine xJ (by omega) ?_ | (with_reducible refine stopA ?_) | refine Exists.intro _ (And.intro (by (first | exact vat_of vagg_u8 hv ((Nat.zero_add _).trans (mul1 rfl rfl)) | rfl)) ?_) | refine GOp.drawn (by rfl) (by rfl) (Nat.le_of_ble_eq_true (by rfl)) (by rfl) | refine GOp.via (by rfl) ?_ | refine GWP.drawY mixed _ (by kernel_rfl) (by rfl) ?_ | fail | (with_reducible first | refine stopO ?_ | refine stopE ?_ | refine stopD ?_ | refine stopW ?_ | refine stopG ?_ | refine stopC ?_ | refine stopR ?_)))); (all_goals (first | omega | skip)); (apply GOp'.via); (case h => exact vop_store rfl (vstore_i8 (vs := row) (i := j) rfl ((Nat.zero_add _).trans (mul1 rfl rfl)) (by omega))); (repeat' (first | with_reducible refine And.intro ?_ ?_ | ((with_reducible intro hc); (try simp only [zA, zB, zC, zD, zE, zF, zG, zH, zI, zJ, zK, zL, zM, zN, zO, zP, zQ, zR, zS, zT, zU, zV, zW] at hc); (first | (exact absurd rfl hc) | (exact absurd trivial hc) | (exfalso; omega) | skip)) | ((conv => whnf); first | with_reducible refine And.intro ?_ ?_ | refine ifB_intro ?_ ?_ | refine xA (by omega) ?_ | ((refine xB ?_); intro kw hk1 hk2) | refine xC (by omega) ?_ | refine xD ?_ | refine xE (by omega) ?_ | refine xF (by omega) ?_ | refine xG ?_ | refine xH ?_ | refine xI (by omega) ?_ | refine xJ (by omega) ?_ | (with_reducible refine stopA ?_) | refine Exists.intro _ (And.intro (by rfl) ?_) | refine GOp.via (by rfl) ?_ | (with_reducible first | refine stopO ?_ | refine stopE ?_ | refine stopD ?_ | refine stopW ?_ | refine stopG ?_ | refine stopC ?_ | refine stopR ?_)))); (all_goals (first | omega | skip)); (focus (refine Done'.mk ⟨(row.set j (u8V (bitZ .xor .u8 z 255)), j + 1), ⟨by simpa using g1, by simp only; omega, all_set g3⟩, ?_, KeptA.of [] rfl rfl (by repeat' (first | exact trivial | refine And.intro rfl ?_)) rfl ?_ ?_⟩; (first | omega | (simp only; omega)); all_goals (repeat' (first | exact trivial | (refine And.intro ?_ ?_) | (refine Exists.intro _ (And.intro rfl ?_)) | (refine RenO.opt ?_) | (refine RenO.toOpt ?_) | (refine RenO.cells ?_) | exact RenO.defs | exact RenL.nil | (refine RenL.cons ?_ ?_) | (first | (first | exact RenL.of (u8_nameless (all_set g3)) | exact RenV.eq (scI_eq (by omega)) (nameless_sc _)) | (with_reducible exact RenV.sc) | exact RenV.gsN | exact RenV.gsZ | exact RenV.gsL (by decide) | exact RenV.slL (by decide) | ((first | refine RenV.gsE (by (first | exact List.Mem.head _ | exact List.Mem.tail _ (List.Mem.head _) | exact List.Mem.tail _ (List.Mem.tail _ (List.Mem.head _)) | (simp; done))) ?_ | refine RenV.eq (scI_eq ?_) (nameless_sc _)); (first | rfl | omega | (simp only [List.length_append, List.length_cons, List.length_nil, List.length_map, List.length_take, List.length_drop] <;> omega) | (simp only <;> omega) | (simp <;> omega))) | exact RenV.undef) | (with_unfolding_all exact (rfl : (_ : VObj) = _)))))))); (have hjx : j = t.length := (by omega)); subst hjx
    repeat' (first | with_reducible refine And.intro ?_ ?_ | ((with_reducible intro hc); (try simp only [zA, zB, zC, zD, zE, zF, zG, zH, zI, zJ, zK, zL, zM, zN, zO, zP, zQ, zR, zS, zT, zU, zV, zW] at hc); (first | (exact absurd rfl hc) | (exact absurd trivial hc) | (exfalso; omega) | skip)) | exact Is.mk rfl rfl | ((conv => whnf); first | with_reducible refine And.intro ?_ ?_ | with_reducible intro hx | exact Is.mk rfl rfl | (with_reducible first | apply Val.via | apply ValH.via) | refine ifB_intro ?_ ?_ | refine xA (by omega) ?_ | ((refine xB ?_); intro kw hk1 hk2) | refine xC (by omega) ?_ | refine xD ?_ | refine xE (by omega) ?_ | refine xF (by omega) ?_ | refine xG ?_ | refine xH ?_ | refine xI (by omega) ?_ | refine xJ (by omega) ?_ | (with_reducible refine stopA ?_) | refine Exists.intro _ (And.intro (by (first | exact vat_of rfl rfl rfl | exact vbytes_map t | exact vbytes_whole t | exact vbytes_map b | exact vbytes_map (txtH l) | rfl)) ?_) | refine GOp.drawn (by rfl) (by rfl) (Nat.le_of_ble_eq_true (by rfl)) (by rfl) | refine GOp.via (by rfl) ?_ | refine GWP.drawY mixed _ (by kernel_rfl) (by rfl) ?_ | (first | (refine GCall.mk ((ha _).mono ?_); rintro _ _ ⟨rfl, rfl⟩) | (refine GCall.mk ((hal _).mono ?_); rintro _ _ ⟨rfl, rfl⟩) | (refine GCall.mk ((hsm _).mono ?_); rintro _ _ ⟨rfl, rfl⟩) | (refine GCall.mk ((len_call l _).mono ?_); rintro _ _ ⟨rfl, rfl⟩) | (refine GCall.mk ((htx _).mono ?_); rintro _ _ ⟨rfl, rfl⟩) | (refine GCall.mk ((hrt _).mono ?_); rintro _ _ ⟨rfl, rfl⟩)) | (with_reducible first | refine stopO ?_ | refine stopE ?_ | refine stopD ?_ | refine stopW ?_ | refine stopG ?_ | refine stopC ?_ | refine stopR ?_)))
    (all_goals (first | omega | (rw [List.length_map]; done) | (rw [List.length_map]; omega) | skip))
    all_goals (first | exact Done'.mk rfl | exact Done'.mk (congrArg (fun b => VV.sc (.bool b)) (beq_self_eq_true _)))
  · refine VCall.go Tryd.func9 rfl ?_
    repeat' (first | with_reducible refine And.intro ?_ ?_ | ((with_reducible intro hc); (try simp only [zA, zB, zC, zD, zE, zF, zG, zH, zI, zJ, zK, zL, zM, zN, zO, zP, zQ, zR, zS, zT, zU, zV, zW] at hc); (first | (exact absurd rfl hc) | (exact absurd trivial hc) | (exfalso; omega) | skip)) | exact Is.mk rfl rfl | ((conv => whnf); first | with_reducible refine And.intro ?_ ?_ | with_reducible intro hx | exact Is.mk rfl rfl | (with_reducible first | apply Val.via | apply ValH.via) | refine ifB_intro ?_ ?_ | refine xA (by omega) ?_ | ((refine xB ?_); intro kw hk1 hk2) | refine xC (by omega) ?_ | refine xD ?_ | refine xE (by omega) ?_ | refine xF (by omega) ?_ | refine xG ?_ | refine xH ?_ | refine xI (by omega) ?_ | refine xJ (by omega) ?_ | (with_reducible refine stopA ?_) | refine Exists.intro _ (And.intro (by rfl) ?_) | refine GOp.drawn (by rfl) (by rfl) (Nat.le_of_ble_eq_true (by rfl)) (by rfl) | refine GOp.via (by rfl) ?_ | refine GWP.drawY mixed _ (by kernel_rfl) (by rfl) ?_ | (refine GCall.mk ((lives11_call _).mono ?_); rintro _ _ ⟨rfl, rfl⟩) | (with_reducible first | refine stopO ?_ | refine stopE ?_ | refine stopD ?_ | refine stopW ?_ | refine stopG ?_ | refine stopC ?_ | refine stopR ?_)))
    all_goals (first | omega | exact Done'.mk rfl)
end Go.Proofs.YtmmjgbdihgdekaaDoor

