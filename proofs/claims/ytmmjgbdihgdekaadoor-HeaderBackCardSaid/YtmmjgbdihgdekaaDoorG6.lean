import Derived.Test.YtmmjgbdihgdekaaDoorG5
import Derived.Test.YtmmjgbdihgdekaaDoorE6
import Derived.Test.YtmmjgbdihgdekaaDoorG4
/- Values and Get of a header, and the law's texts, walked. -/
namespace Go.Proofs.YtmmjgbdihgdekaaDoor
open Go Go.RowKit
set_option linter.unusedSimpArgs false
set_option linter.unusedVariables false
set_option maxRecDepth 100000
set_option maxHeartbeats 16000000
/-- A header that nobody writes. -/
def hdrV (l : List HF) : VV := .ag [.ro l.length (rowsF l)]
theorem nameless_hdrV (l : List HF) : Nameless (hdrV l) := nameless_ag (by simp [show Nameless (.ro l.length (rowsF l)) from nameless_ro (rowsF_nameless l)])
theorem twin_call (a b : List UInt8) (ha : a.length ≤ 10000) (hb : b.length ≤ 10000) (H : Heap) : VCall Tryd.prog 101 [.ag [roB a, roB b]] H (fun v K => v = .ag [roB a, roB b] ∧ K = H) := by
  refine VCall.frozen (Q := fun v K => Frz K v (.ag [roB a, roB b])) (by simp [show Nameless (.ag [roB a, roB b]) from nameless_ag (by simp [nameless_roB])]) ?_ (fun v K h => h)
  refine VCall.go Tryd.func101 rfl ?_
  repeat' (first | with_reducible refine And.intro ?_ ?_ | ((with_reducible intro hc); (try simp only [zA, zB, zC, zD, zE, zF, zG, zH, zI, zJ, zK, zL, zM, zN, zO, zP, zQ, zR, zS, zT, zU, zV, zW] at hc); (first | (exact absurd rfl hc) | (exact absurd trivial hc) | (exfalso; omega) | skip)) | exact Is.mk rfl rfl | ((conv => whnf); first | with_reducible refine And.intro ?_ ?_ | with_reducible intro hx | exact Is.mk rfl rfl | (with_reducible first | apply Val.via | apply ValH.via) | refine ifB_intro ?_ ?_ | refine xA (by omega) ?_ | ((refine xB ?_); intro kw hk1 hk2) | refine xC (by omega) ?_ | refine xD ?_ | refine xE (by omega) ?_ | refine xF (by omega) ?_ | refine xG ?_ | refine xH ?_ | refine xI (by omega) ?_ | refine xJ (by omega) ?_ | (with_reducible refine stopA ?_) | refine Exists.intro _ (And.intro (by (first | exact vat_of rfl rfl rfl | rfl)) ?_) | refine GOp.drawn (by rfl) (by rfl) (Nat.le_of_ble_eq_true (by rfl)) (by rfl) | refine GOp.via (by rfl) ?_ | refine GWP.drawY mixed _ (by kernel_rfl) (by rfl) ?_ | (first | (refine GCall.mk ((clone_call a _ (by omega)).mono ?_); rintro _ _ ⟨rfl, rfl⟩) | (refine GCall.mk ((clone_call b _ (by omega)).mono ?_); rintro _ _ ⟨rfl, rfl⟩)) | (with_reducible first | refine stopO ?_ | refine stopE ?_ | refine stopD ?_ | refine stopW ?_ | refine stopG ?_ | refine stopC ?_ | refine stopR ?_)))
  (all_goals (first | omega | skip))
  exact Done'.mk (Frz.eq (show _ = VV.ag [roB a, roB b] from rfl) (nameless_ag (by simp [nameless_roB])))
end Go.Proofs.YtmmjgbdihgdekaaDoor

/- The fields of what Parse hands back. -/
namespace Go.Proofs.YtmmjgbdihgdekaaDoor
open Go Go.RowKit
set_option linter.unusedSimpArgs false
set_option linter.unusedVariables false
/-- The fields that a text has, if it is a header. -/
def HR.flds : HR → List HF
  | .err _ => []
  | .ok l _ => l
theorem hfield_len (p : List UInt8) : (hfield p).1.length ≤ p.length ∧ (hfield p).2.length ≤ p.length := by
  have h := cutB_len p 58
  have h2 := (trimB_sub (cutB p 58).2.1).length_le
  exact ⟨h.1, Nat.le_trans h2 h.2⟩
theorem hgo_flds (n : Nat) : ∀ (t cur : List UInt8) (acc : List HF), cur.length + t.length ≤ n → (∀ f ∈ acc, f.1.length ≤ n ∧ f.2.length ≤ n) → (∀ f ∈ (hgo t cur acc).flds, f.1.length ≤ n ∧ f.2.length ≤ n) ∧ (hgo t cur acc).flds.length ≤ acc.length + t.length + 1
  | [], cur, acc, h, ha => by
    have hs : ∀ f ∈ acc ++ [hfield (trimCR cur)], f.1.length ≤ n ∧ f.2.length ≤ n := fun f hf => by
      rcases List.mem_append.1 hf with hf | hf
      · exact ha f hf
      · rw [List.mem_singleton.1 hf]
        have h1 := hfield_len (trimCR cur)
        have h2 := trimCR_len cur
        simp only [List.length_nil] at h
        omega
    show (∀ f ∈ (hstep cur acc (.ok acc []) (fun a => .ok a [])).flds, _) ∧ (hstep cur acc (.ok acc []) (fun a => .ok a [])).flds.length ≤ _
    unfold hstep
    split
    · exact ⟨ha, by show acc.length ≤ _; omega⟩
    · split
      · exact ⟨hs, by show (acc ++ [hfield (trimCR cur)]).length ≤ _; simp⟩
      · exact ⟨(fun f hf => by cases hf), Nat.zero_le _⟩
  | b :: t, cur, acc, h, ha => by
    have hs : ∀ f ∈ acc ++ [hfield (trimCR cur)], f.1.length ≤ n ∧ f.2.length ≤ n := fun f hf => by
      rcases List.mem_append.1 hf with hf | hf
      · exact ha f hf
      · rw [List.mem_singleton.1 hf]
        have h1 := hfield_len (trimCR cur)
        have h2 := trimCR_len cur
        simp only [List.length_cons] at h
        omega
    show (∀ f ∈ (if b = 10 then hstep cur acc (.ok acc t) (fun a => hgo t [] a) else hgo t (cur ++ [b]) acc).flds, _) ∧ (if b = 10 then hstep cur acc (.ok acc t) (fun a => hgo t [] a) else hgo t (cur ++ [b]) acc).flds.length ≤ _
    by_cases hb : b = 10
    · rw [if_pos hb]
      unfold hstep
      split
      · exact ⟨ha, by show acc.length ≤ _; simp only [List.length_cons]; omega⟩
      · split
        · have ih := hgo_flds n t [] (acc ++ [hfield (trimCR cur)]) (by simp only [List.length_cons, List.length_nil] at h ⊢; omega) hs
          refine ⟨ih.1, ?_⟩
          have := ih.2
          simp only [List.length_append, List.length_cons, List.length_nil] at this ⊢
          omega
        · exact ⟨(fun f hf => by cases hf), Nat.zero_le _⟩
    · rw [if_neg hb]
      have ih := hgo_flds n t (cur ++ [b]) acc (by simp only [List.length_append, List.length_cons, List.length_nil] at h ⊢; omega) ha
      refine ⟨ih.1, ?_⟩
      have := ih.2
      simp only [List.length_cons]
      omega
theorem hres_flds (r : HR) : ∃ b e, hresV r = .tp [hdrV r.flds, roB b, iV e] ∧ rresV r = .tp [.ro r.flds.length (rowsS r.flds), strV b, iV e] := by
  cases r with
  | err e => exact ⟨[], e, rfl, rfl⟩
  | ok l b => exact ⟨b, 0, rfl, rfl⟩
end Go.Proofs.YtmmjgbdihgdekaaDoor

/- Texts of headers: the program's and the document's. -/
namespace Go.Proofs.YtmmjgbdihgdekaaDoor
open Go Go.RowKit
set_option linter.unusedSimpArgs false
set_option linter.unusedVariables false
set_option maxRecDepth 100000
set_option maxHeartbeats 16000000
/-- A field as it stands in a text, and all of them. -/
def txtF (f : HF) : List UInt8 := f.1 ++ [58, 32] ++ f.2 ++ [13, 10]
def txtsF (l : List HF) : List UInt8 := l.flatMap txtF
def txtH (l : List HF) : List UInt8 := txtsF l ++ [13, 10]
theorem txtsF_next {l : List HF} {i : Nat} {f : HF} (h : l[i]? = some f) : txtsF (l.take (i + 1)) = txtsF (l.take i) ++ txtF f := by
  obtain ⟨hi, e⟩ := List.getElem?_eq_some_iff.1 h
  unfold txtsF
  rw [List.take_succ_eq_append_getElem hi, e, List.flatMap_append, List.flatMap_cons, List.flatMap_nil, List.append_nil]
theorem txtsF_len (n : Nat) : ∀ l : List HF, (∀ f ∈ l, f.1.length ≤ n ∧ f.2.length ≤ n) → (txtsF l).length ≤ (2 * n + 4) * l.length
  | [], h => by simp [txtsF]
  | f :: l, h => by
    have ih := txtsF_len n l (fun g hg => h g (List.mem_cons_of_mem _ hg))
    have hf := h f List.mem_cons_self
    show (txtF f ++ txtsF l).length ≤ _
    rw [List.length_append, List.length_cons, Nat.mul_add]
    unfold txtF
    simp only [List.length_append, List.length_cons, List.length_nil]
    omega
theorem txtsF_le {l : List HF} {i : Nat} (hl : l.length ≤ 2000) (h : ∀ f ∈ l, f.1.length ≤ 10000 ∧ f.2.length ≤ 10000) : (txtsF (l.take i)).length ≤ 40008000 := by
  have h1 := txtsF_len 10000 (l.take i) (fun f hf => h f (List.mem_of_mem_take hf))
  have h2 : (l.take i).length ≤ 2000 := by rw [List.length_take]; omega
  have h3 : (2 * 10000 + 4) * (l.take i).length ≤ 20004 * 2000 := Nat.mul_le_mul_left _ h2
  omega
theorem catF (tx a b : List UInt8) : VV.sc (.string (((((⟨tx.toArray⟩ : ByteArray) ++ (⟨a.toArray⟩ : ByteArray)) ++ (⟨#[58, 32]⟩ : ByteArray)) ++ (⟨b.toArray⟩ : ByteArray)) ++ (⟨#[13, 10]⟩ : ByteArray))) = strV (tx ++ txtF (a, b)) := by
  have e1 : (⟨#[58, 32]⟩ : ByteArray) = ⟨([58, 32] : List UInt8).toArray⟩ := rfl
  have e2 : (⟨#[13, 10]⟩ : ByteArray) = ⟨([13, 10] : List UInt8).toArray⟩ := rfl
  rw [e1, e2, app_str, app_str, app_str, app_str]
  unfold txtF strV
  simp
theorem rtext_call (l : List HF) (hl : l.length ≤ 2000) (hf : ∀ f ∈ l, f.1.length ≤ 10000 ∧ f.2.length ≤ 10000) (H : Heap) : VCall Tryd.prog 54 [.ro l.length (rowsS l)] H (fun v K => v = strV (txtH l) ∧ K = H) := by
  refine VCall.pure (by simp [show Nameless (.ro l.length (rowsS l)) from nameless_ro (rowsS_nameless l)]) (nameless_strV _) ?_
  refine VCall.go Tryd.func54 rfl ?_
  repeat' (first | with_reducible refine And.intro ?_ ?_ | ((with_reducible intro hc); (try simp only [zA, zB, zC, zD, zE, zF, zG, zH, zI, zJ, zK, zL, zM, zN, zO, zP, zQ, zR, zS, zT, zU, zV, zW] at hc); (first | (exact absurd rfl hc) | (exact absurd trivial hc) | (exfalso; omega) | skip)) | exact Is.mk rfl rfl | ((conv => whnf); first | with_reducible refine And.intro ?_ ?_ | with_reducible intro hx | exact Is.mk rfl rfl | (with_reducible first | apply Val.via | apply ValH.via) | refine ifB_intro ?_ ?_ | refine xA (by omega) ?_ | ((refine xB ?_); intro kw hk1 hk2) | refine xC (by omega) ?_ | refine xD ?_ | refine xE (by omega) ?_ | refine xF (by omega) ?_ | refine xG ?_ | refine xH ?_ | refine xI (by omega) ?_ | refine xJ (by omega) ?_ | (with_reducible refine stopA ?_) | refine Exists.intro _ (And.intro (by (first | exact vat_of rfl rfl rfl | rfl)) ?_) | refine GOp.drawn (by rfl) (by rfl) (Nat.le_of_ble_eq_true (by rfl)) (by rfl) | refine GOp.via (by rfl) ?_ | refine GWP.drawY mixed _ (by kernel_rfl) (by rfl) ?_ | fail | (with_reducible first | refine stopO ?_ | refine stopE ?_ | refine stopD ?_ | refine stopW ?_ | refine stopG ?_ | refine stopC ?_ | refine stopR ?_)))
  (all_goals (first | omega | skip))
  (refine GWP'.mk (GWP.loopB [] (fun (i : Nat) => i ≤ l.length) (fun i => [(8, iV i), (3, strV (txtsF (l.take i)))]) (fun i => []) 0 (fun i => l.length - i) 0 (Nat.zero_le _) ?_); (conv => whnf); refine And.intro ?_ ?_)
  · focus (refine KeptA.of [] rfl rfl (by repeat' (first | exact trivial | refine And.intro rfl ?_)) rfl ?_ ?_; all_goals (repeat' (first | exact trivial | (refine And.intro ?_ ?_) | (refine Exists.intro _ (And.intro rfl ?_)) | (refine RenO.opt ?_) | (refine RenO.toOpt ?_) | (refine RenO.cells ?_) | exact RenO.defs | exact RenL.nil | (refine RenL.cons ?_ ?_) | (first | exact RenV.eq rfl (nameless_strV _) | (with_reducible exact RenV.sc) | exact RenV.gsN | exact RenV.gsZ | exact RenV.gsL (by decide) | exact RenV.slL (by decide) | ((first | refine RenV.gsE (by (first | exact List.Mem.head _ | exact List.Mem.tail _ (List.Mem.head _) | exact List.Mem.tail _ (List.Mem.tail _ (List.Mem.head _)) | (simp; done))) ?_ | refine RenV.eq (scI_eq ?_) (nameless_sc _)); (first | rfl | omega | (simp only [List.length_append, List.length_cons, List.length_nil, List.length_map, List.length_take, List.length_drop] <;> omega) | (simp only <;> omega) | (simp <;> omega))) | exact RenV.undef) | (with_unfolding_all exact (rfl : (_ : VObj) = _)))))
  rintro i hi
  simp only at hi ⊢
  have hsz := txtsF_le (i := i) hl hf
  by_cases hil : i < l.length
  · obtain ⟨f, hfi⟩ : ∃ f, l[i]? = some f := ⟨l[i], List.getElem?_eq_getElem hil⟩
    have hfl := hf f (List.mem_of_getElem? hfi)
    have hnx := txtsF_next hfi
    generalize txtsF (l.take i) = tx at *
    repeat' (first | with_reducible refine And.intro ?_ ?_ | ((with_reducible intro hc); (try simp only [zA, zB, zC, zD, zE, zF, zG, zH, zI, zJ, zK, zL, zM, zN, zO, zP, zQ, zR, zS, zT, zU, zV, zW] at hc); (first | (exact absurd rfl hc) | (exact absurd trivial hc) | (exfalso; omega) | skip)) | exact Is.mk rfl rfl | ((conv => whnf); first | with_reducible refine And.intro ?_ ?_ | with_reducible intro hx | exact Is.mk rfl rfl | (with_reducible first | apply Val.via | apply ValH.via) | refine ifB_intro ?_ ?_ | refine xA (by omega) ?_ | ((refine xB ?_); intro kw hk1 hk2) | refine xC (by omega) ?_ | refine xD ?_ | refine xE (by omega) ?_ | refine xF (by omega) ?_ | refine xG ?_ | refine xH ?_ | refine xI (by omega) ?_ | refine xJ (by omega) ?_ | (with_reducible refine stopA ?_) | refine Exists.intro _ (And.intro (by (first | exact vat_rowsS hfi rfl | exact vat_rowsF hfi rfl | exact vat_of rfl rfl rfl | rfl)) ?_) | refine GOp.drawn (by rfl) (by rfl) (Nat.le_of_ble_eq_true (by rfl)) (by rfl) | refine GOp.via (by rfl) ?_ | refine GWP.drawY mixed _ (by kernel_rfl) (by rfl) ?_ | fail | (with_reducible first | refine stopO ?_ | refine stopE ?_ | refine stopD ?_ | refine stopW ?_ | refine stopG ?_ | refine stopC ?_ | refine stopR ?_)))
    (all_goals (first | omega | (exfalso; have hmx : IntKind.i64.max = 9223372036854775807 := rfl; rw [hmx] at hx; simp [app_str, str_size, ByteArray.size] at hx; omega) | skip))
    focus (refine Done'.mk ⟨(i + 1), (by omega), ?_, KeptA.of [] rfl rfl (by repeat' (first | exact trivial | refine And.intro rfl ?_)) rfl ?_ ?_⟩; (first | omega | (simp only; omega)); all_goals (repeat' (first | exact trivial | (refine And.intro ?_ ?_) | (refine Exists.intro _ (And.intro rfl ?_)) | (refine RenO.opt ?_) | (refine RenO.toOpt ?_) | (refine RenO.cells ?_) | exact RenO.defs | exact RenL.nil | (refine RenL.cons ?_ ?_) | (first | (first | exact RenV.eq ((catF tx f.1 f.2).trans (congrArg strV hnx.symm)) (nameless_strV _) | exact RenV.eq (scI_eq (by omega)) (nameless_sc _)) | (with_reducible exact RenV.sc) | exact RenV.gsN | exact RenV.gsZ | exact RenV.gsL (by decide) | exact RenV.slL (by decide) | ((first | refine RenV.gsE (by (first | exact List.Mem.head _ | exact List.Mem.tail _ (List.Mem.head _) | exact List.Mem.tail _ (List.Mem.tail _ (List.Mem.head _)) | (simp; done))) ?_ | refine RenV.eq (scI_eq ?_) (nameless_sc _)); (first | rfl | omega | (simp only [List.length_append, List.length_cons, List.length_nil, List.length_map, List.length_take, List.length_drop] <;> omega) | (simp only <;> omega) | (simp <;> omega))) | exact RenV.undef) | (with_unfolding_all exact (rfl : (_ : VObj) = _)))))
  · obtain rfl : i = l.length := by omega
    rw [List.take_length] at *
    generalize hte : txtsF l = tx at *
    repeat' (first | with_reducible refine And.intro ?_ ?_ | ((with_reducible intro hc); (try simp only [zA, zB, zC, zD, zE, zF, zG, zH, zI, zJ, zK, zL, zM, zN, zO, zP, zQ, zR, zS, zT, zU, zV, zW] at hc); (first | (exact absurd rfl hc) | (exact absurd trivial hc) | (exfalso; omega) | skip)) | exact Is.mk rfl rfl | ((conv => whnf); first | with_reducible refine And.intro ?_ ?_ | with_reducible intro hx | exact Is.mk rfl rfl | (with_reducible first | apply Val.via | apply ValH.via) | refine ifB_intro ?_ ?_ | refine xA (by omega) ?_ | ((refine xB ?_); intro kw hk1 hk2) | refine xC (by omega) ?_ | refine xD ?_ | refine xE (by omega) ?_ | refine xF (by omega) ?_ | refine xG ?_ | refine xH ?_ | refine xI (by omega) ?_ | refine xJ (by omega) ?_ | (with_reducible refine stopA ?_) | refine Exists.intro _ (And.intro (by (first | exact vat_of rfl rfl rfl | rfl)) ?_) | refine GOp.drawn (by rfl) (by rfl) (Nat.le_of_ble_eq_true (by rfl)) (by rfl) | refine GOp.via (by rfl) ?_ | refine GWP.drawY mixed _ (by kernel_rfl) (by rfl) ?_ | fail | (with_reducible first | refine stopO ?_ | refine stopE ?_ | refine stopD ?_ | refine stopW ?_ | refine stopG ?_ | refine stopC ?_ | refine stopR ?_)))
    (all_goals (first | omega | (exfalso; have hmx : IntKind.i64.max = 9223372036854775807 := rfl; rw [hmx] at hx; simp [app_str, str_size, ByteArray.size] at hx; omega) | skip))
    refine Done'.mk ?_
    have e2 : (⟨#[13, 10]⟩ : ByteArray) = ⟨([13, 10] : List UInt8).toArray⟩ := rfl
    show VV.sc (.string ((⟨tx.toArray⟩ : ByteArray) ++ (⟨#[13, 10]⟩ : ByteArray))) = _
    rw [e2, app_str]
    unfold txtH strV
    rw [hte]
theorem frz_txt {K : Heap} {b : Nat} {l : List HF} (hg : K.get b = some (.opt ((txtsF l).map bV ++ ([13, 10] : List UInt8).map bV))) : Frz K (.gs b ((txtsF l).length + 2) 1) (roB (txtH l)) := by
  have e : (txtH l).map bV = (txtsF l).map bV ++ ([13, 10] : List UInt8).map bV := by unfold txtH; rw [List.map_append]
  have hl : (txtH l).length = (txtsF l).length + 2 := by unfold txtH; rw [List.length_append]; rfl
  rw [← e] at hg
  have := Frz.gs (K := K) (b := b) (n := (txtH l).length) (z := 1) hg (by simp) (nameless_map nameless_bV _)
  rw [hl] at this
  unfold roB
  rw [hl]
  exact this
/-- Text, as it stands when it ends. -/
def TxtQ (l : List HF) (v : VV) (K : Heap) : Prop := v = .gs 2 ((txtsF l).length + 2) 1 ∧ K.get 2 = some (.opt ((txtsF l).map bV ++ ([13, 10] : List UInt8).map bV))
theorem text0_call (l : List HF) (hl : l.length ≤ 2000) (hf : ∀ f ∈ l, f.1.length ≤ 10000 ∧ f.2.length ≤ 10000) : VCall Tryd.prog 53 [.ag [.ro l.length (rowsF l)]] ⟨[], 0⟩ (TxtQ l) := by
  refine VCall.go Tryd.func53 rfl ?_
  repeat' (first | with_reducible refine And.intro ?_ ?_ | ((with_reducible intro hc); (try simp only [zA, zB, zC, zD, zE, zF, zG, zH, zI, zJ, zK, zL, zM, zN, zO, zP, zQ, zR, zS, zT, zU, zV, zW] at hc); (first | (exact absurd rfl hc) | (exact absurd trivial hc) | (exfalso; omega) | skip)) | exact Is.mk rfl rfl | ((conv => whnf); first | with_reducible refine And.intro ?_ ?_ | with_reducible intro hx | exact Is.mk rfl rfl | (with_reducible first | apply Val.via | apply ValH.via) | refine ifB_intro ?_ ?_ | refine xA (by omega) ?_ | ((refine xB ?_); intro kw hk1 hk2) | refine xC (by omega) ?_ | refine xD ?_ | refine xE (by omega) ?_ | refine xF (by omega) ?_ | refine xG ?_ | refine xH ?_ | refine xI (by omega) ?_ | refine xJ (by omega) ?_ | (with_reducible refine stopA ?_) | refine Exists.intro _ (And.intro (by (first | exact vat_of rfl rfl rfl | rfl)) ?_) | refine GOp.drawn (by rfl) (by rfl) (Nat.le_of_ble_eq_true (by rfl)) (by rfl) | refine GOp.via (by rfl) ?_ | refine GWP.drawY mixed _ (by kernel_rfl) (by rfl) ?_ | fail | (with_reducible first | refine stopO ?_ | refine stopE ?_ | refine stopD ?_ | refine stopW ?_ | refine stopG ?_ | refine stopC ?_ | refine stopR ?_)))
  (all_goals (first | omega | skip))
  (refine GWP'.mk (GWP.loopB [] (fun (i : Nat) => i ≤ l.length) (fun i => [(9, iV i), (3, .gs 1 (txtsF (l.take i)).length 1)]) (fun i => [(1, .opt ((txtsF (l.take i)).map bV))]) 2 (fun i => l.length - i) 0 (Nat.zero_le _) ?_); (conv => whnf); refine And.intro ?_ ?_)
  · focus (refine KeptA.of [] rfl rfl (by repeat' (first | exact trivial | refine And.intro rfl ?_)) rfl ?_ ?_; all_goals (repeat' (first | exact trivial | (refine And.intro ?_ ?_) | (refine Exists.intro _ (And.intro rfl ?_)) | (refine RenO.opt ?_) | (refine RenO.toOpt ?_) | (refine RenO.cells ?_) | exact RenO.defs | exact RenL.nil | (refine RenL.cons ?_ ?_) | (first | fail | (with_reducible exact RenV.sc) | exact RenV.gsN | exact RenV.gsZ | exact RenV.gsL (by decide) | exact RenV.slL (by decide) | ((first | refine RenV.gsE (by (first | exact List.Mem.head _ | exact List.Mem.tail _ (List.Mem.head _) | exact List.Mem.tail _ (List.Mem.tail _ (List.Mem.head _)) | (simp; done))) ?_ | refine RenV.eq (scI_eq ?_) (nameless_sc _)); (first | rfl | omega | (simp only [List.length_append, List.length_cons, List.length_nil, List.length_map, List.length_take, List.length_drop] <;> omega) | (simp only <;> omega) | (simp <;> omega))) | exact RenV.undef) | (with_unfolding_all exact (rfl : (_ : VObj) = _)))))
  rintro i hi
  simp only at hi ⊢
  have hsz := txtsF_le (i := i) hl hf
  by_cases hil : i < l.length
  · obtain ⟨f, hfi⟩ : ∃ f, l[i]? = some f := ⟨l[i], List.getElem?_eq_getElem hil⟩
    have hfl := hf f (List.mem_of_getElem? hfi)
    have hnx := txtsF_next hfi
    have hnl : (txtsF (l.take (i + 1))).length = (txtsF (l.take i)).length + f.1.length + 2 + f.2.length + 2 := by
      rw [hnx]; unfold txtF; simp only [List.length_append, List.length_cons, List.length_nil]; omega
    generalize hte : txtsF (l.take i) = tx at *
    repeat' (first | with_reducible refine And.intro ?_ ?_ | ((with_reducible intro hc); (try simp only [zA, zB, zC, zD, zE, zF, zG, zH, zI, zJ, zK, zL, zM, zN, zO, zP, zQ, zR, zS, zT, zU, zV, zW] at hc); (first | (exact absurd rfl hc) | (exact absurd trivial hc) | (exfalso; omega) | skip)) | exact Is.mk rfl rfl | ((conv => whnf); first | with_reducible refine And.intro ?_ ?_ | with_reducible intro hx | exact Is.mk rfl rfl | (with_reducible first | apply Val.via | apply ValH.via) | refine ifB_intro ?_ ?_ | refine xA (by omega) ?_ | ((refine xB ?_); intro kw hk1 hk2) | refine xC (by omega) ?_ | refine xD ?_ | refine xE (by omega) ?_ | refine xF (by omega) ?_ | refine xG ?_ | refine xH ?_ | refine xI (by omega) ?_ | refine xJ (by omega) ?_ | (with_reducible refine stopA ?_) | refine Exists.intro _ (And.intro (by (first | exact vat_rowsS hfi rfl | exact vat_rowsF hfi rfl | exact vat_of rfl rfl rfl | rfl)) ?_) | refine GOp.drawn (by rfl) (by rfl) (Nat.le_of_ble_eq_true (by rfl)) (by rfl) | refine GOp.via (by rfl) ?_ | refine GWP.drawY mixed _ (by kernel_rfl) (by rfl) ?_ | (first | (refine stopO (GOp'.grow rfl sty_b (d := .slice 5) Tryd.underlying22 (by intro k h; cases h) rfl (velems_roB f.1 _) (one_map f.1) rfl (by simp only [List.length_append, List.length_map, List.length_cons, List.length_nil, Nat.mul_one]; first | done | omega) (by omega) (by omega) ?_)) | (refine stopO (GOp'.grow rfl sty_b (d := .slice 5) Tryd.underlying22 (by intro k h; cases h) rfl (velems_roB f.2 _) (one_map f.2) rfl (by simp only [List.length_append, List.length_map, List.length_cons, List.length_nil, Nat.mul_one]; first | done | omega) (by omega) (by omega) ?_)) | (refine stopO (GOp'.grow rfl sty_b (d := .string) Tryd.underlying9 (by intro k h; cases h) rfl (m := 2) (l := ([58, 32] : List UInt8).map bV) (by rfl) (by rfl) rfl (by simp only [List.length_append, List.length_map, List.length_cons, List.length_nil, Nat.mul_one]; first | done | omega) (by omega) (by omega) ?_)) | (refine stopO (GOp'.grow rfl sty_b (d := .string) Tryd.underlying9 (by intro k h; cases h) rfl (m := 2) (l := ([13, 10] : List UInt8).map bV) (by rfl) (by rfl) rfl (by simp only [List.length_append, List.length_map, List.length_cons, List.length_nil, Nat.mul_one]; first | done | omega) (by omega) (by omega) ?_))) | (with_reducible first | refine stopO ?_ | refine stopE ?_ | refine stopD ?_ | refine stopW ?_ | refine stopG ?_ | refine stopC ?_ | refine stopR ?_)))
    (all_goals (first | omega | skip))
    focus (refine Done'.mk ⟨(i + 1), (by omega), ?_, KeptA.of [(6, 1)] rfl rfl (by repeat' (first | exact trivial | refine And.intro rfl ?_)) rfl ?_ ?_⟩; (first | omega | (simp only; omega)); all_goals (repeat' (first | exact trivial | (refine And.intro ?_ ?_) | (refine Exists.intro _ (And.intro rfl ?_)) | (refine RenO.opt ?_) | (refine RenO.toOpt ?_) | (refine RenO.cells ?_) | exact RenO.defs | exact RenL.nil | (refine RenL.cons ?_ ?_) | (first | (first | exact RenL.eq (by rw [hnx]; unfold txtF; simp) (nameless_map nameless_bV _) | exact RenV.eq (scI_eq (by omega)) (nameless_sc _)) | (with_reducible exact RenV.sc) | exact RenV.gsN | exact RenV.gsZ | exact RenV.gsL (by decide) | exact RenV.slL (by decide) | ((first | refine RenV.gsE (by (first | exact List.Mem.head _ | exact List.Mem.tail _ (List.Mem.head _) | exact List.Mem.tail _ (List.Mem.tail _ (List.Mem.head _)) | (simp; done))) ?_ | refine RenV.eq (scI_eq ?_) (nameless_sc _)); (first | rfl | omega | (simp only [List.length_append, List.length_cons, List.length_nil, List.length_map, List.length_take, List.length_drop] <;> omega) | (simp only <;> omega) | (simp <;> omega))) | exact RenV.undef) | (with_unfolding_all exact (rfl : (_ : VObj) = _)))))
  · obtain rfl : i = l.length := by omega
    rw [List.take_length] at *
    repeat' (first | with_reducible refine And.intro ?_ ?_ | ((with_reducible intro hc); (try simp only [zA, zB, zC, zD, zE, zF, zG, zH, zI, zJ, zK, zL, zM, zN, zO, zP, zQ, zR, zS, zT, zU, zV, zW] at hc); (first | (exact absurd rfl hc) | (exact absurd trivial hc) | (exfalso; omega) | skip)) | exact Is.mk rfl rfl | ((conv => whnf); first | with_reducible refine And.intro ?_ ?_ | with_reducible intro hx | exact Is.mk rfl rfl | (with_reducible first | apply Val.via | apply ValH.via) | refine ifB_intro ?_ ?_ | refine xA (by omega) ?_ | ((refine xB ?_); intro kw hk1 hk2) | refine xC (by omega) ?_ | refine xD ?_ | refine xE (by omega) ?_ | refine xF (by omega) ?_ | refine xG ?_ | refine xH ?_ | refine xI (by omega) ?_ | refine xJ (by omega) ?_ | (with_reducible refine stopA ?_) | refine Exists.intro _ (And.intro (by (first | exact vat_of rfl rfl rfl | rfl)) ?_) | refine GOp.drawn (by rfl) (by rfl) (Nat.le_of_ble_eq_true (by rfl)) (by rfl) | refine GOp.via (by rfl) ?_ | refine GWP.drawY mixed _ (by kernel_rfl) (by rfl) ?_ | (refine stopO (GOp'.grow rfl sty_b (d := .string) Tryd.underlying9 (by intro k h; cases h) rfl (m := 2) (l := ([13, 10] : List UInt8).map bV) (by rfl) (by rfl) rfl (by simp only [List.length_append, List.length_map, List.length_cons, List.length_nil, Nat.mul_one]; first | done | omega) (by omega) (by omega) ?_)) | (with_reducible first | refine stopO ?_ | refine stopE ?_ | refine stopD ?_ | refine stopW ?_ | refine stopG ?_ | refine stopC ?_ | refine stopR ?_)))
    (all_goals (first | omega | skip))
    exact Done'.mk ⟨rfl, rfl⟩
theorem text_call (l : List HF) (hl : l.length ≤ 2000) (hf : ∀ f ∈ l, f.1.length ≤ 10000 ∧ f.2.length ≤ 10000) (H : Heap) : VCall Tryd.prog 53 [.ag [.ro l.length (rowsF l)]] H (fun v K => v = roB (txtH l) ∧ K = H) :=
  VCall.frozen (Q := TxtQ l) (by simp [show Nameless (.ag [.ro l.length (rowsF l)]) from nameless_ag (by simp [show Nameless (.ro l.length (rowsF l)) from nameless_ro (rowsF_nameless l)])]) (text0_call l hl hf) (fun v K h => by
    obtain ⟨rfl, h⟩ := h
    exact frz_txt h)
end Go.Proofs.YtmmjgbdihgdekaaDoor

/- Parse of a named text, all of a header's fields, and the law's comparison of fields, walked. -/
namespace Go.Proofs.YtmmjgbdihgdekaaDoor
open Go Go.RowKit
set_option linter.unusedSimpArgs false
set_option linter.unusedVariables false
set_option maxRecDepth 100000
set_option maxHeartbeats 16000000
/-- The iterator of a header's fields. -/
def allV (l : List HF) : VV := .fn (.func 100) [] [.rp [.ro l.length (rowsF l)] 0]
theorem nameless_allV (l : List HF) : Nameless (allV l) := nameless_fn (by simp) (by
  simp only [List.mem_singleton, forall_eq]
  exact nameless_rp (by simp [show Nameless (.ro l.length (rowsF l)) from nameless_ro (rowsF_nameless l)]))
theorem allh_call (l : List HF) (H : Heap) : VCall Tryd.prog 52 [hdrV l] H (fun v K => v = allV l ∧ K = H) := by
  refine VCall.frozen (Q := fun v K => Frz K v (allV l)) (by simp [nameless_hdrV]) ?_ (fun v K h => h)
  refine VCall.go Tryd.func52 rfl ?_
  repeat' (first | with_reducible refine And.intro ?_ ?_ | ((with_reducible intro hc); (try simp only [zA, zB, zC, zD, zE, zF, zG, zH, zI, zJ, zK, zL, zM, zN, zO, zP, zQ, zR, zS, zT, zU, zV, zW] at hc); (first | (exact absurd rfl hc) | (exact absurd trivial hc) | (exfalso; omega) | skip)) | exact Is.mk rfl rfl | ((conv => whnf); first | with_reducible refine And.intro ?_ ?_ | with_reducible intro hx | exact Is.mk rfl rfl | (with_reducible first | apply Val.via | apply ValH.via) | refine ifB_intro ?_ ?_ | refine xA (by omega) ?_ | ((refine xB ?_); intro kw hk1 hk2) | refine xC (by omega) ?_ | refine xD ?_ | refine xE (by omega) ?_ | refine xF (by omega) ?_ | refine xG ?_ | refine xH ?_ | refine xI (by omega) ?_ | refine xJ (by omega) ?_ | (with_reducible refine stopA ?_) | refine Exists.intro _ (And.intro (by (first | exact vat_of rfl rfl rfl | rfl)) ?_) | refine GOp.drawn (by rfl) (by rfl) (Nat.le_of_ble_eq_true (by rfl)) (by rfl) | refine GOp.via (by rfl) ?_ | refine GWP.drawY mixed _ (by kernel_rfl) (by rfl) ?_ | fail | (with_reducible first | refine stopO ?_ | refine stopE ?_ | refine stopD ?_ | refine stopW ?_ | refine stopG ?_ | refine stopC ?_ | refine stopR ?_)))
  exact Done'.mk (Frz.fn .nil (.cons (Frz.ptr (vs := [.ro l.length (rowsF l)]) rfl (FrzL.of (by simp [show Nameless (.ro l.length (rowsF l)) from nameless_ro (rowsF_nameless l)]))) .nil))
theorem GWP.drawF {P : Program} {r : Option Nat} {id : Nat} {ops : Array Oper} {Q : Exit → VSt → Prop} {s : VSt} (hm : P.follows .mixedOrders = true) (al m n : Nat) (va : VV) (f : Heap → Heap) (hb : (backN 0 ops.toList && nodupN (dstsOf ops.toList) && fitN n ops && tailB ops.toList al m && Nat.blt al m) = true) (hlen : s.tmps.length = n)
    (h : match s with | ⟨ts0, H, md⟩ => forceNL (ancIn ops.toList m [m]) fun an => wdrawE P ops ts0 al m an va H (f H) (fun V H' => tAllE ops.toList V ts0 fun ts => Q .normal ⟨ts, H', md⟩) 0 ops.toList []) : GWP P r (.region id ops true) Q s := by
  obtain ⟨ts0, H, md⟩ := s
  exact GWP.drawE hm al m n va (f H) hb hlen h
theorem restO_nil : ∀ (O : List (Nat × VObj)), restO [] O = O
  | [] => rfl
  | (a, b) :: r => by simp [restO, memN, restO_nil r]
theorem memN_dom {O : List (Nat × VObj)} {b : Nat} (h : memN b (O.map (·.1)) = true) : ∃ x, hget O b = some x := by
  have key : ∀ (O : List (Nat × VObj)), b ∈ O.map (·.1) → ∃ x, hget O b = some x := by
    intro O
    induction O with
    | nil => intro h; simp at h
    | cons p r ih =>
      obtain ⟨k, x⟩ := p
      intro h
      rw [hget_cons]
      split
      · exact ⟨_, rfl⟩
      · rename_i hne
        rcases List.mem_cons.1 h with e | h
        · exact absurd e.symm hne
        · exact ih h
  exact key O (memN_iff.1 h)
/-- A call with plain arguments that hands back something with one block of its own. -/
theorem VCall.newV {P : Program} {f : FuncId} {args : List VV} {u : VV} {o : VObj} (g : Nat → VV) (hu : ∀ b, RenV [(0, b)] 0 u (g b)) (ha : ∀ v ∈ args, Nameless v) (hn : ∀ R, RenO R 0 o o) (hrw : o.rw = true) (h : VCall P f args ⟨[], 0⟩ (fun v K => v = u ∧ K = ⟨[(0, o)], 1⟩)) (H : Heap) :
    VCall P f args H (fun v K => v = g H.next ∧ K = ⟨(H.next, o) :: H.objs, H.next + 1⟩) := by
  refine VCall.live fun hlive => ?_
  refine VCall.at (n1 := 0) (O1 := []) [] [] rfl trivial (RenL.of ha) h ?_
  rintro v K ⟨rfl, rfl⟩
  have e3 : Nat.blt H.next (H.next + 1) = true := blt_iff.2 (by omega)
  have s1 : srcOf [(0, H.next)] 0 H.next = some 0 := by simp only [srcOf0, srcN, Nat.beq_refl]
  refine ⟨g H.next, [(H.next, o)], ⟨?_, hu _, ?_⟩, ?_, rfl, ?_⟩
  · show (wfR 0 (H.next + 1) [(0, H.next)] && nodupB (ksOf [(0, H.next)] 0 [(H.next, o)]) && ((srcN [(0, H.next)] H.next).isSome && true) && (o.rw && true)) = true
    have s1' := (srcOf0 _ _).symm.trans s1
    simp only [ksOf, s1, s1']
    simp only [wfR, srcN, e3, hrw]
    rfl
  · refine ⟨?_, trivial⟩
    show (match srcOf [(0, H.next)] 0 H.next with
      | some a => _
      | none => _)
    rw [s1]
    exact ⟨_, rfl, hn _⟩
  · have k3 : memN H.next ((restO [] H.objs).map (·.1)) = false := by
      cases hc : memN H.next ((restO [] H.objs).map (·.1)) with
      | false => rfl
      | true =>
        rw [restO_nil] at hc
        obtain ⟨x, hx⟩ := memN_dom hc
        have := hlive _ _ hx
        omega
    simp only [List.all_cons, List.all_nil, k3]
    rfl
  · rw [restO_nil]; rfl
theorem twinN0 (y x : List UInt8) (hy : y.length ≤ 10000) (h0 : ¬ x.length = 0) (hx : x.length ≤ 10000) : VCall Tryd.prog 101 [.ag [roB y, roB x]] ⟨[], 0⟩ (fun v K => v = .ag [roB y, .sl 0 0 x.length none 1] ∧ K = ⟨[(0, .cells true (x.map bV))], 1⟩) := by
  refine VCall.outR (Q := fun v K => v = .ag [roB y, .sl 3 0 x.length none 1] ∧ K.get 3 = some (.cells true (x.map bV))) ?_ ?_
  · refine VCall.go Tryd.func101 rfl ?_
    repeat' (first | with_reducible refine And.intro ?_ ?_ | ((with_reducible intro hc); (try simp only [zA, zB, zC, zD, zE, zF, zG, zH, zI, zJ, zK, zL, zM, zN, zO, zP, zQ, zR, zS, zT, zU, zV, zW] at hc); (first | (exact absurd rfl hc) | (exact absurd trivial hc) | (exfalso; omega) | skip)) | exact Is.mk rfl rfl | ((conv => whnf); first | with_reducible refine And.intro ?_ ?_ | with_reducible intro hx | exact Is.mk rfl rfl | (with_reducible first | apply Val.via | apply ValH.via) | refine ifB_intro ?_ ?_ | refine xA (by omega) ?_ | ((refine xB ?_); intro kw hk1 hk2) | refine xC (by omega) ?_ | refine xD ?_ | refine xE (by omega) ?_ | refine xF (by omega) ?_ | refine xG ?_ | refine xH ?_ | refine xI (by omega) ?_ | refine xJ (by omega) ?_ | (with_reducible refine stopA ?_) | refine Exists.intro _ (And.intro (by (first | exact vat_of rfl rfl rfl | rfl)) ?_) | refine GOp.drawn (by rfl) (by rfl) (Nat.le_of_ble_eq_true (by rfl)) (by rfl) | refine GOp.via (by rfl) ?_ | fail | (with_reducible first | refine stopO ?_ | refine stopE ?_ | refine stopD ?_ | refine stopW ?_ | refine stopG ?_ | refine stopC ?_ | refine stopR ?_)))
    (all_goals (first | omega | (rw [List.length_map]; done) | (rw [List.length_map]; omega) | skip))
    refine GWP'.mk (GWP.drawF mixed 5 7 10 (.sl 3 0 x.length none 1) (fun H => ⟨(H.next + 1, .cells true (x.map bV)) :: H.objs, H.next + 2⟩) (by kernel_rfl) (by rfl) ?_)
    repeat' (first | with_reducible refine And.intro ?_ ?_ | ((with_reducible intro hc); (try simp only [zA, zB, zC, zD, zE, zF, zG, zH, zI, zJ, zK, zL, zM, zN, zO, zP, zQ, zR, zS, zT, zU, zV, zW] at hc); (first | (exact absurd rfl hc) | (exact absurd trivial hc) | (exfalso; omega) | skip)) | exact Is.mk rfl rfl | ((conv => whnf); first | with_reducible refine And.intro ?_ ?_ | with_reducible intro hx | exact Is.mk rfl rfl | (with_reducible first | apply Val.via | apply ValH.via) | refine ifB_intro ?_ ?_ | refine xA (by omega) ?_ | ((refine xB ?_); intro kw hk1 hk2) | refine xC (by omega) ?_ | refine xD ?_ | refine xE (by omega) ?_ | refine xF (by omega) ?_ | refine xG ?_ | refine xH ?_ | refine xI (by omega) ?_ | refine xJ (by omega) ?_ | (with_reducible refine stopA ?_) | refine Exists.intro _ (And.intro (by (first | exact vat_of rfl rfl rfl | rfl)) ?_) | refine GOp.drawn (by rfl) (by rfl) (Nat.le_of_ble_eq_true (by rfl)) (by rfl) | refine GOp.via (by rfl) ?_ | refine GWP.drawY mixed _ (by kernel_rfl) (by rfl) ?_ | (first | (refine GCall.mk ((clone_call y _ (by omega)).mono ?_); rintro _ _ ⟨rfl, rfl⟩) | (refine GCall.mk ((clone_own h0 (by omega) _ _).mono ?_); rintro _ _ ⟨rfl, rfl⟩)) | (with_reducible first | refine stopO ?_ | refine stopE ?_ | refine stopD ?_ | refine stopW ?_ | refine stopG ?_ | refine stopC ?_ | refine stopR ?_)))
    (all_goals (first | omega | (rw [List.length_map]; done) | (rw [List.length_map]; omega) | skip))
    exact Done'.mk ⟨rfl, rfl⟩
  · rintro v K ⟨rfl, h1⟩
    exact ⟨.ag [roB y, .sl 0 0 x.length none 1], [(0, .cells true (x.map bV))], 1, [(3, 0)], rfl, .ag (.cons (.of (nameless_roB y)) (.cons (.sl (List.Mem.head _)) .nil)), ⟨⟨_, h1, .cells (.of (nameless_map nameless_bV x))⟩, trivial⟩, rfl, rfl⟩
theorem twinN_call (y x : List UInt8) (hy : y.length ≤ 10000) (h0 : ¬ x.length = 0) (hx : x.length ≤ 10000) (H : Heap) : VCall Tryd.prog 101 [.ag [roB y, roB x]] H (fun v K => v = .ag [roB y, .sl H.next 0 x.length none 1] ∧ K = ⟨(H.next, .cells true (x.map bV)) :: H.objs, H.next + 1⟩) :=
  VCall.newV (fun b => .ag [roB y, .sl b 0 x.length none 1]) (fun b => .ag (.cons (.of (nameless_roB y)) (.cons (.sl (List.Mem.head _)) .nil))) (by simp [show Nameless (.ag [roB y, roB x]) from nameless_ag (by simp [nameless_roB])]) (fun R => .cells (.of (nameless_map nameless_bV x))) rfl (twinN0 y x hy h0 hx) H
theorem frz_rows {K : Heap} {b : Nat} {l : List HF} (hg : K.get b = some (.opt (rowsS l))) : Frz K (.gs b l.length 2) (.ro l.length (rowsS l)) := Frz.gs hg (rowsS_len l) (rowsS_nameless l)
theorem all11_call (l : List HF) (hl : l.length ≤ 10000) (hf : ∀ f ∈ l, f.1.length ≤ 10000 ∧ f.2.length ≤ 10000) (H : Heap) : VCall Tryd.prog 51 [allV l] H (fun v K => v = .ro l.length (rowsS l) ∧ K = H) := by
  refine VCall.frozen (Q := fun v K => Frz K v (.ro l.length (rowsS l))) (by simp [nameless_allV]) ?_ (fun v K h => h)
  refine VCall.go Tryd.func51 rfl ?_
  repeat' (first | with_reducible refine And.intro ?_ ?_ | ((with_reducible intro hc); (try simp only [zA, zB, zC, zD, zE, zF, zG, zH, zI, zJ, zK, zL, zM, zN, zO, zP, zQ, zR, zS, zT, zU, zV, zW] at hc); (first | (exact absurd rfl hc) | (exact absurd trivial hc) | (exfalso; omega) | skip)) | exact Is.mk rfl rfl | ((conv => whnf); first | with_reducible refine And.intro ?_ ?_ | with_reducible intro hx | exact Is.mk rfl rfl | (with_reducible first | apply Val.via | apply ValH.via) | refine ifB_intro ?_ ?_ | refine xA (by omega) ?_ | ((refine xB ?_); intro kw hk1 hk2) | refine xC (by omega) ?_ | refine xD ?_ | refine xE (by omega) ?_ | refine xF (by omega) ?_ | refine xG ?_ | refine xH ?_ | refine xI (by omega) ?_ | refine xJ (by omega) ?_ | (with_reducible refine stopA ?_) | refine Exists.intro _ (And.intro (by (first | exact vat_of rfl rfl rfl | rfl)) ?_) | refine GOp.drawn (by rfl) (by rfl) (Nat.le_of_ble_eq_true (by rfl)) (by rfl) | refine GOp.via (by rfl) ?_ | refine GWP.drawY mixed _ (by kernel_rfl) (by rfl) ?_ | fail | (with_reducible first | refine stopO ?_ | refine stopE ?_ | refine stopD ?_ | refine stopW ?_ | refine stopG ?_ | refine stopC ?_ | refine stopR ?_)))
  (all_goals (first | omega | (rw [List.length_map]; done) | (rw [List.length_map]; omega) | skip))
  refine GWP'.mk (GWP.range0 rfl rfl ?_)
  refine VCall.go Tryd.func100 rfl ?_
  repeat' (first | with_reducible refine And.intro ?_ ?_ | ((with_reducible intro hc); (try simp only [zA, zB, zC, zD, zE, zF, zG, zH, zI, zJ, zK, zL, zM, zN, zO, zP, zQ, zR, zS, zT, zU, zV, zW] at hc); (first | (exact absurd rfl hc) | (exact absurd trivial hc) | (exfalso; omega) | skip)) | exact Is.mk rfl rfl | ((conv => whnf); first | with_reducible refine And.intro ?_ ?_ | with_reducible intro hx | exact Is.mk rfl rfl | (with_reducible first | apply Val.via | apply ValH.via) | refine ifB_intro ?_ ?_ | refine xA (by omega) ?_ | ((refine xB ?_); intro kw hk1 hk2) | refine xC (by omega) ?_ | refine xD ?_ | refine xE (by omega) ?_ | refine xF (by omega) ?_ | refine xG ?_ | refine xH ?_ | refine xI (by omega) ?_ | refine xJ (by omega) ?_ | (with_reducible refine stopA ?_) | refine Exists.intro _ (And.intro (by (first | exact vat_of rfl rfl rfl | rfl)) ?_) | refine GOp.drawn (by rfl) (by rfl) (Nat.le_of_ble_eq_true (by rfl)) (by rfl) | refine GOp.via (by rfl) ?_ | refine GWP.drawY mixed _ (by kernel_rfl) (by rfl) ?_ | fail | (with_reducible first | refine stopO ?_ | refine stopE ?_ | refine stopD ?_ | refine stopW ?_ | refine stopG ?_ | refine stopC ?_ | refine stopR ?_)))
  (all_goals (first | omega | (rw [List.length_map]; done) | (rw [List.length_map]; omega) | skip))
  (refine GWP'.mk (GWP.loopB [0] (fun (s : List HF × Nat) => s.2 ≤ l.length ∧ s.1 = l.take s.2) (fun s => [(8, iV s.2)]) (fun s => [(0, .cells true [.gs 4 s.1.length 2]), (4, .opt (rowsS s.1))]) 5 (fun s => l.length - s.2) ([], 0) ⟨Nat.zero_le _, rfl⟩ ?_); (conv => whnf); refine And.intro ?_ ?_)
  · focus (refine KeptA.of [] rfl rfl (by repeat' (first | exact trivial | refine And.intro rfl ?_)) rfl ?_ ?_; all_goals (repeat' (first | exact trivial | (refine And.intro ?_ ?_) | (refine Exists.intro _ (And.intro rfl ?_)) | (refine RenO.opt ?_) | (refine RenO.toOpt ?_) | (refine RenO.cells ?_) | exact RenO.defs | exact RenL.nil | (refine RenL.cons ?_ ?_) | (first | fail | (with_reducible exact RenV.sc) | exact RenV.gsN | exact RenV.gsZ | exact RenV.gsL (by decide) | exact RenV.slL (by decide) | ((first | refine RenV.gsE (by (first | exact List.Mem.head _ | exact List.Mem.tail _ (List.Mem.head _) | exact List.Mem.tail _ (List.Mem.tail _ (List.Mem.head _)) | (simp; done))) ?_ | refine RenV.eq (scI_eq ?_) (nameless_sc _)); (first | rfl | omega | (simp only [List.length_append, List.length_cons, List.length_nil, List.length_map, List.length_take, List.length_drop] <;> omega) | (simp only <;> omega) | (simp <;> omega))) | exact RenV.undef) | (with_unfolding_all exact (rfl : (_ : VObj) = _)))))
  rintro ⟨done, i⟩ ⟨h1, h3⟩
  simp only at h1 h3 ⊢
  by_cases hil : i < l.length
  · obtain ⟨f, hfi⟩ : ∃ f, l[i]? = some f := ⟨l[i], List.getElem?_eq_getElem hil⟩
    have hfl := hf f (List.mem_of_getElem? hfi)
    have hdn : done.length = i := by rw [h3, List.length_take]; omega
    have hnx : done ++ [f] = l.take (i + 1) := by
      obtain ⟨hi, e⟩ := List.getElem?_eq_some_iff.1 hfi
      rw [List.take_succ_eq_append_getElem hi, e, h3]
    obtain ⟨y, x⟩ := f
    simp only at hfl
    by_cases hx0 : x.length = 0
    · obtain rfl : x = [] := List.eq_nil_of_length_eq_zero hx0
      have htw := fun H => twin_call y [] hfl.1 hfl.2 H
      repeat' (first | with_reducible refine And.intro ?_ ?_ | ((with_reducible intro hc); (try simp only [zA, zB, zC, zD, zE, zF, zG, zH, zI, zJ, zK, zL, zM, zN, zO, zP, zQ, zR, zS, zT, zU, zV, zW] at hc); (first | (exact absurd rfl hc) | (exact absurd trivial hc) | (exfalso; omega) | skip)) | exact Is.mk rfl rfl | ((conv => whnf); first | with_reducible refine And.intro ?_ ?_ | with_reducible intro hx | exact Is.mk rfl rfl | (with_reducible first | apply Val.via | apply ValH.via) | refine ifB_intro ?_ ?_ | refine xA (by omega) ?_ | ((refine xB ?_); intro kw hk1 hk2) | refine xC (by omega) ?_ | refine xD ?_ | refine xE (by omega) ?_ | refine xF (by omega) ?_ | refine xG ?_ | refine xH ?_ | refine xI (by omega) ?_ | refine xJ (by omega) ?_ | (with_reducible refine stopA ?_) | refine Exists.intro _ (And.intro (by (first | exact vat_rowsF hfi rfl | exact vat_of rfl rfl rfl | exact vbytes_map y | exact vbytes_map x | exact vbytes_whole x | rfl)) ?_) | refine GOp.drawn (by rfl) (by rfl) (Nat.le_of_ble_eq_true (by rfl)) (by rfl) | refine GOp.via (by rfl) ?_ | refine GWP.drawY mixed _ (by kernel_rfl) (by rfl) ?_ | (refine GCall.mk ((htw _).mono ?_); rintro _ _ ⟨rfl, rfl⟩) | (with_reducible first | refine stopO ?_ | refine stopE ?_ | refine stopD ?_ | refine stopW ?_ | refine stopG ?_ | refine stopC ?_ | refine stopR ?_)))
      (all_goals (first | omega | (rw [List.length_map]; done) | (rw [List.length_map]; omega) | skip))
      (refine GRound'.mk (VRound.go rfl rfl ?_))
      repeat' (first | with_reducible refine And.intro ?_ ?_ | ((with_reducible intro hc); (try simp only [zA, zB, zC, zD, zE, zF, zG, zH, zI, zJ, zK, zL, zM, zN, zO, zP, zQ, zR, zS, zT, zU, zV, zW] at hc); (first | (exact absurd rfl hc) | (exact absurd trivial hc) | (exfalso; omega) | skip)) | exact Is.mk rfl rfl | ((conv => whnf); first | with_reducible refine And.intro ?_ ?_ | with_reducible intro hx | exact Is.mk rfl rfl | (with_reducible first | apply Val.via | apply ValH.via) | refine ifB_intro ?_ ?_ | refine xA (by omega) ?_ | ((refine xB ?_); intro kw hk1 hk2) | refine xC (by omega) ?_ | refine xD ?_ | refine xE (by omega) ?_ | refine xF (by omega) ?_ | refine xG ?_ | refine xH ?_ | refine xI (by omega) ?_ | refine xJ (by omega) ?_ | (with_reducible refine stopA ?_) | refine Exists.intro _ (And.intro (by (first | exact vat_rowsF hfi rfl | exact vat_of rfl rfl rfl | exact vbytes_map y | exact vbytes_map x | exact vbytes_whole x | rfl)) ?_) | refine GOp.drawn (by rfl) (by rfl) (Nat.le_of_ble_eq_true (by rfl)) (by rfl) | refine GOp.via (by rfl) ?_ | refine GWP.drawY mixed _ (by kernel_rfl) (by rfl) ?_ | (refine stopO (GOp'.grow rfl sty_R (d := .slice 98) Tryd.underlying79 (by intro k h; cases h) rfl (m := 1) (l := [strV y, strV []]) (by rfl) (by rfl) rfl (rowsS_len done) (by omega) (by omega) ?_)) | (with_reducible first | refine stopO ?_ | refine stopE ?_ | refine stopD ?_ | refine stopW ?_ | refine stopG ?_ | refine stopC ?_ | refine stopR ?_)))
      (all_goals (first | omega | (rw [List.length_map]; done) | (rw [List.length_map]; omega) | skip))
      refine GWP'.mk (GWP.rounds1 ?_)
      repeat' (first | with_reducible refine And.intro ?_ ?_ | ((with_reducible intro hc); (try simp only [zA, zB, zC, zD, zE, zF, zG, zH, zI, zJ, zK, zL, zM, zN, zO, zP, zQ, zR, zS, zT, zU, zV, zW] at hc); (first | (exact absurd rfl hc) | (exact absurd trivial hc) | (exfalso; omega) | skip)) | exact Is.mk rfl rfl | ((conv => whnf); first | with_reducible refine And.intro ?_ ?_ | with_reducible intro hx | exact Is.mk rfl rfl | (with_reducible first | apply Val.via | apply ValH.via) | refine ifB_intro ?_ ?_ | refine xA (by omega) ?_ | ((refine xB ?_); intro kw hk1 hk2) | refine xC (by omega) ?_ | refine xD ?_ | refine xE (by omega) ?_ | refine xF (by omega) ?_ | refine xG ?_ | refine xH ?_ | refine xI (by omega) ?_ | refine xJ (by omega) ?_ | (with_reducible refine stopA ?_) | refine Exists.intro _ (And.intro (by (first | exact vat_rowsF hfi rfl | exact vat_of rfl rfl rfl | exact vbytes_map y | exact vbytes_map x | exact vbytes_whole x | rfl)) ?_) | refine GOp.drawn (by rfl) (by rfl) (Nat.le_of_ble_eq_true (by rfl)) (by rfl) | refine GOp.via (by rfl) ?_ | refine GWP.drawY mixed _ (by kernel_rfl) (by rfl) ?_ | fail | (with_reducible first | refine stopO ?_ | refine stopE ?_ | refine stopD ?_ | refine stopW ?_ | refine stopG ?_ | refine stopC ?_ | refine stopR ?_)))
      (all_goals (first | omega | (rw [List.length_map]; done) | (rw [List.length_map]; omega) | skip))
      (focus (refine Done'.mk ⟨(done ++ [(y, [])], i + 1), ⟨by simp only; omega, hnx⟩, ?_, KeptA.of [(8, 4)] rfl rfl (by repeat' (first | exact trivial | refine And.intro rfl ?_)) rfl ?_ ?_⟩; (first | omega | (simp only; omega)); all_goals (repeat' (first | exact trivial | (refine And.intro ?_ ?_) | (refine Exists.intro _ (And.intro rfl ?_)) | (refine RenO.opt ?_) | (refine RenO.toOpt ?_) | (refine RenO.cells ?_) | exact RenO.defs | exact RenL.nil | (refine RenL.cons ?_ ?_) | (first | (first | exact RenL.eq (rowsS_snoc done (y, [])).symm (rowsS_nameless _) | exact RenV.eq (scI_eq (by omega)) (nameless_sc _)) | (with_reducible exact RenV.sc) | exact RenV.gsN | exact RenV.gsZ | exact RenV.gsL (by decide) | exact RenV.slL (by decide) | ((first | refine RenV.gsE (by (first | exact List.Mem.head _ | exact List.Mem.tail _ (List.Mem.head _) | exact List.Mem.tail _ (List.Mem.tail _ (List.Mem.head _)) | (simp; done))) ?_ | refine RenV.eq (scI_eq ?_) (nameless_sc _)); (first | rfl | omega | (simp only [List.length_append, List.length_cons, List.length_nil, List.length_map, List.length_take, List.length_drop] <;> omega) | (simp only <;> omega) | (simp <;> omega))) | exact RenV.undef) | (with_unfolding_all exact (rfl : (_ : VObj) = _))))))
    · have htw := fun H => twinN_call y x hfl.1 hx0 hfl.2 H
      repeat' (first | with_reducible refine And.intro ?_ ?_ | ((with_reducible intro hc); (try simp only [zA, zB, zC, zD, zE, zF, zG, zH, zI, zJ, zK, zL, zM, zN, zO, zP, zQ, zR, zS, zT, zU, zV, zW] at hc); (first | (exact absurd rfl hc) | (exact absurd trivial hc) | (exfalso; omega) | skip)) | exact Is.mk rfl rfl | ((conv => whnf); first | with_reducible refine And.intro ?_ ?_ | with_reducible intro hx | exact Is.mk rfl rfl | (with_reducible first | apply Val.via | apply ValH.via) | refine ifB_intro ?_ ?_ | refine xA (by omega) ?_ | ((refine xB ?_); intro kw hk1 hk2) | refine xC (by omega) ?_ | refine xD ?_ | refine xE (by omega) ?_ | refine xF (by omega) ?_ | refine xG ?_ | refine xH ?_ | refine xI (by omega) ?_ | refine xJ (by omega) ?_ | (with_reducible refine stopA ?_) | refine Exists.intro _ (And.intro (by (first | exact vat_rowsF hfi rfl | exact vat_of rfl rfl rfl | exact vbytes_map y | exact vbytes_map x | exact vbytes_whole x | rfl)) ?_) | refine GOp.drawn (by rfl) (by rfl) (Nat.le_of_ble_eq_true (by rfl)) (by rfl) | refine GOp.via (by rfl) ?_ | refine GWP.drawY mixed _ (by kernel_rfl) (by rfl) ?_ | (refine GCall.mk ((htw _).mono ?_); rintro _ _ ⟨rfl, rfl⟩) | (with_reducible first | refine stopO ?_ | refine stopE ?_ | refine stopD ?_ | refine stopW ?_ | refine stopG ?_ | refine stopC ?_ | refine stopR ?_)))
      (all_goals (first | omega | (rw [List.length_map]; done) | (rw [List.length_map]; omega) | skip))
      (refine GRound'.mk (VRound.go rfl rfl ?_))
      repeat' (first | with_reducible refine And.intro ?_ ?_ | ((with_reducible intro hc); (try simp only [zA, zB, zC, zD, zE, zF, zG, zH, zI, zJ, zK, zL, zM, zN, zO, zP, zQ, zR, zS, zT, zU, zV, zW] at hc); (first | (exact absurd rfl hc) | (exact absurd trivial hc) | (exfalso; omega) | skip)) | exact Is.mk rfl rfl | ((conv => whnf); first | with_reducible refine And.intro ?_ ?_ | with_reducible intro hx | exact Is.mk rfl rfl | (with_reducible first | apply Val.via | apply ValH.via) | refine ifB_intro ?_ ?_ | refine xA (by omega) ?_ | ((refine xB ?_); intro kw hk1 hk2) | refine xC (by omega) ?_ | refine xD ?_ | refine xE (by omega) ?_ | refine xF (by omega) ?_ | refine xG ?_ | refine xH ?_ | refine xI (by omega) ?_ | refine xJ (by omega) ?_ | (with_reducible refine stopA ?_) | refine Exists.intro _ (And.intro (by (first | exact vat_rowsF hfi rfl | exact vat_of rfl rfl rfl | exact vbytes_map y | exact vbytes_map x | exact vbytes_whole x | rfl)) ?_) | refine GOp.drawn (by rfl) (by rfl) (Nat.le_of_ble_eq_true (by rfl)) (by rfl) | refine GOp.via (by rfl) ?_ | refine GWP.drawY mixed _ (by kernel_rfl) (by rfl) ?_ | (refine stopO (GOp'.grow rfl sty_R (d := .slice 98) Tryd.underlying79 (by intro k h; cases h) rfl (m := 1) (l := [strV y, strV x]) (by rfl) (by rfl) rfl (rowsS_len done) (by omega) (by omega) ?_)) | (with_reducible first | refine stopO ?_ | refine stopE ?_ | refine stopD ?_ | refine stopW ?_ | refine stopG ?_ | refine stopC ?_ | refine stopR ?_)))
      (all_goals (first | omega | (rw [List.length_map]; done) | (rw [List.length_map]; omega) | skip))
      ((refine GWP'.mk (GWP.loopB [6] (fun (a : List VV × Nat) => a.1.length = x.length ∧ a.2 ≤ x.length ∧ ∀ v ∈ a.1, ∃ z, v = u8V z) (fun a => [(21, iV a.2)]) (fun a => [(6, .cells true a.1)]) 10 (fun a => x.length - a.2) (x.map bV, 0) ⟨by simp, Nat.zero_le _, all_u8 x⟩ ?_); (conv => whnf); refine And.intro ?_ ?_)); (focus (focus (refine KeptA.of [] rfl rfl (by repeat' (first | exact trivial | refine And.intro rfl ?_)) rfl ?_ ?_; all_goals (repeat' (first | exact trivial | (refine And.intro ?_ ?_) | (refine Exists.intro _ (And.intro rfl ?_)) | (refine RenO.opt ?_) | (refine RenO.toOpt ?_) | (refine RenO.cells ?_) | exact RenO.defs | exact RenL.nil | (refine RenL.cons ?_ ?_) | (first | exact RenL.of (nameless_map nameless_bV x) | (with_reducible exact RenV.sc) | exact RenV.gsN | exact RenV.gsZ | exact RenV.gsL (by decide) | exact RenV.slL (by decide) | ((first | refine RenV.gsE (by (first | exact List.Mem.head _ | exact List.Mem.tail _ (List.Mem.head _) | exact List.Mem.tail _ (List.Mem.tail _ (List.Mem.head _)) | (simp; done))) ?_ | refine RenV.eq (scI_eq ?_) (nameless_sc _)); (first | rfl | omega | (simp only [List.length_append, List.length_cons, List.length_nil, List.length_map, List.length_take, List.length_drop] <;> omega) | (simp only <;> omega) | (simp <;> omega))) | exact RenV.undef) | (with_unfolding_all exact (rfl : (_ : VObj) = _))))))); rintro ⟨row, j⟩ ⟨g1, g2, g3⟩; simp only at g1 g2 g3 ⊢; by_cases hjl : j < x.length; (focus ((have hv : ∃ z, row[j]? = some (u8V z) := row_at (by omega) g3); obtain ⟨z, hv⟩ := hv; (repeat' (first | with_reducible refine And.intro ?_ ?_ | ((with_reducible intro hc); (try simp only [zA, zB, zC, zD, zE, zF, zG, zH, zI, zJ, zK, zL, zM, zN, zO, zP, zQ, zR, zS, zT, zU, zV, zW] at hc); (first | (exact absurd rfl hc) | (exact absurd trivial hc) | (exfalso; omega) | skip)) | exact Is.mk rfl rfl | ((conv => whnf); first | with_reducible refine And.intro ?_ ?_ | with_reducible intro hx | exact Is.mk rfl rfl | (with_reducible first | apply Val.via | apply ValH.via) | refine ifB_intro ?_ ?_ | refine xA (by omega) ?_ | ((refine xB ?_); intro kw hk1 hk2) | refine xC (by omega) ?_ | refine xD ?_ | refine xE (by omega) ?_ | refine xF (by omega) ?_ | refine xG ?_ | refine xH ?_ | refine xI (by omega) ?_ | refine xJ (by omega) ?_ | (with_reducible refine stopA ?_) | refine Exists.intro _ (And.intro (by (first | exact vat_of vagg_u8 hv ((Nat.zero_add _).trans (mul1 rfl rfl)) | rfl)) ?_) | refine GOp.drawn (by rfl) (by rfl) (Nat.le_of_ble_eq_true (by rfl)) (by rfl) | refine GOp.via (by rfl) ?_ | refine GWP.drawY mixed _ (by kernel_rfl) (by rfl) ?_ | fail | (with_reducible first | refine stopO ?_ | refine stopE ?_ | refine stopD ?_ | refine stopW ?_ | refine stopG ?_ | refine stopC ?_ | refine stopR ?_)))); (all_goals (first | omega | skip)); (apply GOp'.via); (case h => exact vop_store rfl (vstore_i8 (vs := row) (i := j) rfl ((Nat.zero_add _).trans (mul1 rfl rfl)) (by omega))); (repeat' (first | with_reducible refine And.intro ?_ ?_ | ((with_reducible intro hc); (try simp only [zA, zB, zC, zD, zE, zF, zG, zH, zI, zJ, zK, zL, zM, zN, zO, zP, zQ, zR, zS, zT, zU, zV, zW] at hc); (first | (exact absurd rfl hc) | (exact absurd trivial hc) | (exfalso; omega) | skip)) | ((conv => whnf); first | with_reducible refine And.intro ?_ ?_ | refine ifB_intro ?_ ?_ | refine xA (by omega) ?_ | ((refine xB ?_); intro kw hk1 hk2) | refine xC (by omega) ?_ | refine xD ?_ | refine xE (by omega) ?_ | refine xF (by omega) ?_ | refine xG ?_ | refine xH ?_ | refine xI (by omega) ?_ | refine xJ (by omega) ?_ | (with_reducible refine stopA ?_) | refine Exists.intro _ (And.intro (by rfl) ?_) | refine GOp.via (by rfl) ?_ | (with_reducible first | refine stopO ?_ | refine stopE ?_ | refine stopD ?_ | refine stopW ?_ | refine stopG ?_ | refine stopC ?_ | refine stopR ?_)))); (all_goals (first | omega | skip)); (focus (refine Done'.mk ⟨(row.set j (u8V (bitZ .xor .u8 z 255)), j + 1), ⟨by simpa using g1, by simp only; omega, all_set g3⟩, ?_, KeptA.of [] rfl rfl (by repeat' (first | exact trivial | refine And.intro rfl ?_)) rfl ?_ ?_⟩; (first | omega | (simp only; omega)); all_goals (repeat' (first | exact trivial | (refine And.intro ?_ ?_) | (refine Exists.intro _ (And.intro rfl ?_)) | (refine RenO.opt ?_) | (refine RenO.toOpt ?_) | (refine RenO.cells ?_) | exact RenO.defs | exact RenL.nil | (refine RenL.cons ?_ ?_) | (first | (first | exact RenL.of (u8_nameless (all_set g3)) | exact RenV.eq (scI_eq (by omega)) (nameless_sc _)) | (with_reducible exact RenV.sc) | exact RenV.gsN | exact RenV.gsZ | exact RenV.gsL (by decide) | exact RenV.slL (by decide) | ((first | refine RenV.gsE (by (first | exact List.Mem.head _ | exact List.Mem.tail _ (List.Mem.head _) | exact List.Mem.tail _ (List.Mem.tail _ (List.Mem.head _)) | (simp; done))) ?_ | refine RenV.eq (scI_eq ?_) (nameless_sc _)); (first | rfl | omega | (simp only [List.length_append, List.length_cons, List.length_nil, List.length_map, List.length_take, List.length_drop] <;> omega) | (simp only <;> omega) | (simp <;> omega))) | exact RenV.undef) | (with_unfolding_all exact (rfl : (_ : VObj) = _)))))))); (have hjx : j = x.length := (by omega)); subst hjx
      repeat' (first | with_reducible refine And.intro ?_ ?_ | ((with_reducible intro hc); (try simp only [zA, zB, zC, zD, zE, zF, zG, zH, zI, zJ, zK, zL, zM, zN, zO, zP, zQ, zR, zS, zT, zU, zV, zW] at hc); (first | (exact absurd rfl hc) | (exact absurd trivial hc) | (exfalso; omega) | skip)) | exact Is.mk rfl rfl | ((conv => whnf); first | with_reducible refine And.intro ?_ ?_ | with_reducible intro hx | exact Is.mk rfl rfl | (with_reducible first | apply Val.via | apply ValH.via) | refine ifB_intro ?_ ?_ | refine xA (by omega) ?_ | ((refine xB ?_); intro kw hk1 hk2) | refine xC (by omega) ?_ | refine xD ?_ | refine xE (by omega) ?_ | refine xF (by omega) ?_ | refine xG ?_ | refine xH ?_ | refine xI (by omega) ?_ | refine xJ (by omega) ?_ | (with_reducible refine stopA ?_) | refine Exists.intro _ (And.intro (by (first | exact vat_rowsF hfi rfl | exact vat_of rfl rfl rfl | exact vbytes_map y | exact vbytes_map x | exact vbytes_whole x | rfl)) ?_) | refine GOp.drawn (by rfl) (by rfl) (Nat.le_of_ble_eq_true (by rfl)) (by rfl) | refine GOp.via (by rfl) ?_ | refine GWP.drawY mixed _ (by kernel_rfl) (by rfl) ?_ | fail | (with_reducible first | refine stopO ?_ | refine stopE ?_ | refine stopD ?_ | refine stopW ?_ | refine stopG ?_ | refine stopC ?_ | refine stopR ?_)))
      (all_goals (first | omega | (rw [List.length_map]; done) | (rw [List.length_map]; omega) | skip))
      (focus (refine Done'.mk ⟨(done ++ [(y, x)], i + 1), ⟨by simp only; omega, hnx⟩, ?_, KeptA.of [(9, 4)] rfl rfl (by repeat' (first | exact trivial | refine And.intro rfl ?_)) rfl ?_ ?_⟩; (first | omega | (simp only; omega)); all_goals (repeat' (first | exact trivial | (refine And.intro ?_ ?_) | (refine Exists.intro _ (And.intro rfl ?_)) | (refine RenO.opt ?_) | (refine RenO.toOpt ?_) | (refine RenO.cells ?_) | exact RenO.defs | exact RenL.nil | (refine RenL.cons ?_ ?_) | (first | (first | exact RenL.eq (rowsS_snoc done (y, x)).symm (rowsS_nameless _) | exact RenV.eq (scI_eq (by omega)) (nameless_sc _)) | (with_reducible exact RenV.sc) | exact RenV.gsN | exact RenV.gsZ | exact RenV.gsL (by decide) | exact RenV.slL (by decide) | ((first | refine RenV.gsE (by (first | exact List.Mem.head _ | exact List.Mem.tail _ (List.Mem.head _) | exact List.Mem.tail _ (List.Mem.tail _ (List.Mem.head _)) | (simp; done))) ?_ | refine RenV.eq (scI_eq ?_) (nameless_sc _)); (first | rfl | omega | (simp only [List.length_append, List.length_cons, List.length_nil, List.length_map, List.length_take, List.length_drop] <;> omega) | (simp only <;> omega) | (simp <;> omega))) | exact RenV.undef) | (with_unfolding_all exact (rfl : (_ : VObj) = _))))))
  · obtain rfl : i = l.length := by omega
    rw [List.take_length] at h3
    subst h3
    repeat' (first | with_reducible refine And.intro ?_ ?_ | ((with_reducible intro hc); (try simp only [zA, zB, zC, zD, zE, zF, zG, zH, zI, zJ, zK, zL, zM, zN, zO, zP, zQ, zR, zS, zT, zU, zV, zW] at hc); (first | (exact absurd rfl hc) | (exact absurd trivial hc) | (exfalso; omega) | skip)) | exact Is.mk rfl rfl | ((conv => whnf); first | with_reducible refine And.intro ?_ ?_ | with_reducible intro hx | exact Is.mk rfl rfl | (with_reducible first | apply Val.via | apply ValH.via) | refine ifB_intro ?_ ?_ | refine xA (by omega) ?_ | ((refine xB ?_); intro kw hk1 hk2) | refine xC (by omega) ?_ | refine xD ?_ | refine xE (by omega) ?_ | refine xF (by omega) ?_ | refine xG ?_ | refine xH ?_ | refine xI (by omega) ?_ | refine xJ (by omega) ?_ | (with_reducible refine stopA ?_) | refine Exists.intro _ (And.intro (by (first | exact vat_of rfl rfl rfl | rfl)) ?_) | refine GOp.drawn (by rfl) (by rfl) (Nat.le_of_ble_eq_true (by rfl)) (by rfl) | refine GOp.via (by rfl) ?_ | refine GWP.drawY mixed _ (by kernel_rfl) (by rfl) ?_ | fail | (with_reducible first | refine stopO ?_ | refine stopE ?_ | refine stopD ?_ | refine stopW ?_ | refine stopG ?_ | refine stopC ?_ | refine stopR ?_)))
    (all_goals (first | omega | (rw [List.length_map]; done) | (rw [List.length_map]; omega) | skip))
    (refine Done'.mk ⟨_, _, _, _, _, _, _, rfl, (by intro h; cases h), ?_⟩)
    repeat' (first | with_reducible refine And.intro ?_ ?_ | ((with_reducible intro hc); (try simp only [zA, zB, zC, zD, zE, zF, zG, zH, zI, zJ, zK, zL, zM, zN, zO, zP, zQ, zR, zS, zT, zU, zV, zW] at hc); (first | (exact absurd rfl hc) | (exact absurd trivial hc) | (exfalso; omega) | skip)) | exact Is.mk rfl rfl | ((conv => whnf); first | with_reducible refine And.intro ?_ ?_ | with_reducible intro hx | exact Is.mk rfl rfl | (with_reducible first | apply Val.via | apply ValH.via) | refine ifB_intro ?_ ?_ | refine xA (by omega) ?_ | ((refine xB ?_); intro kw hk1 hk2) | refine xC (by omega) ?_ | refine xD ?_ | refine xE (by omega) ?_ | refine xF (by omega) ?_ | refine xG ?_ | refine xH ?_ | refine xI (by omega) ?_ | refine xJ (by omega) ?_ | (with_reducible refine stopA ?_) | refine Exists.intro _ (And.intro (by (first | exact vat_of rfl rfl rfl | rfl)) ?_) | refine GOp.drawn (by rfl) (by rfl) (Nat.le_of_ble_eq_true (by rfl)) (by rfl) | refine GOp.via (by rfl) ?_ | refine GWP.drawY mixed _ (by kernel_rfl) (by rfl) ?_ | fail | (with_reducible first | refine stopO ?_ | refine stopE ?_ | refine stopD ?_ | refine stopW ?_ | refine stopG ?_ | refine stopC ?_ | refine stopR ?_)))
    (all_goals (first | omega | (rw [List.length_map]; done) | (rw [List.length_map]; omega) | skip))
    exact Done'.mk (frz_rows rfl)
theorem run_part1 {P : Program} {t : TypeId} {cs : Array Value} {off : Nat} {v : Value} (ht : vagg P t = some false) (hc : cs[off]? = some v) (w : World) : (part t cs off).run P w = .ok v w := by
  simp [part, run_isAgg ht, hc]
theorem eqStr_run {P : Program} {t : TypeId} (hu : P.underlying t = some .string) (a b : ByteArray) (d : Nat) (w : World) : (Op.equalIn (d + 1) t (.string a) (.string b)).run P w = .ok (a == b) w := by
  simp [Op.equalIn, run_underlying hu]
theorem eqF_run (f g : HF) (w : World) : (Op.equal 98 (.agg #[.string ⟨f.1.toArray⟩, .string ⟨f.2.toArray⟩]) (.agg #[.string ⟨g.1.toArray⟩, .string ⟨g.2.toArray⟩])).run Tryd.prog w = .ok (f == g) w := by
  refine (fun d => ?_ : ∀ d : Nat, (Op.equalIn (d + 2) 98 _ _).run Tryd.prog w = .ok _ w) 9998
  have h1 := fun w => run_part1 vagg_str (cs := #[.string ⟨f.1.toArray⟩, .string ⟨f.2.toArray⟩]) (off := 0) rfl w
  have h2 := fun w => run_part1 vagg_str (cs := #[.string ⟨g.1.toArray⟩, .string ⟨g.2.toArray⟩]) (off := 0) rfl w
  have h3 := fun w => run_part1 vagg_str (cs := #[.string ⟨f.1.toArray⟩, .string ⟨f.2.toArray⟩]) (off := 1) rfl w
  have h4 := fun w => run_part1 vagg_str (cs := #[.string ⟨g.1.toArray⟩, .string ⟨g.2.toArray⟩]) (off := 1) rfl w
  have e1 := fun w => eqStr_run (P := Tryd.prog) (t := 9) Tryd.underlying9 ⟨f.1.toArray⟩ ⟨g.1.toArray⟩ d w
  have e2 := fun w => eqStr_run (P := Tryd.prog) (t := 9) Tryd.underlying9 ⟨f.2.toArray⟩ ⟨g.2.toArray⟩ d w
  rw [Op.equalIn]
  simp [run_underlying Tryd.underlying98, h1, h2, h3, h4, e1, e2]
  have hs : ∀ a b : List UInt8, ((⟨a.toArray⟩ : ByteArray) == ⟨b.toArray⟩) = decide (a = b) := fun a b => by
    have : ((⟨a.toArray⟩ : ByteArray) == ⟨b.toArray⟩) = (a.toArray == b.toArray) := rfl
    rw [this, Bool.eq_iff_iff]; simp
  rw [hs, hs]
  obtain ⟨f1, f2⟩ := f
  obtain ⟨g1, g2⟩ := g
  by_cases c1 : f1 = g1 <;> by_cases c2 : f2 = g2 <;> simp [c1, c2]
theorem neqF_op {o : Oper} {ts : List VV} {H : Heap} {K : VV → Heap → Prop} {x y : Operand} {p : TypeId} {f g : HF} (ho : o.op = .binOp .neq 98 x y p) (hx : veval ts x = .ag [strV f.1, strV f.2]) (hy : veval ts y = .ag [strV g.1, strV g.2])
    (k : K (.sc (.bool (!(f == g)))) H) : GOp' Tryd.prog o ts H K :=
  GOp'.eqAg ho (.inr rfl) hx hy rfl rfl (by kernel_rfl) (fun w => eqF_run f g w) k
theorem same11_call (a b : List HF) (H : Heap) (hl : a.length ≤ 1000000) : VCall Tryd.prog 50 [.ro a.length (rowsS a), .ro b.length (rowsS b)] H (fun x K => x = booV (a == b) ∧ K = H) := by
  refine VCall.pure (by simp [show ∀ l, Nameless (.ro l.length (rowsS l)) from fun l => nameless_ro (rowsS_nameless l)]) (nameless_sc _) ?_
  refine VCall.go Tryd.func50 rfl ?_
  repeat' (first | with_reducible refine And.intro ?_ ?_ | ((with_reducible intro hc); (try simp only [zA, zB, zC, zD, zE, zF, zG, zH, zI, zJ, zK, zL, zM, zN, zO, zP, zQ, zR, zS, zT, zU, zV, zW] at hc); (first | (exact absurd rfl hc) | (exact absurd trivial hc) | (exfalso; omega) | skip)) | ((conv => whnf); first | with_reducible refine And.intro ?_ ?_ | refine ifB_intro ?_ ?_ | refine xA (by omega) ?_ | ((refine xB ?_); intro kw hk1 hk2) | refine xC (by omega) ?_ | refine xD ?_ | refine xE (by omega) ?_ | refine xF (by omega) ?_ | refine xG ?_ | refine xH ?_ | refine xI (by omega) ?_ | refine xJ (by omega) ?_ | (with_reducible refine stopA ?_) | refine Exists.intro _ (And.intro (by rfl) ?_) | refine GOp.via (by rfl) ?_ | (with_reducible first | refine stopO ?_ | refine stopE ?_ | refine stopD ?_ | refine stopW ?_ | refine stopG ?_ | refine stopC ?_ | refine stopR ?_)))
  · refine Done'.mk ?_
    have : (a == b) = false := by
      simp only [beq_eq_false_iff_ne, ne_eq]
      intro e
      subst e
      omega
    rw [this]
    rfl
  (refine GWP'.mk (GWP.loopB [] (fun (i : Nat) => i ≤ a.length ∧ (a == b) = (a.drop i == b.drop i)) (fun i => [(13, iV i)]) (fun i => []) 0 (fun i => a.length - i) 0 ⟨Nat.zero_le _, rfl⟩ ?_); (conv => whnf); refine And.intro ?_ ?_)
  · focus (refine KeptA.of [] rfl rfl (by repeat' (first | exact trivial | refine And.intro rfl ?_)) rfl ?_ ?_; all_goals (repeat' (first | exact trivial | (refine And.intro ?_ ?_) | (refine Exists.intro _ (And.intro rfl ?_)) | (refine RenO.opt ?_) | (refine RenO.toOpt ?_) | (refine RenO.cells ?_) | exact RenO.defs | exact RenL.nil | (refine RenL.cons ?_ ?_) | (first | fail | (with_reducible exact RenV.sc) | exact RenV.gsN | exact RenV.gsZ | exact RenV.gsL (by decide) | exact RenV.slL (by decide) | ((first | refine RenV.gsE (by (first | exact List.Mem.head _ | exact List.Mem.tail _ (List.Mem.head _) | exact List.Mem.tail _ (List.Mem.tail _ (List.Mem.head _)) | (simp; done))) ?_ | refine RenV.eq (scI_eq ?_) (nameless_sc _)); (first | rfl | omega | (simp only [List.length_append, List.length_cons, List.length_nil, List.length_map, List.length_take, List.length_drop] <;> omega) | (simp only <;> omega) | (simp <;> omega))) | exact RenV.undef) | (with_unfolding_all exact (rfl : (_ : VObj) = _)))))
  rintro i ⟨h1, h2⟩
  simp only at h1 h2 ⊢
  by_cases hil : i < a.length
  · obtain ⟨x, hx⟩ := list_at hil
    obtain ⟨y, hy⟩ := list_at (l := b) (i := i) (by omega)
    rw [drop_eq hx hy] at h2
    repeat' (first | with_reducible refine And.intro ?_ ?_ | ((with_reducible intro hc); (try simp only [zA, zB, zC, zD, zE, zF, zG, zH, zI, zJ, zK, zL, zM, zN, zO, zP, zQ, zR, zS, zT, zU, zV, zW] at hc); (first | (exact absurd rfl hc) | (exact absurd trivial hc) | (exfalso; omega) | skip)) | exact Is.mk rfl rfl | ((conv => whnf); first | with_reducible refine And.intro ?_ ?_ | with_reducible intro hx | exact Is.mk rfl rfl | (with_reducible first | apply Val.via | apply ValH.via) | refine ifB_intro ?_ ?_ | refine xA (by omega) ?_ | ((refine xB ?_); intro kw hk1 hk2) | refine xC (by omega) ?_ | refine xD ?_ | refine xE (by omega) ?_ | refine xF (by omega) ?_ | refine xG ?_ | refine xH ?_ | refine xI (by omega) ?_ | refine xJ (by omega) ?_ | (with_reducible refine stopA ?_) | refine Exists.intro _ (And.intro (by (first | exact vat_rowsS hx rfl | exact vat_rowsS hy rfl | rfl)) ?_) | refine GOp.drawn (by rfl) (by rfl) (Nat.le_of_ble_eq_true (by rfl)) (by rfl) | refine GOp.via (by rfl) ?_ | refine GWP.drawY mixed _ (by kernel_rfl) (by rfl) ?_ | (refine stopO (neqF_op rfl rfl rfl ?_)) | (with_reducible first | refine stopO ?_ | refine stopE ?_ | refine stopD ?_ | refine stopW ?_ | refine stopG ?_ | refine stopC ?_ | refine stopR ?_)))
    all_goals (first | omega | skip)
    · have hxy : (x == y) = false := by simpa using hc
      refine Done'.mk ?_
      rw [h2, hxy]
      rfl
    · have hxy : (x == y) = true := by simpa using hc
      rw [hxy, Bool.true_and] at h2
      focus (refine Done'.mk ⟨(i + 1), ⟨by omega, h2⟩, ?_, KeptA.of [] rfl rfl (by repeat' (first | exact trivial | refine And.intro rfl ?_)) rfl ?_ ?_⟩; (first | omega | (simp only; omega)); all_goals (repeat' (first | exact trivial | (refine And.intro ?_ ?_) | (refine Exists.intro _ (And.intro rfl ?_)) | (refine RenO.opt ?_) | (refine RenO.toOpt ?_) | (refine RenO.cells ?_) | exact RenO.defs | exact RenL.nil | (refine RenL.cons ?_ ?_) | (first | (exact RenV.eq (scI_eq (by omega)) (nameless_sc _)) | (with_reducible exact RenV.sc) | exact RenV.gsN | exact RenV.gsZ | exact RenV.gsL (by decide) | exact RenV.slL (by decide) | ((first | refine RenV.gsE (by (first | exact List.Mem.head _ | exact List.Mem.tail _ (List.Mem.head _) | exact List.Mem.tail _ (List.Mem.tail _ (List.Mem.head _)) | (simp; done))) ?_ | refine RenV.eq (scI_eq ?_) (nameless_sc _)); (first | rfl | omega | (simp only [List.length_append, List.length_cons, List.length_nil, List.length_map, List.length_take, List.length_drop] <;> omega) | (simp only <;> omega) | (simp <;> omega))) | exact RenV.undef) | (with_unfolding_all exact (rfl : (_ : VObj) = _)))))
  · repeat' (first | with_reducible refine And.intro ?_ ?_ | ((with_reducible intro hc); (try simp only [zA, zB, zC, zD, zE, zF, zG, zH, zI, zJ, zK, zL, zM, zN, zO, zP, zQ, zR, zS, zT, zU, zV, zW] at hc); (first | (exact absurd rfl hc) | (exact absurd trivial hc) | (exfalso; omega) | skip)) | ((conv => whnf); first | with_reducible refine And.intro ?_ ?_ | refine ifB_intro ?_ ?_ | refine xA (by omega) ?_ | ((refine xB ?_); intro kw hk1 hk2) | refine xC (by omega) ?_ | refine xD ?_ | refine xE (by omega) ?_ | refine xF (by omega) ?_ | refine xG ?_ | refine xH ?_ | refine xI (by omega) ?_ | refine xJ (by omega) ?_ | (with_reducible refine stopA ?_) | refine Exists.intro _ (And.intro (by rfl) ?_) | refine GOp.via (by rfl) ?_ | (with_reducible first | refine stopO ?_ | refine stopE ?_ | refine stopD ?_ | refine stopW ?_ | refine stopG ?_ | refine stopC ?_ | refine stopR ?_)))
    all_goals (first | omega | skip)
    refine Done'.mk ?_
    rw [h2, List.drop_eq_nil_of_le (by omega), List.drop_eq_nil_of_le (by omega)]
    rfl
end Go.Proofs.YtmmjgbdihgdekaaDoor

/- How many fields; nothing is named in what Parse hands back. -/
namespace Go.Proofs.YtmmjgbdihgdekaaDoor
open Go Go.RowKit
set_option linter.unusedSimpArgs false
set_option linter.unusedVariables false
set_option maxRecDepth 100000
set_option maxHeartbeats 4000000
theorem len_call (l : List HF) (H : Heap) : VCall Tryd.prog 49 [hdrV l] H (fun v K => v = iV l.length ∧ K = H) := by
  refine VCall.pure (by simp [nameless_hdrV]) (nameless_sc _) ?_
  refine VCall.go Tryd.func49 rfl ?_
  repeat' (first | with_reducible refine And.intro ?_ ?_ | ((with_reducible intro hc); (try simp only [zA, zB, zC, zD, zE, zF, zG, zH, zI, zJ, zK, zL, zM, zN, zO, zP, zQ, zR, zS, zT, zU, zV, zW] at hc); (first | (exact absurd rfl hc) | (exact absurd trivial hc) | (exfalso; omega) | skip)) | exact Is.mk rfl rfl | ((conv => whnf); first | with_reducible refine And.intro ?_ ?_ | with_reducible intro hx | exact Is.mk rfl rfl | (with_reducible first | apply Val.via | apply ValH.via) | refine ifB_intro ?_ ?_ | refine xA (by omega) ?_ | ((refine xB ?_); intro kw hk1 hk2) | refine xC (by omega) ?_ | refine xD ?_ | refine xE (by omega) ?_ | refine xF (by omega) ?_ | refine xG ?_ | refine xH ?_ | refine xI (by omega) ?_ | refine xJ (by omega) ?_ | (with_reducible refine stopA ?_) | refine Exists.intro _ (And.intro (by (first | exact vat_of rfl rfl rfl | rfl)) ?_) | refine GOp.drawn (by rfl) (by rfl) (Nat.le_of_ble_eq_true (by rfl)) (by rfl) | refine GOp.via (by rfl) ?_ | refine GWP.drawY mixed _ (by kernel_rfl) (by rfl) ?_ | fail | (with_reducible first | refine stopO ?_ | refine stopE ?_ | refine stopD ?_ | refine stopW ?_ | refine stopG ?_ | refine stopC ?_ | refine stopR ?_)))
  exact Done'.mk rfl
theorem nameless_hresV : ∀ r, Nameless (hresV r)
  | .err e => nameless_tp (by simp [show Nameless (.ag [.ro 0 []]) from nameless_ag (by simp [show Nameless (.ro 0 []) from nameless_roB []]), show Nameless (.ro 0 []) from nameless_roB [], iV, nameless_sc])
  | .ok l b => nameless_tp (by simp [show Nameless (.ag [fldsV l]) from nameless_ag (by simp [show Nameless (fldsV l) from nameless_ro (rowsF_nameless l)]), nameless_roB, iV, nameless_sc])
end Go.Proofs.YtmmjgbdihgdekaaDoor

