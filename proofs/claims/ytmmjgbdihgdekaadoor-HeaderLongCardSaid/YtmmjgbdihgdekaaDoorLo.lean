import Derived.Test.YtmmjgbdihgdekaaDoorJ4
import Derived.Test.YtmmjgbdihgdekaaDoorCards
import Derived.Test.YtmmjgbdihgdekaaDoorTie
import Derived.Test.YtmmjgbdihgdekaaDoorV5
import Derived.ProofKit
import Derived.OpenShut
import Derived.ShutString
import Derived.ChangeOld
import Derived.Below
import Derived.Lib.SmallJoins
import Derived.Deep.DeepHandedRow
import Derived.Lib.LaidTab
/- Many fields: the plain side, Parse of a slice that is named, the fixed fact. -/
namespace Go.Proofs.YtmmjgbdihgdekaaDoor
open Go Go.RowKit
set_option linter.unusedSimpArgs false
set_option linter.unusedVariables false
set_option maxRecDepth 100000
set_option maxHeartbeats 4000000
def lineF : List UInt8 := [97, 58, 32, 98, 10]
/-- So many lines. -/
def reps : Nat → List UInt8
  | 0 => []
  | k + 1 => lineF ++ reps k
theorem reps_len : ∀ k, (reps k).length = 5 * k
  | 0 => rfl
  | k + 1 => by
    unfold reps
    rw [List.length_append, reps_len k]
    show 5 + 5 * k = _
    omega
theorem reps_snoc : ∀ k, reps k ++ lineF = reps (k + 1)
  | 0 => by simp [reps]
  | k + 1 => by
    show (lineF ++ reps k) ++ lineF = lineF ++ reps (k + 1)
    rw [List.append_assoc, reps_snoc k]
def fldF : HF := ([97], [98])
theorem lineF_trim : trimCR [97, 58, 32, 98] = [97, 58, 32, 98] := by decide
theorem lineF_field : hfield [97, 58, 32, 98] = fldF := by decide
theorem lineF_err (n : Nat) : herr [97, 58, 32, 98] n = if 64 ≤ n then 3 else 0 := by
  unfold herr
  rw [lineF_field, if_pos (by decide)]
  unfold hwrong
  rw [if_neg (by decide)]
theorem lineF_step (acc : List HF) (e : HR) (next : List HF → HR) : hstep [97, 58, 32, 98] acc e next = if 64 ≤ acc.length then .err 3 else next (acc ++ [fldF]) := by
  unfold hstep
  rw [lineF_trim, if_neg (by decide), lineF_err, lineF_field]
  by_cases h : 64 ≤ acc.length
  · rw [if_pos h, if_pos h, if_neg (by decide)]
  · rw [if_neg h, if_neg h, if_pos rfl]
theorem hgo_reps (r : List UInt8) : ∀ (k : Nat) (acc : List HF), acc.length ≤ 64 → hgo (reps k ++ r) [] acc = if acc.length + k ≤ 64 then hgo r [] (acc ++ List.replicate k fldF) else .err 3
  | 0, acc, h => by
    rw [if_pos (by omega)]
    simp [reps]
  | k + 1, acc, h => by
    have e : reps (k + 1) ++ r = [97, 58, 32, 98] ++ 10 :: (reps k ++ r) := by simp [reps, lineF]
    rw [e, hgo_line _ _ _ _ (by decide), List.nil_append, lineF_step]
    by_cases h6 : 64 ≤ acc.length
    · rw [if_pos h6, if_neg (by omega)]
    · rw [if_neg h6, hgo_reps r k (acc ++ [fldF]) (by simp; omega)]
      have e2 : (acc ++ [fldF]).length + k = acc.length + (k + 1) := by simp; omega
      rw [e2, List.append_assoc]
      rfl
theorem hparse_few {n : Nat} (h : n ≤ 64) : hparse (reps n) = .ok (List.replicate n fldF) [] := by
  have := hgo_reps [] n [] (by simp)
  rw [List.append_nil, if_pos (by simpa using h)] at this
  exact this
theorem hparse_many {n : Nat} (r : List UInt8) (h : ¬ n ≤ 64) : hparse (reps n ++ r) = .err 3 := by
  have := hgo_reps r n [] (by simp)
  rw [if_neg (by simpa using h)] at this
  exact this
theorem spH_reps (r : List UInt8) : ∀ k, spH (reps k ++ r) [] = (reps k ++ (spH r []).1, (spH r []).2)
  | 0 => by simp [reps]
  | k + 1 => by
    have e : reps (k + 1) ++ r = [97, 58, 32, 98] ++ 10 :: (reps k ++ r) := by simp [reps, lineF]
    rw [e, spH_line _ _ _ (by decide), if_neg (by decide), spH_reps r k]
    simp [reps, lineF]
theorem lvis_line {Q : List UInt8 → Prop} : ∀ (p r cur : List UInt8) (acc : List HF), 10 ∉ p → (trimCR (cur ++ p) = [] ∨ (Q (hfield (trimCR (cur ++ p))).2 ∧ (herr (trimCR (cur ++ p)) acc.length = 0 → lvis Q r [] (acc ++ [hfield (trimCR (cur ++ p))])))) → lvis Q (p ++ 10 :: r) cur acc
  | [], r, cur, acc, _, h => by
    rw [List.append_nil] at h
    show (if (10 : UInt8) = 10 then _ else _)
    rw [if_pos rfl]
    exact h
  | c :: p, r, cur, acc, hp, h => by
    have hc : ¬ c = 10 := fun e => hp (by rw [e]; exact List.mem_cons_self)
    show (if c = 10 then _ else _)
    rw [if_neg hc]
    refine lvis_line p r (cur ++ [c]) acc (fun hm => hp (List.mem_cons_of_mem _ hm)) ?_
    rw [List.append_assoc]
    exact h
theorem lvis_reps (r : List UInt8) : ∀ (k : Nat) (acc : List HF), acc.length ≤ 64 → (acc.length + k ≤ 64 → lvis (fun x => x = [98]) r [] (acc ++ List.replicate k fldF)) → lvis (fun x => x = [98]) (reps k ++ r) [] acc
  | 0, acc, ha, h => by
    have := h (by omega)
    rw [List.replicate_zero, List.append_nil] at this
    exact this
  | k + 1, acc, ha, h => by
    have e : reps (k + 1) ++ r = [97, 58, 32, 98] ++ 10 :: (reps k ++ r) := by simp [reps, lineF]
    rw [e]
    refine lvis_line _ _ _ _ (by decide) (.inr ?_)
    rw [List.nil_append, lineF_trim, lineF_field, lineF_err]
    refine ⟨rfl, fun he => ?_⟩
    have h6 : ¬ 64 ≤ acc.length := fun h6 => by rw [if_pos h6] at he; cases he
    refine lvis_reps r k (acc ++ [fldF]) (by simp; omega) fun hk => ?_
    have := h (by simp at hk; omega)
    rw [List.append_assoc]
    exact this
theorem Frx.agL {K : Heap} {vs us : List VV} (h : FrxL K vs us) : Frx K (.ag vs) (.ag us) := fun B w Z ρ ρ2 y hr hv => by
  cases hv with
  | @ag _ cs h1 r1 =>
    obtain ⟨cs⟩ := cs
    simp only at h1 r1
    have key : ∀ {vs us : List VV} {cs : List Value}, FrxL K vs us → Pw (VRel w Z ρ) vs cs → Pw (VRel w (fun k => B.heap.size ≤ k ∧ k < w.heap.size) ρ2) us cs := by
      intro vs us cs h
      induction h generalizing cs with
      | nil => intro hp; exact ⟨hp.1, fun i u c hu => by simp at hu⟩
      | @cons v u r s hvu _ ih =>
        intro hp
        match cs, hp with
        | c :: ct, hp =>
          have h0 := hp.2 0 v c rfl rfl
          have ht : Pw (VRel w Z ρ) r ct := ⟨by have := hp.1; simpa using this, fun i u c hu hc => hp.2 (i + 1) u c (by simpa using hu) (by simpa using hc)⟩
          exact Pw.cons (hvu B w Z ρ ρ2 c hr h0) (ih ht)
        | [], hp => have := hp.1; simp at this
    have := key h ⟨h1, r1⟩
    exact .ag this.1 this.2
theorem Frx.junk {K : Heap} {v : VV} : Frx K v .junk := fun B w Z ρ ρ2 y hr hv => .junk
theorem Frx.gsJ {K : Heap} {b n z : Nat} {vs : List VV} (hg : K.get b = some (.opt vs)) (hl : vs.length = n * z) : Frx K (.gs b n z) (.ro n (List.replicate vs.length .junk)) := fun B w Z ρ ρ2 y hr hv => by
  cases hv with
  | gs0 =>
    obtain rfl : vs = [] := List.eq_nil_of_length_eq_zero (by simpa using hl)
    exact .ro0
  | gs hk hcap hzz h0 =>
    have hb2 : (K.set b (.cells true vs)).get b = some (.cells true vs) := by rw [Heap.get_set, if_pos rfl, hg]; rfl
    obtain ⟨ds, g1, g2, g3⟩ := (hr.toCells hg hk).read hb2 hk 0 vs.length (by omega)
    rw [List.drop_zero, List.take_of_length_le (Nat.le_refl _)] at g1
    obtain ⟨k', N', x, q1, q2, q3, q4, q5⟩ := hr.objK hg hk
    have q0 := hk
    rw [q0] at q1; injection q1 with q1; injection q1 with q1 q1'; subst q1
    refine .ro (cs := ds) ⟨(q5 rfl).resolve_right id, hr.lt hg hk⟩ hcap (by rw [List.length_replicate]; exact g1.1) (fun i hi => ?_) (fun i u c2 hu hc2 => ?_)
    · have := g3 i (ds[i]'hi) (List.getElem?_eq_getElem hi)
      rw [add_mk] at this
      rw [this, List.getElem?_eq_getElem hi]
    · obtain rfl : u = .junk := List.eq_of_mem_replicate (List.mem_of_getElem? hu)
      exact .junk
/-- What is known of what Parse hands back, wherever its text stood. -/
def hresJ : HR → VV
  | .err e => .tp [.ag [.ro 0 []], .ro 0 [], iV e]
  | .ok l _ => .tp [.ag [.ro l.length (List.replicate (rowsF l).length .junk)], .junk, iV 0]
theorem HQ.frx : ∀ {r : HR} {v : VV} {K : Heap}, HQ r v K → Frx K v (hresJ r)
  | .err e, v, K, h => by
    have h2 : v = .tp [.ag [.sc (.slice none 0 0)], .sc (.slice none 0 0), iV e] := h
    subst h2
    exact Frx.tp (.cons (Frx.agL (.cons Frx.nil0 .nil)) (.cons Frx.nil0 (.cons (Frx.of (exact_sc _)) .nil)))
  | .ok l body, v, K, h => by
    obtain ⟨b, rfl, hg⟩ := h
    exact Frx.tp (.cons (Frx.agL (.cons (Frx.gsJ hg (rowsF_len l)) .nil)) (.cons Frx.junk (.cons (Frx.of (exact_sc _)) .nil)))
theorem cont98_call (x : List UInt8) (H : Heap) (h : x = [98]) (_ : x.length ≤ 10000) : VCall Tryd.prog 139 [roB x, strV [13, 10]] H (fun v K => v = booV (x.contains 13 || x.contains 10) ∧ K = H) := by
  subst h
  exact VCall.closedO orcC_ok mixed 60 (by simp [nameless_roB, nameless_strV]) (by kernel_rfl)
theorem parseJ_call (t : List UInt8) (ht : t.length ≤ 10000) (hv : lvis (fun x => x = [98]) (spH t []).1 [] []) {H : Heap} {v : VV} (hw : View H v (roB t)) : VCall Tryd.prog 43 [v] H (fun x K => x = hresJ (hparse t) ∧ K = H) :=
  VCall.viewed (args' := [roB t]) (Q := fun v K => HK (hparse t) v K) (.cons hw .nil) (parse0_of cont98_call t ht hv) (fun v K h => h.out.frx)
theorem lives11_run : isV (vcallO orcC Tryd.prog (vcodeO orcC Tryd.prog 80) 42 [] ⟨[], 0⟩) (.sc (.bool true)) = true := by kernel_rfl
theorem lives11_call (H : Heap) : VCall Tryd.prog 42 [] H (fun x K => x = .sc (.bool true) ∧ K = H) := VCall.closedO orcC_ok mixed 80 (by simp) lives11_run
end Go.Proofs.YtmmjgbdihgdekaaDoor

/- The law HeaderLong, walked. -/
namespace Go.Proofs.YtmmjgbdihgdekaaDoor
open Go Go.RowKit
set_option linter.unusedSimpArgs false
set_option linter.unusedVariables false
set_option maxRecDepth 100000
set_option maxHeartbeats 4000000
theorem view_gsT {H : Heap} {b n : Nat} {vs : List VV} {d : List UInt8} (hg : H.get b = some (.opt vs)) (hv : vs = d.map bV) (hn : n = d.length) : View H (.gs b n 1) (roB d) := by
  subst hv hn
  exact view_gsB hg
theorem eqZ_selfH (z : Int) : eqZ z z = true := by rw [eqZ_eq]; simp
theorem headerLong_walk (n0 : Int) (h0 : -9223372036854775808 ≤ n0 ∧ n0 ≤ 9223372036854775807) (tail : List UInt8) : VCall Tryd.prog 8 [iV n0, roB tail] ⟨[], 0⟩ (fun x _ => x = .sc (.bool true)) := by
  obtain ⟨np, hnp⟩ : ∃ np : Nat, ((np : Int)) = n0 % 18446744073709551616 % 70 := ⟨(n0 % 18446744073709551616 % 70).toNat, by omega⟩
  have hp1 : np < 70 := by omega
  refine VCall.go Tryd.func8 rfl ?_
  by_cases ht : tail.length ≤ 100
  · repeat' (first | with_reducible refine And.intro ?_ ?_ | ((with_reducible intro hc); (try simp only [zA, zB, zC, zD, zE, zF, zG, zH, zI, zJ, zK, zL, zM, zN, zO, zP, zQ, zR, zS, zT, zU, zV, zW] at hc); (first | (exact absurd rfl hc) | (exact absurd trivial hc) | (exfalso; omega) | skip)) | exact Is.mk rfl rfl | ((conv => whnf); first | with_reducible refine And.intro ?_ ?_ | with_reducible intro hx | exact Is.mk rfl rfl | (with_reducible first | apply Val.via | apply ValH.via) | refine ifB_intro ?_ ?_ | refine xA (by omega) ?_ | ((refine xB ?_); intro kw hk1 hk2) | refine xC (by omega) ?_ | refine xD ?_ | refine xE (by omega) ?_ | refine xF (by omega) ?_ | refine xG ?_ | refine xH ?_ | refine xI (by omega) ?_ | refine xJ (by omega) ?_ | (with_reducible refine stopA ?_) | refine Exists.intro _ (And.intro (by rfl) ?_) | refine GOp.drawn (by rfl) (by rfl) (Nat.le_of_ble_eq_true (by rfl)) (by rfl) | refine GOp.via (by rfl) ?_ | refine GWP.drawY mixed _ (by kernel_rfl) (by rfl) ?_ | (refine GCall.mk ((lives11_call _).mono ?_); rintro _ _ ⟨rfl, rfl⟩) | (with_reducible first | refine stopO ?_ | refine stopE ?_ | refine stopD ?_ | refine stopW ?_ | refine stopG ?_ | refine stopC ?_ | refine stopR ?_)))
    (all_goals (first | omega | skip))
    rw [← hnp]
    clear hnp h0
    (refine GWP'.mk (GWP.loopB [] (fun (k : Nat) => k ≤ np) (fun k => [(5, .gs 0 (reps k).length 1), (25, iV k)]) (fun k => [(0, .opt ((reps k).map bV))]) 1 (fun k => np - k) 0 (Nat.zero_le _) ?_); (conv => whnf); refine And.intro ?_ ?_)
    · focus (refine KeptA.of [] rfl rfl (by repeat' (first | exact trivial | refine And.intro rfl ?_)) rfl ?_ ?_; all_goals (repeat' (first | exact trivial | (refine And.intro ?_ ?_) | (refine Exists.intro _ (And.intro rfl ?_)) | (refine RenO.opt ?_) | (refine RenO.toOpt ?_) | (refine RenO.cells ?_) | exact RenO.defs | exact RenL.nil | (refine RenL.cons ?_ ?_) | (first | fail | (with_reducible exact RenV.sc) | exact RenV.gsN | exact RenV.gsZ | exact RenV.gsL (by decide) | exact RenV.slL (by decide) | ((first | refine RenV.gsE (by (first | exact List.Mem.head _ | exact List.Mem.tail _ (List.Mem.head _) | exact List.Mem.tail _ (List.Mem.tail _ (List.Mem.head _)) | (simp; done))) ?_ | refine RenV.eq (scI_eq ?_) (nameless_sc _)); (first | rfl | omega | (simp only [List.length_append, List.length_cons, List.length_nil, List.length_map, List.length_take, List.length_drop] <;> omega) | (simp only <;> omega) | (simp <;> omega))) | exact RenV.undef) | (with_unfolding_all exact (rfl : (_ : VObj) = _)))))
    rintro k hk
    simp only at hk ⊢
    by_cases hkl : k < np
    · have hl1 := reps_len k
      have hl2 := reps_len (k + 1)
      have hsn := reps_snoc k
      repeat' (first | with_reducible refine And.intro ?_ ?_ | ((with_reducible intro hc); (try simp only [zA, zB, zC, zD, zE, zF, zG, zH, zI, zJ, zK, zL, zM, zN, zO, zP, zQ, zR, zS, zT, zU, zV, zW] at hc); (first | (exact absurd rfl hc) | (exact absurd trivial hc) | (exfalso; omega) | skip)) | exact Is.mk rfl rfl | ((conv => whnf); first | with_reducible refine And.intro ?_ ?_ | with_reducible intro hx | exact Is.mk rfl rfl | (with_reducible first | apply Val.via | apply ValH.via) | refine ifB_intro ?_ ?_ | refine xA (by omega) ?_ | ((refine xB ?_); intro kw hk1 hk2) | refine xC (by omega) ?_ | refine xD ?_ | refine xE (by omega) ?_ | refine xF (by omega) ?_ | refine xG ?_ | refine xH ?_ | refine xI (by omega) ?_ | refine xJ (by omega) ?_ | (with_reducible refine stopA ?_) | refine Exists.intro _ (And.intro (by (first | exact vat_of rfl rfl rfl | rfl)) ?_) | refine GOp.drawn (by rfl) (by rfl) (Nat.le_of_ble_eq_true (by rfl)) (by rfl) | refine GOp.via (by rfl) ?_ | refine GWP.drawY mixed _ (by kernel_rfl) (by rfl) ?_ | (refine stopO (GOp'.grow rfl sty_b (d := .string) Tryd.underlying9 (by intro k h; cases h) rfl (m := 5) (l := lineF.map bV) (by rfl) (by rfl) rfl (by simp) (by omega) (by omega) ?_)) | (with_reducible first | refine stopO ?_ | refine stopE ?_ | refine stopD ?_ | refine stopW ?_ | refine stopG ?_ | refine stopC ?_ | refine stopR ?_)))
      (all_goals (first | omega | skip))
      focus (refine Done'.mk ⟨(k + 1), (by omega), ?_, KeptA.of [(1, 0)] rfl rfl (by repeat' (first | exact trivial | refine And.intro rfl ?_)) rfl ?_ ?_⟩; (first | omega | (simp only; omega)); all_goals (repeat' (first | exact trivial | (refine And.intro ?_ ?_) | (refine Exists.intro _ (And.intro rfl ?_)) | (refine RenO.opt ?_) | (refine RenO.toOpt ?_) | (refine RenO.cells ?_) | exact RenO.defs | exact RenL.nil | (refine RenL.cons ?_ ?_) | (first | (exact RenL.eq (by rw [← hsn, List.map_append]) (nameless_map nameless_bV _)) | (with_reducible exact RenV.sc) | exact RenV.gsN | exact RenV.gsZ | exact RenV.gsL (by decide) | exact RenV.slL (by decide) | ((first | refine RenV.gsE (by (first | exact List.Mem.head _ | exact List.Mem.tail _ (List.Mem.head _) | exact List.Mem.tail _ (List.Mem.tail _ (List.Mem.head _)) | (simp; done))) ?_ | refine RenV.eq (scI_eq ?_) (nameless_sc _)); (first | rfl | omega | (simp only [List.length_append, List.length_cons, List.length_nil, List.length_map, List.length_take, List.length_drop] <;> omega) | (simp only <;> omega) | (simp <;> omega))) | exact RenV.undef) | (with_unfolding_all exact (rfl : (_ : VObj) = _)))))
    · have hke : k = np := by omega
      subst hke
      have hl1 := reps_len k
      by_cases h64 : k ≤ 64
      · have hpj := fun (H : Heap) (v : VV) (hw : View H v (roB (reps k))) => parseJ_call (reps k) (by omega) (by
          have := lvis_reps [] k [] (by simp) (fun _ => .inl rfl)
          have e := spH_reps [] k
          rw [List.append_nil] at this e
          rw [e]
          show lvis _ (reps k ++ []) [] []
          rw [List.append_nil]
          exact this) hw
        rw [hparse_few h64] at hpj
        have e64 : hresJ (.ok (List.replicate k fldF) []) = .tp [.ag [.ro k (List.replicate (rowsF (List.replicate k fldF)).length .junk)], .junk, iV 0] := by
          show VV.tp [.ag [.ro (List.replicate k fldF).length _], .junk, iV 0] = _
          rw [List.length_replicate]
        rw [e64] at hpj
        generalize List.replicate (rowsF (List.replicate k fldF)).length VV.junk = js at *
        repeat' (first | with_reducible refine And.intro ?_ ?_ | ((with_reducible intro hc); (try simp only [zA, zB, zC, zD, zE, zF, zG, zH, zI, zJ, zK, zL, zM, zN, zO, zP, zQ, zR, zS, zT, zU, zV, zW] at hc); (first | (exact absurd rfl hc) | (exact absurd trivial hc) | (exfalso; omega) | skip)) | exact Is.mk rfl rfl | ((conv => whnf); first | with_reducible refine And.intro ?_ ?_ | with_reducible intro hx | exact Is.mk rfl rfl | (with_reducible first | apply Val.via | apply ValH.via) | refine ifB_intro ?_ ?_ | refine xA (by omega) ?_ | ((refine xB ?_); intro kw hk1 hk2) | refine xC (by omega) ?_ | refine xD ?_ | refine xE (by omega) ?_ | refine xF (by omega) ?_ | refine xG ?_ | refine xH ?_ | refine xI (by omega) ?_ | refine xJ (by omega) ?_ | (with_reducible refine stopA ?_) | refine Exists.intro _ (And.intro (by (first | exact vat_of rfl rfl rfl | rfl)) ?_) | refine GOp.drawn (by rfl) (by rfl) (Nat.le_of_ble_eq_true (by rfl)) (by rfl) | refine GOp.via (by rfl) ?_ | refine GWP.drawY mixed _ (by kernel_rfl) (by rfl) ?_ | fail | (with_reducible first | refine stopO ?_ | refine stopE ?_ | refine stopD ?_ | refine stopW ?_ | refine stopG ?_ | refine stopC ?_ | refine stopR ?_)))
        (all_goals (first | omega | skip))
        refine GCall'.mk ((hpj _ _ (view_gsT rfl rfl rfl)).mono ?_)
        rintro _ _ ⟨rfl, rfl⟩
        repeat' (first | with_reducible refine And.intro ?_ ?_ | ((with_reducible intro hc); (try simp only [zA, zB, zC, zD, zE, zF, zG, zH, zI, zJ, zK, zL, zM, zN, zO, zP, zQ, zR, zS, zT, zU, zV, zW] at hc); (first | (exact absurd rfl hc) | (exact absurd trivial hc) | (exfalso; omega) | skip)) | exact Is.mk rfl rfl | ((conv => whnf); first | with_reducible refine And.intro ?_ ?_ | with_reducible intro hx | exact Is.mk rfl rfl | (with_reducible first | apply Val.via | apply ValH.via) | refine ifB_intro ?_ ?_ | refine xA (by omega) ?_ | ((refine xB ?_); intro kw hk1 hk2) | refine xC (by omega) ?_ | refine xD ?_ | refine xE (by omega) ?_ | refine xF (by omega) ?_ | refine xG ?_ | refine xH ?_ | refine xI (by omega) ?_ | refine xJ (by omega) ?_ | (with_reducible refine stopA ?_) | refine Exists.intro _ (And.intro (by (first | exact vat_of rfl rfl rfl | rfl)) ?_) | refine GOp.drawn (by rfl) (by rfl) (Nat.le_of_ble_eq_true (by rfl)) (by rfl) | refine GOp.via (by rfl) ?_ | refine GWP.drawY mixed _ (by kernel_rfl) (by rfl) ?_ | (refine GCall.mk (VCall.inl Tryd.func49 rfl ?_)) | (with_reducible first | refine stopO ?_ | refine stopE ?_ | refine stopD ?_ | refine stopW ?_ | refine stopG ?_ | refine stopC ?_ | refine stopR ?_)))
        (all_goals (first | omega | skip))
        exact Done'.mk (congrArg (fun b => VV.sc (.bool b)) (eqZ_selfH _))
      · have hpj := fun (H : Heap) (v : VV) (hw : View H v (roB (reps k))) => parseJ_call (reps k) (by omega) (by
          have := lvis_reps [] k [] (by simp) (fun _ => .inl rfl)
          have e := spH_reps [] k
          rw [List.append_nil] at this e
          rw [e]
          show lvis _ (reps k ++ []) [] []
          rw [List.append_nil]
          exact this) hw
        have e0 := hparse_many [] h64
        rw [List.append_nil] at e0
        rw [e0] at hpj
        have hpt := fun (H : Heap) (v : VV) (hw : View H v (roB (reps k ++ tail))) => parseJ_call (reps k ++ tail) (by rw [List.length_append]; omega) (by
          rw [spH_reps tail k]
          exact lvis_reps _ k [] (by simp) (fun h => absurd h (by simp; omega))) hw
        rw [hparse_many tail h64] at hpt
        repeat' (first | with_reducible refine And.intro ?_ ?_ | ((with_reducible intro hc); (try simp only [zA, zB, zC, zD, zE, zF, zG, zH, zI, zJ, zK, zL, zM, zN, zO, zP, zQ, zR, zS, zT, zU, zV, zW] at hc); (first | (exact absurd rfl hc) | (exact absurd trivial hc) | (exfalso; omega) | skip)) | exact Is.mk rfl rfl | ((conv => whnf); first | with_reducible refine And.intro ?_ ?_ | with_reducible intro hx | exact Is.mk rfl rfl | (with_reducible first | apply Val.via | apply ValH.via) | refine ifB_intro ?_ ?_ | refine xA (by omega) ?_ | ((refine xB ?_); intro kw hk1 hk2) | refine xC (by omega) ?_ | refine xD ?_ | refine xE (by omega) ?_ | refine xF (by omega) ?_ | refine xG ?_ | refine xH ?_ | refine xI (by omega) ?_ | refine xJ (by omega) ?_ | (with_reducible refine stopA ?_) | refine Exists.intro _ (And.intro (by (first | exact vat_of rfl rfl rfl | rfl)) ?_) | refine GOp.drawn (by rfl) (by rfl) (Nat.le_of_ble_eq_true (by rfl)) (by rfl) | refine GOp.via (by rfl) ?_ | refine GWP.drawY mixed _ (by kernel_rfl) (by rfl) ?_ | fail | (with_reducible first | refine stopO ?_ | refine stopE ?_ | refine stopD ?_ | refine stopW ?_ | refine stopG ?_ | refine stopC ?_ | refine stopR ?_)))
        (all_goals (first | omega | skip))
        refine GCall'.mk ((hpj _ _ (view_gsT rfl rfl rfl)).mono ?_)
        rintro _ _ ⟨rfl, rfl⟩
        repeat' (first | with_reducible refine And.intro ?_ ?_ | ((with_reducible intro hc); (try simp only [zA, zB, zC, zD, zE, zF, zG, zH, zI, zJ, zK, zL, zM, zN, zO, zP, zQ, zR, zS, zT, zU, zV, zW] at hc); (first | (exact absurd rfl hc) | (exact absurd trivial hc) | (exfalso; omega) | skip)) | exact Is.mk rfl rfl | ((conv => whnf); first | with_reducible refine And.intro ?_ ?_ | with_reducible intro hx | exact Is.mk rfl rfl | (with_reducible first | apply Val.via | apply ValH.via) | refine ifB_intro ?_ ?_ | refine xA (by omega) ?_ | ((refine xB ?_); intro kw hk1 hk2) | refine xC (by omega) ?_ | refine xD ?_ | refine xE (by omega) ?_ | refine xF (by omega) ?_ | refine xG ?_ | refine xH ?_ | refine xI (by omega) ?_ | refine xJ (by omega) ?_ | (with_reducible refine stopA ?_) | refine Exists.intro _ (And.intro (by (first | exact vat_of rfl rfl rfl | rfl)) ?_) | refine GOp.drawn (by rfl) (by rfl) (Nat.le_of_ble_eq_true (by rfl)) (by rfl) | refine GOp.via (by rfl) ?_ | refine GWP.drawY mixed _ (by kernel_rfl) (by rfl) ?_ | (refine stopO (GOp'.grow rfl sty_b (d := .slice 5) Tryd.underlying22 (by intro k h; cases h) rfl (velems_roB tail _) (one_map tail) rfl (by simp) (by omega) (by omega) ?_)) | (with_reducible first | refine stopO ?_ | refine stopE ?_ | refine stopD ?_ | refine stopW ?_ | refine stopG ?_ | refine stopC ?_ | refine stopR ?_)))
        (all_goals (first | omega | skip))
        refine GCall'.mk ((hpt _ _ (view_gsT rfl List.map_append.symm List.length_append.symm)).mono ?_)
        rintro _ _ ⟨rfl, rfl⟩
        repeat' (first | with_reducible refine And.intro ?_ ?_ | ((with_reducible intro hc); (try simp only [zA, zB, zC, zD, zE, zF, zG, zH, zI, zJ, zK, zL, zM, zN, zO, zP, zQ, zR, zS, zT, zU, zV, zW] at hc); (first | (exact absurd rfl hc) | (exact absurd trivial hc) | (exfalso; omega) | skip)) | exact Is.mk rfl rfl | ((conv => whnf); first | with_reducible refine And.intro ?_ ?_ | with_reducible intro hx | exact Is.mk rfl rfl | (with_reducible first | apply Val.via | apply ValH.via) | refine ifB_intro ?_ ?_ | refine xA (by omega) ?_ | ((refine xB ?_); intro kw hk1 hk2) | refine xC (by omega) ?_ | refine xD ?_ | refine xE (by omega) ?_ | refine xF (by omega) ?_ | refine xG ?_ | refine xH ?_ | refine xI (by omega) ?_ | refine xJ (by omega) ?_ | (with_reducible refine stopA ?_) | refine Exists.intro _ (And.intro (by (first | exact vat_of rfl rfl rfl | rfl)) ?_) | refine GOp.drawn (by rfl) (by rfl) (Nat.le_of_ble_eq_true (by rfl)) (by rfl) | refine GOp.via (by rfl) ?_ | refine GWP.drawY mixed _ (by kernel_rfl) (by rfl) ?_ | (refine GCall.mk (VCall.inl Tryd.func49 rfl ?_)) | (with_reducible first | refine stopO ?_ | refine stopE ?_ | refine stopD ?_ | refine stopW ?_ | refine stopG ?_ | refine stopC ?_ | refine stopR ?_)))
        (all_goals (first | omega | skip))
        exact Done'.mk (congrArg (fun b => VV.sc (.bool b)) (eqZ_selfH 0))
  · repeat' (first | with_reducible refine And.intro ?_ ?_ | ((with_reducible intro hc); (try simp only [zA, zB, zC, zD, zE, zF, zG, zH, zI, zJ, zK, zL, zM, zN, zO, zP, zQ, zR, zS, zT, zU, zV, zW] at hc); (first | (exact absurd rfl hc) | (exact absurd trivial hc) | (exfalso; omega) | skip)) | exact Is.mk rfl rfl | ((conv => whnf); first | with_reducible refine And.intro ?_ ?_ | with_reducible intro hx | exact Is.mk rfl rfl | (with_reducible first | apply Val.via | apply ValH.via) | refine ifB_intro ?_ ?_ | refine xA (by omega) ?_ | ((refine xB ?_); intro kw hk1 hk2) | refine xC (by omega) ?_ | refine xD ?_ | refine xE (by omega) ?_ | refine xF (by omega) ?_ | refine xG ?_ | refine xH ?_ | refine xI (by omega) ?_ | refine xJ (by omega) ?_ | (with_reducible refine stopA ?_) | refine Exists.intro _ (And.intro (by rfl) ?_) | refine GOp.drawn (by rfl) (by rfl) (Nat.le_of_ble_eq_true (by rfl)) (by rfl) | refine GOp.via (by rfl) ?_ | refine GWP.drawY mixed _ (by kernel_rfl) (by rfl) ?_ | (refine GCall.mk ((lives11_call _).mono ?_); rintro _ _ ⟨rfl, rfl⟩) | (with_reducible first | refine stopO ?_ | refine stopE ?_ | refine stopD ?_ | refine stopW ?_ | refine stopG ?_ | refine stopC ?_ | refine stopR ?_)))
    all_goals (first | omega | exact Done'.mk rfl)
end Go.Proofs.YtmmjgbdihgdekaaDoor

/- PROVED: for every input cordonlaw11.HeaderLong returns true, and its arguments read as before; the listed tables hold what the program's text lays (the card ties them). -/
namespace Go.Proofs.YtmmjgbdihgdekaaDoor.lawHeaderLong
open Go.ChangeShapes Go.WideShapes Go.ChangeAt Go.RowKit Go.Joins
open Go.ChangeMaps (open_string shut_string)
set_option linter.unusedSimpArgs false
set_option linter.unusedVariables false

theorem own : ownKnob Tryd.prog.godebug = none := by kernel_rfl
theorem laidOut : laidOutB Tryd.prog = true := by kernel_rfl
theorem u8cells : Tryd.prog.cellsOf 5 = 1 := by kernel_rfl

set_option maxRecDepth 100000 in
theorem contract (H : Type) (enc : TypeId × Value → H) (W : World) (base : Nat) (args : Array Value) (ds gs : List (DataW H)) (before : List MemPlace)
    (hval : ∀ (j : Nat) t v, Tryd.f8.params[j]? = some t → args[j]? = some v → Value.okWide Tryd.prog W .any base t v)
    (hW : DataW.Whole enc Tryd.prog Tryd.f8.params.toList Rows.headerLongSpec.vars false W args.toList ds gs before) (hL : laidMetH Tryd.prog Rows.headerLongRow.laid W) :
    Calls Tryd.prog 8 args W fun e W' => ∃ v, e = .returned v ∧ Rows.headerLongSpec.post enc Tryd.prog Tryd.f8 false true false false W args v W' := by
  have hW' := hW
  obtain ⟨p, q, hA0, hV, rfl, hfz, hnd⟩ := hW
  have hA : DataW.TrodAll enc Tryd.prog W 0 (fun _ => true) true Tryd.f8.params.toList args.toList ds p := hA0
  rw [Tryd.params8] at hA hval
  obtain ⟨v0, vs0, d0, ds0, p0, q0, hargs, rfl, rfl, h0, r0⟩ := trodAll_cons hA
  obtain ⟨v1, vs1, d1, ds1, p1, q1, rfl, rfl, rfl, h1, r1⟩ := trodAll_cons r0
  obtain ⟨rfl, rfl, rfl⟩ := trodAll_nil r1
  obtain rfl : args = #[v0, v1] := by cases args; simp_all
  obtain ⟨rfl, rfl⟩ := trodVars_none hV
  have k0 := h0
  have lt0 : ∀ x ∈ p0, x.block < W.heap.size := by obtain ⟨m, hm⟩ := k0; exact DataW.trod_lt m _ _ _ hm
  have k1 := h1
  have lt1 : ∀ x ∈ p1, x.block < W.heap.size := by obtain ⟨m, hm⟩ := k1; exact DataW.trod_lt m _ _ _ hm
  have hwalk : Calls Tryd.prog 8 #[v0, v1] W fun e w' => e = .returned (.bool true) ∧ Below W.heap.size W w' := by
    obtain ⟨n0, rfl, rfl, rfl, hn00⟩ := open_int Tryd.underlying3 (hval 0 3 v0 rfl rfl) h0
    have hn0 := bounds_i64 hn00
    obtain ⟨l1, hl10, hr1⟩ := open_roB Tryd.underlying22 Tryd.underlying5 u8cells (hval 1 22 v1 rfl rfl) h1
    have hl1 : l1.length ≤ 9223372036854775807 := by unfold maxLen at hl10; exact hl10
    exact VCall.law (headerLong_walk n0 hn0 l1) W #[.int .i64 n0, v1] (Pw.cons (.sc rfl) (Pw.cons hr1 Pw.nil)) (fun _ _ _ _ _ _ => trivial)
  clear hA0
  refine hwalk.mono fun e W' ⟨he, bel⟩ => ?_
  subst he
  exact ⟨_, rfl, _, _, _, [], _, [], hW', trodAll_mk1 (shut_bool Tryd.underlying4 _), (trodAll_cons_mk (Below.trod laidOut (by kernel_rfl) (of_decide_eq_true (by kernel_rfl)) k0 bel lt0) (trodAll_cons_mk (Below.trod laidOut (by kernel_rfl) (of_decide_eq_true (by kernel_rfl)) k1 bel lt1) trodAll_mk0)), rfl, bel.frame _, fun h => by cases h⟩

/-- A datum's cells. -/
def cellsOfData : DataW Unit → Array Value
  | .agg l => (l.flatMap fun x => match x with
    | .lit (.int k n) => [Value.int k n]
    | .agg m => m.map fun y => match y with
      | .lit (.int k n) => Value.int k n
      | _ => undef
    | _ => [undef]).toArray
  | _ => #[]
def setRow (d : DataW Unit) : Obj → Obj
  | .cells _ t frozen => .cells (cellsOfData d) t frozen
  | o => o
/-- A world for the witness: the settled one, the tables holding what their initialisers lay. -/
noncomputable def laidWorld (os : Os) : World :=
  { World.holding Tryd.prog os ⟨#[], #[], []⟩ with heap := (((World.holding Tryd.prog os ⟨#[], #[], []⟩).heap.modify 2 (setRow Rows.laid_unicode_utf8_acceptRanges)).modify 1 (setRow Rows.laid_unicode_utf8_first)) }
theorem laid_met (os : Os) : laidMet Tryd.prog Rows.headerLongRow.laid ((laidWorld os).forCall (fun _ _ => 0) ⟨#[], #[.int .i64 0, .slice none 0 0], []⟩).memory :=
  laidMet_of_run' 8 (by kernel_rfl) (by kernel_rfl)
theorem reads (os : Os) {H : Type} (enc : TypeId × Value → H) : ∃ places, DataW.whole enc Tryd.prog ((laidWorld os).forCall (fun _ _ => 0) ⟨#[], #[.int .i64 0, .slice none 0 0], []⟩).memory Tryd.f8.params.toList Rows.headerLongSpec.vars false (#[.int .i64 0, .slice none 0 0] : Array Value).toList 8 = some ([.lit (.int .i64 0), .nil], [], places) :=
  ⟨[], by kernel_rfl⟩

set_option maxRecDepth 100000 in
theorem lifted (os : Os) (started : os.Started) (H : Type) (enc : TypeId × Value → H) (F : Stop.Interp) :
    ReturnsInHanded {} Tryd.checked os 8 .any ((OpenSpec.ofChange Rows.headerLongSpec).preRow enc Tryd.prog Tryd.f8 Rows.headerLongRow.domain false Rows.headerLongRow.laid) (((OpenSpec.ofChange Rows.headerLongSpec).at F).post enc Tryd.prog Tryd.f8 false true false false) := by
  obtain ⟨places, hx⟩ := reads os enc
  refine returnsInHanded_of_row (C := Tryd.checked) (s := OpenSpec.ofChange Rows.headerLongSpec) own started (by kernel_rfl) Tryd.func8
    (witness_row_at (enc := enc) (C := Tryd.checked) false (laidWorld os) #[.int .i64 0, .slice none 0 0] rfl (by kernel_rfl) (by kernel_rfl) (by kernel_rfl)
      (OpenSpec.preRow_of_cond 8 hx (by kernel_rfl) (fun k hk => by cases hk) (by kernel_rfl) (laid_met os))) ?_
  intro W base args ds gs before hval hW _ _ _ hL _ _
  exact contract H enc W base args ds gs before hval hW hL

theorem said : Rows.HeaderLongSaid :=
  OpenClaim.holds_of_cond 8 Tryd.f8 rfl rfl rfl rfl rfl rfl rfl ⟨rfl, rfl, rfl, rfl, rfl⟩ rfl rfl rfl rfl rfl (by kernel_rfl) Tryd.func8 (by kernel_rfl)
    (of_decide_eq_true (by kernel_rfl)) (by unfold Func.isWrapper; first | (rw [if_pos (by decide +kernel)]; kernel_rfl) | (rw [if_neg (by decide +kernel)]; exact ⟨rfl, rfl⟩))
    (fun os started H enc _ F => by rw [OpenClaim.pre_eq_preRow]; exact lifted os started H enc F)
theorem plain (f : FuncId) (fn : Func) (hf : Tryd.pinned.checked.prog.funcNamed "cordon/cordonlaw11.HeaderLong" = some f) (hfn : Tryd.pinned.checked.prog.funcs[f]? = some fn) :
    false = Tryd.pinned.checked.prog.looks [] ∧ ∀ (j : Nat) t, fn.params[j]? = some t → Tryd.pinned.checked.prog.wantsStandIn t = false := by
  obtain rfl : f = 8 := Option.some.inj ((show Tryd.prog.funcNamed "cordon/cordonlaw11.HeaderLong" = some 8 by kernel_rfl).symm.trans hf) |>.symm
  obtain rfl : fn = Tryd.f8 := (Option.some.inj (Tryd.func8.symm.trans hfn)).symm
  refine ⟨by kernel_rfl, fun j t ht => ?_⟩
  rw [Tryd.params8] at ht
  have : t = 22 ∨ t = 3 := by
    have hm := Array.mem_of_getElem? ht
    simp at hm
    first | omega | (rcases hm with rfl | rfl <;> simp)
  rcases this with rfl | rfl
  · exact (show Tryd.prog.wantsStandIn 22 = false by kernel_rfl)
  · exact (show Tryd.prog.wantsStandIn 3 = false by kernel_rfl)
/-- The card. -/
theorem card : Rows.HeaderLongCardSaid :=
  Claim7.holds_tied_plain_at .later [] _ _ _ _ said (fun _ h => by cases h) (by kernel_rfl) (fun _ h => by cases h) headerLong_row_tie rfl ⟨rfl, rfl⟩ (by kernel_rfl) rfl plain (by kernel_rfl)
#print axioms card
end Go.Proofs.YtmmjgbdihgdekaaDoor.lawHeaderLong

