/- What is wrong with one more field. -/
import Derived.Test.YtmmjgbdihgdekaaDoorJ3
namespace Go.Proofs.YtmmjgbdihgdekaaDoor
open Go Go.RowKit
set_option linter.unusedSimpArgs false
set_option linter.unusedVariables false
set_option maxRecDepth 100000
set_option maxHeartbeats 4000000
theorem View.agL {H : Heap} {vs us : List VV} (h : ViewL H vs us) : View H (.ag vs) (.ag us) := fun B w M Z ρ y hr hv => by
  cases hv with
  | @ag _ cs h1 r1 =>
    obtain ⟨cs⟩ := cs
    simp only at h1 r1
    exact .ag (h.pw hr ⟨h1, r1⟩).1 (h.pw hr ⟨h1, r1⟩).2
def rowsF (l : List HF) : List VV := l.flatMap fun f => [roB f.1, roB f.2]
theorem rowsF_len (l : List HF) : (rowsF l).length = l.length * 2 := by
  induction l with
  | nil => rfl
  | cons a r ih =>
    show (roB a.1 :: roB a.2 :: rowsF r).length = _
    simp only [List.length_cons, ih]
    omega
theorem rowsF_nameless (l : List HF) : ∀ v ∈ rowsF l, Nameless v := fun v hv => by
  obtain ⟨f, _, h⟩ := List.mem_flatMap.1 hv
  simp only [List.mem_cons, List.not_mem_nil, or_false] at h
  rcases h with rfl | rfl
  · exact nameless_roB _
  · exact nameless_roB _
theorem rowsF_snoc (l : List HF) (f : HF) : rowsF (l ++ [f]) = rowsF l ++ [roB f.1, roB f.2] := by
  unfold rowsF
  rw [List.flatMap_append, List.flatMap_cons, List.flatMap_nil, List.append_nil]
theorem trimB_sub (l : List UInt8) : (trimB l).Sublist l := by
  have h1 : (trR l).Sublist l := by
    have := (List.dropWhile_sublist blankB (l := l.reverse)).reverse
    rwa [List.reverse_reverse] at this
  exact (List.dropWhile_sublist blankB (l := trR l)).trans h1
theorem trimB_eq {l : List UInt8} (h : (trimB l).length = l.length) : trimB l = l := (trimB_sub l).eq_of_length h
theorem wrong0_call (n : Nat) (rows : List VV) (nm val : List UInt8) (hnm : nm.length ≤ 10000) (hval : val.length ≤ 10000) (hn : n ≤ 10000) (hca : ∀ H, VCall Tryd.prog 139 [roB val, strV [13, 10]] H (fun x K => x = booV (val.contains 13 || val.contains 10) ∧ K = H)) : VCall Tryd.prog 95 [.ag [.ro n rows], .ag [roB nm, roB val]] ⟨[], 0⟩ (fun v _ => v = iV (hwrong (nm, val) n)) := by
  have htok := fun H => token_call nm H (by omega)
  have htr := fun H => trim_call val (by omega) H
  unfold hwrong
  refine VCall.go Tryd.func95 rfl ?_
  cases ht : tokenB nm with
  | false =>
    rw [ht] at htok
    repeat' (first | with_reducible refine And.intro ?_ ?_ | ((with_reducible intro hc); (try simp only [zA, zB, zC, zD, zE, zF, zG, zH, zI, zJ, zK, zL, zM, zN, zO, zP, zQ, zR, zS, zT, zU, zV, zW] at hc); (first | (exact absurd rfl hc) | (exact absurd trivial hc) | (exfalso; omega) | skip)) | exact Is.mk rfl rfl | ((conv => whnf); first | with_reducible refine And.intro ?_ ?_ | with_reducible intro hx | exact Is.mk rfl rfl | (with_reducible first | apply Val.via | apply ValH.via) | refine ifB_intro ?_ ?_ | refine xA (by omega) ?_ | ((refine xB ?_); intro kw hk1 hk2) | refine xC (by omega) ?_ | refine xD ?_ | refine xE (by omega) ?_ | refine xF (by omega) ?_ | refine xG ?_ | refine xH ?_ | refine xI (by omega) ?_ | refine xJ (by omega) ?_ | (with_reducible refine stopA ?_) | refine Exists.intro _ (And.intro (by (first | exact vat_of rfl rfl rfl | rfl)) ?_) | refine GOp.drawn (by rfl) (by rfl) (Nat.le_of_ble_eq_true (by rfl)) (by rfl) | refine GOp.via (by rfl) ?_ | refine GWP.drawY mixed _ (by kernel_rfl) (by rfl) ?_ | (refine GCall.mk ((htok _).mono ?_); rintro _ _ ⟨rfl, rfl⟩) | (with_reducible first | refine stopO ?_ | refine stopE ?_ | refine stopD ?_ | refine stopW ?_ | refine stopG ?_ | refine stopC ?_ | refine stopR ?_)))
    all_goals (first | omega | skip)
    exact Done'.mk rfl
  | true =>
    rw [ht] at htok
    cases ha : (val.contains 13 || val.contains 10) with
    | true =>
      rw [ha] at hca
      repeat' (first | with_reducible refine And.intro ?_ ?_ | ((with_reducible intro hc); (try simp only [zA, zB, zC, zD, zE, zF, zG, zH, zI, zJ, zK, zL, zM, zN, zO, zP, zQ, zR, zS, zT, zU, zV, zW] at hc); (first | (exact absurd rfl hc) | (exact absurd trivial hc) | (exfalso; omega) | skip)) | exact Is.mk rfl rfl | ((conv => whnf); first | with_reducible refine And.intro ?_ ?_ | with_reducible intro hx | exact Is.mk rfl rfl | (with_reducible first | apply Val.via | apply ValH.via) | refine ifB_intro ?_ ?_ | refine xA (by omega) ?_ | ((refine xB ?_); intro kw hk1 hk2) | refine xC (by omega) ?_ | refine xD ?_ | refine xE (by omega) ?_ | refine xF (by omega) ?_ | refine xG ?_ | refine xH ?_ | refine xI (by omega) ?_ | refine xJ (by omega) ?_ | (with_reducible refine stopA ?_) | refine Exists.intro _ (And.intro (by (first | exact vat_of rfl rfl rfl | rfl)) ?_) | refine GOp.drawn (by rfl) (by rfl) (Nat.le_of_ble_eq_true (by rfl)) (by rfl) | refine GOp.via (by rfl) ?_ | refine GWP.drawY mixed _ (by kernel_rfl) (by rfl) ?_ | (first | (refine GCall.mk ((htok _).mono ?_); rintro _ _ ⟨rfl, rfl⟩) | (refine GCall.mk ((hca _).mono ?_); rintro _ _ ⟨rfl, rfl⟩)) | (with_reducible first | refine stopO ?_ | refine stopE ?_ | refine stopD ?_ | refine stopW ?_ | refine stopG ?_ | refine stopC ?_ | refine stopR ?_)))
      all_goals (first | omega | skip)
      exact Done'.mk rfl
    | false =>
      rw [ha] at hca
      repeat' (first | with_reducible refine And.intro ?_ ?_ | ((with_reducible intro hc); (try simp only [zA, zB, zC, zD, zE, zF, zG, zH, zI, zJ, zK, zL, zM, zN, zO, zP, zQ, zR, zS, zT, zU, zV, zW] at hc); (first | (exact absurd rfl hc) | (exact absurd trivial hc) | (exfalso; omega) | skip)) | exact Is.mk rfl rfl | ((conv => whnf); first | with_reducible refine And.intro ?_ ?_ | with_reducible intro hx | exact Is.mk rfl rfl | (with_reducible first | apply Val.via | apply ValH.via) | refine ifB_intro ?_ ?_ | refine xA (by omega) ?_ | ((refine xB ?_); intro kw hk1 hk2) | refine xC (by omega) ?_ | refine xD ?_ | refine xE (by omega) ?_ | refine xF (by omega) ?_ | refine xG ?_ | refine xH ?_ | refine xI (by omega) ?_ | refine xJ (by omega) ?_ | (with_reducible refine stopA ?_) | refine Exists.intro _ (And.intro (by (first | exact vat_of rfl rfl rfl | rfl)) ?_) | refine GOp.drawn (by rfl) (by rfl) (Nat.le_of_ble_eq_true (by rfl)) (by rfl) | refine GOp.via (by rfl) ?_ | refine GWP.drawY mixed _ (by kernel_rfl) (by rfl) ?_ | (first | (refine GCall.mk ((htok _).mono ?_); rintro _ _ ⟨rfl, rfl⟩) | (refine GCall.mk ((hca _).mono ?_); rintro _ _ ⟨rfl, rfl⟩) | (refine GCall.mk ((htr _).mono ?_); rintro _ _ ⟨rfl, rfl⟩)) | (with_reducible first | refine stopO ?_ | refine stopE ?_ | refine stopD ?_ | refine stopW ?_ | refine stopG ?_ | refine stopC ?_ | refine stopR ?_)))
      all_goals (first | omega | skip)
      · have : (trimB val == val) = false := by
          rw [beq_eq_false_iff_ne]
          intro e
          rw [e] at hc
          exact hc rfl
        simp only [this]
        exact Done'.mk rfl
      · have : (trimB val == val) = true := beq_iff_eq.2 (trimB_eq (by omega))
        simp only [this]
        rw [if_pos (show 64 ≤ n by omega)]
        exact Done'.mk rfl
      · have : (trimB val == val) = true := beq_iff_eq.2 (trimB_eq (by omega))
        simp only [this]
        rw [if_neg (show ¬ 64 ≤ n by omega)]
        exact Done'.mk rfl
theorem wrong_call {H : Heap} {b : Nat} {acc : List HF} (f : HF) (hnm : f.1.length ≤ 10000) (hval : f.2.length ≤ 10000) (hn : acc.length ≤ 10000) (hca : ∀ H, VCall Tryd.prog 139 [roB f.2, strV [13, 10]] H (fun x K => x = booV (f.2.contains 13 || f.2.contains 10) ∧ K = H)) (hg : H.get b = some (.opt (rowsF acc))) : VCall Tryd.prog 95 [.ag [.gs b acc.length 2], .ag [roB f.1, roB f.2]] H (fun v K => v = iV (hwrong f acc.length) ∧ K = H) :=
  VCall.viewed (args' := [.ag [.ro acc.length (rowsF acc)], .ag [roB f.1, roB f.2]]) (Q := fun v _ => v = iV (hwrong f acc.length))
    (.cons (View.agL (.cons (View.gs hg (rowsF_len acc) (rowsF_nameless acc)) .nil)) (.cons (View.of (nameless_ag (by simp [nameless_roB]))) .nil))
    (wrong0_call acc.length (rowsF acc) f.1 f.2 hnm hval hn hca) (fun v K e => by subst e; exact Frx.of (exact_sc _))
end Go.Proofs.YtmmjgbdihgdekaaDoor
