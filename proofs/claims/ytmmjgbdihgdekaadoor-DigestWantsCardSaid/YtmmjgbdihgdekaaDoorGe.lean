import Derived.Test.YtmmjgbdihgdekaaDoorGd
/- The document's sum, walked. -/
namespace Go.Proofs.YtmmjgbdihgdekaaDoor
open Go Go.RowKit
set_option linter.unusedSimpArgs false
set_option linter.unusedVariables false
set_option maxRecDepth 100000
set_option maxHeartbeats 40000000
def WW (p : List UInt8) (t : Nat) : List Nat := if t ≤ 16 then W1 p t else W2 p t
theorem WW_lo (p : List UInt8) {t : Nat} (h : t ≤ 16) : WW p t = W1 p t := if_pos h
theorem WW_hi (p : List UInt8) {t : Nat} (h : 16 ≤ t) : WW p t = W2 p t := by
  unfold WW
  split
  · obtain rfl : t = 16 := by omega
    exact W12 p
  · rfl
theorem WW_len (p : List UInt8) {t : Nat} (h : t ≤ 64) : (WW p t).length = 64 := by
  unfold WW
  split
  · exact W1_len p h
  · exact W2_len p (by omega) h
theorem tn_val {x a b c : Nat} (hx : x < 4294967296) : bitZ .xor .u32 (bitZ .xor .u32 (rl x (32 - a) : Nat) (rl x (32 - b) : Nat)) (rl x (32 - c) : Nat) = ((tn x a b c : Nat) : Int) := by
  rw [xor_u32 (rl_lt hx) (rl_lt hx), xor_u32 (xor_lt (rl_lt hx) (rl_lt hx)) (rl_lt hx)]
  rfl
theorem sV_nameless (s : S8) : ∀ v ∈ sV s, Nameless v := by
  intro v hv
  simp [sV] at hv
  rcases hv with rfl | rfl | rfl | rfl | rfl | rfl | rfl | rfl <;> exact nameless_wV _
theorem rsum_call (l : List UInt8) (hl : l.length ≤ 1000000) (H : Heap) : VCall Tryd.prog 17 [roB l] H (fun v K => v = .ag ((sha l).map bV) ∧ K = H) := by
  refine VCall.pure (by simp [nameless_roB]) (nameless_ag (nameless_map nameless_bV _)) ?_
  have z64 : vsize Tryd.prog 110 = some 64 := by kernel_rfl
  have z32 : vsize Tryd.prog 34 = some 32 := by kernel_rfl
  have l32 : (List.replicate 32 (bV 0)).length = 32 := rfl
  have o32 : (List.replicate 32 (bV 0)).all VV.one = true := rfl
  have z8 : vsize Tryd.prog 111 = some 8 := by kernel_rfl
  have l64 : (List.replicate 64 (wV 0)).length = 64 := rfl
  have l8 : (List.replicate 8 (wV 0)).length = 8 := rfl
  have o64 : (List.replicate 64 (wV 0)).all VV.one = true := rfl
  have o8 : (List.replicate 8 (wV 0)).all VV.one = true := rfl
  have hpr := primes_call
  refine VCall.go Tryd.func17 rfl ?_
  repeat' (first | with_reducible refine And.intro ?_ ?_ | ((with_reducible intro hc); (try simp only [zA, zB, zC, zD, zE, zF, zG, zH, zI, zJ, zK, zL, zM, zN, zO, zP, zQ, zR, zS, zT, zU, zV, zW] at hc); (first | (exact absurd rfl hc) | (exact absurd trivial hc) | (exfalso; omega) | skip)) | ((conv => whnf); first | with_reducible refine And.intro ?_ ?_ | refine ifB_intro ?_ ?_ | refine xA (by omega) ?_ | ((refine xB ?_); intro kw hk1 hk2) | refine xC (by omega) ?_ | refine xD ?_ | refine xE (by omega) ?_ | refine xF (by omega) ?_ | refine xG ?_ | refine xH ?_ | refine xI (by omega) ?_ | refine xJ (by omega) ?_ | (with_reducible refine stopA ?_) | refine Exists.intro _ (And.intro (by rfl) ?_) | (first | (refine GOp.stN (vs := List.replicate 64 (wV 0)) z64 (by rfl) (by rfl) (by rfl) (by rfl) l64 l64 o64 ?_) | (refine GOp.stN (vs := List.replicate 8 (wV 0)) z8 (by rfl) (by rfl) (by rfl) (by rfl) l8 l8 o8 ?_)) | refine GOp.via (by rfl) ?_ | (with_reducible first | refine stopO ?_ | refine stopE ?_ | refine stopD ?_ | refine stopW ?_ | refine stopG ?_) | (refine GCall.mk ((hpr _).mono ?_); rintro _ _ ⟨rfl, rfl⟩) | (with_reducible refine stopC ?_) | (with_reducible refine stopR ?_)))
  all_goals (first | omega | skip)
  refine GWP'.keep [(0, roB l), (2, .ptr 0 0), (3, .ptr 1 0), (4, .ptr 2 0), (30, roU prT), (31, iV 64), (32, iV 0)] 277 [(2, .cells true (wz h0T.list 8 0)), (1, .cells true (wz kT 64 0)), (0, .cells true (List.replicate 32 (bV 0)))] 3 rfl ?_ rfl ?_ ?_
  · (repeat' (first | exact trivial | refine And.intro rfl ?_))
  · exact (by repeat' (first | exact trivial | refine And.intro rfl ?_))
  generalize hprT : prT = pr
  generalize hkT : kT = kt
  generalize hhT : h0T.list = ht
  conv => whnf
  refine stopW ?_
  (refine GWP'.mk (GWP.loopB [1, 2] (fun (i : Nat) => i ≤ 64) (fun (i : Nat) => [(32, iV i)]) (fun (i : Nat) => [(1, .cells true (wz kt 64 i)), (2, .cells true (wz ht 8 (if i < 8 then i else 8)))]) 3 (fun (i : Nat) => 64 - i) 0 (Nat.zero_le _) ?_); (conv => whnf); refine And.intro ?_ ?_)
  · focus (refine KeptA.of [] rfl rfl (by repeat' (first | exact trivial | refine And.intro rfl ?_)) rfl ?_ ?_; all_goals (repeat' (first | exact trivial | (refine And.intro ?_ ?_) | (refine Exists.intro _ (And.intro rfl ?_)) | (refine RenO.opt ?_) | (refine RenO.toOpt ?_) | (refine RenO.cells ?_) | exact RenO.defs | exact RenL.nil | (refine RenL.cons ?_ ?_) | (first | exact RenL.of (wz_nameless _ _ _) | (with_reducible exact RenV.sc) | exact RenV.gsN | exact RenV.gsZ | exact RenV.gsL (by decide) | exact RenV.slL (by decide) | ((first | refine RenV.gsE (by (first | exact List.Mem.head _ | exact List.Mem.tail _ (List.Mem.head _) | exact List.Mem.tail _ (List.Mem.tail _ (List.Mem.head _)) | (simp; done))) ?_ | refine RenV.eq (scI_eq ?_) (nameless_sc _)); (first | rfl | omega | (simp only [List.length_append, List.length_cons, List.length_nil, List.length_map, List.length_take, List.length_drop] <;> omega) | (simp only <;> omega) | (simp <;> omega))) | exact RenV.undef) | (with_unfolding_all exact (rfl : (_ : VObj) = _)))))
  rintro i hi
  have hpl : pr.length = 64 := by rw [← hprT]; rfl
  by_cases hi64 : i < 64
  ·
    -- [[
    have hp := prT_at' ⟨i, hi64⟩
    have h3 := roots3_at' ⟨i, hi64⟩
    have k3 := kT_next' ⟨i, hi64⟩
    have h2 : ∀ h : i < 8, rootN (prT.getD i 0) 2 = h0T.list.getD i 0 := fun h => roots2_at' ⟨i, h⟩
    have k2 : ∀ h : i < 8, h0T.list.take (i + 1) = h0T.list.take i ++ [h0T.list.getD i 0] := fun h => hT_next' ⟨i, h⟩
    simp only at hp h3 k3
    have hkl : kt.length = 64 := by rw [← hkT]; rfl
    have hhl : ht.length = 8 := by rw [← hhT]; rfl
    rw [hprT, hkT] at h3
    rw [hprT] at hp
    rw [hkT] at k3
    rw [hprT, hhT] at h2
    rw [hhT] at k2
    clear hprT hkT hhT hpr
    generalize pr.getD i 0 = pp at *
    generalize kt.getD i 0 = kk at *
    generalize ht.getD i 0 = hh at *
    obtain ⟨hp1, hp2⟩ := hp
    have c3 := root_call pp 3 hp2 (by omega)
    have c2 := root_call pp 2 hp2 (by omega)
    rw [h3] at c3
    have w3 := wz_next hi64 hkl k3
    have wl3 := wz_len (l := kt) hi hkl
    by_cases hi8 : i < 8
    · rw [h2 hi8] at c2
      have w2 := wz_next hi8 hhl (k2 hi8)
      have wl2 := wz_len (l := ht) (i := i) (n := 8) (by omega) hhl
      have e8 : wz ht 8 (i + 1) = wz ht 8 (if i + 1 < 8 then i + 1 else 8) := by
        split
        · rfl
        · rw [show i + 1 = 8 by omega]
      rw [if_pos hi8]
      rw [e8] at w2
      generalize hk3 : wz kt 64 i = r3 at *
      generalize hk2 : wz ht 8 i = r2 at *
      repeat' (first | with_reducible refine And.intro ?_ ?_ | ((with_reducible intro hc); (try simp only [zA, zB, zC, zD, zE, zF, zG, zH, zI, zJ, zK, zL, zM, zN, zO, zP, zQ, zR, zS, zT, zU, zV, zW] at hc); (first | (exact absurd rfl hc) | (exact absurd trivial hc) | (exfalso; omega) | skip)) | exact Is.mk rfl rfl | ((conv => whnf); first | with_reducible refine And.intro ?_ ?_ | with_reducible intro hx | exact Is.mk rfl rfl | (with_reducible first | apply Val.via | apply ValH.via) | refine ifB_intro ?_ ?_ | refine xA (by omega) ?_ | ((refine xB ?_); intro kw hk1 hk2) | refine xC (by omega) ?_ | refine xD ?_ | refine xE (by omega) ?_ | refine xF (by omega) ?_ | refine xG ?_ | refine xH ?_ | refine xI (by omega) ?_ | refine xJ (by omega) ?_ | (with_reducible refine stopA ?_) | refine Exists.intro _ (And.intro (by (first | exact vat_of vagg_u (mapu_at hp1) (mul1 rfl (by omega)))) ?_) | refine GOp.drawn (by rfl) (by rfl) (Nat.le_of_ble_eq_true (by rfl)) (by rfl) | refine GOp.via (by rfl) ?_ | refine GWP.drawY mixed _ (by kernel_rfl) (by rfl) ?_ | (first | (refine GCall.mk ((c3 _).mono ?_); rintro _ _ ⟨rfl, rfl⟩) | (refine GCall.mk ((c2 _).mono ?_); rintro _ _ ⟨rfl, rfl⟩)) | (with_reducible first | refine stopO ?_ | refine stopE ?_ | refine stopD ?_ | refine stopW ?_ | refine stopG ?_ | refine stopC ?_ | refine stopR ?_)))
      all_goals (first | omega | skip)
      apply GOp'.via
      case h => exact vop_store rfl (vstore_wz (vs := r3) (i := i) rfl (addfld rfl rfl (by omega)) (by omega) rfl)
      repeat' (first | with_reducible refine And.intro ?_ ?_ | ((with_reducible intro hc); (try simp only [zA, zB, zC, zD, zE, zF, zG, zH, zI, zJ, zK, zL, zM, zN, zO, zP, zQ, zR, zS, zT, zU, zV, zW] at hc); (first | (exact absurd rfl hc) | (exact absurd trivial hc) | (exfalso; omega) | skip)) | exact Is.mk rfl rfl | ((conv => whnf); first | with_reducible refine And.intro ?_ ?_ | with_reducible intro hx | exact Is.mk rfl rfl | (with_reducible first | apply Val.via | apply ValH.via) | refine ifB_intro ?_ ?_ | refine xA (by omega) ?_ | ((refine xB ?_); intro kw hk1 hk2) | refine xC (by omega) ?_ | refine xD ?_ | refine xE (by omega) ?_ | refine xF (by omega) ?_ | refine xG ?_ | refine xH ?_ | refine xI (by omega) ?_ | refine xJ (by omega) ?_ | (with_reducible refine stopA ?_) | refine Exists.intro _ (And.intro (by fail) ?_) | refine GOp.drawn (by rfl) (by rfl) (Nat.le_of_ble_eq_true (by rfl)) (by rfl) | refine GOp.via (by rfl) ?_ | refine GWP.drawY mixed _ (by kernel_rfl) (by rfl) ?_ | (first | (refine GCall.mk ((c3 _).mono ?_); rintro _ _ ⟨rfl, rfl⟩) | (refine GCall.mk ((c2 _).mono ?_); rintro _ _ ⟨rfl, rfl⟩)) | (with_reducible first | refine stopO ?_ | refine stopE ?_ | refine stopD ?_ | refine stopW ?_ | refine stopG ?_ | refine stopC ?_ | refine stopR ?_)))
      all_goals (first | omega | skip)
      apply GOp'.via
      case h => exact vop_store rfl (vstore_wz (vs := r2) (i := i) rfl (addfld rfl rfl (by omega)) (by omega) rfl)
      repeat' (first | with_reducible refine And.intro ?_ ?_ | ((with_reducible intro hc); (try simp only [zA, zB, zC, zD, zE, zF, zG, zH, zI, zJ, zK, zL, zM, zN, zO, zP, zQ, zR, zS, zT, zU, zV, zW] at hc); (first | (exact absurd rfl hc) | (exact absurd trivial hc) | (exfalso; omega) | skip)) | exact Is.mk rfl rfl | ((conv => whnf); first | with_reducible refine And.intro ?_ ?_ | with_reducible intro hx | exact Is.mk rfl rfl | (with_reducible first | apply Val.via | apply ValH.via) | refine ifB_intro ?_ ?_ | refine xA (by omega) ?_ | ((refine xB ?_); intro kw hk1 hk2) | refine xC (by omega) ?_ | refine xD ?_ | refine xE (by omega) ?_ | refine xF (by omega) ?_ | refine xG ?_ | refine xH ?_ | refine xI (by omega) ?_ | refine xJ (by omega) ?_ | (with_reducible refine stopA ?_) | refine Exists.intro _ (And.intro (by fail) ?_) | refine GOp.drawn (by rfl) (by rfl) (Nat.le_of_ble_eq_true (by rfl)) (by rfl) | refine GOp.via (by rfl) ?_ | refine GWP.drawY mixed _ (by kernel_rfl) (by rfl) ?_ | fail | (with_reducible first | refine stopO ?_ | refine stopE ?_ | refine stopD ?_ | refine stopW ?_ | refine stopG ?_ | refine stopC ?_ | refine stopR ?_)))
      all_goals (first | omega | skip)
      focus (refine Done'.mk ⟨(i + 1), (by omega), ?_, KeptA.of [] rfl rfl (by repeat' (first | exact trivial | refine And.intro rfl ?_)) rfl ?_ ?_⟩; (first | omega | (simp only; omega)); all_goals (repeat' (first | exact trivial | (refine And.intro ?_ ?_) | (refine Exists.intro _ (And.intro rfl ?_)) | (refine RenO.opt ?_) | (refine RenO.toOpt ?_) | (refine RenO.cells ?_) | exact RenO.defs | exact RenL.nil | (refine RenL.cons ?_ ?_) | (first | (first | exact RenL.eq w3 (wz_nameless _ _ _) | exact RenL.eq w2 (wz_nameless _ _ _)) | (with_reducible exact RenV.sc) | exact RenV.gsN | exact RenV.gsZ | exact RenV.gsL (by decide) | exact RenV.slL (by decide) | ((first | refine RenV.gsE (by (first | exact List.Mem.head _ | exact List.Mem.tail _ (List.Mem.head _) | exact List.Mem.tail _ (List.Mem.tail _ (List.Mem.head _)) | (simp; done))) ?_ | refine RenV.eq (scI_eq ?_) (nameless_sc _)); (first | rfl | omega | (simp only [List.length_append, List.length_cons, List.length_nil, List.length_map, List.length_take, List.length_drop] <;> omega) | (simp only <;> omega) | (simp <;> omega))) | exact RenV.undef) | (with_unfolding_all exact (rfl : (_ : VObj) = _)))))
    · have e8 : (if i < 8 then i else 8) = (if i + 1 < 8 then i + 1 else 8) := by rw [if_neg hi8, if_neg (by omega)]
      rw [e8]
      generalize hk3 : wz kt 64 i = r3 at *
      repeat' (first | with_reducible refine And.intro ?_ ?_ | ((with_reducible intro hc); (try simp only [zA, zB, zC, zD, zE, zF, zG, zH, zI, zJ, zK, zL, zM, zN, zO, zP, zQ, zR, zS, zT, zU, zV, zW] at hc); (first | (exact absurd rfl hc) | (exact absurd trivial hc) | (exfalso; omega) | skip)) | exact Is.mk rfl rfl | ((conv => whnf); first | with_reducible refine And.intro ?_ ?_ | with_reducible intro hx | exact Is.mk rfl rfl | (with_reducible first | apply Val.via | apply ValH.via) | refine ifB_intro ?_ ?_ | refine xA (by omega) ?_ | ((refine xB ?_); intro kw hk1 hk2) | refine xC (by omega) ?_ | refine xD ?_ | refine xE (by omega) ?_ | refine xF (by omega) ?_ | refine xG ?_ | refine xH ?_ | refine xI (by omega) ?_ | refine xJ (by omega) ?_ | (with_reducible refine stopA ?_) | refine Exists.intro _ (And.intro (by (first | exact vat_of vagg_u (mapu_at hp1) (mul1 rfl (by omega)))) ?_) | refine GOp.drawn (by rfl) (by rfl) (Nat.le_of_ble_eq_true (by rfl)) (by rfl) | refine GOp.via (by rfl) ?_ | refine GWP.drawY mixed _ (by kernel_rfl) (by rfl) ?_ | (first | (refine GCall.mk ((c3 _).mono ?_); rintro _ _ ⟨rfl, rfl⟩) | (refine GCall.mk ((c2 _).mono ?_); rintro _ _ ⟨rfl, rfl⟩)) | (with_reducible first | refine stopO ?_ | refine stopE ?_ | refine stopD ?_ | refine stopW ?_ | refine stopG ?_ | refine stopC ?_ | refine stopR ?_)))
      all_goals (first | omega | skip)
      apply GOp'.via
      case h => exact vop_store rfl (vstore_wz (vs := r3) (i := i) rfl (addfld rfl rfl (by omega)) (by omega) rfl)
      repeat' (first | with_reducible refine And.intro ?_ ?_ | ((with_reducible intro hc); (try simp only [zA, zB, zC, zD, zE, zF, zG, zH, zI, zJ, zK, zL, zM, zN, zO, zP, zQ, zR, zS, zT, zU, zV, zW] at hc); (first | (exact absurd rfl hc) | (exact absurd trivial hc) | (exfalso; omega) | skip)) | exact Is.mk rfl rfl | ((conv => whnf); first | with_reducible refine And.intro ?_ ?_ | with_reducible intro hx | exact Is.mk rfl rfl | (with_reducible first | apply Val.via | apply ValH.via) | refine ifB_intro ?_ ?_ | refine xA (by omega) ?_ | ((refine xB ?_); intro kw hk1 hk2) | refine xC (by omega) ?_ | refine xD ?_ | refine xE (by omega) ?_ | refine xF (by omega) ?_ | refine xG ?_ | refine xH ?_ | refine xI (by omega) ?_ | refine xJ (by omega) ?_ | (with_reducible refine stopA ?_) | refine Exists.intro _ (And.intro (by fail) ?_) | refine GOp.drawn (by rfl) (by rfl) (Nat.le_of_ble_eq_true (by rfl)) (by rfl) | refine GOp.via (by rfl) ?_ | refine GWP.drawY mixed _ (by kernel_rfl) (by rfl) ?_ | (first | (refine GCall.mk ((c3 _).mono ?_); rintro _ _ ⟨rfl, rfl⟩) | (refine GCall.mk ((c2 _).mono ?_); rintro _ _ ⟨rfl, rfl⟩)) | (with_reducible first | refine stopO ?_ | refine stopE ?_ | refine stopD ?_ | refine stopW ?_ | refine stopG ?_ | refine stopC ?_ | refine stopR ?_)))
      all_goals (first | omega | skip)
      focus (refine Done'.mk ⟨(i + 1), (by omega), ?_, KeptA.of [] rfl rfl (by repeat' (first | exact trivial | refine And.intro rfl ?_)) rfl ?_ ?_⟩; (first | omega | (simp only; omega)); all_goals (repeat' (first | exact trivial | (refine And.intro ?_ ?_) | (refine Exists.intro _ (And.intro rfl ?_)) | (refine RenO.opt ?_) | (refine RenO.toOpt ?_) | (refine RenO.cells ?_) | exact RenO.defs | exact RenL.nil | (refine RenL.cons ?_ ?_) | (first | (first | exact RenL.eq w3 (wz_nameless _ _ _) | exact RenL.of (wz_nameless _ _ _)) | (with_reducible exact RenV.sc) | exact RenV.gsN | exact RenV.gsZ | exact RenV.gsL (by decide) | exact RenV.slL (by decide) | ((first | refine RenV.gsE (by (first | exact List.Mem.head _ | exact List.Mem.tail _ (List.Mem.head _) | exact List.Mem.tail _ (List.Mem.tail _ (List.Mem.head _)) | (simp; done))) ?_ | refine RenV.eq (scI_eq ?_) (nameless_sc _)); (first | rfl | omega | (simp only [List.length_append, List.length_cons, List.length_nil, List.length_map, List.length_take, List.length_drop] <;> omega) | (simp only <;> omega) | (simp <;> omega))) | exact RenV.undef) | (with_unfolding_all exact (rfl : (_ : VObj) = _)))))
    -- ]]
  · obtain rfl : i = 64 := by omega
    rw [if_neg (show ¬ 64 < 8 by omega), wz_end (show kt.length = 64 by rw [← hkT]; rfl), wz_end (show ht.length = 8 by rw [← hhT]; rfl)]
    clear hprT hpr hpl hi64
    have g0 : ∀ y, velems 1 (roB l) y = some (l.length, l.map bV) := fun y => velems_roB l y
    repeat' (first | with_reducible refine And.intro ?_ ?_ | ((with_reducible intro hc); (try simp only [zA, zB, zC, zD, zE, zF, zG, zH, zI, zJ, zK, zL, zM, zN, zO, zP, zQ, zR, zS, zT, zU, zV, zW] at hc); (first | (exact absurd rfl hc) | (exact absurd trivial hc) | (exfalso; omega) | skip)) | exact Is.mk rfl rfl | ((conv => whnf); first | with_reducible refine And.intro ?_ ?_ | with_reducible intro hx | exact Is.mk rfl rfl | (with_reducible first | apply Val.via | apply ValH.via) | refine ifB_intro ?_ ?_ | refine xA (by omega) ?_ | ((refine xB ?_); intro kw hk1 hk2) | refine xC (by omega) ?_ | refine xD ?_ | refine xE (by omega) ?_ | refine xF (by omega) ?_ | refine xG ?_ | refine xH ?_ | refine xI (by omega) ?_ | refine xJ (by omega) ?_ | (with_reducible refine stopA ?_) | refine Exists.intro _ (And.intro (by rfl) ?_) | refine GOp.drawn (by rfl) (by rfl) (Nat.le_of_ble_eq_true (by rfl)) (by rfl) | refine GOp.via (by rfl) ?_ | refine GWP.drawY mixed _ (by kernel_rfl) (by rfl) ?_ | (refine stopO (GOp'.grow0 rfl sty_b (d := .slice 5) Tryd.underlying22 (by intro k h; cases h) (.inr ⟨_, rfl⟩) (fun y => g0 _) (one_map l) (by omega) (by omega) ?_)) | (with_reducible first | refine stopO ?_ | refine stopE ?_ | refine stopD ?_ | refine stopW ?_ | refine stopG ?_ | refine stopC ?_ | refine stopR ?_)))
    all_goals (first | omega | skip)
    refine GOp'.grow rfl sty_b (d := .slice 5) Tryd.underlying22 (by intro k h; cases h) rfl (m := 1) (l := [bV 128]) (by rfl) (by rfl) rfl (by simp) (by omega) (by omega) ?_
    repeat' (first | with_reducible refine And.intro ?_ ?_ | ((with_reducible intro hc); (try simp only [zA, zB, zC, zD, zE, zF, zG, zH, zI, zJ, zK, zL, zM, zN, zO, zP, zQ, zR, zS, zT, zU, zV, zW] at hc); (first | (exact absurd rfl hc) | (exact absurd trivial hc) | (exfalso; omega) | skip)) | exact Is.mk rfl rfl | ((conv => whnf); first | with_reducible refine And.intro ?_ ?_ | with_reducible intro hx | exact Is.mk rfl rfl | (with_reducible first | apply Val.via | apply ValH.via) | refine ifB_intro ?_ ?_ | refine xA (by omega) ?_ | ((refine xB ?_); intro kw hk1 hk2) | refine xC (by omega) ?_ | refine xD ?_ | refine xE (by omega) ?_ | refine xF (by omega) ?_ | refine xG ?_ | refine xH ?_ | refine xI (by omega) ?_ | refine xJ (by omega) ?_ | (with_reducible refine stopA ?_) | refine Exists.intro _ (And.intro (by rfl) ?_) | refine GOp.drawn (by rfl) (by rfl) (Nat.le_of_ble_eq_true (by rfl)) (by rfl) | refine GOp.via (by rfl) ?_ | refine GWP.drawY mixed _ (by kernel_rfl) (by rfl) ?_ | fail | (with_reducible first | refine stopO ?_ | refine stopE ?_ | refine stopD ?_ | refine stopW ?_ | refine stopG ?_ | refine stopC ?_ | refine stopR ?_)))
    all_goals (first | omega | skip)
    obtain ⟨n, hn⟩ : ∃ n, n = l.length := ⟨_, rfl⟩
    obtain ⟨m, hm⟩ : ∃ m, m = (119 - n % 64) % 64 := ⟨_, rfl⟩
    have hent : l.map bV ++ [bV 128] = (l ++ 128 :: List.replicate 0 0).map bV := by simp
    refine GWP'.keep [(0, roB l), (2, .ptr 0 0), (3, .ptr 1 0), (4, .ptr 2 0), (7, .gs 7 (l.length + 1) 1)] 277 [(7, .opt (l.map bV ++ [bV 128])), (2, .cells true (ht.map wV)), (1, .cells true (kt.map wV)), (0, .cells true (List.replicate 32 (bV 0)))] 8 rfl ?_ rfl ?_ ?_
    · (repeat' (first | exact trivial | refine And.intro rfl ?_))
    · exact (by repeat' (first | exact trivial | refine And.intro rfl ?_))
    rw [hent]
    conv => whnf
    refine stopW ?_
    (refine GWP'.mk (GWP.loopB [7] (fun (j : Nat) => j ≤ m) (fun (j : Nat) => [(7, .gs 8 (l.length + 1 + j) 1)]) (fun (j : Nat) => [(8, .opt ((l ++ 128 :: List.replicate j 0).map bV))]) 9 (fun (j : Nat) => m - j) 0 (Nat.zero_le _) ?_); (conv => whnf); refine And.intro ?_ ?_)
    · focus (refine KeptA.of [(7, 8)] rfl rfl (by repeat' (first | exact trivial | refine And.intro rfl ?_)) rfl ?_ ?_; all_goals (repeat' (first | exact trivial | (refine And.intro ?_ ?_) | (refine Exists.intro _ (And.intro rfl ?_)) | (refine RenO.opt ?_) | (refine RenO.toOpt ?_) | (refine RenO.cells ?_) | exact RenO.defs | exact RenL.nil | (refine RenL.cons ?_ ?_) | (first | exact RenL.of (nameless_map nameless_bV _) | (with_reducible exact RenV.sc) | exact RenV.gsN | exact RenV.gsZ | exact RenV.gsL (by decide) | exact RenV.slL (by decide) | ((first | refine RenV.gsE (by (first | exact List.Mem.head _ | exact List.Mem.tail _ (List.Mem.head _) | exact List.Mem.tail _ (List.Mem.tail _ (List.Mem.head _)) | (simp; done))) ?_ | refine RenV.eq (scI_eq ?_) (nameless_sc _)); (first | rfl | omega | (simp only [List.length_append, List.length_cons, List.length_nil, List.length_map, List.length_take, List.length_drop] <;> omega) | (simp only <;> omega) | (simp <;> omega))) | exact RenV.undef) | (with_unfolding_all exact (rfl : (_ : VObj) = _)))))
    rintro j hj
    have hlj : ((l ++ 128 :: List.replicate j 0).map bV).length = (l.length + 1 + j) * 1 := by simp; omega
    by_cases hjm : j < m
    ·
      -- [[
      have hjx : (l ++ 128 :: List.replicate j 0).map bV ++ [bV 0] = (l ++ 128 :: List.replicate (j + 1) 0).map bV := by simp [List.replicate_succ']
      generalize (l ++ 128 :: List.replicate j 0).map bV = rw at *
      repeat' (first | with_reducible refine And.intro ?_ ?_ | ((with_reducible intro hc); (try simp only [zA, zB, zC, zD, zE, zF, zG, zH, zI, zJ, zK, zL, zM, zN, zO, zP, zQ, zR, zS, zT, zU, zV, zW] at hc); (first | (exact absurd rfl hc) | (exact absurd trivial hc) | (exfalso; omega) | skip)) | exact Is.mk rfl rfl | ((conv => whnf); first | with_reducible refine And.intro ?_ ?_ | with_reducible intro hx | exact Is.mk rfl rfl | (with_reducible first | apply Val.via | apply ValH.via) | refine ifB_intro ?_ ?_ | refine xA (by omega) ?_ | ((refine xB ?_); intro kw hk1 hk2) | refine xC (by omega) ?_ | refine xD ?_ | refine xE (by omega) ?_ | refine xF (by omega) ?_ | refine xG ?_ | refine xH ?_ | refine xI (by omega) ?_ | refine xJ (by omega) ?_ | (with_reducible refine stopA ?_) | refine Exists.intro _ (And.intro (by rfl) ?_) | refine GOp.drawn (by rfl) (by rfl) (Nat.le_of_ble_eq_true (by rfl)) (by rfl) | refine GOp.via (by rfl) ?_ | refine GWP.drawY mixed _ (by kernel_rfl) (by rfl) ?_ | (refine stopO (GOp'.grow rfl sty_b (d := .slice 5) Tryd.underlying22 (by intro k h; cases h) rfl (m := 1) (l := [bV 0]) (by rfl) (by rfl) rfl hlj (by omega) (by omega) ?_)) | (with_reducible first | refine stopO ?_ | refine stopE ?_ | refine stopD ?_ | refine stopW ?_ | refine stopG ?_ | refine stopC ?_ | refine stopR ?_)))
      all_goals (first | omega | skip)
      focus (refine Done'.mk ⟨(j + 1), (by omega), ?_, KeptA.of [(10, 8)] rfl rfl (by repeat' (first | exact trivial | refine And.intro rfl ?_)) rfl ?_ ?_⟩; (first | omega | (simp only; omega)); all_goals (repeat' (first | exact trivial | (refine And.intro ?_ ?_) | (refine Exists.intro _ (And.intro rfl ?_)) | (refine RenO.opt ?_) | (refine RenO.toOpt ?_) | (refine RenO.cells ?_) | exact RenO.defs | exact RenL.nil | (refine RenL.cons ?_ ?_) | (first | (first | exact RenL.eq hjx (nameless_map nameless_bV _) | exact RenV.gsE (List.Mem.head _) (by omega)) | (with_reducible exact RenV.sc) | exact RenV.gsN | exact RenV.gsZ | exact RenV.gsL (by decide) | exact RenV.slL (by decide) | ((first | refine RenV.gsE (by (first | exact List.Mem.head _ | exact List.Mem.tail _ (List.Mem.head _) | exact List.Mem.tail _ (List.Mem.tail _ (List.Mem.head _)) | (simp; done))) ?_ | refine RenV.eq (scI_eq ?_) (nameless_sc _)); (first | rfl | omega | (simp only [List.length_append, List.length_cons, List.length_nil, List.length_map, List.length_take, List.length_drop] <;> omega) | (simp only <;> omega) | (simp <;> omega))) | exact RenV.undef) | (with_unfolding_all exact (rfl : (_ : VObj) = _)))))
      -- ]]
    · obtain rfl : j = m := by omega
      repeat' (first | with_reducible refine And.intro ?_ ?_ | ((with_reducible intro hc); (try simp only [zA, zB, zC, zD, zE, zF, zG, zH, zI, zJ, zK, zL, zM, zN, zO, zP, zQ, zR, zS, zT, zU, zV, zW] at hc); (first | (exact absurd rfl hc) | (exact absurd trivial hc) | (exfalso; omega) | skip)) | exact Is.mk rfl rfl | ((conv => whnf); first | with_reducible refine And.intro ?_ ?_ | with_reducible intro hx | exact Is.mk rfl rfl | (with_reducible first | apply Val.via | apply ValH.via) | refine ifB_intro ?_ ?_ | refine xA (by omega) ?_ | ((refine xB ?_); intro kw hk1 hk2) | refine xC (by omega) ?_ | refine xD ?_ | refine xE (by omega) ?_ | refine xF (by omega) ?_ | refine xG ?_ | refine xH ?_ | refine xI (by omega) ?_ | refine xJ (by omega) ?_ | (with_reducible refine stopA ?_) | refine Exists.intro _ (And.intro (by rfl) ?_) | refine GOp.drawn (by rfl) (by rfl) (Nat.le_of_ble_eq_true (by rfl)) (by rfl) | refine GOp.via (by rfl) ?_ | refine GWP.drawY mixed _ (by kernel_rfl) (by rfl) ?_ | fail | (with_reducible first | refine stopO ?_ | refine stopE ?_ | refine stopD ?_ | refine stopW ?_ | refine stopG ?_ | refine stopC ?_ | refine stopR ?_)))
      all_goals (first | omega | skip)
      subst hn
      rw [← List.append_nil (l ++ 128 :: List.replicate j 0), show ([] : List UInt8) = (be8 (8 * l.length)).take 0 from rfl]
      (refine GWP'.mk (GWP.loopB [8] (fun (i : Nat) => i ≤ 8) (fun (i : Nat) => [(7, .gs 9 (l.length + 1 + j + i) 1), (8, iV (7 - (i : Int)))]) (fun (i : Nat) => [(9, .opt (((l ++ 128 :: List.replicate j 0) ++ (be8 (8 * l.length)).take i).map bV))]) 10 (fun (i : Nat) => 8 - i) 0 (Nat.zero_le _) ?_); (conv => whnf); refine And.intro ?_ ?_)
      · focus (refine KeptA.of [(8, 9)] rfl rfl (by repeat' (first | exact trivial | refine And.intro rfl ?_)) rfl ?_ ?_; all_goals (repeat' (first | exact trivial | (refine And.intro ?_ ?_) | (refine Exists.intro _ (And.intro rfl ?_)) | (refine RenO.opt ?_) | (refine RenO.toOpt ?_) | (refine RenO.cells ?_) | exact RenO.defs | exact RenL.nil | (refine RenL.cons ?_ ?_) | (first | exact RenL.of (nameless_map nameless_bV _) | (with_reducible exact RenV.sc) | exact RenV.gsN | exact RenV.gsZ | exact RenV.gsL (by decide) | exact RenV.slL (by decide) | ((first | refine RenV.gsE (by (first | exact List.Mem.head _ | exact List.Mem.tail _ (List.Mem.head _) | exact List.Mem.tail _ (List.Mem.tail _ (List.Mem.head _)) | (simp; done))) ?_ | refine RenV.eq (scI_eq ?_) (nameless_sc _)); (first | rfl | omega | (simp only [List.length_append, List.length_cons, List.length_nil, List.length_map, List.length_take, List.length_drop] <;> omega) | (simp only <;> omega) | (simp <;> omega))) | exact RenV.undef) | (with_unfolding_all exact (rfl : (_ : VObj) = _)))))
      rintro i hi
      by_cases hi8 : i < 8
      ·
        -- [[
        have hsh : shrZ .u64 ((l.length : Int) * 8) (8 * (7 - (i : Int))) = ((8 * l.length / 2 ^ (56 - 8 * i) : Nat) : Int) := by
          have := shr_u64 (a := 8 * l.length) (k := 56 - 8 * i) (by omega)
          rw [show ((8 * l.length : Nat) : Int) = (l.length : Int) * 8 by omega, show ((56 - 8 * i : Nat) : Int) = 8 * (7 - (i : Int)) by omega] at this
          exact this
        have hnx : ((l ++ 128 :: List.replicate j 0) ++ (be8 (8 * l.length)).take i).map bV ++ [.sc (.int .u8 (shrZ .u64 ((l.length : Int) * 8) (8 * (7 - (i : Int))) % 256))] = ((l ++ 128 :: List.replicate j 0) ++ (be8 (8 * l.length)).take (i + 1)).map bV := by
          rw [u8V_of hsh, take_next (be8_at hi8)]
          simp
        have hln : (((l ++ 128 :: List.replicate j 0) ++ (be8 (8 * l.length)).take i).map bV).length = (l.length + 1 + j + i) * 1 := by
          simp [be8_len]; omega
        generalize ((l ++ 128 :: List.replicate j 0) ++ (be8 (8 * l.length)).take i).map bV = rw at *
        repeat' (first | with_reducible refine And.intro ?_ ?_ | ((with_reducible intro hc); (try simp only [zA, zB, zC, zD, zE, zF, zG, zH, zI, zJ, zK, zL, zM, zN, zO, zP, zQ, zR, zS, zT, zU, zV, zW] at hc); (first | (exact absurd rfl hc) | (exact absurd trivial hc) | (exfalso; omega) | skip)) | exact Is.mk rfl rfl | ((conv => whnf); first | with_reducible refine And.intro ?_ ?_ | with_reducible intro hx | exact Is.mk rfl rfl | (with_reducible first | apply Val.via | apply ValH.via) | refine ifB_intro ?_ ?_ | refine xA (by omega) ?_ | ((refine xB ?_); intro kw hk1 hk2) | refine xC (by omega) ?_ | refine xD ?_ | refine xE (by omega) ?_ | refine xF (by omega) ?_ | refine xG ?_ | refine xH ?_ | refine xI (by omega) ?_ | refine xJ (by omega) ?_ | (with_reducible refine stopA ?_) | refine Exists.intro _ (And.intro (by rfl) ?_) | refine GOp.drawn (by rfl) (by rfl) (Nat.le_of_ble_eq_true (by rfl)) (by rfl) | refine GOp.via (by rfl) ?_ | refine GWP.drawY mixed _ (by kernel_rfl) (by rfl) ?_ | (refine stopO (GOp'.grow rfl sty_b (d := .slice 5) Tryd.underlying22 (by intro k h; cases h) rfl (m := 1) (l := [.sc (.int .u8 (shrZ .u64 ((l.length : Int) * 8) (8 * (7 - (i : Int))) % 256))]) (by rfl) (by rfl) rfl hln (by omega) (by omega) ?_)) | (with_reducible first | refine stopO ?_ | refine stopE ?_ | refine stopD ?_ | refine stopW ?_ | refine stopG ?_ | refine stopC ?_ | refine stopR ?_)))
        all_goals (first | omega | skip)
        focus (refine Done'.mk ⟨(i + 1), (by omega), ?_, KeptA.of [(11, 9)] rfl rfl (by repeat' (first | exact trivial | refine And.intro rfl ?_)) rfl ?_ ?_⟩; (first | omega | (simp only; omega)); all_goals (repeat' (first | exact trivial | (refine And.intro ?_ ?_) | (refine Exists.intro _ (And.intro rfl ?_)) | (refine RenO.opt ?_) | (refine RenO.toOpt ?_) | (refine RenO.cells ?_) | exact RenO.defs | exact RenL.nil | (refine RenL.cons ?_ ?_) | (first | (first | exact RenL.eq hnx (nameless_map nameless_bV _) | exact RenV.gsE (List.Mem.head _) (by omega) | exact RenV.eq (scI_eq (by omega)) (nameless_sc _)) | (with_reducible exact RenV.sc) | exact RenV.gsN | exact RenV.gsZ | exact RenV.gsL (by decide) | exact RenV.slL (by decide) | ((first | refine RenV.gsE (by (first | exact List.Mem.head _ | exact List.Mem.tail _ (List.Mem.head _) | exact List.Mem.tail _ (List.Mem.tail _ (List.Mem.head _)) | (simp; done))) ?_ | refine RenV.eq (scI_eq ?_) (nameless_sc _)); (first | rfl | omega | (simp only [List.length_append, List.length_cons, List.length_nil, List.length_map, List.length_take, List.length_drop] <;> omega) | (simp only <;> omega) | (simp <;> omega))) | exact RenV.undef) | (with_unfolding_all exact (rfl : (_ : VObj) = _)))))
        -- ]]
      · obtain rfl : i = 8 := by omega
        have hpl : (padT l.length).length = 1 + j + 8 := by rw [padT_len, hm]; omega
        have hpe : (l ++ 128 :: List.replicate j 0) ++ (be8 (8 * l.length)).take 8 = l ++ padT l.length := by
          rw [List.take_of_length_le (by rw [be8_len]; exact Nat.le_refl _)]
          unfold padT
          rw [← hm]
          simp
        rw [hpe, sha_eq]
        have hxl : (l ++ padT l.length).length = l.length + 1 + j + 8 := by rw [List.length_append, hpl]; omega
        unfold stF
        clear hpe hpl
        have hx64 : (l.length + 1 + j + 8) % 64 = 0 := by omega
        generalize l.length + 1 + j + 8 = T at *
        have hTl : T ≤ 2000000 := by
          have := padT_len l.length
          rw [List.length_append] at hxl
          omega
        generalize l ++ padT l.length = x at *
        clear hm hj hjm hlj hent g0
        repeat' (first | with_reducible refine And.intro ?_ ?_ | ((with_reducible intro hc); (try simp only [zA, zB, zC, zD, zE, zF, zG, zH, zI, zJ, zK, zL, zM, zN, zO, zP, zQ, zR, zS, zT, zU, zV, zW] at hc); (first | (exact absurd rfl hc) | (exact absurd trivial hc) | (exfalso; omega) | skip)) | exact Is.mk rfl rfl | ((conv => whnf); first | with_reducible refine And.intro ?_ ?_ | with_reducible intro hx | exact Is.mk rfl rfl | (with_reducible first | apply Val.via | apply ValH.via) | refine ifB_intro ?_ ?_ | refine xA (by omega) ?_ | ((refine xB ?_); intro kw hk1 hk2) | refine xC (by omega) ?_ | refine xD ?_ | refine xE (by omega) ?_ | refine xF (by omega) ?_ | refine xG ?_ | refine xH ?_ | refine xI (by omega) ?_ | refine xJ (by omega) ?_ | (with_reducible refine stopA ?_) | refine Exists.intro _ (And.intro (by rfl) ?_) | refine GOp.drawn (by rfl) (by rfl) (Nat.le_of_ble_eq_true (by rfl)) (by rfl) | refine GOp.via (by rfl) ?_ | refine GWP.drawY mixed _ (by kernel_rfl) (by rfl) ?_ | fail | (with_reducible first | refine stopO ?_ | refine stopE ?_ | refine stopD ?_ | refine stopW ?_ | refine stopG ?_ | refine stopC ?_ | refine stopR ?_)))
        all_goals (first | omega | skip)
        refine GWP'.keep [(2, .ptr 0 0), (3, .ptr 1 0), (4, .ptr 2 0), (7, .gs 9 T 1), (9, iV 0)] 277 [(2, .cells true (h0T.list.map wV)), (9, .opt (x.map bV)), (1, .cells true (kt.map wV)), (0, .cells true (List.replicate 32 (bV 0)))] 10 rfl ?_ rfl ?_ ?_
        · (repeat' (first | exact trivial | refine And.intro rfl ?_))
        · rw [hhT]
          exact (by repeat' (first | exact trivial | refine And.intro rfl ?_))
        conv => whnf
        refine stopW ?_
        -- blocks
        (refine GWP'.mk (GWP.loopB [2] (fun (a : S8 × Nat) => a.1.ok ∧ 64 * a.2 ≤ T ∧ blkF a.1 (x.drop (64 * a.2)) = blkF h0T x) (fun a => [(9, iV (64 * a.2 : Nat))]) (fun a => [(2, .cells true (sV a.1))]) 10 (fun a => T - 64 * a.2) (h0T, 0) ⟨h0T_ok, by omega, rfl⟩ ?_); (conv => whnf); refine And.intro ?_ ?_)
        · focus (refine KeptA.of [] rfl rfl (by repeat' (first | exact trivial | refine And.intro rfl ?_)) rfl ?_ ?_; all_goals (repeat' (first | exact trivial | (refine And.intro ?_ ?_) | (refine Exists.intro _ (And.intro rfl ?_)) | (refine RenO.opt ?_) | (refine RenO.toOpt ?_) | (refine RenO.cells ?_) | exact RenO.defs | exact RenL.nil | (refine RenL.cons ?_ ?_) | (first | exact RenL.eq (show [wV h0T.a, wV h0T.b, wV h0T.c, wV h0T.d, wV h0T.e, wV h0T.f, wV h0T.g, wV h0T.h] = sV h0T from rfl) (sV_nameless _) | (with_reducible exact RenV.sc) | exact RenV.gsN | exact RenV.gsZ | exact RenV.gsL (by decide) | exact RenV.slL (by decide) | ((first | refine RenV.gsE (by (first | exact List.Mem.head _ | exact List.Mem.tail _ (List.Mem.head _) | exact List.Mem.tail _ (List.Mem.tail _ (List.Mem.head _)) | (simp; done))) ?_ | refine RenV.eq (scI_eq ?_) (nameless_sc _)); (first | rfl | omega | (simp only [List.length_append, List.length_cons, List.length_nil, List.length_map, List.length_take, List.length_drop] <;> omega) | (simp only <;> omega) | (simp <;> omega))) | exact RenV.undef) | (with_unfolding_all exact (rfl : (_ : VObj) = _)))))
        rintro ⟨st, k⟩ ⟨hst, hk, hB⟩
        simp only at hst hk hB ⊢
        by_cases hkT2 : 64 * k < T
        · have hk64 : 64 * k + 64 ≤ T := by omega
          obtain ⟨p, hp⟩ : ∃ p, p = (x.drop (64 * k)).take 64 := ⟨_, rfl⟩
          have hpl : p.length = 64 := by rw [hp]; simp; omega
          have hpx : ∀ i b, p[i]? = some b → (x.map bV)[64 * k + i]? = some (bV b) := fun i b hb => by
            rw [hp] at hb
            have hi : i < 64 := by have := (List.getElem?_eq_some_iff.1 hb).1; simp at this; omega
            rw [List.getElem?_take_of_lt hi, List.getElem?_drop] at hb
            exact map_at hb
          rw [blkF_step (by simp; omega), ← hp, List.drop_drop, show 64 * k + 64 = 64 * (k + 1) by omega] at hB
          have hxl2 : (x.map bV).length = T := by simp; omega
          clear hp
          generalize hq : 64 * k = q at *
          generalize hX : x.map bV = xs at *
          repeat' (first | with_reducible refine And.intro ?_ ?_ | ((with_reducible intro hc); (try simp only [zA, zB, zC, zD, zE, zF, zG, zH, zI, zJ, zK, zL, zM, zN, zO, zP, zQ, zR, zS, zT, zU, zV, zW] at hc); (first | (exact absurd rfl hc) | (exact absurd trivial hc) | (exfalso; omega) | skip)) | ((conv => whnf); first | with_reducible refine And.intro ?_ ?_ | refine ifB_intro ?_ ?_ | refine xA (by omega) ?_ | ((refine xB ?_); intro kw hk1 hk2) | refine xC (by omega) ?_ | refine xD ?_ | refine xE (by omega) ?_ | refine xF (by omega) ?_ | refine xG ?_ | refine xH ?_ | refine xI (by omega) ?_ | refine xJ (by omega) ?_ | (with_reducible refine stopA ?_) | refine Exists.intro _ (And.intro (by rfl) ?_) | (first | (refine GOp.stN (vs := List.replicate 64 (wV 0)) z64 (by rfl) (by rfl) (by rfl) (by rfl) l64 l64 o64 ?_)) | refine GOp.via (by rfl) ?_ | (with_reducible first | refine stopO ?_ | refine stopE ?_ | refine stopD ?_ | refine stopW ?_ | refine stopG ?_) | fail | (with_reducible refine stopC ?_) | (with_reducible refine stopR ?_)))
          all_goals (first | omega | skip)
          have hWl : ∀ t, t ≤ 64 → (WW p t).length = 64 := fun t h => WW_len p h
          refine GWP'.keep [(2, .ptr 0 0), (3, .ptr 1 0), (4, .ptr 2 0), (7, .gs 9 T 1), (9, iV q), (10, .ptr 10 0), (11, iV 0)] 277 [(10, .cells true ((WW p 0).map wV)), (2, .cells true (sV st)), (9, .opt xs), (1, .cells true (kt.map wV)), (0, .cells true (List.replicate 32 (bV 0)))] 11 rfl ?_ rfl ?_ ?_
          · (repeat' (first | exact trivial | refine And.intro rfl ?_))
          · exact (by repeat' (first | exact trivial | refine And.intro rfl ?_))
          conv => whnf
          refine stopW ?_
          (refine GWP'.mk (GWP.loopB [10] (fun (t : Nat) => t ≤ 64) (fun (t : Nat) => [(11, iV t)]) (fun (t : Nat) => [(10, .cells true ((WW p t).map wV))]) 11 (fun (t : Nat) => 64 - t) 0 (Nat.zero_le _) ?_); (conv => whnf); refine And.intro ?_ ?_)
          · focus (refine KeptA.of [] rfl rfl (by repeat' (first | exact trivial | refine And.intro rfl ?_)) rfl ?_ ?_; all_goals (repeat' (first | exact trivial | (refine And.intro ?_ ?_) | (refine Exists.intro _ (And.intro rfl ?_)) | (refine RenO.opt ?_) | (refine RenO.toOpt ?_) | (refine RenO.cells ?_) | exact RenO.defs | exact RenL.nil | (refine RenL.cons ?_ ?_) | (first | exact RenL.of (nameless_map nameless_wV _) | (with_reducible exact RenV.sc) | exact RenV.gsN | exact RenV.gsZ | exact RenV.gsL (by decide) | exact RenV.slL (by decide) | ((first | refine RenV.gsE (by (first | exact List.Mem.head _ | exact List.Mem.tail _ (List.Mem.head _) | exact List.Mem.tail _ (List.Mem.tail _ (List.Mem.head _)) | (simp; done))) ?_ | refine RenV.eq (scI_eq ?_) (nameless_sc _)); (first | rfl | omega | (simp only [List.length_append, List.length_cons, List.length_nil, List.length_map, List.length_take, List.length_drop] <;> omega) | (simp only <;> omega) | (simp <;> omega))) | exact RenV.undef) | (with_unfolding_all exact (rfl : (_ : VObj) = _)))))
          rintro t ht2
          by_cases ht16 : t < 16
          ·
            -- [[
            rw [WW_lo p (show t ≤ 16 by omega)]
            have hl := W1_len p (i := t) (by omega)
            have hn1 := W1_next p (i := t) (by omega)
            rw [← WW_lo p (show t + 1 ≤ 16 by omega)] at hn1
            repeat' (first | with_reducible refine And.intro ?_ ?_ | ((with_reducible intro hc); (try simp only [zA, zB, zC, zD, zE, zF, zG, zH, zI, zJ, zK, zL, zM, zN, zO, zP, zQ, zR, zS, zT, zU, zV, zW] at hc); (first | (exact absurd rfl hc) | (exact absurd trivial hc) | (exfalso; omega) | skip)) | ((conv => whnf); first | with_reducible refine And.intro ?_ ?_ | refine ifB_intro ?_ ?_ | refine xA (by omega) ?_ | ((refine xB ?_); intro kw hk1 hk2) | refine xC (by omega) ?_ | refine xD ?_ | refine xE (by omega) ?_ | refine xF (by omega) ?_ | refine xG ?_ | refine xH ?_ | refine xI (by omega) ?_ | refine xJ (by omega) ?_ | (with_reducible refine stopA ?_) | refine Exists.intro _ (And.intro (by rfl) ?_) | refine GOp.via (by rfl) ?_ | (with_reducible first | refine stopO ?_ | refine stopE ?_ | refine stopD ?_ | refine stopW ?_ | refine stopG ?_ | refine stopC ?_ | refine stopR ?_)))
            all_goals (first | omega | skip)
            (refine GWP'.mk (GWP.loopB [10] (fun (j : Nat) => j ≤ 4) (fun (j : Nat) => [(12, iV j)]) (fun (j : Nat) => [(10, .cells true (((W1 p t).set t (be4 ((p.drop (4 * t)).take j))).map wV))]) 11 (fun (j : Nat) => 4 - j) 0 (Nat.zero_le _) ?_); (conv => whnf); refine And.intro ?_ ?_)
            · focus (refine KeptA.of [] rfl rfl (by repeat' (first | exact trivial | refine And.intro rfl ?_)) rfl ?_ ?_; all_goals (repeat' (first | exact trivial | (refine And.intro ?_ ?_) | (refine Exists.intro _ (And.intro rfl ?_)) | (refine RenO.opt ?_) | (refine RenO.toOpt ?_) | (refine RenO.cells ?_) | exact RenO.defs | exact RenL.nil | (refine RenL.cons ?_ ?_) | (first | exact RenL.eq (by rw [W1_self p (by omega)]) (nameless_map nameless_wV _) | (with_reducible exact RenV.sc) | exact RenV.gsN | exact RenV.gsZ | exact RenV.gsL (by decide) | exact RenV.slL (by decide) | ((first | refine RenV.gsE (by (first | exact List.Mem.head _ | exact List.Mem.tail _ (List.Mem.head _) | exact List.Mem.tail _ (List.Mem.tail _ (List.Mem.head _)) | (simp; done))) ?_ | refine RenV.eq (scI_eq ?_) (nameless_sc _)); (first | rfl | omega | (simp only [List.length_append, List.length_cons, List.length_nil, List.length_map, List.length_take, List.length_drop] <;> omega) | (simp only <;> omega) | (simp <;> omega))) | exact RenV.undef) | (with_unfolding_all exact (rfl : (_ : VObj) = _)))))
            rintro j hj
            by_cases hj4 : j < 4
            · obtain ⟨b, hb⟩ : ∃ b, p[4 * t + j]? = some b := ⟨p[4 * t + j], List.getElem?_eq_getElem (by omega)⟩
              have hvb := hpx _ _ hb
              have hdj : (p.drop (4 * t))[j]? = some b := by rw [List.getElem?_drop]; exact hb
              have hbn := be4_next hdj
              have hlt := be4_lt ((p.drop (4 * t)).take j)
              have hpw : 256 ^ ((p.drop (4 * t)).take j).length ≤ 256 ^ 3 := Nat.pow_le_pow_right (by omega) (by simp; omega)
              have hwi : ((W1 p t).set t (be4 ((p.drop (4 * t)).take j)))[t]? = some (be4 ((p.drop (4 * t)).take j)) := by rw [List.getElem?_set_self (by omega)]
              have hor := or_sh8 (x := be4 ((p.drop (4 * t)).take j)) (b := b.toNat) (by omega) (u8_lt b)
              have hb8 := u8_lt b
              generalize be4 ((p.drop (4 * t)).take j) = w at *
              repeat' (first | with_reducible refine And.intro ?_ ?_ | ((with_reducible intro hc); (try simp only [zA, zB, zC, zD, zE, zF, zG, zH, zI, zJ, zK, zL, zM, zN, zO, zP, zQ, zR, zS, zT, zU, zV, zW] at hc); (first | (exact absurd rfl hc) | (exact absurd trivial hc) | (exfalso; omega) | skip)) | exact Is.mk rfl rfl | ((conv => whnf); first | with_reducible refine And.intro ?_ ?_ | with_reducible intro hx | exact Is.mk rfl rfl | (with_reducible first | apply Val.via | apply ValH.via) | refine ifB_intro ?_ ?_ | refine xA (by omega) ?_ | ((refine xB ?_); intro kw hk1 hk2) | refine xC (by omega) ?_ | refine xD ?_ | refine xE (by omega) ?_ | refine xF (by omega) ?_ | refine xG ?_ | refine xH ?_ | refine xI (by omega) ?_ | refine xJ (by omega) ?_ | (with_reducible refine stopA ?_) | refine Exists.intro _ (And.intro (by (first | exact vat_of vagg_u8 hvb (mul1 rfl (by omega)) | exact vat_of vagg_w (mapw_at hwi) (addfld rfl rfl (by omega)))) ?_) | refine GOp.drawn (by rfl) (by rfl) (Nat.le_of_ble_eq_true (by rfl)) (by rfl) | refine GOp.via (by rfl) ?_ | refine GWP.drawY mixed _ (by kernel_rfl) (by rfl) ?_ | fail | (with_reducible first | refine stopO ?_ | refine stopE ?_ | refine stopD ?_ | refine stopW ?_ | refine stopG ?_ | refine stopC ?_ | refine stopR ?_)))
              case h =>
                apply GOp'.via
                case h => exact vop_store rfl (vstore_w (l := (W1 p t).set t w) (i := t) (x := w * 256 + b.toNat) rfl (addfld rfl rfl (by omega)) (by simp; omega) hor)
                exact Is.mk rfl rfl
              all_goals (first | omega | skip)
              repeat' (first | with_reducible refine And.intro ?_ ?_ | ((with_reducible intro hc); (try simp only [zA, zB, zC, zD, zE, zF, zG, zH, zI, zJ, zK, zL, zM, zN, zO, zP, zQ, zR, zS, zT, zU, zV, zW] at hc); (first | (exact absurd rfl hc) | (exact absurd trivial hc) | (exfalso; omega) | skip)) | exact Is.mk rfl rfl | ((conv => whnf); first | with_reducible refine And.intro ?_ ?_ | with_reducible intro hx | exact Is.mk rfl rfl | (with_reducible first | apply Val.via | apply ValH.via) | refine ifB_intro ?_ ?_ | refine xA (by omega) ?_ | ((refine xB ?_); intro kw hk1 hk2) | refine xC (by omega) ?_ | refine xD ?_ | refine xE (by omega) ?_ | refine xF (by omega) ?_ | refine xG ?_ | refine xH ?_ | refine xI (by omega) ?_ | refine xJ (by omega) ?_ | (with_reducible refine stopA ?_) | refine Exists.intro _ (And.intro (by rfl) ?_) | refine GOp.drawn (by rfl) (by rfl) (Nat.le_of_ble_eq_true (by rfl)) (by rfl) | refine GOp.via (by rfl) ?_ | refine GWP.drawY mixed _ (by kernel_rfl) (by rfl) ?_ | fail | (with_reducible first | refine stopO ?_ | refine stopE ?_ | refine stopD ?_ | refine stopW ?_ | refine stopG ?_ | refine stopC ?_ | refine stopR ?_)))
              all_goals (first | omega | skip)
              focus (refine Done'.mk ⟨(j + 1), (by omega), ?_, KeptA.of [] rfl rfl (by repeat' (first | exact trivial | refine And.intro rfl ?_)) rfl ?_ ?_⟩; (first | omega | (simp only; omega)); all_goals (repeat' (first | exact trivial | (refine And.intro ?_ ?_) | (refine Exists.intro _ (And.intro rfl ?_)) | (refine RenO.opt ?_) | (refine RenO.toOpt ?_) | (refine RenO.cells ?_) | exact RenO.defs | exact RenL.nil | (refine RenL.cons ?_ ?_) | (first | (refine RenL.eq (by rw [List.set_set, hbn]) (nameless_map nameless_wV _)) | (with_reducible exact RenV.sc) | exact RenV.gsN | exact RenV.gsZ | exact RenV.gsL (by decide) | exact RenV.slL (by decide) | ((first | refine RenV.gsE (by (first | exact List.Mem.head _ | exact List.Mem.tail _ (List.Mem.head _) | exact List.Mem.tail _ (List.Mem.tail _ (List.Mem.head _)) | (simp; done))) ?_ | refine RenV.eq (scI_eq ?_) (nameless_sc _)); (first | rfl | omega | (simp only [List.length_append, List.length_cons, List.length_nil, List.length_map, List.length_take, List.length_drop] <;> omega) | (simp only <;> omega) | (simp <;> omega))) | exact RenV.undef) | (with_unfolding_all exact (rfl : (_ : VObj) = _)))))
            · obtain rfl : j = 4 := by omega
              repeat' (first | with_reducible refine And.intro ?_ ?_ | ((with_reducible intro hc); (try simp only [zA, zB, zC, zD, zE, zF, zG, zH, zI, zJ, zK, zL, zM, zN, zO, zP, zQ, zR, zS, zT, zU, zV, zW] at hc); (first | (exact absurd rfl hc) | (exact absurd trivial hc) | (exfalso; omega) | skip)) | ((conv => whnf); first | with_reducible refine And.intro ?_ ?_ | refine ifB_intro ?_ ?_ | refine xA (by omega) ?_ | ((refine xB ?_); intro kw hk1 hk2) | refine xC (by omega) ?_ | refine xD ?_ | refine xE (by omega) ?_ | refine xF (by omega) ?_ | refine xG ?_ | refine xH ?_ | refine xI (by omega) ?_ | refine xJ (by omega) ?_ | (with_reducible refine stopA ?_) | refine Exists.intro _ (And.intro (by rfl) ?_) | refine GOp.via (by rfl) ?_ | (with_reducible first | refine stopO ?_ | refine stopE ?_ | refine stopD ?_ | refine stopW ?_ | refine stopG ?_ | refine stopC ?_ | refine stopR ?_)))
              all_goals (first | omega | skip)
              focus (refine Done'.mk ⟨(t + 1), (by omega), ?_, KeptA.of [] rfl rfl (by repeat' (first | exact trivial | refine And.intro rfl ?_)) rfl ?_ ?_⟩; (first | omega | (simp only; omega)); all_goals (repeat' (first | exact trivial | (refine And.intro ?_ ?_) | (refine Exists.intro _ (And.intro rfl ?_)) | (refine RenO.opt ?_) | (refine RenO.toOpt ?_) | (refine RenO.cells ?_) | exact RenO.defs | exact RenL.nil | (refine RenL.cons ?_ ?_) | (first | (refine RenL.eq (by rw [hn1]) (nameless_map nameless_wV _)) | (with_reducible exact RenV.sc) | exact RenV.gsN | exact RenV.gsZ | exact RenV.gsL (by decide) | exact RenV.slL (by decide) | ((first | refine RenV.gsE (by (first | exact List.Mem.head _ | exact List.Mem.tail _ (List.Mem.head _) | exact List.Mem.tail _ (List.Mem.tail _ (List.Mem.head _)) | (simp; done))) ?_ | refine RenV.eq (scI_eq ?_) (nameless_sc _)); (first | rfl | omega | (simp only [List.length_append, List.length_cons, List.length_nil, List.length_map, List.length_take, List.length_drop] <;> omega) | (simp only <;> omega) | (simp <;> omega))) | exact RenV.undef) | (with_unfolding_all exact (rfl : (_ : VObj) = _)))))
            -- ]]
          · rw [WW_hi p (show 16 ≤ t by omega)]
            by_cases ht64 : t < 64
            ·
              -- [[
              have ht1 : 16 ≤ t := by omega
              obtain ⟨g16, l16⟩ := W2_at p (j := t - 16) ht1 (by omega)
              obtain ⟨g15, l15⟩ := W2_at p (j := t - 15) ht1 (by omega)
              obtain ⟨g7, l7⟩ := W2_at p (j := t - 7) ht1 (by omega)
              obtain ⟨g2, l2⟩ := W2_at p (j := t - 2) ht1 (by omega)
              have hn2 := W2_next p ht1 ht64
              rw [← WW_hi p (show 16 ≤ t + 1 by omega)] at hn2
              have hlen := W2_len p ht1 ht2
              have hwn : wNext (wX p t) = ((wX p t).getD (t - 16) 0 + (wX p t).getD (t - 7) 0 + s0f ((wX p t).getD (t - 15) 0) + s1f ((wX p t).getD (t - 2) 0)) % 4294967296 := by
                unfold wNext; rw [wX_len p ht1]
              generalize (wX p t).getD (t - 16) 0 = a16 at *
              generalize (wX p t).getD (t - 15) 0 = a15 at *
              generalize (wX p t).getD (t - 7) 0 = a7 at *
              generalize (wX p t).getD (t - 2) 0 = a2 at *
              have v0 := s0_val l15
              have v1 := s1_val l2
              repeat' (first | with_reducible refine And.intro ?_ ?_ | ((with_reducible intro hc); (try simp only [zA, zB, zC, zD, zE, zF, zG, zH, zI, zJ, zK, zL, zM, zN, zO, zP, zQ, zR, zS, zT, zU, zV, zW] at hc); (first | (exact absurd rfl hc) | (exact absurd trivial hc) | (exfalso; omega) | skip)) | exact Is.mk rfl rfl | ((conv => whnf); first | with_reducible refine And.intro ?_ ?_ | with_reducible intro hx | exact Is.mk rfl rfl | (with_reducible first | apply Val.via | apply ValH.via) | refine ifB_intro ?_ ?_ | refine xA (by omega) ?_ | ((refine xB ?_); intro kw hk1 hk2) | refine xC (by omega) ?_ | refine xD ?_ | refine xE (by omega) ?_ | refine xF (by omega) ?_ | refine xG ?_ | refine xH ?_ | refine xI (by omega) ?_ | refine xJ (by omega) ?_ | (with_reducible refine stopA ?_) | refine Exists.intro _ (And.intro (by (first | exact vat_of vagg_w (mapw_at g15) (addfld rfl rfl (by omega)) | exact vat_of vagg_w (mapw_at g2) (addfld rfl rfl (by omega)) | exact vat_of vagg_w (mapw_at g16) (addfld rfl rfl (by omega)) | exact vat_of vagg_w (mapw_at g7) (addfld rfl rfl (by omega)))) ?_) | refine GOp.drawn (by rfl) (by rfl) (Nat.le_of_ble_eq_true (by rfl)) (by rfl) | refine GOp.via (by rfl) ?_ | refine GWP.drawY mixed _ (by kernel_rfl) (by rfl) ?_ | (first | (refine GCall.mk ((rturn_call a15 l15 7 (by omega) (by omega) _).mono ?_); rintro _ _ ⟨rfl, rfl⟩) | (refine GCall.mk ((rturn_call a15 l15 18 (by omega) (by omega) _).mono ?_); rintro _ _ ⟨rfl, rfl⟩) | (refine GCall.mk ((rturn_call a2 l2 17 (by omega) (by omega) _).mono ?_); rintro _ _ ⟨rfl, rfl⟩) | (refine GCall.mk ((rturn_call a2 l2 19 (by omega) (by omega) _).mono ?_); rintro _ _ ⟨rfl, rfl⟩)) | (with_reducible first | refine stopO ?_ | refine stopE ?_ | refine stopD ?_ | refine stopW ?_ | refine stopG ?_ | refine stopC ?_ | refine stopR ?_)))
              case h =>
                apply GOp'.via
                case h => exact vop_store rfl (vstore_w (l := W2 p t) (i := t) (x := wNext (wX p t)) rfl (addfld rfl rfl (by omega)) (by omega) (by rw [v0, v1, hwn]; omega))
                exact Is.mk rfl rfl
              all_goals (first | omega | skip)
              repeat' (first | with_reducible refine And.intro ?_ ?_ | ((with_reducible intro hc); (try simp only [zA, zB, zC, zD, zE, zF, zG, zH, zI, zJ, zK, zL, zM, zN, zO, zP, zQ, zR, zS, zT, zU, zV, zW] at hc); (first | (exact absurd rfl hc) | (exact absurd trivial hc) | (exfalso; omega) | skip)) | exact Is.mk rfl rfl | ((conv => whnf); first | with_reducible refine And.intro ?_ ?_ | with_reducible intro hx | exact Is.mk rfl rfl | (with_reducible first | apply Val.via | apply ValH.via) | refine ifB_intro ?_ ?_ | refine xA (by omega) ?_ | ((refine xB ?_); intro kw hk1 hk2) | refine xC (by omega) ?_ | refine xD ?_ | refine xE (by omega) ?_ | refine xF (by omega) ?_ | refine xG ?_ | refine xH ?_ | refine xI (by omega) ?_ | refine xJ (by omega) ?_ | (with_reducible refine stopA ?_) | refine Exists.intro _ (And.intro (by rfl) ?_) | refine GOp.drawn (by rfl) (by rfl) (Nat.le_of_ble_eq_true (by rfl)) (by rfl) | refine GOp.via (by rfl) ?_ | refine GWP.drawY mixed _ (by kernel_rfl) (by rfl) ?_ | fail | (with_reducible first | refine stopO ?_ | refine stopE ?_ | refine stopD ?_ | refine stopW ?_ | refine stopG ?_ | refine stopC ?_ | refine stopR ?_)))
              all_goals (first | omega | skip)
              rw [hn2]
              focus (refine Done'.mk ⟨(t + 1), (by omega), ?_, KeptA.of [] rfl rfl (by repeat' (first | exact trivial | refine And.intro rfl ?_)) rfl ?_ ?_⟩; (first | omega | (simp only; omega)); all_goals (repeat' (first | exact trivial | (refine And.intro ?_ ?_) | (refine Exists.intro _ (And.intro rfl ?_)) | (refine RenO.opt ?_) | (refine RenO.toOpt ?_) | (refine RenO.cells ?_) | exact RenO.defs | exact RenL.nil | (refine RenL.cons ?_ ?_) | (first | (exact RenL.of (nameless_map nameless_wV _)) | (with_reducible exact RenV.sc) | exact RenV.gsN | exact RenV.gsZ | exact RenV.gsL (by decide) | exact RenV.slL (by decide) | ((first | refine RenV.gsE (by (first | exact List.Mem.head _ | exact List.Mem.tail _ (List.Mem.head _) | exact List.Mem.tail _ (List.Mem.tail _ (List.Mem.head _)) | (simp; done))) ?_ | refine RenV.eq (scI_eq ?_) (nameless_sc _)); (first | rfl | omega | (simp only [List.length_append, List.length_cons, List.length_nil, List.length_map, List.length_take, List.length_drop] <;> omega) | (simp only <;> omega) | (simp <;> omega))) | exact RenV.undef) | (with_unfolding_all exact (rfl : (_ : VObj) = _)))))
              -- ]]
            · obtain rfl : t = 64 := by omega
              have hwl : ∀ i, i < 64 → (wAll p)[i]? = some ((wAll p).getD i 0) ∧ (wAll p).getD i 0 < 4294967296 := fun i h => wAll_at p h
              have hcm : compr st p = st.add (rnds st (wAll p) 64) := rfl
              rw [hcm] at hB
              rw [W2_end]
              clear hcm hWl hpx hxl2 hX
              generalize wAll p = wl at *
              repeat' (first | with_reducible refine And.intro ?_ ?_ | ((with_reducible intro hc); (try simp only [zA, zB, zC, zD, zE, zF, zG, zH, zI, zJ, zK, zL, zM, zN, zO, zP, zQ, zR, zS, zT, zU, zV, zW] at hc); (first | (exact absurd rfl hc) | (exact absurd trivial hc) | (exfalso; omega) | skip)) | exact Is.mk rfl rfl | ((conv => whnf); first | with_reducible refine And.intro ?_ ?_ | with_reducible intro hx | exact Is.mk rfl rfl | (with_reducible first | apply Val.via | apply ValH.via) | refine ifB_intro ?_ ?_ | refine xA (by omega) ?_ | ((refine xB ?_); intro kw hk1 hk2) | refine xC (by omega) ?_ | refine xD ?_ | refine xE (by omega) ?_ | refine xF (by omega) ?_ | refine xG ?_ | refine xH ?_ | refine xI (by omega) ?_ | refine xJ (by omega) ?_ | (with_reducible refine stopA ?_) | refine Exists.intro _ (And.intro (by rfl) ?_) | refine GOp.drawn (by rfl) (by rfl) (Nat.le_of_ble_eq_true (by rfl)) (by rfl) | refine GOp.via (by rfl) ?_ | refine GWP.drawY mixed _ (by kernel_rfl) (by rfl) ?_ | fail | (with_reducible first | refine stopO ?_ | refine stopE ?_ | refine stopD ?_ | refine stopW ?_ | refine stopG ?_ | refine stopC ?_ | refine stopR ?_)))
              all_goals (first | omega | skip)
              refine GWP'.keep [(2, .ptr 0 0), (3, .ptr 1 0), (4, .ptr 2 0), (7, .gs 9 T 1), (9, iV q), (10, .ptr 10 0), (15, wV st.a), (16, wV st.b), (17, wV st.c), (18, wV st.d), (19, wV st.e), (20, wV st.f), (21, wV st.g), (22, wV st.h), (23, iV 0)] 277 [(10, .cells true (wl.map wV)), (2, .cells true (sV st)), (9, .opt xs), (1, .cells true (kt.map wV)), (0, .cells true (List.replicate 32 (bV 0)))] 11 rfl ?_ rfl ?_ ?_
              · (repeat' (first | exact trivial | refine And.intro rfl ?_))
              · exact (by repeat' (first | exact trivial | refine And.intro rfl ?_))
              conv => whnf
              refine stopW ?_
              (refine GWP'.mk (GWP.loopB [] (fun (i : Nat) => i ≤ 64) (fun (i : Nat) => [(15, wV (rnds st wl i).a), (16, wV (rnds st wl i).b), (17, wV (rnds st wl i).c), (18, wV (rnds st wl i).d), (19, wV (rnds st wl i).e), (20, wV (rnds st wl i).f), (21, wV (rnds st wl i).g), (22, wV (rnds st wl i).h), (23, iV i)]) (fun (i : Nat) => []) 11 (fun (i : Nat) => 64 - i) 0 (Nat.zero_le _) ?_); (conv => whnf); refine And.intro ?_ ?_)
              · focus (refine KeptA.of [] rfl rfl (by repeat' (first | exact trivial | refine And.intro rfl ?_)) rfl ?_ ?_; all_goals (repeat' (first | exact trivial | (refine And.intro ?_ ?_) | (refine Exists.intro _ (And.intro rfl ?_)) | (refine RenO.opt ?_) | (refine RenO.toOpt ?_) | (refine RenO.cells ?_) | exact RenO.defs | exact RenL.nil | (refine RenL.cons ?_ ?_) | (first | fail | (with_reducible exact RenV.sc) | exact RenV.gsN | exact RenV.gsZ | exact RenV.gsL (by decide) | exact RenV.slL (by decide) | ((first | refine RenV.gsE (by (first | exact List.Mem.head _ | exact List.Mem.tail _ (List.Mem.head _) | exact List.Mem.tail _ (List.Mem.tail _ (List.Mem.head _)) | (simp; done))) ?_ | refine RenV.eq (scI_eq ?_) (nameless_sc _)); (first | rfl | omega | (simp only [List.length_append, List.length_cons, List.length_nil, List.length_map, List.length_take, List.length_drop] <;> omega) | (simp only <;> omega) | (simp <;> omega))) | exact RenV.undef) | (with_unfolding_all exact (rfl : (_ : VObj) = _)))))
              rintro i hi
              by_cases hi64 : i < 64
              ·
                -- [[
                have hok := rnds_ok hst wl i
                have hnx : rnds st wl (i + 1) = roundF (rnds st wl i) (kT.getD i 0) (wl.getD i 0) := rfl
                obtain ⟨gw, lw⟩ := hwl i hi64
                have gk : kt[i]? = some (kT.getD i 0) := by
                  rw [← hkT]
                  have : i < kT.length := hi64
                  simp [List.getD, List.getElem?_eq_getElem this]
                have lk := kT_lt' ⟨i, hi64⟩
                simp only at lk
                generalize hcs : rnds st wl i = cs at *
                obtain ⟨o1, o2, o3, o4, o5, o6, o7, o8⟩ := hok
                have hch := ch_val o5 o6 o7
                have hmj := mj_val o1 o2 o3
                have ht1 := tn_val (a := 6) (b := 11) (c := 25) o5
                have ht2 := tn_val (a := 2) (b := 13) (c := 22) o1
                generalize kT.getD i 0 = k0 at *
                generalize wl.getD i 0 = w at *
                have e1 : (((((((cs.h : Int) + bitZ .xor .u32 (bitZ .xor .u32 (rl cs.e (32 - 6) : Nat) (rl cs.e (32 - 11) : Nat)) (rl cs.e (32 - 25) : Nat)) % 4294967296 + bitZ .xor .u32 (bitZ .and .u32 (cs.e : Int) (cs.f : Int)) (bitZ .and .u32 (notZ .u32 (cs.e : Int)) (cs.g : Int))) % 4294967296 + (k0 : Int)) % 4294967296 + (w : Int)) % 4294967296 + (bitZ .xor .u32 (bitZ .xor .u32 (rl cs.a (32 - 2) : Nat) (rl cs.a (32 - 13) : Nat)) (rl cs.a (32 - 22) : Nat) + bitZ .xor .u32 (bitZ .xor .u32 (bitZ .and .u32 (cs.a : Int) (cs.b : Int)) (bitZ .and .u32 (cs.a : Int) (cs.c : Int))) (bitZ .and .u32 (cs.b : Int) (cs.c : Int))) % 4294967296) % 4294967296) = ((rnds st wl (i + 1)).a : Int) := by
                  rw [hnx, hch, hmj, ht1, ht2]; simp only [roundF, t1f, t2f]; omega
                have e5 : (((cs.d : Int) + (((((cs.h : Int) + bitZ .xor .u32 (bitZ .xor .u32 (rl cs.e (32 - 6) : Nat) (rl cs.e (32 - 11) : Nat)) (rl cs.e (32 - 25) : Nat)) % 4294967296 + bitZ .xor .u32 (bitZ .and .u32 (cs.e : Int) (cs.f : Int)) (bitZ .and .u32 (notZ .u32 (cs.e : Int)) (cs.g : Int))) % 4294967296 + (k0 : Int)) % 4294967296 + (w : Int)) % 4294967296) % 4294967296) = ((rnds st wl (i + 1)).e : Int) := by
                  rw [hnx, hch, ht1]; simp only [roundF, t1f]; omega
                have f2 : (rnds st wl (i + 1)).b = cs.a := by rw [hnx]; rfl
                have f3 : (rnds st wl (i + 1)).c = cs.b := by rw [hnx]; rfl
                have f4 : (rnds st wl (i + 1)).d = cs.c := by rw [hnx]; rfl
                have f6 : (rnds st wl (i + 1)).f = cs.e := by rw [hnx]; rfl
                have f7 : (rnds st wl (i + 1)).g = cs.f := by rw [hnx]; rfl
                have f8 : (rnds st wl (i + 1)).h = cs.g := by rw [hnx]; rfl
                clear hch hmj ht1 ht2 hnx hB hcs hwl
                repeat' (first | with_reducible refine And.intro ?_ ?_ | ((with_reducible intro hc); (try simp only [zA, zB, zC, zD, zE, zF, zG, zH, zI, zJ, zK, zL, zM, zN, zO, zP, zQ, zR, zS, zT, zU, zV, zW] at hc); (first | (exact absurd rfl hc) | (exact absurd trivial hc) | (exfalso; omega) | skip)) | exact Is.mk rfl rfl | ((conv => whnf); first | with_reducible refine And.intro ?_ ?_ | with_reducible intro hx | exact Is.mk rfl rfl | (with_reducible first | apply Val.via | apply ValH.via) | refine ifB_intro ?_ ?_ | refine xA (by omega) ?_ | ((refine xB ?_); intro kw hk1 hk2) | refine xC (by omega) ?_ | refine xD ?_ | refine xE (by omega) ?_ | refine xF (by omega) ?_ | refine xG ?_ | refine xH ?_ | refine xI (by omega) ?_ | refine xJ (by omega) ?_ | (with_reducible refine stopA ?_) | refine Exists.intro _ (And.intro (by (first | exact vat_of vagg_w (mapw_at gk) (addfld rfl rfl (by omega)) | exact vat_of vagg_w (mapw_at gw) (addfld rfl rfl (by omega)))) ?_) | refine GOp.drawn (by rfl) (by rfl) (Nat.le_of_ble_eq_true (by rfl)) (by rfl) | refine GOp.via (by rfl) ?_ | refine GWP.drawY mixed _ (by kernel_rfl) (by rfl) ?_ | (first | (refine GCall.mk ((rturn_call cs.e o5 6 (by omega) (by omega) _).mono ?_); rintro _ _ ⟨rfl, rfl⟩) | (refine GCall.mk ((rturn_call cs.e o5 11 (by omega) (by omega) _).mono ?_); rintro _ _ ⟨rfl, rfl⟩) | (refine GCall.mk ((rturn_call cs.e o5 25 (by omega) (by omega) _).mono ?_); rintro _ _ ⟨rfl, rfl⟩) | (refine GCall.mk ((rturn_call cs.a o1 2 (by omega) (by omega) _).mono ?_); rintro _ _ ⟨rfl, rfl⟩) | (refine GCall.mk ((rturn_call cs.a o1 13 (by omega) (by omega) _).mono ?_); rintro _ _ ⟨rfl, rfl⟩) | (refine GCall.mk ((rturn_call cs.a o1 22 (by omega) (by omega) _).mono ?_); rintro _ _ ⟨rfl, rfl⟩)) | (with_reducible first | refine stopO ?_ | refine stopE ?_ | refine stopD ?_ | refine stopW ?_ | refine stopG ?_ | refine stopC ?_ | refine stopR ?_)))
                all_goals (first | omega | skip)
                focus (refine Done'.mk ⟨(i + 1), (by omega), ?_, KeptA.of [] rfl rfl (by repeat' (first | exact trivial | refine And.intro rfl ?_)) rfl ?_ ?_⟩; (first | omega | (simp only; omega)); all_goals (repeat' (first | exact trivial | (refine And.intro ?_ ?_) | (refine Exists.intro _ (And.intro rfl ?_)) | (refine RenO.opt ?_) | (refine RenO.toOpt ?_) | (refine RenO.cells ?_) | exact RenO.defs | exact RenL.nil | (refine RenL.cons ?_ ?_) | (first | (first | exact RenV.eq (scI_eq e1) (nameless_sc _) | exact RenV.eq (scI_eq (by rw [f2])) (nameless_sc _) | exact RenV.eq (scI_eq (by rw [f3])) (nameless_sc _) | exact RenV.eq (scI_eq (by rw [f4])) (nameless_sc _) | exact RenV.eq (scI_eq e5) (nameless_sc _) | exact RenV.eq (scI_eq (by rw [f6])) (nameless_sc _) | exact RenV.eq (scI_eq (by rw [f7])) (nameless_sc _) | exact RenV.eq (scI_eq (by rw [f8])) (nameless_sc _)) | (with_reducible exact RenV.sc) | exact RenV.gsN | exact RenV.gsZ | exact RenV.gsL (by decide) | exact RenV.slL (by decide) | ((first | refine RenV.gsE (by (first | exact List.Mem.head _ | exact List.Mem.tail _ (List.Mem.head _) | exact List.Mem.tail _ (List.Mem.tail _ (List.Mem.head _)) | (simp; done))) ?_ | refine RenV.eq (scI_eq ?_) (nameless_sc _)); (first | rfl | omega | (simp only [List.length_append, List.length_cons, List.length_nil, List.length_map, List.length_take, List.length_drop] <;> omega) | (simp only <;> omega) | (simp <;> omega))) | exact RenV.undef) | (with_unfolding_all exact (rfl : (_ : VObj) = _)))))
                -- ]]
              · obtain rfl : i = 64 := by omega
                have hend := hV_add st (rnds st wl 64) .junk .junk
                generalize rnds st wl 64 = s2 at *
                clear hwl
                repeat' (first | with_reducible refine And.intro ?_ ?_ | ((with_reducible intro hc); (try simp only [zA, zB, zC, zD, zE, zF, zG, zH, zI, zJ, zK, zL, zM, zN, zO, zP, zQ, zR, zS, zT, zU, zV, zW] at hc); (first | (exact absurd rfl hc) | (exact absurd trivial hc) | (exfalso; omega) | skip)) | exact Is.mk rfl rfl | ((conv => whnf); first | with_reducible refine And.intro ?_ ?_ | with_reducible intro hx | exact Is.mk rfl rfl | (with_reducible first | apply Val.via | apply ValH.via) | refine ifB_intro ?_ ?_ | refine xA (by omega) ?_ | ((refine xB ?_); intro kw hk1 hk2) | refine xC (by omega) ?_ | refine xD ?_ | refine xE (by omega) ?_ | refine xF (by omega) ?_ | refine xG ?_ | refine xH ?_ | refine xI (by omega) ?_ | refine xJ (by omega) ?_ | (with_reducible refine stopA ?_) | refine Exists.intro _ (And.intro (by rfl) ?_) | refine GOp.drawn (by rfl) (by rfl) (Nat.le_of_ble_eq_true (by rfl)) (by rfl) | refine GOp.via (by rfl) ?_ | refine GWP.drawY mixed _ (by kernel_rfl) (by rfl) ?_ | fail | (with_reducible first | refine stopO ?_ | refine stopE ?_ | refine stopD ?_ | refine stopW ?_ | refine stopG ?_ | refine stopC ?_ | refine stopR ?_)))
                all_goals (first | omega | skip)
                have hco : (st.add s2).ok := S8.add_ok st s2
                focus (refine Done'.mk ⟨(st.add s2, k + 1), ⟨hco, by simp only; omega, hB⟩, ?_, KeptA.of [] rfl rfl (by repeat' (first | exact trivial | refine And.intro rfl ?_)) rfl ?_ ?_⟩; (first | omega | (simp only; omega)); all_goals (repeat' (first | exact trivial | (refine And.intro ?_ ?_) | (refine Exists.intro _ (And.intro rfl ?_)) | (refine RenO.opt ?_) | (refine RenO.toOpt ?_) | (refine RenO.cells ?_) | exact RenO.defs | exact RenL.nil | (refine RenL.cons ?_ ?_) | (first | (first | exact RenV.eq (scI_eq (by simp only [S8.add]; omega)) (nameless_sc _) | exact RenV.eq (scI_eq (by omega)) (nameless_sc _)) | (with_reducible exact RenV.sc) | exact RenV.gsN | exact RenV.gsZ | exact RenV.gsL (by decide) | exact RenV.slL (by decide) | ((first | refine RenV.gsE (by (first | exact List.Mem.head _ | exact List.Mem.tail _ (List.Mem.head _) | exact List.Mem.tail _ (List.Mem.tail _ (List.Mem.head _)) | (simp; done))) ?_ | refine RenV.eq (scI_eq ?_) (nameless_sc _)); (first | rfl | omega | (simp only [List.length_append, List.length_cons, List.length_nil, List.length_map, List.length_take, List.length_drop] <;> omega) | (simp only <;> omega) | (simp <;> omega))) | exact RenV.undef) | (with_unfolding_all exact (rfl : (_ : VObj) = _)))))
        · have hkT3 : 64 * k = T := by omega
          rw [hkT3, List.drop_eq_nil_of_le (by omega), blkF_end (by simp)] at hB
          rw [← hB]
          simp only
          clear hB hk hkT3 hx64
          repeat' (first | with_reducible refine And.intro ?_ ?_ | ((with_reducible intro hc); (try simp only [zA, zB, zC, zD, zE, zF, zG, zH, zI, zJ, zK, zL, zM, zN, zO, zP, zQ, zR, zS, zT, zU, zV, zW] at hc); (first | (exact absurd rfl hc) | (exact absurd trivial hc) | (exfalso; omega) | skip)) | ((conv => whnf); first | with_reducible refine And.intro ?_ ?_ | refine ifB_intro ?_ ?_ | refine xA (by omega) ?_ | ((refine xB ?_); intro kw hk1 hk2) | refine xC (by omega) ?_ | refine xD ?_ | refine xE (by omega) ?_ | refine xF (by omega) ?_ | refine xG ?_ | refine xH ?_ | refine xI (by omega) ?_ | refine xJ (by omega) ?_ | (with_reducible refine stopA ?_) | refine Exists.intro _ (And.intro (by rfl) ?_) | (first | (refine GOp.stN (vs := List.replicate 32 (bV 0)) z32 (by rfl) (by rfl) (by rfl) (by rfl) l32 l32 o32 ?_)) | refine GOp.via (by rfl) ?_ | (with_reducible first | refine stopO ?_ | refine stopE ?_ | refine stopD ?_ | refine stopW ?_ | refine stopG ?_) | fail | (with_reducible refine stopC ?_) | (with_reducible refine stopR ?_)))
          all_goals (first | omega | skip)
          refine GWP'.keep [(2, .ptr 0 0), (4, .ptr 2 0), (26, .ptr 10 0), (27, iV 0)] 277 [(10, .cells true (List.replicate 32 (bV 0))), (2, .cells true (sV st)), (0, .cells true (List.replicate 32 (bV 0)))] 11 rfl ?_ rfl ?_ ?_
          · (repeat' (first | exact trivial | refine And.intro rfl ?_))
          · exact (by repeat' (first | exact trivial | refine And.intro rfl ?_))
          generalize hcs : sV st = cs
          conv => whnf
          refine stopW ?_
          (refine GWP'.mk (GWP.loopB [10] (fun (i : Nat) => i ≤ 32) (fun (i : Nat) => [(27, iV i)]) (fun (i : Nat) => [(10, .cells true ((st.bytes.take i).map bV ++ List.replicate (32 - i) (bV 0)))]) 11 (fun (i : Nat) => 32 - i) 0 (Nat.zero_le _) ?_); (conv => whnf); refine And.intro ?_ ?_)
          · focus (refine KeptA.of [] rfl rfl (by repeat' (first | exact trivial | refine And.intro rfl ?_)) rfl ?_ ?_; all_goals (repeat' (first | exact trivial | (refine And.intro ?_ ?_) | (refine Exists.intro _ (And.intro rfl ?_)) | (refine RenO.opt ?_) | (refine RenO.toOpt ?_) | (refine RenO.cells ?_) | exact RenO.defs | exact RenL.nil | (refine RenL.cons ?_ ?_) | (first | exact RenL.of (by intro v hv; rw [(List.mem_replicate.1 hv).2]; exact nameless_bV 0) | (with_reducible exact RenV.sc) | exact RenV.gsN | exact RenV.gsZ | exact RenV.gsL (by decide) | exact RenV.slL (by decide) | ((first | refine RenV.gsE (by (first | exact List.Mem.head _ | exact List.Mem.tail _ (List.Mem.head _) | exact List.Mem.tail _ (List.Mem.tail _ (List.Mem.head _)) | (simp; done))) ?_ | refine RenV.eq (scI_eq ?_) (nameless_sc _)); (first | rfl | omega | (simp only [List.length_append, List.length_cons, List.length_nil, List.length_map, List.length_take, List.length_drop] <;> omega) | (simp only <;> omega) | (simp <;> omega))) | exact RenV.undef) | (with_unfolding_all exact (rfl : (_ : VObj) = _)))))
          rintro i hi
          have h32 : st.bytes.length = 32 := by unfold S8.bytes w4; simp
          by_cases hi32 : i < 32
          ·
            -- [[
            have hba := bytes_at st hi32
            have hwl : cs[i / 4]? = some (wV (st.list.getD (i / 4) 0)) := by
              rw [← hcs]
              have : i / 4 = 0 ∨ i / 4 = 1 ∨ i / 4 = 2 ∨ i / 4 = 3 ∨ i / 4 = 4 ∨ i / 4 = 5 ∨ i / 4 = 6 ∨ i / 4 = 7 := by omega
              rcases this with e | e | e | e | e | e | e | e <;> rw [e] <;> rfl
            have hsh : ∀ kr : Nat, (kr : Int) = (i : Int) % 4 → shrZ .u32 ((st.list.getD (i / 4) 0 : Nat) : Int) (24 - 8 * (kr : Int)) = ((st.list.getD (i / 4) 0 / 2 ^ (24 - 8 * (i % 4)) : Nat) : Int) := fun kr hkr => by
              have := shr_u32 (a := st.list.getD (i / 4) 0) (k := 24 - 8 * (i % 4)) (by omega)
              rw [show ((24 - 8 * (i % 4) : Nat) : Int) = 24 - 8 * (kr : Int) by omega] at this
              exact this
            have hst2 : ∀ kr : Nat, (kr : Int) = (i : Int) % 4 → ((st.bytes.take i).map bV ++ List.replicate (32 - i) (bV 0)).set i (.sc (.int .u8 (shrZ .u32 ((st.list.getD (i / 4) 0 : Nat) : Int) (24 - 8 * (kr : Int)) % 256))) = (st.bytes.take (i + 1)).map bV ++ List.replicate (32 - (i + 1)) (bV 0) := fun kr hkr => by
              have hl : ((st.bytes.take i).map bV).length = i := by rw [List.length_map, List.length_take, h32]; omega
              rw [List.set_append_right _ _ (by omega), hl, Nat.sub_self, u8V_of (hsh kr hkr), take_next hba]
              obtain ⟨k, hk⟩ : ∃ k, 32 - i = k + 1 := ⟨31 - i, by omega⟩
              rw [hk, List.replicate_succ, List.set_cons_zero, show 32 - (i + 1) = k by omega]
              simp
            have hlen : i < ((st.bytes.take i).map bV ++ List.replicate (32 - i) (bV 0)).length := by
              rw [List.length_append, List.length_map, List.length_take, List.length_replicate, h32]; omega
            have hnl : ∀ v ∈ (st.bytes.take (i + 1)).map bV ++ List.replicate (32 - (i + 1)) (bV 0), Nameless v := by
              intro v hv
              rcases List.mem_append.1 hv with hv | hv
              · exact nameless_map nameless_bV _ v hv
              · rw [(List.mem_replicate.1 hv).2]; exact nameless_bV 0
            generalize st.list.getD (i / 4) 0 = wd at *
            clear hcs
            generalize (st.bytes.take i).map bV ++ List.replicate (32 - i) (bV 0) = row at *
            repeat' (first | (with_reducible refine And.intro ?_ ?_) | ((with_reducible intro hc); (try simp only [zA, zB, zC, zD, zE, zF, zG, zH, zI, zJ, zK, zL, zM, zN, zO, zP, zQ, zR, zS, zT, zU, zV, zW] at hc); (first | (exact absurd rfl hc) | (exact absurd trivial hc) | (exfalso; omega) | skip)) | ((conv => whnf); first | (with_reducible refine And.intro ?_ ?_) | (refine ifB_intro (fun hc => ?_) (fun hc => ?_) <;> (try simp only [zA, zB, zC, zD, zE, zF, zG, zH, zI, zJ, zK, zL, zM, zN, zO, zP, zQ, zR, zS, zT, zU, zV, zW] at hc) <;> (first | (exact absurd rfl hc) | (exact absurd trivial hc) | (exfalso; omega) | skip)) | (refine GQuo.nat (by omega) (fun kq hkq => ?_)) | (refine GRem.nat (by omega) (fun kr hkr => ?_)) | refine xA (by omega) ?_ | ((refine xB ?_); intro kw hk1 hk2) | refine xC (by omega) ?_ | refine xD ?_ | refine xE (by omega) ?_ | refine xF (by omega) ?_ | refine xG ?_ | refine xH ?_ | refine xI (by omega) ?_ | refine xJ (by omega) ?_ | (with_reducible refine stopA ?_) | (refine Exists.intro _ (And.intro (by exact vat_of vagg_w hwl (addfld rfl rfl (by omega))) ?_)) | (refine GOp.via (by rfl) ?_) | (with_reducible refine stopO ?_) | (with_reducible refine stopE ?_) | (with_reducible refine stopD ?_) | (with_reducible refine stopW ?_) | (with_reducible refine stopG ?_) | (with_reducible refine stopC ?_) | (with_reducible refine stopR ?_)))
            all_goals (first | omega | skip)
            apply GOp'.via
            case h => exact vop_store rfl (vstore_i8 (vs := row) (i := i) rfl (addfld rfl rfl (by omega)) hlen)
            repeat' (first | with_reducible refine And.intro ?_ ?_ | ((with_reducible intro hc); (try simp only [zA, zB, zC, zD, zE, zF, zG, zH, zI, zJ, zK, zL, zM, zN, zO, zP, zQ, zR, zS, zT, zU, zV, zW] at hc); (first | (exact absurd rfl hc) | (exact absurd trivial hc) | (exfalso; omega) | skip)) | ((conv => whnf); first | with_reducible refine And.intro ?_ ?_ | refine ifB_intro ?_ ?_ | refine xA (by omega) ?_ | ((refine xB ?_); intro kw hk1 hk2) | refine xC (by omega) ?_ | refine xD ?_ | refine xE (by omega) ?_ | refine xF (by omega) ?_ | refine xG ?_ | refine xH ?_ | refine xI (by omega) ?_ | refine xJ (by omega) ?_ | (with_reducible refine stopA ?_) | refine Exists.intro _ (And.intro (by rfl) ?_) | refine GOp.via (by rfl) ?_ | (with_reducible first | refine stopO ?_ | refine stopE ?_ | refine stopD ?_ | refine stopW ?_ | refine stopG ?_ | refine stopC ?_ | refine stopR ?_)))
            all_goals (first | omega | skip)
            focus (refine Done'.mk ⟨(i + 1), (by omega), ?_, KeptA.of [] rfl rfl (by repeat' (first | exact trivial | refine And.intro rfl ?_)) rfl ?_ ?_⟩; (first | omega | (simp only; omega)); all_goals (repeat' (first | exact trivial | (refine And.intro ?_ ?_) | (refine Exists.intro _ (And.intro rfl ?_)) | (refine RenO.opt ?_) | (refine RenO.toOpt ?_) | (refine RenO.cells ?_) | exact RenO.defs | exact RenL.nil | (refine RenL.cons ?_ ?_) | (first | (first | exact RenL.eq (hst2 kr hkr) hnl | exact RenV.eq (scI_eq (by omega)) (nameless_sc _)) | (with_reducible exact RenV.sc) | exact RenV.gsN | exact RenV.gsZ | exact RenV.gsL (by decide) | exact RenV.slL (by decide) | ((first | refine RenV.gsE (by (first | exact List.Mem.head _ | exact List.Mem.tail _ (List.Mem.head _) | exact List.Mem.tail _ (List.Mem.tail _ (List.Mem.head _)) | (simp; done))) ?_ | refine RenV.eq (scI_eq ?_) (nameless_sc _)); (first | rfl | omega | (simp only [List.length_append, List.length_cons, List.length_nil, List.length_map, List.length_take, List.length_drop] <;> omega) | (simp only <;> omega) | (simp <;> omega))) | exact RenV.undef) | (with_unfolding_all exact (rfl : (_ : VObj) = _)))))
            -- ]]
          · obtain rfl : i = 32 := by omega
            have heq : (st.bytes.take 32).map bV ++ List.replicate (32 - 32) (bV 0) = st.bytes.map bV := by
              rw [List.take_of_length_le (by omega)]
              simp
            rw [heq]
            clear hcs heq
            have hbl : (st.bytes.map bV).length = 32 := by rw [List.length_map, h32]
            have hb1 := one_map st.bytes
            generalize st.bytes.map bV = bs at *
            repeat' (first | with_reducible refine And.intro ?_ ?_ | ((with_reducible intro hc); (try simp only [zA, zB, zC, zD, zE, zF, zG, zH, zI, zJ, zK, zL, zM, zN, zO, zP, zQ, zR, zS, zT, zU, zV, zW] at hc); (first | (exact absurd rfl hc) | (exact absurd trivial hc) | (exfalso; omega) | skip)) | ((conv => whnf); first | with_reducible refine And.intro ?_ ?_ | refine ifB_intro ?_ ?_ | refine xA (by omega) ?_ | ((refine xB ?_); intro kw hk1 hk2) | refine xC (by omega) ?_ | refine xD ?_ | refine xE (by omega) ?_ | refine xF (by omega) ?_ | refine xG ?_ | refine xH ?_ | refine xI (by omega) ?_ | refine xJ (by omega) ?_ | (with_reducible refine stopA ?_) | refine Exists.intro _ (And.intro (by (exact vat_arr hbl rfl)) ?_) | (refine GOp.stN (vs := bs) z32 (by rfl) (by rfl) (by rfl) (by rfl) l32 hbl hb1 ?_) | refine GOp.via (by rfl) ?_ | (with_reducible first | refine stopO ?_ | refine stopE ?_ | refine stopD ?_ | refine stopW ?_ | refine stopG ?_) | fail | (with_reducible refine stopC ?_) | (with_reducible refine stopR ?_)))
            all_goals (first | omega | skip)
            conv => whnf
            split
            · rename_i v hv
              have e := hv.symm.trans (vresAll_arr (a := 2) (b := 0) (vs := bs) rfl rfl rfl hbl)
              injection e with e
              subst e
              exact stopD (Done'.mk rfl)
            · rename_i hv
              have e := hv.symm.trans (vresAll_arr (a := 2) (b := 0) (vs := bs) rfl rfl rfl hbl)
              cases e
end Go.Proofs.YtmmjgbdihgdekaaDoor

