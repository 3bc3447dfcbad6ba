import Derived.Test.YtmmjgbdihgdekaaDoorG3
import Derived.Test.YtmmjgbdihgdekaaDoorG4
/- The program's Read of sixty-four signs, walked. -/
namespace Go.Proofs.YtmmjgbdihgdekaaDoor
open Go Go.RowKit
set_option linter.unusedSimpArgs false
set_option linter.unusedVariables false
set_option maxRecDepth 100000
set_option maxHeartbeats 4000000
def readV (t : List UInt8) : VV := match readP t with
  | some x => .tp [roB x, iV 0]
  | none => .tp [.ro 0 [], iV 2]
theorem readV_none {t : List UInt8} (h : readP t = none) : readV t = .tp [.ro 0 [], iV 2] := by unfold readV; rw [h]
theorem readV_some {t x : List UInt8} (h : readP t = some x) : readV t = .tp [roB x, iV 0] := by unfold readV; rw [h]
theorem frz_none {K : Heap} : Frz K (.tp [.sc (.slice none 0 0), iV 2]) (.tp [.ro 0 [], iV 2]) := Frz.tp (.cons Frz.nil0 (.cons (Frz.of (nameless_sc _)) .nil))
theorem readL_next {tl : Nat} {out t : List UInt8} {i : Nat} {p : List UInt8} (hi : i + 4 ≤ t.length) (hp : p = (t.drop i).take 4) : readL tl out (t.drop i) = match quadP p with
    | none => none
    | some bs => if bs.length < 3 ∧ out.length / 3 * 4 + 4 < tl then none else readL tl (out ++ bs) (t.drop (i + 4)) := by
  have h4 : (t.drop i).length = t.length - i := by simp
  rw [← List.drop_drop]
  match h : t.drop i with
  | a :: b :: c :: d :: r =>
    rw [h] at hp
    subst hp
    rfl
  | [] => rw [h] at h4; simp at h4; omega
  | [_] => rw [h] at h4; simp at h4; omega
  | [_, _] => rw [h] at h4; simp at h4; omega
  | [_, _, _] => rw [h] at h4; simp at h4; omega
theorem quadP_len {p bs : List UInt8} (h : quadP p = some bs) : bs.length ≤ 3 := by
  unfold quadP quadH at h
  split at h
  · cases h
  split at h
  · cases h
  split at h
  · cases h
  injection h with h
  rw [← h]
  simp
  omega
theorem quadN_call {p : List UInt8} (hp : p.length = 4) (h : quadP p = none) (H : Heap) : VCall Tryd.prog 111 [roB p] H (fun x K => x = .tp [.ro 0 [], booV false] ∧ K = H) := by
  rw [← quadR_none h]; exact quad_call p H hp
theorem quadS_call {p bs : List UInt8} (hp : p.length = 4) (h : quadP p = some bs) (H : Heap) : VCall Tryd.prog 111 [roB p] H (fun x K => x = .tp [roB bs, booV true] ∧ K = H) := by
  rw [← quadR_some h]; exact quad_call p H hp
theorem read_call (t : List UInt8) (H : Heap) (hl : t.length ≤ 1000) : VCall Tryd.prog 61 [roB t] H (fun x K => x = readV t ∧ K = H) := by
  refine VCall.frozen (Q := fun v K => Frz K v (readV t)) (by simp [nameless_roB]) ?_ (fun v K h => h)
  refine VCall.go Tryd.func61 rfl ?_
  repeat' (first | with_reducible refine And.intro ?_ ?_ | ((with_reducible intro hc); (try simp only [zA, zB, zC, zD, zE, zF, zG, zH, zI, zJ, zK, zL, zM, zN, zO, zP, zQ, zR, zS, zT, zU, zV, zW] at hc); (first | (exact absurd rfl hc) | (exact absurd trivial hc) | (exfalso; omega) | skip)) | ((conv => whnf); first | with_reducible refine And.intro ?_ ?_ | refine ifB_intro ?_ ?_ | refine xA (by omega) ?_ | ((refine xB ?_); intro kw hk1 hk2) | refine xC (by omega) ?_ | refine xD ?_ | refine xE (by omega) ?_ | refine xF (by omega) ?_ | refine xG ?_ | refine xH ?_ | refine xI (by omega) ?_ | refine xJ (by omega) ?_ | (with_reducible refine stopA ?_) | refine Exists.intro _ (And.intro (by (first | exact vat_of rfl rfl rfl)) ?_) | refine GOp.via (by rfl) ?_ | (with_reducible first | refine stopO ?_ | refine stopE ?_ | refine stopD ?_ | refine stopW ?_ | refine stopG ?_) | (refine GCall.mk (VCall.inl Tryd.func106 rfl ?_)) | (with_reducible refine stopC ?_) | (with_reducible refine stopR ?_)))
  all_goals (first | omega | skip)
  · refine Done'.mk ?_
    rw [readV_none (by unfold readP; rw [if_pos (by omega)])]
    exact frz_none
  have ht4 : t.length % 4 = 0 := by omega
  have hR : readP t = readL t.length [] (t.drop 0) := by unfold readP; rw [if_neg (by omega)]; rfl
  refine GWP'.mk (GWP.range0 rfl rfl ?_)
  change VCall Tryd.prog 143 [.yl 7, .ptr 4 0, .ptr 5 0] ⟨[(7, .loop _ _ _ _ .ready none 6), (6, .defs), (5, .cells true [iV 4]), (4, .cells true [roB t]), (3, .cells true [.sc (.slice none 0 0)]), (2, .cells true [iV 0]), (1, .cells true [.sc (.slice none 0 0)]), (0, .cells true [roB t])], 8⟩ _
  refine VCall.go Tryd.func143 rfl ?_
  repeat' (first | with_reducible refine And.intro ?_ ?_ | ((with_reducible intro hc); (try simp only [zA, zB, zC, zD, zE, zF, zG, zH, zI, zJ, zK, zL, zM, zN, zO, zP, zQ, zR, zS, zT, zU, zV, zW] at hc); (first | (exact absurd rfl hc) | (exact absurd trivial hc) | (exfalso; omega) | skip)) | ((conv => whnf); first | with_reducible refine And.intro ?_ ?_ | refine ifB_intro ?_ ?_ | refine xA (by omega) ?_ | ((refine xB ?_); intro kw hk1 hk2) | refine xC (by omega) ?_ | refine xD ?_ | refine xE (by omega) ?_ | refine xF (by omega) ?_ | refine xG ?_ | refine xH ?_ | refine xI (by omega) ?_ | refine xJ (by omega) ?_ | (with_reducible refine stopA ?_) | refine Exists.intro _ (And.intro (by exact vat_of rfl rfl rfl) ?_) | refine GOp.via (by rfl) ?_ | (with_reducible first | refine stopO ?_ | refine stopE ?_ | refine stopD ?_ | refine stopW ?_ | refine stopG ?_ | refine stopC ?_ | refine stopR ?_)))
  (refine GWP'.mk (GWP.loopB [3] (fun (a : List UInt8 × Nat) => a.2 ≤ t.length ∧ a.2 % 4 = 0 ∧ readL t.length a.1 (t.drop a.2) = readP t ∧ a.1.length ≤ a.2) (fun a => [(4, iV a.2)]) (fun a => [(3, .cells true [.gs 8 a.1.length 1]), (8, .opt (a.1.map bV))]) 9 (fun a => t.length - a.2) ([], 0) ⟨Nat.zero_le _, rfl, hR.symm, Nat.le_refl _⟩ ?_); (conv => whnf); refine And.intro ?_ ?_)
  · focus (refine KeptA.of [] rfl rfl (by repeat' (first | exact trivial | refine And.intro rfl ?_)) rfl ?_ ?_; all_goals (repeat' (first | exact trivial | (refine And.intro ?_ ?_) | (refine Exists.intro _ (And.intro rfl ?_)) | (refine RenO.opt ?_) | (refine RenO.toOpt ?_) | (refine RenO.cells ?_) | exact RenO.defs | exact RenL.nil | (refine RenL.cons ?_ ?_) | (first | (refine RenL.eq (by simp) (nameless_map nameless_bV _)) | (with_reducible exact RenV.sc) | exact RenV.gsN | exact RenV.gsZ | exact RenV.gsL (by decide) | exact RenV.slL (by decide) | ((first | refine RenV.gsE (by (first | exact List.Mem.head _ | exact List.Mem.tail _ (List.Mem.head _) | exact List.Mem.tail _ (List.Mem.tail _ (List.Mem.head _)) | (simp; done))) ?_ | refine RenV.eq (scI_eq ?_) (nameless_sc _)); (first | rfl | omega | (simp only [List.length_append, List.length_cons, List.length_nil, List.length_map, List.length_take, List.length_drop] <;> omega) | (simp only <;> omega) | (simp <;> omega))) | exact RenV.undef) | (with_unfolding_all exact (rfl : (_ : VObj) = _)))))
  rintro ⟨out, i⟩ ⟨h1, h2, h3, h4⟩
  simp only at h1 h2 h3 h4 ⊢
  by_cases hil : i < t.length
  · have hi4 : i + 4 ≤ t.length := by omega
    have hmin : minZ 4 ((t.length - ((i : Int)).toNat : Nat) : Int) = 4 := by unfold minZ; split <;> omega
    obtain ⟨p, hp⟩ : ∃ p, p = (t.drop i).take 4 := ⟨_, rfl⟩
    have hpl : p.length = 4 := by rw [hp]; simp; omega
    have hpe : (t.drop ((i : Int)).toNat).take (((i : Int) + minZ 4 ((t.length - ((i : Int)).toNat : Nat) : Int)).toNat - ((i : Int)).toNat) = p := by
      rw [hmin, hp, Int.toNat_natCast, show ((i : Int) + 4).toNat - i = 4 by omega]
    have hnext := readL_next (tl := t.length) (out := out) hi4 hp
    repeat' (first | with_reducible refine And.intro ?_ ?_ | ((with_reducible intro hc); (try simp only [zA, zB, zC, zD, zE, zF, zG, zH, zI, zJ, zK, zL, zM, zN, zO, zP, zQ, zR, zS, zT, zU, zV, zW] at hc); (first | (exact absurd rfl hc) | (exact absurd trivial hc) | (exfalso; omega) | skip)) | exact Is.mk rfl rfl | ((conv => whnf); first | with_reducible refine And.intro ?_ ?_ | with_reducible intro hx | exact Is.mk rfl rfl | (with_reducible first | apply Val.via | apply ValH.via) | refine ifB_intro ?_ ?_ | refine xA (by omega) ?_ | ((refine xB ?_); intro kw hk1 hk2) | refine xC (by omega) ?_ | refine xD ?_ | refine xE (by omega) ?_ | refine xF (by omega) ?_ | refine xG ?_ | refine xH ?_ | refine xI (by omega) ?_ | refine xJ (by omega) ?_ | (with_reducible refine stopA ?_) | refine Exists.intro _ (And.intro (by (first | exact vat_of rfl rfl rfl)) ?_) | refine GOp.drawn (by rfl) (by rfl) (Nat.le_of_ble_eq_true (by rfl)) (by rfl) | refine GOp.via (by rfl) ?_ | refine GWP.drawY mixed _ (by kernel_rfl) (by rfl) ?_ | fail | (with_reducible first | refine stopO ?_ | refine stopE ?_ | refine stopD ?_ | refine stopW ?_ | refine stopG ?_ | refine stopC ?_ | refine stopR ?_)))
    all_goals (first | omega | skip)
    refine GOp'.sl3 (l := t) rfl rfl rfl rfl rfl rfl rfl ⟨by omega, by omega, by omega⟩ ?_
    rw [hpe]
    clear hpe hp hmin
    cases hqp : quadP p with
    | none =>
      rw [hqp] at hnext
      simp only at hnext
      repeat' (first | with_reducible refine And.intro ?_ ?_ | ((with_reducible intro hc); (try simp only [zA, zB, zC, zD, zE, zF, zG, zH, zI, zJ, zK, zL, zM, zN, zO, zP, zQ, zR, zS, zT, zU, zV, zW] at hc); (first | (exact absurd rfl hc) | (exact absurd trivial hc) | (exfalso; omega) | skip)) | ((conv => whnf); first | with_reducible refine And.intro ?_ ?_ | refine ifB_intro ?_ ?_ | refine xA (by omega) ?_ | ((refine xB ?_); intro kw hk1 hk2) | refine xC (by omega) ?_ | refine xD ?_ | refine xE (by omega) ?_ | refine xF (by omega) ?_ | refine xG ?_ | refine xH ?_ | refine xI (by omega) ?_ | refine xJ (by omega) ?_ | (with_reducible refine stopA ?_) | refine Exists.intro _ (And.intro (by rfl) ?_) | refine GOp.via (by rfl) ?_ | (with_reducible first | refine stopO ?_ | refine stopE ?_ | refine stopD ?_ | refine stopW ?_ | refine stopG ?_ | refine stopC ?_ | refine stopR ?_)))
      (refine GRound'.mk (VRound.go rfl rfl ?_))
      repeat' (first | with_reducible refine And.intro ?_ ?_ | ((with_reducible intro hc); (try simp only [zA, zB, zC, zD, zE, zF, zG, zH, zI, zJ, zK, zL, zM, zN, zO, zP, zQ, zR, zS, zT, zU, zV, zW] at hc); (first | (exact absurd rfl hc) | (exact absurd trivial hc) | (exfalso; omega) | skip)) | exact Is.mk rfl rfl | ((conv => whnf); first | with_reducible refine And.intro ?_ ?_ | with_reducible intro hx | exact Is.mk rfl rfl | (with_reducible first | apply Val.via | apply ValH.via) | refine ifB_intro ?_ ?_ | refine xA (by omega) ?_ | ((refine xB ?_); intro kw hk1 hk2) | refine xC (by omega) ?_ | refine xD ?_ | refine xE (by omega) ?_ | refine xF (by omega) ?_ | refine xG ?_ | refine xH ?_ | refine xI (by omega) ?_ | refine xJ (by omega) ?_ | (with_reducible refine stopA ?_) | refine Exists.intro _ (And.intro (by (first | exact vat_of rfl rfl rfl | rfl)) ?_) | refine GOp.drawn (by rfl) (by rfl) (Nat.le_of_ble_eq_true (by rfl)) (by rfl) | refine GOp.via (by rfl) ?_ | refine GWP.drawY mixed _ (by kernel_rfl) (by rfl) ?_ | (refine GCall.mk ((quadN_call hpl hqp _).mono ?_); rintro _ _ ⟨rfl, rfl⟩) | (with_reducible first | refine stopO ?_ | refine stopE ?_ | refine stopD ?_ | refine stopW ?_ | refine stopG ?_ | refine stopC ?_ | refine stopR ?_)))
      all_goals (first | omega | skip)
      (refine Done'.mk ⟨_, _, _, _, _, _, _, rfl, (by intro h; cases h), ?_⟩)
      repeat' (first | with_reducible refine And.intro ?_ ?_ | ((with_reducible intro hc); (try simp only [zA, zB, zC, zD, zE, zF, zG, zH, zI, zJ, zK, zL, zM, zN, zO, zP, zQ, zR, zS, zT, zU, zV, zW] at hc); (first | (exact absurd rfl hc) | (exact absurd trivial hc) | (exfalso; omega) | skip)) | ((conv => whnf); first | with_reducible refine And.intro ?_ ?_ | refine ifB_intro ?_ ?_ | refine xA (by omega) ?_ | ((refine xB ?_); intro kw hk1 hk2) | refine xC (by omega) ?_ | refine xD ?_ | refine xE (by omega) ?_ | refine xF (by omega) ?_ | refine xG ?_ | refine xH ?_ | refine xI (by omega) ?_ | refine xJ (by omega) ?_ | (with_reducible refine stopA ?_) | refine Exists.intro _ (And.intro (by exact vat_of rfl rfl rfl) ?_) | refine GOp.via (by rfl) ?_ | (with_reducible first | refine stopO ?_ | refine stopE ?_ | refine stopD ?_ | refine stopW ?_ | refine stopG ?_ | refine stopC ?_ | refine stopR ?_)))
      refine Done'.mk ?_
      rw [readV_none (by rw [← h3, hnext])]
      exact frz_none
    | some bs =>
      rw [hqp] at hnext
      simp only at hnext
      have hbl := quadP_len hqp
      repeat' (first | with_reducible refine And.intro ?_ ?_ | ((with_reducible intro hc); (try simp only [zA, zB, zC, zD, zE, zF, zG, zH, zI, zJ, zK, zL, zM, zN, zO, zP, zQ, zR, zS, zT, zU, zV, zW] at hc); (first | (exact absurd rfl hc) | (exact absurd trivial hc) | (exfalso; omega) | skip)) | ((conv => whnf); first | with_reducible refine And.intro ?_ ?_ | refine ifB_intro ?_ ?_ | refine xA (by omega) ?_ | ((refine xB ?_); intro kw hk1 hk2) | refine xC (by omega) ?_ | refine xD ?_ | refine xE (by omega) ?_ | refine xF (by omega) ?_ | refine xG ?_ | refine xH ?_ | refine xI (by omega) ?_ | refine xJ (by omega) ?_ | (with_reducible refine stopA ?_) | refine Exists.intro _ (And.intro (by rfl) ?_) | refine GOp.via (by rfl) ?_ | (with_reducible first | refine stopO ?_ | refine stopE ?_ | refine stopD ?_ | refine stopW ?_ | refine stopG ?_ | refine stopC ?_ | refine stopR ?_)))
      (refine GRound'.mk (VRound.go rfl rfl ?_))
      repeat' (first | with_reducible refine And.intro ?_ ?_ | ((with_reducible intro hc); (try simp only [zA, zB, zC, zD, zE, zF, zG, zH, zI, zJ, zK, zL, zM, zN, zO, zP, zQ, zR, zS, zT, zU, zV, zW] at hc); (first | (exact absurd rfl hc) | (exact absurd trivial hc) | (exfalso; omega) | skip)) | exact Is.mk rfl rfl | ((conv => whnf); first | with_reducible refine And.intro ?_ ?_ | with_reducible intro hx | exact Is.mk rfl rfl | (with_reducible first | apply Val.via | apply ValH.via) | refine ifB_intro ?_ ?_ | refine xA (by omega) ?_ | ((refine xB ?_); intro kw hk1 hk2) | refine xC (by omega) ?_ | refine xD ?_ | refine xE (by omega) ?_ | refine xF (by omega) ?_ | refine xG ?_ | refine xH ?_ | refine xI (by omega) ?_ | refine xJ (by omega) ?_ | (with_reducible refine stopA ?_) | refine Exists.intro _ (And.intro (by (first | exact vat_of rfl rfl rfl | rfl)) ?_) | refine GOp.drawn (by rfl) (by rfl) (Nat.le_of_ble_eq_true (by rfl)) (by rfl) | refine GOp.via (by rfl) ?_ | refine GWP.drawY mixed _ (by kernel_rfl) (by rfl) ?_ | (first | (refine GCall.mk ((quadS_call hpl hqp _).mono ?_); rintro _ _ ⟨rfl, rfl⟩) | (refine stopO (GOp'.grow rfl sty_b (d := .slice 5) Tryd.underlying22 (by intro k h; cases h) rfl (velems_roB bs _) (one_map bs) rfl (by simp) (by omega) (by omega) ?_))) | (with_reducible first | refine stopO ?_ | refine stopE ?_ | refine stopD ?_ | refine stopW ?_ | refine stopG ?_ | refine stopC ?_ | refine stopR ?_)))
      all_goals (first | omega | skip)
      · (refine Done'.mk ⟨_, _, _, _, _, _, _, rfl, (by intro h; cases h), ?_⟩)
        repeat' (first | with_reducible refine And.intro ?_ ?_ | ((with_reducible intro hc); (try simp only [zA, zB, zC, zD, zE, zF, zG, zH, zI, zJ, zK, zL, zM, zN, zO, zP, zQ, zR, zS, zT, zU, zV, zW] at hc); (first | (exact absurd rfl hc) | (exact absurd trivial hc) | (exfalso; omega) | skip)) | ((conv => whnf); first | with_reducible refine And.intro ?_ ?_ | refine ifB_intro ?_ ?_ | refine xA (by omega) ?_ | ((refine xB ?_); intro kw hk1 hk2) | refine xC (by omega) ?_ | refine xD ?_ | refine xE (by omega) ?_ | refine xF (by omega) ?_ | refine xG ?_ | refine xH ?_ | refine xI (by omega) ?_ | refine xJ (by omega) ?_ | (with_reducible refine stopA ?_) | refine Exists.intro _ (And.intro (by exact vat_of rfl rfl rfl) ?_) | refine GOp.via (by rfl) ?_ | (with_reducible first | refine stopO ?_ | refine stopE ?_ | refine stopD ?_ | refine stopW ?_ | refine stopG ?_ | refine stopC ?_ | refine stopR ?_)))
        refine Done'.mk ?_
        rw [readV_none (by rw [← h3, hnext, if_pos (by omega)])]
        exact frz_none
      all_goals (rw [if_neg (by omega)] at hnext; focus (refine Done'.mk ⟨(out ++ bs, i + 4), ⟨by simp only; omega, by simp only; omega, by simp only; rw [← hnext]; exact h3, by simp only [List.length_append]; omega⟩, ?_, KeptA.of [(9, 8)] rfl rfl (by repeat' (first | exact trivial | refine And.intro rfl ?_)) rfl ?_ ?_⟩; (first | omega | (simp only; omega)); all_goals (repeat' (first | exact trivial | (refine And.intro ?_ ?_) | (refine Exists.intro _ (And.intro rfl ?_)) | (refine RenO.opt ?_) | (refine RenO.toOpt ?_) | (refine RenO.cells ?_) | exact RenO.defs | exact RenL.nil | (refine RenL.cons ?_ ?_) | (first | (refine RenL.eq (by simp) (nameless_map nameless_bV _)) | (with_reducible exact RenV.sc) | exact RenV.gsN | exact RenV.gsZ | exact RenV.gsL (by decide) | exact RenV.slL (by decide) | ((first | refine RenV.gsE (by (first | exact List.Mem.head _ | exact List.Mem.tail _ (List.Mem.head _) | exact List.Mem.tail _ (List.Mem.tail _ (List.Mem.head _)) | (simp; done))) ?_ | refine RenV.eq (scI_eq ?_) (nameless_sc _)); (first | rfl | omega | (simp only [List.length_append, List.length_cons, List.length_nil, List.length_map, List.length_take, List.length_drop] <;> omega) | (simp only <;> omega) | (simp <;> omega))) | exact RenV.undef) | (with_unfolding_all exact (rfl : (_ : VObj) = _))))))
  · have hie : i = t.length := by omega
    subst hie
    rw [List.drop_length] at h3
    have hr : readP t = some out := by rw [← h3]; rfl
    repeat' (first | with_reducible refine And.intro ?_ ?_ | ((with_reducible intro hc); (try simp only [zA, zB, zC, zD, zE, zF, zG, zH, zI, zJ, zK, zL, zM, zN, zO, zP, zQ, zR, zS, zT, zU, zV, zW] at hc); (first | (exact absurd rfl hc) | (exact absurd trivial hc) | (exfalso; omega) | skip)) | ((conv => whnf); first | with_reducible refine And.intro ?_ ?_ | refine ifB_intro ?_ ?_ | refine xA (by omega) ?_ | ((refine xB ?_); intro kw hk1 hk2) | refine xC (by omega) ?_ | refine xD ?_ | refine xE (by omega) ?_ | refine xF (by omega) ?_ | refine xG ?_ | refine xH ?_ | refine xI (by omega) ?_ | refine xJ (by omega) ?_ | (with_reducible refine stopA ?_) | refine Exists.intro _ (And.intro (by exact vat_of rfl rfl rfl) ?_) | refine GOp.via (by rfl) ?_ | (with_reducible first | refine stopO ?_ | refine stopE ?_ | refine stopD ?_ | refine stopW ?_ | refine stopG ?_ | refine stopC ?_ | refine stopR ?_)))
    all_goals (first | omega | skip)
    (refine Done'.mk ⟨_, _, _, _, _, _, _, rfl, (by intro h; cases h), ?_⟩)
    repeat' (first | with_reducible refine And.intro ?_ ?_ | ((with_reducible intro hc); (try simp only [zA, zB, zC, zD, zE, zF, zG, zH, zI, zJ, zK, zL, zM, zN, zO, zP, zQ, zR, zS, zT, zU, zV, zW] at hc); (first | (exact absurd rfl hc) | (exact absurd trivial hc) | (exfalso; omega) | skip)) | exact Is.mk rfl rfl | ((conv => whnf); first | with_reducible refine And.intro ?_ ?_ | with_reducible intro hx | exact Is.mk rfl rfl | (with_reducible first | apply Val.via | apply ValH.via) | refine ifB_intro ?_ ?_ | refine xA (by omega) ?_ | ((refine xB ?_); intro kw hk1 hk2) | refine xC (by omega) ?_ | refine xD ?_ | refine xE (by omega) ?_ | refine xF (by omega) ?_ | refine xG ?_ | refine xH ?_ | refine xI (by omega) ?_ | refine xJ (by omega) ?_ | (with_reducible refine stopA ?_) | refine Exists.intro _ (And.intro (by (first | exact vat_of rfl rfl rfl)) ?_) | refine GOp.drawn (by rfl) (by rfl) (Nat.le_of_ble_eq_true (by rfl)) (by rfl) | refine GOp.via (by rfl) ?_ | refine GWP.drawY mixed _ (by kernel_rfl) (by rfl) ?_ | fail | (with_reducible first | refine stopO ?_ | refine stopE ?_ | refine stopD ?_ | refine stopW ?_ | refine stopG ?_ | refine stopC ?_ | refine stopR ?_)))
    all_goals (first | omega | skip)
    refine Done'.mk ?_
    rw [readV_some hr]
    exact Frz.tp (.cons (frz_gsB rfl) (.cons (Frz.of (nameless_sc _)) .nil))
end Go.Proofs.YtmmjgbdihgdekaaDoor

