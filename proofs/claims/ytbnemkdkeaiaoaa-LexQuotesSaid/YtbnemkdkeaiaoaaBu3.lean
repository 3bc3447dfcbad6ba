/- strings.Builder: String and Len, walked; a builder's calls at any names. -/
import Derived.Test.YtbnemkdkeaiaoaaBu2
import Derived.Test.YtbnemkdkeaiaoaaVk
namespace Go.Proofs.Ytbnemkdkeaiaoaa
open Go Go.RowKit
set_option linter.unusedSimpArgs false
set_option linter.unusedVariables false
set_option maxRecDepth 100000
set_option maxHeartbeats 4000000
theorem GWP.drawG1 {P : Program} {r : Option Nat} {id : Nat} {ops : Array Oper} {Q : Exit → VSt → Prop} {s : VSt} (hm : P.follows .mixedOrders = true) (al m n : Nat) (va : VV) (f : Heap → Heap) (hb : (backN 0 ops.toList && nodupN (dstsOf ops.toList) && fitN n ops && tailB ops.toList al m && Nat.blt al m) = true) (hlen : s.tmps.length = n)
    (h : match s with | ⟨ts0, H, md⟩ => forceNL (ancIn ops.toList m [m]) fun an => wdrawE P ops ts0 al m an va H (f H) (fun V H' => tAllE ops.toList V ts0 fun ts => Q .normal ⟨ts, H', md⟩) 0 ops.toList []) : GWP P r (.region id ops true) Q s := by
  obtain ⟨ts0, H, md⟩ := s
  exact GWP.drawE hm al m n va (f H) hb hlen h
theorem VCall.unraw {P : Program} {f : FuncId} {args : List VV} {b n : Nat} {O : List (Nat × VObj)} {t : TypeId} {Q : VV → Heap → Prop} (h : VCall P f args ⟨(b, .cells true [.sc (.pointer none), .sc (.slice none 0 0)]) :: O, n⟩ Q) : VCall P f args ⟨(b, .raw t [.pointer none, .slice none 0 0] (some 2)) :: O, n⟩ Q := fun B M Z ρ w ra h1 h2 => by
  have hg : (⟨(b, .raw t [.pointer none, .slice none 0 0] (some 2)) :: O, n⟩ : Heap).get b = some (.raw t [.pointer none, .slice none 0 0] (some 2)) := by simp [Heap.get, hget_cons]
  obtain ⟨k, N, o, g1, g2, ⟨rest, rfl, g3, g4⟩, _⟩ := h1.objC hg rfl
  have := (h1.turn hg g1 rfl rfl rfl rfl rfl rfl (fun _ _ => rfl) g2 (y := .cells true [.sc (.pointer none), .sc (.slice none 0 0)]) ⟨_, _, _, rfl, by simpa using g3, by simpa using pre_app (rest := rest) (Pw.cons (.sc (v := .pointer none) rfl) (Pw.cons (.sc (v := .slice none 0 0) rfl) Pw.nil)), .inl rfl⟩).2
  refine h B M Z ρ w ra (this.weaken rfl fun c x hx => ?_) h2
  rw [Heap.get_set]
  simp only [Heap.get, hget_cons] at hx ⊢
  split at hx
  · rename_i e
    subst e
    simp [hx]
  · rename_i e
    rw [if_neg e, if_neg e]
    exact hx
theorem bstr_call (u : Bool) (l : List UInt8) (hul : u = false → l = []) (hm : l.length ≤ 500000000) : VCall Try.prog 37 [.ptr 0 0] ⟨sbO u 0 1 l, 2⟩ (fun v K => v = strV l ∧ K = ⟨[], 2⟩) := by
  refine VCall.post (Q := fun v K => v = strV l ∧ K.next ≤ 2) ?_ ?_
  · cases l with
    | nil =>
      cases u with
      | false =>
        refine VCall.unraw ?_
        change VCall Try.prog _ _ ⟨[(0, .cells true [.sc (.pointer none), .sc (.slice none 0 0)]), (1, .opt [])], 2⟩ _
        refine VCall.go Try.func37 rfl ?_
        repeat' (first | with_reducible refine And.intro ?_ ?_ | ((with_reducible intro hc); (try simp only [zA, zB, zC, zD, zE, zF, zG, zH, zI, zJ, zK, zL, zM, zN, zO, zP, zQ, zR, zS, zT, zU, zV, zW] at hc); (first | (exact absurd rfl hc) | (exact absurd trivial hc) | (exfalso; omega) | skip)) | exact Is.mk rfl rfl | ((conv => whnf); first | with_reducible refine And.intro ?_ ?_ | with_reducible intro hx | exact Is.mk rfl rfl | (with_reducible first | apply Val.via | apply ValH.via) | refine ifB_intro ?_ ?_ | refine xA (by omega) ?_ | ((refine xB ?_); intro kw hk1 hk2) | refine xC (by omega) ?_ | refine xD ?_ | refine xE (by omega) ?_ | refine xF (by omega) ?_ | refine xG ?_ | refine xH ?_ | refine xI (by omega) ?_ | refine xJ (by omega) ?_ | (with_reducible refine stopA ?_) | refine Exists.intro _ (And.intro (by (first | exact vat_of rfl rfl rfl | rfl)) ?_) | refine GOp.drawn (by rfl) (by rfl) (Nat.le_of_ble_eq_true (by rfl)) (by rfl) | refine GOp.via (by rfl) ?_ | fail | (with_reducible first | refine stopO ?_ | refine stopE ?_ | refine stopD ?_ | refine stopW ?_ | refine stopG ?_ | refine stopC ?_ | refine stopR ?_)))
        (all_goals (first | omega | contradiction | skip))
        refine GWP'.mk (GWP.drawG1 mixed 10 11 14 (strV []) (fun H => H) (by kernel_rfl) (by rfl) ?_)
        repeat' (first | with_reducible refine And.intro ?_ ?_ | ((with_reducible intro hc); (try simp only [zA, zB, zC, zD, zE, zF, zG, zH, zI, zJ, zK, zL, zM, zN, zO, zP, zQ, zR, zS, zT, zU, zV, zW] at hc); (first | (exact absurd rfl hc) | (exact absurd trivial hc) | (exfalso; omega) | skip)) | exact Is.mk rfl rfl | ((conv => whnf); first | with_reducible refine And.intro ?_ ?_ | with_reducible intro hx | exact Is.mk rfl rfl | (with_reducible first | apply Val.via | apply ValH.via) | refine ifB_intro ?_ ?_ | refine xA (by omega) ?_ | ((refine xB ?_); intro kw hk1 hk2) | refine xC (by omega) ?_ | refine xD ?_ | refine xE (by omega) ?_ | refine xF (by omega) ?_ | refine xG ?_ | refine xH ?_ | refine xI (by omega) ?_ | refine xJ (by omega) ?_ | (with_reducible refine stopA ?_) | refine Exists.intro _ (And.intro (by (first | exact vat_of rfl rfl rfl | rfl)) ?_) | refine GOp.drawn (by rfl) (by rfl) (Nat.le_of_ble_eq_true (by rfl)) (by rfl) | refine GOp.via (by rfl) ?_ | refine GWP.drawY mixed _ (by kernel_rfl) (by rfl) ?_ | (first | (refine stopO (GOp'.sliceD0 rfl rfl ?_)) | (refine stopO (GOp'.uStr0 rfl rfl rfl ?_))) | (with_reducible first | refine stopO ?_ | refine stopE ?_ | refine stopD ?_ | refine stopW ?_ | refine stopG ?_ | refine stopC ?_ | refine stopR ?_)))
        (all_goals (first | omega | contradiction | skip))
        exact Done'.mk ⟨rfl, Nat.le_refl _⟩
      | true =>
        change VCall Try.prog _ _ ⟨[(0, .cells true [.ptr 0 0, .sc (.slice none 0 0)]), (1, .opt [])], 2⟩ _
        refine VCall.go Try.func37 rfl ?_
        repeat' (first | with_reducible refine And.intro ?_ ?_ | ((with_reducible intro hc); (try simp only [zA, zB, zC, zD, zE, zF, zG, zH, zI, zJ, zK, zL, zM, zN, zO, zP, zQ, zR, zS, zT, zU, zV, zW] at hc); (first | (exact absurd rfl hc) | (exact absurd trivial hc) | (exfalso; omega) | skip)) | exact Is.mk rfl rfl | ((conv => whnf); first | with_reducible refine And.intro ?_ ?_ | with_reducible intro hx | exact Is.mk rfl rfl | (with_reducible first | apply Val.via | apply ValH.via) | refine ifB_intro ?_ ?_ | refine xA (by omega) ?_ | ((refine xB ?_); intro kw hk1 hk2) | refine xC (by omega) ?_ | refine xD ?_ | refine xE (by omega) ?_ | refine xF (by omega) ?_ | refine xG ?_ | refine xH ?_ | refine xI (by omega) ?_ | refine xJ (by omega) ?_ | (with_reducible refine stopA ?_) | refine Exists.intro _ (And.intro (by (first | exact vat_of rfl rfl rfl | rfl)) ?_) | refine GOp.drawn (by rfl) (by rfl) (Nat.le_of_ble_eq_true (by rfl)) (by rfl) | refine GOp.via (by rfl) ?_ | fail | (with_reducible first | refine stopO ?_ | refine stopE ?_ | refine stopD ?_ | refine stopW ?_ | refine stopG ?_ | refine stopC ?_ | refine stopR ?_)))
        (all_goals (first | omega | contradiction | skip))
        refine GWP'.mk (GWP.drawG1 mixed 10 11 14 (strV []) (fun H => H) (by kernel_rfl) (by rfl) ?_)
        repeat' (first | with_reducible refine And.intro ?_ ?_ | ((with_reducible intro hc); (try simp only [zA, zB, zC, zD, zE, zF, zG, zH, zI, zJ, zK, zL, zM, zN, zO, zP, zQ, zR, zS, zT, zU, zV, zW] at hc); (first | (exact absurd rfl hc) | (exact absurd trivial hc) | (exfalso; omega) | skip)) | exact Is.mk rfl rfl | ((conv => whnf); first | with_reducible refine And.intro ?_ ?_ | with_reducible intro hx | exact Is.mk rfl rfl | (with_reducible first | apply Val.via | apply ValH.via) | refine ifB_intro ?_ ?_ | refine xA (by omega) ?_ | ((refine xB ?_); intro kw hk1 hk2) | refine xC (by omega) ?_ | refine xD ?_ | refine xE (by omega) ?_ | refine xF (by omega) ?_ | refine xG ?_ | refine xH ?_ | refine xI (by omega) ?_ | refine xJ (by omega) ?_ | (with_reducible refine stopA ?_) | refine Exists.intro _ (And.intro (by (first | exact vat_of rfl rfl rfl | rfl)) ?_) | refine GOp.drawn (by rfl) (by rfl) (Nat.le_of_ble_eq_true (by rfl)) (by rfl) | refine GOp.via (by rfl) ?_ | refine GWP.drawY mixed _ (by kernel_rfl) (by rfl) ?_ | (first | (refine stopO (GOp'.sliceD0 rfl rfl ?_)) | (refine stopO (GOp'.uStr0 rfl rfl rfl ?_))) | (with_reducible first | refine stopO ?_ | refine stopE ?_ | refine stopD ?_ | refine stopW ?_ | refine stopG ?_ | refine stopC ?_ | refine stopR ?_)))
        (all_goals (first | omega | contradiction | skip))
        exact Done'.mk ⟨rfl, Nat.le_refl _⟩
    | cons c r =>
      cases u with
      | false => exact absurd (hul rfl) (by simp)
      | true =>
        change VCall Try.prog _ _ ⟨[(0, .cells true [.ptr 0 0, .sl 1 0 (r.length + 1) none 1]), (1, .raw 5 ((c :: r).map byteV) none)], 2⟩ _
        refine VCall.go Try.func37 rfl ?_
        repeat' (first | with_reducible refine And.intro ?_ ?_ | ((with_reducible intro hc); (try simp only [zA, zB, zC, zD, zE, zF, zG, zH, zI, zJ, zK, zL, zM, zN, zO, zP, zQ, zR, zS, zT, zU, zV, zW] at hc); (first | (exact absurd rfl hc) | (exact absurd trivial hc) | (exfalso; omega) | skip)) | exact Is.mk rfl rfl | ((conv => whnf); first | with_reducible refine And.intro ?_ ?_ | with_reducible intro hx | exact Is.mk rfl rfl | (with_reducible first | apply Val.via | apply ValH.via) | refine ifB_intro ?_ ?_ | refine xA (by omega) ?_ | ((refine xB ?_); intro kw hk1 hk2) | refine xC (by omega) ?_ | refine xD ?_ | refine xE (by omega) ?_ | refine xF (by omega) ?_ | refine xG ?_ | refine xH ?_ | refine xI (by omega) ?_ | refine xJ (by omega) ?_ | (with_reducible refine stopA ?_) | refine Exists.intro _ (And.intro (by (first | exact vat_of rfl rfl rfl | rfl)) ?_) | refine GOp.drawn (by rfl) (by rfl) (Nat.le_of_ble_eq_true (by rfl)) (by rfl) | refine GOp.via (by rfl) ?_ | fail | (with_reducible first | refine stopO ?_ | refine stopE ?_ | refine stopD ?_ | refine stopW ?_ | refine stopG ?_ | refine stopC ?_ | refine stopR ?_)))
        (all_goals (first | omega | contradiction | skip))
        refine GWP'.mk (GWP.drawG1 mixed 10 11 14 (strV (c :: r)) (fun H => ⟨[(0, .cells true [.ptr 0 0, .sl 1 0 (r.length + 1) none 1])], 2⟩) (by kernel_rfl) (by rfl) ?_)
        repeat' (first | with_reducible refine And.intro ?_ ?_ | ((with_reducible intro hc); (try simp only [zA, zB, zC, zD, zE, zF, zG, zH, zI, zJ, zK, zL, zM, zN, zO, zP, zQ, zR, zS, zT, zU, zV, zW] at hc); (first | (exact absurd rfl hc) | (exact absurd trivial hc) | (exfalso; omega) | skip)) | exact Is.mk rfl rfl | ((conv => whnf); first | with_reducible refine And.intro ?_ ?_ | with_reducible intro hx | exact Is.mk rfl rfl | (with_reducible first | apply Val.via | apply ValH.via) | refine ifB_intro ?_ ?_ | refine xA (by omega) ?_ | ((refine xB ?_); intro kw hk1 hk2) | refine xC (by omega) ?_ | refine xD ?_ | refine xE (by omega) ?_ | refine xF (by omega) ?_ | refine xG ?_ | refine xH ?_ | refine xI (by omega) ?_ | refine xJ (by omega) ?_ | (with_reducible refine stopA ?_) | refine Exists.intro _ (And.intro (by (first | exact vat_of rfl rfl rfl | rfl)) ?_) | refine GOp.drawn (by rfl) (by rfl) (Nat.le_of_ble_eq_true (by rfl)) (by rfl) | refine GOp.via (by rfl) ?_ | refine GWP.drawY mixed _ (by kernel_rfl) (by rfl) ?_ | (first | (refine stopO (GOp'.sliceD rfl rfl (by simp) ?_)) | (refine stopO (GOp'.uStr (l := (c :: r)) (e := 5) rfl rfl rfl rfl rfl rfl (by simp) (by simp only [List.length_cons] at hm ⊢; omega) ?_))) | (with_reducible first | refine stopO ?_ | refine stopE ?_ | refine stopD ?_ | refine stopW ?_ | refine stopG ?_ | refine stopC ?_ | refine stopR ?_)))
        (all_goals (first | omega | contradiction | skip))
        exact Done'.mk ⟨rfl, Nat.le_refl _⟩
  · rintro v K ⟨rfl, h⟩
    exact ⟨strV l, ⟨[], 2⟩, ⟨rfl, rfl⟩, fun _ _ _ _ h => h, h, fun b x hx => by simp [Heap.get, hget] at hx⟩
end Go.Proofs.Ytbnemkdkeaiaoaa
