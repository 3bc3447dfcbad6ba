import Derived.Test.YthjfobafdclafaaDoorG3
import Derived.Test.YthjfobafdclafaaDoorE6
import Derived.Test.YthjfobafdclafaaDoorG1
/- bytes.Cut of the rest, and what stands behind "[", walked. -/
namespace Go.Proofs.YthjfobafdclafaaDoor
open Go Go.RowKit
set_option linter.unusedSimpArgs false
set_option linter.unusedVariables false
set_option maxRecDepth 100000
set_option maxHeartbeats 8000000
theorem index1_call (l : List UInt8) (b : UInt8) (H : Heap) : VCall Tryd.prog 60 [roB l, roB [b]] H (fun x K => x = iV (idxB l b) ∧ K = H) := by
  refine VCall.pure (by simp [nameless_roB]) (nameless_sc _) ?_
  refine VCall.go Tryd.func60 rfl ?_
  repeat' (first|with_reducible refine And.intro ?_ ?_|((with_reducible intro hc);(try simp only [zA,zB,zC,zD,zE,zF,zG,zH,zI,zJ,zK,zL,zM,zN,zO,zP,zQ,zR,zS,zT,zU,zV,zW] at hc);(first|exact absurd rfl hc|exact absurd trivial hc|(exfalso;omega)|skip))|((conv => whnf);first|with_reducible refine And.intro ?_ ?_|refine ifB_intro ?_ ?_|refine xA (by omega) ?_|(refine xB ?_;intro kw hk1 hk2)|refine xC (by omega) ?_|refine xD ?_|refine xE (by omega) ?_|refine xF (by omega) ?_|refine xG ?_|refine xH ?_|refine xI (by omega) ?_|refine xJ (by omega) ?_|(with_reducible refine stopA ?_)|refine Exists.intro _ (And.intro (by (first|exact vat_of rfl rfl rfl|rfl)) ?_)|refine GOp.via (by rfl) ?_|(with_reducible first|refine stopO ?_|refine stopE ?_|refine stopD ?_|refine stopW ?_|refine stopG ?_)|(refine GCall.mk ((indexByte_call l b _).mono ?_);rintro _ _ ⟨rfl,rfl⟩)|(with_reducible refine stopC ?_)|(with_reducible refine stopR ?_)))
  (all_goals (first|omega|(rw [List.length_map];done)|(rw [List.length_map];omega)|contradiction|skip))
  · simp
  exact Done'.mk rfl
theorem cutRest_call {t s : List UInt8} (hs : s <:+ t) (ht : t.length ≤ 100000) (b : UInt8) {H : Heap} {k : Nat} (h0 : H.get 0 = some (.cells true (t.map bV))) (hk : H.get k = some (.cells true [bV b])) : VCall Tryd.prog 58 [restV t.length s, .sl k 0 1 (some 1) 1] H (fun v K => v = (if (cutB s b).2.2 = true then .tp [.sl 0 (t.length - s.length) (cutB s b).1.length none 1, restV t.length (cutB s b).2.1, booV true] else .tp [restV t.length s, .sc (.slice none 0 0), booV false]) ∧ K = H) := by
  have hsl := hs.length_le
  have k1 : VCall Tryd.prog 60 [restV t.length s, .sl k 0 1 (some 1) 1] H (fun v K => v = iV (idxB s b) ∧ K = H) :=
    VCall.viewed (args' := [roB s, roB [b]]) (Q := fun v K => v = iV (idxB s b)) (.cons (restV_view hs h0) (.cons (view_rowZ (l := [b]) hk rfl) .nil)) ((index1_call s b _).mono fun v K h => h.1) (fun v K e => by subst e; exact Frx.of (exact_sc _))
  unfold cutB
  by_cases hb : s.contains b = true
  · have hlt := List.idxOf_lt_length_of_mem (a := b) (l := s) (by simpa using hb)
    have hi : idxB s b = (s.idxOf b : Int) := by unfold idxB; rw [if_pos hb]
    rw [hi] at k1
    rw [if_pos hb]
    simp only [if_true]
    generalize s.idxOf b = i at *
    cases s with
    | nil => simp only [List.length_nil] at hlt; omega
    | cons c r =>
      simp only [List.length_cons] at hlt hsl
      have hw1 : (t.length - (r.length + 1)) + 0 = t.length - (c :: r).length := by simp
      have hw2 : i - 0 = ((c :: r).take i).length := by rw [List.length_take, List.length_cons]; omega
      obtain ⟨w, hw⟩ : ∃ w : Unit → VV, w = fun _ => VV.tp [.sl 0 (t.length - (c :: r).length) ((c :: r).take i).length none 1, restV t.length ((c :: r).drop (i + 1)), booV true] := ⟨_, rfl⟩
      rw [← congrFun hw ()]
      by_cases hlast : i + 1 = r.length + 1
      · have hdr : (c :: r).drop (i + 1) = [] := List.drop_eq_nil_of_le (by rw [List.length_cons]; omega)
        rw [hdr] at hw
        refine VCall.go Tryd.func58 rfl ?_
        repeat' (first|with_reducible refine And.intro ?_ ?_|((with_reducible intro hc);(try simp only [zA,zB,zC,zD,zE,zF,zG,zH,zI,zJ,zK,zL,zM,zN,zO,zP,zQ,zR,zS,zT,zU,zV,zW] at hc);(first|exact absurd rfl hc|exact absurd trivial hc|(exfalso;omega)|skip))|exact Is.mk rfl rfl|((conv => whnf);first|with_reducible refine And.intro ?_ ?_|with_reducible intro hx|exact Is.mk rfl rfl|(with_reducible first|apply Val.via|apply ValH.via)|refine ifB_intro ?_ ?_|refine xA (by omega) ?_|(refine xB ?_;intro kw hk1 hk2)|refine xC (by omega) ?_|refine xD ?_|refine xE (by omega) ?_|refine xF (by omega) ?_|refine xG ?_|refine xH ?_|refine xI (by omega) ?_|refine xJ (by omega) ?_|(with_reducible refine stopA ?_)|refine Exists.intro _ (And.intro (by (first|exact vat_of rfl rfl rfl|rfl)) ?_)|refine GOp.drawn (by rfl) (by rfl) (Nat.le_of_ble_eq_true (by rfl)) (by rfl)|refine GOp.via (by rfl) ?_|refine GWP.drawY mixed _ (by kernel_rfl) (by rfl) ?_|(refine GCall.mk ((k1).mono ?_);rintro _ _ ⟨rfl,rfl⟩)|(with_reducible first|refine stopO ?_|refine stopE ?_|refine stopD ?_|refine stopW ?_|refine stopG ?_|refine stopC ?_|refine stopR ?_)))
        (all_goals (first|omega|(rw [List.length_map];done)|(rw [List.length_map];omega)|contradiction|skip))
        refine GOp'.slQ (l := 0) (h := i) rfl Tryd.underlying22 (by kernel_rfl) rfl ((vb_h ⟨by omega, by omega⟩).trans (by rw [Int.toNat_natCast])) (Nat.zero_le _) ?_
        rintro u (rfl | ⟨_, _, hlt2⟩)
        case inr => omega
        repeat' (first|with_reducible refine And.intro ?_ ?_|((with_reducible intro hc);(try simp only [zA,zB,zC,zD,zE,zF,zG,zH,zI,zJ,zK,zL,zM,zN,zO,zP,zQ,zR,zS,zT,zU,zV,zW] at hc);(first|exact absurd rfl hc|exact absurd trivial hc|(exfalso;omega)|skip))|exact Is.mk rfl rfl|((conv => whnf);first|with_reducible refine And.intro ?_ ?_|with_reducible intro hx|exact Is.mk rfl rfl|(with_reducible first|apply Val.via|apply ValH.via)|refine ifB_intro ?_ ?_|refine xA (by omega) ?_|(refine xB ?_;intro kw hk1 hk2)|refine xC (by omega) ?_|refine xD ?_|refine xE (by omega) ?_|refine xF (by omega) ?_|refine xG ?_|refine xH ?_|refine xI (by omega) ?_|refine xJ (by omega) ?_|(with_reducible refine stopA ?_)|refine Exists.intro _ (And.intro (by (first|exact vat_of rfl rfl rfl|rfl)) ?_)|refine GOp.drawn (by rfl) (by rfl) (Nat.le_of_ble_eq_true (by rfl)) (by rfl)|refine GOp.via (by rfl) ?_|refine GWP.drawY mixed _ (by kernel_rfl) (by rfl) ?_|fail|(with_reducible first|refine stopO ?_|refine stopE ?_|refine stopD ?_|refine stopW ?_|refine stopG ?_|refine stopC ?_|refine stopR ?_)))
        (all_goals (first|omega|(rw [List.length_map];done)|(rw [List.length_map];omega)|contradiction|skip))
        refine GOp'.slE (l := r.length + 1) rfl Tryd.underlying22 (by kernel_rfl) rfl ((vb_l ⟨by omega, by omega⟩).trans (by rw [← hlast]; rfl)) (by omega) ?_
        repeat' (first|with_reducible refine And.intro ?_ ?_|((with_reducible intro hc);(try simp only [zA,zB,zC,zD,zE,zF,zG,zH,zI,zJ,zK,zL,zM,zN,zO,zP,zQ,zR,zS,zT,zU,zV,zW] at hc);(first|exact absurd rfl hc|exact absurd trivial hc|(exfalso;omega)|skip))|exact Is.mk rfl rfl|((conv => whnf);first|with_reducible refine And.intro ?_ ?_|with_reducible intro hx|exact Is.mk rfl rfl|(with_reducible first|apply Val.via|apply ValH.via)|refine ifB_intro ?_ ?_|refine xA (by omega) ?_|(refine xB ?_;intro kw hk1 hk2)|refine xC (by omega) ?_|refine xD ?_|refine xE (by omega) ?_|refine xF (by omega) ?_|refine xG ?_|refine xH ?_|refine xI (by omega) ?_|refine xJ (by omega) ?_|(with_reducible refine stopA ?_)|refine Exists.intro _ (And.intro (by (first|exact vat_of rfl rfl rfl|rfl)) ?_)|refine GOp.drawn (by rfl) (by rfl) (Nat.le_of_ble_eq_true (by rfl)) (by rfl)|refine GOp.via (by rfl) ?_|refine GWP.drawY mixed _ (by kernel_rfl) (by rfl) ?_|fail|(with_reducible first|refine stopO ?_|refine stopE ?_|refine stopD ?_|refine stopW ?_|refine stopG ?_|refine stopC ?_|refine stopR ?_)))
        (all_goals (first|omega|(rw [List.length_map];done)|(rw [List.length_map];omega)|contradiction|skip))
        refine Done'.mk ⟨?_, rfl⟩
        rw [hw, hw1, hw2]
        rfl
      · have hsl2 : VV.sl 0 (t.length - (r.length + 1) + (i + 1) * 1) (r.length + 1 - (i + 1)) none 1 = restV t.length ((c :: r).drop (i + 1)) := restV_sl (by rw [List.length_drop, List.length_cons]) (by omega) (by omega)
        refine VCall.go Tryd.func58 rfl ?_
        repeat' (first|with_reducible refine And.intro ?_ ?_|((with_reducible intro hc);(try simp only [zA,zB,zC,zD,zE,zF,zG,zH,zI,zJ,zK,zL,zM,zN,zO,zP,zQ,zR,zS,zT,zU,zV,zW] at hc);(first|exact absurd rfl hc|exact absurd trivial hc|(exfalso;omega)|skip))|exact Is.mk rfl rfl|((conv => whnf);first|with_reducible refine And.intro ?_ ?_|with_reducible intro hx|exact Is.mk rfl rfl|(with_reducible first|apply Val.via|apply ValH.via)|refine ifB_intro ?_ ?_|refine xA (by omega) ?_|(refine xB ?_;intro kw hk1 hk2)|refine xC (by omega) ?_|refine xD ?_|refine xE (by omega) ?_|refine xF (by omega) ?_|refine xG ?_|refine xH ?_|refine xI (by omega) ?_|refine xJ (by omega) ?_|(with_reducible refine stopA ?_)|refine Exists.intro _ (And.intro (by (first|exact vat_of rfl rfl rfl|rfl)) ?_)|refine GOp.drawn (by rfl) (by rfl) (Nat.le_of_ble_eq_true (by rfl)) (by rfl)|refine GOp.via (by rfl) ?_|refine GWP.drawY mixed _ (by kernel_rfl) (by rfl) ?_|(refine GCall.mk ((k1).mono ?_);rintro _ _ ⟨rfl,rfl⟩)|(with_reducible first|refine stopO ?_|refine stopE ?_|refine stopD ?_|refine stopW ?_|refine stopG ?_|refine stopC ?_|refine stopR ?_)))
        (all_goals (first|omega|(rw [List.length_map];done)|(rw [List.length_map];omega)|contradiction|skip))
        refine GOp'.slQ (l := 0) (h := i) rfl Tryd.underlying22 (by kernel_rfl) rfl ((vb_h ⟨by omega, by omega⟩).trans (by rw [Int.toNat_natCast])) (Nat.zero_le _) ?_
        rintro u (rfl | ⟨_, _, hlt2⟩)
        case inr => omega
        repeat' (first|with_reducible refine And.intro ?_ ?_|((with_reducible intro hc);(try simp only [zA,zB,zC,zD,zE,zF,zG,zH,zI,zJ,zK,zL,zM,zN,zO,zP,zQ,zR,zS,zT,zU,zV,zW] at hc);(first|exact absurd rfl hc|exact absurd trivial hc|(exfalso;omega)|skip))|exact Is.mk rfl rfl|((conv => whnf);first|with_reducible refine And.intro ?_ ?_|with_reducible intro hx|exact Is.mk rfl rfl|(with_reducible first|apply Val.via|apply ValH.via)|refine ifB_intro ?_ ?_|refine xA (by omega) ?_|(refine xB ?_;intro kw hk1 hk2)|refine xC (by omega) ?_|refine xD ?_|refine xE (by omega) ?_|refine xF (by omega) ?_|refine xG ?_|refine xH ?_|refine xI (by omega) ?_|refine xJ (by omega) ?_|(with_reducible refine stopA ?_)|refine Exists.intro _ (And.intro (by (first|exact vat_of rfl rfl rfl|rfl)) ?_)|refine GOp.drawn (by rfl) (by rfl) (Nat.le_of_ble_eq_true (by rfl)) (by rfl)|refine GOp.via (by rfl) ?_|refine GWP.drawY mixed _ (by kernel_rfl) (by rfl) ?_|fail|(with_reducible first|refine stopO ?_|refine stopE ?_|refine stopD ?_|refine stopW ?_|refine stopG ?_|refine stopC ?_|refine stopR ?_)))
        (all_goals (first|omega|(rw [List.length_map];done)|(rw [List.length_map];omega)|contradiction|skip))
        refine GOp'.slN (l := i + 1) (h := r.length + 1) rfl Tryd.underlying22 (by kernel_rfl) rfl ((vb_l ⟨by omega, by omega⟩).trans (by rfl)) (by omega) ?_
        repeat' (first|with_reducible refine And.intro ?_ ?_|((with_reducible intro hc);(try simp only [zA,zB,zC,zD,zE,zF,zG,zH,zI,zJ,zK,zL,zM,zN,zO,zP,zQ,zR,zS,zT,zU,zV,zW] at hc);(first|exact absurd rfl hc|exact absurd trivial hc|(exfalso;omega)|skip))|exact Is.mk rfl rfl|((conv => whnf);first|with_reducible refine And.intro ?_ ?_|with_reducible intro hx|exact Is.mk rfl rfl|(with_reducible first|apply Val.via|apply ValH.via)|refine ifB_intro ?_ ?_|refine xA (by omega) ?_|(refine xB ?_;intro kw hk1 hk2)|refine xC (by omega) ?_|refine xD ?_|refine xE (by omega) ?_|refine xF (by omega) ?_|refine xG ?_|refine xH ?_|refine xI (by omega) ?_|refine xJ (by omega) ?_|(with_reducible refine stopA ?_)|refine Exists.intro _ (And.intro (by (first|exact vat_of rfl rfl rfl|rfl)) ?_)|refine GOp.drawn (by rfl) (by rfl) (Nat.le_of_ble_eq_true (by rfl)) (by rfl)|refine GOp.via (by rfl) ?_|refine GWP.drawY mixed _ (by kernel_rfl) (by rfl) ?_|fail|(with_reducible first|refine stopO ?_|refine stopE ?_|refine stopD ?_|refine stopW ?_|refine stopG ?_|refine stopC ?_|refine stopR ?_)))
        (all_goals (first|omega|(rw [List.length_map];done)|(rw [List.length_map];omega)|contradiction|skip))
        refine Done'.mk ⟨?_, rfl⟩
        rw [hw, hw1, hw2, hsl2]
        rfl
  · have hi : idxB s b = -1 := by unfold idxB; rw [if_neg hb]
    rw [hi] at k1
    rw [if_neg hb]
    simp only [Bool.false_eq_true, if_false]
    refine VCall.go Tryd.func58 rfl ?_
    cases s with
    | nil =>
      repeat' (first|with_reducible refine And.intro ?_ ?_|((with_reducible intro hc);(try simp only [zA,zB,zC,zD,zE,zF,zG,zH,zI,zJ,zK,zL,zM,zN,zO,zP,zQ,zR,zS,zT,zU,zV,zW] at hc);(first|exact absurd rfl hc|exact absurd trivial hc|(exfalso;omega)|skip))|exact Is.mk rfl rfl|((conv => whnf);first|with_reducible refine And.intro ?_ ?_|with_reducible intro hx|exact Is.mk rfl rfl|(with_reducible first|apply Val.via|apply ValH.via)|refine ifB_intro ?_ ?_|refine xA (by omega) ?_|(refine xB ?_;intro kw hk1 hk2)|refine xC (by omega) ?_|refine xD ?_|refine xE (by omega) ?_|refine xF (by omega) ?_|refine xG ?_|refine xH ?_|refine xI (by omega) ?_|refine xJ (by omega) ?_|(with_reducible refine stopA ?_)|refine Exists.intro _ (And.intro (by (first|exact vat_of rfl rfl rfl|rfl)) ?_)|refine GOp.drawn (by rfl) (by rfl) (Nat.le_of_ble_eq_true (by rfl)) (by rfl)|refine GOp.via (by rfl) ?_|refine GWP.drawY mixed _ (by kernel_rfl) (by rfl) ?_|(refine GCall.mk ((k1).mono ?_);rintro _ _ ⟨rfl,rfl⟩)|(with_reducible first|refine stopO ?_|refine stopE ?_|refine stopD ?_|refine stopW ?_|refine stopG ?_|refine stopC ?_|refine stopR ?_)))
      (all_goals (first|omega|(rw [List.length_map];done)|(rw [List.length_map];omega)|contradiction|skip))
      exact Done'.mk ⟨rfl, rfl⟩
    | cons c r =>
      repeat' (first|with_reducible refine And.intro ?_ ?_|((with_reducible intro hc);(try simp only [zA,zB,zC,zD,zE,zF,zG,zH,zI,zJ,zK,zL,zM,zN,zO,zP,zQ,zR,zS,zT,zU,zV,zW] at hc);(first|exact absurd rfl hc|exact absurd trivial hc|(exfalso;omega)|skip))|exact Is.mk rfl rfl|((conv => whnf);first|with_reducible refine And.intro ?_ ?_|with_reducible intro hx|exact Is.mk rfl rfl|(with_reducible first|apply Val.via|apply ValH.via)|refine ifB_intro ?_ ?_|refine xA (by omega) ?_|(refine xB ?_;intro kw hk1 hk2)|refine xC (by omega) ?_|refine xD ?_|refine xE (by omega) ?_|refine xF (by omega) ?_|refine xG ?_|refine xH ?_|refine xI (by omega) ?_|refine xJ (by omega) ?_|(with_reducible refine stopA ?_)|refine Exists.intro _ (And.intro (by (first|exact vat_of rfl rfl rfl|rfl)) ?_)|refine GOp.drawn (by rfl) (by rfl) (Nat.le_of_ble_eq_true (by rfl)) (by rfl)|refine GOp.via (by rfl) ?_|refine GWP.drawY mixed _ (by kernel_rfl) (by rfl) ?_|(refine GCall.mk ((k1).mono ?_);rintro _ _ ⟨rfl,rfl⟩)|(with_reducible first|refine stopO ?_|refine stopE ?_|refine stopD ?_|refine stopW ?_|refine stopG ?_|refine stopC ?_|refine stopR ?_)))
      (all_goals (first|omega|(rw [List.length_map];done)|(rw [List.length_map];omega)|contradiction|skip))
      exact Done'.mk ⟨rfl, rfl⟩
end Go.Proofs.YthjfobafdclafaaDoor

/- What stands behind "[", walked. -/
namespace Go.Proofs.YthjfobafdclafaaDoor
open Go Go.RowKit
set_option linter.unusedSimpArgs false
set_option linter.unusedVariables false
set_option maxRecDepth 100000
set_option maxHeartbeats 8000000
theorem Frz.agL {K : Heap} : ∀ {vs us : List VV}, FrzL K vs us → Frz K (.ag vs) (.ag us) := fun {vs us} h B w Z ρ ρ2 y hr hv => by
  cases hv with
  | @ag _ cs h1 r1 =>
    obtain ⟨cs⟩ := cs
    simp only at h1 r1
    have key : ∀ {vs us : List VV} {cs : List Value}, FrzL K vs us → Pw (VRel w Z ρ) vs cs → Pw (VRel w (fun k => Z k ∨ (B.heap.size ≤ k ∧ k < w.heap.size)) ρ2) us cs := by
      intro vs us cs h
      induction h generalizing cs with
      | nil => intro hp; exact ⟨hp.1, fun i u c hu => by simp at hu⟩
      | @cons v u r s hvu _ ih =>
        intro hp
        match cs, hp with
        | c :: ct, hp =>
          have h0 := hp.2 0 v c rfl rfl
          have ht : Pw (VRel w Z ρ) r ct := ⟨by have := hp.1; simpa using this, fun i u c hu hc => hp.2 (i + 1) u c (by simpa using hu) (by simpa using hc)⟩
          exact Pw.cons (hvu B w Z ρ ρ2 c hr h0) (ih ht)
        | [], hp => have := hp.1; simp at this
    have := key h ⟨h1, r1⟩
    exact .ag this.1 this.2
def kN (k : Nat) : VV := iV k
theorem part_frz {K : Heap} {k : Nat} {n m : List UInt8} {c : Nat} : FrzB 2 K (.ag [iV (k : Int), strV n, strV m, .sc (.slice none 0 c)]) (.ag (cellsP kN (.mk k n m []))) := by
  rw [cellsP, rowsQ]
  exact (Frz.agL (.cons (.of (nameless_sc _)) (.cons (.of (nameless_strV n)) (.cons (.of (nameless_strV m)) (.cons Frz.nil0 .nil))))).toB
theorem skipS_suf {t p s r : List UInt8} (h : skipS p s = some r) (hs : s <:+ t) : r <:+ t := by
  unfold skipS at h
  split at h
  · injection h with h
    subst h
    exact (List.drop_suffix _ _).trans hs
  · cases h
theorem cutB_view {t r : List UInt8} (h : r <:+ t) (b : UInt8) (hf : (cutB r b).2.2 = true) : (cutB r b).2.1 <:+ t ∧ (cutB r b).1.length ≤ r.length ∧ ∀ n q, n = (cutB r b).1.length → q = t.length - r.length → vbytes (((t.map bV).drop q).take n) = some (cutB r b).1 := by
  unfold cutB at hf ⊢
  split at hf
  · rename_i hc
    rw [if_pos hc]
    refine ⟨(List.drop_suffix _ _).trans h, by simp only [List.length_take]; omega, fun n q hn hq => ?_⟩
    subst hn hq
    rw [← List.map_drop, (suf_drop h).2, ← List.map_take]
    simp only [List.length_take]
    rw [show r.take (min (r.idxOf b) r.length) = r.take (r.idxOf b) by rw [List.take_eq_take_iff]; omega]
    exact vbytes_map _
  · cases hf
theorem attr_call {t s : List UInt8} (hs : s <:+ t) (ht : t.length ≤ 100000) (d : Nat) : VCall Tryd.prog 52 [.ptr 1 0] ⟨rdO t s d 0, 2⟩ (fun v K => v = .ag (cellsP kN (attrS s).1) ∧ K = ⟨rdO t (attrS s).2.1 d (attrS s).2.2, 2⟩) := by
  refine VCall.rd ?_
  have ha : RenL [(1, 1), (0, 0)] 0 [VV.ptr 1 0] [.ptr 1 0] := .cons (RenV.ptr (by simp)) .nil
  have haS : ∀ x, RenL [(1, 1), (0, 0)] 0 [VV.ptr 1 0, strV x] [.ptr 1 0, strV x] := fun x => .cons (RenV.ptr (by simp)) (.cons (RenV.of (nameless_strV x)) .nil)
  have haI : ∀ k : Int, RenL [(1, 1), (0, 0)] 0 [VV.ptr 1 0, iV k] [.ptr 1 0, iV k] := fun k => .cons (RenV.ptr (by simp)) (.cons (RenV.of (nameless_sc _)) .nil)
  have hs1 := tokS_suf hs
  have k1 := fun H => VCall.rdAt (H := H) (nameless_strV _) ha (name_call hs ht d 0)
  have k2 := fun e H => VCall.rdAt (H := H) (nameless_sc _) (haS _) (skip_call [61, 34] hs1 ht (by simp) d e)
  have k3 := fun s2 (hs2 : s2 <:+ t) e H => VCall.rdAt (H := H) (nameless_sc _) (haS _) (skip_call [93] hs2 ht (by simp) d e)
  have k4 := fun s2 e H => VCall.rdAt (H := H) (nameless_tp (by simp)) (haI 2) (fail_call t s2 d e 2)
  unfold attrS
  have he1 : (if (tokS s).1 = [] then failS 0 2 else 0) = (if (tokS s).1 = [] then 2 else 0) := by split <;> rfl
  rw [he1] at k1
  generalize (if (tokS s).1 = [] then 2 else 0) = e1 at *
  generalize (tokS s).1 = a at *
  generalize (tokS s).2 = s1 at *
  cases h2 : skipS [61, 34] s1 with
  | none =>
    rw [h2] at k2
    unfold closeS
    simp only
    have k3' := k3 s1 hs1
    cases h3 : skipS [93] s1 with
    | none =>
      rw [h3] at k3'
      simp only [Option.isSome_none, Option.getD_none] at k2 k3' ⊢
      refine VCall.go Tryd.func52 rfl ?_
      repeat' (first|with_reducible refine And.intro ?_ ?_|((with_reducible intro hc);(try simp only [zA,zB,zC,zD,zE,zF,zG,zH,zI,zJ,zK,zL,zM,zN,zO,zP,zQ,zR,zS,zT,zU,zV,zW] at hc);(first|exact absurd rfl hc|exact absurd trivial hc|(exfalso;omega)|skip))|exact Is.mk rfl rfl|((conv => whnf);first|with_reducible refine And.intro ?_ ?_|with_reducible intro hx|exact Is.mk rfl rfl|(with_reducible first|apply Val.via|apply ValH.via)|refine ifB_intro ?_ ?_|refine xA (by omega) ?_|(refine xB ?_;intro kw hk1 hk2)|refine xC (by omega) ?_|refine xD ?_|refine xE (by omega) ?_|refine xF (by omega) ?_|refine xG ?_|refine xH ?_|refine xI (by omega) ?_|refine xJ (by omega) ?_|(with_reducible refine stopA ?_)|refine Exists.intro _ (And.intro (by (first|exact vat_of rfl rfl rfl|rfl)) ?_)|refine GOp.drawn (by rfl) (by rfl) (Nat.le_of_ble_eq_true (by rfl)) (by rfl)|refine GOp.via (by rfl) ?_|refine GWP.drawY mixed _ (by kernel_rfl) (by rfl) ?_|(first|(refine GCall.mk ((k1 _ rfl rfl rfl).mono ?_);rintro _ _ ⟨rfl,rfl⟩)|(refine GCall.mk ((k2 _ _ rfl rfl rfl).mono ?_);rintro _ _ ⟨rfl,rfl⟩)|(refine GCall.mk ((k3' _ _ rfl rfl rfl).mono ?_);rintro _ _ ⟨rfl,rfl⟩)|(refine GCall.mk ((k4 _ _ _ rfl rfl rfl).mono ?_);rintro _ _ ⟨rfl,rfl⟩))|(with_reducible first|refine stopO ?_|refine stopE ?_|refine stopD ?_|refine stopW ?_|refine stopG ?_|refine stopC ?_|refine stopR ?_)))
      (all_goals (first|omega|(rw [List.length_map];done)|(rw [List.length_map];omega)|contradiction|skip))
      exact Done'.mk ⟨part_frz, rfl, rfl⟩
    | some q =>
      rw [h3] at k3'
      simp only [Option.isSome_none, Option.getD_none, Option.isSome_some, Option.getD_some] at k2 k3' ⊢
      refine VCall.go Tryd.func52 rfl ?_
      repeat' (first|with_reducible refine And.intro ?_ ?_|((with_reducible intro hc);(try simp only [zA,zB,zC,zD,zE,zF,zG,zH,zI,zJ,zK,zL,zM,zN,zO,zP,zQ,zR,zS,zT,zU,zV,zW] at hc);(first|exact absurd rfl hc|exact absurd trivial hc|(exfalso;omega)|skip))|exact Is.mk rfl rfl|((conv => whnf);first|with_reducible refine And.intro ?_ ?_|with_reducible intro hx|exact Is.mk rfl rfl|(with_reducible first|apply Val.via|apply ValH.via)|refine ifB_intro ?_ ?_|refine xA (by omega) ?_|(refine xB ?_;intro kw hk1 hk2)|refine xC (by omega) ?_|refine xD ?_|refine xE (by omega) ?_|refine xF (by omega) ?_|refine xG ?_|refine xH ?_|refine xI (by omega) ?_|refine xJ (by omega) ?_|(with_reducible refine stopA ?_)|refine Exists.intro _ (And.intro (by (first|exact vat_of rfl rfl rfl|rfl)) ?_)|refine GOp.drawn (by rfl) (by rfl) (Nat.le_of_ble_eq_true (by rfl)) (by rfl)|refine GOp.via (by rfl) ?_|refine GWP.drawY mixed _ (by kernel_rfl) (by rfl) ?_|(first|(refine GCall.mk ((k1 _ rfl rfl rfl).mono ?_);rintro _ _ ⟨rfl,rfl⟩)|(refine GCall.mk ((k2 _ _ rfl rfl rfl).mono ?_);rintro _ _ ⟨rfl,rfl⟩)|(refine GCall.mk ((k3' _ _ rfl rfl rfl).mono ?_);rintro _ _ ⟨rfl,rfl⟩)|(refine GCall.mk ((k4 _ _ _ rfl rfl rfl).mono ?_);rintro _ _ ⟨rfl,rfl⟩))|(with_reducible first|refine stopO ?_|refine stopE ?_|refine stopD ?_|refine stopW ?_|refine stopG ?_|refine stopC ?_|refine stopR ?_)))
      (all_goals (first|omega|(rw [List.length_map];done)|(rw [List.length_map];omega)|contradiction|skip))
      exact Done'.mk ⟨part_frz, rfl, rfl⟩
  | some r =>
    have hr := skipS_suf h2 hs1
    have k5 := fun H k h0 hk => cutRest_call (H := H) (k := k) hr ht 34 h0 hk
    have hcv := cutB_view hr 34
    rw [h2] at k2
    simp only
    have k1' : ∀ c, VCall Tryd.prog 51 [.ptr 1 0] ⟨(2, c) :: (1, rdC t.length s d 0) :: (0, .cells true (t.map bV)) :: [], 3⟩ (fun v K => v = strV a ∧ K = ⟨(1, rdC t.length s1 d e1) :: (0, .cells true (t.map bV)) :: (2, c) :: [], 3⟩) := fun c => (k1 _ rfl rfl rfl).mono fun v K h => h
    have k2' : ∀ c c3, VCall Tryd.prog 13 [.ptr 1 0, strV [61, 34]] ⟨(3, c3) :: (1, rdC t.length s1 d e1) :: (0, .cells true (t.map bV)) :: (2, c) :: [], 4⟩ (fun v K => v = booV true ∧ K = ⟨(1, rdC t.length r d e1) :: (0, .cells true (t.map bV)) :: (3, c3) :: (2, c) :: [], 4⟩) := fun c c3 => (k2 _ _ rfl rfl rfl).mono fun v K h => h
    have k4' : ∀ c c3 c4, VCall Tryd.prog 26 [.ptr 1 0, iV 2] ⟨(4, c4) :: (1, rdC t.length r d e1) :: (0, .cells true (t.map bV)) :: (3, c3) :: (2, c) :: [], 5⟩ (fun v K => v = .tp [] ∧ K = ⟨(1, rdC t.length r d (failS e1 2)) :: (0, .cells true (t.map bV)) :: (4, c4) :: (3, c3) :: (2, c) :: [], 5⟩) := fun c c3 c4 => (k4 _ _ _ rfl rfl rfl).mono fun v K h => h
    cases hf : (cutB r 34).2.2 with
    | false =>
      simp only [hf, Option.isSome_some, Option.getD_some, Bool.false_eq_true, if_false] at k2 k5 ⊢
      cases r with
      | nil =>
        refine VCall.go Tryd.func52 rfl ?_
        repeat' (first|with_reducible refine And.intro ?_ ?_|((with_reducible intro hc);(try simp only [zA,zB,zC,zD,zE,zF,zG,zH,zI,zJ,zK,zL,zM,zN,zO,zP,zQ,zR,zS,zT,zU,zV,zW] at hc);(first|exact absurd rfl hc|exact absurd trivial hc|(exfalso;omega)|skip))|exact Is.mk rfl rfl|((conv => whnf);first|with_reducible refine And.intro ?_ ?_|with_reducible intro hx|exact Is.mk rfl rfl|(with_reducible first|apply Val.via|apply ValH.via)|refine ifB_intro ?_ ?_|refine xA (by omega) ?_|(refine xB ?_;intro kw hk1 hk2)|refine xC (by omega) ?_|refine xD ?_|refine xE (by omega) ?_|refine xF (by omega) ?_|refine xG ?_|refine xH ?_|refine xI (by omega) ?_|refine xJ (by omega) ?_|(with_reducible refine stopA ?_)|refine Exists.intro _ (And.intro (by (first|exact vat_of rfl rfl rfl|rfl)) ?_)|refine GOp.drawn (by rfl) (by rfl) (Nat.le_of_ble_eq_true (by rfl)) (by rfl)|refine GOp.via (by rfl) ?_|refine GWP.drawY mixed _ (by kernel_rfl) (by rfl) ?_|(first|(refine GCall.mk ((k1' _).mono ?_);rintro _ _ ⟨rfl,rfl⟩)|(refine GCall.mk ((k2' _ (.cells true [iV 3,strV a,strV [],.sc (.slice none 0 0)])).mono ?_);rintro _ _ ⟨rfl,rfl⟩)|(refine GCall.mk ((k4' _ _ _).mono ?_);rintro _ _ ⟨rfl,rfl⟩)|(refine GCall.mk ((k5 _ _ rfl rfl).mono ?_);rintro _ _ ⟨rfl,rfl⟩))|(with_reducible first|refine stopO ?_|refine stopE ?_|refine stopD ?_|refine stopW ?_|refine stopG ?_|refine stopC ?_|refine stopR ?_)))
        (all_goals (first|omega|(rw [List.length_map];done)|(rw [List.length_map];omega)|contradiction|skip))
        exact Done'.mk ⟨part_frz, rfl, rfl⟩
      | cons c0 r0 =>
        refine VCall.go Tryd.func52 rfl ?_
        repeat' (first|with_reducible refine And.intro ?_ ?_|((with_reducible intro hc);(try simp only [zA,zB,zC,zD,zE,zF,zG,zH,zI,zJ,zK,zL,zM,zN,zO,zP,zQ,zR,zS,zT,zU,zV,zW] at hc);(first|exact absurd rfl hc|exact absurd trivial hc|(exfalso;omega)|skip))|exact Is.mk rfl rfl|((conv => whnf);first|with_reducible refine And.intro ?_ ?_|with_reducible intro hx|exact Is.mk rfl rfl|(with_reducible first|apply Val.via|apply ValH.via)|refine ifB_intro ?_ ?_|refine xA (by omega) ?_|(refine xB ?_;intro kw hk1 hk2)|refine xC (by omega) ?_|refine xD ?_|refine xE (by omega) ?_|refine xF (by omega) ?_|refine xG ?_|refine xH ?_|refine xI (by omega) ?_|refine xJ (by omega) ?_|(with_reducible refine stopA ?_)|refine Exists.intro _ (And.intro (by (first|exact vat_of rfl rfl rfl|rfl)) ?_)|refine GOp.drawn (by rfl) (by rfl) (Nat.le_of_ble_eq_true (by rfl)) (by rfl)|refine GOp.via (by rfl) ?_|refine GWP.drawY mixed _ (by kernel_rfl) (by rfl) ?_|(first|(refine GCall.mk ((k1' _).mono ?_);rintro _ _ ⟨rfl,rfl⟩)|(refine GCall.mk ((k2' _ (.cells true [iV 3,strV a,strV [],.sc (.slice none 0 0)])).mono ?_);rintro _ _ ⟨rfl,rfl⟩)|(refine GCall.mk ((k4' _ _ _).mono ?_);rintro _ _ ⟨rfl,rfl⟩)|(refine GCall.mk ((k5 _ _ rfl rfl).mono ?_);rintro _ _ ⟨rfl,rfl⟩))|(with_reducible first|refine stopO ?_|refine stopE ?_|refine stopD ?_|refine stopW ?_|refine stopG ?_|refine stopC ?_|refine stopR ?_)))
        (all_goals (first|omega|(rw [List.length_map];done)|(rw [List.length_map];omega)|contradiction|skip))
        exact Done'.mk ⟨part_frz, rfl, rfl⟩
    | true =>
      obtain ⟨c0, r0, rfl⟩ : ∃ c0 r0, r = c0 :: r0 := by
        cases r with
        | nil => simp [cutB] at hf
        | cons c0 r0 => exact ⟨c0, r0, rfl⟩
      obtain ⟨hs2, hxl, hvb⟩ := hcv hf
      have hrl := hr.length_le
      simp only [hf, Option.isSome_some, Option.getD_some, if_true] at k2 k5 ⊢
      have k3' := k3 _ hs2 e1
      unfold closeS
      generalize (cutB (c0 :: r0) 34).1 = x at *
      generalize (cutB (c0 :: r0) 34).2.1 = s2 at *
      clear hcv
      rcases restV_len t.length s2 with ⟨hw, rfl⟩ | ⟨q, hw⟩
      · cases h3 : skipS [93] ([] : List UInt8) with
        | some q => simp [skipS] at h3
        | none =>
          rw [h3] at k3'
          simp only [Option.isSome_none, Option.getD_none] at k3' ⊢
          rw [hw] at k5
          refine VCall.go Tryd.func52 rfl ?_
          repeat' (first|with_reducible refine And.intro ?_ ?_|((with_reducible intro hc);(try simp only [zA,zB,zC,zD,zE,zF,zG,zH,zI,zJ,zK,zL,zM,zN,zO,zP,zQ,zR,zS,zT,zU,zV,zW] at hc);(first|exact absurd rfl hc|exact absurd trivial hc|(exfalso;omega)|skip))|exact Is.mk rfl rfl|((conv => whnf);first|with_reducible refine And.intro ?_ ?_|with_reducible intro hx|exact Is.mk rfl rfl|(with_reducible first|apply Val.via|apply ValH.via)|refine ifB_intro ?_ ?_|refine xA (by omega) ?_|(refine xB ?_;intro kw hk1 hk2)|refine xC (by omega) ?_|refine xD ?_|refine xE (by omega) ?_|refine xF (by omega) ?_|refine xG ?_|refine xH ?_|refine xI (by omega) ?_|refine xJ (by omega) ?_|(with_reducible refine stopA ?_)|refine Exists.intro _ (And.intro (by (first|exact vat_of rfl rfl rfl|rfl)) ?_)|refine GOp.drawn (by rfl) (by rfl) (Nat.le_of_ble_eq_true (by rfl)) (by rfl)|refine GOp.via (by rfl) ?_|(first|(refine GCall.mk ((k1' _).mono ?_);rintro _ _ ⟨rfl,rfl⟩)|(refine GCall.mk ((k2' _ (.cells true [iV 3,strV a,strV [],.sc (.slice none 0 0)])).mono ?_);rintro _ _ ⟨rfl,rfl⟩)|(refine GCall.mk ((k5 _ _ rfl rfl).mono ?_);rintro _ _ ⟨rfl,rfl⟩))|(with_reducible first|refine stopO ?_|refine stopE ?_|refine stopD ?_|refine stopW ?_|refine stopG ?_|refine stopC ?_|refine stopR ?_)))
          (all_goals (first|omega|(rw [List.length_map];done)|(rw [List.length_map];omega)|contradiction|skip))
          refine GWP'.mk (GWP.drawM mixed 41 [5, 7, 10] (fun H => [H.set 3 (.cells true [iV 4, strV a, strV [], .sc (.slice none 0 0)]), (H.set 3 (.cells true [iV 4, strV a, strV [], .sc (.slice none 0 0)])).set 3 (.cells true [iV 4, strV a, strV x, .sc (.slice none 0 0)]), ((H.set 3 (.cells true [iV 4, strV a, strV [], .sc (.slice none 0 0)])).set 3 (.cells true [iV 4, strV a, strV x, .sc (.slice none 0 0)])).set 1 (.cells true [.ro 0 [], iV d, iV e1])]) (by kernel_rfl) (by rfl) ?_)
          repeat' (first|with_reducible refine And.intro ?_ ?_|((with_reducible intro hc);(try simp only [zA,zB,zC,zD,zE,zF,zG,zH,zI,zJ,zK,zL,zM,zN,zO,zP,zQ,zR,zS,zT,zU,zV,zW] at hc);(first|exact absurd rfl hc|exact absurd trivial hc|(exfalso;omega)|skip))|exact Is.mk rfl rfl|exact trivial|((conv => whnf);first|with_reducible refine And.intro ?_ ?_|with_reducible intro hx|exact Is.mk rfl rfl|exact trivial|(with_reducible first|apply Val.via|apply ValH.via)|refine ifB_intro ?_ ?_|refine xA (by omega) ?_|(refine xB ?_;intro kw hk1 hk2)|refine xC (by omega) ?_|refine xD ?_|refine xE (by omega) ?_|refine xF (by omega) ?_|refine xG ?_|refine xH ?_|refine xI (by omega) ?_|refine xJ (by omega) ?_|(with_reducible refine stopA ?_)|refine Exists.intro _ (And.intro (by (first|exact vat_of rfl rfl rfl|exact hvb _ _ (by omega) (by omega)|rfl)) ?_)|fail|refine GOp.drawn (by rfl) (by rfl) (Nat.le_of_ble_eq_true (by rfl)) (by rfl)|refine GOp.via (by rfl) ?_|(first|(refine GCall.mk ((k3' _ rfl rfl rfl).mono ?_);rintro _ _ ⟨rfl,rfl⟩)|(refine GCall.mk ((k4 _ _ _ rfl rfl rfl).mono ?_);rintro _ _ ⟨rfl,rfl⟩))|(with_reducible first|refine stopO ?_|refine stopE ?_|refine stopD ?_|refine stopW ?_|refine stopG ?_|refine stopC ?_|refine stopR ?_)))
          (all_goals (first|omega|(rw [List.length_map];done)|(rw [List.length_map];omega)|contradiction|skip))
          exact Done'.mk ⟨part_frz, rfl, rfl⟩
      · have hg : rdC t.length s2 d e1 = .cells true [.sl 0 q s2.length none 1, iV d, iV e1] := by unfold rdC; rw [hw]
        rw [hw] at k5
        cases h3 : skipS [93] s2 with
        | none =>
          rw [h3] at k3'
          simp only [Option.isSome_none, Option.getD_none, hg] at k3' ⊢
          refine VCall.go Tryd.func52 rfl ?_
          repeat' (first|with_reducible refine And.intro ?_ ?_|((with_reducible intro hc);(try simp only [zA,zB,zC,zD,zE,zF,zG,zH,zI,zJ,zK,zL,zM,zN,zO,zP,zQ,zR,zS,zT,zU,zV,zW] at hc);(first|exact absurd rfl hc|exact absurd trivial hc|(exfalso;omega)|skip))|exact Is.mk rfl rfl|((conv => whnf);first|with_reducible refine And.intro ?_ ?_|with_reducible intro hx|exact Is.mk rfl rfl|(with_reducible first|apply Val.via|apply ValH.via)|refine ifB_intro ?_ ?_|refine xA (by omega) ?_|(refine xB ?_;intro kw hk1 hk2)|refine xC (by omega) ?_|refine xD ?_|refine xE (by omega) ?_|refine xF (by omega) ?_|refine xG ?_|refine xH ?_|refine xI (by omega) ?_|refine xJ (by omega) ?_|(with_reducible refine stopA ?_)|refine Exists.intro _ (And.intro (by (first|exact vat_of rfl rfl rfl|rfl)) ?_)|refine GOp.drawn (by rfl) (by rfl) (Nat.le_of_ble_eq_true (by rfl)) (by rfl)|refine GOp.via (by rfl) ?_|(first|(refine GCall.mk ((k1' _).mono ?_);rintro _ _ ⟨rfl,rfl⟩)|(refine GCall.mk ((k2' _ (.cells true [iV 3,strV a,strV [],.sc (.slice none 0 0)])).mono ?_);rintro _ _ ⟨rfl,rfl⟩)|(refine GCall.mk ((k5 _ _ rfl rfl).mono ?_);rintro _ _ ⟨rfl,rfl⟩))|(with_reducible first|refine stopO ?_|refine stopE ?_|refine stopD ?_|refine stopW ?_|refine stopG ?_|refine stopC ?_|refine stopR ?_)))
          (all_goals (first|omega|(rw [List.length_map];done)|(rw [List.length_map];omega)|contradiction|skip))
          refine GWP'.mk (GWP.drawM mixed 41 [5, 7, 10] (fun H => [H.set 3 (.cells true [iV 4, strV a, strV [], .sc (.slice none 0 0)]), (H.set 3 (.cells true [iV 4, strV a, strV [], .sc (.slice none 0 0)])).set 3 (.cells true [iV 4, strV a, strV x, .sc (.slice none 0 0)]), ((H.set 3 (.cells true [iV 4, strV a, strV [], .sc (.slice none 0 0)])).set 3 (.cells true [iV 4, strV a, strV x, .sc (.slice none 0 0)])).set 1 (.cells true [.sl 0 q s2.length none 1, iV d, iV e1])]) (by kernel_rfl) (by rfl) ?_)
          repeat' (first|with_reducible refine And.intro ?_ ?_|((with_reducible intro hc);(try simp only [zA,zB,zC,zD,zE,zF,zG,zH,zI,zJ,zK,zL,zM,zN,zO,zP,zQ,zR,zS,zT,zU,zV,zW] at hc);(first|exact absurd rfl hc|exact absurd trivial hc|(exfalso;omega)|skip))|exact Is.mk rfl rfl|exact trivial|((conv => whnf);first|with_reducible refine And.intro ?_ ?_|with_reducible intro hx|exact Is.mk rfl rfl|exact trivial|(with_reducible first|apply Val.via|apply ValH.via)|refine ifB_intro ?_ ?_|refine xA (by omega) ?_|(refine xB ?_;intro kw hk1 hk2)|refine xC (by omega) ?_|refine xD ?_|refine xE (by omega) ?_|refine xF (by omega) ?_|refine xG ?_|refine xH ?_|refine xI (by omega) ?_|refine xJ (by omega) ?_|(with_reducible refine stopA ?_)|refine Exists.intro _ (And.intro (by (first|exact vat_of rfl rfl rfl|exact hvb _ _ (by omega) (by omega)|rfl)) ?_)|fail|refine GOp.drawn (by rfl) (by rfl) (Nat.le_of_ble_eq_true (by rfl)) (by rfl)|refine GOp.via (by rfl) ?_|(first|(refine GCall.mk ((k3' _ rfl rfl rfl).mono ?_);rintro _ _ ⟨rfl,rfl⟩)|(refine GCall.mk ((k4 _ _ _ rfl rfl rfl).mono ?_);rintro _ _ ⟨rfl,rfl⟩))|(with_reducible first|refine stopO ?_|refine stopE ?_|refine stopD ?_|refine stopW ?_|refine stopG ?_|refine stopC ?_|refine stopR ?_)))
          (all_goals (first|omega|(rw [List.length_map];done)|(rw [List.length_map];omega)|contradiction|skip))
          exact Done'.mk ⟨part_frz, rfl, rfl⟩
        | some q2 =>
          rw [h3] at k3'
          simp only [Option.isSome_some, Option.getD_some, hg] at k3' ⊢
          refine VCall.go Tryd.func52 rfl ?_
          repeat' (first|with_reducible refine And.intro ?_ ?_|((with_reducible intro hc);(try simp only [zA,zB,zC,zD,zE,zF,zG,zH,zI,zJ,zK,zL,zM,zN,zO,zP,zQ,zR,zS,zT,zU,zV,zW] at hc);(first|exact absurd rfl hc|exact absurd trivial hc|(exfalso;omega)|skip))|exact Is.mk rfl rfl|((conv => whnf);first|with_reducible refine And.intro ?_ ?_|with_reducible intro hx|exact Is.mk rfl rfl|(with_reducible first|apply Val.via|apply ValH.via)|refine ifB_intro ?_ ?_|refine xA (by omega) ?_|(refine xB ?_;intro kw hk1 hk2)|refine xC (by omega) ?_|refine xD ?_|refine xE (by omega) ?_|refine xF (by omega) ?_|refine xG ?_|refine xH ?_|refine xI (by omega) ?_|refine xJ (by omega) ?_|(with_reducible refine stopA ?_)|refine Exists.intro _ (And.intro (by (first|exact vat_of rfl rfl rfl|rfl)) ?_)|refine GOp.drawn (by rfl) (by rfl) (Nat.le_of_ble_eq_true (by rfl)) (by rfl)|refine GOp.via (by rfl) ?_|(first|(refine GCall.mk ((k1' _).mono ?_);rintro _ _ ⟨rfl,rfl⟩)|(refine GCall.mk ((k2' _ (.cells true [iV 3,strV a,strV [],.sc (.slice none 0 0)])).mono ?_);rintro _ _ ⟨rfl,rfl⟩)|(refine GCall.mk ((k5 _ _ rfl rfl).mono ?_);rintro _ _ ⟨rfl,rfl⟩))|(with_reducible first|refine stopO ?_|refine stopE ?_|refine stopD ?_|refine stopW ?_|refine stopG ?_|refine stopC ?_|refine stopR ?_)))
          (all_goals (first|omega|(rw [List.length_map];done)|(rw [List.length_map];omega)|contradiction|skip))
          refine GWP'.mk (GWP.drawM mixed 41 [5, 7, 10] (fun H => [H.set 3 (.cells true [iV 4, strV a, strV [], .sc (.slice none 0 0)]), (H.set 3 (.cells true [iV 4, strV a, strV [], .sc (.slice none 0 0)])).set 3 (.cells true [iV 4, strV a, strV x, .sc (.slice none 0 0)]), ((H.set 3 (.cells true [iV 4, strV a, strV [], .sc (.slice none 0 0)])).set 3 (.cells true [iV 4, strV a, strV x, .sc (.slice none 0 0)])).set 1 (.cells true [.sl 0 q s2.length none 1, iV d, iV e1])]) (by kernel_rfl) (by rfl) ?_)
          repeat' (first|with_reducible refine And.intro ?_ ?_|((with_reducible intro hc);(try simp only [zA,zB,zC,zD,zE,zF,zG,zH,zI,zJ,zK,zL,zM,zN,zO,zP,zQ,zR,zS,zT,zU,zV,zW] at hc);(first|exact absurd rfl hc|exact absurd trivial hc|(exfalso;omega)|skip))|exact Is.mk rfl rfl|exact trivial|((conv => whnf);first|with_reducible refine And.intro ?_ ?_|with_reducible intro hx|exact Is.mk rfl rfl|exact trivial|(with_reducible first|apply Val.via|apply ValH.via)|refine ifB_intro ?_ ?_|refine xA (by omega) ?_|(refine xB ?_;intro kw hk1 hk2)|refine xC (by omega) ?_|refine xD ?_|refine xE (by omega) ?_|refine xF (by omega) ?_|refine xG ?_|refine xH ?_|refine xI (by omega) ?_|refine xJ (by omega) ?_|(with_reducible refine stopA ?_)|refine Exists.intro _ (And.intro (by (first|exact vat_of rfl rfl rfl|exact hvb _ _ (by omega) (by omega)|rfl)) ?_)|fail|refine GOp.drawn (by rfl) (by rfl) (Nat.le_of_ble_eq_true (by rfl)) (by rfl)|refine GOp.via (by rfl) ?_|(first|(refine GCall.mk ((k3' _ rfl rfl rfl).mono ?_);rintro _ _ ⟨rfl,rfl⟩)|(refine GCall.mk ((k4 _ _ _ rfl rfl rfl).mono ?_);rintro _ _ ⟨rfl,rfl⟩))|(with_reducible first|refine stopO ?_|refine stopE ?_|refine stopD ?_|refine stopW ?_|refine stopG ?_|refine stopC ?_|refine stopR ?_)))
          (all_goals (first|omega|(rw [List.length_map];done)|(rw [List.length_map];omega)|contradiction|skip))
          exact Done'.mk ⟨part_frz, rfl, rfl⟩
end Go.Proofs.YthjfobafdclafaaDoor

/- What stands behind ":not(", walked: the compound within is a premise. -/
namespace Go.Proofs.YthjfobafdclafaaDoor
open Go Go.RowKit
set_option linter.unusedSimpArgs false
set_option linter.unusedVariables false
set_option maxRecDepth 100000
set_option maxHeartbeats 8000000
theorem part_frzQ {K : Heap} {k : Nat} {n m : List UInt8} {l : List SPart} : FrzB 2 K (.ag [iV (k : Int), strV n, strV m, .ro l.length (rowsQ kN l)]) (.ag (cellsP kN (.mk k n m l))) := by
  rw [cellsP]
  exact (Frz.agL (.cons (.of (nameless_sc _)) (.cons (.of (nameless_strV n)) (.cons (.of (nameless_strV m)) (.cons (.of (nameless_ro (rowsQ_nameless (fun k => nameless_sc _) l))) .nil))))).toB
/-- What the reader makes of what stands behind ":not(", the compound within read. -/
def notS (c : List SPart × List UInt8 × Nat) : SPart × List UInt8 × Nat := match skipS [41] c.2.1 with
  | some q => (.mk 7 [] [] c.1, q, c.2.2)
  | none => (.mk 7 [] [] c.1, c.2.1, failS c.2.2 2)
theorem deep_call {t s : List UInt8} (d : Nat) (hd : 16 ≤ d) (hd2 : d ≤ 1000) : VCall Tryd.prog 53 [.ptr 1 0] ⟨rdO t s d 0, 2⟩ (fun v K => v = .ag (cellsP kN (.mk 0 [] [] [])) ∧ K = ⟨rdO t s d 9, 2⟩) := by
  refine VCall.rd ?_
  have haI : ∀ k : Int, RenL [(1, 1), (0, 0)] 0 [VV.ptr 1 0, iV k] [.ptr 1 0, iV k] := fun k => .cons (RenV.ptr (by simp)) (.cons (RenV.of (nameless_sc _)) .nil)
  have k4 := fun s2 e H => VCall.rdAt (H := H) (nameless_tp (by simp)) (haI 9) (fail_call t s2 d e 9)
  refine VCall.go Tryd.func53 rfl ?_
  repeat' (first|with_reducible refine And.intro ?_ ?_|((with_reducible intro hc);(try simp only [zA,zB,zC,zD,zE,zF,zG,zH,zI,zJ,zK,zL,zM,zN,zO,zP,zQ,zR,zS,zT,zU,zV,zW] at hc);(first|exact absurd rfl hc|exact absurd trivial hc|(exfalso;omega)|skip))|exact Is.mk rfl rfl|((conv => whnf);first|with_reducible refine And.intro ?_ ?_|with_reducible intro hx|exact Is.mk rfl rfl|(with_reducible first|apply Val.via|apply ValH.via)|refine ifB_intro ?_ ?_|refine xA (by omega) ?_|(refine xB ?_;intro kw hk1 hk2)|refine xC (by omega) ?_|refine xD ?_|refine xE (by omega) ?_|refine xF (by omega) ?_|refine xG ?_|refine xH ?_|refine xI (by omega) ?_|refine xJ (by omega) ?_|(with_reducible refine stopA ?_)|refine Exists.intro _ (And.intro (by (first|exact vat_of rfl rfl rfl|rfl)) ?_)|refine GOp.drawn (by rfl) (by rfl) (Nat.le_of_ble_eq_true (by rfl)) (by rfl)|refine GOp.via (by rfl) ?_|refine GWP.drawY mixed _ (by kernel_rfl) (by rfl) ?_|(first|(refine GCall.mk ((k4 s _ _ rfl rfl rfl).mono ?_);rintro _ _ ⟨rfl,rfl⟩))|(with_reducible first|refine stopO ?_|refine stopE ?_|refine stopD ?_|refine stopW ?_|refine stopG ?_|refine stopC ?_|refine stopR ?_)))
  (all_goals (first|omega|(rw [List.length_map];done)|(rw [List.length_map];omega)|contradiction|skip))
  exact Done'.mk ⟨part_frz, rfl, rfl⟩
theorem without_call {t s : List UInt8} (ht : t.length ≤ 100000) (d : Nat) (hd : d < 16) (c : List SPart × List UInt8 × Nat) (hc : c.2.1 <:+ t) (h : VCall Tryd.prog 25 [.ptr 1 0] ⟨rdO t s (d + 1) 0, 2⟩ (fun v K => v = .ro c.1.length (rowsQ kN c.1) ∧ K = ⟨rdO t c.2.1 (d + 1) c.2.2, 2⟩)) : VCall Tryd.prog 53 [.ptr 1 0] ⟨rdO t s d 0, 2⟩ (fun v K => v = .ag (cellsP kN (notS c).1) ∧ K = ⟨rdO t (notS c).2.1 d (notS c).2.2, 2⟩) := by
  refine VCall.rd ?_
  have ha : RenL [(1, 1), (0, 0)] 0 [VV.ptr 1 0] [.ptr 1 0] := .cons (RenV.ptr (by simp)) .nil
  have haS : ∀ x, RenL [(1, 1), (0, 0)] 0 [VV.ptr 1 0, strV x] [.ptr 1 0, strV x] := fun x => .cons (RenV.ptr (by simp)) (.cons (RenV.of (nameless_strV x)) .nil)
  have haI : ∀ k : Int, RenL [(1, 1), (0, 0)] 0 [VV.ptr 1 0, iV k] [.ptr 1 0, iV k] := fun k => .cons (RenV.ptr (by simp)) (.cons (RenV.of (nameless_sc _)) .nil)
  have k1 := fun H => VCall.rdAt (H := H) (nameless_ro (rowsQ_nameless (fun k => nameless_sc _) c.1)) ha h
  have k3 := fun e H => VCall.rdAt (H := H) (nameless_sc _) (haS _) (skip_call [41] hc ht (by simp) d e)
  have k4 := fun s2 e H => VCall.rdAt (H := H) (nameless_tp (by simp)) (haI 2) (fail_call t s2 d e 2)
  clear h
  obtain ⟨l, s2, e2⟩ := c
  unfold notS
  simp only at *
  have hd1 : ∀ x : VV, some (VObj.cells true [x, iV (((d + 1 : Nat) : Int) - 1), iV e2]) = some (VObj.cells true [x, iV d, iV e2]) := fun x => by
    rw [show ((d + 1 : Nat) : Int) - 1 = d by omega]
  cases h3 : skipS [41] s2 with
  | none =>
    rw [h3] at k3
    simp only [Option.isSome_none, Option.getD_none] at k3 ⊢
    refine VCall.go Tryd.func53 rfl ?_
    repeat' (first|with_reducible refine And.intro ?_ ?_|((with_reducible intro hc);(try simp only [zA,zB,zC,zD,zE,zF,zG,zH,zI,zJ,zK,zL,zM,zN,zO,zP,zQ,zR,zS,zT,zU,zV,zW] at hc);(first|exact absurd rfl hc|exact absurd trivial hc|(exfalso;omega)|skip))|exact Is.mk rfl rfl|((conv => whnf);first|with_reducible refine And.intro ?_ ?_|with_reducible intro hx|exact Is.mk rfl rfl|(with_reducible first|apply Val.via|apply ValH.via)|refine ifB_intro ?_ ?_|refine xA (by omega) ?_|(refine xB ?_;intro kw hk1 hk2)|refine xC (by omega) ?_|refine xD ?_|refine xE (by omega) ?_|refine xF (by omega) ?_|refine xG ?_|refine xH ?_|refine xI (by omega) ?_|refine xJ (by omega) ?_|(with_reducible refine stopA ?_)|refine Exists.intro _ (And.intro (by (first|exact vat_of rfl rfl rfl|rfl)) ?_)|refine GOp.drawn (by rfl) (by rfl) (Nat.le_of_ble_eq_true (by rfl)) (by rfl)|refine GOp.via (by rfl) ?_|refine GWP.drawY mixed _ (by kernel_rfl) (by rfl) ?_|(first|(refine GCall.mk ((k1 _ rfl rfl rfl).mono ?_);rintro _ _ ⟨rfl,rfl⟩)|(refine GCall.mk ((k3 e2 _ (by exact hd1 _) rfl rfl).mono ?_);rintro _ _ ⟨rfl,rfl⟩)|(refine GCall.mk ((k4 _ _ _ rfl rfl rfl).mono ?_);rintro _ _ ⟨rfl,rfl⟩))|(with_reducible first|refine stopO ?_|refine stopE ?_|refine stopD ?_|refine stopW ?_|refine stopG ?_|refine stopC ?_|refine stopR ?_)))
    (all_goals (first|omega|(rw [List.length_map];done)|(rw [List.length_map];omega)|contradiction|skip))
    exact Done'.mk ⟨part_frzQ, rfl, rfl⟩
  | some q =>
    rw [h3] at k3
    simp only [Option.isSome_some, Option.getD_some] at k3 ⊢
    refine VCall.go Tryd.func53 rfl ?_
    repeat' (first|with_reducible refine And.intro ?_ ?_|((with_reducible intro hc);(try simp only [zA,zB,zC,zD,zE,zF,zG,zH,zI,zJ,zK,zL,zM,zN,zO,zP,zQ,zR,zS,zT,zU,zV,zW] at hc);(first|exact absurd rfl hc|exact absurd trivial hc|(exfalso;omega)|skip))|exact Is.mk rfl rfl|((conv => whnf);first|with_reducible refine And.intro ?_ ?_|with_reducible intro hx|exact Is.mk rfl rfl|(with_reducible first|apply Val.via|apply ValH.via)|refine ifB_intro ?_ ?_|refine xA (by omega) ?_|(refine xB ?_;intro kw hk1 hk2)|refine xC (by omega) ?_|refine xD ?_|refine xE (by omega) ?_|refine xF (by omega) ?_|refine xG ?_|refine xH ?_|refine xI (by omega) ?_|refine xJ (by omega) ?_|(with_reducible refine stopA ?_)|refine Exists.intro _ (And.intro (by (first|exact vat_of rfl rfl rfl|rfl)) ?_)|refine GOp.drawn (by rfl) (by rfl) (Nat.le_of_ble_eq_true (by rfl)) (by rfl)|refine GOp.via (by rfl) ?_|refine GWP.drawY mixed _ (by kernel_rfl) (by rfl) ?_|(first|(refine GCall.mk ((k1 _ rfl rfl rfl).mono ?_);rintro _ _ ⟨rfl,rfl⟩)|(refine GCall.mk ((k3 e2 _ (by exact hd1 _) rfl rfl).mono ?_);rintro _ _ ⟨rfl,rfl⟩)|(refine GCall.mk ((k4 _ _ _ rfl rfl rfl).mono ?_);rintro _ _ ⟨rfl,rfl⟩))|(with_reducible first|refine stopO ?_|refine stopE ?_|refine stopD ?_|refine stopW ?_|refine stopG ?_|refine stopC ?_|refine stopR ?_)))
    (all_goals (first|omega|(rw [List.length_map];done)|(rw [List.length_map];omega)|contradiction|skip))
    exact Done'.mk ⟨part_frzQ, rfl, rfl⟩
end Go.Proofs.YthjfobafdclafaaDoor

/- One part more of a compound, walked: what stands behind ":not(" is a premise. -/
namespace Go.Proofs.YthjfobafdclafaaDoor
open Go Go.RowKit
set_option linter.unusedSimpArgs false
set_option linter.unusedVariables false
set_option maxRecDepth 100000
set_option maxHeartbeats 8000000
theorem VCall.rd1 {P : Program} {f : FuncId} {args : List VV} {t s s' : List UInt8} {d d' e e' : Nat} {u : VV} (hu : Nameless u) (ha : RenL [(1, 1), (0, 0)] 0 args args) (h : VCall P f args ⟨rdO t s d e, 2⟩ (fun v K => v = u ∧ K = ⟨rdO t s' d' e', 2⟩)) (c : VObj) : VCall P f args ⟨(2, c) :: (1, rdC t.length s d e) :: (0, .cells true (t.map bV)) :: [], 3⟩ (fun v K => v = u ∧ K = ⟨(1, rdC t.length s' d' e') :: (0, .cells true (t.map bV)) :: (2, c) :: [], 3⟩) := (VCall.rdAt hu ha h rfl rfl rfl).mono fun v K h => h
theorem VCall.rd2 {P : Program} {f : FuncId} {args : List VV} {t s s' : List UInt8} {d d' e e' : Nat} {u : VV} (hu : Nameless u) (ha : RenL [(1, 1), (0, 0)] 0 args args) (h : VCall P f args ⟨rdO t s d e, 2⟩ (fun v K => v = u ∧ K = ⟨rdO t s' d' e', 2⟩)) (c : VObj) : VCall P f args ⟨(1, rdC t.length s d e) :: (0, .cells true (t.map bV)) :: (2, c) :: [], 3⟩ (fun v K => v = u ∧ K = ⟨(1, rdC t.length s' d' e') :: (0, .cells true (t.map bV)) :: (2, c) :: [], 3⟩) := (VCall.rdAt hu ha h rfl rfl rfl).mono fun v K h => h
/-- One part more. -/
def moreS (w : List UInt8 → SPart × List UInt8 × Nat) (s : List UInt8) (e : Nat) : Option SPart × List UInt8 × Nat :=
  if e ≠ 0 then (none, s, e) else match skipS [35] s with
    | some r => (some (.mk 2 [] (tokS r).1 []), (tokS r).2, if (tokS r).1 = [] then 2 else 0)
    | none => match skipS [91] s with
      | some r => (some (attrS r).1, (attrS r).2.1, (attrS r).2.2)
      | none => match skipS wFirst s with
        | some r => (some (.mk 5 [] [] []), r, 0)
        | none => match skipS wEmpty s with
          | some r => (some (.mk 6 [] [] []), r, 0)
          | none => match skipS wNot s with
            | some r => (some (w r).1, (w r).2.1, (w r).2.2)
            | none => (none, s, 0)
def moreV (o : Option SPart) : VV := .tp [.ag (cellsP kN (o.getD (.mk 0 [] [] []))), booV o.isSome]
theorem more_frz {K : Heap} {k : Nat} {n m : List UInt8} {c : Nat} : FrzB 2 K (.tp [.ag [iV (k : Int), strV n, strV m, .sc (.slice none 0 c)], booV true]) (moreV (some (.mk k n m []))) := FrzB.tp2 part_frz (.of (nameless_sc _))
theorem more_frzQ {K : Heap} {k : Nat} {n m : List UInt8} {l : List SPart} : FrzB 2 K (.tp [.ag [iV (k : Int), strV n, strV m, .ro l.length (rowsQ kN l)], booV true]) (moreV (some (.mk k n m l))) := FrzB.tp2 part_frzQ (.of (nameless_sc _))
theorem none_frz {K : Heap} {c : Nat} : FrzB 2 K (.tp [.ag [iV ((0 : Nat) : Int), strV [], strV [], .sc (.slice none 0 c)], booV false]) (moreV none) := FrzB.tp2 part_frz (.of (nameless_sc _))
theorem nameless_part (p : SPart) : Nameless (.ag (cellsP kN p)) := nameless_ag (cellsP_nameless (fun k => nameless_sc _) p)
theorem more_call {t s : List UInt8} (hs : s <:+ t) (ht : t.length ≤ 100000) (d e : Nat) (w : List UInt8 → SPart × List UInt8 × Nat)
    (hw : ∀ r, skipS wNot s = some r → VCall Tryd.prog 53 [.ptr 1 0] ⟨rdO t r d 0, 2⟩ (fun v K => v = .ag (cellsP kN (w r).1) ∧ K = ⟨rdO t (w r).2.1 d (w r).2.2, 2⟩)) :
    VCall Tryd.prog 40 [.ptr 1 0] ⟨rdO t s d e, 2⟩ (fun v K => v = moreV (moreS w s e).1 ∧ K = ⟨rdO t (moreS w s e).2.1 d (moreS w s e).2.2, 2⟩) := by
  refine VCall.rd ?_
  have ha : RenL [(1, 1), (0, 0)] 0 [VV.ptr 1 0] [.ptr 1 0] := .cons (RenV.ptr (by simp)) .nil
  have haS : ∀ x, RenL [(1, 1), (0, 0)] 0 [VV.ptr 1 0, strV x] [.ptr 1 0, strV x] := fun x => .cons (RenV.ptr (by simp)) (.cons (RenV.of (nameless_strV x)) .nil)
  cases e with
  | succ e =>
    have hm : moreS w s (e + 1) = (none, s, e + 1) := by simp [moreS]
    rw [hm]
    refine VCall.go Tryd.func40 rfl ?_
    repeat' (first|with_reducible refine And.intro ?_ ?_|((with_reducible intro hc);(try simp only [zA,zB,zC,zD,zE,zF,zG,zH,zI,zJ,zK,zL,zM,zN,zO,zP,zQ,zR,zS,zT,zU,zV,zW] at hc);(first|exact absurd rfl hc|exact absurd trivial hc|(exfalso;omega)|skip))|exact Is.mk rfl rfl|((conv => whnf);first|with_reducible refine And.intro ?_ ?_|with_reducible intro hx|exact Is.mk rfl rfl|(with_reducible first|apply Val.via|apply ValH.via)|refine ifB_intro ?_ ?_|refine xA (by omega) ?_|(refine xB ?_;intro kw hk1 hk2)|refine xC (by omega) ?_|refine xD ?_|refine xE (by omega) ?_|refine xF (by omega) ?_|refine xG ?_|refine xH ?_|refine xI (by omega) ?_|refine xJ (by omega) ?_|(with_reducible refine stopA ?_)|refine Exists.intro _ (And.intro (by (first|exact vat_of rfl rfl rfl|rfl)) ?_)|refine GOp.drawn (by rfl) (by rfl) (Nat.le_of_ble_eq_true (by rfl)) (by rfl)|refine GOp.via (by rfl) ?_|refine GWP.drawY mixed _ (by kernel_rfl) (by rfl) ?_|fail|(with_reducible first|refine stopO ?_|refine stopE ?_|refine stopD ?_|refine stopW ?_|refine stopG ?_|refine stopC ?_|refine stopR ?_)))
    (all_goals (first|omega|(rw [List.length_map];done)|(rw [List.length_map];omega)|contradiction|skip))
    exact Done'.mk ⟨none_frz, rfl, rfl⟩
  | zero =>
    have k1 := VCall.rd1 (nameless_sc _) (haS _) (skip_call [35] hs ht (by simp) d 0)
    have k2 := VCall.rd2 (nameless_sc _) (haS _) (skip_call [91] hs ht (by simp) d 0)
    have k3 := VCall.rd2 (nameless_sc _) (haS _) (skip_call wFirst hs ht (by simp [wFirst]) d 0)
    have k4 := VCall.rd2 (nameless_sc _) (haS _) (skip_call wEmpty hs ht (by simp [wEmpty]) d 0)
    have k5 := VCall.rd2 (nameless_sc _) (haS _) (skip_call wNot hs ht (by simp [wNot]) d 0)
    unfold moreS
    simp only [ne_eq, not_true_eq_false, if_false]
    cases h1 : skipS [35] s with
    | some r =>
      rw [h1] at k1
      have hr := skipS_suf h1 hs
      have k6 := VCall.rd2 (nameless_strV _) ha (name_call hr ht d 0)
      have he1 : (if (tokS r).1 = [] then failS 0 2 else 0) = (if (tokS r).1 = [] then 2 else 0) := by split <;> rfl
      rw [he1] at k6
      simp only [Option.isSome_some, Option.getD_some] at k1 ⊢
      generalize (if (tokS r).1 = [] then 2 else 0) = e1 at *
      generalize (tokS r).1 = a at *
      generalize (tokS r).2 = s1 at *
      refine VCall.go Tryd.func40 rfl ?_
      repeat' (first|with_reducible refine And.intro ?_ ?_|((with_reducible intro hc);(try simp only [zA,zB,zC,zD,zE,zF,zG,zH,zI,zJ,zK,zL,zM,zN,zO,zP,zQ,zR,zS,zT,zU,zV,zW] at hc);(first|exact absurd rfl hc|exact absurd trivial hc|(exfalso;omega)|skip))|exact Is.mk rfl rfl|((conv => whnf);first|with_reducible refine And.intro ?_ ?_|with_reducible intro hx|exact Is.mk rfl rfl|(with_reducible first|apply Val.via|apply ValH.via)|refine ifB_intro ?_ ?_|refine xA (by omega) ?_|(refine xB ?_;intro kw hk1 hk2)|refine xC (by omega) ?_|refine xD ?_|refine xE (by omega) ?_|refine xF (by omega) ?_|refine xG ?_|refine xH ?_|refine xI (by omega) ?_|refine xJ (by omega) ?_|(with_reducible refine stopA ?_)|refine Exists.intro _ (And.intro (by (first|exact vat_of rfl rfl rfl|rfl)) ?_)|refine GOp.drawn (by rfl) (by rfl) (Nat.le_of_ble_eq_true (by rfl)) (by rfl)|refine GOp.via (by rfl) ?_|refine GWP.drawY mixed _ (by kernel_rfl) (by rfl) ?_|(first|(refine GCall.mk ((k1 _).mono ?_);rintro _ _ ⟨rfl,rfl⟩)|(refine GCall.mk ((k6 _).mono ?_);rintro _ _ ⟨rfl,rfl⟩))|(with_reducible first|refine stopO ?_|refine stopE ?_|refine stopD ?_|refine stopW ?_|refine stopG ?_|refine stopC ?_|refine stopR ?_)))
      (all_goals (first|omega|(rw [List.length_map];done)|(rw [List.length_map];omega)|contradiction|skip))
      exact Done'.mk ⟨more_frz, rfl, rfl⟩
    | none =>
      rw [h1] at k1
      simp only [Option.isSome_none, Option.getD_none] at k1 ⊢
      cases h2 : skipS [91] s with
      | some r =>
        rw [h2] at k2
        have hr := skipS_suf h2 hs
        simp only [Option.isSome_some, Option.getD_some] at k2 ⊢
        have k6 := VCall.rd2 (nameless_part _) ha (attr_call hr ht d)
        generalize attrS r = wr at *
        obtain ⟨⟨kk, nn, mm, ll⟩, s1, e1⟩ := wr
        simp only at k6 ⊢
        rw [cellsP] at k6
        refine VCall.go Tryd.func40 rfl ?_
        repeat' (first|with_reducible refine And.intro ?_ ?_|((with_reducible intro hc);(try simp only [zA,zB,zC,zD,zE,zF,zG,zH,zI,zJ,zK,zL,zM,zN,zO,zP,zQ,zR,zS,zT,zU,zV,zW] at hc);(first|exact absurd rfl hc|exact absurd trivial hc|(exfalso;omega)|skip))|exact Is.mk rfl rfl|((conv => whnf);first|with_reducible refine And.intro ?_ ?_|with_reducible intro hx|exact Is.mk rfl rfl|(with_reducible first|apply Val.via|apply ValH.via)|refine ifB_intro ?_ ?_|refine xA (by omega) ?_|(refine xB ?_;intro kw hk1 hk2)|refine xC (by omega) ?_|refine xD ?_|refine xE (by omega) ?_|refine xF (by omega) ?_|refine xG ?_|refine xH ?_|refine xI (by omega) ?_|refine xJ (by omega) ?_|(with_reducible refine stopA ?_)|refine Exists.intro _ (And.intro (by (first|exact vat_of rfl rfl rfl|rfl)) ?_)|refine GOp.drawn (by rfl) (by rfl) (Nat.le_of_ble_eq_true (by rfl)) (by rfl)|refine GOp.via (by rfl) ?_|refine GWP.drawY mixed _ (by kernel_rfl) (by rfl) ?_|(first|(refine GCall.mk ((k1 _).mono ?_);rintro _ _ ⟨rfl,rfl⟩)|(refine GCall.mk ((k2 _).mono ?_);rintro _ _ ⟨rfl,rfl⟩)|(refine GCall.mk ((k6 _).mono ?_);rintro _ _ ⟨rfl,rfl⟩))|(with_reducible first|refine stopO ?_|refine stopE ?_|refine stopD ?_|refine stopW ?_|refine stopG ?_|refine stopC ?_|refine stopR ?_)))
        (all_goals (first|omega|(rw [List.length_map];done)|(rw [List.length_map];omega)|contradiction|skip))
        exact Done'.mk ⟨more_frzQ, rfl, rfl⟩
      | none =>
        rw [h2] at k2
        simp only [Option.isSome_none, Option.getD_none] at k2 ⊢
        cases h3 : skipS wFirst s with
        | some r =>
          rw [h3] at k3
          have hr := skipS_suf h3 hs
          simp only [Option.isSome_some, Option.getD_some] at k3 ⊢
          refine VCall.go Tryd.func40 rfl ?_
          repeat' (first|with_reducible refine And.intro ?_ ?_|((with_reducible intro hc);(try simp only [zA,zB,zC,zD,zE,zF,zG,zH,zI,zJ,zK,zL,zM,zN,zO,zP,zQ,zR,zS,zT,zU,zV,zW] at hc);(first|exact absurd rfl hc|exact absurd trivial hc|(exfalso;omega)|skip))|exact Is.mk rfl rfl|((conv => whnf);first|with_reducible refine And.intro ?_ ?_|with_reducible intro hx|exact Is.mk rfl rfl|(with_reducible first|apply Val.via|apply ValH.via)|refine ifB_intro ?_ ?_|refine xA (by omega) ?_|(refine xB ?_;intro kw hk1 hk2)|refine xC (by omega) ?_|refine xD ?_|refine xE (by omega) ?_|refine xF (by omega) ?_|refine xG ?_|refine xH ?_|refine xI (by omega) ?_|refine xJ (by omega) ?_|(with_reducible refine stopA ?_)|refine Exists.intro _ (And.intro (by (first|exact vat_of rfl rfl rfl|rfl)) ?_)|refine GOp.drawn (by rfl) (by rfl) (Nat.le_of_ble_eq_true (by rfl)) (by rfl)|refine GOp.via (by rfl) ?_|refine GWP.drawY mixed _ (by kernel_rfl) (by rfl) ?_|(first|(refine GCall.mk ((k1 _).mono ?_);rintro _ _ ⟨rfl,rfl⟩)|(refine GCall.mk ((k2 _).mono ?_);rintro _ _ ⟨rfl,rfl⟩)|(refine GCall.mk ((k3 _).mono ?_);rintro _ _ ⟨rfl,rfl⟩))|(with_reducible first|refine stopO ?_|refine stopE ?_|refine stopD ?_|refine stopW ?_|refine stopG ?_|refine stopC ?_|refine stopR ?_)))
          (all_goals (first|omega|(rw [List.length_map];done)|(rw [List.length_map];omega)|contradiction|skip))
          exact Done'.mk ⟨more_frz, rfl, rfl⟩
        | none =>
          rw [h3] at k3
          simp only [Option.isSome_none, Option.getD_none] at k3 ⊢
          cases h4 : skipS wEmpty s with
          | some r =>
            rw [h4] at k4
            have hr := skipS_suf h4 hs
            simp only [Option.isSome_some, Option.getD_some] at k4 ⊢
            refine VCall.go Tryd.func40 rfl ?_
            repeat' (first|with_reducible refine And.intro ?_ ?_|((with_reducible intro hc);(try simp only [zA,zB,zC,zD,zE,zF,zG,zH,zI,zJ,zK,zL,zM,zN,zO,zP,zQ,zR,zS,zT,zU,zV,zW] at hc);(first|exact absurd rfl hc|exact absurd trivial hc|(exfalso;omega)|skip))|exact Is.mk rfl rfl|((conv => whnf);first|with_reducible refine And.intro ?_ ?_|with_reducible intro hx|exact Is.mk rfl rfl|(with_reducible first|apply Val.via|apply ValH.via)|refine ifB_intro ?_ ?_|refine xA (by omega) ?_|(refine xB ?_;intro kw hk1 hk2)|refine xC (by omega) ?_|refine xD ?_|refine xE (by omega) ?_|refine xF (by omega) ?_|refine xG ?_|refine xH ?_|refine xI (by omega) ?_|refine xJ (by omega) ?_|(with_reducible refine stopA ?_)|refine Exists.intro _ (And.intro (by (first|exact vat_of rfl rfl rfl|rfl)) ?_)|refine GOp.drawn (by rfl) (by rfl) (Nat.le_of_ble_eq_true (by rfl)) (by rfl)|refine GOp.via (by rfl) ?_|refine GWP.drawY mixed _ (by kernel_rfl) (by rfl) ?_|(first|(refine GCall.mk ((k1 _).mono ?_);rintro _ _ ⟨rfl,rfl⟩)|(refine GCall.mk ((k2 _).mono ?_);rintro _ _ ⟨rfl,rfl⟩)|(refine GCall.mk ((k3 _).mono ?_);rintro _ _ ⟨rfl,rfl⟩)|(refine GCall.mk ((k4 _).mono ?_);rintro _ _ ⟨rfl,rfl⟩))|(with_reducible first|refine stopO ?_|refine stopE ?_|refine stopD ?_|refine stopW ?_|refine stopG ?_|refine stopC ?_|refine stopR ?_)))
            (all_goals (first|omega|(rw [List.length_map];done)|(rw [List.length_map];omega)|contradiction|skip))
            exact Done'.mk ⟨more_frz, rfl, rfl⟩
          | none =>
            rw [h4] at k4
            simp only [Option.isSome_none, Option.getD_none] at k4 ⊢
            cases h5 : skipS wNot s with
            | some r =>
              rw [h5] at k5
              have hr := skipS_suf h5 hs
              simp only [Option.isSome_some, Option.getD_some] at k5 ⊢
              have k6 := VCall.rd2 (nameless_part _) ha (hw r h5)
              generalize w r = wr at *
              obtain ⟨⟨kk, nn, mm, ll⟩, s1, e1⟩ := wr
              simp only at k6 ⊢
              rw [cellsP] at k6
              refine VCall.go Tryd.func40 rfl ?_
              repeat' (first|with_reducible refine And.intro ?_ ?_|((with_reducible intro hc);(try simp only [zA,zB,zC,zD,zE,zF,zG,zH,zI,zJ,zK,zL,zM,zN,zO,zP,zQ,zR,zS,zT,zU,zV,zW] at hc);(first|exact absurd rfl hc|exact absurd trivial hc|(exfalso;omega)|skip))|exact Is.mk rfl rfl|((conv => whnf);first|with_reducible refine And.intro ?_ ?_|with_reducible intro hx|exact Is.mk rfl rfl|(with_reducible first|apply Val.via|apply ValH.via)|refine ifB_intro ?_ ?_|refine xA (by omega) ?_|(refine xB ?_;intro kw hk1 hk2)|refine xC (by omega) ?_|refine xD ?_|refine xE (by omega) ?_|refine xF (by omega) ?_|refine xG ?_|refine xH ?_|refine xI (by omega) ?_|refine xJ (by omega) ?_|(with_reducible refine stopA ?_)|refine Exists.intro _ (And.intro (by (first|exact vat_of rfl rfl rfl|rfl)) ?_)|refine GOp.drawn (by rfl) (by rfl) (Nat.le_of_ble_eq_true (by rfl)) (by rfl)|refine GOp.via (by rfl) ?_|refine GWP.drawY mixed _ (by kernel_rfl) (by rfl) ?_|(first|(refine GCall.mk ((k1 _).mono ?_);rintro _ _ ⟨rfl,rfl⟩)|(refine GCall.mk ((k2 _).mono ?_);rintro _ _ ⟨rfl,rfl⟩)|(refine GCall.mk ((k3 _).mono ?_);rintro _ _ ⟨rfl,rfl⟩)|(refine GCall.mk ((k4 _).mono ?_);rintro _ _ ⟨rfl,rfl⟩)|(refine GCall.mk ((k5 _).mono ?_);rintro _ _ ⟨rfl,rfl⟩)|(refine GCall.mk ((k6 _).mono ?_);rintro _ _ ⟨rfl,rfl⟩))|(with_reducible first|refine stopO ?_|refine stopE ?_|refine stopD ?_|refine stopW ?_|refine stopG ?_|refine stopC ?_|refine stopR ?_)))
              (all_goals (first|omega|(rw [List.length_map];done)|(rw [List.length_map];omega)|contradiction|skip))
              exact Done'.mk ⟨more_frzQ, rfl, rfl⟩
            | none =>
              rw [h5] at k5
              simp only [Option.isSome_none, Option.getD_none] at k5 ⊢
              refine VCall.go Tryd.func40 rfl ?_
              repeat' (first|with_reducible refine And.intro ?_ ?_|((with_reducible intro hc);(try simp only [zA,zB,zC,zD,zE,zF,zG,zH,zI,zJ,zK,zL,zM,zN,zO,zP,zQ,zR,zS,zT,zU,zV,zW] at hc);(first|exact absurd rfl hc|exact absurd trivial hc|(exfalso;omega)|skip))|exact Is.mk rfl rfl|((conv => whnf);first|with_reducible refine And.intro ?_ ?_|with_reducible intro hx|exact Is.mk rfl rfl|(with_reducible first|apply Val.via|apply ValH.via)|refine ifB_intro ?_ ?_|refine xA (by omega) ?_|(refine xB ?_;intro kw hk1 hk2)|refine xC (by omega) ?_|refine xD ?_|refine xE (by omega) ?_|refine xF (by omega) ?_|refine xG ?_|refine xH ?_|refine xI (by omega) ?_|refine xJ (by omega) ?_|(with_reducible refine stopA ?_)|refine Exists.intro _ (And.intro (by (first|exact vat_of rfl rfl rfl|rfl)) ?_)|refine GOp.drawn (by rfl) (by rfl) (Nat.le_of_ble_eq_true (by rfl)) (by rfl)|refine GOp.via (by rfl) ?_|refine GWP.drawY mixed _ (by kernel_rfl) (by rfl) ?_|(first|(refine GCall.mk ((k1 _).mono ?_);rintro _ _ ⟨rfl,rfl⟩)|(refine GCall.mk ((k2 _).mono ?_);rintro _ _ ⟨rfl,rfl⟩)|(refine GCall.mk ((k3 _).mono ?_);rintro _ _ ⟨rfl,rfl⟩)|(refine GCall.mk ((k4 _).mono ?_);rintro _ _ ⟨rfl,rfl⟩)|(refine GCall.mk ((k5 _).mono ?_);rintro _ _ ⟨rfl,rfl⟩))|(with_reducible first|refine stopO ?_|refine stopE ?_|refine stopD ?_|refine stopW ?_|refine stopG ?_|refine stopC ?_|refine stopR ?_)))
              (all_goals (first|omega|(rw [List.length_map];done)|(rw [List.length_map];omega)|contradiction|skip))
              exact Done'.mk ⟨none_frz, rfl, rfl⟩
end Go.Proofs.YthjfobafdclafaaDoor

/- A compound's loop in plain words: one step, and that the rest is an end of what was given. -/
namespace Go.Proofs.YthjfobafdclafaaDoor
open Go Go.RowKit
set_option linter.unusedSimpArgs false
set_option linter.unusedVariables false
/-- What the reader makes of what stands behind ":not(". -/
def wS (n d : Nat) (r : List UInt8) : SPart × List UInt8 × Nat := if 16 ≤ d then (.mk 0 [] [] [], r, 9) else notS (compS n (d + 1) r)
theorem loopS_step (n d : Nat) (out : List SPart) (s : List UInt8) (e : Nat) : loopS (n + 1) d out s e = (match (moreS (wS n d) s e).1 with
    | some p => loopS n d (out ++ [p]) (moreS (wS n d) s e).2.1 (moreS (wS n d) s e).2.2
    | none => (out, (moreS (wS n d) s e).2.1, (moreS (wS n d) s e).2.2)) := by
  rw [loopS, moreS]
  by_cases he : e ≠ 0
  · rw [if_pos he, if_pos he]
  · rw [if_neg he, if_neg he]
    cases skipS [35] s with
    | some r => rfl
    | none =>
      cases skipS [91] s with
      | some r => rfl
      | none =>
        cases skipS wFirst s with
        | some r => rfl
        | none =>
          cases skipS wEmpty s with
          | some r => rfl
          | none =>
            cases skipS wNot s with
            | none => rfl
            | some r =>
              simp only [wS, notS, compS]
              by_cases hd : 16 ≤ d
              · rw [if_pos hd, if_pos hd]
              · rw [if_neg hd, if_neg hd]
                cases skipS [41] (overS (loopS n (d + 1) (headS r).1 (headS r).2 0)).2.1 with
                | some q => rfl
                | none => rfl
theorem skip_suf {p s r : List UInt8} (h : skipS p s = some r) : r <:+ s := skipS_suf h (List.suffix_refl s)
theorem tok_suf (s : List UInt8) : (tokS s).2 <:+ s := tokS_suf (List.suffix_refl s)
theorem close_suf (p : SPart) (s : List UInt8) (e : Nat) : (closeS p s e).2.1 <:+ s := by
  unfold closeS
  cases h : skipS [93] s with
  | none => exact List.suffix_refl s
  | some r => exact skip_suf h
theorem attr_suf (s : List UInt8) : (attrS s).2.1 <:+ s := by
  unfold attrS
  cases h : skipS [61, 34] (tokS s).2 with
  | none => exact (close_suf _ _ _).trans (tok_suf s)
  | some r =>
    have hr := (skip_suf h).trans (tok_suf s)
    simp only
    cases hf : (cutB r 34).2.2 with
    | false => exact hr
    | true => exact (close_suf _ _ _).trans ((cutB_view (List.suffix_refl r) 34 hf).1.trans hr)
theorem head_suf (s : List UInt8) : (headS s).2 <:+ s := by
  unfold headS
  cases h : skipS [42] s with
  | some r => exact skip_suf h
  | none =>
    simp only
    split
    · exact List.suffix_refl s
    · exact tok_suf s
theorem over_rest (r : List SPart × List UInt8 × Nat) : (overS r).2.1 = r.2.1 := rfl
theorem not_suf (c : List SPart × List UInt8 × Nat) : (notS c).2.1 <:+ c.2.1 := by
  unfold notS
  cases h : skipS [41] c.2.1 with
  | some q => exact skip_suf h
  | none => exact List.suffix_refl _
theorem more_suf {w : List UInt8 → SPart × List UInt8 × Nat} (hw : ∀ r, (w r).2.1 <:+ r) (s : List UInt8) (e : Nat) : (moreS w s e).2.1 <:+ s ∧ ((moreS w s e).1.isSome = true → (moreS w s e).2.1.length < s.length) := by
  have key : ∀ {p r q : List UInt8}, skipS p s = some r → 0 < p.length → q <:+ r → q <:+ s ∧ q.length < s.length := fun h hp hq => ⟨hq.trans (skip_suf h), by have := skipS_len h; have := hq.length_le; omega⟩
  unfold moreS
  by_cases he : e ≠ 0
  · rw [if_pos he]
    exact ⟨List.suffix_refl s, fun h => by cases h⟩
  · rw [if_neg he]
    cases h1 : skipS [35] s with
    | some r => exact ⟨(key h1 (by simp) (tok_suf r)).1, fun _ => (key h1 (by simp) (tok_suf r)).2⟩
    | none =>
      cases h2 : skipS [91] s with
      | some r => exact ⟨(key h2 (by simp) (attr_suf r)).1, fun _ => (key h2 (by simp) (attr_suf r)).2⟩
      | none =>
        cases h3 : skipS wFirst s with
        | some r => exact ⟨(key h3 (by simp [wFirst]) (List.suffix_refl r)).1, fun _ => (key h3 (by simp [wFirst]) (List.suffix_refl r)).2⟩
        | none =>
          cases h4 : skipS wEmpty s with
          | some r => exact ⟨(key h4 (by simp [wEmpty]) (List.suffix_refl r)).1, fun _ => (key h4 (by simp [wEmpty]) (List.suffix_refl r)).2⟩
          | none =>
            cases h5 : skipS wNot s with
            | some r => exact ⟨(key h5 (by simp [wNot]) (hw r)).1, fun _ => (key h5 (by simp [wNot]) (hw r)).2⟩
            | none => exact ⟨List.suffix_refl s, fun h => by cases h⟩
theorem loop_suf : ∀ (n d : Nat) (out : List SPart) (s : List UInt8) (e : Nat), (loopS n d out s e).2.1 <:+ s
  | 0, d, out, s, e => List.suffix_refl s
  | n + 1, d, out, s, e => by
    have hw : ∀ r, (wS n d r).2.1 <:+ r := fun r => by
      unfold wS
      split
      · exact List.suffix_refl r
      · exact (not_suf _).trans (by unfold compS; rw [over_rest]; exact (loop_suf n (d + 1) _ _ 0).trans (head_suf r))
    have hm := (more_suf hw s e).1
    rw [loopS_step]
    cases (moreS (wS n d) s e).1 with
    | none => exact hm
    | some p => exact (loop_suf n d _ _ _).trans hm
theorem comp_suf (n d : Nat) (s : List UInt8) : (compS n d s).2.1 <:+ s := (loop_suf n d _ _ 0).trans (head_suf s)
theorem wS_suf (n d : Nat) (r : List UInt8) : (wS n d r).2.1 <:+ r := by
  unfold wS
  split
  · exact List.suffix_refl r
  · exact (not_suf _).trans (comp_suf n (d + 1) r)
end Go.Proofs.YthjfobafdclafaaDoor

/- A compound, walked. -/
namespace Go.Proofs.YthjfobafdclafaaDoor
open Go Go.RowKit
set_option linter.unusedSimpArgs false
set_option linter.unusedVariables false
set_option maxRecDepth 100000
set_option maxHeartbeats 8000000
theorem restV_renQ {R : List (Nat × Nat)} {T N : Nat} (h : 0 < T) (s : List UInt8) : RenV R T (restV N s) (restV N s) := by
  cases s with
  | nil => exact RenV.of (nameless_ro (by simp))
  | cons c r => exact RenV.slL h
theorem RenV.nilQ {R : List (Nat × Nat)} {T : Nat} : RenV R T (.sc (.slice none 0 0)) (.ro 0 []) := fun w Z ρ ρ1 y _ hv => by
  cases hv
  exact .ro0
theorem frz_outQ {K : Heap} {b n : Nat} {l : List SPart} (hg : K.get b = some (.cells true (rowsQ kN l))) (hn : n = l.length) : FrzB 2 K (.sl b 0 n none 4) (.ro l.length (rowsQ kN l)) := by
  subst hn
  have := Frz.sl (K := K) (b := b) (o := 0) (n := l.length) (z := 4) (c := none) hg (by rw [rowsQ_len]; omega) (rowsQ_nameless (fun k => nameless_sc _) l)
  rw [List.drop_zero, List.take_of_length_le (by rw [rowsQ_len]; exact Nat.le_refl _)] at this
  exact this.toB
theorem growQ {l : List SPart} {k : Nat} {n m : List UInt8} {q : List SPart} {z : Nat} (hz : z = l.length) : (rowsQ kN l).take (z * 4) ++ [kN k, strV n, strV m, .ro q.length (rowsQ kN q)] = rowsQ kN (l ++ [.mk k n m q]) := by
  subst hz
  rw [List.take_of_length_le (by rw [rowsQ_len]; exact Nat.le_refl _), rowsQ_snoc, cellsP]
theorem slEQ {R : List (Nat × Nat)} {T b b' n n' : Nat} (h : (b, b') ∈ R) (e : n = n') : RenV R T (.sl b 0 n none 4) (.sl b' 0 n' none 4) := by subst e; exact .sl h
theorem renEQ {R : List (Nat × Nat)} {T : Nat} {vs us : List VV} (e : vs = us) (h : ∀ v ∈ us, Nameless v) : RenL R T vs us := by subst e; exact .of h
theorem sty_Q : SlTy Tryd.prog 60 4 64 := ⟨⟨_, _, _, rfl, rfl, rfl, rfl, rfl, rfl⟩⟩
def outQ (nm : Nat) : List SPart → VV
  | [] => .sc (.slice none 0 0)
  | p :: r => .sl nm 0 (r.length + 1) none 4
def outB (nm : Nat) : List SPart → List (Nat × VObj)
  | [] => []
  | p :: r => [(nm, .cells true (rowsQ kN (p :: r)))]
theorem compound_step {t s : List UInt8} (hs : s <:+ t) (ht : t.length ≤ 100000) (n d : Nat) (hn : s.length < n) (hd : d ≤ 16)
    (ih : ∀ m < n, ∀ s2, s2 <:+ t → s2.length < m → d + 1 ≤ 16 → VCall Tryd.prog 25 [.ptr 1 0] ⟨rdO t s2 (d + 1) 0, 2⟩ (fun v K => v = .ro (compS m (d + 1) s2).1.length (rowsQ kN (compS m (d + 1) s2).1) ∧ K = ⟨rdO t (compS m (d + 1) s2).2.1 (d + 1) (compS m (d + 1) s2).2.2, 2⟩)) :
    VCall Tryd.prog 25 [.ptr 1 0] ⟨rdO t s d 0, 2⟩ (fun v K => v = .ro (compS n d s).1.length (rowsQ kN (compS n d s).1) ∧ K = ⟨rdO t (compS n d s).2.1 d (compS n d s).2.2, 2⟩) := by
  have hwith : ∀ m < n, ∀ s1, s1 <:+ t → s1.length < m + 1 → ∀ r, skipS wNot s1 = some r → VCall Tryd.prog 53 [.ptr 1 0] ⟨rdO t r d 0, 2⟩ (fun v K => v = .ag (cellsP kN (wS m d r).1) ∧ K = ⟨rdO t (wS m d r).2.1 d (wS m d r).2.2, 2⟩) := fun m hm s1 hs1 hl r hr => by
    have h1 := skipS_suf hr hs1
    have h2 := skipS_len hr
    have h3 : wNot.length = 5 := rfl
    unfold wS
    by_cases h16 : 16 ≤ d
    · rw [if_pos h16]
      exact deep_call d h16 (by omega)
    · rw [if_neg h16]
      exact without_call ht d (by omega) (compS m (d + 1) r) ((comp_suf m (d + 1) r).trans h1) (ih m hm r h1 (by omega) (by omega))
  have hmore : ∀ m < n, ∀ s1, s1 <:+ t → s1.length < m + 1 → ∀ e, VCall Tryd.prog 40 [.ptr 1 0] ⟨rdO t s1 d e, 2⟩ (fun v K => v = moreV (moreS (wS m d) s1 e).1 ∧ K = ⟨rdO t (moreS (wS m d) s1 e).2.1 d (moreS (wS m d) s1 e).2.2, 2⟩) := fun m hm s1 hs1 hl e => more_call hs1 ht d e (wS m d) (hwith m hm s1 hs1 hl)
  clear ih hwith
  have haS : ∀ x, RenL [(1, 1), (0, 0)] 0 [VV.ptr 1 0, strV x] [.ptr 1 0, strV x] := fun x => .cons (RenV.ptr (by simp)) (.cons (RenV.of (nameless_strV x)) .nil)
  refine VCall.rd ?_
  have ha : RenL [(1, 1), (0, 0)] 0 [VV.ptr 1 0] [.ptr 1 0] := .cons (RenV.ptr (by simp)) .nil
  have haI : ∀ k : Int, RenL [(1, 1), (0, 0)] 0 [VV.ptr 1 0, iV k] [.ptr 1 0, iV k] := fun k => .cons (RenV.ptr (by simp)) (.cons (RenV.of (nameless_sc _)) .nil)
  have k4 := fun s2 e H => VCall.rdAt (H := H) (nameless_tp (by simp)) (haI 2) (fail_call t s2 d e 2)
  have k3f : ∀ {s1 s2 : List UInt8} {e e2 : Nat} {o : Option SPart} (H : Heap), VCall Tryd.prog 40 [.ptr 1 0] ⟨rdO t s1 d e, 2⟩ (fun v K => v = moreV o ∧ K = ⟨rdO t s2 d e2, 2⟩) → H.get 1 = some (rdC t.length s1 d e) → H.get 0 = some (.cells true (t.map bV)) → Nat.ble 2 H.next = true → VCall Tryd.prog 40 [.ptr 1 0] H (fun v K => v = moreV o ∧ K = ⟨rdO t s2 d e2 ++ restO [1, 0] H.objs, H.next⟩) := fun H h => VCall.rdAt (H := H) (nameless_tp (by intro v hv; simp only [List.mem_cons, List.not_mem_nil, or_false] at hv; rcases hv with rfl | rfl; exact nameless_part _; exact nameless_sc _)) ha h
  have k1 := skip_call [42] hs ht (by simp) d 0
  have k2 := token_call hs ht d 0
  unfold compS headS
  cases h1 : skipS [42] s with
  | some r =>
    rw [h1] at k1
    simp only [Option.isSome_some, Option.getD_some] at k1 ⊢
    refine VCall.go Tryd.func25 rfl ?_
    repeat' (first|with_reducible refine And.intro ?_ ?_|((with_reducible intro hc);(try simp only [zA,zB,zC,zD,zE,zF,zG,zH,zI,zJ,zK,zL,zM,zN,zO,zP,zQ,zR,zS,zT,zU,zV,zW] at hc);(first|exact absurd rfl hc|exact absurd trivial hc|(exfalso;omega)|skip))|exact Is.mk rfl rfl|((conv => whnf);first|with_reducible refine And.intro ?_ ?_|with_reducible intro hx|exact Is.mk rfl rfl|(with_reducible first|apply Val.via|apply ValH.via)|refine ifB_intro ?_ ?_|refine xA (by omega) ?_|(refine xB ?_;intro kw hk1 hk2)|refine xC (by omega) ?_|refine xD ?_|refine xE (by omega) ?_|refine xF (by omega) ?_|refine xG ?_|refine xH ?_|refine xI (by omega) ?_|refine xJ (by omega) ?_|(with_reducible refine stopA ?_)|refine Exists.intro _ (And.intro (by (first|exact vat_of rfl rfl rfl|rfl)) ?_)|refine GOp.drawn (by rfl) (by rfl) (Nat.le_of_ble_eq_true (by rfl)) (by rfl)|refine GOp.via (by rfl) ?_|refine GWP.drawY mixed _ (by kernel_rfl) (by rfl) ?_|(first|(refine GCall.mk ((k1).mono ?_);rintro _ _ ⟨rfl,rfl⟩)|(refine GCall.mk ((k2).mono ?_);rintro _ _ ⟨rfl,rfl⟩))|(with_reducible first|refine stopO ?_|refine stopE ?_|refine stopD ?_|refine stopW ?_|refine stopG ?_|refine stopC ?_|refine stopR ?_)))
    (all_goals (first|omega|(rw [List.length_map];done)|(rw [List.length_map];omega)|contradiction|skip))
    (refine GWP'.mk (GWP.loopB [1, 3] (fun (b : Nat × List SPart × List UInt8 × Nat) => overS (loopS b.1 d b.2.1 b.2.2.1 b.2.2.2) = overS (loopS n d [.mk 0 [] [] []] r 0) ∧ b.2.2.1 <:+ t ∧ b.2.2.1.length < b.1 ∧ b.1 ≤ n ∧ b.2.1.length + b.2.2.1.length ≤ t.length + 1) (fun b => [(3, outQ 4 b.2.1)]) (fun b => (1, rdC t.length b.2.2.1 d b.2.2.2) :: outB 4 b.2.1) 5 (fun b => b.1) (n, [.mk 0 [] [] []], r, 0) ⟨rfl, skipS_suf h1 hs, by have := skipS_len h1; simp only; omega, Nat.le_refl _, by have := skipS_len h1; have := hs.length_le; simp only [List.length_cons, List.length_nil]; omega⟩ ?_); (conv => whnf); refine And.intro ?_ ?_)
    · focus (refine KeptA.of [(3,4)] rfl rfl (by repeat' (first|exact trivial|refine And.intro rfl ?_)) rfl ?_ ?_;all_goals (repeat' (first|exact trivial|(refine And.intro ?_ ?_)|(refine Exists.intro _ (And.intro rfl ?_))|(refine RenO.opt ?_)|(refine RenO.toOpt ?_)|(refine RenO.cells ?_)|exact RenO.defs|exact RenL.nil|(refine RenL.cons ?_ ?_)|(first|(first|exact RenV.nilQ|exact (RenV.sl (b := 3) (b' := _) (o := 0) (n := 1) (c := none) (z := 4) (List.Mem.head _))|exact restV_renQ (Nat.zero_lt_succ _) _|exact RenV.eq rfl (nameless_sc _)|exact RenV.eq rfl (nameless_ro (rowsQ_nameless (fun k => nameless_sc _) _)))|(with_reducible exact RenV.sc)|exact RenV.gsN|exact RenV.gsZ|exact RenV.gsL (by decide)|exact RenV.slL (by decide)|((first|refine RenV.gsE (by (first|exact mhA|exact mhB|exact mhC|(simp;done))) ?_|refine RenV.eq (scI_eq ?_) (nameless_sc _));(first|rfl|omega|(simp only [List.length_append,List.length_cons,List.length_nil,List.length_map,List.length_take,List.length_drop] <;> omega)|(simp only <;> omega)|(simp <;> omega)))|exact RenV.undef)|(with_unfolding_all exact (rfl : (_ : VObj) = _)))))
    rintro ⟨m, out, s1, e⟩ ⟨g1, g2, g3, g4, g5⟩
    simp only at g1 g2 g3 g4 g5
    cases m with
    | zero => omega
    | succ m =>
      have k3 := hmore m (by omega) s1 g2 g3 e
      have hms := more_suf (wS_suf m d) s1 e
      rw [loopS_step] at g1
      generalize moreS (wS m d) s1 e = mr at *
      obtain ⟨o, s2, e2⟩ := mr
      simp only at g1 k3 hms
      have hfz := fun H => k3f H k3
      clear k3 hmore
      cases o with
      | none =>
        simp only at g1
        rw [← g1]
        unfold moreV at hfz
        rw [Option.getD_none, cellsP] at hfz
        cases out with
        | nil =>
          repeat' (first|with_reducible refine And.intro ?_ ?_|((with_reducible intro hc);(try simp only [zA,zB,zC,zD,zE,zF,zG,zH,zI,zJ,zK,zL,zM,zN,zO,zP,zQ,zR,zS,zT,zU,zV,zW] at hc);(first|exact absurd rfl hc|exact absurd trivial hc|(exfalso;omega)|skip))|exact Is.mk rfl rfl|((conv => whnf);first|with_reducible refine And.intro ?_ ?_|with_reducible intro hx|exact Is.mk rfl rfl|(with_reducible first|apply Val.via|apply ValH.via)|refine ifB_intro ?_ ?_|refine xA (by omega) ?_|(refine xB ?_;intro kw hk1 hk2)|refine xC (by omega) ?_|refine xD ?_|refine xE (by omega) ?_|refine xF (by omega) ?_|refine xG ?_|refine xH ?_|refine xI (by omega) ?_|refine xJ (by omega) ?_|(with_reducible refine stopA ?_)|refine Exists.intro _ (And.intro (by (first|exact vat_of rfl rfl rfl|rfl)) ?_)|refine GOp.drawn (by rfl) (by rfl) (Nat.le_of_ble_eq_true (by rfl)) (by rfl)|refine GOp.via (by rfl) ?_|refine GWP.drawY mixed _ (by kernel_rfl) (by rfl) ?_|(first|(refine GCall.mk ((hfz _ rfl rfl rfl).mono ?_);rintro _ _ ⟨rfl,rfl⟩)|(refine GCall.mk ((k4 s2 e2 _ rfl rfl rfl).mono ?_);rintro _ _ ⟨rfl,rfl⟩))|(with_reducible first|refine stopO ?_|refine stopE ?_|refine stopD ?_|refine stopW ?_|refine stopG ?_|refine stopC ?_|refine stopR ?_)))
          (all_goals (first|omega|(rw [List.length_map];done)|(rw [List.length_map];omega)|contradiction|skip))
          exact Done'.mk ⟨Frz.nil0.toB, rfl, rfl⟩
        | cons p0 out =>
          repeat' (first|with_reducible refine And.intro ?_ ?_|((with_reducible intro hc);(try simp only [zA,zB,zC,zD,zE,zF,zG,zH,zI,zJ,zK,zL,zM,zN,zO,zP,zQ,zR,zS,zT,zU,zV,zW] at hc);(first|exact absurd rfl hc|exact absurd trivial hc|(exfalso;omega)|skip))|exact Is.mk rfl rfl|((conv => whnf);first|with_reducible refine And.intro ?_ ?_|with_reducible intro hx|exact Is.mk rfl rfl|(with_reducible first|apply Val.via|apply ValH.via)|refine ifB_intro ?_ ?_|refine xA (by omega) ?_|(refine xB ?_;intro kw hk1 hk2)|refine xC (by omega) ?_|refine xD ?_|refine xE (by omega) ?_|refine xF (by omega) ?_|refine xG ?_|refine xH ?_|refine xI (by omega) ?_|refine xJ (by omega) ?_|(with_reducible refine stopA ?_)|refine Exists.intro _ (And.intro (by (first|exact vat_of rfl rfl rfl|rfl)) ?_)|refine GOp.drawn (by rfl) (by rfl) (Nat.le_of_ble_eq_true (by rfl)) (by rfl)|refine GOp.via (by rfl) ?_|refine GWP.drawY mixed _ (by kernel_rfl) (by rfl) ?_|(first|(refine GCall.mk ((hfz _ rfl rfl rfl).mono ?_);rintro _ _ ⟨rfl,rfl⟩)|(refine GCall.mk ((k4 s2 e2 _ rfl rfl rfl).mono ?_);rintro _ _ ⟨rfl,rfl⟩))|(with_reducible first|refine stopO ?_|refine stopE ?_|refine stopD ?_|refine stopW ?_|refine stopG ?_|refine stopC ?_|refine stopR ?_)))
          (all_goals (first|omega|(rw [List.length_map];done)|(rw [List.length_map];omega)|contradiction|skip))
          exact Done'.mk ⟨frz_outQ (l := p0 :: out) rfl rfl, rfl, rfl⟩
      | some p =>
        have hlt := hms.2 rfl
        have hsf := hms.1.trans g2
        simp only at g1 hlt hsf
        obtain ⟨kk, nn, mm, ll⟩ := p
        unfold moreV at hfz
        rw [Option.getD_some, cellsP] at hfz
        cases out with
        | nil =>
          repeat' (first|with_reducible refine And.intro ?_ ?_|((with_reducible intro hc);(try simp only [zA,zB,zC,zD,zE,zF,zG,zH,zI,zJ,zK,zL,zM,zN,zO,zP,zQ,zR,zS,zT,zU,zV,zW] at hc);(first|exact absurd rfl hc|exact absurd trivial hc|(exfalso;omega)|skip))|exact Is.mk rfl rfl|((conv => whnf);first|with_reducible refine And.intro ?_ ?_|with_reducible intro hx|exact Is.mk rfl rfl|(with_reducible first|apply Val.via|apply ValH.via)|refine ifB_intro ?_ ?_|refine xA (by omega) ?_|(refine xB ?_;intro kw hk1 hk2)|refine xC (by omega) ?_|refine xD ?_|refine xE (by omega) ?_|refine xF (by omega) ?_|refine xG ?_|refine xH ?_|refine xI (by omega) ?_|refine xJ (by omega) ?_|(with_reducible refine stopA ?_)|refine Exists.intro _ (And.intro (by (first|exact vat_of rfl rfl rfl|rfl)) ?_)|refine GOp.drawn (by rfl) (by rfl) (Nat.le_of_ble_eq_true (by rfl)) (by rfl)|refine GOp.via (by rfl) ?_|refine GWP.drawY mixed _ (by kernel_rfl) (by rfl) ?_|(first|(refine GCall.mk ((hfz _ rfl rfl rfl).mono ?_);rintro _ _ ⟨rfl,rfl⟩))|(with_reducible first|refine stopO ?_|refine stopE ?_|refine stopD ?_|refine stopW ?_|refine stopG ?_|refine stopC ?_|refine stopR ?_)))
          (all_goals (first|omega|(rw [List.length_map];done)|(rw [List.length_map];omega)|contradiction|skip))
          focus (refine Done'.mk ⟨(m,[.mk kk nn mm ll],s2,e2),⟨g1,hsf,by simp only;omega,by simp only;omega,by simp only [List.length_cons,List.length_nil] at g5 ⊢;omega⟩,?_,KeptA.of [(7,4)] rfl rfl (by repeat' (first|exact trivial|refine And.intro rfl ?_)) rfl ?_ ?_⟩;(first|omega|(simp only;omega));all_goals (repeat' (first|exact trivial|(refine And.intro ?_ ?_)|(refine Exists.intro _ (And.intro rfl ?_))|(refine RenO.opt ?_)|(refine RenO.toOpt ?_)|(refine RenO.cells ?_)|exact RenO.defs|exact RenL.nil|(refine RenL.cons ?_ ?_)|(first|(first|exact RenV.nilQ|exact (RenV.sl (b := 7) (b' := _) (o := 0) (n := 1) (c := none) (z := 4) (List.Mem.head _))|exact restV_renQ (Nat.zero_lt_succ _) _|exact RenV.eq rfl (nameless_sc _)|exact RenV.eq rfl (nameless_ro (rowsQ_nameless (fun k => nameless_sc _) _)))|(with_reducible exact RenV.sc)|exact RenV.gsN|exact RenV.gsZ|exact RenV.gsL (by decide)|exact RenV.slL (by decide)|((first|refine RenV.gsE (by (first|exact mhA|exact mhB|exact mhC|(simp;done))) ?_|refine RenV.eq (scI_eq ?_) (nameless_sc _));(first|rfl|omega|(simp only [List.length_append,List.length_cons,List.length_nil,List.length_map,List.length_take,List.length_drop] <;> omega)|(simp only <;> omega)|(simp <;> omega)))|exact RenV.undef)|(with_unfolding_all exact (rfl : (_ : VObj) = _)))))
        | cons p0 out =>
          repeat' (first|with_reducible refine And.intro ?_ ?_|((with_reducible intro hc);(try simp only [zA,zB,zC,zD,zE,zF,zG,zH,zI,zJ,zK,zL,zM,zN,zO,zP,zQ,zR,zS,zT,zU,zV,zW] at hc);(first|exact absurd rfl hc|exact absurd trivial hc|(exfalso;omega)|skip))|exact Is.mk rfl rfl|((conv => whnf);first|with_reducible refine And.intro ?_ ?_|with_reducible intro hx|exact Is.mk rfl rfl|(with_reducible first|apply Val.via|apply ValH.via)|refine ifB_intro ?_ ?_|refine xA (by omega) ?_|(refine xB ?_;intro kw hk1 hk2)|refine xC (by omega) ?_|refine xD ?_|refine xE (by omega) ?_|refine xF (by omega) ?_|refine xG ?_|refine xH ?_|refine xI (by omega) ?_|refine xJ (by omega) ?_|(with_reducible refine stopA ?_)|refine Exists.intro _ (And.intro (by (first|exact vat_of rfl rfl rfl|rfl)) ?_)|refine GOp.drawn (by rfl) (by rfl) (Nat.le_of_ble_eq_true (by rfl)) (by rfl)|refine GOp.via (by rfl) ?_|refine GWP.drawY mixed _ (by kernel_rfl) (by rfl) ?_|(first|(refine GCall.mk ((hfz _ rfl rfl rfl).mono ?_);rintro _ _ ⟨rfl,rfl⟩))|(with_reducible first|refine stopO ?_|refine stopE ?_|refine stopD ?_|refine stopW ?_|refine stopG ?_|refine stopC ?_|refine stopR ?_)))
          (all_goals (first|omega|(rw [List.length_map];done)|(rw [List.length_map];omega)|contradiction|skip))
          simp only [List.length_cons] at g5
          apply GOp'.via
          case h => exact vop_append rfl (vapp_grow sty_Q (d := .slice 83) Tryd.underlying60 (by intro k h; cases h) (m := 1) (b := 4) (n := out.length + 1) (l := [kN kk, strV nn, strV mm, .ro ll.length (rowsQ kN ll)]) (vs := rowsQ kN (p0 :: out)) (by rfl) (by rfl) (by omega) (by rfl) (by rw [rowsQ_len]; exact Nat.le_refl _) (by omega) (by omega))
          repeat' (first|with_reducible refine And.intro ?_ ?_|((with_reducible intro hc);(try simp only [zA,zB,zC,zD,zE,zF,zG,zH,zI,zJ,zK,zL,zM,zN,zO,zP,zQ,zR,zS,zT,zU,zV,zW] at hc);(first|exact absurd rfl hc|exact absurd trivial hc|(exfalso;omega)|skip))|exact Is.mk rfl rfl|((conv => whnf);first|with_reducible refine And.intro ?_ ?_|with_reducible intro hx|exact Is.mk rfl rfl|(with_reducible first|apply Val.via|apply ValH.via)|refine ifB_intro ?_ ?_|refine xA (by omega) ?_|(refine xB ?_;intro kw hk1 hk2)|refine xC (by omega) ?_|refine xD ?_|refine xE (by omega) ?_|refine xF (by omega) ?_|refine xG ?_|refine xH ?_|refine xI (by omega) ?_|refine xJ (by omega) ?_|(with_reducible refine stopA ?_)|refine Exists.intro _ (And.intro (by (first|exact vat_of rfl rfl rfl|rfl)) ?_)|refine GOp.drawn (by rfl) (by rfl) (Nat.le_of_ble_eq_true (by rfl)) (by rfl)|refine GOp.via (by rfl) ?_|refine GWP.drawY mixed _ (by kernel_rfl) (by rfl) ?_|fail|(with_reducible first|refine stopO ?_|refine stopE ?_|refine stopD ?_|refine stopW ?_|refine stopG ?_|refine stopC ?_|refine stopR ?_)))
          (all_goals (first|omega|(rw [List.length_map];done)|(rw [List.length_map];omega)|contradiction|skip))
          focus (refine Done'.mk ⟨(m,(p0 :: out) ++ [.mk kk nn mm ll],s2,e2),⟨g1,hsf,by simp only;omega,by simp only;omega,by simp only [List.length_append,List.length_cons,List.length_nil];omega⟩,?_,KeptA.of [(7,4)] rfl rfl (by repeat' (first|exact trivial|refine And.intro rfl ?_)) rfl ?_ ?_⟩;(first|omega|(simp only;omega));all_goals (repeat' (first|exact trivial|(refine And.intro ?_ ?_)|(refine Exists.intro _ (And.intro rfl ?_))|(refine RenO.opt ?_)|(refine RenO.toOpt ?_)|(refine RenO.cells ?_)|exact RenO.defs|exact RenL.nil|(refine RenL.cons ?_ ?_)|(first|(first|(first|exact RenV.nilQ|exact (RenV.sl (b := 7) (b' := _) (o := 0) (n := 1) (c := none) (z := 4) (List.Mem.head _))|exact restV_renQ (Nat.zero_lt_succ _) _|exact RenV.eq rfl (nameless_sc _)|exact RenV.eq rfl (nameless_ro (rowsQ_nameless (fun k => nameless_sc _) _)))|exact slEQ (List.Mem.head _) (by simp)|exact renEQ (growQ (l := p0 :: out) rfl) (rowsQ_nameless (fun k => nameless_sc _) _))|(with_reducible exact RenV.sc)|exact RenV.gsN|exact RenV.gsZ|exact RenV.gsL (by decide)|exact RenV.slL (by decide)|((first|refine RenV.gsE (by (first|exact mhA|exact mhB|exact mhC|(simp;done))) ?_|refine RenV.eq (scI_eq ?_) (nameless_sc _));(first|rfl|omega|(simp only [List.length_append,List.length_cons,List.length_nil,List.length_map,List.length_take,List.length_drop] <;> omega)|(simp only <;> omega)|(simp <;> omega)))|exact RenV.undef)|(with_unfolding_all exact (rfl : (_ : VObj) = _)))))
  | none =>
    rw [h1] at k1
    simp only [Option.isSome_none, Option.getD_none] at k1 ⊢
    have hsp := tokS_suf hs
    have hap : (tokS s).1 ++ (tokS s).2 = s := List.takeWhile_append_dropWhile
    have hln := congrArg List.length hap
    rw [List.length_append] at hln
    generalize (tokS s).1 = a at *
    generalize (tokS s).2 = s0 at *
    cases a with
    | nil =>
      rw [if_pos rfl]
      rw [List.nil_append] at hap
      subst hap
      rw [show decide (0 < ([] : List UInt8).length) = false by simp] at k2
      refine VCall.go Tryd.func25 rfl ?_
      repeat' (first|with_reducible refine And.intro ?_ ?_|((with_reducible intro hc);(try simp only [zA,zB,zC,zD,zE,zF,zG,zH,zI,zJ,zK,zL,zM,zN,zO,zP,zQ,zR,zS,zT,zU,zV,zW] at hc);(first|exact absurd rfl hc|exact absurd trivial hc|(exfalso;omega)|skip))|exact Is.mk rfl rfl|((conv => whnf);first|with_reducible refine And.intro ?_ ?_|with_reducible intro hx|exact Is.mk rfl rfl|(with_reducible first|apply Val.via|apply ValH.via)|refine ifB_intro ?_ ?_|refine xA (by omega) ?_|(refine xB ?_;intro kw hk1 hk2)|refine xC (by omega) ?_|refine xD ?_|refine xE (by omega) ?_|refine xF (by omega) ?_|refine xG ?_|refine xH ?_|refine xI (by omega) ?_|refine xJ (by omega) ?_|(with_reducible refine stopA ?_)|refine Exists.intro _ (And.intro (by (first|exact vat_of rfl rfl rfl|rfl)) ?_)|refine GOp.drawn (by rfl) (by rfl) (Nat.le_of_ble_eq_true (by rfl)) (by rfl)|refine GOp.via (by rfl) ?_|refine GWP.drawY mixed _ (by kernel_rfl) (by rfl) ?_|(first|(refine GCall.mk ((k1).mono ?_);rintro _ _ ⟨rfl,rfl⟩)|(refine GCall.mk ((k2).mono ?_);rintro _ _ ⟨rfl,rfl⟩))|(with_reducible first|refine stopO ?_|refine stopE ?_|refine stopD ?_|refine stopW ?_|refine stopG ?_|refine stopC ?_|refine stopR ?_)))
      (all_goals (first|omega|(rw [List.length_map];done)|(rw [List.length_map];omega)|contradiction|skip))
      (refine GWP'.mk (GWP.loopB [1] (fun (b : Nat × List SPart × List UInt8 × Nat) => overS (loopS b.1 d b.2.1 b.2.2.1 b.2.2.2) = overS (loopS n d [] s0 0) ∧ b.2.2.1 <:+ t ∧ b.2.2.1.length < b.1 ∧ b.1 ≤ n ∧ b.2.1.length + b.2.2.1.length ≤ t.length + 1) (fun b => [(3, outQ 2 b.2.1)]) (fun b => (1, rdC t.length b.2.2.1 d b.2.2.2) :: outB 2 b.2.1) 3 (fun b => b.1) (n, [], s0, 0) ⟨rfl, hs, by simp only; omega, Nat.le_refl _, by have := hs.length_le; simp only [List.length_nil]; omega⟩ ?_); (conv => whnf); refine And.intro ?_ ?_)
      · focus (refine KeptA.of [] rfl rfl (by repeat' (first|exact trivial|refine And.intro rfl ?_)) rfl ?_ ?_;all_goals (repeat' (first|exact trivial|(refine And.intro ?_ ?_)|(refine Exists.intro _ (And.intro rfl ?_))|(refine RenO.opt ?_)|(refine RenO.toOpt ?_)|(refine RenO.cells ?_)|exact RenO.defs|exact RenL.nil|(refine RenL.cons ?_ ?_)|(first|(first|exact RenV.nilQ|exact (RenV.sl (b := 5) (b' := _) (o := 0) (n := 1) (c := none) (z := 4) (List.Mem.head _))|exact restV_renQ (Nat.zero_lt_succ _) _|exact RenV.eq rfl (nameless_sc _)|exact RenV.eq rfl (nameless_ro (rowsQ_nameless (fun k => nameless_sc _) _)))|(with_reducible exact RenV.sc)|exact RenV.gsN|exact RenV.gsZ|exact RenV.gsL (by decide)|exact RenV.slL (by decide)|((first|refine RenV.gsE (by (first|exact mhA|exact mhB|exact mhC|(simp;done))) ?_|refine RenV.eq (scI_eq ?_) (nameless_sc _));(first|rfl|omega|(simp only [List.length_append,List.length_cons,List.length_nil,List.length_map,List.length_take,List.length_drop] <;> omega)|(simp only <;> omega)|(simp <;> omega)))|exact RenV.undef)|(with_unfolding_all exact (rfl : (_ : VObj) = _)))))
      rintro ⟨m, out, s1, e⟩ ⟨g1, g2, g3, g4, g5⟩
      simp only at g1 g2 g3 g4 g5
      cases m with
      | zero => omega
      | succ m =>
        have k3 := hmore m (by omega) s1 g2 g3 e
        have hms := more_suf (wS_suf m d) s1 e
        rw [loopS_step] at g1
        generalize moreS (wS m d) s1 e = mr at *
        obtain ⟨o, s2, e2⟩ := mr
        simp only at g1 k3 hms
        have hfz := fun H => k3f H k3
        clear k3 hmore
        cases o with
        | none =>
          simp only at g1
          rw [← g1]
          unfold moreV at hfz
          rw [Option.getD_none, cellsP] at hfz
          cases out with
          | nil =>
            repeat' (first|with_reducible refine And.intro ?_ ?_|((with_reducible intro hc);(try simp only [zA,zB,zC,zD,zE,zF,zG,zH,zI,zJ,zK,zL,zM,zN,zO,zP,zQ,zR,zS,zT,zU,zV,zW] at hc);(first|exact absurd rfl hc|exact absurd trivial hc|(exfalso;omega)|skip))|exact Is.mk rfl rfl|((conv => whnf);first|with_reducible refine And.intro ?_ ?_|with_reducible intro hx|exact Is.mk rfl rfl|(with_reducible first|apply Val.via|apply ValH.via)|refine ifB_intro ?_ ?_|refine xA (by omega) ?_|(refine xB ?_;intro kw hk1 hk2)|refine xC (by omega) ?_|refine xD ?_|refine xE (by omega) ?_|refine xF (by omega) ?_|refine xG ?_|refine xH ?_|refine xI (by omega) ?_|refine xJ (by omega) ?_|(with_reducible refine stopA ?_)|refine Exists.intro _ (And.intro (by (first|exact vat_of rfl rfl rfl|rfl)) ?_)|refine GOp.drawn (by rfl) (by rfl) (Nat.le_of_ble_eq_true (by rfl)) (by rfl)|refine GOp.via (by rfl) ?_|refine GWP.drawY mixed _ (by kernel_rfl) (by rfl) ?_|(first|(refine GCall.mk ((hfz _ rfl rfl rfl).mono ?_);rintro _ _ ⟨rfl,rfl⟩)|(refine GCall.mk ((k4 s2 e2 _ rfl rfl rfl).mono ?_);rintro _ _ ⟨rfl,rfl⟩))|(with_reducible first|refine stopO ?_|refine stopE ?_|refine stopD ?_|refine stopW ?_|refine stopG ?_|refine stopC ?_|refine stopR ?_)))
            (all_goals (first|omega|(rw [List.length_map];done)|(rw [List.length_map];omega)|contradiction|skip))
            exact Done'.mk ⟨Frz.nil0.toB, rfl, rfl⟩
          | cons p0 out =>
            repeat' (first|with_reducible refine And.intro ?_ ?_|((with_reducible intro hc);(try simp only [zA,zB,zC,zD,zE,zF,zG,zH,zI,zJ,zK,zL,zM,zN,zO,zP,zQ,zR,zS,zT,zU,zV,zW] at hc);(first|exact absurd rfl hc|exact absurd trivial hc|(exfalso;omega)|skip))|exact Is.mk rfl rfl|((conv => whnf);first|with_reducible refine And.intro ?_ ?_|with_reducible intro hx|exact Is.mk rfl rfl|(with_reducible first|apply Val.via|apply ValH.via)|refine ifB_intro ?_ ?_|refine xA (by omega) ?_|(refine xB ?_;intro kw hk1 hk2)|refine xC (by omega) ?_|refine xD ?_|refine xE (by omega) ?_|refine xF (by omega) ?_|refine xG ?_|refine xH ?_|refine xI (by omega) ?_|refine xJ (by omega) ?_|(with_reducible refine stopA ?_)|refine Exists.intro _ (And.intro (by (first|exact vat_of rfl rfl rfl|rfl)) ?_)|refine GOp.drawn (by rfl) (by rfl) (Nat.le_of_ble_eq_true (by rfl)) (by rfl)|refine GOp.via (by rfl) ?_|refine GWP.drawY mixed _ (by kernel_rfl) (by rfl) ?_|(first|(refine GCall.mk ((hfz _ rfl rfl rfl).mono ?_);rintro _ _ ⟨rfl,rfl⟩)|(refine GCall.mk ((k4 s2 e2 _ rfl rfl rfl).mono ?_);rintro _ _ ⟨rfl,rfl⟩))|(with_reducible first|refine stopO ?_|refine stopE ?_|refine stopD ?_|refine stopW ?_|refine stopG ?_|refine stopC ?_|refine stopR ?_)))
            (all_goals (first|omega|(rw [List.length_map];done)|(rw [List.length_map];omega)|contradiction|skip))
            exact Done'.mk ⟨frz_outQ (l := p0 :: out) rfl rfl, rfl, rfl⟩
        | some p =>
          have hlt := hms.2 rfl
          have hsf := hms.1.trans g2
          simp only at g1 hlt hsf
          obtain ⟨kk, nn, mm, ll⟩ := p
          unfold moreV at hfz
          rw [Option.getD_some, cellsP] at hfz
          cases out with
          | nil =>
            repeat' (first|with_reducible refine And.intro ?_ ?_|((with_reducible intro hc);(try simp only [zA,zB,zC,zD,zE,zF,zG,zH,zI,zJ,zK,zL,zM,zN,zO,zP,zQ,zR,zS,zT,zU,zV,zW] at hc);(first|exact absurd rfl hc|exact absurd trivial hc|(exfalso;omega)|skip))|exact Is.mk rfl rfl|((conv => whnf);first|with_reducible refine And.intro ?_ ?_|with_reducible intro hx|exact Is.mk rfl rfl|(with_reducible first|apply Val.via|apply ValH.via)|refine ifB_intro ?_ ?_|refine xA (by omega) ?_|(refine xB ?_;intro kw hk1 hk2)|refine xC (by omega) ?_|refine xD ?_|refine xE (by omega) ?_|refine xF (by omega) ?_|refine xG ?_|refine xH ?_|refine xI (by omega) ?_|refine xJ (by omega) ?_|(with_reducible refine stopA ?_)|refine Exists.intro _ (And.intro (by (first|exact vat_of rfl rfl rfl|rfl)) ?_)|refine GOp.drawn (by rfl) (by rfl) (Nat.le_of_ble_eq_true (by rfl)) (by rfl)|refine GOp.via (by rfl) ?_|refine GWP.drawY mixed _ (by kernel_rfl) (by rfl) ?_|(first|(refine GCall.mk ((hfz _ rfl rfl rfl).mono ?_);rintro _ _ ⟨rfl,rfl⟩))|(with_reducible first|refine stopO ?_|refine stopE ?_|refine stopD ?_|refine stopW ?_|refine stopG ?_|refine stopC ?_|refine stopR ?_)))
            (all_goals (first|omega|(rw [List.length_map];done)|(rw [List.length_map];omega)|contradiction|skip))
            focus (refine Done'.mk ⟨(m,[.mk kk nn mm ll],s2,e2),⟨g1,hsf,by simp only;omega,by simp only;omega,by simp only [List.length_cons,List.length_nil] at g5 ⊢;omega⟩,?_,KeptA.of [(5,2)] rfl rfl (by repeat' (first|exact trivial|refine And.intro rfl ?_)) rfl ?_ ?_⟩;(first|omega|(simp only;omega));all_goals (repeat' (first|exact trivial|(refine And.intro ?_ ?_)|(refine Exists.intro _ (And.intro rfl ?_))|(refine RenO.opt ?_)|(refine RenO.toOpt ?_)|(refine RenO.cells ?_)|exact RenO.defs|exact RenL.nil|(refine RenL.cons ?_ ?_)|(first|(first|exact RenV.nilQ|exact (RenV.sl (b := 5) (b' := _) (o := 0) (n := 1) (c := none) (z := 4) (List.Mem.head _))|exact restV_renQ (Nat.zero_lt_succ _) _|exact RenV.eq rfl (nameless_sc _)|exact RenV.eq rfl (nameless_ro (rowsQ_nameless (fun k => nameless_sc _) _)))|(with_reducible exact RenV.sc)|exact RenV.gsN|exact RenV.gsZ|exact RenV.gsL (by decide)|exact RenV.slL (by decide)|((first|refine RenV.gsE (by (first|exact mhA|exact mhB|exact mhC|(simp;done))) ?_|refine RenV.eq (scI_eq ?_) (nameless_sc _));(first|rfl|omega|(simp only [List.length_append,List.length_cons,List.length_nil,List.length_map,List.length_take,List.length_drop] <;> omega)|(simp only <;> omega)|(simp <;> omega)))|exact RenV.undef)|(with_unfolding_all exact (rfl : (_ : VObj) = _)))))
          | cons p0 out =>
            repeat' (first|with_reducible refine And.intro ?_ ?_|((with_reducible intro hc);(try simp only [zA,zB,zC,zD,zE,zF,zG,zH,zI,zJ,zK,zL,zM,zN,zO,zP,zQ,zR,zS,zT,zU,zV,zW] at hc);(first|exact absurd rfl hc|exact absurd trivial hc|(exfalso;omega)|skip))|exact Is.mk rfl rfl|((conv => whnf);first|with_reducible refine And.intro ?_ ?_|with_reducible intro hx|exact Is.mk rfl rfl|(with_reducible first|apply Val.via|apply ValH.via)|refine ifB_intro ?_ ?_|refine xA (by omega) ?_|(refine xB ?_;intro kw hk1 hk2)|refine xC (by omega) ?_|refine xD ?_|refine xE (by omega) ?_|refine xF (by omega) ?_|refine xG ?_|refine xH ?_|refine xI (by omega) ?_|refine xJ (by omega) ?_|(with_reducible refine stopA ?_)|refine Exists.intro _ (And.intro (by (first|exact vat_of rfl rfl rfl|rfl)) ?_)|refine GOp.drawn (by rfl) (by rfl) (Nat.le_of_ble_eq_true (by rfl)) (by rfl)|refine GOp.via (by rfl) ?_|refine GWP.drawY mixed _ (by kernel_rfl) (by rfl) ?_|(first|(refine GCall.mk ((hfz _ rfl rfl rfl).mono ?_);rintro _ _ ⟨rfl,rfl⟩))|(with_reducible first|refine stopO ?_|refine stopE ?_|refine stopD ?_|refine stopW ?_|refine stopG ?_|refine stopC ?_|refine stopR ?_)))
            (all_goals (first|omega|(rw [List.length_map];done)|(rw [List.length_map];omega)|contradiction|skip))
            simp only [List.length_cons] at g5
            apply GOp'.via
            case h => exact vop_append rfl (vapp_grow sty_Q (d := .slice 83) Tryd.underlying60 (by intro k h; cases h) (m := 1) (b := 2) (n := out.length + 1) (l := [kN kk, strV nn, strV mm, .ro ll.length (rowsQ kN ll)]) (vs := rowsQ kN (p0 :: out)) (by rfl) (by rfl) (by omega) (by rfl) (by rw [rowsQ_len]; exact Nat.le_refl _) (by omega) (by omega))
            repeat' (first|with_reducible refine And.intro ?_ ?_|((with_reducible intro hc);(try simp only [zA,zB,zC,zD,zE,zF,zG,zH,zI,zJ,zK,zL,zM,zN,zO,zP,zQ,zR,zS,zT,zU,zV,zW] at hc);(first|exact absurd rfl hc|exact absurd trivial hc|(exfalso;omega)|skip))|exact Is.mk rfl rfl|((conv => whnf);first|with_reducible refine And.intro ?_ ?_|with_reducible intro hx|exact Is.mk rfl rfl|(with_reducible first|apply Val.via|apply ValH.via)|refine ifB_intro ?_ ?_|refine xA (by omega) ?_|(refine xB ?_;intro kw hk1 hk2)|refine xC (by omega) ?_|refine xD ?_|refine xE (by omega) ?_|refine xF (by omega) ?_|refine xG ?_|refine xH ?_|refine xI (by omega) ?_|refine xJ (by omega) ?_|(with_reducible refine stopA ?_)|refine Exists.intro _ (And.intro (by (first|exact vat_of rfl rfl rfl|rfl)) ?_)|refine GOp.drawn (by rfl) (by rfl) (Nat.le_of_ble_eq_true (by rfl)) (by rfl)|refine GOp.via (by rfl) ?_|refine GWP.drawY mixed _ (by kernel_rfl) (by rfl) ?_|fail|(with_reducible first|refine stopO ?_|refine stopE ?_|refine stopD ?_|refine stopW ?_|refine stopG ?_|refine stopC ?_|refine stopR ?_)))
            (all_goals (first|omega|(rw [List.length_map];done)|(rw [List.length_map];omega)|contradiction|skip))
            focus (refine Done'.mk ⟨(m,(p0 :: out) ++ [.mk kk nn mm ll],s2,e2),⟨g1,hsf,by simp only;omega,by simp only;omega,by simp only [List.length_append,List.length_cons,List.length_nil];omega⟩,?_,KeptA.of [(5,2)] rfl rfl (by repeat' (first|exact trivial|refine And.intro rfl ?_)) rfl ?_ ?_⟩;(first|omega|(simp only;omega));all_goals (repeat' (first|exact trivial|(refine And.intro ?_ ?_)|(refine Exists.intro _ (And.intro rfl ?_))|(refine RenO.opt ?_)|(refine RenO.toOpt ?_)|(refine RenO.cells ?_)|exact RenO.defs|exact RenL.nil|(refine RenL.cons ?_ ?_)|(first|(first|(first|exact RenV.nilQ|exact (RenV.sl (b := 5) (b' := _) (o := 0) (n := 1) (c := none) (z := 4) (List.Mem.head _))|exact restV_renQ (Nat.zero_lt_succ _) _|exact RenV.eq rfl (nameless_sc _)|exact RenV.eq rfl (nameless_ro (rowsQ_nameless (fun k => nameless_sc _) _)))|exact slEQ (List.Mem.head _) (by simp)|exact renEQ (growQ (l := p0 :: out) rfl) (rowsQ_nameless (fun k => nameless_sc _) _))|(with_reducible exact RenV.sc)|exact RenV.gsN|exact RenV.gsZ|exact RenV.gsL (by decide)|exact RenV.slL (by decide)|((first|refine RenV.gsE (by (first|exact mhA|exact mhB|exact mhC|(simp;done))) ?_|refine RenV.eq (scI_eq ?_) (nameless_sc _));(first|rfl|omega|(simp only [List.length_append,List.length_cons,List.length_nil,List.length_map,List.length_take,List.length_drop] <;> omega)|(simp only <;> omega)|(simp <;> omega)))|exact RenV.undef)|(with_unfolding_all exact (rfl : (_ : VObj) = _)))))
    | cons c r0 =>
      rw [if_neg (by simp)]
      rw [show decide (0 < (c :: r0).length) = true by simp] at k2
      simp only [List.length_cons] at hln
      refine VCall.go Tryd.func25 rfl ?_
      repeat' (first|with_reducible refine And.intro ?_ ?_|((with_reducible intro hc);(try simp only [zA,zB,zC,zD,zE,zF,zG,zH,zI,zJ,zK,zL,zM,zN,zO,zP,zQ,zR,zS,zT,zU,zV,zW] at hc);(first|exact absurd rfl hc|exact absurd trivial hc|(exfalso;omega)|skip))|exact Is.mk rfl rfl|((conv => whnf);first|with_reducible refine And.intro ?_ ?_|with_reducible intro hx|exact Is.mk rfl rfl|(with_reducible first|apply Val.via|apply ValH.via)|refine ifB_intro ?_ ?_|refine xA (by omega) ?_|(refine xB ?_;intro kw hk1 hk2)|refine xC (by omega) ?_|refine xD ?_|refine xE (by omega) ?_|refine xF (by omega) ?_|refine xG ?_|refine xH ?_|refine xI (by omega) ?_|refine xJ (by omega) ?_|(with_reducible refine stopA ?_)|refine Exists.intro _ (And.intro (by (first|exact vat_of rfl rfl rfl|rfl)) ?_)|refine GOp.drawn (by rfl) (by rfl) (Nat.le_of_ble_eq_true (by rfl)) (by rfl)|refine GOp.via (by rfl) ?_|refine GWP.drawY mixed _ (by kernel_rfl) (by rfl) ?_|(first|(refine GCall.mk ((k1).mono ?_);rintro _ _ ⟨rfl,rfl⟩)|(refine GCall.mk ((k2).mono ?_);rintro _ _ ⟨rfl,rfl⟩))|(with_reducible first|refine stopO ?_|refine stopE ?_|refine stopD ?_|refine stopW ?_|refine stopG ?_|refine stopC ?_|refine stopR ?_)))
      (all_goals (first|omega|(rw [List.length_map];done)|(rw [List.length_map];omega)|contradiction|skip))
      (refine GWP'.mk (GWP.loopB [1, 3] (fun (b : Nat × List SPart × List UInt8 × Nat) => overS (loopS b.1 d b.2.1 b.2.2.1 b.2.2.2) = overS (loopS n d [.mk 1 (c :: r0) [] []] s0 0) ∧ b.2.2.1 <:+ t ∧ b.2.2.1.length < b.1 ∧ b.1 ≤ n ∧ b.2.1.length + b.2.2.1.length ≤ t.length + 1) (fun b => [(3, outQ 4 b.2.1)]) (fun b => (1, rdC t.length b.2.2.1 d b.2.2.2) :: outB 4 b.2.1) 5 (fun b => b.1) (n, [.mk 1 (c :: r0) [] []], s0, 0) ⟨rfl, hsp, by simp only; omega, Nat.le_refl _, by have := hs.length_le; simp only [List.length_cons, List.length_nil] at hln ⊢; omega⟩ ?_); (conv => whnf); refine And.intro ?_ ?_)
      · focus (refine KeptA.of [(3,4)] rfl rfl (by repeat' (first|exact trivial|refine And.intro rfl ?_)) rfl ?_ ?_;all_goals (repeat' (first|exact trivial|(refine And.intro ?_ ?_)|(refine Exists.intro _ (And.intro rfl ?_))|(refine RenO.opt ?_)|(refine RenO.toOpt ?_)|(refine RenO.cells ?_)|exact RenO.defs|exact RenL.nil|(refine RenL.cons ?_ ?_)|(first|(first|exact RenV.nilQ|exact (RenV.sl (b := 3) (b' := _) (o := 0) (n := 1) (c := none) (z := 4) (List.Mem.head _))|exact restV_renQ (Nat.zero_lt_succ _) _|exact RenV.eq rfl (nameless_sc _)|exact RenV.eq rfl (nameless_ro (rowsQ_nameless (fun k => nameless_sc _) _)))|(with_reducible exact RenV.sc)|exact RenV.gsN|exact RenV.gsZ|exact RenV.gsL (by decide)|exact RenV.slL (by decide)|((first|refine RenV.gsE (by (first|exact mhA|exact mhB|exact mhC|(simp;done))) ?_|refine RenV.eq (scI_eq ?_) (nameless_sc _));(first|rfl|omega|(simp only [List.length_append,List.length_cons,List.length_nil,List.length_map,List.length_take,List.length_drop] <;> omega)|(simp only <;> omega)|(simp <;> omega)))|exact RenV.undef)|(with_unfolding_all exact (rfl : (_ : VObj) = _)))))
      rintro ⟨m, out, s1, e⟩ ⟨g1, g2, g3, g4, g5⟩
      simp only at g1 g2 g3 g4 g5
      cases m with
      | zero => omega
      | succ m =>
        have k3 := hmore m (by omega) s1 g2 g3 e
        have hms := more_suf (wS_suf m d) s1 e
        rw [loopS_step] at g1
        generalize moreS (wS m d) s1 e = mr at *
        obtain ⟨o, s2, e2⟩ := mr
        simp only at g1 k3 hms
        have hfz := fun H => k3f H k3
        clear k3 hmore
        cases o with
        | none =>
          simp only at g1
          rw [← g1]
          unfold moreV at hfz
          rw [Option.getD_none, cellsP] at hfz
          cases out with
          | nil =>
            repeat' (first|with_reducible refine And.intro ?_ ?_|((with_reducible intro hc);(try simp only [zA,zB,zC,zD,zE,zF,zG,zH,zI,zJ,zK,zL,zM,zN,zO,zP,zQ,zR,zS,zT,zU,zV,zW] at hc);(first|exact absurd rfl hc|exact absurd trivial hc|(exfalso;omega)|skip))|exact Is.mk rfl rfl|((conv => whnf);first|with_reducible refine And.intro ?_ ?_|with_reducible intro hx|exact Is.mk rfl rfl|(with_reducible first|apply Val.via|apply ValH.via)|refine ifB_intro ?_ ?_|refine xA (by omega) ?_|(refine xB ?_;intro kw hk1 hk2)|refine xC (by omega) ?_|refine xD ?_|refine xE (by omega) ?_|refine xF (by omega) ?_|refine xG ?_|refine xH ?_|refine xI (by omega) ?_|refine xJ (by omega) ?_|(with_reducible refine stopA ?_)|refine Exists.intro _ (And.intro (by (first|exact vat_of rfl rfl rfl|rfl)) ?_)|refine GOp.drawn (by rfl) (by rfl) (Nat.le_of_ble_eq_true (by rfl)) (by rfl)|refine GOp.via (by rfl) ?_|refine GWP.drawY mixed _ (by kernel_rfl) (by rfl) ?_|(first|(refine GCall.mk ((hfz _ rfl rfl rfl).mono ?_);rintro _ _ ⟨rfl,rfl⟩)|(refine GCall.mk ((k4 s2 e2 _ rfl rfl rfl).mono ?_);rintro _ _ ⟨rfl,rfl⟩))|(with_reducible first|refine stopO ?_|refine stopE ?_|refine stopD ?_|refine stopW ?_|refine stopG ?_|refine stopC ?_|refine stopR ?_)))
            (all_goals (first|omega|(rw [List.length_map];done)|(rw [List.length_map];omega)|contradiction|skip))
            exact Done'.mk ⟨Frz.nil0.toB, rfl, rfl⟩
          | cons p0 out =>
            repeat' (first|with_reducible refine And.intro ?_ ?_|((with_reducible intro hc);(try simp only [zA,zB,zC,zD,zE,zF,zG,zH,zI,zJ,zK,zL,zM,zN,zO,zP,zQ,zR,zS,zT,zU,zV,zW] at hc);(first|exact absurd rfl hc|exact absurd trivial hc|(exfalso;omega)|skip))|exact Is.mk rfl rfl|((conv => whnf);first|with_reducible refine And.intro ?_ ?_|with_reducible intro hx|exact Is.mk rfl rfl|(with_reducible first|apply Val.via|apply ValH.via)|refine ifB_intro ?_ ?_|refine xA (by omega) ?_|(refine xB ?_;intro kw hk1 hk2)|refine xC (by omega) ?_|refine xD ?_|refine xE (by omega) ?_|refine xF (by omega) ?_|refine xG ?_|refine xH ?_|refine xI (by omega) ?_|refine xJ (by omega) ?_|(with_reducible refine stopA ?_)|refine Exists.intro _ (And.intro (by (first|exact vat_of rfl rfl rfl|rfl)) ?_)|refine GOp.drawn (by rfl) (by rfl) (Nat.le_of_ble_eq_true (by rfl)) (by rfl)|refine GOp.via (by rfl) ?_|refine GWP.drawY mixed _ (by kernel_rfl) (by rfl) ?_|(first|(refine GCall.mk ((hfz _ rfl rfl rfl).mono ?_);rintro _ _ ⟨rfl,rfl⟩)|(refine GCall.mk ((k4 s2 e2 _ rfl rfl rfl).mono ?_);rintro _ _ ⟨rfl,rfl⟩))|(with_reducible first|refine stopO ?_|refine stopE ?_|refine stopD ?_|refine stopW ?_|refine stopG ?_|refine stopC ?_|refine stopR ?_)))
            (all_goals (first|omega|(rw [List.length_map];done)|(rw [List.length_map];omega)|contradiction|skip))
            exact Done'.mk ⟨frz_outQ (l := p0 :: out) rfl rfl, rfl, rfl⟩
        | some p =>
          have hlt := hms.2 rfl
          have hsf := hms.1.trans g2
          simp only at g1 hlt hsf
          obtain ⟨kk, nn, mm, ll⟩ := p
          unfold moreV at hfz
          rw [Option.getD_some, cellsP] at hfz
          cases out with
          | nil =>
            repeat' (first|with_reducible refine And.intro ?_ ?_|((with_reducible intro hc);(try simp only [zA,zB,zC,zD,zE,zF,zG,zH,zI,zJ,zK,zL,zM,zN,zO,zP,zQ,zR,zS,zT,zU,zV,zW] at hc);(first|exact absurd rfl hc|exact absurd trivial hc|(exfalso;omega)|skip))|exact Is.mk rfl rfl|((conv => whnf);first|with_reducible refine And.intro ?_ ?_|with_reducible intro hx|exact Is.mk rfl rfl|(with_reducible first|apply Val.via|apply ValH.via)|refine ifB_intro ?_ ?_|refine xA (by omega) ?_|(refine xB ?_;intro kw hk1 hk2)|refine xC (by omega) ?_|refine xD ?_|refine xE (by omega) ?_|refine xF (by omega) ?_|refine xG ?_|refine xH ?_|refine xI (by omega) ?_|refine xJ (by omega) ?_|(with_reducible refine stopA ?_)|refine Exists.intro _ (And.intro (by (first|exact vat_of rfl rfl rfl|rfl)) ?_)|refine GOp.drawn (by rfl) (by rfl) (Nat.le_of_ble_eq_true (by rfl)) (by rfl)|refine GOp.via (by rfl) ?_|refine GWP.drawY mixed _ (by kernel_rfl) (by rfl) ?_|(first|(refine GCall.mk ((hfz _ rfl rfl rfl).mono ?_);rintro _ _ ⟨rfl,rfl⟩))|(with_reducible first|refine stopO ?_|refine stopE ?_|refine stopD ?_|refine stopW ?_|refine stopG ?_|refine stopC ?_|refine stopR ?_)))
            (all_goals (first|omega|(rw [List.length_map];done)|(rw [List.length_map];omega)|contradiction|skip))
            focus (refine Done'.mk ⟨(m,[.mk kk nn mm ll],s2,e2),⟨g1,hsf,by simp only;omega,by simp only;omega,by simp only [List.length_cons,List.length_nil] at g5 ⊢;omega⟩,?_,KeptA.of [(7,4)] rfl rfl (by repeat' (first|exact trivial|refine And.intro rfl ?_)) rfl ?_ ?_⟩;(first|omega|(simp only;omega));all_goals (repeat' (first|exact trivial|(refine And.intro ?_ ?_)|(refine Exists.intro _ (And.intro rfl ?_))|(refine RenO.opt ?_)|(refine RenO.toOpt ?_)|(refine RenO.cells ?_)|exact RenO.defs|exact RenL.nil|(refine RenL.cons ?_ ?_)|(first|(first|exact RenV.nilQ|exact (RenV.sl (b := 7) (b' := _) (o := 0) (n := 1) (c := none) (z := 4) (List.Mem.head _))|exact restV_renQ (Nat.zero_lt_succ _) _|exact RenV.eq rfl (nameless_sc _)|exact RenV.eq rfl (nameless_ro (rowsQ_nameless (fun k => nameless_sc _) _)))|(with_reducible exact RenV.sc)|exact RenV.gsN|exact RenV.gsZ|exact RenV.gsL (by decide)|exact RenV.slL (by decide)|((first|refine RenV.gsE (by (first|exact mhA|exact mhB|exact mhC|(simp;done))) ?_|refine RenV.eq (scI_eq ?_) (nameless_sc _));(first|rfl|omega|(simp only [List.length_append,List.length_cons,List.length_nil,List.length_map,List.length_take,List.length_drop] <;> omega)|(simp only <;> omega)|(simp <;> omega)))|exact RenV.undef)|(with_unfolding_all exact (rfl : (_ : VObj) = _)))))
          | cons p0 out =>
            repeat' (first|with_reducible refine And.intro ?_ ?_|((with_reducible intro hc);(try simp only [zA,zB,zC,zD,zE,zF,zG,zH,zI,zJ,zK,zL,zM,zN,zO,zP,zQ,zR,zS,zT,zU,zV,zW] at hc);(first|exact absurd rfl hc|exact absurd trivial hc|(exfalso;omega)|skip))|exact Is.mk rfl rfl|((conv => whnf);first|with_reducible refine And.intro ?_ ?_|with_reducible intro hx|exact Is.mk rfl rfl|(with_reducible first|apply Val.via|apply ValH.via)|refine ifB_intro ?_ ?_|refine xA (by omega) ?_|(refine xB ?_;intro kw hk1 hk2)|refine xC (by omega) ?_|refine xD ?_|refine xE (by omega) ?_|refine xF (by omega) ?_|refine xG ?_|refine xH ?_|refine xI (by omega) ?_|refine xJ (by omega) ?_|(with_reducible refine stopA ?_)|refine Exists.intro _ (And.intro (by (first|exact vat_of rfl rfl rfl|rfl)) ?_)|refine GOp.drawn (by rfl) (by rfl) (Nat.le_of_ble_eq_true (by rfl)) (by rfl)|refine GOp.via (by rfl) ?_|refine GWP.drawY mixed _ (by kernel_rfl) (by rfl) ?_|(first|(refine GCall.mk ((hfz _ rfl rfl rfl).mono ?_);rintro _ _ ⟨rfl,rfl⟩))|(with_reducible first|refine stopO ?_|refine stopE ?_|refine stopD ?_|refine stopW ?_|refine stopG ?_|refine stopC ?_|refine stopR ?_)))
            (all_goals (first|omega|(rw [List.length_map];done)|(rw [List.length_map];omega)|contradiction|skip))
            simp only [List.length_cons] at g5
            apply GOp'.via
            case h => exact vop_append rfl (vapp_grow sty_Q (d := .slice 83) Tryd.underlying60 (by intro k h; cases h) (m := 1) (b := 4) (n := out.length + 1) (l := [kN kk, strV nn, strV mm, .ro ll.length (rowsQ kN ll)]) (vs := rowsQ kN (p0 :: out)) (by rfl) (by rfl) (by omega) (by rfl) (by rw [rowsQ_len]; exact Nat.le_refl _) (by omega) (by omega))
            repeat' (first|with_reducible refine And.intro ?_ ?_|((with_reducible intro hc);(try simp only [zA,zB,zC,zD,zE,zF,zG,zH,zI,zJ,zK,zL,zM,zN,zO,zP,zQ,zR,zS,zT,zU,zV,zW] at hc);(first|exact absurd rfl hc|exact absurd trivial hc|(exfalso;omega)|skip))|exact Is.mk rfl rfl|((conv => whnf);first|with_reducible refine And.intro ?_ ?_|with_reducible intro hx|exact Is.mk rfl rfl|(with_reducible first|apply Val.via|apply ValH.via)|refine ifB_intro ?_ ?_|refine xA (by omega) ?_|(refine xB ?_;intro kw hk1 hk2)|refine xC (by omega) ?_|refine xD ?_|refine xE (by omega) ?_|refine xF (by omega) ?_|refine xG ?_|refine xH ?_|refine xI (by omega) ?_|refine xJ (by omega) ?_|(with_reducible refine stopA ?_)|refine Exists.intro _ (And.intro (by (first|exact vat_of rfl rfl rfl|rfl)) ?_)|refine GOp.drawn (by rfl) (by rfl) (Nat.le_of_ble_eq_true (by rfl)) (by rfl)|refine GOp.via (by rfl) ?_|refine GWP.drawY mixed _ (by kernel_rfl) (by rfl) ?_|fail|(with_reducible first|refine stopO ?_|refine stopE ?_|refine stopD ?_|refine stopW ?_|refine stopG ?_|refine stopC ?_|refine stopR ?_)))
            (all_goals (first|omega|(rw [List.length_map];done)|(rw [List.length_map];omega)|contradiction|skip))
            focus (refine Done'.mk ⟨(m,(p0 :: out) ++ [.mk kk nn mm ll],s2,e2),⟨g1,hsf,by simp only;omega,by simp only;omega,by simp only [List.length_append,List.length_cons,List.length_nil];omega⟩,?_,KeptA.of [(7,4)] rfl rfl (by repeat' (first|exact trivial|refine And.intro rfl ?_)) rfl ?_ ?_⟩;(first|omega|(simp only;omega));all_goals (repeat' (first|exact trivial|(refine And.intro ?_ ?_)|(refine Exists.intro _ (And.intro rfl ?_))|(refine RenO.opt ?_)|(refine RenO.toOpt ?_)|(refine RenO.cells ?_)|exact RenO.defs|exact RenL.nil|(refine RenL.cons ?_ ?_)|(first|(first|(first|exact RenV.nilQ|exact (RenV.sl (b := 7) (b' := _) (o := 0) (n := 1) (c := none) (z := 4) (List.Mem.head _))|exact restV_renQ (Nat.zero_lt_succ _) _|exact RenV.eq rfl (nameless_sc _)|exact RenV.eq rfl (nameless_ro (rowsQ_nameless (fun k => nameless_sc _) _)))|exact slEQ (List.Mem.head _) (by simp)|exact renEQ (growQ (l := p0 :: out) rfl) (rowsQ_nameless (fun k => nameless_sc _) _))|(with_reducible exact RenV.sc)|exact RenV.gsN|exact RenV.gsZ|exact RenV.gsL (by decide)|exact RenV.slL (by decide)|((first|refine RenV.gsE (by (first|exact mhA|exact mhB|exact mhC|(simp;done))) ?_|refine RenV.eq (scI_eq ?_) (nameless_sc _));(first|rfl|omega|(simp only [List.length_append,List.length_cons,List.length_nil,List.length_map,List.length_take,List.length_drop] <;> omega)|(simp only <;> omega)|(simp <;> omega)))|exact RenV.undef)|(with_unfolding_all exact (rfl : (_ : VObj) = _)))))
theorem compound_call {t : List UInt8} (ht : t.length ≤ 100000) : ∀ (n d : Nat) (s : List UInt8), s <:+ t → s.length < n → d ≤ 16 → VCall Tryd.prog 25 [.ptr 1 0] ⟨rdO t s d 0, 2⟩ (fun v K => v = .ro (compS n d s).1.length (rowsQ kN (compS n d s).1) ∧ K = ⟨rdO t (compS n d s).2.1 d (compS n d s).2.2, 2⟩) := fun n => by
  induction n using Nat.strongRecOn with
  | ind n ih => exact fun d s hs hn hd => compound_step hs ht n d hn hd fun m hm s2 hs2 hl h16 => ih m hm (d + 1) s2 hs2 hl h16
end Go.Proofs.YthjfobafdclafaaDoor

/- A chain's links as the program holds them. -/
namespace Go.Proofs.YthjfobafdclafaaDoor
open Go Go.RowKit
set_option linter.unusedSimpArgs false
set_option linter.unusedVariables false
set_option maxRecDepth 100000
def cellsL (x : SLink) : List VV := [.ro x.1.length (rowsQ kN x.1), booV x.2]
def rowsL (l : List SLink) : List VV := l.flatMap cellsL
theorem rowsL_len (l : List SLink) : (rowsL l).length = l.length * 2 := by
  induction l with
  | nil => rfl
  | cons a r ih =>
    show (cellsL a ++ rowsL r).length = _
    rw [List.length_append, ih, List.length_cons]
    show 2 + _ = _
    omega
theorem rowsL_nameless (l : List SLink) : ∀ v ∈ rowsL l, Nameless v := fun v hv => by
  obtain ⟨x, _, h⟩ := List.mem_flatMap.1 hv
  simp only [cellsL, List.mem_cons, List.not_mem_nil, or_false] at h
  rcases h with rfl | rfl
  · exact nameless_ro (rowsQ_nameless (fun k => nameless_sc _) x.1)
  · exact nameless_sc _
theorem rowsL_snoc (l : List SLink) (x : SLink) : rowsL (l ++ [x]) = rowsL l ++ cellsL x := by
  unfold rowsL
  rw [List.flatMap_append]
  simp
theorem growL {l : List SLink} {q : List SPart} {b : Bool} {z : Nat} (hz : z = l.length) : (rowsL l).take (z * 2) ++ [.ro q.length (rowsQ kN q), booV b] = rowsL (l ++ [(q, b)]) := by
  subst hz
  rw [List.take_of_length_le (by rw [rowsL_len]; exact Nat.le_refl _), rowsL_snoc]
  rfl
theorem sty_L : SlTy Tryd.prog 42 2 32 := ⟨⟨_, _, _, rfl, rfl, rfl, rfl, rfl, rfl⟩⟩
/-- The links so far: the first alone lies in a slice that is full. -/
def outL (nm : Nat) : List SLink → VV
  | [] => .sc (.slice none 0 0)
  | [x] => .sl nm 0 1 (some 1) 2
  | x :: y :: r => .sl nm 0 (r.length + 2) none 2
theorem frz_outL {K : Heap} {b n : Nat} {c : Option Nat} {l : List SLink} (hg : K.get b = some (.cells true (rowsL l))) (hn : n = l.length) : FrzB 2 K (.sl b 0 n c 2) (.ro l.length (rowsL l)) := by
  subst hn
  have := Frz.sl (K := K) (b := b) (o := 0) (n := l.length) (z := 2) (c := c) hg (by rw [rowsL_len]; omega) (rowsL_nameless l)
  rw [List.drop_zero, List.take_of_length_le (by rw [rowsL_len]; exact Nat.le_refl _)] at this
  exact this.toB
end Go.Proofs.YthjfobafdclafaaDoor

/- A chain, walked. -/
namespace Go.Proofs.YthjfobafdclafaaDoor
open Go Go.RowKit
set_option linter.unusedSimpArgs false
set_option linter.unusedVariables false
set_option maxRecDepth 100000
set_option maxHeartbeats 8000000
theorem slL2 {R : List (Nat × Nat)} {T b b' n n' : Nat} (h : (b, b') ∈ R) (e : n = n') : RenV R T (.sl b 0 n none 2) (.sl b' 0 n' none 2) := by subst e; exact .sl h
theorem chain_call {t s : List UInt8} (hs : s <:+ t) (ht : t.length ≤ 100000) (n : Nat) (hn : s.length < n) :
    VCall Tryd.prog 12 [.ptr 1 0] ⟨rdO t s 0 0, 2⟩ (fun v K => v = .ro (firstS n s).1.length (rowsL (firstS n s).1) ∧ K = ⟨rdO t (firstS n s).2.1 0 (firstS n s).2.2, 2⟩) := by
  refine VCall.rd ?_
  have ha : RenL [(1, 1), (0, 0)] 0 [VV.ptr 1 0] [.ptr 1 0] := .cons (RenV.ptr (by simp)) .nil
  have k1 := compound_call ht (s.length + 1) 0 s hs (by omega) (by omega)
  have hsf := (comp_suf (s.length + 1) 0 s).trans hs
  have hsl := (comp_suf (s.length + 1) 0 s).length_le
  unfold firstS
  generalize compS (s.length + 1) 0 s = c at *
  obtain ⟨l0, s0, e0⟩ := c
  simp only at k1 hsf hsl ⊢
  refine VCall.go Tryd.func12 rfl ?_
  repeat' (first|with_reducible refine And.intro ?_ ?_|((with_reducible intro hc);(try simp only [zA,zB,zC,zD,zE,zF,zG,zH,zI,zJ,zK,zL,zM,zN,zO,zP,zQ,zR,zS,zT,zU,zV,zW] at hc);(first|exact absurd rfl hc|exact absurd trivial hc|(exfalso;omega)|skip))|exact Is.mk rfl rfl|((conv => whnf);first|with_reducible refine And.intro ?_ ?_|with_reducible intro hx|exact Is.mk rfl rfl|(with_reducible first|apply Val.via|apply ValH.via)|refine ifB_intro ?_ ?_|refine xA (by omega) ?_|(refine xB ?_;intro kw hk1 hk2)|refine xC (by omega) ?_|refine xD ?_|refine xE (by omega) ?_|refine xF (by omega) ?_|refine xG ?_|refine xH ?_|refine xI (by omega) ?_|refine xJ (by omega) ?_|(with_reducible refine stopA ?_)|refine Exists.intro _ (And.intro (by (first|exact vat_of rfl rfl rfl|rfl)) ?_)|refine GOp.drawn (by rfl) (by rfl) (Nat.le_of_ble_eq_true (by rfl)) (by rfl)|refine GOp.via (by rfl) ?_|refine GWP.drawY mixed _ (by kernel_rfl) (by rfl) ?_|(refine GCall.mk ((k1).mono ?_);rintro _ _ ⟨rfl,rfl⟩)|(with_reducible first|refine stopO ?_|refine stopE ?_|refine stopD ?_|refine stopW ?_|refine stopG ?_|refine stopC ?_|refine stopR ?_)))
  (all_goals (first|omega|(rw [List.length_map];done)|(rw [List.length_map];omega)|contradiction|skip))
  (refine GWP'.mk (GWP.loopB [1, 2] (fun (b : Nat × List SLink × List UInt8 × Nat) => chainS b.1 b.2.1 b.2.2.1 b.2.2.2 = chainS n [(l0, false)] s0 e0 ∧ b.2.2.1 <:+ t ∧ b.2.2.1.length < b.1 ∧ b.2.1 ≠ [] ∧ b.2.1.length + b.2.2.1.length ≤ t.length + 1) (fun b => [(3, outL 3 b.2.1)]) (fun b => [(1, rdC t.length b.2.2.1 0 b.2.2.2), (3, .cells true (rowsL b.2.1))]) 4 (fun b => b.1) (n, [(l0, false)], s0, e0) ⟨rfl, hsf, by simp only; omega, by simp, by have := hs.length_le; simp only [List.length_cons, List.length_nil]; omega⟩ ?_); (conv => whnf); refine And.intro ?_ ?_)
  · focus (refine KeptA.of [(2,3)] rfl rfl (by repeat' (first|exact trivial|refine And.intro rfl ?_)) rfl ?_ ?_;all_goals (repeat' (first|exact trivial|(first|exact RenV.nilQ|exact (RenV.sl (b := 2) (b' := _) (o := 0) (n := 1) (c := some 1) (z := 2) (List.Mem.head _))|exact restV_renQ (Nat.zero_lt_succ _) _|exact RenV.eq rfl (nameless_sc _)|exact RenV.eq rfl (nameless_ro (rowsQ_nameless (fun k => nameless_sc _) _)))|(refine And.intro ?_ ?_)|(refine Exists.intro _ (And.intro rfl ?_))|(refine RenO.opt ?_)|(refine RenO.toOpt ?_)|(refine RenO.cells ?_)|exact RenO.defs|exact RenL.nil|(refine RenL.cons ?_ ?_)|(first|(first|exact RenV.nilQ|exact (RenV.sl (b := 2) (b' := _) (o := 0) (n := 1) (c := some 1) (z := 2) (List.Mem.head _))|exact restV_renQ (Nat.zero_lt_succ _) _|exact RenV.eq rfl (nameless_sc _)|exact RenV.eq rfl (nameless_ro (rowsQ_nameless (fun k => nameless_sc _) _)))|(with_reducible exact RenV.sc)|exact RenV.gsN|exact RenV.gsZ|exact RenV.gsL (by decide)|exact RenV.slL (by decide)|((first|refine RenV.gsE (by (first|exact mhA|exact mhB|exact mhC|(simp;done))) ?_|refine RenV.eq (scI_eq ?_) (nameless_sc _));(first|rfl|omega|(simp only [List.length_append,List.length_cons,List.length_nil,List.length_map,List.length_take,List.length_drop] <;> omega)|(simp only <;> omega)|(simp <;> omega)))|exact RenV.undef)|(with_unfolding_all exact (rfl : (_ : VObj) = _)))))
  rintro ⟨m, out, s1, e⟩ ⟨g1, g2, g3, g4, g5⟩
  simp only at g1 g2 g3 g4 g5
  cases m with
  | zero => omega
  | succ m =>
    rw [chainS] at g1
    cases e with
    | succ e =>
      rw [if_pos (by omega)] at g1
      rw [← g1]
      match out, g4, g5 with
      | [x], g4, g5 =>
        repeat' (first|with_reducible refine And.intro ?_ ?_|((with_reducible intro hc);(try simp only [zA,zB,zC,zD,zE,zF,zG,zH,zI,zJ,zK,zL,zM,zN,zO,zP,zQ,zR,zS,zT,zU,zV,zW] at hc);(first|exact absurd rfl hc|exact absurd trivial hc|(exfalso;omega)|skip))|exact Is.mk rfl rfl|((conv => whnf);first|with_reducible refine And.intro ?_ ?_|with_reducible intro hx|exact Is.mk rfl rfl|(with_reducible first|apply Val.via|apply ValH.via)|refine ifB_intro ?_ ?_|refine xA (by omega) ?_|(refine xB ?_;intro kw hk1 hk2)|refine xC (by omega) ?_|refine xD ?_|refine xE (by omega) ?_|refine xF (by omega) ?_|refine xG ?_|refine xH ?_|refine xI (by omega) ?_|refine xJ (by omega) ?_|(with_reducible refine stopA ?_)|refine Exists.intro _ (And.intro (by (first|exact vat_of rfl rfl rfl|rfl)) ?_)|refine GOp.drawn (by rfl) (by rfl) (Nat.le_of_ble_eq_true (by rfl)) (by rfl)|refine GOp.via (by rfl) ?_|refine GWP.drawY mixed _ (by kernel_rfl) (by rfl) ?_|fail|(with_reducible first|refine stopO ?_|refine stopE ?_|refine stopD ?_|refine stopW ?_|refine stopG ?_|refine stopC ?_|refine stopR ?_)))
        (all_goals (first|omega|(rw [List.length_map];done)|(rw [List.length_map];omega)|contradiction|skip))
        exact Done'.mk ⟨frz_outL (l := [x]) rfl rfl, rfl, rfl⟩
      | x :: y :: q, g4, g5 =>
        repeat' (first|with_reducible refine And.intro ?_ ?_|((with_reducible intro hc);(try simp only [zA,zB,zC,zD,zE,zF,zG,zH,zI,zJ,zK,zL,zM,zN,zO,zP,zQ,zR,zS,zT,zU,zV,zW] at hc);(first|exact absurd rfl hc|exact absurd trivial hc|(exfalso;omega)|skip))|exact Is.mk rfl rfl|((conv => whnf);first|with_reducible refine And.intro ?_ ?_|with_reducible intro hx|exact Is.mk rfl rfl|(with_reducible first|apply Val.via|apply ValH.via)|refine ifB_intro ?_ ?_|refine xA (by omega) ?_|(refine xB ?_;intro kw hk1 hk2)|refine xC (by omega) ?_|refine xD ?_|refine xE (by omega) ?_|refine xF (by omega) ?_|refine xG ?_|refine xH ?_|refine xI (by omega) ?_|refine xJ (by omega) ?_|(with_reducible refine stopA ?_)|refine Exists.intro _ (And.intro (by (first|exact vat_of rfl rfl rfl|rfl)) ?_)|refine GOp.drawn (by rfl) (by rfl) (Nat.le_of_ble_eq_true (by rfl)) (by rfl)|refine GOp.via (by rfl) ?_|refine GWP.drawY mixed _ (by kernel_rfl) (by rfl) ?_|fail|(with_reducible first|refine stopO ?_|refine stopE ?_|refine stopD ?_|refine stopW ?_|refine stopG ?_|refine stopC ?_|refine stopR ?_)))
        (all_goals (first|omega|(rw [List.length_map];done)|(rw [List.length_map];omega)|contradiction|skip))
        exact Done'.mk ⟨frz_outL (l := x :: y :: q) rfl rfl, rfl, rfl⟩
    | zero =>
      rw [if_neg (by omega)] at g1
      have k2 := fun H => VCall.rdAt (H := H) (nameless_sc _) ha (blanks_call g2 ht 0 0)
      have hbs : blS s1 <:+ t := (List.dropWhile_suffix _).trans g2
      have hbl : (blS s1).length ≤ s1.length := (List.dropWhile_suffix _).length_le
      cases he : endS (blS s1) with
      | true =>
        rw [he, if_pos rfl] at g1
        rw [← g1]
        generalize blS s1 = b at *
        cases b with
        | nil =>
          match out, g4, g5 with
          | [x], g4, g5 =>
            repeat' (first|with_reducible refine And.intro ?_ ?_|((with_reducible intro hc);(try simp only [zA,zB,zC,zD,zE,zF,zG,zH,zI,zJ,zK,zL,zM,zN,zO,zP,zQ,zR,zS,zT,zU,zV,zW] at hc);(first|exact absurd rfl hc|exact absurd trivial hc|(exfalso;omega)|skip))|exact Is.mk rfl rfl|((conv => whnf);first|with_reducible refine And.intro ?_ ?_|with_reducible intro hx|exact Is.mk rfl rfl|(with_reducible first|apply Val.via|apply ValH.via)|refine ifB_intro ?_ ?_|refine xA (by omega) ?_|(refine xB ?_;intro kw hk1 hk2)|refine xC (by omega) ?_|refine xD ?_|refine xE (by omega) ?_|refine xF (by omega) ?_|refine xG ?_|refine xH ?_|refine xI (by omega) ?_|refine xJ (by omega) ?_|(with_reducible refine stopA ?_)|refine Exists.intro _ (And.intro (by (first|exact vat_of rfl rfl rfl|exact vat_of vagg_u8 (map_at (suf_at hbs)) (Nat.add_zero _)|rfl)) ?_)|refine GOp.drawn (by rfl) (by rfl) (Nat.le_of_ble_eq_true (by rfl)) (by rfl)|refine GOp.via (by rfl) ?_|refine GWP.drawY mixed _ (by kernel_rfl) (by rfl) ?_|(refine GCall.mk ((k2 _ rfl rfl rfl).mono ?_);rintro _ _ ⟨rfl,rfl⟩)|(with_reducible first|refine stopO ?_|refine stopE ?_|refine stopD ?_|refine stopW ?_|refine stopG ?_|refine stopC ?_|refine stopR ?_)))
            (all_goals (first|omega|(rw [List.length_map];done)|(rw [List.length_map];omega)|contradiction|skip))
            exact Done'.mk ⟨frz_outL (l := [x]) rfl rfl, rfl, rfl⟩
          | x :: y :: q, g4, g5 =>
            repeat' (first|with_reducible refine And.intro ?_ ?_|((with_reducible intro hc);(try simp only [zA,zB,zC,zD,zE,zF,zG,zH,zI,zJ,zK,zL,zM,zN,zO,zP,zQ,zR,zS,zT,zU,zV,zW] at hc);(first|exact absurd rfl hc|exact absurd trivial hc|(exfalso;omega)|skip))|exact Is.mk rfl rfl|((conv => whnf);first|with_reducible refine And.intro ?_ ?_|with_reducible intro hx|exact Is.mk rfl rfl|(with_reducible first|apply Val.via|apply ValH.via)|refine ifB_intro ?_ ?_|refine xA (by omega) ?_|(refine xB ?_;intro kw hk1 hk2)|refine xC (by omega) ?_|refine xD ?_|refine xE (by omega) ?_|refine xF (by omega) ?_|refine xG ?_|refine xH ?_|refine xI (by omega) ?_|refine xJ (by omega) ?_|(with_reducible refine stopA ?_)|refine Exists.intro _ (And.intro (by (first|exact vat_of rfl rfl rfl|exact vat_of vagg_u8 (map_at (suf_at hbs)) (Nat.add_zero _)|rfl)) ?_)|refine GOp.drawn (by rfl) (by rfl) (Nat.le_of_ble_eq_true (by rfl)) (by rfl)|refine GOp.via (by rfl) ?_|refine GWP.drawY mixed _ (by kernel_rfl) (by rfl) ?_|(refine GCall.mk ((k2 _ rfl rfl rfl).mono ?_);rintro _ _ ⟨rfl,rfl⟩)|(with_reducible first|refine stopO ?_|refine stopE ?_|refine stopD ?_|refine stopW ?_|refine stopG ?_|refine stopC ?_|refine stopR ?_)))
            (all_goals (first|omega|(rw [List.length_map];done)|(rw [List.length_map];omega)|contradiction|skip))
            exact Done'.mk ⟨frz_outL (l := x :: y :: q) rfl rfl, rfl, rfl⟩
        | cons c r =>
          have hc : c = 44 := by simpa [endS] using he
          subst hc
          have hbt := hbs.length_le
          simp only [List.length_cons] at hbt
          match out, g4, g5 with
          | [x], g4, g5 =>
            repeat' (first|with_reducible refine And.intro ?_ ?_|((with_reducible intro hc);(try simp only [zA,zB,zC,zD,zE,zF,zG,zH,zI,zJ,zK,zL,zM,zN,zO,zP,zQ,zR,zS,zT,zU,zV,zW] at hc);(first|exact absurd rfl hc|exact absurd trivial hc|(exfalso;omega)|skip))|exact Is.mk rfl rfl|((conv => whnf);first|with_reducible refine And.intro ?_ ?_|with_reducible intro hx|exact Is.mk rfl rfl|(with_reducible first|apply Val.via|apply ValH.via)|refine ifB_intro ?_ ?_|refine xA (by omega) ?_|(refine xB ?_;intro kw hk1 hk2)|refine xC (by omega) ?_|refine xD ?_|refine xE (by omega) ?_|refine xF (by omega) ?_|refine xG ?_|refine xH ?_|refine xI (by omega) ?_|refine xJ (by omega) ?_|(with_reducible refine stopA ?_)|refine Exists.intro _ (And.intro (by (first|exact vat_of rfl rfl rfl|exact vat_of vagg_u8 (map_at (suf_at hbs)) (Nat.add_zero _)|rfl)) ?_)|refine GOp.drawn (by rfl) (by rfl) (Nat.le_of_ble_eq_true (by rfl)) (by rfl)|refine GOp.via (by rfl) ?_|refine GWP.drawY mixed _ (by kernel_rfl) (by rfl) ?_|(refine GCall.mk ((k2 _ rfl rfl rfl).mono ?_);rintro _ _ ⟨rfl,rfl⟩)|(with_reducible first|refine stopO ?_|refine stopE ?_|refine stopD ?_|refine stopW ?_|refine stopG ?_|refine stopC ?_|refine stopR ?_)))
            (all_goals (first|omega|(rw [List.length_map];done)|(rw [List.length_map];omega)|contradiction|skip))
            exact Done'.mk ⟨frz_outL (l := [x]) rfl rfl, rfl, rfl⟩
          | x :: y :: q, g4, g5 =>
            repeat' (first|with_reducible refine And.intro ?_ ?_|((with_reducible intro hc);(try simp only [zA,zB,zC,zD,zE,zF,zG,zH,zI,zJ,zK,zL,zM,zN,zO,zP,zQ,zR,zS,zT,zU,zV,zW] at hc);(first|exact absurd rfl hc|exact absurd trivial hc|(exfalso;omega)|skip))|exact Is.mk rfl rfl|((conv => whnf);first|with_reducible refine And.intro ?_ ?_|with_reducible intro hx|exact Is.mk rfl rfl|(with_reducible first|apply Val.via|apply ValH.via)|refine ifB_intro ?_ ?_|refine xA (by omega) ?_|(refine xB ?_;intro kw hk1 hk2)|refine xC (by omega) ?_|refine xD ?_|refine xE (by omega) ?_|refine xF (by omega) ?_|refine xG ?_|refine xH ?_|refine xI (by omega) ?_|refine xJ (by omega) ?_|(with_reducible refine stopA ?_)|refine Exists.intro _ (And.intro (by (first|exact vat_of rfl rfl rfl|exact vat_of vagg_u8 (map_at (suf_at hbs)) (Nat.add_zero _)|rfl)) ?_)|refine GOp.drawn (by rfl) (by rfl) (Nat.le_of_ble_eq_true (by rfl)) (by rfl)|refine GOp.via (by rfl) ?_|refine GWP.drawY mixed _ (by kernel_rfl) (by rfl) ?_|(refine GCall.mk ((k2 _ rfl rfl rfl).mono ?_);rintro _ _ ⟨rfl,rfl⟩)|(with_reducible first|refine stopO ?_|refine stopE ?_|refine stopD ?_|refine stopW ?_|refine stopG ?_|refine stopC ?_|refine stopR ?_)))
            (all_goals (first|omega|(rw [List.length_map];done)|(rw [List.length_map];omega)|contradiction|skip))
            exact Done'.mk ⟨frz_outL (l := x :: y :: q) rfl rfl, rfl, rfl⟩
      | false =>
        rw [he, if_neg (by simp)] at g1
        have haS : ∀ x, RenL [(1, 1), (0, 0)] 0 [VV.ptr 1 0, strV x] [.ptr 1 0, strV x] := fun x => .cons (RenV.ptr (by simp)) (.cons (RenV.of (nameless_strV x)) .nil)
        have haI : ∀ k : Int, RenL [(1, 1), (0, 0)] 0 [VV.ptr 1 0, iV k] [.ptr 1 0, iV k] := fun k => .cons (RenV.ptr (by simp)) (.cons (RenV.of (nameless_sc _)) .nil)
        have k3 := fun H => VCall.rdAt (H := H) (nameless_sc _) (haS _) (skip_call [62] hbs ht (by simp) 0 0)
        have k4 := fun s2 e H => VCall.rdAt (H := H) (nameless_tp (by simp)) (haI 2) (fail_call t s2 0 e 2)
        generalize blS s1 = b at *
        obtain ⟨c, r, rfl⟩ : ∃ c r, b = c :: r := by
          cases b with
          | nil => simp [endS] at he
          | cons c r => exact ⟨c, r, rfl⟩
        have hc : c ≠ 44 := fun e => by subst e; simp [endS] at he
        have hcz : ¬ (c.toNat : Int) = 44 := fun e => hc (UInt8.toNat_inj.1 (Int.ofNat.inj e))
        have hbt := hbs.length_le
        simp only [List.length_cons] at hbt
        cases h6 : skipS [62] (c :: r) with
        | none =>
          rw [h6] at k3 g1
          simp only [Option.isSome_none, Option.getD_none] at k3 g1
          by_cases hz : (c :: r).length = s1.length
          · rw [if_pos hz] at g1
            rw [← g1]
            rw [show decide ((c :: r).length < s1.length) = false by rw [decide_eq_false_iff_not]; omega] at k2
            match out, g4, g5 with
            | [x], g4, g5 =>
              repeat' (first|with_reducible refine And.intro ?_ ?_|((with_reducible intro hc);(try simp only [zA,zB,zC,zD,zE,zF,zG,zH,zI,zJ,zK,zL,zM,zN,zO,zP,zQ,zR,zS,zT,zU,zV,zW] at hc);(first|exact absurd rfl hc|exact absurd trivial hc|(exfalso;omega)|skip))|exact Is.mk rfl rfl|((conv => whnf);first|with_reducible refine And.intro ?_ ?_|with_reducible intro hx|exact Is.mk rfl rfl|(with_reducible first|apply Val.via|apply ValH.via)|refine ifB_intro ?_ ?_|refine xA (by omega) ?_|(refine xB ?_;intro kw hk1 hk2)|refine xC (by omega) ?_|refine xD ?_|refine xE (by omega) ?_|refine xF (by omega) ?_|refine xG ?_|refine xH ?_|refine xI (by omega) ?_|refine xJ (by omega) ?_|(with_reducible refine stopA ?_)|refine Exists.intro _ (And.intro (by (first|exact vat_of rfl rfl rfl|exact vat_of vagg_u8 (map_at (suf_at hbs)) (Nat.add_zero _)|rfl)) ?_)|refine GOp.drawn (by rfl) (by rfl) (Nat.le_of_ble_eq_true (by rfl)) (by rfl)|refine GOp.via (by rfl) ?_|refine GWP.drawY mixed _ (by kernel_rfl) (by rfl) ?_|(first|(refine GCall.mk ((k2 _ rfl rfl rfl).mono ?_);rintro _ _ ⟨rfl,rfl⟩)|(refine GCall.mk ((k3 _ rfl rfl rfl).mono ?_);rintro _ _ ⟨rfl,rfl⟩)|(refine GCall.mk ((k4 _ _ _ rfl rfl rfl).mono ?_);rintro _ _ ⟨rfl,rfl⟩))|(with_reducible first|refine stopO ?_|refine stopE ?_|refine stopD ?_|refine stopW ?_|refine stopG ?_|refine stopC ?_|refine stopR ?_)))
              (all_goals (first|omega|(rw [List.length_map];done)|(rw [List.length_map];omega)|contradiction|skip))
              exact Done'.mk ⟨frz_outL (l := [x]) rfl rfl, rfl, rfl⟩
            | x :: y :: q, g4, g5 =>
              repeat' (first|with_reducible refine And.intro ?_ ?_|((with_reducible intro hc);(try simp only [zA,zB,zC,zD,zE,zF,zG,zH,zI,zJ,zK,zL,zM,zN,zO,zP,zQ,zR,zS,zT,zU,zV,zW] at hc);(first|exact absurd rfl hc|exact absurd trivial hc|(exfalso;omega)|skip))|exact Is.mk rfl rfl|((conv => whnf);first|with_reducible refine And.intro ?_ ?_|with_reducible intro hx|exact Is.mk rfl rfl|(with_reducible first|apply Val.via|apply ValH.via)|refine ifB_intro ?_ ?_|refine xA (by omega) ?_|(refine xB ?_;intro kw hk1 hk2)|refine xC (by omega) ?_|refine xD ?_|refine xE (by omega) ?_|refine xF (by omega) ?_|refine xG ?_|refine xH ?_|refine xI (by omega) ?_|refine xJ (by omega) ?_|(with_reducible refine stopA ?_)|refine Exists.intro _ (And.intro (by (first|exact vat_of rfl rfl rfl|exact vat_of vagg_u8 (map_at (suf_at hbs)) (Nat.add_zero _)|rfl)) ?_)|refine GOp.drawn (by rfl) (by rfl) (Nat.le_of_ble_eq_true (by rfl)) (by rfl)|refine GOp.via (by rfl) ?_|refine GWP.drawY mixed _ (by kernel_rfl) (by rfl) ?_|(first|(refine GCall.mk ((k2 _ rfl rfl rfl).mono ?_);rintro _ _ ⟨rfl,rfl⟩)|(refine GCall.mk ((k3 _ rfl rfl rfl).mono ?_);rintro _ _ ⟨rfl,rfl⟩)|(refine GCall.mk ((k4 _ _ _ rfl rfl rfl).mono ?_);rintro _ _ ⟨rfl,rfl⟩))|(with_reducible first|refine stopO ?_|refine stopE ?_|refine stopD ?_|refine stopW ?_|refine stopG ?_|refine stopC ?_|refine stopR ?_)))
              (all_goals (first|omega|(rw [List.length_map];done)|(rw [List.length_map];omega)|contradiction|skip))
              exact Done'.mk ⟨frz_outL (l := x :: y :: q) rfl rfl, rfl, rfl⟩
          · rw [if_neg hz] at g1
            rw [show decide ((c :: r).length < s1.length) = true by rw [decide_eq_true_iff]; omega] at k2
            have k5 := fun H => VCall.rdAt (H := H) (nameless_ro (rowsQ_nameless (fun k => nameless_sc _) _)) ha (compound_call ht ((c :: r).length + 1) 0 (c :: r) hbs (by omega) (by omega))
            have hf2 := (comp_suf ((c :: r).length + 1) 0 (c :: r)).trans hbs
            have hl2 := (comp_suf ((c :: r).length + 1) 0 (c :: r)).length_le
            generalize compS ((c :: r).length + 1) 0 (c :: r) = cr at *
            obtain ⟨l2, s2, e2⟩ := cr
            simp only at k5 hf2 hl2 g1
            match out, g4, g5 with
            | [x], g4, g5 =>
              repeat' (first|with_reducible refine And.intro ?_ ?_|((with_reducible intro hc);(try simp only [zA,zB,zC,zD,zE,zF,zG,zH,zI,zJ,zK,zL,zM,zN,zO,zP,zQ,zR,zS,zT,zU,zV,zW] at hc);(first|exact absurd rfl hc|exact absurd trivial hc|(exfalso;omega)|skip))|exact Is.mk rfl rfl|((conv => whnf);first|with_reducible refine And.intro ?_ ?_|with_reducible intro hx|exact Is.mk rfl rfl|(with_reducible first|apply Val.via|apply ValH.via)|refine ifB_intro ?_ ?_|refine xA (by omega) ?_|(refine xB ?_;intro kw hk1 hk2)|refine xC (by omega) ?_|refine xD ?_|refine xE (by omega) ?_|refine xF (by omega) ?_|refine xG ?_|refine xH ?_|refine xI (by omega) ?_|refine xJ (by omega) ?_|(with_reducible refine stopA ?_)|refine Exists.intro _ (And.intro (by (first|exact vat_of rfl rfl rfl|exact vat_of vagg_u8 (map_at (suf_at hbs)) (Nat.add_zero _)|rfl)) ?_)|refine GOp.drawn (by rfl) (by rfl) (Nat.le_of_ble_eq_true (by rfl)) (by rfl)|refine GOp.via (by rfl) ?_|refine GWP.drawY mixed _ (by kernel_rfl) (by rfl) ?_|(first|(refine GCall.mk ((k2 _ rfl rfl rfl).mono ?_);rintro _ _ ⟨rfl,rfl⟩)|(refine GCall.mk ((k3 _ rfl rfl rfl).mono ?_);rintro _ _ ⟨rfl,rfl⟩)|(refine GCall.mk ((k5 _ rfl rfl rfl).mono ?_);rintro _ _ ⟨rfl,rfl⟩))|(with_reducible first|refine stopO ?_|refine stopE ?_|refine stopD ?_|refine stopW ?_|refine stopG ?_|refine stopC ?_|refine stopR ?_)))
              (all_goals (first|omega|(rw [List.length_map];done)|(rw [List.length_map];omega)|contradiction|skip))
              simp only [List.length_cons, List.length_nil] at g5
              focus (refine Done'.mk ⟨(m,[x] ++ [(l2,false)],s2,e2),⟨g1,hf2,by simp only;omega,by simp,by simp only [List.length_append,List.length_cons,List.length_nil] at g5 ⊢;omega⟩,?_,KeptA.of [(5,3)] rfl rfl (by repeat' (first|exact trivial|refine And.intro rfl ?_)) rfl ?_ ?_⟩;(first|omega|(simp only;omega));all_goals (repeat' (first|exact trivial|(first|(first|exact RenV.nilQ|exact (RenV.sl (b := 5) (b' := _) (o := 0) (n := 1) (c := some 1) (z := 2) (List.Mem.head _))|exact restV_renQ (Nat.zero_lt_succ _) _|exact RenV.eq rfl (nameless_sc _)|exact RenV.eq rfl (nameless_ro (rowsQ_nameless (fun k => nameless_sc _) _)))|exact slL2 (List.Mem.head _) (by simp)|exact renEQ (growL (l := [x]) rfl) (rowsL_nameless _))|(refine And.intro ?_ ?_)|(refine Exists.intro _ (And.intro rfl ?_))|(refine RenO.opt ?_)|(refine RenO.toOpt ?_)|(refine RenO.cells ?_)|exact RenO.defs|exact RenL.nil|(refine RenL.cons ?_ ?_)|(first|(first|(first|exact RenV.nilQ|exact (RenV.sl (b := 5) (b' := _) (o := 0) (n := 1) (c := some 1) (z := 2) (List.Mem.head _))|exact restV_renQ (Nat.zero_lt_succ _) _|exact RenV.eq rfl (nameless_sc _)|exact RenV.eq rfl (nameless_ro (rowsQ_nameless (fun k => nameless_sc _) _)))|exact slL2 (List.Mem.head _) (by simp)|exact renEQ (growL (l := [x]) rfl) (rowsL_nameless _))|(with_reducible exact RenV.sc)|exact RenV.gsN|exact RenV.gsZ|exact RenV.gsL (by decide)|exact RenV.slL (by decide)|((first|refine RenV.gsE (by (first|exact mhA|exact mhB|exact mhC|(simp;done))) ?_|refine RenV.eq (scI_eq ?_) (nameless_sc _));(first|rfl|omega|(simp only [List.length_append,List.length_cons,List.length_nil,List.length_map,List.length_take,List.length_drop] <;> omega)|(simp only <;> omega)|(simp <;> omega)))|exact RenV.undef)|(with_unfolding_all exact (rfl : (_ : VObj) = _)))))
            | x :: y :: q, g4, g5 =>
              repeat' (first|with_reducible refine And.intro ?_ ?_|((with_reducible intro hc);(try simp only [zA,zB,zC,zD,zE,zF,zG,zH,zI,zJ,zK,zL,zM,zN,zO,zP,zQ,zR,zS,zT,zU,zV,zW] at hc);(first|exact absurd rfl hc|exact absurd trivial hc|(exfalso;omega)|skip))|exact Is.mk rfl rfl|((conv => whnf);first|with_reducible refine And.intro ?_ ?_|with_reducible intro hx|exact Is.mk rfl rfl|(with_reducible first|apply Val.via|apply ValH.via)|refine ifB_intro ?_ ?_|refine xA (by omega) ?_|(refine xB ?_;intro kw hk1 hk2)|refine xC (by omega) ?_|refine xD ?_|refine xE (by omega) ?_|refine xF (by omega) ?_|refine xG ?_|refine xH ?_|refine xI (by omega) ?_|refine xJ (by omega) ?_|(with_reducible refine stopA ?_)|refine Exists.intro _ (And.intro (by (first|exact vat_of rfl rfl rfl|exact vat_of vagg_u8 (map_at (suf_at hbs)) (Nat.add_zero _)|rfl)) ?_)|refine GOp.drawn (by rfl) (by rfl) (Nat.le_of_ble_eq_true (by rfl)) (by rfl)|refine GOp.via (by rfl) ?_|refine GWP.drawY mixed _ (by kernel_rfl) (by rfl) ?_|(first|(refine GCall.mk ((k2 _ rfl rfl rfl).mono ?_);rintro _ _ ⟨rfl,rfl⟩)|(refine GCall.mk ((k3 _ rfl rfl rfl).mono ?_);rintro _ _ ⟨rfl,rfl⟩)|(refine GCall.mk ((k5 _ rfl rfl rfl).mono ?_);rintro _ _ ⟨rfl,rfl⟩))|(with_reducible first|refine stopO ?_|refine stopE ?_|refine stopD ?_|refine stopW ?_|refine stopG ?_|refine stopC ?_|refine stopR ?_)))
              (all_goals (first|omega|(rw [List.length_map];done)|(rw [List.length_map];omega)|contradiction|skip))
              simp only [List.length_cons, List.length_nil] at g5
              apply GOp'.via
              case h => exact vop_append rfl (vapp_grow sty_L (d := .slice 62) Tryd.underlying42 (by intro k h; cases h) (m := 1) (b := 3) (n := q.length + 2) (l := [.ro l2.length (rowsQ kN l2), booV false]) (vs := rowsL (x :: y :: q)) (by rfl) (by rfl) (by omega) (by rfl) (by rw [rowsL_len]; exact Nat.le_refl _) (by omega) (by omega))
              repeat' (first|with_reducible refine And.intro ?_ ?_|((with_reducible intro hc);(try simp only [zA,zB,zC,zD,zE,zF,zG,zH,zI,zJ,zK,zL,zM,zN,zO,zP,zQ,zR,zS,zT,zU,zV,zW] at hc);(first|exact absurd rfl hc|exact absurd trivial hc|(exfalso;omega)|skip))|exact Is.mk rfl rfl|((conv => whnf);first|with_reducible refine And.intro ?_ ?_|with_reducible intro hx|exact Is.mk rfl rfl|(with_reducible first|apply Val.via|apply ValH.via)|refine ifB_intro ?_ ?_|refine xA (by omega) ?_|(refine xB ?_;intro kw hk1 hk2)|refine xC (by omega) ?_|refine xD ?_|refine xE (by omega) ?_|refine xF (by omega) ?_|refine xG ?_|refine xH ?_|refine xI (by omega) ?_|refine xJ (by omega) ?_|(with_reducible refine stopA ?_)|refine Exists.intro _ (And.intro (by (first|exact vat_of rfl rfl rfl|rfl)) ?_)|refine GOp.drawn (by rfl) (by rfl) (Nat.le_of_ble_eq_true (by rfl)) (by rfl)|refine GOp.via (by rfl) ?_|refine GWP.drawY mixed _ (by kernel_rfl) (by rfl) ?_|fail|(with_reducible first|refine stopO ?_|refine stopE ?_|refine stopD ?_|refine stopW ?_|refine stopG ?_|refine stopC ?_|refine stopR ?_)))
              (all_goals (first|omega|(rw [List.length_map];done)|(rw [List.length_map];omega)|contradiction|skip))
              focus (refine Done'.mk ⟨(m,x :: y :: q ++ [(l2,false)],s2,e2),⟨g1,hf2,by simp only;omega,by simp,by simp only [List.length_append,List.length_cons,List.length_nil] at g5 ⊢;omega⟩,?_,KeptA.of [(5,3)] rfl rfl (by repeat' (first|exact trivial|refine And.intro rfl ?_)) rfl ?_ ?_⟩;(first|omega|(simp only;omega));all_goals (repeat' (first|exact trivial|(first|(first|exact RenV.nilQ|exact (RenV.sl (b := 5) (b' := _) (o := 0) (n := 1) (c := some 1) (z := 2) (List.Mem.head _))|exact restV_renQ (Nat.zero_lt_succ _) _|exact RenV.eq rfl (nameless_sc _)|exact RenV.eq rfl (nameless_ro (rowsQ_nameless (fun k => nameless_sc _) _)))|exact slL2 (List.Mem.head _) (by simp)|exact renEQ (growL (l := x :: y :: q) rfl) (rowsL_nameless _))|(refine And.intro ?_ ?_)|(refine Exists.intro _ (And.intro rfl ?_))|(refine RenO.opt ?_)|(refine RenO.toOpt ?_)|(refine RenO.cells ?_)|exact RenO.defs|exact RenL.nil|(refine RenL.cons ?_ ?_)|(first|(first|(first|exact RenV.nilQ|exact (RenV.sl (b := 5) (b' := _) (o := 0) (n := 1) (c := some 1) (z := 2) (List.Mem.head _))|exact restV_renQ (Nat.zero_lt_succ _) _|exact RenV.eq rfl (nameless_sc _)|exact RenV.eq rfl (nameless_ro (rowsQ_nameless (fun k => nameless_sc _) _)))|exact slL2 (List.Mem.head _) (by simp)|exact renEQ (growL (l := x :: y :: q) rfl) (rowsL_nameless _))|(with_reducible exact RenV.sc)|exact RenV.gsN|exact RenV.gsZ|exact RenV.gsL (by decide)|exact RenV.slL (by decide)|((first|refine RenV.gsE (by (first|exact mhA|exact mhB|exact mhC|(simp;done))) ?_|refine RenV.eq (scI_eq ?_) (nameless_sc _));(first|rfl|omega|(simp only [List.length_append,List.length_cons,List.length_nil,List.length_map,List.length_take,List.length_drop] <;> omega)|(simp only <;> omega)|(simp <;> omega)))|exact RenV.undef)|(with_unfolding_all exact (rfl : (_ : VObj) = _)))))
        | some r2 =>
          rw [h6] at k3 g1
          simp only [Option.isSome_some, Option.getD_some] at k3 g1
          have h2s := skipS_suf h6 hbs
          have h2l := skipS_len h6
          simp only [List.length_cons, List.length_nil] at h2l hbl
          have k6 := fun H => VCall.rdAt (H := H) (nameless_sc _) ha (blanks_call h2s ht 0 0)
          have hds : blS r2 <:+ t := (List.dropWhile_suffix _).trans h2s
          have hdl : (blS r2).length ≤ r2.length := (List.dropWhile_suffix _).length_le
          generalize blS r2 = b2 at *
          have k5 := fun H => VCall.rdAt (H := H) (nameless_ro (rowsQ_nameless (fun k => nameless_sc _) _)) ha (compound_call ht (b2.length + 1) 0 b2 hds (by omega) (by omega))
          have hf2 := (comp_suf (b2.length + 1) 0 b2).trans hds
          have hl2 := (comp_suf (b2.length + 1) 0 b2).length_le
          generalize compS (b2.length + 1) 0 b2 = cr at *
          obtain ⟨l2, s2, e2⟩ := cr
          simp only at k5 hf2 hl2 g1
          match out, g4, g5 with
          | [x], g4, g5 =>
            repeat' (first|with_reducible refine And.intro ?_ ?_|((with_reducible intro hc);(try simp only [zA,zB,zC,zD,zE,zF,zG,zH,zI,zJ,zK,zL,zM,zN,zO,zP,zQ,zR,zS,zT,zU,zV,zW] at hc);(first|exact absurd rfl hc|exact absurd trivial hc|(exfalso;omega)|skip))|exact Is.mk rfl rfl|((conv => whnf);first|with_reducible refine And.intro ?_ ?_|with_reducible intro hx|exact Is.mk rfl rfl|(with_reducible first|apply Val.via|apply ValH.via)|refine ifB_intro ?_ ?_|refine xA (by omega) ?_|(refine xB ?_;intro kw hk1 hk2)|refine xC (by omega) ?_|refine xD ?_|refine xE (by omega) ?_|refine xF (by omega) ?_|refine xG ?_|refine xH ?_|refine xI (by omega) ?_|refine xJ (by omega) ?_|(with_reducible refine stopA ?_)|refine Exists.intro _ (And.intro (by (first|exact vat_of rfl rfl rfl|exact vat_of vagg_u8 (map_at (suf_at hbs)) (Nat.add_zero _)|rfl)) ?_)|refine GOp.drawn (by rfl) (by rfl) (Nat.le_of_ble_eq_true (by rfl)) (by rfl)|refine GOp.via (by rfl) ?_|refine GWP.drawY mixed _ (by kernel_rfl) (by rfl) ?_|(first|(refine GCall.mk ((k2 _ rfl rfl rfl).mono ?_);rintro _ _ ⟨rfl,rfl⟩)|(refine GCall.mk ((k3 _ rfl rfl rfl).mono ?_);rintro _ _ ⟨rfl,rfl⟩)|(refine GCall.mk ((k6 _ rfl rfl rfl).mono ?_);rintro _ _ ⟨rfl,rfl⟩)|(refine GCall.mk ((k5 _ rfl rfl rfl).mono ?_);rintro _ _ ⟨rfl,rfl⟩))|(with_reducible first|refine stopO ?_|refine stopE ?_|refine stopD ?_|refine stopW ?_|refine stopG ?_|refine stopC ?_|refine stopR ?_)))
            (all_goals (first|omega|(rw [List.length_map];done)|(rw [List.length_map];omega)|contradiction|skip))
            simp only [List.length_cons, List.length_nil] at g5
            focus (refine Done'.mk ⟨(m,[x] ++ [(l2,true)],s2,e2),⟨g1,hf2,by simp only;omega,by simp,by simp only [List.length_append,List.length_cons,List.length_nil] at g5 ⊢;omega⟩,?_,KeptA.of [(5,3)] rfl rfl (by repeat' (first|exact trivial|refine And.intro rfl ?_)) rfl ?_ ?_⟩;(first|omega|(simp only;omega));all_goals (repeat' (first|exact trivial|(first|(first|exact RenV.nilQ|exact (RenV.sl (b := 5) (b' := _) (o := 0) (n := 1) (c := some 1) (z := 2) (List.Mem.head _))|exact restV_renQ (Nat.zero_lt_succ _) _|exact RenV.eq rfl (nameless_sc _)|exact RenV.eq rfl (nameless_ro (rowsQ_nameless (fun k => nameless_sc _) _)))|exact slL2 (List.Mem.head _) (by simp)|exact renEQ (growL (l := [x]) rfl) (rowsL_nameless _))|(refine And.intro ?_ ?_)|(refine Exists.intro _ (And.intro rfl ?_))|(refine RenO.opt ?_)|(refine RenO.toOpt ?_)|(refine RenO.cells ?_)|exact RenO.defs|exact RenL.nil|(refine RenL.cons ?_ ?_)|(first|(first|(first|exact RenV.nilQ|exact (RenV.sl (b := 5) (b' := _) (o := 0) (n := 1) (c := some 1) (z := 2) (List.Mem.head _))|exact restV_renQ (Nat.zero_lt_succ _) _|exact RenV.eq rfl (nameless_sc _)|exact RenV.eq rfl (nameless_ro (rowsQ_nameless (fun k => nameless_sc _) _)))|exact slL2 (List.Mem.head _) (by simp)|exact renEQ (growL (l := [x]) rfl) (rowsL_nameless _))|(with_reducible exact RenV.sc)|exact RenV.gsN|exact RenV.gsZ|exact RenV.gsL (by decide)|exact RenV.slL (by decide)|((first|refine RenV.gsE (by (first|exact mhA|exact mhB|exact mhC|(simp;done))) ?_|refine RenV.eq (scI_eq ?_) (nameless_sc _));(first|rfl|omega|(simp only [List.length_append,List.length_cons,List.length_nil,List.length_map,List.length_take,List.length_drop] <;> omega)|(simp only <;> omega)|(simp <;> omega)))|exact RenV.undef)|(with_unfolding_all exact (rfl : (_ : VObj) = _)))))
          | x :: y :: q, g4, g5 =>
            repeat' (first|with_reducible refine And.intro ?_ ?_|((with_reducible intro hc);(try simp only [zA,zB,zC,zD,zE,zF,zG,zH,zI,zJ,zK,zL,zM,zN,zO,zP,zQ,zR,zS,zT,zU,zV,zW] at hc);(first|exact absurd rfl hc|exact absurd trivial hc|(exfalso;omega)|skip))|exact Is.mk rfl rfl|((conv => whnf);first|with_reducible refine And.intro ?_ ?_|with_reducible intro hx|exact Is.mk rfl rfl|(with_reducible first|apply Val.via|apply ValH.via)|refine ifB_intro ?_ ?_|refine xA (by omega) ?_|(refine xB ?_;intro kw hk1 hk2)|refine xC (by omega) ?_|refine xD ?_|refine xE (by omega) ?_|refine xF (by omega) ?_|refine xG ?_|refine xH ?_|refine xI (by omega) ?_|refine xJ (by omega) ?_|(with_reducible refine stopA ?_)|refine Exists.intro _ (And.intro (by (first|exact vat_of rfl rfl rfl|exact vat_of vagg_u8 (map_at (suf_at hbs)) (Nat.add_zero _)|rfl)) ?_)|refine GOp.drawn (by rfl) (by rfl) (Nat.le_of_ble_eq_true (by rfl)) (by rfl)|refine GOp.via (by rfl) ?_|refine GWP.drawY mixed _ (by kernel_rfl) (by rfl) ?_|(first|(refine GCall.mk ((k2 _ rfl rfl rfl).mono ?_);rintro _ _ ⟨rfl,rfl⟩)|(refine GCall.mk ((k3 _ rfl rfl rfl).mono ?_);rintro _ _ ⟨rfl,rfl⟩)|(refine GCall.mk ((k6 _ rfl rfl rfl).mono ?_);rintro _ _ ⟨rfl,rfl⟩)|(refine GCall.mk ((k5 _ rfl rfl rfl).mono ?_);rintro _ _ ⟨rfl,rfl⟩))|(with_reducible first|refine stopO ?_|refine stopE ?_|refine stopD ?_|refine stopW ?_|refine stopG ?_|refine stopC ?_|refine stopR ?_)))
            (all_goals (first|omega|(rw [List.length_map];done)|(rw [List.length_map];omega)|contradiction|skip))
            simp only [List.length_cons, List.length_nil] at g5
            apply GOp'.via
            case h => exact vop_append rfl (vapp_grow sty_L (d := .slice 62) Tryd.underlying42 (by intro k h; cases h) (m := 1) (b := 3) (n := q.length + 2) (l := [.ro l2.length (rowsQ kN l2), booV true]) (vs := rowsL (x :: y :: q)) (by rfl) (by rfl) (by omega) (by rfl) (by rw [rowsL_len]; exact Nat.le_refl _) (by omega) (by omega))
            repeat' (first|with_reducible refine And.intro ?_ ?_|((with_reducible intro hc);(try simp only [zA,zB,zC,zD,zE,zF,zG,zH,zI,zJ,zK,zL,zM,zN,zO,zP,zQ,zR,zS,zT,zU,zV,zW] at hc);(first|exact absurd rfl hc|exact absurd trivial hc|(exfalso;omega)|skip))|exact Is.mk rfl rfl|((conv => whnf);first|with_reducible refine And.intro ?_ ?_|with_reducible intro hx|exact Is.mk rfl rfl|(with_reducible first|apply Val.via|apply ValH.via)|refine ifB_intro ?_ ?_|refine xA (by omega) ?_|(refine xB ?_;intro kw hk1 hk2)|refine xC (by omega) ?_|refine xD ?_|refine xE (by omega) ?_|refine xF (by omega) ?_|refine xG ?_|refine xH ?_|refine xI (by omega) ?_|refine xJ (by omega) ?_|(with_reducible refine stopA ?_)|refine Exists.intro _ (And.intro (by (first|exact vat_of rfl rfl rfl|rfl)) ?_)|refine GOp.drawn (by rfl) (by rfl) (Nat.le_of_ble_eq_true (by rfl)) (by rfl)|refine GOp.via (by rfl) ?_|refine GWP.drawY mixed _ (by kernel_rfl) (by rfl) ?_|fail|(with_reducible first|refine stopO ?_|refine stopE ?_|refine stopD ?_|refine stopW ?_|refine stopG ?_|refine stopC ?_|refine stopR ?_)))
            (all_goals (first|omega|(rw [List.length_map];done)|(rw [List.length_map];omega)|contradiction|skip))
            focus (refine Done'.mk ⟨(m,x :: y :: q ++ [(l2,true)],s2,e2),⟨g1,hf2,by simp only;omega,by simp,by simp only [List.length_append,List.length_cons,List.length_nil] at g5 ⊢;omega⟩,?_,KeptA.of [(5,3)] rfl rfl (by repeat' (first|exact trivial|refine And.intro rfl ?_)) rfl ?_ ?_⟩;(first|omega|(simp only;omega));all_goals (repeat' (first|exact trivial|(first|(first|exact RenV.nilQ|exact (RenV.sl (b := 5) (b' := _) (o := 0) (n := 1) (c := some 1) (z := 2) (List.Mem.head _))|exact restV_renQ (Nat.zero_lt_succ _) _|exact RenV.eq rfl (nameless_sc _)|exact RenV.eq rfl (nameless_ro (rowsQ_nameless (fun k => nameless_sc _) _)))|exact slL2 (List.Mem.head _) (by simp)|exact renEQ (growL (l := x :: y :: q) rfl) (rowsL_nameless _))|(refine And.intro ?_ ?_)|(refine Exists.intro _ (And.intro rfl ?_))|(refine RenO.opt ?_)|(refine RenO.toOpt ?_)|(refine RenO.cells ?_)|exact RenO.defs|exact RenL.nil|(refine RenL.cons ?_ ?_)|(first|(first|(first|exact RenV.nilQ|exact (RenV.sl (b := 5) (b' := _) (o := 0) (n := 1) (c := some 1) (z := 2) (List.Mem.head _))|exact restV_renQ (Nat.zero_lt_succ _) _|exact RenV.eq rfl (nameless_sc _)|exact RenV.eq rfl (nameless_ro (rowsQ_nameless (fun k => nameless_sc _) _)))|exact slL2 (List.Mem.head _) (by simp)|exact renEQ (growL (l := x :: y :: q) rfl) (rowsL_nameless _))|(with_reducible exact RenV.sc)|exact RenV.gsN|exact RenV.gsZ|exact RenV.gsL (by decide)|exact RenV.slL (by decide)|((first|refine RenV.gsE (by (first|exact mhA|exact mhB|exact mhC|(simp;done))) ?_|refine RenV.eq (scI_eq ?_) (nameless_sc _));(first|rfl|omega|(simp only [List.length_append,List.length_cons,List.length_nil,List.length_map,List.length_take,List.length_drop] <;> omega)|(simp only <;> omega)|(simp <;> omega)))|exact RenV.undef)|(with_unfolding_all exact (rfl : (_ : VObj) = _)))))
end Go.Proofs.YthjfobafdclafaaDoor

/- Selectors, in plain words: how great what is read may be. No program in sight. -/
namespace Go.Proofs.YthjfobafdclafaaDoor
open Go Go.RowKit
set_option linter.unusedSimpArgs false
set_option linter.unusedVariables false
mutual
def mP : SPart → Nat
  | .mk _ n t l => 8 + n.length + t.length + mQ l
def mQ : List SPart → Nat
  | [] => 0
  | p :: r => mP p + mQ r
end
theorem mQ_app (a b : List SPart) : mQ (a ++ b) = mQ a + mQ b := by
  induction a with
  | nil => rw [List.nil_append, mQ, Nat.zero_add]
  | cons p r ih => rw [List.cons_append, mQ, mQ, ih, Nat.add_assoc]
theorem mQ_one (p : SPart) : mQ [p] = mP p := by rw [mQ, mQ, Nat.add_zero]
theorem mP_pos (p : SPart) : 8 ≤ mP p := by
  cases p with
  | mk k n t l => rw [mP]; omega
theorem mQ_len : ∀ l : List SPart, l.length ≤ mQ l
  | [] => Nat.zero_le _
  | p :: r => by
    have h1 := mQ_len r
    have h2 := mP_pos p
    rw [mQ, List.length_cons]
    omega
theorem mQ_take : ∀ {l : List SPart} {i : Nat} {p : SPart}, l[i]? = some p → mQ (l.take i) + mP p ≤ mQ l
  | [], i, p, h => by simp at h
  | q :: r, 0, p, h => by
    simp at h
    subst h
    rw [List.take_zero, mQ, mQ]
    omega
  | q :: r, i + 1, p, h => by
    have := mQ_take (l := r) (i := i) (p := p) (by simpa using h)
    rw [List.take_succ_cons, mQ, mQ]
    omega
mutual
theorem txtP_m : ∀ p : SPart, (txtP p).length ≤ mP p
  | .mk k n t l => by
    have h1 := txtC_m l
    rw [txtP, mP]
    repeat' split
    all_goals (first|omega|(simp only [wFirst,wEmpty,wNot,List.length_append,List.length_cons,List.length_nil];omega))
theorem txtQ_m : ∀ l : List SPart, (txtQ l).length ≤ mQ l
  | [] => by rw [txtQ]; exact Nat.zero_le _
  | p :: r => by
    have h1 := txtP_m p
    have h2 := txtQ_m r
    rw [txtQ, mQ, List.length_append]
    omega
theorem txtC_m : ∀ l : List SPart, (anyQ l).length + (txtQ l).length ≤ mQ l
  | [] => by
    rw [txtQ]
    exact Nat.zero_le _
  | [.mk k n t i] => by
    have h2 := txtP_m (.mk k n t i)
    cases k with
    | zero =>
      rw [txtQ, txtQ, mQ, mQ, mP, txtP]
      simp [anyQ]
      omega
    | succ k =>
      rw [txtQ, txtQ, mQ, mQ]
      simp only [anyQ, List.append_nil, List.length_nil]
      omega
  | p :: q :: r => by
    have h1 := txtP_m p
    have h2 := txtQ_m (q :: r)
    have e : anyQ (p :: q :: r) = [] := by
      cases p with
      | mk k n t i => cases k <;> rfl
    rw [e, txtQ, mQ, List.length_append, List.length_nil]
    omega
end
theorem txtC_le (l : List SPart) : (txtC l).length ≤ mQ l := by
  unfold txtC
  rw [List.length_append]
  exact txtC_m l
theorem tokS_add (s : List UInt8) : (tokS s).1.length + (tokS s).2.length = s.length := tokS_len s
theorem cutB_add (s : List UInt8) (b : UInt8) : (cutB s b).1.length + (cutB s b).2.1.length ≤ s.length := by
  unfold cutB
  split
  · simp only [List.length_take, List.length_drop]
    omega
  · simp
theorem attrS_m (s : List UInt8) : mP (attrS s).1 + 10 * (attrS s).2.1.length ≤ 8 + 10 * s.length := by
  have h0 := tokS_add s
  unfold attrS closeS
  cases h1 : skipS [61, 34] (tokS s).2 with
  | none =>
    simp only
    cases h2 : skipS [93] (tokS s).2 with
    | none => simp only [mP, mQ, List.length_nil]; omega
    | some r => have := skipS_len h2; simp only [mP, mQ, List.length_nil] at this ⊢; omega
  | some r =>
    have h3 := skipS_len h1
    have h4 := cutB_add r 34
    simp only
    split
    · cases h2 : skipS [93] (cutB r 34).2.1 with
      | none => simp only [mP, mQ, List.length_nil]; omega
      | some r2 => have := skipS_len h2; simp only [mP, mQ, List.length_nil] at this ⊢; omega
    · simp only [mP, mQ, List.length_nil]; omega
theorem headS_m (s : List UInt8) : mQ (headS s).1 + 10 * (headS s).2.length ≤ 10 * s.length := by
  have h0 := tokS_add s
  unfold headS
  cases h1 : skipS [42] s with
  | some r =>
    have := skipS_len h1
    simp only [mP, mQ, List.length_cons, List.length_nil] at this ⊢
    omega
  | none =>
    simp only
    split
    · rw [mQ]; simp only; omega
    · rename_i h
      have : 0 < (tokS s).1.length := List.length_pos_iff.2 h
      simp only [mP, mQ, List.length_nil]
      omega
theorem loopS_m : ∀ (n d : Nat) (out : List SPart) (s : List UInt8) (e : Nat), mQ (loopS n d out s e).1 + 10 * (loopS n d out s e).2.1.length ≤ mQ out + 10 * s.length
  | 0, _, out, s, e => Nat.le_refl _
  | n + 1, d, out, s, e => by
    rw [loopS]
    split
    · exact Nat.le_refl _
    · split
      · rename_i r h1
        have l1 := skipS_len h1
        have l2 := tokS_add r
        refine Nat.le_trans (loopS_m n d _ _ _) ?_
        rw [mQ_app, mQ_one, mP, mQ]
        simp only [List.length_cons, List.length_nil] at l1 ⊢
        omega
      · split
        · rename_i r h1
          have l1 := skipS_len h1
          have l2 := attrS_m r
          refine Nat.le_trans (loopS_m n d _ _ _) ?_
          rw [mQ_app, mQ_one]
          simp only [List.length_cons, List.length_nil] at l1
          omega
        · split
          · rename_i r h1
            have l1 := skipS_len h1
            refine Nat.le_trans (loopS_m n d _ _ _) ?_
            rw [mQ_app, mQ_one, mP, mQ]
            simp only [wFirst, List.length_cons, List.length_nil] at l1 ⊢
            omega
          · split
            · rename_i r h1
              have l1 := skipS_len h1
              refine Nat.le_trans (loopS_m n d _ _ _) ?_
              rw [mQ_app, mQ_one, mP, mQ]
              simp only [wEmpty, List.length_cons, List.length_nil] at l1 ⊢
              omega
            · split
              · rename_i r h1
                have l1 := skipS_len h1
                simp only [wNot, List.length_cons, List.length_nil] at l1
                split
                · refine Nat.le_trans (loopS_m n d _ _ _) ?_
                  rw [mQ_app, mQ_one, mP, mQ]
                  simp only [List.length_nil]
                  omega
                · have l2 := headS_m r
                  have l3 := loopS_m n (d + 1) (headS r).1 (headS r).2 0
                  simp only
                  have e1 : (overS (loopS n (d + 1) (headS r).1 (headS r).2 0)).1 = (loopS n (d + 1) (headS r).1 (headS r).2 0).1 := rfl
                  have e2 : (overS (loopS n (d + 1) (headS r).1 (headS r).2 0)).2.1 = (loopS n (d + 1) (headS r).1 (headS r).2 0).2.1 := rfl
                  rw [e1, e2]
                  split
                  · rename_i q h2
                    have l4 := skipS_len h2
                    refine Nat.le_trans (loopS_m n d _ _ _) ?_
                    rw [mQ_app, mQ_one, mP]
                    simp only [List.length_cons, List.length_nil] at l4 ⊢
                    omega
                  · refine Nat.le_trans (loopS_m n d _ _ _) ?_
                    rw [mQ_app, mQ_one, mP]
                    simp only [List.length_nil]
                    omega
              · exact Nat.le_refl _
theorem compS_m (n d : Nat) (s : List UInt8) : mQ (compS n d s).1 + 10 * (compS n d s).2.1.length ≤ 10 * s.length := by
  have h1 := headS_m s
  have h2 := loopS_m n d (headS s).1 (headS s).2 0
  have e1 : (compS n d s).1 = (loopS n d (headS s).1 (headS s).2 0).1 := rfl
  have e2 : (compS n d s).2.1 = (loopS n d (headS s).1 (headS s).2 0).2.1 := rfl
  rw [e1, e2]
  omega
def mL : List SLink → Nat
  | [] => 0
  | x :: r => mQ x.1 + 4 + mL r
theorem mL_app (a b : List SLink) : mL (a ++ b) = mL a + mL b := by
  induction a with
  | nil => simp [mL]
  | cons p r ih => rw [List.cons_append, mL, mL, ih]; omega
theorem mL_one (x : SLink) : mL [x] = mQ x.1 + 4 := rfl
theorem mL_len : ∀ l : List SLink, l.length ≤ mL l
  | [] => Nat.zero_le _
  | p :: r => by
    have h1 := mL_len r
    rw [mL, List.length_cons]
    omega
theorem mL_mem : ∀ {l : List SLink} {x : SLink}, x ∈ l → mQ x.1 ≤ mL l
  | [], p, h => by cases h
  | q :: r, p, h => by
    rw [mL]
    rcases List.mem_cons.1 h with rfl | h
    · omega
    · have := mL_mem h
      omega
theorem chainS_m : ∀ (n : Nat) (out : List SLink) (s : List UInt8) (e : Nat), mL (chainS n out s e).1 + 14 * (chainS n out s e).2.1.length ≤ mL out + 14 * s.length
  | 0, _, s, _ => Nat.le_refl _
  | n + 1, out, s, e => by
    have hb := blS_len s
    rw [chainS]
    split
    · exact Nat.le_refl _
    · split
      · simp only; omega
      · split
        · rename_i r hr
          have h1 := skipS_len hr
          have h2 := blS_len r
          have h3 := compS_m ((blS r).length + 1) 0 (blS r)
          refine Nat.le_trans (chainS_m n _ _ _) ?_
          rw [mL_app, mL_one]
          simp only [List.length_cons, List.length_nil] at h1 ⊢
          have h4 := (comp_suf ((blS r).length + 1) 0 (blS r)).length_le
          omega
        · split
          · simp only; omega
          · rename_i h0
            have h3 := compS_m ((blS s).length + 1) 0 (blS s)
            refine Nat.le_trans (chainS_m n _ _ _) ?_
            rw [mL_app, mL_one]
            simp only
            have h4 := (comp_suf ((blS s).length + 1) 0 (blS s)).length_le
            omega
theorem firstS_m (n : Nat) (s : List UInt8) : mL (firstS n s).1 + 14 * (firstS n s).2.1.length ≤ 14 * s.length + 4 := by
  have h1 := compS_m (s.length + 1) 0 s
  have h2 := chainS_m n [((compS (s.length + 1) 0 s).1, false)] (compS (s.length + 1) 0 s).2.1 (compS (s.length + 1) 0 s).2.2
  have h4 := (comp_suf (s.length + 1) 0 s).length_le
  rw [mL_one] at h2
  simp only at h2
  unfold firstS
  omega
def mC : List (List SLink) → Nat
  | [] => 0
  | x :: r => mL x + 2 + mC r
theorem mC_app (a b : List (List SLink)) : mC (a ++ b) = mC a + mC b := by
  induction a with
  | nil => simp [mC]
  | cons p r ih => rw [List.cons_append, mC, mC, ih]; omega
theorem mC_len : ∀ l : List (List SLink), l.length ≤ mC l
  | [] => Nat.zero_le _
  | p :: r => by
    have h1 := mC_len r
    rw [mC, List.length_cons]
    omega
theorem mC_mem : ∀ {l : List (List SLink)} {x : List SLink}, x ∈ l → mL x ≤ mC l
  | [], p, h => by cases h
  | q :: r, p, h => by
    rw [mC]
    rcases List.mem_cons.1 h with rfl | h
    · omega
    · have := mC_mem h
      omega
theorem parseS_m : ∀ (n : Nat) (acc : List (List SLink)) (s : List UInt8) (l : List (List SLink)), parseS n acc s = .ok l → mC l ≤ mC acc + 20 * s.length + 6
  | 0, _, _, _, h => by cases h
  | n + 1, acc, s, l, h => by
    have hb := blS_len s
    have h1 := firstS_m (s.length + 2) (blS s)
    rw [parseS] at h
    split at h
    · cases h
    · split at h
      · rename_i r hr
        have h2 := skipS_len hr
        have ih := parseS_m n _ _ _ h
        rw [mC_app] at ih
        simp only [mC, List.length_cons, List.length_nil] at ih h2
        omega
      · injection h with h
        subst h
        rw [mC_app]
        simp only [mC]
        omega
end Go.Proofs.YthjfobafdclafaaDoor

