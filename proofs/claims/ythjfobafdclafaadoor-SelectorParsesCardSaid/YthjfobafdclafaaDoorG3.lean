import Derived.Test.YthjfobafdclafaaDoorG1
import Derived.Test.YthjfobafdclafaaDoorE5
import Derived.Test.YthjfobafdclafaaDoorE6
/- token and name of the reader, walked. -/
namespace Go.Proofs.YthjfobafdclafaaDoor
open Go Go.RowKit
set_option linter.unusedSimpArgs false
set_option linter.unusedVariables false
set_option maxRecDepth 100000
set_option maxHeartbeats 8000000
theorem tokF_call (b : UInt8) (H : Heap) : VCall Tryd.prog 49 [bV b] H (fun x K => x = booV (!sgB b) ∧ K = H) := VCall.bytes mixed 40 (fun b => !sgB b) (by kernel_rfl) b H
def idxZ (s : List UInt8) : Int := if (tokS s).2 = [] then -1 else (tokS s).1.length
theorem tokS_split {s : List UInt8} {i : Nat} {c : UInt8} (h : ∀ x ∈ s.take i, sgB x = true) (hc : s[i]? = some c) (hs : sgB c = false) : tokS s = (s.take i, s.drop i) := by
  obtain ⟨hi, e⟩ := List.getElem?_eq_some_iff.1 hc
  have hd : s.drop i = c :: s.drop (i + 1) := by rw [List.drop_eq_getElem_cons hi, e]
  unfold tokS
  conv => lhs; rw [← List.take_append_drop i s, hd]
  rw [List.takeWhile_append_of_pos h, List.dropWhile_append_of_pos h, List.takeWhile_cons, List.dropWhile_cons, if_neg (by rw [hs]; simp), if_neg (by rw [hs]; simp), List.append_nil, hd]
theorem tokS_all {s : List UInt8} (h : ∀ x ∈ s, sgB x = true) : tokS s = (s, []) := by
  unfold tokS
  have e1 : s.takeWhile sgB = s := by
    have := List.takeWhile_append_of_pos (l₂ := []) h
    simpa using this
  have e2 : s.dropWhile sgB = [] := by
    have := List.dropWhile_append_of_pos (l₂ := []) h
    simpa using this
  rw [e1, e2]
theorem idxF_call (s : List UInt8) (hs : s.length ≤ 100000) (H : Heap) : VCall Tryd.prog 48 [roB s, .fn (.func 49) [] []] H (fun v K => v = iV (idxZ s) ∧ K = H) := by
  refine VCall.pure (by simp [nameless_roB, nameless_fn]) (nameless_sc _) ?_
  refine VCall.go Tryd.func48 rfl ?_
  repeat' (first|with_reducible refine And.intro ?_ ?_|((with_reducible intro hc);(try simp only [zA,zB,zC,zD,zE,zF,zG,zH,zI,zJ,zK,zL,zM,zN,zO,zP,zQ,zR,zS,zT,zU,zV,zW] at hc);(first|exact absurd rfl hc|exact absurd trivial hc|(exfalso;omega)|skip))|exact Is.mk rfl rfl|((conv => whnf);first|with_reducible refine And.intro ?_ ?_|with_reducible intro hx|exact Is.mk rfl rfl|(with_reducible first|apply Val.via|apply ValH.via)|refine ifB_intro ?_ ?_|refine xA (by omega) ?_|(refine xB ?_;intro kw hk1 hk2)|refine xC (by omega) ?_|refine xD ?_|refine xE (by omega) ?_|refine xF (by omega) ?_|refine xG ?_|refine xH ?_|refine xI (by omega) ?_|refine xJ (by omega) ?_|(with_reducible refine stopA ?_)|refine Exists.intro _ (And.intro (by (first|exact vat_of rfl rfl rfl|rfl)) ?_)|refine GOp.drawn (by rfl) (by rfl) (Nat.le_of_ble_eq_true (by rfl)) (by rfl)|refine GOp.via (by rfl) ?_|refine GWP.drawY mixed _ (by kernel_rfl) (by rfl) ?_|fail|(with_reducible first|refine stopO ?_|refine stopE ?_|refine stopD ?_|refine stopW ?_|refine stopG ?_|refine stopC ?_|refine stopR ?_)))
  (refine GWP'.mk (GWP.loopB [] (fun (i : Nat) => i ≤ s.length ∧ ∀ x ∈ s.take i, sgB x = true) (fun i => [(8, iV i)]) (fun i => []) 0 (fun i => s.length - i) 0 ⟨Nat.zero_le _, by simp⟩ ?_); (conv => whnf); refine And.intro ?_ ?_)
  · focus (refine KeptA.of [] rfl rfl (by repeat' (first|exact trivial|refine And.intro rfl ?_)) rfl ?_ ?_;all_goals (repeat' (first|exact trivial|(refine And.intro ?_ ?_)|(refine Exists.intro _ (And.intro rfl ?_))|(refine RenO.opt ?_)|(refine RenO.toOpt ?_)|(refine RenO.cells ?_)|exact RenO.defs|exact RenL.nil|(refine RenL.cons ?_ ?_)|(first|fail|(with_reducible exact RenV.sc)|exact RenV.gsN|exact RenV.gsZ|exact RenV.gsL (by decide)|exact RenV.slL (by decide)|((first|refine RenV.gsE (by (first|exact mhA|exact mhB|exact mhC|(simp;done))) ?_|refine RenV.eq (scI_eq ?_) (nameless_sc _));(first|rfl|omega|(simp only [List.length_append,List.length_cons,List.length_nil,List.length_map,List.length_take,List.length_drop] <;> omega)|(simp only <;> omega)|(simp <;> omega)))|exact RenV.undef)|(with_unfolding_all exact (rfl : (_ : VObj) = _)))))
  rintro i ⟨h1, h2⟩
  by_cases hil : i < s.length
  · obtain ⟨c, hb⟩ : ∃ c, s[i]? = some c := ⟨s[i], List.getElem?_eq_getElem hil⟩
    have k1 := fun H => tokF_call c H
    cases hsc : sgB c with
    | true =>
      rw [hsc] at k1
      have h3 : ∀ x ∈ s.take (i + 1), sgB x = true := by
        obtain ⟨hi, e⟩ := List.getElem?_eq_some_iff.1 hb
        rw [List.take_succ_eq_append_getElem hi, e]
        intro x hx
        rcases List.mem_append.1 hx with hx | hx
        · exact h2 x hx
        · rw [List.mem_singleton.1 hx]; exact hsc
      repeat' (first|with_reducible refine And.intro ?_ ?_|((with_reducible intro hc);(try simp only [zA,zB,zC,zD,zE,zF,zG,zH,zI,zJ,zK,zL,zM,zN,zO,zP,zQ,zR,zS,zT,zU,zV,zW] at hc);(first|exact absurd rfl hc|exact absurd trivial hc|(exfalso;omega)|skip))|exact Is.mk rfl rfl|((conv => whnf);first|with_reducible refine And.intro ?_ ?_|with_reducible intro hx|exact Is.mk rfl rfl|(with_reducible first|apply Val.via|apply ValH.via)|refine ifB_intro ?_ ?_|refine xA (by omega) ?_|(refine xB ?_;intro kw hk1 hk2)|refine xC (by omega) ?_|refine xD ?_|refine xE (by omega) ?_|refine xF (by omega) ?_|refine xG ?_|refine xH ?_|refine xI (by omega) ?_|refine xJ (by omega) ?_|(with_reducible refine stopA ?_)|refine Exists.intro _ (And.intro (by (first|exact vat_of vagg_u8 (map_at hb) (mul1 rfl rfl)|rfl)) ?_)|refine GOp.drawn (by rfl) (by rfl) (Nat.le_of_ble_eq_true (by rfl)) (by rfl)|refine GOp.via (by rfl) ?_|refine GWP.drawY mixed _ (by kernel_rfl) (by rfl) ?_|(refine GCall.mk ((k1 _).mono ?_);rintro _ _ ⟨rfl,rfl⟩)|(with_reducible first|refine stopO ?_|refine stopE ?_|refine stopD ?_|refine stopW ?_|refine stopG ?_|refine stopC ?_|refine stopR ?_)))
      (all_goals (first|omega|(rw [List.length_map];done)|(rw [List.length_map];omega)|contradiction|skip))
      focus (refine Done'.mk ⟨(i + 1),⟨by omega,h3⟩,?_,KeptA.of [] rfl rfl (by repeat' (first|exact trivial|refine And.intro rfl ?_)) rfl ?_ ?_⟩;(first|omega|(simp only;omega));all_goals (repeat' (first|exact trivial|(refine And.intro ?_ ?_)|(refine Exists.intro _ (And.intro rfl ?_))|(refine RenO.opt ?_)|(refine RenO.toOpt ?_)|(refine RenO.cells ?_)|exact RenO.defs|exact RenL.nil|(refine RenL.cons ?_ ?_)|(first|(exact RenV.eq (scI_eq (by omega)) (nameless_sc _))|(with_reducible exact RenV.sc)|exact RenV.gsN|exact RenV.gsZ|exact RenV.gsL (by decide)|exact RenV.slL (by decide)|((first|refine RenV.gsE (by (first|exact mhA|exact mhB|exact mhC|(simp;done))) ?_|refine RenV.eq (scI_eq ?_) (nameless_sc _));(first|rfl|omega|(simp only [List.length_append,List.length_cons,List.length_nil,List.length_map,List.length_take,List.length_drop] <;> omega)|(simp only <;> omega)|(simp <;> omega)))|exact RenV.undef)|(with_unfolding_all exact (rfl : (_ : VObj) = _)))))
    | false =>
      rw [hsc] at k1
      have he := tokS_split h2 hb hsc
      have hz : idxZ s = i := by
        unfold idxZ
        rw [he]
        simp only
        rw [if_neg (fun e => by have := List.length_drop (i := i) (l := s); rw [e] at this; simp only [List.length_nil] at this; omega), List.length_take]
        omega
      repeat' (first|with_reducible refine And.intro ?_ ?_|((with_reducible intro hc);(try simp only [zA,zB,zC,zD,zE,zF,zG,zH,zI,zJ,zK,zL,zM,zN,zO,zP,zQ,zR,zS,zT,zU,zV,zW] at hc);(first|exact absurd rfl hc|exact absurd trivial hc|(exfalso;omega)|skip))|exact Is.mk rfl rfl|((conv => whnf);first|with_reducible refine And.intro ?_ ?_|with_reducible intro hx|exact Is.mk rfl rfl|(with_reducible first|apply Val.via|apply ValH.via)|refine ifB_intro ?_ ?_|refine xA (by omega) ?_|(refine xB ?_;intro kw hk1 hk2)|refine xC (by omega) ?_|refine xD ?_|refine xE (by omega) ?_|refine xF (by omega) ?_|refine xG ?_|refine xH ?_|refine xI (by omega) ?_|refine xJ (by omega) ?_|(with_reducible refine stopA ?_)|refine Exists.intro _ (And.intro (by (first|exact vat_of vagg_u8 (map_at hb) (mul1 rfl rfl)|rfl)) ?_)|refine GOp.drawn (by rfl) (by rfl) (Nat.le_of_ble_eq_true (by rfl)) (by rfl)|refine GOp.via (by rfl) ?_|refine GWP.drawY mixed _ (by kernel_rfl) (by rfl) ?_|(refine GCall.mk ((k1 _).mono ?_);rintro _ _ ⟨rfl,rfl⟩)|(with_reducible first|refine stopO ?_|refine stopE ?_|refine stopD ?_|refine stopW ?_|refine stopG ?_|refine stopC ?_|refine stopR ?_)))
      (all_goals (first|omega|(rw [List.length_map];done)|(rw [List.length_map];omega)|contradiction|skip))
      refine Done'.mk ?_
      rw [hz]
      rfl
  · obtain rfl : i = s.length := by omega
    rw [List.take_length] at h2
    have hz : idxZ s = -1 := by
      unfold idxZ
      rw [tokS_all h2, if_pos rfl]
    rw [hz]
    repeat' (first|with_reducible refine And.intro ?_ ?_|((with_reducible intro hc);(try simp only [zA,zB,zC,zD,zE,zF,zG,zH,zI,zJ,zK,zL,zM,zN,zO,zP,zQ,zR,zS,zT,zU,zV,zW] at hc);(first|exact absurd rfl hc|exact absurd trivial hc|(exfalso;omega)|skip))|exact Is.mk rfl rfl|((conv => whnf);first|with_reducible refine And.intro ?_ ?_|with_reducible intro hx|exact Is.mk rfl rfl|(with_reducible first|apply Val.via|apply ValH.via)|refine ifB_intro ?_ ?_|refine xA (by omega) ?_|(refine xB ?_;intro kw hk1 hk2)|refine xC (by omega) ?_|refine xD ?_|refine xE (by omega) ?_|refine xF (by omega) ?_|refine xG ?_|refine xH ?_|refine xI (by omega) ?_|refine xJ (by omega) ?_|(with_reducible refine stopA ?_)|refine Exists.intro _ (And.intro (by (first|exact vat_of rfl rfl rfl|rfl)) ?_)|refine GOp.drawn (by rfl) (by rfl) (Nat.le_of_ble_eq_true (by rfl)) (by rfl)|refine GOp.via (by rfl) ?_|refine GWP.drawY mixed _ (by kernel_rfl) (by rfl) ?_|fail|(with_reducible first|refine stopO ?_|refine stopE ?_|refine stopD ?_|refine stopW ?_|refine stopG ?_|refine stopC ?_|refine stopR ?_)))
    (all_goals (first|omega|(rw [List.length_map];done)|(rw [List.length_map];omega)|contradiction|skip))
    exact Done'.mk rfl
theorem token_call {t s : List UInt8} (hs : s <:+ t) (ht : t.length ≤ 100000) (d e : Nat) : VCall Tryd.prog 39 [.ptr 1 0] ⟨rdO t s d e, 2⟩ (fun v K => v = .tp [strV (tokS s).1, booV (decide (0 < (tokS s).1.length))] ∧ K = ⟨rdO t (tokS s).2 d e, 2⟩) := by
  refine VCall.rd ?_
  have hsl := hs.length_le
  have k1 : ∀ (H : Heap), H.get 0 = some (.cells true (t.map bV)) → VCall Tryd.prog 48 [restV t.length s, .fn (.func 49) [] []] H (fun v K => v = iV (idxZ s) ∧ K = H) := fun H h0 =>
    VCall.viewed (args' := [roB s, .fn (.func 49) [] []]) (Q := fun v K => v = iV (idxZ s)) (.cons (restV_view hs h0) (.cons (View.of (nameless_fn (by simp) (by simp))) .nil)) ((idxF_call s (by omega) _).mono fun v K h => h.1) (fun v K e => by subst e; exact Frx.of (exact_sc _))
  have hap : (tokS s).1 ++ (tokS s).2 = s := List.takeWhile_append_dropWhile
  have htk : s.take (tokS s).1.length = (tokS s).1 := by
    have := List.take_left (l₁ := (tokS s).1) (l₂ := (tokS s).2)
    rwa [hap] at this
  have hdr : s.drop (tokS s).1.length = (tokS s).2 := by
    have := List.drop_left (l₁ := (tokS s).1) (l₂ := (tokS s).2)
    rwa [hap] at this
  have hln := tokS_len s
  unfold idxZ at k1
  have hfr : ∀ (K : Heap) (x y : VV), x = y → Nameless y → FrzB 2 K x y := fun K x y h hn => by subst h; exact .of hn
  generalize (tokS s).1 = a at *
  generalize (tokS s).2 = b at *
  have hnm : Nameless (.tp [strV a, booV (decide (0 < a.length))]) := nameless_tp (by simp [nameless_strV, booV, nameless_sc])
  cases s with
  | nil =>
    simp only [List.length_nil] at hln
    obtain rfl : a = [] := List.eq_nil_of_length_eq_zero (by omega)
    obtain rfl : b = [] := List.eq_nil_of_length_eq_zero (by omega)
    refine VCall.go Tryd.func39 rfl ?_
    repeat' (first|with_reducible refine And.intro ?_ ?_|((with_reducible intro hc);(try simp only [zA,zB,zC,zD,zE,zF,zG,zH,zI,zJ,zK,zL,zM,zN,zO,zP,zQ,zR,zS,zT,zU,zV,zW] at hc);(first|exact absurd rfl hc|exact absurd trivial hc|(exfalso;omega)|skip))|exact Is.mk rfl rfl|((conv => whnf);first|with_reducible refine And.intro ?_ ?_|with_reducible intro hx|exact Is.mk rfl rfl|(with_reducible first|apply Val.via|apply ValH.via)|refine ifB_intro ?_ ?_|refine xA (by omega) ?_|(refine xB ?_;intro kw hk1 hk2)|refine xC (by omega) ?_|refine xD ?_|refine xE (by omega) ?_|refine xF (by omega) ?_|refine xG ?_|refine xH ?_|refine xI (by omega) ?_|refine xJ (by omega) ?_|(with_reducible refine stopA ?_)|refine Exists.intro _ (And.intro (by (first|exact vat_of rfl rfl rfl|exact vbytes_map []|rfl)) ?_)|refine GOp.drawn (by rfl) (by rfl) (Nat.le_of_ble_eq_true (by rfl)) (by rfl)|refine GOp.via (by rfl) ?_|refine GWP.drawY mixed _ (by kernel_rfl) (by rfl) ?_|(refine GCall.mk ((k1 _ rfl).mono ?_);rintro _ _ ⟨rfl,rfl⟩)|(with_reducible first|refine stopO ?_|refine stopE ?_|refine stopD ?_|refine stopW ?_|refine stopG ?_|refine stopC ?_|refine stopR ?_)))
    (all_goals (first|omega|(rw [List.length_map];done)|(rw [List.length_map];omega)|contradiction|skip))
    · rfl
    exact Done'.mk ⟨hfr _ _ _ rfl hnm, rfl, rfl⟩
  | cons c r =>
    obtain ⟨h1, h2⟩ := suf_drop hs
    simp only [List.length_cons] at h1 h2 hln hsl
    have hvb : ∀ n q, n = a.length → q = t.length - (r.length + 1) → vbytes (((t.map bV).drop q).take n) = some a := fun n q hn hq => by
      subst hn hq
      rw [← List.map_drop, h2, ← List.map_take, htk]
      exact vbytes_map a
    cases b with
    | nil =>
      rw [if_pos rfl] at k1
      simp only [List.length_nil] at hln
      refine VCall.go Tryd.func39 rfl ?_
      repeat' (first|with_reducible refine And.intro ?_ ?_|((with_reducible intro hc);(try simp only [zA,zB,zC,zD,zE,zF,zG,zH,zI,zJ,zK,zL,zM,zN,zO,zP,zQ,zR,zS,zT,zU,zV,zW] at hc);(first|exact absurd rfl hc|exact absurd trivial hc|(exfalso;omega)|skip))|exact Is.mk rfl rfl|((conv => whnf);first|with_reducible refine And.intro ?_ ?_|with_reducible intro hx|exact Is.mk rfl rfl|(with_reducible first|apply Val.via|apply ValH.via)|refine ifB_intro ?_ ?_|refine xA (by omega) ?_|(refine xB ?_;intro kw hk1 hk2)|refine xC (by omega) ?_|refine xD ?_|refine xE (by omega) ?_|refine xF (by omega) ?_|refine xG ?_|refine xH ?_|refine xI (by omega) ?_|refine xJ (by omega) ?_|(with_reducible refine stopA ?_)|refine Exists.intro _ (And.intro (by (first|exact vat_of rfl rfl rfl|rfl)) ?_)|refine GOp.drawn (by rfl) (by rfl) (Nat.le_of_ble_eq_true (by rfl)) (by rfl)|refine GOp.via (by rfl) ?_|refine GWP.drawY mixed _ (by kernel_rfl) (by rfl) ?_|(refine GCall.mk ((k1 _ rfl).mono ?_);rintro _ _ ⟨rfl,rfl⟩)|(with_reducible first|refine stopO ?_|refine stopE ?_|refine stopD ?_|refine stopW ?_|refine stopG ?_|refine stopC ?_|refine stopR ?_)))
      (all_goals (first|omega|(rw [List.length_map];done)|(rw [List.length_map];omega)|contradiction|skip))
      refine GOp'.slQ (l := 0) (h := r.length + 1) rfl Tryd.underlying22 (by kernel_rfl) rfl (vb_h ⟨by omega, by omega⟩) (Nat.zero_le _) ?_
      rintro u (rfl | ⟨_, _, hlt⟩)
      case inr => omega
      repeat' (first|with_reducible refine And.intro ?_ ?_|((with_reducible intro hc);(try simp only [zA,zB,zC,zD,zE,zF,zG,zH,zI,zJ,zK,zL,zM,zN,zO,zP,zQ,zR,zS,zT,zU,zV,zW] at hc);(first|exact absurd rfl hc|exact absurd trivial hc|(exfalso;omega)|skip))|exact Is.mk rfl rfl|((conv => whnf);first|with_reducible refine And.intro ?_ ?_|with_reducible intro hx|exact Is.mk rfl rfl|(with_reducible first|apply Val.via|apply ValH.via)|refine ifB_intro ?_ ?_|refine xA (by omega) ?_|(refine xB ?_;intro kw hk1 hk2)|refine xC (by omega) ?_|refine xD ?_|refine xE (by omega) ?_|refine xF (by omega) ?_|refine xG ?_|refine xH ?_|refine xI (by omega) ?_|refine xJ (by omega) ?_|(with_reducible refine stopA ?_)|refine Exists.intro _ (And.intro (by (first|exact vat_of rfl rfl rfl|exact hvb _ _ (by omega) (by omega)|rfl)) ?_)|refine GOp.drawn (by rfl) (by rfl) (Nat.le_of_ble_eq_true (by rfl)) (by rfl)|refine GOp.via (by rfl) ?_|refine GWP.drawY mixed _ (by kernel_rfl) (by rfl) ?_|fail|(with_reducible first|refine stopO ?_|refine stopE ?_|refine stopD ?_|refine stopW ?_|refine stopG ?_|refine stopC ?_|refine stopR ?_)))
      (all_goals (first|omega|(rw [List.length_map];done)|(rw [List.length_map];omega)|contradiction|skip))
      refine GOp'.slE (l := r.length + 1) rfl Tryd.underlying22 (by kernel_rfl) rfl (vb_l ⟨by omega, by omega⟩) (by omega) ?_
      repeat' (first|with_reducible refine And.intro ?_ ?_|((with_reducible intro hc);(try simp only [zA,zB,zC,zD,zE,zF,zG,zH,zI,zJ,zK,zL,zM,zN,zO,zP,zQ,zR,zS,zT,zU,zV,zW] at hc);(first|exact absurd rfl hc|exact absurd trivial hc|(exfalso;omega)|skip))|exact Is.mk rfl rfl|((conv => whnf);first|with_reducible refine And.intro ?_ ?_|with_reducible intro hx|exact Is.mk rfl rfl|(with_reducible first|apply Val.via|apply ValH.via)|refine ifB_intro ?_ ?_|refine xA (by omega) ?_|(refine xB ?_;intro kw hk1 hk2)|refine xC (by omega) ?_|refine xD ?_|refine xE (by omega) ?_|refine xF (by omega) ?_|refine xG ?_|refine xH ?_|refine xI (by omega) ?_|refine xJ (by omega) ?_|(with_reducible refine stopA ?_)|refine Exists.intro _ (And.intro (by (first|exact vat_of rfl rfl rfl|rfl)) ?_)|refine GOp.drawn (by rfl) (by rfl) (Nat.le_of_ble_eq_true (by rfl)) (by rfl)|refine GOp.via (by rfl) ?_|refine GWP.drawY mixed _ (by kernel_rfl) (by rfl) ?_|fail|(with_reducible first|refine stopO ?_|refine stopE ?_|refine stopD ?_|refine stopW ?_|refine stopG ?_|refine stopC ?_|refine stopR ?_)))
      (all_goals (first|omega|(rw [List.length_map];done)|(rw [List.length_map];omega)|contradiction|skip))
      refine Done'.mk ⟨hfr _ _ _ (congrArg (fun b => VV.tp [strV a, booV b]) ?_) hnm, rfl, rfl⟩
      rw [ltZ_eq, Bool.eq_iff_iff, decide_eq_true_iff, decide_eq_true_iff]
      omega
    | cons c2 r2 =>
      rw [if_neg (by simp)] at k1
      simp only [List.length_cons] at hln
      have hdv : VV.sl 0 (t.length - (r.length + 1) + a.length) (r.length + 1 - a.length) none 1 = restV t.length (c2 :: r2) := restV_sl (by simp only [List.length_cons]; omega) (by omega) (by omega)
      refine VCall.go Tryd.func39 rfl ?_
      repeat' (first|with_reducible refine And.intro ?_ ?_|((with_reducible intro hc);(try simp only [zA,zB,zC,zD,zE,zF,zG,zH,zI,zJ,zK,zL,zM,zN,zO,zP,zQ,zR,zS,zT,zU,zV,zW] at hc);(first|exact absurd rfl hc|exact absurd trivial hc|(exfalso;omega)|skip))|exact Is.mk rfl rfl|((conv => whnf);first|with_reducible refine And.intro ?_ ?_|with_reducible intro hx|exact Is.mk rfl rfl|(with_reducible first|apply Val.via|apply ValH.via)|refine ifB_intro ?_ ?_|refine xA (by omega) ?_|(refine xB ?_;intro kw hk1 hk2)|refine xC (by omega) ?_|refine xD ?_|refine xE (by omega) ?_|refine xF (by omega) ?_|refine xG ?_|refine xH ?_|refine xI (by omega) ?_|refine xJ (by omega) ?_|(with_reducible refine stopA ?_)|refine Exists.intro _ (And.intro (by (first|exact vat_of rfl rfl rfl|rfl)) ?_)|refine GOp.drawn (by rfl) (by rfl) (Nat.le_of_ble_eq_true (by rfl)) (by rfl)|refine GOp.via (by rfl) ?_|refine GWP.drawY mixed _ (by kernel_rfl) (by rfl) ?_|(refine GCall.mk ((k1 _ rfl).mono ?_);rintro _ _ ⟨rfl,rfl⟩)|(with_reducible first|refine stopO ?_|refine stopE ?_|refine stopD ?_|refine stopW ?_|refine stopG ?_|refine stopC ?_|refine stopR ?_)))
      (all_goals (first|omega|(rw [List.length_map];done)|(rw [List.length_map];omega)|contradiction|skip))
      refine GOp'.slQ (l := 0) (h := a.length) rfl Tryd.underlying22 (by kernel_rfl) rfl ((vb_h ⟨by omega, by omega⟩).trans (by rw [Int.toNat_natCast])) (Nat.zero_le _) ?_
      rintro u (rfl | ⟨_, _, hlt⟩)
      case inr => omega
      repeat' (first|with_reducible refine And.intro ?_ ?_|((with_reducible intro hc);(try simp only [zA,zB,zC,zD,zE,zF,zG,zH,zI,zJ,zK,zL,zM,zN,zO,zP,zQ,zR,zS,zT,zU,zV,zW] at hc);(first|exact absurd rfl hc|exact absurd trivial hc|(exfalso;omega)|skip))|exact Is.mk rfl rfl|((conv => whnf);first|with_reducible refine And.intro ?_ ?_|with_reducible intro hx|exact Is.mk rfl rfl|(with_reducible first|apply Val.via|apply ValH.via)|refine ifB_intro ?_ ?_|refine xA (by omega) ?_|(refine xB ?_;intro kw hk1 hk2)|refine xC (by omega) ?_|refine xD ?_|refine xE (by omega) ?_|refine xF (by omega) ?_|refine xG ?_|refine xH ?_|refine xI (by omega) ?_|refine xJ (by omega) ?_|(with_reducible refine stopA ?_)|refine Exists.intro _ (And.intro (by (first|exact vat_of rfl rfl rfl|exact hvb _ _ (by omega) (by omega)|rfl)) ?_)|refine GOp.drawn (by rfl) (by rfl) (Nat.le_of_ble_eq_true (by rfl)) (by rfl)|refine GOp.via (by rfl) ?_|refine GWP.drawY mixed _ (by kernel_rfl) (by rfl) ?_|fail|(with_reducible first|refine stopO ?_|refine stopE ?_|refine stopD ?_|refine stopW ?_|refine stopG ?_|refine stopC ?_|refine stopR ?_)))
      (all_goals (first|omega|(rw [List.length_map];done)|(rw [List.length_map];omega)|contradiction|skip))
      refine GOp'.slQ (l := a.length) (h := r.length + 1) rfl Tryd.underlying22 (by kernel_rfl) rfl ((vb_l ⟨by omega, by omega⟩).trans (by rw [Int.toNat_natCast])) (by omega) ?_
      rintro u (rfl | ⟨_, hlt, _⟩)
      case inr => omega
      repeat' (first|with_reducible refine And.intro ?_ ?_|((with_reducible intro hc);(try simp only [zA,zB,zC,zD,zE,zF,zG,zH,zI,zJ,zK,zL,zM,zN,zO,zP,zQ,zR,zS,zT,zU,zV,zW] at hc);(first|exact absurd rfl hc|exact absurd trivial hc|(exfalso;omega)|skip))|exact Is.mk rfl rfl|((conv => whnf);first|with_reducible refine And.intro ?_ ?_|with_reducible intro hx|exact Is.mk rfl rfl|(with_reducible first|apply Val.via|apply ValH.via)|refine ifB_intro ?_ ?_|refine xA (by omega) ?_|(refine xB ?_;intro kw hk1 hk2)|refine xC (by omega) ?_|refine xD ?_|refine xE (by omega) ?_|refine xF (by omega) ?_|refine xG ?_|refine xH ?_|refine xI (by omega) ?_|refine xJ (by omega) ?_|(with_reducible refine stopA ?_)|refine Exists.intro _ (And.intro (by (first|exact vat_of rfl rfl rfl|rfl)) ?_)|refine GOp.drawn (by rfl) (by rfl) (Nat.le_of_ble_eq_true (by rfl)) (by rfl)|refine GOp.via (by rfl) ?_|refine GWP.drawY mixed _ (by kernel_rfl) (by rfl) ?_|fail|(with_reducible first|refine stopO ?_|refine stopE ?_|refine stopD ?_|refine stopW ?_|refine stopG ?_|refine stopC ?_|refine stopR ?_)))
      (all_goals (first|omega|(rw [List.length_map];done)|(rw [List.length_map];omega)|contradiction|skip))
      refine Done'.mk ⟨hfr _ _ _ (congrArg (fun b => VV.tp [strV a, booV b]) ?_) hnm, congrArg (fun x => some (VObj.cells true [x, iV d, iV e])) hdv, rfl⟩
      rw [ltZ_eq, Bool.eq_iff_iff, decide_eq_true_iff, decide_eq_true_iff]
      omega
theorem tokS_suf {t s : List UInt8} (h : s <:+ t) : (tokS s).2 <:+ t := (List.dropWhile_suffix sgB).trans h
theorem name_call {t s : List UInt8} (hs : s <:+ t) (ht : t.length ≤ 100000) (d e : Nat) : VCall Tryd.prog 51 [.ptr 1 0] ⟨rdO t s d e, 2⟩ (fun v K => v = strV (tokS s).1 ∧ K = ⟨rdO t (tokS s).2 d (if (tokS s).1 = [] then failS e 2 else e), 2⟩) := by
  refine VCall.rd ?_
  have k1 := token_call hs ht d e
  have k2 := fun r => fail_call t r d e 2
  have hnm : ∀ (K : Heap) (x : List UInt8), FrzB 2 K (strV x) (strV x) := fun K x => .of (nameless_strV x)
  generalize (tokS s).1 = a at *
  generalize (tokS s).2 = b at *
  refine VCall.go Tryd.func51 rfl ?_
  cases a with
  | nil =>
    rw [if_pos rfl]
    repeat' (first|with_reducible refine And.intro ?_ ?_|((with_reducible intro hc);(try simp only [zA,zB,zC,zD,zE,zF,zG,zH,zI,zJ,zK,zL,zM,zN,zO,zP,zQ,zR,zS,zT,zU,zV,zW] at hc);(first|exact absurd rfl hc|exact absurd trivial hc|(exfalso;omega)|skip))|exact Is.mk rfl rfl|((conv => whnf);first|with_reducible refine And.intro ?_ ?_|with_reducible intro hx|exact Is.mk rfl rfl|(with_reducible first|apply Val.via|apply ValH.via)|refine ifB_intro ?_ ?_|refine xA (by omega) ?_|(refine xB ?_;intro kw hk1 hk2)|refine xC (by omega) ?_|refine xD ?_|refine xE (by omega) ?_|refine xF (by omega) ?_|refine xG ?_|refine xH ?_|refine xI (by omega) ?_|refine xJ (by omega) ?_|(with_reducible refine stopA ?_)|refine Exists.intro _ (And.intro (by (first|exact vat_of rfl rfl rfl|rfl)) ?_)|refine GOp.drawn (by rfl) (by rfl) (Nat.le_of_ble_eq_true (by rfl)) (by rfl)|refine GOp.via (by rfl) ?_|refine GWP.drawY mixed _ (by kernel_rfl) (by rfl) ?_|(first|(refine GCall.mk ((k1).mono ?_);rintro _ _ ⟨rfl,rfl⟩)|(refine GCall.mk ((k2 _).mono ?_);rintro _ _ ⟨rfl,rfl⟩))|(with_reducible first|refine stopO ?_|refine stopE ?_|refine stopD ?_|refine stopW ?_|refine stopG ?_|refine stopC ?_|refine stopR ?_)))
    (all_goals (first|omega|(rw [List.length_map];done)|(rw [List.length_map];omega)|contradiction|skip))
    exact Done'.mk ⟨hnm _ _, rfl, rfl⟩
  | cons c r =>
    rw [if_neg (by simp)]
    rw [show decide (0 < (c :: r).length) = true by simp] at k1
    repeat' (first|with_reducible refine And.intro ?_ ?_|((with_reducible intro hc);(try simp only [zA,zB,zC,zD,zE,zF,zG,zH,zI,zJ,zK,zL,zM,zN,zO,zP,zQ,zR,zS,zT,zU,zV,zW] at hc);(first|exact absurd rfl hc|exact absurd trivial hc|(exfalso;omega)|skip))|exact Is.mk rfl rfl|((conv => whnf);first|with_reducible refine And.intro ?_ ?_|with_reducible intro hx|exact Is.mk rfl rfl|(with_reducible first|apply Val.via|apply ValH.via)|refine ifB_intro ?_ ?_|refine xA (by omega) ?_|(refine xB ?_;intro kw hk1 hk2)|refine xC (by omega) ?_|refine xD ?_|refine xE (by omega) ?_|refine xF (by omega) ?_|refine xG ?_|refine xH ?_|refine xI (by omega) ?_|refine xJ (by omega) ?_|(with_reducible refine stopA ?_)|refine Exists.intro _ (And.intro (by (first|exact vat_of rfl rfl rfl|rfl)) ?_)|refine GOp.drawn (by rfl) (by rfl) (Nat.le_of_ble_eq_true (by rfl)) (by rfl)|refine GOp.via (by rfl) ?_|refine GWP.drawY mixed _ (by kernel_rfl) (by rfl) ?_|(first|(refine GCall.mk ((k1).mono ?_);rintro _ _ ⟨rfl,rfl⟩)|(refine GCall.mk ((k2 _).mono ?_);rintro _ _ ⟨rfl,rfl⟩))|(with_reducible first|refine stopO ?_|refine stopE ?_|refine stopD ?_|refine stopW ?_|refine stopG ?_|refine stopC ?_|refine stopR ?_)))
    (all_goals (first|omega|(rw [List.length_map];done)|(rw [List.length_map];omega)|contradiction|skip))
    exact Done'.mk ⟨hnm _ _, rfl, rfl⟩
end Go.Proofs.YthjfobafdclafaaDoor

/- The document's small functions over texts: begins, token, blanks. -/
namespace Go.Proofs.YthjfobafdclafaaDoor
open Go Go.RowKit
set_option linter.unusedSimpArgs false
set_option linter.unusedVariables false
set_option maxRecDepth 100000
set_option maxHeartbeats 8000000
def letA : List UInt8 := [97, 98, 99, 100, 101, 102, 103, 104, 105, 106, 107, 108, 109, 110, 111, 112, 113, 114, 115, 116, 117, 118, 119, 120, 121, 122]
def letC : List UInt8 := [65, 66, 67, 68, 69, 70, 71, 72, 73, 74, 75, 76, 77, 78, 79, 80, 81, 82, 83, 84, 85, 86, 87, 88, 89, 90]
theorem letA_eq : ∀ b : UInt8, letA.contains b = decide (97 ≤ b.toNat ∧ b.toNat ≤ 122) := by
  have h : ((List.range 256).all fun k => letA.contains (UInt8.ofNat k) == decide (97 ≤ (UInt8.ofNat k).toNat ∧ (UInt8.ofNat k).toNat ≤ 122)) = true := by decide +kernel
  intro b
  have hb := List.all_eq_true.1 h b.toNat (List.mem_range.2 (u8_lt b))
  rw [UInt8.ofNat_toNat] at hb
  exact eq_of_beq hb
theorem letC_eq : ∀ b : UInt8, letC.contains b = decide (65 ≤ b.toNat ∧ b.toNat ≤ 90) := by
  have h : ((List.range 256).all fun k => letC.contains (UInt8.ofNat k) == decide (65 ≤ (UInt8.ofNat k).toNat ∧ (UInt8.ofNat k).toNat ≤ 90)) = true := by decide +kernel
  intro b
  have hb := List.all_eq_true.1 h b.toNat (List.mem_range.2 (u8_lt b))
  rw [UInt8.ofNat_toNat] at hb
  exact eq_of_beq hb
theorem let31_call (b : UInt8) (H : Heap) : VCall Tryd.prog 55 [bV b] H (fun x K => x = booV (letA.contains b || letC.contains b) ∧ K = H) := by
  refine VCall.pure (by simp [nameless_bV]) (nameless_sc _) ?_
  cases h1 : letA.contains b with
  | true =>
    have k1 := fun H => in_call b letA H (by decide)
    rw [h1] at k1
    refine VCall.go Tryd.func55 rfl ?_
    repeat' (first|with_reducible refine And.intro ?_ ?_|((with_reducible intro hc);(try simp only [zA,zB,zC,zD,zE,zF,zG,zH,zI,zJ,zK,zL,zM,zN,zO,zP,zQ,zR,zS,zT,zU,zV,zW] at hc);(first|exact absurd rfl hc|exact absurd trivial hc|(exfalso;omega)|skip))|exact Is.mk rfl rfl|((conv => whnf);first|with_reducible refine And.intro ?_ ?_|with_reducible intro hx|exact Is.mk rfl rfl|(with_reducible first|apply Val.via|apply ValH.via)|refine ifB_intro ?_ ?_|refine xA (by omega) ?_|(refine xB ?_;intro kw hk1 hk2)|refine xC (by omega) ?_|refine xD ?_|refine xE (by omega) ?_|refine xF (by omega) ?_|refine xG ?_|refine xH ?_|refine xI (by omega) ?_|refine xJ (by omega) ?_|(with_reducible refine stopA ?_)|refine Exists.intro _ (And.intro (by rfl) ?_)|refine GOp.drawn (by rfl) (by rfl) (Nat.le_of_ble_eq_true (by rfl)) (by rfl)|refine GOp.via (by rfl) ?_|refine GWP.drawY mixed _ (by kernel_rfl) (by rfl) ?_|(refine GCall.mk ((k1 _).mono ?_);rintro _ _ ⟨rfl,rfl⟩)|(with_reducible first|refine stopO ?_|refine stopE ?_|refine stopD ?_|refine stopW ?_|refine stopG ?_|refine stopC ?_|refine stopR ?_)))
    exact Done'.mk rfl
  | false =>
    have k1 := fun H => in_call b letA H (by decide)
    have k2 := fun H => in_call b letC H (by decide)
    rw [h1] at k1
    refine VCall.go Tryd.func55 rfl ?_
    repeat' (first|with_reducible refine And.intro ?_ ?_|((with_reducible intro hc);(try simp only [zA,zB,zC,zD,zE,zF,zG,zH,zI,zJ,zK,zL,zM,zN,zO,zP,zQ,zR,zS,zT,zU,zV,zW] at hc);(first|exact absurd rfl hc|exact absurd trivial hc|(exfalso;omega)|skip))|exact Is.mk rfl rfl|((conv => whnf);first|with_reducible refine And.intro ?_ ?_|with_reducible intro hx|exact Is.mk rfl rfl|(with_reducible first|apply Val.via|apply ValH.via)|refine ifB_intro ?_ ?_|refine xA (by omega) ?_|(refine xB ?_;intro kw hk1 hk2)|refine xC (by omega) ?_|refine xD ?_|refine xE (by omega) ?_|refine xF (by omega) ?_|refine xG ?_|refine xH ?_|refine xI (by omega) ?_|refine xJ (by omega) ?_|(with_reducible refine stopA ?_)|refine Exists.intro _ (And.intro (by rfl) ?_)|refine GOp.drawn (by rfl) (by rfl) (Nat.le_of_ble_eq_true (by rfl)) (by rfl)|refine GOp.via (by rfl) ?_|refine GWP.drawY mixed _ (by kernel_rfl) (by rfl) ?_|(first|(refine GCall.mk ((k1 _).mono ?_);rintro _ _ ⟨rfl,rfl⟩)|(refine GCall.mk ((k2 _).mono ?_);rintro _ _ ⟨rfl,rfl⟩))|(with_reducible first|refine stopO ?_|refine stopE ?_|refine stopD ?_|refine stopW ?_|refine stopG ?_|refine stopC ?_|refine stopR ?_)))
    exact Done'.mk rfl
theorem sgB_eq (b : UInt8) : sgB b = (letA.contains b || letC.contains b || decide (48 ≤ b.toNat ∧ b.toNat ≤ 57) || b == 45 || b == 95) := by
  rw [letA_eq, letC_eq]
  rfl
theorem sign31_call (b : UInt8) (H : Heap) : VCall Tryd.prog 42 [bV b] H (fun x K => x = booV (sgB b) ∧ K = H) := by
  refine VCall.pure (by simp [nameless_bV]) (nameless_sc _) ?_
  rw [sgB_eq]
  have k1 := let31_call b
  have k2 := ndigit_call b
  have e45 : ((b.toNat : Int) = 45) ↔ b = 45 := by rw [← UInt8.toNat_inj]; exact Int.ofNat_inj
  have e95 : ((b.toNat : Int) = 95) ↔ b = 95 := by rw [← UInt8.toNat_inj]; exact Int.ofNat_inj
  cases h1 : (letA.contains b || letC.contains b) with
  | true =>
    rw [h1] at k1
    refine VCall.go Tryd.func42 rfl ?_
    repeat' (first|with_reducible refine And.intro ?_ ?_|((with_reducible intro hc);(try simp only [zA,zB,zC,zD,zE,zF,zG,zH,zI,zJ,zK,zL,zM,zN,zO,zP,zQ,zR,zS,zT,zU,zV,zW] at hc);(first|exact absurd rfl hc|exact absurd trivial hc|(exfalso;omega)|skip))|exact Is.mk rfl rfl|((conv => whnf);first|with_reducible refine And.intro ?_ ?_|with_reducible intro hx|exact Is.mk rfl rfl|(with_reducible first|apply Val.via|apply ValH.via)|refine ifB_intro ?_ ?_|refine xA (by omega) ?_|(refine xB ?_;intro kw hk1 hk2)|refine xC (by omega) ?_|refine xD ?_|refine xE (by omega) ?_|refine xF (by omega) ?_|refine xG ?_|refine xH ?_|refine xI (by omega) ?_|refine xJ (by omega) ?_|(with_reducible refine stopA ?_)|refine Exists.intro _ (And.intro (by rfl) ?_)|refine GOp.drawn (by rfl) (by rfl) (Nat.le_of_ble_eq_true (by rfl)) (by rfl)|refine GOp.via (by rfl) ?_|refine GWP.drawY mixed _ (by kernel_rfl) (by rfl) ?_|(refine GCall.mk ((k1 _).mono ?_);rintro _ _ ⟨rfl,rfl⟩)|(with_reducible first|refine stopO ?_|refine stopE ?_|refine stopD ?_|refine stopW ?_|refine stopG ?_|refine stopC ?_|refine stopR ?_)))
    exact Done'.mk rfl
  | false =>
    rw [h1] at k1
    cases h2 : decide (48 ≤ b.toNat ∧ b.toNat ≤ 57) with
    | true =>
      rw [h2] at k2
      refine VCall.go Tryd.func42 rfl ?_
      repeat' (first|with_reducible refine And.intro ?_ ?_|((with_reducible intro hc);(try simp only [zA,zB,zC,zD,zE,zF,zG,zH,zI,zJ,zK,zL,zM,zN,zO,zP,zQ,zR,zS,zT,zU,zV,zW] at hc);(first|exact absurd rfl hc|exact absurd trivial hc|(exfalso;omega)|skip))|exact Is.mk rfl rfl|((conv => whnf);first|with_reducible refine And.intro ?_ ?_|with_reducible intro hx|exact Is.mk rfl rfl|(with_reducible first|apply Val.via|apply ValH.via)|refine ifB_intro ?_ ?_|refine xA (by omega) ?_|(refine xB ?_;intro kw hk1 hk2)|refine xC (by omega) ?_|refine xD ?_|refine xE (by omega) ?_|refine xF (by omega) ?_|refine xG ?_|refine xH ?_|refine xI (by omega) ?_|refine xJ (by omega) ?_|(with_reducible refine stopA ?_)|refine Exists.intro _ (And.intro (by rfl) ?_)|refine GOp.drawn (by rfl) (by rfl) (Nat.le_of_ble_eq_true (by rfl)) (by rfl)|refine GOp.via (by rfl) ?_|refine GWP.drawY mixed _ (by kernel_rfl) (by rfl) ?_|(first|(refine GCall.mk ((k1 _).mono ?_);rintro _ _ ⟨rfl,rfl⟩)|(refine GCall.mk ((k2 _).mono ?_);rintro _ _ ⟨rfl,rfl⟩))|(with_reducible first|refine stopO ?_|refine stopE ?_|refine stopD ?_|refine stopW ?_|refine stopG ?_|refine stopC ?_|refine stopR ?_)))
      exact Done'.mk rfl
    | false =>
      rw [h2] at k2
      refine VCall.go Tryd.func42 rfl ?_
      repeat' (first|with_reducible refine And.intro ?_ ?_|((with_reducible intro hc);(try simp only [zA,zB,zC,zD,zE,zF,zG,zH,zI,zJ,zK,zL,zM,zN,zO,zP,zQ,zR,zS,zT,zU,zV,zW] at hc);(first|exact absurd rfl hc|exact absurd trivial hc|(exfalso;omega)|skip))|exact Is.mk rfl rfl|((conv => whnf);first|with_reducible refine And.intro ?_ ?_|with_reducible intro hx|exact Is.mk rfl rfl|(with_reducible first|apply Val.via|apply ValH.via)|refine ifB_intro ?_ ?_|refine xA (by omega) ?_|(refine xB ?_;intro kw hk1 hk2)|refine xC (by omega) ?_|refine xD ?_|refine xE (by omega) ?_|refine xF (by omega) ?_|refine xG ?_|refine xH ?_|refine xI (by omega) ?_|refine xJ (by omega) ?_|(with_reducible refine stopA ?_)|refine Exists.intro _ (And.intro (by rfl) ?_)|refine GOp.drawn (by rfl) (by rfl) (Nat.le_of_ble_eq_true (by rfl)) (by rfl)|refine GOp.via (by rfl) ?_|refine GWP.drawY mixed _ (by kernel_rfl) (by rfl) ?_|(first|(refine GCall.mk ((k1 _).mono ?_);rintro _ _ ⟨rfl,rfl⟩)|(refine GCall.mk ((k2 _).mono ?_);rintro _ _ ⟨rfl,rfl⟩))|(with_reducible first|refine stopO ?_|refine stopE ?_|refine stopD ?_|refine stopW ?_|refine stopG ?_|refine stopC ?_|refine stopR ?_)))
      · exact Done'.mk (by have := e45.1 hc; subst this; rfl)
      · have e1 : (b == 45) = false := beq_eq_false_iff_ne.2 fun e => hc (e45.2 e)
        rw [e1]
        refine Done'.mk (congrArg booV ?_)
        rw [Bool.eq_iff_iff]
        simp only [eqZ_eq, decide_eq_true_eq, Bool.or_false, Bool.false_or, beq_iff_eq]
        exact e95
theorem blank31_call (b : UInt8) (H : Heap) : VCall Tryd.prog 28 [bV b] H (fun x K => x = booV (blB b) ∧ K = H) := VCall.bytes mixed 60 blB (by kernel_rfl) b H
theorem tp2_eq {a b c d : VV} (h : a = c) (g : b = d) : VV.tp [a, b] = .tp [c, d] := by rw [h, g]
theorem szS (l : List UInt8) : (⟨l.toArray⟩ : ByteArray).size = l.length := by simp [ByteArray.size]
theorem skip_iff {p s : List UInt8} : (skipS p s).isSome = decide (p.length ≤ s.length ∧ s.take p.length = p) := by
  unfold skipS
  split
  · rename_i h
    have := List.isPrefixOf_iff_prefix.1 h
    rw [Bool.eq_iff_iff]
    simp only [Option.isSome_some, decide_eq_true_eq, true_iff]
    exact ⟨this.length_le, (List.prefix_iff_eq_take.1 this).symm⟩
  · rename_i h
    rw [Bool.eq_iff_iff]
    simp only [Option.isSome_none, decide_eq_true_eq, Bool.false_eq_true, false_iff]
    rintro ⟨h1, h2⟩
    exact h (List.isPrefixOf_iff_prefix.2 (List.prefix_iff_eq_take.2 h2.symm))
theorem begins_call (s p : List UInt8) (H : Heap) (hs : s.length ≤ 1000000) (hp : p.length ≤ 1000000) : VCall Tryd.prog 29 [strV s, strV p] H (fun v K => v = booV (skipS p s).isSome ∧ K = H) := by
  refine VCall.pure (by simp [nameless_strV]) (nameless_sc _) ?_
  have h1 := szS s
  have h2 := szS p
  rw [skip_iff]
  refine VCall.go Tryd.func29 rfl ?_
  repeat' (first|with_reducible refine And.intro ?_ ?_|((with_reducible intro hc);(try simp only [zA,zB,zC,zD,zE,zF,zG,zH,zI,zJ,zK,zL,zM,zN,zO,zP,zQ,zR,zS,zT,zU,zV,zW] at hc);(first|exact absurd rfl hc|exact absurd trivial hc|(exfalso;omega)|skip))|exact Is.mk rfl rfl|((conv => whnf);first|with_reducible refine And.intro ?_ ?_|with_reducible intro hx|exact Is.mk rfl rfl|(with_reducible first|apply Val.via|apply ValH.via)|refine ifB_intro ?_ ?_|refine xA (by omega) ?_|(refine xB ?_;intro kw hk1 hk2)|refine xC (by omega) ?_|refine xD ?_|refine xE (by omega) ?_|refine xF (by omega) ?_|refine xG ?_|refine xH ?_|refine xI (by omega) ?_|refine xJ (by omega) ?_|(with_reducible refine stopA ?_)|refine Exists.intro _ (And.intro (by (first|exact vat_of rfl rfl rfl|exact hci|rfl)) ?_)|refine GOp.drawn (by rfl) (by rfl) (Nat.le_of_ble_eq_true (by rfl)) (by rfl)|refine GOp.via (by rfl) ?_|refine GWP.drawY mixed _ (by kernel_rfl) (by rfl) ?_|fail|(with_reducible first|refine stopO ?_|refine stopE ?_|refine stopD ?_|refine stopW ?_|refine stopG ?_|refine stopC ?_|refine stopR ?_)))
  (all_goals (first|omega|contradiction|(rw [szS];simp only [List.length_cons];omega)|skip))
  · refine Done'.mk (congrArg booV ?_)
    rw [ext_str, Int.toNat_natCast, szS]
    simp only [List.drop_zero, Nat.sub_zero, List.toList_toArray]
    rw [Bool.eq_iff_iff, beq_iff_eq, decide_eq_true_iff]
    exact ⟨fun h => ⟨by omega, h⟩, And.right⟩
  · refine Done'.mk (congrArg booV (Eq.symm (decide_eq_false fun h => ?_)))
    omega
theorem token31_call (s : List UInt8) (H : Heap) (hs : s.length ≤ 1000000) : VCall Tryd.prog 30 [strV s] H (fun v K => v = .tp [strV (tokS s).1, strV (tokS s).2] ∧ K = H) := by
  refine VCall.pure (by simp [nameless_strV]) (nameless_tp (by simp [nameless_strV])) ?_
  have hsz := szS s
  refine VCall.go Tryd.func30 rfl ?_
  repeat' (first|with_reducible refine And.intro ?_ ?_|((with_reducible intro hc);(try simp only [zA,zB,zC,zD,zE,zF,zG,zH,zI,zJ,zK,zL,zM,zN,zO,zP,zQ,zR,zS,zT,zU,zV,zW] at hc);(first|exact absurd rfl hc|exact absurd trivial hc|(exfalso;omega)|skip))|exact Is.mk rfl rfl|((conv => whnf);first|with_reducible refine And.intro ?_ ?_|with_reducible intro hx|exact Is.mk rfl rfl|(with_reducible first|apply Val.via|apply ValH.via)|refine ifB_intro ?_ ?_|refine xA (by omega) ?_|(refine xB ?_;intro kw hk1 hk2)|refine xC (by omega) ?_|refine xD ?_|refine xE (by omega) ?_|refine xF (by omega) ?_|refine xG ?_|refine xH ?_|refine xI (by omega) ?_|refine xJ (by omega) ?_|(with_reducible refine stopA ?_)|refine Exists.intro _ (And.intro (by (first|exact vat_of rfl rfl rfl|exact hci|rfl)) ?_)|refine GOp.drawn (by rfl) (by rfl) (Nat.le_of_ble_eq_true (by rfl)) (by rfl)|refine GOp.via (by rfl) ?_|refine GWP.drawY mixed _ (by kernel_rfl) (by rfl) ?_|fail|(with_reducible first|refine stopO ?_|refine stopE ?_|refine stopD ?_|refine stopW ?_|refine stopG ?_|refine stopC ?_|refine stopR ?_)))
  (all_goals (first|omega|contradiction|(rw [szS];simp only [List.length_cons];omega)|skip))
  (refine GWP'.mk (GWP.loopB [] (fun (i : Nat) => i ≤ s.length ∧ ∀ x ∈ s.take i, sgB x = true) (fun i => [(4, iV i)]) (fun i => []) 0 (fun i => s.length - i) 0 ⟨Nat.zero_le _, by simp⟩ ?_); (conv => whnf); refine And.intro ?_ ?_)
  · focus (refine KeptA.of [] rfl rfl (by repeat' (first|exact trivial|refine And.intro rfl ?_)) rfl ?_ ?_;all_goals (repeat' (first|exact trivial|(refine And.intro ?_ ?_)|(refine Exists.intro _ (And.intro rfl ?_))|(refine RenO.opt ?_)|(refine RenO.toOpt ?_)|(refine RenO.cells ?_)|exact RenO.defs|exact RenL.nil|(refine RenL.cons ?_ ?_)|(first|fail|(with_reducible exact RenV.sc)|exact RenV.gsN|exact RenV.gsZ|exact RenV.gsL (by decide)|exact RenV.slL (by decide)|((first|refine RenV.gsE (by (first|exact mhA|exact mhB|exact mhC|(simp;done))) ?_|refine RenV.eq (scI_eq ?_) (nameless_sc _));(first|rfl|omega|(simp only [List.length_append,List.length_cons,List.length_nil,List.length_map,List.length_take,List.length_drop] <;> omega)|(simp only <;> omega)|(simp <;> omega)))|exact RenV.undef)|(with_unfolding_all exact (rfl : (_ : VObj) = _)))))
  rintro i ⟨h1, h2⟩
  simp only at h1 h2 ⊢
  by_cases hil : i < s.length
  · obtain ⟨c, hci⟩ : ∃ c, s[i]? = some c := ⟨_, List.getElem?_eq_getElem hil⟩
    have ks := sign31_call c
    cases hcs : sgB c with
    | true =>
      rw [hcs] at ks
      repeat' (first|with_reducible refine And.intro ?_ ?_|((with_reducible intro hc);(try simp only [zA,zB,zC,zD,zE,zF,zG,zH,zI,zJ,zK,zL,zM,zN,zO,zP,zQ,zR,zS,zT,zU,zV,zW] at hc);(first|exact absurd rfl hc|exact absurd trivial hc|(exfalso;omega)|skip))|exact Is.mk rfl rfl|((conv => whnf);first|with_reducible refine And.intro ?_ ?_|with_reducible intro hx|exact Is.mk rfl rfl|(with_reducible first|apply Val.via|apply ValH.via)|refine ifB_intro ?_ ?_|refine xA (by omega) ?_|(refine xB ?_;intro kw hk1 hk2)|refine xC (by omega) ?_|refine xD ?_|refine xE (by omega) ?_|refine xF (by omega) ?_|refine xG ?_|refine xH ?_|refine xI (by omega) ?_|refine xJ (by omega) ?_|(with_reducible refine stopA ?_)|refine Exists.intro _ (And.intro (by (first|exact vat_of rfl rfl rfl|exact hci|rfl)) ?_)|refine GOp.drawn (by rfl) (by rfl) (Nat.le_of_ble_eq_true (by rfl)) (by rfl)|refine GOp.via (by rfl) ?_|refine GWP.drawY mixed _ (by kernel_rfl) (by rfl) ?_|(refine GCall.mk ((ks _).mono ?_);rintro _ _ ⟨rfl,rfl⟩)|(with_reducible first|refine stopO ?_|refine stopE ?_|refine stopD ?_|refine stopW ?_|refine stopG ?_|refine stopC ?_|refine stopR ?_)))
      (all_goals (first|omega|contradiction|(rw [szS];simp only [List.length_cons];omega)|skip))
      focus (refine Done'.mk ⟨(i + 1), ⟨by omega, by
        rw [take_next hci]
        intro x hx
        rcases List.mem_append.1 hx with hx | hx
        · exact h2 x hx
        · rw [List.mem_singleton.1 hx];exact hcs⟩,?_,KeptA.of [] rfl rfl (by repeat' (first|exact trivial|refine And.intro rfl ?_)) rfl ?_ ?_⟩;(first|omega|(simp only;omega));all_goals (repeat' (first|exact trivial|(refine And.intro ?_ ?_)|(refine Exists.intro _ (And.intro rfl ?_))|(refine RenO.opt ?_)|(refine RenO.toOpt ?_)|(refine RenO.cells ?_)|exact RenO.defs|exact RenL.nil|(refine RenL.cons ?_ ?_)|(first|exact RenV.eq (scI_eq (by omega)) (nameless_sc _)|(with_reducible exact RenV.sc)|exact RenV.gsN|exact RenV.gsZ|exact RenV.gsL (by decide)|exact RenV.slL (by decide)|((first|refine RenV.gsE (by (first|exact mhA|exact mhB|exact mhC|(simp;done))) ?_|refine RenV.eq (scI_eq ?_) (nameless_sc _));(first|rfl|omega|(simp only [List.length_append,List.length_cons,List.length_nil,List.length_map,List.length_take,List.length_drop] <;> omega)|(simp only <;> omega)|(simp <;> omega)))|exact RenV.undef)|(with_unfolding_all exact (rfl : (_ : VObj) = _)))))
    | false =>
      rw [hcs] at ks
      rw [tokS_split h2 hci hcs]
      repeat' (first|with_reducible refine And.intro ?_ ?_|((with_reducible intro hc);(try simp only [zA,zB,zC,zD,zE,zF,zG,zH,zI,zJ,zK,zL,zM,zN,zO,zP,zQ,zR,zS,zT,zU,zV,zW] at hc);(first|exact absurd rfl hc|exact absurd trivial hc|(exfalso;omega)|skip))|exact Is.mk rfl rfl|((conv => whnf);first|with_reducible refine And.intro ?_ ?_|with_reducible intro hx|exact Is.mk rfl rfl|(with_reducible first|apply Val.via|apply ValH.via)|refine ifB_intro ?_ ?_|refine xA (by omega) ?_|(refine xB ?_;intro kw hk1 hk2)|refine xC (by omega) ?_|refine xD ?_|refine xE (by omega) ?_|refine xF (by omega) ?_|refine xG ?_|refine xH ?_|refine xI (by omega) ?_|refine xJ (by omega) ?_|(with_reducible refine stopA ?_)|refine Exists.intro _ (And.intro (by (first|exact vat_of rfl rfl rfl|exact hci|rfl)) ?_)|refine GOp.drawn (by rfl) (by rfl) (Nat.le_of_ble_eq_true (by rfl)) (by rfl)|refine GOp.via (by rfl) ?_|refine GWP.drawY mixed _ (by kernel_rfl) (by rfl) ?_|(refine GCall.mk ((ks _).mono ?_);rintro _ _ ⟨rfl,rfl⟩)|(with_reducible first|refine stopO ?_|refine stopE ?_|refine stopD ?_|refine stopW ?_|refine stopG ?_|refine stopC ?_|refine stopR ?_)))
      (all_goals (first|omega|contradiction|(rw [szS];simp only [List.length_cons];omega)|skip))
      exact Done'.mk (tp2_eq (ext_eq (by simp)) (ext_eq (by rw [hsz]; simp [List.take_of_length_le])))
  · have hie : i = s.length := by omega
    subst hie
    rw [List.take_length] at h2
    rw [tokS_all h2]
    repeat' (first|with_reducible refine And.intro ?_ ?_|((with_reducible intro hc);(try simp only [zA,zB,zC,zD,zE,zF,zG,zH,zI,zJ,zK,zL,zM,zN,zO,zP,zQ,zR,zS,zT,zU,zV,zW] at hc);(first|exact absurd rfl hc|exact absurd trivial hc|(exfalso;omega)|skip))|exact Is.mk rfl rfl|((conv => whnf);first|with_reducible refine And.intro ?_ ?_|with_reducible intro hx|exact Is.mk rfl rfl|(with_reducible first|apply Val.via|apply ValH.via)|refine ifB_intro ?_ ?_|refine xA (by omega) ?_|(refine xB ?_;intro kw hk1 hk2)|refine xC (by omega) ?_|refine xD ?_|refine xE (by omega) ?_|refine xF (by omega) ?_|refine xG ?_|refine xH ?_|refine xI (by omega) ?_|refine xJ (by omega) ?_|(with_reducible refine stopA ?_)|refine Exists.intro _ (And.intro (by (first|exact vat_of rfl rfl rfl|exact hci|rfl)) ?_)|refine GOp.drawn (by rfl) (by rfl) (Nat.le_of_ble_eq_true (by rfl)) (by rfl)|refine GOp.via (by rfl) ?_|refine GWP.drawY mixed _ (by kernel_rfl) (by rfl) ?_|fail|(with_reducible first|refine stopO ?_|refine stopE ?_|refine stopD ?_|refine stopW ?_|refine stopG ?_|refine stopC ?_|refine stopR ?_)))
    (all_goals (first|omega|contradiction|(rw [szS];simp only [List.length_cons];omega)|skip))
    exact Done'.mk (tp2_eq (ext_eq (by simp)) (ext_eq (by simp)))
theorem blanks31_call (s : List UInt8) (H : Heap) (hs : s.length ≤ 1000000) : VCall Tryd.prog 14 [strV s] H (fun v K => v = strV (blS s) ∧ K = H) := by
  refine VCall.pure (by simp [nameless_strV]) (nameless_strV _) ?_
  refine VCall.go Tryd.func14 rfl ?_
  repeat' (first|with_reducible refine And.intro ?_ ?_|((with_reducible intro hc);(try simp only [zA,zB,zC,zD,zE,zF,zG,zH,zI,zJ,zK,zL,zM,zN,zO,zP,zQ,zR,zS,zT,zU,zV,zW] at hc);(first|exact absurd rfl hc|exact absurd trivial hc|(exfalso;omega)|skip))|exact Is.mk rfl rfl|((conv => whnf);first|with_reducible refine And.intro ?_ ?_|with_reducible intro hx|exact Is.mk rfl rfl|(with_reducible first|apply Val.via|apply ValH.via)|refine ifB_intro ?_ ?_|refine xA (by omega) ?_|(refine xB ?_;intro kw hk1 hk2)|refine xC (by omega) ?_|refine xD ?_|refine xE (by omega) ?_|refine xF (by omega) ?_|refine xG ?_|refine xH ?_|refine xI (by omega) ?_|refine xJ (by omega) ?_|(with_reducible refine stopA ?_)|refine Exists.intro _ (And.intro (by (first|exact vat_of rfl rfl rfl|exact hci|rfl)) ?_)|refine GOp.drawn (by rfl) (by rfl) (Nat.le_of_ble_eq_true (by rfl)) (by rfl)|refine GOp.via (by rfl) ?_|refine GWP.drawY mixed _ (by kernel_rfl) (by rfl) ?_|fail|(with_reducible first|refine stopO ?_|refine stopE ?_|refine stopD ?_|refine stopW ?_|refine stopG ?_|refine stopC ?_|refine stopR ?_)))
  (all_goals (first|omega|contradiction|(rw [szS];simp only [List.length_cons];omega)|skip))
  (refine GWP'.mk (GWP.loopB [] (fun (r : List UInt8) => blS r = blS s ∧ r.length ≤ s.length) (fun r => [(0, strV r)]) (fun r => []) 0 (fun r => r.length) s ⟨rfl, Nat.le_refl _⟩ ?_); (conv => whnf); refine And.intro ?_ ?_)
  · focus (refine KeptA.of [] rfl rfl (by repeat' (first|exact trivial|refine And.intro rfl ?_)) rfl ?_ ?_;all_goals (repeat' (first|exact trivial|(refine And.intro ?_ ?_)|(refine Exists.intro _ (And.intro rfl ?_))|(refine RenO.opt ?_)|(refine RenO.toOpt ?_)|(refine RenO.cells ?_)|exact RenO.defs|exact RenL.nil|(refine RenL.cons ?_ ?_)|(first|exact RenV.eq rfl (nameless_strV _)|(with_reducible exact RenV.sc)|exact RenV.gsN|exact RenV.gsZ|exact RenV.gsL (by decide)|exact RenV.slL (by decide)|((first|refine RenV.gsE (by (first|exact mhA|exact mhB|exact mhC|(simp;done))) ?_|refine RenV.eq (scI_eq ?_) (nameless_sc _));(first|rfl|omega|(simp only [List.length_append,List.length_cons,List.length_nil,List.length_map,List.length_take,List.length_drop] <;> omega)|(simp only <;> omega)|(simp <;> omega)))|exact RenV.undef)|(with_unfolding_all exact (rfl : (_ : VObj) = _)))))
  rintro r ⟨h1, h2⟩
  simp only at h1 h2 ⊢
  rw [← h1]
  cases r with
  | nil =>
    repeat' (first|with_reducible refine And.intro ?_ ?_|((with_reducible intro hc);(try simp only [zA,zB,zC,zD,zE,zF,zG,zH,zI,zJ,zK,zL,zM,zN,zO,zP,zQ,zR,zS,zT,zU,zV,zW] at hc);(first|exact absurd rfl hc|exact absurd trivial hc|(exfalso;omega)|skip))|exact Is.mk rfl rfl|((conv => whnf);first|with_reducible refine And.intro ?_ ?_|with_reducible intro hx|exact Is.mk rfl rfl|(with_reducible first|apply Val.via|apply ValH.via)|refine ifB_intro ?_ ?_|refine xA (by omega) ?_|(refine xB ?_;intro kw hk1 hk2)|refine xC (by omega) ?_|refine xD ?_|refine xE (by omega) ?_|refine xF (by omega) ?_|refine xG ?_|refine xH ?_|refine xI (by omega) ?_|refine xJ (by omega) ?_|(with_reducible refine stopA ?_)|refine Exists.intro _ (And.intro (by (first|exact vat_of rfl rfl rfl|exact hci|rfl)) ?_)|refine GOp.drawn (by rfl) (by rfl) (Nat.le_of_ble_eq_true (by rfl)) (by rfl)|refine GOp.via (by rfl) ?_|refine GWP.drawY mixed _ (by kernel_rfl) (by rfl) ?_|fail|(with_reducible first|refine stopO ?_|refine stopE ?_|refine stopD ?_|refine stopW ?_|refine stopG ?_|refine stopC ?_|refine stopR ?_)))
    (all_goals (first|omega|contradiction|(rw [szS];simp only [List.length_cons];omega)|skip))
    exact Done'.mk rfl
  | cons c r =>
    have ks := blank31_call c
    have hcr : (c :: r).length = r.length + 1 := rfl
    have hci : (c :: r)[0]? = some c := rfl
    cases hc : blB c with
    | true =>
      rw [hc] at ks
      have e : blS (c :: r) = blS r := by
        unfold blS
        rw [List.dropWhile_cons, hc]
        rfl
      repeat' (first|with_reducible refine And.intro ?_ ?_|((with_reducible intro hc);(try simp only [zA,zB,zC,zD,zE,zF,zG,zH,zI,zJ,zK,zL,zM,zN,zO,zP,zQ,zR,zS,zT,zU,zV,zW] at hc);(first|exact absurd rfl hc|exact absurd trivial hc|(exfalso;omega)|skip))|exact Is.mk rfl rfl|((conv => whnf);first|with_reducible refine And.intro ?_ ?_|with_reducible intro hx|exact Is.mk rfl rfl|(with_reducible first|apply Val.via|apply ValH.via)|refine ifB_intro ?_ ?_|refine xA (by omega) ?_|(refine xB ?_;intro kw hk1 hk2)|refine xC (by omega) ?_|refine xD ?_|refine xE (by omega) ?_|refine xF (by omega) ?_|refine xG ?_|refine xH ?_|refine xI (by omega) ?_|refine xJ (by omega) ?_|(with_reducible refine stopA ?_)|refine Exists.intro _ (And.intro (by (first|exact vat_of rfl rfl rfl|exact hci|rfl)) ?_)|refine GOp.drawn (by rfl) (by rfl) (Nat.le_of_ble_eq_true (by rfl)) (by rfl)|refine GOp.via (by rfl) ?_|refine GWP.drawY mixed _ (by kernel_rfl) (by rfl) ?_|(refine GCall.mk ((ks _).mono ?_);rintro _ _ ⟨rfl,rfl⟩)|(with_reducible first|refine stopO ?_|refine stopE ?_|refine stopD ?_|refine stopW ?_|refine stopG ?_|refine stopC ?_|refine stopR ?_)))
      (all_goals (first|omega|contradiction|(rw [szS];simp only [List.length_cons];omega)|skip))
      focus (refine Done'.mk ⟨r,⟨e.symm,Nat.le_of_succ_le h2⟩,?_,KeptA.of [] rfl rfl (by repeat' (first|exact trivial|refine And.intro rfl ?_)) rfl ?_ ?_⟩;(first|omega|(simp only;omega));all_goals (repeat' (first|exact trivial|(refine And.intro ?_ ?_)|(refine Exists.intro _ (And.intro rfl ?_))|(refine RenO.opt ?_)|(refine RenO.toOpt ?_)|(refine RenO.cells ?_)|exact RenO.defs|exact RenL.nil|(refine RenL.cons ?_ ?_)|(first|exact RenV.eq (ext_eq (by rw [szS];simp)) (nameless_strV _)|(with_reducible exact RenV.sc)|exact RenV.gsN|exact RenV.gsZ|exact RenV.gsL (by decide)|exact RenV.slL (by decide)|((first|refine RenV.gsE (by (first|exact mhA|exact mhB|exact mhC|(simp;done))) ?_|refine RenV.eq (scI_eq ?_) (nameless_sc _));(first|rfl|omega|(simp only [List.length_append,List.length_cons,List.length_nil,List.length_map,List.length_take,List.length_drop] <;> omega)|(simp only <;> omega)|(simp <;> omega)))|exact RenV.undef)|(with_unfolding_all exact (rfl : (_ : VObj) = _)))))
    | false =>
      rw [hc] at ks
      have e : blS (c :: r) = c :: r := by
        unfold blS
        rw [List.dropWhile_cons, hc]
        rfl
      rw [e]
      repeat' (first|with_reducible refine And.intro ?_ ?_|((with_reducible intro hc);(try simp only [zA,zB,zC,zD,zE,zF,zG,zH,zI,zJ,zK,zL,zM,zN,zO,zP,zQ,zR,zS,zT,zU,zV,zW] at hc);(first|exact absurd rfl hc|exact absurd trivial hc|(exfalso;omega)|skip))|exact Is.mk rfl rfl|((conv => whnf);first|with_reducible refine And.intro ?_ ?_|with_reducible intro hx|exact Is.mk rfl rfl|(with_reducible first|apply Val.via|apply ValH.via)|refine ifB_intro ?_ ?_|refine xA (by omega) ?_|(refine xB ?_;intro kw hk1 hk2)|refine xC (by omega) ?_|refine xD ?_|refine xE (by omega) ?_|refine xF (by omega) ?_|refine xG ?_|refine xH ?_|refine xI (by omega) ?_|refine xJ (by omega) ?_|(with_reducible refine stopA ?_)|refine Exists.intro _ (And.intro (by (first|exact vat_of rfl rfl rfl|exact hci|rfl)) ?_)|refine GOp.drawn (by rfl) (by rfl) (Nat.le_of_ble_eq_true (by rfl)) (by rfl)|refine GOp.via (by rfl) ?_|refine GWP.drawY mixed _ (by kernel_rfl) (by rfl) ?_|(refine GCall.mk ((ks _).mono ?_);rintro _ _ ⟨rfl,rfl⟩)|(with_reducible first|refine stopO ?_|refine stopE ?_|refine stopD ?_|refine stopW ?_|refine stopG ?_|refine stopC ?_|refine stopR ?_)))
      (all_goals (first|omega|contradiction|(rw [szS];simp only [List.length_cons];omega)|skip))
      exact Done'.mk rfl
end Go.Proofs.YthjfobafdclafaaDoor

/- The document's compound: what it is told by. -/
namespace Go.Proofs.YthjfobafdclafaaDoor
open Go Go.RowKit
set_option linter.unusedSimpArgs false
set_option linter.unusedVariables false
set_option maxRecDepth 100000
set_option maxHeartbeats 8000000
/-- A kind, as the document tells it. -/
def kdI (k : Nat) : Int := if k = 0 then 42 else if k = 1 then 116 else if k = 2 then 35 else if k = 3 then 91 else if k = 4 then 61 else if k = 5 then 102 else if k = 6 then 101 else if k = 7 then 110 else 0
def kD (k : Nat) : VV := .sc (.int .u8 (kdI k))
theorem sty_D : SlTy Tryd.prog 47 4 64 := ⟨⟨_, _, _, rfl, rfl, rfl, rfl, rfl, rfl⟩⟩
def dV : SR → VV
  | .err e => .tp [.ro 0 [], strV [], iV e]
  | .ok l r => .tp [.ro l.length (rowsQ kD l), strV r, iV 0]
theorem rowsD_nameless (l : List SPart) : ∀ v ∈ rowsQ kD l, Nameless v := rowsQ_nameless (fun k => nameless_sc _) l
theorem RenL.app {R : List (Nat × Nat)} {T : Nat} {a a' b b' : List VV} (h : RenL R T a a') (g : RenL R T b b') : RenL R T (a ++ b) (a' ++ b') := by
  induction h with
  | nil => exact g
  | cons h _ ih => exact .cons h ih
theorem ren_rowsD {R : List (Nat × Nat)} {T k : Nat} {n t : List UInt8} {q : List SPart} {x y : VV} (l : List SPart) (hy : y = kD k) (hx : RenV R T x (.ro q.length (rowsQ kD q))) : RenL R T (rowsQ kD l ++ [y, strV n, strV t, x]) (rowsQ kD (l ++ [.mk k n t q])) := by
  subst hy
  rw [rowsQ_snoc, cellsP]
  exact RenL.app (.of (rowsD_nameless l)) (.cons (.of (nameless_sc _)) (.cons (.of (nameless_strV _)) (.cons (.of (nameless_strV _)) (.cons hx .nil))))
theorem RenV.nilR {R : List (Nat × Nat)} {T : Nat} : RenV R T (.sc (.slice none 0 0)) (.ro 0 []) := fun w Z ρ ρ1 y _ hv => by
  cases hv
  exact .ro0
theorem skip_some {p s r : List UInt8} (h : skipS p s = some r) : s = p ++ r := by
  unfold skipS at h
  split at h
  · rename_i hp
    injection h with h
    subst h
    have := List.isPrefixOf_iff_prefix.1 hp
    obtain ⟨t, rfl⟩ := this
    rw [List.drop_left]
  · cases h
theorem ext_skip {p s r : List UInt8} {x y : Nat} (h : skipS p s = some r) (hx : x = p.length) (hy : y = s.length) : VV.sc (.string ((⟨s.toArray⟩ : ByteArray).extract x y)) = strV r := by
  subst hx hy
  refine ext_eq ?_
  rw [skip_some h]
  simp
theorem tokX {x : VV} {r : List UInt8} {H : Heap} (hx : x = strV r) (hr : r.length ≤ 1000000) : VCall Tryd.prog 30 [x] H (fun v K => v = .tp [strV (tokS r).1, strV (tokS r).2] ∧ K = H) := by subst hx; exact token31_call r H hr
theorem frz_err {K : Heap} {e : Nat} {c : Nat} : Frz K (.tp [.sc (.slice none 0 c), strV [], iV e]) (dV (.err e)) := Frz.tp (.cons Frz.nil0 (.cons (.of (nameless_strV _)) (.cons (.of (nameless_sc _)) .nil)))
theorem frz_ok {K : Heap} {b : Nat} {l : List SPart} {r : List UInt8} (hg : K.get b = some (.opt (rowsQ kD l))) : Frz K (.tp [.gs b l.length 4, strV r, iV 0]) (dV (.ok l r)) := Frz.tp (.cons (Frz.gs hg (rowsQ_len kD l) (rowsD_nameless l)) (.cons (.of (nameless_strV _)) (.cons (.of (nameless_sc _)) .nil)))
theorem ratX {x : VV} {r : List UInt8} {H : Heap} (hx : x = strV r) (hr : r.length ≤ 1000000) : VCall Tryd.prog 31 [x, bV 34] H (fun v K => v = .tp [strV (cutB r 34).1, strV (cutB r 34).2.1, booV (cutB r 34).2.2] ∧ K = H) := by subst hx; exact rat_call r 34 H (by omega)
theorem dinX {x y : VV} {r : List UInt8} {H : Heap} {z : VV} (hx : x = strV r) (h : ∀ H, VCall Tryd.prog 15 [strV r, y] H (fun v K => v = z ∧ K = H)) : VCall Tryd.prog 15 [x, y] H (fun v K => v = z ∧ K = H) := by subst hx; exact h H
end Go.Proofs.YthjfobafdclafaaDoor

