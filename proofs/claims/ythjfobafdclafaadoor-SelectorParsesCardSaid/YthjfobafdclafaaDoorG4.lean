import Derived.Test.YthjfobafdclafaaDoorG3
/- The document's compound, walked. -/
namespace Go.Proofs.YthjfobafdclafaaDoor
open Go Go.RowKit
set_option linter.unusedSimpArgs false
set_option linter.unusedVariables false
set_option maxRecDepth 100000
set_option maxHeartbeats 8000000
/-- A block that needn't be there, and greater names. -/
theorem GWP'.ghost {P : Program} {r : Option Nat} {c : Code} {Q : Exit → VSt → Prop} {ts : List VV} {O : List (Nat × VObj)} {nx : Nat} {m : List Nat} (k : Nat) (hk : nx ≤ k) (h : GWP P r c Q ⟨ts, ⟨(k, .opt []) :: O, k + 1⟩, m⟩) : GWP' P r c Q ⟨ts, ⟨O, nx⟩, m⟩ := ⟨⟨fun B M Z ρ a w rr QE g0 g1 g2 g3 =>
  h.out B M Z ρ a w rr QE g0 ((g1.bump hk).addGhost) ⟨g2.tmps, g2.marks⟩ fun e s' Z' ρ' a' w' q e1 r1 a1 => g3 e s' Z' ρ' a' w' q ⟨Nat.le_trans hk (Nat.le_trans (Nat.le_succ _) e1.nle), fun b hb => e1.rold b (Nat.lt_succ_of_lt (Nat.lt_of_lt_of_le hb hk)), e1.zsub, e1.rsub, e1.keep, e1.size, e1.znew⟩ r1 a1⟩⟩
theorem GWP'.weakV {P : Program} {r : Option Nat} {c : Code} {Q : Exit → VSt → Prop} {ts : List VV} {H : Heap} {m : List Nat} {v u : VV} (i : Nat) (hi : ts[i]? = some v) (hw : ∀ w Z ρ y, VRel w Z ρ v y → VRel w Z ρ u y) (h : GWP P r c Q ⟨ts.set i u, H, m⟩) : GWP' P r c Q ⟨ts, H, m⟩ := ⟨⟨fun B M Z ρ a w rr QE g0 g1 g2 g3 => by
  obtain ⟨y, hy, hv⟩ := g2.tmps.get hi
  have hp := g2.tmps.set i (hw _ _ _ _ hv)
  rw [List.ext_getElem? (l₁ := a.tmps.toList.set i _) (l₂ := a.tmps.toList) (fun j => by
    by_cases e : i = j
    · subst e
      rw [List.getElem?_set_self (List.getElem?_eq_some_iff.1 hy).1, hy]
    · rw [List.getElem?_set_ne e])] at hp
  exact h.out B M Z ρ a w rr QE g0 g1 ⟨hp, g2.marks⟩ g3⟩⟩
def DLoop (n d : Nat) (s : List UInt8) (c : Code) (Q : Exit → VSt → Prop) : Prop :=
  ∀ (s0 : List UInt8) (out0 : List SPart) (rows : List VV), (∀ R T, RenL R T rows (rowsQ kD out0)) → loopD n d out0 s0 = compD n d s → s0.length < n → out0.length + s0.length ≤ s.length + 1 → GWP Tryd.prog none (.loop c) Q ⟨frameT [(0, strV s0), (1, iV d), (7, .gs 2 out0.length 4)] 147 0, ⟨[(2, .opt rows)], 3⟩, []⟩
theorem dcomp_step (n d : Nat) (s : List UInt8) (hn : s.length < n) (hd : d ≤ 16) (hs : s.length ≤ 100000)
    (ih : ∀ m < n, ∀ r : List UInt8, r.length < m → r.length ≤ 100000 → d + 1 ≤ 16 → ∀ H, VCall Tryd.prog 15 [strV r, iV ((d + 1 : Nat) : Int)] H (fun v K => v = dV (compD m (d + 1) r) ∧ K = H)) (H : Heap) : VCall Tryd.prog 15 [strV s, iV d] H (fun v K => v = dV (compD n d s) ∧ K = H) := by
  refine VCall.frozen (Q := fun v K => Frz K v (dV (compD n d s))) (by simp [nameless_strV, nameless_sc, iV]) ?_ (fun v K e => e)
  have key : ∃ c Q, DLoop n d s c Q ∧ (DLoop n d s c Q → VCall Tryd.prog 15 [strV s, iV d] ⟨[], 0⟩ (fun v K => Frz K v (dV (compD n d s)))) := by
    refine ⟨?c, ?Q, ?a, ?b⟩
    case b =>
      intro hA
      have hsl : s.length ≤ 1000000 := by omega
      have htl := tokS_len s
      cases h1 : skipS [42] s with
      | some r =>
        have hrl := skipS_len h1
        simp only [List.length_cons, List.length_nil] at hrl
        have kb := begins_call s [42]
        rw [h1] at kb
        have e0 : compD n d s = loopD n d [.mk 0 [] [] []] r := by
          unfold compD headS
          rw [h1]
        refine VCall.go Tryd.func15 rfl ?_
        repeat' (first|with_reducible refine And.intro ?_ ?_|((with_reducible intro hc);(try simp only [zA,zB,zC,zD,zE,zF,zG,zH,zI,zJ,zK,zL,zM,zN,zO,zP,zQ,zR,zS,zT,zU,zV,zW] at hc);(first|exact absurd rfl hc|exact absurd trivial hc|(exfalso;omega)|skip))|exact Is.mk rfl rfl|((conv => whnf);first|with_reducible refine And.intro ?_ ?_|with_reducible intro hx|exact Is.mk rfl rfl|(with_reducible first|apply Val.via|apply ValH.via)|refine ifB_intro ?_ ?_|refine xA (by omega) ?_|(refine xB ?_;intro kw hk1 hk2)|refine xC (by omega) ?_|refine xD ?_|refine xE (by omega) ?_|refine xF (by omega) ?_|refine xG ?_|refine xH ?_|refine xI (by omega) ?_|refine xJ (by omega) ?_|(with_reducible refine stopA ?_)|refine Exists.intro _ (And.intro (by (first|exact vat_of rfl rfl rfl|rfl)) ?_)|(refine stopO (GOp'.growS rfl sty_D (d := .slice 77) Tryd.underlying47 (by intro k h;cases h) rfl (m := 1) (l := [(.sc (.int .u8 42)),(strV []),(strV []),(.sc (.slice none 0 0))]) (vs := []) (by rfl) (by rfl) rfl (by rfl) (by decide) (by decide) ?_))|refine GOp.drawn (by rfl) (by rfl) (Nat.le_of_ble_eq_true (by rfl)) (by rfl)|refine GOp.via (by rfl) ?_|refine GWP.drawY mixed _ (by kernel_rfl) (by rfl) ?_|(refine GCall.mk ((kb _ hsl (by decide)).mono ?_);rintro _ _ ⟨rfl,rfl⟩)|(with_reducible first|refine stopO ?_|refine stopE ?_|refine stopD ?_|refine stopW ?_|refine stopG ?_|refine stopC ?_|refine stopR ?_)))
        (all_goals (first|omega|contradiction|(rw [szS];omega)|(rw [szS];simp only;omega)|skip))
        refine GWP'.keep [(0,strV r),(1,iV d),(7,.gs 2 1 4)] 147 [(2,.opt [.sc (.int .u8 42),strV [],strV [],.sc (.slice none 0 0)])] 3 rfl ⟨congrArg some (ext_skip h1 rfl rfl),rfl,rfl,trivial⟩ rfl (by repeat' (first|exact trivial|refine And.intro rfl ?_)) ?_
        rw [forceT_eq]
        exact hA r [.mk 0 [] [] []] _ (fun R T => ren_rowsD [] rfl RenV.nilR) e0.symm (by omega) (by simp only [List.length_cons, List.length_nil]; omega)
      | none =>
        have kb := begins_call s [42]
        rw [h1] at kb
        have kt := fun H => token31_call s H hsl
        have e0 : compD n d s = if (tokS s).1 = [] then loopD n d [] s else loopD n d [.mk 1 (tokS s).1 [] []] (tokS s).2 := by
          unfold compD headS
          rw [h1]
          simp only
          split <;> rfl
        generalize (tokS s).1 = a at *
        generalize (tokS s).2 = q at *
        cases a with
        | nil =>
          rw [if_pos rfl] at e0
          refine VCall.go Tryd.func15 rfl ?_
          repeat' (first|with_reducible refine And.intro ?_ ?_|((with_reducible intro hc);(try simp only [zA,zB,zC,zD,zE,zF,zG,zH,zI,zJ,zK,zL,zM,zN,zO,zP,zQ,zR,zS,zT,zU,zV,zW] at hc);(first|exact absurd rfl hc|exact absurd trivial hc|(exfalso;omega)|skip))|exact Is.mk rfl rfl|((conv => whnf);first|with_reducible refine And.intro ?_ ?_|with_reducible intro hx|exact Is.mk rfl rfl|(with_reducible first|apply Val.via|apply ValH.via)|refine ifB_intro ?_ ?_|refine xA (by omega) ?_|(refine xB ?_;intro kw hk1 hk2)|refine xC (by omega) ?_|refine xD ?_|refine xE (by omega) ?_|refine xF (by omega) ?_|refine xG ?_|refine xH ?_|refine xI (by omega) ?_|refine xJ (by omega) ?_|(with_reducible refine stopA ?_)|refine Exists.intro _ (And.intro (by (first|exact vat_of rfl rfl rfl|rfl)) ?_)|refine GOp.drawn (by rfl) (by rfl) (Nat.le_of_ble_eq_true (by rfl)) (by rfl)|refine GOp.via (by rfl) ?_|refine GWP.drawY mixed _ (by kernel_rfl) (by rfl) ?_|(first|(refine GCall.mk ((kb _ hsl (by decide)).mono ?_);rintro _ _ ⟨rfl,rfl⟩)|(refine GCall.mk ((kt _).mono ?_);rintro _ _ ⟨rfl,rfl⟩))|(with_reducible first|refine stopO ?_|refine stopE ?_|refine stopD ?_|refine stopW ?_|refine stopG ?_|refine stopC ?_|refine stopR ?_)))
          (all_goals (first|omega|contradiction|(rw [szS];omega)|(rw [szS];simp only;omega)|skip))
          refine GWP'.keep [(0,strV s),(1,iV d),(7,.sl 0 0 0 (some 0) 4)] 147 [] 1 rfl (by repeat' (first|exact trivial|refine And.intro rfl ?_)) rfl trivial ?_
          (conv => whnf)
          refine stopW ?_
          refine GWP'.weakV (u := .gs 2 0 4) 7 rfl (fun w Z ρ y hv => by
            cases hv with
            | @sl _ _ _ kk N c' _ _ hk hn2 hc hz =>
              obtain rfl : c' = 0 := hc 0 rfl
              exact .gs0) ?_
          refine stopW ?_
          refine GWP'.ghost 2 (by decide) ?_
          exact hA s [] [] (fun R T => by rw [rowsQ]; exact .nil) e0.symm hn (by simp)
        | cons c0 a =>
          rw [if_neg (by simp)] at e0
          simp only [List.length_cons] at htl
          refine VCall.go Tryd.func15 rfl ?_
          repeat' (first|with_reducible refine And.intro ?_ ?_|((with_reducible intro hc);(try simp only [zA,zB,zC,zD,zE,zF,zG,zH,zI,zJ,zK,zL,zM,zN,zO,zP,zQ,zR,zS,zT,zU,zV,zW] at hc);(first|exact absurd rfl hc|exact absurd trivial hc|(exfalso;omega)|skip))|exact Is.mk rfl rfl|((conv => whnf);first|with_reducible refine And.intro ?_ ?_|with_reducible intro hx|exact Is.mk rfl rfl|(with_reducible first|apply Val.via|apply ValH.via)|refine ifB_intro ?_ ?_|refine xA (by omega) ?_|(refine xB ?_;intro kw hk1 hk2)|refine xC (by omega) ?_|refine xD ?_|refine xE (by omega) ?_|refine xF (by omega) ?_|refine xG ?_|refine xH ?_|refine xI (by omega) ?_|refine xJ (by omega) ?_|(with_reducible refine stopA ?_)|refine Exists.intro _ (And.intro (by (first|exact vat_of rfl rfl rfl|rfl)) ?_)|(refine stopO (GOp'.growS rfl sty_D (d := .slice 77) Tryd.underlying47 (by intro k h;cases h) rfl (m := 1) (l := [(.sc (.int .u8 116)),(strV (c0 :: a)),(strV []),(.sc (.slice none 0 0))]) (vs := []) (by rfl) (by rfl) rfl (by rfl) (by decide) (by decide) ?_))|refine GOp.drawn (by rfl) (by rfl) (Nat.le_of_ble_eq_true (by rfl)) (by rfl)|refine GOp.via (by rfl) ?_|refine GWP.drawY mixed _ (by kernel_rfl) (by rfl) ?_|(first|(refine GCall.mk ((kb _ hsl (by decide)).mono ?_);rintro _ _ ⟨rfl,rfl⟩)|(refine GCall.mk ((kt _).mono ?_);rintro _ _ ⟨rfl,rfl⟩))|(with_reducible first|refine stopO ?_|refine stopE ?_|refine stopD ?_|refine stopW ?_|refine stopG ?_|refine stopC ?_|refine stopR ?_)))
          (all_goals (first|omega|contradiction|(rw [szS];omega)|(rw [szS];simp only;omega)|skip))
          refine GWP'.keep [(0,strV q),(1,iV d),(7,.gs 2 1 4)] 147 [(2,.opt [.sc (.int .u8 116),strV (c0 :: a),strV [],.sc (.slice none 0 0)])] 3 rfl (by repeat' (first|exact trivial|refine And.intro rfl ?_)) rfl (by repeat' (first|exact trivial|refine And.intro rfl ?_)) ?_
          rw [forceT_eq]
          exact hA q [.mk 1 (c0 :: a) [] []] _ (fun R T => ren_rowsD [] rfl RenV.nilR) e0.symm (by omega) (by simp only [List.length_cons, List.length_nil]; omega)
    case a =>
      intro s0 out0 rows hrows hloop hlen0 hlen1
      (conv => whnf)
      refine stopW ?_
      ((refine GWP'.mk (GWP.loopB [0, 1, 2] (fun (b : Nat × List SPart × List UInt8) => loopD b.1 d b.2.1 b.2.2 = compD n d s ∧ b.2.2.length < b.1 ∧ b.1 ≤ n ∧ b.2.1.length + b.2.2.length ≤ s.length + 1) (fun b => [(0, strV b.2.2), (7, .gs 3 b.2.1.length 4)]) (fun b => [(3, .opt (rowsQ kD b.2.1))]) 4 (fun b => b.1) (n, out0, s0) ⟨hloop, by simp only; omega, Nat.le_refl _, by simp only; omega⟩ ?_); (conv => whnf); refine And.intro ?_ ?_))
      · focus (refine KeptA.of [(2,3)] rfl rfl (by repeat' (first|exact trivial|refine And.intro rfl ?_)) rfl ?_ ?_;all_goals (repeat' (first|exact trivial|(first|exact hrows _ _|exact RenV.gsE (List.Mem.head _) rfl|exact RenV.eq rfl (nameless_strV _))|(refine And.intro ?_ ?_)|(refine Exists.intro _ (And.intro rfl ?_))|(refine RenO.opt ?_)|(refine RenO.toOpt ?_)|(refine RenO.cells ?_)|exact RenO.defs|exact RenL.nil|(refine RenL.cons ?_ ?_)|(first|(first|exact hrows _ _|exact RenV.gsE (List.Mem.head _) rfl|exact RenV.eq rfl (nameless_strV _))|(with_reducible exact RenV.sc)|exact RenV.gsN|exact RenV.gsZ|exact RenV.gsL (by decide)|exact RenV.slL (by decide)|((first|refine RenV.gsE (by (first|exact mhA|exact mhB|exact mhC|(simp;done))) ?_|refine RenV.eq (scI_eq ?_) (nameless_sc _));(first|rfl|omega|(simp only [List.length_append,List.length_cons,List.length_nil,List.length_map,List.length_take,List.length_drop] <;> omega)|(simp only <;> omega)|(simp <;> omega)))|exact RenV.undef)|(with_unfolding_all exact (rfl : (_ : VObj) = _)))))
      rintro ⟨m, out, s1⟩ ⟨g1, g2, g3, g4⟩
      simp only at g1 g2 g3 g4
      cases m with
      | zero => omega
      | succ m =>
        rw [loopD] at g1
        have hs1 : s1.length ≤ 1000000 := by omega
        have k1 := begins_call s1 [35]
        cases h1 : skipS [35] s1 with
        | some r =>
          have l1 := skipS_len h1
          have l2 := tokS_len r
          simp only [List.length_cons, List.length_nil] at l1
          have kt := fun H x (hx : x = strV r) => tokX (H := H) hx (by omega)
          rw [h1] at g1 k1
          simp only at g1
          generalize (tokS r).1 = a at *
          generalize (tokS r).2 = q at *
          cases a with
          | nil =>
            rw [if_pos rfl] at g1
            rw [← g1]
            repeat' (first|with_reducible refine And.intro ?_ ?_|((with_reducible intro hc);(try simp only [zA,zB,zC,zD,zE,zF,zG,zH,zI,zJ,zK,zL,zM,zN,zO,zP,zQ,zR,zS,zT,zU,zV,zW] at hc);(first|exact absurd rfl hc|exact absurd trivial hc|(exfalso;omega)|skip))|exact Is.mk rfl rfl|((conv => whnf);first|with_reducible refine And.intro ?_ ?_|with_reducible intro hx|exact Is.mk rfl rfl|(with_reducible first|apply Val.via|apply ValH.via)|refine ifB_intro ?_ ?_|refine xA (by omega) ?_|(refine xB ?_;intro kw hk1 hk2)|refine xC (by omega) ?_|refine xD ?_|refine xE (by omega) ?_|refine xF (by omega) ?_|refine xG ?_|refine xH ?_|refine xI (by omega) ?_|refine xJ (by omega) ?_|(with_reducible refine stopA ?_)|refine Exists.intro _ (And.intro (by (first|exact vat_of rfl rfl rfl|rfl)) ?_)|refine GOp.drawn (by rfl) (by rfl) (Nat.le_of_ble_eq_true (by rfl)) (by rfl)|refine GOp.via (by rfl) ?_|refine GWP.drawY mixed _ (by kernel_rfl) (by rfl) ?_|(first|(refine GCall.mk ((k1 _ hs1 (by decide)).mono ?_);rintro _ _ ⟨rfl,rfl⟩)|(refine GCall.mk ((kt _ _ (ext_skip h1 rfl rfl)).mono ?_);rintro _ _ ⟨rfl,rfl⟩))|(with_reducible first|refine stopO ?_|refine stopE ?_|refine stopD ?_|refine stopW ?_|refine stopG ?_|refine stopC ?_|refine stopR ?_)))
            (all_goals (first|omega|contradiction|(rw [szS];omega)|(rw [szS];simp only;omega)|skip))
            exact Done'.mk frz_err
          | cons c a =>
            rw [if_neg (by simp)] at g1
            simp only [List.length_cons] at l2
            repeat' (first|with_reducible refine And.intro ?_ ?_|((with_reducible intro hc);(try simp only [zA,zB,zC,zD,zE,zF,zG,zH,zI,zJ,zK,zL,zM,zN,zO,zP,zQ,zR,zS,zT,zU,zV,zW] at hc);(first|exact absurd rfl hc|exact absurd trivial hc|(exfalso;omega)|skip))|exact Is.mk rfl rfl|((conv => whnf);first|with_reducible refine And.intro ?_ ?_|with_reducible intro hx|exact Is.mk rfl rfl|(with_reducible first|apply Val.via|apply ValH.via)|refine ifB_intro ?_ ?_|refine xA (by omega) ?_|(refine xB ?_;intro kw hk1 hk2)|refine xC (by omega) ?_|refine xD ?_|refine xE (by omega) ?_|refine xF (by omega) ?_|refine xG ?_|refine xH ?_|refine xI (by omega) ?_|refine xJ (by omega) ?_|(with_reducible refine stopA ?_)|refine Exists.intro _ (And.intro (by (first|exact vat_of rfl rfl rfl|rfl)) ?_)|(refine stopO (GOp'.grow rfl sty_D (d := .slice 77) Tryd.underlying47 (by intro k h;cases h) rfl (m := 1) (l := [(.sc (.int .u8 35)),(strV []),(strV (c :: a)),(.sc (.slice none 0 0))]) (by rfl) (by rfl) rfl (by rw [rowsQ_len]) (by first|omega|(simp only;omega)) (by first|omega|(simp only;omega)) ?_))|refine GOp.drawn (by rfl) (by rfl) (Nat.le_of_ble_eq_true (by rfl)) (by rfl)|refine GOp.via (by rfl) ?_|refine GWP.drawY mixed _ (by kernel_rfl) (by rfl) ?_|(first|(refine GCall.mk ((k1 _ hs1 (by decide)).mono ?_);rintro _ _ ⟨rfl,rfl⟩)|(refine GCall.mk ((kt _ _ (ext_skip h1 rfl rfl)).mono ?_);rintro _ _ ⟨rfl,rfl⟩))|(with_reducible first|refine stopO ?_|refine stopE ?_|refine stopD ?_|refine stopW ?_|refine stopG ?_|refine stopC ?_|refine stopR ?_)))
            (all_goals (first|omega|contradiction|(rw [szS];omega)|(rw [szS];simp only;omega)|skip))
            (focus (refine Done'.mk ⟨(m,out ++ [(.mk 2 [] (c :: a) [])],q),⟨g1,by first|omega|(simp only;omega),by first|omega|(simp only;omega),by simp only [List.length_append,List.length_cons,List.length_nil];omega⟩,?_,KeptA.of [(5,3)] rfl rfl (by repeat' (first|exact trivial|refine And.intro rfl ?_)) rfl ?_ ?_⟩;(first|omega|(simp only;omega));all_goals (repeat' (first|exact trivial|(first|exact RenV.eq (ext_skip h1 rfl rfl) (nameless_strV _)|(first|exact RenV.gsE (List.Mem.head _) rfl|exact RenV.gsE (List.Mem.head _) (by simp only [List.length_append,List.length_cons,List.length_nil])|exact ren_rowsD out rfl RenV.nilR|exact ren_rowsD out rfl (.of (nameless_ro (rowsD_nameless _)))|exact RenV.eq (ext_skip h1 rfl rfl) (nameless_strV _)|exact RenV.eq (ext_skip h2 rfl rfl) (nameless_strV _)|exact RenV.eq (ext_skip h3 rfl rfl) (nameless_strV _)|exact RenV.eq rfl (nameless_strV _)|exact RenV.gsZ|(refine RenV.gsE (by (first|exact mhA|exact mhB|exact mhC|(simp;done))) ?_;(simp <;> omega))))|(refine And.intro ?_ ?_)|(refine Exists.intro _ (And.intro rfl ?_))|(refine RenO.opt ?_)|(refine RenO.toOpt ?_)|(refine RenO.cells ?_)|exact RenO.defs|exact RenL.nil|(refine RenL.cons ?_ ?_)|(first|(first|exact RenV.eq (ext_skip h1 rfl rfl) (nameless_strV _)|(first|exact RenV.gsE (List.Mem.head _) rfl|exact RenV.gsE (List.Mem.head _) (by simp only [List.length_append,List.length_cons,List.length_nil])|exact ren_rowsD out rfl RenV.nilR|exact ren_rowsD out rfl (.of (nameless_ro (rowsD_nameless _)))|exact RenV.eq (ext_skip h1 rfl rfl) (nameless_strV _)|exact RenV.eq (ext_skip h2 rfl rfl) (nameless_strV _)|exact RenV.eq (ext_skip h3 rfl rfl) (nameless_strV _)|exact RenV.eq rfl (nameless_strV _)|exact RenV.gsZ|(refine RenV.gsE (by (first|exact mhA|exact mhB|exact mhC|(simp;done))) ?_;(simp <;> omega))))|(with_reducible exact RenV.sc)|exact RenV.gsN|exact RenV.gsZ|exact RenV.gsL (by decide)|exact RenV.slL (by decide)|((first|refine RenV.gsE (by (first|exact mhA|exact mhB|exact mhC|(simp;done))) ?_|refine RenV.eq (scI_eq ?_) (nameless_sc _));(first|rfl|omega|(simp only [List.length_append,List.length_cons,List.length_nil,List.length_map,List.length_take,List.length_drop] <;> omega)|(simp only <;> omega)|(simp <;> omega)))|exact RenV.undef)|(with_unfolding_all exact (rfl : (_ : VObj) = _))))))
        | none =>
          have k2 := begins_call s1 [91]
          rw [h1] at g1 k1
          simp only at g1
          cases h2 : skipS [91] s1 with
          | some r =>
            have l1 := skipS_len h2
            have l2 := tokS_len r
            simp only [List.length_cons, List.length_nil] at l1
            have kt := fun H x (hx : x = strV r) => tokX (H := H) hx (by omega)
            rw [h2] at g1 k2
            simp only [attrD] at g1
            generalize (tokS r).1 = a at *
            generalize (tokS r).2 = q at *
            cases a with
            | nil =>
              rw [if_pos rfl] at g1
              simp only at g1
              rw [← g1]
              repeat' (first|with_reducible refine And.intro ?_ ?_|((with_reducible intro hc);(try simp only [zA,zB,zC,zD,zE,zF,zG,zH,zI,zJ,zK,zL,zM,zN,zO,zP,zQ,zR,zS,zT,zU,zV,zW] at hc);(first|exact absurd rfl hc|exact absurd trivial hc|(exfalso;omega)|skip))|exact Is.mk rfl rfl|((conv => whnf);first|with_reducible refine And.intro ?_ ?_|with_reducible intro hx|exact Is.mk rfl rfl|(with_reducible first|apply Val.via|apply ValH.via)|refine ifB_intro ?_ ?_|refine xA (by omega) ?_|(refine xB ?_;intro kw hk1 hk2)|refine xC (by omega) ?_|refine xD ?_|refine xE (by omega) ?_|refine xF (by omega) ?_|refine xG ?_|refine xH ?_|refine xI (by omega) ?_|refine xJ (by omega) ?_|(with_reducible refine stopA ?_)|refine Exists.intro _ (And.intro (by (first|exact vat_of rfl rfl rfl|rfl)) ?_)|refine GOp.drawn (by rfl) (by rfl) (Nat.le_of_ble_eq_true (by rfl)) (by rfl)|refine GOp.via (by rfl) ?_|refine GWP.drawY mixed _ (by kernel_rfl) (by rfl) ?_|(first|(refine GCall.mk ((k1 _ hs1 (by decide)).mono ?_);rintro _ _ ⟨rfl,rfl⟩)|(refine GCall.mk ((k2 _ hs1 (by decide)).mono ?_);rintro _ _ ⟨rfl,rfl⟩)|(refine GCall.mk ((kt _ _ (ext_skip h2 rfl rfl)).mono ?_);rintro _ _ ⟨rfl,rfl⟩))|(with_reducible first|refine stopO ?_|refine stopE ?_|refine stopD ?_|refine stopW ?_|refine stopG ?_|refine stopC ?_|refine stopR ?_)))
              (all_goals (first|omega|contradiction|(rw [szS];omega)|(rw [szS];simp only;omega)|skip))
              exact Done'.mk frz_err
            | cons c a =>
              rw [if_neg (by simp)] at g1
              simp only [List.length_cons] at l2
              have hq : q.length ≤ 1000000 := by omega
              have k3 := begins_call q [61, 34]
              cases h3 : skipS [61, 34] q with
              | none =>
                rw [h3] at g1 k3
                simp only [closeD] at g1
                have k4 := begins_call q [93]
                cases h4 : skipS [93] q with
                | none =>
                  rw [h4] at g1 k4
                  simp only [Option.map_none] at g1
                  rw [← g1]
                  repeat' (first|with_reducible refine And.intro ?_ ?_|((with_reducible intro hc);(try simp only [zA,zB,zC,zD,zE,zF,zG,zH,zI,zJ,zK,zL,zM,zN,zO,zP,zQ,zR,zS,zT,zU,zV,zW] at hc);(first|exact absurd rfl hc|exact absurd trivial hc|(exfalso;omega)|skip))|exact Is.mk rfl rfl|((conv => whnf);first|with_reducible refine And.intro ?_ ?_|with_reducible intro hx|exact Is.mk rfl rfl|(with_reducible first|apply Val.via|apply ValH.via)|refine ifB_intro ?_ ?_|refine xA (by omega) ?_|(refine xB ?_;intro kw hk1 hk2)|refine xC (by omega) ?_|refine xD ?_|refine xE (by omega) ?_|refine xF (by omega) ?_|refine xG ?_|refine xH ?_|refine xI (by omega) ?_|refine xJ (by omega) ?_|(with_reducible refine stopA ?_)|refine Exists.intro _ (And.intro (by (first|exact vat_of rfl rfl rfl|rfl)) ?_)|refine GOp.drawn (by rfl) (by rfl) (Nat.le_of_ble_eq_true (by rfl)) (by rfl)|refine GOp.via (by rfl) ?_|refine GWP.drawY mixed _ (by kernel_rfl) (by rfl) ?_|(first|(refine GCall.mk ((k1 _ hs1 (by decide)).mono ?_);rintro _ _ ⟨rfl,rfl⟩)|(refine GCall.mk ((k2 _ hs1 (by decide)).mono ?_);rintro _ _ ⟨rfl,rfl⟩)|(refine GCall.mk ((kt _ _ (ext_skip h2 rfl rfl)).mono ?_);rintro _ _ ⟨rfl,rfl⟩)|(refine GCall.mk ((k3 _ hq (by decide)).mono ?_);rintro _ _ ⟨rfl,rfl⟩)|(refine GCall.mk ((k4 _ hq (by decide)).mono ?_);rintro _ _ ⟨rfl,rfl⟩))|(with_reducible first|refine stopO ?_|refine stopE ?_|refine stopD ?_|refine stopW ?_|refine stopG ?_|refine stopC ?_|refine stopR ?_)))
                  (all_goals (first|omega|contradiction|(rw [szS];omega)|(rw [szS];simp only;omega)|skip))
                  exact Done'.mk frz_err
                | some q2 =>
                  have l4 := skipS_len h4
                  simp only [List.length_cons, List.length_nil] at l4
                  rw [h4] at g1 k4
                  simp only [Option.map_some] at g1
                  repeat' (first|with_reducible refine And.intro ?_ ?_|((with_reducible intro hc);(try simp only [zA,zB,zC,zD,zE,zF,zG,zH,zI,zJ,zK,zL,zM,zN,zO,zP,zQ,zR,zS,zT,zU,zV,zW] at hc);(first|exact absurd rfl hc|exact absurd trivial hc|(exfalso;omega)|skip))|exact Is.mk rfl rfl|((conv => whnf);first|with_reducible refine And.intro ?_ ?_|with_reducible intro hx|exact Is.mk rfl rfl|(with_reducible first|apply Val.via|apply ValH.via)|refine ifB_intro ?_ ?_|refine xA (by omega) ?_|(refine xB ?_;intro kw hk1 hk2)|refine xC (by omega) ?_|refine xD ?_|refine xE (by omega) ?_|refine xF (by omega) ?_|refine xG ?_|refine xH ?_|refine xI (by omega) ?_|refine xJ (by omega) ?_|(with_reducible refine stopA ?_)|refine Exists.intro _ (And.intro (by (first|exact vat_of rfl rfl rfl|rfl)) ?_)|(refine stopO (GOp'.grow rfl sty_D (d := .slice 77) Tryd.underlying47 (by intro k h;cases h) rfl (m := 1) (l := [(.sc (.int .u8 91)),(strV (c :: a)),(strV []),(.sc (.slice none 0 0))]) (by rfl) (by rfl) rfl (by rw [rowsQ_len]) (by first|omega|(simp only;omega)) (by first|omega|(simp only;omega)) ?_))|refine GOp.drawn (by rfl) (by rfl) (Nat.le_of_ble_eq_true (by rfl)) (by rfl)|refine GOp.via (by rfl) ?_|refine GWP.drawY mixed _ (by kernel_rfl) (by rfl) ?_|(first|(refine GCall.mk ((k1 _ hs1 (by decide)).mono ?_);rintro _ _ ⟨rfl,rfl⟩)|(refine GCall.mk ((k2 _ hs1 (by decide)).mono ?_);rintro _ _ ⟨rfl,rfl⟩)|(refine GCall.mk ((kt _ _ (ext_skip h2 rfl rfl)).mono ?_);rintro _ _ ⟨rfl,rfl⟩)|(refine GCall.mk ((k3 _ hq (by decide)).mono ?_);rintro _ _ ⟨rfl,rfl⟩)|(refine GCall.mk ((k4 _ hq (by decide)).mono ?_);rintro _ _ ⟨rfl,rfl⟩))|(with_reducible first|refine stopO ?_|refine stopE ?_|refine stopD ?_|refine stopW ?_|refine stopG ?_|refine stopC ?_|refine stopR ?_)))
                  (all_goals (first|omega|contradiction|(rw [szS];omega)|(rw [szS];simp only;omega)|skip))
                  (focus (refine Done'.mk ⟨(m,out ++ [(.mk 3 (c :: a) [] [])],q2),⟨g1,by first|omega|(simp only;omega),by first|omega|(simp only;omega),by simp only [List.length_append,List.length_cons,List.length_nil];omega⟩,?_,KeptA.of [(6,3)] rfl rfl (by repeat' (first|exact trivial|refine And.intro rfl ?_)) rfl ?_ ?_⟩;(first|omega|(simp only;omega));all_goals (repeat' (first|exact trivial|(first|exact RenV.eq (ext_skip h4 rfl rfl) (nameless_strV _)|(first|exact RenV.gsE (List.Mem.head _) rfl|exact RenV.gsE (List.Mem.head _) (by simp only [List.length_append,List.length_cons,List.length_nil])|exact ren_rowsD out rfl RenV.nilR|exact ren_rowsD out rfl (.of (nameless_ro (rowsD_nameless _)))|exact RenV.eq (ext_skip h1 rfl rfl) (nameless_strV _)|exact RenV.eq (ext_skip h2 rfl rfl) (nameless_strV _)|exact RenV.eq (ext_skip h3 rfl rfl) (nameless_strV _)|exact RenV.eq rfl (nameless_strV _)|exact RenV.gsZ|(refine RenV.gsE (by (first|exact mhA|exact mhB|exact mhC|(simp;done))) ?_;(simp <;> omega))))|(refine And.intro ?_ ?_)|(refine Exists.intro _ (And.intro rfl ?_))|(refine RenO.opt ?_)|(refine RenO.toOpt ?_)|(refine RenO.cells ?_)|exact RenO.defs|exact RenL.nil|(refine RenL.cons ?_ ?_)|(first|(first|exact RenV.eq (ext_skip h4 rfl rfl) (nameless_strV _)|(first|exact RenV.gsE (List.Mem.head _) rfl|exact RenV.gsE (List.Mem.head _) (by simp only [List.length_append,List.length_cons,List.length_nil])|exact ren_rowsD out rfl RenV.nilR|exact ren_rowsD out rfl (.of (nameless_ro (rowsD_nameless _)))|exact RenV.eq (ext_skip h1 rfl rfl) (nameless_strV _)|exact RenV.eq (ext_skip h2 rfl rfl) (nameless_strV _)|exact RenV.eq (ext_skip h3 rfl rfl) (nameless_strV _)|exact RenV.eq rfl (nameless_strV _)|exact RenV.gsZ|(refine RenV.gsE (by (first|exact mhA|exact mhB|exact mhC|(simp;done))) ?_;(simp <;> omega))))|(with_reducible exact RenV.sc)|exact RenV.gsN|exact RenV.gsZ|exact RenV.gsL (by decide)|exact RenV.slL (by decide)|((first|refine RenV.gsE (by (first|exact mhA|exact mhB|exact mhC|(simp;done))) ?_|refine RenV.eq (scI_eq ?_) (nameless_sc _));(first|rfl|omega|(simp only [List.length_append,List.length_cons,List.length_nil,List.length_map,List.length_take,List.length_drop] <;> omega)|(simp only <;> omega)|(simp <;> omega)))|exact RenV.undef)|(with_unfolding_all exact (rfl : (_ : VObj) = _))))))
              | some r2 =>
                have l3 := skipS_len h3
                simp only [List.length_cons, List.length_nil] at l3
                have kc := fun H x (hx : x = strV r2) => ratX (H := H) hx (by omega)
                have l5 := cutB_short r2 34
                rw [h3] at g1 k3
                simp only at g1
                generalize cutB r2 34 = cc at *
                obtain ⟨x, y, f⟩ := cc
                simp only at kc l5 g1
                cases f with
                | false =>
                  simp only [Bool.false_eq_true, if_false] at g1
                  rw [← g1]
                  repeat' (first|with_reducible refine And.intro ?_ ?_|((with_reducible intro hc);(try simp only [zA,zB,zC,zD,zE,zF,zG,zH,zI,zJ,zK,zL,zM,zN,zO,zP,zQ,zR,zS,zT,zU,zV,zW] at hc);(first|exact absurd rfl hc|exact absurd trivial hc|(exfalso;omega)|skip))|exact Is.mk rfl rfl|((conv => whnf);first|with_reducible refine And.intro ?_ ?_|with_reducible intro hx|exact Is.mk rfl rfl|(with_reducible first|apply Val.via|apply ValH.via)|refine ifB_intro ?_ ?_|refine xA (by omega) ?_|(refine xB ?_;intro kw hk1 hk2)|refine xC (by omega) ?_|refine xD ?_|refine xE (by omega) ?_|refine xF (by omega) ?_|refine xG ?_|refine xH ?_|refine xI (by omega) ?_|refine xJ (by omega) ?_|(with_reducible refine stopA ?_)|refine Exists.intro _ (And.intro (by (first|exact vat_of rfl rfl rfl|rfl)) ?_)|refine GOp.drawn (by rfl) (by rfl) (Nat.le_of_ble_eq_true (by rfl)) (by rfl)|refine GOp.via (by rfl) ?_|refine GWP.drawY mixed _ (by kernel_rfl) (by rfl) ?_|(first|(refine GCall.mk ((k1 _ hs1 (by decide)).mono ?_);rintro _ _ ⟨rfl,rfl⟩)|(refine GCall.mk ((k2 _ hs1 (by decide)).mono ?_);rintro _ _ ⟨rfl,rfl⟩)|(refine GCall.mk ((kt _ _ (ext_skip h2 rfl rfl)).mono ?_);rintro _ _ ⟨rfl,rfl⟩)|(refine GCall.mk ((k3 _ hq (by decide)).mono ?_);rintro _ _ ⟨rfl,rfl⟩)|(refine GCall.mk ((kc _ _ (ext_skip h3 rfl rfl)).mono ?_);rintro _ _ ⟨rfl,rfl⟩))|(with_reducible first|refine stopO ?_|refine stopE ?_|refine stopD ?_|refine stopW ?_|refine stopG ?_|refine stopC ?_|refine stopR ?_)))
                  (all_goals (first|omega|contradiction|(rw [szS];omega)|(rw [szS];simp only;omega)|skip))
                  exact Done'.mk frz_err
                | true =>
                  simp only [if_true, closeD] at g1
                  have hy : y.length ≤ 1000000 := by omega
                  have k4 := begins_call y [93]
                  cases h4 : skipS [93] y with
                  | none =>
                    rw [h4] at g1 k4
                    simp only [Option.map_none] at g1
                    rw [← g1]
                    repeat' (first|with_reducible refine And.intro ?_ ?_|((with_reducible intro hc);(try simp only [zA,zB,zC,zD,zE,zF,zG,zH,zI,zJ,zK,zL,zM,zN,zO,zP,zQ,zR,zS,zT,zU,zV,zW] at hc);(first|exact absurd rfl hc|exact absurd trivial hc|(exfalso;omega)|skip))|exact Is.mk rfl rfl|((conv => whnf);first|with_reducible refine And.intro ?_ ?_|with_reducible intro hx|exact Is.mk rfl rfl|(with_reducible first|apply Val.via|apply ValH.via)|refine ifB_intro ?_ ?_|refine xA (by omega) ?_|(refine xB ?_;intro kw hk1 hk2)|refine xC (by omega) ?_|refine xD ?_|refine xE (by omega) ?_|refine xF (by omega) ?_|refine xG ?_|refine xH ?_|refine xI (by omega) ?_|refine xJ (by omega) ?_|(with_reducible refine stopA ?_)|refine Exists.intro _ (And.intro (by (first|exact vat_of rfl rfl rfl|rfl)) ?_)|refine GOp.drawn (by rfl) (by rfl) (Nat.le_of_ble_eq_true (by rfl)) (by rfl)|refine GOp.via (by rfl) ?_|refine GWP.drawY mixed _ (by kernel_rfl) (by rfl) ?_|(first|(refine GCall.mk ((k1 _ hs1 (by decide)).mono ?_);rintro _ _ ⟨rfl,rfl⟩)|(refine GCall.mk ((k2 _ hs1 (by decide)).mono ?_);rintro _ _ ⟨rfl,rfl⟩)|(refine GCall.mk ((kt _ _ (ext_skip h2 rfl rfl)).mono ?_);rintro _ _ ⟨rfl,rfl⟩)|(refine GCall.mk ((k3 _ hq (by decide)).mono ?_);rintro _ _ ⟨rfl,rfl⟩)|(refine GCall.mk ((kc _ _ (ext_skip h3 rfl rfl)).mono ?_);rintro _ _ ⟨rfl,rfl⟩)|(refine GCall.mk ((k4 _ hy (by decide)).mono ?_);rintro _ _ ⟨rfl,rfl⟩))|(with_reducible first|refine stopO ?_|refine stopE ?_|refine stopD ?_|refine stopW ?_|refine stopG ?_|refine stopC ?_|refine stopR ?_)))
                    (all_goals (first|omega|contradiction|(rw [szS];omega)|(rw [szS];simp only;omega)|skip))
                    exact Done'.mk frz_err
                  | some q2 =>
                    have l4 := skipS_len h4
                    simp only [List.length_cons, List.length_nil] at l4
                    rw [h4] at g1 k4
                    simp only [Option.map_some] at g1
                    repeat' (first|with_reducible refine And.intro ?_ ?_|((with_reducible intro hc);(try simp only [zA,zB,zC,zD,zE,zF,zG,zH,zI,zJ,zK,zL,zM,zN,zO,zP,zQ,zR,zS,zT,zU,zV,zW] at hc);(first|exact absurd rfl hc|exact absurd trivial hc|(exfalso;omega)|skip))|exact Is.mk rfl rfl|((conv => whnf);first|with_reducible refine And.intro ?_ ?_|with_reducible intro hx|exact Is.mk rfl rfl|(with_reducible first|apply Val.via|apply ValH.via)|refine ifB_intro ?_ ?_|refine xA (by omega) ?_|(refine xB ?_;intro kw hk1 hk2)|refine xC (by omega) ?_|refine xD ?_|refine xE (by omega) ?_|refine xF (by omega) ?_|refine xG ?_|refine xH ?_|refine xI (by omega) ?_|refine xJ (by omega) ?_|(with_reducible refine stopA ?_)|refine Exists.intro _ (And.intro (by (first|exact vat_of rfl rfl rfl|rfl)) ?_)|(refine stopO (GOp'.grow rfl sty_D (d := .slice 77) Tryd.underlying47 (by intro k h;cases h) rfl (m := 1) (l := [(.sc (.int .u8 61)),(strV (c :: a)),(strV x),(.sc (.slice none 0 0))]) (by rfl) (by rfl) rfl (by rw [rowsQ_len]) (by first|omega|(simp only;omega)) (by first|omega|(simp only;omega)) ?_))|refine GOp.drawn (by rfl) (by rfl) (Nat.le_of_ble_eq_true (by rfl)) (by rfl)|refine GOp.via (by rfl) ?_|refine GWP.drawY mixed _ (by kernel_rfl) (by rfl) ?_|(first|(refine GCall.mk ((k1 _ hs1 (by decide)).mono ?_);rintro _ _ ⟨rfl,rfl⟩)|(refine GCall.mk ((k2 _ hs1 (by decide)).mono ?_);rintro _ _ ⟨rfl,rfl⟩)|(refine GCall.mk ((kt _ _ (ext_skip h2 rfl rfl)).mono ?_);rintro _ _ ⟨rfl,rfl⟩)|(refine GCall.mk ((k3 _ hq (by decide)).mono ?_);rintro _ _ ⟨rfl,rfl⟩)|(refine GCall.mk ((kc _ _ (ext_skip h3 rfl rfl)).mono ?_);rintro _ _ ⟨rfl,rfl⟩)|(refine GCall.mk ((k4 _ hy (by decide)).mono ?_);rintro _ _ ⟨rfl,rfl⟩))|(with_reducible first|refine stopO ?_|refine stopE ?_|refine stopD ?_|refine stopW ?_|refine stopG ?_|refine stopC ?_|refine stopR ?_)))
                    (all_goals (first|omega|contradiction|(rw [szS];omega)|(rw [szS];simp only;omega)|skip))
                    (focus (refine Done'.mk ⟨(m,out ++ [(.mk 4 (c :: a) x [])],q2),⟨g1,by first|omega|(simp only;omega),by first|omega|(simp only;omega),by simp only [List.length_append,List.length_cons,List.length_nil];omega⟩,?_,KeptA.of [(6,3)] rfl rfl (by repeat' (first|exact trivial|refine And.intro rfl ?_)) rfl ?_ ?_⟩;(first|omega|(simp only;omega));all_goals (repeat' (first|exact trivial|(first|exact RenV.eq (ext_skip h4 rfl rfl) (nameless_strV _)|(first|exact RenV.gsE (List.Mem.head _) rfl|exact RenV.gsE (List.Mem.head _) (by simp only [List.length_append,List.length_cons,List.length_nil])|exact ren_rowsD out rfl RenV.nilR|exact ren_rowsD out rfl (.of (nameless_ro (rowsD_nameless _)))|exact RenV.eq (ext_skip h1 rfl rfl) (nameless_strV _)|exact RenV.eq (ext_skip h2 rfl rfl) (nameless_strV _)|exact RenV.eq (ext_skip h3 rfl rfl) (nameless_strV _)|exact RenV.eq rfl (nameless_strV _)|exact RenV.gsZ|(refine RenV.gsE (by (first|exact mhA|exact mhB|exact mhC|(simp;done))) ?_;(simp <;> omega))))|(refine And.intro ?_ ?_)|(refine Exists.intro _ (And.intro rfl ?_))|(refine RenO.opt ?_)|(refine RenO.toOpt ?_)|(refine RenO.cells ?_)|exact RenO.defs|exact RenL.nil|(refine RenL.cons ?_ ?_)|(first|(first|exact RenV.eq (ext_skip h4 rfl rfl) (nameless_strV _)|(first|exact RenV.gsE (List.Mem.head _) rfl|exact RenV.gsE (List.Mem.head _) (by simp only [List.length_append,List.length_cons,List.length_nil])|exact ren_rowsD out rfl RenV.nilR|exact ren_rowsD out rfl (.of (nameless_ro (rowsD_nameless _)))|exact RenV.eq (ext_skip h1 rfl rfl) (nameless_strV _)|exact RenV.eq (ext_skip h2 rfl rfl) (nameless_strV _)|exact RenV.eq (ext_skip h3 rfl rfl) (nameless_strV _)|exact RenV.eq rfl (nameless_strV _)|exact RenV.gsZ|(refine RenV.gsE (by (first|exact mhA|exact mhB|exact mhC|(simp;done))) ?_;(simp <;> omega))))|(with_reducible exact RenV.sc)|exact RenV.gsN|exact RenV.gsZ|exact RenV.gsL (by decide)|exact RenV.slL (by decide)|((first|refine RenV.gsE (by (first|exact mhA|exact mhB|exact mhC|(simp;done))) ?_|refine RenV.eq (scI_eq ?_) (nameless_sc _));(first|rfl|omega|(simp only [List.length_append,List.length_cons,List.length_nil,List.length_map,List.length_take,List.length_drop] <;> omega)|(simp only <;> omega)|(simp <;> omega)))|exact RenV.undef)|(with_unfolding_all exact (rfl : (_ : VObj) = _))))))
          | none =>
            have k3 := begins_call s1 wFirst
            rw [h2] at g1 k2
            simp only at g1
            cases h3 : skipS wFirst s1 with
            | some r =>
              have l1 := skipS_len h3
              simp only [wFirst, List.length_cons, List.length_nil] at l1
              rw [h3] at g1 k3
              simp only at g1
              repeat' (first|with_reducible refine And.intro ?_ ?_|((with_reducible intro hc);(try simp only [zA,zB,zC,zD,zE,zF,zG,zH,zI,zJ,zK,zL,zM,zN,zO,zP,zQ,zR,zS,zT,zU,zV,zW] at hc);(first|exact absurd rfl hc|exact absurd trivial hc|(exfalso;omega)|skip))|exact Is.mk rfl rfl|((conv => whnf);first|with_reducible refine And.intro ?_ ?_|with_reducible intro hx|exact Is.mk rfl rfl|(with_reducible first|apply Val.via|apply ValH.via)|refine ifB_intro ?_ ?_|refine xA (by omega) ?_|(refine xB ?_;intro kw hk1 hk2)|refine xC (by omega) ?_|refine xD ?_|refine xE (by omega) ?_|refine xF (by omega) ?_|refine xG ?_|refine xH ?_|refine xI (by omega) ?_|refine xJ (by omega) ?_|(with_reducible refine stopA ?_)|refine Exists.intro _ (And.intro (by (first|exact vat_of rfl rfl rfl|rfl)) ?_)|(refine stopO (GOp'.grow rfl sty_D (d := .slice 77) Tryd.underlying47 (by intro k h;cases h) rfl (m := 1) (l := [(.sc (.int .u8 102)),(strV []),(strV []),(.sc (.slice none 0 0))]) (by rfl) (by rfl) rfl (by rw [rowsQ_len]) (by first|omega|(simp only;omega)) (by first|omega|(simp only;omega)) ?_))|refine GOp.drawn (by rfl) (by rfl) (Nat.le_of_ble_eq_true (by rfl)) (by rfl)|refine GOp.via (by rfl) ?_|refine GWP.drawY mixed _ (by kernel_rfl) (by rfl) ?_|(first|(refine GCall.mk ((k1 _ hs1 (by decide)).mono ?_);rintro _ _ ⟨rfl,rfl⟩)|(refine GCall.mk ((k2 _ hs1 (by decide)).mono ?_);rintro _ _ ⟨rfl,rfl⟩)|(refine GCall.mk ((k3 _ hs1 (by decide)).mono ?_);rintro _ _ ⟨rfl,rfl⟩))|(with_reducible first|refine stopO ?_|refine stopE ?_|refine stopD ?_|refine stopW ?_|refine stopG ?_|refine stopC ?_|refine stopR ?_)))
              (all_goals (first|omega|contradiction|(rw [szS];omega)|(rw [szS];simp only;omega)|skip))
              (focus (refine Done'.mk ⟨(m,out ++ [(.mk 5 [] [] [])],r),⟨g1,by first|omega|(simp only;omega),by first|omega|(simp only;omega),by simp only [List.length_append,List.length_cons,List.length_nil];omega⟩,?_,KeptA.of [(5,3)] rfl rfl (by repeat' (first|exact trivial|refine And.intro rfl ?_)) rfl ?_ ?_⟩;(first|omega|(simp only;omega));all_goals (repeat' (first|exact trivial|(first|exact RenV.eq (ext_skip h3 rfl rfl) (nameless_strV _)|(first|exact RenV.gsE (List.Mem.head _) rfl|exact RenV.gsE (List.Mem.head _) (by simp only [List.length_append,List.length_cons,List.length_nil])|exact ren_rowsD out rfl RenV.nilR|exact ren_rowsD out rfl (.of (nameless_ro (rowsD_nameless _)))|exact RenV.eq (ext_skip h1 rfl rfl) (nameless_strV _)|exact RenV.eq (ext_skip h2 rfl rfl) (nameless_strV _)|exact RenV.eq (ext_skip h3 rfl rfl) (nameless_strV _)|exact RenV.eq rfl (nameless_strV _)|exact RenV.gsZ|(refine RenV.gsE (by (first|exact mhA|exact mhB|exact mhC|(simp;done))) ?_;(simp <;> omega))))|(refine And.intro ?_ ?_)|(refine Exists.intro _ (And.intro rfl ?_))|(refine RenO.opt ?_)|(refine RenO.toOpt ?_)|(refine RenO.cells ?_)|exact RenO.defs|exact RenL.nil|(refine RenL.cons ?_ ?_)|(first|(first|exact RenV.eq (ext_skip h3 rfl rfl) (nameless_strV _)|(first|exact RenV.gsE (List.Mem.head _) rfl|exact RenV.gsE (List.Mem.head _) (by simp only [List.length_append,List.length_cons,List.length_nil])|exact ren_rowsD out rfl RenV.nilR|exact ren_rowsD out rfl (.of (nameless_ro (rowsD_nameless _)))|exact RenV.eq (ext_skip h1 rfl rfl) (nameless_strV _)|exact RenV.eq (ext_skip h2 rfl rfl) (nameless_strV _)|exact RenV.eq (ext_skip h3 rfl rfl) (nameless_strV _)|exact RenV.eq rfl (nameless_strV _)|exact RenV.gsZ|(refine RenV.gsE (by (first|exact mhA|exact mhB|exact mhC|(simp;done))) ?_;(simp <;> omega))))|(with_reducible exact RenV.sc)|exact RenV.gsN|exact RenV.gsZ|exact RenV.gsL (by decide)|exact RenV.slL (by decide)|((first|refine RenV.gsE (by (first|exact mhA|exact mhB|exact mhC|(simp;done))) ?_|refine RenV.eq (scI_eq ?_) (nameless_sc _));(first|rfl|omega|(simp only [List.length_append,List.length_cons,List.length_nil,List.length_map,List.length_take,List.length_drop] <;> omega)|(simp only <;> omega)|(simp <;> omega)))|exact RenV.undef)|(with_unfolding_all exact (rfl : (_ : VObj) = _))))))
            | none =>
              have k4 := begins_call s1 wEmpty
              rw [h3] at g1 k3
              simp only at g1
              cases h4 : skipS wEmpty s1 with
              | some r =>
                have l1 := skipS_len h4
                simp only [wEmpty, List.length_cons, List.length_nil] at l1
                rw [h4] at g1 k4
                simp only at g1
                repeat' (first|with_reducible refine And.intro ?_ ?_|((with_reducible intro hc);(try simp only [zA,zB,zC,zD,zE,zF,zG,zH,zI,zJ,zK,zL,zM,zN,zO,zP,zQ,zR,zS,zT,zU,zV,zW] at hc);(first|exact absurd rfl hc|exact absurd trivial hc|(exfalso;omega)|skip))|exact Is.mk rfl rfl|((conv => whnf);first|with_reducible refine And.intro ?_ ?_|with_reducible intro hx|exact Is.mk rfl rfl|(with_reducible first|apply Val.via|apply ValH.via)|refine ifB_intro ?_ ?_|refine xA (by omega) ?_|(refine xB ?_;intro kw hk1 hk2)|refine xC (by omega) ?_|refine xD ?_|refine xE (by omega) ?_|refine xF (by omega) ?_|refine xG ?_|refine xH ?_|refine xI (by omega) ?_|refine xJ (by omega) ?_|(with_reducible refine stopA ?_)|refine Exists.intro _ (And.intro (by (first|exact vat_of rfl rfl rfl|rfl)) ?_)|(refine stopO (GOp'.grow rfl sty_D (d := .slice 77) Tryd.underlying47 (by intro k h;cases h) rfl (m := 1) (l := [(.sc (.int .u8 101)),(strV []),(strV []),(.sc (.slice none 0 0))]) (by rfl) (by rfl) rfl (by rw [rowsQ_len]) (by first|omega|(simp only;omega)) (by first|omega|(simp only;omega)) ?_))|refine GOp.drawn (by rfl) (by rfl) (Nat.le_of_ble_eq_true (by rfl)) (by rfl)|refine GOp.via (by rfl) ?_|refine GWP.drawY mixed _ (by kernel_rfl) (by rfl) ?_|(first|(refine GCall.mk ((k1 _ hs1 (by decide)).mono ?_);rintro _ _ ⟨rfl,rfl⟩)|(refine GCall.mk ((k2 _ hs1 (by decide)).mono ?_);rintro _ _ ⟨rfl,rfl⟩)|(refine GCall.mk ((k3 _ hs1 (by decide)).mono ?_);rintro _ _ ⟨rfl,rfl⟩)|(refine GCall.mk ((k4 _ hs1 (by decide)).mono ?_);rintro _ _ ⟨rfl,rfl⟩))|(with_reducible first|refine stopO ?_|refine stopE ?_|refine stopD ?_|refine stopW ?_|refine stopG ?_|refine stopC ?_|refine stopR ?_)))
                (all_goals (first|omega|contradiction|(rw [szS];omega)|(rw [szS];simp only;omega)|skip))
                (focus (refine Done'.mk ⟨(m,out ++ [(.mk 6 [] [] [])],r),⟨g1,by first|omega|(simp only;omega),by first|omega|(simp only;omega),by simp only [List.length_append,List.length_cons,List.length_nil];omega⟩,?_,KeptA.of [(5,3)] rfl rfl (by repeat' (first|exact trivial|refine And.intro rfl ?_)) rfl ?_ ?_⟩;(first|omega|(simp only;omega));all_goals (repeat' (first|exact trivial|(first|exact RenV.eq (ext_skip h4 rfl rfl) (nameless_strV _)|(first|exact RenV.gsE (List.Mem.head _) rfl|exact RenV.gsE (List.Mem.head _) (by simp only [List.length_append,List.length_cons,List.length_nil])|exact ren_rowsD out rfl RenV.nilR|exact ren_rowsD out rfl (.of (nameless_ro (rowsD_nameless _)))|exact RenV.eq (ext_skip h1 rfl rfl) (nameless_strV _)|exact RenV.eq (ext_skip h2 rfl rfl) (nameless_strV _)|exact RenV.eq (ext_skip h3 rfl rfl) (nameless_strV _)|exact RenV.eq rfl (nameless_strV _)|exact RenV.gsZ|(refine RenV.gsE (by (first|exact mhA|exact mhB|exact mhC|(simp;done))) ?_;(simp <;> omega))))|(refine And.intro ?_ ?_)|(refine Exists.intro _ (And.intro rfl ?_))|(refine RenO.opt ?_)|(refine RenO.toOpt ?_)|(refine RenO.cells ?_)|exact RenO.defs|exact RenL.nil|(refine RenL.cons ?_ ?_)|(first|(first|exact RenV.eq (ext_skip h4 rfl rfl) (nameless_strV _)|(first|exact RenV.gsE (List.Mem.head _) rfl|exact RenV.gsE (List.Mem.head _) (by simp only [List.length_append,List.length_cons,List.length_nil])|exact ren_rowsD out rfl RenV.nilR|exact ren_rowsD out rfl (.of (nameless_ro (rowsD_nameless _)))|exact RenV.eq (ext_skip h1 rfl rfl) (nameless_strV _)|exact RenV.eq (ext_skip h2 rfl rfl) (nameless_strV _)|exact RenV.eq (ext_skip h3 rfl rfl) (nameless_strV _)|exact RenV.eq rfl (nameless_strV _)|exact RenV.gsZ|(refine RenV.gsE (by (first|exact mhA|exact mhB|exact mhC|(simp;done))) ?_;(simp <;> omega))))|(with_reducible exact RenV.sc)|exact RenV.gsN|exact RenV.gsZ|exact RenV.gsL (by decide)|exact RenV.slL (by decide)|((first|refine RenV.gsE (by (first|exact mhA|exact mhB|exact mhC|(simp;done))) ?_|refine RenV.eq (scI_eq ?_) (nameless_sc _));(first|rfl|omega|(simp only [List.length_append,List.length_cons,List.length_nil,List.length_map,List.length_take,List.length_drop] <;> omega)|(simp only <;> omega)|(simp <;> omega)))|exact RenV.undef)|(with_unfolding_all exact (rfl : (_ : VObj) = _))))))
              | none =>
                have k5 := begins_call s1 wNot
                rw [h4] at g1 k4
                simp only at g1
                cases h5 : skipS wNot s1 with
                | none =>
                  rw [h5] at g1 k5
                  simp only at g1
                  by_cases ho : out = []
                  · rw [if_pos ho] at g1
                    rw [← g1]
                    subst ho
                    repeat' (first|with_reducible refine And.intro ?_ ?_|((with_reducible intro hc);(try simp only [zA,zB,zC,zD,zE,zF,zG,zH,zI,zJ,zK,zL,zM,zN,zO,zP,zQ,zR,zS,zT,zU,zV,zW] at hc);(first|exact absurd rfl hc|exact absurd trivial hc|(exfalso;omega)|skip))|exact Is.mk rfl rfl|((conv => whnf);first|with_reducible refine And.intro ?_ ?_|with_reducible intro hx|exact Is.mk rfl rfl|(with_reducible first|apply Val.via|apply ValH.via)|refine ifB_intro ?_ ?_|refine xA (by omega) ?_|(refine xB ?_;intro kw hk1 hk2)|refine xC (by omega) ?_|refine xD ?_|refine xE (by omega) ?_|refine xF (by omega) ?_|refine xG ?_|refine xH ?_|refine xI (by omega) ?_|refine xJ (by omega) ?_|(with_reducible refine stopA ?_)|refine Exists.intro _ (And.intro (by (first|exact vat_of rfl rfl rfl|rfl)) ?_)|refine GOp.drawn (by rfl) (by rfl) (Nat.le_of_ble_eq_true (by rfl)) (by rfl)|refine GOp.via (by rfl) ?_|refine GWP.drawY mixed _ (by kernel_rfl) (by rfl) ?_|(first|(refine GCall.mk ((k1 _ hs1 (by decide)).mono ?_);rintro _ _ ⟨rfl,rfl⟩)|(refine GCall.mk ((k2 _ hs1 (by decide)).mono ?_);rintro _ _ ⟨rfl,rfl⟩)|(refine GCall.mk ((k3 _ hs1 (by decide)).mono ?_);rintro _ _ ⟨rfl,rfl⟩)|(refine GCall.mk ((k4 _ hs1 (by decide)).mono ?_);rintro _ _ ⟨rfl,rfl⟩)|(refine GCall.mk ((k5 _ hs1 (by decide)).mono ?_);rintro _ _ ⟨rfl,rfl⟩))|(with_reducible first|refine stopO ?_|refine stopE ?_|refine stopD ?_|refine stopW ?_|refine stopG ?_|refine stopC ?_|refine stopR ?_)))
                    (all_goals (first|omega|contradiction|(rw [szS];omega)|(rw [szS];simp only;omega)|skip))
                    exact Done'.mk frz_err
                  · rw [if_neg ho] at g1
                    rw [← g1]
                    have hol : out.length ≠ 0 := fun e => ho (List.eq_nil_of_length_eq_zero e)
                    repeat' (first|with_reducible refine And.intro ?_ ?_|((with_reducible intro hc);(try simp only [zA,zB,zC,zD,zE,zF,zG,zH,zI,zJ,zK,zL,zM,zN,zO,zP,zQ,zR,zS,zT,zU,zV,zW] at hc);(first|exact absurd rfl hc|exact absurd trivial hc|(exfalso;omega)|skip))|exact Is.mk rfl rfl|((conv => whnf);first|with_reducible refine And.intro ?_ ?_|with_reducible intro hx|exact Is.mk rfl rfl|(with_reducible first|apply Val.via|apply ValH.via)|refine ifB_intro ?_ ?_|refine xA (by omega) ?_|(refine xB ?_;intro kw hk1 hk2)|refine xC (by omega) ?_|refine xD ?_|refine xE (by omega) ?_|refine xF (by omega) ?_|refine xG ?_|refine xH ?_|refine xI (by omega) ?_|refine xJ (by omega) ?_|(with_reducible refine stopA ?_)|refine Exists.intro _ (And.intro (by (first|exact vat_of rfl rfl rfl|rfl)) ?_)|refine GOp.drawn (by rfl) (by rfl) (Nat.le_of_ble_eq_true (by rfl)) (by rfl)|refine GOp.via (by rfl) ?_|refine GWP.drawY mixed _ (by kernel_rfl) (by rfl) ?_|(first|(refine GCall.mk ((k1 _ hs1 (by decide)).mono ?_);rintro _ _ ⟨rfl,rfl⟩)|(refine GCall.mk ((k2 _ hs1 (by decide)).mono ?_);rintro _ _ ⟨rfl,rfl⟩)|(refine GCall.mk ((k3 _ hs1 (by decide)).mono ?_);rintro _ _ ⟨rfl,rfl⟩)|(refine GCall.mk ((k4 _ hs1 (by decide)).mono ?_);rintro _ _ ⟨rfl,rfl⟩)|(refine GCall.mk ((k5 _ hs1 (by decide)).mono ?_);rintro _ _ ⟨rfl,rfl⟩))|(with_reducible first|refine stopO ?_|refine stopE ?_|refine stopD ?_|refine stopW ?_|refine stopG ?_|refine stopC ?_|refine stopR ?_)))
                    (all_goals (first|omega|contradiction|(rw [szS];omega)|(rw [szS];simp only;omega)|skip))
                    exact Done'.mk (frz_ok rfl)
                | some r =>
                  have l1 := skipS_len h5
                  simp only [wNot, List.length_cons, List.length_nil] at l1
                  rw [h5] at g1 k5
                  simp only at g1
                  by_cases h16 : d = 16
                  · rw [if_pos h16] at g1
                    rw [← g1]
                    repeat' (first|with_reducible refine And.intro ?_ ?_|((with_reducible intro hc);(try simp only [zA,zB,zC,zD,zE,zF,zG,zH,zI,zJ,zK,zL,zM,zN,zO,zP,zQ,zR,zS,zT,zU,zV,zW] at hc);(first|exact absurd rfl hc|exact absurd trivial hc|(exfalso;omega)|skip))|exact Is.mk rfl rfl|((conv => whnf);first|with_reducible refine And.intro ?_ ?_|with_reducible intro hx|exact Is.mk rfl rfl|(with_reducible first|apply Val.via|apply ValH.via)|refine ifB_intro ?_ ?_|refine xA (by omega) ?_|(refine xB ?_;intro kw hk1 hk2)|refine xC (by omega) ?_|refine xD ?_|refine xE (by omega) ?_|refine xF (by omega) ?_|refine xG ?_|refine xH ?_|refine xI (by omega) ?_|refine xJ (by omega) ?_|(with_reducible refine stopA ?_)|refine Exists.intro _ (And.intro (by (first|exact vat_of rfl rfl rfl|rfl)) ?_)|refine GOp.drawn (by rfl) (by rfl) (Nat.le_of_ble_eq_true (by rfl)) (by rfl)|refine GOp.via (by rfl) ?_|refine GWP.drawY mixed _ (by kernel_rfl) (by rfl) ?_|(first|(refine GCall.mk ((k1 _ hs1 (by decide)).mono ?_);rintro _ _ ⟨rfl,rfl⟩)|(refine GCall.mk ((k2 _ hs1 (by decide)).mono ?_);rintro _ _ ⟨rfl,rfl⟩)|(refine GCall.mk ((k3 _ hs1 (by decide)).mono ?_);rintro _ _ ⟨rfl,rfl⟩)|(refine GCall.mk ((k4 _ hs1 (by decide)).mono ?_);rintro _ _ ⟨rfl,rfl⟩)|(refine GCall.mk ((k5 _ hs1 (by decide)).mono ?_);rintro _ _ ⟨rfl,rfl⟩))|(with_reducible first|refine stopO ?_|refine stopE ?_|refine stopD ?_|refine stopW ?_|refine stopG ?_|refine stopC ?_|refine stopR ?_)))
                    (all_goals (first|omega|contradiction|(rw [szS];omega)|(rw [szS];simp only;omega)|skip))
                    exact Done'.mk frz_err
                  · rw [if_neg h16] at g1
                    have kin := fun H x (hx : x = strV r) => dinX (H := H) hx (ih m (by omega) r (by omega) (by omega) (by omega))
                    have hag := loop_agree m (d + 1) (headS r).1 (headS r).2 (by have := headS_len r; omega) (by omega)
                    have hcl := fun l q h => loopD_len m (d + 1) (headS r).1 (headS r).2 (l := l) (q := q) h
                    have hhl := headS_len r
                    unfold compD at kin
                    generalize loopD m (d + 1) (headS r).1 (headS r).2 = cp at *
                    cases cp with
                    | err e =>
                      have he := hag.2
                      simp only at g1
                      rw [← g1]
                      repeat' (first|with_reducible refine And.intro ?_ ?_|((with_reducible intro hc);(try simp only [zA,zB,zC,zD,zE,zF,zG,zH,zI,zJ,zK,zL,zM,zN,zO,zP,zQ,zR,zS,zT,zU,zV,zW] at hc);(first|exact absurd rfl hc|exact absurd trivial hc|(exfalso;omega)|skip))|exact Is.mk rfl rfl|((conv => whnf);first|with_reducible refine And.intro ?_ ?_|with_reducible intro hx|exact Is.mk rfl rfl|(with_reducible first|apply Val.via|apply ValH.via)|refine ifB_intro ?_ ?_|refine xA (by omega) ?_|(refine xB ?_;intro kw hk1 hk2)|refine xC (by omega) ?_|refine xD ?_|refine xE (by omega) ?_|refine xF (by omega) ?_|refine xG ?_|refine xH ?_|refine xI (by omega) ?_|refine xJ (by omega) ?_|(with_reducible refine stopA ?_)|refine Exists.intro _ (And.intro (by (first|exact vat_of rfl rfl rfl|rfl)) ?_)|refine GOp.drawn (by rfl) (by rfl) (Nat.le_of_ble_eq_true (by rfl)) (by rfl)|refine GOp.via (by rfl) ?_|refine GWP.drawY mixed _ (by kernel_rfl) (by rfl) ?_|(first|(refine GCall.mk ((k1 _ hs1 (by decide)).mono ?_);rintro _ _ ⟨rfl,rfl⟩)|(refine GCall.mk ((k2 _ hs1 (by decide)).mono ?_);rintro _ _ ⟨rfl,rfl⟩)|(refine GCall.mk ((k3 _ hs1 (by decide)).mono ?_);rintro _ _ ⟨rfl,rfl⟩)|(refine GCall.mk ((k4 _ hs1 (by decide)).mono ?_);rintro _ _ ⟨rfl,rfl⟩)|(refine GCall.mk ((k5 _ hs1 (by decide)).mono ?_);rintro _ _ ⟨rfl,rfl⟩)|(refine GCall.mk ((kin _ _ (ext_skip h5 rfl rfl)).mono ?_);rintro _ _ ⟨rfl,rfl⟩))|(with_reducible first|refine stopO ?_|refine stopE ?_|refine stopD ?_|refine stopW ?_|refine stopG ?_|refine stopC ?_|refine stopR ?_)))
                      (all_goals (first|omega|contradiction|(rw [szS];omega)|(rw [szS];simp only;omega)|skip))
                      exact Done'.mk frz_err
                    | ok l q =>
                      have hql := hcl l q rfl
                      have hq : q.length ≤ 1000000 := by omega
                      have k6 := begins_call q [41]
                      simp only at g1
                      cases h6 : skipS [41] q with
                      | none =>
                        rw [h6] at g1 k6
                        simp only at g1
                        rw [← g1]
                        repeat' (first|with_reducible refine And.intro ?_ ?_|((with_reducible intro hc);(try simp only [zA,zB,zC,zD,zE,zF,zG,zH,zI,zJ,zK,zL,zM,zN,zO,zP,zQ,zR,zS,zT,zU,zV,zW] at hc);(first|exact absurd rfl hc|exact absurd trivial hc|(exfalso;omega)|skip))|exact Is.mk rfl rfl|((conv => whnf);first|with_reducible refine And.intro ?_ ?_|with_reducible intro hx|exact Is.mk rfl rfl|(with_reducible first|apply Val.via|apply ValH.via)|refine ifB_intro ?_ ?_|refine xA (by omega) ?_|(refine xB ?_;intro kw hk1 hk2)|refine xC (by omega) ?_|refine xD ?_|refine xE (by omega) ?_|refine xF (by omega) ?_|refine xG ?_|refine xH ?_|refine xI (by omega) ?_|refine xJ (by omega) ?_|(with_reducible refine stopA ?_)|refine Exists.intro _ (And.intro (by (first|exact vat_of rfl rfl rfl|rfl)) ?_)|refine GOp.drawn (by rfl) (by rfl) (Nat.le_of_ble_eq_true (by rfl)) (by rfl)|refine GOp.via (by rfl) ?_|refine GWP.drawY mixed _ (by kernel_rfl) (by rfl) ?_|(first|(refine GCall.mk ((k1 _ hs1 (by decide)).mono ?_);rintro _ _ ⟨rfl,rfl⟩)|(refine GCall.mk ((k2 _ hs1 (by decide)).mono ?_);rintro _ _ ⟨rfl,rfl⟩)|(refine GCall.mk ((k3 _ hs1 (by decide)).mono ?_);rintro _ _ ⟨rfl,rfl⟩)|(refine GCall.mk ((k4 _ hs1 (by decide)).mono ?_);rintro _ _ ⟨rfl,rfl⟩)|(refine GCall.mk ((k5 _ hs1 (by decide)).mono ?_);rintro _ _ ⟨rfl,rfl⟩)|(refine GCall.mk ((kin _ _ (ext_skip h5 rfl rfl)).mono ?_);rintro _ _ ⟨rfl,rfl⟩)|(refine GCall.mk ((k6 _ hq (by decide)).mono ?_);rintro _ _ ⟨rfl,rfl⟩))|(with_reducible first|refine stopO ?_|refine stopE ?_|refine stopD ?_|refine stopW ?_|refine stopG ?_|refine stopC ?_|refine stopR ?_)))
                        (all_goals (first|omega|contradiction|(rw [szS];omega)|(rw [szS];simp only;omega)|skip))
                        exact Done'.mk frz_err
                      | some q2 =>
                        have l6 := skipS_len h6
                        simp only [List.length_cons, List.length_nil] at l6
                        rw [h6] at g1 k6
                        simp only at g1
                        repeat' (first|with_reducible refine And.intro ?_ ?_|((with_reducible intro hc);(try simp only [zA,zB,zC,zD,zE,zF,zG,zH,zI,zJ,zK,zL,zM,zN,zO,zP,zQ,zR,zS,zT,zU,zV,zW] at hc);(first|exact absurd rfl hc|exact absurd trivial hc|(exfalso;omega)|skip))|exact Is.mk rfl rfl|((conv => whnf);first|with_reducible refine And.intro ?_ ?_|with_reducible intro hx|exact Is.mk rfl rfl|(with_reducible first|apply Val.via|apply ValH.via)|refine ifB_intro ?_ ?_|refine xA (by omega) ?_|(refine xB ?_;intro kw hk1 hk2)|refine xC (by omega) ?_|refine xD ?_|refine xE (by omega) ?_|refine xF (by omega) ?_|refine xG ?_|refine xH ?_|refine xI (by omega) ?_|refine xJ (by omega) ?_|(with_reducible refine stopA ?_)|refine Exists.intro _ (And.intro (by (first|exact vat_of rfl rfl rfl|rfl)) ?_)|(refine stopO (GOp'.grow rfl sty_D (d := .slice 77) Tryd.underlying47 (by intro k h;cases h) rfl (m := 1) (l := [(.sc (.int .u8 110)),(strV []),(strV []),(.ro l.length (rowsQ kD l))]) (by rfl) (by rfl) rfl (by rw [rowsQ_len]) (by first|omega|(simp only;omega)) (by first|omega|(simp only;omega)) ?_))|refine GOp.drawn (by rfl) (by rfl) (Nat.le_of_ble_eq_true (by rfl)) (by rfl)|refine GOp.via (by rfl) ?_|refine GWP.drawY mixed _ (by kernel_rfl) (by rfl) ?_|(first|(refine GCall.mk ((k1 _ hs1 (by decide)).mono ?_);rintro _ _ ⟨rfl,rfl⟩)|(refine GCall.mk ((k2 _ hs1 (by decide)).mono ?_);rintro _ _ ⟨rfl,rfl⟩)|(refine GCall.mk ((k3 _ hs1 (by decide)).mono ?_);rintro _ _ ⟨rfl,rfl⟩)|(refine GCall.mk ((k4 _ hs1 (by decide)).mono ?_);rintro _ _ ⟨rfl,rfl⟩)|(refine GCall.mk ((k5 _ hs1 (by decide)).mono ?_);rintro _ _ ⟨rfl,rfl⟩)|(refine GCall.mk ((kin _ _ (ext_skip h5 rfl rfl)).mono ?_);rintro _ _ ⟨rfl,rfl⟩)|(refine GCall.mk ((k6 _ hq (by decide)).mono ?_);rintro _ _ ⟨rfl,rfl⟩))|(with_reducible first|refine stopO ?_|refine stopE ?_|refine stopD ?_|refine stopW ?_|refine stopG ?_|refine stopC ?_|refine stopR ?_)))
                        (all_goals (first|omega|contradiction|(rw [szS];omega)|(rw [szS];simp only;omega)|skip))
                        (focus (refine Done'.mk ⟨(m,out ++ [(.mk 7 [] [] l)],q2),⟨g1,by first|omega|(simp only;omega),by first|omega|(simp only;omega),by simp only [List.length_append,List.length_cons,List.length_nil];omega⟩,?_,KeptA.of [(5,3)] rfl rfl (by repeat' (first|exact trivial|refine And.intro rfl ?_)) rfl ?_ ?_⟩;(first|omega|(simp only;omega));all_goals (repeat' (first|exact trivial|(first|exact RenV.eq (ext_skip h6 rfl rfl) (nameless_strV _)|(first|exact RenV.gsE (List.Mem.head _) rfl|exact RenV.gsE (List.Mem.head _) (by simp only [List.length_append,List.length_cons,List.length_nil])|exact ren_rowsD out rfl RenV.nilR|exact ren_rowsD out rfl (.of (nameless_ro (rowsD_nameless _)))|exact RenV.eq (ext_skip h1 rfl rfl) (nameless_strV _)|exact RenV.eq (ext_skip h2 rfl rfl) (nameless_strV _)|exact RenV.eq (ext_skip h3 rfl rfl) (nameless_strV _)|exact RenV.eq rfl (nameless_strV _)|exact RenV.gsZ|(refine RenV.gsE (by (first|exact mhA|exact mhB|exact mhC|(simp;done))) ?_;(simp <;> omega))))|(refine And.intro ?_ ?_)|(refine Exists.intro _ (And.intro rfl ?_))|(refine RenO.opt ?_)|(refine RenO.toOpt ?_)|(refine RenO.cells ?_)|exact RenO.defs|exact RenL.nil|(refine RenL.cons ?_ ?_)|(first|(first|exact RenV.eq (ext_skip h6 rfl rfl) (nameless_strV _)|(first|exact RenV.gsE (List.Mem.head _) rfl|exact RenV.gsE (List.Mem.head _) (by simp only [List.length_append,List.length_cons,List.length_nil])|exact ren_rowsD out rfl RenV.nilR|exact ren_rowsD out rfl (.of (nameless_ro (rowsD_nameless _)))|exact RenV.eq (ext_skip h1 rfl rfl) (nameless_strV _)|exact RenV.eq (ext_skip h2 rfl rfl) (nameless_strV _)|exact RenV.eq (ext_skip h3 rfl rfl) (nameless_strV _)|exact RenV.eq rfl (nameless_strV _)|exact RenV.gsZ|(refine RenV.gsE (by (first|exact mhA|exact mhB|exact mhC|(simp;done))) ?_;(simp <;> omega))))|(with_reducible exact RenV.sc)|exact RenV.gsN|exact RenV.gsZ|exact RenV.gsL (by decide)|exact RenV.slL (by decide)|((first|refine RenV.gsE (by (first|exact mhA|exact mhB|exact mhC|(simp;done))) ?_|refine RenV.eq (scI_eq ?_) (nameless_sc _));(first|rfl|omega|(simp only [List.length_append,List.length_cons,List.length_nil,List.length_map,List.length_take,List.length_drop] <;> omega)|(simp only <;> omega)|(simp <;> omega)))|exact RenV.undef)|(with_unfolding_all exact (rfl : (_ : VObj) = _))))))
  obtain ⟨c, Q, hA, hB⟩ := key
  exact hB hA
theorem dcomp_call : ∀ (n d : Nat) (s : List UInt8), s.length < n → d ≤ 16 → s.length ≤ 100000 → ∀ H, VCall Tryd.prog 15 [strV s, iV d] H (fun v K => v = dV (compD n d s) ∧ K = H) := fun n => by
  induction n using Nat.strongRecOn with
  | ind n ih => exact fun d s hn hd hs H => dcomp_step n d s hn hd hs (fun m hm r hr hr2 h16 H => ih m hm (d + 1) r hr h16 hr2 H) H
end Go.Proofs.YthjfobafdclafaaDoor

/- The document's Parse, walked. -/
namespace Go.Proofs.YthjfobafdclafaaDoor
open Go Go.RowKit
set_option linter.unusedSimpArgs false
set_option linter.unusedVariables false
set_option maxRecDepth 100000
set_option maxHeartbeats 8000000
def cellsF (x : SLink) : List VV := [.ro x.1.length (rowsQ kD x.1), booV x.2]
def rowsF (l : List SLink) : List VV := l.flatMap cellsF
theorem rowsF_len (l : List SLink) : (rowsF l).length = l.length * 2 := by
  induction l with
  | nil => rfl
  | cons a r ih =>
    show (cellsF a ++ rowsF r).length = _
    rw [List.length_append, ih, List.length_cons]
    show 2 + _ = _
    omega
theorem rowsF_nameless (l : List SLink) : ∀ v ∈ rowsF l, Nameless v := fun v hv => by
  obtain ⟨x, _, h⟩ := List.mem_flatMap.1 hv
  simp only [cellsF, List.mem_cons, List.not_mem_nil, or_false] at h
  rcases h with rfl | rfl
  · exact nameless_ro (rowsD_nameless x.1)
  · exact nameless_sc _
theorem rowsF_snoc (l : List SLink) (x : SLink) : rowsF l ++ [.ro x.1.length (rowsQ kD x.1), booV x.2] = rowsF (l ++ [x]) := by
  unfold rowsF
  rw [List.flatMap_append]
  simp [cellsF]
def chE (l : List SLink) : VV := .ro l.length (rowsF l)
theorem nameless_chE (l : List SLink) : Nameless (chE l) := nameless_ro (rowsF_nameless l)
def rowsE (l : List (List SLink)) : List VV := l.map chE
theorem rowsE_len (l : List (List SLink)) : (rowsE l).length = l.length := List.length_map _
theorem rowsE_nameless (l : List (List SLink)) : ∀ v ∈ rowsE l, Nameless v := nameless_map nameless_chE l
theorem rowsE_snoc (l : List (List SLink)) (x : List SLink) : rowsE l ++ [chE x] = rowsE (l ++ [x]) := by
  unfold rowsE
  rw [List.map_append]
  rfl
theorem gs_eqE {b n n' z : Nat} (h : n = n') : VV.gs b n z = .gs b n' z := by rw [h]
theorem sty_F : SlTy Tryd.prog 45 2 32 := ⟨⟨_, _, _, rfl, rfl, rfl, rfl, rfl, rfl⟩⟩
theorem sty_E : SlTy Tryd.prog 30 1 24 := ⟨⟨_, _, _, rfl, rfl, rfl, rfl, rfl, rfl⟩⟩
def selE (l : List (List SLink)) : VV := .ro l.length (rowsE l)
theorem nameless_selE (l : List (List SLink)) : Nameless (selE l) := nameless_ro (rowsE_nameless l)
def parE : SelR → VV
  | .err e => .tp [.ro 0 [], iV e]
  | .ok l => .tp [selE l, iV 0]
theorem frzE_err {K : Heap} {e : Nat} {c : Nat} : Frz K (.tp [.sc (.slice none 0 c), iV e]) (parE (.err e)) := Frz.tp (.cons Frz.nil0 (.cons (.of (nameless_sc _)) .nil))
theorem frzE_ok {K : Heap} {b n : Nat} {vs : List VV} {l : List (List SLink)} (hg : K.get b = some (.opt vs)) (hv : vs = rowsE l) (hn : n = l.length) : Frz K (.tp [.gs b n 1, iV 0]) (parE (.ok l)) := by
  subst hv hn
  exact Frz.tp (.cons (Frz.gs hg (by rw [rowsE_len]; omega) (rowsE_nameless l)) (.cons (.of (nameless_sc _)) .nil))
theorem eqZF {a b : Int} (h : ¬ a = b) : VV.sc (.bool (eqZ a b)) = booV false := by
  rw [eqZ_eq, decide_eq_false h]
  rfl
theorem blX {x : VV} {r : List UInt8} {H : Heap} (hx : x = strV r) (hr : r.length ≤ 1000000) : VCall Tryd.prog 14 [x] H (fun v K => v = strV (blS r) ∧ K = H) := by subst hx; exact blanks31_call r H hr
theorem dparse_call (s0 : List UInt8) (hs0 : s0.length ≤ 10000) (H : Heap) : VCall Tryd.prog 6 [strV s0] H (fun v K => v = (if 4096 < s0.length then parE (.err 3) else parE (parseD (s0.length + 1) [] s0)) ∧ K = H) := by
  refine VCall.frozen (Q := fun v K => Frz K v (if 4096 < s0.length then parE (.err 3) else parE (parseD (s0.length + 1) [] s0))) (by simp [nameless_strV]) ?_ (fun v K e => e)
  have hsz := szS s0
  by_cases hlong : 4096 < s0.length
  · rw [if_pos hlong]
    refine VCall.go Tryd.func6 rfl ?_
    repeat' (first|with_reducible refine And.intro ?_ ?_|((with_reducible intro hc);(try simp only [zA,zB,zC,zD,zE,zF,zG,zH,zI,zJ,zK,zL,zM,zN,zO,zP,zQ,zR,zS,zT,zU,zV,zW] at hc);(first|exact absurd rfl hc|exact absurd trivial hc|(exfalso;omega)|skip))|exact Is.mk rfl rfl|((conv => whnf);first|with_reducible refine And.intro ?_ ?_|with_reducible intro hx|exact Is.mk rfl rfl|(with_reducible first|apply Val.via|apply ValH.via)|refine ifB_intro ?_ ?_|refine xA (by omega) ?_|(refine xB ?_;intro kw hk1 hk2)|refine xC (by omega) ?_|refine xD ?_|refine xE (by omega) ?_|refine xF (by omega) ?_|refine xG ?_|refine xH ?_|refine xI (by omega) ?_|refine xJ (by omega) ?_|(with_reducible refine stopA ?_)|refine Exists.intro _ (And.intro (by (first|exact vat_of rfl rfl rfl|exact hc0|rfl)) ?_)|refine GOp.drawn (by rfl) (by rfl) (Nat.le_of_ble_eq_true (by rfl)) (by rfl)|refine GOp.via (by rfl) ?_|refine GWP.drawY mixed _ (by kernel_rfl) (by rfl) ?_|fail|(with_reducible first|refine stopO ?_|refine stopE ?_|refine stopD ?_|refine stopW ?_|refine stopG ?_|refine stopC ?_|refine stopR ?_)))
    (all_goals (first|omega|contradiction|(exact absurd (hc.symm.trans heq) (by decide))|(rw [szS];simp only [List.length_cons];omega)|skip))
    exact Done'.mk frzE_err
  · rw [if_neg hlong]
    refine VCall.go Tryd.func6 rfl ?_
    repeat' (first|with_reducible refine And.intro ?_ ?_|((with_reducible intro hc);(try simp only [zA,zB,zC,zD,zE,zF,zG,zH,zI,zJ,zK,zL,zM,zN,zO,zP,zQ,zR,zS,zT,zU,zV,zW] at hc);(first|exact absurd rfl hc|exact absurd trivial hc|(exfalso;omega)|skip))|exact Is.mk rfl rfl|((conv => whnf);first|with_reducible refine And.intro ?_ ?_|with_reducible intro hx|exact Is.mk rfl rfl|(with_reducible first|apply Val.via|apply ValH.via)|refine ifB_intro ?_ ?_|refine xA (by omega) ?_|(refine xB ?_;intro kw hk1 hk2)|refine xC (by omega) ?_|refine xD ?_|refine xE (by omega) ?_|refine xF (by omega) ?_|refine xG ?_|refine xH ?_|refine xI (by omega) ?_|refine xJ (by omega) ?_|(with_reducible refine stopA ?_)|refine Exists.intro _ (And.intro (by (first|exact vat_of rfl rfl rfl|exact hc0|rfl)) ?_)|refine GOp.drawn (by rfl) (by rfl) (Nat.le_of_ble_eq_true (by rfl)) (by rfl)|refine GOp.via (by rfl) ?_|refine GWP.drawY mixed _ (by kernel_rfl) (by rfl) ?_|fail|(with_reducible first|refine stopO ?_|refine stopE ?_|refine stopD ?_|refine stopW ?_|refine stopG ?_|refine stopC ?_|refine stopR ?_)))
    (all_goals (first|omega|contradiction|(exact absurd (hc.symm.trans heq) (by decide))|(rw [szS];simp only [List.length_cons];omega)|skip))
    (refine GWP'.mk (GWP.loopB [0] (fun (b : Nat × List (List SLink) × List UInt8) => parseD b.1 b.2.1 b.2.2 = parseD (s0.length + 1) [] s0 ∧ b.2.2.length < b.1 ∧ b.2.1.length + b.2.2.length ≤ s0.length) (fun b => [(0, strV b.2.2), (4, .gs 2 b.2.1.length 1)]) (fun b => [(2, .opt (rowsE b.2.1))]) 3 (fun b => b.1) (s0.length + 1, [], s0) ⟨rfl, by simp only; omega, by simp⟩ ?_); (conv => whnf); refine And.intro ?_ ?_)
    · focus (refine KeptA.of [] rfl rfl (by repeat' (first|exact trivial|refine And.intro rfl ?_)) rfl ?_ ?_;all_goals (repeat' (first|exact trivial|(first|exact RenV.gsZ|exact RenV.eq rfl (nameless_strV _))|(refine And.intro ?_ ?_)|(refine Exists.intro _ (And.intro rfl ?_))|(refine RenO.opt ?_)|(refine RenO.toOpt ?_)|(refine RenO.cells ?_)|exact RenO.defs|exact RenL.nil|(refine RenL.cons ?_ ?_)|(first|(first|exact RenV.gsZ|exact RenV.eq rfl (nameless_strV _))|(with_reducible exact RenV.sc)|exact RenV.gsN|exact RenV.gsZ|exact RenV.gsL (by decide)|exact RenV.slL (by decide)|((first|refine RenV.gsE (by (first|exact mhA|exact mhB|exact mhC|(simp;done))) ?_|refine RenV.eq (scI_eq ?_) (nameless_sc _));(first|rfl|omega|(simp only [List.length_append,List.length_cons,List.length_nil,List.length_map,List.length_take,List.length_drop] <;> omega)|(simp only <;> omega)|(simp <;> omega)))|exact RenV.undef)|(with_unfolding_all exact (rfl : (_ : VObj) = _)))))
    rintro ⟨m, acc, s⟩ ⟨g1, g2, g3⟩
    simp only at g1 g2 g3
    cases m with
    | zero => omega
    | succ m =>
      have k1 := fun H => blanks31_call s H (by omega)
      have hbl := blS_len s
      rw [parseD] at g1
      generalize blS s = s1 at *
      repeat' (first|with_reducible refine And.intro ?_ ?_|((with_reducible intro hc);(try simp only [zA,zB,zC,zD,zE,zF,zG,zH,zI,zJ,zK,zL,zM,zN,zO,zP,zQ,zR,zS,zT,zU,zV,zW] at hc);(first|exact absurd rfl hc|exact absurd trivial hc|(exfalso;omega)|skip))|exact Is.mk rfl rfl|((conv => whnf);first|with_reducible refine And.intro ?_ ?_|with_reducible intro hx|exact Is.mk rfl rfl|(with_reducible first|apply Val.via|apply ValH.via)|refine ifB_intro ?_ ?_|refine xA (by omega) ?_|(refine xB ?_;intro kw hk1 hk2)|refine xC (by omega) ?_|refine xD ?_|refine xE (by omega) ?_|refine xF (by omega) ?_|refine xG ?_|refine xH ?_|refine xI (by omega) ?_|refine xJ (by omega) ?_|(with_reducible refine stopA ?_)|refine Exists.intro _ (And.intro (by (first|exact vat_of rfl rfl rfl|exact hc0|rfl)) ?_)|refine GOp.drawn (by rfl) (by rfl) (Nat.le_of_ble_eq_true (by rfl)) (by rfl)|refine GOp.via (by rfl) ?_|refine GWP.drawY mixed _ (by kernel_rfl) (by rfl) ?_|(refine GCall.mk ((k1 _).mono ?_);rintro _ _ ⟨rfl,rfl⟩)|(with_reducible first|refine stopO ?_|refine stopE ?_|refine stopD ?_|refine stopW ?_|refine stopG ?_|refine stopC ?_|refine stopR ?_)))
      (all_goals (first|omega|contradiction|(exact absurd (hc.symm.trans heq) (by decide))|(rw [szS];simp only [List.length_cons];omega)|skip))
      (refine GWP'.mk (GWP.loopB [3] (fun (b : Nat × List SLink × List UInt8 × Bool) => chainD b.1 b.2.1 b.2.2.1 b.2.2.2 = chainD (s.length + 2) [] s1 false ∧ b.2.2.1.length < b.1 ∧ b.2.1.length + b.2.2.1.length ≤ s1.length) (fun b => [(0, strV b.2.2.1), (5, .gs 4 b.2.1.length 2), (6, booV b.2.2.2)]) (fun b => [(4, .opt (rowsF b.2.1))]) 5 (fun b => b.1) (s.length + 2, [], s1, false) ⟨rfl, by simp only; omega, by simp⟩ ?_); (conv => whnf); refine And.intro ?_ ?_)
      · focus (refine KeptA.of [] rfl rfl (by repeat' (first|exact trivial|refine And.intro rfl ?_)) rfl ?_ ?_;all_goals (repeat' (first|exact trivial|(first|exact RenV.gsZ|exact RenV.eq rfl (nameless_strV _)|exact RenV.eq rfl (nameless_sc _))|(refine And.intro ?_ ?_)|(refine Exists.intro _ (And.intro rfl ?_))|(refine RenO.opt ?_)|(refine RenO.toOpt ?_)|(refine RenO.cells ?_)|exact RenO.defs|exact RenL.nil|(refine RenL.cons ?_ ?_)|(first|(first|exact RenV.gsZ|exact RenV.eq rfl (nameless_strV _)|exact RenV.eq rfl (nameless_sc _))|(with_reducible exact RenV.sc)|exact RenV.gsN|exact RenV.gsZ|exact RenV.gsL (by decide)|exact RenV.slL (by decide)|((first|refine RenV.gsE (by (first|exact mhA|exact mhB|exact mhC|(simp;done))) ?_|refine RenV.eq (scI_eq ?_) (nameless_sc _));(first|rfl|omega|(simp only [List.length_append,List.length_cons,List.length_nil,List.length_map,List.length_take,List.length_drop] <;> omega)|(simp only <;> omega)|(simp <;> omega)))|exact RenV.undef)|(with_unfolding_all exact (rfl : (_ : VObj) = _)))))
      rintro ⟨k, out, s2, ch⟩ ⟨h1, h2, h3⟩
      simp only at h1 h2 h3
      cases k with
      | zero => omega
      | succ k =>
        rw [chainD] at h1
        have kd := dcomp_call (s2.length + 1) 0 s2 (by omega) (by omega) (by omega)
        have hag := comp_agree s2
        have hcl := fun l r h => compD_len (s := s2) (n := s2.length + 1) (l := l) (r := r) h
        generalize compD (s2.length + 1) 0 s2 = cd at *
        cases cd with
        | err e =>
          have he := hag.2
          simp only at h1
          rw [← h1] at g1
          simp only at g1
          rw [← g1]
          repeat' (first|with_reducible refine And.intro ?_ ?_|((with_reducible intro hc);(try simp only [zA,zB,zC,zD,zE,zF,zG,zH,zI,zJ,zK,zL,zM,zN,zO,zP,zQ,zR,zS,zT,zU,zV,zW] at hc);(first|exact absurd rfl hc|exact absurd trivial hc|(exfalso;omega)|skip))|exact Is.mk rfl rfl|((conv => whnf);first|with_reducible refine And.intro ?_ ?_|with_reducible intro hx|exact Is.mk rfl rfl|(with_reducible first|apply Val.via|apply ValH.via)|refine ifB_intro ?_ ?_|refine xA (by omega) ?_|(refine xB ?_;intro kw hk1 hk2)|refine xC (by omega) ?_|refine xD ?_|refine xE (by omega) ?_|refine xF (by omega) ?_|refine xG ?_|refine xH ?_|refine xI (by omega) ?_|refine xJ (by omega) ?_|(with_reducible refine stopA ?_)|refine Exists.intro _ (And.intro (by (first|exact vat_of rfl rfl rfl|exact hc0|rfl)) ?_)|refine GOp.drawn (by rfl) (by rfl) (Nat.le_of_ble_eq_true (by rfl)) (by rfl)|refine GOp.via (by rfl) ?_|refine GWP.drawY mixed _ (by kernel_rfl) (by rfl) ?_|(refine GCall.mk ((kd _).mono ?_);rintro _ _ ⟨rfl,rfl⟩)|(with_reducible first|refine stopO ?_|refine stopE ?_|refine stopD ?_|refine stopW ?_|refine stopG ?_|refine stopC ?_|refine stopR ?_)))
          (all_goals (first|omega|contradiction|(exact absurd (hc.symm.trans heq) (by decide))|(rw [szS];simp only [List.length_cons];omega)|skip))
          exact Done'.mk frzE_err
        | ok l2 r2 =>
          have hr2 := hcl l2 r2 rfl
          have kb := fun H => blanks31_call r2 H (by omega)
          have hb2 := blS_len r2
          have hbs : blS r2 <:+ r2 := List.dropWhile_suffix _
          simp only at h1
          generalize blS r2 = b2 at *
          have hsn : (out ++ [(l2, ch)]).length = out.length + 1 := by simp
          cases b2 with
          | nil =>
            have e1 : endS [] = true := rfl
            rw [e1, if_pos rfl] at h1
            rw [← h1] at g1
            simp only at g1
            rw [← g1]
            repeat' (first|with_reducible refine And.intro ?_ ?_|((with_reducible intro hc);(try simp only [zA,zB,zC,zD,zE,zF,zG,zH,zI,zJ,zK,zL,zM,zN,zO,zP,zQ,zR,zS,zT,zU,zV,zW] at hc);(first|exact absurd rfl hc|exact absurd trivial hc|(exfalso;omega)|skip))|exact Is.mk rfl rfl|((conv => whnf);first|with_reducible refine And.intro ?_ ?_|with_reducible intro hx|exact Is.mk rfl rfl|(with_reducible first|apply Val.via|apply ValH.via)|refine ifB_intro ?_ ?_|refine xA (by omega) ?_|(refine xB ?_;intro kw hk1 hk2)|refine xC (by omega) ?_|refine xD ?_|refine xE (by omega) ?_|refine xF (by omega) ?_|refine xG ?_|refine xH ?_|refine xI (by omega) ?_|refine xJ (by omega) ?_|(with_reducible refine stopA ?_)|refine Exists.intro _ (And.intro (by (first|exact vat_of rfl rfl rfl|exact hc0|rfl)) ?_)|(first|(refine stopO (GOp'.grow rfl sty_F (d := .slice 51) Tryd.underlying45 (by intro k h;cases h) rfl (m := 1) (l := [.ro l2.length (rowsQ kD l2),booV ch]) (by rfl) (by rfl) rfl (by rw [rowsF_len]) (by first|omega|(simp only;omega)) (by first|omega|(simp only;omega)) ?_))|(refine stopO (GOp'.freeze (vs := rowsF (out ++ [(l2,ch)])) 56 (congrArg some (gs_eqE (by simp only [List.length_append,List.length_cons,List.length_nil]))) (congrArg (fun x => some (VObj.opt x)) (rowsF_snoc out (l2,ch))) (rowsF_len _) (GOp'.via (by rfl) ?_)))|(refine stopO (GOp'.grow rfl sty_E (d := .slice 45) Tryd.underlying30 (by intro k h;cases h) rfl (m := 1) (l := [chE (out ++ [(l2,ch)])]) (by rfl) (by rfl) rfl (by rw [rowsE_len];omega) (by first|omega|(simp only;omega)) (by first|omega|(simp only;omega)) ?_)))|refine GOp.drawn (by rfl) (by rfl) (Nat.le_of_ble_eq_true (by rfl)) (by rfl)|refine GOp.via (by rfl) ?_|refine GWP.drawY mixed _ (by kernel_rfl) (by rfl) ?_|(first|(refine GCall.mk ((kd _).mono ?_);rintro _ _ ⟨rfl,rfl⟩)|(refine GCall.mk ((kb _).mono ?_);rintro _ _ ⟨rfl,rfl⟩))|(with_reducible first|refine stopO ?_|refine stopE ?_|refine stopD ?_|refine stopW ?_|refine stopG ?_|refine stopC ?_|refine stopR ?_)))
            (all_goals (first|omega|contradiction|(exact absurd (hc.symm.trans heq) (by decide))|(rw [szS];simp only [List.length_cons];omega)|skip))
            exact Done'.mk (frzE_ok rfl (rowsE_snoc acc _) (by simp))
          | cons c q =>
            have hc0 : (c :: q)[0]? = some c := rfl
            have hcq : (c :: q).length = q.length + 1 := rfl
            by_cases h44 : c = 44
            · subst h44
              have e1 : endS (44 :: q) = true := rfl
              rw [e1, if_pos rfl] at h1
              rw [← h1] at g1
              simp only at g1
              repeat' (first|with_reducible refine And.intro ?_ ?_|((with_reducible intro hc);(try simp only [zA,zB,zC,zD,zE,zF,zG,zH,zI,zJ,zK,zL,zM,zN,zO,zP,zQ,zR,zS,zT,zU,zV,zW] at hc);(first|exact absurd rfl hc|exact absurd trivial hc|(exfalso;omega)|skip))|exact Is.mk rfl rfl|((conv => whnf);first|with_reducible refine And.intro ?_ ?_|with_reducible intro hx|exact Is.mk rfl rfl|(with_reducible first|apply Val.via|apply ValH.via)|refine ifB_intro ?_ ?_|refine xA (by omega) ?_|(refine xB ?_;intro kw hk1 hk2)|refine xC (by omega) ?_|refine xD ?_|refine xE (by omega) ?_|refine xF (by omega) ?_|refine xG ?_|refine xH ?_|refine xI (by omega) ?_|refine xJ (by omega) ?_|(with_reducible refine stopA ?_)|refine Exists.intro _ (And.intro (by (first|exact vat_of rfl rfl rfl|exact hc0|rfl)) ?_)|(first|(refine stopO (GOp'.grow rfl sty_F (d := .slice 51) Tryd.underlying45 (by intro k h;cases h) rfl (m := 1) (l := [.ro l2.length (rowsQ kD l2),booV ch]) (by rfl) (by rfl) rfl (by rw [rowsF_len]) (by first|omega|(simp only;omega)) (by first|omega|(simp only;omega)) ?_))|(refine stopO (GOp'.freeze (vs := rowsF (out ++ [(l2,ch)])) 56 (congrArg some (gs_eqE (by simp only [List.length_append,List.length_cons,List.length_nil]))) (congrArg (fun x => some (VObj.opt x)) (rowsF_snoc out (l2,ch))) (rowsF_len _) (GOp'.via (by rfl) ?_)))|(refine stopO (GOp'.grow rfl sty_E (d := .slice 45) Tryd.underlying30 (by intro k h;cases h) rfl (m := 1) (l := [chE (out ++ [(l2,ch)])]) (by rfl) (by rfl) rfl (by rw [rowsE_len];omega) (by first|omega|(simp only;omega)) (by first|omega|(simp only;omega)) ?_)))|refine GOp.drawn (by rfl) (by rfl) (Nat.le_of_ble_eq_true (by rfl)) (by rfl)|refine GOp.via (by rfl) ?_|refine GWP.drawY mixed _ (by kernel_rfl) (by rfl) ?_|(first|(refine GCall.mk ((kd _).mono ?_);rintro _ _ ⟨rfl,rfl⟩)|(refine GCall.mk ((kb _).mono ?_);rintro _ _ ⟨rfl,rfl⟩))|(with_reducible first|refine stopO ?_|refine stopE ?_|refine stopD ?_|refine stopW ?_|refine stopG ?_|refine stopC ?_|refine stopR ?_)))
              (all_goals (first|omega|contradiction|(exact absurd (hc.symm.trans heq) (by decide))|(rw [szS];simp only [List.length_cons];omega)|skip))
              focus (refine Done'.mk ⟨(m,acc ++ [out ++ [(l2,ch)]],q),⟨g1,by simp only;omega,by simp only [List.length_append,List.length_cons,List.length_nil];omega⟩,?_,KeptA.of [(8,2)] rfl rfl (by repeat' (first|exact trivial|refine And.intro rfl ?_)) rfl ?_ ?_⟩;(first|omega|(simp only;omega));all_goals (repeat' (first|exact trivial|(first|exact RenV.eq (eqZF h62z) (nameless_sc _)|exact RenL.eq (rowsF_snoc out (l2,ch)) (rowsF_nameless _)|exact RenL.eq (rowsE_snoc acc _) (rowsE_nameless _)|exact RenV.gsE (List.Mem.head _) (by simp only [List.length_append,List.length_cons,List.length_nil])|exact RenV.gsE (List.Mem.head _) rfl|exact RenV.gsL (by decide)|exact RenV.gsZ|exact RenV.eq (ext_eq (by rw [szS];simp)) (nameless_strV _)|exact RenV.eq rfl (nameless_strV _)|exact RenV.eq rfl (nameless_sc _))|(refine And.intro ?_ ?_)|(refine Exists.intro _ (And.intro rfl ?_))|(refine RenO.opt ?_)|(refine RenO.toOpt ?_)|(refine RenO.cells ?_)|exact RenO.defs|exact RenL.nil|(refine RenL.cons ?_ ?_)|(first|(first|exact RenV.eq (eqZF h62z) (nameless_sc _)|exact RenL.eq (rowsF_snoc out (l2,ch)) (rowsF_nameless _)|exact RenL.eq (rowsE_snoc acc _) (rowsE_nameless _)|exact RenV.gsE (List.Mem.head _) (by simp only [List.length_append,List.length_cons,List.length_nil])|exact RenV.gsE (List.Mem.head _) rfl|exact RenV.gsL (by decide)|exact RenV.gsZ|exact RenV.eq (ext_eq (by rw [szS];simp)) (nameless_strV _)|exact RenV.eq rfl (nameless_strV _)|exact RenV.eq rfl (nameless_sc _))|(with_reducible exact RenV.sc)|exact RenV.gsN|exact RenV.gsZ|exact RenV.gsL (by decide)|exact RenV.slL (by decide)|((first|refine RenV.gsE (by (first|exact mhA|exact mhB|exact mhC|(simp;done))) ?_|refine RenV.eq (scI_eq ?_) (nameless_sc _));(first|rfl|omega|(simp only [List.length_append,List.length_cons,List.length_nil,List.length_map,List.length_take,List.length_drop] <;> omega)|(simp only <;> omega)|(simp <;> omega)))|exact RenV.undef)|(with_unfolding_all exact (rfl : (_ : VObj) = _)))))
            · have e1 : endS (c :: q) = false := by simp [endS, h44]
              have h44z : ¬ (c.toNat : Int) = 44 := fun e => h44 (UInt8.toNat_inj.1 (Int.ofNat.inj e))
              rw [e1, if_neg (by simp)] at h1
              by_cases h62 : c = 62
              · subst h62
                have e2 : skipS [62] (62 :: q) = some q := rfl
                rw [e2] at h1
                simp only at h1
                have kq := fun H x (hx : x = strV q) => blX (H := H) hx (by omega)
                have hbq := blS_len q
                generalize blS q = q2 at *
                repeat' (first|with_reducible refine And.intro ?_ ?_|((with_reducible intro hc);(try simp only [zA,zB,zC,zD,zE,zF,zG,zH,zI,zJ,zK,zL,zM,zN,zO,zP,zQ,zR,zS,zT,zU,zV,zW] at hc);(first|exact absurd rfl hc|exact absurd trivial hc|(exfalso;omega)|skip))|exact Is.mk rfl rfl|((conv => whnf);first|with_reducible refine And.intro ?_ ?_|with_reducible intro hx|exact Is.mk rfl rfl|(with_reducible first|apply Val.via|apply ValH.via)|refine ifB_intro ?_ ?_|refine xA (by omega) ?_|(refine xB ?_;intro kw hk1 hk2)|refine xC (by omega) ?_|refine xD ?_|refine xE (by omega) ?_|refine xF (by omega) ?_|refine xG ?_|refine xH ?_|refine xI (by omega) ?_|refine xJ (by omega) ?_|(with_reducible refine stopA ?_)|refine Exists.intro _ (And.intro (by (first|exact vat_of rfl rfl rfl|exact hc0|rfl)) ?_)|(first|(refine stopO (GOp'.grow rfl sty_F (d := .slice 51) Tryd.underlying45 (by intro k h;cases h) rfl (m := 1) (l := [.ro l2.length (rowsQ kD l2),booV ch]) (by rfl) (by rfl) rfl (by rw [rowsF_len]) (by first|omega|(simp only;omega)) (by first|omega|(simp only;omega)) ?_)))|refine GOp.drawn (by rfl) (by rfl) (Nat.le_of_ble_eq_true (by rfl)) (by rfl)|refine GOp.via (by rfl) ?_|refine GWP.drawY mixed _ (by kernel_rfl) (by rfl) ?_|(first|(refine GCall.mk ((kd _).mono ?_);rintro _ _ ⟨rfl,rfl⟩)|(refine GCall.mk ((kb _).mono ?_);rintro _ _ ⟨rfl,rfl⟩)|(refine GCall.mk ((kq _ _ (ext_eq (by rw [szS];simp))).mono ?_);rintro _ _ ⟨rfl,rfl⟩))|(with_reducible first|refine stopO ?_|refine stopE ?_|refine stopD ?_|refine stopW ?_|refine stopG ?_|refine stopC ?_|refine stopR ?_)))
                (all_goals (first|omega|contradiction|(exact absurd (hc.symm.trans heq) (by decide))|(rw [szS];simp only [List.length_cons];omega)|skip))
                focus (refine Done'.mk ⟨(k,out ++ [(l2,ch)],q2,true),⟨h1,by simp only;omega,by simp only [List.length_append,List.length_cons,List.length_nil];omega⟩,?_,KeptA.of [(6,4)] rfl rfl (by repeat' (first|exact trivial|refine And.intro rfl ?_)) rfl ?_ ?_⟩;(first|omega|(simp only;omega));all_goals (repeat' (first|exact trivial|(first|exact RenV.eq (eqZF h62z) (nameless_sc _)|exact RenL.eq (rowsF_snoc out (l2,ch)) (rowsF_nameless _)|exact RenL.eq (rowsE_snoc acc _) (rowsE_nameless _)|exact RenV.gsE (List.Mem.head _) (by simp only [List.length_append,List.length_cons,List.length_nil])|exact RenV.gsE (List.Mem.head _) rfl|exact RenV.gsL (by decide)|exact RenV.gsZ|exact RenV.eq (ext_eq (by rw [szS];simp)) (nameless_strV _)|exact RenV.eq rfl (nameless_strV _)|exact RenV.eq rfl (nameless_sc _))|(refine And.intro ?_ ?_)|(refine Exists.intro _ (And.intro rfl ?_))|(refine RenO.opt ?_)|(refine RenO.toOpt ?_)|(refine RenO.cells ?_)|exact RenO.defs|exact RenL.nil|(refine RenL.cons ?_ ?_)|(first|(first|exact RenV.eq (eqZF h62z) (nameless_sc _)|exact RenL.eq (rowsF_snoc out (l2,ch)) (rowsF_nameless _)|exact RenL.eq (rowsE_snoc acc _) (rowsE_nameless _)|exact RenV.gsE (List.Mem.head _) (by simp only [List.length_append,List.length_cons,List.length_nil])|exact RenV.gsE (List.Mem.head _) rfl|exact RenV.gsL (by decide)|exact RenV.gsZ|exact RenV.eq (ext_eq (by rw [szS];simp)) (nameless_strV _)|exact RenV.eq rfl (nameless_strV _)|exact RenV.eq rfl (nameless_sc _))|(with_reducible exact RenV.sc)|exact RenV.gsN|exact RenV.gsZ|exact RenV.gsL (by decide)|exact RenV.slL (by decide)|((first|refine RenV.gsE (by (first|exact mhA|exact mhB|exact mhC|(simp;done))) ?_|refine RenV.eq (scI_eq ?_) (nameless_sc _));(first|rfl|omega|(simp only [List.length_append,List.length_cons,List.length_nil,List.length_map,List.length_take,List.length_drop] <;> omega)|(simp only <;> omega)|(simp <;> omega)))|exact RenV.undef)|(with_unfolding_all exact (rfl : (_ : VObj) = _)))))
              · have e2 : skipS [62] (c :: q) = none := by
                  unfold skipS
                  rw [if_neg (by simp [List.isPrefixOf, Ne.symm h62])]
                have h62z : ¬ (c.toNat : Int) = 62 := fun e => h62 (UInt8.toNat_inj.1 (Int.ofNat.inj e))
                rw [e2] at h1
                simp only at h1
                by_cases hbr : c :: q = r2
                · rw [if_pos hbr] at h1
                  rw [← h1] at g1
                  simp only at g1
                  rw [← g1]
                  subst hbr
                  have heq : ((c :: q) == (c :: q)) = true := by simp
                  repeat' (first|with_reducible refine And.intro ?_ ?_|((with_reducible intro hc);(try simp only [zA,zB,zC,zD,zE,zF,zG,zH,zI,zJ,zK,zL,zM,zN,zO,zP,zQ,zR,zS,zT,zU,zV,zW] at hc);(first|exact absurd rfl hc|exact absurd trivial hc|(exfalso;omega)|skip))|exact Is.mk rfl rfl|((conv => whnf);first|with_reducible refine And.intro ?_ ?_|with_reducible intro hx|exact Is.mk rfl rfl|(with_reducible first|apply Val.via|apply ValH.via)|refine ifB_intro ?_ ?_|refine xA (by omega) ?_|(refine xB ?_;intro kw hk1 hk2)|refine xC (by omega) ?_|refine xD ?_|refine xE (by omega) ?_|refine xF (by omega) ?_|refine xG ?_|refine xH ?_|refine xI (by omega) ?_|refine xJ (by omega) ?_|(with_reducible refine stopA ?_)|refine Exists.intro _ (And.intro (by (first|exact vat_of rfl rfl rfl|exact hc0|rfl)) ?_)|(first|(refine stopO (GOp'.grow rfl sty_F (d := .slice 51) Tryd.underlying45 (by intro k h;cases h) rfl (m := 1) (l := [.ro l2.length (rowsQ kD l2),booV ch]) (by rfl) (by rfl) rfl (by rw [rowsF_len]) (by first|omega|(simp only;omega)) (by first|omega|(simp only;omega)) ?_)))|refine GOp.drawn (by rfl) (by rfl) (Nat.le_of_ble_eq_true (by rfl)) (by rfl)|refine GOp.via (by rfl) ?_|refine GWP.drawY mixed _ (by kernel_rfl) (by rfl) ?_|(first|(refine GCall.mk ((kd _).mono ?_);rintro _ _ ⟨rfl,rfl⟩)|(refine GCall.mk ((kb _).mono ?_);rintro _ _ ⟨rfl,rfl⟩))|(with_reducible first|refine stopO ?_|refine stopE ?_|refine stopD ?_|refine stopW ?_|refine stopG ?_|refine stopC ?_|refine stopR ?_)))
                  (all_goals (first|omega|contradiction|(exact absurd (hc.symm.trans heq) (by decide))|(rw [szS];simp only [List.length_cons];omega)|skip))
                  exact Done'.mk frzE_err
                · rw [if_neg hbr] at h1
                  have heq : ((c :: q) == r2) = false := by simp [hbr]
                  have hlt : (c :: q).length < r2.length := by
                    have hne : (c :: q).length ≠ r2.length := fun e => hbr (hbs.eq_of_length e)
                    omega
                  repeat' (first|with_reducible refine And.intro ?_ ?_|((with_reducible intro hc);(try simp only [zA,zB,zC,zD,zE,zF,zG,zH,zI,zJ,zK,zL,zM,zN,zO,zP,zQ,zR,zS,zT,zU,zV,zW] at hc);(first|exact absurd rfl hc|exact absurd trivial hc|(exfalso;omega)|skip))|exact Is.mk rfl rfl|((conv => whnf);first|with_reducible refine And.intro ?_ ?_|with_reducible intro hx|exact Is.mk rfl rfl|(with_reducible first|apply Val.via|apply ValH.via)|refine ifB_intro ?_ ?_|refine xA (by omega) ?_|(refine xB ?_;intro kw hk1 hk2)|refine xC (by omega) ?_|refine xD ?_|refine xE (by omega) ?_|refine xF (by omega) ?_|refine xG ?_|refine xH ?_|refine xI (by omega) ?_|refine xJ (by omega) ?_|(with_reducible refine stopA ?_)|refine Exists.intro _ (And.intro (by (first|exact vat_of rfl rfl rfl|exact hc0|rfl)) ?_)|(first|(refine stopO (GOp'.grow rfl sty_F (d := .slice 51) Tryd.underlying45 (by intro k h;cases h) rfl (m := 1) (l := [.ro l2.length (rowsQ kD l2),booV ch]) (by rfl) (by rfl) rfl (by rw [rowsF_len]) (by first|omega|(simp only;omega)) (by first|omega|(simp only;omega)) ?_)))|refine GOp.drawn (by rfl) (by rfl) (Nat.le_of_ble_eq_true (by rfl)) (by rfl)|refine GOp.via (by rfl) ?_|refine GWP.drawY mixed _ (by kernel_rfl) (by rfl) ?_|(first|(refine GCall.mk ((kd _).mono ?_);rintro _ _ ⟨rfl,rfl⟩)|(refine GCall.mk ((kb _).mono ?_);rintro _ _ ⟨rfl,rfl⟩))|(with_reducible first|refine stopO ?_|refine stopE ?_|refine stopD ?_|refine stopW ?_|refine stopG ?_|refine stopC ?_|refine stopR ?_)))
                  (all_goals (first|omega|contradiction|(exact absurd (hc.symm.trans heq) (by decide))|(rw [szS];simp only [List.length_cons];omega)|skip))
                  focus (refine Done'.mk ⟨(k,out ++ [(l2,ch)],c :: q,false),⟨h1,by simp only;omega,by simp only [List.length_append,List.length_cons,List.length_nil] at hcq hlt ⊢;omega⟩,?_,KeptA.of [(6,4)] rfl rfl (by repeat' (first|exact trivial|refine And.intro rfl ?_)) rfl ?_ ?_⟩;(first|omega|(simp only;omega));all_goals (repeat' (first|exact trivial|(first|exact RenV.eq (eqZF h62z) (nameless_sc _)|exact RenL.eq (rowsF_snoc out (l2,ch)) (rowsF_nameless _)|exact RenL.eq (rowsE_snoc acc _) (rowsE_nameless _)|exact RenV.gsE (List.Mem.head _) (by simp only [List.length_append,List.length_cons,List.length_nil])|exact RenV.gsE (List.Mem.head _) rfl|exact RenV.gsL (by decide)|exact RenV.gsZ|exact RenV.eq (ext_eq (by rw [szS];simp)) (nameless_strV _)|exact RenV.eq rfl (nameless_strV _)|exact RenV.eq rfl (nameless_sc _))|(refine And.intro ?_ ?_)|(refine Exists.intro _ (And.intro rfl ?_))|(refine RenO.opt ?_)|(refine RenO.toOpt ?_)|(refine RenO.cells ?_)|exact RenO.defs|exact RenL.nil|(refine RenL.cons ?_ ?_)|(first|(first|exact RenV.eq (eqZF h62z) (nameless_sc _)|exact RenL.eq (rowsF_snoc out (l2,ch)) (rowsF_nameless _)|exact RenL.eq (rowsE_snoc acc _) (rowsE_nameless _)|exact RenV.gsE (List.Mem.head _) (by simp only [List.length_append,List.length_cons,List.length_nil])|exact RenV.gsE (List.Mem.head _) rfl|exact RenV.gsL (by decide)|exact RenV.gsZ|exact RenV.eq (ext_eq (by rw [szS];simp)) (nameless_strV _)|exact RenV.eq rfl (nameless_strV _)|exact RenV.eq rfl (nameless_sc _))|(with_reducible exact RenV.sc)|exact RenV.gsN|exact RenV.gsZ|exact RenV.gsL (by decide)|exact RenV.slL (by decide)|((first|refine RenV.gsE (by (first|exact mhA|exact mhB|exact mhC|(simp;done))) ?_|refine RenV.eq (scI_eq ?_) (nameless_sc _));(first|rfl|omega|(simp only [List.length_append,List.length_cons,List.length_nil,List.length_map,List.length_take,List.length_drop] <;> omega)|(simp only <;> omega)|(simp <;> omega)))|exact RenV.undef)|(with_unfolding_all exact (rfl : (_ : VObj) = _)))))
end Go.Proofs.YthjfobafdclafaaDoor

