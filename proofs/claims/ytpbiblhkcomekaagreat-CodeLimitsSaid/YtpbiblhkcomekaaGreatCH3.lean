import Derived.Test.YtpbiblhkcomekaaGreatCE5
import Derived.Test.YtpbiblhkcomekaaGreatCH2
/- A statement and a block, walked. -/
namespace Go.Proofs.YtpbiblhkcomekaaGreat
open Go Go.RowKit
set_option linter.unusedSimpArgs false
set_option linter.unusedVariables false
set_option maxRecDepth 100000
set_option maxHeartbeats 8000000
theorem stmtS_lt {bl : PSt → Nd × PSt} (hb : ∀ s, Ok s (bl s).2) (s : PSt) (h : (stmtS bl s).2.e = 0) : (stmtS bl s).2.l.length < s.l.length := by
  unfold stmtS at h ⊢
  split
  · rename_i hc
    have := (isS_lt hc).1
    have := (ifS_ok hb (isS [105, 102] s).2).len
    omega
  · rename_i hc
    rw [if_neg hc] at h
    split
    · rename_i hc2
      have := (isS_lt hc2).1
      have := ((exS_ok (isS [119, 104, 105, 108, 101] s).2).trans (hb _)).len
      simp only
      omega
    · rename_i hc2
      rw [if_neg hc2] at h
      split
      · rename_i hc3
        have := (isS_lt hc3).1
        have := (mustS_ok [59] (isS [115, 116, 111, 112] s).2).len
        simp only
        omega
      · rename_i hc3
        rw [if_neg hc3] at h
        split
        · rename_i hc4
          rw [if_pos hc4] at h
          have h1 := (mustS_lt h).1
          have h2 := (((nmS_ok s).trans (mustS_ok [61] _)).trans (exS_ok _)).len
          simp only
          omega
        · rename_i hc4
          rw [if_neg hc4] at h
          have h1 := (mustS_lt h).1
          have h2 := (exS_ok s).len
          simp only
          omega
theorem frz_two {m : Nat} {K : Heap} {b : Nat} {vs : List VV} (op : Nat) (t : List UInt8) (n : Nat) (k : List Nd) {c : Nat} (hc : c = k.length) (hg : K.get b = some (.opt vs)) (hv : vs = rowsN k) : FrzB m K (.ag [iV op, strV t, iV n, .gs b c 4]) (nV (.mk op t n k)) := by
  subst hv hc
  rw [nV, cellsN]
  exact (Frz.agT (.cons (.of (nameless_sc _)) (.cons (.of (nameless_strV _)) (.cons (.of (nameless_sc _)) (.cons (Frz.gs hg (rowsN_len k) (rowsN_nameless k)) .nil))))).toB
theorem stmt_call (bl : PSt → Nd × PSt) (N : Nat) (hN : N ≤ 30000) (hok : ∀ s, Ok s (bl s).2)
    (hbl : ∀ s, WfL s.l → s.l.length < N → s.d ≤ 16 → PCall 75 [] s (nV (bl s).1) (bl s).2) (s : PSt) (hw : WfL s.l) (hn : s.l.length < N + 1) (hd : s.d ≤ 16) :
    PCall 147 [] s (nV (stmtS bl s).1) (stmtS bl s).2 := by
  refine PCall.of ?_
  have ki := fun (x : List UInt8) (s2 : PSt) (h1 : WfL s2.l) (h2 : s2.l.length < N + 1) (H : Heap) (hb : H.get 0 = some (pC s2)) => PCall.at (nameless_sc _) (by simp [nameless_strV]) (is_call x s2 h1 (by omega)) hb
  have km := fun (x : List UInt8) (s2 : PSt) (h1 : WfL s2.l) (h2 : s2.l.length < N + 1) (H : Heap) (hb : H.get 0 = some (pC s2)) => PCall.at (nameless_tp (by simp)) (by simp [nameless_strV]) (must_call x s2 h1 (by omega)) hb
  have kb := fun (s2 : PSt) (h1 : WfL s2.l) (h2 : s2.l.length < N) (h3 : s2.d ≤ 16) (H : Heap) (hb : H.get 0 = some (pC s2)) => PCall.at (nameless_nV _) (by simp) (hbl s2 h1 h2 h3) hb
  have ke := fun (s2 : PSt) (h1 : WfL s2.l) (h2 : s2.l.length < N + 1) (h3 : s2.d ≤ 16) (H : Heap) (hb : H.get 0 = some (pC s2)) => PCall.at (nameless_nV _) (by simp) (ex_call s2 h1 (by omega) h3) hb
  have kn := fun (H : Heap) (hb : H.get 0 = some (pC s)) => PCall.at (nameless_strV _) (by simp) (pname_call s hw (by omega)) hb
  have r00 : True := trivial
  have r10 : True := trivial
  have r11 : True := trivial
  have ka := ki [105, 102] s hw hn
  have na := isS_no (x := [105, 102]) (s := s)
  have oa := isS_ok [105, 102] s
  have la := isS_lt (x := [105, 102]) (s := s)
  unfold stmtS
  cases hca : (isS [105, 102] s).1 with
  | true =>
    rw [hca] at ka
    rw [if_pos rfl]
    have la := (la hca).1
    generalize (isS [105, 102] s).2 = s1 at *
    have w1 := oa.wf hw
    have d1 := oa.dep
    have k1 := ke s1 w1 (by omega) (by omega)
    have o1 := exS_ok s1
    unfold ifS
    cases hq1 : exS s1 with
    | mk n1 s2 =>
    rw [hq1] at k1 o1
    obtain ⟨op1, tx1, nm1, ks1⟩ := n1
    simp only [nV, cellsN] at k1 o1 ⊢
    have w2 := o1.wf w1
    have l2 := o1.len
    have d2 := o1.dep
    have k2 := kb s2 w2 (by omega) (by omega)
    have o2 := hok s2
    cases hq2 : bl s2 with
    | mk n2 s3 =>
    rw [hq2] at k2 o2
    obtain ⟨op2, tx2, nm2, ks2⟩ := n2
    simp only [nV, cellsN] at k2 o2 ⊢
    have w3 := o2.wf w2
    have l3 := o2.len
    have d3 := o2.dep
    have k3 := ki [101, 108, 115, 101] s3 w3 (by omega)
    have n3 := isS_no (x := [101, 108, 115, 101]) (s := s3)
    have o3 := isS_ok [101, 108, 115, 101] s3
    have l3b := isS_lt (x := [101, 108, 115, 101]) (s := s3)
    cases hc3 : (isS [101, 108, 115, 101] s3).1 with
    | true =>
      rw [hc3] at k3
      rw [if_pos rfl]
      have l3b := (l3b hc3).1
      generalize (isS [101, 108, 115, 101] s3).2 = s4 at *
      have w4 := o3.wf w3
      have d4 := o3.dep
      have k4 := kb s4 w4 (by omega) (by omega)
      cases hq4 : bl s4 with
      | mk n4 s5 =>
      rw [hq4] at k4
      obtain ⟨op4, tx4, nm4, ks4⟩ := n4
      simp only [nV, cellsN] at k4 ⊢
      refine VCall.go Tryz.func147 rfl ?_
      (repeat' (first|with_reducible refine And.intro ?_ ?_|(with_reducible intro hc;(try simp only [zz] at hc);try exact ct)|exact Is.mk rfl rfl|((conv => whnf);first|with_reducible refine And.intro ?_ ?_|with_reducible intro hx|exact Is.mk rfl rfl|(with_reducible first|apply Val.via|apply ValH.via)|refine sp ?_|refine vx (by (first|exact vat_nd rfl rfl|exact vat_of rfl r00 rfl|exact vat_of rfl r10 rfl|exact vat_of rfl r11 rfl|exact vat_of rfl rfl rfl|rfl)) ?_|(first|refine cl (ka _ rfl) ?_|refine cl (k1 _ rfl) ?_)|refine sq ?_)))
      (all_goals (first|omega|contradiction|skip))
      (refine GWP'.mk (GWP.drawM mixed 100 [3, 5, 7] (fun H => [⟨(0, pC s3) :: restO [0] H.objs, H.next⟩, ((⟨(0, pC s3) :: restO [0] H.objs, H.next⟩ : Heap).del 2).add (.opt ([iV op1, strV tx1, iV nm1, .ro (List.length ks1) (rowsN ks1)] ++ [iV op2, strV tx2, iV nm2, .ro (List.length ks2) (rowsN ks2)])), (((⟨(0, pC s3) :: restO [0] H.objs, H.next⟩ : Heap).del 2).add (.opt ([iV op1, strV tx1, iV nm1, .ro (List.length ks1) (rowsN ks1)] ++ [iV op2, strV tx2, iV nm2, .ro (List.length ks2) (rowsN ks2)]))).set 3 (.cells true [iV 5, strV [], iV 0, .gs H.next 2 4])]) (by kernel_rfl) (by rfl) ?_))
      repeat' (first|with_reducible refine And.intro ?_ ?_|(with_reducible intro hc;(try simp only [zz] at hc);try exact ct)|exact Is.mk rfl rfl|exact trivial|((conv => whnf);first|with_reducible refine And.intro ?_ ?_|with_reducible intro hx|exact Is.mk rfl rfl|exact trivial|(with_reducible first|apply Val.via|apply ValH.via)|(first|refine GOp.drawn1 (n := .mk op2 tx2 nm2 ks2) (by rfl) (by rfl) (by rfl)|(refine stopO (GOp'.growS rfl sty_N (d := .slice 63) Tryz.underlying61 (by intro k h;cases h) rfl (m := 1) (l := [iV op2,strV tx2,iV nm2,.ro (List.length ks2) (rowsN ks2)]) (vs := [iV op1,strV tx1,iV nm1,.ro (List.length ks1) (rowsN ks1)]) (by rfl) (by rfl) rfl (by rfl) (by decide) (by decide) ?_)))|refine sp ?_|refine vx (by (first|exact vat_nd rfl rfl|exact vat_of rfl r00 rfl|exact vat_of rfl r10 rfl|exact vat_of rfl r11 rfl|exact vat_of rfl rfl rfl|rfl)) ?_|(first|refine cl (k2 _ rfl) ?_|refine cl (k3 _ rfl) ?_)|refine sq ?_))
      (all_goals (first|omega|contradiction|skip))
      (refine GWP'.mk (GWP.drawM mixed 100 [3, 5, 7] (fun H => [⟨(0, pC s5) :: restO [0] H.objs, H.next⟩, ((⟨(0, pC s5) :: restO [0] H.objs, H.next⟩ : Heap).del 4).add (.opt (([iV op1, strV tx1, iV nm1, .ro (List.length ks1) (rowsN ks1)] ++ [iV op2, strV tx2, iV nm2, .ro (List.length ks2) (rowsN ks2)]) ++ [iV op4, strV tx4, iV nm4, .ro (List.length ks4) (rowsN ks4)])), (((⟨(0, pC s5) :: restO [0] H.objs, H.next⟩ : Heap).del 4).add (.opt (([iV op1, strV tx1, iV nm1, .ro (List.length ks1) (rowsN ks1)] ++ [iV op2, strV tx2, iV nm2, .ro (List.length ks2) (rowsN ks2)]) ++ [iV op4, strV tx4, iV nm4, .ro (List.length ks4) (rowsN ks4)]))).set 3 (.cells true [iV 5, strV [], iV 0, .gs H.next 3 4])]) (by kernel_rfl) (by rfl) ?_))
      repeat' (first|with_reducible refine And.intro ?_ ?_|(with_reducible intro hc;(try simp only [zz] at hc);try exact ct)|exact Is.mk rfl rfl|exact trivial|((conv => whnf);first|with_reducible refine And.intro ?_ ?_|with_reducible intro hx|exact Is.mk rfl rfl|exact trivial|(with_reducible first|apply Val.via|apply ValH.via)|(refine GOp.drawn1 (n := .mk op4 tx4 nm4 ks4) (by rfl) (by rfl) (by rfl))|refine sp ?_|refine vx (by (first|exact vat_nd rfl rfl|exact vat_of rfl r00 rfl|exact vat_of rfl r10 rfl|exact vat_of rfl r11 rfl|exact vat_of rfl rfl rfl|rfl)) ?_|(first|refine cl (k4 _ rfl) ?_|(refine stopO (GOp'.grow rfl sty_N (d := .slice 63) Tryz.underlying61 (by intro k h;cases h) rfl (m := 1) (l := [iV op4,strV tx4,iV nm4,.ro (List.length ks4) (rowsN ks4)]) (vs := ([iV op1,strV tx1,iV nm1,.ro (List.length ks1) (rowsN ks1)] ++ [iV op2,strV tx2,iV nm2,.ro (List.length ks2) (rowsN ks2)])) (by rfl) (by rfl) rfl (by rfl) (by decide) (by decide) ?_)))|refine sq ?_))
      (all_goals (first|omega|contradiction|skip))
      all_goals exact Done'.mk ⟨frz_two 5 [] 0 [.mk op1 tx1 nm1 ks1, .mk op2 tx2 nm2 ks2, .mk op4 tx4 nm4 ks4] rfl rfl (by simp only [rowsN, cellsN]; rfl), rfl⟩
    | false =>
      rw [hc3, n3 hc3] at k3
      rw [if_neg (by decide)]
      refine VCall.go Tryz.func147 rfl ?_
      (repeat' (first|with_reducible refine And.intro ?_ ?_|(with_reducible intro hc;(try simp only [zz] at hc);try exact ct)|exact Is.mk rfl rfl|((conv => whnf);first|with_reducible refine And.intro ?_ ?_|with_reducible intro hx|exact Is.mk rfl rfl|(with_reducible first|apply Val.via|apply ValH.via)|refine sp ?_|refine vx (by (first|exact vat_nd rfl rfl|exact vat_of rfl r00 rfl|exact vat_of rfl r10 rfl|exact vat_of rfl r11 rfl|exact vat_of rfl rfl rfl|rfl)) ?_|(first|refine cl (ka _ rfl) ?_|refine cl (k1 _ rfl) ?_)|refine sq ?_)))
      (all_goals (first|omega|contradiction|skip))
      (refine GWP'.mk (GWP.drawM mixed 100 [3, 5, 7] (fun H => [⟨(0, pC s3) :: restO [0] H.objs, H.next⟩, ((⟨(0, pC s3) :: restO [0] H.objs, H.next⟩ : Heap).del 2).add (.opt ([iV op1, strV tx1, iV nm1, .ro (List.length ks1) (rowsN ks1)] ++ [iV op2, strV tx2, iV nm2, .ro (List.length ks2) (rowsN ks2)])), (((⟨(0, pC s3) :: restO [0] H.objs, H.next⟩ : Heap).del 2).add (.opt ([iV op1, strV tx1, iV nm1, .ro (List.length ks1) (rowsN ks1)] ++ [iV op2, strV tx2, iV nm2, .ro (List.length ks2) (rowsN ks2)]))).set 3 (.cells true [iV 5, strV [], iV 0, .gs H.next 2 4])]) (by kernel_rfl) (by rfl) ?_))
      repeat' (first|with_reducible refine And.intro ?_ ?_|(with_reducible intro hc;(try simp only [zz] at hc);try exact ct)|exact Is.mk rfl rfl|exact trivial|((conv => whnf);first|with_reducible refine And.intro ?_ ?_|with_reducible intro hx|exact Is.mk rfl rfl|exact trivial|(with_reducible first|apply Val.via|apply ValH.via)|(first|refine GOp.drawn1 (n := .mk op2 tx2 nm2 ks2) (by rfl) (by rfl) (by rfl)|(refine stopO (GOp'.growS rfl sty_N (d := .slice 63) Tryz.underlying61 (by intro k h;cases h) rfl (m := 1) (l := [iV op2,strV tx2,iV nm2,.ro (List.length ks2) (rowsN ks2)]) (vs := [iV op1,strV tx1,iV nm1,.ro (List.length ks1) (rowsN ks1)]) (by rfl) (by rfl) rfl (by rfl) (by decide) (by decide) ?_)))|refine sp ?_|refine vx (by (first|exact vat_nd rfl rfl|exact vat_of rfl r00 rfl|exact vat_of rfl r10 rfl|exact vat_of rfl r11 rfl|exact vat_of rfl rfl rfl|rfl)) ?_|(first|refine cl (k2 _ rfl) ?_|refine cl (k3 _ rfl) ?_)|refine sq ?_))
      (all_goals (first|omega|contradiction|skip))
      all_goals exact Done'.mk ⟨frz_two 5 [] 0 [.mk op1 tx1 nm1 ks1, .mk op2 tx2 nm2 ks2] rfl rfl (by simp only [rowsN, cellsN]; rfl), rfl⟩
  | false =>
    rw [hca, na hca] at ka
    rw [if_neg (by decide)]
    have kw := ki [119, 104, 105, 108, 101] s hw hn
    have nw := isS_no (x := [119, 104, 105, 108, 101]) (s := s)
    have ow := isS_ok [119, 104, 105, 108, 101] s
    have lw := isS_lt (x := [119, 104, 105, 108, 101]) (s := s)
    cases hcw : (isS [119, 104, 105, 108, 101] s).1 with
    | true =>
      rw [hcw] at kw
      rw [if_pos rfl]
      have lw := (lw hcw).1
      generalize (isS [119, 104, 105, 108, 101] s).2 = s1 at *
      have w1 := ow.wf hw
      have d1 := ow.dep
      have k1 := ke s1 w1 (by omega) (by omega)
      have o1 := exS_ok s1
      cases hq1 : exS s1 with
      | mk n1 s2 =>
      rw [hq1] at k1 o1
      obtain ⟨op1, tx1, nm1, ks1⟩ := n1
      simp only [nV, cellsN] at k1 o1 ⊢
      have w2 := o1.wf w1
      have l2 := o1.len
      have d2 := o1.dep
      have k2 := kb s2 w2 (by omega) (by omega)
      cases hq2 : bl s2 with
      | mk n2 s3 =>
      rw [hq2] at k2
      obtain ⟨op2, tx2, nm2, ks2⟩ := n2
      simp only [nV, cellsN] at k2 ⊢
      refine VCall.go Tryz.func147 rfl ?_
      (repeat' (first|with_reducible refine And.intro ?_ ?_|(with_reducible intro hc;(try simp only [zz] at hc);try exact ct)|exact Is.mk rfl rfl|((conv => whnf);first|with_reducible refine And.intro ?_ ?_|with_reducible intro hx|exact Is.mk rfl rfl|(with_reducible first|apply Val.via|apply ValH.via)|refine sp ?_|refine vx (by (first|exact vat_nd rfl rfl|exact vat_of rfl r00 rfl|exact vat_of rfl r10 rfl|exact vat_of rfl r11 rfl|exact vat_of rfl rfl rfl|rfl)) ?_|(first|refine cl (ka _ rfl) ?_|refine cl (kw _ rfl) ?_|refine cl (k1 _ rfl) ?_)|refine sq ?_)))
      (all_goals (first|omega|contradiction|skip))
      (refine GWP'.mk (GWP.drawM mixed 100 [3, 5, 7] (fun H => [⟨(0, pC s3) :: restO [0] H.objs, H.next⟩, ((⟨(0, pC s3) :: restO [0] H.objs, H.next⟩ : Heap).del 2).add (.opt ([iV op1, strV tx1, iV nm1, .ro (List.length ks1) (rowsN ks1)] ++ [iV op2, strV tx2, iV nm2, .ro (List.length ks2) (rowsN ks2)])), (((⟨(0, pC s3) :: restO [0] H.objs, H.next⟩ : Heap).del 2).add (.opt ([iV op1, strV tx1, iV nm1, .ro (List.length ks1) (rowsN ks1)] ++ [iV op2, strV tx2, iV nm2, .ro (List.length ks2) (rowsN ks2)]))).set 3 (.cells true [iV 6, strV [], iV 0, .gs H.next 2 4])]) (by kernel_rfl) (by rfl) ?_))
      repeat' (first|with_reducible refine And.intro ?_ ?_|(with_reducible intro hc;(try simp only [zz] at hc);try exact ct)|exact Is.mk rfl rfl|exact trivial|((conv => whnf);first|with_reducible refine And.intro ?_ ?_|with_reducible intro hx|exact Is.mk rfl rfl|exact trivial|(with_reducible first|apply Val.via|apply ValH.via)|(first|refine GOp.drawn1 (n := .mk op2 tx2 nm2 ks2) (by rfl) (by rfl) (by rfl)|(refine stopO (GOp'.growS rfl sty_N (d := .slice 63) Tryz.underlying61 (by intro k h;cases h) rfl (m := 1) (l := [iV op2,strV tx2,iV nm2,.ro (List.length ks2) (rowsN ks2)]) (vs := [iV op1,strV tx1,iV nm1,.ro (List.length ks1) (rowsN ks1)]) (by rfl) (by rfl) rfl (by rfl) (by decide) (by decide) ?_)))|refine sp ?_|refine vx (by (first|exact vat_nd rfl rfl|exact vat_of rfl r00 rfl|exact vat_of rfl r10 rfl|exact vat_of rfl r11 rfl|exact vat_of rfl rfl rfl|rfl)) ?_|(first|refine cl (k2 _ rfl) ?_)|refine sq ?_))
      (all_goals (first|omega|contradiction|skip))
      all_goals exact Done'.mk ⟨frz_two 6 [] 0 [.mk op1 tx1 nm1 ks1, .mk op2 tx2 nm2 ks2] rfl rfl (by simp only [rowsN, cellsN]; rfl), rfl⟩
    | false =>
      rw [hcw, nw hcw] at kw
      rw [if_neg (by decide)]
      have kz := ki [115, 116, 111, 112] s hw hn
      have nz := isS_no (x := [115, 116, 111, 112]) (s := s)
      have oz := isS_ok [115, 116, 111, 112] s
      cases hcz : (isS [115, 116, 111, 112] s).1 with
      | true =>
        rw [hcz] at kz
        rw [if_pos rfl]
        have lz := oz.len
        generalize (isS [115, 116, 111, 112] s).2 = s1 at *
        have w1 := oz.wf hw
        have k1 := km [59] s1 w1 (by omega)
        refine VCall.go Tryz.func147 rfl ?_
        (repeat' (first|with_reducible refine And.intro ?_ ?_|(with_reducible intro hc;(try simp only [zz] at hc);try exact ct)|exact Is.mk rfl rfl|((conv => whnf);first|with_reducible refine And.intro ?_ ?_|with_reducible intro hx|exact Is.mk rfl rfl|(with_reducible first|apply Val.via|apply ValH.via)|refine sp ?_|refine vx (by (first|exact vat_nd rfl rfl|exact vat_of rfl r00 rfl|exact vat_of rfl r10 rfl|exact vat_of rfl r11 rfl|exact vat_of rfl rfl rfl|rfl)) ?_|(first|refine cl (ka _ rfl) ?_|refine cl (kw _ rfl) ?_|refine cl (kz _ rfl) ?_|refine cl (k1 _ rfl) ?_)|refine sq ?_)))
        (all_goals (first|omega|contradiction|skip))
        all_goals exact Done'.mk ⟨frz_leaf 7 [] 0, rfl⟩
      | false =>
        rw [hcz, nz hcz] at kz
        rw [if_neg (by decide)]
        clear oa la ow lw oz na nw nz
        have o1 := nmS_ok s
        have k2 := ke s hw hn hd
        have o2 := exS_ok s
        obtain ⟨l, d, e⟩ := s
        simp only at hw hn hd
        obtain ⟨g, a, r, rfl⟩ := hw.ne
        obtain ⟨kd, tx, nm⟩ := g
        have r00 : (rowsG ((⟨kd, tx, nm⟩, a) :: r))[0]? = some (iV kd) := rfl
        by_cases hset : isSet ⟨(⟨kd, tx, nm⟩, a) :: r, d, e⟩ = true
        · rw [if_pos hset]
          cases r with
          | nil => cases hset
          | cons q r2 =>
            obtain ⟨⟨kd2, tx2, nm2⟩, a2⟩ := q
            simp only [isSet, Bool.and_eq_true, decide_eq_true_eq] at hset
            obtain ⟨⟨rfl, rfl⟩, rfl⟩ := hset
            have hlc : ((⟨1, tx, nm⟩, a) :: (⟨5, [61], nm2⟩, a2) :: r2 : List (Sg × Nat)).length = r2.length + 2 := rfl
            have r10 : (rowsG ((⟨1, tx, nm⟩, a) :: (⟨5, [61], nm2⟩, a2) :: r2))[4]? = some (iV 5) := rfl
            have r11 : (rowsG ((⟨1, tx, nm⟩, a) :: (⟨5, [61], nm2⟩, a2) :: r2))[5]? = some (strV [61]) := rfl
            generalize hst : (⟨(⟨1, tx, nm⟩, a) :: (⟨5, [61], nm2⟩, a2) :: r2, d, e⟩ : PSt) = s at *
            cases hnm : nmS s with
            | mk x s1 =>
            rw [hnm] at kn o1
            simp only at kn o1 ⊢
            have hws : WfL s.l := by rw [← hst]; exact hw
            have hns : s.l.length < N + 1 := by rw [← hst]; exact hn
            have hds : s.d ≤ 16 := by rw [← hst]; exact hd
            have w1 := o1.wf hws
            have l1 := o1.len
            have d1 := o1.dep
            have k3 := km [61] s1 w1 (by omega)
            have o3 := mustS_ok [61] s1
            generalize mustS [61] s1 = s2 at *
            have w2 := o3.wf w1
            have l2 := o3.len
            have d2 := o3.dep
            have k4 := ke s2 w2 (by omega) (by omega)
            have o4 := exS_ok s2
            cases hq : exS s2 with
            | mk n1 s3 =>
            rw [hq] at k4 o4
            obtain ⟨op1, tx1, nm1, ks1⟩ := n1
            simp only [nV, cellsN] at k4 o4 ⊢
            have w3 := o4.wf w2
            have l3 := o4.len
            have k5 := km [59] s3 w3 (by omega)
            subst hst
            simp only [pC_mk] at ka kw kz kn
            rw [pC_mk]
            refine VCall.go Tryz.func147 rfl ?_
            (repeat' (first|with_reducible refine And.intro ?_ ?_|(with_reducible intro hc;(try simp only [zz] at hc);try exact ct)|exact Is.mk rfl rfl|((conv => whnf);first|with_reducible refine And.intro ?_ ?_|with_reducible intro hx|exact Is.mk rfl rfl|(with_reducible first|apply Val.via|apply ValH.via)|refine sp ?_|refine vx (by (first|exact vat_nd rfl rfl|exact vat_of rfl r00 rfl|exact vat_of rfl r10 rfl|exact vat_of rfl r11 rfl|exact vat_of rfl rfl rfl|rfl)) ?_|(first|refine cl (ka _ rfl) ?_|refine cl (kw _ rfl) ?_|refine cl (kz _ rfl) ?_|refine cl (kn _ rfl) ?_|refine cl (k3 _ rfl) ?_|refine cl (k4 _ rfl) ?_|refine cl (k5 _ rfl) ?_)|refine sq ?_)))
            (all_goals (first|omega|contradiction|skip))
            all_goals exact Done'.mk ⟨frz_un 3 x 0 (.mk op1 tx1 nm1 ks1) rfl (by rw [cellsN]; rfl), rfl⟩
        · rw [if_neg hset]
          generalize hst : (⟨(⟨kd, tx, nm⟩, a) :: r, d, e⟩ : PSt) = s at *
          have hws : WfL s.l := by rw [← hst]; exact hw
          have hns : s.l.length < N + 1 := by rw [← hst]; exact hn
          have hds : s.d ≤ 16 := by rw [← hst]; exact hd
          cases hq : exS s with
          | mk n1 s3 =>
          rw [hq] at k2 o2
          obtain ⟨op1, tx1, nm1, ks1⟩ := n1
          simp only [nV, cellsN] at k2 o2 ⊢
          have w3 := o2.wf hws
          have l3 := o2.len
          have k5 := km [59] s3 w3 (by omega)
          subst hst
          clear kn hq
          simp only [pC_mk] at ka kw kz k2
          rw [pC_mk]
          cases r with
          | nil =>
            have hlc : ((⟨kd, tx, nm⟩, a) :: [] : List (Sg × Nat)).length = 1 := rfl
            refine VCall.go Tryz.func147 rfl ?_
            ((repeat' (first|with_reducible refine And.intro ?_ ?_|(with_reducible intro hc;(try simp only [zz] at hc);try exact ct)|exact Is.mk rfl rfl|((conv => whnf);first|with_reducible refine And.intro ?_ ?_|with_reducible intro hx|exact Is.mk rfl rfl|(with_reducible first|apply Val.via|apply ValH.via)|refine sp ?_|refine vx (by (first|exact vat_nd rfl rfl|exact vat_of rfl r00 rfl|exact vat_of rfl r10 rfl|exact vat_of rfl r11 rfl|exact vat_of rfl rfl rfl|rfl)) ?_|(first|refine cl (ka _ rfl) ?_|refine cl (kw _ rfl) ?_|refine cl (kz _ rfl) ?_|refine cl (k2 _ rfl) ?_|refine cl (k5 _ rfl) ?_)|refine sq ?_)));(all_goals (first|omega|contradiction|skip));all_goals exact Done'.mk ⟨frz_un 4 [] 0 (.mk op1 tx1 nm1 ks1) rfl (by rw [cellsN];rfl),rfl⟩)
          | cons q r2 =>
            obtain ⟨⟨kd2, tx2, nm2⟩, a2⟩ := q
            have hlc : ((⟨kd, tx, nm⟩, a) :: (⟨kd2, tx2, nm2⟩, a2) :: r2 : List (Sg × Nat)).length = r2.length + 2 := rfl
            have r10 : (rowsG ((⟨kd, tx, nm⟩, a) :: (⟨kd2, tx2, nm2⟩, a2) :: r2))[4]? = some (iV kd2) := rfl
            have r11 : (rowsG ((⟨kd, tx, nm⟩, a) :: (⟨kd2, tx2, nm2⟩, a2) :: r2))[5]? = some (strV tx2) := rfl
            simp only [isSet, Bool.and_eq_true, decide_eq_true_eq] at hset
            by_cases h1 : kd = 1
            · by_cases h2 : kd2 = 5
              · have h3 : ¬ tx2 = [61] := fun h3 => hset ⟨⟨h1, h2⟩, h3⟩
                refine VCall.go Tryz.func147 rfl ?_
                ((repeat' (first|with_reducible refine And.intro ?_ ?_|(with_reducible intro hc;(try simp only [zz] at hc);try exact ct)|exact Is.mk rfl rfl|((conv => whnf);first|with_reducible refine And.intro ?_ ?_|with_reducible intro hx|exact Is.mk rfl rfl|(with_reducible first|apply Val.via|apply ValH.via)|refine sp ?_|refine vx (by (first|exact vat_nd rfl rfl|exact vat_of rfl r00 rfl|exact vat_of rfl r10 rfl|exact vat_of rfl r11 rfl|exact vat_of rfl rfl rfl|rfl)) ?_|(first|refine cl (ka _ rfl) ?_|refine cl (kw _ rfl) ?_|refine cl (kz _ rfl) ?_|refine cl (k2 _ rfl) ?_|refine cl (k5 _ rfl) ?_)|refine sq ?_)));(all_goals (first|omega|contradiction|skip));all_goals exact Done'.mk ⟨frz_un 4 [] 0 (.mk op1 tx1 nm1 ks1) rfl (by rw [cellsN];rfl),rfl⟩)
              · refine VCall.go Tryz.func147 rfl ?_
                ((repeat' (first|with_reducible refine And.intro ?_ ?_|(with_reducible intro hc;(try simp only [zz] at hc);try exact ct)|exact Is.mk rfl rfl|((conv => whnf);first|with_reducible refine And.intro ?_ ?_|with_reducible intro hx|exact Is.mk rfl rfl|(with_reducible first|apply Val.via|apply ValH.via)|refine sp ?_|refine vx (by (first|exact vat_nd rfl rfl|exact vat_of rfl r00 rfl|exact vat_of rfl r10 rfl|exact vat_of rfl r11 rfl|exact vat_of rfl rfl rfl|rfl)) ?_|(first|refine cl (ka _ rfl) ?_|refine cl (kw _ rfl) ?_|refine cl (kz _ rfl) ?_|refine cl (k2 _ rfl) ?_|refine cl (k5 _ rfl) ?_)|refine sq ?_)));(all_goals (first|omega|contradiction|skip));all_goals exact Done'.mk ⟨frz_un 4 [] 0 (.mk op1 tx1 nm1 ks1) rfl (by rw [cellsN];rfl),rfl⟩)
            · refine VCall.go Tryz.func147 rfl ?_
              ((repeat' (first|with_reducible refine And.intro ?_ ?_|(with_reducible intro hc;(try simp only [zz] at hc);try exact ct)|exact Is.mk rfl rfl|((conv => whnf);first|with_reducible refine And.intro ?_ ?_|with_reducible intro hx|exact Is.mk rfl rfl|(with_reducible first|apply Val.via|apply ValH.via)|refine sp ?_|refine vx (by (first|exact vat_nd rfl rfl|exact vat_of rfl r00 rfl|exact vat_of rfl r10 rfl|exact vat_of rfl r11 rfl|exact vat_of rfl rfl rfl|rfl)) ?_|(first|refine cl (ka _ rfl) ?_|refine cl (kw _ rfl) ?_|refine cl (kz _ rfl) ?_|refine cl (k2 _ rfl) ?_|refine cl (k5 _ rfl) ?_)|refine sq ?_)));(all_goals (first|omega|contradiction|skip));all_goals exact Done'.mk ⟨frz_un 4 [] 0 (.mk op1 tx1 nm1 ks1) rfl (by rw [cellsN];rfl),rfl⟩)
theorem bl_call : ∀ (n : Nat), n ≤ 20000 → ∀ s, WfL s.l → s.l.length < n → s.d ≤ 16 → PCall 75 [] s (nV (blS n s).1) (blS n s).2
  | 0, _, s, hw, hn, hd => by omega
  | n + 1, hn1, s, hw, hn, hd => by
    have ih := bl_call n (by omega)
    have hst := stmt_call (blS n) n (by omega) (blS_ok n) ih
    have hok := stmtS_ok (blS_ok n)
    have hts := stmts_call (stmtS (blS n)) (n + 1) (by omega) hok (fun s _ _ h => stmtS_lt (blS_ok n) s h) hst
    refine PCall.of ?_
    have k1 := fun (H : Heap) (hb : H.get 0 = some (pC s)) => PCall.at (nameless_tp (by simp)) (by simp [nameless_strV]) (must_call [123] s hw (by omega)) hb
    have o1 := mustS_ok [123] s
    unfold blS blockS
    generalize mustS [123] s = s1 at *
    have w1 := o1.wf hw
    have l1 := o1.len
    have d1 := o1.dep
    have k2 := fun (H : Heap) (hb : H.get 0 = some (pC s1)) => deepAt 109 (by kernel_rfl) (fun s => (.mk 2 [] 0 (stLoop (stmtS (blS n)) (s.l.length + 2) [] s).1, (stLoop (stmtS (blS n)) (s.l.length + 2) [] s).2)) s1 (by omega) (fun s => stLoop_ok hok _ _ s) (fun he h16 => hts ⟨s1.l, s1.d + 1, s1.e⟩ w1 (by simp only; omega) h16) hb
    generalize deepS (fun s => (Nd.mk 2 [] 0 (stLoop (stmtS (blS n)) (s.l.length + 2) [] s).1, (stLoop (stmtS (blS n)) (s.l.length + 2) [] s).2)) s1 = q at *
    obtain ⟨⟨op1, tx1, nm1, ks1⟩, s2⟩ := q
    simp only [nV, cellsN] at k2
    refine VCall.go Tryz.func75 rfl ?_
    (repeat' (first|with_reducible refine And.intro ?_ ?_|(with_reducible intro hc;(try simp only [zz] at hc);try exact ct)|exact Is.mk rfl rfl|((conv => whnf);first|with_reducible refine And.intro ?_ ?_|with_reducible intro hx|exact Is.mk rfl rfl|(with_reducible first|apply Val.via|apply ValH.via)|refine sp ?_|refine vx (by (first|exact vat_nd rfl rfl|exact vat_of rfl r00 rfl|exact vat_of rfl r10 rfl|exact vat_of rfl r11 rfl|exact vat_of rfl rfl rfl|rfl)) ?_|(first|refine cl (k1 _ rfl) ?_|refine cl (k2 _ rfl) ?_)|refine sq ?_)))
    (all_goals (first|omega|contradiction|skip))
    all_goals exact Done'.mk ⟨frz_nd (.mk op1 tx1 nm1 ks1), rfl⟩
end Go.Proofs.YtpbiblhkcomekaaGreat

