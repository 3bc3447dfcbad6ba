import Derived.Test.YtpbiblhkcomekaaGreatBE5
import Derived.Test.YtpbiblhkcomekaaGreatBH2
/- A statement and a block, walked. -/
namespace Go.Proofs.YtpbiblhkcomekaaGreat
open Go Go.RowKit
set_option linter.unusedSimpArgs false
set_option linter.unusedVariables false
set_option maxRecDepth 100000
set_option maxHeartbeats 8000000
theorem stmtS_lt {bl:PSt→Nd×PSt} (hb: ∀ s,Ok s (bl s).2) (s:PSt) (h:(Zn bl s).2.e=0):(Zn bl s).2.l.length < s.l.length:=by
 unfold Zn at h ⊢
 split
 ·rename_i hc
  have:=(Kg hc).1
  have:=(ifS_ok hb (isS [105,102] s).2).len
  omega
 ·rename_i hc
  rw [if_neg hc] at h
  split
  ·rename_i hc2
   have:=(Kg hc2).1
   have:=((Z7 (isS [119,104,105,108,101] s).2).trans (hb _)).len
   simp only
   omega
  ·rename_i hc2
   rw [if_neg hc2] at h
   split
   ·rename_i hc3
    have:=(Kg hc3).1
    have:=(Xi [59] (isS [115,116,111,112] s).2).len
    simp only
    omega
   ·rename_i hc3
    rw [if_neg hc3] at h
    split
    ·rename_i hc4
     rw [if_pos hc4] at h
     have h1:=(Bp h).1
     have h2:=(((Nl s).trans (Xi [61] _)).trans (Z7 _)).len
     simp only
     omega
    ·rename_i hc4
     rw [if_neg hc4] at h
     have h1:=(Bp h).1
     have h2:=(Z7 s).len
     simp only
     omega
theorem frz_two {m:Nat} {K:Heap} {b:Nat} {vs:List VV} (op:Nat) (t:List UInt8) (n:Nat) (k:List Nd) {c:Nat} (hc:c=k.length) (hg:K.get b=some (.opt vs)) (hv:vs=rowsN k):Wf m K (.ag [iV op,Qn t,iV n,.gs b c 4]) (nV (.mk op t n k)):=by
 subst hv hc
 rw [nV,cellsN]
 exact (Frz.agT (.cons (.of (Qb _)) (.cons (.of (Qj _)) (.cons (.of (Qb _)) (.cons (Frz.gs hg (Jd k) (Qo k)) .nil))))).toB
theorem stmt_call (bl:PSt→Nd×PSt) (N:Nat) (hN:N≤30000) (hok: ∀ s,Ok s (bl s).2)
  (hbl: ∀ s,WfL s.l→s.l.length < N→s.d≤16→Q5 75 [] s (nV (bl s).1) (bl s).2) (s:PSt) (hw:WfL s.l) (hn:s.l.length < N+1) (hd:s.d≤16) :
  Q5 147 [] s (nV (Zn bl s).1) (Zn bl s).2:=by
 refine Q5.of ?_
 have ki:=fun (x:List UInt8) (s2:PSt) (h1:WfL s2.l) (h2:s2.l.length < N+1) (H:Heap) (hb:H.get 0=some (pC s2))=>Q5.at (Qb _) (by simp [Qj]) (Ub x s2 h1 (by omega)) hb
 have km:=fun (x:List UInt8) (s2:PSt) (h1:WfL s2.l) (h2:s2.l.length < N+1) (H:Heap) (hb:H.get 0=some (pC s2))=>Q5.at (Qt (by simp)) (by simp [Qj]) (Us x s2 h1 (by omega)) hb
 have kb:=fun (s2:PSt) (h1:WfL s2.l) (h2:s2.l.length < N) (h3:s2.d≤16) (H:Heap) (hb:H.get 0=some (pC s2))=>Q5.at (Q0 _) (by simp) (hbl s2 h1 h2 h3) hb
 have ke:=fun (s2:PSt) (h1:WfL s2.l) (h2:s2.l.length < N+1) (h3:s2.d≤16) (H:Heap) (hb:H.get 0=some (pC s2))=>Q5.at (Q0 _) (by simp) (ex_call s2 h1 (by omega) h3) hb
 have kn:=fun (H:Heap) (hb:H.get 0=some (pC s))=>Q5.at (Qj _) (by simp) (Nk s hw (by omega)) hb
 have r00:True:=trivial
 have r10:True:=trivial
 have r11:True:=trivial
 have ka:=ki [105,102] s hw hn
 have na:=Zf (x:= [105,102]) (s:=s)
 have oa:=Xv [105,102] s
 have la:=Kg (x:= [105,102]) (s:=s)
 unfold Zn
 cases hca:(isS [105,102] s).1 with
 | true =>
  as_aux_lemma =>
  rw [hca] at ka
  rw [if_pos rfl]
  have la:=(la hca).1
  generalize (isS [105,102] s).2=s1 at *
  have w1:=oa.wf hw
  have d1:=oa.dep
  have k1:=ke s1 w1 (by omega) (by omega)
  have o1:=Z7 s1
  unfold ifS
  cases hq1:exS s1 with
  | mk n1 s2 =>
  rw [hq1] at k1 o1
  obtain ⟨op1,tx1,nm1,ks1⟩:=n1
  simp only [nV,cellsN] at k1 o1 ⊢
  have w2:=o1.wf w1
  have l2:=o1.len
  have d2:=o1.dep
  have k2:=kb s2 w2 (by omega) (by omega)
  have o2:=hok s2
  cases hq2:bl s2 with
  | mk n2 s3 =>
  rw [hq2] at k2 o2
  obtain ⟨op2,tx2,nm2,ks2⟩:=n2
  simp only [nV,cellsN] at k2 o2 ⊢
  have w3:=o2.wf w2
  have l3:=o2.len
  have d3:=o2.dep
  have k3:=ki [101,108,115,101] s3 w3 (by omega)
  have n3:=Zf (x:= [101,108,115,101]) (s:=s3)
  have o3:=Xv [101,108,115,101] s3
  have l3b:=Kg (x:= [101,108,115,101]) (s:=s3)
  cases hc3:(isS [101,108,115,101] s3).1 with
  | true =>
   as_aux_lemma =>
   rw [hc3] at k3
   rw [if_pos rfl]
   have l3b:=(l3b hc3).1
   generalize (isS [101,108,115,101] s3).2=s4 at *
   have w4:=o3.wf w3
   have d4:=o3.dep
   have k4:=kb s4 w4 (by omega) (by omega)
   cases hq4:bl s4 with
   | mk n4 s5 =>
   rw [hq4] at k4
   obtain ⟨op4,tx4,nm4,ks4⟩:=n4
   simp only [nV,cellsN] at k4 ⊢
   refine Qc.go Tryz.func147 rfl ?_
   (repeat' (first|with_reducible refine And.intro ?_ ?_|(with_reducible intro hc;(try simp only [zz] at hc);try exact ct)|((conv=>whnf);first|(with_reducible first|refine And.intro ?_ ?_|intro hx|apply Val.via|apply Qk.via)|exact Is.mk rfl rfl|refine sp ?_|refine vx (by (first|exact Ql rfl rfl|exact Qa rfl r00 rfl|exact Qa rfl r10 rfl|exact Qa rfl r11 rfl|exact Qa rfl rfl rfl|rfl)) ?_|(first|refine cl (ka _ rfl) ?_|refine cl (k1 _ rfl) ?_)|refine sq ?_)))
   (all_goals try exact om)
   (refine Ju.mk (GWP.drawM mixed 100 [3,5,7] (fun H=> [⟨(0,pC s3)::Qs [0] H.objs,H.next⟩,((⟨(0,pC s3)::Qs [0] H.objs,H.next⟩:Heap).del 2).add (.opt ([iV op1,Qn tx1,iV nm1,.ro (List.length ks1) (rowsN ks1)]++ [iV op2,Qn tx2,iV nm2,.ro (List.length ks2) (rowsN ks2)])),(((⟨(0,pC s3)::Qs [0] H.objs,H.next⟩:Heap).del 2).add (.opt ([iV op1,Qn tx1,iV nm1,.ro (List.length ks1) (rowsN ks1)]++ [iV op2,Qn tx2,iV nm2,.ro (List.length ks2) (rowsN ks2)]))).set 3 (.cells true [iV 5,Qn [],iV 0,.gs H.next 2 4])]) (by kernel_rfl) (by rfl) ?_))
   repeat' (first|with_reducible refine And.intro ?_ ?_|(with_reducible intro hc;(try simp only [zz] at hc);try exact ct)|exact trivial|((conv=>whnf);first|with_reducible refine And.intro ?_ ?_|with_reducible intro hx|exact Is.mk rfl rfl|exact trivial|(with_reducible first|apply Val.via|apply Qk.via)|(first|refine GOp.drawn1 (n:= .mk op2 tx2 nm2 ks2) (by rfl) (by rfl) (by rfl)|(refine Qw (Qr.growS rfl sty_N (d:= .slice 63) Tryz.underlying61 (by intro k h;cases h) rfl (m:=1) (l:= [iV op2,Qn tx2,iV nm2,.ro (List.length ks2) (rowsN ks2)]) (vs:= [iV op1,Qn tx1,iV nm1,.ro (List.length ks1) (rowsN ks1)]) (by rfl) (by rfl) rfl (by rfl) (by decide) (by decide) ?_)))|refine sp ?_|refine vx (by (first|exact Ql rfl rfl|exact Qa rfl r00 rfl|exact Qa rfl r10 rfl|exact Qa rfl r11 rfl|exact Qa rfl rfl rfl|rfl)) ?_|(first|refine cl (k2 _ rfl) ?_|refine cl (k3 _ rfl) ?_)|refine sq ?_))
   (all_goals try exact om)
   (refine Ju.mk (GWP.drawM mixed 100 [3,5,7] (fun H=> [⟨(0,pC s5)::Qs [0] H.objs,H.next⟩,((⟨(0,pC s5)::Qs [0] H.objs,H.next⟩:Heap).del 4).add (.opt (([iV op1,Qn tx1,iV nm1,.ro (List.length ks1) (rowsN ks1)]++ [iV op2,Qn tx2,iV nm2,.ro (List.length ks2) (rowsN ks2)])++ [iV op4,Qn tx4,iV nm4,.ro (List.length ks4) (rowsN ks4)])),(((⟨(0,pC s5)::Qs [0] H.objs,H.next⟩:Heap).del 4).add (.opt (([iV op1,Qn tx1,iV nm1,.ro (List.length ks1) (rowsN ks1)]++ [iV op2,Qn tx2,iV nm2,.ro (List.length ks2) (rowsN ks2)])++ [iV op4,Qn tx4,iV nm4,.ro (List.length ks4) (rowsN ks4)]))).set 3 (.cells true [iV 5,Qn [],iV 0,.gs H.next 3 4])]) (by kernel_rfl) (by rfl) ?_))
   repeat' (first|with_reducible refine And.intro ?_ ?_|(with_reducible intro hc;(try simp only [zz] at hc);try exact ct)|exact trivial|((conv=>whnf);first|with_reducible refine And.intro ?_ ?_|with_reducible intro hx|exact Is.mk rfl rfl|exact trivial|(with_reducible first|apply Val.via|apply Qk.via)|(refine GOp.drawn1 (n:= .mk op4 tx4 nm4 ks4) (by rfl) (by rfl) (by rfl))|refine sp ?_|refine vx (by (first|exact Ql rfl rfl|exact Qa rfl r00 rfl|exact Qa rfl r10 rfl|exact Qa rfl r11 rfl|exact Qa rfl rfl rfl|rfl)) ?_|(first|refine cl (k4 _ rfl) ?_|(refine Qw (Qr.grow rfl sty_N (d:= .slice 63) Tryz.underlying61 (by intro k h;cases h) rfl (m:=1) (l:= [iV op4,Qn tx4,iV nm4,.ro (List.length ks4) (rowsN ks4)]) (vs:=([iV op1,Qn tx1,iV nm1,.ro (List.length ks1) (rowsN ks1)]++ [iV op2,Qn tx2,iV nm2,.ro (List.length ks2) (rowsN ks2)])) (by rfl) (by rfl) rfl (by rfl) (by decide) (by decide) ?_)))|refine sq ?_))
   (all_goals try exact om)
   all_goals exact Qg.mk ⟨frz_two 5 [] 0 [.mk op1 tx1 nm1 ks1,.mk op2 tx2 nm2 ks2,.mk op4 tx4 nm4 ks4] rfl rfl (by simp only [rowsN,cellsN];rfl),rfl⟩
  | false =>
   as_aux_lemma =>
   rw [hc3,n3 hc3] at k3
   rw [if_neg (by decide)]
   refine Qc.go Tryz.func147 rfl ?_
   (repeat' (first|with_reducible refine And.intro ?_ ?_|(with_reducible intro hc;(try simp only [zz] at hc);try exact ct)|((conv=>whnf);first|(with_reducible first|refine And.intro ?_ ?_|intro hx|apply Val.via|apply Qk.via)|exact Is.mk rfl rfl|refine sp ?_|refine vx (by (first|exact Ql rfl rfl|exact Qa rfl r00 rfl|exact Qa rfl r10 rfl|exact Qa rfl r11 rfl|exact Qa rfl rfl rfl|rfl)) ?_|(first|refine cl (ka _ rfl) ?_|refine cl (k1 _ rfl) ?_)|refine sq ?_)))
   (all_goals try exact om)
   (refine Ju.mk (GWP.drawM mixed 100 [3,5,7] (fun H=> [⟨(0,pC s3)::Qs [0] H.objs,H.next⟩,((⟨(0,pC s3)::Qs [0] H.objs,H.next⟩:Heap).del 2).add (.opt ([iV op1,Qn tx1,iV nm1,.ro (List.length ks1) (rowsN ks1)]++ [iV op2,Qn tx2,iV nm2,.ro (List.length ks2) (rowsN ks2)])),(((⟨(0,pC s3)::Qs [0] H.objs,H.next⟩:Heap).del 2).add (.opt ([iV op1,Qn tx1,iV nm1,.ro (List.length ks1) (rowsN ks1)]++ [iV op2,Qn tx2,iV nm2,.ro (List.length ks2) (rowsN ks2)]))).set 3 (.cells true [iV 5,Qn [],iV 0,.gs H.next 2 4])]) (by kernel_rfl) (by rfl) ?_))
   repeat' (first|with_reducible refine And.intro ?_ ?_|(with_reducible intro hc;(try simp only [zz] at hc);try exact ct)|exact trivial|((conv=>whnf);first|with_reducible refine And.intro ?_ ?_|with_reducible intro hx|exact Is.mk rfl rfl|exact trivial|(with_reducible first|apply Val.via|apply Qk.via)|(first|refine GOp.drawn1 (n:= .mk op2 tx2 nm2 ks2) (by rfl) (by rfl) (by rfl)|(refine Qw (Qr.growS rfl sty_N (d:= .slice 63) Tryz.underlying61 (by intro k h;cases h) rfl (m:=1) (l:= [iV op2,Qn tx2,iV nm2,.ro (List.length ks2) (rowsN ks2)]) (vs:= [iV op1,Qn tx1,iV nm1,.ro (List.length ks1) (rowsN ks1)]) (by rfl) (by rfl) rfl (by rfl) (by decide) (by decide) ?_)))|refine sp ?_|refine vx (by (first|exact Ql rfl rfl|exact Qa rfl r00 rfl|exact Qa rfl r10 rfl|exact Qa rfl r11 rfl|exact Qa rfl rfl rfl|rfl)) ?_|(first|refine cl (k2 _ rfl) ?_|refine cl (k3 _ rfl) ?_)|refine sq ?_))
   (all_goals try exact om)
   all_goals exact Qg.mk ⟨frz_two 5 [] 0 [.mk op1 tx1 nm1 ks1,.mk op2 tx2 nm2 ks2] rfl rfl (by simp only [rowsN,cellsN];rfl),rfl⟩
 | false =>
  rw [hca,na hca] at ka
  rw [if_neg (by decide)]
  have kw:=ki [119,104,105,108,101] s hw hn
  have nw:=Zf (x:= [119,104,105,108,101]) (s:=s)
  have ow:=Xv [119,104,105,108,101] s
  have lw:=Kg (x:= [119,104,105,108,101]) (s:=s)
  cases hcw:(isS [119,104,105,108,101] s).1 with
  | true =>
   as_aux_lemma =>
   rw [hcw] at kw
   rw [if_pos rfl]
   have lw:=(lw hcw).1
   generalize (isS [119,104,105,108,101] s).2=s1 at *
   have w1:=ow.wf hw
   have d1:=ow.dep
   have k1:=ke s1 w1 (by omega) (by omega)
   have o1:=Z7 s1
   cases hq1:exS s1 with
   | mk n1 s2 =>
   rw [hq1] at k1 o1
   obtain ⟨op1,tx1,nm1,ks1⟩:=n1
   simp only [nV,cellsN] at k1 o1 ⊢
   have w2:=o1.wf w1
   have l2:=o1.len
   have d2:=o1.dep
   have k2:=kb s2 w2 (by omega) (by omega)
   cases hq2:bl s2 with
   | mk n2 s3 =>
   rw [hq2] at k2
   obtain ⟨op2,tx2,nm2,ks2⟩:=n2
   simp only [nV,cellsN] at k2 ⊢
   refine Qc.go Tryz.func147 rfl ?_
   (repeat' (first|with_reducible refine And.intro ?_ ?_|(with_reducible intro hc;(try simp only [zz] at hc);try exact ct)|((conv=>whnf);first|(with_reducible first|refine And.intro ?_ ?_|intro hx|apply Val.via|apply Qk.via)|exact Is.mk rfl rfl|refine sp ?_|refine vx (by (first|exact Ql rfl rfl|exact Qa rfl r00 rfl|exact Qa rfl r10 rfl|exact Qa rfl r11 rfl|exact Qa rfl rfl rfl|rfl)) ?_|(first|refine cl (ka _ rfl) ?_|refine cl (kw _ rfl) ?_|refine cl (k1 _ rfl) ?_)|refine sq ?_)))
   (all_goals try exact om)
   (refine Ju.mk (GWP.drawM mixed 100 [3,5,7] (fun H=> [⟨(0,pC s3)::Qs [0] H.objs,H.next⟩,((⟨(0,pC s3)::Qs [0] H.objs,H.next⟩:Heap).del 2).add (.opt ([iV op1,Qn tx1,iV nm1,.ro (List.length ks1) (rowsN ks1)]++ [iV op2,Qn tx2,iV nm2,.ro (List.length ks2) (rowsN ks2)])),(((⟨(0,pC s3)::Qs [0] H.objs,H.next⟩:Heap).del 2).add (.opt ([iV op1,Qn tx1,iV nm1,.ro (List.length ks1) (rowsN ks1)]++ [iV op2,Qn tx2,iV nm2,.ro (List.length ks2) (rowsN ks2)]))).set 3 (.cells true [iV 6,Qn [],iV 0,.gs H.next 2 4])]) (by kernel_rfl) (by rfl) ?_))
   repeat' (first|with_reducible refine And.intro ?_ ?_|(with_reducible intro hc;(try simp only [zz] at hc);try exact ct)|exact trivial|((conv=>whnf);first|with_reducible refine And.intro ?_ ?_|with_reducible intro hx|exact Is.mk rfl rfl|exact trivial|(with_reducible first|apply Val.via|apply Qk.via)|(first|refine GOp.drawn1 (n:= .mk op2 tx2 nm2 ks2) (by rfl) (by rfl) (by rfl)|(refine Qw (Qr.growS rfl sty_N (d:= .slice 63) Tryz.underlying61 (by intro k h;cases h) rfl (m:=1) (l:= [iV op2,Qn tx2,iV nm2,.ro (List.length ks2) (rowsN ks2)]) (vs:= [iV op1,Qn tx1,iV nm1,.ro (List.length ks1) (rowsN ks1)]) (by rfl) (by rfl) rfl (by rfl) (by decide) (by decide) ?_)))|refine sp ?_|refine vx (by (first|exact Ql rfl rfl|exact Qa rfl r00 rfl|exact Qa rfl r10 rfl|exact Qa rfl r11 rfl|exact Qa rfl rfl rfl|rfl)) ?_|(first|refine cl (k2 _ rfl) ?_)|refine sq ?_))
   (all_goals try exact om)
   all_goals exact Qg.mk ⟨frz_two 6 [] 0 [.mk op1 tx1 nm1 ks1,.mk op2 tx2 nm2 ks2] rfl rfl (by simp only [rowsN,cellsN];rfl),rfl⟩
  | false =>
   rw [hcw,nw hcw] at kw
   rw [if_neg (by decide)]
   have kz:=ki [115,116,111,112] s hw hn
   have nz:=Zf (x:= [115,116,111,112]) (s:=s)
   have oz:=Xv [115,116,111,112] s
   cases hcz:(isS [115,116,111,112] s).1 with
   | true =>
    as_aux_lemma =>
    rw [hcz] at kz
    rw [if_pos rfl]
    have lz:=oz.len
    generalize (isS [115,116,111,112] s).2=s1 at *
    have w1:=oz.wf hw
    have k1:=km [59] s1 w1 (by omega)
    refine Qc.go Tryz.func147 rfl ?_
    (repeat' (first|with_reducible refine And.intro ?_ ?_|(with_reducible intro hc;(try simp only [zz] at hc);try exact ct)|((conv=>whnf);first|(with_reducible first|refine And.intro ?_ ?_|intro hx|apply Val.via|apply Qk.via)|exact Is.mk rfl rfl|refine sp ?_|refine vx (by (first|exact Ql rfl rfl|exact Qa rfl r00 rfl|exact Qa rfl r10 rfl|exact Qa rfl r11 rfl|exact Qa rfl rfl rfl|rfl)) ?_|(first|refine cl (ka _ rfl) ?_|refine cl (kw _ rfl) ?_|refine cl (kz _ rfl) ?_|refine cl (k1 _ rfl) ?_)|refine sq ?_)))
    (all_goals try exact om)
    all_goals exact Qg.mk ⟨Uy 7 [] 0,rfl⟩
   | false =>
    as_aux_lemma =>
    rw [hcz,nz hcz] at kz
    rw [if_neg (by decide)]
    clear oa la ow lw oz na nw nz
    have o1:=Nl s
    have k2:=ke s hw hn hd
    have o2:=Z7 s
    obtain ⟨l,d,e⟩:=s
    simp only at hw hn hd
    obtain ⟨g,a,r,rfl⟩:=hw.ne
    obtain ⟨kd,tx,nm⟩:=g
    have r00:(Ya ((⟨kd,tx,nm⟩,a)::r))[0]? = some (iV kd):=rfl
    by_cases hset:isSet ⟨(⟨kd,tx,nm⟩,a)::r,d,e⟩=true
    ·rw [if_pos hset]
     cases r with
     | nil=>cases hset
     | cons q r2 =>
      obtain ⟨⟨kd2,tx2,nm2⟩,a2⟩:=q
      simp only [isSet,Bool.and_eq_true,decide_eq_true_eq] at hset
      obtain ⟨⟨rfl,rfl⟩,rfl⟩:=hset
      have hlc:((⟨1,tx,nm⟩,a)::(⟨5,[61],nm2⟩,a2)::r2:List (Sg×Nat)).length=r2.length+2:=rfl
      have r10:(Ya ((⟨1,tx,nm⟩,a)::(⟨5,[61],nm2⟩,a2)::r2))[4]? = some (iV 5):=rfl
      have r11:(Ya ((⟨1,tx,nm⟩,a)::(⟨5,[61],nm2⟩,a2)::r2))[5]? = some (Qn [61]):=rfl
      generalize hst:(⟨(⟨1,tx,nm⟩,a)::(⟨5,[61],nm2⟩,a2)::r2,d,e⟩:PSt)=s at *
      cases hnm:nmS s with
      | mk x s1 =>
      rw [hnm] at kn o1
      simp only at kn o1 ⊢
      have hws:WfL s.l:=by rw [← hst];exact hw
      have hns:s.l.length < N+1:=by rw [← hst];exact hn
      have hds:s.d≤16:=by rw [← hst];exact hd
      have w1:=o1.wf hws
      have l1:=o1.len
      have d1:=o1.dep
      have k3:=km [61] s1 w1 (by omega)
      have o3:=Xi [61] s1
      generalize Jk [61] s1=s2 at *
      have w2:=o3.wf w1
      have l2:=o3.len
      have d2:=o3.dep
      have k4:=ke s2 w2 (by omega) (by omega)
      have o4:=Z7 s2
      cases hq:exS s2 with
      | mk n1 s3 =>
      rw [hq] at k4 o4
      obtain ⟨op1,tx1,nm1,ks1⟩:=n1
      simp only [nV,cellsN] at k4 o4 ⊢
      have w3:=o4.wf w2
      have l3:=o4.len
      have k5:=km [59] s3 w3 (by omega)
      subst hst
      simp only [Cy] at ka kw kz kn
      rw [Cy]
      refine Qc.go Tryz.func147 rfl ?_
      (repeat' (first|with_reducible refine And.intro ?_ ?_|(with_reducible intro hc;(try simp only [zz] at hc);try exact ct)|((conv=>whnf);first|(with_reducible first|refine And.intro ?_ ?_|intro hx|apply Val.via|apply Qk.via)|exact Is.mk rfl rfl|refine sp ?_|refine vx (by (first|exact Ql rfl rfl|exact Qa rfl r00 rfl|exact Qa rfl r10 rfl|exact Qa rfl r11 rfl|exact Qa rfl rfl rfl|rfl)) ?_|(first|refine cl (ka _ rfl) ?_|refine cl (kw _ rfl) ?_|refine cl (kz _ rfl) ?_|refine cl (kn _ rfl) ?_|refine cl (k3 _ rfl) ?_|refine cl (k4 _ rfl) ?_|refine cl (k5 _ rfl) ?_)|refine sq ?_)))
      (all_goals try exact om)
      all_goals exact Qg.mk ⟨Dc 3 x 0 (.mk op1 tx1 nm1 ks1) rfl (by rw [cellsN];rfl),rfl⟩
    ·rw [if_neg hset]
     generalize hst:(⟨(⟨kd,tx,nm⟩,a)::r,d,e⟩:PSt)=s at *
     have hws:WfL s.l:=by rw [← hst];exact hw
     have hns:s.l.length < N+1:=by rw [← hst];exact hn
     have hds:s.d≤16:=by rw [← hst];exact hd
     cases hq:exS s with
     | mk n1 s3 =>
     rw [hq] at k2 o2
     obtain ⟨op1,tx1,nm1,ks1⟩:=n1
     simp only [nV,cellsN] at k2 o2 ⊢
     have w3:=o2.wf hws
     have l3:=o2.len
     have k5:=km [59] s3 w3 (by omega)
     subst hst
     clear kn hq
     simp only [Cy] at ka kw kz k2
     rw [Cy]
     cases r with
     | nil =>
      have hlc:((⟨kd,tx,nm⟩,a):: []:List (Sg×Nat)).length=1:=rfl
      refine Qc.go Tryz.func147 rfl ?_
      ((repeat' (first|with_reducible refine And.intro ?_ ?_|(with_reducible intro hc;(try simp only [zz] at hc);try exact ct)|((conv=>whnf);first|(with_reducible first|refine And.intro ?_ ?_|intro hx|apply Val.via|apply Qk.via)|exact Is.mk rfl rfl|refine sp ?_|refine vx (by (first|exact Ql rfl rfl|exact Qa rfl r00 rfl|exact Qa rfl r10 rfl|exact Qa rfl r11 rfl|exact Qa rfl rfl rfl|rfl)) ?_|(first|refine cl (ka _ rfl) ?_|refine cl (kw _ rfl) ?_|refine cl (kz _ rfl) ?_|refine cl (k2 _ rfl) ?_|refine cl (k5 _ rfl) ?_)|refine sq ?_)));(all_goals try exact om);all_goals exact Qg.mk ⟨Dc 4 [] 0 (.mk op1 tx1 nm1 ks1) rfl (by rw [cellsN];rfl),rfl⟩)
     | cons q r2 =>
      obtain ⟨⟨kd2,tx2,nm2⟩,a2⟩:=q
      have hlc:((⟨kd,tx,nm⟩,a)::(⟨kd2,tx2,nm2⟩,a2)::r2:List (Sg×Nat)).length=r2.length+2:=rfl
      have r10:(Ya ((⟨kd,tx,nm⟩,a)::(⟨kd2,tx2,nm2⟩,a2)::r2))[4]? = some (iV kd2):=rfl
      have r11:(Ya ((⟨kd,tx,nm⟩,a)::(⟨kd2,tx2,nm2⟩,a2)::r2))[5]? = some (Qn tx2):=rfl
      simp only [isSet,Bool.and_eq_true,decide_eq_true_eq] at hset
      by_cases h1:kd=1
      ·by_cases h2:kd2=5
       ·have h3: ¬ tx2= [61]:=fun h3=>hset ⟨⟨h1,h2⟩,h3⟩
        refine Qc.go Tryz.func147 rfl ?_
        ((repeat' (first|with_reducible refine And.intro ?_ ?_|(with_reducible intro hc;(try simp only [zz] at hc);try exact ct)|((conv=>whnf);first|(with_reducible first|refine And.intro ?_ ?_|intro hx|apply Val.via|apply Qk.via)|exact Is.mk rfl rfl|refine sp ?_|refine vx (by (first|exact Ql rfl rfl|exact Qa rfl r00 rfl|exact Qa rfl r10 rfl|exact Qa rfl r11 rfl|exact Qa rfl rfl rfl|rfl)) ?_|(first|refine cl (ka _ rfl) ?_|refine cl (kw _ rfl) ?_|refine cl (kz _ rfl) ?_|refine cl (k2 _ rfl) ?_|refine cl (k5 _ rfl) ?_)|refine sq ?_)));(all_goals try exact om);all_goals exact Qg.mk ⟨Dc 4 [] 0 (.mk op1 tx1 nm1 ks1) rfl (by rw [cellsN];rfl),rfl⟩)
       ·refine Qc.go Tryz.func147 rfl ?_
        ((repeat' (first|with_reducible refine And.intro ?_ ?_|(with_reducible intro hc;(try simp only [zz] at hc);try exact ct)|((conv=>whnf);first|(with_reducible first|refine And.intro ?_ ?_|intro hx|apply Val.via|apply Qk.via)|exact Is.mk rfl rfl|refine sp ?_|refine vx (by (first|exact Ql rfl rfl|exact Qa rfl r00 rfl|exact Qa rfl r10 rfl|exact Qa rfl r11 rfl|exact Qa rfl rfl rfl|rfl)) ?_|(first|refine cl (ka _ rfl) ?_|refine cl (kw _ rfl) ?_|refine cl (kz _ rfl) ?_|refine cl (k2 _ rfl) ?_|refine cl (k5 _ rfl) ?_)|refine sq ?_)));(all_goals try exact om);all_goals exact Qg.mk ⟨Dc 4 [] 0 (.mk op1 tx1 nm1 ks1) rfl (by rw [cellsN];rfl),rfl⟩)
      ·refine Qc.go Tryz.func147 rfl ?_
       ((repeat' (first|with_reducible refine And.intro ?_ ?_|(with_reducible intro hc;(try simp only [zz] at hc);try exact ct)|((conv=>whnf);first|(with_reducible first|refine And.intro ?_ ?_|intro hx|apply Val.via|apply Qk.via)|exact Is.mk rfl rfl|refine sp ?_|refine vx (by (first|exact Ql rfl rfl|exact Qa rfl r00 rfl|exact Qa rfl r10 rfl|exact Qa rfl r11 rfl|exact Qa rfl rfl rfl|rfl)) ?_|(first|refine cl (ka _ rfl) ?_|refine cl (kw _ rfl) ?_|refine cl (kz _ rfl) ?_|refine cl (k2 _ rfl) ?_|refine cl (k5 _ rfl) ?_)|refine sq ?_)));(all_goals try exact om);all_goals exact Qg.mk ⟨Dc 4 [] 0 (.mk op1 tx1 nm1 ks1) rfl (by rw [cellsN];rfl),rfl⟩)
theorem bl_call: ∀ (n:Nat),n≤20000→ ∀ s,WfL s.l→s.l.length < n→s.d≤16→Q5 75 [] s (nV (blS n s).1) (blS n s).2
 | 0,_,s,hw,hn,hd=>by omega
 | n+1,hn1,s,hw,hn,hd=>by
  have ih:=bl_call n (by omega)
  have hst:=stmt_call (blS n) n (by omega) (Ks n) ih
  have hok:=stmtS_ok (Ks n)
  have hts:=stmts_call (Zn (blS n)) (n+1) (by omega) hok (fun s _ _ h=>stmtS_lt (Ks n) s h) hst
  refine Q5.of ?_
  have k1:=fun (H:Heap) (hb:H.get 0=some (pC s))=>Q5.at (Qt (by simp)) (by simp [Qj]) (Us [123] s hw (by omega)) hb
  have o1:=Xi [123] s
  unfold blS Df
  generalize Jk [123] s=s1 at *
  have w1:=o1.wf hw
  have l1:=o1.len
  have d1:=o1.dep
  have k2:=fun (H:Heap) (hb:H.get 0=some (pC s1))=>deepAt 109 (by kernel_rfl) (fun s=>(.mk 2 [] 0 (Xh (Zn (blS n)) (s.l.length+2) [] s).1,(Xh (Zn (blS n)) (s.l.length+2) [] s).2)) s1 (by omega) (fun s=>Cc hok _ _ s) (fun he h16=>hts ⟨s1.l,s1.d+1,s1.e⟩ w1 (by simp only;omega) h16) hb
  generalize J8 (fun s=>(Nd.mk 2 [] 0 (Xh (Zn (blS n)) (s.l.length+2) [] s).1,(Xh (Zn (blS n)) (s.l.length+2) [] s).2)) s1=q at *
  obtain ⟨⟨op1,tx1,nm1,ks1⟩,s2⟩:=q
  simp only [nV,cellsN] at k2
  refine Qc.go Tryz.func75 rfl ?_
  (repeat' (first|with_reducible refine And.intro ?_ ?_|(with_reducible intro hc;(try simp only [zz] at hc);try exact ct)|((conv=>whnf);first|(with_reducible first|refine And.intro ?_ ?_|intro hx|apply Val.via|apply Qk.via)|exact Is.mk rfl rfl|refine sp ?_|refine vx (by (first|exact Ql rfl rfl|exact Qa rfl r00 rfl|exact Qa rfl r10 rfl|exact Qa rfl r11 rfl|exact Qa rfl rfl rfl|rfl)) ?_|(first|refine cl (k1 _ rfl) ?_|refine cl (k2 _ rfl) ?_)|refine sq ?_)))
  (all_goals try exact om)
  all_goals exact Qg.mk ⟨Ui (.mk op1 tx1 nm1 ks1),rfl⟩
end Go.Proofs.YtpbiblhkcomekaaGreat
