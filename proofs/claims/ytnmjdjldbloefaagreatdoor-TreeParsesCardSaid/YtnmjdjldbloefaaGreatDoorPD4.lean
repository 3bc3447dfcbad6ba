import Derived.Test.YtnmjdjldbloefaaGreatDoorPE5
import Derived.Test.YtnmjdjldbloefaaGreatDoorPD3
import Derived.Test.YtnmjdjldbloefaaGreatDoorPH3
/- The document's part, walked: numbers, texts, brackets, names, calls. -/
namespace Go.Proofs.YtnmjdjldbloefaaGreatDoor
open Go Go.RowKit
set_option linter.unusedSimpArgs false
set_option linter.unusedVariables false
set_option maxRecDepth 100000
set_option maxHeartbeats 8000000
theorem takeS_hd (k:Nat) (g:Sg) (a:Nat) (r:List (Sg×Nat)) (d:Nat):Xv k ⟨(g,a)::r,d,0⟩=if g.kind=k then (some (g,a),⟨r,d,0⟩) else (none,⟨(g,a)::r,d,0⟩):=by
 unfold Xv
 simp
theorem C3 {l:List (Sg×Nat)} {d:Nat} (h:d≠16):X3 ⟨l,d,0⟩=⟨l,d+1,0⟩:=by unfold X3;simp [h]
theorem deepD_ok' {rd:PSt→Nd×PSt} {l:List (Sg×Nat)} {d:Nat} (h:d≠16):Zk rd ⟨l,d,0⟩=((rd ⟨l,d+1,0⟩).1,upE (rd ⟨l,d+1,0⟩).2):=by
 unfold Zk
 rw [C3 h]
 rfl
theorem argD_ok' {rd:PSt→Nd×PSt} {out:List Nd} {l:List (Sg×Nat)} {d:Nat} (h:d≠16):argD rd out ⟨l,d,0⟩=out++ [(rd ⟨l,d+1,0⟩).1]:=by
 unfold argD
 rw [deepD_ok' h,C3 h]
 rfl
theorem primD_call (L:List (Sg×Nat)) (hL:L.length≤50000) (n:Nat) (un:PSt→Nd×PSt) (hok: ∀ s,OkD s (un s).2)
  (hx: ∀ s,At L n s→Jw L 74 [iV 0] s (nV (Xx un 6 0 s).1) (Xx un 6 0 s).2)
  (s:PSt) (hs:At L (n+1) s) (he:s.e=0) (hn1:(isS [110,111,116] s).1=false) (hn2:(isS [45] s).1=false):Jw L 96 [] s (nV (E2 un s).1) (E2 un s).2:=by
 refine Jw.of ?_
 have hxk:=Uh hok 6 0
 have kat:=fun (x:List UInt8) (s2:PSt) (h1:At L (n+1) s2) (H:Heap) (hb:H.get 0=some (pD L s2))=>Jw.at (Qb _) (by simp [Qd]) (Do L x s2 h1.wf h1.suf (by omega)) hb
 have kw:=fun (x:List UInt8) (s2:PSt) (h1:At L (n+1) s2) (H:Heap) (hb:H.get 0=some (pD L s2))=>Jw.at (Ja (by simp)) (by simp [Qd]) (C7 L x s2 h1.wf h1.suf (by omega)) hb
 have kn:=fun (H:Heap) (hb:H.get 0=some (pD L s))=>Jw.at (Qd _) (by simp) (rname_call L s hs.wf hs.suf (by omega)) hb
 have kd:=fun (s2:PSt) (h:s2.d≤100000) (H:Heap) (hb:H.get 0=some (pD L s2))=>Jw.at (Qb _) (by simp) (down_call L s2 h) hb
 have kx:=fun (s2:PSt) (h1:At L n s2) (H:Heap) (hb:H.get 0=some (pD L s2))=>Jw.at (Qk _) (by simp [iV,Qb]) (hx s2 h1) hb
 have k1:=kat [110,111,116] s hs
 have k2:=kat [45] s hs
 rw [hn1] at k1
 rw [hn2] at k2
 have k3:=kat [110,105,108] s hs
 have k4:=kat [40] s hs
 have onm:=U7 s
 have i3:=K7 (x:= [110,105,108]) (s:=s)
 have i4:=K7 (x:= [40]) (s:=s)
 generalize hP:E2 un s=P
 unfold E2 at hP
 obtain ⟨l,d,e⟩:=s
 obtain rfl:e=0:=he
 obtain ⟨g,a,r,hl⟩:=hs.wf.ne
 have hl:l=(g,a)::r:=hl
 subst hl
 obtain ⟨kd0,tx,nm⟩:=g
 obtain ⟨hi,hlen⟩:=Zc hs.suf
 have hd16:d≤16:=hs.dep
 have hln:r.length < n:=by have:=hs.len;simp only [List.length_cons] at this;omega
 have hpn:=fun z hz=>Kq (L:=L) (r:=r) (d:=d) (e:=0) hs.suf (z:=z) hz
 have hrs:r <:+ L:=(List.suffix_cons _ _).trans hs.suf
 rw [Y1 L ((⟨kd0,tx,nm⟩,a)::r) d 0] at k1 k2 k3 k4 kn ⊢
 simp only [List.length_cons] at k1 k2 k3 k4 kn ⊢
 generalize hI:L.length - (r.length+1)=i at *
 have hil:i < L.length:=by omega
 rw [takeS_hd,takeS_hd] at hP
 by_cases h3:kd0=3
 ·subst h3
  rw [if_pos rfl] at hP
  subst hP
  refine Qc.go Tryz.func96 rfl ?_
  (repeat' (first|with_reducible refine And.intro ?_ ?_|(with_reducible intro hc;(try simp only [zz] at hc);try exact ct)|((conv=>whnf);first|(with_reducible first|refine And.intro ?_ ?_|intro hx|apply Val.via|apply Qi.via)|exact Is.mk rfl rfl|refine sp ?_|refine vx (by (first|exact Jm hi (J3 rfl rfl)|exact Q4 rfl rfl|exact Qo rfl rfl|exact Qa rfl rfl rfl|rfl)) ?_|refine dY ?_|(first|refine cl (k1 _ rfl) ?_|refine cl (k2 _ rfl) ?_)|refine sq ?_)))
  (all_goals try exact om)
  all_goals exact Qf.mk ⟨X2 8 [] nm,hpn _ (by omega)⟩
 rw [if_neg h3] at hP
 by_cases h4:kd0=4
 ·subst h4
  rw [if_pos rfl] at hP
  subst hP
  refine Qc.go Tryz.func96 rfl ?_
  (repeat' (first|with_reducible refine And.intro ?_ ?_|(with_reducible intro hc;(try simp only [zz] at hc);try exact ct)|((conv=>whnf);first|(with_reducible first|refine And.intro ?_ ?_|intro hx|apply Val.via|apply Qi.via)|exact Is.mk rfl rfl|refine sp ?_|refine vx (by (first|exact Jm hi (J3 rfl rfl)|exact Q4 rfl rfl|exact Qo rfl rfl|exact Qa rfl rfl rfl|rfl)) ?_|refine dY ?_|(first|refine cl (k1 _ rfl) ?_|refine cl (k2 _ rfl) ?_)|refine sq ?_)))
  (all_goals try exact om)
  all_goals exact Qf.mk ⟨X2 9 tx 0,hpn _ (by omega)⟩
 rw [if_neg h4] at hP
 dsimp only at hP
 cases hc3:(isS [110,105,108] ⟨(⟨kd0,tx,nm⟩,a)::r,d,0⟩).1 with
 | true =>
  obtain ⟨p,r0,q1,q2,q3⟩:=i3 hc3
  injection q1 with q4 q5
  subst q5
  rw [hc3,if_pos rfl,q2] at hP
  rw [hc3] at k3
  subst hP
  refine Qc.go Tryz.func96 rfl ?_
  (repeat' (first|with_reducible refine And.intro ?_ ?_|(with_reducible intro hc;(try simp only [zz] at hc);try exact ct)|((conv=>whnf);first|(with_reducible first|refine And.intro ?_ ?_|intro hx|apply Val.via|apply Qi.via)|exact Is.mk rfl rfl|refine sp ?_|refine vx (by (first|exact Jm hi (J3 rfl rfl)|exact Q4 rfl rfl|exact Qo rfl rfl|exact Qa rfl rfl rfl|rfl)) ?_|refine dY ?_|(first|refine cl (k1 _ rfl) ?_|refine cl (k2 _ rfl) ?_|refine cl (k3 _ rfl) ?_)|refine sq ?_)))
  (all_goals try exact om)
  all_goals exact Qf.mk ⟨X2 10 [] 0,hpn _ (by omega)⟩
 | false =>
 rw [hc3,if_neg (by decide)] at hP
 rw [hc3] at k3
 cases hc4:(isS [40] ⟨(⟨kd0,tx,nm⟩,a)::r,d,0⟩).1 with
 | true =>
  obtain ⟨p,r0,q1,q2,q3⟩:=i4 hc4
  injection q1 with q4 q5
  subst q5
  rw [hc4,if_pos rfl,q2] at hP
  rw [hc4] at k4
  have wr:WfL r:=hs.wf.tail (by
   show kd0≠0
   intro h0
   subst h0
   unfold isS at hc4
   simp at hc4)
  have hP:P=((Zk (Xx un 6 0) ⟨r,d,0⟩).1,Q5 [41] (Zk (Xx un 6 0) ⟨r,d,0⟩).2):=hP.symm
  subst hP
  have k5:=kd ⟨r,d,0⟩ (by show d≤100000;omega)
  by_cases h16:d=16
  ·subst h16
   have e2:X3 ⟨r,16,0⟩=⟨r,17,9⟩:=rfl
   have e3:Zk (Xx un 6 0) ⟨r,16,0⟩=(nd0,⟨r,16,9⟩):=rfl
   have e4:Q5 [41] ⟨r,16,9⟩=⟨r,16,9⟩:=X7 _ (by show (9:Nat)≠0;decide)
   rw [e3,e4]
   have k6:=kw [41] ⟨r,16,9⟩ ⟨wr,hrs,by show r.length < n+1;omega,hs.dep⟩
   rw [e4,Y1 L r 16 9] at k6
   rw [e2,Y1 L r 17 9] at k5
   refine Qc.go Tryz.func96 rfl ?_
   (repeat' (first|with_reducible refine And.intro ?_ ?_|(with_reducible intro hc;(try simp only [zz] at hc);try exact ct)|((conv=>whnf);first|(with_reducible first|refine And.intro ?_ ?_|intro hx|apply Val.via|apply Qi.via)|exact Is.mk rfl rfl|refine sp ?_|refine vx (by (first|exact Jm hi (J3 rfl rfl)|exact Q4 rfl rfl|exact Qo rfl rfl|exact Qa rfl rfl rfl|rfl)) ?_|refine dY ?_|(first|refine cl (k1 _ rfl) ?_|refine cl (k2 _ rfl) ?_|refine cl (k3 _ rfl) ?_|refine cl (k4 _ rfl) ?_|refine cl (k5 _ (by exact hpn _ (by omega))) ?_|refine cl (k6 _ (by exact E3 (by omega))) ?_)|refine sq ?_)))
   (all_goals try exact om)
   all_goals exact Qf.mk ⟨X2 0 [] 0,rfl⟩
  ·have k7:=kx ⟨r,d+1,0⟩ ⟨wr,hrs,hln,by show d+1≤16;omega⟩
   have o7:=hxk ⟨r,d+1,0⟩
   rw [C3 h16,Y1 L r (d+1) 0] at k5
   rw [deepD_ok' h16]
   cases hq:Xx un 6 0 ⟨r,d+1,0⟩ with
   | mk n2 st2 =>
   rw [hq] at k7 o7
   obtain ⟨op2,tx2,nm2,ks2⟩:=n2
   obtain ⟨l2,d2,er2⟩:=st2
   obtain rfl:d2=d+1:=o7.ok.dep
   have s2:l2 <:+ L:=o7.suf.trans hrs
   have w2:WfL l2:=o7.ok.wf wr
   have n2:l2.length≤r.length:=o7.ok.len
   have eP:upE ⟨l2,d+1,er2⟩=⟨l2,d,er2⟩:=rfl
   simp only [nV,cellsN] at k7 ⊢
   rw [eP]
   rw [Y1 L l2 (d+1)] at k7
   have k6:=kw [41] ⟨l2,d,er2⟩ ⟨w2,s2,by show l2.length < n+1;omega,hs.dep⟩
   refine Qc.go Tryz.func96 rfl ?_
   (repeat' (first|with_reducible refine And.intro ?_ ?_|(with_reducible intro hc;(try simp only [zz] at hc);try exact ct)|((conv=>whnf);first|(with_reducible first|refine And.intro ?_ ?_|intro hx|apply Val.via|apply Qi.via)|exact Is.mk rfl rfl|refine sp ?_|refine vx (by (first|exact Jm hi (J3 rfl rfl)|exact Q4 rfl rfl|exact Qo rfl rfl|exact Qa rfl rfl rfl|rfl)) ?_|refine dY ?_|(first|refine cl (k1 _ rfl) ?_|refine cl (k2 _ rfl) ?_|refine cl (k3 _ rfl) ?_|refine cl (k4 _ rfl) ?_|refine cl (k5 _ (by exact hpn _ (by omega))) ?_|refine cl (k7 _ rfl) ?_|refine cl (k6 _ (by exact E3 (by omega))) ?_)|refine sq ?_)))
   (all_goals try exact om)
   all_goals exact Qf.mk ⟨Z0 (.mk op2 tx2 nm2 ks2),rfl⟩
 | false =>
 rw [hc4,if_neg (by decide)] at hP
 rw [hc4] at k4
 cases hnm:nmS ⟨(⟨kd0,tx,nm⟩,a)::r,d,0⟩ with
 | mk x s7 =>
 rw [hnm] at kn onm hP
 simp only at kn onm hP
 have a7:At L (n+1) s7:=hs.of onm
 have k8:=kat [40] s7 a7
 have i8:=K7 (x:= [40]) (s:=s7)
 have o8:=X0 [40] s7
 cases hc8:(isS [40] s7).1 with
 | false =>
  rw [hc8,if_neg (by decide)] at hP
  rw [hc8] at k8
  subst hP
  refine Qc.go Tryz.func96 rfl ?_
  (repeat' (first|with_reducible refine And.intro ?_ ?_|(with_reducible intro hc;(try simp only [zz] at hc);try exact ct)|((conv=>whnf);first|(with_reducible first|refine And.intro ?_ ?_|intro hx|apply Val.via|apply Qi.via)|exact Is.mk rfl rfl|refine sp ?_|refine vx (by (first|exact Jm hi (J3 rfl rfl)|exact Q4 rfl rfl|exact Qo rfl rfl|exact Qa rfl rfl rfl|rfl)) ?_|refine dY ?_|(first|refine cl (k1 _ rfl) ?_|refine cl (k2 _ rfl) ?_|refine cl (k3 _ rfl) ?_|refine cl (k4 _ rfl) ?_|refine cl (kn _ rfl) ?_|refine cl (k8 _ rfl) ?_)|refine sq ?_)))
  (all_goals try exact om)
  all_goals exact Qf.mk ⟨X2 11 x 0,rfl⟩
 | true =>
 rw [hc8,if_pos rfl] at hP
 rw [hc8] at k8
 obtain ⟨p7,r7,q1,q2,q3⟩:=i8 hc8
 rw [q2] at hP o8
 obtain ⟨l7,d7,e7⟩:=s7
 obtain rfl:e7=0:=q3
 obtain rfl:l7=p7::r7:=q1
 obtain rfl:d=d7:=onm.ok.dep.symm
 have hpn7:=fun z hz=>Kq (L:=L) (r:=r7) (d:=d) (e:=0) a7.suf (z:=z) hz
 have a8:At L (n+1) ⟨r7,d,0⟩:=a7.of o8
 have hln7:r7.length < n:=by have:=onm.ok.len;simp only [List.length_cons] at this;omega
 have a8n:At L n ⟨r7,d,0⟩:=⟨a8.wf,a8.suf,hln7,a8.dep⟩
 have k9:=kat [41] ⟨r7,d,0⟩ a8
 have i9:=K7 (x:= [41]) (s:=⟨r7,d,0⟩)
 have hlen7:=(Zc a7.suf).2
 rw [Y1 L (p7::r7) d 0] at kn k8
 simp only [List.length_cons] at kn k8
 generalize hI7:L.length - (r7.length+1)=i7 at *
 have hP:P=(.mk 12 x 0 (D3 (Xx un 6 0) ⟨r7,d,0⟩).1,(D3 (Xx un 6 0) ⟨r7,d,0⟩).2):=hP.symm
 subst hP
 unfold D3
 cases hc9:(isS [41] ⟨r7,d,0⟩).1 with
 | true =>
  rw [if_pos rfl]
  rw [hc9] at k9
  obtain ⟨p9,r9,q4,q5,q6⟩:=i9 hc9
  rw [q5]
  obtain rfl:r7=p9::r9:=q4
  have hpn9:=fun z hz=>Kq (L:=L) (r:=r9) (d:=d) (e:=0) a8.suf (z:=z) hz
  have hlen9:=(Zc a8.suf).2
  rw [Y1 L (p9::r9) d 0] at hpn7 k9
  simp only [List.length_cons] at hpn7 k9 hI7
  generalize hI9:L.length - (r9.length+1)=i9 at *
  refine Qc.go Tryz.func96 rfl ?_
  (repeat' (first|with_reducible refine And.intro ?_ ?_|(with_reducible intro hc;(try simp only [zz] at hc);try exact ct)|((conv=>whnf);first|(with_reducible first|refine And.intro ?_ ?_|intro hx|apply Val.via|apply Qi.via)|exact Is.mk rfl rfl|refine sp ?_|refine vx (by (first|exact Jm hi (J3 rfl rfl)|exact Q4 rfl rfl|exact Qo rfl rfl|exact Qa rfl rfl rfl|rfl)) ?_|refine dY ?_|(first|refine cl (k1 _ rfl) ?_|refine cl (k2 _ rfl) ?_|refine cl (k3 _ rfl) ?_|refine cl (k4 _ rfl) ?_|refine cl (kn _ rfl) ?_|refine cl (k8 _ rfl) ?_|refine cl (k9 _ (by exact hpn7 _ (by omega))) ?_)|refine sq ?_)))
  (all_goals try exact om)
  all_goals exact Qf.mk ⟨X2 12 x 0,hpn9 _ (by omega)⟩
 | false =>
 rw [if_neg (by decide)]
 rw [hc9] at k9
 generalize hR:Zs (Xx un 6 0) (r7.length+2) [] ⟨r7,d,0⟩=R
 refine Qc.go Tryz.func96 rfl ?_
 (repeat' (first|with_reducible refine And.intro ?_ ?_|(with_reducible intro hc;(try simp only [zz] at hc);try exact ct)|((conv=>whnf);first|(with_reducible first|refine And.intro ?_ ?_|intro hx|apply Val.via|apply Qi.via)|exact Is.mk rfl rfl|refine sp ?_|refine vx (by (first|exact Jm hi (J3 rfl rfl)|exact Q4 rfl rfl|exact Qo rfl rfl|exact Qa rfl rfl rfl|rfl)) ?_|refine dY ?_|(first|refine cl (k1 _ rfl) ?_|refine cl (k2 _ rfl) ?_|refine cl (k3 _ rfl) ?_|refine cl (k4 _ rfl) ?_|refine cl (kn _ rfl) ?_|refine cl (k8 _ rfl) ?_|refine cl (k9 _ (by exact hpn7 _ (by omega))) ?_)|refine sq ?_)))
 (all_goals try exact om)
 (refine Ji.mk (GWP.loopB [0,3] (fun (a:Nat×List Nd×PSt)=>Zs (Xx un 6 0) a.1 a.2.1 a.2.2=R∧(a.2.2.e=0→a.2.2.l.length < a.1)∧At L n a.2.2∧a.2.1.length+a.1≤r7.length+2) (fun _=> []) (fun a=> [(0,pD L a.2.2),(3,.cells true [iV 12,Qe x,iV 0,.gs 4 a.2.1.length 4]),(4,.opt (rowsN a.2.1))]) 5 (fun a=>a.1) (r7.length+2,[],⟨r7,d,0⟩) ⟨hR,fun _=>by simp only;omega,a8n,by simp⟩ ?_);(conv=>whnf);refine And.intro ?_ ?_)
 ·focus (refine ka [] ?_ ?_;all_goals (repeat' (first|exact rz|refine And.intro ?_ ?_|refine Exists.intro _ (And.intro rfl ?_)|refine ro ?_|refine Qu.cons ?_ ?_|(first|exact Y0 _ _|exact Qn.gsN|exact Qn.eq rfl (Jl _)|exact Qn.eq (Qz (by omega)) (Qb _)|exact Qn.eq rfl (Qb _)|exact Qu.eq (us:=rowsN _) rfl (Qh _)|exact Qn.eq rfl (Qx (Qh _)))|exact rv)))
 rintro ⟨f,out,st⟩ ⟨g1,g2,g3,g4⟩
 simp only at g1 g2 g3 g4 ⊢
 by_cases he:st.e=0
 ·have g2:=g2 he
  obtain ⟨f,rfl⟩: ∃ f',f=f'+1:=⟨f - 1,by omega⟩
  obtain ⟨l3,d3,e3⟩:=st
  obtain rfl:e3=0:=he
  rw [Zs,if_pos rfl] at g1
  have g2:l3.length < f+1:=g2
  have hd3:d3≤16:=g3.dep
  have hl3:l3.length < n:=g3.len
  have k5:=kd ⟨l3,d3,0⟩ (by show d3≤100000;omega)
  have a3:At L (n+1) ⟨l3,d3,0⟩:=⟨g3.wf,g3.suf,by show l3.length < n+1;omega,hd3⟩
  by_cases h16:d3=16
  ·subst h16
   have e2:X3 ⟨l3,16,0⟩=⟨l3,17,9⟩:=rfl
   have eD:Zk (Xx un 6 0) ⟨l3,16,0⟩=(nd0,⟨l3,16,9⟩):=rfl
   have eA:argD (Xx un 6 0) out ⟨l3,16,0⟩=out:=rfl
   have eI:isS [41] ⟨l3,16,9⟩=(false,⟨l3,16,9⟩):=K8 _ (by show (9:Nat)≠0;decide)
   have eM:Q5 [44] ⟨l3,16,9⟩=⟨l3,16,9⟩:=X7 _ (by show (9:Nat)≠0;decide)
   have a9:At L (n+1) ⟨l3,16,9⟩:=⟨g3.wf,g3.suf,by show l3.length < n+1;omega,hd3⟩
   have k6:=kat [41] ⟨l3,16,9⟩ a9
   have k7:=kw [44] ⟨l3,16,9⟩ a9
   rw [eI] at k6
   rw [eM] at k7
   rw [eD,eA] at g1
   simp only at g1
   rw [eI,if_neg (fun h=>Bool.noConfusion h),eM] at g1
   rw [e2,Y1 L l3 17 9] at k5
   (repeat' (first|with_reducible refine And.intro ?_ ?_|(with_reducible intro hc;(try simp only [zz] at hc);try exact ct)|((conv=>whnf);first|(with_reducible first|refine And.intro ?_ ?_|intro hx|apply Val.via|apply Qi.via)|exact Is.mk rfl rfl|refine sp ?_|refine vx (by (first|exact Jm hi (J3 rfl rfl)|exact Q4 rfl rfl|exact Qo rfl rfl|exact Qa rfl rfl rfl|rfl)) ?_|refine dY ?_|(first|refine cl (k5 _ rfl) ?_|refine cl (k6 _ (by exact E3 (by omega))) ?_|refine cl (k7 _ rfl) ?_)|refine sq ?_)))
   (all_goals try exact om)
   focus (refine Qf.mk ⟨(f,out,⟨l3,16,9⟩),⟨g1,fun h=>absurd h (by show ¬ (9:Nat)=0;decide),⟨g3.wf,g3.suf,hl3,hd3⟩,by simp only;omega⟩,?_,ka [(4,4)] ?_ ?_⟩;(first|omega|(simp only;omega));all_goals (repeat' (first|exact rz|refine And.intro ?_ ?_|refine Exists.intro _ (And.intro rfl ?_)|refine ro ?_|refine Qu.cons ?_ ?_|(first|exact Y0 _ _|exact Qn.gsN|exact Qn.eq rfl (Jl _)|exact Qn.eq (Qz (by omega)) (Qb _)|exact Qn.eq rfl (Qb _)|exact Qu.eq (us:=rowsN _) rfl (Qh _)|exact Qn.eq rfl (Qx (Qh _)))|exact rv)))
  ·have k6:=kx ⟨l3,d3+1,0⟩ ⟨g3.wf,g3.suf,hl3,by show d3+1≤16;omega⟩
   have o6:=hxk ⟨l3,d3+1,0⟩
   rw [C3 h16,Y1 L l3 (d3+1) 0] at k5
   rw [deepD_ok' h16,argD_ok' h16] at g1
   cases hq:Xx un 6 0 ⟨l3,d3+1,0⟩ with
   | mk n2 st2 =>
   rw [hq] at k6 o6 g1
   obtain ⟨op2,tx2,nm2,ks2⟩:=n2
   obtain ⟨l2,d2,er2⟩:=st2
   obtain rfl:d2=d3+1:=o6.ok.dep
   have s2:l2 <:+ L:=o6.suf.trans g3.suf
   have w2:WfL l2:=o6.ok.wf g3.wf
   have n2:l2.length≤l3.length:=o6.ok.len
   have eP:upE ⟨l2,d3+1,er2⟩=⟨l2,d3,er2⟩:=rfl
   simp only [nV,cellsN] at k6 g1
   rw [eP] at g1
   have a2:At L (n+1) ⟨l2,d3,er2⟩:=⟨w2,s2,by show l2.length < n+1;omega,hd3⟩
   have k7:=kat [41] ⟨l2,d3,er2⟩ a2
   have i7':=K7 (x:= [41]) (s:=⟨l2,d3,er2⟩)
   have hsn:rowsN (out++ [.mk op2 tx2 nm2 ks2])=rowsN out++ [iV op2,Qe tx2,iV nm2,.ro (List.length ks2) (rowsN ks2)]:=by rw [Jy,cellsN]
   rw [Y1 L l2 (d3+1)] at k6
   cases hc2:(isS [41] ⟨l2,d3,er2⟩).1 with
   | true =>
    rw [hc2,if_pos rfl] at g1
    rw [hc2] at k7
    obtain ⟨p2,r2,q4,q5,q6⟩:=i7' hc2
    rw [q5] at g1
    subst g1
    obtain rfl:er2=0:=q6
    obtain rfl:l2=p2::r2:=q4
    have hpn2:=fun z hz=>Kq (L:=L) (r:=r2) (d:=d3) (e:=0) s2 (z:=z) hz
    have hlen2:=(Zc s2).2
    rw [Y1 L (p2::r2) d3 0] at k7
    simp only [List.length_cons] at k6 k7
    generalize hI2:L.length - (r2.length+1)=i2 at *
    have hpe: ∀ {z:Int},z=(d3:Int)→some (VObj.cells true [.ro L.length (Xw L),iV (i2:Int),.sc (.int .i64 z),iV 0])=some (.cells true [.ro L.length (Xw L),iV (i2:Int),iV (d3:Int),iV 0]):=fun h=>by subst h;rfl
    (repeat' (first|with_reducible refine And.intro ?_ ?_|(with_reducible intro hc;(try simp only [zz] at hc);try exact ct)|((conv=>whnf);first|(with_reducible first|refine And.intro ?_ ?_|intro hx|apply Val.via|apply Qi.via)|exact Is.mk rfl rfl|refine sp ?_|refine vx (by (first|exact Jm hi (J3 rfl rfl)|exact Q4 rfl rfl|exact Qo rfl rfl|exact Qa rfl rfl rfl|rfl)) ?_|(first|refine cl (k5 _ rfl) ?_)|refine sq ?_)))
    (all_goals try exact om)
    refine Ji.mk (GWP.drawM mixed 172 [3,5,7] (fun H=> [⟨(0,.cells true [.ro L.length (Xw L),iV (i2:Int),iV ((d3+1:Nat):Int),iV 0])::Qw [0] H.objs,H.next⟩,((⟨(0,.cells true [.ro L.length (Xw L),iV (i2:Int),iV ((d3+1:Nat):Int),iV 0])::Qw [0] H.objs,H.next⟩:Heap).del 4).add (.opt (rowsN out++ [iV op2,Qe tx2,iV nm2,.ro (List.length ks2) (rowsN ks2)])),(((⟨(0,.cells true [.ro L.length (Xw L),iV (i2:Int),iV ((d3+1:Nat):Int),iV 0])::Qw [0] H.objs,H.next⟩:Heap).del 4).add (.opt (rowsN out++ [iV op2,Qe tx2,iV nm2,.ro (List.length ks2) (rowsN ks2)]))).set 3 (.cells true [iV 12,Qe x,iV 0,.gs H.next (out.length+1) 4])]) (by kernel_rfl) (by rfl) ?_)
    repeat' (first|with_reducible refine And.intro ?_ ?_|(with_reducible intro hc;(try simp only [zz] at hc);try exact ct)|exact trivial|((conv=>whnf);first|with_reducible refine And.intro ?_ ?_|with_reducible intro hx|exact Is.mk rfl rfl|exact trivial|(with_reducible first|apply Val.via|apply Qi.via)|(refine GOp.drawn1D (n:= .mk op2 tx2 nm2 ks2) (by rfl) (by rfl) (by rfl))|refine sp ?_|refine vx (by (first|exact Jm hi (J3 rfl rfl)|exact Q4 rfl rfl|exact Qo rfl rfl|exact Qa rfl rfl rfl|rfl)) ?_|(first|refine cl (k6 _ rfl) ?_|refine cl (k7 _ (by exact hpe (by omega))) ?_|(refine Qs (Qr.grow rfl sty_ND (d:= .slice 33) Tryz.underlying31 (by intro k h;cases h) rfl (m:=1) (l:= [iV op2,Qe tx2,iV nm2,.ro (List.length ks2) (rowsN ks2)]) (by rfl) (by rfl) rfl (Q0 out) (by omega) (by omega) ?_)))|refine sq ?_))
    (all_goals try exact om)
    all_goals exact Qf.mk ⟨Zg 12 x 0 (out++ [.mk op2 tx2 nm2 ks2]) (by simp) rfl hsn.symm,hpn2 _ (by omega)⟩
   | false =>
    rw [hc2,if_neg (by decide)] at g1
    rw [hc2] at k7
    have k8:=kw [44] ⟨l2,d3,er2⟩ a2
    have o9:=Xj [44] ⟨l2,d3,er2⟩
    have ml:=Kl (x:= [44]) (s:=⟨l2,d3,er2⟩)
    generalize Q5 [44] ⟨l2,d3,er2⟩=s9 at *
    have a9:=a2.of o9
    have hl9:s9.l.length≤l2.length:=o9.ok.len
    have ml:s9.e=0→s9.l.length < l2.length:=fun h=>(ml h).1
    (repeat' (first|with_reducible refine And.intro ?_ ?_|(with_reducible intro hc;(try simp only [zz] at hc);try exact ct)|((conv=>whnf);first|(with_reducible first|refine And.intro ?_ ?_|intro hx|apply Val.via|apply Qi.via)|exact Is.mk rfl rfl|refine sp ?_|refine vx (by (first|exact Jm hi (J3 rfl rfl)|exact Q4 rfl rfl|exact Qo rfl rfl|exact Qa rfl rfl rfl|rfl)) ?_|(first|refine cl (k5 _ rfl) ?_)|refine sq ?_)))
    (all_goals try exact om)
    refine Ji.mk (GWP.drawM mixed 172 [3,5,7] (fun H=> [⟨(0,.cells true [.ro L.length (Xw L),iV ((L.length - l2.length:Nat):Int),iV ((d3+1:Nat):Int),iV er2])::Qw [0] H.objs,H.next⟩,((⟨(0,.cells true [.ro L.length (Xw L),iV ((L.length - l2.length:Nat):Int),iV ((d3+1:Nat):Int),iV er2])::Qw [0] H.objs,H.next⟩:Heap).del 4).add (.opt (rowsN out++ [iV op2,Qe tx2,iV nm2,.ro (List.length ks2) (rowsN ks2)])),(((⟨(0,.cells true [.ro L.length (Xw L),iV ((L.length - l2.length:Nat):Int),iV ((d3+1:Nat):Int),iV er2])::Qw [0] H.objs,H.next⟩:Heap).del 4).add (.opt (rowsN out++ [iV op2,Qe tx2,iV nm2,.ro (List.length ks2) (rowsN ks2)]))).set 3 (.cells true [iV 12,Qe x,iV 0,.gs H.next (out.length+1) 4])]) (by kernel_rfl) (by rfl) ?_)
    repeat' (first|with_reducible refine And.intro ?_ ?_|(with_reducible intro hc;(try simp only [zz] at hc);try exact ct)|exact trivial|((conv=>whnf);first|with_reducible refine And.intro ?_ ?_|with_reducible intro hx|exact Is.mk rfl rfl|exact trivial|(with_reducible first|apply Val.via|apply Qi.via)|(refine GOp.drawn1D (n:= .mk op2 tx2 nm2 ks2) (by rfl) (by rfl) (by rfl))|refine sp ?_|refine vx (by (first|exact Jm hi (J3 rfl rfl)|exact Q4 rfl rfl|exact Qo rfl rfl|exact Qa rfl rfl rfl|rfl)) ?_|(first|refine cl (k6 _ rfl) ?_|refine cl (k7 _ (by exact E3 (by omega))) ?_|refine cl (k8 _ rfl) ?_|(refine Qs (Qr.grow rfl sty_ND (d:= .slice 33) Tryz.underlying31 (by intro k h;cases h) rfl (m:=1) (l:= [iV op2,Qe tx2,iV nm2,.ro (List.length ks2) (rowsN ks2)]) (by rfl) (by rfl) rfl (Q0 out) (by omega) (by omega) ?_)))|refine sq ?_))
    (all_goals try exact om)
    focus (refine Qf.mk ⟨(f,out++ [.mk op2 tx2 nm2 ks2],s9),⟨g1,fun h=>by have:=ml h;simp only;omega,⟨a9.wf,a9.suf,by show s9.l.length < n;omega,a9.dep⟩,by simp only [List.length_append,List.length_cons,List.length_nil];omega⟩,?_,ka [(5,4)] ?_ ?_⟩;(first|omega|(simp only;omega));all_goals (repeat' (first|exact rz|refine And.intro ?_ ?_|refine Exists.intro _ (And.intro rfl ?_)|refine ro ?_|refine Qu.cons ?_ ?_|(first|exact Qu.eq hsn.symm (Qh _)|(first|exact Y0 _ _|exact Qn.gsN|exact Qn.eq rfl (Jl _)|exact Qn.eq (Qz (by omega)) (Qb _)|exact Qn.eq rfl (Qb _)|exact Qu.eq (us:=rowsN _) rfl (Qh _)|exact Qn.eq rfl (Qx (Qh _))))|exact rv)))
 ·have hxx:(out,st)=R:=by
   rw [← g1]
   cases f with
   | zero=>rfl
   | succ f=>rw [Zs,if_neg he]
  subst hxx
  (repeat' (first|with_reducible refine And.intro ?_ ?_|(with_reducible intro hc;(try simp only [zz] at hc);try exact ct)|((conv=>whnf);first|(with_reducible first|refine And.intro ?_ ?_|intro hx|apply Val.via|apply Qi.via)|exact Is.mk rfl rfl|refine sp ?_|refine vx (by (first|exact Jm hi (J3 rfl rfl)|exact Q4 rfl rfl|exact Qo rfl rfl|exact Qa rfl rfl rfl|rfl)) ?_|refine dY ?_|fail|refine sq ?_)))
  (all_goals try exact om)
  all_goals exact Qf.mk ⟨Zg 12 x 0 out rfl rfl rfl,rfl⟩
theorem part_call (L:List (Sg×Nat)) (hL:L.length≤50000): ∀ (n:Nat) (s:PSt),At L n s→Jw L 96 [] s (nV (partD n s).1) (partD n s).2
 | 0,s,hs=>absurd hs.len (Nat.not_lt_zero _)
 | n+1,s,hs=>by
  have ih:=part_call L hL n
  rw [partD]
  by_cases he:s.e=0
  ·rw [if_neg (by simp [he])]
   cases h1:(isS [110,111,116] s).1 with
   | true =>
    rw [if_pos rfl]
    exact unpart_call L hL n (partD n) (Z6 n) ih _ (.inl rfl) s hs h1
   | false =>
    rw [if_neg (by decide)]
    cases h2:(isS [45] s).1 with
    | true =>
     rw [if_pos rfl]
     exact unpart_call L hL n (partD n) (Z6 n) ih _ (.inr rfl) s hs h2
    | false =>
     rw [if_neg (by decide)]
     exact primD_call L hL n (partD n) (Z6 n) (fun s hs=>expr_call L hL n (partD n) (Z6 n) ih 6 0 (by omega) (by omega) s hs) s hs he h1 h2
  ·rw [if_pos he]
   refine Jw.of ?_
   obtain ⟨l,d,e⟩:=s
   have he:e≠0:=he
   rw [Y1]
   refine Qc.go Tryz.func96 rfl ?_
   (repeat' (first|with_reducible refine And.intro ?_ ?_|(with_reducible intro hc;(try simp only [zz] at hc);try exact ct)|((conv=>whnf);first|(with_reducible first|refine And.intro ?_ ?_|intro hx|apply Val.via|apply Qi.via)|exact Is.mk rfl rfl|refine sp ?_|refine vx (by (first|exact Jm hi (J3 rfl rfl)|exact Q4 rfl rfl|exact Qo rfl rfl|exact Qa rfl rfl rfl|rfl)) ?_|refine dY ?_|fail|refine sq ?_)))
   (all_goals try exact om)
   all_goals exact Qf.mk ⟨X2 0 [] 0,rfl⟩
theorem ex_callD (L:List (Sg×Nat)) (hL:L.length≤50000) (n:Nat) (s:PSt) (hs:At L n s):Jw L 74 [iV 0] s (nV (exD s).1) (exD s).2 :=
 expr_call L hL (s.l.length+1) (partD (s.l.length+1)) (Z6 _) (part_call L hL _) 6 0 (by omega) (by omega) s ⟨hs.wf,hs.suf,Nat.lt_succ_self _,hs.dep⟩
end Go.Proofs.YtnmjdjldbloefaaGreatDoor
