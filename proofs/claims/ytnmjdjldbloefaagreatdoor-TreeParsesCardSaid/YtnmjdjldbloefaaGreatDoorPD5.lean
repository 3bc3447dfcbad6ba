import Derived.Test.YtnmjdjldbloefaaGreatDoorPE5
import Derived.Test.YtnmjdjldbloefaaGreatDoorPD3
import Derived.Test.YtnmjdjldbloefaaGreatDoorPH3
/- The document's statement, walked over its block. -/
namespace Go.Proofs.YtnmjdjldbloefaaGreatDoor
open Go Go.RowKit
set_option linter.unusedSimpArgs false
set_option linter.unusedVariables false
set_option maxRecDepth 100000
set_option maxHeartbeats 8000000
theorem isS_ne {x y:List UInt8} {s:PSt} (h:(isS x s).1=true) (hxy:x≠y):(isS y s).1=false:=by
 obtain ⟨l,d,e⟩:=s
 cases l with
 | nil=>rfl
 | cons q r =>
  obtain ⟨g,a⟩:=q
  simp only [isS] at h ⊢
  by_cases hc:e=0∧g.text=x∧(g.kind=2∨g.kind=5)
  ·rw [if_neg (fun k=>hxy (hc.2.1.symm.trans k.2.1))]
  ·rw [if_neg hc] at h;cases h
theorem stmtD_call (L:List (Sg×Nat)) (hL:L.length≤50000) (n:Nat) (bl:PSt→Nd×PSt) (hok: ∀ s,OkD s (bl s).2)
  (hbl: ∀ s,At L n s→Jw L 23 [] s (nV (bl s).1) (bl s).2)
  (hex: ∀ s,At L (n+1) s→Jw L 74 [iV 0] s (nV (exD s).1) (exD s).2)
  (s:PSt) (hs:At L (n+1) s) (he:s.e=0):Jw L 45 [] s (nV (U2 bl s).1) (U2 bl s).2:=by
 refine Jw.of ?_
 have ki:=fun (x:List UInt8) (s2:PSt) (h1:At L (n+1) s2) (H:Heap) (hb:H.get 0=some (pD L s2))=>Jw.at (Qb _) (by simp [Qd]) (Do L x s2 h1.wf h1.suf (by omega)) hb
 have kw:=fun (x:List UInt8) (s2:PSt) (h1:At L (n+1) s2) (H:Heap) (hb:H.get 0=some (pD L s2))=>Jw.at (Ja (by simp)) (by simp [Qd]) (C7 L x s2 h1.wf h1.suf (by omega)) hb
 have ke:=fun (s2:PSt) (h1:At L (n+1) s2) (H:Heap) (hb:H.get 0=some (pD L s2))=>Jw.at (Qk _) (by simp [iV,Qb]) (hex s2 h1) hb
 have kb:=fun (s2:PSt) (h1:At L n s2) (H:Heap) (hb:H.get 0=some (pD L s2))=>Jw.at (Qk _) (by simp) (hbl s2 h1) hb
 have kat:=ki [105,102] s hs
 have kv:=ki [119,104,105,108,101] s hs
 have kz:=ki [115,116,111,112] s hs
 have ia:=K7 (x:= [105,102]) (s:=s)
 have iv:=K7 (x:= [119,104,105,108,101]) (s:=s)
 have iz:=K7 (x:= [115,116,111,112]) (s:=s)
 have oa:=X0 [105,102] s
 have ov:=X0 [119,104,105,108,101] s
 have oz:=X0 [115,116,111,112] s
 have nav:=fun h=>isS_ne (x:= [105,102]) (y:= [119,104,105,108,101]) (s:=s) h (by decide)
 generalize hP:U2 bl s=P
 unfold U2 at hP
 have hkd:s.l=s.l:=rfl
 obtain ⟨l,d,e⟩:=s
 obtain rfl:e=0:=he
 obtain ⟨g,a,r,hl⟩:=hs.wf.ne
 have hl:l=(g,a)::r:=hl
 subst hl
 obtain ⟨kd,tx,nm⟩:=g
 obtain ⟨hi,hlen⟩:=Zc hs.suf
 have hd16:d≤16:=hs.dep
 have hln:r.length < n:=by have:=hs.len;simp only [List.length_cons] at this;omega
 have hpn:=fun z hz=>Kq (L:=L) (r:=r) (d:=d) (e:=0) hs.suf (z:=z) hz
 have hrs:r <:+ L:=(List.suffix_cons _ _).trans hs.suf
 cases hca:(isS [105,102] ⟨(⟨kd,tx,nm⟩,a)::r,d,0⟩).1 with
 | true =>
  obtain ⟨p,r0,q1,q2,q3⟩:=ia hca
  injection q1 with q4 q5
  subst q5
  rw [hca] at kat
  rw [nav hca] at kv
  rw [hca,if_pos rfl] at hP
  rw [q2] at hP oa
  have a1:At L n ⟨r,d,0⟩:=⟨oa.ok.wf hs.wf,hrs,hln,hd16⟩
  have a1':At L (n+1) ⟨r,d,0⟩:=⟨a1.wf,hrs,Nat.lt_succ_of_lt hln,hd16⟩
  have k1:=ke ⟨r,d,0⟩ a1'
  have o1:=K9 ⟨r,d,0⟩
  unfold ifD at hP
  cases hq1:exD ⟨r,d,0⟩ with
  | mk n1 s2 =>
  rw [hq1] at k1 o1 hP
  obtain ⟨op1,tx1,nm1,ks1⟩:=n1
  simp only at hP o1
  have a2:=a1.of o1
  have k2:=kb s2 a2
  have o2:=hok s2
  cases hq2:bl s2 with
  | mk n2 s3 =>
  rw [hq2] at k2 o2 hP
  obtain ⟨op2,tx2,nm2,ks2⟩:=n2
  simp only at hP o2
  have a3:=a2.of o2
  have k3:=ki [101,108,115,101] s3 ⟨a3.wf,a3.suf,Nat.lt_succ_of_lt a3.len,a3.dep⟩
  have i3:=K7 (x:= [101,108,115,101]) (s:=s3)
  have o3:=X0 [101,108,115,101] s3
  simp only [nV,cellsN] at k1 k2
  rw [Y1 L ((⟨kd,tx,nm⟩,a)::r) d 0] at kat kv ⊢
  simp only [List.length_cons] at kat kv ⊢
  generalize hI:L.length - (r.length+1)=i at *
  have hil:i < L.length:=by omega
  cases hc3:(isS [101,108,115,101] s3).1 with
  | true =>
   obtain ⟨p3,r3,q6,q7,q8⟩:=i3 hc3
   rw [hc3] at k3
   rw [hc3,if_pos rfl] at hP
   rw [q7] at hP o3
   obtain ⟨l3,d3,e3⟩:=s3
   obtain rfl:e3=0:=q8
   obtain rfl:l3=p3::r3:=q6
   have hpn3:=fun z hz=>Kq (L:=L) (r:=r3) (d:=d3) (e:=0) a3.suf (z:=z) hz
   have hlen3:=(Zc a3.suf).2
   have hlc3:(p3::r3).length=r3.length+1:=rfl
   have a4:=a3.of o3
   have k4:=kb ⟨r3,d3,0⟩ a4
   have o3':(⟨r3,(PSt.mk (p3::r3) d3 0).d,(PSt.mk (p3::r3) d3 0).e⟩:PSt)=⟨r3,d3,0⟩:=rfl
   rw [o3'] at hP
   cases hq4:bl ⟨r3,d3,0⟩ with
   | mk n4 s5 =>
   rw [hq4] at k4 hP
   obtain ⟨op4,tx4,nm4,ks4⟩:=n4
   simp only [nV,cellsN] at k4
   simp only at hP
   subst hP
   refine Qc.go Tryz.func45 rfl ?_
   (repeat' (first|with_reducible refine And.intro ?_ ?_|(with_reducible intro hc;(try simp only [zz] at hc);try exact ct)|((conv=>whnf);first|(with_reducible first|refine And.intro ?_ ?_|intro hx|apply Val.via|apply Qi.via)|exact Is.mk rfl rfl|refine sp ?_|refine vx (by (first|exact Qj 0 hi rfl rfl (Qp rfl rfl rfl)|exact Qj 3 hi rfl rfl (Qp rfl rfl rfl)|exact Qj 0 hi1 rfl rfl (Qp rfl (show ((i:Int)+1).toNat=i+1 by omega) rfl)|exact Qj 3 hi1 rfl rfl (Qp rfl (show ((i:Int)+1).toNat=i+1 by omega) rfl)|exact Qo rfl rfl|exact Qa rfl rfl rfl|rfl)) ?_|(first|refine cl (kat _ rfl) ?_|refine cl (kv _ rfl) ?_)|refine sq ?_)))
   (all_goals try exact om)
   (refine Ji.mk (GWP.drawM mixed 151 [3,5,7] (fun H=> [⟨(0,pD L s2)::Qw [0] H.objs,H.next⟩,⟨(H.next+1,.opt [iV op1,Qe tx1,iV nm1,.ro (List.length ks1) (rowsN ks1)])::(0,pD L s2)::Qw [0] H.objs,H.next+2⟩,(⟨(H.next+1,.opt [iV op1,Qe tx1,iV nm1,.ro (List.length ks1) (rowsN ks1)])::(0,pD L s2)::Qw [0] H.objs,H.next+2⟩:Heap).set 2 (.cells true [iV 5,Qe [],iV 0,.gs (H.next+1) 1 4])]) (by kernel_rfl) (by rfl) ?_))
   repeat' (first|with_reducible refine And.intro ?_ ?_|(with_reducible intro hc;(try simp only [zz] at hc);try exact ct)|exact trivial|((conv=>whnf);first|with_reducible refine And.intro ?_ ?_|with_reducible intro hx|exact Is.mk rfl rfl|exact trivial|(with_reducible first|apply Val.via|apply Qi.via)|(first|refine GOp.drawn1D (n:= .mk op1 tx1 nm1 ks1) (by rfl) (by rfl) (by rfl)|(refine Qs (Qr.grow0 rfl sty_ND (d:= .slice 33) Tryz.underlying31 (by intro k h;cases h) (by exact .inl rfl) (m:=1) (l:= [iV op1,Qe tx1,iV nm1,.ro (List.length ks1) (rowsN ks1)]) (fun y=>rfl) (by rfl) (by decide) (by decide) ?_)))|refine sp ?_|refine vx (by (first|exact Qj 0 hi rfl rfl (Qp rfl rfl rfl)|exact Qj 3 hi rfl rfl (Qp rfl rfl rfl)|exact Qj 0 hi1 rfl rfl (Qp rfl (show ((i:Int)+1).toNat=i+1 by omega) rfl)|exact Qj 3 hi1 rfl rfl (Qp rfl (show ((i:Int)+1).toNat=i+1 by omega) rfl)|exact Qo rfl rfl|exact Qa rfl rfl rfl|rfl)) ?_|(first|refine cl (k1 _ (by exact hpn _ (by omega))) ?_)|refine sq ?_))
   (all_goals try exact om)
   (refine Ji.mk (GWP.drawM mixed 151 [3,5,7] (fun H=> [⟨(0,pD L ⟨p3::r3,d3,0⟩)::Qw [0] H.objs,H.next⟩,((⟨(0,pD L ⟨p3::r3,d3,0⟩)::Qw [0] H.objs,H.next⟩:Heap).del 4).add (.opt ([iV op1,Qe tx1,iV nm1,.ro (List.length ks1) (rowsN ks1)]++ [iV op2,Qe tx2,iV nm2,.ro (List.length ks2) (rowsN ks2)])),(((⟨(0,pD L ⟨p3::r3,d3,0⟩)::Qw [0] H.objs,H.next⟩:Heap).del 4).add (.opt ([iV op1,Qe tx1,iV nm1,.ro (List.length ks1) (rowsN ks1)]++ [iV op2,Qe tx2,iV nm2,.ro (List.length ks2) (rowsN ks2)]))).set 2 (.cells true [iV 5,Qe [],iV 0,.gs H.next 2 4])]) (by kernel_rfl) (by rfl) ?_))
   repeat' (first|with_reducible refine And.intro ?_ ?_|(with_reducible intro hc;(try simp only [zz] at hc);try exact ct)|exact trivial|((conv=>whnf);first|with_reducible refine And.intro ?_ ?_|with_reducible intro hx|exact Is.mk rfl rfl|exact trivial|(with_reducible first|apply Val.via|apply Qi.via)|(first|refine GOp.drawn1D (n:= .mk op2 tx2 nm2 ks2) (by rfl) (by rfl) (by rfl)|(refine Qs (Qr.grow rfl sty_ND (d:= .slice 33) Tryz.underlying31 (by intro k h;cases h) rfl (m:=1) (l:= [iV op2,Qe tx2,iV nm2,.ro (List.length ks2) (rowsN ks2)]) (vs:= [iV op1,Qe tx1,iV nm1,.ro (List.length ks1) (rowsN ks1)]) (by rfl) (by rfl) rfl (by rfl) (by decide) (by decide) ?_)))|refine sp ?_|refine vx (by (first|exact Qj 0 hi rfl rfl (Qp rfl rfl rfl)|exact Qj 3 hi rfl rfl (Qp rfl rfl rfl)|exact Qj 0 hi1 rfl rfl (Qp rfl (show ((i:Int)+1).toNat=i+1 by omega) rfl)|exact Qj 3 hi1 rfl rfl (Qp rfl (show ((i:Int)+1).toNat=i+1 by omega) rfl)|exact Qo rfl rfl|exact Qa rfl rfl rfl|rfl)) ?_|(first|refine cl (k2 _ rfl) ?_|refine cl (k3 _ rfl) ?_)|refine sq ?_))
   (all_goals try exact om)
   (refine Ji.mk (GWP.drawM mixed 151 [3,5,7] (fun H=> [⟨(0,pD L s5)::Qw [0] H.objs,H.next⟩,((⟨(0,pD L s5)::Qw [0] H.objs,H.next⟩:Heap).del 5).add (.opt (([iV op1,Qe tx1,iV nm1,.ro (List.length ks1) (rowsN ks1)]++ [iV op2,Qe tx2,iV nm2,.ro (List.length ks2) (rowsN ks2)])++ [iV op4,Qe tx4,iV nm4,.ro (List.length ks4) (rowsN ks4)])),(((⟨(0,pD L s5)::Qw [0] H.objs,H.next⟩:Heap).del 5).add (.opt (([iV op1,Qe tx1,iV nm1,.ro (List.length ks1) (rowsN ks1)]++ [iV op2,Qe tx2,iV nm2,.ro (List.length ks2) (rowsN ks2)])++ [iV op4,Qe tx4,iV nm4,.ro (List.length ks4) (rowsN ks4)]))).set 2 (.cells true [iV 5,Qe [],iV 0,.gs H.next 3 4])]) (by kernel_rfl) (by rfl) ?_))
   repeat' (first|with_reducible refine And.intro ?_ ?_|(with_reducible intro hc;(try simp only [zz] at hc);try exact ct)|exact trivial|((conv=>whnf);first|with_reducible refine And.intro ?_ ?_|with_reducible intro hx|exact Is.mk rfl rfl|exact trivial|(with_reducible first|apply Val.via|apply Qi.via)|(first|refine GOp.drawn1D (n:= .mk op4 tx4 nm4 ks4) (by rfl) (by rfl) (by rfl)|(refine Qs (Qr.grow rfl sty_ND (d:= .slice 33) Tryz.underlying31 (by intro k h;cases h) rfl (m:=1) (l:= [iV op4,Qe tx4,iV nm4,.ro (List.length ks4) (rowsN ks4)]) (vs:=([iV op1,Qe tx1,iV nm1,.ro (List.length ks1) (rowsN ks1)]++ [iV op2,Qe tx2,iV nm2,.ro (List.length ks2) (rowsN ks2)])) (by rfl) (by rfl) rfl (by rfl) (by decide) (by decide) ?_)))|refine sp ?_|refine vx (by (first|exact Qj 0 hi rfl rfl (Qp rfl rfl rfl)|exact Qj 3 hi rfl rfl (Qp rfl rfl rfl)|exact Qj 0 hi1 rfl rfl (Qp rfl (show ((i:Int)+1).toNat=i+1 by omega) rfl)|exact Qj 3 hi1 rfl rfl (Qp rfl (show ((i:Int)+1).toNat=i+1 by omega) rfl)|exact Qo rfl rfl|exact Qa rfl rfl rfl|rfl)) ?_|(first|refine cl (k4 _ (by exact hpn3 _ rfl)) ?_)|refine sq ?_))
   (all_goals try exact om)
   all_goals exact Qf.mk ⟨Zg 5 [] 0 [.mk op1 tx1 nm1 ks1,.mk op2 tx2 nm2 ks2,.mk op4 tx4 nm4 ks4] rfl rfl (by simp only [rowsN,cellsN];rfl),rfl⟩
  | false =>
   rw [hc3] at k3
   rw [hc3,if_neg (by decide)] at hP
   subst hP
   refine Qc.go Tryz.func45 rfl ?_
   (repeat' (first|with_reducible refine And.intro ?_ ?_|(with_reducible intro hc;(try simp only [zz] at hc);try exact ct)|((conv=>whnf);first|(with_reducible first|refine And.intro ?_ ?_|intro hx|apply Val.via|apply Qi.via)|exact Is.mk rfl rfl|refine sp ?_|refine vx (by (first|exact Qj 0 hi rfl rfl (Qp rfl rfl rfl)|exact Qj 3 hi rfl rfl (Qp rfl rfl rfl)|exact Qj 0 hi1 rfl rfl (Qp rfl (show ((i:Int)+1).toNat=i+1 by omega) rfl)|exact Qj 3 hi1 rfl rfl (Qp rfl (show ((i:Int)+1).toNat=i+1 by omega) rfl)|exact Qo rfl rfl|exact Qa rfl rfl rfl|rfl)) ?_|(first|refine cl (kat _ rfl) ?_|refine cl (kv _ rfl) ?_)|refine sq ?_)))
   (all_goals try exact om)
   (refine Ji.mk (GWP.drawM mixed 151 [3,5,7] (fun H=> [⟨(0,pD L s2)::Qw [0] H.objs,H.next⟩,⟨(H.next+1,.opt [iV op1,Qe tx1,iV nm1,.ro (List.length ks1) (rowsN ks1)])::(0,pD L s2)::Qw [0] H.objs,H.next+2⟩,(⟨(H.next+1,.opt [iV op1,Qe tx1,iV nm1,.ro (List.length ks1) (rowsN ks1)])::(0,pD L s2)::Qw [0] H.objs,H.next+2⟩:Heap).set 2 (.cells true [iV 5,Qe [],iV 0,.gs (H.next+1) 1 4])]) (by kernel_rfl) (by rfl) ?_))
   repeat' (first|with_reducible refine And.intro ?_ ?_|(with_reducible intro hc;(try simp only [zz] at hc);try exact ct)|exact trivial|((conv=>whnf);first|with_reducible refine And.intro ?_ ?_|with_reducible intro hx|exact Is.mk rfl rfl|exact trivial|(with_reducible first|apply Val.via|apply Qi.via)|(first|refine GOp.drawn1D (n:= .mk op1 tx1 nm1 ks1) (by rfl) (by rfl) (by rfl)|(refine Qs (Qr.grow0 rfl sty_ND (d:= .slice 33) Tryz.underlying31 (by intro k h;cases h) (by exact .inl rfl) (m:=1) (l:= [iV op1,Qe tx1,iV nm1,.ro (List.length ks1) (rowsN ks1)]) (fun y=>rfl) (by rfl) (by decide) (by decide) ?_)))|refine sp ?_|refine vx (by (first|exact Qj 0 hi rfl rfl (Qp rfl rfl rfl)|exact Qj 3 hi rfl rfl (Qp rfl rfl rfl)|exact Qj 0 hi1 rfl rfl (Qp rfl (show ((i:Int)+1).toNat=i+1 by omega) rfl)|exact Qj 3 hi1 rfl rfl (Qp rfl (show ((i:Int)+1).toNat=i+1 by omega) rfl)|exact Qo rfl rfl|exact Qa rfl rfl rfl|rfl)) ?_|(first|refine cl (k1 _ (by exact hpn _ (by omega))) ?_)|refine sq ?_))
   (all_goals try exact om)
   (refine Ji.mk (GWP.drawM mixed 151 [3,5,7] (fun H=> [⟨(0,pD L s3)::Qw [0] H.objs,H.next⟩,((⟨(0,pD L s3)::Qw [0] H.objs,H.next⟩:Heap).del 4).add (.opt ([iV op1,Qe tx1,iV nm1,.ro (List.length ks1) (rowsN ks1)]++ [iV op2,Qe tx2,iV nm2,.ro (List.length ks2) (rowsN ks2)])),(((⟨(0,pD L s3)::Qw [0] H.objs,H.next⟩:Heap).del 4).add (.opt ([iV op1,Qe tx1,iV nm1,.ro (List.length ks1) (rowsN ks1)]++ [iV op2,Qe tx2,iV nm2,.ro (List.length ks2) (rowsN ks2)]))).set 2 (.cells true [iV 5,Qe [],iV 0,.gs H.next 2 4])]) (by kernel_rfl) (by rfl) ?_))
   repeat' (first|with_reducible refine And.intro ?_ ?_|(with_reducible intro hc;(try simp only [zz] at hc);try exact ct)|exact trivial|((conv=>whnf);first|with_reducible refine And.intro ?_ ?_|with_reducible intro hx|exact Is.mk rfl rfl|exact trivial|(with_reducible first|apply Val.via|apply Qi.via)|(first|refine GOp.drawn1D (n:= .mk op2 tx2 nm2 ks2) (by rfl) (by rfl) (by rfl)|(refine Qs (Qr.grow rfl sty_ND (d:= .slice 33) Tryz.underlying31 (by intro k h;cases h) rfl (m:=1) (l:= [iV op2,Qe tx2,iV nm2,.ro (List.length ks2) (rowsN ks2)]) (vs:= [iV op1,Qe tx1,iV nm1,.ro (List.length ks1) (rowsN ks1)]) (by rfl) (by rfl) rfl (by rfl) (by decide) (by decide) ?_)))|refine sp ?_|refine vx (by (first|exact Qj 0 hi rfl rfl (Qp rfl rfl rfl)|exact Qj 3 hi rfl rfl (Qp rfl rfl rfl)|exact Qj 0 hi1 rfl rfl (Qp rfl (show ((i:Int)+1).toNat=i+1 by omega) rfl)|exact Qj 3 hi1 rfl rfl (Qp rfl (show ((i:Int)+1).toNat=i+1 by omega) rfl)|exact Qo rfl rfl|exact Qa rfl rfl rfl|rfl)) ?_|(first|refine cl (k2 _ rfl) ?_|refine cl (k3 _ rfl) ?_)|refine sq ?_))
   (all_goals try exact om)
   all_goals exact Qf.mk ⟨Zg 5 [] 0 [.mk op1 tx1 nm1 ks1,.mk op2 tx2 nm2 ks2] rfl rfl (by simp only [rowsN,cellsN];rfl),rfl⟩
 | false =>
 rw [hca,if_neg (by decide)] at hP
 rw [hca] at kat
 cases hcv:(isS [119,104,105,108,101] ⟨(⟨kd,tx,nm⟩,a)::r,d,0⟩).1 with
 | true =>
  obtain ⟨p,r0,q1,q2,q3⟩:=iv hcv
  injection q1 with q4 q5
  subst q5
  rw [hcv] at kv
  rw [hcv,if_pos rfl] at hP
  rw [q2] at hP ov
  have a1:At L n ⟨r,d,0⟩:=⟨ov.ok.wf hs.wf,hrs,hln,hd16⟩
  have a1':At L (n+1) ⟨r,d,0⟩:=⟨a1.wf,hrs,Nat.lt_succ_of_lt hln,hd16⟩
  have k1:=ke ⟨r,d,0⟩ a1'
  have o1:=K9 ⟨r,d,0⟩
  cases hq1:exD ⟨r,d,0⟩ with
  | mk n1 s2 =>
  rw [hq1] at k1 o1 hP
  obtain ⟨op1,tx1,nm1,ks1⟩:=n1
  simp only at hP o1
  have a2:=a1.of o1
  have k2:=kb s2 a2
  cases hq2:bl s2 with
  | mk n2 s3 =>
  rw [hq2] at k2 hP
  obtain ⟨op2,tx2,nm2,ks2⟩:=n2
  simp only [nV,cellsN] at k1 k2
  simp only at hP
  subst hP
  rw [Y1 L ((⟨kd,tx,nm⟩,a)::r) d 0] at kat kv ⊢
  simp only [List.length_cons] at kat kv ⊢
  generalize hI:L.length - (r.length+1)=i at *
  have hil:i < L.length:=by omega
  refine Qc.go Tryz.func45 rfl ?_
  (repeat' (first|with_reducible refine And.intro ?_ ?_|(with_reducible intro hc;(try simp only [zz] at hc);try exact ct)|((conv=>whnf);first|(with_reducible first|refine And.intro ?_ ?_|intro hx|apply Val.via|apply Qi.via)|exact Is.mk rfl rfl|refine sp ?_|refine vx (by (first|exact Qj 0 hi rfl rfl (Qp rfl rfl rfl)|exact Qj 3 hi rfl rfl (Qp rfl rfl rfl)|exact Qj 0 hi1 rfl rfl (Qp rfl (show ((i:Int)+1).toNat=i+1 by omega) rfl)|exact Qj 3 hi1 rfl rfl (Qp rfl (show ((i:Int)+1).toNat=i+1 by omega) rfl)|exact Qo rfl rfl|exact Qa rfl rfl rfl|rfl)) ?_|(first|refine cl (kat _ rfl) ?_|refine cl (kv _ rfl) ?_)|refine sq ?_)))
  (all_goals try exact om)
  (refine Ji.mk (GWP.drawM mixed 151 [3,5,7] (fun H=> [⟨(0,pD L s2)::Qw [0] H.objs,H.next⟩,⟨(H.next+1,.opt [iV op1,Qe tx1,iV nm1,.ro (List.length ks1) (rowsN ks1)])::(0,pD L s2)::Qw [0] H.objs,H.next+2⟩,(⟨(H.next+1,.opt [iV op1,Qe tx1,iV nm1,.ro (List.length ks1) (rowsN ks1)])::(0,pD L s2)::Qw [0] H.objs,H.next+2⟩:Heap).set 2 (.cells true [iV 6,Qe [],iV 0,.gs (H.next+1) 1 4])]) (by kernel_rfl) (by rfl) ?_))
  repeat' (first|with_reducible refine And.intro ?_ ?_|(with_reducible intro hc;(try simp only [zz] at hc);try exact ct)|exact trivial|((conv=>whnf);first|with_reducible refine And.intro ?_ ?_|with_reducible intro hx|exact Is.mk rfl rfl|exact trivial|(with_reducible first|apply Val.via|apply Qi.via)|(first|refine GOp.drawn1D (n:= .mk op1 tx1 nm1 ks1) (by rfl) (by rfl) (by rfl)|(refine Qs (Qr.grow0 rfl sty_ND (d:= .slice 33) Tryz.underlying31 (by intro k h;cases h) (by exact .inl rfl) (m:=1) (l:= [iV op1,Qe tx1,iV nm1,.ro (List.length ks1) (rowsN ks1)]) (fun y=>rfl) (by rfl) (by decide) (by decide) ?_)))|refine sp ?_|refine vx (by (first|exact Qj 0 hi rfl rfl (Qp rfl rfl rfl)|exact Qj 3 hi rfl rfl (Qp rfl rfl rfl)|exact Qj 0 hi1 rfl rfl (Qp rfl (show ((i:Int)+1).toNat=i+1 by omega) rfl)|exact Qj 3 hi1 rfl rfl (Qp rfl (show ((i:Int)+1).toNat=i+1 by omega) rfl)|exact Qo rfl rfl|exact Qa rfl rfl rfl|rfl)) ?_|(first|refine cl (k1 _ (by exact hpn _ (by omega))) ?_)|refine sq ?_))
  (all_goals try exact om)
  (refine Ji.mk (GWP.drawM mixed 151 [3,5,7] (fun H=> [⟨(0,pD L s3)::Qw [0] H.objs,H.next⟩,((⟨(0,pD L s3)::Qw [0] H.objs,H.next⟩:Heap).del 4).add (.opt ([iV op1,Qe tx1,iV nm1,.ro (List.length ks1) (rowsN ks1)]++ [iV op2,Qe tx2,iV nm2,.ro (List.length ks2) (rowsN ks2)])),(((⟨(0,pD L s3)::Qw [0] H.objs,H.next⟩:Heap).del 4).add (.opt ([iV op1,Qe tx1,iV nm1,.ro (List.length ks1) (rowsN ks1)]++ [iV op2,Qe tx2,iV nm2,.ro (List.length ks2) (rowsN ks2)]))).set 2 (.cells true [iV 6,Qe [],iV 0,.gs H.next 2 4])]) (by kernel_rfl) (by rfl) ?_))
  repeat' (first|with_reducible refine And.intro ?_ ?_|(with_reducible intro hc;(try simp only [zz] at hc);try exact ct)|exact trivial|((conv=>whnf);first|with_reducible refine And.intro ?_ ?_|with_reducible intro hx|exact Is.mk rfl rfl|exact trivial|(with_reducible first|apply Val.via|apply Qi.via)|(first|refine GOp.drawn1D (n:= .mk op2 tx2 nm2 ks2) (by rfl) (by rfl) (by rfl)|(refine Qs (Qr.grow rfl sty_ND (d:= .slice 33) Tryz.underlying31 (by intro k h;cases h) rfl (m:=1) (l:= [iV op2,Qe tx2,iV nm2,.ro (List.length ks2) (rowsN ks2)]) (vs:= [iV op1,Qe tx1,iV nm1,.ro (List.length ks1) (rowsN ks1)]) (by rfl) (by rfl) rfl (by rfl) (by decide) (by decide) ?_)))|refine sp ?_|refine vx (by (first|exact Qj 0 hi rfl rfl (Qp rfl rfl rfl)|exact Qj 3 hi rfl rfl (Qp rfl rfl rfl)|exact Qj 0 hi1 rfl rfl (Qp rfl (show ((i:Int)+1).toNat=i+1 by omega) rfl)|exact Qj 3 hi1 rfl rfl (Qp rfl (show ((i:Int)+1).toNat=i+1 by omega) rfl)|exact Qo rfl rfl|exact Qa rfl rfl rfl|rfl)) ?_|(first|refine cl (k2 _ rfl) ?_)|refine sq ?_))
  (all_goals try exact om)
  all_goals exact Qf.mk ⟨Zg 6 [] 0 [.mk op1 tx1 nm1 ks1,.mk op2 tx2 nm2 ks2] rfl rfl (by simp only [rowsN,cellsN];rfl),rfl⟩
 | false =>
 rw [hcv,if_neg (by decide)] at hP
 rw [hcv] at kv
 cases hcz:(isS [115,116,111,112] ⟨(⟨kd,tx,nm⟩,a)::r,d,0⟩).1 with
 | true =>
  obtain ⟨p,r0,q1,q2,q3⟩:=iz hcz
  injection q1 with q4 q5
  subst q5
  rw [hcz] at kz
  rw [hcz,if_pos rfl] at hP
  rw [q2] at hP oz
  have k1:=kw [59] ⟨r,d,0⟩ ⟨oz.ok.wf hs.wf,hrs,Nat.lt_succ_of_lt hln,hd16⟩
  subst hP
  rw [Y1 L ((⟨kd,tx,nm⟩,a)::r) d 0] at kat kv kz ⊢
  simp only [List.length_cons] at kat kv kz ⊢
  generalize hI:L.length - (r.length+1)=i at *
  have hil:i < L.length:=by omega
  refine Qc.go Tryz.func45 rfl ?_
  (repeat' (first|with_reducible refine And.intro ?_ ?_|(with_reducible intro hc;(try simp only [zz] at hc);try exact ct)|((conv=>whnf);first|(with_reducible first|refine And.intro ?_ ?_|intro hx|apply Val.via|apply Qi.via)|exact Is.mk rfl rfl|refine sp ?_|refine vx (by (first|exact Qj 0 hi rfl rfl (Qp rfl rfl rfl)|exact Qj 3 hi rfl rfl (Qp rfl rfl rfl)|exact Qj 0 hi1 rfl rfl (Qp rfl (show ((i:Int)+1).toNat=i+1 by omega) rfl)|exact Qj 3 hi1 rfl rfl (Qp rfl (show ((i:Int)+1).toNat=i+1 by omega) rfl)|exact Qo rfl rfl|exact Qa rfl rfl rfl|rfl)) ?_|(first|refine cl (kat _ rfl) ?_|refine cl (kv _ rfl) ?_|refine cl (kz _ rfl) ?_|refine cl (k1 _ (by exact hpn _ (by omega))) ?_)|refine sq ?_)))
  (all_goals try exact om)
  all_goals exact Qf.mk ⟨X2 7 [] 0,rfl⟩
 | false =>
 rw [hcz,if_neg (by decide)] at hP
 rw [hcz] at kz
 by_cases hset:N8 ⟨(⟨kd,tx,nm⟩,a)::r,d,0⟩=true
 ·rw [if_pos ⟨rfl,hset⟩] at hP
  cases r with
  | nil=>cases hset
  | cons q r2 =>
  obtain ⟨⟨kd2,tx2,nm2⟩,pz⟩:=q
  simp only [N8,Bool.and_eq_true,decide_eq_true_eq] at hset
  obtain ⟨⟨rfl,rfl⟩,rfl⟩:=hset
  have hi1:=(Zc hrs).1
  have hi1l:=(Zc hrs).2
  have hr2:r2 <:+ L:=(List.suffix_cons _ _).trans hrs
  have w2:WfL r2:=(hs.wf.tail (by show (1:Nat)≠0;decide)).tail (by show (5:Nat)≠0;decide)
  have hl2:r2.length < n:=by simp only [List.length_cons] at hln;omega
  have a2:At L (n+1) ⟨r2,d,0⟩:=⟨w2,hr2,Nat.lt_succ_of_lt hl2,hd16⟩
  have eS:setD ⟨(⟨1,tx,nm⟩,a)::(⟨5,[61],nm2⟩,pz)::r2,d,0⟩=(tx,⟨r2,d,0⟩):=rfl
  rw [eS] at hP
  simp only at hP
  have k1:=ke ⟨r2,d,0⟩ a2
  have o1:=K9 ⟨r2,d,0⟩
  cases hq1:exD ⟨r2,d,0⟩ with
  | mk n1 s3 =>
  rw [hq1] at k1 o1 hP
  obtain ⟨op1,tx1,nm1,ks1⟩:=n1
  simp only [nV,cellsN] at k1
  simp only at hP o1
  have k2:=kw [59] s3 (a2.of o1)
  subst hP
  rw [Y1 L ((⟨1,tx,nm⟩,a)::(⟨5,[61],nm2⟩,pz)::r2) d 0] at kat kv kz ⊢
  simp only [List.length_cons] at kat kv kz hi hi1 hi1l hlen ⊢
  have hI1:L.length - (r2.length+1)=L.length - (r2.length+1+1)+1:=by omega
  rw [hI1] at hi1
  have hpn2: ∀ z:Int,z=((L.length - (r2.length+1+1):Nat):Int)+2→some (VObj.cells true [.ro L.length (Xw L),.sc (.int .i64 z),iV d,iV 0])=some (pD L ⟨r2,d,0⟩):=fun z hz=>by
   have:z=((L.length - r2.length:Nat):Int):=by omega
   subst this
   rfl
  generalize hI:L.length - (r2.length+1+1)=i at *
  have hil:i+1 < L.length:=by omega
  refine Qc.go Tryz.func45 rfl ?_
  (repeat' (first|with_reducible refine And.intro ?_ ?_|(with_reducible intro hc;(try simp only [zz] at hc);try exact ct)|((conv=>whnf);first|(with_reducible first|refine And.intro ?_ ?_|intro hx|apply Val.via|apply Qi.via)|exact Is.mk rfl rfl|refine sp ?_|refine vx (by (first|exact Qj 0 hi rfl rfl (Qp rfl rfl rfl)|exact Qj 3 hi rfl rfl (Qp rfl rfl rfl)|exact Qj 0 hi1 rfl rfl (Qp rfl (show ((i:Int)+1).toNat=i+1 by omega) rfl)|exact Qj 3 hi1 rfl rfl (Qp rfl (show ((i:Int)+1).toNat=i+1 by omega) rfl)|exact Qo rfl rfl|exact Qa rfl rfl rfl|rfl)) ?_|(first|refine cl (kat _ rfl) ?_|refine cl (kv _ rfl) ?_|refine cl (kz _ rfl) ?_)|refine sq ?_)))
  (all_goals try exact om)
  refine Ji.mk (GWP.drawY mixed _ (by kernel_rfl) (by rfl) ?_)
  (repeat' (first|with_reducible refine And.intro ?_ ?_|(with_reducible intro hc;(try simp only [zz] at hc);try exact ct)|((conv=>whnf);first|(with_reducible first|refine And.intro ?_ ?_|intro hx|apply Val.via|apply Qi.via)|exact Is.mk rfl rfl|refine sp ?_|refine vx (by (first|exact Qj 0 hi rfl rfl (Qp rfl rfl rfl)|exact Qj 3 hi rfl rfl (Qp rfl rfl rfl)|exact Qj 0 hi1 rfl rfl (Qp rfl (show ((i:Int)+1).toNat=i+1 by omega) rfl)|exact Qj 3 hi1 rfl rfl (Qp rfl (show ((i:Int)+1).toNat=i+1 by omega) rfl)|exact Qo rfl rfl|exact Qa rfl rfl rfl|rfl)) ?_|fail|refine sq ?_)))
  (all_goals try exact om)
  refine Ji.mk (GWP.drawY mixed _ (by kernel_rfl) (by rfl) ?_)
  (repeat' (first|with_reducible refine And.intro ?_ ?_|(with_reducible intro hc;(try simp only [zz] at hc);try exact ct)|((conv=>whnf);first|(with_reducible first|refine And.intro ?_ ?_|intro hx|apply Val.via|apply Qi.via)|exact Is.mk rfl rfl|refine sp ?_|refine vx (by (first|exact Qj 0 hi rfl rfl (Qp rfl rfl rfl)|exact Qj 3 hi rfl rfl (Qp rfl rfl rfl)|exact Qj 0 hi1 rfl rfl (Qp rfl (show ((i:Int)+1).toNat=i+1 by omega) rfl)|exact Qj 3 hi1 rfl rfl (Qp rfl (show ((i:Int)+1).toNat=i+1 by omega) rfl)|exact Qo rfl rfl|exact Qa rfl rfl rfl|rfl)) ?_|fail|refine sq ?_)))
  (all_goals try exact om)
  (refine Ji.mk (GWP.drawM mixed 151 [3,5,7] (fun H=> [⟨(0,pD L s3)::Qw [0] H.objs,H.next⟩,⟨(H.next+1,.opt [iV op1,Qe tx1,iV nm1,.ro (List.length ks1) (rowsN ks1)])::(0,pD L s3)::Qw [0] H.objs,H.next+2⟩,(⟨(H.next+1,.opt [iV op1,Qe tx1,iV nm1,.ro (List.length ks1) (rowsN ks1)])::(0,pD L s3)::Qw [0] H.objs,H.next+2⟩:Heap).set 2 (.cells true [iV 3,Qe tx,iV 0,.gs (H.next+1) 1 4])]) (by kernel_rfl) (by rfl) ?_))
  repeat' (first|with_reducible refine And.intro ?_ ?_|(with_reducible intro hc;(try simp only [zz] at hc);try exact ct)|exact trivial|((conv=>whnf);first|with_reducible refine And.intro ?_ ?_|with_reducible intro hx|exact Is.mk rfl rfl|exact trivial|(with_reducible first|apply Val.via|apply Qi.via)|(first|refine GOp.drawn1D (n:= .mk op1 tx1 nm1 ks1) (by rfl) (by rfl) (by rfl)|(refine Qs (Qr.grow0 rfl sty_ND (d:= .slice 33) Tryz.underlying31 (by intro k h;cases h) (by exact .inl rfl) (m:=1) (l:= [iV op1,Qe tx1,iV nm1,.ro (List.length ks1) (rowsN ks1)]) (fun y=>rfl) (by rfl) (by decide) (by decide) ?_)))|refine sp ?_|refine vx (by (first|exact Qj 0 hi rfl rfl (Qp rfl rfl rfl)|exact Qj 3 hi rfl rfl (Qp rfl rfl rfl)|exact Qj 0 hi1 rfl rfl (Qp rfl (show ((i:Int)+1).toNat=i+1 by omega) rfl)|exact Qj 3 hi1 rfl rfl (Qp rfl (show ((i:Int)+1).toNat=i+1 by omega) rfl)|exact Qo rfl rfl|exact Qa rfl rfl rfl|rfl)) ?_|(first|refine cl (k1 _ (by exact hpn2 _ (by omega))) ?_|refine cl (k2 _ rfl) ?_)|refine sq ?_))
  (all_goals try exact om)
  all_goals exact Qf.mk ⟨Zg 3 tx 0 [.mk op1 tx1 nm1 ks1] rfl rfl (by simp only [rowsN,cellsN];rfl),rfl⟩
 ·rw [if_neg (fun h=>hset h.2)] at hP
  have k1:=ke ⟨(⟨kd,tx,nm⟩,a)::r,d,0⟩ hs
  have o1:=K9 ⟨(⟨kd,tx,nm⟩,a)::r,d,0⟩
  cases hq1:exD ⟨(⟨kd,tx,nm⟩,a)::r,d,0⟩ with
  | mk n1 s3 =>
  rw [hq1] at k1 o1 hP
  obtain ⟨op1,tx1,nm1,ks1⟩:=n1
  simp only [nV,cellsN] at k1
  simp only at hP o1
  have k2:=kw [59] s3 (hs.of o1)
  subst hP
  clear hq1
  by_cases hk1:kd=1
  ·subst hk1
   cases r with
   | nil=>exact absurd (hs.wf.tail (by show (1:Nat)≠0;decide)) (by rintro ⟨p,z,h,_⟩;simp at h)
   | cons q r2 =>
   obtain ⟨⟨kd2,tx2,nm2⟩,pz⟩:=q
   have hset: ¬ (kd2=5∧tx2= [61]):=fun h=>hset (by obtain ⟨rfl,rfl⟩:=h;rfl)
   have hi1:=(Zc hrs).1
   have hi1l:=(Zc hrs).2
   rw [Y1 L ((⟨1,tx,nm⟩,a)::(⟨kd2,tx2,nm2⟩,pz)::r2) d 0] at kat kv kz k1 ⊢
   simp only [List.length_cons] at kat kv kz k1 hi hi1 hi1l hlen ⊢
   have hI1:L.length - (r2.length+1)=L.length - (r2.length+1+1)+1:=by omega
   rw [hI1] at hi1
   generalize hI:L.length - (r2.length+1+1)=i at *
   have hil:i+1 < L.length:=by omega
   by_cases hk5:kd2=5
   ·subst hk5
    have htx2: ¬ tx2= [61]:=fun h=>hset ⟨rfl,h⟩
    refine Qc.go Tryz.func45 rfl ?_
    (repeat' (first|with_reducible refine And.intro ?_ ?_|(with_reducible intro hc;(try simp only [zz] at hc);try exact ct)|((conv=>whnf);first|(with_reducible first|refine And.intro ?_ ?_|intro hx|apply Val.via|apply Qi.via)|exact Is.mk rfl rfl|refine sp ?_|refine vx (by (first|exact Qj 0 hi rfl rfl (Qp rfl rfl rfl)|exact Qj 3 hi rfl rfl (Qp rfl rfl rfl)|exact Qj 0 hi1 rfl rfl (Qp rfl (show ((i:Int)+1).toNat=i+1 by omega) rfl)|exact Qj 3 hi1 rfl rfl (Qp rfl (show ((i:Int)+1).toNat=i+1 by omega) rfl)|exact Qo rfl rfl|exact Qa rfl rfl rfl|rfl)) ?_|(first|refine cl (kat _ rfl) ?_|refine cl (kv _ rfl) ?_|refine cl (kz _ rfl) ?_)|refine sq ?_)))
    (all_goals try exact om)
    refine Ji.mk (GWP.drawY mixed _ (by kernel_rfl) (by rfl) ?_)
    (repeat' (first|with_reducible refine And.intro ?_ ?_|(with_reducible intro hc;(try simp only [zz] at hc);try exact ct)|((conv=>whnf);first|(with_reducible first|refine And.intro ?_ ?_|intro hx|apply Val.via|apply Qi.via)|exact Is.mk rfl rfl|refine sp ?_|refine vx (by (first|exact Qj 0 hi rfl rfl (Qp rfl rfl rfl)|exact Qj 3 hi rfl rfl (Qp rfl rfl rfl)|exact Qj 0 hi1 rfl rfl (Qp rfl (show ((i:Int)+1).toNat=i+1 by omega) rfl)|exact Qj 3 hi1 rfl rfl (Qp rfl (show ((i:Int)+1).toNat=i+1 by omega) rfl)|exact Qo rfl rfl|exact Qa rfl rfl rfl|rfl)) ?_|fail|refine sq ?_)))
    (all_goals try exact om)
    (refine Ji.mk (GWP.drawM mixed 151 [3,5,7] (fun H=> [⟨(0,pD L s3)::Qw [0] H.objs,H.next⟩,⟨(H.next+1,.opt [iV op1,Qe tx1,iV nm1,.ro (List.length ks1) (rowsN ks1)])::(0,pD L s3)::Qw [0] H.objs,H.next+2⟩,(⟨(H.next+1,.opt [iV op1,Qe tx1,iV nm1,.ro (List.length ks1) (rowsN ks1)])::(0,pD L s3)::Qw [0] H.objs,H.next+2⟩:Heap).set 2 (.cells true [iV 4,Qe [],iV 0,.gs (H.next+1) 1 4])]) (by kernel_rfl) (by rfl) ?_))
    repeat' (first|with_reducible refine And.intro ?_ ?_|(with_reducible intro hc;(try simp only [zz] at hc);try exact ct)|exact trivial|((conv=>whnf);first|with_reducible refine And.intro ?_ ?_|with_reducible intro hx|exact Is.mk rfl rfl|exact trivial|(with_reducible first|apply Val.via|apply Qi.via)|(first|refine GOp.drawn1D (n:= .mk op1 tx1 nm1 ks1) (by rfl) (by rfl) (by rfl)|(refine Qs (Qr.grow0 rfl sty_ND (d:= .slice 33) Tryz.underlying31 (by intro k h;cases h) (by exact .inl rfl) (m:=1) (l:= [iV op1,Qe tx1,iV nm1,.ro (List.length ks1) (rowsN ks1)]) (fun y=>rfl) (by rfl) (by decide) (by decide) ?_)))|refine sp ?_|refine vx (by (first|exact Qj 0 hi rfl rfl (Qp rfl rfl rfl)|exact Qj 3 hi rfl rfl (Qp rfl rfl rfl)|exact Qj 0 hi1 rfl rfl (Qp rfl (show ((i:Int)+1).toNat=i+1 by omega) rfl)|exact Qj 3 hi1 rfl rfl (Qp rfl (show ((i:Int)+1).toNat=i+1 by omega) rfl)|exact Qo rfl rfl|exact Qa rfl rfl rfl|rfl)) ?_|(first|refine cl (k1 _ rfl) ?_|refine cl (k2 _ rfl) ?_)|refine sq ?_))
    (all_goals try exact om)
    all_goals exact Qf.mk ⟨Zg 4 [] 0 [.mk op1 tx1 nm1 ks1] rfl rfl (by simp only [rowsN,cellsN];rfl),rfl⟩
   ·refine Qc.go Tryz.func45 rfl ?_
    (repeat' (first|with_reducible refine And.intro ?_ ?_|(with_reducible intro hc;(try simp only [zz] at hc);try exact ct)|((conv=>whnf);first|(with_reducible first|refine And.intro ?_ ?_|intro hx|apply Val.via|apply Qi.via)|exact Is.mk rfl rfl|refine sp ?_|refine vx (by (first|exact Qj 0 hi rfl rfl (Qp rfl rfl rfl)|exact Qj 3 hi rfl rfl (Qp rfl rfl rfl)|exact Qj 0 hi1 rfl rfl (Qp rfl (show ((i:Int)+1).toNat=i+1 by omega) rfl)|exact Qj 3 hi1 rfl rfl (Qp rfl (show ((i:Int)+1).toNat=i+1 by omega) rfl)|exact Qo rfl rfl|exact Qa rfl rfl rfl|rfl)) ?_|(first|refine cl (kat _ rfl) ?_|refine cl (kv _ rfl) ?_|refine cl (kz _ rfl) ?_)|refine sq ?_)))
    (all_goals try exact om)
    refine Ji.mk (GWP.drawY mixed _ (by kernel_rfl) (by rfl) ?_)
    (repeat' (first|with_reducible refine And.intro ?_ ?_|(with_reducible intro hc;(try simp only [zz] at hc);try exact ct)|((conv=>whnf);first|(with_reducible first|refine And.intro ?_ ?_|intro hx|apply Val.via|apply Qi.via)|exact Is.mk rfl rfl|refine sp ?_|refine vx (by (first|exact Qj 0 hi rfl rfl (Qp rfl rfl rfl)|exact Qj 3 hi rfl rfl (Qp rfl rfl rfl)|exact Qj 0 hi1 rfl rfl (Qp rfl (show ((i:Int)+1).toNat=i+1 by omega) rfl)|exact Qj 3 hi1 rfl rfl (Qp rfl (show ((i:Int)+1).toNat=i+1 by omega) rfl)|exact Qo rfl rfl|exact Qa rfl rfl rfl|rfl)) ?_|fail|refine sq ?_)))
    (all_goals try exact om)
    (refine Ji.mk (GWP.drawM mixed 151 [3,5,7] (fun H=> [⟨(0,pD L s3)::Qw [0] H.objs,H.next⟩,⟨(H.next+1,.opt [iV op1,Qe tx1,iV nm1,.ro (List.length ks1) (rowsN ks1)])::(0,pD L s3)::Qw [0] H.objs,H.next+2⟩,(⟨(H.next+1,.opt [iV op1,Qe tx1,iV nm1,.ro (List.length ks1) (rowsN ks1)])::(0,pD L s3)::Qw [0] H.objs,H.next+2⟩:Heap).set 2 (.cells true [iV 4,Qe [],iV 0,.gs (H.next+1) 1 4])]) (by kernel_rfl) (by rfl) ?_))
    repeat' (first|with_reducible refine And.intro ?_ ?_|(with_reducible intro hc;(try simp only [zz] at hc);try exact ct)|exact trivial|((conv=>whnf);first|with_reducible refine And.intro ?_ ?_|with_reducible intro hx|exact Is.mk rfl rfl|exact trivial|(with_reducible first|apply Val.via|apply Qi.via)|(first|refine GOp.drawn1D (n:= .mk op1 tx1 nm1 ks1) (by rfl) (by rfl) (by rfl)|(refine Qs (Qr.grow0 rfl sty_ND (d:= .slice 33) Tryz.underlying31 (by intro k h;cases h) (by exact .inl rfl) (m:=1) (l:= [iV op1,Qe tx1,iV nm1,.ro (List.length ks1) (rowsN ks1)]) (fun y=>rfl) (by rfl) (by decide) (by decide) ?_)))|refine sp ?_|refine vx (by (first|exact Qj 0 hi rfl rfl (Qp rfl rfl rfl)|exact Qj 3 hi rfl rfl (Qp rfl rfl rfl)|exact Qj 0 hi1 rfl rfl (Qp rfl (show ((i:Int)+1).toNat=i+1 by omega) rfl)|exact Qj 3 hi1 rfl rfl (Qp rfl (show ((i:Int)+1).toNat=i+1 by omega) rfl)|exact Qo rfl rfl|exact Qa rfl rfl rfl|rfl)) ?_|(first|refine cl (k1 _ rfl) ?_|refine cl (k2 _ rfl) ?_)|refine sq ?_))
    (all_goals try exact om)
    all_goals exact Qf.mk ⟨Zg 4 [] 0 [.mk op1 tx1 nm1 ks1] rfl rfl (by simp only [rowsN,cellsN];rfl),rfl⟩
  ·rw [Y1 L ((⟨kd,tx,nm⟩,a)::r) d 0] at kat kv kz k1 ⊢
   simp only [List.length_cons] at kat kv kz k1 ⊢
   generalize hI:L.length - (r.length+1)=i at *
   have hil:i < L.length:=by omega
   refine Qc.go Tryz.func45 rfl ?_
   (repeat' (first|with_reducible refine And.intro ?_ ?_|(with_reducible intro hc;(try simp only [zz] at hc);try exact ct)|((conv=>whnf);first|(with_reducible first|refine And.intro ?_ ?_|intro hx|apply Val.via|apply Qi.via)|exact Is.mk rfl rfl|refine sp ?_|refine vx (by (first|exact Qj 0 hi rfl rfl (Qp rfl rfl rfl)|exact Qj 3 hi rfl rfl (Qp rfl rfl rfl)|exact Qj 0 hi1 rfl rfl (Qp rfl (show ((i:Int)+1).toNat=i+1 by omega) rfl)|exact Qj 3 hi1 rfl rfl (Qp rfl (show ((i:Int)+1).toNat=i+1 by omega) rfl)|exact Qo rfl rfl|exact Qa rfl rfl rfl|rfl)) ?_|(first|refine cl (kat _ rfl) ?_|refine cl (kv _ rfl) ?_|refine cl (kz _ rfl) ?_)|refine sq ?_)))
   (all_goals try exact om)
   refine Ji.mk (GWP.drawY mixed _ (by kernel_rfl) (by rfl) ?_)
   (repeat' (first|with_reducible refine And.intro ?_ ?_|(with_reducible intro hc;(try simp only [zz] at hc);try exact ct)|((conv=>whnf);first|(with_reducible first|refine And.intro ?_ ?_|intro hx|apply Val.via|apply Qi.via)|exact Is.mk rfl rfl|refine sp ?_|refine vx (by (first|exact Qj 0 hi rfl rfl (Qp rfl rfl rfl)|exact Qj 3 hi rfl rfl (Qp rfl rfl rfl)|exact Qj 0 hi1 rfl rfl (Qp rfl (show ((i:Int)+1).toNat=i+1 by omega) rfl)|exact Qj 3 hi1 rfl rfl (Qp rfl (show ((i:Int)+1).toNat=i+1 by omega) rfl)|exact Qo rfl rfl|exact Qa rfl rfl rfl|rfl)) ?_|fail|refine sq ?_)))
   (all_goals try exact om)
   (refine Ji.mk (GWP.drawM mixed 151 [3,5,7] (fun H=> [⟨(0,pD L s3)::Qw [0] H.objs,H.next⟩,⟨(H.next+1,.opt [iV op1,Qe tx1,iV nm1,.ro (List.length ks1) (rowsN ks1)])::(0,pD L s3)::Qw [0] H.objs,H.next+2⟩,(⟨(H.next+1,.opt [iV op1,Qe tx1,iV nm1,.ro (List.length ks1) (rowsN ks1)])::(0,pD L s3)::Qw [0] H.objs,H.next+2⟩:Heap).set 2 (.cells true [iV 4,Qe [],iV 0,.gs (H.next+1) 1 4])]) (by kernel_rfl) (by rfl) ?_))
   repeat' (first|with_reducible refine And.intro ?_ ?_|(with_reducible intro hc;(try simp only [zz] at hc);try exact ct)|exact trivial|((conv=>whnf);first|with_reducible refine And.intro ?_ ?_|with_reducible intro hx|exact Is.mk rfl rfl|exact trivial|(with_reducible first|apply Val.via|apply Qi.via)|(first|refine GOp.drawn1D (n:= .mk op1 tx1 nm1 ks1) (by rfl) (by rfl) (by rfl)|(refine Qs (Qr.grow0 rfl sty_ND (d:= .slice 33) Tryz.underlying31 (by intro k h;cases h) (by exact .inl rfl) (m:=1) (l:= [iV op1,Qe tx1,iV nm1,.ro (List.length ks1) (rowsN ks1)]) (fun y=>rfl) (by rfl) (by decide) (by decide) ?_)))|refine sp ?_|refine vx (by (first|exact Qj 0 hi rfl rfl (Qp rfl rfl rfl)|exact Qj 3 hi rfl rfl (Qp rfl rfl rfl)|exact Qj 0 hi1 rfl rfl (Qp rfl (show ((i:Int)+1).toNat=i+1 by omega) rfl)|exact Qj 3 hi1 rfl rfl (Qp rfl (show ((i:Int)+1).toNat=i+1 by omega) rfl)|exact Qo rfl rfl|exact Qa rfl rfl rfl|rfl)) ?_|(first|refine cl (k1 _ rfl) ?_|refine cl (k2 _ rfl) ?_)|refine sq ?_))
   (all_goals try exact om)
   all_goals exact Qf.mk ⟨Zg 4 [] 0 [.mk op1 tx1 nm1 ks1] rfl rfl (by simp only [rowsN,cellsN];rfl),rfl⟩
end Go.Proofs.YtnmjdjldbloefaaGreatDoor
