import Derived.Test.YtnmjdjldbloefaaGreatDoorPE5
import Derived.Test.YtnmjdjldbloefaaGreatDoorPD2
import Derived.Test.YtnmjdjldbloefaaGreatDoorPH2
/- The document's expr, walked over its part. -/
namespace Go.Proofs.YtnmjdjldbloefaaGreatDoor
open Go Go.RowKit
set_option linter.unusedSimpArgs false
set_option linter.unusedVariables false
set_option maxRecDepth 100000
set_option maxHeartbeats 8000000
structure At (L:List (Sg×Nat)) (n:Nat) (s:PSt):Prop where
 wf:WfL s.l
 suf:s.l <:+ L
 len:s.l.length < n
 dep:s.d≤16
theorem At.of {L:List (Sg×Nat)} {n:Nat} {s s':PSt} (h:At L n s) (g:OkD s s'):At L n s':=⟨g.ok.wf h.wf,g.suf.trans h.suf,Nat.lt_of_le_of_lt g.ok.len h.len,by rw [g.ok.dep];exact h.dep⟩
theorem expr_call (L:List (Sg×Nat)) (hL:L.length≤50000) (n:Nat) (un:PSt→Nd×PSt) (hok: ∀ s,OkD s (un s).2) (hp: ∀ s,At L n s→Jw L 96 [] s (nV (un s).1) (un s).2) :
  ∀ (f least:Nat),6≤f+least→least≤5→ ∀ s,At L n s→Jw L 74 [iV least] s (nV (Xx un f least s).1) (Xx un f least s).2
 | 0,least,h1,h2,s,hs=>by omega
 | f+1,least,h1,h2,s,hs=>by
  have ih:=expr_call L hL n un hok hp f
  refine Jw.of ?_
  have k1:=fun (H:Heap) (hb:H.get 0=some (pD L s))=>Jw.at (Qk _) (by simp) (hp s hs) hb
  have a1:=hs.of (hok s)
  rw [Xx]
  generalize hR:Zo (Xx un f) least ((un s).2.l.length+1) 5 (un s).1 (un s).2=R
  cases hq:un s with
  | mk n0 s1 =>
  rw [hq] at k1 hR a1
  obtain ⟨op0,tx0,nm0,ks0⟩:=n0
  simp only [nV,cellsN] at k1 hR a1
  refine Qc.go Tryz.func74 rfl ?_
  (repeat' (first|with_reducible refine And.intro ?_ ?_|(with_reducible intro hc;(try simp only [zz] at hc);try exact ct)|((conv=>whnf);first|(with_reducible first|refine And.intro ?_ ?_|intro hx|apply Val.via|apply Qi.via)|exact Is.mk rfl rfl|refine sp ?_|refine vx (by (first|exact Jm hi (J3 rfl rfl)|exact Q4 rfl rfl|exact Qo rfl rfl|exact Qa rfl rfl rfl|rfl)) ?_|refine cl (k1 _ rfl) ?_|refine sq ?_)))
  (all_goals try exact om)
  (refine Ji.mk (GWP.loopB [0,2] (fun (a:Nat×Nat×Nd×PSt)=>Zo (Xx un f) least a.1 a.2.1 a.2.2.1 a.2.2.2=R∧a.2.2.2.l.length < a.1∧At L n a.2.2.2∧a.2.1≤5) (fun a=> [(6,.sc (.int .i64 ((a.2.1:Int) - 1)))]) (fun a=> [(0,pD L a.2.2.2),(2,.cells true (cellsN a.2.2.1))]) 3 (fun a=>a.1) (s1.l.length+1,5,.mk op0 tx0 nm0 ks0,s1) ⟨hR,Nat.lt_succ_self _,a1,Nat.le_refl _⟩ ?_);(conv=>whnf);refine And.intro ?_ ?_)
  ·focus (refine ka [] ?_ ?_;all_goals (repeat' (first|exact rz|refine And.intro ?_ ?_|refine Exists.intro _ (And.intro rfl ?_)|refine ro ?_|refine Qu.cons ?_ ?_|(first|exact Y0 _ _|exact Qn.eq rfl (Jl _)|exact Qn.eq (Qz (by omega)) (Qb _)|exact Qn.eq rfl (Qb _)|exact Qu.eq (us:=cellsN _) rfl (Xd _)|exact Qn.eq rfl (Qx (Qh _)))|exact rv)))
  rintro ⟨g,m,out,st⟩ ⟨g1,g2,g3,g4⟩
  simp only at g1 g2 g3 g4 ⊢
  have hg:g=g - 1+1:=by omega
  rw [hg,Zo] at g1
  generalize g - 1=g' at *
  obtain ⟨op,tx,nm,ks⟩:=out
  simp only [cellsN]
  obtain ⟨l,d,e⟩:=st
  by_cases he:e=0
  ·subst he
   have hne: ¬ (0:Nat)≠0:=by simp
   rw [if_neg hne] at g1
   obtain ⟨q,a,r,hl⟩:=g3.wf.ne
   have hl:l=(q,a)::r:=hl
   subst hl
   obtain ⟨kd,qt,qn⟩:=q
   obtain ⟨hi,hlen⟩:=Zc g3.suf
   dsimp only at g1
   have kr:=fun H=>Eb qt H
   have hpn:=fun z hz=>Kq (L:=L) (r:=r) (d:=d) (e:=0) g3.suf (z:=z) hz
   have hpd:some (VObj.cells true [.ro L.length (Xw L),iV ((L.length - (r.length+1):Nat):Int),iV d,iV 0])=some (pD L ⟨(⟨kd,qt,qn⟩,a)::r,d,0⟩):=rfl
   have hpd1:pD L ⟨(⟨kd,qt,qn⟩,a)::r,d,0⟩= .cells true [.ro L.length (Xw L),iV ((L.length - (r.length+1):Nat):Int),iV d,iV 0]:=rfl
   rw [hpd1]
   have hkI: ∀ k,k < 5→rkI k=iV k:=fun k h=>by unfold rkI;rw [if_pos h];rfl
   have hkM: ∀ k,¬ k < 5→rkI k= .sc (.int .i64 (-1)):=fun k h=>by unfold rkI;rw [if_neg h]
   generalize hkk:rkN qt=k at *
   generalize hI:L.length - (r.length+1)=i at *
   have hil:i < L.length:=by omega
   simp only [List.length_cons] at g2
   by_cases hkd:kd=2∨kd=5
   ·by_cases hc:least≤k∧k < m
    ·rw [if_pos ⟨hkd,hc⟩] at g1
     have hk5:k < 5:=by omega
     rw [hkI k hk5] at kr
     have o1:OkD ⟨(⟨kd,qt,qn⟩,a)::r,d,0⟩ ⟨r,d,0⟩:=⟨⟨fun w=>w.tail (by show kd≠0;omega),by simp,rfl,fun _=>rfl⟩,List.suffix_cons _ _⟩
     have a2:=g3.of o1
     have k2:=ih (k+1) (by omega) (by omega) ⟨r,d,0⟩ a2
     have a3:=a2.of (Uh hok f (k+1) ⟨r,d,0⟩)
     have l3:=(Uh hok f (k+1) ⟨r,d,0⟩).ok.len
     rw [show ((k+1:Nat):Int)=(k:Int)+1 by omega] at k2
     cases hq2:Xx un f (k+1) ⟨r,d,0⟩ with
     | mk n2 st2 =>
     rw [hq2] at k2 g1 a3 l3
     obtain ⟨op2,tx2,nm2,ks2⟩:=n2
     have k2:=fun (H:Heap) (hb:H.get 0=some (pD L ⟨r,d,0⟩))=>Jw.at (Qk _) (by simp [iV,Qb]) k2 hb
     simp only [nV,cellsN] at k2
     simp only at l3 a3
     have hnew:cellsN (.mk 13 qt 0 [.mk op tx nm ks,.mk op2 tx2 nm2 ks2])= [iV 13,Qe qt,iV 0,.ro 2 (rowsN [.mk op tx nm ks,.mk op2 tx2 nm2 ks2])]:=by rw [cellsN];rfl
     by_cases h2:k=2
     ·rw [if_pos h2] at g1
      rcases hkd with rfl|rfl
      ·(focus ((repeat' (first|with_reducible refine And.intro ?_ ?_|(with_reducible intro hc;(try simp only [zz] at hc);try exact ct)|((conv=>whnf);first|(with_reducible first|refine And.intro ?_ ?_|intro hx|apply Val.via|apply Qi.via)|exact Is.mk rfl rfl|refine sp ?_|refine vx (by (first|exact Jm hi (J3 rfl rfl)|exact Q4 rfl rfl|exact Qo rfl rfl|exact Qa rfl rfl rfl|rfl)) ?_|refine cl (kr _) ?_|refine sq ?_)));(all_goals try exact om);refine Ji.mk (GWP.drawY mixed _ (by kernel_rfl) (by rfl) ?_);(repeat' (first|with_reducible refine And.intro ?_ ?_|(with_reducible intro hc;(try simp only [zz] at hc);try exact ct)|((conv=>whnf);first|(with_reducible first|refine And.intro ?_ ?_|intro hx|apply Val.via|apply Qi.via)|exact Is.mk rfl rfl|refine sp ?_|refine vx (by (first|exact Jm hi (J3 rfl rfl)|exact Q4 rfl rfl|exact Qo rfl rfl|exact Qa rfl rfl rfl|rfl)) ?_|refine cl (kr _) ?_|refine sq ?_)));(all_goals try exact om);refine Ji.mk (GWP.drawM mixed 68 [6,9] (fun H=> [⟨(0,pD L st2)::Qw [0] H.objs,H.next⟩,(⟨(0,pD L st2)::Qw [0] H.objs,H.next⟩:Heap).set 2 (.cells true [iV 13,Qe qt,iV 0,.ro 2 (rowsN [.mk op tx nm ks,.mk op2 tx2 nm2 ks2])])]) (by kernel_rfl) (by rfl) ?_);(repeat' (first|with_reducible refine And.intro ?_ ?_|(with_reducible intro hc;(try simp only [zz] at hc);try exact ct)|exact trivial|((conv=>whnf);first|with_reducible refine And.intro ?_ ?_|with_reducible intro hx|exact Is.mk rfl rfl|exact trivial|(with_reducible first|apply Val.via|apply Qi.via)|(refine GOp.drawn2D (n:= .mk op tx nm ks) (m:= .mk op2 tx2 nm2 ks2) (by rfl) (by rfl) (by rfl) (by rfl))|refine sp ?_|refine vx (by (first|exact Jm hi (J3 rfl rfl)|exact Q4 rfl rfl|exact Qo rfl rfl|exact Qa rfl rfl rfl|rfl)) ?_|refine cl (k2 _ (by exact hpn _ (by omega))) ?_|refine sq ?_)));(all_goals try exact om);focus (refine Qf.mk ⟨(g',2,.mk 13 qt 0 [.mk op tx nm ks,.mk op2 tx2 nm2 ks2],st2),⟨g1,by simp only;omega,a3,by simp only;omega⟩,?_,ka [] ?_ ?_⟩;(first|omega|(simp only;omega));all_goals (repeat' (first|exact rz|refine And.intro ?_ ?_|refine Exists.intro _ (And.intro rfl ?_)|refine ro ?_|refine Qu.cons ?_ ?_|(first|exact Y0 _ _|exact Qn.eq rfl (Jl _)|exact Qn.eq (Qz (by omega)) (Qb _)|exact Qn.eq rfl (Qb _)|exact Qu.eq (us:=cellsN _) rfl (Xd _)|exact Qn.eq rfl (Qx (Qh _)))|exact rv)))))
      ·(focus ((repeat' (first|with_reducible refine And.intro ?_ ?_|(with_reducible intro hc;(try simp only [zz] at hc);try exact ct)|((conv=>whnf);first|(with_reducible first|refine And.intro ?_ ?_|intro hx|apply Val.via|apply Qi.via)|exact Is.mk rfl rfl|refine sp ?_|refine vx (by (first|exact Jm hi (J3 rfl rfl)|exact Q4 rfl rfl|exact Qo rfl rfl|exact Qa rfl rfl rfl|rfl)) ?_|refine cl (kr _) ?_|refine sq ?_)));(all_goals try exact om);refine Ji.mk (GWP.drawY mixed _ (by kernel_rfl) (by rfl) ?_);(repeat' (first|with_reducible refine And.intro ?_ ?_|(with_reducible intro hc;(try simp only [zz] at hc);try exact ct)|((conv=>whnf);first|(with_reducible first|refine And.intro ?_ ?_|intro hx|apply Val.via|apply Qi.via)|exact Is.mk rfl rfl|refine sp ?_|refine vx (by (first|exact Jm hi (J3 rfl rfl)|exact Q4 rfl rfl|exact Qo rfl rfl|exact Qa rfl rfl rfl|rfl)) ?_|refine cl (kr _) ?_|refine sq ?_)));(all_goals try exact om);refine Ji.mk (GWP.drawM mixed 68 [6,9] (fun H=> [⟨(0,pD L st2)::Qw [0] H.objs,H.next⟩,(⟨(0,pD L st2)::Qw [0] H.objs,H.next⟩:Heap).set 2 (.cells true [iV 13,Qe qt,iV 0,.ro 2 (rowsN [.mk op tx nm ks,.mk op2 tx2 nm2 ks2])])]) (by kernel_rfl) (by rfl) ?_);(repeat' (first|with_reducible refine And.intro ?_ ?_|(with_reducible intro hc;(try simp only [zz] at hc);try exact ct)|exact trivial|((conv=>whnf);first|with_reducible refine And.intro ?_ ?_|with_reducible intro hx|exact Is.mk rfl rfl|exact trivial|(with_reducible first|apply Val.via|apply Qi.via)|(refine GOp.drawn2D (n:= .mk op tx nm ks) (m:= .mk op2 tx2 nm2 ks2) (by rfl) (by rfl) (by rfl) (by rfl))|refine sp ?_|refine vx (by (first|exact Jm hi (J3 rfl rfl)|exact Q4 rfl rfl|exact Qo rfl rfl|exact Qa rfl rfl rfl|rfl)) ?_|refine cl (k2 _ (by exact hpn _ (by omega))) ?_|refine sq ?_)));(all_goals try exact om);focus (refine Qf.mk ⟨(g',2,.mk 13 qt 0 [.mk op tx nm ks,.mk op2 tx2 nm2 ks2],st2),⟨g1,by simp only;omega,a3,by simp only;omega⟩,?_,ka [] ?_ ?_⟩;(first|omega|(simp only;omega));all_goals (repeat' (first|exact rz|refine And.intro ?_ ?_|refine Exists.intro _ (And.intro rfl ?_)|refine ro ?_|refine Qu.cons ?_ ?_|(first|exact Y0 _ _|exact Qn.eq rfl (Jl _)|exact Qn.eq (Qz (by omega)) (Qb _)|exact Qn.eq rfl (Qb _)|exact Qu.eq (us:=cellsN _) rfl (Xd _)|exact Qn.eq rfl (Qx (Qh _)))|exact rv)))))
     ·rw [if_neg h2] at g1
      rcases hkd with rfl|rfl
      ·(focus ((repeat' (first|with_reducible refine And.intro ?_ ?_|(with_reducible intro hc;(try simp only [zz] at hc);try exact ct)|((conv=>whnf);first|(with_reducible first|refine And.intro ?_ ?_|intro hx|apply Val.via|apply Qi.via)|exact Is.mk rfl rfl|refine sp ?_|refine vx (by (first|exact Jm hi (J3 rfl rfl)|exact Q4 rfl rfl|exact Qo rfl rfl|exact Qa rfl rfl rfl|rfl)) ?_|refine cl (kr _) ?_|refine sq ?_)));(all_goals try exact om);refine Ji.mk (GWP.drawY mixed _ (by kernel_rfl) (by rfl) ?_);(repeat' (first|with_reducible refine And.intro ?_ ?_|(with_reducible intro hc;(try simp only [zz] at hc);try exact ct)|((conv=>whnf);first|(with_reducible first|refine And.intro ?_ ?_|intro hx|apply Val.via|apply Qi.via)|exact Is.mk rfl rfl|refine sp ?_|refine vx (by (first|exact Jm hi (J3 rfl rfl)|exact Q4 rfl rfl|exact Qo rfl rfl|exact Qa rfl rfl rfl|rfl)) ?_|refine cl (kr _) ?_|refine sq ?_)));(all_goals try exact om);refine Ji.mk (GWP.drawM mixed 68 [6,9] (fun H=> [⟨(0,pD L st2)::Qw [0] H.objs,H.next⟩,(⟨(0,pD L st2)::Qw [0] H.objs,H.next⟩:Heap).set 2 (.cells true [iV 13,Qe qt,iV 0,.ro 2 (rowsN [.mk op tx nm ks,.mk op2 tx2 nm2 ks2])])]) (by kernel_rfl) (by rfl) ?_);(repeat' (first|with_reducible refine And.intro ?_ ?_|(with_reducible intro hc;(try simp only [zz] at hc);try exact ct)|exact trivial|((conv=>whnf);first|with_reducible refine And.intro ?_ ?_|with_reducible intro hx|exact Is.mk rfl rfl|exact trivial|(with_reducible first|apply Val.via|apply Qi.via)|(refine GOp.drawn2D (n:= .mk op tx nm ks) (m:= .mk op2 tx2 nm2 ks2) (by rfl) (by rfl) (by rfl) (by rfl))|refine sp ?_|refine vx (by (first|exact Jm hi (J3 rfl rfl)|exact Q4 rfl rfl|exact Qo rfl rfl|exact Qa rfl rfl rfl|rfl)) ?_|refine cl (k2 _ (by exact hpn _ (by omega))) ?_|refine sq ?_)));(all_goals try exact om);focus (refine Qf.mk ⟨(g',(k+1),.mk 13 qt 0 [.mk op tx nm ks,.mk op2 tx2 nm2 ks2],st2),⟨g1,by simp only;omega,a3,by simp only;omega⟩,?_,ka [] ?_ ?_⟩;(first|omega|(simp only;omega));all_goals (repeat' (first|exact rz|refine And.intro ?_ ?_|refine Exists.intro _ (And.intro rfl ?_)|refine ro ?_|refine Qu.cons ?_ ?_|(first|exact Y0 _ _|exact Qn.eq rfl (Jl _)|exact Qn.eq (Qz (by omega)) (Qb _)|exact Qn.eq rfl (Qb _)|exact Qu.eq (us:=cellsN _) rfl (Xd _)|exact Qn.eq rfl (Qx (Qh _)))|exact rv)))))
      ·(focus ((repeat' (first|with_reducible refine And.intro ?_ ?_|(with_reducible intro hc;(try simp only [zz] at hc);try exact ct)|((conv=>whnf);first|(with_reducible first|refine And.intro ?_ ?_|intro hx|apply Val.via|apply Qi.via)|exact Is.mk rfl rfl|refine sp ?_|refine vx (by (first|exact Jm hi (J3 rfl rfl)|exact Q4 rfl rfl|exact Qo rfl rfl|exact Qa rfl rfl rfl|rfl)) ?_|refine cl (kr _) ?_|refine sq ?_)));(all_goals try exact om);refine Ji.mk (GWP.drawY mixed _ (by kernel_rfl) (by rfl) ?_);(repeat' (first|with_reducible refine And.intro ?_ ?_|(with_reducible intro hc;(try simp only [zz] at hc);try exact ct)|((conv=>whnf);first|(with_reducible first|refine And.intro ?_ ?_|intro hx|apply Val.via|apply Qi.via)|exact Is.mk rfl rfl|refine sp ?_|refine vx (by (first|exact Jm hi (J3 rfl rfl)|exact Q4 rfl rfl|exact Qo rfl rfl|exact Qa rfl rfl rfl|rfl)) ?_|refine cl (kr _) ?_|refine sq ?_)));(all_goals try exact om);refine Ji.mk (GWP.drawM mixed 68 [6,9] (fun H=> [⟨(0,pD L st2)::Qw [0] H.objs,H.next⟩,(⟨(0,pD L st2)::Qw [0] H.objs,H.next⟩:Heap).set 2 (.cells true [iV 13,Qe qt,iV 0,.ro 2 (rowsN [.mk op tx nm ks,.mk op2 tx2 nm2 ks2])])]) (by kernel_rfl) (by rfl) ?_);(repeat' (first|with_reducible refine And.intro ?_ ?_|(with_reducible intro hc;(try simp only [zz] at hc);try exact ct)|exact trivial|((conv=>whnf);first|with_reducible refine And.intro ?_ ?_|with_reducible intro hx|exact Is.mk rfl rfl|exact trivial|(with_reducible first|apply Val.via|apply Qi.via)|(refine GOp.drawn2D (n:= .mk op tx nm ks) (m:= .mk op2 tx2 nm2 ks2) (by rfl) (by rfl) (by rfl) (by rfl))|refine sp ?_|refine vx (by (first|exact Jm hi (J3 rfl rfl)|exact Q4 rfl rfl|exact Qo rfl rfl|exact Qa rfl rfl rfl|rfl)) ?_|refine cl (k2 _ (by exact hpn _ (by omega))) ?_|refine sq ?_)));(all_goals try exact om);focus (refine Qf.mk ⟨(g',(k+1),.mk 13 qt 0 [.mk op tx nm ks,.mk op2 tx2 nm2 ks2],st2),⟨g1,by simp only;omega,a3,by simp only;omega⟩,?_,ka [] ?_ ?_⟩;(first|omega|(simp only;omega));all_goals (repeat' (first|exact rz|refine And.intro ?_ ?_|refine Exists.intro _ (And.intro rfl ?_)|refine ro ?_|refine Qu.cons ?_ ?_|(first|exact Y0 _ _|exact Qn.eq rfl (Jl _)|exact Qn.eq (Qz (by omega)) (Qb _)|exact Qn.eq rfl (Qb _)|exact Qu.eq (us:=cellsN _) rfl (Xd _)|exact Qn.eq rfl (Qx (Qh _)))|exact rv)))))
    ·rw [if_neg (fun h=>hc h.2)] at g1
     subst g1
     by_cases hk5:k < 5
     ·rw [hkI k hk5] at kr
      rcases hkd with rfl|rfl
      ·(focus ((repeat' (first|with_reducible refine And.intro ?_ ?_|(with_reducible intro hc;(try simp only [zz] at hc);try exact ct)|((conv=>whnf);first|(with_reducible first|refine And.intro ?_ ?_|intro hx|apply Val.via|apply Qi.via)|exact Is.mk rfl rfl|refine sp ?_|refine vx (by (first|exact Jm hi (J3 rfl rfl)|exact Q4 rfl rfl|exact Qo rfl rfl|exact Qa rfl rfl rfl|rfl)) ?_|refine dY ?_|refine cl (kr _) ?_|refine sq ?_)));(all_goals try exact om);all_goals exact Qf.mk ⟨Z0 (.mk op tx nm ks),hpd⟩))
      ·(focus ((repeat' (first|with_reducible refine And.intro ?_ ?_|(with_reducible intro hc;(try simp only [zz] at hc);try exact ct)|((conv=>whnf);first|(with_reducible first|refine And.intro ?_ ?_|intro hx|apply Val.via|apply Qi.via)|exact Is.mk rfl rfl|refine sp ?_|refine vx (by (first|exact Jm hi (J3 rfl rfl)|exact Q4 rfl rfl|exact Qo rfl rfl|exact Qa rfl rfl rfl|rfl)) ?_|refine dY ?_|refine cl (kr _) ?_|refine sq ?_)));(all_goals try exact om);all_goals exact Qf.mk ⟨Z0 (.mk op tx nm ks),hpd⟩))
     ·rw [hkM k hk5] at kr
      rcases hkd with rfl|rfl
      ·(focus ((repeat' (first|with_reducible refine And.intro ?_ ?_|(with_reducible intro hc;(try simp only [zz] at hc);try exact ct)|((conv=>whnf);first|(with_reducible first|refine And.intro ?_ ?_|intro hx|apply Val.via|apply Qi.via)|exact Is.mk rfl rfl|refine sp ?_|refine vx (by (first|exact Jm hi (J3 rfl rfl)|exact Q4 rfl rfl|exact Qo rfl rfl|exact Qa rfl rfl rfl|rfl)) ?_|refine dY ?_|refine cl (kr _) ?_|refine sq ?_)));(all_goals try exact om);all_goals exact Qf.mk ⟨Z0 (.mk op tx nm ks),hpd⟩))
      ·(focus ((repeat' (first|with_reducible refine And.intro ?_ ?_|(with_reducible intro hc;(try simp only [zz] at hc);try exact ct)|((conv=>whnf);first|(with_reducible first|refine And.intro ?_ ?_|intro hx|apply Val.via|apply Qi.via)|exact Is.mk rfl rfl|refine sp ?_|refine vx (by (first|exact Jm hi (J3 rfl rfl)|exact Q4 rfl rfl|exact Qo rfl rfl|exact Qa rfl rfl rfl|rfl)) ?_|refine dY ?_|refine cl (kr _) ?_|refine sq ?_)));(all_goals try exact om);all_goals exact Qf.mk ⟨Z0 (.mk op tx nm ks),hpd⟩))
   ·rw [if_neg (fun h=>hkd h.1)] at g1
    subst g1
    have h22:kd≠2:=fun h=>hkd (.inl h)
    have h25:kd≠5:=fun h=>hkd (.inr h)
    (focus ((repeat' (first|with_reducible refine And.intro ?_ ?_|(with_reducible intro hc;(try simp only [zz] at hc);try exact ct)|((conv=>whnf);first|(with_reducible first|refine And.intro ?_ ?_|intro hx|apply Val.via|apply Qi.via)|exact Is.mk rfl rfl|refine sp ?_|refine vx (by (first|exact Jm hi (J3 rfl rfl)|exact Q4 rfl rfl|exact Qo rfl rfl|exact Qa rfl rfl rfl|rfl)) ?_|refine dY ?_|refine cl (kr _) ?_|refine sq ?_)));(all_goals try exact om);all_goals exact Qf.mk ⟨Z0 (.mk op tx nm ks),hpd⟩))
  ·rw [if_pos he] at g1
   subst g1
   unfold pD
   (repeat' (first|with_reducible refine And.intro ?_ ?_|(with_reducible intro hc;(try simp only [zz] at hc);try exact ct)|((conv=>whnf);first|(with_reducible first|refine And.intro ?_ ?_|intro hx|apply Val.via|apply Qi.via)|exact Is.mk rfl rfl|refine sp ?_|refine vx (by (first|exact Jm hi (J3 rfl rfl)|exact Q4 rfl rfl|exact Qo rfl rfl|exact Qa rfl rfl rfl|rfl)) ?_|fail|refine sq ?_)))
   (all_goals try exact om)
   all_goals exact Qf.mk ⟨Z0 (.mk op tx nm ks),rfl⟩
theorem E3 {L l:List (Sg×Nat)} {d e:Nat} {z:Int} (h:z=(d:Int)):some (VObj.cells true [.ro L.length (Xw L),iV ((L.length - l.length:Nat):Int),.sc (.int .i64 z),iV e])=some (pD L ⟨l,d,e⟩):=by subst h;rfl
theorem Y1 (L l:List (Sg×Nat)) (d e:Nat):pD L ⟨l,d,e⟩= .cells true [.ro L.length (Xw L),iV ((L.length - l.length:Nat):Int),iV d,iV e]:=rfl
theorem unpart_call (L:List (Sg×Nat)) (hL:L.length≤50000) (n:Nat) (un:PSt→Nd×PSt) (hok: ∀ s,OkD s (un s).2) (hp: ∀ s,At L n s→Jw L 96 [] s (nV (un s).1) (un s).2) (x:List UInt8) (hx:x= [110,111,116]∨x= [45])
  (s:PSt) (hs:At L (n+1) s) (hi0:(isS x s).1=true):Jw L 96 [] s (nV (unD un x (isS x s).2).1) (unD un x (isS x s).2).2:=by
 refine Jw.of ?_
 obtain ⟨p,r,h1,h2,h3⟩:=K7 hi0
 have ka:=fun (y:List UInt8) (H:Heap) (hb:H.get 0=some (pD L s))=>Jw.at (Qb _) (by simp [Qd]) (Do L y s hs.wf hs.suf (by omega)) hb
 have hno:x= [45]→(isS [110,111,116] s).1=false:=fun e=>by
  subst e
  obtain ⟨l,d,e⟩:=s
  have h1:l=p::r:=h1
  subst h1
  obtain ⟨g,a⟩:=p
  simp only [isS] at hi0 ⊢
  by_cases hc:e=0∧g.text= [45]∧(g.kind=2∨g.kind=5)
  ·rw [if_neg (fun q=>by rw [hc.2.1] at q;exact absurd q.2.1 (by decide))]
  ·rw [if_neg hc] at hi0;cases hi0
 have htx:p.1.text=x∧p.1.kind≠0:=by
  obtain ⟨l,d,e⟩:=s
  have h1:l=p::r:=h1
  subst h1
  obtain ⟨g,a⟩:=p
  simp only [isS] at hi0
  by_cases hc:e=0∧g.text=x∧(g.kind=2∨g.kind=5)
  ·exact ⟨hc.2.1,by show g.kind≠0;omega⟩
  ·rw [if_neg hc] at hi0;cases hi0
 rw [h2]
 have k0:=ka x
 have k1:=ka [110,111,116]
 rw [hi0] at k0
 obtain ⟨l,d,e⟩:=s
 have h1:l=p::r:=h1
 have h3:e=0:=h3
 subst h1 h3
 obtain ⟨⟨kd,tx,nm⟩,a⟩:=p
 obtain ⟨htx,hkd⟩:=htx
 have htx:tx=x:=htx
 subst htx
 obtain ⟨hi,hlen⟩:=Zc hs.suf
 have hpn:=fun z hz=>Kq (L:=L) (r:=r) (d:=d) (e:=0) hs.suf (z:=z) hz
 have hd16:d≤16:=hs.dep
 have o1:OkD ⟨(⟨kd,tx,nm⟩,a)::r,d,0⟩ ⟨r,d,0⟩:=⟨⟨fun w=>w.tail hkd,by simp,rfl,fun _=>rfl⟩,List.suffix_cons _ _⟩
 have a2:=hs.of o1
 have hln:r.length < n:=by have:=hs.len;simp only [List.length_cons] at this;omega
 have kdn:=fun (H:Heap) (hb:H.get 0=some (pD L ⟨r,d,0⟩))=>Jw.at (Qb _) (by simp) (down_call L ⟨r,d,0⟩ (by show d≤100000;omega)) hb
 rw [Y1] at k0 k1 ⊢
 simp only [List.length_cons] at k0 k1 ⊢
 generalize hI:L.length - (r.length+1)=i at *
 have hil:i < L.length:=by omega
 by_cases h16:d=16
 ·subst h16
  have e2:X3 ⟨r,16,0⟩=⟨r,17,9⟩:=rfl
  have eU:unD un tx ⟨r,16,0⟩=(.mk 14 tx 0 [],⟨r,16,9⟩):=rfl
  rw [eU]
  rw [e2,Y1 L r 17 9] at kdn
  rcases hx with rfl|rfl
  ·refine Qc.go Tryz.func96 rfl ?_
   (repeat' (first|with_reducible refine And.intro ?_ ?_|(with_reducible intro hc;(try simp only [zz] at hc);try exact ct)|((conv=>whnf);first|(with_reducible first|refine And.intro ?_ ?_|intro hx|apply Val.via|apply Qi.via)|exact Is.mk rfl rfl|refine sp ?_|refine vx (by (first|exact Jm hi (J3 rfl rfl)|exact Q4 rfl rfl|exact Qo rfl rfl|exact Qa rfl rfl rfl|rfl)) ?_|refine dY ?_|(first|refine cl (k0 _ rfl) ?_|refine cl (kdn _ (by exact hpn _ (by omega))) ?_)|refine sq ?_)))
   (all_goals try exact om)
   all_goals exact Qf.mk ⟨X2 14 _ 0,E3 (by omega)⟩
  ·rw [hno rfl] at k1
   refine Qc.go Tryz.func96 rfl ?_
   (repeat' (first|with_reducible refine And.intro ?_ ?_|(with_reducible intro hc;(try simp only [zz] at hc);try exact ct)|((conv=>whnf);first|(with_reducible first|refine And.intro ?_ ?_|intro hx|apply Val.via|apply Qi.via)|exact Is.mk rfl rfl|refine sp ?_|refine vx (by (first|exact Jm hi (J3 rfl rfl)|exact Q4 rfl rfl|exact Qo rfl rfl|exact Qa rfl rfl rfl|rfl)) ?_|refine dY ?_|(first|refine cl (k1 _ rfl) ?_|refine cl (k0 _ rfl) ?_|refine cl (kdn _ (by exact hpn _ (by omega))) ?_)|refine sq ?_)))
   (all_goals try exact om)
   all_goals exact Qf.mk ⟨X2 14 _ 0,E3 (by omega)⟩
 ·have e2:X3 ⟨r,d,0⟩=⟨r,d+1,0⟩:=by unfold X3;simp [h16]
  have o2:=(hok ⟨r,d+1,0⟩).ok.dep
  have k3:=fun (H:Heap) (hb:H.get 0=some (pD L ⟨r,d+1,0⟩))=>Jw.at (Qk _) (by simp) (hp ⟨r,d+1,0⟩ ⟨a2.wf,a2.suf,hln,by show d+1≤16;omega⟩) hb
  rw [e2] at kdn
  have eU:unD un tx ⟨r,d,0⟩=(.mk 14 tx 0 [(un ⟨r,d+1,0⟩).1],upE (un ⟨r,d+1,0⟩).2):=by
   unfold unD argD Zk
   rw [e2]
   rfl
  rw [eU]
  cases hq:un ⟨r,d+1,0⟩ with
  | mk n2 st2 =>
  rw [hq] at k3 o2
  obtain ⟨op2,tx2,nm2,ks2⟩:=n2
  obtain ⟨l2,d2,er2⟩:=st2
  have o2:d2=d+1:=o2
  subst o2
  have eP:upE ⟨l2,d+1,er2⟩=⟨l2,d,er2⟩:=rfl
  simp only [nV,cellsN] at k3 ⊢
  rw [eP]
  rw [Y1 L l2] at k3
  rcases hx with rfl|rfl
  ·refine Qc.go Tryz.func96 rfl ?_
   (repeat' (first|with_reducible refine And.intro ?_ ?_|(with_reducible intro hc;(try simp only [zz] at hc);try exact ct)|((conv=>whnf);first|(with_reducible first|refine And.intro ?_ ?_|intro hx|apply Val.via|apply Qi.via)|exact Is.mk rfl rfl|refine sp ?_|refine vx (by (first|exact Jm hi (J3 rfl rfl)|exact Q4 rfl rfl|exact Qo rfl rfl|exact Qa rfl rfl rfl|rfl)) ?_|refine dY ?_|(first|refine cl (k0 _ rfl) ?_|refine cl (kdn _ (by exact hpn _ (by omega))) ?_|refine cl (k3 _ rfl) ?_)|refine sq ?_)))
   (all_goals try exact om)
   all_goals exact Qf.mk ⟨B2 14 _ 0 (.mk op2 tx2 nm2 ks2) rfl (by rw [cellsN];rfl),E3 (by omega)⟩
  ·rw [hno rfl] at k1
   refine Qc.go Tryz.func96 rfl ?_
   (repeat' (first|with_reducible refine And.intro ?_ ?_|(with_reducible intro hc;(try simp only [zz] at hc);try exact ct)|((conv=>whnf);first|(with_reducible first|refine And.intro ?_ ?_|intro hx|apply Val.via|apply Qi.via)|exact Is.mk rfl rfl|refine sp ?_|refine vx (by (first|exact Jm hi (J3 rfl rfl)|exact Q4 rfl rfl|exact Qo rfl rfl|exact Qa rfl rfl rfl|rfl)) ?_|refine dY ?_|(first|refine cl (k1 _ rfl) ?_|refine cl (k0 _ rfl) ?_|refine cl (kdn _ (by exact hpn _ (by omega))) ?_|refine cl (k3 _ rfl) ?_)|refine sq ?_)))
   (all_goals try exact om)
   all_goals exact Qf.mk ⟨B2 14 _ 0 (.mk op2 tx2 nm2 ks2) rfl (by rw [cellsN];rfl),E3 (by omega)⟩
end Go.Proofs.YtnmjdjldbloefaaGreatDoor
