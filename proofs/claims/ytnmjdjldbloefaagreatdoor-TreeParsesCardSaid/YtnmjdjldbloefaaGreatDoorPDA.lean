import Derived.Test.YtnmjdjldbloefaaGreatDoorPE5
import Derived.Test.YtnmjdjldbloefaaGreatDoorPD4
import Derived.Test.YtnmjdjldbloefaaGreatDoorPD5
/- The document's block, walked. -/
namespace Go.Proofs.YtnmjdjldbloefaaGreatDoor
open Go Go.RowKit
set_option linter.unusedSimpArgs false
set_option linter.unusedVariables false
set_option maxRecDepth 100000
set_option maxHeartbeats 8000000
theorem ifD_okL {bl:PSt→Nd×PSt} (h: ∀ s',OkD s' (bl s').2) (s:PSt):(ifD bl s).2.l.length≤s.l.length:=(ifD_okD h s).ok.len
theorem stmtD_lt {bl:PSt→Nd×PSt} (hb: ∀ s,OkD s (bl s).2) (s:PSt) (h:(U2 bl s).2.e=0):(U2 bl s).2.l.length < s.l.length:=by
 unfold U2 at h ⊢
 split
 ·rename_i hc
  have:=(Yd hc).1
  have:=ifD_okL hb (isS [105,102] s).2
  omega
 ·rename_i hc
  rw [if_neg hc] at h
  split
  ·rename_i hc2
   have:=(Yd hc2).1
   have:=((K9 (isS [119,104,105,108,101] s).2).trans (hb _)).ok.len
   simp only
   omega
  ·rename_i hc2
   rw [if_neg hc2] at h
   split
   ·rename_i hc3
    have:=(Yd hc3).1
    have:=(Xj [59] (isS [115,116,111,112] s).2).ok.len
    simp only
    omega
   ·rename_i hc3
    rw [if_neg hc3] at h
    split
    ·rename_i hc4
     rw [if_pos hc4] at h
     have h1:=(Kl h).1
     have h2:=((setD_okD hc4.1 hc4.2).trans (K9 _)).ok.len
     simp only
     omega
    ·rename_i hc4
     rw [if_neg hc4] at h
     have h1:=(Kl h).1
     have h2:=(K9 s).ok.len
     simp only
     omega
theorem blockD_call (L:List (Sg×Nat)) (hL:L.length≤50000) (n:Nat) (st:PSt→Nd×PSt) (hok: ∀ s,OkD s (st s).2) (hlt: ∀ s,(st s).2.e=0→(st s).2.l.length < s.l.length)
  (hst: ∀ s,At L n s→s.e=0→Jw L 45 [] s (nV (st s).1) (st s).2) (s:PSt) (hs:At L n s):Jw L 23 [] s (nV (B7 st s).1) (B7 st s).2:=by
 refine Jw.of ?_
 have ki:=fun (x:List UInt8) (s2:PSt) (h1:At L n s2) (H:Heap) (hb:H.get 0=some (pD L s2))=>Jw.at (Qb _) (by simp [Qd]) (Do L x s2 h1.wf h1.suf (by omega)) hb
 have kw:=fun (x:List UInt8) (s2:PSt) (h1:At L n s2) (H:Heap) (hb:H.get 0=some (pD L s2))=>Jw.at (Ja (by simp)) (by simp [Qd]) (C7 L x s2 h1.wf h1.suf (by omega)) hb
 have kx:=fun (s2:PSt) (h1:At L n s2) (h2:s2.e=0) (H:Heap) (hb:H.get 0=some (pD L s2))=>Jw.at (Qk _) (by simp) (hst s2 h1 h2) hb
 have k1:=kw [123] s hs
 have o1:=Xj [123] s
 unfold B7
 generalize Q5 [123] s=s0 at *
 have a0:=hs.of o1
 have hd0:s0.d≤16:=a0.dep
 have k2:=fun (H:Heap) (hb:H.get 0=some (pD L s0))=>Jw.at (Qb _) (by simp) (down_call L s0 (by omega)) hb
 obtain ⟨l0,d,e0⟩:=s0
 have hd0:d≤16:=hd0
 have hen:(X3 ⟨l0,d,e0⟩).d=d+1:=rfl
 have hel:(X3 ⟨l0,d,e0⟩).l=l0:=rfl
 by_cases hde:(X3 ⟨l0,d,e0⟩).e=0
 ·rw [if_pos hde]
  have e00:e0=0∧d≠16:=by
   unfold X3 at hde
   dsimp only at hde
   by_cases hc:e0=0∧d=16
   ·rw [if_pos hc] at hde;cases hde
   ·rw [if_neg hc] at hde;exact ⟨hde,fun h=>hc ⟨hde,h⟩⟩
  obtain ⟨rfl,h16⟩:=e00
  rw [C3 h16] at k2 ⊢
  rw [show decide ((⟨l0,d+1,0⟩:PSt).e=0)=true from rfl] at k2
  generalize hR:Yx st (l0.length+2) [] ⟨l0,d+1,0⟩=R
  refine Qc.go Tryz.func23 rfl ?_
  (repeat' (first|with_reducible refine And.intro ?_ ?_|(with_reducible intro hc;(try simp only [zz] at hc);try exact ct)|((conv=>whnf);first|(with_reducible first|refine And.intro ?_ ?_|intro hx|apply Val.via|apply Qi.via)|exact Is.mk rfl rfl|refine sp ?_|refine vx (by (first|exact Qo rfl rfl|exact Qa rfl rfl rfl|rfl)) ?_|refine dY ?_|(first|refine cl (k1 _ rfl) ?_|refine cl (k2 _ rfl) ?_)|refine sq ?_)))
  (all_goals try exact om)
  (refine Ji.mk (GWP.loopB [0,2] (fun (a:Nat×List Nd×PSt)=>Yx st a.1 a.2.1 a.2.2=R∧(a.2.2.e=0→a.2.2.l.length < a.1)∧At L n a.2.2∧a.2.1.length+a.1≤l0.length+2∧a.2.2.d=d+1) (fun _=> []) (fun a=> [(0,pD L a.2.2),(2,.cells true [iV 2,Qe [],iV 0,.gs 3 a.2.1.length 4]),(3,.opt (rowsN a.2.1))]) 4 (fun a=>a.1) (l0.length+2,[],⟨l0,d+1,0⟩) ⟨hR,fun _=>by simp only;omega,⟨a0.wf,a0.suf,a0.len,by show d+1≤16;omega⟩,by simp,rfl⟩ ?_);(conv=>whnf);refine And.intro ?_ ?_)
  ·focus (refine ka [] ?_ ?_;all_goals (repeat' (first|exact rz|refine And.intro ?_ ?_|refine Exists.intro _ (And.intro rfl ?_)|refine ro ?_|refine Qu.cons ?_ ?_|(first|exact Y0 _ _|exact Qn.gsN|exact Qn.eq rfl (Jl _)|exact Qn.eq (Qz (by omega)) (Qb _)|exact Qn.eq rfl (Qb _)|exact Qu.eq (us:=rowsN _) rfl (Qh _)|exact Qn.eq rfl (Qx (Qh _)))|exact rv)))
  rintro ⟨f,out,s2⟩ ⟨g1,g2,g3,g4,g5⟩
  simp only at g1 g2 g3 g4 g5 ⊢
  have hlen0:l0.length≤L.length:=a0.suf.length_le
  have kwz:=kw [125] s2 g3
  have owz:=Xj [125] s2
  have fin: ∀ (l3:List (Sg×Nat)) (e3:Nat) (z:Int),R=(out,⟨l3,d+1,e3⟩)→z=(d:Int)→some (VObj.cells true [.ro L.length (Xw L),iV ((L.length - l3.length:Nat):Int),.sc (.int .i64 z),iV e3])=some (pD L (upE R.2)):=fun l3 e3 z h hz=>by
   rw [h,hz];rfl
  by_cases he:s2.e=0
  ·have g2:=g2 he
   obtain ⟨f,rfl⟩: ∃ f',f=f'+1:=⟨f - 1,by omega⟩
   rw [Yx] at g1
   have kb:=ki [125] s2 g3
   obtain ⟨l2,d2,e2⟩:=s2
   obtain rfl:d2=d+1:=g5
   obtain rfl:e2=0:=he
   cases hc:(isS [125] ⟨l2,d+1,0⟩).1 with
   | true =>
    rw [if_neg (by rw [hc];simp)] at g1
    rw [hc] at kb
    obtain ⟨p3,r3,q1,q2,q3⟩:=K7 hc
    have hm:Q5 [125] ⟨l2,d+1,0⟩=⟨r3,d+1,0⟩:=by
     unfold Q5
     rw [hc,if_pos rfl,q2]
    rw [hm] at g1 kwz
    rw [Y1 L r3 (d+1) 0] at kwz
    (repeat' (first|with_reducible refine And.intro ?_ ?_|(with_reducible intro hc;(try simp only [zz] at hc);try exact ct)|((conv=>whnf);first|(with_reducible first|refine And.intro ?_ ?_|intro hx|apply Val.via|apply Qi.via)|exact Is.mk rfl rfl|refine sp ?_|refine vx (by (first|exact Qo rfl rfl|exact Qa rfl rfl rfl|rfl)) ?_|refine dY ?_|(first|refine cl (kb _ rfl) ?_|refine cl (kwz _ rfl) ?_)|refine sq ?_)))
    (all_goals try exact om)
    all_goals exact Qf.mk ⟨by rw [← g1];exact Zg 2 [] 0 out rfl rfl rfl,fin r3 0 _ g1.symm (by omega)⟩
   | false =>
    rw [if_pos ⟨rfl,hc⟩] at g1
    rw [hc] at kb
    have k3:=kx _ g3 rfl
    have o3:=hok ⟨l2,d+1,0⟩
    have hl3:=hlt ⟨l2,d+1,0⟩
    cases hq:st ⟨l2,d+1,0⟩ with
    | mk n0 s3 =>
    rw [hq] at k3 o3 g1 hl3
    obtain ⟨op0,tx0,nm0,ks0⟩:=n0
    have a3:=g3.of o3
    have d3:s3.d=d+1:=o3.ok.dep
    simp only [nV,cellsN] at k3
    simp only at g1 hl3
    have hsn:rowsN (out++ [.mk op0 tx0 nm0 ks0])=rowsN out++ [iV op0,Qe tx0,iV nm0,.ro (List.length ks0) (rowsN ks0)]:=by rw [Jy,cellsN]
    (repeat' (first|with_reducible refine And.intro ?_ ?_|(with_reducible intro hc;(try simp only [zz] at hc);try exact ct)|((conv=>whnf);first|(with_reducible first|refine And.intro ?_ ?_|intro hx|apply Val.via|apply Qi.via)|exact Is.mk rfl rfl|refine sp ?_|refine vx (by (first|exact Qo rfl rfl|exact Qa rfl rfl rfl|rfl)) ?_|refine cl (kb _ rfl) ?_|refine sq ?_)))
    (all_goals try exact om)
    refine Ji.mk (GWP.drawM mixed 36 [3,5,7] (fun H=> [⟨(0,pD L s3)::Qw [0] H.objs,H.next⟩,((⟨(0,pD L s3)::Qw [0] H.objs,H.next⟩:Heap).del 3).add (.opt (rowsN out++ [iV op0,Qe tx0,iV nm0,.ro (List.length ks0) (rowsN ks0)])),(((⟨(0,pD L s3)::Qw [0] H.objs,H.next⟩:Heap).del 3).add (.opt (rowsN out++ [iV op0,Qe tx0,iV nm0,.ro (List.length ks0) (rowsN ks0)]))).set 2 (.cells true [iV 2,Qe [],iV 0,.gs H.next (out.length+1) 4])]) (by kernel_rfl) (by rfl) ?_)
    repeat' (first|with_reducible refine And.intro ?_ ?_|(with_reducible intro hc;(try simp only [zz] at hc);try exact ct)|exact trivial|((conv=>whnf);first|with_reducible refine And.intro ?_ ?_|with_reducible intro hx|exact Is.mk rfl rfl|exact trivial|(with_reducible first|apply Val.via|apply Qi.via)|(refine GOp.drawn1D (n:= .mk op0 tx0 nm0 ks0) (by rfl) (by rfl) (by rfl))|refine sp ?_|refine vx (by (first|exact Qo rfl rfl|exact Qa rfl rfl rfl|rfl)) ?_|(first|refine cl (k3 _ rfl) ?_|(refine Qs (Qr.grow rfl sty_ND (d:= .slice 33) Tryz.underlying31 (by intro k h;cases h) rfl (m:=1) (l:= [iV op0,Qe tx0,iV nm0,.ro (List.length ks0) (rowsN ks0)]) (by rfl) (by rfl) rfl (Q0 out) (by omega) (by omega) ?_)))|refine sq ?_))
    (all_goals try exact om)
    focus (refine Qf.mk ⟨(f,out++ [.mk op0 tx0 nm0 ks0],s3),⟨g1,fun h=>by have:=hl3 h;simp only at this g2 ⊢;omega,a3,by simp only [List.length_append,List.length_cons,List.length_nil];omega,d3⟩,?_,ka [(4,3)] ?_ ?_⟩;(first|omega|(simp only;omega));all_goals (repeat' (first|exact rz|refine And.intro ?_ ?_|refine Exists.intro _ (And.intro rfl ?_)|refine ro ?_|refine Qu.cons ?_ ?_|(first|exact Qu.eq hsn.symm (Qh _)|(first|exact Y0 _ _|exact Qn.gsN|exact Qn.eq rfl (Jl _)|exact Qn.eq (Qz (by omega)) (Qb _)|exact Qn.eq rfl (Qb _)|exact Qu.eq (us:=rowsN _) rfl (Qh _)|exact Qn.eq rfl (Qx (Qh _))))|exact rv)))
  ·have hm:Q5 [125] s2=s2:=X7 _ he
   have hxx:R=(out,s2):=by
    rw [← g1]
    cases f with
    | zero=>rfl
    | succ f=>rw [Yx,if_neg (fun h=>he h.1),hm]
   obtain ⟨l2,d2,e2⟩:=s2
   obtain rfl:d2=d+1:=g5
   have he: ¬ e2=0:=he
   rw [hm,Y1 L l2 (d+1) e2] at kwz
   rw [Y1 L l2 (d+1) e2]
   (repeat' (first|with_reducible refine And.intro ?_ ?_|(with_reducible intro hc;(try simp only [zz] at hc);try exact ct)|((conv=>whnf);first|(with_reducible first|refine And.intro ?_ ?_|intro hx|apply Val.via|apply Qi.via)|exact Is.mk rfl rfl|refine sp ?_|refine vx (by (first|exact Qo rfl rfl|exact Qa rfl rfl rfl|rfl)) ?_|refine dY ?_|(first|refine cl (kwz _ rfl) ?_)|refine sq ?_)))
   (all_goals try exact om)
   all_goals exact Qf.mk ⟨by rw [hxx];exact Zg 2 [] 0 out rfl rfl rfl,fin l2 e2 _ hxx (by omega)⟩
 ·rw [if_neg hde]
  rw [show decide ((X3 ⟨l0,d,e0⟩).e=0)=false by simp [hde]] at k2
  generalize hq:X3 ⟨l0,d,e0⟩=q at *
  obtain ⟨l3,d3,e3⟩:=q
  obtain rfl:d3=d+1:=hen
  rw [Y1 L l3 (d+1) e3] at k2
  have eP:upE ⟨l3,d+1,e3⟩=⟨l3,d,e3⟩:=rfl
  simp only [eP]
  refine Qc.go Tryz.func23 rfl ?_
  (repeat' (first|with_reducible refine And.intro ?_ ?_|(with_reducible intro hc;(try simp only [zz] at hc);try exact ct)|((conv=>whnf);first|(with_reducible first|refine And.intro ?_ ?_|intro hx|apply Val.via|apply Qi.via)|exact Is.mk rfl rfl|refine sp ?_|refine vx (by (first|exact Qo rfl rfl|exact Qa rfl rfl rfl|rfl)) ?_|refine dY ?_|(first|refine cl (k1 _ rfl) ?_|refine cl (k2 _ rfl) ?_)|refine sq ?_)))
  (all_goals try exact om)
  all_goals exact Qf.mk ⟨X2 2 [] 0,E3 (by omega)⟩
theorem bl_callD (L:List (Sg×Nat)) (hL:L.length≤50000): ∀ (n:Nat) (s:PSt),At L n s→Jw L 23 [] s (nV (blD n s).1) (blD n s).2
 | 0,s,hs=>absurd hs.len (Nat.not_lt_zero _)
 | n+1,s,hs=>blockD_call L hL (n+1) (U2 (blD n)) (stmtD_okD (Nc n)) (stmtD_lt (Nc n)) (fun s hs he=>stmtD_call L hL n (blD n) (Nc n) (bl_callD L hL n) (fun s hs=>ex_callD L hL (n+1) s hs) s hs he) s hs
end Go.Proofs.YtnmjdjldbloefaaGreatDoor
