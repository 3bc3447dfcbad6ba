import Derived.Test.YtnmjdjldbloefaaGreatDoorPD0
import Derived.Test.YtnmjdjldbloefaaGreatDoorPE5
import Derived.Test.YtnmjdjldbloefaaGreatDoorPG4
import Derived.Test.YtnmjdjldbloefaaGreatDoorPG2
/- The document's lexer: bytes, numbers, words. -/
namespace Go.Proofs.YtnmjdjldbloefaaGreatDoor
open Go Go.RowKit
set_option linter.unusedSimpArgs false
set_option linter.unusedVariables false
set_option maxRecDepth 100000
set_option maxHeartbeats 8000000
theorem Bb (c:UInt8) (s:List UInt8) (hs:s.length≤100000) (H:Heap):Qc Tryz.prog 42 [bV c,Qe s] H (fun x K=>x=Yg (s.contains c)∧K=H):=by
 refine Qc.pure (by simp [Qd,Xa]) (Qb _) ?_
 generalize hR:s.contains c=R
 refine Qc.go Tryz.func42 rfl ?_
 (repeat' (first|with_reducible refine And.intro ?_ ?_|(with_reducible intro hc;(try simp only [zz] at hc);try exact ct)|((conv=>whnf);first|(with_reducible first|refine And.intro ?_ ?_|intro hx|apply Val.via|apply Qi.via)|exact Is.mk rfl rfl|refine sp ?_|refine vx (by (first|exact hb|exact Qa vagg_str (Xu hb) (Q3 rfl rfl)|exact Qa rfl rfl rfl|rfl)) ?_|refine dY ?_|fail|refine sq ?_)))
 (all_goals try exact om)
 (refine Ji.mk (GWP.loopB [] (fun (i:Nat)=>i≤s.length∧(s.drop i).contains c=R) (fun i=> [(5,iV i)]) (fun _=> []) 0 (fun i=>s.length - i) 0 ⟨Nat.zero_le _,hR⟩ ?_);(conv=>whnf);refine And.intro ?_ ?_)
 ·focus (refine ka [] ?_ ?_;all_goals (repeat' (first|exact rz|refine And.intro ?_ ?_|refine Exists.intro _ (And.intro rfl ?_)|refine ro ?_|refine Qu.cons ?_ ?_|fail|exact rv)))
 rintro i ⟨g1,g2⟩
 simp only at g1 g2 ⊢
 by_cases hil:i < s.length
 ·obtain ⟨b,hb⟩:=Ze hil
  obtain ⟨hi,e⟩:=List.getElem?_eq_some_iff.1 hb
  rw [List.drop_eq_getElem_cons hi,e,List.contains_cons] at g2
  have hbl:b.toNat < 256:=b.toNat_lt
  by_cases hcb:b=c
  ·subst hcb
   simp at g2
   subst g2
   (repeat' (first|with_reducible refine And.intro ?_ ?_|(with_reducible intro hc;(try simp only [zz] at hc);try exact ct)|((conv=>whnf);first|(with_reducible first|refine And.intro ?_ ?_|intro hx|apply Val.via|apply Qi.via)|exact Is.mk rfl rfl|refine sp ?_|refine vx (by (first|exact hb|exact Qa vagg_str (Xu hb) (Q3 rfl rfl)|exact Qa rfl rfl rfl|rfl)) ?_|refine dY ?_|fail|refine sq ?_)))
   (all_goals try exact om)
   all_goals exact Qf.mk rfl
  ·have hne: ¬ b.toNat=c.toNat:=fun e=>hcb (UInt8.toNat_inj.1 e)
   rw [show (c==b)=false by simpa using fun e=>hcb e.symm,Bool.false_or] at g2
   (repeat' (first|with_reducible refine And.intro ?_ ?_|(with_reducible intro hc;(try simp only [zz] at hc);try exact ct)|((conv=>whnf);first|(with_reducible first|refine And.intro ?_ ?_|intro hx|apply Val.via|apply Qi.via)|exact Is.mk rfl rfl|refine sp ?_|refine vx (by (first|exact hb|exact Qa vagg_str (Xu hb) (Q3 rfl rfl)|exact Qa rfl rfl rfl|rfl)) ?_|refine dY ?_|fail|refine sq ?_)))
   (all_goals try exact om)
   focus (refine Qf.mk ⟨i+1,⟨by omega,g2⟩,?_,ka [] ?_ ?_⟩;(first|omega|(simp only;omega));all_goals (repeat' (first|exact rz|refine And.intro ?_ ?_|refine Exists.intro _ (And.intro rfl ?_)|refine ro ?_|refine Qu.cons ?_ ?_|exact Qn.eq (Qz (by omega)) (Qb _)|exact rv)))
 ·obtain rfl:i=s.length:=by omega
  rw [List.drop_length] at g2
  subst g2
  (repeat' (first|with_reducible refine And.intro ?_ ?_|(with_reducible intro hc;(try simp only [zz] at hc);try exact ct)|((conv=>whnf);first|(with_reducible first|refine And.intro ?_ ?_|intro hx|apply Val.via|apply Qi.via)|exact Is.mk rfl rfl|refine sp ?_|refine vx (by (first|exact hb|exact Qa vagg_str (Xu hb) (Q3 rfl rfl)|exact Qa rfl rfl rfl|rfl)) ?_|refine dY ?_|fail|refine sq ?_)))
  (all_goals try exact om)
  all_goals exact Qf.mk rfl
theorem ddig_eq (b:UInt8):([48,49,50,51,52,53,54,55,56,57]:List UInt8).contains b=Jx b:=by
 unfold Jx
 simp only [List.contains_cons,List.contains_nil,Bool.or_false]
 rw [Bool.eq_iff_iff]
 simp only [Bool.or_eq_true,beq_iff_eq,Bool.and_eq_true,decide_eq_true_eq,← UInt8.toNat_inj]
 simp
 omega
theorem Z3 (b:UInt8) (H:Heap):Qc Tryz.prog 72 [bV b] H (fun x K=>x=Yg (Jx b)∧K=H):=by
 have k:=fun H=>Bb b [48,49,50,51,52,53,54,55,56,57] (by simp) H
 rw [ddig_eq] at k
 refine Qc.pure (by simp [Xa]) (Qb _) ?_
 refine Qc.go Tryz.func72 rfl ?_
 (repeat' (first|with_reducible refine And.intro ?_ ?_|(with_reducible intro hc;(try simp only [zz] at hc);try exact ct)|((conv=>whnf);first|(with_reducible first|refine And.intro ?_ ?_|intro hx|apply Val.via|apply Qi.via)|exact Is.mk rfl rfl|refine sp ?_|refine vx (by (first|exact hb|exact Qa vagg_str (Xu hb) (Q3 rfl rfl)|exact Qa rfl rfl rfl|rfl)) ?_|refine dY ?_|refine cl (k _) ?_|refine sq ?_)))
 (all_goals try exact om)
 all_goals exact Qf.mk rfl
def lowL:List UInt8:= [97,98,99,100,101,102,103,104,105,106,107,108,109,110,111,112,113,114,115,116,117,118,119,120,121,122]
def uppL:List UInt8:= [65,66,67,68,69,70,71,72,73,74,75,76,77,78,79,80,81,82,83,84,85,86,87,88,89,90]
theorem dlet_eq (b:UInt8):(b.toNat==95 || (lowL.contains b || uppL.contains b))=Wk b:=by
 unfold Wk lowL uppL
 simp only [List.contains_cons,List.contains_nil,Bool.or_false]
 rw [Bool.eq_iff_iff]
 simp only [Bool.or_eq_true,beq_iff_eq,Bool.and_eq_true,decide_eq_true_eq,← UInt8.toNat_inj]
 simp
 omega
theorem dletter_call (b:UInt8) (H:Heap):Qc Tryz.prog 95 [bV b] H (fun x K=>x=Yg (lowL.contains b || uppL.contains b)∧K=H):=by
 have k1:=fun H=>Bb b lowL (by decide) H
 have k2:=fun H=>Bb b uppL (by decide) H
 simp only [lowL,uppL] at k1 k2 ⊢
 generalize List.contains (α:=UInt8) _ b=x at *
 generalize List.contains (α:=UInt8) _ b=y at *
 refine Qc.pure (by simp [Xa]) (Qb _) ?_
 cases x <;> cases y
 all_goals refine Qc.go Tryz.func95 rfl ?_
 all_goals (repeat' (first|with_reducible refine And.intro ?_ ?_|(with_reducible intro hc;(try simp only [zz] at hc);try exact ct)|((conv=>whnf);first|(with_reducible first|refine And.intro ?_ ?_|intro hx|apply Val.via|apply Qi.via)|exact Is.mk rfl rfl|refine sp ?_|refine vx (by (first|exact hb|exact Qa vagg_str (Xu hb) (Q3 rfl rfl)|exact Qa rfl rfl rfl|rfl)) ?_|refine dY ?_|(first|refine cl (k1 _) ?_|refine cl (k2 _) ?_)|refine sq ?_)))
 (all_goals try exact om)
 all_goals exact Qf.mk rfl
theorem Ba (b:UInt8) (H:Heap):Qc Tryz.prog 71 [bV b] H (fun x K=>x=Yg (Wk b)∧K=H):=by
 have k1:=fun H=>dletter_call b H
 rw [← dlet_eq]
 generalize (lowL.contains b || uppL.contains b)=x at *
 have hbl:b.toNat < 256:=b.toNat_lt
 refine Qc.pure (by simp [Xa]) (Qb _) ?_
 by_cases h95:b.toNat=95
 ·obtain rfl:b=95:=UInt8.toNat_inj.1 h95
  cases x
  all_goals refine Qc.go Tryz.func71 rfl ?_
  all_goals (repeat' (first|with_reducible refine And.intro ?_ ?_|(with_reducible intro hc;(try simp only [zz] at hc);try exact ct)|((conv=>whnf);first|(with_reducible first|refine And.intro ?_ ?_|intro hx|apply Val.via|apply Qi.via)|exact Is.mk rfl rfl|refine sp ?_|refine vx (by (first|exact hb|exact Qa vagg_str (Xu hb) (Q3 rfl rfl)|exact Qa rfl rfl rfl|rfl)) ?_|refine dY ?_|refine cl (k1 _) ?_|refine sq ?_)))
  (all_goals try exact om)
  all_goals exact Qf.mk rfl
 ·have e:(b.toNat==95)=false:=by simpa using h95
  rw [e,Bool.false_or]
  cases x
  all_goals refine Qc.go Tryz.func71 rfl ?_
  all_goals (repeat' (first|with_reducible refine And.intro ?_ ?_|(with_reducible intro hc;(try simp only [zz] at hc);try exact ct)|((conv=>whnf);first|(with_reducible first|refine And.intro ?_ ?_|intro hx|apply Val.via|apply Qi.via)|exact Is.mk rfl rfl|refine sp ?_|refine vx (by (first|exact hb|exact Qa vagg_str (Xu hb) (Q3 rfl rfl)|exact Qa rfl rfl rfl|rfl)) ?_|refine dY ?_|refine cl (k1 _) ?_|refine sq ?_)))
  (all_goals try exact om)
  all_goals (first|exact Qf.mk rfl|exact Qf.mk (congrArg (fun x=>VV.sc (.bool x)) (by rw [Ei];simp;omega)))
theorem drnum_call (l:List UInt8) (hl:l.length≤100000) (H:Heap):Qc Tryz.prog 73 [Qe l,.sc (.int .i64 2147483648)] H (fun x K=>x=numV (num l 2147483648)∧K=H):=by
 generalize hR:num l 2147483648=R
 refine Qc.pure (by simp [Qd,Qb]) (Ja (by simp [iV,Yg,Qb])) ?_
 by_cases h0:l.length=0
 ·have hR:R=none:=by rw [← hR];unfold num;rw [if_pos (.inl (List.eq_nil_of_length_eq_zero h0))]
  subst hR
  obtain rfl:l= []:=List.eq_nil_of_length_eq_zero h0
  refine Qc.go Tryz.func73 rfl ?_
  (repeat' (first|with_reducible refine And.intro ?_ ?_|(with_reducible intro hc;(try simp only [zz] at hc);try exact ct)|((conv=>whnf);first|(with_reducible first|refine And.intro ?_ ?_|intro hx|apply Val.via|apply Qi.via)|exact Is.mk rfl rfl|refine sp ?_|refine vx (by rfl) ?_|refine dY ?_|fail|refine sq ?_)))
  (all_goals try exact om)
  all_goals exact Qf.mk rfl
 have hne:(l==([]:List UInt8))=false:=by
  cases l with
  | nil=>simp at h0
  | cons a b=>rfl
 obtain ⟨c,hb0⟩: ∃ c,l[0]? = some c:=⟨_,List.getElem?_eq_getElem (by omega)⟩
 have hcl:c.toNat < 256:=c.toNat_lt
 by_cases h1:1 < l.length∧c.toNat=48
 ·obtain ⟨h1,h2⟩:=h1
  obtain rfl:c=48:=UInt8.toNat_inj.1 h2
  have hR:R=none:=by rw [← hR];unfold num;rw [if_pos (.inr ⟨h1,hb0⟩)]
  subst hR
  refine Qc.go Tryz.func73 rfl ?_
  (repeat' (first|with_reducible refine And.intro ?_ ?_|(with_reducible intro hc;(try simp only [zz] at hc);try exact ct)|((conv=>whnf);first|(with_reducible first|refine And.intro ?_ ?_|intro hx|apply Val.via|apply Qi.via)|exact Is.mk rfl rfl|refine sp ?_|refine vx (by (first|exact hb|exact hb0|exact Qa rfl rfl rfl|rfl)) ?_|refine dY ?_|fail|refine sq ?_)))
  (all_goals try exact om)
  all_goals exact Qf.mk rfl
 have hR:Y6 2147483648 l 0=R:=by
  rw [← hR]
  unfold num
  rw [if_neg]
  rintro (e|⟨e1,e2⟩)
  ·rw [e] at h0;exact h0 rfl
  ·rw [hb0] at e2
   injection e2 with e2
   subst e2
   exact h1 ⟨e1,rfl⟩
 have loop: ∀ (i:Nat) (n:Int) (b:UInt8),l[i]? = some b→0≤n→n≤2147483648→Y6 2147483648 (l.drop i) n=if Jx b=true∧n*10+((b.toNat:Int) - 48)≤2147483648 then Y6 2147483648 (l.drop (i+1)) (n*10+((b.toNat:Int) - 48)) else none:=by
  intro i n b hb _ _
  rw [numGo_at hb]
  unfold Jx
  simp
 refine Qc.go Tryz.func73 rfl ?_
 by_cases hl1:1 < l.length
 ·have h48: ¬ c.toNat=48:=fun e=>h1 ⟨hl1,e⟩
  (repeat' (first|with_reducible refine And.intro ?_ ?_|(with_reducible intro hc;(try simp only [zz] at hc);try exact ct)|((conv=>whnf);first|(with_reducible first|refine And.intro ?_ ?_|intro hx|apply Val.via|apply Qi.via)|exact Is.mk rfl rfl|refine sp ?_|refine vx (by (first|exact hb|exact hb0|exact Qa rfl rfl rfl|rfl)) ?_|refine dY ?_|fail|refine sq ?_)))
  (all_goals try exact om)
  all_goals (first|(exact absurd (by simpa using hc) (show ¬ l= [] from fun e=>by simp [e] at h0))|skip)
  ((refine Ji.mk (GWP.loopB [] (fun (a:Nat×Int)=>a.1≤l.length∧0≤a.2∧a.2≤2147483648∧Y6 2147483648 (l.drop a.1) a.2=R) (fun a=> [(6,iV a.2),(7,iV a.1)]) (fun _=> []) 0 (fun a=>l.length - a.1) (0,0) ⟨Nat.zero_le _,by decide,by decide,hR⟩ ?_);(conv=>whnf);refine And.intro ?_ ?_);(focus (focus (refine ka [] ?_ ?_;all_goals (repeat' (first|exact rz|refine And.intro ?_ ?_|refine Exists.intro _ (And.intro rfl ?_)|refine ro ?_|refine Qu.cons ?_ ?_|fail|exact rv)))));rintro ⟨i,n⟩ ⟨g1,g2,g3,g4⟩;simp only at g1 g2 g3 g4 ⊢;by_cases hil:i < l.length;(focus (obtain ⟨b,hb⟩:=Ze hil;have hbl:b.toNat < 256:=b.toNat_lt;have kd:=fun H=>Z3 b H;rw [loop i n b hb g2 g3] at g4;have hdb:Jx b=true↔(48≤b.toNat∧b.toNat≤57):=(by unfold Jx;simp);cases hdg:Jx b;(focus (rw [hdg] at kd g4 hdb;(rw [if_neg (by simp)] at g4);subst g4;(repeat' (first|with_reducible refine And.intro ?_ ?_|(with_reducible intro hc;(try simp only [zz] at hc);try exact ct)|((conv=>whnf);first|(with_reducible first|refine And.intro ?_ ?_|intro hx|apply Val.via|apply Qi.via)|exact Is.mk rfl rfl|refine sp ?_|refine vx (by (first|exact hb|exact hb0|exact Qa rfl rfl rfl|rfl)) ?_|refine dY ?_|refine cl (kd _) ?_|refine sq ?_)));(all_goals try exact om);all_goals exact Qf.mk rfl));rw [hdg] at kd g4 hdb;have hdb:=hdb.1 rfl;by_cases hle:n*10+((b.toNat:Int) - 48)≤2147483648;(focus ((rw [if_pos ⟨rfl,hle⟩] at g4);(repeat' (first|with_reducible refine And.intro ?_ ?_|(with_reducible intro hc;(try simp only [zz] at hc);try exact ct)|((conv=>whnf);first|(with_reducible first|refine And.intro ?_ ?_|intro hx|apply Val.via|apply Qi.via)|exact Is.mk rfl rfl|refine sp ?_|refine vx (by (first|exact hb|exact hb0|exact Qa rfl rfl rfl|rfl)) ?_|refine dY ?_|refine cl (kd _) ?_|refine sq ?_)));(all_goals try exact om);(focus (refine Qf.mk ⟨(i+1,n*10+((b.toNat:Int) - 48)),⟨by simp only;omega,by simp only;omega,hle,g4⟩,?_,ka [] ?_ ?_⟩;(first|omega|(simp only;omega));all_goals (repeat' (first|exact rz|refine And.intro ?_ ?_|refine Exists.intro _ (And.intro rfl ?_)|refine ro ?_|refine Qu.cons ?_ ?_|exact Qn.eq (Qz (by omega)) (Qb _)|exact rv))))));(rw [if_neg (fun q=>hle q.2)] at g4);subst g4;(repeat' (first|with_reducible refine And.intro ?_ ?_|(with_reducible intro hc;(try simp only [zz] at hc);try exact ct)|((conv=>whnf);first|(with_reducible first|refine And.intro ?_ ?_|intro hx|apply Val.via|apply Qi.via)|exact Is.mk rfl rfl|refine sp ?_|refine vx (by (first|exact hb|exact hb0|exact Qa rfl rfl rfl|rfl)) ?_|refine dY ?_|refine cl (kd _) ?_|refine sq ?_)));(all_goals try exact om);all_goals exact Qf.mk rfl));obtain rfl:i=l.length:=(by omega);rw [List.drop_length] at g4;have g4:R=some n:=g4.symm;subst g4;(repeat' (first|with_reducible refine And.intro ?_ ?_|(with_reducible intro hc;(try simp only [zz] at hc);try exact ct)|((conv=>whnf);first|(with_reducible first|refine And.intro ?_ ?_|intro hx|apply Val.via|apply Qi.via)|exact Is.mk rfl rfl|refine sp ?_|refine vx (by (first|exact hb|exact hb0|exact Qa rfl rfl rfl|rfl)) ?_|refine dY ?_|fail|refine sq ?_)));(all_goals try exact om);all_goals exact Qf.mk rfl)
 ·(repeat' (first|with_reducible refine And.intro ?_ ?_|(with_reducible intro hc;(try simp only [zz] at hc);try exact ct)|((conv=>whnf);first|(with_reducible first|refine And.intro ?_ ?_|intro hx|apply Val.via|apply Qi.via)|exact Is.mk rfl rfl|refine sp ?_|refine vx (by (first|exact hb|exact hb0|exact Qa rfl rfl rfl|rfl)) ?_|refine dY ?_|fail|refine sq ?_)))
  (all_goals try exact om)
  all_goals (first|(exact absurd (by simpa using hc) (show ¬ l= [] from fun e=>by simp [e] at h0))|skip)
  ((refine Ji.mk (GWP.loopB [] (fun (a:Nat×Int)=>a.1≤l.length∧0≤a.2∧a.2≤2147483648∧Y6 2147483648 (l.drop a.1) a.2=R) (fun a=> [(6,iV a.2),(7,iV a.1)]) (fun _=> []) 0 (fun a=>l.length - a.1) (0,0) ⟨Nat.zero_le _,by decide,by decide,hR⟩ ?_);(conv=>whnf);refine And.intro ?_ ?_);(focus (focus (refine ka [] ?_ ?_;all_goals (repeat' (first|exact rz|refine And.intro ?_ ?_|refine Exists.intro _ (And.intro rfl ?_)|refine ro ?_|refine Qu.cons ?_ ?_|fail|exact rv)))));rintro ⟨i,n⟩ ⟨g1,g2,g3,g4⟩;simp only at g1 g2 g3 g4 ⊢;by_cases hil:i < l.length;(focus (obtain ⟨b,hb⟩:=Ze hil;have hbl:b.toNat < 256:=b.toNat_lt;have kd:=fun H=>Z3 b H;rw [loop i n b hb g2 g3] at g4;have hdb:Jx b=true↔(48≤b.toNat∧b.toNat≤57):=(by unfold Jx;simp);cases hdg:Jx b;(focus (rw [hdg] at kd g4 hdb;(rw [if_neg (by simp)] at g4);subst g4;(repeat' (first|with_reducible refine And.intro ?_ ?_|(with_reducible intro hc;(try simp only [zz] at hc);try exact ct)|((conv=>whnf);first|(with_reducible first|refine And.intro ?_ ?_|intro hx|apply Val.via|apply Qi.via)|exact Is.mk rfl rfl|refine sp ?_|refine vx (by (first|exact hb|exact hb0|exact Qa rfl rfl rfl|rfl)) ?_|refine dY ?_|refine cl (kd _) ?_|refine sq ?_)));(all_goals try exact om);all_goals exact Qf.mk rfl));rw [hdg] at kd g4 hdb;have hdb:=hdb.1 rfl;by_cases hle:n*10+((b.toNat:Int) - 48)≤2147483648;(focus ((rw [if_pos ⟨rfl,hle⟩] at g4);(repeat' (first|with_reducible refine And.intro ?_ ?_|(with_reducible intro hc;(try simp only [zz] at hc);try exact ct)|((conv=>whnf);first|(with_reducible first|refine And.intro ?_ ?_|intro hx|apply Val.via|apply Qi.via)|exact Is.mk rfl rfl|refine sp ?_|refine vx (by (first|exact hb|exact hb0|exact Qa rfl rfl rfl|rfl)) ?_|refine dY ?_|refine cl (kd _) ?_|refine sq ?_)));(all_goals try exact om);(focus (refine Qf.mk ⟨(i+1,n*10+((b.toNat:Int) - 48)),⟨by simp only;omega,by simp only;omega,hle,g4⟩,?_,ka [] ?_ ?_⟩;(first|omega|(simp only;omega));all_goals (repeat' (first|exact rz|refine And.intro ?_ ?_|refine Exists.intro _ (And.intro rfl ?_)|refine ro ?_|refine Qu.cons ?_ ?_|exact Qn.eq (Qz (by omega)) (Qb _)|exact rv))))));(rw [if_neg (fun q=>hle q.2)] at g4);subst g4;(repeat' (first|with_reducible refine And.intro ?_ ?_|(with_reducible intro hc;(try simp only [zz] at hc);try exact ct)|((conv=>whnf);first|(with_reducible first|refine And.intro ?_ ?_|intro hx|apply Val.via|apply Qi.via)|exact Is.mk rfl rfl|refine sp ?_|refine vx (by (first|exact hb|exact hb0|exact Qa rfl rfl rfl|rfl)) ?_|refine dY ?_|refine cl (kd _) ?_|refine sq ?_)));(all_goals try exact om);all_goals exact Qf.mk rfl));obtain rfl:i=l.length:=(by omega);rw [List.drop_length] at g4;have g4:R=some n:=g4.symm;subst g4;(repeat' (first|with_reducible refine And.intro ?_ ?_|(with_reducible intro hc;(try simp only [zz] at hc);try exact ct)|((conv=>whnf);first|(with_reducible first|refine And.intro ?_ ?_|intro hx|apply Val.via|apply Qi.via)|exact Is.mk rfl rfl|refine sp ?_|refine vx (by (first|exact hb|exact hb0|exact Qa rfl rfl rfl|rfl)) ?_|refine dY ?_|fail|refine sq ?_)));(all_goals try exact om);all_goals exact Qf.mk rfl)
def sgD3 (r:SgR):VV:=if r.e=0 then .tp [.ag (Z4 r.sg 0),iV r.n,iV 0] else .tp [.ag (Z4 noSg 0),iV 0,iV r.e]
theorem Cf (g:Sg) (a:Nat): ∀ v∈Z4 g a,Qq v:=by
 intro v hv
 simp only [Z4,List.mem_cons,List.not_mem_nil,or_false] at hv
 rcases hv with rfl|rfl|rfl|rfl
 ·exact Qb _
 ·exact Qb _
 ·exact Qb _
 ·exact Qd _
theorem Wo (r:SgR):Qq (sgD3 r):=by
 unfold sgD3
 split
 ·exact Ja (by simp [iV,Qb,Xs (Cf _ _)])
 ·exact Ja (by simp [iV,Qb,Xs (Cf _ _)])
theorem dinW_call (x:List UInt8) {H:Heap} {b:Nat} {v:VV} (hg:H.get b=some (.cells true (wordsL.map Qe))) (hv:v=Qe x):Qc Tryz.prog 24 [.sl b 0 9 (some 9) 1,v] H (fun u K=>u=Yg (wordsL.contains x)∧K=H):=by
 subst hv
 have h0:=(dinL_call wordsL (by decide) x ⟨[],0⟩).mono (R':=fun v K=>Frx K v (Yg (wordsL.contains x))) (fun v K e=>by rw [e.1];exact Frx.of (Xn _))
 exact Qc.viewed (.cons (Kv.sl hg (by decide) (Jg Qd wordsL)) (.cons (Kv.of (Qd x)) .nil)) h0 (fun v K h=>h)
theorem Zj (l:List UInt8) (n:Nat):VV.sc (.string ((⟨l.toArray⟩:ByteArray).extract 0 ((n:Int)).toNat))=Qe (l.take n):=by
 rw [Int.toNat_natCast,ext_str]
 rfl
theorem runB_step (p:UInt8→Bool) {t:List UInt8} {i:Nat} {b:UInt8} (hb:t[i]? = some b):Jd p (t.drop i)=if p b then Jd p (t.drop (i+1))+1 else 0:=by
 obtain ⟨hi,e⟩:=List.getElem?_eq_some_iff.1 hb
 rw [List.drop_eq_getElem_cons hi,e,Jd]
theorem Fm (t:List UInt8): ∃ f:Nat→UInt8,∀ i,i < t.length→t[i]? = some (f i):=⟨fun i=>t.getD i 0,fun i h=>by
 show t[i]? = some (t.getD i 0)
 rw [List.getD_eq_getElem?_getD,List.getElem?_eq_getElem h]
 rfl⟩
theorem dname_call (c:UInt8) (r:List UInt8) (hc0:Wk c=true) (hl:(c::r).length≤4096) (H:Heap):Qc Tryz.prog 43 [Qe (c::r)] H (fun v K=>v=sgD3 (Kk (c::r))∧K=H):=by
 refine Qc.pure (by simp [Qd]) (Wo _) ?_
 generalize hR:sgD3 (Kk (c::r))=R
 have hb0:(c::r)[0]? = some c:=rfl
 have hl0:1≤(c::r).length:=by simp
 have hr0:Jd nmB (c::r)=1+Jd nmB ((c::r).drop 1):=by
  rw [Jd,if_pos (by simp [nmB,hc0])]
  rw [List.drop_one,List.tail_cons]
  omega
 have k0:=fun H=>Ba c H
 rw [hc0] at k0
 generalize c::r=t at *
 obtain ⟨bAt,hbA⟩:=Fm t
 refine Qc.go Tryz.func43 rfl ?_
 (repeat' (first|with_reducible refine And.intro ?_ ?_|(with_reducible intro hc;(try simp only [zz] at hc);try exact ct)|((conv=>whnf);first|(with_reducible first|refine And.intro ?_ ?_|intro hx|apply Val.via|apply Qi.via)|exact Is.mk rfl rfl|refine sp ?_|refine vx (by (first|exact hb|exact hb0|exact Q4 rfl rfl|exact Qa rfl rfl rfl|rfl)) ?_|refine dY ?_|refine cl (k0 _) ?_|refine sq ?_)))
 (all_goals (first|omega|contradiction|(show (_:Int)≤(t.length:Int);omega)|skip))
 (refine Ji.mk (GWP.loopB [] (fun (i:Nat)=>1≤i∧i≤t.length∧Jd nmB t=i+Jd nmB (t.drop i)) (fun i=> [(5,iV i)]) (fun _=> []) 1 (fun i=>t.length - i) 1 ⟨Nat.le_refl _,hl0,hr0⟩ ?_);(conv=>whnf);refine And.intro ?_ ?_)
 ·focus (refine ka [] ?_ ?_;all_goals (repeat' (first|exact rz|refine And.intro ?_ ?_|refine Exists.intro _ (And.intro rfl ?_)|refine ro ?_|refine Qu.cons ?_ ?_|fail|exact rv)))
 rintro i ⟨g1,g2,g3⟩
 simp only at g1 g2 g3 ⊢
 by_cases hil:i < t.length
 ·have hb:=hbA i hil
  have hbl:(bAt i).toNat < 256:=(bAt i).toNat_lt
  have kl:=fun H=>Ba (bAt i) H
  have kd:=fun H=>Z3 (bAt i) H
  have hst:=runB_step nmB hb
  by_cases hlt:Wk (bAt i)=true
  ·rw [hlt] at kl
   rw [hst,if_pos (by simp [nmB,hlt])] at g3
   (repeat' (first|with_reducible refine And.intro ?_ ?_|(with_reducible intro hc;(try simp only [zz] at hc);try exact ct)|((conv=>whnf);first|(with_reducible first|refine And.intro ?_ ?_|intro hx|apply Val.via|apply Qi.via)|exact Is.mk rfl rfl|refine sp ?_|refine vx (by (first|exact hb|exact hb0|exact Q4 rfl rfl|exact Qa rfl rfl rfl|rfl)) ?_|refine dY ?_|refine cl (kl _) ?_|refine sq ?_)))
   (all_goals (first|omega|contradiction|(show (_:Int)≤(t.length:Int);omega)|skip))
   focus (refine Qf.mk ⟨i+1,⟨by omega,by omega,by omega⟩,?_,ka [] ?_ ?_⟩;(first|omega|(simp only;omega));all_goals (repeat' (first|exact rz|refine And.intro ?_ ?_|refine Exists.intro _ (And.intro rfl ?_)|refine ro ?_|refine Qu.cons ?_ ?_|exact Qn.eq (Qz (by omega)) (Qb _)|exact rv)))
  ·have hlt:Wk (bAt i)=false:=by simpa using hlt
   rw [hlt] at kl
   by_cases hdg:Jx (bAt i)=true
   ·rw [hdg] at kd
    rw [hst,if_pos (by simp [nmB,hdg])] at g3
    (repeat' (first|with_reducible refine And.intro ?_ ?_|(with_reducible intro hc;(try simp only [zz] at hc);try exact ct)|((conv=>whnf);first|(with_reducible first|refine And.intro ?_ ?_|intro hx|apply Val.via|apply Qi.via)|exact Is.mk rfl rfl|refine sp ?_|refine vx (by (first|exact hb|exact hb0|exact Q4 rfl rfl|exact Qa rfl rfl rfl|rfl)) ?_|refine dY ?_|(first|refine cl (kl _) ?_|refine cl (kd _) ?_)|refine sq ?_)))
    (all_goals (first|omega|contradiction|(show (_:Int)≤(t.length:Int);omega)|skip))
    focus (refine Qf.mk ⟨i+1,⟨by omega,by omega,by omega⟩,?_,ka [] ?_ ?_⟩;(first|omega|(simp only;omega));all_goals (repeat' (first|exact rz|refine And.intro ?_ ?_|refine Exists.intro _ (And.intro rfl ?_)|refine ro ?_|refine Qu.cons ?_ ?_|exact Qn.eq (Qz (by omega)) (Qb _)|exact rv)))
   ·have hdg:Jx (bAt i)=false:=by simpa using hdg
    rw [hdg] at kd
    rw [hst,if_neg (by simp [nmB,hdg,hlt])] at g3
    have hn:Jd nmB t=i:=by omega
    (have hN:Kk t=if 63 < i then ⟨⟨1,t.take i,0⟩,i,3⟩ else if wordsL.contains (t.take i) then ⟨⟨2,t.take i,0⟩,i,0⟩ else ⟨⟨1,t.take i,0⟩,i,0⟩:=(by unfold Kk;rw [hn]);rw [hN] at hR;by_cases h63:63 < i;(focus ((rw [if_pos h63] at hR);subst hR;(repeat' (first|with_reducible refine And.intro ?_ ?_|(with_reducible intro hc;(try simp only [zz] at hc);try exact ct)|((conv=>whnf);first|(with_reducible first|refine And.intro ?_ ?_|intro hx|apply Val.via|apply Qi.via)|exact Is.mk rfl rfl|refine sp ?_|refine vx (by (first|exact hb|exact hb0|exact Q4 rfl rfl|exact Qa rfl rfl rfl|rfl)) ?_|refine dY ?_|(first|refine cl (kl _) ?_|refine cl (kd _) ?_)|refine sq ?_)));(all_goals (first|omega|contradiction|(show (_:Int)≤(t.length:Int);omega)|skip));all_goals exact Qf.mk rfl));rw [if_neg h63] at hR;have kw:=fun {H b v} hg hv=>dinW_call (t.take i) (H:=H) (b:=b) (v:=v) hg hv;by_cases hw:wordsL.contains (t.take i)=true;rotate_left;(focus (have hw:wordsL.contains (t.take i)=false:=(by simpa using hw);rw [hw] at kw hR;(rw [if_neg (by simp)] at hR);subst hR;(repeat' (first|with_reducible refine And.intro ?_ ?_|(with_reducible intro hc;(try simp only [zz] at hc);try exact ct)|((conv=>whnf);first|(with_reducible first|refine And.intro ?_ ?_|intro hx|apply Val.via|apply Qi.via)|exact Is.mk rfl rfl|refine sp ?_|refine vx (by (first|exact hb|exact hb0|exact Q4 rfl rfl|exact Qa rfl rfl rfl|rfl)) ?_|refine dY ?_|(first|refine cl (kl _) ?_|refine cl (kd _) ?_|refine cl (kw rfl (Zj t i)) ?_)|refine sq ?_)));(all_goals (first|omega|contradiction|(show (_:Int)≤(t.length:Int);omega)|skip));(all_goals refine Qf.mk ?_);all_goals exact (congrArg (fun s=>VV.tp [.ag [iV 1,iV 0,iV 0,s],iV i,iV 0]) (Zj t i))));rw [hw] at kw hR;(rw [if_pos rfl] at hR);subst hR;(repeat' (first|with_reducible refine And.intro ?_ ?_|(with_reducible intro hc;(try simp only [zz] at hc);try exact ct)|((conv=>whnf);first|(with_reducible first|refine And.intro ?_ ?_|intro hx|apply Val.via|apply Qi.via)|exact Is.mk rfl rfl|refine sp ?_|refine vx (by (first|exact hb|exact hb0|exact Q4 rfl rfl|exact Qa rfl rfl rfl|rfl)) ?_|refine dY ?_|(first|refine cl (kl _) ?_|refine cl (kd _) ?_|refine cl (kw rfl (Zj t i)) ?_)|refine sq ?_)));(all_goals (first|omega|contradiction|(show (_:Int)≤(t.length:Int);omega)|skip));(all_goals refine Qf.mk ?_);all_goals exact (congrArg (fun s=>VV.tp [.ag [iV 2,iV 0,iV 0,s],iV i,iV 0]) (Zj t i)))
 ·have hie:i=t.length:=by omega
  have hn:Jd nmB t=i:=by rw [hie,List.drop_length,Jd] at g3;omega
  (have hN:Kk t=if 63 < i then ⟨⟨1,t.take i,0⟩,i,3⟩ else if wordsL.contains (t.take i) then ⟨⟨2,t.take i,0⟩,i,0⟩ else ⟨⟨1,t.take i,0⟩,i,0⟩:=(by unfold Kk;rw [hn]);rw [hN] at hR;by_cases h63:63 < i;(focus ((rw [if_pos h63] at hR);subst hR;(repeat' (first|with_reducible refine And.intro ?_ ?_|(with_reducible intro hc;(try simp only [zz] at hc);try exact ct)|((conv=>whnf);first|(with_reducible first|refine And.intro ?_ ?_|intro hx|apply Val.via|apply Qi.via)|exact Is.mk rfl rfl|refine sp ?_|refine vx (by (first|exact hb|exact hb0|exact Q4 rfl rfl|exact Qa rfl rfl rfl|rfl)) ?_|refine dY ?_|(first|fail)|refine sq ?_)));(all_goals (first|omega|contradiction|(show (_:Int)≤(t.length:Int);omega)|skip));all_goals exact Qf.mk rfl));rw [if_neg h63] at hR;have kw:=fun {H b v} hg hv=>dinW_call (t.take i) (H:=H) (b:=b) (v:=v) hg hv;by_cases hw:wordsL.contains (t.take i)=true;rotate_left;(focus (have hw:wordsL.contains (t.take i)=false:=(by simpa using hw);rw [hw] at kw hR;(rw [if_neg (by simp)] at hR);subst hR;(repeat' (first|with_reducible refine And.intro ?_ ?_|(with_reducible intro hc;(try simp only [zz] at hc);try exact ct)|((conv=>whnf);first|(with_reducible first|refine And.intro ?_ ?_|intro hx|apply Val.via|apply Qi.via)|exact Is.mk rfl rfl|refine sp ?_|refine vx (by (first|exact hb|exact hb0|exact Q4 rfl rfl|exact Qa rfl rfl rfl|rfl)) ?_|refine dY ?_|(first|fail|refine cl (kw rfl (Zj t i)) ?_)|refine sq ?_)));(all_goals (first|omega|contradiction|(show (_:Int)≤(t.length:Int);omega)|skip));(all_goals refine Qf.mk ?_);all_goals exact (congrArg (fun s=>VV.tp [.ag [iV 1,iV 0,iV 0,s],iV i,iV 0]) (Zj t i))));rw [hw] at kw hR;(rw [if_pos rfl] at hR);subst hR;(repeat' (first|with_reducible refine And.intro ?_ ?_|(with_reducible intro hc;(try simp only [zz] at hc);try exact ct)|((conv=>whnf);first|(with_reducible first|refine And.intro ?_ ?_|intro hx|apply Val.via|apply Qi.via)|exact Is.mk rfl rfl|refine sp ?_|refine vx (by (first|exact hb|exact hb0|exact Q4 rfl rfl|exact Qa rfl rfl rfl|rfl)) ?_|refine dY ?_|(first|fail|refine cl (kw rfl (Zj t i)) ?_)|refine sq ?_)));(all_goals (first|omega|contradiction|(show (_:Int)≤(t.length:Int);omega)|skip));(all_goals refine Qf.mk ?_);all_goals exact (congrArg (fun s=>VV.tp [.ag [iV 2,iV 0,iV 0,s],iV i,iV 0]) (Zj t i)))
theorem numGo_nnD {most:Int}: ∀ (l:List UInt8) (n x:Int),0≤n→Y6 most l n=some x→0≤x
 | [],n,x,hn,h=>by
  rw [Y6] at h
  injection h with h
  omega
 | b::r,n,x,hn,h=>by
  rw [Y6] at h
  split at h
  ·rename_i hc
   exact numGo_nnD r _ x (by omega) h
  ·cases h
theorem num_nnD {l:List UInt8} {x:Int} (h:num l 2147483648=some x):0≤x:=by
 unfold num at h
 split at h
 ·cases h
 ·exact numGo_nnD l 0 x (by decide) h
theorem dnumb_call (c:UInt8) (r:List UInt8) (hc0:Wk c=false) (hd0:Jx c=true) (hl:(c::r).length≤4096) (H:Heap):Qc Tryz.prog 43 [Qe (c::r)] H (fun v K=>v=sgD3 (Ur (c::r))∧K=H):=by
 refine Qc.pure (by simp [Qd]) (Wo _) ?_
 generalize hR:sgD3 (Ur (c::r))=R
 have hb0:(c::r)[0]? = some c:=rfl
 have hl0:1≤(c::r).length:=by simp
 have hr0:Jd Jx (c::r)=1+Jd Jx ((c::r).drop 1):=by
  rw [Jd,if_pos hd0]
  rw [List.drop_one,List.tail_cons]
  omega
 have k0:=fun H=>Ba c H
 have k1:=fun H=>Z3 c H
 rw [hc0] at k0
 rw [hd0] at k1
 have hcl:c.toNat < 256:=c.toNat_lt
 have h48:c.toNat=48↔c=48:=⟨fun h=>UInt8.toNat_inj.1 h,fun h=>by rw [h];rfl⟩
 generalize c::r=t at *
 obtain ⟨bAt,hbA⟩:=Fm t
 refine Qc.go Tryz.func43 rfl ?_
 (repeat' (first|with_reducible refine And.intro ?_ ?_|(with_reducible intro hc;(try simp only [zz] at hc);try exact ct)|((conv=>whnf);first|(with_reducible first|refine And.intro ?_ ?_|intro hx|apply Val.via|apply Qi.via)|exact Is.mk rfl rfl|refine sp ?_|refine vx (by (first|exact hb|exact hb0|exact Q4 rfl rfl|exact Qa rfl rfl rfl|rfl)) ?_|refine dY ?_|(first|refine cl (k0 _) ?_|refine cl (k1 _) ?_)|refine sq ?_)))
 (all_goals (first|omega|contradiction|(show (_:Int)≤(t.length:Int);omega)|skip))
 (refine Ji.mk (GWP.loopB [] (fun (i:Nat)=>1≤i∧i≤t.length∧Jd Jx t=i+Jd Jx (t.drop i)) (fun i=> [(6,iV i)]) (fun _=> []) 1 (fun i=>t.length - i) 1 ⟨Nat.le_refl _,hl0,hr0⟩ ?_);(conv=>whnf);refine And.intro ?_ ?_)
 ·focus (refine ka [] ?_ ?_;all_goals (repeat' (first|exact rz|refine And.intro ?_ ?_|refine Exists.intro _ (And.intro rfl ?_)|refine ro ?_|refine Qu.cons ?_ ?_|fail|exact rv)))
 rintro i ⟨g1,g2,g3⟩
 simp only at g1 g2 g3 ⊢
 by_cases hil:i < t.length
 ·have hb:=hbA i hil
  have hbl:(bAt i).toNat < 256:=(bAt i).toNat_lt
  have kd:=fun H=>Z3 (bAt i) H
  have hst:=runB_step Jx hb
  by_cases hdg:Jx (bAt i)=true
  ·rw [hdg] at kd
   rw [hst,if_pos hdg] at g3
   (repeat' (first|with_reducible refine And.intro ?_ ?_|(with_reducible intro hc;(try simp only [zz] at hc);try exact ct)|((conv=>whnf);first|(with_reducible first|refine And.intro ?_ ?_|intro hx|apply Val.via|apply Qi.via)|exact Is.mk rfl rfl|refine sp ?_|refine vx (by (first|exact hb|exact hb0|exact Q4 rfl rfl|exact Qa rfl rfl rfl|rfl)) ?_|refine dY ?_|(first|refine cl (kd _) ?_)|refine sq ?_)))
   (all_goals (first|omega|contradiction|(show (_:Int)≤(t.length:Int);omega)|skip))
   focus (refine Qf.mk ⟨i+1,⟨by omega,by omega,by omega⟩,?_,ka [] ?_ ?_⟩;(first|omega|(simp only;omega));all_goals (repeat' (first|exact rz|refine And.intro ?_ ?_|refine Exists.intro _ (And.intro rfl ?_)|refine ro ?_|refine Qu.cons ?_ ?_|exact Qn.eq (Qz (by omega)) (Qb _)|exact rv)))
  ·have hdg:Jx (bAt i)=false:=by simpa using hdg
   rw [hdg] at kd
   rw [hst,if_neg (by simp [hdg])] at g3
   have hn:Jd Jx t=i:=by omega
   (have hN:Ur t=if 1 < i∧t[0]? = some 48 then ⟨noSg,i,2⟩ else match num (t.take i) 2147483648 with|none=>⟨noSg,i,3⟩|some x=>⟨⟨3,[],x.toNat⟩,i,0⟩:=(by unfold Ur;rw [hn];cases num (t.take i) 2147483648 <;> rfl);rw [hN,hb0] at hR;by_cases hz:1 < i∧c.toNat=48;(focus ((rw [if_pos ⟨hz.1,congrArg some (h48.1 hz.2)⟩] at hR);subst hR;(repeat' (first|with_reducible refine And.intro ?_ ?_|(with_reducible intro hc;(try simp only [zz] at hc);try exact ct)|((conv=>whnf);first|(with_reducible first|refine And.intro ?_ ?_|intro hx|apply Val.via|apply Qi.via)|exact Is.mk rfl rfl|refine sp ?_|refine vx (by (first|exact hb|exact hb0|exact Q4 rfl rfl|exact Qa rfl rfl rfl|rfl)) ?_|refine dY ?_|(first|refine cl (kd _) ?_)|refine sq ?_)));(all_goals (first|omega|contradiction|(show (_:Int)≤(t.length:Int);omega)|skip));all_goals exact Qf.mk rfl));rw [if_neg (fun q=>hz ⟨q.1,h48.2 (Option.some.inj q.2)⟩)] at hR;have kn:=fun H=>drnum_call (t.take i) (by rw [List.length_take];omega) H;have hnn:=fun x (h:num (t.take i) 2147483648=some x)=>num_nnD h;generalize num (t.take i) 2147483648=q at *;by_cases hq:q=none;(focus (subst hq;subst hR;simp only [numV,Option.getD_none,Option.isSome_none] at kn;(repeat' (first|with_reducible refine And.intro ?_ ?_|(with_reducible intro hc;(try simp only [zz] at hc);try exact ct)|((conv=>whnf);first|(with_reducible first|refine And.intro ?_ ?_|intro hx|apply Val.via|apply Qi.via)|exact Is.mk rfl rfl|refine sp ?_|refine vx (by (first|exact hb|exact hb0|exact Q4 rfl rfl|exact Qa rfl rfl rfl|rfl)) ?_|refine dY ?_|(first|refine cl (kd _) ?_|(refine Q7.arg21 (Zj t i) ?_;refine cl (kn _) ?_))|refine sq ?_)));(all_goals (first|omega|contradiction|(show (_:Int)≤(t.length:Int);omega)|skip));all_goals exact Qf.mk rfl));have hqx:=Option.ne_none_iff_exists'.1 hq;have hx:=hqx.choose_spec;have hx0:=hnn _ hx;generalize hqx.choose=x at hx hx0;subst hx;subst hR;simp only [numV,Option.getD_some,Option.isSome_some] at kn;(repeat' (first|with_reducible refine And.intro ?_ ?_|(with_reducible intro hc;(try simp only [zz] at hc);try exact ct)|((conv=>whnf);first|(with_reducible first|refine And.intro ?_ ?_|intro hx|apply Val.via|apply Qi.via)|exact Is.mk rfl rfl|refine sp ?_|refine vx (by (first|exact hb|exact hb0|exact Q4 rfl rfl|exact Qa rfl rfl rfl|rfl)) ?_|refine dY ?_|(first|refine cl (kd _) ?_|(refine Q7.arg21 (Zj t i) ?_;refine cl (kn _) ?_))|refine sq ?_)));(all_goals (first|omega|contradiction|(show (_:Int)≤(t.length:Int);omega)|skip));(all_goals refine Qf.mk ?_);all_goals exact (congrArg (fun z=>VV.tp [.ag [iV 3,.sc (.int .i64 z),iV 0,Qe []],iV i,iV 0]) (show x=((x.toNat:Nat):Int) by omega)))
 ·have hie:i=t.length:=by omega
  have hn:Jd Jx t=i:=by rw [hie,List.drop_length,Jd] at g3;omega
  (have hN:Ur t=if 1 < i∧t[0]? = some 48 then ⟨noSg,i,2⟩ else match num (t.take i) 2147483648 with|none=>⟨noSg,i,3⟩|some x=>⟨⟨3,[],x.toNat⟩,i,0⟩:=(by unfold Ur;rw [hn];cases num (t.take i) 2147483648 <;> rfl);rw [hN,hb0] at hR;by_cases hz:1 < i∧c.toNat=48;(focus ((rw [if_pos ⟨hz.1,congrArg some (h48.1 hz.2)⟩] at hR);subst hR;(repeat' (first|with_reducible refine And.intro ?_ ?_|(with_reducible intro hc;(try simp only [zz] at hc);try exact ct)|((conv=>whnf);first|(with_reducible first|refine And.intro ?_ ?_|intro hx|apply Val.via|apply Qi.via)|exact Is.mk rfl rfl|refine sp ?_|refine vx (by (first|exact hb|exact hb0|exact Q4 rfl rfl|exact Qa rfl rfl rfl|rfl)) ?_|refine dY ?_|(first|fail)|refine sq ?_)));(all_goals (first|omega|contradiction|(show (_:Int)≤(t.length:Int);omega)|skip));all_goals exact Qf.mk rfl));rw [if_neg (fun q=>hz ⟨q.1,h48.2 (Option.some.inj q.2)⟩)] at hR;have kn:=fun H=>drnum_call (t.take i) (by rw [List.length_take];omega) H;have hnn:=fun x (h:num (t.take i) 2147483648=some x)=>num_nnD h;generalize num (t.take i) 2147483648=q at *;by_cases hq:q=none;(focus (subst hq;subst hR;simp only [numV,Option.getD_none,Option.isSome_none] at kn;(repeat' (first|with_reducible refine And.intro ?_ ?_|(with_reducible intro hc;(try simp only [zz] at hc);try exact ct)|((conv=>whnf);first|(with_reducible first|refine And.intro ?_ ?_|intro hx|apply Val.via|apply Qi.via)|exact Is.mk rfl rfl|refine sp ?_|refine vx (by (first|exact hb|exact hb0|exact Q4 rfl rfl|exact Qa rfl rfl rfl|rfl)) ?_|refine dY ?_|(first|fail|(refine Q7.arg21 (Zj t i) ?_;refine cl (kn _) ?_))|refine sq ?_)));(all_goals (first|omega|contradiction|(show (_:Int)≤(t.length:Int);omega)|skip));all_goals exact Qf.mk rfl));have hqx:=Option.ne_none_iff_exists'.1 hq;have hx:=hqx.choose_spec;have hx0:=hnn _ hx;generalize hqx.choose=x at hx hx0;subst hx;subst hR;simp only [numV,Option.getD_some,Option.isSome_some] at kn;(repeat' (first|with_reducible refine And.intro ?_ ?_|(with_reducible intro hc;(try simp only [zz] at hc);try exact ct)|((conv=>whnf);first|(with_reducible first|refine And.intro ?_ ?_|intro hx|apply Val.via|apply Qi.via)|exact Is.mk rfl rfl|refine sp ?_|refine vx (by (first|exact hb|exact hb0|exact Q4 rfl rfl|exact Qa rfl rfl rfl|rfl)) ?_|refine dY ?_|(first|fail|(refine Q7.arg21 (Zj t i) ?_;refine cl (kn _) ?_))|refine sq ?_)));(all_goals (first|omega|contradiction|(show (_:Int)≤(t.length:Int);omega)|skip));(all_goals refine Qf.mk ?_);all_goals exact (congrArg (fun z=>VV.tp [.ag [iV 3,.sc (.int .i64 z),iV 0,Qe []],iV i,iV 0]) (show x=((x.toNat:Nat):Int) by omega)))
end Go.Proofs.YtnmjdjldbloefaaGreatDoor
