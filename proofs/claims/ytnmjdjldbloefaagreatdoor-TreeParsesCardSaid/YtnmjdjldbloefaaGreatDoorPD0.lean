import Derived.Test.YtnmjdjldbloefaaGreatDoorPE5
import Derived.Test.YtnmjdjldbloefaaGreatDoorPG4
import Derived.Test.YtnmjdjldbloefaaGreatDoorPG2
/- Small things that several texts need. -/
namespace Go.Proofs.YtnmjdjldbloefaaGreatDoor
open Go Go.RowKit
set_option linter.unusedSimpArgs false
set_option linter.unusedVariables false
set_option maxRecDepth 100000
set_option maxHeartbeats 8000000
theorem dinL_call (L:List (List UInt8)) (hL:L.length≤100000) (x:List UInt8) (H:Heap):Qc Tryz.prog 24 [.ro L.length (L.map Qe),Qe x] H (fun v K=>v=Yg (L.contains x)∧K=H):=by
 refine Qc.pure (by intro v hv;simp only [List.mem_cons,List.not_mem_nil,or_false] at hv;rcases hv with rfl|rfl;exact Qx (Jg Qd L);exact Qd _) (Qb _) ?_
 generalize hR:L.contains x=R
 refine Qc.go Tryz.func24 rfl ?_
 have hb:True:=trivial
 (repeat' (first|with_reducible refine And.intro ?_ ?_|(with_reducible intro hc;(try simp only [zz] at hc);try exact ct)|((conv=>whnf);first|(with_reducible first|refine And.intro ?_ ?_|intro hx|apply Val.via|apply Qi.via)|exact Is.mk rfl rfl|refine sp ?_|refine vx (by (first|exact hb|exact Qa vagg_str (Xu hb) (Q3 rfl rfl)|exact Qa rfl rfl rfl|rfl)) ?_|refine dY ?_|fail|refine sq ?_)))
 (all_goals try exact om)
 (refine Ji.mk (GWP.loopB [] (fun (i:Nat)=>i≤L.length∧(L.drop i).contains x=R) (fun i=> [(9,iV i)]) (fun _=> []) 0 (fun i=>L.length - i) 0 ⟨Nat.zero_le _,hR⟩ ?_);(conv=>whnf);refine And.intro ?_ ?_)
 ·focus (refine ka [] ?_ ?_;all_goals (repeat' (first|exact rz|refine And.intro ?_ ?_|refine Exists.intro _ (And.intro rfl ?_)|refine ro ?_|refine Qu.cons ?_ ?_|fail|exact rv)))
 rintro i ⟨g1,g2⟩
 simp only at g1 g2 ⊢
 by_cases hil:i < L.length
 ·obtain ⟨b,hb⟩:=Ze hil
  obtain ⟨hi,e⟩:=List.getElem?_eq_some_iff.1 hb
  rw [List.drop_eq_getElem_cons hi,e,List.contains_cons] at g2
  by_cases hcb:(x==b)=true
  ·rw [hcb,Bool.true_or] at g2
   subst g2
   (repeat' (first|with_reducible refine And.intro ?_ ?_|(with_reducible intro hc;(try simp only [zz] at hc);try exact ct)|((conv=>whnf);first|(with_reducible first|refine And.intro ?_ ?_|intro hx|apply Val.via|apply Qi.via)|exact Is.mk rfl rfl|refine sp ?_|refine vx (by (first|exact hb|exact Qa vagg_str (Xu hb) (Q3 rfl rfl)|exact Qa rfl rfl rfl|rfl)) ?_|refine dY ?_|fail|refine sq ?_)))
   (all_goals try exact om)
   all_goals (first|(exact absurd hcb (by simpa using hc))|exact Qf.mk rfl)
  ·rw [show (x==b)=false by simpa using hcb,Bool.false_or] at g2
   (repeat' (first|with_reducible refine And.intro ?_ ?_|(with_reducible intro hc;(try simp only [zz] at hc);try exact ct)|((conv=>whnf);first|(with_reducible first|refine And.intro ?_ ?_|intro hx|apply Val.via|apply Qi.via)|exact Is.mk rfl rfl|refine sp ?_|refine vx (by (first|exact hb|exact Qa vagg_str (Xu hb) (Q3 rfl rfl)|exact Qa rfl rfl rfl|rfl)) ?_|refine dY ?_|fail|refine sq ?_)))
   (all_goals try exact om)
   all_goals (first|(exact absurd (by simpa using hc) hcb)|skip)
   focus (refine Qf.mk ⟨i+1,⟨by omega,g2⟩,?_,ka [] ?_ ?_⟩;(first|omega|(simp only;omega));all_goals (repeat' (first|exact rz|refine And.intro ?_ ?_|refine Exists.intro _ (And.intro rfl ?_)|refine ro ?_|refine Qu.cons ?_ ?_|exact Qn.eq (Qz (by omega)) (Qb _)|exact rv)))
 ·obtain rfl:i=L.length:=by omega
  rw [List.drop_length] at g2
  subst g2
  (repeat' (first|with_reducible refine And.intro ?_ ?_|(with_reducible intro hc;(try simp only [zz] at hc);try exact ct)|((conv=>whnf);first|(with_reducible first|refine And.intro ?_ ?_|intro hx|apply Val.via|apply Qi.via)|exact Is.mk rfl rfl|refine sp ?_|refine vx (by (first|exact hb|exact Qa vagg_str (Xu hb) (Q3 rfl rfl)|exact Qa rfl rfl rfl|rfl)) ?_|refine dY ?_|fail|refine sq ?_)))
  (all_goals try exact om)
  all_goals exact Qf.mk rfl
def Z4 (g:Sg) (a:Nat):List VV:= [iV g.kind,iV g.num,iV a,Qe g.text]
theorem Q4 {vs:List VV} {o:Nat} (hl:vs.length=4) (ho:o=0):vat Tryz.prog 65 vs o=some (.ag vs):=by
 have h1:Dq Tryz.prog 65=some true:=by kernel_rfl
 have h2:Jv Tryz.prog 65=some 4:=by kernel_rfl
 subst ho
 have h3:Nat.ble (0+4) vs.length=true:=by rw [hl];rfl
 simp only [vat,h1,h2,h3,List.drop_zero]
 rw [List.take_of_length_le (by omega)]
def Xw (l:List (Sg×Nat)):List VV:=l.flatMap fun p=>Z4 p.1 p.2
theorem Dd (l:List (Sg×Nat)):(Xw l).length=l.length*4:=by
 induction l with
 | nil=>rfl
 | cons a r ih =>
  show (Z4 a.1 a.2++Xw r).length=_
  simp only [List.length_append,List.length_cons,ih]
  show 4+_=_
  omega
theorem cellsD_ok (f:VV→Prop) (hf: ∀ x,f (.sc x)) (s:Sg) (a:Nat): ∀ v∈Z4 s a,f v:=by
 intro v hv
 simp only [Z4,List.mem_cons,List.not_mem_nil,or_false] at hv
 rcases hv with rfl|rfl|rfl|rfl <;> exact hf _
theorem Nw (f:VV→Prop) (hf: ∀ x,f (.sc x)) (l:List (Sg×Nat)): ∀ v∈Xw l,f v:=fun v hv=>by
 obtain ⟨p,_,h⟩:=List.mem_flatMap.1 hv
 exact cellsD_ok f hf _ _ v h
def sgsD:Sum Nat (List (Sg×Nat))→VV
 | .inl e=> .tp [.ro 0 [],iV e]
 | .inr l=> .tp [.ro l.length (Xw l),iV 0]
end Go.Proofs.YtnmjdjldbloefaaGreatDoor
