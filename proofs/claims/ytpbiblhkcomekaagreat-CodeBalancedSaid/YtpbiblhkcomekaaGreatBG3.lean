import Derived.Test.YtpbiblhkcomekaaGreatBG2
import Derived.Test.YtpbiblhkcomekaaGreatBE5
/- LexBlanks: a script's signs in plain words (begun). -/
namespace Go.Proofs.YtpbiblhkcomekaaGreat
open Go Go.RowKit
set_option linter.unusedSimpArgs false
set_option linter.unusedVariables false
def D7 (c:UInt8):Bool:=c.toNat==95 || (decide (97≤c.toNat)&&decide (c.toNat≤122)) || (decide (65≤c.toNat)&&decide (c.toNat≤90))
def Xt (c:UInt8):Bool:=decide (48≤c.toNat)&&decide (c.toNat≤57)
def U5 (c:UInt8):Bool:=c.toNat==32 || c.toNat==9 || c.toNat==13 || c.toNat==10
def Jc (p:UInt8→Bool):List UInt8→Nat
 | []=>0
 | c::r=>if p c then Jc p r+1 else 0
def lexT:List UInt8→List UInt8→Nat→Sum (Nat×Nat) (List UInt8×Nat)
 | [],_,n=> .inl (2,n)
 | c::r,acc,n =>
  if c.toNat=34 then (if 4096 < acc.length then .inl (3,n) else .inr (acc,n+1))
  else if c.toNat=10 then .inl (2,n)
  else if c.toNat=92 then (match r with
   | []=> .inl (2,n+1)
   | x::r'=>if x.toNat=110 then lexT r' (acc++ [10]) (n+2) else if x.toNat=34 then lexT r' (acc++ [34]) (n+2) else if x.toNat=92 then lexT r' (acc++ [92]) (n+2) else .inl (2,n+1))
  else lexT r (acc++ [c]) (n+1)
theorem Wu: ∀ (t r acc:List UInt8) (n:Nat),acc.length+t.length≤4096→lexT (escL t++34::r) acc n= .inr (acc++t,n+(escL t).length+1)
 | [],r,acc,n,h=>by
  have k:(34:UInt8).toNat=34:=rfl
  simp only [escL,List.nil_append]
  rw [lexT.eq_def]
  dsimp only
  rw [if_pos k,if_neg (by simp at h;omega)]
  simp
 | c::t,r,acc,n,h=>by
  have hl:(acc++ [c]).length+t.length≤4096:=by simp only [List.length_append,List.length_cons,List.length_nil] at h ⊢;omega
  have e:acc++c::t=(acc++ [c])++t:=by simp
  have k92:(92:UInt8).toNat=92:=rfl
  have k110:(110:UInt8).toNat=110:=rfl
  have k34:(34:UInt8).toNat=34:=rfl
  simp only [escL,List.append_assoc]
  unfold escB
  by_cases h10:c.toNat=10
  ·obtain rfl:c=10:=UInt8.toNat_inj.1 h10
   have ih:=Wu t r (acc++ [10]) (n+2) hl
   rw [if_pos h10,e]
   simp only [List.cons_append,List.nil_append]
   rw [lexT.eq_def]
   dsimp only
   rw [if_neg (by decide),if_neg (by decide),if_pos k92]
   rw [if_pos k110,ih]
   simp only [List.length_cons,List.length_nil,List.length_append]
   congr 2
   omega
  ·by_cases h34:c.toNat=34
   ·obtain rfl:c=34:=UInt8.toNat_inj.1 h34
    have ih:=Wu t r (acc++ [34]) (n+2) hl
    rw [if_neg h10,if_pos h34,e]
    simp only [List.cons_append,List.nil_append]
    rw [lexT.eq_def]
    dsimp only
    rw [if_neg (by decide),if_neg (by decide),if_pos k92]
    rw [if_neg (by decide),if_pos k34,ih]
    simp only [List.length_cons,List.length_nil,List.length_append]
    congr 2
    omega
   ·by_cases h92:c.toNat=92
    ·obtain rfl:c=92:=UInt8.toNat_inj.1 h92
     have ih:=Wu t r (acc++ [92]) (n+2) hl
     rw [if_neg h10,if_neg h34,if_pos h92,e]
     simp only [List.cons_append,List.nil_append]
     rw [lexT.eq_def]
     dsimp only
     rw [if_neg (by decide),if_neg (by decide),if_pos k92]
     rw [if_neg (by decide),if_neg (by decide),if_pos k92,ih]
     simp only [List.length_cons,List.length_nil,List.length_append]
     congr 2
     omega
    ·have ih:=Wu t r (acc++ [c]) (n+1) hl
     rw [if_neg h10,if_neg h34,if_neg h92,e]
     simp only [List.cons_append,List.nil_append]
     rw [lexT.eq_def]
     dsimp only
     rw [if_neg h34,if_neg h10,if_neg h92,ih]
     simp only [List.length_cons,List.length_nil,List.length_append]
     congr 2
     omega
set_option maxRecDepth 100000
set_option maxHeartbeats 8000000
def escI (c:UInt8):Int:=if c.toNat=110 then 0 else if c.toNat=34 then 1 else if c.toNat=92 then 2 else -1
theorem lidx_run:(List.range 256).all (fun k=>isV (Ue Tryz.prog (Xw Tryz.prog 60) 95 [Qn [110,34,92],.sc (.int .u8 (k:Int))] ⟨[],0⟩) (.sc (.int .i64 (escI (UInt8.ofNat k)))))=true:=by kernel_rfl
theorem lidx_call (c:UInt8) (H:Heap):Qc Tryz.prog 95 [Qn [110,34,92],bV c] H (fun x K=>x=iV (escI c)∧K=H):=by
 have h:=List.all_eq_true.1 lidx_run c.toNat (List.mem_range.2 c.toNat_lt)
 rw [UInt8.ofNat_toNat] at h
 exact Qc.closedA mixed 60 (by simp [Qj,Zd]) h
def txR (r:Sum (Nat×Nat) (List UInt8×Nat)):VV:=match r with
 | .inl (e,n)=> .tp [.ag [iV 0,Qn [],iV 0,iV 0],iV n,iV e]
 | .inr (l,n)=> .tp [.ag (txV l 0),iV n,iV 0]
theorem Ns {t:List UInt8} {n:Nat} {c:UInt8} (h:t[n]? = some c):t.drop n=c::t.drop (n+1):=by
 obtain ⟨hi,e⟩:=List.getElem?_eq_some_iff.1 h
 rw [List.drop_eq_getElem_cons hi,e]
theorem textA_call (t:List UInt8) (h1:1≤t.length) (ht:t.length≤100000) (H:Heap):Qc Tryz.prog 102 [roB t] H (fun v K=>v=txR (lexT (t.drop 1) [] 1)∧K=H):=by
 generalize hR:lexT (t.drop 1) [] 1=R
 have hnr:Qd (txR R):=by
  cases R with
  | inl e=>exact Qt (by simp [iV,Qb];exact Jz (by simp [iV,Qj,Qb]))
  | inr e=>exact Qt (by simp [iV,Qb];exact Jz (by simp [txV,iV,Qj,Qb]))
 refine Qc.pure (by simp [J4]) hnr ?_
 obtain ⟨tb,hi1,hi2,hi3⟩: ∃ i,(Tryz.prog).info? 216=some i∧i.zero=some (.agg #[.pointer none,.slice none 0 0])∧(Value.agg #[.pointer none,.slice none 0 0]).cells=([.pointer none,.slice none 0 0]:List Value).toArray:=⟨_,rfl,rfl,rfl⟩
 refine Qc.go Tryz.func102 rfl ?_
 repeat' (first|with_reducible refine And.intro ?_ ?_|(with_reducible intro hc;(try simp only [zz] at hc);try exact ct)|((conv=>whnf);first|(with_reducible first|refine And.intro ?_ ?_|intro hx|apply Val.via|apply Qk.via)|exact Is.mk rfl rfl|(refine Qw (Qr.allocR (t:=216) (vs:= [.pointer none,.slice none 0 0]) rfl hi1 hi2 hi3 ?_))|refine sp ?_|refine vx (by (first|exact Qa vagg_u8 (Qu q0) (Q4 rfl rfl)|exact Qa vagg_u8 (Qu q1) (Q4 rfl rfl)|exact Qa rfl rfl rfl|rfl)) ?_|refine dY ?_|fail|refine sq ?_))
 (all_goals try exact om)
 (refine Ju.mk (GWP.loopB [1] (fun (b:Nat×Bool×List UInt8)=>b.1≤t.length∧lexT (t.drop b.1) b.2.2 b.1=R∧b.2.2.length≤b.1∧(b.2.1=false→b.2.2= [])) (fun b=> [(6,iV b.1)]) (fun b=> [(1,sbV b.2.1 1 2 b.2.2),(2,bufX 5 b.2.2)]) 3 (fun b=>t.length - b.1) (1,false,[]) ⟨h1,hR,Nat.zero_le _,fun _=>rfl⟩ ?_);(conv=>whnf);refine And.intro ?_ ?_)
 ·focus (refine ka [] ?_ ?_;all_goals (repeat' (first|exact rz|refine And.intro ?_ ?_|refine Exists.intro _ (And.intro rfl ?_)|refine ro ?_|refine Qe.cons ?_ ?_|(first|exact Wa (.ptrL (by first|exact (by decide:1 < 2)|exact (by decide:1 < 3)|exact (by decide:1 < 4)|exact (by decide:1 < 5))) (List.Mem.head _)|exact Jx.raw|exact We _|exact Qi.ptrL (by first|exact (by decide:1 < 2)|exact (by decide:1 < 3)|exact (by decide:1 < 4)|exact (by decide:1 < 5))|exact U4 (List.Mem.head _)|exact Qi.eq (Q9 (by omega)) (Qb _))|exact rv)))
 rintro ⟨n,u,dn⟩ ⟨g1,g3,g4,g2⟩
 simp only at g1 g2 g3 g4 ⊢
 by_cases hil:n < t.length
 ·obtain ⟨c,q0⟩: ∃ c,t[n]? = some c:=⟨_,List.getElem?_eq_getElem hil⟩
  rw [Ns q0,lexT.eq_def] at g3
  dsimp only at g3
  have hcl:c.toNat < 256:=c.toNat_lt
  by_cases h34:c.toNat=34
  ·rw [if_pos h34] at g3
   by_cases hl:4096 < dn.length
   ·rw [if_pos hl] at g3
    subst g3
    (repeat' (first|with_reducible refine And.intro ?_ ?_|(with_reducible intro hc;(try simp only [zz] at hc);try exact ct)|((conv=>whnf);first|(with_reducible first|refine And.intro ?_ ?_|intro hx|apply Val.via|apply Qk.via)|exact Is.mk rfl rfl|refine sp ?_|refine vx (by (first|exact Qa vagg_u8 (Qu q0) (Q4 rfl rfl)|exact Qa vagg_u8 (Qu q1) (Q4 rfl rfl)|exact Qa rfl rfl rfl|rfl)) ?_|refine dY ?_|(first|refine cl (blenAt g2 rfl) ?_|refine cl (Qc.sbEnd (bstr_call u dn g2 (by omega)) rfl rfl rfl) ?_)|refine sq ?_)))
    (all_goals try exact om)
    all_goals exact Qg.mk rfl
   ·rw [if_neg hl] at g3
    subst g3
    (repeat' (first|with_reducible refine And.intro ?_ ?_|(with_reducible intro hc;(try simp only [zz] at hc);try exact ct)|((conv=>whnf);first|(with_reducible first|refine And.intro ?_ ?_|intro hx|apply Val.via|apply Qk.via)|exact Is.mk rfl rfl|refine sp ?_|refine vx (by (first|exact Qa vagg_u8 (Qu q0) (Q4 rfl rfl)|exact Qa vagg_u8 (Qu q1) (Q4 rfl rfl)|exact Qa rfl rfl rfl|rfl)) ?_|refine dY ?_|(first|refine cl (blenAt g2 rfl) ?_|refine cl (Qc.sbEnd (bstr_call u dn g2 (by omega)) rfl rfl rfl) ?_)|refine sq ?_)))
    (all_goals try exact om)
    all_goals exact Qg.mk rfl
  ·rw [if_neg h34] at g3
   by_cases h10:c.toNat=10
   ·rw [if_pos h10] at g3
    subst g3
    (repeat' (first|with_reducible refine And.intro ?_ ?_|(with_reducible intro hc;(try simp only [zz] at hc);try exact ct)|((conv=>whnf);first|(with_reducible first|refine And.intro ?_ ?_|intro hx|apply Val.via|apply Qk.via)|exact Is.mk rfl rfl|refine sp ?_|refine vx (by (first|exact Qa vagg_u8 (Qu q0) (Q4 rfl rfl)|exact Qa vagg_u8 (Qu q1) (Q4 rfl rfl)|exact Qa rfl rfl rfl|rfl)) ?_|refine dY ?_|fail|refine sq ?_)))
    (all_goals try exact om)
    all_goals exact Qg.mk rfl
   ·rw [if_neg h10] at g3
    by_cases h92:c.toNat=92
    ·rw [if_pos h92] at g3
     by_cases hn1:n+1=t.length
     ·rw [List.drop_of_length_le (by omega)] at g3
      dsimp only at g3
      subst g3
      (repeat' (first|with_reducible refine And.intro ?_ ?_|(with_reducible intro hc;(try simp only [zz] at hc);try exact ct)|((conv=>whnf);first|(with_reducible first|refine And.intro ?_ ?_|intro hx|apply Val.via|apply Qk.via)|exact Is.mk rfl rfl|refine sp ?_|refine vx (by (first|exact Qa vagg_u8 (Qu q0) (Q4 rfl rfl)|exact Qa vagg_u8 (Qu q1) (Q4 rfl rfl)|exact Qa rfl rfl rfl|rfl)) ?_|refine dY ?_|fail|refine sq ?_)))
      (all_goals try exact om)
      all_goals exact Qg.mk rfl
     ·obtain ⟨x,q1⟩: ∃ x,t[n+1]? = some x:=⟨_,List.getElem?_eq_getElem (by omega)⟩
      rw [Ns q1] at g3
      dsimp only at g3
      have hlx:=fun H=>lidx_call x H
      by_cases hx110:x.toNat=110
      ·have e:escI x=0:=by unfold escI;rw [if_pos hx110]
       rw [if_pos hx110] at g3
       rw [e] at hlx
       (repeat' (first|with_reducible refine And.intro ?_ ?_|(with_reducible intro hc;(try simp only [zz] at hc);try exact ct)|((conv=>whnf);first|(with_reducible first|refine And.intro ?_ ?_|intro hx|apply Val.via|apply Qk.via)|exact Is.mk rfl rfl|refine sp ?_|refine vx (by (first|exact Qa vagg_u8 (Qu q0) (Q4 rfl rfl)|exact Qa vagg_u8 (Qu q1) (Q4 rfl rfl)|exact Qa rfl rfl rfl|rfl)) ?_|refine dY ?_|(first|refine cl (hlx _) ?_|refine cl (wbAt (c:=10) g2 (by simp only [List.length_cons,List.length_nil];omega) rfl rfl rfl) ?_)|refine sq ?_)))
       (all_goals try exact om)
       (focus (refine Qg.mk ⟨(n+1+1,true,dn++ [10]),⟨by simp only;omega,by simp only;exact g3,by simp only [List.length_append,List.length_cons,List.length_nil];omega,by simp⟩,?_,ka [(3,2)] ?_ ?_⟩;(first|omega|(simp only;omega));all_goals (repeat' (first|exact rz|refine And.intro ?_ ?_|refine Exists.intro _ (And.intro rfl ?_)|refine ro ?_|refine Qe.cons ?_ ?_|(first|exact Wa (.ptrL (by first|exact (by decide:1 < 2)|exact (by decide:1 < 3)|exact (by decide:1 < 4)|exact (by decide:1 < 5))) (List.Mem.head _)|exact Jx.raw|exact We _|exact Qi.ptrL (by first|exact (by decide:1 < 2)|exact (by decide:1 < 3)|exact (by decide:1 < 4)|exact (by decide:1 < 5))|exact U4 (List.Mem.head _)|exact Qi.eq (Q9 (by omega)) (Qb _))|exact rv))))
      ·by_cases hx34:x.toNat=34
       ·have e:escI x=1:=by unfold escI;rw [if_neg hx110,if_pos hx34]
        rw [if_neg hx110,if_pos hx34] at g3
        rw [e] at hlx
        (repeat' (first|with_reducible refine And.intro ?_ ?_|(with_reducible intro hc;(try simp only [zz] at hc);try exact ct)|((conv=>whnf);first|(with_reducible first|refine And.intro ?_ ?_|intro hx|apply Val.via|apply Qk.via)|exact Is.mk rfl rfl|refine sp ?_|refine vx (by (first|exact Qa vagg_u8 (Qu q0) (Q4 rfl rfl)|exact Qa vagg_u8 (Qu q1) (Q4 rfl rfl)|exact Qa rfl rfl rfl|rfl)) ?_|refine dY ?_|(first|refine cl (hlx _) ?_|refine cl (wbAt (c:=34) g2 (by simp only [List.length_cons,List.length_nil];omega) rfl rfl rfl) ?_)|refine sq ?_)))
        (all_goals try exact om)
        (focus (refine Qg.mk ⟨(n+1+1,true,dn++ [34]),⟨by simp only;omega,by simp only;exact g3,by simp only [List.length_append,List.length_cons,List.length_nil];omega,by simp⟩,?_,ka [(3,2)] ?_ ?_⟩;(first|omega|(simp only;omega));all_goals (repeat' (first|exact rz|refine And.intro ?_ ?_|refine Exists.intro _ (And.intro rfl ?_)|refine ro ?_|refine Qe.cons ?_ ?_|(first|exact Wa (.ptrL (by first|exact (by decide:1 < 2)|exact (by decide:1 < 3)|exact (by decide:1 < 4)|exact (by decide:1 < 5))) (List.Mem.head _)|exact Jx.raw|exact We _|exact Qi.ptrL (by first|exact (by decide:1 < 2)|exact (by decide:1 < 3)|exact (by decide:1 < 4)|exact (by decide:1 < 5))|exact U4 (List.Mem.head _)|exact Qi.eq (Q9 (by omega)) (Qb _))|exact rv))))
       ·by_cases hx92:x.toNat=92
        ·have e:escI x=2:=by unfold escI;rw [if_neg hx110,if_neg hx34,if_pos hx92]
         rw [if_neg hx110,if_neg hx34,if_pos hx92] at g3
         rw [e] at hlx
         (repeat' (first|with_reducible refine And.intro ?_ ?_|(with_reducible intro hc;(try simp only [zz] at hc);try exact ct)|((conv=>whnf);first|(with_reducible first|refine And.intro ?_ ?_|intro hx|apply Val.via|apply Qk.via)|exact Is.mk rfl rfl|refine sp ?_|refine vx (by (first|exact Qa vagg_u8 (Qu q0) (Q4 rfl rfl)|exact Qa vagg_u8 (Qu q1) (Q4 rfl rfl)|exact Qa rfl rfl rfl|rfl)) ?_|refine dY ?_|(first|refine cl (hlx _) ?_|refine cl (wbAt (c:=92) g2 (by simp only [List.length_cons,List.length_nil];omega) rfl rfl rfl) ?_)|refine sq ?_)))
         (all_goals try exact om)
         (focus (refine Qg.mk ⟨(n+1+1,true,dn++ [92]),⟨by simp only;omega,by simp only;exact g3,by simp only [List.length_append,List.length_cons,List.length_nil];omega,by simp⟩,?_,ka [(3,2)] ?_ ?_⟩;(first|omega|(simp only;omega));all_goals (repeat' (first|exact rz|refine And.intro ?_ ?_|refine Exists.intro _ (And.intro rfl ?_)|refine ro ?_|refine Qe.cons ?_ ?_|(first|exact Wa (.ptrL (by first|exact (by decide:1 < 2)|exact (by decide:1 < 3)|exact (by decide:1 < 4)|exact (by decide:1 < 5))) (List.Mem.head _)|exact Jx.raw|exact We _|exact Qi.ptrL (by first|exact (by decide:1 < 2)|exact (by decide:1 < 3)|exact (by decide:1 < 4)|exact (by decide:1 < 5))|exact U4 (List.Mem.head _)|exact Qi.eq (Q9 (by omega)) (Qb _))|exact rv))))
        ·have e:escI x= -1:=by unfold escI;rw [if_neg hx110,if_neg hx34,if_neg hx92]
         rw [if_neg hx110,if_neg hx34,if_neg hx92] at g3
         subst g3
         rw [e] at hlx
         (repeat' (first|with_reducible refine And.intro ?_ ?_|(with_reducible intro hc;(try simp only [zz] at hc);try exact ct)|((conv=>whnf);first|(with_reducible first|refine And.intro ?_ ?_|intro hx|apply Val.via|apply Qk.via)|exact Is.mk rfl rfl|refine sp ?_|refine vx (by (first|exact Qa vagg_u8 (Qu q0) (Q4 rfl rfl)|exact Qa vagg_u8 (Qu q1) (Q4 rfl rfl)|exact Qa rfl rfl rfl|rfl)) ?_|refine dY ?_|refine cl (hlx _) ?_|refine sq ?_)))
         (all_goals try exact om)
         all_goals exact Qg.mk rfl
    ·rw [if_neg h92] at g3
     (repeat' (first|with_reducible refine And.intro ?_ ?_|(with_reducible intro hc;(try simp only [zz] at hc);try exact ct)|((conv=>whnf);first|(with_reducible first|refine And.intro ?_ ?_|intro hx|apply Val.via|apply Qk.via)|exact Is.mk rfl rfl|refine sp ?_|refine vx (by (first|exact Qa vagg_u8 (Qu q0) (Q4 rfl rfl)|exact Qa vagg_u8 (Qu q1) (Q4 rfl rfl)|exact Qa rfl rfl rfl|rfl)) ?_|refine dY ?_|(first|refine cl (wbAt (c:=c) g2 (by simp only [List.length_cons,List.length_nil];omega) rfl rfl rfl) ?_)|refine sq ?_)))
     (all_goals try exact om)
     (focus (refine Qg.mk ⟨(n+1,true,dn++ [c]),⟨by simp only;omega,by simp only;exact g3,by simp only [List.length_append,List.length_cons,List.length_nil];omega,by simp⟩,?_,ka [(3,2)] ?_ ?_⟩;(first|omega|(simp only;omega));all_goals (repeat' (first|exact rz|refine And.intro ?_ ?_|refine Exists.intro _ (And.intro rfl ?_)|refine ro ?_|refine Qe.cons ?_ ?_|(first|exact Wa (.ptrL (by first|exact (by decide:1 < 2)|exact (by decide:1 < 3)|exact (by decide:1 < 4)|exact (by decide:1 < 5))) (List.Mem.head _)|exact Jx.raw|exact We _|exact Qi.ptrL (by first|exact (by decide:1 < 2)|exact (by decide:1 < 3)|exact (by decide:1 < 4)|exact (by decide:1 < 5))|exact U4 (List.Mem.head _)|exact Qi.eq (Q9 (by omega)) (Qb _))|exact rv))))
 ·obtain rfl:n=t.length:=by omega
  rw [List.drop_length,lexT.eq_def] at g3
  dsimp only at g3
  subst g3
  (repeat' (first|with_reducible refine And.intro ?_ ?_|(with_reducible intro hc;(try simp only [zz] at hc);try exact ct)|((conv=>whnf);first|(with_reducible first|refine And.intro ?_ ?_|intro hx|apply Val.via|apply Qk.via)|exact Is.mk rfl rfl|refine sp ?_|refine vx (by (first|exact Qa vagg_u8 (Qu q0) (Q4 rfl rfl)|exact Qa vagg_u8 (Qu q1) (Q4 rfl rfl)|exact Qa rfl rfl rfl|rfl)) ?_|refine dY ?_|fail|refine sq ?_)))
  (all_goals try exact om)
  all_goals exact Qg.mk rfl
set_option maxHeartbeats 4000000
theorem letter_call (b:UInt8) (H:Heap):Qc Tryz.prog 98 [bV b] H (fun x K=>x=Xk (D7 b)∧K=H):=Qc.bytes mixed 60 D7 (by kernel_rfl) b H
theorem De (b:UInt8) (H:Heap):Qc Tryz.prog 100 [bV b] H (fun x K=>x=Xk (Xt b)∧K=H):=Qc.bytes mixed 60 Xt (by kernel_rfl) b H
def blkI (c:UInt8):Int:=if c.toNat=32 then 0 else if c.toNat=9 then 1 else if c.toNat=13 then 2 else if c.toNat=10 then 3 else -1
theorem bidx_run:(List.range 256).all (fun k=>isV (Ue Tryz.prog (Xw Tryz.prog 60) 95 [Qn [32,9,13,10],.sc (.int .u8 (k:Int))] ⟨[],0⟩) (.sc (.int .i64 (blkI (UInt8.ofNat k)))))=true:=by kernel_rfl
theorem bidx_call (c:UInt8) (H:Heap):Qc Tryz.prog 95 [Qn [32,9,13,10],bV c] H (fun x K=>x=iV (blkI c)∧K=H):=by
 have h:=List.all_eq_true.1 bidx_run c.toNat (List.mem_range.2 c.toNat_lt)
 rw [UInt8.ofNat_toNat] at h
 exact Qc.closedA mixed 60 (by simp [Qj,Zd]) h
theorem W8 (p:UInt8→Bool): ∀ t,Jc p t≤t.length
 | []=>Nat.le_refl _
 | c::r=>by
  have:=W8 p r
  unfold Jc
  split <;> simp <;> omega
theorem rundig_call (t:List UInt8) (ht:t.length≤100000):Qc Tryz.prog 96 [roB t,.fn (.func 100) [] []] ⟨[],0⟩ (fun v _=>v=iV (Jc Xt t)):=by
 refine Qc.go Tryz.func96 rfl ?_
 (repeat' (first|with_reducible refine And.intro ?_ ?_|(with_reducible intro hc;(try simp only [zz] at hc);try exact ct)|((conv=>whnf);first|(with_reducible first|refine And.intro ?_ ?_|intro hx|apply Val.via|apply Qk.via)|exact Is.mk rfl rfl|refine sp ?_|refine vx (by (first|exact Qa vagg_u8 (Qu hb) ((Nat.zero_add _).trans (Q4 rfl rfl))|exact Qa vagg_u8 (Qu hb) (Q4 rfl rfl)|exact Qa rfl rfl rfl|rfl)) ?_|refine dY ?_|(refine Xc.mk (Qc.inl Tryz.func137 rfl ?_))|refine sq ?_)))
 (all_goals try exact om)
 (refine Ju.mk (GWP.loopB [] (fun (i:Nat)=>i≤t.length∧Jc Xt t=i+Jc Xt (t.drop i)) (fun i=> [(8,iV i)]) (fun _=> []) 1 (fun i=>t.length - i) 0 ⟨Nat.zero_le _,by simp⟩ ?_);(conv=>whnf);refine And.intro ?_ ?_)
 ·focus (refine ka [] ?_ ?_;all_goals (repeat' (first|exact rz|refine And.intro ?_ ?_|refine Exists.intro _ (And.intro rfl ?_)|refine ro ?_|refine Qe.cons ?_ ?_|fail|exact rv)))
 rintro i ⟨g1,g2⟩
 simp only at g1 g2 ⊢
 by_cases hil:i < t.length
 ·obtain ⟨c,hb⟩: ∃ c,t[i]? = some c:=⟨_,List.getElem?_eq_getElem hil⟩
  rw [Ns hb,Jc] at g2
  cases hp:Xt c with
  | true =>
   rw [if_pos hp] at g2
   have hd:=fun H=>De c H
   rw [hp] at hd
   (repeat' (first|with_reducible refine And.intro ?_ ?_|(with_reducible intro hc;(try simp only [zz] at hc);try exact ct)|((conv=>whnf);first|(with_reducible first|refine And.intro ?_ ?_|intro hx|apply Val.via|apply Qk.via)|exact Is.mk rfl rfl|refine sp ?_|refine vx (by (first|exact Qa vagg_u8 (Qu hb) ((Nat.zero_add _).trans (Q4 rfl rfl))|exact Qa vagg_u8 (Qu hb) (Q4 rfl rfl)|exact Qa rfl rfl rfl|rfl)) ?_|refine dY ?_|(first|refine cl (hd _) ?_|(refine Xc.mk (Qc.inl Tryz.func138 rfl ?_)))|refine sq ?_)))
   (all_goals try exact om)
   focus (refine Qg.mk ⟨i+1,⟨by omega,by rw [g2];omega⟩,?_,ka [] ?_ ?_⟩;(first|omega|(simp only;omega));all_goals (repeat' (first|exact rz|refine And.intro ?_ ?_|refine Exists.intro _ (And.intro rfl ?_)|refine ro ?_|refine Qe.cons ?_ ?_|exact Qi.eq (Q9 (by omega)) (Qb _)|exact rv)))
  | false =>
   rw [if_neg (by simp [hp])] at g2
   have hd:=fun H=>De c H
   rw [hp] at hd
   (repeat' (first|with_reducible refine And.intro ?_ ?_|(with_reducible intro hc;(try simp only [zz] at hc);try exact ct)|((conv=>whnf);first|(with_reducible first|refine And.intro ?_ ?_|intro hx|apply Val.via|apply Qk.via)|exact Is.mk rfl rfl|refine sp ?_|refine vx (by (first|exact Qa vagg_u8 (Qu hb) ((Nat.zero_add _).trans (Q4 rfl rfl))|exact Qa vagg_u8 (Qu hb) (Q4 rfl rfl)|exact Qa rfl rfl rfl|rfl)) ?_|refine dY ?_|(first|refine cl (hd _) ?_|(refine Xc.mk (Qc.inl Tryz.func138 rfl ?_)))|refine sq ?_)))
   (all_goals try exact om)
   have e:Jc Xt t=i:=by omega
   rw [e]
   all_goals exact Qg.mk rfl
 ·obtain rfl:i=t.length:=by omega
  have e:Jc Xt t=t.length:=by rw [List.drop_length,Jc] at g2;omega
  rw [e]
  (repeat' (first|with_reducible refine And.intro ?_ ?_|(with_reducible intro hc;(try simp only [zz] at hc);try exact ct)|((conv=>whnf);first|(with_reducible first|refine And.intro ?_ ?_|intro hx|apply Val.via|apply Qk.via)|exact Is.mk rfl rfl|refine sp ?_|refine vx (by (first|exact Qa vagg_u8 (Qu hb) ((Nat.zero_add _).trans (Q4 rfl rfl))|exact Qa vagg_u8 (Qu hb) (Q4 rfl rfl)|exact Qa rfl rfl rfl|rfl)) ?_|refine dY ?_|fail|refine sq ?_)))
  (all_goals try exact om)
  all_goals exact Qg.mk rfl
theorem Nm (f:Fn):Qd (.fn f [] []):=fun w Z ρ ρ' y hr=>by
 cases hr with
 | fn h1 r1 h2 r2=>exact .fn h1 (fun i u c hu=>by simp at hu) h2 (fun i u c hu=>by simp at hu)
theorem rundigH_call (t:List UInt8) (ht:t.length≤100000) (H:Heap):Qc Tryz.prog 96 [roB t,.fn (.func 100) [] []] H (fun v K=>v=iV (Jc Xt t)∧K=H) :=
 Qc.pure (by intro v hv;simp only [List.mem_cons,List.not_mem_nil,or_false] at hv;rcases hv with rfl|rfl;exact J4 _;exact Nm _) (Qb _) (rundig_call t ht)
def nlB (c:UInt8):Bool:= !(c.toNat==10)
def nmB (c:UInt8):Bool:=D7 c || Xt c
theorem empC_call (b:UInt8) (H:Heap):Qc Tryz.prog 97 [bV b] H (fun x K=>x=Xk (nlB b)∧K=H):=Qc.bytes mixed 60 nlB (by kernel_rfl) b H
theorem namC_call (b:UInt8) (H:Heap):Qc Tryz.prog 139 [bV b] H (fun x K=>x=Xk (nmB b)∧K=H):=Qc.bytes mixed 60 nmB (by kernel_rfl) b H
theorem runnl_call (t:List UInt8) (ht:t.length≤100000):Qc Tryz.prog 96 [roB t,.fn (.func 97) [] []] ⟨[],0⟩ (fun v _=>v=iV (Jc nlB t)):=by
 refine Qc.go Tryz.func96 rfl ?_
 (repeat' (first|with_reducible refine And.intro ?_ ?_|(with_reducible intro hc;(try simp only [zz] at hc);try exact ct)|((conv=>whnf);first|(with_reducible first|refine And.intro ?_ ?_|intro hx|apply Val.via|apply Qk.via)|exact Is.mk rfl rfl|refine sp ?_|refine vx (by (first|exact Qa vagg_u8 (Qu hb) ((Nat.zero_add _).trans (Q4 rfl rfl))|exact Qa vagg_u8 (Qu hb) (Q4 rfl rfl)|exact Qa rfl rfl rfl|rfl)) ?_|refine dY ?_|(refine Xc.mk (Qc.inl Tryz.func137 rfl ?_))|refine sq ?_)))
 (all_goals try exact om)
 (refine Ju.mk (GWP.loopB [] (fun (i:Nat)=>i≤t.length∧Jc nlB t=i+Jc nlB (t.drop i)) (fun i=> [(8,iV i)]) (fun _=> []) 1 (fun i=>t.length - i) 0 ⟨Nat.zero_le _,by simp⟩ ?_);(conv=>whnf);refine And.intro ?_ ?_)
 ·focus (refine ka [] ?_ ?_;all_goals (repeat' (first|exact rz|refine And.intro ?_ ?_|refine Exists.intro _ (And.intro rfl ?_)|refine ro ?_|refine Qe.cons ?_ ?_|fail|exact rv)))
 rintro i ⟨g1,g2⟩
 simp only at g1 g2 ⊢
 by_cases hil:i < t.length
 ·obtain ⟨c,hb⟩: ∃ c,t[i]? = some c:=⟨_,List.getElem?_eq_getElem hil⟩
  rw [Ns hb,Jc] at g2
  cases hp:nlB c with
  | true =>
   rw [if_pos hp] at g2
   have hd:=fun H=>empC_call c H
   rw [hp] at hd
   (repeat' (first|with_reducible refine And.intro ?_ ?_|(with_reducible intro hc;(try simp only [zz] at hc);try exact ct)|((conv=>whnf);first|(with_reducible first|refine And.intro ?_ ?_|intro hx|apply Val.via|apply Qk.via)|exact Is.mk rfl rfl|refine sp ?_|refine vx (by (first|exact Qa vagg_u8 (Qu hb) ((Nat.zero_add _).trans (Q4 rfl rfl))|exact Qa vagg_u8 (Qu hb) (Q4 rfl rfl)|exact Qa rfl rfl rfl|rfl)) ?_|refine dY ?_|(first|refine cl (hd _) ?_|(refine Xc.mk (Qc.inl Tryz.func138 rfl ?_)))|refine sq ?_)))
   (all_goals try exact om)
   focus (refine Qg.mk ⟨i+1,⟨by omega,by rw [g2];omega⟩,?_,ka [] ?_ ?_⟩;(first|omega|(simp only;omega));all_goals (repeat' (first|exact rz|refine And.intro ?_ ?_|refine Exists.intro _ (And.intro rfl ?_)|refine ro ?_|refine Qe.cons ?_ ?_|exact Qi.eq (Q9 (by omega)) (Qb _)|exact rv)))
  | false =>
   rw [if_neg (by simp [hp])] at g2
   have hd:=fun H=>empC_call c H
   rw [hp] at hd
   (repeat' (first|with_reducible refine And.intro ?_ ?_|(with_reducible intro hc;(try simp only [zz] at hc);try exact ct)|((conv=>whnf);first|(with_reducible first|refine And.intro ?_ ?_|intro hx|apply Val.via|apply Qk.via)|exact Is.mk rfl rfl|refine sp ?_|refine vx (by (first|exact Qa vagg_u8 (Qu hb) ((Nat.zero_add _).trans (Q4 rfl rfl))|exact Qa vagg_u8 (Qu hb) (Q4 rfl rfl)|exact Qa rfl rfl rfl|rfl)) ?_|refine dY ?_|(first|refine cl (hd _) ?_|(refine Xc.mk (Qc.inl Tryz.func138 rfl ?_)))|refine sq ?_)))
   (all_goals try exact om)
   have e:Jc nlB t=i:=by omega
   rw [e]
   all_goals exact Qg.mk rfl
 ·obtain rfl:i=t.length:=by omega
  have e:Jc nlB t=t.length:=by rw [List.drop_length,Jc] at g2;omega
  rw [e]
  (repeat' (first|with_reducible refine And.intro ?_ ?_|(with_reducible intro hc;(try simp only [zz] at hc);try exact ct)|((conv=>whnf);first|(with_reducible first|refine And.intro ?_ ?_|intro hx|apply Val.via|apply Qk.via)|exact Is.mk rfl rfl|refine sp ?_|refine vx (by (first|exact Qa vagg_u8 (Qu hb) ((Nat.zero_add _).trans (Q4 rfl rfl))|exact Qa vagg_u8 (Qu hb) (Q4 rfl rfl)|exact Qa rfl rfl rfl|rfl)) ?_|refine dY ?_|fail|refine sq ?_)))
  (all_goals try exact om)
  all_goals exact Qg.mk rfl
theorem runnlH_call (t:List UInt8) (ht:t.length≤100000) (H:Heap):Qc Tryz.prog 96 [roB t,.fn (.func 97) [] []] H (fun v K=>v=iV (Jc nlB t)∧K=H) :=
 Qc.pure (by intro v hv;simp only [List.mem_cons,List.not_mem_nil,or_false] at hv;rcases hv with rfl|rfl;exact J4 _;exact Nm _) (Qb _) (runnl_call t ht)
theorem runnm_call (t:List UInt8) (ht:t.length≤100000):Qc Tryz.prog 96 [roB t,.fn (.func 139) [] []] ⟨[],0⟩ (fun v _=>v=iV (Jc nmB t)):=by
 refine Qc.go Tryz.func96 rfl ?_
 (repeat' (first|with_reducible refine And.intro ?_ ?_|(with_reducible intro hc;(try simp only [zz] at hc);try exact ct)|((conv=>whnf);first|(with_reducible first|refine And.intro ?_ ?_|intro hx|apply Val.via|apply Qk.via)|exact Is.mk rfl rfl|refine sp ?_|refine vx (by (first|exact Qa vagg_u8 (Qu hb) ((Nat.zero_add _).trans (Q4 rfl rfl))|exact Qa vagg_u8 (Qu hb) (Q4 rfl rfl)|exact Qa rfl rfl rfl|rfl)) ?_|refine dY ?_|(refine Xc.mk (Qc.inl Tryz.func137 rfl ?_))|refine sq ?_)))
 (all_goals try exact om)
 (refine Ju.mk (GWP.loopB [] (fun (i:Nat)=>i≤t.length∧Jc nmB t=i+Jc nmB (t.drop i)) (fun i=> [(8,iV i)]) (fun _=> []) 1 (fun i=>t.length - i) 0 ⟨Nat.zero_le _,by simp⟩ ?_);(conv=>whnf);refine And.intro ?_ ?_)
 ·focus (refine ka [] ?_ ?_;all_goals (repeat' (first|exact rz|refine And.intro ?_ ?_|refine Exists.intro _ (And.intro rfl ?_)|refine ro ?_|refine Qe.cons ?_ ?_|fail|exact rv)))
 rintro i ⟨g1,g2⟩
 simp only at g1 g2 ⊢
 by_cases hil:i < t.length
 ·obtain ⟨c,hb⟩: ∃ c,t[i]? = some c:=⟨_,List.getElem?_eq_getElem hil⟩
  rw [Ns hb,Jc] at g2
  cases hp:nmB c with
  | true =>
   rw [if_pos hp] at g2
   have hd:=fun H=>namC_call c H
   rw [hp] at hd
   (repeat' (first|with_reducible refine And.intro ?_ ?_|(with_reducible intro hc;(try simp only [zz] at hc);try exact ct)|((conv=>whnf);first|(with_reducible first|refine And.intro ?_ ?_|intro hx|apply Val.via|apply Qk.via)|exact Is.mk rfl rfl|refine sp ?_|refine vx (by (first|exact Qa vagg_u8 (Qu hb) ((Nat.zero_add _).trans (Q4 rfl rfl))|exact Qa vagg_u8 (Qu hb) (Q4 rfl rfl)|exact Qa rfl rfl rfl|rfl)) ?_|refine dY ?_|(first|refine cl (hd _) ?_|(refine Xc.mk (Qc.inl Tryz.func138 rfl ?_)))|refine sq ?_)))
   (all_goals try exact om)
   focus (refine Qg.mk ⟨i+1,⟨by omega,by rw [g2];omega⟩,?_,ka [] ?_ ?_⟩;(first|omega|(simp only;omega));all_goals (repeat' (first|exact rz|refine And.intro ?_ ?_|refine Exists.intro _ (And.intro rfl ?_)|refine ro ?_|refine Qe.cons ?_ ?_|exact Qi.eq (Q9 (by omega)) (Qb _)|exact rv)))
  | false =>
   rw [if_neg (by simp [hp])] at g2
   have hd:=fun H=>namC_call c H
   rw [hp] at hd
   (repeat' (first|with_reducible refine And.intro ?_ ?_|(with_reducible intro hc;(try simp only [zz] at hc);try exact ct)|((conv=>whnf);first|(with_reducible first|refine And.intro ?_ ?_|intro hx|apply Val.via|apply Qk.via)|exact Is.mk rfl rfl|refine sp ?_|refine vx (by (first|exact Qa vagg_u8 (Qu hb) ((Nat.zero_add _).trans (Q4 rfl rfl))|exact Qa vagg_u8 (Qu hb) (Q4 rfl rfl)|exact Qa rfl rfl rfl|rfl)) ?_|refine dY ?_|(first|refine cl (hd _) ?_|(refine Xc.mk (Qc.inl Tryz.func138 rfl ?_)))|refine sq ?_)))
   (all_goals try exact om)
   have e:Jc nmB t=i:=by omega
   rw [e]
   all_goals exact Qg.mk rfl
 ·obtain rfl:i=t.length:=by omega
  have e:Jc nmB t=t.length:=by rw [List.drop_length,Jc] at g2;omega
  rw [e]
  (repeat' (first|with_reducible refine And.intro ?_ ?_|(with_reducible intro hc;(try simp only [zz] at hc);try exact ct)|((conv=>whnf);first|(with_reducible first|refine And.intro ?_ ?_|intro hx|apply Val.via|apply Qk.via)|exact Is.mk rfl rfl|refine sp ?_|refine vx (by (first|exact Qa vagg_u8 (Qu hb) ((Nat.zero_add _).trans (Q4 rfl rfl))|exact Qa vagg_u8 (Qu hb) (Q4 rfl rfl)|exact Qa rfl rfl rfl|rfl)) ?_|refine dY ?_|fail|refine sq ?_)))
  (all_goals try exact om)
  all_goals exact Qg.mk rfl
theorem runnmH_call (t:List UInt8) (ht:t.length≤100000) (H:Heap):Qc Tryz.prog 96 [roB t,.fn (.func 139) [] []] H (fun v K=>v=iV (Jc nmB t)∧K=H) :=
 Qc.pure (by intro v hv;simp only [List.mem_cons,List.not_mem_nil,or_false] at hv;rcases hv with rfl|rfl;exact J4 _;exact Nm _) (Qb _) (runnm_call t ht)
end Go.Proofs.YtpbiblhkcomekaaGreat
