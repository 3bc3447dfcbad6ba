import Derived.Test.YtpbiblhkcomekaaGreatBE5
import Derived.Test.YtpbiblhkcomekaaGreatBG3
/- cut.Number, at any text. -/
namespace Go.Proofs.YtpbiblhkcomekaaGreat
open Go Go.RowKit
set_option linter.unusedSimpArgs false
set_option linter.unusedVariables false
set_option maxRecDepth 100000
set_option maxHeartbeats 4000000
def Nz (most:Int):List UInt8→Int→Option Int
 | [],n=>some n
 | b::r,n=>if (48≤b.toNat∧b.toNat≤57)∧n*10+((b.toNat:Int) - 48)≤most then Nz most r (n*10+((b.toNat:Int) - 48)) else none
def num (l:List UInt8) (most:Int):Option Int:=if l= []∨(1 < l.length∧l[0]? = some 48) then none else Nz most l 0
def numV (x:Option Int):VV:= .tp [iV (x.getD 0),Xk x.isSome]
theorem numGo_at {most:Int} {l:List UInt8} {i:Nat} {b:UInt8} (hb:l[i]? = some b) (n:Int):Nz most (l.drop i) n=if (48≤b.toNat∧b.toNat≤57)∧n*10+((b.toNat:Int) - 48)≤most then Nz most (l.drop (i+1)) (n*10+((b.toNat:Int) - 48)) else none:=by
 rw [Ns hb]
 rfl
theorem num_call (l:List UInt8) (hl:l.length≤100000) (H:Heap):Qc Tryz.prog 142 [roB l,iV 2147483648] H (fun x K=>x=numV (num l 2147483648)∧K=H):=by
 generalize hR:num l 2147483648=R
 refine Qc.pure (by intro v hv;simp only [List.mem_cons,List.not_mem_nil,or_false] at hv;rcases hv with rfl|rfl;exact J4 _;exact Qb _) (Qt (by simp [iV,Xk,Qb])) ?_
 by_cases h0:l.length=0
 ·have hR:R=none:=by rw [← hR];unfold num;rw [if_pos (.inl (List.eq_nil_of_length_eq_zero h0))]
  subst hR
  refine Qc.go Tryz.func142 rfl ?_
  (repeat' (first|with_reducible refine And.intro ?_ ?_|(with_reducible intro hc;(try simp only [zz] at hc);try exact ct)|((conv=>whnf);first|(with_reducible first|refine And.intro ?_ ?_|intro hx|apply Val.via|apply Qk.via)|exact Is.mk rfl rfl|refine sp ?_|refine vx (by rfl) ?_|refine dY ?_|fail|refine sq ?_)))
  (all_goals try exact om)
  all_goals exact Qg.mk rfl
 obtain ⟨c,hb0⟩: ∃ c,l[0]? = some c:=⟨_,List.getElem?_eq_getElem (by omega)⟩
 have hcl:c.toNat < 256:=c.toNat_lt
 by_cases h1:1 < l.length∧c.toNat=48
 ·obtain ⟨h1,h2⟩:=h1
  obtain rfl:c=48:=UInt8.toNat_inj.1 h2
  have hR:R=none:=by rw [← hR];unfold num;rw [if_pos (.inr ⟨h1,hb0⟩)]
  subst hR
  refine Qc.go Tryz.func142 rfl ?_
  (repeat' (first|with_reducible refine And.intro ?_ ?_|(with_reducible intro hc;(try simp only [zz] at hc);try exact ct)|((conv=>whnf);first|(with_reducible first|refine And.intro ?_ ?_|intro hx|apply Val.via|apply Qk.via)|exact Is.mk rfl rfl|refine sp ?_|refine vx (by (first|exact Qa vagg_u8 (Qu hb) ((Nat.zero_add _).trans (Q4 rfl rfl))|exact Qa vagg_u8 (Qu hb) (Q4 rfl rfl)|exact Qa vagg_u8 (Qu hb0) (Q4 rfl rfl)|exact Qa rfl rfl rfl|rfl)) ?_|refine dY ?_|fail|refine sq ?_)))
  (all_goals try exact om)
  all_goals exact Qg.mk rfl
 have hR:Nz 2147483648 l 0=R:=by
  rw [← hR]
  unfold num
  rw [if_neg]
  rintro (e|⟨e1,e2⟩)
  ·rw [e] at h0;exact h0 rfl
  ·rw [hb0] at e2
   injection e2 with e2
   subst e2
   exact h1 ⟨e1,rfl⟩
 refine Qc.go Tryz.func142 rfl ?_
 by_cases hl1:1 < l.length
 ·have h48: ¬ c.toNat=48:=fun e=>h1 ⟨hl1,e⟩
  (repeat' (first|with_reducible refine And.intro ?_ ?_|(with_reducible intro hc;(try simp only [zz] at hc);try exact ct)|((conv=>whnf);first|(with_reducible first|refine And.intro ?_ ?_|intro hx|apply Val.via|apply Qk.via)|exact Is.mk rfl rfl|refine sp ?_|refine vx (by (first|exact Qa vagg_u8 (Qu hb) ((Nat.zero_add _).trans (Q4 rfl rfl))|exact Qa vagg_u8 (Qu hb) (Q4 rfl rfl)|exact Qa vagg_u8 (Qu hb0) (Q4 rfl rfl)|exact Qa rfl rfl rfl|rfl)) ?_|refine dY ?_|fail|refine sq ?_)))
  (all_goals try exact om)
  (refine Ju.mk (GWP.loopB [] (fun (a:Nat×Int)=>a.1≤l.length∧0≤a.2∧a.2≤2147483648∧Nz 2147483648 (l.drop a.1) a.2=R) (fun a=> [(6,iV a.2),(25,iV a.1)]) (fun _=> []) 0 (fun a=>l.length - a.1) (0,0) ⟨Nat.zero_le _,by decide,by decide,hR⟩ ?_);(conv=>whnf);refine And.intro ?_ ?_)
  ·focus (refine ka [] ?_ ?_;all_goals (repeat' (first|exact rz|refine And.intro ?_ ?_|refine Exists.intro _ (And.intro rfl ?_)|refine ro ?_|refine Qe.cons ?_ ?_|fail|exact rv)))
  rintro ⟨i,n⟩ ⟨g1,g2,g3,g4⟩
  simp only at g1 g2 g3 g4 ⊢
  by_cases hil:i < l.length
  ·obtain ⟨b,hb⟩: ∃ b,l[i]? = some b:=⟨_,List.getElem?_eq_getElem hil⟩
   have hbl:b.toNat < 256:=b.toNat_lt
   rw [numGo_at hb] at g4
   by_cases hk:(48≤b.toNat∧b.toNat≤57)∧n*10+((b.toNat:Int) - 48)≤2147483648
   ·rw [if_pos hk] at g4
    obtain ⟨⟨k1,k2⟩,k3⟩:=hk
    (repeat' (first|with_reducible refine And.intro ?_ ?_|(with_reducible intro hc;(try simp only [zz] at hc);try exact ct)|((conv=>whnf);first|(with_reducible first|refine And.intro ?_ ?_|intro hx|apply Val.via|apply Qk.via)|exact Is.mk rfl rfl|refine sp ?_|refine vx (by (first|exact Qa vagg_u8 (Qu hb) ((Nat.zero_add _).trans (Q4 rfl rfl))|exact Qa vagg_u8 (Qu hb) (Q4 rfl rfl)|exact Qa vagg_u8 (Qu hb0) (Q4 rfl rfl)|exact Qa rfl rfl rfl|rfl)) ?_|refine dY ?_|fail|refine sq ?_)))
    (all_goals try exact om)
    focus (refine Qg.mk ⟨(i+1,n*10+((b.toNat:Int) - 48)),⟨by simp only;omega,by simp only;omega,by simp only;omega,g4⟩,?_,ka [] ?_ ?_⟩;(first|omega|(simp only;omega));all_goals (repeat' (first|exact rz|refine And.intro ?_ ?_|refine Exists.intro _ (And.intro rfl ?_)|refine ro ?_|refine Qe.cons ?_ ?_|exact Qi.eq (Q9 (by simp only;omega)) (Qb _)|exact rv)))
   ·rw [if_neg hk] at g4
    subst g4
    (repeat' (first|with_reducible refine And.intro ?_ ?_|(with_reducible intro hc;(try simp only [zz] at hc);try exact ct)|((conv=>whnf);first|(with_reducible first|refine And.intro ?_ ?_|intro hx|apply Val.via|apply Qk.via)|exact Is.mk rfl rfl|refine sp ?_|refine vx (by (first|exact Qa vagg_u8 (Qu hb) ((Nat.zero_add _).trans (Q4 rfl rfl))|exact Qa vagg_u8 (Qu hb) (Q4 rfl rfl)|exact Qa vagg_u8 (Qu hb0) (Q4 rfl rfl)|exact Qa rfl rfl rfl|rfl)) ?_|refine dY ?_|fail|refine sq ?_)))
    (all_goals try exact om)
    all_goals exact Qg.mk rfl
  ·obtain rfl:i=l.length:=by omega
   rw [List.drop_length] at g4
   have g4:some n=R:=g4
   subst g4
   (repeat' (first|with_reducible refine And.intro ?_ ?_|(with_reducible intro hc;(try simp only [zz] at hc);try exact ct)|((conv=>whnf);first|(with_reducible first|refine And.intro ?_ ?_|intro hx|apply Val.via|apply Qk.via)|exact Is.mk rfl rfl|refine sp ?_|refine vx (by (first|exact Qa vagg_u8 (Qu hb) ((Nat.zero_add _).trans (Q4 rfl rfl))|exact Qa vagg_u8 (Qu hb) (Q4 rfl rfl)|exact Qa vagg_u8 (Qu hb0) (Q4 rfl rfl)|exact Qa rfl rfl rfl|rfl)) ?_|refine dY ?_|fail|refine sq ?_)))
   (all_goals try exact om)
   all_goals exact Qg.mk rfl
 ·(repeat' (first|with_reducible refine And.intro ?_ ?_|(with_reducible intro hc;(try simp only [zz] at hc);try exact ct)|((conv=>whnf);first|(with_reducible first|refine And.intro ?_ ?_|intro hx|apply Val.via|apply Qk.via)|exact Is.mk rfl rfl|refine sp ?_|refine vx (by (first|exact Qa vagg_u8 (Qu hb) ((Nat.zero_add _).trans (Q4 rfl rfl))|exact Qa vagg_u8 (Qu hb) (Q4 rfl rfl)|exact Qa vagg_u8 (Qu hb0) (Q4 rfl rfl)|exact Qa rfl rfl rfl|rfl)) ?_|refine dY ?_|fail|refine sq ?_)))
  (all_goals try exact om)
  (refine Ju.mk (GWP.loopB [] (fun (a:Nat×Int)=>a.1≤l.length∧0≤a.2∧a.2≤2147483648∧Nz 2147483648 (l.drop a.1) a.2=R) (fun a=> [(6,iV a.2),(25,iV a.1)]) (fun _=> []) 0 (fun a=>l.length - a.1) (0,0) ⟨Nat.zero_le _,by decide,by decide,hR⟩ ?_);(conv=>whnf);refine And.intro ?_ ?_)
  ·focus (refine ka [] ?_ ?_;all_goals (repeat' (first|exact rz|refine And.intro ?_ ?_|refine Exists.intro _ (And.intro rfl ?_)|refine ro ?_|refine Qe.cons ?_ ?_|fail|exact rv)))
  rintro ⟨i,n⟩ ⟨g1,g2,g3,g4⟩
  simp only at g1 g2 g3 g4 ⊢
  by_cases hil:i < l.length
  ·obtain ⟨b,hb⟩: ∃ b,l[i]? = some b:=⟨_,List.getElem?_eq_getElem hil⟩
   have hbl:b.toNat < 256:=b.toNat_lt
   rw [numGo_at hb] at g4
   by_cases hk:(48≤b.toNat∧b.toNat≤57)∧n*10+((b.toNat:Int) - 48)≤2147483648
   ·rw [if_pos hk] at g4
    obtain ⟨⟨k1,k2⟩,k3⟩:=hk
    (repeat' (first|with_reducible refine And.intro ?_ ?_|(with_reducible intro hc;(try simp only [zz] at hc);try exact ct)|((conv=>whnf);first|(with_reducible first|refine And.intro ?_ ?_|intro hx|apply Val.via|apply Qk.via)|exact Is.mk rfl rfl|refine sp ?_|refine vx (by (first|exact Qa vagg_u8 (Qu hb) ((Nat.zero_add _).trans (Q4 rfl rfl))|exact Qa vagg_u8 (Qu hb) (Q4 rfl rfl)|exact Qa vagg_u8 (Qu hb0) (Q4 rfl rfl)|exact Qa rfl rfl rfl|rfl)) ?_|refine dY ?_|fail|refine sq ?_)))
    (all_goals try exact om)
    focus (refine Qg.mk ⟨(i+1,n*10+((b.toNat:Int) - 48)),⟨by simp only;omega,by simp only;omega,by simp only;omega,g4⟩,?_,ka [] ?_ ?_⟩;(first|omega|(simp only;omega));all_goals (repeat' (first|exact rz|refine And.intro ?_ ?_|refine Exists.intro _ (And.intro rfl ?_)|refine ro ?_|refine Qe.cons ?_ ?_|exact Qi.eq (Q9 (by simp only;omega)) (Qb _)|exact rv)))
   ·rw [if_neg hk] at g4
    subst g4
    (repeat' (first|with_reducible refine And.intro ?_ ?_|(with_reducible intro hc;(try simp only [zz] at hc);try exact ct)|((conv=>whnf);first|(with_reducible first|refine And.intro ?_ ?_|intro hx|apply Val.via|apply Qk.via)|exact Is.mk rfl rfl|refine sp ?_|refine vx (by (first|exact Qa vagg_u8 (Qu hb) ((Nat.zero_add _).trans (Q4 rfl rfl))|exact Qa vagg_u8 (Qu hb) (Q4 rfl rfl)|exact Qa vagg_u8 (Qu hb0) (Q4 rfl rfl)|exact Qa rfl rfl rfl|rfl)) ?_|refine dY ?_|fail|refine sq ?_)))
    (all_goals try exact om)
    all_goals exact Qg.mk rfl
  ·obtain rfl:i=l.length:=by omega
   rw [List.drop_length] at g4
   have g4:some n=R:=g4
   subst g4
   (repeat' (first|with_reducible refine And.intro ?_ ?_|(with_reducible intro hc;(try simp only [zz] at hc);try exact ct)|((conv=>whnf);first|(with_reducible first|refine And.intro ?_ ?_|intro hx|apply Val.via|apply Qk.via)|exact Is.mk rfl rfl|refine sp ?_|refine vx (by (first|exact Qa vagg_u8 (Qu hb) ((Nat.zero_add _).trans (Q4 rfl rfl))|exact Qa vagg_u8 (Qu hb) (Q4 rfl rfl)|exact Qa vagg_u8 (Qu hb0) (Q4 rfl rfl)|exact Qa rfl rfl rfl|rfl)) ?_|refine dY ?_|fail|refine sq ?_)))
   (all_goals try exact om)
   all_goals exact Qg.mk rfl
def empB:List UInt8→Bool→Nat
 | [],_=>0
 | c::r,true=>if c.toNat=10 then empB r false+1 else empB r true+1
 | c::r,false=>if U5 c then empB r false+1 else if c.toNat=35 then empB r true+1 else 0
structure Sg where
 kind:Nat
 text:List UInt8
 num:Nat
def wordsL:List (List UInt8):= [[111,110],[105,102],[101,108,115,101],[119,104,105,108,101],[115,116,111,112],[97,110,100],[111,114],[110,111,116],[110,105,108]]
structure SgR where
 sg:Sg
 n:Nat
 e:Nat
def noSg:Sg:=⟨0,[],0⟩
def Wt (t:List UInt8):SgR:=if 63 < Jc nmB t then ⟨⟨1,t.take (Jc nmB t),0⟩,Jc nmB t,3⟩ else if wordsL.contains (t.take (Jc nmB t)) then ⟨⟨2,t.take (Jc nmB t),0⟩,Jc nmB t,0⟩ else ⟨⟨1,t.take (Jc nmB t),0⟩,Jc nmB t,0⟩
def C8 (t:List UInt8):SgR:=if 1 < Jc Xt t∧t[0]? = some 48 then ⟨noSg,Jc Xt t,2⟩ else match num (t.take (Jc Xt t)) 2147483648 with
 | none=>⟨noSg,Jc Xt t,3⟩
 | some x=>⟨⟨3,[],x.toNat⟩,Jc Xt t,0⟩
def textS (t:List UInt8):SgR:=match lexT (t.drop 1) [] 1 with
 | .inl (e,n)=>⟨noSg,n,e⟩
 | .inr (l,n)=>⟨⟨4,l,0⟩,n,0⟩
def Ua (t:List UInt8):List (List UInt8)→SgR
 | []=>⟨noSg,0,2⟩
 | m::r=>if m.isPrefixOf t then ⟨⟨5,m,0⟩,m.length,0⟩ else Ua t r
def Xl (t:List UInt8):SgR:=match t with
 | []=>⟨noSg,0,2⟩
 | c::_=>if D7 c then Wt t else if Xt c then C8 t else if c.toNat=34 then textS t else Ua t marksL
def Kx (t:List UInt8):List UInt8:=t.drop (empB t false)
def lexG:Nat→List UInt8→Nat→Nat→Sum Nat (List (Sg×Nat))
 | 0,_,_,_=> .inl 0
 | f+1,u,at_,cnt =>
  if u= [] then .inr [(noSg,at_)]
  else if (Xl u).e≠0 then .inl (Xl u).e
  else if 1024≤cnt then .inl 3
  else match lexG f (Kx (u.drop (Xl u).n)) (at_+(Xl u).n+empB (u.drop (Xl u).n) false) (cnt+1) with
   | .inl e=> .inl e
   | .inr l=> .inr (((Xl u).sg,at_)::l)
def Zr (t:List UInt8):Sum Nat (List (Sg×Nat)):=if 4096 < t.length then .inl 3 else lexG (t.length+1) (Kx t) (empB t false) 0
def preG (l:List (Sg×Nat)):Sum Nat (List (Sg×Nat))→Sum Nat (List (Sg×Nat))
 | .inl e=> .inl e
 | .inr m=> .inr (l++m)
theorem preG_step (l:List (Sg×Nat)) (s:Sg×Nat) (R:Sum Nat (List (Sg×Nat))):preG l (match R with| .inl e=> .inl e| .inr m=> .inr (s::m))=preG (l++ [s]) R:=by
 cases R with
 | inl e=>rfl
 | inr m=>show Sum.inr _=Sum.inr _;simp
theorem runB_take (p:UInt8→Bool): ∀ (t:List UInt8),∀ x∈t.take (Jc p t),p x=true
 | [],x,h=>by simp at h
 | c::r,x,h=>by
  unfold Jc at h
  cases hp:p c with
  | true =>
   rw [if_pos hp,List.take_succ_cons] at h
   rcases List.mem_cons.1 h with rfl|h
   ·exact hp
   ·exact runB_take p r x h
  | false =>
   rw [if_neg (by simp [hp])] at h
   simp at h
theorem runB_app (p:UInt8→Bool): ∀ (x r:List UInt8),(∀ y∈x,p y=true)→Jc p (x++r)=x.length+Jc p r
 | [],r,_=>by simp
 | c::x,r,h=>by
  rw [List.cons_append,Jc,if_pos (h c (by simp)),runB_app p x r (fun y hy=>h y (by simp [hy]))]
  simp only [List.length_cons]
  omega
theorem Cn: ∀ (t:List UInt8) (b:Bool),empB t b≤t.length
 | [],b=>by cases b <;> simp [empB]
 | c::r,true=>by
  have h1:=Cn r true
  have h2:=Cn r false
  unfold empB
  simp only [List.length_cons]
  split <;> omega
 | c::r,false=>by
  have h1:=Cn r true
  have h2:=Cn r false
  unfold empB
  simp only [List.length_cons]
  split
  ·omega
  ·split <;> omega
theorem empB_rem: ∀ (t:List UInt8),empB t true=Jc nlB t+empB (t.drop (Jc nlB t)) false
 | []=>rfl
 | c::r=>by
  have ih:=empB_rem r
  by_cases h10:c.toNat=10
  ·have hn:nlB c=false:=by simp [nlB,h10]
   have hb:U5 c=true:=by simp [U5,h10]
   have e:Jc nlB (c::r)=0:=by rw [Jc,if_neg (by simp [hn])]
   rw [e,List.drop_zero]
   simp only [empB]
   rw [if_pos h10,if_pos hb]
   omega
  ·have hn:nlB c=true:=by simp [nlB,h10]
   have e:Jc nlB (c::r)=Jc nlB r+1:=by rw [Jc,if_pos hn]
   rw [e,List.drop_succ_cons]
   simp only [empB]
   rw [if_neg h10,ih]
   omega
theorem lexT_n: ∀ (t acc:List UInt8) (n:Nat) (l:List UInt8) (m:Nat),lexT t acc n= .inr (l,m)→n+1≤m∧m≤n+t.length∧l.length≤4096
 | [],acc,n,l,m,h=>by rw [lexT] at h;cases h
 | [c],acc,n,l,m,h=>by
  rw [lexT.eq_def] at h
  dsimp only at h
  split at h
  ·split at h
   ·cases h
   ·injection h with h
    injection h with h1 h2
    simp only [List.length_cons,List.length_nil]
    subst h1
    omega
  ·split at h
   ·cases h
   ·split at h
    ·cases h
    ·rw [lexT] at h;cases h
 | c::x::r',acc,n,l,m,h=>by
  rw [lexT.eq_def] at h
  dsimp only at h
  simp only [List.length_cons]
  split at h
  ·split at h
   ·cases h
   ·injection h with h
    injection h with h1 h2
    subst h1
    omega
  ·split at h
   ·cases h
   ·split at h
    ·split at h
     ·have:=lexT_n r' _ _ l m h;omega
     ·split at h
      ·have:=lexT_n r' _ _ l m h;omega
      ·split at h
       ·have:=lexT_n r' _ _ l m h;omega
       ·cases h
    ·have:=lexT_n (x::r') _ _ l m h
     simp only [List.length_cons] at this
     omega
theorem lexT_e: ∀ (t acc:List UInt8) (n:Nat) (e m:Nat),lexT t acc n= .inl (e,m)→e≠0
 | [],acc,n,e,m,h=>by
  rw [lexT] at h
  injection h with h
  injection h with h1 h2
  subst h1
  decide
 | [c],acc,n,e,m,h=>by
  rw [lexT.eq_def] at h
  dsimp only at h
  split at h
  ·split at h
   ·injection h with h;injection h with h1 h2;subst h1;decide
   ·cases h
  ·split at h
   ·injection h with h;injection h with h1 h2;subst h1;decide
   ·split at h
    ·injection h with h;injection h with h1 h2;subst h1;decide
    ·rw [lexT] at h;injection h with h;injection h with h1 h2;subst h1;decide
 | c::x::r',acc,n,e,m,h=>by
  rw [lexT.eq_def] at h
  dsimp only at h
  split at h
  ·split at h
   ·injection h with h;injection h with h1 h2;subst h1;decide
   ·cases h
  ·split at h
   ·injection h with h;injection h with h1 h2;subst h1;decide
   ·split at h
    ·split at h
     ·exact lexT_e r' _ _ e m h
     ·split at h
      ·exact lexT_e r' _ _ e m h
      ·split at h
       ·exact lexT_e r' _ _ e m h
       ·injection h with h;injection h with h1 h2;subst h1;decide
    ·exact lexT_e (x::r') _ _ e m h
theorem markS_n (t:List UInt8): ∀ L:List (List UInt8),(∀ m∈L,1≤m.length)→(Ua t L).e=0→1≤(Ua t L).n∧(Ua t L).n≤t.length
 | [],_,h=>by rw [Ua] at h;cases h
 | m::L,hL,h=>by
  rw [Ua] at h ⊢
  by_cases hp:m.isPrefixOf t=true
  ·rw [if_pos hp]
   exact ⟨hL m (by simp),(List.isPrefixOf_iff_prefix.1 hp).length_le⟩
  ·rw [if_neg hp] at h ⊢
   exact markS_n t L (fun m hm=>hL m (by simp [hm])) h
theorem marks_pos: ∀ m∈marksL,1≤m.length:=by decide
theorem lexS_n (t:List UInt8) (h:(Xl t).e=0):1≤(Xl t).n∧(Xl t).n≤t.length:=by
 cases t with
 | nil=>cases h
 | cons c r =>
  unfold Xl at h ⊢
  dsimp only at h ⊢
  by_cases hl:D7 c=true
  ·rw [if_pos hl]
   have h1:=W8 nmB (c::r)
   have h2:Jc nmB (c::r)=Jc nmB r+1:=by rw [Jc,if_pos (by simp [nmB,hl])]
   unfold Wt
   split
   ·exact ⟨by dsimp only;omega,h1⟩
   ·split
    ·exact ⟨by dsimp only;omega,h1⟩
    ·exact ⟨by dsimp only;omega,h1⟩
  ·rw [if_neg hl] at h ⊢
   by_cases hd:Xt c=true
   ·rw [if_pos hd]
    have h1:=W8 Xt (c::r)
    have h2:Jc Xt (c::r)=Jc Xt r+1:=by rw [Jc,if_pos hd]
    unfold C8
    split
    ·exact ⟨by dsimp only;omega,h1⟩
    ·split
     ·exact ⟨by dsimp only;omega,h1⟩
     ·exact ⟨by dsimp only;omega,h1⟩
   ·rw [if_neg hd] at h ⊢
    by_cases hq:c.toNat=34
    ·rw [if_pos hq] at h ⊢
     unfold textS at h ⊢
     cases hT:lexT ((c::r).drop 1) [] 1 with
     | inl p =>
      obtain ⟨e,n⟩:=p
      rw [hT] at h
      exact absurd h (lexT_e _ _ _ _ _ hT)
     | inr p =>
      obtain ⟨l,n⟩:=p
      have:=lexT_n _ _ _ _ _ hT
      simp only [List.drop_succ_cons,List.drop_zero,List.length_cons] at this ⊢
      omega
    ·rw [if_neg hq] at h ⊢
     exact markS_n _ _ marks_pos h
def sgV (s:Sg) (a:Nat):List VV:= [iV s.kind,Qn s.text,iV s.num,iV a]
def sgR3 (r:SgR):VV:= .tp [.ag (sgV r.sg 0),iV r.n,iV r.e]
theorem sgV_ok (f:VV→Prop) (hf: ∀ x,f (.sc x)) (s:Sg) (a:Nat): ∀ v∈sgV s a,f v:=by
 intro v hv
 simp only [sgV,List.mem_cons,List.not_mem_nil,or_false] at hv
 rcases hv with rfl|rfl|rfl|rfl <;> exact hf _
theorem Uf (r:SgR):Qd (sgR3 r):=Qt (by
 intro v hv
 simp only [List.mem_cons,List.not_mem_nil,or_false] at hv
 rcases hv with rfl|rfl|rfl
 ·exact Jz (sgV_ok Qd Qb _ _)
 ·exact Qb _
 ·exact Qb _)
theorem leZ0 (i:Nat):leZ 0 (i:Int)=true:=by rw [leZ_eq];simp
theorem Y9 {t:List UInt8} {n z:Nat} (hz:z=1):vbytes (((t.map bV).drop (0*z)).take ((((n:Int)).toNat - 0)*z))=some (t.take n):=by
 subst hz
 simp only [Nat.mul_one,List.drop_zero,Nat.sub_zero,Int.toNat_natCast]
 rw [← List.map_take]
 exact C5 _
theorem Yk {t:List UInt8} {n z:Nat} (hz:z=1) (hn:n≤t.length):(((t.map bV).drop (0*z)).take ((((n:Int)).toNat - 0)*z)).length=((n:Int)).toNat - 0:=by
 subst hz
 simp only [Nat.mul_one,List.drop_zero,Nat.sub_zero,Int.toNat_natCast,List.length_take,List.length_map]
 omega
theorem words0_call (x:List UInt8):Qc Tryz.prog 140 [.ro 9 (wordsL.map Qn),Qn x] ⟨[],0⟩ (fun v K=>v=Xk (wordsL.contains x)∧K=⟨[],0⟩):=by
 have hwl:(wordsL.map Qn).length=9:=rfl
 refine Qc.go Tryz.func140 rfl ?_
 (repeat' (first|with_reducible refine And.intro ?_ ?_|(with_reducible intro hc;(try simp only [zz] at hc);try exact ct)|((conv=>whnf);first|(with_reducible first|refine And.intro ?_ ?_|intro hx|apply Val.via|apply Qk.via)|exact Is.mk rfl rfl|refine sp ?_|refine vx (by rfl) ?_|refine dY ?_|(refine Xc.mk (Qc.inl Tryz.func79 rfl ?_))|refine sq ?_)))
 (all_goals (first|omega|contradiction|exact Yk rfl hle|skip))
 (refine Ju.mk (GWP.loopB [] (fun (i:Nat)=>i≤9∧(wordsL.take i).contains x=false) (fun i=> [(8,iV i)]) (fun _=> []) 0 (fun i=>9 - i) 0 ⟨Nat.zero_le _,rfl⟩ ?_);(conv=>whnf);refine And.intro ?_ ?_)
 ·focus (refine ka [] ?_ ?_;all_goals (repeat' (first|exact rz|refine And.intro ?_ ?_|refine Exists.intro _ (And.intro rfl ?_)|refine ro ?_|refine Qe.cons ?_ ?_|fail|exact rv)))
 rintro i ⟨g1,g2⟩
 simp only at g1 g2 ⊢
 by_cases hil:i < 9
 ·obtain ⟨m,hm⟩:=Z4 (l:=wordsL) (i:=i) (by show i < 9;omega)
  have hmem:m∈wordsL:=List.mem_of_getElem? hm
  by_cases hxm:(x==m)=true
  ·have e:wordsL.contains x=true:=by
    rw [eq_of_beq hxm]
    simpa using hmem
   rw [e]
   (repeat' (first|with_reducible refine And.intro ?_ ?_|(with_reducible intro hc;(try simp only [zz] at hc);try exact ct)|((conv=>whnf);first|(with_reducible first|refine And.intro ?_ ?_|intro hx|apply Val.via|apply Qk.via)|exact Is.mk rfl rfl|refine sp ?_|refine vx (by (first|exact Qa vagg_str (Wc hm) (Q4 rfl rfl)|rfl)) ?_|refine dY ?_|fail|refine sq ?_)))
   (all_goals (first|omega|contradiction|exact Yk rfl hle|skip))
   all_goals (first|(exact absurd hxm (by simpa using hc))|(refine Qg.mk ⟨?_,rfl⟩;exact congrArg (fun b=>VV.sc (.bool b)) (leZ0 i))|skip)
  ·have e:(wordsL.take (i+1)).contains x=false:=by
    rw [List.take_add_one,hm]
    simp only [Option.toList,List.contains_eq_any_beq,List.any_append,List.any_cons,List.any_nil,Bool.or_false] at g2 ⊢
    rw [g2]
    simpa using hxm
   (repeat' (first|with_reducible refine And.intro ?_ ?_|(with_reducible intro hc;(try simp only [zz] at hc);try exact ct)|((conv=>whnf);first|(with_reducible first|refine And.intro ?_ ?_|intro hx|apply Val.via|apply Qk.via)|exact Is.mk rfl rfl|refine sp ?_|refine vx (by (first|exact Qa vagg_str (Wc hm) (Q4 rfl rfl)|rfl)) ?_|refine dY ?_|fail|refine sq ?_)))
   (all_goals (first|omega|contradiction|exact Yk rfl hle|skip))
   all_goals (first|(exact absurd (by simpa using hc) hxm)|skip)
   focus (refine Qg.mk ⟨i+1,⟨by omega,e⟩,?_,ka [] ?_ ?_⟩;(first|omega|(simp only;omega));all_goals (repeat' (first|exact rz|refine And.intro ?_ ?_|refine Exists.intro _ (And.intro rfl ?_)|refine ro ?_|refine Qe.cons ?_ ?_|exact Qi.eq (Q9 (by omega)) (Qb _)|exact rv)))
 ·obtain rfl:i=9:=by omega
  have e:wordsL.contains x=false:=g2
  rw [e]
  (repeat' (first|with_reducible refine And.intro ?_ ?_|(with_reducible intro hc;(try simp only [zz] at hc);try exact ct)|((conv=>whnf);first|(with_reducible first|refine And.intro ?_ ?_|intro hx|apply Val.via|apply Qk.via)|exact Is.mk rfl rfl|refine sp ?_|refine vx (by rfl) ?_|refine dY ?_|fail|refine sq ?_)))
  (all_goals (first|omega|contradiction|exact Yk rfl hle|skip))
  all_goals exact Qg.mk ⟨rfl,rfl⟩
theorem C0 (H:Heap):Qc Tryz.prog 141 [] H (fun x K=>x= .ro 9 (wordsL.map Qn)∧K=H):=by
 refine Qc.frozen (Q:=fun v K=>Frz K v (.ro 9 (wordsL.map Qn))) (by simp) ?_ (fun v K h=>h)
 refine Qc.go Tryz.func141 rfl ?_
 (repeat' (first|with_reducible refine And.intro ?_ ?_|(with_reducible intro hc;(try simp only [zz] at hc);try exact ct)|((conv=>whnf);first|(with_reducible first|refine And.intro ?_ ?_|intro hx|apply Val.via|apply Qk.via)|exact Is.mk rfl rfl|refine sp ?_|refine vx (by rfl) ?_|refine dY ?_|fail|refine sq ?_)))
 (all_goals (first|omega|contradiction|exact Yk rfl hle|skip))
 exact Qg.mk (Frz.sl (b:=0) (o:=0) (n:=9) (z:=1) (vs:=wordsL.map Qn) rfl (by decide) (Jf Qj wordsL))
theorem wordsH_call (x:List UInt8) (H:Heap):Qc Tryz.prog 140 [.ro 9 (wordsL.map Qn),Qn x] H (fun v K=>v=Xk (wordsL.contains x)∧K=H) :=
 Qc.pure (by intro v hv;simp only [List.mem_cons,List.not_mem_nil,or_false] at hv;rcases hv with rfl|rfl;exact Qx (Jf Qj wordsL);exact Qj _) (Qb _) ((words0_call x).mono fun v K e=>e.1)
theorem name_call (t:List UInt8) (ht:t.length≤100000) (H:Heap):Qc Tryz.prog 99 [roB t] H (fun x K=>x=sgR3 (Wt t)∧K=H):=by
 have hle:=W8 nmB t
 generalize hR:Wt t=R
 refine Qc.pure (by simp [J4]) (Uf R) ?_
 have hr:=fun H=>runnmH_call t ht H
 unfold Wt at hR
 generalize Jc nmB t=n at *
 have e1:VV.ro (((n:Int)).toNat - 0) (((t.map bV).drop (0*1)).take ((((n:Int)).toNat - 0)*1))=roB (t.take n):=by
  have:=Cf (l:=t) (z:=1) (i:=0) (j:=n) rfl (by omega) (by omega)
  rw [Int.toNat_natCast,this,Nat.sub_zero,List.drop_zero]
 have hw:=fun H=>wordsH_call (t.take n) H
 by_cases h63:63 < n
 ·rw [if_pos h63] at hR
  subst hR
  refine Qc.go Tryz.func99 rfl ?_
  (repeat' (first|with_reducible refine And.intro ?_ ?_|(with_reducible intro hc;(try simp only [zz] at hc);try exact ct)|((conv=>whnf);first|(with_reducible first|refine And.intro ?_ ?_|intro hx|apply Val.via|apply Qk.via)|exact Is.mk rfl rfl|refine sp ?_|refine vx (by (first|exact Qa vagg_u8 (Qu hb0) (Q4 rfl rfl)|exact Y9 rfl|exact Qa rfl rfl rfl|rfl)) ?_|refine dY ?_|(first|refine cl (hr _) ?_|refine cl (C0 _) ?_|refine cl (hw _) ?_)|refine sq ?_)))
  (all_goals (first|omega|contradiction|exact Yk rfl hle|skip))
  all_goals exact Qg.mk rfl
 rw [if_neg h63] at hR
 cases hcw:wordsL.contains (t.take n) with
 | true =>
  rw [hcw] at hR hw
  rw [if_pos rfl] at hR
  subst hR
  refine Qc.go Tryz.func99 rfl ?_
  (repeat' (first|with_reducible refine And.intro ?_ ?_|(with_reducible intro hc;(try simp only [zz] at hc);try exact ct)|((conv=>whnf);first|(with_reducible first|refine And.intro ?_ ?_|intro hx|apply Val.via|apply Qk.via)|exact Is.mk rfl rfl|refine sp ?_|refine vx (by (first|exact Qa vagg_u8 (Qu hb0) (Q4 rfl rfl)|exact Y9 rfl|exact Qa rfl rfl rfl|rfl)) ?_|refine dY ?_|(first|refine cl (hr _) ?_|refine cl (C0 _) ?_|refine cl (hw _) ?_)|refine sq ?_)))
  (all_goals (first|omega|contradiction|exact Yk rfl hle|skip))
  all_goals exact Qg.mk rfl
 | false =>
  rw [hcw] at hR hw
  rw [if_neg (by decide)] at hR
  subst hR
  refine Qc.go Tryz.func99 rfl ?_
  (repeat' (first|with_reducible refine And.intro ?_ ?_|(with_reducible intro hc;(try simp only [zz] at hc);try exact ct)|((conv=>whnf);first|(with_reducible first|refine And.intro ?_ ?_|intro hx|apply Val.via|apply Qk.via)|exact Is.mk rfl rfl|refine sp ?_|refine vx (by (first|exact Qa vagg_u8 (Qu hb0) (Q4 rfl rfl)|exact Y9 rfl|exact Qa rfl rfl rfl|rfl)) ?_|refine dY ?_|(first|refine cl (hr _) ?_|refine cl (C0 _) ?_|refine cl (hw _) ?_)|refine sq ?_)))
  (all_goals (first|omega|contradiction|exact Yk rfl hle|skip))
  all_goals exact Qg.mk rfl
theorem numGo_nn (most:Int): ∀ (l:List UInt8) (n x:Int),0≤n→Nz most l n=some x→0≤x
 | [],n,x,hn,h=>by injection h with h;omega
 | b::r,n,x,hn,h=>by
  unfold Nz at h
  split at h
  ·rename_i hk
   exact numGo_nn most r _ x (by omega) h
  ·cases h
theorem num_nn {l:List UInt8} {most x:Int} (h:num l most=some x):0≤x:=by
 unfold num at h
 split at h
 ·cases h
 ·exact numGo_nn most l 0 x (Int.le_refl _) h
theorem number_call (t:List UInt8) (ht:t.length≤100000) (h0:0 < t.length) (H:Heap):Qc Tryz.prog 101 [roB t] H (fun x K=>x=sgR3 (C8 t)∧K=H):=by
 have hle:=W8 Xt t
 generalize hR:C8 t=R
 refine Qc.pure (by simp [J4]) (Uf R) ?_
 have hr:=fun H=>rundigH_call t ht H
 obtain ⟨c,hb0⟩: ∃ c,t[0]? = some c:=⟨_,List.getElem?_eq_getElem (by omega)⟩
 have hcl:c.toNat < 256:=c.toNat_lt
 have hn:=fun H=>num_call (t.take (Jc Xt t)) (by simp only [List.length_take];omega) H
 unfold C8 at hR
 generalize Jc Xt t=n at *
 have e1:VV.ro (((n:Int)).toNat - 0) (((t.map bV).drop (0*1)).take ((((n:Int)).toNat - 0)*1))=roB (t.take n):=by
  have:=Cf (l:=t) (z:=1) (i:=0) (j:=n) rfl (by omega) (by omega)
  rw [Int.toNat_natCast,this,Nat.sub_zero,List.drop_zero]
 by_cases h1:1 < n
 ·by_cases h48:c.toNat=48
  ·obtain rfl:c=48:=UInt8.toNat_inj.1 h48
   rw [if_pos ⟨h1,hb0⟩] at hR
   subst hR
   refine Qc.go Tryz.func101 rfl ?_
   (repeat' (first|with_reducible refine And.intro ?_ ?_|(with_reducible intro hc;(try simp only [zz] at hc);try exact ct)|((conv=>whnf);first|(with_reducible first|refine And.intro ?_ ?_|intro hx|apply Val.via|apply Qk.via)|exact Is.mk rfl rfl|refine sp ?_|refine vx (by (first|exact Qa vagg_u8 (Qu hb0) (Q4 rfl rfl)|exact Y9 rfl|exact Qa rfl rfl rfl|rfl)) ?_|refine dY ?_|(first|refine cl (hr _) ?_|(refine Xc.mk (Qc.arg21 e1 ((hn _).mono ?_));rintro _ _ ⟨rfl,rfl⟩))|refine sq ?_)))
   (all_goals (first|omega|contradiction|exact Yk rfl hle|skip))
   all_goals exact Qg.mk rfl
  ·rw [if_neg (by rintro ⟨_,e⟩;rw [hb0] at e;injection e with e;subst e;exact h48 rfl)] at hR
   cases hx:num (t.take n) 2147483648 with
   | none =>
    rw [hx] at hR hn
    subst hR
    refine Qc.go Tryz.func101 rfl ?_
    (repeat' (first|with_reducible refine And.intro ?_ ?_|(with_reducible intro hc;(try simp only [zz] at hc);try exact ct)|((conv=>whnf);first|(with_reducible first|refine And.intro ?_ ?_|intro hx|apply Val.via|apply Qk.via)|exact Is.mk rfl rfl|refine sp ?_|refine vx (by (first|exact Qa vagg_u8 (Qu hb0) (Q4 rfl rfl)|exact Y9 rfl|exact Qa rfl rfl rfl|rfl)) ?_|refine dY ?_|(first|refine cl (hr _) ?_|(refine Xc.mk (Qc.arg21 e1 ((hn _).mono ?_));rintro _ _ ⟨rfl,rfl⟩))|refine sq ?_)))
    (all_goals (first|omega|contradiction|exact Yk rfl hle|skip))
    all_goals exact Qg.mk rfl
   | some x =>
    have hx0:=num_nn hx
    obtain ⟨k,rfl⟩: ∃ k:Nat,x=k:=⟨x.toNat,by omega⟩
    rw [hx] at hR hn
    subst hR
    refine Qc.go Tryz.func101 rfl ?_
    (repeat' (first|with_reducible refine And.intro ?_ ?_|(with_reducible intro hc;(try simp only [zz] at hc);try exact ct)|((conv=>whnf);first|(with_reducible first|refine And.intro ?_ ?_|intro hx|apply Val.via|apply Qk.via)|exact Is.mk rfl rfl|refine sp ?_|refine vx (by (first|exact Qa vagg_u8 (Qu hb0) (Q4 rfl rfl)|exact Y9 rfl|exact Qa rfl rfl rfl|rfl)) ?_|refine dY ?_|(first|refine cl (hr _) ?_|(refine Xc.mk (Qc.arg21 e1 ((hn _).mono ?_));rintro _ _ ⟨rfl,rfl⟩))|refine sq ?_)))
    (all_goals (first|omega|contradiction|exact Yk rfl hle|skip))
    all_goals exact Qg.mk rfl
 ·rw [if_neg (by rintro ⟨e,_⟩;exact h1 e)] at hR
  cases hx:num (t.take n) 2147483648 with
  | none =>
   rw [hx] at hR hn
   subst hR
   refine Qc.go Tryz.func101 rfl ?_
   (repeat' (first|with_reducible refine And.intro ?_ ?_|(with_reducible intro hc;(try simp only [zz] at hc);try exact ct)|((conv=>whnf);first|(with_reducible first|refine And.intro ?_ ?_|intro hx|apply Val.via|apply Qk.via)|exact Is.mk rfl rfl|refine sp ?_|refine vx (by (first|exact Qa vagg_u8 (Qu hb0) (Q4 rfl rfl)|exact Y9 rfl|exact Qa rfl rfl rfl|rfl)) ?_|refine dY ?_|(first|refine cl (hr _) ?_|(refine Xc.mk (Qc.arg21 e1 ((hn _).mono ?_));rintro _ _ ⟨rfl,rfl⟩))|refine sq ?_)))
   (all_goals (first|omega|contradiction|exact Yk rfl hle|skip))
   all_goals exact Qg.mk rfl
  | some x =>
   have hx0:=num_nn hx
   obtain ⟨k,rfl⟩: ∃ k:Nat,x=k:=⟨x.toNat,by omega⟩
   rw [hx] at hR hn
   subst hR
   refine Qc.go Tryz.func101 rfl ?_
   (repeat' (first|with_reducible refine And.intro ?_ ?_|(with_reducible intro hc;(try simp only [zz] at hc);try exact ct)|((conv=>whnf);first|(with_reducible first|refine And.intro ?_ ?_|intro hx|apply Val.via|apply Qk.via)|exact Is.mk rfl rfl|refine sp ?_|refine vx (by (first|exact Qa vagg_u8 (Qu hb0) (Q4 rfl rfl)|exact Y9 rfl|exact Qa rfl rfl rfl|rfl)) ?_|refine dY ?_|(first|refine cl (hr _) ?_|(refine Xc.mk (Qc.arg21 e1 ((hn _).mono ?_));rintro _ _ ⟨rfl,rfl⟩))|refine sq ?_)))
   (all_goals (first|omega|contradiction|exact Yk rfl hle|skip))
   all_goals exact Qg.mk rfl
set_option maxRecDepth 20000
def C7 (t:List UInt8) (p:Sg×Nat):List UInt8:=if p.1.kind=3 then (t.drop p.2).take (Jc Xt (t.drop p.2)) else if p.1.kind=4 then quoteB p.1.text else p.1.text
def blanksL:List UInt8:= [32,9,10,13,35]
theorem blanks_no: ∀ d∈blanksL,D7 d=false∧Xt d=false∧nmB d=false:=by decide
theorem Uw (c:UInt8) (r:List UInt8):Xl (c::r)=if D7 c then Wt (c::r) else if Xt c then C8 (c::r) else if c.toNat=34 then textS (c::r) else Ua (c::r) marksL:=rfl
theorem let_not {c:UInt8} (h:D7 c=true):U5 c=false∧c.toNat≠35:=by
 simp only [D7,Bool.or_eq_true,Bool.and_eq_true,beq_iff_eq,decide_eq_true_eq] at h
 simp only [U5,Bool.or_eq_false_iff,beq_eq_false_iff_ne]
 omega
theorem dig_not {c:UInt8} (h:Xt c=true):U5 c=false∧c.toNat≠35:=by
 simp only [Xt,Bool.and_eq_true,decide_eq_true_eq] at h
 simp only [U5,Bool.or_eq_false_iff,beq_eq_false_iff_ne]
 omega
theorem mark_lex: ∀ m∈marksL,∀ d∈blanksL,∀ r,Xl (m++d::r)=⟨⟨5,m,0⟩,m.length,0⟩:=by
 intro m hm d hd r
 simp only [marksL,List.mem_cons,List.not_mem_nil,or_false] at hm
 simp only [blanksL,List.mem_cons,List.not_mem_nil,or_false] at hd
 rcases hm with rfl|rfl|rfl|rfl|rfl|rfl|rfl|rfl|rfl|rfl|rfl|rfl|rfl|rfl|rfl|rfl|rfl|rfl <;> rcases hd with rfl|rfl|rfl|rfl|rfl <;> rfl
theorem mark_first: ∀ m∈marksL,∃ c x,m=c::x∧U5 c=false∧c.toNat≠35:=by
 intro m hm
 have h: ∀ m∈marksL,(match m with| []=>false|c::_=> !(U5 c)&& !(c.toNat==35))=true:=by decide
 have:=h m hm
 cases m with
 | nil=>cases this
 | cons c x=>exact ⟨c,x,rfl,by simpa using this⟩
theorem markS_ok (t:List UInt8): ∀ L:List (List UInt8),(Ua t L).e=0→ ∃ m∈L,Ua t L=⟨⟨5,m,0⟩,m.length,0⟩∧m.isPrefixOf t=true
 | [],h=>by rw [Ua] at h;cases h
 | m::L,h=>by
  rw [Ua] at h ⊢
  by_cases hp:m.isPrefixOf t=true
  ·rw [if_pos hp]
   exact ⟨m,by simp,rfl,hp⟩
  ·rw [if_neg hp] at h ⊢
   obtain ⟨m',h1,h2⟩:=markS_ok t L h
   exact ⟨m',by simp [h1],h2⟩
theorem Bs: ∀ (t acc:List UInt8) (n:Nat) (l:List UInt8) (m:Nat),lexT t acc n= .inr (l,m)→l.length≤acc.length+t.length
 | [],acc,n,l,m,h=>by rw [lexT] at h;cases h
 | [c],acc,n,l,m,h=>by
  rw [lexT.eq_def] at h
  dsimp only at h
  split at h
  ·split at h
   ·cases h
   ·injection h with h
    injection h with h1 h2
    subst h1
    simp
  ·split at h
   ·cases h
   ·split at h
    ·cases h
    ·rw [lexT] at h;cases h
 | c::x::r',acc,n,l,m,h=>by
  rw [lexT.eq_def] at h
  dsimp only at h
  simp only [List.length_cons]
  split at h
  ·split at h
   ·cases h
   ·injection h with h
    injection h with h1 h2
    subst h1
    omega
  ·split at h
   ·cases h
   ·split at h
    ·split at h
     ·have:=Bs r' _ _ l m h;simp only [List.length_append,List.length_cons,List.length_nil] at this;omega
     ·split at h
      ·have:=Bs r' _ _ l m h;simp only [List.length_append,List.length_cons,List.length_nil] at this;omega
      ·split at h
       ·have:=Bs r' _ _ l m h;simp only [List.length_append,List.length_cons,List.length_nil] at this;omega
       ·cases h
    ·have:=Bs (x::r') _ _ l m h
     simp only [List.length_append,List.length_cons,List.length_nil] at this
     omega
theorem runB_blank {p:UInt8→Bool} {d:UInt8} (hd:p d=false) (r:List UInt8):Jc p (d::r)=0:=by rw [Jc,if_neg (by simp [hd])]
theorem run_own (p:UInt8→Bool) (u:List UInt8) {d:UInt8} (hd:p d=false) (r:List UInt8):Jc p (u.take (Jc p u)++d::r)=(u.take (Jc p u)).length∧(u.take (Jc p u)++d::r).take ((u.take (Jc p u)).length)=u.take (Jc p u)∧(u.take (Jc p u)).length=Jc p u:=by
 refine ⟨?_,List.take_left,?_⟩
 ·rw [runB_app p _ _ (runB_take p u),runB_blank hd,Nat.add_zero]
 ·rw [List.length_take]
  have:=W8 p u
  omega
theorem name_own {c:UInt8} {u0:List UInt8} (hl:D7 c=true) (he:(Wt (c::u0)).e=0) {d:UInt8} (hd:nmB d=false) :
  ∃ k x x1,x=c::x1∧(k=1∨k=2)∧x.length≤(c::u0).length∧Wt (c::u0)=⟨⟨k,x,0⟩,x.length,0⟩∧ ∀ r,Wt (x++d::r)=⟨⟨k,x,0⟩,x.length,0⟩:=by
 have hx: ∃ x1,(c::u0).take (Jc nmB (c::u0))=c::x1:=⟨u0.take (Jc nmB u0),by rw [show Jc nmB (c::u0)=Jc nmB u0+1 by rw [Jc,if_pos (by simp [nmB,hl])]];rfl⟩
 have hr:=fun r=>run_own nmB (c::u0) hd r
 have hle:=W8 nmB (c::u0)
 obtain ⟨x1,hx⟩:=hx
 unfold Wt at he
 have h63: ¬ 63 < Jc nmB (c::u0):=fun h=>by rw [if_pos h] at he;cases he
 have hu:Wt (c::u0)=if wordsL.contains ((c::u0).take (Jc nmB (c::u0))) then ⟨⟨2,(c::u0).take (Jc nmB (c::u0)),0⟩,Jc nmB (c::u0),0⟩ else ⟨⟨1,(c::u0).take (Jc nmB (c::u0)),0⟩,Jc nmB (c::u0),0⟩:=by
  unfold Wt
  rw [if_neg h63]
 rw [hu]
 clear he hu
 generalize Jc nmB (c::u0)=n at *
 generalize (c::u0).take n=x at *
 have hxn:x.length=n:=(hr []).2.2
 have hv: ∀ r,Wt (x++d::r)=if wordsL.contains x then ⟨⟨2,x,0⟩,n,0⟩ else ⟨⟨1,x,0⟩,n,0⟩:=fun r=>by
  unfold Wt
  rw [(hr r).1,(hr r).2.1,hxn,if_neg h63]
 subst hxn
 cases hcx:wordsL.contains x with
 | true=>exact ⟨2,x,x1,hx,.inr rfl,hle,rfl,fun r=>by rw [hv,hcx];rfl⟩
 | false=>exact ⟨1,x,x1,hx,.inl rfl,hle,rfl,fun r=>by rw [hv,hcx];rfl⟩
theorem num_own {c:UInt8} {u0:List UInt8} (hl:Xt c=true) (he:(C8 (c::u0)).e=0) {d:UInt8} (hd:Xt d=false) :
  ∃ v x x1,x=c::x1∧x=(c::u0).take (Jc Xt (c::u0))∧C8 (c::u0)=⟨⟨3,[],v⟩,x.length,0⟩∧ ∀ r,C8 (x++d::r)=⟨⟨3,[],v⟩,x.length,0⟩:=by
 have hx: ∃ x1,(c::u0).take (Jc Xt (c::u0))=c::x1:=⟨u0.take (Jc Xt u0),by rw [show Jc Xt (c::u0)=Jc Xt u0+1 by rw [Jc,if_pos hl]];rfl⟩
 have hr:=fun r=>run_own Xt (c::u0) hd r
 obtain ⟨x1,hx⟩:=hx
 have h0:(c::u0)[0]? = some c:=rfl
 have hw: ∀ w:List UInt8,w[0]? = some c→Jc Xt w=Jc Xt (c::u0)→w.take (Jc Xt w)=(c::u0).take (Jc Xt (c::u0))→C8 w=C8 (c::u0):=fun w e1 e2 e3=>by
  unfold C8
  rw [e3,e1,e2,h0]
 have hv: ∃ v,C8 (c::u0)=⟨⟨3,[],v⟩,Jc Xt (c::u0),0⟩:=by
  unfold C8 at he ⊢
  by_cases hz:1 < Jc Xt (c::u0)∧(c::u0)[0]? = some 48
  ·rw [if_pos hz] at he;cases he
  ·rw [if_neg hz] at he ⊢
   cases hn:num ((c::u0).take (Jc Xt (c::u0))) 2147483648 with
   | none=>rw [hn] at he;cases he
   | some x=>exact ⟨x.toNat,rfl⟩
 obtain ⟨v,hv⟩:=hv
 refine ⟨v,_,x1,hx,rfl,?_,fun r=> ?_⟩
 ·rw [hv,(hr []).2.2]
 ·have:=hw ((c::u0).take (Jc Xt (c::u0))++d::r) (by rw [hx];rfl) (by rw [(hr r).1,(hr r).2.2]) (by rw [(hr r).1,(hr r).2.1])
  rw [this,hv,(hr []).2.2]
theorem own_lex (t:List UInt8) (a:Nat) (hu:t.drop a≠ []) (he:(Xl (t.drop a)).e=0) {d:UInt8} (hd:d∈blanksL) :
  (∀ r,Xl (C7 t ((Xl (t.drop a)).sg,a)++d::r)=⟨(Xl (t.drop a)).sg,(C7 t ((Xl (t.drop a)).sg,a)).length,0⟩)∧(∃ c x,C7 t ((Xl (t.drop a)).sg,a)=c::x∧U5 c=false∧c.toNat≠35)
   ∧ ((Xl (t.drop a)).sg.kind=4→(Xl (t.drop a)).sg.text.length≤t.length)∧((Xl (t.drop a)).sg.kind=3∨(Xl (t.drop a)).sg.kind=4∨(Xl (t.drop a)).sg.text.length≤t.length):=by
 obtain ⟨hd1,hd2,hd3⟩:=blanks_no d hd
 have hul:(t.drop a).length≤t.length:=by rw [List.length_drop];omega
 have hown: ∀ s,C7 t (s,a)=if s.kind=3 then (t.drop a).take (Jc Xt (t.drop a)) else if s.kind=4 then quoteB s.text else s.text:=fun s=>rfl
 simp only [hown]
 generalize t.drop a=u at *
 cases u with
 | nil=>exact absurd rfl hu
 | cons c u0 =>
  rw [Uw] at he ⊢
  by_cases hl:D7 c=true
  ·rw [if_pos hl] at he ⊢
   obtain ⟨k,x,x1,hx,hk,hxl,e1,e2⟩:=name_own hl he hd3
   rw [e1]
   obtain ⟨n1,n2⟩:=let_not hl
   have hk3: ¬ k=3:=by omega
   have hk4: ¬ k=4:=by omega
   simp only [if_neg hk3,if_neg hk4]
   refine ⟨fun r=> ?_,⟨c,x1,hx,n1,n2⟩,fun h=>absurd h hk4,.inr (.inr (by omega))⟩
   have:=e2 r
   rw [hx] at this ⊢
   rw [List.cons_append,Uw,if_pos hl]
   exact this
  ·rw [if_neg hl] at he ⊢
   by_cases hg:Xt c=true
   ·rw [if_pos hg] at he ⊢
    obtain ⟨v,x,x1,hx,hxe,e1,e2⟩:=num_own hg he hd2
    rw [e1]
    obtain ⟨n1,n2⟩:=dig_not hg
    simp only [if_pos trivial]
    rw [← hxe]
    refine ⟨fun r=> ?_,⟨c,x1,hx,n1,n2⟩,fun h=>(by cases h),.inl trivial⟩
    have:=e2 r
    rw [hx] at this ⊢
    rw [List.cons_append,Uw,if_neg hl,if_pos hg]
    exact this
   ·rw [if_neg hg] at he ⊢
    by_cases hq:c.toNat=34
    ·rw [if_pos hq] at he ⊢
     unfold textS at he ⊢
     cases hT:lexT ((c::u0).drop 1) [] 1 with
     | inl p =>
      obtain ⟨e,n⟩:=p
      rw [hT] at he
      exact absurd he (lexT_e _ _ _ _ _ hT)
     | inr p =>
      obtain ⟨l,n⟩:=p
      have hn:=lexT_n _ _ _ _ _ hT
      have hln:=Bs _ _ _ _ _ hT
      simp only [List.drop_succ_cons,List.drop_zero,List.length_nil,List.length_cons] at hn hln hul
      simp only [if_neg (show ¬ 4=3 by decide),if_pos trivial]
      refine ⟨fun r=> ?_,⟨34,escL l++ [34],rfl,by decide,by decide⟩,fun _=>by omega,.inr (.inl trivial)⟩
      have hz:=Wu l (d::r) [] 1 (by simp only [List.length_nil];omega)
      show Xl (34::(escL l++ [34])++d::r)=_
      rw [List.cons_append,Uw,if_neg (by decide),if_neg (by decide),if_pos (by rfl)]
      unfold textS
      rw [List.drop_succ_cons,List.drop_zero,List.append_assoc]
      show (match lexT (escL l++34::d::r) [] 1 with| .inl (e,n)=>(⟨noSg,n,e⟩:SgR)| .inr (l,n)=>⟨⟨4,l,0⟩,n,0⟩)=_
      rw [hz]
      show (⟨⟨4,l,0⟩,1+(escL l).length+1,0⟩:SgR)=_
      congr 1
      unfold quoteB
      simp only [List.length_append,List.length_cons,List.length_nil]
      omega
    ·rw [if_neg hq] at he ⊢
     obtain ⟨m,hm,e1,hp⟩:=markS_ok _ _ he
     rw [e1]
     simp only [if_neg (show ¬ 5=3 by decide),if_neg (show ¬ 5=4 by decide)]
     have hml:=(List.isPrefixOf_iff_prefix.1 hp).length_le
     exact ⟨fun r=>mark_lex m hm d hd r,mark_first m hm,fun h=>(by cases h),.inr (.inr (by omega))⟩
def Nv (k:Nat):List UInt8:=if k=0 then [32] else if k=1 then [9] else if k=2 then [10] else if k=3 then [13,10] else [35,32,114,101,109,97,114,107,32,10]
theorem bet_first (k:Nat): ∃ d r,Nv k=d::r∧d∈blanksL:=by
 unfold Nv
 split
 ·exact ⟨_,_,rfl,by decide⟩
 ·split
  ·exact ⟨_,_,rfl,by decide⟩
  ·split
   ·exact ⟨_,_,rfl,by decide⟩
   ·split
    ·exact ⟨_,_,rfl,by decide⟩
    ·exact ⟨_,_,rfl,by decide⟩
theorem bet_emp (k:Nat) (r:List UInt8):empB (Nv k++r) false=(Nv k).length+empB r false:=by
 have h32:U5 32=true:=by decide
 have h9:U5 9=true:=by decide
 have h10:U5 10=true:=by decide
 have h13:U5 13=true:=by decide
 have h35:U5 35=false:=by decide
 have k35:(35:UInt8).toNat=35:=rfl
 unfold Nv
 split
 ·simp only [List.cons_append,List.nil_append,empB,h32,if_true,List.length_cons,List.length_nil];omega
 ·split
  ·simp only [List.cons_append,List.nil_append,empB,h9,if_true,List.length_cons,List.length_nil];omega
  ·split
   ·simp only [List.cons_append,List.nil_append,empB,h10,if_true,List.length_cons,List.length_nil];omega
   ·split
    ·simp only [List.cons_append,List.nil_append,empB,h13,h10,if_true,List.length_cons,List.length_nil];omega
    ·show empB (35::32::114::101::109::97::114::107::32::10::r) false=10+empB r false
     have e:empB (35::32::114::101::109::97::114::107::32::10::r) false=empB r false+1+1+1+1+1+1+1+1+1+1:=rfl
     rw [e]
     omega
theorem bet_skip (k:Nat) (r:List UInt8):Kx (Nv k++r)=Kx r:=by
 unfold Kx
 rw [bet_emp,← List.drop_drop,List.drop_left]
def Zh (k:Nat) (t:List UInt8) (l:List (Sg×Nat)):List UInt8:=l.dropLast.flatMap fun p=>C7 t p++Nv k
def SgOk (t:List UInt8) (p:Sg×Nat):Prop:=t.drop p.2≠ []∧(Xl (t.drop p.2)).e=0∧(Xl (t.drop p.2)).sg=p.1
theorem lexG_back (k:Nat) (t:List UInt8): ∀ (f a cnt:Nat) (l:List (Sg×Nat)),lexG f (t.drop a) a cnt= .inr l →
  l≠ []∧(∀ p∈l.dropLast,SgOk t p)∧(cnt≤1024→l.length+cnt≤1025)∧empB (Zh k t l) false=0∧ ∀ g b,(Zh k t l).length < g→ ∃ l2,lexG g (Zh k t l) b cnt= .inr l2∧l2.map (·.1)=l.map (·.1)
 | 0,a,cnt,l,h=>by rw [lexG] at h;cases h
 | f+1,a,cnt,l,h=>by
  rw [lexG] at h
  by_cases hu:t.drop a= []
  ·rw [if_pos hu] at h
   injection h with h
   subst h
   refine ⟨by simp,fun p hp=>by simp at hp,fun hc=>by simp;omega,rfl,fun g b hg=> ?_⟩
   obtain ⟨g,rfl⟩: ∃ g',g=g'+1:=⟨g - 1,by omega⟩
   exact ⟨[(noSg,b)],rfl,rfl⟩
  ·rw [if_neg hu] at h
   by_cases he:(Xl (t.drop a)).e=0
   ·rw [if_neg (by omega)] at h
    by_cases hc:1024≤cnt
    ·rw [if_pos hc] at h;cases h
    ·rw [if_neg hc] at h
     obtain ⟨d,br,hb,hd⟩:=bet_first k
     obtain ⟨o1,o2,o3,o4⟩:=own_lex t a hu he hd
     have hok:SgOk t ((Xl (t.drop a)).sg,a):=⟨hu,he,rfl⟩
     generalize (Xl (t.drop a)).sg=s at *
     generalize (Xl (t.drop a)).n=n at *
     rw [List.drop_drop] at h
     unfold Kx at h
     rw [List.drop_drop] at h
     cases hL:lexG f (t.drop (a+n+empB (t.drop (a+n)) false)) (a+n+empB (t.drop (a+n)) false) (cnt+1) with
     | inl e=>rw [hL] at h;cases h
     | inr l1 =>
      rw [hL] at h
      injection h with h
      subst h
      obtain ⟨i1,i2,i3,i4,i5⟩:=lexG_back k t f _ _ l1 hL
      have hdl:((s,a)::l1).dropLast=(s,a)::l1.dropLast:=by
       cases l1 with
       | nil=>exact absurd rfl i1
       | cons q r=>rfl
      have ht:Zh k t ((s,a)::l1)=C7 t (s,a)++(Nv k++Zh k t l1):=by
       unfold Zh
       rw [hdl,List.flatMap_cons,List.append_assoc]
      obtain ⟨c,x,hx,hc1,hc2⟩:=o2
      refine ⟨by simp,?_,fun _=> ?_,?_,?_⟩
      ·rw [hdl]
       intro p hp
       rcases List.mem_cons.1 hp with rfl|hp
       ·exact hok
       ·exact i2 p hp
      ·have:=i3 (by omega)
       simp only [List.length_cons]
       omega
      ·rw [ht,hx,List.cons_append,empB,if_neg (by simp [hc1]),if_neg hc2]
      ·intro g b hg
       obtain ⟨g,rfl⟩: ∃ g',g=g'+1:=⟨g - 1,by omega⟩
       have hlx:=o1 (br++Zh k t l1)
       rw [show d::(br++Zh k t l1)=Nv k++Zh k t l1 by rw [hb];rfl] at hlx
       rw [ht] at hg ⊢
       rw [List.length_append,List.length_append] at hg
       rw [lexG,if_neg (by rw [hx];simp),hlx,if_neg (by simp),if_neg hc]
       simp only [List.drop_left]
       rw [bet_skip]
       have hsk:Kx (Zh k t l1)=Zh k t l1:=by unfold Kx;rw [i4];rfl
       rw [hsk]
       have hol:1≤(C7 t (s,a)).length:=by rw [hx];simp
       obtain ⟨l2,j1,j2⟩:=i5 g (b+(C7 t (s,a)).length+empB (Nv k++Zh k t l1) false) (by omega)
       rw [j1]
       exact ⟨_,rfl,by simp only [List.map_cons,j2]⟩
   ·rw [if_pos he] at h
    cases h
theorem lexG_err (t:List UInt8): ∀ (f a cnt e:Nat),t.length - a < f→lexG f (t.drop a) a cnt= .inl e→e≠0
 | 0,a,cnt,e,hf,h=>by omega
 | f+1,a,cnt,e,hf,h=>by
  rw [lexG] at h
  by_cases hu:t.drop a= []
  ·rw [if_pos hu] at h;cases h
  ·rw [if_neg hu] at h
   have hul:(t.drop a).length≠0:=fun e=>hu (List.eq_nil_of_length_eq_zero e)
   rw [List.length_drop] at hul
   by_cases he:(Xl (t.drop a)).e=0
   ·rw [if_neg (by omega)] at h
    have hn:=lexS_n _ he
    rw [List.length_drop] at hn
    split at h
    ·injection h with h;omega
    ·rw [List.drop_drop] at h
     unfold Kx at h
     rw [List.drop_drop] at h
     cases hL:lexG f (t.drop (a+(Xl (t.drop a)).n+empB (t.drop (a+(Xl (t.drop a)).n)) false)) (a+(Xl (t.drop a)).n+empB (t.drop (a+(Xl (t.drop a)).n)) false) (cnt+1) with
     | inl e1 =>
      rw [hL] at h
      injection h with h
      subst h
      exact lexG_err t f _ _ e1 (by omega) hL
     | inr l1=>rw [hL] at h;cases h
   ·rw [if_pos he] at h
    injection h with h
    omega
theorem signsB_err {t:List UInt8} {e:Nat} (h:Zr t= .inl e):e≠0:=by
 unfold Zr at h
 split at h
 ·injection h with h;omega
 ·exact lexG_err t _ _ _ e (by omega) h
theorem own_len {t:List UInt8} {p:Sg×Nat} (h:SgOk t p):(C7 t p).length≤2*t.length+2∧(p.1.kind=4→p.1.text.length≤t.length)∧p.2 < t.length:=by
 obtain ⟨h1,h2,h3⟩:=h
 obtain ⟨-,-,o3,o4⟩:=own_lex t p.2 h1 h2 (d:=32) (by decide)
 rw [h3] at o3 o4
 refine ⟨?_,o3,?_⟩
 ·unfold C7
  split
  ·rw [List.length_take,List.length_drop];omega
  ·split
   ·rename_i h4
    have:=o3 h4
    have h5:=escL_len p.1.text
    have h6:=quote_len p.1.text
    omega
   ·omega
 ·rcases Nat.lt_or_ge p.2 t.length with h|h
  ·exact h
  ·exact absurd (List.drop_of_length_le h) h1
def outI (b:List UInt8) (xs:List (List UInt8)):Nat→List UInt8
 | 0=>b
 | i+1=>(if 0 < i then outI b xs i++b else outI b xs i)++xs.getD i []
theorem outI_eq (b:List UInt8) (xs:List (List UInt8)): ∀ i,i < xs.length→outI b xs (i+1)++b=b++(xs.take (i+1)).flatMap (· ++ b)
 | 0,h=>by
  obtain ⟨x,hx⟩: ∃ x,xs[0]? = some x:=⟨_,List.getElem?_eq_getElem h⟩
  have e:xs.getD 0 []=x:=by rw [List.getD_eq_getElem?_getD,hx];rfl
  have e2:xs.take (0+1)= [x]:=by rw [List.take_add_one,hx];rfl
  rw [e2,outI,if_neg (by omega),e]
  simp [outI]
 | i+1,h=>by
  have ih:=outI_eq b xs i (by omega)
  obtain ⟨x,hx⟩: ∃ x,xs[i+1]? = some x:=⟨_,List.getElem?_eq_getElem h⟩
  have e:xs.getD (i+1) []=x:=by rw [List.getD_eq_getElem?_getD,hx];rfl
  have e2:xs.take (i+1+1)=xs.take (i+1)++ [x]:=by rw [List.take_add_one,hx];rfl
  rw [e2,outI,if_pos (by omega),e,ih]
  simp only [List.flatMap_append,List.flatMap_cons,List.flatMap_nil,List.append_nil,List.append_assoc]
theorem blanks_law (k:Nat) (t:List UInt8) (l:List (Sg×Nat)) (h:Zr t= .inr l) :
  l≠ []∧l.length≤1025∧(∀ p∈l.dropLast,SgOk t p)∧((outI (Nv k) (l.dropLast.map (C7 t)) l.dropLast.length++Nv k).length≤4096 →
   ∃ l2,Zr (outI (Nv k) (l.dropLast.map (C7 t)) l.dropLast.length++Nv k)= .inr l2∧l2.map (·.1)=l.map (·.1)):=by
 unfold Zr at h
 split at h
 ·cases h
 ·unfold Kx at h
  obtain ⟨h1,h2,h3,h4,h5⟩:=lexG_back k t _ _ _ l h
  refine ⟨h1,by have:=h3 (by omega);omega,h2,fun hw=> ?_⟩
  have hB: ∃ x,outI (Nv k) (l.dropLast.map (C7 t)) l.dropLast.length++Nv k=Nv k++x∧Kx x=Zh k t l∧(Zh k t l).length≤x.length:=by
   cases hl:l.dropLast.length with
   | zero =>
    have e:Zh k t l= []:=by unfold Zh;rw [List.eq_nil_of_length_eq_zero hl];rfl
    refine ⟨Nv k,rfl,?_,by rw [e];simp⟩
    have:=bet_skip k []
    rw [List.append_nil] at this
    rw [this,e]
    rfl
   | succ n =>
    have e:=outI_eq (Nv k) (l.dropLast.map (C7 t)) n (by rw [List.length_map];omega)
    refine ⟨Zh k t l,?_,?_,Nat.le_refl _⟩
    ·rw [e,List.take_of_length_le (by rw [List.length_map];omega),List.flatMap_map]
     rfl
    ·unfold Kx;rw [h4];rfl
  obtain ⟨x,e1,e2,e3⟩:=hB
  rw [e1] at hw ⊢
  unfold Zr
  rw [if_neg (by omega),bet_skip,e2]
  exact h5 _ _ (by rw [List.length_append];omega)
end Go.Proofs.YtpbiblhkcomekaaGreat
