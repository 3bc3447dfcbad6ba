import Derived.Test.YtnmjdjldbloefaaGreatDoorPE5
import Derived.Test.YtnmjdjldbloefaaGreatDoorPH0
import Derived.Test.YtnmjdjldbloefaaGreatDoorPH5
import Derived.Test.YtnmjdjldbloefaaGreatDoorPU2
/- A tree's signs, walked: rank, Concat, inner, row. -/
namespace Go.Proofs.YtnmjdjldbloefaaGreatDoor
open Go Go.RowKit
set_option linter.unusedSimpArgs false
set_option linter.unusedVariables false
set_option maxRecDepth 100000
set_option maxHeartbeats 8000000
theorem leZU (i:Nat):leZ 0 (i:Int)=true:=by rw [C1];simp
theorem contains_call (L:List (List UInt8)) (hL:L.length≤1000) (x:List UInt8) (H:Heap):Qc Tryz.prog 83 [roL L,Qe x] H (fun v K=>v=Yg (L.contains x)∧K=H):=by
 refine Qc.pure (by simp [Xz,Qd]) (Qb _) ?_
 generalize hb:L.contains x=b
 unfold roL
 refine Qc.go Tryz.func83 rfl ?_
 (repeat' (first|with_reducible refine And.intro ?_ ?_|(with_reducible intro hc;(try simp only [zz] at hc);try exact ct)|((conv=>whnf);first|(with_reducible first|refine And.intro ?_ ?_|intro hx|apply Val.via|apply Qi.via)|exact Is.mk rfl rfl|refine sp ?_|refine vx (by rfl) ?_|refine dY ?_|(refine Q7.mk (Qc.inl Tryz.func102 rfl ?_))|refine sq ?_)))
 (all_goals try exact om)
 (refine Ji.mk (GWP.loopB [] (fun (i:Nat)=>i≤L.length∧(L.take i).contains x=false) (fun i=> [(8,iV i)]) (fun _=> []) 0 (fun i=>L.length - i) 0 ⟨Nat.zero_le _,rfl⟩ ?_);(conv=>whnf);refine And.intro ?_ ?_)
 ·focus (refine ka [] ?_ ?_;all_goals (repeat' (first|exact rz|refine And.intro ?_ ?_|refine Exists.intro _ (And.intro rfl ?_)|refine ro ?_|refine Qu.cons ?_ ?_|fail|exact rv)))
 rintro i ⟨g1,g2⟩
 simp only at g1 g2 ⊢
 by_cases hil:i < L.length
 ·obtain ⟨m,hm⟩:=Ze (l:=L) (i:=i) hil
  have hmem:m∈L:=List.mem_of_getElem? hm
  by_cases hxm:(x==m)=true
  ·have e:L.contains x=true:=by
    rw [eq_of_beq hxm]
    simpa using hmem
   rw [e] at hb
   subst hb
   (repeat' (first|with_reducible refine And.intro ?_ ?_|(with_reducible intro hc;(try simp only [zz] at hc);try exact ct)|((conv=>whnf);first|(with_reducible first|refine And.intro ?_ ?_|intro hx|apply Val.via|apply Qi.via)|exact Is.mk rfl rfl|refine sp ?_|refine vx (by (first|exact Qa vagg_str (Xu hm) (Q3 rfl rfl)|rfl)) ?_|refine dY ?_|fail|refine sq ?_)))
   (all_goals try exact om)
   all_goals (first|(exact absurd hxm (by simpa using hc))|(refine Qf.mk ?_;exact congrArg (fun b=>VV.sc (.bool b)) (leZU i))|skip)
  ·have e:(L.take (i+1)).contains x=false:=by
    rw [List.take_add_one,hm]
    simp only [Option.toList,List.contains_eq_any_beq,List.any_append,List.any_cons,List.any_nil,Bool.or_false] at g2 ⊢
    rw [g2]
    simpa using hxm
   (repeat' (first|with_reducible refine And.intro ?_ ?_|(with_reducible intro hc;(try simp only [zz] at hc);try exact ct)|((conv=>whnf);first|(with_reducible first|refine And.intro ?_ ?_|intro hx|apply Val.via|apply Qi.via)|exact Is.mk rfl rfl|refine sp ?_|refine vx (by (first|exact Qa vagg_str (Xu hm) (Q3 rfl rfl)|rfl)) ?_|refine dY ?_|fail|refine sq ?_)))
   (all_goals try exact om)
   all_goals (first|(exact absurd (by simpa using hc) hxm)|skip)
   focus (refine Qf.mk ⟨i+1,⟨by omega,e⟩,?_,ka [] ?_ ?_⟩;(first|omega|(simp only;omega));all_goals (repeat' (first|exact rz|refine And.intro ?_ ?_|refine Exists.intro _ (And.intro rfl ?_)|refine ro ?_|refine Qu.cons ?_ ?_|exact Qn.eq (Qz (by omega)) (Qb _)|exact rv)))
 ·obtain rfl:i=L.length:=by omega
  rw [List.take_length,hb] at g2
  subst g2
  (repeat' (first|with_reducible refine And.intro ?_ ?_|(with_reducible intro hc;(try simp only [zz] at hc);try exact ct)|((conv=>whnf);first|(with_reducible first|refine And.intro ?_ ?_|intro hx|apply Val.via|apply Qi.via)|exact Is.mk rfl rfl|refine sp ?_|refine vx (by rfl) ?_|refine dY ?_|fail|refine sq ?_)))
  (all_goals try exact om)
  all_goals exact Qf.mk rfl
theorem lev_not : ∀ i, i ≤ 4 → ∀ x ∈ opL i, ∀ j, j < i → (opL j).contains x = false := by
  intro i hi x hx j hj
  have h : ∀ i, i ≤ 4 → ∀ j, j < i → ∀ x ∈ opL i, (opL j).contains x = false := by
    intro i hi
    match i, hi with
    | 0, _ => intro j hj; omega
    | 1, _ => intro j hj; obtain rfl : j = 0 := by omega
              decide
    | 2, _ =>
      intro j hj
      match j, hj with
      | 0, _ => decide
      | 1, _ => decide
    | 3, _ =>
      intro j hj
      match j, hj with
      | 0, _ => decide
      | 1, _ => decide
      | 2, _ => decide
    | 4, _ =>
      intro j hj
      match j, hj with
      | 0, _ => decide
      | 1, _ => decide
      | 2, _ => decide
      | 3, _ => decide
  exact h i hi j hj x hx
theorem opL_len (i:Nat):(opL i).length≤6:=by
 unfold opL
 split <;> decide
theorem rank13_call (x:List UInt8) (hx:x∈opL (lvO x)) (n:Nat) (ks:List Nd) (H:Heap):Qc Tryz.prog 53 [nV (.mk 13 x n ks)] H (fun v K=>v=iV (lvO x)∧K=H):=by
 refine Qc.pure (by simp [Qk]) (Qb _) ?_
 have hle:=lvO_le x
 generalize hi:lvO x=i at *
 have hno:=lev_not i hle x hx
 have hyes:(opL i).contains x=true:=by simpa using hx
 have kc:=fun j H=>contains_call (opL j) (by have:=opL_len j;omega) x H
 have hlv:=fun j o (hj:j < 5) (ho:o=j)=>lv_at hj ho
 rw [nV,cellsN]
 refine Qc.go Tryz.func53 rfl ?_
 (repeat' (first|with_reducible refine And.intro ?_ ?_|(with_reducible intro hc;(try simp only [zz] at hc);try exact ct)|((conv=>whnf);first|(with_reducible first|refine And.intro ?_ ?_|intro hx|apply Val.via|apply Qi.via)|exact Is.mk rfl rfl|refine sp ?_|refine vx (by (first|exact Qv rfl rfl|exact Qa rfl rfl rfl|rfl)) ?_|refine dY ?_|(first|refine cl (J0 _) ?_|(refine Q7.mk (Qc.inl Tryz.func80 rfl ?_)))|refine sq ?_)))
 (all_goals try exact om)
 (refine Ji.mk (GWP.loopB [] (fun (j:Nat)=>j≤i) (fun j=> [(8,iV j)]) (fun _=> []) 1 (fun j=>i - j) 0 (Nat.zero_le _) ?_);(conv=>whnf);refine And.intro ?_ ?_)
 ·focus (refine ka [] ?_ ?_;all_goals (repeat' (first|exact rz|refine And.intro ?_ ?_|refine Exists.intro _ (And.intro rfl ?_)|refine ro ?_|refine Qu.cons ?_ ?_|fail|exact rv)))
 rintro j g1
 simp only at g1 ⊢
 have kj:=kc j
 by_cases hji:j < i
 ·rw [hno j hji] at kj
  (repeat' (first|with_reducible refine And.intro ?_ ?_|(with_reducible intro hc;(try simp only [zz] at hc);try exact ct)|((conv=>whnf);first|(with_reducible first|refine And.intro ?_ ?_|intro hx|apply Val.via|apply Qi.via)|exact Is.mk rfl rfl|refine sp ?_|refine vx (by (first|exact hlv j _ (by omega) (Q3 rfl rfl)|exact Qa rfl rfl rfl|rfl)) ?_|refine dY ?_|(first|(refine Q7.mk (Qc.inl Tryz.func82 rfl ?_))|refine cl (kj _) ?_)|refine sq ?_)))
  (all_goals try exact om)
  focus (refine Qf.mk ⟨j+1,(by omega),?_,ka [] ?_ ?_⟩;(first|omega|(simp only;omega));all_goals (repeat' (first|exact rz|refine And.intro ?_ ?_|refine Exists.intro _ (And.intro rfl ?_)|refine ro ?_|refine Qu.cons ?_ ?_|exact Qn.eq (Qz (by omega)) (Qb _)|exact rv)))
 ·obtain rfl:j=i:=by omega
  rw [hyes] at kj
  (repeat' (first|with_reducible refine And.intro ?_ ?_|(with_reducible intro hc;(try simp only [zz] at hc);try exact ct)|((conv=>whnf);first|(with_reducible first|refine And.intro ?_ ?_|intro hx|apply Val.via|apply Qi.via)|exact Is.mk rfl rfl|refine sp ?_|refine vx (by (first|exact hlv j _ (by omega) (Q3 rfl rfl)|exact Qa rfl rfl rfl|rfl)) ?_|refine dY ?_|(first|(refine Q7.mk (Qc.inl Tryz.func82 rfl ?_))|refine cl (kj _) ?_)|refine sq ?_)))
  (all_goals try exact om)
  all_goals exact Qf.mk rfl
theorem rank14_call (x:List UInt8) (n:Nat) (ks:List Nd) (H:Heap):Qc Tryz.prog 53 [nV (.mk 14 x n ks)] H (fun v K=>v=iV 5∧K=H):=by
 refine Qc.pure (by simp [Qk]) (Qb _) ?_
 rw [nV,cellsN]
 refine Qc.go Tryz.func53 rfl ?_
 (repeat' (first|with_reducible refine And.intro ?_ ?_|(with_reducible intro hc;(try simp only [zz] at hc);try exact ct)|((conv=>whnf);first|(with_reducible first|refine And.intro ?_ ?_|intro hx|apply Val.via|apply Qi.via)|exact Is.mk rfl rfl|refine sp ?_|refine vx (by (first|exact Qv rfl rfl|exact Qa rfl rfl rfl|rfl)) ?_|refine dY ?_|(first|refine cl (J0 _) ?_|(refine Q7.mk (Qc.inl Tryz.func80 rfl ?_)))|refine sq ?_)))
 (all_goals try exact om)
 all_goals exact Qf.mk rfl
theorem rankX_call (op:Nat) (h13:op≠13) (h14:op≠14) (x:List UInt8) (n:Nat) (ks:List Nd) (H:Heap):Qc Tryz.prog 53 [nV (.mk op x n ks)] H (fun v K=>v=iV 6∧K=H):=by
 refine Qc.pure (by simp [Qk]) (Qb _) ?_
 rw [nV,cellsN]
 refine Qc.go Tryz.func53 rfl ?_
 (repeat' (first|with_reducible refine And.intro ?_ ?_|(with_reducible intro hc;(try simp only [zz] at hc);try exact ct)|((conv=>whnf);first|(with_reducible first|refine And.intro ?_ ?_|intro hx|apply Val.via|apply Qi.via)|exact Is.mk rfl rfl|refine sp ?_|refine vx (by (first|exact Qv rfl rfl|exact Qa rfl rfl rfl|rfl)) ?_|refine dY ?_|(first|refine cl (J0 _) ?_|(refine Q7.mk (Qc.inl Tryz.func80 rfl ?_)))|refine sq ?_)))
 (all_goals try exact om)
 all_goals exact Qf.mk rfl
def OpOk (n:Nd):Prop:= ∀ x m ks,n= .mk 13 x m ks→x∈opL (lvO x)
theorem rank_call (n:Nd) (h:OpOk n) (H:Heap):Qc Tryz.prog 53 [nV n] H (fun v K=>v=iV (rankN n)∧K=H):=by
 obtain ⟨op,x,m,ks⟩:=n
 by_cases h13:op=13
 ·subst h13
  exact rank13_call x (h x m ks rfl) m ks H
 ·by_cases h14:op=14
  ·subst h14
   exact rank14_call x m ks H
  ·have e:rankN (.mk op x m ks)=6:=by show (if op=13 then lvO x else if op=14 then 5 else 6)=6;rw [if_neg h13,if_neg h14]
   rw [e]
   exact rankX_call op h13 h14 x m ks H
theorem Kv.slL {H:Heap} {b o n z:Nat} {c:Option Nat} {r:Bool} {vs us:List VV} (hg:H.get b=some (.cells r vs)) (hl:o+n*z≤vs.length) (h:ViewL H ((vs.drop o).take (n*z)) us):Kv H (.sl b o n c z) (.ro n us):=fun B w M Z ρ y hr hv=>by
 cases hv with
 | sl hk hcap hc hzz =>
  obtain ⟨ds,g1,g2,g3⟩:=hr.read hg hk o (n*z) hl
  have hlt:=hr.lt hg hk
  have hp:=h.pw hr g1
  refine .ro (cs:=ds) hlt hcap hp.1 (fun i hi=> ?_) hp.2
  have:=g3 i (ds[i]'hi) (List.getElem?_eq_getElem hi)
  rw [Xb] at this
  rw [this,List.getElem?_eq_getElem hi]
theorem sty_T:Dr Tryz.prog 69 1 16:=⟨⟨_,_,_,rfl,rfl,rfl,rfl,rfl,rfl⟩⟩
theorem zl_T: ∀ e,Tryz.prog.underlying 69=some (.slice e)→Ke Tryz.prog e=some [Qe []]:=by
 intro e h
 have h0:Tryz.prog.underlying 69=some (.slice 9):=Tryz.underlying69
 rw [h0] at h
 injection h with h
 injection h with h
 subst h
 rfl
theorem zeros_one (n:Nat):(Zv [Qe []] n).all VV.one=true:=by
 unfold Zv
 rw [List.all_eq_true]
 intro v hv
 rw [(List.mem_replicate.1 hv).2]
 rfl
theorem Je (l:List (List UInt8)):(l.map Qe).all VV.one=true:=by
 rw [List.all_eq_true]
 intro v hv
 obtain ⟨x,_,rfl⟩:=List.mem_map.1 hv
 rfl
theorem Qt (l:List (List UInt8)) (H:Heap):Xe 1 (.ro l.length (l.map Qe)) H=some (l.length,l.map Qe):=by
 show (if (l.map Qe).length=l.length*1 then some (l.length,l.map Qe) else none)=_
 rw [if_pos (by rw [List.length_map,Nat.mul_one])]
theorem vop_cap0 {o:Oper} {ts:List VV} {H:Heap} {x:Operand} (ho:o.op= .call ⟨.builtin .cap,#[x],#[69]⟩) (hx:Ql ts x= .sc (.slice none 0 0)):vop Tryz.prog o ts H=some (.sc (.int .i64 0),H):=by
 have hu:Tryz.prog.underlying 69=some (.slice 9):=Tryz.underlying69
 have hp:plain (Ql ts x)=some (.slice none 0 0):=by rw [hx];rfl
 have hv:Zl Tryz.prog o (Ql ts)=some (.sc (.int .i64 0)):=by
  unfold Zl
  rw [ho]
  have ha:Wy (Ql ts) (Op.call ⟨.builtin .cap,#[x],#[69]⟩).operands.toList=true:=by
   show Wy (Ql ts) [x]=true
   simp [Wy,hp]
  have hr:J5 Tryz.prog (execOp (fun x=>(plain (Ql ts x)).getD undef) o)=some (.value (.int .i64 0)):=by
   simp [execOp,ho,resolve,invoke,builtin,Builtin.cap_,hp,J5,hu]
   rfl
  simp only [ha,hr]
  rfl
 unfold vop
 rw [ho]
 simp only [hv]
 rfl
theorem vapp_nilZ {P:Program} {sT xT:TypeId} {z bytes:Nat} (h:Dr P sT z bytes) {zl:List VV} (hzl: ∀ e,P.underlying sT=some (.slice e)→Ke P e=some zl) {kt kx:IntKind} (hx:P.underlying xT=some (.int kt)) {H:Heap} {m:Nat} (h1:(Zv zl (m*z)).all VV.one=true) (hm: ¬ m=0) (hb:m*bytes≤140737488355328) (hm2:m≤4611686018427387904) :
  Kp P sT xT (.sc (.slice none 0 0)) (.sc (.int kx (Int.ofNat m))) H=some (.sl H.next 0 m none z,H.add (.cells true (Zv zl (m*z)))):=by
 obtain ⟨e,i,zl',g1,g2,g3,g4,g5,g6⟩:=h
 subst g3 g4
 have:=hzl e g1
 rw [g5] at this
 injection this with this
 subst this
 have hbq:Nat.beq zl'.length i.size=true:=by rw [g6];exact Nat.beq_refl _
 have e3:Nat.ble m 4611686018427387904=true:=Nat.ble_eq_true_of_le hm2
 have e4:Nat.ble (m*i.bytes) 140737488355328=true:=Nat.ble_eq_true_of_le hb
 have ev:Xe i.size (.sc (.int kx (Int.ofNat m))) H=none:=rfl
 simp only [Kp,g1,g2,g5,ev,hx,hbq,h1,e3,e4,Bool.and_self,K3,if_neg hm,if_pos (And.intro hb hm2)]
theorem Qr.nilZ {P:Program} {o:Oper} {ts:List VV} {H:Heap} {K:VV→Heap→Prop} {s x:Operand} {sT xT:TypeId} {z bytes m:Nat} {kx kt:IntKind} {zl:List VV} {mz:Int} (ho:o.op= .call ⟨.builtin .append,#[s,x],#[sT,xT]⟩) (h:Dr P sT z bytes) (hzl: ∀ e,P.underlying sT=some (.slice e)→Ke P e=some zl) (hx:P.underlying xT=some (.int kt)) (hs:Ql ts s= .sc (.slice none 0 0)) (hl:Ql ts x= .sc (.int kx mz)) (hmz:mz=(m:Int)) (h1:(Zv zl (m*z)).all VV.one=true) (hm: ¬ m=0)
  (hb:m*bytes≤140737488355328) (hm2:m≤4611686018427387904) (k:K (.sl H.next 0 m none z) (H.add (.cells true (Zv zl (m*z))))):Qr P o ts H K:=by
 subst hmz
 refine Qr.via (Bl ho ?_) k
 rw [hs,hl]
 exact vapp_nilZ h hzl hx h1 hm hb hm2
theorem Qr.growL {P:Program} {o:Oper} {ts:List VV} {H:Heap} {K:VV→Heap→Prop} {s x:Operand} {sT xT:TypeId} {z bytes m b n:Nat} {d:TypeDesc} {l vs:List VV} (ho:o.op= .call ⟨.builtin .append,#[s,x],#[sT,xT]⟩) (h:Dr P sT z bytes) (hx:P.underlying xT=some d) (hd: ∀ k,d≠ .int k) (hs:Ql ts s= .sl b 0 n none z) (hl:Xe z (Ql ts x) H=some (m,l)) (h1:l.all VV.one=true) (hm: ¬ m=0) (hg:H.get b=some (.cells true vs)) (hv:n*z≤vs.length) (hb:(n+m)*bytes≤140737488355328) (hm2:n+m≤4611686018427387904)
  (k:K (.sl H.next 0 (n+m) none z) ((H.del b).add (.cells true (vs.take (n*z)++l)))):Qr P o ts H K:=by
 refine Qr.via (Bl ho ?_) k
 rw [hs]
 exact vapp_grow h hx hd hl h1 hm hg hv hb hm2
def roT (xs:List (List UInt8)):VV:= .ro xs.length (xs.map Qe)
theorem Bu (l:List (List UInt8)):Qq (roT l):=Qx (Jg Qd l)
theorem exact_T (l:List (List UInt8)): ∀ v∈l.map Qe,Ft v:=fun v hv=>by
 obtain ⟨x,_,rfl⟩:=List.mem_map.1 hv
 exact Xn _
theorem frx_T {K:Heap} {b n:Nat} {c:Option Nat} {vs:List VV} {xs:List (List UInt8)} (hg:K.get b=some (.cells true vs)) (hv:vs=xs.map Qe) (hn:n=xs.length):Frx K (.sl b 0 n c 1) (roT xs):=by
 subst hv hn
 have:=Frx.sl (K:=K) (b:=b) (o:=0) (n:=xs.length) (z:=1) (c:=c) hg (by simp) (exact_T xs)
 rw [List.drop_zero,Nat.mul_one,List.take_of_length_le (by simp)] at this
 exact this
theorem concat0_call (p q:List UInt8) (xs:List (List UInt8)) (hx:xs≠ []) (hl:xs.length≤1000000):Qc Tryz.prog 84 [.ro 3 [.ro 1 [Qe p],.ro xs.length (xs.map Qe),.ro 1 [Qe q]]] ⟨[],0⟩ (fun v K=>Frx K v (roT (p::(xs++ [q])))):=by
 have hlen:1≤xs.length:=by
  cases xs with
  | nil=>exact absurd rfl hx
  | cons a b=>simp
 refine Qc.go Tryz.func84 rfl ?_
 (repeat' (first|with_reducible refine And.intro ?_ ?_|(with_reducible intro hc;(try simp only [zz] at hc);try exact ct)|((conv=>whnf);first|(with_reducible first|refine And.intro ?_ ?_|intro hx|apply Val.via|apply Qi.via)|exact Is.mk rfl rfl|fail|refine sp ?_|refine vx (by (first|exact Qv rfl rfl|exact Qa rfl rfl rfl|rfl)) ?_|refine dY ?_|(refine Q7.mk (Qc.inl Tryz.func103 rfl ?_))|refine sq ?_)))
 (all_goals try exact om)
 refine Ji.mk (GWP.rounds 4 (GWP.step ?_))
 (repeat' (first|with_reducible refine And.intro ?_ ?_|(with_reducible intro hc;(try simp only [zz] at hc);try exact ct)|((conv=>whnf);first|(with_reducible first|refine And.intro ?_ ?_|intro hx|apply Val.via|apply Qi.via)|exact Is.mk rfl rfl|fail|refine sp ?_|refine vx (by (first|exact Qv rfl rfl|exact Qa rfl rfl rfl|rfl)) ?_|refine dY ?_|(refine Q7.mk (Qc.inl Tryz.func103 rfl ?_))|refine sq ?_)))
 (all_goals try exact om)
 refine Wb.step ?_
 (repeat' (first|with_reducible refine And.intro ?_ ?_|(with_reducible intro hc;(try simp only [zz] at hc);try exact ct)|((conv=>whnf);first|(with_reducible first|refine And.intro ?_ ?_|intro hx|apply Val.via|apply Qi.via)|exact Is.mk rfl rfl|fail|refine sp ?_|refine vx (by (first|exact Qv rfl rfl|exact Qa rfl rfl rfl|rfl)) ?_|refine dY ?_|(refine Q7.mk (Qc.inl Tryz.func103 rfl ?_))|refine sq ?_)))
 (all_goals try exact om)
 refine Wb.step ?_
 (repeat' (first|with_reducible refine And.intro ?_ ?_|(with_reducible intro hc;(try simp only [zz] at hc);try exact ct)|((conv=>whnf);first|(with_reducible first|refine And.intro ?_ ?_|intro hx|apply Val.via|apply Qi.via)|exact Is.mk rfl rfl|fail|refine sp ?_|refine vx (by (first|exact Qv rfl rfl|exact Qa rfl rfl rfl|rfl)) ?_|refine dY ?_|(refine Q7.mk (Qc.inl Tryz.func103 rfl ?_))|refine sq ?_)))
 (all_goals try exact om)
 refine Wb.step ?_
 (repeat' (first|with_reducible refine And.intro ?_ ?_|(with_reducible intro hc;(try simp only [zz] at hc);try exact ct)|((conv=>whnf);first|(with_reducible first|refine And.intro ?_ ?_|intro hx|apply Val.via|apply Qi.via)|exact Is.mk rfl rfl|fail|refine sp ?_|refine vx (by (first|exact Qv rfl rfl|exact Qa rfl rfl rfl|rfl)) ?_|refine dY ?_|(refine Q7.mk (Qc.inl Tryz.func103 rfl ?_))|refine sq ?_)))
 (conv=>whnf)
 rw [vop_cap0 (x:= .tmp 9) ?_ ?_]
 rotate_left
 ·rfl
 ·rfl
 (repeat' (first|with_reducible refine And.intro ?_ ?_|(with_reducible intro hc;(try simp only [zz] at hc);try exact ct)|((conv=>whnf);first|(with_reducible first|refine And.intro ?_ ?_|intro hx|apply Val.via|apply Qi.via)|exact Is.mk rfl rfl|(refine Qs (Qr.nilZ rfl sty_T (zl:= [Qe []]) zl_T Tryz.underlying3 rfl rfl (m:=1+xs.length+1) (by omega) (zeros_one _) (by omega) (by omega) (by omega) ?_))|refine sp ?_|refine vx (by (first|exact Qv rfl rfl|exact Qa rfl rfl rfl|rfl)) ?_|refine dY ?_|fail|refine sq ?_)))
 (all_goals try exact om)
 (conv=>whnf)
 rw [vop_cap0 (x:= .tmp 18) ?_ ?_]
 rotate_left
 ·rfl
 ·rfl
 (repeat' (first|with_reducible refine And.intro ?_ ?_|(with_reducible intro hc;(try simp only [zz] at hc);try exact ct)|((conv=>whnf);first|(with_reducible first|refine And.intro ?_ ?_|intro hx|apply Val.via|apply Qi.via)|exact Is.mk rfl rfl|(refine Qs (Qr.nilZ rfl sty_T (zl:= [Qe []]) zl_T Tryz.underlying3 rfl rfl (m:=1+xs.length+1) (by omega) (zeros_one _) (by omega) (by omega) (by omega) ?_))|refine sp ?_|refine vx (by (first|exact Qv rfl rfl|exact Qa rfl rfl rfl|rfl)) ?_|refine dY ?_|fail|refine sq ?_)))
 (all_goals try exact om)
 refine Ji.mk (GWP.rounds 4 (GWP.step ?_))
 (repeat' (first|with_reducible refine And.intro ?_ ?_|(with_reducible intro hc;(try simp only [zz] at hc);try exact ct)|((conv=>whnf);first|(with_reducible first|refine And.intro ?_ ?_|intro hx|apply Val.via|apply Qi.via)|exact Is.mk rfl rfl|(refine Qs (Qr.growL rfl sty_T (d:= .slice 9) Tryz.underlying69 (by intro k h;cases h) rfl (m:=1) (l:= [Qe p]) (by first|exact Qt _ _|rfl) (by first|exact Je _|rfl) (by omega) rfl (by first|(simp;done)|(simp;omega)) (by omega) (by omega) ?_))|refine sp ?_|refine vx (by (first|exact Qv rfl rfl|exact Qa rfl rfl rfl|rfl)) ?_|refine dY ?_|fail|refine sq ?_)))
 (all_goals try exact om)
 refine Wb.step ?_
 (repeat' (first|with_reducible refine And.intro ?_ ?_|(with_reducible intro hc;(try simp only [zz] at hc);try exact ct)|((conv=>whnf);first|(with_reducible first|refine And.intro ?_ ?_|intro hx|apply Val.via|apply Qi.via)|exact Is.mk rfl rfl|(refine Qs (Qr.growL rfl sty_T (d:= .slice 9) Tryz.underlying69 (by intro k h;cases h) rfl (m:=xs.length) (l:=xs.map Qe) (by first|exact Qt _ _|rfl) (by first|exact Je _|rfl) (by omega) rfl (by first|(simp;done)|(simp;omega)) (by omega) (by omega) ?_))|refine sp ?_|refine vx (by (first|exact Qv rfl rfl|exact Qa rfl rfl rfl|rfl)) ?_|refine dY ?_|fail|refine sq ?_)))
 (all_goals try exact om)
 refine Wb.step ?_
 (repeat' (first|with_reducible refine And.intro ?_ ?_|(with_reducible intro hc;(try simp only [zz] at hc);try exact ct)|((conv=>whnf);first|(with_reducible first|refine And.intro ?_ ?_|intro hx|apply Val.via|apply Qi.via)|exact Is.mk rfl rfl|(refine Qs (Qr.growL rfl sty_T (d:= .slice 9) Tryz.underlying69 (by intro k h;cases h) rfl (m:=1) (l:= [Qe q]) (by first|exact Qt _ _|rfl) (by first|exact Je _|rfl) (by omega) rfl (by first|(simp;done)|(simp;omega)) (by omega) (by omega) ?_))|refine sp ?_|refine vx (by (first|exact Qv rfl rfl|exact Qa rfl rfl rfl|rfl)) ?_|refine dY ?_|fail|refine sq ?_)))
 (all_goals try exact om)
 refine Wb.step ?_
 (repeat' (first|with_reducible refine And.intro ?_ ?_|(with_reducible intro hc;(try simp only [zz] at hc);try exact ct)|((conv=>whnf);first|(with_reducible first|refine And.intro ?_ ?_|intro hx|apply Val.via|apply Qi.via)|exact Is.mk rfl rfl|fail|refine sp ?_|refine vx (by (first|exact Qv rfl rfl|exact Qa rfl rfl rfl|rfl)) ?_|refine dY ?_|fail|refine sq ?_)))
 (all_goals try exact om)
 all_goals exact Qf.mk (frx_T rfl (by simp;rw [List.take_of_length_le (by simp;omega)];simp) (by simp;omega))
theorem concat_call (p q:List UInt8) (xs:List (List UInt8)) (hx:xs≠ []) (hl:xs.length≤1000000) {H:Heap} {b a c:Nat} (hb:H.get b=some (.cells true [.sl a 0 1 (some 1) 1,.ro xs.length (xs.map Qe),.sl c 0 1 (some 1) 1])) (ha:H.get a=some (.cells true [Qe p])) (hc:H.get c=some (.cells true [Qe q])):Qc Tryz.prog 84 [.sl b 0 3 (some 3) 1] H (fun v K=>v=roT (p::(xs++ [q]))∧K=H):=by
 refine Qc.viewed (.cons (Kv.slL hb (by simp) (.cons ?_ (.cons (Kv.of (Bu xs)) (.cons ?_ .nil)))) .nil) (concat0_call p q xs hx hl) (fun v K h=>h)
 ·exact Kv.sl ha (by simp) (by simp [Qd])
 ·exact Kv.sl hc (by simp) (by simp [Qd])
def tk (n:Nd):List (List UInt8):=(sgN n).map Wh
def tkI (r:Nat) (n:Nd):List (List UInt8):=(sgI r n).map Wh
theorem Eh (n:Nd) (r:Nat) (hr:r≤100) (ho:OpOk n) (h0:tk n≠ []) (hl:(tk n).length≤1000000) (hs: ∀ H,Qc Tryz.prog 26 [nV n] H (fun v K=>v=roT (tk n)∧K=H)) (H:Heap):Qc Tryz.prog 54 [nV n,iV r] H (fun v K=>v=roT (tkI r n)∧K=H):=by
 refine Qc.frozen (Q:=fun v K=>Frz K v (roT (tkI r n))) (by simp [Qk,iV,Qb]) ?_ (fun v K h=>h)
 have kr:=fun H=>rank_call n ho H
 have k6:=rank_le n
 unfold tkI
 obtain ⟨op,tx,nm,ks⟩:=n
 generalize hrk:rankN (.mk op tx nm ks)=rk at *
 by_cases hlt:rk < r
 ·rw [sgI_br (by omega)]
  have e:(mkG [40]::(sgN (.mk op tx nm ks)++ [mkG [41]])).map Wh= [40]::(tk (.mk op tx nm ks)++ [[41]]):=by unfold tk;simp;exact ⟨rfl,rfl⟩
  rw [e]
  generalize tk (.mk op tx nm ks)=xs at *
  have kc:=fun {H b a c} hb ha hc=>concat_call [40] [41] xs h0 hl (H:=H) (b:=b) (a:=a) (c:=c) hb ha hc
  simp only [nV,cellsN,roT] at hs kr kc
  rw [nV,cellsN]
  refine Qc.go Tryz.func54 rfl ?_
  (repeat' (first|with_reducible refine And.intro ?_ ?_|(with_reducible intro hc;(try simp only [zz] at hc);try exact ct)|((conv=>whnf);first|(with_reducible first|refine And.intro ?_ ?_|intro hx|apply Val.via|apply Qi.via)|exact Is.mk rfl rfl|refine sp ?_|refine vx (by (first|exact Qv rfl rfl|exact Qa rfl rfl rfl|rfl)) ?_|refine dY ?_|(first|refine cl (kr _) ?_|refine cl (hs _) ?_|refine cl (kc rfl rfl rfl) ?_)|refine sq ?_)))
  (all_goals try exact om)
  all_goals exact Qf.mk (Frz.of (Bu _))
 ·rw [Kg (by omega),show (sgN (.mk op tx nm ks)).map Wh=tk (.mk op tx nm ks) from rfl]
  generalize tk (.mk op tx nm ks)=xs at *
  simp only [nV,cellsN,roT] at hs kr
  rw [nV,cellsN]
  refine Qc.go Tryz.func54 rfl ?_
  (repeat' (first|with_reducible refine And.intro ?_ ?_|(with_reducible intro hc;(try simp only [zz] at hc);try exact ct)|((conv=>whnf);first|(with_reducible first|refine And.intro ?_ ?_|intro hx|apply Val.via|apply Qi.via)|exact Is.mk rfl rfl|refine sp ?_|refine vx (by (first|exact Qv rfl rfl|exact Qa rfl rfl rfl|rfl)) ?_|refine dY ?_|(first|refine cl (kr _) ?_|refine cl (hs _) ?_)|refine sq ?_)))
  (all_goals try exact om)
  all_goals exact Qf.mk (Frz.of (Bu _))
def rowT:List (List (List UInt8))→List (List UInt8)
 | []=> []
 | [x]=>x
 | x::y::r=>x++ [44]::rowT (y::r)
theorem Ez: ∀ l:List Nd,(rowG (l.map sgN)).map Wh=rowT (l.map tk)
 | []=>rfl
 | [x]=>rfl
 | x::y::r=>by
  have ih:=Ez (y::r)
  simp only [List.map_cons] at ih ⊢
  rw [rowG,rowT,List.map_append,List.map_cons,ih]
  rfl
theorem rowT_snoc (x:List (List UInt8)): ∀ l:List (List (List UInt8)),rowT (l++ [x])=if l= [] then x else rowT l++ [44]::x
 | []=>rfl
 | [a]=>rfl
 | a::b::r=>by
  have ih:=rowT_snoc x (b::r)
  rw [if_neg (by simp)] at ih ⊢
  simp only [List.cons_append] at ih ⊢
  rw [rowT,ih,rowT,List.append_assoc,List.cons_append]
def Ws (l:List Nd):Nat:=(l.map fun k=>(tk k).length+1).sum
theorem Yk {K:Heap} {b n:Nat} {vs:List VV} {xs:List (List UInt8)} (hg:K.get b=some (.opt vs)) (hv:vs=xs.map Qe) (hn:n=xs.length):Frz K (.gs b n 1) (roT xs):=by
 subst hv hn
 exact Frz.gs hg (by simp) (Jg Qd xs)
theorem take_nd {l:List Nd} {i:Nat} {k:Nd} (h:l[i]? = some k):(l.take (i+1)).map tk=(l.take i).map tk++ [tk k]:=by
 rw [List.take_add_one,h,List.map_append]
 rfl
theorem row_call (l:List Nd) (hM:Ws l≤1000000) (hs: ∀ k∈l,∀ H,Qc Tryz.prog 26 [nV k] H (fun v K=>v=roT (tk k)∧K=H)) (H:Heap):Qc Tryz.prog 50 [.ro l.length (rowsN l)] H (fun v K=>v=roT (rowT (l.map tk))∧K=H):=by
 have hlen:l.length≤Ws l:=by
  unfold Ws
  clear hM hs
  induction l with
  | nil=>simp
  | cons a r ih=>simp only [List.map_cons,List.sum_cons,List.length_cons];omega
 refine Qc.frozen (Q:=fun v K=>Frz K v (roT (rowT (l.map tk)))) (by simp only [List.mem_singleton,forall_eq];exact Qx (Qh l)) ?_ (fun v K h=>h)
 refine Qc.go Tryz.func50 rfl ?_
 have hk0:True:=trivial
 (repeat' (first|with_reducible refine And.intro ?_ ?_|(with_reducible intro hc;(try simp only [zz] at hc);try exact ct)|((conv=>whnf);first|(with_reducible first|refine And.intro ?_ ?_|intro hx|apply Val.via|apply Qi.via)|exact Is.mk rfl rfl|refine sp ?_|refine vx (by (first|exact Qv rfl rfl|exact Q6 hk0 rfl|exact Qa rfl rfl rfl|rfl)) ?_|refine dY ?_|fail|refine sq ?_)))
 (all_goals try exact om)
 (refine Ji.mk (GWP.loopB [] (fun (a:Nat×List (List UInt8))=>a.1≤l.length∧a.2=rowT ((l.take a.1).map tk)∧a.2.length+Ws (l.drop a.1)≤Ws l) (fun a=> [(3,.gs 0 a.2.length 1),(8,iV a.1)]) (fun a=> [(0,.opt (a.2.map Qe))]) 1 (fun a=>l.length - a.1) (0,[]) ⟨Nat.zero_le _,rfl,by simp⟩ ?_);(conv=>whnf);refine And.intro ?_ ?_)
 ·focus (refine ka [] ?_ ?_;all_goals (repeat' (first|exact rz|refine And.intro ?_ ?_|refine Exists.intro _ (And.intro rfl ?_)|refine ro ?_|refine Qu.cons ?_ ?_|fail|exact rv)))
 rintro ⟨i,out⟩ ⟨g1,g2,g3⟩
 simp only at g1 g2 g3 ⊢
 by_cases hil:i < l.length
 ·obtain ⟨kd,hk0⟩:=Ze hil
  have kc:=hs kd (List.mem_of_getElem? hk0)
  have hnx:=rowT_snoc (tk kd) ((l.take i).map tk)
  rw [← take_nd hk0,← g2] at hnx
  have hsm:Ws (l.drop i)=(tk kd).length+1+Ws (l.drop (i+1)):=by rw [dropN_at hk0];rfl
  generalize hxs:tk kd=xs at *
  obtain ⟨op,tx,nm,kk⟩:=kd
  simp only [nV,cellsN,roT] at kc
  by_cases hi0:i=0
  ·subst hi0
   simp only [Nat.zero_add] at hsm
   obtain rfl:out= []:=g2
   rw [if_pos (by simp)] at hnx
   (repeat' (first|with_reducible refine And.intro ?_ ?_|(with_reducible intro hc;(try simp only [zz] at hc);try exact ct)|((conv=>whnf);first|(with_reducible first|refine And.intro ?_ ?_|intro hx|apply Val.via|apply Qi.via)|exact Is.mk rfl rfl|(first|(refine Qs (Qr.grow rfl sty_T (d:= .slice 9) Tryz.underlying69 (by intro k h;cases h) rfl (m:=xs.length) (l:=xs.map Qe) (by first|exact Qt _ _|rfl) (by first|exact Je _|rfl) rfl (by first|(simp;done)|(simp;omega)) (by omega) (by omega) ?_)))|refine sp ?_|refine vx (by (first|exact Qv rfl rfl|exact Q6 hk0 rfl|exact Qa rfl rfl rfl|rfl)) ?_|refine dY ?_|refine cl (kc _) ?_|refine sq ?_)))
   (all_goals try exact om)
   focus (refine Qf.mk ⟨(1,xs),⟨by simp only;omega,hnx.symm,by simp only [List.length_nil] at g3;simp only;omega⟩,?_,ka [(2,0)] ?_ ?_⟩;(first|omega|(simp only;omega));all_goals (repeat' (first|exact rz|refine And.intro ?_ ?_|refine Exists.intro _ (And.intro rfl ?_)|refine ro ?_|refine Qu.cons ?_ ?_|(first|exact Qn.eq (Qz (by omega)) (Qb _)|exact Qu.eq (by simp) (Jg Qd _))|exact rv)))
  ·rw [if_neg (by intro h;have:=congrArg List.length h;simp only [List.length_map,List.length_take,List.length_nil] at this;omega)] at hnx
   (repeat' (first|with_reducible refine And.intro ?_ ?_|(with_reducible intro hc;(try simp only [zz] at hc);try exact ct)|((conv=>whnf);first|(with_reducible first|refine And.intro ?_ ?_|intro hx|apply Val.via|apply Qi.via)|exact Is.mk rfl rfl|(first|(refine Qs (Qr.grow rfl sty_T (d:= .slice 9) Tryz.underlying69 (by intro k h;cases h) rfl (m:=1) (l:= [Qe [44]]) (by first|exact Qt _ _|rfl) (by first|exact Je _|rfl) rfl (by first|(simp;done)|(simp;omega)) (by omega) (by omega) ?_))|(refine Qs (Qr.grow rfl sty_T (d:= .slice 9) Tryz.underlying69 (by intro k h;cases h) rfl (m:=xs.length) (l:=xs.map Qe) (by first|exact Qt _ _|rfl) (by first|exact Je _|rfl) rfl (by first|(simp;done)|(simp;omega)) (by omega) (by omega) ?_)))|refine sp ?_|refine vx (by (first|exact Qv rfl rfl|exact Q6 hk0 rfl|exact Qa rfl rfl rfl|rfl)) ?_|refine dY ?_|refine cl (kc _) ?_|refine sq ?_)))
   (all_goals try exact om)
   focus (refine Qf.mk ⟨(i+1,out++ [44]::xs),⟨by simp only;omega,hnx.symm,by simp only [List.length_append,List.length_cons];omega⟩,?_,ka [(4,0)] ?_ ?_⟩;(first|omega|(simp only;omega));all_goals (repeat' (first|exact rz|refine And.intro ?_ ?_|refine Exists.intro _ (And.intro rfl ?_)|refine ro ?_|refine Qu.cons ?_ ?_|(first|exact Qn.eq (Qz (by omega)) (Qb _)|exact Qu.eq (by simp) (Jg Qd _))|exact rv)))
 ·obtain rfl:i=l.length:=by omega
  rw [List.take_length] at g2
  (repeat' (first|with_reducible refine And.intro ?_ ?_|(with_reducible intro hc;(try simp only [zz] at hc);try exact ct)|((conv=>whnf);first|(with_reducible first|refine And.intro ?_ ?_|intro hx|apply Val.via|apply Qi.via)|exact Is.mk rfl rfl|refine sp ?_|refine vx (by (first|exact Qv rfl rfl|exact Q6 hk0 rfl|exact Qa rfl rfl rfl|rfl)) ?_|refine dY ?_|fail|refine sq ?_)))
  (all_goals try exact om)
  all_goals exact Qf.mk (Yk rfl (by rw [g2]) (by rw [g2]))
end Go.Proofs.YtnmjdjldbloefaaGreatDoor
