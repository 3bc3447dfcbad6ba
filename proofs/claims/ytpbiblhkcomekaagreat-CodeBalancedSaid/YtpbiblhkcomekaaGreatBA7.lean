import Derived.Test.YtpbiblhkcomekaaGreatBE5
import Derived.Test.YtpbiblhkcomekaaGreatBA6
/- code.Compile, walked: what it makes is what the plain words say. -/
namespace Go.Proofs.YtpbiblhkcomekaaGreat
open Go Go.RowKit
set_option linter.unusedSimpArgs false
set_option linter.unusedVariables false
set_option maxRecDepth 100000
set_option maxHeartbeats 8000000
theorem Nu: ∀ (l:List Nd) (b:Nd),cntL (l++ [b])=cntL l+cntN b
 | [],b=>by simp [cntL]
 | x::r,b=>by rw [List.cons_append,cntL,cntL,Nu r b];omega
def pgO (p q a b:Nat) (g:Pgm):List (Nat×VObj) :=
 [(p,.cells true [.gs a g.names.length 1,.gs b g.consts.length 3,.mp q,roS (ofL ltS g.calls)]),(q,.map (g.hs.map fun h=>strK h.name) (g.hs.map hV)),(a,.opt (nmR g.names)),(b,.opt (Yy g.consts))]
def resC (r:Nat ⊕ Pgm) (v:VV) (K:Heap):Prop:=match r with
 | .inl e=>v= .tp [.sc (.pointer none),iV e]∧K=⟨[],0⟩
 | .inr g=>v= .tp [.ptr 0 0,iV 0]∧K=⟨pgO 0 1 2 3 g,4⟩
theorem Bl {e:Nat} {v:VV} {K:Heap} (h:v= .tp [.sc (.pointer none),iV e]):FinR 0 (resC (.inl e)) v K:=by
 subst h
 exact ⟨[],_,[],0,rfl,rfl,rfl,.of (Qt (by intro v hv;simp only [List.mem_cons,List.not_mem_nil,or_false] at hv;rcases hv with rfl|rfl <;> exact Qb _)),trivial,rfl,rfl⟩
theorem compile_call (op0 nm0:Nat) (tx0:List UInt8) (ks:List Nd) (hN:cntN (.mk op0 tx0 nm0 ks)≤40000) (hH: ∀ h∈ks,HOk h) (hdup:dupB [] ks=false):Qc Tryz.prog 20 [nV (.mk op0 tx0 nm0 ks)] ⟨[],0⟩ (resC (El (.mk op0 tx0 nm0 ks))):=by
 refine Qc.fin ?_
 have hcl:=coll_at _ hN
 have hbc:=Bc.all (s:=⟨[],[],[]⟩) (k:=0) (walkN 0 (.mk op0 tx0 nm0 ks)) ⟨by simp,by simp,by simp⟩
 rw [Uk,Nat.zero_add] at hbc
 unfold El
 simp only
 generalize Xg (walkN 0 (.mk op0 tx0 nm0 ks)) ⟨[],[],[]⟩=σ at *
 have hx:Qd (roS (ofL ltS σ.calls)):=Qx (Jf Qj _)
 generalize hxv:roS (ofL ltS σ.calls)=x at *
 rw [cntN] at hN hbc
 have hlen:=X2 ks
 have hn1:=hbc.names
 have hn2:=hbc.consts
 have hk:True:=trivial
 have hrow:True:=trivial
 have hj:True:=trivial
 have hkb:True:=trivial
 have hlx:True:=trivial
 rw [nV,cellsN] at hcl
 rw [nV,cellsN]
 by_cases h32:32 < σ.names.length
 ·rw [if_pos h32]
  refine Qc.go Tryz.func20 rfl ?_
  (repeat' (first|with_reducible refine And.intro ?_ ?_|(with_reducible intro hc;(try simp only [zz] at hc);try exact ct)|((conv=>whnf);first|(with_reducible first|refine And.intro ?_ ?_|intro hx|apply Val.via|apply Qk.via)|exact Is.mk rfl rfl|refine sp ?_|refine vx (by (first|exact Ql rfl rfl|exact Qm hk rfl|exact X7 hrow hj rfl|exact Qm hkb (idxk hlx)|exact Qa rfl rfl rfl|rfl)) ?_|refine dY ?_|refine cl (hcl _ rfl rfl) ?_|refine sq ?_)))
  (all_goals try exact om)
  all_goals exact Qg.mk (Bl rfl)
 rw [if_neg h32]
 generalize hR:compL ks σ.names σ.consts false []=R
 refine Qc.go Tryz.func20 rfl ?_
 (repeat' (first|with_reducible refine And.intro ?_ ?_|(with_reducible intro hc;(try simp only [zz] at hc);try exact ct)|((conv=>whnf);first|(with_reducible first|refine And.intro ?_ ?_|intro hx|apply Val.via|apply Qk.via)|exact Is.mk rfl rfl|refine sp ?_|refine vx (by (first|exact Ql rfl rfl|exact Qm hk rfl|exact X7 hrow hj rfl|exact Qm hkb (idxk hlx)|exact Qa rfl rfl rfl|rfl)) ?_|refine dY ?_|refine cl (hcl _ rfl rfl) ?_|refine sq ?_)))
 (all_goals try exact om)
 (refine Ju.mk (GWP.loopB [1,2,3,4] (fun (a:Nat×List (List UInt8)×List Cst×Bool×List Hnd×Nat)=>a.1≤ks.length∧compL (ks.drop a.1) a.2.1 a.2.2.1 a.2.2.2.1 a.2.2.2.2.1=R∧a.2.1.length≤a.2.2.2.2.2∧a.2.2.1.length≤a.2.2.2.2.2∧a.2.2.2.2.2+12*cntL (ks.drop a.1)≤1+cntL ks+12*cntL ks∧dupB (a.2.2.2.2.1.map (·.name)) (ks.drop a.1)=false) (fun a=> [(28,iV a.1),(5,Xk a.2.2.2.1)]) (fun a=> [(1,.map (a.2.2.2.2.1.map fun h=>strK h.name) (a.2.2.2.2.1.map hV)),(2,.cells true [.gs 5 a.2.1.length 1,.gs 6 a.2.2.1.length 3,.mp 1,x]),(5,.opt (nmR a.2.1)),(6,.opt (Yy a.2.2.1))]) 7 (fun a=>ks.length - a.1) (0,σ.names,σ.consts,false,[],1+cntL ks) ⟨Nat.zero_le _,hR,hn1,hn2,Nat.le_refl _,hdup⟩ ?_);(conv=>whnf);refine And.intro ?_ ?_)
 ·focus (refine ka [(3,5),(4,6)] ?_ ?_;all_goals (repeat' (first|exact rz|refine And.intro ?_ ?_|refine Exists.intro _ (And.intro rfl ?_)|refine ro ?_|refine Qe.cons ?_ ?_|(first|exact Qi.eq (congrArg (fun b=>VV.sc (.bool b)) (Bq _ _)) (Qb _)|exact Jx.map (ks:= []) Qe.nil|exact Qi.eq rfl (Qb _)|exact Qi.mpL (Nat.le_of_ble_eq_true rfl)|exact Qi.ptrL (Nat.le_of_ble_eq_true rfl)|exact Qi.gsN|exact Qi.of hx|exact Qi.eq (Q9 (by omega)) (Qb _)|exact Qe.of (Jb _)|exact Qe.of (Jg _)|exact Qe.of (Ug _))|exact rv)))
 rintro ⟨i,ns,cs,deep,out,j⟩ ⟨g1,g2,g3,g4,g5,g6⟩
 simp only at g1 g2 g3 g4 g5 g6 ⊢
 by_cases hil:i < ks.length
 ·as_aux_lemma =>
  clear hk hkb hlx hrow
  obtain ⟨kd,hk⟩:=Z4 hil
  obtain ⟨op,nm,tx,xs,b,rfl,hsb⟩:=hH kd (List.mem_of_getElem? hk)
  have hq:cntL (ks.drop i)≤cntL ks:=U3 ks i
  rw [Ky hk] at g2 g5 g6 hq
  rw [cntL,cntN] at g5 hq
  have hcb:=Xj b
  have hca:cntL (xs++ [b])=cntL xs+cntN b:=Nu xs b
  have hxl:=X2 xs
  rw [hca] at g5 hq
  have hlx:(xs++ [b]).length=xs.length+1:=by simp
  have hrow:=rowsN_take xs b
  simp only [compL,List.dropLast_concat,List.getLastD_concat,handS] at g2
  have hcn:(out.map (·.name)).contains tx=false:=by
   cases h:(out.map (·.name)).contains tx with
   | false=>rfl
   | true=>rw [dupB_yes h] at g6;cases g6
  rw [dupB_no hcn] at g6
  obtain ⟨hp1,hp2,hp3⟩:=Bn xs ns []
  have hbd:Bd ⟨(parL xs ns []).2,cs,[],0,0,0⟩ (j+xs.length):=⟨by simp only;omega,by simp only;omega,by simp,by simp,by simp only;omega,by simp only;omega,by simp only;omega,by simp only;omega,by intro x hx;cases hx⟩
  have hblk:=MkC.atG0 (s:=⟨(parL xs ns []).2,cs,[],0,0,0⟩) rfl hx (Qt (by simp)) (nl1 (Q0 b)) (show MkC 44 [.ptr 1 0,nV b] ⟨(parL xs ns []).2,cs,[],0,0,0⟩ (.tp []) (stmtM b true ⟨(parL xs ns []).2,cs,[],0,0,0⟩) from st_call (cntN b) true b _ _ hsb (Nat.le_refl _) hbd (by omega))
  have hb1:=(hsb.gr _ _ hbd).1
  rw [show ((1:Nat)==1)=true from rfl] at hb1
  simp only at hblk
  generalize hs1:stmtM b true ⟨(parL xs ns []).2,cs,[],0,0,0⟩=s1 at *
  have hput:=MkC.atG (s:=s1) hx (Qb _) nl4 (put_call s1 10 0 [] 0 (hb1.mono (by omega)) (by omega) (by omega) (by omega))
  have hb2:=hb1.put 10 0 [] 0 (j:=j+xs.length+10*cntN b+1) (by omega) (by omega) (by omega) (by omega) (by omega)
  generalize Qv 10 0 [] 0 s1=q1 at *
  obtain ⟨qi,m⟩:=q1
  simp only at g2 hb2 hput
  generalize hQ:parL xs ns []=Q at *
  obtain ⟨Q1,Q2⟩:=Q
  simp only at g2 hblk hp1 hp2 hp3 hQ
  obtain ⟨opb,txb,nmb,kkb⟩:=b
  have hkb:(xs++ [.mk opb txb nmb kkb])[xs.length]? = some (.mk opb txb nmb kkb):=by simp
  simp only [nV,cellsN] at hblk
  have hm1:=hb2.names
  have hm2:=hb2.consts
  (repeat' (first|with_reducible refine And.intro ?_ ?_|(with_reducible intro hc;(try simp only [zz] at hc);try exact ct)|((conv=>whnf);first|(with_reducible first|refine And.intro ?_ ?_|intro hx|apply Val.via|apply Qk.via)|exact Is.mk rfl rfl|refine sp ?_|refine vx (by (first|exact Ql rfl rfl|exact Qm hk rfl|exact X7 hrow hj rfl|exact Qm hkb (idxk hlx)|exact Qa rfl rfl rfl|rfl)) ?_|fail|refine sq ?_)))
  (all_goals try exact om)
  (refine Ju.mk (GWP.loopB [2,5,6,8] (fun (a:Nat×List (List UInt8)×List Nat)=>a.1≤xs.length∧parL (xs.drop a.1) a.2.1 a.2.2=(Q1,Q2)∧a.2.1.length≤j+a.1∧a.2.2.length=a.1) (fun a=> [(41,iV a.1)]) (fun a=> [(2,.cells true [.gs 9 a.2.1.length 1,.gs 10 cs.length 3,.mp 1,x]),(8,.cells true [.gs 11 a.2.2.length 1,.sc (.slice none 0 0)]),(9,.opt (nmR a.2.1)),(10,.opt (Yy cs)),(11,.opt (ivR a.2.2))]) 12 (fun a=>xs.length - a.1) (0,ns,[]) ⟨Nat.zero_le _,hQ,by simp only;omega,rfl⟩ ?_);(conv=>whnf);refine And.intro ?_ ?_)
  ·focus (refine ka [(5,9),(6,10)] ?_ ?_;all_goals (repeat' (first|exact rz|refine And.intro ?_ ?_|refine Exists.intro _ (And.intro rfl ?_)|refine ro ?_|refine Qe.cons ?_ ?_|(first|exact Qi.eq (congrArg (fun b=>VV.sc (.bool b)) (Bq _ _)) (Qb _)|exact Jx.map (ks:= []) Qe.nil|exact Qi.eq rfl (Qb _)|exact Qi.mpL (Nat.le_of_ble_eq_true rfl)|exact Qi.ptrL (Nat.le_of_ble_eq_true rfl)|exact Qi.gsN|exact Qi.of hx|exact Qi.eq (Q9 (by omega)) (Qb _)|exact Qe.of (Jb _)|exact Qe.of (Jg _)|exact Qe.of (Ug _))|exact rv)))
  rintro ⟨y,ns2,ps⟩ ⟨k1,k2,k3,k4⟩
  simp only at k1 k2 k3 k4 ⊢
  by_cases hyl:y < xs.length
  ·clear hj
   obtain ⟨pd,hj⟩:=Z4 hyl
   obtain ⟨op2,tx2,nm2,kk2⟩:=pd
   rw [drop_atF hj,parL] at k2
   have hpl:=plSAt (ns:=ns2) (cs:=cs) tx2 (by omega) hx
   have hpb:=(Z8 ns2 tx2).2.1
   generalize Jp ns2 tx2=q at *
   obtain ⟨pi,ns3⟩:=q
   simp only at k2 hpl hpb
   have hsi:ivR (ps++ [pi])=ivR ps++ [iV pi]:=ivR_snoc _ _
   (repeat' (first|with_reducible refine And.intro ?_ ?_|(with_reducible intro hc;(try simp only [zz] at hc);try exact ct)|((conv=>whnf);first|(with_reducible first|refine And.intro ?_ ?_|intro hx|apply Val.via|apply Qk.via)|exact Is.mk rfl rfl|refine sp ?_|refine vx (by (first|exact Ql rfl rfl|exact Qm hk rfl|exact X7 hrow hj rfl|exact Qm hkb (idxk hlx)|exact Qa rfl rfl rfl|rfl)) ?_|fail|refine sq ?_)))
   (all_goals try exact om)
   refine Ju.mk (GWP.drawM mixed 98 [7,9,11] (fun H=> [⟨coO 2 1 13 14 ns3 cs x++Qs [2,9,10] H.objs,15⟩,((⟨coO 2 1 13 14 ns3 cs x++Qs [2,9,10] H.objs,15⟩:Heap).del 11).add (.opt (ivR ps++ [iV pi])),(((⟨coO 2 1 13 14 ns3 cs x++Qs [2,9,10] H.objs,15⟩:Heap).del 11).add (.opt (ivR ps++ [iV pi]))).set 8 (.cells true [.gs 15 (ps.length+1) 1,.sc (.slice none 0 0)])]) (by kernel_rfl) (by rfl) ?_)
   repeat' (first|with_reducible refine And.intro ?_ ?_|(with_reducible intro hc;(try simp only [zz] at hc);try exact ct)|exact trivial|((conv=>whnf);first|with_reducible refine And.intro ?_ ?_|with_reducible intro hx|exact Is.mk rfl rfl|exact trivial|(with_reducible first|apply Val.via|apply Qk.via)|(refine GOp.drawn (by rfl) (by rfl) (Nat.le_of_ble_eq_true (by rfl)) (by rfl))|refine sp ?_|refine vx (by (first|exact Ql rfl rfl|exact Qm hk rfl|exact X7 hrow hj rfl|exact Qm hkb (idxk hlx)|exact Qa rfl rfl rfl|rfl)) ?_|(first|refine cl (hpl _ 2 1 9 10 13 rfl rfl rfl rfl (Nm4.mk (by decide))) ?_|(refine Qw (Qr.grow rfl sty_P (d:= .slice 3) Tryz.underlying35 (by intro k h;cases h) rfl (m:=1) (l:= [iV pi]) (by rfl) (by rfl) rfl (Cl _) (by omega) (by omega) ?_)))|refine sq ?_))
   (all_goals try exact om)
   focus (refine Qg.mk ⟨(y+1,ns3,ps++ [pi]),⟨by omega,k2,by simp only;omega,by simp only [List.length_append,List.length_singleton];omega⟩,?_,ka [(13,9),(14,10),(15,11)] ?_ ?_⟩;(first|omega|(simp only;omega));all_goals (repeat' (first|exact rz|refine And.intro ?_ ?_|refine Exists.intro _ (And.intro rfl ?_)|refine ro ?_|refine Qe.cons ?_ ?_|(first|exact Qe.eq hsi.symm (Ug _)|(first|exact Qi.eq (congrArg (fun b=>VV.sc (.bool b)) (Bq _ _)) (Qb _)|exact Jx.map (ks:= []) Qe.nil|exact Qi.eq rfl (Qb _)|exact Qi.mpL (Nat.le_of_ble_eq_true rfl)|exact Qi.ptrL (Nat.le_of_ble_eq_true rfl)|exact Qi.gsN|exact Qi.of hx|exact Qi.eq (Q9 (by omega)) (Qb _)|exact Qe.of (Jb _)|exact Qe.of (Jg _)|exact Qe.of (Ug _)))|exact rv)))
  ·obtain rfl:y=xs.length:=by omega
   rw [List.drop_length,parL] at k2
   obtain ⟨rfl,rfl⟩:=Prod.mk.inj k2
   by_cases h8:8192 < m.l.length
   ·rw [if_pos h8] at g2
    subst g2
    (repeat' (first|with_reducible refine And.intro ?_ ?_|(with_reducible intro hc;(try simp only [zz] at hc);try exact ct)|((conv=>whnf);first|(with_reducible first|refine And.intro ?_ ?_|intro hx|apply Val.via|apply Qk.via)|exact Is.mk rfl rfl|refine sp ?_|refine vx (by (first|exact Ql rfl rfl|exact Qm hk rfl|exact X7 hrow hj rfl|exact Qm hkb (idxk hlx)|exact Qa rfl rfl rfl|rfl)) ?_|refine dY ?_|(first|refine cl (hblk _ 2 12 1 9 10 13 rfl rfl rfl rfl rfl (Nm6.mk (by decide))) ?_|refine cl (hput _ 2 12 1 13 14 15 16 rfl rfl rfl rfl rfl rfl (Nm6.mk (by decide))) ?_)|refine sq ?_)))
    (all_goals try exact om)
    all_goals exact Qg.mk (Bl rfl)
   rw [if_neg h8] at g2
   have hmn:(out.map fun h=>strK h.name)=(out.map (·.name)).map strK:=by simp
   have hmr: ∀ (R:List (Nat×Nat)) (t:Nat),Jx R t (.map ((out.map (·.name)).map strK++ [strK tx]) (out.map hV++ [hV ⟨tx,ps,m.l⟩])) (.map ((out++ [(⟨tx,ps,m.l⟩:Hnd)]).map fun h=>strK h.name) ((out++ [(⟨tx,ps,m.l⟩:Hnd)]).map hV)):=fun R t=>by
    have e1:(out++ [(⟨tx,ps,m.l⟩:Hnd)]).map (fun h=>strK h.name)=(out.map (·.name)).map strK++ [strK tx]:=by simp
    have e2:(out++ [(⟨tx,ps,m.l⟩:Hnd)]).map hV=out.map hV++ [hV ⟨tx,ps,m.l⟩]:=by simp
    rw [e1,e2]
    exact .map (Qe.of fun v hv=>by
     rcases List.mem_append.1 hv with h|h
     ·obtain ⟨z,_,rfl⟩:=List.mem_map.1 h
      exact hV_nl z
     ·rw [List.mem_singleton] at h
      subst h
      exact hV_nl _)
   rw [hmn]
   cases deep with
   | true =>
    (repeat' (first|with_reducible refine And.intro ?_ ?_|(with_reducible intro hc;(try simp only [zz] at hc);try exact ct)|((conv=>whnf);first|(with_reducible first|refine And.intro ?_ ?_|intro hx|apply Val.via|apply Qk.via)|exact Is.mk rfl rfl|refine sp ?_|refine vx (by (first|exact Ql rfl rfl|exact Qm hk rfl|exact X7 hrow hj rfl|exact Qm hkb (idxk hlx)|exact Qa rfl rfl rfl|rfl)) ?_|(first|refine cl (hblk _ 2 12 1 9 10 13 rfl rfl rfl rfl rfl (Nm6.mk (by decide))) ?_|refine cl (hput _ 2 12 1 13 14 15 16 rfl rfl rfl rfl rfl rfl (Nm6.mk (by decide))) ?_)|refine sq ?_)))
    (all_goals try exact om)
    refine Ju.mk (GWP.drawM mixed 98 [7] (fun H=> [((H.del 11).del 18).set 1 (.map ((out.map (·.name)).map strK++ [strK tx]) (out.map hV++ [hV ⟨tx,ps,m.l⟩]))]) (by kernel_rfl) (by rfl) ?_)
    repeat' (first|with_reducible refine And.intro ?_ ?_|(with_reducible intro hc;(try simp only [zz] at hc);try exact ct)|exact trivial|((conv=>whnf);first|with_reducible refine And.intro ?_ ?_|with_reducible intro hx|exact Is.mk rfl rfl|exact trivial|(with_reducible first|apply Val.via|apply Qk.via)|(refine Qw (Qr.frz2a 94 rfl rfl (Cl _) (Qr.frz2b 94 rfl rfl (Zc _) (Qr.mupdH (seen:=out.map (·.name)) (tx:=tx) rfl rfl rfl rfl rfl (by simp) hcn ?_))))|refine sp ?_|refine vx (by (first|exact Ql rfl rfl|exact Qm hk rfl|exact X7 hrow hj rfl|exact Qm hkb (idxk hlx)|exact Qa rfl rfl rfl|rfl)) ?_|fail|refine sq ?_))
    (all_goals try exact om)
    focus (refine Qg.mk ⟨(i+1,m.names,m.consts,true,out++ [(⟨tx,ps,m.l⟩:Hnd)],j+xs.length+10*(cntN (.mk opb txb nmb kkb))+1),⟨by omega,g2,hm1,hm2,by simp only;omega,by simp only [List.map_append,List.map_cons,List.map_nil];exact g6⟩,?_,ka [(16,5),(17,6)] ?_ ?_⟩;(first|omega|(simp only;omega));all_goals (repeat' (first|exact rz|refine And.intro ?_ ?_|refine Exists.intro _ (And.intro rfl ?_)|refine ro ?_|refine Qe.cons ?_ ?_|(first|exact hmr _ _|(first|exact Qi.eq (congrArg (fun b=>VV.sc (.bool b)) (Bq _ _)) (Qb _)|exact Jx.map (ks:= []) Qe.nil|exact Qi.eq rfl (Qb _)|exact Qi.mpL (Nat.le_of_ble_eq_true rfl)|exact Qi.ptrL (Nat.le_of_ble_eq_true rfl)|exact Qi.gsN|exact Qi.of hx|exact Qi.eq (Q9 (by omega)) (Qb _)|exact Qe.of (Jb _)|exact Qe.of (Jg _)|exact Qe.of (Ug _)))|exact rv)))
   | false =>
    (repeat' (first|with_reducible refine And.intro ?_ ?_|(with_reducible intro hc;(try simp only [zz] at hc);try exact ct)|((conv=>whnf);first|(with_reducible first|refine And.intro ?_ ?_|intro hx|apply Val.via|apply Qk.via)|exact Is.mk rfl rfl|refine sp ?_|refine vx (by (first|exact Ql rfl rfl|exact Qm hk rfl|exact X7 hrow hj rfl|exact Qm hkb (idxk hlx)|exact Qa rfl rfl rfl|rfl)) ?_|(first|refine cl (hblk _ 2 12 1 9 10 13 rfl rfl rfl rfl rfl (Nm6.mk (by decide))) ?_|refine cl (hput _ 2 12 1 13 14 15 16 rfl rfl rfl rfl rfl rfl (Nm6.mk (by decide))) ?_)|refine sq ?_)))
    (all_goals try exact om)
    refine Ju.mk (GWP.drawM mixed 98 [7] (fun H=> [((H.del 11).del 18).set 1 (.map ((out.map (·.name)).map strK++ [strK tx]) (out.map hV++ [hV ⟨tx,ps,m.l⟩]))]) (by kernel_rfl) (by rfl) ?_)
    repeat' (first|with_reducible refine And.intro ?_ ?_|(with_reducible intro hc;(try simp only [zz] at hc);try exact ct)|exact trivial|((conv=>whnf);first|with_reducible refine And.intro ?_ ?_|with_reducible intro hx|exact Is.mk rfl rfl|exact trivial|(with_reducible first|apply Val.via|apply Qk.via)|(refine Qw (Qr.frz2a 94 rfl rfl (Cl _) (Qr.frz2b 94 rfl rfl (Zc _) (Qr.mupdH (seen:=out.map (·.name)) (tx:=tx) rfl rfl rfl rfl rfl (by simp) hcn ?_))))|refine sp ?_|refine vx (by (first|exact Ql rfl rfl|exact Qm hk rfl|exact X7 hrow hj rfl|exact Qm hkb (idxk hlx)|exact Qa rfl rfl rfl|rfl)) ?_|fail|refine sq ?_))
    (all_goals try exact om)
    focus (refine Qg.mk ⟨(i+1,m.names,m.consts,decide (128 < m.most),out++ [(⟨tx,ps,m.l⟩:Hnd)],j+xs.length+10*(cntN (.mk opb txb nmb kkb))+1),⟨by omega,g2,hm1,hm2,by simp only;omega,by simp only [List.map_append,List.map_cons,List.map_nil];exact g6⟩,?_,ka [(16,5),(17,6)] ?_ ?_⟩;(first|omega|(simp only;omega));all_goals (repeat' (first|exact rz|refine And.intro ?_ ?_|refine Exists.intro _ (And.intro rfl ?_)|refine ro ?_|refine Qe.cons ?_ ?_|(first|exact hmr _ _|(first|exact Qi.eq (congrArg (fun b=>VV.sc (.bool b)) (Bq _ _)) (Qb _)|exact Jx.map (ks:= []) Qe.nil|exact Qi.eq rfl (Qb _)|exact Qi.mpL (Nat.le_of_ble_eq_true rfl)|exact Qi.ptrL (Nat.le_of_ble_eq_true rfl)|exact Qi.gsN|exact Qi.of hx|exact Qi.eq (Q9 (by omega)) (Qb _)|exact Qe.of (Jb _)|exact Qe.of (Jg _)|exact Qe.of (Ug _)))|exact rv)))
 ·as_aux_lemma =>
  obtain rfl:i=ks.length:=by omega
  rw [List.drop_length,compL] at g2
  cases deep with
  | true =>
   rw [if_pos rfl] at g2
   subst g2
   (repeat' (first|with_reducible refine And.intro ?_ ?_|(with_reducible intro hc;(try simp only [zz] at hc);try exact ct)|((conv=>whnf);first|(with_reducible first|refine And.intro ?_ ?_|intro hx|apply Val.via|apply Qk.via)|exact Is.mk rfl rfl|refine sp ?_|refine vx (by (first|exact Ql rfl rfl|exact Qm hk rfl|exact X7 hrow hj rfl|exact Qm hkb (idxk hlx)|exact Qa rfl rfl rfl|rfl)) ?_|refine dY ?_|fail|refine sq ?_)))
   (all_goals try exact om)
   all_goals exact Qg.mk (Bl rfl)
  | false =>
   rw [if_neg (by decide)] at g2
   subst g2 hxv
   (repeat' (first|with_reducible refine And.intro ?_ ?_|(with_reducible intro hc;(try simp only [zz] at hc);try exact ct)|((conv=>whnf);first|(with_reducible first|refine And.intro ?_ ?_|intro hx|apply Val.via|apply Qk.via)|exact Is.mk rfl rfl|refine sp ?_|refine vx (by (first|exact Ql rfl rfl|exact Qm hk rfl|exact X7 hrow hj rfl|exact Qm hkb (idxk hlx)|exact Qa rfl rfl rfl|rfl)) ?_|refine dY ?_|fail|refine sq ?_)))
   (all_goals try exact om)
   all_goals refine Qg.mk ⟨[(2,0),(1,1),(5,2),(6,3)],.tp [.ptr 0 0,iV 0],pgO 0 1 2 3 ⟨ns,cs,out,σ.calls⟩,4,rfl,rfl,rfl,.tp (.cons (.ptr (b:=2) (by decide)) (.cons (.of (Qb _)) .nil)),?_,rfl,rfl⟩
   exact ⟨⟨_,rfl,Eo hx (by decide) (by decide) (by decide)⟩,⟨_,rfl,.map (Qe.of fun v hv=>by obtain ⟨z,_,rfl⟩:=List.mem_map.1 hv;exact hV_nl z)⟩,⟨_,rfl,.opt (Qe.of (Jb _))⟩,⟨_,rfl,.opt (Qe.of (Jg _))⟩,trivial⟩
end Go.Proofs.YtpbiblhkcomekaaGreat
