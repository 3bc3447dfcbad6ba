import Derived.Test.YtpbiblhkcomekaaGreatBU1
import Derived.Test.YtpbiblhkcomekaaGreatBE5
import Derived.Test.YtpbiblhkcomekaaGreatBH1
/- code.Compile in plain words. -/
namespace Go.Proofs.YtpbiblhkcomekaaGreat
open Go Go.RowKit
set_option linter.unusedSimpArgs false
set_option linter.unusedVariables false
structure Ins where
 op:Nat
 a:Nat
 text:List UInt8
deriving DecidableEq
structure Cst where
 kind:Nat
 num:Nat
 text:List UInt8
deriving DecidableEq
structure MkS where
 names:List (List UInt8)
 consts:List Cst
 l:List Ins
 fixed:Nat
 depth:Int
 most:Int
def Dw {α:Type} [DecidableEq α]:List α→α→Nat
 | [],_=>0
 | y::r,x=>if x=y then 0 else Dw r x+1
def Jp {α:Type} [DecidableEq α] (l:List α) (x:α):Nat×List α:=if x∈l then (Dw l x,l) else (l.length,l++ [x])
def cstN:Nd→Option Cst
 | .mk op tx nm _=>if op=8 then some (if nm≤2147483648 then ⟨1,nm,[]⟩ else ⟨0,0,[]⟩) else if op=9 then some (if tx.length≤4096 then ⟨2,0,tx⟩ else ⟨0,0,[]⟩) else if op=10 then some ⟨0,0,[]⟩ else none
def Qv (op a:Nat) (t:List UInt8) (g:Int) (m:MkS):Nat×MkS :=
 match m.l.getLast? with
 | some x=>if op=0∧m.fixed < m.l.length∧x.op=0 then (m.l.length - 1,{m with l:=m.l.dropLast++ [⟨x.op,x.a+a,x.text⟩],depth:=m.depth+g,most:=max m.most (m.depth+g)})
  else (m.l.length,{m with l:=m.l++ [⟨op,a,t⟩],depth:=m.depth+g,most:=max m.most (m.depth+g)})
 | none=>(m.l.length,{m with l:=m.l++ [⟨op,a,t⟩],depth:=m.depth+g,most:=max m.most (m.depth+g)})
def Z9 (m:MkS):MkS:= {m with fixed:=m.l.length}
def Ux (i:Nat) (l:List Ins):List Ins :=
 match l[i]? with
 | some x=>l.set i ⟨x.op,l.length,x.text⟩
 | none=>l
def Ye (i:Nat) (m:MkS):MkS:= {m with l:=Ux i m.l,fixed:=m.l.length}
def Xz (x:List UInt8) (m:MkS):Nat×MkS:=((Jp m.names x).1,{m with names:=(Jp m.names x).2})
def Kq (x:Cst) (m:MkS):Nat×MkS:=((Jp m.consts x).1,{m with consts:=(Jp m.consts x).2})
mutual
def exprM:Nd→MkS→MkS
 | .mk op tx nm ks,m =>
  let m1:=exprL ks (Qv 0 1 [] 0 m).2
  if op=11 then (Qv 2 (Xz tx m1).1 [] 1 (Xz tx m1).2).2
  else if op=13 then (Qv 5 0 tx (-1) m1).2
  else if op=14 then (Qv 6 0 tx 0 m1).2
  else if op=12 then (Qv 7 ks.length tx (1 - ks.length) m1).2
  else (Qv 1 (Kq ((cstN (.mk op tx nm ks)).getD ⟨0,0,[]⟩) m1).1 [] 1 (Kq ((cstN (.mk op tx nm ks)).getD ⟨0,0,[]⟩) m1).2).2
def exprL:List Nd→MkS→MkS
 | [],m=>m
 | k::r,m=>exprL r (exprM k m)
end
mutual
def stmtM:Nd→Bool→MkS→MkS
 | .mk _ _ _ ks,true,m=>stmtLM ks m
 | .mk op tx _ ks,false,m =>
  let m0:=if op=6 then Z9 m else m
  let m1:=(Qv 0 1 [] 0 m0).2
  match ks with
  | []=>if op=7 then (Qv 10 0 [] 0 m1).2 else m1
  | k::r =>
   let m2:=exprM k m1
   if op=3 then (Qv 3 (Xz tx m2).1 [] (-1) (Xz tx m2).2).2
   else if op=4 then (Qv 4 0 [] (-1) m2).2
   else match r with
    | []=>m1
    | b::r2 =>
     let u:=Qv 9 0 [] (-1) m2
     let m3:=stmtM b true u.2
     if op=5 then (match r2 with
      | []=>Ye u.1 m3
      | c::_ =>
       let j:=Qv 8 0 [] 0 m3
       Ye j.1 (stmtM c true (Ye u.1 j.2)))
     else if op=6 then Ye u.1 (Qv 8 m.l.length [] 0 m3).2
     else m1
def stmtLM:List Nd→MkS→MkS
 | [],m=>m
 | k::r,m=>stmtLM r (stmtM k false m)
end
structure Hnd where
 name:List UInt8
 params:List Nat
 code:List Ins
end Go.Proofs.YtpbiblhkcomekaaGreat
namespace Go.Proofs.YtpbiblhkcomekaaGreat
open Go Go.RowKit
set_option linter.unusedSimpArgs false
set_option linter.unusedVariables false
section
variable {P:Program} {f:FuncId} {args:List VV} {H:Heap}
abbrev FinR (n0:Nat) (Q':VV→Heap→Prop) (v:VV) (K:Heap):Prop:= ∃ (R:List (Nat×Nat)) (u:VV) (O2:List (Nat×VObj)) (nx:Nat),(wfR 0 nx R&&nodupB (Zy R 0 O2)&&O2.all (fun p=>(srcN R p.1).isSome)&&O2.all (fun p=>p.2.rw))=true∧R.all (fun p=>match Nat.blt p.2 n0 with
  | true=>Nat.beq p.1 p.2
  | false=>true)=true∧Nat.ble n0 nx=true∧Qi R 0 v u∧W1 R 0 K O2∧Q' u ⟨O2,nx⟩
theorem fin_core {Q':VV→Heap→Prop} {B:World} {M Z Z':Nat→Prop} {ρ ρ2:Nat→Option (Nat×Nat)} {w w':World} {v:VV} {v':Value} {K1:Heap} {e:Ending} (he:e= .returned v') (h1:Rel B M Z ρ H w) (q:FinR H.next Q' v K1) (e1:Ext (own B M) H.next Z ρ w K1.next Z' ρ2 w') (r2:Rel B M Z' ρ2 K1 w') (v2:Qf w' Z' ρ2 v v') :
  ∃ v' v H' Z' ρ',e= .returned v'∧Q' v H'∧Ext (own B M) H.next Z ρ w H'.next Z' ρ' w'∧Rel B M Z' ρ' H' w'∧Qf w' Z' ρ' v v':=by
 obtain ⟨R2,u,O2,nx2,hwf,hid,hnx,hval,hobj,q'⟩:=q
 simp only [Bool.and_eq_true] at hwf
 obtain ⟨⟨⟨w1,w2⟩,w3⟩,w4⟩:=hwf
 have hnx:=Nat.le_of_ble_eq_true hnx
 have hO:=hobj.toH
 have key: ∀ p∈R2,(if p.2 < H.next then ρ p.2 else (srcN R2 p.2).bind ρ2)=ρ2 p.1:=by
  intro p hp
  obtain ⟨g1,g2,g3⟩:=Xe w1 p hp
  by_cases hlt:p.2 < H.next
  ·rw [if_pos hlt]
   have h4:=List.all_eq_true.1 hid p hp
   rw [Qz.2 hlt] at h4
   have h5:p.1=p.2:=Nat.eq_of_beq_eq_true h4
   rw [h5]
   exact (e1.rold p.2 hlt).symm
  ·rw [if_neg hlt,g3];rfl
 have hl2:N6 R2 0 ρ2 (fun b=>if b < H.next then ρ b else (srcN R2 b).bind ρ2):=⟨fun b hb=>by omega,fun p hp c hc=>by
  show (if p.2 < H.next then ρ p.2 else (srcN R2 p.2).bind ρ2)=some c
  rw [key p hp];exact hc⟩
 refine ⟨v',u,_,Z',fun b=>if b < H.next then ρ b else (srcN R2 b).bind ρ2,he,q',⟨hnx,fun b hb=>if_pos hb,e1.zsub,fun b k hk=> ?_,e1.keep,e1.size,e1.znew⟩,?_,hval _ _ _ _ _ hl2 v2⟩
 ·have hlt:b < H.next:=by
   rcases Nat.lt_or_ge b H.next with g|g
   ·exact g
   ·rw [h1.dom b g] at hk;cases hk
  rw [if_pos hlt];exact hk
 ·have src: ∀ b y,hget O2 b=some y→ ∃ a x,srcN R2 b=some a∧K1.get a=some x∧Jx R2 0 x y:=fun b y hy=>by
   rcases hO.get hy with ⟨g1,g2,g3⟩|⟨a,x,g1,g2,g3,g4,g5⟩
   ·have:=List.all_eq_true.1 w3 _ g3
    simp only at this
    rw [Q7] at g1
    rw [g1] at this
    cases this
   ·exact ⟨a,x,(Q7 R2 b).symm.trans g1,g2,g3⟩
  refine ⟨r2.glob,r2.os,r2.tape,r2.output,r2.size,r2.frame,fun b hb=> ?_,fun b x hx=> ?_,?_,?_,r2.zlt⟩
  ·have hb:nx2≤b:=hb
   show (if b < H.next then ρ b else (srcN R2 b).bind ρ2)=none
   rw [if_neg (by omega)]
   cases hs:srcN R2 b with
   | none=>rfl
   | some a =>
    have:=(Xe w1 _ (Xr hs)).2.1
    simp only at this
    omega
  ·obtain ⟨a,x0,g1,_⟩:=src b x hx
   exact (Xe w1 _ (Xr g1)).2.1
  ·intro b b' k N N' x x' hx hx' hb hb'
   obtain ⟨a,x0,g1,g2,g3⟩:=src b x hx
   obtain ⟨a',x0',g1',g2',g3'⟩:=src b' x' hx'
   have e2:=key (a,b) (Xr g1)
   have e2':=key (a',b') (Xr g1')
   simp only at e2 e2' hb hb'
   rw [e2] at hb
   rw [e2'] at hb'
   have:=r2.inj a a' k N N' x0 x0' g2 g2' hb hb'
   subst this
   exact hO.inj w2 hx hx' ((Q7 R2 b).trans g1) ((Q7 R2 b').trans g1')
  ·intro b x hx
   obtain ⟨a,x0,g1,g2,g3⟩:=src b x hx
   have e2:=key (a,b) (Xr g1)
   simp only at e2
   show (x.ghost=true∧(if b < H.next then ρ b else (srcN R2 b).bind ρ2)=none)∨_
   rcases r2.obj a x0 g2 with ⟨q1,q2⟩|⟨k,N,o,q1,q2,q3,q4,q5⟩
   ·exact .inl ⟨g3.ghost q1,e2.trans q2⟩
   exact .inr ⟨k,N,o,e2.trans q1,q2,g3.orel hl2 q3,q4,fun h=>q5 (by rw [← g3.rw];exact h)⟩
theorem Qc.fin {Q':VV→Heap→Prop} (h:Qc P f args H (FinR H.next Q')):Qc P f args H Q':=fun B M Z ρ w ra h1 h2 =>
 (h B M Z ρ w ra h1 h2).mono fun e w' ⟨v',v,K1,Z',ρ2,he,q,e1,r2,v2⟩=>fin_core he h1 q e1 r2 v2
theorem J9.fin {l:Nat} {Q':VV→Heap→Prop} (h:J9 P l args H (fun v K=>Qg (FinR H.next Q' v K))):J9 P l args H Q':=fun B M Z ρ w ra k N hk h1 h2=>by
 obtain ⟨fn,tmps,asg,bd,hr,h⟩:=h B M Z ρ w ra k N hk h1 h2
 refine ⟨fn,tmps,asg,bd,hr,RoundIn.mono h ?_⟩
 rintro e w' ⟨v',v,K1,Z',ρ2,he,q,e1,r2,v2⟩
 exact fin_core he h1 q.out e1 r2 v2
end
theorem hset_hset (b:Nat) (x y:VObj): ∀ (O:List (Nat×VObj)),hset (hset O b x) b y=hset O b y
 | []=>by simp [hset]
 | (k,z)::r=>by
  have ih:=hset_hset b x y r
  cases e:Nat.beq k b <;> simp only [hset,e,ih]
theorem Kh {b:Nat} (x:VObj): ∀ {O:List (Nat×VObj)} {y:VObj},hget O b=some y→hget (hset O b x) b=some x
 | [],y,h=>by simp [hget] at h
 | (k,z)::r,y,h=>by
  cases e:Nat.beq k b with
  | true =>
   have e2:=Nat.eq_of_beq_eq_true e
   subst e2
   simp only [hset,e]
   rw [Qy,if_pos rfl]
  | false =>
   have e2: ¬ k=b:=fun h=>by subst h;rw [Nat.beq_refl] at e;cases e
   rw [Qy,if_neg e2] at h
   have ih:=Kh x h
   simp only [hset,e]
   rw [Qy,if_neg e2,ih]
theorem Qr.stOpt {P:Program} {o:Oper} {ts:List VV} {H:Heap} {K:VV→Heap→Prop} {b q q' n:Nat} {us l:List VV} {t:TypeId} {a x:Operand} (ho:o.op= .store t a x) (ha:Qh ts a= .ptr b q) (hx:cellsOf (Qh ts x)=some l) (hz:Jr P t=some n) (hn:l.length=n) (hle:q'+n≤us.length) (hg:H.get b=some (.opt us)) (hq:q=q') (k:K (.tp []) (H.set b (.opt (J3 us q' l)))):Qr P o ts H K:=by
 subst hq
 have h2:Nat.ble (q+l.length) us.length=true:=Nat.ble_eq_true_of_le (by omega)
 have h3:Nat.beq l.length n=true:=by rw [hn];exact Nat.beq_refl _
 have hv:vop P o ts (H.set b (.cells true us))=some (.tp [],(H.set b (.cells true us)).set b (.cells true (J3 us q l))):=by
  refine vop_store ho ?_
  rw [ha]
  have hg2:(H.set b (.cells true us)).get b=some (.cells true us):=Kh _ hg
  simp only [vstore,hg2,hx,hz,h3,h2,Bool.and_self]
 refine Qr.mk ⟨?_⟩
 intro B M Z ρ av w rr KK QE g1 g2 g3
 have hp:=J2 g2 a
 rw [ha] at hp
 have hex: ∃ kk N,ρ b=some (kk,N):=by
  generalize av.eval a=y at hp
  cases hp with
  | ptr h=>exact ⟨_,_,h⟩
 obtain ⟨kk,N,hk⟩:=hex
 refine (Q3.plain hv) B M Z ρ av w rr KK QE (g1.toCells hg hk) g2 ?_
 rintro v' v H' Z' ρ' w' ⟨rfl,rfl⟩ e1 r1 v1
 have r2:=r1.toOpt (b:=b) (vs:=J3 us q l) (Kh (y:= .cells true us) _ (Kh _ hg))
 refine g3 v' _ _ Z' ρ' w' k e1 ?_ v1
 have e3:((H.set b (.cells true us)).set b (.cells true (J3 us q l))).set b (.opt (J3 us q l))=H.set b (.opt (J3 us q l)):=by
  simp only [Heap.set,hset_hset]
 rw [e3] at r2
 exact r2
end Go.Proofs.YtpbiblhkcomekaaGreat
namespace Go.Proofs.YtpbiblhkcomekaaGreat
open Go Go.RowKit
set_option linter.unusedSimpArgs false
set_option linter.unusedVariables false
def Xy {α:Type} (f:α→List VV):List α→List VV
 | []=> []
 | x::r=>f x++Xy f r
section
variable {α:Type} {f:α→List VV} {z:Nat}
theorem Ce (hz: ∀ x,(f x).length=z): ∀ l:List α,(Xy f l).length=l.length*z
 | []=>by simp [Xy]
 | x::r=>by
  rw [Xy,List.length_append,hz,Ce hz r,List.length_cons,Nat.add_mul]
  omega
theorem Ni (x:α): ∀ l:List α,Xy f (l++ [x])=Xy f l++f x
 | []=>by simp only [List.nil_append,Xy,List.append_nil]
 | y::r=>by rw [List.cons_append,Xy,Xy,Ni x r,List.append_assoc]
theorem Dt (hn: ∀ x,∀ v∈f x,Qd v): ∀ l:List α,∀ v∈Xy f l,Qd v
 | [],v,h=>by simp [Xy] at h
 | x::r,v,h=>by
  rw [Xy] at h
  rcases List.mem_append.1 h with h|h
  ·exact hn x v h
  ·exact Dt hn r v h
theorem rowsF_at (hz: ∀ x,(f x).length=z) {j:Nat} (hj:j < z): ∀ {l:List α} {i:Nat} {x:α},l[i]? = some x→(Xy f l)[i*z+j]? = (f x)[j]?
 | [],i,x,h=>by simp at h
 | y::r,0,x,h=>by
  simp at h
  subst h
  rw [Xy,List.getElem?_append_left (by rw [hz];omega),Nat.zero_mul,Nat.zero_add]
 | y::r,i+1,x,h=>by
  rw [Xy,List.getElem?_append_right (by rw [hz,Nat.add_mul];omega),hz]
  have e:(i+1)*z+j - z=i*z+j:=by rw [Nat.add_mul];omega
  rw [e]
  exact rowsF_at hz hj (by simpa using h)
theorem rowsF_set (hz: ∀ x,(f x).length=z) {j:Nat} (hj:j < z) (v:VV) (x':α): ∀ {l:List α} {i:Nat} {x:α},l[i]? = some x→f x'=(f x).set j v→(Xy f l).set (i*z+j) v=Xy f (l.set i x')
 | [],i,x,h,_=>by simp at h
 | y::r,0,x,h,e=>by
  simp at h
  subst h
  rw [Xy,Nat.zero_mul,Nat.zero_add,List.set_append_left _ _ (by rw [hz];omega),← e,List.set_cons_zero,Xy]
 | y::r,i+1,x,h,e=>by
  have e2:(i+1)*z+j - z=i*z+j:=by rw [Nat.add_mul];omega
  rw [Xy,List.set_append_right _ _ (by rw [hz,Nat.add_mul];omega),hz,e2,rowsF_set hz hj v x' (by simpa using h) e,List.set_cons_succ,Xy]
end
def insC (x:Ins):List VV:= [iV x.op,iV x.a,Qn x.text]
def cstC (x:Cst):List VV:= [iV x.kind,iV x.num,Qn x.text]
def Xn (l:List Ins):List VV:=Xy insC l
def Yy (l:List Cst):List VV:=Xy cstC l
def nmR (l:List (List UInt8)):List VV:=l.map Qn
theorem Zz (x:Ins):(insC x).length=3:=rfl
theorem cstC_len (x:Cst):(cstC x).length=3:=rfl
theorem insC_nl (x:Ins): ∀ v∈insC x,Qd v:=fun v hv=>by
 simp only [insC,List.mem_cons,List.not_mem_nil,or_false] at hv
 rcases hv with rfl|rfl|rfl
 ·exact Qb _
 ·exact Qb _
 ·exact Qj _
theorem Nt (x:Cst): ∀ v∈cstC x,Qd v:=fun v hv=>by
 simp only [cstC,List.mem_cons,List.not_mem_nil,or_false] at hv
 rcases hv with rfl|rfl|rfl
 ·exact Qb _
 ·exact Qb _
 ·exact Qj _
theorem Yx (l:List Ins): ∀ v∈Xn l,Qd v:=Dt insC_nl l
theorem Jg (l:List Cst): ∀ v∈Yy l,Qd v:=Dt Nt l
theorem Jb (l:List (List UInt8)): ∀ v∈nmR l,Qd v:=Jf Qj l
theorem Zc (l:List Ins):(Xn l).length=l.length*3:=Ce Zz l
theorem cstR_len (l:List Cst):(Yy l).length=l.length*3:=Ce cstC_len l
theorem Wb (l:List (List UInt8)):(nmR l).length=l.length*1:=by unfold nmR;rw [List.length_map,Nat.mul_one]
theorem Ci (l:List Ins) (x:Ins):Xn (l++ [x])=Xn l++ [iV x.op,iV x.a,Qn x.text]:=Ni x l
theorem cstR_snoc (l:List Cst) (x:Cst):Yy (l++ [x])=Yy l++ [iV x.kind,iV x.num,Qn x.text]:=Ni x l
theorem Bo (l:List (List UInt8)) (x:List UInt8):nmR (l++ [x])=nmR l++ [Qn x]:=by unfold nmR;simp
def mkO (a b c:Nat) (s:MkS) (x:VV):List (Nat×VObj) :=
 [(0,.cells true [.gs a s.names.length 1,.gs b s.consts.length 3,.mp 2,x]),(1,.cells true [.ptr 0 0,.gs c s.l.length 3,iV s.fixed,iV s.depth,iV s.most]),(a,.opt (nmR s.names)),(b,.opt (Yy s.consts)),(c,.opt (Xn s.l))]
def MArg (v:VV):Prop:=Qd v∨ ∃ o,v= .ptr 0 o∨v= .ptr 1 o
def MkC (f:FuncId) (args:List VV) (s:MkS) (u:VV) (s':MkS):Prop:= ∀ x,Qd x→Qc Tryz.prog f args ⟨mkO 3 4 5 s x,6⟩ (fun v K=>v=u∧K=⟨mkO 6 7 8 s' x,9⟩)
theorem mkO_p {R:List (Nat×Nat)} {a b a' b' n k:Nat} {x:VV} (hx:Qd x) (ha:(a,a')∈R) (hb:(b,b')∈R) (h2:(2,2)∈R):Jx R 0 (.cells true [.gs a n 1,.gs b k 3,.mp 2,x]) (.cells true [.gs a' n 1,.gs b' k 3,.mp 2,x]):= .cells (.cons (.gs ha) (.cons (.gs hb) (.cons (.mp h2) (.cons (.of hx) .nil))))
theorem mkO_m {R:List (Nat×Nat)} {c c' n:Nat} {i d e:Int} (hc:(c,c')∈R) (h0:(0,0)∈R):Jx R 0 (.cells true [.ptr 0 0,.gs c n 3,iV i,iV d,iV e]) (.cells true [.ptr 0 0,.gs c' n 3,iV i,iV d,iV e]):= .cells (.cons (.ptr h0) (.cons (.gs hc) (.cons (.of (Qb _)) (.cons (.of (Qb _)) (.cons (.of (Qb _)) .nil)))))
theorem margs {R:List (Nat×Nat)} (h0:(0,0)∈R) (h1:(1,1)∈R): ∀ {l:List VV},(∀ v∈l,MArg v)→Qe R 0 l l
 | [],_=> .nil
 | v::r,h=>by
  refine .cons ?_ (margs h0 h1 fun u hu=>h u (List.mem_cons_of_mem _ hu))
  rcases h v (List.mem_cons_self ..) with hv|⟨o,rfl|rfl⟩
  ·exact .of hv
  ·exact .ptr h0
  ·exact .ptr h1
theorem C1 {N:Nat}: ∀ {R:List (Nat×Nat)},(∀ p∈R,p.2 < N)→(R.map (·.2)).Nodup→wfR 0 N R=true
 | [],_,_=>rfl
 | (a,b)::r,h,hn=>by
  rw [List.map_cons,List.nodup_cons] at hn
  have ih:=C1 (fun p hp=>h p (List.mem_cons_of_mem _ hp)) hn.2
  have h1:Nat.blt b N=true:=Qz.2 (h (a,b) (List.mem_cons_self ..))
  have h2:(srcN r b).isNone=true:=by
   cases e:srcN r b with
   | none=>rfl
   | some c=>exact absurd (List.mem_map.2 ⟨_,Xr e,rfl⟩) hn.1
  simp only [wfR,Nat.ble_eq_true_of_le (Nat.zero_le b),h1,h2,ih,Bool.and_self]
theorem Wg: ∀ {l:List Nat},l.Nodup→nodupB l=true
 | [],_=>rfl
 | a::r,h=>by
  rw [List.nodup_cons] at h
  simp only [nodupB,Wg h.2,Bool.and_true,List.all_eq_true]
  intro b hb
  have:Nat.beq a b=false:=Dg fun e=>h.1 (e ▸ hb)
  rw [this]
  rfl
structure Nm3 (a b c n:Nat):Prop where
 h:3≤a∧3≤b∧3≤c∧a≠b∧a≠c∧b≠c∧a < n∧b < n∧c < n
theorem MkC.at {f:FuncId} {args:List VV} {s s':MkS} {u x:VV} {a b c n:Nat} (hb:Nm3 a b c n) (hx:Qd x) (hu:Qd u) (ha: ∀ v∈args,MArg v) (h:MkC f args s u s') {H:Heap}
  (g0:H.get 0=some (.cells true [.gs a s.names.length 1,.gs b s.consts.length 3,.mp 2,x])) (g1:H.get 1=some (.cells true [.ptr 0 0,.gs c s.l.length 3,iV s.fixed,iV s.depth,iV s.most])) (g3:H.get a=some (.opt (nmR s.names))) (g4:H.get b=some (.opt (Yy s.consts))) (g5:H.get c=some (.opt (Xn s.l))) (hn:H.next=n) :
  Qc Tryz.prog f args H (fun v K=>v=u∧K=⟨mkO n (n+1) (n+2) s' x++Qs [0,1,a,b,c] H.objs,n+3⟩):=by
 refine Qc.live fun hlive=> ?_
 obtain ⟨objs,nx⟩:=H
 simp only at hn
 subst hn
 obtain ⟨p1,p2,p3,p4,p5,p6,p7,p8,p9⟩:=hb.h
 have g: ∀ i:Nat,Jl i [0,1,a,b,c]=true→(⟨Yr [0,1,a,b,c] objs,nx⟩:Heap).get i=(⟨objs,nx⟩:Heap).get i:=fun i hi=>by
  show hget (Yr [0,1,a,b,c] objs) i=hget objs i
  rw [X4,hi]
 refine Qc.at (n1:=6) (O1:=mkO 3 4 5 s x) [0,1,a,b,c] [(0,0),(1,1),(2,2),(a,3),(b,4),(c,5)] ?_
  ⟨⟨_,(g 0 (Qp.2 (by simp))).trans g0,mkO_p hx (by simp) (by simp) (by simp)⟩,⟨_,(g 1 (Qp.2 (by simp))).trans g1,mkO_m (by simp) (by simp)⟩,⟨_,(g a (Qp.2 (by simp))).trans g3,.opt (Qe.of (Jb _))⟩,⟨_,(g b (Qp.2 (by simp))).trans g4,.opt (Qe.of (Jg _))⟩,⟨_,(g c (Qp.2 (by simp))).trans g5,.opt (Qe.of (Yx _))⟩,trivial⟩
  (margs (by simp) (by simp) ha) (h x hx) ?_
 ·show (wfR 0 6 [(0,0),(1,1),(2,2),(a,3),(b,4),(c,5)]&&nodupB [0,1,a,b,c]&&_)=true
  rw [Wg (by simp;omega)]
  rfl
 rintro v K ⟨rfl,rfl⟩
 have e0:Jm [(0,0),(1,1),(2,2),(a,3),(b,4),(c,5)] 6 nx (9 - 6)= [(8,nx+2),(7,nx+1),(6,nx),(0,0),(1,1),(2,2),(3,a),(4,b),(5,c)]:=rfl
 have hw:wfR 0 (nx+3) [(8,nx+2),(7,nx+1),(6,nx),(0,0),(1,1),(2,2),(3,a),(4,b),(5,c)]=true:=by
  refine C1 ?_ ?_
  ·simp only [List.mem_cons,List.not_mem_nil,or_false,forall_eq_or_imp,forall_eq]
   omega
  ·simp only [List.map_cons,List.map_nil,List.nodup_cons,List.mem_cons,List.not_mem_nil,or_false,not_false_eq_true,List.nodup_nil,and_true,not_or]
   omega
 have sr: ∀ i j:Nat,(i,j)∈ [(8,nx+2),(7,nx+1),(6,nx),(0,0),(1,1),(2,2),(3,a),(4,b),(5,c)]→srcN [(8,nx+2),(7,nx+1),(6,nx),(0,0),(1,1),(2,2),(3,a),(4,b),(5,c)] j=some i:=fun i j hj=>(Xe hw (i,j) hj).2.2
 have t0:=sr 0 0 (by simp)
 have t1:=sr 1 1 (by simp)
 have t3:=sr 6 nx (by simp)
 have t4:=sr 7 (nx+1) (by simp)
 have t5:=sr 8 (nx+2) (by simp)
 refine ⟨v,mkO nx (nx+1) (nx+2) s' x,⟨?_,.of hu,?_⟩,?_,rfl,rfl⟩
 ·show (wfR 0 (nx+3) (Jm _ 6 nx (9 - 6))&&nodupB (Zy (Jm _ 6 nx (9 - 6)) 0 (mkO nx (nx+1) (nx+2) s' x))&&(mkO nx (nx+1) (nx+2) s' x).all (fun p=>(srcN (Jm _ 6 nx (9 - 6)) p.1).isSome)&&_)=true
  rw [e0,hw]
  simp only [mkO,Zy,Q7,t0,t1,t3,t4,t5,List.all_cons,List.all_nil]
  rfl
 ·show W1 (Jm _ 6 nx (9 - 6)) 0 ⟨mkO 6 7 8 s' x,9⟩ _
  rw [e0]
  refine ⟨?_,?_,?_,?_,?_,trivial⟩
  ·rw [Q7,t0];exact ⟨_,rfl,mkO_p hx (by simp) (by simp) (by simp)⟩
  ·rw [Q7,t1];exact ⟨_,rfl,mkO_m (by simp) (by simp)⟩
  ·rw [Q7,t3];exact ⟨_,rfl,.opt (Qe.of (Jb _))⟩
  ·rw [Q7,t4];exact ⟨_,rfl,.opt (Qe.of (Jg _))⟩
  ·rw [Q7,t5];exact ⟨_,rfl,.opt (Qe.of (Yx _))⟩
 ·have hl: ∀ i y,hget objs i=some y→i < nx:=hlive
  have m0:=Jh (D:= [0,1,a,b,c]) (b:=0) (Qp.2 (by simp)) objs
  have m1:=Jh (D:= [0,1,a,b,c]) (b:=1) (Qp.2 (by simp)) objs
  have m3:=Jq (D:= [0,1,a,b,c]) hl (show nx≤nx by omega)
  have m4:=Jq (D:= [0,1,a,b,c]) hl (show nx≤nx+1 by omega)
  have m5:=Jq (D:= [0,1,a,b,c]) hl (show nx≤nx+2 by omega)
  simp only [mkO,List.all_cons,List.all_nil,m0,m1,m3,m4,m5]
  rfl
theorem MkC.of {f:FuncId} {args:List VV} {s s':MkS} {u:VV} (hu:Qd u) (h: ∀ x,Qd x→Qc Tryz.prog f args ⟨mkO 3 4 5 s x,6⟩ (fun v K=>v=u∧ ∃ a b c,nodupB [0,1,a,b,c]=true∧Gets K (mkO a b c s' x))):MkC f args s u s':=fun x hx=>by
 refine Qc.fin ((h x hx).mono ?_)
 rintro v K ⟨rfl,a,b,c,hd,hg⟩
 refine ⟨[(0,0),(1,1),(2,2),(a,6),(b,7),(c,8)],v,mkO 6 7 8 s' x,9,?_,rfl,rfl,.of hu,?_,rfl,rfl⟩
 ·show (wfR 0 9 [(0,0),(1,1),(2,2),(a,6),(b,7),(c,8)]&&nodupB [0,1,a,b,c]&&_&&_)=true
  rw [hd]
  rfl
 ·obtain ⟨h0,h1,h3,h4,h5,_⟩:=hg
  exact ⟨⟨_,h0,mkO_p hx (by simp) (by simp) (by simp)⟩,⟨_,h1,mkO_m (by simp) (by simp)⟩,⟨_,h3,.opt (Qe.of (Jb _))⟩,⟨_,h4,.opt (Qe.of (Jg _))⟩,⟨_,h5,.opt (Qe.of (Yx _))⟩,trivial⟩
end Go.Proofs.YtpbiblhkcomekaaGreat
namespace Go.Proofs.YtpbiblhkcomekaaGreat
open Go Go.RowKit
set_option linter.unusedSimpArgs false
set_option linter.unusedVariables false
set_option maxRecDepth 100000
set_option maxHeartbeats 8000000
def N9 {α:Type} [DecidableEq α] (x:α):Nat→List α→Int
 | _,[]=> -1
 | i,y::r=>if x=y then (i:Int) else N9 x (i+1) r
theorem Eb {α:Type} [DecidableEq α] (x:α): ∀ (l:List α) (i:Nat),N9 x i l=if x∈l then ((i+Dw l x:Nat):Int) else -1
 | [],i=>by simp [N9]
 | y::r,i=>by
  rw [N9,Dw]
  by_cases h:x=y
  ·subst h
   simp
  ·rw [if_neg h,Eb x r (i+1),if_neg h]
   by_cases hm:x∈r
   ·rw [if_pos hm,if_pos (List.mem_cons_of_mem _ hm)]
    omega
   ·rw [if_neg hm,if_neg (by simp [h,hm])]
theorem drop_atF {α:Type} {l:List α} {i:Nat} {x:α} (h:l[i]? = some x):l.drop i=x::l.drop (i+1):=by
 obtain ⟨hi,e⟩:=List.getElem?_eq_some_iff.1 h
 rw [List.drop_eq_getElem_cons hi,e]
theorem idxS_call (l:List (List UInt8)) (hl:l.length≤1000000) (x:List UInt8) (H:Heap):Qc Tryz.prog 79 [.ro l.length (nmR l),Qn x] H (fun v K=>v=iV (N9 x 0 l)∧K=H):=by
 refine Qc.pure (by intro v hv;simp only [List.mem_cons,List.not_mem_nil,or_false] at hv;rcases hv with rfl|rfl;exact Qx (Jb l);exact Qj _) (Qb _) ?_
 generalize hR:N9 x 0 l=R
 refine Qc.go Tryz.func79 rfl ?_
 have hb:True:=trivial
 (repeat' (first|with_reducible refine And.intro ?_ ?_|(with_reducible intro hc;(try simp only [zz] at hc);try exact ct)|((conv=>whnf);first|(with_reducible first|refine And.intro ?_ ?_|intro hx|apply Val.via|apply Qk.via)|exact Is.mk rfl rfl|refine sp ?_|refine vx (by (first|exact hb|exact Qa vagg_str hb (Q4 rfl rfl)|exact W4 hb rfl|exact Qa rfl rfl rfl|rfl)) ?_|refine dY ?_|fail|refine sq ?_)))
 (all_goals try exact om)
 (refine Ju.mk (GWP.loopB [] (fun (i:Nat)=>i≤l.length∧N9 x i (l.drop i)=R) (fun i=> [(8,iV i)]) (fun _=> []) 0 (fun i=>l.length - i) 0 ⟨Nat.zero_le _,hR⟩ ?_);(conv=>whnf);refine And.intro ?_ ?_)
 ·focus (refine ka [] ?_ ?_;all_goals (repeat' (first|exact rz|refine And.intro ?_ ?_|refine Exists.intro _ (And.intro rfl ?_)|refine ro ?_|refine Qe.cons ?_ ?_|fail|exact rv)))
 rintro i ⟨g1,g2⟩
 simp only at g1 g2 ⊢
 by_cases hil:i < l.length
 ·obtain ⟨b,hb0⟩:=Z4 hil
  have hb:(nmR l)[i]? = some (Qn b):=Wc hb0
  rw [drop_atF hb0,N9] at g2
  by_cases hcb:x=b
  ·rw [if_pos hcb] at g2
   subst g2 hcb
   (repeat' (first|with_reducible refine And.intro ?_ ?_|(with_reducible intro hc;(try simp only [zz] at hc);try exact ct)|((conv=>whnf);first|(with_reducible first|refine And.intro ?_ ?_|intro hx|apply Val.via|apply Qk.via)|exact Is.mk rfl rfl|refine sp ?_|refine vx (by (first|exact hb|exact Qa vagg_str hb (Q4 rfl rfl)|exact W4 hb rfl|exact Qa rfl rfl rfl|rfl)) ?_|refine dY ?_|fail|refine sq ?_)))
   (all_goals try exact om)
   all_goals (first|(exact absurd rfl (by simpa using hc))|exact Qg.mk rfl)
  ·rw [if_neg hcb] at g2
   (repeat' (first|with_reducible refine And.intro ?_ ?_|(with_reducible intro hc;(try simp only [zz] at hc);try exact ct)|((conv=>whnf);first|(with_reducible first|refine And.intro ?_ ?_|intro hx|apply Val.via|apply Qk.via)|exact Is.mk rfl rfl|refine sp ?_|refine vx (by (first|exact hb|exact Qa vagg_str hb (Q4 rfl rfl)|exact W4 hb rfl|exact Qa rfl rfl rfl|rfl)) ?_|refine dY ?_|fail|refine sq ?_)))
   (all_goals try exact om)
   all_goals (first|(exact absurd (by simpa using hc) hcb)|skip)
   focus (refine Qg.mk ⟨i+1,⟨by omega,g2⟩,?_,ka [] ?_ ?_⟩;(first|omega|(simp only;omega));all_goals (repeat' (first|exact rz|refine And.intro ?_ ?_|refine Exists.intro _ (And.intro rfl ?_)|refine ro ?_|refine Qe.cons ?_ ?_|exact Qi.eq (Q9 (by omega)) (Qb _)|exact rv)))
 ·obtain rfl:i=l.length:=by omega
  rw [List.drop_length,N9] at g2
  subst g2
  (repeat' (first|with_reducible refine And.intro ?_ ?_|(with_reducible intro hc;(try simp only [zz] at hc);try exact ct)|((conv=>whnf);first|(with_reducible first|refine And.intro ?_ ?_|intro hx|apply Val.via|apply Qk.via)|exact Is.mk rfl rfl|refine sp ?_|refine vx (by (first|exact hb|exact Qa vagg_str hb (Q4 rfl rfl)|exact W4 hb rfl|exact Qa rfl rfl rfl|rfl)) ?_|refine dY ?_|fail|refine sq ?_)))
  (all_goals try exact om)
  all_goals exact Qg.mk rfl
theorem rowsF_run {α:Type} {f:α→List VV} {z:Nat} (hz: ∀ x,(f x).length=z): ∀ {l:List α} {i:Nat} {x:α},l[i]? = some x→((Xy f l).drop (i*z)).take z=f x∧i*z+z≤(Xy f l).length
 | [],i,x,h=>by simp at h
 | y::r,0,x,h=>by
  simp at h
  subst h
  rw [Xy,Nat.zero_mul,List.drop_zero,List.length_append,hz]
  refine ⟨?_,by omega⟩
  rw [List.take_append_of_le_length (by rw [hz];exact Nat.le_refl _),List.take_of_length_le (by rw [hz];exact Nat.le_refl _)]
 | y::r,i+1,x,h=>by
  obtain ⟨h1,h2⟩:=rowsF_run hz (l:=r) (i:=i) (x:=x) (by simpa using h)
  have e:(i+1)*z=(f y).length+i*z:=by rw [hz,Nat.add_mul];omega
  rw [Xy,e,← List.drop_drop,List.drop_left,List.length_append,hz]
  exact ⟨h1,by omega⟩
theorem W4 {l:List Cst} {i o:Nat} {x:Cst} (h:l[i]? = some x) (ho:o=i*3):vat Tryz.prog 54 (Yy l) o=some (.ag [iV x.kind,iV x.num,Qn x.text]):=by
 subst ho
 obtain ⟨h1,h2⟩:=rowsF_run cstC_len h
 have h0:Wo Tryz.prog 54=some true:=by kernel_rfl
 have hz:Jr Tryz.prog 54=some 3:=by kernel_rfl
 have h3:Nat.ble (i*3+3) (Xy cstC l).length=true:=Nat.ble_eq_true_of_le h2
 simp only [vat,Yy,h0,hz,h3]
 exact congrArg (fun x=>some (VV.ag x)) h1
theorem X8 {P:Program} {t:TypeId} {cs:Array Value} {off:Nat} {v:Value} (ht:Wo P t=some false) (hc:cs[off]? = some v) (w:World):(part t cs off).run P w= .ok v w:=by
 simp [part,Uo ht,hc]
theorem eqI_run {P:Program} {t:TypeId} {k:IntKind} (hu:P.underlying t=some (.int k)) (a b:Int) (d:Nat) (w:World):(Op.equalIn (d+1) t (.int k a) (.int k b)).run P w= .ok (a==b) w:=by
 simp [Op.equalIn,run_underlying hu]
theorem eqStr_run {P:Program} {t:TypeId} (hu:P.underlying t=some .string) (a b:ByteArray) (d:Nat) (w:World):(Op.equalIn (d+1) t (.string a) (.string b)).run P w= .ok (a==b) w:=by
 simp [Op.equalIn,run_underlying hu]
theorem bytes_eqD (a b:List UInt8):((⟨a.toArray⟩:ByteArray)==⟨b.toArray⟩)=decide (a=b):=by
 have:((⟨a.toArray⟩:ByteArray)==⟨b.toArray⟩)=(a.toArray==b.toArray):=rfl
 rw [this,Bool.eq_iff_iff];simp
theorem eqV_run (f g:Cst) (w:World):(Op.equal 54 (.agg #[.int .i64 f.kind,.int .i64 f.num,.string ⟨f.text.toArray⟩]) (.agg #[.int .i64 g.kind,.int .i64 g.num,.string ⟨g.text.toArray⟩])).run Tryz.prog w= .ok (decide (f=g)) w:=by
 refine (fun d=> ?_: ∀ d:Nat,(Op.equalIn (d+2) 54 _ _).run Tryz.prog w= .ok _ w) 9998
 have tk:Wo Tryz.prog 52=some false:=by kernel_rfl
 have ti:Wo Tryz.prog 3=some false:=by kernel_rfl
 have h1:=fun w=>X8 tk (cs:= #[.int .i64 f.kind,.int .i64 f.num,.string ⟨f.text.toArray⟩]) (off:=0) rfl w
 have h2:=fun w=>X8 tk (cs:= #[.int .i64 g.kind,.int .i64 g.num,.string ⟨g.text.toArray⟩]) (off:=0) rfl w
 have h3:=fun w=>X8 ti (cs:= #[.int .i64 f.kind,.int .i64 f.num,.string ⟨f.text.toArray⟩]) (off:=1) rfl w
 have h4:=fun w=>X8 ti (cs:= #[.int .i64 g.kind,.int .i64 g.num,.string ⟨g.text.toArray⟩]) (off:=1) rfl w
 have h5:=fun w=>X8 vagg_str (cs:= #[.int .i64 f.kind,.int .i64 f.num,.string ⟨f.text.toArray⟩]) (off:=2) rfl w
 have h6:=fun w=>X8 vagg_str (cs:= #[.int .i64 g.kind,.int .i64 g.num,.string ⟨g.text.toArray⟩]) (off:=2) rfl w
 have e1:=fun w=>eqI_run (P:=Tryz.prog) (t:=52) (k:= .i64) Tryz.underlying52 f.kind g.kind d w
 have e2:=fun w=>eqI_run (P:=Tryz.prog) (t:=3) (k:= .i64) Tryz.underlying3 f.num g.num d w
 have e3:=fun w=>eqStr_run (P:=Tryz.prog) (t:=9) Tryz.underlying9 ⟨f.text.toArray⟩ ⟨g.text.toArray⟩ d w
 rw [Op.equalIn]
 simp [run_underlying Tryz.underlying54,h1,h2,h3,h4,h5,h6,e1,e2,e3]
 rw [bytes_eqD]
 obtain ⟨f1,f2,f3⟩:=f
 obtain ⟨g1,g2,g3⟩:=g
 by_cases c1:f1=g1 <;> by_cases c2:f2=g2 <;> by_cases c3:f3=g3 <;> simp [c1,c2,c3] <;> (intros;omega)
theorem eqV_op {o:Oper} {ts:List VV} {H:Heap} {K:VV→Heap→Prop} {x y:Operand} {p:TypeId} {f g:Cst} (ho:o.op= .binOp .eql 54 x y p) (hx:Qh ts x= .ag [iV f.kind,iV f.num,Qn f.text]) (hy:Qh ts y= .ag [iV g.kind,iV g.num,Qn g.text]) (k:K (.sc (.bool (decide (f=g)))) H):Qr Tryz.prog o ts H K :=
 Qr.eqAg ho (.inl rfl) hx hy rfl rfl (by kernel_rfl) (fun w=>eqV_run f g w) k
theorem idxV_call (l:List Cst) (hl:l.length≤1000000) (x:Cst) (H:Heap):Qc Tryz.prog 114 [.ro l.length (Yy l),.ag [iV x.kind,iV x.num,Qn x.text]] H (fun v K=>v=iV (N9 x 0 l)∧K=H):=by
 refine Qc.pure (by intro v hv;simp only [List.mem_cons,List.not_mem_nil,or_false] at hv;rcases hv with rfl|rfl;exact Qx (Jg l);exact Jz (Nt x)) (Qb _) ?_
 generalize hR:N9 x 0 l=R
 refine Qc.go Tryz.func114 rfl ?_
 have hb:True:=trivial
 (repeat' (first|with_reducible refine And.intro ?_ ?_|(with_reducible intro hc;(try simp only [zz] at hc);try exact ct)|((conv=>whnf);first|(with_reducible first|refine And.intro ?_ ?_|intro hx|apply Val.via|apply Qk.via)|exact Is.mk rfl rfl|refine sp ?_|refine vx (by (first|exact hb|exact Qa vagg_str hb (Q4 rfl rfl)|exact W4 hb rfl|exact Qa rfl rfl rfl|rfl)) ?_|refine dY ?_|fail|refine sq ?_)))
 (all_goals try exact om)
 (refine Ju.mk (GWP.loopB [] (fun (i:Nat)=>i≤l.length∧N9 x i (l.drop i)=R) (fun i=> [(8,iV i)]) (fun _=> []) 1 (fun i=>l.length - i) 0 ⟨Nat.zero_le _,hR⟩ ?_);(conv=>whnf);refine And.intro ?_ ?_)
 ·focus (refine ka [] ?_ ?_;all_goals (repeat' (first|exact rz|refine And.intro ?_ ?_|refine Exists.intro _ (And.intro rfl ?_)|refine ro ?_|refine Qe.cons ?_ ?_|fail|exact rv)))
 rintro i ⟨g1,g2⟩
 simp only at g1 g2 ⊢
 by_cases hil:i < l.length
 ·obtain ⟨b,hb⟩:=Z4 hil
  rw [drop_atF hb,N9] at g2
  by_cases hcb:x=b
  ·rw [if_pos hcb] at g2
   subst g2 hcb
   (repeat' (first|with_reducible refine And.intro ?_ ?_|(with_reducible intro hc;(try simp only [zz] at hc);try exact ct)|((conv=>whnf);first|(with_reducible first|refine And.intro ?_ ?_|intro hx|apply Val.via|apply Qk.via)|exact Is.mk rfl rfl|refine sp ?_|refine vx (by (first|exact hb|exact Qa vagg_str hb (Q4 rfl rfl)|exact W4 hb rfl|exact Qa rfl rfl rfl|rfl)) ?_|refine dY ?_|(refine Qw (eqV_op rfl rfl rfl ?_))|refine sq ?_)))
   (all_goals try exact om)
   all_goals (first|(exact absurd rfl (by simpa using hc))|exact Qg.mk rfl)
  ·rw [if_neg hcb] at g2
   (repeat' (first|with_reducible refine And.intro ?_ ?_|(with_reducible intro hc;(try simp only [zz] at hc);try exact ct)|((conv=>whnf);first|(with_reducible first|refine And.intro ?_ ?_|intro hx|apply Val.via|apply Qk.via)|exact Is.mk rfl rfl|refine sp ?_|refine vx (by (first|exact hb|exact Qa vagg_str hb (Q4 rfl rfl)|exact W4 hb rfl|exact Qa rfl rfl rfl|rfl)) ?_|refine dY ?_|(refine Qw (eqV_op rfl rfl rfl ?_))|refine sq ?_)))
   (all_goals try exact om)
   all_goals (first|(exact absurd (by simpa using hc) hcb)|skip)
   focus (refine Qg.mk ⟨i+1,⟨by omega,g2⟩,?_,ka [] ?_ ?_⟩;(first|omega|(simp only;omega));all_goals (repeat' (first|exact rz|refine And.intro ?_ ?_|refine Exists.intro _ (And.intro rfl ?_)|refine ro ?_|refine Qe.cons ?_ ?_|exact Qi.eq (Q9 (by omega)) (Qb _)|exact rv)))
 ·obtain rfl:i=l.length:=by omega
  rw [List.drop_length,N9] at g2
  subst g2
  (repeat' (first|with_reducible refine And.intro ?_ ?_|(with_reducible intro hc;(try simp only [zz] at hc);try exact ct)|((conv=>whnf);first|(with_reducible first|refine And.intro ?_ ?_|intro hx|apply Val.via|apply Qk.via)|exact Is.mk rfl rfl|refine sp ?_|refine vx (by (first|exact hb|exact Qa vagg_str hb (Q4 rfl rfl)|exact W4 hb rfl|exact Qa rfl rfl rfl|rfl)) ?_|refine dY ?_|fail|refine sq ?_)))
  (all_goals try exact om)
  all_goals exact Qg.mk rfl
end Go.Proofs.YtpbiblhkcomekaaGreat
