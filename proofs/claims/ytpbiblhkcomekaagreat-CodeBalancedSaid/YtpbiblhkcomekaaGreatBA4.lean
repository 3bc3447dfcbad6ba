import Derived.Test.YtpbiblhkcomekaaGreatBE5
import Derived.Test.YtpbiblhkcomekaaGreatBA3
/- The maker's statement and block, walked. -/
namespace Go.Proofs.YtpbiblhkcomekaaGreat
open Go Go.RowKit
set_option linter.unusedSimpArgs false
set_option linter.unusedVariables false
set_option maxRecDepth 100000
set_option maxHeartbeats 8000000
theorem Bd.here {s:MkS} {k:Nat} (h:Bd s k):Bd (Z9 s) k:=⟨h.names,h.consts,h.l,h.l,h.d1,h.d2,h.m1,h.m2,h.a⟩
theorem leadL_len (i:Nat) (l:List Ins):(Ux i l).length=l.length:=by unfold Ux;split <;> simp
theorem Bd.lead {s:MkS} {k:Nat} (h:Bd s k) (i:Nat):Bd (Ye i s) k:=by
 refine ⟨h.names,h.consts,?_,h.l,h.d1,h.d2,h.m1,h.m2,?_⟩
 ·show (Ux i s.l).length≤k
  rw [leadL_len]
  exact h.l
 ·intro x hx
  have hx:x∈Ux i s.l:=hx
  unfold Ux at hx
  split at hx
  ·rcases List.mem_or_eq_of_mem_set hx with hx|rfl
   ·exact h.a x hx
   ·exact h.l
  ·exact h.a x hx
theorem Xd (op a:Nat) (t:List UInt8) (g:Int) (s:MkS):s.l.length≤(Qv op a t g s).2.l.length∧(Qv op a t g s).1 < (Qv op a t g s).2.l.length∧(op≠0→(Qv op a t g s).1=s.l.length):=by
 unfold Qv
 cases e:s.l.getLast? with
 | none=>simp
 | some y =>
  have hne:s.l≠ []:=fun h=>by rw [h] at e;cases e
  have:=List.length_pos_iff.2 hne
  simp only
  split
  ·rename_i hc
   refine ⟨?_,?_,fun h=>absurd hc.1 h⟩ <;> simp only [List.length_append,List.length_dropLast,List.length_cons,List.length_nil] <;> omega
  ·simp
mutual
theorem U0: ∀ (n:Nd) (s:MkS),s.l.length≤(exprM n s).l.length
 | .mk op tx nm ks,s=>by
  have h0:=(Xd 0 1 [] 0 s).1
  have h1:=exprL_len ks (Qv 0 1 [] 0 s).2
  rw [exprM]
  generalize exprL ks (Qv 0 1 [] 0 s).2=m1 at *
  have h2:(Xz tx m1).2.l=m1.l:=rfl
  have h3: ∀ c,(Kq c m1).2.l=m1.l:=fun c=>rfl
  split
  ·exact Nat.le_trans (Nat.le_trans h0 h1) (by rw [← h2];exact (Xd _ _ _ _ _).1)
  split
  ·exact Nat.le_trans (Nat.le_trans h0 h1) (Xd _ _ _ _ _).1
  split
  ·exact Nat.le_trans (Nat.le_trans h0 h1) (Xd _ _ _ _ _).1
  split
  ·exact Nat.le_trans (Nat.le_trans h0 h1) (Xd _ _ _ _ _).1
  ·exact Nat.le_trans (Nat.le_trans h0 h1) (by rw [← h3];exact (Xd _ _ _ _ _).1)
theorem exprL_len: ∀ (l:List Nd) (s:MkS),s.l.length≤(exprL l s).l.length
 | [],s=>by rw [exprL];exact Nat.le_refl _
 | n::r,s=>by rw [exprL];exact Nat.le_trans (U0 n s) (exprL_len r _)
end
inductive ShS:Nat→Nd→Prop where
 | one {op nm:Nat} {x:List UInt8} {n:Nd} (h:op=3∨op=4):ShS 0 (.mk op x nm [n])
 | if2 {nm:Nat} {x:List UInt8} {n b:Nd} (hb:ShS 1 b):ShS 0 (.mk 5 x nm [n,b])
 | if3 {nm:Nat} {x:List UInt8} {n b c:Nd} (hb:ShS 1 b) (hc:ShS 1 c):ShS 0 (.mk 5 x nm [n,b,c])
 | while_ {nm:Nat} {x:List UInt8} {n b:Nd} (hb:ShS 1 b):ShS 0 (.mk 6 x nm [n,b])
 | stop {nm:Nat} {x:List UInt8}:ShS 0 (.mk 7 x nm [])
 | block {op nm:Nat} {x:List UInt8} {ks:List Nd} (hk: ∀ k∈ks,ShS 0 k):ShS 1 (.mk op x nm ks)
theorem B9 (op nm:Nat) (x:List UInt8) (n:Nd) (s:MkS) (h:op=3):stmtM (.mk op x nm [n]) false s=(Qv 3 (Xz x (exprM n (Qv 0 1 [] 0 s).2)).1 [] (-1) (Xz x (exprM n (Qv 0 1 [] 0 s).2)).2).2:=by subst h;rw [stmtM];rfl
theorem Ds (op nm:Nat) (x:List UInt8) (n:Nd) (s:MkS) (h:op=4):stmtM (.mk op x nm [n]) false s=(Qv 4 0 [] (-1) (exprM n (Qv 0 1 [] 0 s).2)).2:=by subst h;rw [stmtM];rfl
theorem Cb (nm:Nat) (x:List UInt8) (n b:Nd) (s:MkS):stmtM (.mk 5 x nm [n,b]) false s=(Ye (Qv 9 0 [] (-1) (exprM n (Qv 0 1 [] 0 s).2)).1 (stmtM b true (Qv 9 0 [] (-1) (exprM n (Qv 0 1 [] 0 s).2)).2)):=by rw [stmtM];rfl
theorem Ca (nm:Nat) (x:List UInt8) (n b c:Nd) (s:MkS):stmtM (.mk 5 x nm [n,b,c]) false s=(Ye (Qv 8 0 [] 0 (stmtM b true (Qv 9 0 [] (-1) (exprM n (Qv 0 1 [] 0 s).2)).2)).1 (stmtM c true (Ye (Qv 9 0 [] (-1) (exprM n (Qv 0 1 [] 0 s).2)).1 (Qv 8 0 [] 0 (stmtM b true (Qv 9 0 [] (-1) (exprM n (Qv 0 1 [] 0 s).2)).2)).2))):=by rw [stmtM];rfl
theorem W5 (nm:Nat) (x:List UInt8) (n b:Nd) (s:MkS):stmtM (.mk 6 x nm [n,b]) false s=(Ye (Qv 9 0 [] (-1) (exprM n (Qv 0 1 [] 0 (Z9 s)).2)).1 (Qv 8 s.l.length [] 0 (stmtM b true (Qv 9 0 [] (-1) (exprM n (Qv 0 1 [] 0 (Z9 s)).2)).2)).2):=by rw [stmtM];rfl
theorem Ng (nm:Nat) (x:List UInt8) (s:MkS):stmtM (.mk 7 x nm []) false s=(Qv 10 0 [] 0 (Qv 0 1 [] 0 s).2).2:=by rw [stmtM];rfl
theorem W6 (op nm:Nat) (x:List UInt8) (ks:List Nd) (s:MkS):stmtM (.mk op x nm ks) true s=stmtLM ks s:=by rw [stmtM]
theorem Wv (i:Nat) (s:MkS):(Ye i s).l.length=s.l.length:=leadL_len i s.l
def Gr (n:Nd) (b:Bool):Prop:= ∀ (s:MkS) (k:Nat),Bd s k→Bd (stmtM n b s) (k+10*cntN n)∧s.l.length≤(stmtM n b s).l.length
theorem stmtLM_gr: ∀ (l:List Nd) (s:MkS) (k:Nat),(∀ n∈l,Gr n false)→Bd s k→Bd (stmtLM l s) (k+10*cntL l)∧s.l.length≤(stmtLM l s).l.length
 | [],s,k,_,h=>by rw [stmtLM,cntL];exact ⟨h,Nat.le_refl _⟩
 | n::r,s,k,hg,h=>by
  obtain ⟨h1,h2⟩:=hg n (List.mem_cons_self ..) s k h
  obtain ⟨h3,h4⟩:=stmtLM_gr r _ _ (fun m hm=>hg m (List.mem_cons_of_mem _ hm)) h1
  rw [stmtLM,cntL]
  exact ⟨h3.mono (by omega),Nat.le_trans h2 h4⟩
theorem ShS.gr {i:Nat} {n:Nd} (h:ShS i n):Gr n (i==1):=by
 induction h with
 | @one op nm x n h =>
  intro s k hb
  have hc:=Xj n
  have b1:=Zg n _ _ (hb.put 0 1 [] 0 (j:=k+1) (by omega) (by omega) (by omega) (by omega) (by omega))
  have l1:=U0 n (Qv 0 1 [] 0 s).2
  have l0:=(Xd 0 1 [] 0 s).1
  show Bd (stmtM _ false s) _∧_≤(stmtM _ false s).l.length
  rw [cntN,cntL,cntL]
  rcases h with h|h
  ·rw [B9 _ _ _ _ _ h]
   generalize exprM n (Qv 0 1 [] 0 s).2=m at *
   obtain ⟨b2,i2⟩:=b1.name x
   have l2:=(Xd 3 (Xz x m).1 [] (-1) (Xz x m).2).1
   have e2:(Xz x m).2.l=m.l:=rfl
   rw [e2] at l2
   exact ⟨(b2.put 3 _ [] (-1) (j:=k+10*(1+(cntN n+0))) (by omega) (by omega) (by omega) (by omega) (by omega)),by omega⟩
  ·rw [Ds _ _ _ _ _ h]
   generalize exprM n (Qv 0 1 [] 0 s).2=m at *
   have l2:=(Xd 4 0 [] (-1) m).1
   exact ⟨(b1.put 4 _ [] (-1) (j:=k+10*(1+(cntN n+0))) (by omega) (by omega) (by omega) (by omega) (by omega)),by omega⟩
 | @if2 nm x n b _ ih =>
  intro s k hb
  have hc:=Xj n
  have b1:=Zg n _ _ (hb.put 0 1 [] 0 (j:=k+1) (by omega) (by omega) (by omega) (by omega) (by omega))
  have l1:=U0 n (Qv 0 1 [] 0 s).2
  have l0:=(Xd 0 1 [] 0 s).1
  show Bd (stmtM _ false s) _∧_≤(stmtM _ false s).l.length
  rw [cntN,cntL,cntL,cntL,Cb]
  generalize exprM n (Qv 0 1 [] 0 s).2=m at *
  have l2:=(Xd 9 0 [] (-1) m).1
  have b2:=b1.put 9 0 [] (-1) (j:=k+10*cntN n+1) (by omega) (by omega) (by omega) (by omega) (by omega)
  obtain ⟨b3,l3⟩:=ih _ _ b2
  rw [Wv]
  exact ⟨(b3.lead _).mono (by omega),Nat.le_trans (by omega) l3⟩
 | @if3 nm x n b c _ _ ih1 ih2 =>
  intro s k hb
  have hc:=Xj n
  have b1:=Zg n _ _ (hb.put 0 1 [] 0 (j:=k+1) (by omega) (by omega) (by omega) (by omega) (by omega))
  have l1:=U0 n (Qv 0 1 [] 0 s).2
  have l0:=(Xd 0 1 [] 0 s).1
  show Bd (stmtM _ false s) _∧_≤(stmtM _ false s).l.length
  rw [cntN,cntL,cntL,cntL,cntL,Ca]
  generalize exprM n (Qv 0 1 [] 0 s).2=m at *
  have l2:=(Xd 9 0 [] (-1) m).1
  have b2:=b1.put 9 0 [] (-1) (j:=k+10*cntN n+1) (by omega) (by omega) (by omega) (by omega) (by omega)
  obtain ⟨b3,l3⟩:=ih1 _ _ b2
  have l4:=(Xd 8 0 [] 0 (stmtM b true (Qv 9 0 [] (-1) m).2)).1
  have b4:=b3.put 8 0 [] 0 (j:=k+10*cntN n+1+10*cntN b+1) (by omega) (by omega) (by omega) (by omega) (by omega)
  obtain ⟨b5,l5⟩:=ih2 _ _ (b4.lead (Qv 9 0 [] (-1) m).1)
  rw [Wv] at l5
  rw [Wv]
  exact ⟨(b5.lead _).mono (by omega),Nat.le_trans (Nat.le_trans (Nat.le_trans (by omega) l3) l4) l5⟩
 | @while_ nm x n b _ ih =>
  intro s k hb
  have hc:=Xj n
  have b1:=Zg n _ _ (hb.here.put 0 1 [] 0 (j:=k+1) (by omega) (by omega) (by omega) (by omega) (by omega))
  have l1:=U0 n (Qv 0 1 [] 0 (Z9 s)).2
  have l0:=(Xd 0 1 [] 0 (Z9 s)).1
  have e0:(Z9 s).l=s.l:=rfl
  rw [e0] at l0
  have hbl:=hb.l
  show Bd (stmtM _ false s) _∧_≤(stmtM _ false s).l.length
  rw [cntN,cntL,cntL,cntL,W5]
  generalize exprM n (Qv 0 1 [] 0 (Z9 s)).2=m at *
  have l2:=(Xd 9 0 [] (-1) m).1
  have b2:=b1.put 9 0 [] (-1) (j:=k+10*cntN n+1) (by omega) (by omega) (by omega) (by omega) (by omega)
  obtain ⟨b3,l3⟩:=ih _ _ b2
  have l4:=(Xd 8 s.l.length [] 0 (stmtM b true (Qv 9 0 [] (-1) m).2)).1
  have b4:=b3.put 8 s.l.length [] 0 (j:=k+10*cntN n+1+10*cntN b+1) (by omega) (by omega) (by omega) (by omega) (by omega)
  rw [Wv]
  exact ⟨(b4.lead _).mono (by omega),Nat.le_trans (Nat.le_trans (by omega) l3) l4⟩
 | @stop nm x =>
  intro s k hb
  have b1:=hb.put 0 1 [] 0 (j:=k+1) (by omega) (by omega) (by omega) (by omega) (by omega)
  have l0:=(Xd 0 1 [] 0 s).1
  show Bd (stmtM _ false s) _∧_≤(stmtM _ false s).l.length
  rw [cntN,cntL,Ng]
  generalize (Qv 0 1 [] 0 s).2=m at *
  have l2:=(Xd 10 0 [] 0 m).1
  exact ⟨b1.put 10 0 [] 0 (j:=k+10*(1+0)) (by omega) (by omega) (by omega) (by omega) (by omega),by omega⟩
 | @block op nm x ks hk ih =>
  intro s k hb
  show Bd (stmtM _ true s) _∧_≤(stmtM _ true s).l.length
  rw [W6,cntN]
  obtain ⟨h1,h2⟩:=stmtLM_gr ks s k ih hb
  exact ⟨h1.mono (by omega),h2⟩
theorem exprAt {s:MkS} {x:VV} {k:Nat} (m:Nd) (hd:Bd s k) (hk:k+10*cntN m≤900000) (hx:Qd x) (H:Heap) (a b c n:Nat) (g0:H.get 0=some (.cells true [.gs a s.names.length 1,.gs b s.consts.length 3,.mp 2,x])) (g1:H.get 1=some (.cells true [.ptr 0 0,.gs c s.l.length 3,iV s.fixed,iV s.depth,iV s.most])) (g3:H.get a=some (.opt (nmR s.names))) (g4:H.get b=some (.opt (Yy s.consts))) (g5:H.get c=some (.opt (Xn s.l))) (hn:H.next=n) (hb:Nm3 a b c n) :
  Qc Tryz.prog 116 [.ptr 1 0,nV m] H (fun v K=>v= .tp []∧K=⟨mkO n (n+1) (n+2) (exprM m s) x++Qs [0,1,a,b,c] H.objs,n+3⟩) :=
 MkC.at hb hx (Qt (by simp)) (Da (nl1 (Q0 m))) (expr_call (cntN m) m s k (Nat.le_refl _) hd hk) g0 g1 g3 g4 g5 hn
def StC (f:Nat):Prop:= ∀ (b:Bool) (n:Nd) (s:MkS) (k:Nat),ShS (if b then 1 else 0) n→cntN n≤f→Bd s k→k+10*cntN n≤900000→MkC (if b then 44 else 80) [.ptr 1 0,nV n] s (.tp []) (stmtM n b s)
theorem StC.bAt {f:Nat} (ih:StC f) {s:MkS} {x:VV} {k:Nat} (m:Nd) (hm:ShS 1 m) (hf:cntN m≤f) (hd:Bd s k) (hk:k+10*cntN m≤900000) (hx:Qd x) (H:Heap) (a b c n:Nat) (g0:H.get 0=some (.cells true [.gs a s.names.length 1,.gs b s.consts.length 3,.mp 2,x])) (g1:H.get 1=some (.cells true [.ptr 0 0,.gs c s.l.length 3,iV s.fixed,iV s.depth,iV s.most])) (g3:H.get a=some (.opt (nmR s.names))) (g4:H.get b=some (.opt (Yy s.consts))) (g5:H.get c=some (.opt (Xn s.l))) (hn:H.next=n) (hb:Nm3 a b c n) :
  Qc Tryz.prog 44 [.ptr 1 0,nV m] H (fun v K=>v= .tp []∧K=⟨mkO n (n+1) (n+2) (stmtM m true s) x++Qs [0,1,a,b,c] H.objs,n+3⟩) :=
 MkC.at hb hx (Qt (by simp)) (Da (nl1 (Q0 m))) (ih true m s k hm hf hd hk) g0 g1 g3 g4 g5 hn
theorem StC.sAt {f:Nat} (ih:StC f) {s:MkS} {x:VV} {k:Nat} (m:Nd) (hm:ShS 0 m) (hf:cntN m≤f) (hd:Bd s k) (hk:k+10*cntN m≤900000) (hx:Qd x) (H:Heap) (a b c n:Nat) (g0:H.get 0=some (.cells true [.gs a s.names.length 1,.gs b s.consts.length 3,.mp 2,x])) (g1:H.get 1=some (.cells true [.ptr 0 0,.gs c s.l.length 3,iV s.fixed,iV s.depth,iV s.most])) (g3:H.get a=some (.opt (nmR s.names))) (g4:H.get b=some (.opt (Yy s.consts))) (g5:H.get c=some (.opt (Xn s.l))) (hn:H.next=n) (hb:Nm3 a b c n) :
  Qc Tryz.prog 80 [.ptr 1 0,nV m] H (fun v K=>v= .tp []∧K=⟨mkO n (n+1) (n+2) (stmtM m false s) x++Qs [0,1,a,b,c] H.objs,n+3⟩) :=
 MkC.at hb hx (Qt (by simp)) (Da (nl1 (Q0 m))) (ih false m s k hm hf hd hk) g0 g1 g3 g4 g5 hn
theorem block_st {f:Nat} (ih:StC f) (n:Nd) (s:MkS) (k:Nat) (hn:ShS 1 n) (hf:cntN n≤f+1) (hs:Bd s k) (hkk:k+10*cntN n≤900000):MkC 44 [.ptr 1 0,nV n] s (.tp []) (stmtM n true s):=by
 cases hn with
 | @block op nm tx ks hks =>
 refine MkC.of (Qt (by simp)) fun x hx=> ?_
 rw [cntN] at hf hkk
 have hlen:=X2 ks
 rw [W6]
 generalize hm1:stmtLM ks s=m1 at *
 have hk:True:=trivial
 rw [nV,cellsN]
 refine Qc.go Tryz.func44 rfl ?_
 (repeat' (first|with_reducible refine And.intro ?_ ?_|(with_reducible intro hc;(try simp only [zz] at hc);try exact ct)|((conv=>whnf);first|(with_reducible first|refine And.intro ?_ ?_|intro hx|apply Val.via|apply Qk.via)|exact Is.mk rfl rfl|refine sp ?_|refine vx (by (first|exact Ql rfl rfl|exact Qm hk rfl|exact Qm (i:=0) rfl rfl|exact Qm (i:=1) rfl rfl|exact Qm (i:=2) rfl rfl|exact Qa rfl rfl rfl|rfl)) ?_|fail|refine sq ?_)))
 (all_goals try exact om)
 (refine Ju.mk (GWP.loopB [0,1,3,4,5] (fun (a:Nat×MkS×Nat)=>a.1≤ks.length∧stmtLM (ks.drop a.1) a.2.1=m1∧Bd a.2.1 a.2.2∧a.2.2+10*cntL (ks.drop a.1)≤k+10*cntL ks) (fun a=> [(9,iV a.1)]) (fun a=>mkO 7 8 9 a.2.1 x) 10 (fun a=>ks.length - a.1) (0,s,k) ⟨Nat.zero_le _,hm1,hs,Nat.le_refl _⟩ ?_);(conv=>whnf);refine And.intro ?_ ?_)
 ·focus (refine ka [(3,7),(4,8),(5,9)] ?_ ?_;all_goals (repeat' (first|exact rz|refine And.intro ?_ ?_|refine Exists.intro _ (And.intro rfl ?_)|refine ro ?_|refine Qe.cons ?_ ?_|(first|exact Qi.mpL (Nat.le_of_ble_eq_true rfl)|exact Qi.ptrL (Nat.le_of_ble_eq_true rfl)|exact Qi.eq (Q9 (by omega)) (Qb _)|exact Qe.of (Jb _)|exact Qe.of (Jg _)|exact Qe.of (Yx _)|exact Qi.of hx)|exact rv)))
 rintro ⟨i,st,j⟩ ⟨g1,g2,g3,g4⟩
 simp only at g1 g2 g3 g4 ⊢
 by_cases hil:i < ks.length
 ·clear hk
  obtain ⟨kd,hk⟩:=Z4 hil
  have hq:cntL (ks.drop i)≤cntL ks:=U3 ks i
  rw [Ky hk,cntL] at g4 hq
  rw [Ky hk,stmtLM] at g2
  have hsk:=hks kd (List.mem_of_getElem? hk)
  have ik:=ih.sAt (s:=st) (x:=x) (k:=j) kd hsk (by omega) g3 (by omega) hx
  have hbk:=(hsk.gr st j g3).1
  have hcp:=Xj kd
  have e0:(0==1)=false:=rfl
  rw [e0] at hbk
  generalize stmtM kd false st=st2 at *
  obtain ⟨op2,tx2,nm2,kk2⟩:=kd
  simp only [nV,cellsN] at ik
  (repeat' (first|with_reducible refine And.intro ?_ ?_|(with_reducible intro hc;(try simp only [zz] at hc);try exact ct)|((conv=>whnf);first|(with_reducible first|refine And.intro ?_ ?_|intro hx|apply Val.via|apply Qk.via)|exact Is.mk rfl rfl|refine sp ?_|refine vx (by (first|exact Ql rfl rfl|exact Qm hk rfl|exact Qm (i:=0) rfl rfl|exact Qm (i:=1) rfl rfl|exact Qm (i:=2) rfl rfl|exact Qa rfl rfl rfl|rfl)) ?_|refine dY ?_|refine cl (ik _ 7 8 9 11 rfl rfl rfl rfl rfl rfl (Nm3.mk (by decide))) ?_|refine sq ?_)))
  (all_goals try exact om)
  focus (refine Qg.mk ⟨(i+1,st2,j+10*cntN (.mk op2 tx2 nm2 kk2)),⟨by omega,g2,hbk,by simp only;omega⟩,?_,ka [(11,7),(12,8),(13,9)] ?_ ?_⟩;(first|omega|(simp only;omega));all_goals (repeat' (first|exact rz|refine And.intro ?_ ?_|refine Exists.intro _ (And.intro rfl ?_)|refine ro ?_|refine Qe.cons ?_ ?_|(first|exact Qi.mpL (Nat.le_of_ble_eq_true rfl)|exact Qi.ptrL (Nat.le_of_ble_eq_true rfl)|exact Qi.eq (Q9 (by omega)) (Qb _)|exact Qe.of (Jb _)|exact Qe.of (Jg _)|exact Qe.of (Yx _)|exact Qi.of hx)|exact rv)))
 ·obtain rfl:i=ks.length:=by omega
  rw [List.drop_length,stmtLM] at g2
  subst g2
  (repeat' (first|with_reducible refine And.intro ?_ ?_|(with_reducible intro hc;(try simp only [zz] at hc);try exact ct)|((conv=>whnf);first|(with_reducible first|refine And.intro ?_ ?_|intro hx|apply Val.via|apply Qk.via)|exact Is.mk rfl rfl|refine sp ?_|refine vx (by (first|exact Ql rfl rfl|exact Qm hk rfl|exact Qm (i:=0) rfl rfl|exact Qm (i:=1) rfl rfl|exact Qm (i:=2) rfl rfl|exact Qa rfl rfl rfl|rfl)) ?_|refine dY ?_|fail|refine sq ?_)))
  (all_goals try exact om)
  all_goals exact Qg.mk ⟨rfl,7,8,9,rfl,(by repeat' (first|exact trivial|refine And.intro rfl ?_))⟩
theorem stmt_st {f:Nat} (ih:StC f) (n:Nd) (s:MkS) (k:Nat) (hn:ShS 0 n) (hf:cntN n≤f+1) (hs:Bd s k) (hkk:k+10*cntN n≤900000):MkC 80 [.ptr 1 0,nV n] s (.tp []) (stmtM n false s):=by
 have hk:True:=trivial
 cases hn with
 | @one op nm tx n h =>
  refine MkC.of (Qt (by simp)) fun x hx=> ?_
  have hc:=Xj n
  rw [cntN,cntL,cntL] at hf hkk
  have b0:=hs.put 0 1 [] 0 (j:=k+1) (by omega) (by omega) (by omega) (by omega) (by omega)
  have p0:=fun H a b c n=>Kf (s:=s) (x:=x) (H:=H) (a:=a) (b:=b) (c:=c) (n:=n) 0 1 [] 0 (hs.mono (by omega)) (by omega) (by omega) (by omega) hx
  rcases h with h|h
  ·rw [B9 _ _ _ _ _ h]
   subst h
   generalize Qv 0 1 [] 0 s=q0 at *
   have pe:=exprAt n b0 (by omega) hx
   have b1:=Zg n _ _ b0
   generalize exprM n q0.2=m1 at *
   have hbn:=b1.name tx
   have pn:=fun H a b c n=>placeSAt (s:=m1) (x:=x) (H:=H) (a:=a) (b:=b) (c:=c) (n:=n) tx (b1.mono (by omega)) hx
   generalize Xz tx m1=q at *
   obtain ⟨i,s2⟩:=q
   simp only at hbn pn ⊢
   obtain ⟨b2,i2⟩:=hbn
   have pp:=fun H a b c n=>Kf (s:=s2) (x:=x) (H:=H) (a:=a) (b:=b) (c:=c) (n:=n) 3 i [] (-1) (b2.mono (by omega)) (by omega) (by omega) (by omega) hx
   generalize Qv 3 i [] (-1) s2=q3 at *
   obtain ⟨op2,tx2,nm2,kk2⟩:=n
   rw [nV,cellsN]
   simp only [List.length_cons,List.length_nil,Nat.zero_add,Nat.reduceAdd]
   simp only [nV,cellsN] at pe
   refine Qc.go Tryz.func80 rfl ?_
   (repeat' (first|with_reducible refine And.intro ?_ ?_|(with_reducible intro hc;(try simp only [zz] at hc);try exact ct)|((conv=>whnf);first|(with_reducible first|refine And.intro ?_ ?_|intro hx|apply Val.via|apply Qk.via)|exact Is.mk rfl rfl|refine sp ?_|refine vx (by (first|exact Ql rfl rfl|exact Qm hk rfl|exact Qm (i:=0) rfl rfl|exact Qm (i:=1) rfl rfl|exact Qm (i:=2) rfl rfl|exact Qa rfl rfl rfl|rfl)) ?_|(first|refine cl (p0 _ 3 4 5 7 rfl rfl rfl rfl rfl rfl (Nm3.mk (by decide))) ?_|refine cl (pe _ 7 8 9 10 rfl rfl rfl rfl rfl rfl (Nm3.mk (by decide))) ?_)|refine sq ?_)))
   (all_goals try exact om)
   refine Ju.mk (GWP.drawM mixed 107 [9,10] (fun H=> [(⟨mkO H.next (H.next+1) (H.next+2) (s2) x++Qs [0,1,10,11,12] H.objs,H.next+3⟩:Heap),⟨mkO 16 17 18 q3.2 x++Qs [0,1,13,14,15] ((⟨mkO H.next (H.next+1) (H.next+2) (s2) x++Qs [0,1,10,11,12] H.objs,H.next+3⟩:Heap)).objs,19⟩]) (by kernel_rfl) (by rfl) ?_)
   repeat' (first|with_reducible refine And.intro ?_ ?_|(with_reducible intro hc;(try simp only [zz] at hc);try exact ct)|exact trivial|((conv=>whnf);first|with_reducible refine And.intro ?_ ?_|with_reducible intro hx|exact Is.mk rfl rfl|exact trivial|(with_reducible first|apply Val.via|apply Qk.via)|fail|refine sp ?_|refine vx (by (first|exact Ql rfl rfl|exact Qm hk rfl|exact Qm (i:=0) rfl rfl|exact Qm (i:=1) rfl rfl|exact Qm (i:=2) rfl rfl|exact Qa rfl rfl rfl|rfl)) ?_|(first|refine cl (pn _ 10 11 12 13 rfl rfl rfl rfl rfl rfl (Nm3.mk (by decide))) ?_|refine cl (pp _ 13 14 15 16 rfl rfl rfl rfl rfl rfl (Nm3.mk (by decide))) ?_)|refine sq ?_))
   (all_goals try exact om)
   exact Qg.mk ⟨rfl,16,17,18,rfl,(by repeat' (first|exact trivial|refine And.intro rfl ?_))⟩
  ·rw [Ds _ _ _ _ _ h]
   subst h
   generalize Qv 0 1 [] 0 s=q0 at *
   have pe:=exprAt n b0 (by omega) hx
   have b1:=Zg n _ _ b0
   generalize exprM n q0.2=m1 at *
   have pp:=fun H a b c n=>Kf (s:=m1) (x:=x) (H:=H) (a:=a) (b:=b) (c:=c) (n:=n) 4 0 [] (-1) (b1.mono (by omega)) (by omega) (by omega) (by omega) hx
   generalize Qv 4 0 [] (-1) m1=q3 at *
   obtain ⟨op2,tx2,nm2,kk2⟩:=n
   rw [nV,cellsN]
   simp only [List.length_cons,List.length_nil,Nat.zero_add,Nat.reduceAdd]
   simp only [nV,cellsN] at pe
   refine Qc.go Tryz.func80 rfl ?_
   (repeat' (first|with_reducible refine And.intro ?_ ?_|(with_reducible intro hc;(try simp only [zz] at hc);try exact ct)|((conv=>whnf);first|(with_reducible first|refine And.intro ?_ ?_|intro hx|apply Val.via|apply Qk.via)|exact Is.mk rfl rfl|refine sp ?_|refine vx (by (first|exact Ql rfl rfl|exact Qm hk rfl|exact Qm (i:=0) rfl rfl|exact Qm (i:=1) rfl rfl|exact Qm (i:=2) rfl rfl|exact Qa rfl rfl rfl|rfl)) ?_|refine dY ?_|(first|refine cl (p0 _ 3 4 5 7 rfl rfl rfl rfl rfl rfl (Nm3.mk (by decide))) ?_|refine cl (pe _ 7 8 9 10 rfl rfl rfl rfl rfl rfl (Nm3.mk (by decide))) ?_|refine cl (pp _ 10 11 12 13 rfl rfl rfl rfl rfl rfl (Nm3.mk (by decide))) ?_)|refine sq ?_)))
   (all_goals try exact om)
   all_goals exact Qg.mk ⟨rfl,13,14,15,rfl,(by repeat' (first|exact trivial|refine And.intro rfl ?_))⟩
 | @if2 nm tx n b hb =>
  refine MkC.of (Qt (by simp)) fun x hx=> ?_
  have hc:=Xj n
  rw [cntN,cntL,cntL,cntL] at hf hkk
  have b0:=hs.put 0 1 [] 0 (j:=k+1) (by omega) (by omega) (by omega) (by omega) (by omega)
  have p0:=fun H a b c n=>Kf (s:=s) (x:=x) (H:=H) (a:=a) (b:=b) (c:=c) (n:=n) 0 1 [] 0 (hs.mono (by omega)) (by omega) (by omega) (by omega) hx
  rw [Cb]
  generalize Qv 0 1 [] 0 s=q0 at *
  have pe:=exprAt n b0 (by omega) hx
  have b1:=Zg n _ _ b0
  generalize exprM n q0.2=m1 at *
  have pu:=fun H a b c n=>Kf (s:=m1) (x:=x) (H:=H) (a:=a) (b:=b) (c:=c) (n:=n) 9 0 [] (-1) (b1.mono (by omega)) (by omega) (by omega) (by omega) hx
  have b2:=b1.put 9 0 [] (-1) (j:=k+10*cntN n+1) (by omega) (by omega) (by omega) (by omega) (by omega)
  have l2:=(Xd 9 0 [] (-1) m1).2.1
  generalize Qv 9 0 [] (-1) m1=u at *
  have pb:=ih.bAt b hb (by omega) b2 (by omega) hx
  obtain ⟨b3,l3⟩:=hb.gr u.2 _ b2
  have e0:(1==1)=true:=rfl
  rw [e0] at b3 l3
  generalize stmtM b true u.2=m3 at *
  have pl:=fun H a b c n=>leadAt (s:=m3) (x:=x) (H:=H) (a:=a) (b:=b) (c:=c) (n:=n) u.1 (by omega) (b3.mono (by omega)) hx
  generalize Ye u.1 m3=z at *
  obtain ⟨op2,tx2,nm2,kk2⟩:=n
  obtain ⟨op3,tx3,nm3,kk3⟩:=b
  rw [nV,cellsN]
  simp only [List.length_cons,List.length_nil,Nat.zero_add,Nat.reduceAdd]
  simp only [nV,cellsN] at pe pb
  refine Qc.go Tryz.func80 rfl ?_
  (repeat' (first|with_reducible refine And.intro ?_ ?_|(with_reducible intro hc;(try simp only [zz] at hc);try exact ct)|((conv=>whnf);first|(with_reducible first|refine And.intro ?_ ?_|intro hx|apply Val.via|apply Qk.via)|exact Is.mk rfl rfl|refine sp ?_|refine vx (by (first|exact Ql rfl rfl|exact Qm hk rfl|exact Qm (i:=0) rfl rfl|exact Qm (i:=1) rfl rfl|exact Qm (i:=2) rfl rfl|exact Qa rfl rfl rfl|rfl)) ?_|refine dY ?_|(first|refine cl (p0 _ 3 4 5 7 rfl rfl rfl rfl rfl rfl (Nm3.mk (by decide))) ?_|refine cl (pe _ 7 8 9 10 rfl rfl rfl rfl rfl rfl (Nm3.mk (by decide))) ?_|refine cl (pu _ 10 11 12 13 rfl rfl rfl rfl rfl rfl (Nm3.mk (by decide))) ?_|refine cl (pb _ 13 14 15 16 rfl rfl rfl rfl rfl rfl (Nm3.mk (by decide))) ?_|refine cl (pl _ 16 17 18 19 rfl rfl rfl rfl rfl rfl (Nm3.mk (by decide))) ?_)|refine sq ?_)))
  (all_goals try exact om)
  all_goals exact Qg.mk ⟨rfl,19,20,21,rfl,(by repeat' (first|exact trivial|refine And.intro rfl ?_))⟩
 | @if3 nm tx n b c hb hcc =>
  refine MkC.of (Qt (by simp)) fun x hx=> ?_
  have hc:=Xj n
  rw [cntN,cntL,cntL,cntL,cntL] at hf hkk
  have b0:=hs.put 0 1 [] 0 (j:=k+1) (by omega) (by omega) (by omega) (by omega) (by omega)
  have p0:=fun H a b c n=>Kf (s:=s) (x:=x) (H:=H) (a:=a) (b:=b) (c:=c) (n:=n) 0 1 [] 0 (hs.mono (by omega)) (by omega) (by omega) (by omega) hx
  rw [Ca]
  generalize Qv 0 1 [] 0 s=q0 at *
  have pe:=exprAt n b0 (by omega) hx
  have b1:=Zg n _ _ b0
  generalize exprM n q0.2=m1 at *
  have pu:=fun H a b c n=>Kf (s:=m1) (x:=x) (H:=H) (a:=a) (b:=b) (c:=c) (n:=n) 9 0 [] (-1) (b1.mono (by omega)) (by omega) (by omega) (by omega) hx
  have b2:=b1.put 9 0 [] (-1) (j:=k+10*cntN n+1) (by omega) (by omega) (by omega) (by omega) (by omega)
  have l2:=(Xd 9 0 [] (-1) m1).2.1
  generalize Qv 9 0 [] (-1) m1=u at *
  have pb:=ih.bAt b hb (by omega) b2 (by omega) hx
  obtain ⟨b3,l3⟩:=hb.gr u.2 _ b2
  have e0:(1==1)=true:=rfl
  rw [e0] at b3 l3
  generalize stmtM b true u.2=m3 at *
  have pj:=fun H a b c n=>Kf (s:=m3) (x:=x) (H:=H) (a:=a) (b:=b) (c:=c) (n:=n) 8 0 [] 0 (b3.mono (by omega)) (by omega) (by omega) (by omega) hx
  have b4:=b3.put 8 0 [] 0 (j:=k+10*cntN n+1+10*cntN b+1) (by omega) (by omega) (by omega) (by omega) (by omega)
  have l4:=Xd 8 0 [] 0 m3
  generalize Qv 8 0 [] 0 m3=w at *
  have pl:=fun H a b c n=>leadAt (s:=w.2) (x:=x) (H:=H) (a:=a) (b:=b) (c:=c) (n:=n) u.1 (by omega) (b4.mono (by omega)) hx
  have b5:=b4.lead u.1
  have l5:=Wv u.1 w.2
  generalize Ye u.1 w.2=m5 at *
  have pc:=ih.bAt c hcc (by omega) b5 (by omega) hx
  obtain ⟨b6,l6⟩:=hcc.gr m5 _ b5
  rw [e0] at b6 l6
  generalize stmtM c true m5=m6 at *
  have pm:=fun H a b c n=>leadAt (s:=m6) (x:=x) (H:=H) (a:=a) (b:=b) (c:=c) (n:=n) w.1 (by omega) (b6.mono (by omega)) hx
  generalize Ye w.1 m6=z at *
  obtain ⟨op2,tx2,nm2,kk2⟩:=n
  obtain ⟨op3,tx3,nm3,kk3⟩:=b
  obtain ⟨op4,tx4,nm4,kk4⟩:=c
  rw [nV,cellsN]
  simp only [List.length_cons,List.length_nil,Nat.zero_add,Nat.reduceAdd]
  simp only [nV,cellsN] at pe pb pc
  refine Qc.go Tryz.func80 rfl ?_
  (repeat' (first|with_reducible refine And.intro ?_ ?_|(with_reducible intro hc;(try simp only [zz] at hc);try exact ct)|((conv=>whnf);first|(with_reducible first|refine And.intro ?_ ?_|intro hx|apply Val.via|apply Qk.via)|exact Is.mk rfl rfl|refine sp ?_|refine vx (by (first|exact Ql rfl rfl|exact Qm hk rfl|exact Qm (i:=0) rfl rfl|exact Qm (i:=1) rfl rfl|exact Qm (i:=2) rfl rfl|exact Qa rfl rfl rfl|rfl)) ?_|refine dY ?_|(first|refine cl (p0 _ 3 4 5 7 rfl rfl rfl rfl rfl rfl (Nm3.mk (by decide))) ?_|refine cl (pe _ 7 8 9 10 rfl rfl rfl rfl rfl rfl (Nm3.mk (by decide))) ?_|refine cl (pu _ 10 11 12 13 rfl rfl rfl rfl rfl rfl (Nm3.mk (by decide))) ?_|refine cl (pb _ 13 14 15 16 rfl rfl rfl rfl rfl rfl (Nm3.mk (by decide))) ?_|refine cl (pj _ 16 17 18 19 rfl rfl rfl rfl rfl rfl (Nm3.mk (by decide))) ?_|refine cl (pl _ 19 20 21 22 rfl rfl rfl rfl rfl rfl (Nm3.mk (by decide))) ?_|refine cl (pc _ 22 23 24 25 rfl rfl rfl rfl rfl rfl (Nm3.mk (by decide))) ?_|refine cl (pm _ 25 26 27 28 rfl rfl rfl rfl rfl rfl (Nm3.mk (by decide))) ?_)|refine sq ?_)))
  (all_goals try exact om)
  all_goals exact Qg.mk ⟨rfl,28,29,30,rfl,(by repeat' (first|exact trivial|refine And.intro rfl ?_))⟩
 | @while_ nm tx n b hb =>
  refine MkC.of (Qt (by simp)) fun x hx=> ?_
  have hc:=Xj n
  have hbl:=hs.l
  rw [cntN,cntL,cntL,cntL] at hf hkk
  have ph:=fun H a b c n=>hereAt (s:=s) (x:=x) (H:=H) (a:=a) (b:=b) (c:=c) (n:=n) hx
  have b0:=hs.here.put 0 1 [] 0 (j:=k+1) (by omega) (by omega) (by omega) (by omega) (by omega)
  have p0:=fun H a b c n=>Kf (s:=Z9 s) (x:=x) (H:=H) (a:=a) (b:=b) (c:=c) (n:=n) 0 1 [] 0 (hs.here.mono (by omega)) (by omega) (by omega) (by omega) hx
  rw [W5]
  generalize Z9 s=sh at *
  generalize Qv 0 1 [] 0 sh=q0 at *
  have pe:=exprAt n b0 (by omega) hx
  have b1:=Zg n _ _ b0
  generalize exprM n q0.2=m1 at *
  have pu:=fun H a b c n=>Kf (s:=m1) (x:=x) (H:=H) (a:=a) (b:=b) (c:=c) (n:=n) 9 0 [] (-1) (b1.mono (by omega)) (by omega) (by omega) (by omega) hx
  have b2:=b1.put 9 0 [] (-1) (j:=k+10*cntN n+1) (by omega) (by omega) (by omega) (by omega) (by omega)
  have l2:=(Xd 9 0 [] (-1) m1).2.1
  generalize Qv 9 0 [] (-1) m1=u at *
  have pb:=ih.bAt b hb (by omega) b2 (by omega) hx
  obtain ⟨b3,l3⟩:=hb.gr u.2 _ b2
  have e0:(1==1)=true:=rfl
  rw [e0] at b3 l3
  generalize stmtM b true u.2=m3 at *
  have pj:=fun H a b c n=>Kf (s:=m3) (x:=x) (H:=H) (a:=a) (b:=b) (c:=c) (n:=n) 8 s.l.length [] 0 (b3.mono (by omega)) (by omega) (by omega) (by omega) hx
  have b4:=b3.put 8 s.l.length [] 0 (j:=k+10*cntN n+1+10*cntN b+1) (by omega) (by omega) (by omega) (by omega) (by omega)
  have l4:=Xd 8 s.l.length [] 0 m3
  generalize Qv 8 s.l.length [] 0 m3=w at *
  have pl:=fun H a b c n=>leadAt (s:=w.2) (x:=x) (H:=H) (a:=a) (b:=b) (c:=c) (n:=n) u.1 (by omega) (b4.mono (by omega)) hx
  generalize Ye u.1 w.2=z at *
  obtain ⟨op2,tx2,nm2,kk2⟩:=n
  obtain ⟨op3,tx3,nm3,kk3⟩:=b
  rw [nV,cellsN]
  simp only [List.length_cons,List.length_nil,Nat.zero_add,Nat.reduceAdd]
  simp only [nV,cellsN] at pe pb
  refine Qc.go Tryz.func80 rfl ?_
  (repeat' (first|with_reducible refine And.intro ?_ ?_|(with_reducible intro hc;(try simp only [zz] at hc);try exact ct)|((conv=>whnf);first|(with_reducible first|refine And.intro ?_ ?_|intro hx|apply Val.via|apply Qk.via)|exact Is.mk rfl rfl|refine sp ?_|refine vx (by (first|exact Ql rfl rfl|exact Qm hk rfl|exact Qm (i:=0) rfl rfl|exact Qm (i:=1) rfl rfl|exact Qm (i:=2) rfl rfl|exact Qa rfl rfl rfl|rfl)) ?_|refine dY ?_|(first|refine cl (ph _ 3 4 5 7 rfl rfl rfl rfl rfl rfl (Nm3.mk (by decide))) ?_|refine cl (p0 _ 7 8 9 10 rfl rfl rfl rfl rfl rfl (Nm3.mk (by decide))) ?_|refine cl (pe _ 10 11 12 13 rfl rfl rfl rfl rfl rfl (Nm3.mk (by decide))) ?_|refine cl (pu _ 13 14 15 16 rfl rfl rfl rfl rfl rfl (Nm3.mk (by decide))) ?_|refine cl (pb _ 16 17 18 19 rfl rfl rfl rfl rfl rfl (Nm3.mk (by decide))) ?_|refine cl (pj _ 19 20 21 22 rfl rfl rfl rfl rfl rfl (Nm3.mk (by decide))) ?_|refine cl (pl _ 22 23 24 25 rfl rfl rfl rfl rfl rfl (Nm3.mk (by decide))) ?_)|refine sq ?_)))
  (all_goals try exact om)
  all_goals exact Qg.mk ⟨rfl,25,26,27,rfl,(by repeat' (first|exact trivial|refine And.intro rfl ?_))⟩
 | @stop nm tx =>
  refine MkC.of (Qt (by simp)) fun x hx=> ?_
  rw [cntN,cntL] at hf hkk
  have b0:=hs.put 0 1 [] 0 (j:=k+1) (by omega) (by omega) (by omega) (by omega) (by omega)
  have p0:=fun H a b c n=>Kf (s:=s) (x:=x) (H:=H) (a:=a) (b:=b) (c:=c) (n:=n) 0 1 [] 0 (hs.mono (by omega)) (by omega) (by omega) (by omega) hx
  rw [Ng]
  generalize Qv 0 1 [] 0 s=q0 at *
  have pp:=fun H a b c n=>Kf (s:=q0.2) (x:=x) (H:=H) (a:=a) (b:=b) (c:=c) (n:=n) 10 0 [] 0 (b0.mono (by omega)) (by omega) (by omega) (by omega) hx
  generalize Qv 10 0 [] 0 q0.2=q3 at *
  rw [nV,cellsN,rowsN]
  refine Qc.go Tryz.func80 rfl ?_
  (repeat' (first|with_reducible refine And.intro ?_ ?_|(with_reducible intro hc;(try simp only [zz] at hc);try exact ct)|((conv=>whnf);first|(with_reducible first|refine And.intro ?_ ?_|intro hx|apply Val.via|apply Qk.via)|exact Is.mk rfl rfl|refine sp ?_|refine vx (by (first|exact Ql rfl rfl|exact Qm hk rfl|exact Qm (i:=0) rfl rfl|exact Qm (i:=1) rfl rfl|exact Qm (i:=2) rfl rfl|exact Qa rfl rfl rfl|rfl)) ?_|refine dY ?_|(first|refine cl (p0 _ 3 4 5 7 rfl rfl rfl rfl rfl rfl (Nm3.mk (by decide))) ?_|refine cl (pp _ 7 8 9 10 rfl rfl rfl rfl rfl rfl (Nm3.mk (by decide))) ?_)|refine sq ?_)))
  (all_goals try exact om)
  all_goals exact Qg.mk ⟨rfl,10,11,12,rfl,(by repeat' (first|exact trivial|refine And.intro rfl ?_))⟩
theorem st_call: ∀ f,StC f
 | 0=>fun b n s k hn hf hs hk=>absurd (Xj n) (by omega)
 | f+1=>fun b n s k hn hf hs hk=>match b with
  | true=>block_st (st_call f) n s k hn hf hs hk
  | false=>stmt_st (st_call f) n s k hn hf hs hk
end Go.Proofs.YtpbiblhkcomekaaGreat
