import Derived.Test.YtpbiblhkcomekaaGreatBE5
import Derived.Test.YtpbiblhkcomekaaGreatBA7
import Derived.Test.YtpbiblhkcomekaaGreatBU2
import Derived.Test.YtpbiblhkcomekaaGreatBU1
import Derived.Test.YtpbiblhkcomekaaGreatBA1
import Derived.Test.YtpbiblhkcomekaaGreatBA6
import Derived.Test.YtpbiblhkcomekaaGreatBB2
/- code.Of, walked: a text's program. -/
namespace Go.Proofs.YtpbiblhkcomekaaGreat
open Go Go.RowKit
set_option linter.unusedSimpArgs false
set_option linter.unusedVariables false
set_option maxRecDepth 100000
set_option maxHeartbeats 8000000
def ofM (t:List UInt8):Nat ⊕ Pgm:=if (Zs t).2=0 then El (Zs t).1 else .inl (Zs t).2
def resH (r:Nat ⊕ Pgm) (H:Heap) (v:VV) (K:Heap):Prop:=match r with
 | .inl e=>v= .tp [.sc (.pointer none),iV e]∧K=H
 | .inr g=>v= .tp [.ptr H.next 0,iV 0]∧K=⟨pgO H.next (H.next+1) (H.next+2) (H.next+3) g++H.objs,H.next+4⟩
theorem hsV_nl (l:List Hnd): ∀ v∈l.map hV,Qd v:=fun v hv=>by obtain ⟨z,_,rfl⟩:=List.mem_map.1 hv;exact hV_nl z
theorem resC_at {f:FuncId} {args:List VV} {r:Nat ⊕ Pgm} (ha: ∀ v∈args,Qd v) (h:Qc Tryz.prog f args ⟨[],0⟩ (resC r)) (H:Heap):Qc Tryz.prog f args H (resH r H):=by
 cases r with
 | inl e =>
  refine Qc.pure ha (Qt (by intro v hv;simp only [List.mem_cons,List.not_mem_nil,or_false] at hv;rcases hv with rfl|rfl <;> exact Qb _)) (h.mono ?_)
  rintro v K ⟨rfl,_⟩
  rfl
 | inr g =>
  refine Qc.live fun hlive=> ?_
  obtain ⟨objs,nx⟩:=H
  refine Qc.at (n1:=0) (O1:= []) [] [] rfl trivial (Qe.of ha) h ?_
  rintro v K ⟨rfl,rfl⟩
  have e0:Jm [] 0 nx (4 - 0)= [(3,nx+3),(2,nx+2),(1,nx+1),(0,nx)]:=rfl
  have hw:wfR 0 (nx+4) [(3,nx+3),(2,nx+2),(1,nx+1),(0,nx)]=true:=by
   refine C1 ?_ ?_
   ·simp only [List.mem_cons,List.not_mem_nil,or_false,forall_eq_or_imp,forall_eq]
    omega
   ·simp only [List.map_cons,List.map_nil,List.nodup_cons,List.mem_cons,List.not_mem_nil,or_false,not_false_eq_true,List.nodup_nil,and_true,not_or]
    omega
  have sr: ∀ i j:Nat,(i,j)∈ [(3,nx+3),(2,nx+2),(1,nx+1),(0,nx)]→srcN [(3,nx+3),(2,nx+2),(1,nx+1),(0,nx)] j=some i:=fun i j hj=>(Xe hw (i,j) hj).2.2
  have t0:=sr 0 nx (by simp)
  have t1:=sr 1 (nx+1) (by simp)
  have t2:=sr 2 (nx+2) (by simp)
  have t3:=sr 3 (nx+3) (by simp)
  have hx:Qd (roS (ofL ltS g.calls)):=Qx (Jf Qj _)
  refine ⟨.tp [.ptr nx 0,iV 0],pgO nx (nx+1) (nx+2) (nx+3) g,⟨?_,?_,?_⟩,?_,rfl,?_⟩
  ·show (wfR 0 (nx+4) (Jm _ 0 nx (4 - 0))&&nodupB (Zy (Jm _ 0 nx (4 - 0)) 0 (pgO nx (nx+1) (nx+2) (nx+3) g))&&(pgO nx (nx+1) (nx+2) (nx+3) g).all (fun p=>(srcN (Jm _ 0 nx (4 - 0)) p.1).isSome)&&_)=true
   rw [e0,hw]
   simp only [pgO,Zy,Q7,t0,t1,t2,t3,List.all_cons,List.all_nil]
   rfl
  ·show Qi (Jm _ 0 nx (4 - 0)) 0 _ _
   rw [e0]
   exact .tp (.cons (.ptr (by simp)) (.cons (.of (Qb _)) .nil))
  ·show W1 (Jm _ 0 nx (4 - 0)) 0 ⟨pgO 0 1 2 3 g,4⟩ _
   rw [e0]
   refine ⟨?_,?_,?_,?_,trivial⟩
   ·rw [Q7,t0];exact ⟨_,rfl,Eo hx (by simp) (by simp) (by simp)⟩
   ·rw [Q7,t1];exact ⟨_,rfl,.map (Qe.of (hsV_nl _))⟩
   ·rw [Q7,t2];exact ⟨_,rfl,.opt (Qe.of (Jb _))⟩
   ·rw [Q7,t3];exact ⟨_,rfl,.opt (Qe.of (Jg _))⟩
  ·have hl: ∀ i y,hget objs i=some y→i < nx:=hlive
   have m0:=Jq (D:= []) hl (show nx≤nx by omega)
   have m1:=Jq (D:= []) hl (show nx≤nx+1 by omega)
   have m2:=Jq (D:= []) hl (show nx≤nx+2 by omega)
   have m3:=Jq (D:= []) hl (show nx≤nx+3 by omega)
   simp only [pgO,List.all_cons,List.all_nil,m0,m1,m2,m3]
   rfl
  ·rw [Cg]
   rfl
theorem FitS.sh {i d:Nat} {n:Nd} (h:FitS i d n):ShS i n:=by
 induction h with
 | set h hn=>exact .one (.inl rfl)
 | do_ hn=>exact .one (.inr rfl)
 | if2 hn hb ih=>exact .if2 ih
 | if3 hn hb hc ih1 ih2=>exact .if3 ih1 ih2
 | while_ hn hb ih=>exact .while_ ih
 | stop=>exact .stop
 | block hd hk ih=>exact .block ih
theorem FitO.ok {n:Nd} (h:FitO n):HOk n:=by
 obtain ⟨x,ys,b,rfl,_,_,hb⟩:=h
 exact ⟨_,_,_,_,b,rfl,hb.sh⟩
theorem of0_call (t:List UInt8) (ht:t.length≤1200):Qc Tryz.prog 8 [roB t] ⟨[],0⟩ (resC (ofM t)):=by
 have hp:=parse_call t (by omega)
 unfold ofM
 by_cases h0:(Zs t).2=0
 ·rw [if_pos h0]
  obtain ⟨ks,e1,e2,_,e4⟩:=back_fit ht h0
  have hc:=parseT_cnt t
  rw [h0,e1] at hp
  rw [e1] at hc ⊢
  have hcc:=resC_at (by intro v hv;rw [List.mem_singleton] at hv;subst hv;exact Q0 _) (compile_call 0 0 [] ks (by omega) (fun h hh=>(e2 h hh).ok) e4)
  generalize El (.mk 0 [] 0 ks)=r at *
  rw [nV,cellsN] at hcc hp
  refine Qc.fin ?_
  cases r with
  | inl e =>
   have hcc:=fun H=>(show Qc _ _ _ H (fun v K=>v= .tp [.sc (.pointer none),iV e]∧K=H) from hcc H)
   refine Qc.go Tryz.func8 rfl ?_
   (repeat' (first|with_reducible refine And.intro ?_ ?_|(with_reducible intro hc;(try simp only [zz] at hc);try exact ct)|((conv=>whnf);first|(with_reducible first|refine And.intro ?_ ?_|intro hx|apply Val.via|apply Qk.via)|exact Is.mk rfl rfl|refine sp ?_|refine vx (by (first|exact Ql rfl rfl|exact Qa rfl rfl rfl|rfl)) ?_|refine dY ?_|(first|refine cl (hp _) ?_|refine cl (hcc _) ?_)|refine sq ?_)))
   (all_goals try exact om)
   all_goals exact Qg.mk (Bl rfl)
  | inr g =>
   have hcc:=fun H=>(show Qc _ _ _ H (fun v K=>v= .tp [.ptr H.next 0,iV 0]∧K=⟨pgO H.next (H.next+1) (H.next+2) (H.next+3) g++H.objs,H.next+4⟩) from hcc H)
   have hx:Qd (roS (ofL ltS g.calls)):=Qx (Jf Qj _)
   refine Qc.go Tryz.func8 rfl ?_
   (repeat' (first|with_reducible refine And.intro ?_ ?_|(with_reducible intro hc;(try simp only [zz] at hc);try exact ct)|((conv=>whnf);first|(with_reducible first|refine And.intro ?_ ?_|intro hx|apply Val.via|apply Qk.via)|exact Is.mk rfl rfl|refine sp ?_|refine vx (by (first|exact Ql rfl rfl|exact Qa rfl rfl rfl|rfl)) ?_|refine dY ?_|(first|refine cl (hp _) ?_|refine cl (hcc _) ?_)|refine sq ?_)))
   (all_goals try exact om)
   all_goals refine Qg.mk ⟨[(1,0),(2,1),(3,2),(4,3)],.tp [.ptr 0 0,iV 0],pgO 0 1 2 3 g,4,rfl,rfl,rfl,.tp (.cons (.ptr (b:=1) (by decide)) (.cons (.of (Qb _)) .nil)),?_,rfl,rfl⟩
   exact ⟨⟨_,rfl,Eo (a:=3) (b:=4) (q:=2) hx (by decide) (by decide) (by decide)⟩,⟨_,rfl,.map (Qe.of (hsV_nl _))⟩,⟨_,rfl,.opt (Qe.of (Jb _))⟩,⟨_,rfl,.opt (Qe.of (Jg _))⟩,trivial⟩
 ·rw [if_neg h0]
  generalize Zs t=q at *
  obtain ⟨n,e⟩:=q
  obtain ⟨op,tx,nm,ks⟩:=n
  simp only at h0 hp
  rw [nV,cellsN] at hp
  refine Qc.fin ?_
  refine Qc.go Tryz.func8 rfl ?_
  (repeat' (first|with_reducible refine And.intro ?_ ?_|(with_reducible intro hc;(try simp only [zz] at hc);try exact ct)|((conv=>whnf);first|(with_reducible first|refine And.intro ?_ ?_|intro hx|apply Val.via|apply Qk.via)|exact Is.mk rfl rfl|refine sp ?_|refine vx (by (first|exact Ql rfl rfl|exact Qa rfl rfl rfl|rfl)) ?_|refine dY ?_|refine cl (hp _) ?_|refine sq ?_)))
  (all_goals try exact om)
  all_goals exact Qg.mk (Bl rfl)
theorem of_call (t:List UInt8) (ht:t.length≤1200) (H:Heap):Qc Tryz.prog 8 [roB t] H (resH (ofM t) H):=resC_at (by intro v hv;rw [List.mem_singleton] at hv;subst hv;exact J4 t) (of0_call t ht) H
set_option maxRecDepth 20000
inductive LxL:List UInt8→List Sg→List UInt8→Prop where
 | nil {u:List UInt8}:LxL u [] u
 | cons {u u' v:List UInt8} {g:Sg} {gs:List Sg} (h0:u≠ []) (h1:(Xl u).e=0) (h2:(Xl u).sg=g) (h3:Kx (u.drop (Xl u).n)=u') (h4:u'.length < u.length) (t:LxL u' gs v):LxL u (g::gs) v
theorem LxL.app {u v w:List UInt8} {a b:List Sg} (h:LxL u a v) (k:LxL v b w):LxL u (a++b) w:=by
 induction h with
 | nil=>exact k
 | cons h0 h1 h2 h3 h4 _ ih=>exact .cons h0 h1 h2 h3 h4 (ih k)
def OkT (u:List UInt8):Prop:=Kx u=u
theorem LxL.one {u u':List UInt8} {g:Sg} {n:Nat} (h:Xl u=⟨g,n,0⟩) (hd:u.drop n=u') (hk:OkT u') (hl:u'.length < u.length):LxL u [g] u' :=
 .cons (by intro e;subst e;simp at hl) (by rw [h]) (by rw [h]) (by rw [h];simp only;rw [hd];exact hk) hl .nil
def nm1:Nd→List (List UInt8)→List (List UInt8)
 | .mk op tx _ _,ns=>if op=11∨op=3 then (Jp ns tx).2 else ns
set_option maxRecDepth 100000
theorem Qc.fzS {P:Program} {f:FuncId} {H:Heap} {Q:VV→Heap→Prop} {b n z:Nat} {c:Option Nat} {vs:List VV} (hg:H.get b=some (.cells true vs)) (hl:0+n*z≤vs.length) (hn: ∀ v∈vs,Qd v) (h:Qc P f [.ro n ((vs.drop 0).take (n*z))] (H.del b) Q):Qc P f [.sl b 0 n c z] H Q:=fun B M Z ρ w ra h1 h2=>by
 obtain ⟨l⟩:=ra
 match l,h2 with
 | [y],h2 =>
  have h3:=h2.2 0 _ _ rfl rfl
  cases h3 with
  | sl hk hcap hc hzz =>
   obtain ⟨ds,g1,g2,g3⟩:=h1.read hg hk 0 (n*z) hl
   refine (h B M _ ρ w _ (h1.freezeB hg hk) (Pw.cons ?_ Pw.nil)).mono ?_
   ·refine .ro (cs:=ds) (.inr rfl) hcap g1.1 (fun i hi=> ?_) (fun i u c' hu hc'=> ?_)
    ·have:=g3 i (ds[i]'hi) (List.getElem?_eq_getElem hi)
     rw [J6] at this
     rw [this,List.getElem?_eq_getElem hi]
    ·have hm:u∈vs:=List.mem_of_mem_drop (List.mem_of_mem_take (List.mem_of_getElem? hu))
     exact ((hn u hm) _ _ _ _ _ (g1.2 i u c' hu hc')).zmono fun _ h=> .inl h
   ·rintro e w' ⟨v',v,H',Z',ρ',e0,q,e1,r1,v1⟩
    exact ⟨v',v,H',Z',ρ',e0,q,e1.unfreeze (h1.ownB hg rfl hk),r1,v1⟩
theorem ofS (w:List UInt8) (hw:w.length≤1200) {H:Heap} {b n:Nat} {c:Option Nat} {vs:List VV} (hg:H.get b=some (.cells true vs)) (hv:vs=w.map bV) (hn:n=w.length):Qc Tryz.prog 8 [.sl b 0 n c 1] H (resH (ofM w) (H.del b)):=by
 subst hv hn
 refine Qc.fzS hg (by simp) (Jf Zd w) ?_
 rw [List.drop_zero,Nat.mul_one,List.take_of_length_le (by simp)]
 exact of_call w hw _
def lvT:List UInt8:= [111,110,32,97,40,120,41,123,121,61,120,59,125]
def lvH:Hnd:=⟨[97],[0],[⟨0,2,[]⟩,⟨2,0,[]⟩,⟨3,1,[]⟩,⟨10,0,[]⟩]⟩
def lvG:Pgm:=⟨[[120],[121]],[],[lvH],[]⟩
theorem lv_of:ofM lvT= .inr lvG:=by kernel_rfl
theorem eqN_run (f g:Ins) (w:World):(Op.equal 41 (.agg #[.int .i64 f.op,.int .i64 f.a,.string ⟨f.text.toArray⟩]) (.agg #[.int .i64 g.op,.int .i64 g.a,.string ⟨g.text.toArray⟩])).run Tryz.prog w= .ok (decide (f=g)) w:=by
 refine (fun d=> ?_: ∀ d:Nat,(Op.equalIn (d+2) 41 _ _).run Tryz.prog w= .ok _ w) 9998
 have tk:Wo Tryz.prog 39=some false:=by kernel_rfl
 have ti:Wo Tryz.prog 3=some false:=by kernel_rfl
 have h1:=fun w=>X8 tk (cs:= #[.int .i64 f.op,.int .i64 f.a,.string ⟨f.text.toArray⟩]) (off:=0) rfl w
 have h2:=fun w=>X8 tk (cs:= #[.int .i64 g.op,.int .i64 g.a,.string ⟨g.text.toArray⟩]) (off:=0) rfl w
 have h3:=fun w=>X8 ti (cs:= #[.int .i64 f.op,.int .i64 f.a,.string ⟨f.text.toArray⟩]) (off:=1) rfl w
 have h4:=fun w=>X8 ti (cs:= #[.int .i64 g.op,.int .i64 g.a,.string ⟨g.text.toArray⟩]) (off:=1) rfl w
 have h5:=fun w=>X8 vagg_str (cs:= #[.int .i64 f.op,.int .i64 f.a,.string ⟨f.text.toArray⟩]) (off:=2) rfl w
 have h6:=fun w=>X8 vagg_str (cs:= #[.int .i64 g.op,.int .i64 g.a,.string ⟨g.text.toArray⟩]) (off:=2) rfl w
 have e1:=fun w=>eqI_run (P:=Tryz.prog) (t:=39) (k:= .i64) Tryz.underlying39 f.op g.op d w
 have e2:=fun w=>eqI_run (P:=Tryz.prog) (t:=3) (k:= .i64) Tryz.underlying3 f.a g.a d w
 have e3:=fun w=>eqStr_run (P:=Tryz.prog) (t:=9) Tryz.underlying9 ⟨f.text.toArray⟩ ⟨g.text.toArray⟩ d w
 rw [Op.equalIn]
 simp [run_underlying Tryz.underlying41,h1,h2,h3,h4,h5,h6,e1,e2,e3]
 rw [bytes_eqD]
 obtain ⟨f1,f2,f3⟩:=f
 obtain ⟨g1,g2,g3⟩:=g
 by_cases c1:f1=g1 <;> by_cases c2:f2=g2 <;> by_cases c3:f3=g3 <;> simp [c1,c2,c3] <;> (intros;omega)
theorem eqN_op {o:Oper} {ts:List VV} {H:Heap} {K:VV→Heap→Prop} {x y:Operand} {p:TypeId} {f g:Ins} (ho:o.op= .binOp .eql 41 x y p) (hx:Qh ts x= .ag [iV f.op,iV f.a,Qn f.text]) (hy:Qh ts y= .ag [iV g.op,iV g.a,Qn g.text]) (k:K (.sc (.bool (decide (f=g)))) H):Qr Tryz.prog o ts H K :=
 Qr.eqAg ho (.inl rfl) hx hy rfl rfl (by kernel_rfl) (fun w=>eqN_run f g w) k
theorem lives22_call (H:Heap):Qc Tryz.prog 7 [] H (fun v K=>v= .sc (.bool true)∧K=H):=by
 refine Qc.pure (by simp) (Qb _) ?_
 have k1: ∀ {H:Heap} {b n:Nat} {c:Option Nat} {vs:List VV},H.get b=some (.cells true vs)→vs=lvT.map bV→n=lvT.length→Qc Tryz.prog 8 [.sl b 0 n c 1] H (fun v K=>v= .tp [.ptr H.next 0,iV 0]∧K=⟨pgO H.next (H.next+1) (H.next+2) (H.next+3) lvG++(H.del b).objs,H.next+4⟩):=fun {H b n c vs} hg hv hn=>by
  have h:=ofS lvT (by decide) (c:=c) hg hv hn
  rw [lv_of] at h
  exact h
 have k2:=fun H=>twin_call lvH (by decide) (by decide) H
 refine Qc.go Tryz.func7 rfl ?_
 (repeat' (first|with_reducible refine And.intro ?_ ?_|(with_reducible intro hc;(try simp only [zz] at hc);try exact ct)|((conv=>whnf);first|(with_reducible first|refine And.intro ?_ ?_|intro hx|apply Val.via|apply Qk.via)|exact Is.mk rfl rfl|refine sp ?_|refine vx (by (first|exact Ql rfl rfl|exact Qa rfl rfl rfl|rfl)) ?_|refine dY ?_|(first|refine cl (k1 rfl rfl rfl) ?_|refine cl (k2 _) ?_|(refine Xc.mk (Qc.inl Tryz.func13 rfl ?_))|(refine Qw (eqN_op (f:=⟨0,2,[]⟩) (g:=⟨0,2,[]⟩) rfl rfl rfl ?_)))|refine sq ?_)))
 all_goals (first|omega|contradiction|decide|skip)
 all_goals exact Qg.mk rfl
theorem compL_pos: ∀ (ks:List Nd) (ns:List (List UInt8)) (cs:List Cst) (dp:Bool) (out:List Hnd) (e:Nat),compL ks ns cs dp out= .inl e→e≠0
 | [],ns,cs,dp,out,e,h=>by
  rw [compL] at h
  split at h
  ·simp only [Sum.inl.injEq] at h
   omega
  ·simp at h
 | .mk op tx nm kk::r,ns,cs,dp,out,e,h=>by
  rw [compL] at h
  try dsimp only at h
  split at h
  ·simp only [Sum.inl.injEq] at h
   omega
  ·exact compL_pos r _ _ _ _ e h
theorem compM_pos {n:Nd} {e:Nat} (h:El n= .inl e):e≠0:=by
 obtain ⟨op,tx,nm,ks⟩:=n
 unfold El at h
 try dsimp only at h
 split at h
 ·simp only [Sum.inl.injEq] at h
  omega
 ·split at h
  ·rename_i e2 h2
   simp only [Sum.inl.injEq] at h
   subst h
   exact compL_pos _ _ _ _ _ _ h2
  ·simp at h
theorem ofM_pos {t:List UInt8} {e:Nat} (h:ofM t= .inl e):e≠0:=by
 unfold ofM at h
 split at h
 ·exact compM_pos h
 ·rename_i h0
  simp only [Sum.inl.injEq] at h
  subst h
  exact h0
theorem compL_bd: ∀ (ks:List Nd) (ns:List (List UInt8)) (cs:List Cst) (dp:Bool) (out:List Hnd) (j:Nat) (r:_),(∀ h∈ks,HOk h)→ns.length≤j→cs.length≤j→j+12*cntL ks≤900000→compL ks ns cs dp out= .inr r→r.1.length≤j+12*cntL ks∧r.2.1.length≤j+12*cntL ks
 | [],ns,cs,dp,out,j,r,hk,h1,h2,h3,e=>by
  rw [compL] at e
  split at e
  ·simp at e
  ·simp only [Sum.inr.injEq] at e
   subst e
   simp only [cntL]
   omega
 | k::l,ns,cs,dp,out,j,r,hk,h1,h2,h3,e=>by
  obtain ⟨op,nm,tx,xs,b,rfl,hsb⟩:=hk k (List.mem_cons_self ..)
  rw [cntL,cntN,Nu] at h3 ⊢
  rw [compL] at e
  try dsimp only at e
  rw [List.dropLast_concat,show (xs++ [b]).getLastD nd0=b by simp] at e
  obtain ⟨hp1,hp2,hp3⟩:=Bn xs ns []
  have hxl:=X2 xs
  have hcb:=Xj b
  have hbd:Bd ⟨(parL xs ns []).2,cs,[],0,0,0⟩ (j+xs.length):=⟨by simp only;omega,by simp only;omega,by simp,by simp,by simp only;omega,by simp only;omega,by simp only;omega,by simp only;omega,by intro x hx;cases hx⟩
  have hb1:=(hsb.gr _ _ hbd).1
  rw [show ((1:Nat)==1)=true from rfl] at hb1
  have hb2:=hb1.put 10 0 [] 0 (j:=j+xs.length+10*cntN b+1) (by omega) (by omega) (by omega) (by omega) (by omega)
  split at e
  ·simp at e
  ·have:=compL_bd l _ _ _ _ (j+xs.length+10*cntN b+1) r (fun y hy=>hk y (List.mem_cons_of_mem _ hy)) hb2.names hb2.consts (by omega) e
   omega
theorem compL_sz: ∀ (ks:List Nd) (ns:List (List UInt8)) (cs:List Cst) (dp:Bool) (out:List Hnd) (r:_),compL ks ns cs dp out= .inr r→dupB (out.map (·.name)) ks=false→(out.map (·.name)).Nodup→(∀ h∈out,h.name.length≤1000000∧h.params.length≤1000000)→(∀ k∈ks,FitO k∧cntN k≤14000)→(r.2.2.map (·.name)).Nodup∧r.2.2.length=out.length+ks.length∧ ∀ h∈r.2.2,h.name.length≤1000000∧h.params.length≤1000000
 | [],ns,cs,dp,out,r,e,hd,hn,ho,hk=>by
  rw [compL] at e
  split at e
  ·simp at e
  ·simp only [Sum.inr.injEq] at e
   subst e
   exact ⟨hn,rfl,ho⟩
 | k::l,ns,cs,dp,out,r,e,hd,hn,ho,hk=>by
  obtain ⟨⟨x,ys,b,rfl,hx,-,-⟩,hc⟩:=hk k (List.mem_cons_self ..)
  have hcn:(out.map (·.name)).contains x=false:=by
   cases h:(out.map (·.name)).contains x with
   | false=>rfl
   | true=>rw [dupB_yes h] at hd;cases hd
  rw [dupB_no hcn] at hd
  rw [compL] at e
  try dsimp only at e
  rw [List.dropLast_concat] at e
  obtain ⟨hp1,-,-⟩:=Bn (ys.map (fun y=>Nd.mk 11 y 0 [])) ns []
  rw [cntN,Nu] at hc
  have hyl:=X2 (ys.map (fun y=>Nd.mk 11 y 0 []))
  obtain ⟨-,c,x2,e2,-,-,hx2⟩:=hx
  have e3:x=c::x2:=e2
  have hxl:x.length≤5001:=by rw [e3,List.length_cons];omega
  split at e
  ·simp at e
  ·have:=compL_sz l _ _ _ _ r e (by rw [List.map_append,List.map_singleton];exact hd) (by
    rw [List.map_append,List.map_singleton]
    refine List.nodup_append.2 ⟨hn,by simp,fun a ha b hb=> ?_⟩
    rw [List.mem_singleton] at hb
    subst hb
    intro hab
    subst hab
    rw [List.contains_iff_mem.2 ha] at hcn
    cases hcn) (fun h hh=>by
    rcases List.mem_append.1 hh with hh|hh
    ·exact ho h hh
    ·rw [List.mem_singleton] at hh
     subst hh
     simp only [List.length_nil] at hp1
     exact ⟨by simp only;omega,by simp only;omega⟩) (fun y hy=>hk y (List.mem_cons_of_mem _ hy))
   rw [List.length_append,List.length_singleton] at this
   rw [List.length_cons]
   exact ⟨this.1,by omega,this.2.2⟩
structure PgOk (g:Pgm):Prop where
 nd:(g.hs.map (·.name)).Nodup
 hl:g.hs.length≤100000
 ln: ∀ h∈g.hs,h.name.length≤1000000∧h.params.length≤1000000∧h.code.length≤1000000
 nm:g.names.length≤900000
 cs:g.consts.length≤900000
 ok: ∀ h∈g.hs,HdOk g.names.length h
theorem cntN_mem: ∀ (l:List Nd) (k:Nd),k∈l→cntN k≤cntL l
 | [],k,h=>by cases h
 | y::r,k,h=>by
  rw [cntL]
  rcases List.mem_cons.1 h with rfl|h
  ·omega
  ·have:=cntN_mem r k h
   omega
theorem ofM_ok {t:List UInt8} {g:Pgm} (ht:t.length≤1200) (e:ofM t= .inr g):PgOk g:=by
 unfold ofM at e
 split at e
 ·rename_i h0
  obtain ⟨ks,e1,e2,-,e4⟩:=back_fit ht h0
  have hc:=parseT_cnt t
  rw [e1] at e hc
  have hok:=compM_ok e2 e
  have hbc:=Bc.all (s:=⟨[],[],[]⟩) (k:=0) (walkN 0 (.mk 0 [] 0 ks)) ⟨by simp,by simp,by simp⟩
  rw [Uk,Nat.zero_add] at hbc
  have h1:=hbc.names
  have h2:=hbc.consts
  rw [cntN] at hc h1 h2
  have hlen:=X2 ks
  unfold El at e
  try dsimp only at e
  split at e
  ·simp at e
  ·split at e
   ·simp at e
   ·rename_i ns cs hs h3
    simp only [Sum.inr.injEq] at e
    subst e
    have hb:=compL_bd ks _ _ _ _ (1+cntL ks) _ (fun h hh=>(e2 h hh).ok) h1 h2 (by omega) h3
    have hz:=compL_sz ks _ _ _ _ _ h3 e4 (by simp) (by simp) (fun k hk=>⟨e2 k hk,by have:=cntN_mem ks k hk;omega⟩)
    simp only [List.length_nil] at hz
    have hb1:ns.length≤_:=hb.1
    have hb2:cs.length≤_:=hb.2
    exact ⟨hz.1,by simp only;omega,fun h hh=>⟨(hz.2.2 h hh).1,(hz.2.2 h hh).2,by have:=(hok h hh).2.1;omega⟩,by simp only;omega,by simp only;omega,hok⟩
 ·simp at e
end Go.Proofs.YtpbiblhkcomekaaGreat
