import Derived.Test.YtpbiblhkcomekaaGreatBE5
import Derived.Test.YtpbiblhkcomekaaGreatBH1
/- A level, walked. -/
namespace Go.Proofs.YtpbiblhkcomekaaGreat
open Go Go.RowKit
set_option linter.unusedSimpArgs false
set_option linter.unusedVariables false
set_option maxRecDepth 100000
set_option maxHeartbeats 8000000
theorem Ui {n:Nat} {K:Heap} (a:Nd):Wf n K (nV a) (nV a):= .of (Q0 a)
theorem lev_step (i:Nat) (hi:i≤4) (N:Nat) (hN:N≤50000) (nx:PSt→Nd×PSt) (hok: ∀ s,Ok s (nx s).2)
  (hnx: ∀ s,WfL s.l→s.l.length < N→s.d≤16→Q5 161 [iV ((i:Int)+1)] s (nV (nx s).1) (nx s).2) (s:PSt) (hw:WfL s.l) (hn:s.l.length < N) (hd:s.d≤16) :
  Q5 161 [iV i] s (nV (Ze i nx ((nx s).2.l.length+1) (nx s).1 (nx s).2).1) (Ze i nx ((nx s).2.l.length+1) (nx s).1 (nx s).2).2:=by
 refine Q5.of ?_
 have kx:=fun (s2:PSt) (h1:WfL s2.l) (h2:s2.l.length < N) (h3:s2.d≤16) (H:Heap) (hb:H.get 0=some (pC s2))=>Q5.at (Q0 _) (by simp [iV,Qb]) (hnx s2 h1 h2 h3) hb
 have k1:=kx s hw hn hd
 have o1:=hok s
 generalize hR:Ze i nx ((nx s).2.l.length+1) (nx s).1 (nx s).2=R
 have w1:=o1.wf hw
 have l1:=o1.len
 have d1:=o1.dep
 cases hq:nx s with
 | mk n0 s1 =>
 rw [hq] at k1 hR w1 l1 d1
 obtain ⟨op0,tx0,nm0,ks0⟩:=n0
 simp only [nV,cellsN] at k1 hR w1 l1 d1
 refine Qc.go Tryz.func161 rfl ?_
 (repeat' (first|with_reducible refine And.intro ?_ ?_|(with_reducible intro hc;(try simp only [zz] at hc);try exact ct)|((conv=>whnf);first|(with_reducible first|refine And.intro ?_ ?_|intro hx|apply Val.via|apply Qk.via)|exact Is.mk rfl rfl|refine sp ?_|refine vx (by (first|exact Ql rfl rfl|exact Qa rfl rfl rfl|rfl)) ?_|(first|refine cl (Bt _) ?_|refine cl (k1 _ rfl) ?_)|refine sq ?_)))
 (all_goals try exact om)
 (refine Ju.mk (GWP.loopB [0,2] (fun (a:Nat×Nd×PSt)=>Ze i nx a.1 a.2.1 a.2.2=R∧a.2.2.l.length < a.1∧WfL a.2.2.l∧a.2.2.l.length < N∧a.2.2.d≤16) (fun _=> []) (fun a=> [(0,pC a.2.2),(2,.cells true (cellsN a.2.1))]) 3 (fun a=>a.1) (s1.l.length+1,.mk op0 tx0 nm0 ks0,s1) ⟨hR,Nat.lt_succ_self _,w1,by simp only;omega,by simp only;omega⟩ ?_);(conv=>whnf);refine And.intro ?_ ?_)
 ·focus (refine ka [] ?_ ?_;all_goals (repeat' (first|exact rz|refine And.intro ?_ ?_|refine Exists.intro _ (And.intro rfl ?_)|refine ro ?_|refine Qe.cons ?_ ?_|(first|exact Y5 _|exact Qi.eq rfl (Jt _)|exact Qi.eq (Q9 (by omega)) (Qb _)|exact Qi.eq rfl (Qb _)|exact Qe.eq (us:=cellsN _) rfl (Xp _)|exact Qi.eq rfl (Qx (Qo _)))|exact rv)))
 rintro ⟨f,out,st⟩ ⟨g1,g2,g3,g4,g5⟩
 simp only at g1 g2 g3 g4 g5 ⊢
 obtain ⟨f,rfl⟩: ∃ f',f=f'+1:=⟨f - 1,by omega⟩
 obtain ⟨op,tx,nm,ks⟩:=out
 simp only [cellsN]
 have ko:=fun (H:Heap) (hb:H.get 0=some (pC st))=>Q5.at (Qt (by simp [Xk,Qn,Qb])) (by simp [iV,Qb]) (op_call i (by omega) st g3 (by omega)) hb
 have oo:=opS_ok (opL i) st
 have ol:=opS_lt (opL i) st
 rw [Ze] at g1
 cases ho:opS (opL i) st with
 | mk o st1 =>
 rw [ho] at g1 ko oo ol
 cases o with
 | none =>
  simp only [Option.getD_none,Option.isSome_none] at g1 ko
  subst g1
  (repeat' (first|with_reducible refine And.intro ?_ ?_|(with_reducible intro hc;(try simp only [zz] at hc);try exact ct)|((conv=>whnf);first|(with_reducible first|refine And.intro ?_ ?_|intro hx|apply Val.via|apply Qk.via)|exact Is.mk rfl rfl|refine sp ?_|refine vx (by (first|exact Ql rfl rfl|exact Qa rfl rfl rfl|rfl)) ?_|refine cl (ko _ rfl) ?_|refine sq ?_)))
  (all_goals try exact om)
  all_goals exact Qg.mk ⟨Ui (.mk op tx nm ks),rfl⟩
 | some x =>
  simp only [Option.getD_some,Option.isSome_some] at g1 ko
  have w2:=oo.wf g3
  have l2:=(ol x rfl).1
  have d2:=oo.dep
  simp only at w2 l2 d2
  have k2:=kx st1 w2 (by omega) (by omega)
  have o2:=hok st1
  have w3:=o2.wf w2
  have l3:=o2.len
  have d3:=o2.dep
  cases hq2:nx st1 with
  | mk n2 st2 =>
  rw [hq2] at k2 g1 w3 l3 d3
  obtain ⟨op2,tx2,nm2,ks2⟩:=n2
  have hnew:cellsN (.mk 13 x 0 [.mk op tx nm ks,.mk op2 tx2 nm2 ks2])= [iV 13,Qn x,iV 0,.ro 2 (rowsN [.mk op tx nm ks,.mk op2 tx2 nm2 ks2])]:=by rw [cellsN];rfl
  simp only [nV,cellsN] at k2
  by_cases h2:i=2
  ·subst h2
   rw [if_pos rfl] at g1
   subst g1
   (repeat' (first|with_reducible refine And.intro ?_ ?_|(with_reducible intro hc;(try simp only [zz] at hc);try exact ct)|((conv=>whnf);first|(with_reducible first|refine And.intro ?_ ?_|intro hx|apply Val.via|apply Qk.via)|exact Is.mk rfl rfl|refine sp ?_|refine vx (by (first|exact Ql rfl rfl|exact Qa rfl rfl rfl|rfl)) ?_|refine cl (ko _ rfl) ?_|refine sq ?_)))
   (all_goals try exact om)
   refine Ju.mk (GWP.drawM mixed 38 [5,8] (fun H=> [⟨(0,pC st2)::Qs [0] H.objs,H.next⟩,(⟨(0,pC st2)::Qs [0] H.objs,H.next⟩:Heap).set 2 (.cells true [iV 13,Qn x,iV 0,.ro 2 (rowsN [.mk op tx nm ks,.mk op2 tx2 nm2 ks2])])]) (by kernel_rfl) (by rfl) ?_)
   repeat' (first|with_reducible refine And.intro ?_ ?_|(with_reducible intro hc;(try simp only [zz] at hc);try exact ct)|exact trivial|((conv=>whnf);first|with_reducible refine And.intro ?_ ?_|with_reducible intro hx|exact Is.mk rfl rfl|exact trivial|(with_reducible first|apply Val.via|apply Qk.via)|(refine GOp.drawn2 (n:= .mk op tx nm ks) (m:= .mk op2 tx2 nm2 ks2) (by rfl) (by rfl) (by rfl) (by rfl))|refine sp ?_|refine vx (by (first|exact Ql rfl rfl|exact Qa rfl rfl rfl|rfl)) ?_|refine cl (k2 _ rfl) ?_|refine sq ?_))
   (all_goals try exact om)
   all_goals exact Qg.mk ⟨Ui (.mk 13 x 0 [.mk op tx nm ks,.mk op2 tx2 nm2 ks2]),rfl⟩
  ·rw [if_neg h2] at g1
   (repeat' (first|with_reducible refine And.intro ?_ ?_|(with_reducible intro hc;(try simp only [zz] at hc);try exact ct)|((conv=>whnf);first|(with_reducible first|refine And.intro ?_ ?_|intro hx|apply Val.via|apply Qk.via)|exact Is.mk rfl rfl|refine sp ?_|refine vx (by (first|exact Ql rfl rfl|exact Qa rfl rfl rfl|rfl)) ?_|refine cl (ko _ rfl) ?_|refine sq ?_)))
   (all_goals try exact om)
   refine Ju.mk (GWP.drawM mixed 38 [5,8] (fun H=> [⟨(0,pC st2)::Qs [0] H.objs,H.next⟩,(⟨(0,pC st2)::Qs [0] H.objs,H.next⟩:Heap).set 2 (.cells true [iV 13,Qn x,iV 0,.ro 2 (rowsN [.mk op tx nm ks,.mk op2 tx2 nm2 ks2])])]) (by kernel_rfl) (by rfl) ?_)
   repeat' (first|with_reducible refine And.intro ?_ ?_|(with_reducible intro hc;(try simp only [zz] at hc);try exact ct)|exact trivial|((conv=>whnf);first|with_reducible refine And.intro ?_ ?_|with_reducible intro hx|exact Is.mk rfl rfl|exact trivial|(with_reducible first|apply Val.via|apply Qk.via)|(refine GOp.drawn2 (n:= .mk op tx nm ks) (m:= .mk op2 tx2 nm2 ks2) (by rfl) (by rfl) (by rfl) (by rfl))|refine sp ?_|refine vx (by (first|exact Ql rfl rfl|exact Qa rfl rfl rfl|rfl)) ?_|refine cl (k2 _ rfl) ?_|refine sq ?_))
   (all_goals try exact om)
   simp only at l3 d3
   focus (refine Qg.mk ⟨(f,.mk 13 x 0 [.mk op tx nm ks,.mk op2 tx2 nm2 ks2],st2),⟨g1,by simp only;omega,w3,by simp only;omega,by simp only;omega⟩,?_,ka [] ?_ ?_⟩;(first|omega|(simp only;omega));all_goals (repeat' (first|exact rz|refine And.intro ?_ ?_|refine Exists.intro _ (And.intro rfl ?_)|refine ro ?_|refine Qe.cons ?_ ?_|(first|exact Y5 _|exact Qi.eq rfl (Jt _)|exact Qi.eq (Q9 (by omega)) (Qb _)|exact Qi.eq rfl (Qb _)|exact Qe.eq (us:=cellsN _) rfl (Xp _)|exact Qi.eq rfl (Qx (Qo _)))|exact rv)))
theorem lev_call (un:PSt→Nd×PSt) (N:Nat) (hN:N≤50000) (hok: ∀ s,Ok s (un s).2) (hun: ∀ s,WfL s.l→s.l.length < N→s.d≤16→Q5 163 [] s (nV (un s).1) (un s).2) :
  ∀ (k:Nat),k≤5→ ∀ s,WfL s.l→s.l.length < N→s.d≤16→Q5 161 [iV ((5 - k:Nat):Int)] s (nV (Xs un k s).1) (Xs un k s).2
 | 0,_,s,hw,hn,hd=>by
  refine Q5.of ?_
  have k1:=fun (H:Heap) (hb:H.get 0=some (pC s))=>Q5.at (Q0 _) (by simp) (hun s hw hn hd) hb
  unfold Xs
  cases hq:un s with
  | mk n0 s1 =>
  rw [hq] at k1
  obtain ⟨op0,tx0,nm0,ks0⟩:=n0
  simp only [nV,cellsN] at k1
  refine Qc.go Tryz.func161 rfl ?_
  (repeat' (first|with_reducible refine And.intro ?_ ?_|(with_reducible intro hc;(try simp only [zz] at hc);try exact ct)|((conv=>whnf);first|(with_reducible first|refine And.intro ?_ ?_|intro hx|apply Val.via|apply Qk.via)|exact Is.mk rfl rfl|refine sp ?_|refine vx (by (first|exact Ql rfl rfl|exact Qa rfl rfl rfl|rfl)) ?_|(first|refine cl (Bt _) ?_|refine cl (k1 _ rfl) ?_)|refine sq ?_)))
  (all_goals try exact om)
  all_goals exact Qg.mk ⟨Ui (.mk op0 tx0 nm0 ks0),rfl⟩
 | k+1,hk,s,hw,hn,hd=>by
  have ih:=lev_call un N hN hok hun k (by omega)
  have e:((5 - k:Nat):Int)=((4 - k:Nat):Int)+1:=by omega
  rw [e] at ih
  have e2:(5 - (k+1):Nat)=4 - k:=by omega
  rw [e2]
  exact lev_step (4 - k) (by omega) N hN (Xs un k) (fun s=>Wd k s fun s' _=>hok s') ih s hw hn hd
theorem sty_N:B2 Tryz.prog 61 4 56:=⟨⟨_,_,_,rfl,rfl,rfl,rfl,rfl,rfl⟩⟩
theorem Frz.agT {K:Heap}: ∀ {vs us:List VV},U8 K vs us→Frz K (.ag vs) (.ag us):=fun {vs us} h B w Z ρ ρ2 y hr hv=>by
 cases hv with
 | @ag _ cs h1 r1 =>
  obtain ⟨cs⟩:=cs
  simp only at h1 r1
  have key: ∀ {vs us:List VV} {cs:List Value},U8 K vs us→Pw (Qf w Z ρ) vs cs→Pw (Qf w (fun k=>Z k∨(B.heap.size≤k∧k < w.heap.size)) ρ2) us cs:=by
   intro vs us cs h
   induction h generalizing cs with
   | nil=>intro hp;exact ⟨hp.1,fun i u c hu=>by simp at hu⟩
   | @cons v u r s hvu _ ih =>
    intro hp
    match cs,hp with
    | c::ct,hp =>
     have h0:=hp.2 0 v c rfl rfl
     have ht:Pw (Qf w Z ρ) r ct:=⟨by have:=hp.1;simpa using this,fun i u c hu hc=>hp.2 (i+1) u c (by simpa using hu) (by simpa using hc)⟩
     exact Pw.cons (hvu B w Z ρ ρ2 c hr h0) (ih ht)
    | [],hp=>have:=hp.1;simp at this
  have:=key h ⟨h1,r1⟩
  exact .ag this.1 this.2
theorem Wf.ptr {n b o:Nat} {K:Heap} (hb:b < n):Wf n K (.ptr b o) (.ptr b o):=fun B w Z ρ ρ0 y hr he hv=>by
 cases hv with
 | ptr hk=>exact .ptr ((he b hb).trans hk)
theorem Q5.at0 {f:FuncId} {args:List VV} {s s':PSt} {u:VV} (hu:Qd u) (ha:Qe [(0,0)] 0 args args) (h:Qc Tryz.prog f args ⟨[(0,pC s)],1⟩ (fun v K=>v=u∧K=⟨[(0,pC s')],1⟩)) {H:Heap} (hb:H.get 0=some (pC s)):Qc Tryz.prog f args H (fun v K=>v=u∧K=⟨(0,pC s')::Qs [0] H.objs,H.next⟩):=by
 refine Qc.live fun hlive=> ?_
 have hbl:=hlive 0 _ hb
 have e2:Nat.blt 0 H.next=true:=Qz.2 hbl
 refine Qc.at (n1:=1) (O1:= [(0,pC s)]) [0] [(0,0)] rfl ⟨⟨_,(Wi rfl).trans hb,Y5 s⟩,trivial⟩ ha h ?_
 rintro v K ⟨rfl,rfl⟩
 refine ⟨v,[(0,pC s')],⟨?_,.of hu,⟨⟨_,rfl,Y5 s'⟩,trivial⟩⟩,?_,rfl,rfl⟩
 ·show (wfR 0 (H.next+0) [(0,0)]&&true&&true&&true)=true
  simp only [wfR,srcN,e2,Nat.add_zero]
  rfl
 ·have e3:=Jh (D:= [0]) (b:=0) rfl H.objs
  simp only [List.all_cons,List.all_nil,e3]
  rfl
def hp2 (s:PSt):List (Nat×VObj):= [(1,.cells true [.ptr 0 0]),(0,pC s)]
theorem P2.at {f:FuncId} {args:List VV} {s s':PSt} {u:VV} (hu:Qd u) (ha:Qe [(1,1),(0,0)] 0 args args) (h:Qc Tryz.prog f args ⟨hp2 s,2⟩ (fun v K=>v=u∧K=⟨hp2 s',2⟩)) {H:Heap} (h1:H.get 1=some (.cells true [.ptr 0 0])) (h0:H.get 0=some (pC s)) (hn:Nat.ble 2 H.next=true):Qc Tryz.prog f args H (fun v K=>v=u∧K=⟨hp2 s'++Qs [1,0] H.objs,H.next⟩):=by
 obtain ⟨objs,nx⟩:=H
 obtain ⟨m,rfl⟩: ∃ m,nx=m+2:=⟨nx - 2,by have:=Nat.le_of_ble_eq_true hn;simp only at this;omega⟩
 have g: ∀ b:Nat,Jl b [1,0]=true→(⟨Yr [1,0] objs,m+2⟩:Heap).get b=(⟨objs,m+2⟩:Heap).get b:=fun b hb=>by
  show hget (Yr [1,0] objs) b=hget objs b
  rw [X4,hb]
 have rb:Jx [(1,1),(0,0)] 0 (.cells true [.ptr 0 0]) (.cells true [.ptr 0 0]):= .cells (.cons (.ptr (by simp)) .nil)
 refine Qc.at (n1:=2) (O1:=hp2 s) [1,0] [(1,1),(0,0)] rfl ⟨⟨_,(g 1 rfl).trans h1,rb⟩,⟨_,(g 0 rfl).trans h0,Y5 s⟩,trivial⟩ ha h ?_
 rintro v K ⟨rfl,rfl⟩
 refine ⟨v,hp2 s',⟨rfl,.of hu,⟨⟨_,rfl,rb⟩,⟨_,rfl,Y5 s'⟩,trivial⟩⟩,?_,rfl,rfl⟩
 simp only [hp2,List.all_cons,List.all_nil,Jh (D:= [1,0]) (b:=1) rfl,Jh (D:= [1,0]) (b:=0) rfl]
 rfl
theorem P2.of {f:FuncId} {args:List VV} {s s':PSt} {u:VV}
  (h:Qc Tryz.prog f args ⟨hp2 s,2⟩ (fun v K=>Wf 2 ⟨Qs [1,0] K.objs,K.next⟩ v u∧K.get 1=some (.cells true [.ptr 0 0])∧K.get 0=some (pC s'))):Qc Tryz.prog f args ⟨hp2 s,2⟩ (fun v K=>v=u∧K=⟨hp2 s',2⟩):=by
 refine (Qc.trimC (Q':=fun v O2=>v=u∧O2=hp2 s') ?_ h ?_).mono ?_
 ·intro b x hx
  unfold hp2 at hx
  rw [Qy] at hx
  split at hx
  ·injection hx with hx
   exact ⟨_,.inl hx.symm⟩
  ·rw [Qy] at hx
   split at hx
   ·injection hx with hx
    exact ⟨_,.inl hx.symm⟩
   ·simp [hget] at hx
 ·rintro v K ⟨hf,g1,g0⟩
  refine ⟨u,hp2 s',rfl,fun b x hx=> ?_,⟨rfl,rfl⟩,hf⟩
  unfold hp2 at hx
  rw [Qy] at hx
  split at hx
  ·rename_i eb
   subst eb
   injection hx with hx
   subst hx
   refine ⟨g1,_,.inl rfl,fun v hv=> ?_⟩
   simp only [List.mem_cons,List.not_mem_nil,or_false] at hv
   subst hv
   exact .ptr (by omega)
  ·rw [Qy] at hx
   split at hx
   ·rename_i eb
    subst eb
    injection hx with hx
    subst hx
    refine ⟨g0,_,.inl rfl,fun v hv=> ?_⟩
    simp only [List.mem_cons,List.not_mem_nil,or_false] at hv
    rcases hv with rfl|rfl|rfl
    ·exact .of (Jt _)
    ·exact .of (Qb _)
    ·exact .of (Qb _)
   ·simp [hget] at hx
 ·rintro v K ⟨O2,⟨rfl,rfl⟩,rfl⟩
  exact ⟨rfl,rfl⟩
theorem pC_eq {l:List (Sg×Nat)} {d e:Nat} {z:Int} (h:z=(d:Int)):some (VObj.cells true [.ro l.length (Ya l),.sc (.int .i64 z),iV e])=some (pC ⟨l,d,e⟩):=by subst h;rfl
theorem Bp {x:List UInt8} {s:PSt} (h:(Jk x s).e=0):(Jk x s).l.length < s.l.length∧s.e=0:=by
 unfold Jk at h ⊢
 cases hi:(isS x s).1 with
 | true =>
  rw [if_pos rfl]
  exact ⟨(Kg hi).1,(Kg hi).2.1⟩
 | false =>
  rw [hi,if_neg (by decide)] at h
  unfold Ka at h
  split at h
  ·cases h
  ·rename_i hne;exact absurd h hne
theorem deep_call (f:FuncId) (hen:Uj Tryz.prog f=true) (rd:PSt→Nd×PSt) (s:PSt) (hd:s.d≤16) (hok: ∀ s,Ok s (rd s).2)
  (hrd:s.e=0→s.d < 16→Q5 f [] ⟨s.l,s.d+1,s.e⟩ (nV (rd ⟨s.l,s.d+1,s.e⟩).1) (rd ⟨s.l,s.d+1,s.e⟩).2) :
  Qc Tryz.prog 108 [.ptr 0 0,.fn (.func f) [.ptr 0 0] []] ⟨[(0,pC s)],1⟩ (fun v K=>v=nV (J8 rd s).1∧K=⟨[(0,pC (J8 rd s).2)],1⟩):=by
 have gen: ∀ (u:VV) (s':PSt),Qc Tryz.prog 108 [.ptr 0 0,.fn (.func f) [.ptr 0 0] []] ⟨[(0,pC s)],1⟩ (fun v K=>Wf 1 ⟨Qs [0] K.objs,K.next⟩ v u∧K.get 0=some (pC s'))→Qc Tryz.prog 108 [.ptr 0 0,.fn (.func f) [.ptr 0 0] []] ⟨[(0,pC s)],1⟩ (fun v K=>v=u∧K=⟨[(0,pC s')],1⟩):=fun u s' h=>Q5.of (args:= [.fn (.func f) [.ptr 0 0] []]) h
 refine gen _ _ ?_
 clear gen
 have k2:=fun (s2:PSt) (H:Heap) (hb:H.get 0=some (pC s2))=>Q5.at (Qt (by simp)) (by simp [iV,Qb]) (fail_call s2 9) hb
 obtain ⟨l,d,e⟩:=s
 simp only at hd hrd
 unfold J8 U2
 simp only
 have hz:nV nd0= .ag [iV 0,Qn [],iV 0,.ro 0 []]:=by rw [nd0,nV,cellsN,rowsN];rfl
 have fz: ∀ K:Heap,Wf 1 K (.ag [iV 0,Qn [],iV 0,.sc (.slice none 0 0)]) (nV nd0):=fun K=>by
  rw [hz]
  exact (Frz.agT (.cons (.of (Qb _)) (.cons (.of (Qj _)) (.cons (.of (Qb _)) (.cons Frz.nil0 .nil))))).toB
 by_cases he:e=0
 ·by_cases h16:16≤d
  ·have hf:Ka 9 ⟨l,d,e⟩=⟨l,d,9⟩:=by unfold Ka;rw [if_pos he]
   rw [if_pos h16,hf]
   subst he
   have k2:=fun H hb=>k2 ⟨l,d,0⟩ H hb
   rw [hf] at k2
   simp only [if_pos (show ¬ 9=0 by decide)]
   rw [Cy]
   refine Qc.go Tryz.func108 rfl ?_
   (repeat' (first|with_reducible refine And.intro ?_ ?_|(with_reducible intro hc;(try simp only [zz] at hc);try exact ct)|((conv=>whnf);first|(with_reducible first|refine And.intro ?_ ?_|intro hx|apply Val.via|apply Qk.via)|exact Is.mk rfl rfl|refine sp ?_|refine vx (by (first|exact Ql rfl rfl|exact Qa rfl rfl rfl|rfl)) ?_|refine dY ?_|refine cl (k2 _ rfl) ?_|refine sq ?_)))
   (all_goals (first|omega|contradiction|(exfalso;rw [hen] at hc;cases hc;done)|skip))
   all_goals exact Qg.mk ⟨fz _,rfl⟩
  ·rw [if_neg h16]
   simp only
   rw [if_neg (by omega)]
   have hrd:=hrd he (by omega)
   have o1:=hok ⟨l,d+1,e⟩
   have k1:=fun (H:Heap) (hb:H.get 0=some (pC ⟨l,d+1,e⟩))=>Q5.at (Q0 _) (by simp) hrd hb
   subst he
   cases hq:rd ⟨l,d+1,0⟩ with
   | mk n0 s1 =>
   rw [hq] at k1 o1
   obtain ⟨op0,tx0,nm0,ks0⟩:=n0
   obtain ⟨l1,d1,e1⟩:=s1
   have hd1:=o1.dep
   simp only [nV,cellsN] at k1 ⊢
   simp only at hd1
   subst hd1
   simp only [Cy] at k1
   rw [Cy]
   refine Qc.go Tryz.func108 rfl ?_
   (repeat' (first|with_reducible refine And.intro ?_ ?_|(with_reducible intro hc;(try simp only [zz] at hc);try exact ct)|((conv=>whnf);first|(with_reducible first|refine And.intro ?_ ?_|intro hx|apply Val.via|apply Qk.via)|exact Is.mk rfl rfl|refine sp ?_|refine vx (by (first|exact Ql rfl rfl|exact Qa rfl rfl rfl|rfl)) ?_|refine dY ?_|refine cl (k1 _ rfl) ?_|refine sq ?_)))
   (all_goals (first|omega|contradiction|(exfalso;rw [hen] at hc;cases hc;done)|skip))
   all_goals exact Qg.mk ⟨Ui (.mk op0 tx0 nm0 ks0),pC_eq (by omega)⟩
 ·have hf:Ka 9 ⟨l,d,e⟩=⟨l,d,e⟩:=by unfold Ka;rw [if_neg he]
  have hs:(if 16≤d then Ka 9 ⟨l,d,e⟩ else ⟨l,d,e⟩)=(⟨l,d,e⟩:PSt):=by split;exact hf;rfl
  rw [hs]
  have k2:=fun H hb=>k2 ⟨l,d,e⟩ H hb
  rw [hf] at k2
  simp only [if_pos he]
  refine Qc.go Tryz.func108 rfl ?_
  (repeat' (first|with_reducible refine And.intro ?_ ?_|(with_reducible intro hc;(try simp only [zz] at hc);try exact ct)|((conv=>whnf);first|(with_reducible first|refine And.intro ?_ ?_|intro hx|apply Val.via|apply Qk.via)|exact Is.mk rfl rfl|refine sp ?_|refine vx (by (first|exact Ql rfl rfl|exact Qa rfl rfl rfl|rfl)) ?_|refine dY ?_|refine cl (k2 _ rfl) ?_|refine sq ?_)))
  (all_goals (first|omega|contradiction|(exfalso;rw [hen] at hc;cases hc;done)|skip))
  all_goals exact Qg.mk ⟨fz _,rfl⟩
theorem frz_gsN {m:Nat} {K:Heap} {b n:Nat} {vs:List VV} {l:List Nd} (hg:K.get b=some (.opt vs)) (hv:vs=rowsN l) (hn:n=l.length):Wf m K (.gs b n 4) (.ro l.length (rowsN l)):=by
 subst hv hn
 exact (Frz.gs hg (Jd l) (Qo l)).toB
theorem list_call (g:FuncId) (hen:Uj Tryz.prog g=true) (rd:PSt→Nd×PSt) (N:Nat) (hN:N≤50000) (hok: ∀ s,Ok s (rd s).2)
  (hrd: ∀ s,WfL s.l→s.l.length < N→s.d≤16→Qc Tryz.prog g [.ptr 1 0] ⟨hp2 s,2⟩ (fun v K=>v=nV (rd s).1∧K=⟨hp2 (rd s).2,2⟩)) (s:PSt) (hw:WfL s.l) (hn:s.l.length < N) (hd:s.d≤16) :
  Qc Tryz.prog 73 [.ptr 0 0,.fn (.func g) [] [.ptr 1 0]] ⟨hp2 s,2⟩ (fun v K=>v= .ro (Y6 rd s).1.length (rowsN (Y6 rd s).1)∧K=⟨hp2 (Y6 rd s).2,2⟩):=by
 refine P2.of ?_
 have ki:=fun (x:List UInt8) (s2:PSt) (h1:WfL s2.l) (h2:s2.l.length < N) (H:Heap) (hb:H.get 0=some (pC s2))=>Q5.at (Qb _) (by simp [Qj]) (Ub x s2 h1 (by omega)) hb
 have km:=fun (x:List UInt8) (s2:PSt) (h1:WfL s2.l) (h2:s2.l.length < N) (H:Heap) (hb:H.get 0=some (pC s2))=>Q5.at (Qt (by simp)) (by simp [Qj]) (Us x s2 h1 (by omega)) hb
 have kr:=fun (s2:PSt) (h1:WfL s2.l) (h2:s2.l.length < N) (h3:s2.d≤16) (H:Heap) (g1:H.get 1=some (.cells true [.ptr 0 0])) (g0:H.get 0=some (pC s2)) (hl:Nat.ble 2 H.next=true)=>P2.at (Q0 _) (.cons (Qi.ptr (by simp)) .nil) (hrd s2 h1 h2 h3) g1 g0 hl
 have k0:=ki [41] s hw hn
 have hno:=Zf (x:= [41]) (s:=s)
 unfold Y6
 cases hc:(isS [41] s).1 with
 | true =>
  rw [hc] at k0
  rw [if_pos rfl]
  refine Qc.go Tryz.func73 rfl ?_
  (repeat' (first|with_reducible refine And.intro ?_ ?_|(with_reducible intro hc;(try simp only [zz] at hc);try exact ct)|((conv=>whnf);first|(with_reducible first|refine And.intro ?_ ?_|intro hx|apply Val.via|apply Qk.via)|exact Is.mk rfl rfl|refine sp ?_|refine vx (by (first|exact Ql rfl rfl|exact Qa rfl rfl rfl|rfl)) ?_|refine dY ?_|refine cl (k0 _ rfl) ?_|refine sq ?_)))
  (all_goals (first|omega|contradiction|(exfalso;rw [hen] at hc;cases hc;done)|skip))
  all_goals exact Qg.mk ⟨Frz.nil0.toB,rfl,rfl⟩
 | false =>
  rw [hc,hno hc] at k0
  rw [if_neg (by decide)]
  generalize hR:Xu rd (s.l.length+2) [] s=R
  refine Qc.go Tryz.func73 rfl ?_
  (repeat' (first|with_reducible refine And.intro ?_ ?_|(with_reducible intro hc;(try simp only [zz] at hc);try exact ct)|((conv=>whnf);first|(with_reducible first|refine And.intro ?_ ?_|intro hx|apply Val.via|apply Qk.via)|exact Is.mk rfl rfl|refine sp ?_|refine vx (by (first|exact Ql rfl rfl|exact Qa rfl rfl rfl|rfl)) ?_|refine dY ?_|refine cl (k0 _ rfl) ?_|refine sq ?_)))
  (all_goals (first|omega|contradiction|(exfalso;rw [hen] at hc;cases hc;done)|skip))
  (refine Ju.mk (GWP.loopB [0] (fun (a:Nat×List Nd×PSt)=>Xu rd a.1 a.2.1 a.2.2=R∧(a.2.2.e=0→a.2.2.l.length < a.1)∧WfL a.2.2.l∧a.2.2.l.length < N∧a.2.2.d≤16∧a.2.1.length+a.1=s.l.length+2) (fun a=> [(5,.gs 2 a.2.1.length 4)]) (fun a=> [(0,pC a.2.2),(2,.opt (rowsN a.2.1))]) 3 (fun a=>a.1) (s.l.length+2,[],s) ⟨hR,fun _=>by simp only;omega,hw,hn,hd,by simp only [List.length_nil];omega⟩ ?_);(conv=>whnf);refine And.intro ?_ ?_)
  ·focus (refine ka [] ?_ ?_;all_goals (repeat' (first|exact rz|refine And.intro ?_ ?_|refine Exists.intro _ (And.intro rfl ?_)|refine ro ?_|refine Qe.cons ?_ ?_|(first|exact Y5 _|exact Qi.eq rfl (Jt _)|exact Qi.eq (Q9 (by omega)) (Qb _)|exact Qi.eq rfl (Qb _)|exact Qe.eq (us:=rowsN _) rfl (Qo _)|exact Qi.eq rfl (Qx (Qo _)))|exact rv)))
  rintro ⟨f,out,st⟩ ⟨g1,g2,g3,g4,g5,g6⟩
  simp only at g1 g2 g3 g4 g5 g6 ⊢
  by_cases he:st.e=0
  ·have g2:=g2 he
   obtain ⟨f,rfl⟩: ∃ f',f=f'+1:=⟨f - 1,by omega⟩
   rw [Xu,if_pos he] at g1
   have k1:=kr st g3 g4 g5
   have o1:=hok st
   cases hq:rd st with
   | mk n0 s1 =>
   rw [hq] at k1 o1 g1
   obtain ⟨op0,tx0,nm0,ks0⟩:=n0
   have w1:=o1.wf g3
   have l1:=o1.len
   have d1:=o1.dep
   simp only [nV,cellsN] at k1 g1 w1 l1 d1
   have k2:=ki [41] s1 w1 (by omega)
   have hno1:=Zf (x:= [41]) (s:=s1)
   have hsn:rowsN (out++ [.mk op0 tx0 nm0 ks0])=rowsN out++ [iV op0,Qn tx0,iV nm0,.ro ks0.length (rowsN ks0)]:=by rw [X1,cellsN]
   cases hc1:(isS [41] s1).1 with
   | true =>
    rw [hc1] at k2
    rw [hc1,if_pos rfl] at g1
    subst g1
    (repeat' (first|with_reducible refine And.intro ?_ ?_|(with_reducible intro hc;(try simp only [zz] at hc);try exact ct)|((conv=>whnf);first|(with_reducible first|refine And.intro ?_ ?_|intro hx|apply Val.via|apply Qk.via)|exact Is.mk rfl rfl|refine sp ?_|refine vx (by (first|exact Ql rfl rfl|exact Qa rfl rfl rfl|rfl)) ?_|refine dY ?_|(first|refine cl (k1 _ rfl rfl rfl) ?_|refine cl (k2 _ rfl) ?_|(refine Qw (Qr.grow rfl sty_N (d:= .slice 63) Tryz.underlying61 (by intro k h;cases h) rfl (m:=1) (l:= [iV op0,Qn tx0,iV nm0,.ro ks0.length (rowsN ks0)]) (by rfl) (by rfl) rfl (Jd out) (by omega) (by omega) ?_)))|refine sq ?_)))
    (all_goals (first|omega|contradiction|(exfalso;rw [hen] at hc;cases hc;done)|skip))
    all_goals exact Qg.mk ⟨frz_gsN (l:=out++ [.mk op0 tx0 nm0 ks0]) rfl hsn.symm (by simp),rfl,rfl⟩
   | false =>
    rw [hc1,hno1 hc1] at k2
    rw [hc1,if_neg (by decide)] at g1
    have k3:=km [44] s1 w1 (by omega)
    have o3:=Xi [44] s1
    have ml:=Bp (x:= [44]) (s:=s1)
    generalize Jk [44] s1=s3 at *
    have w3:=o3.wf w1
    have l3:=o3.len
    have d3:=o3.dep
    (repeat' (first|with_reducible refine And.intro ?_ ?_|(with_reducible intro hc;(try simp only [zz] at hc);try exact ct)|((conv=>whnf);first|(with_reducible first|refine And.intro ?_ ?_|intro hx|apply Val.via|apply Qk.via)|exact Is.mk rfl rfl|refine sp ?_|refine vx (by (first|exact Ql rfl rfl|exact Qa rfl rfl rfl|rfl)) ?_|refine dY ?_|(first|refine cl (k1 _ rfl rfl rfl) ?_|refine cl (k2 _ rfl) ?_|refine cl (k3 _ rfl) ?_|(refine Qw (Qr.grow rfl sty_N (d:= .slice 63) Tryz.underlying61 (by intro k h;cases h) rfl (m:=1) (l:= [iV op0,Qn tx0,iV nm0,.ro ks0.length (rowsN ks0)]) (by rfl) (by rfl) rfl (Jd out) (by omega) (by omega) ?_)))|refine sq ?_)))
    (all_goals (first|omega|contradiction|(exfalso;rw [hen] at hc;cases hc;done)|skip))
    focus (refine Qg.mk ⟨(f,out++ [.mk op0 tx0 nm0 ks0],s3),⟨g1,fun h=>by have:=(ml h).1;simp only;omega,w3,by simp only;omega,by simp only;omega,by simp only [List.length_append,List.length_cons,List.length_nil];omega⟩,?_,ka [(4,2)] ?_ ?_⟩;(first|omega|(simp only;omega));all_goals (repeat' (first|exact rz|refine And.intro ?_ ?_|refine Exists.intro _ (And.intro rfl ?_)|refine ro ?_|refine Qe.cons ?_ ?_|(first|exact Qe.eq hsn.symm (Qo _)|(first|exact Y5 _|exact Qi.eq rfl (Jt _)|exact Qi.eq (Q9 (by omega)) (Qb _)|exact Qi.eq rfl (Qb _)|exact Qe.eq (us:=rowsN _) rfl (Qo _)|exact Qi.eq rfl (Qx (Qo _))))|exact rv)))
  ·have hx:(out,st)=R:=by
    rw [← g1]
    cases f with
    | zero=>rfl
    | succ f=>rw [Xu,if_neg he]
   subst hx
   (repeat' (first|with_reducible refine And.intro ?_ ?_|(with_reducible intro hc;(try simp only [zz] at hc);try exact ct)|((conv=>whnf);first|(with_reducible first|refine And.intro ?_ ?_|intro hx|apply Val.via|apply Qk.via)|exact Is.mk rfl rfl|refine sp ?_|refine vx (by (first|exact Ql rfl rfl|exact Qa rfl rfl rfl|rfl)) ?_|refine dY ?_|fail|refine sq ?_)))
   (all_goals (first|omega|contradiction|(exfalso;rw [hen] at hc;cases hc;done)|skip))
   all_goals exact Qg.mk ⟨(Frz.gs (n:=out.length) (z:=4) rfl (Jd out) (Qo out)).toB,rfl,rfl⟩
theorem expr_of (un:PSt→Nd×PSt) (N:Nat) (hN:N≤50000) (hok: ∀ s,Ok s (un s).2) (hun: ∀ s,WfL s.l→s.l.length < N→s.d≤16→Q5 163 [] s (nV (un s).1) (un s).2)
  (s:PSt) (hw:WfL s.l) (hn:s.l.length < N) (hd:s.d≤16):Q5 158 [] s (nV (Xs un 5 s).1) (Xs un 5 s).2:=by
 refine Q5.of ?_
 have k0:=lev_call un N hN hok hun 5 (by decide) s hw hn hd
 have k1:=fun (H:Heap) (hb:H.get 0=some (pC s))=>Q5.at (Q0 _) (by simp [iV,Qb]) k0 hb
 cases hq:Xs un 5 s with
 | mk n0 s1 =>
 rw [hq] at k1
 obtain ⟨op0,tx0,nm0,ks0⟩:=n0
 simp only [nV,cellsN] at k1
 refine Qc.go Tryz.func158 rfl ?_
 (repeat' (first|with_reducible refine And.intro ?_ ?_|(with_reducible intro hc;(try simp only [zz] at hc);try exact ct)|((conv=>whnf);first|(with_reducible first|refine And.intro ?_ ?_|intro hx|apply Val.via|apply Qk.via)|exact Is.mk rfl rfl|refine sp ?_|refine vx (by (first|exact Ql rfl rfl|exact Qa rfl rfl rfl|rfl)) ?_|refine dY ?_|refine cl (k1 _ rfl) ?_|refine sq ?_)))
 (all_goals try exact om)
 all_goals exact Qg.mk ⟨Ui (.mk op0 tx0 nm0 ks0),rfl⟩
theorem deepAt (f:FuncId) (hen:Uj Tryz.prog f=true) (rd:PSt→Nd×PSt) (s:PSt) (hd:s.d≤16) (hok: ∀ s,Ok s (rd s).2)
  (hrd:s.e=0→s.d < 16→Q5 f [] ⟨s.l,s.d+1,s.e⟩ (nV (rd ⟨s.l,s.d+1,s.e⟩).1) (rd ⟨s.l,s.d+1,s.e⟩).2) {H:Heap} (hb:H.get 0=some (pC s)) :
  Qc Tryz.prog 108 [.ptr 0 0,.fn (.func f) [.ptr 0 0] []] H (fun v K=>v=nV (J8 rd s).1∧K=⟨(0,pC (J8 rd s).2)::Qs [0] H.objs,H.next⟩) :=
 Q5.at0 (Q0 _) (.cons (.ptr (by simp)) (.cons (Qi.fn (.cons (.ptr (by simp)) .nil) .nil) .nil)) (deep_call f hen rd s hd hok hrd) hb
theorem prim1_call (un:PSt→Nd×PSt) (N:Nat) (hN:N≤50000) (hok: ∀ s,Ok s (un s).2) (hun: ∀ s,WfL s.l→s.l.length < N→s.d≤16→Q5 163 [] s (nV (un s).1) (un s).2)
  (s:PSt) (hw:WfL s.l) (hn:s.l.length < N) (hd:s.d≤16):Qc Tryz.prog 166 [.ptr 1 0] ⟨hp2 s,2⟩ (fun v K=>v=nV (J8 (Xs un 5) s).1∧K=⟨hp2 (J8 (Xs un 5) s).2,2⟩):=by
 refine P2.of ?_
 have k1:=fun (H:Heap) (hb:H.get 0=some (pC s))=>deepAt 158 (by kernel_rfl) (Xs un 5) s hd (fun s=>Wd 5 s fun s' _=>hok s') (fun he h16=>expr_of un N hN hok hun ⟨s.l,s.d+1,s.e⟩ hw hn h16) hb
 cases hq:J8 (Xs un 5) s with
 | mk n0 s1 =>
 rw [hq] at k1
 obtain ⟨op0,tx0,nm0,ks0⟩:=n0
 simp only [nV,cellsN] at k1
 refine Qc.go Tryz.func166 rfl ?_
 (repeat' (first|with_reducible refine And.intro ?_ ?_|(with_reducible intro hc;(try simp only [zz] at hc);try exact ct)|((conv=>whnf);first|(with_reducible first|refine And.intro ?_ ?_|intro hx|apply Val.via|apply Qk.via)|exact Is.mk rfl rfl|refine sp ?_|refine vx (by (first|exact Ql rfl rfl|exact Qa rfl rfl rfl|rfl)) ?_|refine dY ?_|refine cl (k1 _ rfl) ?_|refine sq ?_)))
 (all_goals try exact om)
 all_goals exact Qg.mk ⟨Ui (.mk op0 tx0 nm0 ks0),rfl,rfl⟩
theorem Uy {m:Nat} {K:Heap} (op:Nat) (t:List UInt8) (n:Nat):Wf m K (.ag [iV op,Qn t,iV n,.sc (.slice none 0 0)]) (nV (.mk op t n [])):=by
 rw [nV,cellsN,rowsN]
 exact (Frz.agT (.cons (.of (Qb _)) (.cons (.of (Qj _)) (.cons (.of (Qb _)) (.cons Frz.nil0 .nil))))).toB
theorem Dc {m:Nat} {K:Heap} {b:Nat} {c:Option Nat} {vs:List VV} (op:Nat) (t:List UInt8) (n:Nat) (k:Nd) (hg:K.get b=some (.cells true vs)) (hv:vs=cellsN k):Wf m K (.ag [iV op,Qn t,iV n,.sl b 0 1 c 4]) (nV (.mk op t n [k])):=by
 subst hv
 rw [nV,cellsN]
 have h:=Frz.sl (K:=K) (b:=b) (o:=0) (n:=1) (z:=4) (c:=c) hg (by rw [X5];decide) (Xp k)
 rw [List.drop_zero,List.take_of_length_le (by rw [X5];decide)] at h
 have e:rowsN [k]=cellsN k:=by rw [rowsN,rowsN,List.append_nil]
 rw [e]
 exact (Frz.agT (.cons (.of (Qb _)) (.cons (.of (Qj _)) (.cons (.of (Qb _)) (.cons h .nil))))).toB
theorem takeS_no {k:Nat} {s s':PSt} (h:Zb k s=(none,s')):s'=s:=by
 obtain ⟨l,d,e⟩:=s
 unfold Zb at h
 split at h
 ·injection h with _ h;exact h.symm
 ·split at h
  ·injection h with h _;cases h
  ·injection h with _ h;exact h.symm
theorem prim_call (un:PSt→Nd×PSt) (N:Nat) (hN:N≤50000) (hok: ∀ s,Ok s (un s).2) (hun: ∀ s,WfL s.l→s.l.length < N→s.d≤16→Q5 163 [] s (nV (un s).1) (un s).2)
  (s:PSt) (hw:WfL s.l) (hn:s.l.length < N+1) (hd:s.d≤16):Q5 165 [] s (nV (Bm un s).1) (Bm un s).2:=by
 refine Q5.of ?_
 have ki:=fun (x:List UInt8) (s2:PSt) (h1:WfL s2.l) (h2:s2.l.length < N+1) (H:Heap) (hb:H.get 0=some (pC s2))=>Q5.at (Qb _) (by simp [Qj]) (Ub x s2 h1 (by omega)) hb
 have km:=fun (x:List UInt8) (s2:PSt) (h1:WfL s2.l) (h2:s2.l.length < N+1) (H:Heap) (hb:H.get 0=some (pC s2))=>Q5.at (Qt (by simp)) (by simp [Qj]) (Us x s2 h1 (by omega)) hb
 have kt:=fun (k:Nat) (H:Heap) (hb:H.get 0=some (pC s))=>Q5.at (Qt (by simp [Xk,Qb];exact Jz (by cases (Zb k s).1 <;> exact sgV_ok Qd Qb _ _))) (by simp [iV,Qb]) (take_call k s hw (by omega)) hb
 have kn:=fun (H:Heap) (hb:H.get 0=some (pC s))=>Q5.at (Qj _) (by simp) (Nk s hw (by omega)) hb
 have k3:=kt 3
 have k4:=kt 4
 have hok5: ∀ s,Ok s (Xs un 5 s).2:=fun s=>Wd 5 s fun s' _=>hok s'
 have hokd: ∀ s,Ok s (J8 (Xs un 5) s).2:=fun s=>Bw s fun s' _=>hok5 s'
 have kd:=fun (s2:PSt) (h1:WfL s2.l) (h2:s2.l.length < N) (h3:s2.d≤16) (H:Heap) (hb:H.get 0=some (pC s2))=>deepAt 158 (by kernel_rfl) (Xs un 5) s2 h3 hok5 (fun he h16=>expr_of un N hN hok hun ⟨s2.l,s2.d+1,s2.e⟩ h1 h2 h16) hb
 have kl:=fun (s2:PSt) (h1:WfL s2.l) (h2:s2.l.length < N) (h3:s2.d≤16) (H:Heap) (g1:H.get 1=some (.cells true [.ptr 0 0])) (g0:H.get 0=some (pC s2)) (hl:Nat.ble 2 H.next=true)=>P2.at (Qx (Qo _)) (.cons (Qi.ptr (by simp)) (.cons (Qi.fn .nil (.cons (.ptr (by simp)) .nil)) .nil)) (list_call 166 (by kernel_rfl) (J8 (Xs un 5)) N hN hokd (prim1_call un N hN hok hun) s2 h1 h2 h3) g1 g0 hl
 unfold Bm
 cases h3:Zb 3 s with
 | mk o3 s3 =>
 rw [h3] at k3
 cases o3 with
 | some p =>
  obtain ⟨⟨kd0,tx0,nm0⟩,a0⟩:=p
  simp only [Option.isSome_some,sgV] at k3 ⊢
  refine Qc.go Tryz.func165 rfl ?_
  (repeat' (first|with_reducible refine And.intro ?_ ?_|(with_reducible intro hc;(try simp only [zz] at hc);try exact ct)|((conv=>whnf);first|(with_reducible first|refine And.intro ?_ ?_|intro hx|apply Val.via|apply Qk.via)|exact Is.mk rfl rfl|refine sp ?_|refine vx (by (first|exact Ql rfl rfl|exact Qa rfl rfl rfl|rfl)) ?_|refine dY ?_|refine cl (k3 _ rfl) ?_|refine sq ?_)))
  (all_goals try exact om)
  all_goals exact Qg.mk ⟨Uy 8 [] nm0,rfl⟩
 | none =>
  obtain rfl:=takeS_no h3
  simp only [Option.isSome_none,sgV] at k3 ⊢
  cases h4:Zb 4 s3 with
  | mk o4 s4 =>
  rw [h4] at k4
  cases o4 with
  | some p =>
   obtain ⟨⟨kd0,tx0,nm0⟩,a0⟩:=p
   simp only [Option.isSome_some,sgV] at k4 ⊢
   refine Qc.go Tryz.func165 rfl ?_
   (repeat' (first|with_reducible refine And.intro ?_ ?_|(with_reducible intro hc;(try simp only [zz] at hc);try exact ct)|((conv=>whnf);first|(with_reducible first|refine And.intro ?_ ?_|intro hx|apply Val.via|apply Qk.via)|exact Is.mk rfl rfl|refine sp ?_|refine vx (by (first|exact Ql rfl rfl|exact Qa rfl rfl rfl|rfl)) ?_|refine dY ?_|(first|refine cl (k3 _ rfl) ?_|refine cl (k4 _ rfl) ?_)|refine sq ?_)))
   (all_goals try exact om)
   all_goals exact Qg.mk ⟨Uy 9 tx0 0,rfl⟩
  | none =>
   obtain rfl:=takeS_no h4
   simp only [Option.isSome_none,sgV] at k4 ⊢
   have kw:=ki [110,105,108] s4 hw hn
   have hno:=Zf (x:= [110,105,108]) (s:=s4)
   cases hc:(isS [110,105,108] s4).1 with
   | true =>
    rw [hc] at kw
    rw [if_pos rfl]
    refine Qc.go Tryz.func165 rfl ?_
    (repeat' (first|with_reducible refine And.intro ?_ ?_|(with_reducible intro hc;(try simp only [zz] at hc);try exact ct)|((conv=>whnf);first|(with_reducible first|refine And.intro ?_ ?_|intro hx|apply Val.via|apply Qk.via)|exact Is.mk rfl rfl|refine sp ?_|refine vx (by (first|exact Ql rfl rfl|exact Qa rfl rfl rfl|rfl)) ?_|refine dY ?_|(first|refine cl (k3 _ rfl) ?_|refine cl (k4 _ rfl) ?_|refine cl (kw _ rfl) ?_)|refine sq ?_)))
    (all_goals try exact om)
    all_goals exact Qg.mk ⟨Uy 10 [] 0,rfl⟩
   | false =>
    rw [hc,hno hc] at kw
    rw [if_neg (by decide)]
    have kb:=ki [40] s4 hw hn
    have hno2:=Zf (x:= [40]) (s:=s4)
    have ob:=Xv [40] s4
    have hlt:=Kg (x:= [40]) (s:=s4)
    cases hc2:(isS [40] s4).1 with
    | true =>
     rw [hc2] at kb
     rw [if_pos rfl]
     have hlt:=(hlt hc2).1
     generalize (isS [40] s4).2=s5 at *
     have w5:=ob.wf hw
     have d5:=ob.dep
     have k5:=kd s5 w5 (by omega) (by omega)
     have o5:=hokd s5
     cases hq:J8 (Xs un 5) s5 with
     | mk n0 s6 =>
     rw [hq] at k5 o5
     obtain ⟨op0,tx0,nm0,ks0⟩:=n0
     simp only [nV,cellsN] at k5 o5 ⊢
     have w6:=o5.wf w5
     have l6:=o5.len
     have k6:=km [41] s6 w6 (by omega)
     refine Qc.go Tryz.func165 rfl ?_
     (repeat' (first|with_reducible refine And.intro ?_ ?_|(with_reducible intro hc;(try simp only [zz] at hc);try exact ct)|((conv=>whnf);first|(with_reducible first|refine And.intro ?_ ?_|intro hx|apply Val.via|apply Qk.via)|exact Is.mk rfl rfl|refine sp ?_|refine vx (by (first|exact Ql rfl rfl|exact Qa rfl rfl rfl|rfl)) ?_|refine dY ?_|(first|refine cl (k3 _ rfl) ?_|refine cl (k4 _ rfl) ?_|refine cl (kw _ rfl) ?_|refine cl (kb _ rfl) ?_|refine cl (k5 _ rfl) ?_|refine cl (k6 _ rfl) ?_)|refine sq ?_)))
     (all_goals try exact om)
     all_goals exact Qg.mk ⟨Ui (.mk op0 tx0 nm0 ks0),rfl⟩
    | false =>
     rw [hc2,hno2 hc2] at kb
     rw [if_neg (by decide)]
     have o7:=Nl s4
     cases hnm:nmS s4 with
     | mk x s7 =>
     rw [hnm] at kn o7
     simp only at kn o7 ⊢
     have w7:=o7.wf hw
     have l7:=o7.len
     have d7:=o7.dep
     have kc:=ki [40] s7 w7 (by omega)
     have hno3:=Zf (x:= [40]) (s:=s7)
     have ob3:=Xv [40] s7
     have hlt3:=Kg (x:= [40]) (s:=s7)
     cases hc3:(isS [40] s7).1 with
     | true =>
      rw [hc3] at kc
      rw [if_pos rfl]
      have hlt3:=(hlt3 hc3).1
      generalize (isS [40] s7).2=s8 at *
      have w8:=ob3.wf w7
      have d8:=ob3.dep
      have k8:=kl s8 w8 (by omega) (by omega)
      cases hq:Y6 (J8 (Xs un 5)) s8 with
      | mk ks s9 =>
      rw [hq] at k8
      simp only at k8 ⊢
      refine Qc.go Tryz.func165 rfl ?_
      (repeat' (first|with_reducible refine And.intro ?_ ?_|(with_reducible intro hc;(try simp only [zz] at hc);try exact ct)|((conv=>whnf);first|(with_reducible first|refine And.intro ?_ ?_|intro hx|apply Val.via|apply Qk.via)|exact Is.mk rfl rfl|refine sp ?_|refine vx (by (first|exact Ql rfl rfl|exact Qa rfl rfl rfl|rfl)) ?_|refine dY ?_|(first|refine cl (k3 _ rfl) ?_|refine cl (k4 _ rfl) ?_|refine cl (kw _ rfl) ?_|refine cl (kb _ rfl) ?_|refine cl (kn _ rfl) ?_|refine cl (kc _ rfl) ?_|refine cl (k8 _ rfl rfl rfl) ?_)|refine sq ?_)))
      (all_goals try exact om)
      all_goals exact Qg.mk ⟨Ui (.mk 12 x 0 ks),rfl⟩
     | false =>
      rw [hc3,hno3 hc3] at kc
      rw [if_neg (by decide)]
      refine Qc.go Tryz.func165 rfl ?_
      (repeat' (first|with_reducible refine And.intro ?_ ?_|(with_reducible intro hc;(try simp only [zz] at hc);try exact ct)|((conv=>whnf);first|(with_reducible first|refine And.intro ?_ ?_|intro hx|apply Val.via|apply Qk.via)|exact Is.mk rfl rfl|refine sp ?_|refine vx (by (first|exact Ql rfl rfl|exact Qa rfl rfl rfl|rfl)) ?_|refine dY ?_|(first|refine cl (k3 _ rfl) ?_|refine cl (k4 _ rfl) ?_|refine cl (kw _ rfl) ?_|refine cl (kb _ rfl) ?_|refine cl (kn _ rfl) ?_|refine cl (kc _ rfl) ?_)|refine sq ?_)))
      (all_goals try exact om)
      all_goals exact Qg.mk ⟨Uy 11 x 0,rfl⟩
theorem un_call: ∀ (n:Nat),n≤40000→ ∀ s,WfL s.l→s.l.length < n→s.d≤16→Q5 163 [] s (nV (unS n s).1) (unS n s).2
 | 0,_,s,hw,hn,hd=>by omega
 | n+1,hn1,s,hw,hn,hd=>by
  have ih:=un_call n (by omega)
  refine Q5.of ?_
  have ki:=fun (x:List UInt8) (H:Heap) (hb:H.get 0=some (pC s))=>Q5.at (Qb _) (by simp [Qj]) (Ub x s hw (by omega)) hb
  have kp:=fun (H:Heap) (hb:H.get 0=some (pC s))=>Q5.at (Q0 _) (by simp) (prim_call (unS n) n (by omega) (Bh n) ih s hw hn hd) hb
  have kd:=fun (s2:PSt) (h1:WfL s2.l) (h2:s2.l.length < n) (h3:s2.d≤16) (H:Heap) (hb:H.get 0=some (pC s2))=>deepAt 163 (by kernel_rfl) (unS n) s2 h3 (Bh n) (fun he h16=>ih ⟨s2.l,s2.d+1,s2.e⟩ h1 h2 h16) hb
  have ka:=ki [110,111,116]
  have kb:=ki [45]
  have hna:=Zf (x:= [110,111,116]) (s:=s)
  have hnb:=Zf (x:= [45]) (s:=s)
  unfold unS
  cases hc:(isS [110,111,116] s).1 with
  | true =>
   have ob:=Xv [110,111,116] s
   have hlt:=(Kg hc).1
   rw [hc] at ka
   rw [if_pos rfl]
   generalize (isS [110,111,116] s).2=s5 at *
   have w5:=ob.wf hw
   have d5:=ob.dep
   have k5:=kd s5 w5 (by omega) (by omega)
   cases hq:J8 (unS n) s5 with
   | mk n0 s6 =>
   rw [hq] at k5
   obtain ⟨op0,tx0,nm0,ks0⟩:=n0
   simp only [nV,cellsN] at k5
   refine Qc.go Tryz.func163 rfl ?_
   (repeat' (first|with_reducible refine And.intro ?_ ?_|(with_reducible intro hc;(try simp only [zz] at hc);try exact ct)|((conv=>whnf);first|(with_reducible first|refine And.intro ?_ ?_|intro hx|apply Val.via|apply Qk.via)|exact Is.mk rfl rfl|refine sp ?_|refine vx (by (first|exact Ql rfl rfl|exact Qa rfl rfl rfl|rfl)) ?_|refine dY ?_|fail|refine sq ?_)))
   (all_goals try exact om)
   refine Ju.mk (GWP.rounds 3 (GWP.step ?_))
   (repeat' (first|with_reducible refine And.intro ?_ ?_|(with_reducible intro hc;(try simp only [zz] at hc);try exact ct)|((conv=>whnf);first|(with_reducible first|refine And.intro ?_ ?_|intro hx|apply Val.via|apply Qk.via)|exact Is.mk rfl rfl|refine sp ?_|refine vx (by (first|exact Ql rfl rfl|exact Qa rfl rfl rfl|rfl)) ?_|refine dY ?_|(first|refine cl (ka _ rfl) ?_|refine cl (k5 _ rfl) ?_)|refine sq ?_)))
   (all_goals try exact om)
   all_goals exact Qg.mk ⟨Dc 14 [110,111,116] 0 (.mk op0 tx0 nm0 ks0) rfl (by rw [cellsN];rfl),rfl⟩
  | false =>
   rw [hc,hna hc] at ka
   rw [if_neg (by decide)]
   cases hc2:(isS [45] s).1 with
   | true =>
    have ob:=Xv [45] s
    have hlt:=(Kg hc2).1
    rw [hc2] at kb
    rw [if_pos rfl]
    generalize (isS [45] s).2=s5 at *
    have w5:=ob.wf hw
    have d5:=ob.dep
    have k5:=kd s5 w5 (by omega) (by omega)
    cases hq:J8 (unS n) s5 with
    | mk n0 s6 =>
    rw [hq] at k5
    obtain ⟨op0,tx0,nm0,ks0⟩:=n0
    simp only [nV,cellsN] at k5
    refine Qc.go Tryz.func163 rfl ?_
    (repeat' (first|with_reducible refine And.intro ?_ ?_|(with_reducible intro hc;(try simp only [zz] at hc);try exact ct)|((conv=>whnf);first|(with_reducible first|refine And.intro ?_ ?_|intro hx|apply Val.via|apply Qk.via)|exact Is.mk rfl rfl|refine sp ?_|refine vx (by (first|exact Ql rfl rfl|exact Qa rfl rfl rfl|rfl)) ?_|refine dY ?_|fail|refine sq ?_)))
    (all_goals try exact om)
    refine Ju.mk (GWP.rounds 3 (GWP.step ?_))
    (repeat' (first|with_reducible refine And.intro ?_ ?_|(with_reducible intro hc;(try simp only [zz] at hc);try exact ct)|((conv=>whnf);first|(with_reducible first|refine And.intro ?_ ?_|intro hx|apply Val.via|apply Qk.via)|exact Is.mk rfl rfl|refine sp ?_|refine vx (by (first|exact Ql rfl rfl|exact Qa rfl rfl rfl|rfl)) ?_|refine dY ?_|(first|refine cl (ka _ rfl) ?_)|refine sq ?_)))
    (all_goals try exact om)
    refine GRnd'.step ?_
    (repeat' (first|with_reducible refine And.intro ?_ ?_|(with_reducible intro hc;(try simp only [zz] at hc);try exact ct)|((conv=>whnf);first|(with_reducible first|refine And.intro ?_ ?_|intro hx|apply Val.via|apply Qk.via)|exact Is.mk rfl rfl|refine sp ?_|refine vx (by (first|exact Ql rfl rfl|exact Qa rfl rfl rfl|rfl)) ?_|refine dY ?_|(first|refine cl (kb _ rfl) ?_|refine cl (k5 _ rfl) ?_)|refine sq ?_)))
    (all_goals try exact om)
    all_goals exact Qg.mk ⟨Dc 14 [45] 0 (.mk op0 tx0 nm0 ks0) rfl (by rw [cellsN];rfl),rfl⟩
   | false =>
    rw [hc2,hnb hc2] at kb
    rw [if_neg (by decide)]
    cases hq:Bm (unS n) s with
    | mk n0 s6 =>
    rw [hq] at kp
    obtain ⟨op0,tx0,nm0,ks0⟩:=n0
    simp only [nV,cellsN] at kp
    refine Qc.go Tryz.func163 rfl ?_
    (repeat' (first|with_reducible refine And.intro ?_ ?_|(with_reducible intro hc;(try simp only [zz] at hc);try exact ct)|((conv=>whnf);first|(with_reducible first|refine And.intro ?_ ?_|intro hx|apply Val.via|apply Qk.via)|exact Is.mk rfl rfl|refine sp ?_|refine vx (by (first|exact Ql rfl rfl|exact Qa rfl rfl rfl|rfl)) ?_|refine dY ?_|fail|refine sq ?_)))
    (all_goals try exact om)
    refine Ju.mk (GWP.rounds 3 (GWP.step ?_))
    (repeat' (first|with_reducible refine And.intro ?_ ?_|(with_reducible intro hc;(try simp only [zz] at hc);try exact ct)|((conv=>whnf);first|(with_reducible first|refine And.intro ?_ ?_|intro hx|apply Val.via|apply Qk.via)|exact Is.mk rfl rfl|refine sp ?_|refine vx (by (first|exact Ql rfl rfl|exact Qa rfl rfl rfl|rfl)) ?_|refine dY ?_|(first|refine cl (ka _ rfl) ?_)|refine sq ?_)))
    (all_goals try exact om)
    refine GRnd'.step ?_
    (repeat' (first|with_reducible refine And.intro ?_ ?_|(with_reducible intro hc;(try simp only [zz] at hc);try exact ct)|((conv=>whnf);first|(with_reducible first|refine And.intro ?_ ?_|intro hx|apply Val.via|apply Qk.via)|exact Is.mk rfl rfl|refine sp ?_|refine vx (by (first|exact Ql rfl rfl|exact Qa rfl rfl rfl|rfl)) ?_|refine dY ?_|(first|refine cl (kb _ rfl) ?_)|refine sq ?_)))
    (all_goals try exact om)
    refine GRnd'.step ?_
    (repeat' (first|with_reducible refine And.intro ?_ ?_|(with_reducible intro hc;(try simp only [zz] at hc);try exact ct)|((conv=>whnf);first|(with_reducible first|refine And.intro ?_ ?_|intro hx|apply Val.via|apply Qk.via)|exact Is.mk rfl rfl|refine sp ?_|refine vx (by (first|exact Ql rfl rfl|exact Qa rfl rfl rfl|rfl)) ?_|refine dY ?_|(first|refine cl (kp _ rfl) ?_)|refine sq ?_)))
    (all_goals try exact om)
    all_goals exact Qg.mk ⟨Ui (.mk op0 tx0 nm0 ks0),rfl⟩
theorem ex_call (s:PSt) (hw:WfL s.l) (hn:s.l.length < 39000) (hd:s.d≤16):Q5 158 [] s (nV (exS s).1) (exS s).2 :=
 expr_of (unS (s.l.length+1)) (s.l.length+1) (by omega) (Bh _) (un_call (s.l.length+1) (by omega)) s hw (Nat.lt_succ_self _) hd
theorem stmts_call (st:PSt→Nd×PSt) (N:Nat) (hN:N≤30000) (hok: ∀ s,Ok s (st s).2) (hlt: ∀ s,WfL s.l→s.e=0→(st s).2.e=0→(st s).2.l.length < s.l.length)
  (hst: ∀ s,WfL s.l→s.l.length < N→s.d≤16→Q5 147 [] s (nV (st s).1) (st s).2) (s:PSt) (hw:WfL s.l) (hn:s.l.length < N) (hd:s.d≤16) :
  Q5 109 [] s (nV (.mk 2 [] 0 (Xh st (s.l.length+2) [] s).1)) (Xh st (s.l.length+2) [] s).2:=by
 refine Q5.of ?_
 have ki:=fun (x:List UInt8) (s2:PSt) (h1:WfL s2.l) (h2:s2.l.length < N) (H:Heap) (hb:H.get 0=some (pC s2))=>Q5.at (Qb _) (by simp [Qj]) (Ub x s2 h1 (by omega)) hb
 have kx:=fun (s2:PSt) (h1:WfL s2.l) (h2:s2.l.length < N) (h3:s2.d≤16) (H:Heap) (hb:H.get 0=some (pC s2))=>Q5.at (Q0 _) (by simp) (hst s2 h1 h2 h3) hb
 have r00:True:=trivial
 have r10:True:=trivial
 have r11:True:=trivial
 generalize hR:Xh st (s.l.length+2) [] s=R
 refine Qc.go Tryz.func109 rfl ?_
 (repeat' (first|with_reducible refine And.intro ?_ ?_|(with_reducible intro hc;(try simp only [zz] at hc);try exact ct)|((conv=>whnf);first|(with_reducible first|refine And.intro ?_ ?_|intro hx|apply Val.via|apply Qk.via)|exact Is.mk rfl rfl|refine sp ?_|refine vx (by (first|exact Ql rfl rfl|exact Qa rfl r00 rfl|exact Qa rfl r10 rfl|exact Qa rfl r11 rfl|exact Qa rfl rfl rfl|rfl)) ?_|fail|refine sq ?_)))
 (all_goals try exact om)
 (refine Ju.mk (GWP.loopB [0,2] (fun (a:Nat×List Nd×PSt)=>Xh st a.1 a.2.1 a.2.2=R∧(a.2.2.e=0→a.2.2.l.length < a.1)∧WfL a.2.2.l∧a.2.2.l.length < N∧a.2.2.d≤16∧a.2.1.length+a.1=s.l.length+2) (fun _=> []) (fun a=> [(0,pC a.2.2),(2,.cells true [iV 2,Qn [],iV 0,.gs 3 a.2.1.length 4]),(3,.opt (rowsN a.2.1))]) 4 (fun a=>a.1) (s.l.length+2,[],s) ⟨hR,fun _=>by simp only;omega,hw,hn,hd,by simp only [List.length_nil];omega⟩ ?_);(conv=>whnf);refine And.intro ?_ ?_)
 ·focus (refine ka [] ?_ ?_;all_goals (repeat' (first|exact rz|refine And.intro ?_ ?_|refine Exists.intro _ (And.intro rfl ?_)|refine ro ?_|refine Qe.cons ?_ ?_|(first|exact Qi.gsN|(first|exact Y5 _|exact Qi.gsZ|exact Qi.eq rfl (Jt _)|exact Qi.eq (Q9 (by omega)) (Qb _)|exact Qi.eq rfl (Qb _)|exact Qe.eq (us:=rowsN _) rfl (Qo _)|exact Qi.eq rfl (Qx (Qo _))))|exact rv)))
 rintro ⟨f,out,s0⟩ ⟨g1,g2,g3,g4,g5,g6⟩
 simp only at g1 g2 g3 g4 g5 g6 ⊢
 have fin: ∀ K:Heap,K.get 3=some (.opt (rowsN out))→Wf 1 K (.ag [iV 2,Qn [],iV 0,.gs 3 out.length 4]) (nV (.mk 2 [] 0 out)):=fun K hg=>by
  rw [nV,cellsN]
  exact (Frz.agT (.cons (.of (Qb _)) (.cons (.of (Qj _)) (.cons (.of (Qb _)) (.cons (Frz.gs hg (Jd out) (Qo out)) .nil))))).toB
 by_cases he:s0.e=0
 ·have g2:=g2 he
  obtain ⟨f,rfl⟩: ∃ f',f=f'+1:=⟨f - 1,by omega⟩
  rw [Xh,if_pos he] at g1
  have kb:=ki [125] s0 g3 g4
  have hno:=Zf (x:= [125]) (s:=s0)
  cases hc:(isS [125] s0).1 with
  | true =>
   rw [hc,if_pos rfl] at g1
   rw [hc] at kb
   subst g1
   (repeat' (first|with_reducible refine And.intro ?_ ?_|(with_reducible intro hc;(try simp only [zz] at hc);try exact ct)|((conv=>whnf);first|(with_reducible first|refine And.intro ?_ ?_|intro hx|apply Val.via|apply Qk.via)|exact Is.mk rfl rfl|refine sp ?_|refine vx (by (first|exact Ql rfl rfl|exact Qa rfl r00 rfl|exact Qa rfl r10 rfl|exact Qa rfl r11 rfl|exact Qa rfl rfl rfl|rfl)) ?_|refine cl (kb _ rfl) ?_|refine sq ?_)))
   (all_goals try exact om)
   all_goals exact Qg.mk ⟨fin _ rfl,rfl⟩
  | false =>
   rw [hc,if_neg (by decide)] at g1
   rw [hc,hno hc] at kb
   have k1:=kx s0 g3 g4 g5
   have o1:=hok s0
   have hl1:=hlt s0 g3 he
   cases hq:st s0 with
   | mk n0 s1 =>
   rw [hq] at k1 o1 g1 hl1
   obtain ⟨op0,tx0,nm0,ks0⟩:=n0
   have w1:=o1.wf g3
   have l1:=o1.len
   have d1:=o1.dep
   simp only [nV,cellsN] at k1 g1 w1 l1 d1 hl1
   have hsn:rowsN (out++ [.mk op0 tx0 nm0 ks0])=rowsN out++ [iV op0,Qn tx0,iV nm0,.ro (List.length ks0) (rowsN ks0)]:=by rw [X1,cellsN]
   (repeat' (first|with_reducible refine And.intro ?_ ?_|(with_reducible intro hc;(try simp only [zz] at hc);try exact ct)|((conv=>whnf);first|(with_reducible first|refine And.intro ?_ ?_|intro hx|apply Val.via|apply Qk.via)|exact Is.mk rfl rfl|refine sp ?_|refine vx (by (first|exact Ql rfl rfl|exact Qa rfl r00 rfl|exact Qa rfl r10 rfl|exact Qa rfl r11 rfl|exact Qa rfl rfl rfl|rfl)) ?_|refine cl (kb _ rfl) ?_|refine sq ?_)))
   (all_goals try exact om)
   refine Ju.mk (GWP.drawM mixed 23 [3,5,7] (fun H=> [⟨(0,pC s1)::Qs [0] H.objs,H.next⟩,((⟨(0,pC s1)::Qs [0] H.objs,H.next⟩:Heap).del 3).add (.opt (rowsN out++ [iV op0,Qn tx0,iV nm0,.ro (List.length ks0) (rowsN ks0)])),(((⟨(0,pC s1)::Qs [0] H.objs,H.next⟩:Heap).del 3).add (.opt (rowsN out++ [iV op0,Qn tx0,iV nm0,.ro (List.length ks0) (rowsN ks0)]))).set 2 (.cells true [iV 2,Qn [],iV 0,.gs H.next (out.length+1) 4])]) (by kernel_rfl) (by rfl) ?_)
   repeat' (first|with_reducible refine And.intro ?_ ?_|(with_reducible intro hc;(try simp only [zz] at hc);try exact ct)|exact trivial|((conv=>whnf);first|with_reducible refine And.intro ?_ ?_|with_reducible intro hx|exact Is.mk rfl rfl|exact trivial|(with_reducible first|apply Val.via|apply Qk.via)|(refine GOp.drawn1 (n:= .mk op0 tx0 nm0 ks0) (by rfl) (by rfl) (by rfl))|refine sp ?_|refine vx (by (first|exact Ql rfl rfl|exact Qa rfl r00 rfl|exact Qa rfl r10 rfl|exact Qa rfl r11 rfl|exact Qa rfl rfl rfl|rfl)) ?_|(first|refine cl (k1 _ rfl) ?_|(refine Qw (Qr.grow rfl sty_N (d:= .slice 63) Tryz.underlying61 (by intro k h;cases h) rfl (m:=1) (l:= [iV op0,Qn tx0,iV nm0,.ro (List.length ks0) (rowsN ks0)]) (by rfl) (by rfl) rfl (Jd out) (by omega) (by omega) ?_)))|refine sq ?_))
   (all_goals try exact om)
   focus (refine Qg.mk ⟨(f,out++ [.mk op0 tx0 nm0 ks0],s1),⟨g1,fun h=>by have:=hl1 h;simp only;omega,w1,by simp only;omega,by simp only;omega,by simp only [List.length_append,List.length_cons,List.length_nil];omega⟩,?_,ka [(4,3)] ?_ ?_⟩;(first|omega|(simp only;omega));all_goals (repeat' (first|exact rz|refine And.intro ?_ ?_|refine Exists.intro _ (And.intro rfl ?_)|refine ro ?_|refine Qe.cons ?_ ?_|(first|exact Qe.eq hsn.symm (Qo _)|(first|exact Y5 _|exact Qi.gsZ|exact Qi.eq rfl (Jt _)|exact Qi.eq (Q9 (by omega)) (Qb _)|exact Qi.eq rfl (Qb _)|exact Qe.eq (us:=rowsN _) rfl (Qo _)|exact Qi.eq rfl (Qx (Qo _))))|exact rv)))
 ·have hx:(out,s0)=R:=by
   rw [← g1]
   cases f with
   | zero=>rfl
   | succ f=>rw [Xh,if_neg he]
  subst hx
  (repeat' (first|with_reducible refine And.intro ?_ ?_|(with_reducible intro hc;(try simp only [zz] at hc);try exact ct)|((conv=>whnf);first|(with_reducible first|refine And.intro ?_ ?_|intro hx|apply Val.via|apply Qk.via)|exact Is.mk rfl rfl|refine sp ?_|refine vx (by (first|exact Ql rfl rfl|exact Qa rfl r00 rfl|exact Qa rfl r10 rfl|exact Qa rfl r11 rfl|exact Qa rfl rfl rfl|rfl)) ?_|fail|refine sq ?_)))
  (all_goals try exact om)
  all_goals exact Qg.mk ⟨fin _ rfl,rfl⟩
end Go.Proofs.YtpbiblhkcomekaaGreat
