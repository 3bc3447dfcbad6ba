import Derived.Test.YtpbiblhkcomekaaGreatBA4
import Derived.Test.YtpbiblhkcomekaaGreatBA5
import Derived.Test.YtpbiblhkcomekaaGreatBE5
import Derived.Test.YtpbiblhkcomekaaGreatBH6
/- The maker's methods at any names at all; what Compile makes, in plain words. -/
namespace Go.Proofs.YtpbiblhkcomekaaGreat
open Go Go.RowKit
set_option linter.unusedSimpArgs false
set_option linter.unusedVariables false
set_option maxRecDepth 100000
def mkW (p m q a b c:Nat) (s:MkS) (x:VV):List (Nat×VObj) :=
 [(p,.cells true [.gs a s.names.length 1,.gs b s.consts.length 3,.mp q,x]),(m,.cells true [.ptr p 0,.gs c s.l.length 3,iV s.fixed,iV s.depth,iV s.most]),(a,.opt (nmR s.names)),(b,.opt (Yy s.consts)),(c,.opt (Xn s.l))]
structure Nm6 (l:List Nat) (n:Nat):Prop where
 h:l.Nodup∧ ∀ x∈l,x < n
theorem mkW_m {R:List (Nat×Nat)} {p p' c c' n:Nat} {i d e:Int} (hc:(c,c')∈R) (h0:(p,p')∈R):Jx R 0 (.cells true [.ptr p 0,.gs c n 3,iV i,iV d,iV e]) (.cells true [.ptr p' 0,.gs c' n 3,iV i,iV d,iV e]):= .cells (.cons (.ptr h0) (.cons (.gs hc) (.cons (.of (Qb _)) (.cons (.of (Qb _)) (.cons (.of (Qb _)) .nil)))))
theorem mkW_p {R:List (Nat×Nat)} {q q' a b a' b' n k:Nat} {x:VV} (hx:Qd x) (ha:(a,a')∈R) (hb:(b,b')∈R) (h2:(q,q')∈R):Jx R 0 (.cells true [.gs a n 1,.gs b k 3,.mp q,x]) (.cells true [.gs a' n 1,.gs b' k 3,.mp q',x]):= .cells (.cons (.gs ha) (.cons (.gs hb) (.cons (.mp h2) (.cons (.of hx) .nil))))
theorem MkC.atG {f:FuncId} {args:List VV} {s s':MkS} {u x:VV} (hx:Qd x) (hu:Qd u) (ha: ∀ v∈args,Qd v) (h:MkC f (.ptr 1 0::args) s u s') (H:Heap) (p m q a b c n:Nat)
  (g0:H.get p=some (.cells true [.gs a s.names.length 1,.gs b s.consts.length 3,.mp q,x])) (g1:H.get m=some (.cells true [.ptr p 0,.gs c s.l.length 3,iV s.fixed,iV s.depth,iV s.most])) (g3:H.get a=some (.opt (nmR s.names))) (g4:H.get b=some (.opt (Yy s.consts))) (g5:H.get c=some (.opt (Xn s.l))) (hn:H.next=n) (hb:Nm6 [p,m,q,a,b,c] n) :
  Qc Tryz.prog f (.ptr m 0::args) H (fun v K=>v=u∧K=⟨mkW p m q n (n+1) (n+2) s' x++Qs [p,m,a,b,c] H.objs,n+3⟩):=by
 refine Qc.live fun hlive=> ?_
 obtain ⟨objs,nx⟩:=H
 simp only at hn
 subst hn
 obtain ⟨hd,hl⟩:=hb.h
 simp only [List.nodup_cons,List.mem_cons,List.not_mem_nil,or_false,not_false_eq_true,List.nodup_nil,and_true,not_or] at hd
 simp only [List.mem_cons,List.not_mem_nil,or_false,forall_eq_or_imp,forall_eq] at hl
 have g: ∀ i:Nat,Jl i [p,m,a,b,c]=true→(⟨Yr [p,m,a,b,c] objs,nx⟩:Heap).get i=(⟨objs,nx⟩:Heap).get i:=fun i hi=>by
  show hget (Yr [p,m,a,b,c] objs) i=hget objs i
  rw [X4,hi]
 refine Qc.at (n1:=6) (O1:=mkO 3 4 5 s x) [p,m,a,b,c] [(p,0),(m,1),(q,2),(a,3),(b,4),(c,5)] ?_
  ⟨⟨_,(g p (Qp.2 (by simp))).trans g0,mkW_p hx (by simp) (by simp) (by simp)⟩,⟨_,(g m (Qp.2 (by simp))).trans g1,mkW_m (by simp) (by simp)⟩,⟨_,(g a (Qp.2 (by simp))).trans g3,.opt (Qe.of (Jb _))⟩,⟨_,(g b (Qp.2 (by simp))).trans g4,.opt (Qe.of (Jg _))⟩,⟨_,(g c (Qp.2 (by simp))).trans g5,.opt (Qe.of (Yx _))⟩,trivial⟩
  (.cons (.ptr (by simp)) (Qe.of ha)) (h x hx) ?_
 ·show (wfR 0 6 [(p,0),(m,1),(q,2),(a,3),(b,4),(c,5)]&&nodupB [p,m,a,b,c]&&_)=true
  rw [Wg (by simp;omega)]
  rfl
 rintro v K ⟨rfl,rfl⟩
 have e0:Jm [(p,0),(m,1),(q,2),(a,3),(b,4),(c,5)] 6 nx (9 - 6)= [(8,nx+2),(7,nx+1),(6,nx),(0,p),(1,m),(2,q),(3,a),(4,b),(5,c)]:=rfl
 have hw:wfR 0 (nx+3) [(8,nx+2),(7,nx+1),(6,nx),(0,p),(1,m),(2,q),(3,a),(4,b),(5,c)]=true:=by
  refine C1 ?_ ?_
  ·simp only [List.mem_cons,List.not_mem_nil,or_false,forall_eq_or_imp,forall_eq]
   omega
  ·simp only [List.map_cons,List.map_nil,List.nodup_cons,List.mem_cons,List.not_mem_nil,or_false,not_false_eq_true,List.nodup_nil,and_true,not_or]
   omega
 have sr: ∀ i j:Nat,(i,j)∈ [(8,nx+2),(7,nx+1),(6,nx),(0,p),(1,m),(2,q),(3,a),(4,b),(5,c)]→srcN [(8,nx+2),(7,nx+1),(6,nx),(0,p),(1,m),(2,q),(3,a),(4,b),(5,c)] j=some i:=fun i j hj=>(Xe hw (i,j) hj).2.2
 have t0:=sr 0 p (by simp)
 have t1:=sr 1 m (by simp)
 have t3:=sr 6 nx (by simp)
 have t4:=sr 7 (nx+1) (by simp)
 have t5:=sr 8 (nx+2) (by simp)
 refine ⟨v,mkW p m q nx (nx+1) (nx+2) s' x,⟨?_,.of hu,?_⟩,?_,rfl,rfl⟩
 ·show (wfR 0 (nx+3) (Jm _ 6 nx (9 - 6))&&nodupB (Zy (Jm _ 6 nx (9 - 6)) 0 (mkW p m q nx (nx+1) (nx+2) s' x))&&(mkW p m q nx (nx+1) (nx+2) s' x).all (fun p=>(srcN (Jm _ 6 nx (9 - 6)) p.1).isSome)&&_)=true
  rw [e0,hw]
  simp only [mkW,Zy,Q7,t0,t1,t3,t4,t5,List.all_cons,List.all_nil]
  rfl
 ·show W1 (Jm _ 6 nx (9 - 6)) 0 ⟨mkO 6 7 8 s' x,9⟩ _
  rw [e0]
  refine ⟨?_,?_,?_,?_,?_,trivial⟩
  ·rw [Q7,t0];exact ⟨_,rfl,mkW_p hx (by simp) (by simp) (by simp)⟩
  ·rw [Q7,t1];exact ⟨_,rfl,mkW_m (by simp) (by simp)⟩
  ·rw [Q7,t3];exact ⟨_,rfl,.opt (Qe.of (Jb _))⟩
  ·rw [Q7,t4];exact ⟨_,rfl,.opt (Qe.of (Jg _))⟩
  ·rw [Q7,t5];exact ⟨_,rfl,.opt (Qe.of (Yx _))⟩
 ·have hl: ∀ i y,hget objs i=some y→i < nx:=hlive
  have m0:=Jh (D:= [p,m,a,b,c]) (b:=p) (Qp.2 (by simp)) objs
  have m1:=Jh (D:= [p,m,a,b,c]) (b:=m) (Qp.2 (by simp)) objs
  have m3:=Jq (D:= [p,m,a,b,c]) hl (show nx≤nx by omega)
  have m4:=Jq (D:= [p,m,a,b,c]) hl (show nx≤nx+1 by omega)
  have m5:=Jq (D:= [p,m,a,b,c]) hl (show nx≤nx+2 by omega)
  simp only [mkW,List.all_cons,List.all_nil,m0,m1,m3,m4,m5]
  rfl
theorem MkC.atG0 {f:FuncId} {args:List VV} {s s':MkS} {u x:VV} (hs:s.l= []) (hx:Qd x) (hu:Qd u) (ha: ∀ v∈args,Qd v) (h:MkC f (.ptr 1 0::args) s u s') (H:Heap) (p m q a b n:Nat)
  (g0:H.get p=some (.cells true [.gs a s.names.length 1,.gs b s.consts.length 3,.mp q,x])) (g1:H.get m=some (.cells true [.ptr p 0,.sc (.slice none 0 0),iV s.fixed,iV s.depth,iV s.most])) (g3:H.get a=some (.opt (nmR s.names))) (g4:H.get b=some (.opt (Yy s.consts))) (hn:H.next=n) (hb:Nm6 [p,m,q,a,b] n) :
  Qc Tryz.prog f (.ptr m 0::args) H (fun v K=>v=u∧K=⟨mkW p m q n (n+1) (n+2) s' x++Qs [p,m,a,b] H.objs,n+3⟩):=by
 refine Qc.live fun hlive=> ?_
 obtain ⟨objs,nx⟩:=H
 simp only at hn
 subst hn
 obtain ⟨hd,hl⟩:=hb.h
 simp only [List.nodup_cons,List.mem_cons,List.not_mem_nil,or_false,not_false_eq_true,List.nodup_nil,and_true,not_or] at hd
 simp only [List.mem_cons,List.not_mem_nil,or_false,forall_eq_or_imp,forall_eq] at hl
 have g: ∀ i:Nat,Jl i [p,m,a,b]=true→(⟨Yr [p,m,a,b] objs,nx⟩:Heap).get i=(⟨objs,nx⟩:Heap).get i:=fun i hi=>by
  show hget (Yr [p,m,a,b] objs) i=hget objs i
  rw [X4,hi]
 have e5:VObj.opt (Xn s.l)= .opt []:=by rw [hs];rfl
 have e6:s.l.length=0:=by rw [hs];rfl
 refine Qc.at (n1:=6) (O1:=mkO 3 4 5 s x) [p,m,a,b] [(p,0),(m,1),(q,2),(a,3),(b,4)] ?_
  ⟨⟨_,(g p (Qp.2 (by simp))).trans g0,mkW_p hx (by simp) (by simp) (by simp)⟩,⟨_,(g m (Qp.2 (by simp))).trans g1,.cells (.cons (.ptr (by simp)) (.cons (by rw [e6];exact .gsN) (.cons (.of (Qb _)) (.cons (.of (Qb _)) (.cons (.of (Qb _)) .nil)))))⟩,⟨_,(g a (Qp.2 (by simp))).trans g3,.opt (Qe.of (Jb _))⟩,⟨_,(g b (Qp.2 (by simp))).trans g4,.opt (Qe.of (Jg _))⟩,e5,trivial⟩
  (.cons (.ptr (by simp)) (Qe.of ha)) (h x hx) ?_
 ·show (wfR 0 6 [(p,0),(m,1),(q,2),(a,3),(b,4)]&&nodupB [p,m,a,b]&&_)=true
  rw [Wg (by simp;omega)]
  rfl
 rintro v K ⟨rfl,rfl⟩
 have e0:Jm [(p,0),(m,1),(q,2),(a,3),(b,4)] 6 nx (9 - 6)= [(8,nx+2),(7,nx+1),(6,nx),(0,p),(1,m),(2,q),(3,a),(4,b)]:=rfl
 have hw:wfR 0 (nx+3) [(8,nx+2),(7,nx+1),(6,nx),(0,p),(1,m),(2,q),(3,a),(4,b)]=true:=by
  refine C1 ?_ ?_
  ·simp only [List.mem_cons,List.not_mem_nil,or_false,forall_eq_or_imp,forall_eq]
   omega
  ·simp only [List.map_cons,List.map_nil,List.nodup_cons,List.mem_cons,List.not_mem_nil,or_false,not_false_eq_true,List.nodup_nil,and_true,not_or]
   omega
 have sr: ∀ i j:Nat,(i,j)∈ [(8,nx+2),(7,nx+1),(6,nx),(0,p),(1,m),(2,q),(3,a),(4,b)]→srcN [(8,nx+2),(7,nx+1),(6,nx),(0,p),(1,m),(2,q),(3,a),(4,b)] j=some i:=fun i j hj=>(Xe hw (i,j) hj).2.2
 have t0:=sr 0 p (by simp)
 have t1:=sr 1 m (by simp)
 have t3:=sr 6 nx (by simp)
 have t4:=sr 7 (nx+1) (by simp)
 have t5:=sr 8 (nx+2) (by simp)
 refine ⟨v,mkW p m q nx (nx+1) (nx+2) s' x,⟨?_,.of hu,?_⟩,?_,rfl,rfl⟩
 ·show (wfR 0 (nx+3) (Jm _ 6 nx (9 - 6))&&nodupB (Zy (Jm _ 6 nx (9 - 6)) 0 (mkW p m q nx (nx+1) (nx+2) s' x))&&(mkW p m q nx (nx+1) (nx+2) s' x).all (fun p=>(srcN (Jm _ 6 nx (9 - 6)) p.1).isSome)&&_)=true
  rw [e0,hw]
  simp only [mkW,Zy,Q7,t0,t1,t3,t4,t5,List.all_cons,List.all_nil]
  rfl
 ·show W1 (Jm _ 6 nx (9 - 6)) 0 ⟨mkO 6 7 8 s' x,9⟩ _
  rw [e0]
  refine ⟨?_,?_,?_,?_,?_,trivial⟩
  ·rw [Q7,t0];exact ⟨_,rfl,mkW_p hx (by simp) (by simp) (by simp)⟩
  ·rw [Q7,t1];exact ⟨_,rfl,mkW_m (by simp) (by simp)⟩
  ·rw [Q7,t3];exact ⟨_,rfl,.opt (Qe.of (Jb _))⟩
  ·rw [Q7,t4];exact ⟨_,rfl,.opt (Qe.of (Jg _))⟩
  ·rw [Q7,t5];exact ⟨_,rfl,.opt (Qe.of (Yx _))⟩
 ·have hl: ∀ i y,hget objs i=some y→i < nx:=hlive
  have m0:=Jh (D:= [p,m,a,b]) (b:=p) (Qp.2 (by simp)) objs
  have m1:=Jh (D:= [p,m,a,b]) (b:=m) (Qp.2 (by simp)) objs
  have m3:=Jq (D:= [p,m,a,b]) hl (show nx≤nx by omega)
  have m4:=Jq (D:= [p,m,a,b]) hl (show nx≤nx+1 by omega)
  have m5:=Jq (D:= [p,m,a,b]) hl (show nx≤nx+2 by omega)
  simp only [mkW,List.all_cons,List.all_nil,m0,m1,m3,m4,m5]
  rfl
theorem sty_P:B2 Tryz.prog 35 1 8:=⟨⟨_,_,_,rfl,rfl,rfl,rfl,rfl,rfl⟩⟩
def ivR (l:List Nat):List VV:=l.map fun (i:Nat)=>iV i
theorem Ug (l:List Nat): ∀ v∈ivR l,Qd v:=Jf (fun _=>Qb _) l
theorem Cl (l:List Nat):(ivR l).length=l.length*1:=by unfold ivR;rw [List.length_map,Nat.mul_one]
theorem ivR_snoc (l:List Nat) (i:Nat):ivR (l++ [i])=ivR l++ [iV i]:=by unfold ivR;simp
def hV (h:Hnd):VV:= .ag [.ro h.params.length (ivR h.params),.ro h.code.length (Xn h.code)]
theorem hV_nl (h:Hnd):Qd (hV h):=Jz (fun v hv=>by
 simp only [List.mem_cons,List.not_mem_nil,or_false] at hv
 rcases hv with rfl|rfl
 ·exact Qx (Ug _)
 ·exact Qx (Yx _))
def parL:List Nd→List (List UInt8)→List Nat→List Nat×List (List UInt8)
 | [],ns,out=>(out,ns)
 | .mk _ tx _ _::r,ns,out=>parL r (Jp ns tx).2 (out++ [(Jp ns tx).1])
def handS (ps:List Nd) (b:Nd) (ns:List (List UInt8)) (cs:List Cst):MkS:=(Qv 10 0 [] 0 (stmtM b true ⟨(parL ps ns []).2,cs,[],0,0,0⟩)).2
def compL:List Nd→List (List UInt8)→List Cst→Bool→List Hnd→Nat ⊕ (List (List UInt8)×List Cst×List Hnd)
 | [],ns,cs,deep,out=>if deep then .inl 9 else .inr (ns,cs,out)
 | .mk _ tx _ ks::r,ns,cs,deep,out =>
  let m:=handS ks.dropLast (ks.getLastD nd0) ns cs
  if 8192 < m.l.length then .inl 3 else compL r m.names m.consts (deep || decide (128 < m.most)) (out++ [⟨tx,(parL ks.dropLast ns []).1,m.l⟩])
structure Pgm where
 names:List (List UInt8)
 consts:List Cst
 hs:List Hnd
 calls:List (List UInt8)
def El (n:Nd):Nat ⊕ Pgm :=
 let c:=Xg (walkN 0 n) ⟨[],[],[]⟩
 match n with
 | .mk _ _ _ ks=>if 32 < c.names.length then .inl 6 else match compL ks c.names c.consts false [] with
  | .inl e=> .inl e
  | .inr (ns,cs,hs)=> .inr ⟨ns,cs,hs,c.calls⟩
set_option maxHeartbeats 8000000
theorem one_iv (l:List Nat):(ivR l).all VV.one=true:=by unfold ivR;simp [iV,VV.one]
theorem one_ops: ∀ l:List Ins,(Xn l).all VV.one=true
 | []=>rfl
 | x::r=>by
  have ih:=one_ops r
  show (insC x++Xn r).all VV.one=true
  rw [List.all_append,ih]
  rfl
theorem velems_iv (x:List Nat) (H:Heap):Jv 1 (.ro x.length (ivR x)) H=some (x.length,ivR x):=by simp [Jv,Cl]
theorem velems_op (x:List Ins) (H:Heap):Jv 3 (.ro x.length (Xn x)) H=some (x.length,Xn x):=by simp [Jv,Zc]
theorem cloneI_call (x:List Nat) (hm:x.length≤1000000) (H:Heap):Qc Tryz.prog 55 [.ro x.length (ivR x)] H (fun v K=>v= .ro x.length (ivR x)∧K=H):=by
 refine Qc.frozen (Q:=fun v K=>Frz K v (.ro x.length (ivR x))) (by intro v hv;rw [List.mem_singleton] at hv;subst hv;exact Qx (Ug x)) ?_ (fun v K h=>h)
 by_cases hl:x.length=0
 ·have hl2:=List.eq_nil_of_length_eq_zero hl
  subst hl2
  refine Qc.go Tryz.func55 rfl ?_
  repeat' (first|with_reducible refine And.intro ?_ ?_|((with_reducible intro hc);(try simp only [zA,zB,zC,zD,zE,zF,zG,zH,zI,zJ,zK,zL,zM,zN,zO,zP,zQ,zR,zS,zT,zU,zV,zW] at hc);(first|exact absurd rfl hc|exact absurd trivial hc|(exfalso;omega)|skip))|((conv=>whnf);first|with_reducible refine And.intro ?_ ?_|refine Ji ?_ ?_|refine xA (by omega) ?_|(refine xB ?_;intro kw hk1 hk2)|refine xC (by omega) ?_|refine xD ?_|refine xE (by omega) ?_|refine xF (by omega) ?_|refine xG ?_|refine xH ?_|refine xI (by omega) ?_|refine xJ (by omega) ?_|(with_reducible refine Yq ?_)|refine Exists.intro _ (And.intro (by rfl) ?_)|refine GOp.via (by rfl) ?_|(with_reducible first|refine Qw ?_|refine Yn ?_|refine Yo ?_|refine X6 ?_|refine Ym ?_|refine Yp ?_|refine Yl ?_)))
  ·exact Qg.mk Frz.nil0
  ·exact Qg.mk (Frz.sl rfl (by simp) (by intro v hv;have hv:v∈([]:List VV):=hv;cases hv))
 ·refine Qc.go Tryz.func55 rfl ?_
  repeat' (first|with_reducible refine And.intro ?_ ?_|((with_reducible intro hc);(try simp only [zA,zB,zC,zD,zE,zF,zG,zH,zI,zJ,zK,zL,zM,zN,zO,zP,zQ,zR,zS,zT,zU,zV,zW] at hc);(first|exact absurd rfl hc|exact absurd trivial hc|(exfalso;omega)|skip))|((conv=>whnf);first|with_reducible refine And.intro ?_ ?_|refine Ji ?_ ?_|refine xA (by omega) ?_|(refine xB ?_;intro kw hk1 hk2)|refine xC (by omega) ?_|refine xD ?_|refine xE (by omega) ?_|refine xF (by omega) ?_|refine xG ?_|refine xH ?_|refine xI (by omega) ?_|refine xJ (by omega) ?_|(with_reducible refine Yq ?_)|refine Exists.intro _ (And.intro (by rfl) ?_)|refine GOp.via (by rfl) ?_|(with_reducible first|refine Qw ?_|refine Yn ?_|refine Yo ?_|refine X6 ?_|refine Ym ?_|refine Yp ?_|refine Yl ?_)))
  refine Qr.via ((Um sty_P (d:= .slice 3) Tryz.underlying35 (by intro k h;cases h) (b:=0) (o:=0) (n:=0) (c:=0) (z':=1) (vs:= []) (rw:=true) (m:=x.length) (l:=ivR x) (velems_iv x _) (one_iv x) rfl (by omega) (by omega) (by simp) (by omega) (by omega)).trans (by rw [Nat.zero_add])) ?_
  repeat' (first|with_reducible refine And.intro ?_ ?_|((with_reducible intro hc);(try simp only [zA,zB,zC,zD,zE,zF,zG,zH,zI,zJ,zK,zL,zM,zN,zO,zP,zQ,zR,zS,zT,zU,zV,zW] at hc);(first|exact absurd rfl hc|exact absurd trivial hc|(exfalso;omega)|skip))|((conv=>whnf);first|with_reducible refine And.intro ?_ ?_|refine Ji ?_ ?_|refine xA (by omega) ?_|(refine xB ?_;intro kw hk1 hk2)|refine xC (by omega) ?_|refine xD ?_|refine xE (by omega) ?_|refine xF (by omega) ?_|refine xG ?_|refine xH ?_|refine xI (by omega) ?_|refine xJ (by omega) ?_|(with_reducible refine Yq ?_)|refine Exists.intro _ (And.intro (by rfl) ?_)|refine GOp.via (by rfl) ?_|(with_reducible first|refine Qw ?_|refine Yn ?_|refine Yo ?_|refine X6 ?_|refine Ym ?_|refine Yp ?_|refine Yl ?_)))
  refine Qg.mk ?_
  have:=Frz.sl (K:=⟨[(1,.cells true (ivR x)),(0,.cells true [])],2⟩) (b:=1) (o:=0) (n:=x.length) (z:=1) (c:=none) rfl (by rw [Cl];omega) (Ug x)
  rw [List.drop_zero,List.take_of_length_le (by rw [Cl];omega)] at this
  exact this
theorem cloneP_call (x:List Ins) (hm:x.length≤1000000) (H:Heap):Qc Tryz.prog 56 [.ro x.length (Xn x)] H (fun v K=>v= .ro x.length (Xn x)∧K=H):=by
 refine Qc.frozen (Q:=fun v K=>Frz K v (.ro x.length (Xn x))) (by intro v hv;rw [List.mem_singleton] at hv;subst hv;exact Qx (Yx x)) ?_ (fun v K h=>h)
 by_cases hl:x.length=0
 ·have hl2:=List.eq_nil_of_length_eq_zero hl
  subst hl2
  refine Qc.go Tryz.func56 rfl ?_
  repeat' (first|with_reducible refine And.intro ?_ ?_|((with_reducible intro hc);(try simp only [zA,zB,zC,zD,zE,zF,zG,zH,zI,zJ,zK,zL,zM,zN,zO,zP,zQ,zR,zS,zT,zU,zV,zW] at hc);(first|exact absurd rfl hc|exact absurd trivial hc|(exfalso;omega)|skip))|((conv=>whnf);first|with_reducible refine And.intro ?_ ?_|refine Ji ?_ ?_|refine xA (by omega) ?_|(refine xB ?_;intro kw hk1 hk2)|refine xC (by omega) ?_|refine xD ?_|refine xE (by omega) ?_|refine xF (by omega) ?_|refine xG ?_|refine xH ?_|refine xI (by omega) ?_|refine xJ (by omega) ?_|(with_reducible refine Yq ?_)|refine Exists.intro _ (And.intro (by rfl) ?_)|refine GOp.via (by rfl) ?_|(with_reducible first|refine Qw ?_|refine Yn ?_|refine Yo ?_|refine X6 ?_|refine Ym ?_|refine Yp ?_|refine Yl ?_)))
  ·exact Qg.mk Frz.nil0
  ·exact Qg.mk (Frz.sl rfl (by simp) (by intro v hv;have hv:v∈([]:List VV):=hv;cases hv))
 ·refine Qc.go Tryz.func56 rfl ?_
  repeat' (first|with_reducible refine And.intro ?_ ?_|((with_reducible intro hc);(try simp only [zA,zB,zC,zD,zE,zF,zG,zH,zI,zJ,zK,zL,zM,zN,zO,zP,zQ,zR,zS,zT,zU,zV,zW] at hc);(first|exact absurd rfl hc|exact absurd trivial hc|(exfalso;omega)|skip))|((conv=>whnf);first|with_reducible refine And.intro ?_ ?_|refine Ji ?_ ?_|refine xA (by omega) ?_|(refine xB ?_;intro kw hk1 hk2)|refine xC (by omega) ?_|refine xD ?_|refine xE (by omega) ?_|refine xF (by omega) ?_|refine xG ?_|refine xH ?_|refine xI (by omega) ?_|refine xJ (by omega) ?_|(with_reducible refine Yq ?_)|refine Exists.intro _ (And.intro (by rfl) ?_)|refine GOp.via (by rfl) ?_|(with_reducible first|refine Qw ?_|refine Yn ?_|refine Yo ?_|refine X6 ?_|refine Ym ?_|refine Yp ?_|refine Yl ?_)))
  refine Qr.via ((Um sty_I (d:= .slice 41) Tryz.underlying36 (by intro k h;cases h) (b:=0) (o:=0) (n:=0) (c:=0) (z':=3) (vs:= []) (rw:=true) (m:=x.length) (l:=Xn x) (velems_op x _) (one_ops x) rfl (by omega) (by omega) (by simp) (by omega) (by omega)).trans (by rw [Nat.zero_add])) ?_
  repeat' (first|with_reducible refine And.intro ?_ ?_|((with_reducible intro hc);(try simp only [zA,zB,zC,zD,zE,zF,zG,zH,zI,zJ,zK,zL,zM,zN,zO,zP,zQ,zR,zS,zT,zU,zV,zW] at hc);(first|exact absurd rfl hc|exact absurd trivial hc|(exfalso;omega)|skip))|((conv=>whnf);first|with_reducible refine And.intro ?_ ?_|refine Ji ?_ ?_|refine xA (by omega) ?_|(refine xB ?_;intro kw hk1 hk2)|refine xC (by omega) ?_|refine xD ?_|refine xE (by omega) ?_|refine xF (by omega) ?_|refine xG ?_|refine xH ?_|refine xI (by omega) ?_|refine xJ (by omega) ?_|(with_reducible refine Yq ?_)|refine Exists.intro _ (And.intro (by rfl) ?_)|refine GOp.via (by rfl) ?_|(with_reducible first|refine Qw ?_|refine Yn ?_|refine Yo ?_|refine X6 ?_|refine Ym ?_|refine Yp ?_|refine Yl ?_)))
  refine Qg.mk ?_
  have:=Frz.sl (K:=⟨[(1,.cells true (Xn x)),(0,.cells true [])],2⟩) (b:=1) (o:=0) (n:=x.length) (z:=3) (c:=none) rfl (by rw [Zc];omega) (Yx x)
  rw [List.drop_zero,List.take_of_length_le (by rw [Zc];omega)] at this
  exact this
theorem twin_call (h:Hnd) (h1:h.params.length≤1000000) (h2:h.code.length≤1000000) (H:Heap):Qc Tryz.prog 35 [hV h] H (fun v K=>v=hV h∧K=H):=by
 refine Qc.pure (by intro v hv;rw [List.mem_singleton] at hv;subst hv;exact hV_nl h) (hV_nl h) ?_
 have k1:=fun H=>cloneI_call h.params h1 H
 have k2:=fun H=>cloneP_call h.code h2 H
 unfold hV
 refine Qc.go Tryz.func35 rfl ?_
 (repeat' (first|with_reducible refine And.intro ?_ ?_|(with_reducible intro hc;(try simp only [zz] at hc);try exact ct)|((conv=>whnf);first|(with_reducible first|refine And.intro ?_ ?_|intro hx|apply Val.via|apply Qk.via)|exact Is.mk rfl rfl|refine sp ?_|refine vx (by (first|exact Ql rfl rfl|exact Qa rfl rfl rfl|rfl)) ?_|refine dY ?_|(first|refine cl (k1 _) ?_|refine cl (k2 _) ?_)|refine sq ?_)))
 (all_goals try exact om)
 all_goals exact Qg.mk rfl
theorem X7 {vs:List VV} {l:List Nd} {i o op nm:Nat} {tx:List UInt8} {ks:List Nd} (he:vs=rowsN l) (h:l[i]? = some (.mk op tx nm ks)) (ho:o=i*4):vat Tryz.prog 63 vs o=some (.ag [iV op,Qn tx,iV nm,.ro ks.length (rowsN ks)]):=by
 subst he
 exact Qm h ho
theorem idxk {m n:Nat} (h:m=n+1):((m:Int) - 1).toNat*4=n*4:=by omega
theorem rowsN_take (xs:List Nd) (b:Nd):((rowsN (xs++ [b])).drop (0*4)).take (((((xs++ [b]).length:Int) - 1).toNat - 0)*4)=rowsN xs:=by
 have h:((((xs++ [b]).length:Int) - 1).toNat - 0)=xs.length:=by simp
 rw [h,Nat.zero_mul,List.drop_zero,X1,List.take_append_of_le_length (by rw [Jd];exact Nat.le_refl _),List.take_of_length_le (by rw [Jd];exact Nat.le_refl _)]
theorem coll_at (n:Nd) (hN:cntN n≤40000) (H:Heap) (g:H.get 2=some (.cells true [.sc (.slice none 0 0),.sc (.slice none 0 0),.mp 1,.sc (.slice none 0 0)])) (hn:H.next=3) :
  Qc Tryz.prog 42 [.ptr 2 0,nV n] H (fun v K=>v= .tp []∧K=⟨coO 2 1 3 4 (Xg (walkN 0 n) ⟨[],[],[]⟩).names (Xg (walkN 0 n) ⟨[],[],[]⟩).consts (roS (ofL ltS (Xg (walkN 0 n) ⟨[],[],[]⟩).calls))++Qs [2] H.objs,5⟩):=by
 refine Qc.live fun hlive=> ?_
 obtain ⟨objs,nx⟩:=H
 simp only at hn
 subst hn
 have h:=coll_call n hN
 generalize Xg (walkN 0 n) ⟨[],[],[]⟩=σ at *
 have hx:Qd (roS (ofL ltS σ.calls)):=Qx (Jf Qj _)
 generalize roS (ofL ltS σ.calls)=x at *
 have g2:(⟨Yr [2] objs,3⟩:Heap).get 2=(⟨objs,3⟩:Heap).get 2:=by
  show hget (Yr [2] objs) 2=hget objs 2
  rw [X4]
  rfl
 refine Qc.at (n1:=2) (O1:= [(0,.cells true [.sc (.slice none 0 0),.sc (.slice none 0 0),.mp 1,.sc (.slice none 0 0)])]) [2] [(2,0),(1,1)] rfl
  ⟨⟨_,g2.trans g,.cells (.cons (.of (Qb _)) (.cons (.of (Qb _)) (.cons (.mp (by decide)) (.cons (.of (Qb _)) .nil))))⟩,trivial⟩
  (.cons (.ptr (by decide)) (.cons (.of (Q0 n)) .nil)) h ?_
 rintro v K ⟨rfl,rfl⟩
 have e0:Jm [(2,0),(1,1)] 2 3 (4 - 2)= [(3,4),(2,3),(0,2),(1,1)]:=rfl
 refine ⟨.tp [],coO 2 1 3 4 σ.names σ.consts x,⟨rfl,.of (Qt (by simp)),?_⟩,?_,rfl,rfl⟩
 ·show W1 (Jm _ 2 3 (4 - 2)) 0 ⟨coO 0 1 2 3 σ.names σ.consts x,4⟩ _
  rw [e0]
  exact ⟨⟨_,rfl,Eo hx (by decide) (by decide) (by decide)⟩,⟨_,rfl,.opt (Qe.of (Jb _))⟩,⟨_,rfl,.opt (Qe.of (Jg _))⟩,trivial⟩
 ·have hl: ∀ b x,hget objs b=some x→b < 3:=hlive
  simp only [coO,List.all_cons,List.all_nil,Jh (D:= [2]) (b:=2) rfl,Jq (D:= [2]) hl (show 3≤3 by omega),Jq (D:= [2]) hl (show 3≤4 by omega)]
  rfl
theorem ag2a_view {H:Heap} {c:VV} {nm n z:Nat} {vs:List VV} (hg:H.get nm=some (.opt vs)) (hl:vs.length=n*z): ∀ B M Z ρ w y,Rel B M Z ρ H w→Qf w Z ρ (.ag [.gs nm n z,c]) y→Qf w Z ρ (.ag [.ro n vs,c]) y∨ ∃ k N,ρ nm=some (k,N)∧Qf w (fun j=>Z j∨j=k) ρ (.ag [.ro n vs,c]) y:=by
 intro B M Z ρ w y hr hv
 cases hv with
 | @ag _ cs h1 r1 =>
  obtain ⟨cs⟩:=cs
  match cs,h1 with
  | [p,q],_ =>
   have h0:=r1 0 _ _ rfl rfl
   have h2:=r1 1 _ _ rfl rfl
   rcases gs_view hg hl B M Z ρ w p hr h0 with h|⟨k,N,hk,h⟩
   ·exact .inl (Qf.ag' (Pw.cons h (Pw.cons h2 Pw.nil)))
   ·exact .inr ⟨k,N,hk,Qf.ag' (Pw.cons h (Pw.cons (h2.zmono fun _ h=> .inl h) Pw.nil))⟩
theorem ag2b_view {H:Heap} {c:VV} {nm n z:Nat} {vs:List VV} (hg:H.get nm=some (.opt vs)) (hl:vs.length=n*z): ∀ B M Z ρ w y,Rel B M Z ρ H w→Qf w Z ρ (.ag [c,.gs nm n z]) y→Qf w Z ρ (.ag [c,.ro n vs]) y∨ ∃ k N,ρ nm=some (k,N)∧Qf w (fun j=>Z j∨j=k) ρ (.ag [c,.ro n vs]) y:=by
 intro B M Z ρ w y hr hv
 cases hv with
 | @ag _ cs h1 r1 =>
  obtain ⟨cs⟩:=cs
  match cs,h1 with
  | [p,q],_ =>
   have h0:=r1 0 _ _ rfl rfl
   have h2:=r1 1 _ _ rfl rfl
   rcases gs_view hg hl B M Z ρ w q hr h2 with h|⟨k,N,hk,h⟩
   ·exact .inl (Qf.ag' (Pw.cons h0 (Pw.cons h Pw.nil)))
   ·exact .inr ⟨k,N,hk,Qf.ag' (Pw.cons (h0.zmono fun _ h=> .inl h) (Pw.cons h Pw.nil))⟩
theorem Qr.frz2a {o:Oper} {ts:List VV} {H:Heap} {K:VV→Heap→Prop} {c:VV} {nm n z:Nat} {vs:List VV} (i:Nat) (hi:ts[i]? = some (.ag [.gs nm n z,c])) (hg:H.get nm=some (.opt vs)) (hl:vs.length=n*z) (h:Qr Tryz.prog o (ts.set i (.ag [.ro n vs,c])) (H.del nm) K):Qr Tryz.prog o ts H K:=frz_op i hi hg rfl (ag2a_view hg hl) h
theorem Qr.frz2b {o:Oper} {ts:List VV} {H:Heap} {K:VV→Heap→Prop} {c:VV} {nm n z:Nat} {vs:List VV} (i:Nat) (hi:ts[i]? = some (.ag [c,.gs nm n z])) (hg:H.get nm=some (.opt vs)) (hl:vs.length=n*z) (h:Qr Tryz.prog o (ts.set i (.ag [c,.ro n vs])) (H.del nm) K):Qr Tryz.prog o ts H K:=frz_op i hi hg rfl (ag2b_view hg hl) h
theorem mfind_none (tx:List UInt8): ∀ (seen:List (List UInt8)) (vs:List VV) (i:Nat),vs.length=seen.length→seen.contains tx=false→W9 .string (strK tx) (seen.map strK) vs i=some none
 | [],[],i,_,_=>rfl
 | y::r,v::s,i,hl,hn=>by
  have hk:keyEq .string (strK tx) (strK y)=some (tx==y):=rfl
  simp only [List.contains_cons,Bool.or_eq_false_iff] at hn
  simp only [List.map_cons,W9,hk,hn.1]
  exact mfind_none tx r s (i+1) (by simpa using hl) hn.2
 | [],_::_,_,h,_=>by simp at h
 | _::_,[],_,h,_=>by simp at h
theorem Qr.mupdH {o:Oper} {ts:List VV} {H:Heap} {K:VV→Heap→Prop} {seen:List (List UInt8)} {vs:List VV} {tx:List UInt8} {v:VV} {b i j l:Nat} (ho:o.op= .mapUpdate 97 (.tmp i) (.tmp j) (.tmp l)) (h1:Qh ts (.tmp i)= .mp b) (h2:Qh ts (.tmp j)=Qn tx) (h3:Qh ts (.tmp l)=v) (hg:H.get b=some (.map (seen.map strK) vs)) (hl:vs.length=seen.length) (hn:seen.contains tx=false) (k:K (.tp []) (H.set b (.map (seen.map strK++ [strK tx]) (vs++ [v])))):Qr Tryz.prog o ts H K:=by
 refine Qr.via (v:= .tp []) (H':=H.set b (.map (seen.map strK++ [strK tx]) (vs++ [v]))) ?_ k
 have hm:=mfind_none tx seen vs 0 hl hn
 obtain ⟨kt,e,u1,u2⟩: ∃ kt e,(Tryz.prog).underlying 97=some (.map kt e)∧(Tryz.prog).underlying kt=some .string:=⟨_,_,rfl,rfl⟩
 have hs:Qn tx= .sc (strK tx):=rfl
 have hk:isKeyB .string (strK tx)=true:=rfl
 simp only [vop,ho,h1,h2,h3,B4,u1,u2,hs,hk,hg,hm]
def HOk (h:Nd):Prop:= ∃ (op nm:Nat) (x:List UInt8) (xs:List Nd) (b:Nd),h= .mk op x nm (xs++ [b])∧ShS 1 b
theorem Bn: ∀ (l:List Nd) (ns:List (List UInt8)) (out:List Nat),(parL l ns out).1.length=out.length+l.length∧(parL l ns out).2.length≤ns.length+l.length∧ns.length≤(parL l ns out).2.length
 | [],ns,out=>by simp [parL]
 | .mk _ tx _ _::r,ns,out=>by
  obtain ⟨h1,h2,h3⟩:=Bn r (Jp ns tx).2 (out++ [(Jp ns tx).1])
  obtain ⟨p1,p2,p3,p4⟩:=Z8 ns tx
  rw [parL]
  rw [List.length_append,List.length_singleton] at h1
  simp only [List.length_cons]
  omega
end Go.Proofs.YtpbiblhkcomekaaGreat
