import Derived.Test.YtpbiblhkcomekaaGreatBE5
import Derived.Test.YtpbiblhkcomekaaGreatBA2
import Derived.Test.YtpbiblhkcomekaaGreatBA3
import Derived.Test.YtpbiblhkcomekaaGreatBQ1
/- A tree's walk with a yield that tells of variables, constants and calls: over any round's contract. -/
namespace Go.Proofs.YtpbiblhkcomekaaGreat
open Go Go.RowKit
set_option linter.unusedSimpArgs false
set_option linter.unusedVariables false
set_option maxRecDepth 100000
set_option maxHeartbeats 8000000
structure CoS where
 names:List (List UInt8)
 consts:List Cst
 calls:List (List UInt8)
def collOne:Nd→CoS→CoS
 | .mk op tx nm ks,s=>⟨if op=11∨op=3 then (Jp s.names tx).2 else s.names,(match cstN (.mk op tx nm ks) with
  | some c=>(Jp s.consts c).2
  | none=>s.consts),if op=12 then s.calls++ [tx] else s.calls⟩
def Xg (l:List (Nat×Nd)) (s:CoS):CoS:=l.foldl (fun s p=>collOne p.2 s) s
structure Bc (s:CoS) (k:Nat):Prop where
 names:s.names.length≤k
 consts:s.consts.length≤k
 calls:s.calls.length≤k
theorem Bc.one {s:CoS} {k:Nat} (h:Bc s k) (n:Nd):Bc (collOne n s) (k+1):=by
 obtain ⟨h1,h2,h3⟩:=h
 obtain ⟨op,tx,nm,ks⟩:=n
 refine ⟨?_,?_,?_⟩ <;> simp only [collOne]
 ·split
  ·have:=(Z8 s.names tx).2.1
   omega
  ·omega
 ·split
  ·rename_i c _
   have:=(Z8 s.consts c).2.1
   omega
  ·omega
 ·split
  ·rw [List.length_append,List.length_singleton]
   omega
  ·omega
def cwO (a b c:Nat) (s:CoS) (lo:VObj):List (Nat×VObj) :=
 [(0,.cells true [.gs a s.names.length 1,.gs b s.consts.length 3,.mp 1,.sc (.slice none 0 0)]),(2,.cells true [.ptr 0 0]),(4,.cells true [.gs c s.calls.length 1]),(5,.defs),(6,lo),(a,.opt (nmR s.names)),(b,.opt (Yy s.consts)),(c,.opt (nmR s.calls))]
def loC (ps:List Tmp) (asg bd:Code):VObj:= .loop [.junk,.junk,.ptr 2 0,.junk,.ptr 4 0,.junk,.junk,.junk,.junk,.junk,.junk,.junk,.junk,.junk,.junk,.junk,.junk,.junk,.junk,.junk,.junk,.junk,.junk,.junk,.junk,.junk,.junk,.junk,.junk,.junk,.junk,.junk,.junk,.junk,.junk,.junk,.junk,.junk,.junk,.junk,.junk,.junk,.junk,.junk,.junk,.junk,.junk] ps asg bd .ready none 5
def CwC (ps:List Tmp) (asg bd:Code) (n:Nd) (d:Nat) (s s':CoS):Prop :=
 Qc Tryz.prog 111 [nV n,iV d,.yl 6] ⟨cwO 7 8 9 s (loC ps asg bd),10⟩ (fun v K=>v=Xk true∧K=⟨cwO 10 11 12 s' (loC ps asg bd),13⟩)
def CyC (ps:List Tmp) (asg bd:Code):Prop:= ∀ (n:Nd) (d:Nat) (s:CoS),Bc s 100000 →
 J9 Tryz.prog 6 [iV d,nV n] ⟨(10,.cells true (cellsN n))::cwO 7 8 9 s (loC ps asg bd),11⟩ (fun v K=>v=Xk true∧K=⟨(10,.cells true (cellsN n))::cwO 11 12 13 (collOne n s) (loC ps asg bd),14⟩)
theorem loC_ren {R:List (Nat×Nat)} (ps:List Tmp) (asg bd:Code) (h2:(2,2)∈R) (h4:(4,4)∈R) (h5:(5,5)∈R):Jx R 0 (loC ps asg bd) (loC ps asg bd):=by
 refine .loop ?_ (.inr h5)
 repeat' (first|exact Qe.nil|exact Qi.junk|exact Qi.ptr h2|exact Qi.ptr h4|refine Qe.cons ?_ ?_)
theorem Ej {R:List (Nat×Nat)} {a b a' b' n k:Nat} (ha:(a,a')∈R) (hb:(b,b')∈R) (h1:(1,1)∈R):Jx R 0 (.cells true [.gs a n 1,.gs b k 3,.mp 1,.sc (.slice none 0 0)]) (.cells true [.gs a' n 1,.gs b' k 3,.mp 1,.sc (.slice none 0 0)]):= .cells (.cons (.gs ha) (.cons (.gs hb) (.cons (.mp h1) (.cons (.of (Qb _)) .nil))))
theorem Ek {R:List (Nat×Nat)} {c c' n:Nat} (hc:(c,c')∈R):Jx R 0 (.cells true [.gs c n 1]) (.cells true [.gs c' n 1]):= .cells (.cons (.gs hc) .nil)
theorem cw_args {R:List (Nat×Nat)} (n:Nd) (d:Nat) (h:(6,6)∈R):Qe R 0 [nV n,iV d,.yl 6] [nV n,iV d,.yl 6]:= .cons (.of (Q0 n)) (.cons (.of (Qb _)) (.cons (.yl h) .nil))
structure Nm7 (a b c n:Nat):Prop where
 h:7≤a∧7≤b∧7≤c∧a≠b∧a≠c∧b≠c∧a < n∧b < n∧c < n
theorem CwC.at {ps:List Tmp} {asg bd:Code} {n:Nd} {d:Nat} {s s':CoS} (h:CwC ps asg bd n d s s') (H:Heap) (a b c k:Nat)
  (g0:H.get 0=some (.cells true [.gs a s.names.length 1,.gs b s.consts.length 3,.mp 1,.sc (.slice none 0 0)])) (g2:H.get 2=some (.cells true [.ptr 0 0])) (g4:H.get 4=some (.cells true [.gs c s.calls.length 1])) (g5:H.get 5=some .defs) (g6:H.get 6=some (loC ps asg bd)) (ga:H.get a=some (.opt (nmR s.names))) (gb:H.get b=some (.opt (Yy s.consts))) (gc:H.get c=some (.opt (nmR s.calls))) (hn:H.next=k) (hb:Nm7 a b c k) :
  Qc Tryz.prog 111 [nV n,iV d,.yl 6] H (fun v K=>v=Xk true∧K=⟨cwO k (k+1) (k+2) s' (loC ps asg bd)++Qs [0,2,4,5,6,a,b,c] H.objs,k+3⟩):=by
 refine Qc.live fun hlive=> ?_
 obtain ⟨objs,nx⟩:=H
 simp only at hn
 subst hn
 obtain ⟨p1,p2,p3,p4,p5,p6,p7,p8,p9⟩:=hb.h
 have g: ∀ i:Nat,Jl i [0,2,4,5,6,a,b,c]=true→(⟨Yr [0,2,4,5,6,a,b,c] objs,nx⟩:Heap).get i=(⟨objs,nx⟩:Heap).get i:=fun i hi=>by
  show hget (Yr [0,2,4,5,6,a,b,c] objs) i=hget objs i
  rw [X4,hi]
 refine Qc.at (n1:=10) (O1:=cwO 7 8 9 s (loC ps asg bd)) [0,2,4,5,6,a,b,c] [(0,0),(1,1),(2,2),(4,4),(5,5),(6,6),(a,7),(b,8),(c,9)] ?_
  ⟨⟨_,(g 0 (Qp.2 (by simp))).trans g0,Ej (by simp) (by simp) (by simp)⟩,⟨_,(g 2 (Qp.2 (by simp))).trans g2,.cells (.cons (.ptr (by simp)) .nil)⟩,⟨_,(g 4 (Qp.2 (by simp))).trans g4,Ek (by simp)⟩,⟨_,(g 5 (Qp.2 (by simp))).trans g5,.defs⟩,⟨_,(g 6 (Qp.2 (by simp))).trans g6,loC_ren ps asg bd (by simp) (by simp) (by simp)⟩,⟨_,(g a (Qp.2 (by simp))).trans ga,.opt (Qe.of (Jb _))⟩,⟨_,(g b (Qp.2 (by simp))).trans gb,.opt (Qe.of (Jg _))⟩,⟨_,(g c (Qp.2 (by simp))).trans gc,.opt (Qe.of (Jb _))⟩,trivial⟩
  (cw_args n d (by simp)) h ?_
 ·show (wfR 0 10 [(0,0),(1,1),(2,2),(4,4),(5,5),(6,6),(a,7),(b,8),(c,9)]&&nodupB [0,2,4,5,6,a,b,c]&&_)=true
  rw [Wg (by simp;omega)]
  rfl
 rintro v K ⟨rfl,rfl⟩
 have e0:Jm [(0,0),(1,1),(2,2),(4,4),(5,5),(6,6),(a,7),(b,8),(c,9)] 10 nx (13 - 10)= [(12,nx+2),(11,nx+1),(10,nx),(0,0),(1,1),(2,2),(4,4),(5,5),(6,6),(7,a),(8,b),(9,c)]:=rfl
 have hw:wfR 0 (nx+3) [(12,nx+2),(11,nx+1),(10,nx),(0,0),(1,1),(2,2),(4,4),(5,5),(6,6),(7,a),(8,b),(9,c)]=true:=by
  refine C1 ?_ ?_
  ·simp only [List.mem_cons,List.not_mem_nil,or_false,forall_eq_or_imp,forall_eq]
   omega
  ·simp only [List.map_cons,List.map_nil,List.nodup_cons,List.mem_cons,List.not_mem_nil,or_false,not_false_eq_true,List.nodup_nil,and_true,not_or]
   omega
 have sr: ∀ i j:Nat,(i,j)∈ [(12,nx+2),(11,nx+1),(10,nx),(0,0),(1,1),(2,2),(4,4),(5,5),(6,6),(7,a),(8,b),(9,c)]→srcN [(12,nx+2),(11,nx+1),(10,nx),(0,0),(1,1),(2,2),(4,4),(5,5),(6,6),(7,a),(8,b),(9,c)] j=some i:=fun i j hj=>(Xe hw (i,j) hj).2.2
 have t0:=sr 0 0 (by simp)
 have t2:=sr 2 2 (by simp)
 have t4:=sr 4 4 (by simp)
 have t5:=sr 5 5 (by simp)
 have t6:=sr 6 6 (by simp)
 have ta:=sr 10 nx (by simp)
 have tb:=sr 11 (nx+1) (by simp)
 have tc:=sr 12 (nx+2) (by simp)
 refine ⟨Xk true,cwO nx (nx+1) (nx+2) s' (loC ps asg bd),⟨?_,.of (Qb _),?_⟩,?_,rfl,rfl⟩
 ·show (wfR 0 (nx+3) (Jm _ 10 nx (13 - 10))&&nodupB (Zy (Jm _ 10 nx (13 - 10)) 0 (cwO nx (nx+1) (nx+2) s' (loC ps asg bd)))&&(cwO nx (nx+1) (nx+2) s' (loC ps asg bd)).all (fun p=>(srcN (Jm _ 10 nx (13 - 10)) p.1).isSome)&&_)=true
  rw [e0,hw]
  simp only [cwO,Zy,Q7,t0,t2,t4,t5,t6,ta,tb,tc,List.all_cons,List.all_nil]
  rfl
 ·show W1 (Jm _ 10 nx (13 - 10)) 0 ⟨cwO 10 11 12 s' (loC ps asg bd),13⟩ _
  rw [e0]
  refine ⟨?_,?_,?_,?_,?_,?_,?_,?_,trivial⟩
  ·rw [Q7,t0];exact ⟨_,rfl,Ej (by simp) (by simp) (by simp)⟩
  ·rw [Q7,t2];exact ⟨_,rfl,.cells (.cons (.ptr (by simp)) .nil)⟩
  ·rw [Q7,t4];exact ⟨_,rfl,Ek (by simp)⟩
  ·rw [Q7,t5];exact ⟨_,rfl,.defs⟩
  ·rw [Q7,t6];exact ⟨_,rfl,loC_ren ps asg bd (by simp) (by simp) (by simp)⟩
  ·rw [Q7,ta];exact ⟨_,rfl,.opt (Qe.of (Jb _))⟩
  ·rw [Q7,tb];exact ⟨_,rfl,.opt (Qe.of (Jg _))⟩
  ·rw [Q7,tc];exact ⟨_,rfl,.opt (Qe.of (Jb _))⟩
 ·have hl: ∀ i y,hget objs i=some y→i < nx:=hlive
  have m0:=Jh (D:= [0,2,4,5,6,a,b,c]) (b:=0) (Qp.2 (by simp)) objs
  have m2:=Jh (D:= [0,2,4,5,6,a,b,c]) (b:=2) (Qp.2 (by simp)) objs
  have m4:=Jh (D:= [0,2,4,5,6,a,b,c]) (b:=4) (Qp.2 (by simp)) objs
  have m5:=Jh (D:= [0,2,4,5,6,a,b,c]) (b:=5) (Qp.2 (by simp)) objs
  have m6:=Jh (D:= [0,2,4,5,6,a,b,c]) (b:=6) (Qp.2 (by simp)) objs
  have ma:=Jq (D:= [0,2,4,5,6,a,b,c]) hl (show nx≤nx by omega)
  have mb:=Jq (D:= [0,2,4,5,6,a,b,c]) hl (show nx≤nx+1 by omega)
  have mc:=Jq (D:= [0,2,4,5,6,a,b,c]) hl (show nx≤nx+2 by omega)
  simp only [cwO,List.all_cons,List.all_nil,m0,m2,m4,m5,m6,ma,mb,mc]
  rfl
theorem CwC.at0 {ps:List Tmp} {asg bd:Code} {n:Nd} {s':CoS} {ts:List VV} (h:CwC ps asg bd n 0 ⟨[],[],[]⟩ s') (H:Heap)
  (g0:H.get 0=some (.cells true [.sc (.slice none 0 0),.sc (.slice none 0 0),.mp 1,.sc (.slice none 0 0)])) (g2:H.get 2=some (.cells true [.ptr 0 0])) (g4:H.get 4=some (.cells true [.sc (.slice none 0 0)])) (g5:H.get 5=some .defs) (g6:H.get 6=some (.loop ts ps asg bd .ready none 5)) (hts:Qe [(0,0),(1,1),(2,2),(4,4),(5,5),(6,6)] 0 ts [.junk,.junk,.ptr 2 0,.junk,.ptr 4 0,.junk,.junk,.junk,.junk,.junk,.junk,.junk,.junk,.junk,.junk,.junk,.junk,.junk,.junk,.junk,.junk,.junk,.junk,.junk,.junk,.junk,.junk,.junk,.junk,.junk,.junk,.junk,.junk,.junk,.junk,.junk,.junk,.junk,.junk,.junk,.junk,.junk,.junk,.junk,.junk,.junk,.junk]) (hn:H.next=7) :
  Qc Tryz.prog 111 [nV n,iV 0,.yl 6] H (fun v K=>v=Xk true∧K=⟨cwO 7 8 9 s' (loC ps asg bd)++Qs [0,2,4,5,6] H.objs,10⟩):=by
 refine Qc.live fun hlive=> ?_
 obtain ⟨objs,nx⟩:=H
 simp only at hn
 subst hn
 have g: ∀ i:Nat,Jl i [0,2,4,5,6]=true→(⟨Yr [0,2,4,5,6] objs,7⟩:Heap).get i=(⟨objs,7⟩:Heap).get i:=fun i hi=>by
  show hget (Yr [0,2,4,5,6] objs) i=hget objs i
  rw [X4,hi]
 refine Qc.at (n1:=10) (O1:=cwO 7 8 9 ⟨[],[],[]⟩ (loC ps asg bd)) [0,2,4,5,6] [(0,0),(1,1),(2,2),(4,4),(5,5),(6,6)] rfl
  ⟨⟨_,(g 0 rfl).trans g0,.cells (.cons .gsN (.cons .gsN (.cons (.mp (by decide)) (.cons (.of (Qb _)) .nil))))⟩,⟨_,(g 2 rfl).trans g2,.cells (.cons (.ptr (by decide)) .nil)⟩,⟨_,(g 4 rfl).trans g4,.cells (.cons .gsN .nil)⟩,⟨_,(g 5 rfl).trans g5,.defs⟩,⟨_,(g 6 rfl).trans g6,.loop hts (.inr (by decide))⟩,rfl,rfl,rfl,trivial⟩
  (cw_args n 0 (by decide)) h ?_
 rintro v K ⟨rfl,rfl⟩
 have e0:Jm [(0,0),(1,1),(2,2),(4,4),(5,5),(6,6)] 10 7 (13 - 10)= [(12,9),(11,8),(10,7),(0,0),(1,1),(2,2),(4,4),(5,5),(6,6)]:=rfl
 refine ⟨Xk true,cwO 7 8 9 s' (loC ps asg bd),⟨rfl,.of (Qb _),?_⟩,?_,rfl,rfl⟩
 ·show W1 (Jm _ 10 7 (13 - 10)) 0 ⟨cwO 10 11 12 s' (loC ps asg bd),13⟩ _
  rw [e0]
  exact ⟨⟨_,rfl,Ej (by decide) (by decide) (by decide)⟩,⟨_,rfl,.cells (.cons (.ptr (by decide)) .nil)⟩,⟨_,rfl,Ek (by decide)⟩,⟨_,rfl,.defs⟩,⟨_,rfl,loC_ren ps asg bd (by decide) (by decide) (by decide)⟩,⟨_,rfl,.opt (Qe.of (Jb _))⟩,⟨_,rfl,.opt (Qe.of (Jg _))⟩,⟨_,rfl,.opt (Qe.of (Jb _))⟩,trivial⟩
 have hl: ∀ b x,hget objs b=some x→b < 7:=hlive
 simp only [cwO,List.all_cons,List.all_nil,Jh (D:= [0,2,4,5,6]) (b:=0) rfl,Jh (D:= [0,2,4,5,6]) (b:=2) rfl,Jh (D:= [0,2,4,5,6]) (b:=4) rfl,Jh (D:= [0,2,4,5,6]) (b:=5) rfl,Jh (D:= [0,2,4,5,6]) (b:=6) rfl,Jq (D:= [0,2,4,5,6]) hl (show 7≤7 by omega),Jq (D:= [0,2,4,5,6]) hl (show 7≤8 by omega),Jq (D:= [0,2,4,5,6]) hl (show 7≤9 by omega)]
 rfl
theorem CwC.of {ps:List Tmp} {asg bd:Code} {n:Nd} {d:Nat} {s s':CoS} (h:Qc Tryz.prog 111 [nV n,iV d,.yl 6] ⟨cwO 7 8 9 s (loC ps asg bd),10⟩ (fun v K=>v=Xk true∧ ∃ a b c,nodupB [0,2,4,5,6,a,b,c]=true∧Gets K (cwO a b c s' (loC ps asg bd)))):CwC ps asg bd n d s s':=by
 refine Qc.fin (h.mono ?_)
 rintro v K ⟨rfl,a,b,c,hd,hg⟩
 refine ⟨[(0,0),(1,1),(2,2),(4,4),(5,5),(6,6),(a,10),(b,11),(c,12)],Xk true,cwO 10 11 12 s' (loC ps asg bd),13,?_,rfl,rfl,.of (Qb _),?_,rfl,rfl⟩
 ·show (wfR 0 13 [(0,0),(1,1),(2,2),(4,4),(5,5),(6,6),(a,10),(b,11),(c,12)]&&nodupB [0,2,4,5,6,a,b,c]&&_&&_)=true
  rw [hd]
  rfl
 ·obtain ⟨h0,h2,h4,h5,h6,ha,hb,hc,_⟩:=hg
  exact ⟨⟨_,h0,Ej (by simp) (by simp) (by simp)⟩,⟨_,h2,.cells (.cons (.ptr (by simp)) .nil)⟩,⟨_,h4,Ek (by simp)⟩,⟨_,h5,.defs⟩,⟨_,h6,loC_ren ps asg bd (by simp) (by simp) (by simp)⟩,⟨_,ha,.opt (Qe.of (Jb _))⟩,⟨_,hb,.opt (Qe.of (Jg _))⟩,⟨_,hc,.opt (Qe.of (Jb _))⟩,trivial⟩
theorem collAll_nil (s:CoS):Xg [] s=s:=rfl
theorem Em (p:Nat×Nd) (l:List (Nat×Nd)) (s:CoS):Xg (p::l) s=Xg l (collOne p.2 s):=rfl
theorem collAll_app (a b:List (Nat×Nd)) (s:CoS):Xg (a++b) s=Xg b (Xg a s):=by unfold Xg;rw [List.foldl_append]
theorem Bc.all: ∀ (l:List (Nat×Nd)) {s:CoS} {k:Nat},Bc s k→Bc (Xg l s) (k+l.length)
 | [],s,k,h=>h
 | p::l,s,k,h=>by
  have:=Bc.all l (h.one p.2)
  rw [Em,List.length_cons]
  exact ⟨by have:=this.names;omega,by have:=this.consts;omega,by have:=this.calls;omega⟩
theorem cr {P:Program} {l:Nat} {args:List VV} {H:Heap} {Q:VV→Heap→Prop} {u:VV} {K0:Heap} (h:J9 P l args H (fun v K=>v=u∧K=K0)) (k:Q u K0):GRound' P l args H Q:=GRound'.mk (h.mono (by rintro v K ⟨rfl,rfl⟩;exact k))
theorem walk_of {ps:List Tmp} {asg bd:Code} (hy:CyC ps asg bd): ∀ f,∀ n d s k,cntN n≤f→Bc s k→k+cntN n≤50000→d+cntN n≤100000→CwC ps asg bd n d s (Xg (walkN d n) s):=by
 have key: ∀ lo:VObj,lo=loC ps asg bd→ ∀ f,∀ n d s k,cntN n≤f→Bc s k→k+cntN n≤50000→d+cntN n≤100000→CwC ps asg bd n d s (Xg (walkN d n) s):=by
  intro lo hlo f
  induction f with
  | zero =>
   intro n d s k h1
   have:=Xj n
   omega
  | succ f ih =>
   intro n d s k h1 h2 h3 h4
   obtain ⟨op,tx,nm,ks⟩:=n
   have hyn:=hy (.mk op tx nm ks) d s ⟨by have:=h2.names;omega,by have:=h2.consts;omega,by have:=h2.calls;omega⟩
   have hb1:=h2.one (.mk op tx nm ks)
   rw [cntN] at h1 h3 h4
   have hlen:=X2 ks
   refine CwC.of ?_
   rw [walkN,Em]
   simp only
   generalize collOne (.mk op tx nm ks) s=s1 at *
   rw [nV,cellsN] at hyn
   rw [nV,cellsN]
   rw [← hlo] at hyn ⊢
   have hk:True:=trivial
   refine Qc.go Tryz.func111 rfl ?_
   (repeat' (first|with_reducible refine And.intro ?_ ?_|(with_reducible intro hc;(try simp only [zz] at hc);try exact ct)|((conv=>whnf);first|(with_reducible first|refine And.intro ?_ ?_|intro hx|apply Val.via|apply Qk.via)|exact Is.mk rfl rfl|refine sp ?_|refine vx (by (first|exact Ql rfl rfl|exact Qm hk rfl|exact Qa rfl rfl rfl|rfl)) ?_|fail|refine sq ?_)))
   (all_goals try exact om)
   refine cr hyn ?_
   (repeat' (first|with_reducible refine And.intro ?_ ?_|(with_reducible intro hc;(try simp only [zz] at hc);try exact ct)|((conv=>whnf);first|(with_reducible first|refine And.intro ?_ ?_|intro hx|apply Val.via|apply Qk.via)|exact Is.mk rfl rfl|refine sp ?_|refine vx (by (first|exact Ql rfl rfl|exact Qm hk rfl|exact Qa rfl rfl rfl|rfl)) ?_|fail|refine sq ?_)))
   (all_goals try exact om)
   (refine Ju.mk (GWP.loopB [0,2,4,5,6,11,12,13] (fun (x:Nat×CoS×Nat)=>x.1≤ks.length∧Bc x.2.1 x.2.2∧x.2.2+cntL (ks.drop x.1)≤k+1+cntL ks∧Xg (walkL (d+1) (ks.drop x.1)) x.2.1=Xg (walkL (d+1) ks) s1) (fun x=> [(17,iV x.1)]) (fun x=>cwO 14 15 16 x.2.1 lo) 17 (fun x=>ks.length - x.1) (0,s1,k+1) ⟨Nat.zero_le _,hb1,Nat.le_refl _,rfl⟩ ?_);(conv=>whnf);refine And.intro ?_ ?_)
   ·focus (refine ka [(11,14),(12,15),(13,16)] ?_ ?_;all_goals (repeat' (first|exact rz|refine And.intro ?_ ?_|refine Exists.intro _ (And.intro rfl ?_)|refine ro ?_|refine Qe.cons ?_ ?_|(first|(rw [hlo];exact Jx.loop (by repeat' (first|exact Qe.nil|exact Qi.junk|exact Qi.ptrL (Nat.le_of_ble_eq_true rfl)|refine Qe.cons ?_ ?_)) (.inl ⟨Nat.le_of_ble_eq_true rfl,rfl⟩))|exact Qi.mpL (Nat.le_of_ble_eq_true rfl)|exact Qi.ptrL (Nat.le_of_ble_eq_true rfl)|exact Qi.eq (Q9 (by omega)) (Qb _)|exact Qe.of (Jb _)|exact Qe.of (Jg _))|exact rv)))
   rintro ⟨i,st,j⟩ ⟨g1,g0,g2,g3⟩
   simp only at g1 g0 g2 g3 ⊢
   by_cases hil:i < ks.length
   ·clear hk
    obtain ⟨kd,hk⟩:=Z4 hil
    have hq:cntL (ks.drop i)≤cntL ks:=U3 ks i
    rw [Ky hk,cntL] at g2 hq
    rw [Ky hk,walkL,collAll_app] at g3
    have kc:=(ih kd (d+1) st j (by omega) g0 (by omega) (by omega)).at
    have hb:=Bc.all (walkN (d+1) kd) g0
    have hwl:=Uk (d+1) kd
    rw [hwl] at hb
    generalize hqq:cntN kd=q at *
    generalize Xg (walkN (d+1) kd) st=st2 at *
    rw [← hlo] at kc
    obtain ⟨op2,tx2,nm2,kk2⟩:=kd
    simp only [nV,cellsN] at kc
    (repeat' (first|with_reducible refine And.intro ?_ ?_|(with_reducible intro hc;(try simp only [zz] at hc);try exact ct)|((conv=>whnf);first|(with_reducible first|refine And.intro ?_ ?_|intro hx|apply Val.via|apply Qk.via)|exact Is.mk rfl rfl|refine sp ?_|refine vx (by (first|exact Ql rfl rfl|exact Qm hk rfl|exact Qa rfl rfl rfl|rfl)) ?_|refine dY ?_|refine cl (kc _ 14 15 16 18 rfl rfl rfl rfl rfl rfl rfl rfl rfl (Nm7.mk (by decide))) ?_|refine sq ?_)))
    (all_goals try exact om)
    focus (refine Qg.mk ⟨(i+1,st2,j+q),⟨by omega,hb,by simp only;omega,g3⟩,?_,ka [(18,14),(19,15),(20,16)] ?_ ?_⟩;(first|omega|(simp only;omega));all_goals (repeat' (first|exact rz|refine And.intro ?_ ?_|refine Exists.intro _ (And.intro rfl ?_)|refine ro ?_|refine Qe.cons ?_ ?_|(first|(rw [hlo];exact Jx.loop (by repeat' (first|exact Qe.nil|exact Qi.junk|exact Qi.ptrL (Nat.le_of_ble_eq_true rfl)|refine Qe.cons ?_ ?_)) (.inl ⟨Nat.le_of_ble_eq_true rfl,rfl⟩))|exact Qi.mpL (Nat.le_of_ble_eq_true rfl)|exact Qi.ptrL (Nat.le_of_ble_eq_true rfl)|exact Qi.eq (Q9 (by omega)) (Qb _)|exact Qe.of (Jb _)|exact Qe.of (Jg _))|exact rv)))
   ·obtain rfl:i=ks.length:=by omega
    rw [List.drop_length,walkL,collAll_nil] at g3
    subst g3
    (repeat' (first|with_reducible refine And.intro ?_ ?_|(with_reducible intro hc;(try simp only [zz] at hc);try exact ct)|((conv=>whnf);first|(with_reducible first|refine And.intro ?_ ?_|intro hx|apply Val.via|apply Qk.via)|exact Is.mk rfl rfl|refine sp ?_|refine vx (by (first|exact Ql rfl rfl|exact Qm hk rfl|exact Qa rfl rfl rfl|rfl)) ?_|refine dY ?_|fail|refine sq ?_)))
    (all_goals try exact om)
    all_goals exact Qg.mk ⟨rfl,14,15,16,rfl,(by repeat' (first|exact trivial|refine And.intro rfl ?_))⟩
 exact key _ rfl
theorem wk_call (n:Nd) (H:Heap):Qc Tryz.prog 76 [nV n] H (fun v K=>v= .fn (.func 110) [] [.rp (cellsN n) 0]∧K=H):=by
 refine Qc.frozen (Q:=fun v K=>Frz K v (.fn (.func 110) [] [.rp (cellsN n) 0])) (by simp [Q0]) ?_ (fun v K h=>h)
 obtain ⟨op,tx,nm,ks⟩:=n
 rw [nV,cellsN]
 refine Qc.go Tryz.func76 rfl ?_
 (repeat' (first|with_reducible refine And.intro ?_ ?_|(with_reducible intro hc;(try simp only [zz] at hc);try exact ct)|((conv=>whnf);first|(with_reducible first|refine And.intro ?_ ?_|intro hx|apply Val.via|apply Qk.via)|exact Is.mk rfl rfl|refine sp ?_|refine vx (by (first|exact Ql rfl rfl|exact Qa rfl rfl rfl|rfl)) ?_|fail|refine sq ?_)))
 (all_goals try exact om)
 all_goals exact Qg.mk (Frz.fn .nil (.cons (Frz.ptr rfl (U8.of (by have:=Xp (.mk op tx nm ks);rw [cellsN] at this;exact this))) .nil))
theorem collOne_name {op nm:Nat} {tx:List UInt8} {ks:List Nd} (s:CoS) (h:op=11∨op=3):collOne (.mk op tx nm ks) s=⟨(Jp s.names tx).2,s.consts,s.calls⟩∧(cstN (.mk op tx nm ks))=none:=by
 rcases h with rfl|rfl <;> simp [collOne,cstN]
theorem collOne_call {op nm:Nat} {tx:List UInt8} {ks:List Nd} (s:CoS) (h:op=12):collOne (.mk op tx nm ks) s=⟨s.names,s.consts,s.calls++ [tx]⟩∧(cstN (.mk op tx nm ks))=none:=by
 subst h;simp [collOne,cstN]
theorem collOne_cst {op nm:Nat} {tx:List UInt8} {ks:List Nd} (s:CoS) {c:Cst} (h:cstN (.mk op tx nm ks)=some c) (h1: ¬ (op=11∨op=3)) (h2: ¬ op=12):collOne (.mk op tx nm ks) s=⟨s.names,(Jp s.consts c).2,s.calls⟩:=by
 simp [collOne,h,h1,h2]
theorem collOne_none {op nm:Nat} {tx:List UInt8} {ks:List Nd} (s:CoS) (h:cstN (.mk op tx nm ks)=none) (h1: ¬ (op=11∨op=3)) (h2: ¬ op=12):collOne (.mk op tx nm ks) s=s:=by
 simp [collOne,h,h1,h2]
theorem coll_call (n:Nd) (hN:cntN n≤40000):Qc Tryz.prog 42 [.ptr 0 0,nV n] ⟨[(0,.cells true [.sc (.slice none 0 0),.sc (.slice none 0 0),.mp 1,.sc (.slice none 0 0)])],2⟩ (fun v K=>v= .tp []∧K=⟨coO 0 1 2 3 (Xg (walkN 0 n) ⟨[],[],[]⟩).names (Xg (walkN 0 n) ⟨[],[],[]⟩).consts (roS (ofL ltS (Xg (walkN 0 n) ⟨[],[],[]⟩).calls)),4⟩):=by
 refine Qc.fin ?_
 have hw:=fun H=>wk_call n H
 have hb0:=Bc.all (s:=⟨[],[],[]⟩) (k:=0) (walkN 0 n) ⟨by simp,by simp,by simp⟩
 rw [Uk] at hb0
 have hcw:=fun (ps:List Tmp) (asg bd:Code) (hy:CyC ps asg bd)=>walk_of hy 40000 n 0 ⟨[],[],[]⟩ 0 hN ⟨by simp,by simp,by simp⟩ (by omega) (by omega)
 generalize Xg (walkN 0 n) ⟨[],[],[]⟩=σ at *
 obtain ⟨op,tx,nm,ks⟩:=n
 rw [nV,cellsN]
 simp only [nV,cellsN] at hw
 refine Qc.go Tryz.func42 rfl ?_
 (repeat' (first|with_reducible refine And.intro ?_ ?_|(with_reducible intro hc;(try simp only [zz] at hc);try exact ct)|((conv=>whnf);first|(with_reducible first|refine And.intro ?_ ?_|intro hx|apply Val.via|apply Qk.via)|exact Is.mk rfl rfl|refine sp ?_|refine vx (by (first|exact Ql rfl rfl|exact Qa rfl rfl rfl|rfl)) ?_|refine cl (hw _) ?_|refine sq ?_)))
 (all_goals try exact om)
 refine Ju.mk (GWP.range0 rfl rfl ?_)
 refine Qc.go Tryz.func110 rfl ?_
 (repeat' (first|with_reducible refine And.intro ?_ ?_|(with_reducible intro hc;(try simp only [zz] at hc);try exact ct)|((conv=>whnf);first|(with_reducible first|refine And.intro ?_ ?_|intro hx|apply Val.via|apply Qk.via)|exact Is.mk rfl rfl|refine sp ?_|refine vx (by (first|exact Ql rfl rfl|exact Qa rfl rfl rfl|rfl)) ?_|fail|refine sq ?_)))
 (all_goals try exact om)
 refine GCall'.mk (Qc.mono (CwC.at0 (hcw _ _ _ ?_) _ rfl rfl rfl rfl rfl ?_ rfl) ?_)
 ·clear hcw hw hb0 hN
  clear op tx nm ks
  intro n d s hs
  have h1:=hs.names
  have h2:=hs.consts
  have h3:=hs.calls
  obtain ⟨op,tx,nm,ks⟩:=n
  have hcn: ∀ v∈ [iV op,Qn tx,iV nm,.ro ks.length (rowsN ks)],Qd v:=by have:=Xp (.mk op tx nm ks);rw [cellsN] at this;exact this
  have kcn:=fun H=>Cz (.mk op tx nm ks) H
  by_cases hA:op=11∨op=3
  ·obtain ⟨e1,e2⟩:=collOne_name (op:=op) (nm:=nm) (tx:=tx) (ks:=ks) s hA
   rw [e1]
   rw [e2,nV,cellsN] at kcn
   have hp:=plSAt (ns:=s.names) (cs:=s.consts) tx (by omega) (Qb (.slice none 0 0))
   generalize Jp s.names tx=q at *
   clear e1 e2
   rcases hA with rfl|rfl
   ·rw [nV,cellsN]
    refine J9.fin (J9.go rfl rfl ?_)
    (repeat' (first|with_reducible refine And.intro ?_ ?_|(with_reducible intro hc;(try simp only [zz] at hc);try exact ct)|((conv=>whnf);first|(with_reducible first|refine And.intro ?_ ?_|intro hx|apply Val.via|apply Qk.via)|exact Is.mk rfl rfl|refine sp ?_|refine vx (by (first|exact Ql rfl rfl|exact Qa rfl rfl rfl|rfl)) ?_|fail|refine sq ?_)))
    (all_goals try exact om)
    refine Ju.mk (GWP.drawM mixed 47 [5] (fun H=> [⟨coO 0 1 12 13 q.2 s.consts (.sc (.slice none 0 0))++Qs [0,7,8] H.objs,14⟩]) (by kernel_rfl) (by rfl) ?_)
    repeat' (first|with_reducible refine And.intro ?_ ?_|(with_reducible intro hc;(try simp only [zz] at hc);try exact ct)|exact trivial|((conv=>whnf);first|with_reducible refine And.intro ?_ ?_|with_reducible intro hx|exact Is.mk rfl rfl|exact trivial|(with_reducible first|apply Val.via|apply Qk.via)|fail|refine sp ?_|refine vx (by (first|exact Ql rfl rfl|exact Qa rfl rfl rfl|rfl)) ?_|(first|refine cl (hp _ 0 1 7 8 12 rfl rfl rfl rfl (Nm4.mk (by decide))) ?_|refine cl (kcn _) ?_)|refine sq ?_))
    (all_goals try exact om)
    all_goals (refine Qg.mk ⟨[(0,0),(1,1),(2,2),(4,4),(5,5),(6,6),(10,10),(12,11),(13,12),(9,13)],Xk true,_,14,?_,rfl,rfl,.of (Qb _),?_,rfl,rfl⟩;(rfl);exact ⟨⟨_,rfl,.cells (Qe.of hcn)⟩,⟨_,rfl,Ej (a:=12) (b:=13) (by decide) (by decide) (by decide)⟩,⟨_,rfl,.cells (.cons (.ptr (by decide)) .nil)⟩,⟨_,rfl,Ek (c:=9) (by decide)⟩,⟨_,rfl,.defs⟩,⟨_,rfl,.loop (by (repeat' (first|exact Qe.nil|exact Qi.junk|exact Qi.ptr (b:=2) (b':=2) (by decide)|exact Qi.ptr (b:=4) (b':=4) (by decide)|refine Qe.cons ?_ ?_))) (.inr (by decide))⟩,⟨_,rfl,.opt (Qe.of (Jb _))⟩,⟨_,rfl,.opt (Qe.of (Jg _))⟩,⟨_,rfl,.opt (Qe.of (Jb _))⟩,trivial⟩)
   ·rw [nV,cellsN]
    refine J9.fin (J9.go rfl rfl ?_)
    (repeat' (first|with_reducible refine And.intro ?_ ?_|(with_reducible intro hc;(try simp only [zz] at hc);try exact ct)|((conv=>whnf);first|(with_reducible first|refine And.intro ?_ ?_|intro hx|apply Val.via|apply Qk.via)|exact Is.mk rfl rfl|refine sp ?_|refine vx (by (first|exact Ql rfl rfl|exact Qa rfl rfl rfl|rfl)) ?_|fail|refine sq ?_)))
    (all_goals try exact om)
    refine Ju.mk (GWP.drawM mixed 47 [5] (fun H=> [⟨coO 0 1 12 13 q.2 s.consts (.sc (.slice none 0 0))++Qs [0,7,8] H.objs,14⟩]) (by kernel_rfl) (by rfl) ?_)
    repeat' (first|with_reducible refine And.intro ?_ ?_|(with_reducible intro hc;(try simp only [zz] at hc);try exact ct)|exact trivial|((conv=>whnf);first|with_reducible refine And.intro ?_ ?_|with_reducible intro hx|exact Is.mk rfl rfl|exact trivial|(with_reducible first|apply Val.via|apply Qk.via)|fail|refine sp ?_|refine vx (by (first|exact Ql rfl rfl|exact Qa rfl rfl rfl|rfl)) ?_|(first|refine cl (hp _ 0 1 7 8 12 rfl rfl rfl rfl (Nm4.mk (by decide))) ?_|refine cl (kcn _) ?_)|refine sq ?_))
    (all_goals try exact om)
    all_goals (refine Qg.mk ⟨[(0,0),(1,1),(2,2),(4,4),(5,5),(6,6),(10,10),(12,11),(13,12),(9,13)],Xk true,_,14,?_,rfl,rfl,.of (Qb _),?_,rfl,rfl⟩;(rfl);exact ⟨⟨_,rfl,.cells (Qe.of hcn)⟩,⟨_,rfl,Ej (a:=12) (b:=13) (by decide) (by decide) (by decide)⟩,⟨_,rfl,.cells (.cons (.ptr (by decide)) .nil)⟩,⟨_,rfl,Ek (c:=9) (by decide)⟩,⟨_,rfl,.defs⟩,⟨_,rfl,.loop (by (repeat' (first|exact Qe.nil|exact Qi.junk|exact Qi.ptr (b:=2) (b':=2) (by decide)|exact Qi.ptr (b:=4) (b':=4) (by decide)|refine Qe.cons ?_ ?_))) (.inr (by decide))⟩,⟨_,rfl,.opt (Qe.of (Jb _))⟩,⟨_,rfl,.opt (Qe.of (Jg _))⟩,⟨_,rfl,.opt (Qe.of (Jb _))⟩,trivial⟩)
  by_cases hB:op=12
  ·obtain ⟨e1,e2⟩:=collOne_call (op:=op) (nm:=nm) (tx:=tx) (ks:=ks) s hB
   rw [e1]
   rw [e2,nV,cellsN] at kcn
   simp only [cwO,List.length_append,List.length_cons,List.length_nil,Nat.zero_add,Bo]
   rw [nV,cellsN]
   refine J9.fin (J9.go rfl rfl ?_)
   (repeat' (first|with_reducible refine And.intro ?_ ?_|(with_reducible intro hc;(try simp only [zz] at hc);try exact ct)|((conv=>whnf);first|(with_reducible first|refine And.intro ?_ ?_|intro hx|apply Val.via|apply Qk.via)|exact Is.mk rfl rfl|refine sp ?_|refine vx (by (first|exact Ql rfl rfl|exact Qa rfl rfl rfl|rfl)) ?_|refine dY ?_|(first|refine cl (kcn _) ?_|(refine Qw (Qr.grow rfl sty_Sx (d:= .slice 9) Tryz.underlying28 (by intro k h;cases h) rfl (m:=1) (l:= [Qn tx]) (by rfl) (by rfl) rfl (Wb _) (by omega) (by omega) ?_)))|refine sq ?_)))
   (all_goals try exact om)
   all_goals (refine Qg.mk ⟨[(0,0),(1,1),(2,2),(4,4),(5,5),(6,6),(10,10),(7,11),(8,12),(13,13)],Xk true,_,14,?_,rfl,rfl,.of (Qb _),?_,rfl,rfl⟩;(rfl);exact ⟨⟨_,rfl,.cells (Qe.of hcn)⟩,⟨_,rfl,Ej (a:=7) (b:=8) (by decide) (by decide) (by decide)⟩,⟨_,rfl,.cells (.cons (.ptr (by decide)) .nil)⟩,⟨_,rfl,Ek (c:=13) (by decide)⟩,⟨_,rfl,.defs⟩,⟨_,rfl,.loop (by (repeat' (first|exact Qe.nil|exact Qi.junk|exact Qi.ptr (b:=2) (b':=2) (by decide)|exact Qi.ptr (b:=4) (b':=4) (by decide)|refine Qe.cons ?_ ?_))) (.inr (by decide))⟩,⟨_,rfl,.opt (Qe.of (Jb _))⟩,⟨_,rfl,.opt (Qe.of (Jg _))⟩,⟨_,rfl,.opt (Qe.of (by rw [← Bo];exact Jb _))⟩,trivial⟩)
  cases hcs:cstN (.mk op tx nm ks) with
  | some c =>
   rw [collOne_cst s hcs hA hB]
   rw [hcs,nV,cellsN] at kcn
   simp only [Option.getD_some,cstC,Option.isSome_some] at kcn
   have hp:=plVAt (ns:=s.names) (cs:=s.consts) c (by omega) (Qb (.slice none 0 0))
   generalize Jp s.consts c=q at *
   rw [nV,cellsN]
   refine J9.fin (J9.go rfl rfl ?_)
   (repeat' (first|with_reducible refine And.intro ?_ ?_|(with_reducible intro hc;(try simp only [zz] at hc);try exact ct)|((conv=>whnf);first|(with_reducible first|refine And.intro ?_ ?_|intro hx|apply Val.via|apply Qk.via)|exact Is.mk rfl rfl|refine sp ?_|refine vx (by (first|exact Ql rfl rfl|exact Qa rfl rfl rfl|rfl)) ?_|refine cl (kcn _) ?_|refine sq ?_)))
   (all_goals try exact om)
   refine Ju.mk (GWP.drawM mixed 47 [4] (fun H=> [⟨coO 0 1 13 14 s.names q.2 (.sc (.slice none 0 0))++Qs [0,7,8] H.objs,15⟩]) (by kernel_rfl) (by rfl) ?_)
   repeat' (first|with_reducible refine And.intro ?_ ?_|(with_reducible intro hc;(try simp only [zz] at hc);try exact ct)|exact trivial|((conv=>whnf);first|with_reducible refine And.intro ?_ ?_|with_reducible intro hx|exact Is.mk rfl rfl|exact trivial|(with_reducible first|apply Val.via|apply Qk.via)|fail|refine sp ?_|refine vx (by (first|exact Ql rfl rfl|exact Qa rfl rfl rfl|rfl)) ?_|refine cl (hp _ 0 1 7 8 13 rfl rfl rfl rfl (Nm4.mk (by decide))) ?_|refine sq ?_))
   (all_goals try exact om)
   all_goals (refine Qg.mk ⟨[(0,0),(1,1),(2,2),(4,4),(5,5),(6,6),(10,10),(13,11),(14,12),(9,13)],Xk true,_,14,?_,rfl,rfl,.of (Qb _),?_,rfl,rfl⟩;(rfl);exact ⟨⟨_,rfl,.cells (Qe.of hcn)⟩,⟨_,rfl,Ej (a:=13) (b:=14) (by decide) (by decide) (by decide)⟩,⟨_,rfl,.cells (.cons (.ptr (by decide)) .nil)⟩,⟨_,rfl,Ek (c:=9) (by decide)⟩,⟨_,rfl,.defs⟩,⟨_,rfl,.loop (by (repeat' (first|exact Qe.nil|exact Qi.junk|exact Qi.ptr (b:=2) (b':=2) (by decide)|exact Qi.ptr (b:=4) (b':=4) (by decide)|refine Qe.cons ?_ ?_))) (.inr (by decide))⟩,⟨_,rfl,.opt (Qe.of (Jb _))⟩,⟨_,rfl,.opt (Qe.of (Jg _))⟩,⟨_,rfl,.opt (Qe.of (Jb _))⟩,trivial⟩)
  | none =>
   rw [collOne_none s hcs hA hB]
   rw [hcs,nV,cellsN] at kcn
   rw [nV,cellsN]
   refine J9.fin (J9.go rfl rfl ?_)
   (repeat' (first|with_reducible refine And.intro ?_ ?_|(with_reducible intro hc;(try simp only [zz] at hc);try exact ct)|((conv=>whnf);first|(with_reducible first|refine And.intro ?_ ?_|intro hx|apply Val.via|apply Qk.via)|exact Is.mk rfl rfl|refine sp ?_|refine vx (by (first|exact Ql rfl rfl|exact Qa rfl rfl rfl|rfl)) ?_|refine dY ?_|(first|refine cl (kcn _) ?_)|refine sq ?_)))
   (all_goals try exact om)
   all_goals (refine Qg.mk ⟨[(0,0),(1,1),(2,2),(4,4),(5,5),(6,6),(10,10),(7,11),(8,12),(9,13)],Xk true,_,14,?_,rfl,rfl,.of (Qb _),?_,rfl,rfl⟩;(rfl);exact ⟨⟨_,rfl,.cells (Qe.of hcn)⟩,⟨_,rfl,Ej (a:=7) (b:=8) (by decide) (by decide) (by decide)⟩,⟨_,rfl,.cells (.cons (.ptr (by decide)) .nil)⟩,⟨_,rfl,Ek (c:=9) (by decide)⟩,⟨_,rfl,.defs⟩,⟨_,rfl,.loop (by (repeat' (first|exact Qe.nil|exact Qi.junk|exact Qi.ptr (b:=2) (b':=2) (by decide)|exact Qi.ptr (b:=4) (b':=4) (by decide)|refine Qe.cons ?_ ?_))) (.inr (by decide))⟩,⟨_,rfl,.opt (Qe.of (Jb _))⟩,⟨_,rfl,.opt (Qe.of (Jg _))⟩,⟨_,rfl,.opt (Qe.of (Jb _))⟩,trivial⟩)
 ·(repeat' (first|exact Qe.nil|exact Qi.junk|exact Qi.ptr (b:=2) (b':=2) (by decide)|exact Qi.ptr (b:=4) (b':=4) (by decide)|refine Qe.cons ?_ ?_))
 ·rintro _ _ ⟨rfl,rfl⟩
  have ho:=fun (H:Heap) (hg:H.get 9=some (.opt (nmR σ.calls)))=>ofG_S (H:=H) (b:=9) σ.calls (by have:=hb0.calls;omega) hg σ.calls.length rfl
  (repeat' (first|with_reducible refine And.intro ?_ ?_|(with_reducible intro hc;(try simp only [zz] at hc);try exact ct)|((conv=>whnf);first|(with_reducible first|refine And.intro ?_ ?_|intro hx|apply Val.via|apply Qk.via)|exact Is.mk rfl rfl|refine sp ?_|refine vx (by (first|exact Ql rfl rfl|exact Qa rfl rfl rfl|rfl)) ?_|refine dY ?_|fail|refine sq ?_)))
  (all_goals try exact om)
  (refine Qg.mk ⟨_,_,_,_,_,_,_,rfl,(by intro h;cases h),?_⟩)
  (repeat' (first|with_reducible refine And.intro ?_ ?_|(with_reducible intro hc;(try simp only [zz] at hc);try exact ct)|((conv=>whnf);first|(with_reducible first|refine And.intro ?_ ?_|intro hx|apply Val.via|apply Qk.via)|exact Is.mk rfl rfl|refine sp ?_|refine vx (by (first|exact Ql rfl rfl|exact Qa rfl rfl rfl|rfl)) ?_|refine dY ?_|refine cl (ho _ rfl) ?_|refine sq ?_)))
  (all_goals try exact om)
  all_goals refine Qg.mk ⟨[(0,0),(1,1),(7,2),(8,3)],.tp [],_,4,?_,rfl,rfl,.of (Qt (by simp)),?_,rfl,rfl⟩
  ·rfl
  ·exact ⟨⟨_,rfl,Eo (Qx (Jf Qj _)) (by decide) (by decide) (by decide)⟩,⟨_,rfl,.opt (Qe.of (Jb _))⟩,⟨_,rfl,.opt (Qe.of (Jg _))⟩,trivial⟩
end Go.Proofs.YtpbiblhkcomekaaGreat
