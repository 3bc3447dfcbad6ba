import Derived.Test.YtpbiblhkcomekaaGreatBE5
import Derived.Test.YtpbiblhkcomekaaGreatBA1
import Derived.Test.YtpbiblhkcomekaaGreatBH1
/- code.place at a maker's names; code.constant. -/
namespace Go.Proofs.YtpbiblhkcomekaaGreat
open Go Go.RowKit
set_option linter.unusedSimpArgs false
set_option linter.unusedVariables false
set_option maxRecDepth 100000
set_option maxHeartbeats 8000000
theorem sty_Sx:B2 Tryz.prog 28 1 16:=⟨⟨_,_,_,rfl,rfl,rfl,rfl,rfl,rfl⟩⟩
theorem sty_Vx:B2 Tryz.prog 84 3 32:=⟨⟨_,_,_,rfl,rfl,rfl,rfl,rfl,rfl⟩⟩
structure Bd (s:MkS) (k:Nat):Prop where
 names:s.names.length≤k
 consts:s.consts.length≤k
 l:s.l.length≤k
 fixed:s.fixed≤k
 d1: -(k:Int)≤s.depth
 d2:s.depth≤k
 m1: -(k:Int)≤s.most
 m2:s.most≤k
 a: ∀ x∈s.l,x.a≤k
theorem idxSG_call {H:Heap} {b:Nat} (l:List (List UInt8)) (x:List UInt8) (hl:l.length≤1000000) (hg:H.get b=some (.opt (nmR l))):Qc Tryz.prog 79 [.gs b l.length 1,Qn x] H (fun v K=>v=iV (N9 x 0 l)∧K=H) :=
 Qc.viewed (args':= [.ro l.length (nmR l),Qn x]) (Q:=fun v K=>v=iV (N9 x 0 l)) (.cons (Cq.gs hg (Wb l) (Jb l)) (.cons (Cq.of (Qj x)) .nil)) ((idxS_call l hl x _).mono fun v K e=>e.1) (fun v K e=>by subst e;exact Frx.of (Y2 _))
theorem idxVG_call {H:Heap} {b:Nat} (l:List Cst) (x:Cst) (hl:l.length≤1000000) (hg:H.get b=some (.opt (Yy l))):Qc Tryz.prog 114 [.gs b l.length 3,.ag [iV x.kind,iV x.num,Qn x.text]] H (fun v K=>v=iV (N9 x 0 l)∧K=H) :=
 Qc.viewed (args':= [.ro l.length (Yy l),.ag [iV x.kind,iV x.num,Qn x.text]]) (Q:=fun v K=>v=iV (N9 x 0 l)) (.cons (Cq.gs hg (cstR_len l) (Jg l)) (.cons (Cq.of (Jz (Nt x))) .nil)) ((idxV_call l hl x _).mono fun v K e=>e.1) (fun v K e=>by subst e;exact Frx.of (Y2 _))
theorem GOp.drawn1C {o:Oper} {ts:List VV} {H:Heap} {i:Nat} {x:Cst} (ho:o.op= .buildSlice 84 1 #[(0,.tmp i)]) (hx:ts[i]? = some (.ag [iV x.kind,iV x.num,Qn x.text])) (ha:(ts.set i .junk).all scB=true) :
  GOp Tryz.prog o ts H (fun u K'=>Is u (.ro 1 [iV x.kind,iV x.num,Qn x.text]) K' H):=⟨by
 have hn2: ∀ v∈ [iV x.kind,iV x.num,Qn x.text],Qd v:=Nt x
 have hv:vop Tryz.prog o ts ⟨[],0⟩=some (.sl 0 0 1 (some 1) 3,⟨[(0,.cells true [iV x.kind,iV x.num,Qn x.text])],1⟩):=by
  have hz:Jr Tryz.prog 54=some 3:=by kernel_rfl
  have hl:Kj Tryz.prog 54=some [.sc (.int .i64 0),.sc (.int .i64 0),.sc (.string ⟨#[]⟩)]:=by kernel_rfl
  have he:Qh ts (.tmp i)= .ag [iV x.kind,iV x.num,Qn x.text]:=by simp only [Qh,hx,Option.getD_some]
  have h1:cellsOf (.ag [iV x.kind,iV x.num,Qn x.text])=some [iV x.kind,iV x.num,Qn x.text]:=rfl
  simp only [vop,ho,Za,Tryz.underlying84,hz,hl,List.map_cons,List.map_nil,he,Bg,h1]
  rfl
 have hn: ∀ v∈ts,Qd v:=fun v hv=>by
  obtain ⟨j,hj,e⟩:=List.mem_iff_getElem.1 hv
  by_cases hji:j=i
  ·subst hji
   rw [List.getElem?_eq_getElem hj,e] at hx
   injection hx with hx
   subst hx
   exact Jz hn2
  ·refine Zi (List.all_eq_true.1 ha v ?_)
   refine List.mem_iff_getElem.2 ⟨j,by simpa using hj,?_⟩
   rw [List.getElem_set_ne (fun h=>hji h.symm)]
   exact e
 refine (Q3.frozen (u:= .ro 1 [iV x.kind,iV x.num,Qn x.text]) hn hv ?_).mono fun x K' e=>⟨e.1,e.2⟩
 exact Frz.sl (K:=⟨[(0,.cells true [iV x.kind,iV x.num,Qn x.text])],1⟩) (b:=0) (o:=0) (n:=1) (z:=3) (c:=some 1) rfl (by simp) hn2⟩
theorem placeS_call (s:MkS) (x:List UInt8) (hb:Bd s 1000000):MkC 43 [.ptr 0 0,Qn x] s (iV (Xz x s).1) (Xz x s).2:=by
 have hl:=hb.names
 refine MkC.of (Qb _) fun y hy=> ?_
 have hi:=fun (H:Heap) (hg:H.get 3=some (.opt (nmR s.names)))=>idxSG_call (H:=H) s.names x hl hg
 rw [Eb] at hi
 by_cases hm:x∈s.names
 ·rw [if_pos hm,Nat.zero_add] at hi
  have e:Xz x s=(Dw s.names x,s):=by simp only [Xz,Jp,if_pos hm] <;> rfl
  rw [e]
  generalize Dw s.names x=i at *
  refine Qc.go Tryz.func43 rfl ?_
  (repeat' (first|with_reducible refine And.intro ?_ ?_|(with_reducible intro hc;(try simp only [zz] at hc);try exact ct)|((conv=>whnf);first|(with_reducible first|refine And.intro ?_ ?_|intro hx|apply Val.via|apply Qk.via)|exact Is.mk rfl rfl|refine sp ?_|refine vx (by (first|exact Ql rfl rfl|exact Qa rfl rfl rfl|rfl)) ?_|refine cl (hi _ rfl) ?_|refine sq ?_)))
  (all_goals try exact om)
  exact Qg.mk ⟨rfl,3,4,5,rfl,(by repeat' (first|exact trivial|refine And.intro rfl ?_))⟩
 ·rw [if_neg hm] at hi
  have e:Xz x s=(s.names.length,{s with names:=s.names++ [x]}):=by simp only [Xz,Jp,if_neg hm]
  rw [e]
  refine Qc.go Tryz.func43 rfl ?_
  (repeat' (first|with_reducible refine And.intro ?_ ?_|(with_reducible intro hc;(try simp only [zz] at hc);try exact ct)|((conv=>whnf);first|(with_reducible first|refine And.intro ?_ ?_|intro hx|apply Val.via|apply Qk.via)|exact Is.mk rfl rfl|refine sp ?_|refine vx (by (first|exact Ql rfl rfl|exact Qa rfl rfl rfl|rfl)) ?_|(first|refine cl (hi _ rfl) ?_|(refine Qw (Qr.grow rfl sty_Sx (d:= .slice 9) Tryz.underlying28 (by intro k h;cases h) rfl (m:=1) (l:= [Qn x]) (by rfl) (by rfl) rfl (Wb _) (by omega) (by omega) ?_)))|refine sq ?_)))
  (all_goals try exact om)
  refine Qg.mk ⟨rfl,7,4,5,rfl,?_⟩
  simp only [mkO,List.length_append,List.length_cons,List.length_nil,Bo]
  exact (by repeat' (first|exact trivial|refine And.intro rfl ?_))
theorem placeV_call (s:MkS) (x:Cst) (hb:Bd s 1000000):MkC 78 [.ptr 0 1,.ag [iV x.kind,iV x.num,Qn x.text]] s (iV (Kq x s).1) (Kq x s).2:=by
 have hl:=hb.consts
 refine MkC.of (Qb _) fun y hy=> ?_
 have hi:=fun (H:Heap) (hg:H.get 4=some (.opt (Yy s.consts)))=>idxVG_call (H:=H) s.consts x hl hg
 rw [Eb] at hi
 by_cases hm:x∈s.consts
 ·rw [if_pos hm,Nat.zero_add] at hi
  have e:Kq x s=(Dw s.consts x,s):=by simp only [Kq,Jp,if_pos hm] <;> rfl
  rw [e]
  generalize Dw s.consts x=i at *
  refine Qc.go Tryz.func78 rfl ?_
  (repeat' (first|with_reducible refine And.intro ?_ ?_|(with_reducible intro hc;(try simp only [zz] at hc);try exact ct)|((conv=>whnf);first|(with_reducible first|refine And.intro ?_ ?_|intro hx|apply Val.via|apply Qk.via)|exact Is.mk rfl rfl|refine sp ?_|refine vx (by (first|exact Ql rfl rfl|exact Qa rfl rfl rfl|rfl)) ?_|refine dY ?_|refine cl (hi _ rfl) ?_|refine sq ?_)))
  (all_goals try exact om)
  exact Qg.mk ⟨rfl,3,4,5,rfl,(by repeat' (first|exact trivial|refine And.intro rfl ?_))⟩
 ·rw [if_neg hm] at hi
  have e:Kq x s=(s.consts.length,{s with consts:=s.consts++ [x]}):=by simp only [Kq,Jp,if_neg hm]
  rw [e]
  refine Qc.go Tryz.func78 rfl ?_
  (repeat' (first|with_reducible refine And.intro ?_ ?_|(with_reducible intro hc;(try simp only [zz] at hc);try exact ct)|((conv=>whnf);first|(with_reducible first|refine And.intro ?_ ?_|intro hx|apply Val.via|apply Qk.via)|exact Is.mk rfl rfl|refine sp ?_|refine vx (by (first|exact Ql rfl rfl|exact Qa rfl rfl rfl|rfl)) ?_|fail|refine sq ?_)))
  (all_goals try exact om)
  refine Ju.mk (GWP.drawY mixed _ (by kernel_rfl) (by rfl) ?_)
  (repeat' (first|with_reducible refine And.intro ?_ ?_|(with_reducible intro hc;(try simp only [zz] at hc);try exact ct)|((conv=>whnf);first|(with_reducible first|refine And.intro ?_ ?_|intro hx|apply Val.via|apply Qk.via)|exact Is.mk rfl rfl|refine sp ?_|refine vx (by (first|exact Ql rfl rfl|exact Qa rfl rfl rfl|rfl)) ?_|refine cl (hi _ rfl) ?_|refine sq ?_)))
  (all_goals try exact om)
  refine Ju.mk (GWP.drawM mixed 26 [6,8] (fun H=> [((H.del 4).add (.opt (Yy s.consts++ [iV x.kind,iV x.num,Qn x.text]))),((H.del 4).add (.opt (Yy s.consts++ [iV x.kind,iV x.num,Qn x.text]))).set 0 (.cells true [.gs 3 s.names.length 1,.gs H.next (s.consts.length+1) 3,.mp 2,y])]) (by kernel_rfl) (by rfl) ?_)
  repeat' (first|with_reducible refine And.intro ?_ ?_|(with_reducible intro hc;(try simp only [zz] at hc);try exact ct)|exact trivial|((conv=>whnf);first|with_reducible refine And.intro ?_ ?_|with_reducible intro hx|exact Is.mk rfl rfl|exact trivial|(with_reducible first|apply Val.via|apply Qk.via)|(refine GOp.drawn1C (by rfl) (by rfl) (by rfl))|refine sp ?_|refine vx (by (first|exact Ql rfl rfl|exact Qa rfl rfl rfl|rfl)) ?_|(refine Qw (Qr.grow rfl sty_Vx (d:= .slice 54) Tryz.underlying84 (by intro k h;cases h) rfl (m:=1) (l:= [iV x.kind,iV x.num,Qn x.text]) (by rfl) (by rfl) rfl (cstR_len _) (by omega) (by omega) ?_))|refine sq ?_))
  (all_goals try exact om)
  refine Qg.mk ⟨rfl,3,7,5,rfl,?_⟩
  simp only [mkO,List.length_append,List.length_cons,List.length_nil,cstR_snoc]
  exact (by repeat' (first|exact trivial|refine And.intro rfl ?_))
theorem Cz (n:Nd) (H:Heap):Qc Tryz.prog 77 [nV n] H (fun v K=>v= .tp [.ag (cstC ((cstN n).getD ⟨0,0,[]⟩)),Xk (cstN n).isSome]∧K=H):=by
 refine Qc.pure (by intro v hv;simp only [List.mem_cons,List.not_mem_nil,or_false] at hv;subst hv;exact Q0 n) (Qt (by intro v hv;simp only [List.mem_cons,List.not_mem_nil,or_false] at hv;rcases hv with rfl|rfl;exact Jz (Nt _);exact Qb _)) ?_
 obtain ⟨op,tx,nm,ks⟩:=n
 have hlt:=str_size tx
 by_cases h8:op=8
 ·subst h8
  by_cases hnm:nm≤2147483648
  ·rw [show cstN (.mk 8 tx nm ks)=some ⟨1,nm,[]⟩ by simp [cstN,hnm]]
   rw [nV,cellsN]
   refine Qc.go Tryz.func77 rfl ?_
   (repeat' (first|with_reducible refine And.intro ?_ ?_|(with_reducible intro hc;(try simp only [zz] at hc);try exact ct)|((conv=>whnf);first|(with_reducible first|refine And.intro ?_ ?_|intro hx|apply Val.via|apply Qk.via)|exact Is.mk rfl rfl|refine sp ?_|refine vx (by (first|exact Ql rfl rfl|exact Qa rfl rfl rfl|rfl)) ?_|refine dY ?_|(refine Xc.mk (Qc.inl Tryz.func112 rfl ?_))|refine sq ?_)))
   (all_goals try exact om)
   all_goals exact Qg.mk rfl
  ·rw [show cstN (.mk 8 tx nm ks)=some ⟨0,0,[]⟩ by simp [cstN,hnm]]
   rw [nV,cellsN]
   refine Qc.go Tryz.func77 rfl ?_
   (repeat' (first|with_reducible refine And.intro ?_ ?_|(with_reducible intro hc;(try simp only [zz] at hc);try exact ct)|((conv=>whnf);first|(with_reducible first|refine And.intro ?_ ?_|intro hx|apply Val.via|apply Qk.via)|exact Is.mk rfl rfl|refine sp ?_|refine vx (by (first|exact Ql rfl rfl|exact Qa rfl rfl rfl|rfl)) ?_|refine dY ?_|(refine Xc.mk (Qc.inl Tryz.func112 rfl ?_))|refine sq ?_)))
   (all_goals try exact om)
   all_goals exact Qg.mk rfl
 by_cases h9:op=9
 ·subst h9
  by_cases hnm:tx.length≤4096
  ·rw [show cstN (.mk 9 tx nm ks)=some ⟨2,0,tx⟩ by simp [cstN,hnm]]
   rw [nV,cellsN]
   refine Qc.go Tryz.func77 rfl ?_
   (repeat' (first|with_reducible refine And.intro ?_ ?_|(with_reducible intro hc;(try simp only [zz] at hc);try exact ct)|((conv=>whnf);first|(with_reducible first|refine And.intro ?_ ?_|intro hx|apply Val.via|apply Qk.via)|exact Is.mk rfl rfl|refine sp ?_|refine vx (by (first|exact Ql rfl rfl|exact Qa rfl rfl rfl|rfl)) ?_|refine dY ?_|(refine Xc.mk (Qc.inl Tryz.func113 rfl ?_))|refine sq ?_)))
   (all_goals try exact om)
   all_goals exact Qg.mk rfl
  ·rw [show cstN (.mk 9 tx nm ks)=some ⟨0,0,[]⟩ by simp [cstN,hnm]]
   rw [nV,cellsN]
   refine Qc.go Tryz.func77 rfl ?_
   (repeat' (first|with_reducible refine And.intro ?_ ?_|(with_reducible intro hc;(try simp only [zz] at hc);try exact ct)|((conv=>whnf);first|(with_reducible first|refine And.intro ?_ ?_|intro hx|apply Val.via|apply Qk.via)|exact Is.mk rfl rfl|refine sp ?_|refine vx (by (first|exact Ql rfl rfl|exact Qa rfl rfl rfl|rfl)) ?_|refine dY ?_|(refine Xc.mk (Qc.inl Tryz.func113 rfl ?_))|refine sq ?_)))
   (all_goals try exact om)
   all_goals exact Qg.mk rfl
 by_cases h10:op=10
 ·subst h10
  rw [show cstN (.mk 10 tx nm ks)=some ⟨0,0,[]⟩ by simp [cstN]]
  rw [nV,cellsN]
  refine Qc.go Tryz.func77 rfl ?_
  (repeat' (first|with_reducible refine And.intro ?_ ?_|(with_reducible intro hc;(try simp only [zz] at hc);try exact ct)|((conv=>whnf);first|(with_reducible first|refine And.intro ?_ ?_|intro hx|apply Val.via|apply Qk.via)|exact Is.mk rfl rfl|refine sp ?_|refine vx (by (first|exact Ql rfl rfl|exact Qa rfl rfl rfl|rfl)) ?_|refine dY ?_|fail|refine sq ?_)))
  (all_goals try exact om)
  all_goals exact Qg.mk rfl
 ·rw [show cstN (.mk op tx nm ks)=none by simp [cstN,h8,h9,h10]]
  rw [nV,cellsN]
  refine Qc.go Tryz.func77 rfl ?_
  (repeat' (first|with_reducible refine And.intro ?_ ?_|(with_reducible intro hc;(try simp only [zz] at hc);try exact ct)|((conv=>whnf);first|(with_reducible first|refine And.intro ?_ ?_|intro hx|apply Val.via|apply Qk.via)|exact Is.mk rfl rfl|refine sp ?_|refine vx (by (first|exact Ql rfl rfl|exact Qa rfl rfl rfl|rfl)) ?_|refine dY ?_|fail|refine sq ?_)))
  (all_goals try exact om)
  all_goals exact Qg.mk rfl
def coO (p q a b:Nat) (ns:List (List UInt8)) (cs:List Cst) (x:VV):List (Nat×VObj) :=
 [(p,.cells true [.gs a ns.length 1,.gs b cs.length 3,.mp q,x]),(a,.opt (nmR ns)),(b,.opt (Yy cs))]
def PlC (f:FuncId) (o:Nat) (arg:VV) (ns:List (List UInt8)) (cs:List Cst) (u:VV) (ns':List (List UInt8)) (cs':List Cst):Prop:= ∀ x,Qd x→Qc Tryz.prog f [.ptr 0 o,arg] ⟨coO 0 1 2 3 ns cs x,4⟩ (fun v K=>v=u∧K=⟨coO 0 1 4 5 ns' cs' x,6⟩)
theorem Eo {R:List (Nat×Nat)} {q q' a b a' b' n k:Nat} {x:VV} (hx:Qd x) (ha:(a,a')∈R) (hb:(b,b')∈R) (h2:(q,q')∈R):Jx R 0 (.cells true [.gs a n 1,.gs b k 3,.mp q,x]) (.cells true [.gs a' n 1,.gs b' k 3,.mp q',x]):= .cells (.cons (.gs ha) (.cons (.gs hb) (.cons (.mp h2) (.cons (.of hx) .nil))))
structure Nm4 (p q a b n:Nat):Prop where
 h:p≠q∧p≠a∧p≠b∧q≠a∧q≠b∧a≠b∧p < n∧q < n∧a < n∧b < n
theorem PlC.at {f:FuncId} {o:Nat} {arg:VV} {ns ns':List (List UInt8)} {cs cs':List Cst} {u x:VV} {p q a b n:Nat} (hb:Nm4 p q a b n) (hx:Qd x) (hu:Qd u) (ha:Qd arg) (h:PlC f o arg ns cs u ns' cs') {H:Heap}
  (g0:H.get p=some (.cells true [.gs a ns.length 1,.gs b cs.length 3,.mp q,x])) (g3:H.get a=some (.opt (nmR ns))) (g4:H.get b=some (.opt (Yy cs))) (hn:H.next=n) :
  Qc Tryz.prog f [.ptr p o,arg] H (fun v K=>v=u∧K=⟨coO p q n (n+1) ns' cs' x++Qs [p,a,b] H.objs,n+2⟩):=by
 refine Qc.live fun hlive=> ?_
 obtain ⟨objs,nx⟩:=H
 simp only at hn
 subst hn
 obtain ⟨p1,p2,p3,p4,p5,p6,p7,p8,p9,p10⟩:=hb.h
 have g: ∀ i:Nat,Jl i [p,a,b]=true→(⟨Yr [p,a,b] objs,nx⟩:Heap).get i=(⟨objs,nx⟩:Heap).get i:=fun i hi=>by
  show hget (Yr [p,a,b] objs) i=hget objs i
  rw [X4,hi]
 refine Qc.at (n1:=4) (O1:=coO 0 1 2 3 ns cs x) [p,a,b] [(p,0),(q,1),(a,2),(b,3)] ?_
  ⟨⟨_,(g p (Qp.2 (by simp))).trans g0,Eo hx (by simp) (by simp) (by simp)⟩,⟨_,(g a (Qp.2 (by simp))).trans g3,.opt (Qe.of (Jb _))⟩,⟨_,(g b (Qp.2 (by simp))).trans g4,.opt (Qe.of (Jg _))⟩,trivial⟩
  (.cons (.ptr (by simp)) (.cons (.of ha) .nil)) (h x hx) ?_
 ·show (wfR 0 4 [(p,0),(q,1),(a,2),(b,3)]&&nodupB [p,a,b]&&_)=true
  rw [Wg (by simp;omega)]
  rfl
 rintro v K ⟨rfl,rfl⟩
 have e0:Jm [(p,0),(q,1),(a,2),(b,3)] 4 nx (6 - 4)= [(5,nx+1),(4,nx),(0,p),(1,q),(2,a),(3,b)]:=rfl
 have hw:wfR 0 (nx+2) [(5,nx+1),(4,nx),(0,p),(1,q),(2,a),(3,b)]=true:=by
  refine C1 ?_ ?_
  ·simp only [List.mem_cons,List.not_mem_nil,or_false,forall_eq_or_imp,forall_eq]
   omega
  ·simp only [List.map_cons,List.map_nil,List.nodup_cons,List.mem_cons,List.not_mem_nil,or_false,not_false_eq_true,List.nodup_nil,and_true,not_or]
   omega
 have sr: ∀ i j:Nat,(i,j)∈ [(5,nx+1),(4,nx),(0,p),(1,q),(2,a),(3,b)]→srcN [(5,nx+1),(4,nx),(0,p),(1,q),(2,a),(3,b)] j=some i:=fun i j hj=>(Xe hw (i,j) hj).2.2
 have t0:=sr 0 p (by simp)
 have t4:=sr 4 nx (by simp)
 have t5:=sr 5 (nx+1) (by simp)
 refine ⟨v,coO p q nx (nx+1) ns' cs' x,⟨?_,.of hu,?_⟩,?_,rfl,rfl⟩
 ·show (wfR 0 (nx+2) (Jm _ 4 nx (6 - 4))&&nodupB (Zy (Jm _ 4 nx (6 - 4)) 0 (coO p q nx (nx+1) ns' cs' x))&&(coO p q nx (nx+1) ns' cs' x).all (fun p=>(srcN (Jm _ 4 nx (6 - 4)) p.1).isSome)&&_)=true
  rw [e0,hw]
  simp only [coO,Zy,Q7,t0,t4,t5,List.all_cons,List.all_nil]
  rfl
 ·show W1 (Jm _ 4 nx (6 - 4)) 0 ⟨coO 0 1 4 5 ns' cs' x,6⟩ _
  rw [e0]
  refine ⟨?_,?_,?_,trivial⟩
  ·rw [Q7,t0];exact ⟨_,rfl,Eo hx (by simp) (by simp) (by simp)⟩
  ·rw [Q7,t4];exact ⟨_,rfl,.opt (Qe.of (Jb _))⟩
  ·rw [Q7,t5];exact ⟨_,rfl,.opt (Qe.of (Jg _))⟩
 ·have hl: ∀ i y,hget objs i=some y→i < nx:=hlive
  have m0:=Jh (D:= [p,a,b]) (b:=p) (Qp.2 (by simp)) objs
  have m3:=Jq (D:= [p,a,b]) hl (show nx≤nx by omega)
  have m4:=Jq (D:= [p,a,b]) hl (show nx≤nx+1 by omega)
  simp only [coO,List.all_cons,List.all_nil,m0,m3,m4]
  rfl
theorem PlC.of {f:FuncId} {o:Nat} {arg:VV} {ns ns':List (List UInt8)} {cs cs':List Cst} {u:VV} (hu:Qd u) (h: ∀ x,Qd x→Qc Tryz.prog f [.ptr 0 o,arg] ⟨coO 0 1 2 3 ns cs x,4⟩ (fun v K=>v=u∧ ∃ a b,nodupB [0,a,b]=true∧Gets K (coO 0 1 a b ns' cs' x))):PlC f o arg ns cs u ns' cs':=fun x hx=>by
 refine Qc.fin ((h x hx).mono ?_)
 rintro v K ⟨rfl,a,b,hd,hg⟩
 refine ⟨[(0,0),(1,1),(a,4),(b,5)],v,coO 0 1 4 5 ns' cs' x,6,?_,rfl,rfl,.of hu,?_,rfl,rfl⟩
 ·show (wfR 0 6 [(0,0),(1,1),(a,4),(b,5)]&&nodupB [0,a,b]&&_&&_)=true
  rw [hd]
  rfl
 ·obtain ⟨h0,h1,h2,_⟩:=hg
  exact ⟨⟨_,h0,Eo hx (by simp) (by simp) (by simp)⟩,⟨_,h1,.opt (Qe.of (Jb _))⟩,⟨_,h2,.opt (Qe.of (Jg _))⟩,trivial⟩
theorem plS_call (ns:List (List UInt8)) (cs:List Cst) (x:List UInt8) (hl:ns.length≤1000000):PlC 43 0 (Qn x) ns cs (iV (Jp ns x).1) (Jp ns x).2 cs:=by
 refine PlC.of (Qb _) fun y hy=> ?_
 have hi:=fun (H:Heap) (hg:H.get 2=some (.opt (nmR ns)))=>idxSG_call (H:=H) ns x hl hg
 rw [Eb] at hi
 by_cases hm:x∈ns
 ·rw [if_pos hm,Nat.zero_add] at hi
  have e:Jp ns x=(Dw ns x,ns):=by simp only [Jp,if_pos hm]
  rw [e]
  generalize Dw ns x=i at *
  refine Qc.go Tryz.func43 rfl ?_
  (repeat' (first|with_reducible refine And.intro ?_ ?_|(with_reducible intro hc;(try simp only [zz] at hc);try exact ct)|((conv=>whnf);first|(with_reducible first|refine And.intro ?_ ?_|intro hx|apply Val.via|apply Qk.via)|exact Is.mk rfl rfl|refine sp ?_|refine vx (by (first|exact Ql rfl rfl|exact Qa rfl rfl rfl|rfl)) ?_|refine cl (hi _ rfl) ?_|refine sq ?_)))
  (all_goals try exact om)
  exact Qg.mk ⟨rfl,2,3,rfl,(by repeat' (first|exact trivial|refine And.intro rfl ?_))⟩
 ·rw [if_neg hm] at hi
  have e:Jp ns x=(ns.length,ns++ [x]):=by simp only [Jp,if_neg hm]
  rw [e]
  refine Qc.go Tryz.func43 rfl ?_
  (repeat' (first|with_reducible refine And.intro ?_ ?_|(with_reducible intro hc;(try simp only [zz] at hc);try exact ct)|((conv=>whnf);first|(with_reducible first|refine And.intro ?_ ?_|intro hx|apply Val.via|apply Qk.via)|exact Is.mk rfl rfl|refine sp ?_|refine vx (by (first|exact Ql rfl rfl|exact Qa rfl rfl rfl|rfl)) ?_|(first|refine cl (hi _ rfl) ?_|(refine Qw (Qr.grow rfl sty_Sx (d:= .slice 9) Tryz.underlying28 (by intro k h;cases h) rfl (m:=1) (l:= [Qn x]) (by rfl) (by rfl) rfl (Wb _) (by omega) (by omega) ?_)))|refine sq ?_)))
  (all_goals try exact om)
  refine Qg.mk ⟨rfl,5,3,rfl,?_⟩
  simp only [coO,List.length_append,List.length_cons,List.length_nil,Bo]
  exact (by repeat' (first|exact trivial|refine And.intro rfl ?_))
theorem plV_call (ns:List (List UInt8)) (cs:List Cst) (x:Cst) (hl:cs.length≤1000000):PlC 78 1 (.ag [iV x.kind,iV x.num,Qn x.text]) ns cs (iV (Jp cs x).1) ns (Jp cs x).2:=by
 refine PlC.of (Qb _) fun y hy=> ?_
 have hi:=fun (H:Heap) (hg:H.get 3=some (.opt (Yy cs)))=>idxVG_call (H:=H) cs x hl hg
 rw [Eb] at hi
 by_cases hm:x∈cs
 ·rw [if_pos hm,Nat.zero_add] at hi
  have e:Jp cs x=(Dw cs x,cs):=by simp only [Jp,if_pos hm]
  rw [e]
  generalize Dw cs x=i at *
  refine Qc.go Tryz.func78 rfl ?_
  (repeat' (first|with_reducible refine And.intro ?_ ?_|(with_reducible intro hc;(try simp only [zz] at hc);try exact ct)|((conv=>whnf);first|(with_reducible first|refine And.intro ?_ ?_|intro hx|apply Val.via|apply Qk.via)|exact Is.mk rfl rfl|refine sp ?_|refine vx (by (first|exact Ql rfl rfl|exact Qa rfl rfl rfl|rfl)) ?_|refine dY ?_|refine cl (hi _ rfl) ?_|refine sq ?_)))
  (all_goals try exact om)
  exact Qg.mk ⟨rfl,2,3,rfl,(by repeat' (first|exact trivial|refine And.intro rfl ?_))⟩
 ·rw [if_neg hm] at hi
  have e:Jp cs x=(cs.length,cs++ [x]):=by simp only [Jp,if_neg hm]
  rw [e]
  refine Qc.go Tryz.func78 rfl ?_
  (repeat' (first|with_reducible refine And.intro ?_ ?_|(with_reducible intro hc;(try simp only [zz] at hc);try exact ct)|((conv=>whnf);first|(with_reducible first|refine And.intro ?_ ?_|intro hx|apply Val.via|apply Qk.via)|exact Is.mk rfl rfl|refine sp ?_|refine vx (by (first|exact Ql rfl rfl|exact Qa rfl rfl rfl|rfl)) ?_|fail|refine sq ?_)))
  (all_goals try exact om)
  refine Ju.mk (GWP.drawY mixed _ (by kernel_rfl) (by rfl) ?_)
  (repeat' (first|with_reducible refine And.intro ?_ ?_|(with_reducible intro hc;(try simp only [zz] at hc);try exact ct)|((conv=>whnf);first|(with_reducible first|refine And.intro ?_ ?_|intro hx|apply Val.via|apply Qk.via)|exact Is.mk rfl rfl|refine sp ?_|refine vx (by (first|exact Ql rfl rfl|exact Qa rfl rfl rfl|rfl)) ?_|refine cl (hi _ rfl) ?_|refine sq ?_)))
  (all_goals try exact om)
  refine Ju.mk (GWP.drawM mixed 26 [6,8] (fun H=> [((H.del 3).add (.opt (Yy cs++ [iV x.kind,iV x.num,Qn x.text]))),((H.del 3).add (.opt (Yy cs++ [iV x.kind,iV x.num,Qn x.text]))).set 0 (.cells true [.gs 2 ns.length 1,.gs H.next (cs.length+1) 3,.mp 1,y])]) (by kernel_rfl) (by rfl) ?_)
  repeat' (first|with_reducible refine And.intro ?_ ?_|(with_reducible intro hc;(try simp only [zz] at hc);try exact ct)|exact trivial|((conv=>whnf);first|with_reducible refine And.intro ?_ ?_|with_reducible intro hx|exact Is.mk rfl rfl|exact trivial|(with_reducible first|apply Val.via|apply Qk.via)|(refine GOp.drawn1C (by rfl) (by rfl) (by rfl))|refine sp ?_|refine vx (by (first|exact Ql rfl rfl|exact Qa rfl rfl rfl|rfl)) ?_|(refine Qw (Qr.grow rfl sty_Vx (d:= .slice 54) Tryz.underlying84 (by intro k h;cases h) rfl (m:=1) (l:= [iV x.kind,iV x.num,Qn x.text]) (by rfl) (by rfl) rfl (cstR_len _) (by omega) (by omega) ?_))|refine sq ?_))
  (all_goals try exact om)
  refine Qg.mk ⟨rfl,2,5,rfl,?_⟩
  simp only [coO,List.length_append,List.length_cons,List.length_nil,cstR_snoc]
  exact (by repeat' (first|exact trivial|refine And.intro rfl ?_))
theorem plSAt {ns:List (List UInt8)} {cs:List Cst} {v:VV} (x:List UInt8) (hl:ns.length≤1000000) (hv:Qd v) (H:Heap) (p q a b n:Nat) (g0:H.get p=some (.cells true [.gs a ns.length 1,.gs b cs.length 3,.mp q,v])) (g3:H.get a=some (.opt (nmR ns))) (g4:H.get b=some (.opt (Yy cs))) (hn:H.next=n) (hb:Nm4 p q a b n) :
  Qc Tryz.prog 43 [.ptr p 0,Qn x] H (fun u K=>u=iV (Jp ns x).1∧K=⟨coO p q n (n+1) (Jp ns x).2 cs v++Qs [p,a,b] H.objs,n+2⟩) :=
 PlC.at hb hv (Qb _) (Qj x) (plS_call ns cs x hl) g0 g3 g4 hn
theorem plVAt {ns:List (List UInt8)} {cs:List Cst} {v:VV} (x:Cst) (hl:cs.length≤1000000) (hv:Qd v) (H:Heap) (p q a b n:Nat) (g0:H.get p=some (.cells true [.gs a ns.length 1,.gs b cs.length 3,.mp q,v])) (g3:H.get a=some (.opt (nmR ns))) (g4:H.get b=some (.opt (Yy cs))) (hn:H.next=n) (hb:Nm4 p q a b n) :
  Qc Tryz.prog 78 [.ptr p 1,.ag [iV x.kind,iV x.num,Qn x.text]] H (fun u K=>u=iV (Jp cs x).1∧K=⟨coO p q n (n+1) ns (Jp cs x).2 v++Qs [p,a,b] H.objs,n+2⟩) :=
 PlC.at hb hv (Qb _) (Jz (Nt x)) (plV_call ns cs x hl) g0 g3 g4 hn
end Go.Proofs.YtpbiblhkcomekaaGreat
