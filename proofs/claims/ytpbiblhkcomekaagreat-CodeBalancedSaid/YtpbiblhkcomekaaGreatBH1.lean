import Derived.Test.YtpbiblhkcomekaaGreatBE5
import Derived.Test.YtpbiblhkcomekaaGreatBG4
import Derived.Test.YtpbiblhkcomekaaGreatBG5
/- Calls that are given named blocks and change them: what else they made is taken as rows that nobody writes any more. Over any program. -/
namespace Go.Proofs.YtpbiblhkcomekaaGreat
open Go Go.RowKit
set_option linter.unusedSimpArgs false
set_option linter.unusedVariables false
theorem hget_mem {x0:VObj} {b:Nat}: ∀ (l:List (Nat×VObj)),Go.Proofs.YtpbiblhkcomekaaGreat.hget l b=some x0→b∈l.map (·.1):=by
 intro l
 induction l with
 | nil=>intro h;simp [Go.Proofs.YtpbiblhkcomekaaGreat.hget] at h
 | cons p r ih =>
  obtain ⟨k,y⟩:=p
  intro h
  rw [Qy] at h
  split at h
  ·rename_i e;subst e;simp
  ·exact List.mem_cons_of_mem _ (ih h)
theorem hget_of_mem {b:Nat}: ∀ (l:List (Nat×VObj)),b∈l.map (·.1)→ ∃ x,Go.Proofs.YtpbiblhkcomekaaGreat.hget l b=some x:=by
 intro l
 induction l with
 | nil=>intro h;simp at h
 | cons p r ih =>
  obtain ⟨k,y⟩:=p
  intro h
  rw [Qy]
  by_cases e:k=b
  ·rw [if_pos e];exact ⟨y,rfl⟩
  ·rw [if_neg e]
   rcases List.mem_cons.1 h with h|h
   ·exact absurd h.symm e
   ·exact ih h
theorem Qc.trimC {P:Program} {f:FuncId} {args:List VV} {O1:List (Nat×VObj)} {n1:Nat} {Q:VV→Heap→Prop} {Q':VV→List (Nat×VObj)→Prop}
  (hO: ∀ b x,hget O1 b=some x→ ∃ vs,(x= .cells true vs∨x= .opt vs)) (h:Qc P f args ⟨O1,n1⟩ Q)
  (hv: ∀ v K,Q v K→ ∃ u O2,O2.map (·.1)=O1.map (·.1)∧(∀ b x,hget O2 b=some x→K.get b=some x∧ ∃ vs,(x= .cells true vs∨x= .opt vs)∧ ∀ v∈vs,Wf n1 ⟨Qs (O1.map (·.1)) K.objs,K.next⟩ v v)∧Q' u O2∧Wf n1 ⟨Qs (O1.map (·.1)) K.objs,K.next⟩ v u) :
  Qc P f args ⟨O1,n1⟩ (fun u K=> ∃ O2,Q' u O2∧K=⟨O2,n1⟩):=fun B M Z ρ w ra h1 h2=>by
 refine (h w (Mine ⟨O1,n1⟩ ρ) Z ρ w ra (h1.part rfl fun _ _ h=>h) h2).mono ?_
 rintro e w' ⟨v',v,K,Z',ρ',rfl,q,e1,r1,v1⟩
 obtain ⟨u,O2,hm2,hk,q',hf⟩:=hv v K q
 have mine: ∀ k,Mine ⟨O1,n1⟩ ρ k→B.heap.size≤k∨M k:=fun k ⟨b,x,N,m1,m2,m3⟩=>by
  obtain ⟨k',N',o,g1,g2,g3,g4,g5⟩:=h1.objK m1 m3
  rw [m3] at g1;injection g1 with g1;injection g1 with g1 g1';subst g1
  exact g5 m2
 have hsz:=e1.size
 have k21: ∀ b x,hget O2 b=some x→ ∃ y,hget O1 b=some y:=fun b x hx=>hget_of_mem O1 (hm2 ▸ hget_mem O2 hx)
 have k12: ∀ b x,hget O1 b=some x→ ∃ y,hget O2 b=some y:=fun b x hx=>hget_of_mem O2 (hm2 ▸ hget_mem O1 hx)
 have zz: ∀ k,Z' k→Z k∨(w.heap.size≤k∧k < w'.heap.size):=fun k hkz=>by
  rcases e1.znew k hkz with g|g|g|⟨b,x,N,m1,m2,m3⟩
  ·exact .inl g
  ·exact .inr ⟨g,r1.zlt k hkz⟩
  ·exact .inr ⟨g,r1.zlt k hkz⟩
  ·obtain ⟨y,hy⟩:=k12 b x m1
   obtain ⟨k',N',o,g1,g2,g3,g4,g5⟩:=r1.objK (hk b y hy).1 (e1.rsub _ _ m3)
   rw [e1.rsub _ _ m3] at g1;injection g1 with g1;injection g1 with g1 g1';subst g1
   exact absurd hkz g4
 have hget: ∀ b,(⟨Qs (O1.map (·.1)) K.objs,K.next⟩:Heap).get b=match Jl b (O1.map (·.1)) with
  | true=>none
  | false=>K.get b:=fun b=>Kp _ b _
 have hsub: ∀ b x,(⟨Qs (O1.map (·.1)) K.objs,K.next⟩:Heap).get b=some x→K.get b=some x∧Jl b (O1.map (·.1))=false:=fun b x hx=>by
  rw [hget] at hx
  split at hx
  ·cases hx
  ·rename_i hm;exact ⟨hx,hm⟩
 have hBs:({w' with heap:=w'.heap.extract 0 w.heap.size}:World).heap.size=w.heap.size:=by
  show (w'.heap.extract 0 w.heap.size).size=_
  rw [Array.size_extract];omega
 have hBk: ∀ k,k < w.heap.size→({w' with heap:=w'.heap.extract 0 w.heap.size}:World).heap[k]? = w'.heap[k]? :=fun k hk=>by
  show (w'.heap.extract 0 w.heap.size)[k]? = _
  rw [Array.getElem?_extract,if_pos (by omega),Nat.zero_add]
 have hr:Rel {w' with heap:=w'.heap.extract 0 w.heap.size} (fun _=>False) Z' ρ' ⟨Qs (O1.map (·.1)) K.objs,K.next⟩ w':=by
  refine ⟨fun w2 a b c d e=> ?_,rfl,rfl,rfl,by rw [hBs];exact hsz,fun k hk _=>(hBk k (by rw [hBs] at hk;exact hk)).symm,r1.dom,fun b x hx=>r1.live b x (hsub b x hx).1,fun b b' k N N' x x' hx hx'=>r1.inj b b' k N N' x x' (hsub b x hx).1 (hsub b' x' hx').1,fun b x hx=> ?_,r1.zlt⟩
  ·refine r1.glob w2 (a.trans r1.os) (b.trans r1.tape) (c.trans r1.output) (by rw [hBs] at d;exact d) fun k hk hm=> ?_
   rw [e k (by rw [hBs];exact hk) id,hBk k hk]
   exact r1.frame k hk hm
  ·obtain ⟨hx1,hx2⟩:=hsub b x hx
   rcases r1.obj b x hx1 with hg|⟨k,N,o,g1,g2,g3,g4,g5⟩
   ·exact .inl hg
   refine .inr ⟨k,N,o,g1,g2,g3,g4,fun hrw=> .inl ?_⟩
   rw [hBs]
   refine (g5 hrw).resolve_right ?_
   rintro ⟨b0,x0,N0,m1,m2,m3⟩
   obtain ⟨y0,hy0⟩:=k12 b0 x0 m1
   have:=r1.inj b b0 k N N0 x y0 hx1 (hk b0 y0 hy0).1 g1 (e1.rsub _ _ m3)
   subst this
   rw [Qp.2 (hget_mem O1 m1)] at hx2
   cases hx2
 have conv: ∀ {v u:VV} {y:Value},Wf n1 ⟨Qs (O1.map (·.1)) K.objs,K.next⟩ v u→Qf w' Z' ρ' v y→Qf w' (fun k=>Z k∨(w.heap.size≤k∧k < w'.heap.size)) ρ u y:=fun hf hv=>by
  refine (hf _ w' Z' ρ' ρ _ hr (fun b hb=>(e1.rold b hb).symm) hv).zmono fun k hk=> ?_
  rcases hk with hk|hk
  ·exact zz k hk
  ·rw [hBs] at hk;exact .inr hk
 refine ⟨v',u,⟨O2,n1⟩,fun k=>Z k∨(w.heap.size≤k∧k < w'.heap.size),ρ,rfl,⟨O2,q',rfl⟩,⟨Nat.le_refl _,fun _ _=>rfl,fun _ h=> .inl h,fun _ _ h=>h,e1.keep,e1.size,fun k hk=>hk.imp id fun q=> .inl q.1⟩,⟨h1.glob,r1.os.trans h1.os,r1.tape.trans h1.tape,r1.output.trans h1.output,Nat.le_trans h1.size r1.size,?_,h1.dom,?_,?_,?_,?_⟩,conv hf v1⟩
 ·intro k hkb hM
  have hs1:=h1.size
  rw [r1.frame k (by omega) (fun hm=>(mine k hm).elim (fun q=>by omega) hM)]
  exact h1.frame k hkb hM
 ·intro b x hx
  obtain ⟨y,hy⟩:=k21 b x hx
  exact h1.live b y hy
 ·intro b b' k N N' x x' hx hx' g g'
  obtain ⟨y,hy⟩:=k21 b x hx
  obtain ⟨y',hy'⟩:=k21 b' x' hx'
  exact h1.inj b b' k N N' y y' hy hy' g g'
 ·intro b x hx
  obtain ⟨y,hy⟩:=k21 b x hx
  have hlive:b < n1:=h1.live b y hy
  obtain ⟨hkx,vs,hxv,hvs⟩:=hk b x hx
  rcases r1.obj b x hkx with ⟨hg,hn⟩|⟨k,N,o,g1,g2,g3,g4,g5⟩
  ·exact .inl ⟨hg,by rw [← e1.rold b hlive];exact hn⟩
  have gρ:ρ b=some (k,N):=by rw [← e1.rold b hlive];exact g1
  have hlt:=h1.lt hy gρ
  refine .inr ⟨k,N,o,gρ,g2,?_,fun hz=>hz.elim (fun q=>g4 (e1.zsub _ q)) (fun q=>by omega),fun _=> ?_⟩
  ·rcases hxv with rfl|rfl
   ·obtain ⟨cs,t,fr,a0,a4,a2,a3⟩:=g3
    exact ⟨cs,t,fr,a0,a4,fun i u hu=>let ⟨c,hc,hr⟩:=a2 i u hu;⟨c,hc,conv (hvs u (List.mem_of_getElem? hu)) hr⟩,a3⟩
   ·obtain ⟨cs,t,fr,a0,a4,a2,a3⟩:=g3
    exact ⟨cs,t,fr,a0,a4,fun i u hu=>let ⟨c,hc,hr⟩:=a2 i u hu;⟨c,hc,conv (hvs u (List.mem_of_getElem? hu)) hr⟩,a3⟩
  ·obtain ⟨k',N',o',p1,p2,p3,p4,p5⟩:=h1.objK hy gρ
   rw [gρ] at p1;injection p1 with p1;injection p1 with p1 p1';subst p1
   refine p5 ?_
   obtain ⟨ws,hw⟩:=hO b y hy
   rcases hw with rfl|rfl <;> rfl
 ·intro k hkz
  rcases hkz with hkz|hkz
  ·have:=h1.zlt k hkz;omega
  ·exact hkz.2
inductive Nd where
 | mk (op:Nat) (text:List UInt8) (num:Nat) (kids:List Nd)
def nd0:Nd:= .mk 0 [] 0 []
structure PSt where
 l:List (Sg×Nat)
 d:Nat
 e:Nat
def isS (x:List UInt8) (s:PSt):Bool×PSt:=match s.l with
 | []=>(false,s)
 | (g,_)::r=>if s.e=0∧g.text=x∧(g.kind=2∨g.kind=5) then (true,⟨r,s.d,s.e⟩) else (false,s)
def Ka (e:Nat) (s:PSt):PSt:=if s.e=0 then ⟨s.l,s.d,e⟩ else s
def Jk (x:List UInt8) (s:PSt):PSt:=if (isS x s).1 then (isS x s).2 else Ka 2 s
def Zb (k:Nat) (s:PSt):Option (Sg×Nat)×PSt:=match s.l with
 | []=>(none,s)
 | (g,a)::r=>if s.e=0∧g.kind=k then (some (g,a),⟨r,s.d,s.e⟩) else (none,s)
def nmS (s:PSt):List UInt8×PSt:=match Zb 1 s with
 | (some (g,_),s')=>(g.text,s')
 | (none,s')=>([],Ka 2 s')
def U2 (s:PSt):PSt:=if 16≤s.d then Ka 9 s else s
def J8 (rd:PSt→Nd×PSt) (s:PSt):Nd×PSt :=
 if (U2 s).e≠0 then (nd0,U2 s)
 else ((rd ⟨s.l,s.d+1,s.e⟩).1,⟨(rd ⟨s.l,s.d+1,s.e⟩).2.l,(rd ⟨s.l,s.d+1,s.e⟩).2.d - 1,(rd ⟨s.l,s.d+1,s.e⟩).2.e⟩)
def Xu (rd:PSt→Nd×PSt):Nat→List Nd→PSt→List Nd×PSt
 | 0,out,s=>(out,s)
 | f+1,out,s=>if s.e=0 then
   (if (isS [41] (rd s).2).1 then (out++ [(rd s).1],(isS [41] (rd s).2).2) else Xu rd f (out++ [(rd s).1]) (Jk [44] (rd s).2))
  else (out,s)
def Y6 (rd:PSt→Nd×PSt) (s:PSt):List Nd×PSt:=if (isS [41] s).1 then ([],(isS [41] s).2) else Xu rd (s.l.length+2) [] s
def opL (i:Nat):List (List UInt8):=match i with
 | 0=> [[111,114]]
 | 1=> [[97,110,100]]
 | 2=> [[61,61],[33,61],[60],[60,61],[62],[62,61]]
 | 3=> [[43],[45]]
 | 4=> [[42],[47],[37]]
 | _=> []
def opS:List (List UInt8)→PSt→Option (List UInt8)×PSt
 | [],s=>(none,s)
 | x::r,s=>if (isS x s).1 then (some x,(isS x s).2) else opS r s
def Ze (i:Nat) (nx:PSt→Nd×PSt):Nat→Nd→PSt→Nd×PSt
 | 0,out,s=>(out,s)
 | f+1,out,s=>match opS (opL i) s with
  | (none,s1)=>(out,s1)
  | (some x,s1)=>if i=2 then (.mk 13 x 0 [out,(nx s1).1],(nx s1).2) else Ze i nx f (.mk 13 x 0 [out,(nx s1).1]) (nx s1).2
def Xs (un:PSt→Nd×PSt):Nat→PSt→Nd×PSt
 | 0,s=>un s
 | k+1,s=>Ze (4 - k) (Xs un k) ((Xs un k s).2.l.length+1) (Xs un k s).1 (Xs un k s).2
def Bm (un:PSt→Nd×PSt) (s:PSt):Nd×PSt:=match Zb 3 s with
 | (some (g,_),s')=>(.mk 8 [] g.num [],s')
 | (none,_)=>match Zb 4 s with
  | (some (g,_),s')=>(.mk 9 g.text 0 [],s')
  | (none,_)=>if (isS [110,105,108] s).1 then (.mk 10 [] 0 [],(isS [110,105,108] s).2)
   else if (isS [40] s).1 then ((J8 (Xs un 5) (isS [40] s).2).1,Jk [41] (J8 (Xs un 5) (isS [40] s).2).2)
   else if (isS [40] (nmS s).2).1 then (.mk 12 (nmS s).1 0 (Y6 (J8 (Xs un 5)) (isS [40] (nmS s).2).2).1,(Y6 (J8 (Xs un 5)) (isS [40] (nmS s).2).2).2)
   else (.mk 11 (nmS s).1 0 [],(nmS s).2)
def unS:Nat→PSt→Nd×PSt
 | 0,s=>(nd0,s)
 | n+1,s=>if (isS [110,111,116] s).1 then (.mk 14 [110,111,116] 0 [(J8 (unS n) (isS [110,111,116] s).2).1],(J8 (unS n) (isS [110,111,116] s).2).2)
  else if (isS [45] s).1 then (.mk 14 [45] 0 [(J8 (unS n) (isS [45] s).2).1],(J8 (unS n) (isS [45] s).2).2)
  else Bm (unS n) s
def exS (s:PSt):Nd×PSt:=Xs (unS (s.l.length+1)) 5 s
def Xh (st:PSt→Nd×PSt):Nat→List Nd→PSt→List Nd×PSt
 | 0,out,s=>(out,s)
 | f+1,out,s=>if s.e=0 then (if (isS [125] s).1 then (out,(isS [125] s).2) else Xh st f (out++ [(st s).1]) (st s).2) else (out,s)
def Df (st:PSt→Nd×PSt) (s:PSt):Nd×PSt:=J8 (fun s=>(.mk 2 [] 0 (Xh st (s.l.length+2) [] s).1,(Xh st (s.l.length+2) [] s).2)) (Jk [123] s)
def isSet (s:PSt):Bool:=match s.l with
 | (g,_)::(h,_)::_=>decide (g.kind=1)&&decide (h.kind=5)&&decide (h.text= [61])
 | _=>false
def ifS (bl:PSt→Nd×PSt) (s:PSt):Nd×PSt :=
 if (isS [101,108,115,101] (bl (exS s).2).2).1 then (.mk 5 [] 0 [(exS s).1,(bl (exS s).2).1,(bl (isS [101,108,115,101] (bl (exS s).2).2).2).1],(bl (isS [101,108,115,101] (bl (exS s).2).2).2).2)
 else (.mk 5 [] 0 [(exS s).1,(bl (exS s).2).1],(bl (exS s).2).2)
def Zn (bl:PSt→Nd×PSt) (s:PSt):Nd×PSt :=
 if (isS [105,102] s).1 then ifS bl (isS [105,102] s).2
 else if (isS [119,104,105,108,101] s).1 then (.mk 6 [] 0 [(exS (isS [119,104,105,108,101] s).2).1,(bl (exS (isS [119,104,105,108,101] s).2).2).1],(bl (exS (isS [119,104,105,108,101] s).2).2).2)
 else if (isS [115,116,111,112] s).1 then (.mk 7 [] 0 [],Jk [59] (isS [115,116,111,112] s).2)
 else if isSet s then (.mk 3 (nmS s).1 0 [(exS (Jk [61] (nmS s).2)).1],Jk [59] (exS (Jk [61] (nmS s).2)).2)
 else (.mk 4 [] 0 [(exS s).1],Jk [59] (exS s).2)
def blS:Nat→PSt→Nd×PSt
 | 0,s=>(nd0,s)
 | n+1,s=>Df (Zn (blS n)) s
def varS (s:PSt):Nd×PSt:=(.mk 11 (nmS s).1 0 [],(nmS s).2)
def onS (s:PSt):Nd×PSt :=
 let s1:=nmS (Jk [111,110] s)
 let s2:=Y6 varS (Jk [40] s1.2)
 let s3:=blS (s2.2.l.length+1) s2.2
 (.mk 1 s1.1 0 (s2.1++ [s3.1]),s3.2)
def endS (s:PSt):Bool:=match s.l with
 | []=>true
 | (g,_)::_=>decide (g.kind=0)
def scLoop:Nat→List Nd→PSt→List Nd×PSt
 | 0,out,s=>(out,s)
 | f+1,out,s=>if s.e=0∧endS s=false then scLoop f (out++ [(onS s).1]) (onS s).2 else (out,s)
def X9 (s:PSt):Nd×PSt:=(.mk 0 [] 0 (scLoop (s.l.length+2) [] s).1,(scLoop (s.l.length+2) [] s).2)
def Nd.text:Nd→List UInt8
 | .mk _ t _ _=>t
def Nd.kids:Nd→List Nd
 | .mk _ _ _ k=>k
def dupB:List (List UInt8)→List Nd→Bool
 | _,[]=>false
 | seen,k::r=>if seen.contains k.text then true else dupB (seen++ [k.text]) r
def Zs (t:List UInt8):Nd×Nat:=match Zr t with
 | .inl e=>(nd0,e)
 | .inr l=>if (X9 ⟨l,0,0⟩).2.e≠0 then (nd0,(X9 ⟨l,0,0⟩).2.e) else if dupB [] (X9 ⟨l,0,0⟩).1.kids then (nd0,5) else ((X9 ⟨l,0,0⟩).1,0)
def WfL (l:List (Sg×Nat)):Prop:= ∃ p z,l=p++ [z]∧z.1.kind=0
theorem WfL.ne {l:List (Sg×Nat)} (h:WfL l): ∃ g a r,l=(g,a)::r:=by
 obtain ⟨p,⟨z,b⟩,rfl,_⟩:=h
 cases p with
 | nil=>exact ⟨z,b,[],rfl⟩
 | cons q r=>exact ⟨q.1,q.2,r++ [(z,b)],rfl⟩
theorem WfL.tail {g:Sg} {a:Nat} {r:List (Sg×Nat)} (h:WfL ((g,a)::r)) (hg:g.kind≠0):WfL r:=by
 obtain ⟨p,z,hp,hz⟩:=h
 cases p with
 | nil =>
  injection hp with h1 h2
  subst h1
  exact absurd hz hg
 | cons q p =>
  injection hp with h1 h2
  exact ⟨p,z,h2,hz⟩
structure Ok (s s':PSt):Prop where
 wf:WfL s.l→WfL s'.l
 len:s'.l.length≤s.l.length
 dep:s'.d=s.d
 err:s.e≠0→s'.e=s.e
theorem Ok.refl (s:PSt):Ok s s:=⟨fun h=>h,Nat.le_refl _,rfl,fun _=>rfl⟩
theorem Ok.trans {a b c:PSt} (h:Ok a b) (g:Ok b c):Ok a c:=⟨fun w=>g.wf (h.wf w),Nat.le_trans g.len h.len,g.dep.trans h.dep,fun he=>(g.err (by rw [h.err he];exact he)).trans (h.err he)⟩
theorem Xv (x:List UInt8) (s:PSt):Ok s (isS x s).2:=by
 unfold isS
 split
 ·exact .refl s
 ·rename_i g a r hl
  split
  ·rename_i hc
   refine ⟨fun w=> ?_,?_,rfl,fun _=>rfl⟩
   ·rw [hl] at w
    exact w.tail (by omega)
   ·rw [hl];simp
  ·exact .refl s
theorem Kg {x:List UInt8} {s:PSt} (h:(isS x s).1=true):(isS x s).2.l.length < s.l.length∧s.e=0∧(isS x s).2.e=0:=by
 obtain ⟨l,d,e⟩:=s
 cases l with
 | nil=>cases h
 | cons q r =>
  obtain ⟨g,a⟩:=q
  simp only [isS] at h ⊢
  by_cases hc:e=0∧g.text=x∧(g.kind=2∨g.kind=5)
  ·rw [if_pos hc]
   exact ⟨by simp,hc.1,hc.1⟩
  ·rw [if_neg hc] at h
   cases h
theorem Zf {x:List UInt8} {s:PSt} (h:(isS x s).1=false):(isS x s).2=s:=by
 obtain ⟨l,d,e⟩:=s
 cases l with
 | nil=>rfl
 | cons q r =>
  obtain ⟨g,a⟩:=q
  simp only [isS] at h ⊢
  by_cases hc:e=0∧g.text=x∧(g.kind=2∨g.kind=5)
  ·rw [if_pos hc] at h
   cases h
  ·rw [if_neg hc]
theorem failP_ok (e:Nat) (s:PSt):Ok s (Ka e s):=by
 unfold Ka
 split
 ·rename_i h;exact ⟨fun w=>w,Nat.le_refl _,rfl,fun g=>absurd h g⟩
 ·exact .refl s
theorem Xi (x:List UInt8) (s:PSt):Ok s (Jk x s):=by
 unfold Jk
 split
 ·exact Xv x s
 ·exact failP_ok 2 s
theorem takeS_ok (k:Nat) (hk:k≠0) (s:PSt):Ok s (Zb k s).2:=by
 unfold Zb
 split
 ·exact .refl s
 ·rename_i g a r hl
  split
  ·rename_i hc
   refine ⟨fun w=> ?_,?_,rfl,fun _=>rfl⟩
   ·rw [hl] at w
    exact w.tail (by omega)
   ·rw [hl];simp
  ·exact .refl s
theorem Nl (s:PSt):Ok s (nmS s).2:=by
 have h:=takeS_ok 1 (by decide) s
 unfold nmS
 split
 ·rename_i g a s' e
  rw [e] at h
  exact h
 ·rename_i s' e
  rw [e] at h
  exact h.trans (failP_ok 2 s')
theorem Bw {rd:PSt→Nd×PSt} (s:PSt) (h: ∀ s',s'.l.length≤s.l.length→Ok s' (rd s').2):Ok s (J8 rd s).2:=by
 unfold J8
 have h1:Ok s (U2 s):=by
  unfold U2
  split
  ·exact failP_ok 9 s
  ·exact .refl s
 split
 ·exact h1
 ·have h2:=h ⟨s.l,s.d+1,s.e⟩ (Nat.le_refl _)
  refine ⟨h2.wf,h2.len,?_,h2.err⟩
  have:=h2.dep
  simp only at this ⊢
  omega
theorem lsLoop_ok {rd:PSt→Nd×PSt}: ∀ (f:Nat) (out:List Nd) (s:PSt),(∀ s',s'.l.length≤s.l.length→Ok s' (rd s').2)→Ok s (Xu rd f out s).2
 | 0,out,s,h=> .refl s
 | f+1,out,s,h=>by
  have h1:=h s (Nat.le_refl _)
  unfold Xu
  split
  ·split
   ·exact h1.trans (Xv _ _)
   ·have h2:=h1.trans (Xi [44] (rd s).2)
    exact h2.trans (lsLoop_ok f _ _ fun s' hs'=>h s' (Nat.le_trans hs' h2.len))
  ·exact .refl s
theorem Br {rd:PSt→Nd×PSt} (s:PSt) (h: ∀ s',s'.l.length≤s.l.length→Ok s' (rd s').2):Ok s (Y6 rd s).2:=by
 unfold Y6
 split
 ·exact Xv _ _
 ·exact lsLoop_ok _ _ s h
theorem opS_ok: ∀ (l:List (List UInt8)) (s:PSt),Ok s (opS l s).2
 | [],s=> .refl s
 | x::r,s=>by
  unfold opS
  split
  ·exact Xv x s
  ·exact opS_ok r s
theorem opS_lt: ∀ (l:List (List UInt8)) (s:PSt) (x:List UInt8),(opS l s).1=some x→(opS l s).2.l.length < s.l.length∧s.e=0
 | [],s,x,h=>by cases h
 | y::r,s,x,h=>by
  unfold opS at h ⊢
  split at h
  ·rename_i hc
   rw [if_pos hc]
   exact ⟨(Kg hc).1,(Kg hc).2.1⟩
  ·rename_i hc
   rw [if_neg hc]
   exact opS_lt r s x h
theorem opS_no: ∀ (l:List (List UInt8)) (s:PSt),(opS l s).1=none→(opS l s).2=s
 | [],s,h=>rfl
 | y::r,s,h=>by
  unfold opS at h ⊢
  split at h
  ·cases h
  ·rename_i hc
   rw [if_neg hc]
   exact opS_no r s h
theorem Ck {i:Nat} {nx:PSt→Nd×PSt}: ∀ (f:Nat) (out:Nd) (s:PSt),(∀ s',s'.l.length≤s.l.length→Ok s' (nx s').2)→Ok s (Ze i nx f out s).2
 | 0,out,s,h=> .refl s
 | f+1,out,s,h=>by
  have h1:=opS_ok (opL i) s
  unfold Ze
  split
  ·rename_i s1 e
   rw [e] at h1
   exact h1
  ·rename_i x s1 e
   rw [e] at h1
   have h2:=h1.trans (h s1 h1.len)
   split
   ·exact h2
   ·exact h2.trans (Ck f _ _ fun s' hs'=>h s' (Nat.le_trans hs' h2.len))
theorem Wd {un:PSt→Nd×PSt}: ∀ (k:Nat) (s:PSt),(∀ s',s'.l.length≤s.l.length→Ok s' (un s').2)→Ok s (Xs un k s).2
 | 0,s,h=>h s (Nat.le_refl _)
 | k+1,s,h=>by
  have h1:=Wd k s h
  unfold Xs
  exact h1.trans (Ck _ _ _ fun s' hs'=>Wd k s' fun s2 hs2=>h s2 (Nat.le_trans hs2 (Nat.le_trans hs' h1.len)))
theorem primS_ok {un:PSt→Nd×PSt} (s:PSt) (h: ∀ s',s'.l.length≤s.l.length→Ok s' (un s').2):Ok s (Bm un s).2:=by
 have t3:=takeS_ok 3 (by decide) s
 have t4:=takeS_ok 4 (by decide) s
 have hl: ∀ s2:PSt,s2.l.length≤s.l.length→Ok s2 (Xs un 5 s2).2:=fun s2 h2=>Wd 5 s2 fun s' h'=>h s' (Nat.le_trans h' h2)
 have hd: ∀ s2:PSt,s2.l.length≤s.l.length→Ok s2 (J8 (Xs un 5) s2).2:=fun s2 h2=>Bw s2 fun s' h'=>hl s' (Nat.le_trans h' h2)
 unfold Bm
 split
 ·rename_i g a s' e
  rw [e] at t3
  exact t3
 ·split
  ·rename_i g a s' e
   rw [e] at t4
   exact t4
  ·split
   ·exact Xv _ _
   ·split
    ·have h1:=Xv [40] s
     exact (h1.trans (hd _ h1.len)).trans (Xi _ _)
    ·have h1:=Nl s
     split
     ·have h2:=h1.trans (Xv [40] (nmS s).2)
      exact h2.trans (Br _ fun s' h'=>hd s' (Nat.le_trans h' h2.len))
     ·exact h1
theorem Bh: ∀ (n:Nat) (s:PSt),Ok s (unS n s).2
 | 0,s=> .refl s
 | n+1,s=>by
  have hd: ∀ s2:PSt,Ok s2 (J8 (unS n) s2).2:=fun s2=>Bw s2 fun s' _=>Bh n s'
  unfold unS
  split
  ·exact (Xv _ _).trans (hd _)
  ·split
   ·exact (Xv _ _).trans (hd _)
   ·exact primS_ok s fun s' _=>Bh n s'
theorem Z7 (s:PSt):Ok s (exS s).2:=Wd 5 s fun s' _=>Bh _ s'
theorem Cc {st:PSt→Nd×PSt} (h: ∀ s',Ok s' (st s').2): ∀ (f:Nat) (out:List Nd) (s:PSt),Ok s (Xh st f out s).2
 | 0,out,s=> .refl s
 | f+1,out,s=>by
  unfold Xh
  split
  ·split
   ·exact Xv _ _
   ·exact (h s).trans (Cc h f _ _)
  ·exact .refl s
theorem blockS_ok {st:PSt→Nd×PSt} (h: ∀ s',Ok s' (st s').2) (s:PSt):Ok s (Df st s).2:=(Xi [123] s).trans (Bw _ fun s' _=>Cc h _ _ s')
theorem ifS_ok {bl:PSt→Nd×PSt} (h: ∀ s',Ok s' (bl s').2) (s:PSt):Ok s (ifS bl s).2:=by
 unfold ifS
 have h1:=(Z7 s).trans (h (exS s).2)
 split
 ·exact (h1.trans (Xv _ _)).trans (h _)
 ·exact h1
theorem stmtS_ok {bl:PSt→Nd×PSt} (h: ∀ s',Ok s' (bl s').2) (s:PSt):Ok s (Zn bl s).2:=by
 unfold Zn
 split
 ·exact (Xv _ _).trans (ifS_ok h _)
 ·split
  ·exact ((Xv _ _).trans (Z7 _)).trans (h _)
  ·split
   ·exact (Xv _ _).trans (Xi _ _)
   ·split
    ·exact (((Nl s).trans (Xi _ _)).trans (Z7 _)).trans (Xi _ _)
    ·exact (Z7 s).trans (Xi _ _)
theorem Ks: ∀ (n:Nat) (s:PSt),Ok s (blS n s).2
 | 0,s=> .refl s
 | n+1,s=>blockS_ok (stmtS_ok (Ks n)) s
theorem B6 (s:PSt):Ok s (varS s).2:=Nl s
theorem onS_ok (s:PSt):Ok s (onS s).2:=((((Xi _ s).trans (Nl _)).trans (Xi _ _)).trans (Br _ fun s' _=>B6 s')).trans (Ks _ _)
theorem scLoop_ok: ∀ (f:Nat) (out:List Nd) (s:PSt),Ok s (scLoop f out s).2
 | 0,out,s=> .refl s
 | f+1,out,s=>by
  unfold scLoop
  split
  ·exact (onS_ok s).trans (scLoop_ok f _ _)
  ·exact .refl s
mutual
def cellsN:Nd→List VV
 | .mk op t n k=> [iV op,Qn t,iV n,.ro k.length (rowsN k)]
def rowsN:List Nd→List VV
 | []=> []
 | p::r=>cellsN p++rowsN r
end
def nV (n:Nd):VV:= .ag (cellsN n)
theorem X5: ∀ p:Nd,(cellsN p).length=4
 | .mk _ _ _ _=>by rw [cellsN];rfl
theorem Jd: ∀ l:List Nd,(rowsN l).length=l.length*4
 | []=>by rw [rowsN];rfl
 | p::r=>by
  rw [rowsN,List.length_append,X5,Jd r,List.length_cons]
  omega
theorem X1 (p:Nd): ∀ l:List Nd,rowsN (l++ [p])=rowsN l++cellsN p
 | []=>by simp only [List.nil_append,rowsN,List.append_nil]
 | q::r=>by rw [List.cons_append,rowsN,rowsN,X1 p r,List.append_assoc]
mutual
theorem Xp: ∀ p:Nd,∀ v∈cellsN p,Qd v
 | .mk k n t l=>fun v hv=>by
  rw [cellsN] at hv
  simp only [List.mem_cons,List.not_mem_nil,or_false] at hv
  rcases hv with rfl|rfl|rfl|rfl
  ·exact Qb _
  ·exact Qj n
  ·exact Qb _
  ·exact Qx (Qo l)
theorem Qo: ∀ l:List Nd,∀ v∈rowsN l,Qd v
 | []=>fun v hv=>by rw [rowsN] at hv;cases hv
 | p::r=>fun v hv=>by
  rw [rowsN] at hv
  rcases List.mem_append.1 hv with hv|hv
  ·exact Xp p v hv
  ·exact Qo r v hv
end
theorem Q0 (n:Nd):Qd (nV n):=Jz (Xp n)
def pC (s:PSt):VObj:= .cells true [.ro s.l.length (Ya s.l),iV s.d,iV s.e]
theorem Jt (l:List (Sg×Nat)):Qd (.ro l.length (Ya l)):=Qx (rowsG_ok Qd Qb l)
theorem Y5 {R:List (Nat×Nat)} {t:Nat} (s:PSt):Jx R t (pC s) (pC s):= .cells (.cons (.of (Jt s.l)) (.cons (.of (Qb _)) (.cons (.of (Qb _)) .nil)))
def Q5 (f:FuncId) (args:List VV) (s:PSt) (u:VV) (s':PSt):Prop:=Qc Tryz.prog f (.ptr 0 0::args) ⟨[(0,pC s)],1⟩ (fun v K=>v=u∧K=⟨[(0,pC s')],1⟩)
theorem Jh {D:List Nat} {b:Nat} (hb:Jl b D=true): ∀ O:List (Nat×VObj),Jl b ((Qs D O).map (·.1))=false
 | []=>rfl
 | (k,x)::r=>by
  have ih:=Jh hb r
  unfold Qs
  cases hm:Jl k D with
  | true=>exact ih
  | false =>
   simp only [List.map_cons]
   have hkb:b≠k:=fun e=>by rw [← e,hb] at hm;cases hm
   cases hq:Jl b (k::(Qs D r).map (·.1)) with
   | false=>rfl
   | true =>
    rcases List.mem_cons.1 (Qp.1 hq) with h|h
    ·exact absurd h hkb
    ·rw [Qp.2 h] at ih;cases ih
theorem Q5.at {f:FuncId} {args:List VV} {s s':PSt} {u:VV} (hu:Qd u) (ha: ∀ v∈args,Qd v) (h:Q5 f args s u s') {H:Heap} {b:Nat} (hb:H.get b=some (pC s)):Qc Tryz.prog f (.ptr b 0::args) H (fun v K=>v=u∧K=⟨(b,pC s')::Qs [b] H.objs,H.next⟩):=by
 refine Qc.live fun hlive=> ?_
 have hbl:=hlive b _ hb
 have e1:Nat.beq b b=true:=Nat.beq_refl b
 have e2:Nat.blt b H.next=true:=Qz.2 hbl
 have e7: ∀ n,Nat.ble 0 n=true:=fun n=>Nat.ble_eq_true_of_le (Nat.zero_le n)
 refine Qc.at (n1:=1) (O1:= [(0,pC s)]) [b] [(b,0)] ?_ ⟨⟨_,(Wi (Qp.2 (by simp))).trans hb,Y5 s⟩,trivial⟩ (.cons (.ptr (by simp)) (Qe.of ha)) h ?_
 ·rfl
 ·rintro v K ⟨rfl,rfl⟩
  have e0:Jm [(b,0)] 1 H.next (1 - 1)= [(0,b)]:=rfl
  have s1:Xb [(0,b)] 0 b=some 0:=by simp only [Q7,srcN,e1]
  refine ⟨v,[(b,pC s')],⟨?_,.of hu,?_⟩,?_,rfl,rfl⟩
  ·show (wfR 0 (H.next+0) (Jm [(b,0)] 1 H.next (1 - 1))&&nodupB (Zy (Jm [(b,0)] 1 H.next (1 - 1)) 0 [(b,pC s')])&&([(b,pC s')]:List (Nat×VObj)).all (fun p=>(srcN (Jm [(b,0)] 1 H.next (1 - 1)) p.1).isSome)&&_)=true
   rw [e0]
   simp only [wfR,Zy,s1,srcN,e1,e2,e7,Nat.add_zero,List.all_cons,List.all_nil]
   rfl
  ·show W1 (Jm [(b,0)] 1 H.next (1 - 1)) 0 ⟨[(0,pC s')],1⟩ _
   rw [e0]
   refine ⟨?_,trivial⟩
   rw [s1]
   exact ⟨_,rfl,Y5 s'⟩
  ·have e3:=Jh (D:= [b]) (b:=b) (Qp.2 (by simp)) H.objs
   simp only [List.all_cons,List.all_nil,e3]
   rfl
theorem Q5.of {f:FuncId} {args:List VV} {s s':PSt} {u:VV}
  (h:Qc Tryz.prog f (.ptr 0 0::args) ⟨[(0,pC s)],1⟩ (fun v K=>Wf 1 ⟨Qs [0] K.objs,K.next⟩ v u∧K.get 0=some (pC s'))):Q5 f args s u s':=by
 refine (Qc.trimC (Q':=fun v O2=>v=u∧O2= [(0,pC s')]) ?_ h ?_).mono ?_
 ·intro b x hx
  rw [Qy] at hx
  split at hx
  ·injection hx with hx
   exact ⟨_,.inl hx.symm⟩
  ·simp [hget] at hx
 ·rintro v K ⟨hf,g1⟩
  refine ⟨u,[(0,pC s')],rfl,fun b x hx=> ?_,⟨rfl,rfl⟩,hf⟩
  rw [Qy] at hx
  split at hx
  ·rename_i eb
   subst eb
   injection hx with hx
   subst hx
   refine ⟨g1,_,.inl rfl,fun v hv=> ?_⟩
   simp only [List.mem_cons,List.not_mem_nil,or_false] at hv
   rcases hv with rfl|rfl|rfl
   ·exact .of (Jt _)
   ·exact .of (Qb _)
   ·exact .of (Qb _)
  ·simp [hget] at hx
 ·rintro v K ⟨O2,⟨rfl,rfl⟩,rfl⟩
  exact ⟨rfl,rfl⟩
set_option maxRecDepth 100000
set_option maxHeartbeats 8000000
theorem Kn {g:Sg} {a o:Nat} {r:List (Sg×Nat)} (ho:o=0):vat Tryz.prog 159 (Ya ((g,a)::r)) o=some (.ag [iV g.kind,Qn g.text,iV g.num,iV a]):=by
 have h1:Wo Tryz.prog 159=some true:=by kernel_rfl
 have h2:Jr Tryz.prog 159=some 4:=by kernel_rfl
 subst ho
 have h3:Nat.ble (0+4) (Ya ((g,a)::r)).length=true:=Nat.ble_eq_true_of_le (by rw [Uq];simp only [List.length_cons];omega)
 simp only [vat,h1,h2,h3]
 rfl
theorem roG_tl {q:Sg×Nat} {r:List (Sg×Nat)} {m z1 z2:Nat} (hz1:z1=4) (hz2:z2=4) (hm:m=1):VV.ro ((q::r).length - m) (((Ya (q::r)).drop (m*z1)).take (((q::r).length - m)*z2))= .ro r.length (Ya r):=by
 subst hz1 hz2 hm
 have e:(Ya (q::r)).drop (1*4)=Ya r:=by
  show (sgV q.1 q.2++Ya r).drop 4=Ya r
  rfl
 rw [e,List.length_cons,Nat.add_sub_cancel,List.take_of_length_le (by rw [Uq];exact Nat.le_refl _)]
theorem Wf.tp0' {n:Nat} {K:Heap}:Wf n K (.tp []) (.tp []):= .of (Qt (by simp))
theorem fail_call (s:PSt) (f:Nat):Q5 106 [iV f] s (.tp []) (Ka f s):=by
 refine Q5.of ?_
 obtain ⟨l,d,e⟩:=s
 unfold Ka
 refine Qc.go Tryz.func106 rfl ?_
 by_cases he:e=0
 ·rw [if_pos he]
  repeat' (first|with_reducible refine And.intro ?_ ?_|(with_reducible intro hc;(try simp only [zz] at hc);try exact ct)|((conv=>whnf);first|(with_reducible first|refine And.intro ?_ ?_|intro hx|apply Val.via|apply Qk.via)|exact Is.mk rfl rfl|refine sp ?_|refine vx (by (first|exact Kn rfl|exact Qa rfl rfl rfl|rfl)) ?_|refine dY ?_|fail|refine sq ?_))
  (all_goals try exact om)
  all_goals exact Qg.mk ⟨.tp0',rfl⟩
 ·rw [if_neg he]
  repeat' (first|with_reducible refine And.intro ?_ ?_|(with_reducible intro hc;(try simp only [zz] at hc);try exact ct)|((conv=>whnf);first|(with_reducible first|refine And.intro ?_ ?_|intro hx|apply Val.via|apply Qk.via)|exact Is.mk rfl rfl|refine sp ?_|refine vx (by (first|exact Kn rfl|exact Qa rfl rfl rfl|rfl)) ?_|refine dY ?_|fail|refine sq ?_))
  (all_goals try exact om)
  all_goals exact Qg.mk ⟨.tp0',rfl⟩
theorem Cy (l:List (Sg×Nat)) (d e:Nat):pC ⟨l,d,e⟩= .cells true [.ro l.length (Ya l),iV d,iV e]:=rfl
theorem Ub (x:List UInt8) (s:PSt) (hw:WfL s.l) (hn:s.l.length≤100000):Q5 105 [Qn x] s (Xk (isS x s).1) (isS x s).2:=by
 refine Q5.of ?_
 obtain ⟨l,d,e⟩:=s
 obtain ⟨g,a,r,rfl⟩:=hw.ne
 obtain ⟨kd,tx,nm⟩:=g
 have hlc:((⟨kd,tx,nm⟩,a)::r:List (Sg×Nat)).length=r.length+1:=rfl
 dsimp only at hn
 unfold isS
 dsimp only
 rw [Cy]
 refine Qc.go Tryz.func105 rfl ?_
 by_cases hc0:e=0
 ·by_cases htx:tx=x
  ·by_cases hk:kd=2∨kd=5
   ·rw [if_pos ⟨hc0,htx,hk⟩]
    subst hc0 htx
    (repeat' (first|with_reducible refine And.intro ?_ ?_|(with_reducible intro hc;(try simp only [zz] at hc);try exact ct)|((conv=>whnf);first|(with_reducible first|refine And.intro ?_ ?_|intro hx|apply Val.via|apply Qk.via)|exact Is.mk rfl rfl|refine sp ?_|refine vx (by (first|exact Kn rfl|exact Qa rfl rfl rfl|rfl)) ?_|refine dY ?_|fail|refine sq ?_)))
    (all_goals try exact om)
    all_goals exact Qg.mk ⟨.of (Qb _),congrArg some (congrArg (VObj.cells true) (congrArg (· :: [iV d,iV 0]) (roG_tl rfl rfl rfl)))⟩
   ·rw [if_neg (fun h=>hk h.2.2)]
    (repeat' (first|with_reducible refine And.intro ?_ ?_|(with_reducible intro hc;(try simp only [zz] at hc);try exact ct)|((conv=>whnf);first|(with_reducible first|refine And.intro ?_ ?_|intro hx|apply Val.via|apply Qk.via)|exact Is.mk rfl rfl|refine sp ?_|refine vx (by (first|exact Kn rfl|exact Qa rfl rfl rfl|rfl)) ?_|refine dY ?_|fail|refine sq ?_)))
    (all_goals try exact om)
    all_goals exact Qg.mk ⟨.of (Qb _),rfl⟩
  ·rw [if_neg (fun h=>htx h.2.1)]
   (repeat' (first|with_reducible refine And.intro ?_ ?_|(with_reducible intro hc;(try simp only [zz] at hc);try exact ct)|((conv=>whnf);first|(with_reducible first|refine And.intro ?_ ?_|intro hx|apply Val.via|apply Qk.via)|exact Is.mk rfl rfl|refine sp ?_|refine vx (by (first|exact Kn rfl|exact Qa rfl rfl rfl|rfl)) ?_|refine dY ?_|fail|refine sq ?_)))
   (all_goals try exact om)
   all_goals exact Qg.mk ⟨.of (Qb _),rfl⟩
 ·rw [if_neg (fun h=>hc0 h.1)]
  (repeat' (first|with_reducible refine And.intro ?_ ?_|(with_reducible intro hc;(try simp only [zz] at hc);try exact ct)|((conv=>whnf);first|(with_reducible first|refine And.intro ?_ ?_|intro hx|apply Val.via|apply Qk.via)|exact Is.mk rfl rfl|refine sp ?_|refine vx (by (first|exact Kn rfl|exact Qa rfl rfl rfl|rfl)) ?_|refine dY ?_|fail|refine sq ?_)))
  (all_goals try exact om)
  all_goals exact Qg.mk ⟨.of (Qb _),rfl⟩
theorem take_call (k:Nat) (s:PSt) (hw:WfL s.l) (hn:s.l.length≤100000):Q5 107 [iV k] s (.tp [.ag (match (Zb k s).1 with|some (g,a)=>sgV g a|none=>sgV noSg 0),Xk (Zb k s).1.isSome]) (Zb k s).2:=by
 refine Q5.of ?_
 obtain ⟨l,d,e⟩:=s
 obtain ⟨g,a,r,rfl⟩:=hw.ne
 obtain ⟨kd,tx,nm⟩:=g
 have hlc:((⟨kd,tx,nm⟩,a)::r:List (Sg×Nat)).length=r.length+1:=rfl
 dsimp only at hn
 unfold Zb
 dsimp only
 rw [Cy]
 have hfz: ∀ (K:Heap) (g:Sg) (a:Nat) (b:Bool),Wf 1 K (.tp [.ag (sgV g a),Xk b]) (.tp [.ag (sgV g a),Xk b]):=fun K g a b=> .of (Qt (by simp [Xk,Qb];exact Jz (sgV_ok Qd Qb g a)))
 refine Qc.go Tryz.func107 rfl ?_
 by_cases hc:e=0∧kd=k
 ·rw [if_pos hc]
  obtain ⟨rfl,rfl⟩:=hc
  (repeat' (first|with_reducible refine And.intro ?_ ?_|(with_reducible intro hc;(try simp only [zz] at hc);try exact ct)|((conv=>whnf);first|(with_reducible first|refine And.intro ?_ ?_|intro hx|apply Val.via|apply Qk.via)|exact Is.mk rfl rfl|refine sp ?_|refine vx (by (first|exact Kn rfl|exact Qa rfl rfl rfl|rfl)) ?_|refine dY ?_|fail|refine sq ?_)))
  (all_goals try exact om)
  all_goals exact Qg.mk ⟨hfz _ ⟨kd,tx,nm⟩ a true,congrArg some (congrArg (VObj.cells true) (congrArg (· :: [iV d,iV 0]) (roG_tl rfl rfl rfl)))⟩
 ·rw [if_neg hc]
  by_cases hc0:e=0
  ·have hk: ¬ kd=k:=fun h=>hc ⟨hc0,h⟩
   (repeat' (first|with_reducible refine And.intro ?_ ?_|(with_reducible intro hc;(try simp only [zz] at hc);try exact ct)|((conv=>whnf);first|(with_reducible first|refine And.intro ?_ ?_|intro hx|apply Val.via|apply Qk.via)|exact Is.mk rfl rfl|refine sp ?_|refine vx (by (first|exact Kn rfl|exact Qa rfl rfl rfl|rfl)) ?_|refine dY ?_|fail|refine sq ?_)))
   (all_goals try exact om)
   all_goals exact Qg.mk ⟨hfz _ noSg 0 false,rfl⟩
  ·(repeat' (first|with_reducible refine And.intro ?_ ?_|(with_reducible intro hc;(try simp only [zz] at hc);try exact ct)|((conv=>whnf);first|(with_reducible first|refine And.intro ?_ ?_|intro hx|apply Val.via|apply Qk.via)|exact Is.mk rfl rfl|refine sp ?_|refine vx (by (first|exact Kn rfl|exact Qa rfl rfl rfl|rfl)) ?_|refine dY ?_|fail|refine sq ?_)))
   (all_goals try exact om)
   all_goals exact Qg.mk ⟨hfz _ noSg 0 false,rfl⟩
theorem Us (x:List UInt8) (s:PSt) (hw:WfL s.l) (hn:s.l.length≤100000):Q5 71 [Qn x] s (.tp []) (Jk x s):=by
 refine Q5.of ?_
 have k1:=fun (H:Heap) (hb:H.get 0=some (pC s))=>Q5.at (Qb _) (by simp [Qj]) (Ub x s hw hn) hb
 have k2:=fun s2 (H:Heap) (hb:H.get 0=some (pC s2))=>Q5.at (Qt (by simp)) (by simp [iV,Qb]) (fail_call s2 2) hb
 have hno:=Zf (x:=x) (s:=s)
 unfold Jk
 cases hi:(isS x s).1 with
 | true =>
  rw [hi] at k1
  rw [if_pos rfl]
  generalize (isS x s).2=s2 at *
  refine Qc.go Tryz.func71 rfl ?_
  (repeat' (first|with_reducible refine And.intro ?_ ?_|(with_reducible intro hc;(try simp only [zz] at hc);try exact ct)|((conv=>whnf);first|(with_reducible first|refine And.intro ?_ ?_|intro hx|apply Val.via|apply Qk.via)|exact Is.mk rfl rfl|refine sp ?_|refine vx (by (first|exact Kn rfl|exact Qa rfl rfl rfl|rfl)) ?_|refine dY ?_|(first|refine cl (k1 _ rfl) ?_|refine cl (k2 s _ rfl) ?_)|refine sq ?_)))
  (all_goals try exact om)
  all_goals exact Qg.mk ⟨.tp0',rfl⟩
 | false =>
  rw [hi,hno hi] at k1
  rw [if_neg (by decide)]
  refine Qc.go Tryz.func71 rfl ?_
  (repeat' (first|with_reducible refine And.intro ?_ ?_|(with_reducible intro hc;(try simp only [zz] at hc);try exact ct)|((conv=>whnf);first|(with_reducible first|refine And.intro ?_ ?_|intro hx|apply Val.via|apply Qk.via)|exact Is.mk rfl rfl|refine sp ?_|refine vx (by (first|exact Kn rfl|exact Qa rfl rfl rfl|rfl)) ?_|refine dY ?_|(first|refine cl (k1 _ rfl) ?_|refine cl (k2 s _ rfl) ?_)|refine sq ?_)))
  (all_goals try exact om)
  all_goals exact Qg.mk ⟨.tp0',rfl⟩
theorem Nk (s:PSt) (hw:WfL s.l) (hn:s.l.length≤100000):Q5 72 [] s (Qn (nmS s).1) (nmS s).2:=by
 refine Q5.of ?_
 have k1:=fun (H:Heap) (hb:H.get 0=some (pC s))=>Q5.at (Qt (by simp [Xk,Qb];exact Jz (by cases (Zb 1 s).1 <;> exact sgV_ok Qd Qb _ _))) (by simp [iV,Qb]) (take_call 1 s hw hn) hb
 have k2:=fun s2 (H:Heap) (hb:H.get 0=some (pC s2))=>Q5.at (Qt (by simp)) (by simp [iV,Qb]) (fail_call s2 2) hb
 unfold nmS
 cases ht:Zb 1 s with
 | mk o s2 =>
  rw [ht] at k1
  cases o with
  | none =>
   simp only [Option.isSome_none] at k1
   refine Qc.go Tryz.func72 rfl ?_
   (repeat' (first|with_reducible refine And.intro ?_ ?_|(with_reducible intro hc;(try simp only [zz] at hc);try exact ct)|((conv=>whnf);first|(with_reducible first|refine And.intro ?_ ?_|intro hx|apply Val.via|apply Qk.via)|exact Is.mk rfl rfl|refine sp ?_|refine vx (by (first|exact Kn rfl|exact Qa rfl rfl rfl|rfl)) ?_|refine dY ?_|(first|refine cl (k1 _ rfl) ?_|refine cl (k2 s2 _ rfl) ?_)|refine sq ?_)))
   (all_goals try exact om)
   all_goals exact Qg.mk ⟨.of (Qj _),rfl⟩
  | some p =>
   obtain ⟨g,a⟩:=p
   simp only [Option.isSome_some] at k1
   refine Qc.go Tryz.func72 rfl ?_
   (repeat' (first|with_reducible refine And.intro ?_ ?_|(with_reducible intro hc;(try simp only [zz] at hc);try exact ct)|((conv=>whnf);first|(with_reducible first|refine And.intro ?_ ?_|intro hx|apply Val.via|apply Qk.via)|exact Is.mk rfl rfl|refine sp ?_|refine vx (by (first|exact Kn rfl|exact Qa rfl rfl rfl|rfl)) ?_|refine dY ?_|(first|refine cl (k1 _ rfl) ?_|refine cl (k2 s2 _ rfl) ?_)|refine sq ?_)))
   (all_goals try exact om)
   all_goals exact Qg.mk ⟨.of (Qj _),rfl⟩
def roL (l:List (List UInt8)):VV:= .ro l.length (l.map Qn)
def lvR:List VV:= [roL (opL 0),roL (opL 1),roL (opL 2),roL (opL 3),roL (opL 4)]
theorem Bt (H:Heap):Qc Tryz.prog 162 [] H (fun x K=>x= .ro 5 lvR∧K=H):=by
 refine Qc.frozen (Q:=fun v K=>Frz K v (.ro 5 lvR)) (by simp) ?_ (fun v K h=>h)
 refine Qc.go Tryz.func162 rfl ?_
 (repeat' (first|with_reducible refine And.intro ?_ ?_|(with_reducible intro hc;(try simp only [zz] at hc);try exact ct)|((conv=>whnf);first|(with_reducible first|refine And.intro ?_ ?_|intro hx|apply Val.via|apply Qk.via)|exact Is.mk rfl rfl|refine sp ?_|refine vx (by rfl) ?_|refine dY ?_|fail|refine sq ?_)))
 (all_goals try exact om)
 have f1: ∀ {K:Heap} {b n:Nat} (l:List (List UInt8)),K.get b=some (.cells true (l.map Qn))→n=l.length→Frz K (.sl b 0 n (some n) 1) (roL l):=fun {K b n} l hg hn=>by
  subst hn
  have:=Frz.sl (K:=K) (b:=b) (o:=0) (n:=l.length) (z:=1) (c:=some l.length) hg (by simp) (Jf Qj l)
  rw [List.drop_zero,Nat.mul_one,List.take_of_length_le (by simp)] at this
  exact this
 exact Qg.mk (Frz.slL (b:=5) (o:=0) (n:=5) (z:=1) (us:=lvR) rfl (by decide) (.cons (f1 (opL 0) rfl rfl) (.cons (f1 (opL 1) rfl rfl) (.cons (f1 (opL 2) rfl rfl) (.cons (f1 (opL 3) rfl rfl) (.cons (f1 (opL 4) rfl rfl) .nil))))))
theorem lv_at {i o:Nat} (hi:i < 5) (ho:o=i):vat Tryz.prog 28 lvR o=some (roL (opL i)):=by
 subst ho
 have h1:Wo Tryz.prog 28=some false:=by kernel_rfl
 obtain rfl|rfl|rfl|rfl|rfl:o=0∨o=1∨o=2∨o=3∨o=4:=by omega
 all_goals (simp only [vat,h1];rfl)
theorem op_call (i:Nat) (hi:i < 5) (s:PSt) (hw:WfL s.l) (hn:s.l.length≤100000):Q5 164 [iV i] s (.tp [Qn ((opS (opL i) s).1.getD []),Xk (opS (opL i) s).1.isSome]) (opS (opL i) s).2:=by
 refine Q5.of ?_
 generalize hR:opS (opL i) s=R
 refine Qc.go Tryz.func164 rfl ?_
 have hlv:=fun o (ho:o=i)=>lv_at hi ho
 have hL:(opL i).length≤6:=by
  obtain rfl|rfl|rfl|rfl|rfl:i=0∨i=1∨i=2∨i=3∨i=4:=by omega
  all_goals decide
 generalize opL i=L at *
 (repeat' (first|with_reducible refine And.intro ?_ ?_|(with_reducible intro hc;(try simp only [zz] at hc);try exact ct)|((conv=>whnf);first|(with_reducible first|refine And.intro ?_ ?_|intro hx|apply Val.via|apply Qk.via)|exact Is.mk rfl rfl|refine sp ?_|refine vx (by (first|exact hlv _ (Q4 rfl rfl)|rfl)) ?_|refine dY ?_|(first|refine cl (Bt _) ?_)|refine sq ?_)))
 (all_goals try exact om)
 (refine Ju.mk (GWP.loopB [] (fun (j:Nat)=>j≤L.length∧opS (L.drop j) s=R) (fun j=> [(13,iV j)]) (fun _=> []) 1 (fun j=>L.length - j) 0 ⟨Nat.zero_le _,hR⟩ ?_);(conv=>whnf);refine And.intro ?_ ?_)
 ·focus (refine ka [] ?_ ?_;all_goals (repeat' (first|exact rz|refine And.intro ?_ ?_|refine Exists.intro _ (And.intro rfl ?_)|refine ro ?_|refine Qe.cons ?_ ?_|fail|exact rv)))
 rintro j ⟨g1,g2⟩
 simp only at g1 g2 ⊢
 by_cases hjl:j < L.length
 ·obtain ⟨x,hx⟩:=Z4 hjl
  have k1:=fun (H:Heap) (hb:H.get 0=some (pC s))=>Q5.at (Qb _) (by simp [Qj]) (Ub x s hw hn) hb
  have hd:L.drop j=x::L.drop (j+1):=by
   obtain ⟨hi,e⟩:=List.getElem?_eq_some_iff.1 hx
   rw [List.drop_eq_getElem_cons hi,e]
  rw [hd,opS] at g2
  have hno:=Zf (x:=x) (s:=s)
  cases hc:(isS x s).1 with
  | true =>
   rw [hc,if_pos rfl] at g2
   rw [hc] at k1
   subst g2
   (repeat' (first|with_reducible refine And.intro ?_ ?_|(with_reducible intro hc;(try simp only [zz] at hc);try exact ct)|((conv=>whnf);first|(with_reducible first|refine And.intro ?_ ?_|intro hx|apply Val.via|apply Qk.via)|exact Is.mk rfl rfl|refine sp ?_|refine vx (by (first|exact Qa vagg_str (Wc hx) (Q4 rfl rfl)|rfl)) ?_|refine dY ?_|refine cl (k1 _ rfl) ?_|refine sq ?_)))
   (all_goals try exact om)
   all_goals exact Qg.mk ⟨.of (Qt (by simp [Xk,Qn,Qb])),rfl⟩
  | false =>
   rw [hc,if_neg (by decide)] at g2
   rw [hc,hno hc] at k1
   (repeat' (first|with_reducible refine And.intro ?_ ?_|(with_reducible intro hc;(try simp only [zz] at hc);try exact ct)|((conv=>whnf);first|(with_reducible first|refine And.intro ?_ ?_|intro hx|apply Val.via|apply Qk.via)|exact Is.mk rfl rfl|refine sp ?_|refine vx (by (first|exact Qa vagg_str (Wc hx) (Q4 rfl rfl)|rfl)) ?_|refine dY ?_|refine cl (k1 _ rfl) ?_|refine sq ?_)))
   (all_goals try exact om)
   focus (refine Qg.mk ⟨j+1,⟨by omega,g2⟩,?_,ka [] ?_ ?_⟩;(first|omega|(simp only;omega));all_goals (repeat' (first|exact rz|refine And.intro ?_ ?_|refine Exists.intro _ (And.intro rfl ?_)|refine ro ?_|refine Qe.cons ?_ ?_|exact Qi.eq (Q9 (by omega)) (Qb _)|exact rv)))
 ·obtain rfl:j=L.length:=by omega
  rw [List.drop_length] at g2
  subst g2
  (repeat' (first|with_reducible refine And.intro ?_ ?_|(with_reducible intro hc;(try simp only [zz] at hc);try exact ct)|((conv=>whnf);first|(with_reducible first|refine And.intro ?_ ?_|intro hx|apply Val.via|apply Qk.via)|exact Is.mk rfl rfl|refine sp ?_|refine vx (by rfl) ?_|refine dY ?_|fail|refine sq ?_)))
  (all_goals try exact om)
  all_goals exact Qg.mk ⟨.of (Qt (by simp [Xk,Qn,Qb])),rfl⟩
theorem Ql {vs:List VV} {o:Nat} (hl:vs.length=4) (ho:o=0):vat Tryz.prog 63 vs o=some (.ag vs):=by
 have h1:Wo Tryz.prog 63=some true:=by kernel_rfl
 have h2:Jr Tryz.prog 63=some 4:=by kernel_rfl
 subst ho
 have h3:Nat.ble (0+4) vs.length=true:=Nat.ble_eq_true_of_le (by omega)
 simp only [vat,h1,h2,h3,List.drop_zero]
 rw [List.take_of_length_le (by omega)]
theorem GOp.drawn1 {o:Oper} {ts:List VV} {H:Heap} {i:Nat} {n:Nd} (ho:o.op= .buildSlice 61 1 #[(0,.tmp i)]) (hx:ts[i]? = some (nV n)) (ha:(ts.set i .junk).all scB=true) :
  GOp Tryz.prog o ts H (fun x K'=>Is x (.ro 1 (rowsN [n])) K' H):=⟨by
 obtain ⟨op,tx,nm,ks⟩:=n
 have hn2: ∀ v∈rowsN [.mk op tx nm ks],Qd v:=Qo _
 have hv:vop Tryz.prog o ts ⟨[],0⟩=some (.sl 0 0 1 (some 1) 4,⟨[(0,.cells true (rowsN [.mk op tx nm ks]))],1⟩):=by
  have hz:Jr Tryz.prog 63=some 4:=by kernel_rfl
  have hl:Kj Tryz.prog 63=some [.sc (.int .i64 0),.sc (.string ⟨#[]⟩),.sc (.int .i64 0),.sc (.slice none 0 0)]:=by kernel_rfl
  have he:Qh ts (.tmp i)= .ag [iV op,Qn tx,iV nm,.ro ks.length (rowsN ks)]:=by simp only [Qh,hx,Option.getD_some,nV,cellsN]
  have h1:cellsOf (.ag [iV op,Qn tx,iV nm,.ro ks.length (rowsN ks)])=some [iV op,Qn tx,iV nm,.ro ks.length (rowsN ks)]:=rfl
  simp only [vop,ho,Za,Tryz.underlying61,hz,hl,List.map_cons,List.map_nil,he,Bg,h1,rowsN,cellsN]
  rfl
 have hn: ∀ v∈ts,Qd v:=fun v hv=>by
  obtain ⟨j,hj,e⟩:=List.mem_iff_getElem.1 hv
  by_cases hji:j=i
  ·subst hji
   rw [List.getElem?_eq_getElem hj,e] at hx
   injection hx with hx
   subst hx
   exact Q0 _
  ·refine Zi (List.all_eq_true.1 ha v ?_)
   refine List.mem_iff_getElem.2 ⟨j,by simpa using hj,?_⟩
   rw [List.getElem_set_ne (fun h=>hji h.symm)]
   exact e
 refine (Q3.frozen (u:= .ro 1 (rowsN [.mk op tx nm ks])) hn hv ?_).mono fun x K' e=>⟨e.1,e.2⟩
 have:=Frz.sl (K:=⟨[(0,.cells true (rowsN [.mk op tx nm ks]))],1⟩) (b:=0) (o:=0) (n:=1) (z:=4) (c:=some 1) rfl (by rw [Jd];simp) hn2
 rw [List.drop_zero,List.take_of_length_le (by rw [Jd];simp)] at this
 exact this⟩
theorem GOp.drawn2 {o:Oper} {ts:List VV} {H:Heap} {i k:Nat} {n m:Nd} (ho:o.op= .buildSlice 61 2 #[(0,.tmp i),(1,.tmp k)]) (hx:ts[i]? = some (nV n)) (hy:ts[k]? = some (nV m)) (ha:((ts.set i .junk).set k .junk).all scB=true) :
  GOp Tryz.prog o ts H (fun x K'=>Is x (.ro 2 (rowsN [n,m])) K' H):=⟨by
 obtain ⟨op,tx,nm,ks⟩:=n
 obtain ⟨op2,tx2,nm2,ks2⟩:=m
 have hn2: ∀ v∈rowsN [.mk op tx nm ks,.mk op2 tx2 nm2 ks2],Qd v:=Qo _
 have hv:vop Tryz.prog o ts ⟨[],0⟩=some (.sl 0 0 2 (some 2) 4,⟨[(0,.cells true (rowsN [.mk op tx nm ks,.mk op2 tx2 nm2 ks2]))],1⟩):=by
  have hz:Jr Tryz.prog 63=some 4:=by kernel_rfl
  have hl:Kj Tryz.prog 63=some [.sc (.int .i64 0),.sc (.string ⟨#[]⟩),.sc (.int .i64 0),.sc (.slice none 0 0)]:=by kernel_rfl
  have he:Qh ts (.tmp i)= .ag [iV op,Qn tx,iV nm,.ro ks.length (rowsN ks)]:=by simp only [Qh,hx,Option.getD_some,nV,cellsN]
  have he2:Qh ts (.tmp k)= .ag [iV op2,Qn tx2,iV nm2,.ro ks2.length (rowsN ks2)]:=by simp only [Qh,hy,Option.getD_some,nV,cellsN]
  have h1:cellsOf (.ag [iV op,Qn tx,iV nm,.ro ks.length (rowsN ks)])=some [iV op,Qn tx,iV nm,.ro ks.length (rowsN ks)]:=rfl
  have h2:cellsOf (.ag [iV op2,Qn tx2,iV nm2,.ro ks2.length (rowsN ks2)])=some [iV op2,Qn tx2,iV nm2,.ro ks2.length (rowsN ks2)]:=rfl
  simp only [vop,ho,Za,Tryz.underlying61,hz,hl,List.map_cons,List.map_nil,he,he2,Bg,h1,h2,rowsN,cellsN]
  rfl
 have hn: ∀ v∈ts,Qd v:=fun v hv=>by
  obtain ⟨j,hj,e⟩:=List.mem_iff_getElem.1 hv
  by_cases hji:j=i
  ·subst hji
   rw [List.getElem?_eq_getElem hj,e] at hx
   injection hx with hx
   subst hx
   exact Q0 _
  ·by_cases hjk:j=k
   ·subst hjk
    rw [List.getElem?_eq_getElem hj,e] at hy
    injection hy with hy
    subst hy
    exact Q0 _
   ·refine Zi (List.all_eq_true.1 ha v ?_)
    refine List.mem_iff_getElem.2 ⟨j,by simpa using hj,?_⟩
    rw [List.getElem_set_ne (fun h=>hjk h.symm),List.getElem_set_ne (fun h=>hji h.symm)]
    exact e
 refine (Q3.frozen (u:= .ro 2 (rowsN [.mk op tx nm ks,.mk op2 tx2 nm2 ks2])) hn hv ?_).mono fun x K' e=>⟨e.1,e.2⟩
 have:=Frz.sl (K:=⟨[(0,.cells true (rowsN [.mk op tx nm ks,.mk op2 tx2 nm2 ks2]))],1⟩) (b:=0) (o:=0) (n:=2) (z:=4) (c:=some 2) rfl (by rw [Jd];simp) hn2
 rw [List.drop_zero,List.take_of_length_le (by rw [Jd];simp)] at this
 exact this⟩
end Go.Proofs.YtpbiblhkcomekaaGreat
