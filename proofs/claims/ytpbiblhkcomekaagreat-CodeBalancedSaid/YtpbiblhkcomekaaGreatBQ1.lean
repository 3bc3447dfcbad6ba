import Derived.Test.YtpbiblhkcomekaaGreatBE5
import Derived.Lib.SlicesCompact
import Derived.Sort.EncStr
import Derived.Lib.RowBridge
import Derived.Sort.Grow
import Derived.Test.YtpbiblhkcomekaaGreatShelf
/- Sets in order: the plain law. No program in sight. -/
namespace Go.Proofs.YtpbiblhkcomekaaGreat
open Go Go.RowKit
set_option linter.unusedSimpArgs false
set_option linter.unusedVariables false
set_option linter.unusedSectionVars false
section
variable {α:Type} [DecidableEq α] [Inhabited α] {lt:α→α→Bool}
structure LtOk (lt:α→α→Bool):Prop where
 irr: ∀ x,lt x x=false
 trans: ∀ x y z,lt x y=true→lt y z=true→lt x z=true
 tri: ∀ x y,lt x y=true∨x=y∨lt y x=true
theorem LtOk.asym (h:LtOk lt) {x y:α} (h1:lt x y=true) (h2:lt y x=true):False:=by
 have:=h.trans _ _ _ h1 h2
 rw [h.irr] at this;cases this
theorem LtOk.not (h:LtOk lt) {x y:α} (h1:lt x y=true):lt y x=false:=by
 cases h2:lt y x
 ·rfl
 ·exact (h.asym h1 h2).elim
def ofL (lt:α→α→Bool) (l:List α):List α:=Lib.compact (l.mergeSort fun x y=> !lt y x)
theorem at_eq (zs:List α) {i:Nat} (h:i < zs.length):zs.toArray[i]! = zs[i]:=by
 rw [getElem!_pos zs.toArray i (by simpa using h)];simp
theorem compact_mem (zs:List α) (x:α):x∈Lib.compact zs↔x∈zs:=by
 unfold Lib.compact Lib.compactUpTo
 constructor
 ·intro h
  obtain ⟨i,hi,rfl⟩:=List.mem_map.1 h
  have hi2:=List.mem_range.1 (List.mem_filter.1 hi).1
  rw [at_eq zs hi2]
  exact List.getElem_mem _
 ·have key: ∀ i,i < zs.length→zs.toArray[i]! ∈ ((List.range zs.length).filter (Lib.keeps zs.toArray)).map (zs.toArray[·]!):=by
   intro i
   induction i with
   | zero=>intro h;exact List.mem_map.2 ⟨0,List.mem_filter.2 ⟨List.mem_range.2 h,by simp [Lib.keeps]⟩,rfl⟩
   | succ i ih =>
    intro h
    by_cases hk:zs.toArray[i+1]! = zs.toArray[i]!
    ·rw [hk];exact ih (by omega)
    ·exact List.mem_map.2 ⟨i+1,List.mem_filter.2 ⟨List.mem_range.2 h,Lib.keeps_pos (by simpa using hk)⟩,rfl⟩
  intro h
  obtain ⟨i,hi,rfl⟩:=List.getElem_of_mem h
  rw [← at_eq zs hi]
  exact key i hi
theorem ofL_len (l:List α):(ofL lt l).length≤l.length:=by
 unfold ofL Lib.compact Lib.compactUpTo
 rw [List.length_map]
 exact Nat.le_trans (List.length_filter_le _ _) (by simp)
end
end Go.Proofs.YtpbiblhkcomekaaGreat
namespace Go.Proofs.YtpbiblhkcomekaaGreat
open Go Go.RowKit
set_option linter.unusedSimpArgs false
set_option linter.unusedVariables false
def ltS (x y:List UInt8):Bool:=decide (x < y)
end Go.Proofs.YtpbiblhkcomekaaGreat
namespace Go.Proofs.YtpbiblhkcomekaaGreat
open Go Go.RowKit Go.Sort
set_option linter.unusedSimpArgs false
set_option linter.unusedVariables false
theorem Qc.row {P:Program} {f:FuncId} {H:Heap} {b n:Nat} {c:Option Nat} {α:Type} [Inhabited α] (enc:α→Value) (encV:α→VV) (hto: ∀ x w Z ρ,Qf w Z ρ (encV x) (enc x)) (hinv: ∀ x w Z ρ y,Qf w Z ρ (encV x) y→y=enc x)
  (zs ys:List α) (hl:ys.length=zs.length) (hg:H.get b=some (.cells true (zs.map encV))) (hn:n=zs.length) (res:Nat→Nat→Value) (rv:VV)
  (hres: ∀ k c' w Z ρ,Qf w Z ρ (.sl b 0 n c 1) (.slice (some ⟨k,0,none⟩) n c')→Qf w Z ρ rv (res k c'))
  (h: ∀ k c' w,Holds enc w k 0 zs.toArray→k < w.heap.size→zs.length≤c'→Calls P f #[.slice (some ⟨k,0,none⟩) zs.length c'] w fun e w'=>e= .returned (res k c')∧ ∃ m os,w'=grow (putRow enc (Sort.ahead w m) k 0 ys.toArray) os) :
  Qc P f [.sl b 0 n c 1] H (fun v K=>v=rv∧K=H.set b (.cells true (ys.map encV))):=fun B M Z ρ w ra h1 h2=>by
 obtain ⟨hlen,hrel2⟩:=h2
 match hra:ra.toList,hlen with
 | [y],_ =>
  have hv:=hrel2 0 _ y rfl (by rw [hra];rfl)
  obtain rfl:ra= #[y]:=by
   cases ra
   simp only at hra
   rw [hra]
  cases hv with
  | @sl _ _ _ k N c' _ _ hk hcap hc hz =>
   obtain ⟨k',N',cs,t,fr,g1,g2,g3,g4,g5⟩:=h1.at_ hg
   rw [hk] at g1;injection g1 with g1;injection g1 with g1 g1';subst g1 g1'
   subst hn
   have hgl:=g4.length
   simp only [List.length_map,Array.length_toList] at hgl
   have hcell: ∀ j (hj:j < zs.length),cs[j]? = some (enc zs[j]):=fun j hj=>by
    obtain ⟨c0,hc0,hr0⟩:=g4 j (encV zs[j]) (by rw [List.getElem?_map,List.getElem?_eq_getElem hj];rfl)
    rw [hinv _ _ _ _ _ hr0] at hc0
    simpa using hc0
   have hH:Holds enc w k 0 zs.toArray:=fun j hj=>by
    have hj':j < zs.length:=by simpa using hj
    refine ⟨?_,?_⟩
    ·rw [Nat.zero_add,Js g2,hcell j hj']
     congr 2
     rw [getElem!_pos zs.toArray j hj]
     simp
    ·rw [Nat.zero_add,Y1 g2]
     exact nofr g5 (by omega)
   refine (h k c' w hH (h1.lt hg hk) hcap).mono ?_
   rintro e w' ⟨rfl,m,os,rfl⟩
   have e1:=Lib.putRow_eq_setCells enc w k 0 zs.toArray ys m hH (by simpa using hl)
   rw [e1]
   obtain ⟨s1,s2,s3,s4,s5,s6⟩:=Y3 k t fr (ys.map enc) 0 (w.drewN m) cs g2
   have hsize:(J3 cs.toList 0 (ys.map enc)).length=cs.size:=by rw [Zx];simp
   obtain ⟨x1,r1⟩:=h1.turn (y:= .cells true (ys.map encV)) hg hk rfl rfl s4 s5 s6 s3 s2 s1 ⟨_,t,fr,rfl,by simpa using hsize.trans g3,(fun i u hu=>by
    have hi:i < ys.length:=by
     have:=(List.getElem?_eq_some_iff.1 hu).1
     simpa using this
    rw [List.getElem?_map,List.getElem?_eq_getElem hi] at hu
    injection hu with hu
    subst hu
    refine ⟨enc ys[i],?_,hto _ _ _ _⟩
    show (J3 cs.toList 0 (ys.map enc))[i]? = _
    rw [Z5 _ _ _ _ (by simp;omega),if_pos (by simp;omega),Nat.sub_zero,List.getElem?_map,List.getElem?_eq_getElem hi]
    rfl),g5⟩
   obtain ⟨x2,r2⟩:=r1.step (Z':=Z) (w':=grow ((w.drewN m).setCells k 0 (ys.map enc)) os) rfl rfl rfl (by show _≤(_++os).size;simp) (fun j hj=>by show (_++os)[j]? = _;rw [Array.getElem?_append_left hj]) (fun _ h=>h) (fun _ h=> .inl h)
   exact ⟨res k c',rv,_,Z,ρ,rfl,⟨rfl,rfl⟩,x1.trans x2,r2,hres _ _ _ _ _ (.sl hk hcap hc hz)⟩
theorem Cg: ∀ (O:List (Nat×VObj)),Qs [] O=O
 | []=>rfl
 | (a,b)::r=>by simp [Qs,Jl,Cg r]
theorem memN_dom {O:List (Nat×VObj)} {b:Nat} (h:Jl b (O.map (·.1))=true): ∃ x,hget O b=some x:=by
 have key: ∀ (O:List (Nat×VObj)),b∈O.map (·.1)→ ∃ x,hget O b=some x:=by
  intro O
  induction O with
  | nil=>intro h;simp at h
  | cons p r ih =>
   obtain ⟨k,x⟩:=p
   intro h
   rw [Qy]
   split
   ·exact ⟨_,rfl⟩
   ·rename_i hne
    rcases List.mem_cons.1 h with e|h
    ·exact absurd e.symm hne
    ·exact ih h
 exact key O (Qp.1 h)
theorem Qc.newG {P:Program} {f:FuncId} {args:List VV} {n z:Nat} {vs:List VV} (ha: ∀ v∈args,Qd v) (hn: ∀ v∈vs,Qd v) (h:Qc P f args ⟨[],0⟩ (fun v K=>v= .gs 0 n z∧K=⟨[(0,.opt vs)],1⟩)) (H:Heap) :
  Qc P f args H (fun v K=>v= .gs H.next n z∧K=⟨(H.next,.opt vs)::H.objs,H.next+1⟩):=by
 refine Qc.live fun hlive=> ?_
 refine Qc.at (n1:=0) (O1:= []) [] [] rfl trivial (Qe.of ha) h ?_
 rintro v K ⟨rfl,rfl⟩
 have e3:Nat.blt H.next (H.next+1)=true:=Qz.2 (by omega)
 have s1:Xb [(0,H.next)] 0 H.next=some 0:=by simp only [Q7,srcN,Nat.beq_refl]
 refine ⟨.gs H.next n z,[(H.next,.opt vs)],⟨?_,.gs (List.Mem.head _),?_⟩,?_,rfl,?_⟩
 ·show (wfR 0 (H.next+1) [(0,H.next)]&&nodupB (Zy [(0,H.next)] 0 [(H.next,VObj.opt vs)])&&((srcN [(0,H.next)] H.next).isSome&&true)&&(true&&true))=true
  have s1':=(Q7 _ _).symm.trans s1
  simp only [Zy,s1,s1']
  simp only [wfR,srcN,e3]
  rfl
 ·refine ⟨?_,trivial⟩
  show (match Xb [(0,H.next)] 0 H.next with
   | some a=>_
   | none=>_)
  rw [s1]
  exact ⟨_,rfl,.opt (.of hn)⟩
 ·have k3:Jl H.next ((Qs [] H.objs).map (·.1))=false:=by
   cases hc:Jl H.next ((Qs [] H.objs).map (·.1)) with
   | false=>rfl
   | true =>
    rw [Cg] at hc
    obtain ⟨x,hx⟩:=memN_dom hc
    have:=hlive _ _ hx
    omega
  simp only [List.all_cons,List.all_nil,k3]
  rfl
 ·rw [Cg];rfl
theorem Qc.emp {P:Program} {f:FuncId} {H:Heap} (res:Option Addr→Nat→Value) (rv:VV) (hres: ∀ p c w Z ρ,Qf w Z ρ rv (res p c)) (h: ∀ p c w,Calls P f #[.slice p 0 c] w fun e w'=>e= .returned (res p c)∧w'=w):Qc P f [.ro 0 []] H (fun v K=>v=rv∧K=H):=fun B M Z ρ w ra h1 h2=>by
 obtain ⟨hlen,hrel2⟩:=h2
 match hra:ra.toList,hlen with
 | [y],_ =>
  have hv:=hrel2 0 _ y rfl (by rw [hra];rfl)
  obtain rfl:ra= #[y]:=by
   cases ra
   simp only at hra
   rw [hra]
  have: ∃ p c,y= .slice p 0 c:=by
   cases hv with
   | ro=>exact ⟨_,_,rfl⟩
   | ro0=>exact ⟨_,_,rfl⟩
  obtain ⟨p,c,rfl⟩:=this
  refine (h p c w).mono ?_
  rintro e w' ⟨rfl,rfl⟩
  exact ⟨_,rv,H,Z,ρ,rfl,⟨rfl,rfl⟩,Ext.refl _ _ _ _,h1,hres _ _ _ _ _⟩
theorem Qc.argV {P:Program} {f:FuncId} {args args':List VV} {H:Heap} {Q:VV→Heap→Prop} (hw: ∀ w Z ρ cs,Pw (Qf w Z ρ) args cs→Pw (Qf w Z ρ) args' cs) (h:Qc P f args' H Q):Qc P f args H Q :=
 fun B M Z ρ w ra h1 h2=>h B M Z ρ w ra h1 (hw _ _ _ _ h2)
theorem Dj {v u:VV} (h: ∀ w Z ρ y,Qf w Z ρ v y→Qf w Z ρ u y): ∀ w Z ρ cs,Pw (Qf w Z ρ) [v] cs→Pw (Qf w Z ρ) [u] cs:=fun w Z ρ cs hp=>by
 refine ⟨hp.1,fun i a x hu hx=> ?_⟩
 cases i with
 | zero =>
  simp at hu
  subst hu
  exact h _ _ _ _ (hp.2 0 _ x rfl hx)
 | succ i=>simp at hu
theorem weak_gsE {b z:Nat} {w:World} {Z:Nat→Prop} {ρ:Nat→Option (Nat×Nat)} {y:Value} (h:Qf w Z ρ (.gs b 0 z) y):Qf w Z ρ (.ro 0 []) y:=by
 cases h with
 | gs0=>exact .ro0
 | gs _ _ _ h0=>exact absurd rfl h0
theorem weak_gsS {b n z:Nat} (hn:n≠0) {w:World} {Z:Nat→Prop} {ρ:Nat→Option (Nat×Nat)} {y:Value} (h:Qf w Z ρ (.gs b n z) y):Qf w Z ρ (.sl b 0 n none z) y:=by
 cases h with
 | gs0=>exact absurd rfl hn
 | gs hk hcap hz h0=>exact .sl hk hcap (fun _ e=>by cases e) (fun _=>by omega)
theorem Qc.gsC {P:Program} {f:FuncId} {H:Heap} {Q:VV→Heap→Prop} {b n z:Nat} {vs:List VV} (hg:H.get b=some (.opt vs)) (hn:n≠0) (h:Qc P f [.sl b 0 n none z] (H.set b (.cells true vs)) Q):Qc P f [.gs b n z] H Q :=
 fun B M Z ρ w ra h1 h2=>by
  obtain ⟨hlen,hrel⟩:=h2
  match hra:ra.toList,hlen with
  | [y],_ =>
   have hv:=hrel 0 _ y rfl (by rw [hra];rfl)
   cases hv with
   | gs0=>exact absurd rfl hn
   | gs hk hcap hz h0 =>
    refine h B M Z ρ w ra (h1.toCells hg hk) (Dj (fun w Z ρ y=>weak_gsS hn) _ _ _ _ ⟨by rw [hra];rfl,fun i u x hu hx=> ?_⟩)
    rw [hra] at hx
    cases i with
    | zero =>
     simp at hu hx
     subst hu hx
     exact .gs hk hcap hz h0
    | succ i=>simp at hu
theorem Frz.ag {K:Heap}: ∀ {vs us:List VV},U8 K vs us→Frz K (.ag vs) (.ag us):=fun {vs us} h B w Z ρ ρ2 y hr hv=>by
 cases hv with
 | @ag _ cs h1 r1 =>
  obtain ⟨cs⟩:=cs
  simp only at h1 r1
  have key: ∀ {vs us:List VV} {cs:List Value},U8 K vs us→Pw (Qf w Z ρ) vs cs→Pw (Qf w (fun k=>Z k∨(B.heap.size≤k∧k < w.heap.size)) ρ2) us cs:=by
   intro vs us cs h
   induction h generalizing cs with
   | nil=>intro hp;exact ⟨hp.1,fun i u c hu=>by simp at hu⟩
   | @cons v u r s hvu _ ih =>
    intro hp
    match cs,hp with
    | c::ct,hp =>
     have h0:=hp.2 0 v c rfl rfl
     have ht:Pw (Qf w Z ρ) r ct:=⟨by have:=hp.1;simpa using this,fun i u c hu hc=>hp.2 (i+1) u c (by simpa using hu) (by simpa using hc)⟩
     exact Pw.cons (hvu B w Z ρ ρ2 c hr h0) (ih ht)
    | [],hp=>have:=hp.1;simp at this
  have:=key h ⟨h1,r1⟩
  exact .ag this.1 this.2
end Go.Proofs.YtpbiblhkcomekaaGreat
namespace Go.Proofs.YtpbiblhkcomekaaGreat
open Go Go.RowKit
set_option linter.unusedSimpArgs false
set_option linter.unusedVariables false
theorem Frx.ro0 {K:Heap}:Frx K (.ro 0 []) (.ro 0 []):=fun B w Z ρ ρ2 y _ hv=>by
 cases hv with
 | ro=>exact .ro0
 | ro0=>exact .ro0
theorem Frx.ag {K:Heap} {vs us:List VV} (h:FrxL K vs us):Frx K (.ag vs) (.ag us):=fun B w Z ρ ρ2 y hr hv=>by
 cases hv with
 | @ag _ cs h1 r1 =>
  obtain ⟨cs⟩:=cs
  simp only at h1 r1
  have key: ∀ {vs us:List VV} {cs:List Value},FrxL K vs us→Pw (Qf w Z ρ) vs cs→Pw (Qf w (fun k=>B.heap.size≤k∧k < w.heap.size) ρ2) us cs:=by
   intro vs us cs h
   induction h generalizing cs with
   | nil=>intro hp;exact ⟨hp.1,fun i u c hu=>by simp at hu⟩
   | @cons v u r s hvu _ ih =>
    intro hp
    match cs,hp with
    | c::ct,hp =>
     have h0:=hp.2 0 v c rfl rfl
     have ht:Pw (Qf w Z ρ) r ct:=⟨by have:=hp.1;simpa using this,fun i u c hu hc=>hp.2 (i+1) u c (by simpa using hu) (by simpa using hc)⟩
     exact Pw.cons (hvu B w Z ρ ρ2 c hr h0) (ih ht)
    | [],hp=>have:=hp.1;simp at this
  have:=key h ⟨h1,r1⟩
  exact .ag this.1 this.2
end Go.Proofs.YtpbiblhkcomekaaGreat
namespace Go.Proofs.YtpbiblhkcomekaaGreat
open Go Go.RowKit
set_option linter.unusedSimpArgs false
set_option linter.unusedVariables false
set_option maxRecDepth 100000
set_option maxHeartbeats 1000000
theorem sty_S:B2 Tryz.prog 28 1 16:=⟨⟨_,_,_,rfl,rfl,rfl,rfl,rfl,rfl⟩⟩
theorem one_S (l:List (List UInt8)):(l.map Qn).all VV.one=true:=by simp [Qn,VV.one]
theorem velems_S (l:List (List UInt8)) (H:Heap):Jv 1 (roS l) H=some (l.length,l.map Qn):=by simp [Jv,roS]
theorem cloneG0_S (x:List (List UInt8)) (hm:x.length≤1000000):Qc Tryz.prog 37 [roS x] ⟨[],0⟩ (fun v K=>v= .gs 0 x.length 1∧K=⟨[(0,.opt (x.map Qn))],1⟩):=by
 by_cases hl:x.length=0
 ·have hl2:=List.eq_nil_of_length_eq_zero hl
  subst hl2
  refine Qc.outR (Q:=fun v K=>(v= .sc (.slice none 0 0)∨ ∃ c,v= .sl c 0 0 (some 0) 1)) ?_ ?_
  ·refine Qc.go Tryz.func37 rfl ?_
   repeat' (first|with_reducible refine And.intro ?_ ?_|((with_reducible intro hc);(try simp only [zA,zB,zC,zD,zE,zF,zG,zH,zI,zJ,zK,zL,zM,zN,zO,zP,zQ,zR,zS,zT,zU,zV,zW] at hc);(first|exact absurd rfl hc|exact absurd trivial hc|(exfalso;omega)|skip))|((conv=>whnf);first|with_reducible refine And.intro ?_ ?_|refine Ji ?_ ?_|refine xA (by omega) ?_|(refine xB ?_;intro kw hk1 hk2)|refine xC (by omega) ?_|refine xD ?_|refine xE (by omega) ?_|refine xF (by omega) ?_|refine xG ?_|refine xH ?_|refine xI (by omega) ?_|refine xJ (by omega) ?_|(with_reducible refine Yq ?_)|refine Exists.intro _ (And.intro (by rfl) ?_)|refine GOp.via (by rfl) ?_|(with_reducible first|refine Qw ?_|refine Yn ?_|refine Yo ?_|refine X6 ?_|refine Ym ?_|refine Yp ?_|refine Yl ?_)))
   ·exact Qg.mk (.inl rfl)
   ·exact Qg.mk (.inr ⟨_,rfl⟩)
  ·rintro v K hv
   refine ⟨.gs 0 0 1,[(0,.opt [])],1,[],rfl,?_,⟨rfl,trivial⟩,rfl,rfl⟩
   rcases hv with rfl|⟨c,rfl⟩
   ·exact .gsN
   ·exact .gsZ
 ·refine Qc.outR (Q:=fun v K=>v= .sl 1 0 x.length none 1∧K.get 1=some (.cells true (x.map Qn))) ?_ ?_
  ·refine Qc.go Tryz.func37 rfl ?_
   repeat' (first|with_reducible refine And.intro ?_ ?_|((with_reducible intro hc);(try simp only [zA,zB,zC,zD,zE,zF,zG,zH,zI,zJ,zK,zL,zM,zN,zO,zP,zQ,zR,zS,zT,zU,zV,zW] at hc);(first|exact absurd rfl hc|exact absurd trivial hc|(exfalso;omega)|skip))|((conv=>whnf);first|with_reducible refine And.intro ?_ ?_|refine Ji ?_ ?_|refine xA (by omega) ?_|(refine xB ?_;intro kw hk1 hk2)|refine xC (by omega) ?_|refine xD ?_|refine xE (by omega) ?_|refine xF (by omega) ?_|refine xG ?_|refine xH ?_|refine xI (by omega) ?_|refine xJ (by omega) ?_|(with_reducible refine Yq ?_)|refine Exists.intro _ (And.intro (by rfl) ?_)|refine GOp.via (by rfl) ?_|(with_reducible first|refine Qw ?_|refine Yn ?_|refine Yo ?_|refine X6 ?_|refine Ym ?_|refine Yp ?_|refine Yl ?_)))
   refine Qr.via ((Um sty_S (d:= .slice 9) Tryz.underlying28 (by intro k h;cases h) (b:=0) (o:=0) (n:=0) (c:=0) (z':=1) (vs:= []) (rw:=true) (velems_S x _) (one_S x) rfl (by omega) (by omega) (by simp) (by omega) (by omega)).trans (by rw [Nat.zero_add])) ?_
   repeat' (first|with_reducible refine And.intro ?_ ?_|((with_reducible intro hc);(try simp only [zA,zB,zC,zD,zE,zF,zG,zH,zI,zJ,zK,zL,zM,zN,zO,zP,zQ,zR,zS,zT,zU,zV,zW] at hc);(first|exact absurd rfl hc|exact absurd trivial hc|(exfalso;omega)|skip))|((conv=>whnf);first|with_reducible refine And.intro ?_ ?_|refine Ji ?_ ?_|refine xA (by omega) ?_|(refine xB ?_;intro kw hk1 hk2)|refine xC (by omega) ?_|refine xD ?_|refine xE (by omega) ?_|refine xF (by omega) ?_|refine xG ?_|refine xH ?_|refine xI (by omega) ?_|refine xJ (by omega) ?_|(with_reducible refine Yq ?_)|refine Exists.intro _ (And.intro (by rfl) ?_)|refine GOp.via (by rfl) ?_|(with_reducible first|refine Qw ?_|refine Yn ?_|refine Yo ?_|refine X6 ?_|refine Ym ?_|refine Yp ?_|refine Yl ?_)))
   exact Qg.mk ⟨rfl,rfl⟩
  ·rintro v K ⟨rfl,h1⟩
   refine ⟨.gs 0 x.length 1,[(0,.opt (x.map Qn))],1,[(1,0)],rfl,.gsS (List.Mem.head _) rfl hl,⟨⟨_,h1,.toOpt (.of (Jf Qj x))⟩,trivial⟩,rfl,rfl⟩
theorem cloneG_S (x:List (List UInt8)) (hm:x.length≤1000000) (H:Heap):Qc Tryz.prog 37 [roS x] H (fun v K=>v= .gs H.next x.length 1∧K=⟨(H.next,.opt (x.map Qn))::H.objs,H.next+1⟩) :=
 Qc.newG (by simp [nameless_roS]) (Jf Qj x) (cloneG0_S x hm) H
def setV (v:VV):VV:= .ag [v]
theorem Qr.clipS {o:Oper} {ts:List VV} {H:Heap} {K:VV→Heap→Prop} {x hi mx:Operand} {k2 k3:IntKind} {b n:Nat} (hn:n≠0) (ho:o.op= .slice 28 x none (some hi) (some mx)) (hx:Qh ts x= .sl b 0 n none 1) (hhi:Qh ts hi= .sc (.int k2 (n:Int))) (hmx:Qh ts mx= .sc (.int k3 (n:Int)))
  (k:K (.sl b 0 n (some n) 1) H):Qr Tryz.prog o ts H K:=by
 refine Qr.via (v:= .sl b 0 n (some n) 1) (H':=H) ?_ k
 have hz:Jr Tryz.prog 9=some 1:=by kernel_rfl
 have c1:(0:Int)≤(n:Int)∧(n:Int)≤((n:Nat):Int):=⟨by omega,by omega⟩
 simp only [vop,ho,Na,Tryz.underlying28,hz,hx,Option.map_some,Option.map_none,hhi,hmx,Yf,Zq,Option.getD_none,if_pos c1,Int.toNat_natCast,if_neg hn,orE,X3,Nat.sub_zero]
theorem clipL_S {H:Heap} {b n:Nat} (hn:n≠0):Qc Tryz.prog 81 [.sl b 0 n none 1] H (fun v K=>v= .sl b 0 n (some n) 1∧K=H):=by
 refine Qc.go Tryz.func81 rfl ?_
 repeat' (first|with_reducible refine And.intro ?_ ?_|((with_reducible intro hc);(try simp only [zA,zB,zC,zD,zE,zF,zG,zH,zI,zJ,zK,zL,zM,zN,zO,zP,zQ,zR,zS,zT,zU,zV,zW] at hc);(first|exact absurd rfl hc|exact absurd trivial hc|(exfalso;omega)|skip))|((conv=>whnf);first|with_reducible refine And.intro ?_ ?_|refine Ji ?_ ?_|refine xA (by omega) ?_|(refine xB ?_;intro kw hk1 hk2)|refine xC (by omega) ?_|refine xD ?_|refine xE (by omega) ?_|refine xF (by omega) ?_|refine xG ?_|refine xH ?_|refine xI (by omega) ?_|refine xJ (by omega) ?_|(with_reducible refine Yq ?_)|refine Exists.intro _ (And.intro (by rfl) ?_)|refine GOp.via (by rfl) ?_|(with_reducible first|refine Qw ?_|refine Yn ?_|refine Yo ?_|refine X6 ?_|refine Ym ?_|refine Yp ?_|refine Yl ?_)))
 refine Qr.clipS hn rfl rfl rfl rfl ?_
 repeat' (first|with_reducible refine And.intro ?_ ?_|((with_reducible intro hc);(try simp only [zA,zB,zC,zD,zE,zF,zG,zH,zI,zJ,zK,zL,zM,zN,zO,zP,zQ,zR,zS,zT,zU,zV,zW] at hc);(first|exact absurd rfl hc|exact absurd trivial hc|(exfalso;omega)|skip))|((conv=>whnf);first|with_reducible refine And.intro ?_ ?_|refine Ji ?_ ?_|refine xA (by omega) ?_|(refine xB ?_;intro kw hk1 hk2)|refine xC (by omega) ?_|refine xD ?_|refine xE (by omega) ?_|refine xF (by omega) ?_|refine xG ?_|refine xH ?_|refine xI (by omega) ?_|refine xJ (by omega) ?_|(with_reducible refine Yq ?_)|refine Exists.intro _ (And.intro (by rfl) ?_)|refine GOp.via (by rfl) ?_|(with_reducible first|refine Qw ?_|refine Yn ?_|refine Yo ?_|refine X6 ?_|refine Ym ?_|refine Yp ?_|refine Yl ?_)))
 exact Qg.mk ⟨rfl,rfl⟩
theorem clip0_S {H:Heap}:Qc Tryz.prog 81 [.ro 0 []] H (fun v K=>v= .ro 0 []∧K=H):=by
 refine Qc.go Tryz.func81 rfl ?_
 repeat' (first|with_reducible refine And.intro ?_ ?_|((with_reducible intro hc);(try simp only [zA,zB,zC,zD,zE,zF,zG,zH,zI,zJ,zK,zL,zM,zN,zO,zP,zQ,zR,zS,zT,zU,zV,zW] at hc);(first|exact absurd rfl hc|exact absurd trivial hc|(exfalso;omega)|skip))|((conv=>whnf);first|with_reducible refine And.intro ?_ ?_|refine Ji ?_ ?_|refine xA (by omega) ?_|(refine xB ?_;intro kw hk1 hk2)|refine xC (by omega) ?_|refine xD ?_|refine xE (by omega) ?_|refine xF (by omega) ?_|refine xG ?_|refine xH ?_|refine xI (by omega) ?_|refine xJ (by omega) ?_|(with_reducible refine Yq ?_)|refine Exists.intro _ (And.intro (by rfl) ?_)|refine GOp.via (by rfl) ?_|(with_reducible first|refine Qw ?_|refine Yn ?_|refine Yo ?_|refine X6 ?_|refine Ym ?_|refine Yp ?_|refine Yl ?_)))
 exact Qg.mk ⟨rfl,rfl⟩
end Go.Proofs.YtpbiblhkcomekaaGreat
namespace Go.Proofs.YtpbiblhkcomekaaGreat
open Go Go.RowKit
set_option linter.unusedSimpArgs false
set_option linter.unusedVariables false
set_option maxRecDepth 100000
set_option maxHeartbeats 1000000
theorem grow_nilS (w:World):Sort.grow w #[]=w:=by
 obtain ⟨heap,a,b,c⟩:=w
 simp [Sort.grow]
theorem sort0_S {H:Heap}:Qc Tryz.prog 53 [.ro 0 []] H (fun v K=>v= .tp []∧K=H) :=
 Qc.emp (fun _ _=> .tuple #[]) (.tp []) (fun _ _ _ _ _=> .tp rfl (fun i u c hu _=>by simp at hu)) (fun p c w=>Tryz.slices_Sort_string_none p c w)
theorem compact0_S {H:Heap}:Qc Tryz.prog 82 [.ro 0 []] H (fun v K=>v= .ro 0 []∧K=H) :=
 Qc.emp (fun p c=> .slice p 0 c) (.ro 0 []) (fun _ _ _ _ _=> .ro0) (fun p c w=>Tryz.slices_Compact_string_empty p c w)
theorem sort_S {H:Heap} {b:Nat} {c:Option Nat} (zs:List (List UInt8)) (hl:zs.length≤1000000) (hg:H.get b=some (.cells true (zs.map Qn))):Qc Tryz.prog 53 [.sl b 0 zs.length c 1] H (fun v K=>v= .tp []∧K=H.set b (.cells true ((zs.mergeSort (fun x y=>decide (x≤y))).map Qn))) :=
 Qc.row encStr Qn (fun x w Z ρ=> .sc rfl) (fun x w Z ρ y h=>Jo h) zs _ (by simp) hg rfl (fun _ _=> .tuple #[]) (.tp []) (fun _ _ _ _ _ _=> .tp rfl (fun i u c hu _=>by simp at hu)) (fun k c' w hH hk hc=>Tryz.slices_Sort_string k 0 c' zs w hH hk (by omega))
theorem compact_S {H:Heap} {b:Nat} {c:Option Nat} (zs:List (List UInt8)) (hl:zs.length≤1000000) (hg:H.get b=some (.cells true (zs.map Qn))):Qc Tryz.prog 82 [.sl b 0 zs.length c 1] H (fun v K=>v= .sl b 0 (Lib.compact zs).length c 1∧K=H.set b (.cells true ((Lib.compact zs++List.replicate (zs.length - (Lib.compact zs).length) []).map Qn))):=by
 have hle:=Lib.compact_length_le zs
 exact Qc.row encStr Qn (fun x w Z ρ=> .sc rfl) (fun x w Z ρ y h=>Jo h) zs _ (by simp;omega) hg rfl (fun k c'=> .slice (some ⟨k,0,none⟩) (Lib.compact zs).length c') (.sl b 0 (Lib.compact zs).length c 1) (fun _ _ _ _ _ h=>by
  cases h with
  | sl hk hn hc hz=>exact .sl hk (by omega) hc hz) (fun k c' w hH hk hc=>(Tryz.slices_Compact_string k 0 c' zs w hH (by omega) hc).mono fun e w' ⟨h1,q,h2⟩=>⟨h1,q,#[],h2.trans (grow_nilS _).symm⟩)
theorem compact_pos {α:Type} [Inhabited α] [DecidableEq α] {zs:List α} (h:zs.length≠0):(Lib.compact zs).length≠0:=by
 match zs,h with
 | x::r,_ =>
  have:=(compact_mem (x::r) x).2 (by simp)
  intro e
  rw [List.eq_nil_of_length_eq_zero e] at this
  simp at this
theorem exact_mapS (l:List (List UInt8)): ∀ v∈l.map Qn,Exact v:=fun v hv=>by
 obtain ⟨x,_,rfl⟩:=List.mem_map.1 hv
 exact Y2 _
theorem frx_preS {K:Heap} {b n:Nat} {c:Option Nat} {cs rs:List (List UInt8)} (hg:K.get b=some (.cells true ((cs++rs).map Qn))) (hn:n=cs.length):Frx K (.sl b 0 n c 1) (roS cs):=by
 subst hn
 have:=Frx.sl (K:=K) (b:=b) (o:=0) (n:=cs.length) (z:=1) (c:=c) hg (by simp) (exact_mapS _)
 rw [List.drop_zero,Nat.mul_one,← List.map_take,List.take_left] at this
 exact this
theorem of0_S (l:List (List UInt8)) (hl:l.length≤100000):Qc Tryz.prog 48 [roS l] ⟨[],0⟩ (fun v K=>Frx K v (setV (roS (ofL ltS l)))):=by
 refine Qc.go Tryz.func48 rfl ?_
 have hlm:(l.mergeSort (fun x y=>decide (x≤y))).length=l.length:=by simp
 have hof:ofL ltS l=Lib.compact (l.mergeSort (fun x y=>decide (x≤y))):=by unfold ofL;rw [(show (fun x y:List UInt8=> !ltS y x)=(fun x y=>decide (x≤y)) by funext x y;rw [ltS,Bool.eq_iff_iff];simp)]
 by_cases h0:l.length=0
 ·have h2:=List.eq_nil_of_length_eq_zero h0
  subst h2
  have hs: ∀ (H:Heap) (b:Nat),Qc Tryz.prog 53 [.gs b 0 1] H (fun v K=>v= .tp []∧K=H):=fun H b=>Qc.argV (Dj fun w Z ρ y h=>weak_gsE h) sort0_S
  have hc: ∀ (H:Heap) (b:Nat),Qc Tryz.prog 82 [.gs b 0 1] H (fun v K=>v= .ro 0 []∧K=H):=fun H b=>Qc.argV (Dj fun w Z ρ y h=>weak_gsE h) compact0_S
  repeat' (first|with_reducible refine And.intro ?_ ?_|(with_reducible intro hc;(try simp only [zz] at hc);try exact ct)|((conv=>whnf);first|(with_reducible first|refine And.intro ?_ ?_|intro hx|apply Val.via|apply Qk.via)|exact Is.mk rfl rfl|refine sp ?_|refine vx (by (first|exact Qa rfl rfl rfl)) ?_|refine dY ?_|(first|refine cl (cloneG_S [] (by simp) _) ?_|refine cl (hs _ _) ?_|refine cl (hc _ _) ?_|refine cl (clip0_S) ?_)|refine sq ?_))
  rw [show ofL ltS ([]:List (List UInt8))= [] from List.eq_nil_of_length_eq_zero (by have:=ofL_len (lt:=ltS) ([]:List (List UInt8));simpa using this)]
  exact Qg.mk (Frx.ag (.cons Frx.ro0 .nil))
 ·have hs: ∀ (H:Heap) (hg:H.get 1=some (.opt (l.map Qn))),Qc Tryz.prog 53 [.gs 1 l.length 1] H (fun v K=>v= .tp []∧K=(H.set 1 (.cells true (l.map Qn))).set 1 (.cells true ((l.mergeSort (fun x y=>decide (x≤y))).map Qn))):=fun H hg=>Qc.gsC hg h0 (sort_S l (by omega) (by rw [Heap.get_set,if_pos rfl,hg];rfl))
  have hc: ∀ (H:Heap) (hg:H.get 1=some (.cells true ((l.mergeSort (fun x y=>decide (x≤y))).map Qn))),Qc Tryz.prog 82 [.gs 1 l.length 1] H (fun v K=>v= .sl 1 0 (Lib.compact (l.mergeSort (fun x y=>decide (x≤y)))).length none 1∧K=H.set 1 (.cells true ((Lib.compact (l.mergeSort (fun x y=>decide (x≤y)))++List.replicate ((l.mergeSort (fun x y=>decide (x≤y))).length - (Lib.compact (l.mergeSort (fun x y=>decide (x≤y)))).length) []).map Qn))):=fun H hg=>Qc.argV (Dj fun w Z ρ y h=>weak_gsS h0 h) (by
   have:=compact_S (c:=none) (l.mergeSort (fun x y=>decide (x≤y))) (by omega) hg
   rw [hlm] at this
   rw [hlm]
   exact this)
  have hcp:(Lib.compact (l.mergeSort (fun x y=>decide (x≤y)))).length≠0:=compact_pos (by omega)
  rw [hof]
  clear hof
  generalize Lib.compact (l.mergeSort (fun x y=>decide (x≤y)))=cs at *
  generalize l.mergeSort (fun x y=>decide (x≤y))=ms at *
  generalize List.replicate (ms.length - cs.length) ([]:(List UInt8))=rs at *
  repeat' (first|with_reducible refine And.intro ?_ ?_|(with_reducible intro hc;(try simp only [zz] at hc);try exact ct)|((conv=>whnf);first|(with_reducible first|refine And.intro ?_ ?_|intro hx|apply Val.via|apply Qk.via)|exact Is.mk rfl rfl|refine sp ?_|refine vx (by (first|exact Qa rfl rfl rfl)) ?_|refine dY ?_|(first|refine cl (cloneG_S l (by omega) _) ?_|refine cl (hs _ rfl) ?_|refine cl (hc _ rfl) ?_|refine cl (clipL_S hcp) ?_)|refine sq ?_))
  exact Qg.mk (Frx.ag (.cons (frx_preS (rs:=rs) rfl rfl) .nil))
theorem ofG_S {H:Heap} {b:Nat} (l:List (List UInt8)) (hl:l.length≤100000) (hg:H.get b=some (.opt (l.map Qn))) (n:Nat) (hn:n=l.length):Qc Tryz.prog 48 [.gs b n 1] H (fun v K=>v=setV (roS (ofL ltS l))∧K=H):=by
 subst hn
 exact Qc.viewed (args':= [roS l]) (Q:=fun v K=>Frx K v (setV (roS (ofL ltS l)))) (.cons (Cq.gs hg (by simp) (Jf Qj l)) .nil) (of0_S l hl) (fun v K h=>h)
end Go.Proofs.YtpbiblhkcomekaaGreat
