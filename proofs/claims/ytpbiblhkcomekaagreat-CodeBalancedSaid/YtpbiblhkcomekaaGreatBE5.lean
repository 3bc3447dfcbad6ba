import Derived.Test.YtpbiblhkcomekaaGreatBE4
import Derived.Test.YtpbiblhkcomekaaGreatChecked
/- Helpers over this seat's program: bytes, texts, slices that grow, frozen rows. -/
namespace Go.Proofs.YtpbiblhkcomekaaGreat
open Go Go.RowKit
set_option linter.unusedSimpArgs false
set_option linter.unusedVariables false
set_option maxRecDepth 100000
set_option maxHeartbeats 4000000
theorem mixed:(Tryz.prog).follows .mixedOrders=true:=by kernel_rfl
theorem vagg_u8:Wo Tryz.prog 5=some false:=by kernel_rfl
theorem one_map (l:List UInt8):(l.map bV).all VV.one=true:=by simp [bV,VV.one]
theorem vop_store {P:Program} {o:Oper} {ts:List VV} {H H':Heap} {t:TypeId} {a x:Operand} (ho:o.op= .store t a x) (h:vstore P t (Qh ts a) (Qh ts x) H=some H'):vop P o ts H=some (.tp [],H'):=by
 simp only [vop,ho,h]
theorem vop_make {P:Program} {o:Oper} {ts:List VV} {H:Heap} {r:VV×Heap} {t:TypeId} {a x:Operand} (ho:o.op= .makeSlice t a x) (h:Kl P t (Qh ts a) (Qh ts x) H=some r):vop P o ts H=some r:=by
 simp only [vop,ho,h]
theorem sty_b:B2 Tryz.prog 22 1 1:=⟨⟨_,_,_,rfl,rfl,rfl,rfl,rfl,rfl⟩⟩
theorem velems_roB (l:List UInt8) (H:Heap):Jv 1 (roB l) H=some (l.length,l.map bV):=by simp [Jv,roB]
theorem Qr.ownB {l:List UInt8} {o:Oper} {ts:List VV} {H:Heap} {K:VV→Heap→Prop} {s x:Operand} {b:Nat} {vs:List VV} (ho:o.op= .call ⟨.builtin .append,#[s,x],#[22,22]⟩) (hs:Qh ts s= .sl b 0 0 (some 0) 1) (hx:Qh ts x=roB l) (hl:l.length≤140737488355328)
  (hg:H.get b=some (.cells true vs)) (hrw:AllRw H) (k:K (roB l) ⟨H.objs,H.next+1⟩):Qr Tryz.prog o ts H K:=by
 by_cases h0:l.length=0
 ·have:l= []:=List.eq_nil_of_length_eq_zero h0
  subst this
  refine Qr.weak (v:= .sl b 0 0 (some 0) 1) (H':=H) (n:=H.next+1) (C3 ho ?_) (fun w Z ρ y h=>weak_sl0 h) (Nat.le_succ _) k
  rw [hs,hx]
  exact vapp_zero sty_b (d:= .slice 5) Tryz.underlying22 (by intro k h;cases h) (.inl ⟨_,_,_,_,rfl⟩) (velems_roB [] _)
 ·refine Qr.fresh (n:=l.length) (z:=1) (c:=none) (vs:=l.map bV) (us:=l.map bV) hrw (C3 ho ?_) (by simp) (Jf Zd l) (by rw [List.take_of_length_le (by simp)]) k
  rw [hs,hx]
  have:=Um sty_b (d:= .slice 5) Tryz.underlying22 (by intro k h;cases h) (o:=0) (n:=0) (c:=0) (z':=1) (rw:=true) (velems_roB l H) (one_map l) hg (by omega) (by omega) (by simp) (by omega) (by omega)
  rw [this,Nat.zero_add]
  simp
theorem Qi.slE {R:List (Nat×Nat)} {t b b' o n n' z:Nat} {c:Option Nat} (h:(b,b')∈R) (e:n=n'):Qi R t (.sl b o n c z) (.sl b' o n' c z):=by subst e;exact .sl h
theorem Qe.eq {R:List (Nat×Nat)} {t:Nat} {vs us:List VV} (e:vs=us) (h: ∀ v∈us,Qd v):Qe R t vs us:=by subst e;exact .of h
theorem Frz.eq {K:Heap} {v u:VV} (e:v=u) (h:Qd u):Frz K v u:=by subst e;exact .of h
theorem vagg_str:Wo Tryz.prog 9=some false:=by kernel_rfl
theorem Wc {l:List (List UInt8)} {i:Nat} {b:List UInt8} (h:l[i]? = some b):(l.map Qn)[i]? = some (Qn b):=by
 rw [List.getElem?_map,h];rfl
theorem Z4 {α:Type} {l:List α} {i:Nat} (h:i < l.length): ∃ c,l[i]? = some c:=⟨l[i],by simp⟩
theorem Q9 {k:IntKind} {x y:Int} (h:x=y):VV.sc (.int k x)=VV.sc (.int k y):=by subst h;rfl
theorem vslice_e {t:TypeId} {e:TypeId} {z:Nat} {b q n l:Nat} {lo hi:Option VV} (hu:(Tryz.prog).underlying t=some (.slice e)) (hz:Jr Tryz.prog e=some z) (hb:Yf n n lo hi none=some (l,l,none)) (hl:0 < l):Na Tryz.prog t (.sl b q n none z) lo hi none=some (.ro 0 []):=by
 simp only [Na,hu,hz,Option.getD_none,hb,if_true]
 rw [if_neg (by omega)]
theorem Qr.slE {o:Oper} {ts:List VV} {H:Heap} {K:VV→Heap→Prop} {t e:TypeId} {x:Operand} {lo hi:Option Operand} {b q n z l:Nat} (ho:o.op= .slice t x lo hi none) (hu:(Tryz.prog).underlying t=some (.slice e)) (hz:Jr Tryz.prog e=some z) (hx:Qh ts x= .sl b q n none z) (hb:Yf n n (lo.map (Qh ts)) (hi.map (Qh ts)) none=some (l,l,none)) (hl:0 < l) (k:K (.ro 0 []) H):Qr Tryz.prog o ts H K:=by
 refine Qr.via (v:= .ro 0 []) (H':=H) ?_ k
 simp only [vop,ho,hx,Option.map_none,vslice_e hu hz hb hl,orE,X3]
theorem Qc.closedA {P:Program} {f:FuncId} {args:List VV} {H:Heap} (hm:P.follows .mixedOrders=true) (n:Nat) {u:Value} (ha: ∀ v∈args,Qd v) (h:isV (Ue P (Xw P n) f args ⟨[],0⟩) (.sc u)=true):Qc P f args H (fun v K=>v= .sc u∧K=H):=by
 unfold isV at h
 split at h
 ·rename_i v K hr
  have:=veq_eq h
  subst this
  refine (Qc.apart (Q:=fun x K'=>x= .sc u∧K'=K) ha (Qc.run hm n hr) (fun v K e=>e.1 ▸ Y2 u)).mono ?_
  rintro v K' ⟨⟨_,e,_⟩,e2⟩
  exact ⟨e,e2⟩
 ·simp at h
theorem Qc.arg21 {P:Program} {f:FuncId} {v u a:VV} {H:Heap} {Q:VV→Heap→Prop} (e:v=u) (h:Qc P f [u,a] H Q):Qc P f [v,a] H Q:=e ▸ h
inductive FrxL (K:Heap):List VV→List VV→Prop
 | nil:FrxL K [] []
 | cons {v u:VV} {r s:List VV} (h:Frx K v u) (t:FrxL K r s):FrxL K (v::r) (u::s)
theorem Frx.tp {K:Heap} {vs us:List VV} (h:FrxL K vs us):Frx K (.tp vs) (.tp us):=fun B w Z ρ ρ2 y hr hv=>by
 cases hv with
 | @tp _ cs h1 r1 =>
  obtain ⟨cs⟩:=cs
  simp only at h1 r1
  have key: ∀ {vs us:List VV} {cs:List Value},FrxL K vs us→Pw (Qf w Z ρ) vs cs→Pw (Qf w (fun k=>B.heap.size≤k∧k < w.heap.size) ρ2) us cs:=by
   intro vs us cs h
   induction h generalizing cs with
   | nil=>intro hp;exact ⟨hp.1,fun i u c hu=>by simp at hu⟩
   | @cons v u r s hvu _ ih =>
    intro hp
    match cs,hp with
    | c::ct,hp =>
     have h0:=hp.2 0 v c rfl rfl
     have ht:Pw (Qf w Z ρ) r ct:=⟨by have:=hp.1;simpa using this,fun i u c hu hc=>hp.2 (i+1) u c (by simpa using hu) (by simpa using hc)⟩
     exact Pw.cons (hvu B w Z ρ ρ2 c hr h0) (ih ht)
  have:=key h ⟨h1,r1⟩
  exact .tp this.1 this.2
theorem Frx.nil0 {K:Heap} {c:Nat}:Frx K (.sc (.slice none 0 c)) (.ro 0 []):=fun B w Z ρ ρ2 y _ hv=>by
 cases hv
 exact .ro0
theorem Qc.bytes {P:Program} {f:FuncId} (hm:P.follows .mixedOrders=true) (n:Nat) (g:UInt8→Bool) (h:((List.range 256).all fun k=>isV (Ue P (Xw P n) f [.sc (.int .u8 (k:Int))] ⟨[],0⟩) (.sc (.bool (g (UInt8.ofNat k)))))=true) (b:UInt8) (H:Heap):Qc P f [bV b] H (fun x K=>x=Xk (g b)∧K=H):=by
 have hb:=List.all_eq_true.1 h b.toNat (List.mem_range.2 (u8_lt b))
 rw [UInt8.ofNat_toNat] at hb
 unfold isV at hb
 split at hb
 ·rename_i v K hr
  have:=veq_eq hb
  subst this
  refine (Qc.apart (Q:=fun x K'=>x= .sc (.bool (g b))∧K'=K) (by simp [Qb,bV]) (Qc.run hm n hr) (fun v K e=>e.1 ▸ Y2 _)).mono ?_
  rintro v K' ⟨⟨_,e,_⟩,e2⟩
  exact ⟨e,e2⟩
 ·simp at hb
structure GRnd (P:Program) (r:Option Nat) (c:Code) (Q:Exit→VSt→Prop) (n:Nat) (s:VSt):Prop where
 out:Cp P r c Q n s
structure GRnd' (P:Program) (r:Option Nat) (c:Code) (Q:Exit→VSt→Prop) (n:Nat) (s:VSt):Prop where
 out:GRnd P r c Q n s
theorem Ym {P:Program} {r:Option Nat} {c:Code} {Q:Exit→VSt→Prop} {s:VSt} {n:Nat} (h:GRnd' P r c Q n s):GRnd P r c Q n s:=h.out
theorem GWP.step {P:Program} {r:Option Nat} {c:Code} {Q:Exit→VSt→Prop} {s:VSt} {n:Nat} (h:Nx P r c (Dr (fun s'=>GRnd P r c Q n s') Q) s):GRnd P r c Q (n+1) s:=⟨(Y8 h).mono fun e s' q=>by
 cases e with
 | normal=>exact q.out
 | _=>exact q⟩
theorem GRnd'.step {P:Program} {r:Option Nat} {c:Code} {Q:Exit→VSt→Prop} {s:VSt} {n:Nat} (h:Nx P r c (Dr (fun s'=>GRnd P r c Q n s') Q) s):GRnd' P r c Q (n+1) s:=⟨GWP.step h⟩
theorem GWP.rounds {P:Program} {r:Option Nat} {c:Code} {Q:Exit→VSt→Prop} {s:VSt} (n:Nat) (h:GRnd P r c Q n s):GWP P r (.loop c) Q s:=⟨VWP.rounds n h.out⟩
theorem GQuo.t {a b:Int} {K:Int→Prop} (h: -9223372036854775807≤a∧a≤9223372036854775807) (k:K (a.tdiv b)):GQuo .i64 a b K:=⟨by
 have h1:(a.tdiv b).natAbs≤a.natAbs:=by rw [Int.natAbs_tdiv];exact Nat.div_le_self _ _
 rw [Be (by omega) (by omega)]
 exact k⟩
theorem Qr.eqAg {P:Program} {o:Oper} {ts:List VV} {H:Heap} {K:VV→Heap→Prop} {op:BinOp} {t:TypeId} {x y:Operand} {p:TypeId} {us vs:List VV} {xs ys:List Value} {b:Bool} (ho:o.op= .binOp op t x y p) (hop:op= .eql∨op= .neq) (hx:Qh ts x= .ag us) (hy:Qh ts y= .ag vs) (hxs:plainL us=some xs) (hys:plainL vs=some ys)
  (hg:P.eqGuardType P.depth t=false) (he: ∀ w,(Op.equal t (.agg xs.toArray) (.agg ys.toArray)).run P w= .ok b w) (k:K (.sc (.bool (if op= .eql then b else !b))) H):Qr P o ts H K:=⟨⟨by
 refine Q3.exec' k (fun c e=>by simp [ho] at e) fun av w Z ρ hr=>⟨_,?_,.sc rfl⟩
 have e1:av x= .agg xs.toArray:=Dx (v:= .ag us) (by simp only [plain,hxs]) (hx ▸ hr x)
 have e2:av y= .agg ys.toArray:=Dx (v:= .ag vs) (by simp only [plain,hys]) (hy ▸ hr y)
 rcases hop with rfl|rfl
 ·simp [execOp,ho,e1,e2,eqGuard,binOp,he,hg]
 ·simp [execOp,ho,e1,e2,eqGuard,binOp,he,hg]⟩⟩
def scB:VV→Bool
 | .sc _=>true
 | .junk=>true
 | .tp []=>true
 | _=>false
theorem Zi {v:VV} (h:scB v=true):Qd v:=by
 unfold scB at h
 split at h
 ·exact Qb _
 ·exact fun w Z ρ ρ' y _=> .junk
 ·exact Qt (by simp)
 ·simp at h
theorem Q3.frozen {P:Program} {o:Oper} {ts:List VV} {H H':Heap} {v u:VV} (ha: ∀ v∈ts,Qd v) (h:vop P o ts ⟨[],0⟩=some (v,H')) (hf:Frz H' v u):Q3 P o ts H (fun x K=>x=u∧K=H):=fun B M Z ρ a w rr KK QE h1 h2 h3=>by
 have hp:Pw (Qf w Z (fun _=>none)) ts a.tmps.toList:=⟨h2.1,fun i u c hu hc=>ha u (List.mem_of_getElem? hu) _ _ _ _ _ (h2.2 i u c hu hc)⟩
 refine Q3.plain h w (fun _=>False) Z (fun _=>none) a w rr KK QE (rel_apart h1) hp ?_
 rintro v' x K' Z' ρ' w' ⟨rfl,rfl⟩ e1 r1 v1
 obtain ⟨e2,r2⟩:=h1.step (Z':=fun k=>Z k∨(w.heap.size≤k∧k < w'.heap.size)) r1.os r1.tape r1.output r1.size (fun k hk=>r1.frame k hk id) (fun _ h=> .inl h) (fun _ h=>h)
 refine h3 v' u H _ ρ w' ⟨rfl,rfl⟩ e2 r2 ?_
 refine (hf w w' Z' ρ' ρ v' r1 v1).zmono fun k hk=> ?_
 rcases hk with hk|hk
 ·rcases e1.znew k hk with h|h|h|h
  ·exact .inl h
  ·exact .inr ⟨h,r1.zlt k hk⟩
  ·exact .inr ⟨h,r1.zlt k hk⟩
  ·exact h.elim
 ·exact .inr hk
theorem GOp.drawn {P:Program} {o:Oper} {ts:List VV} {H:Heap} {n z:Nat} {c:Option Nat} {vs:List VV} (ha:ts.all scB=true) (h:vop P o ts ⟨[],0⟩=some (.sl 0 0 n c z,⟨[(0,.cells true vs)],1⟩)) (hl:n*z≤vs.length) (hn:vs.all scB=true) :
  GOp P o ts H (fun x K'=>Is x (.ro n (vs.take (n*z))) K' H):=⟨by
 refine (Q3.frozen (u:= .ro n (vs.take (n*z))) (fun v hv=>Zi (List.all_eq_true.1 ha v hv)) h ?_).mono fun x K' e=>⟨e.1,e.2⟩
 have:=Frz.sl (K:=⟨[(0,.cells true vs)],1⟩) (b:=0) (o:=0) (n:=n) (z:=z) (c:=c) rfl (by omega) (fun v hv=>Zi (List.all_eq_true.1 hn v hv))
 rwa [List.drop_zero] at this⟩
theorem Ju.keep {P:Program} {r:Option Nat} {c:Code} {Q:Exit→VSt→Prop} {s:VSt} (l:List (Nat×VV)) (n:Nat) (O:List (Nat×VObj)) (nx:Nat) (hn:s.tmps.length=n) (hf:FitT l s.tmps) (hnx:s.heap.next=nx) (hg:Gets s.heap O) (h:forceT (Jj l n 0) fun ts=>GWP P r c Q ⟨ts,⟨O,nx⟩,s.marks⟩):Ju P r c Q s:=⟨⟨by
 rw [Wj] at h
 refine VWP.weaken (s1:=⟨Jj l n 0,⟨O,nx⟩,s.marks⟩) rfl hnx.symm (fun b x h=>(hg.get h).1) (fun w Z ρ cs hp=>⟨?_,?_⟩) h.out
 ·rw [Z0,← hn];exact hp.1
 ·intro i u x hu hx
  simp only [Wx] at hu
  split at hu
  ·simp at hu
   rcases lookT_cases l s.tmps i hf with e|e
   ·rw [← hu,e];exact .junk
   ·exact hp.2 i u x (by rw [e,hu]) hx
  ·simp at hu⟩⟩
theorem equal_call (a b:List UInt8) (H:Heap):Qc Tryz.prog 146 [roB a,roB b] H (fun x K=>x=Xk (a==b)∧K=H):=by
 refine Qc.go Tryz.func146 rfl ?_
 repeat' (first|with_reducible refine And.intro ?_ ?_|((with_reducible intro hc);(try simp only [zA,zB,zC,zD,zE,zF,zG,zH,zI,zJ,zK,zL,zM,zN,zO,zP,zQ,zR,zS,zT,zU,zV,zW] at hc);(first|exact absurd rfl hc|exact absurd trivial hc|(exfalso;omega)|skip))|((conv=>whnf);first|with_reducible refine And.intro ?_ ?_|refine Ji ?_ ?_|refine xA (by omega) ?_|(refine xB ?_;intro kw hk1 hk2)|refine xC (by omega) ?_|refine xD ?_|refine xE (by omega) ?_|refine xF (by omega) ?_|refine xG ?_|refine xH ?_|refine xI (by omega) ?_|refine xJ (by omega) ?_|(with_reducible refine Yq ?_)|refine Exists.intro _ (And.intro (by first|exact C5 a|exact C5 b) ?_)|refine GOp.via (by rfl) ?_|(with_reducible first|refine Qw ?_|refine Yn ?_|refine Yo ?_|refine X6 ?_|refine Ym ?_|refine Yp ?_|refine Yl ?_)))
 all_goals (first|rw [List.length_map]|exact Qg.mk ⟨rfl,rfl⟩)
end Go.Proofs.YtpbiblhkcomekaaGreat
namespace Go.Proofs.YtpbiblhkcomekaaGreat
open Go Go.RowKit
set_option linter.unusedSimpArgs false
set_option linter.unusedVariables false
theorem ifB_and {b:Bool} {X Y:Prop} (h:(b=true→X)∧(b=false→Y)):ifB b X Y:=Ji h.1 h.2
theorem sp {G R:Prop} (r:R) (h:R→G:=by first|exact ifB_and|exact xA (by omega)|exact xB|exact xC (by omega)|exact xD|exact xE (by omega)|exact xF (by omega)|exact xG|exact xH|exact xI (by omega)|exact xJ (by omega)|(with_reducible exact Yq)|exact GOp.drawn (by rfl) (by rfl) (Nat.le_of_ble_eq_true (by rfl)) (by rfl)|exact GOp.via (by rfl)):G:=h r
theorem sq {G R:Prop} (r:R) (h:R→G:=by with_reducible first|exact Qw|exact Yn|exact Yo|exact X6|exact Ym|exact Yp|exact Yl):G:=h r
theorem zz:(∀ a b:Int,leZ a b=decide (a≤b))∧(∀ a b:Int,ltZ a b=decide (a < b))∧(∀ a b:Int,eqZ a b=decide (a=b))∧(∀ l:List UInt8,(⟨l.toArray⟩:ByteArray).size=l.length)∧(∀ l:List UInt8,(⟨l.toArray⟩:ByteArray).data.toList=l) ∧
  ((⟨#[]⟩:ByteArray).data.toList= [])∧(∀ {α:Type} (l:List α),l.toArray.toList=l)∧(∀ {p:Prop} [Decidable p],(decide p=true)=p)∧(∀ {p:Prop} {_:Decidable p},decide p=false↔ ¬p) ∧
  (∀ {α:Type} [BEq α] [LawfulBEq α] {a b:α},(a==b)=true↔a=b)∧(∀ {α:Type} [BEq α] [LawfulBEq α] {a b:α},(a != b)=true↔a≠b)∧(∀ {α:Type} [BEq α] [LawfulBEq α] {a b:α},(a==b)=false↔a≠b)∧(∀ {α:Type} [BEq α] [LawfulBEq α] {a b:α},(a != b)=false↔a=b) ∧
  (∀ {α:Type} (a b:α),(a≠b)= ¬(a=b))∧(∀ {b:Bool},((!b)=true)=(b=false))∧(∀ {b:Bool},((!b)=false)=(b=true))∧((!true)=false)∧((!false)=true)∧(∀ {α:Type} [LT α] {a b:α},a > b↔b < a)∧(∀ {α:Type} [LE α] {a b:α},a ≥ b↔b≤a) ∧
  (∀ {a b:Int},¬a < b↔b≤a)∧(∀ {a b:Int},¬a≤b↔b < a)∧(∀ {p:Prop} [Decidable p],¬¬p↔p) :=
 ⟨zA,zB,zC,zD,zE,zF,zG,zH,zI,zJ,zK,zL,zM,zN,zO,zP,zQ,zR,zS,zT,zU,zV,zW⟩
theorem ct {G:Prop} (h:False:=by first|exact absurd rfl hc|exact absurd trivial hc|omega):G:=h.elim
theorem vx {α:Type} {A B:α→Prop} {x:α} (h:A x) (k:B x): ∃ x,A x∧B x:=⟨x,h,k⟩
theorem cl {P:Program} {f:FuncId} {args:List VV} {H:Heap} {Q:VV→Heap→Prop} {v:VV} {K:Heap} (k:Qc P f args H (fun v1 h1=>v1=v∧h1=K)) (g:Q v K):Xc P f args H Q:=⟨k.mono (by rintro _ _ ⟨rfl,rfl⟩;exact g)⟩
theorem mh {α:Type} {a:α} {l:List α} (h:a∈l:=by first|exact List.Mem.head _|exact List.Mem.tail _ (List.Mem.head _)|exact List.Mem.tail _ (List.Mem.tail _ (List.Mem.head _))|(simp;done)):a∈l:=h
theorem rv {G:Prop} (h:G:=by first|(with_reducible exact Qi.sc)|exact Qi.gsN|exact Qi.gsZ|exact Qi.gsL (by decide)|exact Qi.slL (by decide)|((first|refine Qi.gsE mh ?_|refine Qi.eq (Q9 ?_) (Qb _));(first|rfl|omega|(simp only [List.length_append,List.length_cons,List.length_nil,List.length_map,List.length_take,List.length_drop] <;> omega)|(simp only <;> omega)|(simp <;> omega)))|exact Qi.undef|(with_unfolding_all exact (rfl:(_:VObj)=_))):G:=h
theorem rz {G:Prop} (h:G:=by first|exact trivial|exact Jx.defs|exact Qe.nil):G:=h
theorem ro {G R:Prop} (r:R) (h:R→G:=by first|exact Jx.opt|exact Jx.toOpt|exact Jx.cells):G:=h r
theorem ka {A D:List Nat} {L:List (Nat×VV)} {O:List (Nat×VObj)} {nx:Nat} {ts0:List VV} {H0:Heap} {m:List Nat} {s:VSt} (R:List (Nat×Nat)) (fit:FitR R H0.next L s.tmps) (ren:W1 R H0.next s.heap O) (keep:Uv A L s.tmps 0=Uv A L ts0 0:=by rfl) (marks:s.marks=m:=by rfl)
  (rest:Gets s.heap (Qs D H0.objs):=by repeat' (first|exact trivial|refine And.intro rfl ?_))
  (hw:(wfR H0.next nx R&&nodupB (Zy R H0.next O++(Qs D H0.objs).map (·.1))&&Nat.ble H0.next nx&&O.all (fun p=>Nat.blt p.1 nx)&&(Qs D H0.objs).all (fun p=>Nat.blt p.1 H0.next))=true:=by rfl):N7 A D L O nx ts0 H0 m s :=
 N7.of R keep marks rest hw fit ren
theorem om {G:Prop} (h:G:=by first|omega|contradiction):G:=h
theorem iS {x v:VV} {K H:Heap} (h:Is x v K H:=by exact Is.mk rfl rfl):Is x v K H:=h
theorem dY {G R:Prop} (r:R) (h:R→G:=by exact GWP.drawY mixed _ (by kernel_rfl) (by rfl)):G:=h r
end Go.Proofs.YtpbiblhkcomekaaGreat
namespace Go.Proofs.YtpbiblhkcomekaaGreat
open Go Go.RowKit
set_option linter.unusedSimpArgs false
set_option linter.unusedVariables false
def Wf (n:Nat) (K:Heap) (v u:VV):Prop:= ∀ (B w:World) (Z:Nat→Prop) (ρ ρ0:Nat→Option (Nat×Nat)) (y:Value),Rel B (fun _=>False) Z ρ K w→(∀ b,b < n→ρ0 b=ρ b)→Qf w Z ρ v y→Qf w (fun k=>Z k∨(B.heap.size≤k∧k < w.heap.size)) ρ0 u y
theorem Frz.toB {n:Nat} {K:Heap} {v u:VV} (h:Frz K v u):Wf n K v u:=fun B w Z ρ ρ0 y hr _ hv=>h B w Z ρ ρ0 y hr hv
theorem Wf.sl {n b o m z:Nat} {c:Option Nat} {K:Heap} (hb:b < n):Wf n K (.sl b o m c z) (.sl b o m c z):=fun B w Z ρ ρ0 y hr he hv=>by
 cases hv with
 | sl hk hn hc hz=>exact .sl ((he b hb).trans hk) hn hc hz
theorem Wf.of {n:Nat} {K:Heap} {v:VV} (h:Qd v):Wf n K v v:=(Frz.of h).toB
end Go.Proofs.YtpbiblhkcomekaaGreat
namespace Go.Proofs.YtpbiblhkcomekaaGreat
open Go Go.RowKit
set_option linter.unusedSimpArgs false
set_option linter.unusedVariables false
variable {P:Program} {f:FuncId} {args:List VV} {H:Heap} {Q Q':VV→Heap→Prop}
theorem Qc.outR (h:Qc P f args H Q)
  (hQ: ∀ v K,Q v K→ ∃ u O nx R,(wfR H.next nx R&&nodupB (Zy R H.next O)&&Nat.ble H.next nx&&O.all fun p=>Nat.blt p.1 nx)=true∧Qi R H.next v u∧W1 R H.next K O∧Q' u ⟨O,nx⟩):Qc P f args H Q':=fun B M Z ρ w ra h1 h2=>by
 refine (h B M Z ρ w ra h1 h2).mono fun e w' ⟨v',v,K,Z',ρ2,he,q,e1,r2,v2⟩=> ?_
 obtain ⟨u,O,nx,R,hw,hval,hobj,q'⟩:=hQ v K q
 simp only [Bool.and_eq_true] at hw
 obtain ⟨⟨⟨k1,k2⟩,k3⟩,k4⟩:=hw
 have k3:=Nat.le_of_ble_eq_true k3
 have h6:=hobj.toH
 generalize ht:H.next=t at *
 have hl:N6 R t ρ2 (fun b=>(Xb R t b).bind ρ2):=⟨fun b hb c hc=>by simp only [Y0 hb,Option.bind_some];exact hc,fun p hp c hc=>by
  obtain ⟨g1,g2,g3⟩:=Xe k1 p hp
  simp only [Kw g1,g3,Option.bind_some]
  exact hc⟩
 refine ⟨v',u,_,Z',fun b=>(Xb R t b).bind ρ2,he,q',⟨k3,fun b hb=> ?_,e1.zsub,fun b k hk=> ?_,e1.keep,e1.size,e1.znew⟩,?_,hval _ _ _ _ _ hl v2⟩
 ·simp only [Y0 hb,Option.bind_some]
  exact e1.rold b hb
 ·have hlt:b < t:=by
   rcases Nat.lt_or_ge b t with g|g
   ·exact g
   ·rw [h1.dom b (by omega)] at hk;cases hk
  simp only [Y0 hlt,Option.bind_some]
  rw [e1.rold b hlt]
  exact hk
 ·refine ⟨r2.glob,r2.os,r2.tape,r2.output,r2.size,r2.frame,fun b hb=> ?_,fun b x hx=> ?_,?_,?_,r2.zlt⟩
  ·have hb:nx≤b:=hb
   show (Xb R t b).bind ρ2=none
   rw [Kw (by omega)]
   cases hs:srcN R b with
   | none=>rfl
   | some a =>
    have:=(Xe k1 _ (Xr hs)).2.1
    simp only at this
    omega
  ·have g5:(b,x)∈O:=by
    rcases h6.get hx with ⟨_,_,g⟩|⟨a,x0,g1,g2,g3,g4,g5⟩
    ·exact g
    ·exact g5
   have:=List.all_eq_true.1 k4 _ g5
   exact Qz.1 this
  ·intro b b' k N N' x x' hx hx' hb hb'
   obtain ⟨c,hc,_⟩:=Option.bind_eq_some_iff.1 hb
   obtain ⟨c',hc',_⟩:=Option.bind_eq_some_iff.1 hb'
   obtain ⟨a,x0,g1,g2,g3,g4,_⟩:=h6.getK hx hc
   obtain ⟨a',x0',g1',g2',g3',g4',_⟩:=h6.getK hx' hc'
   simp only [g1,g1',Option.bind_some] at hb hb'
   have:=r2.inj a a' k N N' x0 x0' g2 g2' hb hb'
   subst this
   exact h6.inj k2 hx hx' g1 g1'
  ·intro b x hx
   rcases h6.get hx with ⟨g1,g2,_⟩|⟨a,x0,g1,g2,g3,g4,_⟩
   ·exact .inl ⟨g2,by simp only [g1,Option.bind_none]⟩
   rcases r2.obj a x0 g2 with ⟨q1,q2⟩|⟨k,N,o,q1,q2,q3,q4,q5⟩
   ·exact .inl ⟨g3.ghost q1,by simp only [g1,Option.bind_some];exact q2⟩
   exact .inr ⟨k,N,o,by simp only [g1,Option.bind_some];exact q1,q2,g3.orel hl q3,q4,fun h=>q5 (by rw [← g3.rw];exact h)⟩
end Go.Proofs.YtpbiblhkcomekaaGreat
namespace Go.Proofs.YtpbiblhkcomekaaGreat
open Go Go.RowKit
set_option linter.unusedSimpArgs false
set_option linter.unusedVariables false
section
variable (P:Program) (ops:Array Oper) (ts0:List VV) (al m:Nat) (an:List Nat) (va:VV) (H0 H1:Heap) (K:List VV→Heap→Prop)
end
end Go.Proofs.YtpbiblhkcomekaaGreat
namespace Go.Proofs.YtpbiblhkcomekaaGreat
open Go Go.RowKit
set_option linter.unusedSimpArgs false
set_option linter.unusedVariables false
def Cr (P:Program) (o:Oper) (ts:List VV) (H:Heap) (K:VV→Heap→Prop):Prop:=match o.op with
 | .sliceToArrayPointer _ _=>GOp P o ts H K
 | .call ⟨.builtin .unsafeSliceData,_,_⟩=>GOp P o ts H K
 | .call ⟨.builtin .unsafeString,_,_⟩=>GOp P o ts H K
 | _=>W0 P o ts H K
theorem Y7 {P:Program} {o:Oper} {ts:List VV} {H:Heap} {K:VV→Heap→Prop} (h:Cr P o ts H K):Q3 P o ts H K:=by
 unfold Cr at h
 split at h
 ·exact h.out
 ·exact h.out
 ·exact h.out
 ·exact Yb h
section
variable (P:Program) (al m:Nat) (H0 H1:Heap)
def Nj (g:Bool) (o:Oper) (ts:List VV) (v:VV):Prop:=match g with
 | false=> ∀ Hx,Cr P o ts Hx fun x K'=>Is x v K' Hx
 | true=>match Nat.blt al m with
  | true=>(Cr P o ts H0 fun x K'=>Is x v K' H0)∧(Cr P o ts H1 fun x K'=>Is x v K' H1)
  | false=>Cr P o ts H0 fun x K'=>Is x v K' H0
theorem pureX2_sound {g:Bool} {o:Oper} {ts:List VV} {v:VV} (h:Nj P al m H0 H1 g o ts v):K6 P al m H0 H1 g o ts v:=by
 unfold Nj at h
 unfold K6
 cases g with
 | false=>exact fun Hx=>(Y7 (h Hx)).mono fun x K' q=>⟨q.val,q.heap⟩
 | true =>
  simp only at h ⊢
  split at h
  ·exact ⟨(Y7 h.1).mono fun x K' q=>⟨q.val,q.heap⟩,fun _=>(Y7 h.2).mono fun x K' q=>⟨q.val,q.heap⟩⟩
  ·rename_i hb
   refine ⟨(Y7 h).mono fun x K' q=>⟨q.val,q.heap⟩,fun hlt=> ?_⟩
   have:Nat.blt al m=true:=Qz.2 hlt
   rw [this] at hb;cases hb
end
section
variable (P:Program) (ops:Array Oper) (ts0:List VV) (al m:Nat) (an:List Nat) (va:VV) (H0 H1:Heap) (K:List VV→Heap→Prop)
def Z6 (i:Nat) (l:List Oper) (vs:List VV):Prop :=
 List.rec (motive:=fun _=>Nat→List VV→Prop) (fun i vs=>Bb P ops ts0 K i [] vs H1) (fun o r ih i vs=>match Nat.beq i m with
  | true=>Bb P ops ts0 K i (o::r) vs H1
  | false=>match Nat.beq i al with
   | true=>match o.guard with
    | none=>Yj i o ops.toList vs ts0 (Jn ops o) fun L=>And (Cr P o (Jj L ts0.length 0) H0 fun x K'=>Is x va K' H1) (snocE vs va fun vs'=>ih (i+1) vs')
    | some _=>False
   | false=>match o.guard with
    | none=>Yj i o ops.toList vs ts0 (Jn ops o) fun L=>Val (fun v=>Nj P al m H0 H1 (Zo ops.size m an i) o (Jj L ts0.length 0) v) (fun v=>Jw v fun v'=>snocE vs v' fun vs'=>ih (i+1) vs')
    | some (j,want)=>match Q8 o.after.toList j with
     | true=>match vs[j]? with
      | some (.sc (.bool b))=>ifB b
       (setE vs j (.sc (.bool true)) fun vs1=>match want with
        | true=>Yj i o ops.toList vs1 ts0 (Jn ops o) fun L=>Val (fun v=>Nj P al m H0 H1 (Zo ops.size m an i) o (Jj L ts0.length 0) v) (fun v=>Jw v fun v'=>snocE vs1 v' fun vs'=>ih (i+1) vs')
        | false=>snocE vs1 (.tp []) fun vs'=>ih (i+1) vs')
       (setE vs j (.sc (.bool false)) fun vs1=>match want with
        | false=>Yj i o ops.toList vs1 ts0 (Jn ops o) fun L=>Val (fun v=>Nj P al m H0 H1 (Zo ops.size m an i) o (Jj L ts0.length 0) v) (fun v=>Jw v fun v'=>snocE vs1 v' fun vs'=>ih (i+1) vs')
        | true=>snocE vs1 (.tp []) fun vs'=>ih (i+1) vs')
      | some (.tp _)=>snocE vs (.tp []) fun vs'=>ih (i+1) vs'
      | _=>False
     | false=>False) l i vs
theorem wdrawE_cons (i:Nat) (o:Oper) (r:List Oper) (vs:List VV):Z6 P ops ts0 al m an va H0 H1 K i (o::r) vs=(match Nat.beq i m with
  | true=>Bb P ops ts0 K i (o::r) vs H1
  | false=>match Nat.beq i al with
   | true=>match o.guard with
    | none=>Yj i o ops.toList vs ts0 (Jn ops o) fun L=>And (Cr P o (Jj L ts0.length 0) H0 fun x K'=>Is x va K' H1) (snocE vs va fun vs'=>Z6 P ops ts0 al m an va H0 H1 K (i+1) r vs')
    | some _=>False
   | false=>match o.guard with
    | none=>Yj i o ops.toList vs ts0 (Jn ops o) fun L=>Val (fun v=>Nj P al m H0 H1 (Zo ops.size m an i) o (Jj L ts0.length 0) v) (fun v=>Jw v fun v'=>snocE vs v' fun vs'=>Z6 P ops ts0 al m an va H0 H1 K (i+1) r vs')
    | some (j,want)=>match Q8 o.after.toList j with
     | true=>match vs[j]? with
      | some (.sc (.bool b))=>ifB b
       (setE vs j (.sc (.bool true)) fun vs1=>match want with
        | true=>Yj i o ops.toList vs1 ts0 (Jn ops o) fun L=>Val (fun v=>Nj P al m H0 H1 (Zo ops.size m an i) o (Jj L ts0.length 0) v) (fun v=>Jw v fun v'=>snocE vs1 v' fun vs'=>Z6 P ops ts0 al m an va H0 H1 K (i+1) r vs')
        | false=>snocE vs1 (.tp []) fun vs'=>Z6 P ops ts0 al m an va H0 H1 K (i+1) r vs')
       (setE vs j (.sc (.bool false)) fun vs1=>match want with
        | false=>Yj i o ops.toList vs1 ts0 (Jn ops o) fun L=>Val (fun v=>Nj P al m H0 H1 (Zo ops.size m an i) o (Jj L ts0.length 0) v) (fun v=>Jw v fun v'=>snocE vs1 v' fun vs'=>Z6 P ops ts0 al m an va H0 H1 K (i+1) r vs')
        | true=>snocE vs1 (.tp []) fun vs'=>Z6 P ops ts0 al m an va H0 H1 K (i+1) r vs')
      | some (.tp _)=>snocE vs (.tp []) fun vs'=>Z6 P ops ts0 al m an va H0 H1 K (i+1) r vs'
      | _=>False
     | false=>False):=rfl
def EFact (V:List VV) (G:Nat→Heap) (j:Nat) (o:Oper):Prop:= ∃ v,V[j]? = some v∧match decide (m≤j) with
 | true=>Q3 P o (Je j o ops.toList 0 V ts0) (G j) (fun x K'=>x=v∧K'=G (j+1))
 | false=>(j=al∧v=va∧o.guard=none∧Q3 P o (Je j o ops.toList 0 V ts0) H0 (fun x K'=>x=va∧K'=H1))∨(j≠al∧((Qq ops o (Je j o ops.toList 0 V ts0)=some false∧v= .tp [])∨(Qq ops o (Je j o ops.toList 0 V ts0)=some true∧K6 P al m H0 H1 (Zo ops.size m an j) o (Je j o ops.toList 0 V ts0) v)))
theorem wdrawE_sound (hback: ∀ (i:Nat) (o:Oper),ops.toList[i]? = some o→ ∀ e∈o.after.toList,Xm e=true→e.on < i) (hnd:(dstsOf ops.toList).Nodup) (hbd: ∀ (i:Nat) (o:Oper),ops.toList[i]? = some o→ ∀ d,o.dst=some d→d < ts0.length) (hgd: ∀ (i:Nat) (o:Oper) (j:Nat) (w:Bool),ops.toList[i]? = some o→o.guard=some (j,w)→((ops[j]?).bind (fun x:Oper=>x.dst)).isSome=true) (hm:m≤ops.size): ∀ (r:List Oper) (i:Nat) (vs:List VV),ops.toList.drop i=r→vs.length=i→i≤m→Z6 P ops ts0 al m an va H0 H1 K i r vs →
  ∃ (V:List VV) (G:Nat→Heap),(∃ a,V=vs++a)∧V.length=ops.size∧G m=H1∧K V (G ops.size)∧ ∀ j o,i≤j→ops.toList[j]? = some o→EFact P ops ts0 al m an va H0 H1 V G j o:=by
 have tail: ∀ (r:List Oper) (vs:List VV),ops.toList.drop m=r→vs.length=m→Bb P ops ts0 K m r vs H1→ ∃ (V:List VV) (G:Nat→Heap),(∃ a,V=vs++a)∧V.length=ops.size∧G m=H1∧K V (G ops.size)∧ ∀ j o,m≤j→ops.toList[j]? = some o→EFact P ops ts0 al m an va H0 H1 V G j o:=by
  intro r vs hd hv h
  obtain ⟨V,G,ha,hl,hG,hk,hq⟩:=Ba P ops ts0 K hback hnd r m vs H1 hd hv hm h
  refine ⟨V,G,ha,hl,hG,hk,fun j o hj ho=> ?_⟩
  obtain ⟨v,g1,g2⟩:=hq j o hj ho
  refine ⟨v,g1,?_⟩
  rw [decide_eq_true hj]
  exact g2
 intro r
 induction r with
 | nil =>
  intro i vs hd hv hi h
  have hle:ops.size≤i:=by have:=congrArg List.length hd;simp at this;omega
  have:i=m:=by omega
  subst this
  exact tail [] vs hd hv h
 | cons o r ih =>
  intro i vs hd hv hi h
  have ho:ops.toList[i]? = some o:=by
   have:=congrArg (fun l=>l[0]?) hd
   simpa using this
  have hd':ops.toList.drop (i+1)=r:=by rw [← List.drop_drop,hd];rfl
  rw [wdrawE_cons] at h
  rcases Jy i m with ⟨hb,e⟩|⟨hb,e⟩
  ·rw [hb] at h
   subst e
   exact tail _ vs hd hv h
  rw [hb] at h
  simp only at h
  have hilt:i < m:=by omega
  have hT: ∀ {V a:List VV},V=vs++a→Je i o ops.toList 0 vs ts0=Je i o ops.toList 0 V ts0:=fun e=>B7 ops ts0 hback ho hv e
  have step: ∀ (v:VV),Z6 P ops ts0 al m an va H0 H1 K (i+1) r (vs++ [v])→(∀ V,Je i o ops.toList 0 vs ts0=Je i o ops.toList 0 V ts0→(i=al∧v=va∧o.guard=none∧Q3 P o (Je i o ops.toList 0 V ts0) H0 (fun x K'=>x=va∧K'=H1))∨(i≠al∧((Qq ops o (Je i o ops.toList 0 V ts0)=some false∧v= .tp [])∨(Qq ops o (Je i o ops.toList 0 V ts0)=some true∧K6 P al m H0 H1 (Zo ops.size m an i) o (Je i o ops.toList 0 V ts0) v)))) →
    ∃ (V:List VV) (G:Nat→Heap),(∃ a,V=vs++a)∧V.length=ops.size∧G m=H1∧K V (G ops.size)∧ ∀ j o,i≤j→ops.toList[j]? = some o→EFact P ops ts0 al m an va H0 H1 V G j o:=by
   intro v hw hf
   obtain ⟨V,G,⟨a,ha⟩,hl,hG,hk,hq⟩:=ih (i+1) (vs++ [v]) hd' (by simp [hv]) hilt hw
   refine ⟨V,G,⟨v::a,by rw [ha];simp⟩,hl,hG,hk,fun j x hj hx=> ?_⟩
   by_cases e:j=i
   ·subst e
    rw [ho] at hx;injection hx with hx;subst hx
    refine ⟨v,by rw [ha,List.append_assoc,List.getElem?_append_right (by omega)];simp [hv],?_⟩
    rw [decide_eq_false (by omega)]
    exact hf V (hT (a:=v::a) (by rw [ha];simp))
   ·exact hq j x (by omega) hx
  rcases Jy i al with ⟨hb2,e2⟩|⟨hb2,e2⟩
  ·rw [hb2] at h
   simp only at h
   split at h
   case h_2=>exact h.elim
   rename_i hgn
   rw [Ki] at h
   obtain ⟨h1,h2⟩:=h
   rw [Yg] at h2
   refine step va h2 fun V e=> .inl ⟨e2,rfl,hgn,?_⟩
   rw [← e]
   exact Q3.less (U1 ops ts0 hnd i o vs _) ((Y7 h1).mono fun x K' q=>⟨q.val,q.heap⟩)
  rw [hb2] at h
  simp only at h
  have go: ∀ (hw:Qq ops o (Je i o ops.toList 0 vs ts0)=some true),(Yj i o ops.toList vs ts0 (Jn ops o) fun L=>Val (fun v=>Nj P al m H0 H1 (Zo ops.size m an i) o (Jj L ts0.length 0) v) (fun v=>Jw v fun v'=>snocE vs v' fun vs'=>Z6 P ops ts0 al m an va H0 H1 K (i+1) r vs')) →
    ∃ (V:List VV) (G:Nat→Heap),(∃ a,V=vs++a)∧V.length=ops.size∧G m=H1∧K V (G ops.size)∧ ∀ j o,i≤j→ops.toList[j]? = some o→EFact P ops ts0 al m an va H0 H1 V G j o:=by
   intro hw hg
   rw [Ki] at hg
   obtain ⟨v,h1,h2⟩:=hg.out
   rw [Zl,Yg] at h2
   refine step v h2 fun V e=> .inr ⟨e2,.inr ⟨e ▸ hw,?_⟩⟩
   rw [← e]
   exact K6.less P al m H0 H1 (U1 ops ts0 hnd i o vs _) (pureX2_sound P al m H0 H1 h1)
  have skip: ∀ (hw:Qq ops o (Je i o ops.toList 0 vs ts0)=some false),(snocE vs (.tp []) fun vs'=>Z6 P ops ts0 al m an va H0 H1 K (i+1) r vs') →
    ∃ (V:List VV) (G:Nat→Heap),(∃ a,V=vs++a)∧V.length=ops.size∧G m=H1∧K V (G ops.size)∧ ∀ j o,i≤j→ops.toList[j]? = some o→EFact P ops ts0 al m an va H0 H1 V G j o:=by
   intro hw hg
   rw [Yg] at hg
   exact step _ hg fun V e=> .inr ⟨e2,.inl ⟨e ▸ hw,rfl⟩⟩
  split at h
  ·rename_i hg
   exact go (by simp [Qq,hg]) h
  ·rename_i j want hg
   split at h
   case h_2=>exact h.elim
   rename_i hwt
   have hgd':=hgd i o j want ho hg
   have hval: ∀ u,vs[j]? = some u→ ∃ d,(ops[j]?).bind (·.dst)=some d∧(Je i o ops.toList 0 vs ts0)[d]? = some u:=fun u hu=>by
    cases hd2:(ops[j]?).bind (·.dst) with
    | none=>rw [hd2] at hgd';cases hgd'
    | some d =>
     refine ⟨d,rfl,?_⟩
     cases hx:ops[j]? with
     | none=>rw [hx] at hd2;cases hd2
     | some x =>
      rw [hx] at hd2
      have hx':ops.toList[j]? = some x:=by simpa using hx
      have hxd:x.dst=some d:=hd2
      have:=(Kd i o ops.toList 0 vs ts0 hnd).2.2 j d x hx' hxd (hbd j x hx' d hxd)
      rw [this,Nat.zero_add,hwt,hu]
      rfl
   split at h
   ·rename_i b hb3
    obtain ⟨d,e1,e2⟩:=hval _ hb3
    simp only [W7] at h
    cases b with
    | true =>
     simp only [ifB] at h
     rw [Zu hb3] at h
     cases want with
     | true=>exact go (by simp [Qq,hg,e1,e2]) h
     | false=>exact skip (by simp [Qq,hg,e1,e2]) h
    | false =>
     simp only [ifB] at h
     rw [Zu hb3] at h
     cases want with
     | false=>exact go (by simp [Qq,hg,e1,e2]) h
     | true=>exact skip (by simp [Qq,hg,e1,e2]) h
   ·rename_i hb3
    obtain ⟨d,e1,e2⟩:=hval _ hb3
    exact skip (by simp [Qq,hg,e1,e2]) h
   ·exact h.elim
end
theorem GWP.drawE {P:Program} {r:Option Nat} {id:Nat} {ops:Array Oper} {Q:Exit→VSt→Prop} {s:VSt} (hm:P.follows .mixedOrders=true) (al m n:Nat) (va:VV) (H1:Heap) (hb:(backN 0 ops.toList&&nodupN (dstsOf ops.toList)&&fitN n ops&&Ny ops.toList al m&&Nat.blt al m)=true) (hlen:s.tmps.length=n)
  (h:match s with|⟨ts0,H,md⟩=>forceNL (Ys ops.toList m [m]) fun an=>Z6 P ops ts0 al m an va H H1 (fun V H'=>tAllE ops.toList V ts0 fun ts=>Q .normal ⟨ts,H',md⟩) 0 ops.toList []):GWP P r (.region id ops true) Q s:=⟨by
 obtain ⟨ts0,H,md⟩:=s
 simp only [Bool.and_eq_true] at hb
 obtain ⟨⟨⟨⟨hb1,hb2⟩,hb3⟩,hb4⟩,hb5⟩:=hb
 have hback: ∀ i o,ops.toList[i]? = some o→ ∀ e∈o.after.toList,Xm e=true→e.on < i:=fun i o ho e he hbe=>by
  have:=Wl hb1 i o ho e he hbe
  omega
 have hlen:ts0.length=n:=hlen
 have hfit: ∀ (i:Nat) (o:Oper),ops.toList[i]? = some o→(∀ d,o.dst=some d→d < ts0.length)∧ ∀ (j:Nat) (w:Bool),o.guard=some (j,w)→((ops[j]?).bind (fun x:Oper=>x.dst)).isSome=true:=fun i o ho=>by
  have:=List.all_eq_true.1 hb3 o (List.mem_of_getElem? ho)
  simp only [Bool.and_eq_true] at this
  refine ⟨fun d hd=> ?_,fun j w hg=> ?_⟩
  ·have h1:=this.1
   rw [hd] at h1
   rw [hlen]
   exact Nat.le_of_ble_eq_true h1
  ·have h1:=this.2
   rw [hg] at h1
   exact h1
 have hta:=tail_anc hb4
 have hmle:m≤ops.size:=by
  have:=hb4
  simp only [Ny,Bool.or_eq_true,Bool.and_eq_true] at this
  rcases this with this|this
  ·have:=Nat.eq_of_beq_eq_true this
   simp at this
   omega
  ·have:=Nat.le_of_ble_eq_true this.1.1.1
   simpa using this
 have hnog: ∀ i o,m≤i→ops.toList[i]? = some o→o.guard=none:=fun i o hi ho=>by
  have:=hb4
  simp only [Ny,Bool.or_eq_true,Bool.and_eq_true] at this
  rcases this with this|this
  ·have h1:=Nat.eq_of_beq_eq_true this
   have h2:=(List.getElem?_eq_some_iff.1 ho).1
   omega
  have h1:=List.all_eq_true.1 this.1.2 o (List.mem_of_getElem? (i:=i - m) (by rw [List.getElem?_drop,show m+(i - m)=i by omega];exact ho))
  simpa using h1
 have h:forceNL (Ys ops.toList m [m]) (fun an=>Z6 P ops ts0 al m an va H H1 (fun V H'=>tAllE ops.toList V ts0 fun ts=>Q .normal ⟨ts,H',md⟩) 0 ops.toList []):=h
 rw [Wy] at h
 obtain ⟨V,G,_,hl,hG,hk,hq⟩:=wdrawE_sound P ops ts0 al m (Ys ops.toList m [m]) va H H1 _ hback (Zw hb2) (fun i o ho=>(hfit i o ho).1) (fun i o j w ho=>(hfit i o ho).2 j w) hmle ops.toList 0 [] rfl rfl (Nat.zero_le _) h
 rw [Un] at hk
 have hblt:Nat.blt al m=decide (al < m):=by
  by_cases h:al < m
  ·rw [decide_eq_true h];exact Qz.2 h
  ·rw [decide_eq_false h]
   cases hb:Nat.blt al m
   ·rfl
   ·exact absurd (Qz.1 hb) h
 have halw:al < m∨(ops.size≤al∧H1=H):= .inl (Qz.1 hb5)
 have halo:al < m→ ∃ o,ops.toList[al]? = some o∧o.guard=none∧Q3 P o (Je al o ops.toList 0 V ts0) H (fun x K'=>x=va∧K'=H1)∧V[al]? = some va:=fun hlt=>by
  have ho:ops.toList[al]? = some (ops.toList[al]'(by simp;omega)):=List.getElem?_eq_getElem _
  obtain ⟨v,h1,h2⟩:=hq al _ (Nat.zero_le _) ho
  rw [decide_eq_false (by omega)] at h2
  rcases h2 with ⟨_,rfl,g2,g3⟩|⟨ne,_⟩
  ·exact ⟨_,ho,g2,g3,h1⟩
  ·exact absurd rfl ne
 -- the heap behind so many events
 have hcnt:=fun i hi=>cnt_ev al m i hi ops.size
 have hcntA:cnt (fun j=>(Nat.beq j al&&Nat.blt al m) || Nat.ble m j) ops.size=(if al < m then 1 else 0)+(ops.size - m):=by
  have h1:=hcnt ops.size hmle
  have h2:cnt (fun j=>((Nat.beq j al&&Nat.blt al m) || Nat.ble m j)&&Nat.blt j ops.size) ops.size=cnt (fun j=>(Nat.beq j al&&Nat.blt al m) || Nat.ble m j) ops.size:=J7 fun j hj=>by
   have:Nat.blt j ops.size=true:=Qz.2 hj
   rw [this,Bool.and_true]
  rw [← h2,h1]
  by_cases c:al < m
  ·rw [if_pos ⟨c,by omega⟩,if_pos c];omega
  ·rw [if_neg (by omega),if_neg c];omega
 refine VWP.draw (vals:=V) (G:=fun c=>if al < m then (if c=0 then H else G (m+(c - 1))) else G (m+c)) (ev:=fun j=>(Nat.beq j al&&Nat.blt al m) || Nat.ble m j) hm
  ⟨by simpa using hl.symm,Zw hb2,hback,fun i j hi h1 h2 hji=> ?_,fun i o ho hw=> ?_,fun i o ho=> ?_,fun i o v ho hw hev hv=> ?_,fun i o v p ho hw hev hv hA hD=> ?_⟩ ?_ ?_
 · -- order
  have him:m≤i:=by
   rcases Bool.or_eq_true_iff.1 h1 with q|q
   ·rcases Bool.or_eq_true_iff.1 h2 with q2|q2
    ·simp only [Bool.and_eq_true] at q q2
     have:=Nat.eq_of_beq_eq_true q.1
     have:=Nat.eq_of_beq_eq_true q2.1
     omega
    ·simp only [Bool.and_eq_true] at q
     have:=Nat.eq_of_beq_eq_true q.1
     have:=Nat.le_of_ble_eq_true q2
     have:=Qz.1 q.2
     omega
   ·exact Nat.le_of_ble_eq_true q
  have:=hta (i - m) j (by simp;omega) (by omega) fun hjm=>by
   rcases Bool.or_eq_true_iff.1 h2 with q2|q2
   ·simp only [Bool.and_eq_true] at q2
    have e:=Nat.eq_of_beq_eq_true q2.1
    have h5:=hb4
    simp only [Ny,Bool.or_eq_true,Bool.and_eq_true] at h5
    rcases h5 with h5|h5
    ·have:=Nat.eq_of_beq_eq_true h5;simp at this;omega
    ·rcases h5.2 with h6|h6
     ·rw [e];exact Qp.1 h6
     ·have:=Nat.eq_of_beq_eq_true h6;simp at this;omega
   ·have:=Nat.le_of_ble_eq_true q2;omega
  rwa [show m+(i - m)=i by omega] at this
 · -- skip
  obtain ⟨v,h1,h2⟩:=hq i o (Nat.zero_le _) ho
  have hil:i < ops.size:=by have:=(List.getElem?_eq_some_iff.1 ho).1;simpa using this
  by_cases hmi:m≤i
  ·have:=hnog i o hmi ho
   simp [Qq,this] at hw
  ·rw [decide_eq_false hmi] at h2
   rcases h2 with ⟨e,_⟩|⟨ne,⟨_,rfl⟩|⟨h2,_⟩⟩
   ·subst e
    obtain ⟨o2,g1,g2,_⟩:=halo (by omega)
    rw [ho] at g1;injection g1 with g1;subst g1
    simp [Qq,g2] at hw
   ·refine ⟨h1,?_⟩
    rw [Bool.or_eq_false_iff]
    constructor
    ·rw [Bool.and_eq_false_iff]
     by_cases e:i=al
     ·subst e
      right
      cases hbb:Nat.blt i m
      ·rfl
      ·obtain ⟨o2,g1,g2,_⟩:=halo (Qz.1 hbb)
       rw [ho] at g1;injection g1 with g1;subst g1
       simp [Qq,g2] at hw
     ·left
      rcases Jy i al with ⟨_,e2⟩|⟨h3,_⟩
      ·exact absurd e2 e
      ·exact h3
    ·cases hbb:Nat.ble m i
     ·rfl
     ·exact absurd (Nat.le_of_ble_eq_true hbb) hmi
   ·rw [hw] at h2;simp at h2
 · -- wanted is known
  obtain ⟨v,h1,h2⟩:=hq i o (Nat.zero_le _) ho
  by_cases hmi:m≤i
  ·simp [Qq,hnog i o hmi ho]
  ·rw [decide_eq_false hmi] at h2
   rcases h2 with ⟨e,_⟩|⟨ne,⟨h2,_⟩|⟨h2,_⟩⟩
   ·subst e
    obtain ⟨o2,g1,g2,_⟩:=halo (by omega)
    rw [ho] at g1;injection g1 with g1;subst g1
    simp [Qq,g2]
   ·rw [h2];simp
   ·rw [h2];simp
 · -- events
  obtain ⟨u,h1,h2⟩:=hq i o (Nat.zero_le _) ho
  rw [hv] at h1;injection h1 with h1;subst h1
  have hil:i < ops.size:=by have:=(List.getElem?_eq_some_iff.1 ho).1;simpa using this
  by_cases hmi:m≤i
  ·rw [decide_eq_true hmi] at h2
   simp only at h2
   have hc:=hcnt i hmi
   have hmin:min ops.size i=i:=by omega
   rw [hmin] at hc
   rw [hc]
   by_cases c:al < m
   ·simp only [if_pos c,if_pos (And.intro c (show al < ops.size by omega))]
    rw [if_neg (by omega),if_neg (by omega),show m+(1+(i - m) - 1)=i by omega,show m+(1+(i - m)+1 - 1)=i+1 by omega]
    exact h2
   ·simp only [if_neg c,if_neg (show ¬ (al < m∧al < ops.size) by omega)]
    rw [show m+(0+(i - m))=i by omega,show m+(0+(i - m)+1)=i+1 by omega]
    exact h2
  ·have hia:i=al∧al < m:=by
    rcases Bool.or_eq_true_iff.1 hev with q|q
    ·simp only [Bool.and_eq_true] at q
     exact ⟨Nat.eq_of_beq_eq_true q.1,Qz.1 q.2⟩
    ·exact absurd (Nat.le_of_ble_eq_true q) hmi
   obtain ⟨rfl,hlt⟩:=hia
   obtain ⟨o2,g1,g2,g3⟩:=halo hlt
   rw [ho] at g1;injection g1 with g1;subst g1
   rw [decide_eq_false hmi] at h2
   have hc0:cnt (fun j=>((Nat.beq j i&&Nat.blt i m) || Nat.ble m j)&&Nat.blt j i) ops.size=0:=by
    rw [J7 (g:=fun _=>false) fun j hj=> ?_]
    ·exact Co _
    ·cases hbb:Nat.blt j i
     ·simp
     ·have hji:=Qz.1 hbb
      have e1:Nat.beq j i=false:=by
       rcases Jy j i with ⟨_,e⟩|⟨h3,_⟩
       ·omega
       ·exact h3
      have e2:Nat.ble m j=false:=by
       cases hq2:Nat.ble m j
       ·rfl
       ·have:=Nat.le_of_ble_eq_true hq2;omega
      simp [e1,e2]
   rw [hc0]
   simp only [if_pos hlt,if_true]
   rw [if_neg (by omega),show m+(0+1 - 1)=m by omega,hG]
   have hvv:v=va:=by
    rcases h2 with ⟨_,e,_⟩|⟨ne,_⟩
    ·exact e
    ·exact absurd rfl ne
   subst hvv
   exact g3.1
 · -- the others
  obtain ⟨u,h1,h2⟩:=hq i o (Nat.zero_le _) ho
  rw [hv] at h1;injection h1 with h1;subst h1
  rcases Bool.or_eq_false_iff.1 hev with ⟨k1,k2⟩
  have hmi: ¬ m≤i:=fun hh=>by rw [Nat.ble_eq_true_of_le hh] at k2;cases k2
  rw [decide_eq_false hmi] at h2
  rcases h2 with ⟨e,_⟩|⟨ne,⟨h2,_⟩|⟨_,q⟩⟩
  ·subst e
   have hlt:i < m:=by omega
   rw [hblt,decide_eq_true hlt,Bool.and_true] at k1
   simp [Nat.beq_refl] at k1
  ·rw [hw] at h2;simp at h2
  ·unfold K6 at q
   cases hfl:Zo ops.size m (Ys ops.toList m [m]) i with
   | false=>rw [hfl] at q;exact q _
   | true =>
    rw [hfl] at q
    obtain ⟨q1,q2⟩:=q
    have hd:=hD (fun j=>Nat.ble m j&&Nat.blt j ops.size) fun j hj=>by
     simp only [Bool.and_eq_true] at hj
     have hmj:=Nat.le_of_ble_eq_true hj.1
     have hjs:=Qz.1 hj.2
     refine ⟨by simp [hj.1],?_⟩
     have:=hta (j - m) i (by simp;omega) (by omega) fun _=>by
      unfold Zo at hfl
      split at hfl
      ·rename_i hbq
       have:=Nat.eq_of_beq_eq_true hbq
       omega
      ·exact Qp.1 hfl
     rwa [show m+(j - m)=j by omega] at this
    have hcd:cnt (fun j=>Nat.ble m j&&Nat.blt j ops.size) ops.size=ops.size - m:=by
     have h3:=cnt_ev ops.size m ops.size hmle ops.size
     rw [if_neg (by omega)] at h3
     rw [show ops.size - m=0+(min ops.size ops.size - m) by omega,← h3]
     refine J7 fun j hj=> ?_
     have:Nat.blt ops.size m=false:=by
      cases hbb:Nat.blt ops.size m
      ·rfl
      ·have:=Qz.1 hbb;omega
     simp [this]
    rw [hcd,hcntA] at hd
    by_cases c:al < m
    ·simp only [if_pos c] at hd ⊢
     by_cases hp:p=0
     ·simp only [if_pos hp];exact q1
     ·have:p=1:=by omega
      subst this
      simp only [if_neg (show ¬ (1:Nat)=0 by omega),Nat.sub_self,Nat.add_zero,hG]
      exact q2 c
    ·simp only [if_neg c] at hd ⊢
     have:p=0:=by omega
     subst this
     rcases halw with q|⟨_,e⟩
     ·exact absurd q c
     ·rw [Nat.add_zero,hG,e];exact q1
 · -- the first heap
  by_cases c:al < m
  ·simp only [if_pos c,if_true]
  ·simp only [if_neg c,Nat.add_zero,hG]
   rcases halw with q|⟨_,e⟩
   ·exact absurd q c
   ·exact e
 · -- the last
  rw [hcntA]
  by_cases c:al < m
  ·simp only [if_pos c]
   by_cases hz:1+(ops.size - m)=0
   ·omega
   ·rw [if_neg hz,show m+(1+(ops.size - m) - 1)=ops.size by omega];exact hk
  ·simp only [if_neg c]
   rw [show m+(0+(ops.size - m))=ops.size by omega];exact hk⟩
end Go.Proofs.YtpbiblhkcomekaaGreat
namespace Go.Proofs.YtpbiblhkcomekaaGreat
open Go Go.RowKit
set_option linter.unusedSimpArgs false
set_option linter.unusedVariables false
theorem Rel.freezeB {B w:World} {M Z:Nat→Prop} {ρ:Nat→Option (Nat×Nat)} {H:Heap} {b k N:Nat} {x:VObj} (h:Rel B M Z ρ H w) (hx:H.get b=some x) (hk:ρ b=some (k,N)):Rel B M (fun j=>Z j∨j=k) ρ (H.del b) w:=by
 have hsub: ∀ c y,(H.del b).get c=some y→H.get c=some y∧c≠b:=fun c y hy=>by
  rw [Heap.get_del] at hy
  split at hy
  ·cases hy
  ·rename_i hne
   exact ⟨hy,fun e=>hne e.symm⟩
 refine ⟨h.glob,h.os,h.tape,h.output,h.size,h.frame,h.dom,fun c y hy=>h.live c y (hsub c y hy).1,fun c c' q N1 N2 y y' hy hy'=>h.inj c c' q N1 N2 y y' (hsub _ _ hy).1 (hsub _ _ hy').1,fun c y hy=> ?_,fun j hj=> ?_⟩
 ·rcases h.obj c y (hsub c y hy).1 with hg|⟨q,N',o,h1,h2,h3,h4,h5⟩
  ·exact .inl hg
  refine .inr ⟨q,N',o,h1,h2,h3.zmono fun _ h=> .inl h,fun hz=> ?_,h5⟩
  rcases hz with hz|rfl
  ·exact h4 hz
  ·exact (hsub c y hy).2 (h.inj c b q N' N y x (hsub c y hy).1 hx h1 hk)
 ·rcases hj with hj|rfl
  ·exact h.zlt j hj
  ·exact h.lt hx hk
theorem Rel.ownB {B w:World} {M Z:Nat→Prop} {ρ:Nat→Option (Nat×Nat)} {H:Heap} {b k N:Nat} {x:VObj} (h:Rel B M Z ρ H w) (hx:H.get b=some x) (hr:x.rw=true) (hk:ρ b=some (k,N)):own B M k:=by
 obtain ⟨k',N',o,g1,g2,g3,g4,g5⟩:=h.objK hx hk
 rw [hk] at g1;injection g1 with g1;injection g1 with g1 g1';subst g1
 exact g5 hr
theorem Ext.unfreeze {X:Nat→Prop} {n n' k:Nat} {Z Z':Nat→Prop} {ρ ρ':Nat→Option (Nat×Nat)} {w w':World} (hX:X k) (e:Ext X n (fun j=>Z j∨j=k) ρ w n' Z' ρ' w'):Ext X n Z ρ w n' Z' ρ' w' :=
 ⟨e.nle,e.rold,fun j hj=>e.zsub j (.inl hj),e.rsub,fun j hj=>e.keep j (.inl hj),e.size,fun j hj=>by
  rcases e.znew j hj with (g|rfl)|g
  ·exact .inl g
  ·exact .inr (.inr hX)
  ·exact .inr g⟩
theorem frz_core {P:Program} {r:Option Nat} {c:Code} {Q:Exit→VSt→Prop} {ts:List VV} {H:Heap} {m:List Nat} {v u:VV} {b:Nat} {x:VObj} (i:Nat) (hi:ts[i]? = some v) (hx:H.get b=some x) (hr:x.rw=true)
  (hv: ∀ B M Z ρ w y,Rel B M Z ρ H w→Qf w Z ρ v y→Qf w Z ρ u y∨ ∃ k N,ρ b=some (k,N)∧Qf w (fun j=>Z j∨j=k) ρ u y) (h:GWP P r c Q ⟨ts.set i u,H.del b,m⟩):Ju P r c Q ⟨ts,H,m⟩:=⟨⟨fun B M Z ρ a w rr QE g0 g1 g2 g3=>by
 obtain ⟨y,hy,hvy⟩:=g2.tmps.get hi
 have hset: ∀ {Z2:Nat→Prop},(∀ k,Z k→Z2 k)→Qf w Z2 ρ u y→Pw (Qf w Z2 ρ) (ts.set i u) a.tmps.toList:=fun hz hu=>by
  have hp:=(g2.tmps.mono fun _ _ h=>h.zmono hz).set i hu
  rwa [List.ext_getElem? (l₁:=a.tmps.toList.set i _) (l₂:=a.tmps.toList) (fun j=>by
   by_cases e:i=j
   ·subst e
    rw [List.getElem?_set_self (List.getElem?_eq_some_iff.1 hy).1,hy]
   ·rw [List.getElem?_set_ne e])] at hp
 rcases hv B M Z ρ w y g1 hvy with hu|⟨k,N,hk,hu⟩
 ·exact h.out B M Z ρ a w rr QE g0 (g1.del b) ⟨hset (fun _ h=>h) hu,g2.marks⟩ g3
 ·exact h.out B M (fun j=>Z j∨j=k) ρ a w rr QE g0 (g1.freezeB hx hk) ⟨hset (fun _ h=> .inl h) hu,g2.marks⟩ fun e s' Z' ρ' a' w' q e1 r1 a1=>g3 e s' Z' ρ' a' w' q (e1.unfreeze (g1.ownB hx hr hk)) r1 a1⟩⟩
theorem read_frz {B w:World} {M Z:Nat→Prop} {ρ:Nat→Option (Nat×Nat)} {H:Heap} {b k N n z c' o:Nat} {vs:List VV} {cs:Array Value} {t:TypeId} {fr:Nat×Nat} (hw:w.heap[k]? = some (.cells cs t fr)) (hp:Pre (Qf w Z ρ) vs cs.toList) (hl:vs.length=n*z) (hn:n≤c'):Qf w (fun j=>Z j∨j=k) ρ (.ro n vs) (.slice (some ⟨k,0,none⟩) n c'):=by
 have hpp:=hp.part 0 vs.length (by omega)
 rw [List.drop_zero,List.drop_zero,List.take_length] at hpp
 have hlen:=hpp.1
 refine .ro (cs:=cs.toList.take vs.length) (.inr rfl) hn hlen (fun i hi=> ?_) (fun i u c hu hc=>(hpp.2 i u c hu hc).zmono fun _ h=> .inl h)
 rw [Js hw,Nat.zero_add]
 rw [List.getElem?_take_of_lt (by rw [hlen];exact hi)]
 simp
theorem Ju.freeze {P:Program} {r:Option Nat} {c:Code} {Q:Exit→VSt→Prop} {ts:List VV} {H:Heap} {m:List Nat} {b n z:Nat} {vs:List VV} (i:Nat) (hi:ts[i]? = some (.gs b n z)) (hg:H.get b=some (.opt vs)) (hl:vs.length=n*z) (h:GWP P r c Q ⟨ts.set i (.ro n vs),H.del b,m⟩):Ju P r c Q ⟨ts,H,m⟩:=by
 refine frz_core i hi hg rfl ?_ h
 intro B M Z ρ w y hr hv
 cases hv with
 | gs0 =>
  obtain rfl:vs= []:=List.eq_nil_of_length_eq_zero (by simpa using hl)
  exact .inl .ro0
 | @gs _ _ k N c' _ hk hn hz h0 =>
  obtain ⟨k',N',o,g1,g2,⟨cs,t,fr,rfl,q1,q2,q3⟩,_⟩:=hr.objK hg hk
  rw [hk] at g1;injection g1 with g1;injection g1 with g1 g1';subst g1 g1'
  exact .inr ⟨k,N,hk,read_frz (B:=B) (M:=M) (H:=H) (b:=b) (N:=N) (o:=0) g2 q2 hl hn⟩
theorem frz_op {P:Program} {o:Oper} {ts:List VV} {H:Heap} {K:VV→Heap→Prop} {v u:VV} {b:Nat} {x:VObj} (i:Nat) (hi:ts[i]? = some v) (hx:H.get b=some x) (hr:x.rw=true)
  (hv: ∀ B M Z ρ w y,Rel B M Z ρ H w→Qf w Z ρ v y→Qf w Z ρ u y∨ ∃ k N,ρ b=some (k,N)∧Qf w (fun j=>Z j∨j=k) ρ u y) (h:Qr P o (ts.set i u) (H.del b) K):Qr P o ts H K:=⟨⟨fun B M Z ρ a w rr KK QE g1 g2 g3=>by
 obtain ⟨y,hy,hvy⟩:=g2.get hi
 have hset: ∀ {Z2:Nat→Prop},(∀ k,Z k→Z2 k)→Qf w Z2 ρ u y→Pw (Qf w Z2 ρ) (ts.set i u) a.tmps.toList:=fun hz hu=>by
  have hp:=(g2.mono fun _ _ h=>h.zmono hz).set i hu
  rwa [List.ext_getElem? (l₁:=a.tmps.toList.set i _) (l₂:=a.tmps.toList) (fun j=>by
   by_cases e:i=j
   ·subst e
    rw [List.getElem?_set_self (List.getElem?_eq_some_iff.1 hy).1,hy]
   ·rw [List.getElem?_set_ne e])] at hp
 rcases hv B M Z ρ w y g1 hvy with hu|⟨k,N,hk,hu⟩
 ·exact h.out.out B M Z ρ a w rr KK QE (g1.del b) (hset (fun _ h=>h) hu) g3
 ·exact h.out.out B M (fun j=>Z j∨j=k) ρ a w rr KK QE (g1.freezeB hx hk) (hset (fun _ h=> .inl h) hu) fun v' v H' Z' ρ' w' q e1 r1 v1=>g3 v' v H' Z' ρ' w' q (e1.unfreeze (g1.ownB hx hr hk)) r1 v1⟩⟩
theorem gs_view {H:Heap} {b n z:Nat} {vs:List VV} (hg:H.get b=some (.opt vs)) (hl:vs.length=n*z): ∀ B M Z ρ w y,Rel B M Z ρ H w→Qf w Z ρ (.gs b n z) y→Qf w Z ρ (.ro n vs) y∨ ∃ k N,ρ b=some (k,N)∧Qf w (fun j=>Z j∨j=k) ρ (.ro n vs) y:=by
 intro B M Z ρ w y hr hv
 cases hv with
 | gs0 =>
  obtain rfl:vs= []:=List.eq_nil_of_length_eq_zero (by simpa using hl)
  exact .inl .ro0
 | @gs _ _ k N c' _ hk hn hz h0 =>
  obtain ⟨k',N',o,g1,g2,⟨cs,t,fr,rfl,q1,q2,q3⟩,_⟩:=hr.objK hg hk
  rw [hk] at g1;injection g1 with g1;injection g1 with g1 g1';subst g1 g1'
  exact .inr ⟨k,N,hk,read_frz (B:=B) (M:=M) (H:=H) (b:=b) (N:=N) (o:=0) g2 q2 hl hn⟩
theorem Qr.freeze {P:Program} {o:Oper} {ts:List VV} {H:Heap} {K:VV→Heap→Prop} {b n z:Nat} {vs:List VV} (i:Nat) (hi:ts[i]? = some (.gs b n z)) (hg:H.get b=some (.opt vs)) (hl:vs.length=n*z) (h:Qr P o (ts.set i (.ro n vs)) (H.del b) K):Qr P o ts H K:=frz_op i hi hg rfl (gs_view hg hl) h
end Go.Proofs.YtpbiblhkcomekaaGreat
namespace Go.Proofs.YtpbiblhkcomekaaGreat
open Go Go.RowKit
set_option linter.unusedSimpArgs false
set_option linter.unusedVariables false
def eachH (l:List Heap) (p:Heap→Prop):Prop:=List.rec True (fun h _ ih=>And (p h) ih) l
theorem eachH_mem {p:Heap→Prop}: ∀ {l:List Heap},eachH l p→ ∀ h∈l,p h
 | [],_,h,hm=>by simp at hm
 | a::r,hp,h,hm=>by
  obtain ⟨h1,h2⟩:=hp
  rcases List.mem_cons.1 hm with rfl|hm
  ·exact h1
  ·exact eachH_mem h2 h hm
def chainE (ops:List Oper):List Nat→Bool
 | []=>true
 | i::r=>chainE ops r&&r.all fun j=>Nat.blt i j&&Jl i (Ys ops j [j])
def one3 (P:Program) (o:Oper) (ts:List VV) (H:Heap) (K:VV→Heap→Prop):Prop:=match o.op with
 | .convert _ _ x=>match Qh ts x with
  | .sc (.string _)=>GOp P o ts H K
  | _=>Cr P o ts H K
 | _=>Cr P o ts H K
theorem one3_sound {P:Program} {o:Oper} {ts:List VV} {H:Heap} {K:VV→Heap→Prop} (h:one3 P o ts H K):Q3 P o ts H K:=by
 unfold one3 at h
 split at h
 ·split at h
  ·exact Xo h
  ·exact Y7 h
 ·exact Y7 h
def laterE (ops:Array Oper) (E:List Nat) (i:Nat):Nat:=cnt (fun j=>Jl j E&&Jl i (Ys ops.toList j [j])) ops.size
def heapsOf (ops:Array Oper) (Gs:List Heap) (E:List Nat) (i:Nat):List Heap:=(Gs.take (Gs.length - laterE ops E i)).drop (cnt (fun j=>Jl j E&&Jl j (Ys ops.toList i [i])) i)
def Eg (ops:Array Oper) (Gs:List Heap) (E:List Nat) (i:Nat) (p:Heap→Prop):Prop:=forceNL (Ys ops.toList i [i]) fun an=>eachH ((Gs.take (Gs.length - laterE ops E i)).drop (cnt (fun j=>Jl j E&&Jl j an) i)) p
theorem eachW_eq (ops:Array Oper) (Gs:List Heap) (E:List Nat) (i:Nat) (p:Heap→Prop):Eg ops Gs E i p=eachH (heapsOf ops Gs E i) p:=by
 unfold Eg
 rw [Wy]
 rfl
section
variable (P:Program) (ops:Array Oper) (ts0:List VV) (E:List Nat) (Gs:List Heap) (K:List VV→Heap→Prop)
def Kc (i:Nat) (l:List Oper) (vs:List VV) (Hs:List Heap):Prop :=
 List.rec (motive:=fun _=>Nat→List VV→List Heap→Prop) (fun i vs Hs=>match Hs with
  | [H]=>K vs H
  | _=>False) (fun o r ih i vs Hs=>match Jl i E with
  | true=>match o.guard,Hs with
   | none,H::H2::R=>Yj i o ops.toList vs ts0 (Jn ops o) fun L=>Val (fun v=>one3 P o (Jj L ts0.length 0) H fun x K'=>Is x v K' H2) (fun v=>Jw v fun v'=>snocE vs v' fun vs'=>ih (i+1) vs' (H2::R))
   | _,_=>False
  | false=>match o.guard with
   | none=>Yj i o ops.toList vs ts0 (Jn ops o) fun L=>Val (fun v=>Eg ops Gs E i fun Hx=>one3 P o (Jj L ts0.length 0) Hx fun x K'=>Is x v K' Hx) (fun v=>Jw v fun v'=>snocE vs v' fun vs'=>ih (i+1) vs' Hs)
   | some (j,want)=>match Q8 o.after.toList j with
    | true=>match vs[j]? with
     | some (.sc (.bool b))=>ifB b
      (setE vs j (.sc (.bool true)) fun vs1=>match want with
       | true=>Yj i o ops.toList vs1 ts0 (Jn ops o) fun L=>Val (fun v=>Eg ops Gs E i fun Hx=>one3 P o (Jj L ts0.length 0) Hx fun x K'=>Is x v K' Hx) (fun v=>Jw v fun v'=>snocE vs1 v' fun vs'=>ih (i+1) vs' Hs)
       | false=>snocE vs1 (.tp []) fun vs'=>ih (i+1) vs' Hs)
      (setE vs j (.sc (.bool false)) fun vs1=>match want with
       | false=>Yj i o ops.toList vs1 ts0 (Jn ops o) fun L=>Val (fun v=>Eg ops Gs E i fun Hx=>one3 P o (Jj L ts0.length 0) Hx fun x K'=>Is x v K' Hx) (fun v=>Jw v fun v'=>snocE vs1 v' fun vs'=>ih (i+1) vs' Hs)
       | true=>snocE vs1 (.tp []) fun vs'=>ih (i+1) vs' Hs)
     | some (.tp _)=>snocE vs (.tp []) fun vs'=>ih (i+1) vs' Hs
     | _=>False
    | false=>False) l i vs Hs
theorem wdrawM_cons (i:Nat) (o:Oper) (r:List Oper) (vs:List VV) (Hs:List Heap):Kc P ops ts0 E Gs K i (o::r) vs Hs=(match Jl i E with
  | true=>match o.guard,Hs with
   | none,H::H2::R=>Yj i o ops.toList vs ts0 (Jn ops o) fun L=>Val (fun v=>one3 P o (Jj L ts0.length 0) H fun x K'=>Is x v K' H2) (fun v=>Jw v fun v'=>snocE vs v' fun vs'=>Kc P ops ts0 E Gs K (i+1) r vs' (H2::R))
   | _,_=>False
  | false=>match o.guard with
   | none=>Yj i o ops.toList vs ts0 (Jn ops o) fun L=>Val (fun v=>Eg ops Gs E i fun Hx=>one3 P o (Jj L ts0.length 0) Hx fun x K'=>Is x v K' Hx) (fun v=>Jw v fun v'=>snocE vs v' fun vs'=>Kc P ops ts0 E Gs K (i+1) r vs' Hs)
   | some (j,want)=>match Q8 o.after.toList j with
    | true=>match vs[j]? with
     | some (.sc (.bool b))=>ifB b
      (setE vs j (.sc (.bool true)) fun vs1=>match want with
       | true=>Yj i o ops.toList vs1 ts0 (Jn ops o) fun L=>Val (fun v=>Eg ops Gs E i fun Hx=>one3 P o (Jj L ts0.length 0) Hx fun x K'=>Is x v K' Hx) (fun v=>Jw v fun v'=>snocE vs1 v' fun vs'=>Kc P ops ts0 E Gs K (i+1) r vs' Hs)
       | false=>snocE vs1 (.tp []) fun vs'=>Kc P ops ts0 E Gs K (i+1) r vs' Hs)
      (setE vs j (.sc (.bool false)) fun vs1=>match want with
       | false=>Yj i o ops.toList vs1 ts0 (Jn ops o) fun L=>Val (fun v=>Eg ops Gs E i fun Hx=>one3 P o (Jj L ts0.length 0) Hx fun x K'=>Is x v K' Hx) (fun v=>Jw v fun v'=>snocE vs1 v' fun vs'=>Kc P ops ts0 E Gs K (i+1) r vs' Hs)
       | true=>snocE vs1 (.tp []) fun vs'=>Kc P ops ts0 E Gs K (i+1) r vs' Hs)
     | some (.tp _)=>snocE vs (.tp []) fun vs'=>Kc P ops ts0 E Gs K (i+1) r vs' Hs
     | _=>False
    | false=>False):=rfl
def evB (i:Nat):Nat:=cnt (fun j=>Jl j E&&Nat.blt j i) i
def MFact (V:List VV) (j:Nat) (o:Oper):Prop:= ∃ v,V[j]? = some v∧((Jl j E=true∧o.guard=none∧ ∃ H H2,Gs[evB E j]? = some H∧Gs[evB E j+1]? = some H2∧Q3 P o (Je j o ops.toList 0 V ts0) H (fun x K'=>x=v∧K'=H2)) ∨
 (Jl j E=false∧((Qq ops o (Je j o ops.toList 0 V ts0)=some false∧v= .tp [])∨(Qq ops o (Je j o ops.toList 0 V ts0)=some true∧ ∀ Hx∈heapsOf ops Gs E j,Q3 P o (Je j o ops.toList 0 V ts0) Hx (fun x K'=>x=v∧K'=Hx)))))
theorem evB_succ (i:Nat):evB E (i+1)=evB E i+(match Jl i E with|true=>1|false=>0):=by
 unfold evB
 rw [cnt]
 have h1:cnt (fun j=>Jl j E&&Nat.blt j (i+1)) i=cnt (fun j=>Jl j E&&Nat.blt j i) i:=J7 fun j hj=>by
  rw [Qz.2 hj,Qz.2 (Nat.lt_succ_of_lt hj)]
 rw [h1,Qz.2 (Nat.lt_succ_self i),Bool.and_true]
 cases Jl i E <;> rfl
theorem wdrawM_sound (hback: ∀ (i:Nat) (o:Oper),ops.toList[i]? = some o→ ∀ e∈o.after.toList,Xm e=true→e.on < i) (hnd:(dstsOf ops.toList).Nodup) (hbd: ∀ (i:Nat) (o:Oper),ops.toList[i]? = some o→ ∀ d,o.dst=some d→d < ts0.length) (hgd: ∀ (i:Nat) (o:Oper) (j:Nat) (w:Bool),ops.toList[i]? = some o→o.guard=some (j,w)→((ops[j]?).bind (fun x:Oper=>x.dst)).isSome=true): ∀ (r:List Oper) (i:Nat) (vs:List VV) (Hs:List Heap),ops.toList.drop i=r→vs.length=i→Gs.drop (evB E i)=Hs→Kc P ops ts0 E Gs K i r vs Hs →
  ∃ (V:List VV),(∃ a,V=vs++a)∧V.length=max i ops.size∧(∃ H,Gs.drop (evB E (max i ops.size))= [H]∧K V H)∧ ∀ j o,i≤j→ops.toList[j]? = some o→MFact P ops ts0 E Gs V j o:=by
 intro r
 induction r with
 | nil =>
  intro i vs Hs hd hv hg h
  have hle:ops.size≤i:=by have:=congrArg List.length hd;simp at this;omega
  rw [Nat.max_eq_left hle]
  refine ⟨vs,⟨[],by simp⟩,hv,?_,fun j o hj ho=> ?_⟩
  ·match Hs,h with
   | [H],h=>exact ⟨H,hg,h⟩
  ·have:=(List.getElem?_eq_some_iff.1 ho).1
   simp at this
   omega
 | cons o r ih =>
  intro i vs Hs hd hv hg h
  have ho:ops.toList[i]? = some o:=by
   have:=congrArg (fun l=>l[0]?) hd
   simpa using this
  have hil:i < ops.size:=by have:=(List.getElem?_eq_some_iff.1 ho).1;simpa using this
  have hd':ops.toList.drop (i+1)=r:=by rw [← List.drop_drop,hd];rfl
  have hmx:max (i+1) ops.size=max i ops.size:=by omega
  rw [wdrawM_cons] at h
  have hT: ∀ {V a:List VV},V=vs++a→Je i o ops.toList 0 vs ts0=Je i o ops.toList 0 V ts0:=fun e=>B7 ops ts0 hback ho hv e
  have step: ∀ (v:VV) (Hs':List Heap),Gs.drop (evB E (i+1))=Hs'→Kc P ops ts0 E Gs K (i+1) r (vs++ [v]) Hs'→(∀ V,Je i o ops.toList 0 vs ts0=Je i o ops.toList 0 V ts0→V[i]? = some v→MFact P ops ts0 E Gs V i o) →
    ∃ (V:List VV),(∃ a,V=vs++a)∧V.length=max i ops.size∧(∃ H,Gs.drop (evB E (max i ops.size))= [H]∧K V H)∧ ∀ j o,i≤j→ops.toList[j]? = some o→MFact P ops ts0 E Gs V j o:=by
   intro v Hs' hg' hw hf
   obtain ⟨V,⟨a,ha⟩,hl,hk,hq⟩:=ih (i+1) (vs++ [v]) Hs' hd' (by simp [hv]) hg' hw
   rw [hmx] at hl hk
   refine ⟨V,⟨v::a,by rw [ha];simp⟩,hl,hk,fun j x hj hx=> ?_⟩
   by_cases e:j=i
   ·subst e
    rw [ho] at hx;injection hx with hx;subst hx
    exact hf V (hT (a:=v::a) (by rw [ha];simp)) (by rw [ha,List.append_assoc,List.getElem?_append_right (by omega)];simp [hv])
   ·exact hq j x (by omega) hx
  have hev:=evB_succ E i
  cases hmi:Jl i E with
  | true =>
   rw [hmi] at h hev
   simp only at h hev
   split at h
   ·rename_i H H2 R hgn
    rw [Ki] at h
    obtain ⟨v,h1,h2⟩:=h.out
    rw [Zl,Yg] at h2
    have g0:Gs[evB E i]? = some H:=by
     have:=congrArg (fun l=>l[0]?) hg
     simpa using this
    have g1:Gs[evB E i+1]? = some H2:=by
     have:=congrArg (fun l=>l[1]?) hg
     simpa using this
    refine step v (H2::R) (by rw [hev,← List.drop_drop,hg];rfl) h2 fun V e hv1=>⟨v,hv1,.inl ⟨hmi,hgn,H,H2,g0,g1,?_⟩⟩
    rw [← e]
    exact Q3.less (U1 ops ts0 hnd i o vs _) ((one3_sound h1).mono fun x K' q=>⟨q.val,q.heap⟩)
   ·exact h.elim
  | false =>
   rw [hmi] at h hev
   simp only [Nat.add_zero] at h hev
   have hg':Gs.drop (evB E (i+1))=Hs:=by rw [hev];exact hg
   have go: ∀ (hw:Qq ops o (Je i o ops.toList 0 vs ts0)=some true),(Yj i o ops.toList vs ts0 (Jn ops o) fun L=>Val (fun v=>Eg ops Gs E i fun Hx=>one3 P o (Jj L ts0.length 0) Hx fun x K'=>Is x v K' Hx) (fun v=>Jw v fun v'=>snocE vs v' fun vs'=>Kc P ops ts0 E Gs K (i+1) r vs' Hs)) →
     ∃ (V:List VV),(∃ a,V=vs++a)∧V.length=max i ops.size∧(∃ H,Gs.drop (evB E (max i ops.size))= [H]∧K V H)∧ ∀ j o,i≤j→ops.toList[j]? = some o→MFact P ops ts0 E Gs V j o:=by
    intro hw hg2
    rw [Ki] at hg2
    obtain ⟨v,h1,h2⟩:=hg2.out
    rw [Zl,Yg] at h2
    refine step v Hs hg' h2 fun V e hv1=>⟨v,hv1,.inr ⟨hmi,.inr ⟨e ▸ hw,fun Hx hx=> ?_⟩⟩⟩
    rw [← e]
    exact Q3.less (U1 ops ts0 hnd i o vs _) ((one3_sound (eachH_mem ((eachW_eq _ _ _ _ _).mp h1) Hx hx)).mono fun x K' q=>⟨q.val,q.heap⟩)
   have skip: ∀ (hw:Qq ops o (Je i o ops.toList 0 vs ts0)=some false),(snocE vs (.tp []) fun vs'=>Kc P ops ts0 E Gs K (i+1) r vs' Hs) →
     ∃ (V:List VV),(∃ a,V=vs++a)∧V.length=max i ops.size∧(∃ H,Gs.drop (evB E (max i ops.size))= [H]∧K V H)∧ ∀ j o,i≤j→ops.toList[j]? = some o→MFact P ops ts0 E Gs V j o:=by
    intro hw hg2
    rw [Yg] at hg2
    exact step _ Hs hg' hg2 fun V e hv1=>⟨_,hv1,.inr ⟨hmi,.inl ⟨e ▸ hw,rfl⟩⟩⟩
   split at h
   ·rename_i hg
    exact go (by simp [Qq,hg]) h
   ·rename_i j want hg
    split at h
    case h_2=>exact h.elim
    rename_i hwt
    have hgd':=hgd i o j want ho hg
    have hval: ∀ u,vs[j]? = some u→ ∃ d,(ops[j]?).bind (·.dst)=some d∧(Je i o ops.toList 0 vs ts0)[d]? = some u:=fun u hu=>by
     cases hd2:(ops[j]?).bind (·.dst) with
     | none=>rw [hd2] at hgd';cases hgd'
     | some d =>
      refine ⟨d,rfl,?_⟩
      cases hx:ops[j]? with
      | none=>rw [hx] at hd2;cases hd2
      | some x =>
       rw [hx] at hd2
       have hx':ops.toList[j]? = some x:=by simpa using hx
       have hxd:x.dst=some d:=hd2
       have:=(Kd i o ops.toList 0 vs ts0 hnd).2.2 j d x hx' hxd (hbd j x hx' d hxd)
       rw [this,Nat.zero_add,hwt,hu]
       rfl
    split at h
    ·rename_i b hb3
     obtain ⟨d,e1,e2⟩:=hval _ hb3
     simp only [W7] at h
     cases b with
     | true =>
      simp only [ifB] at h
      rw [Zu hb3] at h
      cases want with
      | true=>exact go (by simp [Qq,hg,e1,e2]) h
      | false=>exact skip (by simp [Qq,hg,e1,e2]) h
     | false =>
      simp only [ifB] at h
      rw [Zu hb3] at h
      cases want with
      | false=>exact go (by simp [Qq,hg,e1,e2]) h
      | true=>exact skip (by simp [Qq,hg,e1,e2]) h
    ·rename_i hb3
     obtain ⟨d,e1,e2⟩:=hval _ hb3
     exact skip (by simp [Qq,hg,e1,e2]) h
    ·exact h.elim
end
theorem cnt_cutM (f:Nat→Bool) (i:Nat): ∀ {n:Nat},i≤n→cnt (fun j=>f j&&Nat.blt j i) n=cnt (fun j=>f j&&Nat.blt j i) i
 | 0,h=>by
  have:i=0:=by omega
  subst this;rfl
 | n+1,h=>by
  by_cases e:i=n+1
  ·rw [e]
  ·rw [cnt,cnt_cutM f i (show i≤n by omega)]
   have:Nat.blt n i=false:=by
    cases hb:Nat.blt n i
    ·rfl
    ·have:=Qz.1 hb;omega
   rw [this,Bool.and_false];rfl
theorem Ep {ops:List Oper}: ∀ {E:List Nat},chainE ops E=true→ ∀ i∈E,∀ j∈E,j < i→j∈Ys ops i [i]
 | [],_,i,hi,_,_,_=>by simp at hi
 | a::r,h,i,hi,j,hj,hlt=>by
  unfold chainE at h
  simp only [Bool.and_eq_true] at h
  have h2:=fun x hx=>List.all_eq_true.1 h.2 x hx
  rcases List.mem_cons.1 hi with e1|hi2
  ·subst e1
   rcases List.mem_cons.1 hj with e2|hj2
   ·omega
   ·have:=h2 j hj2
    simp only [Bool.and_eq_true] at this
    have:=Qz.1 this.1
    omega
  ·rcases List.mem_cons.1 hj with e2|hj2
   ·subst e2
    have:=h2 i hi2
    simp only [Bool.and_eq_true] at this
    exact Qp.1 this.2
   ·exact Ep h.1 i hi2 j hj2 hlt
theorem GWP.drawM {P:Program} {r:Option Nat} {id:Nat} {ops:Array Oper} {Q:Exit→VSt→Prop} {s:VSt} (hm:P.follows .mixedOrders=true) (n:Nat) (E:List Nat) (f:Heap→List Heap) (hb:(backN 0 ops.toList&&nodupN (dstsOf ops.toList)&&fitN n ops&&chainE ops.toList E)=true) (hlen:s.tmps.length=n)
  (h:match s with|⟨ts0,H,md⟩=>Kc P ops ts0 E (H::f H) (fun V H'=>tAllE ops.toList V ts0 fun ts=>Q .normal ⟨ts,H',md⟩) 0 ops.toList [] (H::f H)):GWP P r (.region id ops true) Q s:=⟨by
 obtain ⟨ts0,H,md⟩:=s
 simp only [Bool.and_eq_true] at hb
 obtain ⟨⟨⟨hb1,hb2⟩,hb3⟩,hb4⟩:=hb
 have hback: ∀ i o,ops.toList[i]? = some o→ ∀ e∈o.after.toList,Xm e=true→e.on < i:=fun i o ho e he hbe=>by
  have:=Wl hb1 i o ho e he hbe
  omega
 have hlen:ts0.length=n:=hlen
 have hfit: ∀ (i:Nat) (o:Oper),ops.toList[i]? = some o→(∀ d,o.dst=some d→d < ts0.length)∧ ∀ (j:Nat) (w:Bool),o.guard=some (j,w)→((ops[j]?).bind (fun x:Oper=>x.dst)).isSome=true:=fun i o ho=>by
  have:=List.all_eq_true.1 hb3 o (List.mem_of_getElem? ho)
  simp only [Bool.and_eq_true] at this
  refine ⟨fun d hd=> ?_,fun j w hg=> ?_⟩
  ·have h1:=this.1
   rw [hd] at h1
   rw [hlen]
   exact Nat.le_of_ble_eq_true h1
  ·have h1:=this.2
   rw [hg] at h1
   exact h1
 have h:Kc P ops ts0 E (H::f H) (fun V H'=>tAllE ops.toList V ts0 fun ts=>Q .normal ⟨ts,H',md⟩) 0 ops.toList [] (H::f H):=h
 obtain ⟨V,_,hl,⟨H',hd,hk⟩,hq⟩:=wdrawM_sound P ops ts0 E (H::f H) _ hback (Zw hb2) (fun i o ho=>(hfit i o ho).1) (fun i o j w ho=>(hfit i o ho).2 j w) ops.toList 0 [] (H::f H) rfl rfl rfl h
 rw [Un] at hk
 rw [Nat.zero_max] at hl hd
 have hlast:(H::f H)[evB E ops.size]? = some H':=by
  have:=congrArg (fun l=>l[0]?) hd
  simpa using this
 have hsz:evB E ops.size < (H::f H).length:=(List.getElem?_eq_some_iff.1 hlast).1
 have hall:cnt (fun j=>Jl j E&&Nat.blt j ops.size) ops.size=evB E ops.size:=rfl
 have hcut: ∀ i,i < ops.size→cnt (fun j=>(Jl j E&&Nat.blt j ops.size)&&Nat.blt j i) ops.size=evB E i:=fun i hi=>by
  unfold evB
  rw [← cnt_cutM (fun j=>Jl j E) i (n:=ops.size) (by omega)]
  exact J7 fun j hj=>by rw [Qz.2 hj,Bool.and_true]
 have hgE: ∀ i o,ops.toList[i]? = some o→i < ops.size:=fun i o ho=>by
  have:=(List.getElem?_eq_some_iff.1 ho).1
  simpa using this
 refine VWP.draw (vals:=V) (G:=fun k=>((H::f H)[k]?).getD H) (ev:=fun j=>Jl j E&&Nat.blt j ops.size) hm
  ⟨by simpa using hl.symm,Zw hb2,hback,fun i j hi h1 h2 hji=> ?_,fun i o ho hw=> ?_,fun i o ho=> ?_,fun i o v ho hw hev hv=> ?_,fun i o v p ho hw hev hv hA hD=> ?_⟩ ?_ ?_
 ·simp only [Bool.and_eq_true] at h1 h2
  have:=Ep hb4 i (Qp.1 h1.1) j (Qp.1 h2.1) hji
  rcases Kb i [i] (fun s hs=> .inl (by simpa using hs)) j this with e|e
  ·omega
  ·exact e
 ·obtain ⟨v,h1,h2⟩:=hq i o (Nat.zero_le _) ho
  rcases h2 with ⟨_,g2,_⟩|⟨hm2,⟨_,rfl⟩|⟨h2,_⟩⟩
  ·simp [Qq,g2] at hw
  ·exact ⟨h1,by simp [hm2]⟩
  ·rw [hw] at h2;simp at h2
 ·obtain ⟨v,h1,h2⟩:=hq i o (Nat.zero_le _) ho
  rcases h2 with ⟨_,g2,_⟩|⟨hm2,⟨h2,_⟩|⟨h2,_⟩⟩
  ·simp [Qq,g2]
  ·rw [h2];simp
  ·rw [h2];simp
 ·obtain ⟨u,h1,h2⟩:=hq i o (Nat.zero_le _) ho
  rw [hv] at h1;injection h1 with h1;subst h1
  rw [hcut i (hgE i o ho)]
  simp only [Bool.and_eq_true] at hev
  rcases h2 with ⟨_,g2,A,B,e1,e2,q⟩|⟨hm2,_⟩
  ·simp only [e1,e2,Option.getD_some]
   exact q
  ·rw [hm2] at hev;simp at hev
 ·obtain ⟨u,h1,h2⟩:=hq i o (Nat.zero_le _) ho
  rw [hv] at h1;injection h1 with h1;subst h1
  have hne:Jl i E=false:=by
   rw [Qz.2 (hgE i o ho),Bool.and_true] at hev
   exact hev
  have hp:=hD (fun _=>false) fun j hj=>by cases hj
  rw [Co,hall] at hp
  have hq2:=hA (fun j=>(Jl j E&&Jl j (Ys ops.toList i [i]))&&Nat.blt j i) fun j hj=>by
   simp only [Bool.and_eq_true] at hj
   have hji:=Qz.1 hj.2
   have hio:=hgE i o ho
   refine ⟨by simp only [Bool.and_eq_true];exact ⟨hj.1.1,Qz.2 (by omega)⟩,?_⟩
   rcases Kb i [i] (fun s hs=> .inl (by simpa using hs)) j (Qp.1 hj.1.2) with e|e
   ·omega
   ·exact e
  have hio:=hgE i o ho
  rw [cnt_cutM (fun j=>Jl j E&&Jl j (Ys ops.toList i [i])) i (n:=ops.size) (by omega)] at hq2
  have hq3:cnt (fun j=>(Jl j E&&Jl j (Ys ops.toList i [i]))&&Nat.blt j i) i=cnt (fun j=>Jl j E&&Jl j (Ys ops.toList i [i])) i:=J7 fun j hj=>by rw [Qz.2 hj,Bool.and_true]
  rw [hq3] at hq2
  rcases h2 with ⟨hm2,_⟩|⟨_,⟨h2,_⟩|⟨_,q⟩⟩
  ·rw [hne] at hm2;cases hm2
  ·rw [hw] at h2;simp at h2
  ·have hlt:p < (H::f H).length:=by omega
   have hlen2:(H::f H).length=evB E ops.size+1:=by
    have:=congrArg List.length hd
    rw [List.length_drop] at this
    simp only [List.length_cons,List.length_nil] at this ⊢
    omega
   have hp2:=hD (fun j=>(Jl j E&&Nat.blt j ops.size)&&Jl i (Ys ops.toList j [j])) fun j hj=>by
    have h1:=(Bool.and_eq_true _ _ ▸ hj:_∧_)
    refine ⟨h1.1,?_⟩
    rcases Kb j [j] (fun s hs=> .inl (by simpa using hs)) i (Qp.1 h1.2) with e|e
    ·subst e
     have:=(Bool.and_eq_true _ _ ▸ h1.1:_∧_).1
     rw [hne] at this
     cases this
    ·exact e
   have hlat:cnt (fun j=>(Jl j E&&Nat.blt j ops.size)&&Jl i (Ys ops.toList j [j])) ops.size=laterE ops E i:=J7 fun j hj=>by rw [Qz.2 hj,Bool.and_true]
   rw [hlat,hall] at hp2
   rw [List.getElem?_eq_getElem hlt]
   refine q _ ?_
   unfold heapsOf
   refine List.mem_of_getElem? (i:=p - cnt (fun j=>Jl j E&&Jl j (Ys ops.toList i [i])) i) ?_
   rw [List.getElem?_drop,Nat.add_sub_cancel' hq2,List.getElem?_take,if_pos (by omega),List.getElem?_eq_getElem hlt]
   rfl
 ·rfl
 ·rw [hall,hlast]
  exact hk⟩
end Go.Proofs.YtpbiblhkcomekaaGreat
