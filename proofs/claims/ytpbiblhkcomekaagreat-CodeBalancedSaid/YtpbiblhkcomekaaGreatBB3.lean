import Derived.Test.YtpbiblhkcomekaaGreatBE5
import Derived.Test.YtpbiblhkcomekaaGreatBB2
/- cordonlaw22.grow and balanced, walked whole. -/
namespace Go.Proofs.YtpbiblhkcomekaaGreat
open Go Go.RowKit
set_option linter.unusedSimpArgs false
set_option linter.unusedVariables false
set_option maxRecDepth 100000
set_option maxHeartbeats 8000000
theorem grow_call (op a:Nat) (t:List UInt8) (ha:op=7→a≤100000) (H:Heap):Qc Tryz.prog 36 [.ag [iV op,iV a,Qn t]] H (fun v K=>v=iV (grI ⟨op,a,t⟩)∧K=H):=by
 refine Qc.pure (by intro v hv;rw [List.mem_singleton] at hv;subst hv;exact Jz (by intro v hv;simp only [List.mem_cons,List.not_mem_nil,or_false] at hv;rcases hv with rfl|rfl|rfl <;> exact Qb _)) (Qb _) ?_
 have hop:(0:Int)≤op:=by omega
 refine Qc.go Tryz.func36 rfl ?_
 (repeat' (first|with_reducible refine And.intro ?_ ?_|(with_reducible intro hc;(try simp only [zz] at hc);try exact ct)|((conv=>whnf);first|(with_reducible first|refine And.intro ?_ ?_|intro hx|apply Val.via|apply Qk.via)|exact Is.mk rfl rfl|refine sp ?_|refine vx (by (first|exact Qa rfl rfl rfl|rfl)) ?_|refine dY ?_|fail|refine sq ?_)))
 (all_goals try exact om)
 all_goals (try (refine Qg.mk ?_;refine Q9 ?_;simp only [grI];repeat' split;all_goals omega))
theorem vmake_one {t e:TypeId} {v:VV} {i:TypeInfo} (hu:(Tryz.prog).underlying t=some (.slice e)) (hi:(Tryz.prog).info? e=some i) (hs:i.size=1) (hb:i.bytes≤8) (hz:Kj Tryz.prog e=some [v]) {n:Nat} (hn:n≤100000) (H:Heap):Kl Tryz.prog t (iV n) (iV n) H=some (.sl H.next 0 n (some n) 1,H.add (.cells true (List.replicate n v))):=by
 have hb2:n*i.bytes≤n*8:=Nat.mul_le_mul_left n hb
 simp only [Kl,iV,hu,hi,hz,hs,Int.toNat_natCast,Nat.mul_one,Wm]
 rw [if_pos ⟨by omega,by omega,by omega,by omega,rfl,by omega⟩]
theorem Qr.mkV {o:Oper} {ts:List VV} {H:Heap} {K:VV→Heap→Prop} {a x:Operand} {t e:TypeId} {v:VV} {i:TypeInfo} {n:Nat} (ho:o.op= .makeSlice t a x) (hu:(Tryz.prog).underlying t=some (.slice e)) (hi:(Tryz.prog).info? e=some i) (hs:i.size=1) (hb:i.bytes≤8) (hz:Kj Tryz.prog e=some [v]) (ha:Qh ts a=iV n) (hx:Qh ts x=iV n) (hn:n≤100000) (k:K (.sl H.next 0 n (some n) 1) (H.add (.cells true (List.replicate n v)))):Qr Tryz.prog o ts H K:=by
 refine Qr.via (vop_make ho ?_) k
 rw [ha,hx]
 exact vmake_one hu hi hs hb hz hn H
theorem Qr.mkI {o:Oper} {ts:List VV} {H:Heap} {K:VV→Heap→Prop} {a x:Operand} {n:Nat} (ho:o.op= .makeSlice 35 a x) (ha:Qh ts a=iV n) (hx:Qh ts x=iV n) (hn:n≤100000) (k:K (.sl H.next 0 n (some n) 1) (H.add (.cells true (List.replicate n (iV 0))))):Qr Tryz.prog o ts H K:=by
 obtain ⟨i,h1,h2,h3⟩: ∃ i,(Tryz.prog).info? 3=some i∧i.size=1∧i.bytes≤8:=⟨_,rfl,rfl,by decide⟩
 exact Qr.mkV ho Tryz.underlying35 h1 h2 h3 (by rfl) ha hx hn k
theorem Qr.mkBo {o:Oper} {ts:List VV} {H:Heap} {K:VV→Heap→Prop} {a x:Operand} {n:Nat} (ho:o.op= .makeSlice 101 a x) (ha:Qh ts a=iV n) (hx:Qh ts x=iV n) (hn:n≤100000) (k:K (.sl H.next 0 n (some n) 1) (H.add (.cells true (List.replicate n (Xk false))))):Qr Tryz.prog o ts H K:=by
 obtain ⟨i,h1,h2,h3⟩: ∃ i,(Tryz.prog).info? 4=some i∧i.size=1∧i.bytes≤8:=⟨_,rfl,rfl,by decide⟩
 exact Qr.mkV ho Tryz.underlying101 h1 h2 h3 (by rfl) ha hx hn k
theorem Qr.stC {o:Oper} {ts:List VV} {H:Heap} {K:VV→Heap→Prop} {b q j:Nat} {us rs:List VV} {t:TypeId} {a x:Operand} {v:Value} (ho:o.op= .store t a x) (hz:Jr Tryz.prog t=some 1) (ha:Qh ts a= .ptr b q) (hqj:q=j) (hx:Qh ts x= .sc v) (hg:H.get b=some (.cells true us)) (hq:j < us.length) (hrs:us.set j (.sc v)=rs) (k:K (.tp []) (H.set b (.cells true rs))):Qr Tryz.prog o ts H K:=by
 subst hqj hrs
 refine Qr.via (vop_store ho (H':=H.set b (.cells true (us.set q (.sc v)))) ?_) k
 have h1:cellsOf (.sc v)=some [.sc v]:=rfl
 have h2:Nat.ble (q+1) us.length=true:=Nat.ble_eq_true_of_le hq
 have h3:J3 us q [.sc v]=us.set q (.sc v):=rfl
 rw [ha,hx]
 simp only [vstore,hg,h1,hz,h2,h3,List.length_cons,List.length_nil,Nat.zero_add,show Nat.beq 1 1=true from rfl,Bool.and_self]
theorem Qr.capless {P:Program} {o:Oper} {ts:List VV} {H H':Heap} {K:VV→Heap→Prop} {b n z:Nat} {vs:List VV} (h:vop P o ts H=some (.sl b 0 n (some n) z,H')) (hg:H'.get b=some (.cells true vs)) (hl:n*z≤vs.length) (k:K (.sl b 0 n none z) H'):Qr P o ts H K:=⟨⟨fun B M Z ρ a w rr KK QE h1 h2 h3=>Q3.plain h B M Z ρ a w rr KK QE h1 h2 fun v' v2 H2 Z' ρ' w' e e1 r1 v1=>by
 obtain ⟨rfl,rfl⟩:=e
 refine h3 v' _ _ Z' ρ' w' k e1 r1 ?_
 cases v1 with
 | @sl _ _ _ k N c' _ _ hk hn hc hz =>
  obtain ⟨k',N',cs,t,fr,g1,g2,g3,g4,g5⟩:=r1.at_ hg
  rw [hk] at g1;injection g1 with g1;injection g1 with g1 g1';subst g1 g1'
  have hle:=g4.length
  have hcn:=hc _ rfl
  subst hcn
  refine .sl hk hn (fun _ e=>by cases e) (fun _=> ?_)
  simp at hle
  omega⟩⟩
theorem vagg_bool:Wo Tryz.prog 4=some false:=by kernel_rfl
def dpR (l:List Int):List VV:=l.map iV
def snR (l:List Bool):List VV:=l.map Xk
def bs0 (n:Nat):BS:=⟨List.replicate n 0,(List.replicate n false).set 0 true,[0]⟩
theorem bs0_ok {l:List Ins} {D:Nat→Int} (hB:BalC l D) (hl:1≤l.length):BInv l D (bs0 l.length)∧mBS (bs0 l.length)≤2*l.length+1:=by
 refine ⟨⟨by simp [bs0],by simp [bs0],fun k hk=> ?_,fun k hk=> ?_,fun k hk=> ?_⟩,?_⟩
 ·unfold bs0 at hk ⊢
  simp only at hk ⊢
  by_cases e:0=k
  ·subst e
   rw [List.getElem?_replicate,if_pos (by omega),hB.d0]
  ·rw [List.getElem?_set_ne e,List.getElem?_replicate] at hk
   split at hk
   ·simp at hk
   ·simp at hk
 ·simp [bs0] at hk
  subst hk
  exact ⟨hl,by unfold bs0;simp only;rw [List.getElem?_set_self (by simp;omega)]⟩
 ·unfold bs0 at hk
  simp only at hk
  by_cases e:0=k
  ·subst e
   rw [hB.d0]
   decide
  ·rw [List.getElem?_set_ne e,List.getElem?_replicate] at hk
   split at hk <;> simp at hk
 ·unfold mBS bs0
  simp only [List.length_singleton]
  have:=List.count_le_length (a:=false) (l:=(List.replicate l.length false).set 0 true)
  simp at this
  omega
theorem Qr.slH {P:Program} {o:Oper} {ts:List VV} {H:Heap} {K:VV→Heap→Prop} {t e:TypeId} {x hi:Operand} {b n h z:Nat} (ho:o.op= .slice t x none (some hi) none) (hu:P.underlying t=some (.slice e)) (hz:Jr P e=some z) (hx:Qh ts x= .sl b 0 n none z) (hb:Yf n n none (some (Qh ts hi)) none=some (0,h,none)) (k:K (.sl b 0 h none z) H):Qr P o ts H K:=by
 refine Qr.via (v:= .sl b 0 h none z) (H':=H) ?_ k
 simp only [vop,ho,hx,Option.map_none,Option.map_some]
 simp [Na,hu,hz,hb]
 rfl
structure KI (l:List Ins) (D:Nat→Int) (x:BS×List VV):Prop where
 b:BInv l D x.1
 m:mBS x.1≤2*l.length+1
 t:x.2.take x.1.wk.length=x.1.wk.map (fun (k:Nat)=>iV k)
 n:x.1.wk.length≤x.2.length
 nl: ∀ v∈x.2,Qd v
theorem Yd (l:List Int): ∀ v∈dpR l,Qd v:=fun v hv=>by
 obtain ⟨x,-,rfl⟩:=List.mem_map.1 hv
 exact Qb _
theorem Yc (l:List Bool): ∀ v∈snR l,Qd v:=fun v hv=>by
 obtain ⟨x,-,rfl⟩:=List.mem_map.1 hv
 exact Qb _
theorem dp0 (n:Nat):List.replicate n (iV 0)=dpR (bs0 n).dp:=by simp [dpR,bs0]
theorem sn0 (n:Nat):(List.replicate n (Xk false)).set 0 (.sc (.bool true))=snR (bs0 n).sn:=by
 unfold snR bs0
 rw [List.map_set,List.map_replicate]
 rfl
theorem Zt {l:List Ins} {i o:Nat} {x:Ins} (h:l[i]? = some x) (ho:o=i*3):vat Tryz.prog 41 (Xn l) o=some (.ag [iV x.op,iV x.a,Qn x.text]):=by
 have h1:Wo Tryz.prog 41=some true:=by kernel_rfl
 have h2:Jr Tryz.prog 41=some 3:=by kernel_rfl
 subst ho
 have key: ∀ (l:List Ins) (i:Nat) (n:Ins),l[i]? = some n→((Xn l).drop (i*3)).take 3=insC n∧i*3+3≤(Xn l).length:=by
  intro l
  induction l with
  | nil=>intro i n h;simp at h
  | cons q r ih =>
   intro i n h
   have e:Xn (q::r)=insC q++Xn r:=by unfold Xn;rw [Xy]
   rw [e]
   cases i with
   | zero =>
    simp at h
    subst h
    refine ⟨?_,by rw [List.length_append,Zz];omega⟩
    rw [Nat.zero_mul,List.drop_zero,List.take_append_of_le_length (by rw [Zz];exact Nat.le_refl _),List.take_of_length_le (by rw [Zz];exact Nat.le_refl _)]
   | succ i =>
    have ih:=ih i n (by simpa using h)
    rw [show (i+1)*3=(insC q).length+i*3 by rw [Zz];omega,List.drop_append]
    refine ⟨?_,by rw [List.length_append];omega⟩
    rw [List.drop_of_length_le (by omega),List.nil_append,show (insC q).length+i*3 - (insC q).length=i*3 by omega]
    exact ih.1
 obtain ⟨k1,k2⟩:=key l i _ h
 have h3:Nat.ble (i*3+3) (Xn l).length=true:=Nat.ble_eq_true_of_le k2
 simp only [vat,h1,h2,h3,k1,insC]
theorem grI_bd (op a:Nat) (t:List UInt8) (ha:op=7→a≤100000): -100000≤grI ⟨op,a,t⟩∧grI ⟨op,a,t⟩≤1:=by
 simp only [grI]
 repeat' split
 all_goals omega
theorem pop_ok {l:List Ins} {D:Nat→Int} {s:BS} {r:List Nat} {i:Nat} (h:BInv l D s) (he:s.wk=r++ [i]):BInv l D ⟨s.dp,s.sn,r⟩∧mBS ⟨s.dp,s.sn,r⟩+1=mBS s:=by
 refine ⟨⟨h.dl,h.sl,h.sd,fun k hk=>h.wk k (by rw [he];simp only at hk;simp [hk]),h.dm⟩,?_⟩
 unfold mBS
 simp only
 rw [he]
 simp
 omega
theorem idxp1 (n:Nat):0+(((n+1:Nat):Int) - 1).toNat*1=n:=by omega
theorem J0 (n:Nat):0+((n:Nat):Int).toNat*1=n:=by omega
theorem idxi3 (n:Nat):0+((n:Nat):Int).toNat*3=n*3:=by omega
theorem idxj3 (n:Nat):((n:Nat):Int).toNat*3=n*3:=by omega
theorem Qr.ins {P:Program} {o:Oper} {ts:List VV} {H H':Heap} {K:VV→Heap→Prop} {t:TypeId} {m x y:Operand} (ho:o.op= .insert t m x y) (h:B4 P t (Qh ts m) (Qh ts x) (Qh ts y) H=some H') (k:K (.tp []) H'):Qr P o ts H K:=⟨⟨fun B M Z ρ a w rr KK QE h1 h2 h3=>by
 have hnd: ∀ c,o.op≠ .defer c:=fun c e=>by simp [ho] at e
 have hev:=fun x=>J2 (w:=w) (Z:=Z) (ρ:=ρ) (a:=a) h2 x
 obtain ⟨w2,g1,g2,g3⟩:=Cs h1 (hev m) (hev x) (hev y) h
 have od:J5 P o a B M H.next Z ρ w (.tp []) H':=⟨undef,w2,Z,ρ,.inr ⟨by simp [execOp,ho,g1],rfl⟩,g2,g3,Qf.undef⟩
 obtain ⟨v',w',Z',ρ',hr,e1,r1,v1⟩:=od
 refine ⟨fun f _=>B3 _ f,?_⟩
 rw [Oper.semAt_eq _ _ _ hnd]
 have hk:=h3 v' _ _ Z' ρ' w' k e1 r1 v1
 rcases hr with hr|⟨hr,rfl⟩
 ·rw [hr];exact hk
 ·rw [hr];exact hk⟩⟩
def opK (n:Nat):Value:= .int .i64 n
theorem Qr.lookN {o:Oper} {ts:List VV} {H:Heap} {K:VV→Heap→Prop} {op a b i j:Nat} {t:List UInt8} (ho:o.op= .lookup 102 (.tmp i) (.tmp j) false) (h1:Qh ts (.tmp i)= .mp b) (h2:Qh ts (.tmp j)=iV op) (hg:H.get b=some (.map [opK 3,opK 4,opK 5,opK 6,opK 9,opK 7] [iV 1,iV 1,iV 2,iV 1,iV 1,iV a])) (k:K (iV (ndI ⟨op,a,t⟩)) H):Qr Tryz.prog o ts H K:=by
 refine Qr.via (v:=iV (ndI ⟨op,a,t⟩)) (H':=H) ?_ k
 obtain ⟨kt,e,u1,u2⟩: ∃ kt e,(Tryz.prog).underlying 102=some (.map kt e)∧(Tryz.prog).underlying kt=some (.int .i64):=⟨_,_,rfl,rfl⟩
 have hk:isKeyB (.int .i64) (.int .i64 (op:Int))=true:=rfl
 have hz:vzeroV Tryz.prog 3=some (iV 0):=by rfl
 obtain rfl:e=3:=by
  have:(Tryz.prog).underlying 102=some (.map 39 3):=by rfl
  rw [this] at u1
  injection u1 with u1
  injection u1 with u1 u2
  exact u2.symm
 have hs:iV (op:Int)= .sc (.int .i64 (op:Int)):=rfl
 have hf: ∀ m:Nat,keyEq (.int .i64) (.int .i64 (op:Int)) (opK m)=some (decide ((op:Int)=(m:Int))):=fun m=>rfl
 simp only [vop,ho,h1,h2,B5,vlook,u1,u2,hs,hk,hg,W9,hf]
 by_cases e3:op=3
 ·subst e3;rfl
 by_cases e4:op=4
 ·subst e4;rfl
 by_cases e5:op=5
 ·subst e5;rfl
 by_cases e6:op=6
 ·subst e6;rfl
 by_cases e9:op=9
 ·subst e9;rfl
 by_cases e7:op=7
 ·subst e7;rfl
 rw [decide_eq_false (by omega: ¬ (op:Int)=((3:Nat):Int)),decide_eq_false (by omega: ¬ (op:Int)=((4:Nat):Int)),decide_eq_false (by omega: ¬ (op:Int)=((5:Nat):Int)),decide_eq_false (by omega: ¬ (op:Int)=((6:Nat):Int)),decide_eq_false (by omega: ¬ (op:Int)=((9:Nat):Int)),decide_eq_false (by omega: ¬ (op:Int)=((7:Nat):Int))]
 simp only [hz,ndI,e3,e4,e5,e6,e9,e7,or_self,if_false]
 rfl
theorem vbh (n:Nat):Yf (n+1) (n+1) none (some (.sc (.int .i64 (((n+1:Nat):Int) - 1)))) none=some (0,n,none):=by
 have h:(((n+1:Nat):Int) - 1).toNat=n:=by omega
 have h2:(((n+1:Nat):Int) - 1)=(n:Int):=by omega
 rw [h2]
 simp only [Yf,Zq]
 rw [if_pos ⟨by omega,by omega⟩]
 simp
theorem sty_i:B2 Tryz.prog 35 1 8:=⟨⟨_,_,_,rfl,rfl,rfl,rfl,rfl,rfl⟩⟩
theorem Qr.growL {P:Program} {o:Oper} {ts:List VV} {H:Heap} {K:VV→Heap→Prop} {s x:Operand} {sT xT:TypeId} {z bytes m b n:Nat} {d:TypeDesc} {l vs:List VV} (ho:o.op= .call ⟨.builtin .append,#[s,x],#[sT,xT]⟩) (h:B2 P sT z bytes) (hx:P.underlying xT=some d) (hd: ∀ k,d≠ .int k) (hs:Qh ts s= .sl b 0 n none z) (hl:Jv z (Qh ts x) H=some (m,l)) (h1:l.all VV.one=true) (hm: ¬ m=0) (hg:H.get b=some (.cells true vs)) (hv:n*z≤vs.length) (hb:(n+m)*bytes≤140737488355328) (hm2:n+m≤4611686018427387904)
  (k:K (.sl H.next 0 (n+m) none z) ((H.del b).add (.cells true (vs.take (n*z)++l)))):Qr P o ts H K:=by
 refine Qr.via (C3 ho ?_) k
 rw [hs]
 exact vapp_grow h hx hd hl h1 hm hg hv hb hm2
def natR (l:List Nat):List VV:=l.map (fun (k:Nat)=>iV k)
theorem sn_ex {l:List Ins} {D:Nat→Int} {s:BS} (h:BInv l D s) {k:Nat} (hk:k < l.length):s.sn[k]? = some true∨s.sn[k]? = some false:=by
 have:k < s.sn.length:=by rw [h.sl];exact hk
 rw [List.getElem?_eq_getElem this]
 cases s.sn[k] <;> simp
theorem push_ki {l:List Ins} {D:Nat→Int} {s:BS} {w:List VV} (h:KI l D (s,w)) {k:Nat} (hk:k < l.length) (hf:s.sn[k]? = some false) (hD:D k≤128):KI l D (⟨s.dp.set k (D k),s.sn.set k true,s.wk++ [k]⟩,w.take (s.wk.length*1)++ [iV k])∧mBS ⟨s.dp.set k (D k),s.sn.set k true,s.wk++ [k]⟩≤mBS s:=by
 obtain ⟨h1,h2,h3,h4,h5⟩:=h
 simp only at h1 h2 h3 h4 h5
 obtain ⟨p1,p2,-⟩:=pushK_ok h1 k hk hD
 unfold pushK at p1 p2
 rw [if_neg (by rw [hf];simp)] at p1 p2
 rw [Nat.mul_one]
 have hl:(w.take s.wk.length).length=s.wk.length:=by rw [List.length_take];exact Nat.min_eq_left h4
 refine ⟨⟨p1,by simp only;omega,?_,?_,?_⟩,p2⟩
 ·simp only [List.length_append,List.length_singleton]
  rw [List.take_of_length_le (by rw [List.length_append,hl];simp),h3,List.map_append]
  rfl
 ·simp only [List.length_append,List.length_singleton,hl]
  omega
 ·intro v hv
  rcases List.mem_append.1 hv with hv|hv
  ·exact h5 v (List.mem_of_mem_take hv)
  ·rw [List.mem_singleton] at hv
   subst hv
   exact Qb _
theorem balanced_call (l:List Ins) (D:Nat→Int) (hB:BalC l D) (hl:l.length≤8192):Qc Tryz.prog 11 [.ro l.length (Xn l)] ⟨[],0⟩ (fun v _=>v=Xk true):=by
 have hgr:=grow_call
 have hlen:1≤l.length:=by obtain ⟨r,t,e⟩:=hB.la;rw [e];simp
 obtain ⟨hb0,hm0⟩:=bs0_ok hB hlen
 refine Qc.go Tryz.func11 rfl ?_
 (repeat' (first|with_reducible refine And.intro ?_ ?_|(with_reducible intro hc;(try simp only [zz] at hc);try exact ct)|((conv=>whnf);first|(with_reducible first|refine And.intro ?_ ?_|intro hx|apply Val.via|apply Qk.via)|exact Is.mk rfl rfl|refine sp ?_|refine vx (by (first|exact Qa rfl rfl rfl|rfl)) ?_|refine dY ?_|fail|refine sq ?_)))
 (all_goals try exact om)
 refine Qr.mkI (n:=l.length) rfl rfl rfl (by omega) ?_
 (repeat' (first|with_reducible refine And.intro ?_ ?_|(with_reducible intro hc;(try simp only [zz] at hc);try exact ct)|((conv=>whnf);first|(with_reducible first|refine And.intro ?_ ?_|intro hx|apply Val.via|apply Qk.via)|exact Is.mk rfl rfl|(first|(refine Qw (Qr.mkBo (n:=l.length) rfl rfl rfl (by omega) ?_))|(refine Qw (Qr.stC (t:=4) (j:=0) rfl (by kernel_rfl) rfl rfl rfl rfl (by simp;omega) rfl ?_))|(refine Qw (Qr.capless (vs:= [iV 0]) (n:=1) (z:=1) rfl rfl (by decide) ?_)))|refine sp ?_|refine vx (by (first|exact Qa rfl rfl rfl|rfl)) ?_|refine dY ?_|fail|refine sq ?_)))
 (all_goals try exact om)
 refine Ju.keep [(0,.ro l.length (Xn l)),(2,.sc (.bool false)),(3,.sl 0 0 l.length (some l.length) 1),(4,.sl 1 0 l.length (some l.length) 1),(5,.sl 2 0 1 none 1)] 135 [(0,.cells true (List.replicate l.length (iV 0))),(1,.cells true ((List.replicate l.length (Xk false)).set 0 (.sc (.bool true)))),(2,.cells true [iV 0])] 3 rfl (by repeat' (first|exact trivial|refine And.intro rfl ?_)) rfl (by repeat' (first|exact trivial|refine And.intro rfl ?_)) ?_
 (conv=>whnf)
 refine X6 ?_
 (refine Ju.mk (GWP.loopB [0,1,2] (fun (x:BS×List VV)=>KI l D x) (fun x=> [(5,.sl 3 0 x.1.wk.length none 1)]) (fun x=> [(0,.cells true (dpR x.1.dp)),(1,.cells true (snR x.1.sn)),(3,.cells true x.2)]) 4 (fun x=>mBS x.1) (bs0 l.length,[iV 0]) ⟨hb0,hm0,rfl,Nat.le_refl _,by intro v hv;rw [List.mem_singleton] at hv;subst hv;exact Qb _⟩ ?_);(conv=>whnf);refine And.intro ?_ ?_)
 ·focus (refine ka [(2,3)] ?_ ?_;all_goals (repeat' (first|exact rz|refine And.intro ?_ ?_|refine Exists.intro _ (And.intro rfl ?_)|refine ro ?_|refine Qe.cons ?_ ?_|(first|(rw [dp0];exact Qe.of (Yd _))|(rw [sn0];exact Qe.of (Yc _))|exact Qi.sl (by decide)|(exact Qe.of (Yd _))|exact Qe.of (Yc _))|exact rv)))
 rintro ⟨s,wl⟩ ⟨hbi,hmb,htk,hwn,hwnl⟩
 simp only at hbi hmb htk hwn hwnl ⊢
 have hwb:s.wk.length≤20000:=by unfold mBS at hmb;omega
 rcases List.eq_nil_or_concat s.wk with he|⟨r,i,he⟩
 ·rw [he]
  (repeat' (first|with_reducible refine And.intro ?_ ?_|(with_reducible intro hc;(try simp only [zz] at hc);try exact ct)|((conv=>whnf);first|(with_reducible first|refine And.intro ?_ ?_|intro hx|apply Val.via|apply Qk.via)|exact Is.mk rfl rfl|refine sp ?_|refine vx (by (first|exact Qa rfl rfl rfl|rfl)) ?_|refine dY ?_|fail|refine sq ?_)))
  (all_goals try exact om)
  all_goals exact Qg.mk rfl
 ·rw [List.concat_eq_append] at he
  have hle:s.wk.length=r.length+1:=by rw [he];simp
  obtain ⟨hil,hsi⟩:=hbi.wk i (by rw [he];simp)
  obtain ⟨x,hx⟩: ∃ x,l[i]? = some x:=⟨l[i],List.getElem?_eq_getElem hil⟩
  have hwi:wl[r.length]? = some (iV i):=by
   have h2:(wl.take s.wk.length)[r.length]? = some (iV i):=by rw [htk,he];simp
   rw [List.getElem?_take,if_pos (by omega)] at h2
   exact h2
  have hdi:=hbi.sd i hsi
  have hdr:(dpR s.dp)[i]? = some (iV (D i)):=by
   unfold dpR
   rw [List.getElem?_map,hdi]
   rfl
  obtain ⟨hn1,hn2,hn3⟩:ndI ⟨x.op,x.a,x.text⟩≤D i∧0≤D i∧D i+grI ⟨x.op,x.a,x.text⟩≤128:=hB.nd i x hx
  have hdm:=hbi.dm i hsi
  have hax:x.op=7→x.a≤100000:=fun h7=>by
   have h8:=hn1
   simp only [ndI,h7] at h8
   simp at h8
   omega
  obtain ⟨hg1,hg2⟩:=grI_bd x.op x.a x.text hax
  have hto:=fun k hk=>hB.to i x k hx hk
  rw [hle] at htk hwn hwb ⊢
  have hxo:(0:Int)≤x.op:=by omega
  obtain ⟨hpb,hpm⟩:=pop_ok hbi he
  have hpt:wl.take r.length=r.map (fun (k:Nat)=>iV k):=by
   have e1:(wl.take (r.length+1)).take r.length=wl.take r.length:=by rw [List.take_take,Nat.min_eq_left (by omega)]
   rw [← e1,htk,he,List.map_append]
   exact List.take_left' (by simp)
  have hki:KI l D (⟨s.dp,s.sn,r⟩,wl):=⟨hpb,by simp only;omega,hpt,by simp only;omega,hwnl⟩
  by_cases o10:x.op=10
  ·as_aux_lemma =>
   have hh:True:=trivial
   (repeat' (first|with_reducible refine And.intro ?_ ?_|(with_reducible intro hc;(try simp only [zz] at hc);try exact ct)|((conv=>whnf);first|(with_reducible first|refine And.intro ?_ ?_|intro hx|apply Val.via|apply Qk.via)|exact Is.mk rfl rfl|(first|(refine Qw (Qr.slH (h:=r.length) rfl Tryz.underlying35 (by kernel_rfl) rfl (vbh _) ?_))|(refine Qw (Qr.ins rfl rfl ?_))|(refine Qw (Qr.lookN (op:=x.op) (a:=x.a) (t:=x.text) rfl rfl rfl rfl ?_)))|refine sp ?_|refine vx (by (first|exact Qa vagg_int hwi (idxp1 _)|exact Zt hx (idxi3 _)|exact Zt hx (idxj3 _)|exact Qa vagg_int hdr (J0 _)|exact Qa rfl rfl rfl|rfl)) ?_|refine dY ?_|refine cl (hgr _ _ _ hax _) ?_|refine sq ?_)))
   (all_goals try exact om)
   (refine Ju.mk (GWP.loopB [] (fun (j:Nat)=>j=0) (fun j=> [(92,iV 0),(5,.sl 3 0 r.length none 1)]) (fun _=> []) 6 (fun j=>j) 0 rfl ?_);(conv=>whnf);refine And.intro ?_ ?_)
   ·focus (refine ka [] ?_ ?_;all_goals (repeat' (first|exact rz|refine And.intro ?_ ?_|refine Exists.intro _ (And.intro rfl ?_)|refine ro ?_|refine Qe.cons ?_ ?_|(first|exact Qi.slL (Nat.le_of_ble_eq_true rfl)|(first|(rw [dp0];exact Qe.of (Yd _))|(rw [sn0];exact Qe.of (Yc _))|exact Qi.sl (by decide)|(exact Qe.of (Yd _))|exact Qe.of (Yc _)))|exact rv)))
   rintro j rfl
   (repeat' (first|with_reducible refine And.intro ?_ ?_|(with_reducible intro hc;(try simp only [zz] at hc);try exact ct)|((conv=>whnf);first|(with_reducible first|refine And.intro ?_ ?_|intro hx|apply Val.via|apply Qk.via)|exact Is.mk rfl rfl|refine sp ?_|refine vx (by (first|exact Qa vagg_int hwi (idxp1 _)|exact Zt hx (idxi3 _)|exact Zt hx (idxj3 _)|exact Qa vagg_int hdr (J0 _)|exact Qa rfl rfl rfl|rfl)) ?_|refine dY ?_|fail|refine sq ?_)))
   (all_goals try exact om)
   focus (refine Qg.mk ⟨(⟨s.dp,s.sn,r⟩,wl),hki,?_,ka [(3,3)] ?_ ?_⟩;(first|omega|(simp only;omega));all_goals (repeat' (first|exact rz|refine And.intro ?_ ?_|refine Exists.intro _ (And.intro rfl ?_)|refine ro ?_|refine Qe.cons ?_ ?_|(first|exact Qe.of hwnl|(first|(rw [dp0];exact Qe.of (Yd _))|(rw [sn0];exact Qe.of (Yc _))|exact Qi.sl (by decide)|(exact Qe.of (Yd _))|exact Qe.of (Yc _)))|exact rv)))
  by_cases o9:x.op=9
  ·as_aux_lemma =>
   have hL:toI i x= [i+1,x.a]:=by unfold toI;rw [if_pos ⟨o10,by omega⟩,if_pos (.inr o9)];rfl
   (repeat' (first|with_reducible refine And.intro ?_ ?_|(with_reducible intro hc;(try simp only [zz] at hc);try exact ct)|((conv=>whnf);first|(with_reducible first|refine And.intro ?_ ?_|intro hx|apply Val.via|apply Qk.via)|exact Is.mk rfl rfl|(first|(refine Qw (Qr.slH (h:=r.length) rfl Tryz.underlying35 (by kernel_rfl) rfl (vbh _) ?_))|(refine Qw (Qr.ins rfl rfl ?_))|(refine Qw (Qr.lookN (op:=x.op) (a:=x.a) (t:=x.text) rfl rfl rfl rfl ?_)))|refine sp ?_|refine vx (by (first|exact Qa vagg_int hwi (idxp1 _)|exact Zt hx (idxi3 _)|exact Zt hx (idxj3 _)|exact Qa vagg_int hdr (J0 _)|exact Qa rfl rfl rfl|rfl)) ?_|refine dY ?_|refine cl (hgr _ _ _ hax _) ?_|refine sq ?_)))
   (all_goals try exact om)
   refine Ju.keep [(0,.ro l.length (Xn l)),(3,.sl 0 0 l.length (some l.length) 1),(4,.sl 1 0 l.length (some l.length) 1),(5,.sl 3 0 r.length none 1),(9,iV (D i+grI ⟨x.op,x.a,x.text⟩)),(90,.sl 9 0 2 none 1),(91,iV 2),(92,iV 0)] 135 [(0,.cells true (dpR s.dp)),(1,.cells true (snR s.sn)),(3,.cells true wl),(9,.cells true (natR [i+1,x.a]))] 10 rfl (by repeat' (first|exact trivial|refine And.intro rfl ?_)) rfl (by repeat' (first|exact trivial|refine And.intro rfl ?_)) ?_
   (conv=>whnf)
   refine X6 ?_
   ((refine Ju.mk (GWP.loopB [0,1,3] (fun (y:Nat×BS×List VV)=>y.1≤2∧KI l D y.2∧mBS y.2.1 < mBS s) (fun y=> [(92,iV y.1),(5,.sl 10 0 y.2.1.wk.length none 1)]) (fun y=> [(0,.cells true (dpR y.2.1.dp)),(1,.cells true (snR y.2.1.sn)),(10,.cells true y.2.2)]) 11 (fun y=>2 - y.1) (0,⟨s.dp,s.sn,r⟩,wl) ⟨Nat.zero_le _,hki,by simp only;omega⟩ ?_);(conv=>whnf);refine And.intro ?_ ?_))
   ·focus (refine ka [(3,10)] ?_ ?_;all_goals (repeat' (first|exact rz|refine And.intro ?_ ?_|refine Exists.intro _ (And.intro rfl ?_)|refine ro ?_|refine Qe.cons ?_ ?_|(first|exact Qe.of hwnl|(first|(rw [dp0];exact Qe.of (Yd _))|(rw [sn0];exact Qe.of (Yc _))|exact Qi.sl (by decide)|(exact Qe.of (Yd _))|exact Qe.of (Yc _)))|exact rv)))
   rintro ⟨j,s1,w1⟩ ⟨g1,hk1,g2⟩
   have hk1':=hk1
   obtain ⟨b1,m1,t1,n1,nl1⟩:=hk1'
   simp only at g1 g2 b1 m1 t1 n1 nl1 ⊢
   have hwb1:s1.wk.length≤20000:=by unfold mBS at m1;omega
   by_cases hj:j < 2
   ·obtain ⟨k,hk⟩: ∃ k,[i+1,x.a][j]? = some k:=⟨_,List.getElem?_eq_getElem hj⟩
    obtain ⟨hkl,hkD⟩:=hto k (by rw [hL];exact List.mem_of_getElem? hk)
    have hkr:(natR [i+1,x.a])[j]? = some (iV k):=by unfold natR;rw [List.getElem?_map,hk];rfl
    have hl1:=b1.sl
    have hl2:=b1.dl
    rcases sn_ex b1 hkl with hs1|hs1
    ·have hsr:(snR s1.sn)[k]? = some (Xk true):=by unfold snR;rw [List.getElem?_map,hs1];rfl
     have hkd:(dpR s1.dp)[k]? = some (iV (D k)):=by unfold dpR;rw [List.getElem?_map,b1.sd k hs1];rfl
     rw [hkD] at hkd
     have hkD:D k=D i+grI ⟨x.op,x.a,x.text⟩:=hkD
     (repeat' (first|with_reducible refine And.intro ?_ ?_|(with_reducible intro hc;(try simp only [zz] at hc);try exact ct)|((conv=>whnf);first|(with_reducible first|refine And.intro ?_ ?_|intro hx|apply Val.via|apply Qk.via)|exact Is.mk rfl rfl|refine sp ?_|refine vx (by (first|exact Qa vagg_int hkr (J0 _)|exact Qa vagg_bool hsr (J0 _)|exact Qa vagg_int hkd (J0 _)|exact Qa rfl rfl rfl|rfl)) ?_|refine dY ?_|fail|refine sq ?_)))
     (all_goals try exact om)
     all_goals focus (refine Qg.mk ⟨(j+1,s1,w1),⟨by simp only;omega,hk1,g2⟩,?_,ka [(10,10)] ?_ ?_⟩;(first|omega|(simp only;omega));all_goals (repeat' (first|exact rz|refine And.intro ?_ ?_|refine Exists.intro _ (And.intro rfl ?_)|refine ro ?_|refine Qe.cons ?_ ?_|(first|exact Qe.of nl1|exact Qe.of (Yd _)|exact Qe.of (Yc _)|exact Qi.sl (by decide))|exact rv)))
    ·have hsr:(snR s1.sn)[k]? = some (Xk false):=by unfold snR;rw [List.getElem?_map,hs1];rfl
     obtain ⟨hk2,hm2⟩:=push_ki hk1 hkl hs1 (Int.le_trans (Int.le_of_eq hkD) hn3)
     have hnl2:=hk2.nl
     have hss:(snR s1.sn).set k (.sc (.bool true))=snR (s1.sn.set k true):=by unfold snR;rw [List.map_set];rfl
     have hds:(dpR s1.dp).set k (.sc (.int .i64 (D i+grI ⟨x.op,x.a,x.text⟩)))=dpR (s1.dp.set k (D k)):=by
      have e:D k=D i+grI ⟨x.op,x.a,x.text⟩:=hkD
      unfold dpR;rw [List.map_set,e];rfl
     (repeat' (first|with_reducible refine And.intro ?_ ?_|(with_reducible intro hc;(try simp only [zz] at hc);try exact ct)|((conv=>whnf);first|(with_reducible first|refine And.intro ?_ ?_|intro hx|apply Val.via|apply Qk.via)|exact Is.mk rfl rfl|(first|(refine Qw (Qr.stC (t:=4) (j:=k) rfl (by kernel_rfl) rfl (J0 _) rfl rfl (by simp [snR];omega) rfl ?_))|(refine Qw (Qr.stC (t:=3) (j:=k) rfl (by kernel_rfl) rfl (J0 _) rfl rfl (by simp [dpR];omega) rfl ?_)))|refine sp ?_|refine vx (by (first|exact Qa vagg_int hkr (J0 _)|exact Qa vagg_bool hsr (J0 _)|exact Qa vagg_int hkd (J0 _)|exact Qa rfl rfl rfl|rfl)) ?_|refine dY ?_|fail|refine sq ?_)))
     (all_goals try exact om)
     refine Qr.growL rfl sty_i (d:= .slice 3) Tryz.underlying35 (by intro k h;cases h) (m:=1) (l:= [iV k]) (vs:=w1) rfl ?_ rfl (by decide) ?_ ?_ ?_ ?_ ?_
     ·rfl
     ·rfl
     ·omega
     ·omega
     ·omega
     (repeat' (first|with_reducible refine And.intro ?_ ?_|(with_reducible intro hc;(try simp only [zz] at hc);try exact ct)|((conv=>whnf);first|(with_reducible first|refine And.intro ?_ ?_|intro hx|apply Val.via|apply Qk.via)|exact Is.mk rfl rfl|refine sp ?_|refine vx (by (first|exact Qa vagg_int hkr (J0 _)|exact Qa vagg_bool hsr (J0 _)|exact Qa vagg_int hkd (J0 _)|exact Qa rfl rfl rfl|rfl)) ?_|refine dY ?_|fail|refine sq ?_)))
     (all_goals try exact om)
     all_goals focus (refine Qg.mk ⟨(j+1,⟨s1.dp.set k (D k),s1.sn.set k true,s1.wk++ [k]⟩,w1.take (s1.wk.length*1)++ [iV k]),⟨by simp only;omega,hk2,by simp only;omega⟩,?_,ka [(12,10)] ?_ ?_⟩;(first|omega|(simp only;omega));all_goals (repeat' (first|exact rz|refine And.intro ?_ ?_|refine Exists.intro _ (And.intro rfl ?_)|refine ro ?_|refine Qe.cons ?_ ?_|(first|(rw [hds];exact Qe.of (Yd _))|(rw [hss];exact Qe.of (Yc _))|exact Qe.of hnl2|exact Qi.slE (List.Mem.head _) (by simp)|exact Qi.sl (by decide))|exact rv)))
   ·obtain rfl:j=2:=by omega
    (repeat' (first|with_reducible refine And.intro ?_ ?_|(with_reducible intro hc;(try simp only [zz] at hc);try exact ct)|((conv=>whnf);first|(with_reducible first|refine And.intro ?_ ?_|intro hx|apply Val.via|apply Qk.via)|exact Is.mk rfl rfl|refine sp ?_|refine vx (by (first|exact Qa vagg_int hkr (J0 _)|exact Qa vagg_bool hsr (J0 _)|exact Qa vagg_int hkd (J0 _)|exact Qa rfl rfl rfl|rfl)) ?_|refine dY ?_|fail|refine sq ?_)))
    (all_goals try exact om)
    all_goals focus (refine Qg.mk ⟨(s1,w1),hk1,?_,ka [(10,3)] ?_ ?_⟩;(first|omega|(simp only;omega));all_goals (repeat' (first|exact rz|refine And.intro ?_ ?_|refine Exists.intro _ (And.intro rfl ?_)|refine ro ?_|refine Qe.cons ?_ ?_|(first|exact Qe.of nl1|exact Qe.of (Yd _)|exact Qe.of (Yc _)|exact Qi.sl (by decide))|exact rv)))
  by_cases o8:x.op=8
  ·as_aux_lemma =>
   have hL:toI i x= [x.a]:=by unfold toI;rw [if_neg (by omega),if_pos (.inl o8)];rfl
   (repeat' (first|with_reducible refine And.intro ?_ ?_|(with_reducible intro hc;(try simp only [zz] at hc);try exact ct)|((conv=>whnf);first|(with_reducible first|refine And.intro ?_ ?_|intro hx|apply Val.via|apply Qk.via)|exact Is.mk rfl rfl|(first|(refine Qw (Qr.slH (h:=r.length) rfl Tryz.underlying35 (by kernel_rfl) rfl (vbh _) ?_))|(refine Qw (Qr.ins rfl rfl ?_))|(refine Qw (Qr.lookN (op:=x.op) (a:=x.a) (t:=x.text) rfl rfl rfl rfl ?_)))|refine sp ?_|refine vx (by (first|exact Qa vagg_int hwi (idxp1 _)|exact Zt hx (idxi3 _)|exact Zt hx (idxj3 _)|exact Qa vagg_int hdr (J0 _)|exact Qa rfl rfl rfl|rfl)) ?_|refine dY ?_|refine cl (hgr _ _ _ hax _) ?_|refine sq ?_)))
   (all_goals try exact om)
   refine Ju.keep [(0,.ro l.length (Xn l)),(3,.sl 0 0 l.length (some l.length) 1),(4,.sl 1 0 l.length (some l.length) 1),(5,.sl 3 0 r.length none 1),(9,iV (D i+grI ⟨x.op,x.a,x.text⟩)),(90,.sl 7 0 1 none 1),(91,iV 1),(92,iV 0)] 135 [(0,.cells true (dpR s.dp)),(1,.cells true (snR s.sn)),(3,.cells true wl),(7,.cells true (natR [x.a]))] 8 rfl (by repeat' (first|exact trivial|refine And.intro rfl ?_)) rfl (by repeat' (first|exact trivial|refine And.intro rfl ?_)) ?_
   (conv=>whnf)
   refine X6 ?_
   ((refine Ju.mk (GWP.loopB [0,1,3] (fun (y:Nat×BS×List VV)=>y.1≤1∧KI l D y.2∧mBS y.2.1 < mBS s) (fun y=> [(92,iV y.1),(5,.sl 8 0 y.2.1.wk.length none 1)]) (fun y=> [(0,.cells true (dpR y.2.1.dp)),(1,.cells true (snR y.2.1.sn)),(8,.cells true y.2.2)]) 9 (fun y=>1 - y.1) (0,⟨s.dp,s.sn,r⟩,wl) ⟨Nat.zero_le _,hki,by simp only;omega⟩ ?_);(conv=>whnf);refine And.intro ?_ ?_))
   ·focus (refine ka [(3,8)] ?_ ?_;all_goals (repeat' (first|exact rz|refine And.intro ?_ ?_|refine Exists.intro _ (And.intro rfl ?_)|refine ro ?_|refine Qe.cons ?_ ?_|(first|exact Qe.of hwnl|(first|(rw [dp0];exact Qe.of (Yd _))|(rw [sn0];exact Qe.of (Yc _))|exact Qi.sl (by decide)|(exact Qe.of (Yd _))|exact Qe.of (Yc _)))|exact rv)))
   rintro ⟨j,s1,w1⟩ ⟨g1,hk1,g2⟩
   have hk1':=hk1
   obtain ⟨b1,m1,t1,n1,nl1⟩:=hk1'
   simp only at g1 g2 b1 m1 t1 n1 nl1 ⊢
   have hwb1:s1.wk.length≤20000:=by unfold mBS at m1;omega
   by_cases hj:j < 1
   ·obtain ⟨k,hk⟩: ∃ k,[x.a][j]? = some k:=⟨_,List.getElem?_eq_getElem hj⟩
    obtain ⟨hkl,hkD⟩:=hto k (by rw [hL];exact List.mem_of_getElem? hk)
    have hkr:(natR [x.a])[j]? = some (iV k):=by unfold natR;rw [List.getElem?_map,hk];rfl
    have hl1:=b1.sl
    have hl2:=b1.dl
    rcases sn_ex b1 hkl with hs1|hs1
    ·have hsr:(snR s1.sn)[k]? = some (Xk true):=by unfold snR;rw [List.getElem?_map,hs1];rfl
     have hkd:(dpR s1.dp)[k]? = some (iV (D k)):=by unfold dpR;rw [List.getElem?_map,b1.sd k hs1];rfl
     rw [hkD] at hkd
     have hkD:D k=D i+grI ⟨x.op,x.a,x.text⟩:=hkD
     (repeat' (first|with_reducible refine And.intro ?_ ?_|(with_reducible intro hc;(try simp only [zz] at hc);try exact ct)|((conv=>whnf);first|(with_reducible first|refine And.intro ?_ ?_|intro hx|apply Val.via|apply Qk.via)|exact Is.mk rfl rfl|refine sp ?_|refine vx (by (first|exact Qa vagg_int hkr (J0 _)|exact Qa vagg_bool hsr (J0 _)|exact Qa vagg_int hkd (J0 _)|exact Qa rfl rfl rfl|rfl)) ?_|refine dY ?_|fail|refine sq ?_)))
     (all_goals try exact om)
     all_goals focus (refine Qg.mk ⟨(j+1,s1,w1),⟨by simp only;omega,hk1,g2⟩,?_,ka [(8,8)] ?_ ?_⟩;(first|omega|(simp only;omega));all_goals (repeat' (first|exact rz|refine And.intro ?_ ?_|refine Exists.intro _ (And.intro rfl ?_)|refine ro ?_|refine Qe.cons ?_ ?_|(first|exact Qe.of nl1|exact Qe.of (Yd _)|exact Qe.of (Yc _)|exact Qi.sl (by decide))|exact rv)))
    ·have hsr:(snR s1.sn)[k]? = some (Xk false):=by unfold snR;rw [List.getElem?_map,hs1];rfl
     obtain ⟨hk2,hm2⟩:=push_ki hk1 hkl hs1 (Int.le_trans (Int.le_of_eq hkD) hn3)
     have hnl2:=hk2.nl
     have hss:(snR s1.sn).set k (.sc (.bool true))=snR (s1.sn.set k true):=by unfold snR;rw [List.map_set];rfl
     have hds:(dpR s1.dp).set k (.sc (.int .i64 (D i+grI ⟨x.op,x.a,x.text⟩)))=dpR (s1.dp.set k (D k)):=by
      have e:D k=D i+grI ⟨x.op,x.a,x.text⟩:=hkD
      unfold dpR;rw [List.map_set,e];rfl
     (repeat' (first|with_reducible refine And.intro ?_ ?_|(with_reducible intro hc;(try simp only [zz] at hc);try exact ct)|((conv=>whnf);first|(with_reducible first|refine And.intro ?_ ?_|intro hx|apply Val.via|apply Qk.via)|exact Is.mk rfl rfl|(first|(refine Qw (Qr.stC (t:=4) (j:=k) rfl (by kernel_rfl) rfl (J0 _) rfl rfl (by simp [snR];omega) rfl ?_))|(refine Qw (Qr.stC (t:=3) (j:=k) rfl (by kernel_rfl) rfl (J0 _) rfl rfl (by simp [dpR];omega) rfl ?_)))|refine sp ?_|refine vx (by (first|exact Qa vagg_int hkr (J0 _)|exact Qa vagg_bool hsr (J0 _)|exact Qa vagg_int hkd (J0 _)|exact Qa rfl rfl rfl|rfl)) ?_|refine dY ?_|fail|refine sq ?_)))
     (all_goals try exact om)
     refine Qr.growL rfl sty_i (d:= .slice 3) Tryz.underlying35 (by intro k h;cases h) (m:=1) (l:= [iV k]) (vs:=w1) rfl ?_ rfl (by decide) ?_ ?_ ?_ ?_ ?_
     ·rfl
     ·rfl
     ·omega
     ·omega
     ·omega
     (repeat' (first|with_reducible refine And.intro ?_ ?_|(with_reducible intro hc;(try simp only [zz] at hc);try exact ct)|((conv=>whnf);first|(with_reducible first|refine And.intro ?_ ?_|intro hx|apply Val.via|apply Qk.via)|exact Is.mk rfl rfl|refine sp ?_|refine vx (by (first|exact Qa vagg_int hkr (J0 _)|exact Qa vagg_bool hsr (J0 _)|exact Qa vagg_int hkd (J0 _)|exact Qa rfl rfl rfl|rfl)) ?_|refine dY ?_|fail|refine sq ?_)))
     (all_goals try exact om)
     all_goals focus (refine Qg.mk ⟨(j+1,⟨s1.dp.set k (D k),s1.sn.set k true,s1.wk++ [k]⟩,w1.take (s1.wk.length*1)++ [iV k]),⟨by simp only;omega,hk2,by simp only;omega⟩,?_,ka [(10,8)] ?_ ?_⟩;(first|omega|(simp only;omega));all_goals (repeat' (first|exact rz|refine And.intro ?_ ?_|refine Exists.intro _ (And.intro rfl ?_)|refine ro ?_|refine Qe.cons ?_ ?_|(first|(rw [hds];exact Qe.of (Yd _))|(rw [hss];exact Qe.of (Yc _))|exact Qe.of hnl2|exact Qi.slE (List.Mem.head _) (by simp)|exact Qi.sl (by decide))|exact rv)))
   ·obtain rfl:j=1:=by omega
    (repeat' (first|with_reducible refine And.intro ?_ ?_|(with_reducible intro hc;(try simp only [zz] at hc);try exact ct)|((conv=>whnf);first|(with_reducible first|refine And.intro ?_ ?_|intro hx|apply Val.via|apply Qk.via)|exact Is.mk rfl rfl|refine sp ?_|refine vx (by (first|exact Qa vagg_int hkr (J0 _)|exact Qa vagg_bool hsr (J0 _)|exact Qa vagg_int hkd (J0 _)|exact Qa rfl rfl rfl|rfl)) ?_|refine dY ?_|fail|refine sq ?_)))
    (all_goals try exact om)
    all_goals focus (refine Qg.mk ⟨(s1,w1),hk1,?_,ka [(8,3)] ?_ ?_⟩;(first|omega|(simp only;omega));all_goals (repeat' (first|exact rz|refine And.intro ?_ ?_|refine Exists.intro _ (And.intro rfl ?_)|refine ro ?_|refine Qe.cons ?_ ?_|(first|exact Qe.of nl1|exact Qe.of (Yd _)|exact Qe.of (Yc _)|exact Qi.sl (by decide))|exact rv)))
  have hL:toI i x= [i+1]:=by unfold toI;rw [if_pos ⟨o10,o8⟩,if_neg (by omega)];rfl
  (repeat' (first|with_reducible refine And.intro ?_ ?_|(with_reducible intro hc;(try simp only [zz] at hc);try exact ct)|((conv=>whnf);first|(with_reducible first|refine And.intro ?_ ?_|intro hx|apply Val.via|apply Qk.via)|exact Is.mk rfl rfl|(first|(refine Qw (Qr.slH (h:=r.length) rfl Tryz.underlying35 (by kernel_rfl) rfl (vbh _) ?_))|(refine Qw (Qr.ins rfl rfl ?_))|(refine Qw (Qr.lookN (op:=x.op) (a:=x.a) (t:=x.text) rfl rfl rfl rfl ?_)))|refine sp ?_|refine vx (by (first|exact Qa vagg_int hwi (idxp1 _)|exact Zt hx (idxi3 _)|exact Zt hx (idxj3 _)|exact Qa vagg_int hdr (J0 _)|exact Qa rfl rfl rfl|rfl)) ?_|refine dY ?_|refine cl (hgr _ _ _ hax _) ?_|refine sq ?_)))
  (all_goals try exact om)
  refine Ju.keep [(0,.ro l.length (Xn l)),(3,.sl 0 0 l.length (some l.length) 1),(4,.sl 1 0 l.length (some l.length) 1),(5,.sl 3 0 r.length none 1),(9,iV (D i+grI ⟨x.op,x.a,x.text⟩)),(90,.sl 7 0 1 none 1),(91,iV 1),(92,iV 0)] 135 [(0,.cells true (dpR s.dp)),(1,.cells true (snR s.sn)),(3,.cells true wl),(7,.cells true (natR [i+1]))] 8 rfl (by repeat' (first|exact trivial|refine And.intro rfl ?_)) rfl (by repeat' (first|exact trivial|refine And.intro rfl ?_)) ?_
  (conv=>whnf)
  refine X6 ?_
  ((refine Ju.mk (GWP.loopB [0,1,3] (fun (y:Nat×BS×List VV)=>y.1≤1∧KI l D y.2∧mBS y.2.1 < mBS s) (fun y=> [(92,iV y.1),(5,.sl 8 0 y.2.1.wk.length none 1)]) (fun y=> [(0,.cells true (dpR y.2.1.dp)),(1,.cells true (snR y.2.1.sn)),(8,.cells true y.2.2)]) 9 (fun y=>1 - y.1) (0,⟨s.dp,s.sn,r⟩,wl) ⟨Nat.zero_le _,hki,by simp only;omega⟩ ?_);(conv=>whnf);refine And.intro ?_ ?_))
  ·focus (refine ka [(3,8)] ?_ ?_;all_goals (repeat' (first|exact rz|refine And.intro ?_ ?_|refine Exists.intro _ (And.intro rfl ?_)|refine ro ?_|refine Qe.cons ?_ ?_|(first|exact Qe.of hwnl|(first|(rw [dp0];exact Qe.of (Yd _))|(rw [sn0];exact Qe.of (Yc _))|exact Qi.sl (by decide)|(exact Qe.of (Yd _))|exact Qe.of (Yc _)))|exact rv)))
  rintro ⟨j,s1,w1⟩ ⟨g1,hk1,g2⟩
  have hk1':=hk1
  obtain ⟨b1,m1,t1,n1,nl1⟩:=hk1'
  simp only at g1 g2 b1 m1 t1 n1 nl1 ⊢
  have hwb1:s1.wk.length≤20000:=by unfold mBS at m1;omega
  by_cases hj:j < 1
  ·obtain ⟨k,hk⟩: ∃ k,[i+1][j]? = some k:=⟨_,List.getElem?_eq_getElem hj⟩
   obtain ⟨hkl,hkD⟩:=hto k (by rw [hL];exact List.mem_of_getElem? hk)
   have hkr:(natR [i+1])[j]? = some (iV k):=by unfold natR;rw [List.getElem?_map,hk];rfl
   have hl1:=b1.sl
   have hl2:=b1.dl
   rcases sn_ex b1 hkl with hs1|hs1
   ·have hsr:(snR s1.sn)[k]? = some (Xk true):=by unfold snR;rw [List.getElem?_map,hs1];rfl
    have hkd:(dpR s1.dp)[k]? = some (iV (D k)):=by unfold dpR;rw [List.getElem?_map,b1.sd k hs1];rfl
    rw [hkD] at hkd
    have hkD:D k=D i+grI ⟨x.op,x.a,x.text⟩:=hkD
    (repeat' (first|with_reducible refine And.intro ?_ ?_|(with_reducible intro hc;(try simp only [zz] at hc);try exact ct)|((conv=>whnf);first|(with_reducible first|refine And.intro ?_ ?_|intro hx|apply Val.via|apply Qk.via)|exact Is.mk rfl rfl|refine sp ?_|refine vx (by (first|exact Qa vagg_int hkr (J0 _)|exact Qa vagg_bool hsr (J0 _)|exact Qa vagg_int hkd (J0 _)|exact Qa rfl rfl rfl|rfl)) ?_|refine dY ?_|fail|refine sq ?_)))
    (all_goals try exact om)
    all_goals focus (refine Qg.mk ⟨(j+1,s1,w1),⟨by simp only;omega,hk1,g2⟩,?_,ka [(8,8)] ?_ ?_⟩;(first|omega|(simp only;omega));all_goals (repeat' (first|exact rz|refine And.intro ?_ ?_|refine Exists.intro _ (And.intro rfl ?_)|refine ro ?_|refine Qe.cons ?_ ?_|(first|exact Qe.of nl1|exact Qe.of (Yd _)|exact Qe.of (Yc _)|exact Qi.sl (by decide))|exact rv)))
   ·have hsr:(snR s1.sn)[k]? = some (Xk false):=by unfold snR;rw [List.getElem?_map,hs1];rfl
    obtain ⟨hk2,hm2⟩:=push_ki hk1 hkl hs1 (Int.le_trans (Int.le_of_eq hkD) hn3)
    have hnl2:=hk2.nl
    have hss:(snR s1.sn).set k (.sc (.bool true))=snR (s1.sn.set k true):=by unfold snR;rw [List.map_set];rfl
    have hds:(dpR s1.dp).set k (.sc (.int .i64 (D i+grI ⟨x.op,x.a,x.text⟩)))=dpR (s1.dp.set k (D k)):=by
     have e:D k=D i+grI ⟨x.op,x.a,x.text⟩:=hkD
     unfold dpR;rw [List.map_set,e];rfl
    (repeat' (first|with_reducible refine And.intro ?_ ?_|(with_reducible intro hc;(try simp only [zz] at hc);try exact ct)|((conv=>whnf);first|(with_reducible first|refine And.intro ?_ ?_|intro hx|apply Val.via|apply Qk.via)|exact Is.mk rfl rfl|(first|(refine Qw (Qr.stC (t:=4) (j:=k) rfl (by kernel_rfl) rfl (J0 _) rfl rfl (by simp [snR];omega) rfl ?_))|(refine Qw (Qr.stC (t:=3) (j:=k) rfl (by kernel_rfl) rfl (J0 _) rfl rfl (by simp [dpR];omega) rfl ?_)))|refine sp ?_|refine vx (by (first|exact Qa vagg_int hkr (J0 _)|exact Qa vagg_bool hsr (J0 _)|exact Qa vagg_int hkd (J0 _)|exact Qa rfl rfl rfl|rfl)) ?_|refine dY ?_|fail|refine sq ?_)))
    (all_goals try exact om)
    refine Qr.growL rfl sty_i (d:= .slice 3) Tryz.underlying35 (by intro k h;cases h) (m:=1) (l:= [iV k]) (vs:=w1) rfl ?_ rfl (by decide) ?_ ?_ ?_ ?_ ?_
    ·rfl
    ·rfl
    ·omega
    ·omega
    ·omega
    (repeat' (first|with_reducible refine And.intro ?_ ?_|(with_reducible intro hc;(try simp only [zz] at hc);try exact ct)|((conv=>whnf);first|(with_reducible first|refine And.intro ?_ ?_|intro hx|apply Val.via|apply Qk.via)|exact Is.mk rfl rfl|refine sp ?_|refine vx (by (first|exact Qa vagg_int hkr (J0 _)|exact Qa vagg_bool hsr (J0 _)|exact Qa vagg_int hkd (J0 _)|exact Qa rfl rfl rfl|rfl)) ?_|refine dY ?_|fail|refine sq ?_)))
    (all_goals try exact om)
    all_goals focus (refine Qg.mk ⟨(j+1,⟨s1.dp.set k (D k),s1.sn.set k true,s1.wk++ [k]⟩,w1.take (s1.wk.length*1)++ [iV k]),⟨by simp only;omega,hk2,by simp only;omega⟩,?_,ka [(10,8)] ?_ ?_⟩;(first|omega|(simp only;omega));all_goals (repeat' (first|exact rz|refine And.intro ?_ ?_|refine Exists.intro _ (And.intro rfl ?_)|refine ro ?_|refine Qe.cons ?_ ?_|(first|(rw [hds];exact Qe.of (Yd _))|(rw [hss];exact Qe.of (Yc _))|exact Qe.of hnl2|exact Qi.slE (List.Mem.head _) (by simp)|exact Qi.sl (by decide))|exact rv)))
  ·obtain rfl:j=1:=by omega
   (repeat' (first|with_reducible refine And.intro ?_ ?_|(with_reducible intro hc;(try simp only [zz] at hc);try exact ct)|((conv=>whnf);first|(with_reducible first|refine And.intro ?_ ?_|intro hx|apply Val.via|apply Qk.via)|exact Is.mk rfl rfl|refine sp ?_|refine vx (by (first|exact Qa vagg_int hkr (J0 _)|exact Qa vagg_bool hsr (J0 _)|exact Qa vagg_int hkd (J0 _)|exact Qa rfl rfl rfl|rfl)) ?_|refine dY ?_|fail|refine sq ?_)))
   (all_goals try exact om)
   all_goals focus (refine Qg.mk ⟨(s1,w1),hk1,?_,ka [(8,3)] ?_ ?_⟩;(first|omega|(simp only;omega));all_goals (repeat' (first|exact rz|refine And.intro ?_ ?_|refine Exists.intro _ (And.intro rfl ?_)|refine ro ?_|refine Qe.cons ?_ ?_|(first|exact Qe.of nl1|exact Qe.of (Yd _)|exact Qe.of (Yc _)|exact Qi.sl (by decide))|exact rv)))
end Go.Proofs.YtpbiblhkcomekaaGreat
