import Derived.Test.YtpbiblhkcomekaaGreatBA4
import Derived.Test.YtpbiblhkcomekaaGreatBU2
import Derived.Test.YtpbiblhkcomekaaGreatBA6
/- CodeBalanced, in plain words: ahead of each instruction of what is compiled the stack has one number of values, whichever way. -/
namespace Go.Proofs.YtpbiblhkcomekaaGreat
open Go Go.RowKit
set_option linter.unusedSimpArgs false
set_option linter.unusedVariables false
set_option maxRecDepth 20000
def ndI (x:Ins):Int:=if x.op=3∨x.op=4∨x.op=6∨x.op=9 then 1 else if x.op=5 then 2 else if x.op=7 then x.a else 0
def grI (x:Ins):Int:=if x.op=1∨x.op=2 then 1 else if x.op=3∨x.op=4∨x.op=5∨x.op=9 then -1 else if x.op=7 then 1 - x.a else 0
structure Bal (m:MkS) (P:Nat→Prop) (D:Nat→Int):Prop where
 d0:D 0=0
 dl:D m.l.length=m.depth
 nn:0≤m.depth
 nd: ∀ i x,m.l[i]? = some x→ndI x≤D i∧D i+grI x≤m.most∧0≤D i
 nx: ∀ i x,m.l[i]? = some x→x.op≠8→x.op≠10→D (i+1)=D i+grI x
 jp: ∀ i x,m.l[i]? = some x→(x.op=8∨x.op=9)→ ¬ P i→x.a≤m.l.length∧D x.a=D i+grI x
def Eu (m m':MkS):Prop:=m.l.length≤m'.l.length∧ ∀ (i:Nat) (x:Ins),m.l[i]? = some x→x.op≠0→m'.l[i]? = some x
theorem Eu.refl (m:MkS):Eu m m:=⟨Nat.le_refl _,fun _ _ h _=>h⟩
theorem Eu.trans {a b c:MkS} (h:Eu a b) (k:Eu b c):Eu a c:=⟨Nat.le_trans h.1 k.1,fun i x hx h0=>k.2 i x (h.2 i x hx h0) h0⟩
theorem Ko (op a:Nat) (t:List UInt8) (g:Int) (m:MkS):(Qv op a t g m).2= {m with l:=m.l++ [⟨op,a,t⟩],depth:=m.depth+g,most:=max m.most (m.depth+g)}∧(Qv op a t g m).1=m.l.length ∨
  (op=0∧ ∃ l' y,m.l=l'++ [y]∧y.op=0∧(Qv op a t g m).2= {m with l:=l'++ [⟨y.op,y.a+a,y.text⟩],depth:=m.depth+g,most:=max m.most (m.depth+g)}):=by
 unfold Qv
 cases e:m.l.getLast? with
 | none=>exact .inl ⟨rfl,rfl⟩
 | some y =>
  simp only
  split
  ·rename_i hc
   obtain ⟨l',h2⟩:=List.getLast?_eq_some_iff.1 e
   exact .inr ⟨hc.1,l',y,h2,hc.2.2,by rw [h2,List.dropLast_concat]⟩
  ·exact .inl ⟨rfl,rfl⟩
theorem Ww {α:Type} {l:List α} {y x:α} {i:Nat} (h:(l++ [y])[i]? = some x):l[i]? = some x∧i < l.length∨i=l.length∧x=y:=by
 by_cases hi:i < l.length
 ·rw [List.getElem?_append_left hi] at h
  exact .inl ⟨h,hi⟩
 ·rw [List.getElem?_append_right (by omega)] at h
  have:i - l.length=0:=by
   cases hq:i - l.length with
   | zero=>rfl
   | succ k=>rw [hq] at h;simp at h
  rw [this] at h
  simp at h
  exact .inr ⟨by omega,h.symm⟩
theorem Ch {m:MkS} {P P':Nat→Prop} {D:Nat→Int} (h:Bal m P D) (op a:Nat) (t:List UInt8) (g:Int) (hP: ∀ i,i < m.l.length→(P' i↔P i)) (hn:ndI ⟨op,a,t⟩≤m.depth) (hg:grI ⟨op,a,t⟩=g) (h0:0≤m.depth+g) (hj:(op=8∨op=9)→ ¬ P' m.l.length→a≤m.l.length∧D a=m.depth+g) :
  ∃ D',Bal (Qv op a t g m).2 P' D'∧(∀ k,k≤m.l.length→D' k=D k)∧Eu m (Qv op a t g m).2∧(op≠0→(Qv op a t g m).1=m.l.length∧(Qv op a t g m).2.l[m.l.length]? = some ⟨op,a,t⟩∧(Qv op a t g m).2.l.length=m.l.length+1):=by
 obtain ⟨b0,b1,b2,b3,b4,b5⟩:=h
 rcases Ko op a t g m with ⟨e,e1⟩|⟨rfl,l',y,hl,hy,e⟩
 ·rw [e]
  refine ⟨fun k=>if k=m.l.length+1 then m.depth+g else D k,⟨?_,?_,h0,?_,?_,?_⟩,?_,⟨by simp,fun i x hx _=>by rw [List.getElem?_append_left (List.getElem?_eq_some_iff.1 hx).1];exact hx⟩,?_⟩
  ·show (if 0=m.l.length+1 then m.depth+g else D 0)=0
   rw [if_neg (by omega)]
   exact b0
  ·simp only [List.length_append,List.length_singleton]
   rw [if_pos trivial]
  ·intro i x hx
   simp only at hx ⊢
   rcases Ww hx with ⟨hx,hi⟩|⟨rfl,rfl⟩
   ·rw [if_neg (by omega)]
    have:=b3 i x hx
    omega
   ·rw [if_neg (by omega),b1,hg]
    omega
  ·intro i x hx h8 h10
   simp only at hx ⊢
   rcases Ww hx with ⟨hx,hi⟩|⟨rfl,rfl⟩
   ·rw [if_neg (by omega),if_neg (by omega)]
    exact b4 i x hx h8 h10
   ·rw [if_pos rfl,if_neg (by omega),b1,hg]
  ·intro i x hx h89 hp
   simp only at hx ⊢
   rw [List.length_append,List.length_singleton]
   rcases Ww hx with ⟨hx,hi⟩|⟨rfl,rfl⟩
   ·obtain ⟨q1,q2⟩:=b5 i x hx h89 (fun hq=>hp ((hP i hi).2 hq))
    rw [if_neg (by omega),if_neg (by omega)]
    exact ⟨by omega,q2⟩
   ·obtain ⟨q1,q2⟩:=hj h89 hp
    simp only at q1 ⊢
    rw [if_neg (by omega),if_neg (by omega),b1,hg]
    exact ⟨by omega,q2⟩
  ·intro k hk
   simp only
   rw [if_neg (by omega)]
  ·intro _
   exact ⟨e1,by simp,by simp⟩
 ·have hlen:m.l.length=l'.length+1:=by rw [hl];simp
  have gz:g=0:=by rw [← hg];simp [grI]
  subst gz
  rw [e]
  have hh: ∀ (i:Nat) (x:Ins),(l'++ [(⟨y.op,y.a+a,y.text⟩:Ins)])[i]? = some x→ ∃ z:Ins,m.l[i]? = some z∧z.op=x.op∧(x.op≠0→z=x)∧ndI x=ndI z∧grI x=grI z:=by
   intro i x hx
   rcases Ww hx with ⟨hx,hi⟩|⟨rfl,rfl⟩
   ·exact ⟨x,by rw [hl,List.getElem?_append_left hi];exact hx,rfl,fun _=>rfl,rfl,rfl⟩
   ·exact ⟨y,by rw [hl];simp,rfl,fun h=>absurd hy h,by simp [ndI,hy],by simp [grI,hy]⟩
  refine ⟨D,⟨b0,?_,by simp only;omega,?_,?_,?_⟩,fun _ _=>rfl,⟨by simp only [List.length_append,List.length_singleton];omega,fun i x hx hx0=> ?_⟩,fun h=>absurd rfl h⟩
  ·simp only [List.length_append,List.length_singleton]
   rw [← hlen,b1]
   omega
  ·intro i x hx
   obtain ⟨z,z1,z2,z3,z4,z5⟩:=hh i x hx
   have:=b3 i z z1
   rw [z4,z5]
   simp only
   omega
  ·intro i x hx h8 h10
   obtain ⟨z,z1,z2,z3,z4,z5⟩:=hh i x hx
   rw [z5]
   exact b4 i z z1 (by rw [z2];exact h8) (by rw [z2];exact h10)
  ·intro i x hx h89 hp
   obtain ⟨z,z1,z2,z3,z4,z5⟩:=hh i x hx
   have hi:i < m.l.length:=(List.getElem?_eq_some_iff.1 z1).1
   obtain rfl:=z3 (by omega)
   obtain ⟨q1,q2⟩:=b5 i z z1 h89 (fun hq=>hp ((hP i hi).2 hq))
   exact ⟨by simp only [List.length_append,List.length_singleton];omega,q2⟩
  ·simp only
   rw [hl] at hx
   rcases Ww hx with ⟨hx,hi⟩|⟨rfl,rfl⟩
   ·rw [List.getElem?_append_left hi]
    exact hx
   ·exact absurd hy hx0
theorem Bal.same {m m':MkS} {P:Nat→Prop} {D:Nat→Int} (h:Bal m P D) (hl:m'.l=m.l) (hd:m'.depth=m.depth) (hm:m'.most=m.most):Bal m' P D:=by
 obtain ⟨b0,b1,b2,b3,b4,b5⟩:=h
 refine ⟨b0,by rw [hl,hd];exact b1,by rw [hd];exact b2,?_,?_,?_⟩
 ·rw [hl,hm];exact b3
 ·rw [hl];exact b4
 ·rw [hl];exact b5
def X0 (f:MkS→MkS) (j:Int):Prop:= ∀ (m:MkS) (P:Nat→Prop) (D:Nat→Int),Bal m P D→(∀ i,P i→i < m.l.length)→ ∃ D',Bal (f m) P D'∧(∀ k,k≤m.l.length→D' k=D k)∧Eu m (f m)∧(f m).depth=m.depth+j
theorem X0.comp {f g:MkS→MkS} {a b:Int} (h:X0 f a) (k:X0 g b):X0 (fun m=>g (f m)) (a+b):=fun m P D hb hp=>by
 obtain ⟨D1,c1,c2,c3,c4⟩:=h m P D hb hp
 obtain ⟨D2,d1,d2,d3,d4⟩:=k (f m) P D1 c1 (fun i hi=>Nat.lt_of_lt_of_le (hp i hi) c3.1)
 exact ⟨D2,d1,fun i hi=>(d2 i (Nat.le_trans hi c3.1)).trans (c2 i hi),c3.trans d3,by rw [d4,c4];omega⟩
theorem X0.id:X0 (fun m=>m) 0:=fun m P D hb hp=>⟨D,hb,fun _ _=>rfl,Eu.refl m,by show m.depth=m.depth+0;omega⟩
theorem X0.put (op:Nat) (fa:MkS→Nat) (t:List UInt8) (g:Int) (m:MkS) (P:Nat→Prop) (D:Nat→Int) (hb:Bal m P D) (hp: ∀ i,P i→i < m.l.length) (h8:op≠8) (h9:op≠9) (hn:ndI ⟨op,fa m,t⟩≤m.depth) (hg:grI ⟨op,fa m,t⟩=g) (h0:0≤m.depth+g) :
  ∃ D',Bal (Qv op (fa m) t g m).2 P D'∧(∀ k,k≤m.l.length→D' k=D k)∧Eu m (Qv op (fa m) t g m).2∧(Qv op (fa m) t g m).2.depth=m.depth+g:=by
 obtain ⟨D',c1,c2,c3,_⟩:=Ch hb op (fa m) t g (P':=P) (fun _ _=>Iff.rfl) hn hg h0 (fun h=>by omega)
 refine ⟨D',c1,c2,c3,?_⟩
 rcases Ko op (fa m) t g m with ⟨e,_⟩|⟨_,l',y,_,_,e⟩ <;> rw [e]
theorem burn_bal:X0 (fun m=>(Qv 0 1 [] 0 m).2) 0:=fun m P D hb hp=>X0.put 0 (fun _=>1) [] 0 m P D hb hp (by omega) (by omega) (by simp [ndI];exact hb.nn) (by simp [grI]) (by have:=hb.nn;omega)
theorem exprL_bal: ∀ (ks:List Nd),(∀ k∈ks,X0 (exprM k) 1)→X0 (exprL ks) ks.length
 | [],_=>by
  have:exprL []=fun m=>m:=by funext m;rw [exprL]
  rw [this]
  exact X0.id
 | k::r,h=>by
  have:exprL (k::r)=fun m=>exprL r (exprM k m):=by funext m;rw [exprL]
  rw [this]
  have:=(h k (List.mem_cons_self ..)).comp (exprL_bal r fun x hx=>h x (List.mem_cons_of_mem _ hx))
  rw [List.length_cons]
  have e:(1:Int)+(r.length:Int)=((r.length+1:Nat):Int):=by omega
  rw [e] at this
  exact this
theorem Wz (ks:List Nd) (hk: ∀ k∈ks,X0 (exprM k) 1) (op:Nat) (t:List UInt8) (f:MkS→MkS) (fa:MkS→Nat) (hf: ∀ m,(f m).l=m.l∧(f m).depth=m.depth∧(f m).most=m.most) (h8:op≠8) (h9:op≠9)
  (hg: ∀ a,a=ks.length∨op≠7→grI ⟨op,a,t⟩=1 - ks.length) (hn: ∀ a,a=ks.length∨op≠7→ndI ⟨op,a,t⟩≤ks.length) (ha:op=7→ ∀ m,fa m=ks.length):X0 (fun m=>(Qv op (fa (exprL ks (Qv 0 1 [] 0 m).2)) t (1 - ks.length) (f (exprL ks (Qv 0 1 [] 0 m).2))).2) 1:=fun m P D hb hp=>by
 obtain ⟨D1,c1,c2,c3,c4⟩:=(burn_bal.comp (exprL_bal ks hk)) m P D hb hp
 simp only at c1 c3 c4
 dsimp only
 generalize exprL ks (Qv 0 1 [] 0 m).2=m1 at *
 obtain ⟨f1,f2,f3⟩:=hf m1
 have hp1: ∀ i,P i→i < (f m1).l.length:=fun i hi=>by rw [f1];exact Nat.lt_of_lt_of_le (hp i hi) c3.1
 have haa:fa m1=ks.length∨op≠7:=by
  by_cases h:op=7
  ·exact .inl (ha h m1)
  ·exact .inr h
 have hnn:=hb.nn
 obtain ⟨D2,d1,d2,d3,d4⟩:=X0.put op (fun _=>fa m1) t (1 - ks.length) (f m1) P D1 (c1.same f1 f2 f3) hp1 h8 h9 (by have:=hn _ haa;rw [f2];omega) (hg _ haa) (by rw [f2];omega)
 rw [f1] at d2
 refine ⟨D2,d1,fun i hi=>(d2 i (Nat.le_trans hi c3.1)).trans (c2 i hi),c3.trans ⟨by rw [← f1];exact d3.1,fun i x hx h0=>d3.2 i x (by rw [f1];exact hx) h0⟩,?_⟩
 rw [d4,f2,c4]
 omega
theorem Bv {d:Nat} {n:Nd} (h:FitE d n):X0 (exprM n) 1:=by
 induction h with
 | @num d v _ =>
  have e:exprM (.mk 8 [] v [])=fun m=>(Qv 1 (Kq ((cstN (.mk 8 [] v [])).getD ⟨0,0,[]⟩) (exprL [] (Qv 0 1 [] 0 m).2)).1 [] (1 - ([]:List Nd).length) (Kq ((cstN (.mk 8 [] v [])).getD ⟨0,0,[]⟩) (exprL [] (Qv 0 1 [] 0 m).2)).2).2:=by funext m;rw [exprM];rfl
  rw [e]
  exact Wz [] (by simp) 1 [] (fun m=>(Kq ((cstN (.mk 8 [] v [])).getD ⟨0,0,[]⟩) m).2) (fun m=>(Kq ((cstN (.mk 8 [] v [])).getD ⟨0,0,[]⟩) m).1) (fun m=>⟨rfl,rfl,rfl⟩) (by decide) (by decide) (fun a _=>by simp [grI]) (fun a _=>by simp [ndI]) (by intro h;omega)
 | @text d x _ _ =>
  have e:exprM (.mk 9 x 0 [])=fun m=>(Qv 1 (Kq ((cstN (.mk 9 x 0 [])).getD ⟨0,0,[]⟩) (exprL [] (Qv 0 1 [] 0 m).2)).1 [] (1 - ([]:List Nd).length) (Kq ((cstN (.mk 9 x 0 [])).getD ⟨0,0,[]⟩) (exprL [] (Qv 0 1 [] 0 m).2)).2).2:=by funext m;rw [exprM];rfl
  rw [e]
  exact Wz [] (by simp) 1 [] (fun m=>(Kq ((cstN (.mk 9 x 0 [])).getD ⟨0,0,[]⟩) m).2) (fun m=>(Kq ((cstN (.mk 9 x 0 [])).getD ⟨0,0,[]⟩) m).1) (fun m=>⟨rfl,rfl,rfl⟩) (by decide) (by decide) (fun a _=>by simp [grI]) (fun a _=>by simp [ndI]) (by intro h;omega)
 | @nil d =>
  have e:exprM (.mk 10 [] 0 [])=fun m=>(Qv 1 (Kq ((cstN (.mk 10 [] 0 [])).getD ⟨0,0,[]⟩) (exprL [] (Qv 0 1 [] 0 m).2)).1 [] (1 - ([]:List Nd).length) (Kq ((cstN (.mk 10 [] 0 [])).getD ⟨0,0,[]⟩) (exprL [] (Qv 0 1 [] 0 m).2)).2).2:=by funext m;rw [exprM];rfl
  rw [e]
  exact Wz [] (by simp) 1 [] (fun m=>(Kq ((cstN (.mk 10 [] 0 [])).getD ⟨0,0,[]⟩) m).2) (fun m=>(Kq ((cstN (.mk 10 [] 0 [])).getD ⟨0,0,[]⟩) m).1) (fun m=>⟨rfl,rfl,rfl⟩) (by decide) (by decide) (fun a _=>by simp [grI]) (fun a _=>by simp [ndI]) (by intro h;omega)
 | @var d x _ =>
  have e:exprM (.mk 11 x 0 [])=fun m=>(Qv 2 (Xz x (exprL [] (Qv 0 1 [] 0 m).2)).1 [] (1 - ([]:List Nd).length) (Xz x (exprL [] (Qv 0 1 [] 0 m).2)).2).2:=by funext m;rw [exprM];rfl
  rw [e]
  exact Wz [] (by simp) 2 [] (fun m=>(Xz x m).2) (fun m=>(Xz x m).1) (fun m=>⟨rfl,rfl,rfl⟩) (by decide) (by decide) (fun a _=>by simp [grI]) (fun a _=>by simp [ndI]) (by intro h;omega)
 | @call d x ks _ _ hk ih =>
  have e:exprM (.mk 12 x 0 ks)=fun m=>(Qv 7 ks.length x (1 - ks.length) (exprL ks (Qv 0 1 [] 0 m).2)).2:=by funext m;rw [exprM];rfl
  rw [e]
  exact Wz ks ih 7 x (fun m=>m) (fun _=>ks.length) (fun m=>⟨rfl,rfl,rfl⟩) (by decide) (by decide) (fun a h=>by rcases h with rfl|h;simp [grI];exact absurd rfl h) (fun a h=>by rcases h with rfl|h;simp [ndI];exact absurd rfl h) (fun _ _=>rfl)
 | @bin d da db x a b _ _ _ _ _ iha ihb =>
  have e:exprM (.mk 13 x 0 [a,b])=fun m=>(Qv 5 0 x (1 - ([a,b]:List Nd).length) (exprL [a,b] (Qv 0 1 [] 0 m).2)).2:=by funext m;rw [exprM];rfl
  rw [e]
  exact Wz [a,b] (by intro k hk;simp only [List.mem_cons,List.not_mem_nil,or_false] at hk;rcases hk with rfl|rfl;exact iha;exact ihb) 5 x (fun m=>m) (fun _=>0) (fun m=>⟨rfl,rfl,rfl⟩) (by decide) (by decide) (fun a _=>by simp [grI]) (fun a _=>by simp [ndI]) (by intro h;omega)
 | @un d dk x k _ _ _ _ ih =>
  have e:exprM (.mk 14 x 0 [k])=fun m=>(Qv 6 0 x (1 - ([k]:List Nd).length) (exprL [k] (Qv 0 1 [] 0 m).2)).2:=by funext m;rw [exprM];rfl
  rw [e]
  exact Wz [k] (by intro y hy;rw [List.mem_singleton] at hy;subst hy;exact ih) 6 x (fun m=>m) (fun _=>0) (fun m=>⟨rfl,rfl,rfl⟩) (by decide) (by decide) (fun a _=>by simp [grI]) (fun a _=>by simp [ndI]) (by intro h;omega)
theorem put_fin {f:MkS→MkS} {j:Int} (h:X0 f j) (op:Nat) (t:List UInt8) (g:Int) (ff:MkS→MkS) (fa:MkS→Nat) (hf: ∀ m,(ff m).l=m.l∧(ff m).depth=m.depth∧(ff m).most=m.most) (h8:op≠8) (h9:op≠9)
  (hg: ∀ a,grI ⟨op,a,t⟩=g) (hn: ∀ a,ndI ⟨op,a,t⟩≤j) (h0:0≤j+g):X0 (fun m=>(Qv op (fa (f m)) t g (ff (f m))).2) (j+g):=fun m P D hb hp=>by
 obtain ⟨D1,c1,c2,c3,c4⟩:=h m P D hb hp
 dsimp only
 generalize f m=m1 at *
 obtain ⟨f1,f2,f3⟩:=hf m1
 have hp1: ∀ i,P i→i < (ff m1).l.length:=fun i hi=>by rw [f1];exact Nat.lt_of_lt_of_le (hp i hi) c3.1
 have hnn:=hb.nn
 obtain ⟨D2,d1,d2,d3,d4⟩:=X0.put op (fun _=>fa m1) t g (ff m1) P D1 (c1.same f1 f2 f3) hp1 h8 h9 (by have:=hn (fa m1);rw [f2];omega) (hg _) (by rw [f2];omega)
 rw [f1] at d2
 refine ⟨D2,d1,fun i hi=>(d2 i (Nat.le_trans hi c3.1)).trans (c2 i hi),c3.trans ⟨by rw [← f1];exact d3.1,fun i x hx h0=>d3.2 i x (by rw [f1];exact hx) h0⟩,?_⟩
 rw [d4,f2,c4]
 omega
theorem D9 {m:MkS} {P P':Nat→Prop} {D:Nat→Int} (h:Bal m P' D) (i:Nat) (x:Ins) (hx:m.l[i]? = some x) (h89:x.op=8∨x.op=9) (hP: ∀ j,P' j↔P j∨j=i) (hD:m.depth=D i+grI x):Bal (Ye i m) P D:=by
 obtain ⟨b0,b1,b2,b3,b4,b5⟩:=h
 have hi:=(List.getElem?_eq_some_iff.1 hx).1
 have e:(Ye i m).l=m.l.set i ⟨x.op,m.l.length,x.text⟩:=by show Ux i m.l=_;unfold Ux;rw [hx]
 have hn:ndI ⟨x.op,m.l.length,x.text⟩=ndI x:=by rcases h89 with h|h <;> simp [ndI,h]
 have hg:grI ⟨x.op,m.l.length,x.text⟩=grI x:=by rcases h89 with h|h <;> simp [grI,h]
 have hat: ∀ j y,(m.l.set i ⟨x.op,m.l.length,x.text⟩)[j]? = some y→(j=i∧y=⟨x.op,m.l.length,x.text⟩)∨(j≠i∧m.l[j]? = some y):=fun j y hy=>by
  rw [List.getElem?_set] at hy
  by_cases hj:i=j
  ·subst hj
   rw [if_pos rfl,if_pos hi] at hy
   injection hy with hy
   exact .inl ⟨rfl,hy.symm⟩
  ·rw [if_neg hj] at hy
   exact .inr ⟨fun h=>hj h.symm,hy⟩
 refine ⟨b0,by rw [e,List.length_set];exact b1,b2,?_,?_,?_⟩
 ·rw [e]
  intro j y hy
  rcases hat j y hy with ⟨rfl,rfl⟩|⟨_,hy⟩
  ·rw [hn,hg]
   exact b3 _ x hx
  ·exact b3 j y hy
 ·rw [e]
  intro j y hy h8 h10
  rcases hat j y hy with ⟨rfl,rfl⟩|⟨_,hy⟩
  ·rw [hg]
   exact b4 _ x hx h8 h10
  ·exact b4 j y hy h8 h10
 ·rw [e,List.length_set]
  intro j y hy h89' hp
  rcases hat j y hy with ⟨rfl,rfl⟩|⟨hji,hy⟩
  ·rw [hg]
   exact ⟨Nat.le_refl _,by simp only;rw [b1,hD]⟩
  ·exact b5 j y hy h89' (fun hq=>by rcases (hP j).1 hq with h|h;exact hp h;exact hji h)
theorem D8 {m0 m:MkS} (h:Eu m0 m) (i:Nat) (hi:m0.l.length≤i):Eu m0 (Ye i m):=by
 refine ⟨by rw [Wv];exact h.1,fun j x hx h0=> ?_⟩
 have hj:=(List.getElem?_eq_some_iff.1 hx).1
 have h1:=h.2 j x hx h0
 show (Ux i m.l)[j]? = some x
 unfold Ux
 split
 ·rw [List.getElem?_set_ne (by omega)]
  exact h1
 ·exact h1
theorem jump_bal (op:Nat) (t:List UInt8) (g:Int) (h89:op=8∨op=9) (hg:grI ⟨op,0,t⟩=g) (hn:ndI ⟨op,0,t⟩≤ -g) {f:MkS→MkS} (hf:X0 f 0) {m:MkS} {P:Nat→Prop} {D:Nat→Int} (hb:Bal m P D) (hp: ∀ i,P i→i < m.l.length) (hd:0≤m.depth+g) :
  ∃ D',Bal (Ye (Qv op 0 t g m).1 (f (Qv op 0 t g m).2)) P D'∧(∀ k,k≤m.l.length→D' k=D k)∧Eu m (Ye (Qv op 0 t g m).1 (f (Qv op 0 t g m).2))∧(Ye (Qv op 0 t g m).1 (f (Qv op 0 t g m).2)).depth=m.depth+g:=by
 obtain ⟨D1,c1,c2,c3,c4⟩:=Ch hb op 0 t g (P':=fun i=>P i∨i=m.l.length) (fun i hi=>⟨fun h=>h.elim id (fun h=>absurd h (by omega)),.inl⟩) (by omega) hg hd (fun _ h=>absurd (.inr rfl) h)
 obtain ⟨e1,e2,e3⟩:=c4 (by omega)
 have hdp:(Qv op 0 t g m).2.depth=m.depth+g:=by
  rcases Ko op 0 t g m with ⟨e,_⟩|⟨h,_⟩
  ·rw [e]
  ·omega
 generalize Qv op 0 t g m=u at *
 obtain ⟨D2,d1,d2,d3,d4⟩:=hf u.2 _ D1 c1 (fun i hi=>by rcases hi with hi|hi;have:=hp i hi;omega;omega)
 have hx:=d3.2 m.l.length _ e2 (by simp only;omega)
 rw [e1]
 refine ⟨D2,D9 d1 m.l.length _ hx (by simpa using h89) (fun j=>Iff.rfl) ?_,fun k hk=>(d2 k (by omega)).trans (c2 k hk),D8 (c3.trans d3) _ (Nat.le_refl _),?_⟩
 ·rw [d2 m.l.length (by omega),c2 m.l.length (Nat.le_refl _),hb.dl,d4,hdp,hg]
  omega
 ·show (f u.2).depth=_
  rw [d4,hdp]
  omega
theorem stmtLM_bal: ∀ (ks:List Nd),(∀ k∈ks,X0 (stmtM k false) 0)→X0 (stmtLM ks) 0
 | [],_=>by
  have:stmtLM []=fun m=>m:=by funext m;rw [stmtLM]
  rw [this]
  exact X0.id
 | k::r,h=>by
  have:stmtLM (k::r)=fun m=>stmtLM r (stmtM k false m):=by funext m;rw [stmtLM]
  rw [this]
  exact (h k (List.mem_cons_self ..)).comp (stmtLM_bal r fun x hx=>h x (List.mem_cons_of_mem _ hx))
theorem put_dep (op a:Nat) (t:List UInt8) (g:Int) (m:MkS):(Qv op a t g m).2.depth=m.depth+g:=by
 rcases Ko op a t g m with ⟨e,_⟩|⟨_,l',y,_,_,e⟩ <;> rw [e]
theorem st_bal {i d:Nat} {n:Nd} (h:FitS i d n):X0 (stmtM n (i==1)) 0:=by
 induction h with
 | @set d x n _ hn =>
  show X0 (stmtM (.mk 3 x 0 [n]) false) 0
  have e:stmtM (.mk 3 x 0 [n]) false=fun m=>(Qv 3 (Xz x (exprM n (Qv 0 1 [] 0 m).2)).1 [] (-1) (Xz x (exprM n (Qv 0 1 [] 0 m).2)).2).2:=funext fun m=>B9 3 0 x n m rfl
  rw [e]
  have:=put_fin (burn_bal.comp (Bv hn)) 3 [] (-1) (fun m=>(Xz x m).2) (fun m=>(Xz x m).1) (fun m=>⟨rfl,rfl,rfl⟩) (by decide) (by decide) (fun a=>by simp [grI]) (fun a=>by simp [ndI]) (by decide)
  exact this
 | @do_ d n hn =>
  show X0 (stmtM (.mk 4 [] 0 [n]) false) 0
  have e:stmtM (.mk 4 [] 0 [n]) false=fun m=>(Qv 4 0 [] (-1) (exprM n (Qv 0 1 [] 0 m).2)).2:=funext fun m=>Ds 4 0 [] n m rfl
  rw [e]
  have:=put_fin (burn_bal.comp (Bv hn)) 4 [] (-1) (fun m=>m) (fun m=>0) (fun m=>⟨rfl,rfl,rfl⟩) (by decide) (by decide) (fun a=>by simp [grI]) (fun a=>by simp [ndI]) (by decide)
  exact this
 | @if2 d n b hn hb ih =>
  show X0 (stmtM (.mk 5 [] 0 [n,b]) false) 0
  intro m P D hbal hp
  rw [Cb]
  obtain ⟨D1,c1,c2,c3,c4⟩:=(burn_bal.comp (Bv hn)) m P D hbal hp
  simp only at c1 c3 c4
  generalize exprM n (Qv 0 1 [] 0 m).2=m1 at *
  have hnn:=hbal.nn
  obtain ⟨D2,d1,d2,d3,d4⟩:=jump_bal 9 [] (-1) (.inr rfl) (by simp [grI]) (by simp [ndI]) ih c1 (fun i hi=>Nat.lt_of_lt_of_le (hp i hi) c3.1) (by omega)
  rw [show ((1:Nat)==1)=true from rfl] at d1 d3 d4
  exact ⟨D2,d1,fun k hk=>(d2 k (Nat.le_trans hk c3.1)).trans (c2 k hk),c3.trans d3,by rw [d4,c4];omega⟩
 | @if3 d n b c hn hb hc ihb ihc =>
  show X0 (stmtM (.mk 5 [] 0 [n,b,c]) false) 0
  intro m P D hbal hp
  rw [Ca]
  obtain ⟨D1,c1,c2,c3,c4⟩:=(burn_bal.comp (Bv hn)) m P D hbal hp
  simp only at c1 c3 c4
  generalize exprM n (Qv 0 1 [] 0 m).2=m1 at *
  have hnn:=hbal.nn
  have hpu:(Qv 9 0 [] (-1) m1).2.depth=m1.depth+(-1):=put_dep _ _ _ _ _
  obtain ⟨D2,d1,d2,d3,d4⟩:=Ch c1 9 0 [] (-1) (P':=fun i=>P i∨i=m1.l.length) (fun i hi=>⟨fun h=>h.elim id (fun h=>absurd h (by omega)),.inl⟩) (by simp [ndI];omega) (by simp [grI]) (by omega) (fun _ h=>absurd (.inr rfl) h)
  obtain ⟨u1,u2,u3⟩:=d4 (by decide)
  generalize Qv 9 0 [] (-1) m1=u at *
  obtain ⟨D3,e1,e2,e3,e4⟩:=ihb u.2 _ D2 d1 (fun i hi=>by rcases hi with hi|hi;have:=hp i hi;have:=c3.1;omega;omega)
  rw [show ((1:Nat)==1)=true from rfl] at e1 e3 e4
  generalize stmtM b true u.2=m3 at *
  have hpj:(Qv 8 0 [] 0 m3).2.depth=m3.depth+0:=put_dep _ _ _ _ _
  obtain ⟨D4,f1,f2,f3,f4⟩:=Ch e1 8 0 [] 0 (P':=fun i=>(P i∨i=m1.l.length)∨i=m3.l.length) (fun i hi=>⟨fun h=>h.elim id (fun h=>absurd h (by omega)),.inl⟩) (by simp [ndI];omega) (by simp [grI]) (by omega) (fun _ h=>absurd (.inr rfl) h)
  obtain ⟨j1,j2,j3⟩:=f4 (by decide)
  generalize Qv 8 0 [] 0 m3=j at *
  have hx:=(e3.trans f3).2 m1.l.length _ u2 (by simp)
  have l1:=c3.1
  have l2:=e3.1
  have g1:=D9 (P:=fun i=>P i∨i=m3.l.length) f1 m1.l.length _ hx (.inr rfl) (fun q=>by constructor;rintro ((h|h)|h);exact .inl (.inl h);exact .inr h;exact .inl (.inr h);rintro ((h|h)|h);exact .inl (.inl h);exact .inr h;exact .inl (.inr h)) (by rw [f2 _ (by omega),e2 _ (by omega),d2 _ (Nat.le_refl _),c1.dl,hpj,e4,hpu];simp [grI])
  rw [u1,j1]
  have hjl:j.2.l[m3.l.length]? = some ⟨8,0,[]⟩:=j2
  have hj2:(Ye m1.l.length j.2).l[m3.l.length]? = some ⟨8,0,[]⟩:=by
   show (Ux m1.l.length j.2.l)[m3.l.length]? = _
   unfold Ux
   rw [hx]
   simp only
   rw [List.getElem?_set_ne (by omega)]
   exact hjl
  have hpl:(Ye m1.l.length j.2).depth=j.2.depth:=rfl
  have hll:=Wv m1.l.length j.2
  have pr:=D8 ((c3.trans d3).trans (e3.trans f3)) m1.l.length c3.1
  have lj:=f3.1
  generalize Ye m1.l.length j.2=m5 at *
  obtain ⟨D5,h1,h2,h3,h4⟩:=ihc m5 _ D4 g1 (fun i hi=>by rcases hi with hi|hi;have:=hp i hi;omega;omega)
  rw [show ((1:Nat)==1)=true from rfl] at h1 h3 h4
  generalize stmtM c true m5=m6 at *
  have hx6:=h3.2 _ _ hj2 (by simp)
  refine ⟨D5,D9 h1 m3.l.length _ hx6 (.inl rfl) (fun q=>Iff.rfl) ?_,fun k hk=> ?_,D8 (pr.trans h3) _ (by omega),?_⟩
  ·rw [h2 _ (by omega),f2 _ (Nat.le_refl _),e1.dl,h4,hpl,hpj]
   simp [grI]
  ·rw [h2 _ (by omega),f2 _ (by omega),e2 _ (by omega),d2 _ (by omega),c2 _ hk]
  ·show m6.depth=_
   rw [h4,hpl,hpj,e4,hpu,c4]
   omega
 | @while_ d n b hn hb ih =>
  show X0 (stmtM (.mk 6 [] 0 [n,b]) false) 0
  intro m P D hbal hp
  rw [W5]
  have hh:Bal (Z9 m) P D:=hbal.same rfl rfl rfl
  obtain ⟨D1,c1,c2,c3,c4⟩:=(burn_bal.comp (Bv hn)) (Z9 m) P D hh hp
  simp only at c1 c3 c4
  generalize exprM n (Qv 0 1 [] 0 (Z9 m)).2=m1 at *
  have c4:m1.depth=m.depth+(0+1):=c4
  have c2: ∀ k,k≤m.l.length→D1 k=D k:=c2
  have c3:Eu m m1:=c3
  have hnn:=hbal.nn
  have hpu:(Qv 9 0 [] (-1) m1).2.depth=m1.depth+(-1):=put_dep _ _ _ _ _
  obtain ⟨D2,d1,d2,d3,d4⟩:=Ch c1 9 0 [] (-1) (P':=fun i=>P i∨i=m1.l.length) (fun i hi=>⟨fun h=>h.elim id (fun h=>absurd h (by omega)),.inl⟩) (by simp [ndI];omega) (by simp [grI]) (by omega) (fun _ h=>absurd (.inr rfl) h)
  obtain ⟨u1,u2,u3⟩:=d4 (by decide)
  generalize Qv 9 0 [] (-1) m1=u at *
  obtain ⟨D3,e1,e2,e3,e4⟩:=ih u.2 _ D2 d1 (fun i hi=>by rcases hi with hi|hi;have:=hp i hi;have:=c3.1;omega;omega)
  rw [show ((1:Nat)==1)=true from rfl] at e1 e3 e4
  generalize stmtM b true u.2=m3 at *
  have l1:=c3.1
  have l2:=e3.1
  have hpj:(Qv 8 m.l.length [] 0 m3).2.depth=m3.depth+0:=put_dep _ _ _ _ _
  have hk0:D3 m.l.length=m.depth:=by rw [e2 _ (by omega),d2 _ (by omega),c2 _ (Nat.le_refl _),hbal.dl]
  obtain ⟨D4,f1,f2,f3,f4⟩:=Ch e1 8 m.l.length [] 0 (P':=fun i=>P i∨i=m1.l.length) (fun i hi=>Iff.rfl) (by simp [ndI];omega) (by simp [grI]) (by omega) (fun _ _=>⟨by omega,by omega⟩)
  generalize Qv 8 m.l.length [] 0 m3=j at *
  have hx:=(e3.trans f3).2 m1.l.length _ u2 (by simp)
  rw [u1]
  refine ⟨D4,D9 f1 m1.l.length _ hx (.inr rfl) (fun q=>Iff.rfl) ?_,fun k hk=> ?_,D8 ((c3.trans d3).trans (e3.trans f3)) _ c3.1,?_⟩
  ·rw [f2 _ (by omega),e2 _ (by omega),d2 _ (Nat.le_refl _),c1.dl,hpj,e4,hpu]
   simp [grI]
  ·rw [f2 _ (by omega),e2 _ (by omega),d2 _ (by omega),c2 _ hk]
  ·show j.2.depth=_
   rw [hpj,e4,hpu,c4]
   omega
 | @stop d =>
  show X0 (stmtM (.mk 7 [] 0 []) false) 0
  have e:stmtM (.mk 7 [] 0 []) false=fun m=>(Qv 10 0 [] 0 (Qv 0 1 [] 0 m).2).2:=funext fun m=>Ng 0 [] m
  rw [e]
  have:=put_fin burn_bal 10 [] 0 (fun m=>m) (fun m=>0) (fun m=>⟨rfl,rfl,rfl⟩) (by decide) (by decide) (fun a=>by simp [grI]) (fun a=>by simp [ndI]) (by decide)
  exact this
 | @block d ks _ hk ih =>
  show X0 (stmtM (.mk 2 [] 0 ks) true) 0
  have e:stmtM (.mk 2 [] 0 ks) true=stmtLM ks:=funext fun m=>W6 2 0 [] ks m
  rw [e]
  exact stmtLM_bal ks fun k hkm=>ih k hkm
def toI (i:Nat) (x:Ins):List Nat:=(if x.op≠10∧x.op≠8 then [i+1] else [])++(if x.op=8∨x.op=9 then [x.a] else [])
structure BalC (l:List Ins) (D:Nat→Int):Prop where
 d0:D 0=0
 la: ∃ r t,l=r++ [⟨10,0,t⟩]
 nd: ∀ i x,l[i]? = some x→ndI x≤D i∧0≤D i∧D i+grI x≤128
 to: ∀ i x k,l[i]? = some x→k∈toI i x→k < l.length∧D k=D i+grI x
theorem fitS_bal {n:Nd} {d:Nat} (h:FitS 1 d n):X0 (stmtM n true) 0:=st_bal h
theorem hand_balC {ps:List Nd} {b:Nd} {ns:List (List UInt8)} {cs:List Cst} {d:Nat} (h:FitS 1 d b) (hm:(handS ps b ns cs).most≤128): ∃ D,BalC (handS ps b ns cs).l D:=by
 obtain ⟨D,hb,-,-,hd⟩:=fitS_bal h ⟨(parL ps ns []).2,cs,[],0,0,0⟩ (fun _=>False) (fun _=>0) ⟨rfl,rfl,by simp,by simp,by simp,by simp⟩ (by simp)
 unfold handS at hm ⊢
 generalize stmtM b true ⟨(parL ps ns []).2,cs,[],0,0,0⟩=m at *
 have hd:m.depth=0:=hd
 rcases Ko 10 0 [] 0 m with ⟨e,-⟩|⟨e,-⟩
 ·rw [e] at hm ⊢
  simp only at hm ⊢
  obtain ⟨b0,b1,b2,b3,b4,b5⟩:=hb
  have hm1:m.most≤128:=by omega
  refine ⟨D,b0,⟨m.l,[],rfl⟩,fun i x hx=> ?_,fun i x k hx hk=> ?_⟩
  ·rcases Ww hx with ⟨h1,h2⟩|⟨rfl,rfl⟩
   ·obtain ⟨c1,c2,c3⟩:=b3 i x h1
    exact ⟨c1,c3,by omega⟩
   ·rw [b1,hd]
    simp [ndI,grI]
  ·rw [List.length_append,List.length_singleton]
   rcases Ww hx with ⟨h1,h2⟩|⟨rfl,rfl⟩
   ·unfold toI at hk
    rcases List.mem_append.1 hk with hk|hk
    ·split at hk
     ·rename_i hc
      rw [List.mem_singleton] at hk
      subst hk
      exact ⟨by omega,b4 i x h1 hc.2 hc.1⟩
     ·simp at hk
    ·split at hk
     ·rename_i hc
      rw [List.mem_singleton] at hk
      subst hk
      obtain ⟨c1,c2⟩:=b5 i x h1 hc (by simp)
      exact ⟨by omega,c2⟩
     ·simp at hk
   ·simp [toI] at hk
 ·exact absurd e (by decide)
theorem Ke (op a:Nat) (t:List UInt8) (g:Int) (m:MkS):(Qv op a t g m).2.names=m.names:=by
 rcases Ko op a t g m with ⟨e,-⟩|⟨-,_,_,-,-,e⟩ <;> rw [e]
theorem nameM_nm (x:List UInt8) (m:MkS):m.names.length≤(Xz x m).2.names.length:=(Z8 m.names x).2.2.1
mutual
theorem Uz: ∀ (n:Nd) (m:MkS),m.names.length≤(exprM n m).names.length
 | .mk op tx nm ks,m=>by
  rw [exprM]
  have h:=exprL_nm ks (Qv 0 1 [] 0 m).2
  rw [Ke] at h
  try dsimp only
  generalize exprL ks (Qv 0 1 [] 0 m).2=m1 at *
  have h2:=nameM_nm tx m1
  repeat' split
  all_goals rw [Ke]
  ·omega
  ·exact h
  ·exact h
  ·exact h
  ·exact h
theorem exprL_nm: ∀ (ks:List Nd) (m:MkS),m.names.length≤(exprL ks m).names.length
 | [],m=>by rw [exprL];exact Nat.le_refl _
 | k::r,m=>by
  rw [exprL]
  exact Nat.le_trans (Uz k m) (exprL_nm r _)
end
theorem Ea (i:Nat) (m:MkS):(Ye i m).names=m.names:=rfl
theorem st_nm {i d:Nat} {n:Nd} (h:FitS i d n): ∀ m:MkS,m.names.length≤(stmtM n (i==1) m).names.length:=by
 induction h with
 | @set d x n _ hn =>
  intro m
  show _≤(stmtM (.mk 3 x 0 [n]) false m).names.length
  have h1:=Uz n (Qv 0 1 [] 0 m).2
  have h2:=nameM_nm x (exprM n (Qv 0 1 [] 0 m).2)
  rw [B9 3 0 x n m rfl,Ke]
  rw [Ke] at h1
  omega
 | @do_ d n hn =>
  intro m
  show _≤(stmtM (.mk 4 [] 0 [n]) false m).names.length
  have h1:=Uz n (Qv 0 1 [] 0 m).2
  rw [Ds 4 0 [] n m rfl,Ke]
  rw [Ke] at h1
  exact h1
 | @if2 d n b hn hb ih =>
  intro m
  show _≤(stmtM (.mk 5 [] 0 [n,b]) false m).names.length
  have h1:=Uz n (Qv 0 1 [] 0 m).2
  have h2:=ih (Qv 9 0 [] (-1) (exprM n (Qv 0 1 [] 0 m).2)).2
  rw [Cb,Ea]
  rw [Ke] at h1 h2
  exact Nat.le_trans h1 h2
 | @if3 d n b c hn hb hc ihb ihc =>
  intro m
  show _≤(stmtM (.mk 5 [] 0 [n,b,c]) false m).names.length
  have h1:=Uz n (Qv 0 1 [] 0 m).2
  have h2:=ihb (Qv 9 0 [] (-1) (exprM n (Qv 0 1 [] 0 m).2)).2
  rw [Ca,Ea]
  rw [Ke] at h1 h2
  refine Nat.le_trans (Nat.le_trans h1 h2) (Nat.le_trans ?_ (ihc _))
  rw [Ea,Ke]
  exact Nat.le_refl _
 | @while_ d n b hn hb ih =>
  intro m
  show _≤(stmtM (.mk 6 [] 0 [n,b]) false m).names.length
  have h1:=Uz n (Qv 0 1 [] 0 (Z9 m)).2
  have h2:=ih (Qv 9 0 [] (-1) (exprM n (Qv 0 1 [] 0 (Z9 m)).2)).2
  rw [W5,Ea,Ke]
  rw [Ke] at h1 h2
  exact Nat.le_trans h1 h2
 | @stop d =>
  intro m
  show _≤(stmtM (.mk 7 [] 0 []) false m).names.length
  rw [Ng,Ke,Ke]
  exact Nat.le_refl _
 | @block d ks _ hk ih =>
  intro m
  show _≤(stmtM (.mk 2 [] 0 ks) true m).names.length
  rw [W6]
  clear hk
  induction ks generalizing m with
  | nil=>rw [stmtLM];exact Nat.le_refl _
  | cons k r ihr =>
   rw [stmtLM]
   exact Nat.le_trans (ih k (List.mem_cons_self ..) m) (ihr (fun x hx=>ih x (List.mem_cons_of_mem _ hx)) _)
theorem parL_lt: ∀ (l:List Nd) (ns:List (List UInt8)) (out:List Nat),(∀ p∈out,p < ns.length)→ ∀ p∈(parL l ns out).1,p < (parL l ns out).2.length
 | [],ns,out,h=>h
 | .mk _ tx _ _::r,ns,out,h=>by
  rw [parL]
  refine parL_lt r _ _ fun p hp=> ?_
  obtain ⟨-,-,h3,h4⟩:=Z8 ns tx
  rcases List.mem_append.1 hp with hp|hp
  ·exact Nat.lt_of_lt_of_le (h p hp) h3
  ·rw [List.mem_singleton] at hp
   omega
def HdOk (k:Nat) (h:Hnd):Prop:=(∀ p∈h.params,p < k)∧h.code.length≤8192∧ ∃ D,BalC h.code D
theorem HdOk.mono {k j:Nat} {h:Hnd} (hh:HdOk k h) (hj:k≤j):HdOk j h:=⟨fun p hp=>Nat.lt_of_lt_of_le (hh.1 p hp) hj,hh.2⟩
theorem compL_deep: ∀ (ks:List Nd) (ns:List (List UInt8)) (cs:List Cst) (out:List Hnd) (r:_),compL ks ns cs true out≠ .inr r
 | [],ns,cs,out,r=>by simp [compL]
 | .mk op tx nm ks::l,ns,cs,out,r=>by
  rw [compL]
  try dsimp only
  split
  ·simp
  ·rw [Bool.true_or]
   exact compL_deep l _ _ _ r
theorem compL_ok: ∀ (ks:List Nd) (ns:List (List UInt8)) (cs:List Cst) (out:List Hnd) (ns':List (List UInt8)) (cs':List Cst) (hs:List Hnd),(∀ k∈ks,FitO k)→(∀ h∈out,HdOk ns.length h)→compL ks ns cs false out= .inr (ns',cs',hs)→ ∀ h∈hs,HdOk ns'.length h
 | [],ns,cs,out,ns',cs',hs,hk,ho,e=>by
  simp [compL] at e
  obtain ⟨rfl,-,rfl⟩:=e
  exact ho
 | k::l,ns,cs,out,ns',cs',hs,hk,ho,e=>by
  obtain ⟨x,ys,b,rfl,-,-,hb⟩:=hk k (List.mem_cons_self ..)
  rw [compL] at e
  try dsimp only at e
  rw [List.dropLast_concat,show (ys.map (fun y=>Nd.mk 11 y 0 [])++ [b]).getLastD nd0=b by simp] at e
  have hq:=Bn (ys.map (fun y=>Nd.mk 11 y 0 [])) ns []
  have hp:=parL_lt (ys.map (fun y=>Nd.mk 11 y 0 [])) ns [] (by simp)
  have hb2:=fun hm=>hand_balC (ps:=ys.map (fun y=>Nd.mk 11 y 0 [])) (ns:=ns) (cs:=cs) hb hm
  have hn:(parL (ys.map (fun y=>Nd.mk 11 y 0 [])) ns []).2.length≤(handS (ys.map (fun y=>Nd.mk 11 y 0 [])) b ns cs).names.length:=by
   unfold handS
   rw [Ke]
   exact st_nm hb ⟨(parL (ys.map (fun y=>Nd.mk 11 y 0 [])) ns []).2,cs,[],0,0,0⟩
  generalize parL (ys.map (fun y=>Nd.mk 11 y 0 [])) ns []=pr at *
  generalize handS (ys.map (fun y=>Nd.mk 11 y 0 [])) b ns cs=m at *
  split at e
  ·simp at e
  ·rename_i h8
   rw [Bool.false_or] at e
   by_cases hd:128 < m.most
   ·rw [show decide (128 < m.most)=true from decide_eq_true hd] at e
    exact absurd e (compL_deep _ _ _ _ _)
   ·rw [show decide (128 < m.most)=false from decide_eq_false hd] at e
    refine compL_ok l _ _ _ ns' cs' hs (fun y hy=>hk y (List.mem_cons_of_mem _ hy)) (fun h hh=> ?_) e
    rcases List.mem_append.1 hh with hh|hh
    ·exact (ho h hh).mono (by omega)
    ·rw [List.mem_singleton] at hh
     subst hh
     exact ⟨fun p hp2=>Nat.lt_of_lt_of_le (hp p hp2) hn,Nat.not_lt.1 h8,hb2 (by omega)⟩
theorem compM_ok {op nm:Nat} {tx:List UInt8} {ks:List Nd} {g:Pgm} (hk: ∀ k∈ks,FitO k) (e:El (.mk op tx nm ks)= .inr g): ∀ h∈g.hs,HdOk g.names.length h:=by
 unfold El at e
 dsimp only at e
 split at e
 ·simp at e
 ·split at e
  ·simp at e
  ·rename_i ns cs hs h2
   simp only [Sum.inr.injEq] at e
   subst e
   exact compL_ok ks _ _ [] ns cs hs hk (by simp) h2
structure BS where
 dp:List Int
 sn:List Bool
 wk:List Nat
def pushK (d:Int) (k:Nat) (s:BS):BS:=if s.sn[k]? = some true then s else ⟨s.dp.set k d,s.sn.set k true,s.wk++ [k]⟩
structure BInv (l:List Ins) (D:Nat→Int) (s:BS):Prop where
 dl:s.dp.length=l.length
 sl:s.sn.length=l.length
 sd: ∀ k:Nat,s.sn[k]? = some true→s.dp[k]? = some (D k)
 wk: ∀ k∈s.wk,k < l.length∧s.sn[k]? = some true
 dm: ∀ k:Nat,s.sn[k]? = some true→D k≤128
def mBS (s:BS):Nat:=2*s.sn.count false+s.wk.length
theorem count_set: ∀ (l:List Bool) (k:Nat),l[k]? = some false→(l.set k true).count false+1=l.count false
 | [],k,h=>by simp at h
 | b::r,0,h=>by
  simp at h
  subst h
  simp
 | b::r,k+1,h=>by
  simp at h
  have:=count_set r k (by simpa using h)
  rw [List.set_cons_succ,List.count_cons,List.count_cons]
  omega
theorem pushK_ok {l:List Ins} {D:Nat→Int} {s:BS} (h:BInv l D s) (k:Nat) (hk:k < l.length) (hD:D k≤128):BInv l D (pushK (D k) k s)∧mBS (pushK (D k) k s)≤mBS s∧(pushK (D k) k s).wk.length≤l.length+s.wk.length:=by
 obtain ⟨h1,h2,h3,h4,h5⟩:=h
 unfold pushK
 split
 ·exact ⟨⟨h1,h2,h3,h4,h5⟩,Nat.le_refl _,by omega⟩
 ·rename_i hc
  have hs:s.sn[k]? = some false:=by
   have:k < s.sn.length:=by omega
   rw [List.getElem?_eq_getElem this] at hc ⊢
   cases e:s.sn[k] with
   | false=>rfl
   | true=>rw [e] at hc;exact absurd rfl hc
  have hcount:=count_set s.sn k hs
  refine ⟨⟨by simp [h1],by simp [h2],fun j hj=> ?_,fun j hj=> ?_,fun j hj=> ?_⟩,?_,?_⟩
  ·simp only at hj ⊢
   by_cases e:k=j
   ·subst e
    rw [List.getElem?_set_self (by omega)]
   ·rw [List.getElem?_set_ne e] at hj ⊢
    exact h3 j hj
  ·simp only at hj ⊢
   by_cases e:k=j
   ·subst e
    exact ⟨hk,by rw [List.getElem?_set_self (by omega)]⟩
   ·rw [List.getElem?_set_ne e]
    rcases List.mem_append.1 hj with hj|hj
    ·exact h4 j hj
    ·rw [List.mem_singleton] at hj
     exact absurd hj.symm e
  ·simp only at hj
   by_cases e:k=j
   ·subst e
    exact hD
   ·rw [List.getElem?_set_ne e] at hj
    exact h5 j hj
  ·unfold mBS
   simp only [List.length_append,List.length_singleton]
   omega
  ·simp only [List.length_append,List.length_singleton]
   omega
end Go.Proofs.YtpbiblhkcomekaaGreat
