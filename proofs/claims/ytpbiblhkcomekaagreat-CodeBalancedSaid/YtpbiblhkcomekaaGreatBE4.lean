import Derived.Test.YtpbiblhkcomekaaGreatBE3
/- Regions that draw their order, where no operation changes what is there, over values that are not all known. Over any program. -/
namespace Go.Proofs.YtpbiblhkcomekaaGreat
open Go Go.RowKit
set_option linter.unusedSimpArgs false
set_option linter.unusedVariables false
structure Val (A B:VV→Prop):Prop where
 out: ∃ v,A v∧B v
theorem Val.via {A B:VV→Prop} {v:VV} (h:A v) (g:B v):Val A B:=⟨⟨v,h,g⟩⟩
structure Is (x v:VV) (K H:Heap):Prop where
 val:x=v
 heap:K=H
def snocE:List VV→VV→(List VV→Prop)→Prop
 | [],v,K=>K [v]
 | a::r,v,K=>snocE r v fun r'=>K (a::r')
theorem Yg: ∀ (l:List VV) (v:VV) (K:List VV→Prop),snocE l v K=K (l++ [v])
 | [],_,_=>rfl
 | a::r,v,K=>by simp only [snocE,Yg r v,List.cons_append]
theorem Kd (i : Nat) (o : Oper) : ∀ (l : List Oper) (j : Nat) (vs ts : List VV), (dstsOf l).Nodup → (Je i o l j vs ts).length = ts.length ∧
    (∀ t, t ∉ dstsOf l → (Je i o l j vs ts)[t]? = ts[t]?) ∧ (∀ (m t : Nat) (x : Oper), l[m]? = some x → x.dst = some t → t < ts.length → (Je i o l j vs ts)[t]? = some (match Q8 o.after.toList (j + m) with
      | true => (vs[m]?).getD .junk
      | false => match Q8 x.after.toList i with
        | true => (ts[t]?).getD .junk
        | false => .junk))
  | [], j, vs, ts, _ => ⟨rfl, fun _ _ => rfl, fun m t x h => by simp at h⟩
  | x :: r, j, vs, ts, hn => by
    simp only [Je]
    have hv : ∀ m, vs.tail[m]? = vs[m + 1]? := fun m => by cases vs <;> simp
    cases hd : x.dst with
    | none =>
      simp only
      have hn' : (dstsOf r).Nodup := by simpa [dstsOf, hd] using hn
      obtain ⟨a1, a2, a3⟩ := Kd i o r (j + 1) vs.tail ts hn'
      refine ⟨a1, fun t ht => a2 t (by simpa [dstsOf, hd] using ht), fun m t y hy hyd hlt => ?_⟩
      cases m with
      | zero => simp at hy; subst hy; rw [hd] at hyd; cases hyd
      | succ m =>
        simp at hy
        have := a3 m t y hy hyd hlt
        rw [this, hv, show j + 1 + m = j + (m + 1) by omega]
    | some d =>
      have hn' : d ∉ dstsOf r ∧ (dstsOf r).Nodup := by simpa [dstsOf, hd] using hn
      have key : ∀ (u : Option VV), (∀ v, u = some v → d < ts.length → True) → ∀ ts', ts' = (match u with | some v => ts.set d v | none => ts) →
          ((Je i o r (j + 1) vs.tail ts').length = ts.length ∧ (∀ t, t ∉ dstsOf (x :: r) → (Je i o r (j + 1) vs.tail ts')[t]? = ts[t]?) ∧
          (d < ts.length → (Je i o r (j + 1) vs.tail ts')[d]? = some (match u with | some v => v | none => (ts[d]?).getD .junk)) ∧
          (∀ (m t : Nat) (y : Oper), r[m]? = some y → y.dst = some t → t < ts.length → (Je i o r (j + 1) vs.tail ts')[t]? = some (match Q8 o.after.toList (j + (m + 1)) with
            | true => (vs[m + 1]?).getD .junk
            | false => match Q8 y.after.toList i with
              | true => (ts[t]?).getD .junk
              | false => .junk))) := by
        intro u _ ts' e
        obtain ⟨a1, a2, a3⟩ := Kd i o r (j + 1) vs.tail ts' hn'.2
        have hl : ts'.length = ts.length := by subst e; cases u <;> simp
        have hne : ∀ t, t ≠ d → ts'[t]? = ts[t]? := fun t ht => by subst e; cases u <;> simp [List.getElem?_set_ne (fun q => ht q.symm)]
        refine ⟨a1.trans hl, fun t ht => ?_, fun hlt => ?_, fun m t y hy hyd hlt => ?_⟩
        · have ht' : ¬ (t = d ∨ t ∈ dstsOf r) := by simpa [dstsOf, hd] using ht
          rw [a2 t (fun h => ht' (.inr h)), hne t (fun e => ht' (.inl e))]
        · rw [a2 d hn'.1]
          subst e
          cases u with
          | none => simp [List.getElem?_eq_getElem hlt]
          | some v => simp [List.getElem?_set_self hlt]
        · have htd : t ≠ d := fun e => by
            subst e
            exact hn'.1 (Nn (List.mem_of_getElem? hy) hyd)
          rw [a3 m t y hy hyd (by omega), hv, show j + 1 + m = j + (m + 1) by omega, hne t htd]
      have fin : ∀ (u : Option VV) (ts' : List VV), ts' = (match u with | some v => ts.set d v | none => ts) → ((match u with | some v => v | none => (ts[d]?).getD .junk) = (match Q8 o.after.toList (j + 0) with
            | true => (vs[0]?).getD .junk
            | false => match Q8 x.after.toList i with
              | true => (ts[d]?).getD .junk
              | false => .junk)) → _ := fun u ts' e hu => by
        obtain ⟨k1, k2, k3, k4⟩ := key u (fun _ _ _ => trivial) ts' e
        exact (⟨k1, k2, fun m t y hy hyd hlt => by
          cases m with
          | zero =>
            simp at hy
            subst hy
            rw [hd] at hyd; injection hyd with hyd; subst hyd
            rw [k3 hlt, hu]
          | succ m =>
            simp at hy
            exact k4 m t y hy hyd hlt⟩ : (Je i o r (j + 1) vs.tail ts').length = ts.length ∧
    (∀ t, t ∉ dstsOf (x :: r) → (Je i o r (j + 1) vs.tail ts')[t]? = ts[t]?) ∧ (∀ (m t : Nat) (y : Oper), (x :: r)[m]? = some y → y.dst = some t → t < ts.length → (Je i o r (j + 1) vs.tail ts')[t]? = some (match Q8 o.after.toList (j + m) with
      | true => (vs[m]?).getD .junk
      | false => match Q8 y.after.toList i with
        | true => (ts[t]?).getD .junk
        | false => .junk)))
      simp only
      cases hw : Q8 o.after.toList j with
      | true =>
        refine fin (some (vs.headD .junk)) _ rfl ?_
        simp only [Nat.add_zero, hw]
        cases vs <;> rfl
      | false =>
        simp only
        cases hw2 : Q8 x.after.toList i with
        | true =>
          refine fin none _ rfl ?_
          simp only [Nat.add_zero, hw, hw2]
        | false =>
          refine fin (some .junk) _ rfl ?_
          simp only [Nat.add_zero, hw, hw2]
def dstIdx:List Oper→Nat→Nat→Option (Nat×Oper)
 | [],_,_=>none
 | x::r,j,k=>match x.dst with
  | none=>dstIdx r (j+1) k
  | some d=>match Nat.beq d k with
   | true=>some (j,x)
   | false=>dstIdx r (j+1) k
theorem Eh: ∀ (l:List Oper) (j k:Nat),(dstIdx l j k=none∧k ∉ dstsOf l)∨ ∃ m x,dstIdx l j k=some (j+m,x)∧l[m]? = some x∧x.dst=some k
 | [],j,k=> .inl ⟨rfl,by simp [dstsOf]⟩
 | x::r,j,k=>by
  have ih:=Eh r (j+1) k
  unfold dstIdx dstsOf
  have up:(∃ m y,dstIdx r (j+1) k=some (j+1+m,y)∧r[m]? = some y∧y.dst=some k)→ ∃ m y,dstIdx r (j+1) k=some (j+m,y)∧(x::r)[m]? = some y∧y.dst=some k:=by
   rintro ⟨m,y,h1,h2,h3⟩
   exact ⟨m+1,y,by rw [h1,show j+1+m=j+(m+1) by omega],by simpa using h2,h3⟩
  cases hd:x.dst with
  | none =>
   simp only
   rcases ih with h|h
   ·exact .inl h
   ·exact .inr (up h)
  | some d =>
   simp only
   rcases Jy d k with ⟨h1,e⟩|⟨h1,e⟩
   ·subst e
    rw [h1]
    exact .inr ⟨0,x,rfl,rfl,hd⟩
   ·rw [h1]
    simp only
    rcases ih with h|h
    ·exact .inl ⟨h.1,by simp only [List.mem_cons,not_or];exact ⟨fun q=>e q.symm,h.2⟩⟩
    ·exact .inr (up h)
def tmpVal (i:Nat) (o:Oper) (ops:List Oper) (vs ts0:List VV) (k:Nat):VV:=match dstIdx ops 0 k with
 | none=>(ts0[k]?).getD .junk
 | some (j,x)=>match Q8 o.after.toList j with
  | true=>(vs[j]?).getD .junk
  | false=>match Q8 x.after.toList i with
   | true=>(ts0[k]?).getD .junk
   | false=> .junk
theorem tmpVal_eq {i:Nat} {o:Oper} {ops:List Oper} {vs ts0:List VV} {k:Nat} (hn:(dstsOf ops).Nodup) (hk:k < ts0.length):(Je i o ops 0 vs ts0)[k]? = some (tmpVal i o ops vs ts0 k):=by
 obtain ⟨a1,a2,a3⟩:=Kd i o ops 0 vs ts0 hn
 unfold tmpVal
 rcases Eh ops 0 k with ⟨h1,h2⟩|⟨m,x,h1,h2,h3⟩
 ·rw [h1,a2 k h2]
  simp [List.getElem?_eq_getElem hk]
 ·rw [h1,a3 m k x h2 h3 hk,Nat.zero_add]
def Yj (i:Nat) (o:Oper) (ops:List Oper) (vs ts0:List VV):List Operand→(List (Nat×VV)→Prop)→Prop
 | [],K=>K []
 | .tmp k::r,K=>Jw (tmpVal i o ops vs ts0 k) fun v=>Yj i o ops vs ts0 r fun l=>K ((k,v)::l)
 | _::r,K=>Yj i o ops vs ts0 r K
def envL (i:Nat) (o:Oper) (ops:List Oper) (vs ts0:List VV):List Operand→List (Nat×VV)
 | []=> []
 | .tmp k::r=>(k,tmpVal i o ops vs ts0 k)::envL i o ops vs ts0 r
 | _::r=>envL i o ops vs ts0 r
theorem Ki (i:Nat) (o:Oper) (ops:List Oper) (vs ts0:List VV): ∀ (l:List Operand) (K:List (Nat×VV)→Prop),Yj i o ops vs ts0 l K=K (envL i o ops vs ts0 l)
 | [],K=>rfl
 | .tmp k::r,K=>by simp only [Yj,envL,Zl,Ki i o ops vs ts0 r]
 | .const _::r,K=>by simp only [Yj,envL,Ki i o ops vs ts0 r]
 | .global _::r,K=>by simp only [Yj,envL,Ki i o ops vs ts0 r]
 | .func _::r,K=>by simp only [Yj,envL,Ki i o ops vs ts0 r]
theorem Wh (i:Nat) (o:Oper) (ops:List Oper) (vs ts0:List VV) (k:Nat): ∀ (l:List Operand),lookT (envL i o ops vs ts0 l) k= .junk∨lookT (envL i o ops vs ts0 l) k=tmpVal i o ops vs ts0 k
 | []=> .inl rfl
 | .tmp j::r=>by
  simp only [envL,lookT]
  rcases Jy j k with ⟨h1,e⟩|⟨h1,e⟩
  ·subst e
   rw [h1];exact .inr rfl
  ·rw [h1];exact Wh i o ops vs ts0 k r
 | .const _::r=>Wh i o ops vs ts0 k r
 | .global _::r=>Wh i o ops vs ts0 k r
 | .func _::r=>Wh i o ops vs ts0 k r
def Jn (ops:Array Oper) (o:Oper):List Operand:=match o.guard with
 | none=>o.op.operands.toList
 | some (j,_)=>match (ops[j]?).bind (·.dst) with
  | some d=> .tmp d::o.op.operands.toList
  | none=>o.op.operands.toList
theorem Q3.less {P:Program} {o:Oper} {ts ts1:List VV} {H:Heap} {Q:VV→Heap→Prop} (ht: ∀ w Z ρ cs,Pw (Qf w Z ρ) ts cs→Pw (Qf w Z ρ) ts1 cs) (h:Q3 P o ts1 H Q):Q3 P o ts H Q:=fun B M Z ρ a w rr K QE h1 h2 h3=>h B M Z ρ a w rr K QE h1 (ht _ _ _ _ h2) h3
section
variable (P:Program) (ops:Array Oper) (ts0:List VV) (H:Heap) (K:List VV→Prop)
def Nw (i:Nat) (l:List Oper) (vs:List VV):Prop :=
 List.rec (motive:=fun _=>Nat→List VV→Prop) (fun _ vs=>K vs) (fun o _ ih i vs=>match o.guard with
  | none=>Yj i o ops.toList vs ts0 (Jn ops o) fun L=>Val (fun v=>W0 P o (Jj L ts0.length 0) H fun x K'=>Is x v K' H) (fun v=>Jw v fun v'=>snocE vs v' fun vs'=>ih (i+1) vs')
  | some (j,want)=>match Q8 o.after.toList j with
   | true=>match vs[j]? with
    | some (.sc (.bool b))=>ifB b
     (setE vs j (.sc (.bool true)) fun vs1=>match want with
      | true=>Yj i o ops.toList vs1 ts0 (Jn ops o) fun L=>Val (fun v=>W0 P o (Jj L ts0.length 0) H fun x K'=>Is x v K' H) (fun v=>Jw v fun v'=>snocE vs1 v' fun vs'=>ih (i+1) vs')
      | false=>snocE vs1 (.tp []) fun vs'=>ih (i+1) vs')
     (setE vs j (.sc (.bool false)) fun vs1=>match want with
      | false=>Yj i o ops.toList vs1 ts0 (Jn ops o) fun L=>Val (fun v=>W0 P o (Jj L ts0.length 0) H fun x K'=>Is x v K' H) (fun v=>Jw v fun v'=>snocE vs1 v' fun vs'=>ih (i+1) vs')
      | true=>snocE vs1 (.tp []) fun vs'=>ih (i+1) vs')
    | some (.tp _)=>snocE vs (.tp []) fun vs'=>ih (i+1) vs'
    | _=>False
   | false=>False) l i vs
theorem wdraw_cons (i:Nat) (o:Oper) (r:List Oper) (vs:List VV):Nw P ops ts0 H K i (o::r) vs=(match o.guard with
  | none=>Yj i o ops.toList vs ts0 (Jn ops o) fun L=>Val (fun v=>W0 P o (Jj L ts0.length 0) H fun x K'=>Is x v K' H) (fun v=>Jw v fun v'=>snocE vs v' fun vs'=>Nw P ops ts0 H K (i+1) r vs')
  | some (j,want)=>match Q8 o.after.toList j with
   | true=>match vs[j]? with
    | some (.sc (.bool b))=>ifB b
     (setE vs j (.sc (.bool true)) fun vs1=>match want with
      | true=>Yj i o ops.toList vs1 ts0 (Jn ops o) fun L=>Val (fun v=>W0 P o (Jj L ts0.length 0) H fun x K'=>Is x v K' H) (fun v=>Jw v fun v'=>snocE vs1 v' fun vs'=>Nw P ops ts0 H K (i+1) r vs')
      | false=>snocE vs1 (.tp []) fun vs'=>Nw P ops ts0 H K (i+1) r vs')
     (setE vs j (.sc (.bool false)) fun vs1=>match want with
      | false=>Yj i o ops.toList vs1 ts0 (Jn ops o) fun L=>Val (fun v=>W0 P o (Jj L ts0.length 0) H fun x K'=>Is x v K' H) (fun v=>Jw v fun v'=>snocE vs1 v' fun vs'=>Nw P ops ts0 H K (i+1) r vs')
      | true=>snocE vs1 (.tp []) fun vs'=>Nw P ops ts0 H K (i+1) r vs')
    | some (.tp _)=>snocE vs (.tp []) fun vs'=>Nw P ops ts0 H K (i+1) r vs'
    | _=>False
   | false=>False):=rfl
def QFact (V:List VV) (j:Nat) (o:Oper):Prop:= ∃ v,V[j]? = some v ∧
 ((Qq ops o (Je j o ops.toList 0 V ts0)=some false∧v= .tp [])∨(Qq ops o (Je j o ops.toList 0 V ts0)=some true∧Q3 P o (Je j o ops.toList 0 V ts0) H (fun x K'=>x=v∧K'=H)))
theorem wdraw_sound (hback: ∀ (i:Nat) (o:Oper),ops.toList[i]? = some o→ ∀ e∈o.after.toList,Xm e=true→e.on < i) (hnd:(dstsOf ops.toList).Nodup) (hbd: ∀ (i:Nat) (o:Oper),ops.toList[i]? = some o→ ∀ d,o.dst=some d→d < ts0.length) (hgd: ∀ (i:Nat) (o:Oper) (j:Nat) (w:Bool),ops.toList[i]? = some o→o.guard=some (j,w)→((ops[j]?).bind (fun x:Oper=>x.dst)).isSome=true): ∀ (r:List Oper) (i:Nat) (vs:List VV),ops.toList.drop i=r→vs.length=i→Nw P ops ts0 H K i r vs →
  ∃ V,(∃ a,V=vs++a)∧(i≤ops.size→V.length=ops.size)∧K V∧ ∀ j o,i≤j→ops.toList[j]? = some o→QFact P ops ts0 H V j o
 | [],i,vs,hd,hv,h=>by
  have hle:ops.size≤i:=by have:=congrArg List.length hd;simp at this;omega
  refine ⟨vs,⟨[],by simp⟩,fun h=>by omega,h,fun j o hj ho=> ?_⟩
  have:=(List.getElem?_eq_some_iff.1 ho).1
  simp at this
  omega
 | o::r,i,vs,hd,hv,h=>by
  have ho:ops.toList[i]? = some o:=by
   have:=congrArg (fun l=>l[0]?) hd
   simpa using this
  have hd':ops.toList.drop (i+1)=r:=by rw [← List.drop_drop,hd];rfl
  have hilt:i < ops.size:=by have:=(List.getElem?_eq_some_iff.1 ho).1;simpa using this
  have hT: ∀ {V:List VV} {a:List VV},V=vs++a→Je i o ops.toList 0 vs ts0=Je i o ops.toList 0 V ts0:=fun {V a} e=>B8 _ _ _ _ _ fun m hm=>by
   obtain ⟨ed,he,hon,hb⟩:=Yt hm
   have:=hback i o ho ed he hb
   rw [e,List.getElem?_append_left (by omega)]
  have step: ∀ (v:VV),Nw P ops ts0 H K (i+1) r (vs++ [v])→(∀ V,Je i o ops.toList 0 vs ts0=Je i o ops.toList 0 V ts0→V[i]? = some v→QFact P ops ts0 H V i o) →
    ∃ V,(∃ a,V=vs++a)∧(i≤ops.size→V.length=ops.size)∧K V∧ ∀ j o,i≤j→ops.toList[j]? = some o→QFact P ops ts0 H V j o:=by
   intro v hw hf
   obtain ⟨V,⟨a,ha⟩,hl,hk,hq⟩:=wdraw_sound hback hnd hbd hgd r (i+1) (vs++ [v]) hd' (by simp [hv]) hw
   refine ⟨V,⟨v::a,by rw [ha];simp⟩,fun _=>hl hilt,hk,fun j x hj hx=> ?_⟩
   by_cases e:j=i
   ·subst e
    rw [ho] at hx;injection hx with hx;subst hx
    refine hf V (hT (a:=v::a) (by rw [ha];simp)) ?_
    rw [ha,List.append_assoc,List.getElem?_append_right (by omega)];simp [hv]
   ·exact hq j x (by omega) hx
  have less: ∀ (l:List Operand) (w:World) (Z:Nat→Prop) (ρ:Nat→Option (Nat×Nat)) (cs:List Value),Pw (Qf w Z ρ) (Je i o ops.toList 0 vs ts0) cs→Pw (Qf w Z ρ) (Jj (envL i o ops.toList vs ts0 l) ts0.length 0) cs:=fun l w Z ρ cs hp=>by
   have hl:=(Kd i o ops.toList 0 vs ts0 hnd).1
   refine ⟨by rw [Z0,← hl];exact hp.1,fun k u x hu hx=> ?_⟩
   simp only [Wx,Nat.zero_add] at hu
   split at hu
   ·rename_i hk
    simp at hu
    rcases Wh i o ops.toList vs ts0 k l with e|e
    ·rw [← hu,e];exact .junk
    ·rw [← hu,e];exact hp.2 k _ x (tmpVal_eq hnd hk) hx
   ·simp at hu
  have go: ∀ (hw:Qq ops o (Je i o ops.toList 0 vs ts0)=some true),(Yj i o ops.toList vs ts0 (Jn ops o) fun L=>Val (fun v=>W0 P o (Jj L ts0.length 0) H fun x K'=>Is x v K' H) (fun v=>Jw v fun v'=>snocE vs v' fun vs'=>Nw P ops ts0 H K (i+1) r vs')) →
    ∃ V,(∃ a,V=vs++a)∧(i≤ops.size→V.length=ops.size)∧K V∧ ∀ j o,i≤j→ops.toList[j]? = some o→QFact P ops ts0 H V j o:=by
   intro hw hg
   rw [Ki] at hg
   obtain ⟨v,h1,h2⟩:=hg.out
   rw [Zl,Yg] at h2
   refine step v h2 fun V e hv'=>⟨v,hv',.inr ⟨e ▸ hw,?_⟩⟩
   rw [← e]
   exact Q3.less (less _) ((Yb h1).mono fun x K' q=>⟨q.val,q.heap⟩)
  have skip: ∀ (hw:Qq ops o (Je i o ops.toList 0 vs ts0)=some false),(snocE vs (.tp []) fun vs'=>Nw P ops ts0 H K (i+1) r vs') →
    ∃ V,(∃ a,V=vs++a)∧(i≤ops.size→V.length=ops.size)∧K V∧ ∀ j o,i≤j→ops.toList[j]? = some o→QFact P ops ts0 H V j o:=by
   intro hw hg
   rw [Yg] at hg
   exact step _ hg fun V e hv'=>⟨_,hv',.inl ⟨e ▸ hw,rfl⟩⟩
  rw [wdraw_cons] at h
  split at h
  ·rename_i hg
   exact go (by simp [Qq,hg]) h
  ·rename_i j want hg
   split at h
   case h_2=>exact h.elim
   rename_i hwt
   have hgd':=hgd i o j want ho hg
   have hval: ∀ u,vs[j]? = some u→ ∃ d,(ops[j]?).bind (·.dst)=some d∧(Je i o ops.toList 0 vs ts0)[d]? = some u:=fun u hu=>by
    cases hd2:(ops[j]?).bind (·.dst) with
    | none=>rw [hd2] at hgd';cases hgd'
    | some d =>
     refine ⟨d,rfl,?_⟩
     cases hx:ops[j]? with
     | none=>rw [hx] at hd2;cases hd2
     | some x =>
      rw [hx] at hd2
      have hx':ops.toList[j]? = some x:=by simpa using hx
      have hxd:x.dst=some d:=hd2
      have:=(Kd i o ops.toList 0 vs ts0 hnd).2.2 j d x hx' hxd (hbd j x hx' d hxd)
      rw [this,Nat.zero_add,hwt,hu]
      rfl
   split at h
   ·rename_i b hb
    obtain ⟨d,e1,e2⟩:=hval _ hb
    simp only [W7] at h
    cases b with
    | true =>
     simp only [ifB] at h
     rw [Zu hb] at h
     cases want with
     | true=>exact go (by simp [Qq,hg,e1,e2]) h
     | false=>exact skip (by simp [Qq,hg,e1,e2]) h
    | false =>
     simp only [ifB] at h
     rw [Zu hb] at h
     cases want with
     | false=>exact go (by simp [Qq,hg,e1,e2]) h
     | true=>exact skip (by simp [Qq,hg,e1,e2]) h
   ·rename_i hb
    obtain ⟨d,e1,e2⟩:=hval _ hb
    exact skip (by simp [Qq,hg,e1,e2]) h
   ·exact h.elim
end
def fitN (n:Nat) (ops:Array Oper):Bool:=ops.toList.all fun o:Oper=>(match o.dst with
  | some d=>Nat.blt d n
  | none=>true)&&(match o.guard with
  | some (j,_)=>((ops[j]?).bind (fun x:Oper=>x.dst)).isSome
  | none=>true)
def tAllE:List Oper→List VV→List VV→(List VV→Prop)→Prop
 | x::r,v::vs,ts,K=>match x.dst with
  | none=>tAllE r vs ts K
  | some d=>setE ts d v fun ts'=>tAllE r vs ts' K
 | [],_,ts,K=>K ts
 | _::_,[],ts,K=>K ts
theorem Un: ∀ (l:List Oper) (vs ts:List VV) (K:List VV→Prop),tAllE l vs ts K=K (tAll l vs ts)
 | [],vs,ts,K=>by cases vs <;> rfl
 | _::_,[],ts,K=>rfl
 | x::r,v::vs,ts,K=>by
  simp only [tAllE,tAll]
  cases x.dst with
  | none=>exact Un r vs ts K
  | some d=>simp only [W7];exact Un r vs _ K
theorem Co: ∀ n,cnt (fun _=>false) n=0
 | 0=>rfl
 | n+1=>by rw [cnt,Co n];rfl
theorem GWP.draw {P:Program} {r:Option Nat} {id:Nat} {ops:Array Oper} {Q:Exit→VSt→Prop} {s:VSt} (hm:P.follows .mixedOrders=true) (n:Nat) (hb:(backN 0 ops.toList&&nodupN (dstsOf ops.toList)&&fitN n ops)=true) (hlen:s.tmps.length=n)
  (h:match s with|⟨ts0,H,m⟩=>Nw P ops ts0 H (fun V=>tAllE ops.toList V ts0 fun ts=>Q .normal ⟨ts,H,m⟩) 0 ops.toList []):GWP P r (.region id ops true) Q s:=⟨by
 obtain ⟨ts0,H,m⟩:=s
 simp only [Bool.and_eq_true] at hb
 have hback: ∀ i o,ops.toList[i]? = some o→ ∀ e∈o.after.toList,Xm e=true→e.on < i:=fun i o ho e he hbe=>by
  have:=Wl hb.1.1 i o ho e he hbe
  omega
 have hlen:ts0.length=n:=hlen
 have hfit: ∀ (i:Nat) (o:Oper),ops.toList[i]? = some o→(∀ d,o.dst=some d→d < ts0.length)∧ ∀ (j:Nat) (w:Bool),o.guard=some (j,w)→((ops[j]?).bind (fun x:Oper=>x.dst)).isSome=true:=fun i o ho=>by
  have:=List.all_eq_true.1 hb.2 o (List.mem_of_getElem? ho)
  simp only [Bool.and_eq_true] at this
  refine ⟨fun d hd=> ?_,fun j w hg=> ?_⟩
  ·have h1:=this.1
   rw [hd] at h1
   rw [hlen]
   exact Nat.le_of_ble_eq_true h1
  ·have h1:=this.2
   rw [hg] at h1
   exact h1
 obtain ⟨V,_,hl,hk,hq⟩:=wdraw_sound P ops ts0 H _ hback (Zw hb.1.2) (fun i o ho=>(hfit i o ho).1) (fun i o j w ho=>(hfit i o ho).2 j w) ops.toList 0 [] rfl rfl h
 have hl:=hl (Nat.zero_le _)
 rw [Un] at hk
 refine VWP.draw (vals:=V) (G:=fun _=>H) (ev:=fun _=>false) hm ⟨by simpa using hl.symm,Zw hb.1.2,hback,fun i j _ h=>by simp at h,fun i o ho hw=> ?_,fun i o ho=> ?_,fun i o v _ _ h=>by simp at h,fun i o v p ho hw _ hv _ _=> ?_⟩ rfl hk
 ·obtain ⟨v,h1,h2⟩:=hq i o (Nat.zero_le _) ho
  rcases h2 with ⟨_,rfl⟩|⟨h2,_⟩
  ·exact ⟨h1,rfl⟩
  ·rw [hw] at h2;simp at h2
 ·obtain ⟨v,h1,h2⟩:=hq i o (Nat.zero_le _) ho
  rcases h2 with ⟨h2,_⟩|⟨h2,_⟩ <;> rw [h2] <;> simp
 ·obtain ⟨u,h1,h2⟩:=hq i o (Nat.zero_le _) ho
  rw [hv] at h1
  injection h1 with h1
  subst h1
  rcases h2 with ⟨h2,_⟩|⟨_,h2⟩
  ·rw [hw] at h2;simp at h2
  ·exact h2⟩
end Go.Proofs.YtpbiblhkcomekaaGreat
namespace Go.Proofs.YtpbiblhkcomekaaGreat
open Go Go.RowKit
set_option linter.unusedSimpArgs false
set_option linter.unusedVariables false
theorem hget_app (a b:List (Nat×VObj)) (k:Nat):hget (a++b) k=(match hget a k with
 | some x=>some x
 | none=>hget b k):=by
 induction a with
 | nil=>rfl
 | cons p r ih =>
  obtain ⟨j,o⟩:=p
  rw [List.cons_append,Qy,Qy]
  split
  ·rfl
  ·exact ih
structure Beside (H:Heap) (F:List (Nat×VObj)):Prop where
 none: ∀ b x,hget F b=some x→H.get b=none
def AllRw (H:Heap):Prop:= ∀ b x,H.get b=some x→x.rw=true
section
variable {P:Program} {B w w':World} {M Z Z':Nat→Prop} {ρ ρ':Nat→Option (Nat×Nat)} {H H1 K:Heap} {F:List (Nat×VObj)}
def Mine (H1:Heap) (ρ:Nat→Option (Nat×Nat)) (k:Nat):Prop:= ∃ b x N,H1.get b=some x∧x.rw=true∧ρ b=some (k,N)
theorem Rel.part (h:Rel B M Z ρ H w) (hn:H1.next=H.next) (hs: ∀ b x,H1.get b=some x→H.get b=some x):Rel w (Mine H1 ρ) Z ρ H1 w :=
 ⟨fun w' a b c d e=>h.glob w' (a.trans h.os) (b.trans h.tape) (c.trans h.output) (Nat.le_trans h.size d) fun k hk hM=>(e k (Nat.lt_of_lt_of_le hk h.size) fun ⟨b,x,N,g1,g2,g3⟩=>by
   obtain ⟨k',N',o,q1,q2,q3,q4,q5⟩:=h.objK (hs _ _ g1) g3
   rw [g3] at q1;injection q1 with q1;injection q1 with q1 q1';subst q1
   rcases q5 g2 with q|q
   ·omega
   ·exact hM q).trans (h.frame k hk hM),rfl,rfl,rfl,Nat.le_refl _,fun _ _ _=>rfl,fun b hb=>h.dom b (hn ▸ hb),fun b x hx=>hn ▸ h.live b x (hs b x hx),fun b b' k N N' x x' hx hx'=>h.inj b b' k N N' x x' (hs _ _ hx) (hs _ _ hx'),
  fun b x hx=>by
   rcases h.obj b x (hs _ _ hx) with hg|⟨k,N,o,h1,h2,h3,h4,h5⟩
   ·exact .inl hg
   exact .inr ⟨k,N,o,h1,h2,h3,h4,fun hr=> .inr ⟨b,x,N,hx,hr,h1⟩⟩,h.zlt⟩
theorem Rel.whole (h:Rel B M Z ρ H w) (hn:H1.next=H.next) (hs: ∀ b x,H1.get b=some x→H.get b=some x) (hF: ∀ b x,hget F b=some x→H.get b=some x) (hB:Beside H1 F)
  (e:Ext (own w (Mine H1 ρ)) H1.next Z ρ w K.next Z' ρ' w') (r:Rel w (Mine H1 ρ) Z' ρ' K w') (hK:AllRw K) (hKF:Beside K F):Ext (own B M) H.next Z ρ w K.next Z' ρ' w'∧Rel B M Z' ρ' ⟨K.objs++F,K.next⟩ w':=by
 have hget: ∀ b,(⟨K.objs++F,K.next⟩:Heap).get b=match K.get b with
  | some x=>some x
  | none=>hget F b:=fun b=>hget_app _ _ _
 have old: ∀ k,Mine H1 ρ k→B.heap.size≤k∨M k:=fun k ⟨b,x,N,h1,h2,h3⟩=>by
  obtain ⟨k',N',o,g1,g2,g3,g4,g5⟩:=h.objK (hs _ _ h1) h3
  rw [h3] at g1;injection g1 with g1;injection g1 with g1 g1';subst g1
  exact g5 h2
 have fblock: ∀ b x,Go.Proofs.YtpbiblhkcomekaaGreat.hget F b=some x→(x.ghost=true∧ρ b=none)∨ ∃ k N o,ρ b=some (k,N)∧ρ' b=some (k,N)∧w.heap[k]? = some o∧U6 w Z ρ N x o∧ ¬ Z k∧(x.rw=true→B.heap.size≤k∨M k)∧k < w.heap.size∧ ¬ Mine H1 ρ k:=fun b x hx=>by
  rcases h.obj b x (hF _ _ hx) with hg|⟨k,N,o,h1,h2,h3,h4,h5⟩
  ·exact .inl hg
  refine .inr ⟨k,N,o,h1,e.rsub _ _ h1,h2,h3,h4,h5,h.lt (hF _ _ hx) h1,fun ⟨b',x',N',m1,m2,m3⟩=> ?_⟩
  have:=h.inj b b' k N N' x x' (hF _ _ hx) (hs _ _ m1) h1 m3
  subst this
  rw [hB.none b x hx] at m1
  cases m1
 have gnone: ∀ b x,Go.Proofs.YtpbiblhkcomekaaGreat.hget F b=some x→ρ b=none→ρ' b=none:=fun b x hx h0=>by
  rw [e.rold b (hn ▸ h.live b x (hF _ _ hx))];exact h0
 have fblockK: ∀ b x k N,Go.Proofs.YtpbiblhkcomekaaGreat.hget F b=some x→ρ' b=some (k,N)→ ∃ k N o,ρ b=some (k,N)∧ρ' b=some (k,N)∧w.heap[k]? = some o∧U6 w Z ρ N x o∧ ¬ Z k∧(x.rw=true→B.heap.size≤k∨M k)∧k < w.heap.size∧ ¬ Mine H1 ρ k:=fun b x k N hx hk=>by
  rcases fblock b x hx with ⟨_,g⟩|g
  ·rw [gnone b x hx g] at hk;cases hk
  ·exact g
 have kblock: ∀ b x k N,K.get b=some x→ρ' b=some (k,N)→w.heap.size≤k∨Mine H1 ρ k:=fun b x k N hx hk=>by
  obtain ⟨k',N',o,g1,g2,g3,g4,g5⟩:=r.objK hx hk
  rw [hk] at g1;injection g1 with g1;injection g1 with g1 g1';subst g1
  exact g5 (hK b x hx)
 refine ⟨⟨hn ▸ e.nle,fun b hb=>e.rold b (hn.symm ▸ hb),e.zsub,e.rsub,e.keep,e.size,fun k hk=>(e.znew k hk).imp id fun q=>q.elim .inl fun q=>q.elim .inl fun q=> .inr (old k q)⟩,h.glob,r.os.trans h.os,r.tape.trans h.tape,r.output.trans h.output,Nat.le_trans h.size r.size,?_,r.dom,?_,?_,?_,r.zlt⟩
 ·intro k hk hM
  have hsz:=h.size
  rw [r.frame k (by omega) (fun hm=>(old k hm).elim (fun q=>by omega) hM)]
  exact h.frame k hk hM
 ·intro b x hx
  rw [hget] at hx
  cases hkb:K.get b with
  | some y=>exact r.live b y hkb
  | none =>
   rw [hkb] at hx
   exact Nat.lt_of_lt_of_le (h.live b x (hF _ _ hx)) (hn ▸ e.nle)
 ·intro b b' k N N' x x' hx hx' hb hb'
  rw [hget] at hx hx'
  cases hkb:K.get b with
  | some y =>
   cases hkb':K.get b' with
   | some y'=>exact r.inj b b' k N N' y y' hkb hkb' hb hb'
   | none =>
    rw [hkb'] at hx'
    obtain ⟨k2,N2,o,f1,f2,f3,f4,f5,f6,f7,f8⟩:=fblockK b' x' _ _ hx' hb'
    rw [hb'] at f2;injection f2 with f2;injection f2 with f2 f2';subst f2
    exact ((kblock b y k N hkb hb).elim (fun q=>by omega) (fun q=>absurd q f8))
  | none =>
   rw [hkb] at hx
   obtain ⟨k2,N2,o,f1,f2,f3,f4,f5,f6,f7,f8⟩:=fblockK b x _ _ hx hb
   rw [hb] at f2;injection f2 with f2;injection f2 with f2 f2';subst f2
   cases hkb':K.get b' with
   | some y'=>exact ((kblock b' y' k N' hkb' hb').elim (fun q=>by omega) (fun q=>absurd q f8))
   | none =>
    rw [hkb'] at hx'
    obtain ⟨k3,N3,o3,p1,p2,_⟩:=fblockK b' x' _ _ hx' hb'
    rw [hb'] at p2;injection p2 with p2;injection p2 with p2 p2';subst p2
    exact h.inj b b' k _ _ x x' (hF _ _ hx) (hF _ _ hx') f1 p1
 ·intro b x hx
  rw [hget] at hx
  cases hkb:K.get b with
  | some y =>
   rw [hkb] at hx
   injection hx with hx
   subst hx
   rcases r.obj b y hkb with hg|⟨k,N,o,g1,g2,g3,g4,g5⟩
   ·exact .inl hg
   refine .inr ⟨k,N,o,g1,g2,g3,g4,fun hr=> ?_⟩
   rcases g5 hr with q|q
   ·exact .inl (Nat.le_trans h.size q)
   ·exact old k q
  | none =>
   rw [hkb] at hx
   rcases fblock b x hx with ⟨hg,hg2⟩|⟨k,N,o,f1,f2,f3,f4,f5,f6,f7,f8⟩
   ·exact .inl ⟨hg,gnone b x hx hg2⟩
   refine .inr ⟨k,N,o,f2,(r.frame k f7 f8).trans f3,f4.ext e,fun hz=> ?_,f6⟩
   rcases e.znew k hz with q|q|q|q
   ·exact f5 q
   ·omega
   ·omega
   ·exact f8 q
theorem Qc.framed {f:FuncId} {args:List VV} {Q:VV→Heap→Prop} (H1:Heap) (F:List (Nat×VObj)) (hn:H1.next=H.next) (hs: ∀ b x,H1.get b=some x→H.get b=some x) (hF: ∀ b x,hget F b=some x→H.get b=some x) (hB:Beside H1 F)
  (h:Qc P f args H1 Q) (hQ: ∀ v K,Q v K→AllRw K∧Beside K F):Qc P f args H (fun v K2=> ∃ K,Q v K∧K2=⟨K.objs++F,K.next⟩):=fun B M Z ρ w ra h1 h2 =>
 (h w (Mine H1 ρ) Z ρ w ra (h1.part hn hs) h2).mono fun e w' ⟨v',v,K,Z',ρ',he,q,e1,r1,v1⟩=>by
  obtain ⟨q1,q2⟩:=hQ v K q
  obtain ⟨e2,r2⟩:=h1.whole hn hs hF hB e1 r1 q1 q2
  exact ⟨v',v,_,Z',ρ',he,⟨K,q,rfl⟩,e2,r2,v1⟩
theorem J9.framed {l:Nat} {args:List VV} {Q:VV→Heap→Prop} (H1:Heap) (F:List (Nat×VObj)) (hn:H1.next=H.next) (hs: ∀ b x,H1.get b=some x→H.get b=some x) (hF: ∀ b x,hget F b=some x→H.get b=some x) (hB:Beside H1 F)
  (h:J9 P l args H1 Q) (hQ: ∀ v K,Q v K→AllRw K∧Beside K F):J9 P l args H (fun v K2=> ∃ K,Q v K∧K2=⟨K.objs++F,K.next⟩):=fun B M Z ρ w ra k N hk h1 h2=>by
 obtain ⟨fn,tmps,asg,bd,hr,h⟩:=h w (Mine H1 ρ) Z ρ w ra k N hk (h1.part hn hs) h2
 refine ⟨fn,tmps,asg,bd,hr,RoundIn.mono h ?_⟩
 rintro e w' ⟨v',v,K,Z',ρ',he,q,e1,r1,v1⟩
 obtain ⟨q1,q2⟩:=hQ v K q
 obtain ⟨e2,r2⟩:=h1.whole hn hs hF hB e1 r1 q1 q2
 exact ⟨v',v,_,Z',ρ',he,⟨K,q,rfl⟩,e2,r2,v1⟩
theorem J9.mono {l:Nat} {args:List VV} {R R':VV→Heap→Prop} (h:J9 P l args H R) (hq: ∀ v H',R v H'→R' v H'):J9 P l args H R':=fun B M Z ρ w ra k N hk h1 h2=>by
 obtain ⟨fn,tmps,asg,bd,hr,h⟩:=h B M Z ρ w ra k N hk h1 h2
 refine ⟨fn,tmps,asg,bd,hr,RoundIn.mono h ?_⟩
 rintro e w' ⟨v',v,K,Z',ρ',he,q,r⟩
 exact ⟨v',v,K,Z',ρ',he,hq _ _ q,r⟩
end
end Go.Proofs.YtpbiblhkcomekaaGreat
namespace Go.Proofs.YtpbiblhkcomekaaGreat
open Go Go.RowKit
set_option linter.unusedSimpArgs false
set_option linter.unusedVariables false
def N6 (R:List (Nat×Nat)) (t:Nat) (ρ ρ1:Nat→Option (Nat×Nat)):Prop:=(∀ b,b < t→ ∀ c,ρ b=some c→ρ1 b=some c)∧ ∀ p∈R,∀ c,ρ p.1=some c→ρ1 p.2=some c
def Qi (R:List (Nat×Nat)) (t:Nat) (v u:VV):Prop:= ∀ (w:World) (Z:Nat→Prop) (ρ ρ1:Nat→Option (Nat×Nat)) (y:Value),N6 R t ρ ρ1→Qf w Z ρ v y→Qf w Z ρ1 u y
section
variable {R:List (Nat×Nat)} {t:Nat}
theorem Qi.junk {v:VV}:Qi R t v .junk:=fun _ _ _ _ _ _ _=> .junk
theorem Qi.of {v:VV} (h:Qd v):Qi R t v v:=fun w Z ρ ρ1 y _ hv=>h w Z ρ ρ1 y hv
theorem Qi.sc {x:Value}:Qi R t (.sc x) (.sc x):= .of (Qb x)
theorem Qi.undef:Qi R t (.tp []) (.tp []):= .of (Qt (by simp))
theorem Qi.low {v:VV} (h:Qi [] t v v):Qi R t v v:=fun w Z ρ ρ1 y hl hv=>h w Z ρ ρ1 y ⟨hl.1,fun p hp=>by simp at hp⟩ hv
theorem Qi.ptr {b b' o:Nat} (h:(b,b')∈R):Qi R t (.ptr b o) (.ptr b' o):=fun w Z ρ ρ1 y hl hv=>by
 cases hv with
 | ptr h1=>exact .ptr (hl.2 _ h _ h1)
theorem Qi.ptrL {b o:Nat} (h:b < t):Qi R t (.ptr b o) (.ptr b o):=fun w Z ρ ρ1 y hl hv=>by
 cases hv with
 | ptr h1=>exact .ptr (hl.1 _ h _ h1)
theorem Qi.sl {b b' o n z:Nat} {c:Option Nat} (h:(b,b')∈R):Qi R t (.sl b o n c z) (.sl b' o n c z):=fun w Z ρ ρ1 y hl hv=>by
 cases hv with
 | sl h1 h2 h3 h4=>exact .sl (hl.2 _ h _ h1) h2 h3 h4
theorem Qi.slL {b o n z:Nat} {c:Option Nat} (h:b < t):Qi R t (.sl b o n c z) (.sl b o n c z):=fun w Z ρ ρ1 y hl hv=>by
 cases hv with
 | sl h1 h2 h3 h4=>exact .sl (hl.1 _ h _ h1) h2 h3 h4
theorem Qi.gs {b b' n z:Nat} (h:(b,b')∈R):Qi R t (.gs b n z) (.gs b' n z):=fun w Z ρ ρ1 y hl hv=>by
 cases hv with
 | gs0=>exact .gs0
 | gs h1 h2 h3 h4=>exact .gs (hl.2 _ h _ h1) h2 h3 h4
theorem Qi.gsE {b b' n n' z:Nat} (h:(b,b')∈R) (e:n=n'):Qi R t (.gs b n z) (.gs b' n' z):=by subst e;exact .gs h
theorem Qi.gsL {b n z:Nat} (h:b < t):Qi R t (.gs b n z) (.gs b n z):=fun w Z ρ ρ1 y hl hv=>by
 cases hv with
 | gs0=>exact .gs0
 | gs h1 h2 h3 h4=>exact .gs (hl.1 _ h _ h1) h2 h3 h4
theorem Qi.gsN {b z:Nat}:Qi R t (.sc (.slice none 0 0)) (.gs b 0 z):=fun w Z ρ ρ1 y hl hv=>by
 cases hv with
 | sc _=>exact .gs0
theorem Qi.gsS {b b' n n' z:Nat} (h:(b,b')∈R) (e:n=n') (h0:n≠0):Qi R t (.sl b 0 n none z) (.gs b' n' z):=fun w Z ρ ρ1 y hl hv=>by
 subst e
 cases hv with
 | sl h1 h2 h3 h4=>exact .gs (hl.2 _ h _ h1) h2 (by have:=h4 rfl;omega) h0
theorem Qi.gsZ {b b' z:Nat}:Qi R t (.sl b 0 0 (some 0) z) (.gs b' 0 z):=fun w Z ρ ρ1 y hl hv=>by
 cases hv with
 | sl h1 h2 h3 h4 =>
  have:=h3 0 rfl
  subst this
  exact .gs0
theorem Qi.yl {l l':Nat} (h:(l,l')∈R):Qi R t (.yl l) (.yl l'):=fun w Z ρ ρ1 y hl hv=>by
 cases hv with
 | yl h1=>exact .yl (hl.2 _ h _ h1)
theorem Qi.mp {l l':Nat} (h:(l,l')∈R):Qi R t (.mp l) (.mp l'):=fun w Z ρ ρ1 y hl hv=>by
 cases hv with
 | mp h1=>exact .mp (hl.2 _ h _ h1)
theorem Qi.mpL {l:Nat} (h:l < t):Qi R t (.mp l) (.mp l):=fun w Z ρ ρ1 y hl hv=>by
 cases hv with
 | mp h1=>exact .mp (hl.1 _ h _ h1)
theorem Qi.ylL {l:Nat} (h:l < t):Qi R t (.yl l) (.yl l):=fun w Z ρ ρ1 y hl hv=>by
 cases hv with
 | yl h1=>exact .yl (hl.1 _ h _ h1)
inductive Qe (R:List (Nat×Nat)) (t:Nat):List VV→List VV→Prop
 | nil:Qe R t [] []
 | cons {v u:VV} {r s:List VV} (h:Qi R t v u) (k:Qe R t r s):Qe R t (v::r) (u::s)
theorem Qe.of: ∀ {vs:List VV},(∀ v∈vs,Qd v)→Qe R t vs vs
 | [],_=> .nil
 | v::r,h=> .cons (.of (h v (by simp))) (Qe.of fun u hu=>h u (by simp [hu]))
theorem Qe.pw {w:World} {Z:Nat→Prop} {ρ ρ1:Nat→Option (Nat×Nat)} (hl:N6 R t ρ ρ1) {vs us:List VV} (h:Qe R t vs us): ∀ {cs:List Value},Pw (Qf w Z ρ) vs cs→Pw (Qf w Z ρ1) us cs:=by
 induction h with
 | nil=>intro cs hp;exact ⟨hp.1,fun i u c hu=>by simp at hu⟩
 | @cons v u r s hvu _ ih =>
  intro cs hp
  match cs,hp with
  | c::ct,hp =>
   have h0:=hp.2 0 v c rfl rfl
   have ht:Pw (Qf w Z ρ) r ct:=⟨by have:=hp.1;simpa using this,fun i u c hu hc=>hp.2 (i+1) u c (by simpa using hu) (by simpa using hc)⟩
   exact Pw.cons (hvu w Z ρ ρ1 c hl h0) (ih ht)
  | [],hp=>have:=hp.1;simp at this
theorem Qe.pre {w:World} {Z:Nat→Prop} {ρ ρ1:Nat→Option (Nat×Nat)} (hl:N6 R t ρ ρ1) {vs us:List VV} (h:Qe R t vs us): ∀ {cs:List Value},Pre (Qf w Z ρ) vs cs→Pre (Qf w Z ρ1) us cs:=by
 induction h with
 | nil=>intro cs hp i u hu;simp at hu
 | @cons v u r s hvu _ ih =>
  intro cs hp i x hx
  obtain ⟨c,hc,h0⟩:=hp 0 v rfl
  match cs,hc with
  | c'::ct,hc =>
   injection hc with hc
   subst hc
   cases i with
   | zero =>
    injection hx with hx
    subst hx
    exact ⟨_,rfl,hvu w Z ρ ρ1 _ hl h0⟩
   | succ i =>
    refine ih (cs:=ct) (fun j y hy=> ?_) i x hx
    obtain ⟨c2,h2,h3⟩:=hp (j+1) y hy
    exact ⟨c2,h2,h3⟩
theorem Qi.tp {vs us:List VV} (h:Qe R t vs us):Qi R t (.tp vs) (.tp us):=fun w Z ρ ρ1 y hl hv=>by
 cases hv with
 | @tp _ cs h1 r1=>exact .tp' (h.pw hl ⟨h1,r1⟩)
theorem Qi.ag {vs us:List VV} (h:Qe R t vs us):Qi R t (.ag vs) (.ag us):=fun w Z ρ ρ1 y hl hv=>by
 cases hv with
 | @ag _ cs h1 r1=>exact .ag' (h.pw hl ⟨h1,r1⟩)
theorem Qi.fn {f:Fn} {vs us vs' us':List VV} (h:Qe R t vs vs') (g:Qe R t us us'):Qi R t (.fn f vs us) (.fn f vs' us'):=fun w Z ρ ρ1 y hl hv=>by
 cases hv with
 | @fn _ _ _ cs ds h1 r1 h2 r2 =>
  have a:=h.pw hl ⟨h1,r1⟩
  have b:=g.pw hl ⟨h2,r2⟩
  exact .fn a.1 a.2 b.1 b.2
theorem Qi.rp {vs us:List VV} {o:Nat} (h:Qe R t vs us):Qi R t (.rp vs o) (.rp us o):=fun w Z ρ ρ1 y hl hv=>by
 cases hv with
 | rp hZ hlen hcell hrel =>
  have a:=h.pw hl ⟨hlen,hrel⟩
  exact .rp hZ a.1 hcell a.2
theorem Qi.ifc {ty:TypeId} {v u:VV} (h:Qi R t v u):Qi R t (.ifc ty v) (.ifc ty u):=fun w Z ρ ρ1 y hl hv=>by
 cases hv with
 | ifc h1=>exact .ifc (h _ _ _ _ _ hl h1)
inductive Jx (R:List (Nat×Nat)) (t:Nat):VObj→VObj→Prop
 | cells {rw:Bool} {vs us:List VV} (h:Qe R t vs us):Jx R t (.cells rw vs) (.cells rw us)
 | loop {vs us:List VV} {ps:List Tmp} {asg bd:Code} {st:LoopState} {pe:Option Code} {d d':Nat} (h:Qe R t vs us) (hd:(d < t∧d'=d)∨(d,d')∈R):Jx R t (.loop vs ps asg bd st pe d) (.loop us ps asg bd st pe d')
 | defs:Jx R t .defs .defs
 | opt {vs us:List VV} (h:Qe R t vs us):Jx R t (.opt vs) (.opt us)
 | toOpt {vs us:List VV} (h:Qe R t vs us):Jx R t (.cells true vs) (.opt us)
 | raw {ty:TypeId} {vs:List Value} {n:Option Nat}:Jx R t (.raw ty vs n) (.raw ty vs n)
 | map {ks:List Value} {vs us:List VV} (h:Qe R t vs us):Jx R t (.map ks vs) (.map ks us)
theorem Jx.orel {w:World} {Z:Nat→Prop} {ρ ρ1:Nat→Option (Nat×Nat)} (hl:N6 R t ρ ρ1) {x y:VObj} (h:Jx R t x y) {N:Nat} {o:Obj} (g:U6 w Z ρ N x o):U6 w Z ρ1 N y o:=by
 cases h with
 | cells h =>
  obtain ⟨cs,ty,fr,h0,h4,h2,h3⟩:=g
  exact ⟨cs,ty,fr,h0,h4,h.pre hl h2,h3⟩
 | opt h =>
  obtain ⟨cs,ty,fr,h0,h4,h2,h3⟩:=g
  exact ⟨cs,ty,fr,h0,h4,h.pre hl h2,h3⟩
 | toOpt h =>
  obtain ⟨cs,ty,fr,h0,h4,h2,h3⟩:=g
  exact ⟨cs,ty,fr,h0,h4,h.pre hl h2,h3⟩
 | loop h hd =>
  obtain ⟨fn,ts,D,h0,h1,N',h2⟩:=g
  refine ⟨fn,ts,D,h0,h.pw hl h1,N',?_⟩
  rcases hd with ⟨h5,rfl⟩|h5
  ·exact hl.1 _ h5 _ h2
  ·exact hl.2 _ h5 _ h2
 | defs=>exact g
 | raw=>exact g
 | map h =>
  obtain ⟨arr,cl,h0,h1,h2,h3⟩:=g
  exact ⟨arr,cl,h0,h1,h.pw hl h2,h3⟩
theorem Qe.len {vs us:List VV} (h:Qe R t vs us):vs.length=us.length:=by
 induction h with
 | nil=>rfl
 | cons _ _ ih=>simp [ih]
theorem Jx.ghost {x y:VObj} (h:Jx R t x y) (hx:x.ghost=true):y.ghost=true:=by
 cases h with
 | opt h=>cases h with
  | nil=>rfl
  | cons _ _=>cases hx
 | _=>cases hx
theorem Jx.rw {x y:VObj} (h:Jx R t x y):y.rw=x.rw:=by cases h <;> rfl
def srcN:List (Nat×Nat)→Nat→Option Nat
 | [],_=>none
 | (a,b)::r,x=>match Nat.beq b x with
  | true=>some a
  | false=>srcN r x
def Xb (R:List (Nat×Nat)) (t b:Nat):Option Nat:=match Nat.blt b t with
 | true=>some b
 | false=>srcN R b
def wfR (t n:Nat):List (Nat×Nat)→Bool
 | []=>true
 | (_,b)::r=>Nat.ble t b&&Nat.blt b n&&(srcN r b).isNone&&wfR t n r
inductive Et (R:List (Nat×Nat)) (t:Nat) (H:Heap):List (Nat×VObj)→List Nat→Prop
 | nil:Et R t H [] []
 | cons {b a:Nat} {x y:VObj} {r:List (Nat×VObj)} {l:List Nat} (h1:Xb R t b=some a) (h2:H.get a=some x) (h3:Jx R t x y) (k:Et R t H r l):Et R t H ((b,y)::r) (a::l)
 | ghost {b:Nat} {r:List (Nat×VObj)} {l:List Nat} (h1:Xb R t b=none) (k:Et R t H r l):Et R t H ((b,.opt [])::r) l
def nodupB:List Nat→Bool
 | []=>true
 | a::r=>(r.all fun b=> !Nat.beq a b)&&nodupB r
def FitR (R:List (Nat×Nat)) (t:Nat):List (Nat×VV)→List VV→Prop
 | [],_=>True
 | (k,v)::r,ts=>(∃ u,ts[k]? = some u∧Qi R t u v)∧FitR R t r ts
structure KeptR (t:Nat) (l:List (Nat×VV)) (n:Nat) (O:List (Nat×VObj)) (nx:Nat) (m:List Nat) (s:VSt):Prop where
 len:s.tmps.length=n
 marks:s.marks=m
 mlt:(m.all fun d=>Nat.blt d t)=true
 rest: ∃ (R:List (Nat×Nat)) (ks:List Nat),(wfR t nx R&&nodupB ks&&Nat.ble t nx&&O.all fun p=>Nat.blt p.1 nx)=true∧FitR R t l s.tmps∧Et R t s.heap O ks
theorem Qz {a b:Nat}:Nat.blt a b=true↔a < b:=by
 unfold Nat.blt
 exact ⟨fun h=>Nat.le_of_ble_eq_true h,fun h=>Nat.ble_eq_true_of_le h⟩
theorem Xr {a b:Nat}: ∀ {R:List (Nat×Nat)},srcN R b=some a→(a,b)∈R
 | [],h=>by simp [srcN] at h
 | (x,y)::r,h=>by
  unfold srcN at h
  rcases Jy y b with ⟨h1,e⟩|⟨h1,e⟩
  ·simp [h1] at h;subst h e;simp
  ·simp [h1] at h;exact List.mem_cons_of_mem _ (Xr h)
theorem Xe {n:Nat}: ∀ {R:List (Nat×Nat)},wfR t n R=true→ ∀ p∈R,t≤p.2∧p.2 < n∧srcN R p.2=some p.1
 | [],_,p,hp=>by simp at hp
 | (x,y)::r,h,p,hp=>by
  simp only [wfR,Bool.and_eq_true] at h
  obtain ⟨⟨⟨h1,h2⟩,h3⟩,h4⟩:=h
  have h1:=Nat.le_of_ble_eq_true h1
  have h2:y < n:=Qz.1 h2
  rcases List.mem_cons.1 hp with rfl|hp
  ·exact ⟨h1,h2,by simp [srcN,Nat.beq_refl]⟩
  ·obtain ⟨g1,g2,g3⟩:=Xe h4 p hp
   refine ⟨g1,g2,?_⟩
   unfold srcN
   rcases Jy y p.2 with ⟨q1,e⟩|⟨q1,e⟩
   ·rw [← e] at g3;rw [g3] at h3;simp at h3
   ·simp [q1,g3]
theorem Et.get {H:Heap} {O:List (Nat×VObj)} {ks:List Nat} (h:Et R t H O ks): ∀ {b:Nat} {y:VObj},hget O b=some y→(Xb R t b=none∧y.ghost=true∧(b,y)∈O)∨ ∃ a x,Xb R t b=some a∧H.get a=some x∧Jx R t x y∧a∈ks∧(b,y)∈O:=by
 induction h with
 | nil=>intro b y hy;simp [hget] at hy
 | @cons b a x y r l h1 h2 h3 _ ih =>
  intro b' y' hy
  rw [Qy] at hy
  split at hy
  ·rename_i e
   injection hy with hy
   subst e hy
   exact .inr ⟨a,x,h1,h2,h3,by simp,by simp⟩
  ·rcases ih hy with ⟨g1,g2,g3⟩|⟨a',x',g1,g2,g3,g4,g5⟩
   ·exact .inl ⟨g1,g2,List.mem_cons_of_mem _ g3⟩
   exact .inr ⟨a',x',g1,g2,g3,List.mem_cons_of_mem _ g4,List.mem_cons_of_mem _ g5⟩
 | @ghost b r l h1 _ ih =>
  intro b' y' hy
  rw [Qy] at hy
  split at hy
  ·rename_i e
   injection hy with hy
   subst e hy
   exact .inl ⟨h1,rfl,by simp⟩
  ·rcases ih hy with ⟨g1,g2,g3⟩|⟨a',x',g1,g2,g3,g4,g5⟩
   ·exact .inl ⟨g1,g2,List.mem_cons_of_mem _ g3⟩
   exact .inr ⟨a',x',g1,g2,g3,g4,List.mem_cons_of_mem _ g5⟩
theorem Et.getK {H:Heap} {O:List (Nat×VObj)} {ks:List Nat} (h:Et R t H O ks) {b c:Nat} {y:VObj} (hy:hget O b=some y) (hc:Xb R t b=some c): ∃ a x,Xb R t b=some a∧H.get a=some x∧Jx R t x y∧a∈ks∧(b,y)∈O:=by
 rcases h.get hy with ⟨g,_⟩|g
 ·rw [g] at hc;cases hc
 ·exact g
theorem Et.inj {H:Heap} {O:List (Nat×VObj)} {ks:List Nat} (h:Et R t H O ks):nodupB ks=true→ ∀ {b b' a:Nat} {y y':VObj},hget O b=some y→hget O b'=some y'→Xb R t b=some a→Xb R t b'=some a→b=b':=by
 induction h with
 | nil=>intro _ b b' a y y' hy;simp [hget] at hy
 | @cons b0 a0 x0 y0 r l h1 h2 h3 hr ih =>
  intro hn b b' a y y' hy hy' ha ha'
  simp only [nodupB,Bool.and_eq_true] at hn
  have out: ∀ {c:Nat} {z:VObj},Go.Proofs.YtpbiblhkcomekaaGreat.hget r c=some z→Xb R t c=some a0→False:=fun {c z} hz hc=>by
   obtain ⟨a',x',g1,g2,g3,g4,_⟩:=hr.getK hz hc
   rw [hc] at g1;injection g1 with g1;subst g1
   have:=List.all_eq_true.1 hn.1 _ g4
   simp [Nat.beq_refl] at this
  rw [Qy] at hy hy'
  split at hy
  ·rename_i e
   split at hy'
   ·rename_i e';exact e.symm.trans e'
   ·subst e
    rw [h1] at ha;injection ha with ha;subst ha
    exact (out hy' ha').elim
  ·split at hy'
   ·rename_i e'
    subst e'
    rw [h1] at ha';injection ha' with ha';subst ha'
    exact (out hy ha).elim
   ·exact ih hn.2 hy hy' ha ha'
 | @ghost b0 r l h1 hr ih =>
  intro hn b b' a y y' hy hy' ha ha'
  rw [Qy] at hy hy'
  split at hy
  ·rename_i e
   subst e
   rw [h1] at ha;cases ha
  ·split at hy'
   ·rename_i e'
    subst e'
    rw [h1] at ha';cases ha'
   ·exact ih hn hy hy' ha ha'
theorem Y0 {b:Nat} (h:b < t):Xb R t b=some b:=by
 have:Nat.blt b t=true:=Qz.2 h
 simp [Xb,this]
theorem Kw {b:Nat} (h:t≤b):Xb R t b=srcN R b:=by
 have:Nat.blt b t=false:=by
  cases hh:Nat.blt b t
  ·rfl
  ·have:b < t:=Qz.1 hh
   omega
 simp [Xb,this]
theorem lookR_cases: ∀ (l:List (Nat×VV)) (ts:List VV) (i:Nat),FitR R t l ts→lookT l i= .junk∨ ∃ u,ts[i]? = some u∧Qi R t u (lookT l i)
 | [],_,_,_=> .inl rfl
 | (k,v)::r,ts,i,h=>by
  simp only [lookT]
  split
  ·rename_i hk
   exact .inr (Nat.eq_of_beq_eq_true hk ▸ h.1)
  ·exact lookR_cases r ts i h.2
variable {P:Program}
theorem KeptR.sound {B w:World} {M Z:Nat→Prop} {ρ:Nat→Option (Nat×Nat)} {l:List (Nat×VV)} {n nx:Nat} {O:List (Nat×VObj)} {m:List Nat} {s:VSt} {a:Act} (h:KeptR t l n O nx m s) (hr:Rel B M Z ρ s.heap w) (ha:W2 w Z ρ s a) :
  ∃ ρ1,t≤nx∧(∀ b,b < t→ρ1 b=ρ b)∧Rel B M Z ρ1 ⟨O,nx⟩ w∧W2 w Z ρ1 ⟨Jj l n 0,⟨O,nx⟩,m⟩ a:=by
 obtain ⟨h1,h2,h3,R,ks,h4,h5,h6⟩:=h
 simp only [Bool.and_eq_true] at h4
 obtain ⟨⟨⟨k1,k2⟩,k3⟩,k4⟩:=h4
 have k3:=Nat.le_of_ble_eq_true k3
 refine ⟨fun b=>(Xb R t b).bind ρ,k3,fun b hb=>by simp only [Y0 hb,Option.bind_some],?_,?_⟩
 case refine_1 =>
  have hl:N6 R t ρ (fun b=>(Xb R t b).bind ρ):=⟨fun b hb c hc=>by simp only [Y0 hb,Option.bind_some];exact hc,fun p hp c hc=>by
   obtain ⟨g1,g2,g3⟩:=Xe k1 p hp
   simp only [Kw g1,g3,Option.bind_some]
   exact hc⟩
  refine ⟨hr.glob,hr.os,hr.tape,hr.output,hr.size,hr.frame,fun b hb=> ?_,fun b x hx=> ?_,?_,?_,hr.zlt⟩
  ·have hb:nx≤b:=hb
   show (Xb R t b).bind ρ=none
   rw [Kw (by omega)]
   cases hs:srcN R b with
   | none=>rfl
   | some a =>
    have:=(Xe k1 _ (Xr hs)).2.1
    simp only at this
    omega
  ·have g5:(b,x)∈O:=by
    rcases h6.get hx with ⟨_,_,g⟩|⟨a,x0,g1,g2,g3,g4,g5⟩
    ·exact g
    ·exact g5
   have:=List.all_eq_true.1 k4 _ g5
   exact Qz.1 this
  ·intro b b' k N N' x x' hx hx' hb hb'
   obtain ⟨c,hc,_⟩:=Option.bind_eq_some_iff.1 hb
   obtain ⟨c',hc',_⟩:=Option.bind_eq_some_iff.1 hb'
   obtain ⟨a,x0,g1,g2,g3,g4,_⟩:=h6.getK hx hc
   obtain ⟨a',x0',g1',g2',g3',g4',_⟩:=h6.getK hx' hc'
   simp only [g1,g1',Option.bind_some] at hb hb'
   have:=hr.inj a a' k N N' x0 x0' g2 g2' hb hb'
   subst this
   exact h6.inj k2 hx hx' g1 g1'
  ·intro b x hx
   rcases h6.get hx with ⟨g1,g2,_⟩|⟨a,x0,g1,g2,g3,g4,_⟩
   ·exact .inl ⟨g2,by simp only [g1,Option.bind_none]⟩
   rcases hr.obj a x0 g2 with ⟨q1,q2⟩|⟨k,N,o,q1,q2,q3,q4,q5⟩
   ·exact .inl ⟨g3.ghost q1,by simp only [g1,Option.bind_some];exact q2⟩
   exact .inr ⟨k,N,o,by simp only [g1,Option.bind_some];exact q1,q2,g3.orel hl q3,q4,fun h=>q5 (by rw [← g3.rw];exact h)⟩
 case refine_2 =>
  have hl:N6 R t ρ (fun b=>(Xb R t b).bind ρ):=⟨fun b hb c hc=>by simp only [Y0 hb,Option.bind_some];exact hc,fun p hp c hc=>by
   obtain ⟨g1,g2,g3⟩:=Xe k1 p hp
   simp only [Kw g1,g3,Option.bind_some]
   exact hc⟩
  refine ⟨⟨?_,?_⟩,?_⟩
  ·simp only [Z0]
   rw [← h1]
   exact ha.tmps.1
  ·intro i u x hu hx
   simp only [Wx] at hu
   split at hu
   ·simp at hu
    rcases lookR_cases l s.tmps i h5 with e|⟨v,hv,e⟩
    ·rw [← hu,e];exact .junk
    ·rw [← hu];exact e _ _ _ _ _ hl (ha.tmps.2 i v x hv hx)
   ·simp at hu
  ·have hm:=ha.marks
   rw [h2] at hm
   have key: ∀ (m:List Nat) (ds:List Deferred),(m.all fun d=>Nat.blt d t)=true→DRel ρ m ds→DRel (fun b=>(Xb R t b).bind ρ) m ds:=by
    intro m
    induction m with
    | nil=>intro ds _ h;cases ds <;> exact h
    | cons d r ih =>
     intro ds hlt h
     cases ds with
     | nil=>exact h
     | cons x s =>
      simp only [List.all_cons,Bool.and_eq_true] at hlt
      obtain ⟨⟨D,N,e1,e2⟩,e3⟩:=h
      exact ⟨⟨D,N,hl.1 d (Qz.1 hlt.1) _ e1,e2⟩,ih _ hlt.2 e3⟩
   exact key _ _ h3 hm
end
end Go.Proofs.YtpbiblhkcomekaaGreat
namespace Go.Proofs.YtpbiblhkcomekaaGreat
open Go Go.RowKit
set_option linter.unusedSimpArgs false
set_option linter.unusedVariables false
theorem GWP.range0 {P:Program} {Q:Exit→VSt→Prop} {s:VSt} {g:Operand} {ps:Array Tmp} {asg bd:Code} {gf:FuncId} {capt:List VV} (hg:Qh s.tmps g= .fn (.func gf) [] capt) (he:Uj P gf=true)
  (h:Qc P gf (.yl (s.heap.next+1)::capt) ((s.heap.add .defs).add (.loop s.tmps ps.toList asg bd .ready none s.heap.next)) (fun _ H'=>rangeQ (s.heap.next+1) Q ⟨s.tmps,s.heap,s.heap.next::s.marks⟩ H')):GWP P none (.rangeFunc g ps asg bd) Q s:=⟨VWP.range0 hg (Zm he) h⟩
theorem GWP.rangeIn {P:Program} {Q:Exit→VSt→Prop} {s:VSt} {g:Operand} {ps:Array Tmp} {asg bd asg0 bd0:Code} {gf:FuncId} {capt ts0:List VV} {l0 d0:Nat} {ps0:List Tmp} {st0:LoopState} {pe0:Option Code} (hg:Qh s.tmps g= .fn (.func gf) [] capt) (he:Uj P gf=true)
  (hl0:s.heap.get l0=some (.loop ts0 ps0 asg0 bd0 st0 pe0 d0))
  (h:Qc P gf (.yl s.heap.next::capt) (s.heap.add (.loop s.tmps ps.toList asg bd .ready none d0)) (fun _ H'=>rangeQ s.heap.next Q s H')):GWP P (some l0) (.rangeFunc g ps asg bd) Q s:=⟨VWP.rangeIn hg (Zm he) hl0 h⟩
def roundG (l:Nat) (R:VV→Heap→Prop):Exit→VSt→Prop:=fun e s=>match pendOf e with
 | some p=>match s.heap.get l with
  | some (.loop tmps ps asg bd .busy pe d)=>match s.marks with
   | []=>R (.sc (.bool p.isNone)) (s.heap.set l (.loop tmps ps asg bd (match p.isNone with|true=> .ready|false=> .done) p d))
   | _=>False
  | _=>False
 | none=>False
theorem roundG_Q {l:Nat} {R:VV→Heap→Prop} {e:Exit} {s:VSt} (h:roundG l R e s):roundQ l R e s:=by
 unfold roundG at h
 split at h
 ·rename_i p hp
  split at h
  ·rename_i tmps ps asg bd pe d hl
   split at h
   ·rename_i hm
    refine ⟨p,tmps,ps,asg,bd,pe,d,hp,hl,hm,?_⟩
    cases p <;> exact h
   ·exact h.elim
  ·exact h.elim
 ·exact h.elim
def asgG (P:Program) (l:Nat) (bd:Code) (R:VV→Heap→Prop):Exit→VSt→Prop:=fun e s=>match e,s.marks with
 | .normal,[]=>match s.heap.get l with
  | some (.loop tmps ps asg bd2 .ready pe d)=>match s with
   | ⟨ts,H,_⟩=>Nx P (some l) bd (roundG l R) ⟨ts,H.set l (.loop tmps ps asg bd2 .busy pe d),[]⟩
  | _=>False
 | _,_=>False
theorem J9.go {P:Program} {l:Nat} {args tmps:List VV} {ps:List Tmp} {asg bd:Code} {pe:Option Code} {d:Nat} {H:Heap} {R:VV→Heap→Prop} (hl:H.get l=some (.loop tmps ps asg bd .ready pe d)) (hn:args.length=ps.length)
  (h:forceT (setParams tmps ps args) fun ts=>Nx P (some l) asg (asgG P l bd R) ⟨ts,H,[]⟩):J9 P l args H R:=by
 rw [Wj] at h
 refine J9.of hl hn ((Y8 h).mono fun e s1 q=> ?_)
 unfold asgG at q
 split at q
 ·rename_i hm
  split at q
  ·rename_i tmps2 ps2 asg2 bd2 pe2 d2 hl2
   obtain ⟨ts,H2,m⟩:=s1
   dsimp only at q hm hl2
   exact ⟨rfl,hm,tmps2,ps2,asg2,bd2,pe2,d2,hl2,(Y8 q).mono fun _ _ q=>roundG_Q q⟩
  ·exact q.elim
 ·exact q.elim
theorem Qc.post {P:Program} {f:FuncId} {args:List VV} {H:Heap} {Q Q':VV→Heap→Prop} (h:Qc P f args H Q)
  (hq: ∀ v K,Q v K→ ∃ u K',Q' u K'∧(∀ w Z ρ y,Qf w Z ρ v y→Qf w Z ρ u y)∧K.next≤K'.next∧ ∀ b x,K'.get b=some x→K.get b=some x):Qc P f args H Q':=fun B M Z ρ w ra h1 h2 =>
 (h B M Z ρ w ra h1 h2).mono fun e w' ⟨v',v,K,Z',ρ',he,q,e1,r1,v1⟩=>by
  obtain ⟨u,K',q1,q2,q3,q4⟩:=hq v K q
  exact ⟨v',u,K',Z',ρ',he,q1,⟨Nat.le_trans e1.nle q3,e1.rold,e1.zsub,e1.rsub,e1.keep,e1.size,e1.znew⟩,
   ⟨r1.glob,r1.os,r1.tape,r1.output,r1.size,r1.frame,fun b hb=>r1.dom b (Nat.le_trans q3 hb),fun b x hx=>Nat.lt_of_lt_of_le (r1.live b x (q4 b x hx)) q3,fun b b' k N N' x x' hx hx'=>r1.inj b b' k N N' x x' (q4 _ _ hx) (q4 _ _ hx'),fun b x hx=>r1.obj b x (q4 _ _ hx),r1.zlt⟩,q2 _ _ _ _ v1⟩
def bodyI (P:Program) (fn:Func) (R:VV→Heap→Prop):Exit→VSt→Prop:=fun e s=>match e with
 | .normal=>match vleave s.marks s.heap with
  | some H'=>match K8 P fn s.tmps H' with
   | some v=>R v H'
   | none=>False
  | none=>False
 | .ret=>match vleave s.marks s.heap with
  | some H'=>match K8 P fn s.tmps H' with
   | some v=>R v H'
   | none=>False
  | none=>False
 | _=>False
theorem Qc.inl {P:Program} {f:FuncId} {fn:Func} {c:Code} {args:List VV} {H:Heap} {R:VV→Heap→Prop} (hf:P.funcs[f]? = some fn) (hb:fn.body=some c)
  (h:forceT (args++List.replicate (fn.ntmps - args.length) (.tp [])) fun ts=>Nx P none c (bodyI P fn R) ⟨ts,H,[]⟩):Qc P f args H R:=by
 rw [Wj] at h
 refine Qc.body hf hb ((Y8 h).mono fun e s q=>bodyG_Q ?_)
 have key: ∀ (o:Option Heap) (g:Heap→Option VV),(match o with|some H'=>(match g H' with|some v=>R v H'|none=>False)|none=>False)→(match o with|some H'=>(match g H' with|some v=>Done (R v H')|none=>False)|none=>False):=by
  intro o g h
  cases o with
  | none=>exact h
  | some H' =>
   simp only at h ⊢
   generalize g H'=x at h ⊢
   cases x with
   | none=>exact h
   | some v=>exact ⟨h⟩
 cases e with
 | normal=>exact key _ _ q
 | ret=>exact key _ _ q
 | _=>exact q
theorem Qc.live {P:Program} {f:FuncId} {args:List VV} {H:Heap} {Q:VV→Heap→Prop} (h:(∀ b x,H.get b=some x→b < H.next)→Qc P f args H Q):Qc P f args H Q:=fun B M Z ρ w ra h1 h2=>h h1.live B M Z ρ w ra h1 h2
theorem weak_sl0 {b o z:Nat} {c:Option Nat} {w:World} {Z:Nat→Prop} {ρ:Nat→Option (Nat×Nat)} {y:Value} (h:Qf w Z ρ (.sl b o 0 c z) y):Qf w Z ρ (.ro 0 []) y:=by
 cases h;exact .ro0
theorem U8.pre {K:Heap} {B w:World} {Z:Nat→Prop} {ρ ρ2:Nat→Option (Nat×Nat)} (hr:Rel B (fun _=>False) Z ρ K w) {vs us:List VV} (h:U8 K vs us): ∀ {cs:List Value},Pw (Qf w Z ρ) vs cs→Pw (Qf w (fun k=>Z k∨(B.heap.size≤k∧k < w.heap.size)) ρ2) us cs:=by
 induction h with
 | nil=>intro cs hp;exact ⟨hp.1,fun i u c hu=>by simp at hu⟩
 | @cons v u r s hvu _ ih =>
  intro cs hp
  match cs,hp with
  | c::ct,hp =>
   have h0:=hp.2 0 v c rfl rfl
   have ht:Pw (Qf w Z ρ) r ct:=⟨by have:=hp.1;simpa using this,fun i u c hu hc=>hp.2 (i+1) u c (by simpa using hu) (by simpa using hc)⟩
   exact Pw.cons (hvu B w Z ρ ρ2 c hr h0) (ih ht)
  | [],hp=>have:=hp.1;simp at this
theorem Frz.ptr {K:Heap} {b o:Nat} {vs us:List VV} (hg:K.get b=some (.cells true vs)) (h:U8 K vs us):Frz K (.ptr b o) (.rp us o):=fun B w Z ρ ρ2 y hr hv=>by
 cases hv with
 | ptr hk =>
  obtain ⟨ds,g1,g2,g3⟩:=hr.read hg hk 0 vs.length (by omega)
  rw [List.drop_zero,List.take_of_length_le (Nat.le_refl _)] at g1
  obtain ⟨k',N',x,q1,q2,q3,q4,q5⟩:=hr.objC hg rfl
  rw [hk] at q1
  injection q1 with q1
  injection q1 with q1 q1'
  subst q1 q1'
  have hnew:=(q5 rfl).resolve_right id
  have hlt:=hr.lt hg hk
  have hp:=h.pre (ρ2:=ρ2) hr g1
  have key:=Qf.rp (w:=w) (Z:=fun k=>Z k∨(B.heap.size≤k∧k < w.heap.size)) (ρ:=ρ2) (o:=0) (o':=o) (vs:=us) (cs:=ds) (.inr ⟨hnew,hlt⟩) hp.1 (fun i hi=>by
   have:=g3 i (ds[i]'hi) (List.getElem?_eq_getElem hi)
   rw [J6] at this
   rw [this,List.getElem?_eq_getElem hi]) hp.2
  rw [Nat.zero_add] at key
  exact key
theorem Frz.slL {K:Heap} {b o n z:Nat} {c:Option Nat} {vs us:List VV} (hg:K.get b=some (.cells true vs)) (hl:o+n*z≤vs.length) (h:U8 K ((vs.drop o).take (n*z)) us):Frz K (.sl b o n c z) (.ro n us):=fun B w Z ρ ρ2 y hr hv=>by
 cases hv with
 | sl hk hcap hc hzz =>
  obtain ⟨ds,g1,g2,g3⟩:=hr.read hg hk o (n*z) hl
  obtain ⟨k',N',x,q1,q2,q3,q4,q5⟩:=hr.objC hg rfl
  rw [hk] at q1
  injection q1 with q1
  injection q1 with q1 q1'
  subst q1 q1'
  have hnew:=(q5 rfl).resolve_right id
  have hlt:=hr.lt hg hk
  have hp:=h.pre (ρ2:=ρ2) hr g1
  exact .ro (cs:=ds) (.inr ⟨hnew,hlt⟩) hcap hp.1 (fun i hi=>by
   have:=g3 i (ds[i]'hi) (List.getElem?_eq_getElem hi)
   rw [J6] at this
   rw [this,List.getElem?_eq_getElem hi]) hp.2
theorem Frz.fn {K:Heap} {f:Fn} {vs us vs' us':List VV} (h:U8 K vs vs') (g:U8 K us us'):Frz K (.fn f vs us) (.fn f vs' us'):=fun B w Z ρ ρ2 y hr hv=>by
 cases hv with
 | @fn _ _ _ cs ds h1 r1 h2 r2 =>
  have a:=h.pre (ρ2:=ρ2) hr ⟨h1,r1⟩
  have b:=g.pre (ρ2:=ρ2) hr ⟨h2,r2⟩
  exact .fn a.1 a.2 b.1 b.2
theorem U8.of {K:Heap}: ∀ {vs:List VV},(∀ v∈vs,Qd v)→U8 K vs vs
 | [],_=> .nil
 | v::r,h=> .cons (.of (h v (by simp))) (U8.of fun u hu=>h u (by simp [hu]))
theorem Jz {vs:List VV} (h: ∀ v∈vs,Qd v):Qd (.ag vs):=fun w Z ρ ρ' y hr=>by
 cases hr with
 | ag h1 r1=>exact .ag h1 fun i u c hu hc=>h u (List.mem_of_getElem? hu) _ _ _ _ _ (r1 i u c hu hc)
theorem Qj (l:List UInt8):Qd (Qn l):=Qb _
def roS (l:List (List UInt8)):VV:= .ro l.length (l.map Qn)
theorem Jf {α:Type} {f:α→VV} (h: ∀ a,Qd (f a)) (l:List α): ∀ v∈l.map f,Qd v:=fun v hv=>by
 obtain ⟨a,_,rfl⟩:=List.mem_map.1 hv
 exact h a
theorem nameless_roS (l:List (List UInt8)):Qd (roS l):=Qx (Jf Qj l)
structure B2 (P:Program) (sT:TypeId) (z bytes:Nat):Prop where
 out: ∃ e i zl,P.underlying sT=some (.slice e)∧P.info? e=some i∧i.size=z∧i.bytes=bytes∧Kj P e=some zl∧zl.length=z
theorem vapp_zero {P:Program} {sT xT:TypeId} {z bytes:Nat} (h:B2 P sT z bytes) {d:TypeDesc} (hx:P.underlying xT=some d) (hd: ∀ k,d≠ .int k) {s x:VV} {H:Heap} (hs:(∃ b n c z',s= .sl b 0 n c z')∨(∃ b o n c z',s= .sl b o n (some c) z')∨s= .sc (.slice none 0 0)) (hl:Jv z x H=some (0,[])):Kt P sT xT s x H=some (s,H):=by
 obtain ⟨e,i,zl,h1,h2,h3,h4,h5,h6⟩:=h
 subst h3
 have hb:Nat.beq zl.length i.size=true:=by rw [h6];exact Nat.beq_refl _
 simp only [Kt,h1,h2,h5,hl,hx,hb,List.all_nil,Bool.and_self]
 cases d with
 | int k=>exact absurd rfl (hd k)
 | _ =>
  rcases hs with ⟨b,n,c,z',rfl⟩|⟨b,o,n,c,z',rfl⟩|rfl <;> (try cases c) <;> simp [Kv]
theorem Um {P:Program} {sT xT:TypeId} {z bytes:Nat} (h:B2 P sT z bytes) {d:TypeDesc} (hx:P.underlying xT=some d) (hd: ∀ k,d≠ .int k) {x:VV} {H:Heap} {m b o n c z':Nat} {rw:Bool} {l vs:List VV} (hl:Jv z x H=some (m,l)) (h1:l.all VV.one=true) (hg:H.get b=some (.cells rw vs)) (hc:c < n+m) (hn:n≤c) (hv:o+n*z≤vs.length) (hb:(n+m)*bytes≤140737488355328) (hm2:n+m≤4611686018427387904) :
  Kt P sT xT (.sl b o n (some c) z') x H=some (.sl H.next 0 (n+m) none z,H.add (.cells true ((vs.drop o).take (n*z)++l))):=by
 obtain ⟨e,i,zl,g1,g2,g3,g4,g5,g6⟩:=h
 subst g3 g4
 have hbq:Nat.beq zl.length i.size=true:=by rw [g6];exact Nat.beq_refl _
 simp only [Kt,g1,g2,g5,hl,hx,hbq,h1,Bool.and_self]
 cases d with
 | int k=>exact absurd rfl (hd k)
 | _=>simp only [Kv,if_neg (show ¬ m=0 by omega),hg,if_neg (show ¬ n+m≤c by omega),if_pos (And.intro hv (And.intro hb hm2))]
theorem vapp_grow {P:Program} {sT xT:TypeId} {z bytes:Nat} (h:B2 P sT z bytes) {d:TypeDesc} (hx:P.underlying xT=some d) (hd: ∀ k,d≠ .int k) {x:VV} {H:Heap} {m b n:Nat} {l vs:List VV} (hl:Jv z x H=some (m,l)) (h1:l.all VV.one=true) (hm: ¬ m=0) (hg:H.get b=some (.cells true vs)) (hv:n*z≤vs.length) (hb:(n+m)*bytes≤140737488355328) (hm2:n+m≤4611686018427387904) :
  Kt P sT xT (.sl b 0 n none z) x H=some (.sl H.next 0 (n+m) none z,(H.del b).add (.cells true (vs.take (n*z)++l))):=by
 obtain ⟨e,i,zl,g1,g2,g3,g4,g5,g6⟩:=h
 subst g3 g4
 have hbq:Nat.beq zl.length i.size=true:=by rw [g6];exact Nat.beq_refl _
 simp only [Kt,g1,g2,g5,hl,hx,hbq,h1,Bool.and_self]
 cases d with
 | int k=>exact absurd rfl (hd k)
 | _=>simp only [Kv,if_neg hm,hg,if_pos (And.intro trivial (And.intro hv (And.intro hb hm2))),true_and];simp [hv,hb,hm2]
theorem C3 {P:Program} {o:Oper} {ts:List VV} {H:Heap} {r:VV×Heap} {s x:Operand} {sT xT:TypeId} (ho:o.op= .call ⟨.builtin .append,#[s,x],#[sT,xT]⟩) (h:Kt P sT xT (Qh ts s) (Qh ts x) H=some r):vop P o ts H=some r:=by
 simp only [vop,ho,h]
theorem Q3.does {P:Program} {o:Oper} {ts:List VV} {H H':Heap} {v:VV} (hnd: ∀ c,o.op≠ .defer c)
  (h: ∀ (B:World) (M Z:Nat→Prop) (ρ:Nat→Option (Nat×Nat)) (av:Operand→Value) (w:World),Rel B M Z ρ H w→(∀ x,Qf w Z ρ (Qh ts x) (av x))→ ∃ v' w' ρ',(execOp av o).run P w= .ok (.value v') w'∧Ext (own B M) H.next Z ρ w H'.next Z ρ' w'∧Rel B M Z ρ' H' w'∧Qf w' Z ρ' v v'):Q3 P o ts H (fun x K=>x=v∧K=H'):=fun B M Z ρ a w rr K QE h1 h2 h3=>by
 refine ⟨fun f _=>B3 _ f,?_⟩
 rw [Oper.semAt_eq _ _ _ hnd]
 obtain ⟨v',w',ρ',hr,e1,r1,hv⟩:=h B M Z ρ a.eval w h1 (fun x=>J2 h2 x)
 rw [hr]
 exact h3 v' v H' Z ρ' w' ⟨rfl,rfl⟩ e1 r1 hv
theorem Qr.grow {P:Program} {o:Oper} {ts:List VV} {H:Heap} {K:VV→Heap→Prop} {s x:Operand} {sT xT:TypeId} {z bytes b n m:Nat} {d:TypeDesc} {l vs:List VV} (ho:o.op= .call ⟨.builtin .append,#[s,x],#[sT,xT]⟩) (h:B2 P sT z bytes) (hx:P.underlying xT=some d) (hd: ∀ k,d≠ .int k) (hs:Qh ts s= .gs b n z) (hl:Jv z (Qh ts x) H=some (m,l)) (h1:l.all VV.one=true)
  (hg:H.get b=some (.opt vs)) (hv:vs.length=n*z) (hb:(n+m)*bytes≤140737488355328) (hm2:n+m≤4611686018427387904) (k:K (.gs H.next (n+m) z) ((H.del b).add (.opt (vs++l)))):Qr P o ts H K:=⟨⟨by
 obtain ⟨e,i,zl,g1,g2,g3,g4,g5,g6⟩:=h
 subst g3 g4
 refine (Q3.does (v:= .gs H.next (n+m) i.size) (H':=(H.del b).add (.opt (vs++l))) (fun c e=>by simp [ho] at e) fun B M Z ρ av w hr hav=> ?_).mono fun x K' e=>by rw [e.1,e.2];exact k
 obtain ⟨v',w',ρ',q1,q2,q3,q4⟩:=Bf (ty:=o.type) hr g1 g2 g5 hl g6 h1 hx hd (hs ▸ hav s) (hav x) hg hv hb hm2
 exact ⟨v',w',ρ',by simp [execOp,ho,resolve,invoke,builtin,q1],q2,q3,q4⟩⟩⟩
theorem del_set (H:Heap) (b:Nat) (x:VObj):(H.set b x).del b=H.del b:=by
 show Heap.mk _ _=Heap.mk _ _
 rw [show (H.set b x).objs=hset H.objs b x from rfl,hdel_set]
 rfl
theorem Qr.growS {P:Program} {o:Oper} {ts:List VV} {H:Heap} {K:VV→Heap→Prop} {s x:Operand} {sT xT:TypeId} {z bytes b n m:Nat} {d:TypeDesc} {l vs:List VV} (ho:o.op= .call ⟨.builtin .append,#[s,x],#[sT,xT]⟩) (h:B2 P sT z bytes) (hx:P.underlying xT=some d) (hd: ∀ k,d≠ .int k) (hs:Qh ts s= .sl b 0 n (some n) z) (hl:Jv z (Qh ts x) (H.set b (.opt vs))=some (m,l)) (h1:l.all VV.one=true)
  (hg:H.get b=some (.cells true vs)) (hv:vs.length=n*z) (hb:(n+m)*bytes≤140737488355328) (hm2:n+m≤4611686018427387904) (k:K (.gs H.next (n+m) z) ((H.del b).add (.opt (vs++l)))):Qr P o ts H K:=⟨⟨by
 obtain ⟨e,i,zl,g1,g2,g3,g4,g5,g6⟩:=h
 subst g3 g4
 refine (Q3.does (v:= .gs H.next (n+m) i.size) (H':=(H.del b).add (.opt (vs++l))) (fun c e=>by simp [ho] at e) fun B M Z ρ av w hr hav=> ?_).mono fun x K' e=>by rw [e.1,e.2];exact k
 obtain ⟨r2,s2⟩:=gs_of_full hr (hs ▸ hav s) hg hv
 obtain ⟨v',w',ρ',q1,q2,q3,q4⟩:=Bf (ty:=o.type) r2 g1 g2 g5 hl g6 h1 hx hd s2 (hav x) (by rw [Heap.get_set,if_pos rfl,hg];rfl) hv hb hm2
 rw [del_set] at q2 q3
 exact ⟨v',w',ρ',by simp [execOp,ho,resolve,invoke,builtin,q1],q2,q3,q4⟩⟩⟩
theorem Qr.grow0 {P:Program} {o:Oper} {ts:List VV} {H:Heap} {K:VV→Heap→Prop} {s x:Operand} {sT xT:TypeId} {z bytes m:Nat} {d:TypeDesc} {l:List VV} (ho:o.op= .call ⟨.builtin .append,#[s,x],#[sT,xT]⟩) (h:B2 P sT z bytes) (hx:P.underlying xT=some d) (hd: ∀ k,d≠ .int k) (hs:Qh ts s= .sc (.slice none 0 0)∨ ∃ b,Qh ts s= .sl b 0 0 (some 0) z) (hl: ∀ y,Jv z (Qh ts x) (H.add y)=some (m,l)) (h1:l.all VV.one=true)
  (hb:m*bytes≤140737488355328) (hm2:m≤4611686018427387904) (k:K (.gs (H.next+1) m z) ⟨(H.next+1,.opt l)::H.objs,H.next+2⟩):Qr P o ts H K:=⟨⟨by
 obtain ⟨e,i,zl,g1,g2,g3,g4,g5,g6⟩:=h
 subst g3 g4
 refine Q3.mono (R:=fun x K'=>x= .gs (H.next+1) m i.size∧K'=⟨(H.next+1,.opt l)::H.objs,H.next+2⟩) (fun B M Z ρ a w rr K QE r1 r2 r3=> ?_) fun x K' e=>by rw [e.1,e.2];exact k
 have hnd: ∀ c,o.op≠ .defer c:=fun c e=>by simp [ho] at e
 refine ⟨fun f _=>B3 _ f,?_⟩
 rw [Oper.semAt_eq _ _ _ hnd]
 have hav:=fun x=>J2 r2 x
 have hs':Qf w Z ρ (.gs H.next 0 i.size) (a.eval s):=by
  have:=hav s
  rcases hs with hs|⟨b,hs⟩
  ·rw [hs] at this
   rw [Jo this]
   exact .gs0
  ·rw [hs] at this
   generalize hy:a.eval s=y at this
   cases this with
   | sl h1 h2 h3 h4 =>
    have:=h3 0 rfl
    subst this
    exact .gs0
 have hlive: ∀ c x,hget H.objs c=some x→c≠H.next:=fun c x hx e=>by
  have:=r1.live c x hx
  omega
 obtain ⟨v',w',ρ',q1,q2,q3,q4⟩:=Bf (ty:=o.type) r1.addGhost g1 g2 g5 (hl _) g6 h1 hx hd hs' (hav x) (by rw [Heap.get_add];exact if_pos rfl) (by simp) (by rw [Nat.zero_add];exact hb) (by omega)
 have hr:(execOp a.eval o).run P w= .ok (.value v') w':=by simp [execOp,ho,resolve,invoke,builtin,q1]
 rw [hr]
 rw [Nat.zero_add] at q4
 refine r3 v' _ _ Z ρ' w' ⟨rfl,rfl⟩ ⟨Nat.le_trans (Nat.le_succ _) q2.nle,fun b hb=>q2.rold b (Nat.lt_succ_of_lt hb),q2.zsub,q2.rsub,q2.keep,q2.size,q2.znew⟩ (q3.weaken rfl fun b x hx=> ?_) q4
 simp only [Heap.get,Qy] at hx
 rw [Heap.get_add,Heap.get_del]
 show (if H.next+1=b then _ else _)=_
 split at hx
 ·rename_i e
  rw [if_pos e,← hx]
  rfl
 ·rename_i e
  have hne:=hlive b x hx
  rw [if_neg e,if_neg (fun q=>hne q.symm),Heap.get_add,if_neg (fun q=>hne q.symm)]
  exact hx⟩⟩
theorem Qf.gsRo {H:Heap} {B w:World} {M Z Z2:Nat→Prop} {ρ ρ2:Nat→Option (Nat×Nat)} {b n z:Nat} {vs:List VV} {y:Value} (hr:Rel B M Z ρ H w) (hg:H.get b=some (.opt vs)) (hl:vs.length=n*z) (hv:Qf w Z ρ (.gs b n z) y) (hz: ∀ k N,ρ b=some (k,N)→Z2 k) (hn: ∀ v∈vs,∀ y,Qf w Z ρ v y→Qf w Z2 ρ2 v y):Qf w Z2 ρ2 (.ro n vs) y:=by
 cases hv with
 | gs0 =>
  obtain rfl:vs= []:=List.eq_nil_of_length_eq_zero (by simpa using hl)
  exact .ro0
 | gs hk hcap hzz h0 =>
  have hb2:(H.set b (.cells true vs)).get b=some (.cells true vs):=by rw [Heap.get_set,if_pos rfl,hg];rfl
  obtain ⟨ds,g1,g2,g3⟩:=(hr.toCells hg hk).read hb2 hk 0 vs.length (by omega)
  rw [List.drop_zero,List.take_of_length_le (Nat.le_refl _)] at g1
  refine .ro (cs:=ds) (hz _ _ hk) hcap g1.1 (fun i hi=> ?_) (fun i u c2 hu hc2=> ?_)
  ·have:=g3 i (ds[i]'hi) (List.getElem?_eq_getElem hi)
   rw [J6] at this
   rw [this,List.getElem?_eq_getElem hi]
  ·exact hn u (List.mem_of_getElem? hu) _ (g1.2 i u c2 hu hc2)
theorem Frz.gs {K:Heap} {b n z:Nat} {vs:List VV} (hg:K.get b=some (.opt vs)) (hl:vs.length=n*z) (hn: ∀ v∈vs,Qd v):Frz K (.gs b n z) (.ro n vs):=fun B w Z ρ ρ2 y hr hv =>
 Qf.gsRo hr hg hl hv (fun k N hk=>by
  obtain ⟨k',N',x,q1,q2,q3,q4,q5⟩:=hr.objK hg hk
  rw [hk] at q1;injection q1 with q1;injection q1 with q1 q1';subst q1
  exact .inr ⟨(q5 rfl).resolve_right id,hr.lt hg hk⟩) (fun v hv y h=>(hn v hv _ _ _ _ _ h).zmono fun _ h=> .inl h)
theorem Frx.gs {K:Heap} {b n z:Nat} {vs:List VV} (hg:K.get b=some (.opt vs)) (hl:vs.length=n*z) (hn: ∀ v∈vs,Exact v):Frx K (.gs b n z) (.ro n vs):=fun B w Z ρ ρ2 y hr hv =>
 Qf.gsRo hr hg hl hv (fun k N hk=>by
  obtain ⟨k',N',x,q1,q2,q3,q4,q5⟩:=hr.objK hg hk
  rw [hk] at q1;injection q1 with q1;injection q1 with q1 q1';subst q1
  exact ⟨(q5 rfl).resolve_right id,hr.lt hg hk⟩) (fun v hv y h=>hn v hv _ _ _ _ _ _ _ h)
theorem Cq.gs {H:Heap} {b n z:Nat} {vs:List VV} (hg:H.get b=some (.opt vs)) (hl:vs.length=n*z) (hn: ∀ v∈vs,Qd v):Cq H (.gs b n z) (.ro n vs):=fun B w M Z ρ y hr hv =>
 Qf.gsRo hr hg hl hv (fun k N hk=>hr.lt hg hk) (fun v hv y h=>(hn v hv _ _ _ _ _ h).zmono hr.zlt)
theorem Frz.gsL {K:Heap} {b n z:Nat} {vs us:List VV} (hg:K.get b=some (.opt vs)) (hl:vs.length=n*z) (h:U8 K vs us):Frz K (.gs b n z) (.ro n us):=fun B w Z ρ ρ2 y hr hv=>by
 cases hv with
 | gs0 =>
  obtain rfl:vs= []:=List.eq_nil_of_length_eq_zero (by simpa using hl)
  cases h
  exact .ro0
 | gs hk hcap hzz h0 =>
  have hb2:(K.set b (.cells true vs)).get b=some (.cells true vs):=by rw [Heap.get_set,if_pos rfl,hg];rfl
  obtain ⟨ds,g1,g2,g3⟩:=(hr.toCells hg hk).read hb2 hk 0 vs.length (by omega)
  rw [List.drop_zero,List.take_of_length_le (Nat.le_refl _)] at g1
  obtain ⟨k',N',x,q1,q2,q3,q4,q5⟩:=hr.objK hg hk
  rw [hk] at q1
  injection q1 with q1
  injection q1 with q1 q1'
  subst q1 q1'
  have hnew:=(q5 rfl).resolve_right id
  have hlt:=hr.lt hg hk
  have hp:=h.pre (ρ2:=ρ2) hr g1
  exact .ro (cs:=ds) (.inr ⟨hnew,hlt⟩) hcap hp.1 (fun i hi=>by
   have:=g3 i (ds[i]'hi) (List.getElem?_eq_getElem hi)
   rw [J6] at this
   rw [this,List.getElem?_eq_getElem hi]) hp.2
theorem Qc.pure {P:Program} {f:FuncId} {args:List VV} {H:Heap} {u:VV} (ha: ∀ v∈args,Qd v) (hu:Qd u) (h:Qc P f args ⟨[],0⟩ (fun v _=>v=u)):Qc P f args H (fun v K=>v=u∧K=H) :=
 Qc.frozen ha h (fun v K e=>by subst e;exact Frz.of hu)
theorem U6.zmono {w:World} {Z Z':Nat→Prop} {ρ:Nat→Option (Nat×Nat)} {N:Nat} {x:VObj} {o:Obj} (h:U6 w Z ρ N x o) (hz: ∀ k,Z k→Z' k):U6 w Z' ρ N x o:=by
 cases x with
 | cells rw vs =>
  obtain ⟨cs,t,fr,h0,h4,h2,h3⟩:=h
  exact ⟨cs,t,fr,h0,h4,fun i u hu=>let ⟨c,hc,hr⟩:=h2 i u hu;⟨c,hc,hr.zmono hz⟩,h3⟩
 | loop tmps ps asg bd st pe d =>
  obtain ⟨fn,ts,D,h0,h1,h2⟩:=h
  exact ⟨fn,ts,D,h0,h1.mono fun _ _ h=>h.zmono hz,h2⟩
 | defs=>exact h
 | gone=>trivial
 | raw t vs n=>exact h
 | map ks vs =>
  obtain ⟨arr,cl,h0,h1,h2,h3⟩:=h
  exact ⟨arr,cl,h0,h1,h2.mono fun _ _ h=>h.zmono hz,h3⟩
 | opt vs =>
  obtain ⟨cs,t,fr,h0,h4,h2,h3⟩:=h
  exact ⟨cs,t,fr,h0,h4,fun i u hu=>let ⟨c,hc,hr⟩:=h2 i u hu;⟨c,hc,hr.zmono hz⟩,h3⟩
theorem Rel.freeze {B w:World} {M Z:Nat→Prop} {ρ:Nat→Option (Nat×Nat)} {objs:List (Nat×VObj)} {nm nx k N:Nat} {vs:List VV} (h:Rel B M Z ρ ⟨(nm,.cells true vs)::objs,nx⟩ w) (hk:ρ nm=some (k,N)) (hnm: ∀ b x,hget objs b=some x→b≠nm) :
  Rel B M (fun j=>Z j∨j=k) ρ ⟨objs,nx⟩ w:=by
 have hg:(⟨(nm,.cells true vs)::objs,nx⟩:Heap).get nm=some (.cells true vs):=by simp [Heap.get,Qy]
 have hsub: ∀ b x,(⟨objs,nx⟩:Heap).get b=some x→(⟨(nm,.cells true vs)::objs,nx⟩:Heap).get b=some x:=fun b x hx=>by
  have:=hnm b x hx
  simp only [Heap.get] at hx ⊢
  rw [Qy,if_neg (fun e=>this e.symm)]
  exact hx
 refine ⟨h.glob,h.os,h.tape,h.output,h.size,h.frame,h.dom,fun b x hx=>h.live b x (hsub b x hx),fun b b' q N N' x x' hx hx'=>h.inj b b' q N N' x x' (hsub _ _ hx) (hsub _ _ hx'),fun b x hx=> ?_,fun j hj=> ?_⟩
 ·rcases h.obj b x (hsub b x hx) with hg|⟨q,N',o,h1,h2,h3,h4,h5⟩
  ·exact .inl hg
  refine .inr ⟨q,N',o,h1,h2,h3.zmono fun _ h=> .inl h,fun hz=> ?_,h5⟩
  rcases hz with hz|rfl
  ·exact h4 hz
  ·exact hnm b x hx (h.inj b nm q N' N x _ (hsub b x hx) hg h1 hk)
 ·rcases hj with hj|rfl
  ·exact h.zlt j hj
  ·exact h.lt hg hk
theorem Q3.fresh {P:Program} {o:Oper} {ts:List VV} {H:Heap} {n z:Nat} {c:Option Nat} {vs:List VV} (hrw:AllRw H) (h:vop P o ts H=some (.sl H.next 0 n c z,H.add (.cells true vs))) (hn:n*z≤vs.length) (hv: ∀ v∈vs,Qd v) :
  Q3 P o ts H (fun v K=>v= .ro n (vs.take (n*z))∧K=⟨H.objs,H.next+1⟩):=fun B M Z ρ a w rr KK QE h1 h2 h3=>by
 refine Q3.plain h w (Mine H ρ) Z ρ a w rr KK QE (h1.part rfl fun _ _ h=>h) h2 ?_
 rintro v' v H' Z' ρ' w' ⟨rfl,rfl⟩ e1 r1 v1
 have hkeep:AllRw (H.add (.cells true vs)):=fun b x hx=>by
  rw [Heap.get_add] at hx
  split at hx
  ·injection hx with hx;subst hx;rfl
  ·exact hrw b x hx
 obtain ⟨e2,r2⟩:=h1.whole (F:= []) rfl (fun _ _ h=>h) (fun b x hx=>by simp [hget] at hx) ⟨fun b x hx=>by simp [hget] at hx⟩ e1 r1 hkeep ⟨fun b x hx=>by simp [hget] at hx⟩
 rw [List.append_nil] at r2
 have hg:(H.add (.cells true vs)).get H.next=some (.cells true vs):=by rw [Heap.get_add,if_pos rfl]
 cases v1 with
 | @sl _ _ _ k N c' _ _ hk hcap hc hzz =>
  have hnm: ∀ b x,hget H.objs b=some x→b≠H.next:=fun b x hx e=>by
   have:=h1.live b x hx
   omega
  have hnew:w.heap.size≤k:=by
   obtain ⟨k',N',o',q1,q2,q3,q4,q5⟩:=r1.objC hg rfl
   rw [hk] at q1;injection q1 with q1;injection q1 with q1 q1';subst q1
   refine (q5 rfl).resolve_right fun ⟨b,x,N2,m1,m2,m3⟩=> ?_
   have hb:=h1.live b x m1
   have hb':(H.add (.cells true vs)).get b=some x:=by rw [Heap.get_add,if_neg (by omega)];exact m1
   have:=r1.inj b H.next k N2 N x _ hb' hg (e1.rsub _ _ m3) hk
   omega
  have r3:=Rel.freeze (objs:=H.objs) (nx:=H.next+1) (nm:=H.next) r2 hk hnm
  refine h3 _ _ _ (fun j=>Z' j∨j=k) ρ' w' ⟨rfl,rfl⟩ ⟨e2.nle,e2.rold,fun j hj=> .inl (e2.zsub j hj),e2.rsub,e2.keep,e2.size,fun j hj=> ?_⟩ r3 ?_
  ·rcases hj with hj|rfl
   ·exact e2.znew j hj
   ·exact .inr (.inl hnew)
  ·obtain ⟨ds,g1,g2,g3⟩:=r1.read hg hk 0 (n*z) (by omega)
   rw [List.drop_zero] at g1
   refine .ro (cs:=ds) (.inr rfl) hcap g1.1 (fun i hi=> ?_) (fun i u c2 hu hc2=> ?_)
   ·have:=g3 i (ds[i]'hi) (List.getElem?_eq_getElem hi)
    rw [J6] at this
    rw [this,List.getElem?_eq_getElem hi]
   ·have hm:u∈vs:=List.mem_of_mem_take (List.mem_of_getElem? hu)
    exact (hv u hm _ _ _ _ _ (g1.2 i u c2 hu hc2)).zmono fun _ h=> .inl h
theorem Qr.fresh {P:Program} {o:Oper} {ts:List VV} {H:Heap} {K:VV→Heap→Prop} {n z:Nat} {c:Option Nat} {vs us:List VV} (hrw:AllRw H) (h:vop P o ts H=some (.sl H.next 0 n c z,H.add (.cells true vs))) (hn:n*z≤vs.length) (hv: ∀ v∈vs,Qd v) (e:vs.take (n*z)=us)
  (k:K (.ro n us) ⟨H.objs,H.next+1⟩):Qr P o ts H K:=⟨⟨(Q3.fresh hrw h hn hv).mono fun x K' e2=>by rw [e2.1,e2.2,e];exact k⟩⟩
theorem allRw_of {H:Heap} (h:(H.objs.all fun p=>p.2.rw)=true):AllRw H:=fun b x hx=>by
 have key: ∀ (l:List (Nat×VObj)),(l.all fun p=>p.2.rw)=true→hget l b=some x→x.rw=true:=by
  intro l
  induction l with
  | nil=>intro _ h;simp [hget] at h
  | cons p r ih =>
   obtain ⟨k,y⟩:=p
   intro h1 h2
   simp only [List.all_cons,Bool.and_eq_true] at h1
   rw [Qy] at h2
   split at h2
   ·injection h2 with h2;subst h2;exact h1.1
   ·exact ih h1.2 h2
 exact key _ h hx
theorem Rel.bump {B w:World} {M Z:Nat→Prop} {ρ:Nat→Option (Nat×Nat)} {H:Heap} (h:Rel B M Z ρ H w) {n:Nat} (hn:H.next≤n):Rel B M Z ρ ⟨H.objs,n⟩ w :=
 ⟨h.glob,h.os,h.tape,h.output,h.size,h.frame,fun b hb=>h.dom b (Nat.le_trans hn hb),fun b x hx=>Nat.lt_of_lt_of_le (h.live b x hx) hn,h.inj,h.obj,h.zlt⟩
theorem Qr.weak {P:Program} {o:Oper} {ts:List VV} {H H':Heap} {v u:VV} {n:Nat} {K:VV→Heap→Prop} (h:vop P o ts H=some (v,H')) (hw: ∀ w Z ρ y,Qf w Z ρ v y→Qf w Z ρ u y) (hn:H'.next≤n) (k:K u ⟨H'.objs,n⟩):Qr P o ts H K:=⟨⟨fun B M Z ρ a w rr KK QE h1 h2 h3=>Q3.plain h B M Z ρ a w rr KK QE h1 h2 fun v' v2 H2 Z' ρ' w' e e1 r1 v1=>by
 obtain ⟨rfl,rfl⟩:=e
 exact h3 v' u _ Z' ρ' w' k ⟨Nat.le_trans e1.nle hn,e1.rold,e1.zsub,e1.rsub,e1.keep,e1.size,e1.znew⟩ (r1.bump hn) (hw _ _ _ _ v1)⟩⟩
end Go.Proofs.YtpbiblhkcomekaaGreat
namespace Go.Proofs.YtpbiblhkcomekaaGreat
open Go Go.RowKit
set_option linter.unusedSimpArgs false
set_option linter.unusedVariables false
section
variable {t:Nat} {w:World} {Z:Nat→Prop} {ρ:Nat→Option (Nat×Nat)}
theorem low_of {v:VV} {y:Value} (h:Qf w Z ρ v y) (hd: ∀ b,t≤b→ρ b=none):Qi [] t v v:=by
 have lt: ∀ {b:Nat} {c:Nat×Nat},ρ b=some c→b < t:=fun {b c} hb=>by
  rcases Nat.lt_or_ge b t with h|h
  ·exact h
  ·rw [hd b h] at hb;cases hb
 have row: ∀ {vs:List VV} {cs:List Value},vs.length=cs.length→(∀ (i:Nat) (u:VV) (c:Value),vs[i]? = some u→cs[i]? = some c→Qi [] t u u)→Qe [] t vs vs:=by
  intro vs
  induction vs with
  | nil=>intro cs _ _;exact .nil
  | cons v r ih =>
   intro cs hl hh
   match cs,hl with
   | c::ct,hl=>exact .cons (hh 0 v c rfl rfl) (ih (cs:=ct) (by simpa using hl) fun i u c hu hc=>hh (i+1) u c (by simpa using hu) (by simpa using hc))
   | [],hl=>simp at hl
 induction h with
 | sc h=>exact .sc
 | ptr h=>exact .ptrL (lt h)
 | sl h hn hc hz=>exact .slL (lt h)
 | gs0 =>
  intro w' Z' ρ' ρ1 y' hl hv
  cases hv with
  | gs0=>exact .gs0
  | gs h1 h2 h3 h4=>exact absurd rfl h4
 | gs h hn hz h0=>exact .gsL (lt h)
 | ro hZ hn hlen hcell _ ih =>
  intro w' Z' ρ' ρ1 y' hl hv
  have hr:=row hlen ih
  cases hv with
  | ro a b c d e =>
   have:=hr.pw hl ⟨c,e⟩
   exact .ro a b this.1 d this.2
  | ro0=>exact .ro0
 | ro0 =>
  intro w' Z' ρ' ρ1 y' hl hv
  cases hv with
  | ro a b c d e=>exact .ro a b c d fun i u c hu=>by simp at hu
  | ro0=>exact .ro0
 | rp hZ hlen hcell _ ih=>exact .rp (row hlen ih)
 | fn h1 _ h2 _ i1 i2=>exact .fn (row h1 i1) (row h2 i2)
 | yl h=>exact .ylL (lt h)
 | mp h=>exact .mpL (lt h)
 | ag h1 _ ih=>exact .ag (row h1 ih)
 | tp h1 _ ih=>exact .tp (row h1 ih)
 | ifc _ ih=>exact .ifc ih
 | junk=>exact .junk
theorem lowL_of {vs:List VV} {cs:List Value} (h:Pw (Qf w Z ρ) vs cs) (hd: ∀ b,t≤b→ρ b=none):Qe [] t vs vs:=by
 induction vs generalizing cs with
 | nil=>exact .nil
 | cons v r ih =>
  match cs,h with
  | c::ct,h=>exact .cons (low_of (h.2 0 v c rfl rfl) hd) (ih (cs:=ct) ⟨by simpa using h.1,fun i u c hu hc=>h.2 (i+1) u c (by simpa using hu) (by simpa using hc)⟩)
  | [],h=>have:=h.1;simp at this
theorem lowP_of {vs:List VV} {cs:List Value} (h:Pre (Qf w Z ρ) vs cs) (hd: ∀ b,t≤b→ρ b=none):Qe [] t vs vs:=by
 induction vs generalizing cs with
 | nil=>exact .nil
 | cons v r ih =>
  obtain ⟨c,hc,h0⟩:=h 0 v rfl
  match cs,hc with
  | c'::ct,hc =>
   simp at hc
   subst hc
   exact .cons (low_of h0 hd) (ih (cs:=ct) fun i u hu=>h (i+1) u (by simpa using hu))
theorem Qe.low {R:List (Nat×Nat)} {vs us:List VV} (h:Qe [] t vs us):Qe R t vs us:=by
 induction h with
 | nil=>exact .nil
 | cons h _ ih=>exact .cons (fun w Z ρ ρ1 y hl hv=>h w Z ρ ρ1 y ⟨hl.1,fun p hp=>by simp at hp⟩ hv) ih
def LowO (t:Nat) (x:VObj):Prop:=match x with
 | .cells _ vs=>Qe [] t vs vs
 | .opt vs=>Qe [] t vs vs
 | .loop tmps _ _ _ _ _ d=>Qe [] t tmps tmps∧d < t
 | .defs=>True
 | .gone=>True
 | .raw _ _ _=>True
 | .map _ vs=>Qe [] t vs vs
theorem lowO_of {x:VObj} {N:Nat} {o:Obj} (h:U6 w Z ρ N x o) (hd: ∀ b,t≤b→ρ b=none):LowO t x:=by
 cases x with
 | cells rw vs =>
  obtain ⟨cs,ty,fr,_,_,h2,_⟩:=h
  exact lowP_of h2 hd
 | opt vs =>
  obtain ⟨cs,ty,fr,_,_,h2,_⟩:=h
  exact lowP_of h2 hd
 | map ks vs =>
  obtain ⟨arr,cl,_,_,h2,_⟩:=h
  exact lowL_of h2 hd
 | loop tmps ps asg bd st pe d =>
  obtain ⟨fn,ts,D,_,h1,N',h2⟩:=h
  refine ⟨lowL_of h1 hd,?_⟩
  rcases Nat.lt_or_ge d t with h|h
  ·exact h
  ·rw [hd d h] at h2;cases h2
 | _=>trivial
end
section
variable {t nx:Nat} {R:List (Nat×Nat)} {B w:World} {M Z:Nat→Prop} {ρ:Nat→Option (Nat×Nat)}
theorem ren_sound {O:List (Nat×VObj)} {m:List Nat} {s:VSt} {ts:List VV} {a:Act} (k1:wfR t nx R=true) (k3:t≤nx) (hr:Rel B M Z ρ s.heap w) (ha:W2 w Z ρ s a) (hm:s.marks=m) (hmlt: ∀ d∈m,d < t)
  (hlen:ts.length=s.tmps.length) (hts: ∀ (i:Nat) (u:VV),ts[i]? = some u→u= .junk∨ ∃ v,s.tmps[i]? = some v∧Qi R t v u)
  (hO: ∀ (b:Nat) (y:VObj),hget O b=some y→b < nx∧((Xb R t b=none∧y.ghost=true)∨ ∃ (a:Nat) (x:VObj),Xb R t b=some a∧s.heap.get a=some x∧y.rw=x.rw∧(x.ghost=true→y.ghost=true)∧ ∀ (ρ1:Nat→Option (Nat×Nat)),N6 R t ρ ρ1→ ∀ (N:Nat) (o:Obj),U6 w Z ρ N x o→U6 w Z ρ1 N y o))
  (hinj: ∀ (b b' a:Nat) (y y':VObj),hget O b=some y→hget O b'=some y'→Xb R t b=some a→Xb R t b'=some a→b=b') :
  ∃ ρ1,(∀ b,b < t→ρ1 b=ρ b)∧Rel B M Z ρ1 ⟨O,nx⟩ w∧W2 w Z ρ1 ⟨ts,⟨O,nx⟩,m⟩ a:=by
 have hl:N6 R t ρ (fun b=>(Xb R t b).bind ρ):=⟨fun b hb c hc=>by simp only [Y0 hb,Option.bind_some];exact hc,fun p hp c hc=>by
  obtain ⟨g1,g2,g3⟩:=Xe k1 p hp
  simp only [Kw g1,g3,Option.bind_some]
  exact hc⟩
 refine ⟨fun b=>(Xb R t b).bind ρ,fun b hb=>by simp only [Y0 hb,Option.bind_some],?_,?_⟩
 ·refine ⟨hr.glob,hr.os,hr.tape,hr.output,hr.size,hr.frame,fun b hb=> ?_,fun b x hx=>(hO b x hx).1,?_,?_,hr.zlt⟩
  ·have hb:nx≤b:=hb
   show (Xb R t b).bind ρ=none
   rw [Kw (by omega)]
   cases hs:srcN R b with
   | none=>rfl
   | some a =>
    have:=(Xe k1 _ (Xr hs)).2.1
    simp only at this
    omega
  ·intro b b' k N N' x x' hx hx' hb hb'
   obtain ⟨c,hc,_⟩:=Option.bind_eq_some_iff.1 hb
   obtain ⟨c',hc',_⟩:=Option.bind_eq_some_iff.1 hb'
   obtain ⟨a,x0,g1,g2,_⟩:=(hO b x hx).2.resolve_left (fun g=>by rw [g.1] at hc;cases hc)
   obtain ⟨a',x0',g1',g2',_⟩:=(hO b' x' hx').2.resolve_left (fun g=>by rw [g.1] at hc';cases hc')
   simp only [g1,g1',Option.bind_some] at hb hb'
   have:=hr.inj a a' k N N' x0 x0' g2 g2' hb hb'
   subst this
   exact hinj b b' a x x' hx hx' g1 g1'
  ·intro b x hx
   rcases (hO b x hx).2 with ⟨g1,g2⟩|⟨a,x0,g1,g2,g3,g6,g4⟩
   ·exact .inl ⟨g2,by simp only [g1,Option.bind_none]⟩
   rcases hr.obj a x0 g2 with ⟨q1,q2⟩|⟨k,N,o,q1,q2,q3,q4,q5⟩
   ·exact .inl ⟨g6 q1,by simp only [g1,Option.bind_some];exact q2⟩
   exact .inr ⟨k,N,o,by simp only [g1,Option.bind_some];exact q1,q2,g4 _ hl _ _ q3,q4,fun h=>q5 (by rw [← g3];exact h)⟩
 ·refine ⟨⟨hlen.trans ha.tmps.1,?_⟩,?_⟩
  ·intro i u x hu hx
   rcases hts i u hu with rfl|⟨v,hv,e⟩
   ·exact .junk
   ·exact e _ _ _ _ _ hl (ha.tmps.2 i v x hv hx)
  ·have hmm:=ha.marks
   rw [hm] at hmm
   have key: ∀ (m:List Nat) (ds:List Deferred),(∀ d∈m,d < t)→DRel ρ m ds→DRel (fun b=>(Xb R t b).bind ρ) m ds:=by
    intro m
    induction m with
    | nil=>intro ds _ h;cases ds <;> exact h
    | cons d r ih =>
     intro ds hlt h
     cases ds with
     | nil=>exact h
     | cons x s =>
      obtain ⟨⟨D,N,e1,e2⟩,e3⟩:=h
      exact ⟨⟨D,N,hl.1 d (hlt d (by simp)) _ e1,e2⟩,ih _ (fun d hd=>hlt d (by simp [hd])) e3⟩
   exact key _ _ hmlt hmm
def hasK:List (Nat×VV)→Nat→Bool
 | [],_=>false
 | (k,_)::r,i=>match Nat.beq k i with
  | true=>true
  | false=>hasK r i
def K4 (A:List Nat) (L:List (Nat×VV)):List VV→Nat→List VV
 | [],_=> []
 | v::r,i=>(match hasK L i with
  | true=>lookT L i
  | false=>match Jl i A with
   | true=> .junk
   | false=>v)::K4 A L r (i+1)
def Uv (A:List Nat) (L:List (Nat×VV)):List VV→Nat→List VV
 | [],_=> []
 | v::r,i=>(match hasK L i with
  | true=> .junk
  | false=>match Jl i A with
   | true=> .junk
   | false=>v)::Uv A L r (i+1)
theorem frameA_len (A:List Nat) (L:List (Nat×VV)): ∀ (ts:List VV) (i:Nat),(K4 A L ts i).length=ts.length
 | [],_=>rfl
 | _::r,i=>by simp [K4,frameA_len A L r]
theorem maskA_len (A:List Nat) (L:List (Nat×VV)): ∀ (ts:List VV) (i:Nat),(Uv A L ts i).length=ts.length
 | [],_=>rfl
 | _::r,i=>by simp [Uv,maskA_len A L r]
theorem frameA_get (A:List Nat) (L:List (Nat×VV)): ∀ (ts:List VV) (i j:Nat),(K4 A L ts i)[j]? = (ts[j]?).map fun v=>match hasK L (i+j) with
  | true=>lookT L (i+j)
  | false=>match Jl (i+j) A with
   | true=> .junk
   | false=>v
 | [],i,j=>by simp [K4]
 | v::r,i,0=>by simp [K4]
 | v::r,i,j+1=>by
  simp only [K4,List.getElem?_cons_succ]
  rw [frameA_get A L r (i+1) j,show i+1+j=i+(j+1) by omega]
theorem maskA_get (A:List Nat) (L:List (Nat×VV)): ∀ (ts:List VV) (i j:Nat),(Uv A L ts i)[j]? = (ts[j]?).map fun v=>match hasK L (i+j) with
  | true=> .junk
  | false=>match Jl (i+j) A with
   | true=> .junk
   | false=>v
 | [],i,j=>by simp [Uv]
 | v::r,i,0=>by simp [Uv]
 | v::r,i,j+1=>by
  simp only [Uv,List.getElem?_cons_succ]
  rw [maskA_get A L r (i+1) j,show i+1+j=i+(j+1) by omega]
def Qs (D:List Nat):List (Nat×VObj)→List (Nat×VObj)
 | []=> []
 | (k,x)::r=>match Jl k D with
  | true=>Qs D r
  | false=>(k,x)::Qs D r
def Gets (H:Heap):List (Nat×VObj)→Prop
 | []=>True
 | (k,x)::r=>H.get k=some x∧Gets H r
theorem Gets.get {H:Heap}: ∀ {F:List (Nat×VObj)},Gets H F→ ∀ {b:Nat} {x:VObj},hget F b=some x→H.get b=some x∧b∈F.map (·.1)
 | [],_,b,x,hx=>by simp [hget] at hx
 | (k,y)::r,h,b,x,hx=>by
  rw [Qy] at hx
  split at hx
  ·rename_i e
   injection hx with hx
   subst e hx
   exact ⟨h.1,by simp⟩
  ·obtain ⟨g1,g2⟩:=Gets.get h.2 hx
   exact ⟨g1,List.mem_cons_of_mem _ g2⟩
structure N7 (A D:List Nat) (L:List (Nat×VV)) (O:List (Nat×VObj)) (nx:Nat) (ts0:List VV) (H0:Heap) (m:List Nat) (s:VSt):Prop where
 keep:Uv A L s.tmps 0=Uv A L ts0 0
 marks:s.marks=m
 rest:Gets s.heap (Qs D H0.objs)
 ren: ∃ (R:List (Nat×Nat)) (ks:List Nat),(wfR H0.next nx R&&nodupB (ks++(Qs D H0.objs).map (·.1))&&Nat.ble H0.next nx&&O.all (fun p=>Nat.blt p.1 nx)&&(Qs D H0.objs).all (fun p=>Nat.blt p.1 H0.next))=true∧FitR R H0.next L s.tmps∧Et R H0.next s.heap O ks
theorem hasK_look: ∀ {L:List (Nat×VV)} {i:Nat} {ts:List VV},FitR R t L ts→hasK L i=true→ ∃ v,ts[i]? = some v∧Qi R t v (lookT L i)
 | [],i,ts,_,h=>by simp [hasK] at h
 | (k,v)::r,i,ts,hf,h=>by
  simp only [hasK] at h
  simp only [lookT]
  rcases Jy k i with ⟨h1,e⟩|⟨h1,e⟩
  ·subst e
   rw [h1]
   exact hf.1
  ·rw [h1] at h ⊢
   exact hasK_look hf.2 h
theorem nodupB_app: ∀ {a b:List Nat},nodupB (a++b)=true→nodupB a=true∧nodupB b=true∧ ∀ x∈a,x∈b→False
 | [],b,h=>⟨rfl,h,fun x hx=>by simp at hx⟩
 | k::r,b,h=>by
  simp only [List.cons_append,nodupB,Bool.and_eq_true,List.all_append] at h
  obtain ⟨⟨h1,h2⟩,h3⟩:=h
  obtain ⟨g1,g2,g3⟩:=nodupB_app h3
  refine ⟨by simp [nodupB,h1,g1],g2,fun x hx hb=> ?_⟩
  rcases List.mem_cons.1 hx with rfl|hx
  ·have:=List.all_eq_true.1 h2 _ hb
   simp [Nat.beq_refl] at this
  ·exact g3 x hx hb
variable {P:Program}
theorem N7.sound {A D:List Nat} {L:List (Nat×VV)} {O:List (Nat×VObj)} {ts0:List VV} {H0:Heap} {m:List Nat} {s:VSt} {a:Act} (h:N7 A D L O nx ts0 H0 m s) (hlow:Qe [] H0.next ts0 ts0) (hlo: ∀ b x,H0.get b=some x→LowO H0.next x) (hlos: ∀ b x,hget (Qs D H0.objs) b=some x→LowO H0.next x) (hmlt: ∀ d∈m,d < H0.next) (hr:Rel B M Z ρ s.heap w) (ha:W2 w Z ρ s a) :
  ∃ ρ1,H0.next≤nx∧(∀ b,b < H0.next→ρ1 b=ρ b)∧Rel B M Z ρ1 ⟨O++Qs D H0.objs,nx⟩ w∧W2 w Z ρ1 ⟨K4 A L ts0 0,⟨O++Qs D H0.objs,nx⟩,m⟩ a:=by
 obtain ⟨h1,h2,h3,R,ks,h4,h5,h6⟩:=h
 simp only [Bool.and_eq_true] at h4
 obtain ⟨⟨⟨⟨k1,k2⟩,k3⟩,k4⟩,k5⟩:=h4
 have k3:=Nat.le_of_ble_eq_true k3
 obtain ⟨n1,n2,n3⟩:=nodupB_app k2
 have hlen:ts0.length=s.tmps.length:=by
  have:=congrArg List.length h1
  simpa [maskA_len] using this.symm
 have lowAt: ∀ {vs:List VV} (hh:Qe [] H0.next vs vs) (i:Nat) (v:VV),vs[i]? = some v→Qi R H0.next v v:=by
  intro vs
  induction vs with
  | nil=>intro _ i v hv;simp at hv
  | cons u r ih =>
   intro hh i v hv
   cases hh with
   | cons a b =>
    cases i with
    | zero=>simp at hv;subst hv;exact .low a
    | succ i=>exact ih b i v (by simpa using hv)
 have hrest: ∀ b x,hget (Qs D H0.objs) b=some x→b < H0.next∧s.heap.get b=some x∧b∈(Qs D H0.objs).map (·.1):=fun b x hx=>by
  obtain ⟨g1,g2⟩:=h3.get hx
  obtain ⟨p,hp,e⟩:=List.mem_map.1 g2
  have:=List.all_eq_true.1 k5 p hp
  exact ⟨e ▸ Qz.1 this,g1,g2⟩
 have hget: ∀ b,hget (O++Qs D H0.objs) b=_:=fun b=>hget_app O (Qs D H0.objs) b
 refine Exists.elim (ren_sound (t:=H0.next) (nx:=nx) (R:=R) (O:=O++Qs D H0.objs) (m:=m) (s:=s) (ts:=K4 A L ts0 0) (a:=a) k1 k3 hr ha h2 hmlt (by rw [frameA_len,hlen]) ?_ ?_ ?_) (fun ρ1 ⟨p1,p2,p3⟩=>⟨ρ1,k3,p1,p2,p3⟩)
 ·intro i u hu
  rw [frameA_get,Nat.zero_add] at hu
  cases hv0:ts0[i]? with
  | none=>rw [hv0] at hu;simp at hu
  | some v0 =>
   rw [hv0] at hu
   simp only [Option.map_some,Option.some.injEq] at hu
   cases hk:hasK L i with
   | true =>
    rw [hk] at hu
    obtain ⟨v,e1,e2⟩:=hasK_look h5 hk
    exact .inr ⟨v,e1,hu ▸ e2⟩
   | false =>
    rw [hk] at hu
    cases hA:Jl i A with
    | true=>rw [hA] at hu;exact .inl hu.symm
    | false =>
     rw [hA] at hu
     simp only at hu
     subst hu
     have hi:i < s.tmps.length:=by
      have:=(List.getElem?_eq_some_iff.1 hv0).1
      omega
     have e:=congrArg (fun l=>l[i]?) h1
     simp only [maskA_get,Nat.zero_add,hv0,hk,hA,Option.map_some,List.getElem?_eq_getElem hi,Option.some.injEq] at e
     exact .inr ⟨v0,by rw [List.getElem?_eq_getElem hi,e],lowAt hlow i v0 hv0⟩
 ·intro b y hy
  rw [hget] at hy
  cases ho:Go.Proofs.YtpbiblhkcomekaaGreat.hget O b with
  | some y' =>
   rw [ho] at hy
   injection hy with hy
   subst hy
   rcases h6.get ho with ⟨g1,g2,g5⟩|⟨a',x',g1,g2,g3,g4,g5⟩
   ·exact ⟨Qz.1 (List.all_eq_true.1 k4 _ g5),.inl ⟨g1,g2⟩⟩
   exact ⟨Qz.1 (List.all_eq_true.1 k4 _ g5),.inr ⟨a',x',g1,g2,g3.rw,g3.ghost,fun ρ1 hl N o=>g3.orel hl⟩⟩
  | none =>
   rw [ho] at hy
   obtain ⟨g1,g2,g3⟩:=hrest b y hy
   have hlo:=hlos b y hy
   refine ⟨by omega,.inr ⟨b,y,Y0 g1,g2,rfl,fun h=>h,fun ρ1 hl N o hor=> ?_⟩⟩
   cases y with
   | opt vs=>exact Jx.orel hl (.opt (Qe.low hlo)) hor
   | cells rw vs=>exact Jx.orel hl (.cells (Qe.low hlo)) hor
   | loop tmps ps asg bd st pe d=>exact Jx.orel hl (.loop (Qe.low hlo.1) (.inl ⟨hlo.2,rfl⟩)) hor
   | defs=>exact hor
   | gone=>trivial
   | raw t vs n=>exact hor
   | map ks vs=>exact Jx.orel hl (.map (Qe.low hlo)) hor
 ·intro b b' a' y y' hy hy' hs hs'
  rw [hget] at hy hy'
  cases ho:Go.Proofs.YtpbiblhkcomekaaGreat.hget O b with
  | some z =>
   rw [ho] at hy
   cases ho':Go.Proofs.YtpbiblhkcomekaaGreat.hget O b' with
   | some z'=>exact h6.inj n1 ho ho' hs hs'
   | none =>
    rw [ho'] at hy'
    obtain ⟨g1,g2,g3⟩:=hrest b' y' hy'
    rw [Y0 g1] at hs'
    injection hs' with hs'
    subst hs'
    obtain ⟨a2,x2,q1,q2,q3,q4,q5⟩:=h6.getK ho hs
    rw [hs] at q1
    injection q1 with q1
    subst q1
    exact (n3 _ q4 g3).elim
  | none =>
   rw [ho] at hy
   obtain ⟨g1,g2,g3⟩:=hrest b y hy
   rw [Y0 g1] at hs
   injection hs with hs
   subst hs
   cases ho':Go.Proofs.YtpbiblhkcomekaaGreat.hget O b' with
   | some z' =>
    obtain ⟨a2,x2,q1,q2,q3,q4,q5⟩:=h6.getK ho' hs'
    rw [hs'] at q1
    injection q1 with q1
    subst q1
    exact (n3 _ q4 g3).elim
   | none =>
    rw [ho'] at hy'
    obtain ⟨g1',g2',g3'⟩:=hrest b' y' hy'
    rw [Y0 g1'] at hs'
    injection hs' with hs'
    exact hs'.symm
theorem GWP.loopA {r:Option Nat} {c:Code} {Q:Exit→VSt→Prop} {ts0:List VV} {H0:Heap} {m:List Nat} {α:Type} (A D:List Nat) (I:α→Prop) (L:α→List (Nat×VV)) (O:α→List (Nat×VObj)) (nx:Nat) (μ:α→Nat) (a:α) (hI:I a) (h0:N7 A D (L a) (O a) nx ts0 H0 m ⟨ts0,H0,m⟩)
  (hr: ∀ a,I a→forceT (K4 A (L a) ts0 0) fun ts=>Nx P r c (Dr (fun s'=>Done (∃ b,I b∧μ b < μ a∧N7 A D (L b) (O b) nx ts0 H0 m s')) Q) ⟨ts,⟨O a++Qs D H0.objs,nx⟩,m⟩):GWP P r (.loop c) Q ⟨ts0,H0,m⟩:=⟨fun B M Z ρ a0 w rr QE g0 g1 g2 g3=>by
 have g1':Rel B M Z ρ H0 w:=g1
 have hlow:Qe [] H0.next ts0 ts0:=lowL_of g2.tmps g1'.dom
 have hlo: ∀ b x,H0.get b=some x→LowO H0.next x:=fun b x hx=>by
  rcases g1'.obj b x hx with ⟨hg,_⟩|⟨k,N,o,_,_,h3,_⟩
  ·unfold VObj.ghost at hg
   split at hg
   ·exact Qe.nil
   ·cases hg
  exact lowO_of h3 g1'.dom
 have hrs:=h0.rest
 have hlos: ∀ b x,hget (Qs D H0.objs) b=some x→LowO H0.next x:=fun b x hx=>hlo b x (hrs.get hx).1
 have hmlt: ∀ d∈m,d < H0.next:=by
  have hm:=g2.marks
  have key: ∀ (m:List Nat) (ds:List Deferred),DRel ρ m ds→ ∀ d∈m,d < H0.next:=by
   intro m
   induction m with
   | nil=>intro ds _ d hd;simp at hd
   | cons x r ih =>
    intro ds h d hd
    cases ds with
    | nil=>exact h.elim
    | cons y s =>
     obtain ⟨⟨D,N,e1,e2⟩,e3⟩:=h
     rcases List.mem_cons.1 hd with rfl|hd
     ·rcases Nat.lt_or_ge d H0.next with h|h
      ·exact h
      ·rw [g1'.dom d h] at e1;cases e1
     ·exact ih s e3 d hd
  exact key _ _ hm
 have key: ∀ (k:Nat) (b:α) (Z1:Nat→Prop) (ρ1:Nat→Option (Nat×Nat)) (a1:Act) (w1:World),μ b < k→I b→Ext (own B M) H0.next Z ρ w nx Z1 ρ1 w1→Rel B M Z1 ρ1 ⟨O b++Qs D H0.objs,nx⟩ w1→W2 w1 Z1 ρ1 ⟨K4 A (L b) ts0 0,⟨O b++Qs D H0.objs,nx⟩,m⟩ a1→Code.roundsIn (FW rr) 0 P c QE k a1 w1:=by
  intro k
  induction k with
  | zero=>intro b Z1 ρ1 a1 w1 hm;omega
  | succ k ih =>
   intro b Z1 ρ1 a1 w1 hm hb e1 r1 ar1
   rw [roundsIn_succ]
   have hh:=hr b hb
   rw [Wj] at hh
   refine Y8 hh B M Z1 ρ1 a1 w1 rr _ (g0.ext e1) r1 ar1 fun e s2 Z2 ρ2 a2 w2 q e2 r2 ar2=> ?_
   cases e with
   | normal =>
    obtain ⟨b2,q1,q2,q3⟩:=q.out
    obtain ⟨ρ3,p1,p2,p3,p4⟩:=q3.sound hlow hlo hlos hmlt r2 ar2
    refine ih b2 Z2 ρ3 a2 w2 (by omega) q1 ?_ p3 p4
    have e12:=e1.trans e2
    exact ⟨p1,fun x hx=>(p2 x hx).trans (e12.rold x hx),e12.zsub,fun x y hx=>by
     have hlt:x < H0.next:=by
      rcases Nat.lt_or_ge x H0.next with h|h
      ·exact h
      ·rw [g1'.dom x h] at hx;cases hx
     rw [p2 x hlt];exact e12.rsub x y hx,e12.keep,e12.size,e12.znew⟩
   | _=>exact g3 _ _ _ _ _ _ q (e1.trans e2) r2 ar2
 obtain ⟨ρ3,p1,p2,p3,p4⟩:=h0.sound hlow hlo hlos hmlt g1 g2
 refine wpIn_loop_rounds (μ a+1) (key _ a Z ρ3 a0 w (Nat.lt_succ_self _) hI ?_ p3 p4)
 exact ⟨p1,fun x hx=>p2 x hx,fun _ h=>h,fun x y hx=>by
  have hlt:x < H0.next:=by
   rcases Nat.lt_or_ge x H0.next with h|h
   ·exact h
   ·rw [g1'.dom x h] at hx;cases hx
  rw [p2 x hlt];exact hx,fun _ _=>rfl,Nat.le_refl _,fun _ h=> .inl h⟩⟩
end
def forceNL:List Nat→(List Nat→Prop)→Prop
 | [],K=>K []
 | a::r,K=>forceNL r fun r'=>K (a::r')
theorem Wy: ∀ (l:List Nat) (K:List Nat→Prop),forceNL l K=K l
 | [],_=>rfl
 | a::r,K=>by simp only [forceNL,Wy r]
def dstL:List Oper→List Nat→List Nat
 | [],l=>l
 | o::r,l=>match o.dst with
  | some d=>d::dstL r l
  | none=>dstL r l
noncomputable def writesC (c:Code):List Nat→List Nat :=
 Code.rec (motive:=fun _=>List Nat→List Nat)
  (fun l=>l)
  (fun _ ops _ l=>dstL ops.toList l)
  (fun _ _ iha ihb l=>iha (ihb l))
  (fun _ _ _ iha ihb l=>iha (ihb l))
  (fun _ _ ih l=>ih l)
  (fun _ ih l=>ih l)
  (fun _ _ _ _ _ _ l=>l)
  (fun _ l=>l)
  (fun _ ih l=>ih l)
  (fun _ l=>l)
  (fun _ l=>l)
  (fun l=>l)
  (fun _ l=>l)
  c
theorem GWP.loopB {P:Program} {r:Option Nat} {c:Code} {Q:Exit→VSt→Prop} {ts0:List VV} {H0:Heap} {m:List Nat} {α:Type} (D:List Nat) (I:α→Prop) (L:α→List (Nat×VV)) (O:α→List (Nat×VObj)) (nx:Nat) (μ:α→Nat) (a:α) (hI:I a)
  (h:forceNL (writesC c []) fun A=>N7 A D (L a) (O a) nx ts0 H0 m ⟨ts0,H0,m⟩∧ ∀ a,I a→forceT (K4 A (L a) ts0 0) fun ts=>Nx P r c (Dr (fun s'=>Done (∃ b,I b∧μ b < μ a∧N7 A D (L b) (O b) nx ts0 H0 m s')) Q) ⟨ts,⟨O a++Qs D H0.objs,nx⟩,m⟩):GWP P r (.loop c) Q ⟨ts0,H0,m⟩:=by
 rw [Wy] at h
 exact GWP.loopA _ D I L O nx μ a hI h.1 h.2
def Zy (R:List (Nat×Nat)) (t:Nat):List (Nat×VObj)→List Nat
 | []=> []
 | (b,_)::r=>match Xb R t b with
  | some a=>a::Zy R t r
  | none=>Zy R t r
def W1 (R:List (Nat×Nat)) (t:Nat) (H:Heap):List (Nat×VObj)→Prop
 | []=>True
 | (b,y)::r=>(match Xb R t b with
  | some a=> ∃ x,H.get a=some x∧Jx R t x y
  | none=>y= .opt [])∧W1 R t H r
theorem W1.toH {R:List (Nat×Nat)} {t:Nat} {H:Heap}: ∀ {O:List (Nat×VObj)},W1 R t H O→Et R t H O (Zy R t O)
 | [],_=> .nil
 | (b,y)::r,h=>by
  obtain ⟨h1,h2⟩:=h
  have ih:=W1.toH h2
  cases hs:Xb R t b with
  | none =>
   rw [hs] at h1
   simp only at h1
   subst h1
   simp only [Zy,hs]
   exact .ghost hs ih
  | some a =>
   rw [hs] at h1
   obtain ⟨x,g1,g2⟩:=h1
   simp only [Zy,hs]
   exact .cons hs g1 g2 ih
theorem N7.of {A D:List Nat} {L:List (Nat×VV)} {O:List (Nat×VObj)} {nx:Nat} {ts0:List VV} {H0:Heap} {m:List Nat} {s:VSt} (R:List (Nat×Nat)) (keep:Uv A L s.tmps 0=Uv A L ts0 0) (marks:s.marks=m) (rest:Gets s.heap (Qs D H0.objs))
  (hw:(wfR H0.next nx R&&nodupB (Zy R H0.next O++(Qs D H0.objs).map (·.1))&&Nat.ble H0.next nx&&O.all (fun p=>Nat.blt p.1 nx)&&(Qs D H0.objs).all (fun p=>Nat.blt p.1 H0.next))=true) (fit:FitR R H0.next L s.tmps) (ren:W1 R H0.next s.heap O):N7 A D L O nx ts0 H0 m s :=
 ⟨keep,marks,rest,R,_,hw,fit,ren.toH⟩
theorem Xc.arg1 {P:Program} {f:FuncId} {v u:VV} {H:Heap} {Q:VV→Heap→Prop} (e:v=u) (h:Xc P f [u] H Q):Xc P f [v] H Q:=e ▸ h
theorem Xc.arg21 {P:Program} {f:FuncId} {v u a:VV} {H:Heap} {Q:VV→Heap→Prop} (e:v=u) (h:Xc P f [u,a] H Q):Xc P f [v,a] H Q:=e ▸ h
theorem Qc.arg1 {P:Program} {f:FuncId} {v u:VV} {H:Heap} {Q:VV→Heap→Prop} (e:v=u) (h:Qc P f [u] H Q):Qc P f [v] H Q:=e ▸ h
theorem Qi.eq {R:List (Nat×Nat)} {t:Nat} {v u:VV} (e:v=u) (h:Qd u):Qi R t v u:=by subst e;exact .of h
end Go.Proofs.YtpbiblhkcomekaaGreat
namespace Go.Proofs.YtpbiblhkcomekaaGreat
open Go Go.RowKit
set_option linter.unusedSimpArgs false
set_option linter.unusedVariables false
structure Qk (A B:VV→Heap→Prop):Prop where
 out: ∃ v H,A v H∧B v H
theorem Qk.via {A B:VV→Heap→Prop} {v:VV} {H:Heap} (h:A v H) (g:B v H):Qk A B:=⟨⟨v,H,h,g⟩⟩
def Ys (ops:List Oper):Nat→List Nat→List Nat
 | 0,l=>l
 | k+1,l=>match l.any fun s=>match ops[s]? with
   | some o=>Q8 o.after.toList k
   | none=>false with
  | true=>Ys ops k (k::l)
  | false=>Ys ops k l
def noG (ops:List Oper):Bool:=ops.all fun o=>o.guard.isNone
def chainB (ops:List Oper) (m:Nat):Nat→Bool
 | 0=>true
 | d+1=>chainB ops m d&&(match ops[m+d+1]? with
  | some o=>Q8 o.after.toList (m+d)
  | none=>true)
def Ny (ops:List Oper) (al m:Nat):Bool:=Nat.beq m ops.length || (Nat.ble m ops.length&&chainB ops m (ops.length - m)&&noG (ops.drop m)&&(Jl al (Ys ops m [m]) || Nat.beq al ops.length))
def Zo (n m:Nat) (an:List Nat) (i:Nat):Bool:=match Nat.beq m n with
 | true=>true
 | false=>Jl i an
theorem Kb {ops:List Oper} {m:Nat}: ∀ (k:Nat) (l:List Nat),(∀ s∈l,s=m∨Anc ops m s)→ ∀ s∈Ys ops k l,s=m∨Anc ops m s
 | 0,l,h=>h
 | k+1,l,h=>by
  unfold Ys
  split
  ·rename_i hb
   refine Kb k (k::l) fun s hs=> ?_
   rcases List.mem_cons.1 hs with rfl|hs
   ·obtain ⟨x,hx,hw⟩:=List.any_eq_true.1 hb
    split at hw
    ·rename_i o ho
     obtain ⟨e,he,hon,hbe⟩:=Yt hw
     have a1:Anc ops x s:=hon ▸ Anc.edge ho he hbe
     rcases h x hx with rfl|a2
     ·exact .inr a1
     ·exact .inr (.trans a2 a1)
    ·simp at hw
   ·exact h s hs
  ·exact Kb k l h
theorem chainB_at {ops:List Oper} {m:Nat}: ∀ {d:Nat},chainB ops m d=true→ ∀ c,c < d→ ∀ o,ops[m+c+1]? = some o→Q8 o.after.toList (m+c)=true
 | d+1,h,c,hc,o,ho=>by
  simp only [chainB,Bool.and_eq_true] at h
  by_cases e:c=d
  ·subst e
   have:=h.2
   rw [ho] at this
   exact this
  ·exact chainB_at h.1 c (by omega) o ho
theorem tail_anc {ops:List Oper} {al m:Nat} (h:Ny ops al m=true): ∀ (c j:Nat),m+c < ops.length→j < m+c→(j < m→j∈Ys ops m [m])→Anc ops (m+c) j:=by
 simp only [Ny,Bool.or_eq_true,Bool.and_eq_true] at h
 rcases h with h|⟨⟨⟨h1,h3⟩,h4⟩,h5⟩
 ·have:=Nat.eq_of_beq_eq_true h
  intro c j h1 h2
  omega
 intro c
 induction c with
 | zero =>
  intro j hlt hj hin
  rcases Kb m [m] (fun s hs=> .inl (by simpa using hs)) j (hin (by omega)) with e|a
  ·omega
  ·exact a
 | succ c ih =>
  intro j hlt hj hin
  have ho:ops[m+c+1]? = some ops[m+c+1]:=List.getElem?_eq_getElem (by omega)
  obtain ⟨e,he,hon,hbe⟩:=Yt (chainB_at h3 c (by omega) _ ho)
  have a1:Anc ops (m+c+1) (m+c):=by
   have:=Anc.edge ho he hbe
   rw [hon] at this
   exact this
  by_cases e:j=m+c
  ·subst e;exact a1
  ·exact .trans a1 (ih j (by omega) (by omega) hin)
section
variable (P:Program) (ops:Array Oper) (ts0:List VV) (al m:Nat) (an:List Nat) (va:VV) (H0 H1:Heap) (K:List VV→Heap→Prop)
def Bb (i:Nat) (l:List Oper) (vs:List VV) (H:Heap):Prop :=
 List.rec (motive:=fun _=>Nat→List VV→Heap→Prop) (fun _ vs H=>K vs H) (fun o _ ih i vs H=>Yj i o ops.toList vs ts0 (Jn ops o) fun L=>Qk (fun v H'=>W0 P o (Jj L ts0.length 0) H fun x K'=>Is x v K' H') (fun v H'=>Jw v fun v'=>snocE vs v' fun vs'=>ih (i+1) vs' H')) l i vs H
theorem wtail_cons (i:Nat) (o:Oper) (r:List Oper) (vs:List VV) (H:Heap):Bb P ops ts0 K i (o::r) vs H=(Yj i o ops.toList vs ts0 (Jn ops o) fun L=>Qk (fun v H'=>W0 P o (Jj L ts0.length 0) H fun x K'=>Is x v K' H') (fun v H'=>Jw v fun v'=>snocE vs v' fun vs'=>Bb P ops ts0 K (i+1) r vs' H')):=rfl
def Dv (g:Bool) (o:Oper) (ts:List VV) (v:VV):Prop:=match g with
 | false=> ∀ Hx,W0 P o ts Hx fun x K'=>Is x v K' Hx
 | true=>match Nat.blt al m with
  | true=>(W0 P o ts H0 fun x K'=>Is x v K' H0)∧(W0 P o ts H1 fun x K'=>Is x v K' H1)
  | false=>W0 P o ts H0 fun x K'=>Is x v K' H0
def Kk (i:Nat) (l:List Oper) (vs:List VV):Prop :=
 List.rec (motive:=fun _=>Nat→List VV→Prop) (fun i vs=>Bb P ops ts0 K i [] vs H1) (fun o r ih i vs=>match Nat.beq i m with
  | true=>Bb P ops ts0 K i (o::r) vs H1
  | false=>match Nat.beq i al with
   | true=>snocE vs va fun vs'=>ih (i+1) vs'
   | false=>match o.guard with
    | none=>Yj i o ops.toList vs ts0 (Jn ops o) fun L=>Val (fun v=>Dv P al m H0 H1 (Zo ops.size m an i) o (Jj L ts0.length 0) v) (fun v=>Jw v fun v'=>snocE vs v' fun vs'=>ih (i+1) vs')
    | some (j,want)=>match Q8 o.after.toList j with
     | true=>match vs[j]? with
      | some (.sc (.bool b))=>ifB b
       (setE vs j (.sc (.bool true)) fun vs1=>match want with
        | true=>Yj i o ops.toList vs1 ts0 (Jn ops o) fun L=>Val (fun v=>Dv P al m H0 H1 (Zo ops.size m an i) o (Jj L ts0.length 0) v) (fun v=>Jw v fun v'=>snocE vs1 v' fun vs'=>ih (i+1) vs')
        | false=>snocE vs1 (.tp []) fun vs'=>ih (i+1) vs')
       (setE vs j (.sc (.bool false)) fun vs1=>match want with
        | false=>Yj i o ops.toList vs1 ts0 (Jn ops o) fun L=>Val (fun v=>Dv P al m H0 H1 (Zo ops.size m an i) o (Jj L ts0.length 0) v) (fun v=>Jw v fun v'=>snocE vs1 v' fun vs'=>ih (i+1) vs')
        | true=>snocE vs1 (.tp []) fun vs'=>ih (i+1) vs')
      | some (.tp _)=>snocE vs (.tp []) fun vs'=>ih (i+1) vs'
      | _=>False
     | false=>False) l i vs
theorem wdrawX_cons (i:Nat) (o:Oper) (r:List Oper) (vs:List VV):Kk P ops ts0 al m an va H0 H1 K i (o::r) vs=(match Nat.beq i m with
  | true=>Bb P ops ts0 K i (o::r) vs H1
  | false=>match Nat.beq i al with
   | true=>snocE vs va fun vs'=>Kk P ops ts0 al m an va H0 H1 K (i+1) r vs'
   | false=>match o.guard with
    | none=>Yj i o ops.toList vs ts0 (Jn ops o) fun L=>Val (fun v=>Dv P al m H0 H1 (Zo ops.size m an i) o (Jj L ts0.length 0) v) (fun v=>Jw v fun v'=>snocE vs v' fun vs'=>Kk P ops ts0 al m an va H0 H1 K (i+1) r vs')
    | some (j,want)=>match Q8 o.after.toList j with
     | true=>match vs[j]? with
      | some (.sc (.bool b))=>ifB b
       (setE vs j (.sc (.bool true)) fun vs1=>match want with
        | true=>Yj i o ops.toList vs1 ts0 (Jn ops o) fun L=>Val (fun v=>Dv P al m H0 H1 (Zo ops.size m an i) o (Jj L ts0.length 0) v) (fun v=>Jw v fun v'=>snocE vs1 v' fun vs'=>Kk P ops ts0 al m an va H0 H1 K (i+1) r vs')
        | false=>snocE vs1 (.tp []) fun vs'=>Kk P ops ts0 al m an va H0 H1 K (i+1) r vs')
       (setE vs j (.sc (.bool false)) fun vs1=>match want with
        | false=>Yj i o ops.toList vs1 ts0 (Jn ops o) fun L=>Val (fun v=>Dv P al m H0 H1 (Zo ops.size m an i) o (Jj L ts0.length 0) v) (fun v=>Jw v fun v'=>snocE vs1 v' fun vs'=>Kk P ops ts0 al m an va H0 H1 K (i+1) r vs')
        | true=>snocE vs1 (.tp []) fun vs'=>Kk P ops ts0 al m an va H0 H1 K (i+1) r vs')
      | some (.tp _)=>snocE vs (.tp []) fun vs'=>Kk P ops ts0 al m an va H0 H1 K (i+1) r vs'
      | _=>False
     | false=>False):=rfl
def K6 (g:Bool) (o:Oper) (ts:List VV) (v:VV):Prop:=match g with
 | false=> ∀ Hx,Q3 P o ts Hx (fun x K'=>x=v∧K'=Hx)
 | true=>Q3 P o ts H0 (fun x K'=>x=v∧K'=H0)∧(al < m→Q3 P o ts H1 (fun x K'=>x=v∧K'=H1))
def XFact (V:List VV) (G:Nat→Heap) (j:Nat) (o:Oper):Prop:= ∃ v,V[j]? = some v∧match decide (m≤j) with
 | true=>Q3 P o (Je j o ops.toList 0 V ts0) (G j) (fun x K'=>x=v∧K'=G (j+1))
 | false=>(j=al∧v=va)∨(j≠al∧((Qq ops o (Je j o ops.toList 0 V ts0)=some false∧v= .tp [])∨(Qq ops o (Je j o ops.toList 0 V ts0)=some true∧K6 P al m H0 H1 (Zo ops.size m an j) o (Je j o ops.toList 0 V ts0) v)))
theorem U1 (hnd:(dstsOf ops.toList).Nodup) (i:Nat) (o:Oper) (vs:List VV) (l:List Operand) (w:World) (Z:Nat→Prop) (ρ:Nat→Option (Nat×Nat)) (cs:List Value) (hp:Pw (Qf w Z ρ) (Je i o ops.toList 0 vs ts0) cs):Pw (Qf w Z ρ) (Jj (envL i o ops.toList vs ts0 l) ts0.length 0) cs:=by
 have hl:=(Kd i o ops.toList 0 vs ts0 hnd).1
 refine ⟨by rw [Z0,← hl];exact hp.1,fun k u x hu hx=> ?_⟩
 simp only [Wx,Nat.zero_add] at hu
 split at hu
 ·rename_i hk
  simp at hu
  rcases Wh i o ops.toList vs ts0 k l with e|e
  ·rw [← hu,e];exact .junk
  ·rw [← hu,e];exact hp.2 k _ x (tmpVal_eq hnd hk) hx
 ·simp at hu
theorem B7 (hback: ∀ (i:Nat) (o:Oper),ops.toList[i]? = some o→ ∀ e∈o.after.toList,Xm e=true→e.on < i) {i:Nat} {o:Oper} (ho:ops.toList[i]? = some o) {vs V a:List VV} (hv:vs.length=i) (e:V=vs++a):Je i o ops.toList 0 vs ts0=Je i o ops.toList 0 V ts0:=B8 _ _ _ _ _ fun m hm=>by
 obtain ⟨ed,he,hon,hb⟩:=Yt hm
 have:=hback i o ho ed he hb
 rw [e,List.getElem?_append_left (by omega)]
theorem Ba (hback: ∀ (i:Nat) (o:Oper),ops.toList[i]? = some o→ ∀ e∈o.after.toList,Xm e=true→e.on < i) (hnd:(dstsOf ops.toList).Nodup): ∀ (r:List Oper) (i:Nat) (vs:List VV) (H:Heap),ops.toList.drop i=r→vs.length=i→i≤ops.size→Bb P ops ts0 K i r vs H →
  ∃ (V:List VV) (G:Nat→Heap),(∃ a,V=vs++a)∧V.length=ops.size∧G i=H∧K V (G ops.size)∧ ∀ j o,i≤j→ops.toList[j]? = some o→ ∃ v,V[j]? = some v∧Q3 P o (Je j o ops.toList 0 V ts0) (G j) (fun x K'=>x=v∧K'=G (j+1))
 | [],i,vs,H,hd,hv,hi,h=>by
  have hle:ops.size≤i:=by have:=congrArg List.length hd;simp at this;omega
  refine ⟨vs,fun _=>H,⟨[],by simp⟩,by omega,rfl,h,fun j o hj ho=> ?_⟩
  have:=(List.getElem?_eq_some_iff.1 ho).1
  simp at this
  omega
 | o::r,i,vs,H,hd,hv,hi,h=>by
  have ho:ops.toList[i]? = some o:=by
   have:=congrArg (fun l=>l[0]?) hd
   simpa using this
  have hd':ops.toList.drop (i+1)=r:=by rw [← List.drop_drop,hd];rfl
  have hilt:i < ops.size:=by have:=(List.getElem?_eq_some_iff.1 ho).1;simpa using this
  rw [wtail_cons] at h
  rw [Ki] at h
  obtain ⟨v,H',h1,h2⟩:=h.out
  rw [Zl,Yg] at h2
  obtain ⟨V,G,⟨a,ha⟩,hl,hG,hk,hq⟩:=Ba hback hnd r (i+1) (vs++ [v]) H' hd' (by simp [hv]) hilt h2
  have hVi:V[i]? = some v:=by rw [ha,List.append_assoc,List.getElem?_append_right (by omega)];simp [hv]
  have hT:Je i o ops.toList 0 vs ts0=Je i o ops.toList 0 V ts0:=B7 ops ts0 hback ho hv (a:=v::a) (by rw [ha];simp)
  refine ⟨V,fun k=>if k=i then H else G k,⟨v::a,by rw [ha];simp⟩,hl,by simp,?_,fun j x hj hx=> ?_⟩
  ·show K V (if ops.size=i then H else G ops.size)
   rw [if_neg (by omega)];exact hk
  ·by_cases e:j=i
   ·subst e
    rw [ho] at hx;injection hx with hx;subst hx
    refine ⟨v,hVi,?_⟩
    simp only [if_true,if_neg (show ¬ j+1=j by omega)]
    rw [← hT,hG]
    exact Q3.less (U1 ops ts0 hnd j o vs _) ((Yb h1).mono fun x K' q=>⟨q.val,q.heap⟩)
   ·obtain ⟨u,g1,g2⟩:=hq j x (by omega) hx
    refine ⟨u,g1,?_⟩
    simp only [if_neg e,if_neg (show ¬ j+1=i by omega)]
    exact g2
theorem pureX_sound {g:Bool} {o:Oper} {ts:List VV} {v:VV} (h:Dv P al m H0 H1 g o ts v):K6 P al m H0 H1 g o ts v:=by
 unfold Dv at h
 unfold K6
 cases g with
 | false=>exact fun Hx=>(Yb (h Hx)).mono fun x K' q=>⟨q.val,q.heap⟩
 | true =>
  simp only at h ⊢
  split at h
  ·exact ⟨(Yb h.1).mono fun x K' q=>⟨q.val,q.heap⟩,fun _=>(Yb h.2).mono fun x K' q=>⟨q.val,q.heap⟩⟩
  ·rename_i hb
   refine ⟨(Yb h).mono fun x K' q=>⟨q.val,q.heap⟩,fun hlt=> ?_⟩
   have:Nat.blt al m=true:=Qz.2 hlt
   rw [this] at hb;cases hb
theorem K6.less {g:Bool} {o:Oper} {ts ts1:List VV} {v:VV} (ht: ∀ w Z ρ cs,Pw (Qf w Z ρ) ts cs→Pw (Qf w Z ρ) ts1 cs) (h:K6 P al m H0 H1 g o ts1 v):K6 P al m H0 H1 g o ts v:=by
 unfold K6 at *
 cases g with
 | false=>exact fun Hx=>Q3.less ht (h Hx)
 | true=>exact ⟨Q3.less ht h.1,fun q=>Q3.less ht (h.2 q)⟩
theorem wdrawX_sound (hback: ∀ (i:Nat) (o:Oper),ops.toList[i]? = some o→ ∀ e∈o.after.toList,Xm e=true→e.on < i) (hnd:(dstsOf ops.toList).Nodup) (hbd: ∀ (i:Nat) (o:Oper),ops.toList[i]? = some o→ ∀ d,o.dst=some d→d < ts0.length) (hgd: ∀ (i:Nat) (o:Oper) (j:Nat) (w:Bool),ops.toList[i]? = some o→o.guard=some (j,w)→((ops[j]?).bind (fun x:Oper=>x.dst)).isSome=true) (hm:m≤ops.size): ∀ (r:List Oper) (i:Nat) (vs:List VV),ops.toList.drop i=r→vs.length=i→i≤m→Kk P ops ts0 al m an va H0 H1 K i r vs →
  ∃ (V:List VV) (G:Nat→Heap),(∃ a,V=vs++a)∧V.length=ops.size∧G m=H1∧K V (G ops.size)∧ ∀ j o,i≤j→ops.toList[j]? = some o→XFact P ops ts0 al m an va H0 H1 V G j o:=by
 have tail: ∀ (r:List Oper) (vs:List VV),ops.toList.drop m=r→vs.length=m→Bb P ops ts0 K m r vs H1→ ∃ (V:List VV) (G:Nat→Heap),(∃ a,V=vs++a)∧V.length=ops.size∧G m=H1∧K V (G ops.size)∧ ∀ j o,m≤j→ops.toList[j]? = some o→XFact P ops ts0 al m an va H0 H1 V G j o:=by
  intro r vs hd hv h
  obtain ⟨V,G,ha,hl,hG,hk,hq⟩:=Ba P ops ts0 K hback hnd r m vs H1 hd hv hm h
  refine ⟨V,G,ha,hl,hG,hk,fun j o hj ho=> ?_⟩
  obtain ⟨v,g1,g2⟩:=hq j o hj ho
  refine ⟨v,g1,?_⟩
  rw [decide_eq_true hj]
  exact g2
 intro r
 induction r with
 | nil =>
  intro i vs hd hv hi h
  have hle:ops.size≤i:=by have:=congrArg List.length hd;simp at this;omega
  have:i=m:=by omega
  subst this
  exact tail [] vs hd hv h
 | cons o r ih =>
  intro i vs hd hv hi h
  have ho:ops.toList[i]? = some o:=by
   have:=congrArg (fun l=>l[0]?) hd
   simpa using this
  have hd':ops.toList.drop (i+1)=r:=by rw [← List.drop_drop,hd];rfl
  rw [wdrawX_cons] at h
  rcases Jy i m with ⟨hb,e⟩|⟨hb,e⟩
  ·rw [hb] at h
   subst e
   exact tail _ vs hd hv h
  rw [hb] at h
  simp only at h
  have hilt:i < m:=by omega
  have hT: ∀ {V a:List VV},V=vs++a→Je i o ops.toList 0 vs ts0=Je i o ops.toList 0 V ts0:=fun e=>B7 ops ts0 hback ho hv e
  have step: ∀ (v:VV),Kk P ops ts0 al m an va H0 H1 K (i+1) r (vs++ [v])→(∀ V,Je i o ops.toList 0 vs ts0=Je i o ops.toList 0 V ts0→(i=al∧v=va)∨(i≠al∧((Qq ops o (Je i o ops.toList 0 V ts0)=some false∧v= .tp [])∨(Qq ops o (Je i o ops.toList 0 V ts0)=some true∧K6 P al m H0 H1 (Zo ops.size m an i) o (Je i o ops.toList 0 V ts0) v)))) →
    ∃ (V:List VV) (G:Nat→Heap),(∃ a,V=vs++a)∧V.length=ops.size∧G m=H1∧K V (G ops.size)∧ ∀ j o,i≤j→ops.toList[j]? = some o→XFact P ops ts0 al m an va H0 H1 V G j o:=by
   intro v hw hf
   obtain ⟨V,G,⟨a,ha⟩,hl,hG,hk,hq⟩:=ih (i+1) (vs++ [v]) hd' (by simp [hv]) hilt hw
   refine ⟨V,G,⟨v::a,by rw [ha];simp⟩,hl,hG,hk,fun j x hj hx=> ?_⟩
   by_cases e:j=i
   ·subst e
    rw [ho] at hx;injection hx with hx;subst hx
    refine ⟨v,by rw [ha,List.append_assoc,List.getElem?_append_right (by omega)];simp [hv],?_⟩
    rw [decide_eq_false (by omega)]
    exact hf V (hT (a:=v::a) (by rw [ha];simp))
   ·exact hq j x (by omega) hx
  rcases Jy i al with ⟨hb2,e2⟩|⟨hb2,e2⟩
  ·rw [hb2] at h
   simp only [Yg] at h
   exact step va h fun V _=> .inl ⟨e2,rfl⟩
  rw [hb2] at h
  simp only at h
  have go: ∀ (hw:Qq ops o (Je i o ops.toList 0 vs ts0)=some true),(Yj i o ops.toList vs ts0 (Jn ops o) fun L=>Val (fun v=>Dv P al m H0 H1 (Zo ops.size m an i) o (Jj L ts0.length 0) v) (fun v=>Jw v fun v'=>snocE vs v' fun vs'=>Kk P ops ts0 al m an va H0 H1 K (i+1) r vs')) →
    ∃ (V:List VV) (G:Nat→Heap),(∃ a,V=vs++a)∧V.length=ops.size∧G m=H1∧K V (G ops.size)∧ ∀ j o,i≤j→ops.toList[j]? = some o→XFact P ops ts0 al m an va H0 H1 V G j o:=by
   intro hw hg
   rw [Ki] at hg
   obtain ⟨v,h1,h2⟩:=hg.out
   rw [Zl,Yg] at h2
   refine step v h2 fun V e=> .inr ⟨e2,.inr ⟨e ▸ hw,?_⟩⟩
   rw [← e]
   exact K6.less P al m H0 H1 (U1 ops ts0 hnd i o vs _) (pureX_sound P al m H0 H1 h1)
  have skip: ∀ (hw:Qq ops o (Je i o ops.toList 0 vs ts0)=some false),(snocE vs (.tp []) fun vs'=>Kk P ops ts0 al m an va H0 H1 K (i+1) r vs') →
    ∃ (V:List VV) (G:Nat→Heap),(∃ a,V=vs++a)∧V.length=ops.size∧G m=H1∧K V (G ops.size)∧ ∀ j o,i≤j→ops.toList[j]? = some o→XFact P ops ts0 al m an va H0 H1 V G j o:=by
   intro hw hg
   rw [Yg] at hg
   exact step _ hg fun V e=> .inr ⟨e2,.inl ⟨e ▸ hw,rfl⟩⟩
  split at h
  ·rename_i hg
   exact go (by simp [Qq,hg]) h
  ·rename_i j want hg
   split at h
   case h_2=>exact h.elim
   rename_i hwt
   have hgd':=hgd i o j want ho hg
   have hval: ∀ u,vs[j]? = some u→ ∃ d,(ops[j]?).bind (·.dst)=some d∧(Je i o ops.toList 0 vs ts0)[d]? = some u:=fun u hu=>by
    cases hd2:(ops[j]?).bind (·.dst) with
    | none=>rw [hd2] at hgd';cases hgd'
    | some d =>
     refine ⟨d,rfl,?_⟩
     cases hx:ops[j]? with
     | none=>rw [hx] at hd2;cases hd2
     | some x =>
      rw [hx] at hd2
      have hx':ops.toList[j]? = some x:=by simpa using hx
      have hxd:x.dst=some d:=hd2
      have:=(Kd i o ops.toList 0 vs ts0 hnd).2.2 j d x hx' hxd (hbd j x hx' d hxd)
      rw [this,Nat.zero_add,hwt,hu]
      rfl
   split at h
   ·rename_i b hb3
    obtain ⟨d,e1,e2⟩:=hval _ hb3
    simp only [W7] at h
    cases b with
    | true =>
     simp only [ifB] at h
     rw [Zu hb3] at h
     cases want with
     | true=>exact go (by simp [Qq,hg,e1,e2]) h
     | false=>exact skip (by simp [Qq,hg,e1,e2]) h
    | false =>
     simp only [ifB] at h
     rw [Zu hb3] at h
     cases want with
     | false=>exact go (by simp [Qq,hg,e1,e2]) h
     | true=>exact skip (by simp [Qq,hg,e1,e2]) h
   ·rename_i hb3
    obtain ⟨d,e1,e2⟩:=hval _ hb3
    exact skip (by simp [Qq,hg,e1,e2]) h
   ·exact h.elim
end
theorem cnt_ev (al m i:Nat) (hi:m≤i): ∀ n,cnt (fun j=>((Nat.beq j al&&Nat.blt al m) || Nat.ble m j)&&Nat.blt j i) n=(if al < m∧al < n then 1 else 0)+(min n i - m)
 | 0=>by simp [cnt]
 | n+1=>by
  rw [cnt,cnt_ev al m i hi n]
  have e1:Nat.beq n al=decide (n=al):=by
   rcases Jy n al with ⟨h,e⟩|⟨h,e⟩ <;> simp [h,e]
  have e2:Nat.blt al m=decide (al < m):=by
   by_cases h:al < m
   ·rw [decide_eq_true h];exact Qz.2 h
   ·rw [decide_eq_false h]
    cases hb:Nat.blt al m
    ·rfl
    ·exact absurd (Qz.1 hb) h
  have e3:Nat.ble m n=decide (m≤n):=by
   by_cases h:m≤n
   ·rw [decide_eq_true h];exact Nat.ble_eq_true_of_le h
   ·rw [decide_eq_false h]
    cases hb:Nat.ble m n
    ·rfl
    ·exact absurd (Nat.le_of_ble_eq_true hb) h
  have e4:Nat.blt n i=decide (n < i):=by
   by_cases h:n < i
   ·rw [decide_eq_true h];exact Qz.2 h
   ·rw [decide_eq_false h]
    cases hb:Nat.blt n i
    ·rfl
    ·exact absurd (Qz.1 hb) h
  rw [e1,e2,e3,e4]
  have f2:(if al < m∧al < n+1 then 1 else 0)=(if al < m∧al < n then 1 else 0)+(if n=al∧al < m then 1 else 0):=by
   (repeat' split) <;> omega
  have f3:min (n+1) i - m=(min n i - m)+(if m≤n∧n < i then 1 else 0):=by
   split <;> omega
  rw [f2,f3]
  cases hb:((decide (n=al)&&decide (al < m) || decide (m≤n))&&decide (n < i)) with
  | true =>
   simp only [Bool.and_eq_true,Bool.or_eq_true,decide_eq_true_eq] at hb
   show _+1=_
   by_cases c1:n=al∧al < m
   ·rw [if_pos c1,if_neg (show ¬ (m≤n∧n < i) by omega)];omega
   ·rw [if_neg c1,if_pos (show m≤n∧n < i by omega)];omega
  | false =>
   have hb: ¬ (((n=al∧al < m)∨m≤n)∧n < i):=fun q=>by
    have:((decide (n=al)&&decide (al < m) || decide (m≤n))&&decide (n < i))=true:=by
     simp only [Bool.and_eq_true,Bool.or_eq_true,decide_eq_true_eq];exact q
    rw [hb] at this;cases this
   show _+0=_
   rw [if_neg (show ¬ (n=al∧al < m) by omega),if_neg (show ¬ (m≤n∧n < i) by omega)];omega
def allocAt (P:Program) (ops:Array Oper) (al:Nat) (H:Heap):Option (VV×Heap):=match ops.toList[al]? with
 | some o=>match o.op,o.guard with
  | .alloc t,none=>valloc P t H
  | _,_=>none
 | none=>some (.junk,H)
def goX (P:Program) (ops:Array Oper) (ts0:List VV) (al m:Nat) (H:Heap) (K:List VV→Heap→Prop):Prop:=match allocAt P ops al H with
 | some (va,H1)=>forceNL (Ys ops.toList m [m]) fun an=>Kk P ops ts0 al m an va H H1 K 0 ops.toList []
 | none=>False
theorem GWP.drawX {P:Program} {r:Option Nat} {id:Nat} {ops:Array Oper} {Q:Exit→VSt→Prop} {s:VSt} (hm:P.follows .mixedOrders=true) (al m n:Nat) (hb:(backN 0 ops.toList&&nodupN (dstsOf ops.toList)&&fitN n ops&&Ny ops.toList al m&&(Nat.blt al m || Nat.beq al ops.size))=true) (hlen:s.tmps.length=n)
  (h:match s with|⟨ts0,H,md⟩=>goX P ops ts0 al m H (fun V H'=>tAllE ops.toList V ts0 fun ts=>Q .normal ⟨ts,H',md⟩)):GWP P r (.region id ops true) Q s:=⟨by
 obtain ⟨ts0,H,md⟩:=s
 simp only [Bool.and_eq_true] at hb
 obtain ⟨⟨⟨⟨hb1,hb2⟩,hb3⟩,hb4⟩,hb5⟩:=hb
 have hback: ∀ i o,ops.toList[i]? = some o→ ∀ e∈o.after.toList,Xm e=true→e.on < i:=fun i o ho e he hbe=>by
  have:=Wl hb1 i o ho e he hbe
  omega
 have hlen:ts0.length=n:=hlen
 have hfit: ∀ (i:Nat) (o:Oper),ops.toList[i]? = some o→(∀ d,o.dst=some d→d < ts0.length)∧ ∀ (j:Nat) (w:Bool),o.guard=some (j,w)→((ops[j]?).bind (fun x:Oper=>x.dst)).isSome=true:=fun i o ho=>by
  have:=List.all_eq_true.1 hb3 o (List.mem_of_getElem? ho)
  simp only [Bool.and_eq_true] at this
  refine ⟨fun d hd=> ?_,fun j w hg=> ?_⟩
  ·have h1:=this.1
   rw [hd] at h1
   rw [hlen]
   exact Nat.le_of_ble_eq_true h1
  ·have h1:=this.2
   rw [hg] at h1
   exact h1
 have hta:=tail_anc hb4
 have hmle:m≤ops.size:=by
  have:=hb4
  simp only [Ny,Bool.or_eq_true,Bool.and_eq_true] at this
  rcases this with this|this
  ·have:=Nat.eq_of_beq_eq_true this
   simp at this
   omega
  ·have:=Nat.le_of_ble_eq_true this.1.1.1
   simpa using this
 have hnog: ∀ i o,m≤i→ops.toList[i]? = some o→o.guard=none:=fun i o hi ho=>by
  have:=hb4
  simp only [Ny,Bool.or_eq_true,Bool.and_eq_true] at this
  rcases this with this|this
  ·have h1:=Nat.eq_of_beq_eq_true this
   have h2:=(List.getElem?_eq_some_iff.1 ho).1
   omega
  have h1:=List.all_eq_true.1 this.1.2 o (List.mem_of_getElem? (i:=i - m) (by rw [List.getElem?_drop,show m+(i - m)=i by omega];exact ho))
  simpa using h1
 have h:goX P ops ts0 al m H (fun V H'=>tAllE ops.toList V ts0 fun ts=>Q .normal ⟨ts,H',md⟩):=h
 unfold goX at h
 split at h
 case h_2=>exact h.elim
 rename_i va H1 hal
 rw [Wy] at h
 obtain ⟨V,G,_,hl,hG,hk,hq⟩:=wdrawX_sound P ops ts0 al m (Ys ops.toList m [m]) va H H1 _ hback (Zw hb2) (fun i o ho=>(hfit i o ho).1) (fun i o j w ho=>(hfit i o ho).2 j w) hmle ops.toList 0 [] rfl rfl (Nat.zero_le _) h
 rw [Un] at hk
 have hblt:Nat.blt al m=decide (al < m):=by
  by_cases h:al < m
  ·rw [decide_eq_true h];exact Qz.2 h
  ·rw [decide_eq_false h]
   cases hb:Nat.blt al m
   ·rfl
   ·exact absurd (Qz.1 hb) h
 have halw:al < m∨(ops.size≤al∧H1=H):=by
  simp only [Bool.or_eq_true] at hb5
  rcases hb5 with h5|h5
  ·exact .inl (Qz.1 h5)
  ·have h5:=Nat.eq_of_beq_eq_true h5
   refine .inr ⟨by omega,?_⟩
   unfold allocAt at hal
   rw [List.getElem?_eq_none (by simp;omega)] at hal
   simp at hal
   exact hal.2.symm
 have halo:al < m→ ∃ o,ops.toList[al]? = some o∧o.guard=none∧ ∀ ts,vop P o ts H=some (va,H1):=fun hlt=>by
  unfold allocAt at hal
  rw [List.getElem?_eq_getElem (show al < ops.toList.length by simp;omega)] at hal
  simp only at hal
  split at hal
  ·rename_i t ho hg
   exact ⟨_,List.getElem?_eq_getElem _,hg,fun ts=>by simp only [vop,ho];exact hal⟩
  ·cases hal
 -- the heap behind so many events
 have hcnt:=fun i hi=>cnt_ev al m i hi ops.size
 have hcntA:cnt (fun j=>(Nat.beq j al&&Nat.blt al m) || Nat.ble m j) ops.size=(if al < m then 1 else 0)+(ops.size - m):=by
  have h1:=hcnt ops.size hmle
  have h2:cnt (fun j=>((Nat.beq j al&&Nat.blt al m) || Nat.ble m j)&&Nat.blt j ops.size) ops.size=cnt (fun j=>(Nat.beq j al&&Nat.blt al m) || Nat.ble m j) ops.size:=J7 fun j hj=>by
   have:Nat.blt j ops.size=true:=Qz.2 hj
   rw [this,Bool.and_true]
  rw [← h2,h1]
  by_cases c:al < m
  ·rw [if_pos ⟨c,by omega⟩,if_pos c];omega
  ·rw [if_neg (by omega),if_neg c];omega
 refine VWP.draw (vals:=V) (G:=fun c=>if al < m then (if c=0 then H else G (m+(c - 1))) else G (m+c)) (ev:=fun j=>(Nat.beq j al&&Nat.blt al m) || Nat.ble m j) hm
  ⟨by simpa using hl.symm,Zw hb2,hback,fun i j hi h1 h2 hji=> ?_,fun i o ho hw=> ?_,fun i o ho=> ?_,fun i o v ho hw hev hv=> ?_,fun i o v p ho hw hev hv hA hD=> ?_⟩ ?_ ?_
 · -- order
  have him:m≤i:=by
   rcases Bool.or_eq_true_iff.1 h1 with q|q
   ·rcases Bool.or_eq_true_iff.1 h2 with q2|q2
    ·simp only [Bool.and_eq_true] at q q2
     have:=Nat.eq_of_beq_eq_true q.1
     have:=Nat.eq_of_beq_eq_true q2.1
     omega
    ·simp only [Bool.and_eq_true] at q
     have:=Nat.eq_of_beq_eq_true q.1
     have:=Nat.le_of_ble_eq_true q2
     have:=Qz.1 q.2
     omega
   ·exact Nat.le_of_ble_eq_true q
  have:=hta (i - m) j (by simp;omega) (by omega) fun hjm=>by
   rcases Bool.or_eq_true_iff.1 h2 with q2|q2
   ·simp only [Bool.and_eq_true] at q2
    have e:=Nat.eq_of_beq_eq_true q2.1
    have h5:=hb4
    simp only [Ny,Bool.or_eq_true,Bool.and_eq_true] at h5
    rcases h5 with h5|h5
    ·have:=Nat.eq_of_beq_eq_true h5;simp at this;omega
    ·rcases h5.2 with h6|h6
     ·rw [e];exact Qp.1 h6
     ·have:=Nat.eq_of_beq_eq_true h6;simp at this;omega
   ·have:=Nat.le_of_ble_eq_true q2;omega
  rwa [show m+(i - m)=i by omega] at this
 · -- skip
  obtain ⟨v,h1,h2⟩:=hq i o (Nat.zero_le _) ho
  have hil:i < ops.size:=by have:=(List.getElem?_eq_some_iff.1 ho).1;simpa using this
  by_cases hmi:m≤i
  ·have:=hnog i o hmi ho
   simp [Qq,this] at hw
  ·rw [decide_eq_false hmi] at h2
   rcases h2 with ⟨e,_⟩|⟨ne,⟨_,rfl⟩|⟨h2,_⟩⟩
   ·subst e
    obtain ⟨o2,g1,g2,_⟩:=halo (by omega)
    rw [ho] at g1;injection g1 with g1;subst g1
    simp [Qq,g2] at hw
   ·refine ⟨h1,?_⟩
    rw [Bool.or_eq_false_iff]
    constructor
    ·rw [Bool.and_eq_false_iff]
     by_cases e:i=al
     ·subst e
      right
      cases hbb:Nat.blt i m
      ·rfl
      ·obtain ⟨o2,g1,g2,_⟩:=halo (Qz.1 hbb)
       rw [ho] at g1;injection g1 with g1;subst g1
       simp [Qq,g2] at hw
     ·left
      rcases Jy i al with ⟨_,e2⟩|⟨h3,_⟩
      ·exact absurd e2 e
      ·exact h3
    ·cases hbb:Nat.ble m i
     ·rfl
     ·exact absurd (Nat.le_of_ble_eq_true hbb) hmi
   ·rw [hw] at h2;simp at h2
 · -- wanted is known
  obtain ⟨v,h1,h2⟩:=hq i o (Nat.zero_le _) ho
  by_cases hmi:m≤i
  ·simp [Qq,hnog i o hmi ho]
  ·rw [decide_eq_false hmi] at h2
   rcases h2 with ⟨e,_⟩|⟨ne,⟨h2,_⟩|⟨h2,_⟩⟩
   ·subst e
    obtain ⟨o2,g1,g2,_⟩:=halo (by omega)
    rw [ho] at g1;injection g1 with g1;subst g1
    simp [Qq,g2]
   ·rw [h2];simp
   ·rw [h2];simp
 · -- events
  obtain ⟨u,h1,h2⟩:=hq i o (Nat.zero_le _) ho
  rw [hv] at h1;injection h1 with h1;subst h1
  have hil:i < ops.size:=by have:=(List.getElem?_eq_some_iff.1 ho).1;simpa using this
  by_cases hmi:m≤i
  ·rw [decide_eq_true hmi] at h2
   simp only at h2
   have hc:=hcnt i hmi
   have hmin:min ops.size i=i:=by omega
   rw [hmin] at hc
   rw [hc]
   by_cases c:al < m
   ·simp only [if_pos c,if_pos (And.intro c (show al < ops.size by omega))]
    rw [if_neg (by omega),if_neg (by omega),show m+(1+(i - m) - 1)=i by omega,show m+(1+(i - m)+1 - 1)=i+1 by omega]
    exact h2
   ·simp only [if_neg c,if_neg (show ¬ (al < m∧al < ops.size) by omega)]
    rw [show m+(0+(i - m))=i by omega,show m+(0+(i - m)+1)=i+1 by omega]
    exact h2
  ·have hia:i=al∧al < m:=by
    rcases Bool.or_eq_true_iff.1 hev with q|q
    ·simp only [Bool.and_eq_true] at q
     exact ⟨Nat.eq_of_beq_eq_true q.1,Qz.1 q.2⟩
    ·exact absurd (Nat.le_of_ble_eq_true q) hmi
   obtain ⟨rfl,hlt⟩:=hia
   obtain ⟨o2,g1,g2,g3⟩:=halo hlt
   rw [ho] at g1;injection g1 with g1;subst g1
   rw [decide_eq_false hmi] at h2
   have hc0:cnt (fun j=>((Nat.beq j i&&Nat.blt i m) || Nat.ble m j)&&Nat.blt j i) ops.size=0:=by
    rw [J7 (g:=fun _=>false) fun j hj=> ?_]
    ·exact Co _
    ·cases hbb:Nat.blt j i
     ·simp
     ·have hji:=Qz.1 hbb
      have e1:Nat.beq j i=false:=by
       rcases Jy j i with ⟨_,e⟩|⟨h3,_⟩
       ·omega
       ·exact h3
      have e2:Nat.ble m j=false:=by
       cases hq2:Nat.ble m j
       ·rfl
       ·have:=Nat.le_of_ble_eq_true hq2;omega
      simp [e1,e2]
   rw [hc0]
   simp only [if_pos hlt,if_true]
   rw [if_neg (by omega),show m+(0+1 - 1)=m by omega,hG]
   have hvv:v=va:=by
    rcases h2 with ⟨_,e⟩|⟨ne,_⟩
    ·exact e
    ·exact absurd rfl ne
   subst hvv
   exact Q3.plain (g3 _)
 · -- the others
  obtain ⟨u,h1,h2⟩:=hq i o (Nat.zero_le _) ho
  rw [hv] at h1;injection h1 with h1;subst h1
  rcases Bool.or_eq_false_iff.1 hev with ⟨k1,k2⟩
  have hmi: ¬ m≤i:=fun hh=>by rw [Nat.ble_eq_true_of_le hh] at k2;cases k2
  rw [decide_eq_false hmi] at h2
  rcases h2 with ⟨e,_⟩|⟨ne,⟨h2,_⟩|⟨_,q⟩⟩
  ·subst e
   have hlt:i < m:=by omega
   rw [hblt,decide_eq_true hlt,Bool.and_true] at k1
   simp [Nat.beq_refl] at k1
  ·rw [hw] at h2;simp at h2
  ·unfold K6 at q
   cases hfl:Zo ops.size m (Ys ops.toList m [m]) i with
   | false=>rw [hfl] at q;exact q _
   | true =>
    rw [hfl] at q
    obtain ⟨q1,q2⟩:=q
    have hd:=hD (fun j=>Nat.ble m j&&Nat.blt j ops.size) fun j hj=>by
     simp only [Bool.and_eq_true] at hj
     have hmj:=Nat.le_of_ble_eq_true hj.1
     have hjs:=Qz.1 hj.2
     refine ⟨by simp [hj.1],?_⟩
     have:=hta (j - m) i (by simp;omega) (by omega) fun _=>by
      unfold Zo at hfl
      split at hfl
      ·rename_i hbq
       have:=Nat.eq_of_beq_eq_true hbq
       omega
      ·exact Qp.1 hfl
     rwa [show m+(j - m)=j by omega] at this
    have hcd:cnt (fun j=>Nat.ble m j&&Nat.blt j ops.size) ops.size=ops.size - m:=by
     have h3:=cnt_ev ops.size m ops.size hmle ops.size
     rw [if_neg (by omega)] at h3
     rw [show ops.size - m=0+(min ops.size ops.size - m) by omega,← h3]
     refine J7 fun j hj=> ?_
     have:Nat.blt ops.size m=false:=by
      cases hbb:Nat.blt ops.size m
      ·rfl
      ·have:=Qz.1 hbb;omega
     simp [this]
    rw [hcd,hcntA] at hd
    by_cases c:al < m
    ·simp only [if_pos c] at hd ⊢
     by_cases hp:p=0
     ·simp only [if_pos hp];exact q1
     ·have:p=1:=by omega
      subst this
      simp only [if_neg (show ¬ (1:Nat)=0 by omega),Nat.sub_self,Nat.add_zero,hG]
      exact q2 c
    ·simp only [if_neg c] at hd ⊢
     have:p=0:=by omega
     subst this
     rcases halw with q|⟨_,e⟩
     ·exact absurd q c
     ·rw [Nat.add_zero,hG,e];exact q1
 · -- the first heap
  by_cases c:al < m
  ·simp only [if_pos c,if_true]
  ·simp only [if_neg c,Nat.add_zero,hG]
   rcases halw with q|⟨_,e⟩
   ·exact absurd q c
   ·exact e
 · -- the last
  rw [hcntA]
  by_cases c:al < m
  ·simp only [if_pos c]
   by_cases hz:1+(ops.size - m)=0
   ·omega
   ·rw [if_neg hz,show m+(1+(ops.size - m) - 1)=ops.size by omega];exact hk
  ·simp only [if_neg c]
   rw [show m+(0+(ops.size - m))=ops.size by omega];exact hk⟩
def firstAl:List Oper→Nat
 | []=>0
 | o::r=>match o.op with
  | .alloc _=>0
  | _=>firstAl r+1
def evOp (o:Op):Bool:=match o with
 | .store _ _ _=>true
 | .makeSlice _ _ _=>true
 | .box _ _=>true
 | .call ⟨.builtin .append,_,_⟩=>true
 | .call ⟨.builtin .copy,_,_⟩=>true
 | _=>false
def firstEv:List Oper→Nat
 | []=>0
 | o::r=>match evOp o.op with
  | true=>0
  | false=>firstEv r+1
theorem GWP.drawY {P:Program} {r:Option Nat} {id:Nat} {ops:Array Oper} {Q:Exit→VSt→Prop} {s:VSt} (hm:P.follows .mixedOrders=true) (n:Nat) (hb:(backN 0 ops.toList&&nodupN (dstsOf ops.toList)&&fitN n ops&&Ny ops.toList (firstAl ops.toList) (firstEv ops.toList)&&(Nat.blt (firstAl ops.toList) (firstEv ops.toList) || Nat.beq (firstAl ops.toList) ops.size))=true) (hlen:s.tmps.length=n)
  (h:match s with|⟨ts0,H,md⟩=>goX P ops ts0 (firstAl ops.toList) (firstEv ops.toList) H (fun V H'=>tAllE ops.toList V ts0 fun ts=>Q .normal ⟨ts,H',md⟩)):GWP P r (.region id ops true) Q s:=GWP.drawX hm _ _ n hb hlen h
end Go.Proofs.YtpbiblhkcomekaaGreat
namespace Go.Proofs.YtpbiblhkcomekaaGreat
open Go Go.RowKit
set_option linter.unusedSimpArgs false
set_option linter.unusedVariables false
def Yr (D:List Nat):List (Nat×VObj)→List (Nat×VObj)
 | []=> []
 | (k,x)::r=>match Jl k D with
  | true=>(k,x)::Yr D r
  | false=>Yr D r
theorem X4 (D:List Nat) (b:Nat): ∀ (O:List (Nat×VObj)),hget (Yr D O) b=match Jl b D with
  | true=>hget O b
  | false=>none
 | []=>by simp only [Yr,hget];split <;> rfl
 | (k,x)::r=>by
  have ih:=X4 D b r
  unfold Yr
  rw [Qy k b x r]
  by_cases e:k=b
  ·subst e
   cases hm:Jl k D with
   | true=>simp only [Qy,if_true]
   | false=>rw [hm] at ih;simp only [ih]
  ·rw [if_neg e]
   cases hm:Jl k D with
   | true=>simp only [Qy,if_neg e];exact ih
   | false=>exact ih
theorem Kp (D:List Nat) (b:Nat): ∀ (O:List (Nat×VObj)),hget (Qs D O) b=match Jl b D with
  | true=>none
  | false=>hget O b
 | []=>by simp only [Qs,hget];split <;> rfl
 | (k,x)::r=>by
  have ih:=Kp D b r
  unfold Qs
  rw [Qy k b x r]
  by_cases e:k=b
  ·subst e
   cases hm:Jl k D with
   | true=>rw [hm] at ih;simp only [ih]
   | false=>simp only [Qy,if_true]
  ·rw [if_neg e]
   cases hm:Jl k D with
   | true=>exact ih
   | false=>simp only [Qy,if_neg e];exact ih
def Jm (R:List (Nat×Nat)) (n1 nx:Nat):Nat→List (Nat×Nat)
 | 0=>R.map fun p=>(p.2,p.1)
 | k+1=>(n1+k,nx+k)::Jm R n1 nx k
theorem backR_mem {R:List (Nat×Nat)} {n1 nx:Nat}: ∀ {k:Nat} {p:Nat×Nat},p∈Jm R n1 nx k→(∃ q∈R,p=(q.2,q.1))∨ ∃ i,i < k∧p=(n1+i,nx+i)
 | 0,p,h=>by
  obtain ⟨q,h1,h2⟩:=List.mem_map.1 h
  exact .inl ⟨q,h1,h2.symm⟩
 | k+1,p,h=>by
  rcases List.mem_cons.1 h with rfl|h
  ·exact .inr ⟨k,Nat.lt_succ_self _,rfl⟩
  ·rcases backR_mem h with h|⟨i,h1,h2⟩
   ·exact .inl h
   ·exact .inr ⟨i,Nat.lt_succ_of_lt h1,h2⟩
structure Back (R:List (Nat×Nat)) (n1 nx:Nat) (K1:Heap) (v u:VV) (O2:List (Nat×VObj)):Prop where
 wf:(wfR 0 (nx+(K1.next - n1)) (Jm R n1 nx (K1.next - n1))&&nodupB (Zy (Jm R n1 nx (K1.next - n1)) 0 O2)&&O2.all (fun p=>(srcN (Jm R n1 nx (K1.next - n1)) p.1).isSome)&&O2.all (fun p=>p.2.rw))=true
 val:Qi (Jm R n1 nx (K1.next - n1)) 0 v u
 objs:W1 (Jm R n1 nx (K1.next - n1)) 0 K1 O2
section
variable {P:Program} {f:FuncId} {args args':List VV} {H:Heap} {O1:List (Nat×VObj)} {n1:Nat} {Q Q':VV→Heap→Prop}
theorem Q7 (R:List (Nat×Nat)) (b:Nat):Xb R 0 b=srcN R b:=Kw (Nat.zero_le _)
theorem Qc.ren (R:List (Nat×Nat)) (hw:(wfR 0 n1 R&&nodupB (Zy R 0 O1)&&O1.all fun p=>Nat.blt p.1 n1)=true) (hren:W1 R 0 H O1) (hargs:Qe R 0 args args') (h:Qc P f args' ⟨O1,n1⟩ Q)
  (hQ: ∀ v K1,Q v K1→ ∃ u O2,Back R n1 H.next K1 v u O2∧Q' u ⟨O2,H.next+(K1.next - n1)⟩):Qc P f args H Q':=fun B M Z ρ w ra h1 h2=>by
 simp only [Bool.and_eq_true] at hw
 obtain ⟨⟨k1,k2⟩,k3⟩:=hw
 have hH:=hren.toH
 have hl:N6 R 0 ρ (fun b=>(srcN R b).bind ρ):=⟨fun b hb=>by omega,fun p hp c hc=>by
  obtain ⟨g1,g2,g3⟩:=Xe k1 p hp
  simp only [g3,Option.bind_some]
  exact hc⟩
 have r1:Rel B M Z (fun b=>(srcN R b).bind ρ) ⟨O1,n1⟩ w:=by
  refine ⟨h1.glob,h1.os,h1.tape,h1.output,h1.size,h1.frame,fun b hb=> ?_,fun b x hx=> ?_,?_,?_,h1.zlt⟩
  ·have hb:n1≤b:=hb
   show (srcN R b).bind ρ=none
   cases hs:srcN R b with
   | none=>rfl
   | some a =>
    have:=(Xe k1 _ (Xr hs)).2.1
    simp only at this
    omega
  ·have g5:(b,x)∈O1:=by
    rcases hH.get hx with ⟨_,_,g⟩|⟨a,x0,g1,g2,g3,g4,g5⟩
    ·exact g
    ·exact g5
   have:=List.all_eq_true.1 k3 _ g5
   exact Qz.1 this
  ·intro b b' k N N' x x' hx hx' hb hb'
   obtain ⟨c,hc,_⟩:=Option.bind_eq_some_iff.1 hb
   obtain ⟨c',hc',_⟩:=Option.bind_eq_some_iff.1 hb'
   obtain ⟨a,x0,g1,g2,g3,g4,_⟩:=hH.getK hx ((Q7 R b).trans hc)
   obtain ⟨a',x0',g1',g2',g3',g4',_⟩:=hH.getK hx' ((Q7 R b').trans hc')
   rw [Q7] at g1 g1'
   simp only [g1,g1',Option.bind_some] at hb hb'
   have:=h1.inj a a' k N N' x0 x0' g2 g2' hb hb'
   subst this
   exact hH.inj k2 hx hx' ((Q7 R b).trans g1) ((Q7 R b').trans g1')
  ·intro b x hx
   rcases hH.get hx with ⟨g1,g2,_⟩|⟨a,x0,g1,g2,g3,g4,_⟩
   ·rw [Q7] at g1
    exact .inl ⟨g2,by simp only [g1,Option.bind_none]⟩
   rw [Q7] at g1
   rcases h1.obj a x0 g2 with ⟨q1,q2⟩|⟨k,N,o,q1,q2,q3,q4,q5⟩
   ·exact .inl ⟨g3.ghost q1,by simp only [g1,Option.bind_some];exact q2⟩
   exact .inr ⟨k,N,o,by simp only [g1,Option.bind_some];exact q1,q2,g3.orel hl q3,q4,fun h=>q5 (by rw [← g3.rw];exact h)⟩
 refine (h B M Z _ w ra r1 (hargs.pw hl h2)).mono fun e w' ⟨v',v,K1,Z',ρ2,he,q,e1,r2,v2⟩=> ?_
 obtain ⟨u,O2,hb,q'⟩:=hQ v K1 q
 obtain ⟨hwf,hval,hobj⟩:=hb
 simp only [Bool.and_eq_true] at hwf
 obtain ⟨⟨⟨w1,w2⟩,w3⟩,w4⟩:=hwf
 generalize hR2:Jm R n1 H.next (K1.next - n1)=R2 at *
 generalize hnx:H.next+(K1.next - n1)=nx2 at *
 have hO:=hobj.toH
 -- what the names stand for
 have key: ∀ p∈R2,(if p.2 < H.next then ρ p.2 else (srcN R2 p.2).bind ρ2)=ρ2 p.1:=by
  intro p hp
  obtain ⟨g1,g2,g3⟩:=Xe w1 p hp
  by_cases hlt:p.2 < H.next
  ·rw [if_pos hlt]
   rw [← hR2] at hp
   rcases backR_mem hp with ⟨q0,hq,rfl⟩|⟨i,hi,rfl⟩
   ·obtain ⟨f1,f2,f3⟩:=Xe k1 q0 hq
    have:=e1.rold q0.2 f2
    simp only [f3,Option.bind_some] at this
    exact this.symm
   ·simp only at hlt;omega
  ·rw [if_neg hlt,g3];rfl
 have hl2:N6 R2 0 ρ2 (fun b=>if b < H.next then ρ b else (srcN R2 b).bind ρ2):=⟨fun b hb=>by omega,fun p hp c hc=>by
  show (if p.2 < H.next then ρ p.2 else (srcN R2 p.2).bind ρ2)=some c
  rw [key p hp];exact hc⟩
 refine ⟨v',u,_,Z',fun b=>if b < H.next then ρ b else (srcN R2 b).bind ρ2,he,q',⟨by show H.next≤nx2;omega,fun b hb=>if_pos hb,e1.zsub,fun b k hk=> ?_,e1.keep,e1.size,e1.znew⟩,?_,hval _ _ _ _ _ hl2 v2⟩
 ·have hlt:b < H.next:=by
   rcases Nat.lt_or_ge b H.next with g|g
   ·exact g
   ·rw [h1.dom b g] at hk;cases hk
  rw [if_pos hlt];exact hk
 ·have src: ∀ b y,hget O2 b=some y→ ∃ a x,srcN R2 b=some a∧K1.get a=some x∧Jx R2 0 x y:=fun b y hy=>by
   rcases hO.get hy with ⟨g1,g2,g3⟩|⟨a,x,g1,g2,g3,g4,g5⟩
   ·have:=List.all_eq_true.1 w3 _ g3
    simp only at this
    rw [Q7] at g1
    rw [g1] at this
    cases this
   ·exact ⟨a,x,(Q7 R2 b).symm.trans g1,g2,g3⟩
  refine ⟨r2.glob,r2.os,r2.tape,r2.output,r2.size,r2.frame,fun b hb=> ?_,fun b x hx=> ?_,?_,?_,r2.zlt⟩
  ·have hb:nx2≤b:=hb
   show (if b < H.next then ρ b else (srcN R2 b).bind ρ2)=none
   rw [if_neg (by omega)]
   cases hs:srcN R2 b with
   | none=>rfl
   | some a =>
    have:=(Xe w1 _ (Xr hs)).2.1
    simp only at this
    omega
  ·obtain ⟨a,x0,g1,_⟩:=src b x hx
   exact (Xe w1 _ (Xr g1)).2.1
  ·intro b b' k N N' x x' hx hx' hb hb'
   obtain ⟨a,x0,g1,g2,g3⟩:=src b x hx
   obtain ⟨a',x0',g1',g2',g3'⟩:=src b' x' hx'
   have e2:=key (a,b) (Xr g1)
   have e2':=key (a',b') (Xr g1')
   simp only at e2 e2' hb hb'
   rw [e2] at hb
   rw [e2'] at hb'
   have:=r2.inj a a' k N N' x0 x0' g2 g2' hb hb'
   subst this
   exact hO.inj w2 hx hx' ((Q7 R2 b).trans g1) ((Q7 R2 b').trans g1')
  ·intro b x hx
   obtain ⟨a,x0,g1,g2,g3⟩:=src b x hx
   have e2:=key (a,b) (Xr g1)
   simp only at e2
   show (x.ghost=true∧(if b < H.next then ρ b else (srcN R2 b).bind ρ2)=none)∨_
   rcases r2.obj a x0 g2 with ⟨q1,q2⟩|⟨k,N,o,q1,q2,q3,q4,q5⟩
   ·exact .inl ⟨g3.ghost q1,e2.trans q2⟩
   exact .inr ⟨k,N,o,e2.trans q1,q2,g3.orel hl2 q3,q4,fun h=>q5 (by rw [← g3.rw];exact h)⟩
theorem Qc.at (D:List Nat) (R:List (Nat×Nat)) (hw:(wfR 0 n1 R&&nodupB (Zy R 0 O1)&&O1.all fun p=>Nat.blt p.1 n1)=true) (hren:W1 R 0 ⟨Yr D H.objs,H.next⟩ O1) (hargs:Qe R 0 args args') (h:Qc P f args' ⟨O1,n1⟩ Q)
  (hQ: ∀ v K1,Q v K1→ ∃ u O2,Back R n1 H.next K1 v u O2∧(O2.all fun p=> !(Jl p.1 ((Qs D H.objs).map (·.1))))=true∧Q' u ⟨O2++Qs D H.objs,H.next+(K1.next - n1)⟩):Qc P f args H Q':=by
 have hk:=fun b=>X4 D b H.objs
 have hr:=fun b=>Kp D b H.objs
 have h3:=Qc.ren (P:=P) (f:=f) (args:=args) (H:=⟨Yr D H.objs,H.next⟩) (Q':=fun u K=> ∃ v K1 O2,Q v K1∧Back R n1 H.next K1 v u O2∧(O2.all fun p=> !(Jl p.1 ((Qs D H.objs).map (·.1))))=true∧Q' u ⟨O2++Qs D H.objs,H.next+(K1.next - n1)⟩∧K=⟨O2,H.next+(K1.next - n1)⟩) R hw hren hargs h (fun v K1 q=>by
  obtain ⟨u,O2,b1,b2,b3⟩:=hQ v K1 q
  exact ⟨u,O2,b1,v,K1,O2,q,b1,b2,b3,rfl⟩)
 refine (Qc.framed (H:=H) ⟨Yr D H.objs,H.next⟩ (Qs D H.objs) rfl (fun b x hx=> ?_) (fun b x hx=> ?_) ⟨fun b x hx=> ?_⟩ h3 (fun u K q=> ?_)).mono ?_
 ·simp only [Heap.get] at hx ⊢
  rw [hk] at hx
  split at hx
  ·exact hx
  ·cases hx
 ·simp only [Heap.get]
  rw [hr] at hx
  split at hx
  ·cases hx
  ·exact hx
 ·simp only [Heap.get]
  rw [hr] at hx
  rw [hk]
  split at hx
  ·cases hx
  ·rfl
 ·obtain ⟨v,K1,O2,q1,b1,b2,b3,rfl⟩:=q
  have hwf:=b1.wf
  simp only [Bool.and_eq_true] at hwf
  refine ⟨allRw_of hwf.2,⟨fun b x hx=> ?_⟩⟩
  have hin:b∈(Qs D H.objs).map (·.1):=by
   have key: ∀ (l:List (Nat×VObj)),hget l b=some x→b∈l.map (·.1):=by
    intro l
    induction l with
    | nil=>intro h;simp [hget] at h
    | cons p r ih =>
     obtain ⟨k,y⟩:=p
     intro h
     rw [Qy] at h
     split at h
     ·rename_i e;subst e;simp
     ·exact List.mem_cons_of_mem _ (ih h)
   exact key _ hx
  cases ho:hget O2 b with
  | none=>exact ho
  | some y =>
   have hbo: ∃ p∈O2,p.1=b:=by
    have key: ∀ (l:List (Nat×VObj)),hget l b=some y→ ∃ p∈l,p.1=b:=by
     intro l
     induction l with
     | nil=>intro h;simp [hget] at h
     | cons p r ih =>
      obtain ⟨k,z⟩:=p
      intro h
      rw [Qy] at h
      split at h
      ·rename_i e;exact ⟨(k,z),by simp,e⟩
      ·obtain ⟨q,g1,g2⟩:=ih h
       exact ⟨q,List.mem_cons_of_mem _ g1,g2⟩
    exact key _ ho
   obtain ⟨p,hp,rfl⟩:=hbo
   have:=List.all_eq_true.1 b2 p hp
   rw [Qp.2 hin] at this
   cases this
 ·rintro u K2 ⟨K,⟨v,K1,O2,q1,b1,b2,b3,rfl⟩,rfl⟩
  exact b3
end
end Go.Proofs.YtpbiblhkcomekaaGreat
