import Derived.RangeFuncLeaves
import Derived.OrdersIn
import Derived.LoopNIn
import Derived.Below
import Derived.Laws.Sem
import Derived.Laws.World
import Derived.Laws.Cells
import Derived.Laws.IdiomCopy
import Derived.Laws.Entries
import Derived.MapKept
import Derived.Laws.Append
import Derived.Orders
import Derived.Laws.BytesString
/- A virtual heap for walks: values that name blocks by numbers of the walk's own, and what it means that they stand for values of the model in a world. No program in sight. -/
namespace Go.Proofs.YtpbiblhkcomekaaGreat
theorem mhA.{u} {α:Type u} {a:α} {l:List α}:a∈a::l:=List.Mem.head _
theorem mhB.{u} {α:Type u} {a b:α} {l:List α}:a∈b::a::l:=List.Mem.tail _ (List.Mem.head _)
theorem mhC.{u} {α:Type u} {a b c:α} {l:List α}:a∈b::c::a::l:=List.Mem.tail _ (List.Mem.tail _ (List.Mem.head _))
open Go Go.RowKit
set_option linter.unusedSimpArgs false
set_option linter.unusedVariables false
inductive VV where
 | sc (v:Value)
 | ptr (b o:Nat)
 | sl (b o n:Nat) (c:Option Nat) (z:Nat)
 | gs (b n z:Nat)
 | ro (n:Nat) (vs:List VV)
 | rp (vs:List VV) (o:Nat)
 | fn (f:Fn) (first capt:List VV)
 | yl (l:Nat)
 | mp (b:Nat)
 | ag (vs:List VV)
 | tp (vs:List VV)
 | ifc (t:TypeId) (v:VV)
 | junk
instance : Inhabited VV := ⟨.junk⟩
inductive VObj where
 | cells (rw:Bool) (vs:List VV)
 | loop (tmps:List VV) (params:List Tmp) (assign body:Code) (st:LoopState) (pend:Option Code) (d:Nat)
 | defs
 | gone
 | opt (vs:List VV)
 | raw (t:TypeId) (vs:List Value) (n:Option Nat)
 | map (ks:List Value) (vs:List VV)
instance : Inhabited VObj := ⟨.defs⟩
structure Heap where
 objs:List (Nat×VObj)
 next:Nat
def hget:List (Nat×VObj)→Nat→Option VObj
 | [],_=>none
 | (k,o)::r,b=>match Nat.beq k b with
  | true=>some o
  | false=>hget r b
def hset:List (Nat×VObj)→Nat→VObj→List (Nat×VObj)
 | [],_,_=> []
 | (k,o)::r,b,x=>match Nat.beq k b with
  | true=>(k,x)::r
  | false=>(k,o)::hset r b x
def hdel:List (Nat×VObj)→Nat→List (Nat×VObj)
 | [],_=> []
 | (k,o)::r,b=>match Nat.beq k b with
  | true=>hdel r b
  | false=>(k,o)::hdel r b
def Heap.get (H:Heap) (b:Nat):Option VObj:=hget H.objs b
def Heap.set (H:Heap) (b:Nat) (x:VObj):Heap:=⟨hset H.objs b x,H.next⟩
def Heap.del (H:Heap) (b:Nat):Heap:=⟨hdel H.objs b,H.next⟩
def Heap.add (H:Heap) (x:VObj):Heap:=⟨(H.next,x)::H.objs,H.next+1⟩
theorem Jy (k b:Nat):(Nat.beq k b=true∧k=b)∨(Nat.beq k b=false∧k≠b):=by
 cases h:Nat.beq k b
 ·exact .inr ⟨rfl,fun e=>by subst e;simp [Nat.beq_refl] at h⟩
 ·exact .inl ⟨rfl,Nat.eq_of_beq_eq_true h⟩
theorem Qy (k b:Nat) (o:VObj) (r:List (Nat×VObj)):hget ((k,o)::r) b=if k=b then some o else hget r b:=by
 rcases Jy k b with ⟨h,e⟩|⟨h,e⟩ <;> simp [hget,h,e]
theorem hget_set: ∀ (l:List (Nat×VObj)) (b c:Nat) (x:VObj),hget (hset l b x) c=if b=c then (if (hget l b).isSome then some x else none) else hget l c
 | [],b,c,x=>by simp [hset,hget]
 | (k,o)::r,b,c,x=>by
  rw [Qy,Qy]
  rcases Jy k b with ⟨h,e⟩|⟨h,e⟩
  ·subst e
   simp only [hset,h,Qy]
   by_cases h2:k=c <;> simp [h2]
  ·simp only [hset,h,Qy,e,if_false]
   rw [hget_set r b c x]
   by_cases h2:b=c
   ·subst h2;simp [e]
   ·simp [h2]
theorem hget_del: ∀ (l:List (Nat×VObj)) (b c:Nat),hget (hdel l b) c=if b=c then none else hget l c
 | [],b,c=>by simp [hdel,hget]
 | (k,o)::r,b,c=>by
  rcases Jy k b with ⟨h,e⟩|⟨h,e⟩
  ·subst e
   simp only [hdel,h,Qy,hget_del r k c]
   by_cases h2:k=c <;> simp [h2]
  ·simp only [hdel,h,Qy,hget_del r b c]
   by_cases h2:b=c
   ·subst h2;simp [e]
   ·simp [h2]
theorem Heap.get_add (H:Heap) (x:VObj) (b:Nat):(H.add x).get b=if H.next=b then some x else H.get b:=Qy _ _ _ _
theorem Heap.get_set (H:Heap) (b c:Nat) (x:VObj):(H.set b x).get c=if b=c then (if (H.get b).isSome then some x else none) else H.get c:=hget_set _ _ _ _
theorem Heap.get_del (H:Heap) (b c:Nat):(H.del b).get c=if b=c then none else H.get c:=hget_del _ _ _
def Pw (R:VV→Value→Prop) (vs:List VV) (cs:List Value):Prop:=vs.length=cs.length∧ ∀ (i:Nat) (u:VV) (c:Value),vs[i]? = some u→cs[i]? = some c→R u c
def Pre (R:VV→Value→Prop) (vs:List VV) (cs:List Value):Prop:= ∀ (i:Nat) (u:VV),vs[i]? = some u→ ∃ c,cs[i]? = some c∧R u c
inductive Qf (w:World) (Z:Nat→Prop) (ρ:Nat→Option (Nat×Nat)):VV→Value→Prop
 | sc {v:Value} (h:v.oneCell'=true):Qf w Z ρ (.sc v) v
 | ptr {b o k N:Nat} (h:ρ b=some (k,N)):Qf w Z ρ (.ptr b o) (.pointer (some ⟨k,o,none⟩))
 | sl {b o n k N c' z:Nat} {c:Option Nat} (h:ρ b=some (k,N)) (hn:n≤c') (hc: ∀ x,c=some x→c'=x) (hz:c=none→o+c'*z≤N):Qf w Z ρ (.sl b o n c z) (.slice (some ⟨k,o,none⟩) n c')
 | gs0 {b z:Nat} {a:Option Addr}:Qf w Z ρ (.gs b 0 z) (.slice a 0 0)
 | gs {b n k N c' z:Nat} (h:ρ b=some (k,N)) (hn:n≤c') (hz:c'*z≤N) (h0:n≠0):Qf w Z ρ (.gs b n z) (.slice (some ⟨k,0,none⟩) n c')
 | ro {n k o c':Nat} {vs:List VV} {cs:List Value} (hZ:Z k) (hn:n≤c') (hlen:vs.length=cs.length) (hcell: ∀ i,i < cs.length→w.cell? ⟨k,o+i,none⟩=cs[i]?)
   (hrel: ∀ (i:Nat) (u:VV) (c:Value),vs[i]? = some u→cs[i]? = some c→Qf w Z ρ u c):Qf w Z ρ (.ro n vs) (.slice (some ⟨k,o,none⟩) n c')
 | ro0 {a:Option Addr} {c':Nat}:Qf w Z ρ (.ro 0 []) (.slice a 0 c')
 | rp {k o o':Nat} {vs:List VV} {cs:List Value} (hZ:Z k) (hlen:vs.length=cs.length) (hcell: ∀ i,i < cs.length→w.cell? ⟨k,o+i,none⟩=cs[i]?)
   (hrel: ∀ (i:Nat) (u:VV) (c:Value),vs[i]? = some u→cs[i]? = some c→Qf w Z ρ u c):Qf w Z ρ (.rp vs o') (.pointer (some ⟨k,o+o',none⟩))
 | fn {f:Fn} {vs us:List VV} {cs ds:Array Value} (h1:vs.length=cs.toList.length) (r1: ∀ (i:Nat) (u:VV) (c:Value),vs[i]? = some u→cs.toList[i]? = some c→Qf w Z ρ u c)
   (h2:us.length=ds.toList.length) (r2: ∀ (i:Nat) (u:VV) (c:Value),us[i]? = some u→ds.toList[i]? = some c→Qf w Z ρ u c):Qf w Z ρ (.fn f vs us) (.func f cs ds)
 | yl {l k N:Nat} (h:ρ l=some (k,N)):Qf w Z ρ (.yl l) (.func (.yield k) #[] #[])
 | mp {b k N:Nat} (h:ρ b=some (k,N)):Qf w Z ρ (.mp b) (.map (some k))
 | ag {vs:List VV} {cs:Array Value} (h1:vs.length=cs.toList.length) (r1: ∀ (i:Nat) (u:VV) (c:Value),vs[i]? = some u→cs.toList[i]? = some c→Qf w Z ρ u c):Qf w Z ρ (.ag vs) (.agg cs)
 | tp {vs:List VV} {cs:Array Value} (h1:vs.length=cs.toList.length) (r1: ∀ (i:Nat) (u:VV) (c:Value),vs[i]? = some u→cs.toList[i]? = some c→Qf w Z ρ u c):Qf w Z ρ (.tp vs) (.tuple cs)
 | ifc {t:TypeId} {v:VV} {x:Value} (h:Qf w Z ρ v x):Qf w Z ρ (.ifc t v) (.iface t x)
 | junk {x:Value}:Qf w Z ρ .junk x
def own (B:World) (M:Nat→Prop) (k:Nat):Prop:=B.heap.size≤k∨M k
structure Ext (X:Nat→Prop) (n:Nat) (Z:Nat→Prop) (ρ:Nat→Option (Nat×Nat)) (w:World) (n':Nat) (Z':Nat→Prop) (ρ':Nat→Option (Nat×Nat)) (w':World):Prop where
 nle:n≤n'
 rold: ∀ b,b < n→ρ' b=ρ b
 zsub: ∀ k,Z k→Z' k
 rsub: ∀ b k,ρ b=some k→ρ' b=some k
 keep: ∀ k,Z k→w'.heap[k]? = w.heap[k]?
 size:w.heap.size≤w'.heap.size
 znew: ∀ k,Z' k→Z k∨w.heap.size≤k∨X k
theorem Ext.refl {X:Nat→Prop} (n:Nat) (Z:Nat→Prop) (ρ:Nat→Option (Nat×Nat)) (w:World):Ext X n Z ρ w n Z ρ w:=⟨Nat.le_refl _,fun _ _=>rfl,fun _ h=>h,fun _ _ h=>h,fun _ _=>rfl,Nat.le_refl _,fun _ h=> .inl h⟩
section
variable {X:Nat→Prop} {w w' w'':World} {Z Z' Z'':Nat→Prop} {ρ ρ' ρ'':Nat→Option (Nat×Nat)}
theorem Ext.trans {n n' n'':Nat} (h:Ext X n Z ρ w n' Z' ρ' w') (g:Ext X n' Z' ρ' w' n'' Z'' ρ'' w''):Ext X n Z ρ w n'' Z'' ρ'' w'' :=
 ⟨Nat.le_trans h.nle g.nle,fun b hb=>(g.rold b (Nat.lt_of_lt_of_le hb h.nle)).trans (h.rold b hb),fun k hk=>g.zsub k (h.zsub k hk),fun b k hk=>g.rsub b k (h.rsub b k hk),fun k hk=>(g.keep k (h.zsub k hk)).trans (h.keep k hk),Nat.le_trans h.size g.size,fun k hk=>(g.znew k hk).elim (h.znew k) (fun q=> .inr (q.imp (Nat.le_trans h.size) id))⟩
theorem Er {k o:Nat} (h:w'.heap[k]? = w.heap[k]?):w'.cell? ⟨k,o,none⟩=w.cell? ⟨k,o,none⟩:=by
 simp only [World.cell?,h]
theorem Qf.ext {n n':Nat} {v:VV} {x:Value} (h:Qf w Z ρ v x) (e:Ext X n Z ρ w n' Z' ρ' w'):Qf w' Z' ρ' v x:=by
 induction h with
 | sc h=>exact .sc h
 | ptr h=>exact .ptr (e.rsub _ _ h)
 | sl h hn hc hz=>exact .sl (e.rsub _ _ h) hn hc hz
 | gs0=>exact .gs0
 | gs h hn hz h0=>exact .gs (e.rsub _ _ h) hn hz h0
 | ro hZ hn hlen hcell _ ih=>exact .ro (e.zsub _ hZ) hn hlen (fun i hi=>(Er (e.keep _ hZ)).trans (hcell i hi)) ih
 | ro0=>exact .ro0
 | rp hZ hlen hcell _ ih=>exact .rp (e.zsub _ hZ) hlen (fun i hi=>(Er (e.keep _ hZ)).trans (hcell i hi)) ih
 | fn h1 _ h2 _ i1 i2=>exact .fn h1 i1 h2 i2
 | yl h=>exact .yl (e.rsub _ _ h)
 | mp h=>exact .mp (e.rsub _ _ h)
 | ag h1 _ ih=>exact .ag h1 ih
 | tp h1 _ ih=>exact .tp h1 ih
 | ifc _ ih=>exact .ifc ih
 | junk=>exact .junk
theorem Pw.mono {R R':VV→Value→Prop} {vs:List VV} {cs:List Value} (h:Pw R vs cs) (hr: ∀ u c,R u c→R' u c):Pw R' vs cs:=⟨h.1,fun i u c a b=>hr u c (h.2 i u c a b)⟩
theorem Pw.nil {R:VV→Value→Prop}:Pw R [] []:=⟨rfl,fun i u c h=>by simp at h⟩
theorem Pw.cons {R:VV→Value→Prop} {v:VV} {x:Value} {vs:List VV} {cs:List Value} (h:R v x) (t:Pw R vs cs):Pw R (v::vs) (x::cs):=by
 refine ⟨by simp [t.1],fun i u c hu hc=> ?_⟩
 cases i with
 | zero=>simp at hu hc;subst hu hc;exact h
 | succ i=>simp at hu hc;exact t.2 i u c hu hc
theorem Pw.append {R:VV→Value→Prop} {vs us:List VV} {cs ds:List Value} (h:Pw R vs cs) (t:Pw R us ds):Pw R (vs++us) (cs++ds):=by
 refine ⟨by simp [h.1,t.1],fun i u c hu hc=> ?_⟩
 by_cases hi:i < vs.length
 ·rw [List.getElem?_append_left hi] at hu
  rw [List.getElem?_append_left (by have:=h.1;omega)] at hc
  exact h.2 i u c hu hc
 ·rw [List.getElem?_append_right (by omega)] at hu
  rw [List.getElem?_append_right (by have:=h.1;omega),← h.1] at hc
  exact t.2 _ u c hu hc
theorem Pw.set {R:VV→Value→Prop} {vs:List VV} {cs:List Value} (h:Pw R vs cs) (i:Nat) {v:VV} {x:Value} (hv:R v x):Pw R (vs.set i v) (cs.set i x):=by
 refine ⟨by simp [h.1],fun j u c hu hc=> ?_⟩
 have hl:=h.1
 by_cases e:i=j
 ·subst e
  have hi:i < vs.length:=by
   have:=(List.getElem?_eq_some_iff.1 hu).1
   simpa using this
  rw [List.getElem?_set_self hi] at hu
  rw [List.getElem?_set_self (by omega)] at hc
  injection hu with hu;injection hc with hc
  subst hu hc
  exact hv
 ·rw [List.getElem?_set_ne e] at hu hc
  exact h.2 j u c hu hc
theorem Pw.drop {R:VV→Value→Prop} {vs:List VV} {cs:List Value} (h:Pw R vs cs) (n:Nat):Pw R (vs.drop n) (cs.drop n) :=
 ⟨by simp [h.1],fun i u c hu hc=>h.2 (n+i) u c (by rw [← hu,List.getElem?_drop]) (by rw [← hc,List.getElem?_drop])⟩
theorem Pw.take {R:VV→Value→Prop} {vs:List VV} {cs:List Value} (h:Pw R vs cs) (n:Nat):Pw R (vs.take n) (cs.take n):=by
 refine ⟨by simp [h.1],fun i u c hu hc=> ?_⟩
 have hi:i < n:=by
  have:=(List.getElem?_eq_some_iff.1 hu).1
  simp at this;omega
 rw [List.getElem?_take_of_lt hi] at hu hc
 exact h.2 i u c hu hc
theorem Pw.get {R:VV→Value→Prop} {vs:List VV} {cs:List Value} (h:Pw R vs cs) {i:Nat} {u:VV} (hu:vs[i]? = some u): ∃ c,cs[i]? = some c∧R u c:=by
 have hi:=(List.getElem?_eq_some_iff.1 hu).1
 have hc:cs[i]? = some (cs[i]'(by have:=h.1;omega)):=List.getElem?_eq_getElem _
 exact ⟨_,hc,h.2 i _ _ hu hc⟩
theorem Pw.replicate {R:VV→Value→Prop} {v:VV} {x:Value} (h:R v x) (n:Nat):Pw R (List.replicate n v) (List.replicate n x):=by
 refine ⟨by simp,fun i u c hu hc=> ?_⟩
 have h1:=List.getElem?_eq_some_iff.1 hu
 have h2:=List.getElem?_eq_some_iff.1 hc
 obtain ⟨_,h1⟩:=h1
 obtain ⟨_,h2⟩:=h2
 simp at h1 h2
 subst h1 h2
 exact h
theorem Qf.ag' {vs:List VV} {cs:Array Value} (h:Pw (Qf w Z ρ) vs cs.toList):Qf w Z ρ (.ag vs) (.agg cs):= .ag h.1 h.2
theorem Qf.tp' {vs:List VV} {cs:Array Value} (h:Pw (Qf w Z ρ) vs cs.toList):Qf w Z ρ (.tp vs) (.tuple cs):= .tp h.1 h.2
theorem Qf.undef:Qf w Z ρ (.tp []) Go.undef:= .tp' Pw.nil
def U6 (w:World) (Z:Nat→Prop) (ρ:Nat→Option (Nat×Nat)) (N:Nat):VObj→Obj→Prop
 | .cells _ vs,o=> ∃ cs t fr,o= .cells cs t fr∧cs.size=N∧Pre (Qf w Z ρ) vs cs.toList∧(fr.1=fr.2∨fr=(N,N+1))
 | .loop tmps ps asg bd st pe d,o=> ∃ fn ts D,o= .loop {state:=st,pending:=pe,fn:=fn,tmps:=ts,params:=ps.toArray,assign:=asg,body:=bd,defers:=D}∧Pw (Qf w Z ρ) tmps ts.toList∧ ∃ N',ρ d=some (D,N')
 | .defs,o=>o= .deferred (some [])
 | .gone,_=>True
 | .opt vs,o=> ∃ cs t fr,o= .cells cs t fr∧cs.size=N∧Pre (Qf w Z ρ) vs cs.toList∧(fr.1=fr.2∨fr=(N,N+1))
 | .raw t vs n,o=> ∃ rest,o= .cells (vs++rest).toArray t (0,0)∧(vs++rest).length=N∧ ∀ m,n=some m→N=m
 | .map ks vs,o=> ∃ arr clock,o= .map arr clock∧ks=arr.toList.map (·.key)∧Pw (Qf w Z ρ) vs (arr.toList.map (·.val))∧MapKept.Stamped arr clock
theorem U6.ext {n n' N:Nat} {x:VObj} {o:Obj} (h:U6 w Z ρ N x o) (e:Ext X n Z ρ w n' Z' ρ' w'):U6 w' Z' ρ' N x o:=by
 cases x with
 | cells rw vs =>
  obtain ⟨cs,t,fr,h0,h4,h2,h3⟩:=h
  exact ⟨cs,t,fr,h0,h4,fun i u hu=>let ⟨c,hc,hr⟩:=h2 i u hu;⟨c,hc,hr.ext e⟩,h3⟩
 | loop tmps ps asg bd st pe d =>
  obtain ⟨fn,ts,D,h0,h1,N',h2⟩:=h
  exact ⟨fn,ts,D,h0,h1.mono fun _ _ h=>h.ext e,N',e.rsub _ _ h2⟩
 | defs=>exact h
 | gone=>trivial
 | raw t vs n=>exact h
 | map ks vs =>
  obtain ⟨arr,cl,h0,h1,h2,h3⟩:=h
  exact ⟨arr,cl,h0,h1,h2.mono fun _ _ h=>h.ext e,h3⟩
 | opt vs =>
  obtain ⟨cs,t,fr,h0,h4,h2,h3⟩:=h
  exact ⟨cs,t,fr,h0,h4,fun i u hu=>let ⟨c,hc,hr⟩:=h2 i u hu;⟨c,hc,hr.ext e⟩,h3⟩
def VObj.ghost:VObj→Bool
 | .opt []=>true
 | _=>false
def VObj.rw:VObj→Bool
 | .cells r _=>r
 | _=>true
def Tabs (w:World):Prop:=True
def Glob (B:World) (M:Nat→Prop):Prop:= ∀ w':World,w'.os=B.os→w'.tape=B.tape→w'.output=B.output→B.heap.size≤w'.heap.size→(∀ k,k < B.heap.size→ ¬ M k→w'.heap[k]? = B.heap[k]?)→Tabs w'
structure Rel (B:World) (M:Nat→Prop) (Z:Nat→Prop) (ρ:Nat→Option (Nat×Nat)) (H:Heap) (w:World):Prop where
 glob:Glob B M
 os:w.os=B.os
 tape:w.tape=B.tape
 output:w.output=B.output
 size:B.heap.size≤w.heap.size
 frame: ∀ k,k < B.heap.size→ ¬ M k→w.heap[k]? = B.heap[k]?
 dom: ∀ b,H.next≤b→ρ b=none
 live: ∀ b x,H.get b=some x→b < H.next
 inj: ∀ b b' k N N' x x',H.get b=some x→H.get b'=some x'→ρ b=some (k,N)→ρ b'=some (k,N')→b=b'
 obj: ∀ b x,H.get b=some x→(x.ghost=true∧ρ b=none)∨ ∃ k N o,ρ b=some (k,N)∧w.heap[k]? = some o∧U6 w Z ρ N x o∧ ¬ Z k∧(x.rw=true→B.heap.size≤k∨M k)
 zlt: ∀ k,Z k→k < w.heap.size
section
variable {B:World} {M:Nat→Prop} {H:Heap}
theorem Rel.objK (h:Rel B M Z ρ H w) {b:Nat} {x:VObj} (hx:H.get b=some x) {k N:Nat} (hk:ρ b=some (k,N)): ∃ k N o,ρ b=some (k,N)∧w.heap[k]? = some o∧U6 w Z ρ N x o∧ ¬ Z k∧(x.rw=true→B.heap.size≤k∨M k):=by
 rcases h.obj b x hx with ⟨_,g⟩|g
 ·rw [g] at hk;cases hk
 ·exact g
theorem Rel.objC (h:Rel B M Z ρ H w) {b:Nat} {x:VObj} (hx:H.get b=some x) (hg:x.ghost=false): ∃ k N o,ρ b=some (k,N)∧w.heap[k]? = some o∧U6 w Z ρ N x o∧ ¬ Z k∧(x.rw=true→B.heap.size≤k∨M k):=by
 rcases h.obj b x hx with ⟨g,_⟩|g
 ·rw [g] at hg;cases hg
 ·exact g
theorem Rel.lt (h:Rel B M Z ρ H w) {b:Nat} {x:VObj} (hx:H.get b=some x) {k N:Nat} (hk:ρ b=some (k,N)):k < w.heap.size:=by
 obtain ⟨k',N',o,h1,h2,_⟩:=h.objK hx hk
 rw [hk] at h1;injection h1 with h1;injection h1 with h1 h1';subst h1 h1'
 exact (Array.getElem?_eq_some_iff.1 h2).1
theorem Rel.drew (h:Rel B M Z ρ H w):Rel B M Z ρ H w.drew:=by
 refine ⟨h.glob,h.os,h.tape,h.output,h.size,h.frame,h.dom,h.live,h.inj,?_,h.zlt⟩
 intro b x hx
 rcases h.obj b x hx with hg|⟨k,N,o,h1,h2,h3,h4⟩
 ·exact .inl hg
 exact .inr ⟨k,N,o,h1,h2,h3.ext (X:=fun _=>False) (n:=0) (n':=0) ⟨Nat.le_refl _,fun _ _=>rfl,fun _ h=>h,fun _ _ h=>h,fun _ _=>rfl,Nat.le_refl _,fun _ h=> .inl h⟩,h4⟩
theorem Ext.drew {n:Nat}:Ext X n Z ρ w n Z ρ w.drew:=⟨Nat.le_refl _,fun _ _=>rfl,fun _ h=>h,fun _ _ h=>h,fun _ _=>rfl,Nat.le_refl _,fun _ h=> .inl h⟩
def upd (ρ:Nat→Option (Nat×Nat)) (b:Nat) (k:Nat×Nat):Nat→Option (Nat×Nat):=fun x=>if x=b then some k else ρ x
theorem Xq (b:Nat) (k:Nat×Nat):upd ρ b k b=some k:=by simp [upd]
theorem Rel.upd_ext (h:Rel B M Z ρ H w) (k:Nat×Nat) (b:Nat) (c:Nat×Nat) (hb:ρ b=some c):upd ρ H.next k b=some c:=by
 unfold upd
 split
 ·rename_i e;subst e;rw [h.dom _ (Nat.le_refl _)] at hb;cases hb
 ·exact hb
theorem Uh (w:World) (o:Obj) (k:Nat) (h:k < w.heap.size):(w.alloc o).heap[k]? = w.heap[k]? :=Below.heap_alloc w o k h
theorem N5 (w:World) (o:Obj):(w.alloc o).heap[w.heap.size]? = some o:=by
 show (w.heap.push o)[w.heap.size]? = _
 simp
theorem Rel.step (h:Rel B M Z ρ H w) (ho:w'.os=w.os) (ht:w'.tape=w.tape) (hp:w'.output=w.output) (hs:w.heap.size≤w'.heap.size) (hk: ∀ k,k < w.heap.size→w'.heap[k]? = w.heap[k]?)
  (hz: ∀ k,Z k→Z' k) (hz2: ∀ k,Z' k→Z k∨(w.heap.size≤k∧k < w'.heap.size)):Ext (own B M) H.next Z ρ w H.next Z' ρ w'∧Rel B M Z' ρ H w':=by
 have e:Ext (own B M) H.next Z ρ w H.next Z' ρ w':=⟨Nat.le_refl _,fun _ _=>rfl,hz,fun _ _ h=>h,fun k hkz=>hk k (h.zlt k hkz),hs,fun k hk=>(hz2 k hk).imp id fun q=> .inl q.1⟩
 refine ⟨e,h.glob,ho.trans h.os,ht.trans h.tape,hp.trans h.output,Nat.le_trans h.size hs,?_,h.dom,h.live,h.inj,?_,?_⟩
 ·intro k hkb hM
  have:=h.size
  rw [hk k (by omega)];exact h.frame k hkb hM
 ·intro b x hx
  rcases h.obj b x hx with hg|⟨k,N,o,h1,h2,h3,h4,h5⟩
  ·exact .inl hg
  have hl:=h.lt hx h1
  refine .inr ⟨k,N,o,h1,(hk k hl).trans h2,h3.ext e,fun hZ=> ?_,h5⟩
  rcases hz2 k hZ with hZ|hZ
  ·exact h4 hZ
  ·omega
 ·intro k hkz
  rcases hz2 k hkz with hZ|hZ
  ·have:=h.zlt k hZ;omega
  ·exact hZ.2
theorem Rel.alloc (h:Rel B M Z ρ H w) (x:VObj) (o:Obj) (N:Nat) (hr:U6 w Z ρ N x o) :
  Ext (own B M) H.next Z ρ w (H.add x).next Z (upd ρ H.next (w.heap.size,N)) (w.alloc o)∧Rel B M Z (upd ρ H.next (w.heap.size,N)) (H.add x) (w.alloc o):=by
 have e:Ext (own B M) H.next Z ρ w (H.add x).next Z (upd ρ H.next (w.heap.size,N)) (w.alloc o):=⟨Nat.le_succ _,fun b hb=>by unfold upd;rw [if_neg (by omega)],fun _ h=>h,fun b k hb=>h.upd_ext _ b k hb,fun k hk=>Uh w o k (h.zlt k hk),by simp,fun _ h=> .inl h⟩
 refine ⟨e,h.glob,h.os,h.tape,h.output,?_,?_,?_,?_,?_,?_,?_⟩
 ·have:=h.size;simp;omega
 ·intro k hk hM
  have:=h.size
  rw [Uh w o k (by omega)];exact h.frame k hk hM
 ·intro b hb
  simp only [Heap.add] at hb
  unfold upd
  rw [if_neg (by omega)]
  exact h.dom b (by omega)
 ·intro b y hy
  rw [Heap.get_add] at hy
  simp only [Heap.add]
  split at hy
  ·omega
  ·have:=h.live b y hy;omega
 ·intro b b' k N1 N2 y y' hy hy' hb hb'
  rw [Heap.get_add] at hy hy'
  unfold upd at hb hb'
  by_cases e1:H.next=b
  ·by_cases e2:H.next=b'
   ·omega
   ·rw [if_neg e2] at hy'
    rw [if_neg (by omega)] at hb'
    rw [if_pos e1.symm] at hb
    injection hb with hb;injection hb with hb hb2
    have:=h.lt hy' hb'
    omega
  ·rw [if_neg e1] at hy
   rw [if_neg (by omega)] at hb
   by_cases e2:H.next=b'
   ·rw [if_pos e2.symm] at hb'
    injection hb' with hb';injection hb' with hb' hb2
    have:=h.lt hy hb
    omega
   ·rw [if_neg e2] at hy'
    rw [if_neg (by omega)] at hb'
    exact h.inj b b' k N1 N2 y y' hy hy' hb hb'
 ·intro b y hy
  rw [Heap.get_add] at hy
  by_cases e1:H.next=b
  ·subst e1
   rw [if_pos rfl] at hy
   injection hy with hy
   subst hy
   refine .inr ⟨w.heap.size,N,o,Xq _ _,N5 w o,hr.ext e,fun hZ=> ?_,fun _=> .inl h.size⟩
   have:=h.zlt _ hZ;omega
  ·rw [if_neg e1] at hy
   rcases h.obj b y hy with ⟨hg,hg2⟩|⟨k,N',o',h1,h2,h3,h4,h5⟩
   ·exact .inl ⟨hg,by unfold upd;rw [if_neg (fun e=>e1 e.symm)];exact hg2⟩
   exact .inr ⟨k,N',o',h.upd_ext _ b _ h1,(Uh w o k (h.lt hy h1)).trans h2,h3.ext e,h4,h5⟩
 ·intro k hk
  have:=h.zlt k hk
  simp;omega
theorem Rel.turn (h:Rel B M Z ρ H w) {b k N:Nat} {x y:VObj} {o:Obj} (hx:H.get b=some x) (hk:ρ b=some (k,N)) (hrw:x.rw=true) (hy:y.rw=true)
  (ho:w'.os=w.os) (ht:w'.tape=w.tape) (hp:w'.output=w.output) (hs:w'.heap.size=w.heap.size) (hne: ∀ j,j≠k→w'.heap[j]? = w.heap[j]?) (hat:w'.heap[k]? = some o)
  (hr:U6 w' Z ρ N y o):Ext (own B M) H.next Z ρ w (H.set b y).next Z ρ w'∧Rel B M Z ρ (H.set b y) w':=by
 obtain ⟨k',N',o',h1,h2,h3,h4,h5⟩:=h.objK hx hk
 rw [hk] at h1;injection h1 with h1;injection h1 with h1 h1';subst h1 h1'
 have e:Ext (own B M) H.next Z ρ w (H.set b y).next Z ρ w':=⟨Nat.le_refl _,fun _ _=>rfl,fun _ h=>h,fun _ _ h=>h,fun j hj=>hne j (fun e=>h4 (e ▸ hj)),by omega,fun _ h=> .inl h⟩
 have hsome:(H.get b).isSome=true:=by rw [hx];rfl
 refine ⟨e,h.glob,ho.trans h.os,ht.trans h.tape,hp.trans h.output,by rw [hs];exact h.size,?_,h.dom,?_,?_,?_,fun j hj=>by rw [hs];exact h.zlt j hj⟩
 ·intro j hj hM
  rw [hne j (fun e=> ?_)]
  ·exact h.frame j hj hM
  ·subst e
   rcases h5 hrw with h6|h6
   ·omega
   ·exact hM h6
 ·intro c z hz
  rw [Heap.get_set] at hz
  show c < H.next
  split at hz
  ·rename_i e;subst e;exact h.live _ _ hx
  ·exact h.live c z hz
 ·intro c c' j N1 N2 z z' hz hz' hc hc'
  rw [Heap.get_set] at hz hz'
  have g1: ∃ q,H.get c=some q:=by
   split at hz
   ·rename_i e;subst e;exact ⟨x,hx⟩
   ·exact ⟨z,hz⟩
  have g2: ∃ q,H.get c'=some q:=by
   split at hz'
   ·rename_i e;subst e;exact ⟨x,hx⟩
   ·exact ⟨z',hz'⟩
  obtain ⟨q,g1⟩:=g1
  obtain ⟨q',g2⟩:=g2
  exact h.inj c c' j _ _ q q' g1 g2 hc hc'
 ·intro c z hz
  rw [Heap.get_set] at hz
  by_cases e1:b=c
  ·subst e1
   rw [if_pos rfl,if_pos hsome] at hz
   injection hz with hz
   subst hz
   exact .inr ⟨k,N,o,hk,hat,hr,h4,fun _=>h5 hrw⟩
  ·rw [if_neg e1] at hz
   rcases h.obj c z hz with hg|⟨j,N',o'',g1,g2,g3,g4,g5⟩
   ·exact .inl hg
   have hjk:j≠k:=fun e2=>e1 (h.inj b c k N N' x z hx hz hk (e2 ▸ g1))
   exact .inr ⟨j,N',o'',g1,(hne j hjk).trans g2,g3.ext e,g4,g5⟩
theorem Rel.del (h:Rel B M Z ρ H w) (b:Nat):Rel B M Z ρ (H.del b) w:=by
 refine ⟨h.glob,h.os,h.tape,h.output,h.size,h.frame,h.dom,?_,?_,?_,h.zlt⟩
 ·intro c x hx
  rw [Heap.get_del] at hx
  split at hx
  ·cases hx
  ·exact h.live c x hx
 ·intro c c' k N1 N2 x x' hx hx'
  rw [Heap.get_del] at hx hx'
  split at hx
  ·cases hx
  ·split at hx'
   ·cases hx'
   ·exact h.inj c c' k N1 N2 x x' hx hx'
 ·intro c x hx
  rw [Heap.get_del] at hx
  split at hx
  ·cases hx
  ·exact h.obj c x hx
theorem Rel.rename (h:Rel B M Z ρ H w) {b k N:Nat} {x y:VObj} (hx:H.get b=some x) (hk:ρ b=some (k,N)) (hrw:x.rw=true)
  (ho:w'.os=w.os) (ht:w'.tape=w.tape) (hp:w'.output=w.output) (hs:w'.heap.size=w.heap.size) (hne: ∀ j,j≠k→w'.heap[j]? = w.heap[j]?) {o:Obj} (hat:w'.heap[k]? = some o) (hy:y.rw=true)
  (hr:U6 w' Z ρ N y o):Ext (own B M) H.next Z ρ w ((H.del b).add y).next Z (upd ρ H.next (k,N)) w'∧Rel B M Z (upd ρ H.next (k,N)) ((H.del b).add y) w':=by
 obtain ⟨e,h1⟩:=h.turn hx hk hrw hy ho ht hp hs hne hat hr
 have hg:(H.set b y).get b=some y:=by rw [Heap.get_set,if_pos rfl,hx];rfl
 have e2:Ext (own B M) (H.set b y).next Z ρ w' ((H.del b).add y).next Z (upd ρ H.next (k,N)) w':=⟨Nat.le_succ _,fun c hc=>by have hc:c < H.next:=hc;unfold upd;rw [if_neg (by omega)],fun _ h=>h,fun c j hb=>h.upd_ext _ c j hb,fun _ _=>rfl,Nat.le_refl _,fun _ h=> .inl h⟩
 have hbn:=h.live b x hx
 have hdel: ∀ c z,(H.del b).get c=some z→c≠b∧H.get c=some z∧(H.set b y).get c=some z:=by
  intro c z hz
  rw [Heap.get_del] at hz
  split at hz
  ·cases hz
  ·rename_i hne;exact ⟨fun e=>hne e.symm,hz,by rw [Heap.get_set,if_neg hne];exact hz⟩
 have ga: ∀ c,((H.del b).add y).get c=if H.next=c then some y else (H.del b).get c:=fun c=>Heap.get_add _ _ _
 refine ⟨e.trans e2,h1.glob,h1.os,h1.tape,h1.output,h1.size,h1.frame,?_,?_,?_,?_,h1.zlt⟩
 ·intro c hc
  simp only [Heap.add,Heap.del] at hc
  unfold upd
  rw [if_neg (by omega)]
  exact h.dom c (by omega)
 ·intro c z hz
  rw [ga] at hz
  show c < H.next+1
  split at hz
  ·omega
  ·have:=h.live c z (hdel c z hz).2.1;omega
 ·intro c c' j N1 N2 z z' hz hz' hc hc'
  rw [ga] at hz hz'
  unfold upd at hc hc'
  by_cases e1:H.next=c
  ·by_cases e3:H.next=c'
   ·omega
   ·rw [if_neg e3] at hz'
    rw [if_neg (by omega)] at hc'
    rw [if_pos e1.symm] at hc
    injection hc with hc;injection hc with hc hc2
    subst hc
    exact absurd (h.inj c' b k N2 N z' x (hdel _ _ hz').2.1 hx hc' hk) (hdel _ _ hz').1
  ·rw [if_neg e1] at hz
   rw [if_neg (by omega)] at hc
   by_cases e3:H.next=c'
   ·rw [if_pos e3.symm] at hc'
    injection hc' with hc';injection hc' with hc' hc2
    subst hc'
    exact absurd (h.inj c b k N1 N z x (hdel _ _ hz).2.1 hx hc hk) (hdel _ _ hz).1
   ·rw [if_neg e3] at hz'
    rw [if_neg (by omega)] at hc'
    exact h.inj c c' j N1 N2 z z' (hdel _ _ hz).2.1 (hdel _ _ hz').2.1 hc hc'
 ·intro c z hz
  rw [ga] at hz
  by_cases e1:H.next=c
  ·subst e1
   rw [if_pos rfl] at hz
   injection hz with hz
   subst hz
   obtain ⟨k',N',o',g1,g2,g3,g4,g5⟩:=h1.objK hg hk
   rw [hk] at g1;injection g1 with g1;injection g1 with g1 g1';subst g1 g1'
   exact .inr ⟨k,N,o',Xq _ _,g2,g3.ext e2,g4,g5⟩
  ·rw [if_neg e1] at hz
   rcases h1.obj c z (hdel c z hz).2.2 with ⟨hg,hg2⟩|⟨j,N',o',g1,g2,g3,g4,g5⟩
   ·exact .inl ⟨hg,by unfold upd;rw [if_neg (fun e=>e1 e.symm)];exact hg2⟩
   exact .inr ⟨j,N',o',h.upd_ext _ c _ g1,g2,g3.ext e2,g4,g5⟩
theorem Rel.weaken (h:Rel B M Z ρ H w) {H':Heap} (hn:H'.next=H.next) (hg: ∀ b x,H'.get b=some x→H.get b=some x):Rel B M Z ρ H' w:=by
 refine ⟨h.glob,h.os,h.tape,h.output,h.size,h.frame,fun b hb=>h.dom b (hn ▸ hb),fun b x hx=>hn ▸ h.live b x (hg b x hx),fun c c' k N1 N2 x x' hx hx'=>h.inj c c' k N1 N2 x x' (hg _ _ hx) (hg _ _ hx'),fun b x hx=>h.obj b x (hg b x hx),h.zlt⟩
theorem Rel.toOpt (h:Rel B M Z ρ H w) {b:Nat} {vs:List VV} (hb:H.get b=some (.cells true vs)):Rel B M Z ρ (H.set b (.opt vs)) w:=by
 obtain ⟨k,N,o,h1,h2,h3,h4,h5⟩:=h.objC hb rfl
 exact (h.turn hb h1 rfl rfl rfl rfl rfl rfl (fun _ _=>rfl) h2 (y:= .opt vs) h3).2
theorem Rel.toCells (h:Rel B M Z ρ H w) {b k N:Nat} {vs:List VV} (hb:H.get b=some (.opt vs)) (hk:ρ b=some (k,N)):Rel B M Z ρ (H.set b (.cells true vs)) w:=by
 obtain ⟨k',N',o,h1,h2,h3,h4,h5⟩:=h.objK hb hk
 exact (h.turn hb h1 rfl rfl rfl rfl rfl rfl (fun _ _=>rfl) h2 (y:= .cells true vs) h3).2
theorem Rel.addGhost (h:Rel B M Z ρ H w):Rel B M Z ρ (H.add (.opt [])) w:=by
 refine ⟨h.glob,h.os,h.tape,h.output,h.size,h.frame,fun b hb=>h.dom b (Nat.le_of_succ_le hb),?_,?_,?_,h.zlt⟩
 ·intro b x hx
  rw [Heap.get_add] at hx
  show b < H.next+1
  split at hx
  ·omega
  ·have:=h.live b x hx;omega
 ·intro b b' k N N' x x' hx hx' hb hb'
  rw [Heap.get_add] at hx hx'
  have h0:=h.dom H.next (Nat.le_refl _)
  split at hx
  ·rename_i e;subst e;rw [h0] at hb;cases hb
  ·split at hx'
   ·rename_i e;subst e;rw [h0] at hb';cases hb'
   ·exact h.inj b b' k N N' x x' hx hx' hb hb'
 ·intro b x hx
  rw [Heap.get_add] at hx
  split at hx
  ·rename_i e
   injection hx with hx
   subst e hx
   exact .inl ⟨rfl,h.dom _ (Nat.le_refl _)⟩
  ·exact h.obj b x hx
theorem Rel.reopt (h:Rel B M Z ρ H w) {b k N:Nat} {vs:List VV} (hb:H.get b=some (.opt vs)) (hk:ρ b=some (k,N)):Ext (own B M) H.next Z ρ w ((H.del b).add (.opt vs)).next Z (upd ρ H.next (k,N)) w∧Rel B M Z (upd ρ H.next (k,N)) ((H.del b).add (.opt vs)) w:=by
 obtain ⟨k',N',o,h1,h2,h3,h4,h5⟩:=h.objK hb hk
 rw [hk] at h1;injection h1 with h1;injection h1 with h1 h1';subst h1 h1'
 exact h.rename hb hk rfl rfl rfl rfl rfl (fun _ _=>rfl) h2 rfl (y:= .opt vs) h3
theorem Rel.globApart (h:Rel B M Z ρ H w):Glob w (fun _=>False):=fun w' a b c d e =>
 h.glob w' (a.trans h.os) (b.trans h.tape) (c.trans h.output) (Nat.le_trans h.size d) fun k hk hM=>(e k (Nat.lt_of_lt_of_le hk h.size) id).trans (h.frame k hk hM)
theorem Rel.below (h:Rel B (fun _=>False) Z ρ H w):Below B.heap.size B w:=⟨h.os,h.tape,h.output,h.size,fun k hk=>h.frame k hk (fun x=>x)⟩
end
end
end Go.Proofs.YtpbiblhkcomekaaGreat
namespace Go.Proofs.YtpbiblhkcomekaaGreat
open Go Go.RowKit
set_option linter.unusedSimpArgs false
set_option linter.unusedVariables false
theorem Pw.pre {R:VV→Value→Prop} {vs:List VV} {cs:List Value} (h:Pw R vs cs):Pre R vs cs:=fun i u hu=>h.get hu
theorem Pre.mono {R R':VV→Value→Prop} {vs:List VV} {cs:List Value} (h:Pre R vs cs) (hr: ∀ u c,R u c→R' u c):Pre R' vs cs:=fun i u hu=>let ⟨c,hc,h⟩:=h i u hu;⟨c,hc,hr _ _ h⟩
theorem Pre.length {R:VV→Value→Prop} {vs:List VV} {cs:List Value} (h:Pre R vs cs):vs.length≤cs.length:=by
 rcases Nat.eq_zero_or_pos vs.length with h0|h0
 ·omega
 ·obtain ⟨c,hc,_⟩:=h (vs.length - 1) _ (List.getElem?_eq_getElem (by omega))
  have:=(List.getElem?_eq_some_iff.1 hc).1
  omega
theorem Pre.set {R:VV→Value→Prop} {vs:List VV} {cs:List Value} (h:Pre R vs cs) (i:Nat) {v:VV} {x:Value} (hv:R v x):Pre R (vs.set i v) (cs.set i x):=by
 intro j u hu
 have hl:=h.length
 by_cases e:i=j
 ·subst e
  have hi:i < vs.length:=by
   have:=(List.getElem?_eq_some_iff.1 hu).1
   simpa using this
  rw [List.getElem?_set_self hi] at hu
  injection hu with hu
  subst hu
  exact ⟨x,List.getElem?_set_self (by omega),hv⟩
 ·rw [List.getElem?_set_ne e] at hu ⊢
  exact h j u hu
theorem Pre.take {R:VV→Value→Prop} {vs:List VV} {cs:List Value} (h:Pre R vs cs) (n:Nat):Pre R (vs.take n) cs:=by
 intro i u hu
 have hi:i < n:=by
  have:=(List.getElem?_eq_some_iff.1 hu).1
  simp at this;omega
 rw [List.getElem?_take_of_lt hi] at hu
 exact h i u hu
theorem Pre.part {R:VV→Value→Prop} {vs:List VV} {cs:List Value} (h:Pre R vs cs) (o n:Nat) (hn:o+n≤vs.length):Pw R ((vs.drop o).take n) ((cs.drop o).take n):=by
 have hl:=h.length
 refine ⟨by simp;omega,fun i u c hu hc=> ?_⟩
 have hi:i < n:=by
  have:=(List.getElem?_eq_some_iff.1 hu).1
  simp at this;omega
 rw [List.getElem?_take_of_lt hi,List.getElem?_drop] at hu hc
 obtain ⟨c',hc',hr⟩:=h _ u hu
 rw [hc] at hc'
 injection hc' with hc'
 exact hc' ▸ hr
def J3 {α:Type}:List α→Nat→List α→List α
 | cs,_,[]=>cs
 | cs,o,v::r=>J3 (cs.set o v) (o+1) r
theorem Zx {α:Type}: ∀ (l cs:List α) (o:Nat),(J3 cs o l).length=cs.length
 | [],_,_=>rfl
 | v::r,cs,o=>by rw [J3,Zx r];simp
theorem Z5 {α:Type}: ∀ (l cs:List α) (o i:Nat),o+l.length≤cs.length→(J3 cs o l)[i]? = if o≤i∧i < o+l.length then l[i - o]? else cs[i]?
 | [],cs,o,i,h=>by simp [J3];omega
 | v::r,cs,o,i,h=>by
  simp only [List.length_cons] at h
  rw [J3,Z5 r _ (o+1) i (by simp;omega)]
  by_cases h1:i=o
  ·subst h1
   rw [if_neg (by omega),List.getElem?_set_self (by omega),if_pos (by simp)]
   simp
  ·rw [List.getElem?_set_ne (by omega)]
   by_cases h2:o≤i∧i < o+(r.length+1)
   ·rw [if_pos (by omega),if_pos (by simpa using h2)]
    rw [show i - o=(i - (o+1))+1 by omega]
    simp
   ·rw [if_neg (by omega),if_neg (by simpa using h2)]
theorem setRun_eq {α:Type} (l cs:List α) (o:Nat) (h:o+l.length≤cs.length):J3 cs o l=cs.take o++l++cs.drop (o+l.length):=by
 apply List.ext_getElem?
 intro i
 rw [Z5 l cs o i h]
 by_cases h1:i < o
 ·rw [if_neg (by omega),List.append_assoc,List.getElem?_append_left (by simp;omega),List.getElem?_take_of_lt h1]
 ·by_cases h2:i < o+l.length
  ·rw [if_pos (by omega),List.append_assoc,List.getElem?_append_right (by simp;omega),List.getElem?_append_left (by simp;omega)]
   congr 1;simp;omega
  ·rw [if_neg (by omega),List.append_assoc,List.getElem?_append_right (by simp;omega),List.getElem?_append_right (by simp;omega),List.getElem?_drop]
   congr 1;simp;omega
theorem Pre.setRun {R:VV→Value→Prop}: ∀ {l:List VV} {xs:List Value} (hl:Pw R l xs) {vs:List VV} {cs:List Value} (h:Pre R vs cs) (o:Nat),Pre R (J3 vs o l) (J3 cs o xs)
 | [],[],_,vs,cs,h,o=>h
 | v::r,x::xs,hl,vs,cs,h,o=>by
  have hv:R v x:=hl.2 0 v x rfl rfl
  have ht:Pw R r xs:=⟨by have:=hl.1;simpa using this,fun i u c hu hc=>hl.2 (i+1) u c (by simpa using hu) (by simpa using hc)⟩
  exact Pre.setRun ht (h.set o hv) (o+1)
 | [],x::xs,hl,_,_,_,_=>by have:=hl.1;simp at this
 | v::r,[],hl,_,_,_,_=>by have:=hl.1;simp at this
theorem Pre.splice {R:VV→Value→Prop} {l:List VV} {xs:List Value} (hl:Pw R l xs) {vs:List VV} {cs:List Value} (h:Pre R vs cs) (m:Nat) (hm:m≤vs.length) (hc:m+xs.length≤cs.length):Pre R (vs.take m++l) (Go.Proofs.YtpbiblhkcomekaaGreat.J3 cs m xs):=by
 intro i u hu
 have h0:=hl.1
 rw [Z5 xs cs m i hc]
 by_cases h1:i < m
 ·rw [List.getElem?_append_left (by simp;omega),List.getElem?_take_of_lt h1] at hu
  rw [if_neg (by omega)]
  exact h i u hu
 ·rw [List.getElem?_append_right (by simp;omega)] at hu
  have h2:i - (vs.take m).length=i - m:=by simp;omega
  rw [h2] at hu
  have h3:=(List.getElem?_eq_some_iff.1 hu).1
  rw [if_pos (by omega)]
  exact hl.get hu
theorem Ec {w:World} {k o:Nat} {v:Value} {cs:Array Value} {t:TypeId} {fr:Nat×Nat} (h:w.heap[k]? = some (.cells cs t fr)):(w.setCell ⟨k,o,none⟩ v).heap[k]? = some (.cells (cs.setIfInBounds o v) t fr):=by
 simp only [World.setCell,Array.getElem?_modify,if_true,h,Option.map_some]
 simp
theorem Y3 (k:Nat) (t:TypeId) (fr:Nat×Nat): ∀ (xs:List Value) (o:Nat) (w:World) (cs:Array Value),w.heap[k]? = some (.cells cs t fr) →
  (w.setCells k o xs).heap[k]? = some (.cells (Go.Proofs.YtpbiblhkcomekaaGreat.J3 cs.toList o xs).toArray t fr)∧(∀ j,j≠k→(w.setCells k o xs).heap[j]? = w.heap[j]?)∧(w.setCells k o xs).heap.size=w.heap.size ∧
   (w.setCells k o xs).os=w.os∧(w.setCells k o xs).tape=w.tape∧(w.setCells k o xs).output=w.output
 | [],o,w,cs,h=>⟨by simpa [World.setCells,J3] using h,fun _ _=>rfl,rfl,rfl,rfl,rfl⟩
 | x::xs,o,w,cs,h=>by
  have h1:=Ec (o:=o) (v:=x) h
  obtain ⟨g1,g2,g3,g4,g5,g6⟩:=Y3 k t fr xs (o+1) _ _ h1
  refine ⟨?_,fun j hj=> ?_,?_,g4,g5,g6⟩
  ·rw [World.setCells,g1,J3];simp
  ·rw [World.setCells,g2 j hj];exact Below.heap_setCell _ _ _ _ (fun e=>hj e)
  ·rw [World.setCells,g3];simp
section
variable {w w':World} {Z:Nat→Prop} {ρ:Nat→Option (Nat×Nat)} {B:World} {M:Nat→Prop} {H:Heap}
theorem nofr {fr:Nat×Nat} {N i:Nat} (h:fr.1=fr.2∨fr=(N,N+1)) (hi:i < N):(fr.1≤i&&i < fr.2)=false:=by
 rcases h with h|rfl
 ·rw [h];simp
 ·simp;omega
theorem Rel.at_ (h:Rel B M Z ρ H w) {b:Nat} {r:Bool} {vs:List VV} (hb:H.get b=some (.cells r vs)): ∃ k N cs t fr,ρ b=some (k,N)∧w.heap[k]? = some (.cells cs t fr)∧cs.size=N∧Pre (Qf w Z ρ) vs cs.toList∧(fr.1=fr.2∨fr=(N,N+1)):=by
 obtain ⟨k,N,o,h1,h2,⟨cs,t,fr,rfl,h3,h4,h5⟩,_⟩:=h.objC hb rfl
 exact ⟨k,N,cs,t,fr,h1,h2,h3,h4,h5⟩
theorem Js {k:Nat} {cs:Array Value} {t:TypeId} {fr:Nat×Nat} (h:w.heap[k]? = some (.cells cs t fr)) (i:Nat):w.cell? ⟨k,i,none⟩=cs[i]? :=by
 unfold World.cell?;simp [h]
theorem Y1 {k:Nat} {cs:Array Value} {t:TypeId} {fr:Nat×Nat} (h:w.heap[k]? = some (.cells cs t fr)) (i:Nat):w.frozen? ⟨k,i,none⟩=(fr.1≤i&&i < fr.2):=by
 unfold World.frozen?;obtain ⟨a,b⟩:=fr;simp [h]
theorem J6 (k o n:Nat):(⟨k,o,none⟩:Addr).add n=⟨k,o+n,none⟩:=by
 unfold Addr.add;split <;> simp_all
theorem Rel.write (h:Rel B M Z ρ H w) {b:Nat} {vs l:List VV} {xs:List Value} (hb:H.get b=some (.cells true vs)) {k N:Nat} (hk:ρ b=some (k,N)) (hl:Pw (Qf w Z ρ) l xs) (h1: ∀ x∈xs,x.oneCell'=true) (o:Nat)
  {P:Program} (hfit:o+l.length≤vs.length) :
  (storeCells ⟨k,o,none⟩ xs).run P w= .ok () (w.setCells k o xs)∧Ext (own B M) H.next Z ρ w (H.set b (.cells true (Go.Proofs.YtpbiblhkcomekaaGreat.J3 vs o l))).next Z ρ (w.setCells k o xs)∧Rel B M Z ρ (H.set b (.cells true (Go.Proofs.YtpbiblhkcomekaaGreat.J3 vs o l))) (w.setCells k o xs):=by
 obtain ⟨k',N',cs,t,fr,g1,g2,g3,g4,g5⟩:=h.at_ hb
 rw [hk] at g1;injection g1 with g1;injection g1 with g1 g1';subst g1 g1'
 have hlen:=g4.length
 have hle:o+xs.length≤cs.size:=by have:=hl.1;simp at hlen;omega
 obtain ⟨s1,s2,s3,s4,s5,s6⟩:=Y3 k t fr xs o w cs g2
 have hrun:=run_storeCells_cells (P:=P) k o xs 0 w (fun j hj=>by rw [Js g2];simp;omega) (fun j hj=>by rw [Y1 g2];exact nofr g5 (by omega)) h1
 have hz: ∀ j,Z j→j≠k:=by
  intro j hj e
  obtain ⟨_,_,_,q1,_,_,q4,_⟩:=h.objC hb rfl
  rw [hk] at q1;injection q1 with q1;injection q1 with q1 _
  exact q4 (q1 ▸ e ▸ hj)
 have e0:Ext (own B M) 0 Z ρ w 0 Z ρ (w.setCells k o xs):=⟨Nat.le_refl _,fun _ _=>rfl,fun _ h=>h,fun _ _ h=>h,fun j hj=>s2 j (hz j hj),by omega,fun _ h=> .inl h⟩
 refine ⟨by simpa using hrun,?_⟩
 refine h.turn hb hk rfl rfl s4 s5 s6 s3 s2 s1 ⟨_,t,fr,rfl,?_,?_,?_⟩
 ·simp [Zx];exact g3
 ·simpa using Pre.setRun (hl.mono fun _ _ h=>h.ext e0) (g4.mono fun _ _ h=>h.ext e0) o
 ·exact g5
theorem Rel.grow (h:Rel B M Z ρ H w) {b:Nat} {vs l:List VV} {xs:List Value} (hb:H.get b=some (.cells true vs)) {k N:Nat} (hk:ρ b=some (k,N)) (hl:Pw (Qf w Z ρ) l xs) (h1: ∀ x∈xs,x.oneCell'=true) (m:Nat)
  {P:Program} (hm:m≤vs.length) (hfit:m+xs.length≤N) :
  (storeCells ⟨k,m,none⟩ xs).run P w= .ok () (w.setCells k m xs)∧Ext (own B M) H.next Z ρ w ((H.del b).add (.cells true (vs.take m++l))).next Z (upd ρ H.next (k,N)) (w.setCells k m xs)∧Rel B M Z (upd ρ H.next (k,N)) ((H.del b).add (.cells true (vs.take m++l))) (w.setCells k m xs):=by
 obtain ⟨k',N',cs,t,fr,g1,g2,g3,g4,g5⟩:=h.at_ hb
 rw [hk] at g1;injection g1 with g1;injection g1 with g1 g1';subst g1 g1'
 obtain ⟨s1,s2,s3,s4,s5,s6⟩:=Y3 k t fr xs m w cs g2
 have hrun:=run_storeCells_cells (P:=P) k m xs 0 w (fun j hj=>by rw [Js g2];simp;omega) (fun j hj=>by rw [Y1 g2];exact nofr g5 (by omega)) h1
 have hz: ∀ j,Z j→j≠k:=by
  intro j hj e
  obtain ⟨_,_,_,q1,_,_,q4,_⟩:=h.objC hb rfl
  rw [hk] at q1;injection q1 with q1;injection q1 with q1 _
  exact q4 (q1 ▸ e ▸ hj)
 have e0:Ext (own B M) 0 Z ρ w 0 Z ρ (w.setCells k m xs):=⟨Nat.le_refl _,fun _ _=>rfl,fun _ h=>h,fun _ _ h=>h,fun j hj=>s2 j (hz j hj),by omega,fun _ h=> .inl h⟩
 refine ⟨by simpa using hrun,?_⟩
 refine h.rename hb hk rfl s4 s5 s6 s3 s2 s1 rfl ⟨_,t,fr,rfl,?_,?_,?_⟩
 ·simp [Zx];exact g3
 ·simpa using Pre.splice (hl.mono fun _ _ h=>h.ext e0) (g4.mono fun _ _ h=>h.ext e0) m hm (by simp;omega)
 ·exact g5
theorem Rel.row (h:Rel B M Z ρ H w) {l:List VV} {xs:Array Value} (hl:Pre (Qf w Z ρ) l xs.toList) (t:TypeId) :
  Ext (own B M) H.next Z ρ w (H.add (.cells true l)).next Z (upd ρ H.next (w.heap.size,xs.size)) (w.alloc (.cells xs t))∧Rel B M Z (upd ρ H.next (w.heap.size,xs.size)) (H.add (.cells true l)) (w.alloc (.cells xs t)) :=
 h.alloc _ _ _ ⟨xs,t,(0,0),rfl,rfl,hl,.inl rfl⟩
theorem Rel.read (h:Rel B M Z ρ H w) {b:Nat} {r:Bool} {vs:List VV} (hb:H.get b=some (.cells r vs)) {k N:Nat} (hk:ρ b=some (k,N)) (o n:Nat) (hfit:o+n≤vs.length) :
  ∃ ds:List Value,Pw (Qf w Z ρ) ((vs.drop o).take n) ds∧ds.length=n∧ ∀ j v,ds[j]? = some v→w.cell? ((⟨k,o,none⟩:Addr).add j)=some v:=by
 obtain ⟨k',N',cs,t,fr,g1,g2,g3,g4,g5⟩:=h.at_ hb
 rw [hk] at g1;injection g1 with g1;injection g1 with g1 g1';subst g1 g1'
 have hp:=g4.part o n hfit
 have hlen:=g4.length
 refine ⟨_,hp,by simp at hlen ⊢;omega,fun j v hv=> ?_⟩
 have hj:j < n:=by
  have:=(List.getElem?_eq_some_iff.1 hv).1
  simp at this;omega
 rw [List.getElem?_take_of_lt hj,List.getElem?_drop] at hv
 rw [J6,Js g2]
 simpa using hv
end
end Go.Proofs.YtpbiblhkcomekaaGreat
namespace Go.Proofs.YtpbiblhkcomekaaGreat
open Go Go.RowKit
set_option linter.unusedSimpArgs false
set_option linter.unusedVariables false
def plainL:List VV→Option (List Value)
 | []=>some []
 | .sc v::r=>match plainL r with
  | some l=>some (v::l)
  | none=>none
 | _=>none
def plain:VV→Option Value
 | .sc v=>some v
 | .ag vs=>match plainL vs with
  | some l=>some (.agg l.toArray)
  | none=>none
 | _=>none
def ofV:Value→VV
 | .agg cs=>match cs.toList.all (·.oneCell') with
  | true=> .ag (cs.toList.map .sc)
  | false=> .junk
 | .tuple cs=>match cs.toList.all (·.oneCell') with
  | true=> .tp (cs.toList.map .sc)
  | false=> .junk
 | v=> .sc v
section
variable {w:World} {Z:Nat→Prop} {ρ:Nat→Option (Nat×Nat)}
theorem plainL_eq: ∀ {vs:List VV} {l cs:List Value},plainL vs=some l→Pw (Qf w Z ρ) vs cs→cs=l
 | [],l,cs,h,hp=>by
  simp [plainL] at h
  subst h
  exact List.eq_nil_of_length_eq_zero hp.1.symm
 | v::r,l,[],h,hp=>by have:=hp.1;simp at this
 | v::r,l,c::cs,h,hp=>by
  have hv:=hp.2 0 v c rfl rfl
  have ht:Pw (Qf w Z ρ) r cs:=⟨by have:=hp.1;simpa using this,fun i u c hu hc=>hp.2 (i+1) u c (by simpa using hu) (by simpa using hc)⟩
  cases v with
  | sc x =>
   simp only [plainL] at h
   cases hr:plainL r with
   | none=>simp [hr] at h
   | some l' =>
    simp [hr] at h
    subst h
    cases hv
    rw [plainL_eq hr ht]
  | _=>simp [plainL] at h
theorem Dx {v:VV} {x y:Value} (h:plain v=some x) (hv:Qf w Z ρ v y):y=x:=by
 cases v with
 | sc u=>simp [plain] at h;subst h;cases hv;rfl
 | ag vs =>
  simp only [plain] at h
  cases hr:plainL vs with
  | none=>simp [hr] at h
  | some l =>
   simp [hr] at h
   subst h
   cases hv with
   | ag h1 r1 =>
    have:=plainL_eq hr ⟨h1,r1⟩
    rw [← this]
 | _=>simp [plain] at h
theorem pw_sc: ∀ {l:List Value},l.all (·.oneCell')=true→Pw (Qf w Z ρ) (l.map .sc) l
 | [],_=>Pw.nil
 | v::r,h=>by
  simp only [List.all_cons,Bool.and_eq_true] at h
  exact Pw.cons (.sc h.1) (pw_sc h.2)
theorem Cj (v:Value):Qf w Z ρ (ofV v) v:=by
  cases v <;> first
    | exact .sc rfl
    | (simp only [ofV];split
       · rename_i h;first|exact .ag' (pw_sc h)|exact .tp' (pw_sc h)
       · exact .junk)
end
def Xa {α:Type} (P:Program):Sem α→Option α
 | .pure a=>some a
 | .program k=>Xa P (k P)
 | .mark _ k=>Xa P k
 | _=>none
theorem Zv {α:Type} {P:Program}: ∀ {s:Sem α} {a:α} (w:World),Xa P s=some a→s.run P w= .ok a w
 | .pure x,a,w,h=>by simp [Xa] at h;subst h;rfl
 | .program k,a,w,h=>by simp only [Xa] at h;simp only [Sem.run];exact Zv w h
 | .mark m k,a,w,h=>by simp only [Xa] at h;simp only [Sem.run];exact Zv w h
 | .load ..,a,w,h=>by simp [Xa] at h
 | .store ..,a,w,h=>by simp [Xa] at h
 | .new ..,a,w,h=>by simp [Xa] at h
 | .shape ..,a,w,h=>by simp [Xa] at h
 | .freeze ..,a,w,h=>by simp [Xa] at h
 | .frozen ..,a,w,h=>by simp [Xa] at h
 | .getObj ..,a,w,h=>by simp [Xa] at h
 | .setObj ..,a,w,h=>by simp [Xa] at h
 | .choose ..,a,w,h=>by simp [Xa] at h
 | .sys ..,a,w,h=>by simp [Xa] at h
 | .halt ..,a,w,h=>by simp [Xa] at h
def Qh (ts:List VV):Operand→VV
 | .tmp t=>(ts[t]?).getD (.tp [])
 | .const v=>ofV v
 | .global g=> .sc (.pointer (some ⟨g,0,none⟩))
 | .func f=> .fn (.func f) [] []
theorem J2 {w:World} {Z:Nat→Prop} {ρ:Nat→Option (Nat×Nat)} {ts:List VV} {a:Act} (h:Pw (Qf w Z ρ) ts a.tmps.toList) (x:Operand):Qf w Z ρ (Qh ts x) (a.eval x):=by
 cases x with
 | tmp t =>
  simp only [Qh,Act.eval,Array.getD_eq_getD_getElem?]
  cases hu:ts[t]? with
  | none =>
   have h1:a.tmps[t]? = none:=by
    have:=List.getElem?_eq_none_iff.1 hu
    have h2:=h.1
    simp at h2
    exact Array.getElem?_eq_none (by omega)
   rw [h1]
   exact Qf.undef
  | some u =>
   obtain ⟨c,hc,hr⟩:=h.get hu
   have h1:a.tmps[t]? = some c:=by simpa using hc
   rw [h1]
   exact hr
 | const v=>exact Cj v
 | global g=>exact .sc rfl
 | func f=>exact .fn rfl (fun i u c hu=>by simp at hu) rfl (fun i u c hu=>by simp at hu)
def B1 (ev:Operand→VV):List Operand→Bool
 | []=>true
 | x::r=>match plain (ev x) with
  | some _=>B1 ev r
  | none=>false
theorem Es {ev:Operand→VV}: ∀ {l:List Operand},B1 ev l=true→ ∀ x∈l,∃ v,plain (ev x)=some v
 | [],_,x,hx=>by simp at hx
 | y::r,h,x,hx=>by
  simp only [B1] at h
  split at h
  ·rename_i v hv
   rcases List.mem_cons.1 hx with rfl|hx
   ·exact ⟨v,hv⟩
   ·exact Es h x hx
  ·simp at h
def Zp (P:Program) (o:Oper) (ev:Operand→VV):Option VV :=
 match o.op with
 | .select _ _=>none
 | .defer _=>none
 | _=>match B1 ev o.op.operands.toList with
  | true=>match Xa P (execOp (fun x=>(plain (ev x)).getD undef) o) with
   | some (.value v)=>some (ofV v)
   | _=>none
  | false=>none
theorem vplain_sound {P:Program} {o:Oper} {ev:Operand→VV} {aev:Operand→Value} {w:World} {Z:Nat→Prop} {ρ:Nat→Option (Nat×Nat)} {v:VV} (h:Zp P o ev=some v)
  (hr: ∀ x,Qf w Z ρ (ev x) (aev x)): ∃ v',(execOp aev o).run P w= .ok (.value v') w∧Qf w Z ρ v v':=by
 have key: ∀ (hs: ∀ cs b,o.op≠ .select cs b) (h:(match B1 ev o.op.operands.toList with
  | true=>match Xa P (execOp (fun x=>(plain (ev x)).getD undef) o) with
   | some (.value v)=>some (ofV v)
   | _=>none
  | false=>none)=some v),∃ v',(execOp aev o).run P w= .ok (.value v') w∧Qf w Z ρ v v':=by
  intro hs h
  split at h
  ·rename_i hp
   have hc:execOp aev o=execOp (fun x=>(plain (ev x)).getD undef) o:=execOp_congr o hs fun x hx=>by
    obtain ⟨u,hu⟩:=Es hp x (by simpa using hx)
    rw [Dx hu (hr x),hu];rfl
   split at h
   ·rename_i v' hv
    simp at h
    subst h
    exact ⟨v',by rw [hc];exact Zv w hv,Cj v'⟩
   ·simp at h
  ·simp at h
 unfold Zp at h
 split at h
 ·simp at h
 ·simp at h
 ·rename_i hs hd
  exact key (fun cs b e=>hs cs b e) h
def VV.one:VV→Bool
 | .ag _| .tp _| .junk=>false
 | _=>true
def cellsOf:VV→Option (List VV)
 | .ag vs=>match vs.all VV.one with
  | true=>some vs
  | false=>none
 | .tp _| .junk=>none
 | v=>some [v]
section
variable {w:World} {Z:Nat→Prop} {ρ:Nat→Option (Nat×Nat)}
theorem one_rel {v:VV} {x:Value} (h:Qf w Z ρ v x) (h1:v.one=true):x.oneCell'=true:=by
 cases h <;> first|rfl|assumption|simp [VV.one] at h1
theorem pw_one: ∀ {vs:List VV} {cs:List Value},vs.all VV.one=true→Pw (Qf w Z ρ) vs cs→ ∀ x∈cs,x.oneCell'=true
 | [],cs,_,hp=>by
  have:cs= []:=List.eq_nil_of_length_eq_zero hp.1.symm
  subst this;simp
 | v::r,[],_,hp=>by simp
 | v::r,c::cs,h,hp=>by
  simp only [List.all_cons,Bool.and_eq_true] at h
  have ht:Pw (Qf w Z ρ) r cs:=⟨by have:=hp.1;simpa using this,fun i u c hu hc=>hp.2 (i+1) u c (by simpa using hu) (by simpa using hc)⟩
  intro x hx
  rcases List.mem_cons.1 hx with rfl|hx
  ·exact one_rel (hp.2 0 v x rfl rfl) h.1
  ·exact pw_one h.2 ht x hx
theorem one_cells {x:Value} (h:x.oneCell'=true):x.cells= #[x]:=by
 cases x <;> first|rfl|simp [Value.oneCell'] at h
theorem Kz {v:VV} {x:Value} {l:List VV} (h:cellsOf v=some l) (hv:Qf w Z ρ v x):Pw (Qf w Z ρ) l x.cells.toList∧ ∀ y∈x.cells.toList,y.oneCell'=true:=by
 have single: ∀ (h1:v.one=true) (h2:l= [v]),Pw (Qf w Z ρ) l x.cells.toList∧ ∀ y∈x.cells.toList,y.oneCell'=true:=by
  intro h1 h2
  have h3:=one_rel hv h1
  rw [one_cells h3,h2]
  exact ⟨Pw.cons hv Pw.nil,by simpa using h3⟩
 cases v with
 | ag vs =>
  simp only [cellsOf] at h
  split at h
  ·rename_i ha
   simp at h
   subst h
   cases hv with
   | ag h1 r1=>exact ⟨⟨h1,r1⟩,pw_one ha ⟨h1,r1⟩⟩
  ·simp at h
 | tp vs=>simp [cellsOf] at h
 | junk=>simp [cellsOf] at h
 | _=>exact single rfl (by simpa [cellsOf] using h.symm)
end
def Jr (P:Program) (t:TypeId):Option Nat:=(P.info? t).map (·.size)
def Wo (P:Program) (t:TypeId):Option Bool:=match P.underlying t with
 | some (.struct _)=>some true
 | some (.array _ _)=>some true
 | some _=>some false
 | none=>none
def vat (P:Program) (t:TypeId) (vs:List VV) (o:Nat):Option VV:=match Wo P t with
 | some true=>match Jr P t with
  | some n=>match Nat.ble (o+n) vs.length with
   | true=>some (.ag ((vs.drop o).take n))
   | false=>none
  | none=>none
 | some false=>vs[o]?
 | none=>none
def Kj (P:Program) (t:TypeId):Option (List VV):=match P.info? t with
 | some i=>match i.zero with
  | some z=>cellsOf (ofV z)
  | none=>none
 | none=>none
section
variable {P:Program} {w:World}
theorem Q6 {t:TypeId} {n:Nat} (h:Jr P t=some n) (w:World):(sizeOf t).run P w= .ok n w:=by
 unfold Jr at h
 cases hi:P.info? t with
 | none=>simp [hi] at h
 | some i=>simp [hi] at h;simp [sizeOf,typeInfo,hi,h]
theorem Uo {t:TypeId} {b:Bool} (h:Wo P t=some b) (w:World):(isAgg t).run P w= .ok b w:=by
 unfold Wo at h
 split at h <;> simp at h <;> subst h <;> rename_i hu
 ·simp [isAgg,run_underlying hu]
 ·simp [isAgg,run_underlying hu]
 ·rename_i d h1 h2
  simp only [isAgg,Sem.run_bind,run_underlying hu,Result.andThen_ok]
  cases d <;> first|rfl|exact (h1 _ rfl).elim|exact (h2 _ _ rfl).elim
theorem Wp {t:TypeId} {vs:List VV} {o:Nat} {v:VV} (h:vat P t vs o=some v) {k o0:Nat} {cs:List Value} {Z:Nat→Prop} {ρ:Nat→Option (Nat×Nat)} (hp:Pre (Qf w Z ρ) vs cs)
  (hc: ∀ i,i < cs.length→w.cell? ⟨k,o0+i,none⟩=cs[i]?): ∃ v',(loadVar t ⟨k,o0+o,none⟩).run P w= .ok v' w∧Qf w Z ρ v v':=by
 unfold vat at h
 split at h
 ·rename_i ha
  split at h
  ·rename_i n hn
   split at h
   ·rename_i hle
    have hle:=Nat.le_of_ble_eq_true hle
    simp at h
    subst h
    have hl:=hp.length
    have hl2:((cs.drop o).take n).length=n:=by simp;omega
    have:=run_loadCells_list (P:=P) w ⟨k,o0+o,none⟩ ((cs.drop o).take n) (fun j v hv=>by
     have hj:j < n:=by
      have:=(List.getElem?_eq_some_iff.1 hv).1
      omega
     rw [List.getElem?_take_of_lt hj,List.getElem?_drop] at hv
     rw [J6,Nat.add_assoc,hc _ (by omega)]
     exact hv)
    rw [hl2] at this
    refine ⟨_,?_,.ag' (cs:=((cs.drop o).take n).toArray) (by simpa using hp.part o n hle)⟩
    simp [loadVar,Uo ha,Q6 hn,this]
   ·simp at h
  ·simp at h
 ·rename_i ha
  obtain ⟨c,hc',hr⟩:=hp o v h
  have hlt:=(List.getElem?_eq_some_iff.1 hc').1
  refine ⟨c,?_,hr⟩
  simp [loadVar,Uo ha,run_load,hc o hlt,hc']
 ·simp at h
theorem Xx {t:TypeId} {l:List VV} (h:Kj P t=some l): ∃ z,(∀ w:World,(zeroValue t).run P w= .ok z w)∧(∀ (w:World) Z ρ,Pw (Qf w Z ρ) l z.cells.toList)∧(∀ y∈z.cells.toList,y.oneCell'=true)∧ ∃ i,P.info? t=some i∧i.zero=some z:=by
 unfold Kj at h
 split at h
 ·rename_i i hi
  split at h
  ·rename_i z hz
   refine ⟨z,fun w=>by simp [zeroValue,typeInfo,hi,hz],fun w Z ρ=>(Kz h (Cj z)).1,(Kz (w:=default) (Z:=fun _=>False) (ρ:=fun _=>none) h (Cj z)).2,i,hi,hz⟩
  ·simp at h
 ·simp at h
end
def J1 (P:Program) (B:World) (M:Nat→Prop) (n:Nat) (Z:Nat→Prop) (ρ:Nat→Option (Nat×Nat)) (w:World) (s:Sem Value) (v:VV) (H':Heap):Prop :=
 ∃ v' w' ρ',s.run P w= .ok v' w'∧Ext (own B M) n Z ρ w H'.next Z ρ' w'∧Rel B M Z ρ' H' w'∧Qf w' Z ρ' v v'
section
variable {P:Program} {B:World} {M:Nat→Prop} {Z:Nat→Prop} {ρ:Nat→Option (Nat×Nat)} {w:World} {H:Heap}
theorem J1.same {s:Sem Value} {v:VV} {v':Value} (h:Rel B M Z ρ H w) (hs:s.run P w= .ok v' w) (hv:Qf w Z ρ v v'):J1 P B M H.next Z ρ w s v H:=⟨v',w,ρ,hs,Ext.refl _ _ _ _,h,hv⟩
def valloc (P:Program) (t:TypeId) (H:Heap):Option (VV×Heap):=match Kj P t with
 | some l=>some (.ptr H.next 0,H.add (.cells true l))
 | none=>none
theorem Uc (h:Rel B M Z ρ H w) {l:List VV} {xs:Array Value} (hl:Pre (Qf w Z ρ) l xs.toList) (t:TypeId) :
  ∃ ρ',(newRow t xs).run P w= .ok ⟨w.heap.size,0,none⟩ (w.alloc (.cells xs t))∧Ext (own B M) H.next Z ρ w (H.add (.cells true l)).next Z ρ' (w.alloc (.cells xs t))∧Rel B M Z ρ' (H.add (.cells true l)) (w.alloc (.cells xs t))∧ρ' H.next=some (w.heap.size,xs.size):=by
 obtain ⟨e,r⟩:=h.row hl t
 exact ⟨_,by simp [newRow,newObj];rfl,e,r,Xq _ _⟩
theorem valloc_sound (h:Rel B M Z ρ H w) {t:TypeId} {v:VV} {H':Heap} (hv:valloc P t H=some (v,H')):J1 P B M H.next Z ρ w (Instr.alloc t true (.tuple #[])) v H':=by
 unfold valloc at hv
 split at hv
 ·rename_i l hl
  simp at hv
  obtain ⟨rfl,rfl⟩:=hv
  obtain ⟨z,hz,hp,_⟩:=Xx hl
  obtain ⟨ρ',h1,h2,h3,h4⟩:=Uc (P:=P) h (hp w Z ρ).pre t
  exact ⟨_,_,ρ',by simp [Instr.alloc,hz,newVar,h1],h2,h3,.ptr h4⟩
 ·simp at hv
def vbox (x:VV) (H:Heap):Option (VV×Heap):=match cellsOf x with
 | some l=>some (.ptr H.next 0,H.add (.cells true l))
 | none=>none
theorem vbox_sound (h:Rel B M Z ρ H w) {t:TypeId} {x v:VV} {x':Value} {H':Heap} (hx:Qf w Z ρ x x') (hv:vbox x H=some (v,H')):J1 P B M H.next Z ρ w (Instr.box t x') v H':=by
 unfold vbox at hv
 split at hv
 ·rename_i l hl
  simp at hv
  obtain ⟨rfl,rfl⟩:=hv
  obtain ⟨ρ',h1,h2,h3,h4⟩:=Uc (P:=P) h (Kz hl hx).1.pre t
  exact ⟨_,_,ρ',by simp [Instr.box,newVar,h1],h2,h3,.ptr h4⟩
 ·simp at hv
def Dl (P:Program) (t:TypeId) (a:VV) (H:Heap):Option VV:=match a with
 | .ptr b o=>match H.get b with
  | some (.cells _ vs)=>vat P t vs o
  | some (.opt vs)=>vat P t vs o
  | _=>none
 | .rp vs o=>vat P t vs o
 | _=>none
theorem vload_run (h:Rel B M Z ρ H w) {t:TypeId} {a v:VV} {a':Value} (ha:Qf w Z ρ a a') (hv:Dl P t a H=some v): ∃ v' ad,a'= .pointer (some ad)∧(loadVar t ad).run P w= .ok v' w∧Qf w Z ρ v v':=by
 unfold Dl at hv
 split at hv
 ·rename_i b o
  split at hv
  ·rename_i r vs hb
   cases ha with
   | ptr hk =>
    obtain ⟨k',N',cs,t',fr,g1,g2,g3,g4,g5⟩:=h.at_ hb
    rw [hk] at g1;injection g1 with g1;injection g1 with g1 g1';subst g1 g1'
    obtain ⟨v',h1,h2⟩:=Wp (P:=P) (o0:=0) hv g4 (fun i hi=>by rw [Nat.zero_add,Js g2];simp)
    rw [Nat.zero_add] at h1
    exact ⟨v',_,rfl,h1,h2⟩
  ·rename_i vs hb
   cases ha with
   | ptr hk =>
    have hb2:(H.set b (.cells true vs)).get b=some (.cells true vs):=by rw [Heap.get_set,if_pos rfl,hb];rfl
    obtain ⟨k',N',cs,t',fr,g1,g2,g3,g4,g5⟩:=(h.toCells hb hk).at_ hb2
    rw [hk] at g1;injection g1 with g1;injection g1 with g1 g1';subst g1 g1'
    obtain ⟨v',h1,h2⟩:=Wp (P:=P) (o0:=0) hv g4 (fun i hi=>by rw [Nat.zero_add,Js g2];simp)
    rw [Nat.zero_add] at h1
    exact ⟨v',_,rfl,h1,h2⟩
  ·simp at hv
 ·cases ha with
  | rp hZ hlen hcell hrel =>
   obtain ⟨v',h1,h2⟩:=Wp (P:=P) hv (Pw.pre ⟨hlen,hrel⟩) hcell
   exact ⟨v',_,rfl,h1,h2⟩
 ·simp at hv
theorem vload_sound (h:Rel B M Z ρ H w) {t:TypeId} {a v:VV} {a':Value} (ha:Qf w Z ρ a a') (hv:Dl P t a H=some v):J1 P B M H.next Z ρ w (Instr.loadAt t a') v H:=by
 obtain ⟨v',ad,rfl,h1,h2⟩:=vload_run (P:=P) h ha hv
 exact J1.same h (by simp [Instr.loadAt,Instr.sureAddr,h1]) h2
def vstore (P:Program) (t:TypeId) (a x:VV) (H:Heap):Option Heap:=match a with
 | .ptr b o=>match H.get b with
  | some (.cells true vs)=>match cellsOf x with
   | some l=>match Jr P t with
    | some n=>match Nat.beq l.length n&&Nat.ble (o+l.length) vs.length with
     | true=>some (H.set b (.cells true (J3 vs o l)))
     | false=>none
    | none=>none
   | none=>none
  | _=>none
 | _=>none
theorem vstore_sound (h:Rel B M Z ρ H w) {t:TypeId} {a x:VV} {a' x':Value} {H':Heap} (ha:Qf w Z ρ a a') (hx:Qf w Z ρ x x') (hv:vstore P t a x H=some H') :
  ∃ w',(Instr.storeAt t a' x').run P w= .ok () w'∧Ext (own B M) H.next Z ρ w H'.next Z ρ w'∧Rel B M Z ρ H' w':=by
 unfold vstore at hv
 split at hv
 ·rename_i b o
  split at hv
  ·rename_i vs hb
   split at hv
   ·rename_i l hl
    split at hv
    ·rename_i n hn
     split at hv
     ·rename_i hc
      simp only [Bool.and_eq_true] at hc
      have h1:=Nat.eq_of_beq_eq_true hc.1
      have h2:=Nat.le_of_ble_eq_true hc.2
      simp at hv
      subst hv
      cases ha with
      | ptr hk =>
       obtain ⟨hp,ho⟩:=Kz hl hx
       obtain ⟨g1,g2,g3⟩:=h.write (P:=P) hb hk hp ho o h2
       have hsz:x'.cells.size=n:=by have:=hp.1;simp at this;omega
       exact ⟨_,by simp [Instr.storeAt,Instr.sureAddr,storeVar,Q6 hn,hsz,g1],g2,g3⟩
     ·simp at hv
    ·simp at hv
   ·simp at hv
  ·simp at hv
 ·simp at hv
end
end Go.Proofs.YtpbiblhkcomekaaGreat
namespace Go.Proofs.YtpbiblhkcomekaaGreat
open Go Go.RowKit
set_option linter.unusedSimpArgs false
set_option linter.unusedVariables false
section
variable {P:Program} {B:World} {M:Nat→Prop} {Z:Nat→Prop} {ρ:Nat→Option (Nat×Nat)} {w:World} {H:Heap}
def Zq (x:Option VV) (y d:Nat):Option Nat:=match x with
 | none=>some d
 | some (.sc (.int _ i))=>if 0≤i∧i≤(y:Int) then some i.toNat else none
 | _=>none
theorem Xf {k:IntKind} {i:Int} {y y':Nat} (h:0≤i∧i≤(y:Int)) (hy:y≤y') (c:BoundsCode) (w:World):(Instr.sliceBound (.int k i) y' c).run P w= .ok i.toNat w:=by
 have h':0≤i∧i≤(y':Int):=⟨h.1,by omega⟩
 simp only [Instr.sliceBound,asIntOf,Sem.run_bind,Sem.run_pure,Result.andThen_ok]
 rw [if_pos h']
 simp
def Yf (n c:Nat) (lo hi mx:Option VV):Option (Nat×Nat×Option Nat) :=
 match mx with
 | none=>match Zq hi c n with
  | some h=>match Zq lo h 0 with
   | some l=>some (l,h,none)
   | none=>none
  | none=>none
 | some x=>match Zq (some x) c 0,hi with
  | some m,some y=>match Zq (some y) m 0 with
   | some h=>match Zq lo h 0 with
    | some l=>some (l,h,some m)
    | none=>none
   | none=>none
  | _,_=>none
def ORelO (w:World) (Z:Nat→Prop) (ρ:Nat→Option (Nat×Nat)):Option VV→Option Value→Prop
 | none,none=>True
 | some a,some b=>Qf w Z ρ a b
 | _,_=>False
theorem Yw {x:Option VV} {x':Option Value} {y d r:Nat} (h:Zq x y d=some r) (hx:ORelO w Z ρ x x') :
  (x=none∧x'=none∧r=d)∨ ∃ k i,x'=some (.int k i)∧0≤i∧i≤(y:Int)∧r=i.toNat:=by
 cases x with
 | none =>
  cases x' with
  | none=>simp [Zq] at h;exact .inl ⟨rfl,rfl,h.symm⟩
  | some b=>exact hx.elim
 | some a =>
  cases x' with
  | none=>exact hx.elim
  | some b =>
   have hx':Qf w Z ρ a b:=hx
   cases a with
   | sc u =>
    cases u with
    | int k i =>
     simp only [Zq] at h
     split at h
     ·rename_i hc
      simp at h
      cases hx'
      exact .inr ⟨k,i,rfl,hc.1,hc.2,h.symm⟩
     ·simp at h
    | _=>simp [Zq] at h
   | _=>simp [Zq] at h
theorem Wq {isS:Bool} {n c c':Nat} {lo hi mx:Option VV} {lo' hi' mx':Option Value} {l h:Nat} {m:Option Nat} (hb:Yf n c lo hi mx=some (l,h,m)) (hc:c≤c') (hnc:n≤c)
  (hlo:ORelO w Z ρ lo lo') (hhi:ORelO w Z ρ hi hi') (hmx:ORelO w Z ρ mx mx') :
  ∃ m',(∀ W:World,(Instr.sliceBounds isS n c' lo' hi' mx').run P W= .ok (l,h,m') W)∧l≤h∧h≤m'∧m'≤c'∧(m=none→m'=c'∧h≤c)∧(∀ k,m=some k→m'=k∧k≤c):=by
 unfold Yf at hb
 split at hb
 ·cases mx' with
  | some b=>exact hmx.elim
  | none =>
   split at hb
   ·rename_i h0 hh
    split at hb
    ·rename_i l0 hl
     simp at hb
     obtain ⟨rfl,rfl,rfl⟩:=hb
     have hle:l0≤h0:=by
      rcases Yw hl hlo with ⟨_,_,rfl⟩|⟨k,i,_,h1,h2,rfl⟩ <;> omega
     have hhc:h0≤c:=by
      rcases Yw hh hhi with ⟨_,_,rfl⟩|⟨k,i,_,h1,h2,rfl⟩ <;> omega
     refine ⟨c',fun W=> ?_,hle,by omega,Nat.le_refl _,fun _=>⟨rfl,hhc⟩,fun k e=>by cases e⟩
     rcases Yw hh hhi with ⟨_,rfl,rfl⟩|⟨k,i,rfl,h1,h2,rfl⟩
     ·rcases Yw hl hlo with ⟨_,rfl,rfl⟩|⟨k2,i2,rfl,g1,g2,rfl⟩
      ·simp [Instr.sliceBounds]
      ·simp [Instr.sliceBounds,Xf ⟨g1,g2⟩ (Nat.le_refl _)]
     ·rcases Yw hl hlo with ⟨_,rfl,rfl⟩|⟨k2,i2,rfl,g1,g2,rfl⟩
      ·simp [Instr.sliceBounds,Xf ⟨h1,h2⟩ hc]
      ·simp [Instr.sliceBounds,Xf ⟨h1,h2⟩ hc,Xf ⟨g1,g2⟩ (Nat.le_refl _)]
    ·simp at hb
   ·simp at hb
 ·rename_i x
  split at hb
  ·rename_i m0 y hm
   split at hb
   ·rename_i h0 hh
    split at hb
    ·rename_i l0 hl
     simp at hb
     obtain ⟨rfl,rfl,rfl⟩:=hb
     have hle:l0≤h0:=by
      rcases Yw hl hlo with ⟨_,_,rfl⟩|⟨k,i,_,h1,h2,rfl⟩ <;> omega
     rcases Yw hm hmx with ⟨h3,_⟩|⟨k1,i1,rfl,f1,f2,rfl⟩
     ·cases h3
     rcases Yw hh hhi with ⟨h3,_⟩|⟨k2,i2,rfl,e1,e2,rfl⟩
     ·cases h3
     refine ⟨i1.toNat,fun W=> ?_,hle,by omega,by omega,(fun e=>by cases e),(fun k e=>by cases e;exact ⟨rfl,by omega⟩)⟩
     rcases Yw hl hlo with ⟨_,rfl,rfl⟩|⟨k3,i3,rfl,g1,g2,rfl⟩
     ·simp [Instr.sliceBounds,Xf ⟨f1,f2⟩ hc,Xf ⟨e1,e2⟩ (Nat.le_refl _)]
     ·simp [Instr.sliceBounds,Xf ⟨f1,f2⟩ hc,Xf ⟨e1,e2⟩ (Nat.le_refl _),Xf ⟨g1,g2⟩ (Nat.le_refl _)]
    ·simp at hb
   ·simp at hb
  ·simp at hb
def Na (P:Program) (t:TypeId) (x:VV) (lo hi mx:Option VV):Option VV :=
 match P.underlying t with
 | some (.slice e)=>match Jr P e with
  | some z=>match x with
   | .sl b o n c z'=>match Yf n (c.getD n) lo hi mx with
    | some (l,h,some m)=>some (.sl b (if m=l then o else o+l*z) (h - l) (some (m - l)) z)
    | some (l,h,none)=>match c with
     | some c=>some (.sl b (if c=l then o else o+l*z) (h - l) (some (c - l)) z)
     | none=>if z'=z then (if l=0 then some (.sl b o h none z) else if h=l then some (.ro 0 []) else some (.sl b (o+l*z) (h - l) none z)) else none
    | none=>none
   | .ro n vs=>match Yf n n lo hi mx with
    | some (l,h,_)=>some (.ro (h - l) ((vs.drop (l*z)).take ((h - l)*z)))
    | none=>none
   | _=>none
  | none=>none
 | some (.array nn e)=>match Jr P e,x with
  | some z,.ptr b o=>match Yf nn nn lo hi mx with
   | some (l,h,m)=>some (.sl b (if m.getD nn=l then o else o+l*z) (h - l) (some (m.getD nn - l)) z)
   | none=>none
  | _,_=>none
 | _=>none
theorem vslice_sound (h:Rel B M Z ρ H w) {t:TypeId} {x v:VV} {x':Value} {lo hi mx:Option VV} {lo' hi' mx':Option Value} (hx:Qf w Z ρ x x') (hlo:ORelO w Z ρ lo lo') (hhi:ORelO w Z ρ hi hi') (hmx:ORelO w Z ρ mx mx')
  (hv:Na P t x lo hi mx=some v):J1 P B M H.next Z ρ w (Instr.sliceAt t x' lo' hi' mx') v H:=by
 unfold Na at hv
 split at hv
 ·rename_i e hu
  split at hv
  ·rename_i z hz
   have hrun: ∀ (a:Option Addr) (n c' l hh m':Nat),(∀ W:World,(Instr.sliceBounds true n c' lo' hi' mx').run P W= .ok (l,hh,m') W) →
     (Instr.sliceAt t (.slice a n c') lo' hi' mx').run P w= .ok (.slice (if m'=l then a else a.map (·.add (l*z))) (hh - l) (m' - l)) w:=by
    intro a n c' l hh m' hr
    simp [Instr.sliceAt,Instr.slice,run_underlying hu,hr,Q6 hz]
   split at hv
   ·rename_i b o n c z'
    cases hx with
    | @sl _ _ _ k N c' _ _ hk hn hc hzz =>
     have hcc:c.getD n≤c'∧n≤c.getD n:=by
      cases c with
      | none=>exact ⟨hn,Nat.le_refl _⟩
      | some q=>have:=hc q rfl;subst this;exact ⟨Nat.le_refl _,hn⟩
     split at hv
     ·rename_i l hh m hb
      obtain ⟨m',hr,h1,h2,h3,_,h5⟩:=Wq (isS:=true) (P:=P) hb hcc.1 hcc.2 hlo hhi hmx
      obtain ⟨rfl,_⟩:=h5 m rfl
      simp at hv
      subst hv
      refine J1.same h (hrun _ _ _ _ _ _ hr) ?_
      by_cases hm:m'=l
      ·simp only [hm,if_true]
       exact .sl hk (by omega) (fun q e=>by cases e;rfl) (fun e=>by cases e)
      ·simp only [hm,if_false,Option.map_some,J6]
       exact .sl hk (by omega) (fun q e=>by cases e;rfl) (fun e=>by cases e)
     ·rename_i l hh hb
      obtain ⟨m',hr,h1,h2,h3,h4,_⟩:=Wq (isS:=true) (P:=P) hb hcc.1 hcc.2 hlo hhi hmx
      obtain ⟨rfl,h6⟩:=h4 rfl
      cases c with
      | some c0 =>
       have:=hc c0 rfl
       subst this
       simp at hv
       subst hv
       refine J1.same h (hrun _ _ _ _ _ _ hr) ?_
       by_cases hm:m'=l
       ·simp only [hm,if_true]
        exact .sl hk (by omega) (fun q e=>by cases e;rfl) (fun e=>by cases e)
       ·simp only [hm,if_false,Option.map_some,J6]
        exact .sl hk (by omega) (fun q e=>by cases e;rfl) (fun e=>by cases e)
      | none =>
       simp only at hv
       split at hv
       ·rename_i hze
        subst hze
        have hzz:=hzz rfl
        split at hv
        ·rename_i hl0
         subst hl0
         simp at hv
         subst hv
         refine J1.same h (hrun _ _ _ _ _ _ hr) ?_
         simp only [Nat.zero_mul,Option.map_some,J6,Nat.add_zero,ite_self,Nat.sub_zero]
         exact .sl hk (by omega) (fun q e=>by cases e) (fun _=>hzz)
        ·split at hv
         ·rename_i hl
          subst hl
          simp at hv
          subst hv
          refine J1.same h (hrun _ _ _ _ _ _ hr) ?_
          rw [Nat.sub_self]
          exact .ro0
         ·rename_i hl0 hl
          simp at hv
          subst hv
          refine J1.same h (hrun _ _ _ _ _ _ hr) ?_
          have hm: ¬ m'=l:=by omega
          simp only [hm,if_false,Option.map_some,J6]
          refine .sl hk (by omega) (fun q e=>by cases e) (fun _=> ?_)
          have:l*z'+(m' - l)*z'=m'*z':=by rw [← Nat.add_mul];congr 1;omega
          omega
       ·simp at hv
     ·simp at hv
   ·rename_i n vs
    split at hv
    ·rename_i l hh m hb
     simp at hv
     subst hv
     cases hx with
     | @ro _ k o c' _ cs hZ hn hlen hcell hrel =>
      obtain ⟨m',hr,h1,h2,h3,h4,h5⟩:=Wq (isS:=true) (P:=P) hb hn (Nat.le_refl _) hlo hhi hmx
      refine J1.same h (hrun _ _ _ _ _ _ hr) ?_
      by_cases hl:hh=l
      ·subst hl
       simp only [Nat.sub_self,Nat.zero_mul,List.take_zero]
       exact .ro0
      ·have hm: ¬ m'=l:=by omega
       simp only [hm,if_false,Option.map_some,J6]
       have hp:Pw (Qf w Z ρ) ((vs.drop (l*z)).take ((hh - l)*z)) ((cs.drop (l*z)).take ((hh - l)*z)):=(Pw.drop ⟨hlen,hrel⟩ _).take _
       refine .ro hZ (by omega) hp.1 (fun i hi=> ?_) hp.2
       have hi':i < (hh - l)*z:=by simp at hi;omega
       rw [List.getElem?_take_of_lt hi',List.getElem?_drop,Nat.add_assoc]
       exact hcell _ (by simp at hi;omega)
     | @ro0 a c' =>
      obtain ⟨m',hr,h1,h2,h3,h4,h5⟩:=Wq (isS:=true) (P:=P) hb (Nat.zero_le _) (Nat.le_refl _) hlo hhi hmx
      refine J1.same h (hrun _ _ _ _ _ _ hr) ?_
      have hh0:hh=0:=by
       cases m with
       | none=>have:=(h4 rfl).2;omega
       | some q=>have:=h5 q rfl;omega
      have hl0:l=0:=by omega
      subst hh0 hl0
      simp only [Nat.sub_self,Nat.zero_mul,List.take_zero]
      exact .ro0
    ·simp at hv
   ·simp at hv
  ·simp at hv
 ·rename_i nn e hu
  split at hv
  ·rename_i z b o hz
   split at hv
   ·rename_i l hh m hb
    simp at hv
    subst hv
    cases hx with
    | @ptr _ _ k N hk =>
     obtain ⟨m',hr,h1,h2,h3,h4,h5⟩:=Wq (isS:=false) (P:=P) hb (Nat.le_refl _) (Nat.le_refl _) hlo hhi hmx
     have hm:m'=m.getD nn:=by
      cases m with
      | none=>exact (h4 rfl).1
      | some q=>exact (h5 q rfl).1
     refine J1.same h (v':= .slice (some (if m'=l then ⟨k,o,none⟩ else ⟨k,o+l*z,none⟩)) (hh - l) (m' - l)) (by simp [Instr.sliceAt,run_underlying hu,Instr.sureAddr,hr,Q6 hz,J6]) ?_
     rw [← hm]
     by_cases hml:m'=l
     ·simp only [hml,if_true]
      exact .sl hk (by omega) (fun q e=>by cases e;rfl) (fun e=>by cases e)
     ·simp only [hml,if_false]
      exact .sl hk (by omega) (fun q e=>by cases e;rfl) (fun e=>by cases e)
   ·simp at hv
  ·simp at hv
 ·simp at hv
def Nc (P:Program) (s:TypeId) (x:VV) (i:Nat):Option VV:=match P.underlying s with
 | some (.struct fs)=>match fs[i]? with
  | some f=>match Jr P f.type with
   | some (_+1)=>match x with
    | .ptr b o=>some (.ptr b (o+f.offset))
    | .rp vs o=>some (.rp vs (o+f.offset))
    | _=>none
   | _=>none
  | none=>none
 | _=>none
theorem vfieldAddr_sound (h:Rel B M Z ρ H w) {s:TypeId} {x v:VV} {x':Value} {i:Nat} (hx:Qf w Z ρ x x') (hv:Nc P s x i=some v):J1 P B M H.next Z ρ w (Instr.fieldAt s x' i) v H:=by
 unfold Nc at hv
 split at hv
 ·rename_i fs hu
  split at hv
  ·rename_i f hf
   split at hv
   ·rename_i q hz
    split at hv
    ·simp at hv
     subst hv
     cases hx with
     | ptr hk=>refine J1.same h ?_ (.ptr hk);simp [Instr.fieldAt,run_underlying hu,hf,Instr.sureAddr,fieldPlace,Q6 hz,J6]
    ·simp at hv
     subst hv
     cases hx with
     | rp hZ hlen hcell hrel=>refine J1.same h ?_ (.rp hZ hlen hcell hrel);simp [Instr.fieldAt,run_underlying hu,hf,Instr.sureAddr,fieldPlace,Q6 hz,J6,Nat.add_assoc]
    ·simp at hv
   ·simp at hv
  ·simp at hv
 ·simp at hv
def Yu (P:Program) (t:TypeId) (x ix:VV):Option VV:=match ix with
 | .sc (.int _ i)=>match P.underlying t with
  | some (.slice e)=>match Jr P e with
   | some z=>match x with
    | .sl b o n _ _=>if 0≤i∧i < (n:Int) then some (.ptr b (o+i.toNat*z)) else none
    | .ro n vs=>if 0≤i∧i < (n:Int) then some (.rp vs (i.toNat*z)) else none
    | .gs b n _=>if 0≤i∧i < (n:Int) then some (.ptr b (i.toNat*z)) else none
    | _=>none
   | none=>none
  | some (.array n e)=>match Jr P e with
   | some z=>match x with
    | .ptr b o=>if 0≤i∧i < (n:Int) then some (.ptr b (o+i.toNat*z)) else none
    | .rp vs o=>if 0≤i∧i < (n:Int) then some (.rp vs (o+i.toNat*z)) else none
    | _=>none
   | none=>none
  | _=>none
 | _=>none
theorem vindexAddr_sound (h:Rel B M Z ρ H w) {t:TypeId} {x ix v:VV} {x' ix':Value} (hx:Qf w Z ρ x x') (hix:Qf w Z ρ ix ix') (hv:Yu P t x ix=some v):J1 P B M H.next Z ρ w (Instr.indexAt t x' ix') v H:=by
 unfold Yu at hv
 split at hv
 ·rename_i k i
  cases hix with
  | sc _ =>
   split at hv
   ·rename_i e hu
    split at hv
    ·rename_i z hz
     split at hv
     ·split at hv
      ·rename_i hc
       simp at hv
       subst hv
       cases hx with
       | sl hk hn hcc hzz=>refine J1.same h ?_ (.ptr hk);simp [Instr.indexAt,asIntOf,run_underlying hu,hc,Q6 hz,J6]
      ·simp at hv
     ·split at hv
      ·rename_i hc
       simp at hv
       subst hv
       cases hx with
       | ro hZ hn hlen hcell hrel=>refine J1.same h ?_ (.rp hZ hlen hcell hrel);simp [Instr.indexAt,asIntOf,run_underlying hu,hc,Q6 hz,J6]
       | ro0=>omega
      ·simp at hv
     ·split at hv
      ·rename_i hc
       simp at hv
       subst hv
       cases hx with
       | gs0=>omega
       | gs hk hn hzz h0=>refine J1.same h ?_ (.ptr hk);simp [Instr.indexAt,asIntOf,run_underlying hu,hc,Q6 hz,J6]
      ·simp at hv
     ·simp at hv
    ·simp at hv
   ·rename_i n e hu
    split at hv
    ·rename_i z hz
     split at hv
     ·split at hv
      ·rename_i hc
       simp at hv
       subst hv
       cases hx with
       | ptr hk=>refine J1.same h ?_ (.ptr hk);simp [Instr.indexAt,asIntOf,run_underlying hu,Instr.sureAddr,hc,Q6 hz,J6]
      ·simp at hv
     ·split at hv
      ·rename_i hc
       simp at hv
       subst hv
       cases hx with
       | rp hZ hlen hcell hrel=>refine J1.same h ?_ (.rp hZ hlen hcell hrel);simp [Instr.indexAt,asIntOf,run_underlying hu,Instr.sureAddr,hc,Q6 hz,J6,Nat.add_assoc]
      ·simp at hv
     ·simp at hv
    ·simp at hv
   ·simp at hv
 ·simp at hv
def vpart (P:Program) (t:TypeId) (vs:List VV) (o:Nat):Option VV:=match Wo P t with
 | some true=>match Jr P t with
  | some n=>some (.ag ((vs.drop o).take n))
  | none=>none
 | some false=>vs[o]?
 | none=>none
theorem vpart_sound {t:TypeId} {vs:List VV} {cs:Array Value} (hp:Pw (Qf w Z ρ) vs cs.toList) {o:Nat} {v:VV} (hv:vpart P t vs o=some v): ∃ v',(part t cs o).run P w= .ok v' w∧Qf w Z ρ v v':=by
 unfold vpart at hv
 split at hv
 ·rename_i ha
  split at hv
  ·rename_i n hn
   simp at hv
   subst hv
   refine ⟨.agg (cs.extract o (o+n)),by simp [part,Uo ha,Q6 hn],.ag' ?_⟩
   simp only [Array.toList_extract,List.extract_eq_take_drop]
   rw [show o+n - o=n by omega]
   exact (hp.drop o).take n
  ·simp at hv
 ·rename_i ha
  obtain ⟨c,hc,hr⟩:=hp.get hv
  have:cs[o]? = some c:=by simpa using hc
  exact ⟨c,by simp [part,Uo ha,this],hr⟩
 ·simp at hv
def vfield (P:Program) (s:TypeId) (x:VV) (i:Nat):Option VV:=match P.underlying s,x with
 | some (.struct fs),.ag vs=>match fs[i]? with
  | some f=>vpart P f.type vs f.offset
  | none=>none
 | _,_=>none
theorem vfield_sound (h:Rel B M Z ρ H w) {s:TypeId} {x v:VV} {x':Value} {i:Nat} (hx:Qf w Z ρ x x') (hv:vfield P s x i=some v):J1 P B M H.next Z ρ w (Instr.field s x' i) v H:=by
 unfold vfield at hv
 split at hv
 ·rename_i fs vs hu
  split at hv
  ·rename_i f hf
   cases hx with
   | ag h1 r1 =>
    obtain ⟨v',g1,g2⟩:=vpart_sound (P:=P) ⟨h1,r1⟩ hv
    exact J1.same h (by simp [Instr.field,run_underlying hu,hf,asAgg,g1]) g2
  ·simp at hv
 ·simp at hv
def vindex (P:Program) (t:TypeId) (x ix:VV):Option VV:=match P.underlying t,x,ix with
 | some (.array n e),.ag vs,.sc (.int _ i)=>match Jr P e with
  | some z=>if 0≤i∧i < (n:Int) then vpart P e vs (i.toNat*z) else none
  | none=>none
 | _,_,_=>none
theorem vindex_sound (h:Rel B M Z ρ H w) {t:TypeId} {x ix v:VV} {x' ix':Value} (hx:Qf w Z ρ x x') (hix:Qf w Z ρ ix ix') (hv:vindex P t x ix=some v):J1 P B M H.next Z ρ w (Instr.index t x' ix') v H:=by
 unfold vindex at hv
 split at hv
 ·rename_i n e vs k i hu
  split at hv
  ·rename_i z hz
   split at hv
   ·rename_i hc
    cases hix with
    | sc _ =>
     cases hx with
     | ag h1 r1 =>
      obtain ⟨v',g1,g2⟩:=vpart_sound (P:=P) ⟨h1,r1⟩ hv
      exact J1.same h (by simp [Instr.index,asIntOf,run_underlying hu,hc,Q6 hz,g1]) g2
   ·simp at hv
  ·simp at hv
 ·simp at hv
def Dm (x:VV) (i:Nat):Option VV:=match x with
 | .tp vs=>vs[i]?
 | _=>none
theorem vextract_sound (h:Rel B M Z ρ H w) {x v:VV} {x':Value} {i:Nat} (hx:Qf w Z ρ x x') (hv:Dm x i=some v):J1 P B M H.next Z ρ w (Instr.extract x' i) v H:=by
 unfold Dm at hv
 split at hv
 ·cases hx with
  | @tp _ cs h1 r1 =>
   obtain ⟨c,hc,hr⟩:=Pw.get (R:=Qf w Z ρ) ⟨h1,r1⟩ hv
   have:cs[i]? = some c:=by simpa using hc
   exact J1.same h (by simp [Instr.extract,this]) hr
 ·simp at hv
end
end Go.Proofs.YtpbiblhkcomekaaGreat
namespace Go.Proofs.YtpbiblhkcomekaaGreat
open Go Go.RowKit
set_option linter.unusedSimpArgs false
set_option linter.unusedVariables false
section
variable {P:Program} {B:World} {M:Nat→Prop} {Z:Nat→Prop} {ρ:Nat→Option (Nat×Nat)} {w:World} {H:Heap}
def Bg (place:Nat→Option (Nat×Nat)) (cells:List VV):List (Nat×VV)→Option (List VV)
 | []=>some cells
 | (i,v)::rest=>match place i with
  | none=>none
  | some (off,size)=>match cellsOf v with
   | none=>none
   | some l=>match Nat.beq l.length size&&Nat.ble (off+l.length) cells.length with
    | true=>Bg place (J3 cells off l) rest
    | false=>none
theorem Nr: ∀ (l:List Value) (off j:Nat) (cs:Array Value),((l.zipIdx j).foldl (fun cs (c,i)=>cs.setIfInBounds (off+i) c) cs).toList=J3 cs.toList (off+j) l
 | [],_,_,_=>rfl
 | v::r,off,j,cs=>by
  simp only [List.zipIdx_cons,List.foldl_cons,J3]
  rw [Nr r off (j+1)]
  simp [Nat.add_assoc]
theorem pw_setRun {R:VV→Value→Prop}: ∀ {l:List VV} {xs:List Value} (hl:Pw R l xs) {vs:List VV} {cs:List Value} (h:Pw R vs cs) (o:Nat),Pw R (J3 vs o l) (J3 cs o xs)
 | [],[],_,vs,cs,h,o=>h
 | v::r,x::xs,hl,vs,cs,h,o=>by
  have hv:R v x:=hl.2 0 v x rfl rfl
  have ht:Pw R r xs:=⟨by have:=hl.1;simpa using this,fun i u c hu hc=>hl.2 (i+1) u c (by simpa using hu) (by simpa using hc)⟩
  exact pw_setRun ht (h.set o hv) (o+1)
 | [],x::xs,hl,_,_,_,_=>by have:=hl.1;simp at this
 | v::r,[],hl,_,_,_,_=>by have:=hl.1;simp at this
def PwP (R:VV→Value→Prop):List (Nat×VV)→List (Nat×Value)→Prop
 | [],[]=>True
 | (i,v)::r,(j,x)::s=>i=j∧R v x∧PwP R r s
 | _,_=>False
theorem range0:Array.range 0= #[]:=rfl
theorem W3 {place:Nat→Option (Nat×Nat)}: ∀ {ps:List (Nat×VV)} {qs:List (Nat×Value)} {cells l:List VV} {cs:Array Value},PwP (Qf w Z ρ) ps qs→Pw (Qf w Z ρ) cells cs.toList→Bg place cells ps=some l →
  ∃ cs',Instr.fill place cs qs=some cs'∧Pw (Qf w Z ρ) l cs'.toList∧cs'.size=cs.size
 | [],[],cells,l,cs,_,hc,h=>by simp [Bg] at h;subst h;exact ⟨cs,rfl,hc,rfl⟩
 | (i,v)::r,(j,x)::s,cells,l,cs,hp,hc,h=>by
  obtain ⟨rfl,hv,hp⟩:=hp
  simp only [Bg] at h
  split at h
  ·simp at h
  ·rename_i off size hpl
   split at h
   ·simp at h
   ·rename_i lv hlv
    split at h
    ·rename_i hb
     simp only [Bool.and_eq_true] at hb
     have h1:=Nat.eq_of_beq_eq_true hb.1
     have h2:=Nat.le_of_ble_eq_true hb.2
     obtain ⟨hx,_⟩:=Kz hlv hv
     have hlx:=hx.1
     have hlc:=hc.1
     simp at hlx hlc
     have hcs:Pw (Qf w Z ρ) (J3 cells off lv) ((x.cells.zipIdx.foldl (fun cs (c,j)=>cs.setIfInBounds (off+j) c) cs)).toList:=by
      rw [← Array.foldl_toList,Array.toList_zipIdx,Nr]
      exact pw_setRun hx hc _
     obtain ⟨cs',g1,g2,g3⟩:=W3 hp hcs h
     refine ⟨cs',?_,g2,?_⟩
     ·simp only [Instr.fill,hpl]
      rw [if_neg (by simp;omega)]
      exact g1
     ·rw [g3]
      have:=congrArg List.length (show ((x.cells.zipIdx.foldl (fun cs (c,j)=>cs.setIfInBounds (off+j) c) cs)).toList=J3 cs.toList (off+0) x.cells.toList by rw [← Array.foldl_toList,Array.toList_zipIdx,Nr])
      simpa [Zx] using this
    ·simp at h
 | [],_::_,_,_,_,hp,_,_=>hp.elim
 | _::_,[],_,_,_,hp,_,_=>hp.elim
def Dk (P:Program):List Field→Option (List (Nat×Nat))
 | []=>some []
 | f::r=>match Jr P f.type,Dk P r with
  | some n,some l=>some ((f.offset,n)::l)
  | _,_=>none
theorem run_places: ∀ {fs:List Field} {l:List (Nat×Nat)} (W:World),Dk P fs=some l→(fs.mapM fun f=>do pure (f.offset,← sizeOf f.type):Sem (List (Nat×Nat))).run P W= .ok l W
 | [],l,W,h=>by simp [Dk] at h;subst h;rfl
 | f::r,l,W,h=>by
  simp only [Dk] at h
  split at h
  ·rename_i n l' hn hl
   simp at h
   subst h
   have ih:=run_places W hl
   rw [List.mapM_cons]
   simp only [Sem.run_bind,Q6 hn,Result.andThen_ok,Sem.run_pure]
   rw [ih]
   rfl
  ·simp at h
def vbuild (P:Program) (t:TypeId) (ps:List (Nat×VV)):Option VV:=match Kj P t with
 | some z=>match P.underlying t with
  | some (.struct fs)=>match Dk P fs.toList with
   | some l=>match Bg (fun i=>l[i]?) z ps with
    | some cs=>some (.ag cs)
    | none=>none
   | none=>none
  | some (.array _ e)=>match Jr P e with
   | some n=>match Bg (fun i=>some (i*n,n)) z ps with
    | some cs=>some (.ag cs)
    | none=>none
   | none=>none
  | _=>none
 | none=>none
theorem vbuild_sound (h:Rel B M Z ρ H w) {t:TypeId} {ps:List (Nat×VV)} {qs:Array (Nat×Value)} {v:VV} (hp:PwP (Qf w Z ρ) ps qs.toList) (hv:vbuild P t ps=some v):J1 P B M H.next Z ρ w (Instr.build t qs) v H:=by
 unfold vbuild at hv
 split at hv
 ·rename_i zl hz
  obtain ⟨z,hz1,hz2,_⟩:=Xx hz
  split at hv
  ·rename_i fs hu
   split at hv
   ·rename_i l hl
    split at hv
    ·rename_i cs hf
     simp at hv
     subst hv
     obtain ⟨cs',g1,g2,_⟩:=W3 hp (hz2 w Z ρ) hf
     refine J1.same h (v':= .agg cs') ?_ (.ag' g2)
     have hm:=run_places (P:=P) w hl
     have g1':Instr.fill (fun x=>l.toArray[x]?) z.cells qs.toList=some cs':=by simpa using g1
     simp only [Instr.build,Sem.run_bind,hz1,Result.andThen_ok,run_underlying hu,Array.mapM_eq_mapM_toList,Sem.run_map,hm,g1']
     rfl
    ·simp at hv
   ·simp at hv
  ·rename_i nn e hu
   split at hv
   ·rename_i n hn
    split at hv
    ·rename_i cs hf
     simp at hv
     subst hv
     obtain ⟨cs',g1,g2,_⟩:=W3 hp (hz2 w Z ρ) hf
     refine J1.same h (v':= .agg cs') ?_ (.ag' g2)
     simp [Instr.build,hz1,run_underlying hu,Q6 hn,g1]
    ·simp at hv
   ·simp at hv
  ·simp at hv
 ·simp at hv
def Wm (zl:List VV) (n:Nat):List VV:=match zl with
 | [z]=>List.replicate n z
 | _=>(List.range n).map fun i=>(zl[i % zl.length]?).getD .junk
theorem U9 {zl:List VV} {z:Array Value} (h:Pw (Qf w Z ρ) zl z.toList) (n:Nat) (h0:n=0∨0 < zl.length):Pw (Qf w Z ρ) (Wm zl n) ((Array.range n).map (fun i=>z[i % z.size]!)).toList:=by
 have hl:=h.1
 simp at hl
 have gen:Pw (Qf w Z ρ) ((List.range n).map fun i=>(zl[i % zl.length]?).getD .junk) ((Array.range n).map (fun i=>z[i % z.size]!)).toList:=by
  refine ⟨by simp,fun i u c hu hc=> ?_⟩
  have hi:i < n:=by
   have:=(List.getElem?_eq_some_iff.1 hu).1
   simpa using this
  have hz:0 < zl.length:=by omega
  have hm:i % zl.length < zl.length:=Nat.mod_lt _ hz
  simp [hi] at hu hc
  subst hu hc
  rw [← hl]
  obtain ⟨c,hc,hr⟩:=h.get (List.getElem?_eq_getElem hm)
  have:z[i % zl.length]? = some c:=by simpa using hc
  rw [List.getElem?_eq_getElem hm]
  simp only [Option.getD_some,getElem!_def,this]
  exact hr
 unfold Wm
 split
 ·rename_i zz
  have e:((List.range n).map fun i=>(([zz]:List VV)[i % ([zz]:List VV).length]?).getD .junk)=List.replicate n zz:=by
   apply List.ext_getElem?
   intro i
   by_cases hi:i < n
   ·simp [hi,Nat.mod_one]
   ·simp [hi]
  rw [e] at gen
  exact gen
 ·exact gen
def Za (P:Program) (t:TypeId) (len:Nat) (ps:List (Nat×VV)) (H:Heap):Option (VV×Heap):=match P.underlying t with
 | some (.slice e)=>match Jr P e,Kj P e with
  | some n,some zl=>match Nat.beq zl.length n&&Nat.ble (len*n) 16777216&&Nat.blt 0 n with
   | true=>match Bg (fun i=>some (i*n,n)) (Wm zl (len*n)) ps with
    | some cs=>some (.sl H.next 0 len (some len) n,H.add (.cells true cs))
    | none=>none
   | false=>none
  | _,_=>none
 | _=>none
theorem Dp (h:Rel B M Z ρ H w) {t:TypeId} {len:Nat} {ps:List (Nat×VV)} {qs:Array (Nat×Value)} {v:VV} {H':Heap} (hp:PwP (Qf w Z ρ) ps qs.toList) (hv:Za P t len ps H=some (v,H')) :
  J1 P B M H.next Z ρ w (Instr.buildSlice t len qs) v H':=by
 unfold Za at hv
 split at hv
 ·rename_i e hu
  split at hv
  ·rename_i n zl hn hz
   split at hv
   ·rename_i hb
    simp only [Bool.and_eq_true] at hb
    have h1:=Nat.eq_of_beq_eq_true hb.1.1
    have h2:=Nat.le_of_ble_eq_true hb.1.2
    have h3:=Nat.le_of_ble_eq_true hb.2
    split at hv
    ·rename_i cs hf
     simp at hv
     obtain ⟨rfl,rfl⟩:=hv
     obtain ⟨z,hz1,hz2,_⟩:=Xx hz
     obtain ⟨cs',g1,g2,_⟩:=W3 hp (U9 (hz2 w Z ρ) (len*n) (by omega)) hf
     obtain ⟨ρ',f1,f2,f3,f4⟩:=Uc (P:=P) h g2.pre e
     have hno: ¬ (len*n > 2 ^ 24):=by omega
     refine ⟨_,_,ρ',?_,f2,f3,.sl f4 (Nat.le_refl _) (fun q e=>by cases e;rfl) (fun e=>by cases e)⟩
     by_cases h0:len*n=0
     ·rw [h0] at g1
      have g1':Instr.fill (fun i=>some (i*n,n)) #[] qs.toList=some cs':=by simpa [range0] using g1
      simp [Instr.buildSlice,run_underlying hu,Q6 hn,h0,range0,g1',f1]
     ·have hno': ¬ (16777216 < len*n):=by omega
      simp [Instr.buildSlice,run_underlying hu,Q6 hn,hno',h0,hz1,g1,f1]
    ·simp at hv
   ·simp at hv
  ·simp at hv
 ·simp at hv
def Kl (P:Program) (t:TypeId) (len cap:VV) (H:Heap):Option (VV×Heap):=match len,cap,P.underlying t with
 | .sc (.int _ l),.sc (.int _ c),some (.slice e)=>match P.info? e,Kj P e with
  | some i,some zl=>if 0≤l∧l≤c∧c≤140737488355328∧c.toNat*i.bytes≤140737488355328∧zl.length=i.size∧0 < i.size then
    some (.sl H.next 0 l.toNat (some c.toNat) i.size,H.add (.cells true (Wm zl (c.toNat*i.size)))) else none
  | _,_=>none
 | _,_,_=>none
theorem vmakeSlice_sound (h:Rel B M Z ρ H w) {t:TypeId} {len cap v:VV} {len' cap':Value} {H':Heap} (hl:Qf w Z ρ len len') (hc:Qf w Z ρ cap cap') (hv:Kl P t len cap H=some (v,H')) :
  J1 P B M H.next Z ρ w (Instr.makeSlice t len' cap') v H':=by
 unfold Kl at hv
 split at hv
 ·rename_i k1 l k2 c e hu
  split at hv
  ·rename_i i zl hi hz
   split at hv
   ·rename_i hcond
    obtain ⟨a1,a2,a3,a4,a5,a6⟩:=hcond
    simp at hv
    obtain ⟨rfl,rfl⟩:=hv
    cases hl
    cases hc
    obtain ⟨z,hz1,hz2,_⟩:=Xx hz
    have hsz:Jr P e=some i.size:=by simp [Jr,hi]
    have hwl:IntKind.i64.wrap l=l:=by rw [IntKind.wrap_i64];omega
    have hwc:IntKind.i64.wrap c=c:=by rw [IntKind.wrap_i64];omega
    obtain ⟨c0,rfl⟩:=Int.eq_ofNat_of_zero_le (show 0≤c by omega)
    obtain ⟨l0,rfl⟩:=Int.eq_ofNat_of_zero_le a1
    simp only [Int.toNat_natCast] at a4
    have hb: ¬ (281474976710656 < (i.bytes:Int)*(c0:Int)):=by
     have:((c0*i.bytes:Nat):Int)≤140737488355328:=by omega
     rw [Int.natCast_mul,Int.mul_comm] at this
     omega
    have hbl: ¬ ((c0:Int) < (l0:Int)):=by omega
    obtain ⟨ρ',f1,f2,f3,f4⟩:=Uc (P:=P) h (U9 (hz2 w Z ρ) (c0*i.size) (by omega)).pre e
    refine ⟨.slice (some ⟨w.heap.size,0,none⟩) l0 c0,_,ρ',?_,f2,f3,.sl f4 (by omega) (fun q e=>by cases e;simp) (fun e=>by cases e)⟩
    have hn1: ¬ ((c0:Int) < 0):=by omega
    have hn2: ¬ ((l0:Int) < 0):=by omega
    by_cases h0:c0*i.size=0
    ·rw [h0] at f1
     have f1':(newRow e #[]).run P w= .ok ⟨w.heap.size,0,none⟩ (w.alloc (.cells ((Array.range (c0*i.size)).map (fun j=>z.cells[j % z.cells.size]!)) e)):=by simpa [h0,range0] using f1
     simp [Instr.makeSlice,run_underlying hu,asInt,asIntOf,typeInfo,hi,hwl,hwc,hb,hbl,hn1,hn2,Q6 hsz,h0,range0,f1']
    ·simp [Instr.makeSlice,run_underlying hu,asInt,asIntOf,typeInfo,hi,hwl,hwc,hb,hbl,hn1,hn2,Q6 hsz,h0,hz1,f1]
   ·simp at hv
  ·simp at hv
 ·simp at hv
def Jv (z:Nat) (x:VV) (H:Heap):Option (Nat×List VV):=match x with
 | .sl b o n _ _=>match H.get b with
  | some (.cells _ vs)=>if o+n*z≤vs.length then some (n,(vs.drop o).take (n*z)) else none
  | _=>none
 | .ro n vs=>if vs.length=n*z then some (n,vs) else none
 | .gs b n z'=>match H.get b with
  | some (.opt vs)=>if vs.length=n*z∧z'=z then some (n,vs) else none
  | _=>none
 | .sc (.slice none 0 _)=>some (0,[])
 | .sc (.string s)=>if z=1 then some (s.size,s.data.toList.map fun b=> .sc (.int .u8 b.toNat)) else none
 | _=>none
theorem Kr {W:World} (h:W.heap=w.heap) (a:Addr):W.cell? a=w.cell? a:=by simp [World.cell?,h]
theorem Yv (h:Rel B M Z ρ H w) {z:Nat} {x:VV} {x':Value} {n:Nat} {l:List VV} (hx:Qf w Z ρ x x') (hv:Jv z x H=some (n,l)) :
  ∃ xs:List Value,Pw (Qf w Z ρ) l xs∧xs.length=n*z∧(∀ W:World,(Builtin.lenOf x').run P W= .ok n W)∧ ∀ m,m≤n→ ∀ W:World,W.heap=w.heap→(Builtin.firstCells z m x').run P W= .ok (xs.take (m*z)).toArray W:=by
 unfold Jv at hv
 split at hv
 ·rename_i b o n' c z'
  split at hv
  ·rename_i r vs hb
   split at hv
   ·rename_i hle
    simp at hv
    obtain ⟨rfl,rfl⟩:=hv
    cases hx with
    | sl hk hn hc hzz =>
     obtain ⟨ds,g1,g2,g3⟩:=h.read hb hk o (n'*z) hle
     refine ⟨ds,g1,g2,fun W=>rfl,fun m hm W hW=> ?_⟩
     have hmz:m*z≤n'*z:=Nat.mul_le_mul_right _ hm
     have hl:(ds.take (m*z)).length=m*z:=by simp;omega
     have:=run_loadCells_list (P:=P) W _ (ds.take (m*z)) (fun j v hj=>by
      have hjm:j < m*z:=by
       have:=(List.getElem?_eq_some_iff.1 hj).1
       omega
      rw [List.getElem?_take_of_lt hjm] at hj
      rw [Kr hW]
      exact g3 j v hj)
     rw [hl] at this
     simpa [Builtin.firstCells] using this
   ·simp at hv
  ·simp at hv
 ·split at hv
  ·rename_i n' vs hle
   simp at hv
   obtain ⟨rfl,rfl⟩:=hv
   cases hx with
   | @ro _ k o c' _ cs hZ hn hlen hcell hrel =>
    refine ⟨cs,⟨hlen,hrel⟩,by omega,fun W=>rfl,fun m hm W hW=> ?_⟩
    have hmz:m*z≤n'*z:=Nat.mul_le_mul_right _ hm
    have hl:(cs.take (m*z)).length=m*z:=by simp;omega
    have:=run_loadCells_list (P:=P) W ⟨k,o,none⟩ (cs.take (m*z)) (fun j v hj=>by
     have hjm:j < m*z:=by
      have:=(List.getElem?_eq_some_iff.1 hj).1
      omega
     rw [List.getElem?_take_of_lt hjm] at hj
     rw [Kr hW,J6,hcell j (by have:=(List.getElem?_eq_some_iff.1 hj).1;omega)]
     exact hj)
    rw [hl] at this
    simpa [Builtin.firstCells] using this
   | @ro0 a c' =>
    refine ⟨[],Pw.nil,by simp,fun W=>rfl,fun m hm W hW=> ?_⟩
    obtain rfl:m=0:=by omega
    cases a with
    | none=>simp [Builtin.firstCells]
    | some a=>simp [Builtin.firstCells,loadCells,loadCellsFrom]
  ·simp at hv
 ·rename_i b n' z'
  split at hv
  ·rename_i vs hb
   split at hv
   ·rename_i hle
    simp at hv
    obtain ⟨rfl,rfl⟩:=hv
    obtain ⟨hle,rfl⟩:=hle
    cases hx with
    | @gs0 _ _ a =>
     obtain rfl:vs= []:=List.eq_nil_of_length_eq_zero (by simpa using hle)
     refine ⟨[],Pw.nil,by simp,fun W=>rfl,fun m hm W hW=> ?_⟩
     obtain rfl:m=0:=by omega
     cases a with
     | none=>simp [Builtin.firstCells]
     | some a=>simp [Builtin.firstCells,loadCells,loadCellsFrom]
    | gs hk hn hzz h0 =>
     have h2:=h.toCells hb hk
     have hb2:(H.set b (.cells true vs)).get b=some (.cells true vs):=by rw [Heap.get_set,if_pos rfl,hb];rfl
     obtain ⟨ds,g1,g2,g3⟩:=h2.read hb2 hk 0 (n'*z') (by omega)
     rw [List.drop_zero,List.take_of_length_le (by omega)] at g1
     refine ⟨ds,g1,g2,fun W=>rfl,fun m hm W hW=> ?_⟩
     have hmz:m*z'≤n'*z':=Nat.mul_le_mul_right _ hm
     have hl:(ds.take (m*z')).length=m*z':=by simp;omega
     have:=run_loadCells_list (P:=P) W _ (ds.take (m*z')) (fun j v hj=>by
      have hjm:j < m*z':=by
       have:=(List.getElem?_eq_some_iff.1 hj).1
       omega
      rw [List.getElem?_take_of_lt hjm] at hj
      rw [Kr hW]
      exact g3 j v hj)
     rw [hl] at this
     simpa [Builtin.firstCells] using this
   ·simp at hv
  ·simp at hv
 ·simp at hv
  obtain ⟨rfl,rfl⟩:=hv
  cases hx
  exact ⟨[],Pw.nil,by simp,fun W=>rfl,fun m hm W hW=>by simp [Builtin.firstCells]⟩
 ·split at hv
  ·rename_i s hz
   subst hz
   simp at hv
   obtain ⟨rfl,rfl⟩:=hv
   cases hx
   refine ⟨s.data.toList.map fun b=> .int .u8 b.toNat,?_,by rw [List.length_map,Nat.mul_one];rfl,fun W=>rfl,fun m hm W hW=> ?_⟩
   ·have:=pw_sc (w:=w) (Z:=Z) (ρ:=ρ) (l:=s.data.toList.map fun b=>Value.int .u8 b.toNat) (List.all_eq_true.2 (by intro x hx;obtain ⟨b,_,rfl⟩:=List.mem_map.1 hx;rfl))
    simpa [List.map_map,Function.comp_def] using this
   ·simp only [Builtin.firstCells,Sem.run_pure,Nat.mul_one]
    congr 1
    apply Array.ext'
    simp [ByteArray.data_extract,List.extract_eq_take_drop]
  ·simp at hv
 ·simp at hv
end
end Go.Proofs.YtpbiblhkcomekaaGreat
