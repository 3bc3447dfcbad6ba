import Derived.Test.YtpbiblhkcomekaaGreatBE1
import Derived.MapKept
import Derived.RangeFuncRecord
import Derived.RangeFuncNested
import Derived.Shelf.Abstract
/- The walk's operations on virtual values, fourth part: append, copy, conversions, len. Over any program. -/
namespace Go.Proofs.YtpbiblhkcomekaaGreat
open Go Go.RowKit
set_option linter.unusedSimpArgs false
set_option linter.unusedVariables false
section
variable {P:Program} {B:World} {M:Nat→Prop} {Z:Nat→Prop} {ρ:Nat→Option (Nat×Nat)} {w:World} {H:Heap}
theorem Ws {sT xT ty e:TypeId} {d:TypeDesc} {z m n c:Nat} {x:Value} {base:Option Addr} {xs:List Value} (hu:P.underlying sT=some (.slice e)) (hx:P.underlying xT=some d) (hd: ∀ k,d≠ .int k)
  (hz:Jr P e=some z) (hlen: ∀ W:World,(Builtin.lenOf x).run P W= .ok m W) (hf: ∀ W:World,W.heap=w.heap→(Builtin.firstCells z m x).run P W= .ok xs.toArray W) (hfit:n+m≤c) {w':World}
  (hs: ∀ a,base=some a→(storeCells (a.add (n*z)) xs).run P w= .ok () w') (hb:base=none→w'=w) :
  (Builtin.append_ #[sT,xT] ty #[.slice base n c,x]).run P w= .ok (.slice base (n+m) c) w':=by
 have hzeros:(match d with|.int _=>true|_=>false)=false:=by cases d <;> first|rfl|exact (hd _ rfl).elim
 cases base with
 | none =>
  have:=hb rfl
  subst this
  simp [Builtin.append_,run_underlying hu,run_underlying hx,Q6 hz,hzeros,hlen,hfit,hf w' rfl]
 | some a =>
  simp [Builtin.append_,run_underlying hu,run_underlying hx,Q6 hz,hzeros,hlen,hfit,hf w rfl,hs a rfl]
theorem Wr {sT xT ty e:TypeId} {d:TypeDesc} {i:TypeInfo} {zv:Value} {m n c:Nat} {x:Value} {base:Option Addr} {xs os:List Value} (hu:P.underlying sT=some (.slice e)) (hx:P.underlying xT=some d) (hd: ∀ k,d≠ .int k)
  (hi:P.info? e=some i) (hzv:i.zero=some zv) (hlen: ∀ W:World,(Builtin.lenOf x).run P W= .ok m W) (hf: ∀ W:World,W.heap=w.heap→(Builtin.firstCells i.size m x).run P W= .ok xs.toArray W)
  (ho: ∀ W:World,W.heap=w.heap→(Builtin.firstCells i.size n (.slice base n c)).run P W= .ok os.toArray W) (hg:c < n+m) (hb:(n+m)*i.bytes≤140737488355328) (h63:n+m≤4611686018427387904) :
  ∃ cap rest,n+m≤cap∧(Builtin.append_ #[sT,xT] ty #[.slice base n c,x]).run P w= .ok (.slice (some ⟨w.heap.size,0,none⟩) (n+m) cap) (w.drew.alloc (.cells (os.toArray++xs.toArray++rest) e))∧rest=Builtin.zeroCells zv.cells (cap - (n+m)):=by
 have hzeros:(match d with|.int _=>true|_=>false)=false:=by cases d <;> first|rfl|exact (hd _ rfl).elim
 have hn: ¬ (n+m≤c):=by omega
 have h63': ¬ (9223372036854775807 < ((n:Int)+(m:Int))):=by omega
 have h48:=growslice_fits hg hb
 have h48': ¬ (281474976710656 < Builtin.nextslicecap (n+m) c*i.bytes):=by omega
 refine ⟨grownCap w (n+m) c e,_,?_,?_,rfl⟩
 ·exact Nat.le_add_right _ _
 ·have hf1:=hf w.drew rfl
  have ho1:=ho w.drew rfl
  have hsz:Jr P e=some i.size:=by simp [Jr,hi]
  simp [Builtin.append_,run_underlying hu,run_underlying hx,Q6 hsz,typeInfo,zeroValue,hi,hzv,hzeros,hlen,hn,h63',h48',Question.forced,hf1,ho1,newRow,grownCap]
  congr 2
  apply Array.ext'
  simp
def Kv (i : TypeInfo) (m : Nat) (l : List VV) (s : VV) (H : Heap) : Option (VV × Heap) := match s with
  | .sc (.slice none 0 0) => if m = 0 then some (s, H) else if m * i.bytes ≤ 140737488355328 ∧ m ≤ 4611686018427387904 then some (.sl H.next 0 m none i.size, H.add (.cells true l)) else none
  | .ro n vs => if m = 0 then some (s, H) else none
  | .sl b o n (some c) z' => if m = 0 then some (s, H) else match H.get b with
    | some (.cells rw vs) =>
              if n + m ≤ c then
                match rw with
                | true => if o + (n * i.size + l.length) ≤ vs.length then some (.sl b o (n + m) (some c) z', H.set b (.cells true (J3 vs (o + n * i.size) l))) else none
                | false => none
              else if o + n * i.size ≤ vs.length ∧ (n + m) * i.bytes ≤ 140737488355328 ∧ n + m ≤ 4611686018427387904 then
                some (.sl H.next 0 (n + m) none i.size, H.add (.cells true ((vs.drop o).take (n * i.size) ++ l))) else none
    | _ => none
  | .sl b 0 n none z' => if m = 0 then some (s, H) else match H.get b with
    | some (.cells true vs) => if z' = i.size ∧ n * i.size ≤ vs.length ∧ (n + m) * i.bytes ≤ 140737488355328 ∧ n + m ≤ 4611686018427387904 then
                some (.sl H.next 0 (n + m) none i.size, (H.del b).add (.cells true (vs.take (n * i.size) ++ l))) else none
    | _ => none
  | _ => none
def Kt (P:Program) (sT xT:TypeId) (s x:VV) (H:Heap):Option (VV×Heap):=match P.underlying sT with
 | some (.slice e)=>match P.info? e,Kj P e with
  | some i,some zl=>match Jv i.size x H with
   | some (m,l)=>match Nat.beq zl.length i.size&&l.all VV.one,P.underlying xT with
    | _,none=>none
    | _,some (.int _)=>none
    | false,_=>none
    | true,some _=>Kv i m l s H
   | none=>match P.underlying xT,x with
    | some (.int _),.sc (.int _ (.ofNat m))=>match Nat.beq zl.length i.size&&(Wm zl (m*i.size)).all VV.one&&Nat.ble m 4611686018427387904&&Nat.ble (m*i.bytes) 140737488355328 with
     | true=>Kv i m (Wm zl (m*i.size)) s H
     | false=>none
    | _,_=>none
  | _,_=>none
 | _=>none
theorem Yh (z:Array Value) (n:Nat):(Builtin.zeroCells z n).size=n*z.size:=by simp [Builtin.zeroCells]
theorem Rel.drewRow (h:Rel B M Z ρ H w) {l:List VV} {xs:Array Value} (hl:Pre (Qf w Z ρ) l xs.toList) (t:TypeId) (fr:Nat×Nat) (hfr:fr.1=fr.2∨fr=(xs.size,xs.size+1)) :
  ∃ ρ',Ext (own B M) H.next Z ρ w (H.add (.cells true l)).next Z ρ' (w.drew.alloc (.cells xs t fr))∧Rel B M Z ρ' (H.add (.cells true l)) (w.drew.alloc (.cells xs t fr))∧ρ' H.next=some (w.heap.size,xs.size):=by
 have h1:=h.drew
 have hl1:Pre (Qf w.drew Z ρ) l xs.toList:=hl.mono fun _ _ hh=>hh.ext (Ext.drew (X:=fun _=>False) (n:=0))
 obtain ⟨e,r⟩:=h1.alloc (.cells true l) (.cells xs t fr) xs.size ⟨xs,t,fr,rfl,rfl,hl1,hfr⟩
 exact ⟨_,Ext.drew.trans e,r,Xq _ _⟩
theorem pre_app {R:VV→Value→Prop} {vs:List VV} {cs rest:List Value} (h:Pw R vs cs):Pre R vs (cs++rest):=fun i u hu=>by
 obtain ⟨c,hc,hr⟩:=h.get hu
 exact ⟨c,by rw [List.getElem?_append_left (List.getElem?_eq_some_iff.1 hc).1];exact hc,hr⟩
theorem Cu (h:Rel B M Z ρ H w) {sT xT ty e:TypeId} {i:TypeInfo} {zl l:List VV} {m:Nat} {s v:VV} {s' x':Value} {xs:List Value} {H':Heap} {zv:Value} (hz2: ∀ (w:World) Z ρ,Pw (Qf w Z ρ) zl zv.cells.toList) (hzs:zl.length=i.size) (h1:l.all VV.one=true) (p1:Pw (Qf w Z ρ) l xs) (p2:xs.length=m*i.size) (hs:Qf w Z ρ s s') (hv:Kv i m l s H=some (v,H'))
  (hfit: ∀ (n c:Nat) (base:Option Addr) (w':World),n+m≤c→(∀ a,base=some a→(storeCells (a.add (n*i.size)) xs).run P w= .ok () w')→(base=none→w'=w)→(Builtin.append_ #[sT,xT] ty #[.slice base n c,x']).run P w= .ok (.slice base (n+m) c) w')
  (hnew: ∀ (n c:Nat) (base:Option Addr) (os:List Value),(∀ W:World,W.heap=w.heap→(Builtin.firstCells i.size n (.slice base n c)).run P W= .ok os.toArray W)→c < n+m→(n+m)*i.bytes≤140737488355328→n+m≤4611686018427387904 →
   ∃ cap rest,n+m≤cap∧(Builtin.append_ #[sT,xT] ty #[.slice base n c,x']).run P w= .ok (.slice (some ⟨w.heap.size,0,none⟩) (n+m) cap) (w.drew.alloc (.cells (os.toArray++xs.toArray++rest) e))∧rest=Builtin.zeroCells zv.cells (cap - (n+m))) :
  J1 P B M H.next Z ρ w (Builtin.append_ #[sT,xT] ty #[s',x']) v H':=by
 have hone:=pw_one h1 p1
 have hll:=p1.1
 have hfit0:=hfit
 have empty: ∀ (n c:Nat) (base:Option Addr),m=0→n≤c→s'= .slice base n c→Qf w Z ρ v s'→H=H'→J1 P B M H.next Z ρ w (Builtin.append_ #[sT,xT] ty #[s',x']) v H':=by
  intro n c base h0 hc e1 hs e3
  subst h0 e1 e3
  have hx0:xs= []:=List.eq_nil_of_length_eq_zero (by simpa using p2)
  subst hx0
  have hst: ∀ a,base=some a→(storeCells (a.add (n*i.size)) ([]:List Value)).run P w= .ok () w:=fun a _=>rfl
  have:=hfit n c base w (show n+0≤c by omega) hst (fun _=>rfl)
  exact J1.same h this hs
 have fresh: ∀ (n c:Nat) (base:Option Addr) (os:List Value) (ol:List VV),s'= .slice base n c→Pw (Qf w Z ρ) ol os→os.length=n*i.size→(∀ W:World,W.heap=w.heap→(Builtin.firstCells i.size n (.slice base n c)).run P W= .ok os.toArray W) →
   c < n+m→(n+m)*i.bytes≤140737488355328→n+m≤4611686018427387904→ ∀ (K:Heap),Rel B M Z ρ K w→K.next=H.next→v= .sl K.next 0 (n+m) none i.size→H'=K.add (.cells true (ol++l))→J1 P B M H.next Z ρ w (Builtin.append_ #[sT,xT] ty #[s',x']) v H':=by
  intro n c base os ol e1 hol hos ho hg hb h63 K hK hKn e2 e3
  subst e1 e2 e3
  obtain ⟨cap,rest,q1,q2,q3⟩:=hnew n c base os ho hg hb h63
  have hp:Pre (Qf w Z ρ) (ol++l) (os.toArray++xs.toArray++rest).toList:=by
   simp only [Array.toList_append]
   exact pre_app (hol.append p1)
  obtain ⟨ρ',g1,g2,g3⟩:=Rel.drewRow hK hp e (0,0) (.inl rfl)
  refine ⟨_,_,ρ',q2,hKn ▸ g1,g2,.sl g3 q1 (fun q e=>by cases e) (fun _=> ?_)⟩
  have hzs:zv.cells.size=i.size:=by have:=(hz2 w Z ρ).1;simp at this;omega
  simp only [Array.size_append,List.size_toArray,q3,Yh,hzs,hos,p2,Nat.zero_add]
  rw [← Nat.add_mul,← Nat.add_mul]
  exact Nat.mul_le_mul_right _ (by omega)
 unfold Kv at hv
 split at hv
 ·cases hs
  split at hv
  ·rename_i h0
   simp at hv
   exact empty 0 0 none h0 (by omega) rfl (by rw [← hv.1];exact .sc rfl) hv.2
  ·rename_i h0
   split at hv
   ·rename_i hc
    simp at hv
    refine fresh 0 0 none [] [] rfl Pw.nil (by simp) (fun W _=>by simp [Builtin.firstCells]) (by omega) (by simpa using hc.1) (by omega) H h rfl ?_ ?_
    ·simp [hv.1]
    ·simp [hv.2]
   ·simp at hv
 ·rename_i n vs
  split at hv
  ·rename_i h0
   simp at hv
   cases hs with
   | ro hZ hn hlen hcell hrel=>exact empty _ _ _ h0 hn rfl (by rw [← hv.1];exact .ro hZ hn hlen hcell hrel) hv.2
   | ro0=>exact empty _ _ _ h0 (Nat.zero_le _) rfl (by rw [← hv.1];exact .ro0) hv.2
  ·simp at hv
 ·rename_i b o n c z'
  cases hs with
  | @sl _ _ _ k N c' _ _ hk hn hcc hzz =>
   have:=hcc c rfl
   subst this
   split at hv
   ·rename_i h0
    simp at hv
    exact empty _ _ _ h0 hn rfl (by rw [← hv.1];exact .sl hk hn hcc hzz) hv.2
   ·rename_i h0
    split at hv
    ·rename_i rw vs hb
     split at hv
     ·rename_i hfit
      split at hv
      ·split at hv
       ·rename_i hle
        simp at hv
        obtain ⟨rfl,rfl⟩:=hv
        obtain ⟨g1,g2,g3⟩:=h.write (P:=P) hb hk p1 hone (o+n*i.size) (by omega)
        refine ⟨_,_,ρ,hfit0 _ _ _ _ hfit (fun a ha=>by cases ha;rw [J6];exact g1) (fun e=>by cases e),g2,g3,.sl hk hfit (fun q e=>by cases e;rfl) (fun e=>by cases e)⟩
       ·simp at hv
      ·simp at hv
     ·rename_i hfit
      split at hv
      ·rename_i hc
       simp at hv
       obtain ⟨ds,r1,r2,r3⟩:=h.read hb hk o (n*i.size) hc.1
       refine fresh n _ _ ds _ rfl r1 r2 (fun W hW=> ?_) (by omega) hc.2.1 hc.2.2 H h rfl hv.1.symm hv.2.symm
       have:=run_loadCells_list (P:=P) W _ ds (fun j v hj=>by rw [Kr hW];exact r3 j v hj)
       rw [r2] at this
       simpa [Builtin.firstCells] using this
      ·simp at hv
    ·simp at hv
 ·rename_i b n z'
  cases hs with
  | @sl _ _ _ k N c' _ _ hk hn hcc hzz =>
   have hzz':=hzz rfl
   split at hv
   ·rename_i h0
    simp at hv
    exact empty _ _ _ h0 hn rfl (by rw [← hv.1];exact .sl hk hn hcc hzz) hv.2
   ·rename_i h0
    split at hv
    ·rename_i vs hb
     split at hv
     ·rename_i hc
      obtain ⟨c1,c2,c3,c4⟩:=hc
      subst c1
      by_cases hfit:n+m≤c'
      ·simp at hv
       obtain ⟨rfl,rfl⟩:=hv
       have hN:n*i.size+xs.length≤N:=by
        rw [p2,← Nat.add_mul]
        have:=Nat.mul_le_mul_right i.size hfit
        omega
       obtain ⟨g1,g2,g3⟩:=h.grow (P:=P) hb hk p1 hone (n*i.size) c2 hN
       refine ⟨_,_,_,hfit0 _ _ _ _ hfit (fun a ha=>by cases ha;rw [J6,Nat.zero_add];exact g1) (fun e=>by cases e),g2,g3,.sl (Xq _ _) hfit (fun q e=>by cases e) (fun _=>hzz')⟩
      ·simp at hv
       obtain ⟨ds,r1,r2,r3⟩:=h.read hb hk 0 (n*i.size) (by omega)
       refine fresh n _ _ ds _ rfl (by simpa using r1) r2 (fun W hW=> ?_) (by omega) c3 c4 (H.del b) (h.del b) rfl ?_ ?_
       ·have:=run_loadCells_list (P:=P) W _ ds (fun j v hj=>by rw [Kr hW];exact r3 j v hj)
        rw [r2] at this
        simpa [Builtin.firstCells] using this
       ·exact hv.1.symm
       ·exact hv.2.symm
     ·simp at hv
    ·simp at hv
 ·simp at hv
theorem vappCase_sound (h:Rel B M Z ρ H w) {sT xT ty e:TypeId} {i:TypeInfo} {zl l:List VV} {m:Nat} {d:TypeDesc} {s x v:VV} {s' x':Value} {H':Heap} (hu:P.underlying sT=some (.slice e)) (hi:P.info? e=some i) (hzl:Kj P e=some zl)
  (hel:Jv i.size x H=some (m,l)) (hzs:zl.length=i.size) (h1:l.all VV.one=true) (hxT:P.underlying xT=some d) (hd: ∀ k,d≠ .int k) (hs:Qf w Z ρ s s') (hx:Qf w Z ρ x x') (hv:Kv i m l s H=some (v,H')) :
  J1 P B M H.next Z ρ w (Builtin.append_ #[sT,xT] ty #[s',x']) v H':=by
 obtain ⟨zv,hz1,hz2,_,i2,hi2,hz3⟩:=Xx hzl
 rw [hi] at hi2;injection hi2 with hi2;subst hi2
 have hsz:Jr P e=some i.size:=by simp [Jr,hi]
 obtain ⟨xs,p1,p2,p3,p4⟩:=Yv (P:=P) h hx hel
 have p4': ∀ W:World,W.heap=w.heap→(Builtin.firstCells i.size m x').run P W= .ok xs.toArray W:=fun W hW=>by
  have:=p4 m (Nat.le_refl _) W hW
  rwa [List.take_of_length_le (by omega)] at this
 exact Cu h (e:=e) hz2 hzs h1 p1 p2 hs hv (fun n c base w' hf hs hb=>Ws (ty:=ty) hu hxT hd hsz p3 p4' hf hs hb) (fun n c base os=>Wr (ty:=ty) hu hxT hd hi hz3 p3 p4')
theorem run_append_fit_z {sT xT ty e:TypeId} {kx k:IntKind} {i:TypeInfo} {zv:Value} {m n c:Nat} {base:Option Addr} (hu:P.underlying sT=some (.slice e)) (hx:P.underlying xT=some (.int k)) (hi:P.info? e=some i) (hzv:i.zero=some zv) (hzc:zv.cells.size=i.size) (hm:m≤4611686018427387904) (hmb:m*i.bytes≤140737488355328) (hfit:n+m≤c) {w':World}
  (hs: ∀ a,base=some a→(storeCells (a.add (n*i.size)) (Builtin.zeroCells zv.cells m).toList).run P w= .ok () w') (hb:base=none→w'=w) :
  (Builtin.append_ #[sT,xT] ty #[.slice base n c,.int kx m]).run P w= .ok (.slice base (n+m) c) w':=by
 have hsz:Jr P e=some i.size:=by simp [Jr,hi]
 have hwl:IntKind.i64.wrap (m:Int)=m:=by rw [IntKind.wrap_i64];omega
 have hb1: ¬ (281474976710656 < (m:Int)*(i.bytes:Int)):=by
  have:((m*i.bytes:Nat):Int)≤140737488355328:=by omega
  rw [Int.natCast_mul] at this
  omega
 have hb0: ¬ ((m:Int) < 0):=by omega
 have hza:(if m*i.size=0 then (#[]:Array Value) else Builtin.zeroCells zv.cells m)=Builtin.zeroCells zv.cells m:=by
  split
  ·rename_i h0
   symm
   apply Array.eq_empty_of_size_eq_zero
   rw [Yh,hzc,h0]
  ·rfl
 by_cases h0:m*i.size=0
 ·rw [if_pos h0] at hza
  cases base with
  | none =>
   have:=hb rfl
   subst this
   simp [Builtin.append_,run_underlying hu,run_underlying hx,Q6 hsz,typeInfo,hi,zeroValue,hzv,asInt,asIntOf,hwl,hb1,hb0,hfit,h0]
  | some a =>
   have hs:=hs a rfl
   rw [← hza] at hs
   simp [Builtin.append_,run_underlying hu,run_underlying hx,Q6 hsz,typeInfo,hi,zeroValue,hzv,asInt,asIntOf,hwl,hb1,hb0,hfit,h0]
   have hs':(storeCells (a.add (n*i.size)) []).run P w= .ok () w':=by simpa using hs
   rw [hs']
   rfl
 ·cases base with
  | none =>
   have:=hb rfl
   subst this
   simp [Builtin.append_,run_underlying hu,run_underlying hx,Q6 hsz,typeInfo,hi,zeroValue,hzv,asInt,asIntOf,hwl,hb1,hb0,hfit,h0]
  | some a =>
   have hs:=hs a rfl
   simp [Builtin.append_,run_underlying hu,run_underlying hx,Q6 hsz,typeInfo,hi,zeroValue,hzv,asInt,asIntOf,hwl,hb1,hb0,hfit,h0,hs]
theorem run_append_new_z {sT xT ty e:TypeId} {kx k:IntKind} {i:TypeInfo} {zv:Value} {m n c:Nat} {base:Option Addr} {os:List Value} (hu:P.underlying sT=some (.slice e)) (hx:P.underlying xT=some (.int k)) (hi:P.info? e=some i) (hzv:i.zero=some zv) (hzc:zv.cells.size=i.size) (hm:m≤4611686018427387904) (hmb:m*i.bytes≤140737488355328)
  (ho: ∀ W:World,W.heap=w.heap→(Builtin.firstCells i.size n (.slice base n c)).run P W= .ok os.toArray W) (hg:c < n+m) (hb:(n+m)*i.bytes≤140737488355328) (h63:n+m≤4611686018427387904) :
  ∃ cap rest,n+m≤cap∧(Builtin.append_ #[sT,xT] ty #[.slice base n c,.int kx m]).run P w= .ok (.slice (some ⟨w.heap.size,0,none⟩) (n+m) cap) (w.drew.alloc (.cells (os.toArray++(Builtin.zeroCells zv.cells m).toList.toArray++rest) e))∧rest=Builtin.zeroCells zv.cells (cap - (n+m)):=by
 have hsz:Jr P e=some i.size:=by simp [Jr,hi]
 have hwl:IntKind.i64.wrap (m:Int)=m:=by rw [IntKind.wrap_i64];omega
 have hb1: ¬ (281474976710656 < (m:Int)*(i.bytes:Int)):=by
  have:((m*i.bytes:Nat):Int)≤140737488355328:=by omega
  rw [Int.natCast_mul] at this
  omega
 have hb0: ¬ ((m:Int) < 0):=by omega
 have hn: ¬ (n+m≤c):=by omega
 have h63': ¬ (9223372036854775807 < ((n:Int)+(m:Int))):=by omega
 have h48:=growslice_fits hg hb
 have h48': ¬ (281474976710656 < Builtin.nextslicecap (n+m) c*i.bytes):=by omega
 refine ⟨grownCap w (n+m) c e,_,Nat.le_add_right _ _,?_,rfl⟩
 have ho1:=ho w.drew rfl
 by_cases h0:m*i.size=0
 ·have hza:Builtin.zeroCells zv.cells m= #[]:=by
   apply Array.eq_empty_of_size_eq_zero
   rw [Yh,hzc,h0]
  simp [Builtin.append_,run_underlying hu,run_underlying hx,Q6 hsz,typeInfo,zeroValue,hi,hzv,asInt,asIntOf,hwl,hb1,hb0,hn,h63',h48',Question.forced,ho1,newRow,grownCap,h0,hza]
 ·simp [Builtin.append_,run_underlying hu,run_underlying hx,Q6 hsz,typeInfo,zeroValue,hi,hzv,asInt,asIntOf,hwl,hb1,hb0,hn,h63',h48',Question.forced,ho1,newRow,grownCap,h0]
theorem zeros_pw {zl:List VV} {zv:Value} {i:TypeInfo} {m:Nat} (hz2:Pw (Qf w Z ρ) zl zv.cells.toList) (hzs:zl.length=i.size):Pw (Qf w Z ρ) (Wm zl (m*i.size)) (Builtin.zeroCells zv.cells m).toList∧(Builtin.zeroCells zv.cells m).toList.length=m*i.size∧zv.cells.size=i.size:=by
 have hl:zv.cells.size=i.size:=by have:=hz2.1;simp at this;omega
 have:=U9 (w:=w) (Z:=Z) (ρ:=ρ) hz2 (m*i.size) (by
  rcases Nat.eq_zero_or_pos i.size with h|h
  ·exact .inl (by rw [h];rfl)
  ·exact .inr (by omega))
 refine ⟨?_,by rw [Array.length_toList,Yh,hl],hl⟩
 unfold Builtin.zeroCells
 rw [hl] at *
 exact this
theorem hdel_set: ∀ (l:List (Nat×VObj)) (b:Nat) (x:VObj),hdel (hset l b x) b=hdel l b
 | [],_,_=>rfl
 | (k,o)::r,b,x=>by
  rcases Jy k b with ⟨h,e⟩|⟨h,e⟩
  ·subst e
   simp only [hset,hdel,h]
  ·simp only [hset,hdel,h]
   rw [hdel_set r b x]
theorem Heap.set_add (H:Heap) (x y:VObj):(H.add x).set H.next y=H.add y:=by
 have e: ∀ b,Nat.beq b b=true:=Nat.beq_refl
 simp [Heap.add,Heap.set,hset,e]
theorem vgrow_core (h:Rel B M Z ρ H w) {sT xT ty e:TypeId} {i:TypeInfo} {zl l vs:List VV} {m n b:Nat} {s' x':Value} {xs:List Value} {zv:Value} (hz2: ∀ (w:World) Z ρ,Pw (Qf w Z ρ) zl zv.cells.toList) (hzs:zl.length=i.size) (h1:l.all VV.one=true) (p1:Pw (Qf w Z ρ) l xs) (p2:xs.length=m*i.size) (hs:Qf w Z ρ (.gs b n i.size) s') (hg:H.get b=some (.opt vs)) (hv:vs.length=n*i.size) (hb:(n+m)*i.bytes≤140737488355328) (h63:n+m≤4611686018427387904)
  (hfit: ∀ (n c:Nat) (base:Option Addr) (w':World),n+m≤c→(∀ a,base=some a→(storeCells (a.add (n*i.size)) xs).run P w= .ok () w')→(base=none→w'=w)→(Builtin.append_ #[sT,xT] ty #[.slice base n c,x']).run P w= .ok (.slice base (n+m) c) w')
  (hnew: ∀ (n c:Nat) (base:Option Addr) (os:List Value),(∀ W:World,W.heap=w.heap→(Builtin.firstCells i.size n (.slice base n c)).run P W= .ok os.toArray W)→c < n+m→(n+m)*i.bytes≤140737488355328→n+m≤4611686018427387904 →
   ∃ cap rest,n+m≤cap∧(Builtin.append_ #[sT,xT] ty #[.slice base n c,x']).run P w= .ok (.slice (some ⟨w.heap.size,0,none⟩) (n+m) cap) (w.drew.alloc (.cells (os.toArray++xs.toArray++rest) e))∧rest=Builtin.zeroCells zv.cells (cap - (n+m))) :
  J1 P B M H.next Z ρ w (Builtin.append_ #[sT,xT] ty #[s',x']) (.gs H.next (n+m) i.size) ((H.del b).add (.opt (vs++l))):=by
 have hone:=pw_one h1 p1
 have hll:=p1.1
 have hfit0:=hfit
 have empty: ∀ (n c:Nat) (base:Option Addr),m=0→n≤c→s'= .slice base n c→(Builtin.append_ #[sT,xT] ty #[s',x']).run P w= .ok s' w∧l= []:=by
  intro n c base h0 hc e1
  subst h0 e1
  have hx0:xs= []:=List.eq_nil_of_length_eq_zero (by simpa using p2)
  subst hx0
  have hst: ∀ a,base=some a→(storeCells (a.add (n*i.size)) ([]:List Value)).run P w= .ok () w:=fun a _=>rfl
  exact ⟨hfit0 n c base w (show n+0≤c by omega) hst (fun _=>rfl),List.eq_nil_of_length_eq_zero (by simpa using hll)⟩
 have fresh: ∀ (n c:Nat) (base:Option Addr) (os:List Value) (ol:List VV),s'= .slice base n c→Pw (Qf w Z ρ) ol os→os.length=n*i.size→(∀ W:World,W.heap=w.heap→(Builtin.firstCells i.size n (.slice base n c)).run P W= .ok os.toArray W) →
   c < n+m→(n+m)*i.bytes≤140737488355328→n+m≤4611686018427387904→J1 P B M H.next Z ρ w (Builtin.append_ #[sT,xT] ty #[s',x']) (.gs H.next (n+m) i.size) ((H.del b).add (.opt (ol++l))):=by
  intro n c base os ol e1 hol hos ho hg hb h63
  subst e1
  obtain ⟨cap,rest,q1,q2,q3⟩:=hnew n c base os ho hg hb h63
  have hp:Pre (Qf w Z ρ) (ol++l) (os.toArray++xs.toArray++rest).toList:=by
   simp only [Array.toList_append]
   exact pre_app (hol.append p1)
  obtain ⟨ρ',g1,g2,g3⟩:=Rel.drewRow (h.del b) hp e (0,0) (.inl rfl)
  have g4:=g2.toOpt (b:=H.next) (vs:=ol++l) (by rw [Heap.get_add];exact if_pos rfl)
  rw [show ((H.del b).add (.cells true (ol++l))).set H.next (.opt (ol++l))=(H.del b).add (.opt (ol++l)) from Heap.set_add (H.del b) _ _] at g4
  refine ⟨_,_,ρ',q2,g1,g4,.gs g3 q1 ?_ (by omega)⟩
  have hzs:zv.cells.size=i.size:=by have:=(hz2 w Z ρ).1;simp at this;omega
  simp only [Array.size_append,List.size_toArray,q3,Yh,hzs,hos,p2]
  rw [← Nat.add_mul,← Nat.add_mul]
  exact Nat.mul_le_mul_right _ (by omega)
 cases hs with
 | @gs0 _ _ a =>
  obtain rfl:vs= []:=List.eq_nil_of_length_eq_zero (by simpa using hv)
  by_cases h0:m=0
  ·obtain ⟨r,rfl⟩:=empty 0 0 a h0 (Nat.le_refl _) rfl
   subst h0
   exact ⟨_,w,ρ,r,⟨Nat.le_succ _,fun _ _=>rfl,fun _ h=>h,fun _ _ h=>h,fun _ _=>rfl,Nat.le_refl _,fun _ h=> .inl h⟩,(h.del b).addGhost,.gs0⟩
  ·refine fresh 0 0 a [] [] rfl Pw.nil (by simp) (fun W _=> ?_) (by omega) hb h63
   cases a with
   | none=>simp [Builtin.firstCells]
   | some a=>simp [Builtin.firstCells,loadCells,loadCellsFrom]
 | @gs _ _ k N c' _ hk hn hzz hne =>
  by_cases h0:m=0
  ·obtain ⟨r,rfl⟩:=empty n c' _ h0 hn rfl
   subst h0
   obtain ⟨g1,g2⟩:=h.reopt hg hk
   rw [List.append_nil]
   exact ⟨_,w,_,r,g1,g2,.gs (Xq _ _) hn hzz hne⟩
  ·have h2:=h.toCells hg hk
   have hb2:(H.set b (.cells true vs)).get b=some (.cells true vs):=by rw [Heap.get_set,if_pos rfl,hg];rfl
   have hdd:(H.set b (.cells true vs)).del b=H.del b:=by
    show Heap.mk _ _=Heap.mk _ _
    rw [show (H.set b (.cells true vs)).objs=hset H.objs b (.cells true vs) from rfl,hdel_set]
    rfl
   have htk:vs.take (n*i.size)=vs:=List.take_of_length_le (by omega)
   by_cases hfit:n+m≤c'
   ·have hN:n*i.size+xs.length≤N:=by
     rw [p2,← Nat.add_mul]
     have:=Nat.mul_le_mul_right i.size hfit
     omega
    obtain ⟨g1,g2,g3⟩:=h2.grow (P:=P) hb2 hk p1 hone (n*i.size) (by omega) hN
    rw [hdd,htk] at g2 g3
    have g4:=g3.toOpt (b:=H.next) (vs:=vs++l) (by rw [Heap.get_add];exact if_pos rfl)
    rw [show ((H.del b).add (.cells true (vs++l))).set H.next (.opt (vs++l))=(H.del b).add (.opt (vs++l)) from Heap.set_add (H.del b) _ _] at g4
    exact ⟨_,_,_,hfit0 _ _ _ _ hfit (fun a ha=>by cases ha;rw [J6,Nat.zero_add];exact g1) (fun e=>by cases e),g2,g4,.gs (Xq _ _) hfit hzz (by omega)⟩
   ·obtain ⟨ds,r1,r2,r3⟩:=h2.read hb2 hk 0 (n*i.size) (by omega)
    rw [List.drop_zero,htk] at r1
    refine fresh n c' _ ds vs rfl r1 r2 (fun W hW=> ?_) (by omega) hb h63
    have:=run_loadCells_list (P:=P) W _ ds (fun j v hj=>by rw [Kr hW];exact r3 j v hj)
    rw [r2] at this
    simpa [Builtin.firstCells] using this
theorem Bf (h:Rel B M Z ρ H w) {sT xT ty e:TypeId} {i:TypeInfo} {zl l vs:List VV} {m n b:Nat} {d:TypeDesc} {x:VV} {s' x':Value} (hu:P.underlying sT=some (.slice e)) (hi:P.info? e=some i) (hzl:Kj P e=some zl)
  (hel:Jv i.size x H=some (m,l)) (hzs:zl.length=i.size) (h1:l.all VV.one=true) (hxT:P.underlying xT=some d) (hd: ∀ k,d≠ .int k) (hs:Qf w Z ρ (.gs b n i.size) s') (hx:Qf w Z ρ x x') (hg:H.get b=some (.opt vs)) (hv:vs.length=n*i.size) (hb:(n+m)*i.bytes≤140737488355328) (h63:n+m≤4611686018427387904) :
  J1 P B M H.next Z ρ w (Builtin.append_ #[sT,xT] ty #[s',x']) (.gs H.next (n+m) i.size) ((H.del b).add (.opt (vs++l))):=by
 obtain ⟨zv,hz1,hz2,_,i2,hi2,hz3⟩:=Xx hzl
 rw [hi] at hi2;injection hi2 with hi2;subst hi2
 have hsz:Jr P e=some i.size:=by simp [Jr,hi]
 obtain ⟨xs,p1,p2,p3,p4⟩:=Yv (P:=P) h hx hel
 have p4': ∀ W:World,W.heap=w.heap→(Builtin.firstCells i.size m x').run P W= .ok xs.toArray W:=fun W hW=>by
  have:=p4 m (Nat.le_refl _) W hW
  rwa [List.take_of_length_le (by omega)] at this
 exact vgrow_core h (e:=e) hz2 hzs h1 p1 p2 hs hg hv hb h63 (fun n c base w' hf hs hb=>Ws (ty:=ty) hu hxT hd hsz p3 p4' hf hs hb) (fun n c base os=>Wr (ty:=ty) hu hxT hd hi hz3 p3 p4')
theorem gs_of_full (h:Rel B M Z ρ H w) {b n z:Nat} {vs:List VV} {s':Value} (hs:Qf w Z ρ (.sl b 0 n (some n) z) s') (hg:H.get b=some (.cells true vs)) (hv:vs.length=n*z):Rel B M Z ρ (H.set b (.opt vs)) w∧Qf w Z ρ (.gs b n z) s':=by
 refine ⟨h.toOpt hg,?_⟩
 cases hs with
 | @sl _ _ _ k N c' _ _ hk hn hc hz =>
  obtain rfl:c'=n:=hc n rfl
  obtain ⟨k',N',cs,t,fr,g1,g2,g3,g4,g5⟩:=h.at_ hg
  rw [hk] at g1;injection g1 with g1;injection g1 with g1 g1';subst g1 g1'
  have hle:=g4.length
  by_cases h0:c'=0
  ·subst h0;exact .gs0
  ·exact .gs hk (Nat.le_refl _) (by simp at hle;omega) h0
theorem vappend_sound (h:Rel B M Z ρ H w) {sT xT ty:TypeId} {s x v:VV} {s' x':Value} {H':Heap} (hs:Qf w Z ρ s s') (hx:Qf w Z ρ x x') (hv:Kt P sT xT s x H=some (v,H')) :
  J1 P B M H.next Z ρ w (Builtin.append_ #[sT,xT] ty #[s',x']) v H':=by
 unfold Kt at hv
 split at hv
 ·rename_i e hu
  split at hv
  ·rename_i i zl hi hzl
   split at hv
   ·rename_i m l hel
    split at hv
    ·simp at hv
    ·simp at hv
    ·simp at hv
    ·rename_i d hnd hb hxT
     simp only [Bool.and_eq_true] at hb
     exact vappCase_sound h hu hi hzl hel (Nat.eq_of_beq_eq_true hb.1) hb.2 hxT (fun k e=>by subst e;exact hnd _ rfl) hs hx hv
   ·split at hv
    ·rename_i kx k2 m hxT _
     split at hv
     ·rename_i hb
      simp only [Bool.and_eq_true] at hb
      obtain ⟨⟨⟨b1,b2⟩,b3⟩,b4⟩:=hb
      cases hx
      obtain ⟨zv,hz1,hz2,_,i2,hi2,hz3⟩:=Xx hzl
      rw [hi] at hi2;injection hi2 with hi2;subst hi2
      obtain ⟨q1,q2,q3⟩:=zeros_pw (m:=m) (hz2 w Z ρ) (Nat.eq_of_beq_eq_true b1)
      exact Cu h (e:=e) hz2 (Nat.eq_of_beq_eq_true b1) b2 q1 q2 hs hv (fun n c base w' hf hs hb=>run_append_fit_z (ty:=ty) hu hxT hi hz3 q3 (Nat.le_of_ble_eq_true b3) (Nat.le_of_ble_eq_true b4) hf hs hb) (fun n c base os=>run_append_new_z (ty:=ty) hu hxT hi hz3 q3 (Nat.le_of_ble_eq_true b3) (Nat.le_of_ble_eq_true b4))
     ·simp at hv
    ·simp at hv
  ·simp at hv
 ·simp at hv
def vcopy (P:Program) (dT:TypeId) (d x:VV) (H:Heap):Option (VV×Heap):=match P.underlying dT with
 | some (.slice e)=>match Jr P e with
  | some z=>match Jv z x H with
   | some (m,l)=>match d with
    | .sl b o n c _=>match H.get b with
     | some (.cells true vs)=>match l.all VV.one with
      | true=>if o+(l.take (Nat.min m n*z)).length≤vs.length then some (.sc (.int .i64 (Nat.min m n:Nat)),H.set b (.cells true (J3 vs o (l.take (Nat.min m n*z))))) else none
      | false=>none
     | _=>none
    | _=>none
   | none=>none
  | none=>none
 | _=>none
theorem vcopy_sound (h:Rel B M Z ρ H w) {dT sT ty:TypeId} {d x v:VV} {d' x':Value} {H':Heap} (hd:Qf w Z ρ d d') (hx:Qf w Z ρ x x') (hv:vcopy P dT d x H=some (v,H')) :
  J1 P B M H.next Z ρ w (Builtin.copy_ #[dT,sT] ty #[d',x']) v H':=by
 unfold vcopy at hv
 split at hv
 ·rename_i e hu
  split at hv
  ·rename_i z hz
   split at hv
   ·rename_i m l hel
    split at hv
    ·rename_i b o n c z'
     split at hv
     ·rename_i vs hb
      split at hv
      ·rename_i h1
       split at hv
       ·rename_i hle
        simp at hv
        obtain ⟨rfl,rfl⟩:=hv
        cases hd with
        | sl hk hn hcc hzz =>
         obtain ⟨xs,p1,p2,p3,p4⟩:=Yv (P:=P) h hx hel
         have hone:=pw_one h1 p1
         obtain ⟨g1,g2,g3⟩:=h.write (P:=P) hb hk (p1.take (Nat.min m n*z)) (fun y hy=>hone y (List.mem_of_mem_take hy)) o hle
         refine ⟨_,_,ρ,?_,g2,g3,.sc rfl⟩
         simp [Builtin.copy_,run_underlying hu,Q6 hz,p3,p4 (Nat.min m n) (Nat.min_le_left _ _) w rfl,g1,goInt]
       ·simp at hv
      ·simp at hv
     ·simp at hv
    ·simp at hv
   ·simp at hv
  ·simp at hv
 ·simp at hv
def vlen (P:Program) (t:TypeId) (x:VV):Option VV:=match P.underlying t,x with
 | some (.slice _),.sl _ _ n _ _=>some (.sc (.int .i64 n))
 | some (.slice _),.ro n _=>some (.sc (.int .i64 n))
 | some (.slice _),.gs _ n _=>some (.sc (.int .i64 n))
 | _,_=>none
theorem vlen_sound (h:Rel B M Z ρ H w) {t ty:TypeId} {x v:VV} {x':Value} (hx:Qf w Z ρ x x') (hv:vlen P t x=some v):J1 P B M H.next Z ρ w (Builtin.len_ #[t] ty #[x']) v H:=by
 unfold vlen at hv
 split at hv
 ·rename_i e b o n c z hu
  simp at hv
  subst hv
  cases hx with
  | sl=>exact J1.same h (v':= .int .i64 n) (by simp [Builtin.len_,run_underlying hu,goInt]) (.sc rfl)
 ·rename_i e n vs hu
  simp at hv
  subst hv
  cases hx with
  | ro=>exact J1.same h (v':= .int .i64 n) (by simp [Builtin.len_,run_underlying hu,goInt]) (.sc rfl)
  | ro0=>exact J1.same h (v':= .int .i64 0) (by simp [Builtin.len_,run_underlying hu,goInt]) (.sc rfl)
 ·rename_i e b n z hu
  simp at hv
  subst hv
  cases hx with
  | gs0=>exact J1.same h (v':= .int .i64 0) (by simp [Builtin.len_,run_underlying hu,goInt]) (.sc rfl)
  | gs=>exact J1.same h (v':= .int .i64 n) (by simp [Builtin.len_,run_underlying hu,goInt]) (.sc rfl)
 ·simp at hv
def vclear (P:Program) (t:TypeId) (x:VV) (H:Heap):Option (VV×Heap):=match P.underlying t with
 | some (.slice e)=>match Jr P e,Kj P e,x with
  | some z,some zl,.sl b o (n+1) _ _=>match H.get b with
   | some (.cells true vs)=>match Nat.beq zl.length z&&zl.all VV.one&&Nat.ble (o+(n+1)*z) vs.length with
    | true=>some (.tp [],H.set b (.cells true (J3 vs o (Wm zl ((n+1)*z)))))
    | false=>none
   | _=>none
  | some _,some _,.sl _ _ 0 _ _=>some (.tp [],H)
  | some _,some _,.ro 0 _=>some (.tp [],H)
  | _,_,_=>none
 | _=>none
theorem K7 (z:Array Value) (n:Nat):Builtin.zeroCells z n=(Array.range (n*z.size)).map fun i=>z[i % z.size]! :=rfl
theorem vclear_sound (h:Rel B M Z ρ H w) {t ty:TypeId} {x v:VV} {x':Value} {H':Heap} (hx:Qf w Z ρ x x') (hv:vclear P t x H=some (v,H')):J1 P B M H.next Z ρ w (Builtin.clear_ #[t] ty #[x']) v H':=by
 unfold vclear at hv
 split at hv
 ·rename_i e hu
  split at hv
  ·rename_i z zl b o n c z' hz hzl
   split at hv
   ·rename_i vs hb
    split at hv
    ·rename_i hc
     simp only [Bool.and_eq_true] at hc
     have c1:=Nat.eq_of_beq_eq_true hc.1.1
     have c2:=Nat.le_of_ble_eq_true hc.2
     simp at hv
     obtain ⟨rfl,rfl⟩:=hv
     cases hx with
     | @sl _ _ _ k N c' _ _ hk hn hcc hzz =>
      obtain ⟨zv,hz1,hz2,hz3,_⟩:=Xx hzl
      have hsz:zv.cells.size=z:=by have:=(hz2 w Z ρ).1;simp at this;omega
      have hp:Pw (Qf w Z ρ) (Wm zl ((n+1)*z)) (Builtin.zeroCells zv.cells (n+1)).toList:=by
       rw [K7,hsz]
       have:=U9 (hz2 w Z ρ) ((n+1)*z) (by
        rcases Nat.eq_zero_or_pos z with h0|h0
        ·left;rw [h0];simp
        ·right;omega)
       rwa [hsz] at this
      have hone: ∀ y∈(Builtin.zeroCells zv.cells (n+1)).toList,y.oneCell'=true:=by
       intro y hy
       obtain ⟨i,hi,rfl⟩:=List.mem_iff_getElem.1 hy
       simp only [K7,Array.toList_map,Array.toList_range,List.getElem_map,List.getElem_range]
       rcases Nat.eq_zero_or_pos zv.cells.size with h0|h0
       ·simp [K7,h0] at hi
       ·have hm:i % zv.cells.size < zv.cells.size:=Nat.mod_lt _ h0
        have:zv.cells[i % zv.cells.size]! = zv.cells[i % zv.cells.size]:=by simp [getElem!_def,hm]
        rw [this]
        exact hz3 _ (by simp)
      have hl:=hp.1
      have hlz:(Wm zl ((n+1)*z)).length=(n+1)*z:=by
       rw [hl];simp [K7,hsz]
      obtain ⟨g1,g2,g3⟩:=h.write (P:=P) hb hk hp hone o (by omega)
      exact ⟨_,_,ρ,by simp [Builtin.clear_,run_underlying hu,hz1,g1];rfl,g2,g3,Qf.undef⟩
    ·simp at hv
   ·simp at hv
  ·simp at hv
   obtain ⟨rfl,rfl⟩:=hv
   cases hx
   exact J1.same h (v':=undef) (by simp [Builtin.clear_,run_underlying hu];rfl) Qf.undef
  ·simp at hv
   obtain ⟨rfl,rfl⟩:=hv
   cases hx with
   | ro=>exact J1.same h (v':=undef) (by simp [Builtin.clear_,run_underlying hu];rfl) Qf.undef
   | @ro0 a c'=>cases a <;> exact J1.same h (v':=undef) (by simp [Builtin.clear_,run_underlying hu];rfl) Qf.undef
  ·simp at hv
 ·simp at hv
def vbytes:List VV→Option (List UInt8)
 | []=>some []
 | .sc (.int .u8 k)::r=>match vbytes r with
  | some l=>some (UInt8.ofNat k.toNat::l)
  | none=>none
 | _=>none
theorem C4: ∀ {l:List VV} {bs:List UInt8} {xs:List Value},vbytes l=some bs→Pw (Qf w Z ρ) l xs→ ∃ ns:List Int,xs=ns.map (Value.int .u8)∧bs=ns.map (fun n=>UInt8.ofNat n.toNat)
 | [],bs,xs,h,hp=>by
  simp [vbytes] at h
  subst h
  exact ⟨[],by simpa using hp.1.symm,rfl⟩
 | v::r,bs,[],h,hp=>by have:=hp.1;simp at this
 | v::r,bs,x::xs,h,hp=>by
  have hv:=hp.2 0 v x rfl rfl
  have ht:Pw (Qf w Z ρ) r xs:=⟨by have:=hp.1;simpa using this,fun i u c hu hc=>hp.2 (i+1) u c (by simpa using hu) (by simpa using hc)⟩
  unfold vbytes at h
  split at h
  ·rename_i e;cases e
  ·rename_i k r' e
   injection e with e1 e2
   subst e1 e2
   split at h
   ·rename_i l hl
    simp at h
    subst h
    cases hv
    obtain ⟨ns,rfl,rfl⟩:=C4 hl ht
    exact ⟨k::ns,rfl,rfl⟩
   ·simp at h
  ·simp at h
theorem foldl_push: ∀ (ns:List Int) (s:ByteArray),ns.foldl (fun r n=>r.push (UInt8.ofNat n.toNat)) s=⟨s.data++(ns.map (fun n=>UInt8.ofNat n.toNat)).toArray⟩
 | [],s=>by cases s;simp
 | n::r,s=>by
  rw [List.foldl_cons,foldl_push r]
  cases s
  simp [ByteArray.push]
def Wn (P:Program) (src dst:TypeId) (x:VV) (H:Heap):Option (VV×Heap):=match P.underlying src,P.underlying dst with
 | some (.slice e),some .string=>match P.underlying e with
  | some (.int .u8)=>match x with
   | .sc (.slice none _ _)=>some (.sc (.string ⟨#[]⟩),H)
   | .sl b o n c z=>match Jv 1 (.sl b o n c z) H with
    | some (_,l)=>match vbytes l with
     | some bs=>some (.sc (.string ⟨bs.toArray⟩),H)
     | none=>none
    | none=>none
   | .ro n vs=>match Jv 1 (.ro n vs) H with
    | some (_,l)=>match vbytes l with
     | some bs=>some (.sc (.string ⟨bs.toArray⟩),H)
     | none=>none
    | none=>none
   | .gs b n z=>match Jv 1 (.gs b n z) H with
    | some (_,l)=>match vbytes l with
     | some bs=>some (.sc (.string ⟨bs.toArray⟩),H)
     | none=>none
    | none=>none
   | _=>none
  | _=>none
 | some (.slice _),some (.slice e)=>match Nat.beq src dst,P.underlying e,x with
  | true,some (.int .u8),.sl b o n c z=>match H.get b with
   | some (.cells true _)=>some (.sl b o n c z,H)
   | _=>none
  | _,_,_=>none
 | some .string,some (.slice e)=>match P.underlying e,x with
  | some (.int .u8),.sc (.string s)=>some (.sl H.next 0 s.size none 1,H.add (.cells true (s.data.toList.map fun b=> .sc (.int .u8 b.toNat))))
  | _,_=>none
 | _,_=>none
theorem alloc_freeze (w:World) (c:Array Value) (t:TypeId) (n:Nat):(w.alloc (.cells c t)).freeze ⟨w.heap.size,n,none⟩ 1=w.alloc (.cells c t (n,n+1)):=by
 have e:(w.heap.push (.cells c t)).modify w.heap.size (fun
   | .cells c elem (lo,hi)=> .cells c elem (if lo==hi then (n,n+1) else (min lo n,max hi (n+1)))
   | o=>o)=w.heap.push (.cells c t (n,n+1)):=by
  apply Array.ext_getElem?
  intro i
  rw [Array.getElem?_modify]
  by_cases hi:w.heap.size=i
  ·subst hi
   simp
  ·rw [if_neg hi]
   simp [Array.getElem?_push,show ¬ i=w.heap.size by omega]
 simp only [World.freeze,World.alloc]
 rw [if_neg (by omega)]
 exact congrArg (fun h=>World.mk h w.tape w.drawn w.os w.output) e
theorem Up {src dst e:TypeId} (hs:P.underlying src=some (.slice e)) (hd:P.underlying dst=some .string) (he:P.underlying e=some (.int .u8)) {a:Option Addr} {n c:Nat} {xs:List Value} {l:List VV} {bs:List UInt8}
  (hl:Pw (Qf w Z ρ) l xs) (hb:vbytes l=some bs) (hlen:xs.length=n*1) (hf: ∀ m,m≤n→ ∀ W:World,W.heap=w.heap→(Builtin.firstCells 1 m (.slice a n c)).run P W= .ok (xs.take (m*1)).toArray W) :
  (convert src dst (.slice a n c)).run P w= .ok (.string ⟨bs.toArray⟩) w:=by
 obtain ⟨ns,rfl,rfl⟩:=C4 hb hl
 have p:=hf n (Nat.le_refl _) w rfl
 rw [List.take_of_length_le (by omega)] at p
 rw [run_convert_bytes_string w src dst e a n c hs he hd]
 cases a with
 | none =>
  simp only [Builtin.firstCells,Sem.run_pure] at p
  injection p with p
  have:ns= []:=by
   have:=congrArg Array.size p
   simp at this
   exact List.eq_nil_of_length_eq_zero this.symm
  subst this
  rfl
 | some a =>
  have p6:(loadCells a n).run P w= .ok (ns.map (Value.int .u8)).toArray w:=by
   simpa [Builtin.firstCells] using p
  rw [run_bytesToString w a n c ns p6,foldl_push]
  simp [ByteArray.empty,ByteArray.emptyWithCapacity]
  try rfl
theorem Rel.stringish (h:Rel B M Z ρ H w) {b:Nat} {vs:List VV} (hb:H.get b=some (.cells true vs)) {k N:Nat} (hk:ρ b=some (k,N)) (o:Nat) :
  ∃ w',(markStringish ⟨k,o,none⟩).run P w= .ok () w'∧Ext (own B M) H.next Z ρ w H.next Z ρ w'∧Rel B M Z ρ H w':=by
 obtain ⟨k',N',cs,t,fr,g1,g2,g3,g4,g5⟩:=h.at_ hb
 rw [hk] at g1;injection g1 with g1;injection g1 with g1 g1';subst g1 g1'
 have hsh:w.shape? k=some (t,N):=by
  unfold World.shape?
  rw [g2]
  simp only []
  rw [g3]
 have hrun:(markStringish ⟨k,o,none⟩).run P w= .ok () (w.freeze ⟨k,N,none⟩ 1):=by
  unfold markStringish
  simp only [Sem.run_bind,shape,Sem.run,hsh,Result.andThen_ok]
  rfl
 have hat:(w.freeze ⟨k,N,none⟩ 1).heap[k]? = some (.cells cs t (if fr.1==fr.2 then (N,N+1) else (min fr.1 N,max fr.2 (N+1)))):=by
  obtain ⟨lo,hi⟩:=fr
  simp only [World.freeze]
  rw [if_neg (by omega)]
  simp only [Array.getElem?_modify,if_true,g2,Option.map_some]
 have hne: ∀ j,j≠k→(w.freeze ⟨k,N,none⟩ 1).heap[j]? = w.heap[j]? :=fun j hj=>by
  simp only [World.freeze]
  rw [if_neg (by omega)]
  simp only [Array.getElem?_modify]
  rw [if_neg (fun e=>hj e.symm)]
 have hs:(w.freeze ⟨k,N,none⟩ 1).heap.size=w.heap.size:=by
  simp only [World.freeze]
  rw [if_neg (by omega)]
  simp
 have hz: ∀ j,Z j→j≠k:=by
  intro j hj e
  obtain ⟨_,_,_,q1,_,_,q4,_⟩:=h.objC hb rfl
  rw [hk] at q1;injection q1 with q1;injection q1 with q1 _
  exact q4 (q1 ▸ e ▸ hj)
 have hfr:(if fr.1==fr.2 then (N,N+1) else (min fr.1 N,max fr.2 (N+1)))=(N,N+1):=by
  rcases g5 with g5|rfl
  ·simp [g5]
  ·simp
 rw [hfr] at hat
 have e0:Ext (own B M) 0 Z ρ w 0 Z ρ (w.freeze ⟨k,N,none⟩ 1):=⟨Nat.le_refl _,fun _ _=>rfl,fun _ h=>h,fun _ _ h=>h,fun j hj=>hne j (hz j hj),by omega,fun _ h=> .inl h⟩
 obtain ⟨e1,r1⟩:=h.turn hb hk rfl rfl (w':=w.freeze ⟨k,N,none⟩ 1) (by simp only [World.freeze];rw [if_neg (by omega)]) (by simp only [World.freeze];rw [if_neg (by omega)]) (by simp only [World.freeze];rw [if_neg (by omega)]) hs hne hat
  (y:= .cells true vs) ⟨cs,t,_,rfl,g3,g4.mono fun _ _ hh=>hh.ext e0,.inr rfl⟩
 refine ⟨_,hrun,e1,r1.weaken (H':=H) rfl fun c x hx=> ?_⟩
 rw [Heap.get_set]
 split
 ·rename_i e;subst e;rw [hb] at hx ⊢;exact hx
 ·exact hx
theorem vconvert_sound (h:Rel B M Z ρ H w) {src dst:TypeId} {x v:VV} {x':Value} {H':Heap} (hx:Qf w Z ρ x x') (hv:Wn P src dst x H=some (v,H')):J1 P B M H.next Z ρ w (convert src dst x') v H':=by
 unfold Wn at hv
 split at hv
 ·rename_i e hs hd
  split at hv
  ·rename_i he
   split at hv
   ·simp at hv
    obtain ⟨rfl,rfl⟩:=hv
    cases hx
    exact J1.same h (v':= .string .empty) (by simp [convert,run_underlying hs,run_underlying hd,run_underlying he,Conv.bytesToString]) (.sc rfl)
   ·split at hv
    ·rename_i n l hel
     split at hv
     ·rename_i bs hbs
      simp at hv
      obtain ⟨rfl,rfl⟩:=hv
      obtain ⟨xs,p1,p2,p3,p4⟩:=Yv (P:=P) h hx hel
      cases hx with
      | sl hk hn hc hz =>
       have:=p3 w
       simp [Builtin.lenOf] at this
       subst this
       exact J1.same h (Up hs hd he p1 hbs p2 p4) (.sc rfl)
     ·simp at hv
    ·simp at hv
   ·split at hv
    ·rename_i n l hel
     split at hv
     ·rename_i bs hbs
      simp at hv
      obtain ⟨rfl,rfl⟩:=hv
      obtain ⟨xs,p1,p2,p3,p4⟩:=Yv (P:=P) h hx hel
      cases hx with
      | ro hZ hn hlen hcell hrel =>
       have:=p3 w
       simp [Builtin.lenOf] at this
       subst this
       exact J1.same h (Up hs hd he p1 hbs p2 p4) (.sc rfl)
      | ro0 =>
       have:=p3 w
       simp [Builtin.lenOf] at this
       subst this
       exact J1.same h (Up hs hd he p1 hbs p2 p4) (.sc rfl)
     ·simp at hv
    ·simp at hv
   ·split at hv
    ·rename_i n l hel
     split at hv
     ·rename_i bs hbs
      simp at hv
      obtain ⟨rfl,rfl⟩:=hv
      obtain ⟨xs,p1,p2,p3,p4⟩:=Yv (P:=P) h hx hel
      cases hx with
      | gs0 =>
       have:=p3 w
       simp [Builtin.lenOf] at this
       subst this
       exact J1.same h (Up hs hd he p1 hbs p2 p4) (.sc rfl)
      | gs =>
       have:=p3 w
       simp [Builtin.lenOf] at this
       subst this
       exact J1.same h (Up hs hd he p1 hbs p2 p4) (.sc rfl)
     ·simp at hv
    ·simp at hv
   ·simp at hv
  ·simp at hv
 ·rename_i e0 e hs hd
  split at hv
  ·rename_i b o n c z hsd he
   have hsd:=Nat.eq_of_beq_eq_true hsd
   subst hsd
   have hee:=hs.symm.trans hd
   injection hee with hee
   injection hee with hee
   subst hee
   split at hv
   ·rename_i vs hb
    simp at hv
    obtain ⟨rfl,rfl⟩:=hv
    cases hx with
    | @sl _ _ _ k N c' _ _ hk hn hcc hzz =>
     obtain ⟨w',g1,g2,g3⟩:=Rel.stringish (P:=P) h hb hk o
     refine ⟨.slice (some ⟨k,o,none⟩) n c',w',ρ,?_,g2,g3,.sl hk hn hcc hzz⟩
     simp [convert,run_underlying hs,run_underlying hd,run_underlying he,g1]
   ·simp at hv
  ·simp at hv
 ·rename_i e hs hd
  split at hv
  ·rename_i s he
   simp at hv
   obtain ⟨rfl,rfl⟩:=hv
   cases hx
   obtain ⟨cap,hcap,hcl⟩: ∃ cap,(Question.appendCap s.size 0 e).cut (w.tape w.drawn (.appendCap s.size 0 e))=cap∧s.size≤cap:=⟨_,rfl,Nat.le_add_right _ _⟩
   have hl:Pre (Qf w Z ρ) (s.data.toList.map fun (b:UInt8)=>VV.sc (.int .u8 b.toNat)) (s.data.map (fun (b:UInt8)=>Value.int .u8 b.toNat)++Array.replicate (cap - s.size) (Value.int .u8 0)).toList:=by
    rw [Array.toList_append]
    refine pre_app ?_
    have:=pw_sc (w:=w) (Z:=Z) (ρ:=ρ) (l:=s.data.toList.map fun b=>Value.int .u8 b.toNat) (List.all_eq_true.2 (by intro x hx;obtain ⟨b,_,rfl⟩:=List.mem_map.1 hx;rfl))
    simpa [List.map_map,Function.comp_def] using this
   have hsz:(s.data.map (fun (b:UInt8)=>Value.int .u8 b.toNat)++Array.replicate (cap - s.size) (Value.int .u8 0)).size=cap:=by
    simp;exact Nat.add_sub_cancel' hcl
   obtain ⟨ρ',g1,g2,g3⟩:=Rel.drewRow h hl e (cap,cap+1) (.inr (by rw [hsz]))
   refine ⟨.slice (some ⟨w.heap.size,0,none⟩) s.size cap,_,ρ',?_,g1,g2,.sl g3 hcl (fun q e=>by cases e) (fun _=>by rw [hsz];omega)⟩
   have hfz:=alloc_freeze w.drew (s.data.map (fun (b:UInt8)=>Value.int .u8 b.toNat)++Array.replicate (cap - s.size) (Value.int .u8 0)) e cap
   have hsh:(w.drew.alloc (.cells (s.data.map (fun (b:UInt8)=>Value.int .u8 b.toNat)++Array.replicate (cap - s.size) (Value.int .u8 0)) e)).shape? w.heap.size=some (e,cap):=by
    have:=N5 w.drew (.cells (s.data.map (fun (b:UInt8)=>Value.int .u8 b.toNat)++Array.replicate (cap - s.size) (Value.int .u8 0)) e)
    unfold World.shape?
    rw [show w.heap.size=w.drew.heap.size from rfl,this]
    simp only []
    rw [hsz]
   have hch:(choose (.appendCap s.size 0 e)).run P w= .ok cap w.drew:=by
    simp only [run_choose,Question.forced,hcap];rfl
   have hrow:(newRow e (s.data.map (fun (b:UInt8)=>Value.int .u8 b.toNat)++Array.replicate (cap - s.size) (Value.int .u8 0))).run P w.drew= .ok ⟨w.heap.size,0,none⟩ (w.drew.alloc (.cells (s.data.map (fun (b:UInt8)=>Value.int .u8 b.toNat)++Array.replicate (cap - s.size) (Value.int .u8 0)) e)):=by
    simp [newRow,newObj];rfl
   have hmk:(markStringish ⟨w.heap.size,0,none⟩).run P (w.drew.alloc (.cells (s.data.map (fun (b:UInt8)=>Value.int .u8 b.toNat)++Array.replicate (cap - s.size) (Value.int .u8 0)) e))= .ok () (w.drew.alloc (.cells (s.data.map (fun (b:UInt8)=>Value.int .u8 b.toNat)++Array.replicate (cap - s.size) (Value.int .u8 0)) e (cap,cap+1))):=by
    rw [← hfz]
    unfold markStringish
    simp only [Sem.run_bind,shape,Sem.run,hsh,Result.andThen_ok]
    rfl
   simp only [convert,Sem.run_bind,run_underlying hs,run_underlying hd,run_underlying he,Result.andThen_ok,Conv.stringToBytes,hch,hrow,hmk,Sem.run_pure]
  ·simp at hv
 ·simp at hv
end
end Go.Proofs.YtpbiblhkcomekaaGreat
namespace Go.Proofs.YtpbiblhkcomekaaGreat
open Go Go.RowKit
set_option linter.unusedSimpArgs false
set_option linter.unusedVariables false
def nilKind (P:Program) (t:TypeId) (x y:VV):Bool:=match P.underlying t,x,y with
 | some (.pointer _),.ptr _ _,.sc (.pointer none)|some (.pointer _),.rp _ _,.sc (.pointer none)|some (.pointer _),.sc (.pointer none),.ptr _ _|some (.pointer _),.sc (.pointer none),.rp _ _=>true
 | some (.slice _),.sl _ _ _ _ _,.sc (.slice none _ _)|some (.slice _),.sc (.slice none _ _),.sl _ _ _ _ _=>true
 | some (.func _ _ _),.fn _ _ _,.sc .nilFunc|some (.func _ _ _),.yl _,.sc .nilFunc|some (.func _ _ _),.sc .nilFunc,.fn _ _ _|some (.func _ _ _),.sc .nilFunc,.yl _=>true
 | some (.interface _),.ifc _ _,.sc .nilIface|some (.interface _),.sc .nilIface,.ifc _ _=>true
 | _,_,_=>false
def vnilEq (P:Program) (op:BinOp) (t:TypeId) (x y:VV):Option VV:=match nilKind P t x y with
 | true=>match op with
  | .eql=>some (.sc (.bool false))
  | .neq=>some (.sc (.bool true))
  | _=>none
 | false=>none
section
variable {P:Program} {B:World} {M:Nat→Prop} {Z:Nat→Prop} {ρ:Nat→Option (Nat×Nat)} {w:World} {H:Heap}
theorem vnilEq_sound (h:Rel B M Z ρ H w) {op:BinOp} {t:TypeId} {x y v:VV} {x' y':Value} {ox oy:Operand} (hx:Qf w Z ρ x x') (hy:Qf w Z ρ y y') (hv:vnilEq P op t x y=some v) :
    J1 P B M H.next Z ρ w (do eqGuard op t ox oy x' y';binOp op t x' y') v H:=by
  unfold vnilEq at hv
  split at hv
  · rename_i hk
    have key:(Op.equal t x' y').run P w= .ok false w∧((eqGuard op t ox oy x' y').run P w= .ok () w)∧(op= .eql→binOp op t x' y'=(do pure (.bool (← Op.equal t x' y'))))∧(op= .neq→binOp op t x' y'=(do pure (.bool (!(← Op.equal t x' y'))))):=by
      unfold nilKind at hk
      split at hk <;> first
        | (simp at hk;done)
        | (rename_i hu;cases hx;cases hy;refine ⟨(fun d=>by simp [Op.equalIn,run_underlying hu]: ∀ d:Nat,(Op.equalIn (d+1) t _ _).run P w= .ok false w) 9999,?_,?_,?_⟩
           · unfold eqGuard;split <;> rfl
           · rintro rfl;rfl
           · rintro rfl;rfl)
    obtain ⟨k1,k2,k3,k4⟩:=key
    split at hv
    · simp at hv
      subst hv
      exact J1.same h (v':= .bool false) (by simp [k2,k3 rfl,k1]) (.sc rfl)
    · simp at hv
      subst hv
      exact J1.same h (v':= .bool true) (by simp [k2,k4 rfl,k1]) (.sc rfl)
    · simp at hv
  · simp at hv
end
def orE {α:Type}:Option α→Option α→Option α
 | some a,_=>some a
 | none,b=>b
def X3 (H:Heap):Option VV→Option (VV×Heap)
 | some v=>some (v,H)
 | none=>none
def keyEq:TypeDesc→Value→Value→Option Bool
 | .int _,.int k a,.int k' b=>match decide (k=k') with
  | true=>some (decide (a=b))
  | false=>none
 | .string,.string a,.string b=>some (a.data.toList==b.data.toList)
 | _,_,_=>none
def isKeyB:TypeDesc→Value→Bool
 | .int k,.int k' _=>decide (k'=k)
 | .string,.string _=>true
 | _,_=>false
def W9 (d:TypeDesc) (k:Value):List Value→List VV→Nat→Option (Option (Nat×VV))
 | [],_,_=>some none
 | k'::r,vs,i=>match keyEq d k k' with
  | some true=>match vs with
   | v::_=>some (some (i,v))
   | []=>none
  | some false=>match vs with
   | _::s=>W9 d k r s (i+1)
   | []=>none
  | none=>none
def vzeroV (P:Program) (t:TypeId):Option VV:=match P.info? t with
 | some i=>match i.zero with
  | some z=>some (ofV z)
  | none=>none
 | none=>none
def vlook (P:Program) (t:TypeId) (x k:VV) (H:Heap):Option (VV×Bool):=match P.underlying t with
 | some (.map kt e)=>match P.underlying kt,k with
  | some d,.sc k=>match isKeyB d k with
   | true=>match x with
    | .mp b=>match H.get b with
     | some (.map ks vs)=>match W9 d k ks vs 0 with
      | some (some (_,v))=>some (v,true)
      | some none=>match vzeroV P e with
       | some z=>some (z,false)
       | none=>none
      | none=>none
     | _=>none
    | .sc (.map none)=>match vzeroV P e with
     | some z=>some (z,false)
     | none=>none
    | _=>none
   | false=>none
  | _,_=>none
 | _=>none
def B5 (P:Program) (t:TypeId) (x k:VV) (ok:Bool) (H:Heap):Option VV:=match vlook P t x k H with
 | some (v,b)=>match ok with
  | true=>some (.tp [v,.sc (.bool b)])
  | false=>some v
 | none=>none
def B4 (P:Program) (t:TypeId) (x k v:VV) (H:Heap):Option Heap:=match P.underlying t with
 | some (.map kt _)=>match P.underlying kt,k,x with
  | some d,.sc k,.mp b=>match isKeyB d k with
   | true=>match H.get b with
    | some (.map ks vs)=>match W9 d k ks vs 0 with
     | some (some (i,_))=>some (H.set b (.map ks (vs.set i v)))
     | some none=>some (H.set b (.map (ks++ [k]) (vs++ [v])))
     | none=>none
    | _=>none
   | false=>none
  | _,_,_=>none
 | _=>none
def vop (P:Program) (o:Oper) (ts:List VV) (H:Heap):Option (VV×Heap) :=
 match o.op with
 | .move x=>some (Qh ts x,H)
 | .assign x=>some (Qh ts x,H)
 | .pick c a b=>match Qh ts c with
  | .sc (.bool true)=>some (Qh ts a,H)
  | .sc (.bool false)=>some (Qh ts b,H)
  | _=>none
 | .alloc t=>valloc P t H
 | .box _ x=>vbox (Qh ts x) H
 | .build t ps=>X3 H (vbuild P t (ps.toList.map fun p=>(p.1,Qh ts p.2)))
 | .buildSlice t n ps=>Za P t n (ps.toList.map fun p=>(p.1,Qh ts p.2)) H
 | .load t a=>X3 H (Dl P t (Qh ts a) H)
 | .store t a x=>match vstore P t (Qh ts a) (Qh ts x) H with
  | some H'=>some (.tp [],H')
  | none=>none
 | .nilCheck x=>match Qh ts x with
  | .ptr b q=>some (.ptr b q,H)
  | .rp vs q=>some (.rp vs q,H)
  | .yl l=>some (.yl l,H)
  | .fn (.func f) a b=>some (.fn (.func f) a b,H)
  | _=>X3 H (Zp P o (Qh ts))
 | .binOp op t x y _=>X3 H (orE (vnilEq P op t (Qh ts x) (Qh ts y)) (Zp P o (Qh ts)))
 | .convert s d x=>orE (Wn P s d (Qh ts x) H) (X3 H (Zp P o (Qh ts)))
 | .makeFunc f a b=>some (.fn f (a.toList.map (Qh ts)) (b.toList.map (Qh ts)),H)
 | .makeInterface t x=>match P.underlying t with
  | some (.interface _)=>none
  | none=>none
  | some _=>match plain (Qh ts x) with
   | some u=>some (.sc (.iface t u),H)
   | none=>some (.ifc t (Qh ts x),H)
 | .makeSlice t l c=>Kl P t (Qh ts l) (Qh ts c) H
 | .slice t x lo hi mx=>X3 H (orE (Na P t (Qh ts x) (lo.map (Qh ts)) (hi.map (Qh ts)) (mx.map (Qh ts))) (Zp P o (Qh ts)))
 | .fieldAddr s x f=>X3 H (Nc P s (Qh ts x) f)
 | .field s x f=>X3 H (vfield P s (Qh ts x) f)
 | .indexAddr t x i=>X3 H (Yu P t (Qh ts x) (Qh ts i))
 | .index t x i=>X3 H (orE (vindex P t (Qh ts x) (Qh ts i)) (Zp P o (Qh ts)))
 | .extract x i=>X3 H (Dm (Qh ts x) i)
 | .call c=>match c.callee with
  | .builtin .append=>match c.args.toList,c.argTypes.toList with
   | [s,x],[sT,xT]=>Kt P sT xT (Qh ts s) (Qh ts x) H
   | _,_=>none
  | .builtin .copy=>match c.args.toList,c.argTypes.toList with
   | [s,x],[sT,_]=>vcopy P sT (Qh ts s) (Qh ts x) H
   | _,_=>none
  | .builtin .clear=>match c.args.toList,c.argTypes.toList with
   | [x],[t]=>vclear P t (Qh ts x) H
   | _,_=>none
  | .builtin .len=>match c.args.toList,c.argTypes.toList with
   | [x],[t]=>X3 H (orE (vlen P t (Qh ts x)) (Zp P o (Qh ts)))
   | _,_=>none
  | .builtin _=>X3 H (Zp P o (Qh ts))
  | _=>none
 | .defer _=>none
 | .makeMap _ none=>some (.mp H.next,H.add (.map [] []))
 | .lookup t x i ok=>X3 H (B5 P t (Qh ts x) (Qh ts i) ok H)
 | .mapUpdate t m k v=>match B4 P t (Qh ts m) (Qh ts k) (Qh ts v) H with
  | some H'=>some (.tp [],H')
  | none=>none
 | _=>X3 H (Zp P o (Qh ts))
theorem keyEq_now {d:TypeDesc} {k k':Value} {b:Bool} (h:keyEq d k k'=some b):Instr.sameNow d k k'=some b∧(b=true→k'=k):=by
 unfold keyEq at h
 split at h
 ·rename_i k1 k2 a k3 c
  split at h
  ·rename_i e
   have e:=of_decide_eq_true e
   subst e
   injection h with h
   subst h
   refine ⟨?_,fun hb=>by rw [of_decide_eq_true hb]⟩
   simp only [Instr.sameNow,if_true,Option.some.injEq]
   rw [Bool.eq_iff_iff,beq_iff_eq,decide_eq_true_iff]
  ·cases h
 ·rename_i a c
  injection h with h
  subst h
  obtain ⟨⟨x⟩⟩:=a
  obtain ⟨⟨y⟩⟩:=c
  refine ⟨?_,fun hb=> ?_⟩
  ·simp only [Instr.sameNow,Option.some.injEq]
   show ((⟨x⟩:Array UInt8)==⟨y⟩)=(x==y)
   rw [Bool.eq_iff_iff,beq_iff_eq,beq_iff_eq]
   constructor
   ·intro e;injection e
   ·intro e;rw [e]
  ·have:=eq_of_beq hb
   subst this
   rfl
 ·cases h
theorem isKeyB_key {d:TypeDesc} {k:Value} (h:isKeyB d k=true):MapKept.IsKey d k:=by
 unfold isKeyB at h
 split at h
 ·rename_i k k' n
  have h:k'=k:=of_decide_eq_true h
  exact h
 ·trivial
 ·cases h
theorem Uu {d:TypeDesc} {k:Value}: ∀ (arr:List MapEntry) (vs:List VV) (i:Nat) (r:Option (Nat×VV)),vs.length=arr.length→W9 d k (arr.map (·.key)) vs i=some r →
  match r with
  | none=>Instr.findNow d k arr i=some none
  | some (j,v)=> ∃ n e,j=i+n∧arr[n]? = some e∧vs[n]? = some v∧e.key=k∧Instr.findNow d k arr i=some (some (j,e.val))
 | [],vs,i,r,hl,h=>by
  simp only [List.map_nil,W9] at h
  injection h with h
  subst h
  rfl
 | e::arr,vs,i,r,hl,h=>by
  cases vs with
  | nil=>simp at hl
  | cons v vs =>
   simp only [List.map_cons,W9] at h
   split at h
   ·rename_i hk
    injection h with h
    subst h
    obtain ⟨h1,h2⟩:=keyEq_now hk
    exact ⟨0,e,rfl,rfl,rfl,h2 rfl,by simp only [Instr.findNow,h1]⟩
   ·rename_i hk
    obtain ⟨h1,_⟩:=keyEq_now hk
    have ih:=Uu arr vs (i+1) r (by simpa using hl) h
    cases r with
    | none =>
     simp only at ih ⊢
     simp only [Instr.findNow,h1,ih]
    | some p =>
     obtain ⟨j,u⟩:=p
     obtain ⟨n,e',q1,q2,q3,q4,q5⟩:=ih
     exact ⟨n+1,e',by omega,by simpa using q2,by simpa using q3,q4,by simp only [Instr.findNow,h1,q5]⟩
   ·cases h
theorem Ed {d:TypeDesc} {k:Value} (hk:MapKept.IsKey d k): ∀ (l:List MapEntry) (i:Nat),Instr.findNow d k l i=some none→ ∀ x∈l,x.key≠k
 | [],_,_,x,hx=>by cases hx
 | e::es,i,h,x,hx=>by
  rw [Instr.findNow] at h
  obtain ⟨r,hr,hiff⟩:=MapKept.sameNow_of_keys hk hk
  intro ex
  rcases List.mem_cons.1 hx with rfl|hx
  ·rw [ex,hr,hiff.2 rfl] at h
   simp at h
  ·split at h
   ·cases h
   ·exact Ed hk es (i+1) h x hx ex
   ·cases h
section
variable {P:Program} {B:World} {M:Nat→Prop} {Z:Nat→Prop} {ρ:Nat→Option (Nat×Nat)} {w:World} {H:Heap}
theorem Rel.atMap (h:Rel B M Z ρ H w) {b:Nat} {ks:List Value} {vs:List VV} (hb:H.get b=some (.map ks vs)): ∃ k N arr cl,ρ b=some (k,N)∧w.heap[k]? = some (.map arr cl)∧ks=arr.toList.map (·.key)∧Pw (Qf w Z ρ) vs (arr.toList.map (·.val))∧MapKept.Stamped arr cl:=by
 obtain ⟨k,N,o,h1,h2,⟨arr,cl,rfl,h3,h4,h5⟩,_⟩:=h.objC hb rfl
 exact ⟨k,N,arr,cl,h1,h2,h3,h4,h5⟩
theorem vzeroV_run {t:TypeId} {v:VV} (h:vzeroV P t=some v): ∃ z,(∀ w:World,(zeroValue t).run P w= .ok z w)∧ ∀ (w:World) Z ρ,Qf w Z ρ v z:=by
 unfold vzeroV at h
 split at h
 ·rename_i i hi
  split at h
  ·rename_i z hz
   injection h with h
   subst h
   exact ⟨z,fun w=>by simp [zeroValue,typeInfo,hi,hz],fun w Z ρ=>Cj z⟩
  ·cases h
 ·cases h
theorem vlook_run (h:Rel B M Z ρ H w) {t:TypeId} {x k v:VV} {x' k':Value} {b:Bool} (hx:Qf w Z ρ x x') (hk:Qf w Z ρ k k') (hv:vlook P t x k H=some (v,b)) (ok:Bool) :
  ∃ v',(Instr.lookup t x' k' ok).run P w= .ok (if ok then .tuple #[v',.bool b] else v') w∧Qf w Z ρ v v':=by
 unfold vlook at hv
 split at hv
 ·rename_i kt e ht
  split at hv
  ·rename_i d k0 hd
   have hk':k'=k0:=by cases hk;rfl
   subst hk'
   split at hv
   ·rename_i hkb
    have hkey:=isKeyB_key hkb
    split at hv
    ·rename_i b0
     cases hx with
     | @mp _ kk NN hρ =>
      split at hv
      ·rename_i ks vs hb
       obtain ⟨k1,N1,arr,cl,g1,g2,g3,g4,g5⟩:=h.atMap hb
       rw [hρ] at g1
       injection g1 with g1
       injection g1 with g1 g1'
       subst g1 g1' g3
       split at hv
       ·rename_i j v0 hm
        injection hv with hv
        injection hv with hv hv'
        subst hv hv'
        obtain ⟨n,en,q1,q2,q3,q4,q5⟩:=Uu arr.toList vs 0 _ (by have:=g4.1;simpa using this) hm
        refine ⟨en.val,?_,g4.2 n _ _ q3 (by rw [List.getElem?_map,q2];rfl)⟩
        cases ok <;> simp [Instr.lookup,run_underlying ht,MapKept.run_getObj_map g2,MapKept.run_checkKey hd hkey,MapKept.run_findKey hd q5,Result.andThen]
       ·rename_i hm
        split at hv
        ·rename_i z hz
         injection hv with hv
         injection hv with hv hv'
         subst hv hv'
         obtain ⟨zv,z1,z2⟩:=vzeroV_run hz
         have q5:=Uu arr.toList vs 0 _ (by have:=g4.1;simpa using this) hm
         simp only at q5
         refine ⟨zv,?_,z2 w Z ρ⟩
         cases ok <;> simp [Instr.lookup,run_underlying ht,MapKept.run_getObj_map g2,MapKept.run_checkKey hd hkey,MapKept.run_findKey hd q5,z1,Result.andThen]
        ·cases hv
       ·cases hv
      ·cases hv
    ·cases hx
     split at hv
     ·rename_i z hz
      injection hv with hv
      injection hv with hv hv'
      subst hv hv'
      obtain ⟨zv,z1,z2⟩:=vzeroV_run hz
      have q5:Instr.findNow d k' ([]:List MapEntry) 0=some none:=rfl
      refine ⟨zv,?_,z2 w Z ρ⟩
      cases ok <;> simp [Instr.lookup,run_underlying ht,MapKept.run_checkKey hd hkey,MapKept.run_findKey hd q5,z1,Result.andThen]
     ·cases hv
    ·cases hv
   ·cases hv
  ·cases hv
 ·cases hv
theorem vlookup_sound (h:Rel B M Z ρ H w) {t:TypeId} {x k v:VV} {x' k':Value} {ok:Bool} (hx:Qf w Z ρ x x') (hk:Qf w Z ρ k k') (hv:B5 P t x k ok H=some v):J1 P B M H.next Z ρ w (Instr.lookup t x' k' ok) v H:=by
 unfold B5 at hv
 split at hv
 ·rename_i v0 b hl
  obtain ⟨v',h1,h2⟩:=vlook_run h hx hk hl ok
  cases ok with
  | true =>
   injection hv with hv
   subst hv
   exact J1.same h h1 (.tp' (Pw.cons h2 (Pw.cons (.sc rfl) Pw.nil)))
  | false =>
   injection hv with hv
   subst hv
   exact J1.same h h1 h2
 ·cases hv
theorem Cs (h:Rel B M Z ρ H w) {t:TypeId} {x k v:VV} {x' k' v':Value} {H':Heap} (hx:Qf w Z ρ x x') (hk:Qf w Z ρ k k') (hvv:Qf w Z ρ v v') (hv:B4 P t x k v H=some H') :
  ∃ w',(Instr.mapUpdate t x' k' v').run P w= .ok () w'∧Ext (own B M) H.next Z ρ w H'.next Z ρ w'∧Rel B M Z ρ H' w':=by
 unfold B4 at hv
 split at hv
 ·rename_i kt e ht
  split at hv
  ·rename_i d k0 b hd
   have hk':k'=k0:=by cases hk;rfl
   subst hk'
   split at hv
   ·rename_i hkb
    have hkey:=isKeyB_key hkb
    cases hx with
    | @mp _ kk NN hρ =>
     split at hv
     ·rename_i ks vs hb
      obtain ⟨k1,N1,arr,cl,g1,g2,g3,g4,g5⟩:=h.atMap hb
      rw [hρ] at g1
      injection g1 with g1
      injection g1 with g1 g1'
      subst g1 g1' g3
      have hlt:=h.lt hb hρ
      have go: ∀ (arr':Array MapEntry) (cl':Nat) (vs':List VV),MapKept.Stamped arr' cl'→Pw (Qf w Z ρ) vs' (arr'.toList.map (·.val)) →
        Ext (own B M) H.next Z ρ w (H.set b (.map (arr'.toList.map (·.key)) vs')).next Z ρ {w with heap:=w.heap.setIfInBounds kk (.map arr' cl')}∧Rel B M Z ρ (H.set b (.map (arr'.toList.map (·.key)) vs')) {w with heap:=w.heap.setIfInBounds kk (.map arr' cl')}:=by
       intro arr' cl' vs' hst hp
       obtain ⟨k2,N2,o2,p1,p2,p3,p4,p5⟩:=h.objK hb hρ
       rw [hρ] at p1;injection p1 with p1;injection p1 with p1 p1';subst p1 p1'
       refine h.turn hb hρ rfl rfl rfl rfl rfl (by simp) (fun j hj=>by simp [Ne.symm hj]) (o:= .map arr' cl') (by simp [hlt]) ⟨arr',cl',rfl,rfl,hp.mono fun u c hu=>hu.ext (X:=fun _=>False) (n:=0) (n':=0) ⟨Nat.le_refl _,fun _ _=>rfl,fun _ h=>h,fun _ _ h=>h,fun j hj=> ?_,by simp,fun _ h=> .inl h⟩,hst⟩
       have:kk≠j:=fun e=>p4 (e ▸ hj)
       simp [this]
      split at hv
      ·rename_i i v0 hm
       injection hv with hv
       subst hv
       obtain ⟨n,en,q1,q2,q3,q4,q5⟩:=Uu arr.toList vs 0 _ (by have:=g4.1;simpa using this) hm
       have q1:i=n:=by omega
       subst q1
       have hi:arr[i]? = some en:=by simpa using q2
       have hk2:(arr.modify i fun e=> {e with key:=k',val:=v'}).toList.map (·.key)=arr.toList.map (·.key):=by
        apply List.ext_getElem?
        intro m
        simp only [List.getElem?_map,Array.getElem?_toList,Array.getElem?_modify]
        by_cases hm2:i=m
        ·subst hm2;rw [if_pos rfl,hi];simp [q4]
        ·rw [if_neg hm2]
       have hv2:(arr.modify i fun e=> {e with key:=k',val:=v'}).toList.map (·.val)=(arr.toList.map (·.val)).set i v':=by
        apply List.ext_getElem?
        intro m
        simp only [List.getElem?_map,Array.getElem?_toList,Array.getElem?_modify,List.getElem?_set,List.length_map,Array.length_toList]
        have hil:=(Array.getElem?_eq_some_iff.1 hi).1
        by_cases hm2:i=m
        ·subst hm2;rw [if_pos rfl,if_pos rfl,if_pos hil,hi];rfl
        ·rw [if_neg hm2,if_neg hm2]
       have:=go (arr.modify i fun e=> {e with key:=k',val:=v'}) cl (vs.set i v) (MapKept.stamped_modify g5 _ _ (fun _ _=>rfl) (fun e' _ he'=>by rw [hi] at he';injection he' with he';subst he';exact q4.symm)) (by rw [hv2];exact g4.set i hvv)
       rw [hk2] at this
       exact ⟨_,by simp [Instr.mapUpdate,run_underlying ht,MapKept.run_getObj_map g2,MapKept.run_checkKey hd hkey,MapKept.run_findKey hd q5,hi,q4,MapKept.run_keyThatStays hkey,MapKept.run_setObj_map _ g2,Result.andThen],this.1,this.2⟩
      ·rename_i hm
       injection hv with hv
       subst hv
       have q5:=Uu arr.toList vs 0 _ (by have:=g4.1;simpa using this) hm
       simp only at q5
       have:=go (arr.push {key:=k',val:=v',born:=cl}) (cl+1) (vs++ [v]) (MapKept.stamped_push g5 (Ed hkey _ _ q5)) (by simpa using g4.append (Pw.cons hvv Pw.nil))
       simp only [Array.toList_push,List.map_append,List.map_cons,List.map_nil] at this
       exact ⟨_,by simp [Instr.mapUpdate,run_underlying ht,MapKept.run_getObj_map g2,MapKept.run_checkKey hd hkey,MapKept.run_findKey hd q5,MapKept.run_setObj_map _ g2,Result.andThen],this.1,this.2⟩
      ·cases hv
     ·cases hv
   ·cases hv
  ·cases hv
 ·cases hv
end
def J5 (P:Program) (o:Oper) (a:Act) (B:World) (M:Nat→Prop) (n:Nat) (Z:Nat→Prop) (ρ:Nat→Option (Nat×Nat)) (w:World) (v:VV) (H':Heap):Prop :=
 ∃ v' w' Z' ρ',((execOp a.eval o).run P w= .ok (.value v') w'∨((execOp a.eval o).run P w= .ok .skip w'∧v'=undef))∧Ext (own B M) n Z ρ w H'.next Z' ρ' w'∧Rel B M Z' ρ' H' w'∧Qf w' Z' ρ' v v'
section
variable {P:Program} {B:World} {M:Nat→Prop} {Z:Nat→Prop} {ρ:Nat→Option (Nat×Nat)} {w:World} {H H':Heap} {o:Oper} {a:Act} {ts:List VV} {v:VV}
theorem J5.of {s:Sem Value} (hd:J1 P B M H.next Z ρ w s v H') (he:execOp a.eval o=(do pure (.value (← s)))):J5 P o a B M H.next Z ρ w v H':=by
 obtain ⟨v',w',ρ',h1,h2,h3,h4⟩:=hd
 exact ⟨v',w',Z,ρ',.inl (by rw [he];simp [h1]),h2,h3,h4⟩
theorem J5.plain (h:Rel B M Z ρ H w) (ht:Pw (Qf w Z ρ) ts a.tmps.toList) (hv:Zp P o (Qh ts)=some v):J5 P o a B M H.next Z ρ w v H:=by
 obtain ⟨v',h1,h2⟩:=vplain_sound (w:=w) (Z:=Z) (ρ:=ρ) (aev:=a.eval) hv (fun x=>J2 ht x)
 exact ⟨v',w,Z,ρ,.inl h1,Ext.refl _ _ _ _,h,h2⟩
theorem orelO (ht:Pw (Qf w Z ρ) ts a.tmps.toList) (x:Option Operand):ORelO w Z ρ (x.map (Qh ts)) (x.map a.eval):=by
 cases x with
 | none=>trivial
 | some x=>exact J2 ht x
theorem pwP_parts (ht:Pw (Qf w Z ρ) ts a.tmps.toList): ∀ l:List (Nat×Operand),PwP (Qf w Z ρ) (l.map fun p=>(p.1,Qh ts p.2)) (l.map fun p=>(p.1,a.eval p.2))
 | []=>trivial
 | (i,x)::r=>⟨rfl,J2 ht x,pwP_parts ht r⟩
theorem Ur (ht:Pw (Qf w Z ρ) ts a.tmps.toList): ∀ l:List Operand,Pw (Qf w Z ρ) (l.map (Qh ts)) (l.map a.eval)
 | []=>Pw.nil
 | x::r=>Pw.cons (J2 ht x) (Ur ht r)
theorem Yi {x:Option VV} (h:X3 H x=some (v,H')):x=some v∧H'=H:=by
 cases x <;> simp [X3] at h
 exact ⟨by rw [h.1],h.2.symm⟩
theorem orE_eq {α:Type} {x y:Option α} {z:α} (h:orE x y=some z):x=some z∨y=some z:=by
 cases x <;> simp [orE] at h
 ·exact .inr h
 ·exact .inl (by rw [h])
theorem vop_sound (h:Rel B M Z ρ H w) (ht:Pw (Qf w Z ρ) ts a.tmps.toList) (hv:vop P o ts H=some (v,H')):J5 P o a B M H.next Z ρ w v H':=by
 have hev:=fun x=>J2 (w:=w) (Z:=Z) (ρ:=ρ) (a:=a) ht x
 have pl: ∀ {H':Heap},X3 H (Zp P o (Qh ts))=some (v,H')→J5 P o a B M H.next Z ρ w v H':=fun hk=>by
  obtain ⟨h1,rfl⟩:=Yi hk
  exact J5.plain h ht h1
 unfold vop at hv
 split at hv
 ·rename_i x ho
  simp at hv;obtain ⟨rfl,rfl⟩:=hv
  exact ⟨_,w,Z,ρ,.inl (by simp [execOp,ho]),Ext.refl _ _ _ _,h,hev x⟩
 ·rename_i x ho
  simp at hv;obtain ⟨rfl,rfl⟩:=hv
  exact ⟨_,w,Z,ρ,.inl (by simp [execOp,ho]),Ext.refl _ _ _ _,h,hev x⟩
 ·rename_i c x y ho
  have hc:=hev c
  split at hv
  ·rename_i e
   simp at hv;obtain ⟨rfl,rfl⟩:=hv
   rw [e] at hc
   generalize hce:a.eval c=u at hc
   cases hc
   exact ⟨a.eval x,w,Z,ρ,.inl (by simp [execOp,ho,hce,asBool]),Ext.refl _ _ _ _,h,hev x⟩
  ·rename_i e
   simp at hv;obtain ⟨rfl,rfl⟩:=hv
   rw [e] at hc
   generalize hce:a.eval c=u at hc
   cases hc
   exact ⟨a.eval y,w,Z,ρ,.inl (by simp [execOp,ho,hce,asBool]),Ext.refl _ _ _ _,h,hev y⟩
  ·simp at hv
 ·rename_i t ho
  exact J5.of (valloc_sound h hv) (by simp [execOp,ho])
 ·rename_i t x ho
  exact J5.of (vbox_sound (t:=t) h (hev x) hv) (by simp [execOp,ho])
 ·rename_i t ps ho
  obtain ⟨h1,rfl⟩:=Yi hv
  exact J5.of (vbuild_sound (qs:=ps.map fun p=>(p.1,a.eval p.2)) h (by rw [Array.toList_map];exact pwP_parts ht _) h1) (by simp [execOp,ho])
 ·rename_i t n ps ho
  exact J5.of (Dp (qs:=ps.map fun p=>(p.1,a.eval p.2)) h (by rw [Array.toList_map];exact pwP_parts ht _) hv) (by simp [execOp,ho])
 ·rename_i t x ho
  obtain ⟨h1,rfl⟩:=Yi hv
  exact J5.of (vload_sound h (hev x) h1) (by simp [execOp,ho])
 ·rename_i t x y ho
  split at hv
  ·rename_i H1 h1
   simp at hv;obtain ⟨rfl,rfl⟩:=hv
   obtain ⟨w',g1,g2,g3⟩:=vstore_sound h (hev x) (hev y) h1
   exact ⟨undef,w',Z,ρ,.inr ⟨by simp [execOp,ho,g1],rfl⟩,g2,g3,Qf.undef⟩
  ·simp at hv
 ·rename_i x ho
  have hx:=hev x
  split at hv
  ·rename_i b q e
   simp at hv;obtain ⟨rfl,rfl⟩:=hv
   rw [e] at hx
   generalize hax:a.eval x=u at hx
   cases hx with
   | ptr hk=>exact ⟨_,w,Z,ρ,.inl (by simp [execOp,ho,hax]),Ext.refl _ _ _ _,h,.ptr hk⟩
  ·rename_i vs q e
   simp at hv;obtain ⟨rfl,rfl⟩:=hv
   rw [e] at hx
   generalize hax:a.eval x=u at hx
   cases hx with
   | rp g1 g2 g3 g4=>exact ⟨_,w,Z,ρ,.inl (by simp [execOp,ho,hax]),Ext.refl _ _ _ _,h,.rp g1 g2 g3 g4⟩
  ·rename_i l e
   simp at hv;obtain ⟨rfl,rfl⟩:=hv
   rw [e] at hx
   generalize hax:a.eval x=u at hx
   cases hx with
   | yl hk=>exact ⟨_,w,Z,ρ,.inl (by simp [execOp,ho,hax]),Ext.refl _ _ _ _,h,.yl hk⟩
  ·rename_i f vs us e
   simp at hv;obtain ⟨rfl,rfl⟩:=hv
   rw [e] at hx
   generalize hax:a.eval x=u at hx
   cases hx with
   | fn g1 g2 g3 g4=>exact ⟨_,w,Z,ρ,.inl (by simp [execOp,ho,hax]),Ext.refl _ _ _ _,h,.fn g1 g2 g3 g4⟩
  ·exact pl hv
 ·rename_i op t x y yt ho
  obtain ⟨h1,rfl⟩:=Yi hv
  rcases orE_eq h1 with h1|h1
  ·exact J5.of (vnilEq_sound (ox:=x) (oy:=y) h (hev x) (hev y) h1) (by simp [execOp,ho])
  ·exact J5.plain h ht h1
 ·rename_i s d x ho
  rcases orE_eq hv with h1|h1
  ·exact J5.of (vconvert_sound h (hev x) h1) (by simp [execOp,ho])
  ·exact pl h1
 ·rename_i f xs ys ho
  simp at hv;obtain ⟨rfl,rfl⟩:=hv
  have p1:Pw (Qf w Z ρ) (xs.toList.map (Qh ts)) (xs.map a.eval).toList:=by rw [Array.toList_map];exact Ur ht _
  have p2:Pw (Qf w Z ρ) (ys.toList.map (Qh ts)) (ys.map a.eval).toList:=by rw [Array.toList_map];exact Ur ht _
  exact ⟨_,w,Z,ρ,.inl (by simp [execOp,ho,Instr.makeFunc]),Ext.refl _ _ _ _,h,.fn p1.1 p1.2 p2.1 p2.2⟩
 ·rename_i t x ho
  split at hv
  ·simp at hv
  ·simp at hv
  ·rename_i d hnd hu
   have hrun:(Instr.makeInterface t (a.eval x)).run P w= .ok (.iface t (a.eval x)) w:=by
    simp only [Instr.makeInterface,Sem.run_bind,run_underlying hu,Result.andThen_ok]
    cases d <;> first|rfl|exact (hnd _ rfl).elim
   split at hv
   ·rename_i u hp
    simp at hv;obtain ⟨rfl,rfl⟩:=hv
    have:=Dx hp (hev x)
    exact J5.of (J1.same h hrun (by rw [this];exact .sc rfl)) (by simp [execOp,ho])
   ·simp at hv;obtain ⟨rfl,rfl⟩:=hv
    exact J5.of (J1.same h hrun (.ifc (hev x))) (by simp [execOp,ho])
 ·rename_i t l c ho
  exact J5.of (vmakeSlice_sound h (hev l) (hev c) hv) (by simp [execOp,ho])
 ·rename_i t x lo hi mx ho
  obtain ⟨h1,rfl⟩:=Yi hv
  rcases orE_eq h1 with h1|h1
  ·exact J5.of (vslice_sound h (hev x) (orelO ht lo) (orelO ht hi) (orelO ht mx) h1) (by simp [execOp,ho])
  ·exact J5.plain h ht h1
 ·rename_i s x f ho
  obtain ⟨h1,rfl⟩:=Yi hv
  exact J5.of (vfieldAddr_sound h (hev x) h1) (by simp [execOp,ho])
 ·rename_i s x f ho
  obtain ⟨h1,rfl⟩:=Yi hv
  exact J5.of (vfield_sound h (hev x) h1) (by simp [execOp,ho])
 ·rename_i t x i ho
  obtain ⟨h1,rfl⟩:=Yi hv
  exact J5.of (vindexAddr_sound h (hev x) (hev i) h1) (by simp [execOp,ho])
 ·rename_i t x i ho
  obtain ⟨h1,rfl⟩:=Yi hv
  rcases orE_eq h1 with h1|h1
  ·exact J5.of (vindex_sound h (hev x) (hev i) h1) (by simp [execOp,ho])
  ·exact J5.plain h ht h1
 ·rename_i x i ho
  obtain ⟨h1,rfl⟩:=Yi hv
  exact J5.of (vextract_sound h (hev x) h1) (by simp [execOp,ho])
 ·rename_i c ho
  obtain ⟨callee,args,argTypes⟩:=c
  split at hv
  ·rename_i hc
   simp only at hc
   subst hc
   split at hv
   ·rename_i s x sT xT e1 e2
    simp only at e1 e2
    have a1:args= #[s,x]:=by cases args;simp at e1;simp [e1]
    have a2:argTypes= #[sT,xT]:=by cases argTypes;simp at e2;simp [e2]
    subst a1 a2
    exact J5.of (vappend_sound (ty:=o.type) h (hev s) (hev x) hv) (by simp [execOp,ho,resolve,invoke,builtin])
   ·simp at hv
  ·rename_i hc
   simp only at hc
   subst hc
   split at hv
   ·rename_i s x sT xT e1 e2
    simp only at e1 e2
    have a1:args= #[s,x]:=by cases args;simp at e1;simp [e1]
    have a2:argTypes= #[sT,xT]:=by cases argTypes;simp at e2;simp [e2]
    subst a1 a2
    exact J5.of (vcopy_sound (ty:=o.type) (sT:=xT) h (hev s) (hev x) hv) (by simp [execOp,ho,resolve,invoke,builtin])
   ·simp at hv
  ·rename_i hc
   simp only at hc
   subst hc
   split at hv
   ·rename_i x t e1 e2
    simp only at e1 e2
    have a1:args= #[x]:=by cases args;simp at e1;simp [e1]
    have a2:argTypes= #[t]:=by cases argTypes;simp at e2;simp [e2]
    subst a1 a2
    exact J5.of (vclear_sound (ty:=o.type) h (hev x) hv) (by simp [execOp,ho,resolve,invoke,builtin])
   ·simp at hv
  ·rename_i hc
   simp only at hc
   subst hc
   split at hv
   ·rename_i x t e1 e2
    simp only at e1 e2
    have a1:args= #[x]:=by cases args;simp at e1;simp [e1]
    have a2:argTypes= #[t]:=by cases argTypes;simp at e2;simp [e2]
    subst a1 a2
    obtain ⟨h1,rfl⟩:=Yi hv
    rcases orE_eq h1 with h1|h1
    ·exact J5.of (vlen_sound (ty:=o.type) h (hev x) h1) (by simp [execOp,ho,resolve,invoke,builtin])
    ·exact J5.plain h ht h1
   ·simp at hv
  ·exact pl hv
  ·simp at hv
 ·simp at hv
 ·rename_i t ho
  simp at hv;obtain ⟨rfl,rfl⟩:=hv
  obtain ⟨e1,r1⟩:=h.alloc (.map [] []) (.map #[] 0) 0 ⟨#[],0,rfl,rfl,Pw.nil,MapKept.stamped_empty 0⟩
  exact J5.of (s:=Instr.makeMap t none) ⟨.map (some w.heap.size),_,_,by simp [Instr.makeMap],e1,r1,.mp (Xq _ _)⟩ (by simp [execOp,ho])
 ·rename_i t x i ok ho
  obtain ⟨h1,rfl⟩:=Yi hv
  exact J5.of (vlookup_sound h (hev x) (hev i) h1) (by simp [execOp,ho])
 ·rename_i t m k x ho
  split at hv
  ·rename_i H1 h1
   simp at hv;obtain ⟨rfl,rfl⟩:=hv
   obtain ⟨w',g1,g2,g3⟩:=Cs h (hev m) (hev k) (hev x) h1
   exact ⟨undef,w',Z,ρ,.inr ⟨by simp [execOp,ho,g1],rfl⟩,g2,g3,Qf.undef⟩
  ·simp at hv
 ·exact pl hv
end
end Go.Proofs.YtpbiblhkcomekaaGreat
namespace Go.Proofs.YtpbiblhkcomekaaGreat
open Go Go.RowKit
set_option linter.unusedSimpArgs false
set_option linter.unusedVariables false
structure VSt where
 tmps:List VV
 heap:Heap
 marks:List Nat
def VSt.put (s:VSt) (dst:Option Tmp) (v:VV) (H:Heap):VSt:=match dst with
 | some d=>⟨s.tmps.set d v,H,s.marks⟩
 | none=>⟨s.tmps,H,s.marks⟩
def DRel (ρ:Nat→Option (Nat×Nat)):List Nat→List Deferred→Prop
 | [],[]=>True
 | d::r,x::s=>(∃ D N,ρ d=some (D,N)∧x.target= .collected D)∧DRel ρ r s
 | _,_=>False
structure W2 (w:World) (Z:Nat→Prop) (ρ:Nat→Option (Nat×Nat)) (s:VSt) (a:Act):Prop where
 tmps:Pw (Qf w Z ρ) s.tmps a.tmps.toList
 marks:DRel ρ s.marks a.defers
def FW (r:Option Nat):Fence:= {Fence.wide with round:=r}
def RR (ρ:Nat→Option (Nat×Nat)):Option Nat→Option Nat→Prop
 | none,none=>True
 | some l,some k=> ∃ N,ρ l=some (k,N)
 | _,_=>False
section
variable {w w':World} {Z Z':Nat→Prop} {ρ ρ':Nat→Option (Nat×Nat)} {n n':Nat}
theorem DRel.ext {X:Nat→Prop} (e:Ext X n Z ρ w n' Z' ρ' w'): ∀ {m:List Nat} {d:List Deferred},DRel ρ m d→DRel ρ' m d
 | [],[],_=>trivial
 | _::_,_::_,⟨⟨D,N,h1,h2⟩,h3⟩=>⟨⟨D,N,e.rsub _ _ h1,h2⟩,DRel.ext e h3⟩
 | [],_::_,h=>h.elim
 | _::_,[],h=>h.elim
theorem W2.ext {X:Nat→Prop} {s:VSt} {a:Act} (h:W2 w Z ρ s a) (e:Ext X n Z ρ w n' Z' ρ' w'):W2 w' Z' ρ' s a:=⟨h.tmps.mono fun _ _ h=>h.ext e,h.marks.ext e⟩
theorem RR.ext {X:Nat→Prop} {r rr:Option Nat} (h:RR ρ r rr) (e:Ext X n Z ρ w n' Z' ρ' w'):RR ρ' r rr:=by
 cases r <;> cases rr <;> first|trivial|exact h.elim|(obtain ⟨N,h⟩:=h;exact ⟨N,e.rsub _ _ h⟩)
theorem W2.put {s:VSt} {a:Act} (h:W2 w Z ρ s a) (dst:Option Tmp) {v:VV} {x:Value} (hv:Qf w Z ρ v x) (H:Heap):W2 w Z ρ (s.put dst v H) (a.put dst x):=by
 cases dst with
 | none=>exact ⟨h.tmps,h.marks⟩
 | some d=>exact ⟨by simpa [VSt.put,Act.put] using h.tmps.set d hv,h.marks⟩
theorem VSt.heap_put (s:VSt) (dst:Option Tmp) (v:VV) (H:Heap):(s.put dst v H).heap=H:=by cases dst <;> rfl
end
def VWP (P:Program) (r:Option Nat) (c:Code) (Q:Exit→VSt→Prop) (s:VSt):Prop :=
 ∀ (B:World) (M Z:Nat→Prop) (ρ:Nat→Option (Nat×Nat)) (a:Act) (w:World) (rr:Option Nat) (QE:Exit→Act→World→Prop),RR ρ r rr→Rel B M Z ρ s.heap w→W2 w Z ρ s a →
  (∀ e s' Z' ρ' a' w',Q e s'→Ext (own B M) s.heap.next Z ρ w s'.heap.next Z' ρ' w'→Rel B M Z' ρ' s'.heap w'→W2 w' Z' ρ' s' a'→QE e a' w')→c.wpIn (FW rr) 0 P QE a w
def Qc (P:Program) (f:FuncId) (args:List VV) (H:Heap) (Q:VV→Heap→Prop):Prop :=
 ∀ (B:World) (M Z:Nat→Prop) (ρ:Nat→Option (Nat×Nat)) (w:World) (ra:Array Value),Rel B M Z ρ H w→Pw (Qf w Z ρ) args ra.toList →
  Calls P f ra w (fun e w'=> ∃ v' v H' Z' ρ',e= .returned v'∧Q v H'∧Ext (own B M) H.next Z ρ w H'.next Z' ρ' w'∧Rel B M Z' ρ' H' w'∧Qf w' Z' ρ' v v')
def J9 (P:Program) (l:Nat) (args:List VV) (H:Heap) (Q:VV→Heap→Prop):Prop :=
 ∀ (B:World) (M Z:Nat→Prop) (ρ:Nat→Option (Nat×Nat)) (w:World) (ra:Array Value) (k N:Nat),ρ l=some (k,N)→Rel B M Z ρ H w→Pw (Qf w Z ρ) args ra.toList →
  ∃ fn tmps asg bd,(Instr.yield k ra).run P w= .ok (.round k fn tmps asg bd) w ∧
   RoundIn Fence.wide 0 P k fn tmps asg bd w (fun e w'=> ∃ v' v H' Z' ρ',e= .returned v'∧Q v H'∧Ext (own B M) H.next Z ρ w H'.next Z' ρ' w'∧Rel B M Z' ρ' H' w'∧Qf w' Z' ρ' v v')
def Q3 (P:Program) (o:Oper) (ts:List VV) (H:Heap) (Q:VV→Heap→Prop):Prop :=
 ∀ (B:World) (M Z:Nat→Prop) (ρ:Nat→Option (Nat×Nat)) (a:Act) (w:World) (rr:Option Nat) (K:Act→World→Prop) (QE:Exit→Act→World→Prop),Rel B M Z ρ H w→Pw (Qf w Z ρ) ts a.tmps.toList →
  (∀ v' v H' Z' ρ' w',Q v H'→Ext (own B M) H.next Z ρ w H'.next Z' ρ' w'→Rel B M Z' ρ' H' w'→Qf w' Z' ρ' v v'→K (a.put o.dst v') w')→o.wpIn (FW rr) 0 P a w K QE
def K5 (P:Program) (ops:Array Oper) (l:List Nat) (Q:VSt→Prop) (s:VSt):Prop :=
 ∀ (B:World) (M Z:Nat→Prop) (ρ:Nat→Option (Nat×Nat)) (a:Act) (w:World) (rr:Option Nat) (QE:Exit→Act→World→Prop),Rel B M Z ρ s.heap w→W2 w Z ρ s a →
  (∀ s' Z' ρ' a' w',Q s'→Ext (own B M) s.heap.next Z ρ w s'.heap.next Z' ρ' w'→Rel B M Z' ρ' s'.heap w'→W2 w' Z' ρ' s' a'→QE .normal a' w')→wpOpsIn (FW rr) 0 P ops QE l a w
section
variable {P:Program} {r:Option Nat} {Q Q':Exit→VSt→Prop} {s:VSt}
theorem VWP.mono {c:Code} (h:VWP P r c Q s) (hq: ∀ e s',Q e s'→Q' e s'):VWP P r c Q' s:=fun B M Z ρ a w rr QE h0 h1 h2 h3=>h B M Z ρ a w rr QE h0 h1 h2 (fun e s' Z' ρ' a' w' q=>h3 e s' Z' ρ' a' w' (hq e s' q))
theorem Qc.mono {f:FuncId} {args:List VV} {H:Heap} {R R':VV→Heap→Prop} (h:Qc P f args H R) (hq: ∀ v H',R v H'→R' v H'):Qc P f args H R':=fun B M Z ρ w ra h1 h2 =>
 (h B M Z ρ w ra h1 h2).mono fun e w' ⟨v',v,H',Z',ρ',g1,g2,g3⟩=>⟨v',v,H',Z',ρ',g1,hq _ _ g2,g3⟩
theorem Q3.mono {o:Oper} {ts:List VV} {H:Heap} {R R':VV→Heap→Prop} (h:Q3 P o ts H R) (hq: ∀ v H',R v H'→R' v H'):Q3 P o ts H R':=fun B M Z ρ a w rr K QE h1 h2 h3 =>
 h B M Z ρ a w rr K QE h1 h2 fun v' v H' Z' ρ' w' q=>h3 v' v H' Z' ρ' w' (hq _ _ q)
theorem VWP.skip (h:Q .normal s):VWP P r .skip Q s:=fun B M Z ρ a w rr QE h0 h1 h2 h3=>wpIn_skip (h3 _ _ _ _ _ _ h (Ext.refl _ _ _ _) h1 h2)
theorem VWP.label {l:Nat} (h:Q .normal s):VWP P r (.label l) Q s:=fun B M Z ρ a w rr QE h0 h1 h2 h3=>wpIn_label (h3 _ _ _ _ _ _ h (Ext.refl _ _ _ _) h1 h2)
theorem VWP.exit {i:Nat} (h:Q (.exit i) s):VWP P r (.exit i) Q s:=fun B M Z ρ a w rr QE h0 h1 h2 h3=>wpIn_exit (h3 _ _ _ _ _ _ h (Ext.refl _ _ _ _) h1 h2)
theorem VWP.ret (h:Q .ret s):VWP P r .ret Q s:=fun B M Z ρ a w rr QE h0 h1 h2 h3=>wpIn_ret (h3 _ _ _ _ _ _ h (Ext.refl _ _ _ _) h1 h2)
def Dr (K:VSt→Prop) (Q:Exit→VSt→Prop):Exit→VSt→Prop
 | .normal,s=>K s
 | e,s=>Q e s
theorem VWP.seq {x y:Code} (h:VWP P r x (Dr (VWP P r y Q) Q) s):VWP P r (.seq x y) Q s:=fun B M Z ρ a w rr QE h0 h1 h2 h3=>by
 refine wpIn_seq (h B M Z ρ a w rr _ h0 h1 h2 fun e s' Z' ρ' a' w' q e1 r1 a1=> ?_)
 cases e with
 | normal=>exact q B M Z' ρ' a' w' rr QE (h0.ext e1) r1 a1 fun e s2 Z2 ρ2 a2 w2 q2 e2=>h3 e s2 Z2 ρ2 a2 w2 q2 (e1.trans e2)
 | _=>exact h3 _ _ _ _ _ _ q e1 r1 a1
theorem VWP.cond {c:Operand} {x y:Code} {t:Bool} (hc:Qh s.tmps c= .sc (.bool t)) (h:VWP P r (if t then x else y) Q s):VWP P r (.cond c x y) Q s:=fun B M Z ρ a w rr QE h0 h1 h2 h3=>by
 have:=J2 h2.tmps c
 rw [hc] at this
 generalize hce:a.eval c=u at this
 cases this
 exact wpIn_cond hce (h B M Z ρ a w rr QE h0 h1 h2 h3)
def blockQ (id:Nat) (Q:Exit→VSt→Prop):Exit→VSt→Prop
 | .exit j,s=>if j=id then Q .normal s else Q (.exit j) s
 | e,s=>Q e s
theorem VWP.block {id:Nat} {c:Code} (h:VWP P r c (blockQ id Q) s):VWP P r (.block id c) Q s:=fun B M Z ρ a w rr QE h0 h1 h2 h3=>by
 refine wpIn_block (h B M Z ρ a w rr _ h0 h1 h2 fun e s' Z' ρ' a' w' q e1 r1 a1=> ?_)
 cases e with
 | exit j =>
  simp only [Exit.inBlock,blockQ] at q ⊢
  split
  ·rename_i hj;rw [if_pos hj] at q;exact h3 _ _ _ _ _ _ q e1 r1 a1
  ·rename_i hj;rw [if_neg hj] at q;exact h3 _ _ _ _ _ _ q e1 r1 a1
 | _=>exact h3 _ _ _ _ _ _ q e1 r1 a1
theorem VWP.loop {c:Code} (I:VSt→Prop) (μ:VSt→Nat) (h0:I s) (hr: ∀ s,I s→VWP P r c (Dr (fun s'=>I s'∧μ s' < μ s) Q) s):VWP P r (.loop c) Q s:=fun B M Z ρ a w rr QE g0 g1 g2 g3=>by
 have key: ∀ (m:Nat) (s1:VSt) (Z1:Nat→Prop) (ρ1:Nat→Option (Nat×Nat)) (a1:Act) (w1:World),μ s1 < m→I s1→Ext (own B M) s.heap.next Z ρ w s1.heap.next Z1 ρ1 w1→Rel B M Z1 ρ1 s1.heap w1→W2 w1 Z1 ρ1 s1 a1→Code.roundsIn (FW rr) 0 P c QE m a1 w1:=by
  intro m
  induction m with
  | zero=>intro s1 Z1 ρ1 a1 w1 hm;omega
  | succ m ih =>
   intro s1 Z1 ρ1 a1 w1 hm hI e1 r1 ar1
   rw [roundsIn_succ]
   refine hr s1 hI B M Z1 ρ1 a1 w1 rr _ (g0.ext e1) r1 ar1 fun e s2 Z2 ρ2 a2 w2 q e2 r2 ar2=> ?_
   cases e with
   | normal=>exact ih s2 Z2 ρ2 a2 w2 (by have:=q.2;omega) q.1 (e1.trans e2) r2 ar2
   | _=>exact g3 _ _ _ _ _ _ q (e1.trans e2) r2 ar2
 exact wpIn_loop_rounds (μ s+1) (key _ s Z ρ a w (Nat.lt_succ_self _) h0 (Ext.refl _ _ _ _) g1 g2)
def Cp (P:Program) (r:Option Nat) (c:Code) (Q:Exit→VSt→Prop):Nat→VSt→Prop
 | 0,_=>False
 | m+1,s=>VWP P r c (Dr (Cp P r c Q m) Q) s
theorem VWP.rounds {c:Code} (m:Nat) (h:Cp P r c Q m s):VWP P r (.loop c) Q s:=fun B M Z ρ a w rr QE g0 g1 g2 g3=>by
 have key: ∀ (m:Nat) (s1:VSt) (Z1:Nat→Prop) (ρ1:Nat→Option (Nat×Nat)) (a1:Act) (w1:World),Cp P r c Q m s1→Ext (own B M) s.heap.next Z ρ w s1.heap.next Z1 ρ1 w1→Rel B M Z1 ρ1 s1.heap w1→W2 w1 Z1 ρ1 s1 a1→Code.roundsIn (FW rr) 0 P c QE m a1 w1:=by
  intro m
  induction m with
  | zero=>intro s1 Z1 ρ1 a1 w1 hm;exact hm.elim
  | succ m ih =>
   intro s1 Z1 ρ1 a1 w1 hm e1 r1 ar1
   rw [roundsIn_succ]
   refine hm B M Z1 ρ1 a1 w1 rr _ (g0.ext e1) r1 ar1 fun e s2 Z2 ρ2 a2 w2 q e2 r2 ar2=> ?_
   cases e with
   | normal=>exact ih s2 Z2 ρ2 a2 w2 q (e1.trans e2) r2 ar2
   | _=>exact g3 _ _ _ _ _ _ q (e1.trans e2) r2 ar2
 exact wpIn_loop_rounds m (key _ s Z ρ a w h (Ext.refl _ _ _ _) g1 g2)
theorem VWP.weaken {c:Code} {s1:VSt} (hm:s1.marks=s.marks) (hn:s1.heap.next=s.heap.next) (hg: ∀ b x,s1.heap.get b=some x→s.heap.get b=some x) (ht: ∀ w Z ρ cs,Pw (Qf w Z ρ) s.tmps cs→Pw (Qf w Z ρ) s1.tmps cs)
  (h:VWP P r c Q s1):VWP P r c Q s:=fun B M Z ρ a w rr QE g0 g1 g2 g3 =>
 h B M Z ρ a w rr QE g0 (g1.weaken hn hg) ⟨ht _ _ _ _ g2.tmps,hm ▸ g2.marks⟩ (fun e s' Z' ρ' a' w' q e1=>g3 e s' Z' ρ' a' w' q (hn ▸ e1))
theorem B3 (rr:Option Nat) (f:FuncId):(FW rr).fn f:=trivial
theorem Ev (rr:Option Nat):(FW rr).depth.isSome=true→1≤0:=fun h=>by cases h
theorem Q3.plain {o:Oper} {ts:List VV} {H H':Heap} {v:VV} (hv:vop P o ts H=some (v,H')):Q3 P o ts H (fun x K=>x=v∧K=H'):=fun B M Z ρ a w rr K QE h1 h2 h3=>by
 have hnd: ∀ c,o.op≠ .defer c:=fun c e=>by simp [vop,e] at hv
 obtain ⟨v',w',Z',ρ',hr,e1,r1,v1⟩:=vop_sound (P:=P) (o:=o) (a:=a) h1 h2 hv
 refine ⟨fun f _=>B3 _ f,?_⟩
 rw [Oper.semAt_eq _ _ _ hnd]
 have hk:=h3 v' v H' Z' ρ' w' ⟨rfl,rfl⟩ e1 r1 v1
 rcases hr with hr|⟨hr,rfl⟩
 ·rw [hr];exact hk
 ·rw [hr];exact hk
theorem Q3.call {o:Oper} {ts:List VV} {H:Heap} {R:VV→Heap→Prop} {f:Operand} {args:Array Operand} {ats:Array TypeId} (ho:o.op= .call ⟨.value f,args,ats⟩) {g:FuncId} {first capt:List VV} (hf:Qh ts f= .fn (.func g) first capt)
  (he:Enters P g) (h:Qc P g (first++args.toList.map (Qh ts)++capt) H R):Q3 P o ts H R:=fun B M Z ρ a w rr K QE h1 h2 h3=>by
 have hnd: ∀ c,o.op≠ .defer c:=fun c e=>by simp [ho] at e
 refine ⟨fun f _=>B3 _ f,?_⟩
 rw [Oper.semAt_eq _ _ _ hnd]
 have hfr:=J2 h2 f
 rw [hf] at hfr
 generalize hfe:a.eval f=u at hfr
 cases hfr with
 | @fn _ _ _ cs ds g1 r1 g2 r2 =>
  have hp:Pw (Qf w Z ρ) (first++args.toList.map (Qh ts)++capt) (cs++args.map a.eval++ds).toList:=by
   simp only [Array.toList_append,Array.toList_map]
   exact (Pw.append (Pw.append ⟨g1,r1⟩ (Ur h2 _)) ⟨g2,r2⟩)
  have hrun:(execOp a.eval o).run P w= .ok (.enter g (cs++args.map a.eval++ds)) w:=by
   simp [execOp,ho,resolve,hfe,Deferred.ofValue,invoke,he (cs++args.map a.eval++ds) w]
   have:=he (cs++args.map a.eval++ds) w
   simpa using this
  rw [hrun]
  refine ⟨Ev rr,callsIn_wide.2 ((h B M Z ρ w _ h1 hp).mono ?_)⟩
  rintro e w' ⟨v',v,H',Z',ρ',rfl,q,e1,r1,v1⟩
  exact h3 v' v H' Z' ρ' w' q e1 r1 v1
theorem Q3.round {o:Oper} {ts:List VV} {H:Heap} {R:VV→Heap→Prop} {f:Operand} {args:Array Operand} {ats:Array TypeId} (ho:o.op= .call ⟨.value f,args,ats⟩) {l:Nat} (hf:Qh ts f= .yl l)
  (h:J9 P l (args.toList.map (Qh ts)) H R):Q3 P o ts H R:=fun B M Z ρ a w rr K QE h1 h2 h3=>by
 have hnd: ∀ c,o.op≠ .defer c:=fun c e=>by simp [ho] at e
 refine ⟨fun f _=>B3 _ f,?_⟩
 rw [Oper.semAt_eq _ _ _ hnd]
 have hfr:=J2 h2 f
 rw [hf] at hfr
 generalize hfe:a.eval f=u at hfr
 cases hfr with
 | @yl _ k N hk =>
  obtain ⟨fn,tmps,asg,bd,hy,hR⟩:=h B M Z ρ w (args.map a.eval) k N hk h1 (by rw [Array.toList_map];exact Ur h2 _)
  have hrun:(execOp a.eval o).run P w= .ok (.round k fn tmps asg bd) w:=by
   have e2:(#[]:Array Value)++args.map a.eval=args.map a.eval:=by simp
   simp only [execOp,ho,resolve,hfe,Deferred.ofValue,Sem.run_bind,Sem.run_pure,Result.andThen_ok,invoke,e2,hy]
  rw [hrun]
  refine ⟨Ev rr,RoundIn.mono hR ?_⟩
  rintro e w' ⟨v',v,H',Z',ρ',rfl,q,e1,r1,v1⟩
  exact h3 v' v H' Z' ρ' w' q e1 r1 v1
def Qq (ops:Array Oper) (o:Oper) (ts:List VV):Option Bool:=match o.guard with
 | none=>some true
 | some (j,want)=>match (ops[j]?).bind (·.dst) with
  | none=>some false
  | some d=>match ts[d]? with
   | none=>some false
   | some (.sc (.bool b))=>some (b==want)
   | some (.tp _)=>some false
   | some _=>none
theorem Ud {ops:Array Oper} {o:Oper} {ts:List VV} {b:Bool} {w:World} {Z:Nat→Prop} {ρ:Nat→Option (Nat×Nat)} {cs:Array Value} (h:Qq ops o ts=some b) (ht:Pw (Qf w Z ρ) ts cs.toList):Region.wanted o (yielded ops cs)=b:=by
 unfold Qq at h
 unfold Region.wanted
 split at h
 ·rename_i hg
  simp at h
  simp [hg,h]
 ·rename_i j want hg
  simp only [hg]
  unfold yielded
  cases hd:(ops[j]?).bind (·.dst) with
  | none=>simp [hd] at h;simp [h]
  | some d =>
   simp only [hd] at h
   simp only [Option.bind_some]
   cases hu:ts[d]? with
   | none =>
    simp [hu] at h
    have:cs[d]? = none:=by
     have h1:=List.getElem?_eq_none_iff.1 hu
     have h2:=ht.1
     simp at h2
     exact Array.getElem?_eq_none (by omega)
    simp [this,h]
   | some u =>
    obtain ⟨c,hc,hr⟩:=ht.get hu
    have hc':cs[d]? = some c:=by simpa using hc
    simp only [hu] at h
    simp only [hc']
    cases u with
    | sc v =>
     cases hr
     cases c <;> first|(simp at h;done)|(simp at h;subst h;simp)
    | tp vs =>
     simp at h
     cases hr
     simp [h]
    | _=>simp at h
section
variable {ops:Array Oper} {l:List Nat} {R:VSt→Prop}
theorem K5.mono {R':VSt→Prop} (h:K5 P ops l R s) (hq: ∀ s',R s'→R' s'):K5 P ops l R' s:=fun B M Z ρ a w rr QE h1 h2 h3=>h B M Z ρ a w rr QE h1 h2 (fun s' Z' ρ' a' w' q=>h3 s' Z' ρ' a' w' (hq _ q))
theorem K5.nil (h:R s):K5 P ops [] R s:=fun B M Z ρ a w rr QE h1 h2 h3=>h3 s Z ρ a w h (Ext.refl _ _ _ _) h1 h2
theorem K5.step {i:Nat} {o:Oper} (hi:ops[i]? = some o) (hw:Qq ops o s.tmps=some true) (h:Q3 P o s.tmps s.heap (fun v H'=>K5 P ops l R (s.put o.dst v H'))):K5 P ops (i::l) R s:=fun B M Z ρ a w rr QE h1 h2 h3=>by
 rw [wpOpsIn_cons]
 unfold wpOpIn
 rw [hi]
 simp only [Ud hw h2.tmps,if_true]
 refine h B M Z ρ a w rr _ QE h1 h2.tmps fun v' v H' Z' ρ' w' q e1 r1 v1=> ?_
 have hh:=VSt.heap_put s o.dst v H'
 exact q B M Z' ρ' _ w' rr QE (by rw [hh];exact r1) ((h2.ext e1).put _ v1 _) fun s2 Z2 ρ2 a2 w2 q2 e2=>h3 s2 Z2 ρ2 a2 w2 q2 (e1.trans (by rw [hh] at e2;exact e2))
theorem K5.pass {i:Nat} {o:Oper} (hi:ops[i]? = some o) (hw:Qq ops o s.tmps=some false) (h:K5 P ops l R (s.put o.dst (.tp []) s.heap)):K5 P ops (i::l) R s:=fun B M Z ρ a w rr QE h1 h2 h3=>by
 rw [wpOpsIn_cons]
 unfold wpOpIn
 rw [hi]
 simp only [Ud hw h2.tmps]
 have hh:=VSt.heap_put s o.dst (.tp []) s.heap
 refine ⟨fun f _=>B3 _ f,h B M Z ρ _ w rr QE (by rw [hh];exact h1) (h2.put _ Qf.undef _) fun s2 Z2 ρ2 a2 w2 q2 e2=>h3 s2 Z2 ρ2 a2 w2 q2 (by rw [hh] at e2;exact e2)⟩
theorem VWP.region {id:Nat} (h:K5 P ops (List.range ops.size) (Q .normal) s):VWP P r (.region id ops false) Q s:=fun B M Z ρ a w rr QE h0 h1 h2 h3 =>
 wpIn_region (h B M Z ρ a w rr QE h1 h2 fun s' Z' ρ' a' w' q e1 r1 a1=>h3 _ _ _ _ _ _ q e1 r1 a1)
end
end
end Go.Proofs.YtpbiblhkcomekaaGreat
namespace Go.Proofs.YtpbiblhkcomekaaGreat
open Go Go.RowKit
set_option linter.unusedSimpArgs false
set_option linter.unusedVariables false
def vresult (P:Program) (ts:List VV) (H:Heap):ResultVar→Option VV
 | .tmp t=>some ((ts[t]?).getD (.tp []))
 | .cell a t=>Dl P t ((ts[a]?).getD (.tp [])) H
def Ul (P:Program) (ts:List VV) (H:Heap):List ResultVar→Option (List VV)
 | []=>some []
 | x::r=>match vresult P ts H x,Ul P ts H r with
  | some v,some l=>some (v::l)
  | _,_=>none
def K8 (P:Program) (fn:Func) (ts:List VV) (H:Heap):Option VV:=match Ul P ts H fn.results.toList with
 | some [v]=>some v
 | some l=>some (.tp l)
 | none=>none
def vleave:List Nat→Heap→Option Heap
 | [],H=>some H
 | d::r,H=>match H.get d with
  | some .defs=>vleave r (H.del d)
  | _=>none
section
variable {P:Program} {B:World} {M:Nat→Prop} {Z:Nat→Prop} {ρ:Nat→Option (Nat×Nat)} {w:World} {H:Heap}
def resSem (cs:Array Value):ResultVar→Sem Value
 | .tmp t=>pure (cs.getD t undef)
 | .cell a t=>do loadVar t (← asAddr (cs.getD a undef))
theorem run_result (h:Rel B M Z ρ H w) {ts:List VV} {cs:Array Value} (ht:Pw (Qf w Z ρ) ts cs.toList) {x:ResultVar} {v:VV} (hv:vresult P ts H x=some v) :
  ∃ v',(resSem cs x).run P w= .ok v' w∧Qf w Z ρ v v':=by
 have hget: ∀ t,Qf w Z ρ ((ts[t]?).getD (.tp [])) (cs.getD t undef):=fun t=>J2 (a:=⟨cs,[]⟩) ht (.tmp t)
 cases x with
 | tmp t =>
  simp [vresult] at hv
  subst hv
  exact ⟨_,rfl,hget t⟩
 | cell a t =>
  simp only [vresult] at hv
  obtain ⟨v',ad,h0,h1,h2⟩:=vload_run (P:=P) h (hget a) hv
  exact ⟨v',by simp [resSem,h0,asAddr,h1],h2⟩
theorem run_results (h:Rel B M Z ρ H w) {ts:List VV} {cs:Array Value} (ht:Pw (Qf w Z ρ) ts cs.toList): ∀ {rs:List ResultVar} {l:List VV},Ul P ts H rs=some l →
  ∃ vs,(rs.mapM (resSem cs)).run P w= .ok vs w∧Pw (Qf w Z ρ) l vs
 | [],l,hv=>by simp [Ul] at hv;subst hv;exact ⟨[],rfl,Pw.nil⟩
 | x::r,l,hv=>by
  simp only [Ul] at hv
  split at hv
  ·rename_i v l' h1 h2
   simp at hv
   subst hv
   obtain ⟨v',g1,g2⟩:=run_result h ht h1
   obtain ⟨vs,g3,g4⟩:=run_results h ht h2
   refine ⟨v'::vs,?_,Pw.cons g2 g4⟩
   rw [List.mapM_cons]
   simp only [Sem.run_bind,g1,g3,Result.andThen_ok,Sem.run_pure]
  ·simp at hv
theorem results_eq (fn:Func) (cs:Array Value):results fn cs=(do
  let vs ← fn.results.mapM (resSem cs)
  pure (if h:vs.size=1 then vs[0] else .tuple vs)):=by
 unfold results
 congr 1
theorem run_resAll (h:Rel B M Z ρ H w) {fn:Func} {ts:List VV} {cs:Array Value} (ht:Pw (Qf w Z ρ) ts cs.toList) {v:VV} (hv:K8 P fn ts H=some v): ∃ v',(results fn cs).run P w= .ok v' w∧Qf w Z ρ v v':=by
 have gen: ∀ {l:List VV},Ul P ts H fn.results.toList=some l→ ∃ vs:List Value,(fn.results.mapM (resSem cs)).run P w= .ok vs.toArray w∧Pw (Qf w Z ρ) l vs:=fun hl=>by
  obtain ⟨vs,g1,g2⟩:=run_results h ht hl
  exact ⟨vs,by rw [Array.mapM_eq_mapM_toList];simp [g1],g2⟩
 unfold K8 at hv
 rw [results_eq]
 split at hv
 ·rename_i u hu
  simp at hv
  subst hv
  obtain ⟨vs,g1,g2⟩:=gen hu
  have hl:=g2.1
  obtain ⟨x,rfl⟩: ∃ x,vs= [x]:=List.length_eq_one_iff.1 hl.symm
  refine ⟨x,?_,g2.2 0 u x rfl rfl⟩
  simp only [Sem.run_bind,g1,Result.andThen_ok,Sem.run_pure]
  rfl
 ·rename_i l hne hu
  simp at hv
  subst hv
  obtain ⟨vs,g1,g2⟩:=gen hu
  have hl:=g2.1
  have hn: ¬ (vs.toArray.size=1):=by
   intro e
   simp at e
   obtain ⟨x,rfl⟩:=List.length_eq_one_iff.1 (hl.trans e)
   exact hne x rfl
  refine ⟨.tuple vs.toArray,?_,.tp' (by simpa using g2)⟩
  simp only [Sem.run_bind,g1,Result.andThen_ok,Sem.run_pure]
  rw [dif_neg hn]
 ·simp at hv
theorem Rel.putObj (h:Rel B M Z ρ H w) {b k N:Nat} {x y:VObj} {o:Obj} (hx:H.get b=some x) (hk:ρ b=some (k,N)) (hrw:x.rw=true) (hy:y.rw=true) (hr: ∀ w',Ext (own B M) 0 Z ρ w 0 Z ρ w'→U6 w' Z ρ N y o) :
  Ext (own B M) H.next Z ρ w (H.set b y).next Z ρ (w.putObj k o)∧Rel B M Z ρ (H.set b y) (w.putObj k o):=by
 obtain ⟨k',N',o',h1,h2,h3,h4,h5⟩:=h.objK hx hk
 rw [hk] at h1;injection h1 with h1;injection h1 with h1 h1';subst h1 h1'
 have hlt:=h.lt hx hk
 refine h.turn hx hk hrw hy rfl rfl rfl World.putObj_size (fun j hj=>World.putObj_heap_other hj) (World.putObj_heap_same hlt) (hr _ ⟨Nat.le_refl _,fun _ _=>rfl,fun _ h=>h,fun _ _ h=>h,fun j hj=> ?_,by simp,fun _ h=> .inl h⟩)
 exact World.putObj_heap_other (fun e=>h4 (e ▸ hj))
theorem del_of_set {b:Nat} {y:VObj} (h:Rel B M Z ρ (H.set b y) w):Rel B M Z ρ (H.del b) w:=by
 refine h.weaken (H':=H.del b) rfl fun c x hx=> ?_
 rw [Heap.get_del] at hx
 rw [Heap.get_set]
 split at hx
 ·cases hx
 ·rename_i hne;rw [if_neg hne];exact hx
theorem leave_sound {fn:Func} {tmps:Array Value} {R:Ending→World→Prop} {H':Heap}: ∀ {marks:List Nat} {ds:List Deferred} {H:Heap} {w:World} {ρ:Nat→Option (Nat×Nat)} {Z:Nat→Prop},DRel ρ marks ds→Rel B M Z ρ H w→vleave marks H=some H' →
  (∀ w',Ext (own B M) H.next Z ρ w H'.next Z ρ w'→Rel B M Z ρ H' w'→ ∃ v,(results fn tmps).run P w'= .ok v w'∧R (.returned v) w')→LeavesInM Fence.wide 0 P fn tmps R ds .returning w
 | [],[],H,w,ρ,Z,_,h,hv,hk=>by
  simp [vleave] at hv
  subst hv
  exact hk w (Ext.refl _ _ _ _) h
 | d::r,x::s,H,w,ρ,Z,⟨⟨D,N,hd,ht⟩,hm⟩,h,hv,hk=>by
  simp only [vleave] at hv
  split at hv
  ·rename_i hg
   obtain ⟨k',N',o',h1,h2,h3,h4,h5⟩:=h.objC hg rfl
   rw [hd] at h1;injection h1 with h1;injection h1 with h1 h1';subst h1 h1'
   have h3':o'= .deferred (some []):=h3
   subst h3'
   obtain ⟨e1,r1⟩:=h.putObj (y:= .gone) (o:= .deferred none) hg hd rfl rfl (fun _ _=>trivial)
   have r2:=del_of_set r1
   refine ⟨by simp,.inl ⟨D,_,ht,run_takeDeferred h2,?_⟩⟩
   exact leave_sound (hm.ext e1) r2 hv fun w' e2 r3=>hk w' (Ext.trans (n':=H.next) e1 e2) r3
  ·simp at hv
 | [],_::_,_,_,_,_,h,_,_,_=>h.elim
 | _::_,[],_,_,_,_,h,_,_,_=>h.elim
end
section
variable {P:Program} {s:VSt} {H:Heap}
def bodyQ (P:Program) (fn:Func) (R:VV→Heap→Prop) (e:Exit) (s:VSt):Prop :=
 (e= .normal∨e= .ret)∧ ∃ H' v,vleave s.marks s.heap=some H'∧K8 P fn s.tmps H'=some v∧R v H'
theorem Qc.body {f:FuncId} {fn:Func} {c:Code} {args:List VV} {R:VV→Heap→Prop} (hf:P.funcs[f]? = some fn) (hb:fn.body=some c)
  (h:VWP P none c (bodyQ P fn R) ⟨args++List.replicate (fn.ntmps - args.length) (.tp []),H,[]⟩):Qc P f args H R:=fun B M Z ρ w ra h1 h2=>by
 refine callsIn_wide.1 (callsIn_of_wp_marks (n:=0) hf hb trivial ?_)
 have hlen:ra.size=args.length:=by have:=h2.1;simp at this;omega
 have hp:Pw (Qf w Z ρ) (args++List.replicate (fn.ntmps - args.length) (.tp [])) (ra++Array.replicate (fn.ntmps - ra.size) undef).toList:=by
  rw [Array.toList_append,Array.toList_replicate,hlen]
  exact h2.append (Pw.replicate Qf.undef _)
 refine h B M Z ρ ⟨_,[]⟩ w none _ trivial h1 ⟨hp,trivial⟩ ?_
 rintro e s' Z' ρ' a' w' ⟨he,H',v,q1,q2,q3⟩ e1 r1 a1
 have key:LeavesInM Fence.wide 0 P fn a'.tmps (fun e w'=> ∃ v' v H' Z' ρ',e= .returned v'∧R v H'∧Ext (own B M) H.next Z ρ w H'.next Z' ρ' w'∧Rel B M Z' ρ' H' w'∧Qf w' Z' ρ' v v') a'.defers .returning w':=by
  refine leave_sound a1.marks r1 q1 fun w2 e2 r2=> ?_
  obtain ⟨v',g1,g2⟩:=run_resAll (P:=P) (fn:=fn) r2 (a1.tmps.mono fun _ _ hh=>hh.ext e2) q2
  exact ⟨v',g1,v',v,H',Z',ρ',rfl,q3,e1.trans e2,r2,g2⟩
 rcases he with rfl|rfl
 ·exact key
 ·exact key
def setParams:List VV→List Tmp→List VV→List VV
 | ts,p::ps,v::vs=>setParams (ts.set p v) ps vs
 | ts,_,_=>ts
theorem Cv {R:VV→Value→Prop}: ∀ {ps:List Tmp} {vs:List VV} {xs:List Value} {ts:List VV} {cs:Array Value},Pw R vs xs→Pw R ts cs.toList →
  Pw R (setParams ts ps vs) ((ps.zip xs).foldl (fun tmps (t,a)=>tmps.setIfInBounds t a) cs).toList
 | [],vs,xs,ts,cs,_,h=>by simpa [setParams] using h
 | p::ps,[],[],ts,cs,_,h=>by simpa [setParams] using h
 | p::ps,v::vs,x::xs,ts,cs,hv,h=>by
  simp only [setParams,List.zip_cons_cons,List.foldl_cons]
  refine Cv ⟨by have:=hv.1;simpa using this,fun i u c hu hc=>hv.2 (i+1) u c (by simpa using hu) (by simpa using hc)⟩ ?_
  rw [Array.toList_setIfInBounds]
  exact h.set p (hv.2 0 v x rfl rfl)
 | _::_,[],_::_,_,_,hv,_=>by have:=hv.1;simp at this
 | _::_,_::_,[],_,_,hv,_=>by have:=hv.1;simp at this
def pendOf:Exit→Option (Option Code)
 | .normal=>some none
 | .ret=>some (some .ret)
 | .exit i=>some (some (.exit i))
 | .goto t=>some (some (.goto t))
 | _=>none
def roundQ (l:Nat) (R:VV→Heap→Prop) (e:Exit) (s:VSt):Prop :=
 ∃ p tmps ps asg bd pe d,pendOf e=some p∧s.heap.get l=some (.loop tmps ps asg bd .busy pe d)∧s.marks= []∧R (.sc (.bool p.isNone)) (s.heap.set l (.loop tmps ps asg bd (if p.isNone then .ready else .done) p d))
theorem J9.of {l:Nat} {args tmps:List VV} {ps:List Tmp} {asg bd:Code} {pe:Option Code} {d:Nat} {R:VV→Heap→Prop} (hl:H.get l=some (.loop tmps ps asg bd .ready pe d)) (hn:args.length=ps.length)
  (h:VWP P (some l) asg (fun e s1=>e= .normal∧s1.marks= []∧ ∃ tmps ps asg' bd' pe d,s1.heap.get l=some (.loop tmps ps asg' bd' .ready pe d)∧VWP P (some l) bd (roundQ l R) ⟨s1.tmps,s1.heap.set l (.loop tmps ps asg' bd' .busy pe d),[]⟩) ⟨setParams tmps ps args,H,[]⟩) :
  J9 P l args H R:=fun B M Z ρ w ra k N hk h1 h2=>by
 obtain ⟨k',N',o',g1,g2,g3,g4,g5⟩:=h1.objC hl rfl
 rw [hk] at g1;injection g1 with g1;injection g1 with g1 g1';subst g1 g1'
 obtain ⟨fn,ts,D,rfl,g6,N2,g7⟩:=g3
 have hsz:ra.size=ps.toArray.size:=by have:=h2.1;simp at this ⊢;omega
 refine ⟨_,_,_,_,run_yield g2 hsz,?_⟩
 refine roundIn_of_wpIn (F:=Fence.wide) trivial ?_
 have hp:Pw (Qf w Z ρ) (setParams tmps ps args) ((ps.toArray.zip ra).foldl (fun tmps (t,a)=>tmps.setIfInBounds t a) ts).toList:=by
  have:=Cv (ps:=ps) h2 g6
  rw [← Array.foldl_toList,Array.toList_zip]
  simpa using this
 refine h B M Z ρ ⟨_,[]⟩ w (some k) _ ⟨N,hk⟩ h1 ⟨hp,trivial⟩ ?_
 rintro e s1 Z1 ρ1 a1 w1 ⟨rfl,hm1,tmps1,ps1,asg1,bd1,pe1,d1,hl1,hb⟩ e1 r1 ar1
 have hk1:=e1.rsub _ _ hk
 obtain ⟨k',N',o',f1,f2,f3,f4,f5⟩:=r1.objC hl1 rfl
 rw [hk1] at f1;injection f1 with f1;injection f1 with f1 f1';subst f1 f1'
 obtain ⟨fn1,ts1,D1,rfl,f6,N3,f7⟩:=f3
 obtain ⟨e2,r2⟩:=r1.putObj (y:= .loop tmps1 ps1 asg1 bd1 .busy pe1 d1) (o:= .loop {state:= .busy,pending:=pe1,fn:=fn1,tmps:=ts1,params:=ps1.toArray,assign:=asg1,body:=bd1,defers:=D1}) hl1 hk1 rfl rfl
  (fun w' ee=>⟨fn1,ts1,D1,rfl,f6.mono fun _ _ hh=>hh.ext ee,N3,f7⟩)
 refine ⟨_,run_beginRound f2 rfl,?_⟩
 have ha1:a1.defers= []:=by
  have:=ar1.marks
  rw [hm1] at this
  cases hd:a1.defers with
  | nil=>rfl
  | cons x y=>rw [hd] at this;exact this.elim
 refine hb B M Z1 ρ1 a1 _ (some k) _ ⟨N,hk1⟩ r2 ⟨ar1.tmps.mono fun _ _ hh=>hh.ext e2,by rw [ha1];trivial⟩ ?_
 rintro e s2 Z2 ρ2 a2 w2 ⟨p,tmps2,ps2,asg2,bd2,pe2,d2,hpe,hl2,hm2,hR⟩ e3 r3 ar3
 have hk2:=e3.rsub _ _ hk1
 obtain ⟨k',N',o',q1,q2,q3,q4,q5⟩:=r3.objC hl2 rfl
 rw [hk2] at q1;injection q1 with q1;injection q1 with q1 q1';subst q1 q1'
 obtain ⟨fn2,ts2,D2,rfl,q6,N4,q7⟩:=q3
 obtain ⟨e4,r4⟩:=r3.putObj (y:= .loop tmps2 ps2 asg2 bd2 (if p.isNone then .ready else .done) p d2) (o:= .loop {state:=if p.isNone then .ready else .done,pending:=p,fn:=fn2,tmps:=ts2,params:=ps2.toArray,assign:=asg2,body:=bd2,defers:=D2}) hl2 hk2 rfl rfl
  (fun w' ee=>⟨fn2,ts2,D2,rfl,q6.mono fun _ _ hh=>hh.ext ee,N4,q7⟩)
 have hend:=run_endRound (P:=P) (l:=k) p q2
 have fin: ∃ v' v H' Z' ρ',Ending.returned (.bool p.isNone)= .returned v'∧R v H'∧Ext (own B M) H.next Z ρ w H'.next Z' ρ' (w2.putObj k (.loop {state:=if p.isNone then .ready else .done,pending:=p,fn:=fn2,tmps:=ts2,params:=ps2.toArray,assign:=asg2,body:=bd2,defers:=D2}))∧Rel B M Z' ρ' H' (w2.putObj k (.loop {state:=if p.isNone then .ready else .done,pending:=p,fn:=fn2,tmps:=ts2,params:=ps2.toArray,assign:=asg2,body:=bd2,defers:=D2}))∧Qf (w2.putObj k (.loop {state:=if p.isNone then .ready else .done,pending:=p,fn:=fn2,tmps:=ts2,params:=ps2.toArray,assign:=asg2,body:=bd2,defers:=D2})) Z' ρ' v v' :=
  ⟨_,_,_,Z2,ρ2,rfl,hR,(e1.trans (e2.trans (e3.trans e4))),r4,.sc rfl⟩
 cases e with
 | normal=>simp [pendOf] at hpe;subst hpe;exact ⟨_,_,hend,fin⟩
 | ret=>simp [pendOf] at hpe;subst hpe;exact ⟨_,_,hend,fin⟩
 | exit i=>simp [pendOf] at hpe;subst hpe;exact ⟨_,_,hend,fin⟩
 | goto t=>simp [pendOf] at hpe;subst hpe;exact ⟨_,_,hend,fin⟩
 | _=>simp [pendOf] at hpe
def jumpQ (Q:Exit→VSt→Prop) (s:VSt):Option Code→Prop
 | none=>Q .normal s
 | some .ret=>Q .ret s
 | some (.exit i)=>Q (.exit i) s
 | some (.goto t)=>Q (.goto t) s
 | _=>False
def rangeQ (l:Nat) (Q:Exit→VSt→Prop) (s:VSt) (H':Heap):Prop :=
 ∃ tmps ps asg bd st pe d,H'.get l=some (.loop tmps ps asg bd st pe d)∧st≠ .busy∧jumpQ Q ⟨s.tmps,H'.del l,s.marks⟩ pe
theorem Du {P:Program} {B:World} {M Z:Nat→Prop} {ρ:Nat→Option (Nat×Nat)} {w:World} {H':Heap} {l k N:Nat} {Q:Exit→VSt→Prop} {s:VSt} {rr:Option Nat} {QE:Exit→Act→World→Prop} {a:Act} (h:Rel B M Z ρ H' w) (hk:ρ l=some (k,N)) (ha:W2 w Z ρ s a)
  (hq:rangeQ l Q s H') (hc: ∀ e s' w',Q e s'→Ext (own B M) H'.next Z ρ w s'.heap.next Z ρ w'→Rel B M Z ρ s'.heap w'→W2 w' Z ρ s' a→QE e a w'): ∃ jump w4,(Instr.endLoop k).run P w= .ok jump w4∧(match jump with|none=>QE .normal a w4|some c=>c.wpIn (FW rr) 0 P QE a w4):=by
 obtain ⟨tmps,ps,asg,bd,st,pe,d,hl,hst,hj⟩:=hq
 obtain ⟨k',N',o',q1,q2,q3,q4,q5⟩:=h.objC hl rfl
 rw [hk] at q1;injection q1 with q1;injection q1 with q1 q1';subst q1 q1'
 obtain ⟨fn2,ts2,D2,rfl,q6,N4,q7⟩:=q3
 have hend:=run_endLoop (P:=P) q2 hst
 obtain ⟨e1,r1⟩:=h.putObj (y:= .gone) (o:= .loop {state:= .exhausted,pending:=pe,fn:=fn2,tmps:=ts2,params:=ps.toArray,assign:=asg,body:=bd,defers:=D2}) hl hk rfl rfl (fun _ _=>trivial)
 have r2:=del_of_set r1
 have ha2:W2 (w.putObj k (.loop {state:= .exhausted,pending:=pe,fn:=fn2,tmps:=ts2,params:=ps.toArray,assign:=asg,body:=bd,defers:=D2})) Z ρ ⟨s.tmps,H'.del l,s.marks⟩ a:=⟨ha.tmps.mono fun _ _ hh=>hh.ext e1,ha.marks⟩
 refine ⟨_,_,hend,?_⟩
 simp only
 unfold jumpQ at hj
 split at hj
 ·exact hc _ _ _ hj e1 r2 ha2
 ·exact wpIn_ret (hc _ _ _ hj e1 r2 ha2)
 ·exact wpIn_exit (hc _ _ _ hj e1 r2 ha2)
 ·exact wpIn_goto (hc _ _ _ hj e1 r2 ha2)
 ·exact hj.elim
theorem VWP.range0 {P : Program} {Q : Exit → VSt → Prop} {s : VSt} {g : Operand} {ps : Array Tmp} {asg bd : Code} {gf : FuncId} {capt : List VV} (hg : Qh s.tmps g = .fn (.func gf) [] capt) (he : Enters P gf)
    (h : Qc P gf (.yl (s.heap.next + 1) :: capt) ((s.heap.add .defs).add (.loop s.tmps ps.toList asg bd .ready none s.heap.next)) (fun _ H' => rangeQ (s.heap.next + 1) Q ⟨s.tmps, s.heap, s.heap.next :: s.marks⟩ H')) : VWP P none (.rangeFunc g ps asg bd) Q s := fun B M Z ρ a w rr QE h0 h1 h2 h3 => by
  obtain rfl : rr = none := by cases rr with | none => rfl | some _ => exact h0.elim
  refine wpIn_rangeFunc fun fn _ => ?_
  have hfr := J2 h2.tmps g
  rw [hg] at hfr
  generalize hfe : a.eval g = u at hfr
  cases hfr with
  | @fn _ _ _ cs ds g1 r1 g2 r2 =>
    obtain rfl : cs = #[] := by
      have : cs.toList = [] := List.eq_nil_of_length_eq_zero g1.symm
      simpa using this
    obtain ⟨e1, q1⟩ := h1.alloc .defs (.deferred (some [])) 0 rfl
    have e1s : (w.alloc (.deferred (some []))).heap.size = w.heap.size + 1 := by simp
    obtain ⟨e2, q2⟩ := q1.alloc (.loop s.tmps ps.toList asg bd .ready none s.heap.next) (.loop { state := .ready, pending := none, fn, tmps := a.tmps, params := ps, assign := asg, body := bd, defers := w.heap.size }) 0
      ⟨fn, a.tmps, w.heap.size, by simp, h2.tmps.mono fun _ _ hh => hh.ext e1, 0, Xq _ _⟩
    have hkl : (upd (upd ρ s.heap.next (w.heap.size, 0)) (s.heap.add .defs).next ((w.alloc (.deferred (some []))).heap.size, 0)) (s.heap.next + 1) = some (w.heap.size + 1, 0) := by
      rw [e1s]; exact Xq _ _
    have e12 := e1.trans e2
    refine ⟨_, _, _, ⟨.fn (.func gf) ds, #[] ++ #[.func (.yield (w.heap.size + 1)) #[] #[]]⟩, ((w.alloc (.deferred (some []))).alloc (.loop { state := .ready, pending := none, fn, tmps := a.tmps, params := ps, assign := asg, body := bd, defers := w.heap.size })), gf, #[] ++ #[.func (.yield (w.heap.size + 1)) #[] #[]] ++ ds, ((w.alloc (.deferred (some []))).alloc (.loop { state := .ready, pending := none, fn, tmps := a.tmps, params := ps, assign := asg, body := bd, defers := w.heap.size })), run_enterLoop_outer fn a.tmps ps asg bd, ?_, fun _ _ => trivial, ?_, Ev _, ?_⟩
    · simp only [resolve, rangeCall, hfe, Deferred.ofValue, Sem.run_pure]
      simp [Act.eval]
    · simp only [invoke, he _ _]
    · have hp : Pw (Qf ((w.alloc (.deferred (some []))).alloc (.loop { state := .ready, pending := none, fn, tmps := a.tmps, params := ps, assign := asg, body := bd, defers := w.heap.size })) Z (upd (upd ρ s.heap.next (w.heap.size, 0)) (s.heap.add .defs).next ((w.alloc (.deferred (some []))).heap.size, 0)))
          (.yl (s.heap.next + 1) :: capt) (#[] ++ #[Value.func (.yield (w.heap.size + 1)) #[] #[]] ++ ds).toList := by
        simp only [Array.toList_append, List.nil_append]
        exact Pw.cons (.yl hkl) ⟨g2, fun i u c hu hc => (r2 i u c hu hc).ext e12⟩
      refine callsIn_wide.2 ((h B M Z _ _ _ q2 hp).mono ?_)
      rintro e w' ⟨v', v, H', Z', ρ', rfl, hq, e3, r3, v3⟩
      refine Du r3 (e3.rsub _ _ hkl) (s := ⟨s.tmps, s.heap, s.heap.next :: s.marks⟩) ⟨h2.tmps.mono fun _ _ hh => (hh.ext e12).ext e3, ?_⟩ hq fun e s' w4 qq e4 r4 a4 => h3 e s' Z' ρ' _ w4 qq (e12.trans (e3.trans e4)) r4 a4
      exact ⟨⟨w.heap.size, 0, (e2.trans e3).rsub _ _ (Xq _ _), rfl⟩, (h2.marks.ext e12).ext e3⟩
theorem VWP.rangeIn {P : Program} {Q : Exit → VSt → Prop} {s : VSt} {g : Operand} {ps : Array Tmp} {asg bd asg0 bd0 : Code} {gf : FuncId} {capt ts0 : List VV} {l0 d0 : Nat} {ps0 : List Tmp} {st0 : LoopState} {pe0 : Option Code} (hg : Qh s.tmps g = .fn (.func gf) [] capt) (he : Enters P gf)
    (hl0 : s.heap.get l0 = some (.loop ts0 ps0 asg0 bd0 st0 pe0 d0))
    (h : Qc P gf (.yl s.heap.next :: capt) (s.heap.add (.loop s.tmps ps.toList asg bd .ready none d0)) (fun _ H' => rangeQ s.heap.next Q s H')) : VWP P (some l0) (.rangeFunc g ps asg bd) Q s := fun B M Z ρ a w rr QE h0 h1 h2 h3 => by
  obtain ⟨k0, rfl, N0, hk0⟩ : ∃ k0, rr = some k0 ∧ ∃ N0, ρ l0 = some (k0, N0) := by
    cases rr with
    | none => exact h0.elim
    | some k => obtain ⟨N, hN⟩ := h0; exact ⟨k, rfl, N, hN⟩
  refine wpIn_rangeFunc fun fn _ => ?_
  have hfr := J2 h2.tmps g
  rw [hg] at hfr
  generalize hfe : a.eval g = u at hfr
  cases hfr with
  | @fn _ _ _ cs ds g1 r1 g2 r2 =>
    obtain rfl : cs = #[] := by
      have : cs.toList = [] := List.eq_nil_of_length_eq_zero g1.symm
      simpa using this
    obtain ⟨k', N', o', p1, p2, p3, p4, p5⟩ := h1.objC hl0 rfl
    rw [hk0] at p1; injection p1 with p1; injection p1 with p1 p1'; subst p1 p1'
    obtain ⟨fn0, ts00, D0, rfl, p6, N3, p7⟩ := p3
    obtain ⟨e2, q2⟩ := h1.alloc (.loop s.tmps ps.toList asg bd .ready none d0) (.loop { state := .ready, pending := none, fn, tmps := a.tmps, params := ps, assign := asg, body := bd, defers := D0 }) 0
      ⟨fn, a.tmps, D0, by simp, h2.tmps, N3, p7⟩
    refine ⟨_, _, _, ⟨.fn (.func gf) ds, #[] ++ #[.func (.yield w.heap.size) #[] #[]]⟩, (w.alloc (.loop { state := .ready, pending := none, fn, tmps := a.tmps, params := ps, assign := asg, body := bd, defers := D0 })), gf, #[] ++ #[.func (.yield w.heap.size) #[] #[]] ++ ds, (w.alloc (.loop { state := .ready, pending := none, fn, tmps := a.tmps, params := ps, assign := asg, body := bd, defers := D0 })), run_enterLoop_inner p2 fn a.tmps ps asg bd, ?_, fun _ _ => trivial, ?_, Ev _, ?_⟩
    · simp only [resolve, rangeCall, hfe, Deferred.ofValue, Sem.run_pure]
      simp [Act.eval]
    · simp only [invoke, he _ _]
    · have hp : Pw (Qf (w.alloc (.loop { state := .ready, pending := none, fn, tmps := a.tmps, params := ps, assign := asg, body := bd, defers := D0 })) Z (upd ρ s.heap.next (w.heap.size, 0)))
          (.yl s.heap.next :: capt) (#[] ++ #[Value.func (.yield w.heap.size) #[] #[]] ++ ds).toList := by
        simp only [Array.toList_append, List.nil_append]
        exact Pw.cons (.yl (Xq _ _)) ⟨g2, fun i u c hu hc => (r2 i u c hu hc).ext e2⟩
      refine callsIn_wide.2 ((h B M Z _ _ _ q2 hp).mono ?_)
      rintro e w' ⟨v', v, H', Z', ρ', rfl, hq, e3, r3, v3⟩
      refine Du r3 (e3.rsub _ _ (Xq _ _)) (s := s) ⟨h2.tmps.mono fun _ _ hh => (hh.ext e2).ext e3, (h2.marks.ext e2).ext e3⟩ hq fun e s' w4 qq e4 r4 a4 => h3 e s' Z' ρ' _ w4 qq (e2.trans (e3.trans e4)) r4 a4
end
end Go.Proofs.YtpbiblhkcomekaaGreat
namespace Go.Proofs.YtpbiblhkcomekaaGreat
open Go Go.RowKit
set_option linter.unusedSimpArgs false
set_option linter.unusedVariables false
def Xm (e:Edge):Bool:=Region.binds .any e
def Q8 (after:List Edge) (j:Nat):Bool:=match after with
 | []=>false
 | e::r=>match Nat.beq e.on j&&Xm e with
  | true=>true
  | false=>Q8 r j
theorem Yt {after:List Edge} {j:Nat} (h:Q8 after j=true): ∃ e∈after,e.on=j∧Xm e=true:=by
 induction after with
 | nil=>simp [Q8] at h
 | cons e r ih =>
  simp only [Q8] at h
  split at h
  ·rename_i hb
   simp only [Bool.and_eq_true] at hb
   exact ⟨e,by simp,Nat.eq_of_beq_eq_true hb.1,hb.2⟩
  ·obtain ⟨x,hx,hh⟩:=ih h
   exact ⟨x,by simp [hx],hh⟩
def Je (i:Nat) (o:Oper):List Oper→Nat→List VV→List VV→List VV
 | [],_,_,ts=>ts
 | x::r,j,vs,ts=>Je i o r (j+1) vs.tail (match x.dst with
  | none=>ts
  | some d=>match Q8 o.after.toList j with
   | true=>ts.set d (vs.headD .junk)
   | false=>match Q8 x.after.toList i with
    | true=>ts
    | false=>ts.set d .junk)
def tAll:List Oper→List VV→List VV→List VV
 | x::r,v::vs,ts=>tAll r vs (match x.dst with
  | none=>ts
  | some d=>ts.set d v)
 | _,_,ts=>ts
def dstsOf:List Oper→List Nat
 | []=> []
 | x::r=>match x.dst with
  | none=>dstsOf r
  | some d=>d::dstsOf r
def Jl (d:Nat):List Nat→Bool
 | []=>false
 | x::r=>match Nat.beq x d with
  | true=>true
  | false=>Jl d r
def nodupN:List Nat→Bool
 | []=>true
 | x::r=>match Jl x r with
  | true=>false
  | false=>nodupN r
def backN:Nat→List Oper→Bool
 | _,[]=>true
 | i,o::r=>match o.after.toList.all (fun e=> !Xm e || Nat.blt e.on i) with
  | true=>backN (i+1) r
  | false=>false
theorem Qp {d:Nat}: ∀ {l:List Nat},Jl d l=true↔d∈l
 | []=>by simp [Jl]
 | x::r=>by
  rcases Jy x d with ⟨h,e⟩|⟨h,e⟩
  ·simp [Jl,h,e]
  ·have:=Qp (d:=d) (l:=r)
   simp [Jl,h,this]
   exact fun e'=>absurd e'.symm e
theorem Zw: ∀ {l:List Nat},nodupN l=true→l.Nodup
 | [],_=>by simp
 | x::r,h=>by
  simp only [nodupN] at h
  cases hm:Jl x r with
  | true=>simp [hm] at h
  | false =>
   simp [hm] at h
   rw [List.nodup_cons]
   refine ⟨fun hx=> ?_,Zw h⟩
   rw [Qp.2 hx] at hm
   cases hm
theorem Nn {l:List Oper} {x:Oper} {d:Nat} (hx:x∈l) (hd:x.dst=some d):d∈dstsOf l:=by
 induction l with
 | nil=>cases hx
 | cons y r ih =>
  unfold dstsOf
  rcases List.mem_cons.1 hx with h|h
  ·subst h
   rw [hd]
   exact List.mem_cons_self
  ·have:=ih h
   split
   ·exact this
   ·exact List.mem_cons_of_mem _ this
theorem dst_inj: ∀ {l:List Oper} {i j d:Nat} {x y:Oper},(dstsOf l).Nodup→l[i]? = some x→l[j]? = some y→x.dst=some d→y.dst=some d→i=j
 | z::r,0,0,_,_,_,_,_,_,_,_=>rfl
 | z::r,0,j+1,d,x,y,hn,hx,hy,hdx,hdy=>by
  simp at hx hy
  subst hx
  simp only [dstsOf,hdx,List.nodup_cons] at hn
  exact absurd (Nn (List.mem_of_getElem? hy) hdy) hn.1
 | z::r,i+1,0,d,x,y,hn,hx,hy,hdx,hdy=>by
  simp at hx hy
  subst hy
  simp only [dstsOf,hdy,List.nodup_cons] at hn
  exact absurd (Nn (List.mem_of_getElem? hx) hdx) hn.1
 | z::r,i+1,j+1,d,x,y,hn,hx,hy,hdx,hdy=>by
  simp at hx hy
  have:(dstsOf r).Nodup:=by
   simp only [dstsOf] at hn
   split at hn
   ·exact hn
   ·exact (List.nodup_cons.1 hn).2
  rw [dst_inj this hx hy hdx hdy]
 | [],_,_,_,_,_,_,hx,_,_,_=>by simp at hx
section
variable {w:World} {Z:Nat→Prop} {ρ:Nat→Option (Nat×Nat)}
structure TInv (w:World) (Z:Nat→Prop) (ρ:Nat→Option (Nat×Nat)) (ops:List Oper) (ts0 vals:List VV) (L:Nat→Bool) (cs:List Value):Prop where
 len:ts0.length=cs.length
 base: ∀ (t:Nat) (u:VV) (c:Value),ts0[t]? = some u→cs[t]? = some c→(∀ j x,ops[j]? = some x→x.dst=some t→L j=false)→Qf w Z ρ u c
 done: ∀ (j t:Nat) (x:Oper) (u:VV) (c:Value),ops[j]? = some x→x.dst=some t→L j=true→vals[j]? = some u→cs[t]? = some c→Qf w Z ρ u c
theorem tFor_rel {ops:List Oper} {vals:List VV} {L:Nat→Bool} {cs:List Value} {i:Nat} {o:Oper} (hn:(dstsOf ops).Nodup) (hi:ops[i]? = some o)
  (h1: ∀ j,Q8 o.after.toList j=true→L j=true) (h2: ∀ j x,ops[j]? = some x→Q8 x.after.toList i=true→L j=false) {ts0:List VV} (h:TInv w Z ρ ops ts0 vals L cs) :
  ∀ (l:List Oper) (k:Nat) (ts:List VV),ops.drop k=l→ts.length=cs.length →
   (∀ (t:Nat) (u:VV) (c:Value),ts[t]? = some u→cs[t]? = some c→(∀ j x,k≤j→ops[j]? = some x→x.dst≠some t)→Qf w Z ρ u c) →
   (∀ (t:Nat) (j:Nat) (x:Oper),k≤j→ops[j]? = some x→x.dst=some t→ts[t]? = ts0[t]?)→Pw (Qf w Z ρ) (Je i o l k (vals.drop k) ts) cs
 | [],k,ts,hk,hlen,ha,hb=>by
  refine ⟨hlen,fun t u c hu hc=>ha t u c hu hc fun j x hj hx=> ?_⟩
  have:ops.length≤k:=by have:=congrArg List.length hk;simp at this;omega
  have:=(List.getElem?_eq_some_iff.1 hx).1
  omega
 | x::r,k,ts,hk,hlen,ha,hb=>by
  have hxk:ops[k]? = some x:=by
   have:=congrArg (fun l=>l[0]?) hk
   simpa using this
  have hkr:ops.drop (k+1)=r:=by rw [← List.drop_drop,hk];rfl
  have hvt:(vals.drop k).tail=vals.drop (k+1):=by simp
  have hvh:(vals.drop k).headD .junk=(vals[k]?).getD .junk:=by
   simp [List.headD_eq_head?_getD,List.head?_drop]
  rw [Je,hvt]
  -- what stands behind this step
  have step: ∀ (ts':List VV),ts'.length=cs.length→(∀ d,x.dst=some d→ ∀ u c,ts'[d]? = some u→cs[d]? = some c→Qf w Z ρ u c)→(∀ t,x.dst≠some t→ts'[t]? = ts[t]?) →
    Pw (Qf w Z ρ) (Je i o r (k+1) (vals.drop (k+1)) ts') cs:=by
   intro ts' hl' hd' ho'
   refine tFor_rel hn hi h1 h2 h r (k+1) ts' hkr hl' ?_ ?_
   ·intro t u c hu hc hno
    by_cases ht:x.dst=some t
    ·exact hd' t ht u c hu hc
    ·rw [ho' t ht] at hu
     refine ha t u c hu hc fun j y hj hy=> ?_
     by_cases hjk:j=k
     ·subst hjk;rw [hxk] at hy;injection hy with hy;subst hy;exact ht
     ·exact hno j y (by omega) hy
   ·intro t j y hj hy hyd
    have ht:x.dst≠some t:=fun e=>by
     have:=dst_inj hn hxk hy e hyd
     omega
    rw [ho' t ht]
    exact hb t j y (by omega) hy hyd
  have setCase: ∀ (d:Nat) (u:VV),x.dst=some d→(∀ c,cs[d]? = some c→Qf w Z ρ u c)→Pw (Qf w Z ρ) (Je i o r (k+1) (vals.drop (k+1)) (ts.set d u)) cs:=by
   intro d u hd hu
   refine step _ (by simpa using hlen) ?_ ?_
   ·intro d' hd' u' c hu' hc
    rw [hd] at hd';injection hd' with hd';subst hd'
    have hlt:d < ts.length:=by have:=(List.getElem?_eq_some_iff.1 hc).1;omega
    rw [List.getElem?_set_self hlt] at hu'
    injection hu' with hu'
    subst hu'
    exact hu c hc
   ·intro t ht
    rw [List.getElem?_set_ne (fun e:d=t=>ht (by subst e;exact hd))]
  cases hd:x.dst with
  | none =>
   simp only
   exact step ts hlen (fun d e=>by rw [hd] at e;cases e) (fun _ _=>rfl)
  | some d =>
   simp only
   cases hw:Q8 o.after.toList k with
   | true =>
    simp only
    refine setCase d _ hd fun c hc=> ?_
    rw [hvh]
    cases hv:vals[k]? with
    | none=>exact .junk
    | some u=>exact h.done k d x u c hxk hd (h1 k hw) hv hc
   | false =>
    simp only
    cases hw2:Q8 x.after.toList i with
    | false=>exact setCase d _ hd fun c hc=> .junk
    | true =>
     simp only
     refine step ts hlen ?_ (fun _ _=>rfl)
     intro d' hd' u c hu hc
     rw [hd] at hd';injection hd' with hd';subst hd'
     rw [hb d k x (Nat.le_refl _) hxk hd] at hu
     refine h.base d u c hu hc fun j y hy hyd=> ?_
     have:=dst_inj hn hxk hy hd hyd
     subst this
     exact h2 k x hxk hw2
theorem tAll_get: ∀ (ops:List Oper) (vals:List VV) (ts:List VV),ops.length=vals.length→(dstsOf ops).Nodup→(tAll ops vals ts).length=ts.length ∧
  (∀ t,t ∉ dstsOf ops→(tAll ops vals ts)[t]? = ts[t]?)∧(∀ (j t:Nat) (x:Oper) (u:VV),ops[j]? = some x→x.dst=some t→vals[j]? = some u→t < ts.length→(tAll ops vals ts)[t]? = some u)
 | [],[],ts,_,_=>⟨rfl,fun _ _=>rfl,fun j t x u h=>by simp at h⟩
 | x::r,v::vs,ts,hl,hn=>by
  simp only [List.length_cons] at hl
  simp only [tAll]
  cases hd:x.dst with
  | none =>
   simp only
   have hn':(dstsOf r).Nodup:=by simpa [dstsOf,hd] using hn
   obtain ⟨a1,a2,a3⟩:=tAll_get r vs ts (by omega) hn'
   refine ⟨a1,fun t ht=>a2 t (by simpa [dstsOf,hd] using ht),fun j t y u hy hyd hu hlt=> ?_⟩
   cases j with
   | zero=>simp at hy;subst hy;rw [hd] at hyd;cases hyd
   | succ j=>simp at hy hu;exact a3 j t y u hy hyd hu hlt
  | some d =>
   simp only
   have hn':d ∉ dstsOf r∧(dstsOf r).Nodup:=by simpa [dstsOf,hd] using hn
   obtain ⟨a1,a2,a3⟩:=tAll_get r vs (ts.set d v) (by omega) hn'.2
   refine ⟨by simpa using a1,fun t ht=> ?_,fun j t y u hy hyd hu hlt=> ?_⟩
   ·have ht': ¬ (t=d∨t∈dstsOf r):=by simpa [dstsOf,hd] using ht
    rw [a2 t (fun h=>ht' (.inr h)),List.getElem?_set_ne (fun e=>ht' (.inl e.symm))]
   ·cases j with
    | zero =>
     simp at hy hu
     subst hy hu
     rw [hd] at hyd;injection hyd with hyd;subst hyd
     rw [a2 d hn'.1,List.getElem?_set_self hlt]
    | succ j=>simp at hy hu;exact a3 j t y u hy hyd hu (by simpa using hlt)
 | [],_::_,_,h,_=>by simp at h
 | _::_,[],_,h,_=>by simp at h
theorem TInv.all {ops:List Oper} {ts0 vals:List VV} {L:Nat→Bool} {cs:List Value} (h:TInv w Z ρ ops ts0 vals L cs) (hn:(dstsOf ops).Nodup) (hl:ops.length=vals.length) (hL: ∀ j,j < ops.length→L j=true):Pw (Qf w Z ρ) (tAll ops vals ts0) cs:=by
 obtain ⟨a1,a2,a3⟩:=tAll_get ops vals ts0 hl hn
 refine ⟨a1.trans h.len,fun t u c hu hc=> ?_⟩
 by_cases ht:t∈dstsOf ops
 ·obtain ⟨j,x,hx,hxd⟩: ∃ (j:Nat) (x:Oper),ops[j]? = some x∧x.dst=some t:=by
   clear a1 a2 a3 h hn hl hL hu hc
   induction ops with
   | nil=>simp [dstsOf] at ht
   | cons y r ih =>
    simp only [dstsOf] at ht
    cases hd:y.dst with
    | none =>
     simp only [hd] at ht
     obtain ⟨j,x,hx,hxd⟩:=ih ht
     exact ⟨j+1,x,by simpa using hx,hxd⟩
    | some d =>
     simp only [hd] at ht
     rcases List.mem_cons.1 ht with rfl|ht
     ·exact ⟨0,y,rfl,hd⟩
     ·obtain ⟨j,x,hx,hxd⟩:=ih ht
      exact ⟨j+1,x,by simpa using hx,hxd⟩
  have hj:=(List.getElem?_eq_some_iff.1 hx).1
  have hv:vals[j]? = some (vals[j]'(by omega)):=List.getElem?_eq_getElem _
  have hlt:t < ts0.length:=by
   have:=(List.getElem?_eq_some_iff.1 hc).1
   have:=h.len
   omega
  rw [a3 j t x _ hx hxd hv hlt] at hu
  injection hu with hu
  exact hu ▸ h.done j t x _ c hx hxd (hL j hj) hv hc
 ·rw [a2 t ht] at hu
  refine h.base t u c hu hc fun j x hx hxd=> ?_
  exact absurd (Nn (List.mem_of_getElem? hx) hxd) ht
end
end Go.Proofs.YtpbiblhkcomekaaGreat
namespace Go.Proofs.YtpbiblhkcomekaaGreat
open Go Go.RowKit
set_option linter.unusedSimpArgs false
set_option linter.unusedVariables false
def cnt (f:Nat→Bool):Nat→Nat
 | 0=>0
 | n+1=>cnt f n+(match f n with|true=>1|false=>0)
theorem J7 {f g:Nat→Bool}: ∀ {n:Nat},(∀ j,j < n→f j=g j)→cnt f n=cnt g n
 | 0,_=>rfl
 | n+1,h=>by rw [cnt,cnt,J7 (fun j hj=>h j (by omega)),h n (by omega)]
theorem cnt_le {f g:Nat→Bool}: ∀ {n:Nat},(∀ j,j < n→f j=true→g j=true)→cnt f n≤cnt g n
 | 0,_=>Nat.le_refl _
 | n+1,h=>by
  have ih:=cnt_le (n:=n) (fun j hj=>h j (by omega))
  simp only [cnt]
  cases hf:f n with
  | false=>exact Nat.le_trans ih (Nat.le_add_right _ _)
  | true=>rw [h n (by omega) hf];simp;omega
theorem cnt_add {f g e:Nat→Bool}: ∀ {n:Nat},(∀ j,j < n→f j=true→e j=true)→(∀ j,j < n→g j=true→e j=true∧f j=false)→cnt f n+cnt g n≤cnt e n
 | 0,_,_=>Nat.le_refl _
 | n+1,h1,h2=>by
  have ih:=cnt_add (n:=n) (fun j hj=>h1 j (by omega)) (fun j hj=>h2 j (by omega))
  simp only [cnt]
  cases hf:f n with
  | true =>
   have hg:g n=false:=by
    cases hg:g n with
    | false=>rfl
    | true=>have:=(h2 n (by omega) hg).2;rw [hf] at this;cases this
   rw [hg,h1 n (by omega) hf];simp;omega
  | false =>
   cases hg:g n with
   | true=>rw [(h2 n (by omega) hg).1];simp;omega
   | false=>simp;omega
theorem cnt_set {f g:Nat→Bool} {i:Nat}: ∀ {n:Nat},i < n→f i=false→g i=true→(∀ j,j≠i→g j=f j)→cnt g n=cnt f n+1
 | 0,h,_,_,_=>by omega
 | n+1,h,hf,hg,ho=>by
  simp only [cnt]
  by_cases e:i=n
  ·subst e
   rw [hf,hg,J7 (f:=g) (g:=f) (fun j hj=>ho j (by omega))]
   rfl
  ·rw [cnt_set (by omega) hf hg ho,ho n (fun e'=>e e'.symm)]
   omega
inductive Anc (ops:List Oper):Nat→Nat→Prop
 | edge {i:Nat} {o:Oper} {e:Edge} (hi:ops[i]? = some o) (he:e∈o.after.toList) (hb:Xm e=true):Anc ops i e.on
 | trans {i j k:Nat} (h:Anc ops i j) (g:Anc ops j k):Anc ops i k
theorem Di {ops:List Oper} {L:Nat→Bool} (hc: ∀ i o,ops[i]? = some o→L i=true→ ∀ e∈o.after.toList,Xm e=true→L e.on=true) {i j:Nat} (h:Anc ops i j):L i=true→L j=true:=by
 induction h with
 | edge hi he hb=>exact fun hL=>hc _ _ hi hL _ he hb
 | trans _ _ ih1 ih2=>exact fun hL=>ih2 (ih1 hL)
theorem anc_ready {ops:List Oper} {L:Nat→Bool} (hc: ∀ i o,ops[i]? = some o→L i=true→ ∀ e∈o.after.toList,Xm e=true→L e.on=true) {i j:Nat} (h:Anc ops i j) :
  (∀ o,ops[i]? = some o→ ∀ e∈o.after.toList,Xm e=true→L e.on=true)→L j=true:=by
 induction h with
 | edge hi he hb=>exact fun hr=>hr _ hi _ he hb
 | trans h1 h2 ih1 ih2=>exact fun hr=>Di hc h2 (ih1 hr)
section
variable {P:Program} {s:VSt} {ops:Array Oper} {vals:List VV} {G:Nat→Heap} {ev:Nat→Bool}
structure DrawOK (P:Program) (ops:Array Oper) (ts0 vals:List VV) (G:Nat→Heap) (ev:Nat→Bool):Prop where
 len:ops.toList.length=vals.length
 nodup:(dstsOf ops.toList).Nodup
 back: ∀ i o,ops.toList[i]? = some o→ ∀ e∈o.after.toList,Xm e=true→e.on < i
 order: ∀ i j,i < ops.size→ev i=true→ev j=true→j < i→Anc ops.toList i j
 skip: ∀ i o,ops.toList[i]? = some o→Qq ops o (Je i o ops.toList 0 vals ts0)=some false→vals[i]? = some (.tp [])∧ev i=false
 some_: ∀ i o,ops.toList[i]? = some o→Qq ops o (Je i o ops.toList 0 vals ts0)≠none
 event: ∀ i o v,ops.toList[i]? = some o→Qq ops o (Je i o ops.toList 0 vals ts0)=some true→ev i=true→vals[i]? = some v →
  Q3 P o (Je i o ops.toList 0 vals ts0) (G (cnt (fun j=>ev j&&Nat.blt j i) ops.size)) (fun x K=>x=v∧K=G (cnt (fun j=>ev j&&Nat.blt j i) ops.size+1))
 other: ∀ i o v p,ops.toList[i]? = some o→Qq ops o (Je i o ops.toList 0 vals ts0)=some true→ev i=false→vals[i]? = some v →
  (∀ A:Nat→Bool,(∀ j,A j=true→ev j=true∧Anc ops.toList i j)→cnt A ops.size≤p)→(∀ D:Nat→Bool,(∀ j,D j=true→ev j=true∧Anc ops.toList j i)→p+cnt D ops.size≤cnt ev ops.size) →
  Q3 P o (Je i o ops.toList 0 vals ts0) (G p) (fun x K=>x=v∧K=G p)
theorem ready_mem {listed:Array Bool} {i:Nat} (h:i∈Region.ready .any ops listed): ∃ o,ops[i]? = some o∧i < ops.size∧listed.getD i true=false∧ ∀ e∈o.after.toList,Xm e=true→listed.getD e.on false=true:=by
 simp only [Region.ready,List.mem_filter,List.mem_range,Bool.and_eq_true,Bool.not_eq_true'] at h
 obtain ⟨h1,h2,h3⟩:=h
 have ho:ops[i]? = some ops[i]:=Array.getElem?_eq_getElem h1
 rw [ho] at h3
 refine ⟨_,ho,h1,h2,fun e he hb=> ?_⟩
 simp only [Option.map_some,Option.getD_some,Array.all_eq_true'] at h3
 have:=h3 e (by simpa using he)
 simpa [Xm] using (by simpa [show Region.binds .any e=true from hb] using this:listed.getD e.on false=true)
theorem ready_nil {listed:Array Bool} (hs:listed.size=ops.size) (hback: ∀ i o,ops.toList[i]? = some o→ ∀ e∈o.after.toList,Xm e=true→e.on < i) (h:Region.ready .any ops listed= []): ∀ i,i < ops.size→listed.getD i false=true:=by
 intro i
 induction i using Nat.strongRecOn with
 | _ i ih =>
  intro hi
  cases hl:listed.getD i false with
  | true=>rfl
  | false =>
   exfalso
   have ho:ops[i]? = some ops[i]:=Array.getElem?_eq_getElem hi
   have hlt:listed.getD i true=false:=by
    rw [Array.getD_eq_getD_getElem?] at hl ⊢
    rw [Array.getElem?_eq_getElem (show i < listed.size by omega)] at hl ⊢
    exact hl
   have:i∈Region.ready .any ops listed:=by
    simp only [Region.ready,List.mem_filter,List.mem_range,Bool.and_eq_true,Bool.not_eq_true']
    refine ⟨hi,hlt,?_⟩
    rw [ho]
    simp only [Option.map_some,Option.getD_some,Array.all_eq_true']
    intro e he
    cases hb:Region.binds .any e with
    | false=>rfl
    | true =>
     simp only [Bool.not_true,Bool.false_or]
     have hlt:=hback i ops[i] (by simp [hi]) e (by simpa using he) hb
     exact ih e.on hlt (by omega)
   rw [h] at this
   cases this
theorem VWP.draw {r:Option Nat} {Q:Exit→VSt→Prop} {id:Nat} (hm:P.follows .mixedOrders=true) (hd:DrawOK P ops s.tmps vals G ev) (hG:G 0=s.heap) (h:Q .normal ⟨tAll ops.toList vals s.tmps,G (cnt ev ops.size),s.marks⟩):VWP P r (.region id ops true) Q s:=fun B M Z ρ a w rr QE h0 h1 h2 h3=>by
 refine wpIn_region_any hm ?_
 have key: ∀ (fuel:Nat) (listed:Array Bool) (a':Act) (w':World) (Z':Nat→Prop) (ρ':Nat→Option (Nat×Nat)),listed.size=ops.size→cnt (fun j=> !listed.getD j false) ops.size≤fuel →
   (∀ i o,ops.toList[i]? = some o→listed.getD i false=true→ ∀ e∈o.after.toList,Xm e=true→listed.getD e.on false=true) →
   Ext (own B M) s.heap.next Z ρ w (G (cnt (fun j=>ev j&&listed.getD j false) ops.size)).next Z' ρ' w'→Rel B M Z' ρ' (G (cnt (fun j=>ev j&&listed.getD j false) ops.size)) w' →
   TInv w' Z' ρ' ops.toList s.tmps vals (fun j=>listed.getD j false) a'.tmps.toList→DRel ρ' s.marks a'.defers→wpAnyIn (FW rr) 0 P .any ops QE fuel listed a' w':=by
  intro fuel
  induction fuel with
  | zero =>
   intro listed a' w' Z' ρ' hs hf hcl e1 r1 t1 d1
   have hall: ∀ i,i < ops.size→listed.getD i false=true:=by
    intro i hi
    cases hl:listed.getD i false with
    | true=>rfl
    | false =>
     exfalso
     have:cnt (fun j=>Nat.beq j i) ops.size≤cnt (fun j=> !listed.getD j false) ops.size:=cnt_le fun j hj hb=>by
      have:=Nat.eq_of_beq_eq_true hb
      subst this
      simp only [hl,Bool.not_false]
     have h1':cnt (fun j=>Nat.beq j i) ops.size=cnt (fun _=>false) ops.size+1:=cnt_set hi rfl (Nat.beq_refl i) (fun j hj=>by
      rcases Jy j i with ⟨hb,e⟩|⟨hb,_⟩
      ·exact absurd e hj
      ·exact hb)
     omega
   have hready:Region.ready .any ops listed= []:=by
    apply List.eq_nil_iff_forall_not_mem.2
    intro i hi
    obtain ⟨o,_,hlt,hl,_⟩:=ready_mem hi
    have:=hall i hlt
    rw [Array.getD_eq_getD_getElem?] at this hl
    rw [Array.getElem?_eq_getElem (show i < listed.size by omega)] at this hl
    simp at this hl
    rw [this] at hl
    cases hl
   refine ⟨hready,?_⟩
   have hc:cnt (fun j=>ev j&&listed.getD j false) ops.size=cnt ev ops.size:=J7 fun j hj=>by rw [hall j hj,Bool.and_true]
   rw [hc] at e1 r1
   exact h3 _ _ _ _ _ _ h e1 r1 ⟨t1.all hd.nodup hd.len (fun j hj=>hall j (by simpa using hj)),d1⟩
  | succ fuel ih =>
   intro listed a' w' Z' ρ' hs hf hcl e1 r1 t1 d1
   refine ⟨fun hnil=> ?_,fun i hi=> ?_⟩
   ·have hall:=ready_nil hs hd.back hnil
    have hc:cnt (fun j=>ev j&&listed.getD j false) ops.size=cnt ev ops.size:=J7 fun j hj=>by rw [hall j hj,Bool.and_true]
    rw [hc] at e1 r1
    exact h3 _ _ _ _ _ _ h e1 r1 ⟨t1.all hd.nodup hd.len (fun j hj=>hall j (by simpa using hj)),d1⟩
   ·obtain ⟨o,ho,hlt,hl,hre⟩:=ready_mem hi
    have ho':ops.toList[i]? = some o:=by simpa using ho
    have hl':listed.getD i false=false:=by
     rw [Array.getD_eq_getD_getElem?] at hl ⊢
     rw [Array.getElem?_eq_getElem (show i < listed.size by omega)] at hl ⊢
     exact hl
    have hget: ∀ j,(listed.setIfInBounds i true).getD j false=if j=i then true else listed.getD j false:=by
     intro j
     simp only [Array.getD_eq_getD_getElem?,Array.getElem?_setIfInBounds]
     by_cases e:i=j
     ·subst e;simp [hs,hlt]
     ·simp [e,Ne.symm e]
    have hT:Pw (Qf w' Z' ρ') (Je i o ops.toList 0 vals s.tmps) a'.tmps.toList:=by
     have:=tFor_rel (L:=fun j=>listed.getD j false) hd.nodup ho' (fun j hj=> ?_) (fun j x hx hw=> ?_) t1 ops.toList 0 s.tmps rfl t1.len ?_ (fun _ _ _ _ _ _=>rfl)
     ·simpa using this
     ·obtain ⟨e,he,rfl,hb⟩:=Yt hj
      exact hre e he hb
     ·cases hlj:listed.getD j false with
      | false=>rfl
      | true =>
       obtain ⟨e,he,hon,hb⟩:=Yt hw
       have:=hcl j x hx hlj e he hb
       rw [hon,hl'] at this
       cases this
     ·intro t u c hu hc hno
      exact t1.base t u c hu hc fun j x hx hxd=>absurd hxd (hno j x (Nat.zero_le _) hx)
    have hvl: ∃ v,vals[i]? = some v:=⟨vals[i]'(by rw [← hd.len];simpa using hlt),List.getElem?_eq_getElem _⟩
    obtain ⟨v,hv⟩:=hvl
    -- behind the operation
    have behind: ∀ (v':Value) (w2:World) (Z2:Nat→Prop) (ρ2:Nat→Option (Nat×Nat)),Ext (own B M) (G (cnt (fun j=>ev j&&listed.getD j false) ops.size)).next Z' ρ' w' (G (cnt (fun j=>ev j&&(listed.setIfInBounds i true).getD j false) ops.size)).next Z2 ρ2 w2 →
      Rel B M Z2 ρ2 (G (cnt (fun j=>ev j&&(listed.setIfInBounds i true).getD j false) ops.size)) w2→Qf w2 Z2 ρ2 v v'→wpAnyIn (FW rr) 0 P .any ops QE fuel (listed.setIfInBounds i true) (a'.put o.dst v') w2:=by
     intro v' w2 Z2 ρ2 e2 r2 vr
     refine ih _ _ _ Z2 ρ2 (by simpa using hs) ?_ ?_ (e1.trans e2) r2 ?_ ?_
     ·have:=cnt_set (f:=fun j=> !(listed.setIfInBounds i true).getD j false) (g:=fun j=> !listed.getD j false) (n:=ops.size) hlt (by rw [hget];simp) (by simp only [hl',Bool.not_false]) (fun j hj=>by rw [hget,if_neg hj])
      omega
     ·intro j x hx hLj e he hb
      rw [hget] at hLj ⊢
      by_cases e':j=i
      ·subst e'
       rw [ho'] at hx;injection hx with hx;subst hx
       split
       ·rfl
       ·exact hre e he hb
      ·rw [if_neg e'] at hLj
       split
       ·rfl
       ·exact hcl j x hx hLj e he hb
     ·have tt:TInv w2 Z2 ρ2 ops.toList s.tmps vals (fun j=>listed.getD j false) a'.tmps.toList:=⟨t1.len,fun t u c g1 g2 g3=>(t1.base t u c g1 g2 g3).ext e2,fun j t x u c g1 g2 g3 g4 g5=>(t1.done j t x u c g1 g2 g3 g4 g5).ext e2⟩
      cases hdst:o.dst with
      | none =>
       refine ⟨tt.len,fun t u c g1 g2 g3=>tt.base t u c g1 g2 fun j x hx hxd=> ?_,fun j t x u c g1 g2 g3 g4 g5=> ?_⟩
       ·have:=g3 j x hx hxd
        rw [hget] at this
        split at this
        ·cases this
        ·exact this
       ·rw [hget] at g3
        split at g3
        ·rename_i e';subst e';rw [ho'] at g1;injection g1 with g1;subst g1;rw [hdst] at g2;cases g2
        ·exact tt.done j t x u c g1 g2 g3 g4 g5
      | some d =>
       have hset:(a'.put (some d) v').tmps.toList=a'.tmps.toList.set d v':=by simp [Act.put]
       rw [hset]
       refine ⟨by rw [List.length_set];exact tt.len,fun t u c g1 g2 g3=> ?_,fun j t x u c g1 g2 g3 g4 g5=> ?_⟩
       ·have hne:d≠t:=fun e'=>by
         subst e'
         have:=g3 i o ho' hdst
         rw [hget,if_pos rfl] at this
         cases this
        rw [List.getElem?_set_ne hne] at g2
        refine tt.base t u c g1 g2 fun j x hx hxd=> ?_
        have:=g3 j x hx hxd
        rw [hget] at this
        split at this
        ·cases this
        ·exact this
       ·by_cases e':j=i
        ·subst e'
         rw [ho'] at g1;injection g1 with g1;subst g1
         rw [hdst] at g2;injection g2 with g2;subst g2
         rw [hv] at g4;injection g4 with g4;subst g4
         have hlt':d < a'.tmps.toList.length:=by
          have:=(List.getElem?_eq_some_iff.1 g5).1
          simpa using this
         rw [List.getElem?_set_self hlt'] at g5
         injection g5 with g5
         exact g5 ▸ vr
        ·have hne:d≠t:=fun e''=>by
          subst e''
          exact e' (dst_inj hd.nodup g1 ho' g2 hdst)
         rw [List.getElem?_set_ne hne] at g5
         rw [hget,if_neg e'] at g3
         exact tt.done j t x u c g1 g2 g3 g4 g5
     ·have:=d1.ext e2
      cases hdst:o.dst <;> simpa [Act.put] using this
    -- the number of events so far
    have hcnt: ∀ (hev:ev i=true),cnt (fun j=>ev j&&listed.getD j false) ops.size=cnt (fun j=>ev j&&Nat.blt j i) ops.size∧cnt (fun j=>ev j&&(listed.setIfInBounds i true).getD j false) ops.size=cnt (fun j=>ev j&&Nat.blt j i) ops.size+1:=by
     intro hev
     have e1:cnt (fun j=>ev j&&listed.getD j false) ops.size=cnt (fun j=>ev j&&Nat.blt j i) ops.size:=J7 fun j hj=>by
      cases hej:ev j with
      | false=>rfl
      | true =>
       simp only [Bool.true_and]
       rcases Nat.lt_trichotomy j i with hlt'|heq|hgt
       ·have h4:listed.getD j false=true:=anc_ready hcl (hd.order i j hlt hev hej hlt') (fun x hx e he hb=>by rw [ho'] at hx;injection hx with hx;subst hx;exact hre e he hb)
        have h5:Nat.blt j i=true:=Nat.ble_eq_true_of_le hlt'
        rw [h4,h5]
       ·subst heq
        have h5:Nat.blt j j=false:=by
         cases hb:Nat.blt j j with
         | false=>rfl
         | true=>have:=Nat.le_of_ble_eq_true hb;omega
        rw [hl',h5]
       ·have h5:Nat.blt j i=false:=by
         cases hb:Nat.blt j i with
         | false=>rfl
         | true=>have:=Nat.le_of_ble_eq_true hb;omega
        rw [h5]
        cases h4:listed.getD j false with
        | false=>rfl
        | true =>
         have:=Di hcl (hd.order j i hj hej hev hgt) h4
         rw [hl'] at this
         cases this
     refine ⟨e1,?_⟩
     rw [← e1]
     exact cnt_set hlt (by simp only [hl',Bool.and_false]) (by rw [hget,if_pos rfl,hev];rfl) (fun j hj=>by rw [hget,if_neg hj])
    have hsame: ∀ (hev:ev i=false),cnt (fun j=>ev j&&(listed.setIfInBounds i true).getD j false) ops.size=cnt (fun j=>ev j&&listed.getD j false) ops.size:=fun hev=>J7 fun j hj=>by
     rw [hget]
     split
     ·rename_i e';subst e';rw [hev];rfl
     ·rfl
    unfold wpOpIn
    rw [ho]
    simp only
    cases hw:Qq ops o (Je i o ops.toList 0 vals s.tmps) with
    | none=>exact absurd hw (hd.some_ i o ho')
    | some b =>
     have hwr:=Ud hw hT
     cases b with
     | false =>
      simp only [hwr,Bool.false_eq_true,if_false]
      obtain ⟨hv0,hev⟩:=hd.skip i o ho' hw
      rw [hv] at hv0;injection hv0 with hv0;subst hv0
      refine ⟨fun f _=>B3 _ f,behind undef w' Z' ρ' ?_ ?_ Qf.undef⟩
      ·rw [hsame hev];exact Ext.refl _ _ _ _
      ·rw [hsame hev];exact r1
     | true =>
      simp only [hwr,if_true]
      cases hev:ev i with
      | true =>
       obtain ⟨c1,c2⟩:=hcnt hev
       have:=hd.event i o v ho' hw hev hv
       rw [c1] at r1
       refine this B M Z' ρ' a' w' rr _ QE r1 hT ?_
       rintro v' x H' Z2 ρ2 w2 ⟨rfl,rfl⟩ e2 r2 vr
       exact behind v' w2 Z2 ρ2 (by rw [c2,c1];exact e2) (by rw [c2];exact r2) vr
      | false =>
       have:=hd.other i o v (cnt (fun j=>ev j&&listed.getD j false) ops.size) ho' hw hev hv
        (fun A hA=>cnt_le fun j hj hAj=>by
         obtain ⟨g1,g2⟩:=hA j hAj
         have:listed.getD j false=true:=anc_ready hcl g2 (fun x hx e he hb=>by rw [ho'] at hx;injection hx with hx;subst hx;exact hre e he hb)
         rw [g1,this];rfl)
        (fun D hD=>cnt_add (fun j hj hb=>by
          cases hej:ev j with
          | true=>rfl
          | false=>simp [hej] at hb) (fun j hj hDj=>by
         obtain ⟨g1,g2⟩:=hD j hDj
         refine ⟨g1,?_⟩
         cases hlj:listed.getD j false with
         | false=>simp
         | true =>
          have:=Di hcl g2 hlj
          rw [hl'] at this
          cases this))
       refine this B M Z' ρ' a' w' rr _ QE r1 hT ?_
       rintro v' x H' Z2 ρ2 w2 ⟨rfl,rfl⟩ e2 r2 vr
       exact behind v' w2 Z2 ρ2 (by rw [hsame hev];exact e2) (by rw [hsame hev];exact r2) vr
 have hinit: ∀ j,(Array.replicate ops.size false).getD j false=false:=fun j=>by
  simp only [Array.getD_eq_getD_getElem?,Array.getElem?_replicate]
  split <;> rfl
 have hc0:cnt (fun j=>ev j&&(Array.replicate ops.size false).getD j false) ops.size=0:=by
  have: ∀ n,cnt (fun _=>false) n=0:=fun n=>by induction n with|zero=>rfl|succ n ih=>simp [cnt,ih]
  rw [J7 (g:=fun _=>false) (fun j _=>by rw [hinit];simp),this]
 refine key ops.size (Array.replicate ops.size false) a _ Z ρ (by simp) ?_ ?_ ?_ ?_ ?_ h2.marks
 ·have: ∀ (f:Nat→Bool) (n:Nat),cnt f n≤n:=fun f n=>by
   induction n with
   | zero=>exact Nat.le_refl _
   | succ n ih=>rw [cnt];split <;> omega
  exact this _ _
 ·intro i o _ hL
  rw [hinit] at hL
  cases hL
 ·rw [hc0,hG]
  exact Ext.drew
 ·rw [hc0,hG]
  exact h1.drew
 ·refine ⟨by have:=h2.tmps.1;simpa using this,fun t u c g1 g2 _=>(h2.tmps.2 t u c g1 g2).ext (Ext.drew (X:=fun _=>False) (n:=0)),fun j t x u c _ _ g3=> ?_⟩
  rw [hinit] at g3
  cases g3
end
end Go.Proofs.YtpbiblhkcomekaaGreat
