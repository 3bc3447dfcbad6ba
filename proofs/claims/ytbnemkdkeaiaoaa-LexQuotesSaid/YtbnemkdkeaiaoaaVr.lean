/- The walk's operations on virtual values, fourth part: append, copy, conversions, len. Over any program. -/
import Derived.Test.YtbnemkdkeaiaoaaVq
namespace Go.Proofs.Ytbnemkdkeaiaoaa
open Go Go.RowKit
set_option linter.unusedSimpArgs false
set_option linter.unusedVariables false
section
variable {P : Program} {B : World} {M : Nat → Prop} {Z : Nat → Prop} {ρ : Nat → Option (Nat × Nat)} {w : World} {H : Heap}

theorem run_append_fit {sT xT ty e : TypeId} {d : TypeDesc} {z m n c : Nat} {x : Value} {base : Option Addr} {xs : List Value} (hu : P.underlying sT = some (.slice e)) (hx : P.underlying xT = some d) (hd : ∀ k, d ≠ .int k)
    (hz : vsize P e = some z) (hlen : ∀ W : World, (Builtin.lenOf x).run P W = .ok m W) (hf : ∀ W : World, W.heap = w.heap → (Builtin.firstCells z m x).run P W = .ok xs.toArray W) (hfit : n + m ≤ c) {w' : World}
    (hs : ∀ a, base = some a → (storeCells (a.add (n * z)) xs).run P w = .ok () w') (hb : base = none → w' = w) :
    (Builtin.append_ #[sT, xT] ty #[.slice base n c, x]).run P w = .ok (.slice base (n + m) c) w' := by
  have hzeros : (match d with | .int _ => true | _ => false) = false := by cases d <;> first | rfl | exact (hd _ rfl).elim
  cases base with
  | none =>
    have := hb rfl
    subst this
    simp [Builtin.append_, run_underlying hu, run_underlying hx, run_sizeOf hz, hzeros, hlen, hfit, hf w' rfl]
  | some a =>
    simp [Builtin.append_, run_underlying hu, run_underlying hx, run_sizeOf hz, hzeros, hlen, hfit, hf w rfl, hs a rfl]
theorem run_append_new {sT xT ty e : TypeId} {d : TypeDesc} {i : TypeInfo} {zv : Value} {m n c : Nat} {x : Value} {base : Option Addr} {xs os : List Value} (hu : P.underlying sT = some (.slice e)) (hx : P.underlying xT = some d) (hd : ∀ k, d ≠ .int k)
    (hi : P.info? e = some i) (hzv : i.zero = some zv) (hlen : ∀ W : World, (Builtin.lenOf x).run P W = .ok m W) (hf : ∀ W : World, W.heap = w.heap → (Builtin.firstCells i.size m x).run P W = .ok xs.toArray W)
    (ho : ∀ W : World, W.heap = w.heap → (Builtin.firstCells i.size n (.slice base n c)).run P W = .ok os.toArray W) (hg : c < n + m) (hb : (n + m) * i.bytes ≤ 140737488355328) (h63 : n + m ≤ 4611686018427387904) :
    ∃ cap rest, n + m ≤ cap ∧ (Builtin.append_ #[sT, xT] ty #[.slice base n c, x]).run P w = .ok (.slice (some ⟨w.heap.size, 0, none⟩) (n + m) cap) (w.drew.alloc (.cells (os.toArray ++ xs.toArray ++ rest) e)) ∧ rest = Builtin.zeroCells zv.cells (cap - (n + m)) := by
  have hzeros : (match d with | .int _ => true | _ => false) = false := by cases d <;> first | rfl | exact (hd _ rfl).elim
  have hn : ¬ (n + m ≤ c) := by omega
  have h63' : ¬ (9223372036854775807 < ((n : Int) + (m : Int))) := by omega
  have h48 := growslice_fits hg hb
  have h48' : ¬ (281474976710656 < Builtin.nextslicecap (n + m) c * i.bytes) := by omega
  refine ⟨grownCap w (n + m) c e, _, ?_, ?_, rfl⟩
  · exact Nat.le_add_right _ _
  · have hf1 := hf w.drew rfl
    have ho1 := ho w.drew rfl
    have hsz : vsize P e = some i.size := by simp [vsize, hi]
    simp [Builtin.append_, run_underlying hu, run_underlying hx, run_sizeOf hsz, typeInfo, zeroValue, hi, hzv, hzeros, hlen, hn, h63', h48', Question.forced, hf1, ho1, newRow, grownCap]
    congr 2
    apply Array.ext'
    simp

def vappCase (i : TypeInfo) (m : Nat) (l : List VV) (s : VV) (H : Heap) : Option (VV × Heap) := match s with
  | .sc (.slice none 0 0) => if m = 0 then some (s, H) else if m * i.bytes ≤ 140737488355328 ∧ m ≤ 4611686018427387904 then some (.sl H.next 0 m none i.size, H.add (.cells true l)) else none
  | .ro n vs => if m = 0 then some (s, H) else none
  | .sl b o n (some c) z' => if m = 0 then some (s, H) else match H.get b with
    | some (.cells rw vs) =>
              if n + m ≤ c then
                match rw with
                | true => if o + (n * i.size + l.length) ≤ vs.length then some (.sl b o (n + m) (some c) z', H.set b (.cells true (setRun vs (o + n * i.size) l))) else none
                | false => none
              else if o + n * i.size ≤ vs.length ∧ (n + m) * i.bytes ≤ 140737488355328 ∧ n + m ≤ 4611686018427387904 then
                some (.sl H.next 0 (n + m) none i.size, H.add (.cells true ((vs.drop o).take (n * i.size) ++ l))) else none
    | _ => none
  | .sl b 0 n none z' => if m = 0 then some (s, H) else match H.get b with
    | some (.cells true vs) => if z' = i.size ∧ n * i.size ≤ vs.length ∧ (n + m) * i.bytes ≤ 140737488355328 ∧ n + m ≤ 4611686018427387904 then
                some (.sl H.next 0 (n + m) none i.size, (H.del b).add (.cells true (vs.take (n * i.size) ++ l))) else none
    | _ => none
  | _ => none
def vappend (P : Program) (sT xT : TypeId) (s x : VV) (H : Heap) : Option (VV × Heap) := match P.underlying sT with
  | some (.slice e) => match P.info? e, vzero P e with
    | some i, some zl => match velems i.size x H with
      | some (m, l) => match Nat.beq zl.length i.size && l.all VV.one, P.underlying xT with
        | _, none => none
        | _, some (.int _) => none
        | false, _ => none
        | true, some _ => vappCase i m l s H
      | none => match P.underlying xT, x with
        | some (.int _), .sc (.int _ (.ofNat m)) => match Nat.beq zl.length i.size && (vzeros zl (m * i.size)).all VV.one && Nat.ble m 4611686018427387904 && Nat.ble (m * i.bytes) 140737488355328 with
          | true => vappCase i m (vzeros zl (m * i.size)) s H
          | false => none
        | _, _ => none
    | _, _ => none
  | _ => none
theorem size_zeroCells (z : Array Value) (n : Nat) : (Builtin.zeroCells z n).size = n * z.size := by simp [Builtin.zeroCells]
theorem Rel.drewRow (h : Rel B M Z ρ H w) {l : List VV} {xs : Array Value} (hl : Pre (VRel w Z ρ) l xs.toList) (t : TypeId) (fr : Nat × Nat) (hfr : fr.1 = fr.2 ∨ fr = (xs.size, xs.size + 1)) :
    ∃ ρ', Ext (own B M) H.next Z ρ w (H.add (.cells true l)).next Z ρ' (w.drew.alloc (.cells xs t fr)) ∧ Rel B M Z ρ' (H.add (.cells true l)) (w.drew.alloc (.cells xs t fr)) ∧ ρ' H.next = some (w.heap.size, xs.size) := by
  have h1 := h.drew
  have hl1 : Pre (VRel w.drew Z ρ) l xs.toList := hl.mono fun _ _ hh => hh.ext (Ext.drew (X := fun _ => False) (n := 0))
  obtain ⟨e, r⟩ := h1.alloc (.cells true l) (.cells xs t fr) xs.size ⟨xs, t, fr, rfl, rfl, hl1, hfr⟩
  exact ⟨_, Ext.drew.trans e, r, upd_self _ _⟩
theorem pre_app {R : VV → Value → Prop} {vs : List VV} {cs rest : List Value} (h : Pw R vs cs) : Pre R vs (cs ++ rest) := fun i u hu => by
  obtain ⟨c, hc, hr⟩ := h.get hu
  exact ⟨c, by rw [List.getElem?_append_left (List.getElem?_eq_some_iff.1 hc).1]; exact hc, hr⟩
theorem vappCase_core (h : Rel B M Z ρ H w) {sT xT ty e : TypeId} {i : TypeInfo} {zl l : List VV} {m : Nat} {s v : VV} {s' x' : Value} {xs : List Value} {H' : Heap} {zv : Value} (hz2 : ∀ (w : World) Z ρ, Pw (VRel w Z ρ) zl zv.cells.toList) (hzs : zl.length = i.size) (h1 : l.all VV.one = true) (p1 : Pw (VRel w Z ρ) l xs) (p2 : xs.length = m * i.size) (hs : VRel w Z ρ s s') (hv : vappCase i m l s H = some (v, H'))
    (hfit : ∀ (n c : Nat) (base : Option Addr) (w' : World), n + m ≤ c → (∀ a, base = some a → (storeCells (a.add (n * i.size)) xs).run P w = .ok () w') → (base = none → w' = w) → (Builtin.append_ #[sT, xT] ty #[.slice base n c, x']).run P w = .ok (.slice base (n + m) c) w')
    (hnew : ∀ (n c : Nat) (base : Option Addr) (os : List Value), (∀ W : World, W.heap = w.heap → (Builtin.firstCells i.size n (.slice base n c)).run P W = .ok os.toArray W) → c < n + m → (n + m) * i.bytes ≤ 140737488355328 → n + m ≤ 4611686018427387904 →
      ∃ cap rest, n + m ≤ cap ∧ (Builtin.append_ #[sT, xT] ty #[.slice base n c, x']).run P w = .ok (.slice (some ⟨w.heap.size, 0, none⟩) (n + m) cap) (w.drew.alloc (.cells (os.toArray ++ xs.toArray ++ rest) e)) ∧ rest = Builtin.zeroCells zv.cells (cap - (n + m))) :
    Does P B M H.next Z ρ w (Builtin.append_ #[sT, xT] ty #[s', x']) v H' := by
  have hone := pw_one h1 p1
  have hll := p1.1
  have hfit0 := hfit
  have empty : ∀ (n c : Nat) (base : Option Addr), m = 0 → n ≤ c → s' = .slice base n c → VRel w Z ρ v s' → H = H' → Does P B M H.next Z ρ w (Builtin.append_ #[sT, xT] ty #[s', x']) v H' := by
    intro n c base h0 hc e1 hs e3
    subst h0 e1 e3
    have hx0 : xs = [] := List.eq_nil_of_length_eq_zero (by simpa using p2)
    subst hx0
    have hst : ∀ a, base = some a → (storeCells (a.add (n * i.size)) ([] : List Value)).run P w = .ok () w := fun a _ => rfl
    have := hfit n c base w (show n + 0 ≤ c by omega) hst (fun _ => rfl)
    exact Does.same h this hs
  have fresh : ∀ (n c : Nat) (base : Option Addr) (os : List Value) (ol : List VV), s' = .slice base n c → Pw (VRel w Z ρ) ol os → os.length = n * i.size → (∀ W : World, W.heap = w.heap → (Builtin.firstCells i.size n (.slice base n c)).run P W = .ok os.toArray W) →
      c < n + m → (n + m) * i.bytes ≤ 140737488355328 → n + m ≤ 4611686018427387904 → ∀ (K : Heap), Rel B M Z ρ K w → K.next = H.next → v = .sl K.next 0 (n + m) none i.size → H' = K.add (.cells true (ol ++ l)) → Does P B M H.next Z ρ w (Builtin.append_ #[sT, xT] ty #[s', x']) v H' := by
    intro n c base os ol e1 hol hos ho hg hb h63 K hK hKn e2 e3
    subst e1 e2 e3
    obtain ⟨cap, rest, q1, q2, q3⟩ := hnew n c base os ho hg hb h63
    have hp : Pre (VRel w Z ρ) (ol ++ l) (os.toArray ++ xs.toArray ++ rest).toList := by
      simp only [Array.toList_append]
      exact pre_app (hol.append p1)
    obtain ⟨ρ', g1, g2, g3⟩ := Rel.drewRow hK hp e (0, 0) (.inl rfl)
    refine ⟨_, _, ρ', q2, hKn ▸ g1, g2, .sl g3 q1 (fun q e => by cases e) (fun _ => ?_)⟩
    have hzs : zv.cells.size = i.size := by have := (hz2 w Z ρ).1; simp at this; omega
    simp only [Array.size_append, List.size_toArray, q3, size_zeroCells, hzs, hos, p2, Nat.zero_add]
    rw [← Nat.add_mul, ← Nat.add_mul]
    exact Nat.mul_le_mul_right _ (by omega)
  unfold vappCase at hv
  split at hv
  · cases hs
    split at hv
    · rename_i h0
      simp at hv
      exact empty 0 0 none h0 (by omega) rfl (by rw [← hv.1]; exact .sc rfl) hv.2
    · rename_i h0
      split at hv
      · rename_i hc
        simp at hv
        refine fresh 0 0 none [] [] rfl Pw.nil (by simp) (fun W _ => by simp [Builtin.firstCells]) (by omega) (by simpa using hc.1) (by omega) H h rfl ?_ ?_
        · simp [hv.1]
        · simp [hv.2]
      · simp at hv
  · rename_i n vs
    split at hv
    · rename_i h0
      simp at hv
      cases hs with
      | ro hZ hn hlen hcell hrel => exact empty _ _ _ h0 hn rfl (by rw [← hv.1]; exact .ro hZ hn hlen hcell hrel) hv.2
      | ro0 => exact empty _ _ _ h0 (Nat.zero_le _) rfl (by rw [← hv.1]; exact .ro0) hv.2
    · simp at hv
  · rename_i b o n c z'
    cases hs with
    | @sl _ _ _ k N c' _ _ hk hn hcc hzz =>
      have := hcc c rfl
      subst this
      split at hv
      · rename_i h0
        simp at hv
        exact empty _ _ _ h0 hn rfl (by rw [← hv.1]; exact .sl hk hn hcc hzz) hv.2
      · rename_i h0
        split at hv
        · rename_i rw vs hb
          split at hv
          · rename_i hfit
            split at hv
            · split at hv
              · rename_i hle
                simp at hv
                obtain ⟨rfl, rfl⟩ := hv
                obtain ⟨g1, g2, g3⟩ := h.write (P := P) hb hk p1 hone (o + n * i.size) (by omega)
                refine ⟨_, _, ρ, hfit0 _ _ _ _ hfit (fun a ha => by cases ha; rw [add_mk]; exact g1) (fun e => by cases e), g2, g3, .sl hk hfit (fun q e => by cases e; rfl) (fun e => by cases e)⟩
              · simp at hv
            · simp at hv
          · rename_i hfit
            split at hv
            · rename_i hc
              simp at hv
              obtain ⟨ds, r1, r2, r3⟩ := h.read hb hk o (n * i.size) hc.1
              refine fresh n _ _ ds _ rfl r1 r2 (fun W hW => ?_) (by omega) hc.2.1 hc.2.2 H h rfl hv.1.symm hv.2.symm
              have := run_loadCells_list (P := P) W _ ds (fun j v hj => by rw [cell_same hW]; exact r3 j v hj)
              rw [r2] at this
              simpa [Builtin.firstCells] using this
            · simp at hv
        · simp at hv
  · rename_i b n z'
    cases hs with
    | @sl _ _ _ k N c' _ _ hk hn hcc hzz =>
      have hzz' := hzz rfl
      split at hv
      · rename_i h0
        simp at hv
        exact empty _ _ _ h0 hn rfl (by rw [← hv.1]; exact .sl hk hn hcc hzz) hv.2
      · rename_i h0
        split at hv
        · rename_i vs hb
          split at hv
          · rename_i hc
            obtain ⟨c1, c2, c3, c4⟩ := hc
            subst c1
            by_cases hfit : n + m ≤ c'
            · simp at hv
              obtain ⟨rfl, rfl⟩ := hv
              have hN : n * i.size + xs.length ≤ N := by
                rw [p2, ← Nat.add_mul]
                have := Nat.mul_le_mul_right i.size hfit
                omega
              obtain ⟨g1, g2, g3⟩ := h.grow (P := P) hb hk p1 hone (n * i.size) c2 hN
              refine ⟨_, _, _, hfit0 _ _ _ _ hfit (fun a ha => by cases ha; rw [add_mk, Nat.zero_add]; exact g1) (fun e => by cases e), g2, g3, .sl (upd_self _ _) hfit (fun q e => by cases e) (fun _ => hzz')⟩
            · simp at hv
              obtain ⟨ds, r1, r2, r3⟩ := h.read hb hk 0 (n * i.size) (by omega)
              refine fresh n _ _ ds _ rfl (by simpa using r1) r2 (fun W hW => ?_) (by omega) c3 c4 (H.del b) (h.del b) rfl ?_ ?_
              · have := run_loadCells_list (P := P) W _ ds (fun j v hj => by rw [cell_same hW]; exact r3 j v hj)
                rw [r2] at this
                simpa [Builtin.firstCells] using this
              · exact hv.1.symm
              · exact hv.2.symm
          · simp at hv
        · simp at hv
  · simp at hv
theorem vappCase_sound (h : Rel B M Z ρ H w) {sT xT ty e : TypeId} {i : TypeInfo} {zl l : List VV} {m : Nat} {d : TypeDesc} {s x v : VV} {s' x' : Value} {H' : Heap} (hu : P.underlying sT = some (.slice e)) (hi : P.info? e = some i) (hzl : vzero P e = some zl)
    (hel : velems i.size x H = some (m, l)) (hzs : zl.length = i.size) (h1 : l.all VV.one = true) (hxT : P.underlying xT = some d) (hd : ∀ k, d ≠ .int k) (hs : VRel w Z ρ s s') (hx : VRel w Z ρ x x') (hv : vappCase i m l s H = some (v, H')) :
    Does P B M H.next Z ρ w (Builtin.append_ #[sT, xT] ty #[s', x']) v H' := by
  obtain ⟨zv, hz1, hz2, _, i2, hi2, hz3⟩ := run_zeroValue hzl
  rw [hi] at hi2; injection hi2 with hi2; subst hi2
  have hsz : vsize P e = some i.size := by simp [vsize, hi]
  obtain ⟨xs, p1, p2, p3, p4⟩ := velems_sound (P := P) h hx hel
  have p4' : ∀ W : World, W.heap = w.heap → (Builtin.firstCells i.size m x').run P W = .ok xs.toArray W := fun W hW => by
    have := p4 m (Nat.le_refl _) W hW
    rwa [List.take_of_length_le (by omega)] at this
  exact vappCase_core h (e := e) hz2 hzs h1 p1 p2 hs hv (fun n c base w' hf hs hb => run_append_fit (ty := ty) hu hxT hd hsz p3 p4' hf hs hb) (fun n c base os => run_append_new (ty := ty) hu hxT hd hi hz3 p3 p4')
/-- As many zeros behind a slice. -/
theorem run_append_fit_z {sT xT ty e : TypeId} {kx k : IntKind} {i : TypeInfo} {zv : Value} {m n c : Nat} {base : Option Addr} (hu : P.underlying sT = some (.slice e)) (hx : P.underlying xT = some (.int k)) (hi : P.info? e = some i) (hzv : i.zero = some zv) (hzc : zv.cells.size = i.size) (hm : m ≤ 4611686018427387904) (hmb : m * i.bytes ≤ 140737488355328) (hfit : n + m ≤ c) {w' : World}
    (hs : ∀ a, base = some a → (storeCells (a.add (n * i.size)) (Builtin.zeroCells zv.cells m).toList).run P w = .ok () w') (hb : base = none → w' = w) :
    (Builtin.append_ #[sT, xT] ty #[.slice base n c, .int kx m]).run P w = .ok (.slice base (n + m) c) w' := by
  have hsz : vsize P e = some i.size := by simp [vsize, hi]
  have hwl : IntKind.i64.wrap (m : Int) = m := by rw [IntKind.wrap_i64]; omega
  have hb1 : ¬ (281474976710656 < (m : Int) * (i.bytes : Int)) := by
    have : ((m * i.bytes : Nat) : Int) ≤ 140737488355328 := by omega
    rw [Int.natCast_mul] at this
    omega
  have hb0 : ¬ ((m : Int) < 0) := by omega
  have hza : (if m * i.size = 0 then (#[] : Array Value) else Builtin.zeroCells zv.cells m) = Builtin.zeroCells zv.cells m := by
    split
    · rename_i h0
      symm
      apply Array.eq_empty_of_size_eq_zero
      rw [size_zeroCells, hzc, h0]
    · rfl
  by_cases h0 : m * i.size = 0
  · rw [if_pos h0] at hza
    cases base with
    | none =>
      have := hb rfl
      subst this
      simp [Builtin.append_, run_underlying hu, run_underlying hx, run_sizeOf hsz, typeInfo, hi, zeroValue, hzv, asInt, asIntOf, hwl, hb1, hb0, hfit, h0]
    | some a =>
      have hs := hs a rfl
      rw [← hza] at hs
      simp [Builtin.append_, run_underlying hu, run_underlying hx, run_sizeOf hsz, typeInfo, hi, zeroValue, hzv, asInt, asIntOf, hwl, hb1, hb0, hfit, h0]
      have hs' : (storeCells (a.add (n * i.size)) []).run P w = .ok () w' := by simpa using hs
      rw [hs']
      rfl
  · cases base with
    | none =>
      have := hb rfl
      subst this
      simp [Builtin.append_, run_underlying hu, run_underlying hx, run_sizeOf hsz, typeInfo, hi, zeroValue, hzv, asInt, asIntOf, hwl, hb1, hb0, hfit, h0]
    | some a =>
      have hs := hs a rfl
      simp [Builtin.append_, run_underlying hu, run_underlying hx, run_sizeOf hsz, typeInfo, hi, zeroValue, hzv, asInt, asIntOf, hwl, hb1, hb0, hfit, h0, hs]
theorem run_append_new_z {sT xT ty e : TypeId} {kx k : IntKind} {i : TypeInfo} {zv : Value} {m n c : Nat} {base : Option Addr} {os : List Value} (hu : P.underlying sT = some (.slice e)) (hx : P.underlying xT = some (.int k)) (hi : P.info? e = some i) (hzv : i.zero = some zv) (hzc : zv.cells.size = i.size) (hm : m ≤ 4611686018427387904) (hmb : m * i.bytes ≤ 140737488355328)
    (ho : ∀ W : World, W.heap = w.heap → (Builtin.firstCells i.size n (.slice base n c)).run P W = .ok os.toArray W) (hg : c < n + m) (hb : (n + m) * i.bytes ≤ 140737488355328) (h63 : n + m ≤ 4611686018427387904) :
    ∃ cap rest, n + m ≤ cap ∧ (Builtin.append_ #[sT, xT] ty #[.slice base n c, .int kx m]).run P w = .ok (.slice (some ⟨w.heap.size, 0, none⟩) (n + m) cap) (w.drew.alloc (.cells (os.toArray ++ (Builtin.zeroCells zv.cells m).toList.toArray ++ rest) e)) ∧ rest = Builtin.zeroCells zv.cells (cap - (n + m)) := by
  have hsz : vsize P e = some i.size := by simp [vsize, hi]
  have hwl : IntKind.i64.wrap (m : Int) = m := by rw [IntKind.wrap_i64]; omega
  have hb1 : ¬ (281474976710656 < (m : Int) * (i.bytes : Int)) := by
    have : ((m * i.bytes : Nat) : Int) ≤ 140737488355328 := by omega
    rw [Int.natCast_mul] at this
    omega
  have hb0 : ¬ ((m : Int) < 0) := by omega
  have hn : ¬ (n + m ≤ c) := by omega
  have h63' : ¬ (9223372036854775807 < ((n : Int) + (m : Int))) := by omega
  have h48 := growslice_fits hg hb
  have h48' : ¬ (281474976710656 < Builtin.nextslicecap (n + m) c * i.bytes) := by omega
  refine ⟨grownCap w (n + m) c e, _, Nat.le_add_right _ _, ?_, rfl⟩
  have ho1 := ho w.drew rfl
  by_cases h0 : m * i.size = 0
  · have hza : Builtin.zeroCells zv.cells m = #[] := by
      apply Array.eq_empty_of_size_eq_zero
      rw [size_zeroCells, hzc, h0]
    simp [Builtin.append_, run_underlying hu, run_underlying hx, run_sizeOf hsz, typeInfo, zeroValue, hi, hzv, asInt, asIntOf, hwl, hb1, hb0, hn, h63', h48', Question.forced, ho1, newRow, grownCap, h0, hza]
  · simp [Builtin.append_, run_underlying hu, run_underlying hx, run_sizeOf hsz, typeInfo, zeroValue, hi, hzv, asInt, asIntOf, hwl, hb1, hb0, hn, h63', h48', Question.forced, ho1, newRow, grownCap, h0]
theorem zeros_pw {zl : List VV} {zv : Value} {i : TypeInfo} {m : Nat} (hz2 : Pw (VRel w Z ρ) zl zv.cells.toList) (hzs : zl.length = i.size) : Pw (VRel w Z ρ) (vzeros zl (m * i.size)) (Builtin.zeroCells zv.cells m).toList ∧ (Builtin.zeroCells zv.cells m).toList.length = m * i.size ∧ zv.cells.size = i.size := by
  have hl : zv.cells.size = i.size := by have := hz2.1; simp at this; omega
  have := vzeros_rel (w := w) (Z := Z) (ρ := ρ) hz2 (m * i.size) (by
    rcases Nat.eq_zero_or_pos i.size with h | h
    · exact .inl (by rw [h]; rfl)
    · exact .inr (by omega))
  refine ⟨?_, by rw [Array.length_toList, size_zeroCells, hl], hl⟩
  unfold Builtin.zeroCells
  rw [hl] at *
  exact this
theorem hdel_set : ∀ (l : List (Nat × VObj)) (b : Nat) (x : VObj), hdel (hset l b x) b = hdel l b
  | [], _, _ => rfl
  | (k, o) :: r, b, x => by
    rcases beq_cases k b with ⟨h, e⟩ | ⟨h, e⟩
    · subst e
      simp only [hset, hdel, h]
    · simp only [hset, hdel, h]
      rw [hdel_set r b x]
theorem Heap.set_add (H : Heap) (x y : VObj) : (H.add x).set H.next y = H.add y := by
  have e : ∀ b, Nat.beq b b = true := Nat.beq_refl
  simp [Heap.add, Heap.set, hset, e]
/-- What is added to a slice that may be nil. -/
theorem vgrow_core (h : Rel B M Z ρ H w) {sT xT ty e : TypeId} {i : TypeInfo} {zl l vs : List VV} {m n b : Nat} {s' x' : Value} {xs : List Value} {zv : Value} (hz2 : ∀ (w : World) Z ρ, Pw (VRel w Z ρ) zl zv.cells.toList) (hzs : zl.length = i.size) (h1 : l.all VV.one = true) (p1 : Pw (VRel w Z ρ) l xs) (p2 : xs.length = m * i.size) (hs : VRel w Z ρ (.gs b n i.size) s') (hg : H.get b = some (.opt vs)) (hv : vs.length = n * i.size) (hb : (n + m) * i.bytes ≤ 140737488355328) (h63 : n + m ≤ 4611686018427387904)
    (hfit : ∀ (n c : Nat) (base : Option Addr) (w' : World), n + m ≤ c → (∀ a, base = some a → (storeCells (a.add (n * i.size)) xs).run P w = .ok () w') → (base = none → w' = w) → (Builtin.append_ #[sT, xT] ty #[.slice base n c, x']).run P w = .ok (.slice base (n + m) c) w')
    (hnew : ∀ (n c : Nat) (base : Option Addr) (os : List Value), (∀ W : World, W.heap = w.heap → (Builtin.firstCells i.size n (.slice base n c)).run P W = .ok os.toArray W) → c < n + m → (n + m) * i.bytes ≤ 140737488355328 → n + m ≤ 4611686018427387904 →
      ∃ cap rest, n + m ≤ cap ∧ (Builtin.append_ #[sT, xT] ty #[.slice base n c, x']).run P w = .ok (.slice (some ⟨w.heap.size, 0, none⟩) (n + m) cap) (w.drew.alloc (.cells (os.toArray ++ xs.toArray ++ rest) e)) ∧ rest = Builtin.zeroCells zv.cells (cap - (n + m))) :
    Does P B M H.next Z ρ w (Builtin.append_ #[sT, xT] ty #[s', x']) (.gs H.next (n + m) i.size) ((H.del b).add (.opt (vs ++ l))) := by
  have hone := pw_one h1 p1
  have hll := p1.1
  have hfit0 := hfit
  have empty : ∀ (n c : Nat) (base : Option Addr), m = 0 → n ≤ c → s' = .slice base n c → (Builtin.append_ #[sT, xT] ty #[s', x']).run P w = .ok s' w ∧ l = [] := by
    intro n c base h0 hc e1
    subst h0 e1
    have hx0 : xs = [] := List.eq_nil_of_length_eq_zero (by simpa using p2)
    subst hx0
    have hst : ∀ a, base = some a → (storeCells (a.add (n * i.size)) ([] : List Value)).run P w = .ok () w := fun a _ => rfl
    exact ⟨hfit0 n c base w (show n + 0 ≤ c by omega) hst (fun _ => rfl), List.eq_nil_of_length_eq_zero (by simpa using hll)⟩
  have fresh : ∀ (n c : Nat) (base : Option Addr) (os : List Value) (ol : List VV), s' = .slice base n c → Pw (VRel w Z ρ) ol os → os.length = n * i.size → (∀ W : World, W.heap = w.heap → (Builtin.firstCells i.size n (.slice base n c)).run P W = .ok os.toArray W) →
      c < n + m → (n + m) * i.bytes ≤ 140737488355328 → n + m ≤ 4611686018427387904 → Does P B M H.next Z ρ w (Builtin.append_ #[sT, xT] ty #[s', x']) (.gs H.next (n + m) i.size) ((H.del b).add (.opt (ol ++ l))) := by
    intro n c base os ol e1 hol hos ho hg hb h63
    subst e1
    obtain ⟨cap, rest, q1, q2, q3⟩ := hnew n c base os ho hg hb h63
    have hp : Pre (VRel w Z ρ) (ol ++ l) (os.toArray ++ xs.toArray ++ rest).toList := by
      simp only [Array.toList_append]
      exact pre_app (hol.append p1)
    obtain ⟨ρ', g1, g2, g3⟩ := Rel.drewRow (h.del b) hp e (0, 0) (.inl rfl)
    have g4 := g2.toOpt (b := H.next) (vs := ol ++ l) (by rw [Heap.get_add]; exact if_pos rfl)
    rw [show ((H.del b).add (.cells true (ol ++ l))).set H.next (.opt (ol ++ l)) = (H.del b).add (.opt (ol ++ l)) from Heap.set_add (H.del b) _ _] at g4
    refine ⟨_, _, ρ', q2, g1, g4, .gs g3 q1 ?_ (by omega)⟩
    have hzs : zv.cells.size = i.size := by have := (hz2 w Z ρ).1; simp at this; omega
    simp only [Array.size_append, List.size_toArray, q3, size_zeroCells, hzs, hos, p2]
    rw [← Nat.add_mul, ← Nat.add_mul]
    exact Nat.mul_le_mul_right _ (by omega)
  cases hs with
  | @gs0 _ _ a =>
    obtain rfl : vs = [] := List.eq_nil_of_length_eq_zero (by simpa using hv)
    by_cases h0 : m = 0
    · obtain ⟨r, rfl⟩ := empty 0 0 a h0 (Nat.le_refl _) rfl
      subst h0
      exact ⟨_, w, ρ, r, ⟨Nat.le_succ _, fun _ _ => rfl, fun _ h => h, fun _ _ h => h, fun _ _ => rfl, Nat.le_refl _, fun _ h => .inl h⟩, (h.del b).addGhost, .gs0⟩
    · refine fresh 0 0 a [] [] rfl Pw.nil (by simp) (fun W _ => ?_) (by omega) hb h63
      cases a with
      | none => simp [Builtin.firstCells]
      | some a => simp [Builtin.firstCells, loadCells, loadCellsFrom]
  | @gs _ _ k N c' _ hk hn hzz hne =>
    by_cases h0 : m = 0
    · obtain ⟨r, rfl⟩ := empty n c' _ h0 hn rfl
      subst h0
      obtain ⟨g1, g2⟩ := h.reopt hg hk
      rw [List.append_nil]
      exact ⟨_, w, _, r, g1, g2, .gs (upd_self _ _) hn hzz hne⟩
    · have h2 := h.toCells hg hk
      have hb2 : (H.set b (.cells true vs)).get b = some (.cells true vs) := by rw [Heap.get_set, if_pos rfl, hg]; rfl
      have hdd : (H.set b (.cells true vs)).del b = H.del b := by
        show Heap.mk _ _ = Heap.mk _ _
        rw [show (H.set b (.cells true vs)).objs = hset H.objs b (.cells true vs) from rfl, hdel_set]
        rfl
      have htk : vs.take (n * i.size) = vs := List.take_of_length_le (by omega)
      by_cases hfit : n + m ≤ c'
      · have hN : n * i.size + xs.length ≤ N := by
          rw [p2, ← Nat.add_mul]
          have := Nat.mul_le_mul_right i.size hfit
          omega
        obtain ⟨g1, g2, g3⟩ := h2.grow (P := P) hb2 hk p1 hone (n * i.size) (by omega) hN
        rw [hdd, htk] at g2 g3
        have g4 := g3.toOpt (b := H.next) (vs := vs ++ l) (by rw [Heap.get_add]; exact if_pos rfl)
        rw [show ((H.del b).add (.cells true (vs ++ l))).set H.next (.opt (vs ++ l)) = (H.del b).add (.opt (vs ++ l)) from Heap.set_add (H.del b) _ _] at g4
        exact ⟨_, _, _, hfit0 _ _ _ _ hfit (fun a ha => by cases ha; rw [add_mk, Nat.zero_add]; exact g1) (fun e => by cases e), g2, g4, .gs (upd_self _ _) hfit hzz (by omega)⟩
      · obtain ⟨ds, r1, r2, r3⟩ := h2.read hb2 hk 0 (n * i.size) (by omega)
        rw [List.drop_zero, htk] at r1
        refine fresh n c' _ ds vs rfl r1 r2 (fun W hW => ?_) (by omega) hb h63
        have := run_loadCells_list (P := P) W _ ds (fun j v hj => by rw [cell_same hW]; exact r3 j v hj)
        rw [r2] at this
        simpa [Builtin.firstCells] using this
theorem vgrow_sound (h : Rel B M Z ρ H w) {sT xT ty e : TypeId} {i : TypeInfo} {zl l vs : List VV} {m n b : Nat} {d : TypeDesc} {x : VV} {s' x' : Value} (hu : P.underlying sT = some (.slice e)) (hi : P.info? e = some i) (hzl : vzero P e = some zl)
    (hel : velems i.size x H = some (m, l)) (hzs : zl.length = i.size) (h1 : l.all VV.one = true) (hxT : P.underlying xT = some d) (hd : ∀ k, d ≠ .int k) (hs : VRel w Z ρ (.gs b n i.size) s') (hx : VRel w Z ρ x x') (hg : H.get b = some (.opt vs)) (hv : vs.length = n * i.size) (hb : (n + m) * i.bytes ≤ 140737488355328) (h63 : n + m ≤ 4611686018427387904) :
    Does P B M H.next Z ρ w (Builtin.append_ #[sT, xT] ty #[s', x']) (.gs H.next (n + m) i.size) ((H.del b).add (.opt (vs ++ l))) := by
  obtain ⟨zv, hz1, hz2, _, i2, hi2, hz3⟩ := run_zeroValue hzl
  rw [hi] at hi2; injection hi2 with hi2; subst hi2
  have hsz : vsize P e = some i.size := by simp [vsize, hi]
  obtain ⟨xs, p1, p2, p3, p4⟩ := velems_sound (P := P) h hx hel
  have p4' : ∀ W : World, W.heap = w.heap → (Builtin.firstCells i.size m x').run P W = .ok xs.toArray W := fun W hW => by
    have := p4 m (Nat.le_refl _) W hW
    rwa [List.take_of_length_le (by omega)] at this
  exact vgrow_core h (e := e) hz2 hzs h1 p1 p2 hs hg hv hb h63 (fun n c base w' hf hs hb => run_append_fit (ty := ty) hu hxT hd hsz p3 p4' hf hs hb) (fun n c base os => run_append_new (ty := ty) hu hxT hd hi hz3 p3 p4')
theorem vgrowZ_sound (h : Rel B M Z ρ H w) {sT xT ty e : TypeId} {i : TypeInfo} {zl vs : List VV} {m n b : Nat} {k kx : IntKind} {s' : Value} (hu : P.underlying sT = some (.slice e)) (hi : P.info? e = some i) (hzl : vzero P e = some zl)
    (hzs : zl.length = i.size) (h1 : (vzeros zl (m * i.size)).all VV.one = true) (hxT : P.underlying xT = some (.int k)) (hs : VRel w Z ρ (.gs b n i.size) s') (hg : H.get b = some (.opt vs)) (hv : vs.length = n * i.size) (hb : (n + m) * i.bytes ≤ 140737488355328) (h63 : n + m ≤ 4611686018427387904) :
    Does P B M H.next Z ρ w (Builtin.append_ #[sT, xT] ty #[s', .int kx m]) (.gs H.next (n + m) i.size) ((H.del b).add (.opt (vs ++ vzeros zl (m * i.size)))) := by
  obtain ⟨zv, hz1, hz2, _, i2, hi2, hz3⟩ := run_zeroValue hzl
  rw [hi] at hi2; injection hi2 with hi2; subst hi2
  obtain ⟨q1, q2, q3⟩ := zeros_pw (m := m) (hz2 w Z ρ) hzs
  have b4 : m * i.bytes ≤ 140737488355328 := Nat.le_trans (Nat.mul_le_mul_right _ (Nat.le_add_left m n)) hb
  exact vgrow_core h (e := e) hz2 hzs h1 q1 q2 hs hg hv hb h63 (fun n c base w' hf hs hb => run_append_fit_z (ty := ty) hu hxT hi hz3 q3 (by omega) b4 hf hs hb) (fun n c base os => run_append_new_z (ty := ty) hu hxT hi hz3 q3 (by omega) b4)
/-- A whole slice is one that may be nil. -/
theorem gs_of_full (h : Rel B M Z ρ H w) {b n z : Nat} {vs : List VV} {s' : Value} (hs : VRel w Z ρ (.sl b 0 n (some n) z) s') (hg : H.get b = some (.cells true vs)) (hv : vs.length = n * z) : Rel B M Z ρ (H.set b (.opt vs)) w ∧ VRel w Z ρ (.gs b n z) s' := by
  refine ⟨h.toOpt hg, ?_⟩
  cases hs with
  | @sl _ _ _ k N c' _ _ hk hn hc hz =>
    obtain rfl : c' = n := hc n rfl
    obtain ⟨k', N', cs, t, fr, g1, g2, g3, g4, g5⟩ := h.at_ hg
    rw [hk] at g1; injection g1 with g1; injection g1 with g1 g1'; subst g1 g1'
    have hle := g4.length
    by_cases h0 : c' = 0
    · subst h0; exact .gs0
    · exact .gs hk (Nat.le_refl _) (by simp at hle; omega) h0
theorem vappend_sound (h : Rel B M Z ρ H w) {sT xT ty : TypeId} {s x v : VV} {s' x' : Value} {H' : Heap} (hs : VRel w Z ρ s s') (hx : VRel w Z ρ x x') (hv : vappend P sT xT s x H = some (v, H')) :
    Does P B M H.next Z ρ w (Builtin.append_ #[sT, xT] ty #[s', x']) v H' := by
  unfold vappend at hv
  split at hv
  · rename_i e hu
    split at hv
    · rename_i i zl hi hzl
      split at hv
      · rename_i m l hel
        split at hv
        · simp at hv
        · simp at hv
        · simp at hv
        · rename_i d hnd hb hxT
          simp only [Bool.and_eq_true] at hb
          exact vappCase_sound h hu hi hzl hel (Nat.eq_of_beq_eq_true hb.1) hb.2 hxT (fun k e => by subst e; exact hnd _ rfl) hs hx hv
      · split at hv
        · rename_i kx k2 m hxT _
          split at hv
          · rename_i hb
            simp only [Bool.and_eq_true] at hb
            obtain ⟨⟨⟨b1, b2⟩, b3⟩, b4⟩ := hb
            cases hx
            obtain ⟨zv, hz1, hz2, _, i2, hi2, hz3⟩ := run_zeroValue hzl
            rw [hi] at hi2; injection hi2 with hi2; subst hi2
            obtain ⟨q1, q2, q3⟩ := zeros_pw (m := m) (hz2 w Z ρ) (Nat.eq_of_beq_eq_true b1)
            exact vappCase_core h (e := e) hz2 (Nat.eq_of_beq_eq_true b1) b2 q1 q2 hs hv (fun n c base w' hf hs hb => run_append_fit_z (ty := ty) hu hxT hi hz3 q3 (Nat.le_of_ble_eq_true b3) (Nat.le_of_ble_eq_true b4) hf hs hb) (fun n c base os => run_append_new_z (ty := ty) hu hxT hi hz3 q3 (Nat.le_of_ble_eq_true b3) (Nat.le_of_ble_eq_true b4))
          · simp at hv
        · simp at hv
    · simp at hv
  · simp at hv

/-- copy. -/
def vcopy (P : Program) (dT : TypeId) (d x : VV) (H : Heap) : Option (VV × Heap) := match P.underlying dT with
  | some (.slice e) => match vsize P e with
    | some z => match velems z x H with
      | some (m, l) => match d with
        | .sl b o n c _ => match H.get b with
          | some (.cells true vs) => match l.all VV.one with
            | true => if o + (l.take (Nat.min m n * z)).length ≤ vs.length then some (.sc (.int .i64 (Nat.min m n : Nat)), H.set b (.cells true (setRun vs o (l.take (Nat.min m n * z))))) else none
            | false => none
          | _ => none
        | _ => none
      | none => none
    | none => none
  | _ => none
theorem vcopy_sound (h : Rel B M Z ρ H w) {dT sT ty : TypeId} {d x v : VV} {d' x' : Value} {H' : Heap} (hd : VRel w Z ρ d d') (hx : VRel w Z ρ x x') (hv : vcopy P dT d x H = some (v, H')) :
    Does P B M H.next Z ρ w (Builtin.copy_ #[dT, sT] ty #[d', x']) v H' := by
  unfold vcopy at hv
  split at hv
  · rename_i e hu
    split at hv
    · rename_i z hz
      split at hv
      · rename_i m l hel
        split at hv
        · rename_i b o n c z'
          split at hv
          · rename_i vs hb
            split at hv
            · rename_i h1
              split at hv
              · rename_i hle
                simp at hv
                obtain ⟨rfl, rfl⟩ := hv
                cases hd with
                | sl hk hn hcc hzz =>
                  obtain ⟨xs, p1, p2, p3, p4⟩ := velems_sound (P := P) h hx hel
                  have hone := pw_one h1 p1
                  obtain ⟨g1, g2, g3⟩ := h.write (P := P) hb hk (p1.take (Nat.min m n * z)) (fun y hy => hone y (List.mem_of_mem_take hy)) o hle
                  refine ⟨_, _, ρ, ?_, g2, g3, .sc rfl⟩
                  simp [Builtin.copy_, run_underlying hu, run_sizeOf hz, p3, p4 (Nat.min m n) (Nat.min_le_left _ _) w rfl, g1, goInt]
              · simp at hv
            · simp at hv
          · simp at hv
        · simp at hv
      · simp at hv
    · simp at hv
  · simp at hv
def vlen (P : Program) (t : TypeId) (x : VV) : Option VV := match P.underlying t, x with
  | some (.slice _), .sl _ _ n _ _ => some (.sc (.int .i64 n))
  | some (.slice _), .ro n _ => some (.sc (.int .i64 n))
  | some (.slice _), .gs _ n _ => some (.sc (.int .i64 n))
  | _, _ => none
theorem vlen_sound (h : Rel B M Z ρ H w) {t ty : TypeId} {x v : VV} {x' : Value} (hx : VRel w Z ρ x x') (hv : vlen P t x = some v) : Does P B M H.next Z ρ w (Builtin.len_ #[t] ty #[x']) v H := by
  unfold vlen at hv
  split at hv
  · rename_i e b o n c z hu
    simp at hv
    subst hv
    cases hx with
    | sl => exact Does.same h (v' := .int .i64 n) (by simp [Builtin.len_, run_underlying hu, goInt]) (.sc rfl)
  · rename_i e n vs hu
    simp at hv
    subst hv
    cases hx with
    | ro => exact Does.same h (v' := .int .i64 n) (by simp [Builtin.len_, run_underlying hu, goInt]) (.sc rfl)
    | ro0 => exact Does.same h (v' := .int .i64 0) (by simp [Builtin.len_, run_underlying hu, goInt]) (.sc rfl)
  · rename_i e b n z hu
    simp at hv
    subst hv
    cases hx with
    | gs0 => exact Does.same h (v' := .int .i64 0) (by simp [Builtin.len_, run_underlying hu, goInt]) (.sc rfl)
    | gs => exact Does.same h (v' := .int .i64 n) (by simp [Builtin.len_, run_underlying hu, goInt]) (.sc rfl)
  · simp at hv

/-- clear, of a slice. -/
def vclear (P : Program) (t : TypeId) (x : VV) (H : Heap) : Option (VV × Heap) := match P.underlying t with
  | some (.slice e) => match vsize P e, vzero P e, x with
    | some z, some zl, .sl b o (n + 1) _ _ => match H.get b with
      | some (.cells true vs) => match Nat.beq zl.length z && zl.all VV.one && Nat.ble (o + (n + 1) * z) vs.length with
        | true => some (.tp [], H.set b (.cells true (setRun vs o (vzeros zl ((n + 1) * z)))))
        | false => none
      | _ => none
    | some _, some _, .sl _ _ 0 _ _ => some (.tp [], H)
    | some _, some _, .ro 0 _ => some (.tp [], H)
    | _, _, _ => none
  | _ => none
theorem zeroCells_eq (z : Array Value) (n : Nat) : Builtin.zeroCells z n = (Array.range (n * z.size)).map fun i => z[i % z.size]! := rfl
theorem vclear_sound (h : Rel B M Z ρ H w) {t ty : TypeId} {x v : VV} {x' : Value} {H' : Heap} (hx : VRel w Z ρ x x') (hv : vclear P t x H = some (v, H')) : Does P B M H.next Z ρ w (Builtin.clear_ #[t] ty #[x']) v H' := by
  unfold vclear at hv
  split at hv
  · rename_i e hu
    split at hv
    · rename_i z zl b o n c z' hz hzl
      split at hv
      · rename_i vs hb
        split at hv
        · rename_i hc
          simp only [Bool.and_eq_true] at hc
          have c1 := Nat.eq_of_beq_eq_true hc.1.1
          have c2 := Nat.le_of_ble_eq_true hc.2
          simp at hv
          obtain ⟨rfl, rfl⟩ := hv
          cases hx with
          | @sl _ _ _ k N c' _ _ hk hn hcc hzz =>
            obtain ⟨zv, hz1, hz2, hz3, _⟩ := run_zeroValue hzl
            have hsz : zv.cells.size = z := by have := (hz2 w Z ρ).1; simp at this; omega
            have hp : Pw (VRel w Z ρ) (vzeros zl ((n + 1) * z)) (Builtin.zeroCells zv.cells (n + 1)).toList := by
              rw [zeroCells_eq, hsz]
              have := vzeros_rel (hz2 w Z ρ) ((n + 1) * z) (by
                rcases Nat.eq_zero_or_pos z with h0 | h0
                · left; rw [h0]; simp
                · right; omega)
              rwa [hsz] at this
            have hone : ∀ y ∈ (Builtin.zeroCells zv.cells (n + 1)).toList, y.oneCell' = true := by
              intro y hy
              obtain ⟨i, hi, rfl⟩ := List.mem_iff_getElem.1 hy
              simp only [zeroCells_eq, Array.toList_map, Array.toList_range, List.getElem_map, List.getElem_range]
              rcases Nat.eq_zero_or_pos zv.cells.size with h0 | h0
              · simp [zeroCells_eq, h0] at hi
              · have hm : i % zv.cells.size < zv.cells.size := Nat.mod_lt _ h0
                have : zv.cells[i % zv.cells.size]! = zv.cells[i % zv.cells.size] := by simp [getElem!_def, hm]
                rw [this]
                exact hz3 _ (by simp)
            have hl := hp.1
            have hlz : (vzeros zl ((n + 1) * z)).length = (n + 1) * z := by
              rw [hl]; simp [zeroCells_eq, hsz]
            obtain ⟨g1, g2, g3⟩ := h.write (P := P) hb hk hp hone o (by omega)
            exact ⟨_, _, ρ, by simp [Builtin.clear_, run_underlying hu, hz1, g1]; rfl, g2, g3, VRel.undef⟩
        · simp at hv
      · simp at hv
    · simp at hv
      obtain ⟨rfl, rfl⟩ := hv
      cases hx
      exact Does.same h (v' := undef) (by simp [Builtin.clear_, run_underlying hu]; rfl) VRel.undef
    · simp at hv
      obtain ⟨rfl, rfl⟩ := hv
      cases hx with
      | ro => exact Does.same h (v' := undef) (by simp [Builtin.clear_, run_underlying hu]; rfl) VRel.undef
      | @ro0 a c' => cases a <;> exact Does.same h (v' := undef) (by simp [Builtin.clear_, run_underlying hu]; rfl) VRel.undef
    · simp at hv
  · simp at hv

/-- The bytes of cells. -/
def vbytes : List VV → Option (List UInt8)
  | [] => some []
  | .sc (.int .u8 k) :: r => match vbytes r with
    | some l => some (UInt8.ofNat k.toNat :: l)
    | none => none
  | _ => none
theorem vbytes_rel : ∀ {l : List VV} {bs : List UInt8} {xs : List Value}, vbytes l = some bs → Pw (VRel w Z ρ) l xs → ∃ ns : List Int, xs = ns.map (Value.int .u8) ∧ bs = ns.map (fun n => UInt8.ofNat n.toNat)
  | [], bs, xs, h, hp => by
    simp [vbytes] at h
    subst h
    exact ⟨[], by simpa using hp.1.symm, rfl⟩
  | v :: r, bs, [], h, hp => by have := hp.1; simp at this
  | v :: r, bs, x :: xs, h, hp => by
    have hv := hp.2 0 v x rfl rfl
    have ht : Pw (VRel w Z ρ) r xs := ⟨by have := hp.1; simpa using this, fun i u c hu hc => hp.2 (i + 1) u c (by simpa using hu) (by simpa using hc)⟩
    unfold vbytes at h
    split at h
    · rename_i e; cases e
    · rename_i k r' e
      injection e with e1 e2
      subst e1 e2
      split at h
      · rename_i l hl
        simp at h
        subst h
        cases hv
        obtain ⟨ns, rfl, rfl⟩ := vbytes_rel hl ht
        exact ⟨k :: ns, rfl, rfl⟩
      · simp at h
    · simp at h
theorem foldl_push : ∀ (ns : List Int) (s : ByteArray), ns.foldl (fun r n => r.push (UInt8.ofNat n.toNat)) s = ⟨s.data ++ (ns.map (fun n => UInt8.ofNat n.toNat)).toArray⟩
  | [], s => by cases s; simp
  | n :: r, s => by
    rw [List.foldl_cons, foldl_push r]
    cases s
    simp [ByteArray.push]
def vconvert (P : Program) (src dst : TypeId) (x : VV) (H : Heap) : Option (VV × Heap) := match P.underlying src, P.underlying dst with
  | some (.slice e), some .string => match P.underlying e with
    | some (.int .u8) => match x with
      | .sc (.slice none _ _) => some (.sc (.string ⟨#[]⟩), H)
      | .sl b o n c z => match velems 1 (.sl b o n c z) H with
        | some (_, l) => match vbytes l with
          | some bs => some (.sc (.string ⟨bs.toArray⟩), H)
          | none => none
        | none => none
      | .ro n vs => match velems 1 (.ro n vs) H with
        | some (_, l) => match vbytes l with
          | some bs => some (.sc (.string ⟨bs.toArray⟩), H)
          | none => none
        | none => none
      | .gs b n z => match velems 1 (.gs b n z) H with
        | some (_, l) => match vbytes l with
          | some bs => some (.sc (.string ⟨bs.toArray⟩), H)
          | none => none
        | none => none
      | _ => none
    | _ => none
  | some (.slice _), some (.slice e) => match Nat.beq src dst, P.underlying e, x with
    | true, some (.int .u8), .sl b o n c z => match H.get b with
      | some (.cells true _) => some (.sl b o n c z, H)
      | _ => none
    | _, _, _ => none
  | some .string, some (.slice e) => match P.underlying e, x with
    | some (.int .u8), .sc (.string s) => some (.sl H.next 0 s.size none 1, H.add (.cells true (s.data.toList.map fun b => .sc (.int .u8 b.toNat))))
    | _, _ => none
  | _, _ => none
theorem alloc_freeze (w : World) (c : Array Value) (t : TypeId) (n : Nat) : (w.alloc (.cells c t)).freeze ⟨w.heap.size, n, none⟩ 1 = w.alloc (.cells c t (n, n + 1)) := by
  have e : (w.heap.push (.cells c t)).modify w.heap.size (fun
      | .cells c elem (lo, hi) => .cells c elem (if lo == hi then (n, n + 1) else (min lo n, max hi (n + 1)))
      | o => o) = w.heap.push (.cells c t (n, n + 1)) := by
    apply Array.ext_getElem?
    intro i
    rw [Array.getElem?_modify]
    by_cases hi : w.heap.size = i
    · subst hi
      simp
    · rw [if_neg hi]
      simp [Array.getElem?_push, show ¬ i = w.heap.size by omega]
  simp only [World.freeze, World.alloc]
  rw [if_neg (by omega)]
  exact congrArg (fun h => World.mk h w.tape w.drawn w.os w.output) e
theorem run_bytes {src dst e : TypeId} (hs : P.underlying src = some (.slice e)) (hd : P.underlying dst = some .string) (he : P.underlying e = some (.int .u8)) {a : Option Addr} {n c : Nat} {xs : List Value} {l : List VV} {bs : List UInt8}
    (hl : Pw (VRel w Z ρ) l xs) (hb : vbytes l = some bs) (hlen : xs.length = n * 1) (hf : ∀ m, m ≤ n → ∀ W : World, W.heap = w.heap → (Builtin.firstCells 1 m (.slice a n c)).run P W = .ok (xs.take (m * 1)).toArray W) :
    (convert src dst (.slice a n c)).run P w = .ok (.string ⟨bs.toArray⟩) w := by
  obtain ⟨ns, rfl, rfl⟩ := vbytes_rel hb hl
  have p := hf n (Nat.le_refl _) w rfl
  rw [List.take_of_length_le (by omega)] at p
  rw [run_convert_bytes_string w src dst e a n c hs he hd]
  cases a with
  | none =>
    simp only [Builtin.firstCells, Sem.run_pure] at p
    injection p with p
    have : ns = [] := by
      have := congrArg Array.size p
      simp at this
      exact List.eq_nil_of_length_eq_zero this.symm
    subst this
    rfl
  | some a =>
    have p6 : (loadCells a n).run P w = .ok (ns.map (Value.int .u8)).toArray w := by
      simpa [Builtin.firstCells] using p
    rw [run_bytesToString w a n c ns p6, foldl_push]
    simp [ByteArray.empty, ByteArray.emptyWithCapacity]
    try rfl
theorem Rel.stringish (h : Rel B M Z ρ H w) {b : Nat} {vs : List VV} (hb : H.get b = some (.cells true vs)) {k N : Nat} (hk : ρ b = some (k, N)) (o : Nat) :
    ∃ w', (markStringish ⟨k, o, none⟩).run P w = .ok () w' ∧ Ext (own B M) H.next Z ρ w H.next Z ρ w' ∧ Rel B M Z ρ H w' := by
  obtain ⟨k', N', cs, t, fr, g1, g2, g3, g4, g5⟩ := h.at_ hb
  rw [hk] at g1; injection g1 with g1; injection g1 with g1 g1'; subst g1 g1'
  have hsh : w.shape? k = some (t, N) := by
    unfold World.shape?
    rw [g2]
    simp only []
    rw [g3]
  have hrun : (markStringish ⟨k, o, none⟩).run P w = .ok () (w.freeze ⟨k, N, none⟩ 1) := by
    unfold markStringish
    simp only [Sem.run_bind, shape, Sem.run, hsh, Result.andThen_ok]
    rfl
  have hat : (w.freeze ⟨k, N, none⟩ 1).heap[k]? = some (.cells cs t (if fr.1 == fr.2 then (N, N + 1) else (min fr.1 N, max fr.2 (N + 1)))) := by
    obtain ⟨lo, hi⟩ := fr
    simp only [World.freeze]
    rw [if_neg (by omega)]
    simp only [Array.getElem?_modify, if_true, g2, Option.map_some]
  have hne : ∀ j, j ≠ k → (w.freeze ⟨k, N, none⟩ 1).heap[j]? = w.heap[j]? := fun j hj => by
    simp only [World.freeze]
    rw [if_neg (by omega)]
    simp only [Array.getElem?_modify]
    rw [if_neg (fun e => hj e.symm)]
  have hs : (w.freeze ⟨k, N, none⟩ 1).heap.size = w.heap.size := by
    simp only [World.freeze]
    rw [if_neg (by omega)]
    simp
  have hz : ∀ j, Z j → j ≠ k := by
    intro j hj e
    obtain ⟨_, _, _, q1, _, _, q4, _⟩ := h.objC hb rfl
    rw [hk] at q1; injection q1 with q1; injection q1 with q1 _
    exact q4 (q1 ▸ e ▸ hj)
  have hfr : (if fr.1 == fr.2 then (N, N + 1) else (min fr.1 N, max fr.2 (N + 1))) = (N, N + 1) := by
    rcases g5 with g5 | rfl
    · simp [g5]
    · simp
  rw [hfr] at hat
  have e0 : Ext (own B M) 0 Z ρ w 0 Z ρ (w.freeze ⟨k, N, none⟩ 1) := ⟨Nat.le_refl _, fun _ _ => rfl, fun _ h => h, fun _ _ h => h, fun j hj => hne j (hz j hj), by omega, fun _ h => .inl h⟩
  obtain ⟨e1, r1⟩ := h.turn hb hk rfl rfl (w' := w.freeze ⟨k, N, none⟩ 1) (by simp only [World.freeze]; rw [if_neg (by omega)]) (by simp only [World.freeze]; rw [if_neg (by omega)]) (by simp only [World.freeze]; rw [if_neg (by omega)]) hs hne hat
    (y := .cells true vs) ⟨cs, t, _, rfl, g3, g4.mono fun _ _ hh => hh.ext e0, .inr rfl⟩
  refine ⟨_, hrun, e1, r1.weaken (H' := H) rfl fun c x hx => ?_⟩
  rw [Heap.get_set]
  split
  · rename_i e; subst e; rw [hb] at hx ⊢; exact hx
  · exact hx
theorem vconvert_sound (h : Rel B M Z ρ H w) {src dst : TypeId} {x v : VV} {x' : Value} {H' : Heap} (hx : VRel w Z ρ x x') (hv : vconvert P src dst x H = some (v, H')) : Does P B M H.next Z ρ w (convert src dst x') v H' := by
  unfold vconvert at hv
  split at hv
  · rename_i e hs hd
    split at hv
    · rename_i he
      split at hv
      · simp at hv
        obtain ⟨rfl, rfl⟩ := hv
        cases hx
        exact Does.same h (v' := .string .empty) (by simp [convert, run_underlying hs, run_underlying hd, run_underlying he, Conv.bytesToString]) (.sc rfl)
      · split at hv
        · rename_i n l hel
          split at hv
          · rename_i bs hbs
            simp at hv
            obtain ⟨rfl, rfl⟩ := hv
            obtain ⟨xs, p1, p2, p3, p4⟩ := velems_sound (P := P) h hx hel
            cases hx with
            | sl hk hn hc hz =>
              have := p3 w
              simp [Builtin.lenOf] at this
              subst this
              exact Does.same h (run_bytes hs hd he p1 hbs p2 p4) (.sc rfl)
          · simp at hv
        · simp at hv
      · split at hv
        · rename_i n l hel
          split at hv
          · rename_i bs hbs
            simp at hv
            obtain ⟨rfl, rfl⟩ := hv
            obtain ⟨xs, p1, p2, p3, p4⟩ := velems_sound (P := P) h hx hel
            cases hx with
            | ro hZ hn hlen hcell hrel =>
              have := p3 w
              simp [Builtin.lenOf] at this
              subst this
              exact Does.same h (run_bytes hs hd he p1 hbs p2 p4) (.sc rfl)
            | ro0 =>
              have := p3 w
              simp [Builtin.lenOf] at this
              subst this
              exact Does.same h (run_bytes hs hd he p1 hbs p2 p4) (.sc rfl)
          · simp at hv
        · simp at hv
      · split at hv
        · rename_i n l hel
          split at hv
          · rename_i bs hbs
            simp at hv
            obtain ⟨rfl, rfl⟩ := hv
            obtain ⟨xs, p1, p2, p3, p4⟩ := velems_sound (P := P) h hx hel
            cases hx with
            | gs0 =>
              have := p3 w
              simp [Builtin.lenOf] at this
              subst this
              exact Does.same h (run_bytes hs hd he p1 hbs p2 p4) (.sc rfl)
            | gs =>
              have := p3 w
              simp [Builtin.lenOf] at this
              subst this
              exact Does.same h (run_bytes hs hd he p1 hbs p2 p4) (.sc rfl)
          · simp at hv
        · simp at hv
      · simp at hv
    · simp at hv
  · rename_i e0 e hs hd
    split at hv
    · rename_i b o n c z hsd he
      have hsd := Nat.eq_of_beq_eq_true hsd
      subst hsd
      have hee := hs.symm.trans hd
      injection hee with hee
      injection hee with hee
      subst hee
      split at hv
      · rename_i vs hb
        simp at hv
        obtain ⟨rfl, rfl⟩ := hv
        cases hx with
        | @sl _ _ _ k N c' _ _ hk hn hcc hzz =>
          obtain ⟨w', g1, g2, g3⟩ := Rel.stringish (P := P) h hb hk o
          refine ⟨.slice (some ⟨k, o, none⟩) n c', w', ρ, ?_, g2, g3, .sl hk hn hcc hzz⟩
          simp [convert, run_underlying hs, run_underlying hd, run_underlying he, g1]
      · simp at hv
    · simp at hv
  · rename_i e hs hd
    split at hv
    · rename_i s he
      simp at hv
      obtain ⟨rfl, rfl⟩ := hv
      cases hx
      obtain ⟨cap, hcap, hcl⟩ : ∃ cap, (Question.appendCap s.size 0 e).cut (w.tape w.drawn (.appendCap s.size 0 e)) = cap ∧ s.size ≤ cap := ⟨_, rfl, Nat.le_add_right _ _⟩
      have hl : Pre (VRel w Z ρ) (s.data.toList.map fun (b : UInt8) => VV.sc (.int .u8 b.toNat)) (s.data.map (fun (b : UInt8) => Value.int .u8 b.toNat) ++ Array.replicate (cap - s.size) (Value.int .u8 0)).toList := by
        rw [Array.toList_append]
        refine pre_app ?_
        have := pw_sc (w := w) (Z := Z) (ρ := ρ) (l := s.data.toList.map fun b => Value.int .u8 b.toNat) (List.all_eq_true.2 (by intro x hx; obtain ⟨b, _, rfl⟩ := List.mem_map.1 hx; rfl))
        simpa [List.map_map, Function.comp_def] using this
      have hsz : (s.data.map (fun (b : UInt8) => Value.int .u8 b.toNat) ++ Array.replicate (cap - s.size) (Value.int .u8 0)).size = cap := by
        simp; exact Nat.add_sub_cancel' hcl
      obtain ⟨ρ', g1, g2, g3⟩ := Rel.drewRow h hl e (cap, cap + 1) (.inr (by rw [hsz]))
      refine ⟨.slice (some ⟨w.heap.size, 0, none⟩) s.size cap, _, ρ', ?_, g1, g2, .sl g3 hcl (fun q e => by cases e) (fun _ => by rw [hsz]; omega)⟩
      have hfz := alloc_freeze w.drew (s.data.map (fun (b : UInt8) => Value.int .u8 b.toNat) ++ Array.replicate (cap - s.size) (Value.int .u8 0)) e cap
      have hsh : (w.drew.alloc (.cells (s.data.map (fun (b : UInt8) => Value.int .u8 b.toNat) ++ Array.replicate (cap - s.size) (Value.int .u8 0)) e)).shape? w.heap.size = some (e, cap) := by
        have := heap_alloc_new' w.drew (.cells (s.data.map (fun (b : UInt8) => Value.int .u8 b.toNat) ++ Array.replicate (cap - s.size) (Value.int .u8 0)) e)
        unfold World.shape?
        rw [show w.heap.size = w.drew.heap.size from rfl, this]
        simp only []
        rw [hsz]
      have hch : (choose (.appendCap s.size 0 e)).run P w = .ok cap w.drew := by
        simp only [run_choose, Question.forced, hcap]; rfl
      have hrow : (newRow e (s.data.map (fun (b : UInt8) => Value.int .u8 b.toNat) ++ Array.replicate (cap - s.size) (Value.int .u8 0))).run P w.drew = .ok ⟨w.heap.size, 0, none⟩ (w.drew.alloc (.cells (s.data.map (fun (b : UInt8) => Value.int .u8 b.toNat) ++ Array.replicate (cap - s.size) (Value.int .u8 0)) e)) := by
        simp [newRow, newObj]; rfl
      have hmk : (markStringish ⟨w.heap.size, 0, none⟩).run P (w.drew.alloc (.cells (s.data.map (fun (b : UInt8) => Value.int .u8 b.toNat) ++ Array.replicate (cap - s.size) (Value.int .u8 0)) e)) = .ok () (w.drew.alloc (.cells (s.data.map (fun (b : UInt8) => Value.int .u8 b.toNat) ++ Array.replicate (cap - s.size) (Value.int .u8 0)) e (cap, cap + 1))) := by
        rw [← hfz]
        unfold markStringish
        simp only [Sem.run_bind, shape, Sem.run, hsh, Result.andThen_ok]
        rfl
      simp only [convert, Sem.run_bind, run_underlying hs, run_underlying hd, run_underlying he, Result.andThen_ok, Conv.stringToBytes, hch, hrow, hmk, Sem.run_pure]
    · simp at hv
  · simp at hv
end
end Go.Proofs.Ytbnemkdkeaiaoaa
