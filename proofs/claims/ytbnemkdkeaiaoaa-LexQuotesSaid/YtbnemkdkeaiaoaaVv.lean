/- Functions of the library without a body, that look at bytes alone. Over any program. -/
import Derived.Test.YtbnemkdkeaiaoaaVx
namespace Go.Proofs.Ytbnemkdkeaiaoaa
open Go Go.RowKit
set_option linter.unusedSimpArgs false
set_option linter.unusedVariables false

/-- The rows that are known here. -/
def extRow (n : String) : Option (Array Value → Sem Value) :=
  if n = "internal/bytealg.IndexByteString" then some Extern.BytealgIndexByte.indexByte
  else if n = "internal/bytealg.IndexByte" then some Extern.BytealgIndexByte.indexByte
  else if n = "internal/bytealg.Count" then some Extern.BytealgCount.count
  else if n = "internal/bytealg.CountString" then some Extern.BytealgCount.count
  else if n = "internal/bytealg.Compare" then some Extern.BytealgCompare.compare
  else none
theorem extRow_find {fn : Func} {e : Array Value → Sem Value} (h : extRow fn.name = some e) (ho : fn.origin = "") : Extern.findNext fn = none ∧ Extern.find fn = some e ∧ ¬ fn.name = "runtime.NumGoroutine" := by
  obtain ⟨name, origin, targs, params, rts⟩ := fn
  simp only at h ho
  subst ho
  unfold extRow at h
  split at h
  · rename_i hn; subst hn; simp at h; subst h
    exact ⟨by kernel_rfl, by kernel_rfl, by simp⟩
  split at h
  · rename_i hn; subst hn; simp at h; subst h
    exact ⟨by kernel_rfl, by kernel_rfl, by simp⟩
  split at h
  · rename_i hn; subst hn; simp at h; subst h
    exact ⟨by kernel_rfl, by kernel_rfl, by simp⟩
  split at h
  · rename_i hn; subst hn; simp at h; subst h
    exact ⟨by kernel_rfl, by kernel_rfl, by simp⟩
  split at h
  · rename_i hn; subst hn; simp at h; subst h
    exact ⟨by kernel_rfl, by kernel_rfl, by simp⟩
  · simp at h

/-- An argument as such a row looks at it: bytes as a string. -/
def argB (H : Heap) (v : VV) : Option Value := match v with
  | .sc (.slice none _ _) => some (.string ⟨#[]⟩)
  | .sc (.string s) => some (.string s)
  | .sl b o n c z => match velems 1 (.sl b o n c z) H with
    | some (_, l) => match vbytes l with
      | some bs => some (.string ⟨bs.toArray⟩)
      | none => none
    | none => none
  | .ro n vs => match velems 1 (.ro n vs) H with
    | some (_, l) => match vbytes l with
      | some bs => some (.string ⟨bs.toArray⟩)
      | none => none
    | none => none
  | .gs b n z => match velems 1 (.gs b n z) H with
    | some (_, l) => match vbytes l with
      | some bs => some (.string ⟨bs.toArray⟩)
      | none => none
    | none => none
  | _ => none
/-- A row that looks at bytes, and at a byte; or at bytes and bytes. -/
def vextern (P : Program) (g : FuncId) (args : List VV) (H : Heap) : Option VV := match P.funcs[g]? with
  | some fn => match fn.body with
    | some _ => none
    | none => if fn.origin = "" then match extRow fn.name, args with
      | some e, [v, .sc (.int .u8 k)] => match argB H v with
        | some x => match pureRun P (e #[x, .int .u8 k]) with
          | some r => some (ofV r)
          | none => none
        | none => none
      | some e, [v, u] => match argB H v, argB H u with
        | some x, some y => match pureRun P (e #[x, y]) with
          | some r => some (ofV r)
          | none => none
        | _, _ => none
      | _, _ => none else none
  | none => none
section
variable {P : Program} {B : World} {M : Nat → Prop} {Z : Nat → Prop} {ρ : Nat → Option (Nat × Nat)} {w : World} {H : Heap}
theorem run_loadBytes : ∀ (ns : List Int) (a : Addr) (acc : ByteArray), (∀ j v, (ns.map (Value.int .u8))[j]? = some v → w.cell? (a.add j) = some v) → (Extern.Bytes.loadBytes a ns.length acc).run P w = .ok ⟨acc.data ++ (ns.map fun n => UInt8.ofNat n.toNat).toArray⟩ w
  | [], a, acc, _ => by simp [Extern.Bytes.loadBytes]
  | n :: r, a, acc, h => by
    have h0 := h 0 (.int .u8 n) rfl
    have ha : a.add 0 = a := by simp [Addr.add]
    rw [ha] at h0
    have hr : ∀ j v, (r.map (Value.int .u8))[j]? = some v → w.cell? ((a.add 1).add j) = some v := fun j v hv => by
      have := h (j + 1) v (by simpa using hv)
      have e : (a.add 1).add j = a.add (j + 1) := by
        unfold Addr.add
        by_cases hj : j = 0
        · simp [hj]
        · simp [hj]; omega
      rw [e]; exact this
    simp only [List.length_cons, Extern.Bytes.loadBytes, Sem.run_bind, run_load, h0, Result.andThen]
    rw [run_loadBytes r (a.add 1) _ hr]
    simp [ByteArray.push, Nat.toUInt8]
/-- The bytes of a slice, as such a row reads them. -/
theorem slice_bytes (h : Rel B M Z ρ H w) {v : VV} {y : Value} {n : Nat} {l : List VV} {bs : List UInt8} (hx : VRel w Z ρ v y) (hv : (∃ b o n c z, v = .sl b o n c z) ∨ (∃ n vs, v = .ro n vs) ∨ ∃ b n z, v = .gs b n z) (hel : velems 1 v H = some (n, l)) (hbs : vbytes l = some bs) :
    (Extern.Bytes.bytesOf y).run P w = .ok ⟨bs.toArray⟩ w ∧ ∃ A m c, y = .slice A m c := by
  have core : ∀ (a : Addr) (xs : List Value) (c : Nat), Pw (VRel w Z ρ) l xs → xs.length = n → (∀ j v, xs[j]? = some v → w.cell? (a.add j) = some v) → (Extern.Bytes.bytesOf (.slice (some a) n c)).run P w = .ok ⟨bs.toArray⟩ w := by
    intro a xs c p1 p2 p3
    obtain ⟨ns, rfl, rfl⟩ := vbytes_rel hbs p1
    simp only [List.length_map] at p2
    subst p2
    simp only [Extern.Bytes.bytesOf]
    rw [run_loadBytes ns a _ p3]
    simp [ByteArray.empty, ByteArray.emptyWithCapacity]
    try rfl
  rcases hv with ⟨b, o, n', c, z, rfl⟩ | ⟨n', vs, rfl⟩ | ⟨b, n', z, rfl⟩
  · unfold velems at hel
    simp only at hel
    split at hel
    · rename_i r vs hb
      split at hel
      · rename_i hle
        simp at hel
        obtain ⟨rfl, rfl⟩ := hel
        cases hx with
        | sl hk hn hc hzz =>
          obtain ⟨ds, g1, g2, g3⟩ := h.read hb hk o n' (by omega)
          exact ⟨core _ ds _ g1 g2 g3, _, _, _, rfl⟩
      · simp at hel
    · simp at hel
  · unfold velems at hel
    simp only at hel
    split at hel
    · rename_i hle
      simp at hel
      obtain ⟨rfl, rfl⟩ := hel
      cases hx with
      | @ro _ k o c' _ cs hZ hn hlen hcell hrel =>
        refine ⟨core _ cs _ ⟨hlen, hrel⟩ (by omega) (fun j v hj => ?_), _, _, _, rfl⟩
        have := (List.getElem?_eq_some_iff.1 hj).1
        rw [add_mk, hcell j this]
        exact hj
      | @ro0 a c' =>
        refine ⟨?_, _, _, _, rfl⟩
        have hb0 : bs = [] := by
          simpa [vbytes] using hbs.symm
        subst hb0
        cases a with
        | none => simp [Extern.Bytes.bytesOf]; rfl
        | some a => simp [Extern.Bytes.bytesOf, Extern.Bytes.loadBytes]; rfl
    · simp at hel
  · unfold velems at hel
    simp only at hel
    split at hel
    · rename_i vs hb
      split at hel
      · rename_i hle
        simp at hel
        obtain ⟨rfl, rfl⟩ := hel
        obtain ⟨hle, rfl⟩ := hle
        cases hx with
        | @gs0 _ _ a =>
          refine ⟨?_, _, _, _, rfl⟩
          obtain rfl : vs = [] := List.eq_nil_of_length_eq_zero (by simpa using hle)
          have hb0 : bs = [] := by
            simpa [vbytes] using hbs.symm
          subst hb0
          cases a with
          | none => simp [Extern.Bytes.bytesOf]; rfl
          | some a => simp [Extern.Bytes.bytesOf, Extern.Bytes.loadBytes]; rfl
        | gs hk hn hzz h0 =>
          have hb2 : (H.set b (.cells true vs)).get b = some (.cells true vs) := by rw [Heap.get_set, if_pos rfl, hb]; rfl
          obtain ⟨ds, g1, g2, g3⟩ := (h.toCells hb hk).read hb2 hk 0 n' (by omega)
          rw [List.drop_zero, List.take_of_length_le (by omega)] at g1
          exact ⟨core _ ds _ g1 g2 g3, _, _, _, rfl⟩
      · simp at hel
    · simp at hel
/-- What every row makes of its first argument: bytes. -/
theorem argB_bytes (h : Rel B M Z ρ H w) {v : VV} {x y : Value} (hv : argB H v = some x) (hx : VRel w Z ρ v y) : (Extern.Bytes.bytesOf y).run P w = (Extern.Bytes.bytesOf x).run P w := by
  unfold argB at hv
  split at hv
  · simp at hv
    subst hv
    cases hx
    rfl
  · simp at hv
    subst hv
    cases hx
    rfl
  · split at hv
    · rename_i n l hel
      split at hv
      · rename_i bs hbs
        simp at hv
        subst hv
        exact (slice_bytes (P := P) h hx (.inl ⟨_, _, _, _, _, rfl⟩) hel hbs).1
      · simp at hv
    · simp at hv
  · split at hv
    · rename_i n l hel
      split at hv
      · rename_i bs hbs
        simp at hv
        subst hv
        exact (slice_bytes (P := P) h hx (.inr (.inl ⟨_, _, rfl⟩)) hel hbs).1
      · simp at hv
    · simp at hv
  · split at hv
    · rename_i n l hel
      split at hv
      · rename_i bs hbs
        simp at hv
        subst hv
        exact (slice_bytes (P := P) h hx (.inr (.inr ⟨_, _, _, rfl⟩)) hel hbs).1
      · simp at hv
    · simp at hv
  · simp at hv
theorem ib_eq (b c : Value) : Extern.BytealgIndexByte.indexByte #[b, c] = (do
    let b ← Extern.Bytes.bytesOf b
    let c ← Extern.Bytes.asByte c
    match (List.range b.size).find? fun i => b[i]! == c with
    | some i => pure (goInt i)
    | none => pure (goInt (-1))) := rfl
theorem ct_eq (b c : Value) : Extern.BytealgCount.count #[b, c] = (do
    let b ← Extern.Bytes.bytesOf b
    let c ← Extern.Bytes.asByte c
    pure (goInt (b.foldl (fun n x => if x == c then n + 1 else n) (0 : Nat)))) := rfl
theorem cp_eq (b c : Value) : Extern.BytealgCompare.compare #[b, c] = (do pure (goInt (Extern.BytealgCompare.cmp (← Extern.Bytes.bytesOf b) (← Extern.Bytes.bytesOf c)))) := rfl
theorem extRow_cases {n : String} {e : Array Value → Sem Value} (he : extRow n = some e) : e = Extern.BytealgIndexByte.indexByte ∨ e = Extern.BytealgCount.count ∨ e = Extern.BytealgCompare.compare := by
  unfold extRow at he
  split at he
  · simp at he; exact .inl he.symm
  split at he
  · simp at he; exact .inl he.symm
  split at he
  · simp at he; exact .inr (.inl he.symm)
  split at he
  · simp at he; exact .inr (.inl he.symm)
  split at he
  · simp at he; exact .inr (.inr he.symm)
  · simp at he
theorem argB_string {v : VV} {x : Value} (h : argB H v = some x) : ∃ s, x = .string s := by
  unfold argB at h
  split at h
  · simp at h; exact ⟨_, h.symm⟩
  · simp at h; exact ⟨_, h.symm⟩
  · split at h
    · split at h
      · simp at h; exact ⟨_, h.symm⟩
      · simp at h
    · simp at h
  · split at h
    · split at h
      · simp at h; exact ⟨_, h.symm⟩
      · simp at h
    · simp at h
  · split at h
    · split at h
      · simp at h; exact ⟨_, h.symm⟩
      · simp at h
    · simp at h
  · simp at h
theorem extRow_one (h : Rel B M Z ρ H w) {n : String} {e : Array Value → Sem Value} (he : extRow n = some e) {v : VV} {k : Int} {x y r : Value} (ha : argB H v = some x) (hx : VRel w Z ρ v y) (hr : pureRun P (e #[x, .int .u8 k]) = some r) : (e #[y, .int .u8 k]).run P w = .ok r w := by
  have hr := pureRun_sound w hr
  have hb := argB_bytes (P := P) h ha hx
  rcases extRow_cases he with rfl | rfl | rfl
  · rw [ib_eq] at hr ⊢
    simp only [Sem.run_bind] at hr ⊢
    rw [hb]
    exact hr
  · rw [ct_eq] at hr ⊢
    simp only [Sem.run_bind] at hr ⊢
    rw [hb]
    exact hr
  · rw [cp_eq] at hr ⊢
    simp only [Sem.run_bind] at hr ⊢
    rw [hb]
    exact hr
theorem extRow_two (h : Rel B M Z ρ H w) {v u : VV} {x y p q r : Value} (ha : argB H v = some x) (hx : VRel w Z ρ v y) (hb : argB H u = some p) (hu : VRel w Z ρ u q) (hr : pureRun P (Extern.BytealgCompare.compare #[x, p]) = some r) : (Extern.BytealgCompare.compare #[y, q]).run P w = .ok r w := by
  have hr := pureRun_sound w hr
  have h1 := argB_bytes (P := P) h ha hx
  have h2 := argB_bytes (P := P) h hb hu
  rw [cp_eq] at hr ⊢
  simp only [Sem.run_bind] at hr ⊢
  rw [h1]
  obtain ⟨s, rfl⟩ := argB_string ha
  rw [show Extern.Bytes.bytesOf (.string s) = pure s from rfl] at hr ⊢
  simp only [Sem.run_pure, Result.andThen_ok] at hr ⊢
  rw [h2]
  exact hr
theorem VOne.extern {o : Oper} {ts : List VV} {f : Operand} {args : Array Operand} {ats : Array TypeId} (ho : o.op = .call ⟨.value f, args, ats⟩) {g : FuncId} (hf : veval ts f = .fn (.func g) [] []) {v : VV}
    (hv : vextern P g (args.toList.map (veval ts)) H = some v) : VOne P o ts H (fun x K => x = v ∧ K = H) := fun B M Z ρ a w rr K QE h1 h2 h3 => by
  have hnd : ∀ c, o.op ≠ .defer c := fun c e => by simp [ho] at e
  refine ⟨fun f _ => FW_fn _ f, ?_⟩
  rw [Oper.semAt_eq _ _ _ hnd]
  have hfr := veval_rel h2 f
  rw [hf] at hfr
  generalize hfe : a.eval f = u at hfr
  have hp : Pw (VRel w Z ρ) (args.toList.map (veval ts)) (args.map a.eval).toList := by rw [Array.toList_map]; exact pw_evals h2 _
  cases hfr with
  | @fn _ _ _ cs ds g1 r1 g2 r2 =>
    obtain rfl : cs = #[] := by
      have : cs.toList = [] := List.eq_nil_of_length_eq_zero g1.symm
      simpa using this
    obtain rfl : ds = #[] := by
      have : ds.toList = [] := List.eq_nil_of_length_eq_zero g2.symm
      simpa using this
    unfold vextern at hv
    split at hv
    · rename_i fn hfn
      split at hv
      · simp at hv
      · rename_i hbody
        split at hv
        · rename_i horg
          have fin : ∀ (e : Array Value → Sem Value) (r : Value), extRow fn.name = some e → (e (args.map a.eval)).run P w = .ok r w → v = ofV r → Oper.uponIn (FW rr) 0 P o a K QE ((execOp a.eval o).run P w) := by
            intro e r he hr hvr
            obtain ⟨n1, n2, n3⟩ := extRow_find he horg
            have hrun : (execOp a.eval o).run P w = .ok (.value r) w := by
              have e1 : (#[] : Array Value) ++ args.map a.eval = args.map a.eval := by simp
              have e2 : args.map a.eval ++ #[] = args.map a.eval := by simp
              simp only [execOp, ho, resolve, hfe, Deferred.ofValue, Sem.run_bind, Sem.run_pure, Result.andThen_ok, invoke, e1, e2, callFunc, run_program, hfn]
              rw [if_neg (by simpa using n3)]
              simp [hbody, n1, n2, hr]
            rw [hrun]
            exact h3 r v H Z ρ w ⟨rfl, rfl⟩ (Ext.refl _ _ _ _) h1 (hvr ▸ ofV_rel r)
          split at hv
          · rename_i e v0 k he hargs
            split at hv
            · rename_i x hx
              split at hv
              · rename_i r hr
                simp at hv
                rw [hargs] at hp
                obtain ⟨y1, y2, hy⟩ : ∃ y1 y2, (args.map a.eval) = #[y1, y2] := by
                  have hl := hp.1
                  generalize args.map a.eval = ys at hl
                  obtain ⟨ys⟩ := ys
                  match ys, hl with
                  | [y1, y2], _ => exact ⟨y1, y2, rfl⟩
                rw [hy] at hp
                have q1 := hp.2 0 _ y1 rfl rfl
                have q2 := hp.2 1 _ y2 rfl rfl
                cases q2
                exact fin e r he (by rw [hy]; exact extRow_one h1 he hx q1 hr) hv.symm
              · simp at hv
            · simp at hv
          · rename_i e v0 u0 hne he hargs
            split at hv
            · rename_i x y hx hy0
              split at hv
              · rename_i r hr
                simp at hv
                rw [hargs] at hp
                obtain ⟨y1, y2, hy⟩ : ∃ y1 y2, (args.map a.eval) = #[y1, y2] := by
                  have hl := hp.1
                  generalize args.map a.eval = ys at hl
                  obtain ⟨ys⟩ := ys
                  match ys, hl with
                  | [y1, y2], _ => exact ⟨y1, y2, rfl⟩
                rw [hy] at hp
                have q1 := hp.2 0 _ y1 rfl rfl
                have q2 := hp.2 1 _ y2 rfl rfl
                obtain ⟨s1, rfl⟩ := argB_string hx
                obtain ⟨s2, rfl⟩ := argB_string hy0
                rcases extRow_cases he with rfl | rfl | rfl
                · exact absurd hr (by rw [show pureRun P (Extern.BytealgIndexByte.indexByte #[.string s1, .string s2]) = none from rfl]; simp)
                · exact absurd hr (by rw [show pureRun P (Extern.BytealgCount.count #[.string s1, .string s2]) = none from rfl]; simp)
                · exact fin _ r he (by rw [hy]; exact extRow_two h1 hx q1 hy0 q2 hr) hv.symm
              · simp at hv
            · simp at hv
          · simp at hv
        · simp at hv
    · simp at hv
end
end Go.Proofs.Ytbnemkdkeaiaoaa
