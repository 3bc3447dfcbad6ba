import Derived.Test.YtmmjgbdihgdekaaDoorG7
import Derived.Test.YtmmjgbdihgdekaaDoorE6
/- A block of the sum, at any names; the reckoner that knows it. -/
namespace Go.Proofs.YtmmjgbdihgdekaaDoor
open Go Go.RowKit
set_option linter.unusedSimpArgs false
set_option linter.unusedVariables false
set_option maxRecDepth 100000
set_option maxHeartbeats 4000000
def rdB : List VV → Option (List UInt8)
  | [] => some []
  | .sc (.int .u8 (.ofNat n)) :: r => match Nat.blt n 256 with
    | true => match rdB r with
      | some p => some (UInt8.ofNat n :: p)
      | none => none
    | false => none
  | _ => none
theorem rdB_eq : ∀ {l : List VV} {p : List UInt8}, rdB l = some p → l = p.map bV
  | [], p, h => by simp [rdB] at h; subst h; rfl
  | v :: r, p, h => by
    unfold rdB at h
    split at h
    · rename_i e; cases e
    · rename_i n r' e
      injection e with e1 e2
      subst e1 e2
      split at h
      · rename_i hn
        have hn : n < 256 := blt_iff.1 hn
        split at h
        · rename_i p' hp
          injection h with h
          subst h
          rw [rdB_eq hp]
          refine congrArg (· :: _) ?_
          show _ = VV.sc (.int .u8 ((UInt8.ofNat n).toNat : Int))
          rw [UInt8.toNat_ofNat', Nat.mod_eq_of_lt hn]
          rfl
        · cases h
      · cases h
    · cases h
/-- The struct's cells, read. -/
def rdS : List VV → Option (S8 × Value)
  | [.sc (.int .u32 (.ofNat a)), .sc (.int .u32 (.ofNat b)), .sc (.int .u32 (.ofNat c)), .sc (.int .u32 (.ofNat d)), .sc (.int .u32 (.ofNat e)), .sc (.int .u32 (.ofNat f)), .sc (.int .u32 (.ofNat g)), .sc (.int .u32 (.ofNat h)), _, .sc n] =>
    match Nat.blt a 4294967296 && Nat.blt b 4294967296 && Nat.blt c 4294967296 && Nat.blt d 4294967296 && Nat.blt e 4294967296 && Nat.blt f 4294967296 && Nat.blt g 4294967296 && Nat.blt h 4294967296 with
    | true => some (⟨a, b, c, d, e, f, g, h⟩, n)
    | false => none
  | _ => none
theorem rdS_eq {l : List VV} {s : S8} {n : Value} (h : rdS l = some (s, n)) : s.ok ∧ ∃ r, l = hV s r (.sc n) := by
  unfold rdS at h
  split at h
  · rename_i a b c d e f g hh r n'
    split at h
    · rename_i hb
      simp only [Bool.and_eq_true, blt_iff] at hb
      obtain ⟨⟨⟨⟨⟨⟨⟨h1, h2⟩, h3⟩, h4⟩, h5⟩, h6⟩, h7⟩, h8⟩ := hb
      injection h with h
      injection h with e1 e2
      subst e1 e2
      exact ⟨⟨h1, h2, h3, h4, h5, h6, h7, h8⟩, r, rfl⟩
    · cases h
  · cases h
theorem blockAt_call {H : Heap} {hb nm o : Nat} {s : S8} {r : VV} {n : Value} {vs : List VV} {p : List UInt8} (hs : s.ok) (hne : hb ≠ nm) (h1 : H.get hb = some (.cells true (hV s r (.sc n)))) (h2 : H.get nm = some (.cells true vs)) (hvs : ∀ v ∈ vs, Nameless v) (hp : (vs.drop o).take 64 = p.map bV) (h64 : p.length = 64) :
    VCall Tryd.prog 142 [.ptr hb 0, .sl nm o 64 none 1] H (fun v K => v = .tp [] ∧ K = ⟨(hb, .cells true (hV (compr s p) .junk (.sc n))) :: (nm, .cells true vs) :: restO [hb, nm] H.objs, H.next + 3⟩) := by
  refine VCall.live fun hlive => ?_
  have l1 := hlive _ _ h1
  have l2 := hlive _ _ h2
  have hv : ∀ i b, p[i]? = some b → vs[o + i]? = some (bV b) := fun i b hb => by
    have hi : i < 64 := by rw [← h64]; exact (List.getElem?_eq_some_iff.1 hb).1
    have := congrArg (fun l => l[i]?) hp
    simp only [List.getElem?_take_of_lt hi, List.getElem?_drop, List.getElem?_map, hb, Option.map_some] at this
    exact this
  have b1 : Nat.beq hb nm = false := by
    cases h : Nat.beq hb nm
    · rfl
    · exact absurd (Nat.eq_of_beq_eq_true h) hne
  have hm : ∀ x y : Nat, x ≠ y → Nat.beq x y = false := fun x y h => by
    cases hh : Nat.beq x y
    · rfl
    · exact absurd (Nat.eq_of_beq_eq_true hh) h
  have k1 : (⟨keepO [hb, nm] H.objs, H.next⟩ : Heap).get hb = some (.cells true (hV s r (.sc n))) := by
    show hget _ _ = _
    rw [hget_keepO]
    simp only [memN, Nat.beq_refl]
    exact h1
  have k2 : (⟨keepO [hb, nm] H.objs, H.next⟩ : Heap).get nm = some (.cells true vs) := by
    show hget _ _ = _
    rw [hget_keepO]
    simp only [memN, b1, Nat.beq_refl]
    exact h2
  refine VCall.at (n1 := 2) (O1 := [(0, .cells true (hV s .junk (.sc n))), (1, .cells true vs)]) [hb, nm] [(hb, 0), (nm, 1)] ?_ ?_ ?_ (block_call s hs .junk (.sc n) vs o p h64 hv) ?_
  · have : nodupB [hb, nm] = true := by simp [nodupB, b1]
    show (true && nodupB [hb, nm] && true) = true
    rw [this]
    rfl
  · refine ⟨?_, ?_, trivial⟩
    · refine ⟨_, k1, .cells ?_⟩
      exact .cons .sc (.cons .sc (.cons .sc (.cons .sc (.cons .sc (.cons .sc (.cons .sc (.cons .sc (.cons .junk (.cons .sc .nil)))))))))
    · exact ⟨_, k2, .cells (RenL.of hvs)⟩
  · exact .cons (.ptr (List.Mem.head _)) (.cons (.sl (List.Mem.tail _ (List.Mem.head _))) .nil)
  · rintro v K ⟨rfl, rfl⟩
    refine ⟨.tp [], [(hb, .cells true (hV (compr s p) .junk (.sc n))), (nm, .cells true vs)], ⟨?_, .undef, ?_⟩, ?_, rfl, rfl⟩
    · have e2 : nodupB [hb, nm] = true := by simp [nodupB, b1]
      have e3 : Nat.blt hb (H.next + 3) = true := blt_iff.2 (by omega)
      have e4 : Nat.blt nm (H.next + 3) = true := blt_iff.2 (by omega)
      have e5 : Nat.blt (H.next + 2) (H.next + 3) = true := blt_iff.2 (by omega)
      have e6 : Nat.blt (H.next + 1) (H.next + 3) = true := blt_iff.2 (by omega)
      have e7 : Nat.blt H.next (H.next + 3) = true := blt_iff.2 (by omega)
      have b2 : Nat.beq nm hb = false := hm _ _ (fun e => hne e.symm)
      show (wfR 0 (H.next + 3) [(4, H.next + 2), (3, H.next + 1), (2, H.next), (0, hb), (1, nm)] && nodupB (ksOf [(4, H.next + 2), (3, H.next + 1), (2, H.next), (0, hb), (1, nm)] 0 [(hb, VObj.cells true (hV (compr s p) .junk (.sc n))), (nm, VObj.cells true vs)]) && ((srcN [(4, H.next + 2), (3, H.next + 1), (2, H.next), (0, hb), (1, nm)] hb).isSome && ((srcN [(4, H.next + 2), (3, H.next + 1), (2, H.next), (0, hb), (1, nm)] nm).isSome && true)) && (true && (true && true))) = true
      simp only [wfR, srcN, ksOf, srcOf0, List.all_cons, List.all_nil, e3, e4, e5, e6, e7, hm (H.next + 2) hb (by omega), hm (H.next + 1) hb (by omega), hm H.next hb (by omega), hm (H.next + 2) nm (by omega), hm (H.next + 1) nm (by omega), hm H.next nm (by omega), hm hb nm hne, b2, hm (H.next + 1) (H.next + 2) (by omega), hm H.next (H.next + 2) (by omega), hm hb (H.next + 2) (by omega), hm nm (H.next + 2) (by omega), hm H.next (H.next + 1) (by omega), hm hb (H.next + 1) (by omega), hm nm (H.next + 1) (by omega), hm hb H.next (by omega), hm nm H.next (by omega), Nat.beq_refl]
      rfl
    · refine ⟨?_, ?_, trivial⟩
      · have e : srcOf (backR [(hb, 0), (nm, 1)] 2 H.next 3) 0 hb = some 0 := by
          show srcOf [(4, H.next + 2), (3, H.next + 1), (2, H.next), (0, hb), (1, nm)] 0 hb = some 0
          simp only [srcOf0, srcN, hm (H.next + 2) hb (by omega), hm (H.next + 1) hb (by omega), hm H.next hb (by omega), Nat.beq_refl]
        show (match srcOf (backR [(hb, 0), (nm, 1)] 2 H.next 3) 0 hb with
          | some a => _
          | none => _)
        rw [e]
        exact ⟨_, rfl, .cells (.cons .sc (.cons .sc (.cons .sc (.cons .sc (.cons .sc (.cons .sc (.cons .sc (.cons .sc (.cons .junk (.cons .sc .nil))))))))))⟩
      · have e : srcOf (backR [(hb, 0), (nm, 1)] 2 H.next 3) 0 nm = some 1 := by
          show srcOf [(4, H.next + 2), (3, H.next + 1), (2, H.next), (0, hb), (1, nm)] 0 nm = some 1
          simp only [srcOf0, srcN, hm (H.next + 2) nm (by omega), hm (H.next + 1) nm (by omega), hm H.next nm (by omega), hm hb nm hne, Nat.beq_refl]
        show (match srcOf (backR [(hb, 0), (nm, 1)] 2 H.next 3) 0 nm with
          | some a => _
          | none => _)
        rw [e]
        exact ⟨_, rfl, .cells (RenL.of hvs)⟩
    · have key : ∀ b, memN b [hb, nm] = true → memN b ((restO [hb, nm] H.objs).map (·.1)) = false := fun b hb2 => by
        cases hc : memN b ((restO [hb, nm] H.objs).map (·.1)) with
        | false => rfl
        | true =>
          have := memN_iff.1 hc
          obtain ⟨q, hq, rfl⟩ := List.mem_map.1 this
          have key2 : ∀ (l : List (Nat × VObj)), q ∈ restO [hb, nm] l → memN q.1 [hb, nm] = false := by
            intro l
            induction l with
            | nil => intro h; simp [restO] at h
            | cons x r ih =>
              obtain ⟨k, y⟩ := x
              intro h
              unfold restO at h
              cases hk : memN k [hb, nm] with
              | true => rw [hk] at h; exact ih h
              | false =>
                rw [hk] at h
                rcases List.mem_cons.1 h with rfl | h
                · exact hk
                · exact ih h
          rw [key2 _ hq] at hb2
          cases hb2
      simp only [List.all_cons, List.all_nil, key hb (by simp [memN, Nat.beq_refl]), key nm (by simp [memN, b1, Nat.beq_refl])]
      rfl
/-- Calls that are known: Clone of nothing, and a block. -/
def orcB : CallF := fun f args H => match Nat.beq f 70, args with
  | true, [.ro 0 []] => some (.ro 0 [], H)
  | _, _ => match Nat.beq f 142, args with
    | true, [.ptr hb 0, .sl nm o 64 none 1] => match Nat.beq hb nm, H.get hb, H.get nm with
      | false, some (.cells true cs), some (.cells true vs) => match rdS cs, rdB ((vs.drop o).take 64), vs.all scB with
        | some (s, n), some p, true => match Nat.beq p.length 64 with
          | true => some (.tp [], ⟨(hb, .cells true (hV (compr s p) .junk (.sc n))) :: (nm, .cells true vs) :: restO [hb, nm] H.objs, H.next + 3⟩)
          | false => none
        | _, _, _ => none
      | _, _, _ => none
    | _, _ => none
theorem orcB_ok : CallOK Tryd.prog orcB := by
  intro f args H v H' h
  unfold orcB at h
  split at h
  · rename_i hf
    have hf := Nat.eq_of_beq_eq_true hf
    simp at h
    obtain ⟨rfl, rfl⟩ := h
    rw [hf]
    exact clone_call [] H (by simp)
  · split at h
    · rename_i hb nm o hf _
      have hf := Nat.eq_of_beq_eq_true hf
      split at h
      · rename_i cs vs hne h1 h2
        split at h
        · rename_i s n p hs hp hv
          split at h
          · rename_i h64
            injection h with h
            injection h with e1 e2
            subst e1 e2
            obtain ⟨hok, r, rfl⟩ := rdS_eq hs
            rw [hf]
            exact blockAt_call hok (fun e => by subst e; rw [Nat.beq_refl] at hne; cases hne) h1 h2 (fun v hv' => scB_nameless (List.all_eq_true.1 hv v hv')) (rdB_eq hp) (Nat.eq_of_beq_eq_true h64)
          · cases h
        · cases h
      · cases h
    · cases h
end Go.Proofs.YtmmjgbdihgdekaaDoor

/- The fixed fact of layer 38, by reckoning; a block of the sum is known. -/
namespace Go.Proofs.YtmmjgbdihgdekaaDoor
open Go Go.RowKit
set_option maxRecDepth 100000
set_option maxHeartbeats 4000000
theorem lives38_run : isV (vcallO orcB Tryd.prog (vcodeO orcB Tryd.prog 80) 11 [] ⟨[], 0⟩) (.sc (.bool true)) = true := by kernel_rfl
theorem lives38_call (H : Heap) : VCall Tryd.prog 11 [] H (fun x K => x = .sc (.bool true) ∧ K = H) := VCall.closedO orcB_ok mixed 80 (by simp) lives38_run
end Go.Proofs.YtmmjgbdihgdekaaDoor

