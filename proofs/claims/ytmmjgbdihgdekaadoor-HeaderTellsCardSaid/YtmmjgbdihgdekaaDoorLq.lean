import Derived.Shelf.Spec.DecodeRune
import Derived.Below
import Derived.Test.YtmmjgbdihgdekaaDoorProg
import Derived.Test.YtmmjgbdihgdekaaDoorChecked
import Derived.Shelf.Spec.BytesIndexFunc
import Derived.Lib.IndexAny
import Derived.Lib.IndexEntry
import Derived.Lib.OthersKept
import Derived.WalkKit
import Derived.WalkSpells
import Derived.WalkLawsBesides
import Derived.Test.YtmmjgbdihgdekaaDoorF3
import Derived.Test.YtmmjgbdihgdekaaDoorJ4
import Derived.Test.YtmmjgbdihgdekaaDoorJ5
import Derived.Test.YtmmjgbdihgdekaaDoorVn
import Derived.Test.YtmmjgbdihgdekaaDoorVc
import Derived.Test.YtmmjgbdihgdekaaDoorRows
import Derived.Lib.LaidU8T
import Derived.PinnedBridge
import Derived.Shelf.Vars
import Derived.Test.YtmmjgbdihgdekaaDoorCards
import Derived.Test.YtmmjgbdihgdekaaDoorTie
import Derived.Test.YtmmjgbdihgdekaaDoorV5
import Derived.ProofKit
import Derived.OpenShut
import Derived.ShutString
import Derived.ChangeOld
import Derived.Lib.SmallJoins
import Derived.Deep.DeepHandedRow
import Derived.Lib.LaidTab
/-
  DERIVED: THE SHELF's CONTRACTS AT THIS DUMP, IN PLAIN WORDS (tools/lay-plain.mjs out of 'TrydDec.lean', which tools/lay-shelf.mjs wrote): THE SAME DECLARATIONS UNDER THE SAME NAMES: 'import', 'namespace', 'open', 'def', 'theorem' AND NOTHING ELSE: no command of the shelf's: FOR A HAND-IN. Each laying: the table of numbers ('.._ren') and one theorem, a field a fact of the dump's own or the kernel's comparison; each contract: ONE APPLICATION.
-/
namespace Go.Proofs
open Go.Shelf
def Tryd.lays32d_ren : Go.Shelf.Ren := ⟨fun | 32 => 185 | 49 => 210 | n => n, fun | 30 => 22 | 21 => 21 | 3 => 3 | 0 => 0 | 5 => 5 | 4 => 4 | 33 => 205 | 66 => 233 | 25 => 88 | 69 => 236 | 68 => 235 | n => n, fun | 2 => 1 | 3 => 2 | n => n⟩
theorem Tryd.lays32d : Go.Proofs.Lays7.n32 Tryd.prog Tryd.lays32d_ren := {
  mixed := by kernel_rfl
  f32 := Tryd.func185.trans (congrArg some (by kernel_rfl))
  f49 := Tryd.func210.trans (congrArg some (by kernel_rfl))
  t0 := Tryd.underlying0
  a0 := Tryd.isAgg0
  z0 := Tryd.sizeOf0
  v0 := Tryd.zeroValue0
  i0 := by kernel_rfl
  t3 := Tryd.underlying3
  a3 := Tryd.isAgg3
  z3 := Tryd.sizeOf3
  v3 := Tryd.zeroValue3
  i3 := by kernel_rfl
  t4 := Tryd.underlying4
  a4 := Tryd.isAgg4
  z4 := Tryd.sizeOf4
  v4 := Tryd.zeroValue4
  i4 := by kernel_rfl
  t5 := Tryd.underlying5
  a5 := Tryd.isAgg5
  z5 := Tryd.sizeOf5
  v5 := Tryd.zeroValue5
  i5 := by kernel_rfl
  t21 := Tryd.underlying21
  a21 := Tryd.isAgg21
  z21 := Tryd.sizeOf21
  v21 := Tryd.zeroValue21
  i21 := by kernel_rfl
  t25 := Tryd.underlying88
  a25 := Tryd.isAgg88
  z25 := Tryd.sizeOf88
  v25 := Tryd.zeroValue88
  i25 := by kernel_rfl
  t30 := Tryd.underlying22
  a30 := Tryd.isAgg22
  z30 := Tryd.sizeOf22
  v30 := Tryd.zeroValue22
  i30 := by kernel_rfl
  t33 := Tryd.underlying205
  a33 := Tryd.isAgg205
  z33 := Tryd.sizeOf205
  v33 := Tryd.zeroValue205
  i33 := by kernel_rfl
  t66 := Tryd.underlying233
  a66 := Tryd.isAgg233
  z66 := Tryd.sizeOf233
  t68 := Tryd.underlying235
  a68 := Tryd.isAgg235
  z68 := Tryd.sizeOf235
  v68 := Tryd.zeroValue235
  i68 := by kernel_rfl
  t69 := Tryd.underlying236
  a69 := Tryd.isAgg236
  z69 := Tryd.sizeOf236
  v69 := Tryd.zeroValue236
  i69 := by kernel_rfl
  g2 := by kernel_rfl
  g3 := by kernel_rfl }
end Go.Proofs

/- bytes.IndexAny of "\r\n", at texts of 2 to 8 bytes, in the world: what no walk of ours covers (DecodeRune, a range over a string). -/
namespace Go.Proofs.YtmmjgbdihgdekaaDoor
open Go.Shelf Go.RowKit Go.Lib
set_option linter.unusedSimpArgs false
set_option linter.unusedVariables false
theorem decRune (s : ByteArray) (b off cap : Nat) (w : World) (hT : Lib.Utf8Tabs 1 2 w)
    (hp : ∀ j, j < s.size → w.cell? ⟨b, off + j, none⟩ = some (.int .u8 (s.get! j).toNat)) :
    Calls Tryd.prog 185 #[.slice (some ⟨b, off, none⟩) s.size cap] w fun e w' => e = .returned (.tuple #[.int .i32 (Lib.decodeGo s).1, .int .i64 (Lib.decodeGo s).2]) ∧ Below w.heap.size w w' := Any7.utf8_DecodeRune Tryd.lays32d s b off cap w hT hp
theorem sh208 (n : Int) (w : World) : Calls Tryd.prog 208 #[.int .i64 n] w fun e w' => e = .returned (.bool (decide (8 < n))) ∧ w' = w := by
  go_enter Tryd.func208, Tryd.ntmps208
  go_wp2
  go_ret
  exact ⟨rfl, rfl⟩
theorem dec_facts (s : ByteArray) (p : Nat) (hp : p < s.size) (h : 128 ≤ (s.get! p).toNat) :
    128 ≤ (Utf8.decode s p).1 ∧ 1 ≤ (Utf8.decode s p).2 ∧ p + (Utf8.decode s p).2 ≤ s.size ∧ (∀ j, p ≤ j → j < p + (Utf8.decode s p).2 → 128 ≤ (s.get! j).toNat) ∧ ((Utf8.decode s p).1 = 65533 ∨ ((Utf8.decode s p).2 = 2 ∧ (Utf8.decode s p).1 < 2048) ∨ ((Utf8.decode s p).2 = 3 ∧ 2048 ≤ (Utf8.decode s p).1 ∧ (Utf8.decode s p).1 < 65536 ∧ Utf8.valid (Utf8.decode s p).1 = true) ∨ ((Utf8.decode s p).2 = 4 ∧ 65536 ≤ (Utf8.decode s p).1 ∧ Utf8.valid (Utf8.decode s p).1 = true)) := by
  have hc : ∀ k, (decide (p + k < s.size) && (s.get! (p + k)).toNat / 64 == 2) = true → p + k < s.size ∧ 128 ≤ (s.get! (p + k)).toNat ∧ (s.get! (p + k)).toNat < 192 := by
    intro k hk
    simp only [Bool.and_eq_true, decide_eq_true_eq, beq_iff_eq] at hk
    omega
  have h0 : (s.get! (p + 0)).toNat = (s.get! p).toNat := rfl
  unfold Utf8.decode
  simp only [h0]
  rw [if_neg (by omega)]
  have one : ∀ j, p ≤ j → j < p + 1 → 128 ≤ (s.get! j).toNat := fun j h1 h2 => by
    obtain rfl : j = p := by omega
    exact h
  split
  · rename_i h2
    simp only [Bool.and_eq_true] at h2
    have k1 := hc 1 (by simpa using h2.2)
    split
    · rename_i h3
      refine ⟨h3, by omega, by omega, fun j a b => ?_, .inr (.inl ⟨rfl, by omega⟩)⟩
      rcases (show j = p ∨ j = p + 1 by omega) with rfl | rfl
      · exact h
      · exact k1.2.1
    · exact ⟨by decide, by omega, by omega, one, .inl rfl⟩
  · split
    · rename_i h2
      simp only [Bool.and_eq_true] at h2
      have k1 := hc 1 (by simpa using h2.1.2)
      have k2 := hc 2 (by simpa using h2.2)
      split
      · rename_i h3
        simp only [Bool.and_eq_true, decide_eq_true_eq] at h3
        refine ⟨by omega, by omega, by omega, fun j a b => ?_, .inr (.inr (.inl ⟨rfl, h3.1, by omega, h3.2⟩))⟩
        rcases (show j = p ∨ j = p + 1 ∨ j = p + 2 by omega) with rfl | rfl | rfl
        · exact h
        · exact k1.2.1
        · exact k2.2.1
      · exact ⟨by decide, by omega, by omega, one, .inl rfl⟩
    · split
      · rename_i h2
        simp only [Bool.and_eq_true] at h2
        have k1 := hc 1 (by simpa using h2.1.1.2)
        have k2 := hc 2 (by simpa using h2.1.2)
        have k3 := hc 3 (by simpa using h2.2)
        split
        · rename_i h3
          simp only [Bool.and_eq_true, decide_eq_true_eq] at h3
          refine ⟨by omega, by omega, by omega, fun j a b => ?_, .inr (.inr (.inr ⟨rfl, h3.1, h3.2⟩))⟩
          rcases (show j = p ∨ j = p + 1 ∨ j = p + 2 ∨ j = p + 3 by omega) with rfl | rfl | rfl | rfl
          · exact h
          · exact k1.2.1
          · exact k2.2.1
          · exact k3.2.1
        · exact ⟨by decide, by omega, by omega, one, .inl rfl⟩
      · exact ⟨by decide, by omega, by omega, one, .inl rfl⟩
theorem enc_head (R : Nat) (h : 128 ≤ R) : ∃ c t, (Utf8.encode (R : Int)).data.toList = c :: t ∧ 192 ≤ c.toNat := by
  have key : ∀ n : Nat, 128 ≤ n → n < 1114112 → ∃ c t, (if n < 0x80 then (⟨#[UInt8.ofNat n]⟩ : ByteArray)
    else if n < 0x800 then ⟨#[UInt8.ofNat (0xC0 + n / 64), UInt8.ofNat (0x80 + n % 64)]⟩
    else if n < 0x10000 then ⟨#[UInt8.ofNat (0xE0 + n / 4096), UInt8.ofNat (0x80 + n / 64 % 64), UInt8.ofNat (0x80 + n % 64)]⟩
    else ⟨#[UInt8.ofNat (0xF0 + n / 262144), UInt8.ofNat (0x80 + n / 4096 % 64), UInt8.ofNat (0x80 + n / 64 % 64), UInt8.ofNat (0x80 + n % 64)]⟩).data.toList = c :: t ∧ 192 ≤ c.toNat := by
    intro n h1 h2
    rw [if_neg (by omega)]
    split
    · refine ⟨_, _, rfl, ?_⟩
      rw [UInt8.toNat_ofNat']
      omega
    · split
      · refine ⟨_, _, rfl, ?_⟩
        rw [UInt8.toNat_ofNat']
        omega
      · refine ⟨_, _, rfl, ?_⟩
        rw [UInt8.toNat_ofNat']
        omega
  unfold Utf8.encode
  by_cases hv : Utf8.valid (R : Int) = true
  · simp only [hv, if_true, Int.toNat_natCast]
    refine key R h ?_
    simp only [Utf8.valid, Bool.or_eq_true, Bool.and_eq_true, decide_eq_true_eq] at hv
    omega
  · simp only [hv]
    exact key 65533 (by decide) (by decide)
theorem enc_size3 (R : Nat) (h : 2048 ≤ R) (h2 : R < 65536) (hv : Utf8.valid (R : Int) = true) : (Utf8.encode (R : Int)).size = 3 := by
  unfold Utf8.encode
  simp only [hv, if_true, Int.toNat_natCast]
  rw [if_neg (by omega), if_neg (by omega), if_pos (by omega)]
  rfl
theorem enc_size4 (R : Nat) (h : 65536 ≤ R) (hv : Utf8.valid (R : Int) = true) : (Utf8.encode (R : Int)).size = 4 := by
  unfold Utf8.encode
  simp only [hv, if_true, Int.toNat_natCast]
  rw [if_neg (by omega), if_neg (by omega), if_neg (by omega)]
  rfl
theorem crlf_ne (R : Nat) (h : 128 ≤ R) : ((⟨#[13, 10]⟩ : ByteArray).toList == (Utf8.encode (R : Int)).toList) = false := by
  obtain ⟨c, t, e, hc⟩ := enc_head R h
  rw [Lib.toList_data, Lib.toList_data, e]
  show (([13, 10] : List UInt8) == c :: t) = false
  rw [beq_eq_false_iff_ne]
  intro hh
  injection hh with hh
  rw [← hh] at hc
  exact absurd hc (by decide)
theorem crlf_index (b : ByteArray) (h : 3 ≤ b.size) : Lib.index (⟨#[13, 10]⟩ : ByteArray).data.toList b.data.toList = -1 := by
  refine Lib.index_none fun j _ => ?_
  cases ho : Lib.occAt (⟨#[13, 10]⟩ : ByteArray).data.toList b.data.toList j with
  | false => rfl
  | true =>
    have hl : (⟨#[13, 10]⟩ : ByteArray).size = 2 := rfl
    have hs := Lib.size_eq b
    rcases Lib.occAt_room ho with h | h
    · have e1 : (⟨#[13, 10]⟩ : ByteArray).data.toList.length = 2 := rfl
      rw [e1] at h
      omega
    · rw [h] at hs
      have h0 : b.size = 0 := hs
      omega
/-- None of the first bytes is a line feed or a carriage return. -/
def NoCR (s : ByteArray) (p : Nat) : Prop := ∀ j, j < p → s.get! j ≠ 13 ∧ s.get! j ≠ 10
theorem ib_none {x : UInt8} (h1 : x ≠ 13) (h2 : x ≠ 10) : Lib.indexByte (⟨#[13, 10]⟩ : ByteArray).data.toList ((x.toNat : Int)).toNat.toUInt8 = -1 := by
  have e : ((x.toNat : Int)).toNat.toUInt8 = x := by simp
  rw [e]
  show Lib.indexByte [13, 10] x = -1
  simp [Lib.indexByte, Ne.symm h1, Ne.symm h2]
theorem ib_some {x : UInt8} (h : x = 13 ∨ x = 10) : ∃ k : Nat, Lib.indexByte (⟨#[13, 10]⟩ : ByteArray).data.toList ((x.toNat : Int)).toNat.toUInt8 = (k : Int) := by
  rcases h with rfl | rfl
  · exact ⟨0, by decide⟩
  · exact ⟨1, by decide⟩
set_option maxHeartbeats 80000000 in
set_option maxRecDepth 1000000 in
theorem idxAny_short (s : ByteArray) (b off cap : Nat) (w : World) (hcap : s.size ≤ cap) (h2 : 2 ≤ s.size) (h8 : s.size ≤ 8) (hB : BytesAt s b off w) (hT : Lib.Utf8Tabs 1 2 w) (m : Int) (hm : w.cell? ⟨0, 0, none⟩ = some (.int .i64 m)) :
    Calls Tryd.prog 175 #[.slice (some ⟨b, off, none⟩) s.size cap, .string ⟨#[13, 10]⟩] w fun e w' => ∃ z : Int, e = .returned (.int .i64 z) ∧ Below w.heap.size w w' ∧ (0 ≤ z → ∃ j, j < s.size ∧ (s.get! j = 13 ∨ s.get! j = 10)) ∧ (z < 0 → NoCR s s.size) := by
  have h8z : decide ((8 : Int) < (s.size : Int)) = false := decide_eq_false (by omega)
  have hn1 : ((s.size : Int) == 1) = false := beq_eq_false_iff_ne.2 (by omega)
  go_enter Tryd.func175, Tryd.ntmps175
  go_wp2_with fail
  refine (sh208 _ _).mono ?_
  rintro e w' ⟨rfl, hw⟩
  rw [hw, h8z]
  go_wp2
  go_loopg [12] s.size (fun g s12 wx => ∃ p : Nat, s12 = .int .i64 p ∧ p ≤ s.size ∧ s.size ≤ p + g ∧ Below w.heap.size w wx ∧ NoCR s p)
  case atStart => exact ⟨0, rfl, Nat.zero_le _, by omega, Below.refl _ _, fun j hj => absurd hj (by omega)⟩
  case round =>
    obtain ⟨p, rfl, hp, hg, hbw, hno⟩ := hrel
    have HN : Aside (NoCR s p) := hno
    clear hno
    by_cases hps : p < s.size
    · obtain ⟨g', rfl⟩ : ∃ g', gk = g' + 1 := ⟨gk - 1, by omega⟩
      have hpz : (p : Int) < (s.size : Int) := by omega
      have hx := (hB.below hbw) p hps
      obtain ⟨x, hxe⟩ : ∃ x, s.get! p = x := ⟨_, rfl⟩
      have HX : Aside (s.get! p = x) := hxe
      rw [hxe] at hx
      by_cases h128 : x.toNat < 128
      · have h128z : ((x.toNat : Int) < 128) := by omega
        by_cases hcr : x = 13 ∨ x = 10
        · obtain ⟨k, hk⟩ := ib_some hcr
          have HC : Aside (x = 13 ∨ x = 10) := hcr
          clear hB hT hcr hxe
          go_wp2_with fail
          rw [run_callFunc_extern Tryd.func206 (by kernel_rfl) (by kernel_rfl) (by kernel_rfl) (e := Extern.BytealgIndexByte.indexByte) (by kernel_rfl), Lib.run_indexByteString, hk]
          simp only [Result.andThen]
          rw [Oper.upon_value]
          have hk0 : (0 : Int) ≤ (k : Int) := by omega
          go_wp2
          go_ret
          exact ⟨p, rfl, hbw, fun _ => ⟨p, hps, by rw [HX.out]; exact HC.out⟩, fun h => absurd h (by omega)⟩
        · have hk := ib_none (x := x) (fun e => hcr (.inl e)) (fun e => hcr (.inr e))
          have HC : Aside (¬ (x = 13 ∨ x = 10)) := hcr
          clear hB hT hcr hxe
          go_wp2_with fail
          rw [run_callFunc_extern Tryd.func206 (by kernel_rfl) (by kernel_rfl) (by kernel_rfl) (e := Extern.BytealgIndexByte.indexByte) (by kernel_rfl), Lib.run_indexByteString, hk]
          simp only [Result.andThen]
          rw [Oper.upon_value]
          go_wp2
          go_roundg g'
          case measure => omega
          case rel => exact ⟨p + 1, by go_num, by omega, by omega, hbw, fun j hj => by
            by_cases e : j = p
            · subst e
              rw [HX.out]
              exact ⟨fun e => HC.out (.inl e), fun e => HC.out (.inr e)⟩
            · exact HN.out j (by omega)⟩
      · obtain ⟨f1, f2, f3, f4, f5⟩ := dec_facts s p hps (by rw [hxe]; omega)
        have cD := decRune (s.extract p s.size) b (off + p) (cap - p) wr (Utf8Tabs_below hT hbw) ((hB.below hbw).tail p)
        have hsz := Lib.tail_size s p
        rw [hsz, decodeGo_tail s p hps] at cD
        obtain ⟨R, hR⟩ : ∃ R, (Utf8.decode s p).1 = R := ⟨_, rfl⟩
        obtain ⟨K, hK⟩ : ∃ K, (Utf8.decode s p).2 = K := ⟨_, rfl⟩
        rw [hR, hK] at cD f5
        rw [hR] at f1
        rw [hK] at f2 f3 f4
        have h128z : ¬ ((x.toNat : Int) < 128) := by omega
        have HF : Aside (∀ j, p ≤ j → j < p + K → 128 ≤ (s.get! j).toNat) := f4
        clear f4 hB hT hxe
        have hx256 : x.toNat < 256 := x.toNat_lt
        have hne : (([13, 10] : List UInt8) == (Utf8.encode (R : Int)).toList) = false := by
          have h := crlf_ne R f1
          have e : (⟨#[13, 10]⟩ : ByteArray).toList = [13, 10] := Lib.toList_data _
          rwa [e] at h
        have hcm : ∀ W, Below wr.heap.size wr W → W.cell? ⟨0, 0, none⟩ = some (.int .i64 m) := fun W hb => by
          rw [hb.cell (p := ⟨0, 0, none⟩) (block_lt_of_cell (by rw [hbw.cell (p := ⟨0, 0, none⟩) (block_lt_of_cell hm)]; exact hm)), hbw.cell (p := ⟨0, 0, none⟩) (block_lt_of_cell hm)]
          exact hm
        have hnext : NoCR s (p + K) := fun j hj => by
          by_cases e : j < p
          · exact HN.out j e
          · have := HF.out j (by omega) hj
            exact ⟨fun e => by rw [e] at this; exact absurd this (by decide), fun e => by rw [e] at this; exact absurd this (by decide)⟩
        have HNX : Aside (NoCR s (p + K)) := hnext
        clear hnext HF HX HN
        by_cases hE : R = 65533
        · have hR3 : ((R : Int) == 65533) = true := by rw [hE]; rfl
          clear hcm
          go_wp2_with (go_at_call 185; refine cD.mono ?_; rintro e W ⟨rfl, hb1⟩)
          have hbW : Below w.heap.size w W := hbw.trans (hb1.mono hbw.size)
          have hn0 : ∀ ty, (Instr.next (.pointer (some ⟨W.heap.size, 0, none⟩)) true ty).run Tryd.prog (W.iter ⟨#[13, 10]⟩ 0) = .ok (.tuple #[.bool true, .int .i64 0, .int .i32 13]) (W.iter ⟨#[13, 10]⟩ 1) := fun ty => run_next_ascii (P := Tryd.prog) W ⟨#[13, 10]⟩ 0 ty (by decide) (by decide)
          have hn1 : ∀ ty, (Instr.next (.pointer (some ⟨W.heap.size, 0, none⟩)) true ty).run Tryd.prog (W.iter ⟨#[13, 10]⟩ 1) = .ok (.tuple #[.bool true, .int .i64 1, .int .i32 10]) (W.iter ⟨#[13, 10]⟩ 2) := fun ty => run_next_ascii (P := Tryd.prog) W ⟨#[13, 10]⟩ 1 ty (by decide) (by decide)
          have hn2 : ∀ ty, (Instr.next (.pointer (some ⟨W.heap.size, 0, none⟩)) true ty).run Tryd.prog (W.iter ⟨#[13, 10]⟩ 2) = .ok (.tuple #[.bool false]) (W.iter ⟨#[13, 10]⟩ 2) := fun ty => run_next_end (P := Tryd.prog) W ⟨#[13, 10]⟩ 2 ty (by decide)
          go_loopg [15] 2 (fun g _ wx => ∃ q : Nat, q + g = 2 ∧ wx = W.iter ⟨#[13, 10]⟩ q)
          case atStart => exact ⟨0, rfl, rfl⟩
          case round =>
            obtain ⟨q, hq, rfl⟩ := hrel
            rcases (show q = 0 ∨ q = 1 ∨ q = 2 by omega) with rfl | rfl | rfl
            · obtain rfl : gk = 2 := by omega
              go_wp2
              go_roundg 1
              case measure => omega
              case rel => exact ⟨1, rfl, rfl⟩
            · obtain rfl : gk = 1 := by omega
              go_wp2
              go_roundg 0
              case measure => omega
              case rel => exact ⟨2, rfl, rfl⟩
            · obtain rfl : gk = 0 := by omega
              go_wp2
              go_roundg g'
              case measure => omega
              case rel => exact ⟨p + K, by go_num, by omega, by omega, hbW.alloc hbW.size _, HNX.out⟩
        · have hR3 : ((R : Int) == 65533) = false := beq_eq_false_iff_ne.2 (by omega)
          rcases f5.resolve_left hE with ⟨hK2, hr⟩ | hK34
          · subst hK2
            clear hcm
            go_wp2_with (go_at_call 185; refine cD.mono ?_; rintro e W ⟨rfl, hb1⟩)
            go_roundg g'
            case measure => omega
            case rel => exact ⟨p + 2, by go_num, by omega, by omega, hbw.trans (hb1.mono hbw.size), HNX.out⟩
          · have hKK : (3 ≤ K ∧ K ≤ 4) ∧ (Utf8.encode (R : Int)).size = K := by
              rcases hK34 with ⟨h3, hr, hr2, hv⟩ | ⟨h4, hr, hv⟩
              · exact ⟨by omega, by rw [h3]; exact enc_size3 R hr hr2 hv⟩
              · exact ⟨by omega, by rw [h4]; exact enc_size4 R hr hv⟩
            obtain ⟨⟨hK3, hK4⟩, hes⟩ := hKK
            have h2K : ((2 : Int) == (K : Int)) = false := beq_eq_false_iff_ne.2 (by omega)
            have h13 : ((R : Int) == 13) = false := beq_eq_false_iff_ne.2 (by omega)
            have h10 : ((R : Int) == 10) = false := beq_eq_false_iff_ne.2 (by omega)
            clear hK34 f5
            by_cases hmk : (K : Int) ≤ m
            · go_wp2_with (go_at_call 185; refine cD.mono ?_; rintro e W ⟨rfl, hb1⟩; have hmW := hcm W hb1; clear hcm)
              rw [run_callFunc_extern Tryd.func187 (by kernel_rfl) (by kernel_rfl) (by kernel_rfl) (e := Extern.BytealgIndex.index) (by kernel_rfl), Lib.run_indexString _ _ _ 0 m (by kernel_rfl) hmW (by omega) (by omega) (by decide), crlf_index _ (by omega)]
              simp only [Result.andThen]
              rw [Oper.upon_value]
              go_wp2
              go_roundg g'
              case measure => omega
              case rel => exact ⟨p + K, by go_num, by omega, by omega, hbw.trans (hb1.mono hbw.size), HNX.out⟩
            · have hmkz : decide ((K : Int) ≤ m) = false := decide_eq_false hmk
              go_wp2_with (go_at_call 185; refine cD.mono ?_; rintro e W ⟨rfl, hb1⟩; have hmW := hcm W hb1; clear hcm)
              have hRne : ((R : Int) != 65533) = true := by
                show (!((R : Int) == 65533)) = true
                rw [hR3]
                rfl
              try rw [hRne]
              try rw [show decide (m ≥ (K : Int)) = false from hmkz]
              try rw [hmkz]
              clear hmW cD hmk hmkz
              have hbW : Below w.heap.size w W := hbw.trans (hb1.mono hbw.size)
              have hn0 : ∀ ty, (Instr.next (.pointer (some ⟨W.heap.size, 0, none⟩)) true ty).run Tryd.prog (W.iter ⟨#[13, 10]⟩ 0) = .ok (.tuple #[.bool true, .int .i64 0, .int .i32 13]) (W.iter ⟨#[13, 10]⟩ 1) := fun ty => run_next_ascii (P := Tryd.prog) W ⟨#[13, 10]⟩ 0 ty (by decide) (by decide)
              have hn1 : ∀ ty, (Instr.next (.pointer (some ⟨W.heap.size, 0, none⟩)) true ty).run Tryd.prog (W.iter ⟨#[13, 10]⟩ 1) = .ok (.tuple #[.bool true, .int .i64 1, .int .i32 10]) (W.iter ⟨#[13, 10]⟩ 2) := fun ty => run_next_ascii (P := Tryd.prog) W ⟨#[13, 10]⟩ 1 ty (by decide) (by decide)
              have hn2 : ∀ ty, (Instr.next (.pointer (some ⟨W.heap.size, 0, none⟩)) true ty).run Tryd.prog (W.iter ⟨#[13, 10]⟩ 2) = .ok (.tuple #[.bool false]) (W.iter ⟨#[13, 10]⟩ 2) := fun ty => run_next_end (P := Tryd.prog) W ⟨#[13, 10]⟩ 2 ty (by decide)
              go_loopg [15] 2 (fun g _ wx => ∃ q : Nat, q + g = 2 ∧ wx = W.iter ⟨#[13, 10]⟩ q)
              case atStart => exact ⟨0, rfl, rfl⟩
              case round =>
                obtain ⟨q, hq, rfl⟩ := hrel
                rcases (show q = 0 ∨ q = 1 ∨ q = 2 by omega) with rfl | rfl | rfl
                · obtain rfl : gk = 2 := by omega
                  go_wp2
                  go_roundg 1
                  case measure => omega
                  case rel => exact ⟨1, rfl, rfl⟩
                · obtain rfl : gk = 1 := by omega
                  go_wp2
                  go_roundg 0
                  case measure => omega
                  case rel => exact ⟨2, rfl, rfl⟩
                · obtain rfl : gk = 0 := by omega
                  go_wp2
                  go_roundg g'
                  case measure => omega
                  case rel => exact ⟨p + K, by go_num, by omega, by omega, hbW.alloc hbW.size _, HNX.out⟩
    · obtain rfl : p = s.size := by omega
      clear hB hT
      go_wp2
      go_ret
      exact ⟨-1, rfl, hbw, fun h => absurd h (by decide), fun _ => HN.out⟩
end Go.Proofs.YtmmjgbdihgdekaaDoor

/- bytes.IndexAny of "\r\n", at texts of one byte, in the world: what no walk of ours covers (DecodeRune, a range over a string). -/
namespace Go.Proofs.YtmmjgbdihgdekaaDoor
open Go.Shelf Go.RowKit Go.Lib
set_option linter.unusedSimpArgs false
set_option linter.unusedVariables false
set_option maxHeartbeats 4000000
set_option maxRecDepth 1000000
theorem idxAny_one (x : UInt8) (b off cap : Nat) (w : World) (hcap : 1 ≤ cap) (hx : w.cell? ⟨b, off + 0, none⟩ = some (.int .u8 x.toNat)) :
    Calls Tryd.prog 175 #[.slice (some ⟨b, off, none⟩) 1 cap, .string ⟨#[13, 10]⟩] w fun e w' => ∃ z : Int, e = .returned (.int .i64 z) ∧ Below w.heap.size w w' ∧ ((0 ≤ z) ↔ (x = 13 ∨ x = 10)) := by
  rw [Nat.add_zero] at hx
  have hx256 : x.toNat < 256 := x.toNat_lt
  by_cases h128 : x.toNat < 128
  · have h128z : ((x.toNat : Int) < 128) := by omega
    by_cases hcr : x = 13 ∨ x = 10
    · obtain ⟨k, hk⟩ := ib_some hcr
      have HC : Aside (x = 13 ∨ x = 10) := hcr
      clear hcr
      go_enter Tryd.func175, Tryd.ntmps175
      go_wp2_with fail
      rw [run_callFunc_extern Tryd.func206 (by kernel_rfl) (by kernel_rfl) (by kernel_rfl) (e := Extern.BytealgIndexByte.indexByte) (by kernel_rfl), Lib.run_indexByteString, hk]
      simp only [Result.andThen]
      rw [Oper.upon_value]
      have hk0 : (0 : Int) ≤ (k : Int) := by omega
      go_wp2
      go_ret
      exact ⟨0, rfl, Below.refl _ _, fun _ => HC.out, fun _ => by decide⟩
    · have hk := ib_none (x := x) (fun e => hcr (.inl e)) (fun e => hcr (.inr e))
      have HC : Aside (¬ (x = 13 ∨ x = 10)) := hcr
      clear hcr
      go_enter Tryd.func175, Tryd.ntmps175
      go_wp2_with fail
      rw [run_callFunc_extern Tryd.func206 (by kernel_rfl) (by kernel_rfl) (by kernel_rfl) (e := Extern.BytealgIndexByte.indexByte) (by kernel_rfl), Lib.run_indexByteString, hk]
      simp only [Result.andThen]
      rw [Oper.upon_value]
      go_wp2
      go_ret
      exact ⟨-1, rfl, Below.refl _ _, fun h => absurd h (by decide), fun h => absurd h HC.out⟩
  · have h128z : ¬ ((x.toNat : Int) < 128) := by omega
    have HC : Aside (¬ (x = 13 ∨ x = 10)) := by
      rintro (rfl | rfl)
      · exact h128 (by decide)
      · exact h128 (by decide)
    go_enter Tryd.func175, Tryd.ntmps175
    go_wp2_with fail
    have hn0 : ∀ ty, (Instr.next (.pointer (some ⟨w.heap.size, 0, none⟩)) true ty).run Tryd.prog (w.iter ⟨#[13, 10]⟩ 0) = .ok (.tuple #[.bool true, .int .i64 0, .int .i32 13]) (w.iter ⟨#[13, 10]⟩ 1) := fun ty => run_next_ascii (P := Tryd.prog) w ⟨#[13, 10]⟩ 0 ty (by decide) (by decide)
    have hn1 : ∀ ty, (Instr.next (.pointer (some ⟨w.heap.size, 0, none⟩)) true ty).run Tryd.prog (w.iter ⟨#[13, 10]⟩ 1) = .ok (.tuple #[.bool true, .int .i64 1, .int .i32 10]) (w.iter ⟨#[13, 10]⟩ 2) := fun ty => run_next_ascii (P := Tryd.prog) w ⟨#[13, 10]⟩ 1 ty (by decide) (by decide)
    have hn2 : ∀ ty, (Instr.next (.pointer (some ⟨w.heap.size, 0, none⟩)) true ty).run Tryd.prog (w.iter ⟨#[13, 10]⟩ 2) = .ok (.tuple #[.bool false]) (w.iter ⟨#[13, 10]⟩ 2) := fun ty => run_next_end (P := Tryd.prog) w ⟨#[13, 10]⟩ 2 ty (by decide)
    go_loopg [5] 2 (fun g _ wx => ∃ q : Nat, q + g = 2 ∧ wx = w.iter ⟨#[13, 10]⟩ q)
    case atStart => exact ⟨0, rfl, rfl⟩
    case round =>
      obtain ⟨q, hq, rfl⟩ := hrel
      rcases (show q = 0 ∨ q = 1 ∨ q = 2 by omega) with rfl | rfl | rfl
      · obtain rfl : gk = 2 := by omega
        go_wp2
        go_roundg 1
        case measure => omega
        case rel => exact ⟨1, rfl, rfl⟩
      · obtain rfl : gk = 1 := by omega
        go_wp2
        go_roundg 0
        case measure => omega
        case rel => exact ⟨2, rfl, rfl⟩
      · obtain rfl : gk = 0 := by omega
        go_wp2
        go_ret
        exact ⟨-1, rfl, (Below.refl _ _).alloc (Nat.le_refl _) _, fun h => absurd h (by decide), fun h => absurd h HC.out⟩
end Go.Proofs.YtmmjgbdihgdekaaDoor

/- ContainsAny of CR and LF, for any bytes. -/
namespace Go.Proofs.YtmmjgbdihgdekaaDoor
open Go Go.RowKit
set_option linter.unusedSimpArgs false
set_option linter.unusedVariables false
set_option maxRecDepth 100000
set_option maxHeartbeats 4000000
def crB (b : UInt8) : Bool := b == 13 || b == 10
theorem any_cr (l : List UInt8) : (l.contains 13 || l.contains 10) = l.any crB := by
  induction l with
  | nil => rfl
  | cons a r ih =>
    rw [List.any_cons, ← ih, List.contains_cons, List.contains_cons]
    unfold crB
    have e1 : ((13 : UInt8) == a) = (a == 13) := by rw [Bool.eq_iff_iff, beq_iff_eq, beq_iff_eq]; exact eq_comm
    have e2 : ((10 : UInt8) == a) = (a == 10) := by rw [Bool.eq_iff_iff, beq_iff_eq, beq_iff_eq]; exact eq_comm
    rw [e1, e2]
    cases a == 13 <;> cases a == 10 <;> cases r.contains 13 <;> cases r.contains 10 <;> rfl
/-- A contract at bytes that the world holds. -/
theorem VCall.ofBytes {P : Program} {f : FuncId} {x : List UInt8} {y : Value} {post : Int → Prop} {H : Heap} (hx : x.length ≠ 0)
    (h : ∀ (w : World) (b off cap : Nat), x.length ≤ cap → (∀ j c, x[j]? = some c → w.cell? ⟨b, off + j, none⟩ = some (.int .u8 c.toNat)) → Tabs w →
      Calls P f #[.slice (some ⟨b, off, none⟩) x.length cap, y] w (fun e w' => ∃ z : Int, e = .returned (.int .i64 z) ∧ Below w.heap.size w w' ∧ post z)) :
    VCall P f [roB x, .sc y] H (fun v K => (∃ z : Int, v = .sc (.int .i64 z) ∧ post z) ∧ K = H) := fun B M Z ρ w ra h1 h2 => by
  obtain ⟨hlen, hrel⟩ := h2
  match hra : ra.toList, hlen with
  | [a0, a1], _ =>
    have r0 := hrel 0 (roB x) a0 rfl (by rw [hra]; rfl)
    have r1 := hrel 1 (.sc y) a1 rfl (by rw [hra]; rfl)
    have e1 : a1 = y := sc_inv r1
    subst e1
    obtain rfl : ra = #[a0, a1] := by
      cases ra
      simp only at hra
      rw [hra]
    unfold roB at r0
    obtain ⟨vs, hvs⟩ : ∃ vs, x.map bV = vs := ⟨_, rfl⟩
    obtain ⟨n, hn⟩ : ∃ n, x.length = n := ⟨_, rfl⟩
    rw [hvs, hn] at r0
    rw [hn] at h hx
    cases r0 with
    | ro0 => exact absurd rfl hx
    | @ro _ k o c' _ cs hZ hle hl2 hcell hr =>
      refine (h w k o c' hle (fun j c hj => ?_) h1.tabs).mono ?_
      · have hm : vs[j]? = some (bV c) := by rw [← hvs, List.getElem?_map, hj]; rfl
        have hjl : j < vs.length := (List.getElem?_eq_some_iff.1 hm).1
        have hjc : j < cs.length := by omega
        rw [hcell j hjc, List.getElem?_eq_getElem hjc]
        have hq := hr j _ _ hm (List.getElem?_eq_getElem hjc)
        exact congrArg some (sc_inv hq)
      · rintro e w' ⟨z, rfl, hb, hp⟩
        obtain ⟨e2, r2⟩ := h1.step (Z' := Z) hb.os hb.tape hb.output hb.size (fun k hk => hb.block k hk) (fun _ h => h) (fun _ h => .inl h)
        exact ⟨.int .i64 z, .sc (.int .i64 z), H, Z, ρ, rfl, ⟨⟨z, rfl, hp⟩, rfl⟩, e2, r2, .sc rfl⟩
theorem get_at {x : List UInt8} {j : Nat} (hj : j < x.length) : (⟨x.toArray⟩ : ByteArray).get! j = x[j] := by
  show (x.toArray)[j]! = _
  rw [getElem!_pos x.toArray j (by simpa using hj)]
  simp
theorem idxShort_call (x : List UInt8) (h2 : 2 ≤ x.length) (h8 : x.length ≤ 8) (H : Heap) : VCall Tryd.prog 175 [roB x, strV [13, 10]] H (fun v K => (∃ z : Int, v = .sc (.int .i64 z) ∧ decide (0 ≤ z) = x.any crB) ∧ K = H) := by
  refine VCall.ofBytes (by omega) fun w b off cap hle hc hT => ?_
  obtain ⟨hT1, m, hm⟩ := hT
  have hsz : (⟨x.toArray⟩ : ByteArray).size = x.length := rfl
  refine (idxAny_short ⟨x.toArray⟩ b off cap w hle h2 h8 (fun j hj => ?_) hT1 m hm).mono ?_
  · rw [hc j _ (List.getElem?_eq_getElem hj), get_at hj]
  · rintro e w' ⟨z, he, hb, hz1, hz2⟩
    refine ⟨z, he, hb, ?_⟩
    by_cases hz : 0 ≤ z
    · obtain ⟨j, hj, hx⟩ := hz1 hz
      rw [get_at hj] at hx
      rw [decide_eq_true hz]
      refine (List.any_eq_true.2 ⟨x[j], List.getElem_mem _, ?_⟩).symm
      unfold crB
      rcases hx with e | e <;> rw [e] <;> rfl
    · rw [decide_eq_false hz]
      refine (List.any_eq_false.2 fun c hcm => ?_).symm
      obtain ⟨j, hj, rfl⟩ := List.getElem_of_mem hcm
      have := hz2 (by omega) j hj
      rw [get_at hj] at this
      unfold crB
      simp [this.1, this.2]
theorem idxOne_call (c : UInt8) (H : Heap) : VCall Tryd.prog 175 [roB [c], strV [13, 10]] H (fun v K => (∃ z : Int, v = .sc (.int .i64 z) ∧ decide (0 ≤ z) = [c].any crB) ∧ K = H) := by
  refine VCall.ofBytes (by simp) fun w b off cap hle hc hT => ?_
  have h0 := hc 0 c rfl
  refine (idxAny_one c b off cap w hle h0).mono ?_
  rintro e w' ⟨z, he, hb, hz⟩
  refine ⟨z, he, hb, ?_⟩
  rw [List.any_cons, List.any_nil, Bool.or_false]
  unfold crB
  rw [Bool.eq_iff_iff, decide_eq_true_iff, hz]
  simp
theorem idxNil_call (H : Heap) : VCall Tryd.prog 175 [roB [], strV [13, 10]] H (fun v K => (∃ z : Int, v = .sc (.int .i64 z) ∧ decide (0 ≤ z) = [].any crB) ∧ K = H) :=
  (VCall.closedO orcC_ok mixed 60 (u := .int .i64 (-1)) (by simp [nameless_roB, nameless_strV]) (by kernel_rfl)).mono fun v K h => ⟨⟨-1, h.1, rfl⟩, h.2⟩
/-- The set of the two. -/
def crRow : List VV := (List.range 256).map fun k => booV (k == 13 || k == 10)
theorem crRow_at (c : UInt8) : crRow[c.toNat]? = some (booV (crB c)) := by
  have hc := u8_lt c
  unfold crRow
  rw [List.getElem?_map, List.getElem?_range hc]
  simp only [Option.map_some, Option.some.injEq]
  refine congrArg booV ?_
  unfold crB
  rw [Bool.eq_iff_iff]
  simp only [Bool.or_eq_true, beq_iff_eq, ← UInt8.toNat_inj]
  rfl
def isSetCR (x : Option (VV × Heap)) : Bool := match x with
  | some (.tp [.ag vs, .sc (.bool true)], _) => veqL vs crRow
  | _ => false
theorem mksetCR_call (H : Heap) : VCall Tryd.prog 170 [strV [13, 10]] H (fun v K => v = .tp [.ag crRow, booV true] ∧ K = H) := by
  have h : isSetCR (vcallW Tryd.prog (vcode Tryd.prog 80) 170 [strV [13, 10]] ⟨[], 0⟩) = true := by kernel_rfl
  unfold isSetCR at h
  split at h
  · rename_i vs K hr
    have e := veqL_eq h
    subst e
    refine (VCall.apart (Q := fun x K' => x = .tp [.ag crRow, booV true] ∧ K' = K) (by simp [nameless_strV]) (VCall.run mixed 80 hr) (fun v K e => ?_)).mono ?_
    · rw [e.1]
      refine exact_tp ?_
      intro v hv
      simp only [List.mem_cons, List.not_mem_nil, or_false] at hv
      rcases hv with rfl | rfl
      · intro w w' Z Z' ρ ρ' y hy
        cases hy with
        | @ag _ cs h1 r1 =>
          refine .ag h1 fun i u c hu hc => ?_
          have g := r1 i u c hu hc
          obtain ⟨k, _, rfl⟩ := List.mem_map.1 (List.mem_of_getElem? hu)
          exact exact_sc _ _ _ _ _ _ _ _ g
      · exact exact_sc _
    · rintro v K' ⟨⟨_, e, _⟩, e2⟩
      exact ⟨e, e2⟩
  · simp at h
theorem any_drop {l : List UInt8} {i : Nat} {c : UInt8} (h : l[i]? = some c) : (l.drop i).any crB = (crB c || (l.drop (i + 1)).any crB) := by
  obtain ⟨hi, e⟩ := List.getElem?_eq_some_iff.1 h
  rw [List.drop_eq_getElem_cons hi, e, List.any_cons]
theorem idxLong_call (l : List UInt8) (h8 : 8 < l.length) (hl : l.length ≤ 100000) (H : Heap) : VCall Tryd.prog 175 [roB l, strV [13, 10]] H (fun v K => (∃ z : Int, v = .sc (.int .i64 z) ∧ decide (0 ≤ z) = l.any crB) ∧ K = H) := by
  refine (VCall.apart (Q := fun v _ => ∃ z : Int, v = .sc (.int .i64 z) ∧ decide (0 ≤ z) = l.any crB) (by simp [nameless_roB, nameless_strV]) ?_ (fun v K e => ?_)).mono (fun v K h => ⟨h.1.elim fun _ q => q, h.2⟩)
  · refine VCall.go Tryd.func175 rfl ?_
    repeat' (first | with_reducible refine And.intro ?_ ?_ | ((with_reducible intro hc); (try simp only [zA, zB, zC, zD, zE, zF, zG, zH, zI, zJ, zK, zL, zM, zN, zO, zP, zQ, zR, zS, zT, zU, zV, zW] at hc); (first | (exact absurd rfl hc) | (exact absurd trivial hc) | (exfalso; omega) | skip)) | exact Is.mk rfl rfl | ((conv => whnf); first | with_reducible refine And.intro ?_ ?_ | with_reducible intro hx | exact Is.mk rfl rfl | (with_reducible first | apply Val.via | apply ValH.via) | refine ifB_intro ?_ ?_ | refine xA (by omega) ?_ | ((refine xB ?_); intro kw hk1 hk2) | refine xC (by omega) ?_ | refine xD ?_ | refine xE (by omega) ?_ | refine xF (by omega) ?_ | refine xG ?_ | refine xH ?_ | refine xI (by omega) ?_ | refine xJ (by omega) ?_ | (with_reducible refine stopA ?_) | refine Exists.intro _ (And.intro (by (first | exact vat_of rfl rfl rfl | rfl)) ?_) | refine GOp.drawn (by rfl) (by rfl) (Nat.le_of_ble_eq_true (by rfl)) (by rfl) | refine GOp.via (by rfl) ?_ | refine GWP.drawY mixed _ (by kernel_rfl) (by rfl) ?_ | (first | (refine GCall.mk (VCall.inl Tryd.func208 rfl ?_)) | (refine GCall.mk ((mksetCR_call _).mono ?_); rintro _ _ ⟨rfl, rfl⟩)) | (with_reducible first | refine stopO ?_ | refine stopE ?_ | refine stopD ?_ | refine stopW ?_ | refine stopG ?_ | refine stopC ?_ | refine stopR ?_)))
    (all_goals (first | omega | skip))
    (refine GWP'.mk (GWP.loopB [] (fun (i : Nat) => i ≤ l.length ∧ (l.drop i).any crB = l.any crB) (fun i => [(62, iV i)]) (fun i => []) 2 (fun i => l.length - i) 0 ⟨Nat.zero_le _, rfl⟩ ?_); (conv => whnf); refine And.intro ?_ ?_)
    · focus (refine KeptA.of [] rfl rfl (by repeat' (first | exact trivial | refine And.intro rfl ?_)) rfl ?_ ?_; all_goals (repeat' (first | exact trivial | (refine And.intro ?_ ?_) | (refine Exists.intro _ (And.intro rfl ?_)) | (refine RenO.opt ?_) | (refine RenO.toOpt ?_) | (refine RenO.cells ?_) | exact RenO.defs | exact RenL.nil | (refine RenL.cons ?_ ?_) | (first | fail | (with_reducible exact RenV.sc) | exact RenV.gsN | exact RenV.gsZ | exact RenV.gsL (by decide) | exact RenV.slL (by decide) | ((first | refine RenV.gsE (by (first | exact List.Mem.head _ | exact List.Mem.tail _ (List.Mem.head _) | exact List.Mem.tail _ (List.Mem.tail _ (List.Mem.head _)) | (simp; done))) ?_ | refine RenV.eq (scI_eq ?_) (nameless_sc _)); (first | rfl | omega | (simp only [List.length_append, List.length_cons, List.length_nil, List.length_map, List.length_take, List.length_drop] <;> omega) | (simp only <;> omega) | (simp <;> omega))) | exact RenV.undef) | (with_unfolding_all exact (rfl : (_ : VObj) = _)))))
    rintro i ⟨h1, h2⟩
    simp only at h1 h2 ⊢
    by_cases hil : i < l.length
    · obtain ⟨c, hb⟩ := list_at hil
      have hc8 := u8_lt c
      have hr := crRow_at c
      rw [any_drop hb] at h2
      by_cases hcr : crB c = true
      · rw [hcr] at hr h2
        repeat' (first | with_reducible refine And.intro ?_ ?_ | ((with_reducible intro hc); (try simp only [zA, zB, zC, zD, zE, zF, zG, zH, zI, zJ, zK, zL, zM, zN, zO, zP, zQ, zR, zS, zT, zU, zV, zW] at hc); (first | (exact absurd rfl hc) | (exact absurd trivial hc) | (exfalso; omega) | skip)) | exact Is.mk rfl rfl | ((conv => whnf); first | with_reducible refine And.intro ?_ ?_ | with_reducible intro hx | exact Is.mk rfl rfl | (with_reducible first | apply Val.via | apply ValH.via) | refine ifB_intro ?_ ?_ | refine xA (by omega) ?_ | ((refine xB ?_); intro kw hk1 hk2) | refine xC (by omega) ?_ | refine xD ?_ | refine xE (by omega) ?_ | refine xF (by omega) ?_ | refine xG ?_ | refine xH ?_ | refine xI (by omega) ?_ | refine xJ (by omega) ?_ | (with_reducible refine stopA ?_) | refine Exists.intro _ (And.intro (by (first | exact vat_of vagg_u8 (map_at hb) (mul1 rfl rfl) | exact vat_of vagg_bool hr (addf rfl rfl (by omega)) | rfl)) ?_) | refine GOp.drawn (by rfl) (by rfl) (Nat.le_of_ble_eq_true (by rfl)) (by rfl) | refine GOp.via (by rfl) ?_ | refine GWP.drawY mixed _ (by kernel_rfl) (by rfl) ?_ | (refine GCall.mk (VCall.inl Tryd.func203 rfl ?_)) | (with_reducible first | refine stopO ?_ | refine stopE ?_ | refine stopD ?_ | refine stopW ?_ | refine stopG ?_ | refine stopC ?_ | refine stopR ?_)))
        (all_goals (first | omega | skip))
        exact Done'.mk ⟨(i : Int), rfl, by rw [← h2, Bool.true_or]; exact decide_eq_true (by omega)⟩
      · have hcf : crB c = false := by simpa using hcr
        rw [hcf] at hr h2
        repeat' (first | with_reducible refine And.intro ?_ ?_ | ((with_reducible intro hc); (try simp only [zA, zB, zC, zD, zE, zF, zG, zH, zI, zJ, zK, zL, zM, zN, zO, zP, zQ, zR, zS, zT, zU, zV, zW] at hc); (first | (exact absurd rfl hc) | (exact absurd trivial hc) | (exfalso; omega) | skip)) | exact Is.mk rfl rfl | ((conv => whnf); first | with_reducible refine And.intro ?_ ?_ | with_reducible intro hx | exact Is.mk rfl rfl | (with_reducible first | apply Val.via | apply ValH.via) | refine ifB_intro ?_ ?_ | refine xA (by omega) ?_ | ((refine xB ?_); intro kw hk1 hk2) | refine xC (by omega) ?_ | refine xD ?_ | refine xE (by omega) ?_ | refine xF (by omega) ?_ | refine xG ?_ | refine xH ?_ | refine xI (by omega) ?_ | refine xJ (by omega) ?_ | (with_reducible refine stopA ?_) | refine Exists.intro _ (And.intro (by (first | exact vat_of vagg_u8 (map_at hb) (mul1 rfl rfl) | exact vat_of vagg_bool hr (addf rfl rfl (by omega)) | rfl)) ?_) | refine GOp.drawn (by rfl) (by rfl) (Nat.le_of_ble_eq_true (by rfl)) (by rfl) | refine GOp.via (by rfl) ?_ | refine GWP.drawY mixed _ (by kernel_rfl) (by rfl) ?_ | (refine GCall.mk (VCall.inl Tryd.func203 rfl ?_)) | (with_reducible first | refine stopO ?_ | refine stopE ?_ | refine stopD ?_ | refine stopW ?_ | refine stopG ?_ | refine stopC ?_ | refine stopR ?_)))
        (all_goals (first | omega | skip))
        rw [Bool.false_or] at h2
        focus (refine Done'.mk ⟨(i + 1), ⟨by omega, h2⟩, ?_, KeptA.of [] rfl rfl (by repeat' (first | exact trivial | refine And.intro rfl ?_)) rfl ?_ ?_⟩; (first | omega | (simp only; omega)); all_goals (repeat' (first | exact trivial | (refine And.intro ?_ ?_) | (refine Exists.intro _ (And.intro rfl ?_)) | (refine RenO.opt ?_) | (refine RenO.toOpt ?_) | (refine RenO.cells ?_) | exact RenO.defs | exact RenL.nil | (refine RenL.cons ?_ ?_) | (first | exact RenV.eq (scI_eq (by omega)) (nameless_sc _) | (with_reducible exact RenV.sc) | exact RenV.gsN | exact RenV.gsZ | exact RenV.gsL (by decide) | exact RenV.slL (by decide) | ((first | refine RenV.gsE (by (first | exact List.Mem.head _ | exact List.Mem.tail _ (List.Mem.head _) | exact List.Mem.tail _ (List.Mem.tail _ (List.Mem.head _)) | (simp; done))) ?_ | refine RenV.eq (scI_eq ?_) (nameless_sc _)); (first | rfl | omega | (simp only [List.length_append, List.length_cons, List.length_nil, List.length_map, List.length_take, List.length_drop] <;> omega) | (simp only <;> omega) | (simp <;> omega))) | exact RenV.undef) | (with_unfolding_all exact (rfl : (_ : VObj) = _)))))
    · obtain rfl : i = l.length := by omega
      rw [List.drop_length] at h2
      repeat' (first | with_reducible refine And.intro ?_ ?_ | ((with_reducible intro hc); (try simp only [zA, zB, zC, zD, zE, zF, zG, zH, zI, zJ, zK, zL, zM, zN, zO, zP, zQ, zR, zS, zT, zU, zV, zW] at hc); (first | (exact absurd rfl hc) | (exact absurd trivial hc) | (exfalso; omega) | skip)) | exact Is.mk rfl rfl | ((conv => whnf); first | with_reducible refine And.intro ?_ ?_ | with_reducible intro hx | exact Is.mk rfl rfl | (with_reducible first | apply Val.via | apply ValH.via) | refine ifB_intro ?_ ?_ | refine xA (by omega) ?_ | ((refine xB ?_); intro kw hk1 hk2) | refine xC (by omega) ?_ | refine xD ?_ | refine xE (by omega) ?_ | refine xF (by omega) ?_ | refine xG ?_ | refine xH ?_ | refine xI (by omega) ?_ | refine xJ (by omega) ?_ | (with_reducible refine stopA ?_) | refine Exists.intro _ (And.intro (by rfl) ?_) | refine GOp.drawn (by rfl) (by rfl) (Nat.le_of_ble_eq_true (by rfl)) (by rfl) | refine GOp.via (by rfl) ?_ | refine GWP.drawY mixed _ (by kernel_rfl) (by rfl) ?_ | fail | (with_reducible first | refine stopO ?_ | refine stopE ?_ | refine stopD ?_ | refine stopW ?_ | refine stopG ?_ | refine stopC ?_ | refine stopR ?_)))
      (all_goals (first | omega | skip))
      exact Done'.mk ⟨-1, rfl, by rw [← h2]; rfl⟩
  · obtain ⟨z, rfl, _⟩ := e
    exact exact_sc _
theorem indexAny_call (x : List UInt8) (hx : x.length ≤ 100000) (H : Heap) : VCall Tryd.prog 175 [roB x, strV [13, 10]] H (fun v K => (∃ z : Int, v = .sc (.int .i64 z) ∧ decide (0 ≤ z) = x.any crB) ∧ K = H) := by
  by_cases h8 : 8 < x.length
  · exact idxLong_call x h8 hx H
  by_cases h2 : 2 ≤ x.length
  · exact idxShort_call x h2 (by omega) H
  cases x with
  | nil => exact idxNil_call H
  | cons c r =>
    cases r with
    | nil => exact idxOne_call c H
    | cons d r => exact absurd (by simp) h2
theorem containsAny_call (x : List UInt8) (H : Heap) (hx : x.length ≤ 100000) : VCall Tryd.prog 139 [roB x, strV [13, 10]] H (fun v K => v = booV (x.contains 13 || x.contains 10) ∧ K = H) := by
  rw [any_cr]
  refine VCall.go Tryd.func139 rfl ?_
  repeat' (first | with_reducible refine And.intro ?_ ?_ | ((with_reducible intro hc); (try simp only [zA, zB, zC, zD, zE, zF, zG, zH, zI, zJ, zK, zL, zM, zN, zO, zP, zQ, zR, zS, zT, zU, zV, zW] at hc); (first | (exact absurd rfl hc) | (exact absurd trivial hc) | (exfalso; omega) | skip)) | ((conv => whnf); first | with_reducible refine And.intro ?_ ?_ | refine ifB_intro ?_ ?_ | refine xA (by omega) ?_ | ((refine xB ?_); intro kw hk1 hk2) | refine xC (by omega) ?_ | refine xD ?_ | refine xE (by omega) ?_ | refine xF (by omega) ?_ | refine xG ?_ | refine xH ?_ | refine xI (by omega) ?_ | refine xJ (by omega) ?_ | (with_reducible refine stopA ?_) | refine Exists.intro _ (And.intro (by rfl) ?_) | refine GOp.via (by rfl) ?_ | (with_reducible first | refine stopO ?_ | refine stopE ?_ | refine stopD ?_ | refine stopW ?_ | refine stopG ?_ | refine stopC ?_ | refine stopR ?_)))
  refine GCall'.mk ((indexAny_call x hx H).mono ?_)
  rintro _ _ ⟨⟨z, rfl, hz⟩, rfl⟩
  repeat' (first | with_reducible refine And.intro ?_ ?_ | ((with_reducible intro hc); (try simp only [zA, zB, zC, zD, zE, zF, zG, zH, zI, zJ, zK, zL, zM, zN, zO, zP, zQ, zR, zS, zT, zU, zV, zW] at hc); (first | (exact absurd rfl hc) | (exact absurd trivial hc) | (exfalso; omega) | skip)) | ((conv => whnf); first | with_reducible refine And.intro ?_ ?_ | refine ifB_intro ?_ ?_ | refine xA (by omega) ?_ | ((refine xB ?_); intro kw hk1 hk2) | refine xC (by omega) ?_ | refine xD ?_ | refine xE (by omega) ?_ | refine xF (by omega) ?_ | refine xG ?_ | refine xH ?_ | refine xI (by omega) ?_ | refine xJ (by omega) ?_ | (with_reducible refine stopA ?_) | refine Exists.intro _ (And.intro (by rfl) ?_) | refine GOp.via (by rfl) ?_ | (with_reducible first | refine stopO ?_ | refine stopE ?_ | refine stopD ?_ | refine stopW ?_ | refine stopG ?_ | refine stopC ?_ | refine stopR ?_)))
  refine Done'.mk ⟨?_, rfl⟩
  rw [← hz]
  exact congrArg (fun b => VV.sc (.bool b)) (leZ_eq 0 z)
end Go.Proofs.YtmmjgbdihgdekaaDoor

/- Many fields: the plain side, Parse of a slice that is named, the fixed fact. -/
namespace Go.Proofs.YtmmjgbdihgdekaaDoor
open Go Go.RowKit
set_option linter.unusedSimpArgs false
set_option linter.unusedVariables false
set_option maxRecDepth 100000
set_option maxHeartbeats 4000000
def lineF : List UInt8 := [97, 58, 32, 98, 10]
/-- So many lines. -/
def reps : Nat → List UInt8
  | 0 => []
  | k + 1 => lineF ++ reps k
theorem reps_len : ∀ k, (reps k).length = 5 * k
  | 0 => rfl
  | k + 1 => by
    unfold reps
    rw [List.length_append, reps_len k]
    show 5 + 5 * k = _
    omega
theorem reps_snoc : ∀ k, reps k ++ lineF = reps (k + 1)
  | 0 => by simp [reps]
  | k + 1 => by
    show (lineF ++ reps k) ++ lineF = lineF ++ reps (k + 1)
    rw [List.append_assoc, reps_snoc k]
def fldF : HF := ([97], [98])
theorem lineF_trim : trimCR [97, 58, 32, 98] = [97, 58, 32, 98] := by decide
theorem lineF_field : hfield [97, 58, 32, 98] = fldF := by decide
theorem lineF_err (n : Nat) : herr [97, 58, 32, 98] n = if 64 ≤ n then 3 else 0 := by
  unfold herr
  rw [lineF_field, if_pos (by decide)]
  unfold hwrong
  rw [if_neg (by decide)]
theorem lineF_step (acc : List HF) (e : HR) (next : List HF → HR) : hstep [97, 58, 32, 98] acc e next = if 64 ≤ acc.length then .err 3 else next (acc ++ [fldF]) := by
  unfold hstep
  rw [lineF_trim, if_neg (by decide), lineF_err, lineF_field]
  by_cases h : 64 ≤ acc.length
  · rw [if_pos h, if_pos h, if_neg (by decide)]
  · rw [if_neg h, if_neg h, if_pos rfl]
theorem hgo_reps (r : List UInt8) : ∀ (k : Nat) (acc : List HF), acc.length ≤ 64 → hgo (reps k ++ r) [] acc = if acc.length + k ≤ 64 then hgo r [] (acc ++ List.replicate k fldF) else .err 3
  | 0, acc, h => by
    rw [if_pos (by omega)]
    simp [reps]
  | k + 1, acc, h => by
    have e : reps (k + 1) ++ r = [97, 58, 32, 98] ++ 10 :: (reps k ++ r) := by simp [reps, lineF]
    rw [e, hgo_line _ _ _ _ (by decide), List.nil_append, lineF_step]
    by_cases h6 : 64 ≤ acc.length
    · rw [if_pos h6, if_neg (by omega)]
    · rw [if_neg h6, hgo_reps r k (acc ++ [fldF]) (by simp; omega)]
      have e2 : (acc ++ [fldF]).length + k = acc.length + (k + 1) := by simp; omega
      rw [e2, List.append_assoc]
      rfl
theorem hparse_few {n : Nat} (h : n ≤ 64) : hparse (reps n) = .ok (List.replicate n fldF) [] := by
  have := hgo_reps [] n [] (by simp)
  rw [List.append_nil, if_pos (by simpa using h)] at this
  exact this
theorem hparse_many {n : Nat} (r : List UInt8) (h : ¬ n ≤ 64) : hparse (reps n ++ r) = .err 3 := by
  have := hgo_reps r n [] (by simp)
  rw [if_neg (by simpa using h)] at this
  exact this
theorem spH_reps (r : List UInt8) : ∀ k, spH (reps k ++ r) [] = (reps k ++ (spH r []).1, (spH r []).2)
  | 0 => by simp [reps]
  | k + 1 => by
    have e : reps (k + 1) ++ r = [97, 58, 32, 98] ++ 10 :: (reps k ++ r) := by simp [reps, lineF]
    rw [e, spH_line _ _ _ (by decide), if_neg (by decide), spH_reps r k]
    simp [reps, lineF]
theorem lvis_line {Q : List UInt8 → Prop} : ∀ (p r cur : List UInt8) (acc : List HF), 10 ∉ p → (trimCR (cur ++ p) = [] ∨ (Q (hfield (trimCR (cur ++ p))).2 ∧ (herr (trimCR (cur ++ p)) acc.length = 0 → lvis Q r [] (acc ++ [hfield (trimCR (cur ++ p))])))) → lvis Q (p ++ 10 :: r) cur acc
  | [], r, cur, acc, _, h => by
    rw [List.append_nil] at h
    show (if (10 : UInt8) = 10 then _ else _)
    rw [if_pos rfl]
    exact h
  | c :: p, r, cur, acc, hp, h => by
    have hc : ¬ c = 10 := fun e => hp (by rw [e]; exact List.mem_cons_self)
    show (if c = 10 then _ else _)
    rw [if_neg hc]
    refine lvis_line p r (cur ++ [c]) acc (fun hm => hp (List.mem_cons_of_mem _ hm)) ?_
    rw [List.append_assoc]
    exact h
theorem lvis_reps (r : List UInt8) : ∀ (k : Nat) (acc : List HF), acc.length ≤ 64 → (acc.length + k ≤ 64 → lvis (fun x => x = [98]) r [] (acc ++ List.replicate k fldF)) → lvis (fun x => x = [98]) (reps k ++ r) [] acc
  | 0, acc, ha, h => by
    have := h (by omega)
    rw [List.replicate_zero, List.append_nil] at this
    exact this
  | k + 1, acc, ha, h => by
    have e : reps (k + 1) ++ r = [97, 58, 32, 98] ++ 10 :: (reps k ++ r) := by simp [reps, lineF]
    rw [e]
    refine lvis_line _ _ _ _ (by decide) (.inr ?_)
    rw [List.nil_append, lineF_trim, lineF_field, lineF_err]
    refine ⟨rfl, fun he => ?_⟩
    have h6 : ¬ 64 ≤ acc.length := fun h6 => by rw [if_pos h6] at he; cases he
    refine lvis_reps r k (acc ++ [fldF]) (by simp; omega) fun hk => ?_
    have := h (by simp at hk; omega)
    rw [List.append_assoc]
    exact this
theorem Frx.agL {K : Heap} {vs us : List VV} (h : FrxL K vs us) : Frx K (.ag vs) (.ag us) := fun B w Z ρ ρ2 y hr hv => by
  cases hv with
  | @ag _ cs h1 r1 =>
    obtain ⟨cs⟩ := cs
    simp only at h1 r1
    have key : ∀ {vs us : List VV} {cs : List Value}, FrxL K vs us → Pw (VRel w Z ρ) vs cs → Pw (VRel w (fun k => B.heap.size ≤ k ∧ k < w.heap.size) ρ2) us cs := by
      intro vs us cs h
      induction h generalizing cs with
      | nil => intro hp; exact ⟨hp.1, fun i u c hu => by simp at hu⟩
      | @cons v u r s hvu _ ih =>
        intro hp
        match cs, hp with
        | c :: ct, hp =>
          have h0 := hp.2 0 v c rfl rfl
          have ht : Pw (VRel w Z ρ) r ct := ⟨by have := hp.1; simpa using this, fun i u c hu hc => hp.2 (i + 1) u c (by simpa using hu) (by simpa using hc)⟩
          exact Pw.cons (hvu B w Z ρ ρ2 c hr h0) (ih ht)
        | [], hp => have := hp.1; simp at this
    have := key h ⟨h1, r1⟩
    exact .ag this.1 this.2
theorem Frx.junk {K : Heap} {v : VV} : Frx K v .junk := fun B w Z ρ ρ2 y hr hv => .junk
theorem Frx.gsJ {K : Heap} {b n z : Nat} {vs : List VV} (hg : K.get b = some (.opt vs)) (hl : vs.length = n * z) : Frx K (.gs b n z) (.ro n (List.replicate vs.length .junk)) := fun B w Z ρ ρ2 y hr hv => by
  cases hv with
  | gs0 =>
    obtain rfl : vs = [] := List.eq_nil_of_length_eq_zero (by simpa using hl)
    exact .ro0
  | gs hk hcap hzz h0 =>
    have hb2 : (K.set b (.cells true vs)).get b = some (.cells true vs) := by rw [Heap.get_set, if_pos rfl, hg]; rfl
    obtain ⟨ds, g1, g2, g3⟩ := (hr.toCells hg hk).read hb2 hk 0 vs.length (by omega)
    rw [List.drop_zero, List.take_of_length_le (Nat.le_refl _)] at g1
    obtain ⟨k', N', x, q1, q2, q3, q4, q5⟩ := hr.objK hg hk
    have q0 := hk
    rw [q0] at q1; injection q1 with q1; injection q1 with q1 q1'; subst q1
    refine .ro (cs := ds) ⟨(q5 rfl).resolve_right id, hr.lt hg hk⟩ hcap (by rw [List.length_replicate]; exact g1.1) (fun i hi => ?_) (fun i u c2 hu hc2 => ?_)
    · have := g3 i (ds[i]'hi) (List.getElem?_eq_getElem hi)
      rw [add_mk] at this
      rw [this, List.getElem?_eq_getElem hi]
    · obtain rfl : u = .junk := List.eq_of_mem_replicate (List.mem_of_getElem? hu)
      exact .junk
/-- What is known of what Parse hands back, wherever its text stood. -/
def hresJ : HR → VV
  | .err e => .tp [.ag [.ro 0 []], .ro 0 [], iV e]
  | .ok l _ => .tp [.ag [.ro l.length (List.replicate (rowsF l).length .junk)], .junk, iV 0]
theorem HQ.frx : ∀ {r : HR} {v : VV} {K : Heap}, HQ r v K → Frx K v (hresJ r)
  | .err e, v, K, h => by
    have h2 : v = .tp [.ag [.sc (.slice none 0 0)], .sc (.slice none 0 0), iV e] := h
    subst h2
    exact Frx.tp (.cons (Frx.agL (.cons Frx.nil0 .nil)) (.cons Frx.nil0 (.cons (Frx.of (exact_sc _)) .nil)))
  | .ok l body, v, K, h => by
    obtain ⟨b, rfl, hg⟩ := h
    exact Frx.tp (.cons (Frx.agL (.cons (Frx.gsJ hg (rowsF_len l)) .nil)) (.cons Frx.junk (.cons (Frx.of (exact_sc _)) .nil)))
theorem cont98_call (x : List UInt8) (H : Heap) (h : x = [98]) (_ : x.length ≤ 10000) : VCall Tryd.prog 139 [roB x, strV [13, 10]] H (fun v K => v = booV (x.contains 13 || x.contains 10) ∧ K = H) := by
  subst h
  exact VCall.closedO orcC_ok mixed 60 (by simp [nameless_roB, nameless_strV]) (by kernel_rfl)
theorem parseJ_call (t : List UInt8) (ht : t.length ≤ 10000) (hv : lvis (fun x => x = [98]) (spH t []).1 [] []) {H : Heap} {v : VV} (hw : View H v (roB t)) : VCall Tryd.prog 43 [v] H (fun x K => x = hresJ (hparse t) ∧ K = H) :=
  VCall.viewed (args' := [roB t]) (Q := fun v K => HK (hparse t) v K) (.cons hw .nil) (parse0_of cont98_call t ht hv) (fun v K h => h.out.frx)
theorem lives11_run : isV (vcallO orcC Tryd.prog (vcodeO orcC Tryd.prog 80) 42 [] ⟨[], 0⟩) (.sc (.bool true)) = true := by kernel_rfl
theorem lives11_call (H : Heap) : VCall Tryd.prog 42 [] H (fun x K => x = .sc (.bool true) ∧ K = H) := VCall.closedO orcC_ok mixed 80 (by simp) lives11_run
end Go.Proofs.YtmmjgbdihgdekaaDoor

/- The document's Wrong and Parse, walked. -/
namespace Go.Proofs.YtmmjgbdihgdekaaDoor
open Go Go.RowKit
set_option linter.unusedSimpArgs false
set_option linter.unusedVariables false
set_option maxRecDepth 100000
set_option maxHeartbeats 4000000
theorem GOp.as {P : Program} {o : Oper} {ts : List VV} {H H' : Heap} {u v : VV} {K : VV → Heap → Prop} (h : vop P o ts H = some (u, H')) (e : u = v) (k : K v H') : GOp P o ts H K := by
  subst e
  exact GOp.via h k
def rowsS (l : List HF) : List VV := l.flatMap fun f => [strV f.1, strV f.2]
theorem rowsS_len (l : List HF) : (rowsS l).length = l.length * 2 := by
  induction l with
  | nil => rfl
  | cons a r ih =>
    show (strV a.1 :: strV a.2 :: rowsS r).length = _
    simp only [List.length_cons, ih]
    omega
theorem rowsS_nameless (l : List HF) : ∀ v ∈ rowsS l, Nameless v := fun v hv => by
  obtain ⟨f, _, h⟩ := List.mem_flatMap.1 hv
  simp only [List.mem_cons, List.not_mem_nil, or_false] at h
  rcases h with rfl | rfl
  · exact nameless_strV _
  · exact nameless_strV _
theorem rowsS_snoc (l : List HF) (f : HF) : rowsS (l ++ [f]) = rowsS l ++ [strV f.1, strV f.2] := by
  unfold rowsS
  rw [List.flatMap_append, List.flatMap_cons, List.flatMap_nil, List.append_nil]
theorem sty_R : SlTy Tryd.prog 79 2 32 := ⟨⟨_, _, _, rfl, rfl, rfl, rfl, rfl, rfl⟩⟩
def rresV : HR → VV
  | .err e => .tp [.ro 0 [], strV [], iV e]
  | .ok l b => .tp [.ro l.length (rowsS l), strV b, iV 0]
theorem frz_rok {K : Heap} {b : Nat} {l : List HF} {body : List UInt8} (hg : K.get b = some (.opt (rowsS l))) : Frz K (.tp [.gs b l.length 2, strV body, iV 0]) (rresV (.ok l body)) :=
  Frz.tp (.cons (Frz.gs hg (rowsS_len l) (rowsS_nameless l)) (.cons (Frz.of (nameless_strV _)) (.cons (Frz.of (nameless_sc _)) .nil)))
theorem frz_rerr {K : Heap} (e : Nat) : Frz K (.tp [.sc (.slice none 0 0), strV [], iV e]) (rresV (.err e)) :=
  Frz.tp (.cons Frz.nil0 (.cons (Frz.of (nameless_strV _)) (.cons (Frz.of (nameless_sc _)) .nil)))
theorem hgo_cut {r : List UInt8} (acc : List HF) (hr : r ≠ []) : hgo r [] acc = hstep (cutB r 10).1 acc (.ok acc (cutB r 10).2.1) (fun a => hgo (cutB r 10).2.1 [] a) ∧ (cutB r 10).2.1.length < r.length ∧ (cutB r 10).1.length ≤ r.length := by
  by_cases hc : r.contains 10 = true
  · obtain ⟨e1, e2, e3⟩ := line_at hc
    have hcut : cutB r 10 = (r.take (r.idxOf 10), r.drop (r.idxOf 10 + 1), true) := by unfold cutB; rw [if_pos hc]
    rw [hcut]
    refine ⟨?_, by simp only [List.length_drop]; omega, by simp only [List.length_take]; omega⟩
    conv => lhs; rw [e1]
    rw [hgo_line _ _ _ _ e2, List.nil_append]
  · have hcut : cutB r 10 = (r, [], false) := by unfold cutB; rw [if_neg hc]
    rw [hcut]
    refine ⟨?_, ?_, Nat.le_refl _⟩
    · rw [hgo_last _ _ _ (by simpa using hc), List.nil_append]
      rfl
    · cases r with
      | nil => exact absurd rfl hr
      | cons a t => simp
theorem rwrong_call (nm val : List UInt8) (n : Nat) (hnm : nm.length ≤ 10000) (hval : val.length ≤ 10000) (hn : n ≤ 10000) (H : Heap) : VCall Tryd.prog 55 [.ag [strV nm, strV val], iV n] H (fun v K => v = iV (hwrong (nm, val) n) ∧ K = H) := by
  refine VCall.pure (by simp [nameless_sc, iV, show Nameless (.ag [strV nm, strV val]) from nameless_ag (by simp [nameless_strV])]) (nameless_sc _) ?_
  have htok := fun H => rtoken_call nm H (by omega)
  have htr := fun H => rtrim_call val (by omega) H
  have h13 := fun H => in_call 13 val H (by omega)
  have h10 := fun H => in_call 10 val H (by omega)
  unfold hwrong
  refine VCall.go Tryd.func55 rfl ?_
  repeat' (first | with_reducible refine And.intro ?_ ?_ | ((with_reducible intro hc); (try simp only [zA, zB, zC, zD, zE, zF, zG, zH, zI, zJ, zK, zL, zM, zN, zO, zP, zQ, zR, zS, zT, zU, zV, zW] at hc); (first | (exact absurd rfl hc) | (exact absurd trivial hc) | (exfalso; omega) | skip)) | exact Is.mk rfl rfl | ((conv => whnf); first | with_reducible refine And.intro ?_ ?_ | with_reducible intro hx | exact Is.mk rfl rfl | (with_reducible first | apply Val.via | apply ValH.via) | refine ifB_intro ?_ ?_ | refine xA (by omega) ?_ | ((refine xB ?_); intro kw hk1 hk2) | refine xC (by omega) ?_ | refine xD ?_ | refine xE (by omega) ?_ | refine xF (by omega) ?_ | refine xG ?_ | refine xH ?_ | refine xI (by omega) ?_ | refine xJ (by omega) ?_ | (with_reducible refine stopA ?_) | refine Exists.intro _ (And.intro (by (first | exact vat_of rfl rfl rfl | rfl)) ?_) | refine GOp.drawn (by rfl) (by rfl) (Nat.le_of_ble_eq_true (by rfl)) (by rfl) | refine GOp.via (by rfl) ?_ | refine GWP.drawY mixed _ (by kernel_rfl) (by rfl) ?_ | (first | (refine GCall.mk ((htok _).mono ?_); rintro _ _ ⟨rfl, rfl⟩) | (refine GCall.mk ((htr _).mono ?_); rintro _ _ ⟨rfl, rfl⟩) | (refine GCall.mk ((h13 _).mono ?_); rintro _ _ ⟨rfl, rfl⟩) | (refine GCall.mk ((h10 _).mono ?_); rintro _ _ ⟨rfl, rfl⟩)) | (with_reducible first | refine stopO ?_ | refine stopE ?_ | refine stopD ?_ | refine stopW ?_ | refine stopG ?_ | refine stopC ?_ | refine stopR ?_)))
  (all_goals (first | omega | skip))
  all_goals (clear htok htr h13 h10; refine Done'.mk ?_; first | (rw [if_pos (by simp_all)]; rfl) | (rw [if_neg (by simp_all), if_pos (by omega)]; rfl) | (rw [if_neg (by simp_all), if_neg (by omega)]; rfl))
theorem rparse_call (t : List UInt8) (ht : t.length ≤ 10000) (H : Heap) : VCall Tryd.prog 44 [strV t] H (fun v K => v = rresV (hparse t) ∧ K = H) := by
  refine VCall.frozen (Q := fun v K => Frz K v (rresV (hparse t))) (by simp [nameless_strV]) ?_ (fun v K h => h)
  refine VCall.go Tryd.func44 rfl ?_
  repeat' (first | with_reducible refine And.intro ?_ ?_ | ((with_reducible intro hc); (try simp only [zA, zB, zC, zD, zE, zF, zG, zH, zI, zJ, zK, zL, zM, zN, zO, zP, zQ, zR, zS, zT, zU, zV, zW] at hc); (first | (exact absurd rfl hc) | (exact absurd trivial hc) | (exfalso; omega) | skip)) | exact Is.mk rfl rfl | ((conv => whnf); first | with_reducible refine And.intro ?_ ?_ | with_reducible intro hx | exact Is.mk rfl rfl | (with_reducible first | apply Val.via | apply ValH.via) | refine ifB_intro ?_ ?_ | refine xA (by omega) ?_ | ((refine xB ?_); intro kw hk1 hk2) | refine xC (by omega) ?_ | refine xD ?_ | refine xE (by omega) ?_ | refine xF (by omega) ?_ | refine xG ?_ | refine xH ?_ | refine xI (by omega) ?_ | refine xJ (by omega) ?_ | (with_reducible refine stopA ?_) | refine Exists.intro _ (And.intro (by (first | exact vat_of rfl rfl rfl | rfl)) ?_) | refine GOp.drawn (by rfl) (by rfl) (Nat.le_of_ble_eq_true (by rfl)) (by rfl) | refine GOp.via (by rfl) ?_ | refine GWP.drawY mixed _ (by kernel_rfl) (by rfl) ?_ | fail | (with_reducible first | refine stopO ?_ | refine stopE ?_ | refine stopD ?_ | refine stopW ?_ | refine stopG ?_ | refine stopC ?_ | refine stopR ?_)))
  (all_goals (first | omega | skip))
  (refine GWP'.mk (GWP.loopB [0] (fun (s : List HF × List UInt8) => s.1.length + s.2.length ≤ t.length ∧ hgo s.2 [] s.1 = hparse t) (fun s => [(0, strV s.2), (5, .gs 1 s.1.length 2)]) (fun s => [(1, .opt (rowsS s.1))]) 2 (fun s => s.2.length) ([], t) ⟨by simp, rfl⟩ ?_); (conv => whnf); refine And.intro ?_ ?_)
  · focus (refine KeptA.of [(0, 1)] rfl rfl (by repeat' (first | exact trivial | refine And.intro rfl ?_)) rfl ?_ ?_; all_goals (repeat' (first | exact trivial | (refine And.intro ?_ ?_) | (refine Exists.intro _ (And.intro rfl ?_)) | (refine RenO.opt ?_) | (refine RenO.toOpt ?_) | (refine RenO.cells ?_) | exact RenO.defs | exact RenL.nil | (refine RenL.cons ?_ ?_) | (first | (first | exact RenL.of (rowsS_nameless _) | exact RenV.of (nameless_strV _)) | (with_reducible exact RenV.sc) | exact RenV.gsN | exact RenV.gsZ | exact RenV.gsL (by decide) | exact RenV.slL (by decide) | ((first | refine RenV.gsE (by (first | exact List.Mem.head _ | exact List.Mem.tail _ (List.Mem.head _) | exact List.Mem.tail _ (List.Mem.tail _ (List.Mem.head _)) | (simp; done))) ?_ | refine RenV.eq (scI_eq ?_) (nameless_sc _)); (first | rfl | omega | (simp only [List.length_append, List.length_cons, List.length_nil, List.length_map, List.length_take, List.length_drop] <;> omega) | (simp only <;> omega) | (simp <;> omega))) | exact RenV.undef) | (with_unfolding_all exact (rfl : (_ : VObj) = _)))))
  rintro ⟨acc, r⟩ ⟨h1, h2⟩
  simp only at h1 h2 ⊢
  by_cases hr : r = []
  · subst hr
    have h3 : HR.ok acc [] = hparse t := h2
    repeat' (first | with_reducible refine And.intro ?_ ?_ | ((with_reducible intro hc); (try simp only [zA, zB, zC, zD, zE, zF, zG, zH, zI, zJ, zK, zL, zM, zN, zO, zP, zQ, zR, zS, zT, zU, zV, zW] at hc); (first | (exact absurd rfl hc) | (exact absurd trivial hc) | (exfalso; omega) | skip)) | exact Is.mk rfl rfl | ((conv => whnf); first | with_reducible refine And.intro ?_ ?_ | with_reducible intro hx | exact Is.mk rfl rfl | (with_reducible first | apply Val.via | apply ValH.via) | refine ifB_intro ?_ ?_ | refine xA (by omega) ?_ | ((refine xB ?_); intro kw hk1 hk2) | refine xC (by omega) ?_ | refine xD ?_ | refine xE (by omega) ?_ | refine xF (by omega) ?_ | refine xG ?_ | refine xH ?_ | refine xI (by omega) ?_ | refine xJ (by omega) ?_ | (with_reducible refine stopA ?_) | refine Exists.intro _ (And.intro (by (first | exact vat_of rfl rfl rfl | rfl)) ?_) | refine GOp.drawn (by rfl) (by rfl) (Nat.le_of_ble_eq_true (by rfl)) (by rfl) | refine GOp.via (by rfl) ?_ | refine GWP.drawY mixed _ (by kernel_rfl) (by rfl) ?_ | fail | (with_reducible first | refine stopO ?_ | refine stopE ?_ | refine stopD ?_ | refine stopW ?_ | refine stopG ?_ | refine stopC ?_ | refine stopR ?_)))
    (all_goals (first | omega | skip))
    rw [← h3]
    exact Done'.mk (frz_rok rfl)
  · obtain ⟨g1, g2, g3⟩ := hgo_cut acc hr
    rw [g1] at h2
    have hra := fun H => rat_call r 10 H (by omega)
    obtain ⟨p, hp⟩ : ∃ p, (cutB r 10).1 = p := ⟨_, rfl⟩
    obtain ⟨rest, hrest⟩ : ∃ p, (cutB r 10).2.1 = p := ⟨_, rfl⟩
    rw [hp] at h2 hra g3
    rw [hrest] at h2 hra g2
    unfold hstep at h2
    have hpz := str_size p
    rcases List.eq_nil_or_concat p with rfl | ⟨q, d, hq⟩
    · rw [if_pos (show trimCR [] = [] from rfl)] at h2
      repeat' (first | with_reducible refine And.intro ?_ ?_ | ((with_reducible intro hc); (try simp only [zA, zB, zC, zD, zE, zF, zG, zH, zI, zJ, zK, zL, zM, zN, zO, zP, zQ, zR, zS, zT, zU, zV, zW] at hc); (first | (exact absurd rfl hc) | (exact absurd trivial hc) | (exfalso; omega) | skip)) | exact Is.mk rfl rfl | ((conv => whnf); first | with_reducible refine And.intro ?_ ?_ | with_reducible intro hx | exact Is.mk rfl rfl | (with_reducible first | apply Val.via | apply ValH.via) | refine ifB_intro ?_ ?_ | refine xA (by omega) ?_ | ((refine xB ?_); intro kw hk1 hk2) | refine xC (by omega) ?_ | refine xD ?_ | refine xE (by omega) ?_ | refine xF (by omega) ?_ | refine xG ?_ | refine xH ?_ | refine xI (by omega) ?_ | refine xJ (by omega) ?_ | (with_reducible refine stopA ?_) | refine Exists.intro _ (And.intro (by (first | exact vat_of rfl rfl rfl | rfl)) ?_) | refine GOp.drawn (by rfl) (by rfl) (Nat.le_of_ble_eq_true (by rfl)) (by rfl) | refine GOp.via (by rfl) ?_ | refine GWP.drawY mixed _ (by kernel_rfl) (by rfl) ?_ | (refine GCall.mk ((hra _).mono ?_); rintro _ _ ⟨rfl, rfl⟩) | (with_reducible first | refine stopO ?_ | refine stopE ?_ | refine stopD ?_ | refine stopW ?_ | refine stopG ?_ | refine stopC ?_ | refine stopR ?_)))
      all_goals (first | omega | (exfalso; exact hr hc) | (simp at hc; done) | skip)
      rw [← h2]
      exact Done'.mk (frz_rok rfl)
    · rw [List.concat_eq_append] at hq
      have hpl : p.length = q.length + 1 := by rw [hq]; simp
      have hpn : ¬ p = [] := fun e => by rw [e] at hpl; simp at hpl
      have hd : p[((p.length : Int) - 1).toNat]? = some d := by
        rw [show ((p.length : Int) - 1).toNat = q.length by omega, hq]
        simp
      have hsl : VV.sc (.string ((⟨p.toArray⟩ : ByteArray).extract 0 (((⟨p.toArray⟩ : ByteArray).size : Int) - 1).toNat)) = strV q := strV_ext (by
        rw [hpz, show ((p.length : Int) - 1).toNat - 0 = q.length by omega, List.drop_zero, hq]
        simp)
      by_cases hd13 : d = 13
      · have hy : trimCR p = q := by
          unfold trimCR
          rw [hq, hd13]
          simp
        rw [hy] at h2
        have hd13z : (d.toNat : Int) = 13 := by rw [hd13]; rfl
        have hq2 : ((⟨p.toArray⟩ : ByteArray).extract 0 ((p.length : Int) - 1).toNat).data.toList = q := by
          rw [hpz] at hsl
          injection hsl with h
          injection h with h
          rw [h]
        by_cases hyn : q = []
        · rw [if_pos hyn] at h2
          repeat' (first | with_reducible refine And.intro ?_ ?_ | ((with_reducible intro hc); (try simp only [zA, zB, zC, zD, zE, zF, zG, zH, zI, zJ, zK, zL, zM, zN, zO, zP, zQ, zR, zS, zT, zU, zV, zW] at hc); (first | (exact absurd rfl hc) | (exact absurd trivial hc) | (exfalso; omega) | skip)) | exact Is.mk rfl rfl | ((conv => whnf); first | with_reducible refine And.intro ?_ ?_ | with_reducible intro hx | exact Is.mk rfl rfl | (with_reducible first | apply Val.via | apply ValH.via) | refine ifB_intro ?_ ?_ | refine xA (by omega) ?_ | ((refine xB ?_); intro kw hk1 hk2) | refine xC (by omega) ?_ | refine xD ?_ | refine xE (by omega) ?_ | refine xF (by omega) ?_ | refine xG ?_ | refine xH ?_ | refine xI (by omega) ?_ | refine xJ (by omega) ?_ | (with_reducible refine stopA ?_) | refine Exists.intro _ (And.intro (by (first | (simp only [hpz]; exact hd) | exact vat_of rfl rfl rfl | rfl)) ?_) | refine GOp.drawn (by rfl) (by rfl) (Nat.le_of_ble_eq_true (by rfl)) (by rfl) | refine GOp.via (by rfl) ?_ | refine GWP.drawY mixed _ (by kernel_rfl) (by rfl) ?_ | (refine GCall.mk ((hra _).mono ?_); rintro _ _ ⟨rfl, rfl⟩) | (with_reducible first | refine stopO ?_ | refine stopE ?_ | refine stopD ?_ | refine stopW ?_ | refine stopG ?_ | refine stopC ?_ | refine stopR ?_)))
          all_goals (first | omega | contradiction | (exfalso; exact hpn hc) | (exfalso; exact hr hc) | (exfalso; exact hc (hq2.trans hyn)) | skip)
          rw [← h2]
          exact Done'.mk (frz_rok rfl)
        · rw [if_neg hyn] at h2
          repeat' (first | with_reducible refine And.intro ?_ ?_ | ((with_reducible intro hc); (try simp only [zA, zB, zC, zD, zE, zF, zG, zH, zI, zJ, zK, zL, zM, zN, zO, zP, zQ, zR, zS, zT, zU, zV, zW] at hc); (first | (exact absurd rfl hc) | (exact absurd trivial hc) | (exfalso; omega) | skip)) | exact Is.mk rfl rfl | ((conv => whnf); first | with_reducible refine And.intro ?_ ?_ | with_reducible intro hx | exact Is.mk rfl rfl | (with_reducible first | apply Val.via | apply ValH.via) | refine ifB_intro ?_ ?_ | refine xA (by omega) ?_ | ((refine xB ?_); intro kw hk1 hk2) | refine xC (by omega) ?_ | refine xD ?_ | refine xE (by omega) ?_ | refine xF (by omega) ?_ | refine xG ?_ | refine xH ?_ | refine xI (by omega) ?_ | refine xJ (by omega) ?_ | (with_reducible refine stopA ?_) | refine Exists.intro _ (And.intro (by (first | (simp only [hpz]; exact hd) | exact vat_of rfl rfl rfl | rfl)) ?_) | refine GOp.drawn (by rfl) (by rfl) (Nat.le_of_ble_eq_true (by rfl)) (by rfl) | refine GOp.via (by rfl) ?_ | refine GWP.drawY mixed _ (by kernel_rfl) (by rfl) ?_ | (refine GCall.mk ((hra _).mono ?_); rintro _ _ ⟨rfl, rfl⟩) | (with_reducible first | refine stopO ?_ | refine stopE ?_ | refine stopD ?_ | refine stopW ?_ | refine stopG ?_ | refine stopC ?_ | refine stopR ?_)))
          all_goals (first | omega | contradiction | (exfalso; exact hpn hc) | (exfalso; exact hr hc) | (exfalso; exact hyn (hq2.symm.trans hc)) | skip)
          have hee : herr q acc.length = if (cutB q 58).2.2 then hwrong (hfield q) acc.length else 2 := rfl
          have hff : hfield q = ((cutB q 58).1, trimB (cutB q 58).2.1) := rfl
          rw [hee, hff] at h2
          have hat := fun H => rat_call q 58 H (by omega)
          have hcl := cutB_len q 58
          have htl := (trimB_sub (cutB q 58).2.1).length_le
          have htr := fun H => rtrim_call (cutB q 58).2.1 (by omega) H
          have hwr := fun H => rwrong_call (cutB q 58).1 (trimB (cutB q 58).2.1) acc.length (by omega) (by omega) (by omega) H
          clear hff hee
          generalize trimB (cutB q 58).2.1 = val at *
          generalize (cutB q 58).1 = nm at *
          generalize (cutB q 58).2.1 = v0 at *
          generalize hwrong (nm, val) acc.length = e at *
          cases hfd : (cutB q 58).2.2 with
          | false =>
            rw [hfd] at hat h2
            rw [if_neg (show ¬ (if false = true then e else 2) = 0 by simp)] at h2
            refine GCall'.mk (VCall.arg21 hsl ((hat _).mono ?_))
            rintro _ _ ⟨rfl, rfl⟩
            repeat' (first | with_reducible refine And.intro ?_ ?_ | ((with_reducible intro hc); (try simp only [zA, zB, zC, zD, zE, zF, zG, zH, zI, zJ, zK, zL, zM, zN, zO, zP, zQ, zR, zS, zT, zU, zV, zW] at hc); (first | (exact absurd rfl hc) | (exact absurd trivial hc) | (exfalso; omega) | skip)) | exact Is.mk rfl rfl | ((conv => whnf); first | with_reducible refine And.intro ?_ ?_ | with_reducible intro hx | exact Is.mk rfl rfl | (with_reducible first | apply Val.via | apply ValH.via) | refine ifB_intro ?_ ?_ | refine xA (by omega) ?_ | ((refine xB ?_); intro kw hk1 hk2) | refine xC (by omega) ?_ | refine xD ?_ | refine xE (by omega) ?_ | refine xF (by omega) ?_ | refine xG ?_ | refine xH ?_ | refine xI (by omega) ?_ | refine xJ (by omega) ?_ | (with_reducible refine stopA ?_) | refine Exists.intro _ (And.intro (by (first | exact vat_of rfl rfl rfl | rfl)) ?_) | refine GOp.drawn (by rfl) (by rfl) (Nat.le_of_ble_eq_true (by rfl)) (by rfl) | refine GOp.via (by rfl) ?_ | refine GWP.drawY mixed _ (by kernel_rfl) (by rfl) ?_ | (first | (refine GCall.mk ((htr _).mono ?_); rintro _ _ ⟨rfl, rfl⟩)) | (with_reducible first | refine stopO ?_ | refine stopE ?_ | refine stopD ?_ | refine stopW ?_ | refine stopG ?_ | refine stopC ?_ | refine stopR ?_)))
            (all_goals (first | omega | skip))
            rw [← h2]
            exact Done'.mk (frz_rerr 2)
          | true =>
            rw [hfd] at hat h2
            simp only [if_true] at h2
            by_cases he : e = 0
            · rw [if_pos he] at h2
              subst he
              refine GCall'.mk (VCall.arg21 hsl ((hat _).mono ?_))
              rintro _ _ ⟨rfl, rfl⟩
              repeat' (first | with_reducible refine And.intro ?_ ?_ | ((with_reducible intro hc); (try simp only [zA, zB, zC, zD, zE, zF, zG, zH, zI, zJ, zK, zL, zM, zN, zO, zP, zQ, zR, zS, zT, zU, zV, zW] at hc); (first | (exact absurd rfl hc) | (exact absurd trivial hc) | (exfalso; omega) | skip)) | exact Is.mk rfl rfl | ((conv => whnf); first | with_reducible refine And.intro ?_ ?_ | with_reducible intro hx | exact Is.mk rfl rfl | (with_reducible first | apply Val.via | apply ValH.via) | refine ifB_intro ?_ ?_ | refine xA (by omega) ?_ | ((refine xB ?_); intro kw hk1 hk2) | refine xC (by omega) ?_ | refine xD ?_ | refine xE (by omega) ?_ | refine xF (by omega) ?_ | refine xG ?_ | refine xH ?_ | refine xI (by omega) ?_ | refine xJ (by omega) ?_ | (with_reducible refine stopA ?_) | refine Exists.intro _ (And.intro (by (first | exact vat_of rfl rfl rfl | rfl)) ?_) | refine GOp.drawn (by rfl) (by rfl) (Nat.le_of_ble_eq_true (by rfl)) (by rfl) | refine GOp.via (by rfl) ?_ | refine GWP.drawY mixed _ (by kernel_rfl) (by rfl) ?_ | (first | (refine GCall.mk ((htr _).mono ?_); rintro _ _ ⟨rfl, rfl⟩) | (refine GCall.mk ((hwr _).mono ?_); rintro _ _ ⟨rfl, rfl⟩) | (refine stopO (GOp'.grow rfl sty_R (d := .slice 98) Tryd.underlying79 (by intro k h; cases h) rfl (m := 1) (l := [strV nm, strV val]) (by rfl) (by rfl) rfl (rowsS_len acc) (by omega) (by omega) ?_))) | (with_reducible first | refine stopO ?_ | refine stopE ?_ | refine stopD ?_ | refine stopW ?_ | refine stopG ?_ | refine stopC ?_ | refine stopR ?_)))
              (all_goals (first | omega | skip))
              focus (refine Done'.mk ⟨(acc ++ [(nm, val)], rest), ⟨by simp only [List.length_append, List.length_cons, List.length_nil]; omega, h2⟩, ?_, KeptA.of [(4, 1)] rfl rfl (by repeat' (first | exact trivial | refine And.intro rfl ?_)) rfl ?_ ?_⟩; (first | omega | (simp only; omega)); all_goals (repeat' (first | exact trivial | (refine And.intro ?_ ?_) | (refine Exists.intro _ (And.intro rfl ?_)) | (refine RenO.opt ?_) | (refine RenO.toOpt ?_) | (refine RenO.cells ?_) | exact RenO.defs | exact RenL.nil | (refine RenL.cons ?_ ?_) | (first | (first | exact RenL.eq (rowsS_snoc acc (nm, val)).symm (rowsS_nameless _) | exact RenV.of (nameless_strV _) | exact RenV.eq (scI_eq (by omega)) (nameless_sc _)) | (with_reducible exact RenV.sc) | exact RenV.gsN | exact RenV.gsZ | exact RenV.gsL (by decide) | exact RenV.slL (by decide) | ((first | refine RenV.gsE (by (first | exact List.Mem.head _ | exact List.Mem.tail _ (List.Mem.head _) | exact List.Mem.tail _ (List.Mem.tail _ (List.Mem.head _)) | (simp; done))) ?_ | refine RenV.eq (scI_eq ?_) (nameless_sc _)); (first | rfl | omega | (simp only [List.length_append, List.length_cons, List.length_nil, List.length_map, List.length_take, List.length_drop] <;> omega) | (simp only <;> omega) | (simp <;> omega))) | exact RenV.undef) | (with_unfolding_all exact (rfl : (_ : VObj) = _)))))
            · rw [if_neg he] at h2
              refine GCall'.mk (VCall.arg21 hsl ((hat _).mono ?_))
              rintro _ _ ⟨rfl, rfl⟩
              repeat' (first | with_reducible refine And.intro ?_ ?_ | ((with_reducible intro hc); (try simp only [zA, zB, zC, zD, zE, zF, zG, zH, zI, zJ, zK, zL, zM, zN, zO, zP, zQ, zR, zS, zT, zU, zV, zW] at hc); (first | (exact absurd rfl hc) | (exact absurd trivial hc) | (exfalso; omega) | skip)) | exact Is.mk rfl rfl | ((conv => whnf); first | with_reducible refine And.intro ?_ ?_ | with_reducible intro hx | exact Is.mk rfl rfl | (with_reducible first | apply Val.via | apply ValH.via) | refine ifB_intro ?_ ?_ | refine xA (by omega) ?_ | ((refine xB ?_); intro kw hk1 hk2) | refine xC (by omega) ?_ | refine xD ?_ | refine xE (by omega) ?_ | refine xF (by omega) ?_ | refine xG ?_ | refine xH ?_ | refine xI (by omega) ?_ | refine xJ (by omega) ?_ | (with_reducible refine stopA ?_) | refine Exists.intro _ (And.intro (by (first | exact vat_of rfl rfl rfl | rfl)) ?_) | refine GOp.drawn (by rfl) (by rfl) (Nat.le_of_ble_eq_true (by rfl)) (by rfl) | refine GOp.via (by rfl) ?_ | refine GWP.drawY mixed _ (by kernel_rfl) (by rfl) ?_ | (first | (refine GCall.mk ((htr _).mono ?_); rintro _ _ ⟨rfl, rfl⟩) | (refine GCall.mk ((hwr _).mono ?_); rintro _ _ ⟨rfl, rfl⟩)) | (with_reducible first | refine stopO ?_ | refine stopE ?_ | refine stopD ?_ | refine stopW ?_ | refine stopG ?_ | refine stopC ?_ | refine stopR ?_)))
              (all_goals (first | omega | skip))
              rw [← h2]
              exact Done'.mk (frz_rerr e)
      · have hy : trimCR p = p := by
          unfold trimCR
          rw [if_neg (by rw [hq]; simpa using hd13)]
        rw [hy, if_neg hpn] at h2
        have hd13z : ¬ ((d.toNat : Int) = 13) := fun e => hd13 (UInt8.toNat_inj.1 (show d.toNat = (13 : UInt8).toNat by have h : (13 : UInt8).toNat = 13 := rfl; omega))
        repeat' (first | with_reducible refine And.intro ?_ ?_ | ((with_reducible intro hc); (try simp only [zA, zB, zC, zD, zE, zF, zG, zH, zI, zJ, zK, zL, zM, zN, zO, zP, zQ, zR, zS, zT, zU, zV, zW] at hc); (first | (exact absurd rfl hc) | (exact absurd trivial hc) | (exfalso; omega) | skip)) | exact Is.mk rfl rfl | ((conv => whnf); first | with_reducible refine And.intro ?_ ?_ | with_reducible intro hx | exact Is.mk rfl rfl | (with_reducible first | apply Val.via | apply ValH.via) | refine ifB_intro ?_ ?_ | refine xA (by omega) ?_ | ((refine xB ?_); intro kw hk1 hk2) | refine xC (by omega) ?_ | refine xD ?_ | refine xE (by omega) ?_ | refine xF (by omega) ?_ | refine xG ?_ | refine xH ?_ | refine xI (by omega) ?_ | refine xJ (by omega) ?_ | (with_reducible refine stopA ?_) | refine Exists.intro _ (And.intro (by (first | (simp only [hpz]; exact hd) | exact vat_of rfl rfl rfl | rfl)) ?_) | refine GOp.drawn (by rfl) (by rfl) (Nat.le_of_ble_eq_true (by rfl)) (by rfl) | refine GOp.via (by rfl) ?_ | refine GWP.drawY mixed _ (by kernel_rfl) (by rfl) ?_ | (refine GCall.mk ((hra _).mono ?_); rintro _ _ ⟨rfl, rfl⟩) | (with_reducible first | refine stopO ?_ | refine stopE ?_ | refine stopD ?_ | refine stopW ?_ | refine stopG ?_ | refine stopC ?_ | refine stopR ?_)))
        all_goals (first | omega | contradiction | (exfalso; exact hpn hc) | (exfalso; exact hr hc) | skip)
        have hee : herr p acc.length = if (cutB p 58).2.2 then hwrong (hfield p) acc.length else 2 := rfl
        have hff : hfield p = ((cutB p 58).1, trimB (cutB p 58).2.1) := rfl
        rw [hee, hff] at h2
        have hat := fun H => rat_call p 58 H (by omega)
        have hcl := cutB_len p 58
        have htl := (trimB_sub (cutB p 58).2.1).length_le
        have htr := fun H => rtrim_call (cutB p 58).2.1 (by omega) H
        have hwr := fun H => rwrong_call (cutB p 58).1 (trimB (cutB p 58).2.1) acc.length (by omega) (by omega) (by omega) H
        clear hff hee
        generalize trimB (cutB p 58).2.1 = val at *
        generalize (cutB p 58).1 = nm at *
        generalize (cutB p 58).2.1 = v0 at *
        generalize hwrong (nm, val) acc.length = e at *
        cases hfd : (cutB p 58).2.2 with
        | false =>
          rw [hfd] at hat h2
          rw [if_neg (show ¬ (if false = true then e else 2) = 0 by simp)] at h2
          refine GCall'.mk ((hat _).mono ?_)
          rintro _ _ ⟨rfl, rfl⟩
          repeat' (first | with_reducible refine And.intro ?_ ?_ | ((with_reducible intro hc); (try simp only [zA, zB, zC, zD, zE, zF, zG, zH, zI, zJ, zK, zL, zM, zN, zO, zP, zQ, zR, zS, zT, zU, zV, zW] at hc); (first | (exact absurd rfl hc) | (exact absurd trivial hc) | (exfalso; omega) | skip)) | exact Is.mk rfl rfl | ((conv => whnf); first | with_reducible refine And.intro ?_ ?_ | with_reducible intro hx | exact Is.mk rfl rfl | (with_reducible first | apply Val.via | apply ValH.via) | refine ifB_intro ?_ ?_ | refine xA (by omega) ?_ | ((refine xB ?_); intro kw hk1 hk2) | refine xC (by omega) ?_ | refine xD ?_ | refine xE (by omega) ?_ | refine xF (by omega) ?_ | refine xG ?_ | refine xH ?_ | refine xI (by omega) ?_ | refine xJ (by omega) ?_ | (with_reducible refine stopA ?_) | refine Exists.intro _ (And.intro (by (first | exact vat_of rfl rfl rfl | rfl)) ?_) | refine GOp.drawn (by rfl) (by rfl) (Nat.le_of_ble_eq_true (by rfl)) (by rfl) | refine GOp.via (by rfl) ?_ | refine GWP.drawY mixed _ (by kernel_rfl) (by rfl) ?_ | (first | (refine GCall.mk ((htr _).mono ?_); rintro _ _ ⟨rfl, rfl⟩)) | (with_reducible first | refine stopO ?_ | refine stopE ?_ | refine stopD ?_ | refine stopW ?_ | refine stopG ?_ | refine stopC ?_ | refine stopR ?_)))
          (all_goals (first | omega | skip))
          rw [← h2]
          exact Done'.mk (frz_rerr 2)
        | true =>
          rw [hfd] at hat h2
          simp only [if_true] at h2
          by_cases he : e = 0
          · rw [if_pos he] at h2
            subst he
            refine GCall'.mk ((hat _).mono ?_)
            rintro _ _ ⟨rfl, rfl⟩
            repeat' (first | with_reducible refine And.intro ?_ ?_ | ((with_reducible intro hc); (try simp only [zA, zB, zC, zD, zE, zF, zG, zH, zI, zJ, zK, zL, zM, zN, zO, zP, zQ, zR, zS, zT, zU, zV, zW] at hc); (first | (exact absurd rfl hc) | (exact absurd trivial hc) | (exfalso; omega) | skip)) | exact Is.mk rfl rfl | ((conv => whnf); first | with_reducible refine And.intro ?_ ?_ | with_reducible intro hx | exact Is.mk rfl rfl | (with_reducible first | apply Val.via | apply ValH.via) | refine ifB_intro ?_ ?_ | refine xA (by omega) ?_ | ((refine xB ?_); intro kw hk1 hk2) | refine xC (by omega) ?_ | refine xD ?_ | refine xE (by omega) ?_ | refine xF (by omega) ?_ | refine xG ?_ | refine xH ?_ | refine xI (by omega) ?_ | refine xJ (by omega) ?_ | (with_reducible refine stopA ?_) | refine Exists.intro _ (And.intro (by (first | exact vat_of rfl rfl rfl | rfl)) ?_) | refine GOp.drawn (by rfl) (by rfl) (Nat.le_of_ble_eq_true (by rfl)) (by rfl) | refine GOp.via (by rfl) ?_ | refine GWP.drawY mixed _ (by kernel_rfl) (by rfl) ?_ | (first | (refine GCall.mk ((htr _).mono ?_); rintro _ _ ⟨rfl, rfl⟩) | (refine GCall.mk ((hwr _).mono ?_); rintro _ _ ⟨rfl, rfl⟩) | (refine stopO (GOp'.grow rfl sty_R (d := .slice 98) Tryd.underlying79 (by intro k h; cases h) rfl (m := 1) (l := [strV nm, strV val]) (by rfl) (by rfl) rfl (rowsS_len acc) (by omega) (by omega) ?_))) | (with_reducible first | refine stopO ?_ | refine stopE ?_ | refine stopD ?_ | refine stopW ?_ | refine stopG ?_ | refine stopC ?_ | refine stopR ?_)))
            (all_goals (first | omega | skip))
            focus (refine Done'.mk ⟨(acc ++ [(nm, val)], rest), ⟨by simp only [List.length_append, List.length_cons, List.length_nil]; omega, h2⟩, ?_, KeptA.of [(4, 1)] rfl rfl (by repeat' (first | exact trivial | refine And.intro rfl ?_)) rfl ?_ ?_⟩; (first | omega | (simp only; omega)); all_goals (repeat' (first | exact trivial | (refine And.intro ?_ ?_) | (refine Exists.intro _ (And.intro rfl ?_)) | (refine RenO.opt ?_) | (refine RenO.toOpt ?_) | (refine RenO.cells ?_) | exact RenO.defs | exact RenL.nil | (refine RenL.cons ?_ ?_) | (first | (first | exact RenL.eq (rowsS_snoc acc (nm, val)).symm (rowsS_nameless _) | exact RenV.of (nameless_strV _) | exact RenV.eq (scI_eq (by omega)) (nameless_sc _)) | (with_reducible exact RenV.sc) | exact RenV.gsN | exact RenV.gsZ | exact RenV.gsL (by decide) | exact RenV.slL (by decide) | ((first | refine RenV.gsE (by (first | exact List.Mem.head _ | exact List.Mem.tail _ (List.Mem.head _) | exact List.Mem.tail _ (List.Mem.tail _ (List.Mem.head _)) | (simp; done))) ?_ | refine RenV.eq (scI_eq ?_) (nameless_sc _)); (first | rfl | omega | (simp only [List.length_append, List.length_cons, List.length_nil, List.length_map, List.length_take, List.length_drop] <;> omega) | (simp only <;> omega) | (simp <;> omega))) | exact RenV.undef) | (with_unfolding_all exact (rfl : (_ : VObj) = _)))))
          · rw [if_neg he] at h2
            refine GCall'.mk ((hat _).mono ?_)
            rintro _ _ ⟨rfl, rfl⟩
            repeat' (first | with_reducible refine And.intro ?_ ?_ | ((with_reducible intro hc); (try simp only [zA, zB, zC, zD, zE, zF, zG, zH, zI, zJ, zK, zL, zM, zN, zO, zP, zQ, zR, zS, zT, zU, zV, zW] at hc); (first | (exact absurd rfl hc) | (exact absurd trivial hc) | (exfalso; omega) | skip)) | exact Is.mk rfl rfl | ((conv => whnf); first | with_reducible refine And.intro ?_ ?_ | with_reducible intro hx | exact Is.mk rfl rfl | (with_reducible first | apply Val.via | apply ValH.via) | refine ifB_intro ?_ ?_ | refine xA (by omega) ?_ | ((refine xB ?_); intro kw hk1 hk2) | refine xC (by omega) ?_ | refine xD ?_ | refine xE (by omega) ?_ | refine xF (by omega) ?_ | refine xG ?_ | refine xH ?_ | refine xI (by omega) ?_ | refine xJ (by omega) ?_ | (with_reducible refine stopA ?_) | refine Exists.intro _ (And.intro (by (first | exact vat_of rfl rfl rfl | rfl)) ?_) | refine GOp.drawn (by rfl) (by rfl) (Nat.le_of_ble_eq_true (by rfl)) (by rfl) | refine GOp.via (by rfl) ?_ | refine GWP.drawY mixed _ (by kernel_rfl) (by rfl) ?_ | (first | (refine GCall.mk ((htr _).mono ?_); rintro _ _ ⟨rfl, rfl⟩) | (refine GCall.mk ((hwr _).mono ?_); rintro _ _ ⟨rfl, rfl⟩)) | (with_reducible first | refine stopO ?_ | refine stopE ?_ | refine stopD ?_ | refine stopW ?_ | refine stopG ?_ | refine stopC ?_ | refine stopR ?_)))
            (all_goals (first | omega | skip))
            rw [← h2]
            exact Done'.mk (frz_rerr e)
end Go.Proofs.YtmmjgbdihgdekaaDoor

/- The document's Values; the law's comparison of texts. -/
namespace Go.Proofs.YtmmjgbdihgdekaaDoor
open Go Go.RowKit
set_option linter.unusedSimpArgs false
set_option linter.unusedVariables false
set_option maxRecDepth 100000
set_option maxHeartbeats 4000000
theorem same1_call (a b : List (List UInt8)) (H : Heap) (hl : a.length ≤ 1000000) : VCall Tryd.prog 30 [roS a, roS b] H (fun x K => x = booV (a == b) ∧ K = H) := by
  refine VCall.pure (by simp [nameless_roS]) (nameless_sc _) ?_
  refine VCall.go Tryd.func30 rfl ?_
  repeat' (first | with_reducible refine And.intro ?_ ?_ | ((with_reducible intro hc); (try simp only [zA, zB, zC, zD, zE, zF, zG, zH, zI, zJ, zK, zL, zM, zN, zO, zP, zQ, zR, zS, zT, zU, zV, zW] at hc); (first | (exact absurd rfl hc) | (exact absurd trivial hc) | (exfalso; omega) | skip)) | ((conv => whnf); first | with_reducible refine And.intro ?_ ?_ | refine ifB_intro ?_ ?_ | refine xA (by omega) ?_ | ((refine xB ?_); intro kw hk1 hk2) | refine xC (by omega) ?_ | refine xD ?_ | refine xE (by omega) ?_ | refine xF (by omega) ?_ | refine xG ?_ | refine xH ?_ | refine xI (by omega) ?_ | refine xJ (by omega) ?_ | (with_reducible refine stopA ?_) | refine Exists.intro _ (And.intro (by rfl) ?_) | refine GOp.via (by rfl) ?_ | (with_reducible first | refine stopO ?_ | refine stopE ?_ | refine stopD ?_ | refine stopW ?_ | refine stopG ?_ | refine stopC ?_ | refine stopR ?_)))
  · refine Done'.mk ?_
    have : (a == b) = false := by
      simp only [beq_eq_false_iff_ne, ne_eq]
      intro e
      subst e
      omega
    rw [this]
    rfl
  refine GWP'.mk (GWP.loopA (α := Nat) [4, 5, 13, 14, 15, 16, 17, 18, 19, 20, 21, 22, 23, 24, 25] [] (fun i => i ≤ a.length ∧ (a == b) = (a.drop i == b.drop i)) (fun i => [(13, iV i)]) (fun _ => []) 0 (fun i => a.length - i) 0 ⟨Nat.zero_le _, rfl⟩ ⟨rfl, rfl, trivial, [], _, rfl, ⟨⟨_, rfl, .sc⟩, trivial⟩, .nil⟩ ?_)
  rintro i ⟨h1, h2⟩
  by_cases hil : i < a.length
  · obtain ⟨x, hx⟩ := list_at hil
    obtain ⟨y, hy⟩ := list_at (l := b) (i := i) (by omega)
    rw [drop_eq hx hy] at h2
    repeat' (first | with_reducible refine And.intro ?_ ?_ | ((with_reducible intro hc); (try simp only [zA, zB, zC, zD, zE, zF, zG, zH, zI, zJ, zK, zL, zM, zN, zO, zP, zQ, zR, zS, zT, zU, zV, zW] at hc); (first | (exact absurd rfl hc) | (exact absurd trivial hc) | (exfalso; omega) | skip)) | exact Is.mk rfl rfl | ((conv => whnf); first | with_reducible refine And.intro ?_ ?_ | exact Is.mk rfl rfl | (with_reducible apply Val.via) | refine ifB_intro ?_ ?_ | refine xA (by omega) ?_ | ((refine xB ?_); intro kw hk1 hk2) | refine xC (by omega) ?_ | refine xD ?_ | refine xE (by omega) ?_ | refine xF (by omega) ?_ | refine xG ?_ | refine xH ?_ | refine xI (by omega) ?_ | refine xJ (by omega) ?_ | (with_reducible refine stopA ?_) | refine Exists.intro _ (And.intro (by (first | exact vat_of vagg_str (maps_at hx) (mul1 rfl rfl) | exact vat_of vagg_str (maps_at hy) (mul1 rfl rfl) | rfl)) ?_) | refine GOp.drawn (by rfl) (by rfl) (Nat.le_of_ble_eq_true (by rfl)) (by rfl) | refine GOp.via (by rfl) ?_ | (refine GWP.draw mixed _ (by kernel_rfl) (by rfl) ?_) | (with_reducible first | refine stopO ?_ | refine stopE ?_ | refine stopD ?_ | refine stopW ?_ | refine stopG ?_) | fail | (with_reducible refine stopC ?_) | (with_reducible refine stopR ?_)))
    all_goals (first | omega | skip)
    · have hxy : (x == y) = false := by simpa [str_list] using hc
      refine Done'.mk ?_
      rw [h2, hxy]
      rfl
    · have hxy : (x == y) = true := by simpa [str_list] using hc
      rw [hxy, Bool.true_and] at h2
      refine Done'.mk ⟨i + 1, ⟨by omega, h2⟩, by omega, rfl, rfl, trivial, [], _, rfl, ⟨⟨_, rfl, RenV.eq rfl (nameless_sc _)⟩, trivial⟩, .nil⟩
  · repeat' (first | with_reducible refine And.intro ?_ ?_ | ((with_reducible intro hc); (try simp only [zA, zB, zC, zD, zE, zF, zG, zH, zI, zJ, zK, zL, zM, zN, zO, zP, zQ, zR, zS, zT, zU, zV, zW] at hc); (first | (exact absurd rfl hc) | (exact absurd trivial hc) | (exfalso; omega) | skip)) | ((conv => whnf); first | with_reducible refine And.intro ?_ ?_ | refine ifB_intro ?_ ?_ | refine xA (by omega) ?_ | ((refine xB ?_); intro kw hk1 hk2) | refine xC (by omega) ?_ | refine xD ?_ | refine xE (by omega) ?_ | refine xF (by omega) ?_ | refine xG ?_ | refine xH ?_ | refine xI (by omega) ?_ | refine xJ (by omega) ?_ | (with_reducible refine stopA ?_) | refine Exists.intro _ (And.intro (by rfl) ?_) | refine GOp.via (by rfl) ?_ | (with_reducible first | refine stopO ?_ | refine stopE ?_ | refine stopD ?_ | refine stopW ?_ | refine stopG ?_ | refine stopC ?_ | refine stopR ?_)))
    all_goals (first | omega | skip)
    refine Done'.mk ?_
    rw [h2, List.drop_eq_nil_of_le (by omega), List.drop_eq_nil_of_le (by omega)]
    rfl
theorem rows2_at (a b : HF → VV) : ∀ (l : List HF) (i : Nat) (f : HF), l[i]? = some f → ((l.flatMap fun f => [a f, b f]).drop (i * 2)).take 2 = [a f, b f] ∧ i * 2 + 2 ≤ (l.flatMap fun f => [a f, b f]).length
  | [], i, f, h => by simp at h
  | x :: l, 0, f, h => by
    simp at h
    subst h
    rw [List.flatMap_cons]
    refine ⟨rfl, ?_⟩
    simp
  | x :: l, i + 1, f, h => by
    have ih := rows2_at a b l i f (by simpa using h)
    rw [List.flatMap_cons, show (i + 1) * 2 = (i * 2) + 1 + 1 by omega]
    refine ⟨ih.1, ?_⟩
    have := ih.2
    simp only [List.length_append, List.length_cons, List.length_nil] at this ⊢
    omega
theorem vat_rowsS {l : List HF} {i o : Nat} {f : HF} (h : l[i]? = some f) (ho : o = i * 2) : vat Tryd.prog 98 (rowsS l) o = some (.ag [strV f.1, strV f.2]) := by
  subst ho
  obtain ⟨h1, h2⟩ := rows2_at (fun f => strV f.1) (fun f => strV f.2) l i f h
  have h0 : vagg Tryd.prog 98 = some true := by kernel_rfl
  have hz : vsize Tryd.prog 98 = some 2 := by kernel_rfl
  have h3 : Nat.ble (i * 2 + 2) (rowsS l).length = true := Nat.ble_eq_true_of_le h2
  simp only [vat, h0, hz, h3]
  exact congrArg (fun x => some (VV.ag x)) h1
theorem vat_rowsF {l : List HF} {i o : Nat} {f : HF} (h : l[i]? = some f) (ho : o = i * 2) : vat Tryd.prog 97 (rowsF l) o = some (.ag [roB f.1, roB f.2]) := by
  subst ho
  obtain ⟨h1, h2⟩ := rows2_at (fun f => roB f.1) (fun f => roB f.2) l i f h
  have h0 : vagg Tryd.prog 97 = some true := by kernel_rfl
  have hz : vsize Tryd.prog 97 = some 2 := by kernel_rfl
  have h3 : Nat.ble (i * 2 + 2) (rowsF l).length = true := Nat.ble_eq_true_of_le h2
  simp only [vat, h0, hz, h3]
  exact congrArg (fun x => some (VV.ag x)) h1
/-- The values of a name. -/
def valOf (name : List UInt8) (f : HF) : Option (List UInt8) := if f.1.map lowB = name.map lowB then some f.2 else none
def valsB (l : List HF) (name : List UInt8) : List (List UInt8) := l.filterMap (valOf name)
theorem rvalues_call (l : List HF) (name : List UInt8) (hl : l.length ≤ 10000) (hn : name.length ≤ 10000) (hf : ∀ f ∈ l, f.1.length ≤ 10000) (H : Heap) : VCall Tryd.prog 45 [.ro l.length (rowsS l), strV name] H (fun v K => v = roS (valsB l name) ∧ K = H) := by
  refine VCall.frozen (Q := fun v K => Frz K v (roS (valsB l name))) (by simp [nameless_strV, show Nameless (.ro l.length (rowsS l)) from nameless_ro (rowsS_nameless l)]) ?_ (fun v K h => h)
  have hln := fun H => rlower_call name H (by omega)
  refine VCall.go Tryd.func45 rfl ?_
  repeat' (first | with_reducible refine And.intro ?_ ?_ | ((with_reducible intro hc); (try simp only [zA, zB, zC, zD, zE, zF, zG, zH, zI, zJ, zK, zL, zM, zN, zO, zP, zQ, zR, zS, zT, zU, zV, zW] at hc); (first | (exact absurd rfl hc) | (exact absurd trivial hc) | (exfalso; omega) | skip)) | exact Is.mk rfl rfl | ((conv => whnf); first | with_reducible refine And.intro ?_ ?_ | with_reducible intro hx | exact Is.mk rfl rfl | (with_reducible first | apply Val.via | apply ValH.via) | refine ifB_intro ?_ ?_ | refine xA (by omega) ?_ | ((refine xB ?_); intro kw hk1 hk2) | refine xC (by omega) ?_ | refine xD ?_ | refine xE (by omega) ?_ | refine xF (by omega) ?_ | refine xG ?_ | refine xH ?_ | refine xI (by omega) ?_ | refine xJ (by omega) ?_ | (with_reducible refine stopA ?_) | refine Exists.intro _ (And.intro (by (first | exact vat_of rfl rfl rfl | rfl)) ?_) | refine GOp.drawn (by rfl) (by rfl) (Nat.le_of_ble_eq_true (by rfl)) (by rfl) | refine GOp.via (by rfl) ?_ | refine GWP.drawY mixed _ (by kernel_rfl) (by rfl) ?_ | fail | (with_reducible first | refine stopO ?_ | refine stopE ?_ | refine stopD ?_ | refine stopW ?_ | refine stopG ?_ | refine stopC ?_ | refine stopR ?_)))
  (all_goals (first | omega | skip))
  (refine GWP'.mk (GWP.loopB [0] (fun (s : List (List UInt8) × Nat) => s.2 ≤ l.length ∧ s.1.length ≤ s.2 ∧ s.1 ++ (l.drop s.2).filterMap (valOf name) = valsB l name) (fun s => [(11, iV s.2), (5, .gs 1 s.1.length 1)]) (fun s => [(1, .opt (s.1.map strV))]) 2 (fun s => l.length - s.2) ([], 0) ⟨Nat.zero_le _, Nat.le_refl _, rfl⟩ ?_); (conv => whnf); refine And.intro ?_ ?_)
  · focus (refine KeptA.of [(0, 1)] rfl rfl (by repeat' (first | exact trivial | refine And.intro rfl ?_)) rfl ?_ ?_; all_goals (repeat' (first | exact trivial | (refine And.intro ?_ ?_) | (refine Exists.intro _ (And.intro rfl ?_)) | (refine RenO.opt ?_) | (refine RenO.toOpt ?_) | (refine RenO.cells ?_) | exact RenO.defs | exact RenL.nil | (refine RenL.cons ?_ ?_) | (first | exact RenL.of (nameless_map nameless_strV _) | (with_reducible exact RenV.sc) | exact RenV.gsN | exact RenV.gsZ | exact RenV.gsL (by decide) | exact RenV.slL (by decide) | ((first | refine RenV.gsE (by (first | exact List.Mem.head _ | exact List.Mem.tail _ (List.Mem.head _) | exact List.Mem.tail _ (List.Mem.tail _ (List.Mem.head _)) | (simp; done))) ?_ | refine RenV.eq (scI_eq ?_) (nameless_sc _)); (first | rfl | omega | (simp only [List.length_append, List.length_cons, List.length_nil, List.length_map, List.length_take, List.length_drop] <;> omega) | (simp only <;> omega) | (simp <;> omega))) | exact RenV.undef) | (with_unfolding_all exact (rfl : (_ : VObj) = _)))))
  rintro ⟨done, i⟩ ⟨h1, h2, h3⟩
  simp only at h1 h2 h3 ⊢
  by_cases hil : i < l.length
  · obtain ⟨f, hfi⟩ : ∃ f, l[i]? = some f := ⟨l[i], List.getElem?_eq_getElem hil⟩
    have hfl := hf f (List.mem_of_getElem? hfi)
    have hlf := fun H => rlower_call f.1 H (by omega)
    have hdr : l.drop i = f :: l.drop (i + 1) := by
      obtain ⟨hi, e⟩ := List.getElem?_eq_some_iff.1 hfi
      rw [List.drop_eq_getElem_cons hi, e]
    rw [hdr, List.filterMap_cons] at h3
    by_cases hw : f.1.map lowB = name.map lowB
    · rw [show valOf name f = some f.2 by unfold valOf; rw [if_pos hw]] at h3
      rw [hw] at hlf
      repeat' (first | with_reducible refine And.intro ?_ ?_ | ((with_reducible intro hc); (try simp only [zA, zB, zC, zD, zE, zF, zG, zH, zI, zJ, zK, zL, zM, zN, zO, zP, zQ, zR, zS, zT, zU, zV, zW] at hc); (first | (exact absurd rfl hc) | (exact absurd trivial hc) | (exfalso; omega) | skip)) | exact Is.mk rfl rfl | ((conv => whnf); first | with_reducible refine And.intro ?_ ?_ | with_reducible intro hx | exact Is.mk rfl rfl | (with_reducible first | apply Val.via | apply ValH.via) | refine ifB_intro ?_ ?_ | refine xA (by omega) ?_ | ((refine xB ?_); intro kw hk1 hk2) | refine xC (by omega) ?_ | refine xD ?_ | refine xE (by omega) ?_ | refine xF (by omega) ?_ | refine xG ?_ | refine xH ?_ | refine xI (by omega) ?_ | refine xJ (by omega) ?_ | (with_reducible refine stopA ?_) | refine Exists.intro _ (And.intro (by (first | exact vat_rowsS hfi rfl | exact vat_of rfl rfl rfl | rfl)) ?_) | refine GOp.drawn (by rfl) (by rfl) (Nat.le_of_ble_eq_true (by rfl)) (by rfl) | refine GOp.via (by rfl) ?_ | refine GWP.drawY mixed _ (by kernel_rfl) (by rfl) ?_ | (first | (refine GCall.mk ((hlf _).mono ?_); rintro _ _ ⟨rfl, rfl⟩) | (refine GCall.mk ((hln _).mono ?_); rintro _ _ ⟨rfl, rfl⟩) | (refine stopO (GOp'.grow rfl sty_s (d := .slice 9) Tryd.underlying57 (by intro k h; cases h) rfl (m := 1) (l := [strV f.2]) (by rfl) (by rfl) rfl (by simp) (by omega) (by omega) ?_))) | (with_reducible first | refine stopO ?_ | refine stopE ?_ | refine stopD ?_ | refine stopW ?_ | refine stopG ?_ | refine stopC ?_ | refine stopR ?_)))
      (all_goals (first | omega | skip))
      focus (refine Done'.mk ⟨(done ++ [f.2], i + 1), ⟨by simp only; omega, by simp only [List.length_append, List.length_cons, List.length_nil]; omega, by simp only; rw [← h3]; simp⟩, ?_, KeptA.of [(4, 1)] rfl rfl (by repeat' (first | exact trivial | refine And.intro rfl ?_)) rfl ?_ ?_⟩; (first | omega | (simp only; omega)); all_goals (repeat' (first | exact trivial | (refine And.intro ?_ ?_) | (refine Exists.intro _ (And.intro rfl ?_)) | (refine RenO.opt ?_) | (refine RenO.toOpt ?_) | (refine RenO.cells ?_) | exact RenO.defs | exact RenL.nil | (refine RenL.cons ?_ ?_) | (first | (first | exact RenL.eq (by simp) (nameless_map nameless_strV _) | exact RenV.eq (scI_eq (by omega)) (nameless_sc _)) | (with_reducible exact RenV.sc) | exact RenV.gsN | exact RenV.gsZ | exact RenV.gsL (by decide) | exact RenV.slL (by decide) | ((first | refine RenV.gsE (by (first | exact List.Mem.head _ | exact List.Mem.tail _ (List.Mem.head _) | exact List.Mem.tail _ (List.Mem.tail _ (List.Mem.head _)) | (simp; done))) ?_ | refine RenV.eq (scI_eq ?_) (nameless_sc _)); (first | rfl | omega | (simp only [List.length_append, List.length_cons, List.length_nil, List.length_map, List.length_take, List.length_drop] <;> omega) | (simp only <;> omega) | (simp <;> omega))) | exact RenV.undef) | (with_unfolding_all exact (rfl : (_ : VObj) = _)))))
    · rw [show valOf name f = none by unfold valOf; rw [if_neg hw]] at h3
      repeat' (first | with_reducible refine And.intro ?_ ?_ | ((with_reducible intro hc); (try simp only [zA, zB, zC, zD, zE, zF, zG, zH, zI, zJ, zK, zL, zM, zN, zO, zP, zQ, zR, zS, zT, zU, zV, zW] at hc); (first | (exact absurd rfl hc) | (exact absurd trivial hc) | (exfalso; omega) | skip)) | exact Is.mk rfl rfl | ((conv => whnf); first | with_reducible refine And.intro ?_ ?_ | with_reducible intro hx | exact Is.mk rfl rfl | (with_reducible first | apply Val.via | apply ValH.via) | refine ifB_intro ?_ ?_ | refine xA (by omega) ?_ | ((refine xB ?_); intro kw hk1 hk2) | refine xC (by omega) ?_ | refine xD ?_ | refine xE (by omega) ?_ | refine xF (by omega) ?_ | refine xG ?_ | refine xH ?_ | refine xI (by omega) ?_ | refine xJ (by omega) ?_ | (with_reducible refine stopA ?_) | refine Exists.intro _ (And.intro (by (first | exact vat_rowsS hfi rfl | exact vat_of rfl rfl rfl | rfl)) ?_) | refine GOp.drawn (by rfl) (by rfl) (Nat.le_of_ble_eq_true (by rfl)) (by rfl) | refine GOp.via (by rfl) ?_ | refine GWP.drawY mixed _ (by kernel_rfl) (by rfl) ?_ | (first | (refine GCall.mk ((hlf _).mono ?_); rintro _ _ ⟨rfl, rfl⟩) | (refine GCall.mk ((hln _).mono ?_); rintro _ _ ⟨rfl, rfl⟩)) | (with_reducible first | refine stopO ?_ | refine stopE ?_ | refine stopD ?_ | refine stopW ?_ | refine stopG ?_ | refine stopC ?_ | refine stopR ?_)))
      all_goals (first | omega | (exact absurd hc hw) | skip)
      focus (refine Done'.mk ⟨(done, i + 1), ⟨by simp only; omega, by simp only; omega, h3⟩, ?_, KeptA.of [(1, 1)] rfl rfl (by repeat' (first | exact trivial | refine And.intro rfl ?_)) rfl ?_ ?_⟩; (first | omega | (simp only; omega)); all_goals (repeat' (first | exact trivial | (refine And.intro ?_ ?_) | (refine Exists.intro _ (And.intro rfl ?_)) | (refine RenO.opt ?_) | (refine RenO.toOpt ?_) | (refine RenO.cells ?_) | exact RenO.defs | exact RenL.nil | (refine RenL.cons ?_ ?_) | (first | (first | exact RenL.of (nameless_map nameless_strV _) | exact RenV.eq (scI_eq (by omega)) (nameless_sc _)) | (with_reducible exact RenV.sc) | exact RenV.gsN | exact RenV.gsZ | exact RenV.gsL (by decide) | exact RenV.slL (by decide) | ((first | refine RenV.gsE (by (first | exact List.Mem.head _ | exact List.Mem.tail _ (List.Mem.head _) | exact List.Mem.tail _ (List.Mem.tail _ (List.Mem.head _)) | (simp; done))) ?_ | refine RenV.eq (scI_eq ?_) (nameless_sc _)); (first | rfl | omega | (simp only [List.length_append, List.length_cons, List.length_nil, List.length_map, List.length_take, List.length_drop] <;> omega) | (simp only <;> omega) | (simp <;> omega))) | exact RenV.undef) | (with_unfolding_all exact (rfl : (_ : VObj) = _)))))
  · obtain rfl : i = l.length := by omega
    rw [List.drop_length, List.filterMap_nil, List.append_nil] at h3
    subst h3
    repeat' (first | with_reducible refine And.intro ?_ ?_ | ((with_reducible intro hc); (try simp only [zA, zB, zC, zD, zE, zF, zG, zH, zI, zJ, zK, zL, zM, zN, zO, zP, zQ, zR, zS, zT, zU, zV, zW] at hc); (first | (exact absurd rfl hc) | (exact absurd trivial hc) | (exfalso; omega) | skip)) | exact Is.mk rfl rfl | ((conv => whnf); first | with_reducible refine And.intro ?_ ?_ | with_reducible intro hx | exact Is.mk rfl rfl | (with_reducible first | apply Val.via | apply ValH.via) | refine ifB_intro ?_ ?_ | refine xA (by omega) ?_ | ((refine xB ?_); intro kw hk1 hk2) | refine xC (by omega) ?_ | refine xD ?_ | refine xE (by omega) ?_ | refine xF (by omega) ?_ | refine xG ?_ | refine xH ?_ | refine xI (by omega) ?_ | refine xJ (by omega) ?_ | (with_reducible refine stopA ?_) | refine Exists.intro _ (And.intro (by (first | exact vat_of rfl rfl rfl | rfl)) ?_) | refine GOp.drawn (by rfl) (by rfl) (Nat.le_of_ble_eq_true (by rfl)) (by rfl) | refine GOp.via (by rfl) ?_ | refine GWP.drawY mixed _ (by kernel_rfl) (by rfl) ?_ | fail | (with_reducible first | refine stopO ?_ | refine stopE ?_ | refine stopD ?_ | refine stopW ?_ | refine stopG ?_ | refine stopC ?_ | refine stopR ?_)))
    (all_goals (first | omega | skip))
    exact Done'.mk (frz_gsS1 rfl)
end Go.Proofs.YtmmjgbdihgdekaaDoor

/- Values and Get of a header, and the law's texts, walked. -/
namespace Go.Proofs.YtmmjgbdihgdekaaDoor
open Go Go.RowKit
set_option linter.unusedSimpArgs false
set_option linter.unusedVariables false
set_option maxRecDepth 100000
set_option maxHeartbeats 16000000
/-- A header that nobody writes. -/
def hdrV (l : List HF) : VV := .ag [.ro l.length (rowsF l)]
theorem nameless_hdrV (l : List HF) : Nameless (hdrV l) := nameless_ag (by simp [show Nameless (.ro l.length (rowsF l)) from nameless_ro (rowsF_nameless l)])
def valuesV (l : List HF) (name : List UInt8) : VV := .fn (.func 98) [] [.rp [.ro l.length (rowsF l)] 0, .rp [strV name] 0]
theorem nameless_valuesV (l : List HF) (name : List UInt8) : Nameless (valuesV l name) := nameless_fn (by simp) (by
  simp only [List.mem_cons, List.not_mem_nil, or_false, forall_eq_or_imp, forall_eq]
  exact ⟨nameless_rp (by simp [show Nameless (.ro l.length (rowsF l)) from nameless_ro (rowsF_nameless l)]), nameless_rp (by simp [nameless_strV])⟩)
theorem values_call (l : List HF) (name : List UInt8) (H : Heap) : VCall Tryd.prog 48 [hdrV l, strV name] H (fun v K => v = valuesV l name ∧ K = H) := by
  refine VCall.frozen (Q := fun v K => Frz K v (valuesV l name)) (by simp [nameless_strV, nameless_hdrV]) ?_ (fun v K h => h)
  refine VCall.go Tryd.func48 rfl ?_
  repeat' (first | with_reducible refine And.intro ?_ ?_ | ((with_reducible intro hc); (try simp only [zA, zB, zC, zD, zE, zF, zG, zH, zI, zJ, zK, zL, zM, zN, zO, zP, zQ, zR, zS, zT, zU, zV, zW] at hc); (first | (exact absurd rfl hc) | (exact absurd trivial hc) | (exfalso; omega) | skip)) | exact Is.mk rfl rfl | ((conv => whnf); first | with_reducible refine And.intro ?_ ?_ | with_reducible intro hx | exact Is.mk rfl rfl | (with_reducible first | apply Val.via | apply ValH.via) | refine ifB_intro ?_ ?_ | refine xA (by omega) ?_ | ((refine xB ?_); intro kw hk1 hk2) | refine xC (by omega) ?_ | refine xD ?_ | refine xE (by omega) ?_ | refine xF (by omega) ?_ | refine xG ?_ | refine xH ?_ | refine xI (by omega) ?_ | refine xJ (by omega) ?_ | (with_reducible refine stopA ?_) | refine Exists.intro _ (And.intro (by (first | exact vat_of rfl rfl rfl | rfl)) ?_) | refine GOp.drawn (by rfl) (by rfl) (Nat.le_of_ble_eq_true (by rfl)) (by rfl) | refine GOp.via (by rfl) ?_ | refine GWP.drawY mixed _ (by kernel_rfl) (by rfl) ?_ | fail | (with_reducible first | refine stopO ?_ | refine stopE ?_ | refine stopD ?_ | refine stopW ?_ | refine stopG ?_ | refine stopC ?_ | refine stopR ?_)))
  exact Done'.mk (Frz.fn .nil (.cons (Frz.ptr (vs := [.ro l.length (rowsF l)]) rfl (FrzL.of (by simp [show Nameless (.ro l.length (rowsF l)) from nameless_ro (rowsF_nameless l)]))) (.cons (Frz.ptr (vs := [strV name]) rfl (FrzL.of (by simp [nameless_strV]))) .nil)))
theorem twin_call (a b : List UInt8) (ha : a.length ≤ 10000) (hb : b.length ≤ 10000) (H : Heap) : VCall Tryd.prog 101 [.ag [roB a, roB b]] H (fun v K => v = .ag [roB a, roB b] ∧ K = H) := by
  refine VCall.frozen (Q := fun v K => Frz K v (.ag [roB a, roB b])) (by simp [show Nameless (.ag [roB a, roB b]) from nameless_ag (by simp [nameless_roB])]) ?_ (fun v K h => h)
  refine VCall.go Tryd.func101 rfl ?_
  repeat' (first | with_reducible refine And.intro ?_ ?_ | ((with_reducible intro hc); (try simp only [zA, zB, zC, zD, zE, zF, zG, zH, zI, zJ, zK, zL, zM, zN, zO, zP, zQ, zR, zS, zT, zU, zV, zW] at hc); (first | (exact absurd rfl hc) | (exact absurd trivial hc) | (exfalso; omega) | skip)) | exact Is.mk rfl rfl | ((conv => whnf); first | with_reducible refine And.intro ?_ ?_ | with_reducible intro hx | exact Is.mk rfl rfl | (with_reducible first | apply Val.via | apply ValH.via) | refine ifB_intro ?_ ?_ | refine xA (by omega) ?_ | ((refine xB ?_); intro kw hk1 hk2) | refine xC (by omega) ?_ | refine xD ?_ | refine xE (by omega) ?_ | refine xF (by omega) ?_ | refine xG ?_ | refine xH ?_ | refine xI (by omega) ?_ | refine xJ (by omega) ?_ | (with_reducible refine stopA ?_) | refine Exists.intro _ (And.intro (by (first | exact vat_of rfl rfl rfl | rfl)) ?_) | refine GOp.drawn (by rfl) (by rfl) (Nat.le_of_ble_eq_true (by rfl)) (by rfl) | refine GOp.via (by rfl) ?_ | refine GWP.drawY mixed _ (by kernel_rfl) (by rfl) ?_ | (first | (refine GCall.mk ((clone_call a _ (by omega)).mono ?_); rintro _ _ ⟨rfl, rfl⟩) | (refine GCall.mk ((clone_call b _ (by omega)).mono ?_); rintro _ _ ⟨rfl, rfl⟩)) | (with_reducible first | refine stopO ?_ | refine stopE ?_ | refine stopD ?_ | refine stopW ?_ | refine stopG ?_ | refine stopC ?_ | refine stopR ?_)))
  (all_goals (first | omega | skip))
  exact Done'.mk (Frz.eq (show _ = VV.ag [roB a, roB b] from rfl) (nameless_ag (by simp [nameless_roB])))
theorem sameV_call {H : Heap} {b n : Nat} {c : Option Nat} {vs : List VV} (a m : List UInt8) (ha : a.length ≤ 10000) (hm : m.length ≤ 10000) (hg : H.get b = some (.cells true vs)) (hv : vs = m.map bV) (hn : n = m.length) : VCall Tryd.prog 99 [roB a, .sl b 0 n c 1] H (fun v K => v = booV (a.map lowB == m.map lowB) ∧ K = H) := by
  subst hv hn
  refine VCall.viewed (args' := [roB a, roB m]) (Q := fun v K => v = booV (a.map lowB == m.map lowB)) (.cons (View.of (nameless_roB a)) (.cons ?_ .nil)) ((same_call a m _ (by omega) (by omega)).mono fun v K h => h.1) (fun v K e => by subst e; exact Frx.of (exact_sc _))
  have := View.sl (H := H) (b := b) (o := 0) (n := m.length) (z := 1) (c := c) hg (by simp) (nameless_map nameless_bV m)
  rw [List.drop_zero, Nat.mul_one, List.take_of_length_le (by simp)] at this
  unfold roB
  exact this
theorem texts_call (l : List HF) (name : List UInt8) (hl : l.length ≤ 10000) (hn : name.length ≤ 10000) (hf : ∀ f ∈ l, f.1.length ≤ 10000 ∧ f.2.length ≤ 10000) (H : Heap) : VCall Tryd.prog 47 [valuesV l name] H (fun v K => v = roS (valsB l name) ∧ K = H) := by
  refine VCall.frozen (Q := fun v K => Frz K v (roS (valsB l name))) (by simp [nameless_valuesV]) ?_ (fun v K h => h)
  refine VCall.go Tryd.func47 rfl ?_
  repeat' (first | with_reducible refine And.intro ?_ ?_ | ((with_reducible intro hc); (try simp only [zA, zB, zC, zD, zE, zF, zG, zH, zI, zJ, zK, zL, zM, zN, zO, zP, zQ, zR, zS, zT, zU, zV, zW] at hc); (first | (exact absurd rfl hc) | (exact absurd trivial hc) | (exfalso; omega) | skip)) | exact Is.mk rfl rfl | ((conv => whnf); first | with_reducible refine And.intro ?_ ?_ | with_reducible intro hx | exact Is.mk rfl rfl | (with_reducible first | apply Val.via | apply ValH.via) | refine ifB_intro ?_ ?_ | refine xA (by omega) ?_ | ((refine xB ?_); intro kw hk1 hk2) | refine xC (by omega) ?_ | refine xD ?_ | refine xE (by omega) ?_ | refine xF (by omega) ?_ | refine xG ?_ | refine xH ?_ | refine xI (by omega) ?_ | refine xJ (by omega) ?_ | (with_reducible refine stopA ?_) | refine Exists.intro _ (And.intro (by (first | exact vat_of rfl rfl rfl | rfl)) ?_) | refine GOp.drawn (by rfl) (by rfl) (Nat.le_of_ble_eq_true (by rfl)) (by rfl) | refine GOp.via (by rfl) ?_ | refine GWP.drawY mixed _ (by kernel_rfl) (by rfl) ?_ | fail | (with_reducible first | refine stopO ?_ | refine stopE ?_ | refine stopD ?_ | refine stopW ?_ | refine stopG ?_ | refine stopC ?_ | refine stopR ?_)))
  (all_goals (first | omega | skip))
  refine GWP'.mk (GWP.range0 rfl rfl ?_)
  refine VCall.go Tryd.func98 rfl ?_
  repeat' (first | with_reducible refine And.intro ?_ ?_ | ((with_reducible intro hc); (try simp only [zA, zB, zC, zD, zE, zF, zG, zH, zI, zJ, zK, zL, zM, zN, zO, zP, zQ, zR, zS, zT, zU, zV, zW] at hc); (first | (exact absurd rfl hc) | (exact absurd trivial hc) | (exfalso; omega) | skip)) | exact Is.mk rfl rfl | ((conv => whnf); first | with_reducible refine And.intro ?_ ?_ | with_reducible intro hx | exact Is.mk rfl rfl | (with_reducible first | apply Val.via | apply ValH.via) | refine ifB_intro ?_ ?_ | refine xA (by omega) ?_ | ((refine xB ?_); intro kw hk1 hk2) | refine xC (by omega) ?_ | refine xD ?_ | refine xE (by omega) ?_ | refine xF (by omega) ?_ | refine xG ?_ | refine xH ?_ | refine xI (by omega) ?_ | refine xJ (by omega) ?_ | (with_reducible refine stopA ?_) | refine Exists.intro _ (And.intro (by (first | exact vat_of rfl rfl rfl | rfl)) ?_) | refine GOp.drawn (by rfl) (by rfl) (Nat.le_of_ble_eq_true (by rfl)) (by rfl) | refine GOp.via (by rfl) ?_ | refine GWP.drawY mixed _ (by kernel_rfl) (by rfl) ?_ | (refine GCall.mk (VCall.inl Tryd.func52 rfl ?_)) | (with_reducible first | refine stopO ?_ | refine stopE ?_ | refine stopD ?_ | refine stopW ?_ | refine stopG ?_ | refine stopC ?_ | refine stopR ?_)))
  (all_goals (first | omega | skip))
  refine GWP'.mk (GWP.range0 rfl rfl ?_)
  refine VCall.go Tryd.func100 rfl ?_
  repeat' (first | with_reducible refine And.intro ?_ ?_ | ((with_reducible intro hc); (try simp only [zA, zB, zC, zD, zE, zF, zG, zH, zI, zJ, zK, zL, zM, zN, zO, zP, zQ, zR, zS, zT, zU, zV, zW] at hc); (first | (exact absurd rfl hc) | (exact absurd trivial hc) | (exfalso; omega) | skip)) | exact Is.mk rfl rfl | ((conv => whnf); first | with_reducible refine And.intro ?_ ?_ | with_reducible intro hx | exact Is.mk rfl rfl | (with_reducible first | apply Val.via | apply ValH.via) | refine ifB_intro ?_ ?_ | refine xA (by omega) ?_ | ((refine xB ?_); intro kw hk1 hk2) | refine xC (by omega) ?_ | refine xD ?_ | refine xE (by omega) ?_ | refine xF (by omega) ?_ | refine xG ?_ | refine xH ?_ | refine xI (by omega) ?_ | refine xJ (by omega) ?_ | (with_reducible refine stopA ?_) | refine Exists.intro _ (And.intro (by (first | exact vat_of rfl rfl rfl | rfl)) ?_) | refine GOp.drawn (by rfl) (by rfl) (Nat.le_of_ble_eq_true (by rfl)) (by rfl) | refine GOp.via (by rfl) ?_ | refine GWP.drawY mixed _ (by kernel_rfl) (by rfl) ?_ | fail | (with_reducible first | refine stopO ?_ | refine stopE ?_ | refine stopD ?_ | refine stopW ?_ | refine stopG ?_ | refine stopC ?_ | refine stopR ?_)))
  (all_goals (first | omega | skip))
  (refine GWP'.mk (GWP.loopB [0] (fun (s : List (List UInt8) × Nat) => s.2 ≤ l.length ∧ s.1.length ≤ s.2 ∧ s.1 ++ (l.drop s.2).filterMap (valOf name) = valsB l name) (fun s => [(8, iV s.2)]) (fun s => [(0, .cells true [.gs 7 s.1.length 1]), (7, .opt (s.1.map strV))]) 8 (fun s => l.length - s.2) ([], 0) ⟨Nat.zero_le _, Nat.le_refl _, rfl⟩ ?_); (conv => whnf); refine And.intro ?_ ?_)
  · focus (refine KeptA.of [] rfl rfl (by repeat' (first | exact trivial | refine And.intro rfl ?_)) rfl ?_ ?_; all_goals (repeat' (first | exact trivial | (refine And.intro ?_ ?_) | (refine Exists.intro _ (And.intro rfl ?_)) | (refine RenO.opt ?_) | (refine RenO.toOpt ?_) | (refine RenO.cells ?_) | exact RenO.defs | exact RenL.nil | (refine RenL.cons ?_ ?_) | (first | fail | (with_reducible exact RenV.sc) | exact RenV.gsN | exact RenV.gsZ | exact RenV.gsL (by decide) | exact RenV.slL (by decide) | ((first | refine RenV.gsE (by (first | exact List.Mem.head _ | exact List.Mem.tail _ (List.Mem.head _) | exact List.Mem.tail _ (List.Mem.tail _ (List.Mem.head _)) | (simp; done))) ?_ | refine RenV.eq (scI_eq ?_) (nameless_sc _)); (first | rfl | omega | (simp only [List.length_append, List.length_cons, List.length_nil, List.length_map, List.length_take, List.length_drop] <;> omega) | (simp only <;> omega) | (simp <;> omega))) | exact RenV.undef) | (with_unfolding_all exact (rfl : (_ : VObj) = _)))))
  rintro ⟨done, i⟩ ⟨h1, h2, h3⟩
  simp only at h1 h2 h3 ⊢
  by_cases hil : i < l.length
  · obtain ⟨f, hfi⟩ : ∃ f, l[i]? = some f := ⟨l[i], List.getElem?_eq_getElem hil⟩
    have hfl := hf f (List.mem_of_getElem? hfi)
    have htw := fun H => twin_call f.1 f.2 hfl.1 hfl.2 H
    have hdr : l.drop i = f :: l.drop (i + 1) := by
      obtain ⟨hi, e⟩ := List.getElem?_eq_some_iff.1 hfi
      rw [List.drop_eq_getElem_cons hi, e]
    rw [hdr, List.filterMap_cons] at h3
    repeat' (first | with_reducible refine And.intro ?_ ?_ | ((with_reducible intro hc); (try simp only [zA, zB, zC, zD, zE, zF, zG, zH, zI, zJ, zK, zL, zM, zN, zO, zP, zQ, zR, zS, zT, zU, zV, zW] at hc); (first | (exact absurd rfl hc) | (exact absurd trivial hc) | (exfalso; omega) | skip)) | exact Is.mk rfl rfl | ((conv => whnf); first | with_reducible refine And.intro ?_ ?_ | with_reducible intro hx | exact Is.mk rfl rfl | (with_reducible first | apply Val.via | apply ValH.via) | refine ifB_intro ?_ ?_ | refine xA (by omega) ?_ | ((refine xB ?_); intro kw hk1 hk2) | refine xC (by omega) ?_ | refine xD ?_ | refine xE (by omega) ?_ | refine xF (by omega) ?_ | refine xG ?_ | refine xH ?_ | refine xI (by omega) ?_ | refine xJ (by omega) ?_ | (with_reducible refine stopA ?_) | refine Exists.intro _ (And.intro (by (first | exact vat_rowsF hfi rfl | exact vat_of rfl rfl rfl | exact vbytes_map f.2 | exact vbytes_whole name | rfl)) ?_) | refine GOp.drawn (by rfl) (by rfl) (Nat.le_of_ble_eq_true (by rfl)) (by rfl) | refine GOp.via (by rfl) ?_ | refine GWP.drawY mixed _ (by kernel_rfl) (by rfl) ?_ | (refine GCall.mk ((htw _).mono ?_); rintro _ _ ⟨rfl, rfl⟩) | (with_reducible first | refine stopO ?_ | refine stopE ?_ | refine stopD ?_ | refine stopW ?_ | refine stopG ?_ | refine stopC ?_ | refine stopR ?_)))
    (all_goals (first | omega | skip))
    (refine GRound'.mk (VRound.go rfl rfl ?_))
    repeat' (first | with_reducible refine And.intro ?_ ?_ | ((with_reducible intro hc); (try simp only [zA, zB, zC, zD, zE, zF, zG, zH, zI, zJ, zK, zL, zM, zN, zO, zP, zQ, zR, zS, zT, zU, zV, zW] at hc); (first | (exact absurd rfl hc) | (exact absurd trivial hc) | (exfalso; omega) | skip)) | exact Is.mk rfl rfl | ((conv => whnf); first | with_reducible refine And.intro ?_ ?_ | with_reducible intro hx | exact Is.mk rfl rfl | (with_reducible first | apply Val.via | apply ValH.via) | refine ifB_intro ?_ ?_ | refine xA (by omega) ?_ | ((refine xB ?_); intro kw hk1 hk2) | refine xC (by omega) ?_ | refine xD ?_ | refine xE (by omega) ?_ | refine xF (by omega) ?_ | refine xG ?_ | refine xH ?_ | refine xI (by omega) ?_ | refine xJ (by omega) ?_ | (with_reducible refine stopA ?_) | refine Exists.intro _ (And.intro (by (first | exact vat_rowsF hfi rfl | exact vat_of rfl rfl rfl | exact vbytes_map f.2 | exact vbytes_whole name | rfl)) ?_) | refine GOp.drawn (by rfl) (by rfl) (Nat.le_of_ble_eq_true (by rfl)) (by rfl) | refine GOp.via (by rfl) ?_ | refine GWP.drawY mixed _ (by kernel_rfl) (by rfl) ?_ | fail | (with_reducible first | refine stopO ?_ | refine stopE ?_ | refine stopD ?_ | refine stopW ?_ | refine stopG ?_ | refine stopC ?_ | refine stopR ?_)))
    (all_goals (first | omega | skip))
    refine GCall'.mk ((sameV_call f.1 name hfl.1 hn (by rfl) (by rfl) (by rfl)).mono ?_)
    rintro _ _ ⟨rfl, rfl⟩
    by_cases hw : f.1.map lowB = name.map lowB
    · rw [show valOf name f = some f.2 by unfold valOf; rw [if_pos hw]] at h3
      rw [show (f.1.map lowB == name.map lowB) = true by simpa using hw]
      repeat' (first | with_reducible refine And.intro ?_ ?_ | ((with_reducible intro hc); (try simp only [zA, zB, zC, zD, zE, zF, zG, zH, zI, zJ, zK, zL, zM, zN, zO, zP, zQ, zR, zS, zT, zU, zV, zW] at hc); (first | (exact absurd rfl hc) | (exact absurd trivial hc) | (exfalso; omega) | skip)) | exact Is.mk rfl rfl | ((conv => whnf); first | with_reducible refine And.intro ?_ ?_ | with_reducible intro hx | exact Is.mk rfl rfl | (with_reducible first | apply Val.via | apply ValH.via) | refine ifB_intro ?_ ?_ | refine xA (by omega) ?_ | ((refine xB ?_); intro kw hk1 hk2) | refine xC (by omega) ?_ | refine xD ?_ | refine xE (by omega) ?_ | refine xF (by omega) ?_ | refine xG ?_ | refine xH ?_ | refine xI (by omega) ?_ | refine xJ (by omega) ?_ | (with_reducible refine stopA ?_) | refine Exists.intro _ (And.intro (by (first | exact vat_rowsF hfi rfl | exact vat_of rfl rfl rfl | exact vbytes_map f.2 | exact vbytes_whole name | rfl)) ?_) | refine GOp.drawn (by rfl) (by rfl) (Nat.le_of_ble_eq_true (by rfl)) (by rfl) | refine GOp.via (by rfl) ?_ | refine GWP.drawY mixed _ (by kernel_rfl) (by rfl) ?_ | fail | (with_reducible first | refine stopO ?_ | refine stopE ?_ | refine stopD ?_ | refine stopW ?_ | refine stopG ?_ | refine stopC ?_ | refine stopR ?_)))
      (all_goals (first | omega | skip))
      (refine GRound'.mk (VRound.go rfl rfl ?_))
      repeat' (first | with_reducible refine And.intro ?_ ?_ | ((with_reducible intro hc); (try simp only [zA, zB, zC, zD, zE, zF, zG, zH, zI, zJ, zK, zL, zM, zN, zO, zP, zQ, zR, zS, zT, zU, zV, zW] at hc); (first | (exact absurd rfl hc) | (exact absurd trivial hc) | (exfalso; omega) | skip)) | exact Is.mk rfl rfl | ((conv => whnf); first | with_reducible refine And.intro ?_ ?_ | with_reducible intro hx | exact Is.mk rfl rfl | (with_reducible first | apply Val.via | apply ValH.via) | refine ifB_intro ?_ ?_ | refine xA (by omega) ?_ | ((refine xB ?_); intro kw hk1 hk2) | refine xC (by omega) ?_ | refine xD ?_ | refine xE (by omega) ?_ | refine xF (by omega) ?_ | refine xG ?_ | refine xH ?_ | refine xI (by omega) ?_ | refine xJ (by omega) ?_ | (with_reducible refine stopA ?_) | refine Exists.intro _ (And.intro (by (first | exact vat_rowsF hfi rfl | exact vat_of rfl rfl rfl | exact vbytes_map f.2 | exact vbytes_whole name | rfl)) ?_) | refine GOp.drawn (by rfl) (by rfl) (Nat.le_of_ble_eq_true (by rfl)) (by rfl) | refine GOp.via (by rfl) ?_ | refine GWP.drawY mixed _ (by kernel_rfl) (by rfl) ?_ | (refine stopO (GOp'.grow rfl sty_s (d := .slice 9) Tryd.underlying57 (by intro k h; cases h) rfl (m := 1) (l := [strV f.2]) (by rfl) (by rfl) rfl (by simp) (by omega) (by omega) ?_)) | (with_reducible first | refine stopO ?_ | refine stopE ?_ | refine stopD ?_ | refine stopW ?_ | refine stopG ?_ | refine stopC ?_ | refine stopR ?_)))
      all_goals (first | omega | (rw [List.length_map]; done) | skip)
      repeat' (first | with_reducible refine And.intro ?_ ?_ | ((with_reducible intro hc); (try simp only [zA, zB, zC, zD, zE, zF, zG, zH, zI, zJ, zK, zL, zM, zN, zO, zP, zQ, zR, zS, zT, zU, zV, zW] at hc); (first | (exact absurd rfl hc) | (exact absurd trivial hc) | (exfalso; omega) | skip)) | exact Is.mk rfl rfl | ((conv => whnf); first | with_reducible refine And.intro ?_ ?_ | with_reducible intro hx | exact Is.mk rfl rfl | (with_reducible first | apply Val.via | apply ValH.via) | refine ifB_intro ?_ ?_ | refine xA (by omega) ?_ | ((refine xB ?_); intro kw hk1 hk2) | refine xC (by omega) ?_ | refine xD ?_ | refine xE (by omega) ?_ | refine xF (by omega) ?_ | refine xG ?_ | refine xH ?_ | refine xI (by omega) ?_ | refine xJ (by omega) ?_ | (with_reducible refine stopA ?_) | refine Exists.intro _ (And.intro (by (first | exact vat_rowsF hfi rfl | exact vat_of rfl rfl rfl | exact vbytes_map f.2 | exact vbytes_whole name | rfl)) ?_) | refine GOp.drawn (by rfl) (by rfl) (Nat.le_of_ble_eq_true (by rfl)) (by rfl) | refine GOp.via (by rfl) ?_ | refine GWP.drawY mixed _ (by kernel_rfl) (by rfl) ?_ | (refine stopO (GOp'.grow rfl sty_s (d := .slice 9) Tryd.underlying57 (by intro k h; cases h) rfl (m := 1) (l := [strV f.2]) (by rfl) (by rfl) rfl (by simp) (by omega) (by omega) ?_)) | (with_reducible first | refine stopO ?_ | refine stopE ?_ | refine stopD ?_ | refine stopW ?_ | refine stopG ?_ | refine stopC ?_ | refine stopR ?_)))
      all_goals (first | omega | (rw [List.length_map]; done) | skip)
      focus (refine Done'.mk ⟨(done ++ [f.2], i + 1), ⟨by simp only; omega, by simp only [List.length_append, List.length_cons, List.length_nil]; omega, by simp only; rw [← h3]; simp⟩, ?_, KeptA.of [(12, 7)] rfl rfl (by repeat' (first | exact trivial | refine And.intro rfl ?_)) rfl ?_ ?_⟩; (first | omega | (simp only; omega)); all_goals (repeat' (first | exact trivial | (refine And.intro ?_ ?_) | (refine Exists.intro _ (And.intro rfl ?_)) | (refine RenO.opt ?_) | (refine RenO.toOpt ?_) | (refine RenO.cells ?_) | exact RenO.defs | exact RenL.nil | (refine RenL.cons ?_ ?_) | (first | (first | exact RenL.eq (by simp) (nameless_map nameless_strV _) | exact RenV.eq (scI_eq (by omega)) (nameless_sc _)) | (with_reducible exact RenV.sc) | exact RenV.gsN | exact RenV.gsZ | exact RenV.gsL (by decide) | exact RenV.slL (by decide) | ((first | refine RenV.gsE (by (first | exact List.Mem.head _ | exact List.Mem.tail _ (List.Mem.head _) | exact List.Mem.tail _ (List.Mem.tail _ (List.Mem.head _)) | (simp; done))) ?_ | refine RenV.eq (scI_eq ?_) (nameless_sc _)); (first | rfl | omega | (simp only [List.length_append, List.length_cons, List.length_nil, List.length_map, List.length_take, List.length_drop] <;> omega) | (simp only <;> omega) | (simp <;> omega))) | exact RenV.undef) | (with_unfolding_all exact (rfl : (_ : VObj) = _)))))
    · rw [show valOf name f = none by unfold valOf; rw [if_neg hw]] at h3
      rw [show (f.1.map lowB == name.map lowB) = false by simpa using hw]
      repeat' (first | with_reducible refine And.intro ?_ ?_ | ((with_reducible intro hc); (try simp only [zA, zB, zC, zD, zE, zF, zG, zH, zI, zJ, zK, zL, zM, zN, zO, zP, zQ, zR, zS, zT, zU, zV, zW] at hc); (first | (exact absurd rfl hc) | (exact absurd trivial hc) | (exfalso; omega) | skip)) | exact Is.mk rfl rfl | ((conv => whnf); first | with_reducible refine And.intro ?_ ?_ | with_reducible intro hx | exact Is.mk rfl rfl | (with_reducible first | apply Val.via | apply ValH.via) | refine ifB_intro ?_ ?_ | refine xA (by omega) ?_ | ((refine xB ?_); intro kw hk1 hk2) | refine xC (by omega) ?_ | refine xD ?_ | refine xE (by omega) ?_ | refine xF (by omega) ?_ | refine xG ?_ | refine xH ?_ | refine xI (by omega) ?_ | refine xJ (by omega) ?_ | (with_reducible refine stopA ?_) | refine Exists.intro _ (And.intro (by (first | exact vat_rowsF hfi rfl | exact vat_of rfl rfl rfl | exact vbytes_map f.2 | exact vbytes_whole name | rfl)) ?_) | refine GOp.drawn (by rfl) (by rfl) (Nat.le_of_ble_eq_true (by rfl)) (by rfl) | refine GOp.via (by rfl) ?_ | refine GWP.drawY mixed _ (by kernel_rfl) (by rfl) ?_ | fail | (with_reducible first | refine stopO ?_ | refine stopE ?_ | refine stopD ?_ | refine stopW ?_ | refine stopG ?_ | refine stopC ?_ | refine stopR ?_)))
      (all_goals (first | omega | skip))
      focus (refine Done'.mk ⟨(done, i + 1), ⟨by simp only; omega, by simp only; omega, h3⟩, ?_, KeptA.of [(7, 7)] rfl rfl (by repeat' (first | exact trivial | refine And.intro rfl ?_)) rfl ?_ ?_⟩; (first | omega | (simp only; omega)); all_goals (repeat' (first | exact trivial | (refine And.intro ?_ ?_) | (refine Exists.intro _ (And.intro rfl ?_)) | (refine RenO.opt ?_) | (refine RenO.toOpt ?_) | (refine RenO.cells ?_) | exact RenO.defs | exact RenL.nil | (refine RenL.cons ?_ ?_) | (first | (first | exact RenL.of (nameless_map nameless_strV _) | exact RenV.eq (scI_eq (by omega)) (nameless_sc _)) | (with_reducible exact RenV.sc) | exact RenV.gsN | exact RenV.gsZ | exact RenV.gsL (by decide) | exact RenV.slL (by decide) | ((first | refine RenV.gsE (by (first | exact List.Mem.head _ | exact List.Mem.tail _ (List.Mem.head _) | exact List.Mem.tail _ (List.Mem.tail _ (List.Mem.head _)) | (simp; done))) ?_ | refine RenV.eq (scI_eq ?_) (nameless_sc _)); (first | rfl | omega | (simp only [List.length_append, List.length_cons, List.length_nil, List.length_map, List.length_take, List.length_drop] <;> omega) | (simp only <;> omega) | (simp <;> omega))) | exact RenV.undef) | (with_unfolding_all exact (rfl : (_ : VObj) = _)))))
  · obtain rfl : i = l.length := by omega
    rw [List.drop_length, List.filterMap_nil, List.append_nil] at h3
    subst h3
    repeat' (first | with_reducible refine And.intro ?_ ?_ | ((with_reducible intro hc); (try simp only [zA, zB, zC, zD, zE, zF, zG, zH, zI, zJ, zK, zL, zM, zN, zO, zP, zQ, zR, zS, zT, zU, zV, zW] at hc); (first | (exact absurd rfl hc) | (exact absurd trivial hc) | (exfalso; omega) | skip)) | exact Is.mk rfl rfl | ((conv => whnf); first | with_reducible refine And.intro ?_ ?_ | with_reducible intro hx | exact Is.mk rfl rfl | (with_reducible first | apply Val.via | apply ValH.via) | refine ifB_intro ?_ ?_ | refine xA (by omega) ?_ | ((refine xB ?_); intro kw hk1 hk2) | refine xC (by omega) ?_ | refine xD ?_ | refine xE (by omega) ?_ | refine xF (by omega) ?_ | refine xG ?_ | refine xH ?_ | refine xI (by omega) ?_ | refine xJ (by omega) ?_ | (with_reducible refine stopA ?_) | refine Exists.intro _ (And.intro (by (first | exact vat_of rfl rfl rfl | rfl)) ?_) | refine GOp.drawn (by rfl) (by rfl) (Nat.le_of_ble_eq_true (by rfl)) (by rfl) | refine GOp.via (by rfl) ?_ | refine GWP.drawY mixed _ (by kernel_rfl) (by rfl) ?_ | fail | (with_reducible first | refine stopO ?_ | refine stopE ?_ | refine stopD ?_ | refine stopW ?_ | refine stopG ?_ | refine stopC ?_ | refine stopR ?_)))
    (all_goals (first | omega | skip))
    (refine Done'.mk ⟨_, _, _, _, _, _, _, rfl, (by intro h; cases h), ?_⟩)
    repeat' (first | with_reducible refine And.intro ?_ ?_ | ((with_reducible intro hc); (try simp only [zA, zB, zC, zD, zE, zF, zG, zH, zI, zJ, zK, zL, zM, zN, zO, zP, zQ, zR, zS, zT, zU, zV, zW] at hc); (first | (exact absurd rfl hc) | (exact absurd trivial hc) | (exfalso; omega) | skip)) | exact Is.mk rfl rfl | ((conv => whnf); first | with_reducible refine And.intro ?_ ?_ | with_reducible intro hx | exact Is.mk rfl rfl | (with_reducible first | apply Val.via | apply ValH.via) | refine ifB_intro ?_ ?_ | refine xA (by omega) ?_ | ((refine xB ?_); intro kw hk1 hk2) | refine xC (by omega) ?_ | refine xD ?_ | refine xE (by omega) ?_ | refine xF (by omega) ?_ | refine xG ?_ | refine xH ?_ | refine xI (by omega) ?_ | refine xJ (by omega) ?_ | (with_reducible refine stopA ?_) | refine Exists.intro _ (And.intro (by (first | exact vat_of rfl rfl rfl | rfl)) ?_) | refine GOp.drawn (by rfl) (by rfl) (Nat.le_of_ble_eq_true (by rfl)) (by rfl) | refine GOp.via (by rfl) ?_ | refine GWP.drawY mixed _ (by kernel_rfl) (by rfl) ?_ | fail | (with_reducible first | refine stopO ?_ | refine stopE ?_ | refine stopD ?_ | refine stopW ?_ | refine stopG ?_ | refine stopC ?_ | refine stopR ?_)))
    (all_goals (first | omega | skip))
    (refine Done'.mk ⟨_, _, _, _, _, _, _, rfl, (by intro h; cases h), ?_⟩)
    repeat' (first | with_reducible refine And.intro ?_ ?_ | ((with_reducible intro hc); (try simp only [zA, zB, zC, zD, zE, zF, zG, zH, zI, zJ, zK, zL, zM, zN, zO, zP, zQ, zR, zS, zT, zU, zV, zW] at hc); (first | (exact absurd rfl hc) | (exact absurd trivial hc) | (exfalso; omega) | skip)) | exact Is.mk rfl rfl | ((conv => whnf); first | with_reducible refine And.intro ?_ ?_ | with_reducible intro hx | exact Is.mk rfl rfl | (with_reducible first | apply Val.via | apply ValH.via) | refine ifB_intro ?_ ?_ | refine xA (by omega) ?_ | ((refine xB ?_); intro kw hk1 hk2) | refine xC (by omega) ?_ | refine xD ?_ | refine xE (by omega) ?_ | refine xF (by omega) ?_ | refine xG ?_ | refine xH ?_ | refine xI (by omega) ?_ | refine xJ (by omega) ?_ | (with_reducible refine stopA ?_) | refine Exists.intro _ (And.intro (by (first | exact vat_of rfl rfl rfl | rfl)) ?_) | refine GOp.drawn (by rfl) (by rfl) (Nat.le_of_ble_eq_true (by rfl)) (by rfl) | refine GOp.via (by rfl) ?_ | refine GWP.drawY mixed _ (by kernel_rfl) (by rfl) ?_ | fail | (with_reducible first | refine stopO ?_ | refine stopE ?_ | refine stopD ?_ | refine stopW ?_ | refine stopG ?_ | refine stopC ?_ | refine stopR ?_)))
    (all_goals (first | omega | skip))
    exact Done'.mk (frz_gsS1 rfl)
/-- The first of values, and whether there is one. -/
def getV : List (List UInt8) → VV
  | [] => .tp [.ro 0 [], booV false]
  | x :: _ => .tp [roB x, booV true]
theorem get_call (l : List HF) (name : List UInt8) (hl : l.length ≤ 10000) (hn : name.length ≤ 10000) (hf : ∀ f ∈ l, f.1.length ≤ 10000 ∧ f.2.length ≤ 10000) (H : Heap) : VCall Tryd.prog 46 [hdrV l, strV name] H (fun v K => v = getV (valsB l name) ∧ K = H) := by
  refine VCall.frozen (Q := fun v K => Frz K v (getV (valsB l name))) (by simp [nameless_hdrV, nameless_strV]) ?_ (fun v K h => h)
  refine VCall.go Tryd.func46 rfl ?_
  repeat' (first | with_reducible refine And.intro ?_ ?_ | ((with_reducible intro hc); (try simp only [zA, zB, zC, zD, zE, zF, zG, zH, zI, zJ, zK, zL, zM, zN, zO, zP, zQ, zR, zS, zT, zU, zV, zW] at hc); (first | (exact absurd rfl hc) | (exact absurd trivial hc) | (exfalso; omega) | skip)) | exact Is.mk rfl rfl | ((conv => whnf); first | with_reducible refine And.intro ?_ ?_ | with_reducible intro hx | exact Is.mk rfl rfl | (with_reducible first | apply Val.via | apply ValH.via) | refine ifB_intro ?_ ?_ | refine xA (by omega) ?_ | ((refine xB ?_); intro kw hk1 hk2) | refine xC (by omega) ?_ | refine xD ?_ | refine xE (by omega) ?_ | refine xF (by omega) ?_ | refine xG ?_ | refine xH ?_ | refine xI (by omega) ?_ | refine xJ (by omega) ?_ | (with_reducible refine stopA ?_) | refine Exists.intro _ (And.intro (by (first | exact vat_of rfl rfl rfl | rfl)) ?_) | refine GOp.drawn (by rfl) (by rfl) (Nat.le_of_ble_eq_true (by rfl)) (by rfl) | refine GOp.via (by rfl) ?_ | refine GWP.drawY mixed _ (by kernel_rfl) (by rfl) ?_ | (refine GCall.mk ((values_call l name _).mono ?_); rintro _ _ ⟨rfl, rfl⟩) | (with_reducible first | refine stopO ?_ | refine stopE ?_ | refine stopD ?_ | refine stopW ?_ | refine stopG ?_ | refine stopC ?_ | refine stopR ?_)))
  (all_goals (first | omega | skip))
  refine GWP'.mk (GWP.range0 rfl rfl ?_)
  refine VCall.go Tryd.func98 rfl ?_
  repeat' (first | with_reducible refine And.intro ?_ ?_ | ((with_reducible intro hc); (try simp only [zA, zB, zC, zD, zE, zF, zG, zH, zI, zJ, zK, zL, zM, zN, zO, zP, zQ, zR, zS, zT, zU, zV, zW] at hc); (first | (exact absurd rfl hc) | (exact absurd trivial hc) | (exfalso; omega) | skip)) | exact Is.mk rfl rfl | ((conv => whnf); first | with_reducible refine And.intro ?_ ?_ | with_reducible intro hx | exact Is.mk rfl rfl | (with_reducible first | apply Val.via | apply ValH.via) | refine ifB_intro ?_ ?_ | refine xA (by omega) ?_ | ((refine xB ?_); intro kw hk1 hk2) | refine xC (by omega) ?_ | refine xD ?_ | refine xE (by omega) ?_ | refine xF (by omega) ?_ | refine xG ?_ | refine xH ?_ | refine xI (by omega) ?_ | refine xJ (by omega) ?_ | (with_reducible refine stopA ?_) | refine Exists.intro _ (And.intro (by (first | exact vat_of rfl rfl rfl | rfl)) ?_) | refine GOp.drawn (by rfl) (by rfl) (Nat.le_of_ble_eq_true (by rfl)) (by rfl) | refine GOp.via (by rfl) ?_ | refine GWP.drawY mixed _ (by kernel_rfl) (by rfl) ?_ | (refine GCall.mk (VCall.inl Tryd.func52 rfl ?_)) | (with_reducible first | refine stopO ?_ | refine stopE ?_ | refine stopD ?_ | refine stopW ?_ | refine stopG ?_ | refine stopC ?_ | refine stopR ?_)))
  (all_goals (first | omega | skip))
  refine GWP'.mk (GWP.range0 rfl rfl ?_)
  refine VCall.go Tryd.func100 rfl ?_
  repeat' (first | with_reducible refine And.intro ?_ ?_ | ((with_reducible intro hc); (try simp only [zA, zB, zC, zD, zE, zF, zG, zH, zI, zJ, zK, zL, zM, zN, zO, zP, zQ, zR, zS, zT, zU, zV, zW] at hc); (first | (exact absurd rfl hc) | (exact absurd trivial hc) | (exfalso; omega) | skip)) | exact Is.mk rfl rfl | ((conv => whnf); first | with_reducible refine And.intro ?_ ?_ | with_reducible intro hx | exact Is.mk rfl rfl | (with_reducible first | apply Val.via | apply ValH.via) | refine ifB_intro ?_ ?_ | refine xA (by omega) ?_ | ((refine xB ?_); intro kw hk1 hk2) | refine xC (by omega) ?_ | refine xD ?_ | refine xE (by omega) ?_ | refine xF (by omega) ?_ | refine xG ?_ | refine xH ?_ | refine xI (by omega) ?_ | refine xJ (by omega) ?_ | (with_reducible refine stopA ?_) | refine Exists.intro _ (And.intro (by (first | exact vat_of rfl rfl rfl | rfl)) ?_) | refine GOp.drawn (by rfl) (by rfl) (Nat.le_of_ble_eq_true (by rfl)) (by rfl) | refine GOp.via (by rfl) ?_ | refine GWP.drawY mixed _ (by kernel_rfl) (by rfl) ?_ | fail | (with_reducible first | refine stopO ?_ | refine stopE ?_ | refine stopD ?_ | refine stopW ?_ | refine stopG ?_ | refine stopC ?_ | refine stopR ?_)))
  (all_goals (first | omega | skip))
  (refine GWP'.mk (GWP.loopB [] (fun (i : Nat) => i ≤ l.length ∧ (l.drop i).filterMap (valOf name) = valsB l name) (fun i => [(8, iV i)]) (fun i => []) 9 (fun i => l.length - i) 0 ⟨Nat.zero_le _, rfl⟩ ?_); (conv => whnf); refine And.intro ?_ ?_)
  · focus (refine KeptA.of [] rfl rfl (by repeat' (first | exact trivial | refine And.intro rfl ?_)) rfl ?_ ?_; all_goals (repeat' (first | exact trivial | (refine And.intro ?_ ?_) | (refine Exists.intro _ (And.intro rfl ?_)) | (refine RenO.opt ?_) | (refine RenO.toOpt ?_) | (refine RenO.cells ?_) | exact RenO.defs | exact RenL.nil | (refine RenL.cons ?_ ?_) | (first | fail | (with_reducible exact RenV.sc) | exact RenV.gsN | exact RenV.gsZ | exact RenV.gsL (by decide) | exact RenV.slL (by decide) | ((first | refine RenV.gsE (by (first | exact List.Mem.head _ | exact List.Mem.tail _ (List.Mem.head _) | exact List.Mem.tail _ (List.Mem.tail _ (List.Mem.head _)) | (simp; done))) ?_ | refine RenV.eq (scI_eq ?_) (nameless_sc _)); (first | rfl | omega | (simp only [List.length_append, List.length_cons, List.length_nil, List.length_map, List.length_take, List.length_drop] <;> omega) | (simp only <;> omega) | (simp <;> omega))) | exact RenV.undef) | (with_unfolding_all exact (rfl : (_ : VObj) = _)))))
  rintro i ⟨h1, h3⟩
  simp only at h1 h3 ⊢
  by_cases hil : i < l.length
  · obtain ⟨f, hfi⟩ : ∃ f, l[i]? = some f := ⟨l[i], List.getElem?_eq_getElem hil⟩
    have hfl := hf f (List.mem_of_getElem? hfi)
    have htw := fun H => twin_call f.1 f.2 hfl.1 hfl.2 H
    have hdr : l.drop i = f :: l.drop (i + 1) := by
      obtain ⟨hi, e⟩ := List.getElem?_eq_some_iff.1 hfi
      rw [List.drop_eq_getElem_cons hi, e]
    rw [hdr, List.filterMap_cons] at h3
    repeat' (first | with_reducible refine And.intro ?_ ?_ | ((with_reducible intro hc); (try simp only [zA, zB, zC, zD, zE, zF, zG, zH, zI, zJ, zK, zL, zM, zN, zO, zP, zQ, zR, zS, zT, zU, zV, zW] at hc); (first | (exact absurd rfl hc) | (exact absurd trivial hc) | (exfalso; omega) | skip)) | exact Is.mk rfl rfl | ((conv => whnf); first | with_reducible refine And.intro ?_ ?_ | with_reducible intro hx | exact Is.mk rfl rfl | (with_reducible first | apply Val.via | apply ValH.via) | refine ifB_intro ?_ ?_ | refine xA (by omega) ?_ | ((refine xB ?_); intro kw hk1 hk2) | refine xC (by omega) ?_ | refine xD ?_ | refine xE (by omega) ?_ | refine xF (by omega) ?_ | refine xG ?_ | refine xH ?_ | refine xI (by omega) ?_ | refine xJ (by omega) ?_ | (with_reducible refine stopA ?_) | refine Exists.intro _ (And.intro (by (first | exact vat_rowsF hfi rfl | exact vat_of rfl rfl rfl | exact vbytes_map f.2 | exact vbytes_whole name | rfl)) ?_) | refine GOp.drawn (by rfl) (by rfl) (Nat.le_of_ble_eq_true (by rfl)) (by rfl) | refine GOp.via (by rfl) ?_ | refine GWP.drawY mixed _ (by kernel_rfl) (by rfl) ?_ | (refine GCall.mk ((htw _).mono ?_); rintro _ _ ⟨rfl, rfl⟩) | (with_reducible first | refine stopO ?_ | refine stopE ?_ | refine stopD ?_ | refine stopW ?_ | refine stopG ?_ | refine stopC ?_ | refine stopR ?_)))
    (all_goals (first | omega | skip))
    (refine GRound'.mk (VRound.go rfl rfl ?_))
    repeat' (first | with_reducible refine And.intro ?_ ?_ | ((with_reducible intro hc); (try simp only [zA, zB, zC, zD, zE, zF, zG, zH, zI, zJ, zK, zL, zM, zN, zO, zP, zQ, zR, zS, zT, zU, zV, zW] at hc); (first | (exact absurd rfl hc) | (exact absurd trivial hc) | (exfalso; omega) | skip)) | exact Is.mk rfl rfl | ((conv => whnf); first | with_reducible refine And.intro ?_ ?_ | with_reducible intro hx | exact Is.mk rfl rfl | (with_reducible first | apply Val.via | apply ValH.via) | refine ifB_intro ?_ ?_ | refine xA (by omega) ?_ | ((refine xB ?_); intro kw hk1 hk2) | refine xC (by omega) ?_ | refine xD ?_ | refine xE (by omega) ?_ | refine xF (by omega) ?_ | refine xG ?_ | refine xH ?_ | refine xI (by omega) ?_ | refine xJ (by omega) ?_ | (with_reducible refine stopA ?_) | refine Exists.intro _ (And.intro (by (first | exact vat_rowsF hfi rfl | exact vat_of rfl rfl rfl | exact vbytes_map f.2 | exact vbytes_whole name | rfl)) ?_) | refine GOp.drawn (by rfl) (by rfl) (Nat.le_of_ble_eq_true (by rfl)) (by rfl) | refine GOp.via (by rfl) ?_ | refine GWP.drawY mixed _ (by kernel_rfl) (by rfl) ?_ | fail | (with_reducible first | refine stopO ?_ | refine stopE ?_ | refine stopD ?_ | refine stopW ?_ | refine stopG ?_ | refine stopC ?_ | refine stopR ?_)))
    (all_goals (first | omega | skip))
    refine GCall'.mk ((sameV_call f.1 name hfl.1 hn (by rfl) (by rfl) (by rfl)).mono ?_)
    rintro _ _ ⟨rfl, rfl⟩
    by_cases hw : f.1.map lowB = name.map lowB
    · rw [show valOf name f = some f.2 by unfold valOf; rw [if_pos hw]] at h3
      rw [show (f.1.map lowB == name.map lowB) = true by simpa using hw]
      repeat' (first | with_reducible refine And.intro ?_ ?_ | ((with_reducible intro hc); (try simp only [zA, zB, zC, zD, zE, zF, zG, zH, zI, zJ, zK, zL, zM, zN, zO, zP, zQ, zR, zS, zT, zU, zV, zW] at hc); (first | (exact absurd rfl hc) | (exact absurd trivial hc) | (exfalso; omega) | skip)) | exact Is.mk rfl rfl | ((conv => whnf); first | with_reducible refine And.intro ?_ ?_ | with_reducible intro hx | exact Is.mk rfl rfl | (with_reducible first | apply Val.via | apply ValH.via) | refine ifB_intro ?_ ?_ | refine xA (by omega) ?_ | ((refine xB ?_); intro kw hk1 hk2) | refine xC (by omega) ?_ | refine xD ?_ | refine xE (by omega) ?_ | refine xF (by omega) ?_ | refine xG ?_ | refine xH ?_ | refine xI (by omega) ?_ | refine xJ (by omega) ?_ | (with_reducible refine stopA ?_) | refine Exists.intro _ (And.intro (by (first | exact vat_rowsF hfi rfl | exact vat_of rfl rfl rfl | exact vbytes_map f.2 | exact vbytes_whole name | rfl)) ?_) | refine GOp.drawn (by rfl) (by rfl) (Nat.le_of_ble_eq_true (by rfl)) (by rfl) | refine GOp.via (by rfl) ?_ | refine GWP.drawY mixed _ (by kernel_rfl) (by rfl) ?_ | fail | (with_reducible first | refine stopO ?_ | refine stopE ?_ | refine stopD ?_ | refine stopW ?_ | refine stopG ?_ | refine stopC ?_ | refine stopR ?_)))
      (all_goals (first | omega | skip))
      (refine GRound'.mk (VRound.go rfl rfl ?_))
      repeat' (first | with_reducible refine And.intro ?_ ?_ | ((with_reducible intro hc); (try simp only [zA, zB, zC, zD, zE, zF, zG, zH, zI, zJ, zK, zL, zM, zN, zO, zP, zQ, zR, zS, zT, zU, zV, zW] at hc); (first | (exact absurd rfl hc) | (exact absurd trivial hc) | (exfalso; omega) | skip)) | exact Is.mk rfl rfl | ((conv => whnf); first | with_reducible refine And.intro ?_ ?_ | with_reducible intro hx | exact Is.mk rfl rfl | (with_reducible first | apply Val.via | apply ValH.via) | refine ifB_intro ?_ ?_ | refine xA (by omega) ?_ | ((refine xB ?_); intro kw hk1 hk2) | refine xC (by omega) ?_ | refine xD ?_ | refine xE (by omega) ?_ | refine xF (by omega) ?_ | refine xG ?_ | refine xH ?_ | refine xI (by omega) ?_ | refine xJ (by omega) ?_ | (with_reducible refine stopA ?_) | refine Exists.intro _ (And.intro (by (first | exact vat_rowsF hfi rfl | exact vat_of rfl rfl rfl | exact vbytes_map f.2 | exact vbytes_whole name | rfl)) ?_) | refine GOp.drawn (by rfl) (by rfl) (Nat.le_of_ble_eq_true (by rfl)) (by rfl) | refine GOp.via (by rfl) ?_ | refine GWP.drawY mixed _ (by kernel_rfl) (by rfl) ?_ | fail | (with_reducible first | refine stopO ?_ | refine stopE ?_ | refine stopD ?_ | refine stopW ?_ | refine stopG ?_ | refine stopC ?_ | refine stopR ?_)))
      (all_goals (first | omega | skip))
      (refine Done'.mk ⟨_, _, _, _, _, _, _, rfl, (by intro h; cases h), ?_⟩)
      repeat' (first | with_reducible refine And.intro ?_ ?_ | ((with_reducible intro hc); (try simp only [zA, zB, zC, zD, zE, zF, zG, zH, zI, zJ, zK, zL, zM, zN, zO, zP, zQ, zR, zS, zT, zU, zV, zW] at hc); (first | (exact absurd rfl hc) | (exact absurd trivial hc) | (exfalso; omega) | skip)) | exact Is.mk rfl rfl | ((conv => whnf); first | with_reducible refine And.intro ?_ ?_ | with_reducible intro hx | exact Is.mk rfl rfl | (with_reducible first | apply Val.via | apply ValH.via) | refine ifB_intro ?_ ?_ | refine xA (by omega) ?_ | ((refine xB ?_); intro kw hk1 hk2) | refine xC (by omega) ?_ | refine xD ?_ | refine xE (by omega) ?_ | refine xF (by omega) ?_ | refine xG ?_ | refine xH ?_ | refine xI (by omega) ?_ | refine xJ (by omega) ?_ | (with_reducible refine stopA ?_) | refine Exists.intro _ (And.intro (by (first | exact vat_of rfl rfl rfl | rfl)) ?_) | refine GOp.drawn (by rfl) (by rfl) (Nat.le_of_ble_eq_true (by rfl)) (by rfl) | refine GOp.via (by rfl) ?_ | refine GWP.drawY mixed _ (by kernel_rfl) (by rfl) ?_ | fail | (with_reducible first | refine stopO ?_ | refine stopE ?_ | refine stopD ?_ | refine stopW ?_ | refine stopG ?_ | refine stopC ?_ | refine stopR ?_)))
      (all_goals (first | omega | skip))
      (refine Done'.mk ⟨_, _, _, _, _, _, _, rfl, (by intro h; cases h), ?_⟩)
      repeat' (first | with_reducible refine And.intro ?_ ?_ | ((with_reducible intro hc); (try simp only [zA, zB, zC, zD, zE, zF, zG, zH, zI, zJ, zK, zL, zM, zN, zO, zP, zQ, zR, zS, zT, zU, zV, zW] at hc); (first | (exact absurd rfl hc) | (exact absurd trivial hc) | (exfalso; omega) | skip)) | exact Is.mk rfl rfl | ((conv => whnf); first | with_reducible refine And.intro ?_ ?_ | with_reducible intro hx | exact Is.mk rfl rfl | (with_reducible first | apply Val.via | apply ValH.via) | refine ifB_intro ?_ ?_ | refine xA (by omega) ?_ | ((refine xB ?_); intro kw hk1 hk2) | refine xC (by omega) ?_ | refine xD ?_ | refine xE (by omega) ?_ | refine xF (by omega) ?_ | refine xG ?_ | refine xH ?_ | refine xI (by omega) ?_ | refine xJ (by omega) ?_ | (with_reducible refine stopA ?_) | refine Exists.intro _ (And.intro (by (first | exact vat_of rfl rfl rfl | rfl)) ?_) | refine GOp.drawn (by rfl) (by rfl) (Nat.le_of_ble_eq_true (by rfl)) (by rfl) | refine GOp.via (by rfl) ?_ | refine GWP.drawY mixed _ (by kernel_rfl) (by rfl) ?_ | fail | (with_reducible first | refine stopO ?_ | refine stopE ?_ | refine stopD ?_ | refine stopW ?_ | refine stopG ?_ | refine stopC ?_ | refine stopR ?_)))
      (all_goals (first | omega | skip))
      rw [← h3]
      exact Done'.mk (Frz.eq (show _ = VV.tp [roB f.2, booV true] from rfl) (nameless_tp (by simp [nameless_roB, booV, nameless_sc])))
    · rw [show valOf name f = none by unfold valOf; rw [if_neg hw]] at h3
      rw [show (f.1.map lowB == name.map lowB) = false by simpa using hw]
      repeat' (first | with_reducible refine And.intro ?_ ?_ | ((with_reducible intro hc); (try simp only [zA, zB, zC, zD, zE, zF, zG, zH, zI, zJ, zK, zL, zM, zN, zO, zP, zQ, zR, zS, zT, zU, zV, zW] at hc); (first | (exact absurd rfl hc) | (exact absurd trivial hc) | (exfalso; omega) | skip)) | exact Is.mk rfl rfl | ((conv => whnf); first | with_reducible refine And.intro ?_ ?_ | with_reducible intro hx | exact Is.mk rfl rfl | (with_reducible first | apply Val.via | apply ValH.via) | refine ifB_intro ?_ ?_ | refine xA (by omega) ?_ | ((refine xB ?_); intro kw hk1 hk2) | refine xC (by omega) ?_ | refine xD ?_ | refine xE (by omega) ?_ | refine xF (by omega) ?_ | refine xG ?_ | refine xH ?_ | refine xI (by omega) ?_ | refine xJ (by omega) ?_ | (with_reducible refine stopA ?_) | refine Exists.intro _ (And.intro (by (first | exact vat_rowsF hfi rfl | exact vat_of rfl rfl rfl | exact vbytes_map f.2 | exact vbytes_whole name | rfl)) ?_) | refine GOp.drawn (by rfl) (by rfl) (Nat.le_of_ble_eq_true (by rfl)) (by rfl) | refine GOp.via (by rfl) ?_ | refine GWP.drawY mixed _ (by kernel_rfl) (by rfl) ?_ | fail | (with_reducible first | refine stopO ?_ | refine stopE ?_ | refine stopD ?_ | refine stopW ?_ | refine stopG ?_ | refine stopC ?_ | refine stopR ?_)))
      (all_goals (first | omega | skip))
      focus (refine Done'.mk ⟨(i + 1), ⟨by omega, h3⟩, ?_, KeptA.of [] rfl rfl (by repeat' (first | exact trivial | refine And.intro rfl ?_)) rfl ?_ ?_⟩; (first | omega | (simp only; omega)); all_goals (repeat' (first | exact trivial | (refine And.intro ?_ ?_) | (refine Exists.intro _ (And.intro rfl ?_)) | (refine RenO.opt ?_) | (refine RenO.toOpt ?_) | (refine RenO.cells ?_) | exact RenO.defs | exact RenL.nil | (refine RenL.cons ?_ ?_) | (first | (first | exact RenV.eq (scI_eq (by omega)) (nameless_sc _)) | (with_reducible exact RenV.sc) | exact RenV.gsN | exact RenV.gsZ | exact RenV.gsL (by decide) | exact RenV.slL (by decide) | ((first | refine RenV.gsE (by (first | exact List.Mem.head _ | exact List.Mem.tail _ (List.Mem.head _) | exact List.Mem.tail _ (List.Mem.tail _ (List.Mem.head _)) | (simp; done))) ?_ | refine RenV.eq (scI_eq ?_) (nameless_sc _)); (first | rfl | omega | (simp only [List.length_append, List.length_cons, List.length_nil, List.length_map, List.length_take, List.length_drop] <;> omega) | (simp only <;> omega) | (simp <;> omega))) | exact RenV.undef) | (with_unfolding_all exact (rfl : (_ : VObj) = _)))))
  · obtain rfl : i = l.length := by omega
    rw [List.drop_length, List.filterMap_nil] at h3
    repeat' (first | with_reducible refine And.intro ?_ ?_ | ((with_reducible intro hc); (try simp only [zA, zB, zC, zD, zE, zF, zG, zH, zI, zJ, zK, zL, zM, zN, zO, zP, zQ, zR, zS, zT, zU, zV, zW] at hc); (first | (exact absurd rfl hc) | (exact absurd trivial hc) | (exfalso; omega) | skip)) | exact Is.mk rfl rfl | ((conv => whnf); first | with_reducible refine And.intro ?_ ?_ | with_reducible intro hx | exact Is.mk rfl rfl | (with_reducible first | apply Val.via | apply ValH.via) | refine ifB_intro ?_ ?_ | refine xA (by omega) ?_ | ((refine xB ?_); intro kw hk1 hk2) | refine xC (by omega) ?_ | refine xD ?_ | refine xE (by omega) ?_ | refine xF (by omega) ?_ | refine xG ?_ | refine xH ?_ | refine xI (by omega) ?_ | refine xJ (by omega) ?_ | (with_reducible refine stopA ?_) | refine Exists.intro _ (And.intro (by (first | exact vat_of rfl rfl rfl | rfl)) ?_) | refine GOp.drawn (by rfl) (by rfl) (Nat.le_of_ble_eq_true (by rfl)) (by rfl) | refine GOp.via (by rfl) ?_ | refine GWP.drawY mixed _ (by kernel_rfl) (by rfl) ?_ | fail | (with_reducible first | refine stopO ?_ | refine stopE ?_ | refine stopD ?_ | refine stopW ?_ | refine stopG ?_ | refine stopC ?_ | refine stopR ?_)))
    (all_goals (first | omega | skip))
    (refine Done'.mk ⟨_, _, _, _, _, _, _, rfl, (by intro h; cases h), ?_⟩)
    repeat' (first | with_reducible refine And.intro ?_ ?_ | ((with_reducible intro hc); (try simp only [zA, zB, zC, zD, zE, zF, zG, zH, zI, zJ, zK, zL, zM, zN, zO, zP, zQ, zR, zS, zT, zU, zV, zW] at hc); (first | (exact absurd rfl hc) | (exact absurd trivial hc) | (exfalso; omega) | skip)) | exact Is.mk rfl rfl | ((conv => whnf); first | with_reducible refine And.intro ?_ ?_ | with_reducible intro hx | exact Is.mk rfl rfl | (with_reducible first | apply Val.via | apply ValH.via) | refine ifB_intro ?_ ?_ | refine xA (by omega) ?_ | ((refine xB ?_); intro kw hk1 hk2) | refine xC (by omega) ?_ | refine xD ?_ | refine xE (by omega) ?_ | refine xF (by omega) ?_ | refine xG ?_ | refine xH ?_ | refine xI (by omega) ?_ | refine xJ (by omega) ?_ | (with_reducible refine stopA ?_) | refine Exists.intro _ (And.intro (by (first | exact vat_of rfl rfl rfl | rfl)) ?_) | refine GOp.drawn (by rfl) (by rfl) (Nat.le_of_ble_eq_true (by rfl)) (by rfl) | refine GOp.via (by rfl) ?_ | refine GWP.drawY mixed _ (by kernel_rfl) (by rfl) ?_ | fail | (with_reducible first | refine stopO ?_ | refine stopE ?_ | refine stopD ?_ | refine stopW ?_ | refine stopG ?_ | refine stopC ?_ | refine stopR ?_)))
    (all_goals (first | omega | skip))
    (refine Done'.mk ⟨_, _, _, _, _, _, _, rfl, (by intro h; cases h), ?_⟩)
    repeat' (first | with_reducible refine And.intro ?_ ?_ | ((with_reducible intro hc); (try simp only [zA, zB, zC, zD, zE, zF, zG, zH, zI, zJ, zK, zL, zM, zN, zO, zP, zQ, zR, zS, zT, zU, zV, zW] at hc); (first | (exact absurd rfl hc) | (exact absurd trivial hc) | (exfalso; omega) | skip)) | exact Is.mk rfl rfl | ((conv => whnf); first | with_reducible refine And.intro ?_ ?_ | with_reducible intro hx | exact Is.mk rfl rfl | (with_reducible first | apply Val.via | apply ValH.via) | refine ifB_intro ?_ ?_ | refine xA (by omega) ?_ | ((refine xB ?_); intro kw hk1 hk2) | refine xC (by omega) ?_ | refine xD ?_ | refine xE (by omega) ?_ | refine xF (by omega) ?_ | refine xG ?_ | refine xH ?_ | refine xI (by omega) ?_ | refine xJ (by omega) ?_ | (with_reducible refine stopA ?_) | refine Exists.intro _ (And.intro (by (first | exact vat_of rfl rfl rfl | rfl)) ?_) | refine GOp.drawn (by rfl) (by rfl) (Nat.le_of_ble_eq_true (by rfl)) (by rfl) | refine GOp.via (by rfl) ?_ | refine GWP.drawY mixed _ (by kernel_rfl) (by rfl) ?_ | fail | (with_reducible first | refine stopO ?_ | refine stopE ?_ | refine stopD ?_ | refine stopW ?_ | refine stopG ?_ | refine stopC ?_ | refine stopR ?_)))
    (all_goals (first | omega | skip))
    rw [← h3]
    exact Done'.mk (Frz.tp (.cons Frz.nil0 (.cons (Frz.of (nameless_sc _)) .nil)))
end Go.Proofs.YtmmjgbdihgdekaaDoor

/- The law HeaderTells, walked. -/
namespace Go.Proofs.YtmmjgbdihgdekaaDoor
open Go Go.RowKit
set_option linter.unusedSimpArgs false
set_option linter.unusedVariables false
set_option maxRecDepth 100000
set_option maxHeartbeats 16000000
theorem parse_call (t : List UInt8) (ht : t.length ≤ 10000) (H : Heap) : VCall Tryd.prog 43 [roB t] H (fun v K => v = hresV (hparse t) ∧ K = H) :=
  parse_of (Q := fun _ => True) (fun x H _ hx => containsAny_call x H (by omega)) t ht (lvis_all (fun _ => trivial) _ _ _) H
/-- The fields that a text has, if it is a header. -/
def HR.flds : HR → List HF
  | .err _ => []
  | .ok l _ => l
theorem hfield_len (p : List UInt8) : (hfield p).1.length ≤ p.length ∧ (hfield p).2.length ≤ p.length := by
  have h := cutB_len p 58
  have h2 := (trimB_sub (cutB p 58).2.1).length_le
  exact ⟨h.1, Nat.le_trans h2 h.2⟩
theorem hgo_flds (n : Nat) : ∀ (t cur : List UInt8) (acc : List HF), cur.length + t.length ≤ n → (∀ f ∈ acc, f.1.length ≤ n ∧ f.2.length ≤ n) → (∀ f ∈ (hgo t cur acc).flds, f.1.length ≤ n ∧ f.2.length ≤ n) ∧ (hgo t cur acc).flds.length ≤ acc.length + t.length + 1
  | [], cur, acc, h, ha => by
    have hs : ∀ f ∈ acc ++ [hfield (trimCR cur)], f.1.length ≤ n ∧ f.2.length ≤ n := fun f hf => by
      rcases List.mem_append.1 hf with hf | hf
      · exact ha f hf
      · rw [List.mem_singleton.1 hf]
        have h1 := hfield_len (trimCR cur)
        have h2 := trimCR_len cur
        simp only [List.length_nil] at h
        omega
    show (∀ f ∈ (hstep cur acc (.ok acc []) (fun a => .ok a [])).flds, _) ∧ (hstep cur acc (.ok acc []) (fun a => .ok a [])).flds.length ≤ _
    unfold hstep
    split
    · exact ⟨ha, by show acc.length ≤ _; omega⟩
    · split
      · exact ⟨hs, by show (acc ++ [hfield (trimCR cur)]).length ≤ _; simp⟩
      · exact ⟨(fun f hf => by cases hf), Nat.zero_le _⟩
  | b :: t, cur, acc, h, ha => by
    have hs : ∀ f ∈ acc ++ [hfield (trimCR cur)], f.1.length ≤ n ∧ f.2.length ≤ n := fun f hf => by
      rcases List.mem_append.1 hf with hf | hf
      · exact ha f hf
      · rw [List.mem_singleton.1 hf]
        have h1 := hfield_len (trimCR cur)
        have h2 := trimCR_len cur
        simp only [List.length_cons] at h
        omega
    show (∀ f ∈ (if b = 10 then hstep cur acc (.ok acc t) (fun a => hgo t [] a) else hgo t (cur ++ [b]) acc).flds, _) ∧ (if b = 10 then hstep cur acc (.ok acc t) (fun a => hgo t [] a) else hgo t (cur ++ [b]) acc).flds.length ≤ _
    by_cases hb : b = 10
    · rw [if_pos hb]
      unfold hstep
      split
      · exact ⟨ha, by show acc.length ≤ _; simp only [List.length_cons]; omega⟩
      · split
        · have ih := hgo_flds n t [] (acc ++ [hfield (trimCR cur)]) (by simp only [List.length_cons, List.length_nil] at h ⊢; omega) hs
          refine ⟨ih.1, ?_⟩
          have := ih.2
          simp only [List.length_append, List.length_cons, List.length_nil] at this ⊢
          omega
        · exact ⟨(fun f hf => by cases hf), Nat.zero_le _⟩
    · rw [if_neg hb]
      have ih := hgo_flds n t (cur ++ [b]) acc (by simp only [List.length_append, List.length_cons, List.length_nil] at h ⊢; omega) ha
      refine ⟨ih.1, ?_⟩
      have := ih.2
      simp only [List.length_cons]
      omega
theorem hres_flds (r : HR) : ∃ b e, hresV r = .tp [hdrV r.flds, roB b, iV e] ∧ rresV r = .tp [.ro r.flds.length (rowsS r.flds), strV b, iV e] := by
  cases r with
  | err e => exact ⟨[], e, rfl, rfl⟩
  | ok l b => exact ⟨b, 0, rfl, rfl⟩
theorem headerTells_walk (t name : List UInt8) : VCall Tryd.prog 7 [roB t, strV name] ⟨[], 0⟩ (fun v _ => v = .sc (.bool true)) := by
  have htz := str_size name
  by_cases hln : t.length ≤ 800 ∧ name.length ≤ 100
  · obtain ⟨hl, hn⟩ := hln
    have hp := fun H => parse_call t (by omega) H
    have hrp := fun H => rparse_call t (by omega) H
    obtain ⟨hf, hfn⟩ := hgo_flds 10000 t [] [] (by simp; omega) (fun f hf => by cases hf)
    obtain ⟨b, e, e1, e2⟩ := hres_flds (hparse t)
    rw [e1] at hp
    rw [e2] at hrp
    have hfl : (hparse t).flds.length ≤ 10000 := by
      have : (hparse t).flds.length ≤ ([] : List HF).length + t.length + 1 := hfn
      simp only [List.length_nil] at this
      omega
    have hf : ∀ f ∈ (hparse t).flds, f.1.length ≤ 10000 ∧ f.2.length ≤ 10000 := hf
    generalize (hparse t).flds = l at *
    have hrv := fun H => rvalues_call l name (by omega) (by omega) (fun f h => (hf f h).1) H
    have hg := fun H => get_call l name (by omega) (by omega) hf H
    have hv := fun H => values_call l name H
    have htx := fun H => texts_call l name (by omega) (by omega) hf H
    have hvl : (valsB l name).length ≤ l.length := List.length_filterMap_le _ _
    have hvx : ∀ x ∈ valsB l name, x.length ≤ 10000 := fun x hx => by
      obtain ⟨f, h1, h2⟩ := List.mem_filterMap.1 hx
      unfold valOf at h2
      split at h2
      · cases h2; exact (hf f h1).2
      · cases h2
    generalize valsB l name = V at *
    have hsm := fun H => same1_call V V H (by omega)
    rw [show (V == V) = true by simp] at hsm
    refine VCall.go Tryd.func7 rfl ?_
    cases V with
    | nil =>
      repeat' (first | with_reducible refine And.intro ?_ ?_ | ((with_reducible intro hc); (try simp only [zA, zB, zC, zD, zE, zF, zG, zH, zI, zJ, zK, zL, zM, zN, zO, zP, zQ, zR, zS, zT, zU, zV, zW] at hc); (first | (exact absurd rfl hc) | (exact absurd trivial hc) | (exfalso; omega) | skip)) | exact Is.mk rfl rfl | ((conv => whnf); first | with_reducible refine And.intro ?_ ?_ | with_reducible intro hx | exact Is.mk rfl rfl | (with_reducible first | apply Val.via | apply ValH.via) | refine ifB_intro ?_ ?_ | refine xA (by omega) ?_ | ((refine xB ?_); intro kw hk1 hk2) | refine xC (by omega) ?_ | refine xD ?_ | refine xE (by omega) ?_ | refine xF (by omega) ?_ | refine xG ?_ | refine xH ?_ | refine xI (by omega) ?_ | refine xJ (by omega) ?_ | (with_reducible refine stopA ?_) | refine Exists.intro _ (And.intro (by (first | exact vat_of rfl rfl rfl | exact vbytes_map t | rfl)) ?_) | refine GOp.drawn (by rfl) (by rfl) (Nat.le_of_ble_eq_true (by rfl)) (by rfl) | refine GOp.via (by rfl) ?_ | refine GWP.drawY mixed _ (by kernel_rfl) (by rfl) ?_ | (first | (refine GCall.mk ((lives11_call _).mono ?_); rintro _ _ ⟨rfl, rfl⟩) | (refine GCall.mk ((hp _).mono ?_); rintro _ _ ⟨rfl, rfl⟩) | (refine GCall.mk ((hrp _).mono ?_); rintro _ _ ⟨rfl, rfl⟩) | (refine GCall.mk ((hrv _).mono ?_); rintro _ _ ⟨rfl, rfl⟩) | (refine GCall.mk ((hg _).mono ?_); rintro _ _ ⟨rfl, rfl⟩) | (refine GCall.mk ((hv _).mono ?_); rintro _ _ ⟨rfl, rfl⟩) | (refine GCall.mk ((htx _).mono ?_); rintro _ _ ⟨rfl, rfl⟩) | (refine GCall.mk ((hsm _).mono ?_); rintro _ _ ⟨rfl, rfl⟩)) | (with_reducible first | refine stopO ?_ | refine stopE ?_ | refine stopD ?_ | refine stopW ?_ | refine stopG ?_ | refine stopC ?_ | refine stopR ?_)))
      (all_goals (first | omega | (rw [List.length_map]; done) | (simp only [List.length_cons]; omega) | skip))
      all_goals exact Done'.mk rfl
    | cons x r =>
      have hxl := hvx x (by simp)
      repeat' (first | with_reducible refine And.intro ?_ ?_ | ((with_reducible intro hc); (try simp only [zA, zB, zC, zD, zE, zF, zG, zH, zI, zJ, zK, zL, zM, zN, zO, zP, zQ, zR, zS, zT, zU, zV, zW] at hc); (first | (exact absurd rfl hc) | (exact absurd trivial hc) | (exfalso; omega) | skip)) | exact Is.mk rfl rfl | ((conv => whnf); first | with_reducible refine And.intro ?_ ?_ | with_reducible intro hx | exact Is.mk rfl rfl | (with_reducible first | apply Val.via | apply ValH.via) | refine ifB_intro ?_ ?_ | refine xA (by omega) ?_ | ((refine xB ?_); intro kw hk1 hk2) | refine xC (by omega) ?_ | refine xD ?_ | refine xE (by omega) ?_ | refine xF (by omega) ?_ | refine xG ?_ | refine xH ?_ | refine xI (by omega) ?_ | refine xJ (by omega) ?_ | (with_reducible refine stopA ?_) | refine Exists.intro _ (And.intro (by (first | exact vat_of vagg_str rfl rfl | exact vat_of rfl rfl rfl | exact vbytes_map x | exact vbytes_map t | rfl)) ?_) | refine GOp.drawn (by rfl) (by rfl) (Nat.le_of_ble_eq_true (by rfl)) (by rfl) | refine GOp.via (by rfl) ?_ | refine GWP.drawY mixed _ (by kernel_rfl) (by rfl) ?_ | (first | (refine GCall.mk ((lives11_call _).mono ?_); rintro _ _ ⟨rfl, rfl⟩) | (refine GCall.mk ((hp _).mono ?_); rintro _ _ ⟨rfl, rfl⟩) | (refine GCall.mk ((hrp _).mono ?_); rintro _ _ ⟨rfl, rfl⟩) | (refine GCall.mk ((hrv _).mono ?_); rintro _ _ ⟨rfl, rfl⟩) | (refine GCall.mk ((hg _).mono ?_); rintro _ _ ⟨rfl, rfl⟩) | (refine GCall.mk ((hv _).mono ?_); rintro _ _ ⟨rfl, rfl⟩) | (refine GCall.mk ((htx _).mono ?_); rintro _ _ ⟨rfl, rfl⟩) | (refine GCall.mk ((hsm _).mono ?_); rintro _ _ ⟨rfl, rfl⟩)) | (with_reducible first | refine stopO ?_ | refine stopE ?_ | refine stopD ?_ | refine stopW ?_ | refine stopG ?_ | refine stopC ?_ | refine stopR ?_)))
      (all_goals (first | omega | (rw [List.length_map]; done) | (simp only [List.length_cons]; omega) | skip))
      all_goals exact Done'.mk rfl
  · refine VCall.go Tryd.func7 rfl ?_
    repeat' (first | with_reducible refine And.intro ?_ ?_ | ((with_reducible intro hc); (try simp only [zA, zB, zC, zD, zE, zF, zG, zH, zI, zJ, zK, zL, zM, zN, zO, zP, zQ, zR, zS, zT, zU, zV, zW] at hc); (first | (exact absurd rfl hc) | (exact absurd trivial hc) | (exfalso; omega) | skip)) | exact Is.mk rfl rfl | ((conv => whnf); first | with_reducible refine And.intro ?_ ?_ | with_reducible intro hx | exact Is.mk rfl rfl | (with_reducible first | apply Val.via | apply ValH.via) | refine ifB_intro ?_ ?_ | refine xA (by omega) ?_ | ((refine xB ?_); intro kw hk1 hk2) | refine xC (by omega) ?_ | refine xD ?_ | refine xE (by omega) ?_ | refine xF (by omega) ?_ | refine xG ?_ | refine xH ?_ | refine xI (by omega) ?_ | refine xJ (by omega) ?_ | (with_reducible refine stopA ?_) | refine Exists.intro _ (And.intro (by rfl) ?_) | refine GOp.drawn (by rfl) (by rfl) (Nat.le_of_ble_eq_true (by rfl)) (by rfl) | refine GOp.via (by rfl) ?_ | refine GWP.drawY mixed _ (by kernel_rfl) (by rfl) ?_ | (refine GCall.mk ((lives11_call _).mono ?_); rintro _ _ ⟨rfl, rfl⟩) | (with_reducible first | refine stopO ?_ | refine stopE ?_ | refine stopD ?_ | refine stopW ?_ | refine stopG ?_ | refine stopC ?_ | refine stopR ?_)))
    all_goals (first | omega | exact Done'.mk rfl)
end Go.Proofs.YtmmjgbdihgdekaaDoor

/- What the laid tables and a shaped world give: the tables that the walks read. -/
namespace Go.Proofs.YtmmjgbdihgdekaaDoor
open Go Go.RowKit Go.Shelf
set_option linter.unusedSimpArgs false
set_option linter.unusedVariables false
set_option maxRecDepth 100000
def utRen : Go.Shelf.Ren := ⟨fun n => n, fun | 5 => 5 | 119 => 233 | 138 => 235 | 139 => 236 | n => n, fun | 3 => 1 | 4 => 2 | n => n⟩
theorem utTypes : U8Types Tryd.prog utRen := { t5 := Tryd.underlying5, t119 := Tryd.underlying233, t138 := Tryd.underlying235, t139 := Tryd.underlying236 }
theorem utExtra : U8Extra Tryd.prog utRen := ⟨by kernel_rfl, by kernel_rfl, by kernel_rfl, by kernel_rfl, by kernel_rfl, by kernel_rfl, by kernel_rfl⟩
theorem utFirst : Rows.laid_unicode_utf8_first = Lib.firstData := by kernel_rfl
theorem utAccept : (Rows.laid_unicode_utf8_acceptRanges : DataW Unit) = Lib.acceptData := by kernel_rfl
theorem utTabs {W : World} (hL : laidMet Tryd.prog [("unicode/utf8.acceptRanges", Rows.laid_unicode_utf8_acceptRanges), ("unicode/utf8.first", Rows.laid_unicode_utf8_first)] W) (hS : W.ShapedOpen Tryd.prog) : Tabs W := by
  refine ⟨utf8Tabs_of_readsT (ρ := utRen) utTypes utExtra ?_ ?_, ?_⟩
  · have := Lib.laidMet.reads hL (.tail _ (.head _))
    rwa [utFirst] at this
  · have := Lib.laidMet.reads hL (.head _)
    rwa [utAccept] at this
  · exact cell_of_shapedOpen_int (t := 3) (zero := #[.int .i64 0]) hS (of_decide_eq_true (by kernel_rfl)) (by kernel_rfl) rfl (by kernel_rfl) (by kernel_rfl) Tryd.underlying3
theorem utGlob {W : World} (h : Tabs W) : Glob W (fun _ => False) := fun w' a b c d e =>
  have hb : Below W.heap.size W w' := ⟨a, b, c, d, fun k hk => e k hk id⟩
  ⟨Utf8Tabs_below h.1 hb, h.2.elim fun m hm => ⟨m, by rw [hb.cell (p := ⟨0, 0, none⟩) (block_lt_of_cell hm)]; exact hm⟩⟩
end Go.Proofs.YtmmjgbdihgdekaaDoor

/- PROVED: for every input cordonlaw11.HeaderTells returns true, and its arguments read as before; the listed tables hold what the program's text lays (the card ties them). -/
namespace Go.Proofs.YtmmjgbdihgdekaaDoor.lawHeaderTells
open Go.ChangeShapes Go.WideShapes Go.ChangeAt Go.RowKit Go.Joins
open Go.ChangeMaps (open_string shut_string)
set_option linter.unusedSimpArgs false
set_option linter.unusedVariables false

theorem own : ownKnob Tryd.prog.godebug = none := by kernel_rfl
theorem laidOut : laidOutB Tryd.prog = true := by kernel_rfl
theorem u8cells : Tryd.prog.cellsOf 5 = 1 := by kernel_rfl

set_option maxRecDepth 100000 in
theorem contract (H : Type) (enc : TypeId × Value → H) (W : World) (base : Nat) (args : Array Value) (ds gs : List (DataW H)) (before : List MemPlace)
    (hval : ∀ (j : Nat) t v, Tryd.f7.params[j]? = some t → args[j]? = some v → Value.okWide Tryd.prog W .any base t v)
    (hW : DataW.Whole enc Tryd.prog Tryd.f7.params.toList Rows.headerTellsSpec.vars false W args.toList ds gs before) (hL : laidMetH Tryd.prog Rows.headerTellsRow.laid W) (hS : W.ShapedOpen Tryd.prog) :
    Calls Tryd.prog 7 args W fun e W' => ∃ v, e = .returned v ∧ Rows.headerTellsSpec.post enc Tryd.prog Tryd.f7 false true false false W args v W' := by
  have hW' := hW
  obtain ⟨p, q, hA0, hV, rfl, hfz, hnd⟩ := hW
  have hA : DataW.TrodAll enc Tryd.prog W 0 (fun _ => true) true Tryd.f7.params.toList args.toList ds p := hA0
  rw [Tryd.params7] at hA hval
  obtain ⟨v0, vs0, d0, ds0, p0, q0, hargs, rfl, rfl, h0, r0⟩ := trodAll_cons hA
  obtain ⟨v1, vs1, d1, ds1, p1, q1, rfl, rfl, rfl, h1, r1⟩ := trodAll_cons r0
  obtain ⟨rfl, rfl, rfl⟩ := trodAll_nil r1
  obtain rfl : args = #[v0, v1] := by cases args; simp_all
  obtain ⟨rfl, rfl⟩ := trodVars_none hV
  have k0 := h0
  have lt0 : ∀ x ∈ p0, x.block < W.heap.size := by obtain ⟨m, hm⟩ := k0; exact DataW.trod_lt m _ _ _ hm
  have k1 := h1
  have lt1 : ∀ x ∈ p1, x.block < W.heap.size := by obtain ⟨m, hm⟩ := k1; exact DataW.trod_lt m _ _ _ hm
  have hwalk : Calls Tryd.prog 7 #[v0, v1] W fun e w' => e = .returned (.bool true) ∧ Below W.heap.size W w' := by
    obtain ⟨l0, hl00, hr0⟩ := open_roB Tryd.underlying22 Tryd.underlying5 u8cells (hval 0 22 v0 rfl rfl) h0
    have hl0 : l0.length ≤ 9223372036854775807 := by unfold maxLen at hl00; exact hl00
    obtain ⟨t1, rfl, rfl, rfl, ht1⟩ := open_string Tryd.underlying9 (hval 1 9 v1 rfl rfl) h1
    obtain ⟨⟨l1⟩⟩ := t1
    exact VCall.law (headerTells_walk l0 l1) W #[v0, .string ⟨⟨l1⟩⟩] (Pw.cons hr0 (Pw.cons (.sc rfl) Pw.nil)) (utGlob (utTabs hL hS))
  clear hA0
  refine hwalk.mono fun e W' ⟨he, bel⟩ => ?_
  subst he
  exact ⟨_, rfl, _, _, _, [], _, [], hW', trodAll_mk1 (shut_bool Tryd.underlying4 _), (trodAll_cons_mk (Below.trod laidOut (by kernel_rfl) (of_decide_eq_true (by kernel_rfl)) k0 bel lt0) (trodAll_cons_mk (Below.trod laidOut (by kernel_rfl) (of_decide_eq_true (by kernel_rfl)) k1 bel lt1) trodAll_mk0)), rfl, bel.frame _, fun h => by cases h⟩

/-- A datum's cells. -/
def cellsOfData : DataW Unit → Array Value
  | .agg l => (l.flatMap fun x => match x with
    | .lit (.int k n) => [Value.int k n]
    | .agg m => m.map fun y => match y with
      | .lit (.int k n) => Value.int k n
      | _ => undef
    | _ => [undef]).toArray
  | _ => #[]
def setRow (d : DataW Unit) : Obj → Obj
  | .cells _ t frozen => .cells (cellsOfData d) t frozen
  | o => o
/-- A world for the witness: the settled one, the tables holding what their initialisers lay. -/
noncomputable def laidWorld (os : Os) : World :=
  { World.holding Tryd.prog os ⟨#[], #[], []⟩ with heap := (((World.holding Tryd.prog os ⟨#[], #[], []⟩).heap.modify 2 (setRow Rows.laid_unicode_utf8_acceptRanges)).modify 1 (setRow Rows.laid_unicode_utf8_first)) }
theorem laid_met (os : Os) : laidMet Tryd.prog Rows.headerTellsRow.laid ((laidWorld os).forCall (fun _ _ => 0) ⟨#[], #[.slice none 0 0, .string ⟨#[]⟩], []⟩).memory :=
  laidMet_of_run' 8 (by kernel_rfl) (by kernel_rfl)
theorem reads (os : Os) {H : Type} (enc : TypeId × Value → H) : ∃ places, DataW.whole enc Tryd.prog ((laidWorld os).forCall (fun _ _ => 0) ⟨#[], #[.slice none 0 0, .string ⟨#[]⟩], []⟩).memory Tryd.f7.params.toList Rows.headerTellsSpec.vars false (#[.slice none 0 0, .string ⟨#[]⟩] : Array Value).toList 8 = some ([.nil, .lit (.string [])], [], places) :=
  ⟨[], by kernel_rfl⟩

set_option maxRecDepth 100000 in
theorem lifted (os : Os) (started : os.Started) (H : Type) (enc : TypeId × Value → H) (F : Stop.Interp) :
    ReturnsInHanded {} Tryd.checked os 7 .any ((OpenSpec.ofChange Rows.headerTellsSpec).preRow enc Tryd.prog Tryd.f7 Rows.headerTellsRow.domain false Rows.headerTellsRow.laid) (((OpenSpec.ofChange Rows.headerTellsSpec).at F).post enc Tryd.prog Tryd.f7 false true false false) := by
  obtain ⟨places, hx⟩ := reads os enc
  refine returnsInHanded_of_row (C := Tryd.checked) (s := OpenSpec.ofChange Rows.headerTellsSpec) own started (by kernel_rfl) Tryd.func7
    (witness_row_at (enc := enc) (C := Tryd.checked) false (laidWorld os) #[.slice none 0 0, .string ⟨#[]⟩] rfl (by kernel_rfl) (by kernel_rfl) (by kernel_rfl)
      (OpenSpec.preRow_of_cond 8 hx (by kernel_rfl) (fun k hk => by cases hk) (by kernel_rfl) (laid_met os))) ?_
  intro W base args ds gs before hval hW _ _ _ hL hS _
  exact contract H enc W base args ds gs before hval hW hL hS

theorem said : Rows.HeaderTellsSaid :=
  OpenClaim.holds_of_cond 7 Tryd.f7 rfl rfl rfl rfl rfl rfl rfl ⟨rfl, rfl, rfl, rfl, rfl⟩ rfl rfl rfl rfl rfl (by kernel_rfl) Tryd.func7 (by kernel_rfl)
    (of_decide_eq_true (by kernel_rfl)) (by unfold Func.isWrapper; first | (rw [if_pos (by decide +kernel)]; kernel_rfl) | (rw [if_neg (by decide +kernel)]; exact ⟨rfl, rfl⟩))
    (fun os started H enc _ F => by rw [OpenClaim.pre_eq_preRow]; exact lifted os started H enc F)
theorem plain (f : FuncId) (fn : Func) (hf : Tryd.pinned.checked.prog.funcNamed "cordon/cordonlaw11.HeaderTells" = some f) (hfn : Tryd.pinned.checked.prog.funcs[f]? = some fn) :
    false = Tryd.pinned.checked.prog.looks [] ∧ ∀ (j : Nat) t, fn.params[j]? = some t → Tryd.pinned.checked.prog.wantsStandIn t = false := by
  obtain rfl : f = 7 := Option.some.inj ((show Tryd.prog.funcNamed "cordon/cordonlaw11.HeaderTells" = some 7 by kernel_rfl).symm.trans hf) |>.symm
  obtain rfl : fn = Tryd.f7 := (Option.some.inj (Tryd.func7.symm.trans hfn)).symm
  refine ⟨by kernel_rfl, fun j t ht => ?_⟩
  rw [Tryd.params7] at ht
  have : t = 22 ∨ t = 9 := by
    have hm := Array.mem_of_getElem? ht
    simp at hm
    first | omega | (rcases hm with rfl | rfl <;> simp)
  rcases this with rfl | rfl
  · exact (show Tryd.prog.wantsStandIn 22 = false by kernel_rfl)
  · exact (show Tryd.prog.wantsStandIn 9 = false by kernel_rfl)
/-- The card. -/
theorem card : Rows.HeaderTellsCardSaid :=
  Claim7.holds_tied_plain_at .later [] _ _ _ _ said (fun _ h => by cases h) (by kernel_rfl) (fun _ h => by cases h) headerTells_row_tie rfl ⟨rfl, rfl⟩ (by kernel_rfl) rfl plain (by kernel_rfl)
#print axioms card
end Go.Proofs.YtmmjgbdihgdekaaDoor.lawHeaderTells

