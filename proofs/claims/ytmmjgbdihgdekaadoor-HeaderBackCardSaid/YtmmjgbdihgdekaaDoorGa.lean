import Derived.Shelf.Spec.DecodeRune
import Derived.Below
import Derived.Test.YtmmjgbdihgdekaaDoorProg
import Derived.Test.YtmmjgbdihgdekaaDoorChecked
import Derived.Shelf.Spec.BytesIndexFunc
import Derived.Lib.IndexAny
import Derived.Lib.IndexEntry
import Derived.Lib.OthersKept
import Derived.WalkKit
import Derived.WalkSpells
import Derived.WalkLawsBesides
import Derived.Test.YtmmjgbdihgdekaaDoorG2
import Derived.Test.YtmmjgbdihgdekaaDoorE1
import Derived.Test.YtmmjgbdihgdekaaDoorRows
import Derived.Lib.LaidU8T
import Derived.PinnedBridge
import Derived.Shelf.Vars
/-
  DERIVED: THE SHELF's CONTRACTS AT THIS DUMP, IN PLAIN WORDS (tools/lay-plain.mjs out of 'TrydDec.lean', which tools/lay-shelf.mjs wrote): THE SAME DECLARATIONS UNDER THE SAME NAMES: 'import', 'namespace', 'open', 'def', 'theorem' AND NOTHING ELSE: no command of the shelf's: FOR A HAND-IN. Each laying: the table of numbers ('.._ren') and one theorem, a field a fact of the dump's own or the kernel's comparison; each contract: ONE APPLICATION.
-/
namespace Go.Proofs
open Go.Shelf
def Tryd.lays32d_ren : Go.Shelf.Ren := ⟨fun | 32 => 185 | 49 => 210 | n => n, fun | 30 => 22 | 21 => 21 | 3 => 3 | 0 => 0 | 5 => 5 | 4 => 4 | 33 => 205 | 66 => 233 | 25 => 88 | 69 => 236 | 68 => 235 | n => n, fun | 2 => 1 | 3 => 2 | n => n⟩
theorem Tryd.lays32d : Go.Proofs.Lays7.n32 Tryd.prog Tryd.lays32d_ren := {
  mixed := by kernel_rfl
  f32 := Tryd.func185.trans (congrArg some (by kernel_rfl))
  f49 := Tryd.func210.trans (congrArg some (by kernel_rfl))
  t0 := Tryd.underlying0
  a0 := Tryd.isAgg0
  z0 := Tryd.sizeOf0
  v0 := Tryd.zeroValue0
  i0 := by kernel_rfl
  t3 := Tryd.underlying3
  a3 := Tryd.isAgg3
  z3 := Tryd.sizeOf3
  v3 := Tryd.zeroValue3
  i3 := by kernel_rfl
  t4 := Tryd.underlying4
  a4 := Tryd.isAgg4
  z4 := Tryd.sizeOf4
  v4 := Tryd.zeroValue4
  i4 := by kernel_rfl
  t5 := Tryd.underlying5
  a5 := Tryd.isAgg5
  z5 := Tryd.sizeOf5
  v5 := Tryd.zeroValue5
  i5 := by kernel_rfl
  t21 := Tryd.underlying21
  a21 := Tryd.isAgg21
  z21 := Tryd.sizeOf21
  v21 := Tryd.zeroValue21
  i21 := by kernel_rfl
  t25 := Tryd.underlying88
  a25 := Tryd.isAgg88
  z25 := Tryd.sizeOf88
  v25 := Tryd.zeroValue88
  i25 := by kernel_rfl
  t30 := Tryd.underlying22
  a30 := Tryd.isAgg22
  z30 := Tryd.sizeOf22
  v30 := Tryd.zeroValue22
  i30 := by kernel_rfl
  t33 := Tryd.underlying205
  a33 := Tryd.isAgg205
  z33 := Tryd.sizeOf205
  v33 := Tryd.zeroValue205
  i33 := by kernel_rfl
  t66 := Tryd.underlying233
  a66 := Tryd.isAgg233
  z66 := Tryd.sizeOf233
  t68 := Tryd.underlying235
  a68 := Tryd.isAgg235
  z68 := Tryd.sizeOf235
  v68 := Tryd.zeroValue235
  i68 := by kernel_rfl
  t69 := Tryd.underlying236
  a69 := Tryd.isAgg236
  z69 := Tryd.sizeOf236
  v69 := Tryd.zeroValue236
  i69 := by kernel_rfl
  g2 := by kernel_rfl
  g3 := by kernel_rfl }
end Go.Proofs

/- bytes.IndexAny of "\r\n", at texts of 2 to 8 bytes, in the world: what no walk of ours covers (DecodeRune, a range over a string). -/
namespace Go.Proofs.YtmmjgbdihgdekaaDoor
open Go.Shelf Go.RowKit Go.Lib
set_option linter.unusedSimpArgs false
set_option linter.unusedVariables false
theorem decRune (s : ByteArray) (b off cap : Nat) (w : World) (hT : Lib.Utf8Tabs 1 2 w)
    (hp : ∀ j, j < s.size → w.cell? ⟨b, off + j, none⟩ = some (.int .u8 (s.get! j).toNat)) :
    Calls Tryd.prog 185 #[.slice (some ⟨b, off, none⟩) s.size cap] w fun e w' => e = .returned (.tuple #[.int .i32 (Lib.decodeGo s).1, .int .i64 (Lib.decodeGo s).2]) ∧ Below w.heap.size w w' := Any7.utf8_DecodeRune Tryd.lays32d s b off cap w hT hp
theorem sh208 (n : Int) (w : World) : Calls Tryd.prog 208 #[.int .i64 n] w fun e w' => e = .returned (.bool (decide (8 < n))) ∧ w' = w := by
  go_enter Tryd.func208, Tryd.ntmps208
  go_wp2
  go_ret
  exact ⟨rfl, rfl⟩
theorem dec_facts (s : ByteArray) (p : Nat) (hp : p < s.size) (h : 128 ≤ (s.get! p).toNat) :
    128 ≤ (Utf8.decode s p).1 ∧ 1 ≤ (Utf8.decode s p).2 ∧ p + (Utf8.decode s p).2 ≤ s.size ∧ (∀ j, p ≤ j → j < p + (Utf8.decode s p).2 → 128 ≤ (s.get! j).toNat) ∧ ((Utf8.decode s p).1 = 65533 ∨ ((Utf8.decode s p).2 = 2 ∧ (Utf8.decode s p).1 < 2048) ∨ ((Utf8.decode s p).2 = 3 ∧ 2048 ≤ (Utf8.decode s p).1 ∧ (Utf8.decode s p).1 < 65536 ∧ Utf8.valid (Utf8.decode s p).1 = true) ∨ ((Utf8.decode s p).2 = 4 ∧ 65536 ≤ (Utf8.decode s p).1 ∧ Utf8.valid (Utf8.decode s p).1 = true)) := by
  have hc : ∀ k, (decide (p + k < s.size) && (s.get! (p + k)).toNat / 64 == 2) = true → p + k < s.size ∧ 128 ≤ (s.get! (p + k)).toNat ∧ (s.get! (p + k)).toNat < 192 := by
    intro k hk
    simp only [Bool.and_eq_true, decide_eq_true_eq, beq_iff_eq] at hk
    omega
  have h0 : (s.get! (p + 0)).toNat = (s.get! p).toNat := rfl
  unfold Utf8.decode
  simp only [h0]
  rw [if_neg (by omega)]
  have one : ∀ j, p ≤ j → j < p + 1 → 128 ≤ (s.get! j).toNat := fun j h1 h2 => by
    obtain rfl : j = p := by omega
    exact h
  split
  · rename_i h2
    simp only [Bool.and_eq_true] at h2
    have k1 := hc 1 (by simpa using h2.2)
    split
    · rename_i h3
      refine ⟨h3, by omega, by omega, fun j a b => ?_, .inr (.inl ⟨rfl, by omega⟩)⟩
      rcases (show j = p ∨ j = p + 1 by omega) with rfl | rfl
      · exact h
      · exact k1.2.1
    · exact ⟨by decide, by omega, by omega, one, .inl rfl⟩
  · split
    · rename_i h2
      simp only [Bool.and_eq_true] at h2
      have k1 := hc 1 (by simpa using h2.1.2)
      have k2 := hc 2 (by simpa using h2.2)
      split
      · rename_i h3
        simp only [Bool.and_eq_true, decide_eq_true_eq] at h3
        refine ⟨by omega, by omega, by omega, fun j a b => ?_, .inr (.inr (.inl ⟨rfl, h3.1, by omega, h3.2⟩))⟩
        rcases (show j = p ∨ j = p + 1 ∨ j = p + 2 by omega) with rfl | rfl | rfl
        · exact h
        · exact k1.2.1
        · exact k2.2.1
      · exact ⟨by decide, by omega, by omega, one, .inl rfl⟩
    · split
      · rename_i h2
        simp only [Bool.and_eq_true] at h2
        have k1 := hc 1 (by simpa using h2.1.1.2)
        have k2 := hc 2 (by simpa using h2.1.2)
        have k3 := hc 3 (by simpa using h2.2)
        split
        · rename_i h3
          simp only [Bool.and_eq_true, decide_eq_true_eq] at h3
          refine ⟨by omega, by omega, by omega, fun j a b => ?_, .inr (.inr (.inr ⟨rfl, h3.1, h3.2⟩))⟩
          rcases (show j = p ∨ j = p + 1 ∨ j = p + 2 ∨ j = p + 3 by omega) with rfl | rfl | rfl | rfl
          · exact h
          · exact k1.2.1
          · exact k2.2.1
          · exact k3.2.1
        · exact ⟨by decide, by omega, by omega, one, .inl rfl⟩
      · exact ⟨by decide, by omega, by omega, one, .inl rfl⟩
theorem enc_head (R : Nat) (h : 128 ≤ R) : ∃ c t, (Utf8.encode (R : Int)).data.toList = c :: t ∧ 192 ≤ c.toNat := by
  have key : ∀ n : Nat, 128 ≤ n → n < 1114112 → ∃ c t, (if n < 0x80 then (⟨#[UInt8.ofNat n]⟩ : ByteArray)
    else if n < 0x800 then ⟨#[UInt8.ofNat (0xC0 + n / 64), UInt8.ofNat (0x80 + n % 64)]⟩
    else if n < 0x10000 then ⟨#[UInt8.ofNat (0xE0 + n / 4096), UInt8.ofNat (0x80 + n / 64 % 64), UInt8.ofNat (0x80 + n % 64)]⟩
    else ⟨#[UInt8.ofNat (0xF0 + n / 262144), UInt8.ofNat (0x80 + n / 4096 % 64), UInt8.ofNat (0x80 + n / 64 % 64), UInt8.ofNat (0x80 + n % 64)]⟩).data.toList = c :: t ∧ 192 ≤ c.toNat := by
    intro n h1 h2
    rw [if_neg (by omega)]
    split
    · refine ⟨_, _, rfl, ?_⟩
      rw [UInt8.toNat_ofNat']
      omega
    · split
      · refine ⟨_, _, rfl, ?_⟩
        rw [UInt8.toNat_ofNat']
        omega
      · refine ⟨_, _, rfl, ?_⟩
        rw [UInt8.toNat_ofNat']
        omega
  unfold Utf8.encode
  by_cases hv : Utf8.valid (R : Int) = true
  · simp only [hv, if_true, Int.toNat_natCast]
    refine key R h ?_
    simp only [Utf8.valid, Bool.or_eq_true, Bool.and_eq_true, decide_eq_true_eq] at hv
    omega
  · simp only [hv]
    exact key 65533 (by decide) (by decide)
theorem enc_size3 (R : Nat) (h : 2048 ≤ R) (h2 : R < 65536) (hv : Utf8.valid (R : Int) = true) : (Utf8.encode (R : Int)).size = 3 := by
  unfold Utf8.encode
  simp only [hv, if_true, Int.toNat_natCast]
  rw [if_neg (by omega), if_neg (by omega), if_pos (by omega)]
  rfl
theorem enc_size4 (R : Nat) (h : 65536 ≤ R) (hv : Utf8.valid (R : Int) = true) : (Utf8.encode (R : Int)).size = 4 := by
  unfold Utf8.encode
  simp only [hv, if_true, Int.toNat_natCast]
  rw [if_neg (by omega), if_neg (by omega), if_neg (by omega)]
  rfl
theorem crlf_ne (R : Nat) (h : 128 ≤ R) : ((⟨#[13, 10]⟩ : ByteArray).toList == (Utf8.encode (R : Int)).toList) = false := by
  obtain ⟨c, t, e, hc⟩ := enc_head R h
  rw [Lib.toList_data, Lib.toList_data, e]
  show (([13, 10] : List UInt8) == c :: t) = false
  rw [beq_eq_false_iff_ne]
  intro hh
  injection hh with hh
  rw [← hh] at hc
  exact absurd hc (by decide)
theorem crlf_index (b : ByteArray) (h : 3 ≤ b.size) : Lib.index (⟨#[13, 10]⟩ : ByteArray).data.toList b.data.toList = -1 := by
  refine Lib.index_none fun j _ => ?_
  cases ho : Lib.occAt (⟨#[13, 10]⟩ : ByteArray).data.toList b.data.toList j with
  | false => rfl
  | true =>
    have hl : (⟨#[13, 10]⟩ : ByteArray).size = 2 := rfl
    have hs := Lib.size_eq b
    rcases Lib.occAt_room ho with h | h
    · have e1 : (⟨#[13, 10]⟩ : ByteArray).data.toList.length = 2 := rfl
      rw [e1] at h
      omega
    · rw [h] at hs
      have h0 : b.size = 0 := hs
      omega
/-- None of the first bytes is a line feed or a carriage return. -/
def NoCR (s : ByteArray) (p : Nat) : Prop := ∀ j, j < p → s.get! j ≠ 13 ∧ s.get! j ≠ 10
theorem ib_none {x : UInt8} (h1 : x ≠ 13) (h2 : x ≠ 10) : Lib.indexByte (⟨#[13, 10]⟩ : ByteArray).data.toList ((x.toNat : Int)).toNat.toUInt8 = -1 := by
  have e : ((x.toNat : Int)).toNat.toUInt8 = x := by simp
  rw [e]
  show Lib.indexByte [13, 10] x = -1
  simp [Lib.indexByte, Ne.symm h1, Ne.symm h2]
theorem ib_some {x : UInt8} (h : x = 13 ∨ x = 10) : ∃ k : Nat, Lib.indexByte (⟨#[13, 10]⟩ : ByteArray).data.toList ((x.toNat : Int)).toNat.toUInt8 = (k : Int) := by
  rcases h with rfl | rfl
  · exact ⟨0, by decide⟩
  · exact ⟨1, by decide⟩
set_option maxHeartbeats 80000000 in
set_option maxRecDepth 1000000 in
theorem idxAny_short (s : ByteArray) (b off cap : Nat) (w : World) (hcap : s.size ≤ cap) (h2 : 2 ≤ s.size) (h8 : s.size ≤ 8) (hB : BytesAt s b off w) (hT : Lib.Utf8Tabs 1 2 w) (m : Int) (hm : w.cell? ⟨0, 0, none⟩ = some (.int .i64 m)) :
    Calls Tryd.prog 175 #[.slice (some ⟨b, off, none⟩) s.size cap, .string ⟨#[13, 10]⟩] w fun e w' => ∃ z : Int, e = .returned (.int .i64 z) ∧ Below w.heap.size w w' ∧ (0 ≤ z → ∃ j, j < s.size ∧ (s.get! j = 13 ∨ s.get! j = 10)) ∧ (z < 0 → NoCR s s.size) := by
  have h8z : decide ((8 : Int) < (s.size : Int)) = false := decide_eq_false (by omega)
  have hn1 : ((s.size : Int) == 1) = false := beq_eq_false_iff_ne.2 (by omega)
  go_enter Tryd.func175, Tryd.ntmps175
  go_wp2_with fail
  refine (sh208 _ _).mono ?_
  rintro e w' ⟨rfl, hw⟩
  rw [hw, h8z]
  go_wp2
  go_loopg [12] s.size (fun g s12 wx => ∃ p : Nat, s12 = .int .i64 p ∧ p ≤ s.size ∧ s.size ≤ p + g ∧ Below w.heap.size w wx ∧ NoCR s p)
  case atStart => exact ⟨0, rfl, Nat.zero_le _, by omega, Below.refl _ _, fun j hj => absurd hj (by omega)⟩
  case round =>
    obtain ⟨p, rfl, hp, hg, hbw, hno⟩ := hrel
    have HN : Aside (NoCR s p) := hno
    clear hno
    by_cases hps : p < s.size
    · obtain ⟨g', rfl⟩ : ∃ g', gk = g' + 1 := ⟨gk - 1, by omega⟩
      have hpz : (p : Int) < (s.size : Int) := by omega
      have hx := (hB.below hbw) p hps
      obtain ⟨x, hxe⟩ : ∃ x, s.get! p = x := ⟨_, rfl⟩
      have HX : Aside (s.get! p = x) := hxe
      rw [hxe] at hx
      by_cases h128 : x.toNat < 128
      · have h128z : ((x.toNat : Int) < 128) := by omega
        by_cases hcr : x = 13 ∨ x = 10
        · obtain ⟨k, hk⟩ := ib_some hcr
          have HC : Aside (x = 13 ∨ x = 10) := hcr
          clear hB hT hcr hxe
          go_wp2_with fail
          rw [run_callFunc_extern Tryd.func206 (by kernel_rfl) (by kernel_rfl) (by kernel_rfl) (e := Extern.BytealgIndexByte.indexByte) (by kernel_rfl), Lib.run_indexByteString, hk]
          simp only [Result.andThen]
          rw [Oper.upon_value]
          have hk0 : (0 : Int) ≤ (k : Int) := by omega
          go_wp2
          go_ret
          exact ⟨p, rfl, hbw, fun _ => ⟨p, hps, by rw [HX.out]; exact HC.out⟩, fun h => absurd h (by omega)⟩
        · have hk := ib_none (x := x) (fun e => hcr (.inl e)) (fun e => hcr (.inr e))
          have HC : Aside (¬ (x = 13 ∨ x = 10)) := hcr
          clear hB hT hcr hxe
          go_wp2_with fail
          rw [run_callFunc_extern Tryd.func206 (by kernel_rfl) (by kernel_rfl) (by kernel_rfl) (e := Extern.BytealgIndexByte.indexByte) (by kernel_rfl), Lib.run_indexByteString, hk]
          simp only [Result.andThen]
          rw [Oper.upon_value]
          go_wp2
          go_roundg g'
          case measure => omega
          case rel => exact ⟨p + 1, by go_num, by omega, by omega, hbw, fun j hj => by
            by_cases e : j = p
            · subst e
              rw [HX.out]
              exact ⟨fun e => HC.out (.inl e), fun e => HC.out (.inr e)⟩
            · exact HN.out j (by omega)⟩
      · obtain ⟨f1, f2, f3, f4, f5⟩ := dec_facts s p hps (by rw [hxe]; omega)
        have cD := decRune (s.extract p s.size) b (off + p) (cap - p) wr (Utf8Tabs_below hT hbw) ((hB.below hbw).tail p)
        have hsz := Lib.tail_size s p
        rw [hsz, decodeGo_tail s p hps] at cD
        obtain ⟨R, hR⟩ : ∃ R, (Utf8.decode s p).1 = R := ⟨_, rfl⟩
        obtain ⟨K, hK⟩ : ∃ K, (Utf8.decode s p).2 = K := ⟨_, rfl⟩
        rw [hR, hK] at cD f5
        rw [hR] at f1
        rw [hK] at f2 f3 f4
        have h128z : ¬ ((x.toNat : Int) < 128) := by omega
        have HF : Aside (∀ j, p ≤ j → j < p + K → 128 ≤ (s.get! j).toNat) := f4
        clear f4 hB hT hxe
        have hx256 : x.toNat < 256 := x.toNat_lt
        have hne : (([13, 10] : List UInt8) == (Utf8.encode (R : Int)).toList) = false := by
          have h := crlf_ne R f1
          have e : (⟨#[13, 10]⟩ : ByteArray).toList = [13, 10] := Lib.toList_data _
          rwa [e] at h
        have hcm : ∀ W, Below wr.heap.size wr W → W.cell? ⟨0, 0, none⟩ = some (.int .i64 m) := fun W hb => by
          rw [hb.cell (p := ⟨0, 0, none⟩) (block_lt_of_cell (by rw [hbw.cell (p := ⟨0, 0, none⟩) (block_lt_of_cell hm)]; exact hm)), hbw.cell (p := ⟨0, 0, none⟩) (block_lt_of_cell hm)]
          exact hm
        have hnext : NoCR s (p + K) := fun j hj => by
          by_cases e : j < p
          · exact HN.out j e
          · have := HF.out j (by omega) hj
            exact ⟨fun e => by rw [e] at this; exact absurd this (by decide), fun e => by rw [e] at this; exact absurd this (by decide)⟩
        have HNX : Aside (NoCR s (p + K)) := hnext
        clear hnext HF HX HN
        by_cases hE : R = 65533
        · have hR3 : ((R : Int) == 65533) = true := by rw [hE]; rfl
          clear hcm
          go_wp2_with (go_at_call 185; refine cD.mono ?_; rintro e W ⟨rfl, hb1⟩)
          have hbW : Below w.heap.size w W := hbw.trans (hb1.mono hbw.size)
          have hn0 : ∀ ty, (Instr.next (.pointer (some ⟨W.heap.size, 0, none⟩)) true ty).run Tryd.prog (W.iter ⟨#[13, 10]⟩ 0) = .ok (.tuple #[.bool true, .int .i64 0, .int .i32 13]) (W.iter ⟨#[13, 10]⟩ 1) := fun ty => run_next_ascii (P := Tryd.prog) W ⟨#[13, 10]⟩ 0 ty (by decide) (by decide)
          have hn1 : ∀ ty, (Instr.next (.pointer (some ⟨W.heap.size, 0, none⟩)) true ty).run Tryd.prog (W.iter ⟨#[13, 10]⟩ 1) = .ok (.tuple #[.bool true, .int .i64 1, .int .i32 10]) (W.iter ⟨#[13, 10]⟩ 2) := fun ty => run_next_ascii (P := Tryd.prog) W ⟨#[13, 10]⟩ 1 ty (by decide) (by decide)
          have hn2 : ∀ ty, (Instr.next (.pointer (some ⟨W.heap.size, 0, none⟩)) true ty).run Tryd.prog (W.iter ⟨#[13, 10]⟩ 2) = .ok (.tuple #[.bool false]) (W.iter ⟨#[13, 10]⟩ 2) := fun ty => run_next_end (P := Tryd.prog) W ⟨#[13, 10]⟩ 2 ty (by decide)
          go_loopg [15] 2 (fun g _ wx => ∃ q : Nat, q + g = 2 ∧ wx = W.iter ⟨#[13, 10]⟩ q)
          case atStart => exact ⟨0, rfl, rfl⟩
          case round =>
            obtain ⟨q, hq, rfl⟩ := hrel
            rcases (show q = 0 ∨ q = 1 ∨ q = 2 by omega) with rfl | rfl | rfl
            · obtain rfl : gk = 2 := by omega
              go_wp2
              go_roundg 1
              case measure => omega
              case rel => exact ⟨1, rfl, rfl⟩
            · obtain rfl : gk = 1 := by omega
              go_wp2
              go_roundg 0
              case measure => omega
              case rel => exact ⟨2, rfl, rfl⟩
            · obtain rfl : gk = 0 := by omega
              go_wp2
              go_roundg g'
              case measure => omega
              case rel => exact ⟨p + K, by go_num, by omega, by omega, hbW.alloc hbW.size _, HNX.out⟩
        · have hR3 : ((R : Int) == 65533) = false := beq_eq_false_iff_ne.2 (by omega)
          rcases f5.resolve_left hE with ⟨hK2, hr⟩ | hK34
          · subst hK2
            clear hcm
            go_wp2_with (go_at_call 185; refine cD.mono ?_; rintro e W ⟨rfl, hb1⟩)
            go_roundg g'
            case measure => omega
            case rel => exact ⟨p + 2, by go_num, by omega, by omega, hbw.trans (hb1.mono hbw.size), HNX.out⟩
          · have hKK : (3 ≤ K ∧ K ≤ 4) ∧ (Utf8.encode (R : Int)).size = K := by
              rcases hK34 with ⟨h3, hr, hr2, hv⟩ | ⟨h4, hr, hv⟩
              · exact ⟨by omega, by rw [h3]; exact enc_size3 R hr hr2 hv⟩
              · exact ⟨by omega, by rw [h4]; exact enc_size4 R hr hv⟩
            obtain ⟨⟨hK3, hK4⟩, hes⟩ := hKK
            have h2K : ((2 : Int) == (K : Int)) = false := beq_eq_false_iff_ne.2 (by omega)
            have h13 : ((R : Int) == 13) = false := beq_eq_false_iff_ne.2 (by omega)
            have h10 : ((R : Int) == 10) = false := beq_eq_false_iff_ne.2 (by omega)
            clear hK34 f5
            by_cases hmk : (K : Int) ≤ m
            · go_wp2_with (go_at_call 185; refine cD.mono ?_; rintro e W ⟨rfl, hb1⟩; have hmW := hcm W hb1; clear hcm)
              rw [run_callFunc_extern Tryd.func187 (by kernel_rfl) (by kernel_rfl) (by kernel_rfl) (e := Extern.BytealgIndex.index) (by kernel_rfl), Lib.run_indexString _ _ _ 0 m (by kernel_rfl) hmW (by omega) (by omega) (by decide), crlf_index _ (by omega)]
              simp only [Result.andThen]
              rw [Oper.upon_value]
              go_wp2
              go_roundg g'
              case measure => omega
              case rel => exact ⟨p + K, by go_num, by omega, by omega, hbw.trans (hb1.mono hbw.size), HNX.out⟩
            · have hmkz : decide ((K : Int) ≤ m) = false := decide_eq_false hmk
              go_wp2_with (go_at_call 185; refine cD.mono ?_; rintro e W ⟨rfl, hb1⟩; have hmW := hcm W hb1; clear hcm)
              have hRne : ((R : Int) != 65533) = true := by
                show (!((R : Int) == 65533)) = true
                rw [hR3]
                rfl
              try rw [hRne]
              try rw [show decide (m ≥ (K : Int)) = false from hmkz]
              try rw [hmkz]
              clear hmW cD hmk hmkz
              have hbW : Below w.heap.size w W := hbw.trans (hb1.mono hbw.size)
              have hn0 : ∀ ty, (Instr.next (.pointer (some ⟨W.heap.size, 0, none⟩)) true ty).run Tryd.prog (W.iter ⟨#[13, 10]⟩ 0) = .ok (.tuple #[.bool true, .int .i64 0, .int .i32 13]) (W.iter ⟨#[13, 10]⟩ 1) := fun ty => run_next_ascii (P := Tryd.prog) W ⟨#[13, 10]⟩ 0 ty (by decide) (by decide)
              have hn1 : ∀ ty, (Instr.next (.pointer (some ⟨W.heap.size, 0, none⟩)) true ty).run Tryd.prog (W.iter ⟨#[13, 10]⟩ 1) = .ok (.tuple #[.bool true, .int .i64 1, .int .i32 10]) (W.iter ⟨#[13, 10]⟩ 2) := fun ty => run_next_ascii (P := Tryd.prog) W ⟨#[13, 10]⟩ 1 ty (by decide) (by decide)
              have hn2 : ∀ ty, (Instr.next (.pointer (some ⟨W.heap.size, 0, none⟩)) true ty).run Tryd.prog (W.iter ⟨#[13, 10]⟩ 2) = .ok (.tuple #[.bool false]) (W.iter ⟨#[13, 10]⟩ 2) := fun ty => run_next_end (P := Tryd.prog) W ⟨#[13, 10]⟩ 2 ty (by decide)
              go_loopg [15] 2 (fun g _ wx => ∃ q : Nat, q + g = 2 ∧ wx = W.iter ⟨#[13, 10]⟩ q)
              case atStart => exact ⟨0, rfl, rfl⟩
              case round =>
                obtain ⟨q, hq, rfl⟩ := hrel
                rcases (show q = 0 ∨ q = 1 ∨ q = 2 by omega) with rfl | rfl | rfl
                · obtain rfl : gk = 2 := by omega
                  go_wp2
                  go_roundg 1
                  case measure => omega
                  case rel => exact ⟨1, rfl, rfl⟩
                · obtain rfl : gk = 1 := by omega
                  go_wp2
                  go_roundg 0
                  case measure => omega
                  case rel => exact ⟨2, rfl, rfl⟩
                · obtain rfl : gk = 0 := by omega
                  go_wp2
                  go_roundg g'
                  case measure => omega
                  case rel => exact ⟨p + K, by go_num, by omega, by omega, hbW.alloc hbW.size _, HNX.out⟩
    · obtain rfl : p = s.size := by omega
      clear hB hT
      go_wp2
      go_ret
      exact ⟨-1, rfl, hbw, fun h => absurd h (by decide), fun _ => HN.out⟩
end Go.Proofs.YtmmjgbdihgdekaaDoor

/- bytes.IndexAny of "\r\n", at texts of one byte, in the world: what no walk of ours covers (DecodeRune, a range over a string). -/
namespace Go.Proofs.YtmmjgbdihgdekaaDoor
open Go.Shelf Go.RowKit Go.Lib
set_option linter.unusedSimpArgs false
set_option linter.unusedVariables false
set_option maxHeartbeats 4000000
set_option maxRecDepth 1000000
theorem idxAny_one (x : UInt8) (b off cap : Nat) (w : World) (hcap : 1 ≤ cap) (hx : w.cell? ⟨b, off + 0, none⟩ = some (.int .u8 x.toNat)) :
    Calls Tryd.prog 175 #[.slice (some ⟨b, off, none⟩) 1 cap, .string ⟨#[13, 10]⟩] w fun e w' => ∃ z : Int, e = .returned (.int .i64 z) ∧ Below w.heap.size w w' ∧ ((0 ≤ z) ↔ (x = 13 ∨ x = 10)) := by
  rw [Nat.add_zero] at hx
  have hx256 : x.toNat < 256 := x.toNat_lt
  by_cases h128 : x.toNat < 128
  · have h128z : ((x.toNat : Int) < 128) := by omega
    by_cases hcr : x = 13 ∨ x = 10
    · obtain ⟨k, hk⟩ := ib_some hcr
      have HC : Aside (x = 13 ∨ x = 10) := hcr
      clear hcr
      go_enter Tryd.func175, Tryd.ntmps175
      go_wp2_with fail
      rw [run_callFunc_extern Tryd.func206 (by kernel_rfl) (by kernel_rfl) (by kernel_rfl) (e := Extern.BytealgIndexByte.indexByte) (by kernel_rfl), Lib.run_indexByteString, hk]
      simp only [Result.andThen]
      rw [Oper.upon_value]
      have hk0 : (0 : Int) ≤ (k : Int) := by omega
      go_wp2
      go_ret
      exact ⟨0, rfl, Below.refl _ _, fun _ => HC.out, fun _ => by decide⟩
    · have hk := ib_none (x := x) (fun e => hcr (.inl e)) (fun e => hcr (.inr e))
      have HC : Aside (¬ (x = 13 ∨ x = 10)) := hcr
      clear hcr
      go_enter Tryd.func175, Tryd.ntmps175
      go_wp2_with fail
      rw [run_callFunc_extern Tryd.func206 (by kernel_rfl) (by kernel_rfl) (by kernel_rfl) (e := Extern.BytealgIndexByte.indexByte) (by kernel_rfl), Lib.run_indexByteString, hk]
      simp only [Result.andThen]
      rw [Oper.upon_value]
      go_wp2
      go_ret
      exact ⟨-1, rfl, Below.refl _ _, fun h => absurd h (by decide), fun h => absurd h HC.out⟩
  · have h128z : ¬ ((x.toNat : Int) < 128) := by omega
    have HC : Aside (¬ (x = 13 ∨ x = 10)) := by
      rintro (rfl | rfl)
      · exact h128 (by decide)
      · exact h128 (by decide)
    go_enter Tryd.func175, Tryd.ntmps175
    go_wp2_with fail
    have hn0 : ∀ ty, (Instr.next (.pointer (some ⟨w.heap.size, 0, none⟩)) true ty).run Tryd.prog (w.iter ⟨#[13, 10]⟩ 0) = .ok (.tuple #[.bool true, .int .i64 0, .int .i32 13]) (w.iter ⟨#[13, 10]⟩ 1) := fun ty => run_next_ascii (P := Tryd.prog) w ⟨#[13, 10]⟩ 0 ty (by decide) (by decide)
    have hn1 : ∀ ty, (Instr.next (.pointer (some ⟨w.heap.size, 0, none⟩)) true ty).run Tryd.prog (w.iter ⟨#[13, 10]⟩ 1) = .ok (.tuple #[.bool true, .int .i64 1, .int .i32 10]) (w.iter ⟨#[13, 10]⟩ 2) := fun ty => run_next_ascii (P := Tryd.prog) w ⟨#[13, 10]⟩ 1 ty (by decide) (by decide)
    have hn2 : ∀ ty, (Instr.next (.pointer (some ⟨w.heap.size, 0, none⟩)) true ty).run Tryd.prog (w.iter ⟨#[13, 10]⟩ 2) = .ok (.tuple #[.bool false]) (w.iter ⟨#[13, 10]⟩ 2) := fun ty => run_next_end (P := Tryd.prog) w ⟨#[13, 10]⟩ 2 ty (by decide)
    go_loopg [5] 2 (fun g _ wx => ∃ q : Nat, q + g = 2 ∧ wx = w.iter ⟨#[13, 10]⟩ q)
    case atStart => exact ⟨0, rfl, rfl⟩
    case round =>
      obtain ⟨q, hq, rfl⟩ := hrel
      rcases (show q = 0 ∨ q = 1 ∨ q = 2 by omega) with rfl | rfl | rfl
      · obtain rfl : gk = 2 := by omega
        go_wp2
        go_roundg 1
        case measure => omega
        case rel => exact ⟨1, rfl, rfl⟩
      · obtain rfl : gk = 1 := by omega
        go_wp2
        go_roundg 0
        case measure => omega
        case rel => exact ⟨2, rfl, rfl⟩
      · obtain rfl : gk = 0 := by omega
        go_wp2
        go_ret
        exact ⟨-1, rfl, (Below.refl _ _).alloc (Nat.le_refl _) _, fun h => absurd h (by decide), fun h => absurd h HC.out⟩
end Go.Proofs.YtmmjgbdihgdekaaDoor

/- ContainsAny of CR and LF, for any bytes. -/
namespace Go.Proofs.YtmmjgbdihgdekaaDoor
open Go Go.RowKit
set_option linter.unusedSimpArgs false
set_option linter.unusedVariables false
set_option maxRecDepth 100000
set_option maxHeartbeats 4000000
def crB (b : UInt8) : Bool := b == 13 || b == 10
theorem any_cr (l : List UInt8) : (l.contains 13 || l.contains 10) = l.any crB := by
  induction l with
  | nil => rfl
  | cons a r ih =>
    rw [List.any_cons, ← ih, List.contains_cons, List.contains_cons]
    unfold crB
    have e1 : ((13 : UInt8) == a) = (a == 13) := by rw [Bool.eq_iff_iff, beq_iff_eq, beq_iff_eq]; exact eq_comm
    have e2 : ((10 : UInt8) == a) = (a == 10) := by rw [Bool.eq_iff_iff, beq_iff_eq, beq_iff_eq]; exact eq_comm
    rw [e1, e2]
    cases a == 13 <;> cases a == 10 <;> cases r.contains 13 <;> cases r.contains 10 <;> rfl
/-- A contract at bytes that the world holds. -/
theorem VCall.ofBytes {P : Program} {f : FuncId} {x : List UInt8} {y : Value} {post : Int → Prop} {H : Heap} (hx : x.length ≠ 0)
    (h : ∀ (w : World) (b off cap : Nat), x.length ≤ cap → (∀ j c, x[j]? = some c → w.cell? ⟨b, off + j, none⟩ = some (.int .u8 c.toNat)) → Tabs w →
      Calls P f #[.slice (some ⟨b, off, none⟩) x.length cap, y] w (fun e w' => ∃ z : Int, e = .returned (.int .i64 z) ∧ Below w.heap.size w w' ∧ post z)) :
    VCall P f [roB x, .sc y] H (fun v K => (∃ z : Int, v = .sc (.int .i64 z) ∧ post z) ∧ K = H) := fun B M Z ρ w ra h1 h2 => by
  obtain ⟨hlen, hrel⟩ := h2
  match hra : ra.toList, hlen with
  | [a0, a1], _ =>
    have r0 := hrel 0 (roB x) a0 rfl (by rw [hra]; rfl)
    have r1 := hrel 1 (.sc y) a1 rfl (by rw [hra]; rfl)
    have e1 : a1 = y := sc_inv r1
    subst e1
    obtain rfl : ra = #[a0, a1] := by
      cases ra
      simp only at hra
      rw [hra]
    unfold roB at r0
    obtain ⟨vs, hvs⟩ : ∃ vs, x.map bV = vs := ⟨_, rfl⟩
    obtain ⟨n, hn⟩ : ∃ n, x.length = n := ⟨_, rfl⟩
    rw [hvs, hn] at r0
    rw [hn] at h hx
    cases r0 with
    | ro0 => exact absurd rfl hx
    | @ro _ k o c' _ cs hZ hle hl2 hcell hr =>
      refine (h w k o c' hle (fun j c hj => ?_) h1.tabs).mono ?_
      · have hm : vs[j]? = some (bV c) := by rw [← hvs, List.getElem?_map, hj]; rfl
        have hjl : j < vs.length := (List.getElem?_eq_some_iff.1 hm).1
        have hjc : j < cs.length := by omega
        rw [hcell j hjc, List.getElem?_eq_getElem hjc]
        have hq := hr j _ _ hm (List.getElem?_eq_getElem hjc)
        exact congrArg some (sc_inv hq)
      · rintro e w' ⟨z, rfl, hb, hp⟩
        obtain ⟨e2, r2⟩ := h1.step (Z' := Z) hb.os hb.tape hb.output hb.size (fun k hk => hb.block k hk) (fun _ h => h) (fun _ h => .inl h)
        exact ⟨.int .i64 z, .sc (.int .i64 z), H, Z, ρ, rfl, ⟨⟨z, rfl, hp⟩, rfl⟩, e2, r2, .sc rfl⟩
theorem get_at {x : List UInt8} {j : Nat} (hj : j < x.length) : (⟨x.toArray⟩ : ByteArray).get! j = x[j] := by
  show (x.toArray)[j]! = _
  rw [getElem!_pos x.toArray j (by simpa using hj)]
  simp
theorem idxShort_call (x : List UInt8) (h2 : 2 ≤ x.length) (h8 : x.length ≤ 8) (H : Heap) : VCall Tryd.prog 175 [roB x, strV [13, 10]] H (fun v K => (∃ z : Int, v = .sc (.int .i64 z) ∧ decide (0 ≤ z) = x.any crB) ∧ K = H) := by
  refine VCall.ofBytes (by omega) fun w b off cap hle hc hT => ?_
  obtain ⟨hT1, m, hm⟩ := hT
  have hsz : (⟨x.toArray⟩ : ByteArray).size = x.length := rfl
  refine (idxAny_short ⟨x.toArray⟩ b off cap w hle h2 h8 (fun j hj => ?_) hT1 m hm).mono ?_
  · rw [hc j _ (List.getElem?_eq_getElem hj), get_at hj]
  · rintro e w' ⟨z, he, hb, hz1, hz2⟩
    refine ⟨z, he, hb, ?_⟩
    by_cases hz : 0 ≤ z
    · obtain ⟨j, hj, hx⟩ := hz1 hz
      rw [get_at hj] at hx
      rw [decide_eq_true hz]
      refine (List.any_eq_true.2 ⟨x[j], List.getElem_mem _, ?_⟩).symm
      unfold crB
      rcases hx with e | e <;> rw [e] <;> rfl
    · rw [decide_eq_false hz]
      refine (List.any_eq_false.2 fun c hcm => ?_).symm
      obtain ⟨j, hj, rfl⟩ := List.getElem_of_mem hcm
      have := hz2 (by omega) j hj
      rw [get_at hj] at this
      unfold crB
      simp [this.1, this.2]
theorem idxOne_call (c : UInt8) (H : Heap) : VCall Tryd.prog 175 [roB [c], strV [13, 10]] H (fun v K => (∃ z : Int, v = .sc (.int .i64 z) ∧ decide (0 ≤ z) = [c].any crB) ∧ K = H) := by
  refine VCall.ofBytes (by simp) fun w b off cap hle hc hT => ?_
  have h0 := hc 0 c rfl
  refine (idxAny_one c b off cap w hle h0).mono ?_
  rintro e w' ⟨z, he, hb, hz⟩
  refine ⟨z, he, hb, ?_⟩
  rw [List.any_cons, List.any_nil, Bool.or_false]
  unfold crB
  rw [Bool.eq_iff_iff, decide_eq_true_iff, hz]
  simp
theorem idxNil_call (H : Heap) : VCall Tryd.prog 175 [roB [], strV [13, 10]] H (fun v K => (∃ z : Int, v = .sc (.int .i64 z) ∧ decide (0 ≤ z) = [].any crB) ∧ K = H) :=
  (VCall.closedO orcC_ok mixed 60 (u := .int .i64 (-1)) (by simp [nameless_roB, nameless_strV]) (by kernel_rfl)).mono fun v K h => ⟨⟨-1, h.1, rfl⟩, h.2⟩
/-- The set of the two. -/
def crRow : List VV := (List.range 256).map fun k => booV (k == 13 || k == 10)
theorem crRow_at (c : UInt8) : crRow[c.toNat]? = some (booV (crB c)) := by
  have hc := u8_lt c
  unfold crRow
  rw [List.getElem?_map, List.getElem?_range hc]
  simp only [Option.map_some, Option.some.injEq]
  refine congrArg booV ?_
  unfold crB
  rw [Bool.eq_iff_iff]
  simp only [Bool.or_eq_true, beq_iff_eq, ← UInt8.toNat_inj]
  rfl
def isSetCR (x : Option (VV × Heap)) : Bool := match x with
  | some (.tp [.ag vs, .sc (.bool true)], _) => veqL vs crRow
  | _ => false
theorem mksetCR_call (H : Heap) : VCall Tryd.prog 170 [strV [13, 10]] H (fun v K => v = .tp [.ag crRow, booV true] ∧ K = H) := by
  have h : isSetCR (vcallW Tryd.prog (vcode Tryd.prog 80) 170 [strV [13, 10]] ⟨[], 0⟩) = true := by kernel_rfl
  unfold isSetCR at h
  split at h
  · rename_i vs K hr
    have e := veqL_eq h
    subst e
    refine (VCall.apart (Q := fun x K' => x = .tp [.ag crRow, booV true] ∧ K' = K) (by simp [nameless_strV]) (VCall.run mixed 80 hr) (fun v K e => ?_)).mono ?_
    · rw [e.1]
      refine exact_tp ?_
      intro v hv
      simp only [List.mem_cons, List.not_mem_nil, or_false] at hv
      rcases hv with rfl | rfl
      · intro w w' Z Z' ρ ρ' y hy
        cases hy with
        | @ag _ cs h1 r1 =>
          refine .ag h1 fun i u c hu hc => ?_
          have g := r1 i u c hu hc
          obtain ⟨k, _, rfl⟩ := List.mem_map.1 (List.mem_of_getElem? hu)
          exact exact_sc _ _ _ _ _ _ _ _ g
      · exact exact_sc _
    · rintro v K' ⟨⟨_, e, _⟩, e2⟩
      exact ⟨e, e2⟩
  · simp at h
theorem any_drop {l : List UInt8} {i : Nat} {c : UInt8} (h : l[i]? = some c) : (l.drop i).any crB = (crB c || (l.drop (i + 1)).any crB) := by
  obtain ⟨hi, e⟩ := List.getElem?_eq_some_iff.1 h
  rw [List.drop_eq_getElem_cons hi, e, List.any_cons]
theorem idxLong_call (l : List UInt8) (h8 : 8 < l.length) (hl : l.length ≤ 100000) (H : Heap) : VCall Tryd.prog 175 [roB l, strV [13, 10]] H (fun v K => (∃ z : Int, v = .sc (.int .i64 z) ∧ decide (0 ≤ z) = l.any crB) ∧ K = H) := by
  refine (VCall.apart (Q := fun v _ => ∃ z : Int, v = .sc (.int .i64 z) ∧ decide (0 ≤ z) = l.any crB) (by simp [nameless_roB, nameless_strV]) ?_ (fun v K e => ?_)).mono (fun v K h => ⟨h.1.elim fun _ q => q, h.2⟩)
  · refine VCall.go Tryd.func175 rfl ?_
    repeat' (first | with_reducible refine And.intro ?_ ?_ | ((with_reducible intro hc); (try simp only [zA, zB, zC, zD, zE, zF, zG, zH, zI, zJ, zK, zL, zM, zN, zO, zP, zQ, zR, zS, zT, zU, zV, zW] at hc); (first | (exact absurd rfl hc) | (exact absurd trivial hc) | (exfalso; omega) | skip)) | exact Is.mk rfl rfl | ((conv => whnf); first | with_reducible refine And.intro ?_ ?_ | with_reducible intro hx | exact Is.mk rfl rfl | (with_reducible first | apply Val.via | apply ValH.via) | refine ifB_intro ?_ ?_ | refine xA (by omega) ?_ | ((refine xB ?_); intro kw hk1 hk2) | refine xC (by omega) ?_ | refine xD ?_ | refine xE (by omega) ?_ | refine xF (by omega) ?_ | refine xG ?_ | refine xH ?_ | refine xI (by omega) ?_ | refine xJ (by omega) ?_ | (with_reducible refine stopA ?_) | refine Exists.intro _ (And.intro (by (first | exact vat_of rfl rfl rfl | rfl)) ?_) | refine GOp.drawn (by rfl) (by rfl) (Nat.le_of_ble_eq_true (by rfl)) (by rfl) | refine GOp.via (by rfl) ?_ | refine GWP.drawY mixed _ (by kernel_rfl) (by rfl) ?_ | (first | (refine GCall.mk (VCall.inl Tryd.func208 rfl ?_)) | (refine GCall.mk ((mksetCR_call _).mono ?_); rintro _ _ ⟨rfl, rfl⟩)) | (with_reducible first | refine stopO ?_ | refine stopE ?_ | refine stopD ?_ | refine stopW ?_ | refine stopG ?_ | refine stopC ?_ | refine stopR ?_)))
    (all_goals (first | omega | skip))
    (refine GWP'.mk (GWP.loopB [] (fun (i : Nat) => i ≤ l.length ∧ (l.drop i).any crB = l.any crB) (fun i => [(62, iV i)]) (fun i => []) 2 (fun i => l.length - i) 0 ⟨Nat.zero_le _, rfl⟩ ?_); (conv => whnf); refine And.intro ?_ ?_)
    · focus (refine KeptA.of [] rfl rfl (by repeat' (first | exact trivial | refine And.intro rfl ?_)) rfl ?_ ?_; all_goals (repeat' (first | exact trivial | (refine And.intro ?_ ?_) | (refine Exists.intro _ (And.intro rfl ?_)) | (refine RenO.opt ?_) | (refine RenO.toOpt ?_) | (refine RenO.cells ?_) | exact RenO.defs | exact RenL.nil | (refine RenL.cons ?_ ?_) | (first | fail | (with_reducible exact RenV.sc) | exact RenV.gsN | exact RenV.gsZ | exact RenV.gsL (by decide) | exact RenV.slL (by decide) | ((first | refine RenV.gsE (by (first | exact List.Mem.head _ | exact List.Mem.tail _ (List.Mem.head _) | exact List.Mem.tail _ (List.Mem.tail _ (List.Mem.head _)) | (simp; done))) ?_ | refine RenV.eq (scI_eq ?_) (nameless_sc _)); (first | rfl | omega | (simp only [List.length_append, List.length_cons, List.length_nil, List.length_map, List.length_take, List.length_drop] <;> omega) | (simp only <;> omega) | (simp <;> omega))) | exact RenV.undef) | (with_unfolding_all exact (rfl : (_ : VObj) = _)))))
    rintro i ⟨h1, h2⟩
    simp only at h1 h2 ⊢
    by_cases hil : i < l.length
    · obtain ⟨c, hb⟩ := list_at hil
      have hc8 := u8_lt c
      have hr := crRow_at c
      rw [any_drop hb] at h2
      by_cases hcr : crB c = true
      · rw [hcr] at hr h2
        repeat' (first | with_reducible refine And.intro ?_ ?_ | ((with_reducible intro hc); (try simp only [zA, zB, zC, zD, zE, zF, zG, zH, zI, zJ, zK, zL, zM, zN, zO, zP, zQ, zR, zS, zT, zU, zV, zW] at hc); (first | (exact absurd rfl hc) | (exact absurd trivial hc) | (exfalso; omega) | skip)) | exact Is.mk rfl rfl | ((conv => whnf); first | with_reducible refine And.intro ?_ ?_ | with_reducible intro hx | exact Is.mk rfl rfl | (with_reducible first | apply Val.via | apply ValH.via) | refine ifB_intro ?_ ?_ | refine xA (by omega) ?_ | ((refine xB ?_); intro kw hk1 hk2) | refine xC (by omega) ?_ | refine xD ?_ | refine xE (by omega) ?_ | refine xF (by omega) ?_ | refine xG ?_ | refine xH ?_ | refine xI (by omega) ?_ | refine xJ (by omega) ?_ | (with_reducible refine stopA ?_) | refine Exists.intro _ (And.intro (by (first | exact vat_of vagg_u8 (map_at hb) (mul1 rfl rfl) | exact vat_of vagg_bool hr (addf rfl rfl (by omega)) | rfl)) ?_) | refine GOp.drawn (by rfl) (by rfl) (Nat.le_of_ble_eq_true (by rfl)) (by rfl) | refine GOp.via (by rfl) ?_ | refine GWP.drawY mixed _ (by kernel_rfl) (by rfl) ?_ | (refine GCall.mk (VCall.inl Tryd.func203 rfl ?_)) | (with_reducible first | refine stopO ?_ | refine stopE ?_ | refine stopD ?_ | refine stopW ?_ | refine stopG ?_ | refine stopC ?_ | refine stopR ?_)))
        (all_goals (first | omega | skip))
        exact Done'.mk ⟨(i : Int), rfl, by rw [← h2, Bool.true_or]; exact decide_eq_true (by omega)⟩
      · have hcf : crB c = false := by simpa using hcr
        rw [hcf] at hr h2
        repeat' (first | with_reducible refine And.intro ?_ ?_ | ((with_reducible intro hc); (try simp only [zA, zB, zC, zD, zE, zF, zG, zH, zI, zJ, zK, zL, zM, zN, zO, zP, zQ, zR, zS, zT, zU, zV, zW] at hc); (first | (exact absurd rfl hc) | (exact absurd trivial hc) | (exfalso; omega) | skip)) | exact Is.mk rfl rfl | ((conv => whnf); first | with_reducible refine And.intro ?_ ?_ | with_reducible intro hx | exact Is.mk rfl rfl | (with_reducible first | apply Val.via | apply ValH.via) | refine ifB_intro ?_ ?_ | refine xA (by omega) ?_ | ((refine xB ?_); intro kw hk1 hk2) | refine xC (by omega) ?_ | refine xD ?_ | refine xE (by omega) ?_ | refine xF (by omega) ?_ | refine xG ?_ | refine xH ?_ | refine xI (by omega) ?_ | refine xJ (by omega) ?_ | (with_reducible refine stopA ?_) | refine Exists.intro _ (And.intro (by (first | exact vat_of vagg_u8 (map_at hb) (mul1 rfl rfl) | exact vat_of vagg_bool hr (addf rfl rfl (by omega)) | rfl)) ?_) | refine GOp.drawn (by rfl) (by rfl) (Nat.le_of_ble_eq_true (by rfl)) (by rfl) | refine GOp.via (by rfl) ?_ | refine GWP.drawY mixed _ (by kernel_rfl) (by rfl) ?_ | (refine GCall.mk (VCall.inl Tryd.func203 rfl ?_)) | (with_reducible first | refine stopO ?_ | refine stopE ?_ | refine stopD ?_ | refine stopW ?_ | refine stopG ?_ | refine stopC ?_ | refine stopR ?_)))
        (all_goals (first | omega | skip))
        rw [Bool.false_or] at h2
        focus (refine Done'.mk ⟨(i + 1), ⟨by omega, h2⟩, ?_, KeptA.of [] rfl rfl (by repeat' (first | exact trivial | refine And.intro rfl ?_)) rfl ?_ ?_⟩; (first | omega | (simp only; omega)); all_goals (repeat' (first | exact trivial | (refine And.intro ?_ ?_) | (refine Exists.intro _ (And.intro rfl ?_)) | (refine RenO.opt ?_) | (refine RenO.toOpt ?_) | (refine RenO.cells ?_) | exact RenO.defs | exact RenL.nil | (refine RenL.cons ?_ ?_) | (first | exact RenV.eq (scI_eq (by omega)) (nameless_sc _) | (with_reducible exact RenV.sc) | exact RenV.gsN | exact RenV.gsZ | exact RenV.gsL (by decide) | exact RenV.slL (by decide) | ((first | refine RenV.gsE (by (first | exact List.Mem.head _ | exact List.Mem.tail _ (List.Mem.head _) | exact List.Mem.tail _ (List.Mem.tail _ (List.Mem.head _)) | (simp; done))) ?_ | refine RenV.eq (scI_eq ?_) (nameless_sc _)); (first | rfl | omega | (simp only [List.length_append, List.length_cons, List.length_nil, List.length_map, List.length_take, List.length_drop] <;> omega) | (simp only <;> omega) | (simp <;> omega))) | exact RenV.undef) | (with_unfolding_all exact (rfl : (_ : VObj) = _)))))
    · obtain rfl : i = l.length := by omega
      rw [List.drop_length] at h2
      repeat' (first | with_reducible refine And.intro ?_ ?_ | ((with_reducible intro hc); (try simp only [zA, zB, zC, zD, zE, zF, zG, zH, zI, zJ, zK, zL, zM, zN, zO, zP, zQ, zR, zS, zT, zU, zV, zW] at hc); (first | (exact absurd rfl hc) | (exact absurd trivial hc) | (exfalso; omega) | skip)) | exact Is.mk rfl rfl | ((conv => whnf); first | with_reducible refine And.intro ?_ ?_ | with_reducible intro hx | exact Is.mk rfl rfl | (with_reducible first | apply Val.via | apply ValH.via) | refine ifB_intro ?_ ?_ | refine xA (by omega) ?_ | ((refine xB ?_); intro kw hk1 hk2) | refine xC (by omega) ?_ | refine xD ?_ | refine xE (by omega) ?_ | refine xF (by omega) ?_ | refine xG ?_ | refine xH ?_ | refine xI (by omega) ?_ | refine xJ (by omega) ?_ | (with_reducible refine stopA ?_) | refine Exists.intro _ (And.intro (by rfl) ?_) | refine GOp.drawn (by rfl) (by rfl) (Nat.le_of_ble_eq_true (by rfl)) (by rfl) | refine GOp.via (by rfl) ?_ | refine GWP.drawY mixed _ (by kernel_rfl) (by rfl) ?_ | fail | (with_reducible first | refine stopO ?_ | refine stopE ?_ | refine stopD ?_ | refine stopW ?_ | refine stopG ?_ | refine stopC ?_ | refine stopR ?_)))
      (all_goals (first | omega | skip))
      exact Done'.mk ⟨-1, rfl, by rw [← h2]; rfl⟩
  · obtain ⟨z, rfl, _⟩ := e
    exact exact_sc _
theorem indexAny_call (x : List UInt8) (hx : x.length ≤ 100000) (H : Heap) : VCall Tryd.prog 175 [roB x, strV [13, 10]] H (fun v K => (∃ z : Int, v = .sc (.int .i64 z) ∧ decide (0 ≤ z) = x.any crB) ∧ K = H) := by
  by_cases h8 : 8 < x.length
  · exact idxLong_call x h8 hx H
  by_cases h2 : 2 ≤ x.length
  · exact idxShort_call x h2 (by omega) H
  cases x with
  | nil => exact idxNil_call H
  | cons c r =>
    cases r with
    | nil => exact idxOne_call c H
    | cons d r => exact absurd (by simp) h2
theorem containsAny_call (x : List UInt8) (H : Heap) (hx : x.length ≤ 100000) : VCall Tryd.prog 139 [roB x, strV [13, 10]] H (fun v K => v = booV (x.contains 13 || x.contains 10) ∧ K = H) := by
  rw [any_cr]
  refine VCall.go Tryd.func139 rfl ?_
  repeat' (first | with_reducible refine And.intro ?_ ?_ | ((with_reducible intro hc); (try simp only [zA, zB, zC, zD, zE, zF, zG, zH, zI, zJ, zK, zL, zM, zN, zO, zP, zQ, zR, zS, zT, zU, zV, zW] at hc); (first | (exact absurd rfl hc) | (exact absurd trivial hc) | (exfalso; omega) | skip)) | ((conv => whnf); first | with_reducible refine And.intro ?_ ?_ | refine ifB_intro ?_ ?_ | refine xA (by omega) ?_ | ((refine xB ?_); intro kw hk1 hk2) | refine xC (by omega) ?_ | refine xD ?_ | refine xE (by omega) ?_ | refine xF (by omega) ?_ | refine xG ?_ | refine xH ?_ | refine xI (by omega) ?_ | refine xJ (by omega) ?_ | (with_reducible refine stopA ?_) | refine Exists.intro _ (And.intro (by rfl) ?_) | refine GOp.via (by rfl) ?_ | (with_reducible first | refine stopO ?_ | refine stopE ?_ | refine stopD ?_ | refine stopW ?_ | refine stopG ?_ | refine stopC ?_ | refine stopR ?_)))
  refine GCall'.mk ((indexAny_call x hx H).mono ?_)
  rintro _ _ ⟨⟨z, rfl, hz⟩, rfl⟩
  repeat' (first | with_reducible refine And.intro ?_ ?_ | ((with_reducible intro hc); (try simp only [zA, zB, zC, zD, zE, zF, zG, zH, zI, zJ, zK, zL, zM, zN, zO, zP, zQ, zR, zS, zT, zU, zV, zW] at hc); (first | (exact absurd rfl hc) | (exact absurd trivial hc) | (exfalso; omega) | skip)) | ((conv => whnf); first | with_reducible refine And.intro ?_ ?_ | refine ifB_intro ?_ ?_ | refine xA (by omega) ?_ | ((refine xB ?_); intro kw hk1 hk2) | refine xC (by omega) ?_ | refine xD ?_ | refine xE (by omega) ?_ | refine xF (by omega) ?_ | refine xG ?_ | refine xH ?_ | refine xI (by omega) ?_ | refine xJ (by omega) ?_ | (with_reducible refine stopA ?_) | refine Exists.intro _ (And.intro (by rfl) ?_) | refine GOp.via (by rfl) ?_ | (with_reducible first | refine stopO ?_ | refine stopE ?_ | refine stopD ?_ | refine stopW ?_ | refine stopG ?_ | refine stopC ?_ | refine stopR ?_)))
  refine Done'.mk ⟨?_, rfl⟩
  rw [← hz]
  exact congrArg (fun b => VV.sc (.bool b)) (leZ_eq 0 z)
end Go.Proofs.YtmmjgbdihgdekaaDoor

/- What the laid tables and a shaped world give: the tables that the walks read. -/
namespace Go.Proofs.YtmmjgbdihgdekaaDoor
open Go Go.RowKit Go.Shelf
set_option linter.unusedSimpArgs false
set_option linter.unusedVariables false
set_option maxRecDepth 100000
def utRen : Go.Shelf.Ren := ⟨fun n => n, fun | 5 => 5 | 119 => 233 | 138 => 235 | 139 => 236 | n => n, fun | 3 => 1 | 4 => 2 | n => n⟩
theorem utTypes : U8Types Tryd.prog utRen := { t5 := Tryd.underlying5, t119 := Tryd.underlying233, t138 := Tryd.underlying235, t139 := Tryd.underlying236 }
theorem utExtra : U8Extra Tryd.prog utRen := ⟨by kernel_rfl, by kernel_rfl, by kernel_rfl, by kernel_rfl, by kernel_rfl, by kernel_rfl, by kernel_rfl⟩
theorem utFirst : Rows.laid_unicode_utf8_first = Lib.firstData := by kernel_rfl
theorem utAccept : (Rows.laid_unicode_utf8_acceptRanges : DataW Unit) = Lib.acceptData := by kernel_rfl
theorem utTabs {W : World} (hL : laidMet Tryd.prog [("unicode/utf8.acceptRanges", Rows.laid_unicode_utf8_acceptRanges), ("unicode/utf8.first", Rows.laid_unicode_utf8_first)] W) (hS : W.ShapedOpen Tryd.prog) : Tabs W := by
  refine ⟨utf8Tabs_of_readsT (ρ := utRen) utTypes utExtra ?_ ?_, ?_⟩
  · have := Lib.laidMet.reads hL (.tail _ (.head _))
    rwa [utFirst] at this
  · have := Lib.laidMet.reads hL (.head _)
    rwa [utAccept] at this
  · exact cell_of_shapedOpen_int (t := 3) (zero := #[.int .i64 0]) hS (of_decide_eq_true (by kernel_rfl)) (by kernel_rfl) rfl (by kernel_rfl) (by kernel_rfl) Tryd.underlying3
theorem utGlob {W : World} (h : Tabs W) : Glob W (fun _ => False) := fun w' a b c d e =>
  have hb : Below W.heap.size W w' := ⟨a, b, c, d, fun k hk => e k hk id⟩
  ⟨Utf8Tabs_below h.1 hb, h.2.elim fun m hm => ⟨m, by rw [hb.cell (p := ⟨0, 0, none⟩) (block_lt_of_cell hm)]; exact hm⟩⟩
end Go.Proofs.YtmmjgbdihgdekaaDoor

