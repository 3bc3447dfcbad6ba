/- Hosts, of the document. -/
import Derived.Test.YtnfmoclmfddajaaH3
namespace Go.Proofs.Ytnfmoclmfddajaa
open Go Go.RowKit
set_option linter.unusedSimpArgs false
set_option linter.unusedVariables false
set_option maxRecDepth 100000
set_option maxHeartbeats 4000000
/-! What making letters small does. -/
def rPart (c : UInt8) : Bool := letB c || dgB c || (c == 45)
theorem low_tab : ((List.range 256).all fun k => (notPart (lowB (UInt8.ofNat k)) == !(rPart (UInt8.ofNat k))) && ((lowB (UInt8.ofNat k) == 46) == (UInt8.ofNat k == 46)) && ((lowB (UInt8.ofNat k) == 45) == (UInt8.ofNat k == 45)) && (dgB (lowB (UInt8.ofNat k)) == dgB (UInt8.ofNat k)) && (!(dgB (UInt8.ofNat k)) || lowB (UInt8.ofNat k) == UInt8.ofNat k) && ((lowB (UInt8.ofNat k) == 48) == (UInt8.ofNat k == 48))) = true := by kernel_rfl
theorem low_facts (c : UInt8) : notPart (lowB c) = !(rPart c) ∧ (lowB c == 46) = (c == 46) ∧ (lowB c == 45) = (c == 45) ∧ dgB (lowB c) = dgB c ∧ (dgB c = true → lowB c = c) ∧ (lowB c == 48) = (c == 48) := by
  have h := List.all_eq_true.1 low_tab c.toNat (List.mem_range.2 (u8_lt c))
  rw [UInt8.ofNat_toNat] at h
  simp only [Bool.and_eq_true, beq_iff_eq] at h
  obtain ⟨⟨⟨⟨⟨h1, h2⟩, h3⟩, h4⟩, h5⟩, h6⟩ := h
  refine ⟨h1, h2, h3, h4, fun hd => ?_, h6⟩
  rw [hd] at h5
  simpa using h5
theorem split_low : ∀ (l cur : List UInt8), splitGo 46 (l.map lowB) (cur.map lowB) = (splitGo 46 l cur).map (fun p => p.map lowB)
  | [], cur => rfl
  | c :: r, cur => by
    have h46 := (low_facts c).2.1
    simp only [List.map_cons, splitGo]
    by_cases hc : c = 46
    · subst hc
      rw [if_pos (by decide), if_pos rfl, List.map_cons]
      have := split_low r []
      rw [List.map_nil] at this
      rw [this]
    · have : ¬ lowB c = 46 := fun e => by
        rw [e] at h46
        have : (c == 46) = true := h46.symm
        exact hc (by simpa using this)
      rw [if_neg this, if_neg hc]
      have := split_low r (cur ++ [c])
      rw [List.map_append] at this
      exact this
theorem splitB_low (l : List UInt8) : splitB (l.map lowB) 46 = (splitB l 46).map (fun p => p.map lowB) := split_low l []
theorem numGo_low (most : Int) : ∀ (l : List UInt8) (n : Int), numGo most (l.map lowB) n = numGo most l n
  | [], n => rfl
  | c :: r, n => by
    have h4 := (low_facts c).2.2.2.1
    have h5 := (low_facts c).2.2.2.2.1
    simp only [List.map_cons, numGo]
    rw [← dgB_eq, ← dgB_eq] at h4
    by_cases hd : 48 ≤ c.toNat ∧ c.toNat ≤ 57
    · have : lowB c = c := h5 (by rw [← dgB_eq]; exact decide_eq_true hd)
      rw [this]
      split
      · exact numGo_low most r _
      · rfl
    · have hd' : ¬ (48 ≤ (lowB c).toNat ∧ (lowB c).toNat ≤ 57) := fun h => hd (of_decide_eq_true (h4.symm.trans (decide_eq_true h)))
      rw [if_neg (fun h => hd' h.1), if_neg (fun h => hd h.1)]
theorem num_low (l : List UInt8) (most : Int) : num (l.map lowB) most = num l most := by
  unfold num
  rw [numGo_low, List.length_map]
  have : (l.map lowB = [] ∨ (1 < l.length ∧ (l.map lowB)[0]? = some 48)) ↔ (l = [] ∨ (1 < l.length ∧ l[0]? = some 48)) := by
    cases l with
    | nil => simp
    | cons c r =>
      have h := (low_facts c).2.2.2.2.2
      have : lowB c = 48 ↔ c = 48 := by
        rw [Bool.eq_iff_iff] at h
        simpa using h
      simp [this]
  by_cases h : l = [] ∨ (1 < l.length ∧ l[0]? = some 48)
  · rw [if_pos h, if_pos (this.2 h)]
  · rw [if_neg h, if_neg (fun q => h (this.1 q))]
theorem addr_low (ss : List (List UInt8)) : addr (ss.map fun p => p.map lowB) = addr ss := by
  unfold addr
  rw [List.length_map, List.all_map]
  congr 1
  congr 1
  funext p
  simp only [Function.comp, num_low]
theorem some45 (o : Option UInt8) : (o.map lowB == some 45) = (o == some 45) := by
  cases o with
  | none => rfl
  | some c => exact (low_facts c).2.2.1
/-- May it be a part, as it is written? -/
def rOK (p : List UInt8) : Bool := !(Nat.blt p.length 1 || Nat.blt 63 p.length || p[0]? == some 45 || p[p.length - 1]? == some 45) && p.all rPart
theorem ok_low (p : List UInt8) : hOK (p.map lowB) = rOK p := by
  unfold hOK rOK
  rw [List.length_map, List.getElem?_map, List.getElem?_map, some45, some45, List.any_map]
  congr 1
  have : (notPart ∘ lowB) = fun c => !(rPart c) := funext fun c => (low_facts c).1
  rw [this, ← List.all_eq_not_any_not]
theorem raddress_call (ss : List (List UInt8)) (H : Heap) (hl : ss.length ≤ 1000000) (hp : ∀ p ∈ ss, p.length ≤ 100000) : VCall Try.prog 76 [roS ss] H (fun x K => x = booV (addr ss) ∧ K = H) := by
  refine VCall.pure (by simp [nameless_roS]) (nameless_sc _) ?_
  refine VCall.go Try.func76 rfl ?_
  repeat' (first | (with_reducible refine And.intro ?_ ?_) | ((with_reducible intro hc); (try simp only [str_size, str_list, str_nil, decide_eq_true_eq, decide_eq_false_iff_not, beq_iff_eq, bne_iff_ne, beq_eq_false_iff_ne, bne_eq_false_iff_eq, ne_eq, Bool.not_eq_true', Bool.not_eq_false', Bool.not_true, Bool.not_false, gt_iff_lt, ge_iff_le, Int.not_lt, Int.not_le, Decidable.not_not] at hc); (first | (exact absurd rfl hc) | (exact absurd trivial hc) | (exfalso; omega) | skip)) | ((conv => whnf); first | (with_reducible refine And.intro ?_ ?_) | (refine ifB_intro (fun hc => ?_) (fun hc => ?_) <;> (try simp only [str_size, str_list, str_nil, decide_eq_true_eq, decide_eq_false_iff_not, beq_iff_eq, bne_iff_ne, beq_eq_false_iff_ne, bne_eq_false_iff_eq, ne_eq, Bool.not_eq_true', Bool.not_eq_false', Bool.not_true, Bool.not_false, gt_iff_lt, ge_iff_le, Int.not_lt, Int.not_le, Decidable.not_not] at hc) <;> (first | (exact absurd rfl hc) | (exact absurd trivial hc) | (exfalso; omega) | skip)) | (refine GAr.i64 (by omega) ?_) | ((refine GAr.i64w ?_); intro kw hk1 hk2) | (refine GAr.u8s (by omega) ?_) | (refine GAr.u8 ?_) | (refine GAr.u64s (by omega) ?_) | (refine GAr.u32s (by omega) ?_) | (refine GAr.u64 ?_) | (refine GAr.u32 ?_) | (refine GQuo.i64 (by omega) ?_) | (refine GRem.pos (by omega) ?_) | (with_reducible refine stopA ?_) | (refine Exists.intro _ (And.intro (by rfl) ?_)) | (refine GOp.via (by rfl) ?_) | (with_reducible refine stopO ?_) | (with_reducible refine stopE ?_) | (with_reducible refine stopD ?_) | (with_reducible refine stopW ?_) | (with_reducible refine stopC ?_) | (with_reducible refine stopR ?_)))
  refine GWP'.mk (GWP.loopA (α := Nat) [2, 4, 5, 6, 9, 10, 11, 12, 13, 14, 15, 16, 17, 18, 19, 20] [] (fun i => i ≤ ss.length ∧ ss.all (fun p => (num p 255).isSome) = (ss.drop i).all (fun p => (num p 255).isSome)) (fun i => [(9, iV i)]) (fun _ => []) 0 (fun i => ss.length - i) 0 ⟨Nat.zero_le _, rfl⟩ ⟨rfl, rfl, (by repeat' (first | exact trivial | refine And.intro rfl ?_)), [], _, rfl, ⟨⟨_, rfl, .sc⟩, trivial⟩, .nil⟩ ?_)
  rintro i ⟨h1, h2⟩
  by_cases hil : i < ss.length
  · obtain ⟨q, hb⟩ := list_at hil
    rw [allS_at (fun p => (num p 255).isSome) hb] at h2
    have hq := hp q (List.mem_of_getElem? hb)
    repeat' (first | (with_reducible refine And.intro ?_ ?_) | ((with_reducible intro hc); (try simp only [str_size, str_list, str_nil, decide_eq_true_eq, decide_eq_false_iff_not, beq_iff_eq, bne_iff_ne, beq_eq_false_iff_ne, bne_eq_false_iff_eq, ne_eq, Bool.not_eq_true', Bool.not_eq_false', Bool.not_true, Bool.not_false, gt_iff_lt, ge_iff_le, Int.not_lt, Int.not_le, Decidable.not_not] at hc); (first | (exact absurd rfl hc) | (exact absurd trivial hc) | (exfalso; omega) | skip)) | ((conv => whnf); first | (with_reducible refine And.intro ?_ ?_) | (refine ifB_intro (fun hc => ?_) (fun hc => ?_) <;> (try simp only [str_size, str_list, str_nil, decide_eq_true_eq, decide_eq_false_iff_not, beq_iff_eq, bne_iff_ne, beq_eq_false_iff_ne, bne_eq_false_iff_eq, ne_eq, Bool.not_eq_true', Bool.not_eq_false', Bool.not_true, Bool.not_false, gt_iff_lt, ge_iff_le, Int.not_lt, Int.not_le, Decidable.not_not] at hc) <;> (first | (exact absurd rfl hc) | (exact absurd trivial hc) | (exfalso; omega) | skip)) | (refine GAr.i64 (by omega) ?_) | ((refine GAr.i64w ?_); intro kw hk1 hk2) | (refine GAr.u8s (by omega) ?_) | (refine GAr.u8 ?_) | (refine GAr.u64s (by omega) ?_) | (refine GAr.u32s (by omega) ?_) | (refine GAr.u64 ?_) | (refine GAr.u32 ?_) | (refine GQuo.i64 (by omega) ?_) | (refine GRem.pos (by omega) ?_) | (with_reducible refine stopA ?_) | (refine Exists.intro _ (And.intro (by (first | exact vat_of vagg_str (maps_at hb) (mul1 rfl rfl) | rfl)) ?_)) | (refine GOp.via (by rfl) ?_) | (with_reducible refine stopO ?_) | (with_reducible refine stopE ?_) | (with_reducible refine stopD ?_) | (with_reducible refine stopW ?_) | (refine GCall.mk ((rnum_call q 255 _ (by omega) (by omega) (by omega)).mono ?_); rintro _ _ ⟨rfl, rfl⟩) | (with_reducible refine stopC ?_) | (with_reducible refine stopR ?_)))
    all_goals (first | omega | skip)
    · refine Done'.mk ?_
      unfold addr
      rw [h2, hc]
      rfl
    · rw [hc, Bool.true_and] at h2
      exact Done'.mk ⟨i + 1, ⟨by omega, h2⟩, by omega, rfl, rfl, (by repeat' (first | exact trivial | refine And.intro rfl ?_)), [], _, rfl, ⟨⟨_, rfl, RenV.eq rfl (nameless_sc _)⟩, trivial⟩, .nil⟩
  · repeat' (first | (with_reducible refine And.intro ?_ ?_) | ((with_reducible intro hc); (try simp only [str_size, str_list, str_nil, decide_eq_true_eq, decide_eq_false_iff_not, beq_iff_eq, bne_iff_ne, beq_eq_false_iff_ne, bne_eq_false_iff_eq, ne_eq, Bool.not_eq_true', Bool.not_eq_false', Bool.not_true, Bool.not_false, gt_iff_lt, ge_iff_le, Int.not_lt, Int.not_le, Decidable.not_not] at hc); (first | (exact absurd rfl hc) | (exact absurd trivial hc) | (exfalso; omega) | skip)) | ((conv => whnf); first | (with_reducible refine And.intro ?_ ?_) | (refine ifB_intro (fun hc => ?_) (fun hc => ?_) <;> (try simp only [str_size, str_list, str_nil, decide_eq_true_eq, decide_eq_false_iff_not, beq_iff_eq, bne_iff_ne, beq_eq_false_iff_ne, bne_eq_false_iff_eq, ne_eq, Bool.not_eq_true', Bool.not_eq_false', Bool.not_true, Bool.not_false, gt_iff_lt, ge_iff_le, Int.not_lt, Int.not_le, Decidable.not_not] at hc) <;> (first | (exact absurd rfl hc) | (exact absurd trivial hc) | (exfalso; omega) | skip)) | (refine GAr.i64 (by omega) ?_) | ((refine GAr.i64w ?_); intro kw hk1 hk2) | (refine GAr.u8s (by omega) ?_) | (refine GAr.u8 ?_) | (refine GAr.u64s (by omega) ?_) | (refine GAr.u32s (by omega) ?_) | (refine GAr.u64 ?_) | (refine GAr.u32 ?_) | (refine GQuo.i64 (by omega) ?_) | (refine GRem.pos (by omega) ?_) | (with_reducible refine stopA ?_) | (refine Exists.intro _ (And.intro (by rfl) ?_)) | (refine GOp.via (by rfl) ?_) | (with_reducible refine stopO ?_) | (with_reducible refine stopE ?_) | (with_reducible refine stopD ?_) | (with_reducible refine stopW ?_) | (with_reducible refine stopC ?_) | (with_reducible refine stopR ?_)))
    all_goals (first | omega | skip)
    rw [List.drop_eq_nil_of_le (by omega)] at h2
    refine Done'.mk ?_
    unfold addr
    rw [h2]
    refine congrArg (fun b => VV.sc (.bool b)) ?_
    rw [Bool.eq_iff_iff]
    simp
    omega
def rBad (ss : List (List UInt8)) : Bool := Nat.blt 8 ss.length || !(ss.all rOK) || (lastDig ss && !(addr ss))
theorem lastDig_low (ss : List (List UInt8)) : lastDig (ss.map fun p => p.map lowB) = lastDig ss := by
  unfold lastDig
  rw [List.length_map, List.getElem?_map]
  cases ss[ss.length - 1]? with
  | none => rfl
  | some q =>
    simp only [Option.map_some]
    rw [List.getElem?_map]
    cases q[0]? with
    | none => rfl
    | some c => exact (low_facts c).2.2.2.1
theorem bad_low (ss : List (List UInt8)) : hBad (ss.map fun p => p.map lowB) = rBad ss := by
  unfold hBad rBad
  rw [List.length_map, lastDig_low, addr_low, List.all_map]
  have : (hOK ∘ fun p => List.map lowB p) = rOK := funext fun p => ok_low p
  rw [this]
theorem rparse_call (l : List UInt8) (H : Heap) (hl : l.length ≤ 100000) : VCall Try.prog 20 [strV l] H (fun x K => x = .tp [strV (hTxt l), errV (hCode l)] ∧ K = H) := by
  refine VCall.pure (by simp [nameless_strV]) (nameless_tp (by simp [nameless_strV, errV, nameless_sc])) ?_
  have bad : ∀ n : Int, hCode l = n → n ≠ 0 → VV.tp [strV [], errV n] = VV.tp [strV (hTxt l), errV (hCode l)] := fun n e h => by
    have : hTxt l = [] := by unfold hTxt; rw [if_neg (by rw [e]; exact h)]
    rw [this, e]
  refine VCall.go Try.func20 rfl ?_
  repeat' (first | (with_reducible refine And.intro ?_ ?_) | ((with_reducible intro hc); (try simp only [str_size, str_list, str_nil, decide_eq_true_eq, decide_eq_false_iff_not, beq_iff_eq, bne_iff_ne, beq_eq_false_iff_ne, bne_eq_false_iff_eq, ne_eq, Bool.not_eq_true', Bool.not_eq_false', Bool.not_true, Bool.not_false, gt_iff_lt, ge_iff_le, Int.not_lt, Int.not_le, Decidable.not_not] at hc); (first | (exact absurd rfl hc) | (exact absurd trivial hc) | (exfalso; omega) | skip)) | ((conv => whnf); first | (with_reducible refine And.intro ?_ ?_) | (refine ifB_intro (fun hc => ?_) (fun hc => ?_) <;> (try simp only [str_size, str_list, str_nil, decide_eq_true_eq, decide_eq_false_iff_not, beq_iff_eq, bne_iff_ne, beq_eq_false_iff_ne, bne_eq_false_iff_eq, ne_eq, Bool.not_eq_true', Bool.not_eq_false', Bool.not_true, Bool.not_false, gt_iff_lt, ge_iff_le, Int.not_lt, Int.not_le, Decidable.not_not] at hc) <;> (first | (exact absurd rfl hc) | (exact absurd trivial hc) | (exfalso; omega) | skip)) | (refine GAr.i64 (by omega) ?_) | ((refine GAr.i64w ?_); intro kw hk1 hk2) | (refine GAr.u8s (by omega) ?_) | (refine GAr.u8 ?_) | (refine GAr.u64s (by omega) ?_) | (refine GAr.u32s (by omega) ?_) | (refine GAr.u64 ?_) | (refine GAr.u32 ?_) | (refine GQuo.i64 (by omega) ?_) | (refine GRem.pos (by omega) ?_) | (with_reducible refine stopA ?_) | (refine Exists.intro _ (And.intro (by rfl) ?_)) | (refine GOp.via (by rfl) ?_) | (with_reducible refine stopO ?_) | (with_reducible refine stopE ?_) | (with_reducible refine stopD ?_) | (with_reducible refine stopW ?_) | (first | (refine GCall.mk ((rsplit_call l 46 _ (by omega)).mono ?_); rintro _ _ ⟨rfl, rfl⟩)) | (with_reducible refine stopC ?_) | (with_reducible refine stopR ?_)))
  · exact Done'.mk (bad 3 (by unfold hCode; rw [if_pos (by omega)]) (by decide))
  · have h253 : ¬ 253 < l.length := by omega
    refine Done'.mk (bad 2 ?_ (by decide))
    unfold hCode
    rw [if_neg h253, splitB_low, bad_low, if_pos]
    unfold rBad
    simp only [Bool.or_eq_true, blt_iff]
    exact .inl (.inl (by omega))
  have h253 : ¬ 253 < l.length := by omega
  have hcode : hCode l = if rBad (splitB l 46) then 2 else 0 := by unfold hCode; rw [if_neg h253, splitB_low, bad_low]
  have hpart : ∀ p ∈ splitB l 46, p.length ≤ 100000 := fun p hp => by
    have := splitB_part hp
    omega
  have hne : 0 < (splitB l 46).length := splitGo_ne 46 _ _
  generalize splitB l 46 = ss at *
  have h8 : Nat.blt 8 ss.length = false := by
    cases hh : Nat.blt 8 ss.length
    · rfl
    · have := blt_iff.1 hh; omega
  refine GWP'.mk (GWP.loopA (α := Nat) [2, 3, 6, 7, 18, 19, 20, 21, 22, 23, 24, 25, 26, 27, 28, 29, 30, 31, 32, 33, 34, 35, 36, 37, 38, 39, 40, 41, 42, 43, 44, 45, 46, 47, 48, 49, 50, 51, 52, 53, 54, 55, 56, 57, 58, 59, 60, 61, 62, 63, 64, 65, 66] [] (fun i => i ≤ ss.length ∧ ss.all rOK = (ss.drop i).all rOK) (fun i => [(18, iV i), (2, strV []), (3, iV 0)]) (fun _ => []) 0 (fun i => ss.length - i) 0 ⟨Nat.zero_le _, rfl⟩ ⟨rfl, rfl, (by repeat' (first | exact trivial | refine And.intro rfl ?_)), [], _, rfl, ⟨⟨_, rfl, .sc⟩, ⟨_, rfl, .sc⟩, ⟨_, rfl, .sc⟩, trivial⟩, .nil⟩ ?_)
  rintro i ⟨h1, h2⟩
  by_cases hil : i < ss.length
  · obtain ⟨q, hb⟩ := list_at hil
    rw [allS_at rOK hb] at h2
    have hq := hpart q (List.mem_of_getElem? hb)
    have isbad : rOK q = false → VV.tp [strV [], errV 2] = VV.tp [strV (hTxt l), errV (hCode l)] := fun hc => by
      rw [hc, Bool.false_and] at h2
      refine bad 2 ?_ (by decide)
      rw [hcode, if_pos]
      unfold rBad
      rw [h2]
      simp
    by_cases h0 : q.length = 0
    · have : q = [] := List.eq_nil_of_length_eq_zero h0
      subst this
      repeat' (first | (with_reducible refine And.intro ?_ ?_) | ((with_reducible intro hc); (try simp only [str_size, str_list, str_nil, decide_eq_true_eq, decide_eq_false_iff_not, beq_iff_eq, bne_iff_ne, beq_eq_false_iff_ne, bne_eq_false_iff_eq, ne_eq, Bool.not_eq_true', Bool.not_eq_false', Bool.not_true, Bool.not_false, gt_iff_lt, ge_iff_le, Int.not_lt, Int.not_le, Decidable.not_not] at hc); (first | (exact absurd rfl hc) | (exact absurd trivial hc) | (exfalso; omega) | skip)) | ((conv => whnf); first | (with_reducible refine And.intro ?_ ?_) | (refine ifB_intro (fun hc => ?_) (fun hc => ?_) <;> (try simp only [str_size, str_list, str_nil, decide_eq_true_eq, decide_eq_false_iff_not, beq_iff_eq, bne_iff_ne, beq_eq_false_iff_ne, bne_eq_false_iff_eq, ne_eq, Bool.not_eq_true', Bool.not_eq_false', Bool.not_true, Bool.not_false, gt_iff_lt, ge_iff_le, Int.not_lt, Int.not_le, Decidable.not_not] at hc) <;> (first | (exact absurd rfl hc) | (exact absurd trivial hc) | (exfalso; omega) | skip)) | (refine GAr.i64 (by omega) ?_) | ((refine GAr.i64w ?_); intro kw hk1 hk2) | (refine GAr.u8s (by omega) ?_) | (refine GAr.u8 ?_) | (refine GAr.u64s (by omega) ?_) | (refine GAr.u32s (by omega) ?_) | (refine GAr.u64 ?_) | (refine GAr.u32 ?_) | (refine GQuo.i64 (by omega) ?_) | (refine GRem.pos (by omega) ?_) | (with_reducible refine stopA ?_) | (refine Exists.intro _ (And.intro (by (first | exact vat_of vagg_str (maps_at hb) (mul1 rfl rfl) | rfl)) ?_)) | (refine GOp.via (by rfl) ?_) | (with_reducible refine stopO ?_) | (with_reducible refine stopE ?_) | (with_reducible refine stopD ?_) | (with_reducible refine stopW ?_) | (with_reducible refine stopC ?_) | (with_reducible refine stopR ?_)))
      all_goals (first | omega | exact Done'.mk (isbad rfl) | skip)
    · obtain ⟨c, hc0⟩ := list_at (l := q) (i := 0) (by omega)
      obtain ⟨d, hd0⟩ := list_at (l := q) (i := q.length - 1) (by omega)
      have hd1 : q[((q.length : Int) - 1).toNat]? = some d := by
        have : ((q.length : Int) - 1).toNat = q.length - 1 := by omega
        rw [this]; exact hd0
      have hqs := str_size q
      have hqn : ¬ q = [] := fun e => h0 (by rw [e]; rfl)
      have hv : rOK q = (!(decide (63 < q.length) || decide ((c.toNat : Int) = 45) || decide ((d.toNat : Int) = 45)) && q.all rPart) := by
        have q1 : Nat.blt q.length 1 = false := by
          cases hh : Nat.blt q.length 1
          · rfl
          · have := blt_iff.1 hh; omega
        have q2 : Nat.blt 63 q.length = decide (63 < q.length) := by
          rw [Bool.eq_iff_iff, blt_iff]; simp
        have q3 : ∀ e : UInt8, (some e == some (45 : UInt8)) = decide ((e.toNat : Int) = 45) := fun e => by
          rw [Bool.eq_iff_iff]
          simp only [Option.some_beq_some, beq_iff_eq, decide_eq_true_eq]
          exact (eq45 (c := e)).symm
        unfold rOK
        rw [q1, q2, hc0, hd0, q3, q3, Bool.false_or]
      repeat' (first | (with_reducible refine And.intro ?_ ?_) | ((with_reducible intro hc); (try simp only [str_size, str_list, str_nil, decide_eq_true_eq, decide_eq_false_iff_not, beq_iff_eq, bne_iff_ne, beq_eq_false_iff_ne, bne_eq_false_iff_eq, ne_eq, Bool.not_eq_true', Bool.not_eq_false', Bool.not_true, Bool.not_false, gt_iff_lt, ge_iff_le, Int.not_lt, Int.not_le, Decidable.not_not] at hc); (first | (exact absurd rfl hc) | (exact absurd trivial hc) | (exfalso; omega) | skip)) | ((conv => whnf); first | (with_reducible refine And.intro ?_ ?_) | (refine ifB_intro (fun hc => ?_) (fun hc => ?_) <;> (try simp only [str_size, str_list, str_nil, decide_eq_true_eq, decide_eq_false_iff_not, beq_iff_eq, bne_iff_ne, beq_eq_false_iff_ne, bne_eq_false_iff_eq, ne_eq, Bool.not_eq_true', Bool.not_eq_false', Bool.not_true, Bool.not_false, gt_iff_lt, ge_iff_le, Int.not_lt, Int.not_le, Decidable.not_not] at hc) <;> (first | (exact absurd rfl hc) | (exact absurd trivial hc) | (exfalso; omega) | skip)) | (refine GAr.i64 (by omega) ?_) | ((refine GAr.i64w ?_); intro kw hk1 hk2) | (refine GAr.u8s (by omega) ?_) | (refine GAr.u8 ?_) | (refine GAr.u64s (by omega) ?_) | (refine GAr.u32s (by omega) ?_) | (refine GAr.u64 ?_) | (refine GAr.u32 ?_) | (refine GQuo.i64 (by omega) ?_) | (refine GRem.pos (by omega) ?_) | (with_reducible refine stopA ?_) | (refine Exists.intro _ (And.intro (by (first | exact vat_of vagg_str (maps_at hb) (mul1 rfl rfl) | exact hc0 | exact hd1 | rfl)) ?_)) | (refine GOp.via (by rfl) ?_) | (with_reducible refine stopO ?_) | (with_reducible refine stopE ?_) | (with_reducible refine stopD ?_) | (with_reducible refine stopW ?_) | (with_reducible refine stopC ?_) | (with_reducible refine stopR ?_)))
      all_goals (first | omega | (rw [str_size]; omega) | (exfalso; exact hqn hc; done) | skip)
      · exact Done'.mk (isbad (by rw [hv, decide_eq_true (show 63 < q.length by omega)]; rfl))
      · exact Done'.mk (isbad (by rw [hv, decide_eq_true (show (c.toNat : Int) = 45 from hc), Bool.or_true]; rfl))
      · exact Done'.mk (isbad (by rw [hv, decide_eq_true (show (d.toNat : Int) = 45 from hc), Bool.or_true]; rfl))
      have hv2 : rOK q = q.all rPart := by
        rw [hv, decide_eq_false (show ¬ 63 < q.length by omega), decide_eq_false (show ¬ (c.toNat : Int) = 45 by omega), decide_eq_false (show ¬ (d.toNat : Int) = 45 by omega)]
        rfl
      refine GWP'.mk (GWP.loopA (α := Nat) [2, 3, 7, 42, 43, 44, 45, 46, 47, 48, 49, 50, 51, 52, 53, 54, 55, 56, 57, 58, 59, 60, 61, 62, 63, 64, 65] [] (fun j => j ≤ q.length ∧ q.all rPart = (q.drop j).all rPart) (fun j => [(7, iV j), (2, strV []), (3, iV 0)]) (fun _ => []) 0 (fun j => q.length - j) 0 ⟨Nat.zero_le _, rfl⟩ ⟨rfl, rfl, (by repeat' (first | exact trivial | refine And.intro rfl ?_)), [], _, rfl, ⟨⟨_, rfl, .sc⟩, ⟨_, rfl, .sc⟩, ⟨_, rfl, .sc⟩, trivial⟩, .nil⟩ ?_)
      rintro j ⟨g1, g2⟩
      by_cases hjl : j < q.length
      · obtain ⟨e, he⟩ := list_at hjl
        rw [all_at rPart he] at g2
        have hr : rPart e = (letB e || decide (48 ≤ e.toNat ∧ e.toNat ≤ 57) || decide ((e.toNat : Int) = 45)) := by
          unfold rPart
          rw [dgB_eq]
          congr 1
          rw [Bool.eq_iff_iff]
          simp only [beq_iff_eq, decide_eq_true_eq]
          exact (eq45 (c := e)).symm
        have next : rPart e = true → ∃ b, (b ≤ q.length ∧ q.all rPart = (q.drop b).all rPart) ∧ q.length - b < q.length - j ∧ b = j + 1 := fun h => by
          rw [h, Bool.true_and] at g2
          exact ⟨j + 1, ⟨by omega, g2⟩, by omega, rfl⟩
        have stop : rPart e = false → VV.tp [strV [], errV 2] = VV.tp [strV (hTxt l), errV (hCode l)] := fun h => by
          rw [h, Bool.false_and] at g2
          exact isbad (by rw [hv2, g2])
        repeat' (first | (with_reducible refine And.intro ?_ ?_) | ((with_reducible intro hc); (try simp only [str_size, str_list, str_nil, decide_eq_true_eq, decide_eq_false_iff_not, beq_iff_eq, bne_iff_ne, beq_eq_false_iff_ne, bne_eq_false_iff_eq, ne_eq, Bool.not_eq_true', Bool.not_eq_false', Bool.not_true, Bool.not_false, gt_iff_lt, ge_iff_le, Int.not_lt, Int.not_le, Decidable.not_not] at hc); (first | (exact absurd rfl hc) | (exact absurd trivial hc) | (exfalso; omega) | skip)) | ((conv => whnf); first | (with_reducible refine And.intro ?_ ?_) | (refine ifB_intro (fun hc => ?_) (fun hc => ?_) <;> (try simp only [str_size, str_list, str_nil, decide_eq_true_eq, decide_eq_false_iff_not, beq_iff_eq, bne_iff_ne, beq_eq_false_iff_ne, bne_eq_false_iff_eq, ne_eq, Bool.not_eq_true', Bool.not_eq_false', Bool.not_true, Bool.not_false, gt_iff_lt, ge_iff_le, Int.not_lt, Int.not_le, Decidable.not_not] at hc) <;> (first | (exact absurd rfl hc) | (exact absurd trivial hc) | (exfalso; omega) | skip)) | (refine GAr.i64 (by omega) ?_) | ((refine GAr.i64w ?_); intro kw hk1 hk2) | (refine GAr.u8s (by omega) ?_) | (refine GAr.u8 ?_) | (refine GAr.u64s (by omega) ?_) | (refine GAr.u32s (by omega) ?_) | (refine GAr.u64 ?_) | (refine GAr.u32 ?_) | (refine GQuo.i64 (by omega) ?_) | (refine GRem.pos (by omega) ?_) | (with_reducible refine stopA ?_) | (refine Exists.intro _ (And.intro (by (first | exact he | rfl)) ?_)) | (refine GOp.via (by rfl) ?_) | (with_reducible refine stopO ?_) | (with_reducible refine stopE ?_) | (with_reducible refine stopD ?_) | (with_reducible refine stopW ?_) | (first | (refine GCall.mk ((letter_call e _).mono ?_); rintro _ _ ⟨rfl, rfl⟩) | (refine GCall.mk ((digit_call e _).mono ?_); rintro _ _ ⟨rfl, rfl⟩)) | (with_reducible refine stopC ?_) | (with_reducible refine stopR ?_)))
        all_goals (first | omega | (rw [str_size]; omega) | skip)
        all_goals (first | exact Done'.mk (stop (by rw [hr]; simp [*])) | (obtain ⟨b, k1, k2, rfl⟩ := next (by rw [hr]; simp [*]); refine Done'.mk ⟨j + 1, k1, k2, rfl, rfl, (by repeat' (first | exact trivial | refine And.intro rfl ?_)), [], _, rfl, ⟨⟨_, rfl, RenV.eq rfl (nameless_sc _)⟩, ⟨_, rfl, .sc⟩, ⟨_, rfl, .sc⟩, trivial⟩, .nil⟩))
      · repeat' (first | (with_reducible refine And.intro ?_ ?_) | ((with_reducible intro hc); (try simp only [str_size, str_list, str_nil, decide_eq_true_eq, decide_eq_false_iff_not, beq_iff_eq, bne_iff_ne, beq_eq_false_iff_ne, bne_eq_false_iff_eq, ne_eq, Bool.not_eq_true', Bool.not_eq_false', Bool.not_true, Bool.not_false, gt_iff_lt, ge_iff_le, Int.not_lt, Int.not_le, Decidable.not_not] at hc); (first | (exact absurd rfl hc) | (exact absurd trivial hc) | (exfalso; omega) | skip)) | ((conv => whnf); first | (with_reducible refine And.intro ?_ ?_) | (refine ifB_intro (fun hc => ?_) (fun hc => ?_) <;> (try simp only [str_size, str_list, str_nil, decide_eq_true_eq, decide_eq_false_iff_not, beq_iff_eq, bne_iff_ne, beq_eq_false_iff_ne, bne_eq_false_iff_eq, ne_eq, Bool.not_eq_true', Bool.not_eq_false', Bool.not_true, Bool.not_false, gt_iff_lt, ge_iff_le, Int.not_lt, Int.not_le, Decidable.not_not] at hc) <;> (first | (exact absurd rfl hc) | (exact absurd trivial hc) | (exfalso; omega) | skip)) | (refine GAr.i64 (by omega) ?_) | ((refine GAr.i64w ?_); intro kw hk1 hk2) | (refine GAr.u8s (by omega) ?_) | (refine GAr.u8 ?_) | (refine GAr.u64s (by omega) ?_) | (refine GAr.u32s (by omega) ?_) | (refine GAr.u64 ?_) | (refine GAr.u32 ?_) | (refine GQuo.i64 (by omega) ?_) | (refine GRem.pos (by omega) ?_) | (with_reducible refine stopA ?_) | (refine Exists.intro _ (And.intro (by rfl) ?_)) | (refine GOp.via (by rfl) ?_) | (with_reducible refine stopO ?_) | (with_reducible refine stopE ?_) | (with_reducible refine stopD ?_) | (with_reducible refine stopW ?_) | (with_reducible refine stopC ?_) | (with_reducible refine stopR ?_)))
        all_goals (first | omega | skip)
        rw [List.drop_eq_nil_of_le (by omega)] at g2
        have : rOK q = true := by rw [hv2, g2]; rfl
        rw [this, Bool.true_and] at h2
        exact Done'.mk ⟨i + 1, ⟨by omega, h2⟩, by omega, rfl, rfl, (by repeat' (first | exact trivial | refine And.intro rfl ?_)), [], _, rfl, ⟨⟨_, rfl, RenV.eq rfl (nameless_sc _)⟩, ⟨_, rfl, .sc⟩, ⟨_, rfl, .sc⟩, trivial⟩, .nil⟩
  · rw [List.drop_eq_nil_of_le (by omega)] at h2
    have h2 : ss.all rOK = true := h2
    obtain ⟨q, hb⟩ := list_at (l := ss) (i := ss.length - 1) (by omega)
    have hqok : rOK q = true := List.all_eq_true.1 h2 q (List.mem_of_getElem? hb)
    have hqp : 0 < q.length := by
      have := hOK_pos (p := q.map lowB) (by rw [ok_low]; exact hqok)
      rwa [List.length_map] at this
    obtain ⟨c, hc0⟩ := list_at (l := q) (i := 0) hqp
    have hlast : lastDig ss = dgB c := by unfold lastDig; rw [hb]; simp only [hc0]
    have hb1 : ss[((ss.length : Int) - 1).toNat]? = some q := by
      have : ((ss.length : Int) - 1).toNat = ss.length - 1 := by omega
      rw [this]; exact hb
    have hbad : rBad ss = (dgB c && !(addr ss)) := by
      unfold rBad
      rw [h8, h2, hlast]
      rfl
    rw [hbad, ← dgB_eq] at hcode
    have good : hCode l = 0 → VV.tp [strV (l.map lowB), errV 0] = VV.tp [strV (hTxt l), errV (hCode l)] := fun e => by
      have : hTxt l = l.map lowB := by unfold hTxt; rw [if_pos e]
      rw [this, e]
    repeat' (first | (with_reducible refine And.intro ?_ ?_) | ((with_reducible intro hc); (try simp only [str_size, str_list, str_nil, decide_eq_true_eq, decide_eq_false_iff_not, beq_iff_eq, bne_iff_ne, beq_eq_false_iff_ne, bne_eq_false_iff_eq, ne_eq, Bool.not_eq_true', Bool.not_eq_false', Bool.not_true, Bool.not_false, gt_iff_lt, ge_iff_le, Int.not_lt, Int.not_le, Decidable.not_not] at hc); (first | (exact absurd rfl hc) | (exact absurd trivial hc) | (exfalso; omega) | skip)) | ((conv => whnf); first | (with_reducible refine And.intro ?_ ?_) | (refine ifB_intro (fun hc => ?_) (fun hc => ?_) <;> (try simp only [str_size, str_list, str_nil, decide_eq_true_eq, decide_eq_false_iff_not, beq_iff_eq, bne_iff_ne, beq_eq_false_iff_ne, bne_eq_false_iff_eq, ne_eq, Bool.not_eq_true', Bool.not_eq_false', Bool.not_true, Bool.not_false, gt_iff_lt, ge_iff_le, Int.not_lt, Int.not_le, Decidable.not_not] at hc) <;> (first | (exact absurd rfl hc) | (exact absurd trivial hc) | (exfalso; omega) | skip)) | (refine GAr.i64 (by omega) ?_) | ((refine GAr.i64w ?_); intro kw hk1 hk2) | (refine GAr.u8s (by omega) ?_) | (refine GAr.u8 ?_) | (refine GAr.u64s (by omega) ?_) | (refine GAr.u32s (by omega) ?_) | (refine GAr.u64 ?_) | (refine GAr.u32 ?_) | (refine GQuo.i64 (by omega) ?_) | (refine GRem.pos (by omega) ?_) | (with_reducible refine stopA ?_) | (refine Exists.intro _ (And.intro (by (first | exact vat_of vagg_str (maps_at hb1) (mul1 rfl rfl) | exact hc0 | rfl)) ?_)) | (refine GOp.via (by rfl) ?_) | (with_reducible refine stopO ?_) | (with_reducible refine stopE ?_) | (with_reducible refine stopD ?_) | (with_reducible refine stopW ?_) | (first | (refine GCall.mk ((digit_call c _).mono ?_); rintro _ _ ⟨rfl, rfl⟩) | (refine GCall.mk ((raddress_call ss _ (by omega) hpart).mono ?_); rintro _ _ ⟨rfl, rfl⟩) | (refine GCall.mk ((rlower_call l _ (by omega)).mono ?_); rintro _ _ ⟨rfl, rfl⟩)) | (with_reducible refine stopC ?_) | (with_reducible refine stopR ?_)))
    all_goals (first | omega | skip)
    all_goals (first | exact Done'.mk (bad 2 (by rw [hcode]; simp [*]) (by decide)) | exact Done'.mk (good (by rw [hcode]; simp [*])))
theorem raddr_call (l : List UInt8) (H : Heap) (hl : l.length ≤ 100000) : VCall Try.prog 22 [strV l] H (fun x K => x = booV (hAddr l) ∧ K = H) := by
  refine VCall.pure (by simp [nameless_strV]) (nameless_sc _) ?_
  refine VCall.go Try.func22 rfl ?_
  repeat' (first | (with_reducible refine And.intro ?_ ?_) | ((with_reducible intro hc); (try simp only [str_size, str_list, str_nil, decide_eq_true_eq, decide_eq_false_iff_not, beq_iff_eq, bne_iff_ne, beq_eq_false_iff_ne, bne_eq_false_iff_eq, ne_eq, Bool.not_eq_true', Bool.not_eq_false', Bool.not_true, Bool.not_false, gt_iff_lt, ge_iff_le, Int.not_lt, Int.not_le, Decidable.not_not] at hc); (first | (exact absurd rfl hc) | (exact absurd trivial hc) | (exfalso; omega) | skip)) | ((conv => whnf); first | (with_reducible refine And.intro ?_ ?_) | (refine ifB_intro (fun hc => ?_) (fun hc => ?_) <;> (try simp only [str_size, str_list, str_nil, decide_eq_true_eq, decide_eq_false_iff_not, beq_iff_eq, bne_iff_ne, beq_eq_false_iff_ne, bne_eq_false_iff_eq, ne_eq, Bool.not_eq_true', Bool.not_eq_false', Bool.not_true, Bool.not_false, gt_iff_lt, ge_iff_le, Int.not_lt, Int.not_le, Decidable.not_not] at hc) <;> (first | (exact absurd rfl hc) | (exact absurd trivial hc) | (exfalso; omega) | skip)) | (refine GAr.i64 (by omega) ?_) | ((refine GAr.i64w ?_); intro kw hk1 hk2) | (refine GAr.u8s (by omega) ?_) | (refine GAr.u8 ?_) | (refine GAr.u64s (by omega) ?_) | (refine GAr.u32s (by omega) ?_) | (refine GAr.u64 ?_) | (refine GAr.u32 ?_) | (refine GQuo.i64 (by omega) ?_) | (refine GRem.pos (by omega) ?_) | (with_reducible refine stopA ?_) | (refine Exists.intro _ (And.intro (by rfl) ?_)) | (refine GOp.via (by rfl) ?_) | (with_reducible refine stopO ?_) | (with_reducible refine stopE ?_) | (with_reducible refine stopD ?_) | (with_reducible refine stopW ?_) | (first | (refine GCall.mk ((rparse_call l _ hl).mono ?_); rintro _ _ ⟨rfl, rfl⟩) | (refine GCall.mk ((rsplit_call l 46 _ hl).mono ?_); rintro _ _ ⟨rfl, rfl⟩) | (refine GCall.mk ((raddress_call (splitB l 46) _ (by have := splitB_len l 46; omega) (fun p hp => by have := splitB_part hp; omega)).mono ?_); rintro _ _ ⟨rfl, rfl⟩)) | (with_reducible refine stopC ?_) | (with_reducible refine stopR ?_)))
  · refine Done'.mk ?_
    unfold hAddr
    rw [decide_eq_true hc, Bool.true_and, splitB_low, addr_low]
    rfl
  · refine Done'.mk ?_
    unfold hAddr
    rw [decide_eq_false hc]
    rfl
end Go.Proofs.Ytnfmoclmfddajaa
