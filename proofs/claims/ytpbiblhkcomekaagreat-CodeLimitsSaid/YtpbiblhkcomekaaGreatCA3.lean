import Derived.Test.YtpbiblhkcomekaaGreatCE5
import Derived.Test.YtpbiblhkcomekaaGreatCA2
/- The maker's put, here and lead, walked. -/
namespace Go.Proofs.YtpbiblhkcomekaaGreat
open Go Go.RowKit
set_option linter.unusedSimpArgs false
set_option linter.unusedVariables false
set_option maxRecDepth 100000
set_option maxHeartbeats 8000000
theorem sty_I : SlTy Tryz.prog 36 3 32 := ⟨⟨_, _, _, rfl, rfl, rfl, rfl, rfl, rfl⟩⟩
theorem vagg_op : vagg Tryz.prog 39 = some false := by kernel_rfl
theorem vagg_int : vagg Tryz.prog 3 = some false := by kernel_rfl
theorem idxq {m n o j : Nat} (h : m = n + 1) (ho : o = j) : ((m : Int) - 1).toNat * 3 + o = n * 3 + j := by omega
theorem idxl {n o j : Nat} (ho : o = j) : (n : Int).toNat * 3 + o = n * 3 + j := by omega
theorem ins_at {l : List Ins} {n : Nat} {y : Ins} (h : l[n]? = some y) : (opsR l)[n * 3 + 0]? = some (iV y.op) ∧ (opsR l)[n * 3 + 1]? = some (iV y.a) := ⟨by have := rowsF_at insC_len (j := 0) (by omega) h; exact this, by have := rowsF_at insC_len (j := 1) (by omega) h; exact this⟩
theorem ins_set {l : List Ins} {n : Nat} {y : Ins} (h : l[n]? = some y) (a : Nat) : setRun (opsR l) (n * 3 + 1) [iV a] = opsR (l.set n ⟨y.op, a, y.text⟩) := by
  have := rowsF_set insC_len (j := 1) (by omega) (iV a) ⟨y.op, a, y.text⟩ h rfl
  exact this
theorem maxZ_eq (a b : Int) : maxZ a b = max a b := by
  unfold maxZ
  split <;> omega
theorem put_call (s : MkS) (op a : Nat) (t : List UInt8) (g : Int) (hb : Bd s 900000) (ha : a ≤ 900000) (hg1 : -900000 ≤ g) (hg2 : g ≤ 900000) : MkC 45 [.ptr 1 0, iV op, iV a, strV t, iV g] s (iV (putM op a t g s).1) (putM op a t g s).2 := by
  have hl := hb.l
  have b1 := hb.d1
  have b2 := hb.d2
  have b3 := hb.m1
  have b4 := hb.m2
  have b5 := hb.fixed
  refine MkC.of (nameless_sc _) fun x hx => ?_
  have ho3 := trivial
  have hn := trivial
  have ho4 := trivial
  cases hgl : s.l.getLast? with
  | none =>
    have hsl : s.l = [] := List.getLast?_eq_none_iff.1 hgl
    have e : putM op a t g s = (s.l.length, { s with l := s.l ++ [⟨op, a, t⟩], depth := s.depth + g, most := max s.most (s.depth + g) }) := by unfold putM; rw [hgl]
    rw [e]
    have hn0 : s.l.length = 0 := by rw [hsl]; rfl
    refine VCall.go Tryz.func45 rfl ?_
    (repeat' (first|with_reducible refine And.intro ?_ ?_|(with_reducible intro hc;(try simp only [zz] at hc);try exact ct)|exact Is.mk rfl rfl|((conv => whnf);first|with_reducible refine And.intro ?_ ?_|with_reducible intro hx|exact Is.mk rfl rfl|(with_reducible first|apply Val.via|apply ValH.via)|refine sp ?_|refine vx (by (first|exact vat_of vagg_op ho3 (idxq hn rfl)|exact vat_of vagg_int ho4 (idxq hn rfl)|exact vat_of rfl rfl rfl|rfl)) ?_|refine GWP.drawY mixed _ (by kernel_rfl) (by rfl) ?_|(refine stopO (GOp'.grow rfl sty_I (d := .slice 41) Tryz.underlying36 (by intro k h;cases h) rfl (m := 1) (l := [iV op,iV a,strV t]) (by rfl) (by rfl) rfl (opsR_len _) (by omega) (by omega) ?_))|refine sq ?_)))
    (all_goals (first|omega|contradiction|skip))
    all_goals exact Done'.mk ⟨by rw [hn0];rfl,3,4,7,rfl,by (simp only [mkO,List.length_append,List.length_cons,List.length_nil,opsR_snoc,← maxZ_eq];exact (by repeat' (first|exact trivial|refine And.intro rfl ?_)))⟩
  | some y =>
    have hne : s.l ≠ [] := fun e => by rw [e] at hgl; cases hgl
    obtain ⟨n, hn⟩ : ∃ n, s.l.length = n + 1 := ⟨s.l.length - 1, by have := List.length_pos_iff.2 hne; omega⟩
    have hy : s.l[n]? = some y := by rw [List.getLast?_eq_getElem?, hn] at hgl; exact hgl
    clear ho3 ho4
    obtain ⟨ho3, ho4⟩ := ins_at hy
    have hya := hb.a y (List.mem_of_getElem? hy)
    by_cases hm : op = 0 ∧ s.fixed < s.l.length ∧ y.op = 0
    · have e : putM op a t g s = (n, { s with l := s.l.set n ⟨y.op, y.a + a, y.text⟩, depth := s.depth + g, most := max s.most (s.depth + g) }) := by
        unfold putM
        rw [hgl]
        simp only
        rw [if_pos hm, hn]
        have : s.l.dropLast ++ [⟨y.op, y.a + a, y.text⟩] = s.l.set n ⟨y.op, y.a + a, y.text⟩ := by
          obtain ⟨l', h2⟩ := List.getLast?_eq_some_iff.1 hgl
          have h3 : l'.length = n := by have := congrArg List.length h2; rw [hn, List.length_append, List.length_singleton] at this; omega
          rw [h2, List.dropLast_concat, List.set_append_right _ _ (by omega), h3, Nat.sub_self, List.set_cons_zero]
        rw [this]
        rfl
      rw [e]
      obtain ⟨rfl, hf, hy0⟩ := hm
      rw [hy0] at ho3
      have hsl := ins_set hy (y.a + a)
      rw [Int.natCast_add] at hsl
      refine VCall.go Tryz.func45 rfl ?_
      (repeat' (first|with_reducible refine And.intro ?_ ?_|(with_reducible intro hc;(try simp only [zz] at hc);try exact ct)|exact Is.mk rfl rfl|((conv => whnf);first|with_reducible refine And.intro ?_ ?_|with_reducible intro hx|exact Is.mk rfl rfl|(with_reducible first|apply Val.via|apply ValH.via)|refine sp ?_|refine vx (by (first|exact vat_of vagg_op ho3 (idxq hn rfl)|exact vat_of vagg_int ho4 (idxq hn rfl)|exact vat_of rfl rfl rfl|rfl)) ?_|refine GWP.drawY mixed _ (by kernel_rfl) (by rfl) ?_|(refine stopO (GOp'.stOpt (q' := n * 3 + 1) (n := 1) rfl rfl rfl (by kernel_rfl) rfl (by rw [opsR_len];omega) rfl (idxq hn rfl) ?_))|refine sq ?_)))
      (all_goals (first|omega|contradiction|skip))
      all_goals exact Done'.mk ⟨by (first|rfl|exact scI_eq (by omega)),3,4,5,rfl,by (simp only [mkO,List.length_set,← hsl,← maxZ_eq];exact (by repeat' (first|exact trivial|refine And.intro rfl ?_)))⟩
    · have e : putM op a t g s = (s.l.length, { s with l := s.l ++ [⟨op, a, t⟩], depth := s.depth + g, most := max s.most (s.depth + g) }) := by
        unfold putM; rw [hgl]; simp only; rw [if_neg hm]
      rw [e]
      by_cases h0 : op = 0
      · subst h0
        by_cases hf : s.fixed < s.l.length
        · have hy0 : y.op ≠ 0 := fun h => hm ⟨rfl, hf, h⟩
          refine VCall.go Tryz.func45 rfl ?_
          (repeat' (first|with_reducible refine And.intro ?_ ?_|(with_reducible intro hc;(try simp only [zz] at hc);try exact ct)|exact Is.mk rfl rfl|((conv => whnf);first|with_reducible refine And.intro ?_ ?_|with_reducible intro hx|exact Is.mk rfl rfl|(with_reducible first|apply Val.via|apply ValH.via)|refine sp ?_|refine vx (by (first|exact vat_of vagg_op ho3 (idxq hn rfl)|exact vat_of vagg_int ho4 (idxq hn rfl)|exact vat_of rfl rfl rfl|rfl)) ?_|refine GWP.drawY mixed _ (by kernel_rfl) (by rfl) ?_|(refine stopO (GOp'.grow rfl sty_I (d := .slice 41) Tryz.underlying36 (by intro k h;cases h) rfl (m := 1) (l := [iV 0,iV a,strV t]) (by rfl) (by rfl) rfl (opsR_len _) (by omega) (by omega) ?_))|refine sq ?_)))
          (all_goals (first|omega|contradiction|skip))
          all_goals exact Done'.mk ⟨by (first|rfl|exact scI_eq (by omega)),3,4,7,rfl,by (simp only [mkO,List.length_append,List.length_cons,List.length_nil,opsR_snoc,← maxZ_eq];exact (by repeat' (first|exact trivial|refine And.intro rfl ?_)))⟩
        · refine VCall.go Tryz.func45 rfl ?_
          (repeat' (first|with_reducible refine And.intro ?_ ?_|(with_reducible intro hc;(try simp only [zz] at hc);try exact ct)|exact Is.mk rfl rfl|((conv => whnf);first|with_reducible refine And.intro ?_ ?_|with_reducible intro hx|exact Is.mk rfl rfl|(with_reducible first|apply Val.via|apply ValH.via)|refine sp ?_|refine vx (by (first|exact vat_of vagg_op ho3 (idxq hn rfl)|exact vat_of vagg_int ho4 (idxq hn rfl)|exact vat_of rfl rfl rfl|rfl)) ?_|refine GWP.drawY mixed _ (by kernel_rfl) (by rfl) ?_|(refine stopO (GOp'.grow rfl sty_I (d := .slice 41) Tryz.underlying36 (by intro k h;cases h) rfl (m := 1) (l := [iV 0,iV a,strV t]) (by rfl) (by rfl) rfl (opsR_len _) (by omega) (by omega) ?_))|refine sq ?_)))
          (all_goals (first|omega|contradiction|skip))
          all_goals exact Done'.mk ⟨by (first|rfl|exact scI_eq (by omega)),3,4,7,rfl,by (simp only [mkO,List.length_append,List.length_cons,List.length_nil,opsR_snoc,← maxZ_eq];exact (by repeat' (first|exact trivial|refine And.intro rfl ?_)))⟩
      · refine VCall.go Tryz.func45 rfl ?_
        (repeat' (first|with_reducible refine And.intro ?_ ?_|(with_reducible intro hc;(try simp only [zz] at hc);try exact ct)|exact Is.mk rfl rfl|((conv => whnf);first|with_reducible refine And.intro ?_ ?_|with_reducible intro hx|exact Is.mk rfl rfl|(with_reducible first|apply Val.via|apply ValH.via)|refine sp ?_|refine vx (by (first|exact vat_of vagg_op ho3 (idxq hn rfl)|exact vat_of vagg_int ho4 (idxq hn rfl)|exact vat_of rfl rfl rfl|rfl)) ?_|refine GWP.drawY mixed _ (by kernel_rfl) (by rfl) ?_|(refine stopO (GOp'.grow rfl sty_I (d := .slice 41) Tryz.underlying36 (by intro k h;cases h) rfl (m := 1) (l := [iV op,iV a,strV t]) (by rfl) (by rfl) rfl (opsR_len _) (by omega) (by omega) ?_))|refine sq ?_)))
        (all_goals (first|omega|contradiction|skip))
        all_goals exact Done'.mk ⟨by (first|rfl|exact scI_eq (by omega)),3,4,7,rfl,by (simp only [mkO,List.length_append,List.length_cons,List.length_nil,opsR_snoc,← maxZ_eq];exact (by repeat' (first|exact trivial|refine And.intro rfl ?_)))⟩
theorem hereL_call (s : MkS) (x : VV) : VCall Tryz.prog 115 [.ptr 1 0] ⟨mkO 3 4 5 s x, 6⟩ (fun v K => v = iV s.l.length ∧ K = ⟨mkO 3 4 5 (hereM s) x, 6⟩) := by
  have ho3 := trivial
  have hn := trivial
  have ho4 := trivial
  refine VCall.go Tryz.func115 rfl ?_
  (repeat' (first|with_reducible refine And.intro ?_ ?_|(with_reducible intro hc;(try simp only [zz] at hc);try exact ct)|exact Is.mk rfl rfl|((conv => whnf);first|with_reducible refine And.intro ?_ ?_|with_reducible intro hx|exact Is.mk rfl rfl|(with_reducible first|apply Val.via|apply ValH.via)|refine sp ?_|refine vx (by (first|exact vat_of vagg_op ho3 (idxq hn rfl)|exact vat_of vagg_int ho4 (idxq hn rfl)|exact vat_of rfl rfl rfl|rfl)) ?_|refine GWP.drawY mixed _ (by kernel_rfl) (by rfl) ?_|fail|refine sq ?_)))
  (all_goals (first|omega|contradiction|skip))
  all_goals exact Done'.mk ⟨rfl, rfl⟩
theorem here_call (s : MkS) : MkC 115 [.ptr 1 0] s (iV s.l.length) (hereM s) := MkC.of (nameless_sc _) fun x hx => (hereL_call s x).mono (by
  rintro v K ⟨rfl, rfl⟩
  exact ⟨rfl,3,4,5,rfl,(by repeat' (first|exact trivial|refine And.intro rfl ?_))⟩)
theorem lead_call (s : MkS) (i : Nat) (hi : i < s.l.length) (hl : s.l.length ≤ 900000) : MkC 117 [.ptr 1 0, iV i] s (.tp []) (leadM i s) := by
  refine MkC.of (nameless_tp (by simp)) fun x hx => ?_
  have ho3 := trivial
  have hn := trivial
  have ho4 := trivial
  obtain ⟨y, hy⟩ := list_at hi
  have hsl := ins_set hy s.l.length
  have e : leadM i s = { s with l := s.l.set i ⟨y.op, s.l.length, y.text⟩, fixed := s.l.length } := by
    unfold leadM leadL
    rw [hy]
  rw [e]
  refine VCall.go Tryz.func117 rfl ?_
  (repeat' (first|with_reducible refine And.intro ?_ ?_|(with_reducible intro hc;(try simp only [zz] at hc);try exact ct)|exact Is.mk rfl rfl|((conv => whnf);first|with_reducible refine And.intro ?_ ?_|with_reducible intro hx|exact Is.mk rfl rfl|(with_reducible first|apply Val.via|apply ValH.via)|refine sp ?_|refine vx (by (first|exact vat_of vagg_op ho3 (idxq hn rfl)|exact vat_of vagg_int ho4 (idxq hn rfl)|exact vat_of rfl rfl rfl|rfl)) ?_|fail|refine sq ?_)))
  (all_goals (first|omega|contradiction|skip))
  refine GWP'.mk (GWP.drawM mixed 13 [6, 9] (fun H => [⟨mkO 3 4 5 (hereM s) x, 6⟩, (⟨mkO 3 4 5 (hereM s) x, 6⟩ : Heap).set 5 (.opt (setRun (opsR s.l) (i * 3 + 1) [iV s.l.length]))]) (by kernel_rfl) (by rfl) ?_)
  repeat' (first|with_reducible refine And.intro ?_ ?_|(with_reducible intro hc;(try simp only [zz] at hc);try exact ct)|exact Is.mk rfl rfl|exact trivial|((conv => whnf);first|with_reducible refine And.intro ?_ ?_|with_reducible intro hx|exact Is.mk rfl rfl|exact trivial|(with_reducible first|apply Val.via|apply ValH.via)|(refine stopO (GOp'.stOpt (q' := i * 3 + 1) (n := 1) rfl rfl rfl (by kernel_rfl) rfl (by rw [opsR_len];show i * 3 + 1 + 1 ≤ s.l.length * 3;omega) rfl (idxl rfl) ?_))|refine sp ?_|refine vx (by (first|exact vat_of vagg_op ho3 (idxq hn rfl)|exact vat_of vagg_int ho4 (idxq hn rfl)|exact vat_of rfl rfl rfl|rfl)) ?_|refine cl (hereL_call s x) ?_|refine sq ?_))
  (all_goals (first|omega|contradiction|skip))
  all_goals exact Done'.mk ⟨rfl,3,4,5,rfl,by simp only [mkO,List.length_set,← hsl];exact (by repeat' (first|exact trivial|refine And.intro rfl ?_))⟩
end Go.Proofs.YtpbiblhkcomekaaGreat

/- The maker's expr, walked: an expression's instructions. -/
namespace Go.Proofs.YtpbiblhkcomekaaGreat
open Go Go.RowKit
set_option linter.unusedSimpArgs false
set_option linter.unusedVariables false
set_option maxRecDepth 100000
set_option maxHeartbeats 8000000
theorem vat_rowsG {l : List Nd} {i o op nm : Nat} {tx : List UInt8} {ks : List Nd} (h : l[i]? = some (.mk op tx nm ks)) (ho : o = i * 4) : vat Tryz.prog 63 (rowsN l) o = some (.ag [iV op, strV tx, iV nm, .ro ks.length (rowsN ks)]) := by
  have h1 : vagg Tryz.prog 63 = some true := by kernel_rfl
  have h2 : vsize Tryz.prog 63 = some 4 := by kernel_rfl
  subst ho
  have key : ∀ (l : List Nd) (i : Nat) (n : Nd), l[i]? = some n → ((rowsN l).drop (i * 4)).take 4 = cellsN n ∧ i * 4 + 4 ≤ (rowsN l).length := by
    intro l
    induction l with
    | nil => intro i n h; simp at h
    | cons q r ih =>
      intro i n h
      cases i with
      | zero =>
        simp at h
        subst h
        rw [rowsN]
        refine ⟨?_, by rw [List.length_append, cellsN_len]; omega⟩
        rw [Nat.zero_mul, List.drop_zero, List.take_append_of_le_length (by rw [cellsN_len]; exact Nat.le_refl _), List.take_of_length_le (by rw [cellsN_len]; exact Nat.le_refl _)]
      | succ i =>
        have ih := ih i n (by simpa using h)
        rw [rowsN, show (i + 1) * 4 = (cellsN q).length + i * 4 by rw [cellsN_len]; omega, List.drop_append]
        refine ⟨?_, by rw [List.length_append]; omega⟩
        rw [List.drop_of_length_le (by omega), List.nil_append, show (cellsN q).length + i * 4 - (cellsN q).length = i * 4 by omega]
        exact ih.1
  obtain ⟨k1, k2⟩ := key l i _ h
  have h3 : Nat.ble (i * 4 + 4) (rowsN l).length = true := Nat.ble_eq_true_of_le k2
  simp only [vat, h1, h2, h3, k1, cellsN]
theorem Bd.mono {s : MkS} {k j : Nat} (h : Bd s k) (hj : k ≤ j) : Bd s j := by
  obtain ⟨h1, h2, h3, h4, h5, h6, h7, h8, h9⟩ := h
  exact ⟨by omega, by omega, by omega, by omega, by omega, by omega, by omega, by omega, fun x hx => Nat.le_trans (h9 x hx) hj⟩
theorem Bd.put {s : MkS} {k : Nat} (h : Bd s k) (op a : Nat) (t : List UInt8) (g : Int) {j : Nat} (hj : k + 1 ≤ j) (h0 : op = 0 → k + a ≤ j) (ha : a ≤ j) (hg1 : -(j : Int) ≤ g - k) (hg2 : g + k ≤ j) : Bd (putM op a t g s).2 j := by
  obtain ⟨h1, h2, h3, h4, h5, h6, h7, h8, h9⟩ := h
  have app : Bd { s with l := s.l ++ [⟨op, a, t⟩], depth := s.depth + g, most := max s.most (s.depth + g) } j := by
    refine ⟨?_, ?_, ?_, ?_, ?_, ?_, ?_, ?_, ?_⟩ <;> simp only [List.length_append, List.length_cons, List.length_nil]
    all_goals try omega
    intro x hx
    rcases List.mem_append.1 hx with hx | hx
    · have := h9 x hx
      omega
    · rw [List.mem_singleton] at hx
      subst hx
      exact ha
  unfold putM
  cases e : s.l.getLast? with
  | none => exact app
  | some y =>
    simp only
    split
    · rename_i hc
      obtain ⟨rfl, hf, hy⟩ := hc
      refine ⟨?_, ?_, ?_, ?_, ?_, ?_, ?_, ?_, ?_⟩ <;> simp only [List.length_append, List.length_cons, List.length_nil, List.length_dropLast]
      all_goals try omega
      intro x hx
      rcases List.mem_append.1 hx with hx | hx
      · have := h9 x (List.dropLast_subset _ hx)
        omega
      · rw [List.mem_singleton] at hx
        subst hx
        have := h9 y (List.mem_of_getLast? e)
        have := h0 rfl
        simp only
        omega
    · exact app
theorem posL_lt {α : Type} [DecidableEq α] {l : List α} {x : α} (h : x ∈ l) : posL l x < l.length := by
  induction l with
  | nil => cases h
  | cons y r ih =>
    rw [posL]
    split
    · simp
    · rename_i hn
      rcases List.mem_cons.1 h with h | h
      · exact absurd h hn
      · have := ih h
        simp only [List.length_cons]
        omega
theorem placeL_bd {α : Type} [DecidableEq α] (l : List α) (x : α) : (placeL l x).1 ≤ l.length ∧ (placeL l x).2.length ≤ l.length + 1 ∧ l.length ≤ (placeL l x).2.length ∧ (placeL l x).1 < (placeL l x).2.length := by
  unfold placeL
  split
  · rename_i h
    have := posL_lt h
    refine ⟨by simp only; omega, by simp only; omega, by simp only; omega, by simp only; omega⟩
  · simp
theorem Bd.name {s : MkS} {k : Nat} (h : Bd s k) (x : List UInt8) : Bd (nameM x s).2 (k + 1) ∧ (nameM x s).1 ≤ k := by
  obtain ⟨h1, h2, h3, h4, h5, h6, h7, h8, h9⟩ := h
  obtain ⟨p1, p2, p3, p4⟩ := placeL_bd s.names x
  refine ⟨⟨?_, ?_, ?_, ?_, ?_, ?_, ?_, ?_, fun y hy => Nat.le_trans (h9 y hy) (Nat.le_succ _)⟩, ?_⟩ <;> simp only [nameM] <;> omega
theorem Bd.cst {s : MkS} {k : Nat} (h : Bd s k) (x : Cst) : Bd (cstM x s).2 (k + 1) ∧ (cstM x s).1 ≤ k := by
  obtain ⟨h1, h2, h3, h4, h5, h6, h7, h8, h9⟩ := h
  obtain ⟨p1, p2, p3, p4⟩ := placeL_bd s.consts x
  refine ⟨⟨?_, ?_, ?_, ?_, ?_, ?_, ?_, ?_, fun y hy => Nat.le_trans (h9 y hy) (Nat.le_succ _)⟩, ?_⟩ <;> simp only [cstM] <;> omega
theorem marg_m {l : List VV} (h : ∀ v ∈ l, Nameless v) : ∀ v ∈ VV.ptr 1 0 :: l, MArg v := fun v hv => by
  rcases List.mem_cons.1 hv with rfl | hv
  · exact .inr ⟨_, .inr rfl⟩
  · exact .inl (h v hv)
theorem marg_p {o : Nat} {l : List VV} (h : ∀ v ∈ l, Nameless v) : ∀ v ∈ VV.ptr 0 o :: l, MArg v := fun v hv => by
  rcases List.mem_cons.1 hv with rfl | hv
  · exact .inr ⟨_, .inl rfl⟩
  · exact .inl (h v hv)
theorem nl4 {op a g : Int} {t : List UInt8} : ∀ v ∈ [iV op, iV a, strV t, iV g], Nameless v := fun v hv => by
  simp only [List.mem_cons, List.not_mem_nil, or_false] at hv
  rcases hv with rfl | rfl | rfl | rfl
  · exact nameless_sc _
  · exact nameless_sc _
  · exact nameless_strV _
  · exact nameless_sc _
theorem nl1 {v : VV} (h : Nameless v) : ∀ u ∈ [v], Nameless u := fun u hu => by rw [List.mem_singleton] at hu; subst hu; exact h
section
variable {s : MkS} {x : VV} {a b c n : Nat} {H : Heap}
theorem putAt (op i : Nat) (t : List UInt8) (g : Int) (hd : Bd s 900000) (ha : i ≤ 900000) (hg1 : -900000 ≤ g) (hg2 : g ≤ 900000) (hx : Nameless x) (g0 : H.get 0 = some (.cells true [.gs a s.names.length 1, .gs b s.consts.length 3, .mp 2, x])) (g1 : H.get 1 = some (.cells true [.ptr 0 0, .gs c s.l.length 3, iV s.fixed, iV s.depth, iV s.most])) (g3 : H.get a = some (.opt (nmR s.names))) (g4 : H.get b = some (.opt (cstR s.consts))) (g5 : H.get c = some (.opt (opsR s.l))) (hn : H.next = n) (hb : Nm3 a b c n) :
    VCall Tryz.prog 45 [.ptr 1 0, iV op, iV i, strV t, iV g] H (fun v K => v = iV (putM op i t g s).1 ∧ K = ⟨mkO n (n + 1) (n + 2) (putM op i t g s).2 x ++ restO [0, 1, a, b, c] H.objs, n + 3⟩) :=
  MkC.at hb hx (nameless_sc _) (marg_m nl4) (put_call s op i t g hd ha hg1 hg2) g0 g1 g3 g4 g5 hn
theorem placeSAt (t : List UInt8) (hd : Bd s 900000) (hx : Nameless x) (g0 : H.get 0 = some (.cells true [.gs a s.names.length 1, .gs b s.consts.length 3, .mp 2, x])) (g1 : H.get 1 = some (.cells true [.ptr 0 0, .gs c s.l.length 3, iV s.fixed, iV s.depth, iV s.most])) (g3 : H.get a = some (.opt (nmR s.names))) (g4 : H.get b = some (.opt (cstR s.consts))) (g5 : H.get c = some (.opt (opsR s.l))) (hn : H.next = n) (hb : Nm3 a b c n) :
    VCall Tryz.prog 43 [.ptr 0 0, strV t] H (fun v K => v = iV (nameM t s).1 ∧ K = ⟨mkO n (n + 1) (n + 2) (nameM t s).2 x ++ restO [0, 1, a, b, c] H.objs, n + 3⟩) :=
  MkC.at hb hx (nameless_sc _) (marg_p (nl1 (nameless_strV t))) (placeS_call s t (hd.mono (by omega))) g0 g1 g3 g4 g5 hn
theorem placeVAt (t : Cst) (hd : Bd s 900000) (hx : Nameless x) (g0 : H.get 0 = some (.cells true [.gs a s.names.length 1, .gs b s.consts.length 3, .mp 2, x])) (g1 : H.get 1 = some (.cells true [.ptr 0 0, .gs c s.l.length 3, iV s.fixed, iV s.depth, iV s.most])) (g3 : H.get a = some (.opt (nmR s.names))) (g4 : H.get b = some (.opt (cstR s.consts))) (g5 : H.get c = some (.opt (opsR s.l))) (hn : H.next = n) (hb : Nm3 a b c n) :
    VCall Tryz.prog 78 [.ptr 0 1, .ag [iV t.kind, iV t.num, strV t.text]] H (fun v K => v = iV (cstM t s).1 ∧ K = ⟨mkO n (n + 1) (n + 2) (cstM t s).2 x ++ restO [0, 1, a, b, c] H.objs, n + 3⟩) :=
  MkC.at hb hx (nameless_sc _) (marg_p (nl1 (nameless_ag (cstC_nl t)))) (placeV_call s t (hd.mono (by omega))) g0 g1 g3 g4 g5 hn
theorem hereAt (hx : Nameless x) (g0 : H.get 0 = some (.cells true [.gs a s.names.length 1, .gs b s.consts.length 3, .mp 2, x])) (g1 : H.get 1 = some (.cells true [.ptr 0 0, .gs c s.l.length 3, iV s.fixed, iV s.depth, iV s.most])) (g3 : H.get a = some (.opt (nmR s.names))) (g4 : H.get b = some (.opt (cstR s.consts))) (g5 : H.get c = some (.opt (opsR s.l))) (hn : H.next = n) (hb : Nm3 a b c n) :
    VCall Tryz.prog 115 [.ptr 1 0] H (fun v K => v = iV s.l.length ∧ K = ⟨mkO n (n + 1) (n + 2) (hereM s) x ++ restO [0, 1, a, b, c] H.objs, n + 3⟩) :=
  MkC.at hb hx (nameless_sc _) (marg_m (by simp)) (here_call s) g0 g1 g3 g4 g5 hn
theorem leadAt (i : Nat) (hi : i < s.l.length) (hd : Bd s 900000) (hx : Nameless x) (g0 : H.get 0 = some (.cells true [.gs a s.names.length 1, .gs b s.consts.length 3, .mp 2, x])) (g1 : H.get 1 = some (.cells true [.ptr 0 0, .gs c s.l.length 3, iV s.fixed, iV s.depth, iV s.most])) (g3 : H.get a = some (.opt (nmR s.names))) (g4 : H.get b = some (.opt (cstR s.consts))) (g5 : H.get c = some (.opt (opsR s.l))) (hn : H.next = n) (hb : Nm3 a b c n) :
    VCall Tryz.prog 117 [.ptr 1 0, iV i] H (fun v K => v = .tp [] ∧ K = ⟨mkO n (n + 1) (n + 2) (leadM i s) x ++ restO [0, 1, a, b, c] H.objs, n + 3⟩) :=
  MkC.at hb hx (nameless_tp (by simp)) (marg_m (nl1 (nameless_sc _))) (lead_call s i hi hd.l) g0 g1 g3 g4 g5 hn
end
mutual
theorem exprM_bd : ∀ (n : Nd) (s : MkS) (k : Nat), Bd s k → Bd (exprM n s) (k + 10 * cntN n - 1)
  | .mk op tx nm ks, s, k, h => by
    have h1 := exprL_bd ks _ _ (h.put 0 1 [] 0 (j := k + 1) (by omega) (by omega) (by omega) (by omega) (by omega))
    have hlen := len_le_cnt ks
    rw [exprM, cntN]
    generalize exprL ks (putM 0 1 [] 0 s).2 = m1 at *
    split
    · obtain ⟨h2, h3⟩ := h1.name tx
      exact h2.put _ _ _ _ (by omega) (by omega) (by omega) (by omega) (by omega)
    split
    · exact h1.put _ _ _ _ (by omega) (by omega) (by omega) (by omega) (by omega)
    split
    · exact h1.put _ _ _ _ (by omega) (by omega) (by omega) (by omega) (by omega)
    split
    · exact h1.put _ _ _ _ (by omega) (by omega) (by omega) (by omega) (by omega)
    · obtain ⟨h2, h3⟩ := h1.cst ((cstN (.mk op tx nm ks)).getD ⟨0, 0, []⟩)
      exact h2.put _ _ _ _ (by omega) (by omega) (by omega) (by omega) (by omega)
theorem exprL_bd : ∀ (l : List Nd) (s : MkS) (k : Nat), Bd s k → Bd (exprL l s) (k + 10 * cntL l - l.length)
  | [], s, k, h => by rw [exprL, cntL]; exact h.mono (by simp)
  | n :: r, s, k, h => by
    have hlen := len_le_cnt r
    have := cntN_pos n
    rw [exprL, cntL, List.length_cons]
    exact (exprL_bd r _ _ (exprM_bd n s k h)).mono (by omega)
end
theorem cntL_drop : ∀ (l : List Nd) (i : Nat), cntL (l.drop i) ≤ cntL l
  | [], i => by simp
  | x :: r, 0 => by simp
  | x :: r, i + 1 => by
    rw [List.drop_succ_cons, cntL]
    have := cntL_drop r i
    omega
theorem expr_call : ∀ (f : Nat) (n : Nd) (s : MkS) (k : Nat), cntN n ≤ f → Bd s k → k + 10 * cntN n ≤ 900000 → MkC 116 [.ptr 1 0, nV n] s (.tp []) (exprM n s)
  | 0, n, s, k, hf, _, _ => absurd (cntN_pos n) (by omega)
  | f + 1, .mk op tx nm ks, s, k, hf, hs, hk => by
    have ih := expr_call f
    refine MkC.of (nameless_tp (by simp)) fun x hx => ?_
    have hlen := len_le_cnt ks
    rw [cntN] at hf hk
    have hb1 := hs.put 0 1 [] 0 (j := k + 1) (by omega) (by omega) (by omega) (by omega) (by omega)
    have hp1 := fun H a b c n => putAt (s := s) (x := x) (H := H) (a := a) (b := b) (c := c) (n := n) 0 1 [] 0 (hs.mono (by omega)) (by omega) (by omega) (by omega) hx
    have hbL := exprL_bd ks _ _ hb1
    rw [exprM]
    generalize hm0 : (putM 0 1 [] 0 s).2 = m0 at *
    generalize hm1 : exprL ks m0 = m1 at *
    have hk0 : True := trivial
    rw [nV, cellsN]
    refine VCall.go Tryz.func116 rfl ?_
    have hk := hk0
    (repeat' (first|with_reducible refine And.intro ?_ ?_|(with_reducible intro hc;(try simp only [zz] at hc);try exact ct)|exact Is.mk rfl rfl|((conv => whnf);first|with_reducible refine And.intro ?_ ?_|with_reducible intro hx|exact Is.mk rfl rfl|(with_reducible first|apply Val.via|apply ValH.via)|refine sp ?_|refine vx (by (first|exact vat_nd rfl rfl|exact vat_rowsG hk rfl|exact vat_of rfl rfl rfl|rfl)) ?_|refine cl (hp1 _ 3 4 5 7 rfl rfl rfl rfl rfl rfl (Nm3.mk (by decide))) ?_|refine sq ?_)))
    (all_goals (first|omega|contradiction|skip))
    (refine GWP'.mk (GWP.loopB [0, 1, 7, 8, 9] (fun (a : Nat × MkS × Nat) => a.1 ≤ ks.length ∧ exprL (ks.drop a.1) a.2.1 = m1 ∧ Bd a.2.1 a.2.2 ∧ a.2.2 + 10 * cntL (ks.drop a.1) ≤ k + 1 + 10 * cntL ks) (fun a => [(13, iV a.1)]) (fun a => mkO 10 11 12 a.2.1 x) 13 (fun a => ks.length - a.1) (0, m0, k + 1) ⟨Nat.zero_le _, hm1, hb1, Nat.le_refl _⟩ ?_); (conv => whnf); refine And.intro ?_ ?_)
    · focus (refine ka [(7,10),(8,11),(9,12)] ?_ ?_;all_goals (repeat' (first|exact rz|refine And.intro ?_ ?_|refine Exists.intro _ (And.intro rfl ?_)|refine ro ?_|refine RenL.cons ?_ ?_|(first|exact RenV.mpL (Nat.le_of_ble_eq_true rfl)|exact RenV.ptrL (Nat.le_of_ble_eq_true rfl)|exact RenV.eq (scI_eq (by omega)) (nameless_sc _)|exact RenL.of (nmR_nl _)|exact RenL.of (cstR_nl _)|exact RenL.of (opsR_nl _)|exact RenV.of hx)|exact rv)))
    rintro ⟨i, st, j⟩ ⟨g1, g2, g3, g4⟩
    simp only at g1 g2 g3 g4 ⊢
    by_cases hil : i < ks.length
    · clear hk
      obtain ⟨kd, hk⟩ := list_at hil
      rw [dropN_at hk, cntL] at g4
      rw [dropN_at hk, exprL] at g2
      have ik := fun H a b c n => fun p0 p1 p3 p4 p5 p6 hd => MkC.at (x := x) (H := H) (a := a) (b := b) (c := c) (n := n) hd hx (nameless_tp (by simp)) (marg_m (nl1 (nameless_nV kd))) (ih kd st j (by have := dropN_at hk; have hq : cntL (ks.drop i) ≤ cntL ks := cntL_drop ks i; rw [this, cntL] at hq; omega) g3 (by omega)) p0 p1 p3 p4 p5 p6
      have hbk := exprM_bd kd st j g3
      have hcp := cntN_pos kd
      generalize exprM kd st = st2 at *
      obtain ⟨op2, tx2, nm2, kk2⟩ := kd
      simp only [nV, cellsN] at ik
      (repeat' (first|with_reducible refine And.intro ?_ ?_|(with_reducible intro hc;(try simp only [zz] at hc);try exact ct)|exact Is.mk rfl rfl|((conv => whnf);first|with_reducible refine And.intro ?_ ?_|with_reducible intro hx|exact Is.mk rfl rfl|(with_reducible first|apply Val.via|apply ValH.via)|refine sp ?_|refine vx (by (first|exact vat_nd rfl rfl|exact vat_rowsG hk rfl|exact vat_of rfl rfl rfl|rfl)) ?_|refine GWP.drawY mixed _ (by kernel_rfl) (by rfl) ?_|refine cl (ik _ 10 11 12 14 rfl rfl rfl rfl rfl rfl (Nm3.mk (by decide))) ?_|refine sq ?_)))
      (all_goals (first|omega|contradiction|skip))
      focus (refine Done'.mk ⟨(i + 1,st2,j + 10 * cntN (.mk op2 tx2 nm2 kk2) - 1),⟨by omega,g2,hbk,by simp only;omega⟩,?_,ka [(14,10),(15,11),(16,12)] ?_ ?_⟩;(first|omega|(simp only;omega));all_goals (repeat' (first|exact rz|refine And.intro ?_ ?_|refine Exists.intro _ (And.intro rfl ?_)|refine ro ?_|refine RenL.cons ?_ ?_|(first|exact RenV.mpL (Nat.le_of_ble_eq_true rfl)|exact RenV.ptrL (Nat.le_of_ble_eq_true rfl)|exact RenV.eq (scI_eq (by omega)) (nameless_sc _)|exact RenL.of (nmR_nl _)|exact RenL.of (cstR_nl _)|exact RenL.of (opsR_nl _)|exact RenV.of hx)|exact rv)))
    · obtain rfl : i = ks.length := by omega
      rw [List.drop_length, exprL] at g2
      subst g2
      have hst : Bd st (k + 1 + 10 * cntL ks) := g3.mono (by omega)
      by_cases h11 : op = 11
      · subst h11
        rw [if_pos rfl]
        have hbn := hst.name tx
        have hpn := fun H a b c n => placeSAt (s := st) (x := x) (H := H) (a := a) (b := b) (c := c) (n := n) tx (hst.mono (by omega)) hx
        generalize nameM tx st = q at *
        obtain ⟨i, s2⟩ := q
        simp only at hbn hpn ⊢
        obtain ⟨hb2, hi2⟩ := hbn
        have hpp := fun H a b c n => putAt (s := s2) (x := x) (H := H) (a := a) (b := b) (c := c) (n := n) 2 i [] 1 (hb2.mono (by omega)) (by omega) (by omega) (by omega) hx
        generalize (putM 2 i [] 1 s2) = q3 at *
        (repeat' (first|with_reducible refine And.intro ?_ ?_|(with_reducible intro hc;(try simp only [zz] at hc);try exact ct)|exact Is.mk rfl rfl|((conv => whnf);first|with_reducible refine And.intro ?_ ?_|with_reducible intro hx|exact Is.mk rfl rfl|(with_reducible first|apply Val.via|apply ValH.via)|refine sp ?_|refine vx (by (first|exact vat_nd rfl rfl|exact vat_rowsG hk rfl|exact vat_of rfl rfl rfl|rfl)) ?_|fail|refine sq ?_)))
        (all_goals (first|omega|contradiction|skip))
        refine GWP'.mk (GWP.drawM mixed 76 [9, 10] (fun H => [(⟨mkO H.next (H.next + 1) (H.next + 2) (s2) x ++ restO [0, 1, 10, 11, 12] H.objs, H.next + 3⟩ : Heap), ⟨mkO 16 17 18 q3.2 x ++ restO [0, 1, 13, 14, 15] ((⟨mkO H.next (H.next + 1) (H.next + 2) (s2) x ++ restO [0, 1, 10, 11, 12] H.objs, H.next + 3⟩ : Heap)).objs, 19⟩]) (by kernel_rfl) (by rfl) ?_)
        repeat' (first|with_reducible refine And.intro ?_ ?_|(with_reducible intro hc;(try simp only [zz] at hc);try exact ct)|exact Is.mk rfl rfl|exact trivial|((conv => whnf);first|with_reducible refine And.intro ?_ ?_|with_reducible intro hx|exact Is.mk rfl rfl|exact trivial|(with_reducible first|apply Val.via|apply ValH.via)|fail|refine sp ?_|refine vx (by (first|exact vat_nd rfl rfl|exact vat_rowsG hk rfl|exact vat_of rfl rfl rfl|rfl)) ?_|(first|refine cl (hpn _ 10 11 12 13 rfl rfl rfl rfl rfl rfl (Nm3.mk (by decide))) ?_|refine cl (hpp _ 13 14 15 16 rfl rfl rfl rfl rfl rfl (Nm3.mk (by decide))) ?_)|refine sq ?_))
        (all_goals (first|omega|contradiction|skip))
        exact Done'.mk ⟨rfl,16,17,18,rfl,(by repeat' (first|exact trivial|refine And.intro rfl ?_))⟩
      by_cases h13 : op = 13
      · subst h13
        rw [if_neg (by decide), if_pos rfl]
        have hpp := fun H a b c n => putAt (s := st) (x := x) (H := H) (a := a) (b := b) (c := c) (n := n) 5 0 tx (-1) (hst.mono (by omega)) (by omega) (by omega) (by omega) hx
        generalize (putM 5 0 tx (-1) st) = q3 at *
        (repeat' (first|with_reducible refine And.intro ?_ ?_|(with_reducible intro hc;(try simp only [zz] at hc);try exact ct)|exact Is.mk rfl rfl|((conv => whnf);first|with_reducible refine And.intro ?_ ?_|with_reducible intro hx|exact Is.mk rfl rfl|(with_reducible first|apply Val.via|apply ValH.via)|refine sp ?_|refine vx (by (first|exact vat_nd rfl rfl|exact vat_rowsG hk rfl|exact vat_of rfl rfl rfl|rfl)) ?_|refine GWP.drawY mixed _ (by kernel_rfl) (by rfl) ?_|refine cl (hpp _ 10 11 12 13 rfl rfl rfl rfl rfl rfl (Nm3.mk (by decide))) ?_|refine sq ?_)))
        (all_goals (first|omega|contradiction|skip))
        all_goals exact Done'.mk ⟨rfl,13,14,15,rfl,(by repeat' (first|exact trivial|refine And.intro rfl ?_))⟩
      by_cases h14 : op = 14
      · subst h14
        rw [if_neg (by decide), if_neg (by decide), if_pos rfl]
        have hpp := fun H a b c n => putAt (s := st) (x := x) (H := H) (a := a) (b := b) (c := c) (n := n) 6 0 tx 0 (hst.mono (by omega)) (by omega) (by omega) (by omega) hx
        generalize (putM 6 0 tx 0 st) = q3 at *
        (repeat' (first|with_reducible refine And.intro ?_ ?_|(with_reducible intro hc;(try simp only [zz] at hc);try exact ct)|exact Is.mk rfl rfl|((conv => whnf);first|with_reducible refine And.intro ?_ ?_|with_reducible intro hx|exact Is.mk rfl rfl|(with_reducible first|apply Val.via|apply ValH.via)|refine sp ?_|refine vx (by (first|exact vat_nd rfl rfl|exact vat_rowsG hk rfl|exact vat_of rfl rfl rfl|rfl)) ?_|refine GWP.drawY mixed _ (by kernel_rfl) (by rfl) ?_|refine cl (hpp _ 10 11 12 13 rfl rfl rfl rfl rfl rfl (Nm3.mk (by decide))) ?_|refine sq ?_)))
        (all_goals (first|omega|contradiction|skip))
        all_goals exact Done'.mk ⟨rfl,13,14,15,rfl,(by repeat' (first|exact trivial|refine And.intro rfl ?_))⟩
      by_cases h12 : op = 12
      · subst h12
        rw [if_neg (by decide), if_neg (by decide), if_neg (by decide), if_pos rfl]
        have hpp := fun H a b c n => putAt (s := st) (x := x) (H := H) (a := a) (b := b) (c := c) (n := n) 7 ks.length tx (1 - ks.length) (hst.mono (by omega)) (by omega) (by omega) (by omega) hx
        generalize (putM 7 ks.length tx (1 - ks.length) st) = q3 at *
        (repeat' (first|with_reducible refine And.intro ?_ ?_|(with_reducible intro hc;(try simp only [zz] at hc);try exact ct)|exact Is.mk rfl rfl|((conv => whnf);first|with_reducible refine And.intro ?_ ?_|with_reducible intro hx|exact Is.mk rfl rfl|(with_reducible first|apply Val.via|apply ValH.via)|refine sp ?_|refine vx (by (first|exact vat_nd rfl rfl|exact vat_rowsG hk rfl|exact vat_of rfl rfl rfl|rfl)) ?_|refine GWP.drawY mixed _ (by kernel_rfl) (by rfl) ?_|refine cl (hpp _ 10 11 12 13 rfl rfl rfl rfl rfl rfl (Nm3.mk (by decide))) ?_|refine sq ?_)))
        (all_goals (first|omega|contradiction|skip))
        all_goals exact Done'.mk ⟨rfl,13,14,15,rfl,(by repeat' (first|exact trivial|refine And.intro rfl ?_))⟩
      rw [if_neg h11, if_neg h13, if_neg h14, if_neg h12]
      have hcc := fun H => constant_call (.mk op tx nm ks) H
      rw [nV, cellsN] at hcc
      generalize (cstN (.mk op tx nm ks)).getD ⟨0, 0, []⟩ = v at *
      generalize (cstN (.mk op tx nm ks)).isSome = bs at *
      simp only [cstC] at hcc
      have hbn := hst.cst v
      have hpn := fun H a b c n => placeVAt (s := st) (x := x) (H := H) (a := a) (b := b) (c := c) (n := n) v (hst.mono (by omega)) hx
      generalize cstM v st = q at *
      obtain ⟨i, s2⟩ := q
      simp only at hbn hpn ⊢
      obtain ⟨hb2, hi2⟩ := hbn
      have hpp := fun H a b c n => putAt (s := s2) (x := x) (H := H) (a := a) (b := b) (c := c) (n := n) 1 i [] 1 (hb2.mono (by omega)) (by omega) (by omega) (by omega) hx
      generalize (putM 1 i [] 1 s2) = q3 at *
      (repeat' (first|with_reducible refine And.intro ?_ ?_|(with_reducible intro hc;(try simp only [zz] at hc);try exact ct)|exact Is.mk rfl rfl|((conv => whnf);first|with_reducible refine And.intro ?_ ?_|with_reducible intro hx|exact Is.mk rfl rfl|(with_reducible first|apply Val.via|apply ValH.via)|refine sp ?_|refine vx (by (first|exact vat_nd rfl rfl|exact vat_rowsG hk rfl|exact vat_of rfl rfl rfl|rfl)) ?_|refine cl (hcc _) ?_|refine sq ?_)))
      (all_goals (first|omega|contradiction|skip))
      refine GWP'.mk (GWP.drawM mixed 76 [8, 9] (fun H => [(⟨mkO H.next (H.next + 1) (H.next + 2) (s2) x ++ restO [0, 1, 10, 11, 12] H.objs, H.next + 3⟩ : Heap), ⟨mkO 17 18 19 q3.2 x ++ restO [0, 1, 14, 15, 16] ((⟨mkO H.next (H.next + 1) (H.next + 2) (s2) x ++ restO [0, 1, 10, 11, 12] H.objs, H.next + 3⟩ : Heap)).objs, 20⟩]) (by kernel_rfl) (by rfl) ?_)
      repeat' (first|with_reducible refine And.intro ?_ ?_|(with_reducible intro hc;(try simp only [zz] at hc);try exact ct)|exact Is.mk rfl rfl|exact trivial|((conv => whnf);first|with_reducible refine And.intro ?_ ?_|with_reducible intro hx|exact Is.mk rfl rfl|exact trivial|(with_reducible first|apply Val.via|apply ValH.via)|fail|refine sp ?_|refine vx (by (first|exact vat_nd rfl rfl|exact vat_rowsG hk rfl|exact vat_of rfl rfl rfl|rfl)) ?_|(first|refine cl (hpn _ 10 11 12 14 rfl rfl rfl rfl rfl rfl (Nm3.mk (by decide))) ?_|refine cl (hpp _ 14 15 16 17 rfl rfl rfl rfl rfl rfl (Nm3.mk (by decide))) ?_)|refine sq ?_))
      (all_goals (first|omega|contradiction|skip))
      exact Done'.mk ⟨rfl,17,18,19,rfl,(by repeat' (first|exact trivial|refine And.intro rfl ?_))⟩
end Go.Proofs.YtpbiblhkcomekaaGreat

