import Derived.Test.YtpbiblhkcomekaaGreatCG2
import Derived.Test.YtpbiblhkcomekaaGreatCE5
/- LexBlanks: a script's signs in plain words (begun). -/
namespace Go.Proofs.YtpbiblhkcomekaaGreat
open Go Go.RowKit
set_option linter.unusedSimpArgs false
set_option linter.unusedVariables false
def letB (c : UInt8) : Bool := c.toNat == 95 || (decide (97 ≤ c.toNat) && decide (c.toNat ≤ 122)) || (decide (65 ≤ c.toNat) && decide (c.toNat ≤ 90))
def digB (c : UInt8) : Bool := decide (48 ≤ c.toNat) && decide (c.toNat ≤ 57)
def blkB (c : UInt8) : Bool := c.toNat == 32 || c.toNat == 9 || c.toNat == 13 || c.toNat == 10
/-- How many of the first bytes are such ones. -/
def runB (p : UInt8 → Bool) : List UInt8 → Nat
  | [] => 0
  | c :: r => if p c then runB p r + 1 else 0
/-- The bytes of a text, behind its first quotation mark: what it says, and how many bytes were read; or (2 or 3, where): refused. -/
def lexT : List UInt8 → List UInt8 → Nat → Sum (Nat × Nat) (List UInt8 × Nat)
  | [], _, n => .inl (2, n)
  | c :: r, acc, n =>
    if c.toNat = 34 then (if 4096 < acc.length then .inl (3, n) else .inr (acc, n + 1))
    else if c.toNat = 10 then .inl (2, n)
    else if c.toNat = 92 then (match r with
      | [] => .inl (2, n + 1)
      | x :: r' => if x.toNat = 110 then lexT r' (acc ++ [10]) (n + 2) else if x.toNat = 34 then lexT r' (acc ++ [34]) (n + 2) else if x.toNat = 92 then lexT r' (acc ++ [92]) (n + 2) else .inl (2, n + 1))
    else lexT r (acc ++ [c]) (n + 1)
/-- A text that was quoted is read back, whatever stands behind it. -/
theorem lexT_quote : ∀ (t r acc : List UInt8) (n : Nat), acc.length + t.length ≤ 4096 → lexT (escL t ++ 34 :: r) acc n = .inr (acc ++ t, n + (escL t).length + 1)
  | [], r, acc, n, h => by
    have k : (34 : UInt8).toNat = 34 := rfl
    simp only [escL, List.nil_append]
    rw [lexT.eq_def]
    dsimp only
    rw [if_pos k, if_neg (by simp at h; omega)]
    simp
  | c :: t, r, acc, n, h => by
    have hl : (acc ++ [c]).length + t.length ≤ 4096 := by simp only [List.length_append, List.length_cons, List.length_nil] at h ⊢; omega
    have e : acc ++ c :: t = (acc ++ [c]) ++ t := by simp
    have k92 : (92 : UInt8).toNat = 92 := rfl
    have k110 : (110 : UInt8).toNat = 110 := rfl
    have k34 : (34 : UInt8).toNat = 34 := rfl
    simp only [escL, List.append_assoc]
    unfold escB
    by_cases h10 : c.toNat = 10
    · obtain rfl : c = 10 := UInt8.toNat_inj.1 h10
      have ih := lexT_quote t r (acc ++ [10]) (n + 2) hl
      rw [if_pos h10, e]
      simp only [List.cons_append, List.nil_append]
      rw [lexT.eq_def]
      dsimp only
      rw [if_neg (by decide), if_neg (by decide), if_pos k92]
      rw [if_pos k110, ih]
      simp only [List.length_cons, List.length_nil, List.length_append]
      congr 2
      omega
    · by_cases h34 : c.toNat = 34
      · obtain rfl : c = 34 := UInt8.toNat_inj.1 h34
        have ih := lexT_quote t r (acc ++ [34]) (n + 2) hl
        rw [if_neg h10, if_pos h34, e]
        simp only [List.cons_append, List.nil_append]
        rw [lexT.eq_def]
        dsimp only
        rw [if_neg (by decide), if_neg (by decide), if_pos k92]
        rw [if_neg (by decide), if_pos k34, ih]
        simp only [List.length_cons, List.length_nil, List.length_append]
        congr 2
        omega
      · by_cases h92 : c.toNat = 92
        · obtain rfl : c = 92 := UInt8.toNat_inj.1 h92
          have ih := lexT_quote t r (acc ++ [92]) (n + 2) hl
          rw [if_neg h10, if_neg h34, if_pos h92, e]
          simp only [List.cons_append, List.nil_append]
          rw [lexT.eq_def]
          dsimp only
          rw [if_neg (by decide), if_neg (by decide), if_pos k92]
          rw [if_neg (by decide), if_neg (by decide), if_pos k92, ih]
          simp only [List.length_cons, List.length_nil, List.length_append]
          congr 2
          omega
        · have ih := lexT_quote t r (acc ++ [c]) (n + 1) hl
          rw [if_neg h10, if_neg h34, if_neg h92, e]
          simp only [List.cons_append, List.nil_append]
          rw [lexT.eq_def]
          dsimp only
          rw [if_neg h34, if_neg h10, if_neg h92, ih]
          simp only [List.length_cons, List.length_nil, List.length_append]
          congr 2
          omega
end Go.Proofs.YtpbiblhkcomekaaGreat

/- lex.text at any text. -/
namespace Go.Proofs.YtpbiblhkcomekaaGreat
open Go Go.RowKit
set_option linter.unusedSimpArgs false
set_option linter.unusedVariables false
set_option maxRecDepth 100000
set_option maxHeartbeats 8000000
/-- Where a byte stands among n, quotation mark, backslash. -/
def escI (c : UInt8) : Int := if c.toNat = 110 then 0 else if c.toNat = 34 then 1 else if c.toNat = 92 then 2 else -1
theorem lidx_run : (List.range 256).all (fun k => isV (vcallW Tryz.prog (vcode Tryz.prog 60) 95 [strV [110, 34, 92], .sc (.int .u8 (k : Int))] ⟨[], 0⟩) (.sc (.int .i64 (escI (UInt8.ofNat k))))) = true := by kernel_rfl
theorem lidx_call (c : UInt8) (H : Heap) : VCall Tryz.prog 95 [strV [110, 34, 92], bV c] H (fun x K => x = iV (escI c) ∧ K = H) := by
  have h := List.all_eq_true.1 lidx_run c.toNat (List.mem_range.2 c.toNat_lt)
  rw [UInt8.ofNat_toNat] at h
  exact VCall.closedA mixed 60 (by simp [nameless_strV, nameless_bV]) h
def txR (r : Sum (Nat × Nat) (List UInt8 × Nat)) : VV := match r with
  | .inl (e, n) => .tp [.ag [iV 0, strV [], iV 0, iV 0], iV n, iV e]
  | .inr (l, n) => .tp [.ag (txV l 0), iV n, iV 0]
theorem drop_at {t : List UInt8} {n : Nat} {c : UInt8} (h : t[n]? = some c) : t.drop n = c :: t.drop (n + 1) := by
  obtain ⟨hi, e⟩ := List.getElem?_eq_some_iff.1 h
  rw [List.drop_eq_getElem_cons hi, e]
theorem textA_call (t : List UInt8) (h1 : 1 ≤ t.length) (ht : t.length ≤ 100000) (H : Heap) : VCall Tryz.prog 102 [roB t] H (fun v K => v = txR (lexT (t.drop 1) [] 1) ∧ K = H) := by
  generalize hR : lexT (t.drop 1) [] 1 = R
  have hnr : Nameless (txR R) := by
    cases R with
    | inl e => exact nameless_tp (by simp [iV, nameless_sc]; exact nameless_ag (by simp [iV, nameless_strV, nameless_sc]))
    | inr e => exact nameless_tp (by simp [iV, nameless_sc]; exact nameless_ag (by simp [txV, iV, nameless_strV, nameless_sc]))
  refine VCall.pure (by simp [nameless_roB]) hnr ?_
  obtain ⟨tb, hi1, hi2, hi3⟩ : ∃ i, (Tryz.prog).info? 216 = some i ∧ i.zero = some (.agg #[.pointer none, .slice none 0 0]) ∧ (Value.agg #[.pointer none, .slice none 0 0]).cells = ([.pointer none, .slice none 0 0] : List Value).toArray := ⟨_, rfl, rfl, rfl⟩
  refine VCall.go Tryz.func102 rfl ?_
  repeat' (first|with_reducible refine And.intro ?_ ?_|(with_reducible intro hc;(try simp only [zz] at hc);try exact ct)|exact Is.mk rfl rfl|((conv => whnf);first|with_reducible refine And.intro ?_ ?_|with_reducible intro hx|exact Is.mk rfl rfl|(with_reducible first|apply Val.via|apply ValH.via)|(refine stopO (GOp'.allocR (t := 216) (vs := [.pointer none,.slice none 0 0]) rfl hi1 hi2 hi3 ?_))|refine sp ?_|refine vx (by (first|exact vat_of vagg_u8 (map_at q0) (mul1 rfl rfl)|exact vat_of vagg_u8 (map_at q1) (mul1 rfl rfl)|exact vat_of rfl rfl rfl|rfl)) ?_|refine GWP.drawY mixed _ (by kernel_rfl) (by rfl) ?_|fail|refine sq ?_))
  (all_goals (first|omega|contradiction|skip))
  (refine GWP'.mk (GWP.loopB [1] (fun (b : Nat × Bool × List UInt8) => b.1 ≤ t.length ∧ lexT (t.drop b.1) b.2.2 b.1 = R ∧ b.2.2.length ≤ b.1 ∧ (b.2.1 = false → b.2.2 = [])) (fun b => [(6, iV b.1)]) (fun b => [(1, sbV b.2.1 1 2 b.2.2), (2, bufX 5 b.2.2)]) 3 (fun b => t.length - b.1) (1, false, []) ⟨h1, hR, Nat.zero_le _, fun _ => rfl⟩ ?_); (conv => whnf); refine And.intro ?_ ?_)
  · focus (refine ka [] ?_ ?_;all_goals (repeat' (first|exact rz|refine And.intro ?_ ?_|refine Exists.intro _ (And.intro rfl ?_)|refine ro ?_|refine RenL.cons ?_ ?_|(first|exact sbV_ren (.ptrL (by first|exact (by decide : 1 < 2)|exact (by decide : 1 < 3)|exact (by decide : 1 < 4)|exact (by decide : 1 < 5))) (List.Mem.head _)|exact RenO.raw|exact buf_ren _|exact RenV.ptrL (by first|exact (by decide : 1 < 2)|exact (by decide : 1 < 3)|exact (by decide : 1 < 4)|exact (by decide : 1 < 5))|exact bufV_ren (List.Mem.head _)|exact RenV.eq (scI_eq (by omega)) (nameless_sc _))|exact rv)))
  rintro ⟨n, u, dn⟩ ⟨g1, g3, g4, g2⟩
  simp only at g1 g2 g3 g4 ⊢
  by_cases hil : n < t.length
  · obtain ⟨c, q0⟩ : ∃ c, t[n]? = some c := ⟨_, List.getElem?_eq_getElem hil⟩
    rw [drop_at q0, lexT.eq_def] at g3
    dsimp only at g3
    have hcl : c.toNat < 256 := c.toNat_lt
    by_cases h34 : c.toNat = 34
    · rw [if_pos h34] at g3
      by_cases hl : 4096 < dn.length
      · rw [if_pos hl] at g3
        subst g3
        (repeat' (first|with_reducible refine And.intro ?_ ?_|(with_reducible intro hc;(try simp only [zz] at hc);try exact ct)|exact Is.mk rfl rfl|((conv => whnf);first|with_reducible refine And.intro ?_ ?_|with_reducible intro hx|exact Is.mk rfl rfl|(with_reducible first|apply Val.via|apply ValH.via)|refine sp ?_|refine vx (by (first|exact vat_of vagg_u8 (map_at q0) (mul1 rfl rfl)|exact vat_of vagg_u8 (map_at q1) (mul1 rfl rfl)|exact vat_of rfl rfl rfl|rfl)) ?_|refine GWP.drawY mixed _ (by kernel_rfl) (by rfl) ?_|(first|refine cl (blenAt g2 rfl) ?_|refine cl (VCall.sbEnd (bstr_call u dn g2 (by omega)) rfl rfl rfl) ?_)|refine sq ?_)))
        (all_goals (first|omega|contradiction|skip))
        all_goals exact Done'.mk rfl
      · rw [if_neg hl] at g3
        subst g3
        (repeat' (first|with_reducible refine And.intro ?_ ?_|(with_reducible intro hc;(try simp only [zz] at hc);try exact ct)|exact Is.mk rfl rfl|((conv => whnf);first|with_reducible refine And.intro ?_ ?_|with_reducible intro hx|exact Is.mk rfl rfl|(with_reducible first|apply Val.via|apply ValH.via)|refine sp ?_|refine vx (by (first|exact vat_of vagg_u8 (map_at q0) (mul1 rfl rfl)|exact vat_of vagg_u8 (map_at q1) (mul1 rfl rfl)|exact vat_of rfl rfl rfl|rfl)) ?_|refine GWP.drawY mixed _ (by kernel_rfl) (by rfl) ?_|(first|refine cl (blenAt g2 rfl) ?_|refine cl (VCall.sbEnd (bstr_call u dn g2 (by omega)) rfl rfl rfl) ?_)|refine sq ?_)))
        (all_goals (first|omega|contradiction|skip))
        all_goals exact Done'.mk rfl
    · rw [if_neg h34] at g3
      by_cases h10 : c.toNat = 10
      · rw [if_pos h10] at g3
        subst g3
        (repeat' (first|with_reducible refine And.intro ?_ ?_|(with_reducible intro hc;(try simp only [zz] at hc);try exact ct)|exact Is.mk rfl rfl|((conv => whnf);first|with_reducible refine And.intro ?_ ?_|with_reducible intro hx|exact Is.mk rfl rfl|(with_reducible first|apply Val.via|apply ValH.via)|refine sp ?_|refine vx (by (first|exact vat_of vagg_u8 (map_at q0) (mul1 rfl rfl)|exact vat_of vagg_u8 (map_at q1) (mul1 rfl rfl)|exact vat_of rfl rfl rfl|rfl)) ?_|refine GWP.drawY mixed _ (by kernel_rfl) (by rfl) ?_|fail|refine sq ?_)))
        (all_goals (first|omega|contradiction|skip))
        all_goals exact Done'.mk rfl
      · rw [if_neg h10] at g3
        by_cases h92 : c.toNat = 92
        · rw [if_pos h92] at g3
          by_cases hn1 : n + 1 = t.length
          · rw [List.drop_of_length_le (by omega)] at g3
            dsimp only at g3
            subst g3
            (repeat' (first|with_reducible refine And.intro ?_ ?_|(with_reducible intro hc;(try simp only [zz] at hc);try exact ct)|exact Is.mk rfl rfl|((conv => whnf);first|with_reducible refine And.intro ?_ ?_|with_reducible intro hx|exact Is.mk rfl rfl|(with_reducible first|apply Val.via|apply ValH.via)|refine sp ?_|refine vx (by (first|exact vat_of vagg_u8 (map_at q0) (mul1 rfl rfl)|exact vat_of vagg_u8 (map_at q1) (mul1 rfl rfl)|exact vat_of rfl rfl rfl|rfl)) ?_|refine GWP.drawY mixed _ (by kernel_rfl) (by rfl) ?_|fail|refine sq ?_)))
            (all_goals (first|omega|contradiction|skip))
            all_goals exact Done'.mk rfl
          · obtain ⟨x, q1⟩ : ∃ x, t[n + 1]? = some x := ⟨_, List.getElem?_eq_getElem (by omega)⟩
            rw [drop_at q1] at g3
            dsimp only at g3
            have hlx := fun H => lidx_call x H
            by_cases hx110 : x.toNat = 110
            · have e : escI x = 0 := by unfold escI; rw [if_pos hx110]
              rw [if_pos hx110] at g3
              rw [e] at hlx
              (repeat' (first|with_reducible refine And.intro ?_ ?_|(with_reducible intro hc;(try simp only [zz] at hc);try exact ct)|exact Is.mk rfl rfl|((conv => whnf);first|with_reducible refine And.intro ?_ ?_|with_reducible intro hx|exact Is.mk rfl rfl|(with_reducible first|apply Val.via|apply ValH.via)|refine sp ?_|refine vx (by (first|exact vat_of vagg_u8 (map_at q0) (mul1 rfl rfl)|exact vat_of vagg_u8 (map_at q1) (mul1 rfl rfl)|exact vat_of rfl rfl rfl|rfl)) ?_|refine GWP.drawY mixed _ (by kernel_rfl) (by rfl) ?_|(first|refine cl (hlx _) ?_|refine cl (wbAt (c := 10) g2 (by simp only [List.length_cons,List.length_nil];omega) rfl rfl rfl) ?_)|refine sq ?_)))
              (all_goals (first|omega|contradiction|skip))
              (focus (refine Done'.mk ⟨(n + 1 + 1,true,dn ++ [10]),⟨by simp only;omega,by simp only;exact g3,by simp only [List.length_append,List.length_cons,List.length_nil];omega,by simp⟩,?_,ka [(3,2)] ?_ ?_⟩;(first|omega|(simp only;omega));all_goals (repeat' (first|exact rz|refine And.intro ?_ ?_|refine Exists.intro _ (And.intro rfl ?_)|refine ro ?_|refine RenL.cons ?_ ?_|(first|exact sbV_ren (.ptrL (by first|exact (by decide : 1 < 2)|exact (by decide : 1 < 3)|exact (by decide : 1 < 4)|exact (by decide : 1 < 5))) (List.Mem.head _)|exact RenO.raw|exact buf_ren _|exact RenV.ptrL (by first|exact (by decide : 1 < 2)|exact (by decide : 1 < 3)|exact (by decide : 1 < 4)|exact (by decide : 1 < 5))|exact bufV_ren (List.Mem.head _)|exact RenV.eq (scI_eq (by omega)) (nameless_sc _))|exact rv))))
            · by_cases hx34 : x.toNat = 34
              · have e : escI x = 1 := by unfold escI; rw [if_neg hx110, if_pos hx34]
                rw [if_neg hx110, if_pos hx34] at g3
                rw [e] at hlx
                (repeat' (first|with_reducible refine And.intro ?_ ?_|(with_reducible intro hc;(try simp only [zz] at hc);try exact ct)|exact Is.mk rfl rfl|((conv => whnf);first|with_reducible refine And.intro ?_ ?_|with_reducible intro hx|exact Is.mk rfl rfl|(with_reducible first|apply Val.via|apply ValH.via)|refine sp ?_|refine vx (by (first|exact vat_of vagg_u8 (map_at q0) (mul1 rfl rfl)|exact vat_of vagg_u8 (map_at q1) (mul1 rfl rfl)|exact vat_of rfl rfl rfl|rfl)) ?_|refine GWP.drawY mixed _ (by kernel_rfl) (by rfl) ?_|(first|refine cl (hlx _) ?_|refine cl (wbAt (c := 34) g2 (by simp only [List.length_cons,List.length_nil];omega) rfl rfl rfl) ?_)|refine sq ?_)))
                (all_goals (first|omega|contradiction|skip))
                (focus (refine Done'.mk ⟨(n + 1 + 1,true,dn ++ [34]),⟨by simp only;omega,by simp only;exact g3,by simp only [List.length_append,List.length_cons,List.length_nil];omega,by simp⟩,?_,ka [(3,2)] ?_ ?_⟩;(first|omega|(simp only;omega));all_goals (repeat' (first|exact rz|refine And.intro ?_ ?_|refine Exists.intro _ (And.intro rfl ?_)|refine ro ?_|refine RenL.cons ?_ ?_|(first|exact sbV_ren (.ptrL (by first|exact (by decide : 1 < 2)|exact (by decide : 1 < 3)|exact (by decide : 1 < 4)|exact (by decide : 1 < 5))) (List.Mem.head _)|exact RenO.raw|exact buf_ren _|exact RenV.ptrL (by first|exact (by decide : 1 < 2)|exact (by decide : 1 < 3)|exact (by decide : 1 < 4)|exact (by decide : 1 < 5))|exact bufV_ren (List.Mem.head _)|exact RenV.eq (scI_eq (by omega)) (nameless_sc _))|exact rv))))
              · by_cases hx92 : x.toNat = 92
                · have e : escI x = 2 := by unfold escI; rw [if_neg hx110, if_neg hx34, if_pos hx92]
                  rw [if_neg hx110, if_neg hx34, if_pos hx92] at g3
                  rw [e] at hlx
                  (repeat' (first|with_reducible refine And.intro ?_ ?_|(with_reducible intro hc;(try simp only [zz] at hc);try exact ct)|exact Is.mk rfl rfl|((conv => whnf);first|with_reducible refine And.intro ?_ ?_|with_reducible intro hx|exact Is.mk rfl rfl|(with_reducible first|apply Val.via|apply ValH.via)|refine sp ?_|refine vx (by (first|exact vat_of vagg_u8 (map_at q0) (mul1 rfl rfl)|exact vat_of vagg_u8 (map_at q1) (mul1 rfl rfl)|exact vat_of rfl rfl rfl|rfl)) ?_|refine GWP.drawY mixed _ (by kernel_rfl) (by rfl) ?_|(first|refine cl (hlx _) ?_|refine cl (wbAt (c := 92) g2 (by simp only [List.length_cons,List.length_nil];omega) rfl rfl rfl) ?_)|refine sq ?_)))
                  (all_goals (first|omega|contradiction|skip))
                  (focus (refine Done'.mk ⟨(n + 1 + 1,true,dn ++ [92]),⟨by simp only;omega,by simp only;exact g3,by simp only [List.length_append,List.length_cons,List.length_nil];omega,by simp⟩,?_,ka [(3,2)] ?_ ?_⟩;(first|omega|(simp only;omega));all_goals (repeat' (first|exact rz|refine And.intro ?_ ?_|refine Exists.intro _ (And.intro rfl ?_)|refine ro ?_|refine RenL.cons ?_ ?_|(first|exact sbV_ren (.ptrL (by first|exact (by decide : 1 < 2)|exact (by decide : 1 < 3)|exact (by decide : 1 < 4)|exact (by decide : 1 < 5))) (List.Mem.head _)|exact RenO.raw|exact buf_ren _|exact RenV.ptrL (by first|exact (by decide : 1 < 2)|exact (by decide : 1 < 3)|exact (by decide : 1 < 4)|exact (by decide : 1 < 5))|exact bufV_ren (List.Mem.head _)|exact RenV.eq (scI_eq (by omega)) (nameless_sc _))|exact rv))))
                · have e : escI x = -1 := by unfold escI; rw [if_neg hx110, if_neg hx34, if_neg hx92]
                  rw [if_neg hx110, if_neg hx34, if_neg hx92] at g3
                  subst g3
                  rw [e] at hlx
                  (repeat' (first|with_reducible refine And.intro ?_ ?_|(with_reducible intro hc;(try simp only [zz] at hc);try exact ct)|exact Is.mk rfl rfl|((conv => whnf);first|with_reducible refine And.intro ?_ ?_|with_reducible intro hx|exact Is.mk rfl rfl|(with_reducible first|apply Val.via|apply ValH.via)|refine sp ?_|refine vx (by (first|exact vat_of vagg_u8 (map_at q0) (mul1 rfl rfl)|exact vat_of vagg_u8 (map_at q1) (mul1 rfl rfl)|exact vat_of rfl rfl rfl|rfl)) ?_|refine GWP.drawY mixed _ (by kernel_rfl) (by rfl) ?_|refine cl (hlx _) ?_|refine sq ?_)))
                  (all_goals (first|omega|contradiction|skip))
                  all_goals exact Done'.mk rfl
        · rw [if_neg h92] at g3
          (repeat' (first|with_reducible refine And.intro ?_ ?_|(with_reducible intro hc;(try simp only [zz] at hc);try exact ct)|exact Is.mk rfl rfl|((conv => whnf);first|with_reducible refine And.intro ?_ ?_|with_reducible intro hx|exact Is.mk rfl rfl|(with_reducible first|apply Val.via|apply ValH.via)|refine sp ?_|refine vx (by (first|exact vat_of vagg_u8 (map_at q0) (mul1 rfl rfl)|exact vat_of vagg_u8 (map_at q1) (mul1 rfl rfl)|exact vat_of rfl rfl rfl|rfl)) ?_|refine GWP.drawY mixed _ (by kernel_rfl) (by rfl) ?_|(first|refine cl (wbAt (c := c) g2 (by simp only [List.length_cons,List.length_nil];omega) rfl rfl rfl) ?_)|refine sq ?_)))
          (all_goals (first|omega|contradiction|skip))
          (focus (refine Done'.mk ⟨(n + 1,true,dn ++ [c]),⟨by simp only;omega,by simp only;exact g3,by simp only [List.length_append,List.length_cons,List.length_nil];omega,by simp⟩,?_,ka [(3,2)] ?_ ?_⟩;(first|omega|(simp only;omega));all_goals (repeat' (first|exact rz|refine And.intro ?_ ?_|refine Exists.intro _ (And.intro rfl ?_)|refine ro ?_|refine RenL.cons ?_ ?_|(first|exact sbV_ren (.ptrL (by first|exact (by decide : 1 < 2)|exact (by decide : 1 < 3)|exact (by decide : 1 < 4)|exact (by decide : 1 < 5))) (List.Mem.head _)|exact RenO.raw|exact buf_ren _|exact RenV.ptrL (by first|exact (by decide : 1 < 2)|exact (by decide : 1 < 3)|exact (by decide : 1 < 4)|exact (by decide : 1 < 5))|exact bufV_ren (List.Mem.head _)|exact RenV.eq (scI_eq (by omega)) (nameless_sc _))|exact rv))))
  · obtain rfl : n = t.length := by omega
    rw [List.drop_length, lexT.eq_def] at g3
    dsimp only at g3
    subst g3
    (repeat' (first|with_reducible refine And.intro ?_ ?_|(with_reducible intro hc;(try simp only [zz] at hc);try exact ct)|exact Is.mk rfl rfl|((conv => whnf);first|with_reducible refine And.intro ?_ ?_|with_reducible intro hx|exact Is.mk rfl rfl|(with_reducible first|apply Val.via|apply ValH.via)|refine sp ?_|refine vx (by (first|exact vat_of vagg_u8 (map_at q0) (mul1 rfl rfl)|exact vat_of vagg_u8 (map_at q1) (mul1 rfl rfl)|exact vat_of rfl rfl rfl|rfl)) ?_|refine GWP.drawY mixed _ (by kernel_rfl) (by rfl) ?_|fail|refine sq ?_)))
    (all_goals (first|omega|contradiction|skip))
    all_goals exact Done'.mk rfl
end Go.Proofs.YtpbiblhkcomekaaGreat

/- LexBlanks: letters, digits, blanks, for every byte. -/
namespace Go.Proofs.YtpbiblhkcomekaaGreat
open Go Go.RowKit
set_option linter.unusedSimpArgs false
set_option linter.unusedVariables false
set_option maxRecDepth 100000
set_option maxHeartbeats 4000000
theorem letter_call (b : UInt8) (H : Heap) : VCall Tryz.prog 98 [bV b] H (fun x K => x = booV (letB b) ∧ K = H) := VCall.bytes mixed 60 letB (by kernel_rfl) b H
theorem digit_call (b : UInt8) (H : Heap) : VCall Tryz.prog 100 [bV b] H (fun x K => x = booV (digB b) ∧ K = H) := VCall.bytes mixed 60 digB (by kernel_rfl) b H
/-- Where a byte stands among the blanks. -/
def blkI (c : UInt8) : Int := if c.toNat = 32 then 0 else if c.toNat = 9 then 1 else if c.toNat = 13 then 2 else if c.toNat = 10 then 3 else -1
theorem bidx_run : (List.range 256).all (fun k => isV (vcallW Tryz.prog (vcode Tryz.prog 60) 95 [strV [32, 9, 13, 10], .sc (.int .u8 (k : Int))] ⟨[], 0⟩) (.sc (.int .i64 (blkI (UInt8.ofNat k))))) = true := by kernel_rfl
theorem bidx_call (c : UInt8) (H : Heap) : VCall Tryz.prog 95 [strV [32, 9, 13, 10], bV c] H (fun x K => x = iV (blkI c) ∧ K = H) := by
  have h := List.all_eq_true.1 bidx_run c.toNat (List.mem_range.2 c.toNat_lt)
  rw [UInt8.ofNat_toNat] at h
  exact VCall.closedA mixed 60 (by simp [nameless_strV, nameless_bV]) h
end Go.Proofs.YtpbiblhkcomekaaGreat

/- LexBlanks: lex.run over digits. -/
namespace Go.Proofs.YtpbiblhkcomekaaGreat
open Go Go.RowKit
set_option linter.unusedSimpArgs false
set_option linter.unusedVariables false
set_option maxRecDepth 100000
set_option maxHeartbeats 4000000
theorem runB_le (p : UInt8 → Bool) : ∀ t, runB p t ≤ t.length
  | [] => Nat.le_refl _
  | c :: r => by
    have := runB_le p r
    unfold runB
    split <;> simp <;> omega
theorem rundig_call (t : List UInt8) (ht : t.length ≤ 100000) : VCall Tryz.prog 96 [roB t, .fn (.func 100) [] []] ⟨[], 0⟩ (fun v _ => v = iV (runB digB t)) := by
  refine VCall.go Tryz.func96 rfl ?_
  (repeat' (first|with_reducible refine And.intro ?_ ?_|(with_reducible intro hc;(try simp only [zz] at hc);try exact ct)|exact Is.mk rfl rfl|((conv => whnf);first|with_reducible refine And.intro ?_ ?_|with_reducible intro hx|exact Is.mk rfl rfl|(with_reducible first|apply Val.via|apply ValH.via)|refine sp ?_|refine vx (by (first|exact vat_of vagg_u8 (map_at hb) ((Nat.zero_add _).trans (mul1 rfl rfl))|exact vat_of vagg_u8 (map_at hb) (mul1 rfl rfl)|exact vat_of rfl rfl rfl|rfl)) ?_|refine GWP.drawY mixed _ (by kernel_rfl) (by rfl) ?_|(refine GCall.mk (VCall.inl Tryz.func137 rfl ?_))|refine sq ?_)))
  (all_goals (first|omega|contradiction|skip))
  (refine GWP'.mk (GWP.loopB [] (fun (i : Nat) => i ≤ t.length ∧ runB digB t = i + runB digB (t.drop i)) (fun i => [(8, iV i)]) (fun _ => []) 1 (fun i => t.length - i) 0 ⟨Nat.zero_le _, by simp⟩ ?_); (conv => whnf); refine And.intro ?_ ?_)
  · focus (refine ka [] ?_ ?_;all_goals (repeat' (first|exact rz|refine And.intro ?_ ?_|refine Exists.intro _ (And.intro rfl ?_)|refine ro ?_|refine RenL.cons ?_ ?_|fail|exact rv)))
  rintro i ⟨g1, g2⟩
  simp only at g1 g2 ⊢
  by_cases hil : i < t.length
  · obtain ⟨c, hb⟩ : ∃ c, t[i]? = some c := ⟨_, List.getElem?_eq_getElem hil⟩
    rw [drop_at hb, runB] at g2
    cases hp : digB c with
    | true =>
      rw [if_pos hp] at g2
      have hd := fun H => digit_call c H
      rw [hp] at hd
      (repeat' (first|with_reducible refine And.intro ?_ ?_|(with_reducible intro hc;(try simp only [zz] at hc);try exact ct)|exact Is.mk rfl rfl|((conv => whnf);first|with_reducible refine And.intro ?_ ?_|with_reducible intro hx|exact Is.mk rfl rfl|(with_reducible first|apply Val.via|apply ValH.via)|refine sp ?_|refine vx (by (first|exact vat_of vagg_u8 (map_at hb) ((Nat.zero_add _).trans (mul1 rfl rfl))|exact vat_of vagg_u8 (map_at hb) (mul1 rfl rfl)|exact vat_of rfl rfl rfl|rfl)) ?_|refine GWP.drawY mixed _ (by kernel_rfl) (by rfl) ?_|(first|refine cl (hd _) ?_|(refine GCall.mk (VCall.inl Tryz.func138 rfl ?_)))|refine sq ?_)))
      (all_goals (first|omega|contradiction|skip))
      focus (refine Done'.mk ⟨i + 1,⟨by omega,by rw [g2];omega⟩,?_,ka [] ?_ ?_⟩;(first|omega|(simp only;omega));all_goals (repeat' (first|exact rz|refine And.intro ?_ ?_|refine Exists.intro _ (And.intro rfl ?_)|refine ro ?_|refine RenL.cons ?_ ?_|exact RenV.eq (scI_eq (by omega)) (nameless_sc _)|exact rv)))
    | false =>
      rw [if_neg (by simp [hp])] at g2
      have hd := fun H => digit_call c H
      rw [hp] at hd
      (repeat' (first|with_reducible refine And.intro ?_ ?_|(with_reducible intro hc;(try simp only [zz] at hc);try exact ct)|exact Is.mk rfl rfl|((conv => whnf);first|with_reducible refine And.intro ?_ ?_|with_reducible intro hx|exact Is.mk rfl rfl|(with_reducible first|apply Val.via|apply ValH.via)|refine sp ?_|refine vx (by (first|exact vat_of vagg_u8 (map_at hb) ((Nat.zero_add _).trans (mul1 rfl rfl))|exact vat_of vagg_u8 (map_at hb) (mul1 rfl rfl)|exact vat_of rfl rfl rfl|rfl)) ?_|refine GWP.drawY mixed _ (by kernel_rfl) (by rfl) ?_|(first|refine cl (hd _) ?_|(refine GCall.mk (VCall.inl Tryz.func138 rfl ?_)))|refine sq ?_)))
      (all_goals (first|omega|contradiction|skip))
      have e : runB digB t = i := by omega
      rw [e]
      all_goals exact Done'.mk rfl
  · obtain rfl : i = t.length := by omega
    have e : runB digB t = t.length := by rw [List.drop_length, runB] at g2; omega
    rw [e]
    (repeat' (first|with_reducible refine And.intro ?_ ?_|(with_reducible intro hc;(try simp only [zz] at hc);try exact ct)|exact Is.mk rfl rfl|((conv => whnf);first|with_reducible refine And.intro ?_ ?_|with_reducible intro hx|exact Is.mk rfl rfl|(with_reducible first|apply Val.via|apply ValH.via)|refine sp ?_|refine vx (by (first|exact vat_of vagg_u8 (map_at hb) ((Nat.zero_add _).trans (mul1 rfl rfl))|exact vat_of vagg_u8 (map_at hb) (mul1 rfl rfl)|exact vat_of rfl rfl rfl|rfl)) ?_|refine GWP.drawY mixed _ (by kernel_rfl) (by rfl) ?_|fail|refine sq ?_)))
    (all_goals (first|omega|contradiction|skip))
    all_goals exact Done'.mk rfl
theorem nameless_fn0 (f : Fn) : Nameless (.fn f [] []) := fun w Z ρ ρ' y hr => by
  cases hr with
  | fn h1 r1 h2 r2 => exact .fn h1 (fun i u c hu => by simp at hu) h2 (fun i u c hu => by simp at hu)
theorem rundigH_call (t : List UInt8) (ht : t.length ≤ 100000) (H : Heap) : VCall Tryz.prog 96 [roB t, .fn (.func 100) [] []] H (fun v K => v = iV (runB digB t) ∧ K = H) :=
  VCall.pure (by intro v hv; simp only [List.mem_cons, List.not_mem_nil, or_false] at hv; rcases hv with rfl | rfl; exact nameless_roB _; exact nameless_fn0 _) (nameless_sc _) (rundig_call t ht)
end Go.Proofs.YtpbiblhkcomekaaGreat

/- LexBlanks: lex.run over what is no line's end, and over letters and digits. -/
namespace Go.Proofs.YtpbiblhkcomekaaGreat
open Go Go.RowKit
set_option linter.unusedSimpArgs false
set_option linter.unusedVariables false
set_option maxRecDepth 100000
set_option maxHeartbeats 4000000
def nlB (c : UInt8) : Bool := !(c.toNat == 10)
def nmB (c : UInt8) : Bool := letB c || digB c
theorem empC_call (b : UInt8) (H : Heap) : VCall Tryz.prog 97 [bV b] H (fun x K => x = booV (nlB b) ∧ K = H) := VCall.bytes mixed 60 nlB (by kernel_rfl) b H
theorem namC_call (b : UInt8) (H : Heap) : VCall Tryz.prog 139 [bV b] H (fun x K => x = booV (nmB b) ∧ K = H) := VCall.bytes mixed 60 nmB (by kernel_rfl) b H
theorem runnl_call (t : List UInt8) (ht : t.length ≤ 100000) : VCall Tryz.prog 96 [roB t, .fn (.func 97) [] []] ⟨[], 0⟩ (fun v _ => v = iV (runB nlB t)) := by
  refine VCall.go Tryz.func96 rfl ?_
  (repeat' (first|with_reducible refine And.intro ?_ ?_|(with_reducible intro hc;(try simp only [zz] at hc);try exact ct)|exact Is.mk rfl rfl|((conv => whnf);first|with_reducible refine And.intro ?_ ?_|with_reducible intro hx|exact Is.mk rfl rfl|(with_reducible first|apply Val.via|apply ValH.via)|refine sp ?_|refine vx (by (first|exact vat_of vagg_u8 (map_at hb) ((Nat.zero_add _).trans (mul1 rfl rfl))|exact vat_of vagg_u8 (map_at hb) (mul1 rfl rfl)|exact vat_of rfl rfl rfl|rfl)) ?_|refine GWP.drawY mixed _ (by kernel_rfl) (by rfl) ?_|(refine GCall.mk (VCall.inl Tryz.func137 rfl ?_))|refine sq ?_)))
  (all_goals (first|omega|contradiction|skip))
  (refine GWP'.mk (GWP.loopB [] (fun (i : Nat) => i ≤ t.length ∧ runB nlB t = i + runB nlB (t.drop i)) (fun i => [(8, iV i)]) (fun _ => []) 1 (fun i => t.length - i) 0 ⟨Nat.zero_le _, by simp⟩ ?_); (conv => whnf); refine And.intro ?_ ?_)
  · focus (refine ka [] ?_ ?_;all_goals (repeat' (first|exact rz|refine And.intro ?_ ?_|refine Exists.intro _ (And.intro rfl ?_)|refine ro ?_|refine RenL.cons ?_ ?_|fail|exact rv)))
  rintro i ⟨g1, g2⟩
  simp only at g1 g2 ⊢
  by_cases hil : i < t.length
  · obtain ⟨c, hb⟩ : ∃ c, t[i]? = some c := ⟨_, List.getElem?_eq_getElem hil⟩
    rw [drop_at hb, runB] at g2
    cases hp : nlB c with
    | true =>
      rw [if_pos hp] at g2
      have hd := fun H => empC_call c H
      rw [hp] at hd
      (repeat' (first|with_reducible refine And.intro ?_ ?_|(with_reducible intro hc;(try simp only [zz] at hc);try exact ct)|exact Is.mk rfl rfl|((conv => whnf);first|with_reducible refine And.intro ?_ ?_|with_reducible intro hx|exact Is.mk rfl rfl|(with_reducible first|apply Val.via|apply ValH.via)|refine sp ?_|refine vx (by (first|exact vat_of vagg_u8 (map_at hb) ((Nat.zero_add _).trans (mul1 rfl rfl))|exact vat_of vagg_u8 (map_at hb) (mul1 rfl rfl)|exact vat_of rfl rfl rfl|rfl)) ?_|refine GWP.drawY mixed _ (by kernel_rfl) (by rfl) ?_|(first|refine cl (hd _) ?_|(refine GCall.mk (VCall.inl Tryz.func138 rfl ?_)))|refine sq ?_)))
      (all_goals (first|omega|contradiction|skip))
      focus (refine Done'.mk ⟨i + 1,⟨by omega,by rw [g2];omega⟩,?_,ka [] ?_ ?_⟩;(first|omega|(simp only;omega));all_goals (repeat' (first|exact rz|refine And.intro ?_ ?_|refine Exists.intro _ (And.intro rfl ?_)|refine ro ?_|refine RenL.cons ?_ ?_|exact RenV.eq (scI_eq (by omega)) (nameless_sc _)|exact rv)))
    | false =>
      rw [if_neg (by simp [hp])] at g2
      have hd := fun H => empC_call c H
      rw [hp] at hd
      (repeat' (first|with_reducible refine And.intro ?_ ?_|(with_reducible intro hc;(try simp only [zz] at hc);try exact ct)|exact Is.mk rfl rfl|((conv => whnf);first|with_reducible refine And.intro ?_ ?_|with_reducible intro hx|exact Is.mk rfl rfl|(with_reducible first|apply Val.via|apply ValH.via)|refine sp ?_|refine vx (by (first|exact vat_of vagg_u8 (map_at hb) ((Nat.zero_add _).trans (mul1 rfl rfl))|exact vat_of vagg_u8 (map_at hb) (mul1 rfl rfl)|exact vat_of rfl rfl rfl|rfl)) ?_|refine GWP.drawY mixed _ (by kernel_rfl) (by rfl) ?_|(first|refine cl (hd _) ?_|(refine GCall.mk (VCall.inl Tryz.func138 rfl ?_)))|refine sq ?_)))
      (all_goals (first|omega|contradiction|skip))
      have e : runB nlB t = i := by omega
      rw [e]
      all_goals exact Done'.mk rfl
  · obtain rfl : i = t.length := by omega
    have e : runB nlB t = t.length := by rw [List.drop_length, runB] at g2; omega
    rw [e]
    (repeat' (first|with_reducible refine And.intro ?_ ?_|(with_reducible intro hc;(try simp only [zz] at hc);try exact ct)|exact Is.mk rfl rfl|((conv => whnf);first|with_reducible refine And.intro ?_ ?_|with_reducible intro hx|exact Is.mk rfl rfl|(with_reducible first|apply Val.via|apply ValH.via)|refine sp ?_|refine vx (by (first|exact vat_of vagg_u8 (map_at hb) ((Nat.zero_add _).trans (mul1 rfl rfl))|exact vat_of vagg_u8 (map_at hb) (mul1 rfl rfl)|exact vat_of rfl rfl rfl|rfl)) ?_|refine GWP.drawY mixed _ (by kernel_rfl) (by rfl) ?_|fail|refine sq ?_)))
    (all_goals (first|omega|contradiction|skip))
    all_goals exact Done'.mk rfl
theorem runnlH_call (t : List UInt8) (ht : t.length ≤ 100000) (H : Heap) : VCall Tryz.prog 96 [roB t, .fn (.func 97) [] []] H (fun v K => v = iV (runB nlB t) ∧ K = H) :=
  VCall.pure (by intro v hv; simp only [List.mem_cons, List.not_mem_nil, or_false] at hv; rcases hv with rfl | rfl; exact nameless_roB _; exact nameless_fn0 _) (nameless_sc _) (runnl_call t ht)
theorem runnm_call (t : List UInt8) (ht : t.length ≤ 100000) : VCall Tryz.prog 96 [roB t, .fn (.func 139) [] []] ⟨[], 0⟩ (fun v _ => v = iV (runB nmB t)) := by
  refine VCall.go Tryz.func96 rfl ?_
  (repeat' (first|with_reducible refine And.intro ?_ ?_|(with_reducible intro hc;(try simp only [zz] at hc);try exact ct)|exact Is.mk rfl rfl|((conv => whnf);first|with_reducible refine And.intro ?_ ?_|with_reducible intro hx|exact Is.mk rfl rfl|(with_reducible first|apply Val.via|apply ValH.via)|refine sp ?_|refine vx (by (first|exact vat_of vagg_u8 (map_at hb) ((Nat.zero_add _).trans (mul1 rfl rfl))|exact vat_of vagg_u8 (map_at hb) (mul1 rfl rfl)|exact vat_of rfl rfl rfl|rfl)) ?_|refine GWP.drawY mixed _ (by kernel_rfl) (by rfl) ?_|(refine GCall.mk (VCall.inl Tryz.func137 rfl ?_))|refine sq ?_)))
  (all_goals (first|omega|contradiction|skip))
  (refine GWP'.mk (GWP.loopB [] (fun (i : Nat) => i ≤ t.length ∧ runB nmB t = i + runB nmB (t.drop i)) (fun i => [(8, iV i)]) (fun _ => []) 1 (fun i => t.length - i) 0 ⟨Nat.zero_le _, by simp⟩ ?_); (conv => whnf); refine And.intro ?_ ?_)
  · focus (refine ka [] ?_ ?_;all_goals (repeat' (first|exact rz|refine And.intro ?_ ?_|refine Exists.intro _ (And.intro rfl ?_)|refine ro ?_|refine RenL.cons ?_ ?_|fail|exact rv)))
  rintro i ⟨g1, g2⟩
  simp only at g1 g2 ⊢
  by_cases hil : i < t.length
  · obtain ⟨c, hb⟩ : ∃ c, t[i]? = some c := ⟨_, List.getElem?_eq_getElem hil⟩
    rw [drop_at hb, runB] at g2
    cases hp : nmB c with
    | true =>
      rw [if_pos hp] at g2
      have hd := fun H => namC_call c H
      rw [hp] at hd
      (repeat' (first|with_reducible refine And.intro ?_ ?_|(with_reducible intro hc;(try simp only [zz] at hc);try exact ct)|exact Is.mk rfl rfl|((conv => whnf);first|with_reducible refine And.intro ?_ ?_|with_reducible intro hx|exact Is.mk rfl rfl|(with_reducible first|apply Val.via|apply ValH.via)|refine sp ?_|refine vx (by (first|exact vat_of vagg_u8 (map_at hb) ((Nat.zero_add _).trans (mul1 rfl rfl))|exact vat_of vagg_u8 (map_at hb) (mul1 rfl rfl)|exact vat_of rfl rfl rfl|rfl)) ?_|refine GWP.drawY mixed _ (by kernel_rfl) (by rfl) ?_|(first|refine cl (hd _) ?_|(refine GCall.mk (VCall.inl Tryz.func138 rfl ?_)))|refine sq ?_)))
      (all_goals (first|omega|contradiction|skip))
      focus (refine Done'.mk ⟨i + 1,⟨by omega,by rw [g2];omega⟩,?_,ka [] ?_ ?_⟩;(first|omega|(simp only;omega));all_goals (repeat' (first|exact rz|refine And.intro ?_ ?_|refine Exists.intro _ (And.intro rfl ?_)|refine ro ?_|refine RenL.cons ?_ ?_|exact RenV.eq (scI_eq (by omega)) (nameless_sc _)|exact rv)))
    | false =>
      rw [if_neg (by simp [hp])] at g2
      have hd := fun H => namC_call c H
      rw [hp] at hd
      (repeat' (first|with_reducible refine And.intro ?_ ?_|(with_reducible intro hc;(try simp only [zz] at hc);try exact ct)|exact Is.mk rfl rfl|((conv => whnf);first|with_reducible refine And.intro ?_ ?_|with_reducible intro hx|exact Is.mk rfl rfl|(with_reducible first|apply Val.via|apply ValH.via)|refine sp ?_|refine vx (by (first|exact vat_of vagg_u8 (map_at hb) ((Nat.zero_add _).trans (mul1 rfl rfl))|exact vat_of vagg_u8 (map_at hb) (mul1 rfl rfl)|exact vat_of rfl rfl rfl|rfl)) ?_|refine GWP.drawY mixed _ (by kernel_rfl) (by rfl) ?_|(first|refine cl (hd _) ?_|(refine GCall.mk (VCall.inl Tryz.func138 rfl ?_)))|refine sq ?_)))
      (all_goals (first|omega|contradiction|skip))
      have e : runB nmB t = i := by omega
      rw [e]
      all_goals exact Done'.mk rfl
  · obtain rfl : i = t.length := by omega
    have e : runB nmB t = t.length := by rw [List.drop_length, runB] at g2; omega
    rw [e]
    (repeat' (first|with_reducible refine And.intro ?_ ?_|(with_reducible intro hc;(try simp only [zz] at hc);try exact ct)|exact Is.mk rfl rfl|((conv => whnf);first|with_reducible refine And.intro ?_ ?_|with_reducible intro hx|exact Is.mk rfl rfl|(with_reducible first|apply Val.via|apply ValH.via)|refine sp ?_|refine vx (by (first|exact vat_of vagg_u8 (map_at hb) ((Nat.zero_add _).trans (mul1 rfl rfl))|exact vat_of vagg_u8 (map_at hb) (mul1 rfl rfl)|exact vat_of rfl rfl rfl|rfl)) ?_|refine GWP.drawY mixed _ (by kernel_rfl) (by rfl) ?_|fail|refine sq ?_)))
    (all_goals (first|omega|contradiction|skip))
    all_goals exact Done'.mk rfl
theorem runnmH_call (t : List UInt8) (ht : t.length ≤ 100000) (H : Heap) : VCall Tryz.prog 96 [roB t, .fn (.func 139) [] []] H (fun v K => v = iV (runB nmB t) ∧ K = H) :=
  VCall.pure (by intro v hv; simp only [List.mem_cons, List.not_mem_nil, or_false] at hv; rcases hv with rfl | rfl; exact nameless_roB _; exact nameless_fn0 _) (nameless_sc _) (runnm_call t ht)
end Go.Proofs.YtpbiblhkcomekaaGreat

