import Derived.Test.YtpbiblhkcomekaaGreatCE5
import Derived.Test.YtpbiblhkcomekaaGreatCA8
import Derived.Test.YtpbiblhkcomekaaGreatCE3
import Derived.ProofKit
import Derived.OpenShut
import Derived.Test.YtpbiblhkcomekaaGreatRows
import Derived.ShutString
import Derived.ChangeOld
import Derived.Below
import Derived.Lib.SmallJoins
/- The law CodeLimits, walked. -/
namespace Go.Proofs.YtpbiblhkcomekaaGreat
open Go Go.RowKit
set_option linter.unusedSimpArgs false
set_option linter.unusedVariables false
set_option maxRecDepth 100000
set_option maxHeartbeats 8000000
theorem app_strG (x y : List UInt8) : (⟨x.toArray⟩ : ByteArray) ++ ⟨y.toArray⟩ = ⟨(x ++ y).toArray⟩ := by
  apply ByteArray.ext
  show (ByteArray.append ⟨x.toArray⟩ ⟨y.toArray⟩).data = _
  simp [ByteArray.append, ByteArray.copySlice]
theorem ofE0 (t : List UInt8) (ht : t.length ≤ 1200) : VCall Tryz.prog 8 [roB t] ⟨[], 0⟩ (fun v K => v = .tp [.junk, iV (eOf (ofM t))] ∧ K = ⟨[], 0⟩) := by
  refine VCall.fin ((of0_call t ht).mono ?_)
  intro v K h
  cases hr : ofM t with
  | inl e =>
    rw [hr] at h
    obtain ⟨rfl, rfl⟩ := h
    exact ⟨[], .tp [.junk, iV e], [], 0, rfl, rfl, rfl, .tp (.cons .junk (.cons (.of (nameless_sc _)) .nil)), trivial, rfl, rfl⟩
  | inr g =>
    rw [hr] at h
    obtain ⟨rfl, rfl⟩ := h
    exact ⟨[], .tp [.junk, iV 0], [], 0, rfl, rfl, rfl, .tp (.cons .junk (.cons (.of (nameless_sc _)) .nil)), trivial, rfl, rfl⟩
theorem nameless_junk : Nameless .junk := fun w Z ρ ρ' y h => .junk
theorem ofE (w : List UInt8) (hw : w.length ≤ 1200) {H : Heap} {b n : Nat} {c : Option Nat} {vs : List VV} (hg : H.get b = some (.cells true vs)) (hv : vs = w.map bV) (hn : n = w.length) : VCall Tryz.prog 8 [.sl b 0 n c 1] H (fun v K => v = .tp [.junk, iV (eOf (ofM w))] ∧ K = H.del b) := by
  subst hv hn
  refine VCall.fzS hg (by simp) (nameless_map nameless_bV w) ?_
  rw [List.drop_zero, Nat.mul_one, List.take_of_length_le (by simp)]
  refine VCall.pure (by intro v hv; rw [List.mem_singleton] at hv; subst hv; exact nameless_roB w) (nameless_tp (by intro v hv; simp only [List.mem_cons, List.not_mem_nil, or_false] at hv; rcases hv with rfl | rfl; exact nameless_junk; exact nameless_sc _)) ((ofE0 w hw).mono ?_)
  rintro v K ⟨rfl, _⟩
  rfl
theorem codeLimits_walk (n0 n1 : Int) : VCall Tryz.prog 4 [iV n0, iV n1] ⟨[], 0⟩ (fun v _ => v = .sc (.bool true)) := by
  have hlv := fun H => lives22_call H
  obtain ⟨n, hn, hnl⟩ : ∃ n : Nat, n0 % 18446744073709551616 % 40 = n ∧ n < 40 := ⟨(n0 % 18446744073709551616 % 40).toNat, by omega, by omega⟩
  obtain ⟨m, hm, hml⟩ : ∃ m : Nat, n1 % 18446744073709551616 % 140 = m ∧ m < 140 := ⟨(n1 % 18446744073709551616 % 140).toNat, by omega, by omega⟩
  refine VCall.go Tryz.func4 rfl ?_
  (repeat' (first|with_reducible refine And.intro ?_ ?_|(with_reducible intro hc;(try simp only [zz] at hc);try exact ct)|exact Is.mk rfl rfl|((conv => whnf);first|with_reducible refine And.intro ?_ ?_|with_reducible intro hx|exact Is.mk rfl rfl|(with_reducible first|apply Val.via|apply ValH.via)|refine sp ?_|refine vx (by (first|exact vat_of rfl rfl rfl|rfl)) ?_|refine GWP.drawY mixed _ (by kernel_rfl) (by rfl) ?_|refine cl (hlv _) ?_|refine sq ?_)))
  (all_goals (first|omega|contradiction|exact Nat.le_of_ble_eq_true rfl|(exfalso;have hmx : IntKind.i64.max = 9223372036854775807 := rfl;rw [hmx] at hx;simp [ByteArray.size_append,ByteArray.size] at hx;omega)|skip))
  rw [hn, hm]
  refine GWP'.keep [(0,iV n),(1,iV m),(5,strV [111,110,32,97,40,41,123]),(26,iV n),(27,iV 0)] 108 [] 0 rfl (by repeat' (first|exact trivial|refine And.intro rfl ?_)) rfl trivial ?_
  (conv => whnf)
  refine stopW ?_
  have tl : ∀ i, (((List.range i).map setT).flatten).length = 6 * i := fun i => by rw [setT_len, List.length_range]
  (refine GWP'.mk (GWP.loopB [] (fun (i : Nat) => i ≤ n) (fun i => [(5, strV ([111, 110, 32, 97, 40, 41, 123] ++ ((List.range i).map setT).flatten)), (27, iV i)]) (fun _ => []) 0 (fun i => n - i) 0 (Nat.zero_le _) ?_); (conv => whnf); refine And.intro ?_ ?_)
  · focus (refine ka [] ?_ ?_;all_goals (repeat' (first|exact rz|refine And.intro ?_ ?_|refine Exists.intro _ (And.intro rfl ?_)|refine ro ?_|refine RenL.cons ?_ ?_|exact RenV.eq rfl (nameless_sc _)|exact rv)))
  rintro i g1
  simp only at g1 ⊢
  have q1 := tl i
  have q2 : ([111, 110, 32, 97, 40, 41, 123] ++ ((List.range i).map setT).flatten : List UInt8).length = 7 + 6 * i := by rw [List.length_append, q1]; rfl
  by_cases hil : i < n
  · have hw : ([111, 110, 32, 97, 40, 41, 123] ++ ((List.range (i + 1)).map setT).flatten : List UInt8) = ([111, 110, 32, 97, 40, 41, 123] ++ ((List.range i).map setT).flatten) ++ setT i := by
      rw [List.range_succ, List.map_append, List.flatten_append, List.append_assoc]
      simp
    generalize ([111, 110, 32, 97, 40, 41, 123] ++ ((List.range i).map setT).flatten : List UInt8) = w at *
    (repeat' (first|with_reducible refine And.intro ?_ ?_|(with_reducible intro hc;(try simp only [zz] at hc);try exact ct)|exact Is.mk rfl rfl|((conv => whnf);first|with_reducible refine And.intro ?_ ?_|with_reducible intro hx|exact Is.mk rfl rfl|(with_reducible first|apply Val.via|apply ValH.via)|refine sp ?_|refine vx (by (first|exact vat_of rfl rfl rfl|rfl)) ?_|refine GWP.drawY mixed _ (by kernel_rfl) (by rfl) ?_|fail|refine sq ?_)))
    (all_goals (first|omega|contradiction|exact Nat.le_of_ble_eq_true rfl|(exfalso;have hmx : IntKind.i64.max = 9223372036854775807 := rfl;rw [hmx] at hx;simp [ByteArray.size_append,ByteArray.size] at hx;omega)|skip))
    have hcat : VV.sc (.string ((⟨w.toArray⟩ : ByteArray) ++ (⟨#[118]⟩ ++ ⟨#[UInt8.ofNat (97 + (i : Int) / 20).toNat, UInt8.ofNat (97 + (i : Int) % 20).toNat]⟩ ++ ⟨#[61, 49, 59]⟩))) = strV (w ++ setT i) := by
      have e1 : (97 + (i : Int) / 20).toNat = 97 + i / 20 := by omega
      have e2 : (97 + (i : Int) % 20).toNat = 97 + i % 20 := by omega
      rw [e1, e2]
      show VV.sc (.string ((⟨w.toArray⟩ : ByteArray) ++ (⟨[118].toArray⟩ ++ ⟨[UInt8.ofNat (97 + i / 20), UInt8.ofNat (97 + i % 20)].toArray⟩ ++ ⟨[61, 49, 59].toArray⟩))) = _
      rw [app_strG, app_strG, app_strG]
      rfl
    focus (refine Done'.mk ⟨i + 1,(by omega),?_,ka [] ?_ ?_⟩;(first|omega|(simp only;omega));all_goals (repeat' (first|exact rz|refine And.intro ?_ ?_|refine Exists.intro _ (And.intro rfl ?_)|refine ro ?_|refine RenL.cons ?_ ?_|(first|(refine RenV.eq ?_ (nameless_sc _);(rw [hw];exact hcat))|exact RenV.eq (scI_eq (by omega)) (nameless_sc _))|exact rv)))
  obtain rfl : i = n := by omega
  have hlim : limT (List.range i) m = ([111, 110, 32, 97, 40, 41, 123] ++ ((List.range i).map setT).flatten) ++ [102, 40] ++ argT m ++ [41, 59, 125] := by
    unfold limT
    simp only [List.append_assoc]
  have hres := lim_res i m hnl hml
  have hll := lim_len (List.range i) m
  rw [List.length_range] at hll
  rw [hlim] at hres hll
  generalize ([111, 110, 32, 97, 40, 41, 123] ++ ((List.range i).map setT).flatten : List UInt8) = w at *
  have hal := argT_len
  (repeat' (first|with_reducible refine And.intro ?_ ?_|(with_reducible intro hc;(try simp only [zz] at hc);try exact ct)|exact Is.mk rfl rfl|((conv => whnf);first|with_reducible refine And.intro ?_ ?_|with_reducible intro hx|exact Is.mk rfl rfl|(with_reducible first|apply Val.via|apply ValH.via)|refine sp ?_|refine vx (by (first|exact vat_of rfl rfl rfl|rfl)) ?_|refine GWP.drawY mixed _ (by kernel_rfl) (by rfl) ?_|fail|refine sq ?_)))
  (all_goals (first|omega|contradiction|exact Nat.le_of_ble_eq_true rfl|(exfalso;have hmx : IntKind.i64.max = 9223372036854775807 := rfl;rw [hmx] at hx;simp [ByteArray.size_append,ByteArray.size] at hx;omega)|skip))
  (refine GWP'.mk (GWP.loopB [] (fun (j : Nat) => j ≤ m) (fun j => [(5, strV (w ++ [102, 40] ++ argT j)), (48, iV j)]) (fun _ => []) 0 (fun j => m - j) 0 (Nat.zero_le _) ?_); (conv => whnf); refine And.intro ?_ ?_)
  · focus (refine ka [] ?_ ?_;all_goals (repeat' (first|exact rz|refine And.intro ?_ ?_|refine Exists.intro _ (And.intro rfl ?_)|refine ro ?_|refine RenL.cons ?_ ?_|(first|(refine RenV.eq ?_ (nameless_sc _);(rw [app_strG];exact congrArg strV (by simp [argT])))|exact RenV.eq rfl (nameless_sc _))|exact rv)))
  rintro j g2
  simp only at g2 ⊢
  have q3 := hal j
  have q4 : (w ++ [102, 40] ++ argT j).length = w.length + 2 + (argT j).length := by rw [List.length_append, List.length_append]; rfl
  by_cases hjl : j < m
  · by_cases hj0 : j = 0
    · subst hj0
      (repeat' (first|with_reducible refine And.intro ?_ ?_|(with_reducible intro hc;(try simp only [zz] at hc);try exact ct)|exact Is.mk rfl rfl|((conv => whnf);first|with_reducible refine And.intro ?_ ?_|with_reducible intro hx|exact Is.mk rfl rfl|(with_reducible first|apply Val.via|apply ValH.via)|refine sp ?_|refine vx (by (first|exact vat_of rfl rfl rfl|rfl)) ?_|refine GWP.drawY mixed _ (by kernel_rfl) (by rfl) ?_|fail|refine sq ?_)))
      (all_goals (first|omega|contradiction|exact Nat.le_of_ble_eq_true rfl|(exfalso;have hmx : IntKind.i64.max = 9223372036854775807 := rfl;rw [hmx] at hx;simp [ByteArray.size_append,ByteArray.size] at hx;omega)|skip))
      focus (refine Done'.mk ⟨0 + 1,(by omega),?_,ka [] ?_ ?_⟩;(first|omega|(simp only;omega));all_goals (repeat' (first|exact rz|refine And.intro ?_ ?_|refine Exists.intro _ (And.intro rfl ?_)|refine ro ?_|refine RenL.cons ?_ ?_|(first|(refine RenV.eq ?_ (nameless_sc _);(rw [app_strG];exact congrArg strV (by simp [argT,argR])))|exact RenV.eq (scI_eq (by omega)) (nameless_sc _))|exact rv)))
    · obtain ⟨j, rfl⟩ : ∃ k, j = k + 1 := ⟨j - 1, by omega⟩
      have hw2 : w ++ [102, 40] ++ argT (j + 1 + 1) = (w ++ [102, 40] ++ argT (j + 1)) ++ [44] ++ [49] := by
        rw [← argT_snoc]
        simp only [List.append_assoc, List.cons_append, List.nil_append]
      generalize w ++ [102, 40] ++ argT (j + 1) = w2 at *
      have hcat2 : VV.sc (.string (((⟨w2.toArray⟩ : ByteArray) ++ ⟨#[44]⟩) ++ ⟨#[49]⟩)) = strV (w2 ++ [44] ++ [49]) := by
        show VV.sc (.string (((⟨w2.toArray⟩ : ByteArray) ++ ⟨[44].toArray⟩) ++ ⟨[49].toArray⟩)) = _
        rw [app_strG, app_strG]
        rfl
      (repeat' (first|with_reducible refine And.intro ?_ ?_|(with_reducible intro hc;(try simp only [zz] at hc);try exact ct)|exact Is.mk rfl rfl|((conv => whnf);first|with_reducible refine And.intro ?_ ?_|with_reducible intro hx|exact Is.mk rfl rfl|(with_reducible first|apply Val.via|apply ValH.via)|refine sp ?_|refine vx (by (first|exact vat_of rfl rfl rfl|rfl)) ?_|refine GWP.drawY mixed _ (by kernel_rfl) (by rfl) ?_|fail|refine sq ?_)))
      (all_goals (first|omega|contradiction|exact Nat.le_of_ble_eq_true rfl|(exfalso;have hmx : IntKind.i64.max = 9223372036854775807 := rfl;rw [hmx] at hx;simp [ByteArray.size_append,ByteArray.size] at hx;omega)|skip))
      focus (refine Done'.mk ⟨j + 1 + 1,(by omega),?_,ka [] ?_ ?_⟩;(first|omega|(simp only;omega));all_goals (repeat' (first|exact rz|refine And.intro ?_ ?_|refine Exists.intro _ (And.intro rfl ?_)|refine ro ?_|refine RenL.cons ?_ ?_|(first|(refine RenV.eq ?_ (nameless_sc _);(rw [hw2];exact hcat2))|exact RenV.eq (scI_eq (by omega)) (nameless_sc _))|exact rv)))
  obtain rfl : j = m := by omega
  have hl1 : (w ++ [102, 40] ++ argT j ++ [41, 59, 125]).length = (w ++ [102, 40] ++ argT j).length + 3 := by rw [List.length_append]; rfl
  have hp1 := fun {H : Heap} {b n : Nat} {c : Option Nat} {vs : List VV} => ofE (w ++ [102, 40] ++ argT j ++ [41, 59, 125]) (by omega) (H := H) (b := b) (n := n) (c := c) (vs := vs)
  rw [hres] at hp1
  generalize w ++ [102, 40] ++ argT j = w2 at *
  obtain ⟨e, he, hcs⟩ : ∃ e : Nat, e = (if 32 < i then 6 else if 128 < j then 9 else 0) ∧ (32 < i ∧ e = 6 ∨ ¬ 32 < i ∧ 128 < j ∧ e = 9 ∨ ¬ 32 < i ∧ ¬ 128 < j ∧ e = 0) := by
    refine ⟨_, rfl, ?_⟩
    by_cases h1 : 32 < i
    · exact .inl ⟨h1, by rw [if_pos h1]⟩
    · by_cases h2 : 128 < j
      · exact .inr (.inl ⟨h1, h2, by rw [if_neg h1, if_pos h2]⟩)
      · exact .inr (.inr ⟨h1, h2, by rw [if_neg h1, if_neg h2]⟩)
  rw [← he] at hp1
  clear he hres hlim
  rcases hcs with ⟨h1, rfl⟩ | ⟨h1, h2, rfl⟩ | ⟨h1, h2, rfl⟩
  · ((repeat' (first|with_reducible refine And.intro ?_ ?_|(with_reducible intro hc;(try simp only [zz] at hc);try exact ct)|exact Is.mk rfl rfl|((conv => whnf);first|with_reducible refine And.intro ?_ ?_|with_reducible intro hx|exact Is.mk rfl rfl|(with_reducible first|apply Val.via|apply ValH.via)|refine sp ?_|refine vx (by (first|exact vat_of rfl rfl rfl|rfl)) ?_|refine GWP.drawY mixed _ (by kernel_rfl) (by rfl) ?_|(first|refine cl (hp1 rfl (by rw [app_strG];rfl) (by rw [app_strG];rfl)) ?_|(refine GCall.mk (VCall.inl Tryz.func13 rfl ?_))|(refine GCall.mk (VCall.inl Tryz.func10 rfl ?_))|(refine GCall.mk (VCall.inl Tryz.func9 rfl ?_)))|refine sq ?_)));(all_goals (first|omega|contradiction|exact Nat.le_of_ble_eq_true rfl|(exfalso;have hmx : IntKind.i64.max = 9223372036854775807 := rfl;rw [hmx] at hx;simp [ByteArray.size_append,ByteArray.size] at hx;omega)|skip));refine GWP'.mk (GWP.range0 rfl rfl ?_);refine VCall.go Tryz.func32 rfl ?_;(repeat' (first|with_reducible refine And.intro ?_ ?_|(with_reducible intro hc;(try simp only [zz] at hc);try exact ct)|exact Is.mk rfl rfl|((conv => whnf);first|with_reducible refine And.intro ?_ ?_|with_reducible intro hx|exact Is.mk rfl rfl|(with_reducible first|apply Val.via|apply ValH.via)|refine sp ?_|refine vx (by (first|exact vat_of rfl rfl rfl|rfl)) ?_|refine GWP.drawY mixed _ (by kernel_rfl) (by rfl) ?_|fail|refine sq ?_)));(all_goals (first|omega|contradiction|exact Nat.le_of_ble_eq_true rfl|(exfalso;have hmx : IntKind.i64.max = 9223372036854775807 := rfl;rw [hmx] at hx;simp [ByteArray.size_append,ByteArray.size] at hx;omega)|skip));(refine Done'.mk ⟨_,_,_,_,_,_,_,rfl,(by intro h;cases h),?_⟩);(repeat' (first|with_reducible refine And.intro ?_ ?_|(with_reducible intro hc;(try simp only [zz] at hc);try exact ct)|exact Is.mk rfl rfl|((conv => whnf);first|with_reducible refine And.intro ?_ ?_|with_reducible intro hx|exact Is.mk rfl rfl|(with_reducible first|apply Val.via|apply ValH.via)|refine sp ?_|refine vx (by (first|exact vat_of rfl rfl rfl|rfl)) ?_|refine GWP.drawY mixed _ (by kernel_rfl) (by rfl) ?_|(first|(refine GCall.mk (VCall.inl Tryz.func12 rfl ?_))|(refine GCall.mk (VCall.inl Tryz.func14 rfl ?_))|(refine GCall.mk (VCall.inl Tryz.func15 rfl ?_))|(refine GCall.mk (VCall.inl Tryz.func16 rfl ?_))|(refine GCall.mk (VCall.inl Tryz.func17 rfl ?_)))|refine sq ?_)));(all_goals (first|omega|contradiction|exact Nat.le_of_ble_eq_true rfl|(exfalso;have hmx : IntKind.i64.max = 9223372036854775807 := rfl;rw [hmx] at hx;simp [ByteArray.size_append,ByteArray.size] at hx;omega)|skip));all_goals exact Done'.mk rfl)
  · ((repeat' (first|with_reducible refine And.intro ?_ ?_|(with_reducible intro hc;(try simp only [zz] at hc);try exact ct)|exact Is.mk rfl rfl|((conv => whnf);first|with_reducible refine And.intro ?_ ?_|with_reducible intro hx|exact Is.mk rfl rfl|(with_reducible first|apply Val.via|apply ValH.via)|refine sp ?_|refine vx (by (first|exact vat_of rfl rfl rfl|rfl)) ?_|refine GWP.drawY mixed _ (by kernel_rfl) (by rfl) ?_|(first|refine cl (hp1 rfl (by rw [app_strG];rfl) (by rw [app_strG];rfl)) ?_|(refine GCall.mk (VCall.inl Tryz.func13 rfl ?_))|(refine GCall.mk (VCall.inl Tryz.func10 rfl ?_))|(refine GCall.mk (VCall.inl Tryz.func9 rfl ?_)))|refine sq ?_)));(all_goals (first|omega|contradiction|exact Nat.le_of_ble_eq_true rfl|(exfalso;have hmx : IntKind.i64.max = 9223372036854775807 := rfl;rw [hmx] at hx;simp [ByteArray.size_append,ByteArray.size] at hx;omega)|skip));refine GWP'.mk (GWP.range0 rfl rfl ?_);refine VCall.go Tryz.func32 rfl ?_;(repeat' (first|with_reducible refine And.intro ?_ ?_|(with_reducible intro hc;(try simp only [zz] at hc);try exact ct)|exact Is.mk rfl rfl|((conv => whnf);first|with_reducible refine And.intro ?_ ?_|with_reducible intro hx|exact Is.mk rfl rfl|(with_reducible first|apply Val.via|apply ValH.via)|refine sp ?_|refine vx (by (first|exact vat_of rfl rfl rfl|rfl)) ?_|refine GWP.drawY mixed _ (by kernel_rfl) (by rfl) ?_|fail|refine sq ?_)));(all_goals (first|omega|contradiction|exact Nat.le_of_ble_eq_true rfl|(exfalso;have hmx : IntKind.i64.max = 9223372036854775807 := rfl;rw [hmx] at hx;simp [ByteArray.size_append,ByteArray.size] at hx;omega)|skip));(refine Done'.mk ⟨_,_,_,_,_,_,_,rfl,(by intro h;cases h),?_⟩);(repeat' (first|with_reducible refine And.intro ?_ ?_|(with_reducible intro hc;(try simp only [zz] at hc);try exact ct)|exact Is.mk rfl rfl|((conv => whnf);first|with_reducible refine And.intro ?_ ?_|with_reducible intro hx|exact Is.mk rfl rfl|(with_reducible first|apply Val.via|apply ValH.via)|refine sp ?_|refine vx (by (first|exact vat_of rfl rfl rfl|rfl)) ?_|refine GWP.drawY mixed _ (by kernel_rfl) (by rfl) ?_|(first|(refine GCall.mk (VCall.inl Tryz.func12 rfl ?_))|(refine GCall.mk (VCall.inl Tryz.func14 rfl ?_))|(refine GCall.mk (VCall.inl Tryz.func15 rfl ?_))|(refine GCall.mk (VCall.inl Tryz.func16 rfl ?_))|(refine GCall.mk (VCall.inl Tryz.func17 rfl ?_)))|refine sq ?_)));(all_goals (first|omega|contradiction|exact Nat.le_of_ble_eq_true rfl|(exfalso;have hmx : IntKind.i64.max = 9223372036854775807 := rfl;rw [hmx] at hx;simp [ByteArray.size_append,ByteArray.size] at hx;omega)|skip));all_goals exact Done'.mk rfl)
  · ((repeat' (first|with_reducible refine And.intro ?_ ?_|(with_reducible intro hc;(try simp only [zz] at hc);try exact ct)|exact Is.mk rfl rfl|((conv => whnf);first|with_reducible refine And.intro ?_ ?_|with_reducible intro hx|exact Is.mk rfl rfl|(with_reducible first|apply Val.via|apply ValH.via)|refine sp ?_|refine vx (by (first|exact vat_of rfl rfl rfl|rfl)) ?_|refine GWP.drawY mixed _ (by kernel_rfl) (by rfl) ?_|(first|refine cl (hp1 rfl (by rw [app_strG];rfl) (by rw [app_strG];rfl)) ?_|(refine GCall.mk (VCall.inl Tryz.func13 rfl ?_))|(refine GCall.mk (VCall.inl Tryz.func10 rfl ?_))|(refine GCall.mk (VCall.inl Tryz.func9 rfl ?_)))|refine sq ?_)));(all_goals (first|omega|contradiction|exact Nat.le_of_ble_eq_true rfl|(exfalso;have hmx : IntKind.i64.max = 9223372036854775807 := rfl;rw [hmx] at hx;simp [ByteArray.size_append,ByteArray.size] at hx;omega)|skip));refine GWP'.mk (GWP.range0 rfl rfl ?_);refine VCall.go Tryz.func32 rfl ?_;(repeat' (first|with_reducible refine And.intro ?_ ?_|(with_reducible intro hc;(try simp only [zz] at hc);try exact ct)|exact Is.mk rfl rfl|((conv => whnf);first|with_reducible refine And.intro ?_ ?_|with_reducible intro hx|exact Is.mk rfl rfl|(with_reducible first|apply Val.via|apply ValH.via)|refine sp ?_|refine vx (by (first|exact vat_of rfl rfl rfl|rfl)) ?_|refine GWP.drawY mixed _ (by kernel_rfl) (by rfl) ?_|fail|refine sq ?_)));(all_goals (first|omega|contradiction|exact Nat.le_of_ble_eq_true rfl|(exfalso;have hmx : IntKind.i64.max = 9223372036854775807 := rfl;rw [hmx] at hx;simp [ByteArray.size_append,ByteArray.size] at hx;omega)|skip));(refine Done'.mk ⟨_,_,_,_,_,_,_,rfl,(by intro h;cases h),?_⟩);(repeat' (first|with_reducible refine And.intro ?_ ?_|(with_reducible intro hc;(try simp only [zz] at hc);try exact ct)|exact Is.mk rfl rfl|((conv => whnf);first|with_reducible refine And.intro ?_ ?_|with_reducible intro hx|exact Is.mk rfl rfl|(with_reducible first|apply Val.via|apply ValH.via)|refine sp ?_|refine vx (by (first|exact vat_of rfl rfl rfl|rfl)) ?_|refine GWP.drawY mixed _ (by kernel_rfl) (by rfl) ?_|(first|(refine GCall.mk (VCall.inl Tryz.func12 rfl ?_))|(refine GCall.mk (VCall.inl Tryz.func14 rfl ?_))|(refine GCall.mk (VCall.inl Tryz.func15 rfl ?_))|(refine GCall.mk (VCall.inl Tryz.func16 rfl ?_))|(refine GCall.mk (VCall.inl Tryz.func17 rfl ?_)))|refine sq ?_)));(all_goals (first|omega|contradiction|exact Nat.le_of_ble_eq_true rfl|(exfalso;have hmx : IntKind.i64.max = 9223372036854775807 := rfl;rw [hmx] at hx;simp [ByteArray.size_append,ByteArray.size] at hx;omega)|skip));all_goals exact Done'.mk rfl)
end Go.Proofs.YtpbiblhkcomekaaGreat

/- What comes in, as values of the walk. Over any program. -/
namespace Go.Proofs.YtpbiblhkcomekaaGreat
open Go Go.ChangeShapes Go.WideShapes Go.RowKit
set_option linter.unusedSimpArgs false
set_option linter.unusedVariables false
end Go.Proofs.YtpbiblhkcomekaaGreat

/- PROVED: for every input cordonlaw22.CodeLimits returns true, and its arguments read as before. So many variables may be, and so many values on the stack, and no more. -/
namespace Go.Proofs.YtpbiblhkcomekaaGreat.lawCodeLimits
open Go.ChangeShapes Go.WideShapes Go.ChangeAt Go.RowKit Go.Joins
open Go.ChangeMaps (open_string shut_string)
set_option linter.unusedSimpArgs false
set_option linter.unusedVariables false

theorem own : ownKnob Tryz.prog.godebug = none := by kernel_rfl
theorem laidOut : laidOutB Tryz.prog = true := by kernel_rfl
theorem u8cells : Tryz.prog.cellsOf 5 = 1 := by kernel_rfl

set_option maxRecDepth 100000 in
theorem lifted (os : Os) (started : os.Started) (H : Type) (enc : TypeId × Value → H) :
    ReturnsInHanded {} Tryz.checked os 4 .any (Rows.codeLimitsSpec.pre6 enc Tryz.prog Tryz.f4 Rows.codeLimitsRow.domain false) (Rows.codeLimitsSpec.post enc Tryz.prog Tryz.f4 false true false false) := by
  refine returnsInHanded_of_change (C := Tryz.checked) own started (by kernel_rfl) Tryz.func4
    (ChangeSpec.witness6 (enc := enc) (C := Tryz.checked) false ⟨#[], #[.int .i64 0, .int .i64 0], []⟩ 8 (by kernel_rfl) (by kernel_rfl) (by kernel_rfl) (by kernel_rfl)) ?_
  intro W base args ds gs before hval0 hW hcnd _
  have hval : ∀ (j : Nat) t v, Tryz.f4.params[j]? = some t → args[j]? = some v → Value.okWide Tryz.prog W .any base t v := hval0
  have hW' := hW
  obtain ⟨p, q, hA0, hV, rfl, hfz, hnd⟩ := hW
  have hA : DataW.TrodAll enc Tryz.prog W 0 (fun _ => true) true Tryz.f4.params.toList args.toList ds p := hA0
  rw [Tryz.params4] at hA hval
  obtain ⟨v0, vs0, d0, ds0, p0, q0, hargs, rfl, rfl, h0, r0⟩ := trodAll_cons hA
  obtain ⟨v1, vs1, d1, ds1, p1, q1, rfl, rfl, rfl, h1, r1⟩ := trodAll_cons r0
  obtain ⟨rfl, rfl, rfl⟩ := trodAll_nil r1
  obtain rfl : args = #[v0, v1] := by cases args; simp_all
  obtain ⟨rfl, rfl⟩ := trodVars_none hV
  have k0 := h0
  have lt0 : ∀ x ∈ p0, x.block < W.heap.size := by obtain ⟨m, hm⟩ := k0; exact DataW.trod_lt m _ _ _ hm
  have k1 := h1
  have lt1 : ∀ x ∈ p1, x.block < W.heap.size := by obtain ⟨m, hm⟩ := k1; exact DataW.trod_lt m _ _ _ hm
  have hwalk : Calls Tryz.prog 4 #[v0, v1] W fun e w' => e = .returned (.bool true) ∧ Below W.heap.size W w' := by
    obtain ⟨n0, rfl, rfl, rfl, hn00⟩ := open_int Tryz.underlying3 (hval 0 3 v0 rfl rfl) h0
    have hn0 := bounds_i64 hn00
    obtain ⟨n1, rfl, rfl, rfl, hn10⟩ := open_int Tryz.underlying3 (hval 1 3 v1 rfl rfl) h1
    have hn1 := bounds_i64 hn10
    exact VCall.law (codeLimits_walk n0 n1) W #[.int .i64 n0, .int .i64 n1] (Pw.cons (.sc rfl) (Pw.cons (.sc rfl) Pw.nil)) (fun _ _ _ _ _ _ => trivial)
  clear hA0 hval0
  refine hwalk.mono fun e W' ⟨he, bel⟩ => ?_
  subst he
  exact ⟨_, rfl, _, _, _, [], _, [], hW', trodAll_mk1 (shut_bool Tryz.underlying4 _), (trodAll_cons_mk (Below.trod laidOut (by kernel_rfl) (of_decide_eq_true (by kernel_rfl)) k0 bel lt0) (trodAll_cons_mk (Below.trod laidOut (by kernel_rfl) (of_decide_eq_true (by kernel_rfl)) k1 bel lt1) trodAll_mk0)), rfl, bel.frame _, fun h => by cases h⟩

theorem over : Rows.codeLimitsRow.holds Tryz.pinned (OpenSpec.ofChange Rows.codeLimitsSpec) :=
  OpenClaim.holds_of_wide 4 Tryz.f4 rfl rfl rfl rfl rfl rfl rfl ⟨rfl, rfl, rfl, rfl, rfl⟩ rfl rfl rfl rfl rfl (by kernel_rfl) Tryz.func4 (by kernel_rfl)
    (of_decide_eq_true (by kernel_rfl)) (by unfold Func.isWrapper;first|(rw [if_pos (by decide +kernel)];kernel_rfl)|(rw [if_neg (by decide +kernel)];exact ⟨rfl,rfl⟩))
    (fun os started H enc _ => lifted os started H enc)

/-- The statement. -/
theorem proved : Rows.CodeLimitsSaid := over
#print axioms proved
end Go.Proofs.YtpbiblhkcomekaaGreat.lawCodeLimits

