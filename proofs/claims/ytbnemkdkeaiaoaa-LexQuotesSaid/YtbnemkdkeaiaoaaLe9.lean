/- strings.Replacer: buildOnce; the parts of sync.Once's slow road. -/
import Derived.Test.YtbnemkdkeaiaoaaLe7b
import Derived.Tactics
import Derived.Tactics2
import Derived.Defers
import Derived.Laws.Pointers
import Derived.Laws.LoneSync
import Derived.RegionTactic
import Derived.RegionCalls
import Derived.ChangeAlike
namespace Go.Proofs.Ytbnemkdkeaiaoaa
open Go Go.RowKit
set_option linter.unusedSimpArgs false
set_option linter.unusedVariables false
set_option maxRecDepth 100000
set_option maxHeartbeats 8000000
theorem rep_call (s : List UInt8) (hs : s.length ≤ 1500) (H : Heap) : VCall Try.prog 104 [.rp rowF 0, strV s] H (fun v K => v = strV (escL s) ∧ K = H) := by
  have hn : Nameless (.rp rowF 0) := by
    refine nameless_rp fun v hv => ?_
    unfold rowF rowN at hv
    simp only [List.mem_append, List.mem_replicate, List.mem_singleton] at hv
    rcases hv with ((((((⟨_, rfl⟩ | rfl) | ⟨_, rfl⟩) | rfl) | ⟨_, rfl⟩) | rfl) | ⟨_, rfl⟩) | rfl
    · exact nameless_sc _
    · exact nameless_roB _
    · exact nameless_sc _
    · exact nameless_roB _
    · exact nameless_sc _
    · exact nameless_roB _
    · exact nameless_sc _
    · refine nameless_ro fun v hv => ?_
      simp only [List.mem_cons, List.not_mem_nil, or_false] at hv
      rcases hv with rfl | rfl | rfl <;> exact nameless_strV _
  refine VCall.pure (by simp [hn, nameless_strV]) (nameless_strV _) ?_
  rcases Nat.lt_or_ge s.length 24 with h | h
  · exact repl_short rowF row_at10 row_at34 row_at92 row_at256 (fun n h1 h2 h3 h4 => row_other h1 h2 h3 h4) s hs h
  · exact repl_long rowF row_at10 row_at34 row_at92 row_at256 (fun n h1 h2 h3 h4 => row_other h1 h2 h3 h4) s hs h
theorem once_call : VCall Try.prog 15 [.ptr 0 0] ⟨[(0, .cells true (repV 0 1 (.sc .nilIface) (.sl 1 0 6 none 1))), (1, .cells true oldL)], 2⟩ (fun v K => v = .tp [] ∧ K = ⟨[(0, .cells true (repV 0 1 (.ifc 91 (.rp rowF 0)) nilS)), (1, .cells true oldL)], 2⟩) := by
  refine VCall.go Try.func15 rfl ?_
  (repeat' (first | with_reducible refine And.intro ?_ ?_ | ((with_reducible intro hc); (try simp only [zA, zB, zC, zD, zE, zF, zG, zH, zI, zJ, zK, zL, zM, zN, zO, zP, zQ, zR, zS, zT, zU, zV, zW] at hc); (first | (exact absurd rfl hc) | (exact absurd trivial hc) | (exfalso; omega) | skip)) | exact Is.mk rfl rfl | ((conv => whnf); first | with_reducible refine And.intro ?_ ?_ | with_reducible intro hx | exact Is.mk rfl rfl | (with_reducible first | apply Val.via | apply ValH.via) | refine ifB_intro ?_ ?_ | refine xA (by omega) ?_ | ((refine xB ?_); intro kw hk1 hk2) | refine xC (by omega) ?_ | refine xD ?_ | refine xE (by omega) ?_ | refine xF (by omega) ?_ | refine xG ?_ | refine xH ?_ | refine xI (by omega) ?_ | refine xJ (by omega) ?_ | (with_reducible refine stopA ?_) | refine Exists.intro _ (And.intro (by (first | exact vat_of rfl rfl rfl | rfl)) ?_) | refine GOp.drawn (by rfl) (by rfl) (Nat.le_of_ble_eq_true (by rfl)) (by rfl) | refine GOp.via (by rfl) ?_ | refine GWP.drawY mixed _ (by kernel_rfl) (by rfl) ?_ | (refine GCall.mk ((build_call (b := 0) (m := 1) rfl rfl).mono ?_); rintro _ _ ⟨rfl, rfl⟩) | (with_reducible first | refine stopO ?_ | refine stopE ?_ | refine stopD ?_ | refine stopW ?_ | refine stopG ?_ | refine stopC ?_ | refine stopR ?_))))
  all_goals exact Done'.mk ⟨rfl, rfl⟩
theorem lDisable (w : World) : (callFunc 56 #[]).run Try.prog w = .ok (.value (.tuple #[])) w := run_call_mark0 Try.func56 (by kernel_rfl) (by kernel_rfl) (by kernel_rfl) .disable (by kernel_rfl) w
theorem lEnable (w : World) : (callFunc 58 #[]).run Try.prog w = .ok (.value (.tuple #[])) w := run_call_mark0 Try.func58 (by kernel_rfl) (by kernel_rfl) (by kernel_rfl) .enable (by kernel_rfl) w
theorem lAcquire (a : Addr) (w : World) : (callFunc 59 #[.pointer (some a)]).run Try.prog w = .ok (.value (.tuple #[])) w := run_call_marked Try.func59 (by kernel_rfl) (by kernel_rfl) (by kernel_rfl) .acquire (by kernel_rfl) a w
theorem lRMerge (a : Addr) (w : World) : (callFunc 61 #[.pointer (some a)]).run Try.prog w = .ok (.value (.tuple #[])) w := run_call_marked Try.func61 (by kernel_rfl) (by kernel_rfl) (by kernel_rfl) .releaseMerge (by kernel_rfl) a w
theorem lILock (a : Addr) (w : World) (hc : w.cell? a = some (.int .i32 0)) (hz : w.frozen? a = false) :
    Calls Try.prog 49 #[.pointer (some a)] w fun e w' => e = .returned (.tuple #[]) ∧ w' = w.setCell a (.int .i32 1) := by
  have hd := lDisable
  have he := lEnable
  have ha := lAcquire
  have hcas := run_call_cas_hit (P := Try.prog) Try.func57 (by kernel_rfl) (by kernel_rfl) (by kernel_rfl) .i32 (by kernel_rfl) (y := 1) hc hz
  have hc' : (w.setCell a (.int .i32 1)).cell? a = some (.int .i32 1) := World.cell?_setCell_same w a _ hc
  have hcv := run_convert_to_unsafe (P := Try.prog) (src := 110) (dst := 108) Try.underlying110 Try.underlying108 (by kernel_rfl) hc'
  go_enter Try.func49, Try.ntmps49
  go_wp2
  first | go_end0 | (simp only [Exit.inBlock, Exit.then]; refine bodyPost_ret (results_none rfl _ _ _) rfl ?_) | refine bodyPost_ret (results_none rfl _ _ _) rfl ?_
  all_goals (try go_wp2)
  all_goals (try go_end0)
  all_goals exact ⟨rfl, rfl⟩
theorem lLock (b o : Nat) (w : World) (hc : w.cell? ⟨b, o, none⟩ = some (.int .i32 0)) (hz : w.frozen? ⟨b, o, none⟩ = false) :
    Calls Try.prog 41 #[.pointer (some ⟨b, o, none⟩)] w fun e w' => e = .returned (.tuple #[]) ∧ w' = w.setCell ⟨b, o, none⟩ (.int .i32 1) := by
  go_enter Try.func41, Try.ntmps41
  go_wp2_with (go_at_call 49; refine (lILock ⟨b, o, none⟩ _ hc hz).mono ?_; rintro e w' ⟨rfl, rfl⟩)
  all_goals (try go_wp2)
  all_goals (try go_end0)
  all_goals exact ⟨rfl, rfl⟩
theorem lIUnlock (a : Addr) (w : World) (hc : w.cell? a = some (.int .i32 1)) (hz : w.frozen? a = false) :
    Calls Try.prog 50 #[.pointer (some a)] w fun e w' => e = .returned (.tuple #[]) ∧ w' = w.setCell a (.int .i32 0) := by
  have hd := lDisable
  have he := lEnable
  have hr := lRMerge
  have hadd := run_call_add (P := Try.prog) Try.func62 (by kernel_rfl) (by kernel_rfl) (by kernel_rfl) .i32 (by kernel_rfl) (y := -1) (s := 0) hc hz (by simp [go_sem]; rfl)
  have hcv := run_convert_to_unsafe (P := Try.prog) (src := 110) (dst := 108) Try.underlying110 Try.underlying108 (by kernel_rfl) hc
  go_enter Try.func50, Try.ntmps50
  go_wp2
  all_goals (try go_end0)
  all_goals (try go_wp2)
  all_goals (try go_end0)
  all_goals exact ⟨rfl, rfl⟩
theorem lUnlock (b o : Nat) (u : FrameMode) (w : World) (hc : w.cell? ⟨b, o, none⟩ = some (.int .i32 1)) (hz : w.frozen? ⟨b, o, none⟩ = false) :
    CallsD Try.prog 42 #[.pointer (some ⟨b, o, none⟩)] u w fun e u' w' => u' = u ∧ (e = .returned (.tuple #[]) ∧ w' = w.setCell ⟨b, o, none⟩ (.int .i32 0)) := by
  go_enter_d Try.func42, Try.ntmps42
  go_wp2_with (go_at_call 50; refine (lIUnlock ⟨b, o, none⟩ _ hc hz).mono ?_; rintro e w' ⟨rfl, rfl⟩)
  all_goals (try go_wp2)
  all_goals (try go_end0)
  all_goals exact ⟨rfl, rfl⟩
theorem lStore (a : Addr) (x : Value) (u : FrameMode) (w : World) (hc : w.cell? a = some x) (hz : w.frozen? a = false) :
    CallsD Try.prog 43 #[.pointer (some a), .bool true] u w fun e u' w' => u' = u ∧ (e = .returned (.tuple #[]) ∧ w' = w.drew.setCell a (.int .u32 1)) := by
  have hc' : w.drew.cell? a = some x := by go_simp
  have hz' : w.drew.frozen? a = false := by go_simp
  have hst := run_call_store (P := Try.prog) Try.func51 (by kernel_rfl) (by kernel_rfl) (by kernel_rfl) (by kernel_rfl) (k := .u32) (y := 1) hc' hz'
  go_enter_d Try.func43, Try.ntmps43
  go_wp2
  go_region_calls
  all_goals (go_end0; exact ⟨rfl, rfl⟩)
end Go.Proofs.Ytbnemkdkeaiaoaa
