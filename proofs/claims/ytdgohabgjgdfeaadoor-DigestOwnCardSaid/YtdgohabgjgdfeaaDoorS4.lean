/- The constants of the sum. -/
import Derived.Test.YtdgohabgjgdfeaaDoorS1
import Derived.Test.YtdgohabgjgdfeaaDoorVf
namespace Go.Proofs.YtdgohabgjgdfeaaDoor
open Go Go.RowKit
set_option maxRecDepth 100000
set_option maxHeartbeats 8000000
def kI : List Int := [1116352408, 1899447441, 3049323471, 3921009573, 961987163, 1508970993, 2453635748, 2870763221, 3624381080, 310598401, 607225278, 1426881987, 1925078388, 2162078206, 2614888103, 3248222580, 3835390401, 4022224774, 264347078, 604807628, 770255983, 1249150122, 1555081692, 1996064986, 2554220882, 2821834349, 2952996808, 3210313671, 3336571891, 3584528711, 113926993, 338241895, 666307205, 773529912, 1294757372, 1396182291, 1695183700, 1986661051, 2177026350, 2456956037, 2730485921, 2820302411, 3259730800, 3345764771, 3516065817, 3600352804, 4094571909, 275423344, 430227734, 506948616, 659060556, 883997877, 958139571, 1322822218, 1537002063, 1747873779, 1955562222, 2024104815, 2227730452, 2361852424, 2428436474, 2756734187, 3204031479, 3329325298]
def kV : List VV := kI.map fun n => .sc (.int .u32 n)
def agB : Option (VV × Heap) → List VV → Bool
  | some (.ag vs, _), us => vs.length == us.length && (vs.zip us).all fun p => veq p.1 p.2
  | _, _ => false
theorem agB_eq {x : Option (VV × Heap)} {us : List VV} (h : agB x us = true) : ∃ H, x = some (.ag us, H) := by
  unfold agB at h
  split at h
  · rename_i _ vs H
    simp only [Bool.and_eq_true, beq_iff_eq] at h
    obtain ⟨h1, h2⟩ := h
    refine ⟨H, ?_⟩
    have key : ∀ (vs us : List VV), vs.length = us.length → ((vs.zip us).all fun p => veq p.1 p.2) = true → vs = us := by
      intro vs
      induction vs with
      | nil => intro us h _; exact (List.eq_nil_of_length_eq_zero h.symm).symm
      | cons v r ih =>
        intro us h h2
        cases us with
        | nil => simp at h
        | cons u us =>
          simp only [List.zip_cons_cons, List.all_cons, Bool.and_eq_true] at h2
          rw [veq_eq h2.1, ih us (by simpa using h) h2.2]
    rw [key _ _ h1 h2]
  · cases h
theorem consts_run : agB (vcallW Tryd.prog (vcode Tryd.prog 30) 161 [] ⟨[], 0⟩) kV = true := by kernel_rfl
theorem kV_sc : ∀ v ∈ kV, ∃ x, v = .sc x := fun v hv => by
  obtain ⟨n, _, rfl⟩ := List.mem_map.1 hv
  exact ⟨_, rfl⟩
theorem consts_call (H : Heap) : VCall Tryd.prog 161 [] H (fun v K => v = .ag kV ∧ K = H) := by
  obtain ⟨H', h⟩ := agB_eq consts_run
  refine VCall.pure (by simp) (nameless_ag fun v hv => ?_) ((VCall.run mixed 30 h).mono fun v K e => e.1)
  obtain ⟨x, rfl⟩ := kV_sc v hv
  exact nameless_sc x
end Go.Proofs.YtdgohabgjgdfeaaDoor
