import Derived.Test.YtnmjdjldbloefaaGreatDoorPE5
import Derived.Test.YtnmjdjldbloefaaGreatDoorPU6
import Derived.Test.YtnmjdjldbloefaaGreatDoorPU1
import Derived.Test.YtnmjdjldbloefaaGreatDoorPH0
import Derived.Test.YtnmjdjldbloefaaGreatDoorPG7
import Derived.Test.YtnmjdjldbloefaaGreatDoorShelf
import Derived.Lib.ItoaMem
/- The law TreeBack, walked. -/
namespace Go.Proofs.YtnmjdjldbloefaaGreatDoor
open Go Go.RowKit
set_option linter.unusedSimpArgs false
set_option linter.unusedVariables false
set_option maxRecDepth 100000
set_option maxHeartbeats 8000000
theorem itoa_ok:ItoaOk:=fun v hv H=>by
 have h:Qc Tryz.prog 51 [iV v] H (fun x K=>x=Qe (Lib.itoa v)∧K=H) :=
  Qc.ofBelow (vals:= [.int .i64 v]) (y:= .string ⟨(Lib.itoa v).toArray⟩) fun w ht=>(Tryz.strconv_Itoa v (by omega) (by omega) w ht).mono fun e w' ⟨he,k,os,hw⟩=>⟨he,by
   rw [hw]
   refine ⟨rfl,rfl,rfl,?_,fun j hj=> ?_⟩
   ·show w.heap.size≤(w.heap++os).size
    simp
   ·show (w.heap++os)[j]? = w.heap[j]?
    rw [Array.getElem?_append_left hj]⟩
 rw [Lib.itoa_nonneg] at h
 exact h
theorem quote_ok:QuoteOk:=fun x hx H=>quote_call x hx H
end Go.Proofs.YtnmjdjldbloefaaGreatDoor
