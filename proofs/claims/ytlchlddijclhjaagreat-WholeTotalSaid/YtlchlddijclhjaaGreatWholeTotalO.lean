/- The closed facts of the row. -/
import Derived.Test.YtlchlddijclhjaaGreatRows
import Derived.JoinedOf
import Derived.KernelRfl
namespace Go.Proofs.YtlchlddijclhjaaGreat.wholeTotalOver
open Go
theorem andT{a b:Bool}(h:a=true)(k:b=true):(a&&b)=true:=by rw[h,k];rfl
set_option maxHeartbeats 0 in
theorem closed:joinedFacts Tryz.prog 3 Tryz.f3 Rows.wholeTotalSpec Rows.wholeTotalRow=true:=by
 unfold joinedFacts;repeat' with_reducible refine andT ?_ ?_
 all_goals as_aux_lemma=>kernel_rfl
theorem named:Tryz.pinned.checked.prog.funcNamed Rows.wholeTotalRow.func=some 3:=by kernel_rfl
theorem inst:Tryz.f3.isInstance Tryz.prog Rows.wholeTotalRow.origin Rows.wholeTotalRow.targs:=of_decide_eq_true (by kernel_rfl)
theorem wrap:Tryz.f3.isWrapper Tryz.prog Rows.wholeTotalRow.wrapper Rows.wholeTotalRow.mainSum:=by unfold Func.isWrapper;first|(rw[if_pos (by decide +kernel)];kernel_rfl)|(rw[if_neg (by decide +kernel)];exact ⟨rfl,rfl⟩)
end Go.Proofs.YtlchlddijclhjaaGreat.wholeTotalOver
