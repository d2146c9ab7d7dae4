/- The closed facts of the row. -/
import Derived.Test.YtlchlddijclhjaaGreatRows
import Derived.JoinedOf
import Derived.KernelRfl
namespace Go.Proofs.YtlchlddijclhjaaGreat.navTotalOver
open Go
theorem andT{a b:Bool}(h:a=true)(k:b=true):(a&&b)=true:=by rw[h,k];rfl
set_option maxHeartbeats 0 in
theorem closed:joinedFacts Tryz.prog 8 Tryz.f8 Rows.navTotalSpec Rows.navTotalRow=true:=by
 unfold joinedFacts;repeat' with_reducible refine andT ?_ ?_
 all_goals as_aux_lemma=>kernel_rfl
theorem named:Tryz.pinned.checked.prog.funcNamed Rows.navTotalRow.func=some 8:=by kernel_rfl
theorem inst:Tryz.f8.isInstance Tryz.prog Rows.navTotalRow.origin Rows.navTotalRow.targs:=of_decide_eq_true (by kernel_rfl)
theorem wrap:Tryz.f8.isWrapper Tryz.prog Rows.navTotalRow.wrapper Rows.navTotalRow.mainSum:=by unfold Func.isWrapper;first|(rw[if_pos (by decide +kernel)];kernel_rfl)|(rw[if_neg (by decide +kernel)];exact ⟨rfl,rfl⟩)
end Go.Proofs.YtlchlddijclhjaaGreat.navTotalOver
