/- The closed facts of the row. -/
import Derived.Test.YtlchlddijclhjaaGreatRows
import Derived.JoinedOf
import Derived.KernelRfl
namespace Go.Proofs.YtlchlddijclhjaaGreat.wholeSilentOver
open Go
theorem andT{a b:Bool}(h:a=true)(k:b=true):(a&&b)=true:=by rw[h,k];rfl
set_option maxHeartbeats 0 in
theorem closed:joinedFacts Tryz.prog 4 Tryz.f4 Rows.wholeSilentSpec Rows.wholeSilentRow=true:=by
 unfold joinedFacts;repeat' with_reducible refine andT ?_ ?_
 all_goals as_aux_lemma=>kernel_rfl
theorem named:Tryz.pinned.checked.prog.funcNamed Rows.wholeSilentRow.func=some 4:=by kernel_rfl
theorem inst:Tryz.f4.isInstance Tryz.prog Rows.wholeSilentRow.origin Rows.wholeSilentRow.targs:=of_decide_eq_true (by kernel_rfl)
theorem wrap:Tryz.f4.isWrapper Tryz.prog Rows.wholeSilentRow.wrapper Rows.wholeSilentRow.mainSum:=by unfold Func.isWrapper;first|(rw[if_pos (by decide +kernel)];kernel_rfl)|(rw[if_neg (by decide +kernel)];exact ⟨rfl,rfl⟩)
end Go.Proofs.YtlchlddijclhjaaGreat.wholeSilentOver
