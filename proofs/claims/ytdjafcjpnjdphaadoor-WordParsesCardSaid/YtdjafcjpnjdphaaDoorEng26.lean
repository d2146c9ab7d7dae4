/- Views of own pointers and of closures that hold them. -/
import Derived.Test.YtdjafcjpnjdphaaDoorEng25
import Derived.KernelRfl
set_option linter.unusedVariables false
namespace Go.Eng
open Go
theorem Vw.ref {h : AHeap} {s z i o : Nat} {es : List (List AV)} {row : List AV} (hs : h[s]? = some (.live z es)) (he : es[i]? = some row) (hu : uptoL 0 row = true) (ho : o ≤ row.length) (hz0 : 0 < z := by decide) : Vw h (.ref s z i o) (.cref (row.drop o)) := by
  intro C hC R u hv
  subst hC
  obtain ⟨hus, rfl⟩ := hv.ref'
  obtain ⟨hz, hO, hes, vs, ty, fz, hh, hfz, hsz, hvr⟩ := R.live s z es hs hz0
  have hil : i < es.length := (List.getElem?_eq_some_iff.1 he).1
  have hrl : row.length = z := hes row (List.mem_of_getElem? he)
  refine .cref _ _ (fun j => vs.getD (i * z + (o + j)) undef) rfl (fun j hj => ?_) (fun _ hown => ?_) fun j x hx => ?_
  · have hj2 : o + j < z := by simp only [List.length_drop] at hj; omega
    have hlt := row_lt (i := i) (n := es.length) (z := z) hil hj2
    have : i * z + o + j = i * z + (o + j) := by omega
    show C.w.cell? _ = _
    unfold World.cell?
    simp only [hh, this]
    have h2 : i * z + (o + j) < vs.size := by omega
    simp [h2, Array.getD_eq_getD_getElem?]
  · rcases hown with hb | ⟨s, ⟨z, es, hs⟩, _⟩
    · exact hO hb
    · simp at hs
  · rw [List.getElem?_drop] at hx
    exact Vw.same (h := C.h) (uptoL_get hu hx) C rfl R _ (hvr i row he (o + j) x hx)
theorem Vw.func {h : AHeap} {fn : Fn} {a b a' b' : List AV} (H : VwL h a a') (K : VwL h b b') : Vw h (.func fn a b) (.func fn a' b') := by
  intro C hC R u hu
  obtain ⟨vf, vc, rfl, hF, hK⟩ := hu.func'
  obtain ⟨h1, h2⟩ := H.get
  obtain ⟨k1, k2⟩ := K.get
  refine .func _ _ _ _ _ (by rw [hF.1, h1]) (by rw [hK.1, k1]) (fun i x hx => ?_) fun i x hx => ?_
  · obtain ⟨v, hv, hw⟩ := h2 i x hx
    exact hw C hC R _ (hF.2 i v hv)
  · obtain ⟨v, hv, hw⟩ := k2 i x hx
    exact hw C hC R _ (hK.2 i v hv)
end Go.Eng
