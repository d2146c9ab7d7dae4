/- The engine, part 33: loops of a constant number of rounds, gone through one by one. -/
import Derived.Test.YtdjafcjpnjdphaaDoorEng32
import Derived.LoopN
set_option linter.unusedVariables false
set_option linter.unusedSimpArgs false
namespace Go.Eng
open Go Go.RowKit
section
variable {P : Program} {n : Nat} {c : ACode} {Q : APost}
def aRounds (P : Program) (n : Nat) (c : ACode) (Q : APost) : Nat → AAct → AHeap → Prop
  | 0, _, _ => False
  | k + 1, a, h => vcCode P n c (thenA (aRounds P n c Q k) Q) a h
def vcRounds (w : Prims) (P : Program) (el : List Nat) (n : Nat) (c : ACode) (Q : APost) : Nat → AAct → AHeap → Prop
  | 0, _, _ => False
  | k + 1, a, h => vcCodeY w P el n c (thenA (vcRounds w P el n c Q k) Q) a h
theorem vcRounds_a {el : List Nat} : ∀ (k : Nat) (a : AAct) (h : AHeap), vcRounds std P el n c Q k a h → aRounds P n c Q k a h
  | 0, a, h, H => H.elim
  | k + 1, a, h, H => vcCodeY_sound (fun e a h hr => by
      cases e with
      | normal => exact vcRounds_a k a h hr
      | _ => exact hr) H
theorem aRounds_wp {code : Code} (hc : compileCode P code = some c) (hd : drawsB P code = true) (C0 : Cfg) : ∀ (k : Nat) (a : AAct) (C1 : Cfg) (act : Act), aRounds P n c Q k a C1.h → St C1 a act → n ≤ C1.h.length → Ext n C0 C1 →
    Code.rounds P code (fun e act' w' => ∃ a' D, Q e a' D.h ∧ D.w = w' ∧ St D a' act' ∧ Ext n C0 D ∧ n ≤ D.h.length) k act C1.w
  | 0, a, C1, act, H, S, hn, hE => H.elim
  | k + 1, a, C1, act, H, S, hn, hE => by
    refine wp_mono (vc_sound hc hd H C1 act rfl S hn) fun e act' w' ⟨a', D, h1, h2, h3, h4, h5⟩ => ?_
    cases e with
    | normal =>
      subst h2
      exact aRounds_wp hc hd C0 k a' D act' h1 h3 h5 (hE.trans h4)
    | _ => exact ⟨a', D, h1, h2, h3, hE.trans h4, h5⟩
theorem Loop.rounds {w : Prims} (hw : w = std) (N : Nat) {a : AAct} {h : AHeap} (H : vcRounds w P (elems [] c) n c Q N a h) : Loop P n c Q a h := by
  subst hw
  refine ⟨fun code hc hd C act hC S hn => ?_⟩
  subst hC
  exact wp_loop_rounds N (aRounds_wp hc hd C N a C act (vcRounds_a N a C.h H) S hn (Ext.refl _ _))
end
end Go.Eng
