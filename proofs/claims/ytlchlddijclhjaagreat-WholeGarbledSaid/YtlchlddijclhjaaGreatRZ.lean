/- Lemmas that stand for what the texts' macros say. -/
import Derived.Test.YtlchlddijclhjaaGreatR9
import Derived.KernelRfl
set_option linter.unusedVariables false
set_option linter.unusedSimpArgs false
namespace Go.Eng.Z
open Go Go.Eng
theorem z1 : ∀ (b : Bool), ((!b) = true) = (b = false) := @Bool.not_eq_true'
theorem z2 : ∀ (b : Bool), ((!b) = false) = (b = true) := @Bool.not_eq_false'
theorem z3 : ∀ {p : Prop} [inst : Decidable p], (decide p = true) = p := @decide_eq_true_eq
theorem z4 : ∀ {p : Prop} {x : Decidable p}, decide p = false ↔ ¬p := @decide_eq_false_iff_not
theorem z5 : ∀ {a b : Int}, ¬a < b ↔ b ≤ a := @Int.not_lt
theorem z6 : ∀ {a b : Int}, ¬a ≤ b ↔ b < a := @Int.not_le
theorem z7 : (false = true) = False := @Bool.false_eq_true
theorem z8 : ∀ {a b : Bool}, (!a) = b ↔ a = !b := @Bool.not_eq_eq_eq_not
theorem z9 : (!true) = false := @Bool.not_true
theorem y1 : (!false) = true := @Bool.not_false
theorem y2 : ∀ (n : Nat), Int.ofNat n = (n : Int) := @Int.ofNat_eq_natCast
theorem y3 : ∀ (b : Bool), (!!b) = b := @Bool.not_not
theorem y4 : (¬True) = False := @not_true_eq_false
theorem y5 : (¬False) = True := @not_false_eq_true
theorem a : (∀ (b : Bool), ((!b) = true) = (b = false)) ∧ (∀ (b : Bool), ((!b) = false) = (b = true)) ∧ (∀ {p : Prop} [inst : Decidable p], (decide p = true) = p) ∧ (∀ {p : Prop} {x : Decidable p}, decide p = false ↔ ¬p) ∧ (∀ {a b : Int}, ¬a < b ↔ b ≤ a) ∧ (∀ {a b : Int}, ¬a ≤ b ↔ b < a) ∧ ((false = true) = False) ∧ (∀ {a b : Bool}, (!a) = b ↔ a = !b) ∧ ((!true) = false) ∧ ((!false) = true) ∧ (∀ (n : Nat), Int.ofNat n = (n : Int)) ∧ (∀ (b : Bool), (!!b) = b) ∧ ((¬True) = False) ∧ ((¬False) = True) ∧ (∀ {α : Type} {h : Decidable True} (t e : α), (@ite α True h t e) = t) ∧ (∀ {α : Type} {h : Decidable False} (t e : α), (@ite α False h t e) = e) ∧ (∀ {α : Type} [BEq α] [LawfulBEq α] {a b : α}, (a == b) = true ↔ a = b) ∧ (∀ {α : Type} [BEq α] [LawfulBEq α] {a b : α}, (a != b) = true ↔ a ≠ b) ∧ (∀ {α : Type} (a b : α), (a ≠ b) = ¬a = b) ∧ (∀ {α : Type} [BEq α] [LawfulBEq α] {a b : α}, (a == b) = false ↔ a ≠ b) ∧ (∀ {α : Type} [BEq α] [LawfulBEq α] {a b : α}, (a != b) = false ↔ a = b) := ⟨@Bool.not_eq_true', @Bool.not_eq_false', @decide_eq_true_eq, @decide_eq_false_iff_not, @Int.not_lt, @Int.not_le, @Bool.false_eq_true, @Bool.not_eq_eq_eq_not, @Bool.not_true, @Bool.not_false, @Int.ofNat_eq_natCast, @Bool.not_not, @not_true_eq_false, @not_false_eq_true, @if_true, @if_false, @beq_iff_eq, @bne_iff_ne, @ne_eq, @beq_eq_false_iff_ne, @bne_eq_false_iff_eq⟩
section
variable {zB zE yN zD zF zX yO zP zS zR yA yB zK zU zM zN zO yG zT yH} (hw : (⟨zB, zE, yN, zD, zF, zX, yO, zP, zS, zR, yA, yB, zK, zU, zM, zN, zO, yG, zT, yH⟩ : A8) = std)
include hw
theorem w1 : zB = AF := congrArg A8.bin hw
theorem w2 : zE = AC := congrArg A8.cmp hw
theorem w3 : yN = AO := congrArg A8.un hw
theorem w4 : zD = fun k n => k.wrap n := congrArg A8.conv hw
theorem w5 : zF = fun b => !b := congrArg A8.not hw
theorem w6 : zX = fun a b => a == b := congrArg A8.beq hw
theorem w7 : yO = AL := congrArg A8.mm hw
theorem w8 : zP = AP := congrArg A8.scmp hw
theorem w9 : zS = fun x y => x ++ y := congrArg A8.sadd hw
theorem w10 : zR = fun s => (s.size : Int) := congrArg A8.slen hw
theorem w11 : yA = std.sat := congrArg A8.sat hw
theorem w12 : yB = fun a b os => (Au a b os).getD false := congrArg A8.eqs hw
theorem w13 : zK = fun es => (es.length : Int) := congrArg A8.len hw
theorem w14 : zU = fun es => es.length := congrArg A8.nlen hw
theorem w15 : zM = (fun n : Nat => (n : Int)) := congrArg A8.ofNat hw
theorem w16 : zN = fun es b => es.take b.toNat := congrArg A8.take hw
theorem w17 : zO = fun es a => es.drop a.toNat := congrArg A8.drop hw
theorem w18 : yG = fun a b => a ++ b := congrArg A8.app hw
theorem w19 : zT = fun n z => List.replicate n.toNat z := congrArg A8.zero hw
theorem w20 : yH = fun n => n.toNat := congrArg A8.nat hw
theorem z : (zB = AF) ∧ (zE = AC) ∧ (yN = AO) ∧ (zD = fun k n => k.wrap n) ∧ (zF = fun b => !b) ∧ (zX = fun a b => a == b) ∧ (yO = AL) ∧ (zP = AP) ∧ (zS = fun x y => x ++ y) ∧ (zR = fun s => (s.size : Int)) ∧ (yA = std.sat) ∧ (yB = fun a b os => (Au a b os).getD false) ∧ (zM = (fun n : Nat => (n : Int))) :=
  ⟨w1 hw, w2 hw, w3 hw, w4 hw, w5 hw, w6 hw, w7 hw, w8 hw, w9 hw, w10 hw, w11 hw, w12 hw, w15 hw⟩
end
theorem w {p : A8 → Prop} (H : ∀ zB zE yN zD zF zX yO zP zS zR yA yB zK zU zM zN zO yG zT yH (hw : (⟨zB, zE, yN, zD, zF, zX, yO, zP, zS, zR, yA, yB, zK, zU, zM, zN, zO, yG, zT, yH⟩ : A8) = std) (zC : zB = AF) (zA : zE = AC) (yJ : yN = AO) (zG : zD = fun k n => k.wrap n) (zI : zF = fun b => !b) (yM : zX = fun a b => a == b) (yS : yO = AL) (zZ : zP = AP) (yF : zS = fun x y => x ++ y) (yE : zR = fun s => (s.size : Int)) (yT : yA = std.sat) (yU : yB = fun a b os => (Au a b os).getD false) (zH : zK = fun es => (es.length : Int)) (yR : zU = fun es => es.length) (zV : zM = (fun n : Nat => (n : Int))) (yI : zN = fun es b => es.take b.toNat) (yL : zO = fun es a => es.drop a.toNat) (yX : yG = fun a b => a ++ b) (yQ : zT = fun n z => List.replicate n.toNat z) (yY : yH = fun n => n.toNat) (hz : (zB = AF) ∧ (zE = AC) ∧ (yN = AO) ∧ (zD = fun k n => k.wrap n) ∧ (zF = fun b => !b) ∧ (zX = fun a b => a == b) ∧ (yO = AL) ∧ (zP = AP) ∧ (zS = fun x y => x ++ y) ∧ (zR = fun s => (s.size : Int)) ∧ (yA = std.sat) ∧ (yB = fun a b os => (Au a b os).getD false) ∧ (zM = (fun n : Nat => (n : Int)))), p ⟨zB, zE, yN, zD, zF, zX, yO, zP, zS, zR, yA, yB, zK, zU, zM, zN, zO, yG, zT, yH⟩) : ∀ w, w = std → p w := by
  intro w hw
  obtain ⟨zB, zE, yN, zD, zF, zX, yO, zP, zS, zR, yA, yB, zK, zU, zM, zN, zO, yG, zT, yH⟩ := w
  exact H _ _ _ _ _ _ _ _ _ _ _ _ _ _ _ _ _ _ _ _ hw (w1 hw) (w2 hw) (w3 hw) (w4 hw) (w5 hw) (w6 hw) (w7 hw) (w8 hw) (w9 hw) (w10 hw) (w11 hw) (w12 hw) (w13 hw) (w14 hw) (w15 hw) (w16 hw) (w17 hw) (w18 hw) (w19 hw) (w20 hw) (z hw)
theorem v {p : A8 → Prop} (H : ∀ {zX yO zP zS zR yA yB zU zM zN zO yG zT yH} {yM : zX = fun a b => a == b} {yS : yO = AL} {zZ : zP = AP} {yF : zS = fun x y => x ++ y} {yE : zR = fun s => (s.size : Int)} {yT : yA = std.sat} {yU : yB = fun a b os => (Au a b os).getD false} {yR : zU = fun es => es.length} {zV : zM = (fun n : Nat => (n : Int))} {yI : zN = fun es b => es.take b.toNat} {yL : zO = fun es a => es.drop a.toNat} {yX : yG = fun a b => a ++ b} {yQ : zT = fun n z => List.replicate n.toNat z} {yY : yH = fun n => n.toNat} zB zE yN zD zF zK (hw : (⟨zB, zE, yN, zD, zF, zX, yO, zP, zS, zR, yA, yB, zK, zU, zM, zN, zO, yG, zT, yH⟩ : A8) = std) (zC : zB = AF) (zA : zE = AC) (yJ : yN = AO) (zG : zD = fun k n => k.wrap n) (zI : zF = fun b => !b) (zH : zK = fun es => (es.length : Int)) (hz : (zB = AF) ∧ (zE = AC) ∧ (yN = AO) ∧ (zD = fun k n => k.wrap n) ∧ (zF = fun b => !b) ∧ (zX = fun a b => a == b) ∧ (yO = AL) ∧ (zP = AP) ∧ (zS = fun x y => x ++ y) ∧ (zR = fun s => (s.size : Int)) ∧ (yA = std.sat) ∧ (yB = fun a b os => (Au a b os).getD false) ∧ (zM = (fun n : Nat => (n : Int)))), p ⟨zB, zE, yN, zD, zF, zX, yO, zP, zS, zR, yA, yB, zK, zU, zM, zN, zO, yG, zT, yH⟩) : ∀ w, w = std → p w := by
  intro w hw
  obtain ⟨zB, zE, yN, zD, zF, zX, yO, zP, zS, zR, yA, yB, zK, zU, zM, zN, zO, yG, zT, yH⟩ := w
  exact @H _ _ _ _ _ _ _ _ _ _ _ _ _ _ (w6 hw) (w7 hw) (w8 hw) (w9 hw) (w10 hw) (w11 hw) (w12 hw) (w14 hw) (w15 hw) (w16 hw) (w17 hw) (w18 hw) (w19 hw) (w20 hw) _ _ _ _ _ _ hw (w1 hw) (w2 hw) (w3 hw) (w4 hw) (w5 hw) (w13 hw) (z hw)
theorem q {p : Prop} (h : p := by (repeat' (first | exact trivial | rfl | assumption | apply And.intro | (simp only [hz, Z.a, AF, AC, AO, AP, AL, reduceCtorEq]; first | done | assumption) | exact Bn.same (by assumption) (by first | assumption | rfl) | exact FzL.mk rfl rfl rfl (by assumption) (by first | assumption | rfl) (by decide) | (refine Bn.one ?_; cbv)))) : p := h
theorem k {a a' : AA} {h h' : A7} (f : Nat → Nat) (H : wkZ f h h'.length a' a ∧ hpZ f h'.length h 0 h') (hinj : ∀ i, i < h'.length → ∀ j, j < h'.length → f i = f j → i = j := by first | exact fun i _ j _ e => e | (simp only [List.length_cons, List.length_nil]; decide)) : Wk 0 a h a' h' := Wk.eqz f hinj H
theorem n {n : Nat} {a a' : AA} {h h' : A7} (f : Nat → Nat) (H : wkZ f h h'.length a' a ∧ hpD f h'.length h 0 h') (hid : ∀ i, i < n → f i = i := by intro i hi; first | rfl | (have hh : i = 0 ∨ i = 1 ∨ i = 2 ∨ i = 3 := (by first | omega | (simp at hi; omega)); rcases hh with hh | hh | hh | hh <;> subst hh <;> first | rfl | exact absurd hi (by decide))) (qW : n ≤ h'.length := by exact Nat.le_of_ble_eq_true rfl) (hinj : ∀ i, i < h'.length → ∀ j, j < h'.length → f i = f j → i = j := by first | exact fun i _ j _ e => e | (simp only [List.length_cons, List.length_nil]; decide)) : Wk n a h a' h' := Wk.eqzN f hid qW hinj H
theorem e {α : Type} (t : α) : ∃ x, x = t := ⟨_, rfl⟩
theorem f {α : Type} (t : α) : ∃ x, t = x := ⟨_, rfl⟩
theorem r {l : List AV} {h : A7} {R R0 : AV → Prop} (hR : ∀ r, R0 r → R r) (h1 : (Cb l).upto 0 = true := by exact rfl) (h2 : R0 (Cb l) := by exact rfl) : Ret l h R := ⟨_, Vw.same h1, hR _ h2⟩
theorem o {p : Prop} (h : p := by omega) : p := h
theorem d {p : Prop} (h : p := by decide) : p := h
theorem m {p : Prop} (h : p := by assumption) : p := h
theorem t {p : Prop} (h : p := by (try simp only); omega) : p := h
theorem i {a a' : AA} {h h' : A7} (H : Wk 0 a h a' h' := by refine Z.k id ?_; cbv <;> exact Z.q) : Wk 0 a h a' h' := H
theorem y {P : Program} {g : FuncId} {fn : Func} {args : List AV} {R : AV → Prop} {c} (hf : P.funcs[g]? = some fn) (H : ∀ {zX yO zP zS zR yA yB zU zM zN zO yG zT yH} {yM : zX = fun a b => a == b} {yS : yO = AL} {zZ : zP = AP} {yF : zS = fun x y => x ++ y} {yE : zR = fun s => (s.size : Int)} {yT : yA = std.sat} {yU : yB = fun a b os => (Au a b os).getD false} {yR : zU = fun es => es.length} {zV : zM = (fun n : Nat => (n : Int))} {yI : zN = fun es b => es.take b.toNat} {yL : zO = fun es a => es.drop a.toNat} {yX : yG = fun a b => a ++ b} {yQ : zT = fun n z => List.replicate n.toNat z} {yY : yH = fun n => n.toNat} zB zE yN zD zF zK (hw : (⟨zB, zE, yN, zD, zF, zX, yO, zP, zS, zR, yA, yB, zK, zU, zM, zN, zO, yG, zT, yH⟩ : A8) = std) (zC : zB = AF) (zA : zE = AC) (yJ : yN = AO) (zG : zD = fun k n => k.wrap n) (zI : zF = fun b => !b) (zH : zK = fun es => (es.length : Int)) (hz : (zB = AF) ∧ (zE = AC) ∧ (yN = AO) ∧ (zD = fun k n => k.wrap n) ∧ (zF = fun b => !b) ∧ (zX = fun a b => a == b) ∧ (yO = AL) ∧ (zP = AP) ∧ (zS = fun x y => x ++ y) ∧ (zR = fun s => (s.size : Int)) ∧ (yA = std.sat) ∧ (yB = fun a b os => (Au a b os).getD false) ∧ (zM = (fun n : Nat => (n : Int)))) (R' : AV → Prop) (hR : ∀ r, R r → R' r) (P0 : Program) (hP : P = P0), M8 ⟨zB, zE, yN, zD, zF, zX, yO, zP, zS, zR, yA, yB, zK, zU, zM, zN, zO, yG, zT, yH⟩ c P0 args R') (hname :
  (fn.name == "runtime.NumGoroutine")
  = false := by kernel_rfl) (lL : EQ P fn = true := by kernel_rfl) (hc : Dh P fn = c := by conv => lhs; cbv) : A9 P g args R := by
  subst hc
  exact A9.ofY hf hname lL (v (@fun zX yO zP zS zR yA yB zU zM zN zO yG zT yH yM yS zZ yF yE yT yU yR zV yI yL yX yQ yY zB zE yN zD zF zK hw zC zA yJ zG zI zH hz R' hR => @H zX yO zP zS zR yA yB zU zM zN zO yG zT yH yM yS zZ yF yE yT yU yR zV yI yL yX yQ yY zB zE yN zD zF zK hw zC zA yJ zG zI zH hz R' hR P rfl))
theorem x {P : Program} {g : FuncId} {fn : Func} {args : List AV} {h : A7} {K : AV → A7 → Prop} {c} (hf : P.funcs[g]? = some fn) (H : ∀ {zX yO zP zS zR yA yB zU zM zN zO yG zT yH} {yM : zX = fun a b => a == b} {yS : yO = AL} {zZ : zP = AP} {yF : zS = fun x y => x ++ y} {yE : zR = fun s => (s.size : Int)} {yT : yA = std.sat} {yU : yB = fun a b os => (Au a b os).getD false} {yR : zU = fun es => es.length} {zV : zM = (fun n : Nat => (n : Int))} {yI : zN = fun es b => es.take b.toNat} {yL : zO = fun es a => es.drop a.toNat} {yX : yG = fun a b => a ++ b} {yQ : zT = fun n z => List.replicate n.toNat z} {yY : yH = fun n => n.toNat} zB zE yN zD zF zK (hw : (⟨zB, zE, yN, zD, zF, zX, yO, zP, zS, zR, yA, yB, zK, zU, zM, zN, zO, yG, zT, yH⟩ : A8) = std) (zC : zB = AF) (zA : zE = AC) (yJ : yN = AO) (zG : zD = fun k n => k.wrap n) (zI : zF = fun b => !b) (zH : zK = fun es => (es.length : Int)) (hz : (zB = AF) ∧ (zE = AC) ∧ (yN = AO) ∧ (zD = fun k n => k.wrap n) ∧ (zF = fun b => !b) ∧ (zX = fun a b => a == b) ∧ (yO = AL) ∧ (zP = AP) ∧ (zS = fun x y => x ++ y) ∧ (zR = fun s => (s.size : Int)) ∧ (yA = std.sat) ∧ (yB = fun a b os => (Au a b os).getD false) ∧ (zM = (fun n : Nat => (n : Int)))) (P0 : Program) (hP : P = P0), KW ⟨zB, zE, yN, zD, zF, zX, yO, zP, zS, zR, yA, yB, zK, zU, zM, zN, zO, yG, zT, yH⟩ c P0 args h K) (hname :
  (fn.name == "runtime.NumGoroutine")
  = false := by kernel_rfl) (lL : EQ P fn = true := by kernel_rfl) (hc : Dh P fn = c := by conv => lhs; cbv) : AJ P g args h K := by
  subst hc
  exact AJ.ofI hf hname lL (v (@fun zX yO zP zS zR yA yB zU zM zN zO yG zT yH yM yS zZ yF yE yT yU yR zV yI yL yX yQ yY zB zE yN zD zF zK hw zC zA yJ zG zI zH hz => @H zX yO zP zS zR yA yB zU zM zN zO yG zT yH yM yS zZ yF yE yT yU yR zV yI yL yX yQ yY zB zE yN zD zF zK hw zC zA yJ zG zI zH hz P rfl))
theorem l {zK : List (List AV) → Int} (h : zK = fun es => (es.length : Int)) (es : List (List AV)) : ∃ L : Int, zK es = L ∧ 0 ≤ L ∧ L.toNat = es.length := ⟨(es.length : Int), by rw [h], Int.natCast_nonneg _, Int.toNat_natCast _⟩
instance : Coe Int AV := ⟨.int .i64⟩
instance : Coe Bool AV := ⟨.bool⟩
end Go.Eng.Z
namespace Go.Eng
open Go
abbrev jz (x : Int) : AV := .int .i64 x
end Go.Eng
