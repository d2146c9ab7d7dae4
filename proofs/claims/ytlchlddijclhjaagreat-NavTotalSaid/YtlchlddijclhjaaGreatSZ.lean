/- Lemmas that stand for what the texts' macros say. -/
import Derived.Test.YtlchlddijclhjaaGreatS9
import Derived.KernelRfl
set_option linter.unusedVariables false
set_option linter.unusedSimpArgs false
namespace Go.Eng.Z
open Go Go.Eng
theorem z1 : ∀ (b : Bool), ((!b) = true) = (b = false) := @Bool.not_eq_true'
theorem z2 : ∀ (b : Bool), ((!b) = false) = (b = true) := @Bool.not_eq_false'
theorem z3 : ∀ {p : Prop} [inst : Decidable p], (decide p = true) = p := @decide_eq_true_eq
theorem z4 : ∀ {p : Prop} {x : Decidable p}, decide p = false ↔ ¬p := @decide_eq_false_iff_not
theorem z5 : ∀ {a b : Int}, ¬a < b ↔ b ≤ a := @Int.not_lt
theorem z6 : ∀ {a b : Int}, ¬a ≤ b ↔ b < a := @Int.not_le
theorem z7 : (false = true) = False := @Bool.false_eq_true
theorem z8 : ∀ {a b : Bool}, (!a) = b ↔ a = !b := @Bool.not_eq_eq_eq_not
theorem z9 : (!true) = false := @Bool.not_true
theorem y1 : (!false) = true := @Bool.not_false
theorem y2 : ∀ (n : Nat), Int.ofNat n = (n : Int) := @Int.ofNat_eq_natCast
theorem y3 : ∀ (b : Bool), (!!b) = b := @Bool.not_not
theorem y4 : (¬True) = False := @not_true_eq_false
theorem y5 : (¬False) = True := @not_false_eq_true
theorem a : (∀ (b : Bool), ((!b) = true) = (b = false)) ∧ (∀ (b : Bool), ((!b) = false) = (b = true)) ∧ (∀ {p : Prop} [inst : Decidable p], (decide p = true) = p) ∧ (∀ {p : Prop} {x : Decidable p}, decide p = false ↔ ¬p) ∧ (∀ {a b : Int}, ¬a < b ↔ b ≤ a) ∧ (∀ {a b : Int}, ¬a ≤ b ↔ b < a) ∧ ((false = true) = False) ∧ (∀ {a b : Bool}, (!a) = b ↔ a = !b) ∧ ((!true) = false) ∧ ((!false) = true) ∧ (∀ (n : Nat), Int.ofNat n = (n : Int)) ∧ (∀ (b : Bool), (!!b) = b) ∧ ((¬True) = False) ∧ ((¬False) = True) ∧ (∀ {α : Type} {h : Decidable True} (t e : α), (@ite α True h t e) = t) ∧ (∀ {α : Type} {h : Decidable False} (t e : α), (@ite α False h t e) = e) ∧ (∀ {α : Type} [BEq α] [LawfulBEq α] {a b : α}, (a == b) = true ↔ a = b) ∧ (∀ {α : Type} [BEq α] [LawfulBEq α] {a b : α}, (a != b) = true ↔ a ≠ b) ∧ (∀ {α : Type} (a b : α), (a ≠ b) = ¬a = b) ∧ (∀ {α : Type} [BEq α] [LawfulBEq α] {a b : α}, (a == b) = false ↔ a ≠ b) ∧ (∀ {α : Type} [BEq α] [LawfulBEq α] {a b : α}, (a != b) = false ↔ a = b) := ⟨@Bool.not_eq_true', @Bool.not_eq_false', @decide_eq_true_eq, @decide_eq_false_iff_not, @Int.not_lt, @Int.not_le, @Bool.false_eq_true, @Bool.not_eq_eq_eq_not, @Bool.not_true, @Bool.not_false, @Int.ofNat_eq_natCast, @Bool.not_not, @not_true_eq_false, @not_false_eq_true, @if_true, @if_false, @beq_iff_eq, @bne_iff_ne, @ne_eq, @beq_eq_false_iff_ne, @bne_eq_false_iff_eq⟩
section
variable {zA zG yT zD zF zW yR zN zQ zP yC zZ zV zT zK zM zO yE zS yF} (hw : (⟨zA, zG, yT, zD, zF, zW, yR, zN, zQ, zP, yC, zZ, zV, zT, zK, zM, zO, yE, zS, yF⟩ : k01) = std)
include hw
theorem w1 : zA = k05 := congrArg k01.bin hw
theorem w2 : zG = k04 := congrArg k01.cmp hw
theorem w3 : yT = k08 := congrArg k01.un hw
theorem w4 : zD = fun k n => k.wrap n := congrArg k01.conv hw
theorem w5 : zF = fun b => !b := congrArg k01.not hw
theorem w6 : zW = fun a b => a == b := congrArg k01.beq hw
theorem w7 : yR = k0M := congrArg k01.mm hw
theorem w8 : zN = k03 := congrArg k01.scmp hw
theorem w9 : zQ = fun x y => x ++ y := congrArg k01.sadd hw
theorem w10 : zP = fun s => (s.size : Int) := congrArg k01.slen hw
theorem w11 : yC = std.sat := congrArg k01.sat hw
theorem w12 : zZ = fun a b os => (k0O a b os).getD false := congrArg k01.eqs hw
theorem w13 : zV = fun es => (es.length : Int) := congrArg k01.len hw
theorem w14 : zT = fun es => es.length := congrArg k01.nlen hw
theorem w15 : zK = (fun n : Nat => (n : Int)) := congrArg k01.ofNat hw
theorem w16 : zM = fun es b => es.take b.toNat := congrArg k01.take hw
theorem w17 : zO = fun es a => es.drop a.toNat := congrArg k01.drop hw
theorem w18 : yE = fun a b => a ++ b := congrArg k01.app hw
theorem w19 : zS = fun n z => List.replicate n.toNat z := congrArg k01.zero hw
theorem w20 : yF = fun n => n.toNat := congrArg k01.nat hw
theorem z : (zA = k05) ∧ (zG = k04) ∧ (yT = k08) ∧ (zD = fun k n => k.wrap n) ∧ (zF = fun b => !b) ∧ (zW = fun a b => a == b) ∧ (yR = k0M) ∧ (zN = k03) ∧ (zQ = fun x y => x ++ y) ∧ (zP = fun s => (s.size : Int)) ∧ (yC = std.sat) ∧ (zZ = fun a b os => (k0O a b os).getD false) ∧ (zK = (fun n : Nat => (n : Int))) :=
  ⟨w1 hw, w2 hw, w3 hw, w4 hw, w5 hw, w6 hw, w7 hw, w8 hw, w9 hw, w10 hw, w11 hw, w12 hw, w15 hw⟩
end
theorem w {p : k01 → Prop} (H : ∀ zA zG yT zD zF zW yR zN zQ zP yC zZ zV zT zK zM zO yE zS yF (hw : (⟨zA, zG, yT, zD, zF, zW, yR, zN, zQ, zP, yC, zZ, zV, zT, zK, zM, zO, yE, zS, yF⟩ : k01) = std) (zC : zA = k05) (zB : zG = k04) (yM : yT = k08) (zH : zD = fun k n => k.wrap n) (zI : zF = fun b => !b) (yK : zW = fun a b => a == b) (yU : yR = k0M) (zX : zN = k03) (yB : zQ = fun x y => x ++ y) (yA : zP = fun s => (s.size : Int)) (yQ : yC = std.sat) (yP : zZ = fun a b os => (k0O a b os).getD false) (zE : zV = fun es => (es.length : Int)) (yO : zT = fun es => es.length) (zR : zK = (fun n : Nat => (n : Int))) (yD : zM = fun es b => es.take b.toNat) (yI : zO = fun es a => es.drop a.toNat) (yW : yE = fun a b => a ++ b) (yN : zS = fun n z => List.replicate n.toNat z) (yX : yF = fun n => n.toNat) (hz : (zA = k05) ∧ (zG = k04) ∧ (yT = k08) ∧ (zD = fun k n => k.wrap n) ∧ (zF = fun b => !b) ∧ (zW = fun a b => a == b) ∧ (yR = k0M) ∧ (zN = k03) ∧ (zQ = fun x y => x ++ y) ∧ (zP = fun s => (s.size : Int)) ∧ (yC = std.sat) ∧ (zZ = fun a b os => (k0O a b os).getD false) ∧ (zK = (fun n : Nat => (n : Int)))), p ⟨zA, zG, yT, zD, zF, zW, yR, zN, zQ, zP, yC, zZ, zV, zT, zK, zM, zO, yE, zS, yF⟩) : ∀ w, w = std → p w := by
  intro w hw
  obtain ⟨zA, zG, yT, zD, zF, zW, yR, zN, zQ, zP, yC, zZ, zV, zT, zK, zM, zO, yE, zS, yF⟩ := w
  exact H _ _ _ _ _ _ _ _ _ _ _ _ _ _ _ _ _ _ _ _ hw (w1 hw) (w2 hw) (w3 hw) (w4 hw) (w5 hw) (w6 hw) (w7 hw) (w8 hw) (w9 hw) (w10 hw) (w11 hw) (w12 hw) (w13 hw) (w14 hw) (w15 hw) (w16 hw) (w17 hw) (w18 hw) (w19 hw) (w20 hw) (z hw)
theorem v {p : k01 → Prop} (H : ∀ {zW yR zN zQ zP yC zZ zT zK zM zO yE zS yF} {yK : zW = fun a b => a == b} {yU : yR = k0M} {zX : zN = k03} {yB : zQ = fun x y => x ++ y} {yA : zP = fun s => (s.size : Int)} {yQ : yC = std.sat} {yP : zZ = fun a b os => (k0O a b os).getD false} {yO : zT = fun es => es.length} {zR : zK = (fun n : Nat => (n : Int))} {yD : zM = fun es b => es.take b.toNat} {yI : zO = fun es a => es.drop a.toNat} {yW : yE = fun a b => a ++ b} {yN : zS = fun n z => List.replicate n.toNat z} {yX : yF = fun n => n.toNat} zA zG yT zD zF zV (hw : (⟨zA, zG, yT, zD, zF, zW, yR, zN, zQ, zP, yC, zZ, zV, zT, zK, zM, zO, yE, zS, yF⟩ : k01) = std) (zC : zA = k05) (zB : zG = k04) (yM : yT = k08) (zH : zD = fun k n => k.wrap n) (zI : zF = fun b => !b) (zE : zV = fun es => (es.length : Int)) (hz : (zA = k05) ∧ (zG = k04) ∧ (yT = k08) ∧ (zD = fun k n => k.wrap n) ∧ (zF = fun b => !b) ∧ (zW = fun a b => a == b) ∧ (yR = k0M) ∧ (zN = k03) ∧ (zQ = fun x y => x ++ y) ∧ (zP = fun s => (s.size : Int)) ∧ (yC = std.sat) ∧ (zZ = fun a b os => (k0O a b os).getD false) ∧ (zK = (fun n : Nat => (n : Int)))), p ⟨zA, zG, yT, zD, zF, zW, yR, zN, zQ, zP, yC, zZ, zV, zT, zK, zM, zO, yE, zS, yF⟩) : ∀ w, w = std → p w := by
  intro w hw
  obtain ⟨zA, zG, yT, zD, zF, zW, yR, zN, zQ, zP, yC, zZ, zV, zT, zK, zM, zO, yE, zS, yF⟩ := w
  exact @H _ _ _ _ _ _ _ _ _ _ _ _ _ _ (w6 hw) (w7 hw) (w8 hw) (w9 hw) (w10 hw) (w11 hw) (w12 hw) (w14 hw) (w15 hw) (w16 hw) (w17 hw) (w18 hw) (w19 hw) (w20 hw) _ _ _ _ _ _ hw (w1 hw) (w2 hw) (w3 hw) (w4 hw) (w5 hw) (w13 hw) (z hw)
theorem q {p : Prop} (h : p := by (repeat' (first | exact trivial | rfl | assumption | apply And.intro | (simp only [hz, Z.a, k05, k04, k08, k03, k0M, reduceCtorEq]; first | done | assumption) | exact k26.same (by assumption) (by first | assumption | rfl) | exact FzL.mk rfl rfl rfl (by assumption) (by first | assumption | rfl) (by decide) | (refine k26.one ?_; cbv)))) : p := h
theorem k {a a' : k09} {h h' : k00} (f : Nat → Nat) (H : wkZ f h h'.length a' a ∧ hpZ f h'.length h 0 h') (hinj : ∀ i, i < h'.length → ∀ j, j < h'.length → f i = f j → i = j := by first | exact fun i _ j _ e => e | (simp only [List.length_cons, List.length_nil]; decide)) : Wk 0 a h a' h' := Wk.eqz f hinj H
theorem n {n : Nat} {a a' : k09} {h h' : k00} (f : Nat → Nat) (H : wkZ f h h'.length a' a ∧ hpD f h'.length h 0 h') (hid : ∀ i, i < n → f i = i := by intro i hi; first | rfl | (have hh : i = 0 ∨ i = 1 ∨ i = 2 ∨ i = 3 := (by first | omega | (simp at hi; omega)); rcases hh with hh | hh | hh | hh <;> subst hh <;> first | rfl | exact absurd hi (by decide))) (hnl : n ≤ h'.length := by exact Nat.le_of_ble_eq_true rfl) (hinj : ∀ i, i < h'.length → ∀ j, j < h'.length → f i = f j → i = j := by first | exact fun i _ j _ e => e | (simp only [List.length_cons, List.length_nil]; decide)) : Wk n a h a' h' := Wk.eqzN f hid hnl hinj H
theorem e {α : Type} (t : α) : ∃ x, x = t := ⟨_, rfl⟩
theorem f {α : Type} (t : α) : ∃ x, t = x := ⟨_, rfl⟩
theorem r {l : List AV} {h : k00} {R R0 : AV → Prop} (hR : ∀ r, R0 r → R r) (h1 : (k2Q l).upto 0 = true := by exact rfl) (h2 : R0 (k2Q l) := by exact rfl) : Ret l h R := ⟨_, Vw.same h1, hR _ h2⟩
theorem o {p : Prop} (h : p := by omega) : p := h
theorem d {p : Prop} (h : p := by decide) : p := h
theorem m {p : Prop} (h : p := by assumption) : p := h
theorem t {p : Prop} (h : p := by (try simp only); omega) : p := h
theorem i {a a' : k09} {h h' : k00} (H : Wk 0 a h a' h' := by refine Z.k id ?_; cbv <;> exact Z.q) : Wk 0 a h a' h' := H
theorem y {P : Program} {g : FuncId} {fn : Func} {args : List AV} {R : AV → Prop} {c} (hf : P.funcs[g]? = some fn) (H : ∀ {zW yR zN zQ zP yC zZ zT zK zM zO yE zS yF} {yK : zW = fun a b => a == b} {yU : yR = k0M} {zX : zN = k03} {yB : zQ = fun x y => x ++ y} {yA : zP = fun s => (s.size : Int)} {yQ : yC = std.sat} {yP : zZ = fun a b os => (k0O a b os).getD false} {yO : zT = fun es => es.length} {zR : zK = (fun n : Nat => (n : Int))} {yD : zM = fun es b => es.take b.toNat} {yI : zO = fun es a => es.drop a.toNat} {yW : yE = fun a b => a ++ b} {yN : zS = fun n z => List.replicate n.toNat z} {yX : yF = fun n => n.toNat} zA zG yT zD zF zV (hw : (⟨zA, zG, yT, zD, zF, zW, yR, zN, zQ, zP, yC, zZ, zV, zT, zK, zM, zO, yE, zS, yF⟩ : k01) = std) (zC : zA = k05) (zB : zG = k04) (yM : yT = k08) (zH : zD = fun k n => k.wrap n) (zI : zF = fun b => !b) (zE : zV = fun es => (es.length : Int)) (hz : (zA = k05) ∧ (zG = k04) ∧ (yT = k08) ∧ (zD = fun k n => k.wrap n) ∧ (zF = fun b => !b) ∧ (zW = fun a b => a == b) ∧ (yR = k0M) ∧ (zN = k03) ∧ (zQ = fun x y => x ++ y) ∧ (zP = fun s => (s.size : Int)) ∧ (yC = std.sat) ∧ (zZ = fun a b os => (k0O a b os).getD false) ∧ (zK = (fun n : Nat => (n : Int)))) (R' : AV → Prop) (hR : ∀ r, R r → R' r) (P0 : Program) (hP : P = P0), kHJ ⟨zA, zG, yT, zD, zF, zW, yR, zN, zQ, zP, yC, zZ, zV, zT, zK, zM, zO, yE, zS, yF⟩ c P0 args R') (hname :
  (fn.name == "runtime.NumGoroutine")
  = false := by kernel_rfl) (hdr : k5B P fn = true := by kernel_rfl) (hc : k2K P fn = c := by conv => lhs; cbv) : k02 P g args R := by
  subst hc
  exact k02.ofY hf hname hdr (v (@fun zW yR zN zQ zP yC zZ zT zK zM zO yE zS yF yK yU zX yB yA yQ yP yO zR yD yI yW yN yX zA zG yT zD zF zV hw zC zB yM zH zI zE hz R' hR => @H zW yR zN zQ zP yC zZ zT zK zM zO yE zS yF yK yU zX yB yA yQ yP yO zR yD yI yW yN yX zA zG yT zD zF zV hw zC zB yM zH zI zE hz R' hR P rfl))
theorem x {P : Program} {g : FuncId} {fn : Func} {args : List AV} {h : k00} {K : AV → k00 → Prop} {c} (hf : P.funcs[g]? = some fn) (H : ∀ {zW yR zN zQ zP yC zZ zT zK zM zO yE zS yF} {yK : zW = fun a b => a == b} {yU : yR = k0M} {zX : zN = k03} {yB : zQ = fun x y => x ++ y} {yA : zP = fun s => (s.size : Int)} {yQ : yC = std.sat} {yP : zZ = fun a b os => (k0O a b os).getD false} {yO : zT = fun es => es.length} {zR : zK = (fun n : Nat => (n : Int))} {yD : zM = fun es b => es.take b.toNat} {yI : zO = fun es a => es.drop a.toNat} {yW : yE = fun a b => a ++ b} {yN : zS = fun n z => List.replicate n.toNat z} {yX : yF = fun n => n.toNat} zA zG yT zD zF zV (hw : (⟨zA, zG, yT, zD, zF, zW, yR, zN, zQ, zP, yC, zZ, zV, zT, zK, zM, zO, yE, zS, yF⟩ : k01) = std) (zC : zA = k05) (zB : zG = k04) (yM : yT = k08) (zH : zD = fun k n => k.wrap n) (zI : zF = fun b => !b) (zE : zV = fun es => (es.length : Int)) (hz : (zA = k05) ∧ (zG = k04) ∧ (yT = k08) ∧ (zD = fun k n => k.wrap n) ∧ (zF = fun b => !b) ∧ (zW = fun a b => a == b) ∧ (yR = k0M) ∧ (zN = k03) ∧ (zQ = fun x y => x ++ y) ∧ (zP = fun s => (s.size : Int)) ∧ (yC = std.sat) ∧ (zZ = fun a b os => (k0O a b os).getD false) ∧ (zK = (fun n : Nat => (n : Int)))) (P0 : Program) (hP : P = P0), kKZ ⟨zA, zG, yT, zD, zF, zW, yR, zN, zQ, zP, yC, zZ, zV, zT, zK, zM, zO, yE, zS, yF⟩ c P0 args h K) (hname :
  (fn.name == "runtime.NumGoroutine")
  = false := by kernel_rfl) (hdr : k5B P fn = true := by kernel_rfl) (hc : k2K P fn = c := by conv => lhs; cbv) : k06 P g args h K := by
  subst hc
  exact k06.ofI hf hname hdr (v (@fun zW yR zN zQ zP yC zZ zT zK zM zO yE zS yF yK yU zX yB yA yQ yP yO zR yD yI yW yN yX zA zG yT zD zF zV hw zC zB yM zH zI zE hz => @H zW yR zN zQ zP yC zZ zT zK zM zO yE zS yF yK yU zX yB yA yQ yP yO zR yD yI yW yN yX zA zG yT zD zF zV hw zC zB yM zH zI zE hz P rfl))
theorem l {zV : List (List AV) → Int} (h : zV = fun es => (es.length : Int)) (es : List (List AV)) : ∃ L : Int, zV es = L ∧ 0 ≤ L ∧ L.toNat = es.length := ⟨(es.length : Int), by rw [h], Int.natCast_nonneg _, Int.toNat_natCast _⟩
instance : Coe Int AV := ⟨.int .i64⟩
instance : Coe Bool AV := ⟨.bool⟩
end Go.Eng.Z
namespace Go.Eng
open Go
abbrev jz (x : Int) : AV := .int .i64 x
end Go.Eng
