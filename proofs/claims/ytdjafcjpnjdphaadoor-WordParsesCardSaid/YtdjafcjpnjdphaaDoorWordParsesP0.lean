/- Texts of the proof of WordParses, joined by wip/tools/pack.py. -/
import Derived.Shelf.Strconv.Itoa4
import Derived.Shelf.Strings.BuilderK
import Derived.Shelf.Strings.Search2
import Derived.Shelf.Strconv.ParseIntPublic10
import Derived.Test.YtdjafcjpnjdphaaDoorProg
import Derived.LaidLaws
import Derived.Test.YtdjafcjpnjdphaaDoorEng23
import Derived.RowKit
import Derived.LaidHandle
import Derived.LaidSub
import Derived.Lib.LaidTab
import Derived.KernelRfl
import Derived.Lib.ItoaLen
import Derived.Lib.Join
import Derived.Test.YtdjafcjpnjdphaaDoorBase
import Derived.Test.YtdjafcjpnjdphaaDoorEng30
import Derived.StillTail
import Derived.Test.YtdjafcjpnjdphaaDoorEngD
import Derived.WalkKit
import Derived.ProofKit
import Derived.BigCall
import Derived.Lib.Hide
import Derived.Lib.ParseIntBTie
import Derived.Lib.OthersKept
import Derived.Laws.RangeAny
import Derived.Lib.IndexLaws
import Derived.Test.YtdjafcjpnjdphaaDoorEng31
import Derived.Test.YtdjafcjpnjdphaaDoorEngW
import Derived.Test.YtdjafcjpnjdphaaDoorEngV
/- The shelf's contracts at this dump, in plain words (printed by the kit's lay-plain.mjs). -/
namespace Go.Proofs
open Go.Shelf
def Tryd.formatL_ren : Go.Shelf.Ren := ⟨fun | 173 => 16 | 246 => 29 | 283 => 34 | 284 => 35 | 285 => 36 | 286 => 37 | 129 => 56 | 317 => 55 | 318 => 57 | 319 => 58 | 320 => 59 | 337 => 70 | 338 => 71 | n => n, fun | 2 => 2 | 3 => 3 | 9 => 9 | 4 => 4 | 171 => 71 | 0 => 0 | 53 => 72 | 37 => 40 | 5 => 5 | 173 => 75 | 212 => 83 | 51 => 84 | 20 => 20 | 213 => 85 | 46 => 87 | 232 => 107 | 233 => 108 | n => n, fun | 17 => 1 | 18 => 5 | 19 => 6 | n => n⟩
theorem Tryd.formatL : Go.Proofs.LaysM.n173 Tryd.prog Tryd.formatL_ren := {
  mixed := by kernel_rfl
  f129 := Tryd.func56.trans (congrArg some (by kernel_rfl))
  f173 := Tryd.func16.trans (congrArg some (by kernel_rfl))
  f246 := Tryd.func29.trans (congrArg some (by kernel_rfl))
  f283 := Tryd.func34.trans (congrArg some (by kernel_rfl))
  f284 := Tryd.func35.trans (congrArg some (by kernel_rfl))
  f285 := Tryd.func36.trans (congrArg some (by kernel_rfl))
  f286 := Tryd.func37.trans (congrArg some (by kernel_rfl))
  f317 := Tryd.func55.trans (congrArg some (by kernel_rfl))
  f318 := Tryd.func57.trans (congrArg some (by kernel_rfl))
  f319 := Tryd.func58.trans (congrArg some (by kernel_rfl))
  f320 := Tryd.func59.trans (congrArg some (by kernel_rfl))
  f337 := Tryd.func70.trans (congrArg some (by kernel_rfl))
  f338 := Tryd.func71.trans (congrArg some (by kernel_rfl))
  t0 := Tryd.underlying0
  a0 := Tryd.isAgg0
  z0 := Tryd.sizeOf0
  v0 := Tryd.zeroValue0
  t2 := Tryd.underlying2
  a2 := Tryd.isAgg2
  z2 := Tryd.sizeOf2
  v2 := Tryd.zeroValue2
  t3 := Tryd.underlying3
  a3 := Tryd.isAgg3
  z3 := Tryd.sizeOf3
  v3 := Tryd.zeroValue3
  t4 := Tryd.underlying4
  a4 := Tryd.isAgg4
  z4 := Tryd.sizeOf4
  v4 := Tryd.zeroValue4
  t5 := Tryd.underlying5
  a5 := Tryd.isAgg5
  z5 := Tryd.sizeOf5
  v5 := Tryd.zeroValue5
  t9 := Tryd.underlying9
  a9 := Tryd.isAgg9
  z9 := Tryd.sizeOf9
  v9 := Tryd.zeroValue9
  t20 := Tryd.underlying20
  a20 := Tryd.isAgg20
  z20 := Tryd.sizeOf20
  v20 := Tryd.zeroValue20
  t37 := Tryd.underlying40
  a37 := Tryd.isAgg40
  z37 := Tryd.sizeOf40
  v37 := Tryd.zeroValue40
  t46 := Tryd.underlying87
  a46 := Tryd.isAgg87
  z46 := Tryd.sizeOf87
  v46 := Tryd.zeroValue87
  t51 := Tryd.underlying84
  a51 := Tryd.isAgg84
  z51 := Tryd.sizeOf84
  v51 := Tryd.zeroValue84
  t53 := Tryd.underlying72
  a53 := Tryd.isAgg72
  z53 := Tryd.sizeOf72
  v53 := Tryd.zeroValue72
  t171 := Tryd.underlying71
  a171 := Tryd.isAgg71
  z171 := Tryd.sizeOf71
  v171 := Tryd.zeroValue71
  t173 := Tryd.underlying75
  a173 := Tryd.isAgg75
  z173 := Tryd.sizeOf75
  v173 := Tryd.zeroValue75
  t212 := Tryd.underlying83
  a212 := Tryd.isAgg83
  z212 := Tryd.sizeOf83
  v212 := Tryd.zeroValue83
  t213 := Tryd.underlying85
  a213 := Tryd.isAgg85
  z213 := Tryd.sizeOf85
  t232 := Tryd.underlying107
  a232 := Tryd.isAgg107
  z232 := Tryd.sizeOf107
  v232 := Tryd.zeroValue107
  t233 := Tryd.underlying108
  a233 := Tryd.isAgg108
  z233 := Tryd.sizeOf108
  v233 := Tryd.zeroValue108
  g17 := by kernel_rfl
  g18 := by kernel_rfl
  g19 := by kernel_rfl
  i0 := by kernel_rfl
  i2 := by kernel_rfl
  i3 := by kernel_rfl
  i4 := by kernel_rfl
  i5 := by kernel_rfl
  i9 := by kernel_rfl
  i20 := by kernel_rfl
  i37 := by kernel_rfl
  i46 := by kernel_rfl
  i51 := by kernel_rfl
  i53 := by kernel_rfl
  i171 := by kernel_rfl
  i173 := by kernel_rfl
  i212 := by kernel_rfl
  i232 := by kernel_rfl
  i233 := by kernel_rfl
  m17 := by kernel_rfl
  m18 := by kernel_rfl
  m19 := by kernel_rfl }
def Tryd.stringL_ren : Go.Shelf.Ren := ⟨fun | 169 => 17 | n => n, fun | 70 => 39 | 9 => 9 | 0 => 0 | 72 => 42 | 37 => 40 | 127 => 63 | 3 => 3 | 5 => 5 | n => n, fun | n => n⟩
theorem Tryd.stringL : Go.Proofs.Lays.n169 Tryd.prog Tryd.stringL_ren := {
  mixed := by kernel_rfl
  f169 := Tryd.func17.trans (congrArg some (by kernel_rfl))
  t0 := Tryd.underlying0
  a0 := Tryd.isAgg0
  z0 := Tryd.sizeOf0
  v0 := Tryd.zeroValue0
  t3 := Tryd.underlying3
  a3 := Tryd.isAgg3
  z3 := Tryd.sizeOf3
  v3 := Tryd.zeroValue3
  t9 := Tryd.underlying9
  a9 := Tryd.isAgg9
  z9 := Tryd.sizeOf9
  v9 := Tryd.zeroValue9
  t37 := Tryd.underlying40
  a37 := Tryd.isAgg40
  z37 := Tryd.sizeOf40
  v37 := Tryd.zeroValue40
  t70 := Tryd.underlying39
  a70 := Tryd.isAgg39
  z70 := Tryd.sizeOf39
  v70 := Tryd.zeroValue39
  t72 := Tryd.underlying42
  a72 := Tryd.isAgg42
  z72 := Tryd.sizeOf42
  v72 := Tryd.zeroValue42
  t127 := Tryd.underlying63
  a127 := Tryd.isAgg63
  z127 := Tryd.sizeOf63
  v127 := Tryd.zeroValue63 }
def Tryd.indexL_ren : Go.Shelf.Ren := ⟨fun | 219 => 38 | 217 => 60 | 225 => 61 | 224 => 62 | 267 => 63 | 266 => 72 | 314 => 73 | n => n, fun | 9 => 9 | 3 => 3 | 4 => 4 | 5 => 5 | 46 => 87 | 146 => 99 | 51 => 84 | n => n, fun | 1 => 2 | n => n⟩
theorem Tryd.indexL : Go.Proofs.Lays.n219 Tryd.prog Tryd.indexL_ren := {
  mixed := by kernel_rfl
  f217 := Tryd.func60.trans (congrArg some (by kernel_rfl))
  f219 := Tryd.func38.trans (congrArg some (by kernel_rfl))
  f224 := Tryd.func62.trans (congrArg some (by kernel_rfl))
  f225 := Tryd.func61.trans (congrArg some (by kernel_rfl))
  f266 := Tryd.func72.trans (congrArg some (by kernel_rfl))
  f267 := Tryd.func63.trans (congrArg some (by kernel_rfl))
  f314 := Tryd.func73.trans (congrArg some (by kernel_rfl))
  t3 := Tryd.underlying3
  a3 := Tryd.isAgg3
  z3 := Tryd.sizeOf3
  v3 := Tryd.zeroValue3
  t4 := Tryd.underlying4
  a4 := Tryd.isAgg4
  z4 := Tryd.sizeOf4
  v4 := Tryd.zeroValue4
  t5 := Tryd.underlying5
  a5 := Tryd.isAgg5
  z5 := Tryd.sizeOf5
  v5 := Tryd.zeroValue5
  t9 := Tryd.underlying9
  a9 := Tryd.isAgg9
  z9 := Tryd.sizeOf9
  v9 := Tryd.zeroValue9
  t46 := Tryd.underlying87
  a46 := Tryd.isAgg87
  z46 := Tryd.sizeOf87
  v46 := Tryd.zeroValue87
  t51 := Tryd.underlying84
  a51 := Tryd.isAgg84
  z51 := Tryd.sizeOf84
  v51 := Tryd.zeroValue84
  t146 := Tryd.underlying99
  a146 := Tryd.isAgg99
  z146 := Tryd.sizeOf99
  v146 := Tryd.zeroValue99
  g1 := by kernel_rfl }
def Tryd.parseL_ren : Go.Shelf.Ren := ⟨fun | 174 => 31 | 247 => 39 | 245 => 40 | 287 => 64 | 279 => 65 | 280 => 66 | 281 => 67 | 282 => 68 | 321 => 74 | 322 => 75 | 316 => 76 | 171 => 78 | 205 => 77 | 243 => 80 | 246 => 29 | 283 => 34 | 284 => 35 | 285 => 36 | 286 => 37 | 129 => 56 | 317 => 55 | 318 => 57 | 319 => 58 | 320 => 59 | 337 => 70 | 338 => 71 | n => n, fun | 9 => 9 | 3 => 3 | 2 => 2 | 75 => 45 | 85 => 64 | 4 => 4 | 167 => 90 | 5 => 5 | 53 => 72 | 175 => 91 | 46 => 87 | 168 => 93 | 37 => 40 | 0 => 0 | 210 => 104 | 21 => 21 | 127 => 63 | 145 => 111 | 143 => 109 | 171 => 71 | 173 => 75 | 212 => 83 | 51 => 84 | 20 => 20 | 213 => 85 | 232 => 107 | 233 => 108 | 80 => 50 | n => n, fun | 15 => 3 | 16 => 4 | 17 => 1 | 18 => 5 | 19 => 6 | n => n⟩
theorem Tryd.parseL : Go.Proofs.LaysC.n174 Tryd.prog Tryd.parseL_ren := {
  mixed := by kernel_rfl
  f129 := Tryd.func56.trans (congrArg some (by kernel_rfl))
  f171 := Tryd.func78.trans (congrArg some (by kernel_rfl))
  f174 := Tryd.func31.trans (congrArg some (by kernel_rfl))
  f205 := Tryd.func77.trans (congrArg some (by kernel_rfl))
  f243 := Tryd.func80.trans (congrArg some (by kernel_rfl))
  f245 := Tryd.func40.trans (congrArg some (by kernel_rfl))
  f246 := Tryd.func29.trans (congrArg some (by kernel_rfl))
  f247 := Tryd.func39.trans (congrArg some (by kernel_rfl))
  f279 := Tryd.func65.trans (congrArg some (by kernel_rfl))
  f280 := Tryd.func66.trans (congrArg some (by kernel_rfl))
  f281 := Tryd.func67.trans (congrArg some (by kernel_rfl))
  f282 := Tryd.func68.trans (congrArg some (by kernel_rfl))
  f283 := Tryd.func34.trans (congrArg some (by kernel_rfl))
  f284 := Tryd.func35.trans (congrArg some (by kernel_rfl))
  f285 := Tryd.func36.trans (congrArg some (by kernel_rfl))
  f286 := Tryd.func37.trans (congrArg some (by kernel_rfl))
  f287 := Tryd.func64.trans (congrArg some (by kernel_rfl))
  f316 := Tryd.func76.trans (congrArg some (by kernel_rfl))
  f317 := Tryd.func55.trans (congrArg some (by kernel_rfl))
  f318 := Tryd.func57.trans (congrArg some (by kernel_rfl))
  f319 := Tryd.func58.trans (congrArg some (by kernel_rfl))
  f320 := Tryd.func59.trans (congrArg some (by kernel_rfl))
  f321 := Tryd.func74.trans (congrArg some (by kernel_rfl))
  f322 := Tryd.func75.trans (congrArg some (by kernel_rfl))
  f337 := Tryd.func70.trans (congrArg some (by kernel_rfl))
  f338 := Tryd.func71.trans (congrArg some (by kernel_rfl))
  t0 := Tryd.underlying0
  a0 := Tryd.isAgg0
  z0 := Tryd.sizeOf0
  v0 := Tryd.zeroValue0
  t2 := Tryd.underlying2
  a2 := Tryd.isAgg2
  z2 := Tryd.sizeOf2
  v2 := Tryd.zeroValue2
  t3 := Tryd.underlying3
  a3 := Tryd.isAgg3
  z3 := Tryd.sizeOf3
  v3 := Tryd.zeroValue3
  t4 := Tryd.underlying4
  a4 := Tryd.isAgg4
  z4 := Tryd.sizeOf4
  v4 := Tryd.zeroValue4
  t5 := Tryd.underlying5
  a5 := Tryd.isAgg5
  z5 := Tryd.sizeOf5
  v5 := Tryd.zeroValue5
  t9 := Tryd.underlying9
  a9 := Tryd.isAgg9
  z9 := Tryd.sizeOf9
  v9 := Tryd.zeroValue9
  t20 := Tryd.underlying20
  a20 := Tryd.isAgg20
  z20 := Tryd.sizeOf20
  v20 := Tryd.zeroValue20
  t21 := Tryd.underlying21
  a21 := Tryd.isAgg21
  z21 := Tryd.sizeOf21
  v21 := Tryd.zeroValue21
  t37 := Tryd.underlying40
  a37 := Tryd.isAgg40
  z37 := Tryd.sizeOf40
  v37 := Tryd.zeroValue40
  t46 := Tryd.underlying87
  a46 := Tryd.isAgg87
  z46 := Tryd.sizeOf87
  v46 := Tryd.zeroValue87
  t51 := Tryd.underlying84
  a51 := Tryd.isAgg84
  z51 := Tryd.sizeOf84
  v51 := Tryd.zeroValue84
  t53 := Tryd.underlying72
  a53 := Tryd.isAgg72
  z53 := Tryd.sizeOf72
  v53 := Tryd.zeroValue72
  t75 := Tryd.underlying45
  a75 := Tryd.isAgg45
  z75 := Tryd.sizeOf45
  v75 := Tryd.zeroValue45
  t85 := Tryd.underlying64
  a85 := Tryd.isAgg64
  z85 := Tryd.sizeOf64
  v85 := Tryd.zeroValue64
  t127 := Tryd.underlying63
  a127 := Tryd.isAgg63
  z127 := Tryd.sizeOf63
  v127 := Tryd.zeroValue63
  t143 := Tryd.underlying109
  a143 := Tryd.isAgg109
  z143 := Tryd.sizeOf109
  v143 := Tryd.zeroValue109
  t145 := Tryd.underlying111
  a145 := Tryd.isAgg111
  z145 := Tryd.sizeOf111
  v145 := Tryd.zeroValue111
  t167 := Tryd.underlying90
  a167 := Tryd.isAgg90
  z167 := Tryd.sizeOf90
  v167 := Tryd.zeroValue90
  t168 := Tryd.underlying93
  a168 := Tryd.isAgg93
  z168 := Tryd.sizeOf93
  v168 := Tryd.zeroValue93
  t171 := Tryd.underlying71
  a171 := Tryd.isAgg71
  z171 := Tryd.sizeOf71
  v171 := Tryd.zeroValue71
  t173 := Tryd.underlying75
  a173 := Tryd.isAgg75
  z173 := Tryd.sizeOf75
  v173 := Tryd.zeroValue75
  t175 := Tryd.underlying91
  a175 := Tryd.isAgg91
  z175 := Tryd.sizeOf91
  v175 := Tryd.zeroValue91
  t210 := Tryd.underlying104
  a210 := Tryd.isAgg104
  z210 := Tryd.sizeOf104
  v210 := Tryd.zeroValue104
  t212 := Tryd.underlying83
  a212 := Tryd.isAgg83
  z212 := Tryd.sizeOf83
  v212 := Tryd.zeroValue83
  t213 := Tryd.underlying85
  a213 := Tryd.isAgg85
  z213 := Tryd.sizeOf85
  t232 := Tryd.underlying107
  a232 := Tryd.isAgg107
  z232 := Tryd.sizeOf107
  v232 := Tryd.zeroValue107
  t233 := Tryd.underlying108
  a233 := Tryd.isAgg108
  z233 := Tryd.sizeOf108
  v233 := Tryd.zeroValue108
  g15 := by kernel_rfl
  g16 := by kernel_rfl
  g17 := by kernel_rfl
  g18 := by kernel_rfl
  g19 := by kernel_rfl
  t80 := Tryd.underlying50
  a80 := Tryd.isAgg50
  z80 := Tryd.sizeOf50
  v80 := Tryd.zeroValue50
  i0 := by kernel_rfl
  i2 := by kernel_rfl
  i3 := by kernel_rfl
  i4 := by kernel_rfl
  i5 := by kernel_rfl
  i9 := by kernel_rfl
  i20 := by kernel_rfl
  i21 := by kernel_rfl
  i37 := by kernel_rfl
  i46 := by kernel_rfl
  i51 := by kernel_rfl
  i53 := by kernel_rfl
  i75 := by kernel_rfl
  i80 := by kernel_rfl
  i85 := by kernel_rfl
  i127 := by kernel_rfl
  i143 := by kernel_rfl
  i145 := by kernel_rfl
  i167 := by kernel_rfl
  i168 := by kernel_rfl
  i171 := by kernel_rfl
  i173 := by kernel_rfl
  i175 := by kernel_rfl
  i210 := by kernel_rfl
  i212 := by kernel_rfl
  i232 := by kernel_rfl
  i233 := by kernel_rfl
  m15 := by kernel_rfl
  m16 := by kernel_rfl
  m17 := by kernel_rfl
  m18 := by kernel_rfl
  m19 := by kernel_rfl
  c0 := by kernel_rfl
  c2 := by kernel_rfl
  c3 := by kernel_rfl
  c4 := by kernel_rfl
  c5 := by kernel_rfl
  c9 := by kernel_rfl
  c20 := by kernel_rfl
  c21 := by kernel_rfl
  c37 := by kernel_rfl
  c46 := by kernel_rfl
  c51 := by kernel_rfl
  c53 := by kernel_rfl
  c75 := by kernel_rfl
  c80 := by kernel_rfl
  c85 := by kernel_rfl
  c127 := by kernel_rfl
  c143 := by kernel_rfl
  c145 := by kernel_rfl
  c167 := by kernel_rfl
  c168 := by kernel_rfl
  c171 := by kernel_rfl
  c173 := by kernel_rfl
  c175 := by kernel_rfl
  c210 := by kernel_rfl
  c212 := by kernel_rfl
  c213 := by kernel_rfl
  c232 := by kernel_rfl
  c233 := by kernel_rfl }
end Go.Proofs

/- What the package's laid variables hold: rows of numbers and of texts. -/
set_option linter.unusedVariables false
set_option linter.unusedSimpArgs false
namespace Go.Proofs.YtdjafcjpnjdphaaDoor
open Go
theorem mapM_get {α β : Type} {f : α → Option β} : ∀ {l : List α} {xs : List β}, l.mapM f = some xs → xs.length = l.length ∧ ∀ (i : Nat) (a : α), l[i]? = some a → ∃ y, f a = some y ∧ xs[i]? = some y
  | [], xs, h => by
    simp only [List.mapM_nil, Option.pure_def, Option.some.injEq] at h
    subst h
    exact ⟨rfl, fun i a hi => by simp at hi⟩
  | b :: l, xs, h => by
    simp only [List.mapM_cons, Option.bind_eq_bind, Option.bind_eq_some_iff, Option.pure_def, Option.some.injEq] at h
    obtain ⟨y, hy, ys, hys, rfl⟩ := h
    obtain ⟨h1, h2⟩ := mapM_get hys
    refine ⟨by simp [h1], fun i a hi => ?_⟩
    cases i with
    | zero => simp at hi; subst hi; exact ⟨y, hy, rfl⟩
    | succ i => exact h2 i a (by simpa using hi)
theorem trod_int1 {H : Type} {enc : TypeId × Value → H} {P : Program} {w : World} {base : Nat} {sp : Nat → Bool} {held : Bool} {fuel : Nat} {t : TypeId} {k : IntKind} {c : Value} {y : DataW H × List MemPlace} (ht : P.underlying t = some (.int k))
    (h : DataW.trod enc P w base sp held fuel t [c] = some y) : ∃ n, c = .int k n ∧ y = (.lit (.int k n), []) := by
  cases fuel with
  | zero => simp [DataW.trod] at h
  | succ fuel =>
    cases c <;> simp [DataW.trod, ht] at h
    rename_i k' n
    obtain ⟨⟨rfl, _⟩, rfl⟩ := h
    exact ⟨n, rfl, rfl⟩
theorem trod_ints {H : Type} {enc : TypeId × Value → H} {P : Program} {w : World} {base : Nat} {sp : Nat → Bool} {held : Bool} {fuel n : Nat} {t et : TypeId} {k : IntKind} (ht : P.underlying t = some (.array n et)) (he : P.underlying et = some (.int k)) (hc : P.cellsOf et = 1) (hct : P.cellsOf t = n)
    {cs : List Value} {ls : List Int} {ps : List MemPlace} (h : DataW.trod enc P w base sp held fuel t cs = some (.agg (ls.map fun x => .lit (.int k x)), ps)) : cs = ls.map (Value.int k) := by
  cases fuel with
  | zero => simp [DataW.trod] at h
  | succ fuel =>
    simp only [DataW.trod, ht, hct, hc] at h
    split at h
    · rename_i hl
      simp only [Option.map_eq_some_iff, Prod.mk.injEq, DataW.agg.injEq] at h
      obtain ⟨xs, hx, he1, _⟩ := h
      obtain ⟨h1, h2⟩ := mapM_get hx
      have hll : ls.length = n := by have := congrArg List.length he1; simp at this; simp at h1; omega
      apply List.ext_getElem?
      intro i
      by_cases hi : i < n
      · obtain ⟨y, hy, hyi⟩ := h2 i i (List.getElem?_range hi)
        have hd : (cs.drop (i * 1)).take 1 = [cs[i]'(by omega)] := by
          rw [Nat.mul_one, List.drop_eq_getElem_cons (by omega)]; rfl
        rw [hd] at hy
        obtain ⟨m, hm, rfl⟩ := trod_int1 he hy
        have hmi : (xs.map (·.1))[i]? = some (.lit (.int k m)) := by rw [List.getElem?_map, hyi]; rfl
        rw [he1, List.getElem?_map] at hmi
        obtain ⟨q, hq, e⟩ := Option.map_eq_some_iff.1 hmi
        simp only [DataW.lit.injEq, Lit.int.injEq, true_and] at e
        rw [List.getElem?_eq_getElem (by omega), hm, List.getElem?_map, hq, ← e]; rfl
      · rw [List.getElem?_eq_none (by omega), List.getElem?_eq_none (by simp; omega)]
    · cases h
theorem laid_mem {P : Program} {w : World} {n : String} {d : DataW Unit} : ∀ {l : List (String × DataW Unit)} {ps : List MemPlace}, DataW.LaidVars P w l ps → (n, d) ∈ l → ∃ g t cs fuel p, P.globalNamed n = some g ∧ (P.globals[g]?).map (·.type) = some t ∧ w.var? P n = some cs ∧ DataW.trod (fun _ => ()) P w 0 (fun _ => true) false fuel t cs.toList = some (d, p)
  | [], _, _, hm => by cases hm
  | (m, e) :: l, ps, h, hm => by
    obtain ⟨g, t, cs, fuel, p, q, h1, h2, h3, h4, h5, _⟩ := h
    rcases List.mem_cons.1 hm with hm | hm
    · obtain ⟨rfl, rfl⟩ := Prod.mk.inj hm
      exact ⟨g, t, cs, fuel, p, h1, h2, h3, h4⟩
    · exact laid_mem h5 hm
end Go.Proofs.YtdjafcjpnjdphaaDoor

/- What the package's laid variables hold, as the engine has it. -/
set_option linter.unusedVariables false
set_option linter.unusedSimpArgs false
namespace Go.Proofs.YtdjafcjpnjdphaaDoor
open Go Go.RowKit Go.Eng
theorem glo_ints {P : Program} {W : World} {name : String} {g : Nat} {cs : Array Value} {k : IntKind} {ls : List Int} (hg : P.globalNamed name = some g) (hv : W.var? P name = some cs) (hcs : cs.toList = ls.map (Value.int k)) :
    VR (cfg0 W) (.cref (ls.map (AV.int k))) (.pointer (some ⟨g, 0, none⟩)) ∧ ∃ ty, W.shape? g = some (ty, (ls.map (AV.int k)).length) := by
  have hsz : cs.size = ls.length := by rw [← Array.length_toList, hcs]; simp
  have hj : ∀ j, j < ls.length → cs[j]? = some (.int k (ls.getD j 0)) := fun j hj => by
    rw [← Array.getElem?_toList, hcs, List.getElem?_map, List.getD_eq_getElem?_getD, List.getElem?_eq_getElem hj]; rfl
  refine ⟨?_, ?_⟩
  rotate_left 1
  · simp only [World.var?, hg, Option.bind_some] at hv
    split at hv
    · rename_i c1 el fz1 heq
      simp only [Option.some.injEq] at hv
      subst hv
      unfold World.shape?
      rw [heq]
      exact ⟨el, by rw [List.length_map, ← hsz]⟩
    · cases hv
  refine .cref _ _ (fun j => .int k (ls.getD j 0)) rfl (fun j hjl => ?_) (fun _ h => ?_) fun j x hx => ?_
  · have := World.var?_cell hg hv j
    simp only [List.length_map] at hjl
    show W.cell? ⟨g, 0 + j, none⟩ = _
    rw [Nat.zero_add, this, hj j hjl]
  · rcases h with h | ⟨s, ⟨z, es, h⟩, _⟩
    · exact h
    · simp [cfg0] at h
  · rw [List.getElem?_map] at hx
    obtain ⟨q, hq, rfl⟩ := Option.map_eq_some_iff.1 hx
    rw [List.getD_eq_getElem?_getD, hq]
    exact .int k q
theorem VR.int_inv {C : Cfg} {k : IntKind} {n : Int} {v : Value} (h : VR C (.int k n) v) : v = .int k n := by cases h; rfl
/-- A laid table reads in the world as it was laid. -/
theorem tab_of_rel {P : Program} {C : Cfg} (R : Rel C) {name : String} {g : Nat} {k : IntKind} {ls : List Int} (hg : P.globalNamed name = some g) (hm : (g, ls.map (AV.int k)) ∈ gs) : Lib.TabIs P C.w name k ls := by
  obtain ⟨ty, hs⟩ := R.gsz _ hm
  have hv := R.glo _ hm
  unfold World.shape? at hs
  split at hs
  · rename_i c elem fz heq
    simp only [Option.some.injEq, Prod.mk.injEq, List.length_map] at hs
    have hsz : c.size = ls.length := hs.2
    have heq : C.w.heap[g]? = some (.cells c elem fz) := heq
    have hc : c = (ls.map fun z => Value.int k z).toArray := by
      cases hv with
      | cref _ _ f ha hcell hown hx =>
        apply Array.ext_getElem?
        intro j
        by_cases hj : j < ls.length
        · have h1 := hcell j (by simpa using hj)
          have h2 := hx j (.int k (ls[j]'hj)) (by rw [List.getElem?_map, List.getElem?_eq_getElem hj]; rfl)
          have h3 := VR.int_inv h2
          rw [h3] at h1
          have h4 : c[j]? = some (Value.int k (ls[j]'hj)) := by
            have h5 : C.w.cell? ⟨g, 0 + j, none⟩ = c[j]? := by
              simp only [World.cell?, heq, Nat.zero_add, Option.isSome_none, Bool.false_eq_true, if_false]
            rw [← h5]; exact h1
          rw [h4]
          simp [hj]
        · rw [Array.getElem?_eq_none (by omega), List.getElem?_toArray, List.getElem?_eq_none (by rw [List.length_map]; omega)]
    unfold Lib.TabIs World.var?
    simp only [hg, Option.bind_some, heq, hc]
  · cases hs
end Go.Proofs.YtdjafcjpnjdphaaDoor

/- A contract of the library whose result is plain and that keeps what was there, as a contract of the engine. -/
set_option linter.unusedVariables false
set_option linter.unusedSimpArgs false
namespace Go.Eng
open Go Go.RowKit
theorem PCalls.of_below {P : Program} {g : FuncId} {args : List AV} {R : AV → Prop} (hE : Enters P g)
    (H : ∀ (C : Cfg) (vs : Array Value), C.h = [] → Rel C → VRs C args vs → Calls P g vs C.w fun e w' => ∃ v r, e = .returned v ∧ R r ∧ (∀ D : Cfg, VR D r v) ∧ Below C.w.heap.size C.w w') : PCalls P g args R := by
  refine ⟨hE, fun C vs h0 hR hv => (H C vs h0 hR hv).mono fun e w' ⟨v, r, he, hr, hvr, hb⟩ => ?_⟩
  obtain ⟨b1, b2, b3, b4, b5⟩ := hb
  have hx : Ext 0 C { C with w := w' } := by
    refine ⟨rfl, b1, b2, b3, b4, fun s hs => absurd hs (Nat.not_lt_zero _), fun b hbk hno => ⟨b5 b hbk, hno⟩, fun b x hs => ?_⟩
    have hlt : b < C.w.heap.size := by
      unfold World.shape? at hs
      split at hs
      · rename_i heq; exact (Array.getElem?_eq_some_iff.1 heq).1
      · cases hs
    unfold World.shape? at hs ⊢
    show (match w'.heap[b]? with | some (.cells c elem _) => some (elem, c.size) | _ => none) = some x
    rw [b5 b hlt]
    exact hs
  refine ⟨v, r, { C with w := w' }, he, hr, h0, rfl, ?_, hvr _, hx⟩
  have hl0 : C.h.length = 0 := by rw [h0]; rfl
  refine hR.of_ext (by rw [hl0]; exact hx) (fun s z es hl => ?_) (fun s t ⟨z, es, hs⟩ => ?_)
  · rw [show ({ C with w := w' } : Cfg).h = [] from h0] at hl; simp at hl
  · rw [show ({ C with w := w' } : Cfg).h = [] from h0] at hs; simp at hs
end Go.Eng

/- The library's builder of texts, laid at this dump. -/
set_option linter.unusedVariables false
set_option linter.unusedSimpArgs false
set_option maxRecDepth 100000
namespace Go.Proofs
open Go.Shelf
def Tryd.writeL_ren : Go.Shelf.Ren := ⟨fun | 166 => 15 | 240 => 28 | 276 => 33 | n => n, fun | 70 => 39 | 9 => 9 | 0 => 0 | 72 => 42 | 37 => 40 | 20 => 20 | 75 => 45 | 80 => 50 | 164 => 68 | 3 => 3 | 4 => 4 | 5 => 5 | n => n, fun | n => n⟩
theorem Tryd.writeL : Go.Proofs.Lays.n166 Tryd.prog Tryd.writeL_ren := {
  mixed := by kernel_rfl
  f166 := Tryd.func15.trans (congrArg some (by kernel_rfl))
  f240 := Tryd.func28.trans (congrArg some (by kernel_rfl))
  f276 := Tryd.func33.trans (congrArg some (by kernel_rfl))
  t0 := Tryd.underlying0
  a0 := Tryd.isAgg0
  z0 := Tryd.sizeOf0
  v0 := Tryd.zeroValue0
  t3 := Tryd.underlying3
  a3 := Tryd.isAgg3
  z3 := Tryd.sizeOf3
  v3 := Tryd.zeroValue3
  t4 := Tryd.underlying4
  a4 := Tryd.isAgg4
  z4 := Tryd.sizeOf4
  v4 := Tryd.zeroValue4
  t9 := Tryd.underlying9
  a9 := Tryd.isAgg9
  z9 := Tryd.sizeOf9
  v9 := Tryd.zeroValue9
  t20 := Tryd.underlying20
  a20 := Tryd.isAgg20
  z20 := Tryd.sizeOf20
  v20 := Tryd.zeroValue20
  t37 := Tryd.underlying40
  a37 := Tryd.isAgg40
  z37 := Tryd.sizeOf40
  v37 := Tryd.zeroValue40
  t70 := Tryd.underlying39
  a70 := Tryd.isAgg39
  z70 := Tryd.sizeOf39
  v70 := Tryd.zeroValue39
  t72 := Tryd.underlying42
  a72 := Tryd.isAgg42
  z72 := Tryd.sizeOf42
  v72 := Tryd.zeroValue42
  t75 := Tryd.underlying45
  a75 := Tryd.isAgg45
  z75 := Tryd.sizeOf45
  v75 := Tryd.zeroValue45
  t164 := Tryd.underlying68
  a164 := Tryd.isAgg68
  z164 := Tryd.sizeOf68
  v164 := Tryd.zeroValue68 }
theorem Tryd.writeX : Builder.Extra Tryd.prog Tryd.writeL_ren where
  sizeBuilder := by kernel_rfl
  liesBuilder := by kernel_rfl
  t5 := Tryd.underlying5
  a5 := Tryd.isAgg5
  z5 := Tryd.sizeOf5
  v5 := Tryd.zeroValue5
  infoByte := by kernel_rfl
  cellsByte := by kernel_rfl
  sizeByte := by kernel_rfl
  neB5 := by decide
theorem Tryd.stringX : Builder.Extra Tryd.prog Tryd.stringL_ren where
  sizeBuilder := by kernel_rfl
  liesBuilder := by kernel_rfl
  t5 := Tryd.underlying5
  a5 := Tryd.isAgg5
  z5 := Tryd.sizeOf5
  v5 := Tryd.zeroValue5
  infoByte := by kernel_rfl
  cellsByte := by kernel_rfl
  sizeByte := by kernel_rfl
  neB5 := by decide
end Go.Proofs

/- Numbers as words, plainly. -/
set_option linter.unusedVariables false
set_option linter.unusedSimpArgs false
namespace Go.Proofs.YtdjafcjpnjdphaaDoor
open Go
def itb (n : Int) : ByteArray := ⟨(Lib.itoa n).toArray⟩
/-- A text's bytes. -/
def tx (s : ByteArray) : List UInt8 := s.data.toList
theorem tx_ext {a b : ByteArray} (h : tx a = tx b) : a = b := by
  cases a with | mk a => cases b with | mk b =>
  unfold tx at h
  simp only at h
  rw [Array.toList_inj.1 h]
theorem tx_app (a b : ByteArray) : tx (a ++ b) = tx a ++ tx b := by
  unfold tx
  rw [ByteArray.data_append, Array.toList_append]
theorem tx_mk (l : List UInt8) : tx ⟨l.toArray⟩ = l := rfl
theorem tx_itb (n : Int) : tx (itb n) = Lib.itoa n := rfl
theorem itoa_small {n : Int} (h0 : 0 ≤ n) (h1 : n < 10) : Lib.itoa n = [UInt8.ofNat (48 + n.toNat)] := by
  obtain ⟨u, rfl⟩ : ∃ u : Nat, n = u := ⟨n.toNat, by omega⟩
  rw [Lib.itoa_nonneg, Lib.decDigits_one (by omega)]; rfl
theorem itoa_big {n : Int} (h : 10 ≤ n) : Lib.itoa n = Lib.itoa (n / 10) ++ Lib.itoa (n % 10) := by
  obtain ⟨u, rfl⟩ : ∃ u : Nat, n = u := ⟨n.toNat, by omega⟩
  have e1 : ((u : Int) / 10) = ((u / 10 : Nat) : Int) := by omega
  have e2 : ((u : Int) % 10) = ((u % 10 : Nat) : Int) := by omega
  rw [e1, e2, Lib.itoa_nonneg, Lib.itoa_nonneg, Lib.itoa_nonneg, Lib.decDigits, dif_neg (by omega), Lib.decDigits_one (i := u % 10) (by omega)]
theorem itoa_neg' {n : Int} (h : n < 0) : Lib.itoa n = 45 :: Lib.itoa (-n) := by
  obtain ⟨u, rfl⟩ : ∃ u : Nat, n = -(u : Int) := ⟨n.natAbs, by omega⟩
  rw [Lib.itoa_neg u (by omega), Int.neg_neg, Lib.itoa_nonneg]
theorem itb_big {n : Int} (h : 10 ≤ n) : itb (n / 10) ++ itb (n % 10) = itb n := by
  apply tx_ext
  rw [tx_app, tx_itb, tx_itb, tx_itb, itoa_big h]
theorem itb_neg {n : Int} (h : n < 0) : (⟨#[45]⟩ : ByteArray) ++ itb (-n) = itb n := by
  apply tx_ext
  rw [tx_app, tx_itb, tx_itb, itoa_neg' h]; rfl
theorem itb_negbig {n : Int} (h : n ≤ -10) : ((⟨#[45]⟩ : ByteArray) ++ itb (-n / 10)) ++ itb (-n % 10) = itb n := by
  apply tx_ext
  rw [tx_app, tx_app, tx_itb, tx_itb, tx_itb, itoa_neg' (n := n) (by omega), itoa_big (n := -n) (by omega)]; rfl
/-- The bytes of a numeral. -/
theorem dec_bytes : ∀ (k u : Nat), u ≤ k → ∀ b, b ∈ Lib.decDigits u → 48 ≤ b.toNat ∧ b.toNat ≤ 57
  | 0, u, hu, b, hb => by
    rw [Lib.decDigits_one (by omega)] at hb
    simp only [List.mem_cons, List.not_mem_nil, or_false] at hb
    subst hb
    rw [UInt8.toNat_ofNat']; omega
  | k + 1, u, hu, b, hb => by
    by_cases h : u < 10
    · rw [Lib.decDigits_one h] at hb
      simp only [List.mem_cons, List.not_mem_nil, or_false] at hb
      subst hb
      rw [UInt8.toNat_ofNat']; omega
    · rw [Lib.decDigits, dif_neg h, List.mem_append] at hb
      rcases hb with hb | hb
      · exact dec_bytes k (u / 10) (by omega) b hb
      · simp only [List.mem_cons, List.not_mem_nil, or_false] at hb
        subst hb
        rw [UInt8.toNat_ofNat']; omega
theorem itoa_bytes {n : Int} {b : UInt8} (h : b ∈ Lib.itoa n) : b.toNat = 45 ∨ (48 ≤ b.toNat ∧ b.toNat ≤ 57) := by
  unfold Lib.itoa at h
  split at h
  · rcases List.mem_cons.1 h with rfl | h
    · exact .inl rfl
    · exact .inr (dec_bytes _ _ (Nat.le_refl _) _ h)
  · exact .inr (dec_bytes _ _ (Nat.le_refl _) _ h)
/-- The number that digits say. -/
def decVal (l : List UInt8) : Nat := l.foldl (fun a b => a * 10 + (b.toNat - 48)) 0
theorem decVal_dec : ∀ (k u : Nat), u ≤ k → decVal (Lib.decDigits u) = u
  | 0, u, hu => by
    rw [Lib.decDigits_one (by omega)]
    simp only [decVal, List.foldl_cons, List.foldl_nil, UInt8.toNat_ofNat']; omega
  | k + 1, u, hu => by
    by_cases h : u < 10
    · rw [Lib.decDigits_one h]
      simp only [decVal, List.foldl_cons, List.foldl_nil, UInt8.toNat_ofNat']; omega
    · rw [Lib.decDigits, dif_neg h]
      have ih := decVal_dec k (u / 10) (by omega)
      unfold decVal at ih ⊢
      rw [List.foldl_append, ih]
      simp only [List.foldl_cons, List.foldl_nil, UInt8.toNat_ofNat']; omega
theorem dec_inj {u v : Nat} (h : Lib.decDigits u = Lib.decDigits v) : u = v := by
  rw [← decVal_dec u u (Nat.le_refl _), h, decVal_dec v v (Nat.le_refl _)]
theorem itoa_inj {a b : Int} (h : Lib.itoa a = Lib.itoa b) : a = b := by
  have hd : ∀ u : Nat, ∀ l, Lib.decDigits u ≠ 45 :: l := fun u l h => by
    have := dec_bytes u u (Nat.le_refl _) 45 (by rw [h]; simp)
    simp at this
  unfold Lib.itoa at h
  split at h <;> split at h
  · have := dec_inj (List.cons.inj h).2; omega
  · exact absurd h.symm (hd _ _)
  · exact absurd h (hd _ _)
  · have := dec_inj h; omega
theorem sz_itb {n : Int} (h0 : -9223372036854775808 ≤ n) (h1 : n ≤ 9223372036854775807) : ((itb n).size : Int) ≤ 21 := by
  have := Lib.itoa_length_le n h0 h1
  have e : (itb n).size = (Lib.itoa n).length := rfl
  omega
/-- A text that is short enough. -/
def Sz (b : ByteArray) : Prop := b.size ≤ 1000000000
theorem Sz.le {b : ByteArray} (h : Sz b) : (fun s : ByteArray => (s.size : Int)) b ≤ 9223372036854775807 := by
  unfold Sz at h
  simp only
  omega
theorem sz_num {n : Int} {b : ByteArray} (h0 : -9223372036854775808 ≤ n) (h1 : n ≤ 9223372036854775807) (eb : b = itb n) : Sz b := by
  have := sz_itb h0 h1
  subst eb
  unfold Sz
  omega
theorem len_join (xs : List (List UInt8)) (c : UInt8) : (Lib.join xs [c]).length ≤ Lib.lens xs + xs.length := by
  cases xs with
  | nil => simp [Lib.join_nil, Lib.lens]
  | cons x r =>
    rw [Lib.join_cons, List.length_append, Lib.joinTail_length]
    simp only [Lib.lens, List.map_cons, List.sum_cons, List.length_cons, List.length_nil]
    omega
theorem lens_le {m : Nat} : ∀ (xs : List (List UInt8)), (∀ x, x ∈ xs → x.length ≤ m) → Lib.lens xs ≤ m * xs.length
  | [], _ => by simp [Lib.lens]
  | x :: r, h => by
    have h1 := h x (by simp)
    have h2 := lens_le r fun y hy => h y (by simp [hy])
    simp only [Lib.lens, List.map_cons, List.sum_cons, List.length_cons] at h2 ⊢
    rw [Nat.mul_succ]; omega
def In64 (n : Int) : Prop := -9223372036854775808 ≤ n ∧ n ≤ 9223372036854775807
theorem len_itoa {n : Int} (h : In64 n) : (Lib.itoa n).length ≤ 21 := Lib.itoa_length_le n h.1 h.2
/-- A span's ends, a route, as words. -/
def endsL (a b : Int) : List UInt8 := Lib.itoa a ++ [46, 46] ++ Lib.itoa b
def pathL (l : List Int) : List UInt8 := Lib.join (l.map Lib.itoa) [45]
theorem len_path {l : List Int} (h : ∀ n, n ∈ l → In64 n) : (pathL l).length ≤ 22 * l.length := by
  have h1 := len_join (l.map Lib.itoa) 45
  have h2 := lens_le (m := 21) (l.map Lib.itoa) fun x hx => by
    obtain ⟨n, hn, rfl⟩ := List.mem_map.1 hx
    exact len_itoa (h n hn)
  rw [List.length_map] at h1 h2
  unfold pathL
  omega
def bk (l : List UInt8) : ByteArray := ⟨l.toArray⟩
theorem tx_bk (l : List UInt8) : tx (bk l) = l := rfl
theorem bk_app (a b : List UInt8) : bk a ++ bk b = bk (a ++ b) := by
  apply tx_ext
  rw [tx_app, tx_bk, tx_bk, tx_bk]
theorem sz_bk {l : List UInt8} {b : ByteArray} (h : l.length ≤ 1000000000) (e : b = bk l) : Sz b := by
  subst e; exact h
/-- What is told of a train. -/
structure Lr where
  c : Int
  m : Int
  g : Int
  lo : Int
  hi : Int
  est : Int
  slo : Int
  shi : Int
  nom : Int
  dist : Int
  rs : List (List Int)
  fit : Int
  b1 : Bool
  b2 : Bool
  s0 : Int
  s1 : Int
  b3 : Bool
  b4 : Bool
  b5 : Bool
  b6 : Bool
  b7 : Bool
  mlo : Int
  mhi : Int
  perm : Int
  c0 : Int
  c1 : Int
  c2 : Int
  c3 : Int
  k0 : Int
  k1 : Int
  k2 : Int
  k3 : Int
structure LrOk (o : Lr) : Prop where
  c : In64 o.c
  g : In64 o.g
  lo : In64 o.lo
  hi : In64 o.hi
  est : In64 o.est
  slo : In64 o.slo
  shi : In64 o.shi
  fit : In64 o.fit
  s0 : In64 o.s0
  s1 : In64 o.s1
  rs : ∀ r, r ∈ o.rs → ∀ n, n ∈ r → In64 n
def modeL (m : Int) : List UInt8 := if m = 1 then [117, 110, 108, 111, 99, 97, 116, 101, 100] else if m = 2 then [108, 111, 99, 97, 116, 101, 100] else if m = 3 then [100, 101, 103, 114, 97, 100, 101, 100] else if m = 4 then [102, 97, 105, 108, 101, 100] else []
def waysL (rs : List (List Int)) : List UInt8 := Lib.join (rs.map pathL) [44]
def placedL (o : Lr) : List (List UInt8) := if o.g = 0 then [] else [[103, 114, 111, 117, 112], Lib.itoa o.g, [97, 116], endsL o.lo o.hi, [101, 115, 116], Lib.itoa o.est, [119, 97, 121, 115], waysL o.rs]
def saidL (l : List (Bool × List UInt8)) : List (List UInt8) := (l.filter (·.1)).map (·.2)
def flagsL (o : Lr) : List (Bool × List UInt8) := [(o.b1, [99, 108, 101, 97, 110]), (o.b2, [99, 111, 110, 102, 108, 105, 99, 116]), (o.b3, [97, 99, 99, 101, 112, 116, 101, 100]), (o.b4, [102, 97, 117, 108, 116]), (o.b5, [115, 116, 105, 108, 108]), (o.b6, [114, 111, 108, 108]), (o.b7, [111, 118, 101, 114])]
def slipL (o : Lr) : List (List UInt8) := if o.s0 = 0 ∧ o.s1 = 0 then [] else [[115, 108, 105, 112], Lib.itoa o.s0, Lib.itoa o.s1]
def wordsL (o : Lr) : List (List UInt8) := [Lib.itoa o.c, modeL o.m] ++ placedL o ++ [[115, 112, 101, 101, 100], endsL o.slo o.shi, [102, 105, 116], Lib.itoa o.fit] ++ slipL o ++ saidL (flagsL o)
def lineB (o : Lr) : ByteArray := bk (Lib.join (wordsL o) [32])
theorem join_snoc (xs : List (List UInt8)) (y : List UInt8) (c : UInt8) (h : xs ≠ []) : Lib.join (xs ++ [y]) [c] = Lib.join xs [c] ++ [c] ++ y := by
  cases xs with
  | nil => exact absurd rfl h
  | cons x r =>
    rw [List.cons_append, Lib.join_cons, Lib.join_cons]
    simp [Lib.joinTail]
theorem itoa_ne_nil (n : Int) : Lib.itoa n ≠ [] := by
  unfold Lib.itoa
  split
  · simp
  · intro h
    have := Lib.decDigits_length n.toNat
    rw [h] at this
    have := Lib.nDigits_pos n.toNat
    simp at *
    omega
/-- Two pieces ahead of a byte that is in none of them. -/
theorem cut_inj {c : UInt8} : ∀ {a b x y : List UInt8}, c ∉ a → c ∉ b → a ++ c :: x = b ++ c :: y → a = b ∧ x = y
  | [], [], x, y, _, _, h => ⟨rfl, by simpa using h⟩
  | [], d :: b, x, y, _, hb, h => by
    simp only [List.nil_append, List.cons_append, List.cons.injEq] at h
    exact absurd (by rw [← h.1]; simp) hb
  | d :: a, [], x, y, ha, _, h => by
    simp only [List.nil_append, List.cons_append, List.cons.injEq] at h
    exact absurd (by rw [h.1]; simp) ha
  | d :: a, e :: b, x, y, ha, hb, h => by
    simp only [List.cons_append, List.cons.injEq] at h
    obtain ⟨h1, h2⟩ := cut_inj (fun h => ha (by simp [h])) (fun h => hb (by simp [h])) h.2
    exact ⟨by rw [h.1, h1], h2⟩
theorem join_inj {c : UInt8} : ∀ {xs ys : List (List UInt8)}, xs ≠ [] → ys ≠ [] → (∀ x, x ∈ xs → c ∉ x) → (∀ x, x ∈ ys → c ∉ x) → Lib.join xs [c] = Lib.join ys [c] → xs = ys
  | [], _, h, _, _, _, _ => absurd rfl h
  | _ :: _, [], _, h, _, _, _ => absurd rfl h
  | [x], [y], _, _, _, _, h => by rw [Lib.join_one, Lib.join_one] at h; rw [h]
  | [x], y :: z :: r, _, _, hx, _, h => by
    rw [Lib.join_one, Lib.join_cons] at h
    exact absurd (by rw [h]; simp [Lib.joinTail]) (hx x (by simp))
  | x :: z :: r, [y], _, _, _, hy, h => by
    rw [Lib.join_one, Lib.join_cons] at h
    exact absurd (by rw [← h]; simp [Lib.joinTail]) (hy y (by simp))
  | x :: z :: r, y :: z2 :: s, _, _, hx, hy, h => by
    have e : ∀ (a b : List UInt8) (l : List (List UInt8)), Lib.join (a :: b :: l) [c] = a ++ c :: Lib.join (b :: l) [c] := fun a b l => by
      rw [Lib.join_cons, Lib.join_cons]
      simp [Lib.joinTail]
    rw [e, e] at h
    obtain ⟨h1, h2⟩ := cut_inj (hx x (by simp)) (hy y (by simp)) h
    rw [h1, join_inj (by simp) (by simp) (fun a ha => hx a (by simp [ha])) (fun a ha => hy a (by simp [ha])) h2]
end Go.Proofs.YtdjafcjpnjdphaaDoor

/- Numbers of 64 bits that do not go beyond. -/
set_option linter.unusedVariables false
namespace Go.Proofs.YtdjafcjpnjdphaaDoor
open Go Go.RowKit Go.Eng
theorem add64n {a b : Int} (h1 : -9223372036854775808 ≤ a + b) (h2 : a + b < 9223372036854775808) : std.1 .add .i64 a b = a + b := by
  show IntKind.i64.wrap (a + b) = _
  rw [IntKind.wrap_i64]; omega
theorem i_add {a b : Int} (h1 : -9223372036854775808 ≤ a + b) (h2 : a + b < 9223372036854775808) : binStd .add .i64 a b = a + b := add64n h1 h2
theorem i_sub {a b : Int} (h1 : -9223372036854775808 ≤ a - b) (h2 : a - b < 9223372036854775808) : binStd .sub .i64 a b = a - b := by
  show IntKind.i64.wrap (a - b) = _
  rw [IntKind.wrap_i64]; omega
theorem i_mul {a b : Int} (h1 : -9223372036854775808 ≤ a * b) (h2 : a * b < 9223372036854775808) : binStd .mul .i64 a b = a * b := by
  show IntKind.i64.wrap (a * b) = _
  rw [IntKind.wrap_i64]; omega
theorem i_neg {a : Int} (h1 : -9223372036854775808 < a) (h2 : a < 9223372036854775808) : unStd .neg .i64 a = -a := by
  show IntKind.i64.wrap (0 - a) = _
  rw [IntKind.wrap_i64]; omega
theorem i_quo {a b : Int} (h0 : 0 ≤ a) (h1 : 0 < b) (h2 : a < 9223372036854775808) : binStd .quo .i64 a b = a / b := by
  show IntKind.i64.wrap (a.tdiv b) = _
  rw [Int.tdiv_eq_ediv_of_nonneg h0]
  have h3 : a / b ≤ a := Int.ediv_le_self _ h0
  have h4 : 0 ≤ a / b := Int.ediv_nonneg h0 (by omega)
  rw [IntKind.wrap_i64]; omega
end Go.Proofs.YtdjafcjpnjdphaaDoor

/- Worlds that have grown: new blocks and draws alone. And two rules for a statement that leaves its order open: all its operations but a forced tail read, or call what only makes memory. -/
set_option linter.unusedVariables false
set_option linter.unusedSimpArgs false
namespace Go
open Go.RowKit

theorem nat_pos_or (a b : Nat) : (0 < a + b) = (0 < a ∨ 0 < b) := by rw [eq_iff_iff]; omega
theorem nat_lt_lit (c d r : Nat) (h : c < d) : (c < d + r) = True := eq_true (Nat.lt_of_lt_of_le h (Nat.le_add_right d r))
@[simp] theorem isSome_setCell (w : World) (a b : Addr) (v : Value) : ((w.setCell a v).cell? b).isSome = (w.cell? b).isSome := by
  by_cases h : a = b
  · subst h
    cases hc : w.cell? a with
    | some u => rw [World.cell?_setCell_same (u := u) (h := hc)]; rfl
    | none =>
      unfold World.cell? at hc ⊢
      simp only [World.setCell, Array.getElem?_modify, ↓reduceIte]
      cases hh : w.heap[a.block]? with
      | none => simp
      | some x =>
        cases x <;> simp only [Option.map_some, hh] at hc ⊢ <;> try rfl
        split at hc
        · rename_i hs; simp [hs]
        · rename_i hs; simp only [hs]; simp at hc ⊢; exact hc
  · rw [World.cell?_setCell_other w a b v h]
@[simp] theorem setCell_there (w : World) (a : Addr) (v : Value) (h : (w.cell? a).isSome = true) : (w.setCell a v).cell? a = some v := by
  obtain ⟨u, hu⟩ := Option.isSome_iff_exists.1 h
  exact World.cell?_setCell_same (u := u) (h := hu) (v := v)
/-- What a call may add to a world: blocks, and a count of draws. -/
structure Ext where
  objs : Array Obj
  drawn : Nat
instance : Inhabited Ext := ⟨⟨#[], 0⟩⟩
def World.grow (w : World) (x : Ext) : World := { w with heap := w.heap ++ x.objs, drawn := x.drawn }

theorem size_drewN' (w : World) (n : Nat) : (w.drewN n).heap.size = w.heap.size := rfl
theorem grow_of_below {w w' : World} (h : Below w.heap.size w w') : ∃ x, w' = w.grow x := by
  refine ⟨⟨w'.heap.extract w.heap.size w'.heap.size, w'.drawn⟩, ?_⟩
  have e : w'.heap = w.heap ++ w'.heap.extract w.heap.size w'.heap.size := by
    apply Array.ext_getElem?
    intro i
    have hs := h.size
    by_cases hi : i < w.heap.size
    · rw [h.block i hi, Array.getElem?_append_left hi]
    · rw [Array.getElem?_append_right (by omega), Array.getElem?_extract]
      by_cases hj : i < w'.heap.size
      · rw [if_pos (by omega)]
        congr 1
        omega
      · rw [if_neg (by omega), Array.getElem?_eq_none (by omega)]
  cases w' with
  | mk hp tp dr os out =>
    cases w with
    | mk hp0 tp0 dr0 os0 out0 =>
      have h1 := h.os
      have h2 := h.tape
      have h3 := h.output
      simp only at h1 h2 h3 e
      subst h1 h2 h3
      simp only [World.grow]
      rw [← e]

theorem grow_block (w : World) (x : Ext) (k : Nat) (h : k < w.heap.size) : (w.grow x).heap[k]? = w.heap[k]? := by
  simp only [World.grow]
  rw [Array.getElem?_append_left h]
theorem below_grow (w : World) (x : Ext) : Below w.heap.size w (w.grow x) :=
  ⟨rfl, rfl, rfl, by simp [World.grow], fun k hk => grow_block w x k hk⟩
theorem below_grown {B : Nat} {a w : World} (h : Below B a w) (hB : B ≤ w.heap.size) (x : Ext) : Below B a (w.grow x) :=
  h.trans ((below_grow w x).mono hB)
@[simp] theorem size_grow (w : World) (x : Ext) : (w.grow x).heap.size = w.heap.size + x.objs.size := by simp [World.grow]
@[simp] theorem tape_grow (w : World) (x : Ext) : (w.grow x).tape = w.tape := rfl
theorem cell_grow_lt (w : World) (x : Ext) (a : Addr) (h : a.block < w.heap.size) : (w.grow x).cell? a = w.cell? a :=
  World.cell?_of_block (w := w) (grow_block w x _ h)
theorem cell_grow (w : World) (x : Ext) (a : Addr) (h : (w.cell? a).isSome = true) : (w.grow x).cell? a = w.cell? a := by
  obtain ⟨u, hu⟩ := Option.isSome_iff_exists.1 h
  exact cell_grow_lt w x a (World.block_lt_of_cell? w a hu)
theorem frozen_grow_lt (w : World) (x : Ext) (a : Addr) (h : a.block < w.heap.size) : (w.grow x).frozen? a = w.frozen? a :=
  World.frozen?_of_block (w := w) (grow_block w x _ h)
theorem frozen_grow (w : World) (x : Ext) (a : Addr) (h : (w.cell? a).isSome = true) : (w.grow x).frozen? a = w.frozen? a := by
  obtain ⟨u, hu⟩ := Option.isSome_iff_exists.1 h
  exact frozen_grow_lt w x a (World.block_lt_of_cell? w a hu)
theorem grow_grow (w : World) (x y : Ext) : (w.grow x).grow y = w.grow ⟨x.objs ++ y.objs, y.drawn⟩ := by
  simp [World.grow, Array.append_assoc]
theorem drewN_grow (w : World) (n : Nat) : w.drewN n = w.grow ⟨#[], w.drawn + n⟩ := by
  simp [World.grow, World.drewN]

/-- A callee's contract, met in a grown world. -/
theorem Calls.grown_of {P : Program} {f : FuncId} {args : Array Value} {w : World} {x : Ext} {v : Value}
    (h : Calls P f args (w.grow x) fun e w' => e = .returned v ∧ ∃ y, w' = (w.grow x).grow y) : Calls P f args (w.grow x) fun e w'' => e = .returned v ∧ ∃ m, w'' = w.grow m :=
  h.mono fun _ _ ⟨he, y, hy⟩ => ⟨he, _, hy.trans (grow_grow _ _ _)⟩
theorem Calls.grown_below {P : Program} {f : FuncId} {args : Array Value} {w : World} {x : Ext} {v : Value}
    (h : Calls P f args (w.grow x) fun e w' => e = .returned v ∧ Below (w.grow x).heap.size (w.grow x) w') : Calls P f args (w.grow x) fun e w'' => e = .returned v ∧ ∃ m, w'' = w.grow m :=
  Calls.grown_of (h.mono fun _ _ ⟨he, hb⟩ => ⟨he, grow_of_below hb⟩)
theorem Calls.grown_same {P : Program} {f : FuncId} {args : Array Value} {w : World} {x : Ext} {v : Value}
    (h : Calls P f args (w.grow x) fun e w' => e = .returned v ∧ w.grow x = w') : Calls P f args (w.grow x) fun e w'' => e = .returned v ∧ ∃ m, w'' = w.grow m :=
  h.mono fun _ _ ⟨he, hb⟩ => ⟨he, x, hb.symm⟩
theorem Calls.to_grow {P : Program} {f : FuncId} {args : Array Value} {w : World} {v : Value}
    (h : Calls P f args w fun e w' => e = .returned v ∧ Below w.heap.size w w') : Calls P f args w fun e w'' => e = .returned v ∧ ∃ m, w'' = w.grow m :=
  h.mono fun _ _ ⟨he, hb⟩ => ⟨he, grow_of_below hb⟩

/-- What is kept of a block: its cells and its marks, in every grown world. -/
def Kept (w : World) (b : Nat) : Prop := (∀ (x : Ext) (o : Nat), (w.grow x).cell? ⟨b, o, none⟩ = w.cell? ⟨b, o, none⟩) ∧ ∀ (x : Ext) (o : Nat), (w.grow x).frozen? ⟨b, o, none⟩ = w.frozen? ⟨b, o, none⟩
theorem kept_of_lt {w : World} {b : Nat} (h : b < w.heap.size) : Kept w b := ⟨fun x o => cell_grow_lt w x ⟨b, o, none⟩ h, fun x o => frozen_grow_lt w x ⟨b, o, none⟩ h⟩
def AllKept (w : World) : List Nat → Prop
  | [] => True
  | b :: bs => (∀ (x : Ext) (o : Nat), (w.grow x).cell? ⟨b, o, none⟩ = w.cell? ⟨b, o, none⟩) ∧ (∀ (x : Ext) (o : Nat), (w.grow x).frozen? ⟨b, o, none⟩ = w.frozen? ⟨b, o, none⟩) ∧ AllKept w bs
def AllLt (n : Nat) : List Nat → Prop
  | [] => True
  | b :: bs => b < n ∧ AllLt n bs
theorem allKept {w : World} : ∀ {bs : List Nat}, AllLt w.heap.size bs → AllKept w bs
  | [], _ => trivial
  | b :: _, ⟨h, hs⟩ => ⟨fun x o => cell_grow_lt w x ⟨b, o, none⟩ h, fun x o => frozen_grow_lt w x ⟨b, o, none⟩ h, allKept hs⟩
def AllSame (w w' : World) : List Nat → Prop
  | [] => True
  | b :: bs => (∀ (o : Nat), w'.cell? ⟨b, o, none⟩ = w.cell? ⟨b, o, none⟩) ∧ (∀ (o : Nat), w'.frozen? ⟨b, o, none⟩ = w.frozen? ⟨b, o, none⟩) ∧ AllSame w w' bs
theorem allSame {w w' : World} (h : Below w.heap.size w w') : ∀ {bs : List Nat}, AllLt w.heap.size bs → AllSame w w' bs
  | [], _ => trivial
  | b :: _, ⟨hb, hs⟩ => ⟨fun o => h.cell (p := ⟨b, o, none⟩) hb, fun o => h.frozen (p := ⟨b, o, none⟩) hb, allSame h hs⟩

theorem Calls.to_kept {P : Program} {f : FuncId} {args : Array Value} {w : World} {v : Value} (bs : List Nat)
    (h : Calls P f args w fun e w' => e = .returned v ∧ Below w.heap.size w w') (hbs : AllLt w.heap.size bs) : Calls P f args w fun e w'' => e = .returned v ∧ ∃ m, w'' = w.grow m ∧ AllKept w bs :=
  h.mono fun _ _ ⟨he, hb⟩ => ⟨he, by obtain ⟨m, hm⟩ := grow_of_below hb; exact ⟨m, hm, allKept hbs⟩⟩

/-- A region that draws its order, each of whose operations yields one value in every grown world. -/
theorem wp_region_grow {P : Program} {id : Nat} {Q : Exit → Act → World → Prop} {a : Act} {w : World} {l : List Oper} (bs : List Nat) (hm : P.follows .mixedOrders = true) (hB : Region.lexB .any l.toArray = true)
    (hbs : AllLt w.heap.size bs)
    (h : AllKept w bs → wpQuiet P l.toArray (fun w' => ∃ x, w' = w.grow x) (fun a' => ∀ w', (∃ x, w' = w.grow x) → Q .normal a' w') l a) : (Code.region id l.toArray true).wp P Q a w :=
  wp_region_quiet (C := fun w' => ∃ x, w' = w.grow x) hm hB ⟨⟨#[], w.drawn + 1⟩, by simp [World.grow]⟩ (by simpa using h (allKept hbs))

/-! ### The same with a tail that waits for all the rest -/
section
variable {P : Program} {ops : Array Oper} {C : World → Prop}

def wpHeadQ (P : Program) (ops : Array Oper) (C : World → Prop) (n : Nat) (L : Array Bool → Act → Prop) : Nat → Array Bool → Act → Prop
  | 0, listed, a => L listed a
  | f + 1, listed, a => Region.ready .any ops listed ≠ [] ∧ ∀ i ∈ Region.ready .any ops listed, i < n ∧ qOp P ops C i (wpHeadQ P ops C n L f (listed.setIfInBounds i true)) a

theorem wpAny_of_headQ {n g : Nat} {L : Array Bool → Act → Prop} {Q' : Exit → Act → World → Prop} (hL : ∀ listed a w, C w → L listed a → wpAny P .any ops Q' g listed a w) (f : Nat) :
    ∀ (listed : Array Bool) (a : Act) (w : World), C w → wpHeadQ P ops C n L f listed a → wpAny P .any ops Q' (f + g) listed a w := by
  induction f with
  | zero => intro listed a w hw h; rw [Nat.zero_add]; exact hL _ _ _ hw h
  | succ f ih =>
    intro listed a w hw h
    rw [Nat.succ_add]
    exact ⟨fun h0 => (h.1 h0).elim, fun i hi => wpOp_of_qOp hw (fun a' w' hw' h' => ih _ a' w' hw' h') (h.2 i hi).2⟩

theorem wpHeadQ_first {n i : Nat} {oi : Oper} {v : Value} {L : Array Bool → Act → Prop} (hi : ops[i]? = some oi) (hsel : ∀ (j : Nat) (o : Oper) cs b, ops[j]? = some o → o.op ≠ .select cs b)
    (hs : Region.sinkB .any ops n = true) (hc : Region.chainB .any ops n = true) (hn : n < ops.size) (hin : i < n)
    (hdone : ∀ listed a, L listed a → ∀ j ∈ Region.ready .any ops listed, n ≤ j) (f : Nat) :
    ∀ (listed : Array Bool) (a : Act), HeadInv .any ops n listed →
      (∀ j oj, ops[j]? = some oj → j ≠ i → listed.getD j true = false → (∀ e ∈ oj.after, Region.binds .any e = true → e.on ≠ i) → oi.apart ops oj = true) →
      i ∈ Region.ready .any ops listed → YieldsIn P ops C oi v a →
      wpHeadQ P ops C n L f (listed.setIfInBounds i true) (a.put oi.dst v) → wpHeadQ P ops C n L (f + 1) listed a := by
  induction f with
  | zero =>
    intro listed a inv _ hr hy H
    refine ⟨fun h => (by rw [h] at hr; cases hr), fun j hj => ?_⟩
    have hjn : j < n := Nat.lt_of_not_le fun h => tail_waits hs hc hn inv _ i rfl hin (mem_ready.1 hr).1 j h hj
    by_cases hji : j = i
    · subst hji; exact ⟨hjn, hy.qOp hi H⟩
    · have := hdone _ _ H j (ready_mono hj hji); omega
  | succ f ih =>
    intro listed a inv hfree hr hy H
    refine ⟨fun h => (by rw [h] at hr; cases hr), fun j hj => ?_⟩
    have hjn : j < n := Nat.lt_of_not_le fun h => tail_waits hs hc hn inv _ i rfl hin (mem_ready.1 hr).1 j h hj
    by_cases hji : j = i
    · subst hji; exact ⟨hjn, hy.qOp hi H⟩
    · obtain ⟨hjun, oj, hoj, hall⟩ := mem_ready.1 hj
      have hnot : ∀ e ∈ oj.after, Region.binds .any e = true → e.on ≠ i := fun e he hb heq => by
        have h1 := hall e he hb
        rw [heq, getD_both (mem_ready.1 hr).1] at h1
        cases h1
      refine ⟨hjn, qOp_mono (fun a' h3 => ?_) (qOp_put hoj (hfree j oj hoj hji hjun hnot) (fun cs b => hsel i oi cs b hi) (fun cs b => hsel j oj cs b hoj) hy (H.2 j (ready_mono hj hji)).2)⟩
      refine ih (listed.setIfInBounds j true) a' (inv.set hj hjn) (fun k ok hk hki hun hno => hfree k ok hk hki ?_ hno) (ready_mono hr (Ne.symm hji)) h3.1 (by rw [Array.setIfInBounds_comm _ _ hji]; exact h3.2)
      by_cases hjk : j = k
      · subst hjk; exact hjun
      · rwa [getD_set_ne true hjk] at hun

theorem wpHeadQ_lex {n g : Nat} {Lq : Act → Prop} (hsel : Region.noSelect ops = true) (hs : Region.sinkB .any ops n = true) (hc : Region.chainB .any ops n = true) (hn : n < ops.size) (l : List Oper) :
    ∀ (k : Nat) (listed : Array Bool) (a : Act), (∀ j, j < l.length → l[j]? = ops[k + j]?) → k + l.length = n → HeadInv .any ops n listed →
    Region.lexHead .any ops g l.length k listed = true → wpQuiet P ops C Lq l a →
    wpHeadQ P ops C n (fun listed' a' => Region.seqB .any ops g n listed' = true ∧ Lq a') l.length listed a := by
  induction l with
  | nil =>
    intro k listed a _ hk _ hB h
    have hk' : k = n := by simpa using hk
    subst hk'
    exact ⟨by simpa [Region.lexHead] using hB, h⟩
  | cons o l ih =>
    intro k listed a hl hk inv hB h
    have h0 : ops[k]? = some o := by simpa using (hl 0 (by simp)).symm
    simp only [List.length_cons, Region.lexHead, Bool.and_eq_true] at hB hk
    have hr : k ∈ Region.ready .any ops listed := by simpa using hB.1.1
    obtain ⟨v, hy, hK⟩ := yieldsIn_of_qOp (i := k) (K := wpQuiet P ops C Lq l) h0 (by unfold qOp; simp only [h0]; exact h)
    exact wpHeadQ_first h0 (Region.noSelect_spec hsel) hs hc hn (by omega) (fun _ _ hL => seqB_ready hL.1) l.length listed a inv (Region.free_spec h0 hB.1.2) hr hy
      (ih (k + 1) _ _ (fun j hj => by have := hl (j + 1) (by simp; omega); simpa [Nat.add_assoc, Nat.add_comm 1 j] using this) (by omega) (inv.set hr (by omega)) hB.2 hK)

/-- The first n operations yield one value each in every world of the class; the rest wait for them, one behind the other. -/
theorem wp_region_quiet_tail {id : Nat} {Q : Exit → Act → World → Prop} {a : Act} {w : World} {l : List Oper} (n : Nat) (hm : P.follows .mixedOrders = true) (hB : Region.lexTailB .any l.toArray n = true)
    (hC : C { w with drawn := w.drawn + 1 })
    (h : wpQuiet P l.toArray C (fun a' => ∀ w', C w' → wpList P l.toArray Q (l.drop n) a' w') (l.take n) a) : (Code.region id l.toArray true).wp P Q a w := by
  simp only [Region.lexTailB, Bool.and_eq_true, decide_eq_true_eq] at hB
  obtain ⟨⟨⟨⟨hsel, hn⟩, hs⟩, hc⟩, hlex⟩ := hB
  have hn' : n < l.length := by simpa using hn
  have htl : (l.take n).length = n := by simp; omega
  have hdl : (l.drop n).length = l.toArray.size - n := by simp
  have inv0 : HeadInv .any l.toArray n (Array.replicate l.toArray.size false) :=
    ⟨by simp, fun j oj _ hl => (by rw [getD_replicate_false] at hl; cases hl), fun t _ ht => getD_in (by simpa using ht) (getD_replicate_false _ _)⟩
  have H := wpHeadQ_lex (P := P) (C := C) (g := l.toArray.size - n) hsel hs hc hn (l.take n) 0 _ a (fun j hj => by
    rw [htl] at hj
    simp [hj]) (by simpa using htl) inv0 (by rw [htl]; exact hlex) h
  rw [htl] at H
  refine wp_region_any hm ?_
  have H2 := wpAny_of_headQ (Q' := Q) (g := l.toArray.size - n) (fun listed a' w' hw hL => by
    have := wpAny_of_seq (md := .any) (Q' := Q) (l.drop n) n listed a' w' (fun j => by simp [List.getElem?_drop]) (by rw [hdl]; exact hL.1) (hL.2 w' hw)
    rwa [hdl] at this) _ _ _ _ hC H
  rwa [show n + (l.toArray.size - n) = l.toArray.size by omega] at H2

theorem wp_region_grow_tail {id : Nat} {Q : Exit → Act → World → Prop} {a : Act} {w : World} {l : List Oper} (n : Nat) (bs : List Nat) (hm : P.follows .mixedOrders = true) (hB : Region.lexTailB .any l.toArray n = true)
    (hbs : AllLt w.heap.size bs)
    (h : AllKept w bs → wpQuiet P l.toArray (fun w' => ∃ x, w' = w.grow x) (fun a' => ∀ w', (∃ x, w' = w.grow x) → wpList P l.toArray Q (l.drop n) a' w') (l.take n) a) : (Code.region id l.toArray true).wp P Q a w :=
  wp_region_quiet_tail (C := fun w' => ∃ x, w' = w.grow x) n hm hB ⟨⟨#[], w.drawn + 1⟩, by simp [World.grow]⟩ (h (allKept hbs))
end
end Go

/- A configuration's text: the program's, walked by the library's contracts. -/
set_option linter.unusedVariables false
set_option linter.unusedSimpArgs false
namespace Go.Proofs.YtdjafcjpnjdphaaDoor
open Go Go.RowKit Go.Eng Go.Shelf Go.Sort
set_option maxRecDepth 100000
theorem e_numbers (c0 c1 c2 c3 c4 c5 c6 c7 c8 c9 c10 c11 c12 c13 : Int) (h9 : In64 c9) (h12 : In64 c12) : PCalls Tryd.prog 14 [.agg [.int .i64 c0, .int .i64 c1, .int .i64 c2, .int .i64 c3, .int .i64 c4, .int .i64 c5, .int .i64 c6, .int .i64 c7, .int .i64 c8, .int .i64 c9, .int .i64 c10, .int .i64 c11, .int .i64 c12, .int .i64 c13]] (· = .agg [.int .i64 c0, .int .i64 c1, .int .i64 c2, .int .i64 c3, .int .i64 c4, .int .i64 c5, .int .i64 c6, .int .i64 c7, .int .i64 c8, .int .i64 c9, .int .i64 c10, .int .i64 c11, .int .i64 c12, .int .i64 c13]) := by
  (refine PCalls.ofY Tryd.func14 (by kernel_rfl) (by kernel_rfl) fun w hw R hR => ?_); (obtain ⟨wbin, wcmp, wun, wconv, wnot, wbeq, wmm, wscmp, wsadd, wslen, wsat, weqs, wlen, wnlen, wofNat, wtake, wdrop, wapp, wzero, wnat⟩ := w); (have hbin : wbin = binStd := congrArg Prims.bin hw); (have hcmp : wcmp = cmpStd := congrArg Prims.cmp hw); (have hun : wun = unStd := congrArg Prims.un hw); (have hconv : wconv = fun k n => k.wrap n := congrArg Prims.conv hw); (have hnot : wnot = fun b => !b := congrArg Prims.not hw); (have hbeq : wbeq = fun a b => a == b := congrArg Prims.beq hw); (have hmm : wmm = maxI := congrArg Prims.mm hw); (have hscmp : wscmp = scmpStd := congrArg Prims.scmp hw); (have hsadd : wsadd = fun x y => x ++ y := congrArg Prims.sadd hw); (have hslen : wslen = fun s => (s.size : Int) := congrArg Prims.slen hw); (have hsat : wsat = std.sat := congrArg Prims.sat hw); (have heqs : weqs = fun a b os => (eqOffs a b os).getD false := congrArg Prims.eqs hw); (have hlen : wlen = fun es => (es.length : Int) := congrArg Prims.len hw); (have hnlen : wnlen = fun es => es.length := congrArg Prims.nlen hw); (have hofNat : wofNat = (fun n : Nat => (n : Int)) := congrArg Prims.ofNat hw); (have htake : wtake = fun es b => es.take b.toNat := congrArg Prims.take hw); (have hdrop : wdrop = fun es a => es.drop a.toNat := congrArg Prims.drop hw); (have happ : wapp = fun a b => a ++ b := congrArg Prims.app hw); (have hzero : wzero = fun n z => List.replicate n.toNat z := congrArg Prims.zero hw); (have hnat : wnat = fun n => n.toNat := congrArg Prims.nat hw); (conv => arg 2; cbv); (generalize hP : Tryd.prog = P); cbv
  exact ⟨_, Vw.same rfl, hR _ rfl⟩
theorem PCalls.calls {P : Program} {g : FuncId} {args : List AV} {R : AV → Prop} (H : PCalls P g args R) {C : Cfg} (hC : C.h = []) (RC : Rel C) {vs : Array Value} (hv : VRs C args vs) : Calls P g vs C.w fun e w' => ∃ v r D, e = .returned v ∧ R r ∧ VR D r v ∧ Below C.w.heap.size C.w w' := by
  refine (H.2 C vs hC RC hv).mono fun e w' ⟨v, r, D, h1, h2, h3, h4, h5, h6, h7⟩ => ⟨v, r, D, h1, h2, h6, ?_⟩
  subst h4
  exact ⟨h7.os, h7.tape, h7.output, h7.size, fun b hb => (h7.keep b hb fun ⟨s, ⟨z, es, hs⟩, _⟩ => by rw [hC] at hs; simp at hs).1⟩
theorem builder_objs {T e : TypeId} {B b : Nat} {bs : List Value} : ∀ (os : List Obj) (w : World), Lib.IsBuilderF T e B b bs w → Lib.IsBuilderF T e B b bs { w with heap := w.heap ++ os.toArray }
  | [], w, h => by simpa using h
  | o :: os, w, h => by
    have h1 := builder_objs os (w.alloc o) (h.alloc o)
    have e2 : (w.alloc o).heap ++ os.toArray = w.heap ++ (o :: os).toArray := by
      show w.heap.push o ++ os.toArray = _
      apply Array.toList_inj.1
      simp
    have e1 : ({ w.alloc o with heap := (w.alloc o).heap ++ os.toArray } : World) = { w with heap := w.heap ++ (o :: os).toArray } := by rw [e2]; rfl
    rw [← e1]; exact h1
theorem builder_grow {T e : TypeId} {B b : Nat} {bs : List Value} {w : World} (h : Lib.IsBuilderF T e B b bs w) (x : _root_.Go.Ext) : Lib.IsBuilderF T e B b bs (w.grow x) := by
  have h1 := builder_objs x.objs.toList w h
  exact h1
theorem below_gr2 (w : World) (k : Nat) (os : Array Obj) : Below w.heap.size w (grow (w.drewN k) os) :=
  ⟨rfl, rfl, rfl, by simp [grow], fun b hb => by simp only [grow]; rw [Array.getElem?_append_left (by simpa using hb)]; rfl⟩
theorem builder_lt {T e : TypeId} {B b : Nat} {bs : List Value} {w : World} (h : Lib.IsBuilderF T e B b bs w) (x : _root_.Go.Ext) : B ≤ (w.grow x).heap.size := by
  have h1 := (below_grow w x).size
  rcases h with h | h <;> (have := h.1; have := h.lt; omega)
theorem builder_lt0 {T e : TypeId} {B b : Nat} {bs : List Value} {w : World} (h : Lib.IsBuilderF T e B b bs w) : B ≤ w.heap.size := by
  rcases h with h | h <;> (have := h.1; have := h.lt; omega)
theorem entW {P : Program} {g : FuncId} (h : (match P.funcs[g]? with | some fn => !fn.body.isNone && !(fn.name == "runtime.NumGoroutine") | none => false) = true) : Eng.Enters P g := by
  split at h
  · rename_i fn hf
    simp only [Bool.and_eq_true, Bool.not_eq_true'] at h
    exact ⟨fn, hf, h.1, h.2⟩
  · cases h
theorem rel_at {w : World} (hg : Glo w) : Rel (cfg0 w) := rel0 hg
theorem ext_below {w w2 : World} (hb : Below w.heap.size w w2) : Eng.Ext 0 (cfg0 w) (cfg0 w2) := by
  obtain ⟨b1, b2, b3, b4, b5⟩ := hb
  have hno : ∀ (w : World) b, ¬ (cfg0 w).lown b := by
    rintro w b ⟨s, ⟨z, es, hs⟩, _⟩
    simp [cfg0] at hs
  refine ⟨rfl, b1, b2, b3, b4, fun s hs => absurd hs (Nat.not_lt_zero _), fun b hbk _ => ⟨b5 b hbk, hno w2 b⟩, fun b x hs => ?_⟩
  have hs : w.shape? b = some x := hs
  have hlt : b < w.heap.size := by
    unfold World.shape? at hs
    split at hs
    · rename_i heq; exact (Array.getElem?_eq_some_iff.1 heq).1
    · cases hs
  show w2.shape? b = some x
  unfold World.shape? at hs ⊢
  rw [b5 b hlt]
  exact hs
theorem glo_below {w w2 : World} (hg : Glo w) (hb : Below w.heap.size w w2) : Glo w2 := by
  intro p hp
  obtain ⟨h1, ty, h2⟩ := hg p hp
  have hx := ext_below hb
  exact ⟨hx.vr h1 (gs_upto hp 0), ty, hx.shape _ _ h2⟩
theorem glo_lt {w : World} (hg : Glo w) {p : Nat × List AV} (hp : p ∈ gs) : p.1 < w.heap.size := by
  obtain ⟨_, ty, h2⟩ := hg p hp
  unfold World.shape? at h2
  split at h2
  · rename_i heq; exact (Array.getElem?_eq_some_iff.1 heq).1
  · cases h2
theorem glo_str {w : World} (hg : Glo w) {g : Nat} {ls : List ByteArray} (hp : (g, ls.map AV.str) ∈ gs) {i : Nat} {s : ByteArray} (hi : ls[i]? = some s) : w.cell? ⟨g, i, none⟩ = some (.string s) := by
  obtain ⟨a, f, ha, hsp, hcell, _, hx⟩ := (hg _ hp).1.crefs
  simp only [Value.pointer.injEq, Option.some.injEq] at ha
  subst ha
  have hlt : i < (ls.map AV.str).length := by rw [List.length_map]; exact (List.getElem?_eq_some_iff.1 hi).1
  have h1 := hcell i hlt
  have h2 := (hx i (.str s) (by rw [List.getElem?_map, hi]; rfl)).str'
  rw [h2] at h1
  simpa [cfg0] using h1
/-- A line of a text. -/
def lineL (nm : List UInt8) (n : Int) : List UInt8 := nm ++ [32] ++ Lib.itoa n ++ [10]
def linesL : List (List UInt8) → List Int → List UInt8
  | nm :: nms, n :: ns => lineL nm n ++ linesL nms ns
  | _, _ => []
theorem lines_snoc : ∀ (nms : List (List UInt8)) (ns : List Int) (i : Nat) (nm : List UInt8) (n : Int), nms[i]? = some nm → ns[i]? = some n → linesL (nms.take (i + 1)) (ns.take (i + 1)) = linesL (nms.take i) (ns.take i) ++ lineL nm n
  | a :: nms, b :: ns, 0, nm, n, h1, h2 => by
    simp only [List.getElem?_cons_zero, Option.some.injEq] at h1 h2
    subst h1; subst h2
    simp [linesL]
  | a :: nms, b :: ns, i + 1, nm, n, h1, h2 => by
    simp only [List.getElem?_cons_succ] at h1 h2
    have := lines_snoc nms ns i nm n h1 h2
    simp only [List.take_succ_cons, linesL, this, List.append_assoc]
  | [], _, i, nm, n, h1, _ => by simp at h1
  | _ :: _, [], i, nm, n, _, h2 => by simp at h2
def nmsB : List ByteArray := [⟨#[112, 117, 108, 115, 101, 115]⟩, ⟨#[99, 105, 114, 99, 45, 108, 111]⟩, ⟨#[99, 105, 114, 99, 45, 104, 105]⟩, ⟨#[114, 97, 100, 45, 98, 97, 115, 101]⟩, ⟨#[114, 97, 100, 45, 112, 97, 114, 116]⟩, ⟨#[97, 99, 99, 45, 101, 114, 114]⟩, ⟨#[109, 97, 120, 45, 115, 112, 101, 101, 100]⟩, ⟨#[109, 97, 120, 45, 97, 99, 99, 101, 108]⟩, ⟨#[97, 110, 116, 101, 110, 110, 97]⟩, ⟨#[115, 116, 105, 108, 108]⟩, ⟨#[115, 116, 105, 108, 108, 45, 115, 112, 101, 101, 100]⟩, ⟨#[114, 111, 108, 108]⟩, ⟨#[116, 105, 109, 101, 111, 117, 116]⟩, ⟨#[98, 114, 97, 107, 101]⟩, ⟨#[101, 110, 100]⟩]
def cfV (c0 c1 c2 c3 c4 c5 c6 c7 c8 c9 c10 c11 c12 c13 : Int) : Value := .agg #[.int .i64 c0, .int .i64 c1, .int .i64 c2, .int .i64 c3, .int .i64 c4, .int .i64 c5, .int .i64 c6, .int .i64 c7, .int .i64 c8, .int .i64 c9, .int .i64 c10, .int .i64 c11, .int .i64 c12, .int .i64 c13]
def textL (ns : List Int) : List UInt8 := linesL ((nmsB.map tx).take 14) (ns.take 14) ++ [101, 110, 100, 10]
theorem gs_names : ((0 : Nat), nmsB.map AV.str) ∈ gs := List.mem_cons_self ..
theorem run_index14 {A : Array Value} {ns : List Int} (hA : A.size = 14) (hnl : ns.length = 14) (hAj : ∀ j, j < 14 → A[j]? = some (.int .i64 (ns.getD j 0))) (i : Nat) (hi : i < 14) (w : World) : (Instr.index 33 (.agg A) (.int .i64 i)).run Tryd.prog w = .ok (.int .i64 (ns.getD i 0)) w := by
  have hV : VRs (cfg0 w) (ns.map (AV.int .i64)) A := by
    refine ⟨by rw [hA, List.length_map, hnl], fun j x hx => ?_⟩
    rw [List.getElem?_map] at hx
    obtain ⟨n, hn, rfl⟩ := Option.map_eq_some_iff.1 hx
    have hj : j < 14 := by rw [← hnl]; exact (List.getElem?_eq_some_iff.1 hn).1
    rw [Array.getD_eq_getD_getElem?, hAj j hj, List.getD_eq_getElem?_getD, hn]
    exact .int _ _
  obtain ⟨cv, h3, h4⟩ := run_part (P := Tryd.prog) (c := cfg0 w) (t := 2) (k := 1) (g := false) (by kernel_rfl) (by kernel_rfl) (.inr rfl) hV i (by rw [List.length_map, hnl]; omega)
  have hu : Tryd.prog.underlying 33 = some (.array 14 2) := by kernel_rfl
  have hk : szOf Tryd.prog 2 = some 1 := by kernel_rfl
  have e1 : cv = .int .i64 (ns.getD i 0) := by
    have : partA false 1 (ns.map (AV.int .i64)) i = .int .i64 (ns.getD i 0) := by
      simp [partA, List.getD_eq_getElem?_getD, List.getElem?_map, List.getElem?_eq_getElem (show i < ns.length by omega)]
    rw [this] at h4
    exact h4.int'
  rw [e1] at h3
  have h0 : (0 : Int) ≤ (i : Int) := by omega
  have h1 : (i : Int) < 14 := by omega
  simp [Instr.index, asIntOf, run_und w hu, run_size w hk, h0, h1]
  rw [if_pos hi]
  simpa [cfg0] using h3
theorem numbers_calls (ns : List Int) (c0 c1 c2 c3 c4 c5 c6 c7 c8 c9 c10 c11 c12 c13 : Int) (w : World) (hns : ns = [c0, c1, c2, c3, c4, c5, c6, c7, c8, c9, c10, c11, c12, c13]) (h9 : In64 c9) (h12 : In64 c12) (hg : Glo w) : Calls Tryd.prog 14 #[.agg #[.int .i64 c0, .int .i64 c1, .int .i64 c2, .int .i64 c3, .int .i64 c4, .int .i64 c5, .int .i64 c6, .int .i64 c7, .int .i64 c8, .int .i64 c9, .int .i64 c10, .int .i64 c11, .int .i64 c12, .int .i64 c13]] w fun e w2 => ∃ A : Array Value, e = .returned (.agg A) ∧ A.size = 14 ∧ (∀ j, j < 14 → A[j]? = some (.int .i64 (ns.getD j 0))) ∧ Below w.heap.size w w2 := by
  have hv : VRs (cfg0 w) [.agg [.int .i64 c0, .int .i64 c1, .int .i64 c2, .int .i64 c3, .int .i64 c4, .int .i64 c5, .int .i64 c6, .int .i64 c7, .int .i64 c8, .int .i64 c9, .int .i64 c10, .int .i64 c11, .int .i64 c12, .int .i64 c13]] #[.agg #[.int .i64 c0, .int .i64 c1, .int .i64 c2, .int .i64 c3, .int .i64 c4, .int .i64 c5, .int .i64 c6, .int .i64 c7, .int .i64 c8, .int .i64 c9, .int .i64 c10, .int .i64 c11, .int .i64 c12, .int .i64 c13]] := by
    refine ⟨rfl, fun i x hx => ?_⟩
    match i, hx with
    | 0, hx =>
      simp only [List.getElem?_cons_zero, Option.some.injEq] at hx
      subst hx
      refine .agg _ _ rfl fun j y hy => ?_
      have hj := (List.getElem?_eq_some_iff.1 hy).1
      simp only [List.length_cons, List.length_nil] at hj
      have hj' : j = 0 ∨ j = 1 ∨ j = 2 ∨ j = 3 ∨ j = 4 ∨ j = 5 ∨ j = 6 ∨ j = 7 ∨ j = 8 ∨ j = 9 ∨ j = 10 ∨ j = 11 ∨ j = 12 ∨ j = 13 := by omega
      rcases hj' with rfl | rfl | rfl | rfl | rfl | rfl | rfl | rfl | rfl | rfl | rfl | rfl | rfl | rfl <;> (simp only [List.getElem?_cons_zero, List.getElem?_cons_succ, Option.some.injEq] at hy; subst hy; exact .int _ _)
    | i + 1, hx => simp at hx
  refine (PCalls.calls (e_numbers c0 c1 c2 c3 c4 c5 c6 c7 c8 c9 c10 c11 c12 c13 h9 h12) (C := cfg0 w) rfl (rel0 hg) hv).mono ?_
  rintro e w2 ⟨v, r, D, rfl, rfl, hV, hb⟩
  have e0 : [AV.int .i64 c0, .int .i64 c1, .int .i64 c2, .int .i64 c3, .int .i64 c4, .int .i64 c5, .int .i64 c6, .int .i64 c7, .int .i64 c8, .int .i64 c9, .int .i64 c10, .int .i64 c11, .int .i64 c12, .int .i64 c13] = ns.map (AV.int .i64) := by rw [hns]; rfl
  have hnl : ns.length = 14 := by rw [hns]; rfl
  rw [e0] at hV
  obtain ⟨A, rfl, hA1, hA2⟩ := hV.agg'
  rw [List.length_map, hnl] at hA1
  refine ⟨A, rfl, hA1, fun j hj => ?_, hb⟩
  have hsz : j < A.size := by rw [hA1]; exact hj
  have h1 := (hA2 j (.int .i64 (ns.getD j 0)) (by rw [List.getElem?_map, List.getElem?_eq_getElem (show j < ns.length by omega), List.getD_eq_getElem?_getD, List.getElem?_eq_getElem (show j < ns.length by omega)]; rfl)).int'
  rw [Array.getD_eq_getD_getElem?, Array.getElem?_eq_getElem hsz] at h1
  rw [Array.getElem?_eq_getElem hsz]
  exact congrArg some h1
theorem wtext_walk (ns : List Int) (c0 c1 c2 c3 c4 c5 c6 c7 c8 c9 c10 c11 c12 c13 : Int) (w : World) (hns : ns = [c0, c1, c2, c3, c4, c5, c6, c7, c8, c9, c10, c11, c12, c13]) (hin : ∀ n, n ∈ ns → In64 n) (hg : Glo w) : Calls Tryd.prog 8 #[.agg #[.int .i64 c0, .int .i64 c1, .int .i64 c2, .int .i64 c3, .int .i64 c4, .int .i64 c5, .int .i64 c6, .int .i64 c7, .int .i64 c8, .int .i64 c9, .int .i64 c10, .int .i64 c11, .int .i64 c12, .int .i64 c13]] w fun e w' => e = .returned (.string (bk (textL ns))) ∧ Below w.heap.size w w' := by
  have hin9 : In64 c9 := hin c9 (by rw [hns]; simp)
  have hin12 : In64 c12 := hin c12 (by rw [hns]; simp)
  have hnl : ns.length = 14 := by rw [hns]; rfl
  have hnb : ∀ (i : Nat) (nm : ByteArray), nmsB[i]? = some nm → nm.size ≤ 20 := fun i nm h => by
    have := List.mem_of_getElem? h
    unfold nmsB at this
    simp only [List.mem_cons, List.not_mem_nil, or_false] at this
    rcases this with rfl | rfl | rfl | rfl | rfl | rfl | rfl | rfl | rfl | rfl | rfl | rfl | rfl | rfl | rfl <;> decide
  have hlen : ∀ i, i ≤ 14 → (linesL ((nmsB.map tx).take i) (ns.take i)).length ≤ 60 * i := fun i => by
    induction i with
    | zero => intro _; simp [linesL]
    | succ i ih =>
      intro hi
      obtain ⟨nm, hnm⟩ : ∃ nm, nmsB[i]? = some nm := ⟨_, List.getElem?_eq_getElem (show i < nmsB.length from Nat.lt_of_lt_of_le hi (by decide))⟩
      obtain ⟨n, hn⟩ : ∃ n, ns[i]? = some n := ⟨_, List.getElem?_eq_getElem (by omega)⟩
      rw [lines_snoc _ _ i (tx nm) n (by rw [List.getElem?_map, hnm]; rfl) hn, List.length_append]
      have h1 := ih (by omega)
      have h2 := hnb i nm hnm
      have h3 := len_itoa (hin n (List.mem_of_getElem? hn))
      have h4 : (tx nm).length = nm.size := by unfold tx; rw [Array.length_toList]; rfl
      unfold lineL
      simp only [List.length_append, List.length_cons, List.length_nil]
      omega
  have hadd : ∀ (x y z : ByteArray), x.size ≤ 1000 → y.size ≤ 1000 → x ++ y = z → ∀ w, (Op.stringOp .add x y).run Tryd.prog w = .ok (.string z) w := fun x y z h1 h2 h3 w => by
    have h4 : ¬ (9223372036854775807 : Int) < ((x.size + y.size : Nat) : Int) := by omega
    subst h3
    simp [Op.stringOp]
    omega
  have HL := Lib.hid hlen
  have HN := Lib.hid hnb
  have HA := Lib.hid hadd
  have HI := Lib.hid hin
  have HG := Lib.hid hg
  clear hlen hnb hadd hin hg
  go_enter Tryd.func8, Tryd.ntmps8
  go_wp2_with (go_at_call 14; refine (numbers_calls ns c0 c1 c2 c3 c4 c5 c6 c7 c8 c9 c10 c11 c12 c13 _ hns hin9 hin12 (glo_below HG.out (((Below.refl _ w).alloc (Nat.le_refl _) _).alloc (by simp) _))).mono ?_; rintro e w1 ⟨A, rfl, hA, hAj, hb1⟩; refine Hid.out ?_)
  refine Lib.hid ?_
  have HJ := Lib.hid hAj
  clear hAj
  go_wp2
  go_loopw [8] (fun t wr => ∃ i : Nat, i ≤ 14 ∧ t = .int .i64 i ∧ Lib.IsBuilderF 42 5 (w.heap.size + 1) (w.heap.size + 1) (Lib.byteCells (linesL ((nmsB.map tx).take i) (ns.take i))) wr ∧ Below w.heap.size w wr) (fun t _ => 14 - (intOf t).toNat)
  case atStart =>
    refine ⟨0, by omega, rfl, ?_, ?_⟩
    · obtain ⟨x, hx⟩ := grow_of_below hb1
      rw [hx]
      have := Lib.IsBuilderF.of (Lib.fresh_isBuilder 42 5 (w.alloc (.cells #[.int .i64 c0, .int .i64 c1, .int .i64 c2, .int .i64 c3, .int .i64 c4, .int .i64 c5, .int .i64 c6, .int .i64 c7, .int .i64 c8, .int .i64 c9, .int .i64 c10, .int .i64 c11, .int .i64 c12, .int .i64 c13] 23)))
      have e1 : (w.alloc (.cells #[.int .i64 c0, .int .i64 c1, .int .i64 c2, .int .i64 c3, .int .i64 c4, .int .i64 c5, .int .i64 c6, .int .i64 c7, .int .i64 c8, .int .i64 c9, .int .i64 c10, .int .i64 c11, .int .i64 c12, .int .i64 c13] 23)).heap.size = w.heap.size + 1 := by simp
      rw [e1] at this
      exact builder_grow this x
    · exact (((Below.refl _ w).alloc (Nat.le_refl _) _).alloc (by simp) _).trans (hb1.mono (by simp; omega))
  case round =>
    obtain ⟨i, hi, rfl, hI, hbw⟩ := hrel
    have hgw := glo_below HG.out hbw
    by_cases hlt : i < 14
    · obtain ⟨n, hn⟩ : ∃ n, ns.getD i 0 = n := ⟨_, rfl⟩
      have hn' : ns[i]? = some n := by rw [← hn, List.getD_eq_getElem?_getD, List.getElem?_eq_getElem (show i < ns.length by omega)]; rfl
      obtain ⟨nm, hnm⟩ : ∃ nm, nmsB[i]? = some nm := ⟨_, List.getElem?_eq_getElem (show i < nmsB.length from Nat.lt_of_lt_of_le hlt (by decide))⟩
      have hix : ∀ w, (Instr.index 33 (.agg A) (.int .i64 i)).run Tryd.prog w = .ok (.int .i64 n) w := fun w => by rw [run_index14 hA hnl HJ.out i hlt w, hn]
      have hcell : wr.cell? ⟨0, i, none⟩ = some (.string nm) := glo_str hgw gs_names hnm
      have hsz0 : 0 < wr.heap.size := glo_lt hgw gs_names
      have hnin := HI.out n (List.mem_of_getElem? hn')
      obtain ⟨fb, efb⟩ : ∃ z, itb n = z := ⟨_, rfl⟩
      have hfmt : ∀ x, Calls Tryd.prog 16 #[.int .i64 n, .int .i64 10] (wr.grow x) fun e w' => e = .returned (.string fb) ∧ Below (wr.grow x).heap.size (wr.grow x) w' := fun x => by
        refine (Any.strconv_FormatInt_10 Tryd.formatL n hnin.1 hnin.2 (wr.grow x) (tab_of_rel (g := 1) (C := cfg0 (wr.grow x)) (rel0 (glo_below hgw (below_grow wr x))) (by kernel_rfl) (by rw [show Lib.pow10Tab.map (AV.int .u64) = _ from rfl]; exact List.mem_cons_of_mem _ (List.mem_cons_self ..)))).mono ?_
        rintro e w' ⟨rfl, k, os, rfl⟩
        exact ⟨by rw [← efb]; rfl, below_gr2 _ _ _⟩
      have hnb := HN.out i nm hnm
      have hfb : fb.size ≤ 21 := by rw [← efb]; exact Lib.itoa_length_le n hnin.1 hnin.2
      obtain ⟨s1, es1⟩ : ∃ z, nm ++ (⟨#[32]⟩ : ByteArray) = z := ⟨_, rfl⟩
      obtain ⟨s2, es2⟩ : ∃ z, s1 ++ fb = z := ⟨_, rfl⟩
      obtain ⟨s3, es3⟩ : ∃ z, s2 ++ (⟨#[10]⟩ : ByteArray) = z := ⟨_, rfl⟩
      have hz1 : s1.size = nm.size + 1 := by rw [← es1, ByteArray.size_append]; rfl
      have hz2 : s2.size = s1.size + fb.size := by rw [← es2, ByteArray.size_append]
      have hz3 : s3.size = s2.size + 1 := by rw [← es3, ByteArray.size_append]; rfl
      have a1 := HA.out nm _ s1 (by omega) (by decide) es1
      have a2 := HA.out s1 fb s2 (by omega) (by omega) es2
      have a3 := HA.out s2 _ s3 (by omega) (by decide) es3
      have hs3 : tx s3 = lineL (tx nm) n := by
        rw [← es3, ← es2, ← es1, ← efb, tx_app, tx_app, tx_app, tx_itb]; rfl
      have hll := HL.out i hi
      have hs3l : s3.size ≤ 1000 := by omega
      have H1 := Lib.hid hs3
      have H2 := Lib.hid hs3l
      have H3 := Lib.hid hll
      have H4 := Lib.hid hnm
      have H5 := Lib.hid hn'
      clear hz1 hz2 hz3 hs3 hs3l hll hnb hfb es1 es2 es3 efb hnin hnm hn' hn
      go_wp2_with (fail)
      ((with_reducible refine wp_region_grow_tail 8 [0] (by kernel_rfl) (by kernel_rfl) ?lt ?_); (case lt => (first | (exact trivial) | (simp only [AllLt, World.size_alloc, World.size_setCell, World.size_drew, size_drewN', size_grow, and_true, true_and]; omega))); intro hkept; simp only [AllKept, and_true] at hkept; (simp only [List.take_succ_cons, List.take_zero, List.drop_succ_cons, List.drop_zero]); (repeat (go_big_quiet_step ((go_at_call 16; exact Calls.grown_below (hfmt _))))))
      (refine wpQuiet_nil ?_; intro _ hw'; obtain ⟨xg, hw''⟩ := hw'; subst hw'')
      go_wp2_with (go_at_call 15; refine (Any.Builder_WriteString_k Tryd.writeL Tryd.writeX (w.heap.size + 1) (w.heap.size + 1) _ s3 (wr.grow xg) (builder_grow hI xg) (by rw [Lib.byteCells_length]; have := H2.out; have := H3.out; omega) (builder_lt hI xg)).mono ?_; rintro e w2 ⟨rfl, hI2, hb2, hk2⟩; refine Hid.out ?_)
      refine Lib.hid ?_
      go_wp2
      go_roundw
      case rel =>
        refine ⟨i + 1, by omega, by simp, ?_, (hbw.trans ((below_grow wr xg).mono hbw.size)).trans (hb2.mono (by omega))⟩
        rw [lines_snoc _ _ i (tx nm) n (by rw [List.getElem?_map, H4.out]; rfl) H5.out, Lib.byteCells_append, ← H1.out]
        exact .inr hI2
      case measure =>
        simp [intOf]; omega
    · obtain rfl : i = 14 := by omega
      have hcell : wr.cell? ⟨0, 14, none⟩ = some (.string ⟨#[101, 110, 100]⟩) := glo_str hgw gs_names rfl
      obtain ⟨s1, es1⟩ : ∃ z, (⟨#[101, 110, 100]⟩ : ByteArray) ++ (⟨#[10]⟩ : ByteArray) = z := ⟨_, rfl⟩
      have a1 := HA.out _ _ s1 (by decide) (by decide) es1
      have hs1 : s1.data.toList = [101, 110, 100, 10] := by rw [← es1]; rfl
      have hs1l : s1.size = 4 := by rw [← es1]; rfl
      have hll := HL.out 14 (by omega)
      have H1 := Lib.hid hs1
      have H2 := Lib.hid hs1l
      have H3 := Lib.hid hll
      clear es1 hs1 hs1l hll
      go_wp2_with (go_at_call 15; refine (Any.Builder_WriteString_k Tryd.writeL Tryd.writeX (w.heap.size + 1) (w.heap.size + 1) _ s1 wr hI (by rw [Lib.byteCells_length]; have := H2.out; have := H3.out; omega) (builder_lt0 hI)).mono ?_; rintro e w2 ⟨rfl, hI2, hb2, hk2⟩; refine Hid.out ?_)
      refine Lib.hid ?_
      have hI3 : Lib.IsBuilderF 42 5 (w.heap.size + 1) (w.heap.size + 1) (Lib.byteCells (textL ns)) w2 := by
        have e1 : Lib.byteCells (textL ns) = Lib.byteCells (linesL ((nmsB.map tx).take 14) (ns.take 14)) ++ Lib.strCells s1 := by
          unfold textL
          rw [Lib.byteCells_append, Lib.strCells_eq, H1.out]
        rw [e1]
        exact .inr hI2
      go_wp2_with (go_at_call 17; refine (Any.Builder_String_k Tryd.stringL Tryd.stringX (w.heap.size + 1) (w.heap.size + 1) (textL ns) w2 hI3 (by unfold textL; simp)).mono ?_; rintro e w3 ⟨rfl, hI4, hb3, hk3⟩; refine Hid.out ?_)
      refine Lib.hid ?_
      go_wp2
      go_ret
      exact ⟨by rw [hns]; rfl, (hbw.trans (hb2.mono (by omega))).trans (hb3.mono (by omega))⟩
theorem glo_rel {C : Cfg} (R : Rel C) : Glo C.w := fun p hp =>
  ⟨(R.glo p hp).recfg (C := C) (D := cfg0 C.w) rfl (fun b hb => by
    rcases hb with hb | ⟨s, ⟨z, es, hs⟩, _⟩
    · exact hb.elim
    · simp [cfg0] at hs) (gs_upto hp 0), R.gsz p hp⟩
theorem agg_ints {C : Cfg} {ns : List Int} {v : Value} (h : VR C (.agg (ns.map (AV.int .i64))) v) : v = .agg (ns.map (Value.int .i64)).toArray := by
  obtain ⟨vs, rfl, h1, h2⟩ := h.agg'
  congr 1
  apply Array.ext_getElem?
  intro j
  rw [List.length_map] at h1
  by_cases hj : j < ns.length
  · have h3 := (h2 j (.int .i64 (ns[j]'hj)) (by rw [List.getElem?_map, List.getElem?_eq_getElem hj]; rfl)).int'
    rw [Array.getD_eq_getD_getElem?, Array.getElem?_eq_getElem (by omega)] at h3
    rw [Array.getElem?_eq_getElem (by omega), List.getElem?_toArray, List.getElem?_map, List.getElem?_eq_getElem hj]
    exact congrArg some h3
  · rw [Array.getElem?_eq_none (by omega), List.getElem?_toArray, List.getElem?_eq_none (by simp; omega)]
def cfA (c0 c1 c2 c3 c4 c5 c6 c7 c8 c9 c10 c11 c12 c13 : Int) : AV := .agg [.int .i64 c0, .int .i64 c1, .int .i64 c2, .int .i64 c3, .int .i64 c4, .int .i64 c5, .int .i64 c6, .int .i64 c7, .int .i64 c8, .int .i64 c9, .int .i64 c10, .int .i64 c11, .int .i64 c12, .int .i64 c13]
theorem e_wtext (ns : List Int) (c0 c1 c2 c3 c4 c5 c6 c7 c8 c9 c10 c11 c12 c13 : Int) (hns : ns = [c0, c1, c2, c3, c4, c5, c6, c7, c8, c9, c10, c11, c12, c13]) (hin : ∀ n, n ∈ ns → In64 n) (b : ByteArray) (eb : b = bk (textL ns)) : PCalls Tryd.prog 8 [cfA c0 c1 c2 c3 c4 c5 c6 c7 c8 c9 c10 c11 c12 c13] (· = .str b) := by
  refine PCalls.of_below (entW (by kernel_rfl)) fun C vs hC RC hv => ?_
  have hv1 := hv.2 0 _ rfl
  have e0 : cfA c0 c1 c2 c3 c4 c5 c6 c7 c8 c9 c10 c11 c12 c13 = .agg (ns.map (AV.int .i64)) := by rw [hns]; rfl
  rw [e0] at hv1
  have e1 := agg_ints hv1
  have hvs : vs = #[.agg #[.int .i64 c0, .int .i64 c1, .int .i64 c2, .int .i64 c3, .int .i64 c4, .int .i64 c5, .int .i64 c6, .int .i64 c7, .int .i64 c8, .int .i64 c9, .int .i64 c10, .int .i64 c11, .int .i64 c12, .int .i64 c13]] := by
    obtain ⟨h1, _⟩ := hv
    match vs, h1, e1 with
    | ⟨[v]⟩, _, e1 =>
      have : v = _ := e1
      rw [this, hns]; rfl
  rw [hvs]
  refine (wtext_walk ns c0 c1 c2 c3 c4 c5 c6 c7 c8 c9 c10 c11 c12 c13 C.w hns hin (glo_rel RC)).mono ?_
  rintro e w' ⟨rfl, hb⟩
  exact ⟨_, _, rfl, rfl, fun D => by rw [eb]; exact .str _, hb⟩
end Go.Proofs.YtdjafcjpnjdphaaDoor

/- The number that a word says: the program's, walked. -/
set_option linter.unusedVariables false
set_option linter.unusedSimpArgs false
namespace Go.Proofs.YtdjafcjpnjdphaaDoor
open Go Go.RowKit Go.Eng Go.Shelf Go.Sort
set_option maxRecDepth 100000
theorem parseM_snoc (M : Nat) : ∀ (l : List UInt8) (acc : Nat) (d : UInt8), Lib.parseUintM M acc (l ++ [d]) = match Lib.parseUintM M acc l with | .ok a => Lib.parseUintM M a [d] | e => e
  | [], acc, d => rfl
  | c :: l, acc, d => by
    simp only [List.cons_append, Lib.parseUintM]
    split
    · split
      · rfl
      · split
        · rfl
        · rw [parseM_snoc M l _ d]; rfl
    · rfl
theorem parseM_dec : ∀ (k u : Nat), u ≤ k → u < 18446744073709551616 → Lib.parseUintM 18446744073709551615 0 (Lib.decDigits u) = .ok u
  | 0, u, h, _ => by
    obtain rfl : u = 0 := by omega
    rw [Lib.decDigits_one (by omega)]; rfl
  | k + 1, u, h, hm => by
    by_cases h10 : u < 10
    · rw [Lib.decDigits_one h10]
      have e : (UInt8.ofNat (48 + u)).toNat = 48 + u := by rw [UInt8.toNat_ofNat']; omega
      unfold Lib.parseUintM
      rw [e, if_pos (by omega), if_neg (by omega), if_neg (by omega)]
      unfold Lib.parseUintM
      congr 1; omega
    · rw [Lib.decDigits, dif_neg h10, parseM_snoc, parseM_dec k (u / 10) (by omega) (by omega)]
      have e : (UInt8.ofNat (48 + u % 10)).toNat = 48 + u % 10 := by rw [UInt8.toNat_ofNat']; omega
      simp only
      unfold Lib.parseUintM
      rw [e, if_pos (by omega), if_neg (by omega), if_neg (by omega)]
      unfold Lib.parseUintM
      congr 1; omega
theorem dec_cons (u : Nat) : ∃ c r, Lib.decDigits u = c :: r ∧ 48 ≤ c.toNat ∧ c.toNat ≤ 57 := by
  cases h : Lib.decDigits u with
  | nil =>
    have := Lib.decDigits_length u
    rw [h] at this
    have := Lib.nDigits_pos u
    simp at *
    omega
  | cons c r => exact ⟨c, r, rfl, dec_bytes u u (Nat.le_refl _) c (by rw [h]; simp)⟩
theorem parse_itoa {n : Int} (h : In64 n) : Lib.parseIntB 64 (Lib.itoa n) = .ok n := by
  obtain ⟨h0, h1⟩ := h
  unfold Lib.itoa
  split
  · rename_i hn
    obtain ⟨c, r, hc, hc1, hc2⟩ := dec_cons n.natAbs
    unfold Lib.parseIntB Lib.parseUintB
    simp only
    have e1 : (if (45 : UInt8).toNat = 43 ∨ (45 : UInt8).toNat = 45 then Lib.decDigits n.natAbs else 45 :: Lib.decDigits n.natAbs) = Lib.decDigits n.natAbs := if_pos (.inr rfl)
    rw [e1, if_neg (by rw [hc]; simp), show 2 ^ 64 - 1 = 18446744073709551615 from rfl, parseM_dec _ n.natAbs (Nat.le_refl _) (by omega)]
    simp
    rw [if_neg (by omega)]
    congr 1; omega
  · rename_i hn
    obtain ⟨c, r, hc, hc1, hc2⟩ := dec_cons n.toNat
    have hd := parseM_dec _ n.toNat (Nat.le_refl _) (by omega)
    rw [hc] at hd ⊢
    unfold Lib.parseIntB Lib.parseUintB
    simp only
    have e1 : (if c.toNat = 43 ∨ c.toNat = 45 then r else c :: r) = c :: r := if_neg (by omega)
    rw [e1, if_neg (by simp), show 2 ^ 64 - 1 = 18446744073709551615 from rfl, hd]
    have hc45 : ¬ c.toNat = 45 := by omega
    simp [hc45]
    rw [if_neg (by omega)]
    congr 1; omega
/-- What a numeral's bytes are. -/
theorem itoa_at {n : Int} {j : Nat} {b : UInt8} (h : (Lib.itoa n)[j]? = some b) : (48 ≤ b.toNat ∧ b.toNat ≤ 57) ∨ (j = 0 ∧ b.toNat = 45) := by
  unfold Lib.itoa at h
  split at h
  · cases j with
    | zero => simp at h; subst h; exact .inr ⟨rfl, rfl⟩
    | succ j => exact .inl (dec_bytes _ _ (Nat.le_refl _) b (List.mem_of_getElem? (by simpa using h)))
  · exact .inl (dec_bytes _ _ (Nat.le_refl _) b (List.mem_of_getElem? h))
/-- Is a text a number's? -/
def NumSays (s : ByteArray) (n : Int) (ok : Bool) : Prop := (ok = true → In64 n ∧ s = itb n) ∧ (ok = false → ∀ m, In64 m → s ≠ itb m)
def NumPost (s : ByteArray) (w : World) (e : Ending) (w' : World) : Prop := (∃ n ok, e = .returned (.tuple #[.int .i64 n, .bool ok]) ∧ NumSays s n ok) ∧ Below w.heap.size w w'
/-- A rune that a numeral may have there. -/
def RuneOk (r pos : Nat) : Prop := (48 ≤ r ∧ r ≤ 57) ∨ (pos = 0 ∧ r = 45)
theorem rune_of {s : ByteArray} {pos r wd : Nat} (hp : pos < s.size) (hd : Utf8.decode s pos = (r, wd)) {b : UInt8} (hb : s.data.toList[pos]? = some b) : (b.toNat < 128 → r = b.toNat ∧ wd = 1) ∧ (128 ≤ b.toNat → 128 ≤ r) := by
  have e : s[pos]'hp = b := by
    have h1 : s.data.toList[pos]? = some (s[pos]'hp) := by rw [Array.getElem?_toList]; exact Array.getElem?_eq_getElem hp
    rw [h1] at hb
    exact Option.some.inj hb
  refine ⟨fun h => ?_, fun h => ?_⟩
  · have := decode_ascii s pos hp (by rw [e]; exact h)
    rw [hd, e] at this
    exact Prod.mk.inj this
  · have := (decode_high s pos hp (by rw [e]; exact h)).1
    rw [hd] at this
    exact this
theorem not_says {s : ByteArray} {pos r wd : Nat} (hp : pos < s.size) (hd : Utf8.decode s pos = (r, wd)) {b : UInt8} (hb : s.data.toList[pos]? = some b) (hr : ¬ RuneOk r pos) : NumSays s 0 false := by
  refine ⟨fun h => (by cases h), fun _ m hm he => ?_⟩
  have h1 : s.data.toList = Lib.itoa m := by rw [he]; rfl
  rw [h1] at hb
  have h2 := itoa_at hb
  have h3 := rune_of hp hd (by rw [h1]; exact hb)
  unfold RuneOk at hr
  omega
theorem glo_err {w : World} (hg : Glo w) {g T : Nat} (hp : (g, [AV.iface T .any]) ∈ gs) : ∃ ev, w.cell? ⟨g, 0, none⟩ = some ev ∧ ∃ te pe, ev = .iface te pe := by
  obtain ⟨a, f, ha, hsp, hcell, _, hx⟩ := (hg _ hp).1.crefs
  simp only [Value.pointer.injEq, Option.some.injEq] at ha
  subst ha
  have h1 := hcell 0 (by simp)
  obtain ⟨u, hu, _⟩ := (hx 0 (.iface T .any) rfl).iface'
  exact ⟨f 0, by simpa [cfg0] using h1, T, u, hu⟩
set_option maxHeartbeats 2000000 in
theorem number_walk (s : ByteArray) (hs : s.size ≤ 100000) (w : World) (hg : Glo w) : Calls Tryd.prog 19 #[.string s] w fun e w' => NumPost s w e w' := by
  have HG := Lib.hid hg
  have hsz' : s.data.toList.length = s.size := by rw [Array.length_toList]; rfl
  have HZ := Lib.hid hsz'
  clear hg hsz'
  go_enter Tryd.func19, Tryd.ntmps19
  go_wp2
  go_loopw [5] (fun _ wr => ∃ pos : Nat, pos ≤ s.size ∧ wr.heap[w.heap.size]? = some (.stringIter s pos) ∧ Below w.heap.size w wr) (fun _ wr => s.size - wr.iterPos w.heap.size)
  case atStart =>
    refine ⟨0, Nat.zero_le _, ?_, ?_⟩
    · have := World.iter_heap w s 0
      simpa using this
    · exact (Below.refl _ w).alloc (Nat.le_refl _) _
  case round =>
    obtain ⟨pos, hpl, hit, hbw⟩ := hrel
    by_cases hp : pos < s.size
    · obtain ⟨b, hb⟩ : ∃ b, s.data.toList[pos]? = some b := ⟨_, List.getElem?_eq_getElem (by rw [HZ.out]; exact hp)⟩
      obtain ⟨r, wd, hdec⟩ : ∃ r wd, Utf8.decode s pos = (r, wd) := ⟨_, _, rfl⟩
      have hnx : ∀ ty, (Instr.next (.pointer (some ⟨w.heap.size, 0, none⟩)) true ty).run Tryd.prog wr = .ok (.tuple #[.bool true, .int .i64 pos, .int .i32 r]) (wr.iterAt w.heap.size s (pos + wd)) := fun ty => by
        have := Lib.run_next_any_at (P := Tryd.prog) wr w.heap.size s pos ty hit hp
        rw [hdec] at this
        exact this
      have hru := rune_of hp hdec hb
      have hit2 := Lib.iterAt_heap wr w.heap.size s pos (pos + wd) hit
      have hbw2 : Below w.heap.size w (wr.iterAt w.heap.size s (pos + wd)) := Lib.below_iterAt hbw (k := w.heap.size) (Nat.le_refl _) s (pos + wd)
      have hip : wr.iterPos w.heap.size = pos := by simp [World.iterPos, hit]
      by_cases hok : RuneOk r pos
      · obtain rfl : wd = 1 := by unfold RuneOk at hok; omega
        have HT := Lib.hid hit2
        have HB := Lib.hid hbw2
        have HP := Lib.hid hip
        have HO := Lib.hid hok
        clear hit2 hbw2 hip hru hdec hit hb
        go_wp2_with (fail)
        all_goals first
          | (exfalso; have := HO.out; unfold RuneOk at this; omega)
          | (refine ⟨⟨pos + 1, by omega, HT.out, HB.out⟩, ?_⟩; rw [HP.out]; have h2 : (wr.iterAt w.heap.size s (pos + 1)).iterPos w.heap.size = pos + 1 := (by simp [World.iterPos, HT.out]); rw [h2]; omega)
      · have hns := not_says hp hdec hb hok
        have HB := Lib.hid hbw2
        have HO := Lib.hid hok
        have HN := Lib.hid hns
        clear hit2 hbw2 hip hru hdec hit hb hns hok
        go_wp2_with (fail)
        all_goals first
          | (exfalso; have := HO.out; unfold RuneOk at this; omega)
          | (go_ret2; exact ⟨⟨0, false, rfl, HN.out⟩, HB.out⟩)
    · have hnx : ∀ ty, (Instr.next (.pointer (some ⟨w.heap.size, 0, none⟩)) true ty).run Tryd.prog wr = _ := fun ty => Lib.run_next_end_at wr w.heap.size s pos ty hit hp
      have hgw := glo_below HG.out hbw
      cases hpi : Lib.parseIntB 64 s.data.toList
      · skip
        rename_i v
        have hvb := Lib.parseIntB_bounds hpi
        have hvi : In64 v := by unfold In64; simp at hvb; omega
        obtain ⟨fb, efb⟩ : ∃ z, itb v = z := ⟨_, rfl⟩
        have hP : Calls Tryd.prog 31 #[.string s, .int .i64 10, .int .i64 64] wr fun e w' => e = .returned (.tuple #[.int .i64 v, .nilIface]) ∧ Below wr.heap.size wr w' := by
          refine (Any.strconv_ParseInt_10_at64_ok Tryd.parseL s (by omega) v hpi wr).mono ?_
          rintro e w' ⟨rfl, rfl | ⟨t, rfl⟩⟩
          · exact ⟨rfl, Below.refl _ _⟩
          · exact ⟨rfl, Lib.bytesWorld_below _ _ _⟩
        have HV := Lib.hid hvi
        have HP := Lib.hid hpi
        have HF := Lib.hid efb
        clear hvb hvi hpi
        go_wp2_with (go_at_call 31; refine hP.mono ?_; rintro e w2 ⟨rfl, hb2⟩; refine Hid.out ?_)
        refine Lib.hid ?_
        have hfmt : Calls Tryd.prog 16 #[.int .i64 v, .int .i64 10] w2 fun e w' => e = .returned (.string fb) ∧ Below w2.heap.size w2 w' := by
          refine (Any.strconv_FormatInt_10 Tryd.formatL v HV.out.1 HV.out.2 w2 (tab_of_rel (g := 1) (C := cfg0 w2) (rel0 (glo_below hgw hb2)) (by kernel_rfl) (by rw [show Lib.pow10Tab.map (AV.int .u64) = _ from rfl]; exact List.mem_cons_of_mem _ (List.mem_cons_self ..)))).mono ?_
          rintro e w' ⟨rfl, k, os, rfl⟩
          exact ⟨by rw [← HF.out]; rfl, below_gr2 _ _ _⟩
        clear efb
        by_cases he : fb = s
        · have ce : (fb.toList == s.toList) = true := by simp [he]
          have HE := Lib.hid he
          clear he
          go_wp2_with (go_at_call 16; refine hfmt.mono ?_; rintro e w3 ⟨rfl, hb3⟩; refine Hid.out ?_)
          refine Lib.hid ?_
          go_wp2
          go_ret2
          exact ⟨⟨v, true, rfl, fun _ => ⟨HV.out, by rw [HF.out, HE.out]⟩, fun h => by cases h⟩, (hbw.trans (hb2.mono hbw.size)).trans (hb3.mono (Nat.le_trans hbw.size hb2.size))⟩
        · have ce : (fb.toList == s.toList) = false := by
            simp only [beq_eq_false_iff_ne, ne_eq]
            exact fun e => he (Go.Eng.toList_inj e)
          have HE := Lib.hid he
          clear he
          go_wp2_with (go_at_call 16; refine hfmt.mono ?_; rintro e w3 ⟨rfl, hb3⟩; refine Hid.out ?_)
          refine Lib.hid ?_
          go_wp2
          go_ret2
          refine ⟨⟨v, false, rfl, fun h => (by cases h), fun _ m hm hs' => HE.out ?_⟩, (hbw.trans (hb2.mono hbw.size)).trans (hb3.mono (Nat.le_trans hbw.size hb2.size))⟩
          have h1 := parse_itoa hm
          have h2 : s.data.toList = Lib.itoa m := by rw [hs']; rfl
          rw [← h2, HP.out] at h1
          obtain rfl : v = m := by simpa using h1
          rw [hs', ← HF.out]
      · skip
        have hno : NumSays s 0 false := ⟨fun h => (by cases h), fun _ m hm hs' => by
          have h1 := parse_itoa hm
          have h2 : s.data.toList = Lib.itoa m := by rw [hs']; rfl
          rw [← h2, hpi] at h1
          cases h1⟩
        obtain ⟨ev, hv1, hv2⟩ := glo_err hgw (g := 3) (T := 109) (by simp [gs])
        have hP := Any.strconv_ParseInt_10_at64_syntax Tryd.parseL s (by omega) hpi ev wr hv1 (.inr hv2)
        have HN := Lib.hid hno
        clear hno hpi hv1 hv2
        go_wp2_with (go_at_call 31; refine hP.mono ?_; rintro e w2 ⟨N, rfl, hN1, hN2, hb2⟩; refine Hid.out ?_)
        refine Lib.hid ?_
        go_wp2
        go_ret2
        exact ⟨⟨0, false, rfl, HN.out⟩, hbw.trans (hb2.mono hbw.size)⟩
      · skip
        have hno : NumSays s (Lib.intSat 64 s.data.toList) false := ⟨fun h => (by cases h), fun _ m hm hs' => by
          have h1 := parse_itoa hm
          have h2 : s.data.toList = Lib.itoa m := by rw [hs']; rfl
          rw [← h2, hpi] at h1
          cases h1⟩
        obtain ⟨ev, hv1, hv2⟩ := glo_err hgw (g := 4) (T := 109) (by simp [gs])
        have hP := Any.strconv_ParseInt_10_at64_range Tryd.parseL s (by omega) hpi ev wr hv1 (.inr hv2)
        obtain ⟨q, eq⟩ : ∃ q, Lib.intSat 64 s.data.toList = q := ⟨_, rfl⟩
        rw [eq] at hP hno
        have HN := Lib.hid hno
        clear hno hpi hv1 hv2 eq
        go_wp2_with (go_at_call 31; refine hP.mono ?_; rintro e w2 ⟨N, rfl, hN1, hN2, hb2⟩; refine Hid.out ?_)
        refine Lib.hid ?_
        go_wp2
        go_ret2
        exact ⟨⟨q, false, rfl, HN.out⟩, hbw.trans (hb2.mono hbw.size)⟩
theorem e_number (s : ByteArray) (hs : s.size ≤ 100000) : PCalls Tryd.prog 19 [.str s] (fun r => ∃ n ok, r = .tuple [.int .i64 n, .bool ok] ∧ NumSays s n ok) := by
  refine PCalls.of_below (entW (by kernel_rfl)) fun C vs hC RC hv => ?_
  have hv1 := (hv.2 0 _ rfl).str'
  have hvs : vs = #[.string s] := by
    obtain ⟨h1, _⟩ := hv
    match vs, h1, hv1 with
    | ⟨[v]⟩, _, e1 =>
      have : v = _ := e1
      rw [this]
  rw [hvs]
  refine (number_walk s hs C.w (glo_rel RC)).mono ?_
  rintro e w' ⟨⟨n, ok, rfl, hn⟩, hb⟩
  refine ⟨_, .tuple [.int .i64 n, .bool ok], rfl, ⟨n, ok, rfl, hn⟩, fun D => ?_, hb⟩
  refine .tuple _ _ rfl fun i x hx => ?_
  match i, hx with
  | 0, hx => simp at hx; subst hx; exact .int _ _
  | 1, hx => simp at hx; subst hx; exact .bool _
  | i + 2, hx => simp at hx
end Go.Proofs.YtdjafcjpnjdphaaDoor

/- Texts that are cut, by the engine. -/
set_option linter.unusedVariables false
set_option linter.unusedSimpArgs false
namespace Go.Proofs.YtdjafcjpnjdphaaDoor
open Go Go.RowKit Go.Eng Go.Shelf
set_option maxRecDepth 100000
/-- Where a byte stands first in a text, or -1. -/
def idxB (c : UInt8) (s : ByteArray) : Int := Lib.indexByte s.data.toList c
theorem idxB_ge (c : UInt8) (s : ByteArray) : -1 ≤ idxB c s := Lib.indexByte_ge _ _
theorem idxB_lt {c : UInt8} {s : ByteArray} (h : 0 ≤ idxB c s) : idxB c s < s.size := by
  obtain ⟨o, ho⟩ : ∃ o : Nat, idxB c s = o := ⟨(idxB c s).toNat, by omega⟩
  have h1 := (Lib.indexByte_some (l := s.data.toList) (c := c) (o := o) ho).1
  obtain ⟨h2, _⟩ := List.getElem?_eq_some_iff.1 h1
  have h3 : s.data.toList.length = s.size := by rw [Array.length_toList]; rfl
  omega
theorem idxB_eq {c : UInt8} {s : ByteArray} {o : Nat} (h1 : s.data.toList[o]? = some c) (h2 : ∀ k, k < o → s.data.toList[k]? ≠ some c) : idxB c s = o := by
  have hg := idxB_ge c s
  by_cases hn : idxB c s = -1
  · exact absurd h1 (Lib.indexByte_none hn o)
  · obtain ⟨p, hp⟩ : ∃ p : Nat, idxB c s = p := ⟨(idxB c s).toNat, by omega⟩
    obtain ⟨h3, h4⟩ := Lib.indexByte_some (l := s.data.toList) (c := c) (o := p) hp
    have : p = o := by
      rcases Nat.lt_trichotomy p o with h | h | h
      · exact absurd h3 (h2 p h)
      · exact h
      · exact absurd h1 (h4 o h)
    rw [hp, this]
theorem idxB_no {c : UInt8} {s : ByteArray} (h2 : ∀ k, k < s.size → s.data.toList[k]? ≠ some c) : idxB c s = -1 := by
  have hg := idxB_ge c s
  by_cases hn : idxB c s = -1
  · exact hn
  · obtain ⟨p, hp⟩ : ∃ p : Nat, idxB c s = p := ⟨(idxB c s).toNat, by omega⟩
    have h5 := idxB_lt (c := c) (s := s) (by omega)
    exact absurd (Lib.indexByte_some (l := s.data.toList) (c := c) (o := p) hp).1 (h2 p (by omega))
/-- A text cut at a byte. -/
def CutOf (c : UInt8) (s a b : ByteArray) (ok : Bool) : Prop :=
  (idxB c s = -1 ∧ ok = false ∧ a = s ∧ b = ⟨#[]⟩) ∨ (0 ≤ idxB c s ∧ ok = true ∧ s.extract 0 (idxB c s).toNat = a ∧ s.extract ((idxB c s).toNat + 1) s.size = b)
theorem cutOf (c : UInt8) (s : ByteArray) : ∃ a b ok, CutOf c s a b ok := by
  have hg := idxB_ge c s
  by_cases hn : idxB c s = -1
  · exact ⟨_, _, _, .inl ⟨hn, rfl, rfl, rfl⟩⟩
  · exact ⟨_, _, _, .inr ⟨by omega, rfl, rfl, rfl⟩⟩
theorem cutOf_un {c : UInt8} {s a b a' b' : ByteArray} {ok ok' : Bool} (h : CutOf c s a b ok) (h' : CutOf c s a' b' ok') : a = a' ∧ b = b' ∧ ok = ok' := by
  rcases h with ⟨h1, h2, h3, h4⟩ | ⟨h1, h2, h3, h4⟩ <;> rcases h' with ⟨k1, k2, k3, k4⟩ | ⟨k1, k2, k3, k4⟩
  · exact ⟨by rw [h3, k3], by rw [h4, k4], by rw [h2, k2]⟩
  · omega
  · omega
  · exact ⟨by rw [← h3, ← k3], by rw [← h4, ← k4], by rw [h2, k2]⟩
theorem cutOf_tx {c : UInt8} {s a b : ByteArray} (h : CutOf c s a b true) : tx s = tx a ++ c :: tx b ∧ c ∉ tx a := by
  rcases h with ⟨_, h2, _⟩ | ⟨h1, h2, h3, h4⟩
  · cases h2
  · obtain ⟨o, ho⟩ : ∃ o : Nat, idxB c s = o := ⟨(idxB c s).toNat, by omega⟩
    obtain ⟨h5, h6⟩ := Lib.indexByte_some (l := s.data.toList) (c := c) (o := o) ho
    obtain ⟨h7, h8⟩ := List.getElem?_eq_some_iff.1 h5
    have h9 : s.data.toList.length = s.size := by rw [Array.length_toList]; rfl
    have e1 : tx a = s.data.toList.take o := by
      rw [← h3, ho]
      simp [tx, ByteArray.data_extract]
    have e2 : tx b = s.data.toList.drop (o + 1) := by
      rw [← h4, ho]
      simp only [tx, ByteArray.data_extract, Array.toList_extract, List.extract_eq_drop_take']
      rw [List.drop_take] <;> skip
      exact List.take_of_length_le (by rw [List.length_drop]; omega)
    rw [e1, e2]
    refine ⟨?_, fun hm => ?_⟩
    · rw [← h8, ← List.drop_eq_getElem_cons h7, List.take_append_drop]; rfl
    · obtain ⟨k, hk, he⟩ := List.getElem_of_mem hm
      have hk' : k < o := by simp at hk; omega
      refine h6 k hk' ?_
      rw [List.getElem?_eq_getElem (by omega)]
      rw [← he]; simp
theorem cutOf_of {c : UInt8} {s a b a' b' : ByteArray} {ok : Bool} (h : CutOf c s a' b' ok) (h1 : tx s = tx a ++ c :: tx b) (h2 : c ∉ tx a) : ok = true ∧ a' = a ∧ b' = b := by
  cases ok
  · exfalso
    rcases h with ⟨h3, _⟩ | ⟨_, h3, _⟩
    · have := Lib.indexByte_none (l := s.data.toList) (c := c) h3 (tx a).length
      refine this ?_
      rw [show s.data.toList = tx s from rfl, h1]; simp
    · cases h3
  · obtain ⟨h3, h4⟩ := cutOf_tx h
    rw [h1] at h3
    obtain ⟨h5, h6⟩ := cut_inj h2 h4 h3
    exact ⟨rfl, tx_ext h5.symm, tx_ext h6.symm⟩
theorem vrs2w {C : Cfg} {x y : AV} {vs : Array Value} (h : VRs C [x, y] vs) : ∃ u v, vs = #[u, v] ∧ VR C x u ∧ VR C y v := by
  obtain ⟨h1, h2⟩ := h
  match vs, h1 with
  | ⟨[u, v]⟩, _ => exact ⟨u, v, rfl, h2 0 x rfl, h2 1 y rfl⟩
theorem e_index (s : ByteArray) (c : UInt8) (o : Int) (eo : o = idxB c s) : PCalls Tryd.prog 38 [.str s, .str ⟨#[c]⟩] (· = .int .i64 o) := by
  refine PCalls.of_below (entW (by kernel_rfl)) fun C vs hC RC hv => ?_
  obtain ⟨v, u, rfl, hV, hU⟩ := vrs2w hv
  obtain rfl := hV.str'
  obtain rfl := hU.str'
  refine (Any.stringslite_Index_one Tryd.indexL s c C.w).mono ?_
  rintro e w' ⟨rfl, rfl⟩
  exact ⟨_, _, rfl, rfl, fun D => by rw [eo]; exact .int .i64 _, Below.refl _ _⟩
theorem e_lcut (s : ByteArray) (c : UInt8) (a b : ByteArray) (ok : Bool) (h : CutOf c s a b ok) (hs : s.size ≤ 100000) : PCalls Tryd.prog 30 [.str s, .str ⟨#[c]⟩] (· = .tuple [.str a, .str b, .bool ok]) := by
  obtain ⟨o, eo⟩ : ∃ o, o = idxB c s := ⟨_, rfl⟩
  have hi := e_index s c o eo
  unfold CutOf at h
  have hl := idxB_lt (c := c) (s := s)
  rw [← eo] at h hl
  obtain ⟨p, ep⟩ : ∃ p, p = o + 1 := ⟨_, rfl⟩
  have hE : o.toNat + 1 = p.toNat ∨ ¬ 0 ≤ o := by omega
  rcases h with ⟨h1, h2, h3, h4⟩ | ⟨h1, h2, h3, h4⟩
  · subst h2 h3 h4 h1
    clear eo ep hE hl
    (refine PCalls.ofY Tryd.func30 (by kernel_rfl) (by kernel_rfl) fun w hw R hR => ?_); (obtain ⟨wbin, wcmp, wun, wconv, wnot, wbeq, wmm, wscmp, wsadd, wslen, wsat, weqs, wlen, wnlen, wofNat, wtake, wdrop, wapp, wzero, wnat⟩ := w); (have hbin : wbin = binStd := congrArg Prims.bin hw); (have hcmp : wcmp = cmpStd := congrArg Prims.cmp hw); (have hun : wun = unStd := congrArg Prims.un hw); (have hconv : wconv = fun k n => k.wrap n := congrArg Prims.conv hw); (have hnot : wnot = fun b => !b := congrArg Prims.not hw); (have hbeq : wbeq = fun a b => a == b := congrArg Prims.beq hw); (have hmm : wmm = maxI := congrArg Prims.mm hw); (have hscmp : wscmp = scmpStd := congrArg Prims.scmp hw); (have hsadd : wsadd = fun x y => x ++ y := congrArg Prims.sadd hw); (have hslen : wslen = fun s => (s.size : Int) := congrArg Prims.slen hw); (have hsat : wsat = std.sat := congrArg Prims.sat hw); (have heqs : weqs = fun a b os => (eqOffs a b os).getD false := congrArg Prims.eqs hw); (have hlen : wlen = fun es => (es.length : Int) := congrArg Prims.len hw); (have hnlen : wnlen = fun es => es.length := congrArg Prims.nlen hw); (have hofNat : wofNat = (fun n : Nat => (n : Int)) := congrArg Prims.ofNat hw); (have htake : wtake = fun es b => es.take b.toNat := congrArg Prims.take hw); (have hdrop : wdrop = fun es a => es.drop a.toNat := congrArg Prims.drop hw); (have happ : wapp = fun a b => a ++ b := congrArg Prims.app hw); (have hzero : wzero = fun n z => List.replicate n.toNat z := congrArg Prims.zero hw); (have hnat : wnat = fun n => n.toNat := congrArg Prims.nat hw); (conv => arg 2; cbv); (generalize hP : Tryd.prog = P); cbv
    refine Call.stepE (by rw [← hP]; exact hi) rfl ?_
    cbv
    have c1 : wcmp .geq (-1) 0 = false := by rw [hcmp]; rfl
    simp only [c1]
    cbv
    exact ⟨_, Vw.same rfl, hR _ rfl⟩
  · subst h2
    have hl' := hl h1
    have hE' : o.toNat + 1 = p.toNat := hE.resolve_right (fun h => h h1)
    rw [hE'] at h4
    have hb1 : p ≤ s.size := by omega
    have hb2 : o ≤ s.size := by omega
    have hp0 : 0 ≤ p := by omega
    have hm1 : o + 1 < 9223372036854775808 := by omega
    have hm0 : -9223372036854775808 ≤ o + 1 := by omega
    have hF := Lib.hid hl'
    have hF2 := Lib.hid hs
    have hF3 := Lib.hid hb1
    have hF4 := Lib.hid hb2
    clear hl hl' hE hE' eo hb1 hb2 hs
    (refine PCalls.ofY Tryd.func30 (by kernel_rfl) (by kernel_rfl) fun w hw R hR => ?_); (obtain ⟨wbin, wcmp, wun, wconv, wnot, wbeq, wmm, wscmp, wsadd, wslen, wsat, weqs, wlen, wnlen, wofNat, wtake, wdrop, wapp, wzero, wnat⟩ := w); (have hbin : wbin = binStd := congrArg Prims.bin hw); (have hcmp : wcmp = cmpStd := congrArg Prims.cmp hw); (have hun : wun = unStd := congrArg Prims.un hw); (have hconv : wconv = fun k n => k.wrap n := congrArg Prims.conv hw); (have hnot : wnot = fun b => !b := congrArg Prims.not hw); (have hbeq : wbeq = fun a b => a == b := congrArg Prims.beq hw); (have hmm : wmm = maxI := congrArg Prims.mm hw); (have hscmp : wscmp = scmpStd := congrArg Prims.scmp hw); (have hsadd : wsadd = fun x y => x ++ y := congrArg Prims.sadd hw); (have hslen : wslen = fun s => (s.size : Int) := congrArg Prims.slen hw); (have hsat : wsat = std.sat := congrArg Prims.sat hw); (have heqs : weqs = fun a b os => (eqOffs a b os).getD false := congrArg Prims.eqs hw); (have hlen : wlen = fun es => (es.length : Int) := congrArg Prims.len hw); (have hnlen : wnlen = fun es => es.length := congrArg Prims.nlen hw); (have hofNat : wofNat = (fun n : Nat => (n : Int)) := congrArg Prims.ofNat hw); (have htake : wtake = fun es b => es.take b.toNat := congrArg Prims.take hw); (have hdrop : wdrop = fun es a => es.drop a.toNat := congrArg Prims.drop hw); (have happ : wapp = fun a b => a ++ b := congrArg Prims.app hw); (have hzero : wzero = fun n z => List.replicate n.toNat z := congrArg Prims.zero hw); (have hnat : wnat = fun n => n.toNat := congrArg Prims.nat hw); (conv => arg 2; cbv); (generalize hP : Tryd.prog = P); cbv
    refine Call.stepE (by rw [← hP]; exact hi) rfl ?_
    cbv
    have c1 : wcmp .geq o 0 = true := by rw [hcmp]; simp [cmpStd]; omega
    have c2 : wslen ⟨#[c]⟩ = 1 := by rw [hslen]; rfl
    have c3 : wbin .add .i64 o 1 = p := by rw [hbin, i_add hm0 hm1, ep]
    simp only [c1]
    cbv
    repeat' (first
      | (simp only [c2, c3])
      | (refine SlcS.to_ a rfl rfl h1 hF4.out h3 ?_; cbv)
      | (refine SlcS.from_ b rfl rfl hp0 hF3.out h4 ?_; cbv)
      | fail)
    exact ⟨_, Vw.same rfl, hR _ rfl⟩
theorem e_cut (s : ByteArray) (c : UInt8) (a b : ByteArray) (ok : Bool) (h : CutOf c s a b ok) (hs : s.size ≤ 100000) : PCalls Tryd.prog 18 [.str s, .str ⟨#[c]⟩] (· = .tuple [.str a, .str b, .bool ok]) := by
  have hc := e_lcut s c a b ok h hs
  have hF := Lib.hid h
  clear h hs
  (refine PCalls.ofY Tryd.func18 (by kernel_rfl) (by kernel_rfl) fun w hw R hR => ?_); (obtain ⟨wbin, wcmp, wun, wconv, wnot, wbeq, wmm, wscmp, wsadd, wslen, wsat, weqs, wlen, wnlen, wofNat, wtake, wdrop, wapp, wzero, wnat⟩ := w); (have hbin : wbin = binStd := congrArg Prims.bin hw); (have hcmp : wcmp = cmpStd := congrArg Prims.cmp hw); (have hun : wun = unStd := congrArg Prims.un hw); (have hconv : wconv = fun k n => k.wrap n := congrArg Prims.conv hw); (have hnot : wnot = fun b => !b := congrArg Prims.not hw); (have hbeq : wbeq = fun a b => a == b := congrArg Prims.beq hw); (have hmm : wmm = maxI := congrArg Prims.mm hw); (have hscmp : wscmp = scmpStd := congrArg Prims.scmp hw); (have hsadd : wsadd = fun x y => x ++ y := congrArg Prims.sadd hw); (have hslen : wslen = fun s => (s.size : Int) := congrArg Prims.slen hw); (have hsat : wsat = std.sat := congrArg Prims.sat hw); (have heqs : weqs = fun a b os => (eqOffs a b os).getD false := congrArg Prims.eqs hw); (have hlen : wlen = fun es => (es.length : Int) := congrArg Prims.len hw); (have hnlen : wnlen = fun es => es.length := congrArg Prims.nlen hw); (have hofNat : wofNat = (fun n : Nat => (n : Int)) := congrArg Prims.ofNat hw); (have htake : wtake = fun es b => es.take b.toNat := congrArg Prims.take hw); (have hdrop : wdrop = fun es a => es.drop a.toNat := congrArg Prims.drop hw); (have happ : wapp = fun a b => a ++ b := congrArg Prims.app hw); (have hzero : wzero = fun n z => List.replicate n.toNat z := congrArg Prims.zero hw); (have hnat : wnat = fun n => n.toNat := congrArg Prims.nat hw); (conv => arg 2; cbv); (generalize hP : Tryd.prog = P); cbv
  refine Call.stepE (by rw [← hP]; exact hc) rfl ?_
  cbv
  exact ⟨_, Vw.same rfl, hR _ rfl⟩
end Go.Proofs.YtdjafcjpnjdphaaDoor

/- Lists that are built row by row. -/
set_option linter.unusedVariables false
namespace Go.Proofs.YtdjafcjpnjdphaaDoor
open Go Go.RowKit Go.Eng
/-- Where a list is being built, row by row. -/
inductive Bd where
  | start
  | more (i : Int) (n : Nat) (fs : List (List AV))
def Bd.Ok (es : List (List AV)) : Bd → Prop
  | .start => True
  | .more i n fs => 0 < i ∧ i.toNat ≤ es.length ∧ fs = es.take i.toNat ∧ n = fs.length ∧ Up0 fs
def Bd.left (es : List (List AV)) : Bd → Nat
  | .start => es.length
  | .more i _ _ => es.length - i.toNat
theorem up_take {es : List (List AV)} (h : Up0 es) (n : Nat) : Up0 (es.take n) := by
  obtain ⟨h⟩ := h
  refine ⟨?_⟩
  induction es generalizing n with
  | nil => simpa using h
  | cons e t ih =>
    cases n with
    | zero => rfl
    | succ n =>
      simp only [uptoLL, Bool.and_eq_true] at h
      simp only [List.take_succ_cons, uptoLL, Bool.and_eq_true]
      exact ⟨h.1, ih n h.2⟩
theorem take_row {es : List (List AV)} {i : Int} {row : List AV} (h0 : 0 ≤ i) (hr : es[i.toNat]? = some row) : es.take (i + 1).toNat = es.take i.toNat ++ [row] := by
  rw [show (i + 1).toNat = i.toNat + 1 by omega, List.take_add_one, hr]; rfl
theorem up_map {D : Type} {f : D → List AV} (hf : ∀ d, uptoL 0 (f d) = true) (ds : List D) : Up0 (ds.map f) := by
  refine ⟨?_⟩
  induction ds with
  | nil => rfl
  | cons d t ih => exact Bool.and_eq_true_iff.mpr ⟨hf d, ih⟩
theorem get_map {D : Type} {f : D → List AV} {ds : List D} {i : Int} (h0 : 0 ≤ i) (h : i.toNat < ds.length) : ∃ d, ds[i.toNat]? = some d ∧ (ds.map f)[i.toNat]? = some (f d) := by
  have h1 := h
  exact ⟨ds[i.toNat], by rw [List.getElem?_eq_getElem h1], by simp [h1]⟩
end Go.Proofs.YtdjafcjpnjdphaaDoor

/- Digits, as the document has them, by the engine. -/
set_option linter.unusedVariables false
set_option linter.unusedSimpArgs false
namespace Go.Proofs.YtdjafcjpnjdphaaDoor
open Go Go.RowKit Go.Eng
set_option maxRecDepth 100000
theorem e_dig0 (n : Int) (h0 : 0 ≤ n) (h1 : n < 10) (b : ByteArray) (eb : b = itb n) : PCalls Tryd.prog 24 [.int .i64 n] (· = .str b) := by
  (refine PCalls.ofY Tryd.func24 (by kernel_rfl) (by kernel_rfl) fun w hw R hR => ?_); (obtain ⟨wbin, wcmp, wun, wconv, wnot, wbeq, wmm, wscmp, wsadd, wslen, wsat, weqs, wlen, wnlen, wofNat, wtake, wdrop, wapp, wzero, wnat⟩ := w); (have hbin : wbin = binStd := congrArg Prims.bin hw); (have hcmp : wcmp = cmpStd := congrArg Prims.cmp hw); (have hun : wun = unStd := congrArg Prims.un hw); (have hconv : wconv = fun k n => k.wrap n := congrArg Prims.conv hw); (have hnot : wnot = fun b => !b := congrArg Prims.not hw); (have hbeq : wbeq = fun a b => a == b := congrArg Prims.beq hw); (have hmm : wmm = maxI := congrArg Prims.mm hw); (have hscmp : wscmp = scmpStd := congrArg Prims.scmp hw); (have hsadd : wsadd = fun x y => x ++ y := congrArg Prims.sadd hw); (have hslen : wslen = fun s => (s.size : Int) := congrArg Prims.slen hw); (have hsat : wsat = std.sat := congrArg Prims.sat hw); (have heqs : weqs = fun a b os => (eqOffs a b os).getD false := congrArg Prims.eqs hw); (have hlen : wlen = fun es => (es.length : Int) := congrArg Prims.len hw); (have hnlen : wnlen = fun es => es.length := congrArg Prims.nlen hw); (have hofNat : wofNat = (fun n : Nat => (n : Int)) := congrArg Prims.ofNat hw); (have htake : wtake = fun es b => es.take b.toNat := congrArg Prims.take hw); (have hdrop : wdrop = fun es a => es.drop a.toNat := congrArg Prims.drop hw); (have happ : wapp = fun a b => a ++ b := congrArg Prims.app hw); (have hzero : wzero = fun n z => List.replicate n.toNat z := congrArg Prims.zero hw); (have hnat : wnat = fun n => n.toNat := congrArg Prims.nat hw); (conv => arg 2; cbv); (generalize hP : Tryd.prog = P); cbv
  have a1 : wcmp .leq n (-10) = false := by rw [hcmp]; simp [cmpStd]; omega
  have a2 : wcmp .lss n 0 = false := by rw [hcmp]; simp [cmpStd]; omega
  have a3 : wcmp .lss n 10 = true := by rw [hcmp]; simp [cmpStd]; omega
  repeat' (first
    | (simp only [a1]; cbv)
    | (simp only [a2]; cbv)
    | (simp only [a3]; cbv))
  refine ToS.mk b rfl ?_ ?_
  · have c1 : wconv .u8 (wbin .add .i64 48 n) = 48 + n := by
      rw [hbin, i_add (by omega) (by omega), hconv]; show IntKind.u8.wrap (48 + n) = _; rw [IntKind.wrap_u8]; omega
    have e : itb n = ⟨#[UInt8.ofNat (48 + n.toNat)]⟩ := by
      apply tx_ext
      rw [tx_itb, itoa_small h0 h1]; rfl
    rw [c1, eb, e]
    show _ = [[AV.int .u8 ((UInt8.ofNat (48 + n.toNat)).toNat : Int)]]
    rw [UInt8.toNat_ofNat']
    congr 3
    omega
  cbv
  exact ⟨_, Vw.same rfl, hR _ rfl⟩
theorem i_rem {a b : Int} (h0 : 0 ≤ a) (h1 : 0 < b) (h2 : a < 9223372036854775808) : binStd .rem .i64 a b = a % b := by
  show a.tmod b = _
  exact Int.tmod_eq_emod_of_nonneg h0
theorem e_dig1 (n q d : Int) (h0 : 10 ≤ n) (h1 : n < 9223372036854775808) (eq : q = n / 10) (ed : d = n % 10) (b bq bd : ByteArray) (eb : b = itb n) (ebq : bq = itb q) (ebd : bd = itb d) (ih : PCalls Tryd.prog 24 [.int .i64 q] (· = .str bq)) : PCalls Tryd.prog 24 [.int .i64 n] (· = .str b) := by
  have ih2 := e_dig0 d (by omega) (by omega) bd ebd
  (refine PCalls.ofY Tryd.func24 (by kernel_rfl) (by kernel_rfl) fun w hw R hR => ?_); (obtain ⟨wbin, wcmp, wun, wconv, wnot, wbeq, wmm, wscmp, wsadd, wslen, wsat, weqs, wlen, wnlen, wofNat, wtake, wdrop, wapp, wzero, wnat⟩ := w); (have hbin : wbin = binStd := congrArg Prims.bin hw); (have hcmp : wcmp = cmpStd := congrArg Prims.cmp hw); (have hun : wun = unStd := congrArg Prims.un hw); (have hconv : wconv = fun k n => k.wrap n := congrArg Prims.conv hw); (have hnot : wnot = fun b => !b := congrArg Prims.not hw); (have hbeq : wbeq = fun a b => a == b := congrArg Prims.beq hw); (have hmm : wmm = maxI := congrArg Prims.mm hw); (have hscmp : wscmp = scmpStd := congrArg Prims.scmp hw); (have hsadd : wsadd = fun x y => x ++ y := congrArg Prims.sadd hw); (have hslen : wslen = fun s => (s.size : Int) := congrArg Prims.slen hw); (have hsat : wsat = std.sat := congrArg Prims.sat hw); (have heqs : weqs = fun a b os => (eqOffs a b os).getD false := congrArg Prims.eqs hw); (have hlen : wlen = fun es => (es.length : Int) := congrArg Prims.len hw); (have hnlen : wnlen = fun es => es.length := congrArg Prims.nlen hw); (have hofNat : wofNat = (fun n : Nat => (n : Int)) := congrArg Prims.ofNat hw); (have htake : wtake = fun es b => es.take b.toNat := congrArg Prims.take hw); (have hdrop : wdrop = fun es a => es.drop a.toNat := congrArg Prims.drop hw); (have happ : wapp = fun a b => a ++ b := congrArg Prims.app hw); (have hzero : wzero = fun n z => List.replicate n.toNat z := congrArg Prims.zero hw); (have hnat : wnat = fun n => n.toNat := congrArg Prims.nat hw); (conv => arg 2; cbv); (generalize hP : Tryd.prog = P); cbv
  have a1 : wcmp .leq n (-10) = false := by rw [hcmp]; simp [cmpStd]; omega
  have a2 : wcmp .lss n 0 = false := by rw [hcmp]; simp [cmpStd]; omega
  have a3 : wcmp .lss n 10 = false := by rw [hcmp]; simp [cmpStd]; omega
  have b1 : wbin .quo .i64 n 10 = q := by rw [hbin, i_quo (by omega) (by decide) h1, eq]
  have b2 : wbin .rem .i64 n 10 = d := by rw [hbin, i_rem (by omega) (by decide) h1, ed]
  have s1 : wsadd bq bd = b := by rw [hsadd, ebq, ebd, eq, ed, eb]; exact itb_big h0
  repeat' (first
    | (simp only [a1]; cbv)
    | (simp only [a2]; cbv)
    | (simp only [a3]; cbv)
    | (refine Nz.mk (by decide) ?_)
    | (simp only [b1]; cbv)
    | (simp only [b2]; cbv)
    | (refine Call.stepE (by rw [← hP]; exact ih) rfl ?_; cbv)
    | (refine Call.stepE (by rw [← hP]; exact ih2) rfl ?_; cbv)
    | (simp only [s1])
    | (refine Le.mk (by rw [hslen]; exact (sz_num (n := n) (by omega) (by omega) eb).le) ?_))
  exact ⟨_, Vw.same rfl, hR _ rfl⟩
/-- All that aren't below 0. -/
theorem e_digN : ∀ (k n : Nat), n ≤ k → n < 9223372036854775808 → PCalls Tryd.prog 24 [.int .i64 n] (· = .str (itb n))
  | 0, n, h, _ => e_dig0 n (by omega) (by omega) _ rfl
  | k + 1, n, h, hm => by
    by_cases hn : n < 10
    · exact e_dig0 n (by omega) (by omega) _ rfl
    · have ih := e_digN k (n / 10) (by omega) (by omega)
      have e1 : ((n / 10 : Nat) : Int) = (n : Int) / 10 := by omega
      rw [e1] at ih
      exact e_dig1 n _ _ (by omega) (by omega) rfl rfl _ _ _ rfl rfl rfl ih
theorem e_digP (n : Int) (h0 : 0 ≤ n) (h1 : n < 9223372036854775808) : PCalls Tryd.prog 24 [.int .i64 n] (· = .str (itb n)) := by
  obtain ⟨u, rfl⟩ : ∃ u : Nat, n = u := ⟨n.toNat, by omega⟩
  exact e_digN u u (Nat.le_refl _) (by omega)
theorem i_quon {a b : Int} (h0 : a ≤ 0) (h1 : 0 < b) (h2 : -9223372036854775808 ≤ a) : binStd .quo .i64 a b = -(-a / b) := by
  show IntKind.i64.wrap (a.tdiv b) = _
  obtain ⟨u, rfl⟩ : ∃ u : Int, a = -u := ⟨-a, by omega⟩
  rw [Int.neg_tdiv, Int.tdiv_eq_ediv_of_nonneg (by omega), Int.neg_neg]
  have h3 : u / b ≤ u := Int.ediv_le_self _ (by omega)
  have h4 : 0 ≤ u / b := Int.ediv_nonneg (by omega) (by omega)
  rw [IntKind.wrap_i64]; omega
theorem i_remn {a b : Int} (h0 : a ≤ 0) (h1 : 0 < b) (h2 : -9223372036854775808 ≤ a) : binStd .rem .i64 a b = -(-a % b) := by
  show a.tmod b = _
  obtain ⟨u, rfl⟩ : ∃ u : Int, a = -u := ⟨-a, by omega⟩
  rw [Int.neg_tmod, Int.tmod_eq_emod_of_nonneg (by omega), Int.neg_neg]
theorem e_digM (n m : Int) (h0 : -10 < n) (h1 : n < 0) (em : m = -n) (b bm : ByteArray) (eb : b = itb n) (ebm : bm = itb m) : PCalls Tryd.prog 24 [.int .i64 n] (· = .str b) := by
  have ih := e_digP m (by omega) (by omega)
  rw [← ebm] at ih
  (refine PCalls.ofY Tryd.func24 (by kernel_rfl) (by kernel_rfl) fun w hw R hR => ?_); (obtain ⟨wbin, wcmp, wun, wconv, wnot, wbeq, wmm, wscmp, wsadd, wslen, wsat, weqs, wlen, wnlen, wofNat, wtake, wdrop, wapp, wzero, wnat⟩ := w); (have hbin : wbin = binStd := congrArg Prims.bin hw); (have hcmp : wcmp = cmpStd := congrArg Prims.cmp hw); (have hun : wun = unStd := congrArg Prims.un hw); (have hconv : wconv = fun k n => k.wrap n := congrArg Prims.conv hw); (have hnot : wnot = fun b => !b := congrArg Prims.not hw); (have hbeq : wbeq = fun a b => a == b := congrArg Prims.beq hw); (have hmm : wmm = maxI := congrArg Prims.mm hw); (have hscmp : wscmp = scmpStd := congrArg Prims.scmp hw); (have hsadd : wsadd = fun x y => x ++ y := congrArg Prims.sadd hw); (have hslen : wslen = fun s => (s.size : Int) := congrArg Prims.slen hw); (have hsat : wsat = std.sat := congrArg Prims.sat hw); (have heqs : weqs = fun a b os => (eqOffs a b os).getD false := congrArg Prims.eqs hw); (have hlen : wlen = fun es => (es.length : Int) := congrArg Prims.len hw); (have hnlen : wnlen = fun es => es.length := congrArg Prims.nlen hw); (have hofNat : wofNat = (fun n : Nat => (n : Int)) := congrArg Prims.ofNat hw); (have htake : wtake = fun es b => es.take b.toNat := congrArg Prims.take hw); (have hdrop : wdrop = fun es a => es.drop a.toNat := congrArg Prims.drop hw); (have happ : wapp = fun a b => a ++ b := congrArg Prims.app hw); (have hzero : wzero = fun n z => List.replicate n.toNat z := congrArg Prims.zero hw); (have hnat : wnat = fun n => n.toNat := congrArg Prims.nat hw); (conv => arg 2; cbv); (generalize hP : Tryd.prog = P); cbv
  have a1 : wcmp .leq n (-10) = false := by rw [hcmp]; simp [cmpStd]; omega
  have a2 : wcmp .lss n 0 = true := by rw [hcmp]; simp [cmpStd]; omega
  have b1 : wun .neg .i64 n = m := by rw [hun, i_neg (by omega) (by omega), em]
  have s1 : wsadd ⟨#[45]⟩ bm = b := by rw [hsadd, ebm, eb, em]; exact itb_neg h1
  repeat' (first
    | (simp only [a1]; cbv)
    | (simp only [a2]; cbv)
    | (simp only [b1]; cbv)
    | (refine Call.stepE (by rw [← hP]; exact ih) rfl ?_; cbv)
    | (simp only [s1])
    | (refine Le.mk (by rw [hslen]; exact (sz_num (n := n) (by omega) (by omega) eb).le) ?_))
  exact ⟨_, Vw.same rfl, hR _ rfl⟩
theorem e_digL (n q d : Int) (h0 : n ≤ -10) (h1 : -9223372036854775808 ≤ n) (eq : q = -n / 10) (ed : d = -n % 10) (b bq bd : ByteArray) (eb : b = itb n) (ebq : bq = itb q) (ebd : bd = itb d) : PCalls Tryd.prog 24 [.int .i64 n] (· = .str b) := by
  have ih := e_digP q (by omega) (by omega)
  rw [← ebq] at ih
  have ih2 := e_digP d (by omega) (by omega)
  rw [← ebd] at ih2
  obtain ⟨q2, eq2⟩ : ∃ z, z = -q := ⟨_, rfl⟩
  obtain ⟨d2, ed2⟩ : ∃ z, z = -d := ⟨_, rfl⟩
  (refine PCalls.ofY Tryd.func24 (by kernel_rfl) (by kernel_rfl) fun w hw R hR => ?_); (obtain ⟨wbin, wcmp, wun, wconv, wnot, wbeq, wmm, wscmp, wsadd, wslen, wsat, weqs, wlen, wnlen, wofNat, wtake, wdrop, wapp, wzero, wnat⟩ := w); (have hbin : wbin = binStd := congrArg Prims.bin hw); (have hcmp : wcmp = cmpStd := congrArg Prims.cmp hw); (have hun : wun = unStd := congrArg Prims.un hw); (have hconv : wconv = fun k n => k.wrap n := congrArg Prims.conv hw); (have hnot : wnot = fun b => !b := congrArg Prims.not hw); (have hbeq : wbeq = fun a b => a == b := congrArg Prims.beq hw); (have hmm : wmm = maxI := congrArg Prims.mm hw); (have hscmp : wscmp = scmpStd := congrArg Prims.scmp hw); (have hsadd : wsadd = fun x y => x ++ y := congrArg Prims.sadd hw); (have hslen : wslen = fun s => (s.size : Int) := congrArg Prims.slen hw); (have hsat : wsat = std.sat := congrArg Prims.sat hw); (have heqs : weqs = fun a b os => (eqOffs a b os).getD false := congrArg Prims.eqs hw); (have hlen : wlen = fun es => (es.length : Int) := congrArg Prims.len hw); (have hnlen : wnlen = fun es => es.length := congrArg Prims.nlen hw); (have hofNat : wofNat = (fun n : Nat => (n : Int)) := congrArg Prims.ofNat hw); (have htake : wtake = fun es b => es.take b.toNat := congrArg Prims.take hw); (have hdrop : wdrop = fun es a => es.drop a.toNat := congrArg Prims.drop hw); (have happ : wapp = fun a b => a ++ b := congrArg Prims.app hw); (have hzero : wzero = fun n z => List.replicate n.toNat z := congrArg Prims.zero hw); (have hnat : wnat = fun n => n.toNat := congrArg Prims.nat hw); (conv => arg 2; cbv); (generalize hP : Tryd.prog = P); cbv
  have a1 : wcmp .leq n (-10) = true := by rw [hcmp]; simp [cmpStd]; omega
  have b1 : wbin .quo .i64 n 10 = q2 := by rw [hbin, i_quon (by omega) (by decide) h1, eq2, eq]
  have b2 : wbin .rem .i64 n 10 = d2 := by rw [hbin, i_remn (by omega) (by decide) h1, ed2, ed]
  have b3 : wun .neg .i64 q2 = q := by rw [hun, i_neg (by omega) (by omega)]; omega
  have b4 : wun .neg .i64 d2 = d := by rw [hun, i_neg (by omega) (by omega)]; omega
  obtain ⟨bp, ebp⟩ : ∃ z, z = (⟨#[45]⟩ : ByteArray) ++ bq := ⟨_, rfl⟩
  have hS : Sz bp := by
    have h1 := sz_itb (n := q) (by omega) (by omega)
    rw [← ebq] at h1
    have h2 : bp.size = (⟨#[45]⟩ : ByteArray).size + bq.size := by rw [ebp, ByteArray.size_append]
    have h3 : (⟨#[45]⟩ : ByteArray).size = 1 := rfl
    unfold Sz
    omega
  have s2 : wsadd ⟨#[45]⟩ bq = bp := by rw [hsadd, ebp]
  have s1 : wsadd bp bd = b := by rw [hsadd, ebp, ebq, ebd, eq, ed, eb]; exact itb_negbig h0
  repeat' (first
    | (simp only [a1]; cbv)
    | (refine Nz.mk (by decide) ?_)
    | (simp only [b1]; cbv)
    | (simp only [b2]; cbv)
    | (simp only [b3]; cbv)
    | (simp only [b4]; cbv)
    | (refine Call.stepE (by rw [← hP]; exact ih) rfl ?_; cbv)
    | (refine Call.stepE (by rw [← hP]; exact ih2) rfl ?_; cbv)
    | (simp only [s1, s2])
    | (refine Le.mk (by rw [hslen]; first | exact hS.le | exact (sz_num (n := n) h1 (by omega) eb).le) ?_))
  exact ⟨_, Vw.same rfl, hR _ rfl⟩
theorem e_dig (n : Int) (h0 : -9223372036854775808 ≤ n) (h1 : n ≤ 9223372036854775807) (b : ByteArray) (eb : b = itb n) : PCalls Tryd.prog 24 [.int .i64 n] (· = .str b) := by
  by_cases h : 0 ≤ n
  · rw [eb]; exact e_digP n h (by omega)
  · by_cases h2 : -10 < n
    · exact e_digM n _ h2 (by omega) rfl _ _ eb rfl
    · exact e_digL n _ _ (by omega) h0 rfl rfl _ _ _ eb rfl rfl
end Go.Proofs.YtdjafcjpnjdphaaDoor

/- The document's cut, by the engine. -/
set_option linter.unusedVariables false
set_option linter.unusedSimpArgs false
namespace Go.Proofs.YtdjafcjpnjdphaaDoor
open Go Go.RowKit Go.Eng Go.Shelf
set_option maxRecDepth 100000
def byteAt (s : ByteArray) (i : Int) : Int := ((s.data.toList.getD i.toNat 0).toNat : Int)
theorem byteAt_le (s : ByteArray) (i : Int) : 0 ≤ byteAt s i ∧ byteAt s i ≤ 255 := by
  unfold byteAt
  have := (s.data.toList.getD i.toNat 0).toNat_lt
  omega
theorem byteAt_get {s : ByteArray} {i : Int} {n : Int} (en : n = s.size) (h0 : 0 ≤ i) (h1 : i < n) : ∃ b, s.data.toList[i.toNat]? = some b ∧ byteAt s i = b.toNat := by
  have h9 : s.data.toList.length = s.size := by rw [Array.length_toList]; rfl
  have hk : i.toNat < s.data.toList.length := by omega
  refine ⟨_, List.getElem?_eq_getElem hk, ?_⟩
  unfold byteAt
  rw [List.getD_eq_getElem?_getD, List.getElem?_eq_getElem hk]
  rfl
structure NoB (c : UInt8) (s : ByteArray) (i : Int) : Prop where
  h : ∀ k : Nat, k < i.toNat → s.data.toList[k]? ≠ some c
theorem noB0 (c : UInt8) (s : ByteArray) : NoB c s 0 := ⟨fun k hk => absurd hk (Nat.not_lt_zero _)⟩
theorem noB_step {c : UInt8} {s : ByteArray} {i j n : Int} (en : n = s.size) (h0 : 0 ≤ i) (h1 : i < n) (ej : j = i + 1) (h : NoB c s i) (hb : byteAt s i ≠ c.toNat) : NoB c s j := by
  refine ⟨fun k hk he => ?_⟩
  by_cases hki : k < i.toNat
  · exact h.h k hki he
  · obtain rfl : k = i.toNat := by omega
    obtain ⟨b, hb1, hb2⟩ := byteAt_get en h0 h1
    rw [hb1] at he
    obtain rfl := Option.some.inj he
    exact hb hb2
theorem cut_hit {c : UInt8} {s a b : ByteArray} {ok : Bool} {i j n : Int} (en : n = s.size) (h0 : 0 ≤ i) (h1 : i < n) (ej : j = i + 1) (hn : NoB c s i) (hb : byteAt s i = c.toNat) (h : CutOf c s a b ok) : ok = true ∧ s.extract 0 i.toNat = a ∧ s.extract j.toNat s.size = b := by
  obtain ⟨b', hb1, hb2⟩ := byteAt_get en h0 h1
  have : b' = c := by
    apply UInt8.toNat_inj.1
    omega
  subst this
  have he := idxB_eq hb1 hn.h
  rcases h with ⟨k1, _⟩ | ⟨k1, k2, k3, k4⟩
  · omega
  · rw [he] at k3 k4
    refine ⟨k2, k3, ?_⟩
    rw [ej, show (i + 1).toNat = i.toNat + 1 by omega]
    exact k4
theorem cut_miss {c : UInt8} {s a b : ByteArray} {ok : Bool} {i n : Int} (en : n = s.size) (h1 : ¬ i < n) (hn : NoB c s i) (h : CutOf c s a b ok) : a = s ∧ b = ⟨#[]⟩ ∧ ok = false := by
  have he := idxB_no (c := c) (s := s) (fun k hk => hn.h k (by omega))
  rcases h with ⟨k1, k2, k3, k4⟩ | ⟨k1, k2, k3, k4⟩
  · exact ⟨k3, k4, k2⟩
  · omega
theorem e_rcut (s : ByteArray) (c : UInt8) (a b : ByteArray) (ok : Bool) (h : CutOf c s a b ok) (hs : s.size ≤ 100000) (cz : Int) (ecz : cz = c.toNat) : PCalls Tryd.prog 26 [.str s, .int .u8 cz] (· = .tuple [.str a, .str b, .bool ok]) := by
  obtain ⟨n, en⟩ : ∃ n : Int, n = s.size := ⟨_, rfl⟩
  have hn0 : 0 ≤ n ∧ n ≤ 100000 := by omega
  have HN := Lib.hid en
  have HC := Lib.hid h
  have HZ := Lib.hid ecz
  clear en h hs ecz
  (refine PCalls.ofY Tryd.func26 (by kernel_rfl) (by kernel_rfl) fun w hw R hR => ?_); (obtain ⟨wbin, wcmp, wun, wconv, wnot, wbeq, wmm, wscmp, wsadd, wslen, wsat, weqs, wlen, wnlen, wofNat, wtake, wdrop, wapp, wzero, wnat⟩ := w); (have hbin : wbin = binStd := congrArg Prims.bin hw); (have hcmp : wcmp = cmpStd := congrArg Prims.cmp hw); (have hun : wun = unStd := congrArg Prims.un hw); (have hconv : wconv = fun k n => k.wrap n := congrArg Prims.conv hw); (have hnot : wnot = fun b => !b := congrArg Prims.not hw); (have hbeq : wbeq = fun a b => a == b := congrArg Prims.beq hw); (have hmm : wmm = maxI := congrArg Prims.mm hw); (have hscmp : wscmp = scmpStd := congrArg Prims.scmp hw); (have hsadd : wsadd = fun x y => x ++ y := congrArg Prims.sadd hw); (have hslen : wslen = fun s => (s.size : Int) := congrArg Prims.slen hw); (have hsat : wsat = std.sat := congrArg Prims.sat hw); (have heqs : weqs = fun a b os => (eqOffs a b os).getD false := congrArg Prims.eqs hw); (have hlen : wlen = fun es => (es.length : Int) := congrArg Prims.len hw); (have hnlen : wnlen = fun es => es.length := congrArg Prims.nlen hw); (have hofNat : wofNat = (fun n : Nat => (n : Int)) := congrArg Prims.ofNat hw); (have htake : wtake = fun es b => es.take b.toNat := congrArg Prims.take hw); (have hdrop : wdrop = fun es a => es.drop a.toNat := congrArg Prims.drop hw); (have happ : wapp = fun a b => a ++ b := congrArg Prims.app hw); (have hzero : wzero = fun n z => List.replicate n.toNat z := congrArg Prims.zero hw); (have hnat : wnat = fun n => n.toNat := congrArg Prims.nat hw); (conv => arg 2; cbv); (generalize hP : Tryd.prog = P); cbv
  have sl : wslen s = n := by rw [hslen]; exact HN.out.symm
  refine Loop.data hw (S := Int) (fun i => fr 27 [(0, .str s), (1, .int .u8 cz), (7, .int .i64 i)]) (fun _ => [])
    (fun i => 0 ≤ i ∧ i ≤ n ∧ NoB c s i) (fun i => (n - i).toNat) 0 (by (refine Wk.eqz (id) (by first | exact fun i _ j _ e => e | (simp only [List.length_cons, List.length_nil]; decide)) ?_; cbv; (repeat' (first | exact trivial | rfl | assumption | apply And.intro | (simp only [hbin, hcmp, hun, hconv, hnot, hbeq, hmm, hscmp, hsadd, hslen, hsat, heqs, hofNat, binStd, cmpStd, unStd, scmpStd, maxI, Bool.not_eq_true', Bool.not_eq_false', decide_eq_true_eq, decide_eq_false_iff_not, Int.not_lt, Int.not_le, if_true, if_false, Bool.false_eq_true, beq_iff_eq, bne_iff_ne, ne_eq, Bool.not_eq_eq_eq_not, Bool.not_true, Bool.not_false, beq_eq_false_iff_ne, bne_eq_false_iff_eq, Int.ofNat_eq_natCast, Bool.not_not, not_true_eq_false, not_false_eq_true, reduceCtorEq]; first | done | assumption) | exact RowsZ.same (by assumption) (by first | assumption | rfl) | exact FzL.mk rfl rfl rfl (by assumption) (by first | assumption | rfl) (by decide) | (refine RowsZ.one ?_; cbv))))) ⟨Int.le_refl _, hn0.1, noB0 c s⟩ ?_
  rintro i hinv Q' hN hE hR'
  have hinv : 0 ≤ i ∧ i ≤ n ∧ NoB c s i := hinv
  cbv
  obtain ⟨hi0, hi1, hx⟩ := hinv
  have HX := Lib.hid hx
  clear hx
  simp only [sl]
  (split <;> rename_i hc <;> (try (simp only [hbin, hcmp, hun, hconv, hnot, hbeq, hmm, hscmp, hsadd, hslen, hsat, heqs, hofNat, binStd, cmpStd, unStd, scmpStd, maxI, Bool.not_eq_true', Bool.not_eq_false', decide_eq_true_eq, decide_eq_false_iff_not, Int.not_lt, Int.not_le, if_true, if_false, Bool.false_eq_true, beq_iff_eq, bne_iff_ne, ne_eq, Bool.not_eq_eq_eq_not, Bool.not_true, Bool.not_false, beq_eq_false_iff_ne, bne_eq_false_iff_eq, Int.ofNat_eq_natCast, Bool.not_not, not_true_eq_false, not_false_eq_true, reduceCtorEq] at hc)) <;> (try cbv))
  · obtain ⟨j, ej⟩ : ∃ z, z = i + 1 := ⟨_, rfl⟩
    have a4 : wbin .add .i64 i 1 = j := by rw [hbin, i_add (by omega) (by omega), ej]
    have hT : (n - j).toNat < (n - i).toNat := by omega
    have hjn : 0 ≤ j ∧ j ≤ n := by omega
    obtain ⟨q, eq⟩ : ∃ z, z = byteAt s i := ⟨_, rfl⟩
    refine IdxS.mk q hi0 (Int.lt_of_lt_of_le hc (Int.le_of_eq HN.out)) eq.symm ?_
    cbv
    (split <;> rename_i hd <;> (try (simp only [hbin, hcmp, hun, hconv, hnot, hbeq, hmm, hscmp, hsadd, hslen, hsat, heqs, hofNat, binStd, cmpStd, unStd, scmpStd, maxI, Bool.not_eq_true', Bool.not_eq_false', decide_eq_true_eq, decide_eq_false_iff_not, Int.not_lt, Int.not_le, if_true, if_false, Bool.false_eq_true, beq_iff_eq, bne_iff_ne, ne_eq, Bool.not_eq_eq_eq_not, Bool.not_true, Bool.not_false, beq_eq_false_iff_ne, bne_eq_false_iff_eq, Int.ofNat_eq_natCast, Bool.not_not, not_true_eq_false, not_false_eq_true, reduceCtorEq] at hd)) <;> (try cbv))
    · have hh := cut_hit HN.out hi0 hc ej HX.out (by rw [← eq, hd]; exact HZ.out) HC.out
      obtain ⟨h1, h2, h3⟩ := hh
      subst h1
      have HA := Lib.hid h2
      have HB := Lib.hid h3
      clear h2 h3
      repeat' (first
        | (simp only [a4])
        | (refine SlcS.to_ a rfl rfl hi0 (Int.le_trans hi1 (Int.le_of_eq HN.out)) HA.out ?_; cbv)
        | (refine SlcS.from_ b rfl rfl hjn.1 (Int.le_trans hjn.2 (Int.le_of_eq HN.out)) HB.out ?_; cbv)
        | fail)
      refine hR' _ _ ?_
      cbv
      exact ⟨_, Vw.same rfl, hR _ rfl⟩
    · simp only [a4]
      refine hN j _ _ ?hx ?hi hT
      case hx => (refine Wk.eqz (id) (by first | exact fun i _ j _ e => e | (simp only [List.length_cons, List.length_nil]; decide)) ?_; cbv; (repeat' (first | exact trivial | rfl | assumption | apply And.intro | (simp only [hbin, hcmp, hun, hconv, hnot, hbeq, hmm, hscmp, hsadd, hslen, hsat, heqs, hofNat, binStd, cmpStd, unStd, scmpStd, maxI, Bool.not_eq_true', Bool.not_eq_false', decide_eq_true_eq, decide_eq_false_iff_not, Int.not_lt, Int.not_le, if_true, if_false, Bool.false_eq_true, beq_iff_eq, bne_iff_ne, ne_eq, Bool.not_eq_eq_eq_not, Bool.not_true, Bool.not_false, beq_eq_false_iff_ne, bne_eq_false_iff_eq, Int.ofNat_eq_natCast, Bool.not_not, not_true_eq_false, not_false_eq_true, reduceCtorEq]; first | done | assumption) | exact RowsZ.same (by assumption) (by first | assumption | rfl) | exact FzL.mk rfl rfl rfl (by assumption) (by first | assumption | rfl) (by decide) | (refine RowsZ.one ?_; cbv))))
      case hi => exact ⟨hjn.1, hjn.2, noB_step HN.out hi0 hc ej HX.out (by rw [← eq]; intro e; exact hd (by rw [e]; exact HZ.out.symm))⟩
  · refine hE _ _ _ ?_
    cbv
    obtain ⟨h1, h2, h3⟩ := cut_miss HN.out (by omega) HX.out HC.out
    subst h1 h2 h3
    exact ⟨_, Vw.same rfl, hR _ rfl⟩
end Go.Proofs.YtdjafcjpnjdphaaDoor

/- The document's number, by the engine. -/
set_option linter.unusedVariables false
set_option linter.unusedSimpArgs false
namespace Go.Proofs.YtdjafcjpnjdphaaDoor
open Go Go.RowKit Go.Eng Go.Shelf
set_option maxRecDepth 100000
/-- What digits say. -/
def valD (a : Nat) (l : List UInt8) : Nat := l.foldl (fun a b => 10 * a + (b.toNat - 48)) a
theorem valD_nil (a : Nat) : valD a [] = a := rfl
theorem valD_one (a : Nat) (b : UInt8) : valD a [b] = 10 * a + (b.toNat - 48) := rfl
theorem valD_app (l r : List UInt8) (a : Nat) : valD a (l ++ r) = valD (valD a l) r := List.foldl_append
theorem valD_ge : ∀ (l : List UInt8) (a : Nat), a ≤ valD a l
  | [], a => Nat.le_refl _
  | b :: l, a => Nat.le_trans (show a ≤ 10 * a + (b.toNat - 48) by omega) (valD_ge l (10 * a + (b.toNat - 48)))
theorem valD_dec : ∀ (k u : Nat), u ≤ k → valD 0 (Lib.decDigits u) = u
  | k, u, h => by
    by_cases h10 : u < 10
    · rw [Lib.decDigits_one h10]
      have e : (UInt8.ofNat (48 + u)).toNat = 48 + u := by rw [UInt8.toNat_ofNat']; omega
      rw [valD_one, e]; omega
    · cases k with
      | zero => omega
      | succ k =>
        rw [Lib.decDigits, dif_neg h10, valD_app, valD_dec k (u / 10) (by omega)]
        have e : (UInt8.ofNat (48 + u % 10)).toNat = 48 + u % 10 := by rw [UInt8.toNat_ofNat']; omega
        rw [valD_one, e]; omega
/-- The digits of any number that a text may be. -/
structure DigOf (s d : ByteArray) (ng : Bool) : Prop where
  h : ∀ m, In64 m → s = itb m → tx d = Lib.decDigits m.natAbs ∧ (ng = true ↔ m < 0)
structure Pre (d : ByteArray) (i v : Int) : Prop where
  h : v = -(valD 0 ((tx d).take i.toNat) : Int)
theorem pre0 (d : ByteArray) : Pre d 0 0 := ⟨rfl⟩
theorem pre_step {d : ByteArray} {i j n v v' q : Int} (en : n = d.size) (h0 : 0 ≤ i) (h1 : i < n) (ej : j = i + 1) (h : Pre d i v) (eq : q = byteAt d i) (hq : 48 ≤ q) (ev : v' = 10 * v - (q - 48)) : Pre d j v' := by
  obtain ⟨b, hb1, hb2⟩ := byteAt_get en h0 h1
  refine ⟨?_⟩
  have e1 : (tx d).take j.toNat = (tx d).take i.toNat ++ [b] := by
    rw [ej, show (i + 1).toNat = i.toNat + 1 by omega, List.take_add_one, show (tx d)[i.toNat]? = some b from hb1]; rfl
  rw [e1, valD_app]
  have := h.h
  rw [valD_one]
  omega
theorem pre_le {s d : ByteArray} {ng : Bool} {i v m : Int} (h : Pre d i v) (hd : DigOf s d ng) (hm : In64 m) (e : s = itb m) : -v ≤ m.natAbs := by
  obtain ⟨h1, _⟩ := hd.h m hm e
  have h2 : valD 0 (tx d) = m.natAbs := by rw [h1]; exact valD_dec _ _ (Nat.le_refl _)
  have h3 : valD 0 (tx d) = valD (valD 0 ((tx d).take i.toNat)) ((tx d).drop i.toNat) := by rw [← valD_app, List.take_append_drop]
  have h4 := valD_ge ((tx d).drop i.toNat) (valD 0 ((tx d).take i.toNat))
  have := h.h
  omega
theorem pre_all {s d : ByteArray} {ng : Bool} {i v m n : Int} (en : n = d.size) (hi : ¬ i < n) (h : Pre d i v) (hd : DigOf s d ng) (hm : In64 m) (e : s = itb m) : -v = m.natAbs := by
  obtain ⟨h1, _⟩ := hd.h m hm e
  have h2 : valD 0 (tx d) = m.natAbs := by rw [h1]; exact valD_dec _ _ (Nat.le_refl _)
  have h9 : (tx d).length = d.size := by unfold tx; rw [Array.length_toList]; rfl
  have := h.h
  rw [List.take_of_length_le (by omega)] at this
  omega
theorem no_num {s : ByteArray} (h : ∀ m, In64 m → s ≠ itb m) (n : Int) : NumSays s n false := ⟨fun h => (by cases h), fun _ => h⟩
theorem no_digit {s d : ByteArray} {ng : Bool} {i n q : Int} (en : n = d.size) (h0 : 0 ≤ i) (h1 : i < n) (hd : DigOf s d ng) (eq : q = byteAt d i) (hq : q < 48 ∨ 57 < q) : NumSays s 0 false := by
  refine no_num (fun m hm e => ?_) 0
  obtain ⟨b, hb1, hb2⟩ := byteAt_get en h0 h1
  obtain ⟨h2, _⟩ := hd.h m hm e
  have h3 : (Lib.decDigits m.natAbs)[i.toNat]? = some b := by rw [← h2]; exact hb1
  have := dec_bytes _ _ (Nat.le_refl _) b (List.mem_of_getElem? h3)
  omega
theorem digOf {s d : ByteArray} {ng : Bool} (h : (ng = true ∧ 0 < s.size ∧ byteAt s 0 = 45 ∧ s.extract 1 s.size = d) ∨ (ng = false ∧ 0 < s.size ∧ byteAt s 0 ≠ 45 ∧ d = s)) : DigOf s d ng := by
  refine ⟨fun m hm e => ?_⟩
  have ht : tx s = Lib.itoa m := by rw [e]; rfl
  have hB : ∀ b r, tx s = b :: r → byteAt s 0 = b.toNat := fun b r hh => by
    unfold byteAt
    rw [show s.data.toList = tx s from rfl, hh]; rfl
  unfold Lib.itoa at ht
  split at ht
  · rename_i hn
    have := hB _ _ ht
    rcases h with ⟨h1, h2, h3, h4⟩ | ⟨h1, h2, h3, h4⟩
    · refine ⟨?_, by simp [h1, hn]⟩
      have e2 : tx d = (tx s).drop 1 := by
        rw [← h4]
        simp only [tx, ByteArray.data_extract, Array.toList_extract, List.extract_eq_drop_take']
        rw [List.drop_take]
        exact List.take_of_length_le (by rw [List.length_drop, Array.length_toList]; exact Nat.le_refl _)
      rw [e2, ht]; rfl
    · exact absurd this h3
  · rename_i hn
    obtain ⟨c, r, hc, hc1, hc2⟩ := dec_cons m.toNat
    rw [hc] at ht
    have := hB _ _ ht
    rcases h with ⟨h1, h2, h3, h4⟩ | ⟨h1, h2, h3, h4⟩
    · omega
    · refine ⟨?_, by simp [h1]; omega⟩
      rw [h4, ht, ← hc, show m.toNat = m.natAbs by omega]
theorem itoa_pos (m : Int) : 0 < (Lib.itoa m).length := by
  unfold Lib.itoa
  split
  · simp
  · rw [Lib.decDigits_length]; exact Lib.nDigits_pos _
theorem nDigits_lim : ∀ (k u : Nat), u < 10 ^ (k + 1) → Lib.nDigits u ≤ k + 1
  | 0, u, h => by rw [Lib.nDigits_small (by omega)]; omega
  | k + 1, u, h => by
    by_cases h10 : u < 10
    · rw [Lib.nDigits_small h10]; omega
    · rw [Lib.nDigits_big h10]
      have := nDigits_lim k (u / 10) (by rw [Nat.pow_succ] at h; omega)
      omega
theorem itoa_20 {m : Int} (h : In64 m) : (Lib.itoa m).length ≤ 20 := by
  have hn : ∀ u : Nat, u ≤ 9223372036854775808 → Lib.nDigits u ≤ 19 := fun u hu => by
    have := nDigits_lim 18 u (by have : (10 : Nat) ^ (18 + 1) = 10000000000000000000 := rfl; omega)
    omega
  obtain ⟨h0, h1⟩ := h
  unfold Lib.itoa
  split
  · have := hn m.natAbs (by omega)
    simp only [List.length_cons, Lib.decDigits_length]; omega
  · have := hn m.toNat (by omega)
    rw [Lib.decDigits_length]; omega
theorem no_long {s : ByteArray} (h : s.size = 0 ∨ 20 < s.size) : NumSays s 0 false := by
  refine no_num (fun m hm e => ?_) 0
  have ht : tx s = Lib.itoa m := by rw [e]; rfl
  have h9 : (tx s).length = s.size := by unfold tx; rw [Array.length_toList]; rfl
  have h1 : (Lib.itoa m).length ≤ 20 := itoa_20 hm
  have h2 : 0 < (Lib.itoa m).length := itoa_pos m
  rw [ht] at h9
  omega
theorem num_done {s d : ByteArray} {ng : Bool} {i v n x : Int} (en : n = d.size) (hi : ¬ i < n) (h : Pre d i v) (hd : DigOf s d ng) (hv : -9223372036854775808 ≤ v ∧ v ≤ 0) (hx : (ng = true ∧ x = v) ∨ (ng = false ∧ x = -v ∧ v ≠ -9223372036854775808)) : NumSays s x (decide (itb x = s)) := by
  have hX : In64 x := by unfold In64; omega
  refine ⟨fun h1 => ⟨hX, (of_decide_eq_true h1).symm⟩, fun h1 m hm e => ?_⟩
  have h2 := pre_all en hi h hd hm e
  obtain ⟨_, h3⟩ := hd.h m hm e
  have : x = m := by
    rcases hx with ⟨a1, a2⟩ | ⟨a1, a2, _⟩
    · have := h3.1 a1; omega
    · have : ¬ m < 0 := fun hh => by rw [h3.2 hh] at a1; cases a1
      omega
  rw [this, ← e] at h1
  simp at h1
theorem num_least {s d : ByteArray} {i v n : Int} (en : n = d.size) (hi : ¬ i < n) (h : Pre d i v) (hd : DigOf s d false) (hv : v = -9223372036854775808) : NumSays s 0 false := by
  refine no_num (fun m hm e => ?_) 0
  have h2 := pre_all en hi h hd hm e
  obtain ⟨_, h3⟩ := hd.h m hm e
  obtain ⟨h4, h5⟩ := hm
  have : ¬ m < 0 := fun hh => by have := h3.2 hh; cases this
  omega
theorem num_over {s d : ByteArray} {ng : Bool} {i v : Int} (h : Pre d i v) (hd : DigOf s d ng) (hv : 9223372036854775808 < -v) : NumSays s 0 false := by
  refine no_num (fun m hm e => ?_) 0
  have h2 := pre_le h hd hm e
  obtain ⟨h4, h5⟩ := hm
  omega
theorem scmp_eql2 (a b : ByteArray) : scmpStd .eql a b = decide (a = b) := by
  have : scmpStd .eql a b = (a.toList == b.toList) := rfl
  rw [this]
  by_cases h : a = b
  · subst h; simp
  · have : ¬ a.toList = b.toList := fun e => h (Go.Eng.toList_inj e)
    simp [h, this]
set_option maxHeartbeats 1000000 in
theorem e_rnumN (s d : ByteArray) (q0 : Int) (hs : s.size ≤ 100000) (hz : ¬ s.size = 0) (hz2 : ¬ 20 < s.size) (eq0 : q0 = byteAt s 0) (hq : q0 = 45) (ed : s.extract 1 s.size = d) (hd : DigOf s d true) : PCalls Tryd.prog 27 [.str s] (fun r => ∃ n ok, r = .tuple [.int .i64 n, .bool ok] ∧ NumSays s n ok) := by
  obtain ⟨n, en⟩ : ∃ n : Int, n = s.size := ⟨_, rfl⟩
  obtain ⟨n2, en2⟩ : ∃ n : Int, n = d.size := ⟨_, rfl⟩
  have hn1 : 1 ≤ n := by omega
  have hn2 : n ≤ 20 := by omega
  have hn3 : 0 ≤ n2 ∧ n2 ≤ 100000 := by
    have : d.size ≤ s.size := by rw [← ed, ByteArray.size_extract]; omega
    omega
  have HN := Lib.hid en
  have HM := Lib.hid en2
  have HD := Lib.hid hd
  have HQ := Lib.hid eq0
  have HE := Lib.hid ed
  clear en en2 hd hs hz hz2 eq0 ed
  (refine PCalls.ofY Tryd.func27 (by kernel_rfl) (by kernel_rfl) fun w hw R hR => ?_); (obtain ⟨wbin, wcmp, wun, wconv, wnot, wbeq, wmm, wscmp, wsadd, wslen, wsat, weqs, wlen, wnlen, wofNat, wtake, wdrop, wapp, wzero, wnat⟩ := w); (have hbin : wbin = binStd := congrArg Prims.bin hw); (have hcmp : wcmp = cmpStd := congrArg Prims.cmp hw); (have hun : wun = unStd := congrArg Prims.un hw); (have hconv : wconv = fun k n => k.wrap n := congrArg Prims.conv hw); (have hnot : wnot = fun b => !b := congrArg Prims.not hw); (have hbeq : wbeq = fun a b => a == b := congrArg Prims.beq hw); (have hmm : wmm = maxI := congrArg Prims.mm hw); (have hscmp : wscmp = scmpStd := congrArg Prims.scmp hw); (have hsadd : wsadd = fun x y => x ++ y := congrArg Prims.sadd hw); (have hslen : wslen = fun s => (s.size : Int) := congrArg Prims.slen hw); (have hsat : wsat = std.sat := congrArg Prims.sat hw); (have heqs : weqs = fun a b os => (eqOffs a b os).getD false := congrArg Prims.eqs hw); (have hlen : wlen = fun es => (es.length : Int) := congrArg Prims.len hw); (have hnlen : wnlen = fun es => es.length := congrArg Prims.nlen hw); (have hofNat : wofNat = (fun n : Nat => (n : Int)) := congrArg Prims.ofNat hw); (have htake : wtake = fun es b => es.take b.toNat := congrArg Prims.take hw); (have hdrop : wdrop = fun es a => es.drop a.toNat := congrArg Prims.drop hw); (have happ : wapp = fun a b => a ++ b := congrArg Prims.app hw); (have hzero : wzero = fun n z => List.replicate n.toNat z := congrArg Prims.zero hw); (have hnat : wnat = fun n => n.toNat := congrArg Prims.nat hw); (conv => arg 2; cbv); (generalize hP : Tryd.prog = P); cbv
  have sl : wslen s = n := by rw [hslen]; exact HN.out.symm
  have sl2 : wslen d = n2 := by rw [hslen]; exact HM.out.symm
  have c1 : wcmp .eql n 0 = false := by rw [hcmp]; simp [cmpStd]; omega
  have c2 : wcmp .gtr n 20 = false := by rw [hcmp]; simp [cmpStd]; omega
  have c3 : wcmp .eql q0 45 = true := by rw [hcmp]; simp [cmpStd]; omega
  have c4 : wcmp .neq q0 45 = false := by rw [hcmp]; simp [cmpStd]; omega
  have l0 : (0 : Int) < s.size := Int.lt_of_lt_of_le (show (0 : Int) < n by omega) (Int.le_of_eq HN.out)
  simp only [sl, c1]; cbv
  simp only [sl, c2]; cbv
  refine IdxS.mk q0 (Int.le_refl _) l0 HQ.out.symm ?_
  cbv
  simp only [c3]; cbv
  have l1 : (1 : Int) ≤ s.size := Int.le_trans hn1 (Int.le_of_eq HN.out)
  refine SlcS.from_ d rfl rfl (by decide) l1 HE.out ?_
  cbv
  refine Loop.data hw (S := Int × Int) (fun t => fr 64 [(0, .str s), (4, .str d), (5, .int .i64 t.2), (6, .int .i64 t.1)]) (fun _ => [])
    (fun t => 0 ≤ t.1 ∧ t.1 ≤ n2 ∧ -9223372036854775808 ≤ t.2 ∧ t.2 ≤ 0 ∧ Pre d t.1 t.2) (fun t => (n2 - t.1).toNat) (0, 0) (by (refine Wk.eqz (id) (by first | exact fun i _ j _ e => e | (simp only [List.length_cons, List.length_nil]; decide)) ?_; cbv; (repeat' (first | exact trivial | rfl | assumption | apply And.intro | (simp only [hbin, hcmp, hun, hconv, hnot, hbeq, hmm, hscmp, hsadd, hslen, hsat, heqs, hofNat, binStd, cmpStd, unStd, scmpStd, maxI, Bool.not_eq_true', Bool.not_eq_false', decide_eq_true_eq, decide_eq_false_iff_not, Int.not_lt, Int.not_le, if_true, if_false, Bool.false_eq_true, beq_iff_eq, bne_iff_ne, ne_eq, Bool.not_eq_eq_eq_not, Bool.not_true, Bool.not_false, beq_eq_false_iff_ne, bne_eq_false_iff_eq, Int.ofNat_eq_natCast, Bool.not_not, not_true_eq_false, not_false_eq_true, reduceCtorEq]; first | done | assumption) | exact RowsZ.same (by assumption) (by first | assumption | rfl) | exact FzL.mk rfl rfl rfl (by assumption) (by first | assumption | rfl) (by decide) | (refine RowsZ.one ?_; cbv))))) ⟨Int.le_refl _, hn3.1, (show (-9223372036854775808 : Int) ≤ 0 by decide), Int.le_refl _, pre0 d⟩ ?_
  rintro ⟨i, v⟩ hinv Q' hN hE hR'
  have hinv : 0 ≤ i ∧ i ≤ n2 ∧ -9223372036854775808 ≤ v ∧ v ≤ 0 ∧ Pre d i v := hinv
  cbv
  obtain ⟨hi0, hi1, hv0, hv1, hx⟩ := hinv
  have HX := Lib.hid hx
  clear hx
  simp only [sl2]
  (split <;> rename_i hc <;> (try (simp only [hbin, hcmp, hun, hconv, hnot, hbeq, hmm, hscmp, hsadd, hslen, hsat, heqs, hofNat, binStd, cmpStd, unStd, scmpStd, maxI, Bool.not_eq_true', Bool.not_eq_false', decide_eq_true_eq, decide_eq_false_iff_not, Int.not_lt, Int.not_le, if_true, if_false, Bool.false_eq_true, beq_iff_eq, bne_iff_ne, ne_eq, Bool.not_eq_eq_eq_not, Bool.not_true, Bool.not_false, beq_eq_false_iff_ne, bne_eq_false_iff_eq, Int.ofNat_eq_natCast, Bool.not_not, not_true_eq_false, not_false_eq_true, reduceCtorEq] at hc)) <;> (try cbv))
  · obtain ⟨j, ej⟩ : ∃ z, z = i + 1 := ⟨_, rfl⟩
    have a4 : wbin .add .i64 i 1 = j := by rw [hbin, i_add (by omega) (by omega), ej]
    have hT : (n2 - j).toNat < (n2 - i).toNat := by omega
    have hjn : 0 ≤ j ∧ j ≤ n2 := by omega
    obtain ⟨q, eq⟩ : ∃ z, z = byteAt d i := ⟨_, rfl⟩
    have hq0 := byteAt_le d i
    rw [← eq] at hq0
    have l2 : i < d.size := Int.lt_of_lt_of_le hc (Int.le_of_eq HM.out)
    have HB := Lib.hid eq
    have HL := Lib.hid l2
    clear l2 eq
    have hidx : ∀ {K : Int → Prop}, K q → IdxS d i K := fun k => IdxS.mk q hi0 HL.out HB.out.symm k
    refine hidx ?_
    cbv
    (split <;> rename_i h1 <;> (try (simp only [hbin, hcmp, hun, hconv, hnot, hbeq, hmm, hscmp, hsadd, hslen, hsat, heqs, hofNat, binStd, cmpStd, unStd, scmpStd, maxI, Bool.not_eq_true', Bool.not_eq_false', decide_eq_true_eq, decide_eq_false_iff_not, Int.not_lt, Int.not_le, if_true, if_false, Bool.false_eq_true, beq_iff_eq, bne_iff_ne, ne_eq, Bool.not_eq_eq_eq_not, Bool.not_true, Bool.not_false, beq_eq_false_iff_ne, bne_eq_false_iff_eq, Int.ofNat_eq_natCast, Bool.not_not, not_true_eq_false, not_false_eq_true, reduceCtorEq] at h1)) <;> (try cbv))
    · refine hR' _ _ ?_
      cbv
      exact ⟨_, Vw.same rfl, hR _ ⟨_, _, rfl, no_digit HM.out hi0 hc HD.out HB.out (.inl h1)⟩⟩
    · refine hidx ?_
      cbv
      (split <;> rename_i h2 <;> (try (simp only [hbin, hcmp, hun, hconv, hnot, hbeq, hmm, hscmp, hsadd, hslen, hsat, heqs, hofNat, binStd, cmpStd, unStd, scmpStd, maxI, Bool.not_eq_true', Bool.not_eq_false', decide_eq_true_eq, decide_eq_false_iff_not, Int.not_lt, Int.not_le, if_true, if_false, Bool.false_eq_true, beq_iff_eq, bne_iff_ne, ne_eq, Bool.not_eq_eq_eq_not, Bool.not_true, Bool.not_false, beq_eq_false_iff_ne, bne_eq_false_iff_eq, Int.ofNat_eq_natCast, Bool.not_not, not_true_eq_false, not_false_eq_true, reduceCtorEq] at h2)) <;> (try cbv))
      · refine hR' _ _ ?_
        cbv
        exact ⟨_, Vw.same rfl, hR _ ⟨_, _, rfl, no_digit HM.out hi0 hc HD.out HB.out (.inr h2)⟩⟩
      · refine hidx ?_
        cbv
        obtain ⟨dd, edd⟩ : ∃ z, z = q - 48 := ⟨_, rfl⟩
        obtain ⟨e, ee⟩ : ∃ z, z = -9223372036854775808 + dd := ⟨_, rfl⟩
        obtain ⟨e10, ee10⟩ : ∃ z, z = -(-e / 10) := ⟨_, rfl⟩
        obtain ⟨v2, ev2⟩ : ∃ z, z = 10 * v - dd := ⟨_, rfl⟩
        obtain ⟨v10, ev10⟩ : ∃ z, z = 10 * v := ⟨_, rfl⟩
        have b1 : wbin .sub .u8 q 48 = dd := by rw [hbin]; show IntKind.u8.wrap (q - 48) = _; rw [IntKind.wrap_u8]; omega
        have b2 : wconv .i64 dd = dd := by rw [hconv]; show IntKind.i64.wrap dd = _; rw [IntKind.wrap_i64]; omega
        have b3 : wbin .add .i64 (-9223372036854775808) dd = e := by rw [hbin, i_add (by omega) (by omega), ee]
        have b4 : wbin .quo .i64 e 10 = e10 := by rw [hbin, i_quon (by omega) (by decide) (by omega), ee10]
        have HP := pre_step HM.out hi0 hc ej HX.out HB.out (by omega) (show v2 = 10 * v - (q - 48) by omega)
        have HPP := Lib.hid HP
        clear HP
        simp only [b1, b2, b3]
        repeat' (first
          | (refine Nz.mk (by decide) ?_)
          | (simp only [b1, b2, b3, b4])
          | fail)
        (split <;> rename_i h3 <;> (try (simp only [hbin, hcmp, hun, hconv, hnot, hbeq, hmm, hscmp, hsadd, hslen, hsat, heqs, hofNat, binStd, cmpStd, unStd, scmpStd, maxI, Bool.not_eq_true', Bool.not_eq_false', decide_eq_true_eq, decide_eq_false_iff_not, Int.not_lt, Int.not_le, if_true, if_false, Bool.false_eq_true, beq_iff_eq, bne_iff_ne, ne_eq, Bool.not_eq_eq_eq_not, Bool.not_true, Bool.not_false, beq_eq_false_iff_ne, bne_eq_false_iff_eq, Int.ofNat_eq_natCast, Bool.not_not, not_true_eq_false, not_false_eq_true, reduceCtorEq] at h3)) <;> (try cbv))
        · refine hR' _ _ ?_
          cbv
          exact ⟨_, Vw.same rfl, hR _ ⟨_, _, rfl, num_over HPP.out HD.out (by omega)⟩⟩
        · have b5 : wbin .mul .i64 10 v = v10 := by rw [hbin, i_mul (by omega) (by omega), ev10]
          have b6 : wbin .sub .i64 v10 dd = v2 := by rw [hbin, i_sub (by omega) (by omega)]; omega
          simp only [b5, b6, a4]
          refine hN (j, v2) _ _ ?hx ?hi hT
          case hx => (refine Wk.eqz (id) (by first | exact fun i _ j _ e => e | (simp only [List.length_cons, List.length_nil]; decide)) ?_; cbv; (repeat' (first | exact trivial | rfl | assumption | apply And.intro | (simp only [hbin, hcmp, hun, hconv, hnot, hbeq, hmm, hscmp, hsadd, hslen, hsat, heqs, hofNat, binStd, cmpStd, unStd, scmpStd, maxI, Bool.not_eq_true', Bool.not_eq_false', decide_eq_true_eq, decide_eq_false_iff_not, Int.not_lt, Int.not_le, if_true, if_false, Bool.false_eq_true, beq_iff_eq, bne_iff_ne, ne_eq, Bool.not_eq_eq_eq_not, Bool.not_true, Bool.not_false, beq_eq_false_iff_ne, bne_eq_false_iff_eq, Int.ofNat_eq_natCast, Bool.not_not, not_true_eq_false, not_false_eq_true, reduceCtorEq]; first | done | assumption) | exact RowsZ.same (by assumption) (by first | assumption | rfl) | exact FzL.mk rfl rfl rfl (by assumption) (by first | assumption | rfl) (by decide) | (refine RowsZ.one ?_; cbv))))
          case hi => exact ⟨hjn.1, hjn.2, by simp only; omega, by simp only; omega, HPP.out⟩
  · refine hE _ _ _ ?_
    cbv
    have hcn : ¬ i < n2 := by omega
    refine IdxS.mk q0 (Int.le_refl _) l0 HQ.out.symm ?_
    cbv
    simp only [c4]; cbv
    obtain ⟨x, ex⟩ : ∃ z, z = v := ⟨_, rfl⟩
    have hX := num_done HM.out hcn HX.out HD.out ⟨hv0, hv1⟩ (.inl ⟨rfl, ex⟩)
    rw [← ex]
    have b7 : (0 : Int) = 0 := rfl
    have HXX := Lib.hid hX
    clear hX
    obtain ⟨t, et⟩ : ∃ t, t = itb x := ⟨_, rfl⟩
    have hdg := e_dig x (by omega) (by omega) t et
    have HTT := Lib.hid et
    clear et
    try simp only [b7]
    refine Call.stepE (by rw [← hP]; exact hdg) rfl ?_
    cbv
    refine ⟨_, Vw.same rfl, hR _ ⟨x, _, rfl, ?_⟩⟩
    rw [hscmp, scmp_eql2, HTT.out]
    exact HXX.out
set_option maxHeartbeats 1000000 in
theorem e_rnumP (s : ByteArray) (q0 : Int) (hs : s.size ≤ 100000) (hz : ¬ s.size = 0) (hz2 : ¬ 20 < s.size) (eq0 : q0 = byteAt s 0) (hq : q0 ≠ 45) (hd : DigOf s s false) : PCalls Tryd.prog 27 [.str s] (fun r => ∃ n ok, r = .tuple [.int .i64 n, .bool ok] ∧ NumSays s n ok) := by
  obtain ⟨n, en⟩ : ∃ n : Int, n = s.size := ⟨_, rfl⟩
  obtain ⟨n2, en2⟩ : ∃ n : Int, n = s.size := ⟨_, rfl⟩
  have hn1 : 1 ≤ n := by omega
  have hn2 : n ≤ 20 := by omega
  have hn3 : 0 ≤ n2 ∧ n2 ≤ 100000 := by
    skip
    omega
  have HN := Lib.hid en
  have HM := Lib.hid en2
  have HD := Lib.hid hd
  have HQ := Lib.hid eq0
  clear en en2 hd hs hz hz2 eq0
  (refine PCalls.ofY Tryd.func27 (by kernel_rfl) (by kernel_rfl) fun w hw R hR => ?_); (obtain ⟨wbin, wcmp, wun, wconv, wnot, wbeq, wmm, wscmp, wsadd, wslen, wsat, weqs, wlen, wnlen, wofNat, wtake, wdrop, wapp, wzero, wnat⟩ := w); (have hbin : wbin = binStd := congrArg Prims.bin hw); (have hcmp : wcmp = cmpStd := congrArg Prims.cmp hw); (have hun : wun = unStd := congrArg Prims.un hw); (have hconv : wconv = fun k n => k.wrap n := congrArg Prims.conv hw); (have hnot : wnot = fun b => !b := congrArg Prims.not hw); (have hbeq : wbeq = fun a b => a == b := congrArg Prims.beq hw); (have hmm : wmm = maxI := congrArg Prims.mm hw); (have hscmp : wscmp = scmpStd := congrArg Prims.scmp hw); (have hsadd : wsadd = fun x y => x ++ y := congrArg Prims.sadd hw); (have hslen : wslen = fun s => (s.size : Int) := congrArg Prims.slen hw); (have hsat : wsat = std.sat := congrArg Prims.sat hw); (have heqs : weqs = fun a b os => (eqOffs a b os).getD false := congrArg Prims.eqs hw); (have hlen : wlen = fun es => (es.length : Int) := congrArg Prims.len hw); (have hnlen : wnlen = fun es => es.length := congrArg Prims.nlen hw); (have hofNat : wofNat = (fun n : Nat => (n : Int)) := congrArg Prims.ofNat hw); (have htake : wtake = fun es b => es.take b.toNat := congrArg Prims.take hw); (have hdrop : wdrop = fun es a => es.drop a.toNat := congrArg Prims.drop hw); (have happ : wapp = fun a b => a ++ b := congrArg Prims.app hw); (have hzero : wzero = fun n z => List.replicate n.toNat z := congrArg Prims.zero hw); (have hnat : wnat = fun n => n.toNat := congrArg Prims.nat hw); (conv => arg 2; cbv); (generalize hP : Tryd.prog = P); cbv
  have sl : wslen s = n := by rw [hslen]; exact HN.out.symm
  have sl2 : wslen s = n2 := by rw [hslen]; exact HM.out.symm
  have c1 : wcmp .eql n 0 = false := by rw [hcmp]; simp [cmpStd]; omega
  have c2 : wcmp .gtr n 20 = false := by rw [hcmp]; simp [cmpStd]; omega
  have c3 : wcmp .eql q0 45 = false := by rw [hcmp]; simp [cmpStd]; omega
  have c4 : wcmp .neq q0 45 = true := by rw [hcmp]; simp [cmpStd]; omega
  have l0 : (0 : Int) < s.size := Int.lt_of_lt_of_le (show (0 : Int) < n by omega) (Int.le_of_eq HN.out)
  simp only [sl, c1]; cbv
  simp only [sl, c2]; cbv
  refine IdxS.mk q0 (Int.le_refl _) l0 HQ.out.symm ?_
  cbv
  simp only [c3]; cbv
  refine Loop.data hw (S := Int × Int) (fun t => fr 64 [(0, .str s), (4, .str s), (5, .int .i64 t.2), (6, .int .i64 t.1)]) (fun _ => [])
    (fun t => 0 ≤ t.1 ∧ t.1 ≤ n2 ∧ -9223372036854775808 ≤ t.2 ∧ t.2 ≤ 0 ∧ Pre s t.1 t.2) (fun t => (n2 - t.1).toNat) (0, 0) (by (refine Wk.eqz (id) (by first | exact fun i _ j _ e => e | (simp only [List.length_cons, List.length_nil]; decide)) ?_; cbv; (repeat' (first | exact trivial | rfl | assumption | apply And.intro | (simp only [hbin, hcmp, hun, hconv, hnot, hbeq, hmm, hscmp, hsadd, hslen, hsat, heqs, hofNat, binStd, cmpStd, unStd, scmpStd, maxI, Bool.not_eq_true', Bool.not_eq_false', decide_eq_true_eq, decide_eq_false_iff_not, Int.not_lt, Int.not_le, if_true, if_false, Bool.false_eq_true, beq_iff_eq, bne_iff_ne, ne_eq, Bool.not_eq_eq_eq_not, Bool.not_true, Bool.not_false, beq_eq_false_iff_ne, bne_eq_false_iff_eq, Int.ofNat_eq_natCast, Bool.not_not, not_true_eq_false, not_false_eq_true, reduceCtorEq]; first | done | assumption) | exact RowsZ.same (by assumption) (by first | assumption | rfl) | exact FzL.mk rfl rfl rfl (by assumption) (by first | assumption | rfl) (by decide) | (refine RowsZ.one ?_; cbv))))) ⟨Int.le_refl _, hn3.1, (show (-9223372036854775808 : Int) ≤ 0 by decide), Int.le_refl _, pre0 s⟩ ?_
  rintro ⟨i, v⟩ hinv Q' hN hE hR'
  have hinv : 0 ≤ i ∧ i ≤ n2 ∧ -9223372036854775808 ≤ v ∧ v ≤ 0 ∧ Pre s i v := hinv
  cbv
  obtain ⟨hi0, hi1, hv0, hv1, hx⟩ := hinv
  have HX := Lib.hid hx
  clear hx
  simp only [sl2]
  (split <;> rename_i hc <;> (try (simp only [hbin, hcmp, hun, hconv, hnot, hbeq, hmm, hscmp, hsadd, hslen, hsat, heqs, hofNat, binStd, cmpStd, unStd, scmpStd, maxI, Bool.not_eq_true', Bool.not_eq_false', decide_eq_true_eq, decide_eq_false_iff_not, Int.not_lt, Int.not_le, if_true, if_false, Bool.false_eq_true, beq_iff_eq, bne_iff_ne, ne_eq, Bool.not_eq_eq_eq_not, Bool.not_true, Bool.not_false, beq_eq_false_iff_ne, bne_eq_false_iff_eq, Int.ofNat_eq_natCast, Bool.not_not, not_true_eq_false, not_false_eq_true, reduceCtorEq] at hc)) <;> (try cbv))
  · obtain ⟨j, ej⟩ : ∃ z, z = i + 1 := ⟨_, rfl⟩
    have a4 : wbin .add .i64 i 1 = j := by rw [hbin, i_add (by omega) (by omega), ej]
    have hT : (n2 - j).toNat < (n2 - i).toNat := by omega
    have hjn : 0 ≤ j ∧ j ≤ n2 := by omega
    obtain ⟨q, eq⟩ : ∃ z, z = byteAt s i := ⟨_, rfl⟩
    have hq0 := byteAt_le s i
    rw [← eq] at hq0
    have l2 : i < s.size := Int.lt_of_lt_of_le hc (Int.le_of_eq HM.out)
    have HB := Lib.hid eq
    have HL := Lib.hid l2
    clear l2 eq
    have hidx : ∀ {K : Int → Prop}, K q → IdxS s i K := fun k => IdxS.mk q hi0 HL.out HB.out.symm k
    refine hidx ?_
    cbv
    (split <;> rename_i h1 <;> (try (simp only [hbin, hcmp, hun, hconv, hnot, hbeq, hmm, hscmp, hsadd, hslen, hsat, heqs, hofNat, binStd, cmpStd, unStd, scmpStd, maxI, Bool.not_eq_true', Bool.not_eq_false', decide_eq_true_eq, decide_eq_false_iff_not, Int.not_lt, Int.not_le, if_true, if_false, Bool.false_eq_true, beq_iff_eq, bne_iff_ne, ne_eq, Bool.not_eq_eq_eq_not, Bool.not_true, Bool.not_false, beq_eq_false_iff_ne, bne_eq_false_iff_eq, Int.ofNat_eq_natCast, Bool.not_not, not_true_eq_false, not_false_eq_true, reduceCtorEq] at h1)) <;> (try cbv))
    · refine hR' _ _ ?_
      cbv
      exact ⟨_, Vw.same rfl, hR _ ⟨_, _, rfl, no_digit HM.out hi0 hc HD.out HB.out (.inl h1)⟩⟩
    · refine hidx ?_
      cbv
      (split <;> rename_i h2 <;> (try (simp only [hbin, hcmp, hun, hconv, hnot, hbeq, hmm, hscmp, hsadd, hslen, hsat, heqs, hofNat, binStd, cmpStd, unStd, scmpStd, maxI, Bool.not_eq_true', Bool.not_eq_false', decide_eq_true_eq, decide_eq_false_iff_not, Int.not_lt, Int.not_le, if_true, if_false, Bool.false_eq_true, beq_iff_eq, bne_iff_ne, ne_eq, Bool.not_eq_eq_eq_not, Bool.not_true, Bool.not_false, beq_eq_false_iff_ne, bne_eq_false_iff_eq, Int.ofNat_eq_natCast, Bool.not_not, not_true_eq_false, not_false_eq_true, reduceCtorEq] at h2)) <;> (try cbv))
      · refine hR' _ _ ?_
        cbv
        exact ⟨_, Vw.same rfl, hR _ ⟨_, _, rfl, no_digit HM.out hi0 hc HD.out HB.out (.inr h2)⟩⟩
      · refine hidx ?_
        cbv
        obtain ⟨dd, edd⟩ : ∃ z, z = q - 48 := ⟨_, rfl⟩
        obtain ⟨e, ee⟩ : ∃ z, z = -9223372036854775808 + dd := ⟨_, rfl⟩
        obtain ⟨e10, ee10⟩ : ∃ z, z = -(-e / 10) := ⟨_, rfl⟩
        obtain ⟨v2, ev2⟩ : ∃ z, z = 10 * v - dd := ⟨_, rfl⟩
        obtain ⟨v10, ev10⟩ : ∃ z, z = 10 * v := ⟨_, rfl⟩
        have b1 : wbin .sub .u8 q 48 = dd := by rw [hbin]; show IntKind.u8.wrap (q - 48) = _; rw [IntKind.wrap_u8]; omega
        have b2 : wconv .i64 dd = dd := by rw [hconv]; show IntKind.i64.wrap dd = _; rw [IntKind.wrap_i64]; omega
        have b3 : wbin .add .i64 (-9223372036854775808) dd = e := by rw [hbin, i_add (by omega) (by omega), ee]
        have b4 : wbin .quo .i64 e 10 = e10 := by rw [hbin, i_quon (by omega) (by decide) (by omega), ee10]
        have HP := pre_step HM.out hi0 hc ej HX.out HB.out (by omega) (show v2 = 10 * v - (q - 48) by omega)
        have HPP := Lib.hid HP
        clear HP
        simp only [b1, b2, b3]
        repeat' (first
          | (refine Nz.mk (by decide) ?_)
          | (simp only [b1, b2, b3, b4])
          | fail)
        (split <;> rename_i h3 <;> (try (simp only [hbin, hcmp, hun, hconv, hnot, hbeq, hmm, hscmp, hsadd, hslen, hsat, heqs, hofNat, binStd, cmpStd, unStd, scmpStd, maxI, Bool.not_eq_true', Bool.not_eq_false', decide_eq_true_eq, decide_eq_false_iff_not, Int.not_lt, Int.not_le, if_true, if_false, Bool.false_eq_true, beq_iff_eq, bne_iff_ne, ne_eq, Bool.not_eq_eq_eq_not, Bool.not_true, Bool.not_false, beq_eq_false_iff_ne, bne_eq_false_iff_eq, Int.ofNat_eq_natCast, Bool.not_not, not_true_eq_false, not_false_eq_true, reduceCtorEq] at h3)) <;> (try cbv))
        · refine hR' _ _ ?_
          cbv
          exact ⟨_, Vw.same rfl, hR _ ⟨_, _, rfl, num_over HPP.out HD.out (by omega)⟩⟩
        · have b5 : wbin .mul .i64 10 v = v10 := by rw [hbin, i_mul (by omega) (by omega), ev10]
          have b6 : wbin .sub .i64 v10 dd = v2 := by rw [hbin, i_sub (by omega) (by omega)]; omega
          simp only [b5, b6, a4]
          refine hN (j, v2) _ _ ?hx ?hi hT
          case hx => (refine Wk.eqz (id) (by first | exact fun i _ j _ e => e | (simp only [List.length_cons, List.length_nil]; decide)) ?_; cbv; (repeat' (first | exact trivial | rfl | assumption | apply And.intro | (simp only [hbin, hcmp, hun, hconv, hnot, hbeq, hmm, hscmp, hsadd, hslen, hsat, heqs, hofNat, binStd, cmpStd, unStd, scmpStd, maxI, Bool.not_eq_true', Bool.not_eq_false', decide_eq_true_eq, decide_eq_false_iff_not, Int.not_lt, Int.not_le, if_true, if_false, Bool.false_eq_true, beq_iff_eq, bne_iff_ne, ne_eq, Bool.not_eq_eq_eq_not, Bool.not_true, Bool.not_false, beq_eq_false_iff_ne, bne_eq_false_iff_eq, Int.ofNat_eq_natCast, Bool.not_not, not_true_eq_false, not_false_eq_true, reduceCtorEq]; first | done | assumption) | exact RowsZ.same (by assumption) (by first | assumption | rfl) | exact FzL.mk rfl rfl rfl (by assumption) (by first | assumption | rfl) (by decide) | (refine RowsZ.one ?_; cbv))))
          case hi => exact ⟨hjn.1, hjn.2, by simp only; omega, by simp only; omega, HPP.out⟩
  · refine hE _ _ _ ?_
    cbv
    have hcn : ¬ i < n2 := by omega
    refine IdxS.mk q0 (Int.le_refl _) l0 HQ.out.symm ?_
    cbv
    simp only [c4]; cbv
    (split <;> rename_i h5 <;> (try (simp only [hbin, hcmp, hun, hconv, hnot, hbeq, hmm, hscmp, hsadd, hslen, hsat, heqs, hofNat, binStd, cmpStd, unStd, scmpStd, maxI, Bool.not_eq_true', Bool.not_eq_false', decide_eq_true_eq, decide_eq_false_iff_not, Int.not_lt, Int.not_le, if_true, if_false, Bool.false_eq_true, beq_iff_eq, bne_iff_ne, ne_eq, Bool.not_eq_eq_eq_not, Bool.not_true, Bool.not_false, beq_eq_false_iff_ne, bne_eq_false_iff_eq, Int.ofNat_eq_natCast, Bool.not_not, not_true_eq_false, not_false_eq_true, reduceCtorEq] at h5)) <;> (try cbv))
    · exact ⟨_, Vw.same rfl, hR _ ⟨_, _, rfl, num_least HM.out hcn HX.out HD.out h5⟩⟩
    obtain ⟨x, ex⟩ : ∃ z, z = -v := ⟨_, rfl⟩
    have b7 : wun .neg .i64 v = x := by rw [hun, i_neg (by omega) (by omega), ex]
    have hX := num_done HM.out hcn HX.out HD.out ⟨hv0, hv1⟩ (.inr ⟨rfl, ex, h5⟩)
    have HXX := Lib.hid hX
    clear hX
    obtain ⟨t, et⟩ : ∃ t, t = itb x := ⟨_, rfl⟩
    have hdg := e_dig x (by omega) (by omega) t et
    have HTT := Lib.hid et
    clear et
    try simp only [b7]
    refine Call.stepE (by rw [← hP]; exact hdg) rfl ?_
    cbv
    refine ⟨_, Vw.same rfl, hR _ ⟨x, _, rfl, ?_⟩⟩
    rw [hscmp, scmp_eql2, HTT.out]
    exact HXX.out
theorem e_rnumber0 (s : ByteArray) (hs : s.size ≤ 100000) (h : s.size = 0 ∨ 20 < s.size) : PCalls Tryd.prog 27 [.str s] (fun r => ∃ n ok, r = .tuple [.int .i64 n, .bool ok] ∧ NumSays s n ok) := by
  obtain ⟨n, en⟩ : ∃ n : Int, n = s.size := ⟨_, rfl⟩
  have hno := no_long h
  have hn : n = 0 ∨ 20 < n := by omega
  have hn0 : 0 ≤ n := by omega
  have HN := Lib.hid en
  have HO := Lib.hid hno
  clear en hno h hs
  (refine PCalls.ofY Tryd.func27 (by kernel_rfl) (by kernel_rfl) fun w hw R hR => ?_); (obtain ⟨wbin, wcmp, wun, wconv, wnot, wbeq, wmm, wscmp, wsadd, wslen, wsat, weqs, wlen, wnlen, wofNat, wtake, wdrop, wapp, wzero, wnat⟩ := w); (have hbin : wbin = binStd := congrArg Prims.bin hw); (have hcmp : wcmp = cmpStd := congrArg Prims.cmp hw); (have hun : wun = unStd := congrArg Prims.un hw); (have hconv : wconv = fun k n => k.wrap n := congrArg Prims.conv hw); (have hnot : wnot = fun b => !b := congrArg Prims.not hw); (have hbeq : wbeq = fun a b => a == b := congrArg Prims.beq hw); (have hmm : wmm = maxI := congrArg Prims.mm hw); (have hscmp : wscmp = scmpStd := congrArg Prims.scmp hw); (have hsadd : wsadd = fun x y => x ++ y := congrArg Prims.sadd hw); (have hslen : wslen = fun s => (s.size : Int) := congrArg Prims.slen hw); (have hsat : wsat = std.sat := congrArg Prims.sat hw); (have heqs : weqs = fun a b os => (eqOffs a b os).getD false := congrArg Prims.eqs hw); (have hlen : wlen = fun es => (es.length : Int) := congrArg Prims.len hw); (have hnlen : wnlen = fun es => es.length := congrArg Prims.nlen hw); (have hofNat : wofNat = (fun n : Nat => (n : Int)) := congrArg Prims.ofNat hw); (have htake : wtake = fun es b => es.take b.toNat := congrArg Prims.take hw); (have hdrop : wdrop = fun es a => es.drop a.toNat := congrArg Prims.drop hw); (have happ : wapp = fun a b => a ++ b := congrArg Prims.app hw); (have hzero : wzero = fun n z => List.replicate n.toNat z := congrArg Prims.zero hw); (have hnat : wnat = fun n => n.toNat := congrArg Prims.nat hw); (conv => arg 2; cbv); (generalize hP : Tryd.prog = P); cbv
  have sl : wslen s = n := by rw [hslen]; exact HN.out.symm
  simp only [sl]
  (split <;> rename_i h1 <;> (try (simp only [hbin, hcmp, hun, hconv, hnot, hbeq, hmm, hscmp, hsadd, hslen, hsat, heqs, hofNat, binStd, cmpStd, unStd, scmpStd, maxI, Bool.not_eq_true', Bool.not_eq_false', decide_eq_true_eq, decide_eq_false_iff_not, Int.not_lt, Int.not_le, if_true, if_false, Bool.false_eq_true, beq_iff_eq, bne_iff_ne, ne_eq, Bool.not_eq_eq_eq_not, Bool.not_true, Bool.not_false, beq_eq_false_iff_ne, bne_eq_false_iff_eq, Int.ofNat_eq_natCast, Bool.not_not, not_true_eq_false, not_false_eq_true, reduceCtorEq] at h1)) <;> (try cbv))
  · exact ⟨_, Vw.same rfl, hR _ ⟨_, _, rfl, HO.out⟩⟩
  · have c2 : wcmp .gtr n 20 = true := by rw [hcmp]; simp [cmpStd]; omega
    simp only [sl, c2]; cbv
    exact ⟨_, Vw.same rfl, hR _ ⟨_, _, rfl, HO.out⟩⟩
theorem e_rnumber (s : ByteArray) (hs : s.size ≤ 100000) : PCalls Tryd.prog 27 [.str s] (fun r => ∃ n ok, r = .tuple [.int .i64 n, .bool ok] ∧ NumSays s n ok) := by
  by_cases h : s.size = 0 ∨ 20 < s.size
  · exact e_rnumber0 s hs h
  · by_cases hq : byteAt s 0 = 45
    · exact e_rnumN s _ _ hs (by omega) (by omega) rfl hq rfl (digOf (.inl ⟨rfl, by omega, hq, rfl⟩))
    · exact e_rnumP s _ hs (by omega) (by omega) rfl hq (digOf (.inr ⟨rfl, by omega, hq, rfl⟩))
end Go.Proofs.YtdjafcjpnjdphaaDoor

/- Numbers of 128 bits: products and how they compare, by the engine. -/
set_option linter.unusedVariables false
set_option linter.unusedSimpArgs false
namespace Go.Proofs.YtdjafcjpnjdphaaDoor
open Go Go.RowKit Go.Eng
set_option maxRecDepth 100000
theorem u_mul {x y : Int} (h0 : 0 ≤ x * y) (h1 : x * y < 18446744073709551616) : binStd .mul .u64 x y = x * y := by
  show IntKind.u64.wrap (x * y) = _; rw [IntKind.wrap_u64]; omega
theorem u_add {x y : Int} (h0 : 0 ≤ x + y) (h1 : x + y < 18446744073709551616) : binStd .add .u64 x y = x + y := by
  show IntKind.u64.wrap (x + y) = _; rw [IntKind.wrap_u64]; omega
theorem u_shr {x : Int} : binStd .shr .u64 x 32 = x / 4294967296 := by
  show x.fdiv (2 ^ (min (32 : Int).toNat 64)) = _
  rw [show (2 : Int) ^ (min (32 : Int).toNat 64) = 4294967296 by decide, Int.fdiv_eq_ediv_of_nonneg _ (by decide)]
theorem u_shl {x : Int} : binStd .shl .u64 x 32 = x * 4294967296 % 18446744073709551616 := by
  show IntKind.u64.wrap (x * 2 ^ (min (32 : Int).toNat 64)) = _
  rw [show (2 : Int) ^ (min (32 : Int).toNat 64) = 4294967296 by decide, IntKind.wrap_u64]
theorem bv_int {x : Int} (h0 : 0 ≤ x) (h1 : x < 18446744073709551616) : (BitVec.ofInt 64 x).toNat = x.toNat := by
  rw [BitVec.toNat_ofInt]
  show (x % 18446744073709551616).toNat = _
  rw [Int.emod_eq_of_lt h0 h1]
theorem u_and {x : Int} (h0 : 0 ≤ x) (h1 : x < 18446744073709551616) : binStd .and .u64 x 4294967295 = x % 4294967296 := by
  show IntKind.u64.wrap ((BitVec.ofInt 64 x &&& BitVec.ofInt 64 4294967295).toNat : Int) = _
  rw [BitVec.toNat_and, bv_int h0 h1, bv_int (by decide) (by decide)]
  have : x.toNat &&& (4294967295 : Int).toNat = x.toNat % 4294967296 := Nat.and_two_pow_sub_one_eq_mod x.toNat 32
  rw [this, IntKind.wrap_u64]
  omega
theorem u_or {q i : Nat} {y : Int} (hy0 : 0 ≤ y) (hy : y < 2 ^ i) (hb : (2 : Int) ^ i * q + y < 18446744073709551616) : binStd .or .u64 (2 ^ i * q) y = 2 ^ i * q + y := by
  have hp : (2 : Int) ^ i * q = ((2 ^ i * q : Nat) : Int) := by push_cast; rfl
  have h0 : (0 : Int) ≤ 2 ^ i * q := by rw [hp]; exact Int.natCast_nonneg _
  obtain ⟨n, rfl⟩ := Int.eq_ofNat_of_zero_le hy0
  have hn : n < 2 ^ i := by
    have : (n : Int) < ((2 ^ i : Nat) : Int) := by push_cast; exact hy
    exact Int.ofNat_lt.1 this
  show IntKind.u64.wrap ((BitVec.ofInt 64 (2 ^ i * q) ||| BitVec.ofInt 64 n).toNat : Int) = _
  rw [BitVec.toNat_or, bv_int h0 (by omega), bv_int hy0 (by omega), hp]
  have : (((2 ^ i * q : Nat) : Int)).toNat ||| ((n : Nat) : Int).toNat = 2 ^ i * q + n := by
    rw [Int.toNat_natCast, Int.toNat_natCast]
    exact (Nat.two_pow_add_eq_or_of_lt hn q).symm
  rw [this, IntKind.wrap_u64]
  have e : ((2 ^ i * q + n : Nat) : Int) = ((2 ^ i * q : Nat) : Int) + n := by push_cast; rfl
  rw [e, ← hp]
  omega
theorem mul_split {a1 a0 b1 b0 : Int} : (a1 * 4294967296 + a0) * (b1 * 4294967296 + b0) = a1 * b1 * 18446744073709551616 + (a1 * b0 + a0 * b1) * 4294967296 + a0 * b0 := by
  rw [Int.add_mul, Int.mul_add, Int.mul_add, Int.add_mul, show a1 * 4294967296 * (b1 * 4294967296) = a1 * b1 * 18446744073709551616 by rw [Int.mul_assoc, Int.mul_left_comm 4294967296, ← Int.mul_assoc, ← Int.mul_assoc, Int.mul_assoc]; rfl, show a1 * 4294967296 * b0 = a1 * b0 * 4294967296 by rw [Int.mul_assoc, Int.mul_comm 4294967296, ← Int.mul_assoc], ← Int.mul_assoc a0]
  omega
theorem small_mul {x y : Int} (h0 : 0 ≤ x) (h1 : x < 4294967296) (k0 : 0 ≤ y) (k1 : y < 4294967296) : 0 ≤ x * y ∧ x * y ≤ 4294967295 * 4294967295 :=
  ⟨Int.mul_nonneg h0 k0, Int.mul_le_mul (by omega) (by omega) k0 (by decide)⟩
theorem e_mul {a b h l : Int} (ha0 : 0 ≤ a) (ha1 : a < 18446744073709551616) (hb0 : 0 ≤ b) (hb1 : b < 18446744073709551616) (hh : a * b / 18446744073709551616 = h) (hl : a * b % 18446744073709551616 = l) : PCalls Tryd.prog 81 [.int .u64 a, .int .u64 b] (· = .agg [.int .u64 h, .int .u64 l]) := by
  (refine PCalls.ofY Tryd.func81 (by kernel_rfl) (by kernel_rfl) fun w hw R hR => ?_); (obtain ⟨wbin, wcmp, wun, wconv, wnot, wbeq, wmm, wscmp, wsadd, wslen, wsat, weqs, wlen, wnlen, wofNat, wtake, wdrop, wapp, wzero, wnat⟩ := w); (have hbin : wbin = binStd := congrArg Prims.bin hw); (have hcmp : wcmp = cmpStd := congrArg Prims.cmp hw); (have hun : wun = unStd := congrArg Prims.un hw); (have hconv : wconv = fun k n => k.wrap n := congrArg Prims.conv hw); (have hnot : wnot = fun b => !b := congrArg Prims.not hw); (have hbeq : wbeq = fun a b => a == b := congrArg Prims.beq hw); (have hmm : wmm = maxI := congrArg Prims.mm hw); (have hscmp : wscmp = scmpStd := congrArg Prims.scmp hw); (have hsadd : wsadd = fun x y => x ++ y := congrArg Prims.sadd hw); (have hslen : wslen = fun s => (s.size : Int) := congrArg Prims.slen hw); (have hsat : wsat = std.sat := congrArg Prims.sat hw); (have heqs : weqs = fun a b os => (eqOffs a b os).getD false := congrArg Prims.eqs hw); (have hlen : wlen = fun es => (es.length : Int) := congrArg Prims.len hw); (have hnlen : wnlen = fun es => es.length := congrArg Prims.nlen hw); (have hofNat : wofNat = (fun n : Nat => (n : Int)) := congrArg Prims.ofNat hw); (have htake : wtake = fun es b => es.take b.toNat := congrArg Prims.take hw); (have hdrop : wdrop = fun es a => es.drop a.toNat := congrArg Prims.drop hw); (have happ : wapp = fun a b => a ++ b := congrArg Prims.app hw); (have hzero : wzero = fun n z => List.replicate n.toNat z := congrArg Prims.zero hw); (have hnat : wnat = fun n => n.toNat := congrArg Prims.nat hw); (conv => arg 2; cbv); (generalize hP : Tryd.prog = P); cbv
  repeat (refine Nn.mk (by decide) ?_; try cbv)
  refine ⟨_, Vw.same rfl, hR _ ?_⟩
  obtain ⟨a1, ea1⟩ : ∃ x, a / 4294967296 = x := ⟨_, rfl⟩
  obtain ⟨a0, ea0⟩ : ∃ x, a % 4294967296 = x := ⟨_, rfl⟩
  obtain ⟨b1, eb1⟩ : ∃ x, b / 4294967296 = x := ⟨_, rfl⟩
  obtain ⟨b0, eb0⟩ : ∃ x, b % 4294967296 = x := ⟨_, rfl⟩
  have eab : a * b = a1 * b1 * 18446744073709551616 + (a1 * b0 + a0 * b1) * 4294967296 + a0 * b0 := by
    rw [← mul_split]; congr 1 <;> omega
  obtain ⟨p0, p1⟩ := small_mul (x := a0) (y := b0) (by omega) (by omega) (by omega) (by omega)
  obtain ⟨q0, q1⟩ := small_mul (x := a1) (y := b0) (by omega) (by omega) (by omega) (by omega)
  obtain ⟨r0, r1⟩ := small_mul (x := a0) (y := b1) (by omega) (by omega) (by omega) (by omega)
  obtain ⟨s0, s1⟩ := small_mul (x := a1) (y := b1) (by omega) (by omega) (by omega) (by omega)
  show AV.agg _ = AV.agg _
  simp only [hbin, u_shr, u_and ha0 ha1, u_and hb0 hb1, ea1, ea0, eb1, eb0]
  rw [u_mul p0 (by omega), u_mul q0 (by omega), u_mul r0 (by omega), u_mul s0 (by omega)]
  generalize a0 * b0 = p at *
  generalize a1 * b0 = q at *
  generalize a0 * b1 = r at *
  generalize a1 * b1 = s at *
  rw [u_add (x := q) (y := p / 4294967296) (by omega) (by omega)]
  rw [u_and (x := q + p / 4294967296) (by omega) (by omega), u_and (x := p) (by omega) (by omega)]
  rw [u_add (x := r) (y := (q + p / 4294967296) % 4294967296) (by omega) (by omega)]
  rw [u_shl]
  obtain ⟨m, em⟩ : ∃ x, q + p / 4294967296 = x := ⟨_, rfl⟩
  rw [em]
  obtain ⟨n, en⟩ : ∃ x, r + m % 4294967296 = x := ⟨_, rfl⟩
  rw [en]
  rw [u_add (x := s) (y := m / 4294967296) (by omega) (by omega)]
  rw [u_add (x := s + m / 4294967296) (y := n / 4294967296) (by omega) (by omega)]
  have e1 : n * 4294967296 % 18446744073709551616 = 2 ^ 32 * ((n % 4294967296).toNat : Int) := by omega
  rw [e1, u_or (by omega) (by omega) (by omega)]
  have hA : s + m / 4294967296 + n / 4294967296 = h := by omega
  have hB : 2 ^ 32 * ((n % 4294967296).toNat : Int) + p % 4294967296 = l := by omega
  rw [hA, hB]
end Go.Proofs.YtdjafcjpnjdphaaDoor

/- Numbers of 128 bits: how they compare, and the root, by the engine. -/
set_option linter.unusedVariables false
set_option linter.unusedSimpArgs false
namespace Go.Proofs.YtdjafcjpnjdphaaDoor
open Go Go.RowKit Go.Eng
set_option maxRecDepth 100000
theorem e_cmp {xh xl yh yl c : Int} (h1 : 0 ≤ xl) (h2 : xl < 18446744073709551616) (h3 : 0 ≤ yl) (h4 : yl < 18446744073709551616) (hc : (xh * 18446744073709551616 + xl < yh * 18446744073709551616 + yl ∧ c = -1) ∨ (xh * 18446744073709551616 + xl = yh * 18446744073709551616 + yl ∧ c = 0) ∨ (yh * 18446744073709551616 + yl < xh * 18446744073709551616 + xl ∧ c = 1)) : PCalls Tryd.prog 88 [.agg [.int .u64 xh, .int .u64 xl], .agg [.int .u64 yh, .int .u64 yl]] (· = .int .i64 c) := by
  (refine PCalls.ofY Tryd.func88 (by kernel_rfl) (by kernel_rfl) fun w hw R hR => ?_); (obtain ⟨wbin, wcmp, wun, wconv, wnot, wbeq, wmm, wscmp, wsadd, wslen, wsat, weqs, wlen, wnlen, wofNat, wtake, wdrop, wapp, wzero, wnat⟩ := w); (have hbin : wbin = binStd := congrArg Prims.bin hw); (have hcmp : wcmp = cmpStd := congrArg Prims.cmp hw); (have hun : wun = unStd := congrArg Prims.un hw); (have hconv : wconv = fun k n => k.wrap n := congrArg Prims.conv hw); (have hnot : wnot = fun b => !b := congrArg Prims.not hw); (have hbeq : wbeq = fun a b => a == b := congrArg Prims.beq hw); (have hmm : wmm = maxI := congrArg Prims.mm hw); (have hscmp : wscmp = scmpStd := congrArg Prims.scmp hw); (have hsadd : wsadd = fun x y => x ++ y := congrArg Prims.sadd hw); (have hslen : wslen = fun s => (s.size : Int) := congrArg Prims.slen hw); (have hsat : wsat = std.sat := congrArg Prims.sat hw); (have heqs : weqs = fun a b os => (eqOffs a b os).getD false := congrArg Prims.eqs hw); (have hlen : wlen = fun es => (es.length : Int) := congrArg Prims.len hw); (have hnlen : wnlen = fun es => es.length := congrArg Prims.nlen hw); (have hofNat : wofNat = (fun n : Nat => (n : Int)) := congrArg Prims.ofNat hw); (have htake : wtake = fun es b => es.take b.toNat := congrArg Prims.take hw); (have hdrop : wdrop = fun es a => es.drop a.toNat := congrArg Prims.drop hw); (have happ : wapp = fun a b => a ++ b := congrArg Prims.app hw); (have hzero : wzero = fun n z => List.replicate n.toNat z := congrArg Prims.zero hw); (have hnat : wnat = fun n => n.toNat := congrArg Prims.nat hw); (conv => arg 2; cbv); (generalize hP : Tryd.prog = P); cbv
  repeat' (split <;> rename_i h <;> (try (simp only [hbin, hcmp, hun, hconv, hnot, hbeq, hmm, hscmp, hsadd, hslen, hsat, heqs, hofNat, binStd, cmpStd, unStd, scmpStd, maxI, Bool.not_eq_true', Bool.not_eq_false', decide_eq_true_eq, decide_eq_false_iff_not, Int.not_lt, Int.not_le, if_true, if_false, Bool.false_eq_true, beq_iff_eq, bne_iff_ne, ne_eq, Bool.not_eq_eq_eq_not, Bool.not_true, Bool.not_false, beq_eq_false_iff_ne, bne_eq_false_iff_eq, Int.ofNat_eq_natCast, Bool.not_not, not_true_eq_false, not_false_eq_true, reduceCtorEq] at h)) <;> (try cbv))
  all_goals
    refine ⟨_, Vw.same rfl, hR _ (congrArg (AV.int .i64) ?_)⟩
    simp [eqOffs, eqA] at *
    omega
theorem root_uniq {r s X : Int} (hr0 : 0 ≤ r) (hr : r * r ≤ X) (hr2 : X < (r + 1) * (r + 1)) (hs0 : 0 ≤ s) (hs : s * s ≤ X) (hs2 : X < (s + 1) * (s + 1)) : s = r := by
  have a : ¬ r + 1 ≤ s := fun h => by
    have : (r + 1) * (r + 1) ≤ s * s := Int.mul_le_mul h h (by omega) (by omega)
    omega
  have b : ¬ s + 1 ≤ r := fun h => by
    have : (s + 1) * (s + 1) ≤ r * r := Int.mul_le_mul h h (by omega) (by omega)
    omega
  omega
theorem pow_le63 {k : Nat} (h : k ≤ 63) : (2 : Int) ^ k ≤ 9223372036854775808 := by
  have : (2 : Nat) ^ k ≤ 2 ^ 63 := Nat.pow_le_pow_right (by decide) h
  have e : ((2 ^ k : Nat) : Int) ≤ ((2 ^ 63 : Nat) : Int) := Int.ofNat_le.2 this
  simpa using e
theorem u_one {i : Int} (h0 : 0 ≤ i) (h1 : i ≤ 63) : binStd .shl .u64 1 (IntKind.u64.wrap i) = 2 ^ i.toNat := by
  have e : IntKind.u64.wrap i = i := by rw [IntKind.wrap_u64]; omega
  rw [e]
  show IntKind.u64.wrap (1 * 2 ^ (min i.toNat 64)) = _
  rw [show min i.toNat 64 = i.toNat by omega, Int.one_mul, IntKind.wrap_u64]
  have := pow_le63 (k := i.toNat) (by omega)
  have : (0 : Int) < 2 ^ i.toNat := Int.pow_pos (by decide)
  omega
/-- Where the root is: the bits that are still to be told, and those that are. -/
structure Rt where
  i : Int
  r : Int
def RtOk (X i r : Int) : Prop := -1 ≤ i ∧ i ≤ 63 ∧ 0 ≤ r ∧ (∃ q : Nat, r = 2 ^ (i + 1).toNat * q) ∧ r * r ≤ X ∧ X < (r + 2 ^ (i + 1).toNat) * (r + 2 ^ (i + 1).toNat) ∧ r + 2 ^ (i + 1).toNat ≤ 18446744073709551616
theorem RtOk.start {X : Int} (h0 : 0 ≤ X) (h1 : X < 340282366920938463463374607431768211456) : RtOk X 63 0 := by
  refine ⟨by decide, by decide, by decide, ⟨0, by simp⟩, by simpa using h0, ?_, by decide⟩
  show X < (0 + 2 ^ 64) * (0 + 2 ^ 64)
  omega
theorem RtOk.next {X i r : Int} (h : RtOk X i r) (hi : 0 ≤ i) : ∃ n, binStd .or .u64 r (binStd .shl .u64 1 (IntKind.u64.wrap i)) = n ∧ 0 ≤ n ∧ n < 18446744073709551616 ∧ (n * n ≤ X → RtOk X (i - 1) n) ∧ (X < n * n → RtOk X (i - 1) r) := by
  obtain ⟨h1, h2, h3, ⟨q, hq⟩, h4, h5, h6⟩ := h
  rw [u_one hi h2]
  have ek : (i + 1).toNat = i.toNat + 1 := by omega
  rw [ek] at hq h5 h6
  have ew : (2 : Int) ^ (i.toNat + 1) = 2 * 2 ^ i.toNat := by rw [Int.pow_succ, Int.mul_comm]
  have hw0 : (0 : Int) < 2 ^ i.toNat := Int.pow_pos (by decide)
  refine ⟨r + 2 ^ i.toNat, ?_, by omega, by omega, fun h => ⟨by omega, by omega, by omega, ?_, h, ?_, ?_⟩, fun h => ⟨by omega, by omega, h3, ?_, h4, ?_, ?_⟩⟩
  · rw [hq]
    exact u_or (by omega) (by omega) (by rw [← hq]; omega)
  · refine ⟨2 * q + 1, ?_⟩
    rw [show (i - 1 + 1).toNat = i.toNat by omega, hq, ew]
    push_cast
    rw [Int.mul_add, Int.mul_one, Int.mul_comm 2, Int.mul_assoc]
  · rw [show (i - 1 + 1).toNat = i.toNat by omega]
    rw [show r + 2 ^ i.toNat + 2 ^ i.toNat = r + 2 ^ (i.toNat + 1) by omega]
    exact h5
  · rw [show (i - 1 + 1).toNat = i.toNat by omega]
    omega
  · refine ⟨2 * q, ?_⟩
    rw [show (i - 1 + 1).toNat = i.toNat by omega, hq, ew]
    push_cast
    rw [Int.mul_comm 2, Int.mul_assoc]
  · rw [show (i - 1 + 1).toNat = i.toNat by omega]
    exact h
  · rw [show (i - 1 + 1).toNat = i.toNat by omega]
    omega
theorem RtOk.fin {X i r : Int} (h : RtOk X i r) (hi : i < 0) : 0 ≤ r ∧ r * r ≤ X ∧ X < (r + 1) * (r + 1) := by
  obtain ⟨h1, h2, h3, _, h4, h5, h6⟩ := h
  have : (i + 1).toNat = 0 := by omega
  rw [this] at h5
  exact ⟨h3, h4, by simpa using h5⟩
end Go.Proofs.YtdjafcjpnjdphaaDoor

/- Numbers of 128 bits: shifted, taken away, divided, by the engine. -/
set_option linter.unusedVariables false
set_option linter.unusedSimpArgs false
namespace Go.Proofs.YtdjafcjpnjdphaaDoor
open Go Go.RowKit Go.Eng
set_option maxRecDepth 100000
theorem wr64 (n : Int) : IntKind.u64.wrap n = n % 18446744073709551616 := by rw [IntKind.wrap_u64]
theorem u_shlN {x : Int} {n : Nat} (h : n ≤ 63) : binStd .shl .u64 x n = x * 2 ^ n % 18446744073709551616 := by
  show IntKind.u64.wrap (x * 2 ^ (min ((n : Int).toNat) 64)) = _
  rw [wr64, Int.toNat_natCast, Nat.min_eq_left (by omega)]
theorem u_shrN {x : Int} {n : Nat} (h : n ≤ 64) : binStd .shr .u64 x n = x / 2 ^ n := by
  show x.fdiv (2 ^ (min ((n : Int).toNat) 64)) = _
  rw [Int.toNat_natCast, Nat.min_eq_left h, Int.fdiv_eq_ediv_of_nonneg _ (Int.le_of_lt (Int.pow_pos (by decide)))]
theorem u_sub {x y : Int} : binStd .sub .u64 x y = (x - y) % 18446744073709551616 := wr64 _
theorem u_conv {x : Int} (h0 : 0 ≤ x) (h1 : x < 18446744073709551616) : IntKind.u64.wrap x = x := by rw [wr64]; omega
theorem u_or_even {x y : Int} (hx0 : 0 ≤ x) (hx1 : x < 18446744073709551616) (hy0 : 0 ≤ y) (hy1 : y < 2) (he : x % 2 = 0) : binStd .or .u64 x y = x + y := by
  obtain ⟨q, hq⟩ : ∃ q : Nat, x = 2 ^ 1 * q := ⟨(x / 2).toNat, by omega⟩
  rw [hq]
  exact u_or hy0 (by omega) (by omega)
theorem u_and1 {x : Int} (h0 : 0 ≤ x) (h1 : x < 18446744073709551616) : binStd .and .u64 x 1 = x % 2 := by
  show IntKind.u64.wrap (BitVec.ofInt 64 x &&& BitVec.ofInt 64 1).toNat = _
  rw [BitVec.toNat_and, bv_int h0 h1, bv_int (by decide) (by decide)]
  have e : x.toNat &&& (1 : Int).toNat = x.toNat % 2 := Nat.and_one_is_mod _
  rw [e, wr64]
  omega
theorem u_or_par {x y : Int} (hx0 : 0 ≤ x) (hx1 : x < 18446744073709551616) (hy0 : 0 ≤ y) (hy1 : y < 18446744073709551616) (he : y % 2 = 0) : 0 ≤ binStd .or .u64 x y ∧ binStd .or .u64 x y < 18446744073709551616 ∧ binStd .or .u64 x y % 2 = x % 2 := by
  have e0 : binStd .or .u64 x y = (((x.toNat ||| y.toNat : Nat) : Int)) % 18446744073709551616 := by
    show IntKind.u64.wrap (BitVec.ofInt 64 x ||| BitVec.ofInt 64 y).toNat = _
    rw [BitVec.toNat_or, bv_int hx0 hx1, bv_int hy0 hy1, wr64]
  have h1 : (x.toNat ||| y.toNat) % 2 = x.toNat % 2 := by
    have := Nat.or_mod_two_pow (a := x.toNat) (b := y.toNat) (n := 1)
    rw [show (2 : Nat) ^ 1 = 2 from rfl] at this
    rw [this, show y.toNat % 2 = 0 by omega, Nat.or_zero]
  rw [e0]
  omega
theorem e_shl1 (h l a b : Int) (h0 : 0 ≤ h) (h1 : h < 18446744073709551616) (l0 : 0 ≤ l) (l1 : l < 18446744073709551616) (ea : a = (h * 2 + l / 9223372036854775808) % 18446744073709551616) (eb : b = l * 2 % 18446744073709551616) : PCalls Tryd.prog 86 [.agg [.int .u64 h, .int .u64 l], .int .i64 1] (· = .agg [.int .u64 a, .int .u64 b]) := by
  (refine PCalls.ofY Tryd.func86 (by kernel_rfl) (by kernel_rfl) fun w hw R hR => ?_); (obtain ⟨wbin, wcmp, wun, wconv, wnot, wbeq, wmm, wscmp, wsadd, wslen, wsat, weqs, wlen, wnlen, wofNat, wtake, wdrop, wapp, wzero, wnat⟩ := w); (have hbin : wbin = binStd := congrArg Prims.bin hw); (have hcmp : wcmp = cmpStd := congrArg Prims.cmp hw); (have hun : wun = unStd := congrArg Prims.un hw); (have hconv : wconv = fun k n => k.wrap n := congrArg Prims.conv hw); (have hnot : wnot = fun b => !b := congrArg Prims.not hw); (have hbeq : wbeq = fun a b => a == b := congrArg Prims.beq hw); (have hmm : wmm = maxI := congrArg Prims.mm hw); (have hscmp : wscmp = scmpStd := congrArg Prims.scmp hw); (have hsadd : wsadd = fun x y => x ++ y := congrArg Prims.sadd hw); (have hslen : wslen = fun s => (s.size : Int) := congrArg Prims.slen hw); (have hsat : wsat = std.sat := congrArg Prims.sat hw); (have heqs : weqs = fun a b os => (eqOffs a b os).getD false := congrArg Prims.eqs hw); (have hlen : wlen = fun es => (es.length : Int) := congrArg Prims.len hw); (have hnlen : wnlen = fun es => es.length := congrArg Prims.nlen hw); (have hofNat : wofNat = (fun n : Nat => (n : Int)) := congrArg Prims.ofNat hw); (have htake : wtake = fun es b => es.take b.toNat := congrArg Prims.take hw); (have hdrop : wdrop = fun es a => es.drop a.toNat := congrArg Prims.drop hw); (have happ : wapp = fun a b => a ++ b := congrArg Prims.app hw); (have hzero : wzero = fun n z => List.replicate n.toNat z := congrArg Prims.zero hw); (have hnat : wnat = fun n => n.toNat := congrArg Prims.nat hw); (conv => arg 2; cbv); (generalize hP : Tryd.prog = P); cbv
  have c1 : wcmp .leq 1 0 = false := by rw [hcmp]; rfl
  have c2 : wcmp .geq 1 64 = false := by rw [hcmp]; rfl
  have v1 : wconv .u64 1 = 1 := by rw [hconv]; rfl
  have v2 : wbin .sub .i64 64 1 = 63 := by rw [hbin]; rfl
  have v3 : wconv .u64 63 = 63 := by rw [hconv]; rfl
  have v4 : wbin .shl .u64 h 1 = h * 2 % 18446744073709551616 := by rw [hbin]; exact u_shlN (n := 1) (by decide)
  have v5 : wbin .shl .u64 l 1 = b := by rw [hbin, eb]; exact u_shlN (n := 1) (by decide)
  have v6 : wbin .shr .u64 l 63 = l / 9223372036854775808 := by rw [hbin]; exact u_shrN (n := 63) (by decide)
  have v7 : wbin .or .u64 (wbin .shl .u64 h 1) (wbin .shr .u64 l 63) = a := by rw [v4, v6, hbin, u_or_even (by omega) (by omega) (by omega) (by omega) (by omega), ea]; omega
  repeat' (first
    | (simp only [c1]; cbv)
    | (simp only [c2]; cbv)
    | (simp only [v1, v2, v3]; cbv)
    | (refine Nn.mk (by decide) ?_)
    | (simp only [v7, v5]))
  exact ⟨_, Vw.same rfl, hR _ rfl⟩
def shrV (h l i : Int) : Int × Int := if i = 0 then (h, l) else if 64 ≤ i then (0, binStd .shr .u64 h (i - 64)) else (binStd .shr .u64 h i, binStd .or .u64 (binStd .shr .u64 l i) (binStd .shl .u64 h (64 - i)))
theorem shr_par (h l i : Int) (h0 : 0 ≤ h) (h1 : h < 18446744073709551616) (l0 : 0 ≤ l) (l1 : l < 18446744073709551616) (i0 : 0 ≤ i) (i1 : i ≤ 127) : 0 ≤ (shrV h l i).2 ∧ (shrV h l i).2 < 18446744073709551616 ∧ (shrV h l i).2 % 2 = (h * 18446744073709551616 + l) / 2 ^ i.toNat % 2 := by
  unfold shrV
  by_cases hi : i = 0
  · subst hi
    refine ⟨l0, l1, ?_⟩
    show l % 2 = _ / 1 % 2
    omega
  rw [if_neg hi]
  obtain ⟨n, rfl⟩ : ∃ n : Nat, i = n := ⟨i.toNat, by omega⟩
  by_cases h64 : (64 : Int) ≤ n
  · rw [if_pos h64]
    obtain ⟨m, em⟩ : ∃ m : Nat, n = m + 64 := ⟨n - 64, by omega⟩
    have e0 : (n : Int) - 64 = m := by omega
    have e2 : binStd .shr .u64 h m = h / 2 ^ m := u_shrN (by omega)
    rw [e0]
    simp only [e2]
    refine ⟨Int.ediv_nonneg h0 (Int.le_of_lt (Int.pow_pos (by decide))), ?_, ?_⟩
    · have := Int.ediv_le_self (2 ^ m) h0
      omega
    · have e1 : (h * 18446744073709551616 + l) / 2 ^ n = h / 2 ^ m := by
        rw [em, Int.pow_add, Int.mul_comm (2 ^ m), ← Int.ediv_ediv_of_nonneg (show (0 : Int) ≤ 2 ^ 64 by decide)]
        congr 1
        show _ / 18446744073709551616 = h
        omega
      rw [Int.toNat_natCast, e1]
  · rw [if_neg h64]
    obtain ⟨k, ek⟩ : ∃ k : Nat, k + 1 + n = 64 := ⟨63 - n, by omega⟩
    have e0 : (64 : Int) - n = ((k + 1 : Nat) : Int) := by omega
    have hpm : (2 : Int) ^ (k + 1) = 2 * 2 ^ k := by rw [Int.pow_succ, Int.mul_comm]
    have e2 : binStd .shr .u64 l n = l / 2 ^ n := u_shrN (by omega)
    have e3 : binStd .shl .u64 h ((k + 1 : Nat) : Int) = h * 2 ^ (k + 1) % 18446744073709551616 := u_shlN (by omega)
    have hx0 : 0 ≤ l / 2 ^ n := Int.ediv_nonneg l0 (Int.le_of_lt (Int.pow_pos (by decide)))
    have hx1 : l / 2 ^ n < 18446744073709551616 := by
      have := Int.ediv_le_self (2 ^ n) l0
      omega
    have hy2 : (h * 2 ^ (k + 1) % 18446744073709551616) % 2 = 0 := by
      rw [hpm, show h * (2 * 2 ^ k) = 2 * (h * 2 ^ k) by rw [Int.mul_left_comm]]
      omega
    obtain ⟨g1, g2, g3⟩ := u_or_par hx0 hx1 (y := h * 2 ^ (k + 1) % 18446744073709551616) (by omega) (by omega) hy2
    rw [e0, e2, e3]
    refine ⟨g1, g2, ?_⟩
    have e1 : (18446744073709551616 : Int) = 2 ^ (k + 1) * 2 ^ n := by rw [← Int.pow_add, ek]; rfl
    have hpn : (2 : Int) ^ n ≠ 0 := Int.ne_of_gt (Int.pow_pos (by decide))
    have e4 : (h * 18446744073709551616 + l) / 2 ^ n = h * 2 ^ (k + 1) + l / 2 ^ n := by
      rw [e1, ← Int.mul_assoc, Int.add_comm, Int.add_mul_ediv_right _ _ hpn, Int.add_comm]
    show binStd .or .u64 _ _ % 2 = _
    rw [g3, Int.toNat_natCast, e4, hpm, show h * (2 * 2 ^ k) = 2 * (h * 2 ^ k) by rw [Int.mul_left_comm]]
    omega
theorem e_shr (h l i a b : Int) (i0 : 0 ≤ i) (i1 : i ≤ 127) (hab : shrV h l i = (a, b)) : PCalls Tryd.prog 87 [.agg [.int .u64 h, .int .u64 l], .int .i64 i] (· = .agg [.int .u64 a, .int .u64 b]) := by
  unfold shrV at hab
  by_cases hi : i = 0
  · rw [if_pos hi] at hab
    subst hi
    obtain ⟨rfl, rfl⟩ := Prod.mk.inj hab
    (refine PCalls.ofY Tryd.func87 (by kernel_rfl) (by kernel_rfl) fun w hw R hR => ?_); (obtain ⟨wbin, wcmp, wun, wconv, wnot, wbeq, wmm, wscmp, wsadd, wslen, wsat, weqs, wlen, wnlen, wofNat, wtake, wdrop, wapp, wzero, wnat⟩ := w); (have hbin : wbin = binStd := congrArg Prims.bin hw); (have hcmp : wcmp = cmpStd := congrArg Prims.cmp hw); (have hun : wun = unStd := congrArg Prims.un hw); (have hconv : wconv = fun k n => k.wrap n := congrArg Prims.conv hw); (have hnot : wnot = fun b => !b := congrArg Prims.not hw); (have hbeq : wbeq = fun a b => a == b := congrArg Prims.beq hw); (have hmm : wmm = maxI := congrArg Prims.mm hw); (have hscmp : wscmp = scmpStd := congrArg Prims.scmp hw); (have hsadd : wsadd = fun x y => x ++ y := congrArg Prims.sadd hw); (have hslen : wslen = fun s => (s.size : Int) := congrArg Prims.slen hw); (have hsat : wsat = std.sat := congrArg Prims.sat hw); (have heqs : weqs = fun a b os => (eqOffs a b os).getD false := congrArg Prims.eqs hw); (have hlen : wlen = fun es => (es.length : Int) := congrArg Prims.len hw); (have hnlen : wnlen = fun es => es.length := congrArg Prims.nlen hw); (have hofNat : wofNat = (fun n : Nat => (n : Int)) := congrArg Prims.ofNat hw); (have htake : wtake = fun es b => es.take b.toNat := congrArg Prims.take hw); (have hdrop : wdrop = fun es a => es.drop a.toNat := congrArg Prims.drop hw); (have happ : wapp = fun a b => a ++ b := congrArg Prims.app hw); (have hzero : wzero = fun n z => List.replicate n.toNat z := congrArg Prims.zero hw); (have hnat : wnat = fun n => n.toNat := congrArg Prims.nat hw); (conv => arg 2; cbv); (generalize hP : Tryd.prog = P); cbv
    have c1 : wcmp .leq 0 0 = true := by rw [hcmp]; rfl
    simp only [c1]
    cbv
    exact ⟨_, Vw.same rfl, hR _ rfl⟩
  rw [if_neg hi] at hab
  by_cases h64 : (64 : Int) ≤ i
  · rw [if_pos h64] at hab
    obtain ⟨rfl, hb⟩ := Prod.mk.inj hab
    obtain ⟨im, eim⟩ : ∃ z, z = i - 64 := ⟨_, rfl⟩
    rw [← eim] at hb
    (refine PCalls.ofY Tryd.func87 (by kernel_rfl) (by kernel_rfl) fun w hw R hR => ?_); (obtain ⟨wbin, wcmp, wun, wconv, wnot, wbeq, wmm, wscmp, wsadd, wslen, wsat, weqs, wlen, wnlen, wofNat, wtake, wdrop, wapp, wzero, wnat⟩ := w); (have hbin : wbin = binStd := congrArg Prims.bin hw); (have hcmp : wcmp = cmpStd := congrArg Prims.cmp hw); (have hun : wun = unStd := congrArg Prims.un hw); (have hconv : wconv = fun k n => k.wrap n := congrArg Prims.conv hw); (have hnot : wnot = fun b => !b := congrArg Prims.not hw); (have hbeq : wbeq = fun a b => a == b := congrArg Prims.beq hw); (have hmm : wmm = maxI := congrArg Prims.mm hw); (have hscmp : wscmp = scmpStd := congrArg Prims.scmp hw); (have hsadd : wsadd = fun x y => x ++ y := congrArg Prims.sadd hw); (have hslen : wslen = fun s => (s.size : Int) := congrArg Prims.slen hw); (have hsat : wsat = std.sat := congrArg Prims.sat hw); (have heqs : weqs = fun a b os => (eqOffs a b os).getD false := congrArg Prims.eqs hw); (have hlen : wlen = fun es => (es.length : Int) := congrArg Prims.len hw); (have hnlen : wnlen = fun es => es.length := congrArg Prims.nlen hw); (have hofNat : wofNat = (fun n : Nat => (n : Int)) := congrArg Prims.ofNat hw); (have htake : wtake = fun es b => es.take b.toNat := congrArg Prims.take hw); (have hdrop : wdrop = fun es a => es.drop a.toNat := congrArg Prims.drop hw); (have happ : wapp = fun a b => a ++ b := congrArg Prims.app hw); (have hzero : wzero = fun n z => List.replicate n.toNat z := congrArg Prims.zero hw); (have hnat : wnat = fun n => n.toNat := congrArg Prims.nat hw); (conv => arg 2; cbv); (generalize hP : Tryd.prog = P); cbv
    have c1 : wcmp .leq i 0 = false := by rw [hcmp]; simp [cmpStd]; omega
    have c2 : wcmp .geq i 64 = true := by rw [hcmp]; simp [cmpStd]; omega
    have v1 : wbin .sub .i64 i 64 = im := by rw [hbin, i_sub (by omega) (by omega)]; omega
    have v2 : wconv .u64 im = im := by rw [hconv]; exact u_conv (by omega) (by omega)
    have v3 : wbin .shr .u64 h im = b := by rw [hbin]; exact hb
    repeat' (first
      | (simp only [c1]; cbv)
      | (simp only [c2]; cbv)
      | (simp only [v1]; cbv)
      | (simp only [v2]; cbv)
      | (refine Nn.mk (by omega) ?_)
      | (simp only [v3]))
    exact ⟨_, Vw.same rfl, hR _ rfl⟩
  · rw [if_neg h64] at hab
    obtain ⟨ha, hb⟩ := Prod.mk.inj hab
    obtain ⟨im, eim⟩ : ∃ z, z = 64 - i := ⟨_, rfl⟩
    obtain ⟨x, ex⟩ : ∃ z, z = binStd .shr .u64 l i := ⟨_, rfl⟩
    obtain ⟨y, ey⟩ : ∃ z, z = binStd .shl .u64 h im := ⟨_, rfl⟩
    rw [← eim, ← ey, ← ex] at hb
    (refine PCalls.ofY Tryd.func87 (by kernel_rfl) (by kernel_rfl) fun w hw R hR => ?_); (obtain ⟨wbin, wcmp, wun, wconv, wnot, wbeq, wmm, wscmp, wsadd, wslen, wsat, weqs, wlen, wnlen, wofNat, wtake, wdrop, wapp, wzero, wnat⟩ := w); (have hbin : wbin = binStd := congrArg Prims.bin hw); (have hcmp : wcmp = cmpStd := congrArg Prims.cmp hw); (have hun : wun = unStd := congrArg Prims.un hw); (have hconv : wconv = fun k n => k.wrap n := congrArg Prims.conv hw); (have hnot : wnot = fun b => !b := congrArg Prims.not hw); (have hbeq : wbeq = fun a b => a == b := congrArg Prims.beq hw); (have hmm : wmm = maxI := congrArg Prims.mm hw); (have hscmp : wscmp = scmpStd := congrArg Prims.scmp hw); (have hsadd : wsadd = fun x y => x ++ y := congrArg Prims.sadd hw); (have hslen : wslen = fun s => (s.size : Int) := congrArg Prims.slen hw); (have hsat : wsat = std.sat := congrArg Prims.sat hw); (have heqs : weqs = fun a b os => (eqOffs a b os).getD false := congrArg Prims.eqs hw); (have hlen : wlen = fun es => (es.length : Int) := congrArg Prims.len hw); (have hnlen : wnlen = fun es => es.length := congrArg Prims.nlen hw); (have hofNat : wofNat = (fun n : Nat => (n : Int)) := congrArg Prims.ofNat hw); (have htake : wtake = fun es b => es.take b.toNat := congrArg Prims.take hw); (have hdrop : wdrop = fun es a => es.drop a.toNat := congrArg Prims.drop hw); (have happ : wapp = fun a b => a ++ b := congrArg Prims.app hw); (have hzero : wzero = fun n z => List.replicate n.toNat z := congrArg Prims.zero hw); (have hnat : wnat = fun n => n.toNat := congrArg Prims.nat hw); (conv => arg 2; cbv); (generalize hP : Tryd.prog = P); cbv
    have c1 : wcmp .leq i 0 = false := by rw [hcmp]; simp [cmpStd]; omega
    have c2 : wcmp .geq i 64 = false := by rw [hcmp]; simp [cmpStd]; omega
    have v1 : wbin .sub .i64 64 i = im := by rw [hbin, i_sub (by omega) (by omega)]; omega
    have v2 : wconv .u64 im = im := by rw [hconv]; exact u_conv (by omega) (by omega)
    have v3 : wconv .u64 i = i := by rw [hconv]; exact u_conv (by omega) (by omega)
    have v4 : wbin .shr .u64 l i = x := by rw [hbin]; exact ex.symm
    have v5 : wbin .shl .u64 h im = y := by rw [hbin]; exact ey.symm
    have v6 : wbin .or .u64 x y = b := by rw [hbin]; exact hb
    have v7 : wbin .shr .u64 h i = a := by rw [hbin]; exact ha
    repeat' (first
      | (simp only [c1]; cbv)
      | (simp only [c2]; cbv)
      | (simp only [v1]; cbv)
      | (simp only [v2]; cbv)
      | (simp only [v3]; cbv)
      | (refine Nn.mk (by omega) ?_)
      | (simp only [v4, v5, v7])
      | (simp only [v6]))
    exact ⟨_, Vw.same rfl, hR _ rfl⟩
set_option maxHeartbeats 1000000 in
theorem e_usub (h l d r : Int) (h0 : 0 ≤ h) (h1 : h < 2) (l0 : 0 ≤ l) (l1 : l < 18446744073709551616) (d0 : 0 ≤ d) (d1 : d < 18446744073709551616) (hge : d ≤ h * 18446744073709551616 + l) (hr : r = h * 18446744073709551616 + l - d) (hr1 : r < 18446744073709551616) : PCalls Tryd.prog 89 [.agg [.int .u64 h, .int .u64 l], .agg [.int .u64 0, .int .u64 d]] (· = .tuple [.agg [.int .u64 0, .int .u64 r], .bool false]) := by
  obtain ⟨c, hc, hc2⟩ : ∃ c : Int, ((h * 18446744073709551616 + l < 0 * 18446744073709551616 + d ∧ c = -1) ∨ (h * 18446744073709551616 + l = 0 * 18446744073709551616 + d ∧ c = 0) ∨ (0 * 18446744073709551616 + d < h * 18446744073709551616 + l ∧ c = 1)) ∧ 0 ≤ c := by
    by_cases e : h * 18446744073709551616 + l = d
    · exact ⟨0, .inr (.inl ⟨by omega, rfl⟩), by decide⟩
    · exact ⟨1, .inr (.inr ⟨by omega, rfl⟩), by decide⟩
  have hcmp' := e_cmp l0 l1 d0 d1 hc
  (refine PCalls.ofY Tryd.func89 (by kernel_rfl) (by kernel_rfl) fun w hw R hR => ?_); (obtain ⟨wbin, wcmp, wun, wconv, wnot, wbeq, wmm, wscmp, wsadd, wslen, wsat, weqs, wlen, wnlen, wofNat, wtake, wdrop, wapp, wzero, wnat⟩ := w); (have hbin : wbin = binStd := congrArg Prims.bin hw); (have hcmp : wcmp = cmpStd := congrArg Prims.cmp hw); (have hun : wun = unStd := congrArg Prims.un hw); (have hconv : wconv = fun k n => k.wrap n := congrArg Prims.conv hw); (have hnot : wnot = fun b => !b := congrArg Prims.not hw); (have hbeq : wbeq = fun a b => a == b := congrArg Prims.beq hw); (have hmm : wmm = maxI := congrArg Prims.mm hw); (have hscmp : wscmp = scmpStd := congrArg Prims.scmp hw); (have hsadd : wsadd = fun x y => x ++ y := congrArg Prims.sadd hw); (have hslen : wslen = fun s => (s.size : Int) := congrArg Prims.slen hw); (have hsat : wsat = std.sat := congrArg Prims.sat hw); (have heqs : weqs = fun a b os => (eqOffs a b os).getD false := congrArg Prims.eqs hw); (have hlen : wlen = fun es => (es.length : Int) := congrArg Prims.len hw); (have hnlen : wnlen = fun es => es.length := congrArg Prims.nlen hw); (have hofNat : wofNat = (fun n : Nat => (n : Int)) := congrArg Prims.ofNat hw); (have htake : wtake = fun es b => es.take b.toNat := congrArg Prims.take hw); (have hdrop : wdrop = fun es a => es.drop a.toNat := congrArg Prims.drop hw); (have happ : wapp = fun a b => a ++ b := congrArg Prims.app hw); (have hzero : wzero = fun n z => List.replicate n.toNat z := congrArg Prims.zero hw); (have hnat : wnat = fun n => n.toNat := congrArg Prims.nat hw); (conv => arg 2; cbv); (generalize hP : Tryd.prog = P); cbv
  have v1 : wbin .sub .u64 h 0 = h := by rw [hbin, u_sub]; omega
  have v2 : wbin .sub .u64 l d = r := by rw [hbin, u_sub]; omega
  have cc : wcmp .lss c 0 = false := by rw [hcmp]; simp [cmpStd]; omega
  by_cases hld : l < d
  · have c1 : wcmp .lss l d = true := by rw [hcmp]; simp [cmpStd, hld]
    have v3 : wbin .sub .u64 h 1 = 0 := by rw [hbin, u_sub]; omega
    repeat' (first
      | (simp only [c1]; cbv)
      | (simp only [v1, v2]; cbv)
      | (simp only [v3]; cbv)
      | (refine And.intro ?_ ?_)
      | (refine Call.stepE (by rw [← hP]; exact hcmp') rfl ?_; cbv)
      | (simp only [cc])
      | (exact ⟨_, Vw.same rfl, hR _ rfl⟩))
  · have c1 : wcmp .lss l d = false := by rw [hcmp]; simp [cmpStd, hld]
    have v3 : h = 0 := by omega
    subst v3
    repeat' (first
      | (simp only [c1]; cbv)
      | (simp only [v1, v2]; cbv)
      | (refine And.intro ?_ ?_)
      | (refine Call.stepE (by rw [← hP]; exact hcmp') rfl ?_; cbv)
      | (simp only [cc])
      | (exact ⟨_, Vw.same rfl, hR _ rfl⟩))
end Go.Proofs.YtdjafcjpnjdphaaDoor

/- Numbers of 128 bits: divided, by the engine. -/
set_option linter.unusedVariables false
set_option linter.unusedSimpArgs false
namespace Go.Proofs.YtdjafcjpnjdphaaDoor
open Go Go.RowKit Go.Eng
set_option maxRecDepth 100000
/-- What a division has come to. -/
structure DvS where
  i : Int
  qh : Int
  ql : Int
  r : Int
def DvOk (X d : Int) (s : DvS) : Prop := -1 ≤ s.i ∧ s.i ≤ 127 ∧ 0 ≤ s.qh ∧ s.qh < 18446744073709551616 ∧ 0 ≤ s.ql ∧ s.ql < 18446744073709551616 ∧ 0 ≤ s.r ∧ s.r < d ∧ X / 2 ^ (s.i + 1).toNat = (s.qh * 18446744073709551616 + s.ql) * d + s.r
theorem dv_start {X d : Int} (h0 : 0 ≤ X) (h1 : X < 340282366920938463463374607431768211456) (hd : 0 < d) : DvOk X d ⟨127, 0, 0, 0⟩ := by
  refine ⟨by decide, by decide, by decide, by decide, by decide, by decide, by decide, hd, ?_⟩
  show X / 2 ^ 128 = (0 * 18446744073709551616 + 0) * d + 0
  have e : (2 : Int) ^ 128 = 340282366920938463463374607431768211456 := by decide
  rw [e]
  simp
  omega
theorem dv_step {X : Int} {i : Int} (hi : 0 ≤ i) (h0 : 0 ≤ X) : X / 2 ^ i.toNat = 2 * (X / 2 ^ (i + 1).toNat) + X / 2 ^ i.toNat % 2 := by
  rw [show (i + 1).toNat = i.toNat + 1 by omega, Int.pow_succ, ← Int.ediv_ediv_of_nonneg (Int.le_of_lt (Int.pow_pos (by decide)))]
  omega
set_option maxHeartbeats 1000000 in
theorem e_udiv (h l d : Int) (h0 : 0 ≤ h) (h1 : h < 18446744073709551616) (l0 : 0 ≤ l) (l1 : l < 18446744073709551616) (d0 : 0 < d) (d1 : d < 18446744073709551616) : PCalls Tryd.prog 83 [.agg [.int .u64 h, .int .u64 l], .int .u64 d] (fun r => ∃ qh ql s, r = .tuple [.agg [.int .u64 qh, .int .u64 ql], .int .u64 s, .int .i64 0] ∧ 0 ≤ qh ∧ qh < 18446744073709551616 ∧ 0 ≤ ql ∧ ql < 18446744073709551616 ∧ 0 ≤ s ∧ s < d ∧ h * 18446744073709551616 + l = (qh * 18446744073709551616 + ql) * d + s) := by
  obtain ⟨X, eX⟩ : ∃ X, X = h * 18446744073709551616 + l := ⟨_, rfl⟩
  have X0 : 0 ≤ X := by omega
  have X1 : X < 340282366920938463463374607431768211456 := by omega
  (refine PCalls.ofY Tryd.func83 (by kernel_rfl) (by kernel_rfl) fun w hw R hR => ?_); (obtain ⟨wbin, wcmp, wun, wconv, wnot, wbeq, wmm, wscmp, wsadd, wslen, wsat, weqs, wlen, wnlen, wofNat, wtake, wdrop, wapp, wzero, wnat⟩ := w); (have hbin : wbin = binStd := congrArg Prims.bin hw); (have hcmp : wcmp = cmpStd := congrArg Prims.cmp hw); (have hun : wun = unStd := congrArg Prims.un hw); (have hconv : wconv = fun k n => k.wrap n := congrArg Prims.conv hw); (have hnot : wnot = fun b => !b := congrArg Prims.not hw); (have hbeq : wbeq = fun a b => a == b := congrArg Prims.beq hw); (have hmm : wmm = maxI := congrArg Prims.mm hw); (have hscmp : wscmp = scmpStd := congrArg Prims.scmp hw); (have hsadd : wsadd = fun x y => x ++ y := congrArg Prims.sadd hw); (have hslen : wslen = fun s => (s.size : Int) := congrArg Prims.slen hw); (have hsat : wsat = std.sat := congrArg Prims.sat hw); (have heqs : weqs = fun a b os => (eqOffs a b os).getD false := congrArg Prims.eqs hw); (have hlen : wlen = fun es => (es.length : Int) := congrArg Prims.len hw); (have hnlen : wnlen = fun es => es.length := congrArg Prims.nlen hw); (have hofNat : wofNat = (fun n : Nat => (n : Int)) := congrArg Prims.ofNat hw); (have htake : wtake = fun es b => es.take b.toNat := congrArg Prims.take hw); (have hdrop : wdrop = fun es a => es.drop a.toNat := congrArg Prims.drop hw); (have happ : wapp = fun a b => a ++ b := congrArg Prims.app hw); (have hzero : wzero = fun n z => List.replicate n.toNat z := congrArg Prims.zero hw); (have hnat : wnat = fun n => n.toNat := congrArg Prims.nat hw); (conv => arg 2; cbv); (generalize hP : Tryd.prog = P); cbv
  have c1 : wcmp .eql d 0 = false := by rw [hcmp]; simp [cmpStd]; omega
  simp only [c1]
  cbv
  refine Loop.data hw (S := DvS) (fun s => fr 50 [(1, .int .u64 d), (2, .ref 0 2 0 0), (4, .ref 1 2 0 0), (6, .int .i64 0), (7, .ref 2 2 0 0), (8, .ref 3 2 0 0), (9, .int .i64 s.i)])
    (fun s => [.live 2 [[.int .u64 h, .int .u64 l]], .live 2 [[.int .u64 0, .int .u64 0]], .live 2 [[.int .u64 s.qh, .int .u64 s.ql]], .live 2 [[.int .u64 0, .int .u64 s.r]]])
    (fun s => DvOk X d s) (fun s => (s.i + 1).toNat) ⟨127, 0, 0, 0⟩ (by (refine Wk.eqz (id) (by first | exact fun i _ j _ e => e | (simp only [List.length_cons, List.length_nil]; decide)) ?_; cbv; (repeat' (first | exact trivial | rfl | assumption | apply And.intro | (simp only [hbin, hcmp, hun, hconv, hnot, hbeq, hmm, hscmp, hsadd, hslen, hsat, heqs, hofNat, binStd, cmpStd, unStd, scmpStd, maxI, Bool.not_eq_true', Bool.not_eq_false', decide_eq_true_eq, decide_eq_false_iff_not, Int.not_lt, Int.not_le, if_true, if_false, Bool.false_eq_true, beq_iff_eq, bne_iff_ne, ne_eq, Bool.not_eq_eq_eq_not, Bool.not_true, Bool.not_false, beq_eq_false_iff_ne, bne_eq_false_iff_eq, Int.ofNat_eq_natCast, Bool.not_not, not_true_eq_false, not_false_eq_true, reduceCtorEq]; first | done | assumption) | exact RowsZ.same (by assumption) (by first | assumption | rfl) | exact FzL.mk rfl rfl rfl (by assumption) (by first | assumption | rfl) (by decide) | (refine RowsZ.one ?_; cbv))))) (dv_start X0 X1 d0) ?_
  rintro ⟨i, qh, ql, r⟩ hinv Q' hN hE hR'
  have hinv : -1 ≤ i ∧ i ≤ 127 ∧ 0 ≤ qh ∧ qh < 18446744073709551616 ∧ 0 ≤ ql ∧ ql < 18446744073709551616 ∧ 0 ≤ r ∧ r < d ∧ X / 2 ^ (i + 1).toNat = (qh * 18446744073709551616 + ql) * d + r := hinv
  cbv
  obtain ⟨i0, i1, qh0, qh1, ql0, ql1, r0, r1, hX⟩ := hinv
  (split <;> rename_i hc <;> (try (simp only [hbin, hcmp, hun, hconv, hnot, hbeq, hmm, hscmp, hsadd, hslen, hsat, heqs, hofNat, binStd, cmpStd, unStd, scmpStd, maxI, Bool.not_eq_true', Bool.not_eq_false', decide_eq_true_eq, decide_eq_false_iff_not, Int.not_lt, Int.not_le, if_true, if_false, Bool.false_eq_true, beq_iff_eq, bne_iff_ne, ne_eq, Bool.not_eq_eq_eq_not, Bool.not_true, Bool.not_false, beq_eq_false_iff_ne, bne_eq_false_iff_eq, Int.ofNat_eq_natCast, Bool.not_not, not_true_eq_false, not_false_eq_true, reduceCtorEq] at hc)) <;> (try cbv))
  · have hst := dv_step (X := X) (i := i) (by omega) X0
    rw [hX] at hst
    obtain ⟨bit, ebit⟩ : ∃ b, b = X / 2 ^ i.toNat % 2 := ⟨_, rfl⟩
    rw [← ebit] at hst
    have hb2 : bit = 0 ∨ bit = 1 := by omega
    have hs1 := e_shl1 0 r (r / 9223372036854775808) (r * 2 % 18446744073709551616) (by decide) (by decide) r0 (by omega) (by omega) rfl
    have hs2 := e_shl1 qh ql ((qh * 2 + ql / 9223372036854775808) % 18446744073709551616) (ql * 2 % 18446744073709551616) qh0 qh1 ql0 ql1 rfl rfl
    obtain ⟨sa, sb, es3⟩ : ∃ a b, shrV h l i = (a, b) := ⟨_, _, rfl⟩
    have hs3 := e_shr h l i sa sb (by omega) i1 es3
    obtain ⟨sb0, sb1, sbp⟩ := shr_par h l i h0 h1 l0 l1 (by omega) i1
    rw [es3, ← eX] at sbp
    rw [es3] at sb0 sb1
    simp only at sb0 sb1 sbp
    rw [← ebit] at sbp
    obtain ⟨i2, ei2⟩ : ∃ z, z = i - 1 := ⟨_, rfl⟩
    have a4 : wbin .sub .i64 i 1 = i2 := by rw [hbin, i_sub (by omega) (by omega), ei2]
    obtain ⟨rh, erh⟩ : ∃ z, z = r / 9223372036854775808 := ⟨_, rfl⟩
    obtain ⟨rl, erl⟩ : ∃ z, z = r * 2 % 18446744073709551616 := ⟨_, rfl⟩
    obtain ⟨rl2, erl2⟩ : ∃ z, z = rl + bit := ⟨_, rfl⟩
    rw [← erh, ← erl] at hs1
    obtain ⟨qh2, eqh2⟩ : ∃ z, z = (qh * 2 + ql / 9223372036854775808) % 18446744073709551616 := ⟨_, rfl⟩
    obtain ⟨ql2, eql2⟩ : ∃ z, z = ql * 2 % 18446744073709551616 := ⟨_, rfl⟩
    rw [← eqh2, ← eql2] at hs2
    have v1 : wbin .and .u64 sb 1 = bit := by rw [hbin, u_and1 sb0 sb1, sbp]
    have v2 : wbin .or .u64 rl bit = rl2 := by rw [hbin, u_or_even (by omega) (by omega) (by omega) (by omega) (by omega), erl2]
    have hT : (i2 + 1).toNat < (i + 1).toNat := by omega
    -- twice what was left, and the next digit
    have hY : rh * 18446744073709551616 + rl2 = 2 * r + bit := by omega
    have hbig : 2 * ((qh * 18446744073709551616 + ql) * d + r) + bit ≤ X := by
      rw [← hst]
      exact Int.ediv_le_self _ X0
    obtain ⟨Q, eQ⟩ : ∃ Q, Q = qh * 18446744073709551616 + ql := ⟨_, rfl⟩
    rw [← eQ] at hbig hX hst
    have hQd : Q ≤ Q * d := by
      have h1 : Q * 1 ≤ Q * d := Int.mul_le_mul_of_nonneg_left (by omega) (by omega)
      omega
    have hQ2 : qh2 * 18446744073709551616 + ql2 = 2 * Q := by omega
    obtain ⟨c, hc3, hc4⟩ : ∃ c : Int, ((rh * 18446744073709551616 + rl2 < 0 * 18446744073709551616 + d ∧ c = -1) ∨ (rh * 18446744073709551616 + rl2 = 0 * 18446744073709551616 + d ∧ c = 0) ∨ (0 * 18446744073709551616 + d < rh * 18446744073709551616 + rl2 ∧ c = 1)) ∧ (0 ≤ c ↔ d ≤ rh * 18446744073709551616 + rl2) := by
      by_cases e1 : rh * 18446744073709551616 + rl2 < d
      · exact ⟨-1, .inl ⟨by omega, rfl⟩, by omega⟩
      · by_cases e2 : rh * 18446744073709551616 + rl2 = d
        · exact ⟨0, .inr (.inl ⟨by omega, rfl⟩), by omega⟩
        · exact ⟨1, .inr (.inr ⟨by omega, rfl⟩), by omega⟩
    have hcm := e_cmp (xh := rh) (xl := rl2) (yh := 0) (yl := d) (by omega) (by omega) (by omega) (by omega) hc3
    have hdist : (2 * Q + 1) * d = 2 * (Q * d) + d := by rw [Int.add_mul, Int.mul_assoc, Int.one_mul]
    have hdist0 : (2 * Q) * d = 2 * (Q * d) := by rw [Int.mul_assoc]
    have hdi : X / 2 ^ (i2 + 1).toNat = 2 * (Q * d + r) + bit := by rw [show (i2 + 1).toNat = i.toNat by omega]; exact hst
    have v3 : wbin .or .u64 ql2 1 = ql2 + 1 := by rw [hbin, u_or_even (by omega) (by omega) (by omega) (by omega) (by omega)]
    obtain ⟨ql3, eql3⟩ : ∃ z, z = ql2 + 1 := ⟨_, rfl⟩
    have v4 : wbin .or .u64 ql2 1 = ql3 := by rw [v3, eql3]
    refine Call.stepE (by rw [← hP]; exact hs1) rfl ?_
    cbv
    refine QCal.stepE (by rw [← hP]; exact hs3) rfl ?_
    cbv
    simp only [v1]
    simp only [v2]
    refine Call.stepE (by rw [← hP]; exact hs2) rfl ?_
    cbv
    refine Call.stepE (by rw [← hP]; exact hcm) rfl ?_
    cbv
    by_cases hge : d ≤ rh * 18446744073709551616 + rl2
    · have cc : wcmp .geq c 0 = true := by rw [hcmp]; simp [cmpStd]; exact hc4.2 hge
      obtain ⟨r2, er2⟩ : ∃ z, z = rh * 18446744073709551616 + rl2 - d := ⟨_, rfl⟩
      have hsb := e_usub rh rl2 d r2 (by omega) (by omega) (by omega) (by omega) (by omega) d1 hge er2 (by omega)
      simp only [cc]
      cbv
      refine Call.stepE (by rw [← hP]; exact hsb) rfl ?_
      cbv
      simp only [v4, a4]
      refine hN ⟨i2, qh2, ql3, r2⟩ _ _ ?hx ?hi hT
      case hx => (refine Wk.eqz (id) (by first | exact fun i _ j _ e => e | (simp only [List.length_cons, List.length_nil]; decide)) ?_; cbv; (repeat' (first | exact trivial | rfl | assumption | apply And.intro | (simp only [hbin, hcmp, hun, hconv, hnot, hbeq, hmm, hscmp, hsadd, hslen, hsat, heqs, hofNat, binStd, cmpStd, unStd, scmpStd, maxI, Bool.not_eq_true', Bool.not_eq_false', decide_eq_true_eq, decide_eq_false_iff_not, Int.not_lt, Int.not_le, if_true, if_false, Bool.false_eq_true, beq_iff_eq, bne_iff_ne, ne_eq, Bool.not_eq_eq_eq_not, Bool.not_true, Bool.not_false, beq_eq_false_iff_ne, bne_eq_false_iff_eq, Int.ofNat_eq_natCast, Bool.not_not, not_true_eq_false, not_false_eq_true, reduceCtorEq]; first | done | assumption) | exact RowsZ.same (by assumption) (by first | assumption | rfl) | exact FzL.mk rfl rfl rfl (by assumption) (by first | assumption | rfl) (by decide) | (refine RowsZ.one ?_; cbv))))
      case hi =>
        refine ⟨by simp only; omega, by simp only; omega, by simp only; omega, by simp only; omega, by simp only; omega, by simp only; omega, by simp only; omega, by simp only; omega, ?_⟩
        simp only
        rw [hdi, show qh2 * 18446744073709551616 + ql3 = 2 * Q + 1 by omega, hdist]
        omega
    · have cc : wcmp .geq c 0 = false := by rw [hcmp]; simp [cmpStd]; have := hc4.1; omega
      have hrh : rh = 0 := by omega
      simp only [cc]
      cbv
      simp only [a4]
      subst hrh
      refine hN ⟨i2, qh2, ql2, rl2⟩ _ _ ?hx ?hi hT
      case hx => (refine Wk.eqz (id) (by first | exact fun i _ j _ e => e | (simp only [List.length_cons, List.length_nil]; decide)) ?_; cbv; (repeat' (first | exact trivial | rfl | assumption | apply And.intro | (simp only [hbin, hcmp, hun, hconv, hnot, hbeq, hmm, hscmp, hsadd, hslen, hsat, heqs, hofNat, binStd, cmpStd, unStd, scmpStd, maxI, Bool.not_eq_true', Bool.not_eq_false', decide_eq_true_eq, decide_eq_false_iff_not, Int.not_lt, Int.not_le, if_true, if_false, Bool.false_eq_true, beq_iff_eq, bne_iff_ne, ne_eq, Bool.not_eq_eq_eq_not, Bool.not_true, Bool.not_false, beq_eq_false_iff_ne, bne_eq_false_iff_eq, Int.ofNat_eq_natCast, Bool.not_not, not_true_eq_false, not_false_eq_true, reduceCtorEq]; first | done | assumption) | exact RowsZ.same (by assumption) (by first | assumption | rfl) | exact FzL.mk rfl rfl rfl (by assumption) (by first | assumption | rfl) (by decide) | (refine RowsZ.one ?_; cbv))))
      case hi =>
        refine ⟨by simp only; omega, by simp only; omega, by simp only; omega, by simp only; omega, by simp only; omega, by simp only; omega, by simp only; omega, by simp only; omega, ?_⟩
        simp only
        rw [hdi, hQ2, hdist0]
        omega
  · refine hE _ _ _ ?_
    cbv
    have ei : i = -1 := by omega
    subst ei
    have hX : X = (qh * 18446744073709551616 + ql) * d + r := by
      have : X / 2 ^ ((-1 : Int) + 1).toNat = X := by show X / 1 = X; omega
      rw [← hX, this]
    repeat' (first
      | (refine And.intro ?_ ?_)
      | (exact ⟨_, Vw.same rfl, hR _ ⟨qh, ql, r, rfl, qh0, qh1, ql0, ql1, r0, r1, by rw [← eX]; exact hX⟩⟩))
end Go.Proofs.YtdjafcjpnjdphaaDoor

/- Ratios, by the engine. -/
set_option linter.unusedVariables false
set_option linter.unusedSimpArgs false
namespace Go.Proofs.YtdjafcjpnjdphaaDoor
open Go Go.RowKit Go.Eng
set_option maxRecDepth 100000
theorem e_size (a s : Int) (h0 : -9223372036854775808 ≤ a) (h1 : a ≤ 9223372036854775807) (es : s = a.natAbs) : PCalls Tryd.prog 82 [.int .i64 a] (· = .int .u64 s) := by
  have f1 : a < 0 → unStd .neg .u64 (IntKind.u64.wrap a) = s := fun h => by
    show IntKind.u64.wrap (0 - IntKind.u64.wrap a) = s
    rw [wr64, wr64]; omega
  have f2 : ¬ a < 0 → IntKind.u64.wrap a = s := fun h => by rw [wr64]; omega
  clear es
  (refine PCalls.ofY Tryd.func82 (by kernel_rfl) (by kernel_rfl) fun w hw R hR => ?_); (obtain ⟨wbin, wcmp, wun, wconv, wnot, wbeq, wmm, wscmp, wsadd, wslen, wsat, weqs, wlen, wnlen, wofNat, wtake, wdrop, wapp, wzero, wnat⟩ := w); (have hbin : wbin = binStd := congrArg Prims.bin hw); (have hcmp : wcmp = cmpStd := congrArg Prims.cmp hw); (have hun : wun = unStd := congrArg Prims.un hw); (have hconv : wconv = fun k n => k.wrap n := congrArg Prims.conv hw); (have hnot : wnot = fun b => !b := congrArg Prims.not hw); (have hbeq : wbeq = fun a b => a == b := congrArg Prims.beq hw); (have hmm : wmm = maxI := congrArg Prims.mm hw); (have hscmp : wscmp = scmpStd := congrArg Prims.scmp hw); (have hsadd : wsadd = fun x y => x ++ y := congrArg Prims.sadd hw); (have hslen : wslen = fun s => (s.size : Int) := congrArg Prims.slen hw); (have hsat : wsat = std.sat := congrArg Prims.sat hw); (have heqs : weqs = fun a b os => (eqOffs a b os).getD false := congrArg Prims.eqs hw); (have hlen : wlen = fun es => (es.length : Int) := congrArg Prims.len hw); (have hnlen : wnlen = fun es => es.length := congrArg Prims.nlen hw); (have hofNat : wofNat = (fun n : Nat => (n : Int)) := congrArg Prims.ofNat hw); (have htake : wtake = fun es b => es.take b.toNat := congrArg Prims.take hw); (have hdrop : wdrop = fun es a => es.drop a.toNat := congrArg Prims.drop hw); (have happ : wapp = fun a b => a ++ b := congrArg Prims.app hw); (have hzero : wzero = fun n z => List.replicate n.toNat z := congrArg Prims.zero hw); (have hnat : wnat = fun n => n.toNat := congrArg Prims.nat hw); (conv => arg 2; cbv); (generalize hP : Tryd.prog = P); cbv
  (split <;> rename_i h <;> (try (simp only [hbin, hcmp, hun, hconv, hnot, hbeq, hmm, hscmp, hsadd, hslen, hsat, heqs, hofNat, binStd, cmpStd, unStd, scmpStd, maxI, Bool.not_eq_true', Bool.not_eq_false', decide_eq_true_eq, decide_eq_false_iff_not, Int.not_lt, Int.not_le, if_true, if_false, Bool.false_eq_true, beq_iff_eq, bne_iff_ne, ne_eq, Bool.not_eq_eq_eq_not, Bool.not_true, Bool.not_false, beq_eq_false_iff_ne, bne_eq_false_iff_eq, Int.ofNat_eq_natCast, Bool.not_not, not_true_eq_false, not_false_eq_true, reduceCtorEq] at h)) <;> (try cbv))
  · have v : wun .neg .u64 (wconv .u64 a) = s := by rw [hun, hconv]; exact f1 h
    simp only [v]
    exact ⟨_, Vw.same rfl, hR _ rfl⟩
  · have v : wconv .u64 a = s := by rw [hconv]; exact f2 (by omega)
    simp only [v]
    exact ⟨_, Vw.same rfl, hR _ rfl⟩
theorem e_uinc (h l a b : Int) (h0 : 0 ≤ h) (l0 : 0 ≤ l) (l1 : l < 18446744073709551616) (hm : h < 18446744073709551615) (eb : b = (l + 1) % 18446744073709551616) (ea : a = h + (l + 1) / 18446744073709551616) : PCalls Tryd.prog 84 [.agg [.int .u64 h, .int .u64 l], .agg [.int .u64 0, .int .u64 1]] (· = .tuple [.agg [.int .u64 a, .int .u64 b], .bool false]) := by
  (refine PCalls.ofY Tryd.func84 (by kernel_rfl) (by kernel_rfl) fun w hw R hR => ?_); (obtain ⟨wbin, wcmp, wun, wconv, wnot, wbeq, wmm, wscmp, wsadd, wslen, wsat, weqs, wlen, wnlen, wofNat, wtake, wdrop, wapp, wzero, wnat⟩ := w); (have hbin : wbin = binStd := congrArg Prims.bin hw); (have hcmp : wcmp = cmpStd := congrArg Prims.cmp hw); (have hun : wun = unStd := congrArg Prims.un hw); (have hconv : wconv = fun k n => k.wrap n := congrArg Prims.conv hw); (have hnot : wnot = fun b => !b := congrArg Prims.not hw); (have hbeq : wbeq = fun a b => a == b := congrArg Prims.beq hw); (have hmm : wmm = maxI := congrArg Prims.mm hw); (have hscmp : wscmp = scmpStd := congrArg Prims.scmp hw); (have hsadd : wsadd = fun x y => x ++ y := congrArg Prims.sadd hw); (have hslen : wslen = fun s => (s.size : Int) := congrArg Prims.slen hw); (have hsat : wsat = std.sat := congrArg Prims.sat hw); (have heqs : weqs = fun a b os => (eqOffs a b os).getD false := congrArg Prims.eqs hw); (have hlen : wlen = fun es => (es.length : Int) := congrArg Prims.len hw); (have hnlen : wnlen = fun es => es.length := congrArg Prims.nlen hw); (have hofNat : wofNat = (fun n : Nat => (n : Int)) := congrArg Prims.ofNat hw); (have htake : wtake = fun es b => es.take b.toNat := congrArg Prims.take hw); (have hdrop : wdrop = fun es a => es.drop a.toNat := congrArg Prims.drop hw); (have happ : wapp = fun a b => a ++ b := congrArg Prims.app hw); (have hzero : wzero = fun n z => List.replicate n.toNat z := congrArg Prims.zero hw); (have hnat : wnat = fun n => n.toNat := congrArg Prims.nat hw); (conv => arg 2; cbv); (generalize hP : Tryd.prog = P); cbv
  have v1 : wbin .add .u64 l 1 = b := by rw [hbin, eb]; exact wr64 _
  have v2 : wbin .add .u64 h 0 = h := by rw [hbin]; show IntKind.u64.wrap (h + 0) = h; rw [wr64]; omega
  have v3 : wbin .add .u64 h 1 = h + 1 := by rw [hbin]; show IntKind.u64.wrap (h + 1) = h + 1; rw [wr64]; omega
  by_cases hl : l + 1 < 18446744073709551616
  · have eb2 : b = l + 1 := by omega
    have ea2 : a = h := by omega
    have c1 : wcmp .lss b l = false := by rw [hcmp]; simp [cmpStd]; omega
    have c2 : wcmp .lss h h = false := by rw [hcmp]; simp [cmpStd]
    subst ea2
    repeat' (first
      | (simp only [v1, v2])
      | (simp only [c1]; cbv)
      | (simp only [c2]; cbv)
      | (refine And.intro ?_ ?_)
      | (exact ⟨_, Vw.same rfl, hR _ rfl⟩))
  · have eb2 : b = 0 := by omega
    have ea2 : h + 1 = a := by omega
    have c1 : wcmp .lss b l = true := by rw [hcmp]; simp [cmpStd]; omega
    have c2 : wcmp .lss h h = false := by rw [hcmp]; simp [cmpStd]
    have v4 : wbin .add .u64 h 1 = a := by rw [v3, ea2]
    have c3 : wcmp .eql a 0 = false := by rw [hcmp]; simp [cmpStd]; omega
    repeat' (first
      | (simp only [v1, v2])
      | (simp only [v4])
      | (simp only [c1]; cbv)
      | (simp only [c2]; cbv)
      | (simp only [c3]; cbv)
      | (refine And.intro ?_ ?_)
      | (exact ⟨_, Vw.same rfl, hR _ rfl⟩))
def sgnV (X : Int) (below : Bool) : Int × Int := if below then (if X ≤ 9223372036854775808 then (-X, 0) else (0, 20)) else (if X ≤ 9223372036854775807 then (X, 0) else (0, 20))
theorem e_signed (h l v e : Int) (below : Bool) (h0 : 0 ≤ h) (l0 : 0 ≤ l) (l1 : l < 18446744073709551616) (hv : sgnV (h * 18446744073709551616 + l) below = (v, e)) : PCalls Tryd.prog 85 [.agg [.int .u64 h, .int .u64 l], .bool below] (· = .tuple [.int .i64 v, .int .i64 e]) := by
  obtain ⟨m, em⟩ : ∃ m : Int, m = if below then 9223372036854775808 else 9223372036854775807 := ⟨_, rfl⟩
  obtain ⟨c, hc, hc2⟩ : ∃ c : Int, ((h * 18446744073709551616 + l < 0 * 18446744073709551616 + m ∧ c = -1) ∨ (h * 18446744073709551616 + l = 0 * 18446744073709551616 + m ∧ c = 0) ∨ (0 * 18446744073709551616 + m < h * 18446744073709551616 + l ∧ c = 1)) ∧ (0 < c ↔ m < h * 18446744073709551616 + l) := by
    by_cases e1 : h * 18446744073709551616 + l < m
    · exact ⟨-1, .inl ⟨by omega, rfl⟩, by omega⟩
    · by_cases e2 : h * 18446744073709551616 + l = m
      · exact ⟨0, .inr (.inl ⟨by omega, rfl⟩), by omega⟩
      · exact ⟨1, .inr (.inr ⟨by omega, rfl⟩), by omega⟩
  have hm : 0 ≤ m ∧ m < 18446744073709551616 := by rw [em]; split <;> decide
  have hcm := e_cmp (xh := h) (xl := l) (yh := 0) (yl := m) l0 l1 hm.1 hm.2 hc
  unfold sgnV at hv
  cases below
  · simp only [Bool.false_eq_true, if_false] at em hv
    subst em
    (refine PCalls.ofY Tryd.func85 (by kernel_rfl) (by kernel_rfl) fun w hw R hR => ?_); (obtain ⟨wbin, wcmp, wun, wconv, wnot, wbeq, wmm, wscmp, wsadd, wslen, wsat, weqs, wlen, wnlen, wofNat, wtake, wdrop, wapp, wzero, wnat⟩ := w); (have hbin : wbin = binStd := congrArg Prims.bin hw); (have hcmp : wcmp = cmpStd := congrArg Prims.cmp hw); (have hun : wun = unStd := congrArg Prims.un hw); (have hconv : wconv = fun k n => k.wrap n := congrArg Prims.conv hw); (have hnot : wnot = fun b => !b := congrArg Prims.not hw); (have hbeq : wbeq = fun a b => a == b := congrArg Prims.beq hw); (have hmm : wmm = maxI := congrArg Prims.mm hw); (have hscmp : wscmp = scmpStd := congrArg Prims.scmp hw); (have hsadd : wsadd = fun x y => x ++ y := congrArg Prims.sadd hw); (have hslen : wslen = fun s => (s.size : Int) := congrArg Prims.slen hw); (have hsat : wsat = std.sat := congrArg Prims.sat hw); (have heqs : weqs = fun a b os => (eqOffs a b os).getD false := congrArg Prims.eqs hw); (have hlen : wlen = fun es => (es.length : Int) := congrArg Prims.len hw); (have hnlen : wnlen = fun es => es.length := congrArg Prims.nlen hw); (have hofNat : wofNat = (fun n : Nat => (n : Int)) := congrArg Prims.ofNat hw); (have htake : wtake = fun es b => es.take b.toNat := congrArg Prims.take hw); (have hdrop : wdrop = fun es a => es.drop a.toNat := congrArg Prims.drop hw); (have happ : wapp = fun a b => a ++ b := congrArg Prims.app hw); (have hzero : wzero = fun n z => List.replicate n.toNat z := congrArg Prims.zero hw); (have hnat : wnat = fun n => n.toNat := congrArg Prims.nat hw); (conv => arg 2; cbv); (generalize hP : Tryd.prog = P); cbv
    refine Call.stepE (by rw [← hP]; exact hcm) rfl ?_
    cbv
    by_cases hX : h * 18446744073709551616 + l ≤ 9223372036854775807
    · rw [if_pos hX] at hv
      obtain ⟨hv1, hv2⟩ := Prod.mk.inj hv
      have cc : wcmp .gtr c 0 = false := by rw [hcmp]; simp [cmpStd]; have := hc2.1; omega
      have v1 : wconv .i64 l = v := by rw [hconv]; show IntKind.i64.wrap l = v; rw [IntKind.wrap_i64]; omega
      subst hv2
      repeat' (first
        | (simp only [cc]; cbv)
        | (simp only [v1]))
      exact ⟨_, Vw.same rfl, hR _ rfl⟩
    · rw [if_neg hX] at hv
      obtain ⟨rfl, rfl⟩ := Prod.mk.inj hv
      have cc : wcmp .gtr c 0 = true := by rw [hcmp]; simp [cmpStd]; exact hc2.2 (by omega)
      simp only [cc]
      cbv
      exact ⟨_, Vw.same rfl, hR _ rfl⟩
  · simp only [if_true] at em hv
    subst em
    (refine PCalls.ofY Tryd.func85 (by kernel_rfl) (by kernel_rfl) fun w hw R hR => ?_); (obtain ⟨wbin, wcmp, wun, wconv, wnot, wbeq, wmm, wscmp, wsadd, wslen, wsat, weqs, wlen, wnlen, wofNat, wtake, wdrop, wapp, wzero, wnat⟩ := w); (have hbin : wbin = binStd := congrArg Prims.bin hw); (have hcmp : wcmp = cmpStd := congrArg Prims.cmp hw); (have hun : wun = unStd := congrArg Prims.un hw); (have hconv : wconv = fun k n => k.wrap n := congrArg Prims.conv hw); (have hnot : wnot = fun b => !b := congrArg Prims.not hw); (have hbeq : wbeq = fun a b => a == b := congrArg Prims.beq hw); (have hmm : wmm = maxI := congrArg Prims.mm hw); (have hscmp : wscmp = scmpStd := congrArg Prims.scmp hw); (have hsadd : wsadd = fun x y => x ++ y := congrArg Prims.sadd hw); (have hslen : wslen = fun s => (s.size : Int) := congrArg Prims.slen hw); (have hsat : wsat = std.sat := congrArg Prims.sat hw); (have heqs : weqs = fun a b os => (eqOffs a b os).getD false := congrArg Prims.eqs hw); (have hlen : wlen = fun es => (es.length : Int) := congrArg Prims.len hw); (have hnlen : wnlen = fun es => es.length := congrArg Prims.nlen hw); (have hofNat : wofNat = (fun n : Nat => (n : Int)) := congrArg Prims.ofNat hw); (have htake : wtake = fun es b => es.take b.toNat := congrArg Prims.take hw); (have hdrop : wdrop = fun es a => es.drop a.toNat := congrArg Prims.drop hw); (have happ : wapp = fun a b => a ++ b := congrArg Prims.app hw); (have hzero : wzero = fun n z => List.replicate n.toNat z := congrArg Prims.zero hw); (have hnat : wnat = fun n => n.toNat := congrArg Prims.nat hw); (conv => arg 2; cbv); (generalize hP : Tryd.prog = P); cbv
    have v0 : wbin .add .u64 9223372036854775807 1 = 9223372036854775808 := by rw [hbin]; rfl
    simp only [v0]
    refine Call.stepE (by rw [← hP]; exact hcm) rfl ?_
    cbv
    by_cases hX : h * 18446744073709551616 + l ≤ 9223372036854775808
    · rw [if_pos hX] at hv
      obtain ⟨hv1, hv2⟩ := Prod.mk.inj hv
      have cc : wcmp .gtr c 0 = false := by rw [hcmp]; simp [cmpStd]; have := hc2.1; omega
      have v1 : wconv .i64 (wun .neg .u64 l) = v := by
        rw [hconv, hun]; show IntKind.i64.wrap (IntKind.u64.wrap (0 - l)) = v; rw [IntKind.wrap_i64, wr64]; omega
      subst hv2
      repeat' (first
        | (simp only [cc]; cbv)
        | (simp only [v1]))
      exact ⟨_, Vw.same rfl, hR _ rfl⟩
    · rw [if_neg hX] at hv
      obtain ⟨rfl, rfl⟩ := Prod.mk.inj hv
      have cc : wcmp .gtr c 0 = true := by rw [hcmp]; simp [cmpStd]; exact hc2.2 (by omega)
      simp only [cc]
      cbv
      exact ⟨_, Vw.same rfl, hR _ rfl⟩
def ratQ (up below : Bool) (X C : Int) : Int := if 0 < X % C ∧ up ≠ below then X / C + 1 else X / C
def ratV (up : Bool) (a b c : Int) : Int × Int := sgnV (ratQ up ((decide (a < 0) != decide (b < 0)) != decide (c < 0)) ((a.natAbs : Int) * b.natAbs) c.natAbs) ((decide (a < 0) != decide (b < 0)) != decide (c < 0))
set_option maxHeartbeats 1000000 in
theorem e_divide (a b c v e : Int) (up : Bool) (a0 : -9223372036854775808 ≤ a) (a1 : a ≤ 9223372036854775807) (b0 : -9223372036854775808 ≤ b) (b1 : b ≤ 9223372036854775807) (k0 : -9223372036854775808 ≤ c) (k1 : c ≤ 9223372036854775807) (hc0 : c ≠ 0) (hv : ratV up a b c = (v, e)) : PCalls Tryd.prog 79 [.int .i64 a, .int .i64 b, .int .i64 c, .bool up] (· = .tuple [.int .i64 v, .int .i64 e]) := by
  obtain ⟨below, ebelow⟩ : ∃ z, z = ((decide (a < 0) != decide (b < 0)) != decide (c < 0)) := ⟨_, rfl⟩
  obtain ⟨A, eA⟩ : ∃ z : Int, z = a.natAbs := ⟨_, rfl⟩
  obtain ⟨B, eB⟩ : ∃ z : Int, z = b.natAbs := ⟨_, rfl⟩
  obtain ⟨C, eC⟩ : ∃ z : Int, z = c.natAbs := ⟨_, rfl⟩
  unfold ratV at hv
  rw [← ebelow, ← eA, ← eB, ← eC] at hv
  have hA : 0 ≤ A ∧ A ≤ 9223372036854775808 := by omega
  have hB : 0 ≤ B ∧ B ≤ 9223372036854775808 := by omega
  have hC : 0 < C ∧ C ≤ 9223372036854775808 := by omega
  have q1 := e_size a A a0 a1 eA
  have q2 := e_size b B b0 b1 eB
  have q3 := e_size c C k0 k1 eC
  obtain ⟨X, eX⟩ : ∃ z, z = A * B := ⟨_, rfl⟩
  have hX0 : 0 ≤ X := by rw [eX]; exact Int.mul_nonneg hA.1 hB.1
  have hX1 : X ≤ 85070591730234615865843651857942052864 := by
    have := Int.mul_le_mul hA.2 hB.2 hB.1 (by decide)
    rw [eX]; exact this
  obtain ⟨mh, emh⟩ : ∃ z, A * B / 18446744073709551616 = z := ⟨_, rfl⟩
  obtain ⟨ml, eml⟩ : ∃ z, A * B % 18446744073709551616 = z := ⟨_, rfl⟩
  have q4 := e_mul (a := A) (b := B) hA.1 (by omega) hB.1 (by omega) emh eml
  rw [← eX] at emh eml hv
  have q5 := e_udiv mh ml C (by omega) (by omega) (by omega) (by omega) hC.1 (by omega)
  clear eA eB eC eX
  (refine PCalls.ofY Tryd.func79 (by kernel_rfl) (by kernel_rfl) fun w hw R hR => ?_); (obtain ⟨wbin, wcmp, wun, wconv, wnot, wbeq, wmm, wscmp, wsadd, wslen, wsat, weqs, wlen, wnlen, wofNat, wtake, wdrop, wapp, wzero, wnat⟩ := w); (have hbin : wbin = binStd := congrArg Prims.bin hw); (have hcmp : wcmp = cmpStd := congrArg Prims.cmp hw); (have hun : wun = unStd := congrArg Prims.un hw); (have hconv : wconv = fun k n => k.wrap n := congrArg Prims.conv hw); (have hnot : wnot = fun b => !b := congrArg Prims.not hw); (have hbeq : wbeq = fun a b => a == b := congrArg Prims.beq hw); (have hmm : wmm = maxI := congrArg Prims.mm hw); (have hscmp : wscmp = scmpStd := congrArg Prims.scmp hw); (have hsadd : wsadd = fun x y => x ++ y := congrArg Prims.sadd hw); (have hslen : wslen = fun s => (s.size : Int) := congrArg Prims.slen hw); (have hsat : wsat = std.sat := congrArg Prims.sat hw); (have heqs : weqs = fun a b os => (eqOffs a b os).getD false := congrArg Prims.eqs hw); (have hlen : wlen = fun es => (es.length : Int) := congrArg Prims.len hw); (have hnlen : wnlen = fun es => es.length := congrArg Prims.nlen hw); (have hofNat : wofNat = (fun n : Nat => (n : Int)) := congrArg Prims.ofNat hw); (have htake : wtake = fun es b => es.take b.toNat := congrArg Prims.take hw); (have hdrop : wdrop = fun es a => es.drop a.toNat := congrArg Prims.drop hw); (have happ : wapp = fun a b => a ++ b := congrArg Prims.app hw); (have hzero : wzero = fun n z => List.replicate n.toNat z := congrArg Prims.zero hw); (have hnat : wnat = fun n => n.toNat := congrArg Prims.nat hw); (conv => arg 2; cbv); (generalize hP : Tryd.prog = P); cbv
  have z1 : wcmp .eql c 0 = false := by rw [hcmp]; simp [cmpStd, hc0]
  have z2 : wnot (wbeq (wnot (wbeq (wcmp .lss a 0) (wcmp .lss b 0))) (wcmp .lss c 0)) = below := by rw [hnot, hbeq, hcmp, ebelow]; rfl
  clear ebelow
  simp only [z1]
  cbv
  simp only [z2]
  repeat' (first
    | (refine Call.stepE (by rw [← hP]; exact q1) rfl ?_; cbv)
    | (refine Call.stepE (by rw [← hP]; exact q2) rfl ?_; cbv)
    | (refine Call.stepE (by rw [← hP]; exact q3) rfl ?_; cbv)
    | (refine Call.stepE (by rw [← hP]; exact q4) rfl ?_; cbv)
    | fail)
  refine Call.step (by rw [← hP]; exact q5) rfl ?_
  rintro r ⟨qh, ql, s, rfl, g1, g2, g3, g4, g5, g6, g7⟩
  cbv
  obtain ⟨Q, eQ⟩ : ∃ z, z = qh * 18446744073709551616 + ql := ⟨_, rfl⟩
  rw [← eQ] at g7
  have hmX : mh * 18446744073709551616 + ml = X := by omega
  rw [hmX] at g7
  have hs : X % C = s := by rw [g7, Int.add_comm, Int.mul_comm, Int.add_mul_emod_self_left]; exact Int.emod_eq_of_lt g5 g6
  have hQ : X / C = Q := by rw [g7, Int.add_comm, Int.add_mul_ediv_right _ _ (by omega), Int.ediv_eq_zero_of_lt g5 g6]; omega
  have hQX : Q ≤ X := by rw [← hQ]; exact Int.ediv_le_self _ hX0
  unfold ratQ at hv
  rw [hs, hQ] at hv
  by_cases hup : 0 < s ∧ up ≠ below
  · rw [if_pos hup] at hv
    have z3 : wcmp .gtr s 0 = true := by rw [hcmp]; simp [cmpStd, hup.1]
    have z4 : wnot (wbeq up below) = true := by rw [hnot, hbeq]; simp [hup.2]
    obtain ⟨ha, eha⟩ : ∃ z, z = qh + (ql + 1) / 18446744073709551616 := ⟨_, rfl⟩
    obtain ⟨hb, ehb⟩ : ∃ z, z = (ql + 1) % 18446744073709551616 := ⟨_, rfl⟩
    have q6 := e_uinc qh ql ha hb g1 g3 g4 (by omega) ehb eha
    have q7 := e_signed ha hb v e below (by omega) (by omega) (by omega) (by rw [← hv]; congr 1; omega)
    repeat' (first
      | (simp only [z3]; cbv)
      | (simp only [z4]; cbv)
      | (refine Call.stepE (by rw [← hP]; exact q6) rfl ?_; cbv)
      | (refine Call.stepE (by rw [← hP]; exact q7) rfl ?_; cbv)
      | fail)
    exact ⟨_, Vw.same rfl, hR _ rfl⟩
  · rw [if_neg hup] at hv
    have q7 := e_signed qh ql v e below g1 g3 g4 (by rw [← hv, eQ])
    by_cases hs0 : 0 < s
    · have z3 : wcmp .gtr s 0 = true := by rw [hcmp]; simp [cmpStd, hs0]
      have hub : up = below := Classical.byContradiction fun h => hup ⟨hs0, h⟩
      have z4 : wnot (wbeq up below) = false := by rw [hnot, hbeq, hub]; simp
      repeat' (first
        | (simp only [z3]; cbv)
        | (simp only [z4]; cbv)
        | (refine Call.stepE (by rw [← hP]; exact q7) rfl ?_; cbv)
        | fail)
      exact ⟨_, Vw.same rfl, hR _ rfl⟩
    · have z3 : wcmp .gtr s 0 = false := by rw [hcmp]; simp [cmpStd, hs0]
      repeat' (first
        | (simp only [z3]; cbv)
        | (refine Call.stepE (by rw [← hP]; exact q7) rfl ?_; cbv)
        | fail)
      exact ⟨_, Vw.same rfl, hR _ rfl⟩
theorem e_ceil (a b c v e : Int) (a0 : -9223372036854775808 ≤ a) (a1 : a ≤ 9223372036854775807) (b0 : -9223372036854775808 ≤ b) (b1 : b ≤ 9223372036854775807) (k0 : -9223372036854775808 ≤ c) (k1 : c ≤ 9223372036854775807) (hc0 : c ≠ 0) (hv : ratV true a b c = (v, e)) : PCalls Tryd.prog 69 [.int .i64 a, .int .i64 b, .int .i64 c] (· = .tuple [.int .i64 v, .int .i64 e]) := by
  have q := e_divide a b c v e true a0 a1 b0 b1 k0 k1 hc0 hv
  (refine PCalls.ofY Tryd.func69 (by kernel_rfl) (by kernel_rfl) fun w hw R hR => ?_); (obtain ⟨wbin, wcmp, wun, wconv, wnot, wbeq, wmm, wscmp, wsadd, wslen, wsat, weqs, wlen, wnlen, wofNat, wtake, wdrop, wapp, wzero, wnat⟩ := w); (have hbin : wbin = binStd := congrArg Prims.bin hw); (have hcmp : wcmp = cmpStd := congrArg Prims.cmp hw); (have hun : wun = unStd := congrArg Prims.un hw); (have hconv : wconv = fun k n => k.wrap n := congrArg Prims.conv hw); (have hnot : wnot = fun b => !b := congrArg Prims.not hw); (have hbeq : wbeq = fun a b => a == b := congrArg Prims.beq hw); (have hmm : wmm = maxI := congrArg Prims.mm hw); (have hscmp : wscmp = scmpStd := congrArg Prims.scmp hw); (have hsadd : wsadd = fun x y => x ++ y := congrArg Prims.sadd hw); (have hslen : wslen = fun s => (s.size : Int) := congrArg Prims.slen hw); (have hsat : wsat = std.sat := congrArg Prims.sat hw); (have heqs : weqs = fun a b os => (eqOffs a b os).getD false := congrArg Prims.eqs hw); (have hlen : wlen = fun es => (es.length : Int) := congrArg Prims.len hw); (have hnlen : wnlen = fun es => es.length := congrArg Prims.nlen hw); (have hofNat : wofNat = (fun n : Nat => (n : Int)) := congrArg Prims.ofNat hw); (have htake : wtake = fun es b => es.take b.toNat := congrArg Prims.take hw); (have hdrop : wdrop = fun es a => es.drop a.toNat := congrArg Prims.drop hw); (have happ : wapp = fun a b => a ++ b := congrArg Prims.app hw); (have hzero : wzero = fun n z => List.replicate n.toNat z := congrArg Prims.zero hw); (have hnat : wnat = fun n => n.toNat := congrArg Prims.nat hw); (conv => arg 2; cbv); (generalize hP : Tryd.prog = P); cbv
  refine Call.stepE (by rw [← hP]; exact q) rfl ?_
  cbv
  exact ⟨_, Vw.same rfl, hR _ rfl⟩
/-- Of numbers above 0. -/
theorem ratV_pos {a b c : Int} (ha : 0 ≤ a) (hb : 0 ≤ b) (hc : 0 < c) (up : Bool) : ratV up a b c = sgnV (if 0 < a * b % c ∧ up = true then a * b / c + 1 else a * b / c) false := by
  unfold ratV
  have e1 : ((decide (a < 0) != decide (b < 0)) != decide (c < 0)) = false := by
    rw [decide_eq_false (by omega), decide_eq_false (by omega), decide_eq_false (by omega)]; rfl
  rw [e1, show (a.natAbs : Int) = a by omega, show (b.natAbs : Int) = b by omega, show (c.natAbs : Int) = c by omega]
  unfold ratQ
  cases up <;> simp
end Go.Proofs.YtdjafcjpnjdphaaDoor

