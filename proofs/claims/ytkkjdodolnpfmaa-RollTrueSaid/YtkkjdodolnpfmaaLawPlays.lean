/- RollPlays, joined. -/
import Derived.Test.YtkkjdodolnpfmaaRoll4
import Derived.Test.YtkkjdodolnpfmaaTyConf
import Derived.KernelRfl
set_option linter.unusedVariables false
set_option linter.unusedSimpArgs false
namespace Go.Proofs.Ytkkjdodolnpfmaa
open Go Go.RowKit Go.Eng
set_option maxRecDepth 100000
theorem ty_cycles (x : AV) (h : TyV Try.prog 8 49 x) : ∃ cs, x = .list 5 (cyRows cs) := by
  have h := h.one (by kernel_rfl) (show shOf Try.prog 8 49 = some [.list 5 [.int .i64, .int .i64, .int .i64, .bool, .bool]] from by kernel_rfl)
  unfold Sh.Ok at h
  obtain ⟨es, rfl, _, hr⟩ := h
  obtain ⟨cs, rfl⟩ := rows_of (f := cyRow) (es := es) fun r hrr => by
    have k0 := hr r hrr
    clear hr hrr
    obtain ⟨a, _, rfl, _, k1⟩ := ok_int k0
    obtain ⟨b, _, rfl, _, k2⟩ := ok_int k1
    obtain ⟨v, _, rfl, _, k3⟩ := ok_int k2
    obtain ⟨st, _, rfl, k4⟩ := ok_bool k3
    obtain ⟨com, _, rfl, k5⟩ := ok_bool k4
    obtain rfl := ok_nil k5
    exact ⟨⟨a, b, v, st, com⟩, rfl⟩
  exact ⟨cs, rfl⟩
theorem walk_RollPlays (x0 x1 : AV) (h0 : TyV Try.prog 8 48 x0) (h1 : TyV Try.prog 8 49 x1) : PCalls Try.prog 6 [x0, x1] (fun r => r = .bool true) := by
  obtain ⟨c0, c1, c2, c3, c4, c5, c6, c7, c8, c9, c10, c11, c12, c13, rfl⟩ := ty_conf x0 h0
  obtain ⟨cs, rfl⟩ := ty_cycles x1 h1
  exact walk_plays c0 c1 c2 c3 c4 c5 c6 c7 c8 c9 c10 c11 c12 c13 cs _ rfl
end Go.Proofs.Ytkkjdodolnpfmaa
