/- What limits and spots are. -/
import Derived.Test.YtkkjdodolnpfmaaLim1
import Derived.Test.YtkkjdodolnpfmaaTyInt
import Derived.KernelRfl
set_option linter.unusedVariables false
set_option maxRecDepth 100000
namespace Go.Proofs.Ytkkjdodolnpfmaa
open Go Go.RowKit Go.Eng
theorem ty_int (x : AV) (h : TyV Try.prog 8 3 x) : ∃ n, x = .int .i64 n := by
  have h := h.one (by kernel_rfl) (show shOf Try.prog 8 3 = some [.int .i64] from by kernel_rfl)
  unfold Sh.Ok at h
  obtain ⟨n, rfl, hn⟩ := h
  exact ⟨n, rfl⟩
theorem ty_limits (x : AV) (h : TyV Try.prog 8 22 x) : ∃ ls : List Li, x = .list 4 (ls.map liRow) := by
  have h := h.one (by kernel_rfl) (show shOf Try.prog 8 22 = some [.list 4 [.int .i64, .int .i64, .int .i64, .int .i64]] from by kernel_rfl)
  unfold Sh.Ok at h
  obtain ⟨es, rfl, _, hr⟩ := h
  obtain ⟨ls, rfl⟩ := rows_of (f := liRow) (es := es) fun r hrr => by
    have k0 := hr r hrr
    clear hr hrr
    obtain ⟨a, _, rfl, _, k1⟩ := ok_int k0
    obtain ⟨b, _, rfl, _, k2⟩ := ok_int k1
    obtain ⟨c, _, rfl, _, k3⟩ := ok_int k2
    obtain ⟨d, _, rfl, _, k4⟩ := ok_int k3
    obtain rfl := ok_nil k4
    exact ⟨⟨a, b, c, d⟩, rfl⟩
  exact ⟨ls, rfl⟩
theorem ty_spots (x : AV) (h : TyV Try.prog 8 23 x) : ∃ ss : List Spt, x = .list 3 (ss.map sptRow) := by
  have h := h.one (by kernel_rfl) (show shOf Try.prog 8 23 = some [.list 3 [.int .i64, .int .i64, .int .i64]] from by kernel_rfl)
  unfold Sh.Ok at h
  obtain ⟨es, rfl, _, hr⟩ := h
  obtain ⟨ls, rfl⟩ := rows_of (f := sptRow) (es := es) fun r hrr => by
    have k0 := hr r hrr
    clear hr hrr
    obtain ⟨a, _, rfl, _, k1⟩ := ok_int k0
    obtain ⟨b, _, rfl, _, k2⟩ := ok_int k1
    obtain ⟨c, _, rfl, _, k3⟩ := ok_int k2
    obtain rfl := ok_nil k3
    exact ⟨⟨a, b, c⟩, rfl⟩
  exact ⟨ls, rfl⟩
end Go.Proofs.Ytkkjdodolnpfmaa
