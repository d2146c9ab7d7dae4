/- Texts of the proof of BoxPacks, joined by wip/tools/pack.py. -/
import Derived.Test.YtekhigoblbkiaaaEng33
import Derived.Laws.BitsAllLaws
import Derived.Test.YtekhigoblbkiaaaEng30
import Derived.Test.YtekhigoblbkiaaaEng31
import Derived.Test.YtekhigoblbkiaaaEngC
import Derived.KernelRfl
import Derived.Test.YtekhigoblbkiaaaEngL
import Derived.Test.YtekhigoblbkiaaaEngV
import Derived.Test.YtekhigoblbkiaaaEngO
import Derived.Test.YtekhigoblbkiaaaEngW
/- Sums of bytes, plainly: bit by bit as a division, and byte by byte. -/
set_option linter.unusedVariables false
set_option linter.unusedSimpArgs false
namespace Go.Proofs.Ytekhigoblbkiaaa
open Go Go.RowKit Go.Eng
/-- One digit of the division. -/
def crS (s : BitVec 16) : BitVec 16 := (s <<< 1) ^^^ (if s.msb then 4129#16 else 0#16)
def crN : Nat → BitVec 16 → BitVec 16
  | 0, s => s
  | n + 1, s => crN n (crS s)
/-- A sum with one more byte. -/
def crB (s : BitVec 16) (b : BitVec 16) : BitVec 16 := crN 8 (s ^^^ (b <<< 8))
def crL (s : BitVec 16) (l : List (BitVec 16)) : BitVec 16 := l.foldl crB s
theorem shl_xor (a b : BitVec 16) (n : Nat) : (a ^^^ b) <<< n = (a <<< n) ^^^ (b <<< n) := by
  apply BitVec.eq_of_getElem_eq
  intro i hi
  simp only [BitVec.getElem_shiftLeft, BitVec.getElem_xor]
  by_cases h : i < n
  · simp [h]
  · simp [h]
theorem crS_xor (a b : BitVec 16) : crS (a ^^^ b) = crS a ^^^ crS b := by
  unfold crS
  rw [shl_xor, BitVec.msb_xor]
  cases a.msb <;> cases b.msb <;> simp
  · ac_rfl
  · ac_rfl
  · rw [show (a <<< 1 ^^^ 4129#16) ^^^ (b <<< 1 ^^^ 4129#16) = (a <<< 1 ^^^ b <<< 1) ^^^ (4129#16 ^^^ 4129#16) by ac_rfl]
    simp
theorem crN_xor : ∀ (n : Nat) (a b : BitVec 16), crN n (a ^^^ b) = crN n a ^^^ crN n b
  | 0, a, b => rfl
  | n + 1, a, b => by simp only [crN]; rw [crS_xor, crN_xor n]
theorem crN_add : ∀ (m n : Nat) (a : BitVec 16), crN (m + n) a = crN n (crN m a)
  | 0, n, a => by rw [Nat.zero_add]; rfl
  | m + 1, n, a => by rw [show m + 1 + n = (m + n) + 1 by omega]; simp only [crN]; rw [crN_add m n]
theorem crS_small {a : BitVec 16} (h : a.toNat < 32768) : crS a = a <<< 1 := by
  unfold crS
  have : a.msb = false := by rw [BitVec.msb_eq_decide]; simp; omega
  rw [this]; simp
theorem crN_small : ∀ (n : Nat) (a : BitVec 16), a.toNat * 2 ^ n ≤ 65535 → crN n a = a <<< n
  | 0, a, h => by simp [crN]
  | n + 1, a, h => by
    have h1 : a.toNat * 2 ≤ 65535 := Nat.le_trans (Nat.mul_le_mul_left _ (by rw [Nat.pow_succ]; have := Nat.one_le_two_pow (n := n); omega)) h
    have h2 : (a <<< 1).toNat = a.toNat * 2 := by rw [BitVec.toNat_shiftLeft, Nat.shiftLeft_eq]; omega
    simp only [crN]
    rw [crS_small (by omega), crN_small n _ (by rw [h2, Nat.mul_assoc, ← Nat.pow_succ']; exact h), ← BitVec.shiftLeft_add, Nat.add_comm]
/-- The sum behind its bytes leaves nothing. -/
theorem crB_end (s : BitVec 16) : crB (crB s (s >>> 8)) (s &&& 255#16) = 0#16 := by
  have h1 : s ^^^ (s >>> 8) <<< 8 = s &&& 255#16 := by
    apply BitVec.eq_of_getElem_eq
    intro i hi
    simp only [BitVec.getElem_xor, BitVec.getElem_shiftLeft, BitVec.getElem_and, BitVec.getElem_ushiftRight]
    by_cases h : i < 8
    · have : (255#16)[i] = true := by
        have : i = 0 ∨ i = 1 ∨ i = 2 ∨ i = 3 ∨ i = 4 ∨ i = 5 ∨ i = 6 ∨ i = 7 := by omega
        rcases this with h | h | h | h | h | h | h | h <;> subst h <;> simp
      simp [h, this]
    · have : (255#16)[i] = false := by
        have : i = 8 ∨ i = 9 ∨ i = 10 ∨ i = 11 ∨ i = 12 ∨ i = 13 ∨ i = 14 ∨ i = 15 := by omega
        rcases this with h | h | h | h | h | h | h | h <;> subst h <;> simp
      simp [h, this, BitVec.getLsbD, BitVec.getElem_eq_testBit_toNat, show 8 + (i - 8) = i by omega]
  have h2 : (s &&& 255#16).toNat ≤ 255 := by rw [BitVec.toNat_and]; exact Nat.and_le_right
  unfold crB
  have e := crN_small 8 (s &&& 255#16) (by omega)
  rw [h1, e, BitVec.xor_self]
  exact (crN_small 8 0#16 (by simp)).trans (by simp)
/-- A digit comes in. -/
def crI (s : BitVec 16) (t : Bool) : BitVec 16 := crS s ^^^ (if t then 1#16 else 0#16)
def crIs (s : BitVec 16) (l : List Bool) : BitVec 16 := l.foldl crI s
theorem crIs_xor : ∀ (l m : List Bool) (a b : BitVec 16), l.length = m.length → crIs (a ^^^ b) (List.zipWith (fun x y => x ^^ y) l m) = crIs a l ^^^ crIs b m
  | [], [], a, b, _ => rfl
  | x :: l, y :: m, a, b, h => by
    simp only [List.zipWith_cons_cons, crIs, List.foldl_cons]
    have e : crI (a ^^^ b) (x ^^ y) = crI a x ^^^ crI b y := by
      unfold crI
      rw [crS_xor]
      cases x <;> cases y <;> simp
      · ac_rfl
      · ac_rfl
      · rw [show (crS a ^^^ 1#16) ^^^ (crS b ^^^ 1#16) = (crS a ^^^ crS b) ^^^ (1#16 ^^^ 1#16) by ac_rfl]; simp
    rw [e]
    exact crIs_xor l m _ _ (by simpa using h)
theorem crIs_zero : ∀ (n : Nat) (a : BitVec 16), crIs a (List.replicate n false) = crN n a
  | 0, a => rfl
  | n + 1, a => by
    rw [List.replicate_succ]
    simp only [crIs, List.foldl_cons, crN]
    rw [show crI a false = crS a by simp [crI]]
    exact crIs_zero n _
theorem crIs_app (a : BitVec 16) (l m : List Bool) : crIs a (l ++ m) = crIs (crIs a l) m := List.foldl_append
/-- A byte's digits, the greatest first. -/
def bitsB (b : BitVec 16) : List Bool := (List.range 8).map fun i => b.getLsbD (7 - i)
theorem crIs_byte (a b : BitVec 16) (hb : b.toNat < 256) : crIs a (bitsB b) = crN 8 a ^^^ b := by
  have h0 : crIs (a ^^^ 0#16) (List.zipWith (fun x y => x ^^ y) (List.replicate 8 false) (bitsB b)) = crIs a (List.replicate 8 false) ^^^ crIs 0#16 (bitsB b) := crIs_xor _ _ _ _ (by simp [bitsB])
  have h1 : List.zipWith (fun x y => x ^^ y) (List.replicate 8 false) (bitsB b) = bitsB b := by
    simp [bitsB, List.range, List.range.loop]
  rw [h1, crIs_zero, BitVec.xor_zero] at h0
  rw [h0]
  congr 1
  -- from nothing on no digit is lost
  have key : ∀ (k : Nat), k ≤ 8 → crIs 0#16 ((List.range k).map fun i => b.getLsbD (7 - i)) = b >>> (8 - k) := by
    intro k
    induction k with
    | zero =>
      intro _
      show 0#16 = b >>> 8
      apply BitVec.eq_of_toNat_eq
      rw [BitVec.toNat_ushiftRight, Nat.shiftRight_eq_div_pow]
      simp
      omega
    | succ k ih =>
      intro hk
      rw [List.range_succ, List.map_append, crIs_app, ih (by omega)]
      show crI (b >>> (8 - k)) (b.getLsbD (7 - k)) = _
      unfold crI
      have hs : (b >>> (8 - k)).toNat < 32768 := by
        rw [BitVec.toNat_ushiftRight, Nat.shiftRight_eq_div_pow]
        exact Nat.lt_of_le_of_lt (Nat.div_le_self _ _) (by omega)
      rw [crS_small hs]
      apply BitVec.eq_of_getLsbD_eq
      intro i hi
      have e1 : (if b.getLsbD (7 - k) = true then 1#16 else 0#16).getLsbD i = (decide (i = 0) && b.getLsbD (7 - k)) := by
        cases b.getLsbD (7 - k) <;> simp [BitVec.getLsbD_one]
      rw [BitVec.getLsbD_xor, e1, BitVec.getLsbD_shiftLeft, BitVec.getLsbD_ushiftRight, BitVec.getLsbD_ushiftRight]
      by_cases h : i = 0
      · subst h; simp [show 8 - (k + 1) = 7 - k by omega]
      · have h2 : 8 - k + (i - 1) = 8 - (k + 1) + i := by omega
        simp [h, hi, show ¬ i < 1 by omega, h2]
  have := key 8 (Nat.le_refl _)
  simpa [bitsB] using this
/-- All digits of bytes. -/
def bitsL (l : List (BitVec 16)) : List Bool := l.flatMap bitsB
theorem bitsL_len (l : List (BitVec 16)) : (bitsL l).length = 8 * l.length := by
  unfold bitsL
  induction l with
  | nil => rfl
  | cons b l ih => rw [List.flatMap_cons, List.length_append, ih]; simp [bitsB]; omega
theorem crIs_bytes : ∀ (l : List (BitVec 16)) (a : BitVec 16), (∀ b, b ∈ l → b.toNat < 256) → crN 16 (crIs a (bitsL l)) = crL (crN 16 a) l
  | [], a, _ => rfl
  | b :: l, a, h => by
    have hb := h b (by simp)
    unfold bitsL
    rw [List.flatMap_cons, crIs_app]
    have ih := crIs_bytes l (crIs a (bitsB b)) fun x hx => h x (by simp [hx])
    unfold bitsL at ih
    rw [ih]
    show crL (crN 16 (crIs a (bitsB b))) l = crL (crB (crN 16 a) b) l
    congr 1
    rw [crIs_byte a b hb]
    unfold crB
    rw [crN_xor, crN_xor, ← crN_add, ← crN_add, ← crN_small 8 b (by omega), ← crN_add]
theorem crL_xor : ∀ (l : List (BitVec 16)) (a : BitVec 16), crL a l = crL 0#16 l ^^^ crN (8 * l.length) a
  | [], a => by simp [crL, crN]
  | b :: l, a => by
    show crL (crB a b) l = crL (crB 0#16 b) l ^^^ _
    rw [crL_xor l (crB a b), crL_xor l (crB 0#16 b)]
    have : crB a b = crB 0#16 b ^^^ crN 8 a := by
      unfold crB
      rw [BitVec.zero_xor, crN_xor, BitVec.xor_comm]
    rw [this, crN_xor, ← crN_add, show 8 * (b :: l).length = 8 + 8 * l.length by simp; omega]
    ac_rfl
/-- The division comes to the sum: the first 16 digits are turned. -/
theorem cr_main (l : List (BitVec 16)) (h : ∀ b, b ∈ l → b.toNat < 256) :
    crIs 0#16 (List.zipWith (fun x y => x ^^ y) (bitsL l ++ List.replicate 16 false) (List.replicate 16 true ++ List.replicate (8 * l.length) false)) = crL 65535#16 l := by
  have h1 := crIs_xor (bitsL l ++ List.replicate 16 false) (List.replicate 16 true ++ List.replicate (8 * l.length) false) 0#16 0#16 (by rw [List.length_append, List.length_append, bitsL_len, List.length_replicate, List.length_replicate, List.length_replicate]; omega)
  rw [BitVec.xor_self] at h1
  rw [h1, crIs_app, crIs_zero, crIs_bytes l _ h, crIs_app, crIs_zero, crL_xor l 65535#16]
  have h2 : crN 16 0#16 = 0#16 := by rw [crN_small 16 _ (by simp)]; simp
  have h3 : crIs 0#16 (List.replicate 16 true) = 65535#16 := by
    show crI _ _ = _
    rfl
  rw [h2, h3]
end Go.Proofs.Ytekhigoblbkiaaa

/- Numbers of 64 bits that do not go beyond. -/
set_option linter.unusedVariables false
namespace Go.Proofs.Ytekhigoblbkiaaa
open Go Go.RowKit Go.Eng
theorem add64n {a b : Int} (h1 : -9223372036854775808 ≤ a + b) (h2 : a + b < 9223372036854775808) : std.1 .add .i64 a b = a + b := by
  show IntKind.i64.wrap (a + b) = _
  rw [IntKind.wrap_i64]; omega
theorem i_add {a b : Int} (h1 : -9223372036854775808 ≤ a + b) (h2 : a + b < 9223372036854775808) : binStd .add .i64 a b = a + b := add64n h1 h2
theorem i_sub {a b : Int} (h1 : -9223372036854775808 ≤ a - b) (h2 : a - b < 9223372036854775808) : binStd .sub .i64 a b = a - b := by
  show IntKind.i64.wrap (a - b) = _
  rw [IntKind.wrap_i64]; omega
theorem i_mul {a b : Int} (h1 : -9223372036854775808 ≤ a * b) (h2 : a * b < 9223372036854775808) : binStd .mul .i64 a b = a * b := by
  show IntKind.i64.wrap (a * b) = _
  rw [IntKind.wrap_i64]; omega
theorem i_neg {a : Int} (h1 : -9223372036854775808 < a) (h2 : a < 9223372036854775808) : unStd .neg .i64 a = -a := by
  show IntKind.i64.wrap (0 - a) = _
  rw [IntKind.wrap_i64]; omega
theorem i_quo {a b : Int} (h0 : 0 ≤ a) (h1 : 0 < b) (h2 : a < 9223372036854775808) : binStd .quo .i64 a b = a / b := by
  show IntKind.i64.wrap (a.tdiv b) = _
  rw [Int.tdiv_eq_ediv_of_nonneg h0]
  have h3 : a / b ≤ a := Int.ediv_le_self _ h0
  have h4 : 0 ≤ a / b := Int.ediv_nonneg h0 (by omega)
  rw [IntKind.wrap_i64]; omega
end Go.Proofs.Ytekhigoblbkiaaa

/- Lists that are built row by row. -/
set_option linter.unusedVariables false
namespace Go.Proofs.Ytekhigoblbkiaaa
open Go Go.RowKit Go.Eng
/-- Where a list is being built, row by row. -/
inductive Bd where
  | start
  | more (i : Int) (n : Nat) (fs : List (List AV))
def Bd.Ok (es : List (List AV)) : Bd → Prop
  | .start => True
  | .more i n fs => 0 < i ∧ i.toNat ≤ es.length ∧ fs = es.take i.toNat ∧ n = fs.length ∧ Up0 fs
def Bd.left (es : List (List AV)) : Bd → Nat
  | .start => es.length
  | .more i _ _ => es.length - i.toNat
theorem up_take {es : List (List AV)} (h : Up0 es) (n : Nat) : Up0 (es.take n) := by
  obtain ⟨h⟩ := h
  refine ⟨?_⟩
  induction es generalizing n with
  | nil => simpa using h
  | cons e t ih =>
    cases n with
    | zero => rfl
    | succ n =>
      simp only [uptoLL, Bool.and_eq_true] at h
      simp only [List.take_succ_cons, uptoLL, Bool.and_eq_true]
      exact ⟨h.1, ih n h.2⟩
theorem take_row {es : List (List AV)} {i : Int} {row : List AV} (h0 : 0 ≤ i) (hr : es[i.toNat]? = some row) : es.take (i + 1).toNat = es.take i.toNat ++ [row] := by
  rw [show (i + 1).toNat = i.toNat + 1 by omega, List.take_add_one, hr]; rfl
theorem up_map {D : Type} {f : D → List AV} (hf : ∀ d, uptoL 0 (f d) = true) (ds : List D) : Up0 (ds.map f) := by
  refine ⟨?_⟩
  induction ds with
  | nil => rfl
  | cons d t ih => exact Bool.and_eq_true_iff.mpr ⟨hf d, ih⟩
theorem get_map {D : Type} {f : D → List AV} {ds : List D} {i : Int} (h0 : 0 ≤ i) (h : i.toNat < ds.length) : ∃ d, ds[i.toNat]? = some d ∧ (ds.map f)[i.toNat]? = some (f d) := by
  have h1 := h
  exact ⟨ds[i.toNat], by rw [List.getElem?_eq_getElem h1], by simp [h1]⟩
end Go.Proofs.Ytekhigoblbkiaaa

/- Sums of bytes, by the engine. -/
set_option linter.unusedVariables false
set_option linter.unusedSimpArgs false
namespace Go.Proofs.Ytekhigoblbkiaaa
open Go Go.RowKit Go.Eng
set_option maxRecDepth 100000
def bi (v : BitVec 16) : Int := (v.toNat : Int)
theorem bi_of (v : BitVec 16) : BitVec.ofInt 16 (bi v) = v := by
  unfold bi
  rw [BitVec.ofInt_natCast, BitVec.ofNat_toNat, BitVec.setWidth_eq]
theorem bi_b (v : BitVec 16) : 0 ≤ bi v ∧ bi v < 65536 := by have := v.isLt; unfold bi; omega
theorem u_xor (v w : BitVec 16) : binStd .xor .u16 (bi v) (bi w) = bi (v ^^^ w) := by
  show IntKind.u16.wrap (BitVec.ofInt 16 (bi v) ^^^ BitVec.ofInt 16 (bi w)).toNat = _
  rw [bi_of, bi_of, IntKind.wrap_u16]
  have := (v ^^^ w).isLt
  unfold bi; omega
theorem u_shl (v : BitVec 16) (n : Int) (k : Nat) (hn : n = k) (hk : k ≤ 16) : binStd .shl .u16 (bi v) n = bi (v <<< k) := by
  subst hn
  show IntKind.u16.wrap (bi v * 2 ^ (min (k : Int).toNat 16)) = _
  rw [IntKind.wrap_u16, Int.toNat_natCast, Nat.min_eq_left hk]
  unfold bi
  rw [BitVec.toNat_shiftLeft, Nat.shiftLeft_eq, Int.natCast_emod, Int.natCast_mul, Int.natCast_pow]
  rfl
theorem u_top (v : BitVec 16) : binStd .and .u16 (bi v) 32768 = if v.msb then 32768 else 0 := by
  show IntKind.u16.wrap (BitVec.ofInt 16 (bi v) &&& BitVec.ofInt 16 32768).toNat = _
  rw [bi_of, IntKind.wrap_u16]
  have h1 : v &&& BitVec.ofInt 16 32768 = if v.msb then 32768#16 else 0#16 := by
    apply BitVec.eq_of_getLsbD_eq
    intro i hi
    rw [BitVec.getLsbD_and, BitVec.msb_eq_getLsbD_last]
    have h2 : (BitVec.ofInt 16 32768).getLsbD i = decide (i = 15) := by
      have : i = 0 ∨ i = 1 ∨ i = 2 ∨ i = 3 ∨ i = 4 ∨ i = 5 ∨ i = 6 ∨ i = 7 ∨ i = 8 ∨ i = 9 ∨ i = 10 ∨ i = 11 ∨ i = 12 ∨ i = 13 ∨ i = 14 ∨ i = 15 := by omega
      rcases this with h | h | h | h | h | h | h | h | h | h | h | h | h | h | h | h <;> (rw [h]; rfl)
    rw [h2]
    by_cases h : i = 15
    · subst h; cases v.getLsbD 15 <;> simp
    · cases v.getLsbD (16 - 1) <;> simp [h]
      have h3 : (32768#16).getLsbD i = decide (i = 15) := h2
      rw [h3]; simp [h]
  rw [h1]
  cases v.msb <;> rfl
theorem bi_byte {b : Int} (h : 0 ≤ b ∧ b ≤ 255) : b = bi (BitVec.ofNat 16 b.toNat) ∧ (BitVec.ofNat 16 b.toNat).toNat < 256 := by
  have : (BitVec.ofNat 16 b.toNat).toNat = b.toNat := by rw [BitVec.toNat_ofNat]; omega
  unfold bi; omega
def bByte (b : Int) : BitVec 16 := BitVec.ofNat 16 b.toNat
theorem crN_last : ∀ (n : Nat) (a : BitVec 16), crN (n + 1) a = crS (crN n a) := fun n a => by rw [crN_add n 1 a]; rfl
set_option maxHeartbeats 1000000 in
theorem e_more (v : BitVec 16) (s b r : Int) (es : s = bi v) (hb : 0 ≤ b ∧ b ≤ 255) (er : r = bi (crB v (bByte b))) : PCalls Try.prog 103 [.int .u16 s, .int .u8 b] (· = .int .u16 r) := by
  (refine PCalls.ofY Try.func103 (by kernel_rfl) (by kernel_rfl) fun w hw R hR => ?_); (obtain ⟨wbin, wcmp, wun, wconv, wnot, wbeq, wmm, wscmp, wsadd, wslen, wsat, weqs, wlen, wnlen, wofNat, wtake, wdrop, wapp, wzero, wnat⟩ := w); (have hbin : wbin = binStd := congrArg Prims.bin hw); (have hcmp : wcmp = cmpStd := congrArg Prims.cmp hw); (have hun : wun = unStd := congrArg Prims.un hw); (have hconv : wconv = fun k n => k.wrap n := congrArg Prims.conv hw); (have hnot : wnot = fun b => !b := congrArg Prims.not hw); (have hbeq : wbeq = fun a b => a == b := congrArg Prims.beq hw); (have hmm : wmm = maxI := congrArg Prims.mm hw); (have hscmp : wscmp = scmpStd := congrArg Prims.scmp hw); (have hsadd : wsadd = fun x y => x ++ y := congrArg Prims.sadd hw); (have hslen : wslen = fun s => (s.size : Int) := congrArg Prims.slen hw); (have hsat : wsat = std.sat := congrArg Prims.sat hw); (have heqs : weqs = fun a b os => (eqOffs a b os).getD false := congrArg Prims.eqs hw); (have hlen : wlen = fun es => (es.length : Int) := congrArg Prims.len hw); (have hnlen : wnlen = fun es => es.length := congrArg Prims.nlen hw); (have hofNat : wofNat = (fun n : Nat => (n : Int)) := congrArg Prims.ofNat hw); (have htake : wtake = fun es b => es.take b.toNat := congrArg Prims.take hw); (have hdrop : wdrop = fun es a => es.drop a.toNat := congrArg Prims.drop hw); (have happ : wapp = fun a b => a ++ b := congrArg Prims.app hw); (have hzero : wzero = fun n z => List.replicate n.toNat z := congrArg Prims.zero hw); (have hnat : wnat = fun n => n.toNat := congrArg Prims.nat hw); (conv => arg 2; cbv); (generalize hP : Try.prog = P); cbv
  refine Nn.mk (by decide) ?_
  obtain ⟨x0, ex0⟩ : ∃ x, x = v ^^^ (bByte b <<< 8) := ⟨_, rfl⟩
  obtain ⟨y0, ey0⟩ : ∃ y, y = bi x0 := ⟨_, rfl⟩
  have a1 : wbin .xor .u16 s (wbin .shl .u16 (wconv .u16 b) 8) = y0 := by
    have h1 : wconv .u16 b = bi (bByte b) := by rw [hconv]; show IntKind.u16.wrap b = _; rw [IntKind.wrap_u16]; have := (bi_byte hb).1; unfold bByte; omega
    rw [h1, hbin, u_shl _ 8 8 rfl (by decide), es, u_xor, ey0, ex0]
  simp only [a1]
  refine Loop.data hw (S := Int × BitVec 16 × Int) (fun s => fr 22 [(0, .int .u16 s.2.2), (10, .int .i64 s.1)]) (fun _ => [])
    (fun s => 0 ≤ s.1 ∧ s.1 ≤ 8 ∧ s.2.1 = crN s.1.toNat x0 ∧ s.2.2 = bi s.2.1) (fun s => (8 - s.1).toNat) (0, x0, y0) (by (refine Wk.eqz (id) (by first | exact fun i _ j _ e => e | (simp only [List.length_cons, List.length_nil]; decide)) ?_; cbv; (repeat' (first | exact trivial | rfl | assumption | apply And.intro | (simp only [hbin, hcmp, hun, hconv, hnot, hbeq, hmm, hscmp, hsadd, hslen, hsat, heqs, hofNat, binStd, cmpStd, unStd, scmpStd, maxI, Bool.not_eq_true', Bool.not_eq_false', decide_eq_true_eq, decide_eq_false_iff_not, Int.not_lt, Int.not_le, if_true, if_false, Bool.false_eq_true, beq_iff_eq, bne_iff_ne, ne_eq, Bool.not_eq_eq_eq_not, Bool.not_true, Bool.not_false, beq_eq_false_iff_ne, bne_eq_false_iff_eq, Int.ofNat_eq_natCast, Bool.not_not, not_true_eq_false, not_false_eq_true, reduceCtorEq]; first | done | assumption) | exact RowsZ.same (by assumption) (by first | assumption | rfl) | exact FzL.mk rfl rfl rfl (by assumption) (by first | assumption | rfl) (by decide) | (refine RowsZ.one ?_; cbv))))) ⟨Int.le_refl _, (show (0 : Int) ≤ 8 by decide), rfl, ey0⟩ ?_
  rintro ⟨i, x, y⟩ hinv Q' hN hE hR'
  have hinv : 0 ≤ i ∧ i ≤ 8 ∧ x = crN i.toNat x0 ∧ y = bi x := hinv
  cbv
  obtain ⟨hi0, hi1, hx, hy⟩ := hinv
  (split <;> rename_i hc <;> (try (simp only [hbin, hcmp, hun, hconv, hnot, hbeq, hmm, hscmp, hsadd, hslen, hsat, heqs, hofNat, binStd, cmpStd, unStd, scmpStd, maxI, Bool.not_eq_true', Bool.not_eq_false', decide_eq_true_eq, decide_eq_false_iff_not, Int.not_lt, Int.not_le, if_true, if_false, Bool.false_eq_true, beq_iff_eq, bne_iff_ne, ne_eq, Bool.not_eq_eq_eq_not, Bool.not_true, Bool.not_false, beq_eq_false_iff_ne, bne_eq_false_iff_eq, Int.ofNat_eq_natCast, Bool.not_not, not_true_eq_false, not_false_eq_true, reduceCtorEq] at hc)) <;> (try cbv))
  · obtain ⟨i2, ei2⟩ : ∃ z, z = i + 1 := ⟨_, rfl⟩
    have a4 : wbin .add .i64 i 1 = i2 := by rw [hbin, i_add (by omega) (by omega), ei2]
    have hT : (8 - i2).toNat < (8 - i).toNat := by omega
    obtain ⟨x2, ex2⟩ : ∃ z, z = crS x := ⟨_, rfl⟩
    obtain ⟨y2, ey2⟩ : ∃ z, z = bi x2 := ⟨_, rfl⟩
    have hx2 : x2 = crN i2.toNat x0 := by rw [ex2, hx, show i2.toNat = i.toNat + 1 by omega, crN_last]
    have top : wbin .and .u16 y 32768 = if x.msb then 32768 else 0 := by rw [hbin, hy, u_top]
    have sh : wbin .shl .u16 y 1 = bi (x <<< 1) := by rw [hbin, hy, u_shl _ 1 1 rfl (by decide)]
    have b1 : x.msb = true → wbin .xor .u16 (wbin .shl .u16 y 1) 4129 = y2 := fun h => by
      rw [sh, hbin, show (4129 : Int) = bi 4129#16 from rfl, u_xor, ey2, ex2]
      unfold crS; rw [h]; rfl
    have b2 : x.msb = false → wbin .shl .u16 y 1 = y2 := fun h => by
      rw [sh, ey2, ex2]
      unfold crS; rw [h]; simp
    obtain ⟨m, em⟩ : ∃ m, x.msb = m := ⟨_, rfl⟩
    rw [em] at b1 b2 top
    have c1 : wcmp .neq (wbin .and .u16 y 32768) 0 = m := by rw [top, hcmp]; cases m <;> rfl
    simp only [c1]
    cases m
    · cbv
      refine Nn.mk (by decide) ?_
      simp only [b2 rfl, a4]
      refine hN (i2, x2, y2) _ _ ?hx ?hi hT
      case hx => (refine Wk.eqz (id) (by first | exact fun i _ j _ e => e | (simp only [List.length_cons, List.length_nil]; decide)) ?_; cbv; (repeat' (first | exact trivial | rfl | assumption | apply And.intro | (simp only [hbin, hcmp, hun, hconv, hnot, hbeq, hmm, hscmp, hsadd, hslen, hsat, heqs, hofNat, binStd, cmpStd, unStd, scmpStd, maxI, Bool.not_eq_true', Bool.not_eq_false', decide_eq_true_eq, decide_eq_false_iff_not, Int.not_lt, Int.not_le, if_true, if_false, Bool.false_eq_true, beq_iff_eq, bne_iff_ne, ne_eq, Bool.not_eq_eq_eq_not, Bool.not_true, Bool.not_false, beq_eq_false_iff_ne, bne_eq_false_iff_eq, Int.ofNat_eq_natCast, Bool.not_not, not_true_eq_false, not_false_eq_true, reduceCtorEq]; first | done | assumption) | exact RowsZ.same (by assumption) (by first | assumption | rfl) | exact FzL.mk rfl rfl rfl (by assumption) (by first | assumption | rfl) (by decide) | (refine RowsZ.one ?_; cbv))))
      case hi => exact ⟨by simp only; omega, by simp only; omega, hx2, ey2⟩
    · cbv
      refine Nn.mk (by decide) ?_
      simp only [b1 rfl, a4]
      refine hN (i2, x2, y2) _ _ ?hx ?hi hT
      case hx => (refine Wk.eqz (id) (by first | exact fun i _ j _ e => e | (simp only [List.length_cons, List.length_nil]; decide)) ?_; cbv; (repeat' (first | exact trivial | rfl | assumption | apply And.intro | (simp only [hbin, hcmp, hun, hconv, hnot, hbeq, hmm, hscmp, hsadd, hslen, hsat, heqs, hofNat, binStd, cmpStd, unStd, scmpStd, maxI, Bool.not_eq_true', Bool.not_eq_false', decide_eq_true_eq, decide_eq_false_iff_not, Int.not_lt, Int.not_le, if_true, if_false, Bool.false_eq_true, beq_iff_eq, bne_iff_ne, ne_eq, Bool.not_eq_eq_eq_not, Bool.not_true, Bool.not_false, beq_eq_false_iff_ne, bne_eq_false_iff_eq, Int.ofNat_eq_natCast, Bool.not_not, not_true_eq_false, not_false_eq_true, reduceCtorEq]; first | done | assumption) | exact RowsZ.same (by assumption) (by first | assumption | rfl) | exact FzL.mk rfl rfl rfl (by assumption) (by first | assumption | rfl) (by decide) | (refine RowsZ.one ?_; cbv))))
      case hi => exact ⟨by simp only; omega, by simp only; omega, hx2, ey2⟩
  · refine hE _ _ _ ?_
    cbv
    have e8 : i.toNat = 8 := by omega
    refine ⟨_, Vw.same rfl, hR _ ?_⟩
    rw [hy, hx, e8, ex0, er]; rfl
end Go.Proofs.Ytekhigoblbkiaaa

/- Sums of bytes, by the engine: Go, Sum, Seal. -/
set_option linter.unusedVariables false
set_option linter.unusedSimpArgs false
namespace Go.Proofs.Ytekhigoblbkiaaa
open Go Go.RowKit Go.Eng
set_option maxRecDepth 100000
def bRow (b : Int) : List AV := [.int .u8 b]
theorem up_b (l : List Int) : Up0 (l.map bRow) := up_map (f := bRow) (fun d => rfl) l
theorem take_nx {α : Type} {l : List α} {i : Int} {x : α} (h0 : 0 ≤ i) (h : l[i.toNat]? = some x) : l.take (i + 1).toNat = l.take i.toNat ++ [x] := by
  have e : (i + 1).toNat = i.toNat + 1 := by omega
  rw [e, List.take_add_one, h]; rfl
theorem rowsOk_b : ∀ (l : List Int), rowsOk (l.map bRow) = true
  | [] => rfl
  | b :: l => by rw [List.map_cons]; simp only [rowsOk, rowsOk_b l, Bool.and_true]; rfl
def BytesOk (l : List Int) : Prop := ∀ b, b ∈ l → 0 ≤ b ∧ b ≤ 255
def crF (v : BitVec 16) (l : List Int) : BitVec 16 := crL v (l.map bByte)
set_option maxHeartbeats 1000000 in
theorem e_go (l : List Int) (hl : BytesOk l) (h47 : l.length ≤ 1099511627776) (v : BitVec 16) (s r : Int) (es : s = bi v) (rs : List (List AV)) (hrs : rs = l.map bRow) (er : r = bi (crF v l)) : PCalls Try.prog 83 [.int .u16 s, .list 1 rs] (· = .int .u16 r) := by
  have hu : Up0 rs := by rw [hrs]; exact up_b l
  (refine PCalls.ofY Try.func83 (by kernel_rfl) (by kernel_rfl) fun w hw R hR => ?_); (obtain ⟨wbin, wcmp, wun, wconv, wnot, wbeq, wmm, wscmp, wsadd, wslen, wsat, weqs, wlen, wnlen, wofNat, wtake, wdrop, wapp, wzero, wnat⟩ := w); (have hbin : wbin = binStd := congrArg Prims.bin hw); (have hcmp : wcmp = cmpStd := congrArg Prims.cmp hw); (have hun : wun = unStd := congrArg Prims.un hw); (have hconv : wconv = fun k n => k.wrap n := congrArg Prims.conv hw); (have hnot : wnot = fun b => !b := congrArg Prims.not hw); (have hbeq : wbeq = fun a b => a == b := congrArg Prims.beq hw); (have hmm : wmm = maxI := congrArg Prims.mm hw); (have hscmp : wscmp = scmpStd := congrArg Prims.scmp hw); (have hsadd : wsadd = fun x y => x ++ y := congrArg Prims.sadd hw); (have hslen : wslen = fun s => (s.size : Int) := congrArg Prims.slen hw); (have hsat : wsat = std.sat := congrArg Prims.sat hw); (have heqs : weqs = fun a b os => (eqOffs a b os).getD false := congrArg Prims.eqs hw); (have hlen : wlen = fun es => (es.length : Int) := congrArg Prims.len hw); (have hnlen : wnlen = fun es => es.length := congrArg Prims.nlen hw); (have hofNat : wofNat = (fun n : Nat => (n : Int)) := congrArg Prims.ofNat hw); (have htake : wtake = fun es b => es.take b.toNat := congrArg Prims.take hw); (have hdrop : wdrop = fun es a => es.drop a.toNat := congrArg Prims.drop hw); (have happ : wapp = fun a b => a ++ b := congrArg Prims.app hw); (have hzero : wzero = fun n z => List.replicate n.toNat z := congrArg Prims.zero hw); (have hnat : wnat = fun n => n.toNat := congrArg Prims.nat hw); (conv => arg 2; cbv); (generalize hP : Try.prog = P); cbv
  (obtain ⟨L, eL, L0, Ln⟩ : ∃ L : Int, wlen rs = L ∧ 0 ≤ L ∧ L.toNat = rs.length := ⟨(rs.length : Int), by rw [hlen], Int.natCast_nonneg _, Int.toNat_natCast _⟩)
  simp only [eL]
  have hrl : rs.length = l.length := by rw [hrs]; simp
  refine Loop.data hw (S := Int × BitVec 16 × Int) (fun s => fr 18 [(0, .int .u16 s.2.2), (7, .list 1 rs), (8, .int .i64 L), (9, .int .i64 s.1)]) (fun _ => [])
    (fun s => 0 ≤ s.1 ∧ s.1 ≤ L ∧ s.2.1 = crF v (l.take s.1.toNat) ∧ s.2.2 = bi s.2.1) (fun s => (L - s.1).toNat) (0, v, s) (by (refine Wk.eqz (id) (by first | exact fun i _ j _ e => e | (simp only [List.length_cons, List.length_nil]; decide)) ?_; cbv; (repeat' (first | exact trivial | rfl | assumption | apply And.intro | (simp only [hbin, hcmp, hun, hconv, hnot, hbeq, hmm, hscmp, hsadd, hslen, hsat, heqs, hofNat, binStd, cmpStd, unStd, scmpStd, maxI, Bool.not_eq_true', Bool.not_eq_false', decide_eq_true_eq, decide_eq_false_iff_not, Int.not_lt, Int.not_le, if_true, if_false, Bool.false_eq_true, beq_iff_eq, bne_iff_ne, ne_eq, Bool.not_eq_eq_eq_not, Bool.not_true, Bool.not_false, beq_eq_false_iff_ne, bne_eq_false_iff_eq, Int.ofNat_eq_natCast, Bool.not_not, not_true_eq_false, not_false_eq_true, reduceCtorEq]; first | done | assumption) | exact RowsZ.same (by assumption) (by first | assumption | rfl) | exact FzL.mk rfl rfl rfl (by assumption) (by first | assumption | rfl) (by decide) | (refine RowsZ.one ?_; cbv))))) ⟨Int.le_refl _, L0, rfl, es⟩ ?_
  rintro ⟨i, x, y⟩ hinv Q' hN hE hR'
  have hinv : 0 ≤ i ∧ i ≤ L ∧ x = crF v (l.take i.toNat) ∧ y = bi x := hinv
  cbv
  obtain ⟨hi0, hi1, hx, hy⟩ := hinv
  (split <;> rename_i hc <;> (try (simp only [hbin, hcmp, hun, hconv, hnot, hbeq, hmm, hscmp, hsadd, hslen, hsat, heqs, hofNat, binStd, cmpStd, unStd, scmpStd, maxI, Bool.not_eq_true', Bool.not_eq_false', decide_eq_true_eq, decide_eq_false_iff_not, Int.not_lt, Int.not_le, if_true, if_false, Bool.false_eq_true, beq_iff_eq, bne_iff_ne, ne_eq, Bool.not_eq_eq_eq_not, Bool.not_true, Bool.not_false, beq_eq_false_iff_ne, bne_eq_false_iff_eq, Int.ofNat_eq_natCast, Bool.not_not, not_true_eq_false, not_false_eq_true, reduceCtorEq] at hc)) <;> (try cbv))
  · obtain ⟨i2, ei2⟩ : ∃ z, z = i + 1 := ⟨_, rfl⟩
    have a4 : wbin .add .i64 i 1 = i2 := by rw [hbin, ei2]; show IntKind.i64.wrap (i + 1) = i + 1; rw [IntKind.wrap_i64]; omega
    have hT : (L - i2).toNat < (L - i).toNat := by omega
    obtain ⟨b, hb⟩ : ∃ b, l[i.toNat]? = some b := ⟨_, List.getElem?_eq_getElem (show i.toNat < l.length by omega)⟩
    have hbr : rs[i.toNat]? = some [.int .u8 b] := by rw [hrs, List.getElem?_map, hb]; rfl
    have hbb := hl b (List.mem_of_getElem? hb)
    obtain ⟨x2, ex2⟩ : ∃ z, z = crB x (bByte b) := ⟨_, rfl⟩
    obtain ⟨y2, ey2⟩ : ∃ z, z = bi x2 := ⟨_, rfl⟩
    have hx2 : x2 = crF v (l.take i2.toNat) := by
      rw [ex2, hx, ei2, take_nx hi0 hb]
      unfold crF crL
      rw [List.map_append, List.foldl_append]; rfl
    refine Idx.mk _ hi0 hbr ?_
    cbv
    refine Call.stepE (by rw [← hP]; exact e_more x y b y2 hy hbb (by rw [ey2, ex2])) rfl ?_
    cbv
    simp only [a4]
    refine hN (i2, x2, y2) _ _ ?hx ?hi hT
    case hx => (refine Wk.eqz (id) (by first | exact fun i _ j _ e => e | (simp only [List.length_cons, List.length_nil]; decide)) ?_; cbv; (repeat' (first | exact trivial | rfl | assumption | apply And.intro | (simp only [hbin, hcmp, hun, hconv, hnot, hbeq, hmm, hscmp, hsadd, hslen, hsat, heqs, hofNat, binStd, cmpStd, unStd, scmpStd, maxI, Bool.not_eq_true', Bool.not_eq_false', decide_eq_true_eq, decide_eq_false_iff_not, Int.not_lt, Int.not_le, if_true, if_false, Bool.false_eq_true, beq_iff_eq, bne_iff_ne, ne_eq, Bool.not_eq_eq_eq_not, Bool.not_true, Bool.not_false, beq_eq_false_iff_ne, bne_eq_false_iff_eq, Int.ofNat_eq_natCast, Bool.not_not, not_true_eq_false, not_false_eq_true, reduceCtorEq]; first | done | assumption) | exact RowsZ.same (by assumption) (by first | assumption | rfl) | exact FzL.mk rfl rfl rfl (by assumption) (by first | assumption | rfl) (by decide) | (refine RowsZ.one ?_; cbv))))
    case hi => exact ⟨by simp only; omega, by simp only; omega, hx2, ey2⟩
  · refine hE _ _ _ ?_
    cbv
    refine ⟨_, Vw.same rfl, hR _ ?_⟩
    rw [hy, hx, er, List.take_of_length_le (by omega)]; rfl
theorem e_sum (l : List Int) (hl : BytesOk l) (h47 : l.length ≤ 1099511627776) (r : Int) (rs : List (List AV)) (hrs : rs = l.map bRow) (er : r = bi (crF 65535#16 l)) : PCalls Try.prog 50 [.list 1 rs] (· = .int .u16 r) := by
  have hu : Up0 rs := by rw [hrs]; exact up_b l
  (refine PCalls.ofY Try.func50 (by kernel_rfl) (by kernel_rfl) fun w hw R hR => ?_); (obtain ⟨wbin, wcmp, wun, wconv, wnot, wbeq, wmm, wscmp, wsadd, wslen, wsat, weqs, wlen, wnlen, wofNat, wtake, wdrop, wapp, wzero, wnat⟩ := w); (have hbin : wbin = binStd := congrArg Prims.bin hw); (have hcmp : wcmp = cmpStd := congrArg Prims.cmp hw); (have hun : wun = unStd := congrArg Prims.un hw); (have hconv : wconv = fun k n => k.wrap n := congrArg Prims.conv hw); (have hnot : wnot = fun b => !b := congrArg Prims.not hw); (have hbeq : wbeq = fun a b => a == b := congrArg Prims.beq hw); (have hmm : wmm = maxI := congrArg Prims.mm hw); (have hscmp : wscmp = scmpStd := congrArg Prims.scmp hw); (have hsadd : wsadd = fun x y => x ++ y := congrArg Prims.sadd hw); (have hslen : wslen = fun s => (s.size : Int) := congrArg Prims.slen hw); (have hsat : wsat = std.sat := congrArg Prims.sat hw); (have heqs : weqs = fun a b os => (eqOffs a b os).getD false := congrArg Prims.eqs hw); (have hlen : wlen = fun es => (es.length : Int) := congrArg Prims.len hw); (have hnlen : wnlen = fun es => es.length := congrArg Prims.nlen hw); (have hofNat : wofNat = (fun n : Nat => (n : Int)) := congrArg Prims.ofNat hw); (have htake : wtake = fun es b => es.take b.toNat := congrArg Prims.take hw); (have hdrop : wdrop = fun es a => es.drop a.toNat := congrArg Prims.drop hw); (have happ : wapp = fun a b => a ++ b := congrArg Prims.app hw); (have hzero : wzero = fun n z => List.replicate n.toNat z := congrArg Prims.zero hw); (have hnat : wnat = fun n => n.toNat := congrArg Prims.nat hw); (conv => arg 2; cbv); (generalize hP : Try.prog = P); cbv
  refine Call.stepE (by rw [← hP]; exact e_go l hl h47 65535#16 65535 r rfl rs hrs er) (by exact Up0.one hu rfl) ?_
  cbv
  exact ⟨_, Vw.same rfl, hR _ rfl⟩
/-- A sum's two bytes. -/
def sumB (v : BitVec 16) : List Int := [bi (v >>> 8), bi (v &&& 255#16)]
theorem sumB_ok (v : BitVec 16) : BytesOk (sumB v) := by
  intro b hb
  have h1 : (v >>> 8).toNat < 256 := by rw [BitVec.toNat_ushiftRight, Nat.shiftRight_eq_div_pow]; have := v.isLt; omega
  have h2 : (v &&& 255#16).toNat ≤ 255 := by rw [BitVec.toNat_and]; exact Nat.and_le_right
  simp only [sumB, List.mem_cons, List.not_mem_nil, or_false] at hb
  rcases hb with rfl | rfl <;> (unfold bi; omega)
theorem crF_end (l : List Int) : crF 65535#16 (l ++ sumB (crF 65535#16 l)) = 0#16 := by
  obtain ⟨v, ev⟩ : ∃ v, v = crF 65535#16 l := ⟨_, rfl⟩
  rw [← ev]
  have e : crF 65535#16 (l ++ sumB v) = crB (crB v (v >>> 8)) (v &&& 255#16) := by
    have h1 : ∀ w : BitVec 16, bByte (bi w) = w := fun w => by unfold bByte bi; rw [Int.toNat_natCast]; exact BitVec.eq_of_toNat_eq (by rw [BitVec.toNat_ofNat]; have := w.isLt; omega)
    rw [ev]
    unfold crF crL sumB
    rw [List.map_append, List.foldl_append]
    simp only [List.map_cons, List.map_nil, List.foldl_cons, List.foldl_nil, h1]
  rw [e]; exact crB_end v
set_option maxHeartbeats 1000000 in
theorem e_seal (l : List Int) (hl : BytesOk l) (h47 : l.length ≤ 1000000) (rs qs : List (List AV)) (hrs : rs = l.map bRow) (hqs : qs = (l ++ sumB (crF 65535#16 l)).map bRow) : PCalls Try.prog 49 [.list 1 rs] (· = .list 1 qs) := by
  have hu : Up0 rs := by rw [hrs]; exact up_b l
  have hrl : rs.length = l.length := by rw [hrs]; simp
  obtain ⟨y, ey⟩ : ∃ y, y = bi (crF 65535#16 l) := ⟨_, rfl⟩
  (refine PCalls.ofY Try.func49 (by kernel_rfl) (by kernel_rfl) fun w hw R hR => ?_); (obtain ⟨wbin, wcmp, wun, wconv, wnot, wbeq, wmm, wscmp, wsadd, wslen, wsat, weqs, wlen, wnlen, wofNat, wtake, wdrop, wapp, wzero, wnat⟩ := w); (have hbin : wbin = binStd := congrArg Prims.bin hw); (have hcmp : wcmp = cmpStd := congrArg Prims.cmp hw); (have hun : wun = unStd := congrArg Prims.un hw); (have hconv : wconv = fun k n => k.wrap n := congrArg Prims.conv hw); (have hnot : wnot = fun b => !b := congrArg Prims.not hw); (have hbeq : wbeq = fun a b => a == b := congrArg Prims.beq hw); (have hmm : wmm = maxI := congrArg Prims.mm hw); (have hscmp : wscmp = scmpStd := congrArg Prims.scmp hw); (have hsadd : wsadd = fun x y => x ++ y := congrArg Prims.sadd hw); (have hslen : wslen = fun s => (s.size : Int) := congrArg Prims.slen hw); (have hsat : wsat = std.sat := congrArg Prims.sat hw); (have heqs : weqs = fun a b os => (eqOffs a b os).getD false := congrArg Prims.eqs hw); (have hlen : wlen = fun es => (es.length : Int) := congrArg Prims.len hw); (have hnlen : wnlen = fun es => es.length := congrArg Prims.nlen hw); (have hofNat : wofNat = (fun n : Nat => (n : Int)) := congrArg Prims.ofNat hw); (have htake : wtake = fun es b => es.take b.toNat := congrArg Prims.take hw); (have hdrop : wdrop = fun es a => es.drop a.toNat := congrArg Prims.drop hw); (have happ : wapp = fun a b => a ++ b := congrArg Prims.app hw); (have hzero : wzero = fun n z => List.replicate n.toNat z := congrArg Prims.zero hw); (have hnat : wnat = fun n => n.toNat := congrArg Prims.nat hw); (conv => arg 2; cbv); (generalize hP : Try.prog = P); cbv
  refine Call.stepE (by rw [← hP]; exact e_sum l hl (by omega) y rs hrs ey) (by exact Up0.one hu rfl) ?_
  cbv
  (obtain ⟨L, eL, L0, Ln⟩ : ∃ L : Int, wlen rs = L ∧ 0 ≤ L ∧ L.toNat = rs.length := ⟨(rs.length : Int), by rw [hlen], Int.natCast_nonneg _, Int.toNat_natCast _⟩)
  simp only [eL]
  obtain ⟨c, ec⟩ : ∃ c, wbin .add .i64 L 2 = c := ⟨_, rfl⟩
  have hc : c = L + 2 := by rw [← ec, hbin, i_add (by omega) (by omega)]
  simp only [ec]
  obtain ⟨zs, ezs⟩ : ∃ zs, zs = List.replicate L.toNat [AV.int .u8 0] := ⟨_, rfl⟩
  obtain ⟨n, en⟩ : ∃ n, n = L.toNat := ⟨_, rfl⟩
  have hzl : zs.length = n := by rw [ezs, en]; simp
  refine Mk.mk zs n L0 (by omega) (by omega) (by omega) en (by rw [ezs, en]) ?_
  cbv
  have hok : rowsOk rs = true := by rw [hrs]; exact rowsOk_b l
  refine Xo.copy rfl rfl rfl (u := 25) (t := 25) (e0 := 5) (by rw [← hP]; rfl) (by rw [← hP]; rfl) (by decide) rfl (by omega) hok rs (by rw [List.take_zero, List.nil_append, List.take_of_length_le (by omega), List.drop_of_length_le (by omega), List.append_nil]) n (by omega) ?_
  cbv
  refine Nn.mk (by decide) ?_
  obtain ⟨v, ev⟩ : ∃ v, v = crF 65535#16 l := ⟨_, rfl⟩
  rw [← ev] at ey hqs
  obtain ⟨b1, eb1⟩ : ∃ b, b = bi (v >>> 8) := ⟨_, rfl⟩
  obtain ⟨b2, eb2⟩ : ∃ b, b = bi (v &&& 255#16) := ⟨_, rfl⟩
  have x1 : wconv .u8 (wbin .shr .u16 y 8) = b1 := by
    rw [hconv, hbin, ey, eb1]
    show IntKind.u8.wrap ((bi v).fdiv (2 ^ (min (8 : Int).toNat 16))) = _
    rw [IntKind.wrap_u8, Int.fdiv_eq_ediv_of_nonneg _ (by decide)]
    unfold bi
    rw [BitVec.toNat_ushiftRight, Nat.shiftRight_eq_div_pow]
    have := v.isLt
    show ((v.toNat : Int) / 256) % 256 = _
    omega
  have x2 : wconv .u8 y = b2 := by
    rw [hconv, ey, eb2]
    show IntKind.u8.wrap (bi v) = _
    rw [IntKind.wrap_u8]
    unfold bi
    rw [BitVec.toNat_and]
    show (v.toNat : Int) % 256 = ((v.toNat &&& 255 : Nat) : Int)
    rw [show (255 : Nat) = 2 ^ 8 - 1 from rfl, Nat.and_two_pow_sub_one_eq_mod]
    omega
  simp only [x1, x2]
  have eq2 : qs = rs ++ [[.int .u8 b1], [.int .u8 b2]] := by rw [hqs, hrs, List.map_append, eb1, eb2]; rfl
  have huq : Up0 qs := by rw [hqs]; exact up_b _
  obtain ⟨n2, en2⟩ : ∃ n2, n2 = n + 2 := ⟨_, rfl⟩
  refine AppL.mk qs n2 eq2 (by omega) en2 rfl (by omega) (by omega) ?_
  cbv
  exact ⟨_, Vw.sl (es := qs) rfl huq.get (by rw [eq2]; simp; omega), hR _ (by rw [List.drop_zero, List.take_of_length_le (by rw [eq2]; simp; omega)])⟩
end Go.Proofs.Ytekhigoblbkiaaa

/- Sums of bytes, by the engine: the document's. -/
set_option linter.unusedVariables false
set_option linter.unusedSimpArgs false
namespace Go.Proofs.Ytekhigoblbkiaaa
open Go Go.RowKit Go.Eng
set_option maxRecDepth 100000
theorem i_rem {a b : Int} (h0 : 0 ≤ a) : binStd .rem .i64 a b = a % b := by
  show a.tmod b = _
  rw [Int.tmod_eq_emod_of_nonneg h0]
set_option maxHeartbeats 1000000 in
theorem e_xor06 (v w : BitVec 16) (a b r : Int) (ea : a = bi v) (eb : b = bi w) (er : r = bi (v ^^^ w)) : PCalls Try.prog 85 [.int .i64 a, .int .i64 b] (· = .int .i64 r) := by
  (refine PCalls.ofY Try.func85 (by kernel_rfl) (by kernel_rfl) fun w hw R hR => ?_); (obtain ⟨wbin, wcmp, wun, wconv, wnot, wbeq, wmm, wscmp, wsadd, wslen, wsat, weqs, wlen, wnlen, wofNat, wtake, wdrop, wapp, wzero, wnat⟩ := w); (have hbin : wbin = binStd := congrArg Prims.bin hw); (have hcmp : wcmp = cmpStd := congrArg Prims.cmp hw); (have hun : wun = unStd := congrArg Prims.un hw); (have hconv : wconv = fun k n => k.wrap n := congrArg Prims.conv hw); (have hnot : wnot = fun b => !b := congrArg Prims.not hw); (have hbeq : wbeq = fun a b => a == b := congrArg Prims.beq hw); (have hmm : wmm = maxI := congrArg Prims.mm hw); (have hscmp : wscmp = scmpStd := congrArg Prims.scmp hw); (have hsadd : wsadd = fun x y => x ++ y := congrArg Prims.sadd hw); (have hslen : wslen = fun s => (s.size : Int) := congrArg Prims.slen hw); (have hsat : wsat = std.sat := congrArg Prims.sat hw); (have heqs : weqs = fun a b os => (eqOffs a b os).getD false := congrArg Prims.eqs hw); (have hlen : wlen = fun es => (es.length : Int) := congrArg Prims.len hw); (have hnlen : wnlen = fun es => es.length := congrArg Prims.nlen hw); (have hofNat : wofNat = (fun n : Nat => (n : Int)) := congrArg Prims.ofNat hw); (have htake : wtake = fun es b => es.take b.toNat := congrArg Prims.take hw); (have hdrop : wdrop = fun es a => es.drop a.toNat := congrArg Prims.drop hw); (have happ : wapp = fun a b => a ++ b := congrArg Prims.app hw); (have hzero : wzero = fun n z => List.replicate n.toNat z := congrArg Prims.zero hw); (have hnat : wnat = fun n => n.toNat := congrArg Prims.nat hw); (conv => arg 2; cbv); (generalize hP : Try.prog = P); cbv
  refine Loop.data hw (S := Int × Int × Int) (fun s => fr 27 [(0, .int .i64 a), (1, .int .i64 b), (5, .int .i64 s.2.2), (6, .int .i64 s.2.1), (7, .int .i64 s.1)]) (fun _ => [])
    (fun s => 0 ≤ s.1 ∧ s.1 ≤ 16 ∧ 0 ≤ s.2.1 ∧ s.2.1.toNat = 2 ^ s.1.toNat ∧ 0 ≤ s.2.2 ∧ s.2.2.toNat = (v ^^^ w).toNat % 2 ^ s.1.toNat) (fun s => (16 - s.1).toNat) (0, 1, 0) (by (refine Wk.eqz (id) (by first | exact fun i _ j _ e => e | (simp only [List.length_cons, List.length_nil]; decide)) ?_; cbv; (repeat' (first | exact trivial | rfl | assumption | apply And.intro | (simp only [hbin, hcmp, hun, hconv, hnot, hbeq, hmm, hscmp, hsadd, hslen, hsat, heqs, hofNat, binStd, cmpStd, unStd, scmpStd, maxI, Bool.not_eq_true', Bool.not_eq_false', decide_eq_true_eq, decide_eq_false_iff_not, Int.not_lt, Int.not_le, if_true, if_false, Bool.false_eq_true, beq_iff_eq, bne_iff_ne, ne_eq, Bool.not_eq_eq_eq_not, Bool.not_true, Bool.not_false, beq_eq_false_iff_ne, bne_eq_false_iff_eq, Int.ofNat_eq_natCast, Bool.not_not, not_true_eq_false, not_false_eq_true, reduceCtorEq]; first | done | assumption) | exact RowsZ.same (by assumption) (by first | assumption | rfl) | exact FzL.mk rfl rfl rfl (by assumption) (by first | assumption | rfl) (by decide) | (refine RowsZ.one ?_; cbv))))) ⟨Int.le_refl _, (show (0 : Int) ≤ 16 by decide), (show (0 : Int) ≤ 1 by decide), rfl, Int.le_refl _, by simp [Nat.mod_one]⟩ ?_
  rintro ⟨i, p, o⟩ hinv Q' hN hE hR'
  have hinv : 0 ≤ i ∧ i ≤ 16 ∧ 0 ≤ p ∧ p.toNat = 2 ^ i.toNat ∧ 0 ≤ o ∧ o.toNat = (v ^^^ w).toNat % 2 ^ i.toNat := hinv
  cbv
  obtain ⟨hi0, hi1, hp0, hpt, ho0, hot⟩ := hinv
  obtain ⟨k, ek⟩ : ∃ k, k = i.toNat := ⟨_, rfl⟩
  rw [← ek] at hpt hot
  obtain ⟨pn, epn⟩ : ∃ q : Nat, q = 2 ^ k := ⟨_, rfl⟩
  have hpn : 0 < pn ∧ pn ≤ 65536 := by rw [epn]; exact ⟨Nat.two_pow_pos _, Nat.pow_le_pow_right (by decide) (show k ≤ 16 by omega)⟩
  rw [← epn] at hpt
  obtain ⟨on, eon⟩ : ∃ q : Nat, q = (v ^^^ w).toNat % 2 ^ k := ⟨_, rfl⟩
  rw [← eon] at hot
  have hvl := v.isLt
  have hwl := w.isLt
  have ha0 : 0 ≤ a ∧ a < 65536 := by rw [ea]; exact bi_b v
  have hb0 : 0 ≤ b ∧ b < 65536 := by rw [eb]; exact bi_b w
  (split <;> rename_i hc <;> (try (simp only [hbin, hcmp, hun, hconv, hnot, hbeq, hmm, hscmp, hsadd, hslen, hsat, heqs, hofNat, binStd, cmpStd, unStd, scmpStd, maxI, Bool.not_eq_true', Bool.not_eq_false', decide_eq_true_eq, decide_eq_false_iff_not, Int.not_lt, Int.not_le, if_true, if_false, Bool.false_eq_true, beq_iff_eq, bne_iff_ne, ne_eq, Bool.not_eq_eq_eq_not, Bool.not_true, Bool.not_false, beq_eq_false_iff_ne, bne_eq_false_iff_eq, Int.ofNat_eq_natCast, Bool.not_not, not_true_eq_false, not_false_eq_true, reduceCtorEq] at hc)) <;> (try cbv))
  · have hab : a = (v.toNat : Int) ∧ b = (w.toNat : Int) := ⟨ea, eb⟩
    have hp : p = (pn : Int) := by omega
    have ho : o = (on : Int) := by omega
    obtain ⟨i2, ei2⟩ : ∃ z, z = i + 1 := ⟨_, rfl⟩
    have a4 : wbin .add .i64 i 1 = i2 := by rw [hbin, i_add (by omega) (by omega), ei2]
    obtain ⟨p2, ep2⟩ : ∃ z, z = 2 * p := ⟨_, rfl⟩
    have a5 : wbin .mul .i64 2 p = p2 := by rw [hbin, i_mul (by omega) (by omega), ep2]
    have hT : (16 - i2).toNat < (16 - i).toNat := by omega
    have hk2 : i2.toNat = k + 1 := by omega
    have hp2 : p2.toNat = 2 ^ i2.toNat := by rw [hk2, Nat.pow_succ, ← epn]; omega
    have hol : o < 65536 := by
      have := Nat.mod_lt (v ^^^ w).toNat (Nat.two_pow_pos k)
      rw [← eon, ← epn] at this
      omega
    have q1 : wbin .quo .i64 a p = ((v.toNat / pn : Nat) : Int) := by rw [hbin, i_quo (by omega) (by omega) (by omega), hab.1, hp]; rfl
    have q2 : wbin .quo .i64 b p = ((w.toNat / pn : Nat) : Int) := by rw [hbin, i_quo (by omega) (by omega) (by omega), hab.2, hp]; rfl
    have q3 : wbin .rem .i64 ((v.toNat / pn : Nat) : Int) 2 = ((v.toNat / pn % 2 : Nat) : Int) := by rw [hbin, i_rem (Int.natCast_nonneg _)]; rfl
    have q4 : wbin .rem .i64 ((w.toNat / pn : Nat) : Int) 2 = ((w.toNat / pn % 2 : Nat) : Int) := by rw [hbin, i_rem (Int.natCast_nonneg _)]; rfl
    obtain ⟨t, et⟩ : ∃ t, t = (v ^^^ w).toNat.testBit k := ⟨_, rfl⟩
    have c1 : wcmp .neq (wbin .rem .i64 (wbin .quo .i64 a p) 2) (wbin .rem .i64 (wbin .quo .i64 b p) 2) = t := by
      rw [q1, q2, q3, q4, hcmp, et, BitVec.toNat_xor, Nat.testBit_xor, Nat.testBit_eq_decide_div_mod_eq, Nat.testBit_eq_decide_div_mod_eq, ← epn]
      show ((((v.toNat / pn % 2 : Nat) : Int)) != ((w.toNat / pn % 2 : Nat) : Int)) = _
      rcases Nat.mod_two_eq_zero_or_one (v.toNat / pn) with h1 | h1 <;> rcases Nat.mod_two_eq_zero_or_one (w.toNat / pn) with h2 | h2 <;> rw [h1, h2] <;> rfl
    have ho2 : ∀ o2, o2 = (if t then o + p else o) → 0 ≤ o2 ∧ o2.toNat = (v ^^^ w).toNat % 2 ^ i2.toNat := by
      intro o2 h
      rw [hk2, Nat.mod_pow_succ, ← eon, ← epn]
      have et2 : ((v ^^^ w).toNat / pn % 2) = if t then 1 else 0 := by
        rw [et, Nat.testBit_eq_decide_div_mod_eq, ← epn]
        rcases Nat.mod_two_eq_zero_or_one ((v ^^^ w).toNat / pn) with h1 | h1 <;> rw [h1] <;> rfl
      rw [et2]
      cases t
      · simp at h ⊢; omega
      · simp at h ⊢; omega
    have hpz : p ≠ 0 := by omega
    repeat' (first | refine Nz.mk hpz ?_ | refine Nz.mk (by decide) ?_)
    simp only [c1]
    cases t
    · cbv
      repeat' (first | refine Nz.mk hpz ?_ | refine Nz.mk (by decide) ?_)
      simp only [a4, a5]
      refine hN (i2, p2, o) _ _ ?hx ?hi hT
      case hx => (refine Wk.eqz (id) (by first | exact fun i _ j _ e => e | (simp only [List.length_cons, List.length_nil]; decide)) ?_; cbv; (repeat' (first | exact trivial | rfl | assumption | apply And.intro | (simp only [hbin, hcmp, hun, hconv, hnot, hbeq, hmm, hscmp, hsadd, hslen, hsat, heqs, hofNat, binStd, cmpStd, unStd, scmpStd, maxI, Bool.not_eq_true', Bool.not_eq_false', decide_eq_true_eq, decide_eq_false_iff_not, Int.not_lt, Int.not_le, if_true, if_false, Bool.false_eq_true, beq_iff_eq, bne_iff_ne, ne_eq, Bool.not_eq_eq_eq_not, Bool.not_true, Bool.not_false, beq_eq_false_iff_ne, bne_eq_false_iff_eq, Int.ofNat_eq_natCast, Bool.not_not, not_true_eq_false, not_false_eq_true, reduceCtorEq]; first | done | assumption) | exact RowsZ.same (by assumption) (by first | assumption | rfl) | exact FzL.mk rfl rfl rfl (by assumption) (by first | assumption | rfl) (by decide) | (refine RowsZ.one ?_; cbv))))
      case hi => exact ⟨by simp only; omega, by simp only; omega, by simp only; omega, hp2, (ho2 o rfl).1, (ho2 o rfl).2⟩
    · cbv
      obtain ⟨o2, eo2⟩ : ∃ z, z = o + p := ⟨_, rfl⟩
      have a6 : wbin .add .i64 o p = o2 := by rw [hbin, i_add (by omega) (by omega), eo2]
      simp only [a4, a5, a6]
      refine hN (i2, p2, o2) _ _ ?hx ?hi hT
      case hx => (refine Wk.eqz (id) (by first | exact fun i _ j _ e => e | (simp only [List.length_cons, List.length_nil]; decide)) ?_; cbv; (repeat' (first | exact trivial | rfl | assumption | apply And.intro | (simp only [hbin, hcmp, hun, hconv, hnot, hbeq, hmm, hscmp, hsadd, hslen, hsat, heqs, hofNat, binStd, cmpStd, unStd, scmpStd, maxI, Bool.not_eq_true', Bool.not_eq_false', decide_eq_true_eq, decide_eq_false_iff_not, Int.not_lt, Int.not_le, if_true, if_false, Bool.false_eq_true, beq_iff_eq, bne_iff_ne, ne_eq, Bool.not_eq_eq_eq_not, Bool.not_true, Bool.not_false, beq_eq_false_iff_ne, bne_eq_false_iff_eq, Int.ofNat_eq_natCast, Bool.not_not, not_true_eq_false, not_false_eq_true, reduceCtorEq]; first | done | assumption) | exact RowsZ.same (by assumption) (by first | assumption | rfl) | exact FzL.mk rfl rfl rfl (by assumption) (by first | assumption | rfl) (by decide) | (refine RowsZ.one ?_; cbv))))
      case hi => exact ⟨by simp only; omega, by simp only; omega, by simp only; omega, hp2, (ho2 o2 (by rw [eo2]; rfl)).1, (ho2 o2 (by rw [eo2]; rfl)).2⟩
  · refine hE _ _ _ ?_
    cbv
    have e16 : k = 16 := by omega
    refine ⟨_, Vw.same rfl, hR _ ?_⟩
    rw [e16, Nat.mod_eq_of_lt (v ^^^ w).isLt] at eon
    have : o = r := by rw [er]; unfold bi; omega
    rw [this]; rfl
/-- The division's digits. -/
def dig (l : List Int) (i : Nat) : Bool := (if i < 8 * l.length then (bByte (l.getD (i / 8) 0)).getLsbD (7 - i % 8) else false) ^^ decide (i < 16)
theorem bitsL_get : ∀ (l : List (BitVec 16)) (i : Nat), i < 8 * l.length → (bitsL l)[i]? = some ((l.getD (i / 8) 0).getLsbD (7 - i % 8))
  | [], i, h => absurd h (by simp)
  | b :: l, i, h => by
    unfold bitsL
    rw [List.flatMap_cons]
    by_cases hi : i < 8
    · rw [List.getElem?_append_left (by simp [bitsB]; exact hi), Nat.div_eq_of_lt hi, Nat.mod_eq_of_lt hi]
      simp [bitsB, hi]
    · rw [List.getElem?_append_right (by simp [bitsB]; omega)]
      have e : (bitsB b).length = 8 := by simp [bitsB]
      rw [e]
      have ih := bitsL_get l (i - 8) (by simp at h; omega)
      unfold bitsL at ih
      rw [ih]
      have h1 : i / 8 = (i - 8) / 8 + 1 := by omega
      have h2 : (i - 8) % 8 = i % 8 := by omega
      rw [h1, h2]; rfl
theorem dig_main (l : List Int) (hl : BytesOk l) : crIs 0#16 ((List.range (8 * l.length + 16)).map (dig l)) = crF 65535#16 l := by
  have h := cr_main (l.map bByte) (fun b hb => by
    obtain ⟨x, hx, rfl⟩ := List.mem_map.1 hb
    exact (bi_byte (hl x hx)).2)
  unfold crF
  rw [← h]
  congr 1
  apply List.ext_getElem?
  intro i
  rw [List.getElem?_map, List.getElem?_zipWith]
  by_cases hi : i < 8 * l.length + 16
  · rw [List.getElem?_range hi]
    have e2 : (List.replicate 16 true ++ List.replicate (8 * (l.map bByte).length) false)[i]? = some (decide (i < 16)) := by
      by_cases h16 : i < 16
      · rw [List.getElem?_append_left (by simpa using h16), List.getElem?_replicate, if_pos h16]; simp [h16]
      · rw [List.getElem?_append_right (by simp; omega), List.getElem?_replicate, if_pos (by simp; omega)]; simp [h16]
    have e1 : (bitsL (l.map bByte) ++ List.replicate 16 false)[i]? = some (if i < 8 * l.length then (bByte (l.getD (i / 8) 0)).getLsbD (7 - i % 8) else false) := by
      by_cases h8 : i < 8 * l.length
      · rw [List.getElem?_append_left (by rw [bitsL_len]; simpa using h8), bitsL_get _ _ (by simpa using h8), if_pos h8]
        have : (l.map bByte).getD (i / 8) 0 = bByte (l.getD (i / 8) 0) := by
          have hd : i / 8 < l.length := by omega
          simp [List.getD_eq_getElem?_getD, hd]
        rw [this]
      · rw [List.getElem?_append_right (by rw [bitsL_len]; simp; omega), List.getElem?_replicate, if_pos (by rw [bitsL_len]; simp; omega), if_neg h8]
    rw [e1, e2]; rfl
  · rw [List.getElem?_eq_none (by simp; omega)]
    have : (bitsL (l.map bByte) ++ List.replicate 16 false)[i]? = none := List.getElem?_eq_none (by rw [List.length_append, bitsL_len, List.length_replicate, List.length_map]; omega)
    rw [this]; rfl
theorem shl_bit (x : BitVec 16) (t : Bool) : ((x <<< 1) ^^^ (if t then 1#16 else 0#16)).toNat = (2 * x.toNat) % 65536 + (if t then 1 else 0) := by
  have h0 : (x <<< 1).toNat = (2 * x.toNat) % 65536 := by rw [BitVec.toNat_shiftLeft, Nat.shiftLeft_eq]; omega
  cases t
  · simp [h0]
  · have h1 : (x <<< 1) ^^^ 1#16 = (x <<< 1) ||| 1#16 := by
      apply BitVec.eq_of_getLsbD_eq
      intro i hi
      rw [BitVec.getLsbD_xor, BitVec.getLsbD_or, BitVec.getLsbD_shiftLeft]
      by_cases h : i = 0
      · subst h; simp
      · have : (1#16).getLsbD i = false := by rw [BitVec.getLsbD_one]; simp [h]
        rw [this]; simp
    have h2 : (x <<< 1) &&& 1#16 = 0#16 := by
      apply BitVec.eq_of_getLsbD_eq
      intro i hi
      rw [BitVec.getLsbD_and, BitVec.getLsbD_shiftLeft]
      by_cases h : i = 0
      · subst h; simp
      · have : (1#16).getLsbD i = false := by rw [BitVec.getLsbD_one]; simp [h]
        rw [this]; simp
    simp only [if_true]
    rw [h1, ← BitVec.add_eq_or_of_and_eq_zero _ _ h2, BitVec.toNat_add, h0]
    show (_ + 1) % 65536 = _
    omega
set_option maxHeartbeats 1000000 in
theorem e_sum06 (l : List Int) (hl : BytesOk l) (h47 : l.length ≤ 1000000000) (r : Int) (rs : List (List AV)) (hrs : rs = l.map bRow) (er : r = bi (crF 65535#16 l)) : PCalls Try.prog 53 [.list 1 rs] (· = .int .i64 r) := by
  have hu : Up0 rs := by rw [hrs]; exact up_b l
  have hrl : rs.length = l.length := by rw [hrs]; simp
  (refine PCalls.ofY Try.func53 (by kernel_rfl) (by kernel_rfl) fun w hw R hR => ?_); (obtain ⟨wbin, wcmp, wun, wconv, wnot, wbeq, wmm, wscmp, wsadd, wslen, wsat, weqs, wlen, wnlen, wofNat, wtake, wdrop, wapp, wzero, wnat⟩ := w); (have hbin : wbin = binStd := congrArg Prims.bin hw); (have hcmp : wcmp = cmpStd := congrArg Prims.cmp hw); (have hun : wun = unStd := congrArg Prims.un hw); (have hconv : wconv = fun k n => k.wrap n := congrArg Prims.conv hw); (have hnot : wnot = fun b => !b := congrArg Prims.not hw); (have hbeq : wbeq = fun a b => a == b := congrArg Prims.beq hw); (have hmm : wmm = maxI := congrArg Prims.mm hw); (have hscmp : wscmp = scmpStd := congrArg Prims.scmp hw); (have hsadd : wsadd = fun x y => x ++ y := congrArg Prims.sadd hw); (have hslen : wslen = fun s => (s.size : Int) := congrArg Prims.slen hw); (have hsat : wsat = std.sat := congrArg Prims.sat hw); (have heqs : weqs = fun a b os => (eqOffs a b os).getD false := congrArg Prims.eqs hw); (have hlen : wlen = fun es => (es.length : Int) := congrArg Prims.len hw); (have hnlen : wnlen = fun es => es.length := congrArg Prims.nlen hw); (have hofNat : wofNat = (fun n : Nat => (n : Int)) := congrArg Prims.ofNat hw); (have htake : wtake = fun es b => es.take b.toNat := congrArg Prims.take hw); (have hdrop : wdrop = fun es a => es.drop a.toNat := congrArg Prims.drop hw); (have happ : wapp = fun a b => a ++ b := congrArg Prims.app hw); (have hzero : wzero = fun n z => List.replicate n.toNat z := congrArg Prims.zero hw); (have hnat : wnat = fun n => n.toNat := congrArg Prims.nat hw); (conv => arg 2; cbv); (generalize hP : Try.prog = P); cbv
  (obtain ⟨L, eL, L0, Ln⟩ : ∃ L : Int, wlen rs = L ∧ 0 ≤ L ∧ L.toNat = rs.length := ⟨(rs.length : Int), by rw [hlen], Int.natCast_nonneg _, Int.toNat_natCast _⟩)
  simp only [eL]
  obtain ⟨m, em⟩ : ∃ z, z = 8 * L := ⟨_, rfl⟩
  obtain ⟨n, en⟩ : ∃ z, z = m + 16 := ⟨_, rfl⟩
  have d1 : wbin .mul .i64 8 L = m := by rw [hbin, i_mul (by omega) (by omega), em]
  have d2 : wbin .add .i64 m 16 = n := by rw [hbin, i_add (by omega) (by omega), en]
  simp only [d1, d2]
  refine Loop.data hw (S := Int × BitVec 16 × Int) (fun s => fr 48 [(0, .list 1 rs), (3, .int .i64 n), (4, .int .i64 s.2.2), (5, .int .i64 s.1)]) (fun _ => [])
    (fun s => 0 ≤ s.1 ∧ s.1 ≤ n ∧ s.2.1 = crIs 0#16 ((List.range s.1.toNat).map (dig l)) ∧ s.2.2 = bi s.2.1) (fun s => (n - s.1).toNat) (0, 0#16, 0) (by (refine Wk.eqz (id) (by first | exact fun i _ j _ e => e | (simp only [List.length_cons, List.length_nil]; decide)) ?_; cbv; (repeat' (first | exact trivial | rfl | assumption | apply And.intro | (simp only [hbin, hcmp, hun, hconv, hnot, hbeq, hmm, hscmp, hsadd, hslen, hsat, heqs, hofNat, binStd, cmpStd, unStd, scmpStd, maxI, Bool.not_eq_true', Bool.not_eq_false', decide_eq_true_eq, decide_eq_false_iff_not, Int.not_lt, Int.not_le, if_true, if_false, Bool.false_eq_true, beq_iff_eq, bne_iff_ne, ne_eq, Bool.not_eq_eq_eq_not, Bool.not_true, Bool.not_false, beq_eq_false_iff_ne, bne_eq_false_iff_eq, Int.ofNat_eq_natCast, Bool.not_not, not_true_eq_false, not_false_eq_true, reduceCtorEq]; first | done | assumption) | exact RowsZ.same (by assumption) (by first | assumption | rfl) | exact FzL.mk rfl rfl rfl (by assumption) (by first | assumption | rfl) (by decide) | (refine RowsZ.one ?_; cbv))))) ⟨Int.le_refl _, by simp only; omega, rfl, rfl⟩ ?_
  rintro ⟨i, x, y⟩ hinv Q' hN hE hR'
  have hinv : 0 ≤ i ∧ i ≤ n ∧ x = crIs 0#16 ((List.range i.toNat).map (dig l)) ∧ y = bi x := hinv
  cbv
  obtain ⟨hi0, hi1, hx, hy⟩ := hinv
  have hyb := bi_b x
  rw [← hy] at hyb
  (split <;> rename_i hc <;> (try (simp only [hbin, hcmp, hun, hconv, hnot, hbeq, hmm, hscmp, hsadd, hslen, hsat, heqs, hofNat, binStd, cmpStd, unStd, scmpStd, maxI, Bool.not_eq_true', Bool.not_eq_false', decide_eq_true_eq, decide_eq_false_iff_not, Int.not_lt, Int.not_le, if_true, if_false, Bool.false_eq_true, beq_iff_eq, bne_iff_ne, ne_eq, Bool.not_eq_eq_eq_not, Bool.not_true, Bool.not_false, beq_eq_false_iff_ne, bne_eq_false_iff_eq, Int.ofNat_eq_natCast, Bool.not_not, not_true_eq_false, not_false_eq_true, reduceCtorEq] at hc)) <;> (try cbv))
  · obtain ⟨i2, ei2⟩ : ∃ z, z = i + 1 := ⟨_, rfl⟩
    have a4 : wbin .add .i64 i 1 = i2 := by rw [hbin, i_add (by omega) (by omega), ei2]
    have hT : (n - i2).toNat < (n - i).toNat := by omega
    obtain ⟨t, et⟩ : ∃ t, t = dig l i.toNat := ⟨_, rfl⟩
    obtain ⟨x2, ex2⟩ : ∃ z, z = crI x t := ⟨_, rfl⟩
    obtain ⟨y2, ey2⟩ : ∃ z, z = bi x2 := ⟨_, rfl⟩
    have hx2 : x2 = crIs 0#16 ((List.range i2.toNat).map (dig l)) := by
      rw [show i2.toNat = i.toNat + 1 by omega, List.range_succ, List.map_append, crIs_app, ← hx, ex2, et]; rfl
    obtain ⟨tn, etn⟩ : ∃ z : Int, z = if t then 1 else 0 := ⟨_, rfl⟩
    have htn : 0 ≤ tn ∧ tn ≤ 1 := by rw [etn]; cases t <;> decide
    obtain ⟨z, ez⟩ : ∃ z, z = 2 * y + tn := ⟨_, rfl⟩
    have m1 : wbin .mul .i64 2 y = 2 * y := by rw [hbin, i_mul (by omega) (by omega)]
    have m2 : wbin .add .i64 (2 * y) tn = z := by rw [hbin, i_add (by omega) (by omega), ez]
    obtain ⟨x1, ex1⟩ : ∃ q, q = (x <<< 1) ^^^ (if t then 1#16 else 0#16) := ⟨_, rfl⟩
    have hsh := shl_bit x t
    rw [← ex1] at hsh
    have hyx : y = (x.toNat : Int) := hy
    have hx1 : bi x1 = (2 * y) % 65536 + tn := by
      unfold bi; rw [hsh, etn, hyx]; cases t <;> (simp; try omega)
    -- behind the digit: the step
    have big : 65536 ≤ z → x2 = x1 ^^^ 4129#16 ∧ z - 65536 = bi x1 := fun h => by
      have hm : x.msb = true := by rw [BitVec.msb_eq_decide]; simp; omega
      refine ⟨?_, by rw [hx1]; omega⟩
      rw [ex2, ex1]; unfold crI crS; rw [hm, if_pos rfl]; ac_rfl
    have small : z < 65536 → x2 = x1 ∧ z = bi x1 := fun h => by
      have hm : x.msb = false := by rw [BitVec.msb_eq_decide]; simp; omega
      refine ⟨?_, by rw [hx1]; omega⟩
      rw [ex2, ex1]; unfold crI crS; rw [hm]; simp
    have nx : ∀ (Y : Int), Y = y2 → Q' .normal = Q' .normal := fun _ _ => rfl
    -- the digit as the program has it
    have dn : ¬ i < m → (dig l i.toNat = decide (i.toNat < 16)) := fun h => by
      unfold dig; rw [if_neg (by omega)]; simp
    have dy : i < m → dig l i.toNat = ((bByte (l.getD (i.toNat / 8) 0)).getLsbD (7 - i.toNat % 8) ^^ decide (i.toNat < 16)) := fun h => by
      unfold dig; rw [if_pos (by omega)]
    obtain ⟨u, eu⟩ : ∃ u : Bool, u = if i < m then (bByte (l.getD (i.toNat / 8) 0)).getLsbD (7 - i.toNat % 8) else false := ⟨_, rfl⟩
    obtain ⟨un, eun⟩ : ∃ z : Int, z = if u then 1 else 0 := ⟨_, rfl⟩
    have htu : t = (u ^^ decide (i < 16)) := by
      rw [et, eu]
      by_cases h : i < m
      · rw [dy h, if_pos h]; congr 1; rw [decide_eq_decide]; omega
      · rw [dn h, if_neg h]; simp
    have h1u : wbin .sub .i64 1 un = 1 - un := by rw [hbin, i_sub (by rw [eun]; cases u <;> decide) (by rw [eun]; cases u <;> decide)]
    have tn1 : i < 16 → 1 - un = tn := fun h => by rw [etn, eun, htu]; cases u <;> simp [h]
    have tn2 : ¬ i < 16 → un = tn := fun h => by rw [etn, eun, htu]; cases u <;> simp [h]
    have go : ∀ (b : Bool), (i < 16 ↔ b = true) → ∀ dv : Int, dv = un → (if b then wbin .sub .i64 1 dv else dv) = tn := fun b hb dv hd => by
      subst hd
      cases b
      · exact tn2 fun h => by have := hb.1 h; cases this
      · rw [if_pos rfl, h1u]; exact tn1 (hb.2 rfl)
    have c16 : ∃ b, wcmp .lss i 16 = b ∧ (i < 16 ↔ b = true) := ⟨_, rfl, by rw [hcmp]; simp [cmpStd]⟩
    obtain ⟨b16, e16, hb16⟩ := c16
    have go1 := fun h : b16 = true => go b16 hb16 un rfl
    have cz : ∃ b, wcmp .geq z 65536 = b ∧ (65536 ≤ z ↔ b = true) := ⟨_, rfl, by rw [hcmp]; simp [cmpStd]⟩
    obtain ⟨bz, ecz, hbz⟩ := cz
    obtain ⟨z2, ez2⟩ : ∃ z2, z2 = z - 65536 := ⟨_, rfl⟩
    have m3 : wbin .sub .i64 z 65536 = z2 := by rw [hbin, i_sub (by omega) (by omega), ez2]
    simp only [eL, d1]
    by_cases h8 : i < m
    · have c8 : wcmp .lss i m = true := by rw [hcmp]; simp [cmpStd]; exact h8
      simp only [c8]
      cbv
      obtain ⟨iq, eiq⟩ : ∃ z, z = i / 8 := ⟨_, rfl⟩
      obtain ⟨ir, eir⟩ : ∃ z, z = i % 8 := ⟨_, rfl⟩
      obtain ⟨is, eis⟩ : ∃ z, z = 7 - ir := ⟨_, rfl⟩
      have q1 : wbin .quo .i64 i 8 = iq := by rw [hbin, i_quo (by omega) (by omega) (by omega), eiq]
      have q2 : wbin .rem .i64 i 8 = ir := by rw [hbin, i_rem (by omega), eir]
      have q3 : wbin .sub .i64 7 ir = is := by rw [hbin, i_sub (by omega) (by omega), eis]
      have q4 : wconv .u64 is = is := by rw [hconv]; show IntKind.u64.wrap is = is; rw [IntKind.wrap_u64]; omega
      obtain ⟨bb, hbb⟩ : ∃ bb, l[iq.toNat]? = some bb := ⟨_, List.getElem?_eq_getElem (show iq.toNat < l.length by omega)⟩
      have hbr : rs[iq.toNat]? = some [.int .u8 bb] := by rw [hrs, List.getElem?_map, hbb]; rfl
      have hbk := hl bb (List.mem_of_getElem? hbb)
      have q5 : wbin .rem .i64 (wconv .i64 (wbin .shr .u8 bb is)) 2 = un := by
        have e1 : l.getD (i.toNat / 8) 0 = bb := by rw [show i.toNat / 8 = iq.toNat by omega, List.getD_eq_getElem?_getD, hbb]; rfl
        have e2 : wbin .shr .u8 bb is = ((bb.toNat / 2 ^ is.toNat : Nat) : Int) := by
          rw [hbin]
          show bb.fdiv (2 ^ (min is.toNat 8)) = _
          rw [Nat.min_eq_left (by omega), Int.fdiv_eq_ediv_of_nonneg _ (by exact Int.le_of_lt (Int.pow_pos (by decide)))]
          rw [Int.natCast_ediv, Int.toNat_of_nonneg hbk.1, Int.natCast_pow]; rfl
        have e3 : bb.toNat / 2 ^ is.toNat ≤ 255 := Nat.le_trans (Nat.div_le_self _ _) (by omega)
        have e4 : wconv .i64 ((bb.toNat / 2 ^ is.toNat : Nat) : Int) = ((bb.toNat / 2 ^ is.toNat : Nat) : Int) := by
          obtain ⟨q, eq⟩ : ∃ q : Nat, q = bb.toNat / 2 ^ is.toNat := ⟨_, rfl⟩
          rw [← eq] at e3 ⊢
          rw [hconv]; show IntKind.i64.wrap _ = _; rw [IntKind.wrap_i64]; omega
        rw [e2, e4, hbin, i_rem (Int.natCast_nonneg _), eun, eu, if_pos h8, e1]
        have e5 : (bByte bb).getLsbD (7 - i.toNat % 8) = decide (bb.toNat / 2 ^ is.toNat % 2 = 1) := by
          rw [show 7 - i.toNat % 8 = is.toNat by omega]
          unfold bByte
          rw [BitVec.getLsbD, BitVec.toNat_ofNat, Nat.mod_eq_of_lt (by omega), Nat.testBit_eq_decide_div_mod_eq]
        rw [e5]
        obtain ⟨q, eq⟩ : ∃ q : Nat, q = bb.toNat / 2 ^ is.toNat := ⟨_, rfl⟩
        rw [← eq]
        rcases Nat.mod_two_eq_zero_or_one q with h1 | h1
        · rw [h1]; simp; omega
        · rw [h1]; simp; omega
      repeat' (first
        | (refine Nz.mk (by decide) ?_)
        | (refine Nn.mk (by omega) ?_)
        | (refine Idx.mk _ (by omega) hbr ?_; cbv)
        | (simp only [q1])
        | (simp only [q2, q3, q4]))
      simp only [q5, e16]
      cases b16
      · have hun : un = tn := go false hb16 un rfl
        rw [hun]
        cbv
        simp only [m1, m2, ecz]
        cases bz
        · have hs := small (by rcases Int.lt_or_le z 65536 with h | h; exact h; exact absurd (hbz.1 h) (by decide))
          have hz2 : z = y2 := by rw [ey2, hs.1]; exact hs.2
          cbv
          simp only [a4]
          refine hN (i2, x2, y2) _ _ ?hx ?hi hT
          case hx => (refine Wk.eqz (id) (by first | exact fun i _ j _ e => e | (simp only [List.length_cons, List.length_nil]; decide)) ?_; cbv; (repeat' (first | exact trivial | rfl | assumption | apply And.intro | (simp only [hbin, hcmp, hun, hconv, hnot, hbeq, hmm, hscmp, hsadd, hslen, hsat, heqs, hofNat, binStd, cmpStd, unStd, scmpStd, maxI, Bool.not_eq_true', Bool.not_eq_false', decide_eq_true_eq, decide_eq_false_iff_not, Int.not_lt, Int.not_le, if_true, if_false, Bool.false_eq_true, beq_iff_eq, bne_iff_ne, ne_eq, Bool.not_eq_eq_eq_not, Bool.not_true, Bool.not_false, beq_eq_false_iff_ne, bne_eq_false_iff_eq, Int.ofNat_eq_natCast, Bool.not_not, not_true_eq_false, not_false_eq_true, reduceCtorEq]; first | done | assumption) | exact RowsZ.same (by assumption) (by first | assumption | rfl) | exact FzL.mk rfl rfl rfl (by assumption) (by first | assumption | rfl) (by decide) | (refine RowsZ.one ?_; cbv))))
          case hi => exact ⟨by simp only; omega, by simp only; omega, hx2, ey2⟩
        · have hs := big (hbz.2 rfl)
          cbv
          simp only [m3]
          refine Call.stepE (by rw [← hP]; exact e_xor06 x1 4129#16 z2 4129 y2 (by rw [ez2]; exact hs.2) rfl (by rw [ey2, hs.1])) rfl ?_
          cbv
          simp only [a4]
          refine hN (i2, x2, y2) _ _ ?hx ?hi hT
          case hx => (refine Wk.eqz (id) (by first | exact fun i _ j _ e => e | (simp only [List.length_cons, List.length_nil]; decide)) ?_; cbv; (repeat' (first | exact trivial | rfl | assumption | apply And.intro | (simp only [hbin, hcmp, hun, hconv, hnot, hbeq, hmm, hscmp, hsadd, hslen, hsat, heqs, hofNat, binStd, cmpStd, unStd, scmpStd, maxI, Bool.not_eq_true', Bool.not_eq_false', decide_eq_true_eq, decide_eq_false_iff_not, Int.not_lt, Int.not_le, if_true, if_false, Bool.false_eq_true, beq_iff_eq, bne_iff_ne, ne_eq, Bool.not_eq_eq_eq_not, Bool.not_true, Bool.not_false, beq_eq_false_iff_ne, bne_eq_false_iff_eq, Int.ofNat_eq_natCast, Bool.not_not, not_true_eq_false, not_false_eq_true, reduceCtorEq]; first | done | assumption) | exact RowsZ.same (by assumption) (by first | assumption | rfl) | exact FzL.mk rfl rfl rfl (by assumption) (by first | assumption | rfl) (by decide) | (refine RowsZ.one ?_; cbv))))
          case hi => exact ⟨by simp only; omega, by simp only; omega, hx2, ey2⟩
      · have hun : wbin .sub .i64 1 un = tn := go true hb16 un rfl
        cbv
        simp only [hun]
        cbv
        simp only [m1, m2, ecz]
        cases bz
        · have hs := small (by rcases Int.lt_or_le z 65536 with h | h; exact h; exact absurd (hbz.1 h) (by decide))
          have hz2 : z = y2 := by rw [ey2, hs.1]; exact hs.2
          cbv
          simp only [a4]
          refine hN (i2, x2, y2) _ _ ?hx ?hi hT
          case hx => (refine Wk.eqz (id) (by first | exact fun i _ j _ e => e | (simp only [List.length_cons, List.length_nil]; decide)) ?_; cbv; (repeat' (first | exact trivial | rfl | assumption | apply And.intro | (simp only [hbin, hcmp, hun, hconv, hnot, hbeq, hmm, hscmp, hsadd, hslen, hsat, heqs, hofNat, binStd, cmpStd, unStd, scmpStd, maxI, Bool.not_eq_true', Bool.not_eq_false', decide_eq_true_eq, decide_eq_false_iff_not, Int.not_lt, Int.not_le, if_true, if_false, Bool.false_eq_true, beq_iff_eq, bne_iff_ne, ne_eq, Bool.not_eq_eq_eq_not, Bool.not_true, Bool.not_false, beq_eq_false_iff_ne, bne_eq_false_iff_eq, Int.ofNat_eq_natCast, Bool.not_not, not_true_eq_false, not_false_eq_true, reduceCtorEq]; first | done | assumption) | exact RowsZ.same (by assumption) (by first | assumption | rfl) | exact FzL.mk rfl rfl rfl (by assumption) (by first | assumption | rfl) (by decide) | (refine RowsZ.one ?_; cbv))))
          case hi => exact ⟨by simp only; omega, by simp only; omega, hx2, ey2⟩
        · have hs := big (hbz.2 rfl)
          cbv
          simp only [m3]
          refine Call.stepE (by rw [← hP]; exact e_xor06 x1 4129#16 z2 4129 y2 (by rw [ez2]; exact hs.2) rfl (by rw [ey2, hs.1])) rfl ?_
          cbv
          simp only [a4]
          refine hN (i2, x2, y2) _ _ ?hx ?hi hT
          case hx => (refine Wk.eqz (id) (by first | exact fun i _ j _ e => e | (simp only [List.length_cons, List.length_nil]; decide)) ?_; cbv; (repeat' (first | exact trivial | rfl | assumption | apply And.intro | (simp only [hbin, hcmp, hun, hconv, hnot, hbeq, hmm, hscmp, hsadd, hslen, hsat, heqs, hofNat, binStd, cmpStd, unStd, scmpStd, maxI, Bool.not_eq_true', Bool.not_eq_false', decide_eq_true_eq, decide_eq_false_iff_not, Int.not_lt, Int.not_le, if_true, if_false, Bool.false_eq_true, beq_iff_eq, bne_iff_ne, ne_eq, Bool.not_eq_eq_eq_not, Bool.not_true, Bool.not_false, beq_eq_false_iff_ne, bne_eq_false_iff_eq, Int.ofNat_eq_natCast, Bool.not_not, not_true_eq_false, not_false_eq_true, reduceCtorEq]; first | done | assumption) | exact RowsZ.same (by assumption) (by first | assumption | rfl) | exact FzL.mk rfl rfl rfl (by assumption) (by first | assumption | rfl) (by decide) | (refine RowsZ.one ?_; cbv))))
          case hi => exact ⟨by simp only; omega, by simp only; omega, hx2, ey2⟩
    · have c8 : wcmp .lss i m = false := by rw [hcmp]; simp [cmpStd]; omega
      have hu0 : un = 0 := by rw [eun, eu, if_neg h8]; rfl
      simp only [c8]
      cbv
      simp only [e16]
      cases b16
      · have hun : un = tn := go false hb16 un rfl
        have hun : 0 = tn := by rw [← hu0]; exact hun
        simp only [hun]
        cbv
        simp only [m1, m2, ecz]
        cases bz
        · have hs := small (by rcases Int.lt_or_le z 65536 with h | h; exact h; exact absurd (hbz.1 h) (by decide))
          have hz2 : z = y2 := by rw [ey2, hs.1]; exact hs.2
          cbv
          simp only [a4]
          refine hN (i2, x2, y2) _ _ ?hx ?hi hT
          case hx => (refine Wk.eqz (id) (by first | exact fun i _ j _ e => e | (simp only [List.length_cons, List.length_nil]; decide)) ?_; cbv; (repeat' (first | exact trivial | rfl | assumption | apply And.intro | (simp only [hbin, hcmp, hun, hconv, hnot, hbeq, hmm, hscmp, hsadd, hslen, hsat, heqs, hofNat, binStd, cmpStd, unStd, scmpStd, maxI, Bool.not_eq_true', Bool.not_eq_false', decide_eq_true_eq, decide_eq_false_iff_not, Int.not_lt, Int.not_le, if_true, if_false, Bool.false_eq_true, beq_iff_eq, bne_iff_ne, ne_eq, Bool.not_eq_eq_eq_not, Bool.not_true, Bool.not_false, beq_eq_false_iff_ne, bne_eq_false_iff_eq, Int.ofNat_eq_natCast, Bool.not_not, not_true_eq_false, not_false_eq_true, reduceCtorEq]; first | done | assumption) | exact RowsZ.same (by assumption) (by first | assumption | rfl) | exact FzL.mk rfl rfl rfl (by assumption) (by first | assumption | rfl) (by decide) | (refine RowsZ.one ?_; cbv))))
          case hi => exact ⟨by simp only; omega, by simp only; omega, hx2, ey2⟩
        · have hs := big (hbz.2 rfl)
          cbv
          simp only [m3]
          refine Call.stepE (by rw [← hP]; exact e_xor06 x1 4129#16 z2 4129 y2 (by rw [ez2]; exact hs.2) rfl (by rw [ey2, hs.1])) rfl ?_
          cbv
          simp only [a4]
          refine hN (i2, x2, y2) _ _ ?hx ?hi hT
          case hx => (refine Wk.eqz (id) (by first | exact fun i _ j _ e => e | (simp only [List.length_cons, List.length_nil]; decide)) ?_; cbv; (repeat' (first | exact trivial | rfl | assumption | apply And.intro | (simp only [hbin, hcmp, hun, hconv, hnot, hbeq, hmm, hscmp, hsadd, hslen, hsat, heqs, hofNat, binStd, cmpStd, unStd, scmpStd, maxI, Bool.not_eq_true', Bool.not_eq_false', decide_eq_true_eq, decide_eq_false_iff_not, Int.not_lt, Int.not_le, if_true, if_false, Bool.false_eq_true, beq_iff_eq, bne_iff_ne, ne_eq, Bool.not_eq_eq_eq_not, Bool.not_true, Bool.not_false, beq_eq_false_iff_ne, bne_eq_false_iff_eq, Int.ofNat_eq_natCast, Bool.not_not, not_true_eq_false, not_false_eq_true, reduceCtorEq]; first | done | assumption) | exact RowsZ.same (by assumption) (by first | assumption | rfl) | exact FzL.mk rfl rfl rfl (by assumption) (by first | assumption | rfl) (by decide) | (refine RowsZ.one ?_; cbv))))
          case hi => exact ⟨by simp only; omega, by simp only; omega, hx2, ey2⟩
      · have hun : wbin .sub .i64 1 0 = tn := by rw [← hu0]; exact go true hb16 un rfl
        cbv
        simp only [hun]
        cbv
        simp only [m1, m2, ecz]
        cases bz
        · have hs := small (by rcases Int.lt_or_le z 65536 with h | h; exact h; exact absurd (hbz.1 h) (by decide))
          have hz2 : z = y2 := by rw [ey2, hs.1]; exact hs.2
          cbv
          simp only [a4]
          refine hN (i2, x2, y2) _ _ ?hx ?hi hT
          case hx => (refine Wk.eqz (id) (by first | exact fun i _ j _ e => e | (simp only [List.length_cons, List.length_nil]; decide)) ?_; cbv; (repeat' (first | exact trivial | rfl | assumption | apply And.intro | (simp only [hbin, hcmp, hun, hconv, hnot, hbeq, hmm, hscmp, hsadd, hslen, hsat, heqs, hofNat, binStd, cmpStd, unStd, scmpStd, maxI, Bool.not_eq_true', Bool.not_eq_false', decide_eq_true_eq, decide_eq_false_iff_not, Int.not_lt, Int.not_le, if_true, if_false, Bool.false_eq_true, beq_iff_eq, bne_iff_ne, ne_eq, Bool.not_eq_eq_eq_not, Bool.not_true, Bool.not_false, beq_eq_false_iff_ne, bne_eq_false_iff_eq, Int.ofNat_eq_natCast, Bool.not_not, not_true_eq_false, not_false_eq_true, reduceCtorEq]; first | done | assumption) | exact RowsZ.same (by assumption) (by first | assumption | rfl) | exact FzL.mk rfl rfl rfl (by assumption) (by first | assumption | rfl) (by decide) | (refine RowsZ.one ?_; cbv))))
          case hi => exact ⟨by simp only; omega, by simp only; omega, hx2, ey2⟩
        · have hs := big (hbz.2 rfl)
          cbv
          simp only [m3]
          refine Call.stepE (by rw [← hP]; exact e_xor06 x1 4129#16 z2 4129 y2 (by rw [ez2]; exact hs.2) rfl (by rw [ey2, hs.1])) rfl ?_
          cbv
          simp only [a4]
          refine hN (i2, x2, y2) _ _ ?hx ?hi hT
          case hx => (refine Wk.eqz (id) (by first | exact fun i _ j _ e => e | (simp only [List.length_cons, List.length_nil]; decide)) ?_; cbv; (repeat' (first | exact trivial | rfl | assumption | apply And.intro | (simp only [hbin, hcmp, hun, hconv, hnot, hbeq, hmm, hscmp, hsadd, hslen, hsat, heqs, hofNat, binStd, cmpStd, unStd, scmpStd, maxI, Bool.not_eq_true', Bool.not_eq_false', decide_eq_true_eq, decide_eq_false_iff_not, Int.not_lt, Int.not_le, if_true, if_false, Bool.false_eq_true, beq_iff_eq, bne_iff_ne, ne_eq, Bool.not_eq_eq_eq_not, Bool.not_true, Bool.not_false, beq_eq_false_iff_ne, bne_eq_false_iff_eq, Int.ofNat_eq_natCast, Bool.not_not, not_true_eq_false, not_false_eq_true, reduceCtorEq]; first | done | assumption) | exact RowsZ.same (by assumption) (by first | assumption | rfl) | exact FzL.mk rfl rfl rfl (by assumption) (by first | assumption | rfl) (by decide) | (refine RowsZ.one ?_; cbv))))
          case hi => exact ⟨by simp only; omega, by simp only; omega, hx2, ey2⟩
  · refine hE _ _ _ ?_
    cbv
    refine ⟨_, Vw.same rfl, hR _ ?_⟩
    have e1 : i.toNat = 8 * l.length + 16 := by omega
    rw [hy, hx, er, e1, dig_main l hl]; rfl
end Go.Proofs.Ytekhigoblbkiaaa

/- Entries, by the engine: right, Pack. -/
set_option linter.unusedVariables false
set_option linter.unusedSimpArgs false
namespace Go.Proofs.Ytekhigoblbkiaaa
open Go Go.RowKit Go.Eng
set_option maxRecDepth 100000
def bsRow (b : List Int) : List AV := [.list 1 (b.map bRow)]
theorem up_bs (l : List (List Int)) : Up0 (l.map bsRow) := up_map (f := bsRow) (fun d => by simp only [bsRow, uptoL, AV.upto, (up_b d).get]; rfl) l
abbrev En := Bool × List (List Int)
def enRow (e : En) : List AV := [.bool e.1, .list 1 (e.2.map bsRow)]
theorem up_en (l : List En) : Up0 (l.map enRow) := up_map (f := enRow) (fun d => by simp only [enRow, uptoL, AV.upto, (up_bs d.2).get]; rfl) l
def Right (e : En) : Prop := e.2.length ≤ 255 ∧ ∀ b, b ∈ e.2 → b.length ≤ 255
def putB (b : List Int) : List Int := (b.length : Int) :: b
def put1 (e : En) : List Int := (if e.1 then 1 else 0) :: (e.2.length : Int) :: e.2.flatMap putB
theorem e_right (c : Bool) (bs : List (List Int)) (hbs : bs.length ≤ 1000000000) (rs : List (List AV)) (hrs : rs = bs.map bsRow) (o : Bool) (ho : o = true ↔ Right (c, bs)) : PCalls Try.prog 47 [.agg [.bool c, .list 1 rs]] (· = .bool o) := by
  have hu : Up0 rs := by rw [hrs]; exact up_bs bs
  have hrl : rs.length = bs.length := by rw [hrs]; simp
  (refine PCalls.ofY Try.func47 (by kernel_rfl) (by kernel_rfl) fun w hw R hR => ?_); (obtain ⟨wbin, wcmp, wun, wconv, wnot, wbeq, wmm, wscmp, wsadd, wslen, wsat, weqs, wlen, wnlen, wofNat, wtake, wdrop, wapp, wzero, wnat⟩ := w); (have hbin : wbin = binStd := congrArg Prims.bin hw); (have hcmp : wcmp = cmpStd := congrArg Prims.cmp hw); (have hun : wun = unStd := congrArg Prims.un hw); (have hconv : wconv = fun k n => k.wrap n := congrArg Prims.conv hw); (have hnot : wnot = fun b => !b := congrArg Prims.not hw); (have hbeq : wbeq = fun a b => a == b := congrArg Prims.beq hw); (have hmm : wmm = maxI := congrArg Prims.mm hw); (have hscmp : wscmp = scmpStd := congrArg Prims.scmp hw); (have hsadd : wsadd = fun x y => x ++ y := congrArg Prims.sadd hw); (have hslen : wslen = fun s => (s.size : Int) := congrArg Prims.slen hw); (have hsat : wsat = std.sat := congrArg Prims.sat hw); (have heqs : weqs = fun a b os => (eqOffs a b os).getD false := congrArg Prims.eqs hw); (have hlen : wlen = fun es => (es.length : Int) := congrArg Prims.len hw); (have hnlen : wnlen = fun es => es.length := congrArg Prims.nlen hw); (have hofNat : wofNat = (fun n : Nat => (n : Int)) := congrArg Prims.ofNat hw); (have htake : wtake = fun es b => es.take b.toNat := congrArg Prims.take hw); (have hdrop : wdrop = fun es a => es.drop a.toNat := congrArg Prims.drop hw); (have happ : wapp = fun a b => a ++ b := congrArg Prims.app hw); (have hzero : wzero = fun n z => List.replicate n.toNat z := congrArg Prims.zero hw); (have hnat : wnat = fun n => n.toNat := congrArg Prims.nat hw); (conv => arg 2; cbv); (generalize hP : Try.prog = P); cbv
  (obtain ⟨L, eL, L0, Ln⟩ : ∃ L : Int, wlen rs = L ∧ 0 ≤ L ∧ L.toNat = rs.length := ⟨(rs.length : Int), by rw [hlen], Int.natCast_nonneg _, Int.toNat_natCast _⟩)
  simp only [eL]
  (split <;> rename_i h0 <;> (try (simp only [hbin, hcmp, hun, hconv, hnot, hbeq, hmm, hscmp, hsadd, hslen, hsat, heqs, hofNat, binStd, cmpStd, unStd, scmpStd, maxI, Bool.not_eq_true', Bool.not_eq_false', decide_eq_true_eq, decide_eq_false_iff_not, Int.not_lt, Int.not_le, if_true, if_false, Bool.false_eq_true, beq_iff_eq, bne_iff_ne, ne_eq, Bool.not_eq_eq_eq_not, Bool.not_true, Bool.not_false, beq_eq_false_iff_ne, bne_eq_false_iff_eq, Int.ofNat_eq_natCast, Bool.not_not, not_true_eq_false, not_false_eq_true, reduceCtorEq] at h0)) <;> (try cbv))
  · exact ⟨_, Vw.same rfl, hR _ (by cases o; rfl; exact absurd (ho.1 rfl).1 (by simp only; omega))⟩
  simp only [eL]
  refine Loop.data hw (S := Int) (fun s => fr 20 [(10, .list 1 rs), (11, .int .i64 L), (12, .int .i64 s)]) (fun _ => [.live 2 [[.bool c, .list 1 rs]]])
    (fun s => 0 ≤ s ∧ s ≤ L ∧ ∀ b, b ∈ bs.take s.toNat → b.length ≤ 255) (fun s => (L - s).toNat) 0 (by (refine Wk.eqz (id) (by first | exact fun i _ j _ e => e | (simp only [List.length_cons, List.length_nil]; decide)) ?_; cbv; (repeat' (first | exact trivial | rfl | assumption | apply And.intro | (simp only [hbin, hcmp, hun, hconv, hnot, hbeq, hmm, hscmp, hsadd, hslen, hsat, heqs, hofNat, binStd, cmpStd, unStd, scmpStd, maxI, Bool.not_eq_true', Bool.not_eq_false', decide_eq_true_eq, decide_eq_false_iff_not, Int.not_lt, Int.not_le, if_true, if_false, Bool.false_eq_true, beq_iff_eq, bne_iff_ne, ne_eq, Bool.not_eq_eq_eq_not, Bool.not_true, Bool.not_false, beq_eq_false_iff_ne, bne_eq_false_iff_eq, Int.ofNat_eq_natCast, Bool.not_not, not_true_eq_false, not_false_eq_true, reduceCtorEq]; first | done | assumption) | exact RowsZ.same (by assumption) (by first | assumption | rfl) | exact FzL.mk rfl rfl rfl (by assumption) (by first | assumption | rfl) (by decide) | (refine RowsZ.one ?_; cbv))))) ⟨Int.le_refl _, L0, fun b hb => by simp at hb⟩ ?_
  rintro i hinv Q' hN hE hR'
  have hinv : 0 ≤ i ∧ i ≤ L ∧ ∀ b, b ∈ bs.take i.toNat → b.length ≤ 255 := hinv
  cbv
  obtain ⟨hi0, hi1, hall⟩ := hinv
  (split <;> rename_i hc <;> (try (simp only [hbin, hcmp, hun, hconv, hnot, hbeq, hmm, hscmp, hsadd, hslen, hsat, heqs, hofNat, binStd, cmpStd, unStd, scmpStd, maxI, Bool.not_eq_true', Bool.not_eq_false', decide_eq_true_eq, decide_eq_false_iff_not, Int.not_lt, Int.not_le, if_true, if_false, Bool.false_eq_true, beq_iff_eq, bne_iff_ne, ne_eq, Bool.not_eq_eq_eq_not, Bool.not_true, Bool.not_false, beq_eq_false_iff_ne, bne_eq_false_iff_eq, Int.ofNat_eq_natCast, Bool.not_not, not_true_eq_false, not_false_eq_true, reduceCtorEq] at hc)) <;> (try cbv))
  · obtain ⟨i2, ei2⟩ : ∃ z, z = i + 1 := ⟨_, rfl⟩
    have a4 : wbin .add .i64 i 1 = i2 := by rw [hbin, i_add (by omega) (by omega), ei2]
    have hT : (L - i2).toNat < (L - i).toNat := by omega
    obtain ⟨b, hb⟩ : ∃ b, bs[i.toNat]? = some b := ⟨_, List.getElem?_eq_getElem (show i.toNat < bs.length by omega)⟩
    obtain ⟨br, ebr⟩ : ∃ z, z = b.map bRow := ⟨_, rfl⟩
    have hbr : rs[i.toNat]? = some [.list 1 br] := by rw [hrs, List.getElem?_map, hb, ebr]; rfl
    have hbl : br.length = b.length := by rw [ebr]; simp
    refine Idx.mk _ hi0 hbr ?_
    cbv
    (obtain ⟨M, eM, M0, Mn⟩ : ∃ L : Int, wlen br = L ∧ 0 ≤ L ∧ L.toNat = br.length := ⟨(br.length : Int), by rw [hlen], Int.natCast_nonneg _, Int.toNat_natCast _⟩)
    simp only [eM]
    (split <;> rename_i h1 <;> (try (simp only [hbin, hcmp, hun, hconv, hnot, hbeq, hmm, hscmp, hsadd, hslen, hsat, heqs, hofNat, binStd, cmpStd, unStd, scmpStd, maxI, Bool.not_eq_true', Bool.not_eq_false', decide_eq_true_eq, decide_eq_false_iff_not, Int.not_lt, Int.not_le, if_true, if_false, Bool.false_eq_true, beq_iff_eq, bne_iff_ne, ne_eq, Bool.not_eq_eq_eq_not, Bool.not_true, Bool.not_false, beq_eq_false_iff_ne, bne_eq_false_iff_eq, Int.ofNat_eq_natCast, Bool.not_not, not_true_eq_false, not_false_eq_true, reduceCtorEq] at h1)) <;> (try cbv))
    · refine hR' _ _ ⟨_, Vw.same rfl, hR _ ?_⟩
      cases o
      · rfl
      · have := (ho.1 rfl).2 b (List.mem_of_getElem? hb)
        omega
    · simp only [a4]
      refine hN i2 _ _ ?hx ?hi hT
      case hx => (refine Wk.eqz (id) (by first | exact fun i _ j _ e => e | (simp only [List.length_cons, List.length_nil]; decide)) ?_; cbv; (repeat' (first | exact trivial | rfl | assumption | apply And.intro | (simp only [hbin, hcmp, hun, hconv, hnot, hbeq, hmm, hscmp, hsadd, hslen, hsat, heqs, hofNat, binStd, cmpStd, unStd, scmpStd, maxI, Bool.not_eq_true', Bool.not_eq_false', decide_eq_true_eq, decide_eq_false_iff_not, Int.not_lt, Int.not_le, if_true, if_false, Bool.false_eq_true, beq_iff_eq, bne_iff_ne, ne_eq, Bool.not_eq_eq_eq_not, Bool.not_true, Bool.not_false, beq_eq_false_iff_ne, bne_eq_false_iff_eq, Int.ofNat_eq_natCast, Bool.not_not, not_true_eq_false, not_false_eq_true, reduceCtorEq]; first | done | assumption) | exact RowsZ.same (by assumption) (by first | assumption | rfl) | exact FzL.mk rfl rfl rfl (by assumption) (by first | assumption | rfl) (by decide) | (refine RowsZ.one ?_; cbv))))
      case hi =>
        refine ⟨by omega, by omega, fun x hx => ?_⟩
        rw [ei2, take_nx hi0 hb] at hx
        rcases List.mem_append.1 hx with h | h
        · exact hall x h
        · simp at h; subst h; omega
  · refine hE _ _ _ ?_
    cbv
    have : o = true := ho.2 ⟨by simp only; omega, fun b hb => hall b (by rw [List.take_of_length_le (by omega)]; exact hb)⟩
    exact ⟨_, Vw.same rfl, hR _ (by rw [this]; rfl)⟩
end Go.Proofs.Ytekhigoblbkiaaa

/- Entries, by the engine: Pack. -/
set_option linter.unusedVariables false
set_option linter.unusedSimpArgs false
namespace Go.Proofs.Ytekhigoblbkiaaa
open Go Go.RowKit Go.Eng
set_option maxRecDepth 100000
theorem mem_sum : ∀ {l : List Nat} {x : Nat}, x ∈ l → x ≤ l.sum
  | [], x, h => by cases h
  | y :: l, x, h => by
    rw [List.sum_cons]
    rcases List.mem_cons.1 h with rfl | h
    · omega
    · have := mem_sum h; omega
def sizeE (e : En) : Nat := e.2.length + (e.2.map List.length).sum
def sizeL (l : List En) : Nat := l.length + (l.map sizeE).sum
theorem putBs_len (bs : List (List Int)) : (bs.flatMap putB).length = bs.length + (bs.map List.length).sum := by
  induction bs with
  | nil => rfl
  | cons b bs ih => rw [List.flatMap_cons, List.length_append, ih]; simp [putB]; omega
theorem take_sum : ∀ {bs : List (List Int)} {k : Nat} {b : List Int}, bs[k]? = some b → ((bs.take k).map List.length).sum + b.length + (k + 1) ≤ (bs.map List.length).sum + bs.length
  | [], k, b, h => by simp at h
  | x :: bs, 0, b, h => by simp at h; subst h; simp; omega
  | x :: bs, k + 1, b, h => by
    have := take_sum (bs := bs) (k := k) (b := b) (by simpa using h)
    simp only [List.take_succ_cons, List.map_cons, List.sum_cons, List.length_cons]
    omega
theorem put1_len (e : En) : (put1 e).length = 2 + sizeE e := by
  have h : ∀ bs : List (List Int), (bs.flatMap putB).length = bs.length + (bs.map List.length).sum := by
    intro bs
    induction bs with
    | nil => rfl
    | cons b bs ih => rw [List.flatMap_cons, List.length_append, ih]; simp [putB]; omega
  unfold put1 sizeE
  simp only [List.length_cons, h]
  omega
def hdB (n : Nat) : List Int := [66, 79, 88, 49, (n / 256 : Nat), (n % 256 : Nat)]
def bodyB (l : List En) : List Int := hdB l.length ++ l.flatMap put1
theorem puts_len (l : List En) : (l.flatMap put1).length = l.length + sizeL l := by
  unfold sizeL
  induction l with
  | nil => rfl
  | cons e l ih => rw [List.flatMap_cons, List.length_append, ih, put1_len]; simp; omega
def packB (l : List En) : List Int := bodyB l ++ sumB (crF 65535#16 (bodyB l))
def EnOk (e : En) : Prop := ∀ b, b ∈ e.2 → BytesOk b
theorem put1_ok {e : En} (h : EnOk e) (hr : Right e) : BytesOk (put1 e) := by
  intro x hx
  unfold put1 at hx
  simp only [List.mem_cons, List.mem_flatMap] at hx
  rcases hx with h1 | h1 | ⟨b, hb, h1⟩
  · rw [h1]; split <;> decide
  · have := hr.1; omega
  · have := hr.2 b hb
    simp only [putB, List.mem_cons] at h1
    rcases h1 with h1 | h1
    · omega
    · exact h b hb x h1
theorem sl_all {h : AHeap} {s z n : Nat} {es : List (List AV)} (hs : h[s]? = some (.live z es)) (hu : uptoLL 0 es = true) (hn : n = es.length) : Vw h (.sl s z 0 n) (.list z es) := by
  have := Vw.sl (i := 0) (n := n) hs hu (by omega)
  rwa [List.drop_zero, List.take_of_length_le (by omega)] at this
theorem sum_hi (v : BitVec 16) : IntKind.u8.wrap (binStd .shr .u16 (bi v) 8) = bi (v >>> 8) := by
  show IntKind.u8.wrap ((bi v).fdiv (2 ^ (min (8 : Int).toNat 16))) = _
  rw [IntKind.wrap_u8, Int.fdiv_eq_ediv_of_nonneg _ (by decide)]
  unfold bi
  rw [BitVec.toNat_ushiftRight, Nat.shiftRight_eq_div_pow]
  have := v.isLt
  show ((v.toNat : Int) / 256) % 256 = _
  omega
theorem sum_lo (v : BitVec 16) : IntKind.u8.wrap (bi v) = bi (v &&& 255#16) := by
  rw [IntKind.wrap_u8]
  unfold bi
  rw [BitVec.toNat_and]
  show (v.toNat : Int) % 256 = ((v.toNat &&& 255 : Nat) : Int)
  rw [show (255 : Nat) = 2 ^ 8 - 1 from rfl, Nat.and_two_pow_sub_one_eq_mod]
  omega
theorem hdB_ok {n : Nat} (h : n ≤ 4096) : BytesOk (hdB n) := by
  intro b hb
  simp only [hdB, List.mem_cons, List.not_mem_nil, or_false] at hb
  omega
set_option maxHeartbeats 4000000 in
theorem e_pack (l : List En) (hok : ∀ e, e ∈ l → EnOk e) (hsz : sizeL l ≤ 200000) (rs : List (List AV)) (hrs : rs = l.map enRow) : PCalls Try.prog 11 [.list 2 rs]
    (fun r => (4096 < l.length ∧ r = .tuple [.nils, .int .i64 13]) ∨ (l.length ≤ 4096 ∧ (∃ e, e ∈ l ∧ ¬ Right e) ∧ r = .tuple [.nils, .int .i64 15]) ∨ (l.length ≤ 4096 ∧ (∀ e, e ∈ l → Right e) ∧ r = .tuple [.list 1 ((packB l).map bRow), .int .i64 0])) := by
  have hu : Up0 rs := by rw [hrs]; exact up_en l
  have hrl : rs.length = l.length := by rw [hrs]; simp
  have hll : l.length ≤ 200000 := by unfold sizeL at hsz; omega
  (refine PCalls.ofL Try.func11 (by kernel_rfl) (by kernel_rfl) fun w hw R hR => ?_); (obtain ⟨wbin, wcmp, wun, wconv, wnot, wbeq, wmm, wscmp, wsadd, wslen, wsat, weqs, wlen, wnlen, wofNat, wtake, wdrop, wapp, wzero, wnat⟩ := w); (have hbin : wbin = binStd := congrArg Prims.bin hw); (have hcmp : wcmp = cmpStd := congrArg Prims.cmp hw); (have hun : wun = unStd := congrArg Prims.un hw); (have hconv : wconv = fun k n => k.wrap n := congrArg Prims.conv hw); (have hnot : wnot = fun b => !b := congrArg Prims.not hw); (have hbeq : wbeq = fun a b => a == b := congrArg Prims.beq hw); (have hmm : wmm = maxI := congrArg Prims.mm hw); (have hscmp : wscmp = scmpStd := congrArg Prims.scmp hw); (have hsadd : wsadd = fun x y => x ++ y := congrArg Prims.sadd hw); (have hslen : wslen = fun s => (s.size : Int) := congrArg Prims.slen hw); (have hsat : wsat = std.sat := congrArg Prims.sat hw); (have heqs : weqs = fun a b os => (eqOffs a b os).getD false := congrArg Prims.eqs hw); (have hlen : wlen = fun es => (es.length : Int) := congrArg Prims.len hw); (have hnlen : wnlen = fun es => es.length := congrArg Prims.nlen hw); (have hofNat : wofNat = (fun n : Nat => (n : Int)) := congrArg Prims.ofNat hw); (have htake : wtake = fun es b => es.take b.toNat := congrArg Prims.take hw); (have hdrop : wdrop = fun es a => es.drop a.toNat := congrArg Prims.drop hw); (have happ : wapp = fun a b => a ++ b := congrArg Prims.app hw); (have hzero : wzero = fun n z => List.replicate n.toNat z := congrArg Prims.zero hw); (have hnat : wnat = fun n => n.toNat := congrArg Prims.nat hw); (conv => arg 2; cbv); (generalize hP : Try.prog = P); cbv
  (obtain ⟨L, eL, L0, Ln⟩ : ∃ L : Int, wlen rs = L ∧ 0 ≤ L ∧ L.toNat = rs.length := ⟨(rs.length : Int), by rw [hlen], Int.natCast_nonneg _, Int.toNat_natCast _⟩)
  simp only [eL]
  (split <;> rename_i h0 <;> (try (simp only [hbin, hcmp, hun, hconv, hnot, hbeq, hmm, hscmp, hsadd, hslen, hsat, heqs, hofNat, binStd, cmpStd, unStd, scmpStd, maxI, Bool.not_eq_true', Bool.not_eq_false', decide_eq_true_eq, decide_eq_false_iff_not, Int.not_lt, Int.not_le, if_true, if_false, Bool.false_eq_true, beq_iff_eq, bne_iff_ne, ne_eq, Bool.not_eq_eq_eq_not, Bool.not_true, Bool.not_false, beq_eq_false_iff_ne, bne_eq_false_iff_eq, Int.ofNat_eq_natCast, Bool.not_not, not_true_eq_false, not_false_eq_true, reduceCtorEq] at h0)) <;> (try cbv))
  · exact ⟨_, Vw.same rfl, hR _ (.inl ⟨by omega, rfl⟩)⟩
  · refine Xo.mark (i := 0) (by rw [← hP]; rfl) (by rw [← hP]; rfl) rfl ?_
    cbv
    simp only [eL]
    repeat' (first
        | (refine Nn.mk (by decide) ?_))
    obtain ⟨b1, eb1⟩ : ∃ z, z = wconv .u8 (wbin .shr .i64 L 8) := ⟨_, rfl⟩
    obtain ⟨b2, eb2⟩ : ∃ z, z = wconv .u8 L := ⟨_, rfl⟩
    have hb1 : b1 = ((l.length / 256 : Nat) : Int) := by
      rw [eb1, hconv, hbin]
      show IntKind.u8.wrap (L.fdiv (2 ^ (min (8 : Int).toNat 64))) = _
      rw [IntKind.wrap_u8, Int.fdiv_eq_ediv_of_nonneg _ (by decide)]
      show L / 256 % 256 = _
      omega
    have hb2 : b2 = ((l.length % 256 : Nat) : Int) := by
      rw [eb2, hconv]
      show IntKind.u8.wrap L = _
      rw [IntKind.wrap_u8]
      omega
    rw [← eb1, ← eb2]
    obtain ⟨o0, eo0⟩ : ∃ o, o = (hdB l.length).map bRow := ⟨_, rfl⟩
    have ho0 : o0 = [[.int .u8 66], [.int .u8 79], [.int .u8 88], [.int .u8 49]] ++ [[.int .u8 b1], [.int .u8 b2]] := by rw [eo0, hb1, hb2]; rfl
    have ho0l : o0.length = 6 := by rw [ho0]; rfl
    clear eb1 eb2 hb1 hb2
    have huo0 : Up0 o0 := by rw [eo0]; exact up_b _
    have n1 : wnot true = false := by rw [hnot]; rfl
    have n2 : wnot false = true := by rw [hnot]; rfl
    refine AppL.mk o0 6 ho0 rfl rfl rfl (by decide) (by decide) ?_
    cbv
    simp only [eL]
    refine Loop.data hw (S := Int × List (List AV) × Nat) (fun s => fr 36 [(4, .sl 0 1 0 s.2.2), (21, .list 2 rs), (22, .int .i64 L), (23, .int .i64 s.1)]) (fun s => [.live 1 s.2.1])
      (fun s => 0 ≤ s.1 ∧ s.1 ≤ L ∧ s.2.1 = (hdB l.length ++ (l.take s.1.toNat).flatMap put1).map bRow ∧ s.2.2 = s.2.1.length ∧ Up0 s.2.1 ∧ ∀ e, e ∈ l.take s.1.toNat → Right e) (fun s => (L - s.1).toNat) (0, o0, 6) (by (refine Wk.eqz (fun j => [1].getD j 0) (by first | exact fun i _ j _ e => e | (simp only [List.length_cons, List.length_nil]; decide)) ?_; cbv; (repeat' (first | exact trivial | rfl | assumption | apply And.intro | (simp only [hbin, hcmp, hun, hconv, hnot, hbeq, hmm, hscmp, hsadd, hslen, hsat, heqs, hofNat, binStd, cmpStd, unStd, scmpStd, maxI, Bool.not_eq_true', Bool.not_eq_false', decide_eq_true_eq, decide_eq_false_iff_not, Int.not_lt, Int.not_le, if_true, if_false, Bool.false_eq_true, beq_iff_eq, bne_iff_ne, ne_eq, Bool.not_eq_eq_eq_not, Bool.not_true, Bool.not_false, beq_eq_false_iff_ne, bne_eq_false_iff_eq, Int.ofNat_eq_natCast, Bool.not_not, not_true_eq_false, not_false_eq_true, reduceCtorEq]; first | done | assumption) | exact RowsZ.same (by assumption) (by first | assumption | rfl) | exact FzL.mk rfl rfl rfl (by assumption) (by first | assumption | rfl) (by decide) | (refine RowsZ.one ?_; cbv)))))
      ⟨Int.le_refl _, L0, by simp only; rw [eo0]; simp, ho0l.symm, by simp only; rw [eo0]; exact up_b _, fun e he => by simp at he⟩ ?_
    rintro ⟨i, os, n⟩ hinv Q' hN hE hR'
    have hinv : 0 ≤ i ∧ i ≤ L ∧ os = (hdB l.length ++ (l.take i.toNat).flatMap put1).map bRow ∧ n = os.length ∧ Up0 os ∧ ∀ e, e ∈ l.take i.toNat → Right e := hinv
    cbv
    obtain ⟨hi0, hi1, hos, hn, huo, hall⟩ := hinv
    (split <;> rename_i hc <;> (try (simp only [hbin, hcmp, hun, hconv, hnot, hbeq, hmm, hscmp, hsadd, hslen, hsat, heqs, hofNat, binStd, cmpStd, unStd, scmpStd, maxI, Bool.not_eq_true', Bool.not_eq_false', decide_eq_true_eq, decide_eq_false_iff_not, Int.not_lt, Int.not_le, if_true, if_false, Bool.false_eq_true, beq_iff_eq, bne_iff_ne, ne_eq, Bool.not_eq_eq_eq_not, Bool.not_true, Bool.not_false, beq_eq_false_iff_ne, bne_eq_false_iff_eq, Int.ofNat_eq_natCast, Bool.not_not, not_true_eq_false, not_false_eq_true, reduceCtorEq] at hc)) <;> (try cbv))
    · obtain ⟨i2, ei2⟩ : ∃ z, z = i + 1 := ⟨_, rfl⟩
      have a4 : wbin .add .i64 i 1 = i2 := by rw [hbin, i_add (by omega) (by omega), ei2]
      have hT : (L - i2).toNat < (L - i).toNat := by omega
      obtain ⟨e, he⟩ : ∃ b, l[i.toNat]? = some b := ⟨_, List.getElem?_eq_getElem (show i.toNat < l.length by omega)⟩
      have hem := List.mem_of_getElem? he
      obtain ⟨c, bs⟩ := e
      obtain ⟨br, ebr⟩ : ∃ z, z = bs.map bsRow := ⟨_, rfl⟩
      have her : rs[i.toNat]? = some [.bool c, .list 1 br] := by rw [hrs, List.getElem?_map, he, ebr]; rfl
      have hub : Up0 br := by rw [ebr]; exact up_bs bs
      have hsE : sizeE (c, bs) ≤ 200000 := by
        have : sizeE (c, bs) ≤ (l.map sizeE).sum := mem_sum (List.mem_map_of_mem hem)
        unfold sizeL at hsz; omega
      have hbl : bs.length ≤ 200000 := by unfold sizeE at hsE; simp only at hsE; omega
      obtain ⟨o, ho⟩ : ∃ o : Bool, o = true ↔ Right (c, bs) := by
        by_cases h : Right (c, bs)
        · exact ⟨true, fun _ => h, fun _ => rfl⟩
        · exact ⟨false, fun h => by (cases h), fun h2 => absurd h2 h⟩
      refine Idx.mk _ hi0 her ?_
      cbv
      refine Call.stepE (by rw [← hP]; exact e_right c bs (by omega) br ebr o ho) (by exact Bool.and_eq_true_iff.mpr ⟨Up0.one hub rfl, rfl⟩) ?_
      cbv
      cases o
      · simp only [n2]
        refine hR' _ _ ⟨_, Vw.same rfl, hR _ (.inr (.inl ⟨by omega, ⟨_, hem, fun h => by have := ho.2 h; cases this⟩, rfl⟩))⟩
      · simp only [n1]
        cbv
        (refine Call.inl hw hP Try.func48 (by kernel_rfl) (by kernel_rfl) ?_); (conv => arg 2; cbv); cbv
        (obtain ⟨M, eM, M0, Mn⟩ : ∃ L : Int, wlen br = L ∧ 0 ≤ L ∧ L.toNat = br.length := ⟨(br.length : Int), by rw [hlen], Int.natCast_nonneg _, Int.toNat_natCast _⟩)
        have hbrl : br.length = bs.length := by rw [ebr]; simp
        have hR' := ho.1 rfl
        have hM : M ≤ 255 := by have := hR'.1; simp only at this; omega
        have cM : wconv .u8 M = M := by rw [hconv]; show IntKind.u8.wrap M = M; rw [IntKind.wrap_u8]; omega
        obtain ⟨pre, epre⟩ : ∃ p, p = hdB l.length ++ (l.take i.toNat).flatMap put1 := ⟨_, rfl⟩
        rw [← epre] at hos
        obtain ⟨cv, ecv⟩ : ∃ v : Int, v = if c then 1 else 0 := ⟨_, rfl⟩
        obtain ⟨o1, eo1⟩ : ∃ o1, o1 = (pre ++ [cv, (bs.length : Int)]).map bRow := ⟨_, rfl⟩
        have hcv : put1 (c, bs) = cv :: (bs.length : Int) :: bs.flatMap putB := by rw [ecv]; rfl
        obtain ⟨m1, em1⟩ : ∃ m, m = n + 2 := ⟨_, rfl⟩
        have huo1 : Up0 o1 := by rw [eo1]; exact up_b _
        have hpl : pre.length = n := by rw [hn, hos]; simp
        have hpre : n + sizeE (c, bs) + 2 ≤ 1000000 := by
          have h1 : l = l.take i.toNat ++ (c, bs) :: l.drop (i.toNat + 1) := by
            obtain ⟨hlt, he2⟩ := List.getElem?_eq_some_iff.1 he
            rw [← he2, ← List.drop_eq_getElem_cons hlt, List.take_append_drop]
          have h2 := puts_len l
          rw [h1] at h2
          rw [List.flatMap_append, List.flatMap_cons, List.length_append, List.length_append, put1_len] at h2
          rw [← h1] at h2
          have h3 : pre.length = 6 + ((l.take i.toNat).flatMap put1).length := by rw [epre, List.length_append]; rfl
          omega
        have hpre2 : n + (bs.length + (bs.map List.length).sum) + 2 ≤ 1000000 := hpre
        cases c
        all_goals
          cbv
          simp only [eM, cM]
          refine AppL.mk o1 m1 (by rw [eo1, hos, List.map_append, show M = (bs.length : Int) by omega, ecv]; rfl) hn em1 rfl (by omega) (by omega) ?_
          cbv
          simp only [eM]
          refine Loop.dataN hw (S := Int × List (List AV) × Nat) (fun s => fr 36 [(1, .sl 2 1 0 s.2.2), (19, .list 1 br), (20, .int .i64 M), (21, .int .i64 s.1)]) (fun s => [.dead, .live 2 [[.any, .list 1 br]], .live 1 s.2.1])
            (fun s => 0 ≤ s.1 ∧ s.1 ≤ M ∧ s.2.1 = (pre ++ [cv, (bs.length : Int)] ++ (bs.take s.1.toNat).flatMap putB).map bRow ∧ s.2.2 = s.2.1.length ∧ Up0 s.2.1) (fun s => (M - s.1).toNat) (0, o1, m1) (by (refine Wk.eqzN (fun j => [0, 1, 3].getD j 0) (by intro i hi; first | rfl | (have hh : i = 0 ∨ i = 1 := (by omega); rcases hh with hh | hh <;> subst hh <;> rfl)) (Nat.le_of_ble_eq_true rfl) (by first | exact fun i _ j _ e => e | (simp only [List.length_cons, List.length_nil]; decide)) ?_; cbv; (repeat' (first | exact trivial | rfl | assumption | apply And.intro | (simp only [hbin, hcmp, hun, hconv, hnot, hbeq, hmm, hscmp, hsadd, hslen, hsat, heqs, hofNat, binStd, cmpStd, unStd, scmpStd, maxI, Bool.not_eq_true', Bool.not_eq_false', decide_eq_true_eq, decide_eq_false_iff_not, Int.not_lt, Int.not_le, if_true, if_false, Bool.false_eq_true, beq_iff_eq, bne_iff_ne, ne_eq, Bool.not_eq_eq_eq_not, Bool.not_true, Bool.not_false, beq_eq_false_iff_ne, bne_eq_false_iff_eq, Int.ofNat_eq_natCast, Bool.not_not, not_true_eq_false, not_false_eq_true, reduceCtorEq]; first | done | assumption) | exact RowsZ.same (by assumption) (by first | assumption | rfl) | exact FzL.mk rfl rfl rfl (by assumption) (by first | assumption | rfl) (by decide) | (refine RowsZ.one ?_; cbv)))))
            ⟨Int.le_refl _, M0, by simp only; rw [eo1]; simp, by simp only; rw [eo1, em1]; simp; omega, huo1⟩ ?_
          rintro ⟨k, o2, m2⟩ hinv2 Q2 hN2 hE2 hR2
          have hinv2 : 0 ≤ k ∧ k ≤ M ∧ o2 = (pre ++ [cv, (bs.length : Int)] ++ (bs.take k.toNat).flatMap putB).map bRow ∧ m2 = o2.length ∧ Up0 o2 := hinv2
          cbv
          obtain ⟨hk0, hk1, ho2, hm2, huo2⟩ := hinv2
          (split <;> rename_i hk <;> (try (simp only [hbin, hcmp, hun, hconv, hnot, hbeq, hmm, hscmp, hsadd, hslen, hsat, heqs, hofNat, binStd, cmpStd, unStd, scmpStd, maxI, Bool.not_eq_true', Bool.not_eq_false', decide_eq_true_eq, decide_eq_false_iff_not, Int.not_lt, Int.not_le, if_true, if_false, Bool.false_eq_true, beq_iff_eq, bne_iff_ne, ne_eq, Bool.not_eq_eq_eq_not, Bool.not_true, Bool.not_false, beq_eq_false_iff_ne, bne_eq_false_iff_eq, Int.ofNat_eq_natCast, Bool.not_not, not_true_eq_false, not_false_eq_true, reduceCtorEq] at hk)) <;> (try cbv))
          · obtain ⟨k2, ek2⟩ : ∃ z, z = k + 1 := ⟨_, rfl⟩
            have a5 : wbin .add .i64 k 1 = k2 := by rw [hbin, i_add (by omega) (by omega), ek2]
            have hT2 : (M - k2).toNat < (M - k).toNat := by omega
            obtain ⟨b, hb⟩ : ∃ b, bs[k.toNat]? = some b := ⟨_, List.getElem?_eq_getElem (show k.toNat < bs.length by omega)⟩
            have hbm := List.mem_of_getElem? hb
            obtain ⟨bb, ebb⟩ : ∃ z, z = b.map bRow := ⟨_, rfl⟩
            have hbr : br[k.toNat]? = some [.list 1 bb] := by rw [ebr, List.getElem?_map, hb, ebb]; rfl
            have hbb : bb.length = b.length := by rw [ebb]; simp
            have hb255 : b.length ≤ 255 := hR'.2 b hbm
            refine Idx.mk _ hk0 hbr ?_
            cbv
            (obtain ⟨B, eB, B0, Bn⟩ : ∃ L : Int, wlen bb = L ∧ 0 ≤ L ∧ L.toNat = bb.length := ⟨(bb.length : Int), by rw [hlen], Int.natCast_nonneg _, Int.toNat_natCast _⟩)
            have cB : wconv .u8 B = B := by rw [hconv]; show IntKind.u8.wrap B = B; rw [IntKind.wrap_u8]; omega
            simp only [eB, cB]
            obtain ⟨p2, ep2⟩ : ∃ p2, p2 = pre ++ [cv, (bs.length : Int)] ++ (bs.take k.toNat).flatMap putB := ⟨_, rfl⟩
            rw [← ep2] at ho2
            have hp2l : p2.length + 1 + b.length ≤ 1000000 := by
              have h1 := hpre2
              have h2 := putBs_len (bs.take k.toNat)
              have h3 := take_sum hb
              have h4 : p2.length = pre.length + 2 + ((bs.take k.toNat).flatMap putB).length := by rw [ep2]; simp; omega
              have h5 : (bs.take k.toNat).length ≤ k.toNat := List.length_take_le _ _
              omega
            have hp2m : m2 = p2.length := by rw [hm2, ho2]; simp
            obtain ⟨o3, eo3⟩ : ∃ o, o = (p2 ++ [(b.length : Int)]).map bRow := ⟨_, rfl⟩
            obtain ⟨m3, em3⟩ : ∃ m, m = m2 + 1 := ⟨_, rfl⟩
            obtain ⟨o4, eo4⟩ : ∃ o, o = (p2 ++ putB b).map bRow := ⟨_, rfl⟩
            obtain ⟨m4, em4⟩ : ∃ m, m = m3 + b.length := ⟨_, rfl⟩
            have huo4 : Up0 o4 := by rw [eo4]; exact up_b _
            refine App.mk o3 m3 (by rw [eo3, ho2, List.map_append, show B = (b.length : Int) by omega]; rfl) hm2 em3 (by omega) (by omega) ?_
            cbv
            refine AppL.mk o4 m4 (by rw [eo4, eo3, ebb, ← List.map_append]; unfold putB; rw [List.append_assoc]; rfl) (by rw [em3, eo3]; simp; omega) (by rw [em4, hbb]) (by rw [ebb]; exact rowsOk_b b) (by omega) (by omega) ?_
            cbv
            simp only [a5]
            refine hN2 (k2, o4, m4) _ _ ?hx ?hi hT2
            case hx => (refine Wk.eqzN (fun j => [0, 1, 4].getD j 0) (by intro i hi; first | rfl | (have hh : i = 0 ∨ i = 1 := (by omega); rcases hh with hh | hh <;> subst hh <;> rfl)) (Nat.le_of_ble_eq_true rfl) (by first | exact fun i _ j _ e => e | (simp only [List.length_cons, List.length_nil]; decide)) ?_; cbv; (repeat' (first | exact trivial | rfl | assumption | apply And.intro | (simp only [hbin, hcmp, hun, hconv, hnot, hbeq, hmm, hscmp, hsadd, hslen, hsat, heqs, hofNat, binStd, cmpStd, unStd, scmpStd, maxI, Bool.not_eq_true', Bool.not_eq_false', decide_eq_true_eq, decide_eq_false_iff_not, Int.not_lt, Int.not_le, if_true, if_false, Bool.false_eq_true, beq_iff_eq, bne_iff_ne, ne_eq, Bool.not_eq_eq_eq_not, Bool.not_true, Bool.not_false, beq_eq_false_iff_ne, bne_eq_false_iff_eq, Int.ofNat_eq_natCast, Bool.not_not, not_true_eq_false, not_false_eq_true, reduceCtorEq]; first | done | assumption) | exact RowsZ.same (by assumption) (by first | assumption | rfl) | exact FzL.mk rfl rfl rfl (by assumption) (by first | assumption | rfl) (by decide) | (refine RowsZ.one ?_; cbv))))
            case hi =>
              refine ⟨by simp only; omega, by simp only; omega, ?_, ?_, huo4⟩
              · simp only; rw [eo4, ep2, ek2, take_nx hk0 hb, List.flatMap_append]; simp
              · simp only; rw [eo4, em4, em3, hp2m]; simp [putB]; omega
          · refine hE2 _ _ _ ?_
            cbv
            simp only [a4]
            have ho2f : o2 = (hdB l.length ++ (l.take i2.toNat).flatMap put1).map bRow := by
              have ebs : bs.take k.toNat = bs := List.take_of_length_le (by omega)
              rw [ho2, epre, ei2, take_nx hi0 he, List.flatMap_append, ebs]
              simp only [List.flatMap_cons, List.flatMap_nil, List.append_nil, hcv]
              simp
            refine hN (i2, o2, m2) _ _ ?hx ?hi hT
            case hx => (refine Wk.eqz (fun j => [2].getD j 0) (by first | exact fun i _ j _ e => e | (simp only [List.length_cons, List.length_nil]; decide)) ?_; cbv; (repeat' (first | exact trivial | rfl | assumption | apply And.intro | (simp only [hbin, hcmp, hun, hconv, hnot, hbeq, hmm, hscmp, hsadd, hslen, hsat, heqs, hofNat, binStd, cmpStd, unStd, scmpStd, maxI, Bool.not_eq_true', Bool.not_eq_false', decide_eq_true_eq, decide_eq_false_iff_not, Int.not_lt, Int.not_le, if_true, if_false, Bool.false_eq_true, beq_iff_eq, bne_iff_ne, ne_eq, Bool.not_eq_eq_eq_not, Bool.not_true, Bool.not_false, beq_eq_false_iff_ne, bne_eq_false_iff_eq, Int.ofNat_eq_natCast, Bool.not_not, not_true_eq_false, not_false_eq_true, reduceCtorEq]; first | done | assumption) | exact RowsZ.same (by assumption) (by first | assumption | rfl) | exact FzL.mk rfl rfl rfl (by assumption) (by first | assumption | rfl) (by decide) | (refine RowsZ.one ?_; cbv))))
            case hi =>
              refine ⟨by simp only; omega, by simp only; omega, ho2f, hm2, huo2, fun e' h' => ?_⟩
              simp only at h'
              rw [ei2, take_nx hi0 he] at h'
              rcases List.mem_append.1 h' with h | h
              · exact hall e' h
              · simp at h; subst h; exact hR'
    · refine hE _ _ _ ?_
      cbv
      have hbody : os = (bodyB l).map bRow := by rw [hos, List.take_of_length_le (by omega)]; rfl
      have hblen : (bodyB l).length ≤ 1000000 := by
        unfold bodyB; rw [List.length_append, puts_len]
        show 6 + _ ≤ _
        omega
      have hbok : BytesOk (bodyB l) := by
        intro x hx
        rcases List.mem_append.1 hx with h | h
        · have := hdB_ok (show l.length ≤ 4096 by omega) x h; exact this
        · obtain ⟨e, he, h2⟩ := List.mem_flatMap.1 h
          exact put1_ok (hok e he) (hall e (by rw [List.take_of_length_le (by omega)]; exact he)) x h2
      obtain ⟨qs, eqs⟩ : ∃ q, q = (packB l).map bRow := ⟨_, rfl⟩
      (refine Call.inl hw hP Try.func49 (by kernel_rfl) (by kernel_rfl) ?_); (conv => arg 2; cbv); cbv
      obtain ⟨y, ey⟩ : ∃ y, y = bi (crF 65535#16 (bodyB l)) := ⟨_, rfl⟩
      refine Call.view (args' := [.list 1 os]) (by rw [← hP]; exact e_sum (bodyB l) hbok (by omega) y os hbody ey) ⟨sl_all rfl huo.get hn, trivial⟩ ?_
      rintro r rfl
      refine ⟨rfl, ?_⟩
      cbv
      obtain ⟨nI, enI⟩ : ∃ z, z = wofNat n := ⟨_, rfl⟩
      have hnI : nI = (n : Int) := by rw [enI, hofNat]
      have hnl : n = (bodyB l).length := by rw [hn, hbody]; simp
      rw [← enI]
      obtain ⟨c2, ec2⟩ : ∃ c, c = nI + 2 := ⟨_, rfl⟩
      have a7 : wbin .add .i64 nI 2 = c2 := by rw [hbin, i_add (by omega) (by omega), ec2]
      simp only [a7]
      obtain ⟨zs, ezs⟩ : ∃ zs, zs = List.replicate n [AV.int .u8 0] := ⟨_, rfl⟩
      have hzl : zs.length = n := by rw [ezs]; simp
      refine Mk.mk zs n (by omega) (by omega) (by omega) (by omega) (by omega) ezs ?_
      cbv
      have hrok : rowsOk os = true := by rw [hbody]; exact rowsOk_b _
      refine Xo.copyS (fs := os) rfl rfl rfl (u := 25) (t := 25) (e0 := 5) (by rw [← hP]; rfl) (by rw [← hP]; rfl) (by decide) rfl rfl (by omega) (by rw [List.drop_zero, List.take_of_length_le (by omega)]) (by omega) hrok os (by rw [List.take_zero, List.nil_append, List.take_of_length_le (by omega), List.drop_of_length_le (by omega), List.append_nil]) n (by omega) ?_
      cbv
      refine Nn.mk (by decide) ?_
      obtain ⟨v, ev⟩ : ∃ v, v = crF 65535#16 (bodyB l) := ⟨_, rfl⟩
      rw [← ev] at ey
      obtain ⟨x1, ex1⟩ : ∃ b, b = bi (v >>> 8) := ⟨_, rfl⟩
      obtain ⟨x2, ex2⟩ : ∃ b, b = bi (v &&& 255#16) := ⟨_, rfl⟩
      have y1 : wconv .u8 (wbin .shr .u16 y 8) = x1 := by rw [hconv, hbin, ey, ex1]; exact sum_hi v
      have y2 : wconv .u8 y = x2 := by rw [hconv, ey, ex2]; exact sum_lo v
      simp only [y1, y2]
      have eq2 : qs = os ++ [[.int .u8 x1], [.int .u8 x2]] := by rw [eqs, hbody]; unfold packB; rw [List.map_append, ← ev, ex1, ex2]; rfl
      have huq : Up0 qs := by rw [eqs]; exact up_b _
      obtain ⟨n3, en3⟩ : ∃ z, z = n + 2 := ⟨_, rfl⟩
      refine AppL.mk qs n3 eq2 (by omega) en3 rfl (by omega) (by omega) ?_
      cbv
      refine ⟨_, Vw.tuple (rs := [_, _]) ⟨sl_all (es := qs) rfl huq.get (by rw [eq2]; simp; omega), Vw.same rfl, trivial⟩, hR _ (.inr (.inr ⟨by omega, fun e he => hall e (by rw [List.take_of_length_le (by omega)]; exact he), by rw [eqs]⟩))⟩
end Go.Proofs.Ytekhigoblbkiaaa

/- Entries, by the engine: a reader's steps. -/
set_option linter.unusedVariables false
set_option linter.unusedSimpArgs false
namespace Go.Proofs.Ytekhigoblbkiaaa
open Go Go.RowKit Go.Eng
set_option maxRecDepth 100000
set_option maxHeartbeats 1000000 in
theorem e_take (rs : List (List AV)) (hu : Up0 rs) (k : Int) (h0 : 0 ≤ k) (h1 : k.toNat ≤ rs.length) (t d : List (List AV)) (et : t = rs.take k.toNat) (ed : d = rs.drop k.toNat) :
    ACall Try.prog 84 [.ref 0 2 0 0, .int .i64 k] [.live 2 [[.list 1 rs, .bool false]]] (fun r h => r = .list 1 t ∧ ∃ j, h = .live 2 [[.list 1 d, .bool false]] :: j) := by
  (refine ACall.ofI Try.func84 (by kernel_rfl) (by kernel_rfl) fun w hw => ?_); (obtain ⟨wbin, wcmp, wun, wconv, wnot, wbeq, wmm, wscmp, wsadd, wslen, wsat, weqs, wlen, wnlen, wofNat, wtake, wdrop, wapp, wzero, wnat⟩ := w); (have hbin : wbin = binStd := congrArg Prims.bin hw); (have hcmp : wcmp = cmpStd := congrArg Prims.cmp hw); (have hun : wun = unStd := congrArg Prims.un hw); (have hconv : wconv = fun k n => k.wrap n := congrArg Prims.conv hw); (have hnot : wnot = fun b => !b := congrArg Prims.not hw); (have hbeq : wbeq = fun a b => a == b := congrArg Prims.beq hw); (have hmm : wmm = maxI := congrArg Prims.mm hw); (have hscmp : wscmp = scmpStd := congrArg Prims.scmp hw); (have hsadd : wsadd = fun x y => x ++ y := congrArg Prims.sadd hw); (have hslen : wslen = fun s => (s.size : Int) := congrArg Prims.slen hw); (have hsat : wsat = std.sat := congrArg Prims.sat hw); (have heqs : weqs = fun a b os => (eqOffs a b os).getD false := congrArg Prims.eqs hw); (have hlen : wlen = fun es => (es.length : Int) := congrArg Prims.len hw); (have hnlen : wnlen = fun es => es.length := congrArg Prims.nlen hw); (have hofNat : wofNat = (fun n : Nat => (n : Int)) := congrArg Prims.ofNat hw); (have htake : wtake = fun es b => es.take b.toNat := congrArg Prims.take hw); (have hdrop : wdrop = fun es a => es.drop a.toNat := congrArg Prims.drop hw); (have happ : wapp = fun a b => a ++ b := congrArg Prims.app hw); (have hzero : wzero = fun n z => List.replicate n.toNat z := congrArg Prims.zero hw); (have hnat : wnat = fun n => n.toNat := congrArg Prims.nat hw); (conv => arg 2; cbv); (generalize hP : Try.prog = P); cbv
  (obtain ⟨L, eL, L0, Ln⟩ : ∃ L : Int, wlen rs = L ∧ 0 ≤ L ∧ L.toNat = rs.length := ⟨(rs.length : Int), by rw [hlen], Int.natCast_nonneg _, Int.toNat_natCast _⟩)
  have t1 : wtake rs k = t := by rw [htake, et]
  have t2 : wdrop rs k = d := by rw [hdrop, ed]
  have c0 : wcmp .lss (wlen rs) k = false := by rw [eL, hcmp]; simp [cmpStd]; omega
  simp only [c0]
  cbv
  repeat' (first
    | (refine Nn.mk h0 ?_)
    | (refine Le.mk (by rw [eL]; omega) ?_)
    | (simp only [t1, t2]))
  exact ⟨trivial, _, rfl⟩
theorem i_or8 {a b : Int} (h0 : 0 ≤ a) (h1 : a < 1099511627776) (h2 : 0 ≤ b) (h3 : b < 256) : binStd .or .i64 (binStd .shl .i64 a 8) b = a * 256 + b := by
  have e1 : binStd .shl .i64 a 8 = a * 256 := by
    show IntKind.i64.wrap (a * 2 ^ (min (8 : Int).toNat 64)) = _
    rw [IntKind.wrap_i64]
    show (a * 256 + 9223372036854775808) % 18446744073709551616 - 9223372036854775808 = _
    omega
  rw [e1]
  show IntKind.i64.wrap (BitVec.ofInt 64 (a * 256) ||| BitVec.ofInt 64 b).toNat = _
  obtain ⟨an, rfl⟩ := Int.eq_ofNat_of_zero_le h0
  obtain ⟨bn, rfl⟩ := Int.eq_ofNat_of_zero_le h2
  have e2 : ((an : Int) * 256) = ((an * 256 : Nat) : Int) := by omega
  rw [e2, BitVec.ofInt_natCast, BitVec.ofInt_natCast, BitVec.toNat_or, BitVec.toNat_ofNat, BitVec.toNat_ofNat, Nat.mod_eq_of_lt (by omega), Nat.mod_eq_of_lt (by omega)]
  have e3 : an * 256 ||| bn = an * 256 + bn := by
    rw [Nat.mul_comm]
    exact (Nat.two_pow_add_eq_or_of_lt (i := 8) (by omega) an).symm
  rw [e3, IntKind.wrap_i64]
  omega
set_option maxHeartbeats 1000000 in
theorem e_num1 (rs : List (List AV)) (hu : Up0 rs) (b : Int) (hb : 0 ≤ b ∧ b ≤ 255) (os : List (List AV)) (eo : os = [.int .u8 b] :: rs) :
    ACall Try.prog 51 [.ref 0 2 0 0, .int .i64 1] [.live 2 [[.list 1 os, .bool false]]] (fun r h => r = .int .i64 b ∧ ∃ j, h = .live 2 [[.list 1 rs, .bool false]] :: j) := by
  have huo : Up0 os := by rw [eo]; exact ⟨by simp only [uptoLL, uptoL, AV.upto, hu.get]; rfl⟩
  (refine ACall.ofI Try.func51 (by kernel_rfl) (by kernel_rfl) fun w hw => ?_); (obtain ⟨wbin, wcmp, wun, wconv, wnot, wbeq, wmm, wscmp, wsadd, wslen, wsat, weqs, wlen, wnlen, wofNat, wtake, wdrop, wapp, wzero, wnat⟩ := w); (have hbin : wbin = binStd := congrArg Prims.bin hw); (have hcmp : wcmp = cmpStd := congrArg Prims.cmp hw); (have hun : wun = unStd := congrArg Prims.un hw); (have hconv : wconv = fun k n => k.wrap n := congrArg Prims.conv hw); (have hnot : wnot = fun b => !b := congrArg Prims.not hw); (have hbeq : wbeq = fun a b => a == b := congrArg Prims.beq hw); (have hmm : wmm = maxI := congrArg Prims.mm hw); (have hscmp : wscmp = scmpStd := congrArg Prims.scmp hw); (have hsadd : wsadd = fun x y => x ++ y := congrArg Prims.sadd hw); (have hslen : wslen = fun s => (s.size : Int) := congrArg Prims.slen hw); (have hsat : wsat = std.sat := congrArg Prims.sat hw); (have heqs : weqs = fun a b os => (eqOffs a b os).getD false := congrArg Prims.eqs hw); (have hlen : wlen = fun es => (es.length : Int) := congrArg Prims.len hw); (have hnlen : wnlen = fun es => es.length := congrArg Prims.nlen hw); (have hofNat : wofNat = (fun n : Nat => (n : Int)) := congrArg Prims.ofNat hw); (have htake : wtake = fun es b => es.take b.toNat := congrArg Prims.take hw); (have hdrop : wdrop = fun es a => es.drop a.toNat := congrArg Prims.drop hw); (have happ : wapp = fun a b => a ++ b := congrArg Prims.app hw); (have hzero : wzero = fun n z => List.replicate n.toNat z := congrArg Prims.zero hw); (have hnat : wnat = fun n => n.toNat := congrArg Prims.nat hw); (conv => arg 2; cbv); (generalize hP : Try.prog = P); cbv
  refine Call.of (ACall.one (s := 0) (by rw [← hP]; exact e_take os huo 1 (by decide) (by rw [eo]; simp) [[.int .u8 b]] rs (by rw [eo]; rfl) (by rw [eo]; rfl)) ⟨by simp only [uptoLL, uptoL, AV.upto, huo.get]; rfl⟩ rfl rfl rfl ?_)
  rintro r hD ⟨rfl, j, rfl⟩
  refine ⟨rfl, _, _, rfl, ⟨by simp only [uptoLL, uptoL, AV.upto, hu.get]; rfl⟩, ?_⟩
  cbv
  have l1 : wlen [[.int .u8 b]] = 1 := by rw [hlen]; rfl
  have c1 : wconv .i64 b = b := by rw [hconv]; show IntKind.i64.wrap b = b; rw [IntKind.wrap_i64]; omega
  have c2 : wbin .or .i64 (wbin .shl .i64 0 8) b = b := by rw [hbin, i_or8 (by decide) (by decide) hb.1 (by omega)]; omega
  have c3 : wbin .add .i64 0 1 = 1 := by rw [hbin]; rfl
  have c4 : wcmp .lss 0 1 = true := by rw [hcmp]; rfl
  have c5 : wcmp .lss 1 1 = false := by rw [hcmp]; rfl
  (refine Loop.rounds hw 2 ?_; cbv)
  repeat' (first
    | (simp only [l1, c4]; cbv)
    | (simp only [l1, c5]; cbv)
    | (refine Idx.mk [.int .u8 b] (by decide) rfl ?_; cbv)
    | (refine Nn.mk (by decide) ?_)
    | (simp only [c1, c2, c3]; cbv))
  exact ⟨_, rfl⟩
set_option maxHeartbeats 1000000 in
theorem e_num2 (rs : List (List AV)) (hu : Up0 rs) (a b n : Int) (ha : 0 ≤ a ∧ a ≤ 255) (hb : 0 ≤ b ∧ b ≤ 255) (en : n = a * 256 + b) (os : List (List AV)) (eo : os = [.int .u8 a] :: [.int .u8 b] :: rs) :
    ACall Try.prog 51 [.ref 0 2 0 0, .int .i64 2] [.live 2 [[.list 1 os, .bool false]]] (fun r h => r = .int .i64 n ∧ ∃ j, h = .live 2 [[.list 1 rs, .bool false]] :: j) := by
  have huo : Up0 os := by rw [eo]; exact ⟨by simp only [uptoLL, uptoL, AV.upto, hu.get]; rfl⟩
  (refine ACall.ofI Try.func51 (by kernel_rfl) (by kernel_rfl) fun w hw => ?_); (obtain ⟨wbin, wcmp, wun, wconv, wnot, wbeq, wmm, wscmp, wsadd, wslen, wsat, weqs, wlen, wnlen, wofNat, wtake, wdrop, wapp, wzero, wnat⟩ := w); (have hbin : wbin = binStd := congrArg Prims.bin hw); (have hcmp : wcmp = cmpStd := congrArg Prims.cmp hw); (have hun : wun = unStd := congrArg Prims.un hw); (have hconv : wconv = fun k n => k.wrap n := congrArg Prims.conv hw); (have hnot : wnot = fun b => !b := congrArg Prims.not hw); (have hbeq : wbeq = fun a b => a == b := congrArg Prims.beq hw); (have hmm : wmm = maxI := congrArg Prims.mm hw); (have hscmp : wscmp = scmpStd := congrArg Prims.scmp hw); (have hsadd : wsadd = fun x y => x ++ y := congrArg Prims.sadd hw); (have hslen : wslen = fun s => (s.size : Int) := congrArg Prims.slen hw); (have hsat : wsat = std.sat := congrArg Prims.sat hw); (have heqs : weqs = fun a b os => (eqOffs a b os).getD false := congrArg Prims.eqs hw); (have hlen : wlen = fun es => (es.length : Int) := congrArg Prims.len hw); (have hnlen : wnlen = fun es => es.length := congrArg Prims.nlen hw); (have hofNat : wofNat = (fun n : Nat => (n : Int)) := congrArg Prims.ofNat hw); (have htake : wtake = fun es b => es.take b.toNat := congrArg Prims.take hw); (have hdrop : wdrop = fun es a => es.drop a.toNat := congrArg Prims.drop hw); (have happ : wapp = fun a b => a ++ b := congrArg Prims.app hw); (have hzero : wzero = fun n z => List.replicate n.toNat z := congrArg Prims.zero hw); (have hnat : wnat = fun n => n.toNat := congrArg Prims.nat hw); (conv => arg 2; cbv); (generalize hP : Try.prog = P); cbv
  refine Call.of (ACall.one (s := 0) (by rw [← hP]; exact e_take os huo 2 (by decide) (by rw [eo]; simp) [[.int .u8 a], [.int .u8 b]] rs (by rw [eo]; rfl) (by rw [eo]; rfl)) ⟨by simp only [uptoLL, uptoL, AV.upto, huo.get]; rfl⟩ rfl rfl rfl ?_)
  rintro r hD ⟨rfl, j, rfl⟩
  refine ⟨rfl, _, _, rfl, ⟨by simp only [uptoLL, uptoL, AV.upto, hu.get]; rfl⟩, ?_⟩
  cbv
  have l1 : wlen [[.int .u8 a], [.int .u8 b]] = 2 := by rw [hlen]; rfl
  have c0 : wconv .i64 a = a := by rw [hconv]; show IntKind.i64.wrap a = a; rw [IntKind.wrap_i64]; omega
  have c1 : wconv .i64 b = b := by rw [hconv]; show IntKind.i64.wrap b = b; rw [IntKind.wrap_i64]; omega
  have d1 : wbin .or .i64 (wbin .shl .i64 0 8) a = a := by rw [hbin, i_or8 (by decide) (by decide) ha.1 (by omega)]; omega
  have d2 : wbin .or .i64 (wbin .shl .i64 a 8) b = n := by rw [hbin, i_or8 ha.1 (by omega) hb.1 (by omega), en]
  have c3 : wbin .add .i64 0 1 = 1 := by rw [hbin]; rfl
  have c3' : wbin .add .i64 1 1 = 2 := by rw [hbin]; rfl
  have c4 : wcmp .lss 0 2 = true := by rw [hcmp]; rfl
  have c4' : wcmp .lss 1 2 = true := by rw [hcmp]; rfl
  have c5 : wcmp .lss 2 2 = false := by rw [hcmp]; rfl
  (refine Loop.rounds hw 3 ?_; cbv)
  repeat' (first
    | (simp only [l1, c4]; cbv)
    | (simp only [l1, c4']; cbv)
    | (simp only [l1, c5]; cbv)
    | (refine Idx.mk [.int .u8 a] (by decide) rfl ?_; cbv)
    | (refine Idx.mk [.int .u8 b] (by decide) rfl ?_; cbv)
    | (refine Nn.mk (by decide) ?_)
    | (simp only [c0, c1, d1, d2, c3, c3']; cbv))
  exact ⟨_, rfl⟩
end Go.Proofs.Ytekhigoblbkiaaa

/- Entries, by the engine: Open. -/
set_option linter.unusedVariables false
set_option linter.unusedSimpArgs false
namespace Go.Proofs.Ytekhigoblbkiaaa
open Go Go.RowKit Go.Eng
set_option maxRecDepth 100000
theorem uptoLL_app : ∀ (a b : List (List AV)), uptoLL 0 (a ++ b) = (uptoLL 0 a && uptoLL 0 b)
  | [], b => rfl
  | x :: a, b => by simp only [List.cons_append, uptoLL, uptoLL_app a b, Bool.and_assoc]
/-- The box's head. -/
def boxS : ByteArray := ⟨#[66, 79, 88, 49]⟩
theorem up_rd {q : List (List AV)} (hq : Up0 q) : Up0 [[AV.list 1 q, AV.bool false]] := ⟨by simp only [uptoLL, uptoL, AV.upto, hq.get]; rfl⟩
theorem up_cons {b : Int} {q : List (List AV)} (hq : Up0 q) : Up0 ([AV.int .u8 b] :: q) := ⟨by simp only [uptoLL, uptoL, AV.upto, hq.get]; rfl⟩
theorem up_app {a b : List (List AV)} (ha : Up0 a) (hb : Up0 b) : Up0 (a ++ b) := ⟨by rw [uptoLL_app, ha.get, hb.get]; rfl⟩
def EntOu (bs : List (List Int)) (k : Int) : Option (List (List AV) × Nat) → Prop
  | none => k = 0
  | some (u, m) => 0 < k ∧ u = (bs.take k.toNat).map bsRow ∧ m = k.toNat ∧ Up0 u
set_option maxHeartbeats 4000000 in
theorem e_entry (c : Bool) (bs : List (List Int)) (hok : EnOk (c, bs)) (hr : Right (c, bs)) (rest q us : List (List AV)) (hur : Up0 rest) (hq : q = (put1 (c, bs)).map bRow ++ rest) (hus : us = bs.map bsRow) :
    ACall Try.prog 52 [.ref 0 2 0 0] [.live 2 [[.list 1 q, .bool false]]] (fun r h => r = .tuple [.agg [.bool c, .list 1 us], .bool true] ∧ h = [.live 2 [[.list 1 rest, .bool false]]]) := by
  refine ACall.give ?_
  obtain ⟨bf, ebf⟩ : ∃ z, z = (bs.flatMap putB).map bRow ++ rest := ⟨_, rfl⟩
  obtain ⟨cv, ecv⟩ : ∃ v : Int, v = if c then 1 else 0 := ⟨_, rfl⟩
  obtain ⟨bn, ebn⟩ : ∃ v : Int, v = bs.length := ⟨_, rfl⟩
  obtain ⟨q1, eq1⟩ : ∃ z, z = [AV.int .u8 bn] :: bf := ⟨_, rfl⟩
  have hqq : q = [AV.int .u8 cv] :: q1 := by
    rw [hq, eq1, ebf, ecv, ebn]
    unfold put1
    simp only [List.map_cons, List.cons_append]
    rfl
  have hubf : Up0 bf := by rw [ebf]; exact up_app (up_b _) hur
  have huq1 : Up0 q1 := by rw [eq1]; exact up_cons hubf
  have huq : Up0 q := by rw [hqq]; exact up_cons huq1
  have huu : Up0 us := by rw [hus]; exact up_bs bs
  have hbn : 0 ≤ bn ∧ bn ≤ 255 := by have := hr.1; simp only at this; omega
  have hbt : bn.toNat = bs.length := by omega
  have hcv : 0 ≤ cv ∧ cv ≤ 255 := by rw [ecv]; cases c <;> decide
  clear ebn
  (refine ACall.ofI Try.func52 (by kernel_rfl) (by kernel_rfl) fun w hw => ?_); (obtain ⟨wbin, wcmp, wun, wconv, wnot, wbeq, wmm, wscmp, wsadd, wslen, wsat, weqs, wlen, wnlen, wofNat, wtake, wdrop, wapp, wzero, wnat⟩ := w); (have hbin : wbin = binStd := congrArg Prims.bin hw); (have hcmp : wcmp = cmpStd := congrArg Prims.cmp hw); (have hun : wun = unStd := congrArg Prims.un hw); (have hconv : wconv = fun k n => k.wrap n := congrArg Prims.conv hw); (have hnot : wnot = fun b => !b := congrArg Prims.not hw); (have hbeq : wbeq = fun a b => a == b := congrArg Prims.beq hw); (have hmm : wmm = maxI := congrArg Prims.mm hw); (have hscmp : wscmp = scmpStd := congrArg Prims.scmp hw); (have hsadd : wsadd = fun x y => x ++ y := congrArg Prims.sadd hw); (have hslen : wslen = fun s => (s.size : Int) := congrArg Prims.slen hw); (have hsat : wsat = std.sat := congrArg Prims.sat hw); (have heqs : weqs = fun a b os => (eqOffs a b os).getD false := congrArg Prims.eqs hw); (have hlen : wlen = fun es => (es.length : Int) := congrArg Prims.len hw); (have hnlen : wnlen = fun es => es.length := congrArg Prims.nlen hw); (have hofNat : wofNat = (fun n : Nat => (n : Int)) := congrArg Prims.ofNat hw); (have htake : wtake = fun es b => es.take b.toNat := congrArg Prims.take hw); (have hdrop : wdrop = fun es a => es.drop a.toNat := congrArg Prims.drop hw); (have happ : wapp = fun a b => a ++ b := congrArg Prims.app hw); (have hzero : wzero = fun n z => List.replicate n.toNat z := congrArg Prims.zero hw); (have hnat : wnat = fun n => n.toNat := congrArg Prims.nat hw); (conv => arg 2; cbv); (generalize hP : Try.prog = P); cbv
  refine Call.of (ACall.one (s := 0) (by rw [← hP]; exact e_num1 q1 huq1 cv hcv q hqq) (up_rd huq) rfl rfl rfl ?_)
  rintro r hD ⟨rfl, j, rfl⟩
  refine ⟨rfl, _, _, rfl, up_rd huq1, ?_⟩
  cbv
  have ce : wcmp .eql cv 1 = c := by rw [hcmp, ecv]; cases c <;> rfl
  simp only [ce]
  refine Call.of (ACall.one (s := 0) (by rw [← hP]; exact e_num1 bf hubf bn hbn q1 eq1) (up_rd huq1) rfl rfl rfl ?_)
  rintro r hD ⟨rfl, j, rfl⟩
  refine ⟨rfl, _, _, rfl, up_rd hubf, ?_⟩
  cbv
  refine Loop.dataN hw (S := Int × List (List AV) × Option (List (List AV) × Nat)) (fun s => fr 32 [(0, .ref 0 2 0 0), (2, .ref 1 2 0 0), (4, .int .i64 cv), (5, .ref 2 2 0 0), (13, .int .i64 bn), (14, .int .i64 s.1)])
    (fun s => match s.2.2 with | none => [.live 2 [[.list 1 s.2.1, .bool false]], .live 2 [[.bool false, .nils]], .live 2 [[.bool c, .nils]]] | some (u, m) => [.live 2 [[.list 1 s.2.1, .bool false]], .live 2 [[.bool false, .nils]], .live 2 [[.bool c, .sl 3 1 0 m]], .live 1 u])
    (fun s => 0 ≤ s.1 ∧ s.1 ≤ bn ∧ s.2.1 = ((bs.drop s.1.toNat).flatMap putB).map bRow ++ rest ∧ Up0 s.2.1 ∧ EntOu bs s.1 s.2.2) (fun s => (bn - s.1).toNat) (0, bf, none) (by (refine Wk.eqzN (id) (by intro i hi; first | rfl | (have hh : i = 0 ∨ i = 1 := (by omega); rcases hh with hh | hh <;> subst hh <;> rfl)) (Nat.le_of_ble_eq_true rfl) (by first | exact fun i _ j _ e => e | (simp only [List.length_cons, List.length_nil]; decide)) ?_; cbv; (repeat' (first | exact trivial | rfl | assumption | apply And.intro | (simp only [hbin, hcmp, hun, hconv, hnot, hbeq, hmm, hscmp, hsadd, hslen, hsat, heqs, hofNat, binStd, cmpStd, unStd, scmpStd, maxI, Bool.not_eq_true', Bool.not_eq_false', decide_eq_true_eq, decide_eq_false_iff_not, Int.not_lt, Int.not_le, if_true, if_false, Bool.false_eq_true, beq_iff_eq, bne_iff_ne, ne_eq, Bool.not_eq_eq_eq_not, Bool.not_true, Bool.not_false, beq_eq_false_iff_ne, bne_eq_false_iff_eq, Int.ofNat_eq_natCast, Bool.not_not, not_true_eq_false, not_false_eq_true, reduceCtorEq]; first | done | assumption) | exact RowsZ.same (by assumption) (by first | assumption | rfl) | exact FzL.mk rfl rfl rfl (by assumption) (by first | assumption | rfl) (by decide) | (refine RowsZ.one ?_; cbv)))))
    ⟨Int.le_refl _, hbn.1, ebf, hubf, rfl⟩ ?_
  rintro ⟨k, qk, ou⟩ hinv Q' hN hE hR'
  have hinv : 0 ≤ k ∧ k ≤ bn ∧ qk = ((bs.drop k.toNat).flatMap putB).map bRow ++ rest ∧ Up0 qk ∧ EntOu bs k ou := hinv
  obtain ⟨hk0, hk1, hqk, huk, hou⟩ := hinv
  by_cases hkn : k < bn
  · have ck : wcmp .lss k bn = true := by rw [hcmp]; simp [cmpStd]; exact hkn
    obtain ⟨k2, ek2⟩ : ∃ z, z = k + 1 := ⟨_, rfl⟩
    have a4 : wbin .add .i64 k 1 = k2 := by rw [hbin, i_add (by omega) (by omega), ek2]
    have hT : (bn - k2).toNat < (bn - k).toNat := by omega
    obtain ⟨b, hb⟩ : ∃ b, bs[k.toNat]? = some b := ⟨_, List.getElem?_eq_getElem (show k.toNat < bs.length by omega)⟩
    have hbm := List.mem_of_getElem? hb
    have hdr : bs.drop k.toNat = b :: bs.drop k2.toNat := by
      obtain ⟨h1, h2⟩ := List.getElem?_eq_some_iff.1 hb
      rw [show k2.toNat = k.toNat + 1 by omega, ← h2]; exact List.drop_eq_getElem_cons h1
    have htk : bs.take k2.toNat = bs.take k.toNat ++ [b] := by rw [ek2]; exact take_nx hk0 hb
    obtain ⟨r2, er2⟩ : ∃ z, z = ((bs.drop k2.toNat).flatMap putB).map bRow ++ rest := ⟨_, rfl⟩
    obtain ⟨br, ebr⟩ : ∃ z, z = b.map bRow := ⟨_, rfl⟩
    obtain ⟨nb, enb⟩ : ∃ z, z = b.length := ⟨_, rfl⟩
    obtain ⟨nI, enI⟩ : ∃ z : Int, z = b.length := ⟨_, rfl⟩
    have hnI : nI.toNat = nb ∧ 0 ≤ nI ∧ nI ≤ 255 := by have := hr.2 b hbm; omega
    have hur2 : Up0 r2 := by rw [er2]; exact up_app (up_b _) hur
    have hubr : Up0 br := by rw [ebr]; exact up_b _
    have hbrl : nb = br.length := by rw [ebr, enb]; simp
    obtain ⟨t1, et1⟩ : ∃ z, z = br ++ r2 := ⟨_, rfl⟩
    have hut1 : Up0 t1 := by rw [et1]; exact up_app hubr hur2
    have hqk2 : qk = [AV.int .u8 nI] :: t1 := by
      rw [hqk, hdr, List.flatMap_cons, et1, ebr, er2, enI]; unfold putB; simp only [List.map_append, List.map_cons, List.cons_append, List.append_assoc]; rfl
    have hnum := e_num1 t1 hut1 nI ⟨hnI.2.1, hnI.2.2⟩ qk hqk2
    have htake := e_take t1 hut1 nI hnI.2.1 (by rw [et1, List.length_append]; omega) br r2 (by rw [et1, hnI.1, hbrl, List.take_left]) (by rw [et1, hnI.1, hbrl, List.drop_left])
    have hrok : rowsOk br = true := by rw [ebr]; exact rowsOk_b b
    have hnb : nb ≤ 255 := by omega
    clear hnI enI
    obtain ⟨u2, eu2⟩ : ∃ z, z = (bs.take k2.toNat).map bsRow := ⟨_, rfl⟩
    have huu2 : Up0 u2 := by rw [eu2]; exact up_bs _
    obtain ⟨m2, em2⟩ : ∃ z, z = k2.toNat := ⟨_, rfl⟩
    have hou2 : EntOu bs k2 (some (u2, m2)) := ⟨by omega, eu2, em2, huu2⟩
    cases ou with
    | none =>
      have hou : k = 0 := hou
      have hu21 : u2 = [[.list 1 br]] := by rw [eu2, htk, hou, ebr]; rfl
      have hm21 : m2 = 1 := by omega
      cbv
      simp only [ck]
      cbv
      refine Call.of (ACall.one (s := 0) (by rw [← hP]; exact hnum) (up_rd huk) rfl rfl rfl ?_)
      rintro r hD ⟨rfl, j, rfl⟩
      refine ⟨rfl, _, _, rfl, up_rd hut1, ?_⟩
      cbv
      refine Call.of (ACall.one (s := 0) (by rw [← hP]; exact htake) (up_rd hut1) rfl rfl rfl ?_)
      rintro r hD ⟨rfl, j, rfl⟩
      refine ⟨hubr.list, _, _, rfl, up_rd hur2, ?_⟩
      cbv
      by_cases hb0 : br = []
      · repeat' (first
          | (refine And.intro ?_ ?_)
          | (refine AppN.nil hb0 ?_; cbv)
          | (refine Ob.mk (by decide) ?_; cbv))
        all_goals
          simp only [a4]
          refine hN (k2, r2, some ([[.list 1 br]], 1)) _ _ ?hx ?hi hT
          case hx => (refine Wk.eqzN (fun j => [0, 1, 2, 3].getD j 0) (by intro i hi; first | rfl | (have hh : i = 0 ∨ i = 1 := (by omega); rcases hh with hh | hh <;> subst hh <;> rfl)) (Nat.le_of_ble_eq_true rfl) (by first | exact fun i _ j _ e => e | (simp only [List.length_cons, List.length_nil]; decide)) ?_; cbv; (repeat' (first | exact trivial | rfl | assumption | apply And.intro | (simp only [hbin, hcmp, hun, hconv, hnot, hbeq, hmm, hscmp, hsadd, hslen, hsat, heqs, hofNat, binStd, cmpStd, unStd, scmpStd, maxI, Bool.not_eq_true', Bool.not_eq_false', decide_eq_true_eq, decide_eq_false_iff_not, Int.not_lt, Int.not_le, if_true, if_false, Bool.false_eq_true, beq_iff_eq, bne_iff_ne, ne_eq, Bool.not_eq_eq_eq_not, Bool.not_true, Bool.not_false, beq_eq_false_iff_ne, bne_eq_false_iff_eq, Int.ofNat_eq_natCast, Bool.not_not, not_true_eq_false, not_false_eq_true, reduceCtorEq]; first | done | assumption) | exact RowsZ.same (by assumption) (by first | assumption | rfl) | exact FzL.mk rfl rfl rfl (by assumption) (by first | assumption | rfl) (by decide) | (refine RowsZ.one ?_; cbv))))
          case hi => exact ⟨by simp only; omega, by simp only; omega, er2, hur2, by simp only; rw [← hu21, ← hm21]; exact hou2⟩
      · repeat' (first
          | (refine And.intro ?_ ?_)
          | (refine AppN.mk nb hbrl hb0 (by omega) (by omega) ?_; cbv)
          | (refine Ob.mk (by decide) ?_; cbv))
        all_goals
          simp only [a4]
          refine hN (k2, r2, some ([[.list 1 br]], 1)) _ _ ?hx ?hi hT
          case hx => (refine Wk.eqzN (fun j => [0, 1, 2, 4].getD j 0) (by intro i hi; first | rfl | (have hh : i = 0 ∨ i = 1 := (by omega); rcases hh with hh | hh <;> subst hh <;> rfl)) (Nat.le_of_ble_eq_true rfl) (by first | exact fun i _ j _ e => e | (simp only [List.length_cons, List.length_nil]; decide)) ?_; cbv; (repeat' (first | exact trivial | rfl | assumption | apply And.intro | (simp only [hbin, hcmp, hun, hconv, hnot, hbeq, hmm, hscmp, hsadd, hslen, hsat, heqs, hofNat, binStd, cmpStd, unStd, scmpStd, maxI, Bool.not_eq_true', Bool.not_eq_false', decide_eq_true_eq, decide_eq_false_iff_not, Int.not_lt, Int.not_le, if_true, if_false, Bool.false_eq_true, beq_iff_eq, bne_iff_ne, ne_eq, Bool.not_eq_eq_eq_not, Bool.not_true, Bool.not_false, beq_eq_false_iff_ne, bne_eq_false_iff_eq, Int.ofNat_eq_natCast, Bool.not_not, not_true_eq_false, not_false_eq_true, reduceCtorEq]; first | done | assumption) | exact RowsZ.same (by assumption) (by first | assumption | rfl) | exact FzL.mk rfl rfl rfl (by assumption) (by first | assumption | rfl) (by decide) | (refine RowsZ.one ?_; cbv))))
          case hi => exact ⟨by simp only; omega, by simp only; omega, er2, hur2, by simp only; rw [← hu21, ← hm21]; exact hou2⟩
    | some p =>
      obtain ⟨u, m⟩ := p
      have hou : 0 < k ∧ u = (bs.take k.toNat).map bsRow ∧ m = k.toNat ∧ Up0 u := hou
      obtain ⟨hk00, hu1, hm1, huu⟩ := hou
      have hul : m = u.length := by rw [hu1, hm1]; simp; omega
      have hu21 : u2 = u ++ [[.list 1 br]] := by rw [eu2, htk, hu1, ebr, List.map_append]; rfl
      have hm21 : m2 = m + 1 := by omega
      cbv
      simp only [ck]
      cbv
      refine Call.of (ACall.one (s := 0) (by rw [← hP]; exact hnum) (up_rd huk) rfl rfl rfl ?_)
      rintro r hD ⟨rfl, j, rfl⟩
      refine ⟨rfl, _, _, rfl, up_rd hut1, ?_⟩
      cbv
      refine Call.of (ACall.one (s := 0) (by rw [← hP]; exact htake) (up_rd hut1) rfl rfl rfl ?_)
      rintro r hD ⟨rfl, j, rfl⟩
      refine ⟨hubr.list, _, _, rfl, up_rd hur2, ?_⟩
      cbv
      by_cases hb0 : br = []
      · obtain ⟨f2, ef2⟩ : ∃ z, z = u ++ [[AV.emp]] := ⟨_, rfl⟩
        repeat' (first
          | (refine And.intro ?_ ?_)
          | (refine AppN.nil hb0 ?_; cbv)
          | (refine App.mk f2 m2 ef2 hul hm21 (by omega) (by omega) ?_; cbv))
        all_goals
          simp only [a4]
          refine hN (k2, r2, some (u2, m2)) _ _ ?hx ?hi hT
          case hx => (refine Wk.eqzN (fun j => [0, 1, 2, 4].getD j 0) (by intro i hi; first | rfl | (have hh : i = 0 ∨ i = 1 := (by omega); rcases hh with hh | hh <;> subst hh <;> rfl)) (Nat.le_of_ble_eq_true rfl) (by first | exact fun i _ j _ e => e | (simp only [List.length_cons, List.length_nil]; decide)) ?_; cbv; (repeat' (first | exact trivial | rfl | assumption | (refine RowsZ.app (es0 := u) (by assumption) (by assumption) (by assumption) ?_; cbv) | apply And.intro | (simp only [hbin, hcmp, hun, hconv, hnot, hbeq, hmm, hscmp, hsadd, hslen, hsat, heqs, hofNat, binStd, cmpStd, unStd, scmpStd, maxI, Bool.not_eq_true', Bool.not_eq_false', decide_eq_true_eq, decide_eq_false_iff_not, Int.not_lt, Int.not_le, if_true, if_false, Bool.false_eq_true, beq_iff_eq, bne_iff_ne, ne_eq, Bool.not_eq_eq_eq_not, Bool.not_true, Bool.not_false, beq_eq_false_iff_ne, bne_eq_false_iff_eq, Int.ofNat_eq_natCast, Bool.not_not, not_true_eq_false, not_false_eq_true, reduceCtorEq]; first | done | assumption) | exact RowsZ.same (by assumption) (by first | assumption | rfl) | exact FzL.mk rfl rfl rfl (by assumption) (by first | assumption | rfl) (by decide) | (refine RowsZ.one ?_; cbv))))
          case hi => exact ⟨by simp only; omega, by simp only; omega, er2, hur2, hou2⟩
      · obtain ⟨f2, ef2⟩ : ∃ z, z = u ++ [[AV.sl 4 1 0 nb]] := ⟨_, rfl⟩
        repeat' (first
          | (refine And.intro ?_ ?_)
          | (refine AppN.mk nb hbrl hb0 (by omega) (by omega) ?_; cbv)
          | (refine App.mk f2 m2 ef2 hul hm21 (by omega) (by omega) ?_; cbv))
        all_goals
          simp only [a4]
          refine hN (k2, r2, some (u2, m2)) _ _ ?hx ?hi hT
          case hx => (refine Wk.eqzN (fun j => [0, 1, 2, 5].getD j 0) (by intro i hi; first | rfl | (have hh : i = 0 ∨ i = 1 := (by omega); rcases hh with hh | hh <;> subst hh <;> rfl)) (Nat.le_of_ble_eq_true rfl) (by first | exact fun i _ j _ e => e | (simp only [List.length_cons, List.length_nil]; decide)) ?_; cbv; (repeat' (first | exact trivial | rfl | assumption | (refine RowsZ.app (es0 := u) (by assumption) (by assumption) (by assumption) ?_; cbv) | apply And.intro | (simp only [hbin, hcmp, hun, hconv, hnot, hbeq, hmm, hscmp, hsadd, hslen, hsat, heqs, hofNat, binStd, cmpStd, unStd, scmpStd, maxI, Bool.not_eq_true', Bool.not_eq_false', decide_eq_true_eq, decide_eq_false_iff_not, Int.not_lt, Int.not_le, if_true, if_false, Bool.false_eq_true, beq_iff_eq, bne_iff_ne, ne_eq, Bool.not_eq_eq_eq_not, Bool.not_true, Bool.not_false, beq_eq_false_iff_ne, bne_eq_false_iff_eq, Int.ofNat_eq_natCast, Bool.not_not, not_true_eq_false, not_false_eq_true, reduceCtorEq]; first | done | assumption) | exact RowsZ.same (by assumption) (by first | assumption | rfl) | exact FzL.mk rfl rfl rfl (by assumption) (by first | assumption | rfl) (by decide) | (refine RowsZ.one ?_; cbv))))
          case hi => exact ⟨by simp only; omega, by simp only; omega, er2, hur2, hou2⟩
  · have ck : wcmp .lss k bn = false := by rw [hcmp]; simp [cmpStd]; omega
    have ekb : k.toNat = bs.length := by omega
    have hqr : qk = rest := by rw [hqk, List.drop_of_length_le (by omega)]; rfl
    have cl : wcmp .leq cv 1 = true := by rw [hcmp, ecv]; cases c <;> rfl
    cases ou with
    | none =>
      have hou : k = 0 := hou
      have hus0 : us = [] := by rw [hus]; have : bs = [] := List.length_eq_zero_iff.1 (by omega); rw [this]; rfl
      cbv
      simp only [ck]
      refine hE _ _ _ ?_
      cbv
      simp only [cl]
      rw [hqr]
      refine WkB.mk ?_
      (refine Wk.eqzN (id) (by intro i hi; first | rfl | (have hh : i = 0 ∨ i = 1 := (by omega); rcases hh with hh | hh <;> subst hh <;> rfl)) (Nat.le_of_ble_eq_true rfl) (by first | exact fun i _ j _ e => e | (simp only [List.length_cons, List.length_nil]; decide)) ?_; cbv; (repeat' (first | exact trivial | rfl | assumption | apply And.intro | (simp only [hbin, hcmp, hun, hconv, hnot, hbeq, hmm, hscmp, hsadd, hslen, hsat, heqs, hofNat, binStd, cmpStd, unStd, scmpStd, maxI, Bool.not_eq_true', Bool.not_eq_false', decide_eq_true_eq, decide_eq_false_iff_not, Int.not_lt, Int.not_le, if_true, if_false, Bool.false_eq_true, beq_iff_eq, bne_iff_ne, ne_eq, Bool.not_eq_eq_eq_not, Bool.not_true, Bool.not_false, beq_eq_false_iff_ne, bne_eq_false_iff_eq, Int.ofNat_eq_natCast, Bool.not_not, not_true_eq_false, not_false_eq_true, reduceCtorEq]; first | done | assumption) | exact RowsZ.same (by assumption) (by first | assumption | rfl) | exact FzL.mk rfl rfl rfl (by assumption) (by first | assumption | rfl) (by decide) | (refine RowsZ.one ?_; cbv))))
    | some p =>
      obtain ⟨u, m⟩ := p
      have hou : 0 < k ∧ u = (bs.take k.toNat).map bsRow ∧ m = k.toNat ∧ Up0 u := hou
      obtain ⟨hk00, hu1, hm1, huu⟩ := hou
      have huus : us = u := by rw [hu1, hus, List.take_of_length_le (by omega)]
      have hul : m = us.length := by rw [hus, hm1, ekb]; simp
      cbv
      simp only [ck]
      refine hE _ _ _ ?_
      cbv
      simp only [cl]
      rw [hqr, ← huus]
      refine WkB.mk ?_
      (refine Wk.eqzN (id) (by intro i hi; first | rfl | (have hh : i = 0 ∨ i = 1 := (by omega); rcases hh with hh | hh <;> subst hh <;> rfl)) (Nat.le_of_ble_eq_true rfl) (by first | exact fun i _ j _ e => e | (simp only [List.length_cons, List.length_nil]; decide)) ?_; cbv; (repeat' (first | exact trivial | rfl | assumption | apply And.intro | (simp only [hbin, hcmp, hun, hconv, hnot, hbeq, hmm, hscmp, hsadd, hslen, hsat, heqs, hofNat, binStd, cmpStd, unStd, scmpStd, maxI, Bool.not_eq_true', Bool.not_eq_false', decide_eq_true_eq, decide_eq_false_iff_not, Int.not_lt, Int.not_le, if_true, if_false, Bool.false_eq_true, beq_iff_eq, bne_iff_ne, ne_eq, Bool.not_eq_eq_eq_not, Bool.not_true, Bool.not_false, beq_eq_false_iff_ne, bne_eq_false_iff_eq, Int.ofNat_eq_natCast, Bool.not_not, not_true_eq_false, not_false_eq_true, reduceCtorEq]; first | done | assumption) | exact RowsZ.same (by assumption) (by first | assumption | rfl) | exact FzL.mk rfl rfl rfl (by assumption) (by first | assumption | rfl) (by decide) | (refine RowsZ.one ?_; cbv))))
end Go.Proofs.Ytekhigoblbkiaaa

/- Entries, by the engine: Open. -/
set_option linter.unusedVariables false
set_option linter.unusedSimpArgs false
namespace Go.Proofs.Ytekhigoblbkiaaa
open Go Go.RowKit Go.Eng
set_option maxRecDepth 100000
def OpenOu (l : List En) (i : Int) : Option (List (List AV) × Nat) → Prop
  | none => i = 0
  | some (u, m) => 0 < i ∧ u = (l.take i.toNat).map enRow ∧ m = i.toNat ∧ Up0 u
set_option maxHeartbeats 4000000 in
theorem e_open (l : List En) (hok : ∀ e, e ∈ l → EnOk e) (hsz : sizeL l ≤ 200000) (hn : l.length ≤ 4096) (hr : ∀ e, e ∈ l → Right e) (rs : List (List AV)) (hrs : rs = (packB l).map bRow) (us : List (List AV)) (hus : us = l.map enRow) :
    PCalls Try.prog 12 [.list 1 rs] (· = .tuple [.list 2 us, .int .i64 0]) := by
  have hu : Up0 rs := by rw [hrs]; exact up_b _
  have hblen : (bodyB l).length ≤ 1000000 := by
    have hll : l.length ≤ 200000 := by unfold sizeL at hsz; omega
    unfold bodyB; rw [List.length_append, puts_len]
    show 6 + _ ≤ _
    omega
  obtain ⟨fs, efs⟩ : ∃ fs, fs = l.flatMap put1 := ⟨_, rfl⟩
  obtain ⟨v, ev⟩ : ∃ v, v = crF 65535#16 (bodyB l) := ⟨_, rfl⟩
  have hpk : packB l = hdB l.length ++ fs ++ sumB v := by unfold packB; rw [← ev, efs]; rfl
  have hrl : rs.length = 6 + fs.length + 2 := by rw [hrs, List.length_map, hpk]; simp only [List.length_append]; rfl
  have hpl : (packB l).length = 6 + fs.length + 2 := by rw [← hrl, hrs, List.length_map]
  have hfl : fs.length ≤ 1000000 := by
    have : (bodyB l).length = 6 + fs.length := by unfold bodyB; rw [List.length_append, efs]; rfl
    omega
  (refine PCalls.ofY Try.func12 (by kernel_rfl) (by kernel_rfl) fun w hw R hR => ?_); (obtain ⟨wbin, wcmp, wun, wconv, wnot, wbeq, wmm, wscmp, wsadd, wslen, wsat, weqs, wlen, wnlen, wofNat, wtake, wdrop, wapp, wzero, wnat⟩ := w); (have hbin : wbin = binStd := congrArg Prims.bin hw); (have hcmp : wcmp = cmpStd := congrArg Prims.cmp hw); (have hun : wun = unStd := congrArg Prims.un hw); (have hconv : wconv = fun k n => k.wrap n := congrArg Prims.conv hw); (have hnot : wnot = fun b => !b := congrArg Prims.not hw); (have hbeq : wbeq = fun a b => a == b := congrArg Prims.beq hw); (have hmm : wmm = maxI := congrArg Prims.mm hw); (have hscmp : wscmp = scmpStd := congrArg Prims.scmp hw); (have hsadd : wsadd = fun x y => x ++ y := congrArg Prims.sadd hw); (have hslen : wslen = fun s => (s.size : Int) := congrArg Prims.slen hw); (have hsat : wsat = std.sat := congrArg Prims.sat hw); (have heqs : weqs = fun a b os => (eqOffs a b os).getD false := congrArg Prims.eqs hw); (have hlen : wlen = fun es => (es.length : Int) := congrArg Prims.len hw); (have hnlen : wnlen = fun es => es.length := congrArg Prims.nlen hw); (have hofNat : wofNat = (fun n : Nat => (n : Int)) := congrArg Prims.ofNat hw); (have htake : wtake = fun es b => es.take b.toNat := congrArg Prims.take hw); (have hdrop : wdrop = fun es a => es.drop a.toNat := congrArg Prims.drop hw); (have happ : wapp = fun a b => a ++ b := congrArg Prims.app hw); (have hzero : wzero = fun n z => List.replicate n.toNat z := congrArg Prims.zero hw); (have hnat : wnat = fun n => n.toNat := congrArg Prims.nat hw); (conv => arg 2; cbv); (generalize hP : Try.prog = P); cbv
  (obtain ⟨L, eL, L0, Ln⟩ : ∃ L : Int, wlen rs = L ∧ 0 ≤ L ∧ L.toNat = rs.length := ⟨(rs.length : Int), by rw [hlen], Int.natCast_nonneg _, Int.toNat_natCast _⟩)
  simp only [eL]
  have c0 : wcmp .lss L 6 = false := by rw [hcmp]; simp [cmpStd]; omega
  simp only [c0]
  cbv
  obtain ⟨bs, ebs⟩ : ∃ bs, bs = boxS := ⟨_, rfl⟩
  have hhd : (packB l) = 66 :: 79 :: 88 :: 49 :: ((l.length / 256 : Nat) : Int) :: ((l.length % 256 : Nat) : Int) :: (fs ++ sumB v) := by rw [hpk]; simp [hdB]
  have tk : wtake rs 4 = bytesRows bs := by
    rw [htake, hrs, hhd, ebs]
    show [bRow 66, bRow 79, bRow 88, bRow 49] = bytesRows boxS
    rfl
  refine Nn.mk (by decide) (Le.mk (by rw [eL]; omega) (ToS.mk bs rfl tk ?_))
  cbv
  have s1 : wscmp .neq bs ⟨⟨[66, 79, 88, 49]⟩⟩ = false := by
    rw [hscmp, ebs]
    show scmpStd .neq boxS boxS = false
    simp [scmpStd]
  simp only [s1]
  cbv
  have hbok : BytesOk (packB l) := by
    intro x hx
    unfold packB at hx
    rcases List.mem_append.1 hx with h | h
    · rcases List.mem_append.1 h with h | h
      · exact hdB_ok hn x h
      · obtain ⟨e, he, h2⟩ := List.mem_flatMap.1 h
        exact put1_ok (hok e he) (hr e he) x h2
    · exact sumB_ok _ x h
  refine Call.stepE (by rw [← hP]; exact e_sum (packB l) hbok (by omega) 0 rs hrs (by unfold packB; rw [crF_end]; rfl)) (by exact Up0.one hu rfl) ?_
  cbv
  have s2 : wcmp .neq 0 0 = false := by rw [hcmp]; rfl
  simp only [s2]
  cbv
  obtain ⟨L2, eL2⟩ : ∃ z, z = L - 2 := ⟨_, rfl⟩
  have a1 : wbin .sub .i64 L 2 = L2 := by rw [hbin, i_sub (by omega) (by omega), eL2]
  obtain ⟨n0, en0⟩ : ∃ z : Int, z = ((l.length / 256 : Nat) : Int) := ⟨_, rfl⟩
  obtain ⟨n1, en1⟩ : ∃ z : Int, z = ((l.length % 256 : Nat) : Int) := ⟨_, rfl⟩
  obtain ⟨fr_, efr⟩ : ∃ q, q = fs.map bRow := ⟨_, rfl⟩
  have hufr : Up0 fr_ := by rw [efr]; exact up_b _
  have cut : wdrop (wtake rs L2) 4 = [.int .u8 n0] :: [.int .u8 n1] :: fr_ := by
    rw [hdrop, htake, hrs, hhd, efr, en0, en1]
    have e1 : L2.toNat = fs.length + 6 := by omega
    show ((List.map bRow _).take L2.toNat).drop 4 = _
    rw [e1, ← List.map_take]
    show List.map bRow (_ :: _ :: List.take fs.length (fs ++ sumB v)) = _
    rw [List.take_left]
    rfl
  simp only [eL, a1, cut]
  repeat' (first
    | (refine Nn.mk (by decide) ?_)
    | (refine Le.mk (by first | (rw [eL]; omega) | omega) ?_)
    | (simp only [cut]; cbv))
  obtain ⟨n, en⟩ : ∃ z : Int, z = l.length := ⟨_, rfl⟩
  have hn01 : (0 ≤ n0 ∧ n0 ≤ 255) ∧ (0 ≤ n1 ∧ n1 ≤ 255) ∧ n = n0 * 256 + n1 ∧ n.toNat = l.length := by omega
  have hrd : ∀ q : List (List AV), Up0 q → Up0 [[AV.list 1 q, AV.bool false]] := fun q hq => ⟨by simp only [uptoLL, uptoL, AV.upto, hq.get]; rfl⟩
  obtain ⟨os, eos⟩ : ∃ os, os = [AV.int .u8 n0] :: [AV.int .u8 n1] :: fr_ := ⟨_, rfl⟩
  have huos : Up0 os := by rw [eos]; exact ⟨by simp only [uptoLL, uptoL, AV.upto, hufr.get]; rfl⟩
  rw [← eos]
  refine Call.of (ACall.one (s := 0) (by rw [← hP]; exact e_num2 fr_ hufr n0 n1 n hn01.1 hn01.2.1 hn01.2.2.1 os eos) (hrd os huos) rfl rfl rfl ?_)
  rintro r hD ⟨rfl, j, rfl⟩
  refine ⟨rfl, _, _, rfl, hrd fr_ hufr, ?_⟩
  clear en0 en1 cut hhd en
  obtain ⟨hq1, hq2, hq3, hq4⟩ := hn01
  cbv
  have c9 : wcmp .gtr n 4096 = false := by rw [hcmp]; simp [cmpStd]; omega
  simp only [c9]
  cbv
  have hfs0 : fr_ = ((l.drop 0).flatMap put1).map bRow := by rw [efr, efs]; rfl
  refine Loop.data hw (S := Int × List (List AV) × Option (List (List AV) × Nat)) (fun s => fr 68 [(4, .ref 0 2 0 0), (6, match s.2.2 with | none => .nils | some (_, m) => .sl 1 2 0 m), (34, .int .i64 n), (35, .int .i64 s.1)])
    (fun s => match s.2.2 with | none => [.live 2 [[.list 1 s.2.1, .bool false]]] | some (u, _) => [.live 2 [[.list 1 s.2.1, .bool false]], .live 2 u])
    (fun s => 0 ≤ s.1 ∧ s.1 ≤ n ∧ s.2.1 = ((l.drop s.1.toNat).flatMap put1).map bRow ∧ Up0 s.2.1 ∧ OpenOu l s.1 s.2.2) (fun s => (n - s.1).toNat) (0, fr_, none) (by (refine Wk.eqz (id) (by first | exact fun i _ j _ e => e | (simp only [List.length_cons, List.length_nil]; decide)) ?_; cbv; (repeat' (first | exact trivial | rfl | assumption | apply And.intro | (simp only [hbin, hcmp, hun, hconv, hnot, hbeq, hmm, hscmp, hsadd, hslen, hsat, heqs, hofNat, binStd, cmpStd, unStd, scmpStd, maxI, Bool.not_eq_true', Bool.not_eq_false', decide_eq_true_eq, decide_eq_false_iff_not, Int.not_lt, Int.not_le, if_true, if_false, Bool.false_eq_true, beq_iff_eq, bne_iff_ne, ne_eq, Bool.not_eq_eq_eq_not, Bool.not_true, Bool.not_false, beq_eq_false_iff_ne, bne_eq_false_iff_eq, Int.ofNat_eq_natCast, Bool.not_not, not_true_eq_false, not_false_eq_true, reduceCtorEq]; first | done | assumption) | exact RowsZ.same (by assumption) (by first | assumption | rfl) | exact FzL.mk rfl rfl rfl (by assumption) (by first | assumption | rfl) (by decide) | (refine RowsZ.one ?_; cbv)))))
    ⟨Int.le_refl _, by simp only; omega, hfs0, hufr, rfl⟩ ?_
  rintro ⟨i, q, ou⟩ hinv Q' hN hE hR'
  have hinv : 0 ≤ i ∧ i ≤ n ∧ q = ((l.drop i.toNat).flatMap put1).map bRow ∧ Up0 q ∧ OpenOu l i ou := hinv
  obtain ⟨hi0, hi1, hq, huq, hou⟩ := hinv
  have m1 : wnot true = false := by rw [hnot]; rfl
  by_cases hin : i < n
  · have ci : wcmp .lss i n = true := by rw [hcmp]; simp [cmpStd]; exact hin
    obtain ⟨i2, ei2⟩ : ∃ z, z = i + 1 := ⟨_, rfl⟩
    have a4 : wbin .add .i64 i 1 = i2 := by rw [hbin, i_add (by omega) (by omega), ei2]
    have hT : (n - i2).toNat < (n - i).toNat := by omega
    obtain ⟨e, he⟩ : ∃ b, l[i.toNat]? = some b := ⟨_, List.getElem?_eq_getElem (show i.toNat < l.length by omega)⟩
    have hem := List.mem_of_getElem? he
    have hdr : l.drop i.toNat = e :: l.drop i2.toNat := by
      obtain ⟨h1, h2⟩ := List.getElem?_eq_some_iff.1 he
      rw [show i2.toNat = i.toNat + 1 by omega, ← h2]; exact List.drop_eq_getElem_cons h1
    have htk : l.take i2.toNat = l.take i.toNat ++ [e] := by rw [ei2]; exact take_nx hi0 he
    have heok := hok e hem
    have her := hr e hem
    obtain ⟨c, bs⟩ := e
    obtain ⟨rest, erest⟩ : ∃ z, z = ((l.drop i2.toNat).flatMap put1).map bRow := ⟨_, rfl⟩
    obtain ⟨br, ebr⟩ : ∃ z, z = bs.map bsRow := ⟨_, rfl⟩
    have hub : Up0 rest := by rw [erest]; exact up_b _
    have hubr : Up0 br := by rw [ebr]; exact up_bs bs
    have hqq : q = (put1 (c, bs)).map bRow ++ rest := by rw [hq, hdr, List.flatMap_cons, List.map_append, ← erest]
    have hent := e_entry c bs heok her rest q br hub hqq ebr
    obtain ⟨u2, eu2⟩ : ∃ z, z = (l.take i2.toNat).map enRow := ⟨_, rfl⟩
    have huu2 : Up0 u2 := by rw [eu2]; exact up_en _
    obtain ⟨m2, em2⟩ : ∃ z, z = i2.toNat := ⟨_, rfl⟩
    have hou2 : OpenOu l i2 (some (u2, m2)) := ⟨by omega, eu2, em2, huu2⟩
    have hres : uptoL 0 [AV.tuple [AV.agg [AV.bool c, AV.list 1 br], AV.bool true]] = true := by simp only [uptoL, AV.upto, hubr.get]; rfl
    cases ou with
    | none =>
      have hou : i = 0 := hou
      have hu21 : u2 = [[.bool c, .list 1 br]] := by rw [eu2, htk, hou, ebr]; rfl
      have hm21 : m2 = 1 := by omega
      cbv
      simp only [ci]
      cbv
      refine Call.of (ACall.one (s := 0) (by rw [← hP]; exact hent) (up_rd huq) rfl rfl rfl ?_)
      rintro r hD ⟨rfl, rfl⟩
      refine ⟨uptoL_get (i := 0) hres rfl, _, _, rfl, up_rd hub, ?_⟩
      cbv
      simp only [m1]
      cbv
      refine Ob.mk (by decide) ?_
      cbv
      simp only [a4]
      refine hN (i2, rest, some ([[.bool c, .list 1 br]], 1)) _ _ ?hx ?hi hT
      case hx => (refine Wk.eqz (fun j => [0, 2].getD j 0) (by first | exact fun i _ j _ e => e | (simp only [List.length_cons, List.length_nil]; decide)) ?_; cbv; (repeat' (first | exact trivial | rfl | assumption | apply And.intro | (simp only [hbin, hcmp, hun, hconv, hnot, hbeq, hmm, hscmp, hsadd, hslen, hsat, heqs, hofNat, binStd, cmpStd, unStd, scmpStd, maxI, Bool.not_eq_true', Bool.not_eq_false', decide_eq_true_eq, decide_eq_false_iff_not, Int.not_lt, Int.not_le, if_true, if_false, Bool.false_eq_true, beq_iff_eq, bne_iff_ne, ne_eq, Bool.not_eq_eq_eq_not, Bool.not_true, Bool.not_false, beq_eq_false_iff_ne, bne_eq_false_iff_eq, Int.ofNat_eq_natCast, Bool.not_not, not_true_eq_false, not_false_eq_true, reduceCtorEq]; first | done | assumption) | exact RowsZ.same (by assumption) (by first | assumption | rfl) | exact FzL.mk rfl rfl rfl (by assumption) (by first | assumption | rfl) (by decide) | (refine RowsZ.one ?_; cbv))))
      case hi => exact ⟨by simp only; omega, by simp only; omega, erest, hub, by simp only; rw [← hu21, ← hm21]; exact hou2⟩
    | some p =>
      obtain ⟨u, m⟩ := p
      have hou : 0 < i ∧ u = (l.take i.toNat).map enRow ∧ m = i.toNat ∧ Up0 u := hou
      obtain ⟨hk00, hu1, hm1, huu⟩ := hou
      have hul : m = u.length := by rw [hu1, hm1]; simp; omega
      have hu21 : u2 = u ++ [[.bool c, .list 1 br]] := by rw [eu2, htk, hu1, ebr, List.map_append]; rfl
      have hm21 : m2 = m + 1 := by omega
      cbv
      simp only [ci]
      cbv
      refine Call.of (ACall.one (s := 0) (by rw [← hP]; exact hent) (up_rd huq) rfl rfl rfl ?_)
      rintro r hD ⟨rfl, rfl⟩
      refine ⟨uptoL_get (i := 0) hres rfl, _, _, rfl, up_rd hub, ?_⟩
      cbv
      simp only [m1]
      cbv
      refine App.mk u2 m2 hu21 hul hm21 (by omega) (by omega) ?_
      cbv
      simp only [a4]
      refine hN (i2, rest, some (u2, m2)) _ _ ?hx ?hi hT
      case hx => (refine Wk.eqz (fun j => [0, 3].getD j 0) (by first | exact fun i _ j _ e => e | (simp only [List.length_cons, List.length_nil]; decide)) ?_; cbv; (repeat' (first | exact trivial | rfl | assumption | apply And.intro | (simp only [hbin, hcmp, hun, hconv, hnot, hbeq, hmm, hscmp, hsadd, hslen, hsat, heqs, hofNat, binStd, cmpStd, unStd, scmpStd, maxI, Bool.not_eq_true', Bool.not_eq_false', decide_eq_true_eq, decide_eq_false_iff_not, Int.not_lt, Int.not_le, if_true, if_false, Bool.false_eq_true, beq_iff_eq, bne_iff_ne, ne_eq, Bool.not_eq_eq_eq_not, Bool.not_true, Bool.not_false, beq_eq_false_iff_ne, bne_eq_false_iff_eq, Int.ofNat_eq_natCast, Bool.not_not, not_true_eq_false, not_false_eq_true, reduceCtorEq]; first | done | assumption) | exact RowsZ.same (by assumption) (by first | assumption | rfl) | exact FzL.mk rfl rfl rfl (by assumption) (by first | assumption | rfl) (by decide) | (refine RowsZ.one ?_; cbv))))
      case hi => exact ⟨by simp only; omega, by simp only; omega, erest, hub, hou2⟩
  · have ci : wcmp .lss i n = false := by rw [hcmp]; simp [cmpStd]; omega
    have hq0 : q = [] := by rw [hq, List.drop_of_length_le (by omega)]; rfl
    have l0 : wcmp .gtr (wlen []) 0 = false := by rw [hlen, hcmp]; rfl
    cases ou with
    | none =>
      have hou : i = 0 := hou
      have hus0 : us = [] := by rw [hus]; have : l = [] := List.length_eq_zero_iff.1 (by omega); rw [this]; rfl
      cbv
      simp only [ci]
      refine hE _ _ _ ?_
      cbv
      rw [hq0]
      simp only [l0]
      cbv
      exact ⟨_, Vw.tuple (rs := [_, _]) ⟨Vw.nil 2, Vw.same rfl, trivial⟩, hR _ (by rw [hus0])⟩
    | some p =>
      obtain ⟨u, m⟩ := p
      have hou : 0 < i ∧ u = (l.take i.toNat).map enRow ∧ m = i.toNat ∧ Up0 u := hou
      obtain ⟨hk00, hu1, hm1, huu⟩ := hou
      have huus : us = u := by rw [hu1, hus, List.take_of_length_le (by omega)]
      have hul : m = u.length := by rw [hu1, hm1]; simp; omega
      cbv
      simp only [ci]
      refine hE _ _ _ ?_
      cbv
      rw [hq0]
      simp only [l0]
      cbv
      exact ⟨_, Vw.tuple (rs := [_, _]) ⟨sl_all (es := u) rfl huu.get hul, Vw.same rfl, trivial⟩, hR _ (by rw [huus])⟩
end Go.Proofs.Ytekhigoblbkiaaa

/- The document's box, by the engine. -/
set_option linter.unusedVariables false
set_option linter.unusedSimpArgs false
namespace Go.Proofs.Ytekhigoblbkiaaa
open Go Go.RowKit Go.Eng
set_option maxRecDepth 100000
/-- Bytes as a string. -/
def baOf (l : List Int) : ByteArray := ⟨(l.map fun n => UInt8.ofNat n.toNat).toArray⟩
theorem ba_rows {l : List Int} (h : BytesOk l) : l.map bRow = bytesRows (baOf l) := by
  unfold bytesRows baOf
  simp only [List.map_map]
  apply List.map_congr_left
  intro b hb
  have := h b hb
  show [AV.int .u8 b] = [AV.int .u8 ((UInt8.ofNat b.toNat).toNat : Int)]
  have e : ((UInt8.ofNat b.toNat).toNat : Int) = b := by
    rw [UInt8.toNat_ofNat']
    have : b.toNat % 2 ^ 8 = b.toNat := Nat.mod_eq_of_lt (by omega)
    rw [this]; omega
  rw [e]
def reRow (e : En) : List AV := [.int .i64 (if e.1 then 1 else 0), .list 1 (e.2.map bsRow)]
theorem up_re (l : List En) : Up0 (l.map reRow) := up_map (f := reRow) (fun d => by simp only [reRow, uptoL, AV.upto, (up_bs d.2).get]; rfl) l
def RefOu (l : List En) (i : Int) : Option (List (List AV) × Nat) → Prop
  | none => i = 0
  | some (u, m) => 0 < i ∧ u = (l.take i.toNat).map reRow ∧ m = i.toNat ∧ Up0 u
set_option maxHeartbeats 4000000 in
theorem e_refs26 (l : List En) (hl : l.length ≤ 200000) (rs qs : List (List AV)) (hrs : rs = l.map enRow) (hqs : qs = l.map reRow) : PCalls Try.prog 14 [.list 2 rs] (· = .list 2 qs) := by
  have hu : Up0 rs := by rw [hrs]; exact up_en l
  have hrl : rs.length = l.length := by rw [hrs]; simp
  (refine PCalls.ofY Try.func14 (by kernel_rfl) (by kernel_rfl) fun w hw R hR => ?_); (obtain ⟨wbin, wcmp, wun, wconv, wnot, wbeq, wmm, wscmp, wsadd, wslen, wsat, weqs, wlen, wnlen, wofNat, wtake, wdrop, wapp, wzero, wnat⟩ := w); (have hbin : wbin = binStd := congrArg Prims.bin hw); (have hcmp : wcmp = cmpStd := congrArg Prims.cmp hw); (have hun : wun = unStd := congrArg Prims.un hw); (have hconv : wconv = fun k n => k.wrap n := congrArg Prims.conv hw); (have hnot : wnot = fun b => !b := congrArg Prims.not hw); (have hbeq : wbeq = fun a b => a == b := congrArg Prims.beq hw); (have hmm : wmm = maxI := congrArg Prims.mm hw); (have hscmp : wscmp = scmpStd := congrArg Prims.scmp hw); (have hsadd : wsadd = fun x y => x ++ y := congrArg Prims.sadd hw); (have hslen : wslen = fun s => (s.size : Int) := congrArg Prims.slen hw); (have hsat : wsat = std.sat := congrArg Prims.sat hw); (have heqs : weqs = fun a b os => (eqOffs a b os).getD false := congrArg Prims.eqs hw); (have hlen : wlen = fun es => (es.length : Int) := congrArg Prims.len hw); (have hnlen : wnlen = fun es => es.length := congrArg Prims.nlen hw); (have hofNat : wofNat = (fun n : Nat => (n : Int)) := congrArg Prims.ofNat hw); (have htake : wtake = fun es b => es.take b.toNat := congrArg Prims.take hw); (have hdrop : wdrop = fun es a => es.drop a.toNat := congrArg Prims.drop hw); (have happ : wapp = fun a b => a ++ b := congrArg Prims.app hw); (have hzero : wzero = fun n z => List.replicate n.toNat z := congrArg Prims.zero hw); (have hnat : wnat = fun n => n.toNat := congrArg Prims.nat hw); (conv => arg 2; cbv); (generalize hP : Try.prog = P); cbv
  (obtain ⟨L, eL, L0, Ln⟩ : ∃ L : Int, wlen rs = L ∧ 0 ≤ L ∧ L.toNat = rs.length := ⟨(rs.length : Int), by rw [hlen], Int.natCast_nonneg _, Int.toNat_natCast _⟩)
  simp only [eL]
  refine Loop.data hw (S := Int × Option (List (List AV) × Nat)) (fun s => fr 25 [(3, match s.2 with | none => .nils | some (_, m) => .sl 0 2 0 m), (7, .list 2 rs), (8, .int .i64 L), (9, .int .i64 s.1)]) (fun s => match s.2 with | none => [] | some (u, _) => [.live 2 u])
    (fun s => 0 ≤ s.1 ∧ s.1 ≤ L ∧ RefOu l s.1 s.2) (fun s => (L - s.1).toNat) (0, none) (by (refine Wk.eqz (id) (by first | exact fun i _ j _ e => e | (simp only [List.length_cons, List.length_nil]; decide)) ?_; cbv; (repeat' (first | exact trivial | rfl | assumption | apply And.intro | (simp only [hbin, hcmp, hun, hconv, hnot, hbeq, hmm, hscmp, hsadd, hslen, hsat, heqs, hofNat, binStd, cmpStd, unStd, scmpStd, maxI, Bool.not_eq_true', Bool.not_eq_false', decide_eq_true_eq, decide_eq_false_iff_not, Int.not_lt, Int.not_le, if_true, if_false, Bool.false_eq_true, beq_iff_eq, bne_iff_ne, ne_eq, Bool.not_eq_eq_eq_not, Bool.not_true, Bool.not_false, beq_eq_false_iff_ne, bne_eq_false_iff_eq, Int.ofNat_eq_natCast, Bool.not_not, not_true_eq_false, not_false_eq_true, reduceCtorEq]; first | done | assumption) | exact RowsZ.same (by assumption) (by first | assumption | rfl) | exact FzL.mk rfl rfl rfl (by assumption) (by first | assumption | rfl) (by decide) | (refine RowsZ.one ?_; cbv))))) ⟨Int.le_refl _, L0, rfl⟩ ?_
  rintro ⟨i, ou⟩ hinv Q' hN hE hR'
  have hinv : 0 ≤ i ∧ i ≤ L ∧ RefOu l i ou := hinv
  obtain ⟨hi0, hi1, hou⟩ := hinv
  by_cases hin : i < L
  · have ci : wcmp .lss i L = true := by rw [hcmp]; simp [cmpStd]; exact hin
    obtain ⟨i2, ei2⟩ : ∃ z, z = i + 1 := ⟨_, rfl⟩
    have a4 : wbin .add .i64 i 1 = i2 := by rw [hbin, i_add (by omega) (by omega), ei2]
    have hT : (L - i2).toNat < (L - i).toNat := by omega
    obtain ⟨e, he⟩ : ∃ b, l[i.toNat]? = some b := ⟨_, List.getElem?_eq_getElem (show i.toNat < l.length by omega)⟩
    have htk : l.take i2.toNat = l.take i.toNat ++ [e] := by rw [ei2]; exact take_nx hi0 he
    obtain ⟨c, bs⟩ := e
    obtain ⟨br, ebr⟩ : ∃ z, z = bs.map bsRow := ⟨_, rfl⟩
    have hubr : Up0 br := by rw [ebr]; exact up_bs bs
    have her : rs[i.toNat]? = some [.bool c, .list 1 br] := by rw [hrs, List.getElem?_map, he, ebr]; rfl
    obtain ⟨cv, ecv⟩ : ∃ v : Int, v = if c then 1 else 0 := ⟨_, rfl⟩
    obtain ⟨u2, eu2⟩ : ∃ z, z = (l.take i2.toNat).map reRow := ⟨_, rfl⟩
    have huu2 : Up0 u2 := by rw [eu2]; exact up_re _
    obtain ⟨m2, em2⟩ : ∃ z, z = i2.toNat := ⟨_, rfl⟩
    have hou2 : RefOu l i2 (some (u2, m2)) := ⟨by omega, eu2, em2, huu2⟩
    cases ou with
    | none =>
      have hou : i = 0 := hou
      have hu21 : u2 = [[.int .i64 cv, .list 1 br]] := by rw [eu2, htk, hou, ebr, ecv]; rfl
      have hm21 : m2 = 1 := by omega
      cases c
      all_goals
        cbv
        simp only [ci]
        refine Idx.mk _ hi0 her ?_
        cbv
        refine Ob.mk (by decide) ?_
        cbv
        simp only [a4]
        refine hN (i2, some ([[.int .i64 cv, .list 1 br]], 1)) _ _ ?hx ?hi hT
        case hx => rw [ecv]; (refine Wk.eqz (fun j => [2].getD j 0) (by first | exact fun i _ j _ e => e | (simp only [List.length_cons, List.length_nil]; decide)) ?_; cbv; (repeat' (first | exact trivial | rfl | assumption | apply And.intro | (simp only [hbin, hcmp, hun, hconv, hnot, hbeq, hmm, hscmp, hsadd, hslen, hsat, heqs, hofNat, binStd, cmpStd, unStd, scmpStd, maxI, Bool.not_eq_true', Bool.not_eq_false', decide_eq_true_eq, decide_eq_false_iff_not, Int.not_lt, Int.not_le, if_true, if_false, Bool.false_eq_true, beq_iff_eq, bne_iff_ne, ne_eq, Bool.not_eq_eq_eq_not, Bool.not_true, Bool.not_false, beq_eq_false_iff_ne, bne_eq_false_iff_eq, Int.ofNat_eq_natCast, Bool.not_not, not_true_eq_false, not_false_eq_true, reduceCtorEq]; first | done | assumption) | exact RowsZ.same (by assumption) (by first | assumption | rfl) | exact FzL.mk rfl rfl rfl (by assumption) (by first | assumption | rfl) (by decide) | (refine RowsZ.one ?_; cbv))))
        case hi => exact ⟨by simp only; omega, by simp only; omega, by simp only; rw [← hu21, ← hm21]; exact hou2⟩
    | some p =>
      obtain ⟨u, m⟩ := p
      have hou : 0 < i ∧ u = (l.take i.toNat).map reRow ∧ m = i.toNat ∧ Up0 u := hou
      obtain ⟨hk00, hu1, hm1, huu⟩ := hou
      have hul : m = u.length := by rw [hu1, hm1]; simp; omega
      have hu21 : u2 = u ++ [[.int .i64 (if c then 1 else 0), .list 1 br]] := by rw [eu2, htk, hu1, ebr, List.map_append]; rfl
      have hm21 : m2 = m + 1 := by omega
      cases c
      all_goals
        cbv
        simp only [ci]
        refine Idx.mk _ hi0 her ?_
        cbv
        refine App.mk u2 m2 hu21 hul hm21 (by omega) (by omega) ?_
        cbv
        simp only [a4]
        refine hN (i2, some (u2, m2)) _ _ ?hx ?hi hT
        case hx => (refine Wk.eqz (fun j => [3].getD j 0) (by first | exact fun i _ j _ e => e | (simp only [List.length_cons, List.length_nil]; decide)) ?_; cbv; (repeat' (first | exact trivial | rfl | assumption | apply And.intro | (simp only [hbin, hcmp, hun, hconv, hnot, hbeq, hmm, hscmp, hsadd, hslen, hsat, heqs, hofNat, binStd, cmpStd, unStd, scmpStd, maxI, Bool.not_eq_true', Bool.not_eq_false', decide_eq_true_eq, decide_eq_false_iff_not, Int.not_lt, Int.not_le, if_true, if_false, Bool.false_eq_true, beq_iff_eq, bne_iff_ne, ne_eq, Bool.not_eq_eq_eq_not, Bool.not_true, Bool.not_false, beq_eq_false_iff_ne, bne_eq_false_iff_eq, Int.ofNat_eq_natCast, Bool.not_not, not_true_eq_false, not_false_eq_true, reduceCtorEq]; first | done | assumption) | exact RowsZ.same (by assumption) (by first | assumption | rfl) | exact FzL.mk rfl rfl rfl (by assumption) (by first | assumption | rfl) (by decide) | (refine RowsZ.one ?_; cbv))))
        case hi => exact ⟨by simp only; omega, by simp only; omega, hou2⟩
  · have ci : wcmp .lss i L = false := by rw [hcmp]; simp [cmpStd]; omega
    cases ou with
    | none =>
      have hou : i = 0 := hou
      have hus0 : qs = [] := by rw [hqs]; have : l = [] := List.length_eq_zero_iff.1 (by omega); rw [this]; rfl
      cbv
      simp only [ci]
      refine hE _ _ _ ?_
      cbv
      exact ⟨_, Vw.nil 2, hR _ (by rw [hus0])⟩
    | some p =>
      obtain ⟨u, m⟩ := p
      have hou : 0 < i ∧ u = (l.take i.toNat).map reRow ∧ m = i.toNat ∧ Up0 u := hou
      obtain ⟨hk00, hu1, hm1, huu⟩ := hou
      have huus : qs = u := by rw [hu1, hqs, List.take_of_length_le (by omega)]
      have hul : m = u.length := by rw [hu1, hm1]; simp; omega
      cbv
      simp only [ci]
      refine hE _ _ _ ?_
      cbv
      exact ⟨_, sl_all (es := u) rfl huu.get hul, hR _ (by rw [huus])⟩
set_option maxHeartbeats 4000000 in
theorem e_rpack (l : List En) (hok : ∀ e, e ∈ l → EnOk e) (hsz : sizeL l ≤ 200000) (hn : l.length ≤ 4096) (hr : ∀ e, e ∈ l → Right e) (rs qs : List (List AV)) (hrs : rs = l.map reRow) (hqs : qs = (packB l).map bRow) : PCalls Try.prog 13 [.list 2 rs] (· = .list 1 qs) := by
  have hu : Up0 rs := by rw [hrs]; exact up_re l
  have hrl : rs.length = l.length := by rw [hrs]; simp
  (refine PCalls.ofL Try.func13 (by kernel_rfl) (by kernel_rfl) fun w hw R hR => ?_); (obtain ⟨wbin, wcmp, wun, wconv, wnot, wbeq, wmm, wscmp, wsadd, wslen, wsat, weqs, wlen, wnlen, wofNat, wtake, wdrop, wapp, wzero, wnat⟩ := w); (have hbin : wbin = binStd := congrArg Prims.bin hw); (have hcmp : wcmp = cmpStd := congrArg Prims.cmp hw); (have hun : wun = unStd := congrArg Prims.un hw); (have hconv : wconv = fun k n => k.wrap n := congrArg Prims.conv hw); (have hnot : wnot = fun b => !b := congrArg Prims.not hw); (have hbeq : wbeq = fun a b => a == b := congrArg Prims.beq hw); (have hmm : wmm = maxI := congrArg Prims.mm hw); (have hscmp : wscmp = scmpStd := congrArg Prims.scmp hw); (have hsadd : wsadd = fun x y => x ++ y := congrArg Prims.sadd hw); (have hslen : wslen = fun s => (s.size : Int) := congrArg Prims.slen hw); (have hsat : wsat = std.sat := congrArg Prims.sat hw); (have heqs : weqs = fun a b os => (eqOffs a b os).getD false := congrArg Prims.eqs hw); (have hlen : wlen = fun es => (es.length : Int) := congrArg Prims.len hw); (have hnlen : wnlen = fun es => es.length := congrArg Prims.nlen hw); (have hofNat : wofNat = (fun n : Nat => (n : Int)) := congrArg Prims.ofNat hw); (have htake : wtake = fun es b => es.take b.toNat := congrArg Prims.take hw); (have hdrop : wdrop = fun es a => es.drop a.toNat := congrArg Prims.drop hw); (have happ : wapp = fun a b => a ++ b := congrArg Prims.app hw); (have hzero : wzero = fun n z => List.replicate n.toNat z := congrArg Prims.zero hw); (have hnat : wnat = fun n => n.toNat := congrArg Prims.nat hw); (conv => arg 2; cbv); (generalize hP : Try.prog = P); cbv
  (obtain ⟨L, eL, L0, Ln⟩ : ∃ L : Int, wlen rs = L ∧ 0 ≤ L ∧ L.toNat = rs.length := ⟨(rs.length : Int), by rw [hlen], Int.natCast_nonneg _, Int.toNat_natCast _⟩)
  have q1 : wbin .quo .i64 L 256 = ((l.length / 256 : Nat) : Int) := by rw [hbin, i_quo (by omega) (by decide) (by omega)]; omega
  have q2 : wbin .rem .i64 L 256 = ((l.length % 256 : Nat) : Int) := by rw [hbin, i_rem (by omega)]; omega
  obtain ⟨b1, eb1⟩ : ∃ z : Int, z = ((l.length / 256 : Nat) : Int) := ⟨_, rfl⟩
  obtain ⟨b2, eb2⟩ : ∃ z : Int, z = ((l.length % 256 : Nat) : Int) := ⟨_, rfl⟩
  have w1 : wconv .u8 b1 = b1 := by rw [hconv]; show IntKind.u8.wrap b1 = b1; rw [IntKind.wrap_u8]; omega
  have w2 : wconv .u8 b2 = b2 := by rw [hconv]; show IntKind.u8.wrap b2 = b2; rw [IntKind.wrap_u8]; omega
  rw [← eb1] at q1
  rw [← eb2] at q2
  refine Nz.mk (by decide) (Nz.mk (by decide) ?_)
  simp only [eL, q1, q2, w1, w2]
  obtain ⟨o0, eo0⟩ : ∃ o, o = (hdB l.length).map bRow := ⟨_, rfl⟩
  have ho0 : [[AV.int .u8 66], [.int .u8 79], [.int .u8 88], [.int .u8 49], [.int .u8 b1], [.int .u8 b2]] = o0 := by rw [eo0, eb1, eb2]; rfl
  have ho0l : o0.length = 6 := by rw [← ho0]; rfl
  have huo0 : Up0 o0 := by rw [eo0]; exact up_b _
  clear eb1 eb2
  rw [ho0]
  refine Loop.data hw (S := Int × List (List AV) × Nat) (fun s => fr 82 [(0, .list 2 rs), (3, .sl 0 1 0 s.2.2), (4, .int .i64 s.1)]) (fun s => [.live 1 s.2.1])
    (fun s => 0 ≤ s.1 ∧ s.1 ≤ L ∧ s.2.1 = (hdB l.length ++ (l.take s.1.toNat).flatMap put1).map bRow ∧ s.2.2 = s.2.1.length ∧ Up0 s.2.1) (fun s => (L - s.1).toNat) (0, o0, 6) (by (refine Wk.eqz (id) (by first | exact fun i _ j _ e => e | (simp only [List.length_cons, List.length_nil]; decide)) ?_; cbv; (repeat' (first | exact trivial | rfl | assumption | apply And.intro | (simp only [hbin, hcmp, hun, hconv, hnot, hbeq, hmm, hscmp, hsadd, hslen, hsat, heqs, hofNat, binStd, cmpStd, unStd, scmpStd, maxI, Bool.not_eq_true', Bool.not_eq_false', decide_eq_true_eq, decide_eq_false_iff_not, Int.not_lt, Int.not_le, if_true, if_false, Bool.false_eq_true, beq_iff_eq, bne_iff_ne, ne_eq, Bool.not_eq_eq_eq_not, Bool.not_true, Bool.not_false, beq_eq_false_iff_ne, bne_eq_false_iff_eq, Int.ofNat_eq_natCast, Bool.not_not, not_true_eq_false, not_false_eq_true, reduceCtorEq]; first | done | assumption) | exact RowsZ.same (by assumption) (by first | assumption | rfl) | exact FzL.mk rfl rfl rfl (by assumption) (by first | assumption | rfl) (by decide) | (refine RowsZ.one ?_; cbv)))))
    ⟨Int.le_refl _, L0, by simp only; rw [eo0]; simp, ho0l.symm, huo0⟩ ?_
  rintro ⟨i, os, n⟩ hinv Q' hN hE hR'
  have hinv : 0 ≤ i ∧ i ≤ L ∧ os = (hdB l.length ++ (l.take i.toNat).flatMap put1).map bRow ∧ n = os.length ∧ Up0 os := hinv
  cbv
  obtain ⟨hi0, hi1, hos, hnn, huo⟩ := hinv
  simp only [eL]
  have hll : l.length ≤ 200000 := by omega
  (split <;> rename_i hc <;> (try (simp only [hbin, hcmp, hun, hconv, hnot, hbeq, hmm, hscmp, hsadd, hslen, hsat, heqs, hofNat, binStd, cmpStd, unStd, scmpStd, maxI, Bool.not_eq_true', Bool.not_eq_false', decide_eq_true_eq, decide_eq_false_iff_not, Int.not_lt, Int.not_le, if_true, if_false, Bool.false_eq_true, beq_iff_eq, bne_iff_ne, ne_eq, Bool.not_eq_eq_eq_not, Bool.not_true, Bool.not_false, beq_eq_false_iff_ne, bne_eq_false_iff_eq, Int.ofNat_eq_natCast, Bool.not_not, not_true_eq_false, not_false_eq_true, reduceCtorEq] at hc)) <;> (try cbv))
  · obtain ⟨i2, ei2⟩ : ∃ z, z = i + 1 := ⟨_, rfl⟩
    have a4 : wbin .add .i64 i 1 = i2 := by rw [hbin, i_add (by omega) (by omega), ei2]
    have hT : (L - i2).toNat < (L - i).toNat := by omega
    obtain ⟨e, he⟩ : ∃ b, l[i.toNat]? = some b := ⟨_, List.getElem?_eq_getElem (show i.toNat < l.length by omega)⟩
    have hem := List.mem_of_getElem? he
    have hR' := hr e hem
    obtain ⟨pre, epre⟩ : ∃ p, p = hdB l.length ++ (l.take i.toNat).flatMap put1 := ⟨_, rfl⟩
    rw [← epre] at hos
    obtain ⟨c, bs⟩ := e
    obtain ⟨br, ebr⟩ : ∃ z, z = bs.map bsRow := ⟨_, rfl⟩
    have hubr : Up0 br := by rw [ebr]; exact up_bs bs
    have hbrl : br.length = bs.length := by rw [ebr]; simp
    obtain ⟨cv, ecv⟩ : ∃ v : Int, v = if c then 1 else 0 := ⟨_, rfl⟩
    have hcvb : 0 ≤ cv ∧ cv ≤ 1 := by rw [ecv]; cases c <;> decide
    have hcv : put1 (c, bs) = cv :: (bs.length : Int) :: bs.flatMap putB := by rw [ecv]; rfl
    have her : rs[i.toNat]? = some [.int .i64 cv, .list 1 br] := by rw [hrs, List.getElem?_map, he, ebr, ecv]; rfl
    (obtain ⟨M, eM, M0, Mn⟩ : ∃ L : Int, wlen br = L ∧ 0 ≤ L ∧ L.toNat = br.length := ⟨(br.length : Int), by rw [hlen], Int.natCast_nonneg _, Int.toNat_natCast _⟩)
    have hM : M ≤ 255 := by have := hR'.1; simp only at this; omega
    have cM : wconv .u8 M = M := by rw [hconv]; show IntKind.u8.wrap M = M; rw [IntKind.wrap_u8]; omega
    have cC : wconv .u8 cv = cv := by rw [hconv]; show IntKind.u8.wrap cv = cv; rw [IntKind.wrap_u8]; omega
    have hpl : pre.length = n := by rw [hnn, hos]; simp
    have hpre : n + sizeE (c, bs) + 2 ≤ 1000000 := by
      have h1 : l = l.take i.toNat ++ (c, bs) :: l.drop (i.toNat + 1) := by
        obtain ⟨hlt, he2⟩ := List.getElem?_eq_some_iff.1 he
        rw [← he2, ← List.drop_eq_getElem_cons hlt, List.take_append_drop]
      have h2 := puts_len l
      rw [h1] at h2
      rw [List.flatMap_append, List.flatMap_cons, List.length_append, List.length_append, put1_len] at h2
      rw [← h1] at h2
      have h3 : pre.length = 6 + ((l.take i.toNat).flatMap put1).length := by rw [epre, List.length_append]; rfl
      omega
    have hpre2 : n + (bs.length + (bs.map List.length).sum) + 2 ≤ 1000000 := hpre
    obtain ⟨o1, eo1⟩ : ∃ o1, o1 = (pre ++ [cv, (bs.length : Int)]).map bRow := ⟨_, rfl⟩
    have ho1 : o1 = os ++ [[.int .u8 cv], [.int .u8 M]] := by rw [eo1, hos, List.map_append, show M = (bs.length : Int) by omega]; rfl
    obtain ⟨m1, em1⟩ : ∃ m, m = n + 2 := ⟨_, rfl⟩
    have huo1 : Up0 o1 := by rw [eo1]; exact up_b _
    repeat' (first
      | (refine Idx.mk _ hi0 her ?_; cbv)
      | (simp only [eM, cM, cC])
      | (refine AppL.mk o1 m1 ho1 hnn em1 rfl (by omega) (by omega) ?_; cbv))
    refine Loop.data hw (S := Int × List (List AV) × Nat) (fun s => fr 82 [(0, .list 2 rs), (3, .sl 0 1 0 s.2.2), (4, .int .i64 i), (5, .int .i64 s.1)]) (fun s => [.live 1 s.2.1])
      (fun s => 0 ≤ s.1 ∧ s.1 ≤ M ∧ s.2.1 = (pre ++ [cv, (bs.length : Int)] ++ (bs.take s.1.toNat).flatMap putB).map bRow ∧ s.2.2 = s.2.1.length ∧ Up0 s.2.1) (fun s => (M - s.1).toNat) (0, o1, m1) (by (refine Wk.eqz (fun j => [1].getD j 0) (by first | exact fun i _ j _ e => e | (simp only [List.length_cons, List.length_nil]; decide)) ?_; cbv; (repeat' (first | exact trivial | rfl | assumption | apply And.intro | (simp only [hbin, hcmp, hun, hconv, hnot, hbeq, hmm, hscmp, hsadd, hslen, hsat, heqs, hofNat, binStd, cmpStd, unStd, scmpStd, maxI, Bool.not_eq_true', Bool.not_eq_false', decide_eq_true_eq, decide_eq_false_iff_not, Int.not_lt, Int.not_le, if_true, if_false, Bool.false_eq_true, beq_iff_eq, bne_iff_ne, ne_eq, Bool.not_eq_eq_eq_not, Bool.not_true, Bool.not_false, beq_eq_false_iff_ne, bne_eq_false_iff_eq, Int.ofNat_eq_natCast, Bool.not_not, not_true_eq_false, not_false_eq_true, reduceCtorEq]; first | done | assumption) | exact RowsZ.same (by assumption) (by first | assumption | rfl) | exact FzL.mk rfl rfl rfl (by assumption) (by first | assumption | rfl) (by decide) | (refine RowsZ.one ?_; cbv)))))
      ⟨Int.le_refl _, M0, by simp only; rw [eo1]; simp, by simp only; rw [eo1, em1]; simp; omega, huo1⟩ ?_
    rintro ⟨k, o2, m2⟩ hinv2 Q2 hN2 hE2 hR2
    have hinv2 : 0 ≤ k ∧ k ≤ M ∧ o2 = (pre ++ [cv, (bs.length : Int)] ++ (bs.take k.toNat).flatMap putB).map bRow ∧ m2 = o2.length ∧ Up0 o2 := hinv2
    cbv
    obtain ⟨hk0, hk1, ho2, hm2, huo2⟩ := hinv2
    repeat' (first
      | (refine Idx.mk _ hi0 her ?_; cbv)
      | (simp only [eM]))
    (split <;> rename_i hk <;> (try (simp only [hbin, hcmp, hun, hconv, hnot, hbeq, hmm, hscmp, hsadd, hslen, hsat, heqs, hofNat, binStd, cmpStd, unStd, scmpStd, maxI, Bool.not_eq_true', Bool.not_eq_false', decide_eq_true_eq, decide_eq_false_iff_not, Int.not_lt, Int.not_le, if_true, if_false, Bool.false_eq_true, beq_iff_eq, bne_iff_ne, ne_eq, Bool.not_eq_eq_eq_not, Bool.not_true, Bool.not_false, beq_eq_false_iff_ne, bne_eq_false_iff_eq, Int.ofNat_eq_natCast, Bool.not_not, not_true_eq_false, not_false_eq_true, reduceCtorEq] at hk)) <;> (try cbv))
    · obtain ⟨k2, ek2⟩ : ∃ z, z = k + 1 := ⟨_, rfl⟩
      have a5 : wbin .add .i64 k 1 = k2 := by rw [hbin, i_add (by omega) (by omega), ek2]
      have hT2 : (M - k2).toNat < (M - k).toNat := by omega
      obtain ⟨b, hb⟩ : ∃ b, bs[k.toNat]? = some b := ⟨_, List.getElem?_eq_getElem (show k.toNat < bs.length by omega)⟩
      have hbm := List.mem_of_getElem? hb
      obtain ⟨bb, ebb⟩ : ∃ z, z = b.map bRow := ⟨_, rfl⟩
      have hubb : Up0 bb := by rw [ebb]; exact up_b b
      have hbr : br[k.toNat]? = some [.list 1 bb] := by rw [ebr, List.getElem?_map, hb, ebb]; rfl
      have hbb : bb.length = b.length := by rw [ebb]; simp
      have hb255 : b.length ≤ 255 := hR'.2 b hbm
      (obtain ⟨B, eB, B0, Bn⟩ : ∃ L : Int, wlen bb = L ∧ 0 ≤ L ∧ L.toNat = bb.length := ⟨(bb.length : Int), by rw [hlen], Int.natCast_nonneg _, Int.toNat_natCast _⟩)
      have cB : wconv .u8 B = B := by rw [hconv]; show IntKind.u8.wrap B = B; rw [IntKind.wrap_u8]; omega
      obtain ⟨p2, ep2⟩ : ∃ p2, p2 = pre ++ [cv, (bs.length : Int)] ++ (bs.take k.toNat).flatMap putB := ⟨_, rfl⟩
      rw [← ep2] at ho2
      have hp2l : p2.length + 1 + b.length ≤ 1000000 := by
        have h1 := hpre2
        have h2 := putBs_len (bs.take k.toNat)
        have h3 := take_sum hb
        have h4 : p2.length = pre.length + 2 + ((bs.take k.toNat).flatMap putB).length := by rw [ep2]; simp; omega
        have h5 : (bs.take k.toNat).length ≤ k.toNat := List.length_take_le _ _
        omega
      have hp2m : m2 = p2.length := by rw [hm2, ho2]; simp
      obtain ⟨o3, eo3⟩ : ∃ o, o = (p2 ++ [(b.length : Int)]).map bRow := ⟨_, rfl⟩
      obtain ⟨m3, em3⟩ : ∃ m, m = m2 + 1 := ⟨_, rfl⟩
      obtain ⟨o4, eo4⟩ : ∃ o, o = (p2 ++ putB b).map bRow := ⟨_, rfl⟩
      obtain ⟨m4, em4⟩ : ∃ m, m = m3 + b.length := ⟨_, rfl⟩
      have huo4 : Up0 o4 := by rw [eo4]; exact up_b _
      repeat' (first
        | (refine Idx.mk _ hi0 her ?_; cbv)
        | (refine Idx.mk _ hk0 hbr ?_; cbv)
        | (simp only [eB, cB])
        | (refine App.mk o3 m3 (by rw [eo3, ho2, List.map_append, show B = (b.length : Int) by omega]; rfl) hm2 em3 (by omega) (by omega) ?_; cbv)
        | (refine AppL.mk o4 m4 (by rw [eo4, eo3, ebb, ← List.map_append]; unfold putB; rw [List.append_assoc]; rfl) (by rw [em3, eo3]; simp; omega) (by rw [em4, hbb]) (by rw [ebb]; exact rowsOk_b b) (by omega) (by omega) ?_; cbv))
      simp only [a5]
      refine hN2 (k2, o4, m4) _ _ ?hx ?hi hT2
      case hx => (refine Wk.eqz (fun j => [2].getD j 0) (by first | exact fun i _ j _ e => e | (simp only [List.length_cons, List.length_nil]; decide)) ?_; cbv; (repeat' (first | exact trivial | rfl | assumption | apply And.intro | (simp only [hbin, hcmp, hun, hconv, hnot, hbeq, hmm, hscmp, hsadd, hslen, hsat, heqs, hofNat, binStd, cmpStd, unStd, scmpStd, maxI, Bool.not_eq_true', Bool.not_eq_false', decide_eq_true_eq, decide_eq_false_iff_not, Int.not_lt, Int.not_le, if_true, if_false, Bool.false_eq_true, beq_iff_eq, bne_iff_ne, ne_eq, Bool.not_eq_eq_eq_not, Bool.not_true, Bool.not_false, beq_eq_false_iff_ne, bne_eq_false_iff_eq, Int.ofNat_eq_natCast, Bool.not_not, not_true_eq_false, not_false_eq_true, reduceCtorEq]; first | done | assumption) | exact RowsZ.same (by assumption) (by first | assumption | rfl) | exact FzL.mk rfl rfl rfl (by assumption) (by first | assumption | rfl) (by decide) | (refine RowsZ.one ?_; cbv))))
      case hi =>
        refine ⟨by simp only; omega, by simp only; omega, ?_, ?_, huo4⟩
        · simp only; rw [eo4, ep2, ek2, take_nx hk0 hb, List.flatMap_append]; simp
        · simp only; rw [eo4, em4, em3, hp2m]; simp [putB]; omega
    · refine hE2 _ _ _ ?_
      cbv
      simp only [a4]
      have ho2f : o2 = (hdB l.length ++ (l.take i2.toNat).flatMap put1).map bRow := by
        have ebs : bs.take k.toNat = bs := List.take_of_length_le (by omega)
        rw [ho2, epre, ei2, take_nx hi0 he, List.flatMap_append, ebs]
        simp only [List.flatMap_cons, List.flatMap_nil, List.append_nil, hcv]
        simp
      refine hN (i2, o2, m2) _ _ ?hx ?hi hT
      case hx => (refine Wk.eqz (id) (by first | exact fun i _ j _ e => e | (simp only [List.length_cons, List.length_nil]; decide)) ?_; cbv; (repeat' (first | exact trivial | rfl | assumption | apply And.intro | (simp only [hbin, hcmp, hun, hconv, hnot, hbeq, hmm, hscmp, hsadd, hslen, hsat, heqs, hofNat, binStd, cmpStd, unStd, scmpStd, maxI, Bool.not_eq_true', Bool.not_eq_false', decide_eq_true_eq, decide_eq_false_iff_not, Int.not_lt, Int.not_le, if_true, if_false, Bool.false_eq_true, beq_iff_eq, bne_iff_ne, ne_eq, Bool.not_eq_eq_eq_not, Bool.not_true, Bool.not_false, beq_eq_false_iff_ne, bne_eq_false_iff_eq, Int.ofNat_eq_natCast, Bool.not_not, not_true_eq_false, not_false_eq_true, reduceCtorEq]; first | done | assumption) | exact RowsZ.same (by assumption) (by first | assumption | rfl) | exact FzL.mk rfl rfl rfl (by assumption) (by first | assumption | rfl) (by decide) | (refine RowsZ.one ?_; cbv))))
      case hi => exact ⟨by simp only; omega, by simp only; omega, ho2f, hm2, huo2⟩
  · refine hE _ _ _ ?_
    cbv
    have hbody : os = (bodyB l).map bRow := by rw [hos, List.take_of_length_le (by omega)]; rfl
    have hblen : (bodyB l).length ≤ 1000000 := by
      unfold bodyB; rw [List.length_append, puts_len]
      show 6 + _ ≤ _
      omega
    have hbok : BytesOk (bodyB l) := by
      intro x hx
      rcases List.mem_append.1 hx with h | h
      · exact hdB_ok (show l.length ≤ 4096 by omega) x h
      · obtain ⟨e, he, h2⟩ := List.mem_flatMap.1 h
        exact put1_ok (hok e he) (hr e he) x h2
    obtain ⟨v, ev⟩ : ∃ v, v = crF 65535#16 (bodyB l) := ⟨_, rfl⟩
    obtain ⟨y, ey⟩ : ∃ y, y = bi v := ⟨_, rfl⟩
    have hyb := bi_b v
    rw [← ey] at hyb
    have hnl : n = (bodyB l).length := by rw [hnn, hbody]; simp
    refine Call.view (args' := [.list 1 os]) (by rw [← hP]; exact e_sum06 (bodyB l) hbok (by omega) y os hbody (by rw [ey, ev])) ⟨sl_all rfl huo.get hnn, trivial⟩ ?_
    rintro r rfl
    refine ⟨rfl, ?_⟩
    cbv
    obtain ⟨x1, ex1⟩ : ∃ b, b = bi (v >>> 8) := ⟨_, rfl⟩
    obtain ⟨x2, ex2⟩ : ∃ b, b = bi (v &&& 255#16) := ⟨_, rfl⟩
    have z1 : wconv .u8 (wbin .quo .i64 y 256) = x1 := by
      rw [hconv, hbin, i_quo hyb.1 (by decide) (by omega), ex1, ← sum_hi v, ey]
      show IntKind.u8.wrap (bi v / 256) = IntKind.u8.wrap ((bi v).fdiv (2 ^ (min (8 : Int).toNat 16)))
      rw [Int.fdiv_eq_ediv_of_nonneg _ (by decide)]
      rfl
    have z2 : wconv .u8 (wbin .rem .i64 y 256) = x2 := by
      rw [hconv, hbin, i_rem hyb.1, ex2, ← sum_lo v, ey]
      show IntKind.u8.wrap (bi v % 256) = IntKind.u8.wrap (bi v)
      rw [IntKind.wrap_u8, IntKind.wrap_u8]; omega
    have eq2 : qs = os ++ [[.int .u8 x1], [.int .u8 x2]] := by rw [hqs, hbody]; unfold packB; rw [List.map_append, ← ev, ex1, ex2]; rfl
    have huq : Up0 qs := by rw [hqs]; exact up_b _
    obtain ⟨n3, en3⟩ : ∃ z, z = n + 2 := ⟨_, rfl⟩
    repeat' (first
      | (refine Nz.mk (by decide) ?_)
      | (simp only [z1, z2])
      | (refine AppL.mk qs n3 eq2 (by omega) en3 rfl (by omega) (by omega) ?_; cbv))
    exact ⟨_, sl_all (es := qs) rfl huq.get (by rw [eq2]; simp; omega), hR _ rfl⟩
set_option maxHeartbeats 4000000 in
theorem e_same26 (l : List En) (hok : ∀ e, e ∈ l → EnOk e) (hr : ∀ e, e ∈ l → Right e) (hl : l.length ≤ 200000) (rs qs : List (List AV)) (hrs : rs = l.map enRow) (hqs : qs = l.map reRow) : PCalls Try.prog 15 [.list 2 rs, .list 2 qs] (· = .bool true) := by
  have hu : Up0 rs := by rw [hrs]; exact up_en l
  have huq : Up0 qs := by rw [hqs]; exact up_re l
  have hrl : rs.length = l.length := by rw [hrs]; simp
  have hql : qs.length = l.length := by rw [hqs]; simp
  (refine PCalls.ofY Try.func15 (by kernel_rfl) (by kernel_rfl) fun w hw R hR => ?_); (obtain ⟨wbin, wcmp, wun, wconv, wnot, wbeq, wmm, wscmp, wsadd, wslen, wsat, weqs, wlen, wnlen, wofNat, wtake, wdrop, wapp, wzero, wnat⟩ := w); (have hbin : wbin = binStd := congrArg Prims.bin hw); (have hcmp : wcmp = cmpStd := congrArg Prims.cmp hw); (have hun : wun = unStd := congrArg Prims.un hw); (have hconv : wconv = fun k n => k.wrap n := congrArg Prims.conv hw); (have hnot : wnot = fun b => !b := congrArg Prims.not hw); (have hbeq : wbeq = fun a b => a == b := congrArg Prims.beq hw); (have hmm : wmm = maxI := congrArg Prims.mm hw); (have hscmp : wscmp = scmpStd := congrArg Prims.scmp hw); (have hsadd : wsadd = fun x y => x ++ y := congrArg Prims.sadd hw); (have hslen : wslen = fun s => (s.size : Int) := congrArg Prims.slen hw); (have hsat : wsat = std.sat := congrArg Prims.sat hw); (have heqs : weqs = fun a b os => (eqOffs a b os).getD false := congrArg Prims.eqs hw); (have hlen : wlen = fun es => (es.length : Int) := congrArg Prims.len hw); (have hnlen : wnlen = fun es => es.length := congrArg Prims.nlen hw); (have hofNat : wofNat = (fun n : Nat => (n : Int)) := congrArg Prims.ofNat hw); (have htake : wtake = fun es b => es.take b.toNat := congrArg Prims.take hw); (have hdrop : wdrop = fun es a => es.drop a.toNat := congrArg Prims.drop hw); (have happ : wapp = fun a b => a ++ b := congrArg Prims.app hw); (have hzero : wzero = fun n z => List.replicate n.toNat z := congrArg Prims.zero hw); (have hnat : wnat = fun n => n.toNat := congrArg Prims.nat hw); (conv => arg 2; cbv); (generalize hP : Try.prog = P); cbv
  (obtain ⟨L, eL, L0, Ln⟩ : ∃ L : Int, wlen rs = L ∧ 0 ≤ L ∧ L.toNat = rs.length := ⟨(rs.length : Int), by rw [hlen], Int.natCast_nonneg _, Int.toNat_natCast _⟩)
  (obtain ⟨M, eM, M0, Mn⟩ : ∃ L : Int, wlen qs = L ∧ 0 ≤ L ∧ L.toNat = qs.length := ⟨(qs.length : Int), by rw [hlen], Int.natCast_nonneg _, Int.toNat_natCast _⟩)
  have cLM : wcmp .neq L M = false := by rw [hcmp]; simp [cmpStd]; omega
  simp only [eL, eM, cLM]
  cbv
  simp only [eL]
  refine Loop.data hw (S := Int) (fun s => fr 65 [(1, .list 2 qs), (13, .list 2 rs), (14, .int .i64 L), (15, .int .i64 s)]) (fun s => [])
    (fun s => 0 ≤ s ∧ s ≤ L) (fun s => (L - s).toNat) 0 (by (refine Wk.eqz (id) (by first | exact fun i _ j _ e => e | (simp only [List.length_cons, List.length_nil]; decide)) ?_; cbv; (repeat' (first | exact trivial | rfl | assumption | apply And.intro | (simp only [hbin, hcmp, hun, hconv, hnot, hbeq, hmm, hscmp, hsadd, hslen, hsat, heqs, hofNat, binStd, cmpStd, unStd, scmpStd, maxI, Bool.not_eq_true', Bool.not_eq_false', decide_eq_true_eq, decide_eq_false_iff_not, Int.not_lt, Int.not_le, if_true, if_false, Bool.false_eq_true, beq_iff_eq, bne_iff_ne, ne_eq, Bool.not_eq_eq_eq_not, Bool.not_true, Bool.not_false, beq_eq_false_iff_ne, bne_eq_false_iff_eq, Int.ofNat_eq_natCast, Bool.not_not, not_true_eq_false, not_false_eq_true, reduceCtorEq]; first | done | assumption) | exact RowsZ.same (by assumption) (by first | assumption | rfl) | exact FzL.mk rfl rfl rfl (by assumption) (by first | assumption | rfl) (by decide) | (refine RowsZ.one ?_; cbv))))) ⟨Int.le_refl _, L0⟩ ?_
  rintro i hinv Q' hN hE hR'
  have hinv : 0 ≤ i ∧ i ≤ L := hinv
  cbv
  obtain ⟨hi0, hi1⟩ := hinv
  (split <;> rename_i hc <;> (try (simp only [hbin, hcmp, hun, hconv, hnot, hbeq, hmm, hscmp, hsadd, hslen, hsat, heqs, hofNat, binStd, cmpStd, unStd, scmpStd, maxI, Bool.not_eq_true', Bool.not_eq_false', decide_eq_true_eq, decide_eq_false_iff_not, Int.not_lt, Int.not_le, if_true, if_false, Bool.false_eq_true, beq_iff_eq, bne_iff_ne, ne_eq, Bool.not_eq_eq_eq_not, Bool.not_true, Bool.not_false, beq_eq_false_iff_ne, bne_eq_false_iff_eq, Int.ofNat_eq_natCast, Bool.not_not, not_true_eq_false, not_false_eq_true, reduceCtorEq] at hc)) <;> (try cbv))
  · obtain ⟨e, he⟩ : ∃ b, l[i.toNat]? = some b := ⟨_, List.getElem?_eq_getElem (show i.toNat < l.length by omega)⟩
    obtain ⟨i2, ei2⟩ : ∃ z, z = i + 1 := ⟨_, rfl⟩
    have a4 : wbin .add .i64 i 1 = i2 := by rw [hbin, i_add (by omega) (by omega), ei2]
    have hT : (L - i2).toNat < (L - i).toNat := by omega
    obtain ⟨c, bs⟩ := e
    obtain ⟨br, ebr⟩ : ∃ z, z = bs.map bsRow := ⟨_, rfl⟩
    have hubr : Up0 br := by rw [ebr]; exact up_bs bs
    have hbrl : br.length = bs.length := by rw [ebr]; simp
    obtain ⟨cv, ecv⟩ : ∃ v : Int, v = if c then 1 else 0 := ⟨_, rfl⟩
    have her : rs[i.toNat]? = some [.bool c, .list 1 br] := by rw [hrs, List.getElem?_map, he, ebr]; rfl
    have heq : qs[i.toNat]? = some [.int .i64 cv, .list 1 br] := by rw [hqs, List.getElem?_map, he, ebr, ecv]; rfl
    have c1 : wnot (wbeq c (wcmp .eql cv 1)) = false := by rw [hnot, hbeq, hcmp, ecv]; cases c <;> rfl
    have c2 : wcmp .neq (wlen br) (wlen br) = false := by rw [hcmp]; simp [cmpStd]
    repeat' (first
      | (refine Idx.mk _ hi0 her ?_; cbv)
      | (refine Idx.mk _ hi0 heq ?_; cbv)
      | (simp only [c1]; cbv)
      | (simp only [c2]; cbv))
    have hem := List.mem_of_getElem? he
    (obtain ⟨B, eB, B0, Bn⟩ : ∃ L : Int, wlen br = L ∧ 0 ≤ L ∧ L.toNat = br.length := ⟨(br.length : Int), by rw [hlen], Int.natCast_nonneg _, Int.toNat_natCast _⟩)
    have hB : B ≤ 255 := by have := (hr _ hem).1; simp only at this; omega
    simp only [eB]
    refine Loop.data hw (S := Int) (fun s => fr 65 [(1, .list 2 qs), (5, .int .i64 i), (6, .ref 0 2 0 0), (13, .list 2 rs), (14, .int .i64 L), (15, .int .i64 i), (43, .int .i64 B), (44, .int .i64 s)]) (fun s => [.live 2 [[.bool c, .list 1 br]]])
      (fun s => 0 ≤ s ∧ s ≤ B) (fun s => (B - s).toNat) 0 (by (refine Wk.eqz (id) (by first | exact fun i _ j _ e => e | (simp only [List.length_cons, List.length_nil]; decide)) ?_; cbv; (repeat' (first | exact trivial | rfl | assumption | apply And.intro | (simp only [hbin, hcmp, hun, hconv, hnot, hbeq, hmm, hscmp, hsadd, hslen, hsat, heqs, hofNat, binStd, cmpStd, unStd, scmpStd, maxI, Bool.not_eq_true', Bool.not_eq_false', decide_eq_true_eq, decide_eq_false_iff_not, Int.not_lt, Int.not_le, if_true, if_false, Bool.false_eq_true, beq_iff_eq, bne_iff_ne, ne_eq, Bool.not_eq_eq_eq_not, Bool.not_true, Bool.not_false, beq_eq_false_iff_ne, bne_eq_false_iff_eq, Int.ofNat_eq_natCast, Bool.not_not, not_true_eq_false, not_false_eq_true, reduceCtorEq]; first | done | assumption) | exact RowsZ.same (by assumption) (by first | assumption | rfl) | exact FzL.mk rfl rfl rfl (by assumption) (by first | assumption | rfl) (by decide) | (refine RowsZ.one ?_; cbv))))) ⟨Int.le_refl _, B0⟩ ?_
    rintro k hinv2 Q2 hN2 hE2 hR2
    have hinv2 : 0 ≤ k ∧ k ≤ B := hinv2
    cbv
    obtain ⟨hk0, hk1⟩ := hinv2
    (split <;> rename_i hk <;> (try (simp only [hbin, hcmp, hun, hconv, hnot, hbeq, hmm, hscmp, hsadd, hslen, hsat, heqs, hofNat, binStd, cmpStd, unStd, scmpStd, maxI, Bool.not_eq_true', Bool.not_eq_false', decide_eq_true_eq, decide_eq_false_iff_not, Int.not_lt, Int.not_le, if_true, if_false, Bool.false_eq_true, beq_iff_eq, bne_iff_ne, ne_eq, Bool.not_eq_eq_eq_not, Bool.not_true, Bool.not_false, beq_eq_false_iff_ne, bne_eq_false_iff_eq, Int.ofNat_eq_natCast, Bool.not_not, not_true_eq_false, not_false_eq_true, reduceCtorEq] at hk)) <;> (try cbv))
    · obtain ⟨b, hb⟩ : ∃ b, bs[k.toNat]? = some b := ⟨_, List.getElem?_eq_getElem (show k.toNat < bs.length by omega)⟩
      have hbok : BytesOk b := hok _ hem b (List.mem_of_getElem? hb)
      obtain ⟨bb, ebb⟩ : ∃ z, z = b.map bRow := ⟨_, rfl⟩
      have hubb : Up0 bb := by rw [ebb]; exact up_b b
      have hbr : br[k.toNat]? = some [.list 1 bb] := by rw [ebr, List.getElem?_map, hb, ebb]; rfl
      obtain ⟨k2, ek2⟩ : ∃ z, z = k + 1 := ⟨_, rfl⟩
      have a6 : wbin .add .i64 k 1 = k2 := by rw [hbin, i_add (by omega) (by omega), ek2]
      have hT2 : (B - k2).toNat < (B - k).toNat := by omega
      obtain ⟨sb, esb⟩ : ∃ z, z = baOf b := ⟨_, rfl⟩
      have hsb : bb = bytesRows sb := by rw [ebb, esb]; exact ba_rows hbok
      have c3 : wscmp .neq sb sb = false := by rw [hscmp]; simp [scmpStd]
      repeat' (first
        | (refine Idx.mk _ hi0 heq ?_; cbv)
        | (refine Idx.mk _ hk0 hbr ?_; cbv)
        | (refine ToS.mk sb rfl hsb ?_; cbv))
      simp only [c3]
      cbv
      simp only [a6]
      refine hN2 k2 _ _ ?hx ?hi hT2
      case hx => (refine Wk.eqz (id) (by first | exact fun i _ j _ e => e | (simp only [List.length_cons, List.length_nil]; decide)) ?_; cbv; (repeat' (first | exact trivial | rfl | assumption | apply And.intro | (simp only [hbin, hcmp, hun, hconv, hnot, hbeq, hmm, hscmp, hsadd, hslen, hsat, heqs, hofNat, binStd, cmpStd, unStd, scmpStd, maxI, Bool.not_eq_true', Bool.not_eq_false', decide_eq_true_eq, decide_eq_false_iff_not, Int.not_lt, Int.not_le, if_true, if_false, Bool.false_eq_true, beq_iff_eq, bne_iff_ne, ne_eq, Bool.not_eq_eq_eq_not, Bool.not_true, Bool.not_false, beq_eq_false_iff_ne, bne_eq_false_iff_eq, Int.ofNat_eq_natCast, Bool.not_not, not_true_eq_false, not_false_eq_true, reduceCtorEq]; first | done | assumption) | exact RowsZ.same (by assumption) (by first | assumption | rfl) | exact FzL.mk rfl rfl rfl (by assumption) (by first | assumption | rfl) (by decide) | (refine RowsZ.one ?_; cbv))))
      case hi => exact ⟨by omega, by omega⟩
    · refine hE2 _ _ _ ?_
      cbv
      simp only [a4]
      refine hN i2 _ _ ?hx ?hi hT
      case hx => (refine Wk.eqz (id) (by first | exact fun i _ j _ e => e | (simp only [List.length_cons, List.length_nil]; decide)) ?_; cbv; (repeat' (first | exact trivial | rfl | assumption | apply And.intro | (simp only [hbin, hcmp, hun, hconv, hnot, hbeq, hmm, hscmp, hsadd, hslen, hsat, heqs, hofNat, binStd, cmpStd, unStd, scmpStd, maxI, Bool.not_eq_true', Bool.not_eq_false', decide_eq_true_eq, decide_eq_false_iff_not, Int.not_lt, Int.not_le, if_true, if_false, Bool.false_eq_true, beq_iff_eq, bne_iff_ne, ne_eq, Bool.not_eq_eq_eq_not, Bool.not_true, Bool.not_false, beq_eq_false_iff_ne, bne_eq_false_iff_eq, Int.ofNat_eq_natCast, Bool.not_not, not_true_eq_false, not_false_eq_true, reduceCtorEq]; first | done | assumption) | exact RowsZ.same (by assumption) (by first | assumption | rfl) | exact FzL.mk rfl rfl rfl (by assumption) (by first | assumption | rfl) (by decide) | (refine RowsZ.one ?_; cbv))))
      case hi => exact ⟨by omega, by omega⟩
  · refine hE _ _ _ ?_
    cbv
    exact ⟨_, Vw.same rfl, hR _ rfl⟩
def EnBig (e : En) : Prop := e.2.length ≤ 140737488355328 ∧ ∀ b, b ∈ e.2 → b.length ≤ 140737488355328
set_option maxHeartbeats 4000000 in
theorem e_size26 (l : List En) (rs : List (List AV)) (hrs : rs = l.map enRow) (hl : l.length ≤ 140737488355328) (hbig : ∀ e, e ∈ l → EnBig e) : PCalls Try.prog 10 [.list 2 rs] (fun r => ∃ n : Int, r = .int .i64 n ∧ (n ≤ 200000 → sizeL l ≤ 200000)) := by
  have hu : Up0 rs := by rw [hrs]; exact up_en l
  have hrl : rs.length = l.length := by rw [hrs]; simp
  (refine PCalls.ofY Try.func10 (by kernel_rfl) (by kernel_rfl) fun w hw R hR => ?_); (obtain ⟨wbin, wcmp, wun, wconv, wnot, wbeq, wmm, wscmp, wsadd, wslen, wsat, weqs, wlen, wnlen, wofNat, wtake, wdrop, wapp, wzero, wnat⟩ := w); (have hbin : wbin = binStd := congrArg Prims.bin hw); (have hcmp : wcmp = cmpStd := congrArg Prims.cmp hw); (have hun : wun = unStd := congrArg Prims.un hw); (have hconv : wconv = fun k n => k.wrap n := congrArg Prims.conv hw); (have hnot : wnot = fun b => !b := congrArg Prims.not hw); (have hbeq : wbeq = fun a b => a == b := congrArg Prims.beq hw); (have hmm : wmm = maxI := congrArg Prims.mm hw); (have hscmp : wscmp = scmpStd := congrArg Prims.scmp hw); (have hsadd : wsadd = fun x y => x ++ y := congrArg Prims.sadd hw); (have hslen : wslen = fun s => (s.size : Int) := congrArg Prims.slen hw); (have hsat : wsat = std.sat := congrArg Prims.sat hw); (have heqs : weqs = fun a b os => (eqOffs a b os).getD false := congrArg Prims.eqs hw); (have hlen : wlen = fun es => (es.length : Int) := congrArg Prims.len hw); (have hnlen : wnlen = fun es => es.length := congrArg Prims.nlen hw); (have hofNat : wofNat = (fun n : Nat => (n : Int)) := congrArg Prims.ofNat hw); (have htake : wtake = fun es b => es.take b.toNat := congrArg Prims.take hw); (have hdrop : wdrop = fun es a => es.drop a.toNat := congrArg Prims.drop hw); (have happ : wapp = fun a b => a ++ b := congrArg Prims.app hw); (have hzero : wzero = fun n z => List.replicate n.toNat z := congrArg Prims.zero hw); (have hnat : wnat = fun n => n.toNat := congrArg Prims.nat hw); (conv => arg 2; cbv); (generalize hP : Try.prog = P); cbv
  (obtain ⟨L, eL, L0, Ln⟩ : ∃ L : Int, wlen rs = L ∧ 0 ≤ L ∧ L.toNat = rs.length := ⟨(rs.length : Int), by rw [hlen], Int.natCast_nonneg _, Int.toNat_natCast _⟩)
  simp only [eL]
  refine Loop.data hw (S := Int × Int) (fun s => fr 41 [(3, .int .i64 s.2), (10, .list 2 rs), (11, .int .i64 L), (12, .int .i64 s.1)]) (fun s => [])
    (fun s => 0 ≤ s.1 ∧ s.1 ≤ L ∧ s.2.toNat = l.length + ((l.take s.1.toNat).map sizeE).sum ∧ (s.2 ≤ 200000 ∨ s.1 = 0 ∧ s.2 ≤ 140737488355328) ∧ 0 ≤ s.2) (fun s => (L - s.1).toNat) (0, L) (by (refine Wk.eqz (id) (by first | exact fun i _ j _ e => e | (simp only [List.length_cons, List.length_nil]; decide)) ?_; cbv; (repeat' (first | exact trivial | rfl | assumption | apply And.intro | (simp only [hbin, hcmp, hun, hconv, hnot, hbeq, hmm, hscmp, hsadd, hslen, hsat, heqs, hofNat, binStd, cmpStd, unStd, scmpStd, maxI, Bool.not_eq_true', Bool.not_eq_false', decide_eq_true_eq, decide_eq_false_iff_not, Int.not_lt, Int.not_le, if_true, if_false, Bool.false_eq_true, beq_iff_eq, bne_iff_ne, ne_eq, Bool.not_eq_eq_eq_not, Bool.not_true, Bool.not_false, beq_eq_false_iff_ne, bne_eq_false_iff_eq, Int.ofNat_eq_natCast, Bool.not_not, not_true_eq_false, not_false_eq_true, reduceCtorEq]; first | done | assumption) | exact RowsZ.same (by assumption) (by first | assumption | rfl) | exact FzL.mk rfl rfl rfl (by assumption) (by first | assumption | rfl) (by decide) | (refine RowsZ.one ?_; cbv))))) ⟨Int.le_refl _, L0, by simp only; simp; omega, .inr ⟨rfl, by simp only; omega⟩, L0⟩ ?_
  rintro ⟨i, n⟩ hinv Q' hN hE hR'
  have hinv : 0 ≤ i ∧ i ≤ L ∧ n.toNat = l.length + ((l.take i.toNat).map sizeE).sum ∧ (n ≤ 200000 ∨ i = 0 ∧ n ≤ 140737488355328) ∧ 0 ≤ n := hinv
  cbv
  obtain ⟨hi0, hi1, hn, hns, hn0⟩ := hinv
  (split <;> rename_i hc <;> (try (simp only [hbin, hcmp, hun, hconv, hnot, hbeq, hmm, hscmp, hsadd, hslen, hsat, heqs, hofNat, binStd, cmpStd, unStd, scmpStd, maxI, Bool.not_eq_true', Bool.not_eq_false', decide_eq_true_eq, decide_eq_false_iff_not, Int.not_lt, Int.not_le, if_true, if_false, Bool.false_eq_true, beq_iff_eq, bne_iff_ne, ne_eq, Bool.not_eq_eq_eq_not, Bool.not_true, Bool.not_false, beq_eq_false_iff_ne, bne_eq_false_iff_eq, Int.ofNat_eq_natCast, Bool.not_not, not_true_eq_false, not_false_eq_true, reduceCtorEq] at hc)) <;> (try cbv))
  · obtain ⟨e, he⟩ : ∃ b, l[i.toNat]? = some b := ⟨_, List.getElem?_eq_getElem (show i.toNat < l.length by omega)⟩
    have hem := List.mem_of_getElem? he
    have hEb := hbig e hem
    obtain ⟨i2, ei2⟩ : ∃ z, z = i + 1 := ⟨_, rfl⟩
    have a4 : wbin .add .i64 i 1 = i2 := by rw [hbin, i_add (by omega) (by omega), ei2]
    have hT : (L - i2).toNat < (L - i).toNat := by omega
    have htk : l.take i2.toNat = l.take i.toNat ++ [e] := by rw [ei2]; exact take_nx hi0 he
    obtain ⟨c, bs⟩ := e
    obtain ⟨sp, esp⟩ : ∃ z, z = ((l.take i.toNat).map sizeE).sum := ⟨_, rfl⟩
    rw [← esp] at hn
    have hs2 : ((l.take i2.toNat).map sizeE).sum = sp + (bs.length + (bs.map List.length).sum) := by rw [htk, List.map_append, List.sum_append, ← esp]; simp [sizeE]
    obtain ⟨br, ebr⟩ : ∃ z, z = bs.map bsRow := ⟨_, rfl⟩
    have hubr : Up0 br := by rw [ebr]; exact up_bs bs
    have hbrl : br.length = bs.length := by rw [ebr]; simp
    have her : rs[i.toNat]? = some [.bool c, .list 1 br] := by rw [hrs, List.getElem?_map, he, ebr]; rfl
    refine Idx.mk _ hi0 her ?_
    cbv
    (obtain ⟨B, eB, B0, Bn⟩ : ∃ L : Int, wlen br = L ∧ 0 ≤ L ∧ L.toNat = br.length := ⟨(br.length : Int), by rw [hlen], Int.natCast_nonneg _, Int.toNat_natCast _⟩)
    have hbsl : bs.length ≤ 140737488355328 := hEb.1
    obtain ⟨n1, en1⟩ : ∃ z, z = n + B := ⟨_, rfl⟩
    have a5 : wbin .add .i64 n B = n1 := by rw [hbin, i_add (by omega) (by omega), en1]
    simp only [eB, a5]
    refine Loop.data hw (S := Int × Int) (fun s => fr 41 [(3, .int .i64 s.2), (10, .list 2 rs), (11, .int .i64 L), (12, .int .i64 i), (22, .list 1 br), (23, .int .i64 B), (24, .int .i64 s.1)]) (fun s => [])
      (fun s => 0 ≤ s.1 ∧ s.1 ≤ B ∧ s.2.toNat = n1.toNat + ((bs.take s.1.toNat).map List.length).sum ∧ (s.2 ≤ 200000 ∨ s.1 = 0 ∧ s.2 ≤ 281474976710656) ∧ 0 ≤ s.2) (fun s => (B - s.1).toNat) (0, n1) (by (refine Wk.eqz (id) (by first | exact fun i _ j _ e => e | (simp only [List.length_cons, List.length_nil]; decide)) ?_; cbv; (repeat' (first | exact trivial | rfl | assumption | apply And.intro | (simp only [hbin, hcmp, hun, hconv, hnot, hbeq, hmm, hscmp, hsadd, hslen, hsat, heqs, hofNat, binStd, cmpStd, unStd, scmpStd, maxI, Bool.not_eq_true', Bool.not_eq_false', decide_eq_true_eq, decide_eq_false_iff_not, Int.not_lt, Int.not_le, if_true, if_false, Bool.false_eq_true, beq_iff_eq, bne_iff_ne, ne_eq, Bool.not_eq_eq_eq_not, Bool.not_true, Bool.not_false, beq_eq_false_iff_ne, bne_eq_false_iff_eq, Int.ofNat_eq_natCast, Bool.not_not, not_true_eq_false, not_false_eq_true, reduceCtorEq]; first | done | assumption) | exact RowsZ.same (by assumption) (by first | assumption | rfl) | exact FzL.mk rfl rfl rfl (by assumption) (by first | assumption | rfl) (by decide) | (refine RowsZ.one ?_; cbv))))) ⟨Int.le_refl _, B0, by simp, .inr ⟨rfl, by simp only; omega⟩, by simp only; omega⟩ ?_
    rintro ⟨k, m⟩ hinv2 Q2 hN2 hE2 hR2
    have hinv2 : 0 ≤ k ∧ k ≤ B ∧ m.toNat = n1.toNat + ((bs.take k.toNat).map List.length).sum ∧ (m ≤ 200000 ∨ k = 0 ∧ m ≤ 281474976710656) ∧ 0 ≤ m := hinv2
    cbv
    obtain ⟨hk0, hk1, hm, hms, hm0⟩ := hinv2
    (split <;> rename_i hk <;> (try (simp only [hbin, hcmp, hun, hconv, hnot, hbeq, hmm, hscmp, hsadd, hslen, hsat, heqs, hofNat, binStd, cmpStd, unStd, scmpStd, maxI, Bool.not_eq_true', Bool.not_eq_false', decide_eq_true_eq, decide_eq_false_iff_not, Int.not_lt, Int.not_le, if_true, if_false, Bool.false_eq_true, beq_iff_eq, bne_iff_ne, ne_eq, Bool.not_eq_eq_eq_not, Bool.not_true, Bool.not_false, beq_eq_false_iff_ne, bne_eq_false_iff_eq, Int.ofNat_eq_natCast, Bool.not_not, not_true_eq_false, not_false_eq_true, reduceCtorEq] at hk)) <;> (try cbv))
    · obtain ⟨b, hb⟩ : ∃ b, bs[k.toNat]? = some b := ⟨_, List.getElem?_eq_getElem (show k.toNat < bs.length by omega)⟩
      have hbb : b.length ≤ 140737488355328 := hEb.2 b (List.mem_of_getElem? hb)
      obtain ⟨bb, ebb⟩ : ∃ z, z = b.map bRow := ⟨_, rfl⟩
      have hbbl : bb.length = b.length := by rw [ebb]; simp
      have hbr : br[k.toNat]? = some [.list 1 bb] := by rw [ebr, List.getElem?_map, hb, ebb]; rfl
      obtain ⟨k2, ek2⟩ : ∃ z, z = k + 1 := ⟨_, rfl⟩
      have a6 : wbin .add .i64 k 1 = k2 := by rw [hbin, i_add (by omega) (by omega), ek2]
      have hT2 : (B - k2).toNat < (B - k).toNat := by omega
      have htk2 : bs.take k2.toNat = bs.take k.toNat ++ [b] := by rw [ek2]; exact take_nx hk0 hb
      refine Idx.mk _ hk0 hbr ?_
      cbv
      (obtain ⟨D, eD, D0, Dn⟩ : ∃ L : Int, wlen bb = L ∧ 0 ≤ L ∧ L.toNat = bb.length := ⟨(bb.length : Int), by rw [hlen], Int.natCast_nonneg _, Int.toNat_natCast _⟩)
      obtain ⟨m2, em2⟩ : ∃ z, z = m + D := ⟨_, rfl⟩
      have a7 : wbin .add .i64 m D = m2 := by rw [hbin, i_add (by omega) (by omega), em2]
      simp only [eD, a7]
      (split <;> rename_i h2 <;> (try (simp only [hbin, hcmp, hun, hconv, hnot, hbeq, hmm, hscmp, hsadd, hslen, hsat, heqs, hofNat, binStd, cmpStd, unStd, scmpStd, maxI, Bool.not_eq_true', Bool.not_eq_false', decide_eq_true_eq, decide_eq_false_iff_not, Int.not_lt, Int.not_le, if_true, if_false, Bool.false_eq_true, beq_iff_eq, bne_iff_ne, ne_eq, Bool.not_eq_eq_eq_not, Bool.not_true, Bool.not_false, beq_eq_false_iff_ne, bne_eq_false_iff_eq, Int.ofNat_eq_natCast, Bool.not_not, not_true_eq_false, not_false_eq_true, reduceCtorEq] at h2)) <;> (try cbv))
      · refine hR2 _ _ ?_
        refine hR' _ _ ⟨_, Vw.same rfl, hR _ ⟨m2, rfl, fun h => by omega⟩⟩
      · simp only [a6]
        refine hN2 (k2, m2) _ _ ?hx ?hi hT2
        case hx => (refine Wk.eqz (id) (by first | exact fun i _ j _ e => e | (simp only [List.length_cons, List.length_nil]; decide)) ?_; cbv; (repeat' (first | exact trivial | rfl | assumption | apply And.intro | (simp only [hbin, hcmp, hun, hconv, hnot, hbeq, hmm, hscmp, hsadd, hslen, hsat, heqs, hofNat, binStd, cmpStd, unStd, scmpStd, maxI, Bool.not_eq_true', Bool.not_eq_false', decide_eq_true_eq, decide_eq_false_iff_not, Int.not_lt, Int.not_le, if_true, if_false, Bool.false_eq_true, beq_iff_eq, bne_iff_ne, ne_eq, Bool.not_eq_eq_eq_not, Bool.not_true, Bool.not_false, beq_eq_false_iff_ne, bne_eq_false_iff_eq, Int.ofNat_eq_natCast, Bool.not_not, not_true_eq_false, not_false_eq_true, reduceCtorEq]; first | done | assumption) | exact RowsZ.same (by assumption) (by first | assumption | rfl) | exact FzL.mk rfl rfl rfl (by assumption) (by first | assumption | rfl) (by decide) | (refine RowsZ.one ?_; cbv))))
        case hi => exact ⟨by simp only; omega, by simp only; omega, by simp only; rw [htk2, List.map_append, List.sum_append]; simp only [List.map_cons, List.map_nil, List.sum_cons, List.sum_nil]; omega, .inl (by simp only; omega), by simp only; omega⟩
    · refine hE2 _ _ _ ?_
      cbv
      have hsum : m.toNat = n1.toNat + (bs.map List.length).sum := by rw [hm, List.take_of_length_le (by omega)]
      (split <;> rename_i h3 <;> (try (simp only [hbin, hcmp, hun, hconv, hnot, hbeq, hmm, hscmp, hsadd, hslen, hsat, heqs, hofNat, binStd, cmpStd, unStd, scmpStd, maxI, Bool.not_eq_true', Bool.not_eq_false', decide_eq_true_eq, decide_eq_false_iff_not, Int.not_lt, Int.not_le, if_true, if_false, Bool.false_eq_true, beq_iff_eq, bne_iff_ne, ne_eq, Bool.not_eq_eq_eq_not, Bool.not_true, Bool.not_false, beq_eq_false_iff_ne, bne_eq_false_iff_eq, Int.ofNat_eq_natCast, Bool.not_not, not_true_eq_false, not_false_eq_true, reduceCtorEq] at h3)) <;> (try cbv))
      · refine hR' _ _ ⟨_, Vw.same rfl, hR _ ⟨m, rfl, fun h => by omega⟩⟩
      · simp only [a4]
        refine hN (i2, m) _ _ ?hx ?hi hT
        case hx => (refine Wk.eqz (id) (by first | exact fun i _ j _ e => e | (simp only [List.length_cons, List.length_nil]; decide)) ?_; cbv; (repeat' (first | exact trivial | rfl | assumption | apply And.intro | (simp only [hbin, hcmp, hun, hconv, hnot, hbeq, hmm, hscmp, hsadd, hslen, hsat, heqs, hofNat, binStd, cmpStd, unStd, scmpStd, maxI, Bool.not_eq_true', Bool.not_eq_false', decide_eq_true_eq, decide_eq_false_iff_not, Int.not_lt, Int.not_le, if_true, if_false, Bool.false_eq_true, beq_iff_eq, bne_iff_ne, ne_eq, Bool.not_eq_eq_eq_not, Bool.not_true, Bool.not_false, beq_eq_false_iff_ne, bne_eq_false_iff_eq, Int.ofNat_eq_natCast, Bool.not_not, not_true_eq_false, not_false_eq_true, reduceCtorEq]; first | done | assumption) | exact RowsZ.same (by assumption) (by first | assumption | rfl) | exact FzL.mk rfl rfl rfl (by assumption) (by first | assumption | rfl) (by decide) | (refine RowsZ.one ?_; cbv))))
        case hi => exact ⟨by simp only; omega, by simp only; omega, by simp only; rw [hs2]; omega, .inl (by simp only; omega), hm0⟩
  · refine hE _ _ _ ?_
    cbv
    refine ⟨_, Vw.same rfl, hR _ ⟨n, rfl, fun h => ?_⟩⟩
    rw [List.take_of_length_le (by omega)] at hn
    unfold sizeL
    omega
end Go.Proofs.Ytekhigoblbkiaaa

