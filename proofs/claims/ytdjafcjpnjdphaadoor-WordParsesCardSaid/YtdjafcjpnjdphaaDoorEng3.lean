/- The engine, part 3: the operations one by one. -/
import Derived.Test.YtdjafcjpnjdphaaDoorEng2
set_option linter.unusedVariables false
set_option linter.unusedSimpArgs false
namespace Go.Eng
open Go Go.RowKit
variable {P : Program} {o : Oper} {ev : AOpnd → AV} {h : AHeap}

theorem snd_mv {x : Operand} {y : AOpnd} (ho : o.op = .move x ∨ o.op = .assign x) (hx : cOpnd x = some y) : OSound P o ev h (.val (ev y)) := by
  refine OSound.val fun c e R hs he => ⟨e x, ?_, he x y hx⟩
  rcases ho with ho | ho <;> simp [execOp, ho]
theorem snd_pick {x a b : Operand} {x' a' b' : AOpnd} {t : Bool} (ho : o.op = .pick x a b) (hx : cOpnd x = some x') (ha : cOpnd a = some a') (hb : cOpnd b = some b') (hv : ev x' = .bool t) :
    OSound P o ev h (.val (if t then ev a' else ev b')) := by
  refine OSound.val fun c e R hs he => ⟨if t then e a else e b, ?_, ?_⟩
  · have := (hv ▸ he x x' hx : VR c (.bool t) (e x)).bool'
    simp [execOp, ho, this, asBool]
  · cases t
    · exact he b b' hb
    · exact he a a' ha
theorem snd_un {op : UnOp} {t : TypeId} {x : Operand} {y : AOpnd} {K : Res → Prop} (ho : o.op = .unOp op t x) (hx : cOpnd x = some y) (hK : vcOp (.un op y) ev h K) : ∃ r, K r ∧ OSound P o ev h r := by
  simp only [vcOp] at hK
  split at hK
  · rename_i k n hy
    refine ⟨_, hK, OSound.val fun c e R hs he => ⟨_, ?_, .int _ _⟩⟩
    have := (hy ▸ he x y hx : VR c _ (e x)).int'
    simp [execOp, ho, this, Op.unary, Op.intArith]
  · rename_i b hy
    refine ⟨_, hK, OSound.val fun c e R hs he => ⟨_, ?_, .bool _⟩⟩
    have := (hy ▸ he x y hx : VR c _ (e x)).bool'
    simp [execOp, ho, this, Op.unary]
  · rename_i k n hy
    refine ⟨_, hK, OSound.val fun c e R hs he => ⟨_, ?_, .int _ _⟩⟩
    have := (hy ▸ he x y hx : VR c _ (e x)).int'
    simp [execOp, ho, this, Op.unary, Op.intBits]
  · exact hK.elim
theorem snd_conv {s d : TypeId} {k0 k : IntKind} {x : Operand} {y : AOpnd} {K : Res → Prop} (ho : o.op = .convert s d x) (hs : P.underlying s = some (.int k0)) (hd : P.underlying d = some (.int k)) (hx : cOpnd x = some y)
    (hK : vcOp (.conv k y) ev h K) : ∃ r, K r ∧ OSound P o ev h r := by
  simp only [vcOp] at hK
  split at hK
  · rename_i k' n hy
    refine ⟨_, hK, OSound.val fun c e R hsub he => ⟨_, ?_, .int _ _⟩⟩
    have := (hy ▸ he x y hx : VR c _ (e x)).int'
    simp [execOp, ho, this, convert, run_und c.w hs, run_und c.w hd, Conv.intToInt]
  · exact hK.elim
theorem snd_convS {s d : TypeId} {x : Operand} {y : AOpnd} {K : Res → Prop} (ho : o.op = .convert s d x) (hs : P.underlying s = some .string) (hd : P.underlying d = some .string) (hx : cOpnd x = some y)
    (hK : vcOp (.mvs y) ev h K) : ∃ r, K r ∧ OSound P o ev h r := by
  simp only [vcOp] at hK
  split at hK
  · rename_i n hy
    refine ⟨_, hK, OSound.val fun c e R hsub he => ⟨_, ?_, .str _⟩⟩
    have := (hy ▸ he x y hx : VR c _ (e x)).str'
    simp [execOp, ho, this, convert, run_und c.w hs, run_und c.w hd]
  · exact hK.elim

theorem eqGuard_int (op : BinOp) (t : TypeId) (x y : Operand) (k : IntKind) (a : Int) (v : Value) : eqGuard op t x y (.int k a) v = pure () := by cases op <;> rfl
theorem eqGuard_str (op : BinOp) (t : TypeId) (x y : Operand) (a : ByteArray) (v : Value) : eqGuard op t x y (.string a) v = pure () := by cases op <;> rfl
theorem eqGuard_bool (op : BinOp) (t : TypeId) (x y : Operand) (a : Bool) (v : Value) : eqGuard op t x y (.bool a) v = pure () := by cases op <;> rfl
theorem snd_bin {op : BinOp} {t u : TypeId} {x y : Operand} {x' y' : AOpnd} {K : Res → Prop} (ho : o.op = .binOp op t x y u) (hx : cOpnd x = some x') (hy : cOpnd y = some y') (hK : vcOp (.bin op x' y') ev h K) :
    ∃ r, K r ∧ OSound P o ev h r := by
  simp only [vcOp] at hK
  split at hK
  · rename_i k a k' b hxa hyb
    have finI : ∀ n, (∀ w : World, (binOp op t (.int k a) (.int k' b)).run P w = .ok (.int k n) w) → OSound P o ev h (.val (.int k n)) := by
      intro v hv
      refine OSound.val fun c e R hs he => ⟨_, ?_, .int _ _⟩
      have h1 := (hxa ▸ he x x' hx : VR c _ (e x)).int'
      have h2 := (hyb ▸ he y y' hy : VR c _ (e y)).int'
      simp [execOp, ho, h1, h2, eqGuard_int, hv]
    have finB : ∀ n, (∀ w : World, (binOp op t (.int k a) (.int k' b)).run P w = .ok (.bool n) w) → OSound P o ev h (.val (.bool n)) := by
      intro v hv
      refine OSound.val fun c e R hs he => ⟨_, ?_, .bool _⟩
      have h1 := (hxa ▸ he x x' hx : VR c _ (e x)).int'
      have h2 := (hyb ▸ he y y' hy : VR c _ (e y)).int'
      simp [execOp, ho, h1, h2, eqGuard_int, hv]
    split at hK
    · rename_i hsh
      cases op <;> simp only [AOp.isShift, Bool.false_eq_true] at hsh <;> simp only [shiftI] at hK <;> obtain ⟨h0, hK⟩ := hK <;>
        exact ⟨_, hK, finI _ (fun w => by simp [binOp, Op.shift, Int.not_lt.2 h0])⟩
    · rename_i hsh
      obtain ⟨rfl, hK⟩ := hK
      cases op <;> simp only [AOp.isShift, not_true_eq_false] at hsh <;> simp only [binI] at hK
      case add => exact ⟨_, hK, finI _ (fun w => by simp [binOp, Op.intArith])⟩
      case sub => exact ⟨_, hK, finI _ (fun w => by simp [binOp, Op.intArith])⟩
      case mul => exact ⟨_, hK, finI _ (fun w => by simp [binOp, Op.intArith])⟩
      case quo => exact ⟨_, hK.2, finI _ (fun w => by simp [binOp, Op.intDiv, hK.1])⟩
      case rem => exact ⟨_, hK.2, finI _ (fun w => by simp [binOp, Op.intDiv, hK.1])⟩
      case and => exact ⟨_, hK, finI _ (fun w => by simp [binOp, Op.intBits])⟩
      case or => exact ⟨_, hK, finI _ (fun w => by simp [binOp, Op.intBits])⟩
      case xor => exact ⟨_, hK, finI _ (fun w => by simp [binOp, Op.intBits])⟩
      case andNot => exact ⟨_, hK, finI _ (fun w => by simp only [binOp, Op.intBits, ne_eq, not_true_eq_false, if_false, Sem.run_pure])⟩
      case eql => exact ⟨_, hK, finB _ (fun w => by simp [binOp, Op.intCmp])⟩
      case neq => exact ⟨_, hK, finB _ (fun w => by simp [binOp, Op.intCmp])⟩
      case lss => exact ⟨_, hK, finB _ (fun w => by simp [binOp, Op.intCmp])⟩
      case leq => exact ⟨_, hK, finB _ (fun w => by simp [binOp, Op.intCmp])⟩
      case gtr => exact ⟨_, hK, finB _ (fun w => by simp [binOp, Op.intCmp])⟩
      case geq => exact ⟨_, hK, finB _ (fun w => by simp [binOp, Op.intCmp])⟩
  · rename_i a b hxa hyb
    have finB : ∀ n, (∀ w : World, (binOp op t (.string a) (.string b)).run P w = .ok (.bool n) w) → OSound P o ev h (.val (.bool n)) := by
      intro v hv
      refine OSound.val fun c e R hs he => ⟨_, ?_, .bool _⟩
      have h1 := (hxa ▸ he x x' hx : VR c _ (e x)).str'
      have h2 := (hyb ▸ he y y' hy : VR c _ (e y)).str'
      simp [execOp, ho, h1, h2, eqGuard_str, hv]
    have finS : ∀ n, (∀ w : World, (binOp op t (.string a) (.string b)).run P w = .ok (.string n) w) → OSound P o ev h (.val (.str n)) := by
      intro v hv
      refine OSound.val fun c e R hs he => ⟨_, ?_, .str _⟩
      have h1 := (hxa ▸ he x x' hx : VR c _ (e x)).str'
      have h2 := (hyb ▸ he y y' hy : VR c _ (e y)).str'
      simp [execOp, ho, h1, h2, eqGuard_str, hv]
    cases op <;> simp only [binS] at hK
    case add =>
      have h1 : ¬ (9223372036854775807 < ((a.size : Int) + (b.size : Int))) := by have := hK.1; omega
      exact ⟨_, hK.2, finS _ (fun w => by simp [binOp, Op.stringOp, h1])⟩
    case eql => exact ⟨_, hK, finB _ (fun w => by simp only [binOp, Op.stringOp, Sem.run_pure])⟩
    case neq => exact ⟨_, hK, finB _ (fun w => by simp only [binOp, Op.stringOp, Sem.run_pure])⟩
    case lss => exact ⟨_, hK, finB _ (fun w => by simp only [binOp, Op.stringOp, Sem.run_pure])⟩
    case leq => exact ⟨_, hK, finB _ (fun w => by simp only [binOp, Op.stringOp, Sem.run_pure])⟩
    case gtr => exact ⟨_, hK, finB _ (fun w => by simp only [binOp, Op.stringOp, Sem.run_pure])⟩
    case geq => exact ⟨_, hK, finB _ (fun w => by simp only [binOp, Op.stringOp, Sem.run_pure])⟩
    all_goals exact hK.elim
  · exact hK.elim

theorem run_equal_bool {t : TypeId} (ht : P.underlying t = some .bool) (a b : Bool) (w : World) (d : Nat) : (Op.equalIn (d + 1) t (.bool a) (.bool b)).run P w = .ok (a == b) w := by
  simp only [Op.equalIn, Sem.run_bind, run_und w ht, Result.andThen_ok, Sem.run_pure]
theorem snd_eqb {op : BinOp} {t u : TypeId} {x y : Operand} {x' y' : AOpnd} {K : Res → Prop} (neq : Bool) (hop : op = if neq then .neq else .eql) (ho : o.op = .binOp op t x y u) (ht : P.underlying t = some .bool) (hx : cOpnd x = some x') (hy : cOpnd y = some y')
    (hK : vcOp (.eqb neq x' y') ev h K) : ∃ r, K r ∧ OSound P o ev h r := by
  simp only [vcOp] at hK
  split at hK
  · rename_i a b hxa hyb
    refine ⟨_, hK, OSound.val fun c e R hs he => ⟨_, ?_, .bool _⟩⟩
    have h1 := (hxa ▸ he x x' hx : VR c _ (e x)).bool'
    have h2 := (hyb ▸ he y y' hy : VR c _ (e y)).bool'
    have hq : (Op.equal t (.bool a) (.bool b)).run P c.w = .ok (a == b) c.w := by
      exact run_equal_bool ht a b c.w 9999
    cases neq <;> simp only [Bool.false_eq_true, if_false, if_true] at hop <;> subst hop <;> simp [execOp, ho, h1, h2, eqGuard_bool, binOp, hq]
  · exact hK.elim

theorem snd_fld {s : TypeId} {f : Nat} {x : Operand} {y : AOpnd} {off k : Nat} {g : Bool} {K : Res → Prop} (ho : o.op = .field s x f) (hf : fieldIn P s f = some (off, k, g)) (hx : cOpnd x = some y) (hgk : g = true ∨ k = 1)
    (hK : vcOp (.fld g off k y) ev h K) : ∃ r, K r ∧ OSound P o ev h r := by
  simp only [vcOp] at hK
  split at hK
  · rename_i cs hy
    obtain ⟨hle, hK⟩ := hK
    refine ⟨_, hK, OSound.val fun c e R hs he => ?_⟩
    obtain ⟨vs, hvs, hV⟩ := (hy ▸ he x y hx : VR c _ (e x)).agg'
    unfold fieldIn at hf
    split at hf
    · rename_i fs hu
      split at hf
      · rename_i fd hfd
        split at hf
        · rename_i k' g' hk hg
          simp only [Option.some.injEq, Prod.mk.injEq] at hf
          obtain ⟨rfl, rfl, rfl⟩ := hf
          obtain ⟨cv, h1, h2⟩ := run_part c hg hk hgk hV fd.offset hle
          exact ⟨cv, by simp [execOp, ho, hvs, Instr.field, run_und c.w hu, hfd, asAgg, h1], h2⟩
        · cases hf
      · cases hf
    · cases hf
  · exact hK.elim
theorem snd_fadr {s : TypeId} {f : Nat} {x : Operand} {y : AOpnd} {off k : Nat} {g : Bool} {K : Res → Prop} (ho : o.op = .fieldAddr s x f) (hf : fieldIn P s f = some (off, k, g)) (hx : cOpnd x = some y) (hk0 : 0 < k)
    (hK : vcOp (.fadr off y) ev h K) : ∃ r, K r ∧ OSound P o ev h r := by
  unfold fieldIn at hf
  split at hf
  case h_2 => cases hf
  rename_i fs hu
  split at hf
  case h_2 => cases hf
  rename_i fd hfd
  split at hf
  case h_2 => cases hf
  rename_i k' g' hk hg
  simp only [Option.some.injEq, Prod.mk.injEq] at hf
  obtain ⟨rfl, rfl, rfl⟩ := hf
  have hne : k' ≠ 0 := by omega
  have run : ∀ (w : World) (a : Addr), (Instr.fieldAt s (.pointer (some a)) f).run P w = .ok (.pointer (some (a.add fd.offset))) w := by
    intro w a
    simp [Instr.fieldAt, run_und w hu, hfd, Instr.sureAddr, fieldPlace, run_size w hk, hne]
  simp only [vcOp] at hK
  split at hK
  · rename_i s' z i o' hy
    refine ⟨_, hK, OSound.val fun c e R hs he => ?_⟩
    have hV := (hy ▸ he x y hx : VR c _ (e x))
    obtain ⟨h1, h2⟩ := hV.ref'
    exact ⟨.pointer (some ⟨c.r s', i * z + (o' + fd.offset), none⟩), by simp only [execOp, ho, h2, Sem.run_bind, run, Result.andThen_ok, Sem.run_pure, add_none, Nat.add_assoc], .ref _ _ _ _ h1⟩
  · rename_i cs hy
    refine ⟨_, hK, OSound.val fun c e R hs he => ?_⟩
    have hV := (hy ▸ he x y hx : VR c _ (e x))
    obtain ⟨a, h2, hd⟩ := hV.cref'
    exact ⟨.pointer (some (a.add fd.offset)), by simp only [execOp, ho, h2, Sem.run_bind, run, Result.andThen_ok, Sem.run_pure], hd _⟩
  · exact hK.elim
theorem snd_nilc {x : Operand} {y : AOpnd} {K : Res → Prop} (ho : o.op = .nilCheck x) (hx : cOpnd x = some y) (hK : vcOp (.nilc y) ev h K) : ∃ r, K r ∧ OSound P o ev h r := by
  simp only [vcOp] at hK
  split at hK
  · rename_i s' z i o' hy
    refine ⟨_, hK, OSound.val fun c e R hs he => ?_⟩
    have hV := (hy ▸ he x y hx : VR c _ (e x))
    obtain ⟨h1, h2⟩ := hV.ref'
    exact ⟨_, by simp [execOp, ho, h2], .ref _ _ _ _ h1⟩
  · rename_i cs hy
    refine ⟨_, hK, OSound.val fun c e R hs he => ?_⟩
    have hV := (hy ▸ he x y hx : VR c _ (e x))
    obtain ⟨a, h2, hd⟩ := hV.cref'
    exact ⟨_, by simp [execOp, ho, h2]; rfl, by rw [← h2]; exact hV⟩
  · rename_i f a b hy
    refine ⟨_, hK, OSound.val fun c e R hs he => ?_⟩
    have hV := (hy ▸ he x y hx : VR c _ (e x))
    obtain ⟨vf, vc, h2, _⟩ := hV.func'
    exact ⟨_, by simp [execOp, ho, h2]; rfl, by rw [← h2]; exact hV⟩
  · rename_i t v hy
    refine ⟨_, hK, OSound.val fun c e R hs he => ?_⟩
    have hV := (hy ▸ he x y hx : VR c _ (e x))
    obtain ⟨v, h2, _⟩ := hV.iface'
    exact ⟨_, by simp [execOp, ho, h2]; rfl, by rw [← h2]; exact hV⟩
  · exact hK.elim
theorem snd_ext {x : Operand} {y : AOpnd} {i : Nat} {K : Res → Prop} (ho : o.op = .extract x i) (hx : cOpnd x = some y) (hK : vcOp (.ext y i) ev h K) : ∃ r, K r ∧ OSound P o ev h r := by
  simp only [vcOp] at hK
  split at hK
  · rename_i vs hy
    obtain ⟨hlt, hK⟩ := hK
    refine ⟨_, hK, OSound.val fun c e R hs he => ?_⟩
    obtain ⟨ws, h2, hV⟩ := (hy ▸ he x y hx : VR c _ (e x)).tuple'
    have hi : i < ws.size := by rw [hV.1]; exact hlt
    have := hV.2 i vs[i] (by simp [hlt])
    refine ⟨ws[i], by simp [execOp, ho, h2, Instr.extract, hi], ?_⟩
    simpa [List.getD_eq_getElem?_getD, hlt, Array.getD_eq_getD_getElem?, hi] using this
  · exact hK.elim
theorem snd_mkf {fn : Fn} {first caps : Array Operand} {a b : List AOpnd} (ho : o.op = .makeFunc fn first caps) (ha : cOpnds first.toList = some a) (hb : cOpnds caps.toList = some b) : OSound P o ev h (.val (.func fn (evs ev a) (evs ev b))) := by
  refine OSound.val fun c e R hs he => ⟨.func fn (first.map e) (caps.map e), by simp [execOp, ho, Instr.makeFunc], ?_⟩
  have h1 := he.opnds ha
  have h2 := he.opnds hb
  have e1 : (first.toList.map e).toArray = first.map e := by apply Array.ext'; simp
  have e2 : (caps.toList.map e).toArray = caps.map e := by apply Array.ext'; simp
  rw [e1] at h1
  rw [e2] at h2
  exact .func _ _ _ _ _ h1.1 h2.1 h1.2 h2.2
end Go.Eng
