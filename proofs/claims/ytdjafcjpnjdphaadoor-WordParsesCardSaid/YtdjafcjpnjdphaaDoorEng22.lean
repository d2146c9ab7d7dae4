/- The engine, part 22: the fast form of code and functions. -/
import Derived.Test.YtdjafcjpnjdphaaDoorEng21
set_option linter.unusedVariables false
set_option linter.unusedSimpArgs false
namespace Go.Eng
open Go Go.RowKit

/-- An operation that is shown as it is. -/
inductive Xo (P : Program) (op : Op) (ty : TypeId) (xs : List AV) (h : AHeap) (K : AV → AHeap → Prop) : Prop where
  | mk (H : AX P op ty xs h K)
theorem AX.mono {P : Program} {op : Op} {ty : TypeId} {xs : List AV} {h : AHeap} {K K' : AV → AHeap → Prop} (H : AX P op ty xs h K) (hk : ∀ r h, K r h → K' r h) : AX P op ty xs h K' :=
  fun C e o h1 h2 h3 h4 h5 => by
    obtain ⟨nx, cv, r, D, g1, g2, g3, g4⟩ := H C e o h1 h2 h3 h4 h5
    exact ⟨nx, cv, r, D, g1, g2, hk _ _ g3, g4⟩
section
variable (w : Prims) (P : Program)
def vcOneX (o : AOper) (K : AAct → AHeap → Prop) (a : AAct) (h : AHeap) : Prop :=
  match o.op with
  | .call f xs => (match evA a f with | .func (.func g) first caps => Call P g (first ++ evs (evA a) xs ++ caps) h (callK K a o.dst) | _ => False)
  | .xop op ty xs => Xo P op ty (evs (evA a) xs) h (callK K a o.dst)
  | op => vcOpX w op (evA a) h (fun _ => vcOp op (evA a) h (fin K a o.dst h)) (fin K a o.dst h)
def vcOpsX (K : AAct → AHeap → Prop) : List AOper → AAct → AHeap → Prop
  | [], a, h => K a h
  | o :: rest, a, h =>
    match o.guard with
    | none => vcOneX w P o (vcOpsX K rest) a h
    | some (t, want) =>
      match a.getD t .any with
      | .bool b =>
        match want with
        | true => br b (vcOneX w P o (vcOpsX K rest) (a.set t (.bool true)) h) (vcOpsX K rest (putA (a.set t (.bool false)) o.dst .undef) h)
        | false => br b (vcOpsX K rest (putA (a.set t (.bool true)) o.dst .undef) h) (vcOneX w P o (vcOpsX K rest) (a.set t (.bool false)) h)
      | .tuple [] => vcOpsX K rest (putA a o.dst .undef) h
      | _ => False
def finHX (K : AAct → AHeap → Prop) (a : AAct) (dst : Option Nat) (base k : Nat) (news : AHeap) : Res → Prop
  | .val v => (match k with | 0 => K (putA a dst v) news | _ => False)
  | .new sl z es => (match k with | 1 => K (putA a dst ((Res.new sl z es).at base)) (news ++ [.live z es]) | _ => False)
  | _ => False
def vcHOneX (o : AOper) (h0 : AHeap) (K : AAct → AHeap → Prop) (a : AAct) (news : AHeap) : Prop :=
  match o.op with
  | .call f xs => (match evA a f with | .func (.func g) first caps => QCal P g (first ++ evs (evA a) xs ++ caps) h0 (callH K a o.dst news) | _ => False)
  | op => vcOpX w op (evA a) h0 (fun _ => vcOp op (evA a) h0 (finHX K a o.dst (h0.length + news.length) op.slots news)) (finHX K a o.dst (h0.length + news.length) op.slots news)
def vcHeadX (h0 : AHeap) (K : AAct → AHeap → Prop) : List AOper → AAct → AHeap → Prop
  | [], a, news => K a news
  | o :: rest, a, news =>
    match o.guard with
    | none => vcHOneX w P o h0 (vcHeadX h0 K rest) a news
    | some (t, want) =>
      match a.getD t .any with
      | .bool b =>
        match want with
        | true => br b (vcHOneX w P o h0 (vcHeadX h0 K rest) (a.set t (.bool true)) news) (vcHeadX h0 K rest (putA (a.set t (.bool false)) o.dst .undef) (news ++ List.replicate o.op.slots .free))
        | false => br b (vcHeadX h0 K rest (putA (a.set t (.bool true)) o.dst .undef) (news ++ List.replicate o.op.slots .free)) (vcHOneX w P o h0 (vcHeadX h0 K rest) (a.set t (.bool false)) news)
      | .tuple [] => vcHeadX h0 K rest (putA a o.dst .undef) (news ++ List.replicate o.op.slots .free)
      | _ => False
def tailKX (K : AAct → AHeap → Prop) (h : AHeap) (tl : List AOper) : AAct → AHeap → Prop := fun a news => vcOpsX w P K tl a (h ++ news)
def vcAnyX (K : AAct → AHeap → Prop) (al : List AOper) (deps : List (List Nat)) : Nat → List Nat → AAct → AHeap → Prop
  | 0, done, a, h => if (rdyGo done 0 deps).isEmpty then K a h else False
  | f + 1, done, a, h => if (rdyGo done 0 deps).isEmpty then K a h else allI (rdyGo done 0 deps) fun i => match al[i]? with | some o => vcOpsX w P (vcAnyX K al deps f (i :: done)) [o] a h | none => False
def vcCodeX (n : Nat) : ACode → APost → AAct → AHeap → Prop
  | .skip, Q, a, h => Q .normal a h
  | .ops l, Q, a, h => vcOpsX w P (Q .normal) l a h
  | .draw hd tl, Q, a, h => vcHeadX w P h (tailKX w P (Q .normal) h tl) hd a []
  | .any al deps, Q, a, h => vcAnyX w P (Q .normal) al deps al.length [] a h
  | .bad, Q, a, h => False
  | .seq x y, Q, a, h => vcCodeX n x (thenA (vcCodeX n y Q) Q) a h
  | .cond x p q, Q, a, h => (match evA a x with | .bool t => br t (vcCodeX n p Q (setC a x true) h) (vcCodeX n q Q (setC a x false) h) | _ => False)
  | .block id c, Q, a, h => vcCodeX n c (inBlockA id Q) a h
  | .loop c, Q, a, h => Loop P n c Q a h
  | .exit id, Q, a, h => Q (.exit id) a h
  | .ret, Q, a, h => Q .ret a h
end
def retQX (rs : List ARet) (R : AV → Prop) : APost
  | .normal, a, h => (match retVs a h rs with | some l => Ret l h R | none => False)
  | .ret, a, h => (match retVs a h rs with | some l => Ret l h R | none => False)
  | _, _, _ => False
def vcFunX (w : Prims) (F : Option AFun) (P : Program) (args : List AV) (R : AV → Prop) : Prop :=
  match F with
  | some F => vcCodeX w P 0 F.code (retQX F.rets R) (initA args F.n) []
  | none => False

section
variable {P : Program}
theorem ACall.mono {g : FuncId} {args : List AV} {h : AHeap} {K K' : AV → AHeap → Prop} (H : ACall P g args h K) (hk : ∀ r h, K r h → K' r h) : ACall P g args h K' :=
  ⟨H.1, fun C vs hC R hv => (H.2 C vs hC R hv).mono fun e w' ⟨v, r, D, h1, h2, h3⟩ => ⟨v, r, D, h1, hk _ _ h2, h3⟩⟩
theorem HCall.mono {g : FuncId} {args : List AV} {h : AHeap} {K K' : AV → Prop} (H : HCall P g args h K) (hk : ∀ r, K r → K' r) : HCall P g args h K' := by
  obtain ⟨r, h1, h2⟩ := H; exact ⟨r, h1, hk r h2⟩
theorem vcOneX_sound {o : AOper} {K K' : AAct → AHeap → Prop} {a : AAct} {h : AHeap} (H : vcOneX std P o K a h) (hk : ∀ a h, K a h → K' a h) : vcOne P o K' a h := by
  have other : ∀ op, vcOpX std op (evA a) h (fun _ => vcOp op (evA a) h (fin K a o.dst h)) (fin K a o.dst h) → vcOp op (evA a) h (fin K' a o.dst h) := fun op H =>
    vcOp_mono (fun r hr => hk _ _ hr) (vcOpX_sound H fun h => h)
  unfold vcOneX at H
  unfold vcOne
  split at H
  · rename_i f xs e
    rw [e]
    simp only
    split at H
    · rename_i g first caps e2
      rw [e2]
      obtain ⟨hc⟩ := H
      exact hc.mono fun r h hr => hk _ _ hr
    · exact H.elim
  · rename_i op ty xs e
    rw [e]
    simp only
    obtain ⟨hc⟩ := H
    exact hc.mono fun r h hr => hk _ _ hr
  · rename_i hne hne2
    have := other _ H
    split
    · rename_i f xs e; exact absurd e (hne f xs)
    · rename_i op ty xs e; exact absurd e (hne2 op ty xs)
    · exact this
theorem vcOpsX_sound {K K' : AAct → AHeap → Prop} (hk : ∀ a h, K a h → K' a h) : ∀ {l : List AOper} {a : AAct} {h : AHeap}, vcOpsX std P K l a h → vcOps P K' l a h
  | [], a, h, H => hk _ _ H
  | o :: rest, a, h, H => by
    simp only [vcOpsX, vcOps] at H ⊢
    split at H
    · rename_i e; rw [e]; exact vcOneX_sound H fun a h => vcOpsX_sound hk
    · rename_i t want e
      rw [e]
      simp only
      split at H
      · rename_i b e2
        rw [e2]
        cases want with
        | true =>
          obtain ⟨h1, h2⟩ := br_iff H
          exact ⟨fun e => vcOneX_sound (h1 e) fun a h => vcOpsX_sound hk, fun e => vcOpsX_sound hk (h2 e)⟩
        | false =>
          obtain ⟨h1, h2⟩ := br_iff H
          exact ⟨fun e => vcOneX_sound (h2 e) fun a h => vcOpsX_sound hk, fun e => vcOpsX_sound hk (h1 e)⟩
      · rename_i e2
        rw [e2]
        exact vcOpsX_sound hk H
      · exact H.elim
theorem finHX_std {K : AAct → AHeap → Prop} {a : AAct} {dst : Option Nat} {base k : Nat} {news : AHeap} {r : Res} (H : finHX K a dst base k news r) : finH K a dst base k news r := by
  cases r <;> simp only [finHX, finH] at H ⊢
  · split at H
    · exact ⟨rfl, H⟩
    · exact H.elim
  · split at H
    · exact ⟨rfl, H⟩
    · exact H.elim
theorem finH_mono {K K' : AAct → AHeap → Prop} (hk : ∀ a h, K a h → K' a h) {a : AAct} {dst : Option Nat} {base k : Nat} {news : AHeap} {r : Res} (H : finH K a dst base k news r) : finH K' a dst base k news r := by
  cases r <;> simp only [finH] at H ⊢
  · exact ⟨H.1, hk _ _ H.2⟩
  · exact ⟨H.1, hk _ _ H.2⟩
theorem vcHOneX_sound {o : AOper} {h0 : AHeap} {K K' : AAct → AHeap → Prop} {a : AAct} {news : AHeap} (H : vcHOneX std P o h0 K a news) (hk : ∀ a h, K a h → K' a h) : vcHOne P o h0 K' a news := by
  unfold vcHOneX at H
  unfold vcHOne
  split at H
  · rename_i f xs e
    rw [e]
    simp only
    split at H
    · rename_i g first caps e2
      rw [e2]
      obtain ⟨hc⟩ := H
      exact hc.mono fun r hr => hk _ _ hr
    · exact H.elim
  · rename_i hne
    split
    · rename_i f xs e; exact absurd e (hne f xs)
    · exact vcOp_mono (fun r hr => finH_mono hk (finHX_std hr)) (vcOpX_sound H fun h => h)
theorem vcHeadX_sound {h0 : AHeap} {K K' : AAct → AHeap → Prop} (hk : ∀ a h, K a h → K' a h) : ∀ {l : List AOper} {a : AAct} {news : AHeap}, vcHeadX std P h0 K l a news → vcHead P h0 K' l a news
  | [], a, h, H => hk _ _ H
  | o :: rest, a, h, H => by
    simp only [vcHeadX, vcHead] at H ⊢
    split at H
    · rename_i e; rw [e]; exact vcHOneX_sound H fun a h => vcHeadX_sound hk
    · rename_i t want e
      rw [e]
      simp only
      split at H
      · rename_i b e2
        rw [e2]
        cases want with
        | true =>
          obtain ⟨h1, h2⟩ := br_iff H
          exact ⟨fun e => vcHOneX_sound (h1 e) fun a h => vcHeadX_sound hk, fun e => vcHeadX_sound hk (h2 e)⟩
        | false =>
          obtain ⟨h1, h2⟩ := br_iff H
          exact ⟨fun e => vcHOneX_sound (h2 e) fun a h => vcHeadX_sound hk, fun e => vcHeadX_sound hk (h1 e)⟩
      · rename_i e2
        rw [e2]
        exact vcHeadX_sound hk H
      · exact H.elim
theorem vcAnyX_sound {K K' : AAct → AHeap → Prop} {al : List AOper} {deps : List (List Nat)} (hk : ∀ a h, K a h → K' a h) : ∀ {f : Nat} {done : List Nat} {a : AAct} {h : AHeap}, vcAnyX std P K al deps f done a h → vcAny P K' al deps f done a h
  | 0, done, a, h, H => by
    simp only [vcAnyX, vcAny] at H ⊢
    split at H
    · rename_i he; rw [if_pos he]; exact hk _ _ H
    · exact H.elim
  | f + 1, done, a, h, H => by
    simp only [vcAnyX, vcAny] at H ⊢
    split at H
    · rename_i he; rw [if_pos he]; exact hk _ _ H
    · rename_i he
      rw [if_neg he]
      refine allI_map (fun i hi => ?_) H
      split at hi
      · rename_i e1
        rw [e1]
        exact vcOpsX_sound (fun a h hh => vcAnyX_sound hk hh) hi
      · exact hi.elim
theorem vcCodeX_sound {n : Nat} : ∀ {c : ACode} {Q Q' : APost} {a : AAct} {h : AHeap}, (∀ e a h, Q e a h → Q' e a h) → vcCodeX std P n c Q a h → vcCode P n c Q' a h
  | .skip, Q, Q', a, h, hq, H => hq _ _ _ H
  | .ops l, Q, Q', a, h, hq, H => vcOpsX_sound (fun a h hr => hq _ _ _ hr) H
  | .any al deps, Q, Q', a, h, hq, H => vcAnyX_sound (fun a h hr => hq _ _ _ hr) H
  | .bad, Q, Q', a, h, hq, H => H.elim
  | .draw hd tl, Q, Q', a, h, hq, H => vcHeadX_sound (fun a news hr => vcOpsX_sound (fun a h hr => hq _ _ _ hr) hr) H
  | .seq x y, Q, Q', a, h, hq, H => vcCodeX_sound (c := x) (fun e a h hr => by
      cases e with
      | normal => exact vcCodeX_sound (c := y) hq hr
      | _ => exact hq _ _ _ hr) H
  | .cond x p q, Q, Q', a, h, hq, H => by
    simp only [vcCodeX, vcCode] at H ⊢
    split at H
    · rename_i t e
      obtain ⟨h1, h2⟩ := br_iff H
      rw [e]
      exact ⟨fun e => vcCodeX_sound (c := p) hq (h1 e), fun e => vcCodeX_sound (c := q) hq (h2 e)⟩
    · exact H.elim
  | .block id c, Q, Q', a, h, hq, H => vcCodeX_sound (c := c) (fun e a h hr => by
      cases e with
      | exit i =>
        simp only [inBlockA] at hr ⊢
        split at hr
        · rename_i hi; rw [if_pos hi]; exact hq _ _ _ hr
        · rename_i hi; rw [if_neg hi]; exact hq _ _ _ hr
      | _ => exact hq _ _ _ hr) H
  | .loop c, Q, Q', a, h, hq, H => by
    obtain ⟨hl⟩ := H
    exact fun code hc hd => (hl code hc hd).mono hq
  | .exit id, Q, Q', a, h, hq, H => hq _ _ _ H
  | .ret, Q, Q', a, h, hq, H => hq _ _ _ H
theorem retQX_std {rs : List ARet} {R : AV → Prop} (e : Exit) (a : AAct) (h : AHeap) (H : retQX rs R e a h) : retQ rs R e a h := by
  cases e <;> simp only [retQX, retQ] at H ⊢
  all_goals
    split at H
    · rename_i l hl
      obtain ⟨r, h1, h2⟩ := H
      exact ⟨l, hl, r, h1, h2⟩
    · exact H.elim
theorem vcFunX_sound {F : Option AFun} {args : List AV} {R : AV → Prop} (H : vcFunX std F P args R) : vcFun F P args R := by
  unfold vcFunX at H
  unfold vcFun
  split at H
  · exact vcCodeX_sound (fun e a h hr => retQX_std e a h hr) H
  · exact H.elim
/-- A function's contract, from the fast form. -/
theorem PCalls.ofX {g : FuncId} {fn : Func} {args : List AV} {R : AV → Prop} (hf : P.funcs[g]? = some fn) (hname : (fn.name == "runtime.NumGoroutine") = false) (hdr : drawsF P fn = true) (H : ∀ w, w = std → ∀ R' : AV → Prop, (∀ r, R r → R' r) → vcFunX w (compileF P fn) P args R') : PCalls P g args R :=
  PCalls.of hf hname hdr (vcFunX_sound (H std rfl R fun _ h => h))
/-- A call by its contract. -/
theorem Call.step {g : FuncId} {args : List AV} {R : AV → Prop} {h : AHeap} {K : AAct → AHeap → Prop} {a : AAct} {dst : Option Nat} (H : PCalls P g args R) (ha : uptoL 0 args = true) (hK : ∀ r, R r → K (putA a dst r) h) : Call P g args h (callK K a dst) :=
  ⟨ACall.step H ha hK⟩
theorem Call.stepE {g : FuncId} {args : List AV} {v : AV} {h : AHeap} {K : AAct → AHeap → Prop} {a : AAct} {dst : Option Nat} (H : PCalls P g args (· = v)) (ha : uptoL 0 args = true) (hK : K (putA a dst v) h) : Call P g args h (callK K a dst) :=
  ⟨ACall.stepE H ha hK⟩
theorem QCal.stepE {g : FuncId} {args : List AV} {v : AV} {h0 : AHeap} {K : AAct → AHeap → Prop} {a : AAct} {dst : Option Nat} {news : AHeap} (H : PCalls P g args (· = v)) (ha : uptoL 0 args = true) (hK : K (putA a dst v) news) : QCal P g args h0 (callH K a dst news) :=
  ⟨HCall.stepE H ha hK⟩
/-- A loop by what holds at each round's head. -/
theorem Loop.intro {n : Nat} {c : ACode} {Q : APost} {a : AAct} {h : AHeap} (I : AAct → AHeap → Prop) (m : AAct → AHeap → Nat) (a' : AAct) (h' : AHeap) (hw : Wk n a h a' h') (h0 : I a' h')
    (round : ∀ a h, I a h → ∀ w, w = std → vcCodeX w P n c (thenA (roundK n I m (m a h)) Q) a h) : Loop P n c Q a h :=
  ⟨ALoop.intro I m a' h' hw h0 fun a h hI => vcCodeX_sound (fun _ _ _ h => h) (round a h hI std rfl)⟩
end
end Go.Eng
