/- The engine, part 10: all operations together; statements; what a piece of code comes to. -/
import Derived.Test.YtdjafcjpnjdphaaDoorEngMap
import Derived.Test.YtdjafcjpnjdphaaDoorEngS
set_option linter.unusedVariables false
set_option linter.unusedSimpArgs false
namespace Go.Eng
open Go Go.RowKit

theorem call_eta (c : Call) : c = { callee := c.callee, args := c.args, argTypes := c.argTypes } := rfl
theorem arr1 {α : Type} {a : Array α} {x : α} (h : a.toList = [x]) : a = #[x] := by apply Array.ext'; simpa using h
theorem arr2 {α : Type} {a : Array α} {x y : α} (h : a.toList = [x, y]) : a = #[x, y] := by apply Array.ext'; simpa using h
theorem sound_call {P : Program} {o : Oper} {cl : Call} {ao : AOp} {ev : AOpnd → AV} {h : AHeap} {K : Res → Prop} (ho : o.op = .call cl) (hc : compileCall P cl o.type = some ao) (hK : vcOp ao ev h K) : ∃ r, K r ∧ OSound P o ev h r := by
  unfold compileCall at hc
  split at hc
  · split at hc
    · simp only [Option.some.injEq] at hc
      subst hc
      exact hK.elim
    · cases hc
  · cases hc
  · rename_i b hb
    split at hc
    · rename_i x t hx ht
      split at hc
      · rename_i n e hu
        simp only [Option.some.injEq] at hc
        subst hc
        exact snd_lenc ho hb (arr1 hx) (arr1 ht) hu hK
      · rename_i e hu
        cases hcx : cOpnd x with
        | none => simp [hcx] at hc
        | some y =>
          simp only [hcx, Option.map_some, Option.some.injEq] at hc
          subst hc
          exact snd_lenx ho hb (arr1 hx) (arr1 ht) hu hcx hK
      · rename_i hu
        cases hcx : cOpnd x with
        | none => simp [hcx] at hc
        | some y =>
          simp only [hcx, Option.map_some, Option.some.injEq] at hc
          subst hc
          exact snd_lens ho hb (arr1 hx) (arr1 ht) hu hcx hK
      · cases hc
    · rename_i x xs ts hx
      split at hc
      · rename_i y ys hy hys
        simp only [Option.some.injEq] at hc
        subst hc
        exact snd_mm ho (by simpa using hb) hx hy hys hK
      · cases hc
    · rename_i x xs ts hx
      split at hc
      · rename_i y ys hy hys
        simp only [Option.some.injEq] at hc
        subst hc
        exact snd_mm ho (by simpa using hb) hx hy hys hK
      · cases hc
    · rename_i x y t u hx ht
      split at hc
      · rename_i e hu
        split at hc
        · rename_i htu
          subst htu
          split at hc
          · rename_i i hi
            split at hc
            · rename_i hcond
              simp only [Bool.and_eq_true, decide_eq_true_eq] at hcond
              obtain ⟨⟨h1, h2⟩, h3⟩ := hcond
              split at hc
              · rename_i a b ha hb'
                simp only [Option.some.injEq] at hc
                subst hc
                cases hz : i.zero with
                | none => simp [hz] at h1
                | some zv =>
                  simp only [hz, Option.map_some, Option.some.injEq] at h3
                  exact snd_app ho hb (arr2 hx) (arr2 ht) hu hi hz h3 h2 ha hb' hK
              · cases hc
            · cases hc
          · cases hc
        · cases hc
      · cases hc
    · cases hc

theorem sound {P : Program} {o : Oper} {ao : AOp} {ev : AOpnd → AV} {h : AHeap} {K : Res → Prop} (hc : compileOp P o.op o.type = some ao) (hK : vcOp ao ev h K) : ∃ r, K r ∧ OSound P o ev h r := by
  cases hop : o.op <;> simp only [compileOp, hop, reduceCtorEq] at hc
  case move x =>
    cases hx : cOpnd x with
    | none => simp [hx] at hc
    | some y => simp only [hx, Option.map_some, Option.some.injEq] at hc; subst hc; exact ⟨_, hK, snd_mv (.inl hop) hx⟩
  case assign x =>
    cases hx : cOpnd x with
    | none => simp [hx] at hc
    | some y => simp only [hx, Option.map_some, Option.some.injEq] at hc; subst hc; exact ⟨_, hK, snd_mv (.inr hop) hx⟩
  case pick c a b =>
    split at hc
    · rename_i c' a' b' h1 h2 h3
      simp only [Option.some.injEq] at hc
      subst hc
      simp only [vcOp] at hK
      split at hK
      · rename_i t ht
        exact ⟨_, hK, snd_pick hop h1 h2 h3 ht⟩
      · exact hK.elim
    · cases hc
  case alloc e =>
    split at hc
    · rename_i zs k hz hk
      split at hc
      · rename_i hcond
        simp only [Option.some.injEq] at hc
        subst hc
        exact ⟨_, hK, snd_new hop hz hcond.1 hcond.2.1⟩
      · cases hc
    · cases hc
  case box e x =>
    split at hc
    · rename_i y k hx hk
      split at hc
      · rename_i h0
        simp only [Option.some.injEq] at hc
        subst hc
        exact snd_box hop hx h0 hK
      · cases hc
    · cases hc
  case build t parts =>
    split at hc
    · rename_i fs zs hu hz
      split at hc
      · rename_i pl hpl
        cases hf : cFill (pl.toArray[·]?) parts.toList with
        | none => rw [hf] at hc; cases hc
        | some ps => rw [hf] at hc; simp only [Option.map_some, Option.some.injEq] at hc; subst hc; exact snd_build hop hz (.inl ⟨fs, pl, hu, hpl, hf⟩) hK
      · cases hc
    · rename_i n e zs hu hz
      split at hc
      · rename_i k hk
        cases hf : cFill (fun i => some (i * k, k)) parts.toList with
        | none => simp [hf] at hc
        | some ps => simp only [hf, Option.map_some, Option.some.injEq] at hc; subst hc; exact snd_build hop hz (.inr ⟨n, e, k, hu, hk, hf⟩) hK
      · cases hc
    · cases hc
  case buildSlice t n parts =>
    split at hc
    · rename_i e hu
      split at hc
      · rename_i zs k hz hk
        split at hc
        · rename_i hcond
          obtain ⟨rfl, hzl, hp⟩ := hcond
          simp only [Option.some.injEq] at hc
          subst hc
          exact snd_bemp hop hu hk hp hK
        split at hc
        · rename_i hcond
          cases hf : cFill (fun i => some (i * k, k)) parts.toList with
          | none => simp [hf] at hc
          | some ps => simp only [hf, Option.map_some, Option.some.injEq] at hc; subst hc; exact snd_bslice hop hu hz hk hcond.1 hcond.2.1 hcond.2.2.1 hcond.2.2.2 hf hK
        · cases hc
      · cases hc
    · cases hc
  case load t a =>
    split at hc
    · rename_i g k y hg hk hy
      split at hc
      · rename_i hgk
        simp only [Option.some.injEq] at hc
        subst hc
        exact snd_load hop hy hg hk hgk.1 hgk.2 hK
      · cases hc
    · cases hc
  case store t a x =>
    split at hc
    · rename_i k a' x' hk ha hx
      split at hc
      · rename_i hk0
        simp only [Option.some.injEq] at hc
        subst hc
        exact snd_store hop ha hx hk hk0 hK
      · cases hc
    · cases hc
  case nilCheck x =>
    cases hx : cOpnd x with
    | none => simp [hx] at hc
    | some y => simp only [hx, Option.map_some, Option.some.injEq] at hc; subst hc; exact snd_nilc hop hx hK
  case binOp op t x y u =>
    split at hc
    · rename_i x' y' hx hy
      split at hc
      · simp only [Option.some.injEq] at hc; subst hc; exact snd_bin hop hx hy hK
      · simp only [Option.some.injEq] at hc; subst hc; exact snd_bin hop hx hy hK
      · rename_i hu
        split at hc
        · simp only [Option.some.injEq] at hc; subst hc; exact snd_eqb false rfl hop hu hx hy hK
        · simp only [Option.some.injEq] at hc; subst hc; exact snd_eqb true rfl hop hu hx hy hK
        · cases hc
      · rename_i fs hu
        split at hc
        · rename_i n os hn hl
          simp only [Option.some.injEq] at hc; subst hc; exact snd_eqs false rfl hop (by unfold aggOf; rw [hu]) hn hl hx hy hK
        · rename_i n os hn hl
          simp only [Option.some.injEq] at hc; subst hc; exact snd_eqs true rfl hop (by unfold aggOf; rw [hu]) hn hl hx hy hK
        · cases hc
      · rename_i k e hu
        split at hc
        · rename_i n os hn hl
          simp only [Option.some.injEq] at hc; subst hc; exact snd_eqs false rfl hop (by unfold aggOf; rw [hu]) hn hl hx hy hK
        · rename_i n os hn hl
          simp only [Option.some.injEq] at hc; subst hc; exact snd_eqs true rfl hop (by unfold aggOf; rw [hu]) hn hl hx hy hK
        · cases hc
      · cases hc
    · cases hc
  case unOp op t x =>
    cases hx : cOpnd x with
    | none => simp [hx] at hc
    | some y => simp only [hx, Option.map_some, Option.some.injEq] at hc; subst hc; exact snd_un hop hx hK
  case convert s d x =>
    split at hc
    · rename_i k0 k hs hd
      cases hx : cOpnd x with
      | none => simp [hx] at hc
      | some y => simp only [hx, Option.map_some, Option.some.injEq] at hc; subst hc; exact snd_conv hop hs hd hx hK
    · rename_i hs hd
      cases hx : cOpnd x with
      | none => simp [hx] at hc
      | some y => simp only [hx, Option.map_some, Option.some.injEq] at hc; subst hc; exact snd_convS hop hs hd hx hK
    · rename_i e0 hs hd
      split at hc
      · rename_i h8
        cases hx : cOpnd x with
        | none => simp [hx] at hc
        | some y => simp only [hx, Option.map_some, Option.some.injEq] at hc; subst hc; exact snd_toS hop hs h8 hd hx hK
      · cases hc
    · rename_i e0 hs hd
      split at hc
      · rename_i h8
        cases hx : cOpnd x with
        | none => simp [hx] at hc
        | some y => simp only [hx, Option.map_some, Option.some.injEq] at hc; subst hc; exact snd_ofS hop hs h8 hd hx hK
      · cases hc
    · split at hc
      · cases hx : cOpnd x with
        | none => simp [hx] at hc
        | some y => simp only [hx, Option.map_some, Option.some.injEq] at hc; subst hc; exact hK.elim
      · cases hc
    · cases hc
  case makeFunc fn first caps =>
    split at hc
    · rename_i a b ha hb
      simp only [Option.some.injEq] at hc
      subst hc
      exact ⟨_, hK, snd_mkf hop ha hb⟩
    · cases hc
  case makeSlice t l c =>
    split at hc
    · rename_i e hu
      split at hc
      · rename_i i zs l' c' hi hz hl hc'
        split at hc
        · rename_i hcond
          simp only [Option.some.injEq] at hc
          subst hc
          exact snd_mk hop hu hi hz hcond.1 hcond.2 hl hc' hK
        · cases hc
      · cases hc
    · cases hc
  case slice t x lo hi mx =>
    cases mx with
    | some m => simp at hc
    | none =>
      simp only at hc
      split at hc
      · rename_i e hu
        split at hc
        · rename_i k y lo' hi' hk hy hlo hhi
          simp only [Option.some.injEq] at hc
          subst hc
          exact snd_slc hop hu hk hy hlo hhi hK
        · cases hc
      · rename_i hu
        split at hc
        · rename_i y lo' hi' hy hlo hhi
          simp only [Option.some.injEq] at hc
          subst hc
          exact snd_slcS hop hu hy hlo hhi hK
        · cases hc
      · cases hc
  case fieldAddr s x f =>
    split at hc
    · rename_i off k g y hf hy
      split at hc
      · rename_i h0
        simp only [Option.some.injEq] at hc
        subst hc
        exact snd_fadr hop hf hy h0 hK
      · cases hc
    · cases hc
  case field s x f =>
    split at hc
    · rename_i off k g y hf hy
      split at hc
      · rename_i h0
        simp only [Option.some.injEq] at hc
        subst hc
        exact snd_fld hop hf hy h0 hK
      · cases hc
    · cases hc
  case indexAddr t x i =>
    split at hc
    · rename_i n e y q hu hy hq
      cases hk : szOf P e with
      | none => simp [hk] at hc
      | some k => simp only [hk, Option.map_some, Option.some.injEq] at hc; subst hc; exact snd_iadA hop hu hk hy hq hK
    · rename_i e y q hu hy hq
      split at hc
      · rename_i k hk
        split at hc
        · simp only [Option.some.injEq] at hc; subst hc; exact snd_iadS hop hu hk hy hq hK
        · cases hc
      · cases hc
    · cases hc
  case index t x i =>
    split at hc
    · rename_i n e y q hu hy hq
      split at hc
      · rename_i k g hk hg
        split at hc
        · rename_i hgk
          simp only [Option.some.injEq] at hc; subst hc; exact snd_idx hop hu hk hg hgk hy hq hK
        · cases hc
      · cases hc
    · rename_i y q hu hy hq
      simp only [Option.some.injEq] at hc
      subst hc
      exact snd_idxStr hop hu hy hq hK
    · cases hc
  case extract x i =>
    cases hx : cOpnd x with
    | none => simp [hx] at hc
    | some y => simp only [hx, Option.map_some, Option.some.injEq] at hc; subst hc; exact snd_ext hop hx hK
  case call cl =>
    split at hc
    · simp only [Option.some.injEq] at hc; subst hc; exact hK.elim
    · split at hc
      · simp only [Option.some.injEq] at hc; subst hc; exact hK.elim
      · exact sound_call hop hc hK
  case makeMap t r =>
    cases r with
    | some r => simp at hc
    | none =>
      simp only [Option.some.injEq] at hc
      subst hc
      exact snd_mkm hop hK
  case lookup t x k ok =>
    split at hc
    · rename_i kt et x' k' hu hx hk
      split at hc
      · rename_i g n os z hkt hz
        simp only [Option.some.injEq] at hc
        subst hc
        exact snd_look hop hu hkt hz hx hk hK
      · cases hc
    · cases hc
  case mapUpdate t x k v =>
    split at hc
    · rename_i kt et x' k' v' hu hx hk hv
      split at hc
      · rename_i g n os hkt
        simp only [Option.some.injEq] at hc
        subst hc
        exact snd_mput hop hu hkt hx hk hv hK
      · cases hc
    · cases hc
  case range t x =>
    cases hx : cOpnd x with
    | none => simp [hx] at hc
    | some y => simp only [hx, Option.map_some, Option.some.injEq] at hc; subst hc; exact hK.elim
  case next x s =>
    cases hx : cOpnd x with
    | none => simp [hx] at hc
    | some y => simp only [hx, Option.map_some, Option.some.injEq] at hc; subst hc; exact hK.elim
  case entry x =>
    cases hx : cOpnd x with
    | none => simp [hx] at hc
    | some y => simp only [hx, Option.map_some, Option.some.injEq] at hc; subst hc; exact hK.elim
end Go.Eng
