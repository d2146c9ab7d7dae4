/- Texts of the proof of BoxPacks, joined by wip/tools/pack.py. -/
import Derived.Test.YtekhigoblbkiaaaBoxPacksP0
import Derived.KernelRfl
import Derived.Test.YtekhigoblbkiaaaEng28
/- BoxPacks, by the engine. -/
set_option linter.unusedVariables false
set_option linter.unusedSimpArgs false
namespace Go.Proofs.Ytekhigoblbkiaaa
open Go Go.RowKit Go.Eng
set_option maxRecDepth 100000
theorem PCalls.nils {P : Program} {g : FuncId} {z : Nat} {R : AV → Prop} (H : PCalls P g [.list z []] R) : PCalls P g [.nils] R :=
  ⟨H.1, fun C vs hC RC hv => H.2 C vs hC RC ⟨hv.1, fun i x hx => by
    match i, hx with
    | 0, hx =>
      simp only [List.getElem?_cons_zero, Option.some.injEq] at hx
      subst hx
      have := hv.2 0 .nils rfl
      rw [this.nils']
      exact .listNil z none 0
    | i + 1, hx => simp at hx⟩⟩
theorem e_anchor26 : PCalls Try.prog 9 [] (· = .bool true) := by
  obtain ⟨bs, ebs⟩ : ∃ z, z = (packB []).map bRow := ⟨_, rfl⟩
  have hub : Up0 bs := by rw [ebs]; exact up_b _
  have hbl : bs.length = 8 := by rw [ebs, List.length_map]; unfold packB bodyB; simp only [List.length_append]; rfl
  have hp := PCalls.nils (e_pack [] (fun e he => by cases he) (by decide) [] rfl)
  rw [← ebs] at hp
  have ho := e_open [] (fun e he => by cases he) (by decide) (by decide) (fun e he => by cases he) bs ebs [] rfl
  (refine PCalls.ofY Try.func9 (by kernel_rfl) (by kernel_rfl) fun w hw R hR => ?_); (obtain ⟨wbin, wcmp, wun, wconv, wnot, wbeq, wmm, wscmp, wsadd, wslen, wsat, weqs, wlen, wnlen, wofNat, wtake, wdrop, wapp, wzero, wnat⟩ := w); (have hbin : wbin = binStd := congrArg Prims.bin hw); (have hcmp : wcmp = cmpStd := congrArg Prims.cmp hw); (have hun : wun = unStd := congrArg Prims.un hw); (have hconv : wconv = fun k n => k.wrap n := congrArg Prims.conv hw); (have hnot : wnot = fun b => !b := congrArg Prims.not hw); (have hbeq : wbeq = fun a b => a == b := congrArg Prims.beq hw); (have hmm : wmm = maxI := congrArg Prims.mm hw); (have hscmp : wscmp = scmpStd := congrArg Prims.scmp hw); (have hsadd : wsadd = fun x y => x ++ y := congrArg Prims.sadd hw); (have hslen : wslen = fun s => (s.size : Int) := congrArg Prims.slen hw); (have hsat : wsat = std.sat := congrArg Prims.sat hw); (have heqs : weqs = fun a b os => (eqOffs a b os).getD false := congrArg Prims.eqs hw); (have hlen : wlen = fun es => (es.length : Int) := congrArg Prims.len hw); (have hnlen : wnlen = fun es => es.length := congrArg Prims.nlen hw); (have hofNat : wofNat = (fun n : Nat => (n : Int)) := congrArg Prims.ofNat hw); (have htake : wtake = fun es b => es.take b.toNat := congrArg Prims.take hw); (have hdrop : wdrop = fun es a => es.drop a.toNat := congrArg Prims.drop hw); (have happ : wapp = fun a b => a ++ b := congrArg Prims.app hw); (have hzero : wzero = fun n z => List.replicate n.toNat z := congrArg Prims.zero hw); (have hnat : wnat = fun n => n.toNat := congrArg Prims.nat hw); (conv => arg 2; cbv); (generalize hP : Try.prog = P); cbv
  refine Call.step (by rw [← hP]; exact hp) rfl ?_
  rintro r hr
  have hr : r = .tuple [.list 1 bs, .int .i64 0] := by
    rcases hr with h | h | h
    · exact absurd h.1 (by decide)
    · obtain ⟨_, ⟨e, he, _⟩, _⟩ := h; cases he
    · exact h.2.2
  subst hr
  cbv
  refine Call.stepE (by rw [← hP]; exact ho) (by exact Up0.one hub rfl) ?_
  cbv
  (obtain ⟨L, eL, L0, Ln⟩ : ∃ L : Int, wlen bs = L ∧ 0 ≤ L ∧ L.toNat = bs.length := ⟨(bs.length : Int), by rw [hlen], Int.natCast_nonneg _, Int.toNat_natCast _⟩)
  have hL : L = 8 := by omega
  subst hL
  have l0 : wlen [] = 0 := by rw [hlen]; rfl
  have c8 : wcmp .eql 8 8 = true := by rw [hcmp]; rfl
  have c0 : wcmp .eql 0 0 = true := by rw [hcmp]; rfl
  repeat' (first
    | (simp only [eL, c8]; cbv)
    | (simp only [c0]; cbv)
    | (simp only [l0]))
  exact ⟨_, Vw.same rfl, hR _ rfl⟩
/-- The error that is wanted, behind some entries. -/
def WantA (l : List En) (i w : Int) : Prop := (w = 0 ∧ ∀ e, e ∈ l.take i.toNat → Right e) ∨ (w = 15 ∧ ∃ e, e ∈ l.take i.toNat ∧ ¬ Right e)
def WantB (l : List En) (i : Int) (e : En) (bs : List (List Int)) (k w : Int) : Prop := (w = 0 ∧ (∀ e, e ∈ l.take i.toNat → Right e) ∧ bs.length ≤ 255 ∧ ∀ b, b ∈ bs.take k.toNat → b.length ≤ 255) ∨ (w = 15 ∧ ((∃ e, e ∈ l.take i.toNat ∧ ¬ Right e) ∨ ¬ Right e))
set_option maxHeartbeats 4000000 in
theorem e_bpacks (l : List En) (hok : ∀ e, e ∈ l → EnOk e) (hbig : ∀ e, e ∈ l → EnBig e) (hl : l.length ≤ 140737488355328) (rs : List (List AV)) (hrs : rs = l.map enRow) : PCalls Try.prog 3 [.list 2 rs] (· = .bool true) := by
  have hu : Up0 rs := by rw [hrs]; exact up_en l
  have hrl : rs.length = l.length := by rw [hrs]; simp
  (refine PCalls.ofY Try.func3 (by kernel_rfl) (by kernel_rfl) fun w hw R hR => ?_); (obtain ⟨wbin, wcmp, wun, wconv, wnot, wbeq, wmm, wscmp, wsadd, wslen, wsat, weqs, wlen, wnlen, wofNat, wtake, wdrop, wapp, wzero, wnat⟩ := w); (have hbin : wbin = binStd := congrArg Prims.bin hw); (have hcmp : wcmp = cmpStd := congrArg Prims.cmp hw); (have hun : wun = unStd := congrArg Prims.un hw); (have hconv : wconv = fun k n => k.wrap n := congrArg Prims.conv hw); (have hnot : wnot = fun b => !b := congrArg Prims.not hw); (have hbeq : wbeq = fun a b => a == b := congrArg Prims.beq hw); (have hmm : wmm = maxI := congrArg Prims.mm hw); (have hscmp : wscmp = scmpStd := congrArg Prims.scmp hw); (have hsadd : wsadd = fun x y => x ++ y := congrArg Prims.sadd hw); (have hslen : wslen = fun s => (s.size : Int) := congrArg Prims.slen hw); (have hsat : wsat = std.sat := congrArg Prims.sat hw); (have heqs : weqs = fun a b os => (eqOffs a b os).getD false := congrArg Prims.eqs hw); (have hlen : wlen = fun es => (es.length : Int) := congrArg Prims.len hw); (have hnlen : wnlen = fun es => es.length := congrArg Prims.nlen hw); (have hofNat : wofNat = (fun n : Nat => (n : Int)) := congrArg Prims.ofNat hw); (have htake : wtake = fun es b => es.take b.toNat := congrArg Prims.take hw); (have hdrop : wdrop = fun es a => es.drop a.toNat := congrArg Prims.drop hw); (have happ : wapp = fun a b => a ++ b := congrArg Prims.app hw); (have hzero : wzero = fun n z => List.replicate n.toNat z := congrArg Prims.zero hw); (have hnat : wnat = fun n => n.toNat := congrArg Prims.nat hw); (conv => arg 2; cbv); (generalize hP : Try.prog = P); cbv
  refine Call.stepE (by rw [← hP]; exact e_anchor26) rfl ?_
  cbv
  have n1 : wnot true = false := by rw [hnot]; rfl
  have n2 : wnot false = true := by rw [hnot]; rfl
  simp only [n1]
  cbv
  refine Call.step (by rw [← hP]; exact e_size26 l rs hrs hl hbig) (by exact Up0.one hu rfl) ?_
  rintro r ⟨n, rfl, hn⟩
  cbv
  (split <;> rename_i h0 <;> (try (simp only [hbin, hcmp, hun, hconv, hnot, hbeq, hmm, hscmp, hsadd, hslen, hsat, heqs, hofNat, binStd, cmpStd, unStd, scmpStd, maxI, Bool.not_eq_true', Bool.not_eq_false', decide_eq_true_eq, decide_eq_false_iff_not, Int.not_lt, Int.not_le, if_true, if_false, Bool.false_eq_true, beq_iff_eq, bne_iff_ne, ne_eq, Bool.not_eq_eq_eq_not, Bool.not_true, Bool.not_false, beq_eq_false_iff_ne, bne_eq_false_iff_eq, Int.ofNat_eq_natCast, Bool.not_not, not_true_eq_false, not_false_eq_true, reduceCtorEq] at h0)) <;> (try cbv))
  · exact ⟨_, Vw.same rfl, hR _ rfl⟩
  have hsz := hn (by omega)
  have hll : l.length ≤ 200000 := by unfold sizeL at hsz; omega
  refine Call.step (by rw [← hP]; exact e_pack l hok hsz rs hrs) (by exact Up0.one hu rfl) ?_
  rintro r hr
  -- what is packed, and the error
  obtain ⟨pb, E, hrE, hcase⟩ : ∃ (pb : AV) (E : Int), r = .tuple [pb, .int .i64 E] ∧ ((4096 < l.length ∧ E = 13 ∧ pb = .nils) ∨ (l.length ≤ 4096 ∧ (∃ e, e ∈ l ∧ ¬ Right e) ∧ E = 15 ∧ pb = .nils) ∨ (l.length ≤ 4096 ∧ (∀ e, e ∈ l → Right e) ∧ E = 0 ∧ pb = .list 1 ((packB l).map bRow))) := by
    rcases hr with h | h | h
    · exact ⟨_, _, h.2, .inl ⟨h.1, rfl, rfl⟩⟩
    · exact ⟨_, _, h.2.2, .inr (.inl ⟨h.1, h.2.1, rfl, rfl⟩)⟩
    · exact ⟨_, _, h.2.2, .inr (.inr ⟨h.1, h.2.1, rfl, rfl⟩)⟩
  subst hrE
  clear hr
  have hrl2 := hrl
  rcases hcase with ⟨hA, hErr, rfl⟩ | ⟨hA, hB, hErr, rfl⟩ | ⟨hA, hB, hErr, rfl⟩
  · cbv
    (obtain ⟨L, eL, L0, Ln⟩ : ∃ L : Int, wlen rs = L ∧ 0 ≤ L ∧ L.toNat = rs.length := ⟨(rs.length : Int), by rw [hlen], Int.natCast_nonneg _, Int.toNat_natCast _⟩)
    simp only [eL]
    refine Loop.data hw (S := Int × Int) (fun s => fr 83 [(0, .list 2 rs), (3, .nils), (4, .int .i64 E), (5, .int .i64 s.2), (22, .list 2 rs), (23, .int .i64 L), (24, .int .i64 s.1)]) (fun s => [])
      (fun s => 0 ≤ s.1 ∧ s.1 ≤ L ∧ WantA l s.1 s.2) (fun s => (L - s.1).toNat) (0, 0) (by (refine Wk.eqz (id) (by first | exact fun i _ j _ e => e | (simp only [List.length_cons, List.length_nil]; decide)) ?_; cbv; (repeat' (first | exact trivial | rfl | assumption | apply And.intro | (simp only [hbin, hcmp, hun, hconv, hnot, hbeq, hmm, hscmp, hsadd, hslen, hsat, heqs, hofNat, binStd, cmpStd, unStd, scmpStd, maxI, Bool.not_eq_true', Bool.not_eq_false', decide_eq_true_eq, decide_eq_false_iff_not, Int.not_lt, Int.not_le, if_true, if_false, Bool.false_eq_true, beq_iff_eq, bne_iff_ne, ne_eq, Bool.not_eq_eq_eq_not, Bool.not_true, Bool.not_false, beq_eq_false_iff_ne, bne_eq_false_iff_eq, Int.ofNat_eq_natCast, Bool.not_not, not_true_eq_false, not_false_eq_true, reduceCtorEq]; first | done | assumption) | exact RowsZ.same (by assumption) (by first | assumption | rfl) | exact FzL.mk rfl rfl rfl (by assumption) (by first | assumption | rfl) (by decide) | (refine RowsZ.one ?_; cbv))))) ⟨Int.le_refl _, L0, .inl ⟨rfl, fun e he => by simp at he⟩⟩ ?_
    rintro ⟨i, w⟩ hinv Q' hN hE hR'
    have hinv : 0 ≤ i ∧ i ≤ L ∧ WantA l i w := hinv
    cbv
    obtain ⟨hi0, hi1, hwA⟩ := hinv
    (split <;> rename_i hc <;> (try (simp only [hbin, hcmp, hun, hconv, hnot, hbeq, hmm, hscmp, hsadd, hslen, hsat, heqs, hofNat, binStd, cmpStd, unStd, scmpStd, maxI, Bool.not_eq_true', Bool.not_eq_false', decide_eq_true_eq, decide_eq_false_iff_not, Int.not_lt, Int.not_le, if_true, if_false, Bool.false_eq_true, beq_iff_eq, bne_iff_ne, ne_eq, Bool.not_eq_eq_eq_not, Bool.not_true, Bool.not_false, beq_eq_false_iff_ne, bne_eq_false_iff_eq, Int.ofNat_eq_natCast, Bool.not_not, not_true_eq_false, not_false_eq_true, reduceCtorEq] at hc)) <;> (try cbv))
    · obtain ⟨e, he⟩ : ∃ b, l[i.toNat]? = some b := ⟨_, List.getElem?_eq_getElem (show i.toNat < l.length by omega)⟩
      have hem := List.mem_of_getElem? he
      have hEb := hbig e hem
      obtain ⟨i2, ei2⟩ : ∃ z, z = i + 1 := ⟨_, rfl⟩
      have a4 : wbin .add .i64 i 1 = i2 := by rw [hbin, i_add (by omega) (by omega), ei2]
      have hT : (L - i2).toNat < (L - i).toNat := by omega
      have htk : l.take i2.toNat = l.take i.toNat ++ [e] := by rw [ei2]; exact take_nx hi0 he
      obtain ⟨c, bs⟩ := e
      obtain ⟨br, ebr⟩ : ∃ z, z = bs.map bsRow := ⟨_, rfl⟩
      have hubr : Up0 br := by rw [ebr]; exact up_bs bs
      have hbrl : br.length = bs.length := by rw [ebr]; simp
      have her : rs[i.toNat]? = some [.bool c, .list 1 br] := by rw [hrs, List.getElem?_map, he, ebr]; rfl
      have hbsl : bs.length ≤ 140737488355328 := hEb.1
      refine Idx.mk _ hi0 her ?_
      cbv
      (obtain ⟨B, eB, B0, Bn⟩ : ∃ L : Int, wlen br = L ∧ 0 ≤ L ∧ L.toNat = br.length := ⟨(br.length : Int), by rw [hlen], Int.natCast_nonneg _, Int.toNat_natCast _⟩)
      simp only [eB]
      obtain ⟨w1, ew1⟩ : ∃ z : Int, z = if 255 < B then 15 else w := ⟨_, rfl⟩
      have hwB : WantB l i (c, bs) bs 0 w1 := by
        rw [ew1]
        split
        · exact .inr ⟨rfl, .inr fun hR => by have := hR.1; simp only at this; omega⟩
        · rcases hwA with ⟨h1, h2⟩ | ⟨h1, h2⟩
          · exact .inl ⟨h1, h2, by omega, fun b hb => by simp at hb⟩
          · exact .inr ⟨h1, .inl h2⟩
      have g1 : 255 < B → 15 = w1 := fun h => by rw [ew1, if_pos h]
      have g2 : ¬ 255 < B → w = w1 := fun h => by rw [ew1, if_neg h]
      clear ew1
      (split <;> rename_i h1 <;> (try (simp only [hbin, hcmp, hun, hconv, hnot, hbeq, hmm, hscmp, hsadd, hslen, hsat, heqs, hofNat, binStd, cmpStd, unStd, scmpStd, maxI, Bool.not_eq_true', Bool.not_eq_false', decide_eq_true_eq, decide_eq_false_iff_not, Int.not_lt, Int.not_le, if_true, if_false, Bool.false_eq_true, beq_iff_eq, bne_iff_ne, ne_eq, Bool.not_eq_eq_eq_not, Bool.not_true, Bool.not_false, beq_eq_false_iff_ne, bne_eq_false_iff_eq, Int.ofNat_eq_natCast, Bool.not_not, not_true_eq_false, not_false_eq_true, reduceCtorEq] at h1)) <;> (try cbv))
      · have e1 : 15 = w1 := g1 (by omega)
        simp only [eB]
        refine Loop.data hw (S := Int × Int) (fun s => fr 83 [(0, .list 2 rs), (3, .nils), (4, .int .i64 E), (5, .int .i64 s.2), (22, .list 2 rs), (23, .int .i64 L), (24, .int .i64 i), (33, .list 1 br), (34, .int .i64 B), (35, .int .i64 s.1)]) (fun s => [])
          (fun s => 0 ≤ s.1 ∧ s.1 ≤ B ∧ WantB l i (c, bs) bs s.1 s.2) (fun s => (B - s.1).toNat) (0, w1) (by (refine Wk.eqz (id) (by first | exact fun i _ j _ e => e | (simp only [List.length_cons, List.length_nil]; decide)) ?_; cbv; (repeat' (first | exact trivial | rfl | assumption | apply And.intro | (simp only [hbin, hcmp, hun, hconv, hnot, hbeq, hmm, hscmp, hsadd, hslen, hsat, heqs, hofNat, binStd, cmpStd, unStd, scmpStd, maxI, Bool.not_eq_true', Bool.not_eq_false', decide_eq_true_eq, decide_eq_false_iff_not, Int.not_lt, Int.not_le, if_true, if_false, Bool.false_eq_true, beq_iff_eq, bne_iff_ne, ne_eq, Bool.not_eq_eq_eq_not, Bool.not_true, Bool.not_false, beq_eq_false_iff_ne, bne_eq_false_iff_eq, Int.ofNat_eq_natCast, Bool.not_not, not_true_eq_false, not_false_eq_true, reduceCtorEq]; first | done | assumption) | exact RowsZ.same (by assumption) (by first | assumption | rfl) | exact FzL.mk rfl rfl rfl (by assumption) (by first | assumption | rfl) (by decide) | (refine RowsZ.one ?_; cbv))))) ⟨Int.le_refl _, B0, hwB⟩ ?_
        rintro ⟨k, w2⟩ hinv2 Q2 hN2 hE2 hR2
        have hinv2 : 0 ≤ k ∧ k ≤ B ∧ WantB l i (c, bs) bs k w2 := hinv2
        cbv
        obtain ⟨hk0, hk1, hwC⟩ := hinv2
        (split <;> rename_i hk <;> (try (simp only [hbin, hcmp, hun, hconv, hnot, hbeq, hmm, hscmp, hsadd, hslen, hsat, heqs, hofNat, binStd, cmpStd, unStd, scmpStd, maxI, Bool.not_eq_true', Bool.not_eq_false', decide_eq_true_eq, decide_eq_false_iff_not, Int.not_lt, Int.not_le, if_true, if_false, Bool.false_eq_true, beq_iff_eq, bne_iff_ne, ne_eq, Bool.not_eq_eq_eq_not, Bool.not_true, Bool.not_false, beq_eq_false_iff_ne, bne_eq_false_iff_eq, Int.ofNat_eq_natCast, Bool.not_not, not_true_eq_false, not_false_eq_true, reduceCtorEq] at hk)) <;> (try cbv))
        · obtain ⟨b, hb⟩ : ∃ b, bs[k.toNat]? = some b := ⟨_, List.getElem?_eq_getElem (show k.toNat < bs.length by omega)⟩
          have hbm := List.mem_of_getElem? hb
          obtain ⟨bb, ebb⟩ : ∃ z, z = b.map bRow := ⟨_, rfl⟩
          have hubb : Up0 bb := by rw [ebb]; exact up_b b
          have hbbl : bb.length = b.length := by rw [ebb]; simp
          have hbr : br[k.toNat]? = some [.list 1 bb] := by rw [ebr, List.getElem?_map, hb, ebb]; rfl
          obtain ⟨k2, ek2⟩ : ∃ z, z = k + 1 := ⟨_, rfl⟩
          have a6 : wbin .add .i64 k 1 = k2 := by rw [hbin, i_add (by omega) (by omega), ek2]
          have hT2 : (B - k2).toNat < (B - k).toNat := by omega
          have htk2 : bs.take k2.toNat = bs.take k.toNat ++ [b] := by rw [ek2]; exact take_nx hk0 hb
          refine Idx.mk _ hk0 hbr ?_
          cbv
          (obtain ⟨D, eD, D0, Dn⟩ : ∃ L : Int, wlen bb = L ∧ 0 ≤ L ∧ L.toNat = bb.length := ⟨(bb.length : Int), by rw [hlen], Int.natCast_nonneg _, Int.toNat_natCast _⟩)
          simp only [eD]
          (split <;> rename_i h2 <;> (try (simp only [hbin, hcmp, hun, hconv, hnot, hbeq, hmm, hscmp, hsadd, hslen, hsat, heqs, hofNat, binStd, cmpStd, unStd, scmpStd, maxI, Bool.not_eq_true', Bool.not_eq_false', decide_eq_true_eq, decide_eq_false_iff_not, Int.not_lt, Int.not_le, if_true, if_false, Bool.false_eq_true, beq_iff_eq, bne_iff_ne, ne_eq, Bool.not_eq_eq_eq_not, Bool.not_true, Bool.not_false, beq_eq_false_iff_ne, bne_eq_false_iff_eq, Int.ofNat_eq_natCast, Bool.not_not, not_true_eq_false, not_false_eq_true, reduceCtorEq] at h2)) <;> (try cbv))
          · simp only [a6]
            refine hN2 (k2, 15) _ _ ?hx ?hi hT2
            case hx => (refine Wk.eqz (id) (by first | exact fun i _ j _ e => e | (simp only [List.length_cons, List.length_nil]; decide)) ?_; cbv; (repeat' (first | exact trivial | rfl | assumption | apply And.intro | (simp only [hbin, hcmp, hun, hconv, hnot, hbeq, hmm, hscmp, hsadd, hslen, hsat, heqs, hofNat, binStd, cmpStd, unStd, scmpStd, maxI, Bool.not_eq_true', Bool.not_eq_false', decide_eq_true_eq, decide_eq_false_iff_not, Int.not_lt, Int.not_le, if_true, if_false, Bool.false_eq_true, beq_iff_eq, bne_iff_ne, ne_eq, Bool.not_eq_eq_eq_not, Bool.not_true, Bool.not_false, beq_eq_false_iff_ne, bne_eq_false_iff_eq, Int.ofNat_eq_natCast, Bool.not_not, not_true_eq_false, not_false_eq_true, reduceCtorEq]; first | done | assumption) | exact RowsZ.same (by assumption) (by first | assumption | rfl) | exact FzL.mk rfl rfl rfl (by assumption) (by first | assumption | rfl) (by decide) | (refine RowsZ.one ?_; cbv))))
            case hi => exact ⟨by simp only; omega, by simp only; omega, .inr ⟨rfl, .inr fun hR => by have := hR.2 b hbm; omega⟩⟩
          · simp only [a6]
            refine hN2 (k2, w2) _ _ ?hx ?hi hT2
            case hx => (refine Wk.eqz (id) (by first | exact fun i _ j _ e => e | (simp only [List.length_cons, List.length_nil]; decide)) ?_; cbv; (repeat' (first | exact trivial | rfl | assumption | apply And.intro | (simp only [hbin, hcmp, hun, hconv, hnot, hbeq, hmm, hscmp, hsadd, hslen, hsat, heqs, hofNat, binStd, cmpStd, unStd, scmpStd, maxI, Bool.not_eq_true', Bool.not_eq_false', decide_eq_true_eq, decide_eq_false_iff_not, Int.not_lt, Int.not_le, if_true, if_false, Bool.false_eq_true, beq_iff_eq, bne_iff_ne, ne_eq, Bool.not_eq_eq_eq_not, Bool.not_true, Bool.not_false, beq_eq_false_iff_ne, bne_eq_false_iff_eq, Int.ofNat_eq_natCast, Bool.not_not, not_true_eq_false, not_false_eq_true, reduceCtorEq]; first | done | assumption) | exact RowsZ.same (by assumption) (by first | assumption | rfl) | exact FzL.mk rfl rfl rfl (by assumption) (by first | assumption | rfl) (by decide) | (refine RowsZ.one ?_; cbv))))
            case hi =>
              refine ⟨by simp only; omega, by simp only; omega, ?_⟩
              rcases hwC with ⟨h3, h4, h5, h6⟩ | h3
              · refine .inl ⟨h3, h4, h5, fun x hx => ?_⟩
                simp only at hx
                rw [htk2] at hx
                rcases List.mem_append.1 hx with h | h
                · exact h6 x h
                · simp at h; subst h; omega
              · exact .inr h3
        · refine hE2 _ _ _ ?_
          cbv
          simp only [a4]
          refine hN (i2, w2) _ _ ?hx ?hi hT
          case hx => (refine Wk.eqz (id) (by first | exact fun i _ j _ e => e | (simp only [List.length_cons, List.length_nil]; decide)) ?_; cbv; (repeat' (first | exact trivial | rfl | assumption | apply And.intro | (simp only [hbin, hcmp, hun, hconv, hnot, hbeq, hmm, hscmp, hsadd, hslen, hsat, heqs, hofNat, binStd, cmpStd, unStd, scmpStd, maxI, Bool.not_eq_true', Bool.not_eq_false', decide_eq_true_eq, decide_eq_false_iff_not, Int.not_lt, Int.not_le, if_true, if_false, Bool.false_eq_true, beq_iff_eq, bne_iff_ne, ne_eq, Bool.not_eq_eq_eq_not, Bool.not_true, Bool.not_false, beq_eq_false_iff_ne, bne_eq_false_iff_eq, Int.ofNat_eq_natCast, Bool.not_not, not_true_eq_false, not_false_eq_true, reduceCtorEq]; first | done | assumption) | exact RowsZ.same (by assumption) (by first | assumption | rfl) | exact FzL.mk rfl rfl rfl (by assumption) (by first | assumption | rfl) (by decide) | (refine RowsZ.one ?_; cbv))))
          case hi =>
            refine ⟨by simp only; omega, by simp only; omega, ?_⟩
            rcases hwC with ⟨h3, h4, h5, h6⟩ | ⟨h3, h4⟩
            · refine .inl ⟨h3, fun x hx => ?_⟩
              simp only at hx
              rw [htk] at hx
              rcases List.mem_append.1 hx with h | h
              · exact h4 x h
              · simp at h; subst h
                exact ⟨h5, fun b hb => h6 b (by rw [List.take_of_length_le (by omega)]; exact hb)⟩
            · refine .inr ⟨h3, ?_⟩
              simp only
              rw [htk]
              rcases h4 with ⟨x, hx, hx2⟩ | h4
              · exact ⟨x, List.mem_append_left _ hx, hx2⟩
              · exact ⟨_, List.mem_append_right _ (by simp), h4⟩
      · have e1 : w = w1 := g2 (by omega)
        simp only [eB]
        refine Loop.data hw (S := Int × Int) (fun s => fr 83 [(0, .list 2 rs), (3, .nils), (4, .int .i64 E), (5, .int .i64 s.2), (22, .list 2 rs), (23, .int .i64 L), (24, .int .i64 i), (33, .list 1 br), (34, .int .i64 B), (35, .int .i64 s.1)]) (fun s => [])
          (fun s => 0 ≤ s.1 ∧ s.1 ≤ B ∧ WantB l i (c, bs) bs s.1 s.2) (fun s => (B - s.1).toNat) (0, w1) (by (refine Wk.eqz (id) (by first | exact fun i _ j _ e => e | (simp only [List.length_cons, List.length_nil]; decide)) ?_; cbv; (repeat' (first | exact trivial | rfl | assumption | apply And.intro | (simp only [hbin, hcmp, hun, hconv, hnot, hbeq, hmm, hscmp, hsadd, hslen, hsat, heqs, hofNat, binStd, cmpStd, unStd, scmpStd, maxI, Bool.not_eq_true', Bool.not_eq_false', decide_eq_true_eq, decide_eq_false_iff_not, Int.not_lt, Int.not_le, if_true, if_false, Bool.false_eq_true, beq_iff_eq, bne_iff_ne, ne_eq, Bool.not_eq_eq_eq_not, Bool.not_true, Bool.not_false, beq_eq_false_iff_ne, bne_eq_false_iff_eq, Int.ofNat_eq_natCast, Bool.not_not, not_true_eq_false, not_false_eq_true, reduceCtorEq]; first | done | assumption) | exact RowsZ.same (by assumption) (by first | assumption | rfl) | exact FzL.mk rfl rfl rfl (by assumption) (by first | assumption | rfl) (by decide) | (refine RowsZ.one ?_; cbv))))) ⟨Int.le_refl _, B0, hwB⟩ ?_
        rintro ⟨k, w2⟩ hinv2 Q2 hN2 hE2 hR2
        have hinv2 : 0 ≤ k ∧ k ≤ B ∧ WantB l i (c, bs) bs k w2 := hinv2
        cbv
        obtain ⟨hk0, hk1, hwC⟩ := hinv2
        (split <;> rename_i hk <;> (try (simp only [hbin, hcmp, hun, hconv, hnot, hbeq, hmm, hscmp, hsadd, hslen, hsat, heqs, hofNat, binStd, cmpStd, unStd, scmpStd, maxI, Bool.not_eq_true', Bool.not_eq_false', decide_eq_true_eq, decide_eq_false_iff_not, Int.not_lt, Int.not_le, if_true, if_false, Bool.false_eq_true, beq_iff_eq, bne_iff_ne, ne_eq, Bool.not_eq_eq_eq_not, Bool.not_true, Bool.not_false, beq_eq_false_iff_ne, bne_eq_false_iff_eq, Int.ofNat_eq_natCast, Bool.not_not, not_true_eq_false, not_false_eq_true, reduceCtorEq] at hk)) <;> (try cbv))
        · obtain ⟨b, hb⟩ : ∃ b, bs[k.toNat]? = some b := ⟨_, List.getElem?_eq_getElem (show k.toNat < bs.length by omega)⟩
          have hbm := List.mem_of_getElem? hb
          obtain ⟨bb, ebb⟩ : ∃ z, z = b.map bRow := ⟨_, rfl⟩
          have hubb : Up0 bb := by rw [ebb]; exact up_b b
          have hbbl : bb.length = b.length := by rw [ebb]; simp
          have hbr : br[k.toNat]? = some [.list 1 bb] := by rw [ebr, List.getElem?_map, hb, ebb]; rfl
          obtain ⟨k2, ek2⟩ : ∃ z, z = k + 1 := ⟨_, rfl⟩
          have a6 : wbin .add .i64 k 1 = k2 := by rw [hbin, i_add (by omega) (by omega), ek2]
          have hT2 : (B - k2).toNat < (B - k).toNat := by omega
          have htk2 : bs.take k2.toNat = bs.take k.toNat ++ [b] := by rw [ek2]; exact take_nx hk0 hb
          refine Idx.mk _ hk0 hbr ?_
          cbv
          (obtain ⟨D, eD, D0, Dn⟩ : ∃ L : Int, wlen bb = L ∧ 0 ≤ L ∧ L.toNat = bb.length := ⟨(bb.length : Int), by rw [hlen], Int.natCast_nonneg _, Int.toNat_natCast _⟩)
          simp only [eD]
          (split <;> rename_i h2 <;> (try (simp only [hbin, hcmp, hun, hconv, hnot, hbeq, hmm, hscmp, hsadd, hslen, hsat, heqs, hofNat, binStd, cmpStd, unStd, scmpStd, maxI, Bool.not_eq_true', Bool.not_eq_false', decide_eq_true_eq, decide_eq_false_iff_not, Int.not_lt, Int.not_le, if_true, if_false, Bool.false_eq_true, beq_iff_eq, bne_iff_ne, ne_eq, Bool.not_eq_eq_eq_not, Bool.not_true, Bool.not_false, beq_eq_false_iff_ne, bne_eq_false_iff_eq, Int.ofNat_eq_natCast, Bool.not_not, not_true_eq_false, not_false_eq_true, reduceCtorEq] at h2)) <;> (try cbv))
          · simp only [a6]
            refine hN2 (k2, 15) _ _ ?hx ?hi hT2
            case hx => (refine Wk.eqz (id) (by first | exact fun i _ j _ e => e | (simp only [List.length_cons, List.length_nil]; decide)) ?_; cbv; (repeat' (first | exact trivial | rfl | assumption | apply And.intro | (simp only [hbin, hcmp, hun, hconv, hnot, hbeq, hmm, hscmp, hsadd, hslen, hsat, heqs, hofNat, binStd, cmpStd, unStd, scmpStd, maxI, Bool.not_eq_true', Bool.not_eq_false', decide_eq_true_eq, decide_eq_false_iff_not, Int.not_lt, Int.not_le, if_true, if_false, Bool.false_eq_true, beq_iff_eq, bne_iff_ne, ne_eq, Bool.not_eq_eq_eq_not, Bool.not_true, Bool.not_false, beq_eq_false_iff_ne, bne_eq_false_iff_eq, Int.ofNat_eq_natCast, Bool.not_not, not_true_eq_false, not_false_eq_true, reduceCtorEq]; first | done | assumption) | exact RowsZ.same (by assumption) (by first | assumption | rfl) | exact FzL.mk rfl rfl rfl (by assumption) (by first | assumption | rfl) (by decide) | (refine RowsZ.one ?_; cbv))))
            case hi => exact ⟨by simp only; omega, by simp only; omega, .inr ⟨rfl, .inr fun hR => by have := hR.2 b hbm; omega⟩⟩
          · simp only [a6]
            refine hN2 (k2, w2) _ _ ?hx ?hi hT2
            case hx => (refine Wk.eqz (id) (by first | exact fun i _ j _ e => e | (simp only [List.length_cons, List.length_nil]; decide)) ?_; cbv; (repeat' (first | exact trivial | rfl | assumption | apply And.intro | (simp only [hbin, hcmp, hun, hconv, hnot, hbeq, hmm, hscmp, hsadd, hslen, hsat, heqs, hofNat, binStd, cmpStd, unStd, scmpStd, maxI, Bool.not_eq_true', Bool.not_eq_false', decide_eq_true_eq, decide_eq_false_iff_not, Int.not_lt, Int.not_le, if_true, if_false, Bool.false_eq_true, beq_iff_eq, bne_iff_ne, ne_eq, Bool.not_eq_eq_eq_not, Bool.not_true, Bool.not_false, beq_eq_false_iff_ne, bne_eq_false_iff_eq, Int.ofNat_eq_natCast, Bool.not_not, not_true_eq_false, not_false_eq_true, reduceCtorEq]; first | done | assumption) | exact RowsZ.same (by assumption) (by first | assumption | rfl) | exact FzL.mk rfl rfl rfl (by assumption) (by first | assumption | rfl) (by decide) | (refine RowsZ.one ?_; cbv))))
            case hi =>
              refine ⟨by simp only; omega, by simp only; omega, ?_⟩
              rcases hwC with ⟨h3, h4, h5, h6⟩ | h3
              · refine .inl ⟨h3, h4, h5, fun x hx => ?_⟩
                simp only at hx
                rw [htk2] at hx
                rcases List.mem_append.1 hx with h | h
                · exact h6 x h
                · simp at h; subst h; omega
              · exact .inr h3
        · refine hE2 _ _ _ ?_
          cbv
          simp only [a4]
          refine hN (i2, w2) _ _ ?hx ?hi hT
          case hx => (refine Wk.eqz (id) (by first | exact fun i _ j _ e => e | (simp only [List.length_cons, List.length_nil]; decide)) ?_; cbv; (repeat' (first | exact trivial | rfl | assumption | apply And.intro | (simp only [hbin, hcmp, hun, hconv, hnot, hbeq, hmm, hscmp, hsadd, hslen, hsat, heqs, hofNat, binStd, cmpStd, unStd, scmpStd, maxI, Bool.not_eq_true', Bool.not_eq_false', decide_eq_true_eq, decide_eq_false_iff_not, Int.not_lt, Int.not_le, if_true, if_false, Bool.false_eq_true, beq_iff_eq, bne_iff_ne, ne_eq, Bool.not_eq_eq_eq_not, Bool.not_true, Bool.not_false, beq_eq_false_iff_ne, bne_eq_false_iff_eq, Int.ofNat_eq_natCast, Bool.not_not, not_true_eq_false, not_false_eq_true, reduceCtorEq]; first | done | assumption) | exact RowsZ.same (by assumption) (by first | assumption | rfl) | exact FzL.mk rfl rfl rfl (by assumption) (by first | assumption | rfl) (by decide) | (refine RowsZ.one ?_; cbv))))
          case hi =>
            refine ⟨by simp only; omega, by simp only; omega, ?_⟩
            rcases hwC with ⟨h3, h4, h5, h6⟩ | ⟨h3, h4⟩
            · refine .inl ⟨h3, fun x hx => ?_⟩
              simp only at hx
              rw [htk] at hx
              rcases List.mem_append.1 hx with h | h
              · exact h4 x h
              · simp at h; subst h
                exact ⟨h5, fun b hb => h6 b (by rw [List.take_of_length_le (by omega)]; exact hb)⟩
            · refine .inr ⟨h3, ?_⟩
              simp only
              rw [htk]
              rcases h4 with ⟨x, hx, hx2⟩ | h4
              · exact ⟨x, List.mem_append_left _ hx, hx2⟩
              · exact ⟨_, List.mem_append_right _ (by simp), h4⟩
    · refine hE _ _ _ ?_
      cbv
      have hwF : w = 0 ∨ w = 15 := hwA.imp (·.1) (·.1)
      have hwR : l.length ≤ 4096 → w = 15 := fun h => by
        rcases hwA with ⟨_, h2⟩ | h2
        · exfalso
          omega
        · exact h2.1
      simp only [eL]
      have l0 : wofNat 0 = 0 := by rw [hofNat]; rfl
      have c00 : wcmp .eql 0 0 = true := by rw [hcmp]; rfl
      have cE : ∀ x : Int, wcmp .eql x x = true := fun x => by rw [hcmp]; simp [cmpStd]
      repeat' (first
        | (exfalso; omega)
        | (simp only [cE]; cbv)
        | (simp only [hErr, cE]; cbv)
        | (simp only [l0, c00]; cbv)
        | exact ⟨_, Vw.same rfl, hR _ rfl⟩
        | (split <;> rename_i h9 <;> (try (simp only [hbin, hcmp, hun, hconv, hnot, hbeq, hmm, hscmp, hsadd, hslen, hsat, heqs, hofNat, binStd, cmpStd, unStd, scmpStd, maxI, Bool.not_eq_true', Bool.not_eq_false', decide_eq_true_eq, decide_eq_false_iff_not, Int.not_lt, Int.not_le, if_true, if_false, Bool.false_eq_true, beq_iff_eq, bne_iff_ne, ne_eq, Bool.not_eq_eq_eq_not, Bool.not_true, Bool.not_false, beq_eq_false_iff_ne, bne_eq_false_iff_eq, Int.ofNat_eq_natCast, Bool.not_not, not_true_eq_false, not_false_eq_true, reduceCtorEq] at h9)) <;> (try cbv)))
      all_goals (exfalso; omega)
  · cbv
    (obtain ⟨L, eL, L0, Ln⟩ : ∃ L : Int, wlen rs = L ∧ 0 ≤ L ∧ L.toNat = rs.length := ⟨(rs.length : Int), by rw [hlen], Int.natCast_nonneg _, Int.toNat_natCast _⟩)
    simp only [eL]
    refine Loop.data hw (S := Int × Int) (fun s => fr 83 [(0, .list 2 rs), (3, .nils), (4, .int .i64 E), (5, .int .i64 s.2), (22, .list 2 rs), (23, .int .i64 L), (24, .int .i64 s.1)]) (fun s => [])
      (fun s => 0 ≤ s.1 ∧ s.1 ≤ L ∧ WantA l s.1 s.2) (fun s => (L - s.1).toNat) (0, 0) (by (refine Wk.eqz (id) (by first | exact fun i _ j _ e => e | (simp only [List.length_cons, List.length_nil]; decide)) ?_; cbv; (repeat' (first | exact trivial | rfl | assumption | apply And.intro | (simp only [hbin, hcmp, hun, hconv, hnot, hbeq, hmm, hscmp, hsadd, hslen, hsat, heqs, hofNat, binStd, cmpStd, unStd, scmpStd, maxI, Bool.not_eq_true', Bool.not_eq_false', decide_eq_true_eq, decide_eq_false_iff_not, Int.not_lt, Int.not_le, if_true, if_false, Bool.false_eq_true, beq_iff_eq, bne_iff_ne, ne_eq, Bool.not_eq_eq_eq_not, Bool.not_true, Bool.not_false, beq_eq_false_iff_ne, bne_eq_false_iff_eq, Int.ofNat_eq_natCast, Bool.not_not, not_true_eq_false, not_false_eq_true, reduceCtorEq]; first | done | assumption) | exact RowsZ.same (by assumption) (by first | assumption | rfl) | exact FzL.mk rfl rfl rfl (by assumption) (by first | assumption | rfl) (by decide) | (refine RowsZ.one ?_; cbv))))) ⟨Int.le_refl _, L0, .inl ⟨rfl, fun e he => by simp at he⟩⟩ ?_
    rintro ⟨i, w⟩ hinv Q' hN hE hR'
    have hinv : 0 ≤ i ∧ i ≤ L ∧ WantA l i w := hinv
    cbv
    obtain ⟨hi0, hi1, hwA⟩ := hinv
    (split <;> rename_i hc <;> (try (simp only [hbin, hcmp, hun, hconv, hnot, hbeq, hmm, hscmp, hsadd, hslen, hsat, heqs, hofNat, binStd, cmpStd, unStd, scmpStd, maxI, Bool.not_eq_true', Bool.not_eq_false', decide_eq_true_eq, decide_eq_false_iff_not, Int.not_lt, Int.not_le, if_true, if_false, Bool.false_eq_true, beq_iff_eq, bne_iff_ne, ne_eq, Bool.not_eq_eq_eq_not, Bool.not_true, Bool.not_false, beq_eq_false_iff_ne, bne_eq_false_iff_eq, Int.ofNat_eq_natCast, Bool.not_not, not_true_eq_false, not_false_eq_true, reduceCtorEq] at hc)) <;> (try cbv))
    · obtain ⟨e, he⟩ : ∃ b, l[i.toNat]? = some b := ⟨_, List.getElem?_eq_getElem (show i.toNat < l.length by omega)⟩
      have hem := List.mem_of_getElem? he
      have hEb := hbig e hem
      obtain ⟨i2, ei2⟩ : ∃ z, z = i + 1 := ⟨_, rfl⟩
      have a4 : wbin .add .i64 i 1 = i2 := by rw [hbin, i_add (by omega) (by omega), ei2]
      have hT : (L - i2).toNat < (L - i).toNat := by omega
      have htk : l.take i2.toNat = l.take i.toNat ++ [e] := by rw [ei2]; exact take_nx hi0 he
      obtain ⟨c, bs⟩ := e
      obtain ⟨br, ebr⟩ : ∃ z, z = bs.map bsRow := ⟨_, rfl⟩
      have hubr : Up0 br := by rw [ebr]; exact up_bs bs
      have hbrl : br.length = bs.length := by rw [ebr]; simp
      have her : rs[i.toNat]? = some [.bool c, .list 1 br] := by rw [hrs, List.getElem?_map, he, ebr]; rfl
      have hbsl : bs.length ≤ 140737488355328 := hEb.1
      refine Idx.mk _ hi0 her ?_
      cbv
      (obtain ⟨B, eB, B0, Bn⟩ : ∃ L : Int, wlen br = L ∧ 0 ≤ L ∧ L.toNat = br.length := ⟨(br.length : Int), by rw [hlen], Int.natCast_nonneg _, Int.toNat_natCast _⟩)
      simp only [eB]
      obtain ⟨w1, ew1⟩ : ∃ z : Int, z = if 255 < B then 15 else w := ⟨_, rfl⟩
      have hwB : WantB l i (c, bs) bs 0 w1 := by
        rw [ew1]
        split
        · exact .inr ⟨rfl, .inr fun hR => by have := hR.1; simp only at this; omega⟩
        · rcases hwA with ⟨h1, h2⟩ | ⟨h1, h2⟩
          · exact .inl ⟨h1, h2, by omega, fun b hb => by simp at hb⟩
          · exact .inr ⟨h1, .inl h2⟩
      have g1 : 255 < B → 15 = w1 := fun h => by rw [ew1, if_pos h]
      have g2 : ¬ 255 < B → w = w1 := fun h => by rw [ew1, if_neg h]
      clear ew1
      (split <;> rename_i h1 <;> (try (simp only [hbin, hcmp, hun, hconv, hnot, hbeq, hmm, hscmp, hsadd, hslen, hsat, heqs, hofNat, binStd, cmpStd, unStd, scmpStd, maxI, Bool.not_eq_true', Bool.not_eq_false', decide_eq_true_eq, decide_eq_false_iff_not, Int.not_lt, Int.not_le, if_true, if_false, Bool.false_eq_true, beq_iff_eq, bne_iff_ne, ne_eq, Bool.not_eq_eq_eq_not, Bool.not_true, Bool.not_false, beq_eq_false_iff_ne, bne_eq_false_iff_eq, Int.ofNat_eq_natCast, Bool.not_not, not_true_eq_false, not_false_eq_true, reduceCtorEq] at h1)) <;> (try cbv))
      · have e1 : 15 = w1 := g1 (by omega)
        simp only [eB]
        refine Loop.data hw (S := Int × Int) (fun s => fr 83 [(0, .list 2 rs), (3, .nils), (4, .int .i64 E), (5, .int .i64 s.2), (22, .list 2 rs), (23, .int .i64 L), (24, .int .i64 i), (33, .list 1 br), (34, .int .i64 B), (35, .int .i64 s.1)]) (fun s => [])
          (fun s => 0 ≤ s.1 ∧ s.1 ≤ B ∧ WantB l i (c, bs) bs s.1 s.2) (fun s => (B - s.1).toNat) (0, w1) (by (refine Wk.eqz (id) (by first | exact fun i _ j _ e => e | (simp only [List.length_cons, List.length_nil]; decide)) ?_; cbv; (repeat' (first | exact trivial | rfl | assumption | apply And.intro | (simp only [hbin, hcmp, hun, hconv, hnot, hbeq, hmm, hscmp, hsadd, hslen, hsat, heqs, hofNat, binStd, cmpStd, unStd, scmpStd, maxI, Bool.not_eq_true', Bool.not_eq_false', decide_eq_true_eq, decide_eq_false_iff_not, Int.not_lt, Int.not_le, if_true, if_false, Bool.false_eq_true, beq_iff_eq, bne_iff_ne, ne_eq, Bool.not_eq_eq_eq_not, Bool.not_true, Bool.not_false, beq_eq_false_iff_ne, bne_eq_false_iff_eq, Int.ofNat_eq_natCast, Bool.not_not, not_true_eq_false, not_false_eq_true, reduceCtorEq]; first | done | assumption) | exact RowsZ.same (by assumption) (by first | assumption | rfl) | exact FzL.mk rfl rfl rfl (by assumption) (by first | assumption | rfl) (by decide) | (refine RowsZ.one ?_; cbv))))) ⟨Int.le_refl _, B0, hwB⟩ ?_
        rintro ⟨k, w2⟩ hinv2 Q2 hN2 hE2 hR2
        have hinv2 : 0 ≤ k ∧ k ≤ B ∧ WantB l i (c, bs) bs k w2 := hinv2
        cbv
        obtain ⟨hk0, hk1, hwC⟩ := hinv2
        (split <;> rename_i hk <;> (try (simp only [hbin, hcmp, hun, hconv, hnot, hbeq, hmm, hscmp, hsadd, hslen, hsat, heqs, hofNat, binStd, cmpStd, unStd, scmpStd, maxI, Bool.not_eq_true', Bool.not_eq_false', decide_eq_true_eq, decide_eq_false_iff_not, Int.not_lt, Int.not_le, if_true, if_false, Bool.false_eq_true, beq_iff_eq, bne_iff_ne, ne_eq, Bool.not_eq_eq_eq_not, Bool.not_true, Bool.not_false, beq_eq_false_iff_ne, bne_eq_false_iff_eq, Int.ofNat_eq_natCast, Bool.not_not, not_true_eq_false, not_false_eq_true, reduceCtorEq] at hk)) <;> (try cbv))
        · obtain ⟨b, hb⟩ : ∃ b, bs[k.toNat]? = some b := ⟨_, List.getElem?_eq_getElem (show k.toNat < bs.length by omega)⟩
          have hbm := List.mem_of_getElem? hb
          obtain ⟨bb, ebb⟩ : ∃ z, z = b.map bRow := ⟨_, rfl⟩
          have hubb : Up0 bb := by rw [ebb]; exact up_b b
          have hbbl : bb.length = b.length := by rw [ebb]; simp
          have hbr : br[k.toNat]? = some [.list 1 bb] := by rw [ebr, List.getElem?_map, hb, ebb]; rfl
          obtain ⟨k2, ek2⟩ : ∃ z, z = k + 1 := ⟨_, rfl⟩
          have a6 : wbin .add .i64 k 1 = k2 := by rw [hbin, i_add (by omega) (by omega), ek2]
          have hT2 : (B - k2).toNat < (B - k).toNat := by omega
          have htk2 : bs.take k2.toNat = bs.take k.toNat ++ [b] := by rw [ek2]; exact take_nx hk0 hb
          refine Idx.mk _ hk0 hbr ?_
          cbv
          (obtain ⟨D, eD, D0, Dn⟩ : ∃ L : Int, wlen bb = L ∧ 0 ≤ L ∧ L.toNat = bb.length := ⟨(bb.length : Int), by rw [hlen], Int.natCast_nonneg _, Int.toNat_natCast _⟩)
          simp only [eD]
          (split <;> rename_i h2 <;> (try (simp only [hbin, hcmp, hun, hconv, hnot, hbeq, hmm, hscmp, hsadd, hslen, hsat, heqs, hofNat, binStd, cmpStd, unStd, scmpStd, maxI, Bool.not_eq_true', Bool.not_eq_false', decide_eq_true_eq, decide_eq_false_iff_not, Int.not_lt, Int.not_le, if_true, if_false, Bool.false_eq_true, beq_iff_eq, bne_iff_ne, ne_eq, Bool.not_eq_eq_eq_not, Bool.not_true, Bool.not_false, beq_eq_false_iff_ne, bne_eq_false_iff_eq, Int.ofNat_eq_natCast, Bool.not_not, not_true_eq_false, not_false_eq_true, reduceCtorEq] at h2)) <;> (try cbv))
          · simp only [a6]
            refine hN2 (k2, 15) _ _ ?hx ?hi hT2
            case hx => (refine Wk.eqz (id) (by first | exact fun i _ j _ e => e | (simp only [List.length_cons, List.length_nil]; decide)) ?_; cbv; (repeat' (first | exact trivial | rfl | assumption | apply And.intro | (simp only [hbin, hcmp, hun, hconv, hnot, hbeq, hmm, hscmp, hsadd, hslen, hsat, heqs, hofNat, binStd, cmpStd, unStd, scmpStd, maxI, Bool.not_eq_true', Bool.not_eq_false', decide_eq_true_eq, decide_eq_false_iff_not, Int.not_lt, Int.not_le, if_true, if_false, Bool.false_eq_true, beq_iff_eq, bne_iff_ne, ne_eq, Bool.not_eq_eq_eq_not, Bool.not_true, Bool.not_false, beq_eq_false_iff_ne, bne_eq_false_iff_eq, Int.ofNat_eq_natCast, Bool.not_not, not_true_eq_false, not_false_eq_true, reduceCtorEq]; first | done | assumption) | exact RowsZ.same (by assumption) (by first | assumption | rfl) | exact FzL.mk rfl rfl rfl (by assumption) (by first | assumption | rfl) (by decide) | (refine RowsZ.one ?_; cbv))))
            case hi => exact ⟨by simp only; omega, by simp only; omega, .inr ⟨rfl, .inr fun hR => by have := hR.2 b hbm; omega⟩⟩
          · simp only [a6]
            refine hN2 (k2, w2) _ _ ?hx ?hi hT2
            case hx => (refine Wk.eqz (id) (by first | exact fun i _ j _ e => e | (simp only [List.length_cons, List.length_nil]; decide)) ?_; cbv; (repeat' (first | exact trivial | rfl | assumption | apply And.intro | (simp only [hbin, hcmp, hun, hconv, hnot, hbeq, hmm, hscmp, hsadd, hslen, hsat, heqs, hofNat, binStd, cmpStd, unStd, scmpStd, maxI, Bool.not_eq_true', Bool.not_eq_false', decide_eq_true_eq, decide_eq_false_iff_not, Int.not_lt, Int.not_le, if_true, if_false, Bool.false_eq_true, beq_iff_eq, bne_iff_ne, ne_eq, Bool.not_eq_eq_eq_not, Bool.not_true, Bool.not_false, beq_eq_false_iff_ne, bne_eq_false_iff_eq, Int.ofNat_eq_natCast, Bool.not_not, not_true_eq_false, not_false_eq_true, reduceCtorEq]; first | done | assumption) | exact RowsZ.same (by assumption) (by first | assumption | rfl) | exact FzL.mk rfl rfl rfl (by assumption) (by first | assumption | rfl) (by decide) | (refine RowsZ.one ?_; cbv))))
            case hi =>
              refine ⟨by simp only; omega, by simp only; omega, ?_⟩
              rcases hwC with ⟨h3, h4, h5, h6⟩ | h3
              · refine .inl ⟨h3, h4, h5, fun x hx => ?_⟩
                simp only at hx
                rw [htk2] at hx
                rcases List.mem_append.1 hx with h | h
                · exact h6 x h
                · simp at h; subst h; omega
              · exact .inr h3
        · refine hE2 _ _ _ ?_
          cbv
          simp only [a4]
          refine hN (i2, w2) _ _ ?hx ?hi hT
          case hx => (refine Wk.eqz (id) (by first | exact fun i _ j _ e => e | (simp only [List.length_cons, List.length_nil]; decide)) ?_; cbv; (repeat' (first | exact trivial | rfl | assumption | apply And.intro | (simp only [hbin, hcmp, hun, hconv, hnot, hbeq, hmm, hscmp, hsadd, hslen, hsat, heqs, hofNat, binStd, cmpStd, unStd, scmpStd, maxI, Bool.not_eq_true', Bool.not_eq_false', decide_eq_true_eq, decide_eq_false_iff_not, Int.not_lt, Int.not_le, if_true, if_false, Bool.false_eq_true, beq_iff_eq, bne_iff_ne, ne_eq, Bool.not_eq_eq_eq_not, Bool.not_true, Bool.not_false, beq_eq_false_iff_ne, bne_eq_false_iff_eq, Int.ofNat_eq_natCast, Bool.not_not, not_true_eq_false, not_false_eq_true, reduceCtorEq]; first | done | assumption) | exact RowsZ.same (by assumption) (by first | assumption | rfl) | exact FzL.mk rfl rfl rfl (by assumption) (by first | assumption | rfl) (by decide) | (refine RowsZ.one ?_; cbv))))
          case hi =>
            refine ⟨by simp only; omega, by simp only; omega, ?_⟩
            rcases hwC with ⟨h3, h4, h5, h6⟩ | ⟨h3, h4⟩
            · refine .inl ⟨h3, fun x hx => ?_⟩
              simp only at hx
              rw [htk] at hx
              rcases List.mem_append.1 hx with h | h
              · exact h4 x h
              · simp at h; subst h
                exact ⟨h5, fun b hb => h6 b (by rw [List.take_of_length_le (by omega)]; exact hb)⟩
            · refine .inr ⟨h3, ?_⟩
              simp only
              rw [htk]
              rcases h4 with ⟨x, hx, hx2⟩ | h4
              · exact ⟨x, List.mem_append_left _ hx, hx2⟩
              · exact ⟨_, List.mem_append_right _ (by simp), h4⟩
      · have e1 : w = w1 := g2 (by omega)
        simp only [eB]
        refine Loop.data hw (S := Int × Int) (fun s => fr 83 [(0, .list 2 rs), (3, .nils), (4, .int .i64 E), (5, .int .i64 s.2), (22, .list 2 rs), (23, .int .i64 L), (24, .int .i64 i), (33, .list 1 br), (34, .int .i64 B), (35, .int .i64 s.1)]) (fun s => [])
          (fun s => 0 ≤ s.1 ∧ s.1 ≤ B ∧ WantB l i (c, bs) bs s.1 s.2) (fun s => (B - s.1).toNat) (0, w1) (by (refine Wk.eqz (id) (by first | exact fun i _ j _ e => e | (simp only [List.length_cons, List.length_nil]; decide)) ?_; cbv; (repeat' (first | exact trivial | rfl | assumption | apply And.intro | (simp only [hbin, hcmp, hun, hconv, hnot, hbeq, hmm, hscmp, hsadd, hslen, hsat, heqs, hofNat, binStd, cmpStd, unStd, scmpStd, maxI, Bool.not_eq_true', Bool.not_eq_false', decide_eq_true_eq, decide_eq_false_iff_not, Int.not_lt, Int.not_le, if_true, if_false, Bool.false_eq_true, beq_iff_eq, bne_iff_ne, ne_eq, Bool.not_eq_eq_eq_not, Bool.not_true, Bool.not_false, beq_eq_false_iff_ne, bne_eq_false_iff_eq, Int.ofNat_eq_natCast, Bool.not_not, not_true_eq_false, not_false_eq_true, reduceCtorEq]; first | done | assumption) | exact RowsZ.same (by assumption) (by first | assumption | rfl) | exact FzL.mk rfl rfl rfl (by assumption) (by first | assumption | rfl) (by decide) | (refine RowsZ.one ?_; cbv))))) ⟨Int.le_refl _, B0, hwB⟩ ?_
        rintro ⟨k, w2⟩ hinv2 Q2 hN2 hE2 hR2
        have hinv2 : 0 ≤ k ∧ k ≤ B ∧ WantB l i (c, bs) bs k w2 := hinv2
        cbv
        obtain ⟨hk0, hk1, hwC⟩ := hinv2
        (split <;> rename_i hk <;> (try (simp only [hbin, hcmp, hun, hconv, hnot, hbeq, hmm, hscmp, hsadd, hslen, hsat, heqs, hofNat, binStd, cmpStd, unStd, scmpStd, maxI, Bool.not_eq_true', Bool.not_eq_false', decide_eq_true_eq, decide_eq_false_iff_not, Int.not_lt, Int.not_le, if_true, if_false, Bool.false_eq_true, beq_iff_eq, bne_iff_ne, ne_eq, Bool.not_eq_eq_eq_not, Bool.not_true, Bool.not_false, beq_eq_false_iff_ne, bne_eq_false_iff_eq, Int.ofNat_eq_natCast, Bool.not_not, not_true_eq_false, not_false_eq_true, reduceCtorEq] at hk)) <;> (try cbv))
        · obtain ⟨b, hb⟩ : ∃ b, bs[k.toNat]? = some b := ⟨_, List.getElem?_eq_getElem (show k.toNat < bs.length by omega)⟩
          have hbm := List.mem_of_getElem? hb
          obtain ⟨bb, ebb⟩ : ∃ z, z = b.map bRow := ⟨_, rfl⟩
          have hubb : Up0 bb := by rw [ebb]; exact up_b b
          have hbbl : bb.length = b.length := by rw [ebb]; simp
          have hbr : br[k.toNat]? = some [.list 1 bb] := by rw [ebr, List.getElem?_map, hb, ebb]; rfl
          obtain ⟨k2, ek2⟩ : ∃ z, z = k + 1 := ⟨_, rfl⟩
          have a6 : wbin .add .i64 k 1 = k2 := by rw [hbin, i_add (by omega) (by omega), ek2]
          have hT2 : (B - k2).toNat < (B - k).toNat := by omega
          have htk2 : bs.take k2.toNat = bs.take k.toNat ++ [b] := by rw [ek2]; exact take_nx hk0 hb
          refine Idx.mk _ hk0 hbr ?_
          cbv
          (obtain ⟨D, eD, D0, Dn⟩ : ∃ L : Int, wlen bb = L ∧ 0 ≤ L ∧ L.toNat = bb.length := ⟨(bb.length : Int), by rw [hlen], Int.natCast_nonneg _, Int.toNat_natCast _⟩)
          simp only [eD]
          (split <;> rename_i h2 <;> (try (simp only [hbin, hcmp, hun, hconv, hnot, hbeq, hmm, hscmp, hsadd, hslen, hsat, heqs, hofNat, binStd, cmpStd, unStd, scmpStd, maxI, Bool.not_eq_true', Bool.not_eq_false', decide_eq_true_eq, decide_eq_false_iff_not, Int.not_lt, Int.not_le, if_true, if_false, Bool.false_eq_true, beq_iff_eq, bne_iff_ne, ne_eq, Bool.not_eq_eq_eq_not, Bool.not_true, Bool.not_false, beq_eq_false_iff_ne, bne_eq_false_iff_eq, Int.ofNat_eq_natCast, Bool.not_not, not_true_eq_false, not_false_eq_true, reduceCtorEq] at h2)) <;> (try cbv))
          · simp only [a6]
            refine hN2 (k2, 15) _ _ ?hx ?hi hT2
            case hx => (refine Wk.eqz (id) (by first | exact fun i _ j _ e => e | (simp only [List.length_cons, List.length_nil]; decide)) ?_; cbv; (repeat' (first | exact trivial | rfl | assumption | apply And.intro | (simp only [hbin, hcmp, hun, hconv, hnot, hbeq, hmm, hscmp, hsadd, hslen, hsat, heqs, hofNat, binStd, cmpStd, unStd, scmpStd, maxI, Bool.not_eq_true', Bool.not_eq_false', decide_eq_true_eq, decide_eq_false_iff_not, Int.not_lt, Int.not_le, if_true, if_false, Bool.false_eq_true, beq_iff_eq, bne_iff_ne, ne_eq, Bool.not_eq_eq_eq_not, Bool.not_true, Bool.not_false, beq_eq_false_iff_ne, bne_eq_false_iff_eq, Int.ofNat_eq_natCast, Bool.not_not, not_true_eq_false, not_false_eq_true, reduceCtorEq]; first | done | assumption) | exact RowsZ.same (by assumption) (by first | assumption | rfl) | exact FzL.mk rfl rfl rfl (by assumption) (by first | assumption | rfl) (by decide) | (refine RowsZ.one ?_; cbv))))
            case hi => exact ⟨by simp only; omega, by simp only; omega, .inr ⟨rfl, .inr fun hR => by have := hR.2 b hbm; omega⟩⟩
          · simp only [a6]
            refine hN2 (k2, w2) _ _ ?hx ?hi hT2
            case hx => (refine Wk.eqz (id) (by first | exact fun i _ j _ e => e | (simp only [List.length_cons, List.length_nil]; decide)) ?_; cbv; (repeat' (first | exact trivial | rfl | assumption | apply And.intro | (simp only [hbin, hcmp, hun, hconv, hnot, hbeq, hmm, hscmp, hsadd, hslen, hsat, heqs, hofNat, binStd, cmpStd, unStd, scmpStd, maxI, Bool.not_eq_true', Bool.not_eq_false', decide_eq_true_eq, decide_eq_false_iff_not, Int.not_lt, Int.not_le, if_true, if_false, Bool.false_eq_true, beq_iff_eq, bne_iff_ne, ne_eq, Bool.not_eq_eq_eq_not, Bool.not_true, Bool.not_false, beq_eq_false_iff_ne, bne_eq_false_iff_eq, Int.ofNat_eq_natCast, Bool.not_not, not_true_eq_false, not_false_eq_true, reduceCtorEq]; first | done | assumption) | exact RowsZ.same (by assumption) (by first | assumption | rfl) | exact FzL.mk rfl rfl rfl (by assumption) (by first | assumption | rfl) (by decide) | (refine RowsZ.one ?_; cbv))))
            case hi =>
              refine ⟨by simp only; omega, by simp only; omega, ?_⟩
              rcases hwC with ⟨h3, h4, h5, h6⟩ | h3
              · refine .inl ⟨h3, h4, h5, fun x hx => ?_⟩
                simp only at hx
                rw [htk2] at hx
                rcases List.mem_append.1 hx with h | h
                · exact h6 x h
                · simp at h; subst h; omega
              · exact .inr h3
        · refine hE2 _ _ _ ?_
          cbv
          simp only [a4]
          refine hN (i2, w2) _ _ ?hx ?hi hT
          case hx => (refine Wk.eqz (id) (by first | exact fun i _ j _ e => e | (simp only [List.length_cons, List.length_nil]; decide)) ?_; cbv; (repeat' (first | exact trivial | rfl | assumption | apply And.intro | (simp only [hbin, hcmp, hun, hconv, hnot, hbeq, hmm, hscmp, hsadd, hslen, hsat, heqs, hofNat, binStd, cmpStd, unStd, scmpStd, maxI, Bool.not_eq_true', Bool.not_eq_false', decide_eq_true_eq, decide_eq_false_iff_not, Int.not_lt, Int.not_le, if_true, if_false, Bool.false_eq_true, beq_iff_eq, bne_iff_ne, ne_eq, Bool.not_eq_eq_eq_not, Bool.not_true, Bool.not_false, beq_eq_false_iff_ne, bne_eq_false_iff_eq, Int.ofNat_eq_natCast, Bool.not_not, not_true_eq_false, not_false_eq_true, reduceCtorEq]; first | done | assumption) | exact RowsZ.same (by assumption) (by first | assumption | rfl) | exact FzL.mk rfl rfl rfl (by assumption) (by first | assumption | rfl) (by decide) | (refine RowsZ.one ?_; cbv))))
          case hi =>
            refine ⟨by simp only; omega, by simp only; omega, ?_⟩
            rcases hwC with ⟨h3, h4, h5, h6⟩ | ⟨h3, h4⟩
            · refine .inl ⟨h3, fun x hx => ?_⟩
              simp only at hx
              rw [htk] at hx
              rcases List.mem_append.1 hx with h | h
              · exact h4 x h
              · simp at h; subst h
                exact ⟨h5, fun b hb => h6 b (by rw [List.take_of_length_le (by omega)]; exact hb)⟩
            · refine .inr ⟨h3, ?_⟩
              simp only
              rw [htk]
              rcases h4 with ⟨x, hx, hx2⟩ | h4
              · exact ⟨x, List.mem_append_left _ hx, hx2⟩
              · exact ⟨_, List.mem_append_right _ (by simp), h4⟩
    · refine hE _ _ _ ?_
      cbv
      have hwF : w = 0 ∨ w = 15 := hwA.imp (·.1) (·.1)
      have hwR : l.length ≤ 4096 → w = 15 := fun h => by
        rcases hwA with ⟨_, h2⟩ | h2
        · exfalso
          obtain ⟨x, hx, hx2⟩ := hB; exact hx2 (h2 x (by rw [List.take_of_length_le (by omega)]; exact hx))
        · exact h2.1
      simp only [eL]
      have l0 : wofNat 0 = 0 := by rw [hofNat]; rfl
      have c00 : wcmp .eql 0 0 = true := by rw [hcmp]; rfl
      have cE : ∀ x : Int, wcmp .eql x x = true := fun x => by rw [hcmp]; simp [cmpStd]
      repeat' (first
        | (exfalso; omega)
        | (simp only [cE]; cbv)
        | (simp only [hErr, cE]; cbv)
        | (simp only [l0, c00]; cbv)
        | exact ⟨_, Vw.same rfl, hR _ rfl⟩
        | (split <;> rename_i h9 <;> (try (simp only [hbin, hcmp, hun, hconv, hnot, hbeq, hmm, hscmp, hsadd, hslen, hsat, heqs, hofNat, binStd, cmpStd, unStd, scmpStd, maxI, Bool.not_eq_true', Bool.not_eq_false', decide_eq_true_eq, decide_eq_false_iff_not, Int.not_lt, Int.not_le, if_true, if_false, Bool.false_eq_true, beq_iff_eq, bne_iff_ne, ne_eq, Bool.not_eq_eq_eq_not, Bool.not_true, Bool.not_false, beq_eq_false_iff_ne, bne_eq_false_iff_eq, Int.ofNat_eq_natCast, Bool.not_not, not_true_eq_false, not_false_eq_true, reduceCtorEq] at h9)) <;> (try cbv)))
      all_goals (exfalso; omega)
  · obtain ⟨pk, epk⟩ : ∃ z, z = (packB l).map bRow := ⟨_, rfl⟩
    rw [← epk]
    have hupk : Up0 pk := by rw [epk]; exact up_b _
    cbv
    (obtain ⟨L, eL, L0, Ln⟩ : ∃ L : Int, wlen rs = L ∧ 0 ≤ L ∧ L.toNat = rs.length := ⟨(rs.length : Int), by rw [hlen], Int.natCast_nonneg _, Int.toNat_natCast _⟩)
    simp only [eL]
    refine Loop.data hw (S := Int × Int) (fun s => fr 83 [(0, .list 2 rs), (3, .list 1 pk), (4, .int .i64 E), (5, .int .i64 s.2), (22, .list 2 rs), (23, .int .i64 L), (24, .int .i64 s.1)]) (fun s => [])
      (fun s => 0 ≤ s.1 ∧ s.1 ≤ L ∧ WantA l s.1 s.2) (fun s => (L - s.1).toNat) (0, 0) (by (refine Wk.eqz (id) (by first | exact fun i _ j _ e => e | (simp only [List.length_cons, List.length_nil]; decide)) ?_; cbv; (repeat' (first | exact trivial | rfl | assumption | apply And.intro | (simp only [hbin, hcmp, hun, hconv, hnot, hbeq, hmm, hscmp, hsadd, hslen, hsat, heqs, hofNat, binStd, cmpStd, unStd, scmpStd, maxI, Bool.not_eq_true', Bool.not_eq_false', decide_eq_true_eq, decide_eq_false_iff_not, Int.not_lt, Int.not_le, if_true, if_false, Bool.false_eq_true, beq_iff_eq, bne_iff_ne, ne_eq, Bool.not_eq_eq_eq_not, Bool.not_true, Bool.not_false, beq_eq_false_iff_ne, bne_eq_false_iff_eq, Int.ofNat_eq_natCast, Bool.not_not, not_true_eq_false, not_false_eq_true, reduceCtorEq]; first | done | assumption) | exact RowsZ.same (by assumption) (by first | assumption | rfl) | exact FzL.mk rfl rfl rfl (by assumption) (by first | assumption | rfl) (by decide) | (refine RowsZ.one ?_; cbv))))) ⟨Int.le_refl _, L0, .inl ⟨rfl, fun e he => by simp at he⟩⟩ ?_
    rintro ⟨i, w⟩ hinv Q' hN hE hR'
    have hinv : 0 ≤ i ∧ i ≤ L ∧ WantA l i w := hinv
    cbv
    obtain ⟨hi0, hi1, hwA⟩ := hinv
    (split <;> rename_i hc <;> (try (simp only [hbin, hcmp, hun, hconv, hnot, hbeq, hmm, hscmp, hsadd, hslen, hsat, heqs, hofNat, binStd, cmpStd, unStd, scmpStd, maxI, Bool.not_eq_true', Bool.not_eq_false', decide_eq_true_eq, decide_eq_false_iff_not, Int.not_lt, Int.not_le, if_true, if_false, Bool.false_eq_true, beq_iff_eq, bne_iff_ne, ne_eq, Bool.not_eq_eq_eq_not, Bool.not_true, Bool.not_false, beq_eq_false_iff_ne, bne_eq_false_iff_eq, Int.ofNat_eq_natCast, Bool.not_not, not_true_eq_false, not_false_eq_true, reduceCtorEq] at hc)) <;> (try cbv))
    · obtain ⟨e, he⟩ : ∃ b, l[i.toNat]? = some b := ⟨_, List.getElem?_eq_getElem (show i.toNat < l.length by omega)⟩
      have hem := List.mem_of_getElem? he
      have hEb := hbig e hem
      obtain ⟨i2, ei2⟩ : ∃ z, z = i + 1 := ⟨_, rfl⟩
      have a4 : wbin .add .i64 i 1 = i2 := by rw [hbin, i_add (by omega) (by omega), ei2]
      have hT : (L - i2).toNat < (L - i).toNat := by omega
      have htk : l.take i2.toNat = l.take i.toNat ++ [e] := by rw [ei2]; exact take_nx hi0 he
      obtain ⟨c, bs⟩ := e
      obtain ⟨br, ebr⟩ : ∃ z, z = bs.map bsRow := ⟨_, rfl⟩
      have hubr : Up0 br := by rw [ebr]; exact up_bs bs
      have hbrl : br.length = bs.length := by rw [ebr]; simp
      have her : rs[i.toNat]? = some [.bool c, .list 1 br] := by rw [hrs, List.getElem?_map, he, ebr]; rfl
      have hbsl : bs.length ≤ 140737488355328 := hEb.1
      refine Idx.mk _ hi0 her ?_
      cbv
      (obtain ⟨B, eB, B0, Bn⟩ : ∃ L : Int, wlen br = L ∧ 0 ≤ L ∧ L.toNat = br.length := ⟨(br.length : Int), by rw [hlen], Int.natCast_nonneg _, Int.toNat_natCast _⟩)
      simp only [eB]
      obtain ⟨w1, ew1⟩ : ∃ z : Int, z = if 255 < B then 15 else w := ⟨_, rfl⟩
      have hwB : WantB l i (c, bs) bs 0 w1 := by
        rw [ew1]
        split
        · exact .inr ⟨rfl, .inr fun hR => by have := hR.1; simp only at this; omega⟩
        · rcases hwA with ⟨h1, h2⟩ | ⟨h1, h2⟩
          · exact .inl ⟨h1, h2, by omega, fun b hb => by simp at hb⟩
          · exact .inr ⟨h1, .inl h2⟩
      have g1 : 255 < B → 15 = w1 := fun h => by rw [ew1, if_pos h]
      have g2 : ¬ 255 < B → w = w1 := fun h => by rw [ew1, if_neg h]
      clear ew1
      (split <;> rename_i h1 <;> (try (simp only [hbin, hcmp, hun, hconv, hnot, hbeq, hmm, hscmp, hsadd, hslen, hsat, heqs, hofNat, binStd, cmpStd, unStd, scmpStd, maxI, Bool.not_eq_true', Bool.not_eq_false', decide_eq_true_eq, decide_eq_false_iff_not, Int.not_lt, Int.not_le, if_true, if_false, Bool.false_eq_true, beq_iff_eq, bne_iff_ne, ne_eq, Bool.not_eq_eq_eq_not, Bool.not_true, Bool.not_false, beq_eq_false_iff_ne, bne_eq_false_iff_eq, Int.ofNat_eq_natCast, Bool.not_not, not_true_eq_false, not_false_eq_true, reduceCtorEq] at h1)) <;> (try cbv))
      · have e1 : 15 = w1 := g1 (by omega)
        simp only [eB]
        refine Loop.data hw (S := Int × Int) (fun s => fr 83 [(0, .list 2 rs), (3, .list 1 pk), (4, .int .i64 E), (5, .int .i64 s.2), (22, .list 2 rs), (23, .int .i64 L), (24, .int .i64 i), (33, .list 1 br), (34, .int .i64 B), (35, .int .i64 s.1)]) (fun s => [])
          (fun s => 0 ≤ s.1 ∧ s.1 ≤ B ∧ WantB l i (c, bs) bs s.1 s.2) (fun s => (B - s.1).toNat) (0, w1) (by (refine Wk.eqz (id) (by first | exact fun i _ j _ e => e | (simp only [List.length_cons, List.length_nil]; decide)) ?_; cbv; (repeat' (first | exact trivial | rfl | assumption | apply And.intro | (simp only [hbin, hcmp, hun, hconv, hnot, hbeq, hmm, hscmp, hsadd, hslen, hsat, heqs, hofNat, binStd, cmpStd, unStd, scmpStd, maxI, Bool.not_eq_true', Bool.not_eq_false', decide_eq_true_eq, decide_eq_false_iff_not, Int.not_lt, Int.not_le, if_true, if_false, Bool.false_eq_true, beq_iff_eq, bne_iff_ne, ne_eq, Bool.not_eq_eq_eq_not, Bool.not_true, Bool.not_false, beq_eq_false_iff_ne, bne_eq_false_iff_eq, Int.ofNat_eq_natCast, Bool.not_not, not_true_eq_false, not_false_eq_true, reduceCtorEq]; first | done | assumption) | exact RowsZ.same (by assumption) (by first | assumption | rfl) | exact FzL.mk rfl rfl rfl (by assumption) (by first | assumption | rfl) (by decide) | (refine RowsZ.one ?_; cbv))))) ⟨Int.le_refl _, B0, hwB⟩ ?_
        rintro ⟨k, w2⟩ hinv2 Q2 hN2 hE2 hR2
        have hinv2 : 0 ≤ k ∧ k ≤ B ∧ WantB l i (c, bs) bs k w2 := hinv2
        cbv
        obtain ⟨hk0, hk1, hwC⟩ := hinv2
        (split <;> rename_i hk <;> (try (simp only [hbin, hcmp, hun, hconv, hnot, hbeq, hmm, hscmp, hsadd, hslen, hsat, heqs, hofNat, binStd, cmpStd, unStd, scmpStd, maxI, Bool.not_eq_true', Bool.not_eq_false', decide_eq_true_eq, decide_eq_false_iff_not, Int.not_lt, Int.not_le, if_true, if_false, Bool.false_eq_true, beq_iff_eq, bne_iff_ne, ne_eq, Bool.not_eq_eq_eq_not, Bool.not_true, Bool.not_false, beq_eq_false_iff_ne, bne_eq_false_iff_eq, Int.ofNat_eq_natCast, Bool.not_not, not_true_eq_false, not_false_eq_true, reduceCtorEq] at hk)) <;> (try cbv))
        · obtain ⟨b, hb⟩ : ∃ b, bs[k.toNat]? = some b := ⟨_, List.getElem?_eq_getElem (show k.toNat < bs.length by omega)⟩
          have hbm := List.mem_of_getElem? hb
          obtain ⟨bb, ebb⟩ : ∃ z, z = b.map bRow := ⟨_, rfl⟩
          have hubb : Up0 bb := by rw [ebb]; exact up_b b
          have hbbl : bb.length = b.length := by rw [ebb]; simp
          have hbr : br[k.toNat]? = some [.list 1 bb] := by rw [ebr, List.getElem?_map, hb, ebb]; rfl
          obtain ⟨k2, ek2⟩ : ∃ z, z = k + 1 := ⟨_, rfl⟩
          have a6 : wbin .add .i64 k 1 = k2 := by rw [hbin, i_add (by omega) (by omega), ek2]
          have hT2 : (B - k2).toNat < (B - k).toNat := by omega
          have htk2 : bs.take k2.toNat = bs.take k.toNat ++ [b] := by rw [ek2]; exact take_nx hk0 hb
          refine Idx.mk _ hk0 hbr ?_
          cbv
          (obtain ⟨D, eD, D0, Dn⟩ : ∃ L : Int, wlen bb = L ∧ 0 ≤ L ∧ L.toNat = bb.length := ⟨(bb.length : Int), by rw [hlen], Int.natCast_nonneg _, Int.toNat_natCast _⟩)
          simp only [eD]
          (split <;> rename_i h2 <;> (try (simp only [hbin, hcmp, hun, hconv, hnot, hbeq, hmm, hscmp, hsadd, hslen, hsat, heqs, hofNat, binStd, cmpStd, unStd, scmpStd, maxI, Bool.not_eq_true', Bool.not_eq_false', decide_eq_true_eq, decide_eq_false_iff_not, Int.not_lt, Int.not_le, if_true, if_false, Bool.false_eq_true, beq_iff_eq, bne_iff_ne, ne_eq, Bool.not_eq_eq_eq_not, Bool.not_true, Bool.not_false, beq_eq_false_iff_ne, bne_eq_false_iff_eq, Int.ofNat_eq_natCast, Bool.not_not, not_true_eq_false, not_false_eq_true, reduceCtorEq] at h2)) <;> (try cbv))
          · simp only [a6]
            refine hN2 (k2, 15) _ _ ?hx ?hi hT2
            case hx => (refine Wk.eqz (id) (by first | exact fun i _ j _ e => e | (simp only [List.length_cons, List.length_nil]; decide)) ?_; cbv; (repeat' (first | exact trivial | rfl | assumption | apply And.intro | (simp only [hbin, hcmp, hun, hconv, hnot, hbeq, hmm, hscmp, hsadd, hslen, hsat, heqs, hofNat, binStd, cmpStd, unStd, scmpStd, maxI, Bool.not_eq_true', Bool.not_eq_false', decide_eq_true_eq, decide_eq_false_iff_not, Int.not_lt, Int.not_le, if_true, if_false, Bool.false_eq_true, beq_iff_eq, bne_iff_ne, ne_eq, Bool.not_eq_eq_eq_not, Bool.not_true, Bool.not_false, beq_eq_false_iff_ne, bne_eq_false_iff_eq, Int.ofNat_eq_natCast, Bool.not_not, not_true_eq_false, not_false_eq_true, reduceCtorEq]; first | done | assumption) | exact RowsZ.same (by assumption) (by first | assumption | rfl) | exact FzL.mk rfl rfl rfl (by assumption) (by first | assumption | rfl) (by decide) | (refine RowsZ.one ?_; cbv))))
            case hi => exact ⟨by simp only; omega, by simp only; omega, .inr ⟨rfl, .inr fun hR => by have := hR.2 b hbm; omega⟩⟩
          · simp only [a6]
            refine hN2 (k2, w2) _ _ ?hx ?hi hT2
            case hx => (refine Wk.eqz (id) (by first | exact fun i _ j _ e => e | (simp only [List.length_cons, List.length_nil]; decide)) ?_; cbv; (repeat' (first | exact trivial | rfl | assumption | apply And.intro | (simp only [hbin, hcmp, hun, hconv, hnot, hbeq, hmm, hscmp, hsadd, hslen, hsat, heqs, hofNat, binStd, cmpStd, unStd, scmpStd, maxI, Bool.not_eq_true', Bool.not_eq_false', decide_eq_true_eq, decide_eq_false_iff_not, Int.not_lt, Int.not_le, if_true, if_false, Bool.false_eq_true, beq_iff_eq, bne_iff_ne, ne_eq, Bool.not_eq_eq_eq_not, Bool.not_true, Bool.not_false, beq_eq_false_iff_ne, bne_eq_false_iff_eq, Int.ofNat_eq_natCast, Bool.not_not, not_true_eq_false, not_false_eq_true, reduceCtorEq]; first | done | assumption) | exact RowsZ.same (by assumption) (by first | assumption | rfl) | exact FzL.mk rfl rfl rfl (by assumption) (by first | assumption | rfl) (by decide) | (refine RowsZ.one ?_; cbv))))
            case hi =>
              refine ⟨by simp only; omega, by simp only; omega, ?_⟩
              rcases hwC with ⟨h3, h4, h5, h6⟩ | h3
              · refine .inl ⟨h3, h4, h5, fun x hx => ?_⟩
                simp only at hx
                rw [htk2] at hx
                rcases List.mem_append.1 hx with h | h
                · exact h6 x h
                · simp at h; subst h; omega
              · exact .inr h3
        · refine hE2 _ _ _ ?_
          cbv
          simp only [a4]
          refine hN (i2, w2) _ _ ?hx ?hi hT
          case hx => (refine Wk.eqz (id) (by first | exact fun i _ j _ e => e | (simp only [List.length_cons, List.length_nil]; decide)) ?_; cbv; (repeat' (first | exact trivial | rfl | assumption | apply And.intro | (simp only [hbin, hcmp, hun, hconv, hnot, hbeq, hmm, hscmp, hsadd, hslen, hsat, heqs, hofNat, binStd, cmpStd, unStd, scmpStd, maxI, Bool.not_eq_true', Bool.not_eq_false', decide_eq_true_eq, decide_eq_false_iff_not, Int.not_lt, Int.not_le, if_true, if_false, Bool.false_eq_true, beq_iff_eq, bne_iff_ne, ne_eq, Bool.not_eq_eq_eq_not, Bool.not_true, Bool.not_false, beq_eq_false_iff_ne, bne_eq_false_iff_eq, Int.ofNat_eq_natCast, Bool.not_not, not_true_eq_false, not_false_eq_true, reduceCtorEq]; first | done | assumption) | exact RowsZ.same (by assumption) (by first | assumption | rfl) | exact FzL.mk rfl rfl rfl (by assumption) (by first | assumption | rfl) (by decide) | (refine RowsZ.one ?_; cbv))))
          case hi =>
            refine ⟨by simp only; omega, by simp only; omega, ?_⟩
            rcases hwC with ⟨h3, h4, h5, h6⟩ | ⟨h3, h4⟩
            · refine .inl ⟨h3, fun x hx => ?_⟩
              simp only at hx
              rw [htk] at hx
              rcases List.mem_append.1 hx with h | h
              · exact h4 x h
              · simp at h; subst h
                exact ⟨h5, fun b hb => h6 b (by rw [List.take_of_length_le (by omega)]; exact hb)⟩
            · refine .inr ⟨h3, ?_⟩
              simp only
              rw [htk]
              rcases h4 with ⟨x, hx, hx2⟩ | h4
              · exact ⟨x, List.mem_append_left _ hx, hx2⟩
              · exact ⟨_, List.mem_append_right _ (by simp), h4⟩
      · have e1 : w = w1 := g2 (by omega)
        simp only [eB]
        refine Loop.data hw (S := Int × Int) (fun s => fr 83 [(0, .list 2 rs), (3, .list 1 pk), (4, .int .i64 E), (5, .int .i64 s.2), (22, .list 2 rs), (23, .int .i64 L), (24, .int .i64 i), (33, .list 1 br), (34, .int .i64 B), (35, .int .i64 s.1)]) (fun s => [])
          (fun s => 0 ≤ s.1 ∧ s.1 ≤ B ∧ WantB l i (c, bs) bs s.1 s.2) (fun s => (B - s.1).toNat) (0, w1) (by (refine Wk.eqz (id) (by first | exact fun i _ j _ e => e | (simp only [List.length_cons, List.length_nil]; decide)) ?_; cbv; (repeat' (first | exact trivial | rfl | assumption | apply And.intro | (simp only [hbin, hcmp, hun, hconv, hnot, hbeq, hmm, hscmp, hsadd, hslen, hsat, heqs, hofNat, binStd, cmpStd, unStd, scmpStd, maxI, Bool.not_eq_true', Bool.not_eq_false', decide_eq_true_eq, decide_eq_false_iff_not, Int.not_lt, Int.not_le, if_true, if_false, Bool.false_eq_true, beq_iff_eq, bne_iff_ne, ne_eq, Bool.not_eq_eq_eq_not, Bool.not_true, Bool.not_false, beq_eq_false_iff_ne, bne_eq_false_iff_eq, Int.ofNat_eq_natCast, Bool.not_not, not_true_eq_false, not_false_eq_true, reduceCtorEq]; first | done | assumption) | exact RowsZ.same (by assumption) (by first | assumption | rfl) | exact FzL.mk rfl rfl rfl (by assumption) (by first | assumption | rfl) (by decide) | (refine RowsZ.one ?_; cbv))))) ⟨Int.le_refl _, B0, hwB⟩ ?_
        rintro ⟨k, w2⟩ hinv2 Q2 hN2 hE2 hR2
        have hinv2 : 0 ≤ k ∧ k ≤ B ∧ WantB l i (c, bs) bs k w2 := hinv2
        cbv
        obtain ⟨hk0, hk1, hwC⟩ := hinv2
        (split <;> rename_i hk <;> (try (simp only [hbin, hcmp, hun, hconv, hnot, hbeq, hmm, hscmp, hsadd, hslen, hsat, heqs, hofNat, binStd, cmpStd, unStd, scmpStd, maxI, Bool.not_eq_true', Bool.not_eq_false', decide_eq_true_eq, decide_eq_false_iff_not, Int.not_lt, Int.not_le, if_true, if_false, Bool.false_eq_true, beq_iff_eq, bne_iff_ne, ne_eq, Bool.not_eq_eq_eq_not, Bool.not_true, Bool.not_false, beq_eq_false_iff_ne, bne_eq_false_iff_eq, Int.ofNat_eq_natCast, Bool.not_not, not_true_eq_false, not_false_eq_true, reduceCtorEq] at hk)) <;> (try cbv))
        · obtain ⟨b, hb⟩ : ∃ b, bs[k.toNat]? = some b := ⟨_, List.getElem?_eq_getElem (show k.toNat < bs.length by omega)⟩
          have hbm := List.mem_of_getElem? hb
          obtain ⟨bb, ebb⟩ : ∃ z, z = b.map bRow := ⟨_, rfl⟩
          have hubb : Up0 bb := by rw [ebb]; exact up_b b
          have hbbl : bb.length = b.length := by rw [ebb]; simp
          have hbr : br[k.toNat]? = some [.list 1 bb] := by rw [ebr, List.getElem?_map, hb, ebb]; rfl
          obtain ⟨k2, ek2⟩ : ∃ z, z = k + 1 := ⟨_, rfl⟩
          have a6 : wbin .add .i64 k 1 = k2 := by rw [hbin, i_add (by omega) (by omega), ek2]
          have hT2 : (B - k2).toNat < (B - k).toNat := by omega
          have htk2 : bs.take k2.toNat = bs.take k.toNat ++ [b] := by rw [ek2]; exact take_nx hk0 hb
          refine Idx.mk _ hk0 hbr ?_
          cbv
          (obtain ⟨D, eD, D0, Dn⟩ : ∃ L : Int, wlen bb = L ∧ 0 ≤ L ∧ L.toNat = bb.length := ⟨(bb.length : Int), by rw [hlen], Int.natCast_nonneg _, Int.toNat_natCast _⟩)
          simp only [eD]
          (split <;> rename_i h2 <;> (try (simp only [hbin, hcmp, hun, hconv, hnot, hbeq, hmm, hscmp, hsadd, hslen, hsat, heqs, hofNat, binStd, cmpStd, unStd, scmpStd, maxI, Bool.not_eq_true', Bool.not_eq_false', decide_eq_true_eq, decide_eq_false_iff_not, Int.not_lt, Int.not_le, if_true, if_false, Bool.false_eq_true, beq_iff_eq, bne_iff_ne, ne_eq, Bool.not_eq_eq_eq_not, Bool.not_true, Bool.not_false, beq_eq_false_iff_ne, bne_eq_false_iff_eq, Int.ofNat_eq_natCast, Bool.not_not, not_true_eq_false, not_false_eq_true, reduceCtorEq] at h2)) <;> (try cbv))
          · simp only [a6]
            refine hN2 (k2, 15) _ _ ?hx ?hi hT2
            case hx => (refine Wk.eqz (id) (by first | exact fun i _ j _ e => e | (simp only [List.length_cons, List.length_nil]; decide)) ?_; cbv; (repeat' (first | exact trivial | rfl | assumption | apply And.intro | (simp only [hbin, hcmp, hun, hconv, hnot, hbeq, hmm, hscmp, hsadd, hslen, hsat, heqs, hofNat, binStd, cmpStd, unStd, scmpStd, maxI, Bool.not_eq_true', Bool.not_eq_false', decide_eq_true_eq, decide_eq_false_iff_not, Int.not_lt, Int.not_le, if_true, if_false, Bool.false_eq_true, beq_iff_eq, bne_iff_ne, ne_eq, Bool.not_eq_eq_eq_not, Bool.not_true, Bool.not_false, beq_eq_false_iff_ne, bne_eq_false_iff_eq, Int.ofNat_eq_natCast, Bool.not_not, not_true_eq_false, not_false_eq_true, reduceCtorEq]; first | done | assumption) | exact RowsZ.same (by assumption) (by first | assumption | rfl) | exact FzL.mk rfl rfl rfl (by assumption) (by first | assumption | rfl) (by decide) | (refine RowsZ.one ?_; cbv))))
            case hi => exact ⟨by simp only; omega, by simp only; omega, .inr ⟨rfl, .inr fun hR => by have := hR.2 b hbm; omega⟩⟩
          · simp only [a6]
            refine hN2 (k2, w2) _ _ ?hx ?hi hT2
            case hx => (refine Wk.eqz (id) (by first | exact fun i _ j _ e => e | (simp only [List.length_cons, List.length_nil]; decide)) ?_; cbv; (repeat' (first | exact trivial | rfl | assumption | apply And.intro | (simp only [hbin, hcmp, hun, hconv, hnot, hbeq, hmm, hscmp, hsadd, hslen, hsat, heqs, hofNat, binStd, cmpStd, unStd, scmpStd, maxI, Bool.not_eq_true', Bool.not_eq_false', decide_eq_true_eq, decide_eq_false_iff_not, Int.not_lt, Int.not_le, if_true, if_false, Bool.false_eq_true, beq_iff_eq, bne_iff_ne, ne_eq, Bool.not_eq_eq_eq_not, Bool.not_true, Bool.not_false, beq_eq_false_iff_ne, bne_eq_false_iff_eq, Int.ofNat_eq_natCast, Bool.not_not, not_true_eq_false, not_false_eq_true, reduceCtorEq]; first | done | assumption) | exact RowsZ.same (by assumption) (by first | assumption | rfl) | exact FzL.mk rfl rfl rfl (by assumption) (by first | assumption | rfl) (by decide) | (refine RowsZ.one ?_; cbv))))
            case hi =>
              refine ⟨by simp only; omega, by simp only; omega, ?_⟩
              rcases hwC with ⟨h3, h4, h5, h6⟩ | h3
              · refine .inl ⟨h3, h4, h5, fun x hx => ?_⟩
                simp only at hx
                rw [htk2] at hx
                rcases List.mem_append.1 hx with h | h
                · exact h6 x h
                · simp at h; subst h; omega
              · exact .inr h3
        · refine hE2 _ _ _ ?_
          cbv
          simp only [a4]
          refine hN (i2, w2) _ _ ?hx ?hi hT
          case hx => (refine Wk.eqz (id) (by first | exact fun i _ j _ e => e | (simp only [List.length_cons, List.length_nil]; decide)) ?_; cbv; (repeat' (first | exact trivial | rfl | assumption | apply And.intro | (simp only [hbin, hcmp, hun, hconv, hnot, hbeq, hmm, hscmp, hsadd, hslen, hsat, heqs, hofNat, binStd, cmpStd, unStd, scmpStd, maxI, Bool.not_eq_true', Bool.not_eq_false', decide_eq_true_eq, decide_eq_false_iff_not, Int.not_lt, Int.not_le, if_true, if_false, Bool.false_eq_true, beq_iff_eq, bne_iff_ne, ne_eq, Bool.not_eq_eq_eq_not, Bool.not_true, Bool.not_false, beq_eq_false_iff_ne, bne_eq_false_iff_eq, Int.ofNat_eq_natCast, Bool.not_not, not_true_eq_false, not_false_eq_true, reduceCtorEq]; first | done | assumption) | exact RowsZ.same (by assumption) (by first | assumption | rfl) | exact FzL.mk rfl rfl rfl (by assumption) (by first | assumption | rfl) (by decide) | (refine RowsZ.one ?_; cbv))))
          case hi =>
            refine ⟨by simp only; omega, by simp only; omega, ?_⟩
            rcases hwC with ⟨h3, h4, h5, h6⟩ | ⟨h3, h4⟩
            · refine .inl ⟨h3, fun x hx => ?_⟩
              simp only at hx
              rw [htk] at hx
              rcases List.mem_append.1 hx with h | h
              · exact h4 x h
              · simp at h; subst h
                exact ⟨h5, fun b hb => h6 b (by rw [List.take_of_length_le (by omega)]; exact hb)⟩
            · refine .inr ⟨h3, ?_⟩
              simp only
              rw [htk]
              rcases h4 with ⟨x, hx, hx2⟩ | h4
              · exact ⟨x, List.mem_append_left _ hx, hx2⟩
              · exact ⟨_, List.mem_append_right _ (by simp), h4⟩
    · refine hE _ _ _ ?_
      cbv
      simp only [eL]
      have hw0 : w = 0 := by
        rcases hwA with h | ⟨_, x, hx, hx2⟩
        · exact h.1
        · exact absurd (hB x (List.mem_of_mem_take hx)) hx2
      rw [hw0]
      rw [hErr]
      have c1 : wcmp .gtr L 4096 = false := by rw [hcmp]; simp [cmpStd]; omega
      have c2 : wcmp .neq 0 0 = false := by rw [hcmp]; rfl
      have c00 : wcmp .eql 0 0 = true := by rw [hcmp]; rfl
      simp only [c1]
      cbv
      simp only [c2]
      cbv
      obtain ⟨qs, eqs⟩ : ∃ z, z = l.map reRow := ⟨_, rfl⟩
      have huqs : Up0 qs := by rw [eqs]; exact up_re l
      refine Call.stepE (by rw [← hP]; exact e_open l hok hsz hA hB pk epk rs hrs) (by exact Up0.one hupk rfl) ?_
      cbv
      simp only [c00]
      cbv
      obtain ⟨sb, esb⟩ : ∃ z, z = baOf (packB l) := ⟨_, rfl⟩
      have hpok : BytesOk (packB l) := by
        intro x hx
        unfold packB at hx
        rcases List.mem_append.1 hx with h | h
        · rcases List.mem_append.1 h with h | h
          · exact hdB_ok hA x h
          · obtain ⟨e, he, h2⟩ := List.mem_flatMap.1 h
            exact put1_ok (hok e he) (hB e he) x h2
        · exact sumB_ok _ x h
      have hsb : pk = bytesRows sb := by rw [epk, esb]; exact ba_rows hpok
      have c3 : wscmp .eql sb sb = true := by rw [hscmp]; simp [scmpStd]
      have hrefs := e_refs26 l (by omega) rs qs hrs eqs
      have hpk := e_rpack l hok hsz hA hB qs pk eqs epk
      have hsame := e_same26 l hok hB (by omega) rs qs hrs eqs
      repeat' (first
        | (refine And.intro ?_ ?_)
        | (refine QCal.stepE (by rw [← hP]; exact hrefs) (by exact Up0.one hu rfl) ?_; cbv)
        | (refine QCal.stepE (by rw [← hP]; exact hpk) (by exact Up0.one huqs rfl) ?_; cbv)
        | (refine QCal.stepE (by rw [← hP]; exact hsame) (by exact Up0.one hu (Up0.one huqs rfl)) ?_; cbv)
        | (refine Call.stepE (by rw [← hP]; exact hrefs) (by exact Up0.one hu rfl) ?_; cbv)
        | (refine Call.stepE (by rw [← hP]; exact hpk) (by exact Up0.one huqs rfl) ?_; cbv)
        | (refine Call.stepE (by rw [← hP]; exact hsame) (by exact Up0.one hu (Up0.one huqs rfl)) ?_; cbv)
        | (refine ToS.mk sb rfl hsb ?_; cbv)
        | (simp only [c3]; cbv)
        | (simp only [c00]; cbv)
        | exact ⟨_, Vw.same rfl, hR _ rfl⟩)
end Go.Proofs.Ytekhigoblbkiaaa

/- What a configuration is. -/
set_option linter.unusedVariables false
set_option linter.unusedSimpArgs false
namespace Go.Proofs.Ytekhigoblbkiaaa
open Go Go.RowKit Go.Eng
set_option maxRecDepth 100000
theorem ok_int {k : IntKind} {l : List Sh} {xs : List AV} (h : OkL (.int k :: l) xs) : ∃ n y, xs = .int k n :: y ∧ (Lit.int k n).wf = true ∧ OkL l y := by
  unfold OkL at h
  obtain ⟨x, y, rfl, h1, h2⟩ := h
  unfold Sh.Ok at h1
  obtain ⟨n, rfl, hn⟩ := h1
  exact ⟨n, y, rfl, hn, h2⟩
theorem ok_bool {l : List Sh} {xs : List AV} (h : OkL (.bool :: l) xs) : ∃ b y, xs = .bool b :: y ∧ OkL l y := by
  unfold OkL at h
  obtain ⟨x, y, rfl, h1, h2⟩ := h
  unfold Sh.Ok at h1
  obtain ⟨n, rfl⟩ := h1
  exact ⟨n, y, rfl, h2⟩
theorem ok_list {z : Nat} {row l : List Sh} {xs : List AV} (h : OkL (.list z row :: l) xs) : ∃ es y, xs = .list z es :: y ∧ es.length ≤ maxS ∧ (∀ r, r ∈ es → OkL row r) ∧ OkL l y := by
  unfold OkL at h
  obtain ⟨x, y, rfl, h1, h2⟩ := h
  unfold Sh.Ok at h1
  obtain ⟨n, rfl, h3, h4⟩ := h1
  exact ⟨n, y, rfl, h3, h4, h2⟩
theorem ok_nil {xs : List AV} (h : OkL [] xs) : xs = [] := by unfold OkL at h; exact h
theorem wf64 {n : Int} (h : (Lit.int .i64 n).wf = true) : -9223372036854775808 ≤ n ∧ n ≤ 9223372036854775807 := by
  simp [Lit.wf, IntKind.min, IntKind.max, IntKind.signed, IntKind.bits] at h
  omega
theorem ty_conf (x : AV) (h : TyV Try.prog 8 67 x) : ∃ c0 c1 c2 c3 c4 c5 c6 c7 c8 c9 c10 c11 c12 c13 : Int, x = .agg [.int .i64 c0, .int .i64 c1, .int .i64 c2, .int .i64 c3, .int .i64 c4, .int .i64 c5, .int .i64 c6, .int .i64 c7, .int .i64 c8, .int .i64 c9, .int .i64 c10, .int .i64 c11, .int .i64 c12, .int .i64 c13] := by
  obtain ⟨cs, rfl, hx⟩ := h.agg (by kernel_rfl) (show shOf Try.prog 8 67 = some [.int .i64, .int .i64, .int .i64, .int .i64, .int .i64, .int .i64, .int .i64, .int .i64, .int .i64, .int .i64, .int .i64, .int .i64, .int .i64, .int .i64] from by kernel_rfl)
  obtain ⟨c0, _, rfl, _, hx⟩ := ok_int hx
  obtain ⟨c1, _, rfl, _, hx⟩ := ok_int hx
  obtain ⟨c2, _, rfl, _, hx⟩ := ok_int hx
  obtain ⟨c3, _, rfl, _, hx⟩ := ok_int hx
  obtain ⟨c4, _, rfl, _, hx⟩ := ok_int hx
  obtain ⟨c5, _, rfl, _, hx⟩ := ok_int hx
  obtain ⟨c6, _, rfl, _, hx⟩ := ok_int hx
  obtain ⟨c7, _, rfl, _, hx⟩ := ok_int hx
  obtain ⟨c8, _, rfl, _, hx⟩ := ok_int hx
  obtain ⟨c9, _, rfl, _, hx⟩ := ok_int hx
  obtain ⟨c10, _, rfl, _, hx⟩ := ok_int hx
  obtain ⟨c11, _, rfl, _, hx⟩ := ok_int hx
  obtain ⟨c12, _, rfl, _, hx⟩ := ok_int hx
  obtain ⟨c13, _, rfl, _, hx⟩ := ok_int hx
  obtain rfl := ok_nil hx
  exact ⟨c0, c1, c2, c3, c4, c5, c6, c7, c8, c9, c10, c11, c12, c13, rfl⟩
end Go.Proofs.Ytekhigoblbkiaaa

/- What an int64 is. -/
set_option linter.unusedVariables false
set_option maxRecDepth 100000
namespace Go.Proofs.Ytekhigoblbkiaaa
open Go Go.RowKit Go.Eng
theorem ty_i64 (x : AV) (h : TyV Try.prog 8 2 x) : ∃ n, x = .int .i64 n ∧ -9223372036854775808 ≤ n ∧ n ≤ 9223372036854775807 := by
  have h := h.one (by kernel_rfl) (show shOf Try.prog 8 2 = some [.int .i64] from by kernel_rfl)
  unfold Sh.Ok at h
  obtain ⟨n, rfl, hn⟩ := h
  exact ⟨n, rfl, wf64 hn⟩
end Go.Proofs.Ytekhigoblbkiaaa

/- What entries are. -/
set_option linter.unusedVariables false
set_option maxRecDepth 100000
namespace Go.Proofs.Ytekhigoblbkiaaa
open Go Go.RowKit Go.Eng
theorem rows_ofP {D : Type} {f : D → List AV} {p : D → Prop} : ∀ {es : List (List AV)}, (∀ r, r ∈ es → ∃ d, r = f d ∧ p d) → ∃ ds : List D, es = ds.map f ∧ ∀ d, d ∈ ds → p d
  | [], _ => ⟨[], rfl, fun d hd => by cases hd⟩
  | r :: es, h => by
    obtain ⟨d, h1, h2⟩ := h r (by simp)
    obtain ⟨ds, h3, h4⟩ := rows_ofP (es := es) fun x hx => h x (by simp [hx])
    exact ⟨d :: ds, by rw [h1, h3]; rfl, fun x hx => by
      rcases List.mem_cons.1 hx with rfl | hx
      · exact h2
      · exact h4 x hx⟩
theorem wf_u8 {n : Int} (h : (Lit.int .u8 n).wf = true) : 0 ≤ n ∧ n ≤ 255 := by
  simp [Lit.wf, IntKind.min, IntKind.max, IntKind.bits, IntKind.signed] at h
  omega
theorem ty_bytes {l : List Sh} {xs : List AV} (h : OkL (.list 1 [.int .u8] :: l) xs) : ∃ (b : List Int) (y : List AV), xs = .list 1 (b.map bRow) :: y ∧ b.length ≤ maxS ∧ BytesOk b ∧ OkL l y := by
  obtain ⟨es, y, rfl, hl, hr, k⟩ := ok_list h
  obtain ⟨b, rfl, hb⟩ := rows_ofP (f := bRow) (p := fun b => 0 ≤ b ∧ b ≤ 255) (es := es) fun r hrr => by
    obtain ⟨n, _, rfl, hw, k1⟩ := ok_int (hr r hrr)
    obtain rfl := ok_nil k1
    exact ⟨n, rfl, wf_u8 hw⟩
  exact ⟨b, y, rfl, by simpa using hl, hb, k⟩
theorem ty_lists {l : List Sh} {xs : List AV} (h : OkL (.list 1 [.list 1 [.int .u8]] :: l) xs) : ∃ (b : List (List Int)) (y : List AV), xs = .list 1 (b.map bsRow) :: y ∧ b.length ≤ maxS ∧ (∀ x, x ∈ b → BytesOk x ∧ x.length ≤ maxS) ∧ OkL l y := by
  obtain ⟨es, y, rfl, hl, hr, k⟩ := ok_list h
  obtain ⟨b, rfl, hb⟩ := rows_ofP (f := bsRow) (p := fun x => BytesOk x ∧ x.length ≤ maxS) (es := es) fun r hrr => by
    obtain ⟨b, _, rfl, h1, h2, k1⟩ := ty_bytes (hr r hrr)
    obtain rfl := ok_nil k1
    exact ⟨b, rfl, h2, h1⟩
  exact ⟨b, y, rfl, by simpa using hl, hb, k⟩
theorem ty_entries (x : AV) (h : TyV Try.prog 8 22 x) : ∃ l : List En, x = .list 2 (l.map enRow) ∧ (∀ e, e ∈ l → EnOk e ∧ EnBig e) ∧ l.length ≤ 140737488355328 := by
  have k0 := h.one (by kernel_rfl) (show shOf Try.prog 8 22 = some [.list 2 [.bool, .list 1 [.list 1 [.int .u8]]]] by kernel_rfl)
  have k0 : OkL [.list 2 [.bool, .list 1 [.list 1 [.int .u8]]]] [x] := by
    unfold OkL
    exact ⟨x, [], rfl, k0, by unfold OkL; rfl⟩
  obtain ⟨es, _, e1, hl, hr, k1⟩ := ok_list k0
  obtain rfl := ok_nil k1
  simp only [List.cons.injEq, and_true] at e1
  subst e1
  obtain ⟨l, rfl, hp⟩ := rows_ofP (f := enRow) (p := fun e => EnOk e ∧ EnBig e) (es := es) fun r hrr => by
    obtain ⟨c, _, rfl, k2⟩ := ok_bool (hr r hrr)
    obtain ⟨bs, _, rfl, h1, h2, k3⟩ := ty_lists k2
    obtain rfl := ok_nil k3
    unfold maxS at h1 h2
    exact ⟨(c, bs), rfl, fun b hb => (h2 b hb).1, by simp only; omega, fun b hb => by have := (h2 b hb).2; omega⟩
  unfold maxS at hl
  exact ⟨l, rfl, hp, by simp at hl; omega⟩
end Go.Proofs.Ytekhigoblbkiaaa

/- BoxPacks, joined. -/
set_option linter.unusedVariables false
set_option maxRecDepth 100000
namespace Go.Proofs.Ytekhigoblbkiaaa
open Go Go.RowKit Go.Eng
theorem walk_BoxPacks (x0 : AV) (h0 : TyV Try.prog 8 22 x0) : PCalls Try.prog 3 [x0] (fun r => r = .bool true) := by
  obtain ⟨l, rfl, hp, hl⟩ := ty_entries x0 h0
  exact e_bpacks l (fun e he => (hp e he).1) (fun e he => (hp e he).2) hl _ rfl
end Go.Proofs.Ytekhigoblbkiaaa

