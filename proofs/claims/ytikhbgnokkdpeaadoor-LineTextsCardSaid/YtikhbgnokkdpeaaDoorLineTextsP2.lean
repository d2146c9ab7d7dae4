/- Texts of the proof of LineTexts, joined by wip/tools/pack.py. -/
import Derived.Test.YtikhbgnokkdpeaaDoorLineTextsP1
import Derived.KernelRfl
import Derived.Test.YtikhbgnokkdpeaaDoorEng28
import Derived.MakeChecks
import Derived.Test.YtikhbgnokkdpeaaDoorRows
/- A report's line as the document has it, by the engine. Printed by genrtext.py. -/
set_option linter.unusedVariables false
set_option linter.unusedSimpArgs false
namespace Go.Proofs.YtikhbgnokkdpeaaDoor
open Go Go.RowKit Go.Eng
set_option maxRecDepth 100000
set_option maxHeartbeats 8000000 in
theorem e_rtext5 (o : Lr) (h : LrOk o) (hs : LrSmall o) (c m g fit lo hi slo shi est s0 s1 f0 f1 f2 f3 f4 f5 f6 : Int) (rs : List (List Int)) (e1 : o.c = c) (e2 : o.m = m) (e3 : o.g = g) (e4 : o.fit = fit) (e5 : o.lo = lo) (e6 : o.hi = hi) (e7 : o.slo = slo) (e8 : o.shi = shi) (e9 : o.est = est) (e10 : o.s0 = s0) (e11 : o.s1 = s1) (e12 : o.rs = rs) (hf : FlOk o f0 f1 f2 f3 f4 f5 f6) (hm : 4 < m) (qs : List (List AV)) (hqs : qs = rs.map (fun r => [AV.list 1 (r.map nxRow)])) (t : ByteArray) (et : t = lineB o) :
    PCalls Tryd.prog 7 [.agg [.int .i64 c, .int .i64 m, .int .i64 g, .int .i64 fit, .int .i64 lo, .int .i64 hi, .int .i64 slo, .int .i64 shi, .int .i64 est, .list 1 qs, .int .i64 s0, .int .i64 s1, .int .i64 f0, .int .i64 f1, .int .i64 f2, .int .i64 f3, .int .i64 f4, .int .i64 f5, .int .i64 f6]] (· = .str t) := by
  have hc : In64 c := e1 ▸ h.c
  have hg : In64 g := e3 ▸ h.g
  have hfit : In64 fit := e4 ▸ h.fit
  have hlo : In64 lo := e5 ▸ h.lo
  have hhi : In64 hi := e6 ▸ h.hi
  have hslo : In64 slo := e7 ▸ h.slo
  have hshi : In64 shi := e8 ▸ h.shi
  have hest : In64 est := e9 ▸ h.est
  have hs0 : In64 s0 := e10 ▸ h.s0
  have hs1 : In64 s1 := e11 ▸ h.s1
  have hrs : ∀ r, r ∈ rs → ∀ n, n ∈ r → In64 n := e12 ▸ h.rs
  have huq : Up0 qs := by rw [hqs]; exact up_map (f := fun r => [AV.list 1 (r.map nxRow)]) (fun d => Up0.one (up_nx d) rfl) rs
  obtain ⟨ways, eways⟩ : ∃ w, w = if g = 0 then [] else waysL rs := ⟨_, rfl⟩
  have nways : ways.length ≤ 22001000 := by
    rw [eways]; split
    · simp
    · rename_i hg0; exact len_ways hrs (by have := hs.n (by rw [e3]; exact hg0); rw [e12] at this; exact this) (by have := hs.r (by rw [e3]; exact hg0); rw [e12] at this; exact this)
  have nm : (modeL m).length ≤ 9 := by unfold modeL; (repeat' split) <;> simp
  obtain ⟨Lt0, eLt0⟩ : ∃ z, z = Lib.itoa c := ⟨_, rfl⟩
  obtain ⟨t0, et0⟩ : ∃ z, z = bk Lt0 := ⟨_, rfl⟩
  have nt0 : Lt0.length ≤ 21 := by rw [eLt0]; exact len_itoa hc
  obtain ⟨bm, ebm⟩ : ∃ z, z = bk (modeL m) := ⟨_, rfl⟩
  obtain ⟨bg, ebg⟩ : ∃ z, z = bk (Lib.itoa g) := ⟨_, rfl⟩
  obtain ⟨bp, ebp⟩ : ∃ z, z = bk (endsL lo hi) := ⟨_, rfl⟩
  obtain ⟨be, ebe⟩ : ∃ z, z = bk (Lib.itoa est) := ⟨_, rfl⟩
  obtain ⟨bw, ebw⟩ : ∃ z, z = bk ways := ⟨_, rfl⟩
  obtain ⟨bs, ebs⟩ : ∃ z, z = bk (endsL slo shi) := ⟨_, rfl⟩
  obtain ⟨bf, ebf⟩ : ∃ z, z = bk (Lib.itoa fit) := ⟨_, rfl⟩
  obtain ⟨bs0, ebs0⟩ : ∃ z, z = bk (Lib.itoa s0) := ⟨_, rfl⟩
  obtain ⟨bs1, ebs1⟩ : ∃ z, z = bk (Lib.itoa s1) := ⟨_, rfl⟩
  have d0 := e_dig c hc.1 hc.2 t0 (by rw [et0, eLt0]; rfl)
  have dg := e_dig g hg.1 hg.2 bg ebg
  have dp := e_rends lo hi hlo hhi bp ebp
  have de := e_dig est hest.1 hest.2 be ebe
  have ds := e_rends slo shi hslo hshi bs ebs
  have df := e_dig fit hfit.1 hfit.2 bf ebf
  have ds0 := e_dig s0 hs0.1 hs0.2 bs0 ebs0
  have ds1 := e_dig s1 hs1.1 hs1.2 bs1 ebs1
  have dw : g ≠ 0 → PCalls Tryd.prog 16 [.list 1 qs] (· = .str bw) := fun hg0 => e_ways rs hrs (by have := hs.n (by rw [e3]; exact hg0); rw [e12] at this; exact this) (by have := hs.r (by rw [e3]; exact hg0); rw [e12] at this; exact this) qs hqs bw (by rw [ebw, eways, if_neg hg0])
  have nitoa : ∀ n, In64 n → (Lib.itoa n).length ≤ 21 := fun n hn => len_itoa hn
  obtain ⟨Lt1, eLt1⟩ : ∃ z : List UInt8, z = Lt0 ++ [32] := ⟨_, rfl⟩
  have nt1 : Lt1.length ≤ 22 := by rw [eLt1, List.length_append]; simp only [List.length_cons, List.length_nil]; omega
  obtain ⟨t1, et1⟩ : ∃ z, z = bk Lt1 := ⟨_, rfl⟩
  have zt1 : Sz t1 := sz_bk (by omega) et1
  have Ft1 : t0 ++ (⟨#[32]⟩ : ByteArray) = t1 := by rw [et0, et1, eLt1]; exact bk_app _ _
  obtain ⟨Lt2, eLt2⟩ : ∃ z : List UInt8, z = Lt1 ++ modeL m := ⟨_, rfl⟩
  have nt2 : Lt2.length ≤ 31 := by rw [eLt2, List.length_append]; omega
  obtain ⟨t2, et2⟩ : ∃ z, z = bk Lt2 := ⟨_, rfl⟩
  have zt2 : Sz t2 := sz_bk (by omega) et2
  have Ft2 : t1 ++ bm = t2 := by rw [et1, ebm, et2, eLt2]; exact bk_app _ _
  obtain ⟨Lp1, eLp1⟩ : ∃ z : List UInt8, z = Lt2 ++ [32, 103, 114, 111, 117, 112, 32] := ⟨_, rfl⟩
  have np1 : Lp1.length ≤ 38 := by rw [eLp1, List.length_append]; simp only [List.length_cons, List.length_nil]; omega
  obtain ⟨p1, ep1⟩ : ∃ z, z = bk Lp1 := ⟨_, rfl⟩
  have zp1 : Sz p1 := sz_bk (by omega) ep1
  have Fp1 : t2 ++ (⟨#[32, 103, 114, 111, 117, 112, 32]⟩ : ByteArray) = p1 := by rw [et2, ep1, eLp1]; exact bk_app _ _
  obtain ⟨Lp2, eLp2⟩ : ∃ z : List UInt8, z = Lp1 ++ Lib.itoa g := ⟨_, rfl⟩
  have np2 : Lp2.length ≤ 59 := by rw [eLp2, List.length_append]; have := nitoa g hg; omega
  obtain ⟨p2, ep2⟩ : ∃ z, z = bk Lp2 := ⟨_, rfl⟩
  have zp2 : Sz p2 := sz_bk (by omega) ep2
  have Fp2 : p1 ++ bg = p2 := by rw [ep1, ebg, ep2, eLp2]; exact bk_app _ _
  obtain ⟨Lp3, eLp3⟩ : ∃ z : List UInt8, z = Lp2 ++ [32, 97, 116, 32] := ⟨_, rfl⟩
  have np3 : Lp3.length ≤ 63 := by rw [eLp3, List.length_append]; simp only [List.length_cons, List.length_nil]; omega
  obtain ⟨p3, ep3⟩ : ∃ z, z = bk Lp3 := ⟨_, rfl⟩
  have zp3 : Sz p3 := sz_bk (by omega) ep3
  have Fp3 : p2 ++ (⟨#[32, 97, 116, 32]⟩ : ByteArray) = p3 := by rw [ep2, ep3, eLp3]; exact bk_app _ _
  obtain ⟨Lp4, eLp4⟩ : ∃ z : List UInt8, z = Lp3 ++ endsL lo hi := ⟨_, rfl⟩
  have np4 : Lp4.length ≤ 107 := by rw [eLp4, List.length_append]; have := len_ends hlo hhi; omega
  obtain ⟨p4, ep4⟩ : ∃ z, z = bk Lp4 := ⟨_, rfl⟩
  have zp4 : Sz p4 := sz_bk (by omega) ep4
  have Fp4 : p3 ++ bp = p4 := by rw [ep3, ebp, ep4, eLp4]; exact bk_app _ _
  obtain ⟨Lp5, eLp5⟩ : ∃ z : List UInt8, z = Lp4 ++ [32, 101, 115, 116, 32] := ⟨_, rfl⟩
  have np5 : Lp5.length ≤ 112 := by rw [eLp5, List.length_append]; simp only [List.length_cons, List.length_nil]; omega
  obtain ⟨p5, ep5⟩ : ∃ z, z = bk Lp5 := ⟨_, rfl⟩
  have zp5 : Sz p5 := sz_bk (by omega) ep5
  have Fp5 : p4 ++ (⟨#[32, 101, 115, 116, 32]⟩ : ByteArray) = p5 := by rw [ep4, ep5, eLp5]; exact bk_app _ _
  obtain ⟨Lp6, eLp6⟩ : ∃ z : List UInt8, z = Lp5 ++ Lib.itoa est := ⟨_, rfl⟩
  have np6 : Lp6.length ≤ 133 := by rw [eLp6, List.length_append]; have := nitoa est hest; omega
  obtain ⟨p6, ep6⟩ : ∃ z, z = bk Lp6 := ⟨_, rfl⟩
  have zp6 : Sz p6 := sz_bk (by omega) ep6
  have Fp6 : p5 ++ be = p6 := by rw [ep5, ebe, ep6, eLp6]; exact bk_app _ _
  obtain ⟨Lp7, eLp7⟩ : ∃ z : List UInt8, z = Lp6 ++ [32, 119, 97, 121, 115, 32] := ⟨_, rfl⟩
  have np7 : Lp7.length ≤ 139 := by rw [eLp7, List.length_append]; simp only [List.length_cons, List.length_nil]; omega
  obtain ⟨p7, ep7⟩ : ∃ z, z = bk Lp7 := ⟨_, rfl⟩
  have zp7 : Sz p7 := sz_bk (by omega) ep7
  have Fp7 : p6 ++ (⟨#[32, 119, 97, 121, 115, 32]⟩ : ByteArray) = p7 := by rw [ep6, ep7, eLp7]; exact bk_app _ _
  obtain ⟨Lp8, eLp8⟩ : ∃ z : List UInt8, z = Lp7 ++ ways := ⟨_, rfl⟩
  have np8 : Lp8.length ≤ 22001139 := by rw [eLp8, List.length_append]; omega
  obtain ⟨p8, ep8⟩ : ∃ z, z = bk Lp8 := ⟨_, rfl⟩
  have zp8 : Sz p8 := sz_bk (by omega) ep8
  have Fp8 : p7 ++ bw = p8 := by rw [ep7, ebw, ep8, eLp8]; exact bk_app _ _
  obtain ⟨Lt3, eLt3⟩ : ∃ z, z = if g = 0 then Lt2 else Lp8 := ⟨_, rfl⟩
  have nt3 : Lt3.length ≤ 22002000 := by rw [eLt3]; split <;> omega
  obtain ⟨t3, et3⟩ : ∃ z, z = bk Lt3 := ⟨_, rfl⟩
  obtain ⟨Lu1, eLu1⟩ : ∃ z : List UInt8, z = Lt3 ++ [32, 115, 112, 101, 101, 100, 32] := ⟨_, rfl⟩
  have nu1 : Lu1.length ≤ 22002007 := by rw [eLu1, List.length_append]; simp only [List.length_cons, List.length_nil]; omega
  obtain ⟨u1, eu1⟩ : ∃ z, z = bk Lu1 := ⟨_, rfl⟩
  have zu1 : Sz u1 := sz_bk (by omega) eu1
  have Fu1 : t3 ++ (⟨#[32, 115, 112, 101, 101, 100, 32]⟩ : ByteArray) = u1 := by rw [et3, eu1, eLu1]; exact bk_app _ _
  obtain ⟨Lu2, eLu2⟩ : ∃ z : List UInt8, z = Lu1 ++ endsL slo shi := ⟨_, rfl⟩
  have nu2 : Lu2.length ≤ 22002051 := by rw [eLu2, List.length_append]; have := len_ends hslo hshi; omega
  obtain ⟨u2, eu2⟩ : ∃ z, z = bk Lu2 := ⟨_, rfl⟩
  have zu2 : Sz u2 := sz_bk (by omega) eu2
  have Fu2 : u1 ++ bs = u2 := by rw [eu1, ebs, eu2, eLu2]; exact bk_app _ _
  obtain ⟨Lu3, eLu3⟩ : ∃ z : List UInt8, z = Lu2 ++ [32, 102, 105, 116, 32] := ⟨_, rfl⟩
  have nu3 : Lu3.length ≤ 22002056 := by rw [eLu3, List.length_append]; simp only [List.length_cons, List.length_nil]; omega
  obtain ⟨u3, eu3⟩ : ∃ z, z = bk Lu3 := ⟨_, rfl⟩
  have zu3 : Sz u3 := sz_bk (by omega) eu3
  have Fu3 : u2 ++ (⟨#[32, 102, 105, 116, 32]⟩ : ByteArray) = u3 := by rw [eu2, eu3, eLu3]; exact bk_app _ _
  obtain ⟨Lu4, eLu4⟩ : ∃ z : List UInt8, z = Lu3 ++ Lib.itoa fit := ⟨_, rfl⟩
  have nu4 : Lu4.length ≤ 22002077 := by rw [eLu4, List.length_append]; have := nitoa fit hfit; omega
  obtain ⟨u4, eu4⟩ : ∃ z, z = bk Lu4 := ⟨_, rfl⟩
  have zu4 : Sz u4 := sz_bk (by omega) eu4
  have Fu4 : u3 ++ bf = u4 := by rw [eu3, ebf, eu4, eLu4]; exact bk_app _ _
  obtain ⟨Lv1, eLv1⟩ : ∃ z : List UInt8, z = Lu4 ++ [32, 115, 108, 105, 112, 32] := ⟨_, rfl⟩
  have nv1 : Lv1.length ≤ 22002083 := by rw [eLv1, List.length_append]; simp only [List.length_cons, List.length_nil]; omega
  obtain ⟨v1, ev1⟩ : ∃ z, z = bk Lv1 := ⟨_, rfl⟩
  have zv1 : Sz v1 := sz_bk (by omega) ev1
  have Fv1 : u4 ++ (⟨#[32, 115, 108, 105, 112, 32]⟩ : ByteArray) = v1 := by rw [eu4, ev1, eLv1]; exact bk_app _ _
  obtain ⟨Lv2, eLv2⟩ : ∃ z : List UInt8, z = Lv1 ++ Lib.itoa s0 := ⟨_, rfl⟩
  have nv2 : Lv2.length ≤ 22002104 := by rw [eLv2, List.length_append]; have := nitoa s0 hs0; omega
  obtain ⟨v2, ev2⟩ : ∃ z, z = bk Lv2 := ⟨_, rfl⟩
  have zv2 : Sz v2 := sz_bk (by omega) ev2
  have Fv2 : v1 ++ bs0 = v2 := by rw [ev1, ebs0, ev2, eLv2]; exact bk_app _ _
  obtain ⟨Lv3, eLv3⟩ : ∃ z : List UInt8, z = Lv2 ++ [32] := ⟨_, rfl⟩
  have nv3 : Lv3.length ≤ 22002105 := by rw [eLv3, List.length_append]; simp only [List.length_cons, List.length_nil]; omega
  obtain ⟨v3, ev3⟩ : ∃ z, z = bk Lv3 := ⟨_, rfl⟩
  have zv3 : Sz v3 := sz_bk (by omega) ev3
  have Fv3 : v2 ++ (⟨#[32]⟩ : ByteArray) = v3 := by rw [ev2, ev3, eLv3]; exact bk_app _ _
  obtain ⟨Lv4, eLv4⟩ : ∃ z : List UInt8, z = Lv3 ++ Lib.itoa s1 := ⟨_, rfl⟩
  have nv4 : Lv4.length ≤ 22002126 := by rw [eLv4, List.length_append]; have := nitoa s1 hs1; omega
  obtain ⟨v4, ev4⟩ : ∃ z, z = bk Lv4 := ⟨_, rfl⟩
  have zv4 : Sz v4 := sz_bk (by omega) ev4
  have Fv4 : v3 ++ bs1 = v4 := by rw [ev3, ebs1, ev4, eLv4]; exact bk_app _ _
  obtain ⟨L5, eL5⟩ : ∃ z, z = if s0 = 0 ∧ s1 = 0 then Lu4 else Lv4 := ⟨_, rfl⟩
  have n5 : L5.length ≤ 22003000 := by rw [eL5]; split <;> omega
  obtain ⟨t5, et5⟩ : ∃ z, z = bk L5 := ⟨_, rfl⟩
  have hL5 : L5 = l4 o ++ jt (slipL o) := by
    unfold l4 slipL placedL
    rw [e1, e2, e3, e4, e5, e6, e7, e8, e9, e10, e11, e12, eL5, eLv4, eLv3, eLv2, eLv1, eLu4, eLu3, eLu2, eLu1, eLt3, eLp8, eLp7, eLp6, eLp5, eLp4, eLp3, eLp2, eLp1, eLt2, eLt1, eLt0, eways]
    by_cases hg0 : g = 0 <;> by_cases hz : s0 = 0 ∧ s1 = 0
    · rw [if_pos hg0, if_pos hz, if_pos hg0, if_pos hz]
      simp only [jt_cons, jt_nil, List.append_assoc, List.cons_append, List.nil_append, List.append_nil]
    · rw [if_pos hg0, if_neg hz, if_pos hg0, if_neg hz]
      simp only [jt_cons, jt_nil, List.append_assoc, List.cons_append, List.nil_append, List.append_nil]
    · rw [if_neg hg0, if_neg hg0, if_pos hz, if_neg hg0, if_pos hz]
      simp only [jt_cons, jt_nil, List.append_assoc, List.cons_append, List.nil_append, List.append_nil]
    · rw [if_neg hg0, if_neg hg0, if_neg hz, if_neg hg0, if_neg hz]
      simp only [jt_cons, jt_nil, List.append_assoc, List.cons_append, List.nil_append, List.append_nil]
  have g0 : g = 0 → t2 = t3 := fun e => by rw [et2, et3, eLt3, if_pos e]
  have g1 : g ≠ 0 → p8 = t3 := fun e => by rw [ep8, et3, eLt3, if_neg e]
  have k0 : (s0 = 0 ∧ s1 = 0) → u4 = t5 := fun e => by rw [eu4, et5, eL5, if_pos e]
  have k1 : ¬ (s0 = 0 ∧ s1 = 0) → v4 = t5 := fun e => by rw [ev4, et5, eL5, if_neg e]
  have et' : t = bk (L5 ++ flN o 7) := by rw [et, line_jt, hL5]; rfl
  have bm0 : t1 = t2 := by rw [et1, et2, eLt2]; unfold modeL; rw [if_neg (by omega), if_neg (by omega), if_neg (by omega), if_neg (by omega), List.append_nil]
  clear eLt1 nt1 et1 eLt2 nt2 et2 eLp1 np1 ep1 eLp2 np2 ep2 eLp3 np3 ep3 eLp4 np4 ep4 eLp5 np5 ep5 eLp6 np6 ep6 eLp7 np7 ep7 eLp8 np8 ep8 eLu1 nu1 eu1 eLu2 nu2 eu2 eLu3 nu3 eu3 eLu4 nu4 eu4 eLv1 nv1 ev1 eLv2 nv2 ev2 eLv3 nv3 ev3 eLv4 nv4 ev4 eLt3 nt3 et3 et eLt0 et0 nt0 ebm ebg ebp ebe ebw ebs ebf ebs0 ebs1 nm nitoa eways nways hqs hrs hs h hL5
  (refine PCalls.ofY Tryd.func7 (by kernel_rfl) (by kernel_rfl) fun w hw R hR => ?_); (obtain ⟨wbin, wcmp, wun, wconv, wnot, wbeq, wmm, wscmp, wsadd, wslen, wsat, weqs, wlen, wnlen, wofNat, wtake, wdrop, wapp, wzero, wnat⟩ := w); (have hbin : wbin = binStd := congrArg Prims.bin hw); (have hcmp : wcmp = cmpStd := congrArg Prims.cmp hw); (have hun : wun = unStd := congrArg Prims.un hw); (have hconv : wconv = fun k n => k.wrap n := congrArg Prims.conv hw); (have hnot : wnot = fun b => !b := congrArg Prims.not hw); (have hbeq : wbeq = fun a b => a == b := congrArg Prims.beq hw); (have hmm : wmm = maxI := congrArg Prims.mm hw); (have hscmp : wscmp = scmpStd := congrArg Prims.scmp hw); (have hsadd : wsadd = fun x y => x ++ y := congrArg Prims.sadd hw); (have hslen : wslen = fun s => (s.size : Int) := congrArg Prims.slen hw); (have hsat : wsat = std.sat := congrArg Prims.sat hw); (have heqs : weqs = fun a b os => (eqOffs a b os).getD false := congrArg Prims.eqs hw); (have hlen : wlen = fun es => (es.length : Int) := congrArg Prims.len hw); (have hnlen : wnlen = fun es => es.length := congrArg Prims.nlen hw); (have hofNat : wofNat = (fun n : Nat => (n : Int)) := congrArg Prims.ofNat hw); (have htake : wtake = fun es b => es.take b.toNat := congrArg Prims.take hw); (have hdrop : wdrop = fun es a => es.drop a.toNat := congrArg Prims.drop hw); (have happ : wapp = fun a b => a ++ b := congrArg Prims.app hw); (have hzero : wzero = fun n z => List.replicate n.toNat z := congrArg Prims.zero hw); (have hnat : wnat = fun n => n.toNat := congrArg Prims.nat hw); (conv => arg 2; cbv); (generalize hP : Tryd.prog = P); cbv
  have st1 : wsadd t0 (⟨#[32]⟩ : ByteArray) = t1 := by rw [hsadd]; exact Ft1
  have st2 : wsadd t1 bm = t2 := by rw [hsadd]; exact Ft2
  have sp1 : wsadd t2 (⟨#[32, 103, 114, 111, 117, 112, 32]⟩ : ByteArray) = p1 := by rw [hsadd]; exact Fp1
  have sp2 : wsadd p1 bg = p2 := by rw [hsadd]; exact Fp2
  have sp3 : wsadd p2 (⟨#[32, 97, 116, 32]⟩ : ByteArray) = p3 := by rw [hsadd]; exact Fp3
  have sp4 : wsadd p3 bp = p4 := by rw [hsadd]; exact Fp4
  have sp5 : wsadd p4 (⟨#[32, 101, 115, 116, 32]⟩ : ByteArray) = p5 := by rw [hsadd]; exact Fp5
  have sp6 : wsadd p5 be = p6 := by rw [hsadd]; exact Fp6
  have sp7 : wsadd p6 (⟨#[32, 119, 97, 121, 115, 32]⟩ : ByteArray) = p7 := by rw [hsadd]; exact Fp7
  have sp8 : wsadd p7 bw = p8 := by rw [hsadd]; exact Fp8
  have su1 : wsadd t3 (⟨#[32, 115, 112, 101, 101, 100, 32]⟩ : ByteArray) = u1 := by rw [hsadd]; exact Fu1
  have su2 : wsadd u1 bs = u2 := by rw [hsadd]; exact Fu2
  have su3 : wsadd u2 (⟨#[32, 102, 105, 116, 32]⟩ : ByteArray) = u3 := by rw [hsadd]; exact Fu3
  have su4 : wsadd u3 bf = u4 := by rw [hsadd]; exact Fu4
  have sv1 : wsadd u4 (⟨#[32, 115, 108, 105, 112, 32]⟩ : ByteArray) = v1 := by rw [hsadd]; exact Fv1
  have sv2 : wsadd v1 bs0 = v2 := by rw [hsadd]; exact Fv2
  have sv3 : wsadd v2 (⟨#[32]⟩ : ByteArray) = v3 := by rw [hsadd]; exact Fv3
  have sv4 : wsadd v3 bs1 = v4 := by rw [hsadd]; exact Fv4
  clear Ft1 Ft2 Fp1 Fp2 Fp3 Fp4 Fp5 Fp6 Fp7 Fp8 Fu1 Fu2 Fu3 Fu4 Fv1 Fv2 Fv3 Fv4
  have m1 : wcmp .geq m 1 = true := by rw [hcmp]; simp [cmpStd]; omega
  have m2 : wcmp .leq m 4 = false := by rw [hcmp]; simp [cmpStd]; omega
  have cases : (s0 = 0 ∧ s1 = 0) ∨ (s0 = 0 ∧ ¬ s1 = 0) ∨ ¬ s0 = 0 := by omega
  rcases Classical.em (g = 0) with hg0 | hg0 <;> rcases cases with hz | hz | hz
  all_goals
    first
      | (have gg := g0 hg0)
      | (have gg := g1 hg0)
    first
      | (have cg : wcmp .neq g 0 = false := by (rw [hcmp]; simp [cmpStd, hg0]; done))
      | (have cg : wcmp .neq g 0 = true := by (rw [hcmp]; simp [cmpStd, hg0]; done))
    first
      | (have kk := k0 hz)
      | (have kk := k1 (by omega))
    first
      | (have cz0 : wcmp .neq s0 0 = false := by (rw [hcmp]; simp [cmpStd, hz]; done))
      | (have cz0 : wcmp .neq s0 0 = true := by (rw [hcmp]; simp [cmpStd, hz]; done))
    first
      | (have cz1 : wcmp .neq s1 0 = false := by (rw [hcmp]; simp [cmpStd, hz]; done))
      | (have cz1 : wcmp .neq s1 0 = true := by (rw [hcmp]; simp [cmpStd, hz]; done))
      | (have cz1 : wnot (wnot true) = true := by (rw [hnot]; rfl))
    try (have dw := dw hg0)
    repeat' (first
      | (refine InN.mk (by decide) (by decide) ?_)
      | (refine Le.mk (by rw [hslen]; exact Sz.le (by assumption)) ?_)
      | (simp only [st1, st2, sp1, sp2, sp3, sp4, sp5, sp6, sp7, sp8, su1, su2, su3, su4, sv1, sv2, sv3, sv4])
      | (simp only [bm0])
      | (simp only [gg])
      | (simp only [kk])
      | (simp only [cg]; cbv)
      | (simp only [cz0]; cbv)
      | (simp only [cz1]; cbv)
      | (simp only [m1]; cbv)
      | (simp only [m2]; cbv)
      | (refine Call.stepE (by rw [← hP]; exact d0) rfl ?_; cbv)
      | (refine QCal.stepE (by rw [← hP]; exact dg) rfl ?_; cbv)
      | (refine QCal.stepE (by rw [← hP]; exact dp) rfl ?_; cbv)
      | (refine QCal.stepE (by rw [← hP]; exact de) rfl ?_; cbv)
      | (refine QCal.stepE (by rw [← hP]; exact dw) (by exact Up0.one huq rfl) ?_; cbv)
      | (refine QCal.stepE (by rw [← hP]; exact ds) rfl ?_; cbv)
      | (refine QCal.stepE (by rw [← hP]; exact df) rfl ?_; cbv)
      | (refine QCal.stepE (by rw [← hP]; exact ds0) rfl ?_; cbv)
      | (refine QCal.stepE (by rw [← hP]; exact ds1) rfl ?_; cbv))
    refine Loop.data hw (S := Int × ByteArray) (fun s => fr 101 [(1, .ref 0 19 0 0), (4, .ref 2 7 0 0), (5, .str s.2), (6, .int .i64 s.1)])
      (fun s => [.live 19 [[.int .i64 c, .int .i64 m, .int .i64 g, .int .i64 fit, .int .i64 lo, .int .i64 hi, .int .i64 slo, .int .i64 shi, .int .i64 est, .list 1 qs, .int .i64 s0, .int .i64 s1, .int .i64 f0, .int .i64 f1, .int .i64 f2, .int .i64 f3, .int .i64 f4, .int .i64 f5, .int .i64 f6]], .live 5 [[.str ⟨#[]⟩, .str ⟨#[117, 110, 108, 111, 99, 97, 116, 101, 100]⟩, .str ⟨#[108, 111, 99, 97, 116, 101, 100]⟩, .str ⟨#[100, 101, 103, 114, 97, 100, 101, 100]⟩, .str ⟨#[102, 97, 105, 108, 101, 100]⟩]], .live 7 [[.str ⟨#[99, 108, 101, 97, 110]⟩, .str ⟨#[99, 111, 110, 102, 108, 105, 99, 116]⟩, .str ⟨#[97, 99, 99, 101, 112, 116, 101, 100]⟩, .str ⟨#[102, 97, 117, 108, 116]⟩, .str ⟨#[115, 116, 105, 108, 108]⟩, .str ⟨#[114, 111, 108, 108]⟩, .str ⟨#[111, 118, 101, 114]⟩]]])
      (fun s => 0 ≤ s.1 ∧ s.1 ≤ 7 ∧ s.2 = bk (L5 ++ flN o s.1)) (fun s => (7 - s.1).toNat) (0, t5) (by (refine Wk.eqz (id) (by first | exact fun i _ j _ e => e | (simp only [List.length_cons, List.length_nil]; decide)) ?_; cbv; (repeat' (first | exact trivial | rfl | assumption | apply And.intro | (simp only [hbin, hcmp, hun, hconv, hnot, hbeq, hmm, hscmp, hsadd, hslen, hsat, heqs, hofNat, binStd, cmpStd, unStd, scmpStd, maxI, Bool.not_eq_true', Bool.not_eq_false', decide_eq_true_eq, decide_eq_false_iff_not, Int.not_lt, Int.not_le, if_true, if_false, Bool.false_eq_true, beq_iff_eq, bne_iff_ne, ne_eq, Bool.not_eq_eq_eq_not, Bool.not_true, Bool.not_false, beq_eq_false_iff_ne, bne_eq_false_iff_eq, Int.ofNat_eq_natCast, Bool.not_not, not_true_eq_false, not_false_eq_true, reduceCtorEq]; first | done | assumption) | exact RowsZ.same (by assumption) (by first | assumption | rfl) | exact FzL.mk rfl rfl rfl (by assumption) (by first | assumption | rfl) (by decide) | (refine RowsZ.one ?_; cbv))))) ⟨Int.le_refl 0, (show (0 : Int) ≤ 7 by decide), by rw [et5]; simp [flN, saidL, jt_nil]⟩ ?_
    rintro ⟨i, u⟩ hinv Q2 hN2 hE2 hR2
    have hinv : 0 ≤ i ∧ i ≤ 7 ∧ u = bk (L5 ++ flN o i) := hinv
    cbv
    obtain ⟨hi0, hi7, hu⟩ := hinv
    (split <;> rename_i hc <;> (try (simp only [hbin, hcmp, hun, hconv, hnot, hbeq, hmm, hscmp, hsadd, hslen, hsat, heqs, hofNat, binStd, cmpStd, unStd, scmpStd, maxI, Bool.not_eq_true', Bool.not_eq_false', decide_eq_true_eq, decide_eq_false_iff_not, Int.not_lt, Int.not_le, if_true, if_false, Bool.false_eq_true, beq_iff_eq, bne_iff_ne, ne_eq, Bool.not_eq_eq_eq_not, Bool.not_true, Bool.not_false, beq_eq_false_iff_ne, bne_eq_false_iff_eq, Int.ofNat_eq_natCast, Bool.not_not, not_true_eq_false, not_false_eq_true, reduceCtorEq] at hc)) <;> (try cbv))
    · have hi : i = 0 ∨ i = 1 ∨ i = 2 ∨ i = 3 ∨ i = 4 ∨ i = 5 ∨ i = 6 := by omega
      rcases hi with rfl | rfl | rfl | rfl | rfl | rfl | rfl
      · cbv
        have ca : wbin .add .i64 0 1 = 1 := by rw [hbin]; rfl
        by_cases hb : f0 = 1
        · have cb : wcmp .eql f0 1 = true := by rw [hcmp]; simp [cmpStd, hb]
          have hbt := hf.h0.1 hb
          obtain ⟨ua, ea⟩ : ∃ z, z = u ++ (⟨#[32]⟩ : ByteArray) := ⟨_, rfl⟩
          obtain ⟨ub, eb⟩ : ∃ z, z = ua ++ (⟨#[99, 108, 101, 97, 110]⟩ : ByteArray) := ⟨_, rfl⟩
          have hfl : flN o 1 = flN o 0 ++ ([32] ++ [99, 108, 101, 97, 110]) := fl_some (o := o) (i := 0) (by show some (o.b1, _) = _; rw [hbt])
          have hub : ub = bk (L5 ++ flN o 1) := by rw [eb, ea, hu, hfl]; exact (congrArg (· ++ (⟨#[99, 108, 101, 97, 110]⟩ : ByteArray)) (bk_app (L5 ++ flN o 0) [32])).trans ((bk_app _ [99, 108, 101, 97, 110]).trans (by simp only [List.append_assoc]))
          have hua : ua = bk (L5 ++ flN o 0 ++ [32]) := by rw [ea, hu]; exact bk_app _ _
          have za : Sz ua := sz_bk (by have := len_fl o 0; simp only [List.length_append, List.length_cons, List.length_nil]; omega) hua
          have zb : Sz ub := sz_bk (by have := len_fl o 1; rw [List.length_append]; omega) hub
          have cu : wsadd u ⟨#[32]⟩ = ua := by rw [hsadd, ea]
          have cv : wsadd ua ⟨#[99, 108, 101, 97, 110]⟩ = ub := by rw [hsadd, eb]
          repeat' (first
            | (refine InN.mk (by decide) (by decide) ?_)
            | (refine Le.mk (by rw [hslen]; exact Sz.le (by assumption)) ?_; try cbv)
            | (simp only [cu, cv])
            | (simp only [cb]; cbv))
          simp only [ca]
          refine hN2 (1, ub) _ _ ?hx ?hi (show ((7 : Int) - 1).toNat < ((7 : Int) - 0).toNat by decide)
          case hx => (refine Wk.eqz (id) (by first | exact fun i _ j _ e => e | (simp only [List.length_cons, List.length_nil]; decide)) ?_; cbv; (repeat' (first | exact trivial | rfl | assumption | apply And.intro | (simp only [hbin, hcmp, hun, hconv, hnot, hbeq, hmm, hscmp, hsadd, hslen, hsat, heqs, hofNat, binStd, cmpStd, unStd, scmpStd, maxI, Bool.not_eq_true', Bool.not_eq_false', decide_eq_true_eq, decide_eq_false_iff_not, Int.not_lt, Int.not_le, if_true, if_false, Bool.false_eq_true, beq_iff_eq, bne_iff_ne, ne_eq, Bool.not_eq_eq_eq_not, Bool.not_true, Bool.not_false, beq_eq_false_iff_ne, bne_eq_false_iff_eq, Int.ofNat_eq_natCast, Bool.not_not, not_true_eq_false, not_false_eq_true, reduceCtorEq]; first | done | assumption) | exact RowsZ.same (by assumption) (by first | assumption | rfl) | exact FzL.mk rfl rfl rfl (by assumption) (by first | assumption | rfl) (by decide) | (refine RowsZ.one ?_; cbv))))
          case hi => exact ⟨(show (0 : Int) ≤ 1 by decide), (show (1 : Int) ≤ 7 by decide), hub⟩
        · have cb : wcmp .eql f0 1 = false := by rw [hcmp]; simp [cmpStd, hb]
          have hbt : o.b1 = false := by
            cases hx : o.b1
            · rfl
            · exact absurd (hf.h0.2 hx) hb
          have hfl : flN o 1 = flN o 0 := fl_none (o := o) (i := 0) (x := [99, 108, 101, 97, 110]) (by show some (o.b1, _) = _; rw [hbt])
          repeat' (first
            | (refine InN.mk (by decide) (by decide) ?_)
            | (simp only [cb]; cbv))
          simp only [ca]
          refine hN2 (1, u) _ _ ?hx ?hi (show ((7 : Int) - 1).toNat < ((7 : Int) - 0).toNat by decide)
          case hx => (refine Wk.eqz (id) (by first | exact fun i _ j _ e => e | (simp only [List.length_cons, List.length_nil]; decide)) ?_; cbv; (repeat' (first | exact trivial | rfl | assumption | apply And.intro | (simp only [hbin, hcmp, hun, hconv, hnot, hbeq, hmm, hscmp, hsadd, hslen, hsat, heqs, hofNat, binStd, cmpStd, unStd, scmpStd, maxI, Bool.not_eq_true', Bool.not_eq_false', decide_eq_true_eq, decide_eq_false_iff_not, Int.not_lt, Int.not_le, if_true, if_false, Bool.false_eq_true, beq_iff_eq, bne_iff_ne, ne_eq, Bool.not_eq_eq_eq_not, Bool.not_true, Bool.not_false, beq_eq_false_iff_ne, bne_eq_false_iff_eq, Int.ofNat_eq_natCast, Bool.not_not, not_true_eq_false, not_false_eq_true, reduceCtorEq]; first | done | assumption) | exact RowsZ.same (by assumption) (by first | assumption | rfl) | exact FzL.mk rfl rfl rfl (by assumption) (by first | assumption | rfl) (by decide) | (refine RowsZ.one ?_; cbv))))
          case hi => exact ⟨(show (0 : Int) ≤ 1 by decide), (show (1 : Int) ≤ 7 by decide), by rw [hu, hfl]⟩
      · cbv
        have ca : wbin .add .i64 1 1 = 2 := by rw [hbin]; rfl
        by_cases hb : f1 = 1
        · have cb : wcmp .eql f1 1 = true := by rw [hcmp]; simp [cmpStd, hb]
          have hbt := hf.h1.1 hb
          obtain ⟨ua, ea⟩ : ∃ z, z = u ++ (⟨#[32]⟩ : ByteArray) := ⟨_, rfl⟩
          obtain ⟨ub, eb⟩ : ∃ z, z = ua ++ (⟨#[99, 111, 110, 102, 108, 105, 99, 116]⟩ : ByteArray) := ⟨_, rfl⟩
          have hfl : flN o 2 = flN o 1 ++ ([32] ++ [99, 111, 110, 102, 108, 105, 99, 116]) := fl_some (o := o) (i := 1) (by show some (o.b2, _) = _; rw [hbt])
          have hub : ub = bk (L5 ++ flN o 2) := by rw [eb, ea, hu, hfl]; exact (congrArg (· ++ (⟨#[99, 111, 110, 102, 108, 105, 99, 116]⟩ : ByteArray)) (bk_app (L5 ++ flN o 1) [32])).trans ((bk_app _ [99, 111, 110, 102, 108, 105, 99, 116]).trans (by simp only [List.append_assoc]))
          have hua : ua = bk (L5 ++ flN o 1 ++ [32]) := by rw [ea, hu]; exact bk_app _ _
          have za : Sz ua := sz_bk (by have := len_fl o 1; simp only [List.length_append, List.length_cons, List.length_nil]; omega) hua
          have zb : Sz ub := sz_bk (by have := len_fl o 2; rw [List.length_append]; omega) hub
          have cu : wsadd u ⟨#[32]⟩ = ua := by rw [hsadd, ea]
          have cv : wsadd ua ⟨#[99, 111, 110, 102, 108, 105, 99, 116]⟩ = ub := by rw [hsadd, eb]
          repeat' (first
            | (refine InN.mk (by decide) (by decide) ?_)
            | (refine Le.mk (by rw [hslen]; exact Sz.le (by assumption)) ?_; try cbv)
            | (simp only [cu, cv])
            | (simp only [cb]; cbv))
          simp only [ca]
          refine hN2 (2, ub) _ _ ?hx ?hi (show ((7 : Int) - 2).toNat < ((7 : Int) - 1).toNat by decide)
          case hx => (refine Wk.eqz (id) (by first | exact fun i _ j _ e => e | (simp only [List.length_cons, List.length_nil]; decide)) ?_; cbv; (repeat' (first | exact trivial | rfl | assumption | apply And.intro | (simp only [hbin, hcmp, hun, hconv, hnot, hbeq, hmm, hscmp, hsadd, hslen, hsat, heqs, hofNat, binStd, cmpStd, unStd, scmpStd, maxI, Bool.not_eq_true', Bool.not_eq_false', decide_eq_true_eq, decide_eq_false_iff_not, Int.not_lt, Int.not_le, if_true, if_false, Bool.false_eq_true, beq_iff_eq, bne_iff_ne, ne_eq, Bool.not_eq_eq_eq_not, Bool.not_true, Bool.not_false, beq_eq_false_iff_ne, bne_eq_false_iff_eq, Int.ofNat_eq_natCast, Bool.not_not, not_true_eq_false, not_false_eq_true, reduceCtorEq]; first | done | assumption) | exact RowsZ.same (by assumption) (by first | assumption | rfl) | exact FzL.mk rfl rfl rfl (by assumption) (by first | assumption | rfl) (by decide) | (refine RowsZ.one ?_; cbv))))
          case hi => exact ⟨(show (0 : Int) ≤ 2 by decide), (show (2 : Int) ≤ 7 by decide), hub⟩
        · have cb : wcmp .eql f1 1 = false := by rw [hcmp]; simp [cmpStd, hb]
          have hbt : o.b2 = false := by
            cases hx : o.b2
            · rfl
            · exact absurd (hf.h1.2 hx) hb
          have hfl : flN o 2 = flN o 1 := fl_none (o := o) (i := 1) (x := [99, 111, 110, 102, 108, 105, 99, 116]) (by show some (o.b2, _) = _; rw [hbt])
          repeat' (first
            | (refine InN.mk (by decide) (by decide) ?_)
            | (simp only [cb]; cbv))
          simp only [ca]
          refine hN2 (2, u) _ _ ?hx ?hi (show ((7 : Int) - 2).toNat < ((7 : Int) - 1).toNat by decide)
          case hx => (refine Wk.eqz (id) (by first | exact fun i _ j _ e => e | (simp only [List.length_cons, List.length_nil]; decide)) ?_; cbv; (repeat' (first | exact trivial | rfl | assumption | apply And.intro | (simp only [hbin, hcmp, hun, hconv, hnot, hbeq, hmm, hscmp, hsadd, hslen, hsat, heqs, hofNat, binStd, cmpStd, unStd, scmpStd, maxI, Bool.not_eq_true', Bool.not_eq_false', decide_eq_true_eq, decide_eq_false_iff_not, Int.not_lt, Int.not_le, if_true, if_false, Bool.false_eq_true, beq_iff_eq, bne_iff_ne, ne_eq, Bool.not_eq_eq_eq_not, Bool.not_true, Bool.not_false, beq_eq_false_iff_ne, bne_eq_false_iff_eq, Int.ofNat_eq_natCast, Bool.not_not, not_true_eq_false, not_false_eq_true, reduceCtorEq]; first | done | assumption) | exact RowsZ.same (by assumption) (by first | assumption | rfl) | exact FzL.mk rfl rfl rfl (by assumption) (by first | assumption | rfl) (by decide) | (refine RowsZ.one ?_; cbv))))
          case hi => exact ⟨(show (0 : Int) ≤ 2 by decide), (show (2 : Int) ≤ 7 by decide), by rw [hu, hfl]⟩
      · cbv
        have ca : wbin .add .i64 2 1 = 3 := by rw [hbin]; rfl
        by_cases hb : f2 = 1
        · have cb : wcmp .eql f2 1 = true := by rw [hcmp]; simp [cmpStd, hb]
          have hbt := hf.h2.1 hb
          obtain ⟨ua, ea⟩ : ∃ z, z = u ++ (⟨#[32]⟩ : ByteArray) := ⟨_, rfl⟩
          obtain ⟨ub, eb⟩ : ∃ z, z = ua ++ (⟨#[97, 99, 99, 101, 112, 116, 101, 100]⟩ : ByteArray) := ⟨_, rfl⟩
          have hfl : flN o 3 = flN o 2 ++ ([32] ++ [97, 99, 99, 101, 112, 116, 101, 100]) := fl_some (o := o) (i := 2) (by show some (o.b3, _) = _; rw [hbt])
          have hub : ub = bk (L5 ++ flN o 3) := by rw [eb, ea, hu, hfl]; exact (congrArg (· ++ (⟨#[97, 99, 99, 101, 112, 116, 101, 100]⟩ : ByteArray)) (bk_app (L5 ++ flN o 2) [32])).trans ((bk_app _ [97, 99, 99, 101, 112, 116, 101, 100]).trans (by simp only [List.append_assoc]))
          have hua : ua = bk (L5 ++ flN o 2 ++ [32]) := by rw [ea, hu]; exact bk_app _ _
          have za : Sz ua := sz_bk (by have := len_fl o 2; simp only [List.length_append, List.length_cons, List.length_nil]; omega) hua
          have zb : Sz ub := sz_bk (by have := len_fl o 3; rw [List.length_append]; omega) hub
          have cu : wsadd u ⟨#[32]⟩ = ua := by rw [hsadd, ea]
          have cv : wsadd ua ⟨#[97, 99, 99, 101, 112, 116, 101, 100]⟩ = ub := by rw [hsadd, eb]
          repeat' (first
            | (refine InN.mk (by decide) (by decide) ?_)
            | (refine Le.mk (by rw [hslen]; exact Sz.le (by assumption)) ?_; try cbv)
            | (simp only [cu, cv])
            | (simp only [cb]; cbv))
          simp only [ca]
          refine hN2 (3, ub) _ _ ?hx ?hi (show ((7 : Int) - 3).toNat < ((7 : Int) - 2).toNat by decide)
          case hx => (refine Wk.eqz (id) (by first | exact fun i _ j _ e => e | (simp only [List.length_cons, List.length_nil]; decide)) ?_; cbv; (repeat' (first | exact trivial | rfl | assumption | apply And.intro | (simp only [hbin, hcmp, hun, hconv, hnot, hbeq, hmm, hscmp, hsadd, hslen, hsat, heqs, hofNat, binStd, cmpStd, unStd, scmpStd, maxI, Bool.not_eq_true', Bool.not_eq_false', decide_eq_true_eq, decide_eq_false_iff_not, Int.not_lt, Int.not_le, if_true, if_false, Bool.false_eq_true, beq_iff_eq, bne_iff_ne, ne_eq, Bool.not_eq_eq_eq_not, Bool.not_true, Bool.not_false, beq_eq_false_iff_ne, bne_eq_false_iff_eq, Int.ofNat_eq_natCast, Bool.not_not, not_true_eq_false, not_false_eq_true, reduceCtorEq]; first | done | assumption) | exact RowsZ.same (by assumption) (by first | assumption | rfl) | exact FzL.mk rfl rfl rfl (by assumption) (by first | assumption | rfl) (by decide) | (refine RowsZ.one ?_; cbv))))
          case hi => exact ⟨(show (0 : Int) ≤ 3 by decide), (show (3 : Int) ≤ 7 by decide), hub⟩
        · have cb : wcmp .eql f2 1 = false := by rw [hcmp]; simp [cmpStd, hb]
          have hbt : o.b3 = false := by
            cases hx : o.b3
            · rfl
            · exact absurd (hf.h2.2 hx) hb
          have hfl : flN o 3 = flN o 2 := fl_none (o := o) (i := 2) (x := [97, 99, 99, 101, 112, 116, 101, 100]) (by show some (o.b3, _) = _; rw [hbt])
          repeat' (first
            | (refine InN.mk (by decide) (by decide) ?_)
            | (simp only [cb]; cbv))
          simp only [ca]
          refine hN2 (3, u) _ _ ?hx ?hi (show ((7 : Int) - 3).toNat < ((7 : Int) - 2).toNat by decide)
          case hx => (refine Wk.eqz (id) (by first | exact fun i _ j _ e => e | (simp only [List.length_cons, List.length_nil]; decide)) ?_; cbv; (repeat' (first | exact trivial | rfl | assumption | apply And.intro | (simp only [hbin, hcmp, hun, hconv, hnot, hbeq, hmm, hscmp, hsadd, hslen, hsat, heqs, hofNat, binStd, cmpStd, unStd, scmpStd, maxI, Bool.not_eq_true', Bool.not_eq_false', decide_eq_true_eq, decide_eq_false_iff_not, Int.not_lt, Int.not_le, if_true, if_false, Bool.false_eq_true, beq_iff_eq, bne_iff_ne, ne_eq, Bool.not_eq_eq_eq_not, Bool.not_true, Bool.not_false, beq_eq_false_iff_ne, bne_eq_false_iff_eq, Int.ofNat_eq_natCast, Bool.not_not, not_true_eq_false, not_false_eq_true, reduceCtorEq]; first | done | assumption) | exact RowsZ.same (by assumption) (by first | assumption | rfl) | exact FzL.mk rfl rfl rfl (by assumption) (by first | assumption | rfl) (by decide) | (refine RowsZ.one ?_; cbv))))
          case hi => exact ⟨(show (0 : Int) ≤ 3 by decide), (show (3 : Int) ≤ 7 by decide), by rw [hu, hfl]⟩
      · cbv
        have ca : wbin .add .i64 3 1 = 4 := by rw [hbin]; rfl
        by_cases hb : f3 = 1
        · have cb : wcmp .eql f3 1 = true := by rw [hcmp]; simp [cmpStd, hb]
          have hbt := hf.h3.1 hb
          obtain ⟨ua, ea⟩ : ∃ z, z = u ++ (⟨#[32]⟩ : ByteArray) := ⟨_, rfl⟩
          obtain ⟨ub, eb⟩ : ∃ z, z = ua ++ (⟨#[102, 97, 117, 108, 116]⟩ : ByteArray) := ⟨_, rfl⟩
          have hfl : flN o 4 = flN o 3 ++ ([32] ++ [102, 97, 117, 108, 116]) := fl_some (o := o) (i := 3) (by show some (o.b4, _) = _; rw [hbt])
          have hub : ub = bk (L5 ++ flN o 4) := by rw [eb, ea, hu, hfl]; exact (congrArg (· ++ (⟨#[102, 97, 117, 108, 116]⟩ : ByteArray)) (bk_app (L5 ++ flN o 3) [32])).trans ((bk_app _ [102, 97, 117, 108, 116]).trans (by simp only [List.append_assoc]))
          have hua : ua = bk (L5 ++ flN o 3 ++ [32]) := by rw [ea, hu]; exact bk_app _ _
          have za : Sz ua := sz_bk (by have := len_fl o 3; simp only [List.length_append, List.length_cons, List.length_nil]; omega) hua
          have zb : Sz ub := sz_bk (by have := len_fl o 4; rw [List.length_append]; omega) hub
          have cu : wsadd u ⟨#[32]⟩ = ua := by rw [hsadd, ea]
          have cv : wsadd ua ⟨#[102, 97, 117, 108, 116]⟩ = ub := by rw [hsadd, eb]
          repeat' (first
            | (refine InN.mk (by decide) (by decide) ?_)
            | (refine Le.mk (by rw [hslen]; exact Sz.le (by assumption)) ?_; try cbv)
            | (simp only [cu, cv])
            | (simp only [cb]; cbv))
          simp only [ca]
          refine hN2 (4, ub) _ _ ?hx ?hi (show ((7 : Int) - 4).toNat < ((7 : Int) - 3).toNat by decide)
          case hx => (refine Wk.eqz (id) (by first | exact fun i _ j _ e => e | (simp only [List.length_cons, List.length_nil]; decide)) ?_; cbv; (repeat' (first | exact trivial | rfl | assumption | apply And.intro | (simp only [hbin, hcmp, hun, hconv, hnot, hbeq, hmm, hscmp, hsadd, hslen, hsat, heqs, hofNat, binStd, cmpStd, unStd, scmpStd, maxI, Bool.not_eq_true', Bool.not_eq_false', decide_eq_true_eq, decide_eq_false_iff_not, Int.not_lt, Int.not_le, if_true, if_false, Bool.false_eq_true, beq_iff_eq, bne_iff_ne, ne_eq, Bool.not_eq_eq_eq_not, Bool.not_true, Bool.not_false, beq_eq_false_iff_ne, bne_eq_false_iff_eq, Int.ofNat_eq_natCast, Bool.not_not, not_true_eq_false, not_false_eq_true, reduceCtorEq]; first | done | assumption) | exact RowsZ.same (by assumption) (by first | assumption | rfl) | exact FzL.mk rfl rfl rfl (by assumption) (by first | assumption | rfl) (by decide) | (refine RowsZ.one ?_; cbv))))
          case hi => exact ⟨(show (0 : Int) ≤ 4 by decide), (show (4 : Int) ≤ 7 by decide), hub⟩
        · have cb : wcmp .eql f3 1 = false := by rw [hcmp]; simp [cmpStd, hb]
          have hbt : o.b4 = false := by
            cases hx : o.b4
            · rfl
            · exact absurd (hf.h3.2 hx) hb
          have hfl : flN o 4 = flN o 3 := fl_none (o := o) (i := 3) (x := [102, 97, 117, 108, 116]) (by show some (o.b4, _) = _; rw [hbt])
          repeat' (first
            | (refine InN.mk (by decide) (by decide) ?_)
            | (simp only [cb]; cbv))
          simp only [ca]
          refine hN2 (4, u) _ _ ?hx ?hi (show ((7 : Int) - 4).toNat < ((7 : Int) - 3).toNat by decide)
          case hx => (refine Wk.eqz (id) (by first | exact fun i _ j _ e => e | (simp only [List.length_cons, List.length_nil]; decide)) ?_; cbv; (repeat' (first | exact trivial | rfl | assumption | apply And.intro | (simp only [hbin, hcmp, hun, hconv, hnot, hbeq, hmm, hscmp, hsadd, hslen, hsat, heqs, hofNat, binStd, cmpStd, unStd, scmpStd, maxI, Bool.not_eq_true', Bool.not_eq_false', decide_eq_true_eq, decide_eq_false_iff_not, Int.not_lt, Int.not_le, if_true, if_false, Bool.false_eq_true, beq_iff_eq, bne_iff_ne, ne_eq, Bool.not_eq_eq_eq_not, Bool.not_true, Bool.not_false, beq_eq_false_iff_ne, bne_eq_false_iff_eq, Int.ofNat_eq_natCast, Bool.not_not, not_true_eq_false, not_false_eq_true, reduceCtorEq]; first | done | assumption) | exact RowsZ.same (by assumption) (by first | assumption | rfl) | exact FzL.mk rfl rfl rfl (by assumption) (by first | assumption | rfl) (by decide) | (refine RowsZ.one ?_; cbv))))
          case hi => exact ⟨(show (0 : Int) ≤ 4 by decide), (show (4 : Int) ≤ 7 by decide), by rw [hu, hfl]⟩
      · cbv
        have ca : wbin .add .i64 4 1 = 5 := by rw [hbin]; rfl
        by_cases hb : f4 = 1
        · have cb : wcmp .eql f4 1 = true := by rw [hcmp]; simp [cmpStd, hb]
          have hbt := hf.h4.1 hb
          obtain ⟨ua, ea⟩ : ∃ z, z = u ++ (⟨#[32]⟩ : ByteArray) := ⟨_, rfl⟩
          obtain ⟨ub, eb⟩ : ∃ z, z = ua ++ (⟨#[115, 116, 105, 108, 108]⟩ : ByteArray) := ⟨_, rfl⟩
          have hfl : flN o 5 = flN o 4 ++ ([32] ++ [115, 116, 105, 108, 108]) := fl_some (o := o) (i := 4) (by show some (o.b5, _) = _; rw [hbt])
          have hub : ub = bk (L5 ++ flN o 5) := by rw [eb, ea, hu, hfl]; exact (congrArg (· ++ (⟨#[115, 116, 105, 108, 108]⟩ : ByteArray)) (bk_app (L5 ++ flN o 4) [32])).trans ((bk_app _ [115, 116, 105, 108, 108]).trans (by simp only [List.append_assoc]))
          have hua : ua = bk (L5 ++ flN o 4 ++ [32]) := by rw [ea, hu]; exact bk_app _ _
          have za : Sz ua := sz_bk (by have := len_fl o 4; simp only [List.length_append, List.length_cons, List.length_nil]; omega) hua
          have zb : Sz ub := sz_bk (by have := len_fl o 5; rw [List.length_append]; omega) hub
          have cu : wsadd u ⟨#[32]⟩ = ua := by rw [hsadd, ea]
          have cv : wsadd ua ⟨#[115, 116, 105, 108, 108]⟩ = ub := by rw [hsadd, eb]
          repeat' (first
            | (refine InN.mk (by decide) (by decide) ?_)
            | (refine Le.mk (by rw [hslen]; exact Sz.le (by assumption)) ?_; try cbv)
            | (simp only [cu, cv])
            | (simp only [cb]; cbv))
          simp only [ca]
          refine hN2 (5, ub) _ _ ?hx ?hi (show ((7 : Int) - 5).toNat < ((7 : Int) - 4).toNat by decide)
          case hx => (refine Wk.eqz (id) (by first | exact fun i _ j _ e => e | (simp only [List.length_cons, List.length_nil]; decide)) ?_; cbv; (repeat' (first | exact trivial | rfl | assumption | apply And.intro | (simp only [hbin, hcmp, hun, hconv, hnot, hbeq, hmm, hscmp, hsadd, hslen, hsat, heqs, hofNat, binStd, cmpStd, unStd, scmpStd, maxI, Bool.not_eq_true', Bool.not_eq_false', decide_eq_true_eq, decide_eq_false_iff_not, Int.not_lt, Int.not_le, if_true, if_false, Bool.false_eq_true, beq_iff_eq, bne_iff_ne, ne_eq, Bool.not_eq_eq_eq_not, Bool.not_true, Bool.not_false, beq_eq_false_iff_ne, bne_eq_false_iff_eq, Int.ofNat_eq_natCast, Bool.not_not, not_true_eq_false, not_false_eq_true, reduceCtorEq]; first | done | assumption) | exact RowsZ.same (by assumption) (by first | assumption | rfl) | exact FzL.mk rfl rfl rfl (by assumption) (by first | assumption | rfl) (by decide) | (refine RowsZ.one ?_; cbv))))
          case hi => exact ⟨(show (0 : Int) ≤ 5 by decide), (show (5 : Int) ≤ 7 by decide), hub⟩
        · have cb : wcmp .eql f4 1 = false := by rw [hcmp]; simp [cmpStd, hb]
          have hbt : o.b5 = false := by
            cases hx : o.b5
            · rfl
            · exact absurd (hf.h4.2 hx) hb
          have hfl : flN o 5 = flN o 4 := fl_none (o := o) (i := 4) (x := [115, 116, 105, 108, 108]) (by show some (o.b5, _) = _; rw [hbt])
          repeat' (first
            | (refine InN.mk (by decide) (by decide) ?_)
            | (simp only [cb]; cbv))
          simp only [ca]
          refine hN2 (5, u) _ _ ?hx ?hi (show ((7 : Int) - 5).toNat < ((7 : Int) - 4).toNat by decide)
          case hx => (refine Wk.eqz (id) (by first | exact fun i _ j _ e => e | (simp only [List.length_cons, List.length_nil]; decide)) ?_; cbv; (repeat' (first | exact trivial | rfl | assumption | apply And.intro | (simp only [hbin, hcmp, hun, hconv, hnot, hbeq, hmm, hscmp, hsadd, hslen, hsat, heqs, hofNat, binStd, cmpStd, unStd, scmpStd, maxI, Bool.not_eq_true', Bool.not_eq_false', decide_eq_true_eq, decide_eq_false_iff_not, Int.not_lt, Int.not_le, if_true, if_false, Bool.false_eq_true, beq_iff_eq, bne_iff_ne, ne_eq, Bool.not_eq_eq_eq_not, Bool.not_true, Bool.not_false, beq_eq_false_iff_ne, bne_eq_false_iff_eq, Int.ofNat_eq_natCast, Bool.not_not, not_true_eq_false, not_false_eq_true, reduceCtorEq]; first | done | assumption) | exact RowsZ.same (by assumption) (by first | assumption | rfl) | exact FzL.mk rfl rfl rfl (by assumption) (by first | assumption | rfl) (by decide) | (refine RowsZ.one ?_; cbv))))
          case hi => exact ⟨(show (0 : Int) ≤ 5 by decide), (show (5 : Int) ≤ 7 by decide), by rw [hu, hfl]⟩
      · cbv
        have ca : wbin .add .i64 5 1 = 6 := by rw [hbin]; rfl
        by_cases hb : f5 = 1
        · have cb : wcmp .eql f5 1 = true := by rw [hcmp]; simp [cmpStd, hb]
          have hbt := hf.h5.1 hb
          obtain ⟨ua, ea⟩ : ∃ z, z = u ++ (⟨#[32]⟩ : ByteArray) := ⟨_, rfl⟩
          obtain ⟨ub, eb⟩ : ∃ z, z = ua ++ (⟨#[114, 111, 108, 108]⟩ : ByteArray) := ⟨_, rfl⟩
          have hfl : flN o 6 = flN o 5 ++ ([32] ++ [114, 111, 108, 108]) := fl_some (o := o) (i := 5) (by show some (o.b6, _) = _; rw [hbt])
          have hub : ub = bk (L5 ++ flN o 6) := by rw [eb, ea, hu, hfl]; exact (congrArg (· ++ (⟨#[114, 111, 108, 108]⟩ : ByteArray)) (bk_app (L5 ++ flN o 5) [32])).trans ((bk_app _ [114, 111, 108, 108]).trans (by simp only [List.append_assoc]))
          have hua : ua = bk (L5 ++ flN o 5 ++ [32]) := by rw [ea, hu]; exact bk_app _ _
          have za : Sz ua := sz_bk (by have := len_fl o 5; simp only [List.length_append, List.length_cons, List.length_nil]; omega) hua
          have zb : Sz ub := sz_bk (by have := len_fl o 6; rw [List.length_append]; omega) hub
          have cu : wsadd u ⟨#[32]⟩ = ua := by rw [hsadd, ea]
          have cv : wsadd ua ⟨#[114, 111, 108, 108]⟩ = ub := by rw [hsadd, eb]
          repeat' (first
            | (refine InN.mk (by decide) (by decide) ?_)
            | (refine Le.mk (by rw [hslen]; exact Sz.le (by assumption)) ?_; try cbv)
            | (simp only [cu, cv])
            | (simp only [cb]; cbv))
          simp only [ca]
          refine hN2 (6, ub) _ _ ?hx ?hi (show ((7 : Int) - 6).toNat < ((7 : Int) - 5).toNat by decide)
          case hx => (refine Wk.eqz (id) (by first | exact fun i _ j _ e => e | (simp only [List.length_cons, List.length_nil]; decide)) ?_; cbv; (repeat' (first | exact trivial | rfl | assumption | apply And.intro | (simp only [hbin, hcmp, hun, hconv, hnot, hbeq, hmm, hscmp, hsadd, hslen, hsat, heqs, hofNat, binStd, cmpStd, unStd, scmpStd, maxI, Bool.not_eq_true', Bool.not_eq_false', decide_eq_true_eq, decide_eq_false_iff_not, Int.not_lt, Int.not_le, if_true, if_false, Bool.false_eq_true, beq_iff_eq, bne_iff_ne, ne_eq, Bool.not_eq_eq_eq_not, Bool.not_true, Bool.not_false, beq_eq_false_iff_ne, bne_eq_false_iff_eq, Int.ofNat_eq_natCast, Bool.not_not, not_true_eq_false, not_false_eq_true, reduceCtorEq]; first | done | assumption) | exact RowsZ.same (by assumption) (by first | assumption | rfl) | exact FzL.mk rfl rfl rfl (by assumption) (by first | assumption | rfl) (by decide) | (refine RowsZ.one ?_; cbv))))
          case hi => exact ⟨(show (0 : Int) ≤ 6 by decide), (show (6 : Int) ≤ 7 by decide), hub⟩
        · have cb : wcmp .eql f5 1 = false := by rw [hcmp]; simp [cmpStd, hb]
          have hbt : o.b6 = false := by
            cases hx : o.b6
            · rfl
            · exact absurd (hf.h5.2 hx) hb
          have hfl : flN o 6 = flN o 5 := fl_none (o := o) (i := 5) (x := [114, 111, 108, 108]) (by show some (o.b6, _) = _; rw [hbt])
          repeat' (first
            | (refine InN.mk (by decide) (by decide) ?_)
            | (simp only [cb]; cbv))
          simp only [ca]
          refine hN2 (6, u) _ _ ?hx ?hi (show ((7 : Int) - 6).toNat < ((7 : Int) - 5).toNat by decide)
          case hx => (refine Wk.eqz (id) (by first | exact fun i _ j _ e => e | (simp only [List.length_cons, List.length_nil]; decide)) ?_; cbv; (repeat' (first | exact trivial | rfl | assumption | apply And.intro | (simp only [hbin, hcmp, hun, hconv, hnot, hbeq, hmm, hscmp, hsadd, hslen, hsat, heqs, hofNat, binStd, cmpStd, unStd, scmpStd, maxI, Bool.not_eq_true', Bool.not_eq_false', decide_eq_true_eq, decide_eq_false_iff_not, Int.not_lt, Int.not_le, if_true, if_false, Bool.false_eq_true, beq_iff_eq, bne_iff_ne, ne_eq, Bool.not_eq_eq_eq_not, Bool.not_true, Bool.not_false, beq_eq_false_iff_ne, bne_eq_false_iff_eq, Int.ofNat_eq_natCast, Bool.not_not, not_true_eq_false, not_false_eq_true, reduceCtorEq]; first | done | assumption) | exact RowsZ.same (by assumption) (by first | assumption | rfl) | exact FzL.mk rfl rfl rfl (by assumption) (by first | assumption | rfl) (by decide) | (refine RowsZ.one ?_; cbv))))
          case hi => exact ⟨(show (0 : Int) ≤ 6 by decide), (show (6 : Int) ≤ 7 by decide), by rw [hu, hfl]⟩
      · cbv
        have ca : wbin .add .i64 6 1 = 7 := by rw [hbin]; rfl
        by_cases hb : f6 = 1
        · have cb : wcmp .eql f6 1 = true := by rw [hcmp]; simp [cmpStd, hb]
          have hbt := hf.h6.1 hb
          obtain ⟨ua, ea⟩ : ∃ z, z = u ++ (⟨#[32]⟩ : ByteArray) := ⟨_, rfl⟩
          obtain ⟨ub, eb⟩ : ∃ z, z = ua ++ (⟨#[111, 118, 101, 114]⟩ : ByteArray) := ⟨_, rfl⟩
          have hfl : flN o 7 = flN o 6 ++ ([32] ++ [111, 118, 101, 114]) := fl_some (o := o) (i := 6) (by show some (o.b7, _) = _; rw [hbt])
          have hub : ub = bk (L5 ++ flN o 7) := by rw [eb, ea, hu, hfl]; exact (congrArg (· ++ (⟨#[111, 118, 101, 114]⟩ : ByteArray)) (bk_app (L5 ++ flN o 6) [32])).trans ((bk_app _ [111, 118, 101, 114]).trans (by simp only [List.append_assoc]))
          have hua : ua = bk (L5 ++ flN o 6 ++ [32]) := by rw [ea, hu]; exact bk_app _ _
          have za : Sz ua := sz_bk (by have := len_fl o 6; simp only [List.length_append, List.length_cons, List.length_nil]; omega) hua
          have zb : Sz ub := sz_bk (by have := len_fl o 7; rw [List.length_append]; omega) hub
          have cu : wsadd u ⟨#[32]⟩ = ua := by rw [hsadd, ea]
          have cv : wsadd ua ⟨#[111, 118, 101, 114]⟩ = ub := by rw [hsadd, eb]
          repeat' (first
            | (refine InN.mk (by decide) (by decide) ?_)
            | (refine Le.mk (by rw [hslen]; exact Sz.le (by assumption)) ?_; try cbv)
            | (simp only [cu, cv])
            | (simp only [cb]; cbv))
          simp only [ca]
          refine hN2 (7, ub) _ _ ?hx ?hi (show ((7 : Int) - 7).toNat < ((7 : Int) - 6).toNat by decide)
          case hx => (refine Wk.eqz (id) (by first | exact fun i _ j _ e => e | (simp only [List.length_cons, List.length_nil]; decide)) ?_; cbv; (repeat' (first | exact trivial | rfl | assumption | apply And.intro | (simp only [hbin, hcmp, hun, hconv, hnot, hbeq, hmm, hscmp, hsadd, hslen, hsat, heqs, hofNat, binStd, cmpStd, unStd, scmpStd, maxI, Bool.not_eq_true', Bool.not_eq_false', decide_eq_true_eq, decide_eq_false_iff_not, Int.not_lt, Int.not_le, if_true, if_false, Bool.false_eq_true, beq_iff_eq, bne_iff_ne, ne_eq, Bool.not_eq_eq_eq_not, Bool.not_true, Bool.not_false, beq_eq_false_iff_ne, bne_eq_false_iff_eq, Int.ofNat_eq_natCast, Bool.not_not, not_true_eq_false, not_false_eq_true, reduceCtorEq]; first | done | assumption) | exact RowsZ.same (by assumption) (by first | assumption | rfl) | exact FzL.mk rfl rfl rfl (by assumption) (by first | assumption | rfl) (by decide) | (refine RowsZ.one ?_; cbv))))
          case hi => exact ⟨(show (0 : Int) ≤ 7 by decide), (show (7 : Int) ≤ 7 by decide), hub⟩
        · have cb : wcmp .eql f6 1 = false := by rw [hcmp]; simp [cmpStd, hb]
          have hbt : o.b7 = false := by
            cases hx : o.b7
            · rfl
            · exact absurd (hf.h6.2 hx) hb
          have hfl : flN o 7 = flN o 6 := fl_none (o := o) (i := 6) (x := [111, 118, 101, 114]) (by show some (o.b7, _) = _; rw [hbt])
          repeat' (first
            | (refine InN.mk (by decide) (by decide) ?_)
            | (simp only [cb]; cbv))
          simp only [ca]
          refine hN2 (7, u) _ _ ?hx ?hi (show ((7 : Int) - 7).toNat < ((7 : Int) - 6).toNat by decide)
          case hx => (refine Wk.eqz (id) (by first | exact fun i _ j _ e => e | (simp only [List.length_cons, List.length_nil]; decide)) ?_; cbv; (repeat' (first | exact trivial | rfl | assumption | apply And.intro | (simp only [hbin, hcmp, hun, hconv, hnot, hbeq, hmm, hscmp, hsadd, hslen, hsat, heqs, hofNat, binStd, cmpStd, unStd, scmpStd, maxI, Bool.not_eq_true', Bool.not_eq_false', decide_eq_true_eq, decide_eq_false_iff_not, Int.not_lt, Int.not_le, if_true, if_false, Bool.false_eq_true, beq_iff_eq, bne_iff_ne, ne_eq, Bool.not_eq_eq_eq_not, Bool.not_true, Bool.not_false, beq_eq_false_iff_ne, bne_eq_false_iff_eq, Int.ofNat_eq_natCast, Bool.not_not, not_true_eq_false, not_false_eq_true, reduceCtorEq]; first | done | assumption) | exact RowsZ.same (by assumption) (by first | assumption | rfl) | exact FzL.mk rfl rfl rfl (by assumption) (by first | assumption | rfl) (by decide) | (refine RowsZ.one ?_; cbv))))
          case hi => exact ⟨(show (0 : Int) ≤ 7 by decide), (show (7 : Int) ≤ 7 by decide), by rw [hu, hfl]⟩
    · refine hE2 _ _ _ ?_
      cbv
      have e7 : i = 7 := by omega
      subst e7
      exact ⟨_, Vw.same rfl, hR _ (by rw [et', hu]; rfl)⟩
end Go.Proofs.YtikhbgnokkdpeaaDoor

/- Lines, plainly: what a line tells. -/
set_option linter.unusedVariables false
set_option linter.unusedSimpArgs false
namespace Go.Proofs.YtikhbgnokkdpeaaDoor
open Go
theorem no_byte {n : Int} {b : UInt8} (h1 : b.toNat ≠ 45) (h2 : b.toNat < 48 ∨ 57 < b.toNat) : b ∉ Lib.itoa n := fun h => by
  have := itoa_bytes h
  omega
theorem ends_inj {a b c d : Int} (h : endsL a b = endsL c d) : a = c ∧ b = d := by
  unfold endsL at h
  simp only [List.append_assoc, List.cons_append, List.nil_append] at h
  obtain ⟨h1, h2⟩ := cut_inj (no_byte (by decide) (by decide)) (no_byte (by decide) (by decide)) h
  exact ⟨itoa_inj h1, itoa_inj (List.cons.inj h2).2⟩
theorem said_mem {l : List (Bool × List UInt8)} {w : List UInt8} : w ∈ saidL l ↔ (true, w) ∈ l := by
  unfold saidL
  rw [List.mem_map]
  constructor
  · rintro ⟨⟨b, x⟩, h, rfl⟩
    obtain ⟨h1, h2⟩ := List.mem_filter.1 h
    simp only at h2
    subst h2
    exact h1
  · intro h
    exact ⟨(true, w), List.mem_filter.2 ⟨h, rfl⟩, rfl⟩
theorem said_words {o : Lr} {w : List UInt8} (h : w ∈ saidL (flagsL o)) : w = [99, 108, 101, 97, 110] ∨ w = [99, 111, 110, 102, 108, 105, 99, 116] ∨ w = [97, 99, 99, 101, 112, 116, 101, 100] ∨ w = [102, 97, 117, 108, 116] ∨ w = [115, 116, 105, 108, 108] ∨ w = [114, 111, 108, 108] ∨ w = [111, 118, 101, 114] := by
  rw [said_mem] at h
  unfold flagsL at h
  simp only [List.mem_cons, Prod.mk.injEq, List.not_mem_nil, or_false] at h
  rcases h with h | h | h | h | h | h | h
  · exact .inl h.2
  · exact .inr (.inl h.2)
  · exact .inr (.inr (.inl h.2))
  · exact .inr (.inr (.inr (.inl h.2)))
  · exact .inr (.inr (.inr (.inr (.inl h.2))))
  · exact .inr (.inr (.inr (.inr (.inr (.inl h.2)))))
  · exact .inr (.inr (.inr (.inr (.inr (.inr h.2)))))
theorem flag_mem (o : Lr) : (([99, 108, 101, 97, 110] ∈ saidL (flagsL o)) ↔ o.b1 = true) ∧ (([99, 111, 110, 102, 108, 105, 99, 116] ∈ saidL (flagsL o)) ↔ o.b2 = true) ∧ (([97, 99, 99, 101, 112, 116, 101, 100] ∈ saidL (flagsL o)) ↔ o.b3 = true) ∧ (([102, 97, 117, 108, 116] ∈ saidL (flagsL o)) ↔ o.b4 = true) ∧
    (([115, 116, 105, 108, 108] ∈ saidL (flagsL o)) ↔ o.b5 = true) ∧ (([114, 111, 108, 108] ∈ saidL (flagsL o)) ↔ o.b6 = true) ∧ (([111, 118, 101, 114] ∈ saidL (flagsL o)) ↔ o.b7 = true) := by
  simp only [said_mem]
  unfold flagsL
  refine ⟨?_, ?_, ?_, ?_, ?_, ?_, ?_⟩
  all_goals
    constructor
    · intro h
      simp only [List.mem_cons, Prod.mk.injEq, List.not_mem_nil, or_false] at h
      rcases h with h | h | h | h | h | h | h <;> first | exact h.1.symm | exact absurd h.2 (by decide)
    · intro h
      simp [h]
def sameB (o p : Lr) : Prop := o.c = p.c ∧ o.m = p.m ∧ o.slo = p.slo ∧ o.shi = p.shi ∧ o.fit = p.fit ∧ o.s0 = p.s0 ∧ o.s1 = p.s1 ∧ o.b1 = p.b1 ∧ o.b2 = p.b2 ∧ o.b3 = p.b3 ∧ o.b4 = p.b4 ∧ o.b5 = p.b5 ∧ o.b6 = p.b6 ∧ o.b7 = p.b7
theorem bool_iff {a b : Bool} {P : Prop} (h : P ↔ a = true) (k : P ↔ b = true) : a = b := by
  have e : a = true ↔ b = true := h.symm.trans k
  cases a <;> cases b <;> simp at e <;> rfl
theorem said_inj {o p : Lr} (h : saidL (flagsL o) = saidL (flagsL p)) : o.b1 = p.b1 ∧ o.b2 = p.b2 ∧ o.b3 = p.b3 ∧ o.b4 = p.b4 ∧ o.b5 = p.b5 ∧ o.b6 = p.b6 ∧ o.b7 = p.b7 := by
  obtain ⟨a1, a2, a3, a4, a5, a6, a7⟩ := flag_mem o
  obtain ⟨c1, c2, c3, c4, c5, c6, c7⟩ := flag_mem p
  rw [h] at a1 a2 a3 a4 a5 a6 a7
  exact ⟨bool_iff a1 c1, bool_iff a2 c2, bool_iff a3 c3, bool_iff a4 c4, bool_iff a5 c5, bool_iff a6 c6, bool_iff a7 c7⟩
theorem no32 {o : Lr} (hg : o.g = 0) : ∀ x, x ∈ wordsL o → (32 : UInt8) ∉ x := by
  have hi : ∀ n : Int, (32 : UInt8) ∉ Lib.itoa n := fun n => no_byte (by decide) (by decide)
  intro x hx
  unfold wordsL at hx
  simp only [List.mem_append] at hx
  rcases hx with (((hx | hx) | hx) | hx) | hx
  · simp only [List.mem_cons, List.not_mem_nil, or_false] at hx
    rcases hx with rfl | rfl
    · exact hi _
    · unfold modeL
      (repeat' split) <;> decide
  · unfold placedL at hx
    rw [if_pos hg] at hx
    cases hx
  · simp only [List.mem_cons, List.not_mem_nil, or_false] at hx
    rcases hx with rfl | rfl | rfl | rfl
    · decide
    · unfold endsL
      simp only [List.mem_append]
      rintro ((h | h) | h)
      · exact hi _ h
      · revert h; decide
      · exact hi _ h
    · decide
    · exact hi _
  · unfold slipL at hx
    split at hx
    · cases hx
    · simp only [List.mem_cons, List.not_mem_nil, or_false] at hx
      rcases hx with rfl | rfl | rfl
      · decide
      · exact hi _
      · exact hi _
  · rcases said_words hx with rfl | rfl | rfl | rfl | rfl | rfl | rfl <;> decide
theorem mode_inj {a b : Int} (ha : 1 ≤ a ∧ a ≤ 4) (hb : 1 ≤ b ∧ b ≤ 4) (h : modeL a = modeL b) : a = b := by
  have ha : a = 1 ∨ a = 2 ∨ a = 3 ∨ a = 4 := by omega
  have hb : b = 1 ∨ b = 2 ∨ b = 3 ∨ b = 4 := by omega
  rcases ha with rfl | rfl | rfl | rfl <;> rcases hb with rfl | rfl | rfl | rfl <;> first | rfl | (revert h; decide)
theorem line_inj {o p : Lr} (ho : o.g = 0) (hp : p.g = 0) (hm : 1 ≤ o.m ∧ o.m ≤ 4) (hn : 1 ≤ p.m ∧ p.m ≤ 4) (h : lineB o = lineB p) : sameB o p := by
  have h1 : Lib.join (wordsL o) [32] = Lib.join (wordsL p) [32] := congrArg tx h
  have h2 := join_inj (by unfold wordsL; simp) (by unfold wordsL; simp) (no32 ho) (no32 hp) h1
  unfold wordsL placedL at h2
  rw [if_pos ho, if_pos hp] at h2
  simp only [List.append_assoc, List.cons_append, List.nil_append, List.cons.injEq, true_and] at h2
  obtain ⟨k1, k2, k3, k4, k5⟩ := h2
  obtain ⟨k6, k7⟩ := ends_inj k3
  have hsl : ∀ (q : Lr) (l : List (List UInt8)), saidL (flagsL q) ≠ [115, 108, 105, 112] :: l := fun q l e => by
    have := said_words (o := q) (w := [115, 108, 105, 112]) (by rw [e]; simp)
    revert this; decide
  unfold slipL at k5
  split at k5 <;> split at k5
  · rename_i e1 e2
    obtain ⟨b1, b2, b3, b4, b5, b6, b7⟩ := said_inj k5
    exact ⟨itoa_inj k1, mode_inj hm hn k2, k6, k7, itoa_inj k4, by omega, by omega, b1, b2, b3, b4, b5, b6, b7⟩
  · exact absurd k5 (hsl _ _)
  · exact absurd k5.symm (hsl _ _)
  · simp only [List.cons_append, List.nil_append, List.cons.injEq, true_and] at k5
    obtain ⟨c1, c2, c3⟩ := k5
    obtain ⟨b1, b2, b3, b4, b5, b6, b7⟩ := said_inj c3
    exact ⟨itoa_inj k1, mode_inj hm hn k2, k6, k7, itoa_inj k4, itoa_inj c1, itoa_inj c2, b1, b2, b3, b4, b5, b6, b7⟩
theorem line_same {o p : Lr} (ho : o.g = 0) (hp : p.g = 0) (h : sameB o p) : lineB o = lineB p := by
  obtain ⟨h1, h2, h3, h4, h5, h6, h7, h8, h9, h10, h11, h12, h13, h14⟩ := h
  unfold lineB wordsL placedL slipL flagsL
  rw [if_pos ho, if_pos hp, h1, h2, h3, h4, h5, h6, h7, h8, h9, h10, h11, h12, h13, h14]
end Go.Proofs.YtikhbgnokkdpeaaDoor

/- The example, and lines that are apart, by the engine. -/
set_option linter.unusedVariables false
set_option linter.unusedSimpArgs false
namespace Go.Proofs.YtikhbgnokkdpeaaDoor
open Go Go.RowKit Go.Eng
set_option maxRecDepth 100000
def exR : Lr := ⟨3, 2, 7, -5, 25, 10, 9, 11, 0, 0, [[0, 1], [0, 2]], 3, true, false, 0, 0, false, false, false, false, false, 0, 0, 0, 0, 0, 0, 0, 0, 0, 0, 0⟩
def exS : ByteArray := ⟨#[51, 32, 108, 111, 99, 97, 116, 101, 100, 32, 103, 114, 111, 117, 112, 32, 55, 32, 97, 116, 32, 45, 53, 46, 46, 50, 53, 32, 101, 115, 116, 32, 49, 48, 32, 119, 97, 121, 115, 32, 48, 45, 49, 44, 48, 45, 50, 32, 115, 112, 101, 101, 100, 32, 57, 46, 46, 49, 49, 32, 102, 105, 116, 32, 51, 32, 99, 108, 101, 97, 110]⟩
theorem ex_line : lineB exR = exS := by
  have i0 : Lib.itoa 0 = [48] := by rw [itoa_small (by decide) (by decide)]; rfl
  have i1 : Lib.itoa 1 = [49] := by rw [itoa_small (by decide) (by decide)]; rfl
  have i2 : Lib.itoa 2 = [50] := by rw [itoa_small (by decide) (by decide)]; rfl
  have i3 : Lib.itoa 3 = [51] := by rw [itoa_small (by decide) (by decide)]; rfl
  have i5 : Lib.itoa 5 = [53] := by rw [itoa_small (by decide) (by decide)]; rfl
  have i7 : Lib.itoa 7 = [55] := by rw [itoa_small (by decide) (by decide)]; rfl
  have i9 : Lib.itoa 9 = [57] := by rw [itoa_small (by decide) (by decide)]; rfl
  have i10 : Lib.itoa 10 = [49, 48] := by rw [itoa_big (by decide)]; show Lib.itoa 1 ++ Lib.itoa 0 = _; rw [i1, i0]; rfl
  have i11 : Lib.itoa 11 = [49, 49] := by rw [itoa_big (by decide)]; show Lib.itoa 1 ++ Lib.itoa 1 = _; rw [i1]; rfl
  have i25 : Lib.itoa 25 = [50, 53] := by rw [itoa_big (by decide)]; show Lib.itoa 2 ++ Lib.itoa 5 = _; rw [i2, i5]; rfl
  have im5 : Lib.itoa (-5) = [45, 53] := by rw [itoa_neg' (by decide)]; show 45 :: Lib.itoa 5 = _; rw [i5]
  unfold lineB wordsL placedL slipL flagsL exR endsL waysL pathL
  simp only [List.map_cons, List.map_nil, i0, i1, i2, i3, i7, i9, i10, i11, i25, im5]
  rfl
theorem ex_ok : LrOk exR := by
  refine ⟨?_, ?_, ?_, ?_, ?_, ?_, ?_, ?_, ?_, ?_, fun r hr n hn => ?_⟩
  all_goals try (unfold In64 exR; decide)
  unfold exR at hr
  simp only [List.mem_cons, List.not_mem_nil, or_false] at hr
  rcases hr with rfl | rfl <;> (simp only [List.mem_cons, List.not_mem_nil, or_false] at hn; rcases hn with rfl | rfl <;> (unfold In64; decide))
theorem e_anchor25 : PCalls Tryd.prog 5 [] (· = .bool true) := by
  have ht := e_text exR ex_ok ⟨fun _ => by decide, fun _ r hr => by unfold exR at hr; simp only [List.mem_cons, List.not_mem_nil, or_false] at hr; rcases hr with rfl | rfl <;> decide⟩ _ rfl _ rfl
  rw [ex_line] at ht
  (refine PCalls.ofY Tryd.func5 (by kernel_rfl) (by kernel_rfl) fun w hw R hR => ?_); (subst hw); (conv => arg 2; cbv); (generalize hP : Tryd.prog = P); cbv
  refine Call.stepE (by rw [← hP]; exact ht) rfl ?_
  cbv
  exact ⟨_, Vw.same rfl, hR _ rfl⟩
theorem scmp_eql (a b : ByteArray) : scmpStd .eql a b = decide (a = b) := by
  have : scmpStd .eql a b = (a.toList == b.toList) := rfl
  rw [this]
  by_cases h : a = b
  · subst h; simp
  · have : ¬ a.toList = b.toList := fun e => h (Go.Eng.toList_inj e)
    simp [h, this]
theorem e_apart (o p : Lr) (ho : LrOk o) (hp : LrOk p) (qs ps : List (List AV)) (hqs : qs = o.rs.map (fun r => [AV.list 1 (r.map nxRow)])) (hps : ps = p.rs.map (fun r => [AV.list 1 (r.map nxRow)])) : PCalls Tryd.prog 4 [.agg (lrRow o qs), .agg (lrRow p ps)] (· = .bool true) := by
  obtain ⟨c, m, g, lo, hi, est, slo, shi, nom, dist, rs, fit, b1, b2, s0, s1, b3, b4, b5, b6, b7, mlo, mhi, perm, c0, c1, c2, c3, k0, k1, k2, k3⟩ := o
  obtain ⟨xc, xm, xg, xlo, xhi, xest, xslo, xshi, xnom, xdist, xrs, xfit, xb1, xb2, xs0, xs1, xb3, xb4, xb5, xb6, xb7, xmlo, xmhi, xperm, xc0, xc1, xc2, xc3, xk0, xk1, xk2, xk3⟩ := p
  obtain ⟨ta, eta⟩ : ∃ t, t = lineB ⟨c, m, 0, lo, hi, est, slo, shi, nom, dist, rs, fit, b1, b2, s0, s1, b3, b4, b5, b6, b7, mlo, mhi, perm, c0, c1, c2, c3, k0, k1, k2, k3⟩ := ⟨_, rfl⟩
  obtain ⟨tb, etb⟩ : ∃ t, t = lineB ⟨xc, xm, 0, xlo, xhi, xest, xslo, xshi, xnom, xdist, xrs, xfit, xb1, xb2, xs0, xs1, xb3, xb4, xb5, xb6, xb7, xmlo, xmhi, xperm, xc0, xc1, xc2, xc3, xk0, xk1, xk2, xk3⟩ := ⟨_, rfl⟩
  have qa := e_text ⟨c, m, 0, lo, hi, est, slo, shi, nom, dist, rs, fit, b1, b2, s0, s1, b3, b4, b5, b6, b7, mlo, mhi, perm, c0, c1, c2, c3, k0, k1, k2, k3⟩ ⟨ho.c, show In64 0 by unfold In64; decide, ho.lo, ho.hi, ho.est, ho.slo, ho.shi, ho.fit, ho.s0, ho.s1, ho.rs⟩ ⟨fun h => absurd rfl h, fun h => absurd rfl h⟩ qs hqs ta eta
  have qb := e_text ⟨xc, xm, 0, xlo, xhi, xest, xslo, xshi, xnom, xdist, xrs, xfit, xb1, xb2, xs0, xs1, xb3, xb4, xb5, xb6, xb7, xmlo, xmhi, xperm, xc0, xc1, xc2, xc3, xk0, xk1, xk2, xk3⟩ ⟨hp.c, show In64 0 by unfold In64; decide, hp.lo, hp.hi, hp.est, hp.slo, hp.shi, hp.fit, hp.s0, hp.s1, hp.rs⟩ ⟨fun h => absurd rfl h, fun h => absurd rfl h⟩ ps hps tb etb
  have huq : Up0 qs := by rw [hqs]; exact up_map (f := fun r => [AV.list 1 (r.map nxRow)]) (fun d => Up0.one (up_nx d) rfl) rs
  have hup : Up0 ps := by rw [hps]; exact up_map (f := fun r => [AV.list 1 (r.map nxRow)]) (fun d => Up0.one (up_nx d) rfl) xrs
  have hsame : 1 ≤ m → m ≤ 4 → 1 ≤ xm → xm ≤ 4 → (ta = tb ↔ (c = xc ∧ m = xm ∧ slo = xslo ∧ shi = xshi ∧ fit = xfit ∧ s0 = xs0 ∧ s1 = xs1 ∧ b1 = xb1 ∧ b2 = xb2 ∧ b3 = xb3 ∧ b4 = xb4 ∧ b5 = xb5 ∧ b6 = xb6 ∧ b7 = xb7)) := fun h1 h2 h3 h4 => by
    rw [eta, etb]
    exact ⟨fun h => line_inj rfl rfl ⟨h1, h2⟩ ⟨h3, h4⟩ h, fun h => line_same rfl rfl h⟩
  clear ho hp hqs hps eta etb
  (refine PCalls.ofY Tryd.func4 (by kernel_rfl) (by kernel_rfl) fun w hw R hR => ?_); (obtain ⟨wbin, wcmp, wun, wconv, wnot, wbeq, wmm, wscmp, wsadd, wslen, wsat, weqs, wlen, wnlen, wofNat, wtake, wdrop, wapp, wzero, wnat⟩ := w); (have hbin : wbin = binStd := congrArg Prims.bin hw); (have hcmp : wcmp = cmpStd := congrArg Prims.cmp hw); (have hun : wun = unStd := congrArg Prims.un hw); (have hconv : wconv = fun k n => k.wrap n := congrArg Prims.conv hw); (have hnot : wnot = fun b => !b := congrArg Prims.not hw); (have hbeq : wbeq = fun a b => a == b := congrArg Prims.beq hw); (have hmm : wmm = maxI := congrArg Prims.mm hw); (have hscmp : wscmp = scmpStd := congrArg Prims.scmp hw); (have hsadd : wsadd = fun x y => x ++ y := congrArg Prims.sadd hw); (have hslen : wslen = fun s => (s.size : Int) := congrArg Prims.slen hw); (have hsat : wsat = std.sat := congrArg Prims.sat hw); (have heqs : weqs = fun a b os => (eqOffs a b os).getD false := congrArg Prims.eqs hw); (have hlen : wlen = fun es => (es.length : Int) := congrArg Prims.len hw); (have hnlen : wnlen = fun es => es.length := congrArg Prims.nlen hw); (have hofNat : wofNat = (fun n : Nat => (n : Int)) := congrArg Prims.ofNat hw); (have htake : wtake = fun es b => es.take b.toNat := congrArg Prims.take hw); (have hdrop : wdrop = fun es a => es.drop a.toNat := congrArg Prims.drop hw); (have happ : wapp = fun a b => a ++ b := congrArg Prims.app hw); (have hzero : wzero = fun n z => List.replicate n.toNat z := congrArg Prims.zero hw); (have hnat : wnat = fun n => n.toNat := congrArg Prims.nat hw); (conv => arg 2; cbv); (generalize hP : Tryd.prog = P); cbv
  refine Call.stepE (by rw [← hP]; exact e_anchor25) rfl ?_
  cbv
  have n1 : wnot true = false := by rw [hnot]; rfl
  simp only [n1]
  cbv
  obtain ⟨e1, he1⟩ : ∃ e, weqs [.int .i64 slo, .int .i64 shi] [.int .i64 xslo, .int .i64 xshi] [(0, 1), (1, 1)] = e := ⟨_, rfl⟩
  obtain ⟨e2, he2⟩ : ∃ e, weqs [.int .i64 s0, .int .i64 s1] [.int .i64 xs0, .int .i64 xs1] [(0, 1), (1, 1)] = e := ⟨_, rfl⟩
  obtain ⟨e3, he3⟩ : ∃ e, weqs [.bool b1, .bool b2, .bool b3, .bool b4, .bool b5, .bool b6, .bool b7] [.bool xb1, .bool xb2, .bool xb3, .bool xb4, .bool xb5, .bool xb6, .bool xb7] [(0, 0), (1, 0), (2, 0), (3, 0), (4, 0), (5, 0), (6, 0)] = e := ⟨_, rfl⟩
  have g1 : e1 = true ↔ (slo = xslo ∧ shi = xshi) := by rw [← he1, heqs]; simp [eqOffs, eqA]
  have g2 : e2 = true ↔ (s0 = xs0 ∧ s1 = xs1) := by rw [← he2, heqs]; simp [eqOffs, eqA]
  have g3 : e3 = true ↔ (b1 = xb1 ∧ b2 = xb2 ∧ b3 = xb3 ∧ b4 = xb4 ∧ b5 = xb5 ∧ b6 = xb6 ∧ b7 = xb7) := by rw [← he3, heqs]; simp [eqOffs, eqA]
  have fin : ∀ X : Bool, (ta = tb ↔ X = true) → wbeq (wscmp .eql ta tb) X = true := fun X h => by
    rw [hbeq, hscmp]
    cases X
    · have : ¬ ta = tb := fun e => by simpa using h.1 e
      have h2 : scmpStd .eql ta tb = false := by rw [scmp_eql]; simp [this]
      simp [h2]
    · have h2 : scmpStd .eql ta tb = true := by rw [scmp_eql]; simp [h.2 rfl]
      simp [h2]
  repeat' (first
    | (exact ⟨_, Vw.same rfl, hR _ rfl⟩)
    | (split <;> rename_i h1 <;> (try (simp only [he1, he2] at h1)) <;> (try (simp only [hbin, hcmp, hun, hconv, hnot, hbeq, hmm, hscmp, hsadd, hslen, hsat, heqs, hofNat, binStd, cmpStd, unStd, scmpStd, maxI, Bool.not_eq_true', Bool.not_eq_false', decide_eq_true_eq, decide_eq_false_iff_not, Int.not_lt, Int.not_le, if_true, if_false, Bool.false_eq_true, beq_iff_eq, bne_iff_ne, ne_eq, Bool.not_eq_eq_eq_not, Bool.not_true, Bool.not_false, beq_eq_false_iff_ne, bne_eq_false_iff_eq, Int.ofNat_eq_natCast, Bool.not_not, not_true_eq_false, not_false_eq_true, reduceCtorEq] at h1)) <;> (try cbv)))
  all_goals
    simp only [he3]
    refine QCal.stepE (by rw [← hP]; exact qa) (by exact Bool.and_eq_true_iff.mpr ⟨Up0.one huq rfl, rfl⟩) ?_
    cbv
    refine QCal.stepE (by rw [← hP]; exact qb) (by exact Bool.and_eq_true_iff.mpr ⟨Up0.one hup rfl, rfl⟩) ?_
    cbv
    have hs := hsame (by omega) (by omega) (by omega) (by omega)
    refine ⟨_, Vw.same rfl, hR _ ?_⟩
    simp only [retOne]
    congr 1
    refine fin _ ?_
    rw [hs]
  all_goals first
    | (constructor
       · rintro ⟨a1, a2, a3, a4, a5, a6, a7, a8, a9, a10, a11, a12, a13, a14⟩
         exact g3.2 ⟨a8, a9, a10, a11, a12, a13, a14⟩
       · intro h
         obtain ⟨d1, d2, d3, d4, d5, d6, d7⟩ := g3.1 h
         obtain ⟨k1, k2⟩ := g1.1 (by assumption)
         obtain ⟨k3, k4⟩ := g2.1 (by assumption)
         exact ⟨by assumption, by assumption, k1, k2, by assumption, k3, k4, d1, d2, d3, d4, d5, d6, d7⟩)
    | (constructor
       · rintro ⟨a1, a2, a3, a4, a5, a6, a7, a8, a9, a10, a11, a12, a13, a14⟩
         first
           | (exfalso; omega)
           | exact h1.symm.trans (g1.2 ⟨a3, a4⟩)
           | exact h1.symm.trans (g2.2 ⟨a6, a7⟩)
       · intro h
         cases h)
end Go.Proofs.YtikhbgnokkdpeaaDoor

/- A report's line as the document has it, whatever its mode. -/
set_option linter.unusedVariables false
set_option linter.unusedSimpArgs false
namespace Go.Proofs.YtikhbgnokkdpeaaDoor
open Go Go.RowKit Go.Eng
set_option maxRecDepth 100000
def fi (b : Bool) : Int := if b then 1 else 0
theorem fi_ok (b : Bool) : fi b = 1 ↔ b = true := by cases b <;> simp [fi]
def refRow (o : Lr) (qs : List (List AV)) : List AV := [.int .i64 o.c, .int .i64 o.m, .int .i64 o.g, .int .i64 o.fit, .int .i64 o.lo, .int .i64 o.hi, .int .i64 o.slo, .int .i64 o.shi, .int .i64 o.est, .list 1 qs, .int .i64 o.s0, .int .i64 o.s1, .int .i64 (fi o.b1), .int .i64 (fi o.b2), .int .i64 (fi o.b3), .int .i64 (fi o.b4), .int .i64 (fi o.b5), .int .i64 (fi o.b6), .int .i64 (fi o.b7)]
theorem e_rtext (o : Lr) (h : LrOk o) (hs : LrSmall o) (qs : List (List AV)) (hqs : qs = o.rs.map (fun r => [AV.list 1 (r.map nxRow)])) (t : ByteArray) (et : t = lineB o) : PCalls Tryd.prog 7 [.agg (refRow o qs)] (· = .str t) := by
  have hf : FlOk o (fi o.b1) (fi o.b2) (fi o.b3) (fi o.b4) (fi o.b5) (fi o.b6) (fi o.b7) := ⟨fi_ok _, fi_ok _, fi_ok _, fi_ok _, fi_ok _, fi_ok _, fi_ok _⟩
  by_cases h0 : o.m < 1
  · exact e_rtext0 o h hs _ _ _ _ _ _ _ _ _ _ _ _ _ _ _ _ _ _ _ rfl rfl rfl rfl rfl rfl rfl rfl rfl rfl rfl rfl hf h0 qs hqs t et
  by_cases h5 : 4 < o.m
  · exact e_rtext5 o h hs _ _ _ _ _ _ _ _ _ _ _ _ _ _ _ _ _ _ _ rfl rfl rfl rfl rfl rfl rfl rfl rfl rfl rfl rfl hf h5 qs hqs t et
  have hm : o.m = 1 ∨ o.m = 2 ∨ o.m = 3 ∨ o.m = 4 := by omega
  rcases hm with hm | hm | hm | hm
  · exact e_rtext1 o h hs _ _ _ _ _ _ _ _ _ _ _ _ _ _ _ _ _ _ _ rfl rfl rfl rfl rfl rfl rfl rfl rfl rfl rfl rfl hf hm qs hqs t et
  · exact e_rtext2 o h hs _ _ _ _ _ _ _ _ _ _ _ _ _ _ _ _ _ _ _ rfl rfl rfl rfl rfl rfl rfl rfl rfl rfl rfl rfl hf hm qs hqs t et
  · exact e_rtext3 o h hs _ _ _ _ _ _ _ _ _ _ _ _ _ _ _ _ _ _ _ rfl rfl rfl rfl rfl rfl rfl rfl rfl rfl rfl rfl hf hm qs hqs t et
  · exact e_rtext4 o h hs _ _ _ _ _ _ _ _ _ _ _ _ _ _ _ _ _ _ _ rfl rfl rfl rfl rfl rfl rfl rfl rfl rfl rfl rfl hf hm qs hqs t et
theorem e_texts (o : Lr) (h : LrOk o) (hbig : ∀ r, r ∈ o.rs → r.length ≤ 140737488355328) (qs : List (List AV)) (hqs : qs = o.rs.map (fun r => [AV.list 1 (r.map nxRow)])) : PCalls Tryd.prog 3 [.agg (lrRow o qs)] (· = .bool true) := by
  obtain ⟨c, m, g, lo, hi, est, slo, shi, nom, dist, rs, fit, b1, b2, s0, s1, b3, b4, b5, b6, b7, mlo, mhi, perm, c0, c1, c2, c3, k0, k1, k2, k3⟩ := o
  have hbig : ∀ r, r ∈ rs → r.length ≤ 140737488355328 := hbig
  have huq : Up0 qs := by rw [hqs]; exact up_map (f := fun r => [AV.list 1 (r.map nxRow)]) (fun d => Up0.one (up_nx d) rfl) rs
  have hql : qs.length = rs.length := by rw [hqs]; simp
  (refine PCalls.ofY Tryd.func3 (by kernel_rfl) (by kernel_rfl) fun w hw R hR => ?_); (obtain ⟨wbin, wcmp, wun, wconv, wnot, wbeq, wmm, wscmp, wsadd, wslen, wsat, weqs, wlen, wnlen, wofNat, wtake, wdrop, wapp, wzero, wnat⟩ := w); (have hbin : wbin = binStd := congrArg Prims.bin hw); (have hcmp : wcmp = cmpStd := congrArg Prims.cmp hw); (have hun : wun = unStd := congrArg Prims.un hw); (have hconv : wconv = fun k n => k.wrap n := congrArg Prims.conv hw); (have hnot : wnot = fun b => !b := congrArg Prims.not hw); (have hbeq : wbeq = fun a b => a == b := congrArg Prims.beq hw); (have hmm : wmm = maxI := congrArg Prims.mm hw); (have hscmp : wscmp = scmpStd := congrArg Prims.scmp hw); (have hsadd : wsadd = fun x y => x ++ y := congrArg Prims.sadd hw); (have hslen : wslen = fun s => (s.size : Int) := congrArg Prims.slen hw); (have hsat : wsat = std.sat := congrArg Prims.sat hw); (have heqs : weqs = fun a b os => (eqOffs a b os).getD false := congrArg Prims.eqs hw); (have hlen : wlen = fun es => (es.length : Int) := congrArg Prims.len hw); (have hnlen : wnlen = fun es => es.length := congrArg Prims.nlen hw); (have hofNat : wofNat = (fun n : Nat => (n : Int)) := congrArg Prims.ofNat hw); (have htake : wtake = fun es b => es.take b.toNat := congrArg Prims.take hw); (have hdrop : wdrop = fun es a => es.drop a.toNat := congrArg Prims.drop hw); (have happ : wapp = fun a b => a ++ b := congrArg Prims.app hw); (have hzero : wzero = fun n z => List.replicate n.toNat z := congrArg Prims.zero hw); (have hnat : wnat = fun n => n.toNat := congrArg Prims.nat hw); (conv => arg 2; cbv); (generalize hP : Tryd.prog = P); cbv
  refine Call.stepE (by rw [← hP]; exact e_anchor25) rfl ?_
  cbv
  have n1 : wnot true = false := by rw [hnot]; rfl
  simp only [n1]
  cbv
  (obtain ⟨L, eL, L0, Ln⟩ : ∃ L : Int, wlen qs = L ∧ 0 ≤ L ∧ L.toNat = qs.length := ⟨(qs.length : Int), by rw [hlen], Int.natCast_nonneg _, Int.toNat_natCast _⟩)
  simp only [eL]
  (split <;> rename_i h0 <;> (try (simp only [hbin, hcmp, hun, hconv, hnot, hbeq, hmm, hscmp, hsadd, hslen, hsat, heqs, hofNat, binStd, cmpStd, unStd, scmpStd, maxI, Bool.not_eq_true', Bool.not_eq_false', decide_eq_true_eq, decide_eq_false_iff_not, Int.not_lt, Int.not_le, if_true, if_false, Bool.false_eq_true, beq_iff_eq, bne_iff_ne, ne_eq, Bool.not_eq_eq_eq_not, Bool.not_true, Bool.not_false, beq_eq_false_iff_ne, bne_eq_false_iff_eq, Int.ofNat_eq_natCast, Bool.not_not, not_true_eq_false, not_false_eq_true, reduceCtorEq] at h0)) <;> (try cbv))
  · exact ⟨_, Vw.same rfl, hR _ rfl⟩
  have hL100 : L ≤ 100 := by omega
  refine Loop.data hw (S := Int × Int) (fun s => fr 88 [(1, .ref 0 32 0 0), (3, .int .i64 s.2), (17, .list 1 qs), (18, .int .i64 L), (19, .int .i64 s.1)])
    (fun s => [.live 32 [[.int .i64 c, .int .i64 m, .int .i64 g, .int .i64 lo, .int .i64 hi, .int .i64 est, .int .i64 slo, .int .i64 shi, .int .i64 nom, .int .i64 dist, .list 1 qs, .int .i64 fit, .bool b1, .bool b2, .int .i64 s0, .int .i64 s1, .bool b3, .bool b4, .bool b5, .bool b6, .bool b7, .int .i64 mlo, .int .i64 mhi, .int .i64 perm, .int .i64 c0, .int .i64 c1, .int .i64 c2, .int .i64 c3, .int .i64 k0, .int .i64 k1, .int .i64 k2, .int .i64 k3]]])
    (fun s => 0 ≤ s.1 ∧ s.1 ≤ L ∧ 0 ≤ s.2 ∧ s.2 ≤ 1000 ∧ ∀ r, r ∈ rs.take s.1.toNat → r.length ≤ 1000) (fun s => (L - s.1).toNat) (0, L) (by (refine Wk.eqz (id) (by first | exact fun i _ j _ e => e | (simp only [List.length_cons, List.length_nil]; decide)) ?_; cbv; (repeat' (first | exact trivial | rfl | assumption | apply And.intro | (simp only [hbin, hcmp, hun, hconv, hnot, hbeq, hmm, hscmp, hsadd, hslen, hsat, heqs, hofNat, binStd, cmpStd, unStd, scmpStd, maxI, Bool.not_eq_true', Bool.not_eq_false', decide_eq_true_eq, decide_eq_false_iff_not, Int.not_lt, Int.not_le, if_true, if_false, Bool.false_eq_true, beq_iff_eq, bne_iff_ne, ne_eq, Bool.not_eq_eq_eq_not, Bool.not_true, Bool.not_false, beq_eq_false_iff_ne, bne_eq_false_iff_eq, Int.ofNat_eq_natCast, Bool.not_not, not_true_eq_false, not_false_eq_true, reduceCtorEq]; first | done | assumption) | exact RowsZ.same (by assumption) (by first | assumption | rfl) | exact FzL.mk rfl rfl rfl (by assumption) (by first | assumption | rfl) (by decide) | (refine RowsZ.one ?_; cbv))))) ⟨Int.le_refl 0, L0, L0, (show L ≤ 1000 by omega), fun r hr => by simp at hr⟩ ?_
  rintro ⟨i, n⟩ hinv Q' hN hE hR'
  have hinv : 0 ≤ i ∧ i ≤ L ∧ 0 ≤ n ∧ n ≤ 1000 ∧ ∀ r, r ∈ rs.take i.toNat → r.length ≤ 1000 := hinv
  cbv
  obtain ⟨hi0, hi1, hn0, hn1, hsm⟩ := hinv
  (split <;> rename_i hc <;> (try (simp only [hbin, hcmp, hun, hconv, hnot, hbeq, hmm, hscmp, hsadd, hslen, hsat, heqs, hofNat, binStd, cmpStd, unStd, scmpStd, maxI, Bool.not_eq_true', Bool.not_eq_false', decide_eq_true_eq, decide_eq_false_iff_not, Int.not_lt, Int.not_le, if_true, if_false, Bool.false_eq_true, beq_iff_eq, bne_iff_ne, ne_eq, Bool.not_eq_eq_eq_not, Bool.not_true, Bool.not_false, beq_eq_false_iff_ne, bne_eq_false_iff_eq, Int.ofNat_eq_natCast, Bool.not_not, not_true_eq_false, not_false_eq_true, reduceCtorEq] at hc)) <;> (try cbv))
  · obtain ⟨r, hr⟩ : ∃ r, rs[i.toNat]? = some r := ⟨_, List.getElem?_eq_getElem (show i.toNat < rs.length by omega)⟩
    obtain ⟨es, ees⟩ : ∃ z, z = r.map nxRow := ⟨_, rfl⟩
    have hel : es.length = r.length := by rw [ees]; simp
    have hq : qs[i.toNat]? = some [.list 1 es] := by rw [hqs, List.getElem?_map]; show (rs[i.toNat]?).map _ = _; rw [hr, ees]; rfl
    obtain ⟨i2, ei2⟩ : ∃ z, z = i + 1 := ⟨_, rfl⟩
    have a4 : wbin .add .i64 i 1 = i2 := by rw [hbin, i_add (by omega) (by omega), ei2]
    have hT : (L - i2).toNat < (L - i).toNat := by omega
    refine Idx.mk _ hi0 hq ?_
    cbv
    (obtain ⟨D, eD, D0, Dn⟩ : ∃ L : Int, wlen es = L ∧ 0 ≤ L ∧ L.toNat = es.length := ⟨(es.length : Int), by rw [hlen], Int.natCast_nonneg _, Int.toNat_natCast _⟩)
    simp only [eD]
    have hrl := hbig r (List.mem_of_getElem? hr)
    obtain ⟨n2, en2⟩ : ∃ z, z = n + D := ⟨_, rfl⟩
    have a5 : wbin .add .i64 n D = n2 := by rw [hbin, i_add (by omega) (by omega), en2]
    simp only [a5]
    (split <;> rename_i hg <;> (try (simp only [hbin, hcmp, hun, hconv, hnot, hbeq, hmm, hscmp, hsadd, hslen, hsat, heqs, hofNat, binStd, cmpStd, unStd, scmpStd, maxI, Bool.not_eq_true', Bool.not_eq_false', decide_eq_true_eq, decide_eq_false_iff_not, Int.not_lt, Int.not_le, if_true, if_false, Bool.false_eq_true, beq_iff_eq, bne_iff_ne, ne_eq, Bool.not_eq_eq_eq_not, Bool.not_true, Bool.not_false, beq_eq_false_iff_ne, bne_eq_false_iff_eq, Int.ofNat_eq_natCast, Bool.not_not, not_true_eq_false, not_false_eq_true, reduceCtorEq] at hg)) <;> (try cbv))
    · exact hR' _ _ ⟨_, Vw.same rfl, hR _ rfl⟩
    simp only [a4]
    refine hN (i2, n2) _ _ ?hx ?hi hT
    case hx => (refine Wk.eqz (id) (by first | exact fun i _ j _ e => e | (simp only [List.length_cons, List.length_nil]; decide)) ?_; cbv; (repeat' (first | exact trivial | rfl | assumption | apply And.intro | (simp only [hbin, hcmp, hun, hconv, hnot, hbeq, hmm, hscmp, hsadd, hslen, hsat, heqs, hofNat, binStd, cmpStd, unStd, scmpStd, maxI, Bool.not_eq_true', Bool.not_eq_false', decide_eq_true_eq, decide_eq_false_iff_not, Int.not_lt, Int.not_le, if_true, if_false, Bool.false_eq_true, beq_iff_eq, bne_iff_ne, ne_eq, Bool.not_eq_eq_eq_not, Bool.not_true, Bool.not_false, beq_eq_false_iff_ne, bne_eq_false_iff_eq, Int.ofNat_eq_natCast, Bool.not_not, not_true_eq_false, not_false_eq_true, reduceCtorEq]; first | done | assumption) | exact RowsZ.same (by assumption) (by first | assumption | rfl) | exact FzL.mk rfl rfl rfl (by assumption) (by first | assumption | rfl) (by decide) | (refine RowsZ.one ?_; cbv))))
    case hi =>
      refine ⟨by simp only; omega, by simp only; omega, by simp only; omega, by simp only; omega, fun x hx => ?_⟩
      simp only at hx
      rw [show i2.toNat = i.toNat + 1 by omega, List.take_add_one, hr] at hx
      rcases List.mem_append.1 hx with hx | hx
      · exact hsm x hx
      · simp at hx; subst hx; omega
  · refine hE _ _ _ ?_
    cbv
    have hsm : ∀ r, r ∈ rs → r.length ≤ 1000 := by rw [List.take_of_length_le (by omega)] at hsm; exact hsm
    have hO : LrOk ⟨c, m, g, lo, hi, est, slo, shi, nom, dist, rs, fit, b1, b2, s0, s1, b3, b4, b5, b6, b7, mlo, mhi, perm, c0, c1, c2, c3, k0, k1, k2, k3⟩ := h
    have hS : LrSmall ⟨c, m, g, lo, hi, est, slo, shi, nom, dist, rs, fit, b1, b2, s0, s1, b3, b4, b5, b6, b7, mlo, mhi, perm, c0, c1, c2, c3, k0, k1, k2, k3⟩ := ⟨fun _ => (by show rs.length ≤ 1000; omega), fun _ => hsm⟩
    obtain ⟨t, et⟩ : ∃ t, t = lineB ⟨c, m, g, lo, hi, est, slo, shi, nom, dist, rs, fit, b1, b2, s0, s1, b3, b4, b5, b6, b7, mlo, mhi, perm, c0, c1, c2, c3, k0, k1, k2, k3⟩ := ⟨_, rfl⟩
    have qa := e_text _ hO hS qs hqs t et
    have qb := e_rtext _ hO hS qs hqs t et
    refine Loop.data hw (S := Int × Int × Int × Int × Int × Int × Int × Int) (fun s => fr 88 [(1, .ref 0 32 0 0), (6, .ref 1 19 0 0), (73, .agg [.bool b1, .bool b2, .bool b3, .bool b4, .bool b5, .bool b6, .bool b7]), (74, .int .i64 s.1)])
      (fun s => [.live 32 [[.int .i64 c, .int .i64 m, .int .i64 g, .int .i64 lo, .int .i64 hi, .int .i64 est, .int .i64 slo, .int .i64 shi, .int .i64 nom, .int .i64 dist, .list 1 qs, .int .i64 fit, .bool b1, .bool b2, .int .i64 s0, .int .i64 s1, .bool b3, .bool b4, .bool b5, .bool b6, .bool b7, .int .i64 mlo, .int .i64 mhi, .int .i64 perm, .int .i64 c0, .int .i64 c1, .int .i64 c2, .int .i64 c3, .int .i64 k0, .int .i64 k1, .int .i64 k2, .int .i64 k3]], .live 19 [[.int .i64 c, .int .i64 m, .int .i64 g, .int .i64 fit, .int .i64 lo, .int .i64 hi, .int .i64 slo, .int .i64 shi, .int .i64 est, .list 1 qs, .int .i64 s0, .int .i64 s1, .int .i64 (s.2.1), .int .i64 (s.2.2.1), .int .i64 (s.2.2.2.1), .int .i64 (s.2.2.2.2.1), .int .i64 (s.2.2.2.2.2.1), .int .i64 (s.2.2.2.2.2.2.1), .int .i64 (s.2.2.2.2.2.2.2)]]])
      (fun s => 0 ≤ s.1 ∧ s.1 ≤ 7 ∧ (s.2.1) = (if (0 : Int) < s.1 then fi b1 else 0) ∧ (s.2.2.1) = (if (1 : Int) < s.1 then fi b2 else 0) ∧ (s.2.2.2.1) = (if (2 : Int) < s.1 then fi b3 else 0) ∧ (s.2.2.2.2.1) = (if (3 : Int) < s.1 then fi b4 else 0) ∧ (s.2.2.2.2.2.1) = (if (4 : Int) < s.1 then fi b5 else 0) ∧ (s.2.2.2.2.2.2.1) = (if (5 : Int) < s.1 then fi b6 else 0) ∧ (s.2.2.2.2.2.2.2) = (if (6 : Int) < s.1 then fi b7 else 0)) (fun s => (7 - s.1).toNat) (0, 0, 0, 0, 0, 0, 0, 0) (by (refine Wk.eqz (id) (by first | exact fun i _ j _ e => e | (simp only [List.length_cons, List.length_nil]; decide)) ?_; cbv; (repeat' (first | exact trivial | rfl | assumption | apply And.intro | (simp only [hbin, hcmp, hun, hconv, hnot, hbeq, hmm, hscmp, hsadd, hslen, hsat, heqs, hofNat, binStd, cmpStd, unStd, scmpStd, maxI, Bool.not_eq_true', Bool.not_eq_false', decide_eq_true_eq, decide_eq_false_iff_not, Int.not_lt, Int.not_le, if_true, if_false, Bool.false_eq_true, beq_iff_eq, bne_iff_ne, ne_eq, Bool.not_eq_eq_eq_not, Bool.not_true, Bool.not_false, beq_eq_false_iff_ne, bne_eq_false_iff_eq, Int.ofNat_eq_natCast, Bool.not_not, not_true_eq_false, not_false_eq_true, reduceCtorEq]; first | done | assumption) | exact RowsZ.same (by assumption) (by first | assumption | rfl) | exact FzL.mk rfl rfl rfl (by assumption) (by first | assumption | rfl) (by decide) | (refine RowsZ.one ?_; cbv))))) ⟨Int.le_refl 0, (show (0 : Int) ≤ 7 by decide), rfl, rfl, rfl, rfl, rfl, rfl, rfl⟩ ?_
    rintro ⟨i, f0, f1, f2, f3, f4, f5, f6⟩ hinv2 Q2 hN2 hE2 hR2
    have hinv2 : 0 ≤ i ∧ i ≤ 7 ∧ f0 = (if (0 : Int) < i then fi b1 else 0) ∧ f1 = (if (1 : Int) < i then fi b2 else 0) ∧ f2 = (if (2 : Int) < i then fi b3 else 0) ∧ f3 = (if (3 : Int) < i then fi b4 else 0) ∧ f4 = (if (4 : Int) < i then fi b5 else 0) ∧ f5 = (if (5 : Int) < i then fi b6 else 0) ∧ f6 = (if (6 : Int) < i then fi b7 else 0) := hinv2
    cbv
    obtain ⟨hj0, hj7, x0, x1, x2, x3, x4, x5, x6⟩ := hinv2
    (split <;> rename_i hd <;> (try (simp only [hbin, hcmp, hun, hconv, hnot, hbeq, hmm, hscmp, hsadd, hslen, hsat, heqs, hofNat, binStd, cmpStd, unStd, scmpStd, maxI, Bool.not_eq_true', Bool.not_eq_false', decide_eq_true_eq, decide_eq_false_iff_not, Int.not_lt, Int.not_le, if_true, if_false, Bool.false_eq_true, beq_iff_eq, bne_iff_ne, ne_eq, Bool.not_eq_eq_eq_not, Bool.not_true, Bool.not_false, beq_eq_false_iff_ne, bne_eq_false_iff_eq, Int.ofNat_eq_natCast, Bool.not_not, not_true_eq_false, not_false_eq_true, reduceCtorEq] at hd)) <;> (try cbv))
    · have hi : i = 0 ∨ i = 1 ∨ i = 2 ∨ i = 3 ∨ i = 4 ∨ i = 5 ∨ i = 6 := by omega
      rcases hi with rfl | rfl | rfl | rfl | rfl | rfl | rfl
      · have ca : wbin .add .i64 0 1 = 1 := by rw [hbin]; rfl
        cases b1
        · cbv
          refine InN.mk (by decide) (by decide) ?_
          simp only [ca]
          refine hN2 (1, f0, f1, f2, f3, f4, f5, f6) _ _ ?hx ?hi (show ((7 : Int) - 1).toNat < ((7 : Int) - 0).toNat by decide)
          case hx => (refine Wk.eqz (id) (by first | exact fun i _ j _ e => e | (simp only [List.length_cons, List.length_nil]; decide)) ?_; cbv; (repeat' (first | exact trivial | rfl | assumption | apply And.intro | (simp only [hbin, hcmp, hun, hconv, hnot, hbeq, hmm, hscmp, hsadd, hslen, hsat, heqs, hofNat, binStd, cmpStd, unStd, scmpStd, maxI, Bool.not_eq_true', Bool.not_eq_false', decide_eq_true_eq, decide_eq_false_iff_not, Int.not_lt, Int.not_le, if_true, if_false, Bool.false_eq_true, beq_iff_eq, bne_iff_ne, ne_eq, Bool.not_eq_eq_eq_not, Bool.not_true, Bool.not_false, beq_eq_false_iff_ne, bne_eq_false_iff_eq, Int.ofNat_eq_natCast, Bool.not_not, not_true_eq_false, not_false_eq_true, reduceCtorEq]; first | done | assumption) | exact RowsZ.same (by assumption) (by first | assumption | rfl) | exact FzL.mk rfl rfl rfl (by assumption) (by first | assumption | rfl) (by decide) | (refine RowsZ.one ?_; cbv))))
          case hi => exact ⟨(show (0 : Int) ≤ 1 by decide), (show (1 : Int) ≤ 7 by decide), x0, x1, x2, x3, x4, x5, x6⟩
        · cbv
          refine InN.mk (by decide) (by decide) ?_
          cbv
          refine InN.mk (by decide) (by decide) ?_
          simp only [ca]
          refine hN2 (1, 1, f1, f2, f3, f4, f5, f6) _ _ ?hx ?hi (show ((7 : Int) - 1).toNat < ((7 : Int) - 0).toNat by decide)
          case hx => (refine Wk.eqz (id) (by first | exact fun i _ j _ e => e | (simp only [List.length_cons, List.length_nil]; decide)) ?_; cbv; (repeat' (first | exact trivial | rfl | assumption | apply And.intro | (simp only [hbin, hcmp, hun, hconv, hnot, hbeq, hmm, hscmp, hsadd, hslen, hsat, heqs, hofNat, binStd, cmpStd, unStd, scmpStd, maxI, Bool.not_eq_true', Bool.not_eq_false', decide_eq_true_eq, decide_eq_false_iff_not, Int.not_lt, Int.not_le, if_true, if_false, Bool.false_eq_true, beq_iff_eq, bne_iff_ne, ne_eq, Bool.not_eq_eq_eq_not, Bool.not_true, Bool.not_false, beq_eq_false_iff_ne, bne_eq_false_iff_eq, Int.ofNat_eq_natCast, Bool.not_not, not_true_eq_false, not_false_eq_true, reduceCtorEq]; first | done | assumption) | exact RowsZ.same (by assumption) (by first | assumption | rfl) | exact FzL.mk rfl rfl rfl (by assumption) (by first | assumption | rfl) (by decide) | (refine RowsZ.one ?_; cbv))))
          case hi => exact ⟨(show (0 : Int) ≤ 1 by decide), (show (1 : Int) ≤ 7 by decide), rfl, x1, x2, x3, x4, x5, x6⟩
      · have ca : wbin .add .i64 1 1 = 2 := by rw [hbin]; rfl
        cases b2
        · cbv
          refine InN.mk (by decide) (by decide) ?_
          simp only [ca]
          refine hN2 (2, f0, f1, f2, f3, f4, f5, f6) _ _ ?hx ?hi (show ((7 : Int) - 2).toNat < ((7 : Int) - 1).toNat by decide)
          case hx => (refine Wk.eqz (id) (by first | exact fun i _ j _ e => e | (simp only [List.length_cons, List.length_nil]; decide)) ?_; cbv; (repeat' (first | exact trivial | rfl | assumption | apply And.intro | (simp only [hbin, hcmp, hun, hconv, hnot, hbeq, hmm, hscmp, hsadd, hslen, hsat, heqs, hofNat, binStd, cmpStd, unStd, scmpStd, maxI, Bool.not_eq_true', Bool.not_eq_false', decide_eq_true_eq, decide_eq_false_iff_not, Int.not_lt, Int.not_le, if_true, if_false, Bool.false_eq_true, beq_iff_eq, bne_iff_ne, ne_eq, Bool.not_eq_eq_eq_not, Bool.not_true, Bool.not_false, beq_eq_false_iff_ne, bne_eq_false_iff_eq, Int.ofNat_eq_natCast, Bool.not_not, not_true_eq_false, not_false_eq_true, reduceCtorEq]; first | done | assumption) | exact RowsZ.same (by assumption) (by first | assumption | rfl) | exact FzL.mk rfl rfl rfl (by assumption) (by first | assumption | rfl) (by decide) | (refine RowsZ.one ?_; cbv))))
          case hi => exact ⟨(show (0 : Int) ≤ 2 by decide), (show (2 : Int) ≤ 7 by decide), x0, x1, x2, x3, x4, x5, x6⟩
        · cbv
          refine InN.mk (by decide) (by decide) ?_
          cbv
          refine InN.mk (by decide) (by decide) ?_
          simp only [ca]
          refine hN2 (2, f0, 1, f2, f3, f4, f5, f6) _ _ ?hx ?hi (show ((7 : Int) - 2).toNat < ((7 : Int) - 1).toNat by decide)
          case hx => (refine Wk.eqz (id) (by first | exact fun i _ j _ e => e | (simp only [List.length_cons, List.length_nil]; decide)) ?_; cbv; (repeat' (first | exact trivial | rfl | assumption | apply And.intro | (simp only [hbin, hcmp, hun, hconv, hnot, hbeq, hmm, hscmp, hsadd, hslen, hsat, heqs, hofNat, binStd, cmpStd, unStd, scmpStd, maxI, Bool.not_eq_true', Bool.not_eq_false', decide_eq_true_eq, decide_eq_false_iff_not, Int.not_lt, Int.not_le, if_true, if_false, Bool.false_eq_true, beq_iff_eq, bne_iff_ne, ne_eq, Bool.not_eq_eq_eq_not, Bool.not_true, Bool.not_false, beq_eq_false_iff_ne, bne_eq_false_iff_eq, Int.ofNat_eq_natCast, Bool.not_not, not_true_eq_false, not_false_eq_true, reduceCtorEq]; first | done | assumption) | exact RowsZ.same (by assumption) (by first | assumption | rfl) | exact FzL.mk rfl rfl rfl (by assumption) (by first | assumption | rfl) (by decide) | (refine RowsZ.one ?_; cbv))))
          case hi => exact ⟨(show (0 : Int) ≤ 2 by decide), (show (2 : Int) ≤ 7 by decide), x0, rfl, x2, x3, x4, x5, x6⟩
      · have ca : wbin .add .i64 2 1 = 3 := by rw [hbin]; rfl
        cases b3
        · cbv
          refine InN.mk (by decide) (by decide) ?_
          simp only [ca]
          refine hN2 (3, f0, f1, f2, f3, f4, f5, f6) _ _ ?hx ?hi (show ((7 : Int) - 3).toNat < ((7 : Int) - 2).toNat by decide)
          case hx => (refine Wk.eqz (id) (by first | exact fun i _ j _ e => e | (simp only [List.length_cons, List.length_nil]; decide)) ?_; cbv; (repeat' (first | exact trivial | rfl | assumption | apply And.intro | (simp only [hbin, hcmp, hun, hconv, hnot, hbeq, hmm, hscmp, hsadd, hslen, hsat, heqs, hofNat, binStd, cmpStd, unStd, scmpStd, maxI, Bool.not_eq_true', Bool.not_eq_false', decide_eq_true_eq, decide_eq_false_iff_not, Int.not_lt, Int.not_le, if_true, if_false, Bool.false_eq_true, beq_iff_eq, bne_iff_ne, ne_eq, Bool.not_eq_eq_eq_not, Bool.not_true, Bool.not_false, beq_eq_false_iff_ne, bne_eq_false_iff_eq, Int.ofNat_eq_natCast, Bool.not_not, not_true_eq_false, not_false_eq_true, reduceCtorEq]; first | done | assumption) | exact RowsZ.same (by assumption) (by first | assumption | rfl) | exact FzL.mk rfl rfl rfl (by assumption) (by first | assumption | rfl) (by decide) | (refine RowsZ.one ?_; cbv))))
          case hi => exact ⟨(show (0 : Int) ≤ 3 by decide), (show (3 : Int) ≤ 7 by decide), x0, x1, x2, x3, x4, x5, x6⟩
        · cbv
          refine InN.mk (by decide) (by decide) ?_
          cbv
          refine InN.mk (by decide) (by decide) ?_
          simp only [ca]
          refine hN2 (3, f0, f1, 1, f3, f4, f5, f6) _ _ ?hx ?hi (show ((7 : Int) - 3).toNat < ((7 : Int) - 2).toNat by decide)
          case hx => (refine Wk.eqz (id) (by first | exact fun i _ j _ e => e | (simp only [List.length_cons, List.length_nil]; decide)) ?_; cbv; (repeat' (first | exact trivial | rfl | assumption | apply And.intro | (simp only [hbin, hcmp, hun, hconv, hnot, hbeq, hmm, hscmp, hsadd, hslen, hsat, heqs, hofNat, binStd, cmpStd, unStd, scmpStd, maxI, Bool.not_eq_true', Bool.not_eq_false', decide_eq_true_eq, decide_eq_false_iff_not, Int.not_lt, Int.not_le, if_true, if_false, Bool.false_eq_true, beq_iff_eq, bne_iff_ne, ne_eq, Bool.not_eq_eq_eq_not, Bool.not_true, Bool.not_false, beq_eq_false_iff_ne, bne_eq_false_iff_eq, Int.ofNat_eq_natCast, Bool.not_not, not_true_eq_false, not_false_eq_true, reduceCtorEq]; first | done | assumption) | exact RowsZ.same (by assumption) (by first | assumption | rfl) | exact FzL.mk rfl rfl rfl (by assumption) (by first | assumption | rfl) (by decide) | (refine RowsZ.one ?_; cbv))))
          case hi => exact ⟨(show (0 : Int) ≤ 3 by decide), (show (3 : Int) ≤ 7 by decide), x0, x1, rfl, x3, x4, x5, x6⟩
      · have ca : wbin .add .i64 3 1 = 4 := by rw [hbin]; rfl
        cases b4
        · cbv
          refine InN.mk (by decide) (by decide) ?_
          simp only [ca]
          refine hN2 (4, f0, f1, f2, f3, f4, f5, f6) _ _ ?hx ?hi (show ((7 : Int) - 4).toNat < ((7 : Int) - 3).toNat by decide)
          case hx => (refine Wk.eqz (id) (by first | exact fun i _ j _ e => e | (simp only [List.length_cons, List.length_nil]; decide)) ?_; cbv; (repeat' (first | exact trivial | rfl | assumption | apply And.intro | (simp only [hbin, hcmp, hun, hconv, hnot, hbeq, hmm, hscmp, hsadd, hslen, hsat, heqs, hofNat, binStd, cmpStd, unStd, scmpStd, maxI, Bool.not_eq_true', Bool.not_eq_false', decide_eq_true_eq, decide_eq_false_iff_not, Int.not_lt, Int.not_le, if_true, if_false, Bool.false_eq_true, beq_iff_eq, bne_iff_ne, ne_eq, Bool.not_eq_eq_eq_not, Bool.not_true, Bool.not_false, beq_eq_false_iff_ne, bne_eq_false_iff_eq, Int.ofNat_eq_natCast, Bool.not_not, not_true_eq_false, not_false_eq_true, reduceCtorEq]; first | done | assumption) | exact RowsZ.same (by assumption) (by first | assumption | rfl) | exact FzL.mk rfl rfl rfl (by assumption) (by first | assumption | rfl) (by decide) | (refine RowsZ.one ?_; cbv))))
          case hi => exact ⟨(show (0 : Int) ≤ 4 by decide), (show (4 : Int) ≤ 7 by decide), x0, x1, x2, x3, x4, x5, x6⟩
        · cbv
          refine InN.mk (by decide) (by decide) ?_
          cbv
          refine InN.mk (by decide) (by decide) ?_
          simp only [ca]
          refine hN2 (4, f0, f1, f2, 1, f4, f5, f6) _ _ ?hx ?hi (show ((7 : Int) - 4).toNat < ((7 : Int) - 3).toNat by decide)
          case hx => (refine Wk.eqz (id) (by first | exact fun i _ j _ e => e | (simp only [List.length_cons, List.length_nil]; decide)) ?_; cbv; (repeat' (first | exact trivial | rfl | assumption | apply And.intro | (simp only [hbin, hcmp, hun, hconv, hnot, hbeq, hmm, hscmp, hsadd, hslen, hsat, heqs, hofNat, binStd, cmpStd, unStd, scmpStd, maxI, Bool.not_eq_true', Bool.not_eq_false', decide_eq_true_eq, decide_eq_false_iff_not, Int.not_lt, Int.not_le, if_true, if_false, Bool.false_eq_true, beq_iff_eq, bne_iff_ne, ne_eq, Bool.not_eq_eq_eq_not, Bool.not_true, Bool.not_false, beq_eq_false_iff_ne, bne_eq_false_iff_eq, Int.ofNat_eq_natCast, Bool.not_not, not_true_eq_false, not_false_eq_true, reduceCtorEq]; first | done | assumption) | exact RowsZ.same (by assumption) (by first | assumption | rfl) | exact FzL.mk rfl rfl rfl (by assumption) (by first | assumption | rfl) (by decide) | (refine RowsZ.one ?_; cbv))))
          case hi => exact ⟨(show (0 : Int) ≤ 4 by decide), (show (4 : Int) ≤ 7 by decide), x0, x1, x2, rfl, x4, x5, x6⟩
      · have ca : wbin .add .i64 4 1 = 5 := by rw [hbin]; rfl
        cases b5
        · cbv
          refine InN.mk (by decide) (by decide) ?_
          simp only [ca]
          refine hN2 (5, f0, f1, f2, f3, f4, f5, f6) _ _ ?hx ?hi (show ((7 : Int) - 5).toNat < ((7 : Int) - 4).toNat by decide)
          case hx => (refine Wk.eqz (id) (by first | exact fun i _ j _ e => e | (simp only [List.length_cons, List.length_nil]; decide)) ?_; cbv; (repeat' (first | exact trivial | rfl | assumption | apply And.intro | (simp only [hbin, hcmp, hun, hconv, hnot, hbeq, hmm, hscmp, hsadd, hslen, hsat, heqs, hofNat, binStd, cmpStd, unStd, scmpStd, maxI, Bool.not_eq_true', Bool.not_eq_false', decide_eq_true_eq, decide_eq_false_iff_not, Int.not_lt, Int.not_le, if_true, if_false, Bool.false_eq_true, beq_iff_eq, bne_iff_ne, ne_eq, Bool.not_eq_eq_eq_not, Bool.not_true, Bool.not_false, beq_eq_false_iff_ne, bne_eq_false_iff_eq, Int.ofNat_eq_natCast, Bool.not_not, not_true_eq_false, not_false_eq_true, reduceCtorEq]; first | done | assumption) | exact RowsZ.same (by assumption) (by first | assumption | rfl) | exact FzL.mk rfl rfl rfl (by assumption) (by first | assumption | rfl) (by decide) | (refine RowsZ.one ?_; cbv))))
          case hi => exact ⟨(show (0 : Int) ≤ 5 by decide), (show (5 : Int) ≤ 7 by decide), x0, x1, x2, x3, x4, x5, x6⟩
        · cbv
          refine InN.mk (by decide) (by decide) ?_
          cbv
          refine InN.mk (by decide) (by decide) ?_
          simp only [ca]
          refine hN2 (5, f0, f1, f2, f3, 1, f5, f6) _ _ ?hx ?hi (show ((7 : Int) - 5).toNat < ((7 : Int) - 4).toNat by decide)
          case hx => (refine Wk.eqz (id) (by first | exact fun i _ j _ e => e | (simp only [List.length_cons, List.length_nil]; decide)) ?_; cbv; (repeat' (first | exact trivial | rfl | assumption | apply And.intro | (simp only [hbin, hcmp, hun, hconv, hnot, hbeq, hmm, hscmp, hsadd, hslen, hsat, heqs, hofNat, binStd, cmpStd, unStd, scmpStd, maxI, Bool.not_eq_true', Bool.not_eq_false', decide_eq_true_eq, decide_eq_false_iff_not, Int.not_lt, Int.not_le, if_true, if_false, Bool.false_eq_true, beq_iff_eq, bne_iff_ne, ne_eq, Bool.not_eq_eq_eq_not, Bool.not_true, Bool.not_false, beq_eq_false_iff_ne, bne_eq_false_iff_eq, Int.ofNat_eq_natCast, Bool.not_not, not_true_eq_false, not_false_eq_true, reduceCtorEq]; first | done | assumption) | exact RowsZ.same (by assumption) (by first | assumption | rfl) | exact FzL.mk rfl rfl rfl (by assumption) (by first | assumption | rfl) (by decide) | (refine RowsZ.one ?_; cbv))))
          case hi => exact ⟨(show (0 : Int) ≤ 5 by decide), (show (5 : Int) ≤ 7 by decide), x0, x1, x2, x3, rfl, x5, x6⟩
      · have ca : wbin .add .i64 5 1 = 6 := by rw [hbin]; rfl
        cases b6
        · cbv
          refine InN.mk (by decide) (by decide) ?_
          simp only [ca]
          refine hN2 (6, f0, f1, f2, f3, f4, f5, f6) _ _ ?hx ?hi (show ((7 : Int) - 6).toNat < ((7 : Int) - 5).toNat by decide)
          case hx => (refine Wk.eqz (id) (by first | exact fun i _ j _ e => e | (simp only [List.length_cons, List.length_nil]; decide)) ?_; cbv; (repeat' (first | exact trivial | rfl | assumption | apply And.intro | (simp only [hbin, hcmp, hun, hconv, hnot, hbeq, hmm, hscmp, hsadd, hslen, hsat, heqs, hofNat, binStd, cmpStd, unStd, scmpStd, maxI, Bool.not_eq_true', Bool.not_eq_false', decide_eq_true_eq, decide_eq_false_iff_not, Int.not_lt, Int.not_le, if_true, if_false, Bool.false_eq_true, beq_iff_eq, bne_iff_ne, ne_eq, Bool.not_eq_eq_eq_not, Bool.not_true, Bool.not_false, beq_eq_false_iff_ne, bne_eq_false_iff_eq, Int.ofNat_eq_natCast, Bool.not_not, not_true_eq_false, not_false_eq_true, reduceCtorEq]; first | done | assumption) | exact RowsZ.same (by assumption) (by first | assumption | rfl) | exact FzL.mk rfl rfl rfl (by assumption) (by first | assumption | rfl) (by decide) | (refine RowsZ.one ?_; cbv))))
          case hi => exact ⟨(show (0 : Int) ≤ 6 by decide), (show (6 : Int) ≤ 7 by decide), x0, x1, x2, x3, x4, x5, x6⟩
        · cbv
          refine InN.mk (by decide) (by decide) ?_
          cbv
          refine InN.mk (by decide) (by decide) ?_
          simp only [ca]
          refine hN2 (6, f0, f1, f2, f3, f4, 1, f6) _ _ ?hx ?hi (show ((7 : Int) - 6).toNat < ((7 : Int) - 5).toNat by decide)
          case hx => (refine Wk.eqz (id) (by first | exact fun i _ j _ e => e | (simp only [List.length_cons, List.length_nil]; decide)) ?_; cbv; (repeat' (first | exact trivial | rfl | assumption | apply And.intro | (simp only [hbin, hcmp, hun, hconv, hnot, hbeq, hmm, hscmp, hsadd, hslen, hsat, heqs, hofNat, binStd, cmpStd, unStd, scmpStd, maxI, Bool.not_eq_true', Bool.not_eq_false', decide_eq_true_eq, decide_eq_false_iff_not, Int.not_lt, Int.not_le, if_true, if_false, Bool.false_eq_true, beq_iff_eq, bne_iff_ne, ne_eq, Bool.not_eq_eq_eq_not, Bool.not_true, Bool.not_false, beq_eq_false_iff_ne, bne_eq_false_iff_eq, Int.ofNat_eq_natCast, Bool.not_not, not_true_eq_false, not_false_eq_true, reduceCtorEq]; first | done | assumption) | exact RowsZ.same (by assumption) (by first | assumption | rfl) | exact FzL.mk rfl rfl rfl (by assumption) (by first | assumption | rfl) (by decide) | (refine RowsZ.one ?_; cbv))))
          case hi => exact ⟨(show (0 : Int) ≤ 6 by decide), (show (6 : Int) ≤ 7 by decide), x0, x1, x2, x3, x4, rfl, x6⟩
      · have ca : wbin .add .i64 6 1 = 7 := by rw [hbin]; rfl
        cases b7
        · cbv
          refine InN.mk (by decide) (by decide) ?_
          simp only [ca]
          refine hN2 (7, f0, f1, f2, f3, f4, f5, f6) _ _ ?hx ?hi (show ((7 : Int) - 7).toNat < ((7 : Int) - 6).toNat by decide)
          case hx => (refine Wk.eqz (id) (by first | exact fun i _ j _ e => e | (simp only [List.length_cons, List.length_nil]; decide)) ?_; cbv; (repeat' (first | exact trivial | rfl | assumption | apply And.intro | (simp only [hbin, hcmp, hun, hconv, hnot, hbeq, hmm, hscmp, hsadd, hslen, hsat, heqs, hofNat, binStd, cmpStd, unStd, scmpStd, maxI, Bool.not_eq_true', Bool.not_eq_false', decide_eq_true_eq, decide_eq_false_iff_not, Int.not_lt, Int.not_le, if_true, if_false, Bool.false_eq_true, beq_iff_eq, bne_iff_ne, ne_eq, Bool.not_eq_eq_eq_not, Bool.not_true, Bool.not_false, beq_eq_false_iff_ne, bne_eq_false_iff_eq, Int.ofNat_eq_natCast, Bool.not_not, not_true_eq_false, not_false_eq_true, reduceCtorEq]; first | done | assumption) | exact RowsZ.same (by assumption) (by first | assumption | rfl) | exact FzL.mk rfl rfl rfl (by assumption) (by first | assumption | rfl) (by decide) | (refine RowsZ.one ?_; cbv))))
          case hi => exact ⟨(show (0 : Int) ≤ 7 by decide), (show (7 : Int) ≤ 7 by decide), x0, x1, x2, x3, x4, x5, x6⟩
        · cbv
          refine InN.mk (by decide) (by decide) ?_
          cbv
          refine InN.mk (by decide) (by decide) ?_
          simp only [ca]
          refine hN2 (7, f0, f1, f2, f3, f4, f5, 1) _ _ ?hx ?hi (show ((7 : Int) - 7).toNat < ((7 : Int) - 6).toNat by decide)
          case hx => (refine Wk.eqz (id) (by first | exact fun i _ j _ e => e | (simp only [List.length_cons, List.length_nil]; decide)) ?_; cbv; (repeat' (first | exact trivial | rfl | assumption | apply And.intro | (simp only [hbin, hcmp, hun, hconv, hnot, hbeq, hmm, hscmp, hsadd, hslen, hsat, heqs, hofNat, binStd, cmpStd, unStd, scmpStd, maxI, Bool.not_eq_true', Bool.not_eq_false', decide_eq_true_eq, decide_eq_false_iff_not, Int.not_lt, Int.not_le, if_true, if_false, Bool.false_eq_true, beq_iff_eq, bne_iff_ne, ne_eq, Bool.not_eq_eq_eq_not, Bool.not_true, Bool.not_false, beq_eq_false_iff_ne, bne_eq_false_iff_eq, Int.ofNat_eq_natCast, Bool.not_not, not_true_eq_false, not_false_eq_true, reduceCtorEq]; first | done | assumption) | exact RowsZ.same (by assumption) (by first | assumption | rfl) | exact FzL.mk rfl rfl rfl (by assumption) (by first | assumption | rfl) (by decide) | (refine RowsZ.one ?_; cbv))))
          case hi => exact ⟨(show (0 : Int) ≤ 7 by decide), (show (7 : Int) ≤ 7 by decide), x0, x1, x2, x3, x4, x5, rfl⟩
    · refine hE2 _ _ _ ?_
      cbv
      have e7 : i = 7 := by omega
      subst e7
      have y0 : f0 = fi b1 := x0
      have y1 : f1 = fi b2 := x1
      have y2 : f2 = fi b3 := x2
      have y3 : f3 = fi b4 := x3
      have y4 : f4 = fi b5 := x4
      have y5 : f5 = fi b6 := x5
      have y6 : f6 = fi b7 := x6
      have qb : PCalls Tryd.prog 7 [.agg [.int .i64 c, .int .i64 m, .int .i64 g, .int .i64 fit, .int .i64 lo, .int .i64 hi, .int .i64 slo, .int .i64 shi, .int .i64 est, .list 1 qs, .int .i64 s0, .int .i64 s1, .int .i64 f0, .int .i64 f1, .int .i64 f2, .int .i64 f3, .int .i64 f4, .int .i64 f5, .int .i64 f6]] (· = .str t) := by rw [y0, y1, y2, y3, y4, y5, y6]; exact qb
      refine QCal.stepE (by rw [← hP]; exact qa) (by exact Bool.and_eq_true_iff.mpr ⟨Up0.one huq rfl, rfl⟩) ?_
      cbv
      refine QCal.stepE (by rw [← hP]; exact qb) (by exact Bool.and_eq_true_iff.mpr ⟨Up0.one huq rfl, rfl⟩) ?_
      cbv
      have cc : wscmp .eql t t = true := by rw [hscmp, scmp_eql]; simp
      simp only [cc]
      exact ⟨_, Vw.same rfl, hR _ rfl⟩
end Go.Proofs.YtikhbgnokkdpeaaDoor

/- What a configuration is. -/
set_option linter.unusedVariables false
set_option linter.unusedSimpArgs false
namespace Go.Proofs.YtikhbgnokkdpeaaDoor
open Go Go.RowKit Go.Eng
set_option maxRecDepth 100000
theorem ok_int {k : IntKind} {l : List Sh} {xs : List AV} (h : OkL (.int k :: l) xs) : ∃ n y, xs = .int k n :: y ∧ (Lit.int k n).wf = true ∧ OkL l y := by
  unfold OkL at h
  obtain ⟨x, y, rfl, h1, h2⟩ := h
  unfold Sh.Ok at h1
  obtain ⟨n, rfl, hn⟩ := h1
  exact ⟨n, y, rfl, hn, h2⟩
theorem ok_bool {l : List Sh} {xs : List AV} (h : OkL (.bool :: l) xs) : ∃ b y, xs = .bool b :: y ∧ OkL l y := by
  unfold OkL at h
  obtain ⟨x, y, rfl, h1, h2⟩ := h
  unfold Sh.Ok at h1
  obtain ⟨n, rfl⟩ := h1
  exact ⟨n, y, rfl, h2⟩
theorem ok_list {z : Nat} {row l : List Sh} {xs : List AV} (h : OkL (.list z row :: l) xs) : ∃ es y, xs = .list z es :: y ∧ es.length ≤ maxS ∧ (∀ r, r ∈ es → OkL row r) ∧ OkL l y := by
  unfold OkL at h
  obtain ⟨x, y, rfl, h1, h2⟩ := h
  unfold Sh.Ok at h1
  obtain ⟨n, rfl, h3, h4⟩ := h1
  exact ⟨n, y, rfl, h3, h4, h2⟩
theorem ok_nil {xs : List AV} (h : OkL [] xs) : xs = [] := by unfold OkL at h; exact h
theorem wf64 {n : Int} (h : (Lit.int .i64 n).wf = true) : -9223372036854775808 ≤ n ∧ n ≤ 9223372036854775807 := by
  simp [Lit.wf, IntKind.min, IntKind.max, IntKind.signed, IntKind.bits] at h
  omega
end Go.Proofs.YtikhbgnokkdpeaaDoor

/- What an int64 is. -/
set_option linter.unusedVariables false
set_option maxRecDepth 100000
namespace Go.Proofs.YtikhbgnokkdpeaaDoor
open Go Go.RowKit Go.Eng
theorem ty_i64 (x : AV) (h : TyV Tryd.prog 8 2 x) : ∃ n, x = .int .i64 n ∧ -9223372036854775808 ≤ n ∧ n ≤ 9223372036854775807 := by
  have h := h.one (by kernel_rfl) (show shOf Tryd.prog 8 2 = some [.int .i64] from by kernel_rfl)
  unfold Sh.Ok at h
  obtain ⟨n, rfl, hn⟩ := h
  exact ⟨n, rfl, wf64 hn⟩
end Go.Proofs.YtikhbgnokkdpeaaDoor

/- What a report is. -/
set_option linter.unusedVariables false
set_option maxRecDepth 100000
namespace Go.Proofs.YtikhbgnokkdpeaaDoor
open Go Go.RowKit Go.Eng
theorem rows_ofL {D : Type} {f : D → List AV} {p : D → Prop} : ∀ {es : List (List AV)}, (∀ r, r ∈ es → ∃ d, r = f d ∧ p d) → ∃ ds : List D, es = ds.map f ∧ ∀ d, d ∈ ds → p d
  | [], _ => ⟨[], rfl, fun d hd => by cases hd⟩
  | r :: es, h => by
    obtain ⟨d, h1, h2⟩ := h r (by simp)
    obtain ⟨ds, h3, h4⟩ := rows_ofL (es := es) fun x hx => h x (by simp [hx])
    exact ⟨d :: ds, by rw [h1, h3]; rfl, fun x hx => by
      rcases List.mem_cons.1 hx with rfl | hx
      · exact h2
      · exact h4 x hx⟩
theorem ty_lr (x : AV) (h : TyV Tryd.prog 8 28 x) : ∃ o : Lr, x = .agg (lrRow o (o.rs.map (fun r => [AV.list 1 (r.map nxRow)]))) ∧ LrOk o ∧ ∀ r, r ∈ o.rs → r.length ≤ 140737488355328 := by
  obtain ⟨cs, rfl, k0⟩ := h.agg (by kernel_rfl) (show shOf Tryd.prog 8 28 = some [.int .i64, .int .i64, .int .i64, .int .i64, .int .i64, .int .i64, .int .i64, .int .i64, .int .i64, .int .i64, .list 1 [.list 1 [.int .i64]], .int .i64, .bool, .bool, .int .i64, .int .i64, .bool, .bool, .bool, .bool, .bool, .int .i64, .int .i64, .int .i64, .int .i64, .int .i64, .int .i64, .int .i64, .int .i64, .int .i64, .int .i64, .int .i64] from by kernel_rfl)
  obtain ⟨c, _, rfl, wc, k1⟩ := ok_int k0
  clear k0
  obtain ⟨m, _, rfl, wm, k2⟩ := ok_int k1
  clear k1
  obtain ⟨g, _, rfl, wg, k3⟩ := ok_int k2
  clear k2
  obtain ⟨lo, _, rfl, wlo, k4⟩ := ok_int k3
  clear k3
  obtain ⟨hi, _, rfl, whi, k5⟩ := ok_int k4
  clear k4
  obtain ⟨est, _, rfl, west, k6⟩ := ok_int k5
  clear k5
  obtain ⟨slo, _, rfl, wslo, k7⟩ := ok_int k6
  clear k6
  obtain ⟨shi, _, rfl, wshi, k8⟩ := ok_int k7
  clear k7
  obtain ⟨nom, _, rfl, wnom, k9⟩ := ok_int k8
  clear k8
  obtain ⟨dist, _, rfl, wdist, k10⟩ := ok_int k9
  clear k9
  obtain ⟨qs, _, rfl, _, hq, k11⟩ := ok_list k10
  clear k10
  obtain ⟨fit, _, rfl, wfit, k12⟩ := ok_int k11
  clear k11
  obtain ⟨b1, _, rfl, k13⟩ := ok_bool k12
  clear k12
  obtain ⟨b2, _, rfl, k14⟩ := ok_bool k13
  clear k13
  obtain ⟨s0, _, rfl, ws0, k15⟩ := ok_int k14
  clear k14
  obtain ⟨s1, _, rfl, ws1, k16⟩ := ok_int k15
  clear k15
  obtain ⟨b3, _, rfl, k17⟩ := ok_bool k16
  clear k16
  obtain ⟨b4, _, rfl, k18⟩ := ok_bool k17
  clear k17
  obtain ⟨b5, _, rfl, k19⟩ := ok_bool k18
  clear k18
  obtain ⟨b6, _, rfl, k20⟩ := ok_bool k19
  clear k19
  obtain ⟨b7, _, rfl, k21⟩ := ok_bool k20
  clear k20
  obtain ⟨mlo, _, rfl, wmlo, k22⟩ := ok_int k21
  clear k21
  obtain ⟨mhi, _, rfl, wmhi, k23⟩ := ok_int k22
  clear k22
  obtain ⟨perm, _, rfl, wperm, k24⟩ := ok_int k23
  clear k23
  obtain ⟨c0, _, rfl, wc0, k25⟩ := ok_int k24
  clear k24
  obtain ⟨c1, _, rfl, wc1, k26⟩ := ok_int k25
  clear k25
  obtain ⟨c2, _, rfl, wc2, k27⟩ := ok_int k26
  clear k26
  obtain ⟨c3, _, rfl, wc3, k28⟩ := ok_int k27
  clear k27
  obtain ⟨j0, _, rfl, wj0, k29⟩ := ok_int k28
  clear k28
  obtain ⟨j1, _, rfl, wj1, k30⟩ := ok_int k29
  clear k29
  obtain ⟨j2, _, rfl, wj2, k31⟩ := ok_int k30
  clear k30
  obtain ⟨j3, _, rfl, wj3, k32⟩ := ok_int k31
  clear k31
  obtain rfl := ok_nil k32
  obtain ⟨rs, rfl, hrs⟩ := rows_ofL (f := fun r : List Int => [AV.list 1 (r.map nxRow)]) (p := fun r => (∀ n, n ∈ r → In64 n) ∧ r.length ≤ 140737488355328) (es := qs) fun r hr => by
    obtain ⟨es, _, rfl, hlen, h1, k1⟩ := ok_list (hq r hr)
    obtain rfl := ok_nil k1
    obtain ⟨l, rfl, hl⟩ := rows_ofL (f := nxRow) (p := In64) (es := es) fun r hr => by
      obtain ⟨n, _, rfl, hw, k1⟩ := ok_int (h1 r hr)
      obtain rfl := ok_nil k1
      exact ⟨n, rfl, wf64 hw⟩
    exact ⟨l, rfl, hl, by unfold maxS at hlen; simpa using hlen⟩
  exact ⟨⟨c, m, g, lo, hi, est, slo, shi, nom, dist, rs, fit, b1, b2, s0, s1, b3, b4, b5, b6, b7, mlo, mhi, perm, c0, c1, c2, c3, j0, j1, j2, j3⟩, rfl, ⟨wf64 wc, wf64 wg, wf64 wlo, wf64 whi, wf64 west, wf64 wslo, wf64 wshi, wf64 wfit, wf64 ws0, wf64 ws1, fun r hr => (hrs r hr).1⟩, fun r hr => (hrs r hr).2⟩
end Go.Proofs.YtikhbgnokkdpeaaDoor

/- The powers of ten, out of the row's own condition. -/
set_option linter.unusedVariables false
set_option linter.unusedSimpArgs false
namespace Go.Proofs.YtikhbgnokkdpeaaDoor
open Go Go.RowKit Go.Eng
set_option maxRecDepth 100000
def pows : List Int := [1, 10, 100, 1000, 10000, 100000, 1000000, 10000000, 100000000, 1000000000, 10000000000, 100000000000, 1000000000000, 10000000000000, 100000000000000, 1000000000000000, 10000000000000000, 100000000000000000, 1000000000000000000, 10000000000000000000]
theorem glo_pow {W : World} {l : List (String × DataW Unit)} (hp : (l.all fun x => x.2.handleName?.isNone) = true) {nm : String} {g : Nat} (hm : (nm, Rows.laid_internal_strconv_uint64pow10) ∈ l) (h : laidMetH Tryd.prog l W) (hg : Tryd.prog.globalNamed nm = some g) (hT : (Tryd.prog.globals[g]?).map (·.type) = some 78) :
    VR (cfg0 W) (.cref (pows.map (AV.int .u64))) (.pointer (some ⟨g, 0, none⟩)) ∧ ∃ ty, W.shape? g = some (ty, (pows.map (AV.int .u64)).length) := by
  rw [Go.MakeChecks.laidMetH_plain _ _ _ hp] at h
  obtain ⟨ps, hl, _⟩ := h
  obtain ⟨g', t, cs, fuel, p, h1, h2, h3, h4⟩ := laid_mem hl hm
  rw [hg] at h1
  obtain rfl := Option.some.inj h1
  rw [hT] at h2
  obtain rfl := Option.some.inj h2
  refine glo_ints hg h3 ?_
  have e : (Rows.laid_internal_strconv_uint64pow10 : DataW Unit) = .agg (pows.map fun x => .lit (.int .u64 x)) := rfl
  rw [e] at h4
  exact trod_ints (n := 20) (et := 68) (by kernel_rfl) (by kernel_rfl) (by kernel_rfl) (by kernel_rfl) h4
end Go.Proofs.YtikhbgnokkdpeaaDoor

/- LineTexts, joined. -/
set_option linter.unusedVariables false
set_option maxRecDepth 100000
namespace Go.Proofs.YtikhbgnokkdpeaaDoor
open Go Go.RowKit Go.Eng
theorem walk_LineTexts (x0 : AV) (h0 : TyV Tryd.prog 8 28 x0) : PCalls Tryd.prog 3 [x0] (fun r => r = .bool true) := by
  obtain ⟨o, rfl, ho, hl⟩ := ty_lr x0 h0
  exact e_texts o ho hl _ rfl
theorem glo_LineTexts {W : World} (h : laidMetH Tryd.prog Rows.lineTextsRow.laid W) : Glo W := by
  have hk : ∃ i nm, Rows.lineTextsRow.laid[i]? = some (nm, Rows.laid_internal_strconv_uint64pow10) ∧ Tryd.prog.globalNamed nm = some 0 := ⟨2, _, rfl, by kernel_rfl⟩
  obtain ⟨i, nm, hi, hg⟩ := hk
  have h2 := glo_pow (by kernel_rfl) (List.mem_of_getElem? hi) h hg (by kernel_rfl)
  intro p hp
  have hp : p ∈ [((0 : Nat), pows.map (AV.int .u64))] := hp
  obtain rfl := List.mem_singleton.1 hp
  exact h2
end Go.Proofs.YtikhbgnokkdpeaaDoor

