/- Texts of the proof of LineTexts, joined by wip/tools/pack.py. -/
import Derived.Test.YtikhbgnokkdpeaaDoorLineTextsP0
import Derived.KernelRfl
/- A report's line as the document has it, by the engine. Printed by genrtext.py. -/
set_option linter.unusedVariables false
set_option linter.unusedSimpArgs false
namespace Go.Proofs.YtikhbgnokkdpeaaDoor
open Go Go.RowKit Go.Eng
set_option maxRecDepth 100000
set_option maxHeartbeats 8000000 in
theorem e_rtext1 (o : Lr) (h : LrOk o) (hs : LrSmall o) (c m g fit lo hi slo shi est s0 s1 f0 f1 f2 f3 f4 f5 f6 : Int) (rs : List (List Int)) (e1 : o.c = c) (e2 : o.m = m) (e3 : o.g = g) (e4 : o.fit = fit) (e5 : o.lo = lo) (e6 : o.hi = hi) (e7 : o.slo = slo) (e8 : o.shi = shi) (e9 : o.est = est) (e10 : o.s0 = s0) (e11 : o.s1 = s1) (e12 : o.rs = rs) (hf : FlOk o f0 f1 f2 f3 f4 f5 f6) (hm : m = 1) (qs : List (List AV)) (hqs : qs = rs.map (fun r => [AV.list 1 (r.map nxRow)])) (t : ByteArray) (et : t = lineB o) :
    PCalls Tryd.prog 7 [.agg [.int .i64 c, .int .i64 m, .int .i64 g, .int .i64 fit, .int .i64 lo, .int .i64 hi, .int .i64 slo, .int .i64 shi, .int .i64 est, .list 1 qs, .int .i64 s0, .int .i64 s1, .int .i64 f0, .int .i64 f1, .int .i64 f2, .int .i64 f3, .int .i64 f4, .int .i64 f5, .int .i64 f6]] (· = .str t) := by
  have hc : In64 c := e1 ▸ h.c
  have hg : In64 g := e3 ▸ h.g
  have hfit : In64 fit := e4 ▸ h.fit
  have hlo : In64 lo := e5 ▸ h.lo
  have hhi : In64 hi := e6 ▸ h.hi
  have hslo : In64 slo := e7 ▸ h.slo
  have hshi : In64 shi := e8 ▸ h.shi
  have hest : In64 est := e9 ▸ h.est
  have hs0 : In64 s0 := e10 ▸ h.s0
  have hs1 : In64 s1 := e11 ▸ h.s1
  have hrs : ∀ r, r ∈ rs → ∀ n, n ∈ r → In64 n := e12 ▸ h.rs
  have huq : Up0 qs := by rw [hqs]; exact up_map (f := fun r => [AV.list 1 (r.map nxRow)]) (fun d => Up0.one (up_nx d) rfl) rs
  obtain ⟨ways, eways⟩ : ∃ w, w = if g = 0 then [] else waysL rs := ⟨_, rfl⟩
  have nways : ways.length ≤ 22001000 := by
    rw [eways]; split
    · simp
    · rename_i hg0; exact len_ways hrs (by have := hs.n (by rw [e3]; exact hg0); rw [e12] at this; exact this) (by have := hs.r (by rw [e3]; exact hg0); rw [e12] at this; exact this)
  have nm : (modeL m).length ≤ 9 := by unfold modeL; (repeat' split) <;> simp
  obtain ⟨Lt0, eLt0⟩ : ∃ z, z = Lib.itoa c := ⟨_, rfl⟩
  obtain ⟨t0, et0⟩ : ∃ z, z = bk Lt0 := ⟨_, rfl⟩
  have nt0 : Lt0.length ≤ 21 := by rw [eLt0]; exact len_itoa hc
  obtain ⟨bm, ebm⟩ : ∃ z, z = bk (modeL m) := ⟨_, rfl⟩
  obtain ⟨bg, ebg⟩ : ∃ z, z = bk (Lib.itoa g) := ⟨_, rfl⟩
  obtain ⟨bp, ebp⟩ : ∃ z, z = bk (endsL lo hi) := ⟨_, rfl⟩
  obtain ⟨be, ebe⟩ : ∃ z, z = bk (Lib.itoa est) := ⟨_, rfl⟩
  obtain ⟨bw, ebw⟩ : ∃ z, z = bk ways := ⟨_, rfl⟩
  obtain ⟨bs, ebs⟩ : ∃ z, z = bk (endsL slo shi) := ⟨_, rfl⟩
  obtain ⟨bf, ebf⟩ : ∃ z, z = bk (Lib.itoa fit) := ⟨_, rfl⟩
  obtain ⟨bs0, ebs0⟩ : ∃ z, z = bk (Lib.itoa s0) := ⟨_, rfl⟩
  obtain ⟨bs1, ebs1⟩ : ∃ z, z = bk (Lib.itoa s1) := ⟨_, rfl⟩
  have d0 := e_dig c hc.1 hc.2 t0 (by rw [et0, eLt0]; rfl)
  have dg := e_dig g hg.1 hg.2 bg ebg
  have dp := e_rends lo hi hlo hhi bp ebp
  have de := e_dig est hest.1 hest.2 be ebe
  have ds := e_rends slo shi hslo hshi bs ebs
  have df := e_dig fit hfit.1 hfit.2 bf ebf
  have ds0 := e_dig s0 hs0.1 hs0.2 bs0 ebs0
  have ds1 := e_dig s1 hs1.1 hs1.2 bs1 ebs1
  have dw : g ≠ 0 → PCalls Tryd.prog 16 [.list 1 qs] (· = .str bw) := fun hg0 => e_ways rs hrs (by have := hs.n (by rw [e3]; exact hg0); rw [e12] at this; exact this) (by have := hs.r (by rw [e3]; exact hg0); rw [e12] at this; exact this) qs hqs bw (by rw [ebw, eways, if_neg hg0])
  have nitoa : ∀ n, In64 n → (Lib.itoa n).length ≤ 21 := fun n hn => len_itoa hn
  obtain ⟨Lt1, eLt1⟩ : ∃ z : List UInt8, z = Lt0 ++ [32] := ⟨_, rfl⟩
  have nt1 : Lt1.length ≤ 22 := by rw [eLt1, List.length_append]; simp only [List.length_cons, List.length_nil]; omega
  obtain ⟨t1, et1⟩ : ∃ z, z = bk Lt1 := ⟨_, rfl⟩
  have zt1 : Sz t1 := sz_bk (by omega) et1
  have Ft1 : t0 ++ (⟨#[32]⟩ : ByteArray) = t1 := by rw [et0, et1, eLt1]; exact bk_app _ _
  obtain ⟨Lt2, eLt2⟩ : ∃ z : List UInt8, z = Lt1 ++ modeL m := ⟨_, rfl⟩
  have nt2 : Lt2.length ≤ 31 := by rw [eLt2, List.length_append]; omega
  obtain ⟨t2, et2⟩ : ∃ z, z = bk Lt2 := ⟨_, rfl⟩
  have zt2 : Sz t2 := sz_bk (by omega) et2
  have Ft2 : t1 ++ bm = t2 := by rw [et1, ebm, et2, eLt2]; exact bk_app _ _
  obtain ⟨Lp1, eLp1⟩ : ∃ z : List UInt8, z = Lt2 ++ [32, 103, 114, 111, 117, 112, 32] := ⟨_, rfl⟩
  have np1 : Lp1.length ≤ 38 := by rw [eLp1, List.length_append]; simp only [List.length_cons, List.length_nil]; omega
  obtain ⟨p1, ep1⟩ : ∃ z, z = bk Lp1 := ⟨_, rfl⟩
  have zp1 : Sz p1 := sz_bk (by omega) ep1
  have Fp1 : t2 ++ (⟨#[32, 103, 114, 111, 117, 112, 32]⟩ : ByteArray) = p1 := by rw [et2, ep1, eLp1]; exact bk_app _ _
  obtain ⟨Lp2, eLp2⟩ : ∃ z : List UInt8, z = Lp1 ++ Lib.itoa g := ⟨_, rfl⟩
  have np2 : Lp2.length ≤ 59 := by rw [eLp2, List.length_append]; have := nitoa g hg; omega
  obtain ⟨p2, ep2⟩ : ∃ z, z = bk Lp2 := ⟨_, rfl⟩
  have zp2 : Sz p2 := sz_bk (by omega) ep2
  have Fp2 : p1 ++ bg = p2 := by rw [ep1, ebg, ep2, eLp2]; exact bk_app _ _
  obtain ⟨Lp3, eLp3⟩ : ∃ z : List UInt8, z = Lp2 ++ [32, 97, 116, 32] := ⟨_, rfl⟩
  have np3 : Lp3.length ≤ 63 := by rw [eLp3, List.length_append]; simp only [List.length_cons, List.length_nil]; omega
  obtain ⟨p3, ep3⟩ : ∃ z, z = bk Lp3 := ⟨_, rfl⟩
  have zp3 : Sz p3 := sz_bk (by omega) ep3
  have Fp3 : p2 ++ (⟨#[32, 97, 116, 32]⟩ : ByteArray) = p3 := by rw [ep2, ep3, eLp3]; exact bk_app _ _
  obtain ⟨Lp4, eLp4⟩ : ∃ z : List UInt8, z = Lp3 ++ endsL lo hi := ⟨_, rfl⟩
  have np4 : Lp4.length ≤ 107 := by rw [eLp4, List.length_append]; have := len_ends hlo hhi; omega
  obtain ⟨p4, ep4⟩ : ∃ z, z = bk Lp4 := ⟨_, rfl⟩
  have zp4 : Sz p4 := sz_bk (by omega) ep4
  have Fp4 : p3 ++ bp = p4 := by rw [ep3, ebp, ep4, eLp4]; exact bk_app _ _
  obtain ⟨Lp5, eLp5⟩ : ∃ z : List UInt8, z = Lp4 ++ [32, 101, 115, 116, 32] := ⟨_, rfl⟩
  have np5 : Lp5.length ≤ 112 := by rw [eLp5, List.length_append]; simp only [List.length_cons, List.length_nil]; omega
  obtain ⟨p5, ep5⟩ : ∃ z, z = bk Lp5 := ⟨_, rfl⟩
  have zp5 : Sz p5 := sz_bk (by omega) ep5
  have Fp5 : p4 ++ (⟨#[32, 101, 115, 116, 32]⟩ : ByteArray) = p5 := by rw [ep4, ep5, eLp5]; exact bk_app _ _
  obtain ⟨Lp6, eLp6⟩ : ∃ z : List UInt8, z = Lp5 ++ Lib.itoa est := ⟨_, rfl⟩
  have np6 : Lp6.length ≤ 133 := by rw [eLp6, List.length_append]; have := nitoa est hest; omega
  obtain ⟨p6, ep6⟩ : ∃ z, z = bk Lp6 := ⟨_, rfl⟩
  have zp6 : Sz p6 := sz_bk (by omega) ep6
  have Fp6 : p5 ++ be = p6 := by rw [ep5, ebe, ep6, eLp6]; exact bk_app _ _
  obtain ⟨Lp7, eLp7⟩ : ∃ z : List UInt8, z = Lp6 ++ [32, 119, 97, 121, 115, 32] := ⟨_, rfl⟩
  have np7 : Lp7.length ≤ 139 := by rw [eLp7, List.length_append]; simp only [List.length_cons, List.length_nil]; omega
  obtain ⟨p7, ep7⟩ : ∃ z, z = bk Lp7 := ⟨_, rfl⟩
  have zp7 : Sz p7 := sz_bk (by omega) ep7
  have Fp7 : p6 ++ (⟨#[32, 119, 97, 121, 115, 32]⟩ : ByteArray) = p7 := by rw [ep6, ep7, eLp7]; exact bk_app _ _
  obtain ⟨Lp8, eLp8⟩ : ∃ z : List UInt8, z = Lp7 ++ ways := ⟨_, rfl⟩
  have np8 : Lp8.length ≤ 22001139 := by rw [eLp8, List.length_append]; omega
  obtain ⟨p8, ep8⟩ : ∃ z, z = bk Lp8 := ⟨_, rfl⟩
  have zp8 : Sz p8 := sz_bk (by omega) ep8
  have Fp8 : p7 ++ bw = p8 := by rw [ep7, ebw, ep8, eLp8]; exact bk_app _ _
  obtain ⟨Lt3, eLt3⟩ : ∃ z, z = if g = 0 then Lt2 else Lp8 := ⟨_, rfl⟩
  have nt3 : Lt3.length ≤ 22002000 := by rw [eLt3]; split <;> omega
  obtain ⟨t3, et3⟩ : ∃ z, z = bk Lt3 := ⟨_, rfl⟩
  obtain ⟨Lu1, eLu1⟩ : ∃ z : List UInt8, z = Lt3 ++ [32, 115, 112, 101, 101, 100, 32] := ⟨_, rfl⟩
  have nu1 : Lu1.length ≤ 22002007 := by rw [eLu1, List.length_append]; simp only [List.length_cons, List.length_nil]; omega
  obtain ⟨u1, eu1⟩ : ∃ z, z = bk Lu1 := ⟨_, rfl⟩
  have zu1 : Sz u1 := sz_bk (by omega) eu1
  have Fu1 : t3 ++ (⟨#[32, 115, 112, 101, 101, 100, 32]⟩ : ByteArray) = u1 := by rw [et3, eu1, eLu1]; exact bk_app _ _
  obtain ⟨Lu2, eLu2⟩ : ∃ z : List UInt8, z = Lu1 ++ endsL slo shi := ⟨_, rfl⟩
  have nu2 : Lu2.length ≤ 22002051 := by rw [eLu2, List.length_append]; have := len_ends hslo hshi; omega
  obtain ⟨u2, eu2⟩ : ∃ z, z = bk Lu2 := ⟨_, rfl⟩
  have zu2 : Sz u2 := sz_bk (by omega) eu2
  have Fu2 : u1 ++ bs = u2 := by rw [eu1, ebs, eu2, eLu2]; exact bk_app _ _
  obtain ⟨Lu3, eLu3⟩ : ∃ z : List UInt8, z = Lu2 ++ [32, 102, 105, 116, 32] := ⟨_, rfl⟩
  have nu3 : Lu3.length ≤ 22002056 := by rw [eLu3, List.length_append]; simp only [List.length_cons, List.length_nil]; omega
  obtain ⟨u3, eu3⟩ : ∃ z, z = bk Lu3 := ⟨_, rfl⟩
  have zu3 : Sz u3 := sz_bk (by omega) eu3
  have Fu3 : u2 ++ (⟨#[32, 102, 105, 116, 32]⟩ : ByteArray) = u3 := by rw [eu2, eu3, eLu3]; exact bk_app _ _
  obtain ⟨Lu4, eLu4⟩ : ∃ z : List UInt8, z = Lu3 ++ Lib.itoa fit := ⟨_, rfl⟩
  have nu4 : Lu4.length ≤ 22002077 := by rw [eLu4, List.length_append]; have := nitoa fit hfit; omega
  obtain ⟨u4, eu4⟩ : ∃ z, z = bk Lu4 := ⟨_, rfl⟩
  have zu4 : Sz u4 := sz_bk (by omega) eu4
  have Fu4 : u3 ++ bf = u4 := by rw [eu3, ebf, eu4, eLu4]; exact bk_app _ _
  obtain ⟨Lv1, eLv1⟩ : ∃ z : List UInt8, z = Lu4 ++ [32, 115, 108, 105, 112, 32] := ⟨_, rfl⟩
  have nv1 : Lv1.length ≤ 22002083 := by rw [eLv1, List.length_append]; simp only [List.length_cons, List.length_nil]; omega
  obtain ⟨v1, ev1⟩ : ∃ z, z = bk Lv1 := ⟨_, rfl⟩
  have zv1 : Sz v1 := sz_bk (by omega) ev1
  have Fv1 : u4 ++ (⟨#[32, 115, 108, 105, 112, 32]⟩ : ByteArray) = v1 := by rw [eu4, ev1, eLv1]; exact bk_app _ _
  obtain ⟨Lv2, eLv2⟩ : ∃ z : List UInt8, z = Lv1 ++ Lib.itoa s0 := ⟨_, rfl⟩
  have nv2 : Lv2.length ≤ 22002104 := by rw [eLv2, List.length_append]; have := nitoa s0 hs0; omega
  obtain ⟨v2, ev2⟩ : ∃ z, z = bk Lv2 := ⟨_, rfl⟩
  have zv2 : Sz v2 := sz_bk (by omega) ev2
  have Fv2 : v1 ++ bs0 = v2 := by rw [ev1, ebs0, ev2, eLv2]; exact bk_app _ _
  obtain ⟨Lv3, eLv3⟩ : ∃ z : List UInt8, z = Lv2 ++ [32] := ⟨_, rfl⟩
  have nv3 : Lv3.length ≤ 22002105 := by rw [eLv3, List.length_append]; simp only [List.length_cons, List.length_nil]; omega
  obtain ⟨v3, ev3⟩ : ∃ z, z = bk Lv3 := ⟨_, rfl⟩
  have zv3 : Sz v3 := sz_bk (by omega) ev3
  have Fv3 : v2 ++ (⟨#[32]⟩ : ByteArray) = v3 := by rw [ev2, ev3, eLv3]; exact bk_app _ _
  obtain ⟨Lv4, eLv4⟩ : ∃ z : List UInt8, z = Lv3 ++ Lib.itoa s1 := ⟨_, rfl⟩
  have nv4 : Lv4.length ≤ 22002126 := by rw [eLv4, List.length_append]; have := nitoa s1 hs1; omega
  obtain ⟨v4, ev4⟩ : ∃ z, z = bk Lv4 := ⟨_, rfl⟩
  have zv4 : Sz v4 := sz_bk (by omega) ev4
  have Fv4 : v3 ++ bs1 = v4 := by rw [ev3, ebs1, ev4, eLv4]; exact bk_app _ _
  obtain ⟨L5, eL5⟩ : ∃ z, z = if s0 = 0 ∧ s1 = 0 then Lu4 else Lv4 := ⟨_, rfl⟩
  have n5 : L5.length ≤ 22003000 := by rw [eL5]; split <;> omega
  obtain ⟨t5, et5⟩ : ∃ z, z = bk L5 := ⟨_, rfl⟩
  have hL5 : L5 = l4 o ++ jt (slipL o) := by
    unfold l4 slipL placedL
    rw [e1, e2, e3, e4, e5, e6, e7, e8, e9, e10, e11, e12, eL5, eLv4, eLv3, eLv2, eLv1, eLu4, eLu3, eLu2, eLu1, eLt3, eLp8, eLp7, eLp6, eLp5, eLp4, eLp3, eLp2, eLp1, eLt2, eLt1, eLt0, eways]
    by_cases hg0 : g = 0 <;> by_cases hz : s0 = 0 ∧ s1 = 0
    · rw [if_pos hg0, if_pos hz, if_pos hg0, if_pos hz]
      simp only [jt_cons, jt_nil, List.append_assoc, List.cons_append, List.nil_append, List.append_nil]
    · rw [if_pos hg0, if_neg hz, if_pos hg0, if_neg hz]
      simp only [jt_cons, jt_nil, List.append_assoc, List.cons_append, List.nil_append, List.append_nil]
    · rw [if_neg hg0, if_neg hg0, if_pos hz, if_neg hg0, if_pos hz]
      simp only [jt_cons, jt_nil, List.append_assoc, List.cons_append, List.nil_append, List.append_nil]
    · rw [if_neg hg0, if_neg hg0, if_neg hz, if_neg hg0, if_neg hz]
      simp only [jt_cons, jt_nil, List.append_assoc, List.cons_append, List.nil_append, List.append_nil]
  have g0 : g = 0 → t2 = t3 := fun e => by rw [et2, et3, eLt3, if_pos e]
  have g1 : g ≠ 0 → p8 = t3 := fun e => by rw [ep8, et3, eLt3, if_neg e]
  have k0 : (s0 = 0 ∧ s1 = 0) → u4 = t5 := fun e => by rw [eu4, et5, eL5, if_pos e]
  have k1 : ¬ (s0 = 0 ∧ s1 = 0) → v4 = t5 := fun e => by rw [ev4, et5, eL5, if_neg e]
  have et' : t = bk (L5 ++ flN o 7) := by rw [et, line_jt, hL5]; rfl
  have bm0 : bm = ⟨#[117, 110, 108, 111, 99, 97, 116, 101, 100]⟩ := by rw [ebm, hm]; rfl
  rw [bm0] at Ft2
  clear eLt1 nt1 et1 eLt2 nt2 et2 eLp1 np1 ep1 eLp2 np2 ep2 eLp3 np3 ep3 eLp4 np4 ep4 eLp5 np5 ep5 eLp6 np6 ep6 eLp7 np7 ep7 eLp8 np8 ep8 eLu1 nu1 eu1 eLu2 nu2 eu2 eLu3 nu3 eu3 eLu4 nu4 eu4 eLv1 nv1 ev1 eLv2 nv2 ev2 eLv3 nv3 ev3 eLv4 nv4 ev4 eLt3 nt3 et3 et eLt0 et0 nt0 ebm ebg ebp ebe ebw ebs ebf ebs0 ebs1 nm nitoa eways nways hqs hrs hs h hL5
  subst hm
  (refine PCalls.ofY Tryd.func7 (by kernel_rfl) (by kernel_rfl) fun w hw R hR => ?_); (obtain ⟨wbin, wcmp, wun, wconv, wnot, wbeq, wmm, wscmp, wsadd, wslen, wsat, weqs, wlen, wnlen, wofNat, wtake, wdrop, wapp, wzero, wnat⟩ := w); (have hbin : wbin = binStd := congrArg Prims.bin hw); (have hcmp : wcmp = cmpStd := congrArg Prims.cmp hw); (have hun : wun = unStd := congrArg Prims.un hw); (have hconv : wconv = fun k n => k.wrap n := congrArg Prims.conv hw); (have hnot : wnot = fun b => !b := congrArg Prims.not hw); (have hbeq : wbeq = fun a b => a == b := congrArg Prims.beq hw); (have hmm : wmm = maxI := congrArg Prims.mm hw); (have hscmp : wscmp = scmpStd := congrArg Prims.scmp hw); (have hsadd : wsadd = fun x y => x ++ y := congrArg Prims.sadd hw); (have hslen : wslen = fun s => (s.size : Int) := congrArg Prims.slen hw); (have hsat : wsat = std.sat := congrArg Prims.sat hw); (have heqs : weqs = fun a b os => (eqOffs a b os).getD false := congrArg Prims.eqs hw); (have hlen : wlen = fun es => (es.length : Int) := congrArg Prims.len hw); (have hnlen : wnlen = fun es => es.length := congrArg Prims.nlen hw); (have hofNat : wofNat = (fun n : Nat => (n : Int)) := congrArg Prims.ofNat hw); (have htake : wtake = fun es b => es.take b.toNat := congrArg Prims.take hw); (have hdrop : wdrop = fun es a => es.drop a.toNat := congrArg Prims.drop hw); (have happ : wapp = fun a b => a ++ b := congrArg Prims.app hw); (have hzero : wzero = fun n z => List.replicate n.toNat z := congrArg Prims.zero hw); (have hnat : wnat = fun n => n.toNat := congrArg Prims.nat hw); (conv => arg 2; cbv); (generalize hP : Tryd.prog = P); cbv
  have st1 : wsadd t0 (⟨#[32]⟩ : ByteArray) = t1 := by rw [hsadd]; exact Ft1
  have st2 : wsadd t1 ⟨#[117, 110, 108, 111, 99, 97, 116, 101, 100]⟩ = t2 := by rw [hsadd]; exact Ft2
  have sp1 : wsadd t2 (⟨#[32, 103, 114, 111, 117, 112, 32]⟩ : ByteArray) = p1 := by rw [hsadd]; exact Fp1
  have sp2 : wsadd p1 bg = p2 := by rw [hsadd]; exact Fp2
  have sp3 : wsadd p2 (⟨#[32, 97, 116, 32]⟩ : ByteArray) = p3 := by rw [hsadd]; exact Fp3
  have sp4 : wsadd p3 bp = p4 := by rw [hsadd]; exact Fp4
  have sp5 : wsadd p4 (⟨#[32, 101, 115, 116, 32]⟩ : ByteArray) = p5 := by rw [hsadd]; exact Fp5
  have sp6 : wsadd p5 be = p6 := by rw [hsadd]; exact Fp6
  have sp7 : wsadd p6 (⟨#[32, 119, 97, 121, 115, 32]⟩ : ByteArray) = p7 := by rw [hsadd]; exact Fp7
  have sp8 : wsadd p7 bw = p8 := by rw [hsadd]; exact Fp8
  have su1 : wsadd t3 (⟨#[32, 115, 112, 101, 101, 100, 32]⟩ : ByteArray) = u1 := by rw [hsadd]; exact Fu1
  have su2 : wsadd u1 bs = u2 := by rw [hsadd]; exact Fu2
  have su3 : wsadd u2 (⟨#[32, 102, 105, 116, 32]⟩ : ByteArray) = u3 := by rw [hsadd]; exact Fu3
  have su4 : wsadd u3 bf = u4 := by rw [hsadd]; exact Fu4
  have sv1 : wsadd u4 (⟨#[32, 115, 108, 105, 112, 32]⟩ : ByteArray) = v1 := by rw [hsadd]; exact Fv1
  have sv2 : wsadd v1 bs0 = v2 := by rw [hsadd]; exact Fv2
  have sv3 : wsadd v2 (⟨#[32]⟩ : ByteArray) = v3 := by rw [hsadd]; exact Fv3
  have sv4 : wsadd v3 bs1 = v4 := by rw [hsadd]; exact Fv4
  clear Ft1 Ft2 Fp1 Fp2 Fp3 Fp4 Fp5 Fp6 Fp7 Fp8 Fu1 Fu2 Fu3 Fu4 Fv1 Fv2 Fv3 Fv4
  have m1 : wcmp .geq 1 1 = true := by rw [hcmp]; rfl
  have m2 : wcmp .leq 1 4 = true := by rw [hcmp]; rfl
  have cases : (s0 = 0 ∧ s1 = 0) ∨ (s0 = 0 ∧ ¬ s1 = 0) ∨ ¬ s0 = 0 := by omega
  rcases Classical.em (g = 0) with hg0 | hg0 <;> rcases cases with hz | hz | hz
  all_goals
    first
      | (have gg := g0 hg0)
      | (have gg := g1 hg0)
    first
      | (have cg : wcmp .neq g 0 = false := by (rw [hcmp]; simp [cmpStd, hg0]; done))
      | (have cg : wcmp .neq g 0 = true := by (rw [hcmp]; simp [cmpStd, hg0]; done))
    first
      | (have kk := k0 hz)
      | (have kk := k1 (by omega))
    first
      | (have cz0 : wcmp .neq s0 0 = false := by (rw [hcmp]; simp [cmpStd, hz]; done))
      | (have cz0 : wcmp .neq s0 0 = true := by (rw [hcmp]; simp [cmpStd, hz]; done))
    first
      | (have cz1 : wcmp .neq s1 0 = false := by (rw [hcmp]; simp [cmpStd, hz]; done))
      | (have cz1 : wcmp .neq s1 0 = true := by (rw [hcmp]; simp [cmpStd, hz]; done))
      | (have cz1 : wnot (wnot true) = true := by (rw [hnot]; rfl))
    try (have dw := dw hg0)
    repeat' (first
      | (refine InN.mk (by decide) (by decide) ?_)
      | (refine Le.mk (by rw [hslen]; exact Sz.le (by assumption)) ?_)
      | (simp only [st1, st2, sp1, sp2, sp3, sp4, sp5, sp6, sp7, sp8, su1, su2, su3, su4, sv1, sv2, sv3, sv4])
      | (simp only [gg])
      | (simp only [kk])
      | (simp only [cg]; cbv)
      | (simp only [cz0]; cbv)
      | (simp only [cz1]; cbv)
      | (simp only [m1]; cbv)
      | (simp only [m2]; cbv)
      | (refine Call.stepE (by rw [← hP]; exact d0) rfl ?_; cbv)
      | (refine QCal.stepE (by rw [← hP]; exact dg) rfl ?_; cbv)
      | (refine QCal.stepE (by rw [← hP]; exact dp) rfl ?_; cbv)
      | (refine QCal.stepE (by rw [← hP]; exact de) rfl ?_; cbv)
      | (refine QCal.stepE (by rw [← hP]; exact dw) (by exact Up0.one huq rfl) ?_; cbv)
      | (refine QCal.stepE (by rw [← hP]; exact ds) rfl ?_; cbv)
      | (refine QCal.stepE (by rw [← hP]; exact df) rfl ?_; cbv)
      | (refine QCal.stepE (by rw [← hP]; exact ds0) rfl ?_; cbv)
      | (refine QCal.stepE (by rw [← hP]; exact ds1) rfl ?_; cbv))
    refine Loop.data hw (S := Int × ByteArray) (fun s => fr 101 [(1, .ref 0 19 0 0), (4, .ref 2 7 0 0), (5, .str s.2), (6, .int .i64 s.1)])
      (fun s => [.live 19 [[.int .i64 c, .int .i64 1, .int .i64 g, .int .i64 fit, .int .i64 lo, .int .i64 hi, .int .i64 slo, .int .i64 shi, .int .i64 est, .list 1 qs, .int .i64 s0, .int .i64 s1, .int .i64 f0, .int .i64 f1, .int .i64 f2, .int .i64 f3, .int .i64 f4, .int .i64 f5, .int .i64 f6]], .live 5 [[.str ⟨#[]⟩, .str ⟨#[117, 110, 108, 111, 99, 97, 116, 101, 100]⟩, .str ⟨#[108, 111, 99, 97, 116, 101, 100]⟩, .str ⟨#[100, 101, 103, 114, 97, 100, 101, 100]⟩, .str ⟨#[102, 97, 105, 108, 101, 100]⟩]], .live 7 [[.str ⟨#[99, 108, 101, 97, 110]⟩, .str ⟨#[99, 111, 110, 102, 108, 105, 99, 116]⟩, .str ⟨#[97, 99, 99, 101, 112, 116, 101, 100]⟩, .str ⟨#[102, 97, 117, 108, 116]⟩, .str ⟨#[115, 116, 105, 108, 108]⟩, .str ⟨#[114, 111, 108, 108]⟩, .str ⟨#[111, 118, 101, 114]⟩]]])
      (fun s => 0 ≤ s.1 ∧ s.1 ≤ 7 ∧ s.2 = bk (L5 ++ flN o s.1)) (fun s => (7 - s.1).toNat) (0, t5) (by (refine Wk.eqz (id) (by first | exact fun i _ j _ e => e | (simp only [List.length_cons, List.length_nil]; decide)) ?_; cbv; (repeat' (first | exact trivial | rfl | assumption | apply And.intro | (simp only [hbin, hcmp, hun, hconv, hnot, hbeq, hmm, hscmp, hsadd, hslen, hsat, heqs, hofNat, binStd, cmpStd, unStd, scmpStd, maxI, Bool.not_eq_true', Bool.not_eq_false', decide_eq_true_eq, decide_eq_false_iff_not, Int.not_lt, Int.not_le, if_true, if_false, Bool.false_eq_true, beq_iff_eq, bne_iff_ne, ne_eq, Bool.not_eq_eq_eq_not, Bool.not_true, Bool.not_false, beq_eq_false_iff_ne, bne_eq_false_iff_eq, Int.ofNat_eq_natCast, Bool.not_not, not_true_eq_false, not_false_eq_true, reduceCtorEq]; first | done | assumption) | exact RowsZ.same (by assumption) (by first | assumption | rfl) | exact FzL.mk rfl rfl rfl (by assumption) (by first | assumption | rfl) (by decide) | (refine RowsZ.one ?_; cbv))))) ⟨Int.le_refl 0, (show (0 : Int) ≤ 7 by decide), by rw [et5]; simp [flN, saidL, jt_nil]⟩ ?_
    rintro ⟨i, u⟩ hinv Q2 hN2 hE2 hR2
    have hinv : 0 ≤ i ∧ i ≤ 7 ∧ u = bk (L5 ++ flN o i) := hinv
    cbv
    obtain ⟨hi0, hi7, hu⟩ := hinv
    (split <;> rename_i hc <;> (try (simp only [hbin, hcmp, hun, hconv, hnot, hbeq, hmm, hscmp, hsadd, hslen, hsat, heqs, hofNat, binStd, cmpStd, unStd, scmpStd, maxI, Bool.not_eq_true', Bool.not_eq_false', decide_eq_true_eq, decide_eq_false_iff_not, Int.not_lt, Int.not_le, if_true, if_false, Bool.false_eq_true, beq_iff_eq, bne_iff_ne, ne_eq, Bool.not_eq_eq_eq_not, Bool.not_true, Bool.not_false, beq_eq_false_iff_ne, bne_eq_false_iff_eq, Int.ofNat_eq_natCast, Bool.not_not, not_true_eq_false, not_false_eq_true, reduceCtorEq] at hc)) <;> (try cbv))
    · have hi : i = 0 ∨ i = 1 ∨ i = 2 ∨ i = 3 ∨ i = 4 ∨ i = 5 ∨ i = 6 := by omega
      rcases hi with rfl | rfl | rfl | rfl | rfl | rfl | rfl
      · cbv
        have ca : wbin .add .i64 0 1 = 1 := by rw [hbin]; rfl
        by_cases hb : f0 = 1
        · have cb : wcmp .eql f0 1 = true := by rw [hcmp]; simp [cmpStd, hb]
          have hbt := hf.h0.1 hb
          obtain ⟨ua, ea⟩ : ∃ z, z = u ++ (⟨#[32]⟩ : ByteArray) := ⟨_, rfl⟩
          obtain ⟨ub, eb⟩ : ∃ z, z = ua ++ (⟨#[99, 108, 101, 97, 110]⟩ : ByteArray) := ⟨_, rfl⟩
          have hfl : flN o 1 = flN o 0 ++ ([32] ++ [99, 108, 101, 97, 110]) := fl_some (o := o) (i := 0) (by show some (o.b1, _) = _; rw [hbt])
          have hub : ub = bk (L5 ++ flN o 1) := by rw [eb, ea, hu, hfl]; exact (congrArg (· ++ (⟨#[99, 108, 101, 97, 110]⟩ : ByteArray)) (bk_app (L5 ++ flN o 0) [32])).trans ((bk_app _ [99, 108, 101, 97, 110]).trans (by simp only [List.append_assoc]))
          have hua : ua = bk (L5 ++ flN o 0 ++ [32]) := by rw [ea, hu]; exact bk_app _ _
          have za : Sz ua := sz_bk (by have := len_fl o 0; simp only [List.length_append, List.length_cons, List.length_nil]; omega) hua
          have zb : Sz ub := sz_bk (by have := len_fl o 1; rw [List.length_append]; omega) hub
          have cu : wsadd u ⟨#[32]⟩ = ua := by rw [hsadd, ea]
          have cv : wsadd ua ⟨#[99, 108, 101, 97, 110]⟩ = ub := by rw [hsadd, eb]
          repeat' (first
            | (refine InN.mk (by decide) (by decide) ?_)
            | (refine Le.mk (by rw [hslen]; exact Sz.le (by assumption)) ?_; try cbv)
            | (simp only [cu, cv])
            | (simp only [cb]; cbv))
          simp only [ca]
          refine hN2 (1, ub) _ _ ?hx ?hi (show ((7 : Int) - 1).toNat < ((7 : Int) - 0).toNat by decide)
          case hx => (refine Wk.eqz (id) (by first | exact fun i _ j _ e => e | (simp only [List.length_cons, List.length_nil]; decide)) ?_; cbv; (repeat' (first | exact trivial | rfl | assumption | apply And.intro | (simp only [hbin, hcmp, hun, hconv, hnot, hbeq, hmm, hscmp, hsadd, hslen, hsat, heqs, hofNat, binStd, cmpStd, unStd, scmpStd, maxI, Bool.not_eq_true', Bool.not_eq_false', decide_eq_true_eq, decide_eq_false_iff_not, Int.not_lt, Int.not_le, if_true, if_false, Bool.false_eq_true, beq_iff_eq, bne_iff_ne, ne_eq, Bool.not_eq_eq_eq_not, Bool.not_true, Bool.not_false, beq_eq_false_iff_ne, bne_eq_false_iff_eq, Int.ofNat_eq_natCast, Bool.not_not, not_true_eq_false, not_false_eq_true, reduceCtorEq]; first | done | assumption) | exact RowsZ.same (by assumption) (by first | assumption | rfl) | exact FzL.mk rfl rfl rfl (by assumption) (by first | assumption | rfl) (by decide) | (refine RowsZ.one ?_; cbv))))
          case hi => exact ⟨(show (0 : Int) ≤ 1 by decide), (show (1 : Int) ≤ 7 by decide), hub⟩
        · have cb : wcmp .eql f0 1 = false := by rw [hcmp]; simp [cmpStd, hb]
          have hbt : o.b1 = false := by
            cases hx : o.b1
            · rfl
            · exact absurd (hf.h0.2 hx) hb
          have hfl : flN o 1 = flN o 0 := fl_none (o := o) (i := 0) (x := [99, 108, 101, 97, 110]) (by show some (o.b1, _) = _; rw [hbt])
          repeat' (first
            | (refine InN.mk (by decide) (by decide) ?_)
            | (simp only [cb]; cbv))
          simp only [ca]
          refine hN2 (1, u) _ _ ?hx ?hi (show ((7 : Int) - 1).toNat < ((7 : Int) - 0).toNat by decide)
          case hx => (refine Wk.eqz (id) (by first | exact fun i _ j _ e => e | (simp only [List.length_cons, List.length_nil]; decide)) ?_; cbv; (repeat' (first | exact trivial | rfl | assumption | apply And.intro | (simp only [hbin, hcmp, hun, hconv, hnot, hbeq, hmm, hscmp, hsadd, hslen, hsat, heqs, hofNat, binStd, cmpStd, unStd, scmpStd, maxI, Bool.not_eq_true', Bool.not_eq_false', decide_eq_true_eq, decide_eq_false_iff_not, Int.not_lt, Int.not_le, if_true, if_false, Bool.false_eq_true, beq_iff_eq, bne_iff_ne, ne_eq, Bool.not_eq_eq_eq_not, Bool.not_true, Bool.not_false, beq_eq_false_iff_ne, bne_eq_false_iff_eq, Int.ofNat_eq_natCast, Bool.not_not, not_true_eq_false, not_false_eq_true, reduceCtorEq]; first | done | assumption) | exact RowsZ.same (by assumption) (by first | assumption | rfl) | exact FzL.mk rfl rfl rfl (by assumption) (by first | assumption | rfl) (by decide) | (refine RowsZ.one ?_; cbv))))
          case hi => exact ⟨(show (0 : Int) ≤ 1 by decide), (show (1 : Int) ≤ 7 by decide), by rw [hu, hfl]⟩
      · cbv
        have ca : wbin .add .i64 1 1 = 2 := by rw [hbin]; rfl
        by_cases hb : f1 = 1
        · have cb : wcmp .eql f1 1 = true := by rw [hcmp]; simp [cmpStd, hb]
          have hbt := hf.h1.1 hb
          obtain ⟨ua, ea⟩ : ∃ z, z = u ++ (⟨#[32]⟩ : ByteArray) := ⟨_, rfl⟩
          obtain ⟨ub, eb⟩ : ∃ z, z = ua ++ (⟨#[99, 111, 110, 102, 108, 105, 99, 116]⟩ : ByteArray) := ⟨_, rfl⟩
          have hfl : flN o 2 = flN o 1 ++ ([32] ++ [99, 111, 110, 102, 108, 105, 99, 116]) := fl_some (o := o) (i := 1) (by show some (o.b2, _) = _; rw [hbt])
          have hub : ub = bk (L5 ++ flN o 2) := by rw [eb, ea, hu, hfl]; exact (congrArg (· ++ (⟨#[99, 111, 110, 102, 108, 105, 99, 116]⟩ : ByteArray)) (bk_app (L5 ++ flN o 1) [32])).trans ((bk_app _ [99, 111, 110, 102, 108, 105, 99, 116]).trans (by simp only [List.append_assoc]))
          have hua : ua = bk (L5 ++ flN o 1 ++ [32]) := by rw [ea, hu]; exact bk_app _ _
          have za : Sz ua := sz_bk (by have := len_fl o 1; simp only [List.length_append, List.length_cons, List.length_nil]; omega) hua
          have zb : Sz ub := sz_bk (by have := len_fl o 2; rw [List.length_append]; omega) hub
          have cu : wsadd u ⟨#[32]⟩ = ua := by rw [hsadd, ea]
          have cv : wsadd ua ⟨#[99, 111, 110, 102, 108, 105, 99, 116]⟩ = ub := by rw [hsadd, eb]
          repeat' (first
            | (refine InN.mk (by decide) (by decide) ?_)
            | (refine Le.mk (by rw [hslen]; exact Sz.le (by assumption)) ?_; try cbv)
            | (simp only [cu, cv])
            | (simp only [cb]; cbv))
          simp only [ca]
          refine hN2 (2, ub) _ _ ?hx ?hi (show ((7 : Int) - 2).toNat < ((7 : Int) - 1).toNat by decide)
          case hx => (refine Wk.eqz (id) (by first | exact fun i _ j _ e => e | (simp only [List.length_cons, List.length_nil]; decide)) ?_; cbv; (repeat' (first | exact trivial | rfl | assumption | apply And.intro | (simp only [hbin, hcmp, hun, hconv, hnot, hbeq, hmm, hscmp, hsadd, hslen, hsat, heqs, hofNat, binStd, cmpStd, unStd, scmpStd, maxI, Bool.not_eq_true', Bool.not_eq_false', decide_eq_true_eq, decide_eq_false_iff_not, Int.not_lt, Int.not_le, if_true, if_false, Bool.false_eq_true, beq_iff_eq, bne_iff_ne, ne_eq, Bool.not_eq_eq_eq_not, Bool.not_true, Bool.not_false, beq_eq_false_iff_ne, bne_eq_false_iff_eq, Int.ofNat_eq_natCast, Bool.not_not, not_true_eq_false, not_false_eq_true, reduceCtorEq]; first | done | assumption) | exact RowsZ.same (by assumption) (by first | assumption | rfl) | exact FzL.mk rfl rfl rfl (by assumption) (by first | assumption | rfl) (by decide) | (refine RowsZ.one ?_; cbv))))
          case hi => exact ⟨(show (0 : Int) ≤ 2 by decide), (show (2 : Int) ≤ 7 by decide), hub⟩
        · have cb : wcmp .eql f1 1 = false := by rw [hcmp]; simp [cmpStd, hb]
          have hbt : o.b2 = false := by
            cases hx : o.b2
            · rfl
            · exact absurd (hf.h1.2 hx) hb
          have hfl : flN o 2 = flN o 1 := fl_none (o := o) (i := 1) (x := [99, 111, 110, 102, 108, 105, 99, 116]) (by show some (o.b2, _) = _; rw [hbt])
          repeat' (first
            | (refine InN.mk (by decide) (by decide) ?_)
            | (simp only [cb]; cbv))
          simp only [ca]
          refine hN2 (2, u) _ _ ?hx ?hi (show ((7 : Int) - 2).toNat < ((7 : Int) - 1).toNat by decide)
          case hx => (refine Wk.eqz (id) (by first | exact fun i _ j _ e => e | (simp only [List.length_cons, List.length_nil]; decide)) ?_; cbv; (repeat' (first | exact trivial | rfl | assumption | apply And.intro | (simp only [hbin, hcmp, hun, hconv, hnot, hbeq, hmm, hscmp, hsadd, hslen, hsat, heqs, hofNat, binStd, cmpStd, unStd, scmpStd, maxI, Bool.not_eq_true', Bool.not_eq_false', decide_eq_true_eq, decide_eq_false_iff_not, Int.not_lt, Int.not_le, if_true, if_false, Bool.false_eq_true, beq_iff_eq, bne_iff_ne, ne_eq, Bool.not_eq_eq_eq_not, Bool.not_true, Bool.not_false, beq_eq_false_iff_ne, bne_eq_false_iff_eq, Int.ofNat_eq_natCast, Bool.not_not, not_true_eq_false, not_false_eq_true, reduceCtorEq]; first | done | assumption) | exact RowsZ.same (by assumption) (by first | assumption | rfl) | exact FzL.mk rfl rfl rfl (by assumption) (by first | assumption | rfl) (by decide) | (refine RowsZ.one ?_; cbv))))
          case hi => exact ⟨(show (0 : Int) ≤ 2 by decide), (show (2 : Int) ≤ 7 by decide), by rw [hu, hfl]⟩
      · cbv
        have ca : wbin .add .i64 2 1 = 3 := by rw [hbin]; rfl
        by_cases hb : f2 = 1
        · have cb : wcmp .eql f2 1 = true := by rw [hcmp]; simp [cmpStd, hb]
          have hbt := hf.h2.1 hb
          obtain ⟨ua, ea⟩ : ∃ z, z = u ++ (⟨#[32]⟩ : ByteArray) := ⟨_, rfl⟩
          obtain ⟨ub, eb⟩ : ∃ z, z = ua ++ (⟨#[97, 99, 99, 101, 112, 116, 101, 100]⟩ : ByteArray) := ⟨_, rfl⟩
          have hfl : flN o 3 = flN o 2 ++ ([32] ++ [97, 99, 99, 101, 112, 116, 101, 100]) := fl_some (o := o) (i := 2) (by show some (o.b3, _) = _; rw [hbt])
          have hub : ub = bk (L5 ++ flN o 3) := by rw [eb, ea, hu, hfl]; exact (congrArg (· ++ (⟨#[97, 99, 99, 101, 112, 116, 101, 100]⟩ : ByteArray)) (bk_app (L5 ++ flN o 2) [32])).trans ((bk_app _ [97, 99, 99, 101, 112, 116, 101, 100]).trans (by simp only [List.append_assoc]))
          have hua : ua = bk (L5 ++ flN o 2 ++ [32]) := by rw [ea, hu]; exact bk_app _ _
          have za : Sz ua := sz_bk (by have := len_fl o 2; simp only [List.length_append, List.length_cons, List.length_nil]; omega) hua
          have zb : Sz ub := sz_bk (by have := len_fl o 3; rw [List.length_append]; omega) hub
          have cu : wsadd u ⟨#[32]⟩ = ua := by rw [hsadd, ea]
          have cv : wsadd ua ⟨#[97, 99, 99, 101, 112, 116, 101, 100]⟩ = ub := by rw [hsadd, eb]
          repeat' (first
            | (refine InN.mk (by decide) (by decide) ?_)
            | (refine Le.mk (by rw [hslen]; exact Sz.le (by assumption)) ?_; try cbv)
            | (simp only [cu, cv])
            | (simp only [cb]; cbv))
          simp only [ca]
          refine hN2 (3, ub) _ _ ?hx ?hi (show ((7 : Int) - 3).toNat < ((7 : Int) - 2).toNat by decide)
          case hx => (refine Wk.eqz (id) (by first | exact fun i _ j _ e => e | (simp only [List.length_cons, List.length_nil]; decide)) ?_; cbv; (repeat' (first | exact trivial | rfl | assumption | apply And.intro | (simp only [hbin, hcmp, hun, hconv, hnot, hbeq, hmm, hscmp, hsadd, hslen, hsat, heqs, hofNat, binStd, cmpStd, unStd, scmpStd, maxI, Bool.not_eq_true', Bool.not_eq_false', decide_eq_true_eq, decide_eq_false_iff_not, Int.not_lt, Int.not_le, if_true, if_false, Bool.false_eq_true, beq_iff_eq, bne_iff_ne, ne_eq, Bool.not_eq_eq_eq_not, Bool.not_true, Bool.not_false, beq_eq_false_iff_ne, bne_eq_false_iff_eq, Int.ofNat_eq_natCast, Bool.not_not, not_true_eq_false, not_false_eq_true, reduceCtorEq]; first | done | assumption) | exact RowsZ.same (by assumption) (by first | assumption | rfl) | exact FzL.mk rfl rfl rfl (by assumption) (by first | assumption | rfl) (by decide) | (refine RowsZ.one ?_; cbv))))
          case hi => exact ⟨(show (0 : Int) ≤ 3 by decide), (show (3 : Int) ≤ 7 by decide), hub⟩
        · have cb : wcmp .eql f2 1 = false := by rw [hcmp]; simp [cmpStd, hb]
          have hbt : o.b3 = false := by
            cases hx : o.b3
            · rfl
            · exact absurd (hf.h2.2 hx) hb
          have hfl : flN o 3 = flN o 2 := fl_none (o := o) (i := 2) (x := [97, 99, 99, 101, 112, 116, 101, 100]) (by show some (o.b3, _) = _; rw [hbt])
          repeat' (first
            | (refine InN.mk (by decide) (by decide) ?_)
            | (simp only [cb]; cbv))
          simp only [ca]
          refine hN2 (3, u) _ _ ?hx ?hi (show ((7 : Int) - 3).toNat < ((7 : Int) - 2).toNat by decide)
          case hx => (refine Wk.eqz (id) (by first | exact fun i _ j _ e => e | (simp only [List.length_cons, List.length_nil]; decide)) ?_; cbv; (repeat' (first | exact trivial | rfl | assumption | apply And.intro | (simp only [hbin, hcmp, hun, hconv, hnot, hbeq, hmm, hscmp, hsadd, hslen, hsat, heqs, hofNat, binStd, cmpStd, unStd, scmpStd, maxI, Bool.not_eq_true', Bool.not_eq_false', decide_eq_true_eq, decide_eq_false_iff_not, Int.not_lt, Int.not_le, if_true, if_false, Bool.false_eq_true, beq_iff_eq, bne_iff_ne, ne_eq, Bool.not_eq_eq_eq_not, Bool.not_true, Bool.not_false, beq_eq_false_iff_ne, bne_eq_false_iff_eq, Int.ofNat_eq_natCast, Bool.not_not, not_true_eq_false, not_false_eq_true, reduceCtorEq]; first | done | assumption) | exact RowsZ.same (by assumption) (by first | assumption | rfl) | exact FzL.mk rfl rfl rfl (by assumption) (by first | assumption | rfl) (by decide) | (refine RowsZ.one ?_; cbv))))
          case hi => exact ⟨(show (0 : Int) ≤ 3 by decide), (show (3 : Int) ≤ 7 by decide), by rw [hu, hfl]⟩
      · cbv
        have ca : wbin .add .i64 3 1 = 4 := by rw [hbin]; rfl
        by_cases hb : f3 = 1
        · have cb : wcmp .eql f3 1 = true := by rw [hcmp]; simp [cmpStd, hb]
          have hbt := hf.h3.1 hb
          obtain ⟨ua, ea⟩ : ∃ z, z = u ++ (⟨#[32]⟩ : ByteArray) := ⟨_, rfl⟩
          obtain ⟨ub, eb⟩ : ∃ z, z = ua ++ (⟨#[102, 97, 117, 108, 116]⟩ : ByteArray) := ⟨_, rfl⟩
          have hfl : flN o 4 = flN o 3 ++ ([32] ++ [102, 97, 117, 108, 116]) := fl_some (o := o) (i := 3) (by show some (o.b4, _) = _; rw [hbt])
          have hub : ub = bk (L5 ++ flN o 4) := by rw [eb, ea, hu, hfl]; exact (congrArg (· ++ (⟨#[102, 97, 117, 108, 116]⟩ : ByteArray)) (bk_app (L5 ++ flN o 3) [32])).trans ((bk_app _ [102, 97, 117, 108, 116]).trans (by simp only [List.append_assoc]))
          have hua : ua = bk (L5 ++ flN o 3 ++ [32]) := by rw [ea, hu]; exact bk_app _ _
          have za : Sz ua := sz_bk (by have := len_fl o 3; simp only [List.length_append, List.length_cons, List.length_nil]; omega) hua
          have zb : Sz ub := sz_bk (by have := len_fl o 4; rw [List.length_append]; omega) hub
          have cu : wsadd u ⟨#[32]⟩ = ua := by rw [hsadd, ea]
          have cv : wsadd ua ⟨#[102, 97, 117, 108, 116]⟩ = ub := by rw [hsadd, eb]
          repeat' (first
            | (refine InN.mk (by decide) (by decide) ?_)
            | (refine Le.mk (by rw [hslen]; exact Sz.le (by assumption)) ?_; try cbv)
            | (simp only [cu, cv])
            | (simp only [cb]; cbv))
          simp only [ca]
          refine hN2 (4, ub) _ _ ?hx ?hi (show ((7 : Int) - 4).toNat < ((7 : Int) - 3).toNat by decide)
          case hx => (refine Wk.eqz (id) (by first | exact fun i _ j _ e => e | (simp only [List.length_cons, List.length_nil]; decide)) ?_; cbv; (repeat' (first | exact trivial | rfl | assumption | apply And.intro | (simp only [hbin, hcmp, hun, hconv, hnot, hbeq, hmm, hscmp, hsadd, hslen, hsat, heqs, hofNat, binStd, cmpStd, unStd, scmpStd, maxI, Bool.not_eq_true', Bool.not_eq_false', decide_eq_true_eq, decide_eq_false_iff_not, Int.not_lt, Int.not_le, if_true, if_false, Bool.false_eq_true, beq_iff_eq, bne_iff_ne, ne_eq, Bool.not_eq_eq_eq_not, Bool.not_true, Bool.not_false, beq_eq_false_iff_ne, bne_eq_false_iff_eq, Int.ofNat_eq_natCast, Bool.not_not, not_true_eq_false, not_false_eq_true, reduceCtorEq]; first | done | assumption) | exact RowsZ.same (by assumption) (by first | assumption | rfl) | exact FzL.mk rfl rfl rfl (by assumption) (by first | assumption | rfl) (by decide) | (refine RowsZ.one ?_; cbv))))
          case hi => exact ⟨(show (0 : Int) ≤ 4 by decide), (show (4 : Int) ≤ 7 by decide), hub⟩
        · have cb : wcmp .eql f3 1 = false := by rw [hcmp]; simp [cmpStd, hb]
          have hbt : o.b4 = false := by
            cases hx : o.b4
            · rfl
            · exact absurd (hf.h3.2 hx) hb
          have hfl : flN o 4 = flN o 3 := fl_none (o := o) (i := 3) (x := [102, 97, 117, 108, 116]) (by show some (o.b4, _) = _; rw [hbt])
          repeat' (first
            | (refine InN.mk (by decide) (by decide) ?_)
            | (simp only [cb]; cbv))
          simp only [ca]
          refine hN2 (4, u) _ _ ?hx ?hi (show ((7 : Int) - 4).toNat < ((7 : Int) - 3).toNat by decide)
          case hx => (refine Wk.eqz (id) (by first | exact fun i _ j _ e => e | (simp only [List.length_cons, List.length_nil]; decide)) ?_; cbv; (repeat' (first | exact trivial | rfl | assumption | apply And.intro | (simp only [hbin, hcmp, hun, hconv, hnot, hbeq, hmm, hscmp, hsadd, hslen, hsat, heqs, hofNat, binStd, cmpStd, unStd, scmpStd, maxI, Bool.not_eq_true', Bool.not_eq_false', decide_eq_true_eq, decide_eq_false_iff_not, Int.not_lt, Int.not_le, if_true, if_false, Bool.false_eq_true, beq_iff_eq, bne_iff_ne, ne_eq, Bool.not_eq_eq_eq_not, Bool.not_true, Bool.not_false, beq_eq_false_iff_ne, bne_eq_false_iff_eq, Int.ofNat_eq_natCast, Bool.not_not, not_true_eq_false, not_false_eq_true, reduceCtorEq]; first | done | assumption) | exact RowsZ.same (by assumption) (by first | assumption | rfl) | exact FzL.mk rfl rfl rfl (by assumption) (by first | assumption | rfl) (by decide) | (refine RowsZ.one ?_; cbv))))
          case hi => exact ⟨(show (0 : Int) ≤ 4 by decide), (show (4 : Int) ≤ 7 by decide), by rw [hu, hfl]⟩
      · cbv
        have ca : wbin .add .i64 4 1 = 5 := by rw [hbin]; rfl
        by_cases hb : f4 = 1
        · have cb : wcmp .eql f4 1 = true := by rw [hcmp]; simp [cmpStd, hb]
          have hbt := hf.h4.1 hb
          obtain ⟨ua, ea⟩ : ∃ z, z = u ++ (⟨#[32]⟩ : ByteArray) := ⟨_, rfl⟩
          obtain ⟨ub, eb⟩ : ∃ z, z = ua ++ (⟨#[115, 116, 105, 108, 108]⟩ : ByteArray) := ⟨_, rfl⟩
          have hfl : flN o 5 = flN o 4 ++ ([32] ++ [115, 116, 105, 108, 108]) := fl_some (o := o) (i := 4) (by show some (o.b5, _) = _; rw [hbt])
          have hub : ub = bk (L5 ++ flN o 5) := by rw [eb, ea, hu, hfl]; exact (congrArg (· ++ (⟨#[115, 116, 105, 108, 108]⟩ : ByteArray)) (bk_app (L5 ++ flN o 4) [32])).trans ((bk_app _ [115, 116, 105, 108, 108]).trans (by simp only [List.append_assoc]))
          have hua : ua = bk (L5 ++ flN o 4 ++ [32]) := by rw [ea, hu]; exact bk_app _ _
          have za : Sz ua := sz_bk (by have := len_fl o 4; simp only [List.length_append, List.length_cons, List.length_nil]; omega) hua
          have zb : Sz ub := sz_bk (by have := len_fl o 5; rw [List.length_append]; omega) hub
          have cu : wsadd u ⟨#[32]⟩ = ua := by rw [hsadd, ea]
          have cv : wsadd ua ⟨#[115, 116, 105, 108, 108]⟩ = ub := by rw [hsadd, eb]
          repeat' (first
            | (refine InN.mk (by decide) (by decide) ?_)
            | (refine Le.mk (by rw [hslen]; exact Sz.le (by assumption)) ?_; try cbv)
            | (simp only [cu, cv])
            | (simp only [cb]; cbv))
          simp only [ca]
          refine hN2 (5, ub) _ _ ?hx ?hi (show ((7 : Int) - 5).toNat < ((7 : Int) - 4).toNat by decide)
          case hx => (refine Wk.eqz (id) (by first | exact fun i _ j _ e => e | (simp only [List.length_cons, List.length_nil]; decide)) ?_; cbv; (repeat' (first | exact trivial | rfl | assumption | apply And.intro | (simp only [hbin, hcmp, hun, hconv, hnot, hbeq, hmm, hscmp, hsadd, hslen, hsat, heqs, hofNat, binStd, cmpStd, unStd, scmpStd, maxI, Bool.not_eq_true', Bool.not_eq_false', decide_eq_true_eq, decide_eq_false_iff_not, Int.not_lt, Int.not_le, if_true, if_false, Bool.false_eq_true, beq_iff_eq, bne_iff_ne, ne_eq, Bool.not_eq_eq_eq_not, Bool.not_true, Bool.not_false, beq_eq_false_iff_ne, bne_eq_false_iff_eq, Int.ofNat_eq_natCast, Bool.not_not, not_true_eq_false, not_false_eq_true, reduceCtorEq]; first | done | assumption) | exact RowsZ.same (by assumption) (by first | assumption | rfl) | exact FzL.mk rfl rfl rfl (by assumption) (by first | assumption | rfl) (by decide) | (refine RowsZ.one ?_; cbv))))
          case hi => exact ⟨(show (0 : Int) ≤ 5 by decide), (show (5 : Int) ≤ 7 by decide), hub⟩
        · have cb : wcmp .eql f4 1 = false := by rw [hcmp]; simp [cmpStd, hb]
          have hbt : o.b5 = false := by
            cases hx : o.b5
            · rfl
            · exact absurd (hf.h4.2 hx) hb
          have hfl : flN o 5 = flN o 4 := fl_none (o := o) (i := 4) (x := [115, 116, 105, 108, 108]) (by show some (o.b5, _) = _; rw [hbt])
          repeat' (first
            | (refine InN.mk (by decide) (by decide) ?_)
            | (simp only [cb]; cbv))
          simp only [ca]
          refine hN2 (5, u) _ _ ?hx ?hi (show ((7 : Int) - 5).toNat < ((7 : Int) - 4).toNat by decide)
          case hx => (refine Wk.eqz (id) (by first | exact fun i _ j _ e => e | (simp only [List.length_cons, List.length_nil]; decide)) ?_; cbv; (repeat' (first | exact trivial | rfl | assumption | apply And.intro | (simp only [hbin, hcmp, hun, hconv, hnot, hbeq, hmm, hscmp, hsadd, hslen, hsat, heqs, hofNat, binStd, cmpStd, unStd, scmpStd, maxI, Bool.not_eq_true', Bool.not_eq_false', decide_eq_true_eq, decide_eq_false_iff_not, Int.not_lt, Int.not_le, if_true, if_false, Bool.false_eq_true, beq_iff_eq, bne_iff_ne, ne_eq, Bool.not_eq_eq_eq_not, Bool.not_true, Bool.not_false, beq_eq_false_iff_ne, bne_eq_false_iff_eq, Int.ofNat_eq_natCast, Bool.not_not, not_true_eq_false, not_false_eq_true, reduceCtorEq]; first | done | assumption) | exact RowsZ.same (by assumption) (by first | assumption | rfl) | exact FzL.mk rfl rfl rfl (by assumption) (by first | assumption | rfl) (by decide) | (refine RowsZ.one ?_; cbv))))
          case hi => exact ⟨(show (0 : Int) ≤ 5 by decide), (show (5 : Int) ≤ 7 by decide), by rw [hu, hfl]⟩
      · cbv
        have ca : wbin .add .i64 5 1 = 6 := by rw [hbin]; rfl
        by_cases hb : f5 = 1
        · have cb : wcmp .eql f5 1 = true := by rw [hcmp]; simp [cmpStd, hb]
          have hbt := hf.h5.1 hb
          obtain ⟨ua, ea⟩ : ∃ z, z = u ++ (⟨#[32]⟩ : ByteArray) := ⟨_, rfl⟩
          obtain ⟨ub, eb⟩ : ∃ z, z = ua ++ (⟨#[114, 111, 108, 108]⟩ : ByteArray) := ⟨_, rfl⟩
          have hfl : flN o 6 = flN o 5 ++ ([32] ++ [114, 111, 108, 108]) := fl_some (o := o) (i := 5) (by show some (o.b6, _) = _; rw [hbt])
          have hub : ub = bk (L5 ++ flN o 6) := by rw [eb, ea, hu, hfl]; exact (congrArg (· ++ (⟨#[114, 111, 108, 108]⟩ : ByteArray)) (bk_app (L5 ++ flN o 5) [32])).trans ((bk_app _ [114, 111, 108, 108]).trans (by simp only [List.append_assoc]))
          have hua : ua = bk (L5 ++ flN o 5 ++ [32]) := by rw [ea, hu]; exact bk_app _ _
          have za : Sz ua := sz_bk (by have := len_fl o 5; simp only [List.length_append, List.length_cons, List.length_nil]; omega) hua
          have zb : Sz ub := sz_bk (by have := len_fl o 6; rw [List.length_append]; omega) hub
          have cu : wsadd u ⟨#[32]⟩ = ua := by rw [hsadd, ea]
          have cv : wsadd ua ⟨#[114, 111, 108, 108]⟩ = ub := by rw [hsadd, eb]
          repeat' (first
            | (refine InN.mk (by decide) (by decide) ?_)
            | (refine Le.mk (by rw [hslen]; exact Sz.le (by assumption)) ?_; try cbv)
            | (simp only [cu, cv])
            | (simp only [cb]; cbv))
          simp only [ca]
          refine hN2 (6, ub) _ _ ?hx ?hi (show ((7 : Int) - 6).toNat < ((7 : Int) - 5).toNat by decide)
          case hx => (refine Wk.eqz (id) (by first | exact fun i _ j _ e => e | (simp only [List.length_cons, List.length_nil]; decide)) ?_; cbv; (repeat' (first | exact trivial | rfl | assumption | apply And.intro | (simp only [hbin, hcmp, hun, hconv, hnot, hbeq, hmm, hscmp, hsadd, hslen, hsat, heqs, hofNat, binStd, cmpStd, unStd, scmpStd, maxI, Bool.not_eq_true', Bool.not_eq_false', decide_eq_true_eq, decide_eq_false_iff_not, Int.not_lt, Int.not_le, if_true, if_false, Bool.false_eq_true, beq_iff_eq, bne_iff_ne, ne_eq, Bool.not_eq_eq_eq_not, Bool.not_true, Bool.not_false, beq_eq_false_iff_ne, bne_eq_false_iff_eq, Int.ofNat_eq_natCast, Bool.not_not, not_true_eq_false, not_false_eq_true, reduceCtorEq]; first | done | assumption) | exact RowsZ.same (by assumption) (by first | assumption | rfl) | exact FzL.mk rfl rfl rfl (by assumption) (by first | assumption | rfl) (by decide) | (refine RowsZ.one ?_; cbv))))
          case hi => exact ⟨(show (0 : Int) ≤ 6 by decide), (show (6 : Int) ≤ 7 by decide), hub⟩
        · have cb : wcmp .eql f5 1 = false := by rw [hcmp]; simp [cmpStd, hb]
          have hbt : o.b6 = false := by
            cases hx : o.b6
            · rfl
            · exact absurd (hf.h5.2 hx) hb
          have hfl : flN o 6 = flN o 5 := fl_none (o := o) (i := 5) (x := [114, 111, 108, 108]) (by show some (o.b6, _) = _; rw [hbt])
          repeat' (first
            | (refine InN.mk (by decide) (by decide) ?_)
            | (simp only [cb]; cbv))
          simp only [ca]
          refine hN2 (6, u) _ _ ?hx ?hi (show ((7 : Int) - 6).toNat < ((7 : Int) - 5).toNat by decide)
          case hx => (refine Wk.eqz (id) (by first | exact fun i _ j _ e => e | (simp only [List.length_cons, List.length_nil]; decide)) ?_; cbv; (repeat' (first | exact trivial | rfl | assumption | apply And.intro | (simp only [hbin, hcmp, hun, hconv, hnot, hbeq, hmm, hscmp, hsadd, hslen, hsat, heqs, hofNat, binStd, cmpStd, unStd, scmpStd, maxI, Bool.not_eq_true', Bool.not_eq_false', decide_eq_true_eq, decide_eq_false_iff_not, Int.not_lt, Int.not_le, if_true, if_false, Bool.false_eq_true, beq_iff_eq, bne_iff_ne, ne_eq, Bool.not_eq_eq_eq_not, Bool.not_true, Bool.not_false, beq_eq_false_iff_ne, bne_eq_false_iff_eq, Int.ofNat_eq_natCast, Bool.not_not, not_true_eq_false, not_false_eq_true, reduceCtorEq]; first | done | assumption) | exact RowsZ.same (by assumption) (by first | assumption | rfl) | exact FzL.mk rfl rfl rfl (by assumption) (by first | assumption | rfl) (by decide) | (refine RowsZ.one ?_; cbv))))
          case hi => exact ⟨(show (0 : Int) ≤ 6 by decide), (show (6 : Int) ≤ 7 by decide), by rw [hu, hfl]⟩
      · cbv
        have ca : wbin .add .i64 6 1 = 7 := by rw [hbin]; rfl
        by_cases hb : f6 = 1
        · have cb : wcmp .eql f6 1 = true := by rw [hcmp]; simp [cmpStd, hb]
          have hbt := hf.h6.1 hb
          obtain ⟨ua, ea⟩ : ∃ z, z = u ++ (⟨#[32]⟩ : ByteArray) := ⟨_, rfl⟩
          obtain ⟨ub, eb⟩ : ∃ z, z = ua ++ (⟨#[111, 118, 101, 114]⟩ : ByteArray) := ⟨_, rfl⟩
          have hfl : flN o 7 = flN o 6 ++ ([32] ++ [111, 118, 101, 114]) := fl_some (o := o) (i := 6) (by show some (o.b7, _) = _; rw [hbt])
          have hub : ub = bk (L5 ++ flN o 7) := by rw [eb, ea, hu, hfl]; exact (congrArg (· ++ (⟨#[111, 118, 101, 114]⟩ : ByteArray)) (bk_app (L5 ++ flN o 6) [32])).trans ((bk_app _ [111, 118, 101, 114]).trans (by simp only [List.append_assoc]))
          have hua : ua = bk (L5 ++ flN o 6 ++ [32]) := by rw [ea, hu]; exact bk_app _ _
          have za : Sz ua := sz_bk (by have := len_fl o 6; simp only [List.length_append, List.length_cons, List.length_nil]; omega) hua
          have zb : Sz ub := sz_bk (by have := len_fl o 7; rw [List.length_append]; omega) hub
          have cu : wsadd u ⟨#[32]⟩ = ua := by rw [hsadd, ea]
          have cv : wsadd ua ⟨#[111, 118, 101, 114]⟩ = ub := by rw [hsadd, eb]
          repeat' (first
            | (refine InN.mk (by decide) (by decide) ?_)
            | (refine Le.mk (by rw [hslen]; exact Sz.le (by assumption)) ?_; try cbv)
            | (simp only [cu, cv])
            | (simp only [cb]; cbv))
          simp only [ca]
          refine hN2 (7, ub) _ _ ?hx ?hi (show ((7 : Int) - 7).toNat < ((7 : Int) - 6).toNat by decide)
          case hx => (refine Wk.eqz (id) (by first | exact fun i _ j _ e => e | (simp only [List.length_cons, List.length_nil]; decide)) ?_; cbv; (repeat' (first | exact trivial | rfl | assumption | apply And.intro | (simp only [hbin, hcmp, hun, hconv, hnot, hbeq, hmm, hscmp, hsadd, hslen, hsat, heqs, hofNat, binStd, cmpStd, unStd, scmpStd, maxI, Bool.not_eq_true', Bool.not_eq_false', decide_eq_true_eq, decide_eq_false_iff_not, Int.not_lt, Int.not_le, if_true, if_false, Bool.false_eq_true, beq_iff_eq, bne_iff_ne, ne_eq, Bool.not_eq_eq_eq_not, Bool.not_true, Bool.not_false, beq_eq_false_iff_ne, bne_eq_false_iff_eq, Int.ofNat_eq_natCast, Bool.not_not, not_true_eq_false, not_false_eq_true, reduceCtorEq]; first | done | assumption) | exact RowsZ.same (by assumption) (by first | assumption | rfl) | exact FzL.mk rfl rfl rfl (by assumption) (by first | assumption | rfl) (by decide) | (refine RowsZ.one ?_; cbv))))
          case hi => exact ⟨(show (0 : Int) ≤ 7 by decide), (show (7 : Int) ≤ 7 by decide), hub⟩
        · have cb : wcmp .eql f6 1 = false := by rw [hcmp]; simp [cmpStd, hb]
          have hbt : o.b7 = false := by
            cases hx : o.b7
            · rfl
            · exact absurd (hf.h6.2 hx) hb
          have hfl : flN o 7 = flN o 6 := fl_none (o := o) (i := 6) (x := [111, 118, 101, 114]) (by show some (o.b7, _) = _; rw [hbt])
          repeat' (first
            | (refine InN.mk (by decide) (by decide) ?_)
            | (simp only [cb]; cbv))
          simp only [ca]
          refine hN2 (7, u) _ _ ?hx ?hi (show ((7 : Int) - 7).toNat < ((7 : Int) - 6).toNat by decide)
          case hx => (refine Wk.eqz (id) (by first | exact fun i _ j _ e => e | (simp only [List.length_cons, List.length_nil]; decide)) ?_; cbv; (repeat' (first | exact trivial | rfl | assumption | apply And.intro | (simp only [hbin, hcmp, hun, hconv, hnot, hbeq, hmm, hscmp, hsadd, hslen, hsat, heqs, hofNat, binStd, cmpStd, unStd, scmpStd, maxI, Bool.not_eq_true', Bool.not_eq_false', decide_eq_true_eq, decide_eq_false_iff_not, Int.not_lt, Int.not_le, if_true, if_false, Bool.false_eq_true, beq_iff_eq, bne_iff_ne, ne_eq, Bool.not_eq_eq_eq_not, Bool.not_true, Bool.not_false, beq_eq_false_iff_ne, bne_eq_false_iff_eq, Int.ofNat_eq_natCast, Bool.not_not, not_true_eq_false, not_false_eq_true, reduceCtorEq]; first | done | assumption) | exact RowsZ.same (by assumption) (by first | assumption | rfl) | exact FzL.mk rfl rfl rfl (by assumption) (by first | assumption | rfl) (by decide) | (refine RowsZ.one ?_; cbv))))
          case hi => exact ⟨(show (0 : Int) ≤ 7 by decide), (show (7 : Int) ≤ 7 by decide), by rw [hu, hfl]⟩
    · refine hE2 _ _ _ ?_
      cbv
      have e7 : i = 7 := by omega
      subst e7
      exact ⟨_, Vw.same rfl, hR _ (by rw [et', hu]; rfl)⟩
end Go.Proofs.YtikhbgnokkdpeaaDoor

/- A report's line as the document has it, by the engine. Printed by genrtext.py. -/
set_option linter.unusedVariables false
set_option linter.unusedSimpArgs false
namespace Go.Proofs.YtikhbgnokkdpeaaDoor
open Go Go.RowKit Go.Eng
set_option maxRecDepth 100000
set_option maxHeartbeats 8000000 in
theorem e_rtext2 (o : Lr) (h : LrOk o) (hs : LrSmall o) (c m g fit lo hi slo shi est s0 s1 f0 f1 f2 f3 f4 f5 f6 : Int) (rs : List (List Int)) (e1 : o.c = c) (e2 : o.m = m) (e3 : o.g = g) (e4 : o.fit = fit) (e5 : o.lo = lo) (e6 : o.hi = hi) (e7 : o.slo = slo) (e8 : o.shi = shi) (e9 : o.est = est) (e10 : o.s0 = s0) (e11 : o.s1 = s1) (e12 : o.rs = rs) (hf : FlOk o f0 f1 f2 f3 f4 f5 f6) (hm : m = 2) (qs : List (List AV)) (hqs : qs = rs.map (fun r => [AV.list 1 (r.map nxRow)])) (t : ByteArray) (et : t = lineB o) :
    PCalls Tryd.prog 7 [.agg [.int .i64 c, .int .i64 m, .int .i64 g, .int .i64 fit, .int .i64 lo, .int .i64 hi, .int .i64 slo, .int .i64 shi, .int .i64 est, .list 1 qs, .int .i64 s0, .int .i64 s1, .int .i64 f0, .int .i64 f1, .int .i64 f2, .int .i64 f3, .int .i64 f4, .int .i64 f5, .int .i64 f6]] (· = .str t) := by
  have hc : In64 c := e1 ▸ h.c
  have hg : In64 g := e3 ▸ h.g
  have hfit : In64 fit := e4 ▸ h.fit
  have hlo : In64 lo := e5 ▸ h.lo
  have hhi : In64 hi := e6 ▸ h.hi
  have hslo : In64 slo := e7 ▸ h.slo
  have hshi : In64 shi := e8 ▸ h.shi
  have hest : In64 est := e9 ▸ h.est
  have hs0 : In64 s0 := e10 ▸ h.s0
  have hs1 : In64 s1 := e11 ▸ h.s1
  have hrs : ∀ r, r ∈ rs → ∀ n, n ∈ r → In64 n := e12 ▸ h.rs
  have huq : Up0 qs := by rw [hqs]; exact up_map (f := fun r => [AV.list 1 (r.map nxRow)]) (fun d => Up0.one (up_nx d) rfl) rs
  obtain ⟨ways, eways⟩ : ∃ w, w = if g = 0 then [] else waysL rs := ⟨_, rfl⟩
  have nways : ways.length ≤ 22001000 := by
    rw [eways]; split
    · simp
    · rename_i hg0; exact len_ways hrs (by have := hs.n (by rw [e3]; exact hg0); rw [e12] at this; exact this) (by have := hs.r (by rw [e3]; exact hg0); rw [e12] at this; exact this)
  have nm : (modeL m).length ≤ 9 := by unfold modeL; (repeat' split) <;> simp
  obtain ⟨Lt0, eLt0⟩ : ∃ z, z = Lib.itoa c := ⟨_, rfl⟩
  obtain ⟨t0, et0⟩ : ∃ z, z = bk Lt0 := ⟨_, rfl⟩
  have nt0 : Lt0.length ≤ 21 := by rw [eLt0]; exact len_itoa hc
  obtain ⟨bm, ebm⟩ : ∃ z, z = bk (modeL m) := ⟨_, rfl⟩
  obtain ⟨bg, ebg⟩ : ∃ z, z = bk (Lib.itoa g) := ⟨_, rfl⟩
  obtain ⟨bp, ebp⟩ : ∃ z, z = bk (endsL lo hi) := ⟨_, rfl⟩
  obtain ⟨be, ebe⟩ : ∃ z, z = bk (Lib.itoa est) := ⟨_, rfl⟩
  obtain ⟨bw, ebw⟩ : ∃ z, z = bk ways := ⟨_, rfl⟩
  obtain ⟨bs, ebs⟩ : ∃ z, z = bk (endsL slo shi) := ⟨_, rfl⟩
  obtain ⟨bf, ebf⟩ : ∃ z, z = bk (Lib.itoa fit) := ⟨_, rfl⟩
  obtain ⟨bs0, ebs0⟩ : ∃ z, z = bk (Lib.itoa s0) := ⟨_, rfl⟩
  obtain ⟨bs1, ebs1⟩ : ∃ z, z = bk (Lib.itoa s1) := ⟨_, rfl⟩
  have d0 := e_dig c hc.1 hc.2 t0 (by rw [et0, eLt0]; rfl)
  have dg := e_dig g hg.1 hg.2 bg ebg
  have dp := e_rends lo hi hlo hhi bp ebp
  have de := e_dig est hest.1 hest.2 be ebe
  have ds := e_rends slo shi hslo hshi bs ebs
  have df := e_dig fit hfit.1 hfit.2 bf ebf
  have ds0 := e_dig s0 hs0.1 hs0.2 bs0 ebs0
  have ds1 := e_dig s1 hs1.1 hs1.2 bs1 ebs1
  have dw : g ≠ 0 → PCalls Tryd.prog 16 [.list 1 qs] (· = .str bw) := fun hg0 => e_ways rs hrs (by have := hs.n (by rw [e3]; exact hg0); rw [e12] at this; exact this) (by have := hs.r (by rw [e3]; exact hg0); rw [e12] at this; exact this) qs hqs bw (by rw [ebw, eways, if_neg hg0])
  have nitoa : ∀ n, In64 n → (Lib.itoa n).length ≤ 21 := fun n hn => len_itoa hn
  obtain ⟨Lt1, eLt1⟩ : ∃ z : List UInt8, z = Lt0 ++ [32] := ⟨_, rfl⟩
  have nt1 : Lt1.length ≤ 22 := by rw [eLt1, List.length_append]; simp only [List.length_cons, List.length_nil]; omega
  obtain ⟨t1, et1⟩ : ∃ z, z = bk Lt1 := ⟨_, rfl⟩
  have zt1 : Sz t1 := sz_bk (by omega) et1
  have Ft1 : t0 ++ (⟨#[32]⟩ : ByteArray) = t1 := by rw [et0, et1, eLt1]; exact bk_app _ _
  obtain ⟨Lt2, eLt2⟩ : ∃ z : List UInt8, z = Lt1 ++ modeL m := ⟨_, rfl⟩
  have nt2 : Lt2.length ≤ 31 := by rw [eLt2, List.length_append]; omega
  obtain ⟨t2, et2⟩ : ∃ z, z = bk Lt2 := ⟨_, rfl⟩
  have zt2 : Sz t2 := sz_bk (by omega) et2
  have Ft2 : t1 ++ bm = t2 := by rw [et1, ebm, et2, eLt2]; exact bk_app _ _
  obtain ⟨Lp1, eLp1⟩ : ∃ z : List UInt8, z = Lt2 ++ [32, 103, 114, 111, 117, 112, 32] := ⟨_, rfl⟩
  have np1 : Lp1.length ≤ 38 := by rw [eLp1, List.length_append]; simp only [List.length_cons, List.length_nil]; omega
  obtain ⟨p1, ep1⟩ : ∃ z, z = bk Lp1 := ⟨_, rfl⟩
  have zp1 : Sz p1 := sz_bk (by omega) ep1
  have Fp1 : t2 ++ (⟨#[32, 103, 114, 111, 117, 112, 32]⟩ : ByteArray) = p1 := by rw [et2, ep1, eLp1]; exact bk_app _ _
  obtain ⟨Lp2, eLp2⟩ : ∃ z : List UInt8, z = Lp1 ++ Lib.itoa g := ⟨_, rfl⟩
  have np2 : Lp2.length ≤ 59 := by rw [eLp2, List.length_append]; have := nitoa g hg; omega
  obtain ⟨p2, ep2⟩ : ∃ z, z = bk Lp2 := ⟨_, rfl⟩
  have zp2 : Sz p2 := sz_bk (by omega) ep2
  have Fp2 : p1 ++ bg = p2 := by rw [ep1, ebg, ep2, eLp2]; exact bk_app _ _
  obtain ⟨Lp3, eLp3⟩ : ∃ z : List UInt8, z = Lp2 ++ [32, 97, 116, 32] := ⟨_, rfl⟩
  have np3 : Lp3.length ≤ 63 := by rw [eLp3, List.length_append]; simp only [List.length_cons, List.length_nil]; omega
  obtain ⟨p3, ep3⟩ : ∃ z, z = bk Lp3 := ⟨_, rfl⟩
  have zp3 : Sz p3 := sz_bk (by omega) ep3
  have Fp3 : p2 ++ (⟨#[32, 97, 116, 32]⟩ : ByteArray) = p3 := by rw [ep2, ep3, eLp3]; exact bk_app _ _
  obtain ⟨Lp4, eLp4⟩ : ∃ z : List UInt8, z = Lp3 ++ endsL lo hi := ⟨_, rfl⟩
  have np4 : Lp4.length ≤ 107 := by rw [eLp4, List.length_append]; have := len_ends hlo hhi; omega
  obtain ⟨p4, ep4⟩ : ∃ z, z = bk Lp4 := ⟨_, rfl⟩
  have zp4 : Sz p4 := sz_bk (by omega) ep4
  have Fp4 : p3 ++ bp = p4 := by rw [ep3, ebp, ep4, eLp4]; exact bk_app _ _
  obtain ⟨Lp5, eLp5⟩ : ∃ z : List UInt8, z = Lp4 ++ [32, 101, 115, 116, 32] := ⟨_, rfl⟩
  have np5 : Lp5.length ≤ 112 := by rw [eLp5, List.length_append]; simp only [List.length_cons, List.length_nil]; omega
  obtain ⟨p5, ep5⟩ : ∃ z, z = bk Lp5 := ⟨_, rfl⟩
  have zp5 : Sz p5 := sz_bk (by omega) ep5
  have Fp5 : p4 ++ (⟨#[32, 101, 115, 116, 32]⟩ : ByteArray) = p5 := by rw [ep4, ep5, eLp5]; exact bk_app _ _
  obtain ⟨Lp6, eLp6⟩ : ∃ z : List UInt8, z = Lp5 ++ Lib.itoa est := ⟨_, rfl⟩
  have np6 : Lp6.length ≤ 133 := by rw [eLp6, List.length_append]; have := nitoa est hest; omega
  obtain ⟨p6, ep6⟩ : ∃ z, z = bk Lp6 := ⟨_, rfl⟩
  have zp6 : Sz p6 := sz_bk (by omega) ep6
  have Fp6 : p5 ++ be = p6 := by rw [ep5, ebe, ep6, eLp6]; exact bk_app _ _
  obtain ⟨Lp7, eLp7⟩ : ∃ z : List UInt8, z = Lp6 ++ [32, 119, 97, 121, 115, 32] := ⟨_, rfl⟩
  have np7 : Lp7.length ≤ 139 := by rw [eLp7, List.length_append]; simp only [List.length_cons, List.length_nil]; omega
  obtain ⟨p7, ep7⟩ : ∃ z, z = bk Lp7 := ⟨_, rfl⟩
  have zp7 : Sz p7 := sz_bk (by omega) ep7
  have Fp7 : p6 ++ (⟨#[32, 119, 97, 121, 115, 32]⟩ : ByteArray) = p7 := by rw [ep6, ep7, eLp7]; exact bk_app _ _
  obtain ⟨Lp8, eLp8⟩ : ∃ z : List UInt8, z = Lp7 ++ ways := ⟨_, rfl⟩
  have np8 : Lp8.length ≤ 22001139 := by rw [eLp8, List.length_append]; omega
  obtain ⟨p8, ep8⟩ : ∃ z, z = bk Lp8 := ⟨_, rfl⟩
  have zp8 : Sz p8 := sz_bk (by omega) ep8
  have Fp8 : p7 ++ bw = p8 := by rw [ep7, ebw, ep8, eLp8]; exact bk_app _ _
  obtain ⟨Lt3, eLt3⟩ : ∃ z, z = if g = 0 then Lt2 else Lp8 := ⟨_, rfl⟩
  have nt3 : Lt3.length ≤ 22002000 := by rw [eLt3]; split <;> omega
  obtain ⟨t3, et3⟩ : ∃ z, z = bk Lt3 := ⟨_, rfl⟩
  obtain ⟨Lu1, eLu1⟩ : ∃ z : List UInt8, z = Lt3 ++ [32, 115, 112, 101, 101, 100, 32] := ⟨_, rfl⟩
  have nu1 : Lu1.length ≤ 22002007 := by rw [eLu1, List.length_append]; simp only [List.length_cons, List.length_nil]; omega
  obtain ⟨u1, eu1⟩ : ∃ z, z = bk Lu1 := ⟨_, rfl⟩
  have zu1 : Sz u1 := sz_bk (by omega) eu1
  have Fu1 : t3 ++ (⟨#[32, 115, 112, 101, 101, 100, 32]⟩ : ByteArray) = u1 := by rw [et3, eu1, eLu1]; exact bk_app _ _
  obtain ⟨Lu2, eLu2⟩ : ∃ z : List UInt8, z = Lu1 ++ endsL slo shi := ⟨_, rfl⟩
  have nu2 : Lu2.length ≤ 22002051 := by rw [eLu2, List.length_append]; have := len_ends hslo hshi; omega
  obtain ⟨u2, eu2⟩ : ∃ z, z = bk Lu2 := ⟨_, rfl⟩
  have zu2 : Sz u2 := sz_bk (by omega) eu2
  have Fu2 : u1 ++ bs = u2 := by rw [eu1, ebs, eu2, eLu2]; exact bk_app _ _
  obtain ⟨Lu3, eLu3⟩ : ∃ z : List UInt8, z = Lu2 ++ [32, 102, 105, 116, 32] := ⟨_, rfl⟩
  have nu3 : Lu3.length ≤ 22002056 := by rw [eLu3, List.length_append]; simp only [List.length_cons, List.length_nil]; omega
  obtain ⟨u3, eu3⟩ : ∃ z, z = bk Lu3 := ⟨_, rfl⟩
  have zu3 : Sz u3 := sz_bk (by omega) eu3
  have Fu3 : u2 ++ (⟨#[32, 102, 105, 116, 32]⟩ : ByteArray) = u3 := by rw [eu2, eu3, eLu3]; exact bk_app _ _
  obtain ⟨Lu4, eLu4⟩ : ∃ z : List UInt8, z = Lu3 ++ Lib.itoa fit := ⟨_, rfl⟩
  have nu4 : Lu4.length ≤ 22002077 := by rw [eLu4, List.length_append]; have := nitoa fit hfit; omega
  obtain ⟨u4, eu4⟩ : ∃ z, z = bk Lu4 := ⟨_, rfl⟩
  have zu4 : Sz u4 := sz_bk (by omega) eu4
  have Fu4 : u3 ++ bf = u4 := by rw [eu3, ebf, eu4, eLu4]; exact bk_app _ _
  obtain ⟨Lv1, eLv1⟩ : ∃ z : List UInt8, z = Lu4 ++ [32, 115, 108, 105, 112, 32] := ⟨_, rfl⟩
  have nv1 : Lv1.length ≤ 22002083 := by rw [eLv1, List.length_append]; simp only [List.length_cons, List.length_nil]; omega
  obtain ⟨v1, ev1⟩ : ∃ z, z = bk Lv1 := ⟨_, rfl⟩
  have zv1 : Sz v1 := sz_bk (by omega) ev1
  have Fv1 : u4 ++ (⟨#[32, 115, 108, 105, 112, 32]⟩ : ByteArray) = v1 := by rw [eu4, ev1, eLv1]; exact bk_app _ _
  obtain ⟨Lv2, eLv2⟩ : ∃ z : List UInt8, z = Lv1 ++ Lib.itoa s0 := ⟨_, rfl⟩
  have nv2 : Lv2.length ≤ 22002104 := by rw [eLv2, List.length_append]; have := nitoa s0 hs0; omega
  obtain ⟨v2, ev2⟩ : ∃ z, z = bk Lv2 := ⟨_, rfl⟩
  have zv2 : Sz v2 := sz_bk (by omega) ev2
  have Fv2 : v1 ++ bs0 = v2 := by rw [ev1, ebs0, ev2, eLv2]; exact bk_app _ _
  obtain ⟨Lv3, eLv3⟩ : ∃ z : List UInt8, z = Lv2 ++ [32] := ⟨_, rfl⟩
  have nv3 : Lv3.length ≤ 22002105 := by rw [eLv3, List.length_append]; simp only [List.length_cons, List.length_nil]; omega
  obtain ⟨v3, ev3⟩ : ∃ z, z = bk Lv3 := ⟨_, rfl⟩
  have zv3 : Sz v3 := sz_bk (by omega) ev3
  have Fv3 : v2 ++ (⟨#[32]⟩ : ByteArray) = v3 := by rw [ev2, ev3, eLv3]; exact bk_app _ _
  obtain ⟨Lv4, eLv4⟩ : ∃ z : List UInt8, z = Lv3 ++ Lib.itoa s1 := ⟨_, rfl⟩
  have nv4 : Lv4.length ≤ 22002126 := by rw [eLv4, List.length_append]; have := nitoa s1 hs1; omega
  obtain ⟨v4, ev4⟩ : ∃ z, z = bk Lv4 := ⟨_, rfl⟩
  have zv4 : Sz v4 := sz_bk (by omega) ev4
  have Fv4 : v3 ++ bs1 = v4 := by rw [ev3, ebs1, ev4, eLv4]; exact bk_app _ _
  obtain ⟨L5, eL5⟩ : ∃ z, z = if s0 = 0 ∧ s1 = 0 then Lu4 else Lv4 := ⟨_, rfl⟩
  have n5 : L5.length ≤ 22003000 := by rw [eL5]; split <;> omega
  obtain ⟨t5, et5⟩ : ∃ z, z = bk L5 := ⟨_, rfl⟩
  have hL5 : L5 = l4 o ++ jt (slipL o) := by
    unfold l4 slipL placedL
    rw [e1, e2, e3, e4, e5, e6, e7, e8, e9, e10, e11, e12, eL5, eLv4, eLv3, eLv2, eLv1, eLu4, eLu3, eLu2, eLu1, eLt3, eLp8, eLp7, eLp6, eLp5, eLp4, eLp3, eLp2, eLp1, eLt2, eLt1, eLt0, eways]
    by_cases hg0 : g = 0 <;> by_cases hz : s0 = 0 ∧ s1 = 0
    · rw [if_pos hg0, if_pos hz, if_pos hg0, if_pos hz]
      simp only [jt_cons, jt_nil, List.append_assoc, List.cons_append, List.nil_append, List.append_nil]
    · rw [if_pos hg0, if_neg hz, if_pos hg0, if_neg hz]
      simp only [jt_cons, jt_nil, List.append_assoc, List.cons_append, List.nil_append, List.append_nil]
    · rw [if_neg hg0, if_neg hg0, if_pos hz, if_neg hg0, if_pos hz]
      simp only [jt_cons, jt_nil, List.append_assoc, List.cons_append, List.nil_append, List.append_nil]
    · rw [if_neg hg0, if_neg hg0, if_neg hz, if_neg hg0, if_neg hz]
      simp only [jt_cons, jt_nil, List.append_assoc, List.cons_append, List.nil_append, List.append_nil]
  have g0 : g = 0 → t2 = t3 := fun e => by rw [et2, et3, eLt3, if_pos e]
  have g1 : g ≠ 0 → p8 = t3 := fun e => by rw [ep8, et3, eLt3, if_neg e]
  have k0 : (s0 = 0 ∧ s1 = 0) → u4 = t5 := fun e => by rw [eu4, et5, eL5, if_pos e]
  have k1 : ¬ (s0 = 0 ∧ s1 = 0) → v4 = t5 := fun e => by rw [ev4, et5, eL5, if_neg e]
  have et' : t = bk (L5 ++ flN o 7) := by rw [et, line_jt, hL5]; rfl
  have bm0 : bm = ⟨#[108, 111, 99, 97, 116, 101, 100]⟩ := by rw [ebm, hm]; rfl
  rw [bm0] at Ft2
  clear eLt1 nt1 et1 eLt2 nt2 et2 eLp1 np1 ep1 eLp2 np2 ep2 eLp3 np3 ep3 eLp4 np4 ep4 eLp5 np5 ep5 eLp6 np6 ep6 eLp7 np7 ep7 eLp8 np8 ep8 eLu1 nu1 eu1 eLu2 nu2 eu2 eLu3 nu3 eu3 eLu4 nu4 eu4 eLv1 nv1 ev1 eLv2 nv2 ev2 eLv3 nv3 ev3 eLv4 nv4 ev4 eLt3 nt3 et3 et eLt0 et0 nt0 ebm ebg ebp ebe ebw ebs ebf ebs0 ebs1 nm nitoa eways nways hqs hrs hs h hL5
  subst hm
  (refine PCalls.ofY Tryd.func7 (by kernel_rfl) (by kernel_rfl) fun w hw R hR => ?_); (obtain ⟨wbin, wcmp, wun, wconv, wnot, wbeq, wmm, wscmp, wsadd, wslen, wsat, weqs, wlen, wnlen, wofNat, wtake, wdrop, wapp, wzero, wnat⟩ := w); (have hbin : wbin = binStd := congrArg Prims.bin hw); (have hcmp : wcmp = cmpStd := congrArg Prims.cmp hw); (have hun : wun = unStd := congrArg Prims.un hw); (have hconv : wconv = fun k n => k.wrap n := congrArg Prims.conv hw); (have hnot : wnot = fun b => !b := congrArg Prims.not hw); (have hbeq : wbeq = fun a b => a == b := congrArg Prims.beq hw); (have hmm : wmm = maxI := congrArg Prims.mm hw); (have hscmp : wscmp = scmpStd := congrArg Prims.scmp hw); (have hsadd : wsadd = fun x y => x ++ y := congrArg Prims.sadd hw); (have hslen : wslen = fun s => (s.size : Int) := congrArg Prims.slen hw); (have hsat : wsat = std.sat := congrArg Prims.sat hw); (have heqs : weqs = fun a b os => (eqOffs a b os).getD false := congrArg Prims.eqs hw); (have hlen : wlen = fun es => (es.length : Int) := congrArg Prims.len hw); (have hnlen : wnlen = fun es => es.length := congrArg Prims.nlen hw); (have hofNat : wofNat = (fun n : Nat => (n : Int)) := congrArg Prims.ofNat hw); (have htake : wtake = fun es b => es.take b.toNat := congrArg Prims.take hw); (have hdrop : wdrop = fun es a => es.drop a.toNat := congrArg Prims.drop hw); (have happ : wapp = fun a b => a ++ b := congrArg Prims.app hw); (have hzero : wzero = fun n z => List.replicate n.toNat z := congrArg Prims.zero hw); (have hnat : wnat = fun n => n.toNat := congrArg Prims.nat hw); (conv => arg 2; cbv); (generalize hP : Tryd.prog = P); cbv
  have st1 : wsadd t0 (⟨#[32]⟩ : ByteArray) = t1 := by rw [hsadd]; exact Ft1
  have st2 : wsadd t1 ⟨#[108, 111, 99, 97, 116, 101, 100]⟩ = t2 := by rw [hsadd]; exact Ft2
  have sp1 : wsadd t2 (⟨#[32, 103, 114, 111, 117, 112, 32]⟩ : ByteArray) = p1 := by rw [hsadd]; exact Fp1
  have sp2 : wsadd p1 bg = p2 := by rw [hsadd]; exact Fp2
  have sp3 : wsadd p2 (⟨#[32, 97, 116, 32]⟩ : ByteArray) = p3 := by rw [hsadd]; exact Fp3
  have sp4 : wsadd p3 bp = p4 := by rw [hsadd]; exact Fp4
  have sp5 : wsadd p4 (⟨#[32, 101, 115, 116, 32]⟩ : ByteArray) = p5 := by rw [hsadd]; exact Fp5
  have sp6 : wsadd p5 be = p6 := by rw [hsadd]; exact Fp6
  have sp7 : wsadd p6 (⟨#[32, 119, 97, 121, 115, 32]⟩ : ByteArray) = p7 := by rw [hsadd]; exact Fp7
  have sp8 : wsadd p7 bw = p8 := by rw [hsadd]; exact Fp8
  have su1 : wsadd t3 (⟨#[32, 115, 112, 101, 101, 100, 32]⟩ : ByteArray) = u1 := by rw [hsadd]; exact Fu1
  have su2 : wsadd u1 bs = u2 := by rw [hsadd]; exact Fu2
  have su3 : wsadd u2 (⟨#[32, 102, 105, 116, 32]⟩ : ByteArray) = u3 := by rw [hsadd]; exact Fu3
  have su4 : wsadd u3 bf = u4 := by rw [hsadd]; exact Fu4
  have sv1 : wsadd u4 (⟨#[32, 115, 108, 105, 112, 32]⟩ : ByteArray) = v1 := by rw [hsadd]; exact Fv1
  have sv2 : wsadd v1 bs0 = v2 := by rw [hsadd]; exact Fv2
  have sv3 : wsadd v2 (⟨#[32]⟩ : ByteArray) = v3 := by rw [hsadd]; exact Fv3
  have sv4 : wsadd v3 bs1 = v4 := by rw [hsadd]; exact Fv4
  clear Ft1 Ft2 Fp1 Fp2 Fp3 Fp4 Fp5 Fp6 Fp7 Fp8 Fu1 Fu2 Fu3 Fu4 Fv1 Fv2 Fv3 Fv4
  have m1 : wcmp .geq 2 1 = true := by rw [hcmp]; rfl
  have m2 : wcmp .leq 2 4 = true := by rw [hcmp]; rfl
  have cases : (s0 = 0 ∧ s1 = 0) ∨ (s0 = 0 ∧ ¬ s1 = 0) ∨ ¬ s0 = 0 := by omega
  rcases Classical.em (g = 0) with hg0 | hg0 <;> rcases cases with hz | hz | hz
  all_goals
    first
      | (have gg := g0 hg0)
      | (have gg := g1 hg0)
    first
      | (have cg : wcmp .neq g 0 = false := by (rw [hcmp]; simp [cmpStd, hg0]; done))
      | (have cg : wcmp .neq g 0 = true := by (rw [hcmp]; simp [cmpStd, hg0]; done))
    first
      | (have kk := k0 hz)
      | (have kk := k1 (by omega))
    first
      | (have cz0 : wcmp .neq s0 0 = false := by (rw [hcmp]; simp [cmpStd, hz]; done))
      | (have cz0 : wcmp .neq s0 0 = true := by (rw [hcmp]; simp [cmpStd, hz]; done))
    first
      | (have cz1 : wcmp .neq s1 0 = false := by (rw [hcmp]; simp [cmpStd, hz]; done))
      | (have cz1 : wcmp .neq s1 0 = true := by (rw [hcmp]; simp [cmpStd, hz]; done))
      | (have cz1 : wnot (wnot true) = true := by (rw [hnot]; rfl))
    try (have dw := dw hg0)
    repeat' (first
      | (refine InN.mk (by decide) (by decide) ?_)
      | (refine Le.mk (by rw [hslen]; exact Sz.le (by assumption)) ?_)
      | (simp only [st1, st2, sp1, sp2, sp3, sp4, sp5, sp6, sp7, sp8, su1, su2, su3, su4, sv1, sv2, sv3, sv4])
      | (simp only [gg])
      | (simp only [kk])
      | (simp only [cg]; cbv)
      | (simp only [cz0]; cbv)
      | (simp only [cz1]; cbv)
      | (simp only [m1]; cbv)
      | (simp only [m2]; cbv)
      | (refine Call.stepE (by rw [← hP]; exact d0) rfl ?_; cbv)
      | (refine QCal.stepE (by rw [← hP]; exact dg) rfl ?_; cbv)
      | (refine QCal.stepE (by rw [← hP]; exact dp) rfl ?_; cbv)
      | (refine QCal.stepE (by rw [← hP]; exact de) rfl ?_; cbv)
      | (refine QCal.stepE (by rw [← hP]; exact dw) (by exact Up0.one huq rfl) ?_; cbv)
      | (refine QCal.stepE (by rw [← hP]; exact ds) rfl ?_; cbv)
      | (refine QCal.stepE (by rw [← hP]; exact df) rfl ?_; cbv)
      | (refine QCal.stepE (by rw [← hP]; exact ds0) rfl ?_; cbv)
      | (refine QCal.stepE (by rw [← hP]; exact ds1) rfl ?_; cbv))
    refine Loop.data hw (S := Int × ByteArray) (fun s => fr 101 [(1, .ref 0 19 0 0), (4, .ref 2 7 0 0), (5, .str s.2), (6, .int .i64 s.1)])
      (fun s => [.live 19 [[.int .i64 c, .int .i64 2, .int .i64 g, .int .i64 fit, .int .i64 lo, .int .i64 hi, .int .i64 slo, .int .i64 shi, .int .i64 est, .list 1 qs, .int .i64 s0, .int .i64 s1, .int .i64 f0, .int .i64 f1, .int .i64 f2, .int .i64 f3, .int .i64 f4, .int .i64 f5, .int .i64 f6]], .live 5 [[.str ⟨#[]⟩, .str ⟨#[117, 110, 108, 111, 99, 97, 116, 101, 100]⟩, .str ⟨#[108, 111, 99, 97, 116, 101, 100]⟩, .str ⟨#[100, 101, 103, 114, 97, 100, 101, 100]⟩, .str ⟨#[102, 97, 105, 108, 101, 100]⟩]], .live 7 [[.str ⟨#[99, 108, 101, 97, 110]⟩, .str ⟨#[99, 111, 110, 102, 108, 105, 99, 116]⟩, .str ⟨#[97, 99, 99, 101, 112, 116, 101, 100]⟩, .str ⟨#[102, 97, 117, 108, 116]⟩, .str ⟨#[115, 116, 105, 108, 108]⟩, .str ⟨#[114, 111, 108, 108]⟩, .str ⟨#[111, 118, 101, 114]⟩]]])
      (fun s => 0 ≤ s.1 ∧ s.1 ≤ 7 ∧ s.2 = bk (L5 ++ flN o s.1)) (fun s => (7 - s.1).toNat) (0, t5) (by (refine Wk.eqz (id) (by first | exact fun i _ j _ e => e | (simp only [List.length_cons, List.length_nil]; decide)) ?_; cbv; (repeat' (first | exact trivial | rfl | assumption | apply And.intro | (simp only [hbin, hcmp, hun, hconv, hnot, hbeq, hmm, hscmp, hsadd, hslen, hsat, heqs, hofNat, binStd, cmpStd, unStd, scmpStd, maxI, Bool.not_eq_true', Bool.not_eq_false', decide_eq_true_eq, decide_eq_false_iff_not, Int.not_lt, Int.not_le, if_true, if_false, Bool.false_eq_true, beq_iff_eq, bne_iff_ne, ne_eq, Bool.not_eq_eq_eq_not, Bool.not_true, Bool.not_false, beq_eq_false_iff_ne, bne_eq_false_iff_eq, Int.ofNat_eq_natCast, Bool.not_not, not_true_eq_false, not_false_eq_true, reduceCtorEq]; first | done | assumption) | exact RowsZ.same (by assumption) (by first | assumption | rfl) | exact FzL.mk rfl rfl rfl (by assumption) (by first | assumption | rfl) (by decide) | (refine RowsZ.one ?_; cbv))))) ⟨Int.le_refl 0, (show (0 : Int) ≤ 7 by decide), by rw [et5]; simp [flN, saidL, jt_nil]⟩ ?_
    rintro ⟨i, u⟩ hinv Q2 hN2 hE2 hR2
    have hinv : 0 ≤ i ∧ i ≤ 7 ∧ u = bk (L5 ++ flN o i) := hinv
    cbv
    obtain ⟨hi0, hi7, hu⟩ := hinv
    (split <;> rename_i hc <;> (try (simp only [hbin, hcmp, hun, hconv, hnot, hbeq, hmm, hscmp, hsadd, hslen, hsat, heqs, hofNat, binStd, cmpStd, unStd, scmpStd, maxI, Bool.not_eq_true', Bool.not_eq_false', decide_eq_true_eq, decide_eq_false_iff_not, Int.not_lt, Int.not_le, if_true, if_false, Bool.false_eq_true, beq_iff_eq, bne_iff_ne, ne_eq, Bool.not_eq_eq_eq_not, Bool.not_true, Bool.not_false, beq_eq_false_iff_ne, bne_eq_false_iff_eq, Int.ofNat_eq_natCast, Bool.not_not, not_true_eq_false, not_false_eq_true, reduceCtorEq] at hc)) <;> (try cbv))
    · have hi : i = 0 ∨ i = 1 ∨ i = 2 ∨ i = 3 ∨ i = 4 ∨ i = 5 ∨ i = 6 := by omega
      rcases hi with rfl | rfl | rfl | rfl | rfl | rfl | rfl
      · cbv
        have ca : wbin .add .i64 0 1 = 1 := by rw [hbin]; rfl
        by_cases hb : f0 = 1
        · have cb : wcmp .eql f0 1 = true := by rw [hcmp]; simp [cmpStd, hb]
          have hbt := hf.h0.1 hb
          obtain ⟨ua, ea⟩ : ∃ z, z = u ++ (⟨#[32]⟩ : ByteArray) := ⟨_, rfl⟩
          obtain ⟨ub, eb⟩ : ∃ z, z = ua ++ (⟨#[99, 108, 101, 97, 110]⟩ : ByteArray) := ⟨_, rfl⟩
          have hfl : flN o 1 = flN o 0 ++ ([32] ++ [99, 108, 101, 97, 110]) := fl_some (o := o) (i := 0) (by show some (o.b1, _) = _; rw [hbt])
          have hub : ub = bk (L5 ++ flN o 1) := by rw [eb, ea, hu, hfl]; exact (congrArg (· ++ (⟨#[99, 108, 101, 97, 110]⟩ : ByteArray)) (bk_app (L5 ++ flN o 0) [32])).trans ((bk_app _ [99, 108, 101, 97, 110]).trans (by simp only [List.append_assoc]))
          have hua : ua = bk (L5 ++ flN o 0 ++ [32]) := by rw [ea, hu]; exact bk_app _ _
          have za : Sz ua := sz_bk (by have := len_fl o 0; simp only [List.length_append, List.length_cons, List.length_nil]; omega) hua
          have zb : Sz ub := sz_bk (by have := len_fl o 1; rw [List.length_append]; omega) hub
          have cu : wsadd u ⟨#[32]⟩ = ua := by rw [hsadd, ea]
          have cv : wsadd ua ⟨#[99, 108, 101, 97, 110]⟩ = ub := by rw [hsadd, eb]
          repeat' (first
            | (refine InN.mk (by decide) (by decide) ?_)
            | (refine Le.mk (by rw [hslen]; exact Sz.le (by assumption)) ?_; try cbv)
            | (simp only [cu, cv])
            | (simp only [cb]; cbv))
          simp only [ca]
          refine hN2 (1, ub) _ _ ?hx ?hi (show ((7 : Int) - 1).toNat < ((7 : Int) - 0).toNat by decide)
          case hx => (refine Wk.eqz (id) (by first | exact fun i _ j _ e => e | (simp only [List.length_cons, List.length_nil]; decide)) ?_; cbv; (repeat' (first | exact trivial | rfl | assumption | apply And.intro | (simp only [hbin, hcmp, hun, hconv, hnot, hbeq, hmm, hscmp, hsadd, hslen, hsat, heqs, hofNat, binStd, cmpStd, unStd, scmpStd, maxI, Bool.not_eq_true', Bool.not_eq_false', decide_eq_true_eq, decide_eq_false_iff_not, Int.not_lt, Int.not_le, if_true, if_false, Bool.false_eq_true, beq_iff_eq, bne_iff_ne, ne_eq, Bool.not_eq_eq_eq_not, Bool.not_true, Bool.not_false, beq_eq_false_iff_ne, bne_eq_false_iff_eq, Int.ofNat_eq_natCast, Bool.not_not, not_true_eq_false, not_false_eq_true, reduceCtorEq]; first | done | assumption) | exact RowsZ.same (by assumption) (by first | assumption | rfl) | exact FzL.mk rfl rfl rfl (by assumption) (by first | assumption | rfl) (by decide) | (refine RowsZ.one ?_; cbv))))
          case hi => exact ⟨(show (0 : Int) ≤ 1 by decide), (show (1 : Int) ≤ 7 by decide), hub⟩
        · have cb : wcmp .eql f0 1 = false := by rw [hcmp]; simp [cmpStd, hb]
          have hbt : o.b1 = false := by
            cases hx : o.b1
            · rfl
            · exact absurd (hf.h0.2 hx) hb
          have hfl : flN o 1 = flN o 0 := fl_none (o := o) (i := 0) (x := [99, 108, 101, 97, 110]) (by show some (o.b1, _) = _; rw [hbt])
          repeat' (first
            | (refine InN.mk (by decide) (by decide) ?_)
            | (simp only [cb]; cbv))
          simp only [ca]
          refine hN2 (1, u) _ _ ?hx ?hi (show ((7 : Int) - 1).toNat < ((7 : Int) - 0).toNat by decide)
          case hx => (refine Wk.eqz (id) (by first | exact fun i _ j _ e => e | (simp only [List.length_cons, List.length_nil]; decide)) ?_; cbv; (repeat' (first | exact trivial | rfl | assumption | apply And.intro | (simp only [hbin, hcmp, hun, hconv, hnot, hbeq, hmm, hscmp, hsadd, hslen, hsat, heqs, hofNat, binStd, cmpStd, unStd, scmpStd, maxI, Bool.not_eq_true', Bool.not_eq_false', decide_eq_true_eq, decide_eq_false_iff_not, Int.not_lt, Int.not_le, if_true, if_false, Bool.false_eq_true, beq_iff_eq, bne_iff_ne, ne_eq, Bool.not_eq_eq_eq_not, Bool.not_true, Bool.not_false, beq_eq_false_iff_ne, bne_eq_false_iff_eq, Int.ofNat_eq_natCast, Bool.not_not, not_true_eq_false, not_false_eq_true, reduceCtorEq]; first | done | assumption) | exact RowsZ.same (by assumption) (by first | assumption | rfl) | exact FzL.mk rfl rfl rfl (by assumption) (by first | assumption | rfl) (by decide) | (refine RowsZ.one ?_; cbv))))
          case hi => exact ⟨(show (0 : Int) ≤ 1 by decide), (show (1 : Int) ≤ 7 by decide), by rw [hu, hfl]⟩
      · cbv
        have ca : wbin .add .i64 1 1 = 2 := by rw [hbin]; rfl
        by_cases hb : f1 = 1
        · have cb : wcmp .eql f1 1 = true := by rw [hcmp]; simp [cmpStd, hb]
          have hbt := hf.h1.1 hb
          obtain ⟨ua, ea⟩ : ∃ z, z = u ++ (⟨#[32]⟩ : ByteArray) := ⟨_, rfl⟩
          obtain ⟨ub, eb⟩ : ∃ z, z = ua ++ (⟨#[99, 111, 110, 102, 108, 105, 99, 116]⟩ : ByteArray) := ⟨_, rfl⟩
          have hfl : flN o 2 = flN o 1 ++ ([32] ++ [99, 111, 110, 102, 108, 105, 99, 116]) := fl_some (o := o) (i := 1) (by show some (o.b2, _) = _; rw [hbt])
          have hub : ub = bk (L5 ++ flN o 2) := by rw [eb, ea, hu, hfl]; exact (congrArg (· ++ (⟨#[99, 111, 110, 102, 108, 105, 99, 116]⟩ : ByteArray)) (bk_app (L5 ++ flN o 1) [32])).trans ((bk_app _ [99, 111, 110, 102, 108, 105, 99, 116]).trans (by simp only [List.append_assoc]))
          have hua : ua = bk (L5 ++ flN o 1 ++ [32]) := by rw [ea, hu]; exact bk_app _ _
          have za : Sz ua := sz_bk (by have := len_fl o 1; simp only [List.length_append, List.length_cons, List.length_nil]; omega) hua
          have zb : Sz ub := sz_bk (by have := len_fl o 2; rw [List.length_append]; omega) hub
          have cu : wsadd u ⟨#[32]⟩ = ua := by rw [hsadd, ea]
          have cv : wsadd ua ⟨#[99, 111, 110, 102, 108, 105, 99, 116]⟩ = ub := by rw [hsadd, eb]
          repeat' (first
            | (refine InN.mk (by decide) (by decide) ?_)
            | (refine Le.mk (by rw [hslen]; exact Sz.le (by assumption)) ?_; try cbv)
            | (simp only [cu, cv])
            | (simp only [cb]; cbv))
          simp only [ca]
          refine hN2 (2, ub) _ _ ?hx ?hi (show ((7 : Int) - 2).toNat < ((7 : Int) - 1).toNat by decide)
          case hx => (refine Wk.eqz (id) (by first | exact fun i _ j _ e => e | (simp only [List.length_cons, List.length_nil]; decide)) ?_; cbv; (repeat' (first | exact trivial | rfl | assumption | apply And.intro | (simp only [hbin, hcmp, hun, hconv, hnot, hbeq, hmm, hscmp, hsadd, hslen, hsat, heqs, hofNat, binStd, cmpStd, unStd, scmpStd, maxI, Bool.not_eq_true', Bool.not_eq_false', decide_eq_true_eq, decide_eq_false_iff_not, Int.not_lt, Int.not_le, if_true, if_false, Bool.false_eq_true, beq_iff_eq, bne_iff_ne, ne_eq, Bool.not_eq_eq_eq_not, Bool.not_true, Bool.not_false, beq_eq_false_iff_ne, bne_eq_false_iff_eq, Int.ofNat_eq_natCast, Bool.not_not, not_true_eq_false, not_false_eq_true, reduceCtorEq]; first | done | assumption) | exact RowsZ.same (by assumption) (by first | assumption | rfl) | exact FzL.mk rfl rfl rfl (by assumption) (by first | assumption | rfl) (by decide) | (refine RowsZ.one ?_; cbv))))
          case hi => exact ⟨(show (0 : Int) ≤ 2 by decide), (show (2 : Int) ≤ 7 by decide), hub⟩
        · have cb : wcmp .eql f1 1 = false := by rw [hcmp]; simp [cmpStd, hb]
          have hbt : o.b2 = false := by
            cases hx : o.b2
            · rfl
            · exact absurd (hf.h1.2 hx) hb
          have hfl : flN o 2 = flN o 1 := fl_none (o := o) (i := 1) (x := [99, 111, 110, 102, 108, 105, 99, 116]) (by show some (o.b2, _) = _; rw [hbt])
          repeat' (first
            | (refine InN.mk (by decide) (by decide) ?_)
            | (simp only [cb]; cbv))
          simp only [ca]
          refine hN2 (2, u) _ _ ?hx ?hi (show ((7 : Int) - 2).toNat < ((7 : Int) - 1).toNat by decide)
          case hx => (refine Wk.eqz (id) (by first | exact fun i _ j _ e => e | (simp only [List.length_cons, List.length_nil]; decide)) ?_; cbv; (repeat' (first | exact trivial | rfl | assumption | apply And.intro | (simp only [hbin, hcmp, hun, hconv, hnot, hbeq, hmm, hscmp, hsadd, hslen, hsat, heqs, hofNat, binStd, cmpStd, unStd, scmpStd, maxI, Bool.not_eq_true', Bool.not_eq_false', decide_eq_true_eq, decide_eq_false_iff_not, Int.not_lt, Int.not_le, if_true, if_false, Bool.false_eq_true, beq_iff_eq, bne_iff_ne, ne_eq, Bool.not_eq_eq_eq_not, Bool.not_true, Bool.not_false, beq_eq_false_iff_ne, bne_eq_false_iff_eq, Int.ofNat_eq_natCast, Bool.not_not, not_true_eq_false, not_false_eq_true, reduceCtorEq]; first | done | assumption) | exact RowsZ.same (by assumption) (by first | assumption | rfl) | exact FzL.mk rfl rfl rfl (by assumption) (by first | assumption | rfl) (by decide) | (refine RowsZ.one ?_; cbv))))
          case hi => exact ⟨(show (0 : Int) ≤ 2 by decide), (show (2 : Int) ≤ 7 by decide), by rw [hu, hfl]⟩
      · cbv
        have ca : wbin .add .i64 2 1 = 3 := by rw [hbin]; rfl
        by_cases hb : f2 = 1
        · have cb : wcmp .eql f2 1 = true := by rw [hcmp]; simp [cmpStd, hb]
          have hbt := hf.h2.1 hb
          obtain ⟨ua, ea⟩ : ∃ z, z = u ++ (⟨#[32]⟩ : ByteArray) := ⟨_, rfl⟩
          obtain ⟨ub, eb⟩ : ∃ z, z = ua ++ (⟨#[97, 99, 99, 101, 112, 116, 101, 100]⟩ : ByteArray) := ⟨_, rfl⟩
          have hfl : flN o 3 = flN o 2 ++ ([32] ++ [97, 99, 99, 101, 112, 116, 101, 100]) := fl_some (o := o) (i := 2) (by show some (o.b3, _) = _; rw [hbt])
          have hub : ub = bk (L5 ++ flN o 3) := by rw [eb, ea, hu, hfl]; exact (congrArg (· ++ (⟨#[97, 99, 99, 101, 112, 116, 101, 100]⟩ : ByteArray)) (bk_app (L5 ++ flN o 2) [32])).trans ((bk_app _ [97, 99, 99, 101, 112, 116, 101, 100]).trans (by simp only [List.append_assoc]))
          have hua : ua = bk (L5 ++ flN o 2 ++ [32]) := by rw [ea, hu]; exact bk_app _ _
          have za : Sz ua := sz_bk (by have := len_fl o 2; simp only [List.length_append, List.length_cons, List.length_nil]; omega) hua
          have zb : Sz ub := sz_bk (by have := len_fl o 3; rw [List.length_append]; omega) hub
          have cu : wsadd u ⟨#[32]⟩ = ua := by rw [hsadd, ea]
          have cv : wsadd ua ⟨#[97, 99, 99, 101, 112, 116, 101, 100]⟩ = ub := by rw [hsadd, eb]
          repeat' (first
            | (refine InN.mk (by decide) (by decide) ?_)
            | (refine Le.mk (by rw [hslen]; exact Sz.le (by assumption)) ?_; try cbv)
            | (simp only [cu, cv])
            | (simp only [cb]; cbv))
          simp only [ca]
          refine hN2 (3, ub) _ _ ?hx ?hi (show ((7 : Int) - 3).toNat < ((7 : Int) - 2).toNat by decide)
          case hx => (refine Wk.eqz (id) (by first | exact fun i _ j _ e => e | (simp only [List.length_cons, List.length_nil]; decide)) ?_; cbv; (repeat' (first | exact trivial | rfl | assumption | apply And.intro | (simp only [hbin, hcmp, hun, hconv, hnot, hbeq, hmm, hscmp, hsadd, hslen, hsat, heqs, hofNat, binStd, cmpStd, unStd, scmpStd, maxI, Bool.not_eq_true', Bool.not_eq_false', decide_eq_true_eq, decide_eq_false_iff_not, Int.not_lt, Int.not_le, if_true, if_false, Bool.false_eq_true, beq_iff_eq, bne_iff_ne, ne_eq, Bool.not_eq_eq_eq_not, Bool.not_true, Bool.not_false, beq_eq_false_iff_ne, bne_eq_false_iff_eq, Int.ofNat_eq_natCast, Bool.not_not, not_true_eq_false, not_false_eq_true, reduceCtorEq]; first | done | assumption) | exact RowsZ.same (by assumption) (by first | assumption | rfl) | exact FzL.mk rfl rfl rfl (by assumption) (by first | assumption | rfl) (by decide) | (refine RowsZ.one ?_; cbv))))
          case hi => exact ⟨(show (0 : Int) ≤ 3 by decide), (show (3 : Int) ≤ 7 by decide), hub⟩
        · have cb : wcmp .eql f2 1 = false := by rw [hcmp]; simp [cmpStd, hb]
          have hbt : o.b3 = false := by
            cases hx : o.b3
            · rfl
            · exact absurd (hf.h2.2 hx) hb
          have hfl : flN o 3 = flN o 2 := fl_none (o := o) (i := 2) (x := [97, 99, 99, 101, 112, 116, 101, 100]) (by show some (o.b3, _) = _; rw [hbt])
          repeat' (first
            | (refine InN.mk (by decide) (by decide) ?_)
            | (simp only [cb]; cbv))
          simp only [ca]
          refine hN2 (3, u) _ _ ?hx ?hi (show ((7 : Int) - 3).toNat < ((7 : Int) - 2).toNat by decide)
          case hx => (refine Wk.eqz (id) (by first | exact fun i _ j _ e => e | (simp only [List.length_cons, List.length_nil]; decide)) ?_; cbv; (repeat' (first | exact trivial | rfl | assumption | apply And.intro | (simp only [hbin, hcmp, hun, hconv, hnot, hbeq, hmm, hscmp, hsadd, hslen, hsat, heqs, hofNat, binStd, cmpStd, unStd, scmpStd, maxI, Bool.not_eq_true', Bool.not_eq_false', decide_eq_true_eq, decide_eq_false_iff_not, Int.not_lt, Int.not_le, if_true, if_false, Bool.false_eq_true, beq_iff_eq, bne_iff_ne, ne_eq, Bool.not_eq_eq_eq_not, Bool.not_true, Bool.not_false, beq_eq_false_iff_ne, bne_eq_false_iff_eq, Int.ofNat_eq_natCast, Bool.not_not, not_true_eq_false, not_false_eq_true, reduceCtorEq]; first | done | assumption) | exact RowsZ.same (by assumption) (by first | assumption | rfl) | exact FzL.mk rfl rfl rfl (by assumption) (by first | assumption | rfl) (by decide) | (refine RowsZ.one ?_; cbv))))
          case hi => exact ⟨(show (0 : Int) ≤ 3 by decide), (show (3 : Int) ≤ 7 by decide), by rw [hu, hfl]⟩
      · cbv
        have ca : wbin .add .i64 3 1 = 4 := by rw [hbin]; rfl
        by_cases hb : f3 = 1
        · have cb : wcmp .eql f3 1 = true := by rw [hcmp]; simp [cmpStd, hb]
          have hbt := hf.h3.1 hb
          obtain ⟨ua, ea⟩ : ∃ z, z = u ++ (⟨#[32]⟩ : ByteArray) := ⟨_, rfl⟩
          obtain ⟨ub, eb⟩ : ∃ z, z = ua ++ (⟨#[102, 97, 117, 108, 116]⟩ : ByteArray) := ⟨_, rfl⟩
          have hfl : flN o 4 = flN o 3 ++ ([32] ++ [102, 97, 117, 108, 116]) := fl_some (o := o) (i := 3) (by show some (o.b4, _) = _; rw [hbt])
          have hub : ub = bk (L5 ++ flN o 4) := by rw [eb, ea, hu, hfl]; exact (congrArg (· ++ (⟨#[102, 97, 117, 108, 116]⟩ : ByteArray)) (bk_app (L5 ++ flN o 3) [32])).trans ((bk_app _ [102, 97, 117, 108, 116]).trans (by simp only [List.append_assoc]))
          have hua : ua = bk (L5 ++ flN o 3 ++ [32]) := by rw [ea, hu]; exact bk_app _ _
          have za : Sz ua := sz_bk (by have := len_fl o 3; simp only [List.length_append, List.length_cons, List.length_nil]; omega) hua
          have zb : Sz ub := sz_bk (by have := len_fl o 4; rw [List.length_append]; omega) hub
          have cu : wsadd u ⟨#[32]⟩ = ua := by rw [hsadd, ea]
          have cv : wsadd ua ⟨#[102, 97, 117, 108, 116]⟩ = ub := by rw [hsadd, eb]
          repeat' (first
            | (refine InN.mk (by decide) (by decide) ?_)
            | (refine Le.mk (by rw [hslen]; exact Sz.le (by assumption)) ?_; try cbv)
            | (simp only [cu, cv])
            | (simp only [cb]; cbv))
          simp only [ca]
          refine hN2 (4, ub) _ _ ?hx ?hi (show ((7 : Int) - 4).toNat < ((7 : Int) - 3).toNat by decide)
          case hx => (refine Wk.eqz (id) (by first | exact fun i _ j _ e => e | (simp only [List.length_cons, List.length_nil]; decide)) ?_; cbv; (repeat' (first | exact trivial | rfl | assumption | apply And.intro | (simp only [hbin, hcmp, hun, hconv, hnot, hbeq, hmm, hscmp, hsadd, hslen, hsat, heqs, hofNat, binStd, cmpStd, unStd, scmpStd, maxI, Bool.not_eq_true', Bool.not_eq_false', decide_eq_true_eq, decide_eq_false_iff_not, Int.not_lt, Int.not_le, if_true, if_false, Bool.false_eq_true, beq_iff_eq, bne_iff_ne, ne_eq, Bool.not_eq_eq_eq_not, Bool.not_true, Bool.not_false, beq_eq_false_iff_ne, bne_eq_false_iff_eq, Int.ofNat_eq_natCast, Bool.not_not, not_true_eq_false, not_false_eq_true, reduceCtorEq]; first | done | assumption) | exact RowsZ.same (by assumption) (by first | assumption | rfl) | exact FzL.mk rfl rfl rfl (by assumption) (by first | assumption | rfl) (by decide) | (refine RowsZ.one ?_; cbv))))
          case hi => exact ⟨(show (0 : Int) ≤ 4 by decide), (show (4 : Int) ≤ 7 by decide), hub⟩
        · have cb : wcmp .eql f3 1 = false := by rw [hcmp]; simp [cmpStd, hb]
          have hbt : o.b4 = false := by
            cases hx : o.b4
            · rfl
            · exact absurd (hf.h3.2 hx) hb
          have hfl : flN o 4 = flN o 3 := fl_none (o := o) (i := 3) (x := [102, 97, 117, 108, 116]) (by show some (o.b4, _) = _; rw [hbt])
          repeat' (first
            | (refine InN.mk (by decide) (by decide) ?_)
            | (simp only [cb]; cbv))
          simp only [ca]
          refine hN2 (4, u) _ _ ?hx ?hi (show ((7 : Int) - 4).toNat < ((7 : Int) - 3).toNat by decide)
          case hx => (refine Wk.eqz (id) (by first | exact fun i _ j _ e => e | (simp only [List.length_cons, List.length_nil]; decide)) ?_; cbv; (repeat' (first | exact trivial | rfl | assumption | apply And.intro | (simp only [hbin, hcmp, hun, hconv, hnot, hbeq, hmm, hscmp, hsadd, hslen, hsat, heqs, hofNat, binStd, cmpStd, unStd, scmpStd, maxI, Bool.not_eq_true', Bool.not_eq_false', decide_eq_true_eq, decide_eq_false_iff_not, Int.not_lt, Int.not_le, if_true, if_false, Bool.false_eq_true, beq_iff_eq, bne_iff_ne, ne_eq, Bool.not_eq_eq_eq_not, Bool.not_true, Bool.not_false, beq_eq_false_iff_ne, bne_eq_false_iff_eq, Int.ofNat_eq_natCast, Bool.not_not, not_true_eq_false, not_false_eq_true, reduceCtorEq]; first | done | assumption) | exact RowsZ.same (by assumption) (by first | assumption | rfl) | exact FzL.mk rfl rfl rfl (by assumption) (by first | assumption | rfl) (by decide) | (refine RowsZ.one ?_; cbv))))
          case hi => exact ⟨(show (0 : Int) ≤ 4 by decide), (show (4 : Int) ≤ 7 by decide), by rw [hu, hfl]⟩
      · cbv
        have ca : wbin .add .i64 4 1 = 5 := by rw [hbin]; rfl
        by_cases hb : f4 = 1
        · have cb : wcmp .eql f4 1 = true := by rw [hcmp]; simp [cmpStd, hb]
          have hbt := hf.h4.1 hb
          obtain ⟨ua, ea⟩ : ∃ z, z = u ++ (⟨#[32]⟩ : ByteArray) := ⟨_, rfl⟩
          obtain ⟨ub, eb⟩ : ∃ z, z = ua ++ (⟨#[115, 116, 105, 108, 108]⟩ : ByteArray) := ⟨_, rfl⟩
          have hfl : flN o 5 = flN o 4 ++ ([32] ++ [115, 116, 105, 108, 108]) := fl_some (o := o) (i := 4) (by show some (o.b5, _) = _; rw [hbt])
          have hub : ub = bk (L5 ++ flN o 5) := by rw [eb, ea, hu, hfl]; exact (congrArg (· ++ (⟨#[115, 116, 105, 108, 108]⟩ : ByteArray)) (bk_app (L5 ++ flN o 4) [32])).trans ((bk_app _ [115, 116, 105, 108, 108]).trans (by simp only [List.append_assoc]))
          have hua : ua = bk (L5 ++ flN o 4 ++ [32]) := by rw [ea, hu]; exact bk_app _ _
          have za : Sz ua := sz_bk (by have := len_fl o 4; simp only [List.length_append, List.length_cons, List.length_nil]; omega) hua
          have zb : Sz ub := sz_bk (by have := len_fl o 5; rw [List.length_append]; omega) hub
          have cu : wsadd u ⟨#[32]⟩ = ua := by rw [hsadd, ea]
          have cv : wsadd ua ⟨#[115, 116, 105, 108, 108]⟩ = ub := by rw [hsadd, eb]
          repeat' (first
            | (refine InN.mk (by decide) (by decide) ?_)
            | (refine Le.mk (by rw [hslen]; exact Sz.le (by assumption)) ?_; try cbv)
            | (simp only [cu, cv])
            | (simp only [cb]; cbv))
          simp only [ca]
          refine hN2 (5, ub) _ _ ?hx ?hi (show ((7 : Int) - 5).toNat < ((7 : Int) - 4).toNat by decide)
          case hx => (refine Wk.eqz (id) (by first | exact fun i _ j _ e => e | (simp only [List.length_cons, List.length_nil]; decide)) ?_; cbv; (repeat' (first | exact trivial | rfl | assumption | apply And.intro | (simp only [hbin, hcmp, hun, hconv, hnot, hbeq, hmm, hscmp, hsadd, hslen, hsat, heqs, hofNat, binStd, cmpStd, unStd, scmpStd, maxI, Bool.not_eq_true', Bool.not_eq_false', decide_eq_true_eq, decide_eq_false_iff_not, Int.not_lt, Int.not_le, if_true, if_false, Bool.false_eq_true, beq_iff_eq, bne_iff_ne, ne_eq, Bool.not_eq_eq_eq_not, Bool.not_true, Bool.not_false, beq_eq_false_iff_ne, bne_eq_false_iff_eq, Int.ofNat_eq_natCast, Bool.not_not, not_true_eq_false, not_false_eq_true, reduceCtorEq]; first | done | assumption) | exact RowsZ.same (by assumption) (by first | assumption | rfl) | exact FzL.mk rfl rfl rfl (by assumption) (by first | assumption | rfl) (by decide) | (refine RowsZ.one ?_; cbv))))
          case hi => exact ⟨(show (0 : Int) ≤ 5 by decide), (show (5 : Int) ≤ 7 by decide), hub⟩
        · have cb : wcmp .eql f4 1 = false := by rw [hcmp]; simp [cmpStd, hb]
          have hbt : o.b5 = false := by
            cases hx : o.b5
            · rfl
            · exact absurd (hf.h4.2 hx) hb
          have hfl : flN o 5 = flN o 4 := fl_none (o := o) (i := 4) (x := [115, 116, 105, 108, 108]) (by show some (o.b5, _) = _; rw [hbt])
          repeat' (first
            | (refine InN.mk (by decide) (by decide) ?_)
            | (simp only [cb]; cbv))
          simp only [ca]
          refine hN2 (5, u) _ _ ?hx ?hi (show ((7 : Int) - 5).toNat < ((7 : Int) - 4).toNat by decide)
          case hx => (refine Wk.eqz (id) (by first | exact fun i _ j _ e => e | (simp only [List.length_cons, List.length_nil]; decide)) ?_; cbv; (repeat' (first | exact trivial | rfl | assumption | apply And.intro | (simp only [hbin, hcmp, hun, hconv, hnot, hbeq, hmm, hscmp, hsadd, hslen, hsat, heqs, hofNat, binStd, cmpStd, unStd, scmpStd, maxI, Bool.not_eq_true', Bool.not_eq_false', decide_eq_true_eq, decide_eq_false_iff_not, Int.not_lt, Int.not_le, if_true, if_false, Bool.false_eq_true, beq_iff_eq, bne_iff_ne, ne_eq, Bool.not_eq_eq_eq_not, Bool.not_true, Bool.not_false, beq_eq_false_iff_ne, bne_eq_false_iff_eq, Int.ofNat_eq_natCast, Bool.not_not, not_true_eq_false, not_false_eq_true, reduceCtorEq]; first | done | assumption) | exact RowsZ.same (by assumption) (by first | assumption | rfl) | exact FzL.mk rfl rfl rfl (by assumption) (by first | assumption | rfl) (by decide) | (refine RowsZ.one ?_; cbv))))
          case hi => exact ⟨(show (0 : Int) ≤ 5 by decide), (show (5 : Int) ≤ 7 by decide), by rw [hu, hfl]⟩
      · cbv
        have ca : wbin .add .i64 5 1 = 6 := by rw [hbin]; rfl
        by_cases hb : f5 = 1
        · have cb : wcmp .eql f5 1 = true := by rw [hcmp]; simp [cmpStd, hb]
          have hbt := hf.h5.1 hb
          obtain ⟨ua, ea⟩ : ∃ z, z = u ++ (⟨#[32]⟩ : ByteArray) := ⟨_, rfl⟩
          obtain ⟨ub, eb⟩ : ∃ z, z = ua ++ (⟨#[114, 111, 108, 108]⟩ : ByteArray) := ⟨_, rfl⟩
          have hfl : flN o 6 = flN o 5 ++ ([32] ++ [114, 111, 108, 108]) := fl_some (o := o) (i := 5) (by show some (o.b6, _) = _; rw [hbt])
          have hub : ub = bk (L5 ++ flN o 6) := by rw [eb, ea, hu, hfl]; exact (congrArg (· ++ (⟨#[114, 111, 108, 108]⟩ : ByteArray)) (bk_app (L5 ++ flN o 5) [32])).trans ((bk_app _ [114, 111, 108, 108]).trans (by simp only [List.append_assoc]))
          have hua : ua = bk (L5 ++ flN o 5 ++ [32]) := by rw [ea, hu]; exact bk_app _ _
          have za : Sz ua := sz_bk (by have := len_fl o 5; simp only [List.length_append, List.length_cons, List.length_nil]; omega) hua
          have zb : Sz ub := sz_bk (by have := len_fl o 6; rw [List.length_append]; omega) hub
          have cu : wsadd u ⟨#[32]⟩ = ua := by rw [hsadd, ea]
          have cv : wsadd ua ⟨#[114, 111, 108, 108]⟩ = ub := by rw [hsadd, eb]
          repeat' (first
            | (refine InN.mk (by decide) (by decide) ?_)
            | (refine Le.mk (by rw [hslen]; exact Sz.le (by assumption)) ?_; try cbv)
            | (simp only [cu, cv])
            | (simp only [cb]; cbv))
          simp only [ca]
          refine hN2 (6, ub) _ _ ?hx ?hi (show ((7 : Int) - 6).toNat < ((7 : Int) - 5).toNat by decide)
          case hx => (refine Wk.eqz (id) (by first | exact fun i _ j _ e => e | (simp only [List.length_cons, List.length_nil]; decide)) ?_; cbv; (repeat' (first | exact trivial | rfl | assumption | apply And.intro | (simp only [hbin, hcmp, hun, hconv, hnot, hbeq, hmm, hscmp, hsadd, hslen, hsat, heqs, hofNat, binStd, cmpStd, unStd, scmpStd, maxI, Bool.not_eq_true', Bool.not_eq_false', decide_eq_true_eq, decide_eq_false_iff_not, Int.not_lt, Int.not_le, if_true, if_false, Bool.false_eq_true, beq_iff_eq, bne_iff_ne, ne_eq, Bool.not_eq_eq_eq_not, Bool.not_true, Bool.not_false, beq_eq_false_iff_ne, bne_eq_false_iff_eq, Int.ofNat_eq_natCast, Bool.not_not, not_true_eq_false, not_false_eq_true, reduceCtorEq]; first | done | assumption) | exact RowsZ.same (by assumption) (by first | assumption | rfl) | exact FzL.mk rfl rfl rfl (by assumption) (by first | assumption | rfl) (by decide) | (refine RowsZ.one ?_; cbv))))
          case hi => exact ⟨(show (0 : Int) ≤ 6 by decide), (show (6 : Int) ≤ 7 by decide), hub⟩
        · have cb : wcmp .eql f5 1 = false := by rw [hcmp]; simp [cmpStd, hb]
          have hbt : o.b6 = false := by
            cases hx : o.b6
            · rfl
            · exact absurd (hf.h5.2 hx) hb
          have hfl : flN o 6 = flN o 5 := fl_none (o := o) (i := 5) (x := [114, 111, 108, 108]) (by show some (o.b6, _) = _; rw [hbt])
          repeat' (first
            | (refine InN.mk (by decide) (by decide) ?_)
            | (simp only [cb]; cbv))
          simp only [ca]
          refine hN2 (6, u) _ _ ?hx ?hi (show ((7 : Int) - 6).toNat < ((7 : Int) - 5).toNat by decide)
          case hx => (refine Wk.eqz (id) (by first | exact fun i _ j _ e => e | (simp only [List.length_cons, List.length_nil]; decide)) ?_; cbv; (repeat' (first | exact trivial | rfl | assumption | apply And.intro | (simp only [hbin, hcmp, hun, hconv, hnot, hbeq, hmm, hscmp, hsadd, hslen, hsat, heqs, hofNat, binStd, cmpStd, unStd, scmpStd, maxI, Bool.not_eq_true', Bool.not_eq_false', decide_eq_true_eq, decide_eq_false_iff_not, Int.not_lt, Int.not_le, if_true, if_false, Bool.false_eq_true, beq_iff_eq, bne_iff_ne, ne_eq, Bool.not_eq_eq_eq_not, Bool.not_true, Bool.not_false, beq_eq_false_iff_ne, bne_eq_false_iff_eq, Int.ofNat_eq_natCast, Bool.not_not, not_true_eq_false, not_false_eq_true, reduceCtorEq]; first | done | assumption) | exact RowsZ.same (by assumption) (by first | assumption | rfl) | exact FzL.mk rfl rfl rfl (by assumption) (by first | assumption | rfl) (by decide) | (refine RowsZ.one ?_; cbv))))
          case hi => exact ⟨(show (0 : Int) ≤ 6 by decide), (show (6 : Int) ≤ 7 by decide), by rw [hu, hfl]⟩
      · cbv
        have ca : wbin .add .i64 6 1 = 7 := by rw [hbin]; rfl
        by_cases hb : f6 = 1
        · have cb : wcmp .eql f6 1 = true := by rw [hcmp]; simp [cmpStd, hb]
          have hbt := hf.h6.1 hb
          obtain ⟨ua, ea⟩ : ∃ z, z = u ++ (⟨#[32]⟩ : ByteArray) := ⟨_, rfl⟩
          obtain ⟨ub, eb⟩ : ∃ z, z = ua ++ (⟨#[111, 118, 101, 114]⟩ : ByteArray) := ⟨_, rfl⟩
          have hfl : flN o 7 = flN o 6 ++ ([32] ++ [111, 118, 101, 114]) := fl_some (o := o) (i := 6) (by show some (o.b7, _) = _; rw [hbt])
          have hub : ub = bk (L5 ++ flN o 7) := by rw [eb, ea, hu, hfl]; exact (congrArg (· ++ (⟨#[111, 118, 101, 114]⟩ : ByteArray)) (bk_app (L5 ++ flN o 6) [32])).trans ((bk_app _ [111, 118, 101, 114]).trans (by simp only [List.append_assoc]))
          have hua : ua = bk (L5 ++ flN o 6 ++ [32]) := by rw [ea, hu]; exact bk_app _ _
          have za : Sz ua := sz_bk (by have := len_fl o 6; simp only [List.length_append, List.length_cons, List.length_nil]; omega) hua
          have zb : Sz ub := sz_bk (by have := len_fl o 7; rw [List.length_append]; omega) hub
          have cu : wsadd u ⟨#[32]⟩ = ua := by rw [hsadd, ea]
          have cv : wsadd ua ⟨#[111, 118, 101, 114]⟩ = ub := by rw [hsadd, eb]
          repeat' (first
            | (refine InN.mk (by decide) (by decide) ?_)
            | (refine Le.mk (by rw [hslen]; exact Sz.le (by assumption)) ?_; try cbv)
            | (simp only [cu, cv])
            | (simp only [cb]; cbv))
          simp only [ca]
          refine hN2 (7, ub) _ _ ?hx ?hi (show ((7 : Int) - 7).toNat < ((7 : Int) - 6).toNat by decide)
          case hx => (refine Wk.eqz (id) (by first | exact fun i _ j _ e => e | (simp only [List.length_cons, List.length_nil]; decide)) ?_; cbv; (repeat' (first | exact trivial | rfl | assumption | apply And.intro | (simp only [hbin, hcmp, hun, hconv, hnot, hbeq, hmm, hscmp, hsadd, hslen, hsat, heqs, hofNat, binStd, cmpStd, unStd, scmpStd, maxI, Bool.not_eq_true', Bool.not_eq_false', decide_eq_true_eq, decide_eq_false_iff_not, Int.not_lt, Int.not_le, if_true, if_false, Bool.false_eq_true, beq_iff_eq, bne_iff_ne, ne_eq, Bool.not_eq_eq_eq_not, Bool.not_true, Bool.not_false, beq_eq_false_iff_ne, bne_eq_false_iff_eq, Int.ofNat_eq_natCast, Bool.not_not, not_true_eq_false, not_false_eq_true, reduceCtorEq]; first | done | assumption) | exact RowsZ.same (by assumption) (by first | assumption | rfl) | exact FzL.mk rfl rfl rfl (by assumption) (by first | assumption | rfl) (by decide) | (refine RowsZ.one ?_; cbv))))
          case hi => exact ⟨(show (0 : Int) ≤ 7 by decide), (show (7 : Int) ≤ 7 by decide), hub⟩
        · have cb : wcmp .eql f6 1 = false := by rw [hcmp]; simp [cmpStd, hb]
          have hbt : o.b7 = false := by
            cases hx : o.b7
            · rfl
            · exact absurd (hf.h6.2 hx) hb
          have hfl : flN o 7 = flN o 6 := fl_none (o := o) (i := 6) (x := [111, 118, 101, 114]) (by show some (o.b7, _) = _; rw [hbt])
          repeat' (first
            | (refine InN.mk (by decide) (by decide) ?_)
            | (simp only [cb]; cbv))
          simp only [ca]
          refine hN2 (7, u) _ _ ?hx ?hi (show ((7 : Int) - 7).toNat < ((7 : Int) - 6).toNat by decide)
          case hx => (refine Wk.eqz (id) (by first | exact fun i _ j _ e => e | (simp only [List.length_cons, List.length_nil]; decide)) ?_; cbv; (repeat' (first | exact trivial | rfl | assumption | apply And.intro | (simp only [hbin, hcmp, hun, hconv, hnot, hbeq, hmm, hscmp, hsadd, hslen, hsat, heqs, hofNat, binStd, cmpStd, unStd, scmpStd, maxI, Bool.not_eq_true', Bool.not_eq_false', decide_eq_true_eq, decide_eq_false_iff_not, Int.not_lt, Int.not_le, if_true, if_false, Bool.false_eq_true, beq_iff_eq, bne_iff_ne, ne_eq, Bool.not_eq_eq_eq_not, Bool.not_true, Bool.not_false, beq_eq_false_iff_ne, bne_eq_false_iff_eq, Int.ofNat_eq_natCast, Bool.not_not, not_true_eq_false, not_false_eq_true, reduceCtorEq]; first | done | assumption) | exact RowsZ.same (by assumption) (by first | assumption | rfl) | exact FzL.mk rfl rfl rfl (by assumption) (by first | assumption | rfl) (by decide) | (refine RowsZ.one ?_; cbv))))
          case hi => exact ⟨(show (0 : Int) ≤ 7 by decide), (show (7 : Int) ≤ 7 by decide), by rw [hu, hfl]⟩
    · refine hE2 _ _ _ ?_
      cbv
      have e7 : i = 7 := by omega
      subst e7
      exact ⟨_, Vw.same rfl, hR _ (by rw [et', hu]; rfl)⟩
end Go.Proofs.YtikhbgnokkdpeaaDoor

/- A report's line as the document has it, by the engine. Printed by genrtext.py. -/
set_option linter.unusedVariables false
set_option linter.unusedSimpArgs false
namespace Go.Proofs.YtikhbgnokkdpeaaDoor
open Go Go.RowKit Go.Eng
set_option maxRecDepth 100000
set_option maxHeartbeats 8000000 in
theorem e_rtext3 (o : Lr) (h : LrOk o) (hs : LrSmall o) (c m g fit lo hi slo shi est s0 s1 f0 f1 f2 f3 f4 f5 f6 : Int) (rs : List (List Int)) (e1 : o.c = c) (e2 : o.m = m) (e3 : o.g = g) (e4 : o.fit = fit) (e5 : o.lo = lo) (e6 : o.hi = hi) (e7 : o.slo = slo) (e8 : o.shi = shi) (e9 : o.est = est) (e10 : o.s0 = s0) (e11 : o.s1 = s1) (e12 : o.rs = rs) (hf : FlOk o f0 f1 f2 f3 f4 f5 f6) (hm : m = 3) (qs : List (List AV)) (hqs : qs = rs.map (fun r => [AV.list 1 (r.map nxRow)])) (t : ByteArray) (et : t = lineB o) :
    PCalls Tryd.prog 7 [.agg [.int .i64 c, .int .i64 m, .int .i64 g, .int .i64 fit, .int .i64 lo, .int .i64 hi, .int .i64 slo, .int .i64 shi, .int .i64 est, .list 1 qs, .int .i64 s0, .int .i64 s1, .int .i64 f0, .int .i64 f1, .int .i64 f2, .int .i64 f3, .int .i64 f4, .int .i64 f5, .int .i64 f6]] (· = .str t) := by
  have hc : In64 c := e1 ▸ h.c
  have hg : In64 g := e3 ▸ h.g
  have hfit : In64 fit := e4 ▸ h.fit
  have hlo : In64 lo := e5 ▸ h.lo
  have hhi : In64 hi := e6 ▸ h.hi
  have hslo : In64 slo := e7 ▸ h.slo
  have hshi : In64 shi := e8 ▸ h.shi
  have hest : In64 est := e9 ▸ h.est
  have hs0 : In64 s0 := e10 ▸ h.s0
  have hs1 : In64 s1 := e11 ▸ h.s1
  have hrs : ∀ r, r ∈ rs → ∀ n, n ∈ r → In64 n := e12 ▸ h.rs
  have huq : Up0 qs := by rw [hqs]; exact up_map (f := fun r => [AV.list 1 (r.map nxRow)]) (fun d => Up0.one (up_nx d) rfl) rs
  obtain ⟨ways, eways⟩ : ∃ w, w = if g = 0 then [] else waysL rs := ⟨_, rfl⟩
  have nways : ways.length ≤ 22001000 := by
    rw [eways]; split
    · simp
    · rename_i hg0; exact len_ways hrs (by have := hs.n (by rw [e3]; exact hg0); rw [e12] at this; exact this) (by have := hs.r (by rw [e3]; exact hg0); rw [e12] at this; exact this)
  have nm : (modeL m).length ≤ 9 := by unfold modeL; (repeat' split) <;> simp
  obtain ⟨Lt0, eLt0⟩ : ∃ z, z = Lib.itoa c := ⟨_, rfl⟩
  obtain ⟨t0, et0⟩ : ∃ z, z = bk Lt0 := ⟨_, rfl⟩
  have nt0 : Lt0.length ≤ 21 := by rw [eLt0]; exact len_itoa hc
  obtain ⟨bm, ebm⟩ : ∃ z, z = bk (modeL m) := ⟨_, rfl⟩
  obtain ⟨bg, ebg⟩ : ∃ z, z = bk (Lib.itoa g) := ⟨_, rfl⟩
  obtain ⟨bp, ebp⟩ : ∃ z, z = bk (endsL lo hi) := ⟨_, rfl⟩
  obtain ⟨be, ebe⟩ : ∃ z, z = bk (Lib.itoa est) := ⟨_, rfl⟩
  obtain ⟨bw, ebw⟩ : ∃ z, z = bk ways := ⟨_, rfl⟩
  obtain ⟨bs, ebs⟩ : ∃ z, z = bk (endsL slo shi) := ⟨_, rfl⟩
  obtain ⟨bf, ebf⟩ : ∃ z, z = bk (Lib.itoa fit) := ⟨_, rfl⟩
  obtain ⟨bs0, ebs0⟩ : ∃ z, z = bk (Lib.itoa s0) := ⟨_, rfl⟩
  obtain ⟨bs1, ebs1⟩ : ∃ z, z = bk (Lib.itoa s1) := ⟨_, rfl⟩
  have d0 := e_dig c hc.1 hc.2 t0 (by rw [et0, eLt0]; rfl)
  have dg := e_dig g hg.1 hg.2 bg ebg
  have dp := e_rends lo hi hlo hhi bp ebp
  have de := e_dig est hest.1 hest.2 be ebe
  have ds := e_rends slo shi hslo hshi bs ebs
  have df := e_dig fit hfit.1 hfit.2 bf ebf
  have ds0 := e_dig s0 hs0.1 hs0.2 bs0 ebs0
  have ds1 := e_dig s1 hs1.1 hs1.2 bs1 ebs1
  have dw : g ≠ 0 → PCalls Tryd.prog 16 [.list 1 qs] (· = .str bw) := fun hg0 => e_ways rs hrs (by have := hs.n (by rw [e3]; exact hg0); rw [e12] at this; exact this) (by have := hs.r (by rw [e3]; exact hg0); rw [e12] at this; exact this) qs hqs bw (by rw [ebw, eways, if_neg hg0])
  have nitoa : ∀ n, In64 n → (Lib.itoa n).length ≤ 21 := fun n hn => len_itoa hn
  obtain ⟨Lt1, eLt1⟩ : ∃ z : List UInt8, z = Lt0 ++ [32] := ⟨_, rfl⟩
  have nt1 : Lt1.length ≤ 22 := by rw [eLt1, List.length_append]; simp only [List.length_cons, List.length_nil]; omega
  obtain ⟨t1, et1⟩ : ∃ z, z = bk Lt1 := ⟨_, rfl⟩
  have zt1 : Sz t1 := sz_bk (by omega) et1
  have Ft1 : t0 ++ (⟨#[32]⟩ : ByteArray) = t1 := by rw [et0, et1, eLt1]; exact bk_app _ _
  obtain ⟨Lt2, eLt2⟩ : ∃ z : List UInt8, z = Lt1 ++ modeL m := ⟨_, rfl⟩
  have nt2 : Lt2.length ≤ 31 := by rw [eLt2, List.length_append]; omega
  obtain ⟨t2, et2⟩ : ∃ z, z = bk Lt2 := ⟨_, rfl⟩
  have zt2 : Sz t2 := sz_bk (by omega) et2
  have Ft2 : t1 ++ bm = t2 := by rw [et1, ebm, et2, eLt2]; exact bk_app _ _
  obtain ⟨Lp1, eLp1⟩ : ∃ z : List UInt8, z = Lt2 ++ [32, 103, 114, 111, 117, 112, 32] := ⟨_, rfl⟩
  have np1 : Lp1.length ≤ 38 := by rw [eLp1, List.length_append]; simp only [List.length_cons, List.length_nil]; omega
  obtain ⟨p1, ep1⟩ : ∃ z, z = bk Lp1 := ⟨_, rfl⟩
  have zp1 : Sz p1 := sz_bk (by omega) ep1
  have Fp1 : t2 ++ (⟨#[32, 103, 114, 111, 117, 112, 32]⟩ : ByteArray) = p1 := by rw [et2, ep1, eLp1]; exact bk_app _ _
  obtain ⟨Lp2, eLp2⟩ : ∃ z : List UInt8, z = Lp1 ++ Lib.itoa g := ⟨_, rfl⟩
  have np2 : Lp2.length ≤ 59 := by rw [eLp2, List.length_append]; have := nitoa g hg; omega
  obtain ⟨p2, ep2⟩ : ∃ z, z = bk Lp2 := ⟨_, rfl⟩
  have zp2 : Sz p2 := sz_bk (by omega) ep2
  have Fp2 : p1 ++ bg = p2 := by rw [ep1, ebg, ep2, eLp2]; exact bk_app _ _
  obtain ⟨Lp3, eLp3⟩ : ∃ z : List UInt8, z = Lp2 ++ [32, 97, 116, 32] := ⟨_, rfl⟩
  have np3 : Lp3.length ≤ 63 := by rw [eLp3, List.length_append]; simp only [List.length_cons, List.length_nil]; omega
  obtain ⟨p3, ep3⟩ : ∃ z, z = bk Lp3 := ⟨_, rfl⟩
  have zp3 : Sz p3 := sz_bk (by omega) ep3
  have Fp3 : p2 ++ (⟨#[32, 97, 116, 32]⟩ : ByteArray) = p3 := by rw [ep2, ep3, eLp3]; exact bk_app _ _
  obtain ⟨Lp4, eLp4⟩ : ∃ z : List UInt8, z = Lp3 ++ endsL lo hi := ⟨_, rfl⟩
  have np4 : Lp4.length ≤ 107 := by rw [eLp4, List.length_append]; have := len_ends hlo hhi; omega
  obtain ⟨p4, ep4⟩ : ∃ z, z = bk Lp4 := ⟨_, rfl⟩
  have zp4 : Sz p4 := sz_bk (by omega) ep4
  have Fp4 : p3 ++ bp = p4 := by rw [ep3, ebp, ep4, eLp4]; exact bk_app _ _
  obtain ⟨Lp5, eLp5⟩ : ∃ z : List UInt8, z = Lp4 ++ [32, 101, 115, 116, 32] := ⟨_, rfl⟩
  have np5 : Lp5.length ≤ 112 := by rw [eLp5, List.length_append]; simp only [List.length_cons, List.length_nil]; omega
  obtain ⟨p5, ep5⟩ : ∃ z, z = bk Lp5 := ⟨_, rfl⟩
  have zp5 : Sz p5 := sz_bk (by omega) ep5
  have Fp5 : p4 ++ (⟨#[32, 101, 115, 116, 32]⟩ : ByteArray) = p5 := by rw [ep4, ep5, eLp5]; exact bk_app _ _
  obtain ⟨Lp6, eLp6⟩ : ∃ z : List UInt8, z = Lp5 ++ Lib.itoa est := ⟨_, rfl⟩
  have np6 : Lp6.length ≤ 133 := by rw [eLp6, List.length_append]; have := nitoa est hest; omega
  obtain ⟨p6, ep6⟩ : ∃ z, z = bk Lp6 := ⟨_, rfl⟩
  have zp6 : Sz p6 := sz_bk (by omega) ep6
  have Fp6 : p5 ++ be = p6 := by rw [ep5, ebe, ep6, eLp6]; exact bk_app _ _
  obtain ⟨Lp7, eLp7⟩ : ∃ z : List UInt8, z = Lp6 ++ [32, 119, 97, 121, 115, 32] := ⟨_, rfl⟩
  have np7 : Lp7.length ≤ 139 := by rw [eLp7, List.length_append]; simp only [List.length_cons, List.length_nil]; omega
  obtain ⟨p7, ep7⟩ : ∃ z, z = bk Lp7 := ⟨_, rfl⟩
  have zp7 : Sz p7 := sz_bk (by omega) ep7
  have Fp7 : p6 ++ (⟨#[32, 119, 97, 121, 115, 32]⟩ : ByteArray) = p7 := by rw [ep6, ep7, eLp7]; exact bk_app _ _
  obtain ⟨Lp8, eLp8⟩ : ∃ z : List UInt8, z = Lp7 ++ ways := ⟨_, rfl⟩
  have np8 : Lp8.length ≤ 22001139 := by rw [eLp8, List.length_append]; omega
  obtain ⟨p8, ep8⟩ : ∃ z, z = bk Lp8 := ⟨_, rfl⟩
  have zp8 : Sz p8 := sz_bk (by omega) ep8
  have Fp8 : p7 ++ bw = p8 := by rw [ep7, ebw, ep8, eLp8]; exact bk_app _ _
  obtain ⟨Lt3, eLt3⟩ : ∃ z, z = if g = 0 then Lt2 else Lp8 := ⟨_, rfl⟩
  have nt3 : Lt3.length ≤ 22002000 := by rw [eLt3]; split <;> omega
  obtain ⟨t3, et3⟩ : ∃ z, z = bk Lt3 := ⟨_, rfl⟩
  obtain ⟨Lu1, eLu1⟩ : ∃ z : List UInt8, z = Lt3 ++ [32, 115, 112, 101, 101, 100, 32] := ⟨_, rfl⟩
  have nu1 : Lu1.length ≤ 22002007 := by rw [eLu1, List.length_append]; simp only [List.length_cons, List.length_nil]; omega
  obtain ⟨u1, eu1⟩ : ∃ z, z = bk Lu1 := ⟨_, rfl⟩
  have zu1 : Sz u1 := sz_bk (by omega) eu1
  have Fu1 : t3 ++ (⟨#[32, 115, 112, 101, 101, 100, 32]⟩ : ByteArray) = u1 := by rw [et3, eu1, eLu1]; exact bk_app _ _
  obtain ⟨Lu2, eLu2⟩ : ∃ z : List UInt8, z = Lu1 ++ endsL slo shi := ⟨_, rfl⟩
  have nu2 : Lu2.length ≤ 22002051 := by rw [eLu2, List.length_append]; have := len_ends hslo hshi; omega
  obtain ⟨u2, eu2⟩ : ∃ z, z = bk Lu2 := ⟨_, rfl⟩
  have zu2 : Sz u2 := sz_bk (by omega) eu2
  have Fu2 : u1 ++ bs = u2 := by rw [eu1, ebs, eu2, eLu2]; exact bk_app _ _
  obtain ⟨Lu3, eLu3⟩ : ∃ z : List UInt8, z = Lu2 ++ [32, 102, 105, 116, 32] := ⟨_, rfl⟩
  have nu3 : Lu3.length ≤ 22002056 := by rw [eLu3, List.length_append]; simp only [List.length_cons, List.length_nil]; omega
  obtain ⟨u3, eu3⟩ : ∃ z, z = bk Lu3 := ⟨_, rfl⟩
  have zu3 : Sz u3 := sz_bk (by omega) eu3
  have Fu3 : u2 ++ (⟨#[32, 102, 105, 116, 32]⟩ : ByteArray) = u3 := by rw [eu2, eu3, eLu3]; exact bk_app _ _
  obtain ⟨Lu4, eLu4⟩ : ∃ z : List UInt8, z = Lu3 ++ Lib.itoa fit := ⟨_, rfl⟩
  have nu4 : Lu4.length ≤ 22002077 := by rw [eLu4, List.length_append]; have := nitoa fit hfit; omega
  obtain ⟨u4, eu4⟩ : ∃ z, z = bk Lu4 := ⟨_, rfl⟩
  have zu4 : Sz u4 := sz_bk (by omega) eu4
  have Fu4 : u3 ++ bf = u4 := by rw [eu3, ebf, eu4, eLu4]; exact bk_app _ _
  obtain ⟨Lv1, eLv1⟩ : ∃ z : List UInt8, z = Lu4 ++ [32, 115, 108, 105, 112, 32] := ⟨_, rfl⟩
  have nv1 : Lv1.length ≤ 22002083 := by rw [eLv1, List.length_append]; simp only [List.length_cons, List.length_nil]; omega
  obtain ⟨v1, ev1⟩ : ∃ z, z = bk Lv1 := ⟨_, rfl⟩
  have zv1 : Sz v1 := sz_bk (by omega) ev1
  have Fv1 : u4 ++ (⟨#[32, 115, 108, 105, 112, 32]⟩ : ByteArray) = v1 := by rw [eu4, ev1, eLv1]; exact bk_app _ _
  obtain ⟨Lv2, eLv2⟩ : ∃ z : List UInt8, z = Lv1 ++ Lib.itoa s0 := ⟨_, rfl⟩
  have nv2 : Lv2.length ≤ 22002104 := by rw [eLv2, List.length_append]; have := nitoa s0 hs0; omega
  obtain ⟨v2, ev2⟩ : ∃ z, z = bk Lv2 := ⟨_, rfl⟩
  have zv2 : Sz v2 := sz_bk (by omega) ev2
  have Fv2 : v1 ++ bs0 = v2 := by rw [ev1, ebs0, ev2, eLv2]; exact bk_app _ _
  obtain ⟨Lv3, eLv3⟩ : ∃ z : List UInt8, z = Lv2 ++ [32] := ⟨_, rfl⟩
  have nv3 : Lv3.length ≤ 22002105 := by rw [eLv3, List.length_append]; simp only [List.length_cons, List.length_nil]; omega
  obtain ⟨v3, ev3⟩ : ∃ z, z = bk Lv3 := ⟨_, rfl⟩
  have zv3 : Sz v3 := sz_bk (by omega) ev3
  have Fv3 : v2 ++ (⟨#[32]⟩ : ByteArray) = v3 := by rw [ev2, ev3, eLv3]; exact bk_app _ _
  obtain ⟨Lv4, eLv4⟩ : ∃ z : List UInt8, z = Lv3 ++ Lib.itoa s1 := ⟨_, rfl⟩
  have nv4 : Lv4.length ≤ 22002126 := by rw [eLv4, List.length_append]; have := nitoa s1 hs1; omega
  obtain ⟨v4, ev4⟩ : ∃ z, z = bk Lv4 := ⟨_, rfl⟩
  have zv4 : Sz v4 := sz_bk (by omega) ev4
  have Fv4 : v3 ++ bs1 = v4 := by rw [ev3, ebs1, ev4, eLv4]; exact bk_app _ _
  obtain ⟨L5, eL5⟩ : ∃ z, z = if s0 = 0 ∧ s1 = 0 then Lu4 else Lv4 := ⟨_, rfl⟩
  have n5 : L5.length ≤ 22003000 := by rw [eL5]; split <;> omega
  obtain ⟨t5, et5⟩ : ∃ z, z = bk L5 := ⟨_, rfl⟩
  have hL5 : L5 = l4 o ++ jt (slipL o) := by
    unfold l4 slipL placedL
    rw [e1, e2, e3, e4, e5, e6, e7, e8, e9, e10, e11, e12, eL5, eLv4, eLv3, eLv2, eLv1, eLu4, eLu3, eLu2, eLu1, eLt3, eLp8, eLp7, eLp6, eLp5, eLp4, eLp3, eLp2, eLp1, eLt2, eLt1, eLt0, eways]
    by_cases hg0 : g = 0 <;> by_cases hz : s0 = 0 ∧ s1 = 0
    · rw [if_pos hg0, if_pos hz, if_pos hg0, if_pos hz]
      simp only [jt_cons, jt_nil, List.append_assoc, List.cons_append, List.nil_append, List.append_nil]
    · rw [if_pos hg0, if_neg hz, if_pos hg0, if_neg hz]
      simp only [jt_cons, jt_nil, List.append_assoc, List.cons_append, List.nil_append, List.append_nil]
    · rw [if_neg hg0, if_neg hg0, if_pos hz, if_neg hg0, if_pos hz]
      simp only [jt_cons, jt_nil, List.append_assoc, List.cons_append, List.nil_append, List.append_nil]
    · rw [if_neg hg0, if_neg hg0, if_neg hz, if_neg hg0, if_neg hz]
      simp only [jt_cons, jt_nil, List.append_assoc, List.cons_append, List.nil_append, List.append_nil]
  have g0 : g = 0 → t2 = t3 := fun e => by rw [et2, et3, eLt3, if_pos e]
  have g1 : g ≠ 0 → p8 = t3 := fun e => by rw [ep8, et3, eLt3, if_neg e]
  have k0 : (s0 = 0 ∧ s1 = 0) → u4 = t5 := fun e => by rw [eu4, et5, eL5, if_pos e]
  have k1 : ¬ (s0 = 0 ∧ s1 = 0) → v4 = t5 := fun e => by rw [ev4, et5, eL5, if_neg e]
  have et' : t = bk (L5 ++ flN o 7) := by rw [et, line_jt, hL5]; rfl
  have bm0 : bm = ⟨#[100, 101, 103, 114, 97, 100, 101, 100]⟩ := by rw [ebm, hm]; rfl
  rw [bm0] at Ft2
  clear eLt1 nt1 et1 eLt2 nt2 et2 eLp1 np1 ep1 eLp2 np2 ep2 eLp3 np3 ep3 eLp4 np4 ep4 eLp5 np5 ep5 eLp6 np6 ep6 eLp7 np7 ep7 eLp8 np8 ep8 eLu1 nu1 eu1 eLu2 nu2 eu2 eLu3 nu3 eu3 eLu4 nu4 eu4 eLv1 nv1 ev1 eLv2 nv2 ev2 eLv3 nv3 ev3 eLv4 nv4 ev4 eLt3 nt3 et3 et eLt0 et0 nt0 ebm ebg ebp ebe ebw ebs ebf ebs0 ebs1 nm nitoa eways nways hqs hrs hs h hL5
  subst hm
  (refine PCalls.ofY Tryd.func7 (by kernel_rfl) (by kernel_rfl) fun w hw R hR => ?_); (obtain ⟨wbin, wcmp, wun, wconv, wnot, wbeq, wmm, wscmp, wsadd, wslen, wsat, weqs, wlen, wnlen, wofNat, wtake, wdrop, wapp, wzero, wnat⟩ := w); (have hbin : wbin = binStd := congrArg Prims.bin hw); (have hcmp : wcmp = cmpStd := congrArg Prims.cmp hw); (have hun : wun = unStd := congrArg Prims.un hw); (have hconv : wconv = fun k n => k.wrap n := congrArg Prims.conv hw); (have hnot : wnot = fun b => !b := congrArg Prims.not hw); (have hbeq : wbeq = fun a b => a == b := congrArg Prims.beq hw); (have hmm : wmm = maxI := congrArg Prims.mm hw); (have hscmp : wscmp = scmpStd := congrArg Prims.scmp hw); (have hsadd : wsadd = fun x y => x ++ y := congrArg Prims.sadd hw); (have hslen : wslen = fun s => (s.size : Int) := congrArg Prims.slen hw); (have hsat : wsat = std.sat := congrArg Prims.sat hw); (have heqs : weqs = fun a b os => (eqOffs a b os).getD false := congrArg Prims.eqs hw); (have hlen : wlen = fun es => (es.length : Int) := congrArg Prims.len hw); (have hnlen : wnlen = fun es => es.length := congrArg Prims.nlen hw); (have hofNat : wofNat = (fun n : Nat => (n : Int)) := congrArg Prims.ofNat hw); (have htake : wtake = fun es b => es.take b.toNat := congrArg Prims.take hw); (have hdrop : wdrop = fun es a => es.drop a.toNat := congrArg Prims.drop hw); (have happ : wapp = fun a b => a ++ b := congrArg Prims.app hw); (have hzero : wzero = fun n z => List.replicate n.toNat z := congrArg Prims.zero hw); (have hnat : wnat = fun n => n.toNat := congrArg Prims.nat hw); (conv => arg 2; cbv); (generalize hP : Tryd.prog = P); cbv
  have st1 : wsadd t0 (⟨#[32]⟩ : ByteArray) = t1 := by rw [hsadd]; exact Ft1
  have st2 : wsadd t1 ⟨#[100, 101, 103, 114, 97, 100, 101, 100]⟩ = t2 := by rw [hsadd]; exact Ft2
  have sp1 : wsadd t2 (⟨#[32, 103, 114, 111, 117, 112, 32]⟩ : ByteArray) = p1 := by rw [hsadd]; exact Fp1
  have sp2 : wsadd p1 bg = p2 := by rw [hsadd]; exact Fp2
  have sp3 : wsadd p2 (⟨#[32, 97, 116, 32]⟩ : ByteArray) = p3 := by rw [hsadd]; exact Fp3
  have sp4 : wsadd p3 bp = p4 := by rw [hsadd]; exact Fp4
  have sp5 : wsadd p4 (⟨#[32, 101, 115, 116, 32]⟩ : ByteArray) = p5 := by rw [hsadd]; exact Fp5
  have sp6 : wsadd p5 be = p6 := by rw [hsadd]; exact Fp6
  have sp7 : wsadd p6 (⟨#[32, 119, 97, 121, 115, 32]⟩ : ByteArray) = p7 := by rw [hsadd]; exact Fp7
  have sp8 : wsadd p7 bw = p8 := by rw [hsadd]; exact Fp8
  have su1 : wsadd t3 (⟨#[32, 115, 112, 101, 101, 100, 32]⟩ : ByteArray) = u1 := by rw [hsadd]; exact Fu1
  have su2 : wsadd u1 bs = u2 := by rw [hsadd]; exact Fu2
  have su3 : wsadd u2 (⟨#[32, 102, 105, 116, 32]⟩ : ByteArray) = u3 := by rw [hsadd]; exact Fu3
  have su4 : wsadd u3 bf = u4 := by rw [hsadd]; exact Fu4
  have sv1 : wsadd u4 (⟨#[32, 115, 108, 105, 112, 32]⟩ : ByteArray) = v1 := by rw [hsadd]; exact Fv1
  have sv2 : wsadd v1 bs0 = v2 := by rw [hsadd]; exact Fv2
  have sv3 : wsadd v2 (⟨#[32]⟩ : ByteArray) = v3 := by rw [hsadd]; exact Fv3
  have sv4 : wsadd v3 bs1 = v4 := by rw [hsadd]; exact Fv4
  clear Ft1 Ft2 Fp1 Fp2 Fp3 Fp4 Fp5 Fp6 Fp7 Fp8 Fu1 Fu2 Fu3 Fu4 Fv1 Fv2 Fv3 Fv4
  have m1 : wcmp .geq 3 1 = true := by rw [hcmp]; rfl
  have m2 : wcmp .leq 3 4 = true := by rw [hcmp]; rfl
  have cases : (s0 = 0 ∧ s1 = 0) ∨ (s0 = 0 ∧ ¬ s1 = 0) ∨ ¬ s0 = 0 := by omega
  rcases Classical.em (g = 0) with hg0 | hg0 <;> rcases cases with hz | hz | hz
  all_goals
    first
      | (have gg := g0 hg0)
      | (have gg := g1 hg0)
    first
      | (have cg : wcmp .neq g 0 = false := by (rw [hcmp]; simp [cmpStd, hg0]; done))
      | (have cg : wcmp .neq g 0 = true := by (rw [hcmp]; simp [cmpStd, hg0]; done))
    first
      | (have kk := k0 hz)
      | (have kk := k1 (by omega))
    first
      | (have cz0 : wcmp .neq s0 0 = false := by (rw [hcmp]; simp [cmpStd, hz]; done))
      | (have cz0 : wcmp .neq s0 0 = true := by (rw [hcmp]; simp [cmpStd, hz]; done))
    first
      | (have cz1 : wcmp .neq s1 0 = false := by (rw [hcmp]; simp [cmpStd, hz]; done))
      | (have cz1 : wcmp .neq s1 0 = true := by (rw [hcmp]; simp [cmpStd, hz]; done))
      | (have cz1 : wnot (wnot true) = true := by (rw [hnot]; rfl))
    try (have dw := dw hg0)
    repeat' (first
      | (refine InN.mk (by decide) (by decide) ?_)
      | (refine Le.mk (by rw [hslen]; exact Sz.le (by assumption)) ?_)
      | (simp only [st1, st2, sp1, sp2, sp3, sp4, sp5, sp6, sp7, sp8, su1, su2, su3, su4, sv1, sv2, sv3, sv4])
      | (simp only [gg])
      | (simp only [kk])
      | (simp only [cg]; cbv)
      | (simp only [cz0]; cbv)
      | (simp only [cz1]; cbv)
      | (simp only [m1]; cbv)
      | (simp only [m2]; cbv)
      | (refine Call.stepE (by rw [← hP]; exact d0) rfl ?_; cbv)
      | (refine QCal.stepE (by rw [← hP]; exact dg) rfl ?_; cbv)
      | (refine QCal.stepE (by rw [← hP]; exact dp) rfl ?_; cbv)
      | (refine QCal.stepE (by rw [← hP]; exact de) rfl ?_; cbv)
      | (refine QCal.stepE (by rw [← hP]; exact dw) (by exact Up0.one huq rfl) ?_; cbv)
      | (refine QCal.stepE (by rw [← hP]; exact ds) rfl ?_; cbv)
      | (refine QCal.stepE (by rw [← hP]; exact df) rfl ?_; cbv)
      | (refine QCal.stepE (by rw [← hP]; exact ds0) rfl ?_; cbv)
      | (refine QCal.stepE (by rw [← hP]; exact ds1) rfl ?_; cbv))
    refine Loop.data hw (S := Int × ByteArray) (fun s => fr 101 [(1, .ref 0 19 0 0), (4, .ref 2 7 0 0), (5, .str s.2), (6, .int .i64 s.1)])
      (fun s => [.live 19 [[.int .i64 c, .int .i64 3, .int .i64 g, .int .i64 fit, .int .i64 lo, .int .i64 hi, .int .i64 slo, .int .i64 shi, .int .i64 est, .list 1 qs, .int .i64 s0, .int .i64 s1, .int .i64 f0, .int .i64 f1, .int .i64 f2, .int .i64 f3, .int .i64 f4, .int .i64 f5, .int .i64 f6]], .live 5 [[.str ⟨#[]⟩, .str ⟨#[117, 110, 108, 111, 99, 97, 116, 101, 100]⟩, .str ⟨#[108, 111, 99, 97, 116, 101, 100]⟩, .str ⟨#[100, 101, 103, 114, 97, 100, 101, 100]⟩, .str ⟨#[102, 97, 105, 108, 101, 100]⟩]], .live 7 [[.str ⟨#[99, 108, 101, 97, 110]⟩, .str ⟨#[99, 111, 110, 102, 108, 105, 99, 116]⟩, .str ⟨#[97, 99, 99, 101, 112, 116, 101, 100]⟩, .str ⟨#[102, 97, 117, 108, 116]⟩, .str ⟨#[115, 116, 105, 108, 108]⟩, .str ⟨#[114, 111, 108, 108]⟩, .str ⟨#[111, 118, 101, 114]⟩]]])
      (fun s => 0 ≤ s.1 ∧ s.1 ≤ 7 ∧ s.2 = bk (L5 ++ flN o s.1)) (fun s => (7 - s.1).toNat) (0, t5) (by (refine Wk.eqz (id) (by first | exact fun i _ j _ e => e | (simp only [List.length_cons, List.length_nil]; decide)) ?_; cbv; (repeat' (first | exact trivial | rfl | assumption | apply And.intro | (simp only [hbin, hcmp, hun, hconv, hnot, hbeq, hmm, hscmp, hsadd, hslen, hsat, heqs, hofNat, binStd, cmpStd, unStd, scmpStd, maxI, Bool.not_eq_true', Bool.not_eq_false', decide_eq_true_eq, decide_eq_false_iff_not, Int.not_lt, Int.not_le, if_true, if_false, Bool.false_eq_true, beq_iff_eq, bne_iff_ne, ne_eq, Bool.not_eq_eq_eq_not, Bool.not_true, Bool.not_false, beq_eq_false_iff_ne, bne_eq_false_iff_eq, Int.ofNat_eq_natCast, Bool.not_not, not_true_eq_false, not_false_eq_true, reduceCtorEq]; first | done | assumption) | exact RowsZ.same (by assumption) (by first | assumption | rfl) | exact FzL.mk rfl rfl rfl (by assumption) (by first | assumption | rfl) (by decide) | (refine RowsZ.one ?_; cbv))))) ⟨Int.le_refl 0, (show (0 : Int) ≤ 7 by decide), by rw [et5]; simp [flN, saidL, jt_nil]⟩ ?_
    rintro ⟨i, u⟩ hinv Q2 hN2 hE2 hR2
    have hinv : 0 ≤ i ∧ i ≤ 7 ∧ u = bk (L5 ++ flN o i) := hinv
    cbv
    obtain ⟨hi0, hi7, hu⟩ := hinv
    (split <;> rename_i hc <;> (try (simp only [hbin, hcmp, hun, hconv, hnot, hbeq, hmm, hscmp, hsadd, hslen, hsat, heqs, hofNat, binStd, cmpStd, unStd, scmpStd, maxI, Bool.not_eq_true', Bool.not_eq_false', decide_eq_true_eq, decide_eq_false_iff_not, Int.not_lt, Int.not_le, if_true, if_false, Bool.false_eq_true, beq_iff_eq, bne_iff_ne, ne_eq, Bool.not_eq_eq_eq_not, Bool.not_true, Bool.not_false, beq_eq_false_iff_ne, bne_eq_false_iff_eq, Int.ofNat_eq_natCast, Bool.not_not, not_true_eq_false, not_false_eq_true, reduceCtorEq] at hc)) <;> (try cbv))
    · have hi : i = 0 ∨ i = 1 ∨ i = 2 ∨ i = 3 ∨ i = 4 ∨ i = 5 ∨ i = 6 := by omega
      rcases hi with rfl | rfl | rfl | rfl | rfl | rfl | rfl
      · cbv
        have ca : wbin .add .i64 0 1 = 1 := by rw [hbin]; rfl
        by_cases hb : f0 = 1
        · have cb : wcmp .eql f0 1 = true := by rw [hcmp]; simp [cmpStd, hb]
          have hbt := hf.h0.1 hb
          obtain ⟨ua, ea⟩ : ∃ z, z = u ++ (⟨#[32]⟩ : ByteArray) := ⟨_, rfl⟩
          obtain ⟨ub, eb⟩ : ∃ z, z = ua ++ (⟨#[99, 108, 101, 97, 110]⟩ : ByteArray) := ⟨_, rfl⟩
          have hfl : flN o 1 = flN o 0 ++ ([32] ++ [99, 108, 101, 97, 110]) := fl_some (o := o) (i := 0) (by show some (o.b1, _) = _; rw [hbt])
          have hub : ub = bk (L5 ++ flN o 1) := by rw [eb, ea, hu, hfl]; exact (congrArg (· ++ (⟨#[99, 108, 101, 97, 110]⟩ : ByteArray)) (bk_app (L5 ++ flN o 0) [32])).trans ((bk_app _ [99, 108, 101, 97, 110]).trans (by simp only [List.append_assoc]))
          have hua : ua = bk (L5 ++ flN o 0 ++ [32]) := by rw [ea, hu]; exact bk_app _ _
          have za : Sz ua := sz_bk (by have := len_fl o 0; simp only [List.length_append, List.length_cons, List.length_nil]; omega) hua
          have zb : Sz ub := sz_bk (by have := len_fl o 1; rw [List.length_append]; omega) hub
          have cu : wsadd u ⟨#[32]⟩ = ua := by rw [hsadd, ea]
          have cv : wsadd ua ⟨#[99, 108, 101, 97, 110]⟩ = ub := by rw [hsadd, eb]
          repeat' (first
            | (refine InN.mk (by decide) (by decide) ?_)
            | (refine Le.mk (by rw [hslen]; exact Sz.le (by assumption)) ?_; try cbv)
            | (simp only [cu, cv])
            | (simp only [cb]; cbv))
          simp only [ca]
          refine hN2 (1, ub) _ _ ?hx ?hi (show ((7 : Int) - 1).toNat < ((7 : Int) - 0).toNat by decide)
          case hx => (refine Wk.eqz (id) (by first | exact fun i _ j _ e => e | (simp only [List.length_cons, List.length_nil]; decide)) ?_; cbv; (repeat' (first | exact trivial | rfl | assumption | apply And.intro | (simp only [hbin, hcmp, hun, hconv, hnot, hbeq, hmm, hscmp, hsadd, hslen, hsat, heqs, hofNat, binStd, cmpStd, unStd, scmpStd, maxI, Bool.not_eq_true', Bool.not_eq_false', decide_eq_true_eq, decide_eq_false_iff_not, Int.not_lt, Int.not_le, if_true, if_false, Bool.false_eq_true, beq_iff_eq, bne_iff_ne, ne_eq, Bool.not_eq_eq_eq_not, Bool.not_true, Bool.not_false, beq_eq_false_iff_ne, bne_eq_false_iff_eq, Int.ofNat_eq_natCast, Bool.not_not, not_true_eq_false, not_false_eq_true, reduceCtorEq]; first | done | assumption) | exact RowsZ.same (by assumption) (by first | assumption | rfl) | exact FzL.mk rfl rfl rfl (by assumption) (by first | assumption | rfl) (by decide) | (refine RowsZ.one ?_; cbv))))
          case hi => exact ⟨(show (0 : Int) ≤ 1 by decide), (show (1 : Int) ≤ 7 by decide), hub⟩
        · have cb : wcmp .eql f0 1 = false := by rw [hcmp]; simp [cmpStd, hb]
          have hbt : o.b1 = false := by
            cases hx : o.b1
            · rfl
            · exact absurd (hf.h0.2 hx) hb
          have hfl : flN o 1 = flN o 0 := fl_none (o := o) (i := 0) (x := [99, 108, 101, 97, 110]) (by show some (o.b1, _) = _; rw [hbt])
          repeat' (first
            | (refine InN.mk (by decide) (by decide) ?_)
            | (simp only [cb]; cbv))
          simp only [ca]
          refine hN2 (1, u) _ _ ?hx ?hi (show ((7 : Int) - 1).toNat < ((7 : Int) - 0).toNat by decide)
          case hx => (refine Wk.eqz (id) (by first | exact fun i _ j _ e => e | (simp only [List.length_cons, List.length_nil]; decide)) ?_; cbv; (repeat' (first | exact trivial | rfl | assumption | apply And.intro | (simp only [hbin, hcmp, hun, hconv, hnot, hbeq, hmm, hscmp, hsadd, hslen, hsat, heqs, hofNat, binStd, cmpStd, unStd, scmpStd, maxI, Bool.not_eq_true', Bool.not_eq_false', decide_eq_true_eq, decide_eq_false_iff_not, Int.not_lt, Int.not_le, if_true, if_false, Bool.false_eq_true, beq_iff_eq, bne_iff_ne, ne_eq, Bool.not_eq_eq_eq_not, Bool.not_true, Bool.not_false, beq_eq_false_iff_ne, bne_eq_false_iff_eq, Int.ofNat_eq_natCast, Bool.not_not, not_true_eq_false, not_false_eq_true, reduceCtorEq]; first | done | assumption) | exact RowsZ.same (by assumption) (by first | assumption | rfl) | exact FzL.mk rfl rfl rfl (by assumption) (by first | assumption | rfl) (by decide) | (refine RowsZ.one ?_; cbv))))
          case hi => exact ⟨(show (0 : Int) ≤ 1 by decide), (show (1 : Int) ≤ 7 by decide), by rw [hu, hfl]⟩
      · cbv
        have ca : wbin .add .i64 1 1 = 2 := by rw [hbin]; rfl
        by_cases hb : f1 = 1
        · have cb : wcmp .eql f1 1 = true := by rw [hcmp]; simp [cmpStd, hb]
          have hbt := hf.h1.1 hb
          obtain ⟨ua, ea⟩ : ∃ z, z = u ++ (⟨#[32]⟩ : ByteArray) := ⟨_, rfl⟩
          obtain ⟨ub, eb⟩ : ∃ z, z = ua ++ (⟨#[99, 111, 110, 102, 108, 105, 99, 116]⟩ : ByteArray) := ⟨_, rfl⟩
          have hfl : flN o 2 = flN o 1 ++ ([32] ++ [99, 111, 110, 102, 108, 105, 99, 116]) := fl_some (o := o) (i := 1) (by show some (o.b2, _) = _; rw [hbt])
          have hub : ub = bk (L5 ++ flN o 2) := by rw [eb, ea, hu, hfl]; exact (congrArg (· ++ (⟨#[99, 111, 110, 102, 108, 105, 99, 116]⟩ : ByteArray)) (bk_app (L5 ++ flN o 1) [32])).trans ((bk_app _ [99, 111, 110, 102, 108, 105, 99, 116]).trans (by simp only [List.append_assoc]))
          have hua : ua = bk (L5 ++ flN o 1 ++ [32]) := by rw [ea, hu]; exact bk_app _ _
          have za : Sz ua := sz_bk (by have := len_fl o 1; simp only [List.length_append, List.length_cons, List.length_nil]; omega) hua
          have zb : Sz ub := sz_bk (by have := len_fl o 2; rw [List.length_append]; omega) hub
          have cu : wsadd u ⟨#[32]⟩ = ua := by rw [hsadd, ea]
          have cv : wsadd ua ⟨#[99, 111, 110, 102, 108, 105, 99, 116]⟩ = ub := by rw [hsadd, eb]
          repeat' (first
            | (refine InN.mk (by decide) (by decide) ?_)
            | (refine Le.mk (by rw [hslen]; exact Sz.le (by assumption)) ?_; try cbv)
            | (simp only [cu, cv])
            | (simp only [cb]; cbv))
          simp only [ca]
          refine hN2 (2, ub) _ _ ?hx ?hi (show ((7 : Int) - 2).toNat < ((7 : Int) - 1).toNat by decide)
          case hx => (refine Wk.eqz (id) (by first | exact fun i _ j _ e => e | (simp only [List.length_cons, List.length_nil]; decide)) ?_; cbv; (repeat' (first | exact trivial | rfl | assumption | apply And.intro | (simp only [hbin, hcmp, hun, hconv, hnot, hbeq, hmm, hscmp, hsadd, hslen, hsat, heqs, hofNat, binStd, cmpStd, unStd, scmpStd, maxI, Bool.not_eq_true', Bool.not_eq_false', decide_eq_true_eq, decide_eq_false_iff_not, Int.not_lt, Int.not_le, if_true, if_false, Bool.false_eq_true, beq_iff_eq, bne_iff_ne, ne_eq, Bool.not_eq_eq_eq_not, Bool.not_true, Bool.not_false, beq_eq_false_iff_ne, bne_eq_false_iff_eq, Int.ofNat_eq_natCast, Bool.not_not, not_true_eq_false, not_false_eq_true, reduceCtorEq]; first | done | assumption) | exact RowsZ.same (by assumption) (by first | assumption | rfl) | exact FzL.mk rfl rfl rfl (by assumption) (by first | assumption | rfl) (by decide) | (refine RowsZ.one ?_; cbv))))
          case hi => exact ⟨(show (0 : Int) ≤ 2 by decide), (show (2 : Int) ≤ 7 by decide), hub⟩
        · have cb : wcmp .eql f1 1 = false := by rw [hcmp]; simp [cmpStd, hb]
          have hbt : o.b2 = false := by
            cases hx : o.b2
            · rfl
            · exact absurd (hf.h1.2 hx) hb
          have hfl : flN o 2 = flN o 1 := fl_none (o := o) (i := 1) (x := [99, 111, 110, 102, 108, 105, 99, 116]) (by show some (o.b2, _) = _; rw [hbt])
          repeat' (first
            | (refine InN.mk (by decide) (by decide) ?_)
            | (simp only [cb]; cbv))
          simp only [ca]
          refine hN2 (2, u) _ _ ?hx ?hi (show ((7 : Int) - 2).toNat < ((7 : Int) - 1).toNat by decide)
          case hx => (refine Wk.eqz (id) (by first | exact fun i _ j _ e => e | (simp only [List.length_cons, List.length_nil]; decide)) ?_; cbv; (repeat' (first | exact trivial | rfl | assumption | apply And.intro | (simp only [hbin, hcmp, hun, hconv, hnot, hbeq, hmm, hscmp, hsadd, hslen, hsat, heqs, hofNat, binStd, cmpStd, unStd, scmpStd, maxI, Bool.not_eq_true', Bool.not_eq_false', decide_eq_true_eq, decide_eq_false_iff_not, Int.not_lt, Int.not_le, if_true, if_false, Bool.false_eq_true, beq_iff_eq, bne_iff_ne, ne_eq, Bool.not_eq_eq_eq_not, Bool.not_true, Bool.not_false, beq_eq_false_iff_ne, bne_eq_false_iff_eq, Int.ofNat_eq_natCast, Bool.not_not, not_true_eq_false, not_false_eq_true, reduceCtorEq]; first | done | assumption) | exact RowsZ.same (by assumption) (by first | assumption | rfl) | exact FzL.mk rfl rfl rfl (by assumption) (by first | assumption | rfl) (by decide) | (refine RowsZ.one ?_; cbv))))
          case hi => exact ⟨(show (0 : Int) ≤ 2 by decide), (show (2 : Int) ≤ 7 by decide), by rw [hu, hfl]⟩
      · cbv
        have ca : wbin .add .i64 2 1 = 3 := by rw [hbin]; rfl
        by_cases hb : f2 = 1
        · have cb : wcmp .eql f2 1 = true := by rw [hcmp]; simp [cmpStd, hb]
          have hbt := hf.h2.1 hb
          obtain ⟨ua, ea⟩ : ∃ z, z = u ++ (⟨#[32]⟩ : ByteArray) := ⟨_, rfl⟩
          obtain ⟨ub, eb⟩ : ∃ z, z = ua ++ (⟨#[97, 99, 99, 101, 112, 116, 101, 100]⟩ : ByteArray) := ⟨_, rfl⟩
          have hfl : flN o 3 = flN o 2 ++ ([32] ++ [97, 99, 99, 101, 112, 116, 101, 100]) := fl_some (o := o) (i := 2) (by show some (o.b3, _) = _; rw [hbt])
          have hub : ub = bk (L5 ++ flN o 3) := by rw [eb, ea, hu, hfl]; exact (congrArg (· ++ (⟨#[97, 99, 99, 101, 112, 116, 101, 100]⟩ : ByteArray)) (bk_app (L5 ++ flN o 2) [32])).trans ((bk_app _ [97, 99, 99, 101, 112, 116, 101, 100]).trans (by simp only [List.append_assoc]))
          have hua : ua = bk (L5 ++ flN o 2 ++ [32]) := by rw [ea, hu]; exact bk_app _ _
          have za : Sz ua := sz_bk (by have := len_fl o 2; simp only [List.length_append, List.length_cons, List.length_nil]; omega) hua
          have zb : Sz ub := sz_bk (by have := len_fl o 3; rw [List.length_append]; omega) hub
          have cu : wsadd u ⟨#[32]⟩ = ua := by rw [hsadd, ea]
          have cv : wsadd ua ⟨#[97, 99, 99, 101, 112, 116, 101, 100]⟩ = ub := by rw [hsadd, eb]
          repeat' (first
            | (refine InN.mk (by decide) (by decide) ?_)
            | (refine Le.mk (by rw [hslen]; exact Sz.le (by assumption)) ?_; try cbv)
            | (simp only [cu, cv])
            | (simp only [cb]; cbv))
          simp only [ca]
          refine hN2 (3, ub) _ _ ?hx ?hi (show ((7 : Int) - 3).toNat < ((7 : Int) - 2).toNat by decide)
          case hx => (refine Wk.eqz (id) (by first | exact fun i _ j _ e => e | (simp only [List.length_cons, List.length_nil]; decide)) ?_; cbv; (repeat' (first | exact trivial | rfl | assumption | apply And.intro | (simp only [hbin, hcmp, hun, hconv, hnot, hbeq, hmm, hscmp, hsadd, hslen, hsat, heqs, hofNat, binStd, cmpStd, unStd, scmpStd, maxI, Bool.not_eq_true', Bool.not_eq_false', decide_eq_true_eq, decide_eq_false_iff_not, Int.not_lt, Int.not_le, if_true, if_false, Bool.false_eq_true, beq_iff_eq, bne_iff_ne, ne_eq, Bool.not_eq_eq_eq_not, Bool.not_true, Bool.not_false, beq_eq_false_iff_ne, bne_eq_false_iff_eq, Int.ofNat_eq_natCast, Bool.not_not, not_true_eq_false, not_false_eq_true, reduceCtorEq]; first | done | assumption) | exact RowsZ.same (by assumption) (by first | assumption | rfl) | exact FzL.mk rfl rfl rfl (by assumption) (by first | assumption | rfl) (by decide) | (refine RowsZ.one ?_; cbv))))
          case hi => exact ⟨(show (0 : Int) ≤ 3 by decide), (show (3 : Int) ≤ 7 by decide), hub⟩
        · have cb : wcmp .eql f2 1 = false := by rw [hcmp]; simp [cmpStd, hb]
          have hbt : o.b3 = false := by
            cases hx : o.b3
            · rfl
            · exact absurd (hf.h2.2 hx) hb
          have hfl : flN o 3 = flN o 2 := fl_none (o := o) (i := 2) (x := [97, 99, 99, 101, 112, 116, 101, 100]) (by show some (o.b3, _) = _; rw [hbt])
          repeat' (first
            | (refine InN.mk (by decide) (by decide) ?_)
            | (simp only [cb]; cbv))
          simp only [ca]
          refine hN2 (3, u) _ _ ?hx ?hi (show ((7 : Int) - 3).toNat < ((7 : Int) - 2).toNat by decide)
          case hx => (refine Wk.eqz (id) (by first | exact fun i _ j _ e => e | (simp only [List.length_cons, List.length_nil]; decide)) ?_; cbv; (repeat' (first | exact trivial | rfl | assumption | apply And.intro | (simp only [hbin, hcmp, hun, hconv, hnot, hbeq, hmm, hscmp, hsadd, hslen, hsat, heqs, hofNat, binStd, cmpStd, unStd, scmpStd, maxI, Bool.not_eq_true', Bool.not_eq_false', decide_eq_true_eq, decide_eq_false_iff_not, Int.not_lt, Int.not_le, if_true, if_false, Bool.false_eq_true, beq_iff_eq, bne_iff_ne, ne_eq, Bool.not_eq_eq_eq_not, Bool.not_true, Bool.not_false, beq_eq_false_iff_ne, bne_eq_false_iff_eq, Int.ofNat_eq_natCast, Bool.not_not, not_true_eq_false, not_false_eq_true, reduceCtorEq]; first | done | assumption) | exact RowsZ.same (by assumption) (by first | assumption | rfl) | exact FzL.mk rfl rfl rfl (by assumption) (by first | assumption | rfl) (by decide) | (refine RowsZ.one ?_; cbv))))
          case hi => exact ⟨(show (0 : Int) ≤ 3 by decide), (show (3 : Int) ≤ 7 by decide), by rw [hu, hfl]⟩
      · cbv
        have ca : wbin .add .i64 3 1 = 4 := by rw [hbin]; rfl
        by_cases hb : f3 = 1
        · have cb : wcmp .eql f3 1 = true := by rw [hcmp]; simp [cmpStd, hb]
          have hbt := hf.h3.1 hb
          obtain ⟨ua, ea⟩ : ∃ z, z = u ++ (⟨#[32]⟩ : ByteArray) := ⟨_, rfl⟩
          obtain ⟨ub, eb⟩ : ∃ z, z = ua ++ (⟨#[102, 97, 117, 108, 116]⟩ : ByteArray) := ⟨_, rfl⟩
          have hfl : flN o 4 = flN o 3 ++ ([32] ++ [102, 97, 117, 108, 116]) := fl_some (o := o) (i := 3) (by show some (o.b4, _) = _; rw [hbt])
          have hub : ub = bk (L5 ++ flN o 4) := by rw [eb, ea, hu, hfl]; exact (congrArg (· ++ (⟨#[102, 97, 117, 108, 116]⟩ : ByteArray)) (bk_app (L5 ++ flN o 3) [32])).trans ((bk_app _ [102, 97, 117, 108, 116]).trans (by simp only [List.append_assoc]))
          have hua : ua = bk (L5 ++ flN o 3 ++ [32]) := by rw [ea, hu]; exact bk_app _ _
          have za : Sz ua := sz_bk (by have := len_fl o 3; simp only [List.length_append, List.length_cons, List.length_nil]; omega) hua
          have zb : Sz ub := sz_bk (by have := len_fl o 4; rw [List.length_append]; omega) hub
          have cu : wsadd u ⟨#[32]⟩ = ua := by rw [hsadd, ea]
          have cv : wsadd ua ⟨#[102, 97, 117, 108, 116]⟩ = ub := by rw [hsadd, eb]
          repeat' (first
            | (refine InN.mk (by decide) (by decide) ?_)
            | (refine Le.mk (by rw [hslen]; exact Sz.le (by assumption)) ?_; try cbv)
            | (simp only [cu, cv])
            | (simp only [cb]; cbv))
          simp only [ca]
          refine hN2 (4, ub) _ _ ?hx ?hi (show ((7 : Int) - 4).toNat < ((7 : Int) - 3).toNat by decide)
          case hx => (refine Wk.eqz (id) (by first | exact fun i _ j _ e => e | (simp only [List.length_cons, List.length_nil]; decide)) ?_; cbv; (repeat' (first | exact trivial | rfl | assumption | apply And.intro | (simp only [hbin, hcmp, hun, hconv, hnot, hbeq, hmm, hscmp, hsadd, hslen, hsat, heqs, hofNat, binStd, cmpStd, unStd, scmpStd, maxI, Bool.not_eq_true', Bool.not_eq_false', decide_eq_true_eq, decide_eq_false_iff_not, Int.not_lt, Int.not_le, if_true, if_false, Bool.false_eq_true, beq_iff_eq, bne_iff_ne, ne_eq, Bool.not_eq_eq_eq_not, Bool.not_true, Bool.not_false, beq_eq_false_iff_ne, bne_eq_false_iff_eq, Int.ofNat_eq_natCast, Bool.not_not, not_true_eq_false, not_false_eq_true, reduceCtorEq]; first | done | assumption) | exact RowsZ.same (by assumption) (by first | assumption | rfl) | exact FzL.mk rfl rfl rfl (by assumption) (by first | assumption | rfl) (by decide) | (refine RowsZ.one ?_; cbv))))
          case hi => exact ⟨(show (0 : Int) ≤ 4 by decide), (show (4 : Int) ≤ 7 by decide), hub⟩
        · have cb : wcmp .eql f3 1 = false := by rw [hcmp]; simp [cmpStd, hb]
          have hbt : o.b4 = false := by
            cases hx : o.b4
            · rfl
            · exact absurd (hf.h3.2 hx) hb
          have hfl : flN o 4 = flN o 3 := fl_none (o := o) (i := 3) (x := [102, 97, 117, 108, 116]) (by show some (o.b4, _) = _; rw [hbt])
          repeat' (first
            | (refine InN.mk (by decide) (by decide) ?_)
            | (simp only [cb]; cbv))
          simp only [ca]
          refine hN2 (4, u) _ _ ?hx ?hi (show ((7 : Int) - 4).toNat < ((7 : Int) - 3).toNat by decide)
          case hx => (refine Wk.eqz (id) (by first | exact fun i _ j _ e => e | (simp only [List.length_cons, List.length_nil]; decide)) ?_; cbv; (repeat' (first | exact trivial | rfl | assumption | apply And.intro | (simp only [hbin, hcmp, hun, hconv, hnot, hbeq, hmm, hscmp, hsadd, hslen, hsat, heqs, hofNat, binStd, cmpStd, unStd, scmpStd, maxI, Bool.not_eq_true', Bool.not_eq_false', decide_eq_true_eq, decide_eq_false_iff_not, Int.not_lt, Int.not_le, if_true, if_false, Bool.false_eq_true, beq_iff_eq, bne_iff_ne, ne_eq, Bool.not_eq_eq_eq_not, Bool.not_true, Bool.not_false, beq_eq_false_iff_ne, bne_eq_false_iff_eq, Int.ofNat_eq_natCast, Bool.not_not, not_true_eq_false, not_false_eq_true, reduceCtorEq]; first | done | assumption) | exact RowsZ.same (by assumption) (by first | assumption | rfl) | exact FzL.mk rfl rfl rfl (by assumption) (by first | assumption | rfl) (by decide) | (refine RowsZ.one ?_; cbv))))
          case hi => exact ⟨(show (0 : Int) ≤ 4 by decide), (show (4 : Int) ≤ 7 by decide), by rw [hu, hfl]⟩
      · cbv
        have ca : wbin .add .i64 4 1 = 5 := by rw [hbin]; rfl
        by_cases hb : f4 = 1
        · have cb : wcmp .eql f4 1 = true := by rw [hcmp]; simp [cmpStd, hb]
          have hbt := hf.h4.1 hb
          obtain ⟨ua, ea⟩ : ∃ z, z = u ++ (⟨#[32]⟩ : ByteArray) := ⟨_, rfl⟩
          obtain ⟨ub, eb⟩ : ∃ z, z = ua ++ (⟨#[115, 116, 105, 108, 108]⟩ : ByteArray) := ⟨_, rfl⟩
          have hfl : flN o 5 = flN o 4 ++ ([32] ++ [115, 116, 105, 108, 108]) := fl_some (o := o) (i := 4) (by show some (o.b5, _) = _; rw [hbt])
          have hub : ub = bk (L5 ++ flN o 5) := by rw [eb, ea, hu, hfl]; exact (congrArg (· ++ (⟨#[115, 116, 105, 108, 108]⟩ : ByteArray)) (bk_app (L5 ++ flN o 4) [32])).trans ((bk_app _ [115, 116, 105, 108, 108]).trans (by simp only [List.append_assoc]))
          have hua : ua = bk (L5 ++ flN o 4 ++ [32]) := by rw [ea, hu]; exact bk_app _ _
          have za : Sz ua := sz_bk (by have := len_fl o 4; simp only [List.length_append, List.length_cons, List.length_nil]; omega) hua
          have zb : Sz ub := sz_bk (by have := len_fl o 5; rw [List.length_append]; omega) hub
          have cu : wsadd u ⟨#[32]⟩ = ua := by rw [hsadd, ea]
          have cv : wsadd ua ⟨#[115, 116, 105, 108, 108]⟩ = ub := by rw [hsadd, eb]
          repeat' (first
            | (refine InN.mk (by decide) (by decide) ?_)
            | (refine Le.mk (by rw [hslen]; exact Sz.le (by assumption)) ?_; try cbv)
            | (simp only [cu, cv])
            | (simp only [cb]; cbv))
          simp only [ca]
          refine hN2 (5, ub) _ _ ?hx ?hi (show ((7 : Int) - 5).toNat < ((7 : Int) - 4).toNat by decide)
          case hx => (refine Wk.eqz (id) (by first | exact fun i _ j _ e => e | (simp only [List.length_cons, List.length_nil]; decide)) ?_; cbv; (repeat' (first | exact trivial | rfl | assumption | apply And.intro | (simp only [hbin, hcmp, hun, hconv, hnot, hbeq, hmm, hscmp, hsadd, hslen, hsat, heqs, hofNat, binStd, cmpStd, unStd, scmpStd, maxI, Bool.not_eq_true', Bool.not_eq_false', decide_eq_true_eq, decide_eq_false_iff_not, Int.not_lt, Int.not_le, if_true, if_false, Bool.false_eq_true, beq_iff_eq, bne_iff_ne, ne_eq, Bool.not_eq_eq_eq_not, Bool.not_true, Bool.not_false, beq_eq_false_iff_ne, bne_eq_false_iff_eq, Int.ofNat_eq_natCast, Bool.not_not, not_true_eq_false, not_false_eq_true, reduceCtorEq]; first | done | assumption) | exact RowsZ.same (by assumption) (by first | assumption | rfl) | exact FzL.mk rfl rfl rfl (by assumption) (by first | assumption | rfl) (by decide) | (refine RowsZ.one ?_; cbv))))
          case hi => exact ⟨(show (0 : Int) ≤ 5 by decide), (show (5 : Int) ≤ 7 by decide), hub⟩
        · have cb : wcmp .eql f4 1 = false := by rw [hcmp]; simp [cmpStd, hb]
          have hbt : o.b5 = false := by
            cases hx : o.b5
            · rfl
            · exact absurd (hf.h4.2 hx) hb
          have hfl : flN o 5 = flN o 4 := fl_none (o := o) (i := 4) (x := [115, 116, 105, 108, 108]) (by show some (o.b5, _) = _; rw [hbt])
          repeat' (first
            | (refine InN.mk (by decide) (by decide) ?_)
            | (simp only [cb]; cbv))
          simp only [ca]
          refine hN2 (5, u) _ _ ?hx ?hi (show ((7 : Int) - 5).toNat < ((7 : Int) - 4).toNat by decide)
          case hx => (refine Wk.eqz (id) (by first | exact fun i _ j _ e => e | (simp only [List.length_cons, List.length_nil]; decide)) ?_; cbv; (repeat' (first | exact trivial | rfl | assumption | apply And.intro | (simp only [hbin, hcmp, hun, hconv, hnot, hbeq, hmm, hscmp, hsadd, hslen, hsat, heqs, hofNat, binStd, cmpStd, unStd, scmpStd, maxI, Bool.not_eq_true', Bool.not_eq_false', decide_eq_true_eq, decide_eq_false_iff_not, Int.not_lt, Int.not_le, if_true, if_false, Bool.false_eq_true, beq_iff_eq, bne_iff_ne, ne_eq, Bool.not_eq_eq_eq_not, Bool.not_true, Bool.not_false, beq_eq_false_iff_ne, bne_eq_false_iff_eq, Int.ofNat_eq_natCast, Bool.not_not, not_true_eq_false, not_false_eq_true, reduceCtorEq]; first | done | assumption) | exact RowsZ.same (by assumption) (by first | assumption | rfl) | exact FzL.mk rfl rfl rfl (by assumption) (by first | assumption | rfl) (by decide) | (refine RowsZ.one ?_; cbv))))
          case hi => exact ⟨(show (0 : Int) ≤ 5 by decide), (show (5 : Int) ≤ 7 by decide), by rw [hu, hfl]⟩
      · cbv
        have ca : wbin .add .i64 5 1 = 6 := by rw [hbin]; rfl
        by_cases hb : f5 = 1
        · have cb : wcmp .eql f5 1 = true := by rw [hcmp]; simp [cmpStd, hb]
          have hbt := hf.h5.1 hb
          obtain ⟨ua, ea⟩ : ∃ z, z = u ++ (⟨#[32]⟩ : ByteArray) := ⟨_, rfl⟩
          obtain ⟨ub, eb⟩ : ∃ z, z = ua ++ (⟨#[114, 111, 108, 108]⟩ : ByteArray) := ⟨_, rfl⟩
          have hfl : flN o 6 = flN o 5 ++ ([32] ++ [114, 111, 108, 108]) := fl_some (o := o) (i := 5) (by show some (o.b6, _) = _; rw [hbt])
          have hub : ub = bk (L5 ++ flN o 6) := by rw [eb, ea, hu, hfl]; exact (congrArg (· ++ (⟨#[114, 111, 108, 108]⟩ : ByteArray)) (bk_app (L5 ++ flN o 5) [32])).trans ((bk_app _ [114, 111, 108, 108]).trans (by simp only [List.append_assoc]))
          have hua : ua = bk (L5 ++ flN o 5 ++ [32]) := by rw [ea, hu]; exact bk_app _ _
          have za : Sz ua := sz_bk (by have := len_fl o 5; simp only [List.length_append, List.length_cons, List.length_nil]; omega) hua
          have zb : Sz ub := sz_bk (by have := len_fl o 6; rw [List.length_append]; omega) hub
          have cu : wsadd u ⟨#[32]⟩ = ua := by rw [hsadd, ea]
          have cv : wsadd ua ⟨#[114, 111, 108, 108]⟩ = ub := by rw [hsadd, eb]
          repeat' (first
            | (refine InN.mk (by decide) (by decide) ?_)
            | (refine Le.mk (by rw [hslen]; exact Sz.le (by assumption)) ?_; try cbv)
            | (simp only [cu, cv])
            | (simp only [cb]; cbv))
          simp only [ca]
          refine hN2 (6, ub) _ _ ?hx ?hi (show ((7 : Int) - 6).toNat < ((7 : Int) - 5).toNat by decide)
          case hx => (refine Wk.eqz (id) (by first | exact fun i _ j _ e => e | (simp only [List.length_cons, List.length_nil]; decide)) ?_; cbv; (repeat' (first | exact trivial | rfl | assumption | apply And.intro | (simp only [hbin, hcmp, hun, hconv, hnot, hbeq, hmm, hscmp, hsadd, hslen, hsat, heqs, hofNat, binStd, cmpStd, unStd, scmpStd, maxI, Bool.not_eq_true', Bool.not_eq_false', decide_eq_true_eq, decide_eq_false_iff_not, Int.not_lt, Int.not_le, if_true, if_false, Bool.false_eq_true, beq_iff_eq, bne_iff_ne, ne_eq, Bool.not_eq_eq_eq_not, Bool.not_true, Bool.not_false, beq_eq_false_iff_ne, bne_eq_false_iff_eq, Int.ofNat_eq_natCast, Bool.not_not, not_true_eq_false, not_false_eq_true, reduceCtorEq]; first | done | assumption) | exact RowsZ.same (by assumption) (by first | assumption | rfl) | exact FzL.mk rfl rfl rfl (by assumption) (by first | assumption | rfl) (by decide) | (refine RowsZ.one ?_; cbv))))
          case hi => exact ⟨(show (0 : Int) ≤ 6 by decide), (show (6 : Int) ≤ 7 by decide), hub⟩
        · have cb : wcmp .eql f5 1 = false := by rw [hcmp]; simp [cmpStd, hb]
          have hbt : o.b6 = false := by
            cases hx : o.b6
            · rfl
            · exact absurd (hf.h5.2 hx) hb
          have hfl : flN o 6 = flN o 5 := fl_none (o := o) (i := 5) (x := [114, 111, 108, 108]) (by show some (o.b6, _) = _; rw [hbt])
          repeat' (first
            | (refine InN.mk (by decide) (by decide) ?_)
            | (simp only [cb]; cbv))
          simp only [ca]
          refine hN2 (6, u) _ _ ?hx ?hi (show ((7 : Int) - 6).toNat < ((7 : Int) - 5).toNat by decide)
          case hx => (refine Wk.eqz (id) (by first | exact fun i _ j _ e => e | (simp only [List.length_cons, List.length_nil]; decide)) ?_; cbv; (repeat' (first | exact trivial | rfl | assumption | apply And.intro | (simp only [hbin, hcmp, hun, hconv, hnot, hbeq, hmm, hscmp, hsadd, hslen, hsat, heqs, hofNat, binStd, cmpStd, unStd, scmpStd, maxI, Bool.not_eq_true', Bool.not_eq_false', decide_eq_true_eq, decide_eq_false_iff_not, Int.not_lt, Int.not_le, if_true, if_false, Bool.false_eq_true, beq_iff_eq, bne_iff_ne, ne_eq, Bool.not_eq_eq_eq_not, Bool.not_true, Bool.not_false, beq_eq_false_iff_ne, bne_eq_false_iff_eq, Int.ofNat_eq_natCast, Bool.not_not, not_true_eq_false, not_false_eq_true, reduceCtorEq]; first | done | assumption) | exact RowsZ.same (by assumption) (by first | assumption | rfl) | exact FzL.mk rfl rfl rfl (by assumption) (by first | assumption | rfl) (by decide) | (refine RowsZ.one ?_; cbv))))
          case hi => exact ⟨(show (0 : Int) ≤ 6 by decide), (show (6 : Int) ≤ 7 by decide), by rw [hu, hfl]⟩
      · cbv
        have ca : wbin .add .i64 6 1 = 7 := by rw [hbin]; rfl
        by_cases hb : f6 = 1
        · have cb : wcmp .eql f6 1 = true := by rw [hcmp]; simp [cmpStd, hb]
          have hbt := hf.h6.1 hb
          obtain ⟨ua, ea⟩ : ∃ z, z = u ++ (⟨#[32]⟩ : ByteArray) := ⟨_, rfl⟩
          obtain ⟨ub, eb⟩ : ∃ z, z = ua ++ (⟨#[111, 118, 101, 114]⟩ : ByteArray) := ⟨_, rfl⟩
          have hfl : flN o 7 = flN o 6 ++ ([32] ++ [111, 118, 101, 114]) := fl_some (o := o) (i := 6) (by show some (o.b7, _) = _; rw [hbt])
          have hub : ub = bk (L5 ++ flN o 7) := by rw [eb, ea, hu, hfl]; exact (congrArg (· ++ (⟨#[111, 118, 101, 114]⟩ : ByteArray)) (bk_app (L5 ++ flN o 6) [32])).trans ((bk_app _ [111, 118, 101, 114]).trans (by simp only [List.append_assoc]))
          have hua : ua = bk (L5 ++ flN o 6 ++ [32]) := by rw [ea, hu]; exact bk_app _ _
          have za : Sz ua := sz_bk (by have := len_fl o 6; simp only [List.length_append, List.length_cons, List.length_nil]; omega) hua
          have zb : Sz ub := sz_bk (by have := len_fl o 7; rw [List.length_append]; omega) hub
          have cu : wsadd u ⟨#[32]⟩ = ua := by rw [hsadd, ea]
          have cv : wsadd ua ⟨#[111, 118, 101, 114]⟩ = ub := by rw [hsadd, eb]
          repeat' (first
            | (refine InN.mk (by decide) (by decide) ?_)
            | (refine Le.mk (by rw [hslen]; exact Sz.le (by assumption)) ?_; try cbv)
            | (simp only [cu, cv])
            | (simp only [cb]; cbv))
          simp only [ca]
          refine hN2 (7, ub) _ _ ?hx ?hi (show ((7 : Int) - 7).toNat < ((7 : Int) - 6).toNat by decide)
          case hx => (refine Wk.eqz (id) (by first | exact fun i _ j _ e => e | (simp only [List.length_cons, List.length_nil]; decide)) ?_; cbv; (repeat' (first | exact trivial | rfl | assumption | apply And.intro | (simp only [hbin, hcmp, hun, hconv, hnot, hbeq, hmm, hscmp, hsadd, hslen, hsat, heqs, hofNat, binStd, cmpStd, unStd, scmpStd, maxI, Bool.not_eq_true', Bool.not_eq_false', decide_eq_true_eq, decide_eq_false_iff_not, Int.not_lt, Int.not_le, if_true, if_false, Bool.false_eq_true, beq_iff_eq, bne_iff_ne, ne_eq, Bool.not_eq_eq_eq_not, Bool.not_true, Bool.not_false, beq_eq_false_iff_ne, bne_eq_false_iff_eq, Int.ofNat_eq_natCast, Bool.not_not, not_true_eq_false, not_false_eq_true, reduceCtorEq]; first | done | assumption) | exact RowsZ.same (by assumption) (by first | assumption | rfl) | exact FzL.mk rfl rfl rfl (by assumption) (by first | assumption | rfl) (by decide) | (refine RowsZ.one ?_; cbv))))
          case hi => exact ⟨(show (0 : Int) ≤ 7 by decide), (show (7 : Int) ≤ 7 by decide), hub⟩
        · have cb : wcmp .eql f6 1 = false := by rw [hcmp]; simp [cmpStd, hb]
          have hbt : o.b7 = false := by
            cases hx : o.b7
            · rfl
            · exact absurd (hf.h6.2 hx) hb
          have hfl : flN o 7 = flN o 6 := fl_none (o := o) (i := 6) (x := [111, 118, 101, 114]) (by show some (o.b7, _) = _; rw [hbt])
          repeat' (first
            | (refine InN.mk (by decide) (by decide) ?_)
            | (simp only [cb]; cbv))
          simp only [ca]
          refine hN2 (7, u) _ _ ?hx ?hi (show ((7 : Int) - 7).toNat < ((7 : Int) - 6).toNat by decide)
          case hx => (refine Wk.eqz (id) (by first | exact fun i _ j _ e => e | (simp only [List.length_cons, List.length_nil]; decide)) ?_; cbv; (repeat' (first | exact trivial | rfl | assumption | apply And.intro | (simp only [hbin, hcmp, hun, hconv, hnot, hbeq, hmm, hscmp, hsadd, hslen, hsat, heqs, hofNat, binStd, cmpStd, unStd, scmpStd, maxI, Bool.not_eq_true', Bool.not_eq_false', decide_eq_true_eq, decide_eq_false_iff_not, Int.not_lt, Int.not_le, if_true, if_false, Bool.false_eq_true, beq_iff_eq, bne_iff_ne, ne_eq, Bool.not_eq_eq_eq_not, Bool.not_true, Bool.not_false, beq_eq_false_iff_ne, bne_eq_false_iff_eq, Int.ofNat_eq_natCast, Bool.not_not, not_true_eq_false, not_false_eq_true, reduceCtorEq]; first | done | assumption) | exact RowsZ.same (by assumption) (by first | assumption | rfl) | exact FzL.mk rfl rfl rfl (by assumption) (by first | assumption | rfl) (by decide) | (refine RowsZ.one ?_; cbv))))
          case hi => exact ⟨(show (0 : Int) ≤ 7 by decide), (show (7 : Int) ≤ 7 by decide), by rw [hu, hfl]⟩
    · refine hE2 _ _ _ ?_
      cbv
      have e7 : i = 7 := by omega
      subst e7
      exact ⟨_, Vw.same rfl, hR _ (by rw [et', hu]; rfl)⟩
end Go.Proofs.YtikhbgnokkdpeaaDoor

/- A report's line as the document has it, by the engine. Printed by genrtext.py. -/
set_option linter.unusedVariables false
set_option linter.unusedSimpArgs false
namespace Go.Proofs.YtikhbgnokkdpeaaDoor
open Go Go.RowKit Go.Eng
set_option maxRecDepth 100000
set_option maxHeartbeats 8000000 in
theorem e_rtext4 (o : Lr) (h : LrOk o) (hs : LrSmall o) (c m g fit lo hi slo shi est s0 s1 f0 f1 f2 f3 f4 f5 f6 : Int) (rs : List (List Int)) (e1 : o.c = c) (e2 : o.m = m) (e3 : o.g = g) (e4 : o.fit = fit) (e5 : o.lo = lo) (e6 : o.hi = hi) (e7 : o.slo = slo) (e8 : o.shi = shi) (e9 : o.est = est) (e10 : o.s0 = s0) (e11 : o.s1 = s1) (e12 : o.rs = rs) (hf : FlOk o f0 f1 f2 f3 f4 f5 f6) (hm : m = 4) (qs : List (List AV)) (hqs : qs = rs.map (fun r => [AV.list 1 (r.map nxRow)])) (t : ByteArray) (et : t = lineB o) :
    PCalls Tryd.prog 7 [.agg [.int .i64 c, .int .i64 m, .int .i64 g, .int .i64 fit, .int .i64 lo, .int .i64 hi, .int .i64 slo, .int .i64 shi, .int .i64 est, .list 1 qs, .int .i64 s0, .int .i64 s1, .int .i64 f0, .int .i64 f1, .int .i64 f2, .int .i64 f3, .int .i64 f4, .int .i64 f5, .int .i64 f6]] (· = .str t) := by
  have hc : In64 c := e1 ▸ h.c
  have hg : In64 g := e3 ▸ h.g
  have hfit : In64 fit := e4 ▸ h.fit
  have hlo : In64 lo := e5 ▸ h.lo
  have hhi : In64 hi := e6 ▸ h.hi
  have hslo : In64 slo := e7 ▸ h.slo
  have hshi : In64 shi := e8 ▸ h.shi
  have hest : In64 est := e9 ▸ h.est
  have hs0 : In64 s0 := e10 ▸ h.s0
  have hs1 : In64 s1 := e11 ▸ h.s1
  have hrs : ∀ r, r ∈ rs → ∀ n, n ∈ r → In64 n := e12 ▸ h.rs
  have huq : Up0 qs := by rw [hqs]; exact up_map (f := fun r => [AV.list 1 (r.map nxRow)]) (fun d => Up0.one (up_nx d) rfl) rs
  obtain ⟨ways, eways⟩ : ∃ w, w = if g = 0 then [] else waysL rs := ⟨_, rfl⟩
  have nways : ways.length ≤ 22001000 := by
    rw [eways]; split
    · simp
    · rename_i hg0; exact len_ways hrs (by have := hs.n (by rw [e3]; exact hg0); rw [e12] at this; exact this) (by have := hs.r (by rw [e3]; exact hg0); rw [e12] at this; exact this)
  have nm : (modeL m).length ≤ 9 := by unfold modeL; (repeat' split) <;> simp
  obtain ⟨Lt0, eLt0⟩ : ∃ z, z = Lib.itoa c := ⟨_, rfl⟩
  obtain ⟨t0, et0⟩ : ∃ z, z = bk Lt0 := ⟨_, rfl⟩
  have nt0 : Lt0.length ≤ 21 := by rw [eLt0]; exact len_itoa hc
  obtain ⟨bm, ebm⟩ : ∃ z, z = bk (modeL m) := ⟨_, rfl⟩
  obtain ⟨bg, ebg⟩ : ∃ z, z = bk (Lib.itoa g) := ⟨_, rfl⟩
  obtain ⟨bp, ebp⟩ : ∃ z, z = bk (endsL lo hi) := ⟨_, rfl⟩
  obtain ⟨be, ebe⟩ : ∃ z, z = bk (Lib.itoa est) := ⟨_, rfl⟩
  obtain ⟨bw, ebw⟩ : ∃ z, z = bk ways := ⟨_, rfl⟩
  obtain ⟨bs, ebs⟩ : ∃ z, z = bk (endsL slo shi) := ⟨_, rfl⟩
  obtain ⟨bf, ebf⟩ : ∃ z, z = bk (Lib.itoa fit) := ⟨_, rfl⟩
  obtain ⟨bs0, ebs0⟩ : ∃ z, z = bk (Lib.itoa s0) := ⟨_, rfl⟩
  obtain ⟨bs1, ebs1⟩ : ∃ z, z = bk (Lib.itoa s1) := ⟨_, rfl⟩
  have d0 := e_dig c hc.1 hc.2 t0 (by rw [et0, eLt0]; rfl)
  have dg := e_dig g hg.1 hg.2 bg ebg
  have dp := e_rends lo hi hlo hhi bp ebp
  have de := e_dig est hest.1 hest.2 be ebe
  have ds := e_rends slo shi hslo hshi bs ebs
  have df := e_dig fit hfit.1 hfit.2 bf ebf
  have ds0 := e_dig s0 hs0.1 hs0.2 bs0 ebs0
  have ds1 := e_dig s1 hs1.1 hs1.2 bs1 ebs1
  have dw : g ≠ 0 → PCalls Tryd.prog 16 [.list 1 qs] (· = .str bw) := fun hg0 => e_ways rs hrs (by have := hs.n (by rw [e3]; exact hg0); rw [e12] at this; exact this) (by have := hs.r (by rw [e3]; exact hg0); rw [e12] at this; exact this) qs hqs bw (by rw [ebw, eways, if_neg hg0])
  have nitoa : ∀ n, In64 n → (Lib.itoa n).length ≤ 21 := fun n hn => len_itoa hn
  obtain ⟨Lt1, eLt1⟩ : ∃ z : List UInt8, z = Lt0 ++ [32] := ⟨_, rfl⟩
  have nt1 : Lt1.length ≤ 22 := by rw [eLt1, List.length_append]; simp only [List.length_cons, List.length_nil]; omega
  obtain ⟨t1, et1⟩ : ∃ z, z = bk Lt1 := ⟨_, rfl⟩
  have zt1 : Sz t1 := sz_bk (by omega) et1
  have Ft1 : t0 ++ (⟨#[32]⟩ : ByteArray) = t1 := by rw [et0, et1, eLt1]; exact bk_app _ _
  obtain ⟨Lt2, eLt2⟩ : ∃ z : List UInt8, z = Lt1 ++ modeL m := ⟨_, rfl⟩
  have nt2 : Lt2.length ≤ 31 := by rw [eLt2, List.length_append]; omega
  obtain ⟨t2, et2⟩ : ∃ z, z = bk Lt2 := ⟨_, rfl⟩
  have zt2 : Sz t2 := sz_bk (by omega) et2
  have Ft2 : t1 ++ bm = t2 := by rw [et1, ebm, et2, eLt2]; exact bk_app _ _
  obtain ⟨Lp1, eLp1⟩ : ∃ z : List UInt8, z = Lt2 ++ [32, 103, 114, 111, 117, 112, 32] := ⟨_, rfl⟩
  have np1 : Lp1.length ≤ 38 := by rw [eLp1, List.length_append]; simp only [List.length_cons, List.length_nil]; omega
  obtain ⟨p1, ep1⟩ : ∃ z, z = bk Lp1 := ⟨_, rfl⟩
  have zp1 : Sz p1 := sz_bk (by omega) ep1
  have Fp1 : t2 ++ (⟨#[32, 103, 114, 111, 117, 112, 32]⟩ : ByteArray) = p1 := by rw [et2, ep1, eLp1]; exact bk_app _ _
  obtain ⟨Lp2, eLp2⟩ : ∃ z : List UInt8, z = Lp1 ++ Lib.itoa g := ⟨_, rfl⟩
  have np2 : Lp2.length ≤ 59 := by rw [eLp2, List.length_append]; have := nitoa g hg; omega
  obtain ⟨p2, ep2⟩ : ∃ z, z = bk Lp2 := ⟨_, rfl⟩
  have zp2 : Sz p2 := sz_bk (by omega) ep2
  have Fp2 : p1 ++ bg = p2 := by rw [ep1, ebg, ep2, eLp2]; exact bk_app _ _
  obtain ⟨Lp3, eLp3⟩ : ∃ z : List UInt8, z = Lp2 ++ [32, 97, 116, 32] := ⟨_, rfl⟩
  have np3 : Lp3.length ≤ 63 := by rw [eLp3, List.length_append]; simp only [List.length_cons, List.length_nil]; omega
  obtain ⟨p3, ep3⟩ : ∃ z, z = bk Lp3 := ⟨_, rfl⟩
  have zp3 : Sz p3 := sz_bk (by omega) ep3
  have Fp3 : p2 ++ (⟨#[32, 97, 116, 32]⟩ : ByteArray) = p3 := by rw [ep2, ep3, eLp3]; exact bk_app _ _
  obtain ⟨Lp4, eLp4⟩ : ∃ z : List UInt8, z = Lp3 ++ endsL lo hi := ⟨_, rfl⟩
  have np4 : Lp4.length ≤ 107 := by rw [eLp4, List.length_append]; have := len_ends hlo hhi; omega
  obtain ⟨p4, ep4⟩ : ∃ z, z = bk Lp4 := ⟨_, rfl⟩
  have zp4 : Sz p4 := sz_bk (by omega) ep4
  have Fp4 : p3 ++ bp = p4 := by rw [ep3, ebp, ep4, eLp4]; exact bk_app _ _
  obtain ⟨Lp5, eLp5⟩ : ∃ z : List UInt8, z = Lp4 ++ [32, 101, 115, 116, 32] := ⟨_, rfl⟩
  have np5 : Lp5.length ≤ 112 := by rw [eLp5, List.length_append]; simp only [List.length_cons, List.length_nil]; omega
  obtain ⟨p5, ep5⟩ : ∃ z, z = bk Lp5 := ⟨_, rfl⟩
  have zp5 : Sz p5 := sz_bk (by omega) ep5
  have Fp5 : p4 ++ (⟨#[32, 101, 115, 116, 32]⟩ : ByteArray) = p5 := by rw [ep4, ep5, eLp5]; exact bk_app _ _
  obtain ⟨Lp6, eLp6⟩ : ∃ z : List UInt8, z = Lp5 ++ Lib.itoa est := ⟨_, rfl⟩
  have np6 : Lp6.length ≤ 133 := by rw [eLp6, List.length_append]; have := nitoa est hest; omega
  obtain ⟨p6, ep6⟩ : ∃ z, z = bk Lp6 := ⟨_, rfl⟩
  have zp6 : Sz p6 := sz_bk (by omega) ep6
  have Fp6 : p5 ++ be = p6 := by rw [ep5, ebe, ep6, eLp6]; exact bk_app _ _
  obtain ⟨Lp7, eLp7⟩ : ∃ z : List UInt8, z = Lp6 ++ [32, 119, 97, 121, 115, 32] := ⟨_, rfl⟩
  have np7 : Lp7.length ≤ 139 := by rw [eLp7, List.length_append]; simp only [List.length_cons, List.length_nil]; omega
  obtain ⟨p7, ep7⟩ : ∃ z, z = bk Lp7 := ⟨_, rfl⟩
  have zp7 : Sz p7 := sz_bk (by omega) ep7
  have Fp7 : p6 ++ (⟨#[32, 119, 97, 121, 115, 32]⟩ : ByteArray) = p7 := by rw [ep6, ep7, eLp7]; exact bk_app _ _
  obtain ⟨Lp8, eLp8⟩ : ∃ z : List UInt8, z = Lp7 ++ ways := ⟨_, rfl⟩
  have np8 : Lp8.length ≤ 22001139 := by rw [eLp8, List.length_append]; omega
  obtain ⟨p8, ep8⟩ : ∃ z, z = bk Lp8 := ⟨_, rfl⟩
  have zp8 : Sz p8 := sz_bk (by omega) ep8
  have Fp8 : p7 ++ bw = p8 := by rw [ep7, ebw, ep8, eLp8]; exact bk_app _ _
  obtain ⟨Lt3, eLt3⟩ : ∃ z, z = if g = 0 then Lt2 else Lp8 := ⟨_, rfl⟩
  have nt3 : Lt3.length ≤ 22002000 := by rw [eLt3]; split <;> omega
  obtain ⟨t3, et3⟩ : ∃ z, z = bk Lt3 := ⟨_, rfl⟩
  obtain ⟨Lu1, eLu1⟩ : ∃ z : List UInt8, z = Lt3 ++ [32, 115, 112, 101, 101, 100, 32] := ⟨_, rfl⟩
  have nu1 : Lu1.length ≤ 22002007 := by rw [eLu1, List.length_append]; simp only [List.length_cons, List.length_nil]; omega
  obtain ⟨u1, eu1⟩ : ∃ z, z = bk Lu1 := ⟨_, rfl⟩
  have zu1 : Sz u1 := sz_bk (by omega) eu1
  have Fu1 : t3 ++ (⟨#[32, 115, 112, 101, 101, 100, 32]⟩ : ByteArray) = u1 := by rw [et3, eu1, eLu1]; exact bk_app _ _
  obtain ⟨Lu2, eLu2⟩ : ∃ z : List UInt8, z = Lu1 ++ endsL slo shi := ⟨_, rfl⟩
  have nu2 : Lu2.length ≤ 22002051 := by rw [eLu2, List.length_append]; have := len_ends hslo hshi; omega
  obtain ⟨u2, eu2⟩ : ∃ z, z = bk Lu2 := ⟨_, rfl⟩
  have zu2 : Sz u2 := sz_bk (by omega) eu2
  have Fu2 : u1 ++ bs = u2 := by rw [eu1, ebs, eu2, eLu2]; exact bk_app _ _
  obtain ⟨Lu3, eLu3⟩ : ∃ z : List UInt8, z = Lu2 ++ [32, 102, 105, 116, 32] := ⟨_, rfl⟩
  have nu3 : Lu3.length ≤ 22002056 := by rw [eLu3, List.length_append]; simp only [List.length_cons, List.length_nil]; omega
  obtain ⟨u3, eu3⟩ : ∃ z, z = bk Lu3 := ⟨_, rfl⟩
  have zu3 : Sz u3 := sz_bk (by omega) eu3
  have Fu3 : u2 ++ (⟨#[32, 102, 105, 116, 32]⟩ : ByteArray) = u3 := by rw [eu2, eu3, eLu3]; exact bk_app _ _
  obtain ⟨Lu4, eLu4⟩ : ∃ z : List UInt8, z = Lu3 ++ Lib.itoa fit := ⟨_, rfl⟩
  have nu4 : Lu4.length ≤ 22002077 := by rw [eLu4, List.length_append]; have := nitoa fit hfit; omega
  obtain ⟨u4, eu4⟩ : ∃ z, z = bk Lu4 := ⟨_, rfl⟩
  have zu4 : Sz u4 := sz_bk (by omega) eu4
  have Fu4 : u3 ++ bf = u4 := by rw [eu3, ebf, eu4, eLu4]; exact bk_app _ _
  obtain ⟨Lv1, eLv1⟩ : ∃ z : List UInt8, z = Lu4 ++ [32, 115, 108, 105, 112, 32] := ⟨_, rfl⟩
  have nv1 : Lv1.length ≤ 22002083 := by rw [eLv1, List.length_append]; simp only [List.length_cons, List.length_nil]; omega
  obtain ⟨v1, ev1⟩ : ∃ z, z = bk Lv1 := ⟨_, rfl⟩
  have zv1 : Sz v1 := sz_bk (by omega) ev1
  have Fv1 : u4 ++ (⟨#[32, 115, 108, 105, 112, 32]⟩ : ByteArray) = v1 := by rw [eu4, ev1, eLv1]; exact bk_app _ _
  obtain ⟨Lv2, eLv2⟩ : ∃ z : List UInt8, z = Lv1 ++ Lib.itoa s0 := ⟨_, rfl⟩
  have nv2 : Lv2.length ≤ 22002104 := by rw [eLv2, List.length_append]; have := nitoa s0 hs0; omega
  obtain ⟨v2, ev2⟩ : ∃ z, z = bk Lv2 := ⟨_, rfl⟩
  have zv2 : Sz v2 := sz_bk (by omega) ev2
  have Fv2 : v1 ++ bs0 = v2 := by rw [ev1, ebs0, ev2, eLv2]; exact bk_app _ _
  obtain ⟨Lv3, eLv3⟩ : ∃ z : List UInt8, z = Lv2 ++ [32] := ⟨_, rfl⟩
  have nv3 : Lv3.length ≤ 22002105 := by rw [eLv3, List.length_append]; simp only [List.length_cons, List.length_nil]; omega
  obtain ⟨v3, ev3⟩ : ∃ z, z = bk Lv3 := ⟨_, rfl⟩
  have zv3 : Sz v3 := sz_bk (by omega) ev3
  have Fv3 : v2 ++ (⟨#[32]⟩ : ByteArray) = v3 := by rw [ev2, ev3, eLv3]; exact bk_app _ _
  obtain ⟨Lv4, eLv4⟩ : ∃ z : List UInt8, z = Lv3 ++ Lib.itoa s1 := ⟨_, rfl⟩
  have nv4 : Lv4.length ≤ 22002126 := by rw [eLv4, List.length_append]; have := nitoa s1 hs1; omega
  obtain ⟨v4, ev4⟩ : ∃ z, z = bk Lv4 := ⟨_, rfl⟩
  have zv4 : Sz v4 := sz_bk (by omega) ev4
  have Fv4 : v3 ++ bs1 = v4 := by rw [ev3, ebs1, ev4, eLv4]; exact bk_app _ _
  obtain ⟨L5, eL5⟩ : ∃ z, z = if s0 = 0 ∧ s1 = 0 then Lu4 else Lv4 := ⟨_, rfl⟩
  have n5 : L5.length ≤ 22003000 := by rw [eL5]; split <;> omega
  obtain ⟨t5, et5⟩ : ∃ z, z = bk L5 := ⟨_, rfl⟩
  have hL5 : L5 = l4 o ++ jt (slipL o) := by
    unfold l4 slipL placedL
    rw [e1, e2, e3, e4, e5, e6, e7, e8, e9, e10, e11, e12, eL5, eLv4, eLv3, eLv2, eLv1, eLu4, eLu3, eLu2, eLu1, eLt3, eLp8, eLp7, eLp6, eLp5, eLp4, eLp3, eLp2, eLp1, eLt2, eLt1, eLt0, eways]
    by_cases hg0 : g = 0 <;> by_cases hz : s0 = 0 ∧ s1 = 0
    · rw [if_pos hg0, if_pos hz, if_pos hg0, if_pos hz]
      simp only [jt_cons, jt_nil, List.append_assoc, List.cons_append, List.nil_append, List.append_nil]
    · rw [if_pos hg0, if_neg hz, if_pos hg0, if_neg hz]
      simp only [jt_cons, jt_nil, List.append_assoc, List.cons_append, List.nil_append, List.append_nil]
    · rw [if_neg hg0, if_neg hg0, if_pos hz, if_neg hg0, if_pos hz]
      simp only [jt_cons, jt_nil, List.append_assoc, List.cons_append, List.nil_append, List.append_nil]
    · rw [if_neg hg0, if_neg hg0, if_neg hz, if_neg hg0, if_neg hz]
      simp only [jt_cons, jt_nil, List.append_assoc, List.cons_append, List.nil_append, List.append_nil]
  have g0 : g = 0 → t2 = t3 := fun e => by rw [et2, et3, eLt3, if_pos e]
  have g1 : g ≠ 0 → p8 = t3 := fun e => by rw [ep8, et3, eLt3, if_neg e]
  have k0 : (s0 = 0 ∧ s1 = 0) → u4 = t5 := fun e => by rw [eu4, et5, eL5, if_pos e]
  have k1 : ¬ (s0 = 0 ∧ s1 = 0) → v4 = t5 := fun e => by rw [ev4, et5, eL5, if_neg e]
  have et' : t = bk (L5 ++ flN o 7) := by rw [et, line_jt, hL5]; rfl
  have bm0 : bm = ⟨#[102, 97, 105, 108, 101, 100]⟩ := by rw [ebm, hm]; rfl
  rw [bm0] at Ft2
  clear eLt1 nt1 et1 eLt2 nt2 et2 eLp1 np1 ep1 eLp2 np2 ep2 eLp3 np3 ep3 eLp4 np4 ep4 eLp5 np5 ep5 eLp6 np6 ep6 eLp7 np7 ep7 eLp8 np8 ep8 eLu1 nu1 eu1 eLu2 nu2 eu2 eLu3 nu3 eu3 eLu4 nu4 eu4 eLv1 nv1 ev1 eLv2 nv2 ev2 eLv3 nv3 ev3 eLv4 nv4 ev4 eLt3 nt3 et3 et eLt0 et0 nt0 ebm ebg ebp ebe ebw ebs ebf ebs0 ebs1 nm nitoa eways nways hqs hrs hs h hL5
  subst hm
  (refine PCalls.ofY Tryd.func7 (by kernel_rfl) (by kernel_rfl) fun w hw R hR => ?_); (obtain ⟨wbin, wcmp, wun, wconv, wnot, wbeq, wmm, wscmp, wsadd, wslen, wsat, weqs, wlen, wnlen, wofNat, wtake, wdrop, wapp, wzero, wnat⟩ := w); (have hbin : wbin = binStd := congrArg Prims.bin hw); (have hcmp : wcmp = cmpStd := congrArg Prims.cmp hw); (have hun : wun = unStd := congrArg Prims.un hw); (have hconv : wconv = fun k n => k.wrap n := congrArg Prims.conv hw); (have hnot : wnot = fun b => !b := congrArg Prims.not hw); (have hbeq : wbeq = fun a b => a == b := congrArg Prims.beq hw); (have hmm : wmm = maxI := congrArg Prims.mm hw); (have hscmp : wscmp = scmpStd := congrArg Prims.scmp hw); (have hsadd : wsadd = fun x y => x ++ y := congrArg Prims.sadd hw); (have hslen : wslen = fun s => (s.size : Int) := congrArg Prims.slen hw); (have hsat : wsat = std.sat := congrArg Prims.sat hw); (have heqs : weqs = fun a b os => (eqOffs a b os).getD false := congrArg Prims.eqs hw); (have hlen : wlen = fun es => (es.length : Int) := congrArg Prims.len hw); (have hnlen : wnlen = fun es => es.length := congrArg Prims.nlen hw); (have hofNat : wofNat = (fun n : Nat => (n : Int)) := congrArg Prims.ofNat hw); (have htake : wtake = fun es b => es.take b.toNat := congrArg Prims.take hw); (have hdrop : wdrop = fun es a => es.drop a.toNat := congrArg Prims.drop hw); (have happ : wapp = fun a b => a ++ b := congrArg Prims.app hw); (have hzero : wzero = fun n z => List.replicate n.toNat z := congrArg Prims.zero hw); (have hnat : wnat = fun n => n.toNat := congrArg Prims.nat hw); (conv => arg 2; cbv); (generalize hP : Tryd.prog = P); cbv
  have st1 : wsadd t0 (⟨#[32]⟩ : ByteArray) = t1 := by rw [hsadd]; exact Ft1
  have st2 : wsadd t1 ⟨#[102, 97, 105, 108, 101, 100]⟩ = t2 := by rw [hsadd]; exact Ft2
  have sp1 : wsadd t2 (⟨#[32, 103, 114, 111, 117, 112, 32]⟩ : ByteArray) = p1 := by rw [hsadd]; exact Fp1
  have sp2 : wsadd p1 bg = p2 := by rw [hsadd]; exact Fp2
  have sp3 : wsadd p2 (⟨#[32, 97, 116, 32]⟩ : ByteArray) = p3 := by rw [hsadd]; exact Fp3
  have sp4 : wsadd p3 bp = p4 := by rw [hsadd]; exact Fp4
  have sp5 : wsadd p4 (⟨#[32, 101, 115, 116, 32]⟩ : ByteArray) = p5 := by rw [hsadd]; exact Fp5
  have sp6 : wsadd p5 be = p6 := by rw [hsadd]; exact Fp6
  have sp7 : wsadd p6 (⟨#[32, 119, 97, 121, 115, 32]⟩ : ByteArray) = p7 := by rw [hsadd]; exact Fp7
  have sp8 : wsadd p7 bw = p8 := by rw [hsadd]; exact Fp8
  have su1 : wsadd t3 (⟨#[32, 115, 112, 101, 101, 100, 32]⟩ : ByteArray) = u1 := by rw [hsadd]; exact Fu1
  have su2 : wsadd u1 bs = u2 := by rw [hsadd]; exact Fu2
  have su3 : wsadd u2 (⟨#[32, 102, 105, 116, 32]⟩ : ByteArray) = u3 := by rw [hsadd]; exact Fu3
  have su4 : wsadd u3 bf = u4 := by rw [hsadd]; exact Fu4
  have sv1 : wsadd u4 (⟨#[32, 115, 108, 105, 112, 32]⟩ : ByteArray) = v1 := by rw [hsadd]; exact Fv1
  have sv2 : wsadd v1 bs0 = v2 := by rw [hsadd]; exact Fv2
  have sv3 : wsadd v2 (⟨#[32]⟩ : ByteArray) = v3 := by rw [hsadd]; exact Fv3
  have sv4 : wsadd v3 bs1 = v4 := by rw [hsadd]; exact Fv4
  clear Ft1 Ft2 Fp1 Fp2 Fp3 Fp4 Fp5 Fp6 Fp7 Fp8 Fu1 Fu2 Fu3 Fu4 Fv1 Fv2 Fv3 Fv4
  have m1 : wcmp .geq 4 1 = true := by rw [hcmp]; rfl
  have m2 : wcmp .leq 4 4 = true := by rw [hcmp]; rfl
  have cases : (s0 = 0 ∧ s1 = 0) ∨ (s0 = 0 ∧ ¬ s1 = 0) ∨ ¬ s0 = 0 := by omega
  rcases Classical.em (g = 0) with hg0 | hg0 <;> rcases cases with hz | hz | hz
  all_goals
    first
      | (have gg := g0 hg0)
      | (have gg := g1 hg0)
    first
      | (have cg : wcmp .neq g 0 = false := by (rw [hcmp]; simp [cmpStd, hg0]; done))
      | (have cg : wcmp .neq g 0 = true := by (rw [hcmp]; simp [cmpStd, hg0]; done))
    first
      | (have kk := k0 hz)
      | (have kk := k1 (by omega))
    first
      | (have cz0 : wcmp .neq s0 0 = false := by (rw [hcmp]; simp [cmpStd, hz]; done))
      | (have cz0 : wcmp .neq s0 0 = true := by (rw [hcmp]; simp [cmpStd, hz]; done))
    first
      | (have cz1 : wcmp .neq s1 0 = false := by (rw [hcmp]; simp [cmpStd, hz]; done))
      | (have cz1 : wcmp .neq s1 0 = true := by (rw [hcmp]; simp [cmpStd, hz]; done))
      | (have cz1 : wnot (wnot true) = true := by (rw [hnot]; rfl))
    try (have dw := dw hg0)
    repeat' (first
      | (refine InN.mk (by decide) (by decide) ?_)
      | (refine Le.mk (by rw [hslen]; exact Sz.le (by assumption)) ?_)
      | (simp only [st1, st2, sp1, sp2, sp3, sp4, sp5, sp6, sp7, sp8, su1, su2, su3, su4, sv1, sv2, sv3, sv4])
      | (simp only [gg])
      | (simp only [kk])
      | (simp only [cg]; cbv)
      | (simp only [cz0]; cbv)
      | (simp only [cz1]; cbv)
      | (simp only [m1]; cbv)
      | (simp only [m2]; cbv)
      | (refine Call.stepE (by rw [← hP]; exact d0) rfl ?_; cbv)
      | (refine QCal.stepE (by rw [← hP]; exact dg) rfl ?_; cbv)
      | (refine QCal.stepE (by rw [← hP]; exact dp) rfl ?_; cbv)
      | (refine QCal.stepE (by rw [← hP]; exact de) rfl ?_; cbv)
      | (refine QCal.stepE (by rw [← hP]; exact dw) (by exact Up0.one huq rfl) ?_; cbv)
      | (refine QCal.stepE (by rw [← hP]; exact ds) rfl ?_; cbv)
      | (refine QCal.stepE (by rw [← hP]; exact df) rfl ?_; cbv)
      | (refine QCal.stepE (by rw [← hP]; exact ds0) rfl ?_; cbv)
      | (refine QCal.stepE (by rw [← hP]; exact ds1) rfl ?_; cbv))
    refine Loop.data hw (S := Int × ByteArray) (fun s => fr 101 [(1, .ref 0 19 0 0), (4, .ref 2 7 0 0), (5, .str s.2), (6, .int .i64 s.1)])
      (fun s => [.live 19 [[.int .i64 c, .int .i64 4, .int .i64 g, .int .i64 fit, .int .i64 lo, .int .i64 hi, .int .i64 slo, .int .i64 shi, .int .i64 est, .list 1 qs, .int .i64 s0, .int .i64 s1, .int .i64 f0, .int .i64 f1, .int .i64 f2, .int .i64 f3, .int .i64 f4, .int .i64 f5, .int .i64 f6]], .live 5 [[.str ⟨#[]⟩, .str ⟨#[117, 110, 108, 111, 99, 97, 116, 101, 100]⟩, .str ⟨#[108, 111, 99, 97, 116, 101, 100]⟩, .str ⟨#[100, 101, 103, 114, 97, 100, 101, 100]⟩, .str ⟨#[102, 97, 105, 108, 101, 100]⟩]], .live 7 [[.str ⟨#[99, 108, 101, 97, 110]⟩, .str ⟨#[99, 111, 110, 102, 108, 105, 99, 116]⟩, .str ⟨#[97, 99, 99, 101, 112, 116, 101, 100]⟩, .str ⟨#[102, 97, 117, 108, 116]⟩, .str ⟨#[115, 116, 105, 108, 108]⟩, .str ⟨#[114, 111, 108, 108]⟩, .str ⟨#[111, 118, 101, 114]⟩]]])
      (fun s => 0 ≤ s.1 ∧ s.1 ≤ 7 ∧ s.2 = bk (L5 ++ flN o s.1)) (fun s => (7 - s.1).toNat) (0, t5) (by (refine Wk.eqz (id) (by first | exact fun i _ j _ e => e | (simp only [List.length_cons, List.length_nil]; decide)) ?_; cbv; (repeat' (first | exact trivial | rfl | assumption | apply And.intro | (simp only [hbin, hcmp, hun, hconv, hnot, hbeq, hmm, hscmp, hsadd, hslen, hsat, heqs, hofNat, binStd, cmpStd, unStd, scmpStd, maxI, Bool.not_eq_true', Bool.not_eq_false', decide_eq_true_eq, decide_eq_false_iff_not, Int.not_lt, Int.not_le, if_true, if_false, Bool.false_eq_true, beq_iff_eq, bne_iff_ne, ne_eq, Bool.not_eq_eq_eq_not, Bool.not_true, Bool.not_false, beq_eq_false_iff_ne, bne_eq_false_iff_eq, Int.ofNat_eq_natCast, Bool.not_not, not_true_eq_false, not_false_eq_true, reduceCtorEq]; first | done | assumption) | exact RowsZ.same (by assumption) (by first | assumption | rfl) | exact FzL.mk rfl rfl rfl (by assumption) (by first | assumption | rfl) (by decide) | (refine RowsZ.one ?_; cbv))))) ⟨Int.le_refl 0, (show (0 : Int) ≤ 7 by decide), by rw [et5]; simp [flN, saidL, jt_nil]⟩ ?_
    rintro ⟨i, u⟩ hinv Q2 hN2 hE2 hR2
    have hinv : 0 ≤ i ∧ i ≤ 7 ∧ u = bk (L5 ++ flN o i) := hinv
    cbv
    obtain ⟨hi0, hi7, hu⟩ := hinv
    (split <;> rename_i hc <;> (try (simp only [hbin, hcmp, hun, hconv, hnot, hbeq, hmm, hscmp, hsadd, hslen, hsat, heqs, hofNat, binStd, cmpStd, unStd, scmpStd, maxI, Bool.not_eq_true', Bool.not_eq_false', decide_eq_true_eq, decide_eq_false_iff_not, Int.not_lt, Int.not_le, if_true, if_false, Bool.false_eq_true, beq_iff_eq, bne_iff_ne, ne_eq, Bool.not_eq_eq_eq_not, Bool.not_true, Bool.not_false, beq_eq_false_iff_ne, bne_eq_false_iff_eq, Int.ofNat_eq_natCast, Bool.not_not, not_true_eq_false, not_false_eq_true, reduceCtorEq] at hc)) <;> (try cbv))
    · have hi : i = 0 ∨ i = 1 ∨ i = 2 ∨ i = 3 ∨ i = 4 ∨ i = 5 ∨ i = 6 := by omega
      rcases hi with rfl | rfl | rfl | rfl | rfl | rfl | rfl
      · cbv
        have ca : wbin .add .i64 0 1 = 1 := by rw [hbin]; rfl
        by_cases hb : f0 = 1
        · have cb : wcmp .eql f0 1 = true := by rw [hcmp]; simp [cmpStd, hb]
          have hbt := hf.h0.1 hb
          obtain ⟨ua, ea⟩ : ∃ z, z = u ++ (⟨#[32]⟩ : ByteArray) := ⟨_, rfl⟩
          obtain ⟨ub, eb⟩ : ∃ z, z = ua ++ (⟨#[99, 108, 101, 97, 110]⟩ : ByteArray) := ⟨_, rfl⟩
          have hfl : flN o 1 = flN o 0 ++ ([32] ++ [99, 108, 101, 97, 110]) := fl_some (o := o) (i := 0) (by show some (o.b1, _) = _; rw [hbt])
          have hub : ub = bk (L5 ++ flN o 1) := by rw [eb, ea, hu, hfl]; exact (congrArg (· ++ (⟨#[99, 108, 101, 97, 110]⟩ : ByteArray)) (bk_app (L5 ++ flN o 0) [32])).trans ((bk_app _ [99, 108, 101, 97, 110]).trans (by simp only [List.append_assoc]))
          have hua : ua = bk (L5 ++ flN o 0 ++ [32]) := by rw [ea, hu]; exact bk_app _ _
          have za : Sz ua := sz_bk (by have := len_fl o 0; simp only [List.length_append, List.length_cons, List.length_nil]; omega) hua
          have zb : Sz ub := sz_bk (by have := len_fl o 1; rw [List.length_append]; omega) hub
          have cu : wsadd u ⟨#[32]⟩ = ua := by rw [hsadd, ea]
          have cv : wsadd ua ⟨#[99, 108, 101, 97, 110]⟩ = ub := by rw [hsadd, eb]
          repeat' (first
            | (refine InN.mk (by decide) (by decide) ?_)
            | (refine Le.mk (by rw [hslen]; exact Sz.le (by assumption)) ?_; try cbv)
            | (simp only [cu, cv])
            | (simp only [cb]; cbv))
          simp only [ca]
          refine hN2 (1, ub) _ _ ?hx ?hi (show ((7 : Int) - 1).toNat < ((7 : Int) - 0).toNat by decide)
          case hx => (refine Wk.eqz (id) (by first | exact fun i _ j _ e => e | (simp only [List.length_cons, List.length_nil]; decide)) ?_; cbv; (repeat' (first | exact trivial | rfl | assumption | apply And.intro | (simp only [hbin, hcmp, hun, hconv, hnot, hbeq, hmm, hscmp, hsadd, hslen, hsat, heqs, hofNat, binStd, cmpStd, unStd, scmpStd, maxI, Bool.not_eq_true', Bool.not_eq_false', decide_eq_true_eq, decide_eq_false_iff_not, Int.not_lt, Int.not_le, if_true, if_false, Bool.false_eq_true, beq_iff_eq, bne_iff_ne, ne_eq, Bool.not_eq_eq_eq_not, Bool.not_true, Bool.not_false, beq_eq_false_iff_ne, bne_eq_false_iff_eq, Int.ofNat_eq_natCast, Bool.not_not, not_true_eq_false, not_false_eq_true, reduceCtorEq]; first | done | assumption) | exact RowsZ.same (by assumption) (by first | assumption | rfl) | exact FzL.mk rfl rfl rfl (by assumption) (by first | assumption | rfl) (by decide) | (refine RowsZ.one ?_; cbv))))
          case hi => exact ⟨(show (0 : Int) ≤ 1 by decide), (show (1 : Int) ≤ 7 by decide), hub⟩
        · have cb : wcmp .eql f0 1 = false := by rw [hcmp]; simp [cmpStd, hb]
          have hbt : o.b1 = false := by
            cases hx : o.b1
            · rfl
            · exact absurd (hf.h0.2 hx) hb
          have hfl : flN o 1 = flN o 0 := fl_none (o := o) (i := 0) (x := [99, 108, 101, 97, 110]) (by show some (o.b1, _) = _; rw [hbt])
          repeat' (first
            | (refine InN.mk (by decide) (by decide) ?_)
            | (simp only [cb]; cbv))
          simp only [ca]
          refine hN2 (1, u) _ _ ?hx ?hi (show ((7 : Int) - 1).toNat < ((7 : Int) - 0).toNat by decide)
          case hx => (refine Wk.eqz (id) (by first | exact fun i _ j _ e => e | (simp only [List.length_cons, List.length_nil]; decide)) ?_; cbv; (repeat' (first | exact trivial | rfl | assumption | apply And.intro | (simp only [hbin, hcmp, hun, hconv, hnot, hbeq, hmm, hscmp, hsadd, hslen, hsat, heqs, hofNat, binStd, cmpStd, unStd, scmpStd, maxI, Bool.not_eq_true', Bool.not_eq_false', decide_eq_true_eq, decide_eq_false_iff_not, Int.not_lt, Int.not_le, if_true, if_false, Bool.false_eq_true, beq_iff_eq, bne_iff_ne, ne_eq, Bool.not_eq_eq_eq_not, Bool.not_true, Bool.not_false, beq_eq_false_iff_ne, bne_eq_false_iff_eq, Int.ofNat_eq_natCast, Bool.not_not, not_true_eq_false, not_false_eq_true, reduceCtorEq]; first | done | assumption) | exact RowsZ.same (by assumption) (by first | assumption | rfl) | exact FzL.mk rfl rfl rfl (by assumption) (by first | assumption | rfl) (by decide) | (refine RowsZ.one ?_; cbv))))
          case hi => exact ⟨(show (0 : Int) ≤ 1 by decide), (show (1 : Int) ≤ 7 by decide), by rw [hu, hfl]⟩
      · cbv
        have ca : wbin .add .i64 1 1 = 2 := by rw [hbin]; rfl
        by_cases hb : f1 = 1
        · have cb : wcmp .eql f1 1 = true := by rw [hcmp]; simp [cmpStd, hb]
          have hbt := hf.h1.1 hb
          obtain ⟨ua, ea⟩ : ∃ z, z = u ++ (⟨#[32]⟩ : ByteArray) := ⟨_, rfl⟩
          obtain ⟨ub, eb⟩ : ∃ z, z = ua ++ (⟨#[99, 111, 110, 102, 108, 105, 99, 116]⟩ : ByteArray) := ⟨_, rfl⟩
          have hfl : flN o 2 = flN o 1 ++ ([32] ++ [99, 111, 110, 102, 108, 105, 99, 116]) := fl_some (o := o) (i := 1) (by show some (o.b2, _) = _; rw [hbt])
          have hub : ub = bk (L5 ++ flN o 2) := by rw [eb, ea, hu, hfl]; exact (congrArg (· ++ (⟨#[99, 111, 110, 102, 108, 105, 99, 116]⟩ : ByteArray)) (bk_app (L5 ++ flN o 1) [32])).trans ((bk_app _ [99, 111, 110, 102, 108, 105, 99, 116]).trans (by simp only [List.append_assoc]))
          have hua : ua = bk (L5 ++ flN o 1 ++ [32]) := by rw [ea, hu]; exact bk_app _ _
          have za : Sz ua := sz_bk (by have := len_fl o 1; simp only [List.length_append, List.length_cons, List.length_nil]; omega) hua
          have zb : Sz ub := sz_bk (by have := len_fl o 2; rw [List.length_append]; omega) hub
          have cu : wsadd u ⟨#[32]⟩ = ua := by rw [hsadd, ea]
          have cv : wsadd ua ⟨#[99, 111, 110, 102, 108, 105, 99, 116]⟩ = ub := by rw [hsadd, eb]
          repeat' (first
            | (refine InN.mk (by decide) (by decide) ?_)
            | (refine Le.mk (by rw [hslen]; exact Sz.le (by assumption)) ?_; try cbv)
            | (simp only [cu, cv])
            | (simp only [cb]; cbv))
          simp only [ca]
          refine hN2 (2, ub) _ _ ?hx ?hi (show ((7 : Int) - 2).toNat < ((7 : Int) - 1).toNat by decide)
          case hx => (refine Wk.eqz (id) (by first | exact fun i _ j _ e => e | (simp only [List.length_cons, List.length_nil]; decide)) ?_; cbv; (repeat' (first | exact trivial | rfl | assumption | apply And.intro | (simp only [hbin, hcmp, hun, hconv, hnot, hbeq, hmm, hscmp, hsadd, hslen, hsat, heqs, hofNat, binStd, cmpStd, unStd, scmpStd, maxI, Bool.not_eq_true', Bool.not_eq_false', decide_eq_true_eq, decide_eq_false_iff_not, Int.not_lt, Int.not_le, if_true, if_false, Bool.false_eq_true, beq_iff_eq, bne_iff_ne, ne_eq, Bool.not_eq_eq_eq_not, Bool.not_true, Bool.not_false, beq_eq_false_iff_ne, bne_eq_false_iff_eq, Int.ofNat_eq_natCast, Bool.not_not, not_true_eq_false, not_false_eq_true, reduceCtorEq]; first | done | assumption) | exact RowsZ.same (by assumption) (by first | assumption | rfl) | exact FzL.mk rfl rfl rfl (by assumption) (by first | assumption | rfl) (by decide) | (refine RowsZ.one ?_; cbv))))
          case hi => exact ⟨(show (0 : Int) ≤ 2 by decide), (show (2 : Int) ≤ 7 by decide), hub⟩
        · have cb : wcmp .eql f1 1 = false := by rw [hcmp]; simp [cmpStd, hb]
          have hbt : o.b2 = false := by
            cases hx : o.b2
            · rfl
            · exact absurd (hf.h1.2 hx) hb
          have hfl : flN o 2 = flN o 1 := fl_none (o := o) (i := 1) (x := [99, 111, 110, 102, 108, 105, 99, 116]) (by show some (o.b2, _) = _; rw [hbt])
          repeat' (first
            | (refine InN.mk (by decide) (by decide) ?_)
            | (simp only [cb]; cbv))
          simp only [ca]
          refine hN2 (2, u) _ _ ?hx ?hi (show ((7 : Int) - 2).toNat < ((7 : Int) - 1).toNat by decide)
          case hx => (refine Wk.eqz (id) (by first | exact fun i _ j _ e => e | (simp only [List.length_cons, List.length_nil]; decide)) ?_; cbv; (repeat' (first | exact trivial | rfl | assumption | apply And.intro | (simp only [hbin, hcmp, hun, hconv, hnot, hbeq, hmm, hscmp, hsadd, hslen, hsat, heqs, hofNat, binStd, cmpStd, unStd, scmpStd, maxI, Bool.not_eq_true', Bool.not_eq_false', decide_eq_true_eq, decide_eq_false_iff_not, Int.not_lt, Int.not_le, if_true, if_false, Bool.false_eq_true, beq_iff_eq, bne_iff_ne, ne_eq, Bool.not_eq_eq_eq_not, Bool.not_true, Bool.not_false, beq_eq_false_iff_ne, bne_eq_false_iff_eq, Int.ofNat_eq_natCast, Bool.not_not, not_true_eq_false, not_false_eq_true, reduceCtorEq]; first | done | assumption) | exact RowsZ.same (by assumption) (by first | assumption | rfl) | exact FzL.mk rfl rfl rfl (by assumption) (by first | assumption | rfl) (by decide) | (refine RowsZ.one ?_; cbv))))
          case hi => exact ⟨(show (0 : Int) ≤ 2 by decide), (show (2 : Int) ≤ 7 by decide), by rw [hu, hfl]⟩
      · cbv
        have ca : wbin .add .i64 2 1 = 3 := by rw [hbin]; rfl
        by_cases hb : f2 = 1
        · have cb : wcmp .eql f2 1 = true := by rw [hcmp]; simp [cmpStd, hb]
          have hbt := hf.h2.1 hb
          obtain ⟨ua, ea⟩ : ∃ z, z = u ++ (⟨#[32]⟩ : ByteArray) := ⟨_, rfl⟩
          obtain ⟨ub, eb⟩ : ∃ z, z = ua ++ (⟨#[97, 99, 99, 101, 112, 116, 101, 100]⟩ : ByteArray) := ⟨_, rfl⟩
          have hfl : flN o 3 = flN o 2 ++ ([32] ++ [97, 99, 99, 101, 112, 116, 101, 100]) := fl_some (o := o) (i := 2) (by show some (o.b3, _) = _; rw [hbt])
          have hub : ub = bk (L5 ++ flN o 3) := by rw [eb, ea, hu, hfl]; exact (congrArg (· ++ (⟨#[97, 99, 99, 101, 112, 116, 101, 100]⟩ : ByteArray)) (bk_app (L5 ++ flN o 2) [32])).trans ((bk_app _ [97, 99, 99, 101, 112, 116, 101, 100]).trans (by simp only [List.append_assoc]))
          have hua : ua = bk (L5 ++ flN o 2 ++ [32]) := by rw [ea, hu]; exact bk_app _ _
          have za : Sz ua := sz_bk (by have := len_fl o 2; simp only [List.length_append, List.length_cons, List.length_nil]; omega) hua
          have zb : Sz ub := sz_bk (by have := len_fl o 3; rw [List.length_append]; omega) hub
          have cu : wsadd u ⟨#[32]⟩ = ua := by rw [hsadd, ea]
          have cv : wsadd ua ⟨#[97, 99, 99, 101, 112, 116, 101, 100]⟩ = ub := by rw [hsadd, eb]
          repeat' (first
            | (refine InN.mk (by decide) (by decide) ?_)
            | (refine Le.mk (by rw [hslen]; exact Sz.le (by assumption)) ?_; try cbv)
            | (simp only [cu, cv])
            | (simp only [cb]; cbv))
          simp only [ca]
          refine hN2 (3, ub) _ _ ?hx ?hi (show ((7 : Int) - 3).toNat < ((7 : Int) - 2).toNat by decide)
          case hx => (refine Wk.eqz (id) (by first | exact fun i _ j _ e => e | (simp only [List.length_cons, List.length_nil]; decide)) ?_; cbv; (repeat' (first | exact trivial | rfl | assumption | apply And.intro | (simp only [hbin, hcmp, hun, hconv, hnot, hbeq, hmm, hscmp, hsadd, hslen, hsat, heqs, hofNat, binStd, cmpStd, unStd, scmpStd, maxI, Bool.not_eq_true', Bool.not_eq_false', decide_eq_true_eq, decide_eq_false_iff_not, Int.not_lt, Int.not_le, if_true, if_false, Bool.false_eq_true, beq_iff_eq, bne_iff_ne, ne_eq, Bool.not_eq_eq_eq_not, Bool.not_true, Bool.not_false, beq_eq_false_iff_ne, bne_eq_false_iff_eq, Int.ofNat_eq_natCast, Bool.not_not, not_true_eq_false, not_false_eq_true, reduceCtorEq]; first | done | assumption) | exact RowsZ.same (by assumption) (by first | assumption | rfl) | exact FzL.mk rfl rfl rfl (by assumption) (by first | assumption | rfl) (by decide) | (refine RowsZ.one ?_; cbv))))
          case hi => exact ⟨(show (0 : Int) ≤ 3 by decide), (show (3 : Int) ≤ 7 by decide), hub⟩
        · have cb : wcmp .eql f2 1 = false := by rw [hcmp]; simp [cmpStd, hb]
          have hbt : o.b3 = false := by
            cases hx : o.b3
            · rfl
            · exact absurd (hf.h2.2 hx) hb
          have hfl : flN o 3 = flN o 2 := fl_none (o := o) (i := 2) (x := [97, 99, 99, 101, 112, 116, 101, 100]) (by show some (o.b3, _) = _; rw [hbt])
          repeat' (first
            | (refine InN.mk (by decide) (by decide) ?_)
            | (simp only [cb]; cbv))
          simp only [ca]
          refine hN2 (3, u) _ _ ?hx ?hi (show ((7 : Int) - 3).toNat < ((7 : Int) - 2).toNat by decide)
          case hx => (refine Wk.eqz (id) (by first | exact fun i _ j _ e => e | (simp only [List.length_cons, List.length_nil]; decide)) ?_; cbv; (repeat' (first | exact trivial | rfl | assumption | apply And.intro | (simp only [hbin, hcmp, hun, hconv, hnot, hbeq, hmm, hscmp, hsadd, hslen, hsat, heqs, hofNat, binStd, cmpStd, unStd, scmpStd, maxI, Bool.not_eq_true', Bool.not_eq_false', decide_eq_true_eq, decide_eq_false_iff_not, Int.not_lt, Int.not_le, if_true, if_false, Bool.false_eq_true, beq_iff_eq, bne_iff_ne, ne_eq, Bool.not_eq_eq_eq_not, Bool.not_true, Bool.not_false, beq_eq_false_iff_ne, bne_eq_false_iff_eq, Int.ofNat_eq_natCast, Bool.not_not, not_true_eq_false, not_false_eq_true, reduceCtorEq]; first | done | assumption) | exact RowsZ.same (by assumption) (by first | assumption | rfl) | exact FzL.mk rfl rfl rfl (by assumption) (by first | assumption | rfl) (by decide) | (refine RowsZ.one ?_; cbv))))
          case hi => exact ⟨(show (0 : Int) ≤ 3 by decide), (show (3 : Int) ≤ 7 by decide), by rw [hu, hfl]⟩
      · cbv
        have ca : wbin .add .i64 3 1 = 4 := by rw [hbin]; rfl
        by_cases hb : f3 = 1
        · have cb : wcmp .eql f3 1 = true := by rw [hcmp]; simp [cmpStd, hb]
          have hbt := hf.h3.1 hb
          obtain ⟨ua, ea⟩ : ∃ z, z = u ++ (⟨#[32]⟩ : ByteArray) := ⟨_, rfl⟩
          obtain ⟨ub, eb⟩ : ∃ z, z = ua ++ (⟨#[102, 97, 117, 108, 116]⟩ : ByteArray) := ⟨_, rfl⟩
          have hfl : flN o 4 = flN o 3 ++ ([32] ++ [102, 97, 117, 108, 116]) := fl_some (o := o) (i := 3) (by show some (o.b4, _) = _; rw [hbt])
          have hub : ub = bk (L5 ++ flN o 4) := by rw [eb, ea, hu, hfl]; exact (congrArg (· ++ (⟨#[102, 97, 117, 108, 116]⟩ : ByteArray)) (bk_app (L5 ++ flN o 3) [32])).trans ((bk_app _ [102, 97, 117, 108, 116]).trans (by simp only [List.append_assoc]))
          have hua : ua = bk (L5 ++ flN o 3 ++ [32]) := by rw [ea, hu]; exact bk_app _ _
          have za : Sz ua := sz_bk (by have := len_fl o 3; simp only [List.length_append, List.length_cons, List.length_nil]; omega) hua
          have zb : Sz ub := sz_bk (by have := len_fl o 4; rw [List.length_append]; omega) hub
          have cu : wsadd u ⟨#[32]⟩ = ua := by rw [hsadd, ea]
          have cv : wsadd ua ⟨#[102, 97, 117, 108, 116]⟩ = ub := by rw [hsadd, eb]
          repeat' (first
            | (refine InN.mk (by decide) (by decide) ?_)
            | (refine Le.mk (by rw [hslen]; exact Sz.le (by assumption)) ?_; try cbv)
            | (simp only [cu, cv])
            | (simp only [cb]; cbv))
          simp only [ca]
          refine hN2 (4, ub) _ _ ?hx ?hi (show ((7 : Int) - 4).toNat < ((7 : Int) - 3).toNat by decide)
          case hx => (refine Wk.eqz (id) (by first | exact fun i _ j _ e => e | (simp only [List.length_cons, List.length_nil]; decide)) ?_; cbv; (repeat' (first | exact trivial | rfl | assumption | apply And.intro | (simp only [hbin, hcmp, hun, hconv, hnot, hbeq, hmm, hscmp, hsadd, hslen, hsat, heqs, hofNat, binStd, cmpStd, unStd, scmpStd, maxI, Bool.not_eq_true', Bool.not_eq_false', decide_eq_true_eq, decide_eq_false_iff_not, Int.not_lt, Int.not_le, if_true, if_false, Bool.false_eq_true, beq_iff_eq, bne_iff_ne, ne_eq, Bool.not_eq_eq_eq_not, Bool.not_true, Bool.not_false, beq_eq_false_iff_ne, bne_eq_false_iff_eq, Int.ofNat_eq_natCast, Bool.not_not, not_true_eq_false, not_false_eq_true, reduceCtorEq]; first | done | assumption) | exact RowsZ.same (by assumption) (by first | assumption | rfl) | exact FzL.mk rfl rfl rfl (by assumption) (by first | assumption | rfl) (by decide) | (refine RowsZ.one ?_; cbv))))
          case hi => exact ⟨(show (0 : Int) ≤ 4 by decide), (show (4 : Int) ≤ 7 by decide), hub⟩
        · have cb : wcmp .eql f3 1 = false := by rw [hcmp]; simp [cmpStd, hb]
          have hbt : o.b4 = false := by
            cases hx : o.b4
            · rfl
            · exact absurd (hf.h3.2 hx) hb
          have hfl : flN o 4 = flN o 3 := fl_none (o := o) (i := 3) (x := [102, 97, 117, 108, 116]) (by show some (o.b4, _) = _; rw [hbt])
          repeat' (first
            | (refine InN.mk (by decide) (by decide) ?_)
            | (simp only [cb]; cbv))
          simp only [ca]
          refine hN2 (4, u) _ _ ?hx ?hi (show ((7 : Int) - 4).toNat < ((7 : Int) - 3).toNat by decide)
          case hx => (refine Wk.eqz (id) (by first | exact fun i _ j _ e => e | (simp only [List.length_cons, List.length_nil]; decide)) ?_; cbv; (repeat' (first | exact trivial | rfl | assumption | apply And.intro | (simp only [hbin, hcmp, hun, hconv, hnot, hbeq, hmm, hscmp, hsadd, hslen, hsat, heqs, hofNat, binStd, cmpStd, unStd, scmpStd, maxI, Bool.not_eq_true', Bool.not_eq_false', decide_eq_true_eq, decide_eq_false_iff_not, Int.not_lt, Int.not_le, if_true, if_false, Bool.false_eq_true, beq_iff_eq, bne_iff_ne, ne_eq, Bool.not_eq_eq_eq_not, Bool.not_true, Bool.not_false, beq_eq_false_iff_ne, bne_eq_false_iff_eq, Int.ofNat_eq_natCast, Bool.not_not, not_true_eq_false, not_false_eq_true, reduceCtorEq]; first | done | assumption) | exact RowsZ.same (by assumption) (by first | assumption | rfl) | exact FzL.mk rfl rfl rfl (by assumption) (by first | assumption | rfl) (by decide) | (refine RowsZ.one ?_; cbv))))
          case hi => exact ⟨(show (0 : Int) ≤ 4 by decide), (show (4 : Int) ≤ 7 by decide), by rw [hu, hfl]⟩
      · cbv
        have ca : wbin .add .i64 4 1 = 5 := by rw [hbin]; rfl
        by_cases hb : f4 = 1
        · have cb : wcmp .eql f4 1 = true := by rw [hcmp]; simp [cmpStd, hb]
          have hbt := hf.h4.1 hb
          obtain ⟨ua, ea⟩ : ∃ z, z = u ++ (⟨#[32]⟩ : ByteArray) := ⟨_, rfl⟩
          obtain ⟨ub, eb⟩ : ∃ z, z = ua ++ (⟨#[115, 116, 105, 108, 108]⟩ : ByteArray) := ⟨_, rfl⟩
          have hfl : flN o 5 = flN o 4 ++ ([32] ++ [115, 116, 105, 108, 108]) := fl_some (o := o) (i := 4) (by show some (o.b5, _) = _; rw [hbt])
          have hub : ub = bk (L5 ++ flN o 5) := by rw [eb, ea, hu, hfl]; exact (congrArg (· ++ (⟨#[115, 116, 105, 108, 108]⟩ : ByteArray)) (bk_app (L5 ++ flN o 4) [32])).trans ((bk_app _ [115, 116, 105, 108, 108]).trans (by simp only [List.append_assoc]))
          have hua : ua = bk (L5 ++ flN o 4 ++ [32]) := by rw [ea, hu]; exact bk_app _ _
          have za : Sz ua := sz_bk (by have := len_fl o 4; simp only [List.length_append, List.length_cons, List.length_nil]; omega) hua
          have zb : Sz ub := sz_bk (by have := len_fl o 5; rw [List.length_append]; omega) hub
          have cu : wsadd u ⟨#[32]⟩ = ua := by rw [hsadd, ea]
          have cv : wsadd ua ⟨#[115, 116, 105, 108, 108]⟩ = ub := by rw [hsadd, eb]
          repeat' (first
            | (refine InN.mk (by decide) (by decide) ?_)
            | (refine Le.mk (by rw [hslen]; exact Sz.le (by assumption)) ?_; try cbv)
            | (simp only [cu, cv])
            | (simp only [cb]; cbv))
          simp only [ca]
          refine hN2 (5, ub) _ _ ?hx ?hi (show ((7 : Int) - 5).toNat < ((7 : Int) - 4).toNat by decide)
          case hx => (refine Wk.eqz (id) (by first | exact fun i _ j _ e => e | (simp only [List.length_cons, List.length_nil]; decide)) ?_; cbv; (repeat' (first | exact trivial | rfl | assumption | apply And.intro | (simp only [hbin, hcmp, hun, hconv, hnot, hbeq, hmm, hscmp, hsadd, hslen, hsat, heqs, hofNat, binStd, cmpStd, unStd, scmpStd, maxI, Bool.not_eq_true', Bool.not_eq_false', decide_eq_true_eq, decide_eq_false_iff_not, Int.not_lt, Int.not_le, if_true, if_false, Bool.false_eq_true, beq_iff_eq, bne_iff_ne, ne_eq, Bool.not_eq_eq_eq_not, Bool.not_true, Bool.not_false, beq_eq_false_iff_ne, bne_eq_false_iff_eq, Int.ofNat_eq_natCast, Bool.not_not, not_true_eq_false, not_false_eq_true, reduceCtorEq]; first | done | assumption) | exact RowsZ.same (by assumption) (by first | assumption | rfl) | exact FzL.mk rfl rfl rfl (by assumption) (by first | assumption | rfl) (by decide) | (refine RowsZ.one ?_; cbv))))
          case hi => exact ⟨(show (0 : Int) ≤ 5 by decide), (show (5 : Int) ≤ 7 by decide), hub⟩
        · have cb : wcmp .eql f4 1 = false := by rw [hcmp]; simp [cmpStd, hb]
          have hbt : o.b5 = false := by
            cases hx : o.b5
            · rfl
            · exact absurd (hf.h4.2 hx) hb
          have hfl : flN o 5 = flN o 4 := fl_none (o := o) (i := 4) (x := [115, 116, 105, 108, 108]) (by show some (o.b5, _) = _; rw [hbt])
          repeat' (first
            | (refine InN.mk (by decide) (by decide) ?_)
            | (simp only [cb]; cbv))
          simp only [ca]
          refine hN2 (5, u) _ _ ?hx ?hi (show ((7 : Int) - 5).toNat < ((7 : Int) - 4).toNat by decide)
          case hx => (refine Wk.eqz (id) (by first | exact fun i _ j _ e => e | (simp only [List.length_cons, List.length_nil]; decide)) ?_; cbv; (repeat' (first | exact trivial | rfl | assumption | apply And.intro | (simp only [hbin, hcmp, hun, hconv, hnot, hbeq, hmm, hscmp, hsadd, hslen, hsat, heqs, hofNat, binStd, cmpStd, unStd, scmpStd, maxI, Bool.not_eq_true', Bool.not_eq_false', decide_eq_true_eq, decide_eq_false_iff_not, Int.not_lt, Int.not_le, if_true, if_false, Bool.false_eq_true, beq_iff_eq, bne_iff_ne, ne_eq, Bool.not_eq_eq_eq_not, Bool.not_true, Bool.not_false, beq_eq_false_iff_ne, bne_eq_false_iff_eq, Int.ofNat_eq_natCast, Bool.not_not, not_true_eq_false, not_false_eq_true, reduceCtorEq]; first | done | assumption) | exact RowsZ.same (by assumption) (by first | assumption | rfl) | exact FzL.mk rfl rfl rfl (by assumption) (by first | assumption | rfl) (by decide) | (refine RowsZ.one ?_; cbv))))
          case hi => exact ⟨(show (0 : Int) ≤ 5 by decide), (show (5 : Int) ≤ 7 by decide), by rw [hu, hfl]⟩
      · cbv
        have ca : wbin .add .i64 5 1 = 6 := by rw [hbin]; rfl
        by_cases hb : f5 = 1
        · have cb : wcmp .eql f5 1 = true := by rw [hcmp]; simp [cmpStd, hb]
          have hbt := hf.h5.1 hb
          obtain ⟨ua, ea⟩ : ∃ z, z = u ++ (⟨#[32]⟩ : ByteArray) := ⟨_, rfl⟩
          obtain ⟨ub, eb⟩ : ∃ z, z = ua ++ (⟨#[114, 111, 108, 108]⟩ : ByteArray) := ⟨_, rfl⟩
          have hfl : flN o 6 = flN o 5 ++ ([32] ++ [114, 111, 108, 108]) := fl_some (o := o) (i := 5) (by show some (o.b6, _) = _; rw [hbt])
          have hub : ub = bk (L5 ++ flN o 6) := by rw [eb, ea, hu, hfl]; exact (congrArg (· ++ (⟨#[114, 111, 108, 108]⟩ : ByteArray)) (bk_app (L5 ++ flN o 5) [32])).trans ((bk_app _ [114, 111, 108, 108]).trans (by simp only [List.append_assoc]))
          have hua : ua = bk (L5 ++ flN o 5 ++ [32]) := by rw [ea, hu]; exact bk_app _ _
          have za : Sz ua := sz_bk (by have := len_fl o 5; simp only [List.length_append, List.length_cons, List.length_nil]; omega) hua
          have zb : Sz ub := sz_bk (by have := len_fl o 6; rw [List.length_append]; omega) hub
          have cu : wsadd u ⟨#[32]⟩ = ua := by rw [hsadd, ea]
          have cv : wsadd ua ⟨#[114, 111, 108, 108]⟩ = ub := by rw [hsadd, eb]
          repeat' (first
            | (refine InN.mk (by decide) (by decide) ?_)
            | (refine Le.mk (by rw [hslen]; exact Sz.le (by assumption)) ?_; try cbv)
            | (simp only [cu, cv])
            | (simp only [cb]; cbv))
          simp only [ca]
          refine hN2 (6, ub) _ _ ?hx ?hi (show ((7 : Int) - 6).toNat < ((7 : Int) - 5).toNat by decide)
          case hx => (refine Wk.eqz (id) (by first | exact fun i _ j _ e => e | (simp only [List.length_cons, List.length_nil]; decide)) ?_; cbv; (repeat' (first | exact trivial | rfl | assumption | apply And.intro | (simp only [hbin, hcmp, hun, hconv, hnot, hbeq, hmm, hscmp, hsadd, hslen, hsat, heqs, hofNat, binStd, cmpStd, unStd, scmpStd, maxI, Bool.not_eq_true', Bool.not_eq_false', decide_eq_true_eq, decide_eq_false_iff_not, Int.not_lt, Int.not_le, if_true, if_false, Bool.false_eq_true, beq_iff_eq, bne_iff_ne, ne_eq, Bool.not_eq_eq_eq_not, Bool.not_true, Bool.not_false, beq_eq_false_iff_ne, bne_eq_false_iff_eq, Int.ofNat_eq_natCast, Bool.not_not, not_true_eq_false, not_false_eq_true, reduceCtorEq]; first | done | assumption) | exact RowsZ.same (by assumption) (by first | assumption | rfl) | exact FzL.mk rfl rfl rfl (by assumption) (by first | assumption | rfl) (by decide) | (refine RowsZ.one ?_; cbv))))
          case hi => exact ⟨(show (0 : Int) ≤ 6 by decide), (show (6 : Int) ≤ 7 by decide), hub⟩
        · have cb : wcmp .eql f5 1 = false := by rw [hcmp]; simp [cmpStd, hb]
          have hbt : o.b6 = false := by
            cases hx : o.b6
            · rfl
            · exact absurd (hf.h5.2 hx) hb
          have hfl : flN o 6 = flN o 5 := fl_none (o := o) (i := 5) (x := [114, 111, 108, 108]) (by show some (o.b6, _) = _; rw [hbt])
          repeat' (first
            | (refine InN.mk (by decide) (by decide) ?_)
            | (simp only [cb]; cbv))
          simp only [ca]
          refine hN2 (6, u) _ _ ?hx ?hi (show ((7 : Int) - 6).toNat < ((7 : Int) - 5).toNat by decide)
          case hx => (refine Wk.eqz (id) (by first | exact fun i _ j _ e => e | (simp only [List.length_cons, List.length_nil]; decide)) ?_; cbv; (repeat' (first | exact trivial | rfl | assumption | apply And.intro | (simp only [hbin, hcmp, hun, hconv, hnot, hbeq, hmm, hscmp, hsadd, hslen, hsat, heqs, hofNat, binStd, cmpStd, unStd, scmpStd, maxI, Bool.not_eq_true', Bool.not_eq_false', decide_eq_true_eq, decide_eq_false_iff_not, Int.not_lt, Int.not_le, if_true, if_false, Bool.false_eq_true, beq_iff_eq, bne_iff_ne, ne_eq, Bool.not_eq_eq_eq_not, Bool.not_true, Bool.not_false, beq_eq_false_iff_ne, bne_eq_false_iff_eq, Int.ofNat_eq_natCast, Bool.not_not, not_true_eq_false, not_false_eq_true, reduceCtorEq]; first | done | assumption) | exact RowsZ.same (by assumption) (by first | assumption | rfl) | exact FzL.mk rfl rfl rfl (by assumption) (by first | assumption | rfl) (by decide) | (refine RowsZ.one ?_; cbv))))
          case hi => exact ⟨(show (0 : Int) ≤ 6 by decide), (show (6 : Int) ≤ 7 by decide), by rw [hu, hfl]⟩
      · cbv
        have ca : wbin .add .i64 6 1 = 7 := by rw [hbin]; rfl
        by_cases hb : f6 = 1
        · have cb : wcmp .eql f6 1 = true := by rw [hcmp]; simp [cmpStd, hb]
          have hbt := hf.h6.1 hb
          obtain ⟨ua, ea⟩ : ∃ z, z = u ++ (⟨#[32]⟩ : ByteArray) := ⟨_, rfl⟩
          obtain ⟨ub, eb⟩ : ∃ z, z = ua ++ (⟨#[111, 118, 101, 114]⟩ : ByteArray) := ⟨_, rfl⟩
          have hfl : flN o 7 = flN o 6 ++ ([32] ++ [111, 118, 101, 114]) := fl_some (o := o) (i := 6) (by show some (o.b7, _) = _; rw [hbt])
          have hub : ub = bk (L5 ++ flN o 7) := by rw [eb, ea, hu, hfl]; exact (congrArg (· ++ (⟨#[111, 118, 101, 114]⟩ : ByteArray)) (bk_app (L5 ++ flN o 6) [32])).trans ((bk_app _ [111, 118, 101, 114]).trans (by simp only [List.append_assoc]))
          have hua : ua = bk (L5 ++ flN o 6 ++ [32]) := by rw [ea, hu]; exact bk_app _ _
          have za : Sz ua := sz_bk (by have := len_fl o 6; simp only [List.length_append, List.length_cons, List.length_nil]; omega) hua
          have zb : Sz ub := sz_bk (by have := len_fl o 7; rw [List.length_append]; omega) hub
          have cu : wsadd u ⟨#[32]⟩ = ua := by rw [hsadd, ea]
          have cv : wsadd ua ⟨#[111, 118, 101, 114]⟩ = ub := by rw [hsadd, eb]
          repeat' (first
            | (refine InN.mk (by decide) (by decide) ?_)
            | (refine Le.mk (by rw [hslen]; exact Sz.le (by assumption)) ?_; try cbv)
            | (simp only [cu, cv])
            | (simp only [cb]; cbv))
          simp only [ca]
          refine hN2 (7, ub) _ _ ?hx ?hi (show ((7 : Int) - 7).toNat < ((7 : Int) - 6).toNat by decide)
          case hx => (refine Wk.eqz (id) (by first | exact fun i _ j _ e => e | (simp only [List.length_cons, List.length_nil]; decide)) ?_; cbv; (repeat' (first | exact trivial | rfl | assumption | apply And.intro | (simp only [hbin, hcmp, hun, hconv, hnot, hbeq, hmm, hscmp, hsadd, hslen, hsat, heqs, hofNat, binStd, cmpStd, unStd, scmpStd, maxI, Bool.not_eq_true', Bool.not_eq_false', decide_eq_true_eq, decide_eq_false_iff_not, Int.not_lt, Int.not_le, if_true, if_false, Bool.false_eq_true, beq_iff_eq, bne_iff_ne, ne_eq, Bool.not_eq_eq_eq_not, Bool.not_true, Bool.not_false, beq_eq_false_iff_ne, bne_eq_false_iff_eq, Int.ofNat_eq_natCast, Bool.not_not, not_true_eq_false, not_false_eq_true, reduceCtorEq]; first | done | assumption) | exact RowsZ.same (by assumption) (by first | assumption | rfl) | exact FzL.mk rfl rfl rfl (by assumption) (by first | assumption | rfl) (by decide) | (refine RowsZ.one ?_; cbv))))
          case hi => exact ⟨(show (0 : Int) ≤ 7 by decide), (show (7 : Int) ≤ 7 by decide), hub⟩
        · have cb : wcmp .eql f6 1 = false := by rw [hcmp]; simp [cmpStd, hb]
          have hbt : o.b7 = false := by
            cases hx : o.b7
            · rfl
            · exact absurd (hf.h6.2 hx) hb
          have hfl : flN o 7 = flN o 6 := fl_none (o := o) (i := 6) (x := [111, 118, 101, 114]) (by show some (o.b7, _) = _; rw [hbt])
          repeat' (first
            | (refine InN.mk (by decide) (by decide) ?_)
            | (simp only [cb]; cbv))
          simp only [ca]
          refine hN2 (7, u) _ _ ?hx ?hi (show ((7 : Int) - 7).toNat < ((7 : Int) - 6).toNat by decide)
          case hx => (refine Wk.eqz (id) (by first | exact fun i _ j _ e => e | (simp only [List.length_cons, List.length_nil]; decide)) ?_; cbv; (repeat' (first | exact trivial | rfl | assumption | apply And.intro | (simp only [hbin, hcmp, hun, hconv, hnot, hbeq, hmm, hscmp, hsadd, hslen, hsat, heqs, hofNat, binStd, cmpStd, unStd, scmpStd, maxI, Bool.not_eq_true', Bool.not_eq_false', decide_eq_true_eq, decide_eq_false_iff_not, Int.not_lt, Int.not_le, if_true, if_false, Bool.false_eq_true, beq_iff_eq, bne_iff_ne, ne_eq, Bool.not_eq_eq_eq_not, Bool.not_true, Bool.not_false, beq_eq_false_iff_ne, bne_eq_false_iff_eq, Int.ofNat_eq_natCast, Bool.not_not, not_true_eq_false, not_false_eq_true, reduceCtorEq]; first | done | assumption) | exact RowsZ.same (by assumption) (by first | assumption | rfl) | exact FzL.mk rfl rfl rfl (by assumption) (by first | assumption | rfl) (by decide) | (refine RowsZ.one ?_; cbv))))
          case hi => exact ⟨(show (0 : Int) ≤ 7 by decide), (show (7 : Int) ≤ 7 by decide), by rw [hu, hfl]⟩
    · refine hE2 _ _ _ ?_
      cbv
      have e7 : i = 7 := by omega
      subst e7
      exact ⟨_, Vw.same rfl, hR _ (by rw [et', hu]; rfl)⟩
end Go.Proofs.YtikhbgnokkdpeaaDoor

