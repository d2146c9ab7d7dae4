/- Parts of the proofs. -/
import Derived.Test.YtlchlddijclhjaaGreatR31
import Derived.Test.YtlchlddijclhjaaGreatRZ
set_option linter.unusedVariables false
set_option linter.unusedSimpArgs false
set_option maxHeartbeats 4000000
set_option maxRecDepth 100000
namespace Go.Proofs.YtlchlddijclhjaaGreat
open Go Go.RowKit Go.Eng
theorem jh(x:AV)(h:TyV Tryz.prog 8 3 x):∃n,x=jz n/\I64 n:=by
 have h:=h.one (by kernel_rfl) (show ED Tryz.prog 8 3=some [.int .i64] from by kernel_rfl);unfold Sh.Ok at h;obtain⟨n,rfl,hn⟩:=h;exact⟨n,rfl,EZ hn⟩
theorem walk_WholeGarbled(x0 x1 x2 x3:AV)(h0:TyV Tryz.prog 8 23 x0)(h1:TyV Tryz.prog 8 27 x1)(h2:TyV Tryz.prog 8 28 x2)(h3:TyV Tryz.prog 8 3 x3):A9 Tryz.prog 9 [x0,x1,x2,x3] (λr=>r = .bool true):=by
 obtain⟨c,rfl,_,_,_⟩:=Nf x0 h0;obtain⟨ss,gs,rfl,hs,hg⟩:=Ng x1 h1;obtain⟨l,rfl,hb⟩:=Nh x2 h2;obtain⟨m,rfl,hm⟩:=jh x3 h3;refine ji c.c0 c.c1 c.c2 c.c3 c.c4 c.c5 c.c6 c.c7 c.c8 c.c9 c.c10 c.c11 c.c12 c.c13 _ _ (Bu ss) (Bv gs) m l hb _ rfl (D6 ss gs) (λL=>(CU c ss gs L).map Rp.row) (λL=>JP _) (NY ss gs _ _ rfl rfl l _ rfl) (λhf L hL hc Q hQ=>Ld c ss gs _ _ rfl rfl hs hg hf L Z.o hc Q hQ) Na (λhf L hL sN U V hU hV=>?_) (Vf m) (λow x hx uR Q hQ=>jk x m ow hx uR Q hQ) (λow x hx uR=>⟨Nat.le_trans (jW m x) uR,jl ow.1 hx⟩);refine jm (CU c ss gs L) (CU c ss gs (d9 L)) (jo c ss gs L).symm (by have:=Nc c ss gs L;omega) (jq c ss gs L λc hc b hb=>((sN c hc).2 b hb).2) (jr c ss gs (d9 L) hf (by rw[jN];omega) λc hc=>?_) U V hU hV;obtain⟨d,hd,rfl⟩:=List.mem_map.1 hc;exact⟨Nat.zero_le _,λb hb=>by cases hb⟩
end Go.Proofs.YtlchlddijclhjaaGreat
