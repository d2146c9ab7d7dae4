/- Parts of the proofs. -/
import Derived.KernelRfl
import Derived.Test.YtlchlddijclhjaaGreatS7
import Derived.LoopN
set_option linter.unusedVariables false
set_option linter.unusedSimpArgs false
namespace Go.Proofs.YtlchlddijclhjaaGreat
open Go Go.RowKit Go.Eng
set_option maxRecDepth 100000
def I62(a:Int):Prop:= -4611686018427387904<=a/\a<=4611686018427387903
theorem kB7{a b d:Int}(h:a+b=d)(ha:I62 a)(hb:I62 b):k02 Tryz.prog 96 [.int .i64 a,.int .i64 b] (· = .tuple [.int .i64 d,.bool true]):=by
 unfold I62 at ha hb;(refine k02.ofY Tryz.func96 (by kernel_rfl) (by kernel_rfl) λw hw R hR=>?_);(obtain⟨zA,zG,yT,zD,zF,zW,yR,zN,zQ,zP,yC,zZ,zV,zT,zK,zM,zO,yE,zS,yF⟩:=w);(have zC:zA=k05:=congrArg k01.bin hw);(have zB:zG=k04:=congrArg k01.cmp hw);(have yM:yT=k08:=congrArg k01.un hw);(have zH:zD=λk n=>k.wrap n:=congrArg k01.conv hw);(have zI:zF=λb=> !b:=congrArg k01.not hw);(have yK:zW=λa b=>a == b:=congrArg k01.beq hw);(have yU:yR=k0M:=congrArg k01.mm hw);(have zX:zN=k03:=congrArg k01.scmp hw);(have yB:zQ=λx y=>x++y:=congrArg k01.sadd hw);(have yA:zP=λs=>(s.size:Int):=congrArg k01.slen hw);(have yQ:yC=std.sat:=congrArg k01.sat hw);(have yP:zZ=λa b os=>(k0O a b os).getD false:=congrArg k01.eqs hw);(have zE:zV=λes=>(es.length:Int):=congrArg k01.len hw);(have yO:zT=λes=>es.length:=congrArg k01.nlen hw);(have zR:zK=(λn:Nat=>(n:Int)):=congrArg k01.ofNat hw);(have yD:zM=λes b=>es.take b.toNat:=congrArg k01.take hw);(have yI:zO=λes a=>es.drop a.toNat:=congrArg k01.drop hw);(have yW:yE=λa b=>a++b:=congrArg k01.app hw);(have yN:zS=λn z=>List.replicate n.toNat z:=congrArg k01.zero hw);(have yX:yF=λn=>n.toNat:=congrArg k01.nat hw);(conv=>arg 2;cbv);(generalize hP:Tryz.prog=P);cbv;have ed:zA .add .i64 a b=d:=by rw[zC,k0S (by omega) (by omega)];exact h
 simp only[ed]
 have hb1:zW (zG .geq a 0) (zG .geq b 0)=false\/zW (zG .geq d 0) (zG .geq a 0)=true:=by
  rw[yK,zB];simp only[k04,beq_iff_eq,beq_eq_false_iff_ne,ne_eq,decide_eq_decide];omega
 repeat' (split<;>rename_i h1<;>(try (simp only[zC,zB,yM,zH,zI,yK,yU,zX,yB,yA,yQ,yP,zR,k05,k04,k08,k03,k0M,Bool.not_eq_true',Bool.not_eq_false',decide_eq_true_eq,decide_eq_false_iff_not,Int.not_lt,Int.not_le,if_true,if_false,Bool.false_eq_true,beq_iff_eq,bne_iff_ne,ne_eq,Bool.not_eq_eq_eq_not,Bool.not_true,Bool.not_false,beq_eq_false_iff_ne,bne_eq_false_iff_eq,Int.ofNat_eq_natCast,Bool.not_not,not_true_eq_false,not_false_eq_true,reduceCtorEq] at h1))<;>(try cbv))
 all_goals first
  | exact⟨_,Vw.same rfl,hR _ rfl⟩
  | (exfalso;simp only[yK,zB,k04,beq_iff_eq,beq_eq_false_iff_ne,ne_eq,decide_eq_decide] at *;omega)
theorem kCG{a b d:Int}(h:a-b=d)(ha:I62 a)(hb:I62 b):k02 Tryz.prog 207 [.int .i64 a,.int .i64 b] (· = .tuple [.int .i64 d,.bool true]):=by
 unfold I62 at ha hb;(refine k02.ofY Tryz.func207 (by kernel_rfl) (by kernel_rfl) λw hw R hR=>?_);(obtain⟨zA,zG,yT,zD,zF,zW,yR,zN,zQ,zP,yC,zZ,zV,zT,zK,zM,zO,yE,zS,yF⟩:=w);(have zC:zA=k05:=congrArg k01.bin hw);(have zB:zG=k04:=congrArg k01.cmp hw);(have yM:yT=k08:=congrArg k01.un hw);(have zH:zD=λk n=>k.wrap n:=congrArg k01.conv hw);(have zI:zF=λb=> !b:=congrArg k01.not hw);(have yK:zW=λa b=>a == b:=congrArg k01.beq hw);(have yU:yR=k0M:=congrArg k01.mm hw);(have zX:zN=k03:=congrArg k01.scmp hw);(have yB:zQ=λx y=>x++y:=congrArg k01.sadd hw);(have yA:zP=λs=>(s.size:Int):=congrArg k01.slen hw);(have yQ:yC=std.sat:=congrArg k01.sat hw);(have yP:zZ=λa b os=>(k0O a b os).getD false:=congrArg k01.eqs hw);(have zE:zV=λes=>(es.length:Int):=congrArg k01.len hw);(have yO:zT=λes=>es.length:=congrArg k01.nlen hw);(have zR:zK=(λn:Nat=>(n:Int)):=congrArg k01.ofNat hw);(have yD:zM=λes b=>es.take b.toNat:=congrArg k01.take hw);(have yI:zO=λes a=>es.drop a.toNat:=congrArg k01.drop hw);(have yW:yE=λa b=>a++b:=congrArg k01.app hw);(have yN:zS=λn z=>List.replicate n.toNat z:=congrArg k01.zero hw);(have yX:yF=λn=>n.toNat:=congrArg k01.nat hw);(conv=>arg 2;cbv);(generalize hP:Tryz.prog=P);cbv;have ed:zA .sub .i64 a b=d:=by rw[zC,k3I (by omega) (by omega)];exact h
 simp only[ed]
 have hb1:zW (zG .geq a 0) (zG .geq b 0)=true\/zW (zG .geq d 0) (zG .geq a 0)=true:=by
  rw[yK,zB];simp only[k04,beq_iff_eq,decide_eq_decide];omega
 repeat' (split<;>rename_i h1<;>(try (simp only[zC,zB,yM,zH,zI,yK,yU,zX,yB,yA,yQ,yP,zR,k05,k04,k08,k03,k0M,Bool.not_eq_true',Bool.not_eq_false',decide_eq_true_eq,decide_eq_false_iff_not,Int.not_lt,Int.not_le,if_true,if_false,Bool.false_eq_true,beq_iff_eq,bne_iff_ne,ne_eq,Bool.not_eq_eq_eq_not,Bool.not_true,Bool.not_false,beq_eq_false_iff_ne,bne_eq_false_iff_eq,Int.ofNat_eq_natCast,Bool.not_not,not_true_eq_false,not_false_eq_true,reduceCtorEq] at h1))<;>(try cbv))
 all_goals first
  | exact⟨_,Vw.same rfl,hR _ rfl⟩
  | (exfalso;simp only[yK,zB,k04,beq_iff_eq,decide_eq_decide] at *;omega)
theorem kNN(d:Int)(b:Bool):k02 Tryz.prog 212 [.int .i64 d,.bool true,.bool b] (· = .int .i64 d):=by
 (refine k02.ofY Tryz.func212 (by kernel_rfl) (by kernel_rfl) λw hw R hR=>?_);(obtain⟨zA,zG,yT,zD,zF,zW,yR,zN,zQ,zP,yC,zZ,zV,zT,zK,zM,zO,yE,zS,yF⟩:=w);(have zC:zA=k05:=congrArg k01.bin hw);(have zB:zG=k04:=congrArg k01.cmp hw);(have yM:yT=k08:=congrArg k01.un hw);(have zH:zD=λk n=>k.wrap n:=congrArg k01.conv hw);(have zI:zF=λb=> !b:=congrArg k01.not hw);(have yK:zW=λa b=>a == b:=congrArg k01.beq hw);(have yU:yR=k0M:=congrArg k01.mm hw);(have zX:zN=k03:=congrArg k01.scmp hw);(have yB:zQ=λx y=>x++y:=congrArg k01.sadd hw);(have yA:zP=λs=>(s.size:Int):=congrArg k01.slen hw);(have yQ:yC=std.sat:=congrArg k01.sat hw);(have yP:zZ=λa b os=>(k0O a b os).getD false:=congrArg k01.eqs hw);(have zE:zV=λes=>(es.length:Int):=congrArg k01.len hw);(have yO:zT=λes=>es.length:=congrArg k01.nlen hw);(have zR:zK=(λn:Nat=>(n:Int)):=congrArg k01.ofNat hw);(have yD:zM=λes b=>es.take b.toNat:=congrArg k01.take hw);(have yI:zO=λes a=>es.drop a.toNat:=congrArg k01.drop hw);(have yW:yE=λa b=>a++b:=congrArg k01.app hw);(have yN:zS=λn z=>List.replicate n.toNat z:=congrArg k01.zero hw);(have yX:yF=λn=>n.toNat:=congrArg k01.nat hw);(conv=>arg 2;cbv);(generalize hP:Tryz.prog=P);cbv;exact⟨_,Vw.same rfl,hR _ rfl⟩
theorem kFC{a b d:Int}(h:a+b=d)(ha:I62 a)(hb:I62 b):k02 Tryz.prog 155 [.int .i64 a,.int .i64 b] (· = .int .i64 d):=by
 (refine k02.ofY Tryz.func155 (by kernel_rfl) (by kernel_rfl) λw hw R hR=>?_);(obtain⟨zA,zG,yT,zD,zF,zW,yR,zN,zQ,zP,yC,zZ,zV,zT,zK,zM,zO,yE,zS,yF⟩:=w);(have zC:zA=k05:=congrArg k01.bin hw);(have zB:zG=k04:=congrArg k01.cmp hw);(have yM:yT=k08:=congrArg k01.un hw);(have zH:zD=λk n=>k.wrap n:=congrArg k01.conv hw);(have zI:zF=λb=> !b:=congrArg k01.not hw);(have yK:zW=λa b=>a == b:=congrArg k01.beq hw);(have yU:yR=k0M:=congrArg k01.mm hw);(have zX:zN=k03:=congrArg k01.scmp hw);(have yB:zQ=λx y=>x++y:=congrArg k01.sadd hw);(have yA:zP=λs=>(s.size:Int):=congrArg k01.slen hw);(have yQ:yC=std.sat:=congrArg k01.sat hw);(have yP:zZ=λa b os=>(k0O a b os).getD false:=congrArg k01.eqs hw);(have zE:zV=λes=>(es.length:Int):=congrArg k01.len hw);(have yO:zT=λes=>es.length:=congrArg k01.nlen hw);(have zR:zK=(λn:Nat=>(n:Int)):=congrArg k01.ofNat hw);(have yD:zM=λes b=>es.take b.toNat:=congrArg k01.take hw);(have yI:zO=λes a=>es.drop a.toNat:=congrArg k01.drop hw);(have yW:yE=λa b=>a++b:=congrArg k01.app hw);(have yN:zS=λn z=>List.replicate n.toNat z:=congrArg k01.zero hw);(have yX:yF=λn=>n.toNat:=congrArg k01.nat hw);(conv=>arg 2;cbv);(generalize hP:Tryz.prog=P);cbv;refine Call.stepE (by rw[<- hP];exact kB7 h ha hb) rfl ?_;cbv;obtain⟨o,eo⟩:∃o,zG .lss a 0=o:=⟨_,rfl⟩;simp only[eo];refine Call.stepE (by rw[<- hP];exact kNN d o) rfl ?_;cbv;exact⟨_,Vw.same rfl,hR _ rfl⟩
theorem kTI(a b:Int):k0M true a b=max a b:=by simp only[k0M,if_true];split<;>omega
theorem kP6(a b:Int):k0M false a b=min a b:=by simp only[k0M,Bool.false_eq_true,if_false];split<;>omega
theorem kRK{x lo hi v:Int}(h:max lo (min x hi)=v):k02 Tryz.prog 154 [.int .i64 x,.int .i64 lo,.int .i64 hi] (· = .int .i64 v):=by
 (refine k02.ofY Tryz.func154 (by kernel_rfl) (by kernel_rfl) λw hw R hR=>?_);(obtain⟨zA,zG,yT,zD,zF,zW,yR,zN,zQ,zP,yC,zZ,zV,zT,zK,zM,zO,yE,zS,yF⟩:=w);(have zC:zA=k05:=congrArg k01.bin hw);(have zB:zG=k04:=congrArg k01.cmp hw);(have yM:yT=k08:=congrArg k01.un hw);(have zH:zD=λk n=>k.wrap n:=congrArg k01.conv hw);(have zI:zF=λb=> !b:=congrArg k01.not hw);(have yK:zW=λa b=>a == b:=congrArg k01.beq hw);(have yU:yR=k0M:=congrArg k01.mm hw);(have zX:zN=k03:=congrArg k01.scmp hw);(have yB:zQ=λx y=>x++y:=congrArg k01.sadd hw);(have yA:zP=λs=>(s.size:Int):=congrArg k01.slen hw);(have yQ:yC=std.sat:=congrArg k01.sat hw);(have yP:zZ=λa b os=>(k0O a b os).getD false:=congrArg k01.eqs hw);(have zE:zV=λes=>(es.length:Int):=congrArg k01.len hw);(have yO:zT=λes=>es.length:=congrArg k01.nlen hw);(have zR:zK=(λn:Nat=>(n:Int)):=congrArg k01.ofNat hw);(have yD:zM=λes b=>es.take b.toNat:=congrArg k01.take hw);(have yI:zO=λes a=>es.drop a.toNat:=congrArg k01.drop hw);(have yW:yE=λa b=>a++b:=congrArg k01.app hw);(have yN:zS=λn z=>List.replicate n.toNat z:=congrArg k01.zero hw);(have yX:yF=λn=>n.toNat:=congrArg k01.nat hw);(conv=>arg 2;cbv);(generalize hP:Tryz.prog=P);cbv;obtain⟨m,em⟩:∃m,min x hi=m:=⟨_,rfl⟩;have e1:yR false x hi=m:=by rw[yU,kP6,em]
 have e2:yR true lo m=v:=by rw[yU,kTI,<- h,em]
 simp only[e1,e2];exact⟨_,Vw.same rfl,hR _ rfl⟩
theorem kB6{lo hi:Int}(h:lo<=hi):k02 Tryz.prog 164 [.int .i64 lo,.bool true,.int .i64 hi,.bool true] (· = .tuple [.agg [.int .i64 lo,.int .i64 hi],.bool true]):=by
 (refine k02.ofY Tryz.func164 (by kernel_rfl) (by kernel_rfl) λw hw R hR=>?_);(obtain⟨zA,zG,yT,zD,zF,zW,yR,zN,zQ,zP,yC,zZ,zV,zT,zK,zM,zO,yE,zS,yF⟩:=w);(have zC:zA=k05:=congrArg k01.bin hw);(have zB:zG=k04:=congrArg k01.cmp hw);(have yM:yT=k08:=congrArg k01.un hw);(have zH:zD=λk n=>k.wrap n:=congrArg k01.conv hw);(have zI:zF=λb=> !b:=congrArg k01.not hw);(have yK:zW=λa b=>a == b:=congrArg k01.beq hw);(have yU:yR=k0M:=congrArg k01.mm hw);(have zX:zN=k03:=congrArg k01.scmp hw);(have yB:zQ=λx y=>x++y:=congrArg k01.sadd hw);(have yA:zP=λs=>(s.size:Int):=congrArg k01.slen hw);(have yQ:yC=std.sat:=congrArg k01.sat hw);(have yP:zZ=λa b os=>(k0O a b os).getD false:=congrArg k01.eqs hw);(have zE:zV=λes=>(es.length:Int):=congrArg k01.len hw);(have yO:zT=λes=>es.length:=congrArg k01.nlen hw);(have zR:zK=(λn:Nat=>(n:Int)):=congrArg k01.ofNat hw);(have yD:zM=λes b=>es.take b.toNat:=congrArg k01.take hw);(have yI:zO=λes a=>es.drop a.toNat:=congrArg k01.drop hw);(have yW:yE=λa b=>a++b:=congrArg k01.app hw);(have yN:zS=λn z=>List.replicate n.toNat z:=congrArg k01.zero hw);(have yX:yF=λn=>n.toNat:=congrArg k01.nat hw);(conv=>arg 2;cbv);(generalize hP:Tryz.prog=P);cbv;repeat' (split<;>rename_i h1<;>(try (simp only[zC,zB,yM,zH,zI,yK,yU,zX,yB,yA,yQ,yP,zR,k05,k04,k08,k03,k0M,Bool.not_eq_true',Bool.not_eq_false',decide_eq_true_eq,decide_eq_false_iff_not,Int.not_lt,Int.not_le,if_true,if_false,Bool.false_eq_true,beq_iff_eq,bne_iff_ne,ne_eq,Bool.not_eq_eq_eq_not,Bool.not_true,Bool.not_false,beq_eq_false_iff_ne,bne_eq_false_iff_eq,Int.ofNat_eq_natCast,Bool.not_not,not_true_eq_false,not_false_eq_true,reduceCtorEq] at h1))<;>(try cbv))
 all_goals first
  | (exfalso;omega)
  | exact⟨_,Vw.same rfl,hR _ rfl⟩
theorem kNO{lo hi:Int}(h:hi<lo):k02 Tryz.prog 164 [.int .i64 lo,.bool true,.int .i64 hi,.bool true] (· = .tuple [.agg [.int .i64 0,.int .i64 0],.bool false]):=by
 (refine k02.ofY Tryz.func164 (by kernel_rfl) (by kernel_rfl) λw hw R hR=>?_);(obtain⟨zA,zG,yT,zD,zF,zW,yR,zN,zQ,zP,yC,zZ,zV,zT,zK,zM,zO,yE,zS,yF⟩:=w);(have zC:zA=k05:=congrArg k01.bin hw);(have zB:zG=k04:=congrArg k01.cmp hw);(have yM:yT=k08:=congrArg k01.un hw);(have zH:zD=λk n=>k.wrap n:=congrArg k01.conv hw);(have zI:zF=λb=> !b:=congrArg k01.not hw);(have yK:zW=λa b=>a == b:=congrArg k01.beq hw);(have yU:yR=k0M:=congrArg k01.mm hw);(have zX:zN=k03:=congrArg k01.scmp hw);(have yB:zQ=λx y=>x++y:=congrArg k01.sadd hw);(have yA:zP=λs=>(s.size:Int):=congrArg k01.slen hw);(have yQ:yC=std.sat:=congrArg k01.sat hw);(have yP:zZ=λa b os=>(k0O a b os).getD false:=congrArg k01.eqs hw);(have zE:zV=λes=>(es.length:Int):=congrArg k01.len hw);(have yO:zT=λes=>es.length:=congrArg k01.nlen hw);(have zR:zK=(λn:Nat=>(n:Int)):=congrArg k01.ofNat hw);(have yD:zM=λes b=>es.take b.toNat:=congrArg k01.take hw);(have yI:zO=λes a=>es.drop a.toNat:=congrArg k01.drop hw);(have yW:yE=λa b=>a++b:=congrArg k01.app hw);(have yN:zS=λn z=>List.replicate n.toNat z:=congrArg k01.zero hw);(have yX:yF=λn=>n.toNat:=congrArg k01.nat hw);(conv=>arg 2;cbv);(generalize hP:Tryz.prog=P);cbv;repeat' (split<;>rename_i h1<;>(try (simp only[zC,zB,yM,zH,zI,yK,yU,zX,yB,yA,yQ,yP,zR,k05,k04,k08,k03,k0M,Bool.not_eq_true',Bool.not_eq_false',decide_eq_true_eq,decide_eq_false_iff_not,Int.not_lt,Int.not_le,if_true,if_false,Bool.false_eq_true,beq_iff_eq,bne_iff_ne,ne_eq,Bool.not_eq_eq_eq_not,Bool.not_true,Bool.not_false,beq_eq_false_iff_ne,bne_eq_false_iff_eq,Int.ofNat_eq_natCast,Bool.not_not,not_true_eq_false,not_false_eq_true,reduceCtorEq] at h1))<;>(try cbv))
 all_goals first
  | (exfalso;omega)
  | exact⟨_,Vw.same rfl,hR _ rfl⟩
theorem k22{a b:Int}(o:Bool)(ho:decide (a<=b)=o):k02 Tryz.prog 73 [.agg [.int .i64 a,.int .i64 b]] (· = .bool o):=by
 (refine k02.ofY Tryz.func73 (by kernel_rfl) (by kernel_rfl) λw hw R hR=>?_);(obtain⟨zA,zG,yT,zD,zF,zW,yR,zN,zQ,zP,yC,zZ,zV,zT,zK,zM,zO,yE,zS,yF⟩:=w);(have zC:zA=k05:=congrArg k01.bin hw);(have zB:zG=k04:=congrArg k01.cmp hw);(have yM:yT=k08:=congrArg k01.un hw);(have zH:zD=λk n=>k.wrap n:=congrArg k01.conv hw);(have zI:zF=λb=> !b:=congrArg k01.not hw);(have yK:zW=λa b=>a == b:=congrArg k01.beq hw);(have yU:yR=k0M:=congrArg k01.mm hw);(have zX:zN=k03:=congrArg k01.scmp hw);(have yB:zQ=λx y=>x++y:=congrArg k01.sadd hw);(have yA:zP=λs=>(s.size:Int):=congrArg k01.slen hw);(have yQ:yC=std.sat:=congrArg k01.sat hw);(have yP:zZ=λa b os=>(k0O a b os).getD false:=congrArg k01.eqs hw);(have zE:zV=λes=>(es.length:Int):=congrArg k01.len hw);(have yO:zT=λes=>es.length:=congrArg k01.nlen hw);(have zR:zK=(λn:Nat=>(n:Int)):=congrArg k01.ofNat hw);(have yD:zM=λes b=>es.take b.toNat:=congrArg k01.take hw);(have yI:zO=λes a=>es.drop a.toNat:=congrArg k01.drop hw);(have yW:yE=λa b=>a++b:=congrArg k01.app hw);(have yN:zS=λn z=>List.replicate n.toNat z:=congrArg k01.zero hw);(have yX:yF=λn=>n.toNat:=congrArg k01.nat hw);(conv=>arg 2;cbv);(generalize hP:Tryz.prog=P);cbv;refine⟨_,Vw.same rfl,hR _ ?_⟩;rw[zB,<- ho];rfl
theorem q08{a b c d:Int}(o:Bool)(ho:decide (a<=b->c<=a/\b<=d)=o):k02 Tryz.prog 152 [.agg [.int .i64 a,.int .i64 b],.agg [.int .i64 c,.int .i64 d]] (· = .bool o):=by
 obtain⟨u,eu⟩:∃u,decide (a<=b)=u:=⟨_,rfl⟩;have hr:=k22 (a:=a) (b:=b) u eu;(refine k02.ofY Tryz.func152 (by kernel_rfl) (by kernel_rfl) λw hw R hR=>?_);(obtain⟨zA,zG,yT,zD,zF,zW,yR,zN,zQ,zP,yC,zZ,zV,zT,zK,zM,zO,yE,zS,yF⟩:=w);(have zC:zA=k05:=congrArg k01.bin hw);(have zB:zG=k04:=congrArg k01.cmp hw);(have yM:yT=k08:=congrArg k01.un hw);(have zH:zD=λk n=>k.wrap n:=congrArg k01.conv hw);(have zI:zF=λb=> !b:=congrArg k01.not hw);(have yK:zW=λa b=>a == b:=congrArg k01.beq hw);(have yU:yR=k0M:=congrArg k01.mm hw);(have zX:zN=k03:=congrArg k01.scmp hw);(have yB:zQ=λx y=>x++y:=congrArg k01.sadd hw);(have yA:zP=λs=>(s.size:Int):=congrArg k01.slen hw);(have yQ:yC=std.sat:=congrArg k01.sat hw);(have yP:zZ=λa b os=>(k0O a b os).getD false:=congrArg k01.eqs hw);(have zE:zV=λes=>(es.length:Int):=congrArg k01.len hw);(have yO:zT=λes=>es.length:=congrArg k01.nlen hw);(have zR:zK=(λn:Nat=>(n:Int)):=congrArg k01.ofNat hw);(have yD:zM=λes b=>es.take b.toNat:=congrArg k01.take hw);(have yI:zO=λes a=>es.drop a.toNat:=congrArg k01.drop hw);(have yW:yE=λa b=>a++b:=congrArg k01.app hw);(have yN:zS=λn z=>List.replicate n.toNat z:=congrArg k01.zero hw);(have yX:yF=λn=>n.toNat:=congrArg k01.nat hw);(conv=>arg 2;cbv);(generalize hP:Tryz.prog=P);cbv;refine Call.stepE (by rw[<- hP];exact hr) rfl ?_;cbv;have hn:zF u = !u:=by rw[zI]
 have hF:∀(o':Bool) (h:k00),(o'=true↔(a<=b->c<=a/\b<=d))->Ret [.bool o'] h R:=λo' h k=>⟨_,Vw.same rfl,hR _ (congrArg AV.bool (by rw[<- ho,Bool.eq_iff_iff,k,decide_eq_true_iff]))⟩
 cases u with
 | false =>
   have n1:zF false=true:=(by rw[zI];rfl);simp only[n1];cbv;exact hF true _ (by simp at eu ⊢;omega)
 | true =>
   have n1:zF true=false:=(by rw[zI];rfl);simp only[n1];cbv;have eu':a<=b:=(by simpa using eu);(split<;>rename_i h1<;>(try (simp only[zC,zB,yM,zH,zI,yK,yU,zX,yB,yA,yQ,yP,zR,k05,k04,k08,k03,k0M,Bool.not_eq_true',Bool.not_eq_false',decide_eq_true_eq,decide_eq_false_iff_not,Int.not_lt,Int.not_le,if_true,if_false,Bool.false_eq_true,beq_iff_eq,bne_iff_ne,ne_eq,Bool.not_eq_eq_eq_not,Bool.not_true,Bool.not_false,beq_eq_false_iff_ne,bne_eq_false_iff_eq,Int.ofNat_eq_natCast,Bool.not_not,not_true_eq_false,not_false_eq_true,reduceCtorEq] at h1))<;>(try cbv))
   ·refine hF _ _ ?_
    rw[zB];simp only[k04,decide_eq_true_iff];omega
   ·exact hF false _ (by simp;omega)
theorem kDH{a b c d l h:Int}(h1:a<=b)(h2:c<=d)(hl:a+c=l)(hh:b+d=h)(ha:I62 a)(hb:I62 b)(hc:I62 c)(hd:I62 d):k02 Tryz.prog 105 [.agg [.int .i64 a,.int .i64 b],.agg [.int .i64 c,.int .i64 d]] (· = .tuple [.agg [.int .i64 l,.int .i64 h],.bool true]):=by
 have r1:=k22 (a:=a) (b:=b) true (by simp[h1]);have r2:=k22 (a:=c) (b:=d) true (by simp[h2]);have a1:=kB7 hl ha hc;have a2:=kB7 hh hb hd;have b1:=kB6 (lo:=l) (hi:=h) (by omega);(refine k02.ofY Tryz.func105 (by kernel_rfl) (by kernel_rfl) λw hw R hR=>?_);(obtain⟨zA,zG,yT,zD,zF,zW,yR,zN,zQ,zP,yC,zZ,zV,zT,zK,zM,zO,yE,zS,yF⟩:=w);(have zC:zA=k05:=congrArg k01.bin hw);(have zB:zG=k04:=congrArg k01.cmp hw);(have yM:yT=k08:=congrArg k01.un hw);(have zH:zD=λk n=>k.wrap n:=congrArg k01.conv hw);(have zI:zF=λb=> !b:=congrArg k01.not hw);(have yK:zW=λa b=>a == b:=congrArg k01.beq hw);(have yU:yR=k0M:=congrArg k01.mm hw);(have zX:zN=k03:=congrArg k01.scmp hw);(have yB:zQ=λx y=>x++y:=congrArg k01.sadd hw);(have yA:zP=λs=>(s.size:Int):=congrArg k01.slen hw);(have yQ:yC=std.sat:=congrArg k01.sat hw);(have yP:zZ=λa b os=>(k0O a b os).getD false:=congrArg k01.eqs hw);(have zE:zV=λes=>(es.length:Int):=congrArg k01.len hw);(have yO:zT=λes=>es.length:=congrArg k01.nlen hw);(have zR:zK=(λn:Nat=>(n:Int)):=congrArg k01.ofNat hw);(have yD:zM=λes b=>es.take b.toNat:=congrArg k01.take hw);(have yI:zO=λes a=>es.drop a.toNat:=congrArg k01.drop hw);(have yW:yE=λa b=>a++b:=congrArg k01.app hw);(have yN:zS=λn z=>List.replicate n.toNat z:=congrArg k01.zero hw);(have yX:yF=λn=>n.toNat:=congrArg k01.nat hw);(conv=>arg 2;cbv);(generalize hP:Tryz.prog=P);cbv;have n1:zF true=false:=by rw[zI];rfl
 repeat' (first
  | (refine Call.stepE (by rw[<- hP];exact r1) rfl ?_;cbv;simp only[n1];cbv)
  | (refine Call.stepE (by rw[<- hP];exact r2) rfl ?_;cbv;simp only[n1];cbv)
  | (refine Call.stepE (by rw[<- hP];exact a1) rfl ?_;cbv)
  | (refine Call.stepE (by rw[<- hP];exact a2) rfl ?_;cbv)
  | (refine Call.stepE (by rw[<- hP];exact b1) rfl ?_;cbv))
 exact⟨_,Vw.same rfl,hR _ rfl⟩
theorem kCH{a b m:Int}(h:(a+b)/2=m)(ha:I64 a)(hb:I64 b):k02 Tryz.prog 64 [.agg [.int .i64 a,.int .i64 b]] (· = .int .i64 m):=by
 (refine k02.ofY Tryz.func64 (by kernel_rfl) (by kernel_rfl) λw hw R hR=>?_);(obtain⟨zA,zG,yT,zD,zF,zW,yR,zN,zQ,zP,yC,zZ,zV,zT,zK,zM,zO,yE,zS,yF⟩:=w);(have zC:zA=k05:=congrArg k01.bin hw);(have zB:zG=k04:=congrArg k01.cmp hw);(have yM:yT=k08:=congrArg k01.un hw);(have zH:zD=λk n=>k.wrap n:=congrArg k01.conv hw);(have zI:zF=λb=> !b:=congrArg k01.not hw);(have yK:zW=λa b=>a == b:=congrArg k01.beq hw);(have yU:yR=k0M:=congrArg k01.mm hw);(have zX:zN=k03:=congrArg k01.scmp hw);(have yB:zQ=λx y=>x++y:=congrArg k01.sadd hw);(have yA:zP=λs=>(s.size:Int):=congrArg k01.slen hw);(have yQ:yC=std.sat:=congrArg k01.sat hw);(have yP:zZ=λa b os=>(k0O a b os).getD false:=congrArg k01.eqs hw);(have zE:zV=λes=>(es.length:Int):=congrArg k01.len hw);(have yO:zT=λes=>es.length:=congrArg k01.nlen hw);(have zR:zK=(λn:Nat=>(n:Int)):=congrArg k01.ofNat hw);(have yD:zM=λes b=>es.take b.toNat:=congrArg k01.take hw);(have yI:zO=λes a=>es.drop a.toNat:=congrArg k01.drop hw);(have yW:yE=λa b=>a++b:=congrArg k01.app hw);(have yN:zS=λn z=>List.replicate n.toNat z:=congrArg k01.zero hw);(have yX:yF=λn=>n.toNat:=congrArg k01.nat hw);(conv=>arg 2;cbv);(generalize hP:Tryz.prog=P);cbv;refine Call.stepE (by rw[<- hP];exact(kTS a b ha hb).mono λr hr=>by rw[hr,h]) rfl ?_;cbv;exact⟨_,Vw.same rfl,hR _ rfl⟩
theorem k9C{a b c d x y:Int}(hx:max a c=x)(hy:min b d=y)(h:x<=y):k02 Tryz.prog 147 [.agg [.int .i64 a,.int .i64 b],.agg [.int .i64 c,.int .i64 d]] (· = .tuple [.agg [.int .i64 x,.int .i64 y],.bool true]):=by
 have b1:=kB6 h;(refine k02.ofY Tryz.func147 (by kernel_rfl) (by kernel_rfl) λw hw R hR=>?_);(obtain⟨zA,zG,yT,zD,zF,zW,yR,zN,zQ,zP,yC,zZ,zV,zT,zK,zM,zO,yE,zS,yF⟩:=w);(have zC:zA=k05:=congrArg k01.bin hw);(have zB:zG=k04:=congrArg k01.cmp hw);(have yM:yT=k08:=congrArg k01.un hw);(have zH:zD=λk n=>k.wrap n:=congrArg k01.conv hw);(have zI:zF=λb=> !b:=congrArg k01.not hw);(have yK:zW=λa b=>a == b:=congrArg k01.beq hw);(have yU:yR=k0M:=congrArg k01.mm hw);(have zX:zN=k03:=congrArg k01.scmp hw);(have yB:zQ=λx y=>x++y:=congrArg k01.sadd hw);(have yA:zP=λs=>(s.size:Int):=congrArg k01.slen hw);(have yQ:yC=std.sat:=congrArg k01.sat hw);(have yP:zZ=λa b os=>(k0O a b os).getD false:=congrArg k01.eqs hw);(have zE:zV=λes=>(es.length:Int):=congrArg k01.len hw);(have yO:zT=λes=>es.length:=congrArg k01.nlen hw);(have zR:zK=(λn:Nat=>(n:Int)):=congrArg k01.ofNat hw);(have yD:zM=λes b=>es.take b.toNat:=congrArg k01.take hw);(have yI:zO=λes a=>es.drop a.toNat:=congrArg k01.drop hw);(have yW:yE=λa b=>a++b:=congrArg k01.app hw);(have yN:zS=λn z=>List.replicate n.toNat z:=congrArg k01.zero hw);(have yX:yF=λn=>n.toNat:=congrArg k01.nat hw);(conv=>arg 2;cbv);(generalize hP:Tryz.prog=P);cbv;have e1:yR true a c=x:=by rw[yU,kTI,hx]
 have e2:yR false b d=y:=by rw[yU,kP6,hy]
 simp only[e1,e2];refine Call.stepE (by rw[<- hP];exact b1) rfl ?_;cbv;exact⟨_,Vw.same rfl,hR _ rfl⟩
theorem k6N{a b c d x y:Int}(hx:max a c=x)(hy:min b d=y)(h:y<x):k02 Tryz.prog 147 [.agg [.int .i64 a,.int .i64 b],.agg [.int .i64 c,.int .i64 d]] (· = .tuple [.agg [.int .i64 0,.int .i64 0],.bool false]):=by
 have b1:=kNO h;(refine k02.ofY Tryz.func147 (by kernel_rfl) (by kernel_rfl) λw hw R hR=>?_);(obtain⟨zA,zG,yT,zD,zF,zW,yR,zN,zQ,zP,yC,zZ,zV,zT,zK,zM,zO,yE,zS,yF⟩:=w);(have zC:zA=k05:=congrArg k01.bin hw);(have zB:zG=k04:=congrArg k01.cmp hw);(have yM:yT=k08:=congrArg k01.un hw);(have zH:zD=λk n=>k.wrap n:=congrArg k01.conv hw);(have zI:zF=λb=> !b:=congrArg k01.not hw);(have yK:zW=λa b=>a == b:=congrArg k01.beq hw);(have yU:yR=k0M:=congrArg k01.mm hw);(have zX:zN=k03:=congrArg k01.scmp hw);(have yB:zQ=λx y=>x++y:=congrArg k01.sadd hw);(have yA:zP=λs=>(s.size:Int):=congrArg k01.slen hw);(have yQ:yC=std.sat:=congrArg k01.sat hw);(have yP:zZ=λa b os=>(k0O a b os).getD false:=congrArg k01.eqs hw);(have zE:zV=λes=>(es.length:Int):=congrArg k01.len hw);(have yO:zT=λes=>es.length:=congrArg k01.nlen hw);(have zR:zK=(λn:Nat=>(n:Int)):=congrArg k01.ofNat hw);(have yD:zM=λes b=>es.take b.toNat:=congrArg k01.take hw);(have yI:zO=λes a=>es.drop a.toNat:=congrArg k01.drop hw);(have yW:yE=λa b=>a++b:=congrArg k01.app hw);(have yN:zS=λn z=>List.replicate n.toNat z:=congrArg k01.zero hw);(have yX:yF=λn=>n.toNat:=congrArg k01.nat hw);(conv=>arg 2;cbv);(generalize hP:Tryz.prog=P);cbv;have e1:yR true a c=x:=by rw[yU,kTI,hx]
 have e2:yR false b d=y:=by rw[yU,kP6,hy]
 simp only[e1,e2];refine Call.stepE (by rw[<- hP];exact b1) rfl ?_;cbv;exact⟨_,Vw.same rfl,hR _ rfl⟩
end Go.Proofs.YtlchlddijclhjaaGreat
namespace Go.Eng
open Go Go.RowKit
def kVJ(rs:List kE0)(K:AV->k00->Prop):k17
 | .normal,a,h=>∃l,k54 a h rs=some l/\K (k2Q l) h
 | .ret,a,h=>∃l,k54 a h rs=some l/\K (k2Q l) h
 | _,_,_=>False
def kG5(rs:List kE0)(K:AV->k00->Prop):k17
 | .normal,a,h=>(match k54 a h rs with|some l=>K (k2Q l) h|none=>False)
 | .ret,a,h=>(match k54 a h rs with|some l=>K (k2Q l) h|none=>False)
 | _,_,_=>False
theorem k95{rs:List kE0}{K:AV->k00->Prop}(e:Exit)(a:k09)(h:k00)(H:kG5 rs K e a h):kVJ rs K e a h:=by
 cases e<;>simp only[kG5,kVJ] at H ⊢
 all_goals
  split at H
  ·rename_i l hl
   exact⟨l,hl,H⟩
  ·exact H.elim
theorem k06.inl {P : Program} {g : FuncId} {fn : Func} {F : kPC} {args : List AV} {h : k00} {K : AV → k00 → Prop} (hf : P.funcs[g]? = some fn) (hname : (fn.name == "runtime.NumGoroutine") = false) (hc : k2K P fn = some F) (hdr : k5B P fn = true)
 (H:k3N P h.length F.code (kVJ F.rets K) (k63 args F.n) h):k06 P g args h K:=by
 unfold k2K at hc;split at hc
 ·rename_i code hb
  split at hc
  ·rename_i c r hcc hr
   simp only[Option.some.injEq] at hc;subst hc;refine⟨⟨fn,hf,by simp[hb],hname⟩,λC vs hC RC hv=>?_⟩;refine calls_of_wp hf hb ?_;refine wp_mono (k1G hcc (by unfold k5B at hdr;rw[hb] at hdr;exact hdr) H C _ hC (k7O RC hv fn.ntmps) (Nat.le_refl _)) λe act' w' ⟨a',D,h1,h2,h3,h4,h5⟩=>?_
   have fin:(∃l,k54 a' D.h r=some l/\K (k2Q l) D.h)->act'.defers=[]/\∃v,(results fn act'.tmps).run P w' = .ok v w' /\
    ∃v' r D,Ending.returned v = .returned v'/\K r D.h/\D.w=w'/\Rel D/\VR D r v'/\Ext h.length C D/\h.length<=D.h.length:=by
    rintro⟨l,hl,hK⟩
    obtain⟨u,k1,k2⟩:=k2V hr h3 hl;subst h2;exact⟨h3.nodef,u,k1,u,_,D,rfl,hK,rfl,h3.rel,k2,h4,h5⟩
   cases e with
   | normal=>exact fin h1
   | ret=>exact fin h1
   | exit id=>exact h1.elim
   | goto l=>exact h1.elim
   | panic c=>exact h1.elim
   | outgrown=>exact h1.elim
  ·cases hc
 ·cases hc
def kKZ(w:k01)(F:Option kPC)(P:Program)(args:List AV)(h:k00)(K:AV->k00->Prop):Prop:=
 match F with
 | some F=>k2D w P (k5Q [] F.code) h.length F.code (kG5 F.rets K) (k63 args F.n) h
 | none=>False
theorem Call.inl {P P0 : Program} {w : k01} (hw : w = std) (hP : P0 = P) {g : FuncId} {fn : Func} {args : List AV} {h : k00} {K : k09 → k00 → Prop} {a : k09} {dst : Option Nat} (hf : P0.funcs[g]? = some fn) (hname : (fn.name == "runtime.NumGoroutine") = false) (hdr : k5B P0 fn = true)
 (H:kKZ w (k2K P0 fn) P args h (k4T K a dst)):Call P g args h (k4T K a dst):=by
 subst hP hw;unfold kKZ at H;split at H
 ·rename_i F hF
  exact⟨k06.inl hf hname hF hdr (k0F (λe a h hr=>k95 e a h hr) H)⟩
 ·exact H.elim
section
variable {P:Program} {n:Nat} {c:k2Z} {Q:k17}
def kHA(P:Program)(n:Nat)(c:k2Z)(Q:k17):Nat->k09->k00->Prop
 | 0,_,_=>False
 | k+1,a,h=>k3N P n c (k6Y (kHA P n c Q k) Q) a h
def kCP(w:k01)(P:Program)(el:List Nat)(n:Nat)(c:k2Z)(Q:k17):Nat->k09->k00->Prop
 | 0,_,_=>False
 | k+1,a,h=>k2D w P el n c (k6Y (kCP w P el n c Q k) Q) a h
theorem kBU{el:List Nat}:∀(k:Nat) (a:k09) (h:k00),kCP std P el n c Q k a h->kHA P n c Q k a h
 | 0,a,h,H=>H.elim
 | k+1,a,h,H=>k0F (λe a h hr=>by
    cases e with
    | normal=>exact kBU k a h hr
    | _=>exact hr) H
theorem kCO{code:Code}(hc:k07 P code=some c)(hd:k37 P code=true)(C0:Cfg):∀(k:Nat) (a:k09) (C1:Cfg) (act:Act),kHA P n c Q k a C1.h->St C1 a act->n<=C1.h.length->Ext n C0 C1 ->
 Code.rounds P code (λe act' w'=>∃a' D,Q e a' D.h/\D.w=w'/\St D a' act'/\Ext n C0 D/\n<=D.h.length) k act C1.w
 | 0,a,C1,act,H,S,hn,hE=>H.elim
 | k+1,a,C1,act,H,S,hn,hE=>by
   refine wp_mono (k1G hc hd H C1 act rfl S hn) λe act' w' ⟨a',D,h1,h2,h3,h4,h5⟩=>?_
   cases e with
   | normal =>
     subst h2;exact kCO hc hd C0 k a' D act' h1 h3 h5 (hE.trans h4)
   | _=>exact⟨a',D,h1,h2,h3,hE.trans h4,h5⟩
theorem k1Q.rounds{w:k01}(hw:w=std)(N:Nat){a:k09}{h:k00}(H:kCP w P (k5Q [] c) n c Q N a h):k1Q P n c Q a h:=by
 subst hw;refine⟨λcode hc hd C act hC S hn=>?_⟩;subst hC;exact wp_loop_rounds N (kCO hc hd C N a C act (kBU N a C.h H) S hn (Ext.refl _ _))
end
theorem VR.rens{C D:Cfg}{f:Nat->Nat}{m:Nat}(hw:C.w=D.w)(ho:∀b,C.own b->D.own b)(hs:∀s,s<m->D.used s->C.used (f s)/\C.r (f s)=D.r s){x:AV}{v:Value}(h:VR D x v):x.upto m=true->VR C (x.ren f) v:=by
 induction h with
 | any v=>exact λ_=>.any v
 | bool b=>exact λ_=>.bool b
 | int k n=>exact λ_=>.int k n
 | str s=>exact λ_=>.str s
 | nilp=>exact λ_=>.nilp
 | nils=>exact λ_=>.nils
 | emp a=>exact λ_=>.emp a
 | nilFunc=>exact λ_=>.nilFunc
 | nilIface=>exact λ_=>.nilIface
 | agg cs vs hl h ih =>
   intro hb;refine .agg (k4C f cs) vs (by rw[k1K];exact hl) λi x hi=>?_;rw[k1M] at hi
   cases hc:cs[i]? with
   | none=>rw[hc] at hi;cases hi
   | some y=>rw[hc] at hi;simp only[Option.map_some,Option.some.injEq] at hi;subst hi;exact ih i y hc (k0G hb hc)
 | tuple cs vs hl h ih =>
   intro hb;refine .tuple (k4C f cs) vs (by rw[k1K];exact hl) λi x hi=>?_;rw[k1M] at hi
   cases hc:cs[i]? with
   | none=>rw[hc] at hi;cases hi
   | some y=>rw[hc] at hi;simp only[Option.map_some,Option.some.injEq] at hi;subst hi;exact ih i y hc (k0G hb hc)
 | list z es a n cap g hn hc ha hz hcell hown hv ih =>
   intro hb
   have zE:(k32 f es).length=es.length:=by
    exact k55 f es
   refine .list z (k32 f es) a n cap g (by rw[zE];exact hn) hc ha (λe he=>?_) (λi j hi hj=>by rw[hw];exact hcell i j hi hj) (λh1 h2 h3=>hown h1 h2 (ho _ h3)) λi e he j x hx=>?_
   ·obtain⟨i,hi⟩:=List.mem_iff_getElem?.1 he
    rw[k2E] at hi
    cases hc:es[i]? with
    | none=>rw[hc] at hi;cases hi
    | some y=>rw[hc] at hi;simp only[Option.map_some,Option.some.injEq] at hi;subst hi;rw[k1K];exact hz y (List.mem_of_getElem? hc)
   ·rw[k2E] at he
    cases hc:es[i]? with
    | none=>rw[hc] at he;cases he
    | some y =>
      rw[hc] at he;simp only[Option.map_some,Option.some.injEq] at he;subst he;rw[k1M] at hx
      cases hc2:y[j]? with
      | none=>rw[hc2] at hx;cases hx
      | some u=>rw[hc2] at hx;simp only[Option.map_some,Option.some.injEq] at hx;subst hx;exact ih i y hc j u hc2 (k0G (k1C hb hc) hc2)
 | listNil z a cap=>exact λ_=>.listNil z a cap
 | sl s z i n cap hu hc hsz =>
   intro hb;simp only[AV.upto,decide_eq_true_eq] at hb;obtain⟨h1,h2⟩:=hs s hb hu;obtain⟨e,k,hk,hle⟩:=hsz;rw[<- h2] at hk ⊢;exact .sl (f s) z i n cap h1 hc ⟨e,k,by rw[hw];exact hk,hle⟩
 | ref s z i o hu =>
   intro hb;simp only[AV.upto,decide_eq_true_eq] at hb;obtain⟨h1,h2⟩:=hs s hb hu;rw[<- h2];exact .ref (f s) z i o h1
 | mapr s hu =>
   intro hb;simp only[AV.upto,decide_eq_true_eq] at hb;obtain⟨h1,h2⟩:=hs s hb hu;rw[<- h2];exact .mapr (f s) h1
 | cref cs a g ha hcell hown hv ih =>
   intro hb;refine .cref (k4C f cs) a g ha (λj hj=>by rw[hw];rw[k1K] at hj;exact hcell j hj) (λh1 h3=>hown (by rwa [k1K] at h1) (ho _ h3)) λj x hx=>?_;rw[k1M] at hx
   cases hc:cs[j]? with
   | none=>rw[hc] at hx;cases hx
   | some y=>rw[hc] at hx;simp only[Option.map_some,Option.some.injEq] at hx;subst hx;exact ih j y hc (k0G hb hc)
 | func fn first caps vf vc hf hc h1 h2 ih1 ih2 =>
   intro hb;simp only[AV.upto,Bool.and_eq_true] at hb;refine .func fn (k4C f first) (k4C f caps) vf vc (by rw[k1K];exact hf) (by rw[k1K];exact hc) (λi x hx=>?_) λi x hx=>?_
   ·rw[k1M] at hx
    cases hc:first[i]? with
    | none=>rw[hc] at hx;cases hx
    | some y=>rw[hc] at hx;simp only[Option.map_some,Option.some.injEq] at hx;subst hx;exact ih1 i y hc (k0G hb.1 hc)
   ·rw[k1M] at hx
    cases hc:caps[i]? with
    | none=>rw[hc] at hx;cases hx
    | some y=>rw[hc] at hx;simp only[Option.map_some,Option.some.injEq] at hx;subst hx;exact ih2 i y hc (k0G hb.2 hc)
 | iface t x v h ih=>exact λhb=>.iface t _ v (ih hb)
def kM5(f:Nat->Nat):k27->k27
 | .live z es=>.live z (k32 f es)
 | s=>s
def kL3(f:Nat->Nat)(hD:k00):Nat->k00->k00
 | 0,h=>h
 | m+1,h=>(kL3 f hD m h).set (f m) (kM5 f (hD.getD m .free))
section
variable {f:Nat->Nat} {hD:k00}
theorem kCQ:∀(m:Nat) (h:k00),(kL3 f hD m h).length=h.length
 | 0,h=>rfl
 | m+1,h=>by simp[kL3,kCQ m h]
theorem kL1{s:Nat}:∀(m:Nat) (h:k00),(∀i,i<m->f i≠s)->(kL3 f hD m h)[s]?=h[s]?
 | 0,h,_=>rfl
 | m+1,h,hn=>by
   rw[kL3,List.getElem?_set_ne (hn m (by omega))];exact kL1 m h λi hi=>hn i (by omega)
theorem kL2{i:Nat}:∀(m:Nat) (h:k00),i<m->(∀j,j<m->f i=f j->i=j)->f i<h.length->(kL3 f hD m h)[f i]?=some (kM5 f (hD.getD i .free))
 | m+1,h,hi,hinj,hl=>by
   rw[kL3];by_cases him:i=m
   ·subst him
    rw[List.getElem?_set_self (by rw[kCQ];exact hl)]
   ·rw[List.getElem?_set_ne (λe=>him (hinj m (by omega) e.symm))]
    exact kL2 m h (by omega) (λj hj=>hinj j (by omega)) hl
end
theorem k06.frame{P:Program}{g:FuncId}{args0 args:List AV}{h0 h:k00}{K0 K:AV->k00->Prop}(f:Nat->Nat)(H:k06 P g args0 h0 K0)
 (hinj:∀i,i<h0.length->∀j,j<h0.length->f i=f j->i=j)
 (hh:∀i,i<h0.length->∃z es,h0[i]?=some (.live z es)/\k18 h0.length es=true/\h[f i]?=some (.live z (k32 f es)))
 (ha:k0Q h0.length args0=true) (hr:k4C f args0=args)
 (hK:∀r hD,K0 r hD->r.upto h0.length=true/\(∀i,i<h0.length->∃z es,hD[i]?=some (.live z es)/\k18 h0.length es=true)/\K (r.ren f) (kL3 f hD h0.length h)):k06 P g args h K:=by
 refine⟨H.1,λC vs hC RC hv=>?_⟩;subst hC;obtain⟨C0,eC0⟩:∃C0:Cfg,C0={ O:=λb=>C.O b\/∃s,C.live s/\C.r s=b/\∀i,i<h0.length->f i≠s,r:=λi=>C.r (f i),h:=h0,w:=C.w }:=⟨_,rfl⟩;have c0h:C0.h=h0:=by rw[eC0]
 have c0w:C0.w=C.w:=by rw[eC0]
 have c0r:∀i,C0.r i=C.r (f i):=λi=>by rw[eC0]
 have c0O:∀b,C0.O b↔(C.O b\/∃s,C.live s/\C.r s=b/\∀i,i<h0.length->f i≠s):=λb=>by rw[eC0]
 have live0:∀i,C0.live i->i<h0.length/\C.live (f i):=by
  rintro i ⟨z,es,hx⟩;rw[c0h] at hx;have hi:=(List.getElem?_eq_some_iff.1 hx).1;obtain⟨z',es',_,_,e3⟩:=hh i hi;exact⟨hi,_,_,e3⟩
 have live1:∀i,i<h0.length->C0.live i:=λi hi=>by
  obtain⟨z',es',e1,_,_⟩:=hh i hi;exact⟨_,_,by rw[c0h];exact e1⟩
 have flt:∀i,i<h0.length->f i<C.h.length:=λi hi=>by
  obtain⟨z',es',_,_,e3⟩:=hh i hi;exact(List.getElem?_eq_some_iff.1 e3).1
 have own0:∀b,C0.own b->C.own b:=by
  rintro b (hb|⟨s,hs,hr⟩)
  ·rcases (c0O b).1 hb with hb|⟨s,hs,hr,_⟩
   ·exact .inl hb
   ·exact .inr ⟨s,hs,hr⟩
  ·exact .inr ⟨f s,(live0 s hs).2,by rw[<- c0r];exact hr⟩
 have used0:∀s,s<C0.h.length->C.used (f s)->C0.used s/\C0.r s=C.r (f s):=λs hs _=>by
  rw[c0h] at hs;exact⟨Cfg.used_of_live (live1 s hs),c0r s⟩
 have R0:Rel C0:=by
  refine⟨λs z es hl=>?_,λs t hs ht hr=>?_,λb hb=>?_,λp hp=>(RC.glo p hp).recfg c0w own0 (k49 hp 0),λp hp=>by rw[c0w];exact RC.gsz p hp⟩
  ·rw[c0h] at hl
   have hs:=(List.getElem?_eq_some_iff.1 hl).1;obtain⟨z',es',e1,e2,e3⟩:=hh s hs;rw[hl] at e1;have e1:k27.live z es=k27.live z' es':=(by simpa using e1);cases e1
   obtain⟨g2,o,gg,g4,g5,g6⟩:=RC.livx (f s) z _ e3
   have zE:es.length=(k32 f es).length:=by
    exact(k55 f es).symm
   refine⟨λhO=>?_,o,gg,by rw[c0w,c0r];exact g4,g5.congr zE λi e he=>⟨k4C f e,by rw[k2E,he];rfl,by rw[k1K]⟩,λi e he j x hx=>?_⟩
   ·rw[c0r] at hO
    rcases (c0O _).1 hO with hO|⟨t,ht,hr,hn⟩
    ·exact g2 hO
    ·exact hn s hs (RC.inj t (f s) ht ⟨_,_,e3⟩ hr).symm
   ·have hup:=k0G (k1C e2 he) hx
    exact VR.unren c0w own0 used0 (g6 i (k4C f e) (by rw[k2E,he];rfl) j (x.ren f) (by rw[k1M,hx];rfl)) x (by rw[c0h];exact hup) rfl
  ·obtain⟨a1,a2⟩:=live0 s hs
   obtain⟨b1,b2⟩:=live0 t ht;rw[c0r,c0r] at hr;exact hinj s a1 t b1 (RC.inj _ _ a2 b2 hr)
  ·rw[c0w]
   rcases (c0O b).1 hb with hb|⟨s,hs,rfl,_⟩
   ·exact RC.olt b hb
   ·exact RC.lown_lt ⟨s,hs,rfl⟩
 have v0:VRs C0 args0 vs:=by
  refine⟨by rw[hv.1,<- hr,k1K],λi x hx=>?_⟩;exact VR.unren c0w own0 used0 (hv.2 i (x.ren f) (by rw[<- hr,k1M,hx];rfl)) x (by rw[c0h];exact k0G ha hx) rfl
 have hH:=H.2 C0 vs c0h R0 v0;rw[c0w] at hH;refine hH.mono λe w' ⟨v,r,D,h1,h2,h3,h5,h6,h7,h8⟩=>?_;subst h3;obtain⟨k1,k2,k3⟩:=hK r D.h h2;obtain⟨C',eC'⟩:∃C':Cfg,C'={ O:=C.O,r:=C.r,h:=kL3 f D.h h0.length C.h,w:=D.w }:=⟨_,rfl⟩;have ch:C'.h=kL3 f D.h h0.length C.h:=by rw[eC']
 have cw:C'.w=D.w:=by rw[eC']
 have cr:∀s,C'.r s=C.r s:=λs=>by rw[eC']
 have cO:C'.O=C.O:=by rw[eC']
 have hat:∀i,i<h0.length->∃z es,D.h[i]?=some (.live z es)/\k18 h0.length es=true/\C'.h[f i]?=some (.live z (k32 f es)):=λi hi=>by
  obtain⟨z,es,e1,e2⟩:=k2 i hi;refine⟨z,es,e1,e2,?_⟩;rw[ch,kL2 h0.length C.h hi (λj hj=>hinj i hi j hj) (flt i hi),List.getD_eq_getElem?_getD,e1];rfl
 have hne:∀s,(∀i,i<h0.length->f i≠s)->C'.h[s]?=C.h[s]?:=λs hs=>by rw[ch];exact kL1 h0.length C.h hs
 have dec:∀s,(∃i,i<h0.length/\f i=s)\/∀i,i<h0.length->f i≠s:=λs=>by
  by_cases hx:∃i,i<h0.length/\f i=s
  ·exact .inl hx
  ·exact .inr λi hi e=>hx ⟨i,hi,e⟩
 have livC:∀s,C'.live s↔C.live s:=by
  intro s;rcases dec s with ⟨i,hi,rfl⟩|hs
  ·obtain⟨z,es,_,_,e3⟩:=hat i hi
   obtain⟨z',es',_,_,e3'⟩:=hh i hi;exact⟨λ_=>⟨_,_,e3'⟩,λ_=>⟨_,_,e3⟩⟩
  ·constructor
   ·rintro⟨z,es,hx⟩;exact⟨z,es,by rw[<- hne s hs];exact hx⟩
   ·rintro⟨z,es,hx⟩;exact⟨z,es,by rw[hne s hs];exact hx⟩
 have lownC:∀b,C'.lown b↔C.lown b:=by
  intro b;constructor
  ·rintro⟨s,hs,hr⟩;exact⟨s,(livC s).1 hs,by rw[<- cr];exact hr⟩
  ·rintro⟨s,hs,hr⟩;exact⟨s,(livC s).2 hs,by rw[cr];exact hr⟩
 have lown0:∀b,C0.lown b->C.lown b:=by
  rintro b ⟨s,hs,hr⟩;exact⟨f s,(live0 s hs).2,by rw[<- c0r];exact hr⟩
 have usedD:∀s,s<h0.length->D.used s/\D.r s=C.r (f s):=λs hs=>by
  have:=h7.used s hs (Cfg.used_of_live (live1 s hs));exact⟨this.1,by rw[this.2,c0r]⟩
 have E:∀n,Ext n C C':=λn=>by
  refine⟨cO,by rw[cw,h7.os,c0w],by rw[cw,h7.tape,c0w],by rw[cw,h7.output,c0w],by rw[cw];have:=h7.size;rw[c0w] at this;exact this,λs _ hu=>⟨?_,cr s⟩,λb hb hl=>⟨?_,λhl'=>hl ((lownC b).1 hl')⟩,λb x hx=>?_⟩
  ·rcases dec s with ⟨i,hi,rfl⟩|hs
   ·obtain⟨z,es,_,_,e3⟩:=hat i hi
    exact⟨_,e3,by simp⟩
   ·obtain⟨x,hx,hf⟩:=hu
    exact⟨x,by rw[hne s hs];exact hx,hf⟩
  ·have:=(h7.keep b (by rw[c0w];exact hb) (λh=>hl (lown0 b h))).1
   rw[cw,this,c0w]
  ·rw[cw]
   exact h7.shape b x (by rw[c0w];exact hx)
 have ownD:∀b,C'.own b->D.own b:=by
  rintro b (hb|⟨s,hs,hr⟩)
  ·rw[cO] at hb
   exact .inl (by rw[h7.O];exact(c0O b).2 (.inl hb))
  ·rw[cr] at hr
   have hs:=(livC s).1 hs;rcases dec s with ⟨i,hi,rfl⟩|hsn
   ·obtain⟨z,es,e1,_,_⟩:=hat i hi
    exact .inr ⟨i,⟨z,es,e1⟩,by rw[(usedD i hi).2];exact hr⟩
   ·exact .inl (by rw[h7.O];exact(c0O b).2 (.inr ⟨s,hs,hr,hsn⟩))
 have usedC:∀s,s<h0.length->D.used s->C'.used (f s)/\C'.r (f s)=D.r s:=λs hs _=>by
  obtain⟨z,es,_,_,e3⟩:=hat s hs;exact⟨⟨_,e3,by simp⟩,by rw[cr,(usedD s hs).2]⟩
 have RC':Rel C':=by
  refine RC.of_ext (E _) (λs z es hl=>?_) λs t hs ht hr=>?_
  ·rcases dec s with ⟨i,hi,rfl⟩|hs
   ·refine .inr ?_
    obtain⟨z',es',e1,e2,e3⟩:=hat i hi;rw[hl] at e3;have e3:k27.live z es=k27.live z' (k32 f es'):=(by simpa using e3);cases e3
    obtain⟨g2,o,gg,g4,g5,g6⟩:=h5.livx i z _ e1
    have zE:(k32 f es').length=es'.length:=by
     exact k55 f es'
    refine⟨λhO=>?_,o,gg,by rw[cw,cr,<- (usedD i hi).2];exact g4,g5.congr zE λj e he=>?_,λj e he q x hx=>?_⟩
    ·rw[cr,cO] at hO
     obtain⟨z1,es1,_,_,e3'⟩:=hh i hi;exact(RC.livx (f i) z1 _ e3').1 hO
    ·rw[k2E] at he
     cases hc:es'[j]? with
     | none=>rw[hc] at he;cases he
     | some y=>rw[hc] at he;simp only[Option.map_some,Option.some.injEq] at he;subst he;exact⟨y,rfl,by rw[k1K]⟩
    ·rw[k2E] at he
     cases hc:es'[j]? with
     | none=>rw[hc] at he;cases he
     | some y =>
       rw[hc] at he;simp only[Option.map_some,Option.some.injEq] at he;subst he;rw[k1M] at hx
       cases hc2:y[q]? with
       | none=>rw[hc2] at hx;cases hx
       | some u =>
         rw[hc2] at hx;simp only[Option.map_some,Option.some.injEq] at hx;subst hx;exact VR.rens cw ownD usedC (g6 j y hc q u hc2) (k0G (k1C e2 hc) hc2)
   ·refine .inl ⟨by rw[<- hne s hs];exact hl,cr s,?_⟩
    have hlv:C.live s:=(livC s).1 ⟨z,es,hl⟩;have hb:=RC.lown_lt ⟨s,hlv,rfl⟩
    have:=(h7.keep (C.r s) (by rw[c0w];exact hb) (λh=>by
     obtain⟨t,ht,hr⟩:=h;obtain⟨t1,t2⟩:=live0 t ht;rw[c0r] at hr;exact hs t t1 (RC.inj _ _ t2 hlv hr))).1
    rw[cw,this,c0w]
  ·rw[cr,cr] at hr
   exact RC.inj s t ((livC s).1 hs) ((livC t).1 ht) hr
 refine⟨v,r.ren f,C',h1,by rw[ch];exact k3,cw,RC',VR.rens cw ownD usedC h6 k1,E _,by rw[ch,kCQ];exact Nat.le_refl _⟩
end Go.Eng
