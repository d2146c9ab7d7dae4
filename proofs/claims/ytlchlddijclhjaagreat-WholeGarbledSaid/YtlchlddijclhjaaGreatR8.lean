/- Parts of the proofs. -/
import Derived.KernelRfl
import Derived.Test.YtlchlddijclhjaaGreatR7
import Derived.LoopN
set_option linter.unusedVariables false
set_option linter.unusedSimpArgs false
namespace Go.Proofs.YtlchlddijclhjaaGreat
open Go Go.RowKit Go.Eng
set_option maxRecDepth 100000
def I62(a:Int):Prop:= -4611686018427387904<=a/\a<=4611686018427387903
theorem Iy{a b d:Int}(h:a+b=d)(ha:I62 a)(hb:I62 b):A9 Tryz.prog 96 [.int .i64 a,.int .i64 b] (· = .tuple [.int .i64 d,.bool true]):=by
 unfold I62 at ha hb;(refine A9.ofY Tryz.func96 (by kernel_rfl) (by kernel_rfl) λw hw R hR=>?_);(obtain⟨zB,zE,yN,zD,zF,zX,yO,zP,zS,zR,yA,yB,zK,zU,zM,zN,zO,yG,zT,yH⟩:=w);(have zC:zB=AF:=congrArg A8.bin hw);(have zA:zE=AC:=congrArg A8.cmp hw);(have yJ:yN=AO:=congrArg A8.un hw);(have zG:zD=λk n=>k.wrap n:=congrArg A8.conv hw);(have zI:zF=λb=> !b:=congrArg A8.not hw);(have yM:zX=λa b=>a == b:=congrArg A8.beq hw);(have yS:yO=AL:=congrArg A8.mm hw);(have zZ:zP=AP:=congrArg A8.scmp hw);(have yF:zS=λx y=>x++y:=congrArg A8.sadd hw);(have yE:zR=λs=>(s.size:Int):=congrArg A8.slen hw);(have yT:yA=std.sat:=congrArg A8.sat hw);(have yU:yB=λa b os=>(Au a b os).getD false:=congrArg A8.eqs hw);(have zH:zK=λes=>(es.length:Int):=congrArg A8.len hw);(have yR:zU=λes=>es.length:=congrArg A8.nlen hw);(have zV:zM=(λn:Nat=>(n:Int)):=congrArg A8.ofNat hw);(have yI:zN=λes b=>es.take b.toNat:=congrArg A8.take hw);(have yL:zO=λes a=>es.drop a.toNat:=congrArg A8.drop hw);(have yX:yG=λa b=>a++b:=congrArg A8.app hw);(have yQ:zT=λn z=>List.replicate n.toNat z:=congrArg A8.zero hw);(have yY:yH=λn=>n.toNat:=congrArg A8.nat hw);(conv=>arg 2;cbv);(generalize hP:Tryz.prog=P);cbv;have ed:zB .add .i64 a b=d:=by rw[zC,Ag (by omega) (by omega)];exact h
 simp only[ed]
 have tJ:zX (zE .geq a 0) (zE .geq b 0)=false\/zX (zE .geq d 0) (zE .geq a 0)=true:=by
  rw[yM,zA];simp only[AC,beq_iff_eq,beq_eq_false_iff_ne,ne_eq,decide_eq_decide];omega
 repeat' (split<;>rename_i h1<;>(try (simp only[zC,zA,yJ,zG,zI,yM,yS,zZ,yF,yE,yT,yU,zV,AF,AC,AO,AP,AL,Bool.not_eq_true',Bool.not_eq_false',decide_eq_true_eq,decide_eq_false_iff_not,Int.not_lt,Int.not_le,if_true,if_false,Bool.false_eq_true,beq_iff_eq,bne_iff_ne,ne_eq,Bool.not_eq_eq_eq_not,Bool.not_true,Bool.not_false,beq_eq_false_iff_ne,bne_eq_false_iff_eq,Int.ofNat_eq_natCast,Bool.not_not,not_true_eq_false,not_false_eq_true,reduceCtorEq] at h1))<;>(try cbv))
 all_goals first
  | exact⟨_,Vw.same rfl,hR _ rfl⟩
  | (exfalso;simp only[yM,zA,AC,beq_iff_eq,beq_eq_false_iff_ne,ne_eq,decide_eq_decide] at *;omega)
theorem Je{a b d:Int}(h:a-b=d)(ha:I62 a)(hb:I62 b):A9 Tryz.prog 207 [.int .i64 a,.int .i64 b] (· = .tuple [.int .i64 d,.bool true]):=by
 unfold I62 at ha hb;(refine A9.ofY Tryz.func207 (by kernel_rfl) (by kernel_rfl) λw hw R hR=>?_);(obtain⟨zB,zE,yN,zD,zF,zX,yO,zP,zS,zR,yA,yB,zK,zU,zM,zN,zO,yG,zT,yH⟩:=w);(have zC:zB=AF:=congrArg A8.bin hw);(have zA:zE=AC:=congrArg A8.cmp hw);(have yJ:yN=AO:=congrArg A8.un hw);(have zG:zD=λk n=>k.wrap n:=congrArg A8.conv hw);(have zI:zF=λb=> !b:=congrArg A8.not hw);(have yM:zX=λa b=>a == b:=congrArg A8.beq hw);(have yS:yO=AL:=congrArg A8.mm hw);(have zZ:zP=AP:=congrArg A8.scmp hw);(have yF:zS=λx y=>x++y:=congrArg A8.sadd hw);(have yE:zR=λs=>(s.size:Int):=congrArg A8.slen hw);(have yT:yA=std.sat:=congrArg A8.sat hw);(have yU:yB=λa b os=>(Au a b os).getD false:=congrArg A8.eqs hw);(have zH:zK=λes=>(es.length:Int):=congrArg A8.len hw);(have yR:zU=λes=>es.length:=congrArg A8.nlen hw);(have zV:zM=(λn:Nat=>(n:Int)):=congrArg A8.ofNat hw);(have yI:zN=λes b=>es.take b.toNat:=congrArg A8.take hw);(have yL:zO=λes a=>es.drop a.toNat:=congrArg A8.drop hw);(have yX:yG=λa b=>a++b:=congrArg A8.app hw);(have yQ:zT=λn z=>List.replicate n.toNat z:=congrArg A8.zero hw);(have yY:yH=λn=>n.toNat:=congrArg A8.nat hw);(conv=>arg 2;cbv);(generalize hP:Tryz.prog=P);cbv;have ed:zB .sub .i64 a b=d:=by rw[zC,Bj (by omega) (by omega)];exact h
 simp only[ed]
 have tJ:zX (zE .geq a 0) (zE .geq b 0)=true\/zX (zE .geq d 0) (zE .geq a 0)=true:=by
  rw[yM,zA];simp only[AC,beq_iff_eq,decide_eq_decide];omega
 repeat' (split<;>rename_i h1<;>(try (simp only[zC,zA,yJ,zG,zI,yM,yS,zZ,yF,yE,yT,yU,zV,AF,AC,AO,AP,AL,Bool.not_eq_true',Bool.not_eq_false',decide_eq_true_eq,decide_eq_false_iff_not,Int.not_lt,Int.not_le,if_true,if_false,Bool.false_eq_true,beq_iff_eq,bne_iff_ne,ne_eq,Bool.not_eq_eq_eq_not,Bool.not_true,Bool.not_false,beq_eq_false_iff_ne,bne_eq_false_iff_eq,Int.ofNat_eq_natCast,Bool.not_not,not_true_eq_false,not_false_eq_true,reduceCtorEq] at h1))<;>(try cbv))
 all_goals first
  | exact⟨_,Vw.same rfl,hR _ rfl⟩
  | (exfalso;simp only[yM,zA,AC,beq_iff_eq,decide_eq_decide] at *;omega)
theorem Sc(d:Int)(b:Bool):A9 Tryz.prog 212 [.int .i64 d,.bool true,.bool b] (· = .int .i64 d):=by
 (refine A9.ofY Tryz.func212 (by kernel_rfl) (by kernel_rfl) λw hw R hR=>?_);(obtain⟨zB,zE,yN,zD,zF,zX,yO,zP,zS,zR,yA,yB,zK,zU,zM,zN,zO,yG,zT,yH⟩:=w);(have zC:zB=AF:=congrArg A8.bin hw);(have zA:zE=AC:=congrArg A8.cmp hw);(have yJ:yN=AO:=congrArg A8.un hw);(have zG:zD=λk n=>k.wrap n:=congrArg A8.conv hw);(have zI:zF=λb=> !b:=congrArg A8.not hw);(have yM:zX=λa b=>a == b:=congrArg A8.beq hw);(have yS:yO=AL:=congrArg A8.mm hw);(have zZ:zP=AP:=congrArg A8.scmp hw);(have yF:zS=λx y=>x++y:=congrArg A8.sadd hw);(have yE:zR=λs=>(s.size:Int):=congrArg A8.slen hw);(have yT:yA=std.sat:=congrArg A8.sat hw);(have yU:yB=λa b os=>(Au a b os).getD false:=congrArg A8.eqs hw);(have zH:zK=λes=>(es.length:Int):=congrArg A8.len hw);(have yR:zU=λes=>es.length:=congrArg A8.nlen hw);(have zV:zM=(λn:Nat=>(n:Int)):=congrArg A8.ofNat hw);(have yI:zN=λes b=>es.take b.toNat:=congrArg A8.take hw);(have yL:zO=λes a=>es.drop a.toNat:=congrArg A8.drop hw);(have yX:yG=λa b=>a++b:=congrArg A8.app hw);(have yQ:zT=λn z=>List.replicate n.toNat z:=congrArg A8.zero hw);(have yY:yH=λn=>n.toNat:=congrArg A8.nat hw);(conv=>arg 2;cbv);(generalize hP:Tryz.prog=P);cbv;exact⟨_,Vw.same rfl,hR _ rfl⟩
theorem TN{a b d:Int}(h:a+b=d)(ha:I62 a)(hb:I62 b):A9 Tryz.prog 155 [.int .i64 a,.int .i64 b] (· = .int .i64 d):=by
 (refine A9.ofY Tryz.func155 (by kernel_rfl) (by kernel_rfl) λw hw R hR=>?_);(obtain⟨zB,zE,yN,zD,zF,zX,yO,zP,zS,zR,yA,yB,zK,zU,zM,zN,zO,yG,zT,yH⟩:=w);(have zC:zB=AF:=congrArg A8.bin hw);(have zA:zE=AC:=congrArg A8.cmp hw);(have yJ:yN=AO:=congrArg A8.un hw);(have zG:zD=λk n=>k.wrap n:=congrArg A8.conv hw);(have zI:zF=λb=> !b:=congrArg A8.not hw);(have yM:zX=λa b=>a == b:=congrArg A8.beq hw);(have yS:yO=AL:=congrArg A8.mm hw);(have zZ:zP=AP:=congrArg A8.scmp hw);(have yF:zS=λx y=>x++y:=congrArg A8.sadd hw);(have yE:zR=λs=>(s.size:Int):=congrArg A8.slen hw);(have yT:yA=std.sat:=congrArg A8.sat hw);(have yU:yB=λa b os=>(Au a b os).getD false:=congrArg A8.eqs hw);(have zH:zK=λes=>(es.length:Int):=congrArg A8.len hw);(have yR:zU=λes=>es.length:=congrArg A8.nlen hw);(have zV:zM=(λn:Nat=>(n:Int)):=congrArg A8.ofNat hw);(have yI:zN=λes b=>es.take b.toNat:=congrArg A8.take hw);(have yL:zO=λes a=>es.drop a.toNat:=congrArg A8.drop hw);(have yX:yG=λa b=>a++b:=congrArg A8.app hw);(have yQ:zT=λn z=>List.replicate n.toNat z:=congrArg A8.zero hw);(have yY:yH=λn=>n.toNat:=congrArg A8.nat hw);(conv=>arg 2;cbv);(generalize hP:Tryz.prog=P);cbv;refine Call.stepE (by rw[<- hP];exact Iy h ha hb) rfl ?_;cbv;obtain⟨o,eo⟩:∃o,zE .lss a 0=o:=⟨_,rfl⟩;simp only[eo];refine Call.stepE (by rw[<- hP];exact Sc d o) rfl ?_;cbv;exact⟨_,Vw.same rfl,hR _ rfl⟩
theorem I1(a b:Int):AL true a b=max a b:=by simp only[AL,if_true];split<;>omega
theorem G5(a b:Int):AL false a b=min a b:=by simp only[AL,Bool.false_eq_true,if_false];split<;>omega
theorem dR{x lo hi v:Int}(h:max lo (min x hi)=v):A9 Tryz.prog 154 [.int .i64 x,.int .i64 lo,.int .i64 hi] (· = .int .i64 v):=by
 (refine A9.ofY Tryz.func154 (by kernel_rfl) (by kernel_rfl) λw hw R hR=>?_);(obtain⟨zB,zE,yN,zD,zF,zX,yO,zP,zS,zR,yA,yB,zK,zU,zM,zN,zO,yG,zT,yH⟩:=w);(have zC:zB=AF:=congrArg A8.bin hw);(have zA:zE=AC:=congrArg A8.cmp hw);(have yJ:yN=AO:=congrArg A8.un hw);(have zG:zD=λk n=>k.wrap n:=congrArg A8.conv hw);(have zI:zF=λb=> !b:=congrArg A8.not hw);(have yM:zX=λa b=>a == b:=congrArg A8.beq hw);(have yS:yO=AL:=congrArg A8.mm hw);(have zZ:zP=AP:=congrArg A8.scmp hw);(have yF:zS=λx y=>x++y:=congrArg A8.sadd hw);(have yE:zR=λs=>(s.size:Int):=congrArg A8.slen hw);(have yT:yA=std.sat:=congrArg A8.sat hw);(have yU:yB=λa b os=>(Au a b os).getD false:=congrArg A8.eqs hw);(have zH:zK=λes=>(es.length:Int):=congrArg A8.len hw);(have yR:zU=λes=>es.length:=congrArg A8.nlen hw);(have zV:zM=(λn:Nat=>(n:Int)):=congrArg A8.ofNat hw);(have yI:zN=λes b=>es.take b.toNat:=congrArg A8.take hw);(have yL:zO=λes a=>es.drop a.toNat:=congrArg A8.drop hw);(have yX:yG=λa b=>a++b:=congrArg A8.app hw);(have yQ:zT=λn z=>List.replicate n.toNat z:=congrArg A8.zero hw);(have yY:yH=λn=>n.toNat:=congrArg A8.nat hw);(conv=>arg 2;cbv);(generalize hP:Tryz.prog=P);cbv;obtain⟨m,em⟩:∃m,min x hi=m:=⟨_,rfl⟩;have e1:yO false x hi=m:=by rw[yS,G5,em]
 have e2:yO true lo m=v:=by rw[yS,I1,<- h,em]
 simp only[e1,e2];exact⟨_,Vw.same rfl,hR _ rfl⟩
theorem Kk{lo hi:Int}(h:lo<=hi):A9 Tryz.prog 164 [.int .i64 lo,.bool true,.int .i64 hi,.bool true] (· = .tuple [.agg [.int .i64 lo,.int .i64 hi],.bool true]):=by
 (refine A9.ofY Tryz.func164 (by kernel_rfl) (by kernel_rfl) λw hw R hR=>?_);(obtain⟨zB,zE,yN,zD,zF,zX,yO,zP,zS,zR,yA,yB,zK,zU,zM,zN,zO,yG,zT,yH⟩:=w);(have zC:zB=AF:=congrArg A8.bin hw);(have zA:zE=AC:=congrArg A8.cmp hw);(have yJ:yN=AO:=congrArg A8.un hw);(have zG:zD=λk n=>k.wrap n:=congrArg A8.conv hw);(have zI:zF=λb=> !b:=congrArg A8.not hw);(have yM:zX=λa b=>a == b:=congrArg A8.beq hw);(have yS:yO=AL:=congrArg A8.mm hw);(have zZ:zP=AP:=congrArg A8.scmp hw);(have yF:zS=λx y=>x++y:=congrArg A8.sadd hw);(have yE:zR=λs=>(s.size:Int):=congrArg A8.slen hw);(have yT:yA=std.sat:=congrArg A8.sat hw);(have yU:yB=λa b os=>(Au a b os).getD false:=congrArg A8.eqs hw);(have zH:zK=λes=>(es.length:Int):=congrArg A8.len hw);(have yR:zU=λes=>es.length:=congrArg A8.nlen hw);(have zV:zM=(λn:Nat=>(n:Int)):=congrArg A8.ofNat hw);(have yI:zN=λes b=>es.take b.toNat:=congrArg A8.take hw);(have yL:zO=λes a=>es.drop a.toNat:=congrArg A8.drop hw);(have yX:yG=λa b=>a++b:=congrArg A8.app hw);(have yQ:zT=λn z=>List.replicate n.toNat z:=congrArg A8.zero hw);(have yY:yH=λn=>n.toNat:=congrArg A8.nat hw);(conv=>arg 2;cbv);(generalize hP:Tryz.prog=P);cbv;repeat' (split<;>rename_i h1<;>(try (simp only[zC,zA,yJ,zG,zI,yM,yS,zZ,yF,yE,yT,yU,zV,AF,AC,AO,AP,AL,Bool.not_eq_true',Bool.not_eq_false',decide_eq_true_eq,decide_eq_false_iff_not,Int.not_lt,Int.not_le,if_true,if_false,Bool.false_eq_true,beq_iff_eq,bne_iff_ne,ne_eq,Bool.not_eq_eq_eq_not,Bool.not_true,Bool.not_false,beq_eq_false_iff_ne,bne_eq_false_iff_eq,Int.ofNat_eq_natCast,Bool.not_not,not_true_eq_false,not_false_eq_true,reduceCtorEq] at h1))<;>(try cbv))
 all_goals first
  | (exfalso;omega)
  | exact⟨_,Vw.same rfl,hR _ rfl⟩
theorem dS{lo hi:Int}(h:hi<lo):A9 Tryz.prog 164 [.int .i64 lo,.bool true,.int .i64 hi,.bool true] (· = .tuple [.agg [.int .i64 0,.int .i64 0],.bool false]):=by
 (refine A9.ofY Tryz.func164 (by kernel_rfl) (by kernel_rfl) λw hw R hR=>?_);(obtain⟨zB,zE,yN,zD,zF,zX,yO,zP,zS,zR,yA,yB,zK,zU,zM,zN,zO,yG,zT,yH⟩:=w);(have zC:zB=AF:=congrArg A8.bin hw);(have zA:zE=AC:=congrArg A8.cmp hw);(have yJ:yN=AO:=congrArg A8.un hw);(have zG:zD=λk n=>k.wrap n:=congrArg A8.conv hw);(have zI:zF=λb=> !b:=congrArg A8.not hw);(have yM:zX=λa b=>a == b:=congrArg A8.beq hw);(have yS:yO=AL:=congrArg A8.mm hw);(have zZ:zP=AP:=congrArg A8.scmp hw);(have yF:zS=λx y=>x++y:=congrArg A8.sadd hw);(have yE:zR=λs=>(s.size:Int):=congrArg A8.slen hw);(have yT:yA=std.sat:=congrArg A8.sat hw);(have yU:yB=λa b os=>(Au a b os).getD false:=congrArg A8.eqs hw);(have zH:zK=λes=>(es.length:Int):=congrArg A8.len hw);(have yR:zU=λes=>es.length:=congrArg A8.nlen hw);(have zV:zM=(λn:Nat=>(n:Int)):=congrArg A8.ofNat hw);(have yI:zN=λes b=>es.take b.toNat:=congrArg A8.take hw);(have yL:zO=λes a=>es.drop a.toNat:=congrArg A8.drop hw);(have yX:yG=λa b=>a++b:=congrArg A8.app hw);(have yQ:zT=λn z=>List.replicate n.toNat z:=congrArg A8.zero hw);(have yY:yH=λn=>n.toNat:=congrArg A8.nat hw);(conv=>arg 2;cbv);(generalize hP:Tryz.prog=P);cbv;repeat' (split<;>rename_i h1<;>(try (simp only[zC,zA,yJ,zG,zI,yM,yS,zZ,yF,yE,yT,yU,zV,AF,AC,AO,AP,AL,Bool.not_eq_true',Bool.not_eq_false',decide_eq_true_eq,decide_eq_false_iff_not,Int.not_lt,Int.not_le,if_true,if_false,Bool.false_eq_true,beq_iff_eq,bne_iff_ne,ne_eq,Bool.not_eq_eq_eq_not,Bool.not_true,Bool.not_false,beq_eq_false_iff_ne,bne_eq_false_iff_eq,Int.ofNat_eq_natCast,Bool.not_not,not_true_eq_false,not_false_eq_true,reduceCtorEq] at h1))<;>(try cbv))
 all_goals first
  | (exfalso;omega)
  | exact⟨_,Vw.same rfl,hR _ rfl⟩
theorem Dt{a b:Int}(o:Bool)(ho:decide (a<=b)=o):A9 Tryz.prog 73 [.agg [.int .i64 a,.int .i64 b]] (· = .bool o):=by
 (refine A9.ofY Tryz.func73 (by kernel_rfl) (by kernel_rfl) λw hw R hR=>?_);(obtain⟨zB,zE,yN,zD,zF,zX,yO,zP,zS,zR,yA,yB,zK,zU,zM,zN,zO,yG,zT,yH⟩:=w);(have zC:zB=AF:=congrArg A8.bin hw);(have zA:zE=AC:=congrArg A8.cmp hw);(have yJ:yN=AO:=congrArg A8.un hw);(have zG:zD=λk n=>k.wrap n:=congrArg A8.conv hw);(have zI:zF=λb=> !b:=congrArg A8.not hw);(have yM:zX=λa b=>a == b:=congrArg A8.beq hw);(have yS:yO=AL:=congrArg A8.mm hw);(have zZ:zP=AP:=congrArg A8.scmp hw);(have yF:zS=λx y=>x++y:=congrArg A8.sadd hw);(have yE:zR=λs=>(s.size:Int):=congrArg A8.slen hw);(have yT:yA=std.sat:=congrArg A8.sat hw);(have yU:yB=λa b os=>(Au a b os).getD false:=congrArg A8.eqs hw);(have zH:zK=λes=>(es.length:Int):=congrArg A8.len hw);(have yR:zU=λes=>es.length:=congrArg A8.nlen hw);(have zV:zM=(λn:Nat=>(n:Int)):=congrArg A8.ofNat hw);(have yI:zN=λes b=>es.take b.toNat:=congrArg A8.take hw);(have yL:zO=λes a=>es.drop a.toNat:=congrArg A8.drop hw);(have yX:yG=λa b=>a++b:=congrArg A8.app hw);(have yQ:zT=λn z=>List.replicate n.toNat z:=congrArg A8.zero hw);(have yY:yH=λn=>n.toNat:=congrArg A8.nat hw);(conv=>arg 2;cbv);(generalize hP:Tryz.prog=P);cbv;refine⟨_,Vw.same rfl,hR _ ?_⟩;rw[zA,<- ho];rfl
theorem TP{a b c d:Int}(o:Bool)(ho:decide (a<=b->c<=a/\b<=d)=o):A9 Tryz.prog 152 [.agg [.int .i64 a,.int .i64 b],.agg [.int .i64 c,.int .i64 d]] (· = .bool o):=by
 obtain⟨u,eu⟩:∃u,decide (a<=b)=u:=⟨_,rfl⟩;have hr:=Dt (a:=a) (b:=b) u eu;(refine A9.ofY Tryz.func152 (by kernel_rfl) (by kernel_rfl) λw hw R hR=>?_);(obtain⟨zB,zE,yN,zD,zF,zX,yO,zP,zS,zR,yA,yB,zK,zU,zM,zN,zO,yG,zT,yH⟩:=w);(have zC:zB=AF:=congrArg A8.bin hw);(have zA:zE=AC:=congrArg A8.cmp hw);(have yJ:yN=AO:=congrArg A8.un hw);(have zG:zD=λk n=>k.wrap n:=congrArg A8.conv hw);(have zI:zF=λb=> !b:=congrArg A8.not hw);(have yM:zX=λa b=>a == b:=congrArg A8.beq hw);(have yS:yO=AL:=congrArg A8.mm hw);(have zZ:zP=AP:=congrArg A8.scmp hw);(have yF:zS=λx y=>x++y:=congrArg A8.sadd hw);(have yE:zR=λs=>(s.size:Int):=congrArg A8.slen hw);(have yT:yA=std.sat:=congrArg A8.sat hw);(have yU:yB=λa b os=>(Au a b os).getD false:=congrArg A8.eqs hw);(have zH:zK=λes=>(es.length:Int):=congrArg A8.len hw);(have yR:zU=λes=>es.length:=congrArg A8.nlen hw);(have zV:zM=(λn:Nat=>(n:Int)):=congrArg A8.ofNat hw);(have yI:zN=λes b=>es.take b.toNat:=congrArg A8.take hw);(have yL:zO=λes a=>es.drop a.toNat:=congrArg A8.drop hw);(have yX:yG=λa b=>a++b:=congrArg A8.app hw);(have yQ:zT=λn z=>List.replicate n.toNat z:=congrArg A8.zero hw);(have yY:yH=λn=>n.toNat:=congrArg A8.nat hw);(conv=>arg 2;cbv);(generalize hP:Tryz.prog=P);cbv;refine Call.stepE (by rw[<- hP];exact hr) rfl ?_;cbv;have hn:zF u = !u:=by rw[zI]
 have hF:∀(o':Bool) (h:A7),(o'=true↔(a<=b->c<=a/\b<=d))->Ret [.bool o'] h R:=λo' h k=>⟨_,Vw.same rfl,hR _ (congrArg AV.bool (by rw[<- ho,Bool.eq_iff_iff,k,decide_eq_true_iff]))⟩
 cases u with
 | false =>
   have n1:zF false=true:=(by rw[zI];rfl);simp only[n1];cbv;exact hF true _ (by simp at eu ⊢;omega)
 | true =>
   have n1:zF true=false:=(by rw[zI];rfl);simp only[n1];cbv;have eu':a<=b:=(by simpa using eu);(split<;>rename_i h1<;>(try (simp only[zC,zA,yJ,zG,zI,yM,yS,zZ,yF,yE,yT,yU,zV,AF,AC,AO,AP,AL,Bool.not_eq_true',Bool.not_eq_false',decide_eq_true_eq,decide_eq_false_iff_not,Int.not_lt,Int.not_le,if_true,if_false,Bool.false_eq_true,beq_iff_eq,bne_iff_ne,ne_eq,Bool.not_eq_eq_eq_not,Bool.not_true,Bool.not_false,beq_eq_false_iff_ne,bne_eq_false_iff_eq,Int.ofNat_eq_natCast,Bool.not_not,not_true_eq_false,not_false_eq_true,reduceCtorEq] at h1))<;>(try cbv))
   ·refine hF _ _ ?_
    rw[zA];simp only[AC,decide_eq_true_iff];omega
   ·exact hF false _ (by simp;omega)
theorem MQ{a b c d l h:Int}(h1:a<=b)(h2:c<=d)(hl:a+c=l)(hh:b+d=h)(ha:I62 a)(hb:I62 b)(hc:I62 c)(hd:I62 d):A9 Tryz.prog 105 [.agg [.int .i64 a,.int .i64 b],.agg [.int .i64 c,.int .i64 d]] (· = .tuple [.agg [.int .i64 l,.int .i64 h],.bool true]):=by
 have r1:=Dt (a:=a) (b:=b) true (by simp[h1]);have r2:=Dt (a:=c) (b:=d) true (by simp[h2]);have a1:=Iy hl ha hc;have a2:=Iy hh hb hd;have b1:=Kk (lo:=l) (hi:=h) (by omega);(refine A9.ofY Tryz.func105 (by kernel_rfl) (by kernel_rfl) λw hw R hR=>?_);(obtain⟨zB,zE,yN,zD,zF,zX,yO,zP,zS,zR,yA,yB,zK,zU,zM,zN,zO,yG,zT,yH⟩:=w);(have zC:zB=AF:=congrArg A8.bin hw);(have zA:zE=AC:=congrArg A8.cmp hw);(have yJ:yN=AO:=congrArg A8.un hw);(have zG:zD=λk n=>k.wrap n:=congrArg A8.conv hw);(have zI:zF=λb=> !b:=congrArg A8.not hw);(have yM:zX=λa b=>a == b:=congrArg A8.beq hw);(have yS:yO=AL:=congrArg A8.mm hw);(have zZ:zP=AP:=congrArg A8.scmp hw);(have yF:zS=λx y=>x++y:=congrArg A8.sadd hw);(have yE:zR=λs=>(s.size:Int):=congrArg A8.slen hw);(have yT:yA=std.sat:=congrArg A8.sat hw);(have yU:yB=λa b os=>(Au a b os).getD false:=congrArg A8.eqs hw);(have zH:zK=λes=>(es.length:Int):=congrArg A8.len hw);(have yR:zU=λes=>es.length:=congrArg A8.nlen hw);(have zV:zM=(λn:Nat=>(n:Int)):=congrArg A8.ofNat hw);(have yI:zN=λes b=>es.take b.toNat:=congrArg A8.take hw);(have yL:zO=λes a=>es.drop a.toNat:=congrArg A8.drop hw);(have yX:yG=λa b=>a++b:=congrArg A8.app hw);(have yQ:zT=λn z=>List.replicate n.toNat z:=congrArg A8.zero hw);(have yY:yH=λn=>n.toNat:=congrArg A8.nat hw);(conv=>arg 2;cbv);(generalize hP:Tryz.prog=P);cbv;have n1:zF true=false:=by rw[zI];rfl
 repeat' (first
  | (refine Call.stepE (by rw[<- hP];exact r1) rfl ?_;cbv;simp only[n1];cbv)
  | (refine Call.stepE (by rw[<- hP];exact r2) rfl ?_;cbv;simp only[n1];cbv)
  | (refine Call.stepE (by rw[<- hP];exact a1) rfl ?_;cbv)
  | (refine Call.stepE (by rw[<- hP];exact a2) rfl ?_;cbv)
  | (refine Call.stepE (by rw[<- hP];exact b1) rfl ?_;cbv))
 exact⟨_,Vw.same rfl,hR _ rfl⟩
theorem Jd{a b m:Int}(h:(a+b)/2=m)(ha:I64 a)(hb:I64 b):A9 Tryz.prog 64 [.agg [.int .i64 a,.int .i64 b]] (· = .int .i64 m):=by
 (refine A9.ofY Tryz.func64 (by kernel_rfl) (by kernel_rfl) λw hw R hR=>?_);(obtain⟨zB,zE,yN,zD,zF,zX,yO,zP,zS,zR,yA,yB,zK,zU,zM,zN,zO,yG,zT,yH⟩:=w);(have zC:zB=AF:=congrArg A8.bin hw);(have zA:zE=AC:=congrArg A8.cmp hw);(have yJ:yN=AO:=congrArg A8.un hw);(have zG:zD=λk n=>k.wrap n:=congrArg A8.conv hw);(have zI:zF=λb=> !b:=congrArg A8.not hw);(have yM:zX=λa b=>a == b:=congrArg A8.beq hw);(have yS:yO=AL:=congrArg A8.mm hw);(have zZ:zP=AP:=congrArg A8.scmp hw);(have yF:zS=λx y=>x++y:=congrArg A8.sadd hw);(have yE:zR=λs=>(s.size:Int):=congrArg A8.slen hw);(have yT:yA=std.sat:=congrArg A8.sat hw);(have yU:yB=λa b os=>(Au a b os).getD false:=congrArg A8.eqs hw);(have zH:zK=λes=>(es.length:Int):=congrArg A8.len hw);(have yR:zU=λes=>es.length:=congrArg A8.nlen hw);(have zV:zM=(λn:Nat=>(n:Int)):=congrArg A8.ofNat hw);(have yI:zN=λes b=>es.take b.toNat:=congrArg A8.take hw);(have yL:zO=λes a=>es.drop a.toNat:=congrArg A8.drop hw);(have yX:yG=λa b=>a++b:=congrArg A8.app hw);(have yQ:zT=λn z=>List.replicate n.toNat z:=congrArg A8.zero hw);(have yY:yH=λn=>n.toNat:=congrArg A8.nat hw);(conv=>arg 2;cbv);(generalize hP:Tryz.prog=P);cbv;refine Call.stepE (by rw[<- hP];exact(QS a b ha hb).mono λr hr=>by rw[hr,h]) rfl ?_;cbv;exact⟨_,Vw.same rfl,hR _ rfl⟩
theorem JL{a b c d x y:Int}(hx:max a c=x)(hy:min b d=y)(h:x<=y):A9 Tryz.prog 147 [.agg [.int .i64 a,.int .i64 b],.agg [.int .i64 c,.int .i64 d]] (· = .tuple [.agg [.int .i64 x,.int .i64 y],.bool true]):=by
 have b1:=Kk h;(refine A9.ofY Tryz.func147 (by kernel_rfl) (by kernel_rfl) λw hw R hR=>?_);(obtain⟨zB,zE,yN,zD,zF,zX,yO,zP,zS,zR,yA,yB,zK,zU,zM,zN,zO,yG,zT,yH⟩:=w);(have zC:zB=AF:=congrArg A8.bin hw);(have zA:zE=AC:=congrArg A8.cmp hw);(have yJ:yN=AO:=congrArg A8.un hw);(have zG:zD=λk n=>k.wrap n:=congrArg A8.conv hw);(have zI:zF=λb=> !b:=congrArg A8.not hw);(have yM:zX=λa b=>a == b:=congrArg A8.beq hw);(have yS:yO=AL:=congrArg A8.mm hw);(have zZ:zP=AP:=congrArg A8.scmp hw);(have yF:zS=λx y=>x++y:=congrArg A8.sadd hw);(have yE:zR=λs=>(s.size:Int):=congrArg A8.slen hw);(have yT:yA=std.sat:=congrArg A8.sat hw);(have yU:yB=λa b os=>(Au a b os).getD false:=congrArg A8.eqs hw);(have zH:zK=λes=>(es.length:Int):=congrArg A8.len hw);(have yR:zU=λes=>es.length:=congrArg A8.nlen hw);(have zV:zM=(λn:Nat=>(n:Int)):=congrArg A8.ofNat hw);(have yI:zN=λes b=>es.take b.toNat:=congrArg A8.take hw);(have yL:zO=λes a=>es.drop a.toNat:=congrArg A8.drop hw);(have yX:yG=λa b=>a++b:=congrArg A8.app hw);(have yQ:zT=λn z=>List.replicate n.toNat z:=congrArg A8.zero hw);(have yY:yH=λn=>n.toNat:=congrArg A8.nat hw);(conv=>arg 2;cbv);(generalize hP:Tryz.prog=P);cbv;have e1:yO true a c=x:=by rw[yS,I1,hx]
 have e2:yO false b d=y:=by rw[yS,G5,hy]
 simp only[e1,e2];refine Call.stepE (by rw[<- hP];exact b1) rfl ?_;cbv;exact⟨_,Vw.same rfl,hR _ rfl⟩
theorem KD{a b c d x y:Int}(hx:max a c=x)(hy:min b d=y)(h:y<x):A9 Tryz.prog 147 [.agg [.int .i64 a,.int .i64 b],.agg [.int .i64 c,.int .i64 d]] (· = .tuple [.agg [.int .i64 0,.int .i64 0],.bool false]):=by
 have b1:=dS h;(refine A9.ofY Tryz.func147 (by kernel_rfl) (by kernel_rfl) λw hw R hR=>?_);(obtain⟨zB,zE,yN,zD,zF,zX,yO,zP,zS,zR,yA,yB,zK,zU,zM,zN,zO,yG,zT,yH⟩:=w);(have zC:zB=AF:=congrArg A8.bin hw);(have zA:zE=AC:=congrArg A8.cmp hw);(have yJ:yN=AO:=congrArg A8.un hw);(have zG:zD=λk n=>k.wrap n:=congrArg A8.conv hw);(have zI:zF=λb=> !b:=congrArg A8.not hw);(have yM:zX=λa b=>a == b:=congrArg A8.beq hw);(have yS:yO=AL:=congrArg A8.mm hw);(have zZ:zP=AP:=congrArg A8.scmp hw);(have yF:zS=λx y=>x++y:=congrArg A8.sadd hw);(have yE:zR=λs=>(s.size:Int):=congrArg A8.slen hw);(have yT:yA=std.sat:=congrArg A8.sat hw);(have yU:yB=λa b os=>(Au a b os).getD false:=congrArg A8.eqs hw);(have zH:zK=λes=>(es.length:Int):=congrArg A8.len hw);(have yR:zU=λes=>es.length:=congrArg A8.nlen hw);(have zV:zM=(λn:Nat=>(n:Int)):=congrArg A8.ofNat hw);(have yI:zN=λes b=>es.take b.toNat:=congrArg A8.take hw);(have yL:zO=λes a=>es.drop a.toNat:=congrArg A8.drop hw);(have yX:yG=λa b=>a++b:=congrArg A8.app hw);(have yQ:zT=λn z=>List.replicate n.toNat z:=congrArg A8.zero hw);(have yY:yH=λn=>n.toNat:=congrArg A8.nat hw);(conv=>arg 2;cbv);(generalize hP:Tryz.prog=P);cbv;have e1:yO true a c=x:=by rw[yS,I1,hx]
 have e2:yO false b d=y:=by rw[yS,G5,hy]
 simp only[e1,e2];refine Call.stepE (by rw[<- hP];exact b1) rfl ?_;cbv;exact⟨_,Vw.same rfl,hR _ rfl⟩
end Go.Proofs.YtlchlddijclhjaaGreat
namespace Go.Eng
open Go Go.RowKit
def KT(rs:List DT)(K:AV->A7->Prop):Aq
 | .normal,a,h=>∃l,Cm a h rs=some l/\K (Cb l) h
 | .ret,a,h=>∃l,Cm a h rs=some l/\K (Cb l) h
 | _,_,_=>False
def KS(rs:List DT)(K:AV->A7->Prop):Aq
 | .normal,a,h=>(match Cm a h rs with|some l=>K (Cb l) h|none=>False)
 | .ret,a,h=>(match Cm a h rs with|some l=>K (Cb l) h|none=>False)
 | _,_,_=>False
theorem Lp{rs:List DT}{K:AV->A7->Prop}(e:Exit)(a:AA)(h:A7)(H:KS rs K e a h):KT rs K e a h:=by
 cases e<;>simp only[KS,KT] at H ⊢
 all_goals
  split at H
  ·rename_i l hl
   exact⟨l,hl,H⟩
  ·exact H.elim
theorem AJ.inl {P : Program} {g : FuncId} {fn : Func} {F : FB} {args : List AV} {h : A7} {K : AV → A7 → Prop} (hf : P.funcs[g]? = some fn) (hname : (fn.name == "runtime.NumGoroutine") = false) (hc : Dh P fn = some F) (lL : EQ P fn = true)
 (H:DR P h.length F.code (KT F.rets K) (DU args F.n) h):AJ P g args h K:=by
 unfold Dh at hc;split at hc
 ·rename_i code hb
  split at hc
  ·rename_i c r vZ hr
   simp only[Option.some.injEq] at hc;subst hc;refine⟨⟨fn,hf,by simp[hb],hname⟩,λC vs hC RC hv=>?_⟩;refine calls_of_wp hf hb ?_;refine wp_mono (CQ vZ (by unfold EQ at lL;rw[hb] at lL;exact lL) H C _ hC (JC RC hv fn.ntmps) (Nat.le_refl _)) λe act' w' ⟨a',D,h1,h2,h3,h4,h5⟩=>?_
   have fin:(∃l,Cm a' D.h r=some l/\K (Cb l) D.h)->act'.defers=[]/\∃v,(results fn act'.tmps).run P w' = .ok v w' /\
    ∃v' r D,Ending.returned v = .returned v'/\K r D.h/\D.w=w'/\Rel D/\VR D r v'/\Ext h.length C D/\h.length<=D.h.length:=by
    rintro⟨l,hl,hK⟩
    obtain⟨u,k1,k2⟩:=JB hr h3 hl;subst h2;exact⟨h3.nodef,u,k1,u,_,D,rfl,hK,rfl,h3.rel,k2,h4,h5⟩
   cases e with
   | normal=>exact fin h1
   | ret=>exact fin h1
   | exit id=>exact h1.elim
   | goto l=>exact h1.elim
   | panic c=>exact h1.elim
   | outgrown=>exact h1.elim
  ·cases hc
 ·cases hc
def KW(w:A8)(F:Option FB)(P:Program)(args:List AV)(h:A7)(K:AV->A7->Prop):Prop:=
 match F with
 | some F=>Cs w P (DY [] F.code) h.length F.code (KS F.rets K) (DU args F.n) h
 | none=>False
theorem Call.inl {P P0 : Program} {w : A8} (hw : w = std) (hP : P0 = P) {g : FuncId} {fn : Func} {args : List AV} {h : A7} {K : AA → A7 → Prop} {a : AA} {dst : Option Nat} (hf : P0.funcs[g]? = some fn) (hname : (fn.name == "runtime.NumGoroutine") = false) (lL : EQ P0 fn = true)
 (H:KW w (Dh P0 fn) P args h (Cn K a dst)):Call P g args h (Cn K a dst):=by
 subst hP hw;unfold KW at H;split at H
 ·rename_i F hF
  exact⟨AJ.inl hf hname hF lL (C9 (λe a h hr=>Lp e a h hr) H)⟩
 ·exact H.elim
section
variable {P:Program} {n:Nat} {c:BR} {Q:Aq}
def P6(P:Program)(n:Nat)(c:BR)(Q:Aq):Nat->AA->A7->Prop
 | 0,_,_=>False
 | k+1,a,h=>DR P n c (Dw (P6 P n c Q k) Q) a h
def P7(w:A8)(P:Program)(el:List Nat)(n:Nat)(c:BR)(Q:Aq):Nat->AA->A7->Prop
 | 0,_,_=>False
 | k+1,a,h=>Cs w P el n c (Dw (P7 w P el n c Q k) Q) a h
theorem TQ{el:List Nat}:∀(k:Nat) (a:AA) (h:A7),P7 std P el n c Q k a h->P6 P n c Q k a h
 | 0,a,h,H=>H.elim
 | k+1,a,h,H=>C9 (λe a h hr=>by
    cases e with
    | normal=>exact TQ k a h hr
    | _=>exact hr) H
theorem TR{code:Code}(hc:Am P code=some c)(hd:CW P code=true)(C0:Cfg):∀(k:Nat) (a:AA) (C1:Cfg) (act:Act),P6 P n c Q k a C1.h->St C1 a act->n<=C1.h.length->Ext n C0 C1 ->
 Code.rounds P code (λe act' w'=>∃a' D,Q e a' D.h/\D.w=w'/\St D a' act'/\Ext n C0 D/\n<=D.h.length) k act C1.w
 | 0,a,C1,act,H,S,hn,hE=>H.elim
 | k+1,a,C1,act,H,S,hn,hE=>by
   refine wp_mono (CQ hc hd H C1 act rfl S hn) λe act' w' ⟨a',D,h1,h2,h3,h4,h5⟩=>?_
   cases e with
   | normal =>
     subst h2;exact TR hc hd C0 k a' D act' h1 h3 h5 (hE.trans h4)
   | _=>exact⟨a',D,h1,h2,h3,hE.trans h4,h5⟩
theorem Ae.rounds{w:A8}(hw:w=std)(N:Nat){a:AA}{h:A7}(H:P7 w P (DY [] c) n c Q N a h):Ae P n c Q a h:=by
 subst hw;refine⟨λcode hc hd C act hC S hn=>?_⟩;subst hC;exact wp_loop_rounds N (TR hc hd C N a C act (TQ N a C.h H) S hn (Ext.refl _ _))
end
theorem VR.rens{C D:Cfg}{f:Nat->Nat}{m:Nat}(hw:C.w=D.w)(ho:∀b,C.own b->D.own b)(hs:∀s,s<m->D.used s->C.used (f s)/\C.r (f s)=D.r s){x:AV}{v:Value}(h:VR D x v):x.upto m=true->VR C (x.ren f) v:=by
 induction h with
 | any v=>exact λ_=>.any v
 | bool b=>exact λ_=>.bool b
 | int k n=>exact λ_=>.int k n
 | str s=>exact λ_=>.str s
 | nilp=>exact λ_=>.nilp
 | nils=>exact λ_=>.nils
 | emp a=>exact λ_=>.emp a
 | nilFunc=>exact λ_=>.nilFunc
 | nilIface=>exact λ_=>.nilIface
 | agg cs vs hl h ih =>
   intro hb;refine .agg (BH f cs) vs (by rw[Cx];exact hl) λi x hi=>?_;rw[DF] at hi
   cases hc:cs[i]? with
   | none=>rw[hc] at hi;cases hi
   | some y=>rw[hc] at hi;simp only[Option.map_some,Option.some.injEq] at hi;subst hi;exact ih i y hc (BK hb hc)
 | tuple cs vs hl h ih =>
   intro hb;refine .tuple (BH f cs) vs (by rw[Cx];exact hl) λi x hi=>?_;rw[DF] at hi
   cases hc:cs[i]? with
   | none=>rw[hc] at hi;cases hi
   | some y=>rw[hc] at hi;simp only[Option.map_some,Option.some.injEq] at hi;subst hi;exact ih i y hc (BK hb hc)
 | list z es a n cap g hn hc ha hz aS aT hv ih =>
   intro hb
   have zH:(Bb f es).length=es.length:=by
    exact JE f es
   refine .list z (Bb f es) a n cap g (by rw[zH];exact hn) hc ha (λe he=>?_) (λi j hi hj=>by rw[hw];exact aS i j hi hj) (λh1 h2 h3=>aT h1 h2 (ho _ h3)) λi e he j x hx=>?_
   ·obtain⟨i,hi⟩:=List.mem_iff_getElem?.1 he
    rw[FE] at hi
    cases hc:es[i]? with
    | none=>rw[hc] at hi;cases hi
    | some y=>rw[hc] at hi;simp only[Option.map_some,Option.some.injEq] at hi;subst hi;rw[Cx];exact hz y (List.mem_of_getElem? hc)
   ·rw[FE] at he
    cases hc:es[i]? with
    | none=>rw[hc] at he;cases he
    | some y =>
      rw[hc] at he;simp only[Option.map_some,Option.some.injEq] at he;subst he;rw[DF] at hx
      cases lT:y[j]? with
      | none=>rw[lT] at hx;cases hx
      | some u=>rw[lT] at hx;simp only[Option.map_some,Option.some.injEq] at hx;subst hx;exact ih i y hc j u lT (BK (Di hb hc) lT)
 | listNil z a cap=>exact λ_=>.listNil z a cap
 | sl s z i n cap hu hc hsz =>
   intro hb;simp only[AV.upto,decide_eq_true_eq] at hb;obtain⟨h1,h2⟩:=hs s hb hu;obtain⟨e,k,hk,nR⟩:=hsz;rw[<- h2] at hk ⊢;exact .sl (f s) z i n cap h1 hc ⟨e,k,by rw[hw];exact hk,nR⟩
 | ref s z i o hu =>
   intro hb;simp only[AV.upto,decide_eq_true_eq] at hb;obtain⟨h1,h2⟩:=hs s hb hu;rw[<- h2];exact .ref (f s) z i o h1
 | mapr s hu =>
   intro hb;simp only[AV.upto,decide_eq_true_eq] at hb;obtain⟨h1,h2⟩:=hs s hb hu;rw[<- h2];exact .mapr (f s) h1
 | cref cs a g ha aS aT hv ih =>
   intro hb;refine .cref (BH f cs) a g ha (λj hj=>by rw[hw];rw[Cx] at hj;exact aS j hj) (λh1 h3=>aT (by rwa [Cx] at h1) (ho _ h3)) λj x hx=>?_;rw[DF] at hx
   cases hc:cs[j]? with
   | none=>rw[hc] at hx;cases hx
   | some y=>rw[hc] at hx;simp only[Option.map_some,Option.some.injEq] at hx;subst hx;exact ih j y hc (BK hb hc)
 | func fn first caps vf vc hf hc h1 h2 uu uq =>
   intro hb;simp only[AV.upto,Bool.and_eq_true] at hb;refine .func fn (BH f first) (BH f caps) vf vc (by rw[Cx];exact hf) (by rw[Cx];exact hc) (λi x hx=>?_) λi x hx=>?_
   ·rw[DF] at hx
    cases hc:first[i]? with
    | none=>rw[hc] at hx;cases hx
    | some y=>rw[hc] at hx;simp only[Option.map_some,Option.some.injEq] at hx;subst hx;exact uu i y hc (BK hb.1 hc)
   ·rw[DF] at hx
    cases hc:caps[i]? with
    | none=>rw[hc] at hx;cases hx
    | some y=>rw[hc] at hx;simp only[Option.map_some,Option.some.injEq] at hx;subst hx;exact uq i y hc (BK hb.2 hc)
 | iface t x v h ih=>exact λhb=>.iface t _ v (ih hb)
def GV(f:Nat->Nat):Ai->Ai
 | .live z es=>.live z (Bb f es)
 | s=>s
def FT(f:Nat->Nat)(hD:A7):Nat->A7->A7
 | 0,h=>h
 | m+1,h=>(FT f hD m h).set (f m) (GV f (hD.getD m .free))
section
variable {f:Nat->Nat} {hD:A7}
theorem P8:∀(m:Nat) (h:A7),(FT f hD m h).length=h.length
 | 0,h=>rfl
 | m+1,h=>by simp[FT,P8 m h]
theorem TS{s:Nat}:∀(m:Nat) (h:A7),(∀i,i<m->f i≠s)->(FT f hD m h)[s]?=h[s]?
 | 0,h,_=>rfl
 | m+1,h,hn=>by
   rw[FT,List.getElem?_set_ne (hn m (by omega))];exact TS m h λi hi=>hn i (by omega)
theorem TT{i:Nat}:∀(m:Nat) (h:A7),i<m->(∀j,j<m->f i=f j->i=j)->f i<h.length->(FT f hD m h)[f i]?=some (GV f (hD.getD i .free))
 | m+1,h,hi,hinj,hl=>by
   rw[FT];by_cases him:i=m
   ·subst him
    rw[List.getElem?_set_self (by rw[P8];exact hl)]
   ·rw[List.getElem?_set_ne (λe=>him (hinj m (by omega) e.symm))]
    exact TT m h (by omega) (λj hj=>hinj j (by omega)) hl
end
theorem AJ.frame{P:Program}{g:FuncId}{args0 args:List AV}{h0 h:A7}{K0 K:AV->A7->Prop}(f:Nat->Nat)(H:AJ P g args0 h0 K0)
 (hinj:∀i,i<h0.length->∀j,j<h0.length->f i=f j->i=j)
 (hh:∀i,i<h0.length->∃z es,h0[i]?=some (.live z es)/\BC h0.length es=true/\h[f i]?=some (.live z (Bb f es)))
 (ha:Af h0.length args0=true) (hr:BH f args0=args)
 (hK:∀r hD,K0 r hD->r.upto h0.length=true/\(∀i,i<h0.length->∃z es,hD[i]?=some (.live z es)/\BC h0.length es=true)/\K (r.ren f) (FT f hD h0.length h)):AJ P g args h K:=by
 refine⟨H.1,λC vs hC RC hv=>?_⟩;subst hC;obtain⟨C0,eC0⟩:∃C0:Cfg,C0={ O:=λb=>C.O b\/∃s,C.live s/\C.r s=b/\∀i,i<h0.length->f i≠s,r:=λi=>C.r (f i),h:=h0,w:=C.w }:=⟨_,rfl⟩;have c0h:C0.h=h0:=by rw[eC0]
 have c0w:C0.w=C.w:=by rw[eC0]
 have c0r:∀i,C0.r i=C.r (f i):=λi=>by rw[eC0]
 have c0O:∀b,C0.O b↔(C.O b\/∃s,C.live s/\C.r s=b/\∀i,i<h0.length->f i≠s):=λb=>by rw[eC0]
 have live0:∀i,C0.live i->i<h0.length/\C.live (f i):=by
  rintro i ⟨z,es,hx⟩;rw[c0h] at hx;have hi:=(List.getElem?_eq_some_iff.1 hx).1;obtain⟨z',kw,_,_,e3⟩:=hh i hi;exact⟨hi,_,_,e3⟩
 have live1:∀i,i<h0.length->C0.live i:=λi hi=>by
  obtain⟨z',kw,e1,_,_⟩:=hh i hi;exact⟨_,_,by rw[c0h];exact e1⟩
 have flt:∀i,i<h0.length->f i<C.h.length:=λi hi=>by
  obtain⟨z',kw,_,_,e3⟩:=hh i hi;exact(List.getElem?_eq_some_iff.1 e3).1
 have own0:∀b,C0.own b->C.own b:=by
  rintro b (hb|⟨s,hs,hr⟩)
  ·rcases (c0O b).1 hb with hb|⟨s,hs,hr,_⟩
   ·exact .inl hb
   ·exact .inr ⟨s,hs,hr⟩
  ·exact .inr ⟨f s,(live0 s hs).2,by rw[<- c0r];exact hr⟩
 have used0:∀s,s<C0.h.length->C.used (f s)->C0.used s/\C0.r s=C.r (f s):=λs hs _=>by
  rw[c0h] at hs;exact⟨Cfg.used_of_live (live1 s hs),c0r s⟩
 have R0:Rel C0:=by
  refine⟨λs z es hl=>?_,λs t hs ht hr=>?_,λb hb=>?_,λp hp=>(RC.glo p hp).recfg c0w own0 (FC hp 0),λp hp=>by rw[c0w];exact RC.gsz p hp⟩
  ·rw[c0h] at hl
   have hs:=(List.getElem?_eq_some_iff.1 hl).1;obtain⟨z',kw,e1,e2,e3⟩:=hh s hs;rw[hl] at e1;have e1:Ai.live z es=Ai.live z' kw:=(by simpa using e1);cases e1
   obtain⟨g2,o,gg,g4,g5,g6⟩:=RC.livx (f s) z _ e3
   have zH:es.length=(Bb f es).length:=by
    exact(JE f es).symm
   refine⟨λhO=>?_,o,gg,by rw[c0w,c0r];exact g4,g5.congr zH λi e he=>⟨BH f e,by rw[FE,he];rfl,by rw[Cx]⟩,λi e he j x hx=>?_⟩
   ·rw[c0r] at hO
    rcases (c0O _).1 hO with hO|⟨t,ht,hr,hn⟩
    ·exact g2 hO
    ·exact hn s hs (RC.inj t (f s) ht ⟨_,_,e3⟩ hr).symm
   ·have nJ:=BK (Di e2 he) hx
    exact VR.unren c0w own0 used0 (g6 i (BH f e) (by rw[FE,he];rfl) j (x.ren f) (by rw[DF,hx];rfl)) x (by rw[c0h];exact nJ) rfl
  ·obtain⟨a1,a2⟩:=live0 s hs
   obtain⟨b1,b2⟩:=live0 t ht;rw[c0r,c0r] at hr;exact hinj s a1 t b1 (RC.inj _ _ a2 b2 hr)
  ·rw[c0w]
   rcases (c0O b).1 hb with hb|⟨s,hs,rfl,_⟩
   ·exact RC.olt b hb
   ·exact RC.lown_lt ⟨s,hs,rfl⟩
 have v0:VRs C0 args0 vs:=by
  refine⟨by rw[hv.1,<- hr,Cx],λi x hx=>?_⟩;exact VR.unren c0w own0 used0 (hv.2 i (x.ren f) (by rw[<- hr,DF,hx];rfl)) x (by rw[c0h];exact BK ha hx) rfl
 have hH:=H.2 C0 vs c0h R0 v0;rw[c0w] at hH;refine hH.mono λe w' ⟨v,r,D,h1,h2,h3,h5,h6,h7,h8⟩=>?_;subst h3;obtain⟨k1,k2,k3⟩:=hK r D.h h2;obtain⟨C',eC'⟩:∃C':Cfg,C'={ O:=C.O,r:=C.r,h:=FT f D.h h0.length C.h,w:=D.w }:=⟨_,rfl⟩;have ch:C'.h=FT f D.h h0.length C.h:=by rw[eC']
 have cw:C'.w=D.w:=by rw[eC']
 have cr:∀s,C'.r s=C.r s:=λs=>by rw[eC']
 have cO:C'.O=C.O:=by rw[eC']
 have ow:∀i,i<h0.length->∃z es,D.h[i]?=some (.live z es)/\BC h0.length es=true/\C'.h[f i]?=some (.live z (Bb f es)):=λi hi=>by
  obtain⟨z,es,e1,e2⟩:=k2 i hi;refine⟨z,es,e1,e2,?_⟩;rw[ch,TT h0.length C.h hi (λj hj=>hinj i hi j hj) (flt i hi),List.getD_eq_getElem?_getD,e1];rfl
 have kv:∀s,(∀i,i<h0.length->f i≠s)->C'.h[s]?=C.h[s]?:=λs hs=>by rw[ch];exact TS h0.length C.h hs
 have dec:∀s,(∃i,i<h0.length/\f i=s)\/∀i,i<h0.length->f i≠s:=λs=>by
  by_cases hx:∃i,i<h0.length/\f i=s
  ·exact .inl hx
  ·exact .inr λi hi e=>hx ⟨i,hi,e⟩
 have livC:∀s,C'.live s↔C.live s:=by
  intro s;rcases dec s with ⟨i,hi,rfl⟩|hs
  ·obtain⟨z,es,_,_,e3⟩:=ow i hi
   obtain⟨z',kw,_,_,e3'⟩:=hh i hi;exact⟨λ_=>⟨_,_,e3'⟩,λ_=>⟨_,_,e3⟩⟩
  ·constructor
   ·rintro⟨z,es,hx⟩;exact⟨z,es,by rw[<- kv s hs];exact hx⟩
   ·rintro⟨z,es,hx⟩;exact⟨z,es,by rw[kv s hs];exact hx⟩
 have lownC:∀b,C'.lown b↔C.lown b:=by
  intro b;constructor
  ·rintro⟨s,hs,hr⟩;exact⟨s,(livC s).1 hs,by rw[<- cr];exact hr⟩
  ·rintro⟨s,hs,hr⟩;exact⟨s,(livC s).2 hs,by rw[cr];exact hr⟩
 have lown0:∀b,C0.lown b->C.lown b:=by
  rintro b ⟨s,hs,hr⟩;exact⟨f s,(live0 s hs).2,by rw[<- c0r];exact hr⟩
 have usedD:∀s,s<h0.length->D.used s/\D.r s=C.r (f s):=λs hs=>by
  have:=h7.used s hs (Cfg.used_of_live (live1 s hs));exact⟨this.1,by rw[this.2,c0r]⟩
 have E:∀n,Ext n C C':=λn=>by
  refine⟨cO,by rw[cw,h7.os,c0w],by rw[cw,h7.tape,c0w],by rw[cw,h7.output,c0w],by rw[cw];have:=h7.size;rw[c0w] at this;exact this,λs _ hu=>⟨?_,cr s⟩,λb hb hl=>⟨?_,λhl'=>hl ((lownC b).1 hl')⟩,λb x hx=>?_⟩
  ·rcases dec s with ⟨i,hi,rfl⟩|hs
   ·obtain⟨z,es,_,_,e3⟩:=ow i hi
    exact⟨_,e3,by simp⟩
   ·obtain⟨x,hx,hf⟩:=hu
    exact⟨x,by rw[kv s hs];exact hx,hf⟩
  ·have:=(h7.keep b (by rw[c0w];exact hb) (λh=>hl (lown0 b h))).1
   rw[cw,this,c0w]
  ·rw[cw]
   exact h7.shape b x (by rw[c0w];exact hx)
 have ownD:∀b,C'.own b->D.own b:=by
  rintro b (hb|⟨s,hs,hr⟩)
  ·rw[cO] at hb
   exact .inl (by rw[h7.O];exact(c0O b).2 (.inl hb))
  ·rw[cr] at hr
   have hs:=(livC s).1 hs;rcases dec s with ⟨i,hi,rfl⟩|hsn
   ·obtain⟨z,es,e1,_,_⟩:=ow i hi
    exact .inr ⟨i,⟨z,es,e1⟩,by rw[(usedD i hi).2];exact hr⟩
   ·exact .inl (by rw[h7.O];exact(c0O b).2 (.inr ⟨s,hs,hr,hsn⟩))
 have usedC:∀s,s<h0.length->D.used s->C'.used (f s)/\C'.r (f s)=D.r s:=λs hs _=>by
  obtain⟨z,es,_,_,e3⟩:=ow s hs;exact⟨⟨_,e3,by simp⟩,by rw[cr,(usedD s hs).2]⟩
 have RC':Rel C':=by
  refine RC.of_ext (E _) (λs z es hl=>?_) λs t hs ht hr=>?_
  ·rcases dec s with ⟨i,hi,rfl⟩|hs
   ·refine .inr ?_
    obtain⟨z',kw,e1,e2,e3⟩:=ow i hi;rw[hl] at e3;have e3:Ai.live z es=Ai.live z' (Bb f kw):=(by simpa using e3);cases e3
    obtain⟨g2,o,gg,g4,g5,g6⟩:=h5.livx i z _ e1
    have zH:(Bb f kw).length=kw.length:=by
     exact JE f kw
    refine⟨λhO=>?_,o,gg,by rw[cw,cr,<- (usedD i hi).2];exact g4,g5.congr zH λj e he=>?_,λj e he q x hx=>?_⟩
    ·rw[cr,cO] at hO
     obtain⟨z1,oz,_,_,e3'⟩:=hh i hi;exact(RC.livx (f i) z1 _ e3').1 hO
    ·rw[FE] at he
     cases hc:kw[j]? with
     | none=>rw[hc] at he;cases he
     | some y=>rw[hc] at he;simp only[Option.map_some,Option.some.injEq] at he;subst he;exact⟨y,rfl,by rw[Cx]⟩
    ·rw[FE] at he
     cases hc:kw[j]? with
     | none=>rw[hc] at he;cases he
     | some y =>
       rw[hc] at he;simp only[Option.map_some,Option.some.injEq] at he;subst he;rw[DF] at hx
       cases lT:y[q]? with
       | none=>rw[lT] at hx;cases hx
       | some u =>
         rw[lT] at hx;simp only[Option.map_some,Option.some.injEq] at hx;subst hx;exact VR.rens cw ownD usedC (g6 j y hc q u lT) (BK (Di e2 hc) lT)
   ·refine .inl ⟨by rw[<- kv s hs];exact hl,cr s,?_⟩
    have hlv:C.live s:=(livC s).1 ⟨z,es,hl⟩;have hb:=RC.lown_lt ⟨s,hlv,rfl⟩
    have:=(h7.keep (C.r s) (by rw[c0w];exact hb) (λh=>by
     obtain⟨t,ht,hr⟩:=h;obtain⟨t1,t2⟩:=live0 t ht;rw[c0r] at hr;exact hs t t1 (RC.inj _ _ t2 hlv hr))).1
    rw[cw,this,c0w]
  ·rw[cr,cr] at hr
   exact RC.inj s t ((livC s).1 hs) ((livC t).1 ht) hr
 refine⟨v,r.ren f,C',h1,by rw[ch];exact k3,cw,RC',VR.rens cw ownD usedC h6 k1,E _,by rw[ch,P8];exact Nat.le_refl _⟩
end Go.Eng
