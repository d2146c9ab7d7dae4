/- Parts of the proofs. -/
import Derived.Test.YtlchlddijclhjaaGreatR28
import Derived.Test.YtlchlddijclhjaaGreatR30
import Derived.Test.YtlchlddijclhjaaGreatR19
import Derived.Test.YtlchlddijclhjaaGreatR17
import Derived.Test.YtlchlddijclhjaaGreatR29
import Derived.Test.YtlchlddijclhjaaGreatR22
import Derived.KernelRfl
import Derived.Test.YtlchlddijclhjaaGreatR10
import Derived.Test.YtlchlddijclhjaaGreatRZ
set_option linter.unusedVariables false
set_option linter.unusedSimpArgs false
set_option maxHeartbeats 4000000
namespace Go.Proofs.YtlchlddijclhjaaGreat
open Go Go.RowKit Go.Eng
set_option maxRecDepth 100000
theorem A9.of_call{P:Program}{g:FuncId}{args:List AV}{R:AV->Prop}(H:AJ P g args [] (λr hD=>R r/\hD=[])):A9 P g args R:=
 ⟨H.1,λC vs hC RC hv=>(H.2 C vs hC RC hv).mono λe w' ⟨v,r,D,h1,⟨h2,h3⟩,h4,h5,h6,h7,_⟩=>⟨v,r,D,h1,h2,h3,h4,h5,h6,h7⟩⟩
def fdD4:List (List Nat):=[[],[],[1],[0,2,2],[3,3,0,1,2,3]]
def YG:List (List Nat):=[[],[],[],[],[2,3],[4],[5],[],[],[7,8],[9],[10],[1,6,11],[12],[0,13,12],[14,14,0,1,2,3,4,5,6,7,8,9,10,11,12,13,14]]
open Classical in
noncomputable def CU(c:Cf)(ss:List Sg)(gs:List Gr)(l:List Cy):List Rp:=if Dl (Dk c) c.c6 c.c8 ss gs then BP (GI c (CZ ss gs)) l else []
theorem YH(s:Sg)(h:s.ps.length<=70/\s.nx.length<=3):(EE s).length<=1000:=by
 unfold EE;simp only[List.length_append,List.length_cons,List.length_map,Ez,O0];omega
theorem O4{α: Type}{f: α -> List Int}{k:Nat}:∀ {l:List α},(∀a,a∈l->(f a).length<=k)->(l.flatMap f).length<=k*l.length
 | [],_=>by simp
 | a::l,h=>by
   have h1:=h a List.mem_cons_self;have h2:=O4 (l:=l) λx hx=>h x (List.mem_cons_of_mem _ hx);rw[List.flatMap_cons,List.length_append,List.length_cons,Nat.mul_succ];omega
theorem RH{ss:List Sg}{gs:List Gr}(h:D6 ss gs):(Cr ss gs).length<=1000000:=by
 have h1:=O4 (f:=EE) (k:=1000) (l:=ss) λs hs=>YH s (h.l s hs)
 have h2:=O4 (f:=EF) (k:=100) (l:=gs) λg hg=>by
  unfold EF;simp only[List.length_append,List.length_cons,Ez];omega
 have:=h.s;have:=h.g;unfold Cr;simp only[List.length_append,List.length_cons,List.length_nil,Ez];omega
theorem YI(ss:List Sg)(gs:List Gr):Ar (CZ ss gs):=by
 have:=Hd (crF 65535#16 (Cr ss gs));unfold CZ;exact FM (RF ss gs) (B_ Z.o (B_ Z.o λx hx=>by cases hx))
def MRp(l:List Rp):Option (List (List AV)×Nat)->Prop
 | none=>l=[]
 | some (u,m)=>l≠[]/\u=l.map Rp.row/\m=l.length/\Up0 u
theorem JP(l:List Rp):Up0 (l.map Rp.row):=⟨O5 λx hx=>by
 obtain⟨r,_,rfl⟩:=List.mem_map.1 hx;exact Di (i:=0) r.up.get rfl⟩
theorem KN:∀(a:List Cy) (u:Un),(BP u a).length=a.length
 | [],u=>rfl
 | c::a,u=>by rw[List.length_cons,<- KN a];rfl
theorem Ld(c:Cf)(ss:List Sg)(gs:List Gr)(es ds:List (List AV))(zQ:es=ss.map Ah)(zY:ds=gs.map Ak)(hsI:∀s,s∈ss->HV s)(hgI:∀g,g∈gs->HY g)(xS:D6 ss gs)(l:List Cy)(hl:l.length<=1000)(hlc:∀c,c∈l->c.1.length<=50/\∀b,b∈c.1->Ar b/\b.length<=300)(rs:List (List AV))(yD:rs=l.map DJ) :
 A9 Tryz.prog 12 [.agg [c.c0,c.c1,c.c2,c.c3,c.c4,c.c5,c.c6,c.c7,c.c8,c.c9,c.c10,c.c11,c.c12,c.c13],.agg [.list 3 es,.list 5 ds],.list 2 rs] (· = .list 32 ((CU c ss gs l).map Rp.row)):=by
 have hu:Up0 es:=by rw[zQ];exact Bu ss
 have lH:Up0 ds:=by rw[zY];exact Bv gs
 have lW:Up0 rs:=by rw[yD];exact HZ l
 have oL:rs.length=l.length:=by rw[yD];simp
 have hB:=RH xS;have hs1:=xS.s;have hg1:=xS.g;have qf:=YE c.c0 c.c1 c.c2 c.c3 c.c4 c.c5 c.c6 c.c7 c.c8 c.c9 c.c10 c.c11 c.c12 c.c13 ss gs Z.o Z.o es ds zQ zY;obtain⟨im,eim⟩:∃x,x=(CZ ss gs).map AZ:=⟨_,rfl⟩;have qp:=YB ss gs es ds zQ zY Z.o Z.o Z.o hsI hgI im eim
 have oQ:(CZ ss gs).length<=1000000000:=by
  unfold CZ;simp only[List.length_append,List.length_cons,List.length_nil];omega
 have qn:=WF c (CZ ss gs) (YI ss gs) oQ im eim;have huim:Up0 im:=by rw[eim];exact Ao _
 obtain⟨u0,eu0⟩:=Z.e (GI c (CZ ss gs));have hU0:=WL c (CZ ss gs);rw[<- eu0] at hU0 qn;obtain⟨res,eres⟩:=Z.e (CU c ss gs l)
 have wY:(Dl (Dk c) c.c6 c.c8 ss gs->res=BP u0 l)/\(¬Dl (Dk c) c.c6 c.c8 ss gs->res=[]):=by
  rw[eres,eu0];unfold CU;exact⟨λh=>if_pos h,λh=>if_neg h⟩
 rw[<- eres];obtain⟨row0,erow0⟩:=Z.e u0.row;have tZ:Up0 [row0]:=by rw[erow0];exact hU0.up
 rw[<- erow0] at qn;clear eres eu0 oQ;unfold Dk at wY;obtain⟨c0,c1,c2,c3,c4,c5,c6,c7,c8,c9,c10,c11,c12,c13⟩:=c;simp only at qf qn wY;obtain⟨U,eU⟩:=Z.e (res.map Rp.row);have huU:Up0 U:=by rw[eU];exact JP res
 rw[<- eU];refine A9.of_call (AJ.give ?_);(refine AJ.ofT (F:=[4,5,11]) (sc:=?scc) (r:=?rr) Tryz.func12 (by kernel_rfl) rfl ?hr ?hc (by kernel_rfl) λw hw=>?H);(case hr=>((conv=>lhs;cbv);(try exact rfl)));(case hc=>((repeat' (first|refine' X_ ?_ ?_|refine' Y3 ?_|refine' Y2 ?_|refine' Y4 ?_|refine' Y5 ?_|refine' IQ ?_ ?_|refine' IR ?_|refine' IU ?_|refine' Y0 (id:=5) rfl ?_|refine' Y1 (id:=_) rfl ?_|refine' Cg (id:=4) fdD4 rfl (by kernel_rfl) ?_|refine' Cg (id:=11) YG rfl (by kernel_rfl) ?_|fail));(try any_goals (conv=>lhs;cbv));(try any_goals exact rfl)));(obtain⟨zB,zE,yN,zD,zF,zX,yO,zP,zS,zR,yA,yB,zK,zU,zM,zN,zO,yG,zT,yH⟩:=w);(have zC:=Z.w1 hw);(have zA:=Z.w2 hw);(have yJ:=Z.w3 hw);(have zG:=Z.w4 hw);(have zI:=Z.w5 hw);(have yM:=Z.w6 hw);(have yS:=Z.w7 hw);(have zZ:=Z.w8 hw);(have yF:=Z.w9 hw);(have yE:=Z.w10 hw);(have yT:=Z.w11 hw);(have yU:=Z.w12 hw);(have zH:=Z.w13 hw);(have yR:=Z.w14 hw);(have zV:=Z.w15 hw);(have yI:=Z.w16 hw);(have yL:=Z.w17 hw);(have yX:=Z.w18 hw);(have yQ:=Z.w19 hw);(have yY:=Z.w20 hw);(have hz:=Z.z hw);(conv=>arg 4;cbv);(generalize hP:Tryz.prog=P);cbv;refine Call.step (by rw[<- hP];exact qf) Z.u ?_;rintro r ⟨e,i0,rfl,he⟩;by_cases h0:e=0
 rotate_left 1
 ·have d2:=W.ne zA h0
  obtain rfl:U=[]:=(by rw[eU,wY.2 λh=>h0 (he.2 h)];rfl);cbv;repeat' (first|(simp only[d2];cbv)|fail)
  refine WkB.mk ?_;exact Z.i
 subst h0;have eU:=eU.trans (congrArg (List.map Rp.row) (wY.1 (he.1 rfl)));have d1:=W.nne zA (a:=0) rfl;clear qf he wY;cbv;repeat' (first|(simp only[d1];cbv)|fail)
 refine AnyQ.e _ (by cbv) _ (by cbv) (by cbv) ?_;cbv;refine CJ.mk [.agg [c0,c1,c2,c3,c4,c5,c6,c7,c8,c9,c10,c11,c12,c13],.agg [.list 3 es,.list 5 ds],.list 1 im,.ref 2 55 0 0,.ref 2 55 0 0] (λm=>[.live 14 [[c0,c1,c2,c3,c4,c5,c6,c7,c8,c9,c10,c11,c12,c13]],.live 2 [[.list 3 es,.list 5 ds]]]++(match m 3 with|true=>[.live 55 [row0]]|false=>[])) rfl ?_ ?_
 ·cbv
  repeat' (first|(refine Call.s hP qp ?_;cbv)|(refine Call.fresh hP qn tZ Z.u ?_;cbv)|(refine λm=>?_;cbv)|(refine And.intro ?_ ?_)|exact rfl|exact trivial|fail)
 cbv;obtain⟨N,eN,N0,Nn⟩:=Z.l zH rs;repeat' (first|(simp only[eN];cbv)|fail)
 refine KU.dataN hw (S:=Int×Un×Option (List (List AV)×Nat)) (λs=>Go.Eng.fr 48 [(2,.list 2 rs),(9,.ref 0 55 0 0),(10,match s.2.2 with|none=>.nils|some (u,m)=>.sl 1 32 0 m),(27,N),(28,s.1)])
  (λs=>match s.2.2 with|none=>[.live 55 [s.2.1.row]]|some (u,m)=>[.live 55 [s.2.1.row],.live 32 u])
  (λs=>0<=s.1/\s.1<=N/\UI s.1 s.2.1/\s.2.1=Es u0 (l.take s.1.toNat)/\MRp (BP u0 (l.take s.1.toNat)) s.2.2) (λs=>(N-s.1).toNat) (0,u0,none) (by simp only[<- erow0];(refine Z.k (λj=>[2].getD j 0) ?_;cbv<;>exact Z.q)) ⟨Int.le_refl _,N0,hU0,rfl,rfl⟩ ?_
 clear qp qn
 rintro⟨i,u,ou⟩ zJ Q' hN hE hR'
 have zJ:0<=i/\i<=N/\UI i u/\u=Es u0 (l.take i.toNat)/\MRp (BP u0 (l.take i.toNat)) ou:=zJ;obtain⟨zW,yZ,hui,nY,yP⟩:=zJ;by_cases yC:i<N
 ·obtain⟨c,sK⟩:∃c,l[i.toNat]?=some c:=⟨_,List.getElem?_eq_getElem (show i.toNat<l.length by omega)⟩
  obtain⟨i2,kW⟩:=Z.e (i+1);have mU:l.take i2.toNat=l.take i.toNat++[c]:=(by rw[kW];exact Eu zW sK);have vY:=hlc c (List.mem_of_getElem? sK);obtain⟨xs,exs⟩:=Z.e (c.1.map Em);have hux:Up0 xs:=(by rw[exs];exact IL _);have oG:rs[i.toNat]?=some [.list 1 xs,.bool c.2]:=(by rw[yD,List.getElem?_map,sK,exs];rfl);obtain⟨q5,wO⟩:=QN hui Z.o c.1 (λb hb=>⟨(vY.2 b hb).1,by have:=(vY.2 b hb).2;omega⟩) Z.o c.2 xs exs;obtain⟨u2,mW⟩:∃x,x=(Dm u c.1 c.2).1:=⟨_,rfl⟩;obtain⟨rp,erp⟩:∃x,x=(Dm u c.1 c.2).2:=⟨_,rfl⟩;rw[<- mW,<- erp] at q5;rw[<- mW,<- kW] at wO;have hue2:u2=Es u0 (l.take i2.toNat):=(by rw[mU,QO,<- nY,mW];rfl);have hru:BP u0 (l.take i2.toNat)=BP u0 (l.take i.toNat)++[rp]:=(by rw[mU,NI,<- nY,erp];rfl);have hT:(N-i2).toNat<(N-i).toNat:=(by omega);have a4:zB .add .i64 i 1=i2:=(by rw[zC,Ag Z.o Z.o,kW]);have ck:=W.lt zA yC;have kg:=hui.up;have pF:=wO.up;have oK:=rp.up;have hrv:(AV.agg rp.row).upto 0=true:=ua (Di (i:=0) rp.up.get rfl);obtain⟨row1,erow1⟩:=Z.e u.row;obtain⟨row2,erow2⟩:=Z.e u2.row;have nS:=λ(o:Option (List (List AV)×Nat))=>hN (i2,u2,o);simp only at nS;rw[<- erow2] at q5 pF;simp only[<- erow2] at nS;rw[<- erow1] at q5 kg;simp only[<- erow1];have yo:Af 1 [AV.ref 0 55 0 0,.list 1 xs,c.2]=true:=uc rfl (uc (ul1 hux) (uc rfl rfl));obtain⟨cb,ecb⟩:=Z.e c.2;rw[<- ecb] at q5 oG yo;obtain⟨RT,eRT⟩:=Z.e (rp.rt.map D7);have zL:rp.row=rp.rowL (.list 1 RT):=(by rw[eRT];rfl);rw[zL] at q5 oK hrv
  cases ou with
  | none =>
    have yP:BP u0 (l.take i.toNat)=[]:=yP
    have nC:MRp (BP u0 (l.take i2.toNat)) (some ([rp.rowL (.list 1 RT)],1)):=by
     rw[hru,yP];exact⟨by simp,by rw[<- zL];rfl,rfl,oK⟩
    clear hru yP nY mU zL eRT erp;obtain⟨z0,z1,z2,z3,z4,z5,z6,z7,z8,z9,zz,z11,z12,z13,z14,z15,z16,z17,z18,z19,z20,z21,z22,z23,z24,z25,z26,z27,z28,z29,z30,z31⟩:=rp;simp only[Rp.rowL] at q5 oK hrv nC;cbv;repeat' (first|(simp only[ck];cbv)|(refine Idx.mk _ zW oG ?_;cbv)|fail)
    refine AnyQ.e _ (by cbv) _ (by cbv) (by cbv) ?_;cbv;refine CJ.mk [?w0,?w1,?w2,?w3,?w4,?w5,?w6,?w7,?w8,?w9,?w10,?w11,?w12,?w13,.sl 1 32 0 1,.sl 1 32 0 1] (λm=>[match m 12 with|true=>.live 55 [row2]|false=>.live 55 [row1]]++(match m 14 with|true=>[.live 32 [z0::[z1,z2,z3,z4,z5,z6,z7,z8,z9,.list 1 RT,z11,z12,z13,z14,z15,z16,z17,z18,z19,z20,z21,z22,z23,z24,z25,z26,z27,z28,z29,z30,z31]]]|false=>[])) rfl ?hsn ?hfn
    case hsn =>
     cbv;repeat' (first|(refine Idx.mk _ zW oG ?_;cbv)|(refine Call.o (s:=0) hP q5 kg pF hrv rfl yo (by simp only[BH,AV.ren,E_ hux]) ?_;cbv)|(refine Ob.mk Z.d ?_;cbv)|(refine λm=>?_;cbv)|(refine And.intro ?_ ?_)|exact rfl|exact trivial|fail)
    cbv;simp only[a4];refine nS (some ([[jz z0,jz z1,jz z2,jz z3,jz z4,jz z5,jz z6,jz z7,jz z8,jz z9,.list 1 RT,jz z11,.bool z12,.bool z13,jz z14,jz z15,.bool z16,.bool z17,.bool z18,.bool z19,.bool z20,jz z21,jz z22,jz z23,jz z24,jz z25,jz z26,jz z27,jz z28,jz z29,jz z30,jz z31]],1)) _ _ ?_ ?_ hT
    ·(refine Z.k (λj=>[0,1].getD j 0) ?_;cbv<;>exact Z.q)
    ·exact⟨Z.t,Z.t,wO,hue2,nC⟩
  | some p =>
    obtain⟨V,m⟩:=p;have yP:BP u0 (l.take i.toNat)≠[]/\V=(BP u0 (l.take i.toNat)).map Rp.row/\m=(BP u0 (l.take i.toNat)).length/\Up0 V:=yP;obtain⟨kv,lv,ko,huv⟩:=yP;have nQ:m=V.length:=(by rw[lv,ko];simp);obtain⟨V2,eV2⟩:=Z.e (V++[rp.rowL (.list 1 RT)]);obtain⟨m2,mJ⟩:=Z.e (m+1);have nG:m<=1000:=(by rw[ko,KN,List.length_take];omega);have eV3:V2=(BP u0 (l.take i2.toNat)).map Rp.row:=(by rw[eV2,lv,hru,List.map_append,<- zL];rfl);have huV2:Up0 V2:=(by rw[eV3];exact JP _);have nC:MRp (BP u0 (l.take i2.toNat)) (some (V2,m2)):=⟨by rw[hru];simp,eV3,by rw[mJ,ko,hru];simp,huV2⟩;clear hru lv ko kv nY mU zL eRT erp eV3;obtain⟨z0,z1,z2,z3,z4,z5,z6,z7,z8,z9,zz,z11,z12,z13,z14,z15,z16,z17,z18,z19,z20,z21,z22,z23,z24,z25,z26,z27,z28,z29,z30,z31⟩:=rp;simp only[Rp.rowL] at q5 oK hrv eV2;cbv;repeat' (first|(simp only[ck];cbv)|(refine Idx.mk _ zW oG ?_;cbv)|fail)
    refine AnyQ.e _ (by cbv) _ (by cbv) (by cbv) ?_;cbv;refine CJ.mk [?x0,?x1,?x2,?x3,?x4,?x5,?x6,?x7,?x8,?x9,?x10,?x11,?x12,?x13,.sl 2 32 0 m2,.sl 2 32 0 m2] (λmm=>[match mm 12 with|true=>.live 55 [row2]|false=>.live 55 [row1],match mm 14 with|true=>.dead|false=>.live 32 V]++(match mm 14 with|true=>[.live 32 V2]|false=>[])) rfl ?hsp ?hfp
    case hsp =>
     cbv;repeat' (first|(refine Idx.mk _ zW oG ?_;cbv)|(refine Call.o (s:=0) hP q5 kg pF hrv rfl yo (by simp only[BH,AV.ren,E_ hux]) ?_;cbv)|(refine App.mk V2 m2 eV2 nQ mJ Z.o Z.o ?_;cbv)|(refine λm=>?_;cbv)|(refine And.intro ?_ ?_)|exact rfl|exact trivial|fail)
    cbv;simp only[a4];refine nS (some (V2,m2)) _ _ ?_ ?_ hT
    ·(refine Z.k (λj=>[0,2].getD j 0) ?_;cbv<;>exact Z.q)
    ·exact⟨Z.t,Z.t,wO,hue2,nC⟩
 ·have ck:=W.nlt zA (show N<=i by omega)
  rw[List.take_of_length_le Z.o] at yP
  cases ou with
  | none =>
    have yP:BP u0 l=[]:=yP;have hU:U=[]:=(by rw[eU,yP];rfl);subst hU;cbv;simp only[ck];refine hE _ _ _ ?_;cbv;refine WkB.mk ?_;exact Z.i
  | some p =>
    obtain⟨V,m⟩:=p;have yP:BP u0 l≠[]/\V=(BP u0 l).map Rp.row/\m=(BP u0 l).length/\Up0 V:=yP;obtain⟨kv,lv,ko,huv⟩:=yP;have nQ:m=V.length:=(by rw[lv,ko];simp);have hU:U=V:=(by rw[eU,lv]);subst hU;clear lv ko kv;cbv;simp only[ck];refine hE _ _ _ ?_;cbv;refine WkB.mk ?_;exact Z.i
theorem RP{c:Cf}{ss:List Sg}{gs:List Gr}(hf:D6 ss gs)(h:Dl (Dk c) c.c6 c.c8 ss gs):FZ c (CZ ss gs) ss gs:=by
 have:=RH hf;exact⟨YS h.tr Z.o,h⟩
theorem La{c:Cf}{ss:List Sg}{gs:List Gr}(hf:D6 ss gs)(h:Dl (Dk c) c.c6 c.c8 ss gs)(l:List Cy):CU c ss gs l=BP (.ok ss gs (stU c ss gs) []) l:=by
 unfold CU;rw[if_pos h,NG (RP hf h)]
theorem Lc{c:Cf}{ss:List Sg}{gs:List Gr}(h:¬Dl (Dk c) c.c6 c.c8 ss gs)(l:List Cy):CU c ss gs l=[]:=by
 unfold CU;rw[if_neg h]
theorem Lb{c:Cf}{ss:List Sg}{gs:List Gr}(hf:D6 ss gs)(h:Dl (Dk c) c.c6 c.c8 ss gs):BL ss gs (stU c ss gs) [] 0:=NH (RP hf h)
theorem jw{x:BitVec 16}(h:crS x=0#16):x=0#16:=by
 by_cases hm:x.toNat<32768
 ·rw[Uo hm] at h
  have h2:=congrArg BitVec.toNat h;rw[BitVec.toNat_shiftLeft,Nat.shiftLeft_eq] at h2;simp at h2;apply BitVec.eq_of_toNat_eq;simp;omega
 ·exfalso
  have hx:x.msb=true:=(by rw[BitVec.msb_eq_decide];simp;omega);unfold crS at h;rw[hx] at h;have h2:=congrArg (λv=>v.getLsbD 0) h;simp[BitVec.getLsbD_xor,BitVec.getLsbD_shiftLeft] at h2
theorem jy{a b:BitVec 16}(h:crS a=crS b):a=b:=by
 have h1:crS (a ^^^ b)=0#16:=by rw[Um,h,BitVec.xor_self]
 exact BitVec.xor_eq_zero_iff.1 (jw h1)
theorem jQ:∀(n:Nat) {a b:BitVec 16},crN n a=crN n b->a=b
 | 0,a,b,h=>h
 | n+1,a,b,h=>jy (jQ n h)
theorem j_{s t b:BitVec 16}(h:crB s b=crB t b):s=t:=by
 have:=jQ 8 h;exact(BitVec.xor_left_inj _).1 this
theorem kC{s a b:BitVec 16}(h:crB s a=crB s b):a <<< 8=b <<< 8:=by
 have:=jQ 8 h;exact(BitVec.xor_right_inj _).1 this
theorem jX:∀(l:List (BitVec 16)) {s t:BitVec 16},crL s l=crL t l->s=t
 | [],s,t,h=>h
 | b::l,s,t,h=>j_ (jX l (s:=crB s b) (t:=crB t b) h)
theorem jY:∀(l:List Int) (i:Nat) (x y:Int) (s:BitVec 16),l[i]?=some x->0<=x/\x<=255->0<=y/\y<=255->crF s (l.set i y)=crF s l->y=x
 | b::l,0,x,y,s,hx,h1,h2,h=>by
   simp only[List.getElem?_cons_zero,Option.some.injEq] at hx;subst hx;simp only[List.set_cons_zero,crF,List.map_cons,crL,List.foldl_cons] at h;have h3:=kC (jX _ h);have h4:=congrArg BitVec.toNat h3;unfold Cj at h4;simp only[BitVec.toNat_shiftLeft,Nat.shiftLeft_eq,BitVec.toNat_ofNat] at h4;omega
 | b::l,i+1,x,y,s,hx,h1,h2,h=>by
   simp only[List.getElem?_cons_succ] at hx;simp only[List.set_cons_succ,crF,List.map_cons,crL,List.foldl_cons] at h;exact jY l i x y _ hx h1 h2 h
theorem kD{l:List Int}{i:Nat}{x y:Int}(hx:l[i]?=some x)(h1:0<=x/\x<=255)(h2:0<=y/\y<=255)(kv:y≠x)(h:(frV l).e=0):(frV (l.set i y)).e≠0:=by
 have hz:∀l,(frV l).e=0->crF 65535#16 l=0#16:=λl h=>by
  unfold frV at h;split at h
  ·cases h
  ·split at h
   ·cases h
   ·split at h
    ·cases h
    ·split at h
     ·cases h
     ·rename_i k;exact Classical.not_not.1 k
 intro h3;exact kv (jY l i x y 65535#16 hx h1 h2 ((hz _ h3).trans (hz _ h).symm))
def mlB(k d:Int):Ml:=⟨false,false,false,false,false,0,0,0,0,0,k,0,0,d⟩
theorem jZ(c:Int):∀(l:List (List Int)) (k d:Int),(∀b,b∈l->(frV b).e≠0)->l.foldl (λm b=>Dy c m (frV b)) (mlB k d)=mlB (k+l.length) d
 | [],k,d,_=>by simp
 | b::l,k,d,h=>by
   rw[List.foldl_cons];have:Dy c (mlB k d) (frV b)=mlB (k+1) d:=(by unfold Dy;rw[if_pos (h b List.mem_cons_self)];rfl);rw[this,jZ c l _ _ (λx hx=>h x (List.mem_cons_of_mem _ hx)),List.length_cons];congr 1
   omega
theorem kE(c:Int)(l:List (List Int))(h:∀b,b∈l->(frV b).e≠0):∃k d,Cc c l=mlB k d:=
 ⟨_,_,jZ _ _ 0 _ λb hb=>h b (List.mem_of_mem_take hb)⟩
def jO(r q:Rp):Prop:=∃b s t y,r={ q with bad:=b,sta:=s,twi:=t,bey:=y }
theorem kF(ss:List Sg)(gs:List Gr)(mm:List (List Int))(r:Rp)(n:Nv)(f:Fu)(b s t y b' s' t' y':Int):BZ ss gs mm { r with bad:=b,sta:=s,twi:=t,bey:=y } n f={ BZ ss gs mm { r with bad:=b',sta:=s',twi:=t',bey:=y' } n f with bad:=b,sta:=s,twi:=t,bey:=y }:=by
 unfold BZ;cases n.on<;>rfl
theorem kG(ss:List Sg)(gs:List Gr)(n:Nv)(com:Bool)(f:Fu)(ov:Bool)(x:Fo)(u:Nv×List (List Int))(m:Ml):(stepE ss gs n m com f ov x u).r={ (stepE ss gs n (mlB 0 0) com f ov x u).r with bad:=m.bad,sta:=m.stale,twi:=m.twice,bey:=m.beyond } :=
 kF ss gs _ { rp0 n.cy with ac:=x.ac,fa:= !x.ok } _ f m.bad m.stale m.twice m.beyond 0 0 0 0
theorem kH(ss:List Sg)(mm:List (List Int))(n:Nv)(k d:Int):Ce ss mm n (mlB k d)=Ce ss mm n (mlB 0 0):=rfl
theorem kI(ss:List Sg)(gs:List Gr)(mm:List (List Int))(n:Nv)(wl wh:Int)(k d a b:Int):FY ss gs mm n wl wh (mlB k d) a b=FY ss gs mm n wl wh (mlB 0 0) a b:=rfl
theorem kJ(ss:List Sg)(gs:List Gr)(n:Nv)(mm:List (List Int))(l:List (List Int))(com:Bool)(h:∀b,b∈l->(frV b).e≠0):(Bp ss gs n mm l com).n=(Bp ss gs n mm [] com).n/\(Bp ss gs n mm l com).mm=(Bp ss gs n mm [] com).mm/\jO (Bp ss gs n mm l com).r (Bp ss gs n mm [] com).r:=by
 obtain⟨k,d,e⟩:=kE n.cy l h;have e0:Cc n.cy []=mlB 0 0:=rfl;unfold Bp;rw[e,e0];refine⟨rfl,rfl,?_⟩;unfold IM IP;simp only[kH ss mm _ k d,kI ss gs _ _ _ _ k d];exact⟨k,0,0,d,kG ss gs n com _ _ _ _ (mlB k d)⟩
theorem jR:∀(l:List (List (List Int)×Bool)) (u:Un) (f:List (List Int)->List (List Int)),(∀c,c∈l->∀b,b∈f c.1->(frV b).e≠0)->∀(i:Nat) (r q:Rp),(BP u (l.map λc=>(f c.1,c.2)))[i]?=some r->(BP u (l.map λc=>([],c.2)))[i]?=some q->jO r q
 | [],u,f,h,i,r,q,h1,h2=>by simp[BP] at h1
 | c::l,u,f,h,i,r,q,h1,h2=>by
   have hc:=h c List.mem_cons_self;have ht:=λx hx=>h x (List.mem_cons_of_mem _ hx);simp only[List.map_cons,BP] at h1 h2
   cases u with
   | br cy =>
     cases i with
     | zero =>
       simp only[List.getElem?_cons_zero,Option.some.injEq] at h1 h2;rw[<- h1,<- h2];exact⟨_,_,_,_,rfl⟩
     | succ i=>exact jR l _ f ht i r q h1 h2
   | ok ss gs n mm =>
     obtain⟨a1,a2,a3⟩:=kJ ss gs n mm (f c.1) c.2 hc;have b1:Dm (.ok ss gs n mm) (f c.1) c.2=(.ok ss gs (Bp ss gs n mm (f c.1) c.2).n (Bp ss gs n mm (f c.1) c.2).mm,(Bp ss gs n mm (f c.1) c.2).r):=rfl;have b2:Dm (.ok ss gs n mm) [] c.2=(.ok ss gs (Bp ss gs n mm [] c.2).n (Bp ss gs n mm [] c.2).mm,(Bp ss gs n mm [] c.2).r):=rfl;rw[b1] at h1;rw[b2] at h2
     cases i with
     | zero =>
       simp only[List.getElem?_cons_zero,Option.some.injEq] at h1 h2;rw[<- h1,<- h2];exact a3
     | succ i =>
       simp only[List.getElem?_cons_succ] at h1 h2;rw[a1,a2] at h1;exact jR l _ f ht i r q h1 h2
def ssA:List Sg:=[⟨9000,[(0,0)],[]⟩]
def gsA:List Gr:=[⟨7,0,4000,0,0⟩]
def cA:Cf:=⟨1024,131072,131072,0,0,0,1000,100,9,2,128,0,5,2⟩
theorem Xm:Hf 0 [IY,IZ]=[([frB 1 0 0,frB 2 0 0,frB 3 0 0,frB 4 0 0,frB 5 0 7],false),([frB 1 1 0,frB 2 1 0,frB 3 1 0,frB 4 1 0],false)]:=rfl
def nA0:Nv:=stU cA ssA gsA
theorem wrA:Dk cA=0:=by kernel_rfl
theorem acA:(Bp ssA gsA nA0 [] [frB 1 0 0,frB 2 0 0,frB 3 0 0,frB 4 0 0,frB 5 0 7] false).r.ac=true:=by kernel_rfl
noncomputable def sA1:Ex:=Bp ssA gsA nA0 [] [frB 1 0 0,frB 2 0 0,frB 3 0 0,frB 4 0 0,frB 5 0 7] false
noncomputable def sA2:Ex:=Bp ssA gsA sA1.n sA1.mm [frB 1 1 0,frB 2 1 0,frB 3 1 0,frB 4 1 0] false
theorem grA:sA2.r.gr=7:=by kernel_rfl
theorem mdA:sA2.r.md=2:=by kernel_rfl
theorem stA:sA2.r.st=true:=by kernel_rfl
theorem loA:(decide (sA2.r.lo<=0) && decide (0<=sA2.r.hi) && decide (sA2.r.hi-sA2.r.lo<1000) && decide (-1000<sA2.r.lo))=true:=by kernel_rfl
theorem Q_:D6 ssA gsA:=⟨by decide,by decide,by decide⟩
theorem trA:BN ssA gsA:=by
 refine⟨by decide,by decide,by decide,λj hj s hs=>?_,λj hj g hg=>?_⟩
 ·obtain rfl:j=0:=by simp only[ssA,List.length_singleton] at hj;omega
  obtain rfl:(⟨9000,[(0,0)],[]⟩:Sg)=s:=(by simpa[ssA] using hs);refine⟨by decide,by decide,⟨by decide,by decide,λp hp=>?_,λi hi p hp=>?_⟩,by decide,λi hi=>by simp at hi,λa b ha=>by simp at ha⟩
  ·obtain rfl:((0:Int),(0:Int))=p:=by simpa using hp
   rfl
  ·obtain rfl:i=0:=by simp only[List.length_singleton] at hi;omega
   obtain rfl:((0:Int),(0:Int))=p:=(by simpa using hp);exact⟨by decide,by decide,by decide,λh=>absurd h Z.d⟩
 ·obtain rfl:j=0:=by simp only[gsA,List.length_singleton] at hj;omega
  obtain rfl:(⟨7,0,4000,0,0⟩:Gr)=g:=(by simpa[gsA] using hg);refine⟨by decide,by decide,by decide,by decide,by decide,λs hs=>?_,by decide,by decide,by decide,by decide,λh=>absurd h Z.d⟩;obtain rfl:(⟨9000,[(0,0)],[]⟩:Sg)=s:=(by simpa[ssA] using hs);decide
theorem fitA:Dl (Dk cA) cA.c6 cA.c8 ssA gsA:=by
 refine⟨wrA,trA,λj hj g hg=>?_⟩;obtain rfl:j=0:=by simp only[gsA,List.length_singleton] at hj;omega
 obtain rfl:(⟨7,0,4000,0,0⟩:Gr)=g:=by simpa[gsA] using hg
 refine⟨by decide,λs hs=>?_⟩;obtain rfl:(⟨9000,[(0,0)],[]⟩:Sg)=s:=by simpa[ssA] using hs
 decide
theorem Xn:CU cA ssA gsA (Hf 0 [IY,IZ])=[sA1.r,sA2.r]:=by
 rw[La Q_ fitA,Xm];simp only[BP,Dm];unfold sA2 sA1 nA0
 kernel_rfl
theorem Xp(a b v:Int)(h:a<=v/\v<=b):A9 Tryz.prog 31 [.agg [a,b],v] (· = .bool true):=by
 refine Z.y Tryz.func31 λ_ _ _ _ _ _ _ _ zA _ _ _ _ hz R hR P hP=>?_;cbv;repeat' (split<;>rename_i h<;>(try (simp only[hz,Z.a,AF,AC,AO,AP,AL,reduceCtorEq] at h))<;>(try cbv))
 all_goals
  refine⟨_,Vw.same rfl,hR _ (congrArg AV.bool ?_)⟩
  (try simp only[zA,AC,Bool.and_eq_true,decide_eq_true_eq])
  first|rfl|omega|(simp;omega)|(simp_all;done)|(exfalso;simp_all;omega)
theorem Xq(a b:Int)(h:a<=b):A9 Tryz.prog 73 [.agg [a,b]] (· = .bool true):=by
 refine Z.y Tryz.func73 λ_ _ _ _ _ _ _ _ zA _ _ _ _ hz R hR P hP=>?_;cbv;exact⟨_,Vw.same rfl,hR _ (congrArg AV.bool (by rw[zA];simp only[AC];exact decide_eq_true h))⟩
theorem Xr(a b w:Int)(h:a<=b)(ny:w=b-a)(h2:b-a<1000):A9 Tryz.prog 32 [.agg [a,b]] (· = .int .u64 w):=by
 (refine A9.ofY Tryz.func32 (by kernel_rfl) (by kernel_rfl) (Z.w λzB zE yN zD zF zX yO zP zS zR yA yB zK zU zM zN zO yG zT yH hw zC zA yJ zG zI yM yS zZ yF yE yT yU zH yR zV yI yL yX yQ yY hz R hR=>?_));(conv=>arg 2;cbv);(generalize hP:Tryz.prog=P);cbv;refine Call.step (by rw[<- hP];exact Xq a b h) rfl ?_;rintro r rfl;have n1:zF true=false:=by rw[zI];rfl
 cbv;simp only[n1];cbv;refine⟨_,Vw.same rfl,hR _ (congrArg (AV.int .u64) ?_)⟩;rw[zC,zG,ny];show IntKind.u64.wrap (IntKind.u64.wrap b-IntKind.u64.wrap a)=_;rw[IntKind.wrap_u64,IntKind.wrap_u64,IntKind.wrap_u64];omega
theorem A9.pre{P:Program}{g:FuncId}{args args':List AV}{R:AV->Prop}(H:A9 P g args' R)(ha:VwL [] args args'):A9 P g args R:=
 ⟨H.1,λC vs hC RC hv=>H.2 C vs hC RC (by
   have h:=VwL.vrs (C:=C) (by rw[hC];exact ha) RC hv;have e:({ C with h:=[] }:Cfg)=C:=(by cases C;simp only at hC;subst hC;rfl);rw[e] at h;exact h)⟩
theorem sgA:∀s,s∈ssA->HV s:=λs hs=>by
 obtain rfl:=List.mem_singleton.1 hs;refine⟨by unfold I64;decide,λp hp=>?_,λn hn=>by cases hn⟩;obtain rfl:=List.mem_singleton.1 hp;exact⟨by unfold I64;decide,by unfold I64;decide⟩
theorem grAA:∀g,g∈gsA->HY g:=λg hg=>by
 obtain rfl:=List.mem_singleton.1 hg;exact⟨by unfold I64;decide,by unfold I64;decide,by unfold I64;decide,by unfold I64;decide,by unfold I64;decide⟩
theorem cyA:((Hf 0 [IY,IZ]).all λc=>decide (c.1.length<=50) && c.1.all λb=>decide (b.length<=300) && b.all λx=>decide (0<=x) && decide (x<=255))=true:=by kernel_rfl
theorem cyAA:∀c,c∈Hf 0 [IY,IZ]->c.1.length<=50/\∀b,b∈c.1->Ar b/\b.length<=300:=λc hc=>by
 have h:=List.all_eq_true.1 cyA c hc;simp only[Bool.and_eq_true,decide_eq_true_eq,List.all_eq_true] at h;exact⟨h.1,λb hb=>⟨λx hx=>(h.2 b hb).2 x hx,(h.2 b hb).1⟩⟩
def alD3:List (List Nat):=[[],[],[],[2],[],[4],[3,5],[6],[0,1,7,7],[8,8,0,1,2,3,4,5,6,7,8]]
def esL:List (List AV):=[[jz 9000,.list 2 [[jz 0,jz 0]],.nils]]
def dsL:List (List AV):=[[jz 7,jz 0,jz 4000,jz 0,jz 0]]
theorem Na:A9 Tryz.prog 11 [] (· = .bool true):=by
 obtain⟨us,eus⟩:∃x,x=(Hf 0 [IY,IZ]).map DJ:=⟨_,rfl⟩;have q0:=Xl us eus;obtain⟨r1,oP⟩:=Z.e sA1.r;obtain⟨r2,pV⟩:=Z.e sA2.r;have q1:=Ld cA ssA gsA (ssA.map Ah) (gsA.map Ak) rfl rfl sgA grAA Q_ (Hf 0 [IY,IZ]) Z.d cyAA us eus;rw[Xn,<- oP,<- pV] at q1;have k0:r1.ac=true:=by rw[oP];exact acA
 have k1:r2.gr=7:=by rw[pV];exact grA
 have k2:r2.md=2:=by rw[pV];exact mdA
 have k3:r2.st=true:=by rw[pV];exact stA
 have k4:=loA;rw[<- pV] at k4;have hU:=JP [r1,r2];have rQ:Up0 us:=by rw[eus];exact HZ _
 clear oP pV eus
 have q2:A9 Tryz.prog 12 [.agg [jz 1024,jz 131072,jz 131072,jz 0,jz 0,jz 0,jz 1000,jz 100,jz 9,jz 2,jz 128,jz 0,jz 5,jz 2],.agg [.list 3 esL,.list 5 dsL],.list 2 us] _:=A9.pre q1 ⟨Vw.same rfl,Vw.agg ⟨Vw.rows rfl (λr hr=>by obtain rfl:=List.mem_singleton.1 hr;rfl) (λi r hr=>by
  have:i=0:=by have:=(List.getElem?_eq_some_iff.1 hr).1;simp[ssA] at this;omega
  subst this;obtain rfl:Ah ⟨9000,[(0,0)],[]⟩=r:=(by simpa[ssA] using hr);exact⟨_,rfl,Vw.same rfl,Vw.same rfl,Vw.nil 1,trivial⟩),Vw.same rfl,trivial⟩,Vw.same (by exact ul rQ),trivial⟩
 clear q1;obtain⟨RT1,eRT1⟩:=Z.e (r1.rt.map D7);obtain⟨RT2,eRT2⟩:=Z.e (r2.rt.map D7);simp only[List.map_cons,List.map_nil,Rp.row,<- eRT1,<- eRT2] at q2 hU;clear eRT1 eRT2;refine A9.of_call (AJ.give ?_);(refine AJ.ofP (F:=[3]) (sc:=?scc) (r:=?rr) Tryz.func11 (by kernel_rfl) rfl ?hr ?hc (by kernel_rfl) λw hw=>?H);(case hr=>((conv=>lhs;cbv);(try exact rfl)));(case hc=>((repeat' (first|refine' IQ ?_ ?_|refine' IR ?_|refine' IU ?_|refine' Cg (id:=3) alD3 rfl (by kernel_rfl) ?_|fail));(try any_goals (conv=>lhs;cbv));(try any_goals exact rfl)));(obtain⟨zB,zE,yN,zD,zF,zX,yO,zP,zS,zR,yA,yB,zK,zU,zM,zN,zO,yG,zT,yH⟩:=w);(have zC:=Z.w1 hw);(have zA:=Z.w2 hw);(have yJ:=Z.w3 hw);(have zG:=Z.w4 hw);(have zI:=Z.w5 hw);(have yM:=Z.w6 hw);(have yS:=Z.w7 hw);(have zZ:=Z.w8 hw);(have yF:=Z.w9 hw);(have yE:=Z.w10 hw);(have yT:=Z.w11 hw);(have yU:=Z.w12 hw);(have zH:=Z.w13 hw);(have yR:=Z.w14 hw);(have zV:=Z.w15 hw);(have yI:=Z.w16 hw);(have yL:=Z.w17 hw);(have yX:=Z.w18 hw);(have yQ:=Z.w19 hw);(have yY:=Z.w20 hw);(have hz:=Z.z hw);(conv=>arg 4;cbv);(generalize hP:Tryz.prog=P);cbv;refine AnyQ.e _ (by cbv) _ (by cbv) (by cbv) ?_;cbv;refine CJ.mk [.agg [jz 1024,jz 131072,jz 131072,jz 0,jz 0,jz 0,jz 1000,jz 100,jz 9,jz 2,jz 128,jz 0,jz 5,jz 2],.agg [.list 3 esL,.list 5 dsL],?y2,?y3,?y4,?y5,?y6,.list 2 us,?y8,?y9] (λm=>[.live 14 [[jz 1024,jz 131072,jz 131072,jz 0,jz 0,jz 0,jz 1000,jz 100,jz 9,jz 2,jz 128,jz 0,jz 5,jz 2]],.live 2 [[.list 3 esL,.list 5 dsL]]]) rfl ?hsa ?hfa
 case hsa =>
  cbv;repeat' (first|(refine Call.s hP q0 ?_;cbv)|(refine Call.s hP q2 ?_;cbv)|(refine λm=>?_;cbv)|(refine And.intro ?_ ?_)|exact rfl|exact trivial|fail)
 cbv;have d0:zE .eql 2 2=true:=W.eq zA rfl;have d1:zE .eql 7 7=true:=W.eq zA rfl;simp only[Bool.and_eq_true,decide_eq_true_eq] at k4;have q3:=Xp r2.lo r2.hi 0 ⟨k4.1.1.1,k4.1.1.2⟩;obtain⟨w,ew⟩:=Z.e (r2.hi-r2.lo);have q4:=Xr r2.lo r2.hi w Z.o ew Z.o;have d2:zE .lss w 1000=true:=W.lt zA Z.o;simp only[zH,List.length_cons,List.length_nil,k0,k1,k2,k3,Nat.zero_add,Nat.reduceAdd,Int.reduceAdd,Int.cast_ofNat_Int];repeat' (first|(simp only[d0,d1,d2,k0,k1,k2,k3];cbv)|(refine Call.s hP q3 ?_;cbv)|(refine Call.s hP q4 ?_;cbv)|(refine Idx.mk _ Z.d rfl ?_;cbv)|fail)
 refine WkB.mk ?_;exact Z.i
end Go.Proofs.YtlchlddijclhjaaGreat
set_option maxRecDepth 100000
namespace Go.Proofs.YtlchlddijclhjaaGreat
open Go Go.RowKit Go.Eng
theorem Hg{D:Type}{f:D->List AV}{p:D->Prop}:∀ {es:List (List AV)},(∀r,r∈es->∃d,r=f d/\p d)->∃ds:List D,es=ds.map f/\∀d,d∈ds->p d
 | [],_=>⟨[],rfl,λd hd=>by cases hd⟩
 | r::es,h=>by
   obtain⟨d,h1,h2⟩:=h r (by simp);obtain⟨ds,h3,h4⟩:=Hg (es:=es) λx hx=>h x (by simp[hx])
   exact⟨d::ds,by rw[h1,h3];rfl,λx hx=>by
    rcases List.mem_cons.1 hx with rfl|hx
    ·exact h2
    ·exact h4 x hx⟩
theorem Xt{n:Int}(h:(Lit.int .u8 n).wf=true):0<=n/\n<=255:=by
 simp[Lit.wf,IntKind.min,IntKind.max,IntKind.bits,IntKind.signed] at h;omega
theorem Xu{l:List Sh}{xs:List AV}(h:OkL (.list 1 [.int .u8]::l) xs):∃(b:List Int) (y:List AV),xs = .list 1 (b.map AZ)::y/\b.length<=GN/\Ar b/\OkL l y:=by
 obtain⟨es,y,rfl,hl,hr,k⟩:=Ia h
 obtain⟨b,rfl,hb⟩:=Hg (f:=AZ) (p:=λb=>0<=b/\b<=255) (es:=es) λr pG=>by
  obtain⟨n,_,rfl,hw,k1⟩:=C8 (hr r pG);obtain rfl:=Fg k1;exact⟨n,rfl,Xt hw⟩
 exact⟨b,y,rfl,by simpa using hl,hb,k⟩
theorem Xv{l:List Sh}{xs:List AV}(h:OkL (.list 1 [.list 1 [.int .u8]]::l) xs):∃(b:List (List Int)) (y:List AV),xs = .list 1 (b.map Em)::y/\b.length<=GN/\(∀x,x∈b->Ar x/\x.length<=GN)/\OkL l y:=by
 obtain⟨es,y,rfl,hl,hr,k⟩:=Ia h
 obtain⟨b,rfl,hb⟩:=Hg (f:=Em) (p:=λx=>Ar x/\x.length<=GN) (es:=es) λr pG=>by
  obtain⟨b,_,rfl,h1,h2,k1⟩:=Xu (hr r pG);obtain rfl:=Fg k1;exact⟨b,rfl,h2,h1⟩
 exact⟨b,y,rfl,by simpa using hl,hb,k⟩
theorem EZ{n:Int}(h:(Lit.int .i64 n).wf=true):I64 n:=by
 have:=wf64 h;unfold I64;omega
theorem Nf(x:AV)(h:TyV Tryz.prog 8 23 x):∃c:Cf,x = .agg [jz c.c0,jz c.c1,jz c.c2,jz c.c3,jz c.c4,jz c.c5,jz c.c6,jz c.c7,jz c.c8,jz c.c9,jz c.c10,jz c.c11,jz c.c12,jz c.c13]/\I64 c.c6/\I64 c.c7/\I64 c.c12:=by
 obtain⟨cs,rfl,hx⟩:=h.agg (by kernel_rfl) (show ED Tryz.prog 8 23=some [.int .i64,.int .i64,.int .i64,.int .i64,.int .i64,.int .i64,.int .i64,.int .i64,.int .i64,.int .i64,.int .i64,.int .i64,.int .i64,.int .i64] from by kernel_rfl);obtain⟨c0,_,rfl,_,hx⟩:=C8 hx;obtain⟨c1,_,rfl,_,hx⟩:=C8 hx;obtain⟨c2,_,rfl,_,hx⟩:=C8 hx;obtain⟨c3,_,rfl,_,hx⟩:=C8 hx;obtain⟨c4,_,rfl,_,hx⟩:=C8 hx;obtain⟨c5,_,rfl,_,hx⟩:=C8 hx;obtain⟨c6,_,rfl,h6,hx⟩:=C8 hx;obtain⟨c7,_,rfl,h7,hx⟩:=C8 hx;obtain⟨c8,_,rfl,_,hx⟩:=C8 hx;obtain⟨c9,_,rfl,_,hx⟩:=C8 hx;obtain⟨c10,_,rfl,_,hx⟩:=C8 hx;obtain⟨c11,_,rfl,_,hx⟩:=C8 hx;obtain⟨c12,_,rfl,wu,hx⟩:=C8 hx;obtain⟨c13,_,rfl,_,hx⟩:=C8 hx;obtain rfl:=Fg hx;exact⟨⟨c0,c1,c2,c3,c4,c5,c6,c7,c8,c9,c10,c11,c12,c13⟩,rfl,EZ h6,EZ h7,EZ wu⟩
theorem Ng(x:AV)(h:TyV Tryz.prog 8 27 x):∃(ss:List Sg) (gs:List Gr),x = .agg [.list 3 (ss.map Ah),.list 5 (gs.map Ak)]/\(∀s,s∈ss->HV s)/\(∀g,g∈gs->HY g):=by
 obtain⟨cs,rfl,k0⟩:=h.agg (by kernel_rfl) (show ED Tryz.prog 8 27=some [.list 3 [.int .i64,.list 2 [.int .i64,.int .i64],.list 1 [.int .i64]],.list 5 [.int .i64,.int .i64,.int .i64,.int .i64,.int .i64]] from by kernel_rfl);clear h;obtain⟨es,_,rfl,_,hr,k1⟩:=Ia k0;obtain⟨ds,_,rfl,_,hs,k2⟩:=Ia k1;obtain rfl:=Fg k2;clear k0 k1 k2
 obtain⟨ss,rfl,vE⟩:=Hg (f:=Ah) (p:=HV) (es:=es) λr pG=>by
  have k0:=hr r pG;clear hr pG;obtain⟨len,_,rfl,hl,k1⟩:=C8 k0;obtain⟨ps,_,rfl,_,hp,k2⟩:=Ia k1;obtain⟨ns,_,rfl,_,hn,k3⟩:=Ia k2;obtain rfl:=Fg k3;clear k0 k1 k2 k3
  obtain⟨qs,rfl,hqs⟩:=Hg (f:=Ap) (p:=λp=>I64 p.1/\I64 p.2) (es:=ps) λr pG=>by
   have k0:=hp r pG;clear hp pG;obtain⟨a,_,rfl,ha,k1⟩:=C8 k0;obtain⟨b,_,rfl,hb,k2⟩:=C8 k1;obtain rfl:=Fg k2;exact⟨(a,b),rfl,EZ ha,EZ hb⟩
  obtain⟨ms,rfl,hms⟩:=Hg (f:=Ac) (p:=λn=>I64 n) (es:=ns) λr pG=>by
   have k0:=hn r pG;clear hn pG;obtain⟨a,_,rfl,ha,k1⟩:=C8 k0;obtain rfl:=Fg k1;exact⟨a,rfl,EZ ha⟩
  exact⟨⟨len,qs,ms⟩,rfl,EZ hl,hqs,hms⟩
 obtain⟨gs,rfl,hgs⟩:=Hg (f:=Ak) (p:=HY) (es:=ds) λr pG=>by
  have k0:=hs r pG;clear hr hs pG;obtain⟨a,_,rfl,ha,k1⟩:=C8 k0;obtain⟨b,_,rfl,hb,k2⟩:=C8 k1;obtain⟨c,_,rfl,hc,k3⟩:=C8 k2;obtain⟨d,_,rfl,hd,k4⟩:=C8 k3;obtain⟨e,_,rfl,he,k5⟩:=C8 k4;obtain rfl:=Fg k5;exact⟨⟨a,b,c,d,e⟩,rfl,EZ ha,EZ hb,EZ hc,EZ hd,EZ he⟩
 exact⟨ss,gs,rfl,vE,hgs⟩
theorem Nh(x:AV)(h:TyV Tryz.prog 8 28 x):∃l:List Cy,x = .list 2 (l.map DJ)/\∀c,c∈l->∀b,b∈c.1->Ar b:=by
 have k0:=h.one (by kernel_rfl) (show ED Tryz.prog 8 28=some [.list 2 [.list 1 [.list 1 [.int .u8]],.bool]] by kernel_rfl)
 have k0:OkL [.list 2 [.list 1 [.list 1 [.int .u8]],.bool]] [x]:=by
  unfold OkL;exact⟨x,[],rfl,k0,by unfold OkL;rfl⟩
 obtain⟨es,_,e1,hl,hr,k1⟩:=Ia k0;obtain rfl:=Fg k1;simp only[List.cons.injEq,and_true] at e1;subst e1
 obtain⟨l,rfl,hp⟩:=Hg (f:=DJ) (p:=λc=>∀b,b∈c.1->Ar b) (es:=es) λr pG=>by
  obtain⟨bs,_,rfl,h1,h2,k3⟩:=Xv (hr r pG);obtain⟨c,_,rfl,k2⟩:=Xw k3;obtain rfl:=Fg k2;exact⟨(bs,c),rfl,λb hb=>(h2 b hb).1⟩
 exact⟨l,rfl,hp⟩
theorem Nc(c:Cf)(ss:List Sg)(gs:List Gr)(l:List Cy):(CU c ss gs l).length<=l.length:=by
 unfold CU;split
 ·rw[KN];exact Nat.le_refl _
 ·simp
def RtP(r:Rp):Prop:=r.rt.length<=16/\∀l,l∈r.rt->l.length<=12
theorem ja:∀(l:List Cy) (u:Un) (k:Int),UI k u->k+l.length<=1000000->H9 l->∀r,r∈BP u l->RtP r
 | [],u,k,h,hk,hc,r,hr=>by simp[BP] at hr
 | c::l,u,k,h,hk,hc,r,hr=>by
   simp only[List.length_cons] at hk;have hn:=h.next Z.o (hc c List.mem_cons_self)
   simp only[BP,List.mem_cons] at hr;rcases hr with rfl|hr
   ·cases u with
    | br cy=>exact⟨Nat.zero_le _,λl hl=>by cases hl⟩
    | ok ss gs n mm =>
      obtain⟨s,es⟩:=Z.e (Bp ss gs n mm c.1 c.2);have kX:Dm (.ok ss gs n mm) c.1 c.2=(.ok ss gs s.n s.mm,s.r):=(by rw[es];rfl);rw[kX] at hn ⊢;have hU:BL ss gs s.n s.mm (k+1):=hn;have xX:=BL.cf (show BL ss gs n mm k from h) |>.in_
      obtain⟨t1,t2,t3,t4,t5,t6⟩:=XD Z.o Z.o (BL.sp (show BL ss gs n mm k from h)) es;unfold RtP;simp only
      cases ho:s.n.on with
      | true =>
        rw[(t5 ho).2.2.2.1];exact⟨(hU.on ho).ok.few,λl hl=>((hU.on ho).ok.way l hl).len.1⟩
      | false =>
        rw[(t6 ho).2.2.2.1];exact⟨Nat.zero_le _,λl hl=>by cases hl⟩
   ·exact ja l _ (k+1) hn Z.o (λx hx=>hc x (List.mem_cons_of_mem _ hx)) r hr
theorem jr(c:Cf)(ss:List Sg)(gs:List Gr)(l:List Cy)(hf:D6 ss gs)(hl:l.length<=1000000)(hc:H9 l):∀r,r∈CU c ss gs l->RtP r:=by
 by_cases h:Dl (Dk c) c.c6 c.c8 ss gs
 ·rw[La hf h]
  exact ja l (.ok ss gs (stU c ss gs) []) 0 (Lb hf h) Z.o hc
 ·rw[Lc h];intro r hr;cases hr
theorem jo(c:Cf)(ss:List Sg)(gs:List Gr)(l:List Cy):(CU c ss gs (d9 l)).length=(CU c ss gs l).length:=by
 unfold CU;split
 ·rw[KN,KN];unfold d9;rw[List.length_map]
 ·rfl
theorem jq(c:Cf)(ss:List Sg)(gs:List Gr)(l:List Cy)(h:∀c,c∈l->∀b,b∈c.1->(frV b).e≠0)(i:Nat)(r q:Rp)(h1:(CU c ss gs l)[i]?=some r)(h2:(CU c ss gs (d9 l))[i]?=some q):jO r q:=by
 unfold CU at h1 h2;split at h1
 ·rename_i hf
  rw[if_pos hf] at h2;have:=jR l (GI c (CZ ss gs)) id h i r q;rw[show (l.map λc=>(id c.1,c.2))=l from List.map_id l] at this;exact this h1 h2
 ·cases h1
set_option maxRecDepth 100000
theorem jm(F G:List Rp)(hFG:F.length=G.length)(hl:F.length<=100000)(ha:∀(i:Nat) (r q:Rp),F[i]?=some r->G[i]?=some q->jO r q)(hr:∀r,r∈G->RtP r)(U V:List (List AV))(hU:U=F.map Rp.row)(hV:V=G.map Rp.row):A9 Tryz.prog 29 [.list 32 U,.list 32 V] (· = .bool true):=by
 have huU:Up0 U:=by rw[hU];exact JP F
 have huV:Up0 V:=by rw[hV];exact JP G
 have hUl:U.length=F.length:=by rw[hU];simp
 have hVl:V.length=F.length:=by rw[hV,hFG];simp
 refine Z.y Tryz.func29 λzB zE _ _ zF zK hw zC zA _ _ zI zH hz R hR P hP=>?_;cbv;have d1:∀a:Int,zE .neq a a=false:=λa=>by rw[zA];simp[AC]
 have n1:zF true=false:=by rw[zI];rfl
 obtain⟨N,eN,N0,Nn⟩:=Z.l zH U;have eM:zK V=N:=by rw[<- eN,zH];simp only[hUl,hVl]
 repeat' (first|(simp only[d1,eN,eM];cbv)|fail)
 refine Ae.data hw (S:=Int) (λi=>fr 27 [(0,.list 32 U),(1,.list 32 V),(4,.bool false),(12,N),(13,i)]) (λ_=>[]) (λi=>0<=i/\i<=N) (λi=>(N-i).toNat) 0 Z.i ⟨Int.le_refl _,N0⟩ ?_;rintro i zJ Q' hN hE hR';have zJ:0<=i/\i<=N:=zJ;obtain⟨zW,yZ⟩:=zJ;by_cases yC:i<N
 ·obtain⟨r,xO⟩:∃c,F[i.toNat]?=some c:=⟨_,List.getElem?_eq_getElem (show i.toNat<F.length by omega)⟩
  obtain⟨q,t_⟩:∃c,G[i.toNat]?=some c:=⟨_,List.getElem?_eq_getElem (show i.toNat<G.length by omega)⟩;obtain⟨kb,ks,kt,ky,rfl⟩:=ha _ _ _ xO t_;have hrt:=hr q (List.mem_of_getElem? t_);obtain⟨i2,kW⟩:=Z.e (i+1);have a4:zB .add .i64 i 1=i2:=(by rw[zC,Ag Z.o Z.o,kW]);have ck:=W.lt zA yC;have hT:(N-i2).toNat<(N-i).toNat:=(by omega);obtain⟨RT,eRT⟩:=Z.e (q.rt.map D7);have huRT:Up0 RT:=(by rw[eRT];exact JQ _);have nW:U[i.toNat]?=some (Rp.rowL { q with bad:=kb,sta:=ks,twi:=kt,bey:=ky } (.list 1 RT)):=(by rw[hU,List.getElem?_map,xO,eRT];rfl);have yW:V[i.toNat]?=some (q.rowL (.list 1 RT)):=(by rw[hV,List.getElem?_map,t_,eRT];rfl);unfold RtP at hrt;obtain⟨z0,z1,z2,z3,z4,z5,z6,z7,z8,z9,rts,z11,z12,z13,z14,z15,z16,z17,z18,z19,z20,z21,z22,z23,z24,z25,z26,z27,z28,z29,z30,z31⟩:=q;simp only[Rp.rowL] at nW yW eRT hrt;have qa:=jv z0 z1 z2 z3 z4 z5 z6 z7 z8 z9 z11 z14 z15 z21 z22 z23 z24 z25 z26 z27 kb ks kt ky z28 z29 z30 z31 z12 z13 z16 z17 z18 z19 z20 rts ⟨by omega,λl hl=>by have:=hrt.2 l hl;omega⟩ RT eRT;clear xO t_ eRT;cbv;repeat' (first|(simp only[ck,n1,a4];cbv)|(refine AB.s hP qa ?_;cbv)|(refine Idx.mk _ zW nW ?_;cbv)|(refine Idx.mk _ zW yW ?_;cbv)|fail)
  refine hN i2 _ _ ?_ ⟨Z.t,Z.t⟩ hT;exact Z.i
 ·have ck:=W.nlt zA (show N<=i by omega)
  cbv;repeat' (first|(simp only[ck];cbv)|fail)
  refine hE _ _ _ ?_;cbv;exact Z.r hR
theorem jl{at_:Int}(ow:0<=at_){l:List (List Int)}(h:∀b,b∈l->Ar b/\b.length<=300):jS (Vf at_ l):=by
 classical
 intro c hc;unfold Vf at hc;obtain⟨b,hb,rfl⟩:=List.mem_map.1 hc;obtain⟨rU,hg⟩:=List.mem_filter.1 hb;have hg:eF b:=by simpa using hg
 have qw:=h b rU;have h5:5<=b.length:=by have:=hg.2;unfold frV at this;split at this<;>first|omega|cases this
 obtain⟨q,eq⟩:∃q,q=(at_%(b.length:Int)).toNat:=⟨_,rfl⟩
 have hq:q<b.length:=by
  have h1:=Int.emod_nonneg at_ (show (b.length:Int)≠0 by omega);have h2:=Int.emod_lt_of_pos at_ (show (0:Int)<b.length by omega);omega
 have hx:b[q]?=some (b.getD q 0):=by rw[List.getD_eq_getElem?_getD,List.getElem?_eq_getElem hq];rfl
 have uS:=qw.1 _ (List.mem_of_getElem? hx);have hy:=kQ uS (k:=at_/16%8) ⟨by omega,by omega⟩;unfold jM;rw[<- eq];exact⟨⟨λz hz=>(List.mem_or_eq_of_mem_set hz).elim (qw.1 z) λe=>e▸hy.1,by rw[List.length_set];exact qw.2⟩,kD hx uS hy.1 hy.2 hg.2⟩
end Go.Proofs.YtlchlddijclhjaaGreat
