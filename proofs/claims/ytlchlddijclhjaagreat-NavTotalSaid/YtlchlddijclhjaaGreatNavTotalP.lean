/- Parts of the proofs. -/
import Derived.Test.YtlchlddijclhjaaGreatS28
import Derived.Test.YtlchlddijclhjaaGreatS19
import Derived.Test.YtlchlddijclhjaaGreatS14
import Derived.Test.YtlchlddijclhjaaGreatS11
import Derived.Test.YtlchlddijclhjaaGreatS22
import Derived.Test.YtlchlddijclhjaaGreatS30
import Derived.Test.YtlchlddijclhjaaGreatS29
import Derived.Test.YtlchlddijclhjaaGreatSZ
set_option linter.unusedVariables false
set_option linter.unusedSimpArgs false
set_option maxHeartbeats 4000000
namespace Go.Proofs.YtlchlddijclhjaaGreat
open Go Go.RowKit Go.Eng
theorem kYE(G:Gr)(n:Nv)(x:Fo)(a b:Int):(kJ0 G n x a b).lo=n.lo/\(kJ0 G n x a b).hi=n.hi:=by
 unfold kJ0 lrn?;split<;>exact⟨rfl,rfl⟩
theorem kOW(gs:List Gr)(x:Fo)(n:Nv)(mm:List (List Int))(a b:Int):(kPA gs x n mm a b).1.lo=n.lo/\(kPA gs x n mm a b).1.hi=n.hi:=by
 unfold kPA;split
 ·unfold q1J
  split
  ·exact kYE _ _ _ _ _
  ·exact⟨rfl,rfl⟩
 ·exact⟨rfl,rfl⟩
theorem kMO(ss:List Sg)(mm:List (List Int))(n:Nv)(a b:Int):(k9X ss mm n a b).1.lo=a/\(k9X ss mm n a b).1.hi=b:=by
 unfold k9X;split
 ·split<;>exact⟨rfl,rfl⟩
 ·exact⟨rfl,rfl⟩
theorem kMH(n:Nv)(mm:List (List Int)):(k7J n mm).1.lo=n.lo/\(k7J n mm).1.hi=n.hi:=by unfold k7J;split<;>exact⟨rfl,rfl⟩
theorem kUN{ss:List Sg}{gs:List Gr}{mm:List (List Int)}{r:Rp}{n:Nv}{f:Fu}(h:n.on=true):(k28 ss gs mm r n f).lo=n.p.lo/\(k28 ss gs mm r n f).hi=n.p.hi/\(k28 ss gs mm r n f).es=n.p.est/\(k28 ss gs mm r n f).rt=mm:=by
 unfold k28;rw[h];exact⟨rfl,rfl,rfl,rfl⟩
theorem kPO{ss:List Sg}{gs:List Gr}{mm:List (List Int)}{r:Rp}{n:Nv}{f:Fu}(h:n.on=false):(k28 ss gs mm r n f).lo=r.lo/\(k28 ss gs mm r n f).hi=r.hi/\(k28 ss gs mm r n f).es=r.es/\(k28 ss gs mm r n f).rt=r.rt:=by
 unfold k28;rw[h];exact⟨rfl,rfl,rfl,rfl⟩
theorem kUM(ss:List Sg)(gs:List Gr)(mm:List (List Int))(r:Rp)(n:Nv)(f:Fu):(k28 ss gs mm r n f).sl=f.lo/\(k28 ss gs mm r n f).sh=f.hi/\(k28 ss gs mm r n f).no=(f.lo+f.hi)/2:=by
 unfold k28
 cases n.on<;>exact⟨rfl,rfl,rfl⟩
theorem kUV(ss:List Sg)(gs:List Gr)(n:Nv)(m:Ml)(com:Bool)(f:Fu)(ov:Bool)(x:Fo)(u:Nv×List (List Int)):∃(n9:Nv) (t:List (List Int)) (r0:Rp),stepE ss gs n m com f ov x u=⟨n9,t,k28 ss gs t r0 n9 f⟩/\(r0.lo=0/\r0.hi=0/\r0.es=0/\r0.rt=[])/\(n9.on=true->n9.w.fa=false)/\n9.lo=u.1.lo/\n9.hi=u.1.hi:=
 ⟨_,_,_,rfl,⟨rfl,rfl,rfl,rfl⟩,λh=>(congrArg Wt.fa (kTF _ _)).trans (kTG _ _ h).2,(kMH _ _).1,(kMH _ _).2⟩
theorem kQW{fit:Int}{cf:Bool}:k6J false true fit cf=2\/k6J false true fit cf=3:=by
 unfold k6J;simp only[Bool.false_eq_true,if_false,Bool.not_true];split
 ·exact .inr rfl
 ·exact .inl rfl
theorem kMQ{fa:Bool}{fit:Int}{cf:Bool}:k6J fa false fit cf=1\/k6J fa false fit cf=4:=by
 unfold k6J;cases fa
 ·exact .inl rfl
 ·exact .inr rfl
theorem kZA{ss:List Sg}{gs:List Gr}{n:Nv}{mm:List (List Int)}{l:List (List Int)}{com:Bool}{s:kBR}(h7:0<=n.c.c7)(h6:0<=n.c.c6)(hsp: -n.c.c6<=n.lo/\n.lo<=n.hi/\n.hi<=n.c.c6)(e:s=kCT ss gs n mm l com) :
 s.n.lo=s.r.sl/\s.n.hi=s.r.sh/\s.r.no=(s.r.sl+s.r.sh)/2/\(max (n.lo-n.c.c7) (-n.c.c6)<=s.r.sl/\s.r.sl<=s.r.sh/\s.r.sh<=min (n.hi+n.c.c7) n.c.c6) /\
 (s.n.on=true->s.r.lo=s.n.p.lo/\s.r.hi=s.n.p.hi/\s.r.es=s.n.p.est/\s.r.rt=s.mm/\(s.r.md=2\/s.r.md=3))/\(s.n.on=false->s.r.lo=0/\s.r.hi=0/\s.r.es=0/\s.r.rt=[]/\(s.r.md=1\/s.r.md=4)):=by
 have hf:=(kT8 (ss:=ss) (mm:=mm) (n:={ n with cy:=n.cy+1 }) (k52 n.cy l) h7 h6 hsp).1;unfold kCT kJB kJA at e;simp only at e;obtain⟨n9,t,r0,h1,h2,h3,h4,h5⟩:=kUV ss gs n (k52 n.cy l) com (kC0 ss mm { n with cy:=n.cy+1 } (k52 n.cy l)).2 _ _ _;rw[h1] at e;subst e;obtain⟨k1,k2,k3⟩:=kUM ss gs t r0 n9 (kC0 ss mm { n with cy:=n.cy+1 } (k52 n.cy l)).2;obtain⟨k4,_⟩:=kLI ss gs t r0 n9 (kC0 ss mm { n with cy:=n.cy+1 } (k52 n.cy l)).2;simp only[k1,k2,k3,k4];refine⟨?_,?_,trivial,hf,λho=>?_,λho=>?_⟩
 ·rw[h4,(kOW _ _ _ _ _ _).1,(kMO _ _ _ _ _).1]
 ·rw[h5,(kOW _ _ _ _ _ _).2,(kMO _ _ _ _ _).2]
 ·obtain⟨a1,a2,a3,a4⟩:=kUN (ss:=ss) (gs:=gs) (mm:=t) (r:=r0) (f:=(kC0 ss mm { n with cy:=n.cy+1 } (k52 n.cy l)).2) ho
  exact⟨a1,a2,a3,a4,by rw[h3 ho,ho];exact kQW⟩
 ·obtain⟨a1,a2,a3,a4⟩:=kPO (ss:=ss) (gs:=gs) (mm:=t) (r:=r0) (f:=(kC0 ss mm { n with cy:=n.cy+1 } (k52 n.cy l)).2) ho
  exact⟨a1.trans h2.1,a2.trans h2.2.1,a3.trans h2.2.2.1,a4.trans h2.2.2.2,by rw[ho];exact kMQ⟩
theorem q1U(ss:List Sg)(gs:List Gr)(n:Nv)(mm:List (List Int))(l:List (List Int))(com:Bool)(s:kBR)(e:s=kCT ss gs n mm l com):s.n.c=n.c:=by
 have h1:∀(G:Gr) (m:Nv) (x:Fo) (a b:Int),(kJ0 G m x a b).c=m.c:=λG m x a b=>by
  unfold kJ0 lrn?;split<;>rfl
 have h2:∀(x:Fo) (m:Nv) (mm:List (List Int)) (a b:Int),(kPA gs x m mm a b).1.c=m.c:=λx m mm a b=>by
  unfold kPA;split
  ·unfold q1J
   split
   ·exact h1 _ _ _ _ _
   ·rfl
  ·rfl
 have h3:∀(m:Nv) (mm:List (List Int)) (a b:Int),(k9X ss mm m a b).1.c=m.c:=λm mm a b=>by
  unfold k9X;split
  ·split<;>rfl
  ·rfl
 have h4:∀(m:Nv) (mm:List (List Int)),(k7J m mm).1.c=m.c:=λm mm=>by unfold k7J;split<;>rfl
 subst e;unfold kCT kJB kJA stepE;simp only[h4,h2,h3,kEH]
def kOZ(k c6:Int)(r:Rp):Prop:=
 r.cy=k/\(r.lo<=r.es/\r.es<=r.hi/\r.sl<=r.no/\r.no<=r.sh/\1<=r.md/\r.md<=4/\(r.gr≠0↔r.md=2\/r.md=3)) /\
 (-c6<=r.sl/\r.sh<=c6/\r.ml<=r.mh/\(r.gr≠0↔0<r.rt.length)/\r.rt.length<=16/\(r.gr=0->r.lo=0/\r.hi=0))/\(r.md=2->2<=r.fi/\r.cf=false)/\(r.ac=true->r.fa=false)
theorem kUO(ss:List Sg)(gs:List Gr)(mm:List (List Int))(r:Rp)(n:Nv)(f:Fu):(k28 ss gs mm r n f).cy=r.cy/\(k28 ss gs mm r n f).ac=r.ac/\(k28 ss gs mm r n f).fa=r.fa/\(k28 ss gs mm r n f).fi=f.n/\(k28 ss gs mm r n f).cf=f.cf/\(k28 ss gs mm r n f).ml=n.m0/\(k28 ss gs mm r n f).mh=n.m1/\(k28 ss gs mm r n f).md=k6J n.w.fa n.on f.n f.cf:=by
 unfold k28
 cases n.on<;>exact⟨rfl,rfl,rfl,rfl,rfl,rfl,rfl,rfl⟩
theorem kW3(ss:List Sg)(gs:List Gr)(mm:List (List Int))(n:Nv)(wl wh:Int)(m:Ml)(a b:Int):(k98 ss gs mm n wl wh m a b).ac=true->(k98 ss gs mm n wl wh m a b).ok=true:=by
 unfold k98;split
 ·intro h;cases h
 ·split
  ·intro h;cases h
  ·split
   ·intro h;cases h
   ·split
    ·intro _;rfl
    ·exact id
theorem kVX{fa on:Bool}{fit:Int}{cf:Bool}(h:k6J fa on fit cf=2):2<=fit/\cf=false:=by
 unfold k6J at h;split at h
 ·omega
 ·split at h
  ·omega
  ·split at h
   ·omega
   ·rename_i h3
    exact⟨by omega,by cases cf<;>simp_all⟩
theorem kPT(ss:List Sg)(gs:List Gr)(n:Nv)(m:Ml)(com:Bool)(f:Fu)(ov:Bool)(x:Fo)(u:Nv×List (List Int)):∃(n9:Nv) (t:List (List Int)) (r0:Rp),stepE ss gs n m com f ov x u=⟨n9,t,k28 ss gs t r0 n9 f⟩/\r0.cy=n.cy/\r0.ac=x.ac/\r0.fa = !x.ok:=
 ⟨_,_,_,rfl,rfl,rfl,rfl⟩
theorem kUT{ss:List Sg}{gs:List Gr}{n:Nv}{mm:List (List Int)}{l:List (List Int)}{com:Bool}{s:kBR}(e:s=kCT ss gs n mm l com) :
 s.r.cy=n.cy/\s.r.ml=s.n.m0/\s.r.mh=s.n.m1/\(s.r.md=2->2<=s.r.fi/\s.r.cf=false)/\(s.r.ac=true->s.r.fa=false):=by
 unfold kCT kJB kJA at e;simp only at e;obtain⟨n9,t,r0,h1,h2,h3,h4⟩:=kPT ss gs n (k52 n.cy l) com (kC0 ss mm { n with cy:=n.cy+1 } (k52 n.cy l)).2 _ _ _;rw[h1] at e;subst e;obtain⟨k1,k2,k3,k4,k5,k6,k7,k8⟩:=kUO ss gs t r0 n9 (kC0 ss mm { n with cy:=n.cy+1 } (k52 n.cy l)).2;simp only[k1,k2,k3,k4,k5,k6,k7,k8,h2,h3,h4];refine⟨trivial,trivial,trivial,kVX,λh=>?_⟩;rw[kW3 _ _ _ _ _ _ _ _ _ h];rfl
theorem kUI{ss:List Sg}{gs:List Gr}{n:Nv}{mm:List (List Int)}{k:Int}{l:List (List Int)}{com:Bool}{s:kBR}(h:k6R ss gs n mm k)(es:s=kCT ss gs n mm l com)(hU:k6R ss gs s.n s.mm (k+1)):kOZ k n.c.c6 s.r/\s.n.c=n.c:=by
 have hcf:=h.cf.in_;obtain⟨t1,t2,t3,t4,t5,t6⟩:=kZA Z.o Z.o h.sp es;obtain⟨h1,h2,h3,_,_⟩:=kZB es;obtain⟨g1,g2,g3,g4,g5⟩:=kUT es;have hmo:=hU.mo;have hcy:=h.cy;refine⟨?_,q1U ss gs n mm l com s es⟩;unfold kOZ
 cases ho:s.n.on with
 | true =>
   obtain⟨a1,a2,a3,a4,a5⟩:=t5 ho;obtain⟨_,G,hG⟩:=(hU.on ho).gr;have hg:=hU.tr.grp _ (List.getElem?_eq_some_iff.1 hG).1 G hG;have hgr:s.r.gr=G.id:=(by rw[h3 ho,hG]);have hle:=(hU.on ho).ok.le;have hfew:=(hU.on ho).ok.few;have hne:0<s.mm.length:=List.length_pos_iff.2 (hU.on ho).ne;simp only at hle hfew;rw[a1,a2,a3,a4,hgr];refine⟨by omega,⟨hle.1,hle.2,by omega,by omega,by omega,by omega,⟨λ_=>a5,λ_=>by omega⟩⟩,⟨by omega,by omega,by omega,⟨λ_=>hne,λ_=>by omega⟩,hfew,λh=>by omega⟩,g4,g5⟩
 | false =>
   obtain⟨a1,a2,a3,a4,a5⟩:=t6 ho;have hgr:s.r.gr=0:=h2 ho;rw[a1,a2,a3,a4,hgr];refine⟨by omega,⟨by omega,by omega,by omega,by omega,by omega,by omega,⟨λh=>absurd rfl h,λh=>by omega⟩⟩,⟨by omega,by omega,by omega,⟨λh=>absurd rfl h,λh=>absurd h (by simp)⟩,by simp,λ_=>⟨rfl,rfl⟩⟩,g4,g5⟩
end Go.Proofs.YtlchlddijclhjaaGreat
namespace Go.Eng
open Go Go.RowKit
theorem Call.os{P P0:Program}{g:FuncId}{args0 args:List AV}{v0 v:AV}{z s:Nat}{e0 f0:List (List AV)}{a:k09}{dst:Option Nat}{h:k00}{K:k09->k00->Prop}(hP:P0=P)
 (H:k06 P0 g args0 [.live z e0] (λr hD=>r=v0/\hD=[.live z f0])) (u0:Up0 e0) (w0:Up0 f0) (hv:v0.upto 1=true) (hs:h[s]?=some (.live z e0)) (ha:k0Q 1 args0=true) (hr:k4C (λ_=>s) args0=args) (hrv:v0.ren (λ_=>s)=v)
 (hK:K (k1V a dst v) (h.set s (.live z f0))):Call P g args h (k4T K a dst):=by
 subst hP;refine Call.of (k06.frame (λ_=>s) H ?_ ?_ ha hr ?_)
 ·intro i hi j hj he
  simp only[List.length_cons,List.length_nil] at hi hj;omega
 ·intro i hi
  simp only[List.length_cons,List.length_nil] at hi;obtain rfl:i=0:=(by omega);exact⟨z,e0,rfl,k21 1 _ u0.get,by rw[k2W u0];exact hs⟩
 ·rintro r hD ⟨rfl,rfl⟩
  refine⟨hv,λi hi=>?_,?_⟩
  ·simp only[List.length_cons,List.length_nil] at hi
   obtain rfl:i=0:=(by omega);exact⟨z,f0,rfl,k21 1 _ w0.get⟩
  ·rw[hrv]
   show K (k1V a dst v) (h.set s (kM5 (λ_=>s) (.live z f0)));rw[show kM5 (λ_=>s) (.live z f0) = .live z f0 from congrArg (k27.live z) (k2W w0)];exact hK
theorem k06.giveR{P:Program}{g:FuncId}{args:List AV}{h h':k00}{R:AV->Prop}(H:k06 P g args h (λr hD=>∃r',R r'/\WkB h.length [r] hD [r'] h')):k06 P g args h (λr hD=>R r/\hD=h'):=by
 refine⟨H.1,λC vs hC RC hv=>(H.2 C vs hC RC hv).mono λe w' ⟨v,r,D,h1,h2,h3,h4,h5,h6,h7⟩=>?_⟩;obtain⟨r',hr,⟨hw⟩⟩:=h2
 have hst:St D [r] { tmps:= #[v],defers:=[] }:=⟨h4,⟨rfl,λi x hx=>by
  match i,hx with
  | 0,hx=>simp at hx;subst hx;simpa using h5
  | i+1,hx=>simp at hx⟩,rfl⟩
 obtain⟨D',k1,k2,k3,k4,k5⟩:=hw D _ rfl hst h7;have hx:VR D' r' v:=by simpa using k3.vrs.2 0 r' rfl
 exact⟨v,r',D',h1,⟨hr,k1⟩,k2.trans h3,k3.rel,hx,h6.trans k4,by rw[k1];exact k5⟩
theorem k02.of_callR{P:Program}{g:FuncId}{args:List AV}{R:AV->Prop}(H:k06 P g args [] (λr hD=>R r/\hD=[])):k02 P g args R:=
 ⟨H.1,λC vs hC RC hv=>(H.2 C vs hC RC hv).mono λe w' ⟨v,r,D,h1,⟨h2,h3⟩,h4,h5,h6,h7,_⟩=>⟨v,r,D,h1,h2,h3,h4,h5,h6,h7⟩⟩
def two1(s n:Nat)(i:Nat):Nat:=match i with|0=>s|_=>n
theorem k06.turn{P:Program}{g:FuncId}{args0 args:List AV}{z s m:Nat}{e0 f0:List (List AV)}{h:k00}{K:AV->k00->Prop}(H:k06 P g args0 [.live z e0] (λr hD=>r = .sl 1 z 0 m/\hD=[.dead,.live z f0]))(u0:Up0 e0)(w0:Up0 f0)
 (hs:h[s]?=some (.live z e0)) (ha:k0Q 1 args0=true) (hr:k4C (λ_=>s) args0=args) (hK:K (.sl h.length z 0 m) (h.set s .dead++[.live z f0])):k06 P g args h K:=by
 refine⟨H.1,λC vs hC RC hv=>?_⟩;subst hC;have hsl:=(List.getElem?_eq_some_iff.1 hs).1;have hsv:C.live s:=⟨_,_,hs⟩;obtain⟨C0,eC0⟩:∃C0:Cfg,C0={ O:=λb=>C.O b\/∃t,C.live t/\C.r t=b/\t≠s,r:=λ_=>C.r s,h:=[.live z e0],w:=C.w }:=⟨_,rfl⟩;have c0h:C0.h=[.live z e0]:=by rw[eC0]
 have c0w:C0.w=C.w:=by rw[eC0]
 have c0r:∀i,C0.r i=C.r s:=λi=>by rw[eC0]
 have c0O:∀b,C0.O b↔(C.O b\/∃t,C.live t/\C.r t=b/\t≠s):=λb=>by rw[eC0]
 have live0:∀i,C0.live i->i=0:=by
  rintro i ⟨z',es,hx⟩;rw[c0h] at hx;have hi:=(List.getElem?_eq_some_iff.1 hx).1;simp only[List.length_cons,List.length_nil] at hi;omega
 have live1:C0.live 0:=⟨_,_,by rw[c0h];rfl⟩
 have own0:∀b,C0.own b->C.own b:=by
  rintro b (hb|⟨t,ht,hr⟩)
  ·rcases (c0O b).1 hb with hb|⟨t,ht,hr,_⟩
   ·exact .inl hb
   ·exact .inr ⟨t,ht,hr⟩
  ·exact .inr ⟨s,hsv,by rw[<- c0r t];exact hr⟩
 have used0:∀t,t<C0.h.length->C.used s->C0.used t/\C0.r t=C.r s:=λt ht _=>by
  rw[c0h] at ht;simp only[List.length_cons,List.length_nil] at ht;obtain rfl:t=0:=(by omega);exact⟨Cfg.used_of_live live1,c0r 0⟩
 obtain⟨G2,o0,gg0,G4,G5,G6⟩:=RC.livx s z _ hs
 have R0:Rel C0:=by
  refine⟨λt z' es hl=>?_,λt q ht hq _=>by rw[live0 t ht,live0 q hq],λb hb=>?_,λp hp=>(RC.glo p hp).recfg c0w own0 (k49 hp 0),λp hp=>by rw[c0w];exact RC.gsz p hp⟩
  ·obtain rfl:=live0 t ⟨_,_,hl⟩
   rw[c0h] at hl;have hl:k27.live z e0=k27.live z' es:=(by simpa using hl);cases hl
   refine⟨λhO=>?_,o0,gg0,by rw[c0w,c0r];exact G4,G5,λi e he j x hx=>?_⟩
   ·rw[c0r] at hO
    rcases (c0O _).1 hO with hO|⟨t,ht,hr,hn⟩
    ·exact G2 hO
    ·exact hn (RC.inj t s ht hsv hr)
   ·have hup:=k0G (k1C u0.get he) hx
    exact VR.unren (f:=λ_=>s) c0w own0 (λt ht hu=>used0 t ht hu) (G6 i e he j x hx) x (by rw[c0h];exact k76 1 x hup) (k2J _ x hup)
  ·rw[c0w]
   rcases (c0O b).1 hb with hb|⟨t,ht,rfl,_⟩
   ·exact RC.olt b hb
   ·exact RC.lown_lt ⟨t,ht,rfl⟩
 have v0:VRs C0 args0 vs:=by
  refine⟨by rw[hv.1,<- hr,k1K],λi x hx=>?_⟩;exact VR.unren (f:=λ_=>s) c0w own0 used0 (hv.2 i (x.ren λ_=>s) (by rw[<- hr,k1M,hx];rfl)) x (by rw[c0h];exact k0G ha hx) rfl
 have hH:=H.2 C0 vs c0h R0 v0;rw[c0w] at hH;refine hH.mono λe w' ⟨v,r,D,h1,⟨h2,h2h⟩,h3,h5,h6,h7,h8⟩=>?_;subst h2;subst h3;obtain⟨n,en⟩:=Z.e C.h.length;obtain⟨D',eD'⟩:∃D':Cfg,D'={ O:=C.O,r:=λt=>if t<n then C.r t else D.r 1,h:=C.h.set s .dead++[.live z f0],w:=D.w }:=⟨_,rfl⟩;have dO:D'.O=C.O:=by rw[eD']
 have dw:D'.w=D.w:=by rw[eD']
 have dh:D'.h=C.h.set s .dead++[.live z f0]:=by rw[eD']
 have dr:∀t,t<n->D'.r t=C.r t:=λt ht=>by rw[eD'];exact if_pos ht
 have drn:D'.r n=D.r 1:=by rw[eD'];exact if_neg (Nat.lt_irrefl _)
 have D0O:D.O=C0.O:=h7.O;have hD1:D.h[1]?=some (.live z f0):=by rw[h2h];rfl
 have hD0:D.h[0]?=some .dead:=by rw[h2h];rfl
 obtain⟨g1,o,gg,g2,g3,g4⟩:=h5.livx 1 z f0 hD1
 have dhs:∀t,t<n->t≠s->D'.h[t]?=C.h[t]?:=λt ht hts=>by
  rw[dh,List.getElem?_append_left (by rw[List.length_set];omega),List.getElem?_set_ne (Ne.symm hts)]
 have dhd:D'.h[s]?=some .dead:=by
  rw[dh,List.getElem?_append_left (by rw[List.length_set];exact hsl),List.getElem?_set_self hsl]
 have dhn:D'.h[n]?=some (.live z f0):=by
  rw[dh,en,List.getElem?_append_right (by rw[List.length_set];exact Nat.le_refl _),List.length_set,Nat.sub_self];rfl
 have hlt:∀t,D'.live t->t<n/\t≠s/\C.live t\/t=n:=by
  rintro t ⟨z',es',ht⟩;by_cases htn:t<n
  ·by_cases hts:t=s
   ·subst hts;rw[dhd] at ht;cases ht
   ·rw[dhs t htn hts] at ht
    exact .inl ⟨htn,hts,z',es',ht⟩
  ·have:=(List.getElem?_eq_some_iff.1 ht).1
   rw[dh,List.length_append,List.length_set] at this;simp only[List.length_cons,List.length_nil] at this;exact .inr Z.o
 have lown0:∀b,C0.lown b->b=C.r s:=by
  rintro b ⟨t,_,hr⟩;rw[<- hr,c0r]
 have keep:=λb hb hn=>h7.keep b hb hn;rw[c0w] at keep;have hsz:C.w.heap.size<=D.w.heap.size:=by have:=h7.size;rwa [c0w] at this
 have hD0r:D.used 0/\D.r 0=C.r s:=by
  have:=h7.used 0 (by show 0<1;decide) (Cfg.used_of_live live1);exact⟨this.1,by rw[this.2,c0r]⟩
 have hnO:∀b,C.O b->b≠D.r 1:=λb hb e=>g1 (by rw[D0O];exact(c0O _).2 (.inl (e▸hb)));have hnl:∀t,C.live t->t≠s->C.r t≠D.r 1:=λt ht hts e=>g1 (by rw[D0O];exact(c0O _).2 (.inr ⟨t,ht,e,hts⟩))
 have E:Ext C.h.length C D':=by
  refine⟨dO,by rw[dw];have:=h7.os;rwa [c0w] at this,by rw[dw];have:=h7.tape;rwa [c0w] at this,by rw[dw];have:=h7.output;rwa [c0w] at this,by rw[dw];exact hsz,λt ht hus=>?_,λb hb hl=>?_,λb x hx=>by rw[dw];exact h7.shape b x (by rw[c0w];exact hx)⟩
  ·obtain⟨y,hy,hne⟩:=hus
   by_cases hts:t=s
   ·subst hts
    exact⟨⟨_,dhd,by simp⟩,dr t Z.o⟩
   ·exact⟨⟨y,by rw[dhs t Z.o hts];exact hy,hne⟩,dr t Z.o⟩
  ·have k:=keep b hb λhb0=>hl ⟨s,hsv,(lown0 b hb0).symm⟩
   refine⟨by rw[dw];exact k.1,?_⟩
   rintro⟨t,ht,hr⟩
   rcases hlt t ht with ⟨h1,_,h2⟩|rfl
   ·exact hl ⟨t,h2,by rw[<- dr t h1];exact hr⟩
   ·rw[drn] at hr
    exact k.2 ⟨1,⟨z,f0,hD1⟩,hr⟩
 have ownD:∀b,D'.own b->D.own b:=by
  rintro b (hb|⟨t,ht,hr⟩)
  ·rw[dO] at hb
   exact .inl (by rw[D0O];exact(c0O _).2 (.inl hb))
  ·rcases hlt t ht with ⟨h1,hts,h2⟩|rfl
   ·exact .inl (by rw[D0O];exact(c0O _).2 (.inr ⟨t,h2,by rw[<- dr t h1];exact hr,hts⟩))
   ·rw[drn] at hr
    exact .inr ⟨1,⟨z,f0,hD1⟩,hr⟩
 have RD:Rel D':=by
  refine RC.of_ext E (λt z' es' hl=>?_) ?_
  ·rcases hlt t ⟨z',es',hl⟩ with ⟨h1,hts,h2⟩|rfl
   ·rw[dhs t h1 hts] at hl
    refine .inl ⟨hl,dr t h1,?_⟩;rw[dw];exact(keep _ (RC.lown_lt ⟨t,h2,rfl⟩) λhb0=>hts (RC.inj t s h2 hsv (lown0 _ hb0))).1
   ·rw[dhn] at hl
    have hl:k27.live z f0=k27.live z' es':=(by simpa using hl);cases hl
    refine .inr ⟨by rw[dO,drn];exact λh=>hnO _ h rfl,o,gg,by rw[dw,drn];exact g2,g3,λi e he j x hx=>?_⟩;have hup:=k0G (k1C w0.get he) hx;have:=VR.rens (C:=D') (D:=D) (f:=λs=>s) (m:=0) dw ownD (λs hs=>by omega) (g4 i e he j x hx) hup
    rwa [k2J _ x hup] at this
  ·intro t q ht hq hr
   rcases hlt t ht with ⟨a1,a3,a2⟩|rfl<;>rcases hlt q hq with ⟨b1,b3,b2⟩|rfl
   ·rw[dr t a1,dr q b1] at hr
    exact RC.inj t q a2 b2 hr
   ·rw[dr t a1,drn] at hr
    exact absurd hr (hnl t a2 a3)
   ·rw[dr q b1,drn] at hr
    exact absurd hr.symm (hnl q b2 b3)
   ·rfl
 have xB:VR D' (.sl n z 0 m) v:=by
  refine VR.rens (C:=D') (D:=D) (f:=two1 s n) (m:=2) dw ownD (λt ht _=>?_) h6 rfl;have h01:t=0\/t=1:=(by omega);rcases h01 with rfl|rfl
  ·exact⟨⟨_,dhd,by simp⟩,by show D'.r s=D.r 0;rw[dr s Z.o,hD0r.2]⟩
  ·exact⟨⟨_,dhn,by simp⟩,drn⟩
 exact⟨v,.sl n z 0 m,D',h1,by rw[dh,en];exact hK,dw,RD,xB,E,by rw[dh,List.length_append,List.length_set];simp⟩
theorem Call.turn{P P0:Program}{g:FuncId}{args0 args:List AV}{z s m:Nat}{e0 f0:List (List AV)}{h:k00}{K:k09->k00->Prop}{a:k09}{dst:Option Nat}(hP:P0=P)(H:k06 P0 g args0 [.live z e0] (λr hD=>r = .sl 1 z 0 m/\hD=[.dead,.live z f0]))(u0:Up0 e0)(w0:Up0 f0)
 (hs:h[s]?=some (.live z e0)) (ha:k0Q 1 args0=true) (hr:k4C (λ_=>s) args0=args) (hK:K (k1V a dst (.sl h.length z 0 m)) (h.set s .dead++[.live z f0])):Call P g args h (k4T K a dst):=by
 subst hP;exact Call.of (k06.turn H u0 w0 hs ha hr hK)
end Go.Eng
namespace Go.Proofs.YtlchlddijclhjaaGreat
open Go Go.RowKit Go.Eng
set_option maxRecDepth 100000
def shB(v i:Int):Int:=IntKind.u8.wrap (k05 .shr .i64 v (8*i))
def shV(v:Int):Nat->List Int
 | 0=>[]
 | k+1=>shB v k::shV v k
theorem kZF(v i:Int):0<=shB v i/\shB v i<=255:=by unfold shB;rw[IntKind.wrap_u8];omega
theorem kAH:∀(v:Int) (n:Nat),(shV v n).length=n
 | v,0=>rfl
 | v,n+1=>by unfold shV;rw[List.length_cons,kAH]
theorem kT5:∀(v:Int) (n:Nat),k0H (shV v n)
 | v,0=>λx h=>by simp[shV] at h
 | v,n+1=>by unfold shV;exact λy h=>(List.mem_cons.1 h).elim (λe=>e▸kZF _ _) (kT5 v n y)
theorem kU5{a b:List Int}(ha:k0H a)(hb:k0H b):k0H (a++b):=λx h=>(List.mem_append.1 h).elim (ha x) (hb x)
structure By(u:List (List AV))(m:Nat):Prop where
 h:∃b:List Int,k0H b/\u=b.map k15/\m=b.length
theorem By.up{u:List (List AV)}{m:Nat}(h:By u m):Up0 u:=by
 obtain⟨b,_,rfl,_⟩:=h.h;exact k2R b
theorem By.len{u:List (List AV)}{m:Nat}(h:By u m):m=u.length:=by
 obtain⟨b,_,rfl,rfl⟩:=h.h;simp
def q2O(b:List Int)(v n:Int)(i:Int):Option (List (List AV)×Nat)->Prop
 | none=>i=n-1
 | some (o,k)=>∃d:List Int,o=d.map k15/\k=d.length/\d++shV v (i+1).toNat=b++shV v n.toNat
theorem k59(u:List (List AV))(m:Nat)(hb:By u m)(hm:m<=100000000)(v n:Int)(hn:1<=n/\n<=8)(m2:Nat)(em2:m2=m+n.toNat) :
 ∃u2,By u2 m2/\k06 Tryz.prog 68 [.sl 0 1 0 m,v,n] [.live 1 u] (λr hD=>r = .sl 1 1 0 m2/\hD=[.dead,.live 1 u2]):=by
 obtain⟨b,hbk,hub,hmb⟩:=hb.h;refine⟨(b++shV v n.toNat).map k15,⟨_,kU5 hbk (kT5 v _),rfl,by rw[List.length_append,kAH,em2,hmb]⟩,?_⟩;obtain⟨u2,eu2⟩:∃x,x=(b++shV v n.toNat).map k15:=⟨_,rfl⟩;have huu:=hb.up;have huu2:Up0 u2:=by rw[eu2];exact k2R _
 rw[<- eu2];have hl2:m2=u2.length:=by rw[eu2,List.length_map,List.length_append,kAH,em2,hmb]
 refine k06.give ?_;refine Z.x Tryz.func68 λzA _ _ zD _ _ hw zC zB _ zH _ _ hz P hP=>?_;cbv;obtain⟨i0,ei0⟩:=Z.e (n-1);have s0:zA .sub .i64 n 1=i0:=by rw[zC,k3I Z.o Z.o,ei0]
 simp only[s0]
 refine k1Q.dataN hw (S:=Int×Option (List (List AV)×Nat)) (λs=>fr 24 [(0,match s.2 with|none=>.sl 0 1 0 m|some (_,k)=>.sl 1 1 0 k),(1,v),(7,s.1)]) (λs=>match s.2 with|none=>[.live 1 u]|some (o,_)=>[.dead,.live 1 o])
  (λs=> -1<=s.1/\s.1<8/\q2O b v n s.1 s.2) (λs=>(s.1+1).toNat) (i0,none) (by(refine Z.n (λi=>i) ?_;cbv<;>exact Z.q))
  ⟨by simp only;omega,by simp only;omega,ei0⟩ ?_
 rintro⟨i,o⟩ zJ Q' hN hE hR'
 have zJ: -1<=i/\i<8/\q2O b v n i o:=zJ;obtain⟨yJ,yZ,ho⟩:=zJ;by_cases hc:0<=i
 ·obtain⟨q,eq⟩:=Z.f i.toNat
  obtain⟨x8,ex8⟩:=Z.e (8*i);obtain⟨y,ey⟩:=Z.e (k05 .shr .i64 v x8);obtain⟨bb,ebb⟩:=Z.e (IntKind.u8.wrap y);obtain⟨i2,ei2⟩:=Z.e (i-1);have hT:(i2+1).toNat<(i+1).toNat:=(by omega);have hbb:shB v i=bb:=by unfold shB;rw[<- ex8,<- ey,ebb]
  have hs1:shV v (q+1)=bb::shV v q:=by
   rw[show shV v (q+1)=shB v q::shV v q from rfl,show ((q:Nat):Int)=i by omega,hbb]
  have d2:=W.ge zB hc;have r1:zA .mul .i64 8 i=x8:=(by rw[zC,kN5 Z.o Z.o,ex8]);have r2:zD .u64 x8=x8:=by rw[zH];show IntKind.u64.wrap x8=x8;rw[IntKind.wrap_u64];omega
  have r3:zA .shr .i64 v x8=y:=(by rw[zC,ey]);have r4:zD .u8 y=bb:=(by rw[zH,ebb]);have r5:zA .sub .i64 i 1=i2:=(by rw[zC,k3I Z.o Z.o,ei2]);have hx8:0<=x8:=(by omega);have hq2:(i2+1).toNat=q:=by omega
  obtain⟨d,o1,k,ho1,hk,hd,hoo⟩:∃(d:List Int) (o1:List (List AV)) (k:Nat),o1=d.map k15/\k=d.length/\d++(bb::shV v q)=b++shV v n.toNat/\((o=none/\o1=u/\k=m)\/o=some (o1,k)):=by
   match o,ho with
   | none,h=>exact⟨b,u,m,hub,hmb,by rw[<- hs1,show q+1=n.toNat by have:i=n-1:=h;omega],.inl ⟨rfl,rfl,rfl⟩⟩
   | some (o1,k),⟨d,h1,h2,h3⟩=>exact⟨d,o1,k,h1,h2,by rw[<- hs1,<- h3,show (i+1).toNat=q+1 by omega],.inr rfl⟩
  have huo:Up0 o1:=by rw[ho1];exact k2R _
  have hkm:k<=m2:=by
   have:=congrArg List.length hd;rw[List.length_append,List.length_append,kAH] at this;omega
  have hol:k=o1.length:=(by rw[ho1,List.length_map];exact hk);obtain⟨o2,eo2⟩:=Z.e (o1++[[.int .u8 bb]]);obtain⟨k2,ek2⟩:=Z.e (k+1);have ho2:o2=(d++[bb]).map k15:=(by rw[eo2,ho1,List.map_append];rfl);have hk2:k2=(d++[bb]).length:=(by rw[ek2,hk,List.length_append];rfl);have hfin:q2O b v n i2 (some (o2,k2)):=⟨_,ho2,hk2,by rw[hq2,<- hd,List.append_assoc];rfl⟩;have huo2:Up0 o2:=(by rw[ho2];exact k2R _);clear hd ex8 ey ebb ho1 hk hbb ho hs1 ho2 hk2;obtain⟨rfl,rfl,rfl⟩|rfl:=hoo
  ·cbv
   repeat' (first|(simp only[d2,r1,r2,r3,r4,r5];cbv)|(refine Go.Eng.Nn.mk hx8 ?_;cbv)|(refine App.mk o2 k2 eo2 hol ek2 Z.o Z.o ?_;cbv)|fail)
   refine hN (i2,some (o2,k2)) _ _ ?_ ⟨by simp only;omega,by simp only;omega,hfin⟩ hT;(refine Z.n (λi=>i) ?_;cbv<;>exact Z.q)
  ·cbv
   repeat' (first|(simp only[d2,r1,r2,r3,r4,r5];cbv)|(refine Go.Eng.Nn.mk hx8 ?_;cbv)|(refine App.mk o2 k2 eo2 hol ek2 Z.o Z.o ?_;cbv)|fail)
   refine hN (i2,some (o2,k2)) _ _ ?_ ⟨by simp only;omega,by simp only;omega,hfin⟩ hT;(refine Z.n (λi=>[0,2].getD i 0) ?_;cbv<;>exact Z.q)
 ·have d2:=W.nge zB (show i<0 by omega)
  obtain⟨o1,k,rfl,yY,hkk⟩:∃o1 k,o=some (o1,k)/\o1=u2/\k=m2:=by
   match o,ho with
   | none,h=>exact absurd (show i=n-1 from h) Z.o
   | some (o1,k),⟨d,h1,h2,h3⟩ =>
     rw[show (i+1).toNat=0 by omega] at h3;have h4:d=b++shV v n.toNat:=(by rw[<- h3];exact(List.append_nil d).symm);exact⟨o1,k,rfl,by rw[h1,h4,eu2],by rw[h2,h4,List.length_append,kAH,em2,hmb]⟩
  subst yY;subst hkk;clear ho;cbv;repeat' (first|(simp only[d2];cbv)|fail)
  refine hE _ _ _ ?_;cbv;refine WkB.mk ?_;(refine Z.n (λi=>i) ?_;cbv<;>exact Z.q)
def ipD8:List (List Nat):=[[],[],[1],[0,2],[],[4],[5],[3,6,3],[7,7,0,1,2,3,4,5,6,7]]
def q00:List (List Nat):=[[],[],[1],[0,2],[],[4],[3,5,3],[6,6,0,1,2,3,4,5,6]]
def q28:List (List Nat):=[[],[],[1],[0,2],[],[4],[3,5,3],[],[7],[6,8,6],[9,9,0,1,2,3,4,5,6,7,8,9]]
theorem q1W{h:k00}{s z n:Nat}{es:List (List AV)}(hs:h[s]?=some (.live z es))(hu:k18 0 es=true)(hn:n=es.length):Vw h (.sl s z 0 n) (.list z es):=by
 have:=Vw.sl (i:=0) (n:=n) hs hu Z.o
 rwa [List.drop_zero,List.take_of_length_le Z.o] at this
def q2P(r:AV):Prop:=(∃b:List Int,k0H b/\b.length<=2000000/\r = .tuple [.list 1 (b.map k15),jz 0])\/∃e:Int,e≠0/\r = .tuple [.nils,jz e]
theorem kX8(ss:List Sg)(gs:List Gr)(es ds:List (List AV))(zU:es=ss.map k0Y)(yG:ds=gs.map k14)(hng:k5Y ss gs):k02 Tryz.prog 27 [.agg [.list 3 es,.list 5 ds]] q2P:=by
 have hu:Up0 es:=by rw[zU];exact k42 ss
 have hud:Up0 ds:=by rw[yG];exact k43 gs
 have hel:es.length=ss.length:=by rw[zU];simp
 have hdl:ds.length=gs.length:=by rw[yG];simp
 have hn:=hng.n;have qc:=kDJ ss gs Z.o Z.o es ds zU yG;refine k02.of_callR (k06.giveR ?_);(refine k06.ofW (F:=[8,12,25,26]) (G:=[]) (W:=[4]) (sc:=?scc) (r:=?rr) Tryz.func27 (by kernel_rfl) rfl ?hr ?hc (by kernel_rfl) λw hw=>?H);(case hr=>((conv=>lhs;cbv);(try exact rfl)));(case hc=>((repeat' (first  | refine' kU2 ?_ ?_|refine' kIR ?_|refine' kOI ?_|refine' kOJ ?_|refine' kU3 ?_|refine' q0Y (id:=4) rfl ?_|refine' kU4 (id:=_) rfl ?_|refine' kOH (id:=_) rfl ?_|refine' kY4 (id:=_) rfl ?_|refine' kSR (id:=_) rfl ?_|refine' k25 (id:=8) ipD8 rfl (by kernel_rfl) ?_|refine' k25 (id:=12) q00 rfl (by kernel_rfl) ?_|refine' k25 (id:=25) q00 rfl (by kernel_rfl) ?_|refine' k25 (id:=26) q28 rfl (by kernel_rfl) ?_|refine' kOK ?_ ?_|refine' kDN ?_|refine' kOM ?_|refine' kH6 ?_|refine' kOL ?_|refine' kIS ?_ ?_|refine' kA9 ?_|refine' kIU ?_|refine' kDO ?_|refine' kIT ?_|refine' k7D ?_ ?_|refine' k3F ?_|refine' k4U ?_|fail));(try any_goals (conv=>lhs;cbv));(try any_goals exact rfl)));(obtain⟨zA,zG,yT,zD,zF,zW,yR,zN,zQ,zP,yC,zZ,zV,zT,zK,zM,zO,yE,zS,yF⟩:=w);(have zC:=Z.w1 hw);(have zB:=Z.w2 hw);(have yM:=Z.w3 hw);(have zH:=Z.w4 hw);(have zI:=Z.w5 hw);(have yK:=Z.w6 hw);(have yU:=Z.w7 hw);(have zX:=Z.w8 hw);(have yB:=Z.w9 hw);(have yA:=Z.w10 hw);(have yQ:=Z.w11 hw);(have yP:=Z.w12 hw);(have zE:=Z.w13 hw);(have yO:=Z.w14 hw);(have zR:=Z.w15 hw);(have yD:=Z.w16 hw);(have yI:=Z.w17 hw);(have yW:=Z.w18 hw);(have yN:=Z.w19 hw);(have yX:=Z.w20 hw);(have hz:=Z.z hw);(conv=>arg 6;cbv);(generalize hP:Tryz.prog=P);cbv;refine Call.step (by rw[<- hP];exact qc) Z.u ?_;rintro r ⟨e,i0,rfl,he⟩;by_cases h0:e=0
 rotate_left 1
 ·have d2:=W.ne zB h0
  cbv;repeat' (first|(simp only[d2];cbv)|fail)
  refine⟨.tuple [.nils,jz 51],.inr ⟨51,by decide,rfl⟩,WkB.mk ?_⟩;exact Z.i
 have d1:=W.nne zB h0;have htr:=he.1 h0;clear qc he;obtain⟨mh,emh⟩:∃x:Nat,x=6:=⟨_,rfl⟩;have hb0:By [[.int .u8 79],[.int .u8 68],[.int .u8 79],[.int .u8 49]] 4:=⟨[79,68,79,49],by intro x hx;simp at hx;omega,rfl,rfl⟩;have hu0:=hb0.up;cbv;obtain⟨L,eL,L0,Ln⟩:=Z.l zE es;obtain⟨J,eJ,J0,Jn⟩:=Z.l zE ds;obtain⟨u1,hb1,q1⟩:=k59 _ 4 hb0 Z.o L 2 ⟨by omega,by omega⟩ mh (by rw[emh];rfl);have hu1:=hb1.up;repeat' (first|(simp only[d1,eL];cbv)|(refine Xo.mark (i:=0) (by rw[<- hP];rfl) (by rw[<- hP];rfl) rfl ?_;cbv)|(refine Call.turn (s:=1) hP q1 hu0 hu1 rfl rfl rfl ?_;cbv)|fail)
 refine k7Y.dataN hw (S:=Int×List (List AV)×Nat) (λs=>Go.Eng.fr 107 [(1,.ref 0 2 0 0),(6,.sl 1 1 0 s.2.2),(29,.list 3 es),(30,L),(31,s.1)]) (λs=>[.live 2 [[.list 3 es,.list 5 ds]],.live 1 s.2.1])
  (λs=>0<=s.1/\s.1<=L/\By s.2.1 s.2.2/\s.2.2<=6+8000*s.1.toNat) (λs=>(L-s.1).toNat) (0,u1,mh) (by(refine Z.k (λj=>[0,2].getD j 0) ?_;cbv<;>exact Z.q)) ⟨Int.le_refl _,L0,hb1,by simp only;omega⟩ ?_
 clear q1 hb0 hu0 hb1 hu1 d1 emh
 rintro⟨i,o,m⟩ zJ Q' hN hE hR'
 have zJ:0<=i/\i<=L/\By o m/\m<=6+8000*i.toNat:=zJ;obtain⟨yJ,yZ,hp,hmb⟩:=zJ;have huo:=hp.up;have hom:=hp.len;by_cases yH:i<L
 ·obtain⟨⟨len,ps,nx⟩,hs⟩:∃s,ss[i.toNat]?=some s:=⟨_,List.getElem?_eq_getElem (show i.toNat<ss.length by omega)⟩
  have hl6:=hng.l _ (List.mem_of_getElem? hs);simp only at hl6;obtain⟨pq,epq⟩:=Z.e (ps.map k1E);obtain⟨xn,exn⟩:=Z.e (nx.map k0K);have hupq:Up0 pq:=(by rw[epq];exact k7F ps);have huxn:Up0 xn:=(by rw[exn];exact k3K nx);have zL:es[i.toNat]?=some [jz len,.list 2 pq,.list 1 xn]:=(by rw[zU,List.getElem?_map,hs,epq,exn];rfl);obtain⟨i2,ei2⟩:=Z.e (i+1);have hT:(L-i2).toNat<(L-i).toNat:=(by omega);have hpql:pq.length=ps.length:=(by rw[epq];simp);have hxnl:xn.length=nx.length:=(by rw[exn];simp);obtain⟨K,eK,K0,Kn⟩:=Z.l zE pq;obtain⟨M,eM,M0,Mn⟩:=Z.l zE xn;have ck:=W.lt zB yH;obtain⟨m8,em8⟩:=Z.e (m+8);obtain⟨m9,em9⟩:=Z.e (m8+1);obtain⟨u8,hb8,q8⟩:=k59 o m hp Z.o len 8 ⟨by omega,by omega⟩ m8 (by rw[em8];rfl);obtain⟨u9,hb9,q9⟩:=k59 u8 m8 hb8 Z.o K 1 ⟨by omega,by omega⟩ m9 (by rw[em9];rfl);have hu8:=hb8.up;have hu9:=hb9.up;clear hs;cbv;repeat' (first|(simp only[ck];cbv)|(refine Idx.mk _ yJ zL ?_;cbv)|fail)
  refine AnyQ.e _ (by cbv) _ (by cbv) (by cbv) ?_;cbv;refine k3M.mk [.sl 1 1 0 m,.ref 2 3 0 0,len,.sl 3 1 0 m8,.ref 2 3 0 1,.list 2 pq,K,.sl 4 1 0 m9,.sl 4 1 0 m9] (λm=>[.live 2 [[.list 3 es,.list 5 ds]],(match m 3 with|true=>.dead|false=>.live 1 o),.live 3 [[len,.list 2 pq,.list 1 xn]]]++(match m 7 with|true=>[.dead,.live 1 u9]|false=>(match m 3 with|true=>[.live 1 u8]|false=>[]))) rfl ?hs1 ?hf1
  case hs1 =>
   cbv;repeat' (first|(simp only[eK];cbv)|(refine Call.turn (s:=1) hP q8 huo hu8 rfl rfl rfl ?_;cbv)|(refine Call.turn (s:=3) hP q9 hu8 hu9 rfl rfl rfl ?_;cbv)|(refine λm=>?_;cbv)|(refine And.intro ?_ ?_)|exact rfl|exact trivial|fail)
  cbv;repeat' (first|(simp only[eK];cbv)|fail)
  refine k7Y.dataN hw (S:=Int×List (List AV)×Nat) (λs=>Go.Eng.fr 107 [(1,.ref 0 2 0 0),(6,.sl 2 1 0 s.2.2),(8,.ref 1 3 0 0),(29,.list 3 es),(30,L),(31,i),(44,.list 2 pq),(45,K),(46,s.1)]) (λs=>[.live 2 [[.list 3 es,.list 5 ds]],.live 3 [[len,.list 2 pq,.list 1 xn]],.live 1 s.2.1])
   (λs=>0<=s.1/\s.1<=K/\By s.2.1 s.2.2/\s.2.2<=15+8000*i.toNat+12*s.1.toNat) (λs=>(K-s.1).toNat) (0,u9,m9) (by(refine Z.k (λj=>[0,2,4].getD j 0) ?_;cbv<;>exact Z.q)) ⟨Int.le_refl _,K0,hb9,by simp only;omega⟩ ?_
  clear q8 q9 hb8 hb9 hu8 hu9 hp huo hom hmb em8 em9
  rintro⟨j,o,m⟩ zJ Q2 hN2 hE2 hR2
  have zJ:0<=j/\j<=K/\By o m/\m<=15+8000*i.toNat+12*j.toNat:=zJ;obtain⟨hj0,hj1,hp,hmb⟩:=zJ;have huo:=hp.up;have hom:=hp.len;by_cases hjn:j<K
  ·obtain⟨⟨p1,p2⟩,hpj⟩:∃s,ps[j.toNat]?=some s:=⟨_,List.getElem?_eq_getElem (show j.toNat<ps.length by omega)⟩
   have hrowp:pq[j.toNat]?=some [jz p1,jz p2]:=(by rw[epq,List.getElem?_map,hpj];rfl);obtain⟨j2,ej2⟩:=Z.e (j+1);have hT3:(K-j2).toNat<(K-j).toNat:=(by omega);obtain⟨m8,em8⟩:=Z.e (m+8);obtain⟨m9,em9⟩:=Z.e (m8+4);obtain⟨u8,hb8,q8⟩:=k59 o m hp Z.o p1 8 ⟨by omega,by omega⟩ m8 (by rw[em8];rfl);obtain⟨u9,hb9,q9⟩:=k59 u8 m8 hb8 Z.o p2 4 ⟨by omega,by omega⟩ m9 (by rw[em9];rfl);have hu8:=hb8.up;have hu9:=hb9.up;have d2:=W.lt zB hjn;have a5:zA .add .i64 j 1=j2:=(by rw[zC,k0S Z.o Z.o,ej2]);clear hpj;cbv;repeat' (first|(simp only[d2];cbv)|(refine Idx.mk _ hj0 hrowp ?_;cbv)|fail)
   refine AnyQ.e _ (by cbv) _ (by cbv) (by cbv) ?_;cbv;refine k3M.mk [.sl 2 1 0 m,.ref 3 2 0 0,p1,.sl 4 1 0 m8,.ref 3 2 0 1,p2,.sl 5 1 0 m9,.sl 5 1 0 m9] (λm=>[.live 2 [[.list 3 es,.list 5 ds]],.live 3 [[len,.list 2 pq,.list 1 xn]],(match m 3 with|true=>.dead|false=>.live 1 o),.live 2 [[p1,p2]]]++(match m 6 with|true=>[.dead,.live 1 u9]|false=>(match m 3 with|true=>[.live 1 u8]|false=>[]))) rfl ?hs2 ?hf2
   case hs2 =>
    cbv;repeat' (first|(refine Call.turn (s:=2) hP q8 huo hu8 rfl rfl rfl ?_;cbv)|(refine Call.turn (s:=4) hP q9 hu8 hu9 rfl rfl rfl ?_;cbv)|(refine λm=>?_;cbv)|(refine And.intro ?_ ?_)|exact rfl|exact trivial|fail)
   cbv;repeat' (first|(simp only[a5];cbv)|fail)
   refine hN2 (j2,u9,m9) _ _ ?_ ⟨by simp only;omega,by simp only;omega,hb9,by simp only;omega⟩ hT3;(refine Z.k (λj=>[0,1,5].getD j 0) ?_;cbv<;>exact Z.q)
  ·have d2:=W.nlt zB (show K<=j by omega)
   obtain⟨m8,em8⟩:=Z.e (m+1);obtain⟨u8,hb8,q8⟩:=k59 o m hp Z.o M 1 ⟨by omega,by omega⟩ m8 (by rw[em8];rfl);have hu8:=hb8.up;cbv;repeat' (first|(simp only[d2];cbv)|fail)
   refine hE2 _ _ _ ?_;cbv;repeat' (first|(simp only[eM];cbv)|(refine Call.turn (s:=2) hP q8 huo hu8 rfl rfl rfl ?_;cbv)|fail)
   refine k7Y.dataN hw (S:=Int×List (List AV)×Nat) (λs=>Go.Eng.fr 107 [(1,.ref 0 2 0 0),(6,.sl 2 1 0 s.2.2),(8,.ref 1 3 0 0),(29,.list 3 es),(30,L),(31,i),(64,.list 1 xn),(65,M),(66,s.1)]) (λs=>[.live 2 [[.list 3 es,.list 5 ds]],.live 3 [[len,.list 2 pq,.list 1 xn]],.live 1 s.2.1])
    (λs=>0<=s.1/\s.1<=M/\By s.2.1 s.2.2/\s.2.2<=7300+8000*i.toNat+s.1.toNat) (λs=>(M-s.1).toNat) (0,u8,m8) (by(refine Z.k (λj=>[0,1,3].getD j 0) ?_;cbv<;>exact Z.q)) ⟨Int.le_refl _,M0,hb8,by simp only;omega⟩ ?_
   clear q8 hb8 hu8 hp huo hom hmb em8 hE2 hR2 hN2
   rintro⟨j,o,m⟩ zJ Q3 hN3 hE3 hR3
   have zJ:0<=j/\j<=M/\By o m/\m<=7300+8000*i.toNat+j.toNat:=zJ;obtain⟨hj0,hj1,hp,hmb⟩:=zJ;have huo:=hp.up;have hom:=hp.len;by_cases hjn:j<M
   ·obtain⟨x,hxj⟩:∃s,nx[j.toNat]?=some s:=⟨_,List.getElem?_eq_getElem (show j.toNat<nx.length by omega)⟩
    have hrowx:xn[j.toNat]?=some [jz x]:=(by rw[exn,List.getElem?_map,hxj];rfl);obtain⟨j2,ej2⟩:=Z.e (j+1);have hT3:(M-j2).toNat<(M-j).toNat:=(by omega);obtain⟨m8,em8⟩:=Z.e (m+1);obtain⟨u8,hb8,q8⟩:=k59 o m hp Z.o x 1 ⟨by omega,by omega⟩ m8 (by rw[em8];rfl);have hu8:=hb8.up;have d2:=W.lt zB hjn;have a5:zA .add .i64 j 1=j2:=(by rw[zC,k0S Z.o Z.o,ej2]);clear hxj;cbv;repeat' (first|(simp only[d2,a5];cbv)|(refine Idx.mk _ hj0 hrowx ?_;cbv)|(refine Call.turn (s:=2) hP q8 huo hu8 rfl rfl rfl ?_;cbv)|fail)
    refine hN3 (j2,u8,m8) _ _ ?_ ⟨by simp only;omega,by simp only;omega,hb8,by simp only;omega⟩ hT3;(refine Z.k (λj=>[0,1,3].getD j 0) ?_;cbv<;>exact Z.q)
   ·have d2:=W.nlt zB (show M<=j by omega)
    have a4:zA .add .i64 i 1=i2:=(by rw[zC,k0S Z.o Z.o,ei2]);cbv;repeat' (first|(simp only[d2];cbv)|fail)
    refine hE3 _ _ _ ?_;cbv;repeat' (first|(simp only[a4];cbv)|fail)
    refine hN (i2,o,m) _ _ ?_ ⟨by simp only;omega,by simp only;omega,hp,by simp only;omega⟩ hT;(refine Z.k (λj=>[0,2].getD j 0) ?_;cbv<;>exact Z.q)
 ·have ck:=W.nlt zB (show L<=i by omega)
  obtain⟨m8,em8⟩:=Z.e (m+2);obtain⟨u8,hb8,q8⟩:=k59 o m hp Z.o J 2 ⟨by omega,by omega⟩ m8 (by rw[em8];rfl);have hu8:=hb8.up;cbv;repeat' (first|(simp only[ck];cbv)|fail)
  refine hE _ _ _ ?_;cbv;repeat' (first|(simp only[eJ];cbv)|(refine Call.turn (s:=1) hP q8 huo hu8 rfl rfl rfl ?_;cbv)|fail)
  refine k7Y.weak ?_
  refine k7Y.dataN hw (S:=Int×List (List AV)×Nat) (λs=>Go.Eng.fr 107 [(1,.ref 0 2 0 0),(6,.sl 1 1 0 s.2.2),(81,.list 5 ds),(82,J),(83,s.1)]) (λs=>[.live 2 [[.list 3 es,.list 5 ds]],.live 1 s.2.1])
   (λs=>0<=s.1/\s.1<=J/\By s.2.1 s.2.2/\s.2.2<=8+8000*ss.length+19*s.1.toNat) (λs=>(J-s.1).toNat) (0,u8,m8) (by(refine Z.k (λj=>[0,2].getD j 0) ?_;cbv<;>exact Z.q)) ⟨Int.le_refl _,J0,hb8,by simp only;omega⟩ ?_
  clear q8 hb8 hu8 hp huo hom hmb em8 hE hR' hN
  rintro⟨i,o,m⟩ zJ Q' hN hE hR'
  have zJ:0<=i/\i<=J/\By o m/\m<=8+8000*ss.length+19*i.toNat:=zJ;obtain⟨yJ,yZ,hp,hmb⟩:=zJ;have huo:=hp.up;have hom:=hp.len;by_cases yH:i<J
  ·obtain⟨⟨g1,g2,g3,g4,g5⟩,hs⟩:∃s,gs[i.toNat]?=some s:=⟨_,List.getElem?_eq_getElem (show i.toNat<gs.length by omega)⟩
   have zL:ds[i.toNat]?=some [jz g1,jz g2,jz g3,jz g4,jz g5]:=(by rw[yG,List.getElem?_map,hs];rfl);obtain⟨i2,ei2⟩:=Z.e (i+1);have hT:(J-i2).toNat<(J-i).toNat:=(by omega);have ck:=W.lt zB yH;have a4:zA .add .i64 i 1=i2:=(by rw[zC,k0S Z.o Z.o,ei2]);obtain⟨ma,ema⟩:=Z.e (m+2);obtain⟨mb,emb⟩:=Z.e (ma+1);obtain⟨mc,emc⟩:=Z.e (mb+8);obtain⟨md,emd⟩:=Z.e (mc+4);obtain⟨me,eme⟩:=Z.e (md+4);obtain⟨ua,hba,qa⟩:=k59 o m hp Z.o g1 2 ⟨by omega,by omega⟩ ma (by rw[ema];rfl);obtain⟨ub,hbb,qb⟩:=k59 ua ma hba Z.o g2 1 ⟨by omega,by omega⟩ mb (by rw[emb];rfl);obtain⟨uc1,hbc,qc⟩:=k59 ub mb hbb Z.o g3 8 ⟨by omega,by omega⟩ mc (by rw[emc];rfl);obtain⟨ud,hbd,qd⟩:=k59 uc1 mc hbc Z.o g4 4 ⟨by omega,by omega⟩ md (by rw[emd];rfl);obtain⟨ue,hbe,qe⟩:=k59 ud md hbd Z.o g5 4 ⟨by omega,by omega⟩ me (by rw[eme];rfl);have hua:=hba.up;have hub:=hbb.up;have huc:=hbc.up;have hud':=hbd.up;have hue:=hbe.up;clear hs;cbv;repeat' (first|(simp only[ck];cbv)|(refine Idx.mk _ yJ zL ?_;cbv)|fail)
   refine AnyQ.e _ (by cbv) _ (by cbv) (by cbv) ?_;cbv;refine k3M.mk [.sl 1 1 0 m,.ref 2 5 0 0,g1,.sl 3 1 0 ma,.ref 2 5 0 1,g2,.sl 4 1 0 mb,.sl 4 1 0 mb] (λm=>[.live 2 [[.list 3 es,.list 5 ds]],(match m 3 with|true=>.dead|false=>.live 1 o),.live 5 [[g1,g2,g3,g4,g5]]]++(match m 6 with|true=>[.dead,.live 1 ub]|false=>(match m 3 with|true=>[.live 1 ua]|false=>[]))) rfl ?hs3 ?hf3
   case hs3 =>
    cbv;repeat' (first|(refine Call.turn (s:=1) hP qa huo hua rfl rfl rfl ?_;cbv)|(refine Call.turn (s:=3) hP qb hua hub rfl rfl rfl ?_;cbv)|(refine λm=>?_;cbv)|(refine And.intro ?_ ?_)|exact rfl|exact trivial|fail)
   cbv;refine AnyQ.e _ (by cbv) _ (by cbv) (by cbv) ?_;cbv;refine k3M.mk [.sl 4 1 0 mb,.ref 2 5 0 2,g3,.sl 5 1 0 mc,.ref 2 5 0 3,g4,.sl 6 1 0 md,.ref 2 5 0 4,g5,.sl 7 1 0 me,.sl 7 1 0 me] (λm=>[.live 2 [[.list 3 es,.list 5 ds]],.dead,.live 5 [[g1,g2,g3,g4,g5]],.dead,(match m 3 with|true=>.dead|false=>.live 1 ub)]++(match m 6 with|true=>(match m 9 with|true=>[.dead,.dead,.live 1 ue]|false=>[.dead,.live 1 ud])|false=>(match m 3 with|true=>[.live 1 uc1]|false=>[]))) rfl ?hs4 ?hf4
   case hs4 =>
    cbv;repeat' (first|(refine Call.turn (s:=4) hP qc hub huc rfl rfl rfl ?_;cbv)|(refine Call.turn (s:=5) hP qd huc hud' rfl rfl rfl ?_;cbv)|(refine Call.turn (s:=6) hP qe hud' hue rfl rfl rfl ?_;cbv)|(refine λm=>?_;cbv)|(refine And.intro ?_ ?_)|exact rfl|exact trivial|fail)
   cbv;repeat' (first|(simp only[a4];cbv)|fail)
   refine hN (i2,ue,me) _ _ ?_ ⟨by simp only;omega,by simp only;omega,hbe,by simp only;omega⟩ hT;(refine Z.k (λj=>[0,7].getD j 0) ?_;cbv<;>exact Z.q)
  ·have ck:=W.nlt zB (show J<=i by omega)
   obtain⟨b,hbo,hob,hml⟩:=hp.h;have hbl:b.length<=990000:=(by omega);have qs:=q0I b hbo Z.o o _ hob rfl;obtain⟨fb,efb⟩:=Z.e (b++kZ8 (crF 65535#16 b));have hfo:k0H fb:=(by rw[efb];exact kU5 hbo (kUR _));have hfl:fb.length<=2000000:=(by rw[efb,List.length_append];rw[show (kZ8 (crF 65535#16 b)).length=2 from rfl];omega);rw[<- efb] at qs;obtain⟨fr1,efr⟩:=Z.e (fb.map k15);have hufr:Up0 fr1:=(by rw[efr];exact k2R _);rw[<- efr] at qs;clear efb hob;cbv;repeat' (first|(simp only[ck];cbv)|fail)
   refine hE _ _ _ ⟨Go.Eng.fr 107 [(6,.list 1 o)],[],?_,?_⟩
   ·exact Z.i
   cbv;refine Call.stepE (by rw[<- hP];exact qs) Z.u ?_;cbv;refine⟨.tuple [.list 1 fr1,jz 0],.inl ⟨fb,hfo,hfl,by rw[efr]⟩,WkB.mk ?_⟩;exact Z.i
end Go.Proofs.YtlchlddijclhjaaGreat
namespace Go.Eng
open Go Go.RowKit
inductive q3K where
 | seq (x y:q3K)
 | cond (x:k0B) (p q:q3K)
 | u (c:k8X)
def q3G(P:Program)(F G:List Nat):Code->Option q3K
 | .seq a b=>(match q3G P F G a,q3G P F G b with|some x,some y=>some (.seq x y)|_,_=>none)
 | .cond x a b=>(match k0C x,q3G P F G a,q3G P F G b with|some x',some p,some q=>some (.cond x' p q)|_,_,_=>none)
 | c=>(match k0W P F G c with|some c=>some (.u c)|none=>none)
def q3J(P:Program)(F G:List Nat):Code->Bool
 | .seq a b=>q3J P F G a && q3J P F G b
 | .cond _ a b=>q3J P F G a && q3J P F G b
 | c=>k7B P F G c
section
variable {P:Program} {F G:List Nat}
theorem q3P{a b:Code}{x y:q3K}(h1:q3G P F G a=some x)(h2:q3G P F G b=some y):q3G P F G (.seq a b)=some (.seq x y):=by
 simp only[q3G,h1,h2]
theorem q3O{o:Operand}{x:k0B}{a b:Code}{p q:q3K}(h0:k0C o=some x)(h1:q3G P F G a=some p)(h2:q3G P F G b=some q):q3G P F G (.cond o a b)=some (.cond x p q):=by
 simp only[q3G,h0,h1,h2]
theorem q3R{id:Nat}{ops:Array Oper}{d:Bool}{c:k8X}(h:k0W P F G (.region id ops d)=some c):q3G P F G (.region id ops d)=some (.u c):=by
 simp only[q3G,h]
theorem q3M{id:Nat}{a:Code}{c:k8X}(h:k0W P F G (.block id a)=some c):q3G P F G (.block id a)=some (.u c):=by
 simp only[q3G,h]
theorem q3Q{c:k8X}(h:k0W P F G .ret=some c):q3G P F G .ret=some (.u c):=by
 simp only[q3G,h]
theorem q3N{c:k8X}(h:k0W P F G .skip=some c):q3G P F G .skip=some (.u c):=by
 simp only[q3G,h]
end
def q3L:List Nat->q3K->List Nat
 | acc,.seq x y=>q3L (q3L acc x) y
 | acc,.cond _ x y=>q3L (q3L acc x) y
 | acc,.u c=>kIC acc c
def vcV(w:k01)(P:Program)(F:List Nat)(el:List Nat)(n:Nat):q3K->k17->k09->k00->Prop
 | .seq x y,Q,a,h=>vcV w P F el n x (k6Y (vcV w P F el n y Q) Q) a h
 | .cond x p q,Q,a,h=>(match evA a x with | .bool t=>brL t (λ_=>vcV w P F el n p Q (kT7 a x true) h) (λ_=>vcV w P F el n q Q (kT7 a x false) h)|_=>False)
 | .u c,Q,a,h=>vcU w P F el n c Q a h
theorem q3H{P:Program}{F G el:List Nat}{n:Nat}{code:Code}{c:q3K}{Q Q':k17}{a:k09}{h:k00}(hc:(match k0W P F G code with|some c=>some (q3K.u c)|none=>none)=some c)(hd:k7B P F G code=true)(hq:∀e a h,Q e a h->Q' e a h)(H:vcV std P F el n c Q a h):AWp P n code Q' a h:=by
 split at hc
 ·rename_i x hx
  simp only[Option.some.injEq] at hc;subst hc;exact k84 hx hd hq H
 ·cases hc
theorem q3I{P:Program}{F G el:List Nat}{n:Nat}:∀ {code:Code} {c:q3K} {Q Q':k17} {a:k09} {h:k00},q3G P F G code=some c->q3J P F G code=true->(∀e a h,Q e a h->Q' e a h)->vcV std P F el n c Q a h->AWp P n code Q' a h
 | .seq x y,c,Q,Q',a,h,hc,hd,hq,H=>by
   simp only[q3G] at hc;split at hc
   ·rename_i p q hp hq2
    simp only[Option.some.injEq] at hc;subst hc;simp only[q3J,Bool.and_eq_true] at hd;refine AWp.seq (q3I hp hd.1 (λe a h hr=>?_) H)
    cases e with
    | normal=>exact q3I hq2 hd.2 hq hr
    | _=>exact hq _ _ _ hr
   ·cases hc
 | .cond x p q,c,Q,Q',a,h,hc,hd,hq,H=>by
   simp only[q3G] at hc;split at hc
   ·rename_i x' p' q' hx hp hq2
    simp only[Option.some.injEq] at hc;subst hc;simp only[q3J,Bool.and_eq_true] at hd;simp only[vcV] at H;split at H
    ·rename_i t ht
     have wk:∀b,t=b->Wk n a h (kT7 a x' b) h:=λb hb C act hC S hn=>⟨C,hC,rfl,kVG S (hb▸ht),Ext.refl _ _,hn⟩;obtain⟨k1,k2⟩:=k7X H;exact AWp.cond hx ht (λe=>AWp.pre (wk true e) (q3I hp hd.1 hq (k1 e))) (λe=>AWp.pre (wk false e) (q3I hq2 hd.2 hq (k2 e)))
    ·exact H.elim
   ·cases hc
 | .region id ops true,c,Q,Q',a,h,hc,hd,hq,H=>q3H (F:=F) (G:=G) hc hd hq H
 | .region id ops false,c,Q,Q',a,h,hc,hd,hq,H=>q3H (F:=F) (G:=G) hc hd hq H
 | .skip,c,Q,Q',a,h,hc,hd,hq,H=>q3H (F:=F) (G:=G) hc hd hq H
 | .ret,c,Q,Q',a,h,hc,hd,hq,H=>q3H (F:=F) (G:=G) hc hd hq H
 | .exit id,c,Q,Q',a,h,hc,hd,hq,H=>q3H (F:=F) (G:=G) hc hd hq H
 | .block id x,c,Q,Q',a,h,hc,hd,hq,H=>q3H (F:=F) (G:=G) hc hd hq H
 | .loop x,c,Q,Q',a,h,hc,hd,hq,H=>q3H (F:=F) (G:=G) hc hd hq H
 | .rangeFunc _ _ _ _,c,Q,Q',a,h,hc,hd,hq,H=>q3H (F:=F) (G:=G) hc hd hq H
 | .scope _,c,Q,Q',a,h,hc,hd,hq,H=>q3H (F:=F) (G:=G) hc hd hq H
 | .label _,c,Q,Q',a,h,hc,hd,hq,H=>q3H (F:=F) (G:=G) hc hd hq H
 | .goto _,c,Q,Q',a,h,hc,hd,hq,H=>q3H (F:=F) (G:=G) hc hd hq H
 | .refuse _,c,Q,Q',a,h,hc,hd,hq,H=>q3H (F:=F) (G:=G) hc hd hq H
theorem k06.ofV {P : Program} {F G : List Nat} {g : FuncId} {fn : Func} {code : Code} {sc : q3K} {r : List kE0} {args : List AV} {h : k00} {K : AV → k00 → Prop} (hf : P.funcs[g]? = some fn) (hname : (fn.name == "runtime.NumGoroutine") = false) (hb : fn.body = some code) (hr : kBP P fn.results.toList = some r)
 (hc:q3G P F G code=some sc) (hdr:q3J P F G code=true) (H:∀w,w=std->vcV w P F (q3L [] sc) h.length sc (kG5 r K) (k63 args fn.ntmps) h):k06 P g args h K:=by
 have HA:AWp P h.length code (kVJ r K) (k63 args fn.ntmps) h:=q3I hc hdr (λe a h hr=>k95 e a h hr) (H std rfl);refine⟨⟨fn,hf,by simp[hb],hname⟩,λC vs hC RC hv=>?_⟩;refine calls_of_wp hf hb ?_;refine wp_mono (HA C _ hC (k7O RC hv fn.ntmps) (Nat.le_refl _)) λe act' w' ⟨a',D,h1,h2,h3,h4,h5⟩=>?_
 have fin:(∃l,k54 a' D.h r=some l/\K (k2Q l) D.h)->act'.defers=[]/\∃v,(results fn act'.tmps).run P w' = .ok v w' /\
  ∃v' r D,Ending.returned v = .returned v'/\K r D.h/\D.w=w'/\Rel D/\VR D r v'/\Ext h.length C D/\h.length<=D.h.length:=by
  rintro⟨l,hl,hK⟩
  obtain⟨u,k1,k2⟩:=k2V hr h3 hl;subst h2;exact⟨h3.nodef,u,k1,u,_,D,rfl,hK,rfl,h3.rel,k2,h4,h5⟩
 cases e with
 | normal=>exact fin h1
 | ret=>exact fin h1
 | exit id=>exact h1.elim
 | goto l=>exact h1.elim
 | panic c=>exact h1.elim
 | outgrown=>exact h1.elim
end Go.Eng
namespace Go.Proofs.YtlchlddijclhjaaGreat
open Go Go.RowKit Go.Eng
set_option maxRecDepth 100000
theorem kKC(n:Nv)(hu:NvU n):k06 Tryz.prog 18 [.ref 0 55 0 0] [.live 55 [n.row]] (λr hp=>r = .bool false/\∃j,hp = .live 55 [n.row]::j):=by
 refine k06.mono (k06.give (h':=[.live 55 [n.row]]) (r':=.bool false) ?_) (λr h hh=>⟨hh.1,[],hh.2⟩);have u0:=hu.row;obtain⟨h1,h2,h3,h4⟩:=hu;obtain⟨⟨c0,c1,c2,c3,c4,c5,c6,c7,c8,c9,c10,c11,c12,c13⟩,es,ds,cy,g0,g1,os,⟨kn0,la0,su0⟩,⟨kn1,la1,su1⟩,a0,b0,a1,b1,lo,hi,di,on,gr,⟨pl,ph,pe,fr,rs⟩,cl,o0,o1,s0,s1,sc,so,ra,ro,m0,m1,⟨wi,wt,wf⟩⟩:=n;simp only at h1 h2 h3 h4;simp only[Nv.row] at u0 ⊢;(refine k06.ofI Tryz.func18 (by kernel_rfl) (by kernel_rfl) (Z.w λzA zG yT zD zF zW yR zN zQ zP yC zZ zV zT zK zM zO yE zS yF hw zC zB yM zH zI yK yU zX yB yA yQ yP zE yO zR yD yI yW yN yX hz=>?_));(conv=>arg 2;cbv);(generalize hP:Tryz.prog=P);cbv;refine WkB.mk ?_;(refine Z.n (λi=>i) ?_;cbv<;>exact Z.q)
theorem kQU(c:Cf)(b:List Int):kKM c b = .br 0\/∃ss gs,kKM c b = .ok ss gs (stU c ss gs) []:=by
 by_cases h:∃x:List Sg×List Gr,kPB c b x.1 x.2
 ·obtain⟨x,hx⟩:=h
  exact .inr ⟨_,_,kGI hx⟩
 ·exact .inl (kD6 λss gs hh=>h ⟨(ss,gs),hh⟩)
theorem kKD(c:Cf)(ss:List Sg)(gs:List Gr)(es ds:List (List AV))(zU:es=ss.map k0Y)(yG:ds=gs.map k14)(hsl:ss.length<=140737488355328)(hgl:gs.length<=140737488355328)(hpl:∀s,s∈ss->s.ps.length<=140737488355328/\s.nx.length<=140737488355328)
 (l:List Cy) (hb:∀c,c∈l->∀b,b∈c.1->k0H b) (rs:List (List AV)) (yL:rs=l.map kFI) :
 k02 Tryz.prog 8 [.agg [c.c0,c.c1,c.c2,c.c3,c.c4,c.c5,c.c6,c.c7,c.c8,c.c9,c.c10,c.c11,c.c12,c.c13],.agg [.list 3 es,.list 5 ds],.list 2 rs] (· = .bool true):=by
 have hu:Up0 es:=by rw[zU];exact k42 ss
 have hud:Up0 ds:=by rw[yG];exact k43 gs
 have hur:Up0 rs:=by rw[yL];exact kUE l
 have hrl:rs.length=l.length:=by rw[yL];simp
 have q0:=kCK;have qg:=kFF ss gs es ds zU yG hsl hgl hpl;have qs:=kFD l rs yL;have qp:k5Y ss gs->_:=λh=>kX8 ss gs es ds zU yG h;have qn:∀b:List Int,k0H b->b.length<=2000000->_:=λb h1 h2=>kO0 c b h1 Z.o (b.map k15) rfl;have hU0:∀b:List Int,_:=λb=>kMK c b;have h2U:=kQU c;obtain⟨U,eU⟩:∃U:List Int->Un,U=kKM c:=⟨_,rfl⟩;simp only[<- eU] at qn hU0 h2U;clear eU;obtain⟨c',ec'⟩:∃x:Cf,x=c:=⟨_,rfl⟩;rw[<- ec'] at h2U;obtain⟨c0,c1,c2,c3,c4,c5,c6,c7,c8,c9,c10,c11,c12,c13⟩:=c;simp only at qn;refine k02.of_call (k06.give ?_);(refine k06.ofV (F:=[]) (G:=[9,10]) (sc:=?scc) (r:=?rr) Tryz.func8 (by kernel_rfl) rfl ?hr ?hc (by kernel_rfl) λw hw=>?H);(case hr=>((conv=>lhs;cbv);(try exact rfl)));(case hc=>((repeat' (first  | refine' q3P ?_ ?_|refine' q3O rfl ?_ ?_|refine' q3R ?_|refine' q3M ?_|refine' q3Q ?_|refine' q3N ?_|refine' kY3 (id:=9) rfl ?_|refine' kY3 (id:=10) rfl ?_|refine' kY4 (id:=_) rfl ?_|refine' kSR (id:=_) rfl ?_|refine' kOK ?_ ?_|refine' kDN ?_|refine' kOM ?_|refine' kH6 ?_|refine' kOL ?_|refine' kIS ?_ ?_|refine' kA9 ?_|refine' kIU ?_|refine' kDO ?_|refine' kIT ?_|refine' k7D ?_ ?_|refine' k3F ?_|refine' k4U ?_|fail));(try any_goals (conv=>lhs;cbv));(try any_goals exact rfl)));(obtain⟨zA,zG,yT,zD,zF,zW,yR,zN,zQ,zP,yC,zZ,zV,zT,zK,zM,zO,yE,zS,yF⟩:=w);(have zC:=Z.w1 hw);(have zB:=Z.w2 hw);(have yM:=Z.w3 hw);(have zH:=Z.w4 hw);(have zI:=Z.w5 hw);(have yK:=Z.w6 hw);(have yU:=Z.w7 hw);(have zX:=Z.w8 hw);(have yB:=Z.w9 hw);(have yA:=Z.w10 hw);(have yQ:=Z.w11 hw);(have yP:=Z.w12 hw);(have zE:=Z.w13 hw);(have yO:=Z.w14 hw);(have zR:=Z.w15 hw);(have yD:=Z.w16 hw);(have yI:=Z.w17 hw);(have yW:=Z.w18 hw);(have yN:=Z.w19 hw);(have yX:=Z.w20 hw);(have hz:=Z.z hw);(conv=>arg 4;cbv);(generalize hP:Tryz.prog=P);cbv;have n1:zF true=false:=by rw[zI];rfl
 have n2:zF false=true:=by rw[zI];rfl
 repeat' (first|(simp only[n1,n2];cbv)|(refine Call.s hP q0 ?_;cbv)|(refine k1R.s hP q0 ?_;cbv)|fail)
 refine Call.step (by rw[<- hP];exact qg) Z.u ?_;rintro r ⟨o,rfl,ho⟩
 cases o with
 | true =>
   cbv;repeat' (first|(simp only[n1,n2];cbv)|fail)
   refine WkB.mk ?_;exact Z.i
 | false =>
   have hng:=ho rfl;have qp:=qp hng;cbv;repeat' (first|(simp only[n1,n2];cbv)|fail)
   refine Call.step (by rw[<- hP];exact qs) Z.u ?_;rintro r ⟨o,rfl,hs⟩
   cases o with
   | false =>
     cbv;repeat' (first|(simp only[n1,n2];cbv)|fail)
     refine WkB.mk ?_;exact Z.i
   | true =>
     have hfc:=hs rfl;cbv;repeat' (first|(simp only[n1,n2];cbv)|fail)
     clear qg qs q0 ho hs;refine Call.step (by rw[<- hP];exact qp) Z.u ?_;rintro r (⟨b,hbo,hbl,rfl⟩|⟨e,he,rfl⟩)
     rotate_left 1
     ·have d1:=W.ne zB he
      cbv;repeat' (first|(simp only[d1];cbv)|fail)
      refine WkB.mk ?_;exact Z.i
     have d0:=W.nne zB (a:=0) rfl;have qn:=qn b hbo hbl;have hU0:=hU0 b;have h2U:=h2U b;obtain⟨im,eim⟩:=Z.e (b.map k15);have huim:Up0 im:=(by rw[eim];exact k2R _);rw[<- eim] at qn ⊢;clear eim qp;obtain⟨u0,eu0⟩:=Z.e (U b);rw[<- eu0] at qn hU0 h2U;clear eu0;obtain⟨row0,erow0⟩:=Z.e u0.row;have hur0:Up0 [row0]:=(by rw[erow0];exact hU0.up);rw[<- erow0] at qn;rcases h2U with hk|⟨ss',gs',hk⟩
     ·have qb:=kCJ 0
      rw[show brN 0=row0 from by rw[erow0,hk];rfl] at qb;cbv;repeat' (first|(simp only[d0];cbv)|(refine Call.fresh hP qn hur0 Z.u ?_;cbv)|(refine Call.o (s:=2) hP qb hur0 hur0 rfl rfl rfl rfl ?_;cbv)|fail)
      refine WkB.mk ?_;exact Z.i
     have hU1:k6R ss' gs' (stU c' ss' gs') [] 0:=(by rw[hk] at hU0;exact hU0);have qb:=kKC (stU c' ss' gs') hU1.nvu;rw[show (stU c' ss' gs').row=row0 from by rw[erow0,hk];rfl] at qb;have hI0:∃n mm,u0 = .ok ss' gs' n mm/\k6R ss' gs' n mm 0/\n.c=c':=⟨_,_,hk,hU1,rfl⟩;have hcf:=hU1.cf.in_
     have hc6:1<=c6/\c6<=16777216:=by
      have:(stU c' ss' gs').c.c6=c6:=(by rw[ec'];rfl);omega
     obtain⟨m6,em6⟩:=Z.f (yT .neg .i64 c6);have hm6:m6 = -c6:=(by rw[<- em6,yM,kF3 Z.o Z.o]);have hc6':c'.c6=c6:=(by rw[ec']);cbv;obtain⟨N,eN,N0,Nn⟩:=Z.l zE rs;repeat' (first|(simp only[d0,eN];cbv)|(refine Call.fresh hP qn hur0 Z.u ?_;cbv)|(refine Call.o (s:=2) hP qb hur0 hur0 rfl rfl rfl rfl ?_;cbv)|fail)
     refine kP0.dataN hw (S:=Int×Un) (λs=>Go.Eng.fr 186 [(3,.ref 0 14 0 0),(9,.ref 1 55 0 0),(41,.list 2 rs),(42,N),(43,s.1)]) (λs=>[.live 14 [[c0,c1,c2,c3,c4,c5,c6,c7,c8,c9,c10,c11,c12,c13]],.live 55 [s.2.row]])
      (λs=>0<=s.1/\s.1<=N/\∃n mm,s.2 = .ok ss' gs' n mm/\k6R ss' gs' n mm s.1/\n.c=c') (λs=>(N-s.1).toNat) (0,u0) (by simp only[<- erow0];(refine Z.k (λj=>[0,2].getD j 0) ?_;cbv<;>exact Z.q)) ⟨Int.le_refl _,N0,hI0⟩ ?_
     clear qn qb hU0 hU1 hur0 erow0 hI0 hk hcf ec' d0
     rintro⟨i,u⟩ zJ Q' hN hE hR'
     have zJ:0<=i/\i<=N/\∃n mm,u = .ok ss' gs' n mm/\k6R ss' gs' n mm i/\n.c=c':=zJ;obtain⟨yJ,yZ,nv,mm,hun1,hok,hnc⟩:=zJ;have hui:UI i u:=(by rw[hun1];exact hok);obtain⟨row1,erow1⟩:=Z.e u.row;have hu1:Up0 [row1]:=(by rw[erow1];exact hui.up);simp only[<- erow1];by_cases yH:i<N
     rotate_left 1
     ·have ck:=W.nlt zB (show N<=i by omega)
      cbv;repeat' (first|(simp only[ck];cbv)|fail)
      refine hE _ _ _ ?_;cbv;repeat' (first|(simp only[n1,n2];cbv)|fail)
      refine WkB.mk ?_;exact Z.i
     obtain⟨c,hcl⟩:∃c,l[i.toNat]?=some c:=⟨_,List.getElem?_eq_getElem (show i.toNat<l.length by omega)⟩;obtain⟨i2,ei2⟩:=Z.e (i+1);have hcm:=List.mem_of_getElem? hcl;have hf1:=hfc.l c hcm;have hn1:=hfc.n;have hb1:=hb c hcm;obtain⟨xs,exs⟩:=Z.e (c.1.map k73);have hux:Up0 xs:=(by rw[exs];exact kCR _);have hri:rs[i.toNat]?=some [.list 1 xs,.bool c.2]:=(by rw[yL,List.getElem?_map,hcl,exs];rfl);obtain⟨q5,hui2⟩:=kNQ hui Z.o c.1 (λb hb=>⟨hb1 b hb,by have:=hf1.2 b hb;omega⟩) Z.o c.2 xs exs;obtain⟨st,est⟩:=Z.e (kCT ss' gs' nv mm c.1 c.2);have hst:kJ9 u c.1 c.2=(.ok ss' gs' st.n st.mm,st.r):=(by rw[hun1,est];rfl);rw[hst] at q5 hui2;have hok2:k6R ss' gs' st.n st.mm (i+1):=hui2;obtain⟨hL,hnc2⟩:=kUI hok est hok2;rw[hnc,hc6'] at hL;rw[hnc] at hnc2;rw[<- ei2] at hok2 hui2;obtain⟨u2,eu2⟩:=Z.e (Un.ok ss' gs' st.n st.mm);obtain⟨rp,erp⟩:=Z.e st.r;rw[<- erp] at hL;have hI2:∃n mm,u2 = .ok ss' gs' n mm/\k6R ss' gs' n mm i2/\n.c=c':=⟨_,_,eu2,hok2,hnc2⟩;have q5:k06 Tryz.prog 20 [.ref 0 55 0 0,.list 1 xs,c.2] [.live 55 [u.row]] (λr hp=>r = .agg rp.row/\∃j,hp = .live 55 [u2.row]::j):=(by rw[eu2,erp];exact q5);have hui2:UI i2 u2:=(by rw[eu2];exact hui2);have hT:(N-i2).toNat<(N-i).toNat:=(by omega);have a4:zA .add .i64 i 1=i2:=(by rw[zC,k0S Z.o Z.o,ei2]);have ck:=W.lt zB yH;have hu2:=hui2.up;have hrv:(AV.agg rp.row).upto 0=true:=ua (k1C (i:=0) rp.up.get rfl);obtain⟨row2,erow2⟩:=Z.e u2.row;have hN2:=hN (i2,u2);simp only at hN2;rw[<- erow2] at q5 hu2;simp only[<- erow2] at hN2;rw[<- erow1] at q5;have hux1:k0Q 1 [AV.ref 0 55 0 0,.list 1 xs,c.2]=true:=uc rfl (uc (ul1 hux) (uc rfl rfl));obtain⟨cb,ecb⟩:=Z.e c.2;rw[<- ecb] at q5 hri hux1;obtain⟨RT,eRT⟩:=Z.e (rp.rt.map k8C);have huRT:Up0 RT:=(by rw[eRT];exact kL4 _);have hRl:RT.length=rp.rt.length:=(by rw[eRT];simp);have zL:rp.row=rp.rowL (.list 1 RT):=(by rw[eRT];rfl);rw[zL] at q5 hrv;unfold kOZ at hL;rw[<- hRl] at hL;clear eRT erp zL hRl hst est hnc hnc2 hok hok2 hun1 hui hui2 eu2 hcl hcm hf1 hb1 exs;obtain⟨z0,z1,z2,z3,z4,z5,z6,z7,z8,z9,zz,z11,z12,z13,z14,z15,z16,z17,z18,z19,z20,z21,z22,z23,z24,z25,z26,z27,z28,z29,z30,z31⟩:=rp;simp only[Rp.rowL] at q5 hrv hL;obtain⟨l0,⟨l1,l2,l3,l4,l5,l6,l7⟩,⟨k1,k2,k3,k4,k5,k6⟩,p1,p2⟩:=hL;obtain⟨M,eM,M0,Mn⟩:=Z.l zE RT;have f0:=W.nne zB l0;have f1:=W.nlt zB l5;have f2:=W.ngt zB l6;have f3:=W.ngt zB l1;have f4:=W.ngt zB l2;have f5:=W.ngt zB l3;have f6:=W.ngt zB l4;have f7:=W.nlt zB (show m6<=z6 by omega);have f8:=W.ngt zB k2;have f9:=W.ngt zB k3;have t1:zW false false=true:=(by rw[yK];rfl);have t2:zW true true=true:=(by rw[yK];rfl);have t3:zW true false=false:=(by rw[yK];rfl);have t4:zW false true=false:=(by rw[yK];rfl);cbv;repeat' (first|(simp only[ck,n1,n2,f0,f1,f2,f3,f4,f5,f6,f7,f8,f9,em6];cbv)|(refine Idx.mk _ yJ hri ?_;cbv)|(refine Call.o (s:=1) hP q5 hu1 hu2 hrv rfl hux1 (by simp only[k4C,AV.ren,k2W hux]) ?_;cbv)|fail)
     have hac:z16=false\/(z16=true/\z17=false):=by
      cases z16 with
      | false=>exact .inl rfl
      | true=>exact .inr ⟨rfl,p2 rfl⟩
     clear f0 f1 f2 f3 f4 f5 f6 f7 f8 f9 p2 q5 hN;by_cases hg:z2=0
     ·have g1:=W.nne zB hg
      have g2:=W.neq zB (show z1≠2 by omega);have g3:=W.neq zB (show z1≠3 by omega);have g4:=W.ngt zB (show M<=0 by omega);have g5:=W.nne zB (k6 hg).1;have g6:=W.nne zB (k6 hg).2;clear p1;obtain rfl|⟨rfl,rfl⟩:=hac
      all_goals
       repeat' (first|(simp only[n1,n2,eM,g1,g2,g3,g4,g5,g6,t1,t2,t3,t4,a4];cbv)|fail)
       refine hN2 _ _ ?_ ⟨Z.t,Z.t,hI2⟩ hT;exact Z.i
     have g1:=W.ne zB hg;have g4:=W.gt zB (show 0<M by omega);by_cases hm2:z1=2
     ·have g2:=W.eq zB hm2
      obtain⟨p3,rfl⟩:=p1 hm2;have g5:=W.nlt zB p3;obtain rfl|⟨rfl,rfl⟩:=hac
      all_goals
       repeat' (first|(simp only[n1,n2,eM,g1,g2,g4,g5,t1,t2,t3,t4,a4];cbv)|fail)
       refine hN2 _ _ ?_ ⟨Z.t,Z.t,hI2⟩ hT;exact Z.i
     ·have g2:=W.neq zB hm2
      have g3:=W.eq zB (show z1=3 by omega);clear p1;obtain rfl|⟨rfl,rfl⟩:=hac
      all_goals
       repeat' (first|(simp only[n1,n2,eM,g1,g2,g3,g4,t1,t2,t3,t4,a4];cbv)|fail)
       refine hN2 _ _ ?_ ⟨Z.t,Z.t,hI2⟩ hT;exact Z.i
end Go.Proofs.YtlchlddijclhjaaGreat
set_option maxRecDepth 100000
namespace Go.Proofs.YtlchlddijclhjaaGreat
open Go Go.RowKit Go.Eng
theorem walk_NavTotal(x0 x1 x2:AV)(h0:TyV Tryz.prog 8 23 x0)(h1:TyV Tryz.prog 8 80 x1)(h2:TyV Tryz.prog 8 47 x2):k02 Tryz.prog 8 [x0,x1,x2] (λr=>r = .bool true):=by
 obtain⟨c,rfl,_⟩:=kHL x0 h0;obtain⟨ss,gs,rfl,hs,hg,h3,h4,h5⟩:=kBW x1 h1;obtain⟨l,rfl,hb⟩:=kHK x2 h2;exact kKD c ss gs _ _ rfl rfl h3 h4 h5 l hb _ rfl
end Go.Proofs.YtlchlddijclhjaaGreat
