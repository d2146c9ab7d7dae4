/- Parts of the proofs. -/
import Derived.Test.YtlchlddijclhjaaGreatS9
import Derived.KernelRfl
import Derived.Test.YtlchlddijclhjaaGreatS13
import Derived.Test.YtlchlddijclhjaaGreatS7
import Derived.Test.YtlchlddijclhjaaGreatSZ
set_option linter.unusedVariables false
set_option linter.unusedSimpArgs false
set_option maxHeartbeats 4000000
namespace Go.Eng
open Go Go.RowKit
variable {P:Program}
theorem Xo.mark{s e0 ty:TypeId}{x:Operand}{q i n:Nat}{es:List (List AV)}{h:k00}{K:AV->k00->Prop}(hu:P.underlying s=some (.slice e0))(h8:P.underlying e0=some (.int .u8))(hs:h[q]?=some (.live 1 es))(hk:K (.sl q 1 i n) h):Xo P (.convert s s x) ty [.sl q 1 i n] h K:=by
 refine⟨λC e o ho hty hC RC hv=>?_⟩;subst hC;have hop:(Op.convert s s x).operands.map e = #[e x]:=by simp[Op.operands]
 rw[hop] at hv;have hV:=hv.one';obtain⟨cap,g1,hus,hcap,_⟩:=hV.sls;obtain⟨_,hO,zU,vs,t0,fz,hh,hfz,hsz,hvr⟩:=RC.live q 1 es hs Z.o;obtain⟨fz',efz⟩:∃z,z=(if fz.1 == fz.2 then (vs.size,vs.size+1) else (min fz.1 vs.size,max fz.2 (vs.size+1))):=⟨_,rfl⟩
 have hfz':kFW vs fz':=by
  rw[efz];unfold kFW at hfz ⊢;split
  ·exact .inr (Nat.le_refl _)
  ·rename_i hne
   simp only[beq_iff_eq] at hne;right
   simp only;omega
 have hw1:(C.w.freeze ⟨C.r q,vs.size,none⟩ 1).heap[C.r q]?=some (.cells vs t0 fz'):=by
  unfold World.freeze;rw[if_neg Z.d];obtain⟨a,b⟩:=fz;simp[Array.getElem?_modify,hh,efz]
 have hw2:∀b,b≠C.r q->(C.w.freeze ⟨C.r q,vs.size,none⟩ 1).heap[b]?=C.w.heap[b]?:=λb hb=>by
  unfold World.freeze;rw[if_neg Z.d];simp[Array.getElem?_modify,Ne.symm hb]
 have hsame:∀w:World,(w.freeze ⟨C.r q,vs.size,none⟩ 1).os=w.os/\(w.freeze ⟨C.r q,vs.size,none⟩ 1).tape=w.tape/\(w.freeze ⟨C.r q,vs.size,none⟩ 1).output=w.output/\(w.freeze ⟨C.r q,vs.size,none⟩ 1).heap.size=w.heap.size:=λw=>by
  unfold World.freeze;rw[if_neg Z.d];simp
 obtain⟨f1,f2,f3,f4⟩:=hsame C.w;obtain⟨R1,E1⟩:=Rel.write RC q C.h _ 1 es es vs vs t0 C.h.length Z.o hs hs (λk _=>rfl) hfz' hh hw1 rfl hw2 f1 f2 f3 f4 zU hsz hvr;have hsh:C.w.shape? (C.r q)=some (t0,vs.size):=by unfold World.shape?;rw[hh]
 have hrun:(execOp e o).run P C.w = .ok (.value (e x)) (C.w.freeze ⟨C.r q,vs.size,none⟩ 1):=by
  simp[execOp,ho,g1,convert,k0L C.w hu,k0L C.w h8,markStringish,hsh]
 exact⟨.value (e x),e x,.sl q 1 i n,{ C with w:=C.w.freeze ⟨C.r q,vs.size,none⟩ 1 },hrun,rfl,hk,R1,E1.vr' hV,E1,Nat.le_refl _⟩
def kKH(P:Program)(Y:AV)(h:k00)(z:Nat)(fs:List (List AV)):Prop:=
 ∀(C:Cfg) (sv:Value) (k:Nat),C.h=h->Rel C->VR C Y sv->k<=fs.length->(Builtin.lenOf sv).run P C.w = .ok fs.length C.w/\∃news:List Value,(Builtin.firstCells z k sv).run P C.w = .ok news.toArray C.w/\news.length=k*z /\
    (∀(i:Nat) (r:List AV),(fs.take k)[i]?=some r->∀(j:Nat) (u:AV),r[j]?=some u->∃v,news[i*z+j]?=some v/\VR C u v)/\(∀r,r∈fs.take k->r.length=z)
theorem Xo.copyG{c:Go.Call}{ty t u e0:TypeId}{x y:Operand}{q z i n:Nat}{es fs:List (List AV)}{h:k00}{K:AV->k00->Prop}(hb:c.callee = .builtin .copy)(ha:c.args = #[x,y])(ht:c.argTypes = #[t,u])(hu:P.underlying t=some (.slice e0))
 (hk:k3O P e0=some z) (hz:0<z) (hs:h[q]?=some (.live z es)) (yH:i+n<=es.length) (hok:k2M fs=true) {Y:AV} (read:kKH P Y h z fs) (gs':List (List AV)) (hg:gs'=es.take i++fs.take n++es.drop (i+min fs.length n)) (m:Int) (hm:m=(min fs.length n:Nat))
 (hK:K (.int .i64 m) (h.set q (.live z gs'))):Xo P (.call c) ty [.sl q z i n,Y] h K:=by
 refine⟨λC e o ho hty hC RC hv=>?_⟩;subst hC;have hop:(Op.call c).operands.map e = #[e x,e y]:=by simp[Op.operands,Call.operands,hb,ha]
 rw[hop] at hv;have hX:VR C (.sl q z i n) (e x):=by simpa using hv.2 0 _ rfl
 have hY:VR C Y (e y):=by simpa using hv.2 1 _ rfl
 obtain⟨cap,g1,hus,hcap,_⟩:=hX.sls;obtain⟨_,hO,zU,vs,t0,fz,hh,hfz,hsz,hvr⟩:=RC.live q z es hs hz;obtain⟨ie,hie,hiz⟩:=k4Z hk;have hqlt:q<C.h.length:=(List.getElem?_eq_some_iff.1 hs).1;obtain⟨k,ek⟩:=Z.e (min fs.length n);have hkl:k<=fs.length/\k<=n:=by omega
 have hkz:(i+k)*z<=vs.size:=Nat.le_trans (Nat.mul_le_mul_right z Z.o) hsz;rw[Nat.add_mul] at hkz;obtain⟨zE,news,hfirst,n1,n3,hzf⟩:=read C (e y) k rfl RC hY hkl.1;obtain⟨sv,hsv⟩:=Z.f (e y);rw[hsv] at zE hfirst;have htl:(fs.take k).length=k:=by simp;omega
 have hone:∀v,v∈news->v.oneCell'=true:=by
  intro v hv';obtain⟨p,hp⟩:=List.mem_iff_getElem?.1 hv';have hpl:p<k*z:=(by rw[<- n1];exact(List.getElem?_eq_some_iff.1 hp).1);have h1:p/z<(fs.take k).length:=(by rw[htl];exact(Nat.div_lt_iff_lt_mul hz).2 hpl);have hrow':=k1P (l:=fs.take k) [] h1;have zE:=hzf _ (List.mem_of_getElem? hrow');have h2:p%z<((fs.take k).getD (p/z) []).length:=(by rw[zE];exact Nat.mod_lt _ hz);obtain⟨u,hu1,hu2⟩:=n3 _ _ hrow' _ _ (k1P .any h2);rw[Nat.mul_comm,Nat.div_add_mod,hp] at hu1;cases hu1
  have zY:fs[p/z]?=some ((fs.take k).getD (p/z) []):=(by rw[List.getElem?_take] at hrow';split at hrow';exact hrow';cases hrow');exact hu2.cell (k5T (k94 hok zY) (k1P .any h2))
 have hfit:i*z+0+news.length<=vs.size:=by rw[n1];omega
 have hst:=k6U P (C.r q) (i*z) t0 fz news 0 vs C.w hh hfz hfit hone;simp only[Nat.add_zero] at hst hfit;obtain⟨vs',evs⟩:∃vs',vs'=(vs.toList.take (i*z)++news++vs.toList.drop (i*z+news.length)).toArray:=⟨_,rfl⟩;rw[<- evs] at hst;have hsize:vs'.size=vs.size:=by rw[evs];simp;omega
 have hmin:(vs.toList.take (i*z)).length=i*z:=by simp;omega
 have hget:∀p,vs'[p]?=if p<i*z then vs[p]? else if p<i*z+k*z then news[p-i*z]? else vs[p]?:=by
  intro p;rw[evs,List.getElem?_toArray,List.append_assoc];by_cases h1:p<i*z
  ·rw[if_pos h1,List.getElem?_append_left (by rw[hmin];exact h1),List.getElem?_take,if_pos h1];simp
  ·rw[if_neg h1,List.getElem?_append_right (by rw[hmin];omega),hmin]
   by_cases h2:p<i*z+k*z
   ·rw[if_pos h2,List.getElem?_append_left (by rw[n1];omega)]
   ·rw[if_neg h2,List.getElem?_append_right (by rw[n1];omega),List.getElem?_drop,n1]
    rw[show i*z+k*z+(p-i*z-k*z)=p by omega];simp
 have hfn:fs.take n=fs.take k:=by
  rw[ek];by_cases hc:fs.length<=n
  ·rw[List.take_of_length_le hc,Nat.min_eq_left hc,List.take_of_length_le (Nat.le_refl _)]
  ·rw[Nat.min_eq_right Z.o]
 rw[<- ek] at hg hm;rw[hfn] at hg;have hgl:gs'.length=es.length:=by rw[hg];simp;omega
 have hgi:∀p,gs'[p]?=if p<i then es[p]? else if p<i+k then (fs.take k)[p-i]? else es[p]?:=by
  intro p;have hmi:(es.take i).length=i:=(by simp;omega);rw[hg,List.append_assoc];by_cases h1:p<i
  ·rw[if_pos h1,List.getElem?_append_left (by rw[hmi];exact h1),List.getElem?_take,if_pos h1]
  ·rw[if_neg h1,List.getElem?_append_right (by rw[hmi];omega),hmi]
   by_cases h2:p<i+k
   ·rw[if_pos h2,List.getElem?_append_left (by rw[htl];omega)]
   ·rw[if_neg h2,List.getElem?_append_right (by rw[htl];omega),List.getElem?_drop,htl]
    rw[show i+k+(p-i-k)=p by omega]
 have hgz:∀r,r∈gs'->r.length=z:=by
  intro r hr;rw[hg] at hr;rcases List.mem_append.1 hr with hr|hr
  ·rcases List.mem_append.1 hr with hr|hr
   ·exact zU r (List.mem_of_mem_take hr)
   ·exact hzf r hr
  ·exact zU r (List.mem_of_mem_drop hr)
 obtain⟨R1,E1⟩:=Rel.write RC q (C.h.set q (.live z gs')) (C.w.setRow (C.r q) vs') z es gs' vs vs' t0 C.h.length hz hs (by simp[hqlt]) (λp hp=>by rw[List.getElem?_set_ne (Ne.symm hp)]) hfz hh (setRow_heap _ _ _ _ _ _ hh) hsize
  (λb hb=>setRow_other _ _ _ _ Z.o) rfl rfl rfl (k7H _ _ _) hgz (by rw[hgl,hsize];exact hsz) (λp r hr j w hw=>by
    have hjz:j<z:=by
     have h1:=(List.getElem?_eq_some_iff.1 hw).1
     rwa [hgz r (List.mem_of_getElem? hr)] at h1
    rw[Array.getD_eq_getD_getElem?,hget];rw[hgi] at hr
    have lo:∀ {a b:Nat},a<b->a*z+j<b*z:=λ{a b} hab=>by
     have:=Nat.mul_le_mul_right z (show a+1<=b from hab);rw[Nat.succ_mul] at this;omega
    have hi':∀ {a b:Nat},b<=a->b*z<=a*z+j:=λ{a b} hab=>Nat.le_trans (Nat.mul_le_mul_right z hab) (Nat.le_add_right _ _);by_cases h1:p<i
    ·rw[if_pos h1] at hr
     rw[if_pos (lo h1)];have:=hvr p r hr j w hw
     rwa [Array.getD_eq_getD_getElem?] at this
    ·rw[if_neg h1] at hr
     have q1:=hi' (show i<=p by omega);rw[if_neg Z.o];by_cases h2:p<i+k
     ·rw[if_pos h2] at hr
      have q2:=lo h2;rw[Nat.add_mul] at q2;rw[if_pos q2];obtain⟨v,hv1,hv2⟩:=n3 _ r hr j w hw
      have q3:p*z+j-i*z=(p-i)*z+j:=by
       have:p=i+(p-i):=(by omega);rw[this,Nat.add_mul];simp;omega
      rw[q3,hv1];exact hv2
     ·rw[if_neg h2] at hr
      have q2:=hi' (show i+k<=p by omega);rw[Nat.add_mul] at q2;rw[if_neg Z.o];have:=hvr p r hr j w hw
      rwa [Array.getD_eq_getD_getElem?] at this)
 have hrun:(execOp e o).run P C.w = .ok (.value (.int .i64 (k:Nat))) (C.w.setRow (C.r q) vs'):=by
  have hmin2:Nat.min fs.length n=k:=ek.symm;rw[<- hiz] at hfirst;simp[execOp,ho,resolve,hb,ha,ht,invoke,builtin,Builtin.copy_,k0L C.w hu,g1,hsv,zE,hmin2,sizeOf,typeInfo,hie,hfirst,hst,goInt]
 exact⟨_,_,_,_,hrun,rfl,hK,R1,by rw[hm];exact .int _ _,E1,by simp⟩
theorem kKH.list{h:k00}{z:Nat}{fs:List (List AV)}(hz:0<z):kKH P (.list z fs) h z fs:=by
 intro C sv k hC RC hY hk;have htl:(fs.take k).length=k:=by simp;omega
 rcases hY.lists with ⟨⟨a0,c0,k1⟩,k2⟩|⟨a,cap',f,k1,hcap',hsp,hzz,hcell,hown,hvv⟩
 ·subst k2
  have hk0:k=0:=(by simpa using hk);refine⟨by rw[k1];simp[Builtin.lenOf],[],?_,by rw[hk0];simp,λi r hr=>by simp at hr,λr hr=>by simp at hr⟩;rw[hk0,k1]
  cases a0<;>simp[Builtin.firstCells,loadCells,loadCellsFrom]
 ·have hzz':∀r,r∈fs.take k->r.length=z:=λr hr=>hzz r (List.mem_of_mem_take hr)
  obtain⟨news,n1,n2,n3⟩:=VR.news (c:=C) (es:=fs.take k) (a:=a) (f:=f) hz hsp hzz' (λi j hi hj=>hcell i j (by rw[htl] at hi;omega) hj) (λi r hr=>hvv i r (by rw[List.getElem?_take] at hr;split at hr;exact hr;cases hr));rw[htl] at n1;rw[k1];exact⟨by simp[Builtin.lenOf],news,run_firstCells_some (P:=P) C.w z k a fs.length cap' news n1 n2,n1,n3,hzz'⟩
theorem kKH.sl{h:k00}{z p i n:Nat}{es:List (List AV)}(hz:0<z)(hp:h[p]?=some (.live z es))(yH:i+n<=es.length):kKH P (.sl p z i n) h z ((es.drop i).take n):=by
 intro C sv k hC RC hY hk;subst hC;obtain⟨cap,k1,hus,hcap,_⟩:=hY.sls;obtain⟨_,hO,zU,vs,t0,fz,hh,hfz,hsz,hvr⟩:=RC.live p z es hp hz;have hnl:((es.drop i).take n).length=n:=by simp;omega
 have hkn:k<=n:=by omega
 have hget:∀q r,(((es.drop i).take n).take k)[q]?=some r->es[i+q]?=some r:=λq r hr=>by
  rw[List.getElem?_take] at hr;split at hr
  ·rw[List.getElem?_take] at hr
   split at hr
   ·rwa [List.getElem?_drop] at hr
   ·cases hr
  ·cases hr
 have hzz':∀r,r∈((es.drop i).take n).take k->r.length=z:=λr hr=>zU r (List.mem_of_mem_drop (List.mem_of_mem_take (List.mem_of_mem_take hr)));have htl:(((es.drop i).take n).take k).length=k:=by simp;omega
 obtain⟨news,n1,n2,n3⟩:=VR.news (c:=C) (es:=((es.drop i).take n).take k) (a:=⟨C.r p,i*z,none⟩) (f:=λq j=>vs.getD ((i+q)*z+j) undef) hz rfl hzz' (λq j hq hj=>by
  rw[htl] at hq;have hlt:=k53 (i:=i+q) (n:=es.length) (z:=z) Z.o hj;have e1:i*z+(q*z+j)=(i+q)*z+j:=(by rw[Nat.add_mul];omega);show C.w.cell? ⟨C.r p,i*z+(q*z+j),none⟩=_;rw[e1];unfold World.cell?;have h2:(i+q)*z+j<vs.size:=(by omega);simp[hh,h2,Array.getD_eq_getD_getElem?])
  (λq r hr j x hx=>hvr (i+q) r (hget q r hr) j x hx)
 rw[htl] at n1;rw[k1];refine⟨by rw[hnl];simp[Builtin.lenOf],news,run_firstCells_some (P:=P) C.w z k _ n cap news n1 n2,n1,n3,hzz'⟩
theorem Xo.copy{c:Go.Call}{ty t u e0:TypeId}{x y:Operand}{q z i n:Nat}{es fs:List (List AV)}{h:k00}{K:AV->k00->Prop}(hb:c.callee = .builtin .copy)(ha:c.args = #[x,y])(ht:c.argTypes = #[t,u])(hu:P.underlying t=some (.slice e0))
 (hk:k3O P e0=some z) (hz:0<z) (hs:h[q]?=some (.live z es)) (yH:i+n<=es.length) (hok:k2M fs=true) (gs':List (List AV)) (hg:gs'=es.take i++fs.take n++es.drop (i+min fs.length n)) (m:Int) (hm:m=(min fs.length n:Nat))
 (hK:K (.int .i64 m) (h.set q (.live z gs'))):Xo P (.call c) ty [.sl q z i n,.list z fs] h K:=Xo.copyG hb ha ht hu hk hz hs yH hok (kKH.list hz) gs' hg m hm hK
end Go.Eng
namespace Go.Proofs.YtlchlddijclhjaaGreat
open Go Go.RowKit Go.Eng
set_option maxRecDepth 100000
def bi(v:BitVec 16):Int:=(v.toNat:Int)
theorem kY7(v:BitVec 16):BitVec.ofInt 16 (bi v)=v:=by
 unfold bi;rw[BitVec.ofInt_natCast,BitVec.ofNat_toNat,BitVec.setWidth_eq]
theorem q12(v:BitVec 16):0<=bi v/\bi v<65536:=by have:=v.isLt;unfold bi;omega
theorem kTX(v w:BitVec 16):k05 .xor .u16 (bi v) (bi w)=bi (v ^^^ w):=by
 show IntKind.u16.wrap (BitVec.ofInt 16 (bi v) ^^^ BitVec.ofInt 16 (bi w)).toNat=_;rw[kY7,kY7,IntKind.wrap_u16];have:=(v ^^^ w).isLt;unfold bi;omega
theorem kTY(v:BitVec 16)(n:Int)(k:Nat)(hn:n=k)(hk:k<=16):k05 .shl .u16 (bi v) n=bi (v <<< k):=by
 subst hn;show IntKind.u16.wrap (bi v*2 ^ (min (k:Int).toNat 16))=_;rw[IntKind.wrap_u16,Int.toNat_natCast,Nat.min_eq_left hk];unfold bi;rw[BitVec.toNat_shiftLeft,Nat.shiftLeft_eq,Int.natCast_emod,Int.natCast_mul,Int.natCast_pow];rfl
theorem q0X(v:BitVec 16):k05 .and .u16 (bi v) 32768=if v.msb then 32768 else 0:=by
 show IntKind.u16.wrap (BitVec.ofInt 16 (bi v) &&& BitVec.ofInt 16 32768).toNat=_;rw[kY7,IntKind.wrap_u16]
 have h1:v &&& BitVec.ofInt 16 32768=if v.msb then 32768#16 else 0#16:=by
  apply BitVec.eq_of_getLsbD_eq;intro i hi;rw[BitVec.getLsbD_and,BitVec.msb_eq_getLsbD_last]
  have h2:(BitVec.ofInt 16 32768).getLsbD i=decide (i=15):=by
   have:i=0\/i=1\/i=2\/i=3\/i=4\/i=5\/i=6\/i=7\/i=8\/i=9\/i=10\/i=11\/i=12\/i=13\/i=14\/i=15:=(by omega);rcases this with h|h|h|h|h|h|h|h|h|h|h|h|h|h|h|h<;>(rw[h];rfl)
  rw[h2];by_cases h:i=15
  ·subst h;cases v.getLsbD 15<;>simp
  ·cases v.getLsbD (16-1)<;>simp[h]
   have h3:(32768#16).getLsbD i=decide (i=15):=h2;rw[h3];simp[h]
 rw[h1];cases v.msb<;>rfl
theorem kOS{b:Int}(h:0<=b/\b<=255):b=bi (BitVec.ofNat 16 b.toNat)/\(BitVec.ofNat 16 b.toNat).toNat<256:=by
 have:(BitVec.ofNat 16 b.toNat).toNat=b.toNat:=by rw[BitVec.toNat_ofNat];omega
 unfold bi;omega
def k65(b:Int):BitVec 16:=BitVec.ofNat 16 b.toNat
theorem kSO:∀(n:Nat) (a:BitVec 16),crN (n+1) a=crS (crN n a):=λn a=>by rw[k9D n 1 a];rfl
theorem q0O(v:BitVec 16)(s b r:Int)(es:s=bi v)(hb:0<=b/\b<=255)(er:r=bi (crB v (k65 b))):k02 Tryz.prog 184 [.int .u16 s,.int .u8 b] (· = .int .u16 r):=by
 refine Z.y Tryz.func184 λzA zG _ zD _ _ hw zC zB _ zH _ _ hz R hR P hP=>?_;cbv;refine Nn.mk Z.d ?_;obtain⟨x0,ex0⟩:=Z.e (v ^^^ (k65 b <<< 8));obtain⟨y0,ey0⟩:=Z.e (bi x0)
 have a1:zA .xor .u16 s (zA .shl .u16 (zD .u16 b) 8)=y0:=by
  have h1:zD .u16 b=bi (k65 b):=by rw[zH];show IntKind.u16.wrap b=_;rw[IntKind.wrap_u16];have:=(kOS hb).1;unfold k65;omega
  rw[h1,zC,kTY _ 8 8 rfl Z.d,es,kTX,ey0,ex0]
 simp only[a1]
 refine k1Q.data hw (S:=Int×BitVec 16×Int) (λs=>fr 22 [(0,.int .u16 s.2.2),(10,s.1)]) (λ_=>[])
  (λs=>0<=s.1/\s.1<=8/\s.2.1=crN s.1.toNat x0/\s.2.2=bi s.2.1) (λs=>(8-s.1).toNat) (0,x0,y0) Z.i ⟨Int.le_refl _,(show (0:Int)<=8 by decide),rfl,ey0⟩ ?_
 rintro⟨i,x,y⟩ zJ Q' hN hE hR'
 have zJ:0<=i/\i<=8/\x=crN i.toNat x0/\y=bi x:=zJ;cbv;obtain⟨yJ,yZ,hx,hy⟩:=zJ;(split<;>rename_i hc<;>(try (simp only[hz,Z.a,k05,k04,k08,k03,k0M,reduceCtorEq] at hc))<;>(try cbv))
 ·obtain⟨i2,ei2⟩:=Z.e (i+1)
  have a4:zA .add .i64 i 1=i2:=(by rw[zC,k0S Z.o Z.o,ei2]);have hT:(8-i2).toNat<(8-i).toNat:=(by omega);obtain⟨x2,ex2⟩:=Z.e (crS x);obtain⟨y2,ey2⟩:=Z.e (bi x2);have hx2:x2=crN i2.toNat x0:=(by rw[ex2,hx,show i2.toNat=i.toNat+1 by omega,kSO]);have top:zA .and .u16 y 32768=if x.msb then 32768 else 0:=by rw[zC,hy,q0X]
  have sh:zA .shl .u16 y 1=bi (x <<< 1):=by rw[zC,hy,kTY _ 1 1 rfl Z.d]
  have b1:x.msb=true->zA .xor .u16 (zA .shl .u16 y 1) 4129=y2:=λh=>by
   rw[sh,zC,show (4129:Int)=bi 4129#16 from rfl,kTX,ey2,ex2];unfold crS;rw[h];rfl
  have b2:x.msb=false->zA .shl .u16 y 1=y2:=λh=>by
   rw[sh,ey2,ex2];unfold crS;rw[h];simp
  obtain⟨m,em⟩:=Z.f x.msb;rw[em] at b1 b2 top;have c1:zG .neq (zA .and .u16 y 32768) 0=m:=(by rw[top,zB];cases m<;>rfl);simp only[c1];cases m
  ·cbv
   refine Nn.mk Z.d ?_;simp only[b2 rfl,a4];refine hN (i2,x2,y2) _ _ ?hx ?hi hT
   case hx=>exact Z.i
   case hi=>exact⟨by simp only;omega,by simp only;omega,hx2,ey2⟩
  ·cbv
   refine Nn.mk Z.d ?_;simp only[b1 rfl,a4];refine hN (i2,x2,y2) _ _ ?hx ?hi hT
   case hx=>exact Z.i
   case hi=>exact⟨by simp only;omega,by simp only;omega,hx2,ey2⟩
 ·refine hE _ _ _ ?_
  cbv;have e8:i.toNat=8:=(by omega);refine⟨_,Vw.same rfl,hR _ ?_⟩;rw[hy,hx,e8,ex0,er];rfl
def k15(b:Int):List AV:=[.int .u8 b]
theorem k2R(l:List Int):Up0 (l.map k15):=k1D (f:=k15) (λd=>rfl) l
theorem kCS{α: Type}{l:List α}{i:Int}{x: α}(h0:0<=i)(h:l[i.toNat]?=some x):l.take (i+1).toNat=l.take i.toNat++[x]:=by
 have e:(i+1).toNat=i.toNat+1:=by omega
 rw[e,List.take_add_one,h];rfl
theorem kHQ:∀(l:List Int),k2M (l.map k15)=true
 | []=>rfl
 | b::l=>by rw[List.map_cons];simp only[k2M,kHQ l,Bool.and_true];rfl
def k0H(l:List Int):Prop:=∀b,b∈l->0<=b/\b<=255
def crF(v:BitVec 16)(l:List Int):BitVec 16:=crL v (l.map k65)
theorem e_go(l:List Int)(hl:k0H l)(h47:l.length<=1099511627776)(v:BitVec 16)(s r:Int)(es:s=bi v)(rs:List (List AV))(yL:rs=l.map k15)(er:r=bi (crF v l)):k02 Tryz.prog 129 [.int .u16 s,.list 1 rs] (· = .int .u16 r):=by
 have hu:Up0 rs:=by rw[yL];exact k2R l
 refine Z.y Tryz.func129 λzA _ _ _ _ _ hw zC _ _ _ _ zE hz R hR P hP=>?_;cbv;obtain⟨L,eL,L0,Ln⟩:=Z.l zE rs;simp only[eL];have hrl:rs.length=l.length:=by rw[yL];simp
 refine k1Q.data hw (S:=Int×BitVec 16×Int) (λs=>fr 18 [(0,.int .u16 s.2.2),(7,.list 1 rs),(8,L),(9,s.1)]) (λ_=>[])
  (λs=>0<=s.1/\s.1<=L/\s.2.1=crF v (l.take s.1.toNat)/\s.2.2=bi s.2.1) (λs=>(L-s.1).toNat) (0,v,s) Z.i ⟨Int.le_refl _,L0,rfl,es⟩ ?_
 rintro⟨i,x,y⟩ zJ Q' hN hE hR'
 have zJ:0<=i/\i<=L/\x=crF v (l.take i.toNat)/\y=bi x:=zJ;cbv;obtain⟨yJ,yZ,hx,hy⟩:=zJ;(split<;>rename_i hc<;>(try (simp only[hz,Z.a,k05,k04,k08,k03,k0M,reduceCtorEq] at hc))<;>(try cbv))
 ·obtain⟨i2,ei2⟩:=Z.e (i+1)
  have a4:zA .add .i64 i 1=i2:=by rw[zC,ei2];show IntKind.i64.wrap (i+1)=i+1;rw[IntKind.wrap_i64];omega
  have hT:(L-i2).toNat<(L-i).toNat:=(by omega);obtain⟨b,hb⟩:∃b,l[i.toNat]?=some b:=⟨_,List.getElem?_eq_getElem (show i.toNat<l.length by omega)⟩;have hbr:rs[i.toNat]?=some [.int .u8 b]:=(by rw[yL,List.getElem?_map,hb];rfl);have hbb:=hl b (List.mem_of_getElem? hb);obtain⟨x2,ex2⟩:=Z.e (crB x (k65 b));obtain⟨y2,ey2⟩:=Z.e (bi x2)
  have hx2:x2=crF v (l.take i2.toNat):=by
   rw[ex2,hx,ei2,kCS yJ hb];unfold crF crL;rw[List.map_append,List.foldl_append];rfl
  refine Idx.mk _ yJ hbr ?_;cbv;refine Call.stepE (by rw[<- hP];exact q0O x y b y2 hy hbb (by rw[ey2,ex2])) rfl ?_;cbv;simp only[a4];refine hN (i2,x2,y2) _ _ ?hx ?hi hT
  case hx=>exact Z.i
  case hi=>exact⟨by simp only;omega,by simp only;omega,hx2,ey2⟩
 ·refine hE _ _ _ ?_
  cbv;refine⟨_,Vw.same rfl,hR _ ?_⟩;rw[hy,hx,er,List.take_of_length_le Z.o];rfl
theorem kRO(l:List Int)(hl:k0H l)(h47:l.length<=1099511627776)(r:Int)(rs:List (List AV))(yL:rs=l.map k15)(er:r=bi (crF 65535#16 l)):k02 Tryz.prog 74 [.list 1 rs] (· = .int .u16 r):=by
 have hu:Up0 rs:=by rw[yL];exact k2R l
 refine Z.y Tryz.func74 λ_ _ _ _ _ _ _ _ _ _ _ _ _ hz R hR P hP=>?_;cbv;refine Call.stepE (by rw[<- hP];exact e_go l hl h47 65535#16 65535 r rfl rs yL er) (by exact Up0.one hu rfl) ?_;cbv;exact Z.r hR
def kZ8(v:BitVec 16):List Int:=[bi (v >>> 8),bi (v &&& 255#16)]
theorem kUR(v:BitVec 16):k0H (kZ8 v):=by
 intro b hb;have h1:(v >>> 8).toNat<256:=by rw[BitVec.toNat_ushiftRight,Nat.shiftRight_eq_div_pow];have:=v.isLt;omega
 have h2:(v &&& 255#16).toNat<=255:=by rw[BitVec.toNat_and];exact Nat.and_le_right
 simp only[kZ8,List.mem_cons,List.not_mem_nil,or_false] at hb;rcases hb with rfl|rfl<;>(unfold bi;omega)
theorem q0I(l:List Int)(hl:k0H l)(h47:l.length<=1000000)(rs qs:List (List AV))(yL:rs=l.map k15)(hqs:qs=(l++kZ8 (crF 65535#16 l)).map k15):k02 Tryz.prog 69 [.list 1 rs] (· = .list 1 qs):=by
 have hu:Up0 rs:=by rw[yL];exact k2R l
 have hrl:rs.length=l.length:=by rw[yL];simp
 obtain⟨y,ey⟩:=Z.e (bi (crF 65535#16 l));refine Z.y Tryz.func69 λzA _ _ zD _ _ _ zC _ _ zH _ zE hz R hR P hP=>?_;cbv;refine Call.stepE (by rw[<- hP];exact kRO l hl Z.o y rs yL ey) (by exact Up0.one hu rfl) ?_;cbv;obtain⟨L,eL,L0,Ln⟩:=Z.l zE rs;simp only[eL];obtain⟨c,ec⟩:=Z.f (zA .add .i64 L 2);have hc:c=L+2:=by rw[<- ec,zC,k0S Z.o Z.o]
 simp only[ec];obtain⟨zs,ezs⟩:=Z.e (List.replicate L.toNat [AV.int .u8 0]);obtain⟨n,en⟩:=Z.e L.toNat;have hzl:zs.length=n:=by rw[ezs,en];simp
 refine Mk.mk zs n L0 Z.o Z.o Z.o en (by rw[ezs,en]) ?_;cbv;have hok:k2M rs=true:=by rw[yL];exact kHQ l
 refine Xo.copy rfl rfl rfl (u:=46) (t:=46) (e0:=5) (by rw[<- hP];rfl) (by rw[<- hP];rfl) Z.d rfl Z.o hok rs (by rw[List.take_zero,List.nil_append,List.take_of_length_le Z.o,List.drop_of_length_le Z.o,List.append_nil]) n Z.o ?_;cbv;refine Nn.mk Z.d ?_;obtain⟨v,ev⟩:=Z.e (crF 65535#16 l);rw[<- ev] at ey hqs;obtain⟨b1,eb1⟩:=Z.e (bi (v >>> 8));obtain⟨b2,eb2⟩:=Z.e (bi (v &&& 255#16))
 have x1:zD .u8 (zA .shr .u16 y 8)=b1:=by
  rw[zH,zC,ey,eb1];show IntKind.u8.wrap ((bi v).fdiv (2 ^ (min (8:Int).toNat 16)))=_;rw[IntKind.wrap_u8,Int.fdiv_eq_ediv_of_nonneg _ Z.d];unfold bi;rw[BitVec.toNat_ushiftRight,Nat.shiftRight_eq_div_pow];have:=v.isLt;show ((v.toNat:Int)/256)%256=_;omega
 have x2:zD .u8 y=b2:=by
  rw[zH,ey,eb2];show IntKind.u8.wrap (bi v)=_;rw[IntKind.wrap_u8];unfold bi;rw[BitVec.toNat_and];show (v.toNat:Int)%256=((v.toNat &&& 255:Nat):Int);rw[show (255:Nat)=2 ^ 8-1 from rfl,Nat.and_two_pow_sub_one_eq_mod];omega
 simp only[x1,x2];have eq2:qs=rs++[[.int .u8 b1],[.int .u8 b2]]:=by rw[hqs,yL,List.map_append,eb1,eb2];rfl
 have huq:Up0 qs:=by rw[hqs];exact k2R _
 obtain⟨n2,en2⟩:=Z.e (n+2);refine kKT.mk qs n2 eq2 Z.o en2 rfl Z.o Z.o ?_;cbv;exact⟨_,Vw.sl (es:=qs) rfl huq.get (by rw[eq2];simp;omega),hR _ (by rw[List.drop_zero,List.take_of_length_le (by rw[eq2];simp;omega)])⟩
theorem kGN{a b:Int}(h0:0<=a):k05 .rem .i64 a b=a%b:=by
 show a.tmod b=_;rw[Int.tmod_eq_emod_of_nonneg h0]
theorem kDI(v w:BitVec 16)(a b r:Int)(ea:a=bi v)(eb:b=bi w)(er:r=bi (v ^^^ w)):k02 Tryz.prog 85 [a,b] (· = jz r):=by
 refine Z.y Tryz.func85 λzA zG _ _ _ _ hw zC zB _ _ _ _ hz R hR P hP=>?_;cbv
 refine k1Q.data hw (S:=Int×Int×Int) (λs=>fr 27 [(0,a),(1,b),(5,s.2.2),(6,s.2.1),(7,s.1)]) (λ_=>[])
  (λs=>0<=s.1/\s.1<=16/\0<=s.2.1/\s.2.1.toNat=2 ^ s.1.toNat/\0<=s.2.2/\s.2.2.toNat=(v ^^^ w).toNat%2 ^ s.1.toNat) (λs=>(16-s.1).toNat) (0,1,0) Z.i ⟨Int.le_refl _,(show (0:Int)<=16 by decide),(show (0:Int)<=1 by decide),rfl,Int.le_refl _,by simp[Nat.mod_one]⟩ ?_
 rintro⟨i,p,o⟩ zJ Q' hN hE hR'
 have zJ:0<=i/\i<=16/\0<=p/\p.toNat=2 ^ i.toNat/\0<=o/\o.toNat=(v ^^^ w).toNat%2 ^ i.toNat:=zJ;cbv;obtain⟨yJ,yZ,hp0,hpt,ho0,hot⟩:=zJ;obtain⟨k,ek⟩:=Z.e i.toNat;rw[<- ek] at hpt hot;obtain⟨pn,epn⟩:∃q:Nat,q=2 ^ k:=⟨_,rfl⟩;have hpn:0<pn/\pn<=65536:=by rw[epn];exact⟨Nat.two_pow_pos _,Nat.pow_le_pow_right Z.d (show k<=16 by omega)⟩
 rw[<- epn] at hpt;obtain⟨on,eon⟩:∃q:Nat,q=(v ^^^ w).toNat%2 ^ k:=⟨_,rfl⟩;rw[<- eon] at hot;have hvl:=v.isLt;have hwl:=w.isLt;have ha0:0<=a/\a<65536:=by rw[ea];exact q12 v
 have hb0:0<=b/\b<65536:=by rw[eb];exact q12 w
 (split<;>rename_i hc<;>(try (simp only[hz,Z.a,k05,k04,k08,k03,k0M,reduceCtorEq] at hc))<;>(try cbv))
 ·have hab:a=(v.toNat:Int)/\b=(w.toNat:Int):=⟨ea,eb⟩
  have hp:p=(pn:Int):=(by omega);have ho:o=(on:Int):=(by omega);obtain⟨i2,ei2⟩:=Z.e (i+1);have a4:zA .add .i64 i 1=i2:=(by rw[zC,k0S Z.o Z.o,ei2]);obtain⟨p2,ep2⟩:=Z.e (2*p);have a5:zA .mul .i64 2 p=p2:=(by rw[zC,kN5 Z.o Z.o,ep2]);have hT:(16-i2).toNat<(16-i).toNat:=(by omega);have hk2:i2.toNat=k+1:=(by omega);have hp2:p2.toNat=2 ^ i2.toNat:=by rw[hk2,Nat.pow_succ,<- epn];omega
  have hol:o<65536:=by
   have:=Nat.mod_lt (v ^^^ w).toNat (Nat.two_pow_pos k);rw[<- eon,<- epn] at this;omega
  have q1:zA .quo .i64 a p=((v.toNat/pn:Nat):Int):=(by rw[zC,kK1 Z.o Z.o Z.o,hab.1,hp];rfl);have q2:zA .quo .i64 b p=((w.toNat/pn:Nat):Int):=(by rw[zC,kK1 Z.o Z.o Z.o,hab.2,hp];rfl);have q3:zA .rem .i64 ((v.toNat/pn:Nat):Int) 2=((v.toNat/pn%2:Nat):Int):=(by rw[zC,kGN (Int.natCast_nonneg _)];rfl);have q4:zA .rem .i64 ((w.toNat/pn:Nat):Int) 2=((w.toNat/pn%2:Nat):Int):=(by rw[zC,kGN (Int.natCast_nonneg _)];rfl);obtain⟨t,et⟩:∃t,t=(v ^^^ w).toNat.testBit k:=⟨_,rfl⟩
  have c1:zG .neq (zA .rem .i64 (zA .quo .i64 a p) 2) (zA .rem .i64 (zA .quo .i64 b p) 2)=t:=by
   rw[q1,q2,q3,q4,zB,et,BitVec.toNat_xor,Nat.testBit_xor,Nat.testBit_eq_decide_div_mod_eq,Nat.testBit_eq_decide_div_mod_eq,<- epn];show ((((v.toNat/pn%2:Nat):Int)) != ((w.toNat/pn%2:Nat):Int))=_;rcases Nat.mod_two_eq_zero_or_one (v.toNat/pn) with h1|h1<;>rcases Nat.mod_two_eq_zero_or_one (w.toNat/pn) with h2|h2<;>rw[h1,h2]<;>rfl
  have ho2:∀o2,o2=(if t then o+p else o)->0<=o2/\o2.toNat=(v ^^^ w).toNat%2 ^ i2.toNat:=by
   intro o2 h;rw[hk2,Nat.mod_pow_succ,<- eon,<- epn]
   have et2:((v ^^^ w).toNat/pn%2)=if t then 1 else 0:=by
    rw[et,Nat.testBit_eq_decide_div_mod_eq,<- epn];rcases Nat.mod_two_eq_zero_or_one ((v ^^^ w).toNat/pn) with h1|h1<;>rw[h1]<;>rfl
   rw[et2];cases t
   ·simp at h ⊢;omega
   ·simp at h ⊢;omega
  have hpz:p≠0:=(by omega);repeat' (first|refine Nz.mk hpz ?_|refine Nz.mk Z.d ?_)
  simp only[c1];cases t
  ·cbv
   repeat' (first|refine Nz.mk hpz ?_|refine Nz.mk Z.d ?_)
   simp only[a4,a5];refine hN (i2,p2,o) _ _ ?hx ?hi hT
   case hx=>exact Z.i
   case hi=>exact⟨by simp only;omega,by simp only;omega,by simp only;omega,hp2,(ho2 o rfl).1,(ho2 o rfl).2⟩
  ·cbv
   obtain⟨o2,eo2⟩:=Z.e (o+p);have a6:zA .add .i64 o p=o2:=(by rw[zC,k0S Z.o Z.o,eo2]);simp only[a4,a5,a6];refine hN (i2,p2,o2) _ _ ?hx ?hi hT
   case hx=>exact Z.i
   case hi=>exact⟨by simp only;omega,by simp only;omega,by simp only;omega,hp2,(ho2 o2 (by rw[eo2];rfl)).1,(ho2 o2 (by rw[eo2];rfl)).2⟩
 ·refine hE _ _ _ ?_
  cbv;have e16:k=16:=(by omega);refine⟨_,Vw.same rfl,hR _ ?_⟩;rw[e16,Nat.mod_eq_of_lt (v ^^^ w).isLt] at eon;have:o=r:=(by rw[er];unfold bi;omega);rw[this];rfl
def dig(l:List Int)(i:Nat):Bool:=(if i<8*l.length then (k65 (l.getD (i/8) 0)).getLsbD (7-i%8) else false) ^^ decide (i<16)
theorem kFT:∀(l:List (BitVec 16)) (i:Nat),i<8*l.length->(k9Y l)[i]?=some ((l.getD (i/8) 0).getLsbD (7-i%8))
 | [],i,h=>absurd h (by simp)
 | b::l,i,h=>by
   unfold k9Y;rw[List.flatMap_cons];by_cases hi:i<8
   ·rw[List.getElem?_append_left (by simp[k6Q];exact hi),Nat.div_eq_of_lt hi,Nat.mod_eq_of_lt hi]
    simp[k6Q,hi]
   ·rw[List.getElem?_append_right (by simp[k6Q];omega)]
    have e:(k6Q b).length=8:=(by simp[k6Q]);rw[e];have ih:=kFT l (i-8) (by simp at h;omega);unfold k9Y at ih;rw[ih];have h1:i/8=(i-8)/8+1:=(by omega);have h2:(i-8)%8=i%8:=(by omega);rw[h1,h2];rfl
theorem kSM(l:List Int)(hl:k0H l):kBB 0#16 ((List.range (8*l.length+16)).map (dig l))=crF 65535#16 l:=by
 have h:=kXY (l.map k65) (λb hb=>by
  obtain⟨x,hx,rfl⟩:=List.mem_map.1 hb;exact(kOS (hl x hx)).2)
 unfold crF;rw[<- h];congr 1
 apply List.ext_getElem?;intro i;rw[List.getElem?_map,List.getElem?_zipWith];by_cases hi:i<8*l.length+16
 ·rw[List.getElem?_range hi]
  have e2:(List.replicate 16 true++List.replicate (8*(l.map k65).length) false)[i]?=some (decide (i<16)):=by
   by_cases h16:i<16
   ·rw[List.getElem?_append_left (by simpa using h16),List.getElem?_replicate,if_pos h16];simp[h16]
   ·rw[List.getElem?_append_right (by simp;omega),List.getElem?_replicate,if_pos (by simp;omega)];simp[h16]
  have e1:(k9Y (l.map k65)++List.replicate 16 false)[i]?=some (if i<8*l.length then (k65 (l.getD (i/8) 0)).getLsbD (7-i%8) else false):=by
   by_cases h8:i<8*l.length
   ·rw[List.getElem?_append_left (by rw[k6P];simpa using h8),kFT _ _ (by simpa using h8),if_pos h8]
    have:(l.map k65).getD (i/8) 0=k65 (l.getD (i/8) 0):=by
     have hd:i/8<l.length:=(by omega);simp[List.getD_eq_getElem?_getD,hd]
    rw[this]
   ·rw[List.getElem?_append_right (by rw[k6P];simp;omega),List.getElem?_replicate,if_pos (by rw[k6P];simp;omega),if_neg h8]
  rw[e1,e2];rfl
 ·rw[List.getElem?_eq_none (by simp;omega)]
  have:(k9Y (l.map k65)++List.replicate 16 false)[i]?=none:=List.getElem?_eq_none (by rw[List.length_append,k6P,List.length_replicate,List.length_map];omega);rw[this];rfl
theorem kVF(x:BitVec 16)(t:Bool):((x <<< 1) ^^^ (if t then 1#16 else 0#16)).toNat=(2*x.toNat)%65536+(if t then 1 else 0):=by
 have h0:(x <<< 1).toNat=(2*x.toNat)%65536:=by rw[BitVec.toNat_shiftLeft,Nat.shiftLeft_eq];omega
 cases t
 ·simp[h0]
 ·have h1:(x <<< 1) ^^^ 1#16=(x <<< 1) ||| 1#16:=by
   apply BitVec.eq_of_getLsbD_eq;intro i hi;rw[BitVec.getLsbD_xor,BitVec.getLsbD_or,BitVec.getLsbD_shiftLeft];by_cases h:i=0
   ·subst h;simp
   ·have:(1#16).getLsbD i=false:=by rw[BitVec.getLsbD_one];simp[h]
    rw[this];simp
  have h2:(x <<< 1) &&& 1#16=0#16:=by
   apply BitVec.eq_of_getLsbD_eq;intro i hi;rw[BitVec.getLsbD_and,BitVec.getLsbD_shiftLeft];by_cases h:i=0
   ·subst h;simp
   ·have:(1#16).getLsbD i=false:=by rw[BitVec.getLsbD_one];simp[h]
    rw[this];simp
  simp only[if_true];rw[h1,<- BitVec.add_eq_or_of_and_eq_zero _ _ h2,BitVec.toNat_add,h0];show (_+1)%65536=_;omega
theorem kWF(l:List Int)(hl:k0H l)(h47:l.length<=1000000000)(r:Int)(rs:List (List AV))(yL:rs=l.map k15)(er:r=bi (crF 65535#16 l)):k02 Tryz.prog 39 [.list 1 rs] (· = jz r):=by
 have hu:Up0 rs:=by rw[yL];exact k2R l
 have hrl:rs.length=l.length:=by rw[yL];simp
 refine Z.y Tryz.func39 λzA zG _ zD _ _ hw zC zB yM zH _ zE hz R hR P hP=>?_;cbv;obtain⟨L,eL,L0,Ln⟩:=Z.l zE rs;simp only[eL];obtain⟨m,em⟩:=Z.e (8*L);obtain⟨n,en⟩:=Z.e (m+16);have d1:zA .mul .i64 8 L=m:=by rw[zC,kN5 Z.o Z.o,em]
 have d2:zA .add .i64 m 16=n:=by rw[zC,k0S Z.o Z.o,en]
 simp only[d1,d2]
 refine k1Q.data hw (S:=Int×BitVec 16×Int) (λs=>fr 48 [(0,.list 1 rs),(3,n),(4,s.2.2),(5,s.1)]) (λ_=>[])
  (λs=>0<=s.1/\s.1<=n/\s.2.1=kBB 0#16 ((List.range s.1.toNat).map (dig l))/\s.2.2=bi s.2.1) (λs=>(n-s.1).toNat) (0,0#16,0) Z.i ⟨Int.le_refl _,by simp only;omega,rfl,rfl⟩ ?_
 rintro⟨i,x,y⟩ zJ Q' hN hE hR'
 have zJ:0<=i/\i<=n/\x=kBB 0#16 ((List.range i.toNat).map (dig l))/\y=bi x:=zJ;cbv;obtain⟨yJ,yZ,hx,hy⟩:=zJ;have hyb:=q12 x;rw[<- hy] at hyb;(split<;>rename_i hc<;>(try (simp only[hz,Z.a,k05,k04,k08,k03,k0M,reduceCtorEq] at hc))<;>(try cbv))
 ·obtain⟨i2,ei2⟩:=Z.e (i+1)
  have a4:zA .add .i64 i 1=i2:=(by rw[zC,k0S Z.o Z.o,ei2]);have hT:(n-i2).toNat<(n-i).toNat:=(by omega);obtain⟨t,et⟩:=Z.e (dig l i.toNat);obtain⟨x2,ex2⟩:=Z.e (crI x t);obtain⟨y2,ey2⟩:=Z.e (bi x2)
  have hx2:x2=kBB 0#16 ((List.range i2.toNat).map (dig l)):=by
   rw[show i2.toNat=i.toNat+1 by omega,List.range_succ,List.map_append,k8R,<- hx,ex2,et];rfl
  obtain⟨tn,etn⟩:∃z:Int,z=if t then 1 else 0:=⟨_,rfl⟩
  have htn:0<=tn/\tn<=1:=(by rw[etn];cases t<;>decide);obtain⟨z,ez⟩:=Z.e (2*y+tn);have m1:zA .mul .i64 2 y=2*y:=(by rw[zC,kN5 Z.o Z.o]);have m2:zA .add .i64 (2*y) tn=z:=(by rw[zC,k0S Z.o Z.o,ez]);obtain⟨x1,ex1⟩:∃q,q=(x <<< 1) ^^^ (if t then 1#16 else 0#16):=⟨_,rfl⟩;have hsh:=kVF x t;rw[<- ex1] at hsh;have hyx:y=(x.toNat:Int):=hy
  have hx1:bi x1=(2*y)%65536+tn:=by
   unfold bi;rw[hsh,etn,hyx];cases t<;>(simp;try omega)
  -- behind the digit: the step
  have big:65536<=z->x2=x1 ^^^ 4129#16/\z-65536=bi x1:=λh=>by
   have hm:x.msb=true:=(by rw[BitVec.msb_eq_decide];simp;omega);refine⟨?_,by rw[hx1];omega⟩;rw[ex2,ex1];unfold crI crS;rw[hm,if_pos rfl];ac_rfl
  have small:z<65536->x2=x1/\z=bi x1:=λh=>by
   have hm:x.msb=false:=(by rw[BitVec.msb_eq_decide];simp;omega);refine⟨?_,by rw[hx1];omega⟩;rw[ex2,ex1];unfold crI crS;rw[hm];simp
  have nx:∀(Y:Int),Y=y2->Q' .normal=Q' .normal:=λ_ _=>rfl
  -- the digit as the program has it
  have dn:¬i<m->(dig l i.toNat=decide (i.toNat<16)):=λh=>by
   unfold dig;rw[if_neg Z.o];simp
  have dy:i<m->dig l i.toNat=((k65 (l.getD (i.toNat/8) 0)).getLsbD (7-i.toNat%8) ^^ decide (i.toNat<16)):=λh=>by
   unfold dig;rw[if_pos Z.o]
  obtain⟨u,eu⟩:∃u:Bool,u=if i<m then (k65 (l.getD (i.toNat/8) 0)).getLsbD (7-i.toNat%8) else false:=⟨_,rfl⟩
  obtain⟨un,eun⟩:∃z:Int,z=if u then 1 else 0:=⟨_,rfl⟩
  have htu:t=(u ^^ decide (i<16)):=by
   rw[et,eu];by_cases h:i<m
   ·rw[dy h,if_pos h];congr 1;rw[decide_eq_decide];omega
   ·rw[dn h,if_neg h];simp
  have h1u:zA .sub .i64 1 un=1-un:=(by rw[zC,k3I (by rw[eun];cases u<;>decide) (by rw[eun];cases u<;>decide)]);have tn1:i<16->1-un=tn:=λh=>(by rw[etn,eun,htu];cases u<;>simp[h]);have tn2:¬i<16->un=tn:=λh=>by rw[etn,eun,htu];cases u<;>simp[h]
  have go:∀(b:Bool),(i<16↔b=true)->∀dv:Int,dv=un->(if b then zA .sub .i64 1 dv else dv)=tn:=λb hb dv hd=>by
   subst hd;cases b
   ·exact tn2 λh=>by have:=hb.1 h;cases this
   ·rw[if_pos rfl,h1u];exact tn1 (hb.2 rfl)
  have c16:∃b,zG .lss i 16=b/\(i<16↔b=true):=⟨_,rfl,by rw[zB];simp[k04]⟩;obtain⟨b16,e16,hb16⟩:=c16;have go1:=λh:b16=true=>go b16 hb16 un rfl;have cz:∃b,zG .geq z 65536=b/\(65536<=z↔b=true):=⟨_,rfl,by rw[zB];simp[k04]⟩;obtain⟨bz,ecz,hbz⟩:=cz;obtain⟨z2,ez2⟩:=Z.e (z-65536);have m3:zA .sub .i64 z 65536=z2:=(by rw[zC,k3I Z.o Z.o,ez2]);simp only[eL,d1];by_cases h8:i<m
  ·have c8:zG .lss i m=true:=by rw[zB];simp[k04];exact h8
   simp only[c8];cbv;obtain⟨iq,eiq⟩:=Z.e (i/8);obtain⟨ir,eir⟩:=Z.e (i%8);obtain⟨is,eis⟩:=Z.e (7-ir);have q1:zA .quo .i64 i 8=iq:=(by rw[zC,kK1 Z.o Z.o Z.o,eiq]);have q2:zA .rem .i64 i 8=ir:=(by rw[zC,kGN Z.o,eir]);have q3:zA .sub .i64 7 ir=is:=(by rw[zC,k3I Z.o Z.o,eis]);have q4:zD .u64 is=is:=by rw[zH];show IntKind.u64.wrap is=is;rw[IntKind.wrap_u64];omega
   obtain⟨bb,hbb⟩:∃bb,l[iq.toNat]?=some bb:=⟨_,List.getElem?_eq_getElem (show iq.toNat<l.length by omega)⟩;have hbr:rs[iq.toNat]?=some [.int .u8 bb]:=(by rw[yL,List.getElem?_map,hbb];rfl);have hbk:=hl bb (List.mem_of_getElem? hbb)
   have q5:zA .rem .i64 (zD .i64 (zA .shr .u8 bb is)) 2=un:=by
    have e1:l.getD (i.toNat/8) 0=bb:=by rw[show i.toNat/8=iq.toNat by omega,List.getD_eq_getElem?_getD,hbb];rfl
    have e2:zA .shr .u8 bb is=((bb.toNat/2 ^ is.toNat:Nat):Int):=by
     rw[zC];show bb.fdiv (2 ^ (min is.toNat 8))=_;rw[Nat.min_eq_left Z.o,Int.fdiv_eq_ediv_of_nonneg _ (by exact Int.le_of_lt (Int.pow_pos Z.d))];rw[Int.natCast_ediv,Int.toNat_of_nonneg hbk.1,Int.natCast_pow];rfl
    have e3:bb.toNat/2 ^ is.toNat<=255:=Nat.le_trans (Nat.div_le_self _ _) Z.o
    have e4:zD .i64 ((bb.toNat/2 ^ is.toNat:Nat):Int)=((bb.toNat/2 ^ is.toNat:Nat):Int):=by
     obtain⟨q,eq⟩:∃q:Nat,q=bb.toNat/2 ^ is.toNat:=⟨_,rfl⟩;rw[<- eq] at e3 ⊢;rw[zH];show IntKind.i64.wrap _=_;rw[IntKind.wrap_i64];omega
    rw[e2,e4,zC,kGN (Int.natCast_nonneg _),eun,eu,if_pos h8,e1]
    have e5:(k65 bb).getLsbD (7-i.toNat%8)=decide (bb.toNat/2 ^ is.toNat%2=1):=by
     rw[show 7-i.toNat%8=is.toNat by omega];unfold k65;rw[BitVec.getLsbD,BitVec.toNat_ofNat,Nat.mod_eq_of_lt Z.o,Nat.testBit_eq_decide_div_mod_eq]
    rw[e5];obtain⟨q,eq⟩:∃q:Nat,q=bb.toNat/2 ^ is.toNat:=⟨_,rfl⟩;rw[<- eq];rcases Nat.mod_two_eq_zero_or_one q with h1|h1
    ·rw[h1];simp;omega
    ·rw[h1];simp;omega
   repeat' (first
    | (refine Nz.mk Z.d ?_)
    | (refine Nn.mk Z.o ?_)
    | (refine Idx.mk _ Z.o hbr ?_;cbv)
    | (simp only[q1])
    | (simp only[q2,q3,q4]))
   simp only[q5,e16];cases b16
   ·have yM:un=tn:=go false hb16 un rfl
    rw[yM];cbv;simp only[m1,m2,ecz];cases bz
    ·have hs:=small (by rcases Int.lt_or_le z 65536 with h|h;exact h;exact absurd (hbz.1 h) Z.d)
     have hz2:z=y2:=(by rw[ey2,hs.1];exact hs.2);cbv;simp only[a4];refine hN (i2,x2,y2) _ _ ?hx ?hi hT
     case hx=>exact Z.i
     case hi=>exact⟨by simp only;omega,by simp only;omega,hx2,ey2⟩
    ·have hs:=big (hbz.2 rfl)
     cbv;simp only[m3];refine Call.stepE (by rw[<- hP];exact kDI x1 4129#16 z2 4129 y2 (by rw[ez2];exact hs.2) rfl (by rw[ey2,hs.1])) rfl ?_;cbv;simp only[a4];refine hN (i2,x2,y2) _ _ ?hx ?hi hT
     case hx=>exact Z.i
     case hi=>exact⟨by simp only;omega,by simp only;omega,hx2,ey2⟩
   ·have yM:zA .sub .i64 1 un=tn:=go true hb16 un rfl
    cbv;simp only[yM];cbv;simp only[m1,m2,ecz];cases bz
    ·have hs:=small (by rcases Int.lt_or_le z 65536 with h|h;exact h;exact absurd (hbz.1 h) Z.d)
     have hz2:z=y2:=(by rw[ey2,hs.1];exact hs.2);cbv;simp only[a4];refine hN (i2,x2,y2) _ _ ?hx ?hi hT
     case hx=>exact Z.i
     case hi=>exact⟨by simp only;omega,by simp only;omega,hx2,ey2⟩
    ·have hs:=big (hbz.2 rfl)
     cbv;simp only[m3];refine Call.stepE (by rw[<- hP];exact kDI x1 4129#16 z2 4129 y2 (by rw[ez2];exact hs.2) rfl (by rw[ey2,hs.1])) rfl ?_;cbv;simp only[a4];refine hN (i2,x2,y2) _ _ ?hx ?hi hT
     case hx=>exact Z.i
     case hi=>exact⟨by simp only;omega,by simp only;omega,hx2,ey2⟩
  ·have c8:zG .lss i m=false:=by rw[zB];simp[k04];omega
   have hu0:un=0:=(by rw[eun,eu,if_neg h8];rfl);simp only[c8];cbv;simp only[e16];cases b16
   ·have yM:un=tn:=go false hb16 un rfl
    have yM:0=tn:=(by rw[<- hu0];exact yM);simp only[yM];cbv;simp only[m1,m2,ecz];cases bz
    ·have hs:=small (by rcases Int.lt_or_le z 65536 with h|h;exact h;exact absurd (hbz.1 h) Z.d)
     have hz2:z=y2:=(by rw[ey2,hs.1];exact hs.2);cbv;simp only[a4];refine hN (i2,x2,y2) _ _ ?hx ?hi hT
     case hx=>exact Z.i
     case hi=>exact⟨by simp only;omega,by simp only;omega,hx2,ey2⟩
    ·have hs:=big (hbz.2 rfl)
     cbv;simp only[m3];refine Call.stepE (by rw[<- hP];exact kDI x1 4129#16 z2 4129 y2 (by rw[ez2];exact hs.2) rfl (by rw[ey2,hs.1])) rfl ?_;cbv;simp only[a4];refine hN (i2,x2,y2) _ _ ?hx ?hi hT
     case hx=>exact Z.i
     case hi=>exact⟨by simp only;omega,by simp only;omega,hx2,ey2⟩
   ·have yM:zA .sub .i64 1 0=tn:=by rw[<- hu0];exact go true hb16 un rfl
    cbv;simp only[yM];cbv;simp only[m1,m2,ecz];cases bz
    ·have hs:=small (by rcases Int.lt_or_le z 65536 with h|h;exact h;exact absurd (hbz.1 h) Z.d)
     have hz2:z=y2:=(by rw[ey2,hs.1];exact hs.2);cbv;simp only[a4];refine hN (i2,x2,y2) _ _ ?hx ?hi hT
     case hx=>exact Z.i
     case hi=>exact⟨by simp only;omega,by simp only;omega,hx2,ey2⟩
    ·have hs:=big (hbz.2 rfl)
     cbv;simp only[m3];refine Call.stepE (by rw[<- hP];exact kDI x1 4129#16 z2 4129 y2 (by rw[ez2];exact hs.2) rfl (by rw[ey2,hs.1])) rfl ?_;cbv;simp only[a4];refine hN (i2,x2,y2) _ _ ?hx ?hi hT
     case hx=>exact Z.i
     case hi=>exact⟨by simp only;omega,by simp only;omega,hx2,ey2⟩
 ·refine hE _ _ _ ?_
  cbv;refine⟨_,Vw.same rfl,hR _ ?_⟩;have e1:i.toNat=8*l.length+16:=(by omega);rw[hy,hx,er,e1,kSM l hl];rfl
def k73(b:List Int):List AV:=[.list 1 (b.map k15)]
theorem kCR(l:List (List Int)):Up0 (l.map k73):=k1D (f:=k73) (λd=>by simp only[k73,k0Q,AV.upto,(k2R d).get];rfl) l
end Go.Proofs.YtlchlddijclhjaaGreat
