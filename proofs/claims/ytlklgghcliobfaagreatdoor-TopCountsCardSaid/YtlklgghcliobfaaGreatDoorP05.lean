/- Lemmas. -/
import Derived.Test.YtlklgghcliobfaaGreatDoorP04
import Derived.Test.YtlklgghcliobfaaGreatDoorRows
namespace Go.Proofs.YtlklgghcliobfaaGreatDoor
open Go Go.RowKit
open Bool renaming false->I,true->R
open Go renaming Addr->CW,Calls->CL,Oper->Al,Operand->Cf,TypeId->AU,Value->M,World->AG,binOp->ED,eqGuard->IA,execOp->Bh,maxLen->BP
open Go.Ending renaming returned->BT
open Go.IntKind renaming bits->Kb,i64->H,signed->Kc,u16->Q_,u32->Ax,u8->BQ,wrap->Kd
open Go.Op renaming equal->Qa,equalIn->Kg,maxDepth->Qc
open Go.Proofs.Tryz renaming func224->Fp,func309->Pz,func310->ADQ,ntmps224->Fq,ntmps309->Q0,ntmps310->ADY,prog->An
open Go.Result renaming andThen_ok->Bp,ok->Ao
open Go.Sem renaming run_bind->Ak
open Go.Value renaming agg->AV,bool->X,int->D,map->Ah,nilIface->Hf,pointer->T,slice->O,string->In,tuple->AL
open Int renaming add_zero->ADy,le_refl->AEA,ofNat->AEC,sub_self->AEF,sub_zero->ZZ,zero_add->AEH
open List renaming all_eq_true->Gh,append_nil->B1,cons_append->DU,drop_zero->CJ,ext_getElem?->Gj,getD_eq_getElem?_getD->AY,getElem?_append_left->Di,getElem?_eq_getElem->Aw,getElem?_eq_some_iff->Cx,getElem?_map->D_,getElem?_replicate->HH,getElem?_set->EV,getElem?_take->Is,length_append->Ad,length_drop->DV,length_eq_zero_iff->Hi,length_map->BW,length_replicate->BI,length_set->B_,map_append->CU,map_replicate->FF,mem_append->Bs,mem_cons->C2,mem_cons_of_mem->By,mem_cons_self->Bt,mem_replicate->FX,nil_append->Bz,not_mem_nil->Ef,perm_append_comm->Cj,perm_middle->EE,replicate->U,set_getElem_self->AE8,set_set->Hl,take->GJ,take_left'->C_
open List.Perm renaming of_eq->DZ,refl->Bi,swap->D3
open Nat renaming add_le_add_right->AEd,div_eq_of_lt->AEi,div_le_self->Iv,div_lt_iff_lt_mul->AEj,div_mul_cancel->AEl,dvd_of_mod_eq_zero->AEn,le_of_ble_eq_true->DW,le_refl->AI,le_trans->D9,mul_one->B3,not_lt_zero->Zr,zero_add->BF,zero_le->Af
open Option renaming getD_some->IG,isSome_iff_exists->AFV,none->E,some->C
open Or renaming inl->AT,inr->Ae
open Prod.mk renaming injEq->F0
open _root_ renaming Bool->AE,Int->F,List->G,Nat->B,Option->AC,True->Le,absurd->CV,beq_eq_false_iff_ne->Bv,bne_iff_ne->Bn,congrArg->AB,decide_eq_false->F2,decide_eq_true->DH,if_neg->A1,if_pos->A8,not_or->QP,or_false->Eh,rfl->A,trivial->AA
set_option linter.all false
set_option maxHeartbeats 8000000
set_option maxRecDepth 100000
abbrev Ar(j:AE)(f:M)(l:F)(a:M):M:=AV #[X j,f,D Ax l,a]
abbrev A0:M:=O E 0 0
abbrev NV:M:=Ar R A0 0 A0
def BV.t(a:BV)(j:B):BV:=if j=6 then{a with d:=A0} else{a with d:=A0,f:=A0,g:=0}
def XA(j f arg o:B)(a:B4)(p:arg<4294967296)(u:a.a<1000)(r:f<1000)(t:B5 a.a f (a.b arg)=((o:F),R))(l:AE)(n:B4)(q:a.e f arg=(l,R,n)):Ay 287 [P j,N f,D Ax arg] [Av j a] (AL #[X l,X R]) [Av j n]:=by
 have m:=kT j f arg o a p u r t;rw[q] at m;exact m
def e4(l:B)(n:A6)(a:C5)(t m:BV)(p j:B4)(o arg aq:B)(q:S)(ap:M->S->Prop)(al:arg<4294967296)(ao:p.a<1000)(am:o<1000)(bh:j.a<1000)(a1:t.u=I)(bg:m.u=I)
 (an:B5 p.a o (p.b arg)=((aq:F),R))(a3:p.e o arg=(R,R,j))
 (a2:Ay 288 [A5 l,N o] [A_ l n a t] (AL #[]) [A_ l n a m])
 (y:Z9 289 [A5 l,BY o arg] (A_ l n a (m.t j.a)::Av a.a j::q) λv ai=>∃ag G aa Y ah L af Z r z,r.u=I/\v=Ar ag (O G aa Y) ah (O L af Z)/\ai=A_ l n a r::z/\ap v ai):
 Z9 191 [A5 l,BY o arg,X R] (A_ l n a t::Av a.a p::q) ap:=by
 obtain⟨bm,bd,rel,bj,be,bl,bc,bi,bf,bk,bn,av⟩:=t;obtain rfl:av=I:=a1;have ak:=XC a.a o arg p al ao am;rw[an] at ak;have ay:=XA a.a o arg aq p al ao am an R j a3;have az:=Nd a.a j;refine A9.t ?_;intro u;refine J ?_;intro x;refine J ?_;refine A9.b ak ?_;refine J ?_;refine A9.u ay ?_;rintro v aj ⟨rfl,rfl⟩;refine J ?_;refine A9.b a2 (J ?_);refine A9.b az (J ?_);by_cases U:j.a=6
 ·have a6:((j.a:F)!=6)=I:=by rw[U];rfl
  have Q:m.t j.a={m with d:=A0}:=A8 U;rw[Q] at y;refine J ?_;refine A9.w (a:=[.t x _ _,.t u _ _]++(A_ l n a {m with d:=A0}::Av a.a j::q)) (AQ.u (GS.t (f:=[.t x _ _,.t u _ _,A_ l n a {m with d:=A0},Av a.a j]) (c:=q) Y0)) (A9.ac y ?_);rintro v aj ⟨ag,G,aa,Y,ah,L,af,Z,r,z,V,rfl,rfl,W⟩;obtain⟨ba,au,a7,a5,aw,a9,ar,a4,a0,a8,bb,P⟩:=r;obtain rfl:P=I:=V;refine J ?_;intro ax;refine J ?_;exact⟨_,((AQ.y _).t (AQ.y _)).t (AQ.y _),W⟩
 ·have a6:((j.a:F)!=6)=R:=Y8;have Q:m.t j.a={m with d:=A0,f:=A0,g:=0}:=A1 U;rw[Q] at y;refine J ?_;refine A9.w (a:=[.t x _ _,.t u _ _]++(A_ l n a {m with d:=A0,f:=A0,g:=0}::Av a.a j::q)) (AQ.u (GS.t (f:=[.t x _ _,.t u _ _,A_ l n a {m with d:=A0,f:=A0,g:=0},Av a.a j]) (c:=q) Y0)) (A9.ac y ?_);rintro v aj ⟨ag,G,aa,Y,ah,L,af,Z,r,z,V,rfl,rfl,W⟩;obtain⟨ba,au,a7,a5,aw,a9,ar,a4,a0,a8,bb,P⟩:=r;obtain rfl:P=I:=V;refine J ?_;intro ax;refine J ?_;exact⟨_,((AQ.y _).t (AQ.y _)).t (AQ.y _),W⟩
def VB(m:B)(o:A6)(j:C5)(l:BV)(f:B4)(u:f.a<16)(a r:B)(t:a=3\/a=7\/a=12\/a=13):Ay 289 [A5 m,BY a r] [A_ m o j l,Av j.a f] (Ar I A0 (B0 f.a l.e) A0) [A_ m o j {l with e:=0},Av j.a f]:=by
 have n:=Ku m o j l f u;rcases t with rfl|rfl|rfl|rfl
 ·refine A9.t ?_;intro p;refine J ?_;intro q;refine J ?_;refine A9.b n ?_;refine J ?_;exact BE
 ·refine A9.t ?_;intro p;refine J ?_;intro q;refine J ?_;refine A9.b n ?_;refine J ?_;exact BE
 ·refine A9.t ?_;intro p;refine J ?_;intro q;refine J ?_;refine A9.b n ?_;refine J ?_;exact BE
 ·refine A9.t ?_;intro p;refine J ?_;intro q;refine J ?_;refine A9.b n ?_;refine J ?_;exact BE
def e8(a:B)(f:A6)(m:C5)(j:BV)(l:B):AK 289 [A5 a,BY 1 l] [A_ a f m j] (Ar I A0 2164228224 A0):=by
 refine A9.t ?_;intro n;refine J ?_;intro o;refine J ?_;exact BE
def Ep:G B:=[76,79,67,75,69,84,0,0,0,0,0,0,0,0,0,0]
variable{yc:AP}{lg:S}{xv:M->S->Prop}{zb:Call}{q:G B}
def Cr.ap{o:Al}{n r f m:B}(aw:o.op=.call zb)(am:zb.callee=.builtin .append)(a2:zb.argTypes=#[31,3])
 (ak:DK yc zb.args.toList=C [Q n r f,N (m:F)])(ay:∀x Z a,BA x Z lg a->∀p t,(q.map W)[p]?=C t->a.cell? ⟨n,0+p,E⟩=C t)(av:q.length=r)(a5:f<r+m)(a4:0<m)(a6:f<=BP/\r+m<=1000000000)
 (au:∀aa z,r+m+z.length<=BP->xv (Q aa (r+m) (r+m+z.length)) (AJ aa (q++U m 0) z::lg)):Cr A4 o yc lg xv:=by
 subst av;refine Cr.ac aw am ak λx Z a u ag=>?_;have a0:=A4.f (m:=31) (n:=.slice 5) A;have a1:=A4.f (m:=3) (n:=.int H) A;obtain⟨j,ar,a3,az,af⟩:∃j,A4.b.info? 5=C j/\j.zero=C (D BQ 0)/\j.size=1/\j.bytes=1:=⟨_,A4.i 5 _ A,A,A,A⟩;have al:∀(u:Array AE)(v:M)(L:AG),(Builtin.append_ #[31,3] o.type #[Q n q.length f,N (m:F)]).run A4.b a=Ao v L->(builtin .append zb.argTypes o.type u [Q n q.length f,N (m:F)].toArray).run A4.b a=Ao (.value v) L:=λu v L ai=>by
  simp only[builtin];rw[a2,Ak,ai];rfl
 have ax:∀p t,(C1 q)[p]?=C t->a.drew.cell? ((⟨n,0,E⟩:CW).add p)=C t:=λp t ah=>by
  rw[Addr.b];rw[Ii] at ah;exact ay x Z a ag p t ah
 have ap:=run_firstCells_some (P:=A4.b) a.drew j.size q.length ⟨n,0,E⟩ q.length f (C1 q) (by rw[az,Ii];simp) ax;have y:=Lib.run_append_grow_zeros (P:=A4.b) a 31 3 o.type 5 j (D BQ 0) H H a0 a1 ar a3 (V n) q.length f (C1 q) ap m Y Y Y Y (by rw[af];omega) (by have:=growslice_fits (need:=q.length+m) (old:=f) (bytes:=j.bytes) Y (by rw[af];omega);exact this);have aq:=grownCap_ge a (q.length+m) f 5;have an:grownCap a (q.length+m) f 5<=BP:=grownCap_le_maxLen a _ _ _ AF2;obtain⟨l,aj⟩:∃l,grownCap a (q.length+m) f 5=l:=⟨_,A⟩;rw[aj] at y aq an;have ao:(C1 q).toArray++Builtin.zeroCells (D BQ 0).cells m++Builtin.zeroCells (D BQ 0).cells (l-(q.length+m))=((q++U m 0).map W++(U (l-(q.length+m)) 0).map W).toArray:=by
  apply Array.ext';simp only[Array.toList_append,TA,Ii,CU]
 rw[ao] at y;refine⟨_,_,_,al u _ _ y,?_,(BA.z (lg:=lg) ag _ _)⟩;have:=au a.heap.size ((U (l-(q.length+m)) 0).map W) AF5;rw[BW,BI,show q.length+m+(l-(q.length+m))=l by omega] at this;exact this
def c'(a:S):Z9 370 [] a λv m=>∃f n t,v=Q f 16 n/\m=AJ f Ep t::a:=by
 refine A9.t ?_;intro o;refine J ?_;refine Cr.al A A A A (J ?_);refine Cr.ap (q:=[76,79,67,75,69,84]) (m:=10) A A A A (λx B z p r u q=>Rr (g:=o) p r u q) A Z Z ⟨Z,Z⟩ (λj l y=>?_);refine J ?_;exact⟨AJ j Ep l::a,AQ.z _ (AQ.y _),j,_,l,A,A⟩
def eA(f:B)(l:A6)(o:C5)(n:BV)(q:B):Z9 289 [A5 f,BY 2 q] [A_ f l o n] λv p=>∃a m j,v=Ar I (Q a 16 m) 0 A0/\p=[AJ a Ep j,A_ f l o n]:=by
 refine A9.t ?_;intro t;refine J ?_;intro u;refine J ?_;refine A9.z (c' _) ?_;rintro v r ⟨a,m,j,rfl,rfl⟩;refine J ?_;exact⟨[AJ a Ep j,A_ f l o n],AQ.b,a,m,j,A,A⟩
def N4(a b:B):((a:F)==(b:F))=(a==b):=by
 by_cases f:a=b
 ·subst f;simp
 ·rw[Bv.2 f,Bv.2 Y]
def Nm(j:BV)(f:B):BV:={j with a:=f%65536,h:=f/2147483648==1,i:=f/1073741824%2==1}
def fA(f:B)(l:A6)(n:C5)(m:BV)(a:B)(r:a<4294967296)(t:1<=a%65536/\a%65536<=64):Ay 376 [A5 f,D Ax a] [A_ f l n m] (AL #[]) [A_ f l n (Nm m a)]:=by
 obtain⟨j,o⟩:∃j,a%65536=j:=⟨_,A⟩;have u:=Aa ((j:F)<1);have x:=Aa ((j:F)>64);refine A9.t (J ?_);refine F'.mk ((j:B):F) (by rw[show((65535:F))=((65535:B):F) from A,Jo a 65535 16 A Z Y];exact AB AEC o) (A7 ?_);refine F'.mk ((a/2^31:B):F) (Ie a 31 Z) (A7 ?_);refine F'.mk ((a/2^30:B):F) (Ie a 30 Z) (J ?_);refine F'.mk ((a/2^30%2:B):F) (Jo (a/2^30) 1 1 A Z Y) (J ?_);have p:=N4 (a/2^31) 1;have q:=N4 (a/2^30%2) 1;refine⟨[A_ f l n (Nm m a)],?_,A,A⟩;unfold Nm;rw[o];refine AQ.u (DZ ?_);show[BL.t f [_,_,_,_,_,_,_,_,_,_,_,_,_,_,_,_,_,_,X (((a/2^31:B):F)==((1:B):F)),X (((a/2^30%2:B):F)==((1:B):F)),_,_,_,_,_,_,_,_] _]=_;rw[p,q]
def e9(l:B)(n:A6)(f:C5)(j:BV)(m:B4)(r:m.a<16)(a:B)(p:a<4294967296)(q:1<=a%65536/\a%65536<=64):Ay 289 [A5 l,BY 23 a] [A_ l n f j,Av f.a m] (Ar I A0 (B0 m.a j.e) A0) [A_ l n f {Nm j a with e:=0},Av f.a m]:=by
 have o:=Ku l n f (Nm j a) m r;refine A9.t ?_;intro t;refine J ?_;intro u;refine J ?_;refine A9.b (fA l n f j a p q) (J ?_);refine A9.b o ?_;refine J ?_;exact BE
abbrev E9(f a:B)(j:G M):BL:=.t f (Q a 128 128::j) 31
variable{xp:A6}
def A6.w(f:xp.e)(a:B):xp.j a<=256:=by
 obtain⟨l,m,n,o,p,q,r,t,u,j⟩:=f;unfold A6.j;split<;>omega
variable{l p:B}
def A6.aa(a:p<xp.j l):xp.g l+p<xp.a:=by
 match l,a with
 |0,a=>have f:p<xp.b:=a;show 0+p<xp.b+2*xp.f+xp.s;omega
 |1,a=>have f:p<xp.f:=a;show xp.b+p<xp.b+2*xp.f+xp.s;omega
 |2,a=>have f:p<xp.f:=a;show xp.b+xp.f+p<xp.b+2*xp.f+xp.s;omega
 |3,a=>have f:p<xp.s:=a;show xp.b+2*xp.f+p<xp.b+2*xp.f+xp.s;omega
 |l+4,a=>have f:p<0:=a;omega
def e_(p:B)(j:A6)(S:j.e)(f:C5)(o:BV)(t:B4)(u:G B)(n:E0)(r:Aj)(N M L m l:B)(b:AE)(ar:t.a<16)(au:u.length=64)(ap:u.getD 0 0=l)(U:l<8)(a0:l≠3)(af:m<j.j l)(aq:r.b+10<=500000000):
 Z9 373 [A5 p,BY 17 m] (A_ p j f o::Av f.a t::Bc f.c u::BG f.b j b::BH f.d j n::.u (At j n.b n.a r)::Cn f.g f.f N M L)
  λv ah=>∃z aj ai q y x,r.g x 2/\(y.drop 0).take 128=(r.e (j.g l+m)).map W/\(r.e (j.g l+m)).length=128/\v=Ar I A0 (B0 t.a o.e) (Q z 1 aj)/\ah=E9 z q ai::.t q y 5::A_ p j f {o with a:=0,h:=I,i:=I,e:=0}::Av f.a t::Bc f.c u::BG f.b j R::BH f.d j n::.u (At j n.b n.a x)::Cn f.g f.f N M L:=by
 have a1:=A6.w S l;have a2:((l:F)==3)=I:=Y9;have aa:=RG p j f {o with a:=0,h:=I,i:=I} u au Y;rw[ap] at aa;have ao:=Ku p j f {o with a:=0,h:=I,i:=I} t ar;refine A9.t ?_;intro aw;refine J ?_;intro ax;refine J ?_;refine A9.b (VD p j f o 17 Z) (J ?_);refine A9.b aa ?_;refine J ?_;refine A9.b (RJ p j S f {o with a:=0,h:=I,i:=I} l m 1 U Z Y b) (J ?_);refine A9.b ao (J ?_);intro ay;refine J ?_;refine EY.b (J ?_);refine F'.mk (m:F) (A3 Y) (J ?_);refine F'.mk (m:F) (by rw[ADy];exact A3 Y) (J ?_);refine A9.b (Qz j S f.b l m U af R) ?_;refine J ?_;refine A9.u (fB p j f {o with a:=0,h:=I,i:=I,e:=0} n r N M L l m (j.g l+m) (A6.aa af) aq) ?_;rintro v av ⟨q,y,x,an,al,am,rfl,rfl⟩;refine J ?_;intro az;refine J ?_;refine Cr.ad (j:=_) (N:=_) A A A A A A A ⟨A,Z⟩ [Q q 128 128] A A A ⟨Z,Z,Z⟩ (λz ak ag a3 a4 a5=>?_);refine J ?_;refine F'.mk 1 A (EY.b (J ?_));refine⟨_,AQ.b (g:=E9 z q ag::.t q y 5::A_ p j f {o with a:=0,h:=I,i:=I,e:=0}::Av f.a t::Bc f.c u::BG f.b j R::BH f.d j n::.u (At j n.b n.a x)::Cn f.g f.f N M L),z,ak,ag,q,y,x,an,al,am,A,A⟩
def e7(z:B)(j:A6)(Y:j.e)(f:C5)(u:BV)(p:B4)(q:G B)(l:E0)(n:Aj)(N M L x m:B)(b:AE)(am:p.a<16)(an:q.length=64)(ah:q.getD 0 0=m)(aj:m<8)(ai:m≠3)(ak:x<j.j m)(al:n.b+10<=500000000):
 Z9 289 [A5 z,BY 17 x] (A_ z j f u::Av f.a p::Bc f.c q::BG f.b j b::BH f.d j l::.u (At j l.b l.a n)::Cn f.g f.f N M L)
  λv U=>∃y S F o t r,n.g r 2/\(t.drop 0).take 128=(n.e (j.g m+x)).map W/\(n.e (j.g m+x)).length=128/\v=Ar I A0 (B0 p.a u.e) (Q y 1 S)/\U=A_ z j f {u with a:=0,h:=I,i:=I,e:=0}::E9 y o F::.t o t 5::Av f.a p::Bc f.c q::BG f.b j R::BH f.d j l::.u (At j l.b l.a r)::Cn f.g f.f N M L:=by
 have ag:=e_ z j Y f u p q l n N M L x m b am an ah aj ai ak al;refine A9.t ?_;intro ap;refine J ?_;intro aq;refine J ?_;refine A9.u ag ?_;rintro v ao ⟨y,S,F,o,t,r,af,Z,aa,rfl,rfl⟩;refine J ?_;refine⟨_,AQ.b (g:=A_ z j f {u with a:=0,h:=I,i:=I,e:=0}::E9 y o F::.t o t 5::Av f.a p::Bc f.c q::BG f.b j R::BH f.d j l::.u (At j l.b l.a r)::Cn f.g f.f N M L),y,S,F,o,t,r,af,Z,aa,A,A⟩
def RH(o:B)(m:A6)(V:m.e)(a:C5)(F n:BV)(r:B4)(u:G B)(x t l q:B)(b:AE)(ag:x=24\/x=25)(aj:r.a=6)(al:u.length=64)(W:u.getD 0 0=q)(aa:q<8)(Z:q≠3)(ai:1<=l/\l<=64)(af:t+l<=m.j q)(ak:n.i=I)
 (ah:Ay 441 [A5 o,N x] [A_ o m a F] (N l) [A_ o m a n]):
 Z9 289 [A5 o,BY x t] [A_ o m a F,Av a.a r,Bc a.c u,BG a.b m b]
  λv z=>∃P M,GQ P M (BN t l)/\v=Ar I A0 (B0 6 n.e) A0/\z=[A_ o m a {n with j:=q,s:=n.h,f:=P,g:=0,e:=0},Av a.a ⟨6,r.d,l⟩,Bc a.c u,BG a.b m R,.u (A2 M)]:=by
 have L:=fP o m V a F n r u x t l q b aj al W aa Z ai af ak ah;have am:Z9 289 [A5 o,BY x t] [A_ o m a F,Av a.a r,Bc a.c u,BG a.b m b]
  λv z=>∃p:D6,p.c 1 l/\v=Ar I A0 (B0 6 n.e) A0/\z=[A_ o m a {n with j:=q,s:=n.h,f:=p.b l,g:=0,e:=0},Av a.a ⟨6,r.d,l⟩,Bc a.c u,BG a.b m R,F7 p (BN t l)]:=by
  rcases ag with rfl|rfl
  ·refine A9.t ?_;intro S;refine J ?_;intro U;refine J ?_;refine A9.u L ?_;rintro v Q ⟨p,y,rfl,rfl⟩;refine J ?_;refine A9.b (Ku o m a {n with j:=q,s:=n.h,f:=p.b l,g:=0} ⟨6,r.d,l⟩ (by show 6<16;decide)) ?_;refine J ?_;refine⟨_,AQ.b (g:=[A_ o m a {n with j:=q,s:=n.h,f:=p.b l,g:=0,e:=0},Av a.a ⟨6,r.d,l⟩,Bc a.c u,BG a.b m R,F7 p (BN t l)]),p,y,A,A⟩
  ·refine A9.t ?_;intro S;refine J ?_;intro U;refine J ?_;refine A9.u L ?_;rintro v Q ⟨p,y,rfl,rfl⟩;refine J ?_;refine A9.b (Ku o m a {n with j:=q,s:=n.h,f:=p.b l,g:=0} ⟨6,r.d,l⟩ (by show 6<16;decide)) ?_;refine J ?_;refine⟨_,AQ.b (g:=[A_ o m a {n with j:=q,s:=n.h,f:=p.b l,g:=0,e:=0},Av a.a ⟨6,r.d,l⟩,Bc a.c u,BG a.b m R,F7 p (BN t l)]),p,y,A,A⟩
 refine A9.z am ?_;rintro v z ⟨p,y,rfl,rfl⟩;exact⟨_,_,PN y (Ju t l) Y,A,A⟩
variable{yn:S}{xt:AU}{er yj:G M}
def Mw.y{a:S->Prop}[r:Bo lg l er xt][q:Fb lg l yj yn](f:yj.length=p)(o:er.length=p)(m:yj.all B'=R)(n:a yn):Mw lg l 0 p (AV yj.toArray) a:=by
 have j:Cb er 0 (AV yj.toArray)=yj:=N_ (by rw[f,o]);exact Mw.mk (a:=er) (n:=xt) ⟨by simp[f],Y,m⟩ (r:=by rw[j];exact q) n
def Ga(a:G B):G B:=((a.set 34 0).set 32 1).set 33 0
def ML(a:q.length=64):(Ga q).length=64:=by simp[Ga,a]
def e'(p:B)(f:A6)(a:C5)(r:BV)(j:G B)(l:E0)(n:Aj)(b:AE)(m:j.length=64)(u:f.d*14+1<n.c)(x:n.d<7000):
 Ay 135 [A5 p] [A_ p f a r,Bc a.c j,BG a.b f b,BH a.d f l,.u (At f l.b l.a n)] (AV ((Ga j).map W).toArray) [A_ p f a r,Bc a.c (Ga j),BG a.b f b,BH a.d f l,.u (At f l.b l.a n)]:=by
 refine A9.t ?_;intro y;refine J ?_;refine A9.b (b1 f a.b b) ?_;refine J ?_;refine A9.b (ABF a.d f l n u x) ?_;refine J ?_;refine A9.u (Sn a.c 34 0 j Z m) (λv q o=>?_);obtain rfl:=o;refine J ?_;refine A9.u (Sn a.c 32 1 (j.set 34 0) Z (by simp[m])) (λv q o=>?_);obtain rfl:=o;refine J ?_;refine A9.u (Sn a.c 33 0 ((j.set 34 0).set 32 1) Z (by simp[m])) (λv q o=>?_);obtain rfl:=o;refine J ?_;have t:=Xj a.c (Ga j) (ML m);refine A9.b t (J ?_);refine Mw.y (p:=64) (by simp[ML m]) A (Gy _) (J ?_);refine Ms.mk (v:=AV ((Ga j).map W).toArray) ?_ ?_
 ·exact MB (l:=64) (by simp[ML m])
 refine J ?_;exact BE
def fO(m:B)(p:A6)(a:C5)(j:BV)(o:B4)(U:o.a<16)(r x n y:B)(f:G M)(u:AU)(q:G B)(F:(f.drop x).take n=q.map W)(L:q.length=n)(N:n<=128)(S:x+n<=f.length):Z9 372 [A5 m,O (C ⟨r,x,E⟩) n y] [A_ m p a j,Av a.a o,.t r f u] λv z=>∃t l,v=Ar I A0 (B0 o.a j.e) (Q t 1 1)/\z=[A_ m p a {j with e:=0},E9 t l [],AJ l (Fy q) [],Av a.a o,.t r f u]:=by
 refine A9.t ?_;intro Z;refine J ?_;refine A9.b (Ku m p a j o U) (J ?_);intro aa;refine J ?_;refine A9.u (e2 m p a {j with e:=0} r x n y f u q F L N S) ?_;rintro v Y ⟨l,rfl,rfl⟩;refine J ?_;intro t;refine J ?_;exact⟨[A_ m p a {j with e:=0},E9 t l [],AJ l (Fy q) [],Av a.a o,.t r f u],AQ.b,t,l,A,A⟩
def eR(j a v:B)(f:S)(l:a≠13):AK 453 [A5 j,N a,W v] f (N 0):=by
 have m:((a:F)!=13)=R:=Y8;refine A9.y ?_;refine J ?_;exact⟨A,A⟩
def e3(l:B)(f:A6)(o:f.e)(a:C5)(n:BV)(j:G B)(v:B)(b:AE)(m:j.length=64)(p:v<8)(r:0<f.j v):Ay 375 [A5 l,D Ax (C7 0 v)] [A_ l f a n,Bc a.c j,BG a.b f b] (AL #[]) [A_ l f a n,Bc a.c (j.set 0 v),BG a.b f R]:=by
 have t:=A6.w o v;have u:(((f.j v:B):F)==0)=I:=Y9;refine A9.t ?_;refine J ?_;refine A9.b (AAP a.c 0 1 v j Z Z Y m) ?_;refine J ?_;refine A9.b (Xj a.c j m) (J ?_);intro q;refine J ?_;refine Mw.y (p:=64) (by simp[m]) A (Gy _) (A7 ?_);refine A9.b (R0 f o a.b v p b) (J ?_);refine A9.ab (eR l 0 v _ Z) (J ?_);refine A9.b (AAb a.c 0 7 v j Z Z Y m) (J ?_);refine A9.ab (MN 0 1 _ Z) (J ?_);refine A9.ab (MN 13 3 _ Z) (J ?_);exact BE
def eC(l:B)(f:A6)(o:f.e)(a:C5)(j:BV)(m:B4)(p:m.a<16)(n:G B)(v:B)(b:AE)(q:n.length=64)(r:v<8)(t:0<f.j v):Ay 289 [A5 l,BY 6 (C7 0 v)] [A_ l f a j,Av a.a m,Bc a.c n,BG a.b f b] (Ar I A0 (B0 m.a j.e) A0) [A_ l f a {j with e:=0},Av a.a m,Bc a.c (n.set 0 v),BG a.b f R]:=by
 refine A9.t ?_;intro u;refine J ?_;intro x;refine J ?_;refine A9.b (e3 l f o a j n v b q r t) (J ?_);refine A9.b (Ku l f a j m p) ?_;refine J ?_;exact BE
def eG(m:B)(f:A6)(u:f.e)(a:C5)(l:BV)(o:B4)(S:o.a<16)(p:G B)(j q:B)(t:G M)(b:AE)(aa:p.length=64)(af:p.getD 0 0=0)(y:1<=j/\j<=256):Z9 374 [A5 m,BY 30 0] (A_ m f a l::Av a.a o::Bc a.c p::BG a.b f b::DB a.h a.e j q (U j 0) t) λag F=>∃r n,ag=Ar I A0 (B0 o.a l.e) (Q r 1 1)/\F=A_ m f a {l with e:=0}::E9 r n []::AJ n (Fy [0,0,0,0]) []::Av a.a o::Bc a.c p::BG a.b f R::DB a.h a.e j q (U j 0) t:=by
 have z:=RG m f a l p aa Y;rw[af] at z;have am:=u.nC;have al:=u.nD;refine A9.t ?_;intro ai;refine J ?_;intro aj;refine J ?_;refine A9.b z ?_;refine J ?_;refine A9.b (RJ m f u a l 0 0 1 Z Z (by show 0+1<=f.b;omega) b) ?_;refine A7 ?_;refine A9.b (Qz f u a.b 0 0 Z (by show 0<f.b;omega) R) ?_;refine A7 ?_;refine F'.mk 0 (by show IntKind.i64.wrap (Int.tdiv 0 _)=0;rw[Int.zero_tdiv];rfl) (J ?_);refine A9.u (gT a.h a.e j q (U j 0) t BI y.2 (λah x=>by rw[(FX.1 x).2];decide)) ?_;rintro v L ⟨ak,an,rfl,rfl⟩;refine J ?_;refine A9.b (gK a.h a.e j q 0 (U j 0) t BI y.2 (λah x=>(FX.1 x).2)) (J ?_)
 iterate 7 (first|refine Mt.mk Z ?_;refine F'.mk 0 A ?_;refine J ?_|(refine F'.mk 0 A ?_;refine J ?_))
 intro N;refine J ?_;refine A9.u (fO m f a l o S N 0 4 4 (([0,0,0,0]:G B).map W) _ [0,0,0,0] A A Z Z) ?_;rintro v L ⟨r,n,rfl,rfl⟩;refine J ?_;refine⟨_,AQ.b (g:=A_ m f a {l with e:=0}::E9 r n []::AJ n (Fy [0,0,0,0]) []::Av a.a o::Bc a.c p::BG a.b f R::DB a.h a.e j q (U j 0) t),r,n,A,A⟩
def eB(q:B)(j:A6)(x:j.e)(a:C5)(o:BV)(m:B4)(F:m.a<16)(n:G B)(f r:B)(t:G M)(b:AE)(L:n.length=64)(N:n.getD 0 0=0)(z:1<=f/\f<=256):Z9 289 [A5 q,BY 30 0] (A_ q j a o::Av a.a m::Bc a.c n::BG a.b j b::DB a.h a.e f r (U f 0) t) λS u=>∃p l,S=Ar I A0 (B0 m.a o.e) (Q p 1 1)/\u=A_ q j a {o with e:=0}::E9 p l []::AJ l (Fy [0,0,0,0]) []::Av a.a m::Bc a.c n::BG a.b j R::DB a.h a.e f r (U f 0) t:=by
 have y:=eG q j x a o m F n f r t b L N z;refine A9.t ?_;intro Y;refine J ?_;intro Z;refine J ?_;refine A9.u y ?_;rintro v W ⟨p,l,rfl,rfl⟩;refine J ?_;refine⟨_,AQ.b (g:=A_ q j a {o with e:=0}::E9 p l []::AJ l (Fy [0,0,0,0]) []::Av a.a m::Bc a.c n::BG a.b j R::DB a.h a.e f r (U f 0) t),p,l,A,A⟩
def e5(m:B)(p:A6)(j:C5)(r l:BV)(o a:B4)(n arg Q:B)(q:S)(G:arg<4294967296)(P:o.a<1000)(L:n<1000)(al:a.a<1000)(Y:r.u=I)
 (M:B5 o.a n (o.b arg)=((Q:F),R))(aa:o.e n arg=(I,R,a))
 (Z:Ay 288 [A5 m,N n] [A_ m p j r] (AL #[]) [A_ m p j l]):
 Ay 191 [A5 m,BY n arg,X R] (A_ m p j r::Av j.a o::q) NV (A_ m p j (l.t a.a)::Av j.a a::q):=by
 obtain⟨aq,ai,rel,an,aj,ap,ah,am,ak,ao,ar,U⟩:=r;obtain rfl:U=I:=Y;have z:=XC j.a n arg o G P L;rw[M] at z;have V:=XA j.a n arg Q o G P L M I a aa;have W:=Nd j.a a;refine A9.t ?_;intro x;refine J ?_;intro y;refine J ?_;refine A9.b z ?_;refine J ?_;refine A9.u V ?_;rintro v ag ⟨rfl,rfl⟩;refine J ?_;refine A9.b Z (J ?_);refine A9.b W (J ?_);by_cases u:a.a=6
 ·have af:((a.a:F)!=6)=I:=by rw[u];rfl
  have t:l.t a.a={l with d:=A0}:=A8 u;rw[t];refine J ?_;refine A9.ab (VJ _) (J ?_);exact⟨_,AQ.u (GS.t (f:=[.t y _ _,.t x _ _,A_ m p j {l with d:=A0},Av j.a a]) (c:=q) Y0)|>.t ((AQ.y _).t (AQ.y _)),A,A⟩
 ·have af:((a.a:F)!=6)=R:=Y8;have t:l.t a.a={l with d:=A0,f:=A0,g:=0}:=A1 u;rw[t];refine J ?_;refine A9.ab (VJ _) (J ?_);exact⟨_,AQ.u (GS.t (f:=[.t y _ _,.t x _ _,A_ m p j {l with d:=A0,f:=A0,g:=0},Av j.a a]) (c:=q) Y0)|>.t ((AQ.y _).t (AQ.y _)),A,A⟩
def Rm(m:B)(f:A6)(a:E0)(n:C5)(j:BV)(l:Aj)(p:j.u=I):AK 27 [A5 m] [BH m f a,A_ a.c f n j,.u (At f a.b a.a l)] (X I):=by
 have o:AK 66 [A5 a.c] [A_ a.c f n j] (X I):=by
  refine A9.t ?_;refine J ?_;exact⟨_,AQ.b,AB X p,A⟩
 refine A9.t ?_;refine J ?_;refine A9.b o ?_;refine J ?_;refine A9.b (Yh f a.b a.a l) (J ?_);exact BE
def WC(l:B)(f:A6)(a:E0)(n:C5)(j:BV)(m:Aj)(u arg:B)(o:S)(z:M->S->Prop)(V:j.u=I)
 (U:Z9 191 [A5 a.c,BY u arg,X R] (A_ a.c f n j::BH l f a::.u (At f a.b a.a m)::o) λv P=>∃L p F x N q G y,v=Ar L (O p F x) N (O q G y)/\z v P):
 Z9 98 [A5 l,BY u arg,X R] (A_ a.c f n j::BH l f a::.u (At f a.b a.a m)::o) z:=by
 have Q:=Rm l f a n j m V;refine A9.t ?_;intro r;refine J ?_;intro t;refine J ?_;refine A9.b Q ?_;refine J ?_;refine A9.w (a:=[.t t _ _,.t r _ _]++(A_ a.c f n j::BH l f a::.u (At f a.b a.a m)::o)) (AQ.u (GS.t (f:=[.t t _ _,.t r _ _,A_ a.c f n j,BH l f a,.u (At f a.b a.a m)]) (c:=o) Y0)) (A9.ac U ?_);rintro v Y ⟨L,p,F,x,N,q,G,y,rfl,W⟩;refine J ?_;exact⟨_,(AQ.y _).t (AQ.y _),W⟩
def hH(l:B)(f:A6)(a:E0)(n:C5)(j:BV)(m:Aj)(p:M)(q:AE)(o:S)(r:M->S->Prop)(x:j.u=I)
 (u:Z9 60 [A5 a.c,p,X q] (A_ a.c f n j::BH l f a::.u (At f a.b a.a m)::o) r):
 Z9 25 [A5 l,p,X q] (A_ a.c f n j::BH l f a::.u (At f a.b a.a m)::o) r:=by
 have t:=Rm l f a n j m x;refine A9.y (J ?_);refine A9.b t (J ?_);refine A9.w (a:=A_ a.c f n j::BH l f a::.u (At f a.b a.a m)::o) (AQ.u (GS.t (f:=[A_ a.c f n j,BH l f a,.u (At f a.b a.a m)]) (c:=o) Y0)) (A9.z u λv z y=>(J ?_));exact y
def hX(l:B)(j:A6)(m:E0)(f:C5)(n:BV)(a:B4):AK 71 [A5 l] [BH l j m,A_ m.c j f n,Av f.a a] (N a.a):=by
 refine A9.t ?_;refine J ?_;refine A9.b (Nd f.a a) ?_;refine J ?_;exact BE
def hT(l:B)(j:A6)(a:E0)(f:Aj)(p:0<=a.d/\a.d<=f.a)(q:f.a<=1000000000):AK 29 [A5 l] [BH l j a,.u (At j a.b a.a f)] (N ((f.a:F)-a.d)):=by
 refine A9.t ?_;refine J ?_;refine A9.u (Pu j a.b a.a f) ?_;rintro v m ⟨n,o,rfl,rfl⟩;refine J ?_;refine F'.mk ((f.a:F)-a.d) (A3 Y) (J ?_);exact BE
def hS(a:B)(j:A6)(f:E0):AK 48 [A5 a] [BH a j f] (N f.f):=by
 refine A9.t ?_;refine J ?_;exact BE
def hW(n:B)(a:A6)(f:E0)(j:C5)(t:j.d=n)(o:BV)(l:G B)(m:Aj)(b:AE)(p:l.length=64)(q:a.d*14+1<m.c)(r:m.d<7000):
 Ay 68 [A5 n] [BH n a f,A_ f.c a j o,Bc j.c l,BG j.b a b,.u (At a f.b f.a m)] (AV ((Ga l).map W).toArray) [BH n a f,A_ f.c a j o,Bc j.c (Ga l),BG j.b a b,.u (At a f.b f.a m)]:=by
 subst t;refine A9.t ?_;intro u;refine J ?_;refine A9.b (e' f.c a j o l f m b p q r) (J ?_);refine Mw.y (p:=64) (by simp[ML p]) A (Gy _) (J ?_);refine Ms.mk (v:=AV ((Ga l).map W).toArray) ?_ ?_
 ·exact MB (l:=64) (by simp[ML p])
 refine J ?_;exact BE
def hU(n l:B)(f:A6)(a:E0)(m:Aj)(j:G M)(q:f.a<=300)(p:j[0]?=C (A5 a.b))(r:17<j.length)(o:AU):Ay 137 [P n] [.t l j 160,.t n [A5 l] o,.u (At f a.b a.a m)] (AL #[]) [.t l (j.set 17 (N (f.t:B))) 160,.t n [A5 l] o,.u (At f a.b a.a m)]:=by
 refine A9.t ?_;refine J ?_;refine Ms.mk (v:=A5 a.b) p ?_;refine J ?_;refine A9.b (ACL f a.b a.a m q) ?_;refine A7 ?_;exact BE
def hV(o:B)(a:A6)(j:E0)(f:C5)(q:BV)(y:Aj)(x t p:B)(M:a.a<=300)(z:j.e=0\/j.e=1/\j.g=(a.t:B)):
 Ay 69 [A5 o] (BH o a j::A_ j.c a f q::.u (At a j.b j.a y)::Cn f.g f.f x t p) (N (a.t:B)) (BH o a {j with e:=1,g:=(a.t:B)}::A_ j.c a f q::.u (At a j.b j.a y)::Cn f.g f.f x t p):=by
 obtain⟨n,l,m,r,u,G,F⟩:=j;rcases z with z|⟨z,P⟩
 ·obtain rfl:G=0:=z;refine A9.t ?_;intro L;refine J ?_;refine A9.w (AQ.u (D3 _ _ _)) (A9.an (er:=Og a ⟨n,l,m,r,u,0,F⟩) (o:=14) A A A (A9.u (hU L o a ⟨n,l,m,r,u,0,F⟩ y ((Og a ⟨n,l,m,r,u,0,F⟩).set (14+1) (D .i32 1)) M A (DW A) _) ?_));rintro v Q ⟨rfl,rfl⟩;refine⟨A,_,_,A,A,A,?_⟩;refine J ?_;refine A9.b (Uq l f.g f.f x t p (RK a f q) _ A) (J ?_);refine EY.b (J ?_);exact⟨_,AQ.b (g:=BH o a ⟨n,l,m,r,u,1,(a.t:B)⟩::A_ l a f q::.u (At a n m y)::Cn f.g f.f x t p),A,A⟩
 ·obtain rfl:G=1:=z;obtain rfl:F=(a.t:B):=P;refine A9.t ?_;intro L;refine J ?_;refine A9.ao (a:=o) (er:=Og a ⟨n,l,m,r,u,1,(a.t:B)⟩) A (J ?_);refine A9.b (Uq l f.g f.f x t p (RK a f q) _ A) (J ?_);refine EY.b (J ?_);exact⟨_,AQ.b (g:=BH o a ⟨n,l,m,r,u,1,(a.t:B)⟩::A_ l a f q::.u (At a n m y)::Cn f.g f.f x t p),A,A⟩
variable{yb:M}
def X0(a:l+1<=er.length)(j:yj.length=l):Bf (Bf er 0 [yb]) 1 yj=[yb]++(yj++er.drop (l+1)):=by
 cases er with
 |nil=>simp at a
 |cons m er=>
  have f:Bf (m::er) 0 [yb]=yb::er:=by rw[FN _ _ _ Y1];rfl
  rw[f,FN _ _ _ (by simp at a⊢;omega),j];show[yb]++(yj++(yb::er).drop (1+l))=_;rw[Nat.add_comm 1 l];rfl
def cI{o m n a:M}{f j:Field}(t:f.offset=0)(u:j.offset=1)(p:B9 m=[a])(q:B9 n=er)(r:l+1<=(B9 o).length)(x:er.length=l):∃y,B9 (AV (Bf (Bf (B9 o) f.offset (B9 m)) j.offset (B9 n)).toArray)=[a]++(er++y):=by
 rw[t,u,p,q];exact⟨_,X0 r x⟩
def hZ(a:B)(x:1<=a/\a<=256):Z9 267 [N a,AV EB.toArray] [] λv q=>∃j f,v=AL #[P j,N 0]/\q=[.t j ([N a]++(EB++f)) 437]:=by
 have y:=Aa ((a:F)<1);have z:=Aa ((a:F)>256);refine A9.t ?_;intro u;refine J ?_;refine E7.u (p:=32) A Y3 Y3 A A (J ?_);intro j;refine J ?_;conv=>whnf
 have t:∀(l o:G M)(n:AU),(∃f,l=[N a]++(EB++f))->∃m,AQ [.t j l 437,.t u o n] m/\∃p f,FA [P j,N 0]=AL #[P p,N 0]/\m=[.t p ([N a]++(EB++f)) 437]:=λl o n⟨f,r⟩=>by
  rw[r];exact⟨_,AQ.b,j,f,A,A⟩
 exact t _ _ _ (cI (l:=34) A A A A (DW A) A)
def gZ(a:A6)(l:a.e):AK 175 [DA a] [] (N (a.b/a.c:B)):=by
 obtain⟨q,m,r,t,u,x,y,z,G,p⟩:=l;have n:a.b/a.c<=256:=D9 (Iv _ _) m.2;obtain⟨f,j⟩:∃f,a.b/a.c=f:=⟨_,A⟩;rw[j] at n⊢;have L:=Aa ((a.c:F)<1);refine A9.t ?_;intro o;refine A' ?_;refine F'.mk ((f:B):F) (by rw[show((a.b:B):F).tdiv (a.c:F)=((a.b/a.c:B):F) from A,j];exact A3 Y) (J ?_);exact⟨[],AQ.y _,A,A⟩
def dP(m l:B)(a:G M)(p:(a.drop 0).take 128=(U 128 0).map W)(z:128<=a.length)(q:128<=l):AK 181 [Q m 128 l] [.t m a 5] (AV EB.toArray):=by
 have f:∀j,j<128->a[j]?=C (W 0):=λj r=>by
  have n:=AB (λu:G M=>u[j]?) p;simp only[CJ,Is,A8 r,D_,HH] at n;exact n
 have t:(a.drop (0+64*1)).take (32*1)=U 32 (W 0):=by
  apply Gj;intro j;rw[Is,HH];by_cases o:j<32
  ·rw[A8 Y,A8 o,List.getElem?_drop];exact f _ Y
  ·rw[A1 Y,A1 o]
 refine A9.t ?_;intro x;refine Qp.mk 64 128 l (0+64*1) A A A ⟨Z,q,AI _⟩ A (by split<;>omega) (J ?_);intro y;refine J ?_;refine Qp.mk 0 32 32 0 A A A ⟨Z,Z,Z⟩ A A (J ?_);refine Cr.aa (n:=_) A A A A A A 32 Z (U 32 (W 0)) t ⟨by show 0+64*1+32*1<=a.length;omega,DW A⟩ A (A7 ?_);refine Ms.mk (v:=W 0) (by exact f 96 Z) (J ?_);refine EY.b (J ?_);refine F'.mk 33 A (A' ?_);refine Ms.mk (v:=W 0) (by exact f 97 Z) (J ?_);refine F'.mk 0 A (J ?_);refine F'.mk 0 A (A' ?_);refine F'.mk 0 A (J ?_);refine F'.mk 0 A (J ?_);refine F'.mk 1 A (EY.b (J ?_));refine F'.mk 34 A (A' ?_);refine Ms.mk (v:=W 0) (by exact f 98 Z) (J ?_);refine F'.mk 0 A (J ?_);refine F'.mk 8 A (A' ?_);refine F'.mk 0 A (J ?_);refine F'.mk 0 A (J ?_);refine F'.mk 2 A (EY.b (J ?_));refine F'.mk 35 A (A' ?_);refine Ms.mk (v:=W 0) (by exact f 99 Z) (J ?_);refine F'.mk 0 A (J ?_);refine F'.mk 16 A (A' ?_);refine F'.mk 0 A (J ?_);refine F'.mk 0 A (J ?_);refine F'.mk 3 A (EY.b (J ?_));refine F'.mk 36 A (A' ?_);refine Ms.mk (v:=W 0) (by exact f 100 Z) (J ?_);refine F'.mk 0 A (J ?_);refine F'.mk 24 A (A' ?_);refine F'.mk 0 A (J ?_);refine F'.mk 0 A (J ?_);refine F'.mk 4 A (EY.b (J ?_));exact⟨[.t m a 5],AQ.b,A,A⟩
def AAz(f:B)(a:G B)(m:a.length=64)(l:a.getD 13 0=0):AK 266 [A5 f] [Bc f a] (AV LI.toArray):=by
 have j:=Pj f 13 3 a Z m;rw[l] at j;refine A9.t ?_;intro n;refine J ?_;refine A9.b j ?_;refine J ?_;exact BE
def BV.v:BV:=⟨0,0,I,I,-1,-1,0,A0,0,I,A0,I⟩
def fC(a:A6)(y:a.e)(u f x z:B)(p:G B)(P:p.length=64)(L:p.getD 13 0=0):
 Z9 180 [DA a,.iface 317 (AV #[A5 u]),A5 f,A5 x,AV EB.toArray] [Bc f p] λv t=>∃q n l j o m r,v=AL #[A5 q,N 0]/\t=A_ q a ⟨n,f,x,z,l,j,o,m,u⟩ BV.v::Av n ⟨0,0,0⟩::Bc f p::BG l a I::.t j ([N a.s]++(EB++r)) 437::Cn o m a.i 0 0:=by
 have Q:=y.nE;have V:=y.nF;have M:=AAz f p P L;refine A9.t ?_;intro S U;refine J ?_;refine A9.z (k' _) ?_;rintro v t ⟨n,rfl,rfl⟩;refine J ?_;intro q;refine J ?_;refine A9.b M ?_;refine J ?_;refine A9.u (UY a y) ?_;rintro v F ⟨l,rfl,rfl⟩;refine J ?_;refine A9.u (hZ a.s ⟨Q.1,Y⟩) ?_;rintro v F ⟨j,r,rfl,rfl⟩;refine J ?_;refine A9.z (ACh a.i _ Y) ?_;rintro v t ⟨o,m,rfl,rfl⟩;refine J ?_;exact⟨_,AQ.b (g:=A_ q a ⟨n,f,x,z,l,j,o,m,u⟩ BV.v::Av n ⟨0,0,0⟩::Bc f p::BG l a I::.t j ([N a.s]++(EB++r)) 437::Cn o m a.i 0 0),q,n,l,j,o,m,r,A,A⟩
def hR(j:B)(a:A6)(m:a.e)(f:G M)(l:AU)(n:f[5]?=C (N a.b))(o:f[6]?=C (N a.f)):AK 178 [A5 j] [.t j f l] (N (a.b+2*a.f:B)):=by
 obtain⟨q,r,t,u,x,y,z,L,S,p⟩:=m;refine A9.t (J ?_);refine Ms.mk n (J ?_);refine Ms.mk o (J ?_);refine F'.mk ((2*a.f:B):F) Y2 (J ?_);refine F'.mk ((a.b+2*a.f:B):F) Y2 (J ?_);exact BE
def LP:G B:=U 64 0
abbrev NM(a:A6)(m:B)(f:C5)(j:E0)(l:Aj)(n:G M):S:=BH m a j::A_ j.c a f BV.v::Av f.a ⟨0,0,0⟩::Bc f.c LP::.u (At a j.b j.a l)::.t f.h [Q f.e (a.b/a.c:B) (a.b/a.c:B)] 408::AJ f.e (U (a.b/a.c) 0) []::BG f.b a I::.t f.i ([N a.s]++(EB++n)) 437::Cn f.g f.f a.i 0 0
def V4(a:A6)(o:a.e)(l f:B)(m:Aj)(aj:1<=a.b/a.c)(av:m.e (a.b+2*a.f)=U 128 0)(az:m.b+100<=500000000):
 Z9 86 [DA a,A5 f,A5 l] [.u (At a l f m)] λv t=>∃j am P r q,v=AL #[A5 j,Hf]/\m.g r 6/\am.d=j/\P=⟨l,P.c,f,(r.a:F),0,0,0⟩/\t=NM a j am P r q:=by
 have ak:a.b/a.c<=256:=D9 (Iv _ _) o.nC.2;have ai:=gZ a o;obtain⟨u,al⟩:∃u,a.b/a.c=u:=⟨_,A⟩;rw[al] at ai aj ak;have au:a.b+2*a.f<a.a:=by have:=o.nE;unfold A6.a;omega
 refine A9.t ?_;intro ay;refine J ?_;intro j;refine J ?_;refine A9.z (AAM _) ?_;rintro v t ⟨z,rfl,rfl⟩;refine J ?_;refine A9.u (Yc a l f m 1 Z Y) ?_;rintro v p ⟨an,G,rfl,rfl⟩;have a0:=G.nA;refine J ?_;refine A9.b ai (J ?_);refine A9.z (W0 u _ ⟨aj,ak⟩) ?_;rintro v t ⟨x,y,rfl,rfl⟩;refine J ?_;refine A9.u (Yc a l f an 2 Z Y) ?_;rintro v p ⟨ao,L,rfl,rfl⟩;have a1:=L.nA;refine J ?_;refine A9.b (hR j a o [A5 l,T E,N 70,N a.d,N 128,N a.b,N a.f,N a.s,N a.c,N a.i,N a.u,A5 f,N 0,N 0,D Ax 0,D .i32 0,D Ax 0,N 0] _ A A) (J ?_);refine A9.u (Yl a l f ao (a.b+2*a.f) au Y) ?_;rintro v p ⟨aq,Q,n,ah,M,a3,rfl,rfl⟩;have a2:=ah.nA;rw[L.nE,G.nE,av] at M;refine J ?_;have ar:128<=Q.length:=by
  have ap:=AB List.length M;rw[List.length_take,DV,BW,BI] at ap;omega
 refine A9.b (dP aq 128 Q M ar (AI _)) ?_;refine J ?_;refine A9.u (fC a o j z x y LP A A) ?_;rintro v p ⟨W,af,V,S,ag,aa,q,rfl,rfl⟩;refine J ?_;refine A9.u (Pu a l f n) ?_;rintro v p ⟨aw,ax,rfl,rfl⟩;refine J ?_;subst al;exact⟨_,AQ.b (g:=NM a j ⟨af,z,x,y,V,S,ag,aa,j⟩ ⟨l,W,f,(n.a:F),0,0,0⟩ n q),j,⟨af,z,x,y,V,S,ag,aa,j⟩,⟨l,W,f,(n.a:F),0,0,0⟩,n,q,A,(G.nG L).nG ah,A,A,A⟩
def Em(f:B)(a:A6):C0:=HW λb:AE=>[BG f a b]
def b7(a:A6)(o:a.e)(j f:B)(m:f<a.a)(b:AE):Ay 85 [A5 j,N f] [BG j a b] (X (a.v f)) [BG j a R]:=by
 unfold A6.a at m;unfold A6.v;refine A9.t (J ?_);refine A9.u (bU a o j f m b) ?_;rintro v p ⟨q,r,rfl,rfl,⟨rfl,n⟩|⟨rfl|rfl|rfl,n⟩⟩
 ·have l:=F2 (show¬a.b<=f by omega);refine A' ?_;refine F'.mk 0 A (J ?_);refine F'.mk 0 A (J ?_);exact⟨_,AQ.b,by rw[l];rfl,A⟩
 all_goals
  have l:=DH n;refine J ?_;exact⟨_,AQ.b,by rw[l];rfl,A⟩
def UQ(a:A6)(l:a.e)(f j:B)(m:j<a.a):AK 85 ([A5 f]++[AD j]++[]) [.u (Em f a)] (X (a.v j)):=by
 exact A9.ae λb=>A9.aa (A9.ab (b7 a l f j m b) ⟨_,AQ.ad (λb:AE=>[BG f a b]) R (Bi _),A,A⟩)
def Uw(a:A6):AK 81 [DA a] [] (N 3):=by
 refine A9.t ?_;intro f;refine J ?_;refine F'.mk 192 A (J ?_);refine A9.b (Sy 192 64 Z Z) (J ?_);exact⟨[],AQ.y _,A,A⟩
def cQ(a:A6)(j:a.e):Z9 42 [DA a] [] λv l=>∃f,v=AL #[A5 f,N 0]/\l=[.u (CB f (Bl.ac a.d))]:=by
 refine A9.t ?_;intro n;refine J ?_;refine A9.b (P3 a j) ?_;refine J ?_;refine A9.b (Uw a) ?_;refine J ?_;refine A9.u (j8 a.d j.nA) ?_;rintro v m ⟨f,rfl,rfl⟩;refine J ?_;exact⟨[.u (CB f (Bl.ac a.d))],AQ.b,f,A,A⟩
def V1(l:A6)(p:l.e)(f:B)(a:Bl)(n:a.ab):Z9 82 [DA l,A5 f] [.u (CB f a)] λv o=>∃j m,v=AL #[A5 j,Hf]/\o=AX.b j f ⟨a,0⟩ m:=by
 refine A9.t ?_;intro r;refine J ?_;refine A9.b (P3 l p) ?_;refine J ?_;refine F'.mk 192 A ?_;refine J ?_;refine A9.u (iM f a n) ?_;rintro v q ⟨j,m,rfl,rfl⟩;refine J ?_;refine A9.b (LJ f a n) ?_;refine J ?_;refine A9.b (Uw l) ?_;refine J ?_;exact⟨AX.b j f ⟨a,0⟩ m,AQ.b,j,m,A,A⟩
def g8(a l:B)(f:a=8\/a=16):C3 l ⟨Bl.ac a,0⟩ a (U 70 ⟨I,[]⟩) 0 0 0:=by
 refine⟨Vt a f,A,A,BI,λb n=>?_,A,A,A,?_,AT A,?_,⟨Af _,Af _,Af _⟩⟩
 ·show((Bl.ac a).j b).b=_/\OV ((Bl.ac a).j b).a _;rw[P0,K.ib];exact⟨A,A,λo m j=>by simp at j⟩
 ·show(0:F)<=0/\(0:F)<=_;omega
 ·show(0:F)<=0/\(0:F)<=_;omega
def d4(a:A6)(m:a.e)(l:B)(af:1<=a.b/a.c):Z9 43 [DA a,A5 l] [.u (CB l (Bl.ac a.d))]
 λv P=>∃n q j f t,v=AL #[A5 n,Hf]/\f.b<=5000/\f.c=a.z/\f.d=14/\f.a<=20/\f.e=(λ_=>U 128 0)/\q.d=n/\j.a=l/\j=⟨j.b,j.c,l,(f.a:F),0,0,0⟩/\P=NM a n q j f t:=by
 obtain⟨M,N,ah,L⟩:=K.ur m;refine A9.t ?_;intro V;refine J ?_;refine A9.u (V1 a m l (Bl.ac a.d) (Vt a.d m.nA)) ?_;rintro v u ⟨Y,W,rfl,rfl⟩;refine J ?_;refine A9.u (UY a m) ?_;rintro v u ⟨o,rfl,rfl⟩;refine J ?_;have z:=g0 a m Y l W ⟨Bl.ac a.d,0⟩ 0 (g8 a.d 0 m.nA) Z (Em o a) 85 _ [A5 o] [] A a.v (λj r=>UQ a m o j r);obtain⟨x,G⟩:∃x,K.iu 128 a.d a.a 70 a.h a.v=x:=⟨_,A⟩;rw[G] at L z;clear G;refine A9.w (AQ.ad (λb:AE=>[BG o a b]) I (Bi _)) (A9.u z ?_);rintro v u ⟨y,ak,Q,rfl,⟨al,aa,am,_⟩,ai,rfl⟩;refine J ?_;refine A9.w (a:=.u (At a y l ⟨0+4000,a.z,M,N,14,λ_=>U 128 0⟩)::[.u (Em o a),.t V (B9 (DA a)) 27]) ?_ ?_
 ·exact JU (xr:=ak) (n:=x) (yf:=Q) ⟨ai,aa,L.nD _⟩ List.perm_middle.symm
 refine A9.u (V4 a m y l ⟨0+4000,a.z,M,N,14,λ_=>U 128 0⟩ af A Y6) ?_;rintro v u ⟨n,q,j,f,t,rfl,p,aj,r,rfl⟩;refine J ?_;have ag:=p.nA;have S:j.a=l:=by rw[r]
 exact⟨_,AQ.b (g:=NM a n q j f t),n,q,j,f,t,A,by have:f.b<=0+4000+6:=ag;omega,p.nD,p.nC,by rw[p.nB];exact ah,p.nE,aj,S,by rw[r],A⟩
structure Lp where
 b:K
 a:Bl
structure Lp.c(a:Lp)(j:A6)(f:Aj)(nB:AE):Prop where
 nC:K.ad f.b a.b
 nD:a.b.el j f
 nA:C3 f.b ⟨{a.a with x:=I},0⟩ a.b.i a.b.ab a.b.bd a.b.u a.b.bv
 nB:a.a.x=nB
def IR(j:A6)(l:B)(f:Aj)(m:AE):C0:=HW λa:{a:Lp//a.c j f m}=>[.u (CB l a.1.a)]
variable{xx:Am}{yh:Type}
def A9.ah{args:G M}{f:yh->S}(j:∀a,A9 xx l args (f a) xv):A9 xx l args [.u (HW f)] xv:=A9.ae λa=>by rw[B1];exact j a
variable{np xu yi:B}{yt:Bl}{ya:F}
def Xt{j:G D4}(m:C3 l ⟨yt,ya⟩ p j np xu yi)(a:F)(o:AE)(M:0<=a/\a<=9000000000000000000)(Y:a=0\/1000000000000<=a):C3 l ⟨{{yt with x:=o,u:=a} with x:=I},0⟩ p j np xu yi:=by
 obtain⟨⟨N,P,Z,Q,S⟩,q,W,r,t,y,z,L,f,U,V,n⟩:=m;refine⟨⟨N,P,M,Q,S⟩,q,A,r,t,y,z,L,f,?_,?_,n⟩
 ·show a=0\/1000000000000<=a+yt.w;have f:0<=yt.w/\_:=f;omega
 ·show(0:F)<=0/\(0:F)<=_;omega
def AAr(n:A6)(t l:B)(j:Aj):Z9 18 [A5 l] [.u (At n t l j)] λv r=>r=[.u (IR n l j R)]:=by
 refine A9.ah λ⟨⟨f,q,a⟩,m,o,y⟩=>A9.aa ?_;have o:f.c=l:=o;have m:BB j.b f q a:=m;subst o;refine A9.ad (dQ f.c a.a) Y0 (λv F z=>?_);subst z;refine⟨_,(AQ.ab (a:=[.u (CB f.c {a.a with x:=R,u:=0})]) Y0).t (AQ.ad (λp:{p:Lp//p.c n j R}=>[.u (CB f.c p.1.a)]) ⟨⟨q,{a.a with x:=R,u:=0}⟩,m.a,y,Xt (yt:=a.a) (ya:=a.c) m.c 0 R ⟨Z,Z⟩ (AT A),A⟩ (Bi _)),A⟩
def AB2(j:A6)(a:B)(f:Aj):Z9 45 [A5 a] [.u (IR j a f R)] λv n=>n=[.u (IR j a f I)]:=by
 refine A9.ah λ⟨⟨t,m⟩,o,p,q,y⟩=>A9.aa (A9.z (jN a m) λv u r=>?_);subst r;exact⟨_,AQ.ad (λl:{l:Lp//l.c j f I}=>[.u (CB a l.1.a)]) ⟨⟨t,{m with x:=I}⟩,o,p,q,A⟩ (Bi _),A⟩
def AAh(l:A6)(a:B)(j:Aj):Z9 17 [A5 a,N 1099511627776] [.u (IR l a j I)] λv o=>o=[.u (IR l a j I)]:=by
 refine A9.ah λ⟨⟨y,f⟩,p,q,r,m⟩=>A9.aa (A9.z (Ub a f 1099511627776 Z) λv z t=>?_);subst t;have m:f.x=I:=m;refine⟨_,AQ.ad (λn:{n:Lp//n.c l j I}=>[.u (CB a n.1.a)]) ⟨⟨y,{f with u:=(1099511627776:B)}⟩,p,q,?_,m⟩ (Bi _),A⟩;have:=Xt (yt:={f with x:=I}) (ya:=0) r 1099511627776 I ⟨Z,Z⟩ (Ae Z);exact this
def ABt(p:A6)(o n:B)(j:Aj):Z9 17 [A5 n,N 1099511627776] [.u (At p o n j)] λv r=>r=[.u (At p o n j)]:=by
 refine A9.ah λ⟨⟨m,f,a⟩,l,q,V⟩=>A9.aa ?_;have q:m.c=n:=q;have l:BB j.b m f a:=l;subst q;refine A9.ad (Ub m.c a.a 1099511627776 Z) Y0 (λv ah W=>?_);subst W;have U:C3 j.b ⟨{a.a with u:=(1099511627776:B)},a.c⟩ f.i f.ab f.bd f.u f.bv:=by
  obtain⟨⟨Y,aa,aj,af,ag⟩,y,z,G,L,M,P,Q,S,ai,t,x⟩:=l.c;refine⟨⟨Y,aa,⟨by show(0:F)<=1099511627776;decide,by show(1099511627776:F)<=9000000000000000000;decide⟩,af,ag⟩,y,z,G,L,M,P,Q,S,Ae ?_,t,x⟩;show(1000000000000:F)<=1099511627776+a.a.w;omega
 exact⟨[.u (At p o m.c j)],(AQ.ab (a:=m.a o f ⟨{a.a with u:=(1099511627776:B)},a.c⟩) Y0).t (JU ⟨⟨l.a,l.b,U⟩,A,V⟩ (Bi _)),A⟩
def ABx(j:A6)(P:j.e)(o x m:B)(a:Aj)(Z:a.b+1000<=500000000):
 Z9 94 [A5 o,.func (.func 85) #[A5 m] #[]] [.u (Em m j),.u (At j o x a)] λv L=>∃G,a.g G 300/\v=N 0/\L=[.u (Em m j),.u (At j o x G)]:=by
 refine A9.w (AQ.u (D3 _ _ _)) (A9.ae λ⟨⟨t,l,u⟩,q,y,n⟩=>A9.aa ?_);have q:BB a.b t l u:=q;have n:l.el j a:=n;have y:t.c=x:=y;have z:=n.nA;refine A9.w (a:=.u (Em m j)::t.a o l u) (AQ.u (Cj (l₂:=[BL.u (Em m j)]))) ?_;have U:=eL o a.b t l u q Z (Em m j) 85 _ [A5 m] [] A j.v (λr p=>UQ j P m r (by rw[<-z];exact p)) (λr p=>(n.nR (by rw[<-z];exact p)).symm) (λr ag p aa Y=>by rw[<-n.nO r ag p aa];exact Y);obtain⟨F,ah,au,W⟩:=K.uz q.a n;have ar:l.t<=300:=by
  rw[z];unfold A6.a;obtain⟨Q,S,ak,al,am,an,ao,ap,aq,aj⟩:=P;omega
 obtain⟨M,V⟩:∃M,l.ex l.t=M:=⟨_,A⟩;rw[V] at U W;clear V;refine A9.z U λv L af=>?_;obtain⟨av,ai,Q,S,rfl,rfl⟩:=af;refine⟨_,AQ.z _ (JU (xy:={a with b:=a.b+l.t,f:=F}) ⟨S,by rw[Q.c.1];exact y,W.nD _⟩ (Bi _)),{a with b:=a.b+l.t,f:=F},⟨A,A,A,A,?_,ah,by show F<=_;omega⟩,A,A⟩;show a.b+l.t<=_;omega
abbrev PB(a:A6)(m:B)(f:C5)(j:E0)(l:Aj)(n:G M):S:=BH m a j::A_ j.c a f BV.v::Av f.a ⟨0,0,0⟩::Bc f.c LP::.u (At a j.b j.a l)::.t f.h [Q f.e (a.b/a.c:B) (a.b/a.c:B)] 408::AJ f.e (U (a.b/a.c) 0) []::.u (Em f.b a)::.t f.i ([N a.s]++(EB++n)) 437::Cn f.g f.f a.i 0 0
def bY(a:B)(j:A6)(f:C5)(l:BV):AK 95 [A5 a] [A_ a j f l] (A5 f.b):=by
 refine A9.t ?_;refine J ?_;exact BE
structure Aj.i(a f:Aj):Prop where
 nB:f.e=a.e
 nE:f.c+28=a.c
 nC:f.d=a.d+4
 nD:f.b<=a.b+20000
 nA:a.a<=f.a/\f.a<=a.a+12
def dO(j:A6)(aa:j.e)(bm:j.ac)(n:B)(m:Aj)(bf:1<=j.b/j.c)(a5:m.e (j.b+2*j.f)=U 128 0)(bh:j.d*14+64<=m.c)(ca:m.b<=200000000)(b9:m.d<=7000):
 Z9 46 [DA j,A5 n] [.u (IR j n m I)] λv a7=>∃ai l L q M t,v=AL #[A5 ai,Hf]/\m.i q/\l.d=ai/\L=⟨L.b,L.c,n,(q.a:F),t,0,0⟩/\(0<=t/\t<=276)/\a7=PB j ai l L q M:=by
 refine A9.ah λ⟨⟨o,u⟩,an,af,z,ao⟩=>A9.aa ?_;have an:K.ad m.b o:=an;have af:o.el j m:=af;have ao:u.x=I:=ao;have z:C3 m.b ⟨u,0⟩ o.i o.ab o.bd o.u o.bv:=by
  have ak:({u with x:=I}:Bl)=u:=by rw[<-ao]
  have:=z;rwa[show({(⟨o,u⟩:Lp).a with x:=I}:Bl)=u from ak] at this
 rw[af.nC] at z;obtain⟨a1,az,a2,au⟩:=K.us (l:=m.b+7000) aa bm (an.nE Y) af bh Y Y;have z:=z.b (show m.b<=m.b+7000 by omega);have bn:u.v=(o.u:F):=z.i;have b8:=z.g;have ap:=λam al=>jQ j aa am n al (m.b+7000) ⟨u,0⟩ az o.ab o.bd o.u o.bv z Y a1 a2;obtain⟨aj,a3⟩:∃aj,Bw (ET j o.ab o.bd o.u o.bv) 70=aj:=⟨_,A⟩;rw[a3] at ap au;clear a3 a2;refine A9.y ?_;intro bd;refine J ?_;refine A9.u (V1 j aa n u z.d) ?_;rintro v W ⟨am,al,rfl,rfl⟩;refine J ?_;refine A9.b (Oj n u) ?_;rw[bn];refine J ?_;refine A9.u (ap am al) ?_;rintro v W ⟨r,a6,ay,a0,bj,bk,⟨cb,b3,b2,b4,bo⟩,av,rfl,rfl⟩;refine J ?_;obtain⟨aw,ax,cc,cd,ce,cg,ar⟩:=au a6 bj bk;obtain⟨Z,aq⟩:∃Z,az.e aj a6=Z:=⟨_,A⟩;rw[aq] at ar av;rw[aq];have bi:ay.c=n:=by
  have ak:=bo.b;exact ak
 have be:({m with b:=m.b+7000+10000,c:=m.c-28,a:=aw,f:=ax,d:=m.d+4}:Aj).b=m.b+7000+10000:=A;obtain⟨p,ag⟩:∃p:Aj,p={m with b:=m.b+7000+10000,c:=m.c-28,a:=aw,f:=ax,d:=m.d+4}:=⟨_,A⟩;have bg:Z.el j p:=by rw[ag];exact ar.nD _
 have bp:BB p.b ay Z a0:=by rw[ag];exact av
 have br:p.e (j.b+2*j.f)=U 128 0:=by rw[ag];exact a5
 have a8:p.e=m.e/\p.c=m.c-28/\p.d=m.d+4/\p.b=m.b+7000+10000/\p.f=ax/\p.a=aw:=by rw[ag];exact⟨A,A,A,A,A,A⟩
 obtain⟨bc,ba,a9,bx,b1,bb⟩:=a8;clear ag be ar av a5 aq ap au a1;refine A9.w (a:=.u (At j r n p)::[.t bd (B9 (DA j)) 27]) ?_ ?_
 ·exact JU (xr:=ay) (n:=Z) (yf:=a0) ⟨bp,bi,bg⟩ (Bi _)
 refine A9.u (V4 j aa r n p bf br Y) ?_;rintro v W ⟨ai,l,L,q,M,rfl,G,bq,a4,rfl⟩;have b5:=G.nA;have b6:=G.nH;obtain⟨y,rfl⟩:∃y,L=⟨r,y,n,(q.a:F),0,0,0⟩:=⟨_,a4⟩;subst bq;clear a4;refine J ?_;refine A9.u (Pu j r n q) ?_;rintro v W ⟨bs,bu,rfl,rfl⟩;refine J ?_;refine F'.mk ((q.f:F)-o.u) (A3 Y) (J ?_);refine A9.b (bY y j l BV.v) (J ?_);obtain⟨t,bl⟩:∃t,((q.f:F)-o.u)=t:=⟨_,A⟩;rw[bl];refine A9.w (a:=.u (Em l.b j)::.u (At j r n q)::BH l.d j ⟨r,y,n,(q.a:F),t,0,0⟩::A_ y j l BV.v::Av l.a ⟨0,0,0⟩::Bc l.c LP::.t l.h [Q l.e (j.b/j.c:B) (j.b/j.c:B)] 408::AJ l.e (U (j.b/j.c) 0) []::.t l.i ([N j.s]++(EB++M)) 437::Cn l.g l.f j.i 0 0) ?_ ?_
 ·exact(AQ.b (g:=BG l.b j I::.u (At j r n q)::BH l.d j ⟨r,y,n,(q.a:F),t,0,0⟩::A_ y j l BV.v::Av l.a ⟨0,0,0⟩::Bc l.c LP::.t l.h [Q l.e (j.b/j.c:B) (j.b/j.c:B)] 408::AJ l.e (U (j.b/j.c) 0) []::.t l.i ([N j.s]++(EB++M)) 437::Cn l.g l.f j.i 0 0)).t (AQ.ad (λb:AE=>[BG l.b j b]) I (Bi _))
 refine A9.u (ABx j aa r n l.b q Y) ?_;rintro v W ⟨S,ah,rfl,rfl⟩;have b7:=ah.nA;refine J ?_;refine A9.u (Pu j r n S) ?_;rintro v W ⟨bt,bv,rfl,rfl⟩;refine J ?_;exact⟨_,AQ.b (g:=PB j l.d l ⟨r,y,n,(S.a:F),t,0,0⟩ S M),l.d,l,⟨r,y,n,(S.a:F),t,0,0⟩,S,M,t,A,⟨by rw[ah.nE,G.nE,bc],by rw[ah.nD,G.nD,ba];omega,by rw[ah.nC,G.nC,a9],Y,by rw[ah.nB,G.nB,bb];have:=af.nH;omega⟩,A,A,Y,A⟩
section
open Go Go.RowKit Go.Maps
def LK(a:F)(f:AE):F×AE:=if a=7 then(if f then 4 else 3,R) else if a=9\/a=13 then(3,f) else(3,I)
def KF:G F:=[6,8,17,18,23,28,29,30,35,36,38]
def Ih(a:F)(f:AE):F×AE:=if a=7 then(if f then(4,I) else(3,R)) else if a=13 then(4,f) else if a∈KF then(4,R) else if a=24\/a=25 then(6,R) else(4,I)
def ABf(a:F)(f:AE)(o:AG):
 CL An 309 #[N a,X f] o λp w'=>p=BT (AL #[N (LK a f).1,X (LK a f).2])/\o=w':=by
 by_cases j:a=7
 ·subst j;cases f
  ·go_enter Pz,Q0;go_wp2;go_ret2;exact⟨A,A⟩
  ·go_enter Pz,Q0;go_wp2;go_ret2;exact⟨A,A⟩
 ·by_cases m:a=9
  ·subst m;go_enter Pz,Q0;go_wp2;go_ret2;exact⟨A,A⟩
  ·by_cases l:a=13
   ·subst l;go_enter Pz,Q0;go_wp2;go_ret2;exact⟨A,A⟩
   ·have n:LK a f=(3,I):=by unfold LK;rw[A1 j,A1 Y]
    rw[n];have r:(a==7)=I:=by simpa using j
    have t:(a==9)=I:=by simpa using m
    have q:(a==13)=I:=by simpa using l
    clear j m l n;go_enter Pz,Q0;go_wp2;go_ret2;exact⟨A,A⟩
def ACN(a:F)(f:AE)(l:AG)(j:a∈[7,13,24,25]++KF):
 CL An 310 #[N a,X f] l λm w'=>m=BT (AL #[N (Ih a f).1,X (Ih a f).2])/\l=w':=by
 simp only[KF,C2,Ef,Eh,DU,Bz] at j;rcases j with rfl|rfl|rfl|rfl|rfl|rfl|rfl|rfl|rfl|rfl|rfl|rfl|rfl|rfl|rfl<;>cases f<;>
  (go_enter ADQ,ADY
   go_wp2;go_ret2;exact⟨A,A⟩)
def ACM(a:F)(j:AE)(m:AG):
 CL An 310 #[N a,X j] m λS w'=>S=BT (AL #[N (Ih a j).1,X (Ih a j).2])/\m=w':=by
 by_cases f:a∈[7,13,24,25]++KF
 ·exact ACN a j m f
 ·have n:Ih a j=(4,I):=by
   simp only[Bs,C2,Ef,Eh,QP] at f;unfold Ih;rw[A1 Y,A1 Y,A1 f.2,A1 Y]
  rw[n];simp only[KF,C2,Ef,Eh,QP,DU,Bz] at f;have b:∀l:F,a≠l->(a==l)=I:=λl f=>by simpa using f
  obtain⟨o,y,z,B,G,L,M,P,Q,p,q,r,t,u,x⟩:=f;have U:=b _ o;have ah:=b _ y;have ai:=b _ z;have aj:=b _ B;have ak:=b _ G;have al:=b _ L;have am:=b _ M;have an:=b _ P;have ao:=b _ Q;have V:=b _ p;have W:=b _ q;have Z:=b _ r;have aa:=b _ t;have af:=b _ u;have ag:=b _ x;clear o y z B G L M P Q p q r t u x b n;go_enter ADQ,ADY;go_wp2;go_ret2;exact⟨A,A⟩
def Et(a f:F)(j:AE):F×AE:=
 if a∈D7 then(if f=0 then(0,R)
  else if a=0 then(if f=1 then(1,R) else(a,I))
  else if a=1 then(if f=2 then(2,R) else(a,I))
  else if a=2 then(if f=3 then(3,R) else(a,I))
  else if a=3 then LK f j
  else if a=4 then Ih f j
  else(if f=12 then(4,R) else(a,(f==13)&&j)))
 else(a,I)
def AF6{P:Prop}(h:P:=by simp[EJ,Ds,Ed];omega):P:=h
def AAN(p a:F)(j:AE):Et p a j=B5 p a j:=by
 unfold Et B5;by_cases l:p∈D7
 ·rw[A8 l,A8 l];by_cases o:a=0
  ·rw[A8 o,A8 o]
  ·rw[A1 o,A1 o];simp only[D7,C2,Ef,Eh] at l;rcases l with rfl|rfl|rfl|rfl|rfl|rfl
   ·by_cases f:a=1
    ·subst f;rfl
    ·have:EJ 0 a=E:=AF6;rw[this];simp[f]
   ·by_cases f:a=2
    ·subst f;rfl
    ·have:EJ 1 a=E:=AF6;rw[this];simp[f]
   ·by_cases f:a=3
    ·subst f;rfl
    ·have:EJ 2 a=E:=AF6;rw[this];simp[f]
   ·by_cases f:a=7
    ·subst f;cases j<;>rfl
    ·by_cases n:a=9
     ·subst n;cases j<;>rfl
     ·by_cases q:a=13
      ·subst q;cases j<;>rfl
      ·have:EJ 3 a=E:=AF6;rw[this];simp[LK,f,n,q]
   ·by_cases m:a∈[7,13,24,25]++KF
    ·simp only[KF,C2,Ef,Eh,DU,Bz] at m;rcases m with rfl|rfl|rfl|rfl|rfl|rfl|rfl|rfl|rfl|rfl|rfl|rfl|rfl|rfl|rfl<;>cases j<;>rfl
    ·have t:Ih a j=(4,I):=by
      simp only[Bs,C2,Ef,Eh,QP] at m;unfold Ih;rw[A1 Y,A1 Y,A1 m.2,A1 Y]
     have:EJ 4 a=E:=by
      simp only[KF,C2,Ef,Eh,QP,DU,Bz] at m;simp[EJ,Ds,Ed];omega
     rw[this];simp[t]
   ·by_cases f:a=12
    ·subst f;rfl
    ·by_cases n:a=13
     ·subst n;cases j<;>rfl
     ·have:EJ 6 a=E:=AF6;have r:(a==13)=I:=by simpa using n
      rw[this];simp[f,r]
 ·rw[A1 l,A1 l]
def AAQ(n a:F)(m:AE)(M:AG):
 CL An 224 #[N n,N a,X m] M λt w'=>t=BT (AL #[N (Et n a m).1,X (Et n a m).2])/\M=w':=by
 by_cases o:n∈D7
 ·by_cases l:a=0
  ·subst l;simp only[D7,C2,Ef,Eh] at o;rcases o with rfl|rfl|rfl|rfl|rfl|rfl
   ·have p:Le:=AA;go_enter Fp,Fq;go_wp2_with (fail);go_ret2;exact⟨A,A⟩
   ·have p:Le:=AA;go_enter Fp,Fq;go_wp2_with (fail);go_ret2;exact⟨A,A⟩
   ·have p:Le:=AA;go_enter Fp,Fq;go_wp2_with (fail);go_ret2;exact⟨A,A⟩
   ·have p:Le:=AA;go_enter Fp,Fq;go_wp2_with (fail);go_ret2;exact⟨A,A⟩
   ·have p:Le:=AA;go_enter Fp,Fq;go_wp2_with (fail);go_ret2;exact⟨A,A⟩
   ·have p:Le:=AA;go_enter Fp,Fq;go_wp2_with (fail);go_ret2;exact⟨A,A⟩
  ·have Q:(a==0)=I:=by simpa using l
   simp only[D7,C2,Ef,Eh] at o;rcases o with rfl|rfl|rfl|rfl|rfl|rfl
   ·by_cases j:a=1
    ·subst j;go_enter Fp,Fq;go_wp2_with (fail);go_ret2;exact⟨A,A⟩
    ·have r:(a==1)=I:=by simpa using j
     have f:Et 0 a m=(0,I):=by unfold Et;simp[D7,l,j]
     rw[f];clear l j f;go_enter Fp,Fq;go_wp2_with (fail);go_ret2;exact⟨A,A⟩
   ·by_cases j:a=2
    ·subst j;go_enter Fp,Fq;go_wp2_with (fail);go_ret2;exact⟨A,A⟩
    ·have r:(a==2)=I:=by simpa using j
     have f:Et 1 a m=(1,I):=by unfold Et;simp[D7,l,j]
     rw[f];clear l j f;go_enter Fp,Fq;go_wp2_with (fail);go_ret2;exact⟨A,A⟩
   ·by_cases j:a=3
    ·subst j;go_enter Fp,Fq;go_wp2_with (fail);go_ret2;exact⟨A,A⟩
    ·have r:(a==3)=I:=by simpa using j
     have f:Et 2 a m=(2,I):=by unfold Et;simp[D7,l,j]
     rw[f];clear l j f;go_enter Fp,Fq;go_wp2_with (fail);go_ret2;exact⟨A,A⟩
   ·have f:Et 3 a m=LK a m:=by unfold Et;simp[D7,l]
    rw[f];clear l f;go_enter Fp,Fq;go_wp2_with (go_at_call 309;refine(ABf _ _ _).mono ?_;rintro t w' ⟨rfl,rfl⟩);go_ret2;exact⟨A,A⟩
   ·have f:Et 4 a m=Ih a m:=by unfold Et;simp[D7,l]
    rw[f];clear l f;go_enter Fp,Fq;go_wp2_with (go_at_call 310;refine(ACM _ _ _).mono ?_;rintro t w' ⟨rfl,rfl⟩);go_ret2;exact⟨A,A⟩
   ·by_cases j:a=12
    ·subst j;go_enter Fp,Fq;go_wp2_with (fail);go_ret2;exact⟨A,A⟩
    ·have r:(a==12)=I:=by simpa using j
     by_cases q:a=13
     ·subst q;have f:Et 6 13 m=(6,m):=by unfold Et;simp[D7]
      rw[f];clear l j f;go_enter Fp,Fq;go_wp2_with (fail);go_ret2;exact⟨A,A⟩
     ·have S:(a==13)=I:=by simpa using q
      have f:Et 6 a m=(6,I):=by unfold Et;simp[D7,l,j,q]
      rw[f];clear l j q f;go_enter Fp,Fq;go_wp2_with (fail);go_ret2;exact⟨A,A⟩
 ·have f:Et n a m=(n,I):=by unfold Et;simp[o]
  rw[f];simp only[D7,C2,Ef,Eh,QP] at o;obtain⟨x,y,z,B,G,L⟩:=o;have b:∀u:F,n≠u->(n==u)=I:=λu P=>by simpa using P
  have U:=b _ x;have V:=b _ y;have W:=b _ z;have Y:=b _ B;have Z:=b _ G;have aa:=b _ L;clear x y z B G L b f;go_enter Fp,Fq;go_wp2_with (fail);go_ret2;exact⟨A,A⟩
def AAO(j a:F)(f:AE)(l:AG):
 CL An 224 #[N j,N a,X f] l λm n=>m=BT (AL #[N (B5 j a f).1,X (B5 j a f).2])/\l=n:=by
 rw[<-AAN];exact AAQ j a f l
end
abbrev Aq(f:B)(a:B4):BL:=.t f [N a.a,N a.f,D Q_ a.d] 39
def Xe(j a:B)(f:AE)(l:S):AK 224 [N j,N a,X f] l (AL #[N (B5 j a f).1,X (B5 j a f).2]):=
 A9.ak (λm _=>AAO j a f m) ⟨A,A⟩
def Xd(f arg:B)(a:B4)(j:arg<4294967296):AK 225 [A5 f,D Ax arg] [Aq f a] (X (a.b arg)):=by
 refine A9.t (J ?_);refine Mt.mk Z (F'.mk ((arg/65536:B):F) (MR arg) ?_);refine J ?_;refine F'.mk ((arg/65536:B):F) AF3 (J ?_);exact⟨_,AQ.b,AB X (N4 (arg/65536) a.d),A⟩
def JQ(f j arg:B)(a:B4)(l:arg<4294967296):AK 140 [A5 f,N j,D Ax arg] [Aq f a] (X (B5 a.a j (a.b arg)).2):=by
 refine A9.t ?_;refine J ?_;refine A9.b (Xd f arg a l) ?_;refine J ?_;refine A9.ab (Xe a.a j (a.b arg) _) (J ?_);exact BE
def JP(L l arg a:B)(u:B4)(aj:arg<4294967296)(M:B5 u.a l (u.b arg)=((a:F),R))(p:AE)(r:B4)(aa:u.e l arg=(p,R,r)):Ay 141 [A5 L,N l,D Ax arg] [Aq L u] (AL #[X p,X R]) [Aq L r]:=by
 have W:u.e l arg=(l !=0&&(l !=7||u.b arg),R,if l=3 then⟨(u.c a).a,arg/65536,(u.c a).f⟩ else u.c a):=by
  unfold B4.e;rw[M];rfl
 rw[W,F0,F0] at aa;obtain⟨f,-,j⟩:=aa;have n:=Xd L arg u aj;obtain⟨z,af⟩:∃z,u.b arg=z:=⟨_,A⟩;rw[af] at n M f;clear W af;obtain⟨m,o,y⟩:=u;have t:=Xe m l z;rw[M] at t;clear M;have al:(a=m/\(B4.c ⟨m,o,y⟩ a)=⟨m,o,y⟩)\/(a≠m/\a=6/\(B4.c ⟨m,o,y⟩ a)=⟨6,o,1⟩)\/(a≠m/\a≠6/\(B4.c ⟨m,o,y⟩ a)=⟨a,o,0⟩):=by
  unfold B4.c;by_cases G:a=m
  ·exact AT ⟨G,by subst G;simp⟩
  ·by_cases P:a=6
   ·exact Ae (AT ⟨G,P,by subst P;simp[Ne.symm G]⟩)
   ·exact Ae (Ae ⟨G,P,by simp[Ne.symm G,P]⟩)
 have ak:l=0\/l=7\/l=3\/(l≠0/\l≠7/\l≠3):=Y;rcases ak with rfl|rfl|rfl|⟨Q,U,S⟩<;>rcases al with⟨rfl,q⟩|⟨am,rfl,q⟩|⟨am,an,q⟩
 ·have f:p=I:=by rw[<-f];rfl
  have j:r=⟨a,o,y⟩:=by rw[<-j,q];exact A1 Z
  subst f j;have x:((a:F)!=(a:F))=I:=Y1;refine A9.t ?_;refine J ?_;refine A9.b n (J ?_);refine A9.ab (t _) (J ?_);exact BE
 ·have f:p=I:=by rw[<-f];rfl
  have j:r=⟨6,o,1⟩:=by rw[<-j,q];exact A1 Z
  subst f j;have x:(((6:B):F)!=(m:F))=R:=Y8;refine A9.t ?_;refine J ?_;refine A9.b n (J ?_);refine A9.ab (t _) (J ?_);exact BE
 ·have f:p=I:=by rw[<-f];rfl
  have j:r=⟨a,o,0⟩:=by rw[<-j,q];exact A1 Z
  subst f j;have x:((a:F)!=(m:F))=R:=Y8;have V:((a:F)==6)=I:=Y9;refine A9.t ?_;refine J ?_;refine A9.b n (J ?_);refine A9.ab (t _) (J ?_);exact BE
 ·have f:p=z:=by rw[<-f];rfl
  have j:r=⟨a,o,y⟩:=by rw[<-j,q];exact A1 Z
  subst f j;have x:((a:F)!=(a:F))=I:=Y1;refine A9.t ?_;refine J ?_;refine A9.b n (J ?_);refine A9.ab (t _) (J ?_);refine A9.b n (J ?_);exact BE
 ·have f:p=z:=by rw[<-f];rfl
  have j:r=⟨6,o,1⟩:=by rw[<-j,q];exact A1 Z
  subst f j;have x:(((6:B):F)!=(m:F))=R:=Y8;refine A9.t ?_;refine J ?_;refine A9.b n (J ?_);refine A9.ab (t _) (J ?_);refine A9.b n (J ?_);exact BE
 ·have f:p=z:=by rw[<-f];rfl
  have j:r=⟨a,o,0⟩:=by rw[<-j,q];exact A1 Z
  subst f j;have x:((a:F)!=(m:F))=R:=Y8;have V:((a:F)==6)=I:=Y9;refine A9.t ?_;refine J ?_;refine A9.b n (J ?_);refine A9.ab (t _) (J ?_);refine A9.b n (J ?_);exact BE
 ·have f:p=R:=by rw[<-f];rfl
  have j:r=⟨a,arg/65536,y⟩:=by rw[<-j,q];rfl
  subst f j;have x:((a:F)!=(a:F))=I:=Y1;refine A9.t ?_;refine J ?_;refine A9.b n (J ?_);refine A9.ab (t _) (J ?_);refine Mt.mk Z (F'.mk ((arg/65536:B):F) (MR arg) ?_);refine J ?_;refine F'.mk ((arg/65536:B):F) AF3 (J ?_);exact BE
 ·have f:p=R:=by rw[<-f];rfl
  have j:r=⟨6,arg/65536,1⟩:=by rw[<-j,q];rfl
  subst f j;have x:(((6:B):F)!=(m:F))=R:=Y8;refine A9.t ?_;refine J ?_;refine A9.b n (J ?_);refine A9.ab (t _) (J ?_);refine Mt.mk Z (F'.mk ((arg/65536:B):F) (MR arg) ?_);refine J ?_;refine F'.mk ((arg/65536:B):F) AF3 (J ?_);exact BE
 ·have f:p=R:=by rw[<-f];rfl
  have j:r=⟨a,arg/65536,0⟩:=by rw[<-j,q];rfl
  subst f j;have x:((a:F)!=(m:F))=R:=Y8;have V:((a:F)==6)=I:=Y9;refine A9.t ?_;refine J ?_;refine A9.b n (J ?_);refine A9.ab (t _) (J ?_);refine Mt.mk Z (F'.mk ((arg/65536:B):F) (MR arg) ?_);refine J ?_;refine F'.mk ((arg/65536:B):F) AF3 (J ?_);exact BE
 ·have ag:((l:F)!=0)=R:=Y8;have ai:((l:F)!=7)=R:=Y8;have ah:((l:F)==3)=I:=Y9;have f:p=R:=by rw[<-f];rw[Bn.2 Q,Bn.2 U];rfl
  have j:r=⟨a,o,y⟩:=by rw[<-j,q];exact A1 S
  subst f j;have x:((a:F)!=(a:F))=I:=Y1;refine A9.t ?_;refine J ?_;refine A9.b n (J ?_);refine A9.ab (t _) (J ?_);exact BE
 ·have ag:((l:F)!=0)=R:=Y8;have ai:((l:F)!=7)=R:=Y8;have ah:((l:F)==3)=I:=Y9;have f:p=R:=by rw[<-f];rw[Bn.2 Q,Bn.2 U];rfl
  have j:r=⟨6,o,1⟩:=by rw[<-j,q];exact A1 S
  subst f j;have x:(((6:B):F)!=(m:F))=R:=Y8;refine A9.t ?_;refine J ?_;refine A9.b n (J ?_);refine A9.ab (t _) (J ?_);exact BE
 ·have ag:((l:F)!=0)=R:=Y8;have ai:((l:F)!=7)=R:=Y8;have ah:((l:F)==3)=I:=Y9;have f:p=R:=by rw[<-f];rw[Bn.2 Q,Bn.2 U];rfl
  have j:r=⟨a,o,0⟩:=by rw[<-j,q];exact A1 S
  subst f j;have x:((a:F)!=(m:F))=R:=Y8;have V:((a:F)==6)=I:=Y9;refine A9.t ?_;refine J ?_;refine A9.b n (J ?_);refine A9.ab (t _) (J ?_);exact BE
def SZ(j a:B)(f:B4)(m:f.a=6)(p:1<=a/\a<=64):Z9 234 [A5 j,N a] [Aq j f] λv l=>l=[Aq j ⟨6,f.d,a⟩]:=by
 obtain⟨n,o,q⟩:=f;obtain rfl:n=6:=m;have r:=Aa ((a:F)<1);have t:=Aa ((a:F)>64);refine A9.y ?_;refine J ?_;rfl
def X'(j:B)(f:B4)(o:f.a=6)(p:1<=f.f/\f.f<=64):Ay 63 [A5 j] [Aq j f] (X R) [Aq j f.g]:=by
 obtain⟨q,l,a⟩:=f;obtain rfl:q=6:=o;dsimp only at p;by_cases m:a=1
 ·subst m;refine A9.t ?_;refine J ?_;refine F'.mk 0 A ?_;refine J ?_;exact BE
 ·have r:(((a-1:B):F)==0)=I:=Y9;have n:B4.g ⟨6,l,a⟩=⟨6,l,a-1⟩:=A1 m;rw[n];refine A9.t ?_;refine J ?_;refine F'.mk ((a-1:B):F) (by show IntKind.i64.wrap ((a:F)-1)=_;rw[A3 Y];omega) ?_;refine J ?_;exact BE
abbrev B8(a:B)(f:G B):BL:=.t a (f.map W) 134
def Nf(j f:B)(l:S)(a:(j,f)∈Fj):AK 194 [N j] l (N f):=by
 simp only[Fj,C2,Ef,Eh,F0] at a;rcases a with⟨rfl,rfl⟩|⟨rfl,rfl⟩|⟨rfl,rfl⟩|⟨rfl,rfl⟩|⟨rfl,rfl⟩|⟨rfl,rfl⟩|⟨rfl,rfl⟩|⟨rfl,rfl⟩|⟨rfl,rfl⟩|⟨rfl,rfl⟩|⟨rfl,rfl⟩|⟨rfl,rfl⟩|⟨rfl,rfl⟩|⟨rfl,rfl⟩|⟨rfl,rfl⟩|⟨rfl,rfl⟩<;>
  (refine A9.af A ?_
   refine J ?_;exact⟨A,A⟩)
def Pd(j a:B)(f:G B)(l:a<64)(m:f.length=64):AK 33 [A5 j,N a] [B8 j f] (W (f.getD a 0)):=by
 have n:=Aa ((a:F)<0);have o:=Aa ((a:F)>63);refine A9.t ?_;refine A7 ?_;refine Ms.mk (v:=W (f.getD a 0)) ?_ ?_
 ·have:=Jp (er:=[]) l m;rwa[B1] at this
 refine J ?_;exact BE
def m7(j a v:B)(f:G B)(m:(a,4)∈Fj)(q:f.length=64):Ay 195 [A5 j,N a,W v] [B8 j f] (AL #[]) [B8 j (f.set a v)]:=by
 obtain⟨n,o,p⟩:=LH m;refine A9.t (J ?_);refine A9.ab (Nf a 4 _ m) (A7 ?_);have l:=MO f [] a v Y;rw[B1,B1] at l;refine⟨[B8 j (f.set a v)],?_,A,A⟩;refine AQ.u (DZ ?_);show[BL.t j ((f.map W).set (0+a*1) (W v)) _]=_;rw[l]
def AA7(a:A6)(j:a.e):AK 78 [DA a,AV #[N 0,N 0,N 0,N 0]] [] (AV (LM a).toArray):=by
 have p:=j.nC;refine A9.t ?_;intro l m n o;refine J ?_
 iterate 4
  refine EY.b (J ?_);first|refine F'.mk 1 A (A' ?_)|refine F'.mk 2 A (A' ?_)|refine F'.mk 3 A (A' ?_)|refine F'.mk 4 A (A' ?_)|refine F'.mk 5 A (A' ?_)|refine F'.mk 6 A (A' ?_)|refine F'.mk 7 A (A' ?_)
  refine F'.mk 0 (by show IntKind.i64.wrap (0*_)=0;rw[Int.zero_mul];rfl) (A' ?_);first|refine F'.mk 1 A (A' ?_)|refine F'.mk 2 A (A' ?_)|refine F'.mk 3 A (A' ?_)|refine F'.mk 4 A (A' ?_)|refine F'.mk 5 A (A' ?_)|refine F'.mk 6 A (A' ?_)|refine F'.mk 7 A (A' ?_)
  refine F'.mk (a.b:F) (by rw[ZZ];exact A3 Y) (J ?_);first|refine F'.mk 1 A (A' ?_)|refine F'.mk 2 A (A' ?_)|refine F'.mk 3 A (A' ?_)|refine F'.mk 4 A (A' ?_)|refine Ev.mk 5 rfl (f ?_)|refine Ev.mk 6 rfl (f ?_)|refine Ev.mk 7 rfl (f ?_)
 refine EY.b (A7 ?_);exact⟨[],AQ.b,A,A⟩
def Xy(f:S):Z9 75 [] f λv j=>∃a,v=Q a 8 8/\j=.t a [N 0,N 4,N 5,N 6,N 7,N 1,N 2,N 3] 3::f:=by
 refine A9.y (J ?_);intro a;refine J ?_;exact⟨a,A,A⟩
abbrev lG(a:A6):G M:=IP a++(LI++LI)
abbrev B6(f:B)(a:A6):BL:=.t f (lG a) 112
def JS(f:A6)(l:f.e)(j a:B)(n:a<8):AK 41 [A5 j,N a] [B6 j f] (N (f.j a:B)):=by
 have m:a=0\/a=1\/a=2\/a=3\/a=4\/a=5\/a=6\/a=7:=Y;rcases m with rfl|rfl|rfl|rfl|rfl|rfl|rfl|rfl<;>(refine A9.t ?_;refine J ?_;refine A9.b (AA7 f l) (A7 ?_);exact BE)
def Wq(f:l<8):([N 0,N 4,N 5,N 6,N 7,N 1,N 2,N 3]:G M)[0+l*1]?=C (N (FM l:B)):=by
 have a:l=0\/l=1\/l=2\/l=3\/l=4\/l=5\/l=6\/l=7:=Y;rcases a with rfl|rfl|rfl|rfl|rfl|rfl|rfl|rfl<;>rfl
def NY(f:l<8):FM l<8:=by
 have a:l=0\/l=1\/l=2\/l=3\/l=4\/l=5\/l=6\/l=7:=Y;rcases a with rfl|rfl|rfl|rfl|rfl|rfl|rfl|rfl<;>decide
def R1(a:A6)(j:l<8):CN a l+a.j (FM l)=CN a (l+1):=by
 have f:l=0\/l=1\/l=2\/l=3\/l=4\/l=5\/l=6\/l=7:=Y;rcases f with rfl|rfl|rfl|rfl|rfl|rfl|rfl|rfl<;>simp only[CN,FM,A6.j,List.getD,List.getElem?_cons_zero,List.getElem?_cons_succ,IG]<;>omega
def Uc(f:xp.e)(a:B):CN xp a<=xp.b+2*xp.f+xp.s:=by
 unfold CN;split<;>omega
def Sm(j:A6)(l:j.e)(o f n:B)(p:n<j.j f):AK 54 [A5 o,N f,N n] [B6 o j] (AL #[N (j.g f+n:B),X R]):=by
 have W:f<4:=by
  match f,p with
  |0,_=>decide
  |1,_=>decide
  |2,_=>decide
  |3,_=>decide
  |f+4,p=>have l:n<0:=p;omega
 have u:=A6.w l f;have aq:=Aa ((n:F)<0);have ar:=Aa ((n:F)≥(j.j f:B));obtain⟨ah,ai,aj,ak,al,am,an,ao,ap,ag⟩:=id l;have L:∃m,m<8/\FM m=f/\(∀x,x<m->FM x≠f)/\j.g f=CN j m:=by
  have y:f=0\/f=1\/f=2\/f=3:=Y;rcases y with rfl|rfl|rfl|rfl
  ·exact⟨0,Z,A,λ_ l=>CV l (Zr _),A⟩
  ·exact⟨5,Z,A,Z,A⟩
  ·exact⟨6,Z,A,Z,A⟩
  ·exact⟨7,Z,A,Z,A⟩
 obtain⟨m,M,rfl,G,z⟩:=L;rw[z];refine A9.t ?_;refine J ?_;refine A9.b (JS j l o _ (NY M)) ?_;refine J ?_;refine A9.z (Xy _) ?_;rintro v U ⟨t,rfl,rfl⟩;refine J ?_;refine EY.f (m:=B) (λa=>8-a) (λa=>a<=m) (λa=>[(0,A5 o),(1,N (FM m:B)),(2,N n),(8,N (CN j a:B)),(9,Q t 8 8),(10,N (a:B))]) (λ_=>[.t t [N 0,N 4,N 5,N 6,N 7,N 1,N 2,N 3] 3,B6 o j]) 0 (Af _) ⟨A,A,A,A,A,A,AA⟩ (.w _) ?_;intro a aa S;have q:=Wq (l:=a) Y;have af:=Uc l a;by_cases u:a=m
 ·subst u;have r:(((FM a:B):F)!=((FM a:B):F))=I:=bne_self_eq_false _;refine EY.b (A7 ?_);refine Ms.mk q (A7 ?_);exact BE
 ·have r:(((FM a:B):F)!=((FM m:B):F))=R:=Bn.2 λr=>G a Y Y;refine EY.b (A7 ?_);refine Ms.mk q (A7 ?_);refine Ms.mk q (A7 ?_);refine A9.b (JS j l o (FM a) (NY (l:=a) Y)) ?_;refine J ?_;refine F'.mk ((CN j (a+1):B):F) (by rw[<-R1 j (l:=a) Y,A3 (by have:=R1 j (l:=a) Y;have:=Uc l (a+1);omega)];omega) (J ?_);refine F'.mk ((a+1:B):F) Y2 (J ?_);exact S (a+1) Y (by show 8-(a+1)<8-a;omega) ⟨A,A,A,A,A,A,AA⟩ AQ.b
def AAR(f:A6)(n:f.e)(l j:B)(u:j<f.b+2*f.f+f.s):Z9 38 [A5 l,N j] [B6 l f] λv q=>∃r z:B,v=AL #[N r,N z,X R]/\q=[B6 l f]:=by
 obtain⟨aa,af,ag,ah,ai,aj,ak,al,am,W⟩:=id n;refine A9.t (J ?_);refine A9.z (Xy _) ?_;rintro v L ⟨p,rfl,rfl⟩;refine J ?_;refine EY.f (m:=B) (λa=>8-a) (λa=>a<8/\CN f a<=j) (λa=>[(0,A5 l),(1,N (j-CN f a:B)),(7,Q p 8 8),(8,N (a:B))]) (λ_=>[.t p [N 0,N 4,N 5,N 6,N 7,N 1,N 2,N 3] 3,B6 l f]) 0 ⟨Z,Af _⟩ ⟨A,A,A,A,AA⟩ (.w _) ?_;rintro a ⟨m,S⟩ y;have an:=B7 ((a:F)<(8:B));have ao:=B7 (((j-CN f a:B):F)≥0);have o:=Wq m;have U:=R1 f m;by_cases x:j<CN f (a+1)
 ·have G:=B7 (((j-CN f a:B):F)<(f.j (FM a):B));refine EY.b (A7 ?_);refine Ms.mk o (A7 ?_);refine A9.b (JS f n l _ (NY m)) (A7 ?_);refine Ms.mk o (A7 ?_);exact⟨_,AQ.b,_,_,A,A⟩
 ·have G:=Aa (((j-CN f a:B):F)<(f.j (FM a):B));have M:a≠7:=λt=>by subst t;exact x u
  refine EY.b (A7 ?_);refine Ms.mk o (A7 ?_);refine A9.b (JS f n l _ (NY m)) (A7 ?_);refine Ms.mk o (A7 ?_);refine A9.b (JS f n l _ (NY m)) ?_;refine J ?_;refine F'.mk ((j-CN f (a+1):B):F) Y4 (J ?_);refine F'.mk ((a+1:B):F) Y2 (J ?_);exact y (a+1) Y (by show 8-(a+1)<8-a;omega) ⟨A,A,A,A,AA⟩ AQ.b
def JR(v f a:F)(j:f<=v/\v<=a):AK 269 [N v,N f,N a] [] (X R):=by
 have m:decide (v≥f)=R:=DH j.1;have l:decide (v<=a)=R:=DH j.2;refine A9.t ?_;refine J ?_;exact⟨_,.w _,AB X l,A⟩
def Pl(a b:B)(m:0<b)(n:a<=100000/\b<=100000):AK 270 [N a,N b] [] (N ((a+b-1)/b:B)):=by
 have l:(a+b-1)/b<=200000:=D9 (Iv _ _) Y;obtain⟨f,j⟩:∃f,(a+b-1)/b=f:=⟨_,A⟩;rw[j] at l⊢;refine A9.t (J ?_);refine F'.mk ((a+b:B):F) Y2 (J ?_);refine F'.mk ((a+b-1:B):F) Y4 (A' ?_);refine F'.mk ((f:B):F) (by rw[show((a+b-1:B):F).tdiv (b:F)=(((a+b-1)/b:B):F) from A,j];exact A3 Y) (J ?_);exact⟨_,.w _,A,A⟩
def AAL(a:A6)(q:a.e):AK 183 [DA a,N 0] [] (N (a.y:B)):=by
 obtain⟨t,u,x,y,z,G,L,M,P,l⟩:=q;have o:=Pl a.b a.d Y Y;have p:=Pl (2*a.f+a.s) (a.d/2) Y Y;unfold A6.y at l⊢;obtain⟨f,m⟩:∃f,(a.b+a.d-1)/a.d=f:=⟨_,A⟩;obtain⟨j,n⟩:∃j,(2*a.f+a.s+a.d/2-1)/(a.d/2)=j:=⟨_,A⟩;rw[m] at o l;rw[n] at p l;rw[m,n];clear m n;have Q:=Aa ((0:F)>(a.b:F));refine A9.t ?_;intro r;refine J ?_;refine F'.mk (a.b:F) (by rw[ZZ];exact A3 Y) (J ?_);refine A9.b o ?_;refine J ?_;refine F'.mk ((2*a.f:B):F) Y4 (J ?_);refine F'.mk ((2*a.f:B):F) (by rw[AEH,A3 Y]) (J ?_);refine F'.mk ((2*a.f+a.s:B):F) Y4 (A' ?_);refine F'.mk ((a.d/2:B):F) (by rw[show((a.d:B):F).tdiv 2=((a.d/2:B):F) from A];exact A3 Y) (J ?_);refine A9.b p ?_;refine J ?_;refine A9.b (Pl f 2 Z Y) ?_;refine A7 ?_;refine A9.b (Pl j 2 Z Y) ?_;refine J ?_;refine F'.mk ((f+(f+2-1)/2+(j+(j+2-1)/2):B):F) Y4 (J ?_);refine F'.mk ((f+(f+2-1)/2+(j+(j+2-1)/2)+24:B):F) Y4 (J ?_);refine F'.mk ((f+(f+2-1)/2+(j+(j+2-1)/2)+24+a.u:B):F) Y4 (J ?_);exact⟨_,AQ.b (g:=[]),A,A⟩
def AA5(a:A6)(l:a.e):AK 182 [DA a] [] (X R):=by
 obtain⟨q,r,t,u,x,m,n,y,z,p⟩:=l;obtain⟨f,j⟩:∃f,a.b/a.c=f:=⟨_,A⟩;rw[j] at n;have G:=B7 ((f:F)<=32);refine A9.t ?_;intro o;refine J ?_;refine A9.b (JR 70 1 1024 Z) ?_;refine J ?_;refine A9.b (JR a.d 4 256 Y) ?_;refine A7 ?_;refine F'.mk 0 (by rw[show((a.d:B):F).tmod 2=((a.d%2:B):F) from A];omega) (J ?_);refine A9.b (JR 128 128 448 Z) ?_;refine A' ?_;refine F'.mk 0 A ?_;refine J ?_;refine A9.b (JR a.b 1 16384 Y) ?_;refine J ?_;refine A9.b (JR a.f 1 256 Y) ?_;refine J ?_;refine A9.b (JR a.s 1 256 Y) ?_;refine J ?_;refine A9.b (JR a.c 1 a.b Y) ?_;refine A7 ?_;refine F'.mk 0 (by rw[show((a.b:B):F).tmod (a.c:F)=((a.b%a.c:B):F) from A,m];rfl) (A' ?_);refine F'.mk ((f:B):F) (by rw[show((a.b:B):F).tdiv (a.c:F)=((a.b/a.c:B):F) from A,j];exact A3 Y) (J ?_);refine A9.b (JR a.i 0 64 Y) ?_;refine J ?_;refine A9.b (JR a.u 0 70 Y) ?_;refine J ?_;exact⟨_,AQ.b (g:=[]),A,A⟩
def Xl(a:A6)(f:a.e):AK 87 [DA a] [] (N 0):=by
 have l:=AA5 a f;have j:=AAL a f;have o:=f.nH;have p:=Aa ((a.y:F)>70);refine A9.t ?_;intro n;refine J ?_;refine A9.b l ?_;refine J ?_;refine A9.u j ?_;rintro v m ⟨rfl,rfl⟩;refine J ?_;exact⟨_,AQ.b (g:=[]),A,A⟩
def AAG(a:A6)(l:a.e):AK 89 [DA a] [] (N (a.b/a.c:B)):=by
 obtain⟨q,m,r,t,u,x,y,z,G,p⟩:=l;have n:a.b/a.c<=256:=D9 (Iv _ _) m.2;obtain⟨f,j⟩:∃f,a.b/a.c=f:=⟨_,A⟩;rw[j] at n⊢;refine A9.t ?_;intro o;refine A' ?_;refine F'.mk ((f:B):F) (by rw[show((a.b:B):F).tdiv (a.c:F)=((a.b/a.c:B):F) from A,j];exact A3 Y) (J ?_);exact⟨[],AQ.y _,A,A⟩
def A6.x(a:A6):B:=4*a.b+32*70+a.i*192+16384
def AA6(a:A6)(f:a.e):AK 70 [DA a] [] (N (a.x:B)):=by
 obtain⟨m,n,o,p,q,r,t,u,x,l⟩:=f;refine A9.t ?_;intro j;refine J ?_;refine F'.mk ((4*a.b:B):F) Y4 (J ?_);refine F'.mk 2240 A (J ?_);refine F'.mk ((4*a.b+2240:B):F) Y4 (J ?_);refine F'.mk 192 A (J ?_);refine F'.mk ((a.i*192:B):F) Y4 (J ?_);refine F'.mk ((4*a.b+2240+a.i*192:B):F) Y4 (J ?_);refine F'.mk ((a.x:B):F) (by rw[A3 Y];unfold A6.x;omega) (J ?_);exact⟨[],AQ.y _,A,A⟩
def XT(a:A6)(l:a.e):Z9 90 [DA a,AV LI.toArray] [] λv j=>∃f,v=AL #[A5 f,N 0]/\j=[B6 f a]:=by
 have m:=Xl a l;refine A9.t ?_;intro n o;refine J ?_;refine A9.b m ?_;refine J ?_;intro f;refine J ?_;exact⟨[B6 f a],AQ.b,f,A,A⟩
def XU(a:A6)(m:a.e)(j:B):Z9 110 [A5 j] [B6 j a] λv l=>∃f,v=A5 f/\l=[B6 f a,B6 j a]:=by
 have n:=XT a m;refine A9.t (J ?_);intro p;refine J ?_;refine A9.u n ?_;rintro v o ⟨f,rfl,rfl⟩;refine J ?_;exact⟨[B6 f a,B6 j a],AQ.b,f,A,A⟩
abbrev F8(l f a j:B)(m:G M):S:=[.t l [Q f a j] 136,.t f (U a (AD 0)++m) 3]
def Ni(a:p<l):(U l yb++er)[0+p*1]?=C yb:=by
 rw[BF,B3,Di (by simpa using a),HH,A8 a]
def lW(a:B)(f:S)(n:1<=a/\a<=256):Z9 88 [N a] f λv m=>∃j l,v=AL #[A5 j,N 0]/\m=F8 j l a a []++f:=by
 have o:=Aa ((a:F)<1);have p:=Aa ((a:F)>256);refine A9.t ?_;refine J ?_;refine Cr.t (m:=_) (u:=_) (p:=a) (j:=a) A A A A A A ⟨AI _,by show 8*a<=_;omega,Y⟩ (U a (AD 0)) (by show D8 [AD 0] (a*1)=_;rw[B3];exact DM _ _) (λl=>?_);refine J ?_;intro j;refine J ?_;refine⟨F8 j l a a []++f,?_,j,l,A,A⟩;refine AQ.u (DZ ?_);show[_,_]++f=[_,_]++f;rw[B1];rfl
def lV(j m a l f:B)(n:G M)(o:f<a):AK 215 [A5 j,N f] (F8 j m a l n) (X R):=by
 have p:=B7 ((f:F)≥0);have q:=B7 ((f:F)<(a:F));refine A9.t ?_;refine A7 ?_;refine Ms.mk (v:=AD 0) ?_ ?_
 ·exact Ni o
 refine J ?_;exact⟨F8 j m a l n,AQ.b,A,A⟩
def X_(j m a l f:B)(n:G M):AK 101 [A5 j,N f] (F8 j m a l n) (N 0):=by
 have q:=Aa ((f:F)<0);by_cases o:f<a
 ·have p:=Aa ((f:F)≥(a:F));refine A9.t ?_;refine A7 ?_;refine Ms.mk (v:=AD 0) ?_ ?_
  ·exact Ni o
  refine J ?_;exact⟨F8 j m a l n,AQ.b,A,A⟩
 ·have p:=B7 ((f:F)≥(a:F));refine A9.t ?_;refine J ?_;exact⟨F8 j m a l n,AQ.b,A,A⟩
def lU(j m f l:B)(n:G M)(u:1<=f/\f<=256):AK 100 [A5 j,N 0] (F8 j m f l n) (D Ax 0):=by
 have y:=B7 ((0:F)<(f:F));refine A9.t ?_;refine J ?_;refine EY.f (m:=B) (λa=>32-a) (λa=>a<=32) (λa=>[(0,A5 j),(1,N 0),(5,D Ax 0),(6,N (31-(a:F)))]) (λa=>F8 j m f l n) 0 (Af _) ⟨A,A,A,A,AA⟩ (AQ.w _) ?_;intro a x p;refine EY.b ?_;by_cases q:a<32
 ·have o:=B7 ((31-(a:F))≥0);refine IK.u o (A' ?_);refine F'.mk 0 A (J ?_);refine F'.mk (f:F) (by rw[ZZ];exact A3 Y) ?_;by_cases r:31-a<f
  ·have t:=B7 ((31-(a:F))<(f:F));refine J ?_;refine F'.mk (31-(a:F)) (by rw[AEH];exact A3 Y) (J ?_);refine Qh.mk (31-a) Y r (J ?_);refine Ms.mk (v:=AD 0) ?_ ?_
   ·exact Ni r
   refine J ?_;exact F'.mk (31-((a+1:B):F)) Y4 (p (a+1) q Y ⟨A,A,A,A,AA⟩ (AQ.w _))
  ·have t:=Aa ((31-(a:F))<(f:F));refine J ?_;exact F'.mk (31-((a+1:B):F)) Y4 (p (a+1) q Y ⟨A,A,A,A,AA⟩ (AQ.w _))
 ·have o:=Aa ((31-(a:F))≥0);refine IK.t o (J ?_);exact⟨F8 j m f l n,AQ.b,A,A⟩
def Xa(j m f l:B)(n:G M)(t:1<=f/\f<=256):Z9 109 [A5 j] (F8 j m f l n) λv p=>p=F8 j m f l n:=by
 refine A9.t (J ?_);refine EY.f (m:=B) (λa=>f-a) (λa=>a<=f) (λa=>[(0,A5 j),(2,N (a:B))]) (λa=>F8 j m f l n) 0 (Af _) ⟨A,A,AA⟩ (AQ.w _) ?_;intro a u q;refine EY.b ?_;by_cases o:a<f
 ·have r:=B7 ((a:F)<(f:F));refine A7 ?_;refine Ms.mk (v:=AD 0) ?_ ?_
  ·exact Ni o
  refine J ?_;exact F'.mk ((a+1:B):F) Y2 (q (a+1) o Y ⟨A,A,AA⟩ (AQ.w _))
 ·have r:=Aa ((a:F)<(f:F));refine J ?_;exact⟨F8 j m f l n,AQ.b,A⟩
abbrev CY(a f:B):BL:=.t a [N f,A0,N 0] 147
def SY(a:B)(j:S)(m:a<=64):Z9 92 [N a] j λv l=>∃f,v=AL #[A5 f,N 0]/\l=CY f a::j:=by
 have n:=Aa ((a:F)<0);have o:=Aa ((a:F)>64);refine A9.y ?_;refine J ?_;intro f;refine J ?_;exact⟨f,A,A⟩
def m4(a j:B)(f l:B):AK 39 [A5 a,N f,N l] [CY a j] (AL #[A0,X I]):=by
 refine A9.t ?_;refine J ?_;refine F'.mk (-1) A ?_;refine J ?_;refine EY.b (J ?_);exact BE
def m3(a j:B)(f l:B):AK 133 [A5 a,N f,N l] [CY a j] (X I):=by
 refine A9.t (J ?_);refine EY.b (J ?_);exact BE
def m5(a f:B):AK 105 [A5 a] [CY a f] A0:=by
 refine A9.t (J ?_);refine EY.b (J ?_);exact BE
def m1(r a j v:B)(t:G B)(l:(a,j)∈Fj)(z:j<4)(Q:v<256)(P:t.length=64):AK 226 [A5 r,D Ax (C7 a v)] [B8 r t] (AL #[N a,W v,N 0]):=by
 obtain⟨y,L,M⟩:=LH l;have x:C7 a v<4294967296:=by unfold C7;omega
 have o:C7 a v/2^24%2^2=3:=by unfold C7;omega
 have p:C7 a v/2^16%2^8=a:=by unfold C7;omega
 have q:C7 a v/2^8%256=v:=by unfold C7;omega
 have m:C7 a v/2^24<4294967296:=by unfold C7;omega
 have n:C7 a v/2^16<4294967296:=by unfold C7;omega
 have S:((j:F)==0)=I:=Y9;have U:((j:F)==4)=I:=Y9;obtain⟨f,u⟩:∃f,C7 a v=f:=⟨_,A⟩;rw[u] at x o p q m n⊢;refine A9.t ?_;refine A7 ?_;refine F'.mk ((f/2^24:B):F) (Ie f 24 Z) ?_;refine J ?_;refine F'.mk 3 (by have:=Jo (f/2^24) 3 2 A Z m;rw[o] at this;exact this) (A7 ?_);refine F'.mk ((f/2^16:B):F) (Ie f 16 Z) (J ?_);refine F'.mk (a:F) (by have:=Jo (f/2^16) 255 8 A Z n;rw[p] at this;exact this) (A7 ?_);refine F'.mk ((f/2^8:B):F) (Ie f 8 Z) (J ?_);refine F'.mk (v:F) (by have:=KH (f/2^8);rw[q] at this;exact this) (J ?_);refine A9.ab (Nf a j _ l) (J ?_);refine A9.ab (Nf a j _ l) (J ?_);exact BE
def l'(v:B)(a:S)(j:v<=7):AK 311 [N 0,W v] a (X R):=by
 have f:=B7 ((v:F)<=7);refine A9.y ?_;refine J ?_;exact⟨AB X f,A⟩
def m9(f v:B)(a:G B)(l:v<=7)(m:a.length=64):Ay 227 [A5 f,N 0,W v] [B8 f a] (N 0) [B8 f (a.set 0 v)]:=by
 refine A9.t (J ?_);refine A9.ab (Nf 0 1 _ Z) (J ?_);refine A9.ab (l' v _ l) (A7 ?_);refine⟨[B8 f (a.set 0 v)],?_,A,A⟩;refine AQ.u (DZ ?_);show[BL.t f ((a.map W).set (0+0*1) (W v)) _]=_;have j:=MO a [] 0 v Y;rw[B1,B1] at j;rw[j]
def JK(a:B):B:=((Fj.find? λf=>f.1==a).map (·.2)).getD 0
def lY(a:B)(o:S)(af:a<64):AK 194 [N a] o (N (JK a:B)):=by
 by_cases q:∃j,(a,j)∈Fj
 ·obtain⟨j,p⟩:=q;have l:JK a=j:=by
   have:∀f∈Fj,JK f.1=f.2:=Z;exact this _ p
  rw[l];exact Nf a j o p
 ·have n:∀m∈[0,1,2,3,4,5,6,8,9,10,11,12,13,32,33,34],a≠m:=λm ah l=>q (by
   have:∀m∈[0,1,2,3,4,5,6,8,9,10,11,12,13,32,33,34],∃f∈Fj,f.1=m:=Z;obtain⟨f,ai,aa⟩:=this m ah;exact⟨f.2,by rw[l,<-aa];exact ai⟩)
  have ag:JK a=0:=by
   have:∀a,a<64->(∀m∈[0,1,2,3,4,5,6,8,9,10,11,12,13,32,33,34],a≠m)->JK a=0:=Z;exact this a af n
  rw[ag];simp only[C2,Ef,Eh,forall_eq_or_imp,forall_eq] at n;obtain⟨r,t,u,x,y,z,F,G,L,M,P,Q,U,V,W,Y⟩:=n;have aj:=EK r;have ak:=EK t;have al:=EK u;have am:=EK x;have an:=EK y;have ao:=EK z;have ap:=EK F;have aq:=EK G;have ar:=EK L;have au:=EK M;have av:=EK P;have aw:=EK Q;have ax:=EK U;have ay:=EK V;have az:=EK W;have a0:=EK Y;refine A9.y ?_;refine J ?_;exact⟨A,A⟩
def Pc(f:G B)(a:B):G B:=if JK a=1 then f.set a 0 else f
def K8(f:G B)(a:B):G B:=(List.range a).foldl Pc f
def XS(f:G B)(a:B):K8 f (a+1)=Pc (K8 f a) a:=by unfold K8;rw[List.range_succ,List.foldl_append];rfl
def XR(f:G B):∀a,(K8 f a).length=f.length
 |0=>A
 |a+1=>by rw[XS];unfold Pc;split<;>simp[XR f a]
def lF(a:G B):K8 a 64=((a.set 0 0).set 1 0).set 5 0:=A
def Xf(j:B)(f:G B)(y:f.length=64):Z9 108 [A5 j] [B8 j f] λv q=>q=[B8 j (((f.set 0 0).set 1 0).set 5 0)]:=by
 rw[<-lF];refine A9.t (J ?_);refine EY.f (m:=B) (λa=>64-a) (λa=>a<=64) (λa=>[(0,A5 j),(2,N (a:B))]) (λa=>[B8 j (K8 f a)]) 0 (Af _) ⟨A,A,AA⟩ (AQ.w _) ?_;intro a u p;refine EY.b ?_;by_cases n:a<64
 ·have r:=B7 ((a:F)<64);refine J ?_;refine A9.ab (lY a _ n) ?_;have x:=XR f a;have l:=XS f a;unfold Pc at l;by_cases m:JK a=1
  ·have t:((JK a:F)==1)=R:=by rw[m];rfl
   rw[A8 m] at l;refine A' ?_;refine F'.mk ((a+1:B):F) Y2 (p (a+1) n Y ⟨A,A,AA⟩ (AQ.u (DZ ?_)));rw[l];show[BL.t j (((K8 f a).map W).set (0+a*1) (W 0)) _]=_;have o:=MO (K8 f a) [] a 0 Y;rw[B1,B1] at o;rw[o]
  ·have t:((JK a:F)==1)=I:=Y9;rw[A1 m] at l;refine J ?_;refine F'.mk ((a+1:B):F) Y2 (p (a+1) n Y ⟨A,A,AA⟩ (AQ.u (DZ ?_)));rw[l]
 ·have r:=Aa ((a:F)<64);obtain rfl:a=64:=Y;refine J ?_;exact⟨_,AQ.b,A⟩
def Mw.t{v:M}{a:S->Prop}(f:G M)[q:Bo lg l er xt][n:Fb lg l f yn](o:MS er.length p np v)(j:Cb er p v=f)(m:a yn):Mw lg l p np v a:=Mw.mk (a:=er) (n:=xt) o (r:=by rw[j];exact n) m
structure C4 where
 a:B
 d:B
 f:B
 b:B
 c:B
 g:B
 e:B
 t:B
 w:B
 u:B
 v:B
 x:B
 aa:B
 y:B
 z:B
 s:G M
 j:G M
 h:G M
 i:G M
structure Bu where
 a:F
 b:B
 g:AE
 h:AE
 x:F
 y:F
 d:AE
 e:AE
 s:B
 c:M
 i:B
 u:AE
 f:M
 z:F
 aa:F
abbrev Fh(j:A6)(f:C4)(a:Bu):G M:=[N 70,N j.d,N 128,N j.b,N j.f,N j.s,N j.c,N j.i,N j.u,A5 f.a,A5 f.d,A5 f.f,A5 f.c,A5 f.g,A5 f.e,Q f.t j.a f.x,Q f.w j.a f.aa,Q f.u j.a f.y,D Ax a.a,N a.b,X a.g,X a.h,N a.x,N a.y,X a.d,X a.e,N a.s,a.c,N a.i,X a.u,a.f,Q f.v j.a f.z,N a.z,N a.aa]
abbrev AO(j:B)(a:A6)(l:C4)(f:Bu):BL:=.t j (Fh a l f) 52
abbrev CS(a:C4)(f:G M):BL:=.t a.t (f++a.s) 31
abbrev De(f:A6)(a:C4):BL:=.t a.w (U f.a A0++a.j) 31
abbrev Dc(f:A6)(a:C4):BL:=.t a.u (U f.a (X I)++a.h) 4
abbrev Dd(f:A6)(a:C4):BL:=.t a.v (U f.a A0++a.i) 46
structure Dv(m:A6)(j:G M)(p:S)(l:B->G B):Prop where
 a:j.length=m.a
 b:∀f,f<m.a->(j[f]?=C A0/\l f=U 128 0)\/∃o q n,j[f]?=C (Q o 128 q)/\BL.t o n 5∈p/\(n.drop 0).take 128=(l f).map W/\(l f).length=128
def Dv.d{v:B->G B}(a:Dv xp er lg v)(q:BL):Dv xp er (q::lg) v:=
 ⟨a.a,λp o=>(a.b p o).imp id λ⟨n,j,l,f,b,m⟩=>⟨n,j,l,f,By _ b,m⟩⟩
def Dv.e{v:B->G B}(f:Dv xp er lg v)(u:l<xp.a)(n:(yj.drop 0).take 128=q.map W)(o:q.length=128):Dv xp (er.set l (Q p 128 np)) (.t p yj 5::lg) (Cm v l q):=by
 refine⟨by rw[B_];exact f.a,λj r=>?_⟩;have t:=f.a;rw[EV];unfold Cm;by_cases a:l=j
 ·subst a;rw[A8 A,A8 Y,A8 A];exact Ae ⟨p,np,yj,A,Bt ..,n,o⟩
 ·rw[A1 a,A1 (Ne.symm a)];exact(f.b j r).imp id λ⟨p,np,yj,m,b,q⟩=>⟨p,np,yj,m,By _ b,q⟩
def Kp{f:BL}(p:f∈lg):∃j:S,∀a,AQ (.u (A2 lg)::a) (f::.u (A2 j)::a)/\AQ (f::.u (A2 j)::a) (.u (A2 lg)::a):=by
 obtain⟨m,n,o⟩:=List.append_of_mem p;have l:lg.Perm (f::(m++n)):=by rw[o];exact EE
 exact⟨m++n,λa=>⟨(AQ.ac _ _).t ((AQ.u (l.append_right a)).t (AQ.z _ (AQ.aa _ _))),(AQ.z _ (AQ.ac _ _)).t ((AQ.u (l.symm.append_right a)).t (AQ.aa _ _))⟩⟩
def N3(f:BL)(a j:S):AQ (f::.u (A2 a)::j) (.u (A2 (f::a))::j):=(AQ.z _ (AQ.ac _ _)).t (AQ.aa (f::a) _)
def mA(f:B)(j:A6)(m:C4)(l:Bu):Z9 77 [A5 f] [AO f j m l] λv o=>∃n,v=Q n 128 128/\o=[AJ n (U 128 0) [],AO f j m l]:=by
 refine A9.t ?_;refine J ?_;refine Cr.t (p:=128) (j:=128) (m:=_) (u:=_) A A A A A A ⟨Z,Z,Z⟩ (U 128 (W 0)) (DM _ _) (λa=>?_);refine J ?_;refine⟨[AJ a (U 128 0) [],AO f j m l],AQ.u (DZ ?_),a,A,A⟩;show[BL.t a _ _,_]=[BL.t a _ _,_];rw[FF,B1]
def I1(a:er[l]?=C yb):(er++yj)[0+l*1]?=C yb:=by
 have f:=(Cx.1 a).1;rw[BF,B3,Di f,a]
def XZ(l:B)(j:A6)(a:C4)(o:Bu)(m:G M)(n:S)(v:B->G B)(q:B)(y:Dv j m n v)(Y:q<j.a):Z9 40 [A5 l,N q] [AO l j a o,CS a m,.u (A2 n)] λZ z=>∃f p r x,Dv j m x v/\BL.t f r 5∈x/\(r.drop 0).take 128=(v q).map W/\(v q).length=128/\Z=Q f 128 p/\z=[AO l j a o,CS a m,.u (A2 x)]:=by
 rcases y.b q Y with⟨t,u⟩|⟨f,p,r,t,u,F,L⟩
 ·refine A9.t ?_;refine A7 ?_;refine Ms.mk (v:=A0) ?_ ?_
  ·exact I1 t
  refine J ?_;refine A9.u (mA l j a o) ?_;rintro v aa ⟨f,rfl,rfl⟩;refine J ?_;refine⟨[AO l j a o,CS a m,.u (A2 (AJ f (U 128 0) []::n))],?_,f,128,_,_,y.d _,Bt ..,?_,?_,A,A⟩
  ·exact((AQ.ab (a:=[AJ f (U 128 0) [],.u (A2 n),AO l j a o,CS a m]) Y0).t (N3 _ _ _)).t AQ.b
  ·rw[u,CJ];exact C_ Y1
  ·rw[u];exact BI
 ·refine A9.t ?_;refine A7 ?_;refine Ms.mk (v:=Q f 128 p) ?_ ?_
  ·exact I1 t
  refine A7 ?_;refine Ms.mk (v:=Q f 128 p) ?_ ?_
  ·exact I1 t
  refine J ?_;exact⟨[AO l j a o,CS a m,.u (A2 n)],AQ.b,f,p,r,n,y,u,F,L,A,A⟩
def Xu(a:A6)(n:a.e)(f j:B)(o:j<a.a):Z9 38 [A5 f,N j] [B6 f a] λv l=>∃m p:B,v=AL #[N m,N p,X R]/\l=[B6 f a]:=AAR a n f j o
def A6.ab(a:xp.e):xp.a<=300:=by
 obtain⟨j,l,m,n,o,p,q,r,t,f⟩:=a;unfold A6.a;omega
def S_(n:B)(f:A6)(ag:f.e)(a:C4)(p:Bu)(m:G M)(t:S)(v:B->G B)(j r:B)(U:Dv f m t v)(x:j<f.a):Z9 11 [A5 n,N j] [AO n f a p,CS a m,B6 a.c f,CY a.e r,.u (A2 t)] λai y=>∃q u o l,Dv f m l v/\BL.t q o 5∈l/\(o.drop 0).take 128=(v j).map W/\(v j).length=128/\ai=Q q 128 u/\y=[AO n f a p,CS a m,B6 a.c f,CY a.e r,.u (A2 l)]:=by
 have aj:=Aa ((j:F)<0);have ak:=Aa ((j:F)≥(f.a:B));refine A9.t ?_;refine J ?_;refine A9.u (Xu f ag a.c j x) ?_;rintro v z ⟨L,ah,rfl,rfl⟩;refine J ?_;refine A9.b (m4 a.e r L ah) (J ?_);refine A9.u (XZ n f a p m t v j U x) ?_;rintro v z ⟨q,u,o,l,Y,Z,aa,af,rfl,rfl⟩;refine J ?_;exact⟨[AO n f a p,CS a m,B6 a.c f,CY a.e r,.u (A2 l)],AQ.b,q,u,o,l,Y,Z,aa,af,A,A⟩
def Ic(j:p<l):(U l yb++er).set (0+p*1) yb=U l yb++er:=by
 rw[BF,B3];have f:(U l yb++er)[p]?=C yb:=by rw[Di (by simpa using j),HH,A8 j]
 apply Gj;intro m;rw[EV];split
 ·rename_i a;subst a;split
  ·exact f.symm
  ·rename_i a;exact CV (Cx.1 f).1 a
 ·rfl
def P8(a:l<er.length):(er++yj).set (0+l*1) yb=er.set l yb++yj:=by
 rw[BF,B3,List.set_append_left _ _ a]
def Z6{P:Prop}(h:P:=by rw[List.length_append,List.length_replicate];omega):P:=h
def Xb(p:B)(f:A6)(a:C4)(y:Bu)(r:G M)(u:S)(v:B->G B)(j q af ah:B)(n:G M)(x:AU)(m:G B)(L:Dv f r u v)(l:j<f.a)(aj:(n.drop af).take 128=m.map W)(z:m.length=128):Z9 111 [A5 p,N j,O (C ⟨q,af,E⟩) 128 ah] [AO p f a y,CS a r,De f a,Dc f a,Dd f a,.u (A2 u),.t q n x] λak ag=>∃aa F,Dv f aa F (Cm v j m)/\ak=AL #[]/\ag=[AO p f a y,CS a aa,De f a,Dc f a,Dd f a,.u (A2 F),.t q n x]:=by
 have al:=L.a;refine A9.t ?_;refine J ?_;intro ai;refine J ?_;refine Cr.v (f:=[]) (h:=[]) A A A A ⟨A,A⟩ (Gt.t (x:=AJ ai [] []) Y0) m aj z ⟨Z,by show 0+128<=_;decide⟩ (λo t am=>?_);rw[Bz,z];refine J ?_;refine Qh.mk j A l (J ?_);refine Mw.t (r.set j (Q o 128 (128+t.length))++a.s) ⟨A,Z5⟩ (P8 Y) (J ?_);refine Qh.mk j A l (J ?_);refine Mw.t (er:=U f.a (X I)++a.h) (U f.a (X I)++a.h) ⟨A,Z6⟩ (Ic l) (J ?_);refine Qh.mk j A l (J ?_);refine Mw.t (er:=U f.a A0++a.j) (U f.a A0++a.j) ⟨A,Z6⟩ (Ic l) (J ?_);refine Qh.mk j A l (J ?_);refine Mw.t (er:=U f.a A0++a.i) (U f.a A0++a.i) ⟨A,Z6⟩ (Ic l) (J ?_);refine⟨[AO p f a y,CS a (r.set j (Q o 128 (128+t.length))),De f a,Dc f a,Dd f a,.u (A2 (AJ o m t::u)),.t q n x],?_,_,_,L.e l (by rw[CJ];exact C_ (by rw[BW];exact z)) z,A,A⟩;exact((AQ.ab (a:=[AJ o m t,.u (A2 u),AO p f a y,CS a (r.set j (Q o 128 (128+t.length))),De f a,Dc f a,Dd f a,.t q n x]) Y0).t (N3 _ _ _)).t AQ.b
def MJ(m:B)(n:A6)(l:C4)(j:Bu)(f:B4)(p:f.a<16):Ay 146 [A5 m] [AO m n l j,Aq l.a f] (Ar I A0 (B0 f.a j.a) A0) [AO m n l {j with a:=0},Aq l.a f]:=by
 refine A9.t ?_;intro o;refine J ?_;refine F'.mk (f.a:F) (Dh Y) (A7 ?_);refine F'.mk ((f.a*512:B):F) (by show IntKind.u32.wrap ((f.a:F)*512)=_;rw[Dh Y];omega) (J ?_);refine F'.mk (PR (f.a*512:B) 256) A (J ?_);refine F'.mk (B0 f.a j.a) A (J ?_);exact BE
def XV(j:B)(l:A6)(f:C4)(m:Bu)(a:G B)(n:a.length=64)(o:a.getD 0 0<256):AK 232 [A5 j] [AO j l f m,B8 f.d a] (N (a.getD 0 0:B)):=by
 refine A9.t ?_;refine J ?_;refine A9.b (Pd f.d 0 a Z n) ?_;refine A7 ?_;exact BE
def Pe(n:B)(f:A6)(o:f.e)(m:C4)(p:Bu)(a l j:B)(q:a<8)(u:1<=j)(t:l+j<=f.j a):AK 125 [A5 n,N a,D Ax l,N j] [AO n f m p,B6 m.c f] (X R):=by
 have x:=A6.w o a;have y:=B7 ((j:F)<=(f.j a:B));have r:=B7 ((l:F)<=((f.j a-j:B):F));refine A9.t ?_;refine J ?_;refine A9.b (JS f o m.c a q) ?_;refine A7 ?_;exact⟨_,AQ.b,AB X r,A⟩
def lX(n:B)(a:A6)(u:a.e)(j:C4)(q:Bu)(f l m:B)(p:G M)(x:f/a.c<l)(y:f<=1000):AK 130 [A5 n,N 0,N f] (AO n a j q::F8 j.f j.b l m p) (X I):=by
 obtain⟨P,Q,S,U,V,W,Z,aa,af,L⟩:=u;have r:=lV j.f j.b l m (f/a.c) p x;have z:f/a.c<=1000:=D9 (Iv _ _) y;obtain⟨o,t⟩:∃o,f/a.c=o:=⟨_,A⟩;rw[t] at r z;refine A9.t ?_;refine A' ?_;refine F'.mk ((o:B):F) (by rw[show((f:B):F).tdiv (a.c:F)=((f/a.c:B):F) from A,t];exact A3 Y) ?_;refine J ?_;refine A9.b r (J ?_);exact⟨AO n a j q::F8 j.f j.b l m p,AQ.b,A,A⟩
def lT(j:B)(l:A6)(p:C4)(m:Bu)(a:B)(n:a≠35/\a≠36/\a≠38/\a≠13/\a≠23/\a≠18/\a≠25):Ay 142 [A5 j,N a] [AO j l p m] (AL #[]) [AO j l p {m with d:=I,e:=I,b:=0}]:=by
 obtain⟨q,r,t,u,x,y,z⟩:=n;have f:∀{a o:B},a≠o->((a:F)!=(o:F))=R:=λn=>by rw[Bn];omega
 have G:=f q;have L:=f r;have M:=f t;have P:=f u;have Q:=f x;have S:=f y;have U:=f z;clear f;refine A9.t ?_;refine J ?_;exact BE
def SW(f:B)(j:A6)(m:C4)(l:Bu)(a:B)(n:a=23\/a=18\/a=25):Ay 142 [A5 f,N a] [AO f j m l] (AL #[]) [AO f j m {l with d:=I,e:=I}]:=by
 rcases n with rfl|rfl|rfl
 ·refine A9.t ?_;refine J ?_;exact BE
 ·refine A9.t ?_;refine J ?_;exact BE
 ·refine A9.t ?_;refine J ?_;exact BE
def lS(f:B)(j:A6)(m:C4)(l:Bu)(a:B)(n:a=13\/a=35\/a=36\/a=38):Ay 142 [A5 f,N a] [AO f j m l] (AL #[]) [AO f j m {l with b:=0}]:=by
 rcases n with rfl|rfl|rfl|rfl
 ·refine A9.t ?_;refine J ?_;exact BE
 ·refine A9.t ?_;refine J ?_;exact BE
 ·refine A9.t ?_;refine J ?_;exact BE
 ·refine A9.t ?_;refine J ?_;exact BE
def Xc(f:B)(j:A6)(m:C4)(l:Bu)(a:B)(n:a≠18/\a≠25):Ay 231 [A5 f,N a] [AO f j m l] (N 1) [AO f j m {l with b:=0,g:=I,h:=I}]:=by
 have o:((a:F)!=18)=R:=Y8;have p:((a:F)!=25)=R:=Y8;refine A9.t ?_;refine J ?_;exact BE
def lZ(f:B)(l:A6)(m:C4)(a:Bu)(j:B)(o:j=18\/j=25)(p:a.b=0):Ay 231 [A5 f,N j] [AO f l m a] (N 1) [AO f l m {a with b:=0,g:=I,h:=I}]:=by
 obtain⟨P,n,rel,F,r,M,u,x,q,y,t,L,Q,z,G⟩:=a;obtain rfl:n=0:=p;rcases o with rfl|rfl
 ·refine A9.t ?_;refine J ?_;exact BE
 ·refine A9.t ?_;refine J ?_;exact BE
def l_(f:B)(l:A6)(n:C4)(a:Bu)(j:B)(o:j=18\/j=25)(p:0<a.b):Ay 231 [A5 f,N j] [AO f l n a] (N a.b) [AO f l n {a with b:=0}]:=by
 obtain⟨S,m,rel,G,r,Q,u,x,q,y,t,P,U,z,M⟩:=a;have L:((m:F)==0)=I:=by rw[Bv];have:0<m:=p;omega
 rcases o with rfl|rfl
 ·refine A9.t ?_;refine J ?_;exact BE
 ·refine A9.t ?_;refine J ?_;exact BE
def lQ(f:B)(l:A6)(n:C4)(m:Bu)(a:B)(r:a<4294967296)(t:1<=a%65536/\a%65536<=64):Ay 148 [A5 f,D Ax a] [AO f l n m] (AL #[]) [AO f l n {m with b:=a%65536,g:=a/2147483648==1,h:=a/1073741824%2==1}]:=by
 obtain⟨j,o⟩:∃j,a%65536=j:=⟨_,A⟩;have u:=Aa ((j:F)<1);have x:=Aa ((j:F)>64);refine A9.t ?_;refine J ?_;refine F'.mk ((j:B):F) (by rw[show((65535:F))=((65535:B):F) from A,Jo a 65535 16 A Z Y];exact AB AEC o) ?_;refine A7 ?_;refine F'.mk ((a/2^31:B):F) (Ie a 31 Z) (A7 ?_);refine F'.mk ((a/2^30:B):F) (Ie a 30 Z) (J ?_);refine F'.mk ((a/2^30%2:B):F) (Jo (a/2^30) 1 1 A Z Y) (J ?_);have p:=N4 (a/2^31) 1;have q:=N4 (a/2^30%2) 1;refine⟨[AO f l n {m with b:=a%65536,g:=a/2147483648==1,h:=a/1073741824%2==1}],?_,A,A⟩;rw[o];refine AQ.u (DZ ?_);show[BL.t f [_,_,_,_,_,_,_,_,_,_,_,_,_,_,_,_,_,_,_,_,X (((a/2^31:B):F)==((1:B):F)),X (((a/2^30%2:B):F)==((1:B):F)),_,_,_,_,_,_,_,_,_,_,_,_] _]=_;rw[p,q]
def Xh(l:B)(f:A6)(a:C4)(m:Bu)(j:G B)(n:j.length=64):Ay 112 [A5 l] [AO l f a m,B6 a.c f,B8 a.d j] (Q a.d 64 64) [AO l f a m,B6 a.c f,B8 a.d (j.set 34 0)]:=by
 refine A9.t ?_;refine J ?_;refine A9.b (m7 a.d 34 0 j Z n) ?_;refine J ?_;refine Qp.mk 0 64 64 0 A A A ⟨Z,Z,Z⟩ A A (J ?_);exact BE
def m6(o:B)(j:A6)(af:j.e)(f:C4)(l:Bu)(p:B4)(u:G B)(r:G M)(ai:S)(v:B->G B)(x m n:B)(au:Dv j r ai v)(a5:p.a<16)(a6:u.length=64)(a2:u.getD 0 0=n)(a3:n<8)(bc:n≠3)(aq:m<j.j n):
 Z9 147 [A5 o,BY 17 m] [AO o j f l,Aq f.a p,B8 f.d u,B6 f.c j,CS f r,CY f.e x,.u (A2 ai)]
  λbb aw=>∃z am ay L az ba y,Dv j r y v/\(v (j.g n+m)).length=128/\bb=Ar I A0 (B0 p.a l.a) (Q z 1 am)/\aw=[.t z (Q L 128 az::ay) 31,AJ L (v (j.g n+m)) ba,AO o j f {l with b:=0,g:=I,h:=I,a:=0},Aq f.a p,B8 f.d u,B6 f.c j,CS f r,CY f.e x,.u (A2 y)]:=by
 have bd:=A6.w af n;have be:((n:F)==3)=I:=Y9;have bf:((n:F)!=3)=R:=Y8;have av:=XV o j f {l with b:=0,g:=I,h:=I} u a6 Y;rw[a2] at av;have a1:=MJ o j f {l with b:=0,g:=I,h:=I} p a5;refine A9.t ?_;intro aj;refine J ?_;intro ak;refine J ?_;refine A9.b (Xc o j f l 17 Z) ?_;refine J ?_;refine A9.b av ?_;refine J ?_;refine A9.b (Pe o j af f {l with b:=0,g:=I,h:=I} n m 1 a3 Z Y) (J ?_);refine A9.b a1 (J ?_);intro al;refine J ?_;refine EY.b (J ?_);refine F'.mk (m:F) (A3 Y) (J ?_);refine F'.mk (m:F) (by rw[ADy];exact A3 Y) (J ?_);refine A9.b (Sm j af f.c n m aq) ?_;refine J ?_;refine⟨?_,?_⟩
 ·intro N;refine J ?_;refine A9.u (S_ o j af f {l with b:=0,g:=I,h:=I,a:=0} r ai v (j.g n+m) x au (A6.aa aq)) ?_;rintro v ax ⟨L,am,aa,y,ao,ar,ap,ah,rfl,rfl⟩;obtain⟨W,ag⟩:=Kp ar;refine J ?_;refine Cr.u (l:=.t L aa 5::.u (A2 W)::AJ N [] []::AO o j f {l with b:=0,g:=I,h:=I,a:=0}::.t al (B9 (Ar I A0 (B0 p.a l.a) A0)) 85::Aq f.a p::B8 f.d u::B6 f.c j::CS f r::CY f.e x::.t ak (B9 (Ar I A0 0 A0)) 85::.t aj (B9 (BY 17 m)) 171::[]) ?_ ?_
  ·exact(AQ.b (g:=.u (A2 y)::AJ N [] []::AO o j f {l with b:=0,g:=I,h:=I,a:=0}::.t al (B9 (Ar I A0 (B0 p.a l.a) A0)) 85::Aq f.a p::B8 f.d u::B6 f.c j::CS f r::CY f.e x::.t ak (B9 (Ar I A0 0 A0)) 85::.t aj (B9 (BY 17 m)) 171::[])).t (ag _).1
  refine Cr.v (f:=[]) (h:=[]) A A A A ⟨A,A⟩ (Gt.t (x:=AJ N [] []) Y0) (v (j.g n+m)) ap ah ⟨Z,by show 0+128<=_;decide⟩ (λt q a4=>?_);rw[Bz,ah];refine J ?_;intro a0;refine J ?_;refine Cr.ad (j:=_) (N:=_) A A A A A A A ⟨A,Z⟩ [Q t 128 (128+q.length)] A A A ⟨Z,Z,Z⟩ (λz an U a7 a8 a9=>?_);refine J ?_;refine F'.mk 1 A (J ?_);refine EY.b (J ?_);refine⟨_,(AQ.ab (a:=.t L aa 5::.u (A2 W)::[.t z (Q t 128 (128+q.length)::U) 31,AJ t (v (j.g n+m)) q,AO o j f {l with b:=0,g:=I,h:=I,a:=0},Aq f.a p,B8 f.d u,B6 f.c j,CS f r,CY f.e x]) Y0).t ((ag _).2.t (AQ.ab (a:=[.t z (Q t 128 (128+q.length)::U) 31,AJ t (v (j.g n+m)) q,AO o j f {l with b:=0,g:=I,h:=I,a:=0},Aq f.a p,B8 f.d u,B6 f.c j,CS f r,CY f.e x,.u (A2 y)]) Y0)),z,an,U,t,128+q.length,q,y,ao,A,A,A⟩
 ·refine A9.u (S_ o j af f {l with b:=0,g:=I,h:=I,a:=0} r ai v (j.g n+m) x au (A6.aa aq)) ?_;rintro v ax ⟨L,am,aa,y,ao,ar,ap,ah,rfl,rfl⟩;refine J ?_;intro N;obtain⟨W,ag⟩:=Kp ar;refine J ?_;refine Cr.u (l:=.t L aa 5::.u (A2 W)::AJ N [] []::AO o j f {l with b:=0,g:=I,h:=I,a:=0}::.t al (B9 (Ar I A0 (B0 p.a l.a) A0)) 85::Aq f.a p::B8 f.d u::B6 f.c j::CS f r::CY f.e x::.t ak (B9 (Ar I A0 0 A0)) 85::.t aj (B9 (BY 17 m)) 171::[]) ?_ ?_
  ·exact(AQ.b (g:=.u (A2 y)::AJ N [] []::AO o j f {l with b:=0,g:=I,h:=I,a:=0}::.t al (B9 (Ar I A0 (B0 p.a l.a) A0)) 85::Aq f.a p::B8 f.d u::B6 f.c j::CS f r::CY f.e x::.t ak (B9 (Ar I A0 0 A0)) 85::.t aj (B9 (BY 17 m)) 171::[])).t (ag _).1
  refine Cr.v (f:=[]) (h:=[]) A A A A ⟨A,A⟩ (Gt.t (x:=AJ N [] []) Y0) (v (j.g n+m)) ap ah ⟨Z,by show 0+128<=_;decide⟩ (λt q a4=>?_);rw[Bz,ah];refine J ?_;intro a0;refine J ?_;refine Cr.ad (j:=_) (N:=_) A A A A A A A ⟨A,Z⟩ [Q t 128 (128+q.length)] A A A ⟨Z,Z,Z⟩ (λz an U a7 a8 a9=>?_);refine J ?_;refine F'.mk 1 A (J ?_);refine EY.b (J ?_);refine⟨_,(AQ.ab (a:=.t L aa 5::.u (A2 W)::[.t z (Q t 128 (128+q.length)::U) 31,AJ t (v (j.g n+m)) q,AO o j f {l with b:=0,g:=I,h:=I,a:=0},Aq f.a p,B8 f.d u,B6 f.c j,CS f r,CY f.e x]) Y0).t ((ag _).2.t (AQ.ab (a:=[.t z (Q t 128 (128+q.length)::U) 31,AJ t (v (j.g n+m)) q,AO o j f {l with b:=0,g:=I,h:=I,a:=0},Aq f.a p,B8 f.d u,B6 f.c j,CS f r,CY f.e x,.u (A2 y)]) Y0)),z,an,U,t,128+q.length,q,y,ao,A,A,A⟩
def Sa(o:B)(n:A6)(S:n.e)(m:C4)(a3 W:Bu)(x:B4)(L:G B)(ax l f q:B)(a2:x.a=6)(ba:L.length=64)(a6:L.getD 0 0=q)(be:q<8)(a7:q≠3)(ah:1<=f/\f<=64)(af:l+f<=n.j q)(a9:W.h=I)
 (a1:Ay 231 [A5 o,N ax] [AO o n m a3] (N f) [AO o n m W]):
 Z9 149 [A5 o,BY ax l] [AO o n m a3,Aq m.a x,B8 m.d L,B6 m.c n]
  λv a5=>∃p:D6,p.c 1 f/\v=AL #[]/\a5=[AO o n m {W with s:=q,u:=W.g,c:=p.b f,i:=0},Aq m.a ⟨6,x.d,f⟩,B8 m.d L,B6 m.c n,F7 p (BN l f)]:=by
 have bg:=A6.w S q;have bc:((q:F)==3)=I:=Y9;have a0:=XV o n m W L ba Y;rw[a6] at a0;obtain⟨am,U,rel,bb,aa,al,ag,ai,bd,bh,bf,bi,an,aj,ak⟩:=W;obtain rfl:bb=I:=a9;have a8:q=0\/q=1\/q=2:=by
  match q,af,a7 with
  |0,_,_=>exact AT A
  |1,_,_=>exact Ae (AT A)
  |2,_,_=>exact Ae (Ae A)
  |3,_,S=>exact CV A S
  |q+4,af,_=>have S:l+f<=0:=af;omega
 clear bc;rcases a8 with rfl|rfl|rfl
 ·refine A9.t ?_;intro z;refine J ?_;refine A9.b a1 (J ?_);refine A9.b a0 ?_;refine J ?_;refine A9.u (Pe o n S m ⟨am,U,rel,I,aa,al,ag,ai,0,A0,0,rel,an,aj,ak⟩ 0 l f Z ah.1 af) ?_;rintro v ao ⟨rfl,rfl⟩;refine J ?_;refine A9.u (SZ m.a f x a2 ah) (λv ao aw=>?_);obtain rfl:=aw;refine J ?_;refine EY.f (m:=B×D6) (λj=>f-j.1) (λj=>j.1<=f/\j.2.c 1 j.1) (λj=>[(0,A5 o),(3,P z),(4,N (f:B)),(8,N (j.1:B))]) (λj=>[AO o n m ⟨am,U,rel,I,aa,al,ag,ai,0,j.2.b j.1,0,rel,an,aj,ak⟩,Aq m.a ⟨6,x.d,f⟩,B8 m.d L,B6 m.c n,F7 j.2 (BN l j.1),.t z [N ax,D Ax l] 171]) (0,Es) ⟨Af _,⟨⟨λ_=>A,A,⟨AI _,Af _⟩,Af _⟩,A,A,A⟩⟩ ⟨A,A,A,A,AA⟩ ?_ ?_
  ·exact(AQ.aa [] _).t AQ.b
  rintro⟨a,p⟩ ⟨ar,r⟩ ay;dsimp only at ar r;refine EY.b ?_;by_cases az:a<f
  ·have t:=B7 ((a:F)<(f:B));have aq:(BN l a).map AD++[AD (l+a)]=(BN l (a+1)).map AD:=AFa;have au:((BN l a).map AD).length=a*1:=AF8;refine IK.u t (A7 ?_);intro a4;refine J ?_;refine Cr.ah (yq:=_) (yb:=_) A A A p ((BN l a).map AD) A A A A ⟨A,Z⟩ r au (Gt.t (x:=F7 p (BN l a)) Y0) [AD (l+a)] A A A Z ⟨Y,Z⟩ (λy ap M av=>?_);refine J ?_;refine F'.mk ((a+1:B):F) Y2 ?_;rw[aq];exact ay (a+1,⟨C y,0,ap,[],M⟩) ⟨az,av⟩ Y6 ⟨A,A,A,A,AA⟩ (AQ.af (j:=.t y ((BN l (a+1)).map AD++M) 3) A Y0 AQ.b)
  ·have t:=Aa ((a:F)<(f:B));refine IK.t t ?_;obtain rfl:a=f:=Y;refine J ?_;exact⟨_,AQ.b,p,r,A,A⟩
 ·refine A9.t ?_;intro z;refine J ?_;refine A9.b a1 (J ?_);refine A9.b a0 ?_;refine J ?_;refine A9.u (Pe o n S m ⟨am,U,rel,I,aa,al,ag,ai,1,A0,0,rel,an,aj,ak⟩ 1 l f Z ah.1 af) ?_;rintro v ao ⟨rfl,rfl⟩;refine J ?_;refine A9.u (SZ m.a f x a2 ah) (λv ao aw=>?_);obtain rfl:=aw;refine J ?_;refine EY.f (m:=B×D6) (λj=>f-j.1) (λj=>j.1<=f/\j.2.c 1 j.1) (λj=>[(0,A5 o),(3,P z),(4,N (f:B)),(8,N (j.1:B))]) (λj=>[AO o n m ⟨am,U,rel,I,aa,al,ag,ai,1,j.2.b j.1,0,rel,an,aj,ak⟩,Aq m.a ⟨6,x.d,f⟩,B8 m.d L,B6 m.c n,F7 j.2 (BN l j.1),.t z [N ax,D Ax l] 171]) (0,Es) ⟨Af _,⟨⟨λ_=>A,A,⟨AI _,Af _⟩,Af _⟩,A,A,A⟩⟩ ⟨A,A,A,A,AA⟩ ?_ ?_
  ·exact(AQ.aa [] _).t AQ.b
  rintro⟨a,p⟩ ⟨ar,r⟩ ay;dsimp only at ar r;refine EY.b ?_;by_cases az:a<f
  ·have t:=B7 ((a:F)<(f:B));have aq:(BN l a).map AD++[AD (l+a)]=(BN l (a+1)).map AD:=AFa;have au:((BN l a).map AD).length=a*1:=AF8;refine IK.u t (A7 ?_);intro a4;refine J ?_;refine Cr.ah (yq:=_) (yb:=_) A A A p ((BN l a).map AD) A A A A ⟨A,Z⟩ r au (Gt.t (x:=F7 p (BN l a)) Y0) [AD (l+a)] A A A Z ⟨Y,Z⟩ (λy ap M av=>?_);refine J ?_;refine F'.mk ((a+1:B):F) Y2 ?_;rw[aq];exact ay (a+1,⟨C y,0,ap,[],M⟩) ⟨az,av⟩ Y6 ⟨A,A,A,A,AA⟩ (AQ.af (j:=.t y ((BN l (a+1)).map AD++M) 3) A Y0 AQ.b)
  ·have t:=Aa ((a:F)<(f:B));refine IK.t t ?_;obtain rfl:a=f:=Y;refine J ?_;exact⟨_,AQ.b,p,r,A,A⟩
 ·refine A9.t ?_;intro z;refine J ?_;refine A9.b a1 (J ?_);refine A9.b a0 ?_;refine J ?_;refine A9.u (Pe o n S m ⟨am,U,rel,I,aa,al,ag,ai,2,A0,0,rel,an,aj,ak⟩ 2 l f Z ah.1 af) ?_;rintro v ao ⟨rfl,rfl⟩;refine J ?_;refine A9.u (SZ m.a f x a2 ah) (λv ao aw=>?_);obtain rfl:=aw;refine J ?_;refine EY.f (m:=B×D6) (λj=>f-j.1) (λj=>j.1<=f/\j.2.c 1 j.1) (λj=>[(0,A5 o),(3,P z),(4,N (f:B)),(8,N (j.1:B))]) (λj=>[AO o n m ⟨am,U,rel,I,aa,al,ag,ai,2,j.2.b j.1,0,rel,an,aj,ak⟩,Aq m.a ⟨6,x.d,f⟩,B8 m.d L,B6 m.c n,F7 j.2 (BN l j.1),.t z [N ax,D Ax l] 171]) (0,Es) ⟨Af _,⟨⟨λ_=>A,A,⟨AI _,Af _⟩,Af _⟩,A,A,A⟩⟩ ⟨A,A,A,A,AA⟩ ?_ ?_
  ·exact(AQ.aa [] _).t AQ.b
  rintro⟨a,p⟩ ⟨ar,r⟩ ay;dsimp only at ar r;refine EY.b ?_;by_cases az:a<f
  ·have t:=B7 ((a:F)<(f:B));have aq:(BN l a).map AD++[AD (l+a)]=(BN l (a+1)).map AD:=AFa;have au:((BN l a).map AD).length=a*1:=AF8;refine IK.u t (A7 ?_);intro a4;refine J ?_;refine Cr.ah (yq:=_) (yb:=_) A A A p ((BN l a).map AD) A A A A ⟨A,Z⟩ r au (Gt.t (x:=F7 p (BN l a)) Y0) [AD (l+a)] A A A Z ⟨Y,Z⟩ (λy ap M av=>?_);refine J ?_;refine F'.mk ((a+1:B):F) Y2 ?_;rw[aq];exact ay (a+1,⟨C y,0,ap,[],M⟩) ⟨az,av⟩ Y6 ⟨A,A,A,A,AA⟩ (AQ.af (j:=.t y ((BN l (a+1)).map AD++M) 3) A Y0 AQ.b)
  ·have t:=Aa ((a:F)<(f:B));refine IK.t t ?_;obtain rfl:a=f:=Y;refine J ?_;exact⟨_,AQ.b,p,r,A,A⟩
def Jn(n:M)(m:S):Prop:=(m=[]/\∃a p,n=O a 0 p)\/∃l o f,n=Q l 1 o/\m=[.t l f 177]/\∃a b j:M,B' a=R/\B' b=R/\B' j=R/\∃q,f=[a,b,j]++q
abbrev I_(f:A6)(a:C4)(l:G M)(j:S):S:=[CS a l,De f a,Dc f a,Dd f a,.u (A2 j)]
def Xg(o:B)(j:A6)(au:j.e)(a:C4)(l:Bu)(p:G B)(ag:G M)(aa:S)(v:B->G B)(m F Y y n t ah ai:B)(L:G M)(r:G M)(z:G B)(a0:p.length=64)(a1:p.getD 1 0=0)(ax:l.s=y)(am:n<j.j y)(av:Dv j ag aa v)
 (ay:AK 130 [A5 o,N y,N (j.g y+n:B)] (AO o j a l::B8 a.d p::F8 a.f a.b m F L) (X I))
 (af:z.length=128)(ak:(r.drop ah).take 128=z.map W):
 Z9 65 [A5 o,N n,O (C ⟨t,ah,E⟩) 128 ai] (AO o j a l::B8 a.d p::B6 a.c j::CY a.e Y::.t t r 5::.t a.f [Q a.b m F] 136::.t a.b (U m (AD 0)++L) 3::I_ j a ag aa)
  λa2 aq=>∃ap ao x q,Jn ap ao/\Dv j x q (Cm v (j.g y+n) z)/\a2=D BQ 229/\aq=AO o j a {l with f:=ap}::B8 a.d p::B6 a.c j::CY a.e Y::.t t r 5::.u (A2 ao)::.t a.f [Q a.b m F] 136::.t a.b (U m (AD 0)++L) 3::I_ j a x q:=by
 subst ax;have al:=Pd a.d 1 p Z a0;rw[a1] at al;have az:=A6.aa am;refine A9.t ?_;refine J ?_;refine A9.b (Sm j au a.c l.s n am) ?_;refine J ?_;refine A9.b ay (J ?_);refine A9.b al (J ?_);intro ar;refine J ?_;refine Cr.v (f:=[]) (h:=[]) A A A A ⟨A,A⟩ (Gt.t (x:=AJ ar [] []) Y0) z ak af ⟨Z,by show 0+128<=_;decide⟩ (λaj an a4=>?_);rw[Bz,af];refine J ?_;intro u;refine J ?_;refine A9.b (m3 a.e Y l.s n) (J ?_);refine A9.u (Xb o j a {l with f:=Q u 1 1} ag aa v (j.g l.s+n) t ah ai r 5 z av az ak af) ?_;rintro v a3 ⟨x,q,aw,rfl,rfl⟩;refine J ?_;refine⟨AO o j a {l with f:=Q u 1 1}::B8 a.d p::B6 a.c j::CY a.e Y::.t t r 5::.u (A2 [.t u [N 0,N (j.g l.s+n:B),Q aj 128 (128+an.length)] 177])::.t a.f [Q a.b m F] 136::.t a.b (U m (AD 0)++L) 3::I_ j a x q,?_,_,_,x,q,Ae ⟨u,1,_,A,A,_,_,_,A,A,A,[],A⟩,aw,A,A⟩;refine(AQ.ab (a:=.t u [N 0,N (j.g l.s+n:B),Q aj 128 (128+an.length)] 177::AO o j a {l with f:=Q u 1 1}::B8 a.d p::B6 a.c j::CY a.e Y::.t t r 5::.t a.f [Q a.b m F] 136::.t a.b (U m (AD 0)++L) 3::I_ j a x q) Y0).t ((AQ.aa [_] _).t AQ.b)
def Bu.j(a:Bu):Bu:={a with f:=A0,c:=A0,i:=0}
def Bu.v(a:Bu):Bu:={a with f:=A0}
def lP(f:B)(n:A6)(a:C4)(q p:Bu)(m j:B4)(l arg x:B)(o:S)(t:arg<4294967296)(U:j.a<16)(Q:j.a≠6)(u:B5 m.a ((l:B):F) (m.b arg)=((x:F),R))(P:m.e l arg=(I,R,j))
 (M:Ay 142 [A5 f,N l] [AO f n a q] (AL #[]) [AO f n a p]):
 Ay 72 [A5 f,BY l arg,X R] (AO f n a q::Aq a.a m::o) NV (AO f n a p.j::Aq a.a j::o):=by
 have r:=JQ a.a l arg m t;rw[u] at r;have L:=JP a.a l arg x m t u I j P;have V:((j.a:F)!=6)=R:=Y8;refine A9.t ?_;intro z;refine J ?_;intro G;refine J ?_;refine A9.u r ?_;rintro v y ⟨rfl,rfl⟩;refine J ?_;refine A9.u L ?_;rintro v y ⟨rfl,rfl⟩;refine J ?_;refine A9.b M ?_;refine J ?_;exact⟨_,AQ.u (GS.t (f:=[.t G _ _,.t z _ _,AO f n a p.j,Aq a.a j]) (c:=o) Y0)|>.t ((AQ.y _).t (AQ.y _)),A,A⟩
def XY(l:B)(n:A6)(f:C4)(L o:Bu)(u j:B4)(m arg Q:B)(t:S)(V:m=3\/m=7\/m=12\/m=13)(M:arg<4294967296)(W:j.a<16)(Y:j.a≠6)(P:B5 u.a ((m:B):F) (u.b arg)=((Q:F),R))(U:u.e m arg=(R,R,j))
 (G:Ay 142 [A5 l,N m] [AO l n f L] (AL #[]) [AO l n f o]):
 Ay 72 [A5 l,BY m arg,X R] (AO l n f L::Aq f.a u::t) (Ar I A0 (B0 j.a o.a) A0) (AO l n f {o.j with a:=0}::Aq f.a j::t):=by
 have x:=JQ f.a m arg u M;rw[P] at x;have y:=JP f.a m arg Q u M P R j U;have Z:((j.a:F)!=6)=R:=Y8;have z:=MJ l n f o.j j W;rcases V with rfl|rfl|rfl|rfl
 ·refine A9.t ?_;intro q;refine J ?_;intro r;refine J ?_;refine A9.b x ?_;refine J ?_;refine A9.u y ?_;rintro v p ⟨rfl,rfl⟩;refine J ?_;refine A9.b G ?_;refine J ?_;refine A9.u z ?_;rintro v p ⟨rfl,rfl⟩;refine J ?_;exact⟨_,AQ.u (GS.t (f:=[.t r _ _,.t q _ _,AO l n f {o.j with a:=0},Aq f.a j]) (c:=t) Y0)|>.t ((AQ.y _).t (AQ.y _)),A,A⟩
 ·refine A9.t ?_;intro q;refine J ?_;intro r;refine J ?_;refine A9.b x ?_;refine J ?_;refine A9.u y ?_;rintro v p ⟨rfl,rfl⟩;refine J ?_;refine A9.b G ?_;refine J ?_;refine A9.u z ?_;rintro v p ⟨rfl,rfl⟩;refine J ?_;exact⟨_,AQ.u (GS.t (f:=[.t r _ _,.t q _ _,AO l n f {o.j with a:=0},Aq f.a j]) (c:=t) Y0)|>.t ((AQ.y _).t (AQ.y _)),A,A⟩
 ·refine A9.t ?_;intro q;refine J ?_;intro r;refine J ?_;refine A9.b x ?_;refine J ?_;refine A9.u y ?_;rintro v p ⟨rfl,rfl⟩;refine J ?_;refine A9.b G ?_;refine J ?_;refine A9.u z ?_;rintro v p ⟨rfl,rfl⟩;refine J ?_;exact⟨_,AQ.u (GS.t (f:=[.t r _ _,.t q _ _,AO l n f {o.j with a:=0},Aq f.a j]) (c:=t) Y0)|>.t ((AQ.y _).t (AQ.y _)),A,A⟩
 ·refine A9.t ?_;intro q;refine J ?_;intro r;refine J ?_;refine A9.b x ?_;refine J ?_;refine A9.u y ?_;rintro v p ⟨rfl,rfl⟩;refine J ?_;refine A9.b G ?_;refine J ?_;refine A9.u z ?_;rintro v p ⟨rfl,rfl⟩;refine J ?_;exact⟨_,AQ.u (GS.t (f:=[.t r _ _,.t q _ _,AO l n f {o.j with a:=0},Aq f.a j]) (c:=t) Y0)|>.t ((AQ.y _).t (AQ.y _)),A,A⟩
def lK(f:B)(m:A6)(a:C4)(p o:Bu)(l j:B4)(arg u:B)(n:S)(r:arg<4294967296)(Q:j.a<16)(P:j.a≠6)(t:B5 l.a ((1:B):F) (l.b arg)=((u:F),R))(M:l.e 1 arg=(R,R,j))
 (L:Ay 142 [A5 f,N 1] [AO f m a p] (AL #[]) [AO f m a o]):
 Ay 72 [A5 f,BY 1 arg,X R] (AO f m a p::Aq a.a l::n) (Ar I A0 2164228224 A0) (AO f m a o.j::Aq a.a j::n):=by
 have q:=JQ a.a 1 arg l r;rw[t] at q;have G:=JP a.a 1 arg u l r t R j M;have U:((j.a:F)!=6)=R:=Y8;refine A9.t ?_;intro y;refine J ?_;intro z;refine J ?_;refine A9.u q ?_;rintro v x ⟨rfl,rfl⟩;refine J ?_;refine A9.u G ?_;rintro v x ⟨rfl,rfl⟩;refine J ?_;refine A9.b L ?_;refine J ?_;exact⟨_,AQ.u (GS.t (f:=[.t z _ _,.t y _ _,AO f m a o.j,Aq a.a j]) (c:=n) Y0)|>.t ((AQ.y _).t (AQ.y _)),A,A⟩
def lJ(f:B)(l:A6)(a:C4)(r o:Bu)(m j:B4)(arg W:B)(n:S)(G:M->S->Prop)(y:arg<4294967296)(al:j.a<16)(ak:j.a≠6)(z:B5 m.a ((17:B):F) (m.b arg)=((W:F),R))(ai:m.e 17 arg=(R,R,j))
 (ah:Ay 142 [A5 f,N 17] [AO f l a r] (AL #[]) [AO f l a o])
 (ag:Z9 147 [A5 f,BY 17 arg] (AO f l a o.j::Aq a.a j::n) λv Z=>∃V p Q L Y q U P,v=Ar V (O p Q L) Y (O q U P)/\G v Z):
 Z9 72 [A5 f,BY 17 arg,X R] (AO f l a r::Aq a.a m::n) G:=by
 have x:=JQ a.a 17 arg m y;rw[z] at x;have af:=JP a.a 17 arg W m y z R j ai;have am:((j.a:F)!=6)=R:=Y8;refine A9.t ?_;intro t;refine J ?_;intro u;refine J ?_;refine A9.b x ?_;refine J ?_;refine A9.u af ?_;rintro v aa ⟨rfl,rfl⟩;refine J ?_;refine A9.b ah ?_;refine J ?_;refine A9.w (a:=[.t u _ _,.t t _ _]++(AO f l a o.j::Aq a.a j::n)) (AQ.u (GS.t (f:=[.t u _ _,.t t _ _,AO f l a o.j,Aq a.a j]) (c:=n) Y0)) (A9.ac ag ?_);rintro v aa ⟨V,p,Q,L,Y,q,U,P,rfl,aj⟩;refine J ?_;exact⟨_,(AQ.y _).t (AQ.y _),aj⟩
def lO(f:B)(n:A6)(j:C4)(L u:Bu)(r q:B4)(arg V:B)(t:S)(U:C4->Bu->B4->S->Prop)(P:arg<4294967296)(aj:q.a<16)(ai:q.a≠6)(Q:B5 r.a ((6:B):F) (r.b arg)=((V:F),R))(af:r.e 6 arg=(R,R,q))
 (aa:Ay 142 [A5 f,N 6] [AO f n j L] (AL #[]) [AO f n j u])
 (Z:Z9 145 [A5 f,D Ax arg] (AO f n j u.j::Aq j.a q::t) λv x=>v=AL #[]/\∃l o m p,m.a<16/\x=AO f n l o::Aq l.a m::p/\U l o m p):
 Z9 72 [A5 f,BY 6 arg,X R] (AO f n j L::Aq j.a r::t) λv x=>∃l o m p,U l o m p/\v=Ar I A0 (B0 m.a o.a) A0/\x=AO f n l {o with a:=0}::Aq l.a m::p:=by
 have M:=JQ j.a 6 arg r P;rw[Q] at M;have W:=JP j.a 6 arg V r P Q R q af;have ak:((q.a:F)!=6)=R:=Y8;refine A9.t ?_;intro y;refine J ?_;intro z;refine J ?_;refine A9.u M ?_;rintro v G ⟨rfl,rfl⟩;refine J ?_;refine A9.u W ?_;rintro v G ⟨rfl,rfl⟩;refine J ?_;refine A9.b aa ?_;refine J ?_;refine A9.w (a:=[.t z _ _,.t y _ _]++(AO f n j u.j::Aq j.a q::t)) (AQ.u (GS.t (f:=[.t z _ _,.t y _ _,AO f n j u.j,Aq j.a q]) (c:=t) Y0)) (A9.ac Z ?_);rintro v G ⟨rfl,l,o,m,p,ah,rfl,ag⟩;have Y:=MJ f n l o m ah;refine J ?_;refine A9.b Y ?_;refine J ?_;exact⟨_,AQ.u (GS.t (f:=[.t z _ _,.t y _ _,AO f n l {o with a:=0},Aq l.a m]) (c:=p) Y0)|>.t ((AQ.y _).t (AQ.y _)),l,o,m,p,ag,A,A⟩
def lL(f:B)(n:A6)(j:C4)(L u:Bu)(r q:B4)(arg V:B)(t:S)(U:C4->Bu->B4->S->Prop)(P:arg<4294967296)(aj:q.a<16)(ai:q.a≠6)(Q:B5 r.a ((23:B):F) (r.b arg)=((V:F),R))(af:r.e 23 arg=(R,R,q))
 (aa:Ay 142 [A5 f,N 23] [AO f n j L] (AL #[]) [AO f n j u])
 (Z:Z9 148 [A5 f,D Ax arg] (AO f n j u.j::Aq j.a q::t) λv x=>v=AL #[]/\∃l o m p,m.a<16/\x=AO f n l o::Aq l.a m::p/\U l o m p):
 Z9 72 [A5 f,BY 23 arg,X R] (AO f n j L::Aq j.a r::t) λv x=>∃l o m p,U l o m p/\v=Ar I A0 (B0 m.a o.a) A0/\x=AO f n l {o with a:=0}::Aq l.a m::p:=by
 have M:=JQ j.a 23 arg r P;rw[Q] at M;have W:=JP j.a 23 arg V r P Q R q af;have ak:((q.a:F)!=6)=R:=Y8;refine A9.t ?_;intro y;refine J ?_;intro z;refine J ?_;refine A9.u M ?_;rintro v G ⟨rfl,rfl⟩;refine J ?_;refine A9.u W ?_;rintro v G ⟨rfl,rfl⟩;refine J ?_;refine A9.b aa ?_;refine J ?_;refine A9.w (a:=[.t z _ _,.t y _ _]++(AO f n j u.j::Aq j.a q::t)) (AQ.u (GS.t (f:=[.t z _ _,.t y _ _,AO f n j u.j,Aq j.a q]) (c:=t) Y0)) (A9.ac Z ?_);rintro v G ⟨rfl,l,o,m,p,ah,rfl,ag⟩;have Y:=MJ f n l o m ah;refine J ?_;refine A9.b Y ?_;refine J ?_;exact⟨_,AQ.u (GS.t (f:=[.t z _ _,.t y _ _,AO f n l {o with a:=0},Aq l.a m]) (c:=p) Y0)|>.t ((AQ.y _).t (AQ.y _)),l,o,m,p,ag,A,A⟩
def lM(f:B)(n:A6)(j:C4)(L u:Bu)(r q:B4)(arg V:B)(t:S)(U:C4->Bu->B4->S->Prop)(P:arg<4294967296)(aj:q.a<16)(W:q.a=6)(Q:B5 r.a ((24:B):F) (r.b arg)=((V:F),R))(ag:r.e 24 arg=(R,R,q))
 (af:Ay 142 [A5 f,N 24] [AO f n j L] (AL #[]) [AO f n j u])
 (aa:Z9 149 [A5 f,BY 24 arg] (AO f n j u.v::Aq j.a q::t) λv x=>v=AL #[]/\∃l o m p,m.a<16/\x=AO f n l o::Aq l.a m::p/\U l o m p):
 Z9 72 [A5 f,BY 24 arg,X R] (AO f n j L::Aq j.a r::t) λv x=>∃l o m p,U l o m p/\v=Ar I A0 (B0 m.a o.a) A0/\x=AO f n l {o with a:=0}::Aq l.a m::p:=by
 have M:=JQ j.a 24 arg r P;rw[Q] at M;have Y:=JP j.a 24 arg V r P Q R q ag;have ak:((q.a:F)!=6)=I:=by rw[W];rfl
 refine A9.t ?_;intro y;refine J ?_;intro z;refine J ?_;refine A9.u M ?_;rintro v G ⟨rfl,rfl⟩;refine J ?_;refine A9.u Y ?_;rintro v G ⟨rfl,rfl⟩;refine J ?_;refine A9.b af ?_;refine J ?_;refine A9.w (a:=[.t z _ _,.t y _ _]++(AO f n j u.v::Aq j.a q::t)) (AQ.u (GS.t (f:=[.t z _ _,.t y _ _,AO f n j u.v,Aq j.a q]) (c:=t) Y0)) (A9.ac aa ?_);rintro v G ⟨rfl,l,o,m,p,ai,rfl,ah⟩;have Z:=MJ f n l o m ai;refine J ?_;refine A9.b Z ?_;refine J ?_;exact⟨_,AQ.u (GS.t (f:=[.t z _ _,.t y _ _,AO f n l {o with a:=0},Aq l.a m]) (c:=p) Y0)|>.t ((AQ.y _).t (AQ.y _)),l,o,m,p,ah,A,A⟩
def XX(f:B)(n:A6)(j:C4)(L u:Bu)(r q:B4)(arg V:B)(t:S)(U:C4->Bu->B4->S->Prop)(P:arg<4294967296)(aj:q.a<16)(W:q.a=6)(Q:B5 r.a ((25:B):F) (r.b arg)=((V:F),R))(ag:r.e 25 arg=(R,R,q))
 (af:Ay 142 [A5 f,N 25] [AO f n j L] (AL #[]) [AO f n j u])
 (aa:Z9 149 [A5 f,BY 25 arg] (AO f n j u.v::Aq j.a q::t) λv x=>v=AL #[]/\∃l o m p,m.a<16/\x=AO f n l o::Aq l.a m::p/\U l o m p):
 Z9 72 [A5 f,BY 25 arg,X R] (AO f n j L::Aq j.a r::t) λv x=>∃l o m p,U l o m p/\v=Ar I A0 (B0 m.a o.a) A0/\x=AO f n l {o with a:=0}::Aq l.a m::p:=by
 have M:=JQ j.a 25 arg r P;rw[Q] at M;have Y:=JP j.a 25 arg V r P Q R q ag;have ak:((q.a:F)!=6)=I:=by rw[W];rfl
 refine A9.t ?_;intro y;refine J ?_;intro z;refine J ?_;refine A9.u M ?_;rintro v G ⟨rfl,rfl⟩;refine J ?_;refine A9.u Y ?_;rintro v G ⟨rfl,rfl⟩;refine J ?_;refine A9.b af ?_;refine J ?_;refine A9.w (a:=[.t z _ _,.t y _ _]++(AO f n j u.v::Aq j.a q::t)) (AQ.u (GS.t (f:=[.t z _ _,.t y _ _,AO f n j u.v,Aq j.a q]) (c:=t) Y0)) (A9.ac aa ?_);rintro v G ⟨rfl,l,o,m,p,ai,rfl,ah⟩;have Z:=MJ f n l o m ai;refine J ?_;refine A9.b Z ?_;refine J ?_;exact⟨_,AQ.u (GS.t (f:=[.t z _ _,.t y _ _,AO f n l {o with a:=0},Aq l.a m]) (c:=p) Y0)|>.t ((AQ.y _).t (AQ.y _)),l,o,m,p,ah,A,A⟩
def lR(o:B)(j:A6)(bc:j.e)(a:C4)(ag:Bu)(n:B4)(p:G B)(a1:G M)(az:S)(v:B->G B)(m aa ai ak aj L a4 a6 bb a2:B)(l:G B)(ba:G M)(af:G M)(z:G M)(ay:G B)(bi:p.length=64)(bj:p.getD 1 0=0)(br:ag.s=ak)(b4:ak≠3)(bk:aj<j.j ak)(bd:Dv j a1 az v)
 (a8:n.a=6)(bh:1<=n.f/\n.f<=64)(bs:ag.i=0)(bv:ag.c=Q bb (l.length+1) a2)(b5:l.length<=64)(b6:l.length+1<=a2)
 (bg:∀ag:Bu,AK 130 [A5 o,N ak,N (j.g ak+aj:B)] (AO o j a ag::B8 a.d p::F8 a.f a.b m aa af) (X I))
 (bf:ay.length=128)(be:(z.drop a4).take 128=ay.map W):
 Z9 26 [A5 o,O (C ⟨L,a4,E⟩) 128 a6,X R] (AO o j a ag::Aq a.a n::.t bb ((aj::l).map AD++ba) 3::B8 a.d p::B6 a.c j::CY a.e ai::.t L z 5::.t a.f [Q a.b m aa] 136::.t a.b (U m (AD 0)++af) 3::I_ j a a1 az)
  λb1 bn=>∃q x u r bm bl,Jn q x/\GQ bm bl l/\Dv j u r (Cm v (j.g ak+aj) ay)/\b1=D BQ 229/\bn=AO o j a {ag with c:=bm,f:=q}::Aq a.a n.g::.u (A2 bl)::B8 a.d p::B6 a.c j::CY a.e ai::.t L z 5::.u (A2 x)::.t a.f [Q a.b m aa] 136::.t a.b (U m (AD 0)++af) 3::I_ j a u r:=by
 obtain⟨aw,al,rel,aq,am,av,an,ao,t,bx,bq,au,q,ap,ar⟩:=ag;obtain rfl:bq=0:=bs;obtain rfl:bx=_:=bv;obtain rfl:t=ak:=br;have b8:((n.a:F)!=6)=I:=by rw[a8];rfl
 have b7:((t:F)==3)=I:=Y9;refine A9.t ?_;refine J ?_;refine Qh.mk 0 A Y ?_;refine J ?_;obtain⟨a3,bt,bu⟩:∃a3,(if a2=1 then 0 else 0+1*1)=a3/\(((aj::l).map AD++ba).drop a3).take l.length=l.map AD:=by
  refine⟨_,A,?_⟩;split
  ·have:l=[]:=Hi.1 Y;subst this;rfl
  ·show((aj::l).map AD++ba).tail.take l.length=_;exact C_ Y1
 intro a0;refine J ?_;refine Qp.mk 1 (l.length+1) a2 a3 A A A ⟨Y,Y,Y⟩ A bt (J ?_);rw[show l.length+1-1=l.length by omega];cases l with
 |nil=>
  refine Cr.ab (yq:=_) A A A A A A (AI _) (J ?_);refine A9.b (X' a.a n a8 bh) (J ?_);refine A9.u (Xg o j bc a ⟨aw,al,rel,aq,am,av,an,ao,t,Q a0 0 0,0,au,O E 0 0,ap,ar⟩ p a1 az v m aa ai t aj L a4 a6 af z ay bi bj A bk bd (bg _) bf be) ?_;rintro v bo ⟨q,x,u,r,a9,a7,rfl,rfl⟩;refine J ?_;refine⟨AO o j a ⟨aw,al,rel,aq,am,av,an,ao,t,Q a0 0 0,0,au,q,ap,ar⟩::Aq a.a n.g::.u (A2 [])::B8 a.d p::B6 a.c j::CY a.e ai::.t L z 5::.u (A2 x)::.t a.f [Q a.b m aa] 136::.t a.b (U m (AD 0)++af) 3::I_ j a u r,?_,q,x,u,r,Q a0 0 0,[],a9,AT ⟨A,A,_,_,A⟩,a7,A,A⟩;exact(AQ.ab (a:=AO o j a ⟨aw,al,rel,aq,am,av,an,ao,t,Q a0 0 0,0,au,q,ap,ar⟩::Aq a.a n.g::B8 a.d p::B6 a.c j::CY a.e ai::.t L z 5::.u (A2 x)::.t a.f [Q a.b m aa] 136::.t a.b (U m (AD 0)++af) 3::I_ j a u r) Y0).t ((AQ.aa [] _).t AQ.b)
 |cons y l=>
  refine Cr.y (j:=_) A A A A A A A ⟨A,Z⟩ ⟨A,Z,Z⟩ ((y::l).map AD) ?_ AFd ?_ ⟨?_,Z⟩ ?_
  ·rw[<-bu];exact AB (λa=>GJ a _) (B3 _)
  ·simp[AD,B']
  ·show 0+(y::l).length<=_;omega
  intro ah ax a5 bp b2 b3;rw[BF (y::l).length];refine J ?_;refine A9.b (X' a.a n a8 bh) (J ?_);refine A9.u (Xg o j bc a ⟨aw,al,rel,aq,am,av,an,ao,t,Q ah (y::l).length ax,0,au,O E 0 0,ap,ar⟩ p a1 az v m aa ai t aj L a4 a6 af z ay bi bj A bk bd (bg _) bf be) ?_;rintro v bo ⟨q,x,u,r,a9,a7,rfl,rfl⟩;refine J ?_;refine⟨AO o j a ⟨aw,al,rel,aq,am,av,an,ao,t,Q ah (y::l).length ax,0,au,q,ap,ar⟩::Aq a.a n.g::.u (A2 [.t ah ((y::l).map AD++a5) 3])::B8 a.d p::B6 a.c j::CY a.e ai::.t L z 5::.u (A2 x)::.t a.f [Q a.b m aa] 136::.t a.b (U m (AD 0)++af) 3::I_ j a u r,?_,q,x,u,r,Q ah (y::l).length ax,[.t ah ((y::l).map AD++a5) 3],a9,Ae ⟨ah,ax,a5,by simpa using bp,A,A⟩,a7,A,A⟩;exact(AQ.ab (a:=.t ah ((y::l).map AD++a5) 3::AO o j a ⟨aw,al,rel,aq,am,av,an,ao,t,Q ah (y::l).length ax,0,au,q,ap,ar⟩::Aq a.a n.g::B8 a.d p::B6 a.c j::CY a.e ai::.t L z 5::.u (A2 x)::.t a.f [Q a.b m aa] 136::.t a.b (U m (AD 0)++af) 3::I_ j a u r) Y0).t ((AQ.aa [_] _).t AQ.b)
noncomputable def AAF(l:B)(f:Code):G Al:=
 Code.rec (motive:=λ_=>G Al) [] (λj m _=>match Nat.beq j l with|true=>m.toList|false=>[]) (λ_ _ a b=>a++b) (λ_ _ _ a b=>a++b) (λ_ _ b=>b) (λ_ b=>b) (λ_ _ _ _ _ _=>[]) (λ_=>[]) (λ_ b=>b) (λ_=>[]) (λ_=>[]) [] (λ_=>[]) f
noncomputable def SC:G Al:=match Tryz.f44.body with|some a=>AAF 4 a|none=>[]
abbrev L7(a:B):M:=N a
abbrev K4(f a:B):M:=Q f a a
abbrev j6(a:A6)(f:B):AP:=[(29,L7 a.a),(27,L7 a.a),(25,L7 a.a),(23,L7 a.a),(21,AV (U 64 (W 0)).toArray),(19,AV #[N 0,N 0,D Q_ 0]),(18,DA a),(4,L7 a.a),(1,A5 f)]
abbrev Rz(f:A6)(a:B):BL:=.t a [N 0,N 0,D Q_ 0] 39
abbrev S0(f:A6)(a:B):BL:=.t a (U 64 (W 0)) 134
abbrev S1(a:A6)(f:B):BL:=.t f (U a.a A0++[]) 31
abbrev S2(a:A6)(f:B):BL:=.t f (U a.a A0++[]) 31
abbrev S3(a:A6)(f:B):BL:=.t f (U a.a (X I)++[]) 4
abbrev S4(a:A6)(f:B):BL:=.t f (U a.a A0++[]) 46
abbrev NT(a:A6)(f:B):BL:=.t f (IP a) 27
abbrev XW(a:A6)(f j l m n o:B):G M:=[N 70,N a.d,N 128,N a.b,N a.f,N a.s,N a.c,N a.i,N a.u,A5 f,A5 j,T E,T E,T E,T E,K4 l a.a,K4 m a.a,K4 n a.a,D Ax 0,N 0,X I,X I,N 0,N 0,X I,X I,N 0,A0,N 0,X I,A0,K4 o a.a,N 0,N 0]
abbrev j7(a:A6)(f:B):G (B×CQ):=[(0,.aa f 0 9 R (DA a))]
abbrev a_(l:A6)(o n j:B)(m:AP)(f:S)(a:AP->S->Prop):Prop:=Kv A4 Tryz.f44.ntmps SC (D2 [] SC) n j m f (j7 l o) a
abbrev WU(f:A6)(j a:B):(B×M)×BL:=match j with
 |20=>((20,A5 a),Rz f a)
 |22=>((22,A5 a),S0 f a)
 |24=>((24,K4 a f.a),S1 f a)
 |26=>((26,K4 a f.a),S2 f a)
 |28=>((28,K4 a f.a),S3 f a)
 |_=>((30,K4 a f.a),S4 f a)
abbrev UI(f:A6)(n:AP->S->Prop)(l:B)(j:G B)(v:B->B):Prop:=a_ f l (9-j.length) (j.foldl (λm a=>m|||1<<<(a-18)) 2731) ((j.map λa=>(WU f a (v a)).1)++j6 f l) ((j.map λa=>(WU f a (v a)).2)++[NT f l]) n
def Ba(j:A6)(f:AP->S->Prop)(l:B)(a:G B):Prop:=∀v,UI j f l a v
def UH(l:A6)(j:AP->S->Prop)(n:B)(f:G B)(o:B):Prop:=∀(v:B->B)(m:B),UI l j n f λa=>if a=o then m else v a
def Ba.b{a:AP->S->Prop}(j:Ba xp a l q)(f:B):UH xp a l q f:=λ_ _=>j _
variable{zd:Prop}
def Ba.a{a:AP->S->Prop}(j:Ba xp a l q)(f:B)(b:zd):UH xp a l q f/\zd:=⟨j.b f,b⟩
instance{f:Type}{a:f->BL}{m:f}{p:G f}{j:S}{o:B}{n:G M}{l:AU}[q:Bo (a m::(p.map a++j)) o n l]:Bo ((m::p).map a++j) o n l:=q
instance{m:Type}{n:m->BL}{a:S}{l:B}{j:G M}{f:AU}[o:Bo a l j f]:Bo (([]:G m).map n++a) l j f:=o
def Bk{a f:Prop}(j:a)(l:a->f:=by
 intro h v;refine J ?_;revert h
 repeat' refine And.imp ?_ ?_
 all_goals
  intro h;first
   |intro g
    refine J ?_;exact Ql.mk ⟨_,_,by repeat(first|exact trivial|refine⟨rfl,?_⟩),AQ.b,Mt.mk (aY.mk rfl) (h v g)⟩
   |refine Cr.t rfl rfl rfl rfl rfl rfl ⟨Nat.le_refl _,by first|(show 24*_<=_;omega)|(show 1*_<=_;omega),by show _<=9223372036854775807;omega⟩ (List.replicate _ _++[]) (by rw[List.append_nil];exact(congrArg (D8 _) (Nat.mul_one _)).trans (DM _ _)) (λg=>?_)
    refine J ?_;exact Ql.mk ⟨_,_,by repeat(first|exact trivial|refine⟨rfl,?_⟩),AQ.b,Mt.mk (aY.mk rfl) (h v g)⟩):f:=l j
def AAE(a:A6)(bs:a.a<=1000)(j:AP->S->Prop)(f:B)(bk:∀l az a0 a1 a2 a3 a4:B,j [(5,A5 l),(32,A5 l),(1,A5 f)] [.t l (XW a az a0 a1 a2 a3 a4) 52,Rz a az,S0 a a0,S1 a a1,S2 a a2,S3 a a3,S4 a a4,NT a f]):Oq A4 Tryz.f44.ntmps SC [(4,L7 a.a),(1,A5 f)] [NT a f] j:=by
 have m:Ba a j f [20,22,24,26,28,30]:=by
  intro v;refine J ?_;intro l;refine J ?_;refine Ql.mk ⟨[(32,A5 l),(1,A5 f)],[.t l (XW a (v 20) (v 22) (v 24) (v 26) (v 28) (v 30)) 52,Rz a (v 20),S0 a (v 22),S1 a (v 24),S2 a (v 26),S3 a (v 28),S4 a (v 30),NT a f],⟨A,A,AA⟩,AQ.u (DZ Y3),?_⟩;refine J ?_;exact bk l (v 20) (v 22) (v 24) (v 26) (v 28) (v 30)
 have n:Ba a j f [20,22,24,26,28]:=Bk (m.b 30);have o:Ba a j f [20,22,24,26,30]:=Bk (m.b 28);have p:Ba a j f [20,22,24,28,30]:=Bk (m.b 26);have q:Ba a j f [20,22,26,28,30]:=Bk (m.b 24);have r:Ba a j f [20,24,26,28,30]:=Bk (m.b 22);have t:Ba a j f [22,24,26,28,30]:=Bk (m.b 20);have u:Ba a j f [20,22,24,26]:=Bk (n.a 28 (o.b 30));have x:Ba a j f [20,22,24,28]:=Bk (n.a 26 (p.b 30));have y:Ba a j f [20,22,24,30]:=Bk (o.a 26 (p.b 28));have z:Ba a j f [20,22,26,28]:=Bk (n.a 24 (q.b 30));have F:Ba a j f [20,22,26,30]:=Bk (o.a 24 (q.b 28));have G:Ba a j f [20,22,28,30]:=Bk (p.a 24 (q.b 26));have L:Ba a j f [20,24,26,28]:=Bk (n.a 22 (r.b 30));have M:Ba a j f [20,24,26,30]:=Bk (o.a 22 (r.b 28));have N:Ba a j f [20,24,28,30]:=Bk (p.a 22 (r.b 26));have P:Ba a j f [20,26,28,30]:=Bk (q.a 22 (r.b 24));have Q:Ba a j f [22,24,26,28]:=Bk (n.a 20 (t.b 30));have U:Ba a j f [22,24,26,30]:=Bk (o.a 20 (t.b 28));have V:Ba a j f [22,24,28,30]:=Bk (p.a 20 (t.b 26));have W:Ba a j f [22,26,28,30]:=Bk (q.a 20 (t.b 24));have Y:Ba a j f [24,26,28,30]:=Bk (r.a 20 (t.b 22));have Z:Ba a j f [20,22,24]:=Bk (u.a 26 (x.a 28 (y.b 30)));have aa:Ba a j f [20,22,26]:=Bk (u.a 24 (z.a 28 (F.b 30)));have af:Ba a j f [20,22,28]:=Bk (x.a 24 (z.a 26 (G.b 30)));have ag:Ba a j f [20,22,30]:=Bk (y.a 24 (F.a 26 (G.b 28)));have ah:Ba a j f [20,24,26]:=Bk (u.a 22 (L.a 28 (M.b 30)));have ai:Ba a j f [20,24,28]:=Bk (x.a 22 (L.a 26 (N.b 30)));have aj:Ba a j f [20,24,30]:=Bk (y.a 22 (M.a 26 (N.b 28)));have ak:Ba a j f [20,26,28]:=Bk (z.a 22 (L.a 24 (P.b 30)));have al:Ba a j f [20,26,30]:=Bk (F.a 22 (M.a 24 (P.b 28)));have am:Ba a j f [20,28,30]:=Bk (G.a 22 (N.a 24 (P.b 26)));have an:Ba a j f [22,24,26]:=Bk (u.a 20 (Q.a 28 (U.b 30)));have ao:Ba a j f [22,24,28]:=Bk (x.a 20 (Q.a 26 (V.b 30)));have ap:Ba a j f [22,24,30]:=Bk (y.a 20 (U.a 26 (V.b 28)));have aq:Ba a j f [22,26,28]:=Bk (z.a 20 (Q.a 24 (W.b 30)));have ar:Ba a j f [22,26,30]:=Bk (F.a 20 (U.a 24 (W.b 28)));have au:Ba a j f [22,28,30]:=Bk (G.a 20 (V.a 24 (W.b 26)));have av:Ba a j f [24,26,28]:=Bk (L.a 20 (Q.a 22 (Y.b 30)));have aw:Ba a j f [24,26,30]:=Bk (M.a 20 (U.a 22 (Y.b 28)));have ax:Ba a j f [24,28,30]:=Bk (N.a 20 (V.a 22 (Y.b 26)));have ay:Ba a j f [26,28,30]:=Bk (P.a 20 (W.a 22 (Y.b 24)));have a5:Ba a j f [20,22]:=Bk (Z.a 24 (aa.a 26 (af.a 28 (ag.b 30))));have a6:Ba a j f [20,24]:=Bk (Z.a 22 (ah.a 26 (ai.a 28 (aj.b 30))));have a7:Ba a j f [20,26]:=Bk (aa.a 22 (ah.a 24 (ak.a 28 (al.b 30))));have a8:Ba a j f [20,28]:=Bk (af.a 22 (ai.a 24 (ak.a 26 (am.b 30))));have a9:Ba a j f [20,30]:=Bk (ag.a 22 (aj.a 24 (al.a 26 (am.b 28))));have ba:Ba a j f [22,24]:=Bk (Z.a 20 (an.a 26 (ao.a 28 (ap.b 30))));have bb:Ba a j f [22,26]:=Bk (aa.a 20 (an.a 24 (aq.a 28 (ar.b 30))));have bc:Ba a j f [22,28]:=Bk (af.a 20 (ao.a 24 (aq.a 26 (au.b 30))));have bd:Ba a j f [22,30]:=Bk (ag.a 20 (ap.a 24 (ar.a 26 (au.b 28))));have be:Ba a j f [24,26]:=Bk (ah.a 20 (an.a 22 (av.a 28 (aw.b 30))));have bf:Ba a j f [24,28]:=Bk (ai.a 20 (ao.a 22 (av.a 26 (ax.b 30))));have bg:Ba a j f [24,30]:=Bk (aj.a 20 (ap.a 22 (aw.a 26 (ax.b 28))));have bh:Ba a j f [26,28]:=Bk (ak.a 20 (aq.a 22 (av.a 24 (ay.b 30))));have bi:Ba a j f [26,30]:=Bk (al.a 20 (ar.a 22 (aw.a 24 (ay.b 28))));have bj:Ba a j f [28,30]:=Bk (am.a 20 (au.a 22 (ax.a 24 (ay.b 26))));have bm:Ba a j f [20]:=Bk (a5.a 22 (a6.a 24 (a7.a 26 (a8.a 28 (a9.b 30)))));have bn:Ba a j f [22]:=Bk (a5.a 20 (ba.a 24 (bb.a 26 (bc.a 28 (bd.b 30)))));have bo:Ba a j f [24]:=Bk (a6.a 20 (ba.a 22 (be.a 26 (bf.a 28 (bg.b 30)))));have bp:Ba a j f [26]:=Bk (a7.a 20 (bb.a 22 (be.a 24 (bh.a 28 (bi.b 30)))));have bq:Ba a j f [28]:=Bk (a8.a 20 (bc.a 22 (bf.a 24 (bh.a 26 (bj.b 30)))));have br:Ba a j f [30]:=Bk (a9.a 20 (bd.a 22 (bg.a 24 (bi.a 26 (bj.b 28)))));have bl:Ba a j f []:=Bk (bm.a 20 (bn.a 22 (bo.a 24 (bp.a 26 (bq.a 28 (br.b 30))))));refine J ?_;exact bl λ_=>0
def lI(a:S):Z9 143 [] a λv m=>∃f n t,v=Q f 16 n/\m=AJ f Ep t::a:=by
 refine A9.t ?_;intro o;refine J ?_;refine Cr.al A A A A (J ?_);refine Cr.ap (q:=[76,79,67,75,69,84]) (m:=10) A A A A (λx B z p r u q=>Rr (g:=o) p r u q) A Z Z ⟨Z,Z⟩ (λj l y=>?_);refine J ?_;exact⟨AJ j Ep l::a,AQ.z _ (AQ.y _),j,_,l,A,A⟩
def lN(f:B)(l:A6)(a:C4)(t q:Bu)(n j:B4)(arg z:B)(p:S)(x:arg<4294967296)(af:j.a<16)(aa:j.a≠6)(y:B5 n.a ((2:B):F) (n.b arg)=((z:F),R))(Z:n.e 2 arg=(R,R,j))
 (Y:Ay 142 [A5 f,N 2] [AO f l a t] (AL #[]) [AO f l a q]):
 Z9 72 [A5 f,BY 2 arg,X R] (AO f l a t::Aq a.a n::p) λv G=>∃m r o,v=Ar I (Q m 16 r) 0 A0/\G=AJ m Ep o::AO f l a q.j::Aq a.a j::p:=by
 have u:=JQ a.a 2 arg n x;rw[y] at u;have W:=JP a.a 2 arg z n x y R j Z;have ag:((j.a:F)!=6)=R:=Y8;refine A9.t ?_;intro M;refine J ?_;intro U;refine J ?_;refine A9.b u ?_;refine J ?_;refine A9.u W ?_;rintro v L ⟨rfl,rfl⟩;refine J ?_;refine A9.b Y ?_;refine J ?_;refine A9.z (lI _) ?_;rintro v L ⟨m,r,o,rfl,rfl⟩;refine J ?_;exact⟨AJ m Ep o::AO f l a q.j::Aq a.a j::p,AQ.u (GS.t (f:=[.t U _ _,.t M _ _,AJ m Ep o,AO f l a q.j,Aq a.a j]) (c:=p) Y0)|>.t ((AQ.y _).t (AQ.y _)),m,r,o,A,A⟩
def Bg(j:q.length=l+1):∃f a,q=f::a/\a.length=l:=by
 cases q with
 |nil=>cases j
 |cons f a=>exact⟨f,a,A,Nat.succ.inj j⟩
def Yv(dg:q.length=64):∃a f y W am az ba bf bg bh j l m n o p r t u x z F L M N P Q S U V Y Z aa af ag ah ai aj ak al an ao ap aq ar au av aw ax ay a0 a1 a2 a3 a4 a5 a6 a7 a8 a9 bb bc bd be,q=[a,f,y,W,am,az,ba,bf,bg,bh,j,l,m,n,o,p,r,t,u,x,z,F,L,M,N,P,Q,S,U,V,Y,Z,aa,af,ag,ah,ai,aj,ak,al,an,ao,ap,aq,ar,au,av,aw,ax,ay,a0,a1,a2,a3,a4,a5,a6,a7,a8,a9,bb,bc,bd,be]:=by
 obtain⟨a,fm,bi,dj⟩:=Bg (l:=63) dg;subst bi;obtain⟨f,fn,bj,dl⟩:=Bg (l:=62) dj;subst bj;obtain⟨y,f1,bu,d0⟩:=Bg (l:=61) dl;subst bu;obtain⟨W,gc,b9,eb⟩:=Bg (l:=60) d0;subst b9;obtain⟨am,gr,cl,en⟩:=Bg (l:=59) eb;subst cl;obtain⟨az,g3,cw,ez⟩:=Bg (l:=58) en;subst cw;obtain⟨ba,hg,c7,fa⟩:=Bg (l:=57) ez;subst c7;obtain⟨bf,hk,dd,fi⟩:=Bg (l:=56) fa;subst dd;obtain⟨bg,hl,de,fj⟩:=Bg (l:=55) fi;subst de;obtain⟨bh,hm,df,fk⟩:=Bg (l:=54) fj;subst df;obtain⟨j,fq,bk,dn⟩:=Bg (l:=53) fk;subst bk;obtain⟨l,fr,bl,dp⟩:=Bg (l:=52) dn;subst bl;obtain⟨m,fs,bm,dq⟩:=Bg (l:=51) dp;subst bm;obtain⟨n,ft,bn,dr⟩:=Bg (l:=50) dq;subst bn;obtain⟨o,fu,bo,ds⟩:=Bg (l:=49) dr;subst bo;obtain⟨p,fv,bp,dt⟩:=Bg (l:=48) ds;subst bp;obtain⟨r,fw,bq,du⟩:=Bg (l:=47) dt;subst bq;obtain⟨t,fy,br,dv⟩:=Bg (l:=46) du;subst br;obtain⟨u,fz,bs,dw⟩:=Bg (l:=45) dv;subst bs;obtain⟨x,f0,bt,dx⟩:=Bg (l:=44) dw;subst bt;obtain⟨z,f2,bv,d1⟩:=Bg (l:=43) dx;subst bv;obtain⟨F,f3,bx,d2⟩:=Bg (l:=42) d1;subst bx;obtain⟨L,f4,b1,d3⟩:=Bg (l:=41) d2;subst b1;obtain⟨M,f5,b2,d4⟩:=Bg (l:=40) d3;subst b2;obtain⟨N,f6,b3,d5⟩:=Bg (l:=39) d4;subst b3;obtain⟨P,f7,b4,d6⟩:=Bg (l:=38) d5;subst b4;obtain⟨Q,f8,b5,d7⟩:=Bg (l:=37) d6;subst b5;obtain⟨S,f9,b6,d8⟩:=Bg (l:=36) d7;subst b6;obtain⟨U,ga,b7,d9⟩:=Bg (l:=35) d8;subst b7;obtain⟨V,gb,b8,ea⟩:=Bg (l:=34) d9;subst b8;obtain⟨Y,gg,ca,ec⟩:=Bg (l:=33) ea;subst ca;obtain⟨Z,gh,cb,ed⟩:=Bg (l:=32) ec;subst cb;obtain⟨aa,gi,cc,ee⟩:=Bg (l:=31) ed;subst cc;obtain⟨af,gj,cd,ef⟩:=Bg (l:=30) ee;subst cd;obtain⟨ag,gl,ce,eg⟩:=Bg (l:=29) ef;subst ce;obtain⟨ah,gm,cg,eh⟩:=Bg (l:=28) eg;subst cg;obtain⟨ai,gn,ch,ei⟩:=Bg (l:=27) eh;subst ch;obtain⟨aj,go,ci,ej⟩:=Bg (l:=26) ei;subst ci;obtain⟨ak,gp,cj,ek⟩:=Bg (l:=25) ej;subst cj;obtain⟨al,gq,ck,em⟩:=Bg (l:=24) ek;subst ck;obtain⟨an,gs,cm,eo⟩:=Bg (l:=23) em;subst cm;obtain⟨ao,gt,cn,ep⟩:=Bg (l:=22) eo;subst cn;obtain⟨ap,gv,co,eq⟩:=Bg (l:=21) ep;subst co;obtain⟨aq,gw,cp,er⟩:=Bg (l:=20) eq;subst cp;obtain⟨ar,gx,cq,es⟩:=Bg (l:=19) er;subst cq;obtain⟨au,gy,cr,et⟩:=Bg (l:=18) es;subst cr;obtain⟨av,gz,cs,eu⟩:=Bg (l:=17) et;subst cs;obtain⟨aw,g0,ct,ev⟩:=Bg (l:=16) eu;subst ct;obtain⟨ax,g1,cu,ew⟩:=Bg (l:=15) ev;subst cu;obtain⟨ay,g2,cv,ex⟩:=Bg (l:=14) ew;subst cv;obtain⟨a0,g4,cx,e0⟩:=Bg (l:=13) ex;subst cx;obtain⟨a1,g5,cy,e1⟩:=Bg (l:=12) e0;subst cy;obtain⟨a2,g6,cz,e2⟩:=Bg (l:=11) e1;subst cz;obtain⟨a3,g7,c0,e3⟩:=Bg (l:=10) e2;subst c0;obtain⟨a4,g8,c1,e4⟩:=Bg (l:=9) e3;subst c1;obtain⟨a5,g9,c2,e5⟩:=Bg (l:=8) e4;subst c2;obtain⟨a6,ha,c3,e6⟩:=Bg (l:=7) e5;subst c3;obtain⟨a7,hd,c4,e7⟩:=Bg (l:=6) e6;subst c4;obtain⟨a8,he,c5,e8⟩:=Bg (l:=5) e7;subst c5;obtain⟨a9,hf,c6,e9⟩:=Bg (l:=4) e8;subst c6;obtain⟨bb,hh,c8,fb⟩:=Bg (l:=3) e9;subst c8;obtain⟨bc,hi,c9,fc⟩:=Bg (l:=2) fb;subst c9;obtain⟨bd,hj,da,ff⟩:=Bg (l:=1) fc;subst da;obtain⟨be,fl,db,fg⟩:=Bg (l:=0) ff;subst db;obtain rfl:fl=[]:=Hi.1 fg;exact⟨_,_,_,_,_,_,_,_,_,_,_,_,_,_,_,_,_,_,_,_,_,_,_,_,_,_,_,_,_,_,_,_,_,_,_,_,_,_,_,_,_,_,_,_,_,_,_,_,_,_,_,_,_,_,_,_,_,_,_,_,_,_,_,_,A⟩
def C4.ab(f:C4)(a:B):C4:={f with d:=a}
def lH(bo:B)(a:A6)(bt:a.e)(f:C4)(bp:Bu)(br:G B)(v:B)(bq:br.length=64)(bv:v<8)(b1:0<a.j v):Z9 145 [A5 bo,D Ax (C7 0 v)] [AO bo a f bp,B8 f.d br,B6 f.c a] λbx bu=>bx=AL #[]/\∃bs,bu=[AO bo a (f.ab bs) bp,B8 bs (br.set 0 v),B6 f.c a]:=by
 obtain⟨j,l,z,ag,ar,a4,bf,bk,bl,bm,m,n,o,p,q,r,t,u,x,y,L,M,P,Q,S,U,V,W,aa,af,ah,ai,aj,ak,al,am,an,ao,ap,aq,au,av,aw,ax,ay,az,a0,a1,a2,a3,a5,a6,a7,a8,a9,ba,bb,bc,bd,be,bg,bh,bi,bj,rfl⟩:=Yv bq;have b2:=A6.w bt v;have b3:(((a.j v:B):F)==0)=I:=Y9;refine A9.t ?_;refine J ?_;refine A9.b (m1 f.d 0 1 v [j,l,z,ag,ar,a4,bf,bk,bl,bm,m,n,o,p,q,r,t,u,x,y,L,M,P,Q,S,U,V,W,aa,af,ah,ai,aj,ak,al,am,an,ao,ap,aq,au,av,aw,ax,ay,az,a0,a1,a2,a3,a5,a6,a7,a8,a9,ba,bb,bc,bd,be,bg,bh,bi,bj] Z Z Y bq) ?_;refine J ?_;intro bn;refine J ?_;refine A9.w (a:=[B8 bn [j,l,z,ag,ar,a4,bf,bk,bl,bm,m,n,o,p,q,r,t,u,x,y,L,M,P,Q,S,U,V,W,aa,af,ah,ai,aj,ak,al,am,an,ao,ap,aq,au,av,aw,ax,ay,az,a0,a1,a2,a3,a5,a6,a7,a8,a9,ba,bb,bc,bd,be,bg,bh,bi,bj],B8 f.d [j,l,z,ag,ar,a4,bf,bk,bl,bm,m,n,o,p,q,r,t,u,x,y,L,M,P,Q,S,U,V,W,aa,af,ah,ai,aj,ak,al,am,an,ao,ap,aq,au,av,aw,ax,ay,az,a0,a1,a2,a3,a5,a6,a7,a8,a9,ba,bb,bc,bd,be,bg,bh,bi,bj],AO bo a f bp,B6 f.c a]) (AQ.u (DZ Y3)) (A9.b (m9 bn v [j,l,z,ag,ar,a4,bf,bk,bl,bm,m,n,o,p,q,r,t,u,x,y,L,M,P,Q,S,U,V,W,aa,af,ah,ai,aj,ak,al,am,an,ao,ap,aq,au,av,aw,ax,ay,az,a0,a1,a2,a3,a5,a6,a7,a8,a9,ba,bb,bc,bd,be,bg,bh,bi,bj] Y bq) ?_);refine A7 ?_;refine A9.b (JS a bt f.c v bv) ?_;refine J ?_;exact⟨[AO bo a (f.ab bn) bp,B8 bn ([j,l,z,ag,ar,a4,bf,bk,bl,bm,m,n,o,p,q,r,t,u,x,y,L,M,P,Q,S,U,V,W,aa,af,ah,ai,aj,ak,al,am,an,ao,ap,aq,au,av,aw,ax,ay,az,a0,a1,a2,a3,a5,a6,a7,a8,a9,ba,bb,bc,bd,be,bg,bh,bi,bj].set 0 v),B6 f.c a],AQ.b,A,bn,A⟩
def cJ{f p q j:M}{l n:Field}{o m:B}(x:l.offset=0)(y:n.offset=1)(r:B9 p=[j])(t:B9 q=er)(u:(B9 f).length=o+1+m)(z:(B9 f).all B'=R)(F:er.length=o):∃a,a.length=m/\a.all B'=R/\B9 (AV (Bf (Bf (B9 f) l.offset (B9 p)) n.offset (B9 q)).toArray)=[j]++(er++a):=by
 rw[x,y,r,t];exact⟨_,by rw[DV,u];omega,Gh.2 λN L=>Gh.1 z N (List.mem_of_mem_drop L),X0 Y F⟩
abbrev Cv(f:B)(a:A6)(j:G M):BL:=.t f ([N a.s]++(EB++j)) 144
def SX(f:B)(z:1<=f/\f<=256):Z9 91 [N f,AV EB.toArray] [] λv q=>∃j a,a.length=90/\a.all B'=R/\v=AL #[P j,N 0]/\q=[.t j ([N f]++(EB++a)) 144]:=by
 have L:=Aa ((f:F)<1);have S:=Aa ((f:F)>256);refine A9.t ?_;intro u;refine J ?_;refine E7.u (p:=32) A Y3 Y3 A A (J ?_);intro j;refine J ?_;conv=>whnf
 have t:∀(l o:G M)(n:AU),(∃a,a.length=90/\a.all B'=R/\l=[N f]++(EB++a))->∃m,AQ [.t j l 144,.t u o n] m/\∃p a,a.length=90/\a.all B'=R/\FA [P j,N 0]=AL #[P p,N 0]/\m=[.t p ([N f]++(EB++a)) 144]:=λl o n⟨a,y,x,r⟩=>by
  rw[r];exact⟨_,AQ.b,j,a,y,x,A,A⟩
 exact t _ _ _ (cJ (o:=34) (m:=90) A A A A (Nat.eq_of_beq_eq_true A) Y3 A)
def Bu.w:Bu:=⟨0,0,I,I,0,0,I,I,0,A0,0,I,A0,0,0⟩
def m0(a:A6)(j:a.e):Z9 44 [DA a] [] λv r=>∃m f p,p.length=90/\p.all B'=R/\f.s=[]/\f.j=[]/\f.h=[]/\f.i=[]/\f.x=a.a/\f.aa=a.a/\f.y=a.a/\f.z=a.a/\v=AL #[A5 m,N 0]/\r=AO m a f Bu.w::Aq f.a ⟨0,0,0⟩::B8 f.d (U 64 0)::B6 f.c a::Cv f.g a p::CY f.e a.i::.t f.f [Q f.b (a.b/a.c) (a.b/a.c)] 136::.t f.b (U (a.b/a.c) (AD 0)++[]) 3::CS f (U a.a A0)::De a f::Dc a f::Dd a f::[]:=by
 have ag:=Xl a j;have ah:=AAG a j;have az:=A6.ab j;obtain⟨ao,ap,aq,ar,au,av,aw,ax,ay,an⟩:=id j;have af:=XT a j;have ai:=SX a.s Y;refine A9.aa (A9.aj A A (by exact DW A) (Gv.c (Gv.b ?_)));refine J ?_;intro o;refine J ?_;conv=>whnf
 refine Gv.c (Gv.b ?_);refine J ?_;refine A9.b ag (J ?_);conv=>whnf
 refine Gv.c (Gv.b ?_);refine J ?_;have t:((2:F)*(a.f:F))=((2*a.f:B):F):=by push_cast;rfl
 refine F'.mk ((2*a.f:B):F) (by rw[t];exact A3 Y) (J ?_);refine F'.mk ((a.b+2*a.f:B):F) (by rw[show(a.b:F)+((2*a.f:B):F)=((a.b+2*a.f:B):F) by push_cast;rfl];exact A3 Y) (J ?_);refine F'.mk ((a.a:B):F) (by rw[show((a.b+2*a.f:B):F)+(a.s:F)=((a.a:B):F) by unfold A6.a;push_cast;rfl];exact A3 Y) (J ?_);conv=>whnf
 refine Gv.d ⟨[(4,L7 a.a),(1,A5 o)],[NT a o],⟨A,A,AA⟩,λ_ _ j=>j,?_⟩;refine Gv.c (Gv.g (AAE a Y _ o λm u x y z G L=>?_));conv=>whnf
 refine Gv.b (J ?_);refine A9.b ah (J ?_);obtain⟨l,q⟩:∃l,a.b/a.c=l:=⟨_,A⟩;have aj:1<=l/\l<=256:=by
  rw[<-q];exact⟨Nat.div_pos Y Y,D9 (Iv _ _) Y⟩
 rw[q];refine A9.z (lW l _ aj) ?_;rintro v n ⟨W,Z,rfl,rfl⟩;refine J ?_;refine A9.u af ?_;rintro v n ⟨S,rfl,rfl⟩;refine J ?_;refine A9.u ai ?_;rintro v n ⟨M,am,al,ak,rfl,rfl⟩;refine J ?_;refine A9.z (SY a.i _ Y) ?_;rintro v n ⟨aa,rfl,rfl⟩;refine J ?_;refine⟨_,?_,m,⟨u,x,W,Z,S,M,aa,y,z,G,L,a.a,a.a,a.a,a.a,[],[],[],[]⟩,am,al,ak,A,A,A,A,A,A,A,A,A,A⟩;exact AQ.b
abbrev NN(a:A6)(f:G M):G M:=[N a.s]++(EB++f)
def Gv.f{n:Code}{f a j:AP->S->Prop}{m:B->AP->S->Prop}(x:Gv xx l n yc lg f j m)(P:∀yc lg,f yc lg->a yc lg):Gv xx l n yc lg a j m:=
 ⟨λr q Y V p M Q F z G L=>x.e r q Y V p M Q F (λu o t W y N U=>z u o t W (P _ _ y) N U) G L⟩
variable{yq:TypeInfo}
def Cr.af{o:Al}{p l q b m ah:B}(N:o.op=.call zb)(z:zb.callee=.builtin .append)(Z:zb.argTypes=#[p,p])
 (y:DK yc zb.args.toList=C [Q q 0 0,Q b m ah])(W:xx.c p=C (.slice l))(F:xx.e l=C yq)(af:yq.zero=C yb)(ag:(B9 yb).length=yq.size/\0<yq.size)
 [ai:Lo lg q [] l yn][aj:Bo yn b er xt](a t:G M)(aa:er=a++t)(r:a.length=m*yq.size)(x:a.all B'=R)(U:m<=1000000/\yq.bytes<=1000)
 (L:∀n j f,m<=j->xv (Q n m j) (.t n (a++f) l::yn)):Cr xx o yc lg xv:=by
 subst aa;refine Cr.y (n:=[]) (Y:=a++t) N z Z y W F af ag ⟨(Nat.zero_mul _).symm,AI _,Af _⟩ a (by rw[CJ,<-r];exact C_ A) r x ⟨Y,U.2⟩ (λn j f u ak al=>?_);rw[BF] at u⊢;have yc:GJ (0*yq.size) ([]:G M)++a++f=a++f:=Y1;rw[yc];exact L n j f u
abbrev Eb(f:A6)(a:C4)(q:B4)(u:G B)(o:G M)(j l p:B)(r:AC CW)(t:B)(m n:G M):S:=Aq a.a q::B8 a.d u::B6 a.c f::Cv a.g f o::.t a.e [N p,O r 0 t,N 0] 147::.t a.f [Q a.b j l] 136::.t a.b (U j (AD 0)++m) 3::CS a n::De f a::Dc f a::Dd f a::[]
def AF7{P:Prop}(h:P:=by rw[List.length_replicate];exact(Nat.mul_one _).symm):P:=h
def S'(ar:B)(l:A6)(cy:l.e)(m:C4)(bk:Bu)(q:B4)(r:G B)(p:G M)(n bh aw:B)(bi:AC CW)(bj:B)(a8 au:G M)(bl:G B)(bm bn:S)(c6:r.length=64)(c3:p.length=90)(c1:p.all B'=R)(fl:1<=n/\n<=256)(c0:au.length=l.a)(cz:au.all B'=R)(cq:GQ bk.c bm bl)(fm:bl.length<=64)(cr:Jn bk.f bn):
 Z9 23 [A5 ar] (.u (A2 bm)::.u (A2 bn)::AO ar l m bk::Eb l m q r p n bh aw bi bj a8 au)
  λv bu=>∃af bq bt cc cw cx bs cb a2,GQ bt bs bl/\Jn cc cb/\v=A5 af/\bu=.u (A2 cb)::.u (A2 bn)::.u (A2 bs)::.u (A2 bm)::Dc l bq::Dd l bq::De l bq::CS bq au::.t a2 [] 179::.t bq.e [N aw,Q a2 0 0,N 0] 147::Cv bq.g l p::B6 bq.c l::.t bq.f [Q bq.b n cw] 136::.t bq.b (U n (AD 0)++cx) 3::B8 bq.d r::Aq bq.a q::AO af l bq {bk with c:=bt,f:=cc}::AO ar l m bk::Eb l m q r p n bh aw bi bj a8 au:=by
 have fu:=A6.ab cy;obtain⟨a3,a4,a0,c5⟩:∃a3 a4 a0,bk.c=O a3 a4 a0:=by
  rcases cq with⟨_,_,ck,cl,a6⟩|⟨cv,ct,fw,_,a6,_⟩
  ·exact⟨_,_,_,a6⟩
  ·exact⟨_,_,_,a6⟩
 obtain⟨ax,ay,av,c8⟩:∃ax ay av,bk.f=O ax ay av:=by
  rcases cr with⟨_,ck,cl,a6⟩|⟨cv,ct,cu,a6,_⟩
  ·exact⟨_,_,_,a6⟩
  ·exact⟨_,_,_,a6⟩
 obtain⟨ap,L,rel,al,W,ao,ai,aj,F,c9,ah,an,da,ak,am⟩:=bk;obtain rfl:c9=_:=c5;obtain rfl:da=_:=c8;refine A9.aa (A9.aj A A (DW A) (Gv.c (Gv.b ?_)));refine J ?_;conv=>whnf
 refine Gv.c (Gv.b ?_);refine J ?_;intro af;refine J ?_;conv=>whnf
 refine Gv.d ⟨[(3,A5 af),(0,A5 ar)],.t af (Fh l m ⟨ap,L,rel,al,W,ao,ai,aj,F,O a3 a4 a0,ah,an,O ax ay av,ak,am⟩) 52::.u (A2 bm)::.u (A2 bn)::AO ar l m ⟨ap,L,rel,al,W,ao,ai,aj,F,O a3 a4 a0,ah,an,O ax ay av,ak,am⟩::Eb l m q r p n bh aw bi bj a8 au,⟨A,A,AA⟩,AQ.u (DZ Y3),?_⟩;refine Gv.c (Gv.b ?_);refine J ?_;intro aq;refine J ?_;conv=>whnf
 refine Gv.c (Gv.b ?_);refine J ?_;conv=>whnf
 refine Gv.d ⟨[(3,A5 af),(0,A5 ar)],Aq aq q::.t af (Fh l {m with a:=aq} ⟨ap,L,rel,al,W,ao,ai,aj,F,O a3 a4 a0,ah,an,O ax ay av,ak,am⟩) 52::.u (A2 bm)::.u (A2 bn)::AO ar l m ⟨ap,L,rel,al,W,ao,ai,aj,F,O a3 a4 a0,ah,an,O ax ay av,ak,am⟩::Eb l m q r p n bh aw bi bj a8 au,⟨A,A,AA⟩,AQ.u (DZ Y3),?_⟩;refine Gv.c (Gv.f (f:=λbk bu=>∃ag,Fm [(3,A5 af),(0,A5 ar)] bk/\AQ bu (B8 ag r::Aq aq q::.t af (Fh l {m with a:=aq,d:=ag} ⟨ap,L,rel,al,W,ao,ai,aj,F,O a3 a4 a0,ah,an,O ax ay av,ak,am⟩) 52::.u (A2 bm)::.u (A2 bn)::AO ar l m ⟨ap,L,rel,al,W,ao,ai,aj,F,O a3 a4 a0,ah,an,O ax ay av,ak,am⟩::Eb l m q r p n bh aw bi bj a8 au)) (Gv.b ?_) ?_)
 ·obtain⟨db,dd,dt,d6,eh,et,e5,fa,fb,fc,de,df,dg,dj,dl,dn,dp,dq,dr,ds,du,dv,dw,dx,d0,d1,d2,d3,d4,d5,d7,d8,d9,ea,eb,ec,ed,ee,ef,eg,ei,ej,ek,em,en,eo,ep,eq,er,es,eu,ev,ew,ex,ez,e0,e1,e2,e3,e4,e6,e7,e8,e9,rfl⟩:=Yv c6;refine J ?_;intro ag;refine J ?_;exact⟨ag,⟨A,A,AA⟩,AQ.u (DZ Y3)⟩
 rintro bk bu ⟨ag,b4,b5⟩;refine Gv.d ⟨_,_,b4,b5,?_⟩;clear b4 b5;refine Gv.c (Gv.b ?_);refine J ?_;intro ff;refine J ?_;refine Cr.af (yq:=_) A A A A A A A ⟨A,Z⟩ (U n (AD 0)) a8 A AF7 (by simp[AD,B']) ⟨Y,Z⟩ (λo bo bp ft=>?_);refine J ?_;intro az;refine J ?_;conv=>whnf
 refine Gv.d ⟨[(3,A5 af),(0,A5 ar)],.t az [Q o n bo] 136::.t o (U n (AD 0)++bp) 3::B8 ag r::Aq aq q::.t af (Fh l {m with a:=aq,d:=ag,f:=az,b:=o} ⟨ap,L,rel,al,W,ao,ai,aj,F,O a3 a4 a0,ah,an,O ax ay av,ak,am⟩) 52::.u (A2 bm)::.u (A2 bn)::AO ar l m ⟨ap,L,rel,al,W,ao,ai,aj,F,O a3 a4 a0,ah,an,O ax ay av,ak,am⟩::Eb l m q r p n bh aw bi bj a8 au,⟨A,A,AA⟩,AQ.u (DZ Y3),?_⟩;refine Gv.c (Gv.b ?_);refine J ?_;intro a1;refine J ?_;conv=>whnf
 refine Gv.c (Gv.b ?_);refine J ?_;conv=>whnf
 refine Gv.d ⟨[(3,A5 af),(0,A5 ar)],B6 a1 l::.t az [Q o n bo] 136::.t o (U n (AD 0)++bp) 3::B8 ag r::Aq aq q::.t af (Fh l {m with a:=aq,d:=ag,f:=az,b:=o,c:=a1} ⟨ap,L,rel,al,W,ao,ai,aj,F,O a3 a4 a0,ah,an,O ax ay av,ak,am⟩) 52::.u (A2 bm)::.u (A2 bn)::AO ar l m ⟨ap,L,rel,al,W,ao,ai,aj,F,O a3 a4 a0,ah,an,O ax ay av,ak,am⟩::Eb l m q r p n bh aw bi bj a8 au,⟨A,A,AA⟩,AQ.u (DZ Y3),?_⟩;have c2:(NN l p).all B'=R:=by simp only[NN,List.all_append,c1];rfl
 have cp:(NN l p).length=125:=by simp[NN,c3]
 refine Gv.c (Gv.b ?_);refine J ?_;refine Ms.mk (v:=AV (NN l p).toArray) (MB cp) (J ?_);intro a5;refine J ?_;refine Mw.y (p:=125) cp A c2 (J ?_);conv=>whnf
 refine Gv.c (Gv.b ?_);refine J ?_;conv=>whnf
 refine Gv.d ⟨[(3,A5 af),(0,A5 ar)],Cv a5 l p::B6 a1 l::.t az [Q o n bo] 136::.t o (U n (AD 0)++bp) 3::B8 ag r::Aq aq q::.t af (Fh l {m with a:=aq,d:=ag,f:=az,b:=o,c:=a1,g:=a5} ⟨ap,L,rel,al,W,ao,ai,aj,F,O a3 a4 a0,ah,an,O ax ay av,ak,am⟩) 52::.u (A2 bm)::.u (A2 bn)::AO ar l m ⟨ap,L,rel,al,W,ao,ai,aj,F,O a3 a4 a0,ah,an,O ax ay av,ak,am⟩::Eb l m q r p n bh aw bi bj a8 au,⟨A,A,AA⟩,AQ.u (DZ Y3),?_⟩;refine Gv.c (Gv.b ?_);refine J ?_;intro a7;refine J ?_;conv=>whnf
 refine Gv.c (Gv.b ?_);refine J ?_;intro a2;refine J ?_;refine Cr.ab (yq:=_) A A A A A A (AI _) (J ?_);conv=>whnf
 refine Gv.c (Gv.b ?_);refine J ?_;conv=>whnf
 refine Gv.d ⟨[(3,A5 af),(0,A5 ar)],.t a2 [] 179::.t a7 [N aw,Q a2 0 0,N 0] 147::Cv a5 l p::B6 a1 l::.t az [Q o n bo] 136::.t o (U n (AD 0)++bp) 3::B8 ag r::Aq aq q::.t af (Fh l {m with a:=aq,d:=ag,f:=az,b:=o,c:=a1,g:=a5,e:=a7} ⟨ap,L,rel,al,W,ao,ai,aj,F,O a3 a4 a0,ah,an,O ax ay av,ak,am⟩) 52::.u (A2 bm)::.u (A2 bn)::AO ar l m ⟨ap,L,rel,al,W,ao,ai,aj,F,O a3 a4 a0,ah,an,O ax ay av,ak,am⟩::Eb l m q r p n bh aw bi bj a8 au,⟨A,A,AA⟩,AQ.u (DZ Y3),?_⟩;refine Gv.c (Gv.b ?_);refine J ?_;intro fg;refine J ?_;refine Cr.af (yq:=_) A A A A A A A ⟨A,Z⟩ au m.s A (by rw[c0];exact(B3 _).symm) cz ⟨Y,Z⟩ (λa9 bv bd fn=>?_);refine J ?_;conv=>whnf
 refine Gv.c (Gv.b ?_);refine J ?_;intro fi;refine J ?_;refine Cr.af (yq:=_) A A A A A A A ⟨A,Z⟩ (U l.a A0) m.j A AF7 (by simp[B']) ⟨Y,Z⟩ (λba bx be fq=>?_);refine J ?_;conv=>whnf
 refine Gv.c (Gv.b ?_);refine J ?_;intro fj;refine J ?_;refine Cr.af (yq:=_) A A A A A A A ⟨A,Z⟩ (U l.a A0) m.i A AF7 (by simp[B']) ⟨Y,Z⟩ (λbb b1 bf fr=>?_);refine J ?_;conv=>whnf
 refine Gv.c (Gv.b ?_);refine J ?_;intro fk;refine J ?_;refine Cr.af (yq:=_) A A A A A A A ⟨A,Z⟩ (U l.a (X I)) m.h A AF7 (by simp[B']) ⟨Y,Z⟩ (λbc b2 bg fs=>?_);refine J ?_;conv=>whnf
 refine Gv.d ⟨[(3,A5 af),(0,A5 ar)],.t bc (U l.a (X I)++bg) 4::.t bb (U l.a A0++bf) 46::.t ba (U l.a A0++be) 31::.t a9 (au++bd) 31::.t a2 [] 179::.t a7 [N aw,Q a2 0 0,N 0] 147::Cv a5 l p::B6 a1 l::.t az [Q o n bo] 136::.t o (U n (AD 0)++bp) 3::B8 ag r::Aq aq q::.t af (Fh l {m with a:=aq,d:=ag,f:=az,b:=o,c:=a1,g:=a5,e:=a7,t:=a9,x:=bv,s:=bd,w:=ba,aa:=bx,j:=be,v:=bb,z:=b1,i:=bf,u:=bc,y:=b2,h:=bg} ⟨ap,L,rel,al,W,ao,ai,aj,F,O a3 a4 a0,ah,an,O ax ay av,ak,am⟩) 52::.u (A2 bm)::.u (A2 bn)::AO ar l m ⟨ap,L,rel,al,W,ao,ai,aj,F,O a3 a4 a0,ah,an,O ax ay av,ak,am⟩::Eb l m q r p n bh aw bi bj a8 au,⟨A,A,AA⟩,AQ.u (DZ Y3),?_⟩;refine Gv.c (Gv.f (f:=λbk bu=>∃bt bs,GQ bt bs bl/\Fm [(3,A5 af),(0,A5 ar)] bk/\AQ bu (.u (A2 bs)::.u (A2 bm)::.t bc (U l.a (X I)++bg) 4::.t bb (U l.a A0++bf) 46::.t ba (U l.a A0++be) 31::.t a9 (au++bd) 31::.t a2 [] 179::.t a7 [N aw,Q a2 0 0,N 0] 147::Cv a5 l p::B6 a1 l::.t az [Q o n bo] 136::.t o (U n (AD 0)++bp) 3::B8 ag r::Aq aq q::.t af (Fh l {m with a:=aq,d:=ag,f:=az,b:=o,c:=a1,g:=a5,e:=a7,t:=a9,x:=bv,s:=bd,w:=ba,aa:=bx,j:=be,v:=bb,z:=b1,i:=bf,u:=bc,y:=b2,h:=bg} ⟨ap,L,rel,al,W,ao,ai,aj,F,bt,ah,an,O ax ay av,ak,am⟩) 52::.u (A2 bn)::AO ar l m ⟨ap,L,rel,al,W,ao,ai,aj,F,O a3 a4 a0,ah,an,O ax ay av,ak,am⟩::Eb l m q r p n bh aw bi bj a8 au)) ?_ ?_)
 ·rcases cq with⟨rfl,rfl,ck,cl,a6⟩|⟨b7,fz,ci,fv,a6,rfl⟩
  ·injection a6 with a6 b6 ch
   obtain rfl:a4=0:=b6;refine Gv.b (J ?_);intro b3;refine J ?_;refine Cr.ab (yq:=_) A A A A A A (AI _) (J ?_);refine⟨Q b3 0 0,[],AT ⟨A,A,_,_,A⟩,⟨A,A,AA⟩,?_⟩;refine(AQ.u (DZ Y3):AQ _ (.t b3 [] 3::.t bc (U l.a (X I)++bg) 4::.t bb (U l.a A0++bf) 46::.t ba (U l.a A0++be) 31::.t a9 (au++bd) 31::.t a2 [] 179::.t a7 [N aw,Q a2 0 0,N 0] 147::Cv a5 l p::B6 a1 l::.t az [Q o n bo] 136::.t o (U n (AD 0)++bp) 3::B8 ag r::Aq aq q::.t af (Fh l {m with a:=aq,d:=ag,f:=az,b:=o,c:=a1,g:=a5,e:=a7,t:=a9,x:=bv,s:=bd,w:=ba,aa:=bx,j:=be,v:=bb,z:=b1,i:=bf,u:=bc,y:=b2,h:=bg} ⟨ap,L,rel,al,W,ao,ai,aj,F,Q b3 0 0,ah,an,O ax ay av,ak,am⟩) 52::.u (A2 [])::.u (A2 bn)::AO ar l m ⟨ap,L,rel,al,W,ao,ai,aj,F,O a3 0 a0,ah,an,O ax ay av,ak,am⟩::Eb l m q r p n bh aw bi bj a8 au)).t ((AQ.y _).t ?_);exact(AQ.u (GS.t (f:=[.u (A2 [])]) Y0)).t (AQ.aa [] _)
  ·injection a6 with a6 b6 ch
   subst a6 b6 ch;refine Gv.d ⟨[(3,A5 af),(0,A5 ar)],.t b7 (bl.map AD++ci) 3::.u (A2 [])::.t bc (U l.a (X I)++bg) 4::.t bb (U l.a A0++bf) 46::.t ba (U l.a A0++be) 31::.t a9 (au++bd) 31::.t a2 [] 179::.t a7 [N aw,Q a2 0 0,N 0] 147::Cv a5 l p::B6 a1 l::.t az [Q o n bo] 136::.t o (U n (AD 0)++bp) 3::B8 ag r::Aq aq q::.t af (Fh l {m with a:=aq,d:=ag,f:=az,b:=o,c:=a1,g:=a5,e:=a7,t:=a9,x:=bv,s:=bd,w:=ba,aa:=bx,j:=be,v:=bb,z:=b1,i:=bf,u:=bc,y:=b2,h:=bg} ⟨ap,L,rel,al,W,ao,ai,aj,F,Q b7 bl.length a0,ah,an,O ax ay av,ak,am⟩) 52::.u (A2 bn)::AO ar l m ⟨ap,L,rel,al,W,ao,ai,aj,F,Q b7 bl.length a0,ah,an,O ax ay av,ak,am⟩::Eb l m q r p n bh aw bi bj a8 au,⟨A,A,AA⟩,(AQ.u (GS.t (f:=[.u (A2 [.t b7 (bl.map AD++ci) 3])]) Y0)).t ((AQ.ac _ _).t (AQ.z _ (AQ.aa [] _))),?_⟩;refine Gv.b (J ?_);intro b3;refine J ?_;refine Cr.af (yq:=_) A A A A A A A ⟨A,Z⟩ (bl.map AD) ci A AFd (by simp[AD,B']) ⟨Y,Z⟩ (λbr cd ce cs=>?_);refine J ?_;refine⟨Q br bl.length cd,[.t br (bl.map AD++ce) 3],Ae ⟨br,cd,ce,cs,A,A⟩,⟨A,A,AA⟩,?_⟩;exact(AQ.u (DZ Y3):AQ _ (.t br (bl.map AD++ce) 3::.t b7 (bl.map AD++ci) 3::.u (A2 [])::.t bc (U l.a (X I)++bg) 4::.t bb (U l.a A0++bf) 46::.t ba (U l.a A0++be) 31::.t a9 (au++bd) 31::.t a2 [] 179::.t a7 [N aw,Q a2 0 0,N 0] 147::Cv a5 l p::B6 a1 l::.t az [Q o n bo] 136::.t o (U n (AD 0)++bp) 3::B8 ag r::Aq aq q::.t af (Fh l {m with a:=aq,d:=ag,f:=az,b:=o,c:=a1,g:=a5,e:=a7,t:=a9,x:=bv,s:=bd,w:=ba,aa:=bx,j:=be,v:=bb,z:=b1,i:=bf,u:=bc,y:=b2,h:=bg} ⟨ap,L,rel,al,W,ao,ai,aj,F,Q br bl.length cd,ah,an,O ax ay av,ak,am⟩) 52::.u (A2 bn)::AO ar l m ⟨ap,L,rel,al,W,ao,ai,aj,F,Q b7 bl.length a0,ah,an,O ax ay av,ak,am⟩::Eb l m q r p n bh aw bi bj a8 au)).t ((AQ.z _ ((AQ.z _ (AQ.ac [] _)).t (AQ.aa [.t b7 (bl.map AD++ci) 3] _))).t (AQ.aa [_] _))
 rintro bk bu ⟨bt,bs,c4,b4,b5⟩;refine Gv.d ⟨_,_,b4,b5,?_⟩;clear b4 b5;refine Gv.c (Gv.f (f:=λbk bu=>∃cc cb,Jn cc cb/\Fm [(3,A5 af),(0,A5 ar)] bk/\AQ bu (.u (A2 cb)::.u (A2 bn)::.u (A2 bs)::.u (A2 bm)::.t bc (U l.a (X I)++bg) 4::.t bb (U l.a A0++bf) 46::.t ba (U l.a A0++be) 31::.t a9 (au++bd) 31::.t a2 [] 179::.t a7 [N aw,Q a2 0 0,N 0] 147::Cv a5 l p::B6 a1 l::.t az [Q o n bo] 136::.t o (U n (AD 0)++bp) 3::B8 ag r::Aq aq q::.t af (Fh l {m with a:=aq,d:=ag,f:=az,b:=o,c:=a1,g:=a5,e:=a7,t:=a9,x:=bv,s:=bd,w:=ba,aa:=bx,j:=be,v:=bb,z:=b1,i:=bf,u:=bc,y:=b2,h:=bg} ⟨ap,L,rel,al,W,ao,ai,aj,F,bt,ah,an,cc,ak,am⟩) 52::AO ar l m ⟨ap,L,rel,al,W,ao,ai,aj,F,O a3 a4 a0,ah,an,O ax ay av,ak,am⟩::Eb l m q r p n bh aw bi bj a8 au)) ?_ ?_)
 ·rcases cr with⟨rfl,ck,cl,a6⟩|⟨cg,fy,cu,a6,rfl,b8,b9,ca,cm,cn,co,cj,rfl⟩
  ·injection a6 with a6 b6 ch
   obtain rfl:ay=0:=b6;refine Gv.b (J ?_);intro b3;refine J ?_;refine Cr.ab (yq:=_) A A A A A A (AI _) (J ?_);refine⟨Q b3 0 0,[],AT ⟨A,_,_,A⟩,⟨A,A,AA⟩,?_⟩;refine(AQ.u (DZ Y3):AQ _ (.t b3 [] 177::.u (A2 bs)::.u (A2 bm)::.t bc (U l.a (X I)++bg) 4::.t bb (U l.a A0++bf) 46::.t ba (U l.a A0++be) 31::.t a9 (au++bd) 31::.t a2 [] 179::.t a7 [N aw,Q a2 0 0,N 0] 147::Cv a5 l p::B6 a1 l::.t az [Q o n bo] 136::.t o (U n (AD 0)++bp) 3::B8 ag r::Aq aq q::.t af (Fh l {m with a:=aq,d:=ag,f:=az,b:=o,c:=a1,g:=a5,e:=a7,t:=a9,x:=bv,s:=bd,w:=ba,aa:=bx,j:=be,v:=bb,z:=b1,i:=bf,u:=bc,y:=b2,h:=bg} ⟨ap,L,rel,al,W,ao,ai,aj,F,bt,ah,an,Q b3 0 0,ak,am⟩) 52::.u (A2 [])::AO ar l m ⟨ap,L,rel,al,W,ao,ai,aj,F,O a3 a4 a0,ah,an,O ax 0 av,ak,am⟩::Eb l m q r p n bh aw bi bj a8 au)).t ((AQ.y _).t ?_);exact(AQ.u (GS.t (f:=[.u (A2 [])]) Y0)).t (AQ.aa [] _)
  ·injection a6 with a6 b6 ch
   subst a6 b6 ch;refine Gv.d ⟨[(3,A5 af),(0,A5 ar)],.t cg ([b8,b9,ca]++cj) 177::.u (A2 [])::.u (A2 bs)::.u (A2 bm)::.t bc (U l.a (X I)++bg) 4::.t bb (U l.a A0++bf) 46::.t ba (U l.a A0++be) 31::.t a9 (au++bd) 31::.t a2 [] 179::.t a7 [N aw,Q a2 0 0,N 0] 147::Cv a5 l p::B6 a1 l::.t az [Q o n bo] 136::.t o (U n (AD 0)++bp) 3::B8 ag r::Aq aq q::.t af (Fh l {m with a:=aq,d:=ag,f:=az,b:=o,c:=a1,g:=a5,e:=a7,t:=a9,x:=bv,s:=bd,w:=ba,aa:=bx,j:=be,v:=bb,z:=b1,i:=bf,u:=bc,y:=b2,h:=bg} ⟨ap,L,rel,al,W,ao,ai,aj,F,bt,ah,an,Q cg 1 av,ak,am⟩) 52::AO ar l m ⟨ap,L,rel,al,W,ao,ai,aj,F,O a3 a4 a0,ah,an,Q cg 1 av,ak,am⟩::Eb l m q r p n bh aw bi bj a8 au,⟨A,A,AA⟩,(AQ.u (GS.t (f:=[.u (A2 [.t cg ([b8,b9,ca]++cj) 177])]) Y0)).t ((AQ.ac _ _).t (AQ.z _ (AQ.aa [] _))),?_⟩;refine Gv.b (J ?_);intro b3;refine J ?_;refine Cr.af (yq:=_) A A A A A A A ⟨A,Z⟩ [b8,b9,ca] cj A A (by simp[cm,cn,co]) ⟨Z,Z⟩ (λbr cd ce cs=>?_);refine J ?_;refine⟨Q br 1 cd,[.t br ([b8,b9,ca]++ce) 177],Ae ⟨br,cd,_,A,A,b8,b9,ca,cm,cn,co,ce,A⟩,⟨A,A,AA⟩,?_⟩;exact(AQ.u (DZ Y3):AQ _ (.t br ([b8,b9,ca]++ce) 177::.t cg ([b8,b9,ca]++cj) 177::.u (A2 [])::.u (A2 bs)::.u (A2 bm)::.t bc (U l.a (X I)++bg) 4::.t bb (U l.a A0++bf) 46::.t ba (U l.a A0++be) 31::.t a9 (au++bd) 31::.t a2 [] 179::.t a7 [N aw,Q a2 0 0,N 0] 147::Cv a5 l p::B6 a1 l::.t az [Q o n bo] 136::.t o (U n (AD 0)++bp) 3::B8 ag r::Aq aq q::.t af (Fh l {m with a:=aq,d:=ag,f:=az,b:=o,c:=a1,g:=a5,e:=a7,t:=a9,x:=bv,s:=bd,w:=ba,aa:=bx,j:=be,v:=bb,z:=b1,i:=bf,u:=bc,y:=b2,h:=bg} ⟨ap,L,rel,al,W,ao,ai,aj,F,bt,ah,an,Q br 1 cd,ak,am⟩) 52::AO ar l m ⟨ap,L,rel,al,W,ao,ai,aj,F,O a3 a4 a0,ah,an,Q cg 1 av,ak,am⟩::Eb l m q r p n bh aw bi bj a8 au)).t ((AQ.z _ ((AQ.z _ (AQ.ac [] _)).t (AQ.aa [_] _))).t (AQ.aa [_] _))
 rintro bk bu ⟨cc,cb,c7,b4,b5⟩;refine Gv.d ⟨_,_,b4,b5,?_⟩;clear b4 b5;refine Gv.b (J ?_);exact⟨_,AQ.w _,af,{m with a:=aq,d:=ag,f:=az,b:=o,c:=a1,g:=a5,e:=a7,t:=a9,x:=bv,s:=bd,w:=ba,aa:=bx,j:=be,v:=bb,z:=b1,i:=bf,u:=bc,y:=b2,h:=bg},bt,cc,bo,bp,bs,cb,a2,c4,c7,A,A⟩
def G0(a:G B):G B:=(((a.set 0 0).set 1 0).set 5 0).set 34 0
def Bu.t(f:Bu):Bu:={f with a:=0,b:=0,d:=I,e:=I,c:=A0,i:=0}
def Pf(r:B)(j:A6)(Z:j.e)(f:C4)(y:Bu)(x:G B)(ag L:G M)(m z:B)(af:x.length=64)(a5:ag.length=90)(ak:1<=m/\m<=256):
 Z9 53 [A5 r,A0] (AO r j f y::B8 f.d x::.t f.f [Q f.b m z] 136::.t f.b (U m (AD 0)++L) 3::B6 f.c j::Cv f.g j ag::De j f::Dc j f::Dd j f::[])
  λar W=>∃p q o n t,t.length=90/\t.all B'=R/\ar=AL #[]/\W=AO r j {f with a:=p,e:=q,c:=o,g:=n} y.t::Aq p ⟨0,0,0⟩::B8 f.d (G0 x)::.t f.f [Q f.b m z] 136::.t f.b (U m (AD 0)++L) 3::B6 o j::Cv n j t::CY q j.i::De j f::Dc j f::Dd j f::[]:=by
 have a6:=A6.ab Z;obtain⟨av,aw,ax,ay,az,a0,a1,a2,a3,au⟩:=id Z;have al:=λW=>SY j.i W Y;have am:=Xf f.d x af;have ai:=Xa f.f f.b m z L ak;have ah:=XU j Z f.c;have aj:=SX j.s Y;refine A9.aa (A9.aj A A (DW A) (Gv.c (Gv.b ?_)));refine J ?_;intro p;refine J ?_;conv=>whnf
 refine Gv.c (Gv.b ?_);refine J ?_;refine A9.z (al _) ?_;rintro v S ⟨q,rfl,rfl⟩;refine J ?_;conv=>whnf
 refine Gv.c (Gv.b ?_);refine J ?_;refine A9.u am (λv S aa=>?_);obtain rfl:=aa;refine J ?_;conv=>whnf
 refine Gv.c (Gv.b ?_);refine J ?_;refine A9.u ai (λv S aa=>?_);obtain rfl:=aa;refine J ?_;conv=>whnf
 refine Gv.c (Gv.b ?_);refine J ?_;refine A9.u ah ?_;rintro v S ⟨o,rfl,rfl⟩;refine J ?_;conv=>whnf
 refine Gv.c (Gv.b ?_);refine J ?_;refine A9.u (aj) ?_;rintro v S ⟨n,t,an,ao,rfl,rfl⟩;refine J ?_;conv=>whnf
 refine Gv.c (Gv.b ?_);refine J ?_;conv=>whnf
 refine Gv.c (Gv.b ?_);refine J ?_;conv=>whnf
 refine Gv.c (Gv.b ?_);refine J ?_;conv=>whnf
 refine Gv.c (Gv.b ?_);refine J ?_;conv=>whnf
 refine Gv.c (Gv.b ?_);refine J ?_;conv=>whnf
 refine Gv.c (Gv.b ?_);refine J ?_;conv=>whnf
 refine Gv.d ⟨[(0,A5 r),(1,A0)],[AO r j {f with a:=p,e:=q,c:=o,g:=n} {y with a:=0,b:=0,d:=I,e:=I,c:=A0,i:=0},Aq p ⟨0,0,0⟩,B8 f.d (((x.set 0 0).set 1 0).set 5 0),.t f.f [Q f.b m z] 136,.t f.b (U m (AD 0)++L) 3,B6 o j,Cv n j t,CY q j.i,De j f,Dc j f,Dd j f],⟨A,A,AA⟩,AQ.b,?_⟩;refine Gv.b (J ?_);refine EY.f (m:=B) (λl=>j.a-l) (λl=>l<=j.a) (λl=>[(0,A5 r),(1,A0),(4,N (l:B))]) (λl=>[AO r j {f with a:=p,e:=q,c:=o,g:=n} {y with a:=0,b:=0,d:=I,e:=I,c:=A0,i:=0},Aq p ⟨0,0,0⟩,B8 f.d (((x.set 0 0).set 1 0).set 5 0),.t f.f [Q f.b m z] 136,.t f.b (U m (AD 0)++L) 3,B6 o j,Cv n j t,CY q j.i,De j f,Dc j f,Dd j f]) 0 (Af _) ⟨A,A,A,AA⟩ (AQ.w _) ?_;intro l a4 ap;refine EY.b ?_;by_cases u:l<j.a
 ·have aq:=B7 ((l:F)<(j.a:B));have a7:=Aa ((l:F)<0);refine J ?_;refine Qh.mk l A u (J ?_);refine Mw.t (er:=U j.a (X I)++f.h) (U j.a (X I)++f.h) ⟨A,Z6⟩ (Ic u) (J ?_);refine Qh.mk l A u (J ?_);refine Mw.t (er:=U j.a A0++f.j) (U j.a A0++f.j) ⟨A,Z6⟩ (Ic u) (J ?_);refine Qh.mk l A u (J ?_);refine Mw.t (er:=U j.a A0++f.i) (U j.a A0++f.i) ⟨A,Z6⟩ (Ic u) (J ?_);exact F'.mk ((l+1:B):F) Y2 (ap (l+1) u Y ⟨A,A,A,AA⟩ AQ.b)
 ·have aq:=Aa ((l:F)<(j.a:B));refine J ?_;refine A9.b (Xh r j {f with a:=p,e:=q,c:=o,g:=n} {y with a:=0,b:=0,d:=I,e:=I,c:=A0,i:=0} (((x.set 0 0).set 1 0).set 5 0) (by simp[af])) (J ?_);exact⟨_,AQ.b,p,q,o,n,t,an,ao,A,A⟩
structure Ko(j:A6)(l:G M)(q:S)(o:B->AE)(p:B->G B):Prop where
 a:l.length=j.a
 b:∀f,f<j.a->o f=I->l[f]?=C A0
 c:∀f,f<j.a->o f=R->∃n r m,l[f]?=C (Q n 128 r)/\BL.t n m 5∈q/\(m.drop 0).take 128=(p f).map W/\(p f).length=128
def Gf(j:B->AE)(v l:B->G B)(f:B):B->G B:=λa=>if a<f/\j a=R then l a else v a
def AC4{f:B->AE}{v j:B->G B}(n:f l=I):Gf f v j (l+1)=Gf f v j l:=by
 funext a;unfold Gf;by_cases m:a=l
 ·subst m;simp[n]
 ·have:(a<l+1)↔(a<l):=Y;simp only[this]
def AC6{f:B->AE}{v j:B->G B}(n:f l=R):Gf f v j (l+1)=Cm (Gf f v j l) l (j l):=by
 funext a;unfold Gf Cm;by_cases m:a=l
 ·subst m;simp[n]
 ·have:(a<l+1)↔(a<l):=Y;simp only[this,A1 m]
def m2(t:B)(f:A6)(ay:f.e)(j:C4)(aa:Bu)(L:G B)(a9 ai:G M)(m ah y av:B)(ak ao an:G M)(Z al:S)(W:B->AE)(ag af:B->G B)(a5:Ko f ak Z W af)(bi:Dv f an al ag)(a6:L.length=64)(b8:a9.length=90)(bk:1<=m/\m<=256):
 Z9 53 [A5 t,Q y f.a av] (AO t f j aa::B8 j.d L::.t j.f [Q j.b m ah] 136::.t j.b (U m (AD 0)++ai) 3::B6 j.c f::Cv j.g f a9::De f j::Dc f j::Dd f j::.t y (ak++ao) 31::.u (A2 Z)::CS j an::.u (A2 al)::[])
  λbt aw=>∃q r o n z a7 a0,z.length=90/\z.all B'=R/\Dv f a7 a0 (Gf W ag af f.a)/\bt=AL #[]/\aw=AO t f {j with a:=q,e:=r,c:=o,g:=n} aa.t::Aq q ⟨0,0,0⟩::B8 j.d (G0 L)::.t j.f [Q j.b m ah] 136::.t j.b (U m (AD 0)++ai) 3::B6 o f::Cv n f z::CY r f.i::De f j::Dc f j::Dd f j::.t y (ak++ao) 31::.u (A2 Z)::CS j a7::.u (A2 a0)::[]:=by
 have b9:=A6.ab ay;obtain⟨bv,bx,b1,b2,b3,b4,b5,b6,b7,bu⟩:=id ay;have bl:=λaw=>SY f.i aw Y;have bm:=Xf j.d L a6;have bh:=Xa j.f j.b m ah ai bk;have bg:=XU f ay j.c;have bj:=SX f.s Y;refine A9.aa (A9.aj A A (DW A) (Gv.c (Gv.b ?_)));refine J ?_;intro q;refine J ?_;conv=>whnf
 refine Gv.c (Gv.b ?_);refine J ?_;refine A9.z (bl _) ?_;rintro v am ⟨r,rfl,rfl⟩;refine J ?_;conv=>whnf
 refine Gv.c (Gv.b ?_);refine J ?_;refine A9.u bm (λv am az=>?_);obtain rfl:=az;refine J ?_;conv=>whnf
 refine Gv.c (Gv.b ?_);refine J ?_;refine A9.u bh (λv am az=>?_);obtain rfl:=az;refine J ?_;conv=>whnf
 refine Gv.c (Gv.b ?_);refine J ?_;refine A9.u bg ?_;rintro v am ⟨o,rfl,rfl⟩;refine J ?_;conv=>whnf
 refine Gv.c (Gv.b ?_);refine J ?_;refine A9.u (bj) ?_;rintro v am ⟨n,z,bp,bq,rfl,rfl⟩;refine J ?_;conv=>whnf
 refine Gv.c (Gv.b ?_);refine J ?_;conv=>whnf
 refine Gv.c (Gv.b ?_);refine J ?_;conv=>whnf
 refine Gv.c (Gv.b ?_);refine J ?_;conv=>whnf
 refine Gv.c (Gv.b ?_);refine J ?_;conv=>whnf
 refine Gv.c (Gv.b ?_);refine J ?_;conv=>whnf
 refine Gv.c (Gv.b ?_);refine J ?_;conv=>whnf
 refine Gv.d ⟨[(0,A5 t),(1,Q y f.a av)],[AO t f {j with a:=q,e:=r,c:=o,g:=n} {aa with a:=0,b:=0,d:=I,e:=I,c:=A0,i:=0},Aq q ⟨0,0,0⟩,B8 j.d (((L.set 0 0).set 1 0).set 5 0),.t j.f [Q j.b m ah] 136,.t j.b (U m (AD 0)++ai) 3,B6 o f,Cv n f z,CY r f.i,De f j,Dc f j,Dd f j,.t y (ak++ao) 31,.u (A2 Z),CS j an,.u (A2 al)],⟨A,A,AA⟩,AQ.b,?_⟩;refine Gv.b (J ?_);have br:Dv f an al (Gf W ag af 0):=by
  have bc:Gf W ag af 0=ag:=by funext p;simp[Gf]
  rw[bc];exact bi
 refine EY.f (m:=B×G M×S) (λx=>f.a-x.1) (λx=>x.1<=f.a/\Dv f x.2.1 x.2.2 (Gf W ag af x.1)) (λx=>[(0,A5 t),(1,Q y f.a av),(4,N (x.1:B))]) (λx=>[AO t f {j with a:=q,e:=r,c:=o,g:=n} {aa with a:=0,b:=0,d:=I,e:=I,c:=A0,i:=0},Aq q ⟨0,0,0⟩,B8 j.d (((L.set 0 0).set 1 0).set 5 0),.t j.f [Q j.b m ah] 136,.t j.b (U m (AD 0)++ai) 3,B6 o f,Cv n f z,CY r f.i,De f j,Dc f j,Dd f j,.t y (ak++ao) 31,.u (A2 Z),CS j x.2.1,.u (A2 x.2.2)]) (0,an,al) ⟨Af _,br⟩ ⟨A,A,A,AA⟩ (AQ.w _) ?_;rintro⟨l,au,ap⟩ ⟨bo,ar⟩ a8;dsimp only at bo ar;change EY _ [(0,A5 t),(1,Q y f.a av),(4,N (l:B))] [AO t f {j with a:=q,e:=r,c:=o,g:=n} {aa with a:=0,b:=0,d:=I,e:=I,c:=A0,i:=0},Aq q ⟨0,0,0⟩,B8 j.d (((L.set 0 0).set 1 0).set 5 0),.t j.f [Q j.b m ah] 136,.t j.b (U m (AD 0)++ai) 3,B6 o f,Cv n f z,CY r f.i,De f j,Dc f j,Dd f j,.t y (ak++ao) 31,.u (A2 Z),CS j au,.u (A2 ap)];refine EY.b ?_;by_cases u:l<f.a
 ·have bs:=B7 ((l:F)<(f.a:B));refine J ?_;refine Qh.mk l A u (J ?_);refine Mw.t (er:=U f.a (X I)++j.h) (U f.a (X I)++j.h) ⟨A,Z6⟩ (Ic u) (J ?_);refine Qh.mk l A u (J ?_);refine Mw.t (er:=U f.a A0++j.j) (U f.a A0++j.j) ⟨A,Z6⟩ (Ic u) (J ?_);refine Qh.mk l A u (J ?_);refine Mw.t (er:=U f.a A0++j.i) (U f.a A0++j.i) ⟨A,Z6⟩ (Ic u) (A7 ?_);by_cases aj:W l=R
  ·obtain⟨aq,ax,a1,a2,bd,be,bf⟩:=a5.c l u aj;obtain⟨ba,a3⟩:=Kp bd;refine Ms.mk (v:=(Q aq 128 ax)) ?_ ?_
   ·exact I1 a2
   refine A7 ?_;refine Ms.mk (v:=(Q aq 128 ax)) ?_ ?_
   ·exact I1 a2
   refine J ?_;refine A9.w (a:=_) ((AQ.u (GS.t (f:=[.u (A2 Z)]) Y0)).t (a3 _).1) (A9.u (Xb t f {j with a:=q,e:=r,c:=o,g:=n} {aa with a:=0,b:=0,d:=I,e:=I,c:=A0,i:=0} au ap (Gf W ag af l) l aq 0 ax a1 5 (af l) ar u be bf) ?_);rintro v am ⟨bn,bb,a4,rfl,rfl⟩;rw[<-AC6 aj] at a4;refine J ?_;exact F'.mk ((l+1:B):F) Y2 (a8 (l+1,bn,bb) ⟨u,a4⟩ Y6 ⟨A,A,A,AA⟩ ((AQ.u (GS.t (f:=[.t aq a1 5,.u (A2 ba)]) Y0)).t ((a3 _).2.t AQ.b)))
  ·have aj:W l=I:=by simpa using aj
   refine Ms.mk (v:=A0) ?_ ?_
   ·exact I1 (a5.b l u aj)
   refine J ?_;exact F'.mk ((l+1:B):F) Y2 (a8 (l+1,au,ap) ⟨u,by rw[AC4 aj];exact ar⟩ Y6 ⟨A,A,A,AA⟩ AQ.b)
 ·have bs:=Aa ((l:F)<(f.a:B));refine J ?_;refine A9.b (Xh t f {j with a:=q,e:=r,c:=o,g:=n} {aa with a:=0,b:=0,d:=I,e:=I,c:=A0,i:=0} (((L.set 0 0).set 1 0).set 5 0) (by simp[a6])) (J ?_);obtain rfl:l=f.a:=Y;exact⟨_,AQ.b,q,r,o,n,z,au,ap,bp,bq,ar,A,A⟩
structure Gu(o r:B)(m:G M)(p:S)(n:B->G B):Prop where
 a:m.length=o
 b:∀f,f<r->∃l q j,m[f]?=C (Q l 128 q)/\BL.t l j 5∈p/\(j.drop 0).take 128=(n f).map W/\(n f).length=128
def Gu.c{n:B->G B}(j:Gu l p er lg n)(Z:np<l)(m:B)(L:∀a,a<m->a≠np->a<p)(z:(yj.drop 0).take 128=q.map W)(F:q.length=128):Gu l m (er.set np (Q xu 128 yi)) (.t xu yj 5::lg) (Cm n np q):=by
 refine⟨by rw[B_];exact j.a,λa N=>?_⟩;have U:=j.a;rw[EV];unfold Cm;by_cases f:np=a
 ·subst f;rw[A8 A,A8 Y];exact⟨xu,yi,yj,A,Bt ..,by rw[A8 A];exact z,by rw[A8 A];exact F⟩
 ·rw[A1 f,A1 (λa=>f a.symm)];obtain⟨y,r,t,o,b,u,x⟩:=j.b a (L a N (λa=>f a.symm));exact⟨y,r,t,o,By _ b,u,x⟩
abbrev ABe(a j n l o:B)(m f:M):G M:=[N 128,Q j a n,Q l a o,m,f]
abbrev Dg(j a l o m p:B)(n f:M):BL:=.t j (ABe a l o m p n f) 227
abbrev Eu(f a:B)(j:G M):BL:=.t f (U a (X I)++j) 4
abbrev I9(a l j f:B):G M:=[N a,N l,Q j 128 f]
def ABd(j f p t q u l a o m:B)(r n:M)(y:a<f):AK 290 [A5 j,AV (I9 l a o m).toArray] [Dg j f p t q u r n] (X R):=by
 have z:=B7 ((a:F)≥0);have G:=B7 ((a:F)<(f:B));refine A9.t ?_;intro x;refine J ?_;exact BE
def AAq(p m x L y N q a f r F aj:B)(z u:M)(Y t:G M)(n:G B)(ai:a<m)(aa:n.length=128)(ah:(t.drop 0).take 128=n.map W):Z9 193 [A5 p,Q F 1 aj] [Dg p m x L y N z u,.t F (I9 q a f r++Y) 177,.t f t 5] λv af=>∃o U S j l,v=Q o 1 U/\af=[.t o (I9 0 a j (128+l.length)++S) 177,AJ j n l,Dg p m x L y N z u,.t F (I9 q a f r++Y) 177,.t f t 5]:=by
 refine A9.t (J ?_);refine EY.b (A7 ?_);refine A9.b (ABd p m x L y N q a f r z u ai) ?_;refine A7 ?_;intro ag;refine J ?_;refine Cr.v (f:=[]) (h:=[]) A A A A ⟨A,A⟩ (Gt.t (x:=AJ ag [] []) Y0) n ah aa ⟨Z,by show 0+128<=_;decide⟩ (λj l al=>?_);rw[Bz,aa];refine J ?_;intro ak;refine J ?_;refine Cr.ad (j:=_) (N:=_) A A A A A A A ⟨A,Z⟩ (I9 0 a j (128+l.length)) A A A ⟨Z,Z,Z⟩ (λo U S am an ao=>?_);refine J ?_;refine F'.mk 1 A (EY.b (J ?_));exact⟨[.t o (I9 0 a j (128+l.length)++S) 177,AJ j n l,Dg p m x L y N z u,.t F (I9 q a f r++Y) 177,.t f t 5],AQ.b,o,U,S,j,l,A,A⟩
def AAp(a f m p n q r:B)(j:AC CW)(o l:M):AK 193 [A5 a,O j 0 r] [Dg a f m p n q o l] A0:=by
 refine A9.t (J ?_);refine EY.b (J ?_);exact BE
def AAs(p a l F m N t f j u q ao:B)(z x:M)(ah n ag af r:G M)(ai:S)(an:B->G B)(o:G B)(L:f<a)(aw:a<=1000)(aj:o.length=128)(aq:(n.drop 0).take 128=o.map W)(al:Gu a a ag ai an):Z9 103 [A5 p,Q q 1 ao] [Dg p a l F m N z x,.t q (I9 t f j u++ah) 177,.t j n 5,.t l (ag++af) 31,Eu m a r,.u (A2 ai)] λv ap=>∃am ak,Gu a a am ak (Cm an f o)/\v=AL #[]/\ap=[Dg p a l F m N z x,.t q (I9 t f j u++ah) 177,.t j n 5,.t l (am++af) 31,Eu m a r,.u (A2 ak)]:=by
 have ax:=al.a;refine A9.t (J ?_);refine A9.u (AAq p a l F m N t f j u q ao z x ah n o L aj aq) ?_;rintro v au ⟨av,ay,az,y,aa,rfl,rfl⟩;refine J ?_;refine EY.b (J ?_);refine Qh.mk 0 A Z (J ?_);refine Qh.mk 0 A Z (J ?_);refine Qh.mk f A L (J ?_);refine Mw.t (ag.set f (Q y 128 (128+aa.length))++af) ⟨A,Z5⟩ (P8 Y) (J ?_);refine Qh.mk 0 A Z (J ?_);refine Qh.mk f A L (J ?_);refine Mw.t (er:=U a (X I)++r) (U a (X I)++r) ⟨A,Z6⟩ (Ic L) (J ?_);refine F'.mk 1 A (EY.b (J ?_));refine⟨[Dg p a l F m N z x,.t q (I9 t f j u++ah) 177,.t j n 5,.t l (ag.set f (Q y 128 (128+aa.length))++af) 31,Eu m a r,.u (A2 (AJ y o aa::ai))],?_,_,_,al.c L a (λa0 ar _=>ar) (by rw[CJ];exact C_ (by rw[BW];exact aj)) aj,A,A⟩;exact((AQ.ab (a:=[AJ y o aa,.u (A2 ai),Dg p a l F m N z x,.t q (I9 t f j u++ah) 177,.t j n 5,.t l (ag.set f (Q y 128 (128+aa.length))++af) 31,Eu m a r]) Y0).t (N3 _ _ _)).t AQ.b
def ABB(a f j n l o r:B)(p:AC CW)(m q:M):Ay 107 [A5 a,O p 0 r] [Dg a f j n l o m q] (AL #[]) [Dg a f j n l o m A0]:=by
 refine A9.t (J ?_);refine A9.b (AAp a f j n l o r p m q) (J ?_);exact BE
def AAo(a f l n m o r:B)(p:AC CW)(q j:M):Ay 106 [A5 a,O p 0 r] [Dg a f l n m o q j] (AL #[]) [Dg a f l n m o A0 j]:=by
 refine A9.t ?_;refine J ?_;refine EY.b ?_;refine J ?_;exact BE
def AF4{P:Prop}(h:P:=by rw[List.append_nil];exact(congrArg (D8 _) (Nat.mul_one _)).trans (DM _ _)):P:=h
def AB0(a:B)(an:1<=a/\a<=1000):Z9 102 [N a,N 128] [] λv r=>∃l f j o p,Gu a a o p (λ_=>U 128 0)/\v=AL #[A5 l,N 0]/\r=[Dg l a f a j a A0 A0,.t f (o++[]) 31,Eu j a [],.u (A2 p)]:=by
 have ar:=Aa ((a:F)<1);have au:=Aa ((a:F)>16384);have al:∀(q am:B),(U a A0++[]:G M)=U a A0++[]:=λ_ _=>A;refine A9.aa (A9.aj A A (DW A) (Gv.c (Gv.b ?_)));refine J ?_;conv=>whnf
 refine Gv.c (Gv.b ?_);refine J ?_;conv=>whnf
 refine Gv.c (Gv.f (f:=λx r=>∃l f j,Fm [(6,A5 l),(0,N a),(1,N 128)] x/\AQ r [Dg l a f a j a A0 A0,.t f (U a A0++[]) 31,Eu j a []]) (Gv.b ?_) ?_)
 ·refine J ?_;refine⟨?_,?_⟩
  ·refine Cr.t (p:=a) (j:=a) (m:=_) (u:=_) A A A A A A ⟨AI _,by show 24*a<=_;omega,by show a<=9223372036854775807;omega⟩ (U a A0++[]) AF4 (λf=>?_);refine J ?_;refine Cr.t (p:=a) (j:=a) (m:=_) (u:=_) A A A A A A ⟨AI _,by show 1*a<=_;omega,by show a<=9223372036854775807;omega⟩ (U a (X I)++[]) AF4 (λj=>?_);refine J ?_;intro l;refine J ?_;exact⟨l,f,j,⟨A,A,A,AA⟩,AQ.b⟩
  ·refine Cr.t (p:=a) (j:=a) (m:=_) (u:=_) A A A A A A ⟨AI _,by show 1*a<=_;omega,by show a<=9223372036854775807;omega⟩ (U a (X I)++[]) AF4 (λj=>?_);refine J ?_;refine Cr.t (p:=a) (j:=a) (m:=_) (u:=_) A A A A A A ⟨AI _,by show 24*a<=_;omega,by show a<=9223372036854775807;omega⟩ (U a A0++[]) AF4 (λf=>?_);refine J ?_;intro l;refine J ?_;exact⟨l,f,j,⟨A,A,A,AA⟩,AQ.b⟩
 rintro x r ⟨l,f,j,z,L⟩;refine Gv.d ⟨_,_,z,L,?_⟩;clear z L;refine Gv.b (J ?_);have ag:Gu a 0 (U a A0) [] (λ_=>U 128 0):=⟨BI,λaa ai=>CV ai Y⟩;refine EY.f (m:=B×G M×S) (λn=>a-n.1) (λn=>n.1<=a/\Gu a n.1 n.2.1 n.2.2 (λ_=>U 128 0)) (λn=>[(6,A5 l),(0,N a),(1,N 128),(7,N (n.1:B))]) (λn=>[Dg l a f a j a A0 A0,.t f (n.2.1++[]) 31,Eu j a [],.u (A2 n.2.2)]) (0,U a A0,[]) ⟨Af _,ag⟩ ⟨A,A,A,A,AA⟩ ((AQ.aa [] _).t AQ.b) ?_;rintro⟨m,o,p⟩ ⟨ah,t⟩ aj;dsimp only at ah t;change EY _ [(6,A5 l),(0,N a),(1,N 128),(7,N (m:B))] [Dg l a f a j a A0 A0,.t f (o++[]) 31,Eu j a [],.u (A2 p)];have aq:=t.a;refine EY.b ?_;by_cases u:m<a
 ·have ak:=B7 ((m:F)<(a:B));refine J ?_;refine Cr.t (p:=128) (j:=128) (m:=_) (u:=_) A A A A A A ⟨Z,Z,Z⟩ (U 128 (W 0)) (DM _ _) (λq=>?_);refine J ?_;refine Qh.mk m A u (J ?_);refine Mw.t (o.set m (Q q 128 128)++[]) ⟨A,Z5⟩ (P8 Y) (J ?_);refine F'.mk ((m+1:B):F) Y2 ?_;have y:=t.c u (m+1) (λaa ao ap=>Y) (xu:=q) (yi:=128) (yj:=U 128 (W 0)) (q:=U 128 0) A A;have af:Cm (λ_=>U 128 0) m (U 128 0)=λ_=>U 128 0:=by
   funext aa;unfold Cm;split<;>rfl
  rw[af] at y;exact aj (m+1,_,_) ⟨u,y⟩ Y6 ⟨A,A,A,A,AA⟩ (((AQ.ab (a:=[.t q (U 128 (W 0)) 5,.u (A2 p),Dg l a f a j a A0 A0,.t f (o.set m (Q q 128 128)++[]) 31,Eu j a []]) Y0).t (N3 _ _ _)).t AQ.b)
 ·have ak:=Aa ((m:F)<(a:B));refine J ?_;obtain rfl:m=a:=Y;exact⟨_,AQ.b,l,f,j,o,p,t,A,A⟩
def AB1(l j:B)(f:AC CW)(a:S):AK 196 [O f 0 j,N l] a A0:=by
 refine A9.y (J ?_);refine EY.b (J ?_);exact⟨A,A⟩
def ABE(f l:B)(a:G B)(j:AU):AK 113 [Q f 1 l,In (DF a)] [.t f [In (DF a)] j] (X R):=by
 have m:((DF a).toList==(DF a).toList)=R:=beq_self_eq_true _;refine A9.t (J ?_);refine EY.b (A7 ?_);exact BE
def AAi(p a m u n y f:B)(q F z:G M)(j:S)(o:B->G B)(ai:Gu a a q j o)(x:f<a)(aj:∀W∈o f,W<256):Z9 114 [A5 p,N 0,N f] [Dg p a m u n y A0 A0,.t m (q++F) 31,Eu n a z,.u (A2 j)] λv U=>∃l,v=Q l 1 1/\U=[.t l [In (DF (o f))] 9,Dg p a m u n y A0 A0,.t m (q++F) 31,Eu n a z,.u (A2 j)]:=by
 obtain⟨r,Y,Z,aa,af,ag,ah⟩:=ai.b f x;obtain⟨L,t⟩:=Kp af;refine A9.aa ?_;refine A9.w (a:=_) ((AQ.u (GS.t (f:=[.u (A2 j)]) Y0)).t (t _).1) (A9.y ?_);refine A7 ?_;refine Ms.mk (v:=(Q r 128 Y)) ?_ ?_
 ·exact I1 aa
 refine J ?_;refine E7.f (q:=o f) A A A A A ah ag aj ?_;refine J ?_;refine EY.b (J ?_);intro l;refine J ?_;refine A9.ab (AB1 f 0 E _) (J ?_);refine Cr.ab (yq:=_) A A A A A A (AI _) (A7 ?_);refine Ms.mk (v:=(X I)) ?_ ?_
 ·exact Ni x
 refine J ?_;exact⟨_,(AQ.u (GS.t (f:=[.t r Z 5,.u (A2 L)]) Y0)).t ((t _).2.t AQ.b),l,A,A⟩
def m8(f:A6)(ay:f.e)(o l z m L u aq:B)(x aa U Z ah:G M)(r y:S)(W:B->AE)(q ar:B->G B)(a0:Gu f.a f.a x r q)(am:Ko f Z y W ar)(an:∀n,n<f.a->W n=R->ar n=q n)(ao:∀n,n<f.a->∀a3∈q n,a3<256):
 AK 55 [A5 o,Q u f.a aq] [Dg o f.a l z m L A0 A0,.t l (x++aa) 31,Eu m f.a U,.u (A2 r),.t u (Z++ah) 31,.u (A2 y)] (X R):=by
 have a1:=A6.ab ay;obtain⟨aj,az⟩:∃aj,f.a=aj:=⟨_,A⟩;rw[az] at a1;refine A9.t (J ?_);refine EY.b (J ?_);refine EY.f (m:=B) (λa=>f.a-a) (λa=>a<=f.a) (λa=>[(0,A5 o),(1,Q u f.a aq),(5,N 0),(6,X R),(7,N (a:B))]) (λa=>[Dg o f.a l z m L A0 A0,.t l (x++aa) 31,Eu m f.a U,.u (A2 r),.t u (Z++ah) 31,.u (A2 y)]) 0 (Af _) ⟨A,A,A,A,A,AA⟩ (AQ.w _) ?_;intro a a5 ap;by_cases j:a<f.a
 ·have a2:=B7 ((a:F)<(f.a:B));have a7:=Aa ((a:F)≥(f.a:B));by_cases p:W a=R
  ·obtain⟨t,ak,af,ag,au,av,aw⟩:=am.c a j p;obtain⟨ai,al⟩:=Kp au;refine EY.h (.t t af 5::.u (A2 ai)::[Dg o f.a l z m L A0 A0,.t l (x++aa) 31,Eu m f.a U,.u (A2 r),.t u (Z++ah) 31]) ((AQ.u (GS.t (f:=[.u (A2 y)]) Y0)).t (al _).1) (EY.b (A7 ?_));refine Ms.mk (v:=(Q t 128 ak)) ?_ ?_
   ·exact I1 ag
   refine A7 ?_;refine Ms.mk (v:=(Q t 128 ak)) ?_ ?_
   ·exact I1 ag
   refine J ?_;refine E7.f (q:=q a) A A A A A (by rw[<-an a j p];exact aw) (by rw[<-an a j p];exact av) (ao a j) (J ?_);refine A9.u (AAi o f.a l z m L a x aa U r q a0 j (ao a j)) ?_;rintro v a4 ⟨ax,rfl,rfl⟩;refine J ?_;repeat(first|(refine Mt.mk (aY.mk (I1 ag)) ?_;refine J ?_)|(refine Mt.mk (f:=Bo _ t af _) inferInstance ?_;refine a6 ?_))
   refine A9.b (ABE ax 1 (q a) 9) (J ?_);exact F'.mk ((a+1:B):F) Y2 (ap (a+1) j Y ⟨A,A,A,A,A,AA⟩ ((AQ.u (GS.t (f:=[.t t af 5,.u (A2 ai)]) Y0)).t ((al _).2.t AQ.b)))
  ·have p:W a=I:=by simpa using p
   refine EY.b (A7 ?_);refine Ms.mk (v:=A0) ?_ ?_
   ·exact I1 (am.b a j p)
   refine J ?_;exact F'.mk ((a+1:B):F) Y2 (ap (a+1) j Y ⟨A,A,A,A,A,AA⟩ AQ.b)
 ·have a2:=Aa ((a:F)<(f.a:B));refine EY.b (J ?_);exact⟨_,AQ.w _,A,A⟩
variable{yr:M->CQ->Prop}{yo:Cf}
def E7.j{o:Al}{a:AC CW}(r:o.op=.convert l p yo)(t:xx.c l=C (.slice np))(n:xx.c np=C (.int BQ))(m:xx.c p=C .string)
 (u:CR yc yo=C (O a 0 xu))(j:yr (In (DF [])) .t):E7 xx o yc lg yr:=by
 refine⟨_,_,j,AA,λL z y W U x q F G=>?_⟩;unfold Bh;rw[r];simp only[q.b u];rw[Ak,YC (l:=[]) (f:=0) ⟨A,Y1,λf=>CV f Z⟩ l np p (xx.f t) (xx.f n) (xx.f m) xu];rfl
abbrev Qs(f:AE)(l:B)(arg:B)(a:AE)(j:B):M:=AV #[X f,N l,D Ax arg,X I,X a,W j,A0,A0,X I]
def b_(l:AE)(n arg m:B)(j:AE)(f:M)(a:S):AK 32 [Qs l n arg j m,f] a (D Ax arg):=by
 refine A9.t ?_;intro o;refine J ?_;exact⟨_,AQ.y _,A,A⟩
def fU(a:B)(f:B)(l:a<128):(U a (W f)++U (128-a) (W 0)).set (0+a*1) (W f)=U (a+1) (W f)++U (128-(a+1)) (W 0):=by
 rw[BF,B3,List.set_append_right _ _ Y1,BI,Nat.sub_self];obtain⟨m,j⟩:∃m,128-a=m+1:=⟨127-a,Y⟩;rw[j,show 128-(a+1)=m by omega,List.replicate_succ,List.set_cons_zero,List.replicate_succ',List.append_assoc];rfl
def cK(n:AE)(p arg f:B)(m:AE):Z9 24 [Qs n p arg m f,N 128] [] λv q=>∃j,v=Q j 128 128/\q=[.t j (U 128 (W f)) 5]:=by
 refine A9.t ?_;intro o;refine J ?_;refine Cr.t (p:=128) (j:=128) (m:=_) (u:=_) A A A A A A ⟨Z,Z,Z⟩ (U 128 (W 0)) (DM _ _) (λj=>?_);refine J ?_;refine EY.f (m:=B) (λa=>128-a) (λa=>a<=128) (λa=>[(2,P o),(1,N 128),(5,Q j 128 128),(6,N (a:B))]) (λa=>[.t j (U a (W f)++U (128-a) (W 0)) 5,.t o (B9 (Qs n p arg m f)) 33]) 0 (Af _) ⟨A,A,A,A,AA⟩ (AQ.u (DZ A)) ?_;intro a u r;refine EY.b ?_;by_cases l:a<128
 ·have t:=B7 ((a:F)<128);refine J ?_;refine Qh.mk a A l (J ?_);refine Mw.t (U (a+1) (W f)++U (128-(a+1)) (W 0)) ⟨A,by rw[Ad,BI,BI];omega⟩ (fU a f l) (J ?_);exact F'.mk ((a+1:B):F) Y2 (r (a+1) l Y ⟨A,A,A,A,AA⟩ (AQ.w _))
 ·have t:=Aa ((a:F)<128);obtain rfl:a=128:=Y;refine J ?_;refine Cr.ay A A A A A A (J ?_);exact⟨[.t j (U 128 (W f)) 5],AQ.b,j,A,A⟩
def YH(a:AE)(f:F)(j:S):AK 35 [Ar a A0 f A0,Ar a A0 f A0] j (X R):=by
 have n:((DF []).toList !=(DF []).toList)=I:=Y1;have o:(a !=a)=I:=Y1;have p:(f !=f)=I:=Y1;refine A9.t ?_;intro l;refine J ?_;intro m;refine J ?_;refine E7.j A A A A A (J ?_);refine E7.j A A A A A (J ?_);refine EY.b (J ?_);exact⟨_,(AQ.y _).t (AQ.y _),A,A⟩
def Hq(j:G M)(l f:B)(a:G B):Prop:=(j.drop l).take f=a.map W/\a.length=f/\∀m∈a,m<256
def AAg(j:AE)(l:F)(p o f z q y L:B)(m n:G M)(u x:AU)(a:G B)(r:Hq m o f a)(t:Hq n y f a):AK 35 [Ar j (O (C ⟨p,o,E⟩) f z) l A0,Ar j (O (C ⟨q,y,E⟩) f L) l A0] [.t p m u,.t q n x] (X R):=by
 have U:((DF a).toList !=(DF a).toList)=I:=Y1;have W:(j !=j)=I:=Y1;have Y:(l !=l)=I:=Y1;refine A9.t ?_;intro N;refine J ?_;intro S;refine J ?_;refine E7.f (q:=a) A A A A A r.2.1 r.1 r.2.2 (J ?_);refine E7.f (q:=a) A A A A A t.2.1 t.1 t.2.2 (J ?_);refine EY.b (J ?_);exact⟨[.t p m u,.t q n x],AQ.b,A,A⟩
def AAf(l:AE)(m:F)(q W r Y f o S j x U:B)(L N n p:G M)(y z:AU)(a:G B)(t:Hq n o 128 a)(u:Hq p x 128 a):AK 35 [Ar l A0 m (Q q 1 W),Ar l A0 m (Q r 1 Y)] [.t q (O (C ⟨f,o,E⟩) 128 S::L) 31,.t r (O (C ⟨j,x,E⟩) 128 U::N) 31,.t f n y,.t j p z] (X R):=by
 have af:((DF []).toList !=(DF []).toList)=I:=Y1;have ai:((DF a).toList !=(DF a).toList)=I:=Y1;have ag:(l !=l)=I:=Y1;have ah:(m !=m)=I:=Y1;refine A9.t ?_;intro Z;refine J ?_;intro aa;refine J ?_;refine E7.j A A A A A (J ?_);refine E7.j A A A A A (J ?_);refine EY.b (A7 ?_);refine E7.f (q:=a) A A A A A t.2.1 t.1 t.2.2 (A7 ?_);refine E7.f (q:=a) A A A A A u.2.1 u.1 u.2.2 (J ?_);refine F'.mk 1 A (EY.b (J ?_));exact⟨[.t q (O (C ⟨f,o,E⟩) 128 S::L) 31,.t r (O (C ⟨j,x,E⟩) 128 U::N) 31,.t f n y,.t j p z],AQ.b,A,A⟩
structure Co where
 d:B
 f:M
 e:M
 b:F
 a:B
 c:B
abbrev ACr(a:A6)(j l m:B)(f:Co):G M:=[N 70,N a.d,N 128,N a.b,N a.f,N a.s,N a.c,N a.i,N a.u,A5 j,A5 l,A5 m,N f.d,f.f,f.e,N f.b,N f.a,W f.c]
abbrev Bd(m:B)(a:A6)(f j l:B)(n:Co):BL:=.t m (ACr a f j l n) 58
def ADF(m:B)(n arg l:M)(a:AE)(f:F)(j:S):AK 36 [A5 m,n,arg,l,Ar a A0 f A0,Ar a A0 f A0] j (X R):=by
 have q:((DF []).toList !=(DF []).toList)=I:=Y1;have r:(a !=a)=I:=Y1;have t:(f !=f)=I:=Y1;refine A9.t ?_;intro o;refine J ?_;intro p;refine J ?_;refine E7.j A A A A A (J ?_);refine E7.j A A A A A (J ?_);refine EY.b (J ?_);exact⟨_,(AQ.y _).t (AQ.y _),A,A⟩
def ADH(L:B)(N arg z:M)(j:AE)(l:F)(p o f S q y U:B)(m n:G M)(u x:AU)(a:G B)(r:Hq m o f a)(t:Hq n y f a):AK 36 [A5 L,N,arg,z,Ar j (O (C ⟨p,o,E⟩) f S) l A0,Ar j (O (C ⟨q,y,E⟩) f U) l A0] [.t p m u,.t q n x] (X R):=by
 have Z:((DF a).toList !=(DF a).toList)=I:=Y1;have aa:(j !=j)=I:=Y1;have af:(l !=l)=I:=Y1;refine A9.t ?_;intro W;refine J ?_;intro Y;refine J ?_;refine E7.f (q:=a) A A A A A r.2.1 r.1 r.2.2 (J ?_);refine E7.f (q:=a) A A A A A t.2.1 t.1 t.2.2 (J ?_);refine EY.b (J ?_);exact⟨[.t p m u,.t q n x],AQ.b,A,A⟩
def ADG(ag x:B)(aj:x≠8)(arg Z:M)(l:AE)(m:F)(q aa r af f o W j y Y:B)(S U n p:G M)(z L:AU)(a:G B)(t:Hq n o 128 a)(u:Hq p y 128 a):AK 36 [A5 ag,N x,arg,Z,Ar l A0 m (Q q 1 aa),Ar l A0 m (Q r 1 af)] [.t q (O (C ⟨f,o,E⟩) 128 W::S) 31,.t r (O (C ⟨j,y,E⟩) 128 Y::U) 31,.t f n z,.t j p L] (X R):=by
 have ak:((DF []).toList !=(DF []).toList)=I:=Y1;have an:((DF a).toList==(DF a).toList)=R:=Y1;have al:(l !=l)=I:=Y1;have am:(m !=m)=I:=Y1;have ao:((x:F)!=8)=R:=Y8;refine A9.t ?_;intro ah;refine J ?_;intro ai;refine J ?_;refine E7.j A A A A A (J ?_);refine E7.j A A A A A (J ?_);refine EY.b (A7 ?_);refine E7.f (q:=a) A A A A A t.2.1 t.1 t.2.2 (A7 ?_);refine E7.f (q:=a) A A A A A u.2.1 u.1 u.2.2 (J ?_);refine F'.mk 1 A (EY.b (J ?_));exact⟨[.t q (O (C ⟨f,o,E⟩) 128 W::S) 31,.t r (O (C ⟨j,y,E⟩) 128 Y::U) 31,.t f n z,.t j p L],AQ.b,A,A⟩
def Kh(v:M):Prop:=∃o a m j p f n l,v=Ar o (O a m j) p (O f n l)
def Py(f:B)(m:A6)(n a o:B)(p:Co)(t arg:B)(r:AE)(l:C0)(u:M->S->Prop)(G:Z9 98 [A5 a,BY t arg,X r] [.u l] λv j=>Kh v/\u v j):
 Z9 49 [A5 f,N t,D Ax arg,X r] [Bd f m n a o p,.u l] λv j=>∃q,Kh v/\u v q/\j=Bd f m n a o p::q:=by
 refine A9.t ?_;intro F;refine J ?_;refine A9.w (a:=[.t F _ _,Bd f m n a o p]++[.u l]) AQ.b ?_;refine A9.ac G ?_;rintro v x ⟨⟨W,y,U,P,Y,z,V,Q,rfl⟩,L⟩;refine J ?_;exact⟨_,AQ.y _,x,⟨W,y,U,P,Y,z,V,Q,A⟩,L,A⟩
def eN(l b m f j:BL)(a:S):AQ (l::b::m::f::j::a) ((l::b::m::j::a)++[f]):=
 AQ.z _ (AQ.z _ (AQ.z _ (AQ.u (Cj (l₁:=[f]) (l₂:=j::a)))))
def Yy(l:B)(o:A6)(p f j:B)(t:Co)(r arg:B)(q:AE)(m u:C0)(x L:M->S->Prop)(Z:Z9 98 [A5 f,BY r arg,X q] [.u m] λv a=>Kh v/\x v a)
 (aa:Z9 72 [A5 j,BY r arg,X q] [.u u] λv a=>Kh v/\L v a):
 Z9 34 [A5 l,N r,D Ax arg,X q] [Bd l o p f j t,.u m,.u u] λv a=>∃y z n G,Kh y/\Kh z/\x y n/\L z G/\v=AL #[y,z]/\a=Bd l o p f j t::(n++G):=by
 have ah:=Py l o p f j t r arg q m x Z;refine A9.t ?_;intro W;refine J ?_;intro Y;refine J ?_;refine A9.w (a:=[.t Y _ _,.t W _ _,.u u]++[Bd l o p f j t,.u m]) AQ.b (A9.ac ah ?_);rintro v F ⟨n,⟨aq,P,am,ai,au,U,ao,ak,rfl⟩,af,rfl⟩;refine J ?_;intro aw;refine J ?_;refine A9.w (a:=_) (eN _ _ _ _ _ _) (A9.ac aa ?_);rintro v F ⟨⟨ar,Q,an,aj,av,V,ap,al,rfl⟩,ag⟩;refine J ?_;exact⟨_,(AQ.y _).t ((AQ.y _).t (AQ.y _)),_,_,n,F,⟨aq,P,am,ai,au,U,ao,ak,A⟩,⟨ar,Q,an,aj,av,V,ap,al,A⟩,af,ag,A,A⟩
def Yz(l:B)(f:A6)(p q r:B)(a:Co)(j:B)(o x:F)(z:j≠38)(G:a.a<=1000/\a.d<=1000)(y:f.d<=100/\f.i<=100):
 AK 30 [A5 l,N j,N o,N x] [Bd l f p q r a] (N (12*a.a+(1+a.d)*(4*f.d+96)+12*f.i:B)):=by
 have L:((j:F)==38)=I:=Y9;have t:=Nat.mul_le_mul (show 1+a.d<=1001 by omega) (show 4*f.d+96<=496 by omega);obtain⟨m,n⟩:∃m,(1+a.d)*(4*f.d+96)=m:=⟨_,A⟩;have u:(1+(a.d:F))*(4*(f.d:F)+96)=(m:F):=by rw[<-n];norm_cast
 rw[n] at t⊢;refine A9.t ?_;refine J ?_;refine F'.mk (12*(a.a:F)) (A3 Y) ?_;refine J ?_;refine F'.mk (12*(a.a:F)+0) (A3 Y) (J ?_);refine F'.mk (1+(a.d:F)) (A3 Y) (J ?_);refine F'.mk (4*(f.d:F)) (A3 Y) (J ?_);refine F'.mk (4*(f.d:F)+96) (A3 Y) (J ?_);refine F'.mk (m:F) (by show IntKind.i64.wrap ((1+(a.d:F))*(4*(f.d:F)+96))=_;rw[u];exact A3 Y) (J ?_);refine F'.mk (12*(a.a:F)+0+m) (A3 Y) (J ?_);refine F'.mk (12*(f.i:F)) (A3 Y) (J ?_);refine F'.mk ((12*a.a+m+12*f.i:B):F) (by rw[show 12*(a.a:F)+0+m+12*(f.i:F)=((12*a.a+m+12*f.i:B):F) by push_cast;omega];exact A3 Y) (J ?_);exact BE
structure Ag where
 b:B4
 j:G B
 v:F
 t:B
 y:AE
 z:AE
 aa:B
 ad:AE
 w:G B
 u:B->G B
structure Cs where
 h:C4
 b:Bu
 x:G M
 z:B
 aa:G M
 u:G M
 v:S
 j:S
 t:S
structure Cs.w(a:Cs)(j:A6)(f:Ag):Prop where
 nG:a.b.a=f.v
 nJ:a.b.b=f.t
 nF:a.b.g=f.y
 nE:a.b.h=f.z
 nH:a.b.s=f.aa
 nI:a.b.u=f.ad
 nM:a.b.i=0
 nK:GQ a.b.c a.j f.w
 nL:Jn a.b.f a.t
 nB:Dv j a.u a.v f.u
 nA:f.j.length=64
 nC:a.x.length=90
 nD:a.x.all B'=R
abbrev Cs.y(a:Cs)(f:A6)(j:Ag):S:=B8 a.h.d j.j::B6 a.h.c f::Cv a.h.g f a.x::CY a.h.e f.i::.t a.h.f [Q a.h.b (f.b/f.c) a.z] 136::.t a.h.b (U (f.b/f.c) (AD 0)++a.aa) 3::CS a.h a.u::De f a.h::Dc f a.h::Dd f a.h::.u (A2 a.v)::[]
abbrev Cs.i(a:Cs)(l:B)(j:A6)(f:Ag):S:=.u (A2 a.j)::.u (A2 a.t)::AO l j a.h a.b::Aq a.h.a f.b::a.y j f
def Bb(j:A6)(l:B)(f:Ag):C0:=HW λa:{a:Cs//a.w j f}=>a.1.i l j f
variable{ye:Ag}
def I6{args:G M}(o:∀a:Cs,a.w xp ye->Z9 l args (a.i p xp ye) λv n=>∃(f:Ag)(j:Cs)(m:S),j.w xp f/\AQ n (j.i p xp f++m)/\xv v (.u (Bb xp p f)::m)):Z9 l args [.u (Bb xp p ye)] xv:=by
 refine A9.ah λ⟨a,u⟩=>A9.aa (A9.z (o a u) λv n x=>?_);obtain⟨f,j,m,q,r,t⟩:=x;exact⟨_,r.t (AQ.ad (λa:{a:Cs//a.w xp f}=>a.1.i p xp f) ⟨j,q⟩ (Bi _)),t⟩
def KG(f j:S)(a:S):AQ (.u (A2 f)::.u (A2 j)::a) (.u (A2 [])::.u (A2 [])::a):=
 (AQ.y _).t ((AQ.y _).t ((AQ.aa [] _).t (AQ.aa [] _)))
def Ky(f:B)(j:A6)(m:C4)(l:Bu)(a:B)(n:a=3\/a=7\/a=12\/a=1\/a=2\/a=9\/a=6\/a=17\/a=24\/a=0):Ay 142 [A5 f,N a] [AO f j m l] (AL #[]) [AO f j m {l with d:=I,e:=I,b:=0}]:=lT f j m l a Y
def Xk(r:B)(q:A6)(m:Ag)(o arg u:B)(p:B4)(Q:o=3\/o=7\/o=12)(z:arg<4294967296)(M:p.a<16)(x:p.a≠6)(L:B5 m.b.a ((o:B):F) (m.b.b arg)=((u:F),R))(G:m.b.e o arg=(R,R,p)):
 Ay 72 [A5 r,BY o arg,X R] [.u (Bb q r m)] (Ar I A0 (B0 p.a m.v) A0) [.u (Bb q r {m with b:=p,v:=0,t:=0,w:=[]})]:=by
 refine I6 λl n=>?_;have y:=XY r q l.h l.b {l.b with d:=I,e:=I,b:=0} m.b p o arg u (l.y q m) Y z M x L G (Ky r q l.h l.b o Y);refine A9.ac (j:=[.u (A2 l.j),.u (A2 l.t)]) y λv P N=>?_;obtain⟨rfl,rfl⟩:=N;refine⟨{m with b:=p,v:=0,t:=0,w:=[]},{l with b:={l.b with d:=I,e:=I,b:=0,f:=A0,c:=A0,i:=0,a:=0},j:=[],t:=[]},[],?_,KG _ _ _,?_,A⟩
 ·exact⟨A,A,n.nF,n.nE,n.nH,n.nI,A,AT ⟨A,A,_,_,A⟩,AT ⟨A,_,_,A⟩,n.nB,n.nA,n.nC,n.nD⟩
 ·rw[n.nG]
def ACS(j l:S)(f:BL)(a:S):AQ (.u (A2 j)::.u (A2 l)::f::a) ((.u (A2 [])::.u (A2 [])::a)++[f]):=
 (KG j l _).t (AQ.z _ (AQ.z _ (AQ.u (Cj (l₁:=[f]) (l₂:=a)))))
def mP(q:B)(p:A6)(m:Ag)(n arg r:B)(o:B4)(P:n=0\/n=7)(y:arg<4294967296)(L:o.a<16)(u:o.a≠6)(G:B5 m.b.a ((n:B):F) (m.b.b arg)=((r:F),R))(z:m.b.e n arg=(I,R,o)):Ay 72 [A5 q,BY n arg,X R] [.u (Bb p q m)] NV [.u (Bb p q {m with b:=o,t:=0,w:=[]})]:=by
 refine I6 λa l=>?_;have x:=lP q p a.h a.b {a.b with d:=I,e:=I,b:=0} m.b o n arg r (a.y p m) y L u G z (Ky q p a.h a.b n Y);refine A9.ac (j:=[.u (A2 a.j),.u (A2 a.t)]) x λv N M=>?_;obtain⟨rfl,rfl⟩:=M;exact⟨{m with b:=o,t:=0,w:=[]},{a with b:={a.b with d:=I,e:=I,b:=0,f:=A0,c:=A0,i:=0},j:=[],t:=[]},[],⟨l.nG,A,l.nF,l.nE,l.nH,l.nI,A,AT ⟨A,A,_,_,A⟩,AT ⟨A,_,_,A⟩,l.nB,l.nA,l.nC,l.nD⟩,KG _ _ _,A,A⟩
def mF(q:B)(p:A6)(m:Ag)(arg r:B)(o:B4)(y:arg<4294967296)(L:o.a<16)(u:o.a≠6)(G:B5 m.b.a ((13:B):F) (m.b.b arg)=((r:F),R))(z:m.b.e 13 arg=(R,R,o)):Ay 72 [A5 q,BY 13 arg,X R] [.u (Bb p q m)] (Ar I A0 (B0 o.a m.v) A0) [.u (Bb p q {m with b:=o,v:=0,t:=0,w:=[]})]:=by
 refine I6 λl n=>?_;have x:=XY q p l.h l.b {l.b with b:=0} m.b o 13 arg r (l.y p m) Y y L u G z (lS q p l.h l.b 13 Y);refine A9.ac (j:=[.u (A2 l.j),.u (A2 l.t)]) x λv N M=>?_;obtain⟨rfl,rfl⟩:=M;refine⟨{m with b:=o,v:=0,t:=0,w:=[]},{l with b:={l.b with b:=0,f:=A0,c:=A0,i:=0,a:=0},j:=[],t:=[]},[],?_,KG _ _ _,by show Ar _ _ (B0 _ l.b.a) _=_;rw[n.nG],A⟩;exact⟨A,A,n.nF,n.nE,n.nH,n.nI,A,AT ⟨A,A,_,_,A⟩,AT ⟨A,_,_,A⟩,n.nB,n.nA,n.nC,n.nD⟩
def mH(p:B)(o:A6)(m:Ag)(arg q:B)(n:B4)(x:arg<4294967296)(G:n.a<16)(r:n.a≠6)(z:B5 m.b.a ((1:B):F) (m.b.b arg)=((q:F),R))(y:m.b.e 1 arg=(R,R,n)):Ay 72 [A5 p,BY 1 arg,X R] [.u (Bb o p m)] (Ar I A0 2164228224 A0) [.u (Bb o p {m with b:=n,t:=0,w:=[]})]:=by
 refine I6 λa l=>?_;have u:=lK p o a.h a.b {a.b with d:=I,e:=I,b:=0} m.b n arg q (a.y o m) x G r z y (Ky p o a.h a.b 1 Y);refine A9.ac (j:=[.u (A2 a.j),.u (A2 a.t)]) u λv M L=>?_;obtain⟨rfl,rfl⟩:=L;exact⟨{m with b:=n,t:=0,w:=[]},{a with b:={a.b with d:=I,e:=I,b:=0,f:=A0,c:=A0,i:=0},j:=[],t:=[]},[],⟨l.nG,A,l.nF,l.nE,l.nH,l.nI,A,AT ⟨A,A,_,_,A⟩,AT ⟨A,_,_,A⟩,l.nB,l.nA,l.nC,l.nD⟩,KG _ _ _,A,A⟩
def mM(q:B)(o:A6)(m:Ag)(arg y:B)(n:B4)(L:arg<4294967296)(S:n.a<16)(z:n.a≠6)(N:B5 m.b.a ((2:B):F) (m.b.b arg)=((y:F),R))(M:m.b.e 2 arg=(R,R,n)):Z9 72 [A5 q,BY 2 arg,X R] [.u (Bb o q m)] λv x=>∃p u r,v=Ar I (Q p 16 u) 0 A0/\x=[.u (Bb o q {m with b:=n,t:=0,w:=[]}),AJ p Ep r]:=by
 refine I6 λa l=>?_;have G:=lN q o a.h a.b {a.b with d:=I,e:=I,b:=0} m.b n arg y (a.y o m) L S z N M (Ky q o a.h a.b 2 Y);refine A9.ac (j:=[.u (A2 a.j),.u (A2 a.t)]) G λv x U=>?_;obtain⟨p,u,r,rfl,rfl⟩:=U;refine⟨{m with b:=n,t:=0,w:=[]},{a with b:={a.b with d:=I,e:=I,b:=0,f:=A0,c:=A0,i:=0},j:=[],t:=[]},[AJ p Ep r],⟨l.nG,A,l.nF,l.nE,l.nH,l.nI,A,AT ⟨A,A,_,_,A⟩,AT ⟨A,_,_,A⟩,l.nB,l.nA,l.nC,l.nD⟩,?_,p,u,r,A,A⟩;exact ACS _ _ _ _
def mI(q:B)(n:A6)(m:Ag)(arg N:B)(p:B4)(W:1<=arg%65536/\arg%65536<=64)(L:arg<4294967296)(M:p.a<16)(S:p.a≠6)(Y:B5 m.b.a ((23:B):F) (m.b.b arg)=((N:F),R))(V:m.b.e 23 arg=(R,R,p)):Ay 72 [A5 q,BY 23 arg,X R] [.u (Bb n q m)] (Ar I A0 (B0 p.a m.v) A0) [.u (Bb n q {m with b:=p,v:=0,t:=arg%65536,y:=arg/2147483648==1,z:=arg/1073741824%2==1,w:=[]})]:=by
 refine I6 λl o=>?_;have U:=lL q n l.h l.b {l.b with d:=I,e:=I} m.b p arg N (l.y n m) (λP G u x=>P=l.h/\G={l.b with d:=I,e:=I,f:=A0,c:=A0,i:=0,b:=arg%65536,g:=arg/2147483648==1,h:=arg/1073741824%2==1}/\u=p/\x=l.y n m) L M S Y V (SW q n l.h l.b 23 (AT A)) (by
  refine A9.ad (lQ q n l.h _ arg L W) Y0 (λv Q r=>?_);obtain⟨rfl,rfl⟩:=r;exact⟨A,_,_,_,_,M,A,A,A,A,A⟩)
 refine A9.ac (j:=[.u (A2 l.j),.u (A2 l.t)]) U λv Q r=>?_;obtain⟨P,G,u,x,⟨rfl,rfl,rfl,rfl⟩,rfl,rfl⟩:=r;refine⟨{m with b:=u,v:=0,t:=arg%65536,y:=arg/2147483648==1,z:=arg/1073741824%2==1,w:=[]},{l with b:={l.b with d:=I,e:=I,f:=A0,c:=A0,i:=0,b:=arg%65536,g:=arg/2147483648==1,h:=arg/1073741824%2==1,a:=0},j:=[],t:=[]},[],?_,KG _ _ _,by show Ar _ _ (B0 _ l.b.a) _=_;rw[o.nG],A⟩;exact⟨A,A,A,A,o.nH,o.nI,A,AT ⟨A,A,_,_,A⟩,AT ⟨A,_,_,A⟩,o.nB,o.nA,o.nC,o.nD⟩
def mN(u:B)(p:A6)(Q:p.e)(m:Ag)(n M:B)(q:B4)(x:n<8)(aa:0<p.j n)(V:(C7 0 n)<4294967296)(L:q.a<16)(S:q.a≠6)(Z:B5 m.b.a ((6:B):F) (m.b.b (C7 0 n))=((M:F),R))(W:m.b.e 6 (C7 0 n)=(R,R,q)):Ay 72 [A5 u,BY 6 (C7 0 n),X R] [.u (Bb p u m)] (Ar I A0 (B0 q.a m.v) A0) [.u (Bb p u {m with b:=q,v:=0,t:=0,w:=[],j:=m.j.set 0 n})]:=by
 refine I6 λl o=>?_;have U:=lO u p l.h l.b {l.b with d:=I,e:=I,b:=0} m.b q (C7 0 n) M (l.y p m) (λN G y z=>∃r,N=l.h.ab r/\G={l.b with d:=I,e:=I,b:=0,f:=A0,c:=A0,i:=0}/\y=q/\z=({l with h:=l.h.ab r}:Cs).y p {m with j:=m.j.set 0 n}) V L S Z W (Ky u p l.h l.b 6 Y) (by
  refine A9.aa (A9.ad (lH u p Q l.h _ m.j n o.nA x aa) Y0 (λv P x=>?_));obtain⟨rfl,r,rfl⟩:=x;exact⟨_,AQ.ab Y0,A,_,_,_,_,L,A,r,A,A,A,A⟩)
 refine A9.ac (j:=[.u (A2 l.j),.u (A2 l.t)]) U λv P x=>?_;obtain⟨N,G,y,z,⟨r,rfl,rfl,rfl,rfl⟩,rfl,rfl⟩:=x;refine⟨{m with b:=y,v:=0,t:=0,w:=[],j:=m.j.set 0 n},{l with h:=l.h.ab r,b:={l.b with d:=I,e:=I,b:=0,f:=A0,c:=A0,i:=0,a:=0},j:=[],t:=[]},[],?_,KG _ _ _,by show Ar _ _ (B0 _ l.b.a) _=_;rw[o.nG],A⟩;exact⟨A,A,o.nF,o.nE,o.nH,o.nI,A,AT ⟨A,A,_,_,A⟩,AT ⟨A,_,_,A⟩,o.nB,by simp[o.nA],o.nC,o.nD⟩
def ACT(l m:S)(f j:BL)(a:S):AQ (.u (A2 l)::.u (A2 m)::f::j::a) ((.u (A2 [])::.u (A2 [])::a)++[f,j]):=
 (KG l m _).t (AQ.z _ (AQ.z _ (AQ.u (Cj (l₁:=[f,j]) (l₂:=a)))))
def mG(N:B)(n:A6)(ai:n.e)(l:Ag)(o ah u:B)(p:B4)(al:l.j.getD 0 0=u)(ar:u<8)(aq:u≠3)(an:o<n.j u)(am:o<4294967296)(ag:p.a<16)(aj:p.a≠6)(ap:B5 l.b.a ((17:B):F) (l.b.b o)=((ah:F),R))(ao:l.b.e 17 o=(R,R,p)):Z9 72 [A5 N,BY 17 o,X R] [.u (Bb n N l)] λv W=>∃r L G q M S,(l.u (n.g u+o)).length=128/\v=Ar I A0 (B0 p.a l.v) (Q r 1 L)/\W=[.u (Bb n N {l with b:=p,v:=0,t:=0,y:=I,z:=I,w:=[]}),.t r (Q q 128 M::G) 31,AJ q (l.u (n.g u+o)) S]:=by
 refine I6 λm x=>?_;have ak:=lJ N n m.h m.b {m.b with d:=I,e:=I,b:=0} l.b p o ah (m.y n l) (λv W=>∃r L G q M S U,Dv n m.u U l.u/\(l.u (n.g u+o)).length=128/\v=Ar I A0 (B0 p.a l.v) (Q r 1 L)/\W=.t r (Q q 128 M::G) 31::AJ q (l.u (n.g u+o)) S::AO N n m.h {m.b with d:=I,e:=I,b:=0,f:=A0,c:=A0,i:=0,g:=I,h:=I,a:=0}::Aq m.h.a p::({m with v:=U}:Cs).y n l) am ag aj ap ao (Ky N n m.h m.b 17 Y) (by
  refine A9.aa (A9.ad (m6 N n ai m.h _ p l.j m.u m.v l.u n.i o u x.nB ag x.nA al ar aq an) Y0 (λv W af=>?_));obtain⟨r,L,G,q,M,S,U,Z,aa,rfl,rfl⟩:=af;exact⟨_,AQ.ab Y0,_,_,_,_,_,_,_,_,A,r,L,G,q,M,S,U,Z,aa,by show Ar _ _ (B0 _ m.b.a) _=_;rw[x.nG],A⟩)
 refine A9.ac (j:=[.u (A2 m.j),.u (A2 m.t)]) ak λv W af=>?_;obtain⟨r,L,G,q,M,S,U,Z,aa,rfl,rfl⟩:=af;refine⟨{l with b:=p,v:=0,t:=0,y:=I,z:=I,w:=[]},{m with v:=U,b:={m.b with d:=I,e:=I,b:=0,f:=A0,c:=A0,i:=0,g:=I,h:=I,a:=0},j:=[],t:=[]},[_,_],?_,ACT _ _ _ _ _,r,L,G,q,M,S,aa,A,A⟩;exact⟨A,A,A,A,x.nH,x.nI,A,AT ⟨A,A,_,_,A⟩,AT ⟨A,_,_,A⟩,Z,x.nA,x.nC,x.nD⟩
def mJ(G:B)(o:A6)(af:o.e)(n:Ag)(m U r:B)(x:B4)(ah:n.j.getD 0 0=r)(ao:r<8)(an:r≠3)(aj:m+1<=o.j r)(ai:m<4294967296)(am:x.a<16)(Q:x.a=6)(al:B5 n.b.a ((24:B):F) (n.b.b m)=((U:F),R))(ak:n.b.e 24 m=(R,R,x)):Ay 72 [A5 G,BY 24 m,X R] [.u (Bb o G n)] (Ar I A0 (B0 6 n.v) A0) [.u (Bb o G {n with b:=⟨6,x.d,1⟩,v:=0,t:=0,y:=I,z:=I,aa:=r,ad:=I,w:=BN m 1})]:=by
 refine I6 λl p=>?_;have ap:=p.nJ;have aq:=p.nE;have ar:=p.nF;have ag:=lM G o l.h l.b {l.b with d:=I,e:=I,b:=0} n.b x m U (l.y o n) (λV P S N=>∃q:D6,q.c 1 (1)/\V=l.h/\P={l.b with d:=I,e:=I,b:=0,f:=A0,g:=I,h:=I,s:=r,u:=I,c:=q.b (1),i:=0,a:=l.b.a}/\S=⟨6,x.d,1⟩/\N=F7 q (BN m (1))::l.y o n) ai am Q al ak (Ky G o l.h l.b 24 Y) (by
  refine A9.aa (A9.ad (Sa G o af l.h _ {l.b with d:=I,e:=I,b:=0,f:=A0,g:=I,h:=I} x n.j 24 m (1) r Q p.nA ah ao an Y aj A (Xc G o l.h _ 24 Z)) Y0 (λv W M=>?_));obtain⟨q,L,rfl,rfl⟩:=M;refine⟨_,AQ.ab Y0,A,_,_,_,_,(by decide:6<16),A,q,L,A,?_,A,A⟩;rfl)
 refine A9.ac (j:=[.u (A2 l.j),.u (A2 l.t)]) ag λv W M=>?_;obtain⟨V,P,S,N,⟨q,L,rfl,rfl,rfl,rfl⟩,rfl,rfl⟩:=M;refine⟨{n with b:=⟨6,x.d,1⟩,v:=0,t:=0,y:=I,z:=I,aa:=r,ad:=I,w:=BN m 1},{l with b:={l.b with d:=I,e:=I,b:=0,f:=A0,g:=I,h:=I,s:=r,u:=I,c:=q.b (1),i:=0,a:=0},j:=q.a ((BN m (1)).map AD) 3,t:=[]},[],?_,?_,by show Ar _ _ (B0 _ l.b.a) _=_;rw[p.nG],A⟩
 ·exact⟨A,A,A,A,A,A,A,PN L (Ju m _) Y,AT ⟨A,_,_,A⟩,p.nB,p.nA,p.nC,p.nD⟩
 ·exact(AQ.y _).t ((AQ.y _).t ((AQ.u (GS.t (f:=[F7 q (BN m (1))]) Y0)).t (AQ.z _ (AQ.aa [] _))))
def mK(G:B)(o:A6)(Z:o.e)(m:Ag)(n U r:B)(x:B4)(ag:m.j.getD 0 0=r)(ao:r<8)(an:r≠3)(ai:m.t=0)(aj:n+1<=o.j r)(ah:n<4294967296)(am:x.a<16)(Q:x.a=6)(al:B5 m.b.a ((25:B):F) (m.b.b n)=((U:F),R))(ak:m.b.e 25 n=(R,R,x)):Ay 72 [A5 G,BY 25 n,X R] [.u (Bb o G m)] (Ar I A0 (B0 6 m.v) A0) [.u (Bb o G {m with b:=⟨6,x.d,1⟩,v:=0,t:=0,y:=I,z:=I,aa:=r,ad:=I,w:=BN n 1})]:=by
 refine I6 λl p=>?_;have ap:=p.nJ;have aq:=p.nE;have ar:=p.nF;have af:=XX G o l.h l.b {l.b with d:=I,e:=I} m.b x n U (l.y o m) (λV P S N=>∃q:D6,q.c 1 (1)/\V=l.h/\P={l.b with d:=I,e:=I,b:=0,f:=A0,g:=I,h:=I,s:=r,u:=I,c:=q.b (1),i:=0,a:=l.b.a}/\S=⟨6,x.d,1⟩/\N=F7 q (BN n (1))::l.y o m) ah am Q al ak (SW G o l.h l.b 25 (Ae (Ae A))) (by
  refine A9.aa (A9.ad (Sa G o Z l.h _ {l.b with d:=I,e:=I,b:=0,f:=A0,g:=I,h:=I} x m.j 25 n (1) r Q p.nA ag ao an Y aj A (lZ G o l.h ({l.b with d:=I,e:=I}:Bu).v 25 (Ae A) (p.nJ.trans ai))) Y0 (λv W M=>?_));obtain⟨q,L,rfl,rfl⟩:=M;refine⟨_,AQ.ab Y0,A,_,_,_,_,(by decide:6<16),A,q,L,A,?_,A,A⟩;rfl)
 refine A9.ac (j:=[.u (A2 l.j),.u (A2 l.t)]) af λv W M=>?_;obtain⟨V,P,S,N,⟨q,L,rfl,rfl,rfl,rfl⟩,rfl,rfl⟩:=M;refine⟨{m with b:=⟨6,x.d,1⟩,v:=0,t:=0,y:=I,z:=I,aa:=r,ad:=I,w:=BN n 1},{l with b:={l.b with d:=I,e:=I,b:=0,f:=A0,g:=I,h:=I,s:=r,u:=I,c:=q.b (1),i:=0,a:=0},j:=q.a ((BN n (1)).map AD) 3,t:=[]},[],?_,?_,by show Ar _ _ (B0 _ l.b.a) _=_;rw[p.nG],A⟩
 ·exact⟨A,A,A,A,A,A,A,PN L (Ju n _) Y,AT ⟨A,_,_,A⟩,p.nB,p.nA,p.nC,p.nD⟩
 ·exact(AQ.y _).t ((AQ.y _).t ((AQ.u (GS.t (f:=[F7 q (BN n (1))]) Y0)).t (AQ.z _ (AQ.aa [] _))))
def mL(G:B)(p:A6)(af:p.e)(l:Ag)(o V r:B)(x:B4)(ah:l.j.getD 0 0=r)(ao:r<8)(an:r≠3)(ap:0<l.t)(aq:l.t<=64)(S:l.z=I)(aj:o+l.t<=p.j r)(ai:o<4294967296)(am:x.a<16)(Q:x.a=6)(al:B5 l.b.a ((25:B):F) (l.b.b o)=((V:F),R))(ak:l.b.e 25 o=(R,R,x)):Ay 72 [A5 G,BY 25 o,X R] [.u (Bb p G l)] (Ar I A0 (B0 6 l.v) A0) [.u (Bb p G {l with b:=⟨6,x.d,l.t⟩,v:=0,t:=0,y:=l.y,z:=I,aa:=r,ad:=l.y,w:=BN o l.t})]:=by
 refine I6 λm n=>?_;have ar:=n.nJ;have au:=n.nE;have av:=n.nF;have ag:=XX G p m.h m.b {m.b with d:=I,e:=I} l.b x o V (m.y p l) (λW P U N=>∃q:D6,q.c 1 (l.t)/\W=m.h/\P={m.b with d:=I,e:=I,b:=0,f:=A0,g:=m.b.g,h:=I,s:=r,u:=m.b.g,c:=q.b (l.t),i:=0,a:=m.b.a}/\U=⟨6,x.d,l.t⟩/\N=F7 q (BN o (l.t))::m.y p l) ai am Q al ak (SW G p m.h m.b 25 (Ae (Ae A))) (by
  refine A9.aa (A9.ad (Sa G p af m.h _ {m.b with d:=I,e:=I,b:=0,f:=A0} x l.j 25 o (l.t) r Q n.nA ah ao an Y aj (by show m.b.h=I;rw[n.nE];exact S) (by have:=l_ G p m.h ({m.b with d:=I,e:=I}:Bu).v 25 (Ae A) (by show 0<m.b.b;omega);rw[<-n.nJ];exact this)) Y0 (λv Z M=>?_));obtain⟨q,L,rfl,rfl⟩:=M;refine⟨_,AQ.ab Y0,A,_,_,_,_,(by decide:6<16),A,q,L,A,?_,A,A⟩;rw[show m.b.h=I by rw[n.nE];exact S])
 refine A9.ac (j:=[.u (A2 m.j),.u (A2 m.t)]) ag λv Z M=>?_;obtain⟨W,P,U,N,⟨q,L,rfl,rfl,rfl,rfl⟩,rfl,rfl⟩:=M;refine⟨{l with b:=⟨6,x.d,l.t⟩,v:=0,t:=0,y:=l.y,z:=I,aa:=r,ad:=l.y,w:=BN o l.t},{m with b:={m.b with d:=I,e:=I,b:=0,f:=A0,g:=m.b.g,h:=I,s:=r,u:=m.b.g,c:=q.b (l.t),i:=0,a:=0},j:=q.a ((BN o (l.t)).map AD) 3,t:=[]},[],?_,?_,by show Ar _ _ (B0 _ m.b.a) _=_;rw[n.nG],A⟩
 ·exact⟨A,A,n.nF,A,A,n.nF,A,PN L (Ju o _) Y,AT ⟨A,_,_,A⟩,n.nB,n.nA,n.nC,n.nD⟩
 ·exact(AQ.y _).t ((AQ.y _).t ((AQ.u (GS.t (f:=[F7 q (BN o (l.t))]) Y0)).t (AQ.z _ (AQ.aa [] _))))
def mO(p:B)(l:A6)(z:l.e)(m:Ag)(n:B)(q:G B)(y ah aj:B)(x:G M)(r:G B)(a8:m.w=n::q)(a5:q.length<=64)(a9:m.b.a=6)(ba:1<=m.b.f/\m.b.f<=64)(ay:m.aa=0)(al:n<l.b)(bb:m.j.getD 1 0=0)(a1:r.length=128)(a0:(x.drop ah).take 128=r.map W):
 Z9 26 [A5 p,O (C ⟨y,ah,E⟩) 128 aj,X R] [.u (Bb l p m),.t y x 5] λv F=>v=D BQ 229/\F=[.u (Bb l p {m with b:=m.b.g,w:=q,u:=Cm m.u (l.g 0+n) r}),.t y x 5]:=by
 refine A9.ae λ⟨a,o⟩=>A9.aa ?_;have ak:=o.nK;rw[a8] at ak;obtain⟨be,_⟩|⟨S,bd,ag,a6,ar,au⟩:=ak
 ·cases be
 have az:a.b.s=0:=o.nH.trans ay;have a2:l.g 0+n<=1000:=by
  have:=z.nC.2;show 0+n<=1000;omega
 have a3:(l.g 0+n)/l.c<l.b/l.c:=by
  have bf:=z.nD.1;have av:=z.nG;rw[show l.g 0+n=n from BF n];exact(AEj Y).2 (by rw[AEl (AEn av)];exact al)
 have a4:∀L:Bu,AK 130 [A5 p,N (0:B),N (l.g 0+n:B)] (AO p l a.h L::B8 a.h.d m.j::F8 a.h.f a.h.b (l.b/l.c) a.z a.aa) (X I):=λL=>by
  refine A9.aa (A9.ad (lX p l z a.h L (l.g 0+n) (l.b/l.c) a.z a.aa a3 a2) Y0 (λv F aa=>?_));obtain⟨rfl,rfl⟩:=aa;exact⟨_,AQ.ab Y0,A,A⟩
 have aw:=lR p l z a.h a.b m.b m.j a.u a.v m.u (l.b/l.c) a.z l.i 0 n y ah aj S bd q ag a.aa x r o.nA bb az Z al o.nB a9 ba o.nM ar a5 a6 a4 a1 a0;refine A9.w (a:=.t S ((n::q).map AD++ag) 3::.u (A2 [])::.u (A2 a.t)::AO p l a.h a.b::Aq a.h.a m.b::B8 a.h.d m.j::B6 a.h.c l::Cv a.h.g l a.x::CY a.h.e l.i::.t a.h.f [Q a.h.b (l.b/l.c) a.z] 136::.t a.h.b (U (l.b/l.c) (AD 0)++a.aa) 3::CS a.h a.u::De l a.h::Dc l a.h::Dd l a.h::.u (A2 a.v)::.t y x 5::[]) ?_ ?_
 ·refine(AQ.u (DZ ?_):AQ _ (.u (A2 [.t S ((n::q).map AD++ag) 3])::_)).t ((AQ.ac _ _).t (AQ.z _ (AQ.aa [] _)));show BL.u (A2 a.j)::_=_;rw[au];rfl
 refine A9.ad aw Y0 (λv F aa=>?_);obtain⟨aq,ap,am,ai,ao,an,bc,a7,ax,rfl,rfl⟩:=aa;refine⟨_,(AQ.ab (a:=(({a with b:={a.b with c:=ao,f:=aq},u:=am,v:=ai,j:=an,t:=ap}:Cs).i p l {m with b:=m.b.g,w:=q,u:=Cm m.u (l.g 0+n) r})++[.t y x 5]) Y0).t (AQ.ad (λaf:{af:Cs//af.w l {m with b:=m.b.g,w:=q,u:=Cm m.u (l.g 0+n) r}}=>af.1.i p l {m with b:=m.b.g,w:=q,u:=Cm m.u (l.g 0+n) r}) ⟨{a with b:={a.b with c:=ao,f:=aq},u:=am,v:=ai,j:=an,t:=ap},?_⟩ (Bi _)),A,A⟩;exact⟨o.nG,o.nJ,o.nF,o.nE,o.nH,o.nI,o.nM,a7,bc,ax,o.nA,o.nC,o.nD⟩
structure Fa where
 b:C5
 a:E0
 c:BV
 f:G B
 s:B
 t:G M
 u:G M
 j:B
 i:B
 e:S
structure Fa.h(a:Fa)(m:A6)(o n:B)(f:Ag)(l:Aj)(nF:F×F):Prop where
 nH:a.b.d=o
 nD:a.a.a=n
 nE:0<=a.a.d/\a.a.d<=l.a
 nF:a.a.f=nF.1/\a.a.d=nF.2
 nI:a.a.e=0\/a.a.e=1/\a.a.g=(m.t:B)
 nA:a.c.u=I
 nJ:a.c.e=f.v
 nO:a.c.a=f.t
 nM:a.c.h=f.y
 nL:a.c.i=f.z
 nK:a.c.j=f.aa
 nN:a.c.s=f.ad
 nP:a.c.g=0
 nQ:GQ a.c.f a.e f.w
 nB:a.f.length=64
 nC:∀j,j≠32->j≠33->a.f.getD j 0=f.j.getD j 0
 nG:l.e=f.u
abbrev Fa.d(a:Fa)(f:A6):S:=Bc a.b.c a.f::.t a.b.h [Q a.b.e (f.b/f.c) a.s] 408::AJ a.b.e (U (f.b/f.c) 0) a.t::.u (Em a.b.b f)::.t a.b.i ([N f.s]++(EB++a.u)) 437::.t a.b.g [N f.i,O E 0 0,N a.j,Ah (C a.b.f)] 455::.o a.b.f (.map #[] a.i)::[]
abbrev Fa.g(a:Fa)(m:B)(f:A6)(l:Ag)(j:Aj):S:=.u (A2 a.e)::A_ a.a.c f a.b a.c::BH m f a.a::.u (At f a.a.b a.a.a j)::Av a.b.a l.b::a.d f
def As(l:A6)(m n:B)(j:Ag)(f:Aj)(o:F×F):C0:=HW λa:{a:Fa//a.h l m n j f o}=>a.1.g m l j f
variable{xy:Aj}{zc:F×F}
def Gz{args:G M}(q:∀a:Fa,a.h xp p np ye xy zc->Z9 l args (a.g p xp ye xy) λv o=>∃(j:Ag)(f:Aj)(m:Fa)(n:S),m.h xp p np j f zc/\AQ o (m.g p xp j f++n)/\xv v (.u (As xp p np j f zc)::n)):Z9 l args [.u (As xp p np ye xy zc)] xv:=by
 refine A9.ah λ⟨a,x⟩=>A9.aa (A9.z (q a x) λv o y=>?_);obtain⟨j,f,m,n,r,t,u⟩:=y;exact⟨_,t.t (AQ.ad (λa:{a:Fa//a.h xp p np j f zc}=>a.1.g p xp j f) ⟨m,r⟩ (Bi _)),u⟩
def Jr(j:B)(l:A6)(n:C5)(m:BV)(f:B)(o:f=3\/f=7\/f=12\/f=1\/f=2\/f=9\/f=6\/f=17\/f=24\/f=0\/f=30):Ay 288 [A5 j,N f] [A_ j l n m] (AL #[]) [A_ j l n {m with b:=-1,c:=-1,a:=0}]:=eE j l n m f Y
def JN(f:S)(a:S):AQ (.u (A2 f)::a) (.u (A2 [])::a):=(AQ.y _).t (AQ.aa [] _)
def I4(m:B)(f:A6)(a:Fa)(n:Aj)(j:Ag)(r:BV)(o:B4)(l arg Y:B)(U:M->S->Prop)(V:a.c.u=I)(aa:r.u=I)(Z:arg<4294967296)(ak:j.b.a<1000)(ai:l<1000)(al:o.a<1000)
 (aj:B5 j.b.a l (j.b.b arg)=((Y:F),R))(ah:j.b.e l arg=(R,R,o))
 (ag:Ay 288 [A5 a.a.c,N l] [A_ a.a.c f a.b a.c] (AL #[]) [A_ a.a.c f a.b r])
 (af:Z9 289 [A5 a.a.c,BY l arg] (A_ a.a.c f a.b (r.t o.a)::Av a.b.a o::BH m f a.a::.u (At f a.a.b a.a.a n)::a.d f) λv P=>∃G p y u L q z x t Q,t.u=I/\v=Ar G (O p y u) L (O q z x)/\P=A_ a.a.c f a.b t::Q/\U v P):
 Z9 98 [A5 m,BY l arg,X R] (A_ a.a.c f a.b a.c::BH m f a.a::.u (At f a.a.b a.a.a n)::Av a.b.a j.b::a.d f) U:=by
 refine WC m f a.a a.b a.c n l arg (Av a.b.a j.b::a.d f) U V (A9.w (a:=A_ a.a.c f a.b a.c::Av a.b.a j.b::BH m f a.a::.u (At f a.a.b a.a.a n)::a.d f) (AQ.z _ (AQ.u (EE (l₁:=[_,_])))) (e4 a.a.c f a.b a.c r j.b o l arg Y (BH m f a.a::.u (At f a.a.b a.a.a n)::a.d f) _ Z ak ai al V aa aj ah ag (A9.z af λv P am=>?_)));obtain⟨G,p,y,u,L,q,z,x,t,Q,an,W,ao,ap⟩:=am;exact⟨G,p,y,u,L,q,z,x,t,Q,an,W,ao,G,p,y,u,L,q,z,x,W,ap⟩
def X7(r y:B)(m:A6)(o:Ag)(q:Aj)(z:F×F)(p arg G:B)(n:B4)(V:p=3\/p=7\/p=12)(P:arg<4294967296)(W:o.b.a<16)(U:n.a<16)(M:n.a≠6)(S:B5 o.b.a ((p:B):F) (o.b.b arg)=((G:F),R))(Q:o.b.e p arg=(R,R,n)):
 Ay 98 [A5 r,BY p arg,X R] [.u (As m r y o q z)] (Ar I A0 (B0 n.a o.v) A0) [.u (As m r y {o with b:=n,v:=0,t:=0,w:=[]} q z)]:=by
 refine Gz λj l=>?_;have L:({j.c with b:=-1,c:=-1,a:=0}:BV).t n.a={j.c with b:=-1,c:=-1,a:=0,d:=A0,f:=A0,g:=0}:=A1 M;have N:=I4 r m j q o {j.c with b:=-1,c:=-1,a:=0} n p arg G (λv u=>v=Ar I A0 (B0 n.a o.v) A0/\u=A_ j.a.c m j.b {j.c with b:=-1,c:=-1,a:=0,d:=A0,f:=A0,g:=0,e:=0}::Av j.b.a n::BH r m j.a::.u (At m j.a.b j.a.a q)::j.d m) l.nA l.nA P Y Y Y S Q (Jr j.a.c m j.b j.c p Y) (by
  rw[L];refine A9.ad (VB j.a.c m j.b _ n U p arg Y) Y0 (λv u x=>?_);obtain⟨rfl,rfl⟩:=x;exact⟨_,_,_,_,_,_,_,_,{j.c with b:=-1,c:=-1,a:=0,d:=A0,f:=A0,g:=0,e:=0},Av j.b.a n::BH r m j.a::.u (At m j.a.b j.a.a q)::j.d m,l.nA,A,A,by show Ar _ _ (B0 _ j.c.e) _=_;rw[l.nJ],A⟩)
 refine A9.ac (j:=[.u (A2 j.e)]) N λv u x=>?_;obtain⟨rfl,rfl⟩:=x;refine⟨{o with b:=n,v:=0,t:=0,w:=[]},q,{j with c:={j.c with b:=-1,c:=-1,a:=0,d:=A0,f:=A0,g:=0,e:=0},e:=[]},[],?_,?_,A,A⟩
 ·exact⟨l.nH,l.nD,l.nE,l.nF,l.nI,l.nA,A,A,l.nM,l.nL,l.nK,l.nN,A,AT ⟨A,A,_,_,A⟩,l.nB,l.nC,l.nG⟩
 ·exact(JN _ _).t (AQ.z _ (AQ.z _ (AQ.u (EE (l₁:=[_,_])).symm)))
def k2(f b j l:BL)(a:S):AQ (f::b::j::l::a) (f::l::b::j::a):=AQ.z _ (AQ.u (EE (l₁:=[_,_])))
def LC(f b j l:BL)(a:S):AQ (f::l::b::j::a) (f::b::j::l::a):=AQ.z _ (AQ.u (EE (l₁:=[_,_])).symm)
def kO(r y:B)(m:A6)(n:Ag)(q:Aj)(z:F×F)(o arg G:B)(p:B4)(U:o=0\/o=7)(P:arg<4294967296)(V:n.b.a<16)(W:p.a<16)(M:p.a≠6)(S:B5 n.b.a ((o:B):F) (n.b.b arg)=((G:F),R))(Q:n.b.e o arg=(I,R,p)):Ay 98 [A5 r,BY o arg,X R] [.u (As m r y n q z)] NV [.u (As m r y {n with b:=p,t:=0,w:=[]} q z)]:=by
 refine Gz λj l=>?_;have L:({j.c with b:=-1,c:=-1,a:=0}:BV).t p.a={j.c with b:=-1,c:=-1,a:=0,d:=A0,f:=A0,g:=0}:=A1 M;have N:=WC r m j.a j.b j.c q o arg (Av j.b.a n.b::j.d m) (λv u=>v=NV/\u=A_ j.a.c m j.b {j.c with b:=-1,c:=-1,a:=0,d:=A0,f:=A0,g:=0}::Av j.b.a p::BH r m j.a::.u (At m j.a.b j.a.a q)::j.d m) l.nA (by
  refine A9.w (k2 _ _ _ _ _) (A9.z (e5 j.a.c m j.b j.c {j.c with b:=-1,c:=-1,a:=0} n.b p o arg G (BH r m j.a::.u (At m j.a.b j.a.a q)::j.d m) P Y Y Y l.nA S Q (Jr j.a.c m j.b j.c o Y)) λv u x=>?_);obtain⟨rfl,rfl⟩:=x;rw[L];exact⟨_,_,_,_,_,_,_,_,A,A,A⟩)
 refine A9.ac (j:=[.u (A2 j.e)]) N λv u x=>?_;obtain⟨rfl,rfl⟩:=x;exact⟨{n with b:=p,t:=0,w:=[]},q,{j with c:={j.c with b:=-1,c:=-1,a:=0,d:=A0,f:=A0,g:=0},e:=[]},[],⟨l.nH,l.nD,l.nE,l.nF,l.nI,l.nA,l.nJ,A,l.nM,l.nL,l.nK,l.nN,A,AT ⟨A,A,_,_,A⟩,l.nB,l.nC,l.nG⟩,(JN _ _).t (AQ.z _ (LC _ _ _ _ _)),A,A⟩
def kF(q x:B)(m:A6)(o:Ag)(p:Aj)(y:F×F)(arg z:B)(n:B4)(N:arg<4294967296)(S:o.b.a<16)(U:n.a<16)(L:n.a≠6)(Q:B5 o.b.a ((1:B):F) (o.b.b arg)=((z:F),R))(P:o.b.e 1 arg=(R,R,n)):Ay 98 [A5 q,BY 1 arg,X R] [.u (As m q x o p y)] (Ar I A0 2164228224 A0) [.u (As m q x {o with b:=n,t:=0,w:=[]} p y)]:=by
 refine Gz λj l=>?_;have G:({j.c with b:=-1,c:=-1,a:=0}:BV).t n.a={j.c with b:=-1,c:=-1,a:=0,d:=A0,f:=A0,g:=0}:=A1 L;have M:=I4 q m j p o {j.c with b:=-1,c:=-1,a:=0} n 1 arg z (λv r=>v=Ar I A0 2164228224 A0/\r=A_ j.a.c m j.b {j.c with b:=-1,c:=-1,a:=0,d:=A0,f:=A0,g:=0}::Av j.b.a n::BH q m j.a::.u (At m j.a.b j.a.a p)::j.d m) l.nA l.nA N Y Y Y Q P (Jr j.a.c m j.b j.c 1 Y) (by
  rw[G];refine A9.ad (e8 j.a.c m j.b _ arg) Y0 (λv r u=>?_);obtain⟨rfl,rfl⟩:=u;exact⟨_,_,_,_,_,_,_,_,{j.c with b:=-1,c:=-1,a:=0,d:=A0,f:=A0,g:=0},Av j.b.a n::BH q m j.a::.u (At m j.a.b j.a.a p)::j.d m,l.nA,A,A,A,A⟩)
 refine A9.ac (j:=[.u (A2 j.e)]) M λv r u=>?_;obtain⟨rfl,rfl⟩:=u;exact⟨{o with b:=n,t:=0,w:=[]},p,{j with c:={j.c with b:=-1,c:=-1,a:=0,d:=A0,f:=A0,g:=0},e:=[]},[],⟨l.nH,l.nD,l.nE,l.nF,l.nI,l.nA,l.nJ,A,l.nM,l.nL,l.nK,l.nN,A,AT ⟨A,A,_,_,A⟩,l.nB,l.nC,l.nG⟩,(JN _ _).t (AQ.z _ (LC _ _ _ _ _)),A,A⟩
def kG(q x:B)(m:A6)(o:Ag)(p:Aj)(L:F×F)(arg M:B)(n:B4)(U:1<=arg%65536/\arg%65536<=64)(G:arg<4294967296)(Z:o.b.a<16)(W:n.a<16)(P:n.a≠6)(V:B5 o.b.a ((23:B):F) (o.b.b arg)=((M:F),R))(S:o.b.e 23 arg=(R,R,n)):Ay 98 [A5 q,BY 23 arg,X R] [.u (As m q x o p L)] (Ar I A0 (B0 n.a o.v) A0) [.u (As m q x {o with b:=n,v:=0,t:=arg%65536,y:=arg/2147483648==1,z:=arg/1073741824%2==1,w:=[]} p L)]:=by
 refine Gz λj l=>?_;have N:({j.c with b:=-1,c:=-1}:BV).t n.a={j.c with b:=-1,c:=-1,d:=A0,f:=A0,g:=0}:=A1 P;have Q:=I4 q m j p o {j.c with b:=-1,c:=-1} n 23 arg M (λv r=>v=Ar I A0 (B0 n.a o.v) A0/\r=A_ j.a.c m j.b {j.c with b:=-1,c:=-1,d:=A0,f:=A0,g:=0,a:=arg%65536,h:=arg/2147483648==1,i:=arg/1073741824%2==1,e:=0}::Av j.b.a n::BH q m j.a::.u (At m j.a.b j.a.a p)::j.d m) l.nA l.nA G Y Y Y V S (RI j.a.c m j.b j.c 23 (AT A)) (by
  rw[N];refine A9.ad (e9 j.a.c m j.b _ n W arg G U) Y0 (λv r u=>?_);obtain⟨rfl,rfl⟩:=u;exact⟨_,_,_,_,_,_,_,_,{j.c with b:=-1,c:=-1,d:=A0,f:=A0,g:=0,a:=arg%65536,h:=arg/2147483648==1,i:=arg/1073741824%2==1,e:=0},Av j.b.a n::BH q m j.a::.u (At m j.a.b j.a.a p)::j.d m,l.nA,A,A,by show Ar _ _ (B0 _ j.c.e) _=_;rw[l.nJ],A⟩)
 refine A9.ac (j:=[.u (A2 j.e)]) Q λv r u=>?_;obtain⟨rfl,rfl⟩:=u;refine⟨{o with b:=n,v:=0,t:=arg%65536,y:=arg/2147483648==1,z:=arg/1073741824%2==1,w:=[]},p,{j with c:={j.c with b:=-1,c:=-1,d:=A0,f:=A0,g:=0,a:=arg%65536,h:=arg/2147483648==1,i:=arg/1073741824%2==1,e:=0},e:=[]},[],?_,(JN _ _).t (AQ.z _ (LC _ _ _ _ _)),A,A⟩;exact⟨l.nH,l.nD,l.nE,l.nF,l.nI,l.nA,A,A,A,A,l.nK,l.nN,A,AT ⟨A,A,_,_,A⟩,l.nB,l.nC,l.nG⟩
def kK(x G:B)(m:A6)(q:Ag)(u:Aj)(L:F×F)(arg M:B)(p:B4)(W:arg<4294967296)(af:q.b.a<16)(ag:p.a<16)(S:p.a≠6)(aa:B5 q.b.a ((2:B):F) (q.b.b arg)=((M:F),R))(Z:q.b.e 2 arg=(R,R,p)):Z9 98 [A5 x,BY 2 arg,X R] [.u (As m x G q u L)] λv y=>∃n r o,v=Ar I (Q n 16 r) 0 A0/\y=[.u (As m x G {q with b:=p,t:=0,w:=[]} u L),AJ n Ep o]:=by
 refine Gz λj l=>?_;have N:({j.c with b:=-1,c:=-1,a:=0}:BV).t p.a={j.c with b:=-1,c:=-1,a:=0,d:=A0,f:=A0,g:=0}:=A1 S;have U:=I4 x m j u q {j.c with b:=-1,c:=-1,a:=0} p 2 arg M (λv y=>∃n r o,v=Ar I (Q n 16 r) 0 A0/\y=A_ j.a.c m j.b {j.c with b:=-1,c:=-1,a:=0,d:=A0,f:=A0,g:=0}::AJ n Ep o::Av j.b.a p::BH x m j.a::.u (At m j.a.b j.a.a u)::j.d m) l.nA l.nA W Y Y Y aa Z (Jr j.a.c m j.b j.c 2 Y) (by
  rw[N];refine A9.aa (A9.ad (eA j.a.c m j.b _ arg) Y0 (λv y z=>?_));obtain⟨n,r,o,rfl,rfl⟩:=z;exact⟨A_ j.a.c m j.b {j.c with b:=-1,c:=-1,a:=0,d:=A0,f:=A0,g:=0}::AJ n Ep o::Av j.b.a p::BH x m j.a::.u (At m j.a.b j.a.a u)::j.d m,AQ.u (D3 _ _ _),_,_,_,_,_,_,_,_,{j.c with b:=-1,c:=-1,a:=0,d:=A0,f:=A0,g:=0},_,l.nA,A,A,n,r,o,A,A⟩)
 refine A9.ac (j:=[.u (A2 j.e)]) U λv y z=>?_;obtain⟨n,r,o,rfl,rfl⟩:=z;refine⟨{q with b:=p,t:=0,w:=[]},u,{j with c:={j.c with b:=-1,c:=-1,a:=0,d:=A0,f:=A0,g:=0},e:=[]},[AJ n Ep o],?_,?_,n,r,o,A,A⟩
 ·exact⟨l.nH,l.nD,l.nE,l.nF,l.nI,l.nA,l.nJ,A,l.nM,l.nL,l.nK,l.nN,A,AT ⟨A,A,_,_,A⟩,l.nB,l.nC,l.nG⟩
 ·refine(JN _ _).t (AQ.z _ ?_);refine AQ.z _ ((AQ.u (Cj (l₁:=[AJ n Ep o]) (l₂:=_))).t ?_);exact AQ.u ((EE (l₁:=[_,_])).symm.append_right [AJ n Ep o])
def kM(u M:B)(n:A6)(S:n.e)(p:Ag)(r:Aj)(N:F×F)(o P:B)(q:B4)(ai:o<8)(aj:0<n.j o)(aa:C7 0 o<4294967296)(am:p.b.a<16)(ah:q.a<16)(W:q.a≠6)(ag:B5 p.b.a ((6:B):F) (p.b.b (C7 0 o))=((P:F),R))(af:p.b.e 6 (C7 0 o)=(R,R,q))(al:p.j.length=64):Ay 98 [A5 u,BY 6 (C7 0 o),X R] [.u (As n u M p r N)] (Ar I A0 (B0 q.a p.v) A0) [.u (As n u M {p with b:=q,v:=0,t:=0,w:=[],j:=p.j.set 0 o} r N)]:=by
 refine Gz λl m=>?_;have Q:({l.c with b:=-1,c:=-1,a:=0}:BV).t q.a={l.c with b:=-1,c:=-1,a:=0,d:=A0,f:=A0,g:=0}:=A1 W;have Z:=I4 u n l r p {l.c with b:=-1,c:=-1,a:=0} q 6 (C7 0 o) P (λv z=>v=Ar I A0 (B0 q.a p.v) A0/\z=A_ l.a.c n l.b {l.c with b:=-1,c:=-1,a:=0,d:=A0,f:=A0,g:=0,e:=0}::Av l.b.a q::BH u n l.a::.u (At n l.a.b l.a.a r)::({l with f:=l.f.set 0 o}:Fa).d n) m.nA m.nA aa Y Y Y ag af (Jr l.a.c n l.b l.c 6 Y) (by
  rw[Q];refine A9.w (AQ.u (GS.t (f:=[.u (Em l.b.b n)]) Y0)) (A9.ae λb=>A9.aa (A9.ad (eC l.a.c n S l.b {l.c with b:=-1,c:=-1,a:=0,d:=A0,f:=A0,g:=0} q ah l.f o b m.nB ai aj) Y0 (λv z G=>?_)));obtain⟨rfl,rfl⟩:=G;refine⟨A_ l.a.c n l.b {l.c with b:=-1,c:=-1,a:=0,d:=A0,f:=A0,g:=0,e:=0}::Av l.b.a q::BH u n l.a::.u (At n l.a.b l.a.a r)::({l with f:=l.f.set 0 o}:Fa).d n,?_,_,_,_,_,_,_,_,_,{l.c with b:=-1,c:=-1,a:=0,d:=A0,f:=A0,g:=0,e:=0},_,m.nA,A,A,by show Ar _ _ (B0 _ l.c.e) _=_;rw[m.nJ],A⟩;exact((AQ.u (GS.t (f:=[BG l.b.b n R]) Y0)).t (AQ.ad (λb:AE=>[BG l.b.b n b]) R (Bi _))).t (AQ.ab Y0))
 refine A9.ac (j:=[.u (A2 l.e)]) Z λv z G=>?_;obtain⟨rfl,rfl⟩:=G;refine⟨{p with b:=q,v:=0,t:=0,w:=[],j:=p.j.set 0 o},r,{l with f:=l.f.set 0 o,c:={l.c with b:=-1,c:=-1,a:=0,d:=A0,f:=A0,g:=0,e:=0},e:=[]},[],?_,(JN _ _).t (AQ.z _ (LC _ _ _ _ _)),A,A⟩;refine⟨m.nH,m.nD,m.nE,m.nF,m.nI,m.nA,A,A,m.nM,m.nL,m.nK,m.nN,A,AT ⟨A,A,_,_,A⟩,by simp[m.nB],λx U V=>?_,m.nG⟩;show(l.f.set 0 o).getD x 0=(p.j.set 0 o).getD x 0;have L:=m.nC x U V;have ak:=m.nB;simp only[AY,EV] at L⊢;by_cases y:0=x
 ·rw[A8 y,A8 y,A8 Y,A8 Y]
 ·rw[A1 y,A1 y];exact L
def X6(ag ai:B)(l:A6)(am:l.e)(o:Ag)(M:Aj)(aj:F×F)(G ak L:B)(r:B4)(ax:o.j.getD 0 0=L)(a0:L<8)(az:L≠3)(aq:G<l.j L)(av:M.b+10<=500000000)(ap:G<4294967296)(a1:o.b.a<16)(ay:r.a<16)(an:r.a≠6)(aw:B5 o.b.a ((17:B):F) (o.b.b G)=((ak:F),R))(au:o.b.e 17 G=(R,R,r)):
 Z9 98 [A5 ag,BY 17 G,X R] [.u (As l ag ai o M aj)] λv S=>∃q N x n p u,M.g u 2/\(p.drop 0).take 128=(o.u (l.g L+G)).map W/\(o.u (l.g L+G)).length=128/\v=Ar I A0 (B0 r.a o.v) (Q q 1 N)/\S=[.u (As l ag ai {o with b:=r,v:=0,t:=0,y:=I,z:=I,w:=[]} u aj),E9 q n x,.t n p 5]:=by
 refine Gz λj m=>?_;have ar:=m.nH;subst ar;have al:({j.c with b:=-1,c:=-1,a:=0}:BV).t r.a={j.c with b:=-1,c:=-1,a:=0,d:=A0,f:=A0,g:=0}:=A1 an;have ao:=I4 j.b.d l j M o {j.c with b:=-1,c:=-1,a:=0} r 17 G ak (λv S=>∃q N x n p u,M.g u 2/\(p.drop 0).take 128=(M.e (l.g L+G)).map W/\(M.e (l.g L+G)).length=128/\v=Ar I A0 (B0 r.a o.v) (Q q 1 N)/\S=A_ j.a.c l j.b {j.c with b:=-1,c:=-1,a:=0,d:=A0,f:=A0,g:=0,h:=I,i:=I,e:=0}::E9 q n x::.t n p 5::Av j.b.a r::BH j.b.d l j.a::.u (At l j.a.b j.a.a u)::j.d l) m.nA m.nA ap Y Y Y aw au (Jr j.a.c l j.b j.c 17 Y) (by
  rw[al];refine A9.w (AQ.u (GS.t (f:=[.u (Em j.b.b l)]) Y0)) (A9.ae λb=>A9.aa (A9.ad (e7 j.a.c l am j.b {j.c with b:=-1,c:=-1,a:=0,d:=A0,f:=A0,g:=0} r j.f j.a M l.i j.j j.i G L b ay m.nB ((m.nC 0 Z Z).trans ax) a0 az aq av) Y0 (λv S ah=>?_)));obtain⟨q,N,x,n,p,u,U,aa,af,rfl,rfl⟩:=ah;refine⟨A_ j.a.c l j.b {j.c with b:=-1,c:=-1,a:=0,d:=A0,f:=A0,g:=0,h:=I,i:=I,e:=0}::E9 q n x::.t n p 5::Av j.b.a r::BH j.b.d l j.a::.u (At l j.a.b j.a.a u)::j.d l,?_,_,_,_,_,_,_,_,_,{j.c with b:=-1,c:=-1,a:=0,d:=A0,f:=A0,g:=0,h:=I,i:=I,e:=0},_,m.nA,A,A,q,N,x,n,p,u,U,aa,af,by show Ar _ _ (B0 _ j.c.e) _=_;rw[m.nJ],A⟩;exact((AQ.u (GS.t (f:=[BG j.b.b l R]) Y0)).t (AQ.ad (λb:AE=>[BG j.b.b l b]) R (Bi _))).t (AQ.ab Y0))
 refine A9.ac (j:=[.u (A2 j.e)]) ao λv S ah=>?_;obtain⟨q,N,x,n,p,u,U,aa,af,rfl,rfl⟩:=ah;rw[m.nG] at aa af;refine⟨{o with b:=r,v:=0,t:=0,y:=I,z:=I,w:=[]},u,{j with c:={j.c with b:=-1,c:=-1,a:=0,d:=A0,f:=A0,g:=0,h:=I,i:=I,e:=0},e:=[]},[E9 q n x,.t n p 5],?_,?_,q,N,x,n,p,u,U,aa,af,A,A⟩
 ·exact⟨A,m.nD,by rw[U.nB];exact m.nE,m.nF,m.nI,m.nA,A,A,A,A,m.nK,m.nN,A,AT ⟨A,A,_,_,A⟩,m.nB,m.nC,U.nE.trans m.nG⟩
 ·refine(JN _ _).t (AQ.z _ ?_);refine AQ.z _ ((AQ.u (Cj (l₁:=[E9 q n x,.t n p 5]) (l₂:=_))).t ?_);exact AQ.u ((EE (l₁:=[_,_])).symm.append_right [E9 q n x,.t n p 5])
def kH(L Q:B)(m:A6)(af:m.e)(o:Ag)(G:Aj)(U:F×F)(q V p:B)(r:B4)(al:o.j.getD 0 0=p)(an:p<8)(am:p≠3)(ai:q+1<=m.j p)(ah:q<4294967296)(ap:o.b.a<16)(aq:r.a<16)(S:r.a=6)(ak:B5 o.b.a ((24:B):F) (o.b.b q)=((V:F),R))(aj:o.b.e 24 q=(R,R,r)):
 Ay 98 [A5 L,BY 24 q,X R] [.u (As m L Q o G U)] (Ar I A0 (B0 6 o.v) A0) [.u (As m L Q {o with b:=⟨6,r.d,1⟩,v:=0,t:=0,y:=I,z:=I,aa:=p,ad:=I,w:=BN q 1} G U)]:=by
 refine Gz λl n=>?_;have ao:=n.nO;have W:({l.c with b:=-1,c:=-1,a:=0}:BV).t r.a={l.c with b:=-1,c:=-1,a:=0,d:=A0}:=A8 S;have ag:=I4 L m l G o {l.c with b:=-1,c:=-1,a:=0} r 24 q V (λv M=>∃u x,GQ u x (BN q (1))/\v=Ar I A0 (B0 6 o.v) A0/\M=A_ l.a.c m l.b {l.c with b:=-1,c:=-1,a:=0,d:=A0,h:=I,i:=I,j:=p,s:=I,f:=u,g:=0,e:=0}::.u (A2 x)::Av l.b.a ⟨6,r.d,1⟩::BH L m l.a::.u (At m l.a.b l.a.a G)::l.d m) n.nA n.nA ah Y Y Y ak aj (Jr l.a.c m l.b l.c 24 Y) (by
  rw[W];refine A9.w (AQ.u (GS.t (f:=[.u (Em l.b.b m)]) Y0)) (A9.ae λb=>A9.aa (A9.ad (RH l.a.c m af l.b {l.c with b:=-1,c:=-1,a:=0,d:=A0} ({l.c with b:=-1,c:=-1,a:=0,d:=A0,h:=I,i:=I}:BV) r l.f 24 q (1) p b Z S n.nB ((n.nC 0 Z Z).trans al) an am Y ai A (VD l.a.c m l.b ({l.c with b:=-1,c:=-1,a:=0,d:=A0}:BV) 24 Z)) Y0 (λv M P=>?_)));obtain⟨u,x,N,rfl,rfl⟩:=P;refine⟨A_ l.a.c m l.b {l.c with b:=-1,c:=-1,a:=0,d:=A0,h:=I,i:=I,j:=p,s:=I,f:=u,g:=0,e:=0}::.u (A2 x)::Av l.b.a ⟨6,r.d,1⟩::BH L m l.a::.u (At m l.a.b l.a.a G)::l.d m,?_,_,_,_,_,_,_,_,_,{l.c with b:=-1,c:=-1,a:=0,d:=A0,h:=I,i:=I,j:=p,s:=I,f:=u,g:=0,e:=0},_,n.nA,A,A,u,x,N,by show Ar _ _ (B0 _ l.c.e) _=_;rw[n.nJ],A⟩;exact((AQ.u (GS.t (f:=[BG l.b.b m R]) Y0)).t (AQ.ad (λb:AE=>[BG l.b.b m b]) R (Bi _))).t (AQ.ab Y0))
 refine A9.ac (j:=[.u (A2 l.e)]) ag λv M P=>?_;obtain⟨u,x,N,rfl,rfl⟩:=P;refine⟨{o with b:=⟨6,r.d,1⟩,v:=0,t:=0,y:=I,z:=I,aa:=p,ad:=I,w:=BN q 1},G,{l with c:={l.c with b:=-1,c:=-1,a:=0,d:=A0,h:=I,i:=I,j:=p,s:=I,f:=u,g:=0,e:=0},e:=x},[],?_,(AQ.y _).t ((AQ.u (D3 _ _ _)).t (AQ.z _ (LC _ _ _ _ _))),A,A⟩;exact⟨n.nH,n.nD,n.nE,n.nF,n.nI,n.nA,A,A,A,A,A,A,A,N,n.nB,n.nC,n.nG⟩
def kI(L Q:B)(m:A6)(af:m.e)(o:Ag)(G:Aj)(U:F×F)(q V p:B)(r:B4)(am:o.j.getD 0 0=p)(ao:p<8)(an:p≠3)(ai:o.t=0)(aj:q+1<=m.j p)(ah:q<4294967296)(aq:o.b.a<16)(ar:r.a<16)(S:r.a=6)(al:B5 o.b.a ((25:B):F) (o.b.b q)=((V:F),R))(ak:o.b.e 25 q=(R,R,r)):
 Ay 98 [A5 L,BY 25 q,X R] [.u (As m L Q o G U)] (Ar I A0 (B0 6 o.v) A0) [.u (As m L Q {o with b:=⟨6,r.d,1⟩,v:=0,t:=0,y:=I,z:=I,aa:=p,ad:=I,w:=BN q 1} G U)]:=by
 refine Gz λl n=>?_;have ap:=n.nO;have W:({l.c with b:=-1,c:=-1}:BV).t r.a={l.c with b:=-1,c:=-1,d:=A0}:=A8 S;have ag:=I4 L m l G o {l.c with b:=-1,c:=-1} r 25 q V (λv M=>∃u x,GQ u x (BN q (1))/\v=Ar I A0 (B0 6 o.v) A0/\M=A_ l.a.c m l.b {l.c with b:=-1,c:=-1,a:=0,d:=A0,h:=I,i:=I,j:=p,s:=I,f:=u,g:=0,e:=0}::.u (A2 x)::Av l.b.a ⟨6,r.d,1⟩::BH L m l.a::.u (At m l.a.b l.a.a G)::l.d m) n.nA n.nA ah Y Y Y al ak (RI l.a.c m l.b l.c 25 (Ae (Ae A))) (by
  rw[W];refine A9.w (AQ.u (GS.t (f:=[.u (Em l.b.b m)]) Y0)) (A9.ae λb=>A9.aa (A9.ad (RH l.a.c m af l.b {l.c with b:=-1,c:=-1,d:=A0} ({l.c with b:=-1,c:=-1,a:=0,d:=A0,h:=I,i:=I}:BV) r l.f 25 q (1) p b Z S n.nB ((n.nC 0 Z Z).trans am) ao an Y aj A (eH l.a.c m l.b ({l.c with b:=-1,c:=-1,d:=A0}:BV) 25 (Ae A) (n.nO.trans ai))) Y0 (λv M P=>?_)));obtain⟨u,x,N,rfl,rfl⟩:=P;refine⟨A_ l.a.c m l.b {l.c with b:=-1,c:=-1,a:=0,d:=A0,h:=I,i:=I,j:=p,s:=I,f:=u,g:=0,e:=0}::.u (A2 x)::Av l.b.a ⟨6,r.d,1⟩::BH L m l.a::.u (At m l.a.b l.a.a G)::l.d m,?_,_,_,_,_,_,_,_,_,{l.c with b:=-1,c:=-1,a:=0,d:=A0,h:=I,i:=I,j:=p,s:=I,f:=u,g:=0,e:=0},_,n.nA,A,A,u,x,N,by show Ar _ _ (B0 _ l.c.e) _=_;rw[n.nJ],A⟩;exact((AQ.u (GS.t (f:=[BG l.b.b m R]) Y0)).t (AQ.ad (λb:AE=>[BG l.b.b m b]) R (Bi _))).t (AQ.ab Y0))
 refine A9.ac (j:=[.u (A2 l.e)]) ag λv M P=>?_;obtain⟨u,x,N,rfl,rfl⟩:=P;refine⟨{o with b:=⟨6,r.d,1⟩,v:=0,t:=0,y:=I,z:=I,aa:=p,ad:=I,w:=BN q 1},G,{l with c:={l.c with b:=-1,c:=-1,a:=0,d:=A0,h:=I,i:=I,j:=p,s:=I,f:=u,g:=0,e:=0},e:=x},[],?_,(AQ.y _).t ((AQ.u (D3 _ _ _)).t (AQ.z _ (LC _ _ _ _ _))),A,A⟩;exact⟨n.nH,n.nD,n.nE,n.nF,n.nI,n.nA,A,A,A,A,A,A,A,N,n.nB,n.nC,n.nG⟩
def kJ(L Q:B)(o:A6)(ag:o.e)(m:Ag)(G:Aj)(V:F×F)(q W p:B)(r:B4)(am:m.j.getD 0 0=p)(ao:p<8)(an:p≠3)(ap:0<m.t)(aq:m.t<=64)(U:m.z=I)(aj:q+m.t<=o.j p)(ai:q<4294967296)(au:m.b.a<16)(av:r.a<16)(S:r.a=6)(al:B5 m.b.a ((25:B):F) (m.b.b q)=((W:F),R))(ak:m.b.e 25 q=(R,R,r)):
 Ay 98 [A5 L,BY 25 q,X R] [.u (As o L Q m G V)] (Ar I A0 (B0 6 m.v) A0) [.u (As o L Q {m with b:=⟨6,r.d,m.t⟩,v:=0,t:=0,y:=m.y,z:=I,aa:=p,ad:=m.y,w:=BN q m.t} G V)]:=by
 refine Gz λl n=>?_;have ar:=n.nO;have af:({l.c with b:=-1,c:=-1}:BV).t r.a={l.c with b:=-1,c:=-1,d:=A0}:=A8 S;have ah:=I4 L o l G m {l.c with b:=-1,c:=-1} r 25 q W (λv M=>∃u x,GQ u x (BN q (m.t))/\v=Ar I A0 (B0 6 m.v) A0/\M=A_ l.a.c o l.b {l.c with b:=-1,c:=-1,a:=0,d:=A0,h:=l.c.h,i:=I,j:=p,s:=l.c.h,f:=u,g:=0,e:=0}::.u (A2 x)::Av l.b.a ⟨6,r.d,m.t⟩::BH L o l.a::.u (At o l.a.b l.a.a G)::l.d o) n.nA n.nA ai Y Y Y al ak (RI l.a.c o l.b l.c 25 (Ae (Ae A))) (by
  rw[af];refine A9.w (AQ.u (GS.t (f:=[.u (Em l.b.b o)]) Y0)) (A9.ae λb=>A9.aa (A9.ad (RH l.a.c o ag l.b {l.c with b:=-1,c:=-1,d:=A0} ({l.c with b:=-1,c:=-1,a:=0,d:=A0,h:=l.c.h,i:=l.c.i}:BV) r l.f 25 q (m.t) p b Z S n.nB ((n.nC 0 Z Z).trans am) ao an Y aj (by show l.c.i=I;rw[n.nL];exact U) (by have:=eI l.a.c o l.b ({l.c with b:=-1,c:=-1,d:=A0}:BV) 25 (Ae A) (by show 0<l.c.a;omega);rw[<-n.nO];exact this)) Y0 (λv M P=>?_)));obtain⟨u,x,N,rfl,rfl⟩:=P;rw[show l.c.i=I by rw[n.nL];exact U];refine⟨A_ l.a.c o l.b {l.c with b:=-1,c:=-1,a:=0,d:=A0,h:=l.c.h,i:=I,j:=p,s:=l.c.h,f:=u,g:=0,e:=0}::.u (A2 x)::Av l.b.a ⟨6,r.d,m.t⟩::BH L o l.a::.u (At o l.a.b l.a.a G)::l.d o,?_,_,_,_,_,_,_,_,_,{l.c with b:=-1,c:=-1,a:=0,d:=A0,h:=l.c.h,i:=I,j:=p,s:=l.c.h,f:=u,g:=0,e:=0},_,n.nA,A,A,u,x,N,by show Ar _ _ (B0 _ l.c.e) _=_;rw[n.nJ],A⟩;exact((AQ.u (GS.t (f:=[BG l.b.b o R]) Y0)).t (AQ.ad (λb:AE=>[BG l.b.b o b]) R (Bi _))).t (AQ.ab Y0))
 refine A9.ac (j:=[.u (A2 l.e)]) ah λv M P=>?_;obtain⟨u,x,N,rfl,rfl⟩:=P;refine⟨{m with b:=⟨6,r.d,m.t⟩,v:=0,t:=0,y:=m.y,z:=I,aa:=p,ad:=m.y,w:=BN q m.t},G,{l with c:={l.c with b:=-1,c:=-1,a:=0,d:=A0,h:=l.c.h,i:=I,j:=p,s:=l.c.h,f:=u,g:=0,e:=0},e:=x},[],?_,(AQ.y _).t ((AQ.u (D3 _ _ _)).t (AQ.z _ (LC _ _ _ _ _))),A,A⟩;exact⟨n.nH,n.nD,n.nE,n.nF,n.nI,n.nA,A,A,n.nM,A,A,n.nM,A,N,n.nB,n.nC,n.nG⟩
def kN(aj ai:B)(j:A6)(ax:j.e)(m:Ag)(q:Aj)(am:F×F)(n:B)(p:G B)(r af ah:B)(t:G M)(x:G B)(ba:m.w=n::p)(a6:p.length<=64)(bb:m.b.a=6)(bc:1<=m.b.f/\m.b.f<=64)(az:m.aa=0)(be:n<j.b)(bd:m.j.getD 1 0=0)(a3:Ki x)(a2:(t.drop af).take 128=x.map W)(a7:q.b+1000000<=500000000)(a1:j.d*14+3<q.c)
 (a5:∀(ao:B)(ag:C5)(an:BV)(aq:G B)(av:B)(aw:G M),aq.length=64->AK 209 [A5 ao,N (0:B),N (j.g 0+n:B)] (A_ ao j ag an::Bc ag.c aq::DB ag.h ag.e (j.b/j.c) av (U (j.b/j.c) 0) aw) (X I)):
 Z9 25 [A5 aj,O (C ⟨r,af,E⟩) 128 ah,X R] [.u (As j aj ai m q am),.t r t 5] λv L=>∃o,q.h o (j.g 0+n) x/\v=D BQ 229/\L=[.u (As j aj ai {m with b:=m.b.g,w:=p,u:=Cm m.u (j.g 0+n) x} o am),.t r t 5]:=by
 refine A9.ae λ⟨a,l⟩=>A9.aa ?_;have a4:=l.nH;subst a4;have ap:=l.nQ;rw[ba] at ap;obtain⟨bi,_⟩|⟨S,bh,aa,a8,ar,au⟩:=ap
 ·cases bi
 have a0:a.c.j=0:=l.nK.trans az;have bf:j.g 0+n<j.a:=by show 0+n<j.b+2*j.f+j.s;omega
 refine A9.w (a:=A_ a.a.c j a.b a.c::BH a.b.d j a.a::.u (At j a.a.b a.a.a q)::.t S ((n::p).map AD++aa) 3::.u (A2 [])::Av a.b.a m.b::(a.d j++[.t r t 5])) ?_ ?_
 ·refine(AQ.u (DZ ?_):AQ _ (.u (A2 [.t S ((n::p).map AD++aa) 3])::_)).t ((AQ.ac _ _).t ((AQ.z _ (AQ.aa [] _)).t (AQ.u ((Cj (l₁:=[_,_]) (l₂:=[_,_,_])).append_right _))));show BL.u (A2 a.e)::_=_;rw[au];rfl
 have ay:∀b,Z9 60 [A5 a.a.c,O (C ⟨r,af,E⟩) 128 ah,X R] (A_ a.a.c j a.b a.c::Av a.b.a m.b::.t S ((n::p).map AD++aa) 3::Bc a.b.c a.f::BG a.b.b j b::BH a.b.d j a.a::.u (At j a.a.b a.a.a q)::.t r t 5::.t a.b.h [Q a.b.e (j.b/j.c) a.s] 408::AJ a.b.e (U (j.b/j.c) 0) a.t::.t a.b.g [N j.i,O E 0 0,N a.j,Ah (C a.b.f)] 455::.o a.b.f (.map #[] a.i)::[])
  λv L=>∃o Y z y,q.h o (j.g 0+n) x/\GQ z y p/\v=D BQ 229/\L=A_ a.a.c j a.b {a.c with f:=z,d:=Q Y 1 1}::Av a.b.a m.b.g::.u (A2 y)::Bc a.b.c a.f::BG a.b.b j R::BH a.b.d j a.a::.u (At j a.a.b a.a.a o)::.t r t 5::.t a.b.h [Q a.b.e (j.b/j.c) a.s] 408::AJ a.b.e (U (j.b/j.c) 0) a.t::.t a.b.g [N j.i,O E 0 0,N a.j,Ah (C a.b.f)] 455::.o a.b.f (.map #[] a.i)::[]:=λb=>
  e6 a.a.c j ax a.b a.c a.a q m.b a.f (j.b/j.c) a.s j.i a.j a.i 0 n r af ah S bh p aa a.t b t x l.nB ((l.nC 1 Z Z).trans bd) Z Z a0 be bf bb bc l.nA l.nP ar a6 a8 (λan=>a5 _ _ _ _ _ _ l.nB) a3 a2 a7 a1
 refine hH a.b.d j a.a a.b a.c q _ R _ _ l.nA (A9.w (AQ.u (GS.t (f:=[.u (Em a.b.b j)]) Y0)) (A9.ae λb=>(A9.ad (ay b) Y0 (λv L bg=>?_))));obtain⟨o,Y,z,y,ak,a9,rfl,rfl⟩:=bg;refine⟨_,(((AQ.u (GS.t (f:=[BG a.b.b j R]) Y0)).t (AQ.ad (λb:AE=>[BG a.b.b j b]) R (Bi _))).t (AQ.ab (a:=.u (A2 y)::A_ a.a.c j a.b {a.c with f:=z,d:=Q Y 1 1}::BH a.b.d j a.a::.u (At j a.a.b a.a.a o)::Av a.b.a m.b.g::Bc a.b.c a.f::.t a.b.h [Q a.b.e (j.b/j.c) a.s] 408::AJ a.b.e (U (j.b/j.c) 0) a.t::.u (Em a.b.b j)::.t a.b.i ([N j.s]++(EB++a.u)) 437::.t a.b.g [N j.i,O E 0 0,N a.j,Ah (C a.b.f)] 455::.o a.b.f (.map #[] a.i)::.t r t 5::[]) Y0)).t (AQ.ad (λal:{al:Fa//al.h j a.b.d ai {m with b:=m.b.g,w:=p,u:=Cm m.u (j.g 0+n) x} o am}=>al.1.g a.b.d j {m with b:=m.b.g,w:=p,u:=Cm m.u (j.g 0+n) x} o) ⟨{a with c:={a.c with f:=z,d:=Q Y 1 1},e:=y},?_⟩ (Bi _)),o,ak,A,A⟩;exact⟨A,l.nD,⟨l.nE.1,by have:=l.nE.2;have:=ak.nA.1;show a.a.d<=(o.a:F);omega⟩,l.nF,l.nI,l.nA,l.nJ,l.nO,l.nM,l.nL,l.nK,l.nN,l.nP,a9,l.nB,l.nC,by rw[ak.nE,l.nG]⟩
def cP(a:Fa):AQ (a.g l xp ye xy) (a.g l xp ye xy++[]):=by rw[B1];exact .w _
def JC{args:G M}{m:M->Prop}(n:∀j:Fa,j.h xp p np ye xy zc->Z9 l args (j.g p xp ye xy) λv f=>∃a:Fa,a.h xp p np ye xy zc/\m v/\AQ f (a.g p xp ye xy)):Z9 l args [.u (As xp p np ye xy zc)] λv f=>m v/\f=[.u (As xp p np ye xy zc)]:=by
 refine Gz λj t=>(A9.z (n j t) λv f u=>?_);obtain⟨a,o,q,r⟩:=u;exact⟨ye,xy,a,[],o,r.t (cP a),q,A⟩
def X8(f o:B)(l:A6)(m:Ag)(j:Aj)(q:F×F):AK 27 [A5 f] [.u (As l f o m j q)] (X I):=by
 refine JC λa n=>A9.aa (A9.ad (Rm f l a.a a.b a.c j n.nA) Y0 (λv r p=>?_));obtain⟨rfl,rfl⟩:=p;exact⟨_,AQ.ab (a:=a.g f l m j) Y0,a,n,A,.w _⟩
def XF(n m:B)(j:A6)(l:Ag)(f:Aj)(r:F×F):AK 28 [A5 m] [.u (As j n m l f r)] (X I):=by
 refine JC λa o=>A9.aa ?_;have p:=o.nD;subst p;refine A9.ad (Yh j a.a.b a.a.a f) Y0 (λv t q=>?_);obtain⟨rfl,rfl⟩:=q;exact⟨_,AQ.ab (a:=a.g n j l f) Y0,a,o,A,.w _⟩
def k4(n m:B)(f:A6)(l:Ag)(a:Aj)(q:F×F):Z9 17 [A5 m,N 1099511627776] [.u (As f n m l a q)] λv o=>Le/\o=[.u (As f n m l a q)]:=by
 refine JC (m:=λ_=>Le) λj p=>A9.aa ?_;have r:=p.nD;subst r;refine A9.ad (ABt f j.a.b j.a.a a) Y0 (λv o t=>?_);obtain rfl:=t;exact⟨_,AQ.ab (a:=j.g n f l a) Y0,j,p,AA,.w _⟩
def kV(j n:B)(l:A6)(f:Ag)(m:Aj)(q:F×F):AK 71 [A5 j] [.u (As l j n f m q)] (N f.b.a):=by
 refine JC λa o=>A9.aa (A9.ad (hX j l a.a a.b a.c f.b) Y0 (λv r p=>?_));obtain⟨rfl,rfl⟩:=p;exact⟨_,AQ.ab (a:=a.g j l f m) Y0,a,o,A,.w _⟩
def P_(f p:B)(j:A6)(n:Ag)(a:Aj)(o:F×F)(q:a.a<=1000000000):AK 29 [A5 f] [.u (As j f p n a o)] (N ((a.a:F)-o.2)):=by
 refine JC λm l=>A9.aa (A9.ad (hT f j m.a a l.nE q) Y0 (λv t r=>?_));obtain⟨rfl,rfl⟩:=r;exact⟨_,AQ.ab (a:=m.g f j n a) Y0,m,l,by rw[l.nF.2],.w _⟩
def k_(a p:B)(f:A6)(m:Ag)(l:Aj)(o:F×F):AK 48 [A5 a] [.u (As f a p m l o)] (N o.1):=by
 refine JC λj n=>A9.aa (A9.ad (hS a f j.a) Y0 (λv r q=>?_));obtain⟨rfl,rfl⟩:=q;exact⟨_,AQ.ab (a:=j.g a f m l) Y0,j,n,by rw[n.nF.1],.w _⟩
def l4(m p:B)(l:A6)(o:Ag)(n:Aj)(t:F×F)(q:l.a<=300):AK 69 [A5 m] [.u (As l m p o n t)] (N (l.t:B)):=by
 refine JC λj f=>A9.aa (A9.ad (hV m l j.a j.b j.c n l.i j.j j.i q f.nI) Y0 (λv u r=>?_));obtain⟨rfl,rfl⟩:=r;refine⟨_,AQ.ab (a:=({j with a:={j.a with e:=1,g:=(l.t:B)}}:Fa).g m l o n) Y0,{j with a:={j.a with e:=1,g:=(l.t:B)}},?_,A,.w _⟩;exact⟨f.nH,f.nD,f.nE,f.nF,Ae ⟨A,A⟩,f.nA,f.nJ,f.nO,f.nM,f.nL,f.nK,f.nN,f.nP,f.nQ,f.nB,f.nC,f.nG⟩
structure Qn(l:Ag)(j:G B):Prop where
 a:j.length=64
 d:∀f,f≠32->f≠33->j.getD f 0=l.j.getD f 0
 c:j.getD 32 0=1
 b:j.getD 33 0=0
def AAD(m:q.length=64)(o:∀a,a≠32->a≠33->q.getD a 0=ye.j.getD a 0)(n:ye.j.getD 34 0=0):Qn ye (Ga q):=by
 have f:∀a,(Ga q).getD a 0=if a=33 then 0 else if a=32 then 1 else if a=34 then 0 else q.getD a 0:=λa=>by
  unfold Ga;rw[K.cz Y5,K.cz Y5,K.cz Y]
 refine⟨ML m,λa j l=>?_,by rw[f];rfl,by rw[f];rfl⟩;rw[f,A1 l,A1 j];split
 ·rename_i p;rw[p,n]
 ·exact o a j l
def XJ(p t:B)(l:A6)(n:Ag)(m:Aj)(u:F×F)(x:n.j.getD 34 0=0)(y:l.d*14+1<m.c)(z:m.d<7000):Z9 68 [A5 p] [.u (As l p t n m u)] λv r=>(∃o,Qn n o/\v=AV (o.map W).toArray)/\r=[.u (As l p t n m u)]:=by
 refine JC (m:=λv=>∃o,Qn n o/\v=AV (o.map W).toArray) λj a=>?_;have G:=a.nH;subst G;refine A9.w (AQ.u (GS.t (f:=[.u (Em j.b.b l)]) Y0)) (A9.ae λb=>A9.aa (A9.ad (hW j.b.d l j.a j.b A j.c j.f m b a.nB y z) Y0 (λv r L=>?_)));obtain⟨rfl,rfl⟩:=L;have q:=AAD a.nB a.nC x;refine⟨({j with f:=Ga j.f}:Fa).g j.b.d l n m,?_,{j with f:=Ga j.f},?_,⟨_,q,A⟩,.w _⟩
 ·exact((AQ.u (GS.t (f:=[BG j.b.b l b]) Y0)).t (AQ.ad (λb:AE=>[BG j.b.b l b]) b (Bi _))).t (AQ.ab Y0)
 ·exact⟨A,a.nD,a.nE,a.nF,a.nI,a.nA,a.nJ,a.nO,a.nM,a.nL,a.nK,a.nN,a.nP,a.nQ,q.a,q.d,a.nG⟩
inductive Gp where
 |t (j:AE) (f:F)
 |u (a:G B)
 |y (f:F) (a:G B)
def F_:Gp->M->S->Prop
 |.t t o,v,a=>v=Ar t A0 o A0/\a=[]
 |.u j,v,a=>∃l n f m,Hq f 0 j.length j/\v=Ar I (Q l j.length n) 0 A0/\a=[.t l f m]
 |.y o j,v,a=>∃p r q l n f m,Hq f 0 128 j/\v=Ar I A0 o (Q p 1 r)/\a=[.t p (Q l 128 n::q) 31,.t l f m]
def F_.a{a:Gp}{v:M}(f:F_ a v lg):Kh v:=by
 cases a with
 |t x o=>obtain⟨rfl,_⟩:=f;exact⟨_,_,_,_,_,_,_,_,A⟩
 |u m=>obtain⟨n,a,l,j,_,rfl,_⟩:=f;exact⟨_,_,_,_,_,_,_,_,A⟩
 |y o m=>obtain⟨r,q,p,n,a,l,j,_,rfl,_⟩:=f;exact⟨_,_,_,_,_,_,_,_,A⟩
def Ys(a f:S):AQ [.u (A2 a),.u (A2 f)] (a++f):=
 (AQ.ac a [.u (A2 f)]).t ((AQ.u Cj).t ((AQ.ac f a).t (AQ.u Cj)))
def ZF(z m:B)(an:m≠8)(arg p:M)(a:Gp)(v ak:M)(G L:S)(U:F_ a v G)(W:F_ a ak L):Ay 36 [A5 z,N m,arg,p,v,ak] [.u (A2 G),.u (A2 L)] (X R) []:=by
 refine A9.w (Ys G L) ?_;cases a with
 |t ao aa=>
  obtain⟨rfl,rfl⟩:=U;obtain⟨rfl,rfl⟩:=W;exact A9.z (ADF z (N m) arg p ao aa []) λaj af l=>l
 |u x=>
  obtain⟨f,a,q,n,Y,rfl,rfl⟩:=U;obtain⟨j,F,r,o,Z,rfl,rfl⟩:=W;refine A9.aa (A9.z (ADH z (N m) arg p I 0 f 0 x.length a j 0 F q r n o x Y Z) λaj af l=>?_);obtain⟨rfl,rfl⟩:=l;exact⟨[],(AQ.y _).t (AQ.y _),A,A⟩
 |y aa x=>
  obtain⟨ah,al,b,f,a,q,n,Y,rfl,rfl⟩:=U;obtain⟨ai,am,ag,j,F,r,o,Z,rfl,rfl⟩:=W;refine A9.aa (A9.w (a:=[.t ah (Q f 128 a::b) 31,.t ai (Q j 128 F::ag) 31,.t f q n,.t j r o]) (AQ.z _ (AQ.u (D3 _ _ _))) (A9.z (ADG z m an arg p I aa ah al ai am f 0 a j 0 F b ag q r n o x Y Z) λaj af l=>?_));obtain⟨rfl,rfl⟩:=l;exact⟨[],(AQ.y _).t ((AQ.y _).t ((AQ.y _).t (AQ.y _))),A,A⟩
def MP(a:Gp)(v af:M)(x z:S)(B:F_ a v x)(F:F_ a af z):Ay 35 [v,af] [.u (A2 x),.u (A2 z)] (X R) []:=by
 refine A9.w (Ys x z) ?_;cases a with
 |t ai N=>
  obtain⟨rfl,rfl⟩:=B;obtain⟨rfl,rfl⟩:=F;exact A9.z (YH ai N []) λaa U l=>l
 |u q=>
  obtain⟨f,a,o,m,G,rfl,rfl⟩:=B;obtain⟨j,r,p,n,L,rfl,rfl⟩:=F;refine A9.aa (A9.z (AAg I 0 f 0 q.length a j 0 r o p m n q G L) λaa U l=>?_);obtain⟨rfl,rfl⟩:=l;exact⟨[],(AQ.y _).t (AQ.y _),A,A⟩
 |y N q=>
  obtain⟨Y,ag,b,f,a,o,m,G,rfl,rfl⟩:=B;obtain⟨Z,ah,W,j,r,p,n,L,rfl,rfl⟩:=F;refine A9.aa (A9.w (a:=[.t Y (Q f 128 a::b) 31,.t Z (Q j 128 r::W) 31,.t f o m,.t j p n]) (AQ.z _ (AQ.u (D3 _ _ _))) (A9.z (AAf I N Y ag Z ah f 0 a j 0 r b W o p m n q G L) λaa U l=>?_));obtain⟨rfl,rfl⟩:=l;exact⟨[],(AQ.y _).t ((AQ.y _).t ((AQ.y _).t (AQ.y _))),A,A⟩
def J3(l:A6)(a m:B)(n:F×F)(u arg:B)(x:Gp)(r t:Ag)(o:Aj)(q:Aj->Prop):Prop:=
 Z9 98 [A5 a,BY u arg,X R] [.u (As l a m r o n)] λv p=>∃f j,q f/\F_ x v j/\p=[.u (As l a m t f n),.u (A2 j)]
def Lt(j:A6)(a:B)(o arg:B)(p:Gp)(m n:Ag):Prop:=
 Z9 72 [A5 a,BY o arg,X R] [.u (Bb j a m)] λv l=>∃f,F_ p v f/\l=[.u (Bb j a n),.u (A2 f)]
def VG(a:BL):AQ [a] [a,.u (A2 [])]:=AQ.z _ (AQ.aa [] [])
def VH(f a:BL):AQ [f,a] [f,.u (A2 [a])]:=AQ.z _ (AQ.aa [a] [])
def VI(j a f:BL):AQ [j,a,f] [j,.u (A2 [a,f])]:=AQ.z _ (AQ.aa [a,f] [])
variable{za:AE}
def J3.d{j arg:B}{a f:Ag}(n:Ay 98 [A5 l,BY j arg,X R] [.u (As xp l p a xy zc)] (Ar za A0 ya A0) [.u (As xp l p f xy zc)]):J3 xp l p zc j arg (.t za ya) a f xy (λm=>m=xy):=by
 refine A9.aa (A9.z n λv q o=>?_);obtain⟨rfl,rfl⟩:=o;exact⟨_,VG _,xy,[],A,⟨A,A⟩,A⟩
def Lt.a{j arg:B}{a f:Ag}(m:Ay 72 [A5 l,BY j arg,X R] [.u (Bb xp l a)] (Ar za A0 ya A0) [.u (Bb xp l f)]):Lt xp l j arg (.t za ya) a f:=by
 refine A9.aa (A9.z m λv o n=>?_);obtain⟨rfl,rfl⟩:=n;exact⟨_,VG _,[],⟨A,A⟩,A⟩
def Xx{j:B}(a:∀f∈q,f<256):Hq (q.map W++er) 0 q.length q:=⟨by rw[CJ,C_ Y1],A,a⟩
def J3.e{o arg r:B}{m n:Ag}(z:q.length=r)(y:∀M∈q,M<256)(x:Z9 98 [A5 l,BY o arg,X R] [.u (As xp l p m xy zc)] λv j=>∃a f t,v=Ar I (Q a r f) 0 A0/\j=[.u (As xp l p n xy zc),AJ a q t]):J3 xp l p zc o arg (.u q) m n xy (λu=>u=xy):=by
 subst z;refine A9.aa (A9.z x λv j L=>?_);obtain⟨a,f,t,rfl,rfl⟩:=L;exact⟨_,VH _ _,xy,_,A,⟨a,f,_,_,Xx (j:=a) y,A,A⟩,A⟩
def Lt.b{o arg p:B}{m n:Ag}(x:q.length=p)(u:∀z∈q,z<256)(t:Z9 72 [A5 l,BY o arg,X R] [.u (Bb xp l m)] λv j=>∃a f r,v=Ar I (Q a p f) 0 A0/\j=[.u (Bb xp l n),AJ a q r]):Lt xp l o arg (.u q) m n:=by
 subst x;refine A9.aa (A9.z t λv j y=>?_);obtain⟨a,f,r,rfl,rfl⟩:=y;exact⟨_,VH _ _,_,⟨a,f,_,_,Xx (j:=a) u,A,A⟩,A⟩
def Xw{a v:B}(f:a<q.length)(j:q.getD a 0=v):(q.map W)[a]?=C (W v):=by
 rw[D_,Aw f,<-j,AY,Aw f];rfl
def KC{a:Cs}(j:a.w xp ye)(f:S):AQ (a.i l xp ye++f) (.u (Bb xp l ye)::f):=AQ.ad (λa:{a:Cs//a.w xp ye}=>a.1.i l xp ye) ⟨a,j⟩ (Bi _)
def T7(r j l o:B)(a:A6)(L:a.e)(q:Co)(f:Ag)(n:Aj)(p:F×F)(U:f.j.getD 34 0=0)(Z:a.d*14+1<n.c)(aa:n.d<7000)(ah:a.t<=a.x)(an:q.c<=1):
 Ay 31 [A5 r] [Bd r a j l o q,.u (As a l j f n p),.u (Bb a o f)] (X R) [Bd r a j l o {q with c:=1},.u (As a l j f n p),.u (Bb a o f)]:=by
 have ai:a.a<=300:=L.nB.2;have u:=l4 l j a f n p ai;have G:=AA6 a L;obtain⟨M,x⟩:∃m,a.t=m:=⟨_,A⟩;obtain⟨ak,y⟩:∃m,a.x=m:=⟨_,A⟩;rw[x] at u;rw[y] at G;rw[x,y] at ah;clear x y;refine A9.w (a:=.u (Bb a o f)::[Bd r a j l o q,.u (As a l j f n p)]) AQ.b ?_;refine A9.ae λ⟨aj,af⟩=>A9.aa (A9.y ?_);refine J ?_;refine A9.u (XJ l j a f n p U Z aa) ?_;rintro v al ⟨⟨N,z,rfl⟩,rfl⟩;refine J ?_;have ag:=z.a;have t:CX (N.map W) (0+32*1) 1 I=C (W 1):=Xw Y z.c;have S:CX (N.map W) (0+33*1) 1 I=C (W 0):=Xw Y z.b;have ap:=B7 (((M:B):F)<=((ak:B):F));have aq:=B7 (((M:B):F)≥0);have ao:=B7 (((1:B):F)≥((q.c:B):F));intro am;refine J ?_;refine Mw.y (p:=64) (by simp[ag]) A (Gy _) (A7 ?_);refine Ms.mk (v:=W 1) ?_ ?_
 ·exact t
 refine A7 ?_;refine Ms.mk (v:=W 1) ?_ ?_
 ·exact t
 refine A7 ?_;refine Ms.mk (v:=W 0) ?_ ?_
 ·exact S
 refine J ?_;refine A9.b (u) ?_;refine J ?_;refine A9.b (G) ?_;refine J ?_;refine A9.b (u) (A7 ?_);refine Ms.mk (v:=W 1) ?_ ?_
 ·exact t
 refine J ?_;refine A9.b (kV l j a f n p) ?_;refine J ?_;refine⟨[Bd r a j l o {q with c:=1},.u (As a l j f n p),.u (Bb a o f)],(AQ.ab (a:=aj.i o a f++[Bd r a j l o {q with c:=1},.u (As a l j f n p)]) Y0).t ((KC af _).t AQ.b),?_,A⟩;simp;rfl
def Dv.c{v:B->G B}(j:Dv xp er lg v):er.all B'=R:=by
 rw[Gh];intro q l;obtain⟨m,f,rfl⟩:=List.getElem_of_mem l;rcases j.b m (by rw[<-j.a];exact f) with⟨a,_⟩|⟨p,n,o,a,_⟩
 ·rw[Aw f] at a;rw[Option.some.inj a];rfl
 ·rw[Aw f] at a;rw[Option.some.inj a];rfl
structure Ag.ae(a:Ag)(j:A6):Prop where
 nA:a.w.length<=64
 nG:a.b.a<16
 nF:a.b.d<65536
 nB:a.j.length=64
 nC:a.j.getD 34 0=0
 nE:a.j.getD 0 0<8
 nD:∀f,f<j.a->(a.u f).length=128/\∀l∈a.u f,l<256
def Yr(n:B)(j:A6)(u:j.e)(x:1<=j.b/j.c/\j.b/j.c<=256)(l:Ag)(a:Cs)(m:a.w j l)(z:l.w.length<=64):Z9 23 [A5 n] (a.i n j l) λv p=>∃r o t,v=A5 r/\p=AO r j o t::a.i n j l:=by
 have y:=S' n j u a.h a.b l.b l.j a.x (j.b/j.c) a.z j.i E 0 a.aa a.u l.w a.j a.t m.nA m.nC m.nD x m.nB.a m.nB.c m.nK z m.nL;refine A9.aa (A9.w (a:=.u (A2 a.v)::.u (A2 a.j)::.u (A2 a.t)::AO n j a.h a.b::Eb j a.h l.b l.j a.x (j.b/j.c) a.z j.i E 0 a.aa a.u) (AQ.ab Y0) (A9.ac (j:=[.u (A2 a.v)]) y λv p F=>?_));obtain⟨q,o,G,L,N,P,U,V,M,Q,S,rfl,rfl⟩:=F;exact⟨_,AQ.ab (a:=AO q j o {a.b with c:=G,f:=L}::a.i n j l) Y0,q,o,_,A,A⟩
def Px(z:B)(a:A6)(n o p:B)(U:Co)(G arg:B)(t:Gp)(q r:Ag)(P:Aj)(y:F×F)(Q:Aj->Prop)(Y:J3 a o n y G arg t q r P Q)(Z:Lt a p G arg t q r):
 Z9 34 [A5 z,N G,D Ax arg,X R] [Bd z a n o p U,.u (As a o n q P y),.u (Bb a p q)] λv m=>∃L M f j l,Q f/\F_ t L j/\F_ t M l/\v=AL #[L,M]/\m=[Bd z a n o p U,.u (As a o n r f y),.u (A2 j),.u (Bb a p r),.u (A2 l)]:=by
 have W:=Yy z a n o p U G arg R (As a o n q P y) (Bb a p q) (λv m=>∃f j,Q f/\F_ t v j/\m=[.u (As a o n r f y),.u (A2 j)]) (λv m=>∃l,F_ t v l/\m=[.u (Bb a p r),.u (A2 l)])
  (A9.z Y λv m x=>by
   obtain⟨f,j,V,u,S⟩:=x;exact⟨u.a,f,j,V,u,S⟩)
  (A9.z Z λv m x=>by
   obtain⟨l,u,S⟩:=x;exact⟨u.a,l,u,S⟩)
 refine A9.z W λv m x=>?_;obtain⟨L,M,ah,ai,_,_,⟨f,j,aa,af,rfl⟩,⟨l,ag,rfl⟩,rfl,rfl⟩:=x;exact⟨L,M,f,j,l,aa,af,ag,A,A⟩
abbrev Gd(l:AE)(n arg:B)(f:AE)(m:B)(p o a j:B):M:=AV #[X l,N n,D Ax arg,X I,X f,W m,A0,A0,X I,N p,N o,N a,N j]
abbrev DY(o:B)(a:A6)(j l m:B)(q:Co)(f:Ag)(n:Aj)(p:F×F):S:=[Bd o a j l m q,.u (As a l j f n p),.u (Bb a m f)]
structure Qr(l:A6)(n:Co)(m:Aj)(h:F×F):Prop where
 a:1<=l.b/l.c/\l.b/l.c<=256
 f:l.t<=l.x
 d:l.d<=100/\l.i<=100
 j:n.a<=1000
 b:n.d<=1000
 c:n.c<=1
 i:l.d*14+1<m.c
 g:m.d<7000
 e:m.a<=1000000000
 h:0<=h.2/\h.2<=1000000000
def ADJ(t m n p:B)(f:A6)(aj:f.e)(r:Co)(o x:Ag)(l:Aj)(j:F×F)(y:Qr f r l j)(ag:o.ae f)(aw:x.ae f)(q arg:B)(L:Gp)(ah:q≠8/\q≠38)(a4:q<1000)(a3:arg<4294967296)
 (ar:J3 f n m j q arg L o x l (l.g · 2))(au:Lt f p q arg L o x):
 Z9 8 [A5 t,Gd I q arg I 0 0 0 0 0] (DY t f m n p r o l j) λv al=>v=X R/\∃u,l.g u 2/\al=DY t f m n p {r with b:=(l.a:F)-j.2,a:=0,c:=1} x u j:=by
 have ap:=Px t f m n p {r with b:=(l.a:F)-j.2,a:=0} q arg L o x l j (l.g · 2) ar au;refine A9.w (a:=.u (Bb f p o)::[Bd t f m n p r,.u (As f n m o l j)]) AQ.b (A9.ae λ⟨Q,P⟩=>A9.aa (A9.y ?_));intro U;refine J ?_;refine A9.u (Yr p f aj y.a o Q P ag.nA) ?_;rintro v am ⟨V,ak,z,rfl,rfl⟩;refine J ?_;refine A9.b (b_ I q arg 0 I (D Q_ o.b.d) []) ?_;refine J ?_;refine A9.b (Pd Q.h.d 0 o.j Z P.nA) ?_;have ay:=ag.nE;obtain⟨M,ax⟩:∃M,o.j.getD 0 0=M:=⟨_,A⟩;rw[ax] at ay⊢;refine A7 ?_;refine A9.b (P_ n m f o l j y.e) ?_;refine J ?_;refine A9.w (a:=Bd t f m n p {r with b:=(l.a:F)-j.2,a:=0}::.u (As f n m o l j)::.u (Bb f p o)::[AO V f ak z,.t U (B9 (Gd I q arg I 0 0 0 0 0)) 35]) ((AQ.ab (a:=Q.i p f o++[Bd t f m n p {r with b:=(l.a:F)-j.2,a:=0},.u (As f n m o l j),AO V f ak z,.t U (B9 (Gd I q arg I 0 0 0 0 0)) 35]) Y0).t ((KC P _).t AQ.b)) ?_;refine A9.u ap ?_;rintro v am ⟨bi,bj,u,an,ao,G,W,Y,rfl,rfl⟩;have aa:=Yz t f m n p {r with b:=(l.a:F)-j.2,a:=0} q z.x z.y ah.2 ⟨by show 0<=1000;decide,y.b⟩ y.d;obtain⟨S,ai⟩:∃S,12*({r with b:=(l.a:F)-j.2,a:=0}:Co).a+(1+({r with b:=(l.a:F)-j.2,a:=0}:Co).d)*(4*f.d+96)+12*f.i=S:=⟨_,A⟩;rw[ai] at aa;clear ai;have bf:=B7 ((0:F)<=(S:F));have av:=T7 t m n p f aj {r with b:=(l.a:F)-j.2,a:=0} x u j aw.nC (by rw[G.nD];exact y.i) (by rw[G.nC];exact y.g) y.f y.c;have af:=G.nB;have aq:u.a<=1000000000:=by rw[af];exact y.e
 obtain⟨bb,bd,a9,a5,bk,bg,a7,az,rfl⟩:=W.a;obtain⟨bc,be,ba,a6,bl,bh,a8,a0,rfl⟩:=Y.a;refine J ?_;intro a1;refine J ?_;intro a2;refine J ?_;refine A9.b (X8 n m f x u j) ?_;refine J ?_;refine A9.b (ZF t q ah.1 (D Ax arg) (N M) L _ _ an ao W Y) ?_;refine J ?_;refine A9.b (XF n m f x u j) ?_;refine J ?_;refine A9.b (P_ n m f x u j aq) ?_;refine J ?_;refine F'.mk 0 (by rw[af];show IntKind.i64.wrap ((l.a:F)-j.2-((l.a:F)-j.2))=0;rw[AEF];rfl) (J ?_);refine A9.b (aa) (J ?_);refine A9.b (av) (J ?_);exact⟨DY t f m n p {r with b:=(l.a:F)-j.2,a:=0,c:=1} x u j,AQ.b,A,u,G,A⟩
def AAA(o:l<256):Ki (U 128 l):=by
 refine⟨BI,λn m=>by rw[FX] at m;omega,?_⟩;intro a;have j:(U 128 l).take 4=[l,l,l,l]:=A;rw[j] at a;injection a with p f
 injection f with f _
 omega
abbrev Ag.al(a:Ag)(l:B)(j:G B)(f:G B):Ag:={a with b:=a.b.g,w:=j,u:=Cm a.u l f}
def g4(a:A6)(q:a.e)(j:B)(y:j<a.b)(l:B)(f:C5)(m:BV)(p:G B)(n:B)(o:G M):AK 209 [A5 l,N (0:B),N (a.g 0+j:B)] (A_ l a f m::Bc f.c p::DB f.h f.e (a.b/a.c) n (U (a.b/a.c) 0) o) (X I):=by
 obtain⟨L,P,Q,S,V,t,W,Z,aa,F⟩:=id q;have r:a.g 0+j=j:=by show 0+j=j;omega
 have x:(a.g 0+j)/a.c<a.b/a.c:=by
  rw[r,AEj Y,AEl (AEn t)];exact y
 have u:=eF l a q f m (a.g 0+j) (a.b/a.c) n o x Y;refine A9.aa (A9.w (a:=Bc f.c p::A_ l a f m::DB f.h f.e (a.b/a.c) n (U (a.b/a.c) 0) o) (AQ.u (D3 _ _ _)) (A9.ac (j:=[Bc f.c p]) u ?_));rintro v z ⟨rfl,rfl⟩;exact⟨_,AQ.u (D3 _ _ _),A,A⟩
def ADK(y o p r:B)(f:A6)(L:f.e)(j:Co)(l:Ag)(t:Aj)(q:F×F)(z:Qr f j t q)(Q:l.ae f)(n:B)(x:G B)(m:B)(V:l.w=n::x)(ap:l.b.a=6)(aq:1<=l.b.f/\l.b.f<=64)(al:l.aa=0)(aa:n<f.b)(ar:l.j.getD 1 0=0)(a3:m<256)(a4:t.b+1000000<=500000000)(bc:f.d*14+5<t.c)(bg:t.d+3<7000)(bj:t.a+6<=1000000000)(bf:0<=j.b/\j.b<=1000000000)(bd:(t.a:F)-q.2<=j.b+6*j.a)(be:j.a<1000):
 Z9 8 [A5 y,Gd R 0 0 I m 0 0 0 0] (DY y f o p r j l t q) λv av=>v=X R/\∃u,t.h u n (U 128 m)/\av=DY y f o p r {j with a:=j.a+1,c:=1} (l.al n x (U 128 m)) u q:=by
 have ao:x.length<=64:=by have:=Q.nA;rw[V] at this;simp at this;omega
 have ax:f.g 0+n=n:=by show 0+n=n;omega
 have am:((U 128 (W m)).drop 0).take 128=(U 128 m).map W:=by rw[FF];rfl
 have aj:=λP=>kN p o f L l t q n x P 0 128 (U 128 (W m)) (U 128 m) V ao ap aq al aa ar (AAA a3) am a4 Y (λaz a6 aw a5 ay a0 _=>g4 f L n aa az a6 aw a5 ay a0);have ak:=λP=>mO r f L l n x P 0 128 (U 128 (W m)) (U 128 m) V ao ap aq al aa ar BI am;rw[ax] at aj ak;refine A9.w (a:=.u (Bb f r l)::[Bd y f o p r j,.u (As f p o l t q)]) AQ.b (A9.ae λ⟨au,an⟩=>A9.aa (A9.y ?_));intro ag;refine J ?_;refine A9.u (Yr r f L z.a l au an Q.nA) ?_;rintro v af ⟨a8,bl,a7,rfl,rfl⟩;refine J ?_;refine A9.w (a:=Bd y f o p r j::.u (As f p o l t q)::.u (Bb f r l)::[.t ag (B9 (Gd R 0 0 I m 0 0 0 0)) 35]) ((AQ.ab (a:=au.i r f l++[Bd y f o p r j,.u (As f p o l t q),.t ag (B9 (Gd R 0 0 I m 0 0 0 0)) 35]) Y0).t ((KC an _).t AQ.b)) (A9.u (cK R 0 0 m I) ?_);rintro v af ⟨ah,rfl,rfl⟩;refine J ?_;refine A9.u (aj ah) ?_;rintro v af ⟨u,M,rfl,rfl⟩;have bb:=M.nA;have ba:=M.nC;have a9:=M.nB;have a1:u.a<=1000000000:=Y;have bh:=z.h;have ai:=Yz y f o p r {j with a:=j.a+1} 0 0 (-1) Z ⟨by show j.a+1<=1000;omega,z.b⟩ z.d;obtain⟨N,S⟩:∃N,12*({j with a:=j.a+1}:Co).a+(1+({j with a:=j.a+1}:Co).d)*(4*f.d+96)+12*f.i=N:=⟨_,A⟩;have bi:12*(j.a+1)<=N:=by rw[<-S];show 12*(j.a+1)<=12*(j.a+1)+_+_;omega
 rw[S] at ai;clear S;have bk:=B7 ((u.a:F)-q.2-j.b<=(N:F));have a2:=T7 y o p r f L {j with a:=j.a+1} (l.al n x (U 128 m)) u q Q.nC Y Y z.f z.c;refine J ?_;refine A9.b (ak ah) ?_;refine J ?_;refine F'.mk ((j.a+1:B):F) Y2 (J ?_);refine A9.b (X8 p o f (l.al n x (U 128 m)) u q) ?_;refine J ?_;refine A9.b (XF p o f (l.al n x (U 128 m)) u q) ?_;refine J ?_;refine A9.b (P_ p o f (l.al n x (U 128 m)) u q a1) ?_;refine J ?_;refine F'.mk ((u.a:F)-q.2-j.b) (A3 Y) ?_;refine J ?_;refine A9.b (ai) (J ?_);refine A9.b (a2) (J ?_);exact⟨DY y f o p r {j with a:=j.a+1,c:=1} (l.al n x (U 128 m)) u q,AQ.b,A,u,M,A⟩
def Dk(c:A6)(l arg:B)(m:Gp)(a j:Ag):Prop:=(∀o n q f,f.b+10<=500000000->J3 c o n q l arg m a j f (f.g · 2))/\∀p,Lt c p l arg m a j
def J3.b{c:A6}{n m:B}{q:F×F}{o arg:B}{p:Gp}{a l:Ag}{f:Aj}(t:J3 c n m q o arg p a l f (λj=>j=f)):J3 c n m q o arg p a l f (f.g · 2):=
 A9.z t λv z y=>by
  obtain⟨j,r,rfl,u,x⟩:=y;exact⟨j,r,(Aj.g.nI j).nF Y,u,x⟩
def I0{f:B4}{a arg j:B}(o:B5 f.a a (f.b arg)=((j:F),R))(l:a≠0)(m:a≠3)(n:a≠7):f.e a arg=(R,R,f.c j):=by
 unfold B4.e;rw[o];simp[l,m,n]
def gY{a:B4}{arg f:B}(j:B5 a.a ((7:B):F) (a.b arg)=((f:F),R)):a.e 7 arg=(a.b arg,R,a.c f):=by
 unfold B4.e;rw[j];simp
def gW{a:B4}{arg f:B}(j:B5 a.a ((0:B):F) (a.b arg)=((f:F),R)):a.e 0 arg=(I,R,a.c f):=by
 unfold B4.e;rw[j];simp
def gX{a:B4}{arg f:B}(j:B5 a.a ((3:B):F) (a.b arg)=((f:F),R)):a.e 3 arg=(R,R,⟨(a.c f).a,arg/65536,(a.c f).f⟩):=by
 unfold B4.e;rw[j];simp
def MU{a:B4}:a.c a.a=a:=by
 unfold B4.c;rw[A8 A]
section
variable{c:A6}{a:Ag}
def bA(p:a.b.a=0):Dk c 1 0 (.t I 2164228224) a {a with b:=a.b.c 1,t:=0,w:=[]}:=by
 have f:B5 a.b.a ((1:B):F) (a.b.b 0)=(((1:B):F),R):=by rw[p];cases a.b.b 0<;>decide
 have j:=I0 f Z Z Z;exact⟨λn m q l _=>(J3.d (kF n m c a l q 0 1 (a.b.c 1) Z Y (by show 1<16;decide) (by show 1≠6;decide) f j)).b,λo=>.a (mH o c a 0 1 (a.b.c 1) Z (by show 1<16;decide) (by show 1≠6;decide) f j)⟩
def Ux:∀a∈Ep,a<256:=Z
def bC(q:a.b.a=1)(arg:B)(j:arg<4294967296):Dk c 2 arg (.u Ep) a {a with b:=a.b.c 2,t:=0,w:=[]}:=by
 have f:B5 a.b.a ((2:B):F) (a.b.b arg)=(((2:B):F),R):=by rw[q];cases a.b.b arg<;>decide
 have l:=I0 f Z Z Z;exact⟨λo n r m _=>(J3.e A Ux (kK o n c a m r arg 2 (a.b.c 2) j Y (by show 2<16;decide) (by show 2≠6;decide) f l)).b,λp=>.b A Ux (mM p c a arg 2 (a.b.c 2) j (by show 2<16;decide) (by show 2≠6;decide) f l)⟩
def bH(q:a.b.a=2)(arg:B)(j:arg<4294967296):Dk c 3 arg (.t I (B0 3 a.v)) a {a with b:=⟨3,arg/65536,(a.b.c 3).f⟩,v:=0,t:=0,w:=[]}:=by
 have f:B5 a.b.a ((3:B):F) (a.b.b arg)=(((3:B):F),R):=by rw[q];cases a.b.b arg<;>decide
 have l:=gX f;exact⟨λo n r m _=>(J3.d (X7 o n c a m r 3 arg 3 ⟨(a.b.c 3).a,arg/65536,(a.b.c 3).f⟩ (AT A) j Y (by show 3<16;decide) (by show 3≠6;decide) f l)).b,λp=>.a (Xk p c a 3 arg 3 ⟨(a.b.c 3).a,arg/65536,(a.b.c 3).f⟩ (AT A) j (by show 3<16;decide) (by show 3≠6;decide) f l)⟩
def bI(r:a.b.a=3)(arg:B)(l:arg<4294967296)(m:a.b.b arg=R):Dk c 7 arg (.t I (B0 4 a.v)) a {a with b:=a.b.c 4,v:=0,t:=0,w:=[]}:=by
 have j:B5 a.b.a ((7:B):F) (a.b.b arg)=(((4:B):F),R):=by rw[r,m];decide
 have f:=gY j;rw[m] at f;exact⟨λp o u n _=>(J3.d (X7 p o c a n u 7 arg 4 (a.b.c 4) (Ae (AT A)) l Y (by show 4<16;decide) (by show 4≠6;decide) j f)).b,λq=>.a (Xk q c a 7 arg 4 (a.b.c 4) (Ae (AT A)) l (by show 4<16;decide) (by show 4≠6;decide) j f)⟩
def US(f:a.b.a=4\/a.b.a=3\/a.b.a=0)(arg:B)(l:arg<4294967296):Dk c 0 arg (.t R 0) a {a with b:=a.b.c 0,t:=0,w:=[]}:=by
 have j:B5 a.b.a ((0:B):F) (a.b.b arg)=(((0:B):F),R):=by rcases f with f|f|f<;>(rw[f];cases a.b.b arg<;>decide)
 have m:=gW j;exact⟨λp o r n _=>(J3.d (kO p o c a n r 0 arg 0 (a.b.c 0) (AT A) l Y (by show 0<16;decide) (by show 0≠6;decide) j m)).b,λq=>.a (mP q c a 0 arg 0 (a.b.c 0) (AT A) l (by show 0<16;decide) (by show 0≠6;decide) j m)⟩
def OZ(G:c.e)(p:a.b.a=4)(N:a.j.length=64)(f:B)(L:f<8)(M:0<c.j f):Dk c 6 (C7 0 f) (.t I (B0 4 a.v)) a {a with v:=0,t:=0,w:=[],j:=a.j.set 0 f}:=by
 have z:C7 0 f<4294967296:=by unfold C7;omega
 have r:B5 a.b.a ((6:B):F) (a.b.b (C7 0 f))=(((4:B):F),R):=by rw[p];cases a.b.b (C7 0 f)<;>decide
 have q:=I0 r Z Z Z;have P:a.b.c 4=a.b:=by rw[<-p];exact MU
 rw[P] at q;have x:=λn m u l=>kM n m c G a l u f 4 a.b L M z Y Y Y r q N;have y:=λo=>mN o c G a f 4 a.b L M z Y Y r q;have Q:({a with b:=a.b,v:=0,t:=0,w:=[],j:=a.j.set 0 f}:Ag)={a with v:=0,t:=0,w:=[],j:=a.j.set 0 f}:=A;rw[p] at x y;exact⟨λn m u l _=>(J3.d (x n m u l)).b,λo=>.a (y o)⟩
def bD(n:a.b.a=4)(arg:B)(x:arg<4294967296)(G:1<=arg%65536/\arg%65536<=64):Dk c 23 arg (.t I (B0 4 a.v)) a {a with v:=0,t:=arg%65536,y:=arg/2147483648==1,z:=arg/1073741824%2==1,w:=[]}:=by
 have p:B5 a.b.a ((23:B):F) (a.b.b arg)=(((4:B):F),R):=by rw[n];cases a.b.b arg<;>decide
 have o:=I0 p Z Z Z;have L:a.b.c 4=a.b:=by rw[<-n];exact MU
 rw[L] at o;have r:=λl j q f=>kG l j c a f q arg 4 a.b G x Y Y Y p o;have u:=λm=>mI m c a arg 4 a.b G x Y Y p o;rw[n] at r u;exact⟨λl j q f _=>(J3.d (r l j q f)).b,λm=>.a (u m)⟩
def UT(Q:c.e)(L:a.b.a=4)(j f:B)(af:a.j.getD 0 0=j)(ah:j<8)(ag:j≠3)(aa:f<c.j j)(l:∀ap∈a.u (c.g j+f),ap<256):Dk c 17 f (.y (B0 4 a.v) (a.u (c.g j+f))) a {a with v:=0,t:=0,y:=I,z:=I,w:=[]}:=by
 have W:f<4294967296:=by have:=A6.w Q j;omega
 have P:B5 a.b.a ((17:B):F) (a.b.b f)=(((4:B):F),R):=by rw[L];cases a.b.b f<;>decide
 have N:=I0 P Z Z Z;have ao:a.b.c 4=a.b:=by rw[<-L];exact MU
 rw[ao] at N;have U:=λx u S n M=>X6 x u c Q a n S f 4 j a.b af ah ag aa M W Y Y Y P N;have V:=λG=>mG G c Q a f 4 j a.b af ah ag aa W Y Y P N;rw[L] at U V;refine⟨λx u S n M=>?_,λG=>?_⟩
 ·refine A9.aa (A9.z (U x u S n M) λv aj l=>?_);obtain⟨r,p,o,q,al,ai,an,am,m,rfl,rfl⟩:=l;exact⟨_,VI _ _ _,ai,_,an,⟨r,p,o,q,128,al,_,⟨am,m,l⟩,A,A⟩,A⟩
 ·refine A9.aa (A9.z (V G) λv aj l=>?_);obtain⟨r,p,o,q,ak,aq,m,rfl,rfl⟩:=l;exact⟨_,VI _ _ _,_,⟨r,p,o,q,ak,_,_,⟨by rw[CJ,C_ (by simp[m])],m,l⟩,A,A⟩,A⟩
def bE(m:c.e)(N:a.b.a=4)(j f:B)(q:a.j.getD 0 0=j)(u:j<8)(r:j≠3)(o:f+1<=c.j j):Dk c 24 f (.t I (B0 6 a.v)) a {a with b:=⟨6,a.b.d,1⟩,v:=0,t:=0,y:=I,z:=I,aa:=j,ad:=I,w:=BN f 1}:=by
 have n:f<4294967296:=by have:=A6.w m j;omega
 have l:B5 a.b.a ((24:B):F) (a.b.b f)=(((6:B):F),R):=by rw[N];cases a.b.b f<;>decide
 have p:=I0 l Z Z Z;exact⟨λL G P x _=>(J3.d (kH L G c m a x P f 6 j (a.b.c 6) q u r o n Y (by show 6<16;decide) A l p)).b,λM=>.a (mJ M c m a f 6 j (a.b.c 6) q u r o n (by show 6<16;decide) A l p)⟩
def bF(m:c.e)(P:a.b.a=4)(j f:B)(r:a.j.getD 0 0=j)(x:j<8)(u:j≠3)(o:a.t=0)(p:f+1<=c.j j):Dk c 25 f (.t I (B0 6 a.v)) a {a with b:=⟨6,a.b.d,1⟩,v:=0,t:=0,y:=I,z:=I,aa:=j,ad:=I,w:=BN f 1}:=by
 have n:f<4294967296:=by have:=A6.w m j;omega
 have l:B5 a.b.a ((25:B):F) (a.b.b f)=(((6:B):F),R):=by rw[P];cases a.b.b f<;>decide
 have q:=I0 l Z Z Z;exact⟨λM L Q G _=>(J3.d (kI M L c m a G Q f 6 j (a.b.c 6) r x u o p n Y (by show 6<16;decide) A l q)).b,λN=>.a (mK N c m a f 6 j (a.b.c 6) r x u o p n (by show 6<16;decide) A l q)⟩
def bG(m:c.e)(S:a.b.a=4)(j f:B)(x:a.j.getD 0 0=j)(L:j<8)(G:j≠3)(o:0<a.t)(p:a.t<=64)(u:a.z=I)(q:f+a.t<=c.j j):Dk c 25 f (.t I (B0 6 a.v)) a {a with b:=⟨6,a.b.d,a.t⟩,v:=0,t:=0,y:=a.y,z:=I,aa:=j,ad:=a.y,w:=BN f a.t}:=by
 have n:f<4294967296:=by have:=A6.w m j;omega
 have l:B5 a.b.a ((25:B):F) (a.b.b f)=(((6:B):F),R):=by rw[S];cases a.b.b f<;>decide
 have r:=I0 l Z Z Z;exact⟨λP N U M _=>(J3.d (kJ P N c m a M U f 6 j (a.b.c 6) x L G o p u q n Y (by show 6<16;decide) A l r)).b,λQ=>.a (mL Q c m a f 6 j (a.b.c 6) x L G o p u q n (by show 6<16;decide) A l r)⟩
end
structure J2(l j:Ag):Prop where
 a:j.b=l.b
 c:j.u=l.u
 d:j.aa=l.aa
 e:j.ad=l.ad
 b:∃m,m<8/\j.j=l.j.set 0 m
 f:j.w=[]\/j.w=l.w
def J2.i(a:ye.j.getD 0 0<8)(f:ye.j.length=64):J2 ye ye:=by
 refine⟨A,A,A,A,⟨ye.j.getD 0 0,a,?_⟩,Ae A⟩;rw[AY,Aw Y];exact(AE8 Y).symm
abbrev Ag.aj(b:Ag)(a:B):Ag:={b with v:=0,t:=0,w:=[],j:=b.j.set 0 a}
abbrev Ag.ai(b:Ag):Ag:={b with v:=0,t:=0,y:=I,z:=I,w:=[]}
def J2.j{f b:Ag}(a:J2 f b)(m:l<8):J2 f (b.aj l):=by
 obtain⟨n,_,j⟩:=a.b;exact⟨a.a,a.c,a.d,a.e,⟨l,m,by show b.j.set 0 l=_;rw[j,Hl]⟩,AT A⟩
def J2.h{f b:Ag}(a:J2 f b):J2 f b.ai:=⟨a.a,a.c,a.d,a.e,a.b,AT A⟩
def J2.g{m b:Ag}(f:J2 m b)(a:m.ae xp):b.ae xp:=by
 obtain⟨r,p,j⟩:=f.b;have o:=a.nB;refine⟨?_,by rw[f.a];exact a.nG,by rw[f.a];exact a.nF,by rw[j,B_];exact o,?_,?_,λq n=>by rw[f.c];exact a.nD q n⟩
 ·rcases f.f with l|l
  ·rw[l];exact Af _
  ·rw[l];exact a.nA
 ·rw[j,K.cz Y,A1 Z];exact a.nC
 ·rw[j,K.cz Y,A8 A];exact p
abbrev Ag.aq(a:Ag):Ag:=a.ai
def Wu(a:l<8):bits BinOp.or H 50331648 ((l*256:B):F)=((C7 0 l:B):F):=by
 match l,a with
 |0,_=>rfl
 |1,_=>rfl
 |2,_=>rfl
 |3,_=>rfl
 |4,_=>rfl
 |5,_=>rfl
 |6,_=>rfl
 |7,_=>rfl
def jV(a:l<8):bits BinOp.or Ax 50331648 ((l*256:B):F)=((C7 0 l:B):F):=by
 match l,a with
 |0,_=>rfl
 |1,_=>rfl
 |2,_=>rfl
 |3,_=>rfl
 |4,_=>rfl
 |5,_=>rfl
 |6,_=>rfl
 |7,_=>rfl
def iB{a b:Ag}(l:J2 a b)(m:b.y=I/\b.z=I)(af:a.j.length=64):b.aj (a.j.getD 0 0)=a.aq:=by
 obtain⟨ag,_,p⟩:=l.b;have j:b.j.set 0 (a.j.getD 0 0)=a.j:=by
  rw[p,Hl,AY,Aw Y];exact AE8 Y
 obtain⟨n,v,f,o,_,_⟩:=l;obtain⟨Q,V,Z,N,U,S,M,W,P,aa⟩:=b;obtain⟨y,arg,G,u,B,z,t,F,x,L⟩:=a;dsimp only at n v f o m j;obtain⟨q,r⟩:=m;subst n v f o q r;show Ag.mk _ _ _ _ _ _ _ _ _ _=Ag.mk _ _ _ _ _ _ _ _ _ _;rw[j]
def ACt(p l n o:B)(a:A6)(am:a.e)(y:Co)(x:Ag)(Q:Aj)(q:F×F)(aq:x.ae a)(a2:x.b.a=4)(bd:0<a.j (x.j.getD 0 0))(cy:Q.b+10000<=500000000):
 Z9 12 [A5 p] (DY p a l n o y x Q q) λv b1=>v=X R/\∃z,Q.g z 5000/\b1=DY p a l n o y x.aq z q:=by
 refine A9.w (a:=.u (Bb a o x)::[Bd p a l n o y,.u (As a n l x Q q)]) AQ.b (A9.ae λ⟨W,ai⟩=>A9.aa ?_);have cz:((x.b.a:F)!=4)=I:=by rw[a2];rfl
 have az:=aq.nE;obtain⟨S,ax⟩:∃S,x.j.getD 0 0=S:=⟨_,A⟩;rw[ax] at az bd;have bb:=Pd W.h.d 0 x.j Z ai.nA;rw[ax] at bb;refine A9.y ?_;refine J ?_;refine A9.u (k4 n l a x Q q) ?_;rintro v a1 ⟨_,rfl⟩;refine J ?_;refine A9.b (bb) (J ?_);refine F'.mk (S:F) (Dh Y) (J ?_);refine EY.f (m:=B×Ag×Aj×Cs) (λr=>8-r.1) (λr=>r.1<=8/\J2 x r.2.1/\(1<=r.1->r.2.1.y=I/\r.2.1.z=I)/\Q.g r.2.2.1 (600*r.1)/\r.2.2.2.w a r.2.1) (λr=>[(0,A5 p),(3,D Ax S),(4,N (r.1:B))]) (λr=>r.2.2.2.i o a r.2.1++[Bd p a l n o y,.u (As a n l r.2.1 r.2.2.1 q)]) (0,x,Q,W) ⟨Af _,J2.i (by rw[ax];exact az) aq.nB,λaj=>CV aj (by show¬1<=0;decide),Aj.g.nI Q,ai⟩ ⟨A,A,A,AA⟩ AQ.b ?_;rintro⟨f,b,z,W⟩ ⟨b7,ah,ar,al,ai⟩ a0;dsimp only at b7 ah ar al ai a0⊢;have a4:=ah.g aq;have a3:b.b.a=4:=by rw[ah.a];exact a2
 refine EY.b ?_;by_cases aj:f<8
 ·have cg:=B7 ((f:F)<8);have aw:=JS a am W.h.c f aj;have cc:=A6.w am f;obtain⟨L,au⟩:∃L,a.j f=L:=⟨_,A⟩;rw[au] at aw cc;have skip:(f=3\/L=0)->1<=f:=λP=>by
   rcases P with P|P
   ·omega
   ·obtain⟨U,V,cr,a2,cs,ct,cu,cv,cw,cq⟩:=am
    match f with
    |0=>rw[<-au] at P;exact CV P (by show a.b≠0;omega)
    |f+1=>omega
  have br:(f=3\/L=0)->f+1<=8/\J2 x b/\(1<=f+1->b.y=I/\b.z=I)/\Q.g z (600*(f+1))/\W.w a b:=λP=>⟨Y,ah,λ_=>ar (skip P),al.nF Y,ai⟩;by_cases P:f=3
  ·have ch:((f:F)==3)=R:=by rw[P];rfl
   refine J ?_;refine A9.b (aw) (J ?_);exact F'.mk ((f+1:B):F) Y2 (a0 (f+1,b,z,W) (br (AT P)) Y6 ⟨A,A,A,AA⟩ AQ.b)
  have ch:((f:F)==3)=I:=Y9;by_cases bu:L=0
  ·have ci:((L:F)==0)=R:=by rw[bu];rfl
   refine J ?_;refine A9.b (aw) (J ?_);exact F'.mk ((f+1:B):F) Y2 (a0 (f+1,b,z,W) (br (Ae bu)) Y6 ⟨A,A,A,AA⟩ AQ.b)
  have ci:((L:F)==0)=I:=Y9;refine J ?_;refine A9.b (aw) (J ?_);refine Mt.mk Z (F'.mk ((f*256:B):F) (by show IntKind.i64.wrap ((f:F)*256)=_;rw[A3 Y];omega) ?_);refine J ?_;refine F'.mk _ (Wu aj) (J ?_);refine F'.mk ((C7 0 f:B):F) (Dh (by unfold C7;omega)) (J ?_);have b4:=al.nA;have ak:=OZ (a:=b) am a3 a4.nB f aj (by rw[au];omega);refine A9.w (a:=Bd p a l n o y::.u (As a n l b z q)::.u (Bb a o b)::[]) ((AQ.ab (a:=W.i o a b++[Bd p a l n o y,.u (As a n l b z q)]) Y0).t ((KC ai _).t AQ.b)) (A9.u (Px p a l n o y 6 (C7 0 f) _ b _ z q _ (ak.1 n l q z Y) (ak.2 o)) ?_);rintro v a1 ⟨bs,bt,an,af,ag,ap,U,V,rfl,rfl⟩;obtain⟨bl,bn,bj,bf,bv,bp,bh,a8,rfl⟩:=U.a;obtain⟨bm,bo,bk,bg,bx,bq,bi,a9,rfl⟩:=V.a;refine J ?_;intro cn;refine J ?_;intro co;refine J ?_;refine A9.w (a:=.u (Bb a o (b.aj f))::[.u (A2 af),.u (A2 ag),Bd p a l n o y,.u (As a n l (b.aj f) an q)]) AQ.b (A9.ae λ⟨cd,ca⟩=>?_);dsimp only;refine A9.b (MP _ _ _ af ag U V) (J ?_);have b9:=ah.j aj;have b3:=(al.nG ap);have b5:(b.aj f).j.getD 0 0=f:=by
   show(b.j.set 0 f).getD 0 0=f;rw[K.cz (by rw[a4.nB];decide),A8 A]
  refine EY.f (m:=B×Ag×Aj×Cs) (λu=>L-u.1) (λu=>u.1<=L/\(u.1=0/\u.2.1=b.aj f\/1<=u.1/\u.2.1=(b.aj f).ai)/\Q.g u.2.2.1 (600*f+2+2*u.1)/\u.2.2.2.w a u.2.1) (λu=>[(0,A5 p),(3,D Ax S),(4,N (f:B)),(5,N (L:B)),(8,N (u.1:B))]) (λu=>u.2.2.2.i o a u.2.1++[Bd p a l n o y,.u (As a n l u.2.1 u.2.2.1 q)]) (0,b.aj f,an,cd) ⟨Af _,AT ⟨A,A⟩,b3,ca⟩ ⟨A,A,A,A,A,AA⟩ AQ.b ?_;rintro⟨G,M,ao,m⟩ ⟨b6,aa,av,a5⟩ be;dsimp only at b6 aa av a5 be⊢;have cx:=av.nA;have ay:M.b=b.b/\M.j.getD 0 0=f/\M.u=x.u/\M.ai=(b.aj f).ai:=by
   rcases aa with⟨_,aa⟩|⟨_,aa⟩<;>(rw[aa];exact⟨A,b5,ah.c,A⟩)
  refine EY.b ?_;by_cases a6:G<L
  ·have cj:=B7 ((G:F)<(L:F));refine J ?_;refine F'.mk ((G:B):F) (Dh Y) (J ?_);have b8:a.g f+G<a.a:=A6.aa (by rw[au];exact a6);have ba:=UT (a:=M) am (by rw[ay.1];exact a3) f G ay.2.1 aj P (by rw[au];exact a6) (by rw[ay.2.2.1];exact(aq.nD _ b8).2);refine A9.w (a:=Bd p a l n o y::.u (As a n l M ao q)::.u (Bb a o M)::[]) ((AQ.ab (a:=m.i o a M++[Bd p a l n o y,.u (As a n l M ao q)]) Y0).t ((KC a5 _).t AQ.b)) (A9.u (Px p a l n o y 17 G _ M _ ao q _ (ba.1 n l q ao Y) (ba.2 o)) ?_);rintro v a1 ⟨bs,bt,a7,af,ag,ap,U,V,rfl,rfl⟩;obtain⟨bl,bn,bj,bf,bv,bp,bh,a8,rfl⟩:=U.a;obtain⟨bm,bo,bk,bg,bx,bq,bi,a9,rfl⟩:=V.a;refine J ?_;intro cp;refine J ?_;intro ck;refine J ?_;refine F'.mk ((G:B):F) (Dh Y) (J ?_);refine A9.w (a:=.u (Bb a o M.ai)::[.u (A2 af),.u (A2 ag),Bd p a l n o y,.u (As a n l M.ai a7 q)]) AQ.b (A9.ae λ⟨ce,cb⟩=>?_);dsimp only;refine A9.b (ZF p 17 Z (D Ax G) (N f) _ _ _ af ag U V) (J ?_);refine F'.mk ((G+1:B):F) Y2 (be (G+1,M.ai,a7,ce) ⟨a6,Ae ⟨by show 1<=G+1;omega,ay.2.2.2⟩,(av.nG ap).nF (by show _<=600*f+2+2*(G+1);omega),cb⟩ Y6 ⟨A,A,A,A,A,AA⟩ AQ.b)
  ·have cj:=Aa ((G:F)<(L:F));obtain rfl:G=L:=Y;obtain⟨_,rfl⟩|⟨_,aa⟩:=aa
   ·omega
   subst aa;refine J ?_;refine F'.mk ((f+1:B):F) Y2 (a0 (f+1,(b.aj f).ai,ao,m) ⟨by show f+1<=8;omega,b9.h,λ_=>⟨A,A⟩,av.nF (by show _<=600*(f+1);omega),a5⟩ Y6 ⟨A,A,A,AA⟩ AQ.b)
 ·have cg:=Aa ((f:F)<8);obtain rfl:f=8:=Y;have ar:=ar Z;have b4:=al.nA;have bc:=iB ah ar aq.nB;rw[ax] at bc;have ak:=OZ (a:=b) am a3 a4.nB S az bd;have b2:({b with v:=0,t:=0,w:=[],j:=b.j.set 0 S}:Ag)=x.aq:=bc;rw[b2] at ak;refine J ?_;refine Mt.mk Z (F'.mk ((S*256:B):F) (by show IntKind.u32.wrap ((S:F)*256)=_;rw[Dh Y];omega) ?_);refine J ?_;refine F'.mk _ (jV az) (J ?_);refine A9.w (a:=Bd p a l n o y::.u (As a n l b z q)::.u (Bb a o b)::[]) ((AQ.ab (a:=W.i o a b++[Bd p a l n o y,.u (As a n l b z q)]) Y0).t ((KC ai _).t AQ.b)) (A9.u (Px p a l n o y 6 (C7 0 S) _ b _ z q _ (ak.1 n l q z Y) (ak.2 o)) ?_);rintro v a1 ⟨bs,bt,an,af,ag,ap,U,V,rfl,rfl⟩;obtain⟨bl,bn,bj,bf,bv,bp,bh,a8,rfl⟩:=U.a;obtain⟨bm,bo,bk,bg,bx,bq,bi,a9,rfl⟩:=V.a;refine J ?_;intro cl;refine J ?_;intro cm;refine J ?_;refine A9.b (MP _ _ _ af ag U V) (J ?_);exact⟨DY p a l n o y x.aq an q,AQ.b,A,an,(al.nG ap).nF Z,A⟩
abbrev Ag.am(a:Ag):Ag:={a with b:=⟨1,a.b.d,0⟩,t:=0,w:=[]}
abbrev Ag.an(a:Ag):Ag:={a with b:=⟨2,a.b.d,0⟩,t:=0,w:=[]}
abbrev Ag.ao(a:Ag):Ag:={a with b:=⟨3,0,0⟩,v:=0,t:=0,w:=[]}
abbrev Ag.ab(a:Ag):Ag:={a with b:=⟨4,0,0⟩,v:=0,t:=0,w:=[]}
def Sd(a:ye.b.a=0):Dk xp 1 0 (.t I 2164228224) ye ye.am:=by
 have:=bA (c:=xp) a;have f:ye.b.c 1=⟨1,ye.b.d,0⟩:=by unfold B4.c;rw[a];rfl
 rw[f] at this;exact this
def Se:Dk xp 2 0 (.u Ep) ye.am ye.an:=bC (c:=xp) (a:=ye.am) A 0 Z
def Sf:Dk xp 3 0 (.t I (B0 3 ye.v)) ye.an ye.ao:=bH (c:=xp) (a:=ye.an) A 0 Z
def Sg:Dk xp 7 0 (.t I (B0 4 0)) ye.ao ye.ab:=bI (c:=xp) (a:=ye.ao) A 0 Z A
abbrev KI(o:B)(a:A6)(f j l:B)(q:Co)(n b:Ag)(m:Aj)(p:F×F):S:=[Bd o a f j l q,.u (As a j f n m p),.u (Bb a l b)]
def MY(u:B)(a:A6)(n o p:B)(V:Co)(x arg:B)(q:Gp)(M P b Q:Ag)(G:Aj)(t:F×F)(L:Aj->Prop)(Z:J3 a o n t x arg q M P G L)(aa:Lt a p x arg q b Q):
 Z9 34 [A5 u,N x,D Ax arg,X R] [Bd u a n o p V,.u (As a o n M G t),.u (Bb a p b)] λv m=>∃y z f j l,L f/\F_ q y j/\F_ q z l/\v=AL #[y,z]/\m=[Bd u a n o p V,.u (As a o n P f t),.u (A2 j),.u (Bb a p Q),.u (A2 l)]:=by
 have Y:=Yy u a n o p V x arg R (As a o n M G t) (Bb a p b) (λv m=>∃f j,L f/\F_ q v j/\m=[.u (As a o n P f t),.u (A2 j)]) (λv m=>∃l,F_ q v l/\m=[.u (Bb a p Q),.u (A2 l)])
  (A9.z Z λv m U=>by
   obtain⟨f,j,W,r,S⟩:=U;exact⟨r.a,f,j,W,r,S⟩)
  (A9.z aa λv m U=>by
   obtain⟨l,r,S⟩:=U;exact⟨r.a,l,r,S⟩)
 refine A9.z Y ?_;rintro v m ⟨y,z,ai,aj,_,_,⟨f,j,af,ag,rfl⟩,⟨l,ah,rfl⟩,rfl,rfl⟩;exact⟨y,z,f,j,l,af,ag,ah,A,A⟩
def ZE(o j l m:B)(a:A6)(p:Co)(f b:Ag)(x:Aj)(n:F×F)(a2:f.b.a=0)(a3:b.b.a=0)(bb:b.v=f.v)(bc:x.b+100<=500000000):
 Z9 16 [A5 o] (KI o a j l m p f b x n) λv a1=>v=X R/\∃av,x.g av 8/\a1=KI o a j l m p f.ab b.ab av n:=by
 have a4:=Sd (xp:=a) a2;have a8:=Sd (xp:=a) a3;have a5:=Se (xp:=a) (ye:=f);have a9:=Se (xp:=a) (ye:=b);have a6:=Sf (xp:=a) (ye:=f);have aw:=Sf (xp:=a) (ye:=b);rw[bb] at aw;have a7:=Sg (xp:=a) (ye:=f);have ba:=Sg (xp:=a) (ye:=b);refine A9.t (J ?_);intro y;refine J ?_;refine EY.b (A7 ?_);refine A9.w (a:=KI o a j l m p f b x n++[BL.t y [N 1,N 2,N 3,N 7] 3]) (AQ.u ((DZ Y3).trans (Cj (l₁:=[BL.t y [N 1,N 2,N 3,N 7] 3])))) (A9.u (MY o a j l m p 1 0 _ f _ b _ x n _ (a4.1 l j n x Y) (a8.2 m)) ?_);rintro v P ⟨ap,aq,z,q,r,ax,t,u,rfl,rfl⟩;have bd:=ax.nA;obtain⟨aj,al,ah,W,ar,an,af,Q,rfl⟩:=t.a;obtain⟨ak,am,ai,aa,au,ao,ag,S,rfl⟩:=u.a;refine J ?_;intro U;refine J ?_;intro V;refine J ?_;refine A9.w (a:=[.u (A2 q),.u (A2 r)]++(KI o a j l m p f.am b.am z n++[BL.t y [N 1,N 2,N 3,N 7] 3])) AQ.b (A9.b (MP _ _ _ q r t u) (J ?_));refine F'.mk 1 A (EY.b (A7 ?_));refine A9.u (MY o a j l m p 2 0 _ f.am _ b.am _ z n _ (a5.1 l j n z Y) (a9.2 m)) ?_;rintro v P ⟨ap,aq,G,q,r,ay,t,u,rfl,rfl⟩;have be:=ay.nA;obtain⟨aj,al,ah,W,ar,an,af,Q,rfl⟩:=t.a;obtain⟨ak,am,ai,aa,au,ao,ag,S,rfl⟩:=u.a;refine J ?_;intro U;refine J ?_;intro V;refine J ?_;refine A9.w (a:=[.u (A2 q),.u (A2 r)]++(KI o a j l m p f.an b.an G n++[BL.t y [N 1,N 2,N 3,N 7] 3])) AQ.b (A9.b (MP _ _ _ q r t u) (J ?_));refine F'.mk 2 A (EY.b (A7 ?_));refine A9.u (MY o a j l m p 3 0 _ f.an _ b.an _ G n _ (a6.1 l j n G Y) (aw.2 m)) ?_;rintro v P ⟨ap,aq,L,q,r,az,t,u,rfl,rfl⟩;have bf:=az.nA;obtain⟨aj,al,ah,W,ar,an,af,Q,rfl⟩:=t.a;obtain⟨ak,am,ai,aa,au,ao,ag,S,rfl⟩:=u.a;refine J ?_;intro U;refine J ?_;intro V;refine J ?_;refine A9.w (a:=[.u (A2 q),.u (A2 r)]++(KI o a j l m p f.ao b.ao L n++[BL.t y [N 1,N 2,N 3,N 7] 3])) AQ.b (A9.b (MP _ _ _ q r t u) (J ?_));refine F'.mk 3 A (EY.b (A7 ?_));refine A9.u (MY o a j l m p 7 0 _ f.ao _ b.ao _ L n _ (a7.1 l j n L Y) (ba.2 m)) ?_;rintro v P ⟨ap,aq,M,q,r,a0,t,u,rfl,rfl⟩;have bg:=a0.nA;obtain⟨aj,al,ah,W,ar,an,af,Q,rfl⟩:=t.a;obtain⟨ak,am,ai,aa,au,ao,ag,S,rfl⟩:=u.a;refine J ?_;intro U;refine J ?_;intro V;refine J ?_;refine A9.w (a:=[.u (A2 q),.u (A2 r)]++(KI o a j l m p f.ab b.ab M n++[BL.t y [N 1,N 2,N 3,N 7] 3])) AQ.b (A9.b (MP _ _ _ q r t u) (J ?_));refine F'.mk 4 A (EY.b (J ?_));exact⟨KI o a j l m p f.ab b.ab M n,AQ.b,A,M,(((ax.nG ay).nG az).nG a0).nF Z,A⟩
def ADD(j m n o:B)(l:A6)(q:Co)(a:Ag)(f:Aj)(p:F×F)(t:a.b.a=0)(x:f.b+100<=500000000):
 Z9 16 [A5 j] (DY j l m n o q a f p) λv u=>v=X R/\∃r,f.g r 8/\u=DY j l m n o q a.ab r p:=ZE j m n o l q a a f p t t A x
def Ag.x(v:B->G B):Ag:=⟨⟨0,0,0⟩,U 64 0,0,0,I,I,0,I,[],v⟩
def Us{f:C5}{a:E0}(r:f.d=l)(o:a.a=p)(n:0<=a.d/\a.d<=xy.a)(m:a.e=0):AQ (PB xp l f a xy er) [.u (As xp l p (Ag.x xy.e) xy (a.f,a.d))]:=by
 have q:Fa.h ⟨f,a,BV.v,LP,(xp.b/xp.c:B),[],er,0,0,[]⟩ xp l p (Ag.x xy.e) xy (a.f,a.d):=by
  refine⟨r,o,n,⟨A,A⟩,AT m,A,A,A,A,A,A,A,A,AT ⟨A,A,E,0,A⟩,BI,λt _ _=>A,A⟩
 refine(AQ.aa [] _).t (AQ.t (AQ.b (g:=(Fa.mk f a BV.v LP (xp.b/xp.c:B) [] er 0 0 []).g l xp (Ag.x xy.e) xy)) (AQ.ad (λj:{j:Fa//j.h xp l p (Ag.x xy.e) xy (a.f,a.d)}=>j.1.g l xp (Ag.x xy.e) xy) ⟨_,q⟩ ?_));rw[B1]
def cO{f:C5}{a:E0}(o:f.d=l)(n:a.a=p)(m:0<=a.d/\a.d<=xy.a)(j:a.e=0):AQ (NM xp l f a xy er) [.u (As xp l p (Ag.x xy.e) xy (a.f,a.d))]:=by
 refine AQ.t ?_ (Us (er:=er) o n m j);refine((AQ.u (GS.t (f:=[BG f.b xp I]) Y0)).t (AQ.ad (λb:AE=>[BG f.b xp b]) I (Bi _))).t AQ.b
def mY{a:C4}(j:er.length=90)(m:er.all B'=R):AQ (AO l xp a Bu.w::Aq a.a ⟨0,0,0⟩::B8 a.d (U 64 0)::B6 a.c xp::Cv a.g xp er::CY a.e xp.i::.t a.f [Q a.b (xp.b/xp.c) (xp.b/xp.c)] 136::.t a.b (U (xp.b/xp.c) (AD 0)++[]) 3::CS a (U xp.a A0)::De xp a::Dc xp a::Dd xp a::[]) [.u (Bb xp l (Ag.x λ_=>U 128 0))]:=by
 have n:Cs.w ⟨a,Bu.w,er,(xp.b/xp.c:B),[],U xp.a A0,[],[],[]⟩ xp (Ag.x λ_=>U 128 0):=by
  refine⟨A,A,A,A,A,A,A,AT ⟨A,A,E,0,A⟩,AT ⟨A,E,0,A⟩,⟨BI,λp o=>AT ⟨?_,A⟩⟩,BI,j,m⟩;rw[HH,A8 o]
 refine(AQ.aa [] _).t ((AQ.aa [] _).t ((AQ.aa [] _).t ?_));refine AQ.t (AQ.b (g:=(Cs.mk a Bu.w er (xp.b/xp.c:B) [] (U xp.a A0) [] [] []).i l xp (Ag.x λ_=>U 128 0))) (AQ.ad (λf:{f:Cs//f.w xp (Ag.x λ_=>U 128 0)}=>f.1.i l xp (Ag.x λ_=>U 128 0)) ⟨_,n⟩ ?_);rw[B1]
structure aU(l:A6)(f:Co)(j:Aj)(b:F×F):Prop where
 f:f.d=0/\f.b=0/\f.a=0/\f.c=0/\f.e=A0
 c:j.b<=5000
 d:j.c=l.z
 a:j.d=14
 e:j.a<=1000
 b:b.2=j.a
def ACp(a:A6)(q:a.e)(W:1<=a.b/a.c):Z9 15 [DA a] [] λv z=>∃n j l m y f x,aU a y f x/\v=A5 n/\z=DY n a j l m y (Ag.x λ_=>U 128 0) f x:=by
 refine A9.t ?_;intro am;refine J ?_;refine A9.u (cQ a q) ?_;rintro v r ⟨j,rfl,rfl⟩;refine J ?_;refine A9.u (d4 a q j W) ?_;rintro v r ⟨l,ai,p,f,ag,rfl,B,G,L,ak,M,N,al,S,rfl⟩;refine J ?_;refine A9.u (m0 a q) ?_;rintro v r ⟨m,aj,ah,aa,af,_,_,_,_,_,_,_,_,rfl,rfl⟩;refine J ?_;intro t;refine J ?_;intro n;refine J ?_;have o:p.a=j/\p.f=0/\p.d=(f.a:F)/\p.e=0:=by rw[S];exact⟨A,A,A,A⟩
 have u:=cO (xp:=a) (l:=l) (p:=j) (f:=ai) (a:=p) (xy:=f) (er:=ag) N o.1 (by rw[o.2.2.1];exact⟨Y,AEA _⟩) o.2.2.2;rw[o.2.1,o.2.2.1,M] at u;have Z:=mY (xp:=a) (l:=m) (a:=aj) (er:=ah) aa af;refine⟨DY n a j l m ⟨0,Ah (C t),A0,0,0,0⟩ (Ag.x λ_=>U 128 0) f (0,(f.a:F)),?_,n,j,l,m,⟨0,Ah (C t),A0,0,0,0⟩,f,(0,(f.a:F)),⟨⟨A,A,A,A,A⟩,B,G,L,Y,A⟩,A,A⟩;exact(AQ.z _ ((AQ.y _).t ((AQ.ag Z _).t (AQ.z _ (AQ.ag u _))))).t AQ.b
variable{yu:Cf}
def E7.w{o:Al}(x:o.op=.binOp .eql xt yo yu l)(F:Tryz.prog.underlying xt=C (.array p 5))(y:Tryz.prog.eqGuardType Tryz.prog.depth xt=I)
 (G:CR yc yo=C (AV (U p (W 0)).toArray))(L:CR yc yu=C (AV (U p (W 0)).toArray))(r:yr (X R) .t):E7 A4 o yc lg yr:=by
 refine⟨_,_,r,AA,λm Z Y ag a N n af aa=>?_⟩;unfold Bh;rw[x];simp only[n.b G,n.b L];have z:A4.b.eqGuardType A4.b.depth xt=I:=y;have u:∀f j:Array M,(IA .eql xt yo yu (AV f) (AV j)).run A4.b a=Ao () a:=λf j=>by
  simp[IA,Ak,run_program,Bp,z]
 have t:∀f j:Array M,(Kg 10000 xt (AV f) (AV j)).run A4.b a=Ao R a->(ED .eql xt (AV f) (AV j)).run A4.b a=Ao (X R) a:=λf j q=>by
  simp only[ED,Qa,Qc,Ak];rw[q];rfl
 rw[Ak,Ak,u];simp only[Bp];rw[t _ _ (Xz p xt F a)];rfl
def l9(m t:B)(f:A6)(p:Ag)(o:Aj)(y:F×F):AK 99 [A5 m] [.u (As f m t p o y)] (AV EB.toArray):=by
 have u:∀(l:B)(j:C5)(q:BV)(n:G M),AK 192 [A5 l] [A_ l f j q,.t j.i ([N f.s]++(EB++n)) 437] (AV EB.toArray):=λl j q n=>by
  refine A9.t ?_;intro r;refine J ?_;refine A9.b (hY j.i (N f.s) EB n A A 437) ?_;refine J ?_;exact BE
 refine JC λa x=>A9.aa (A9.y ?_);intro r;refine J ?_;refine A9.b (u a.a.c a.b a.c a.u) ?_;refine J ?_;exact⟨_,AQ.b (g:=a.g m f p o),a,x,A,.w _⟩
def Sw(o:B)(a:A6)(y:a.e)(z:1<=a.b/a.c/\a.b/a.c<=256)(m:Ag)(j:Cs)(n:j.w a m)(G:m.w.length<=64):Z9 23 [A5 o] (j.i o a m) λv r=>∃u l x p q,v=A5 u/\r=(AO u a l x::B8 l.d m.j::.t l.f [Q l.b (a.b/a.c) p] 136::.t l.b (U (a.b/a.c) (AD 0)++q) 3::B6 l.c a::Cv l.g a j.x::De a l::Dc a l::Dd a l::CS l j.u::j.i o a m):=by
 have F:=S' o a y j.h j.b m.b m.j j.x (a.b/a.c) j.z a.i E 0 j.aa j.u m.w j.j j.t n.nA n.nC n.nD z n.nB.a n.nB.c n.nK G n.nL;refine A9.aa (A9.w (a:=.u (A2 j.v)::.u (A2 j.j)::.u (A2 j.t)::AO o a j.h j.b::Eb a j.h m.b m.j j.x (a.b/a.c) j.z a.i E 0 j.aa j.u) AQ.b (A9.ac (j:=[.u (A2 j.v)]) F ?_));rintro v r ⟨t,l,L,M,p,q,Y,Z,N,S,W,rfl,rfl⟩;refine⟨_,AQ.b (g:=AO t a l {j.b with c:=L,f:=M}::B8 l.d m.j::.t l.f [Q l.b (a.b/a.c) p] 136::.t l.b (U (a.b/a.c) (AD 0)++q) 3::B6 l.c a::Cv l.g a j.x::De a l::Dc a l::Dd a l::CS l j.u::j.i o a m),t,l,_,p,q,A,A⟩
def ACs(u m n o:B)(f:A6)(an:f.e)(aa:1<=f.b/f.c/\f.b/f.c<=256)(ah:Co)(l b:Ag)(q:Aj)(y:F×F)(r:Cs)(af:r.w f l)(a2:l.w.length<=64)(ao:G0 l.j=U 64 0)(am:b.j=U 64 0)(a3:f.d*14+1<q.c)(a0:q.d<7000):
 AK 50 [A5 u,A5 o,D Ax 0] (Bd u f m n o ah::.u (As f n m b q y)::r.i o f l) (X R):=by
 refine A9.t (J ?_);refine A9.u (Sw o f an aa l r af a2) ?_;rintro v ai ⟨L,p,aj,M,S,rfl,rfl⟩;refine J ?_;refine A9.u (Pf L f an p aj l.j r.x S (f.b/f.c) M af.nA af.nC aa) ?_;rintro v ai ⟨ax,ay,aw,al,a6,a9,ba,rfl,rfl⟩;refine J ?_;refine A9.u (XJ n m f b q y (by rw[am];rfl) a3 a0) ?_;rintro v ai ⟨⟨ar,x,rfl⟩,rfl⟩;refine J ?_;intro ak;refine J ?_;refine Mw.y (p:=64) (by simp[x.a]) A (Gy _) (J ?_);refine EY.f (m:=B) (λj=>64-j) (λj=>j<=64) (λj=>[(0,A5 u),(2,D Ax 0),(7,A5 L),(8,A5 ak),(9,N (j:B))]) (λ_=>.t ak (ar.map W) 166::AO L f {p with a:=ax,e:=ay,c:=aw,g:=al} aj.t::B8 p.d (G0 l.j)::.t p.f [Q p.b (f.b/f.c) M] 136::.t p.b (U (f.b/f.c) (AD 0)++S) 3::Cv al f a6::Bd u f m n o ah::.u (As f n m b q y)::r.i o f l) 0 (Af _) ⟨A,A,A,A,A,AA⟩ AQ.b ?_;intro j a8 aq;refine EY.b ?_;by_cases z:j<64
 ·have bb:=B7 ((j:F)<64);have ap:∀ag,ag<64->(U 64 0).getD ag 0=0:=λag a1=>by rw[AY,HH,A8 a1];rfl
  have a4:(G0 l.j).getD j 0=0:=by rw[ao];exact ap j z
  have a5:(G0 l.j).length=64:=by rw[ao];rfl
  obtain⟨t,G⟩:∃t,ar.getD j 0=t:=⟨_,A⟩;have az:t=0\/j=32/\t=1:=by
   by_cases au:j=32
   ·subst au;exact Ae ⟨A,by rw[<-G];exact x.c⟩
   by_cases av:j=33
   ·subst av;exact AT (by rw[<-G];exact x.b)
   exact AT (by rw[<-G,x.d j au av,am];exact ap j z)
  refine A7 ?_;refine Ms.mk (v:=W t) ?_ ?_
  ·have:=Jp (er:=[]) z x.a;rwa[B1,G] at this
  refine A7 ?_;refine Ms.mk (v:=W 0) ?_ ?_
  ·have:=Jp (er:=[]) z a5;rwa[B1,a4] at this
  rcases az with rfl|⟨rfl,rfl⟩
  ·refine J ?_;exact F'.mk ((j+1:B):F) Y2 (aq (j+1) z Y ⟨A,A,A,A,A,AA⟩ AQ.b)
  ·refine J ?_;exact F'.mk ((33:B):F) A (aq 33 Z (by show 64-33<64-32;decide) ⟨A,A,A,A,A,AA⟩ AQ.b)
 ·obtain rfl:j=64:=Y;refine J ?_;refine A9.b (l9 n m f b q y) (J ?_);intro a7;refine J ?_;refine E7.w (p:=32) (xt:=137) A ?_ ?_ ?_ ?_ ?_
  ·kernel_rfl
  ·kernel_rfl
  ·rfl
  ·rfl
  refine J ?_;refine A9.b (lU p.f p.b (f.b/f.c) M S aa) (J ?_);exact⟨_,AQ.b (g:=Bd u f m n o ah::.u (As f n m b q y)::r.i o f l),A,A⟩
def ACz(x L M l:B)(f:A6)(o:f.e)(z:1<=f.b/f.c/\f.b/f.c<=256)(aj:Co)(m:Ag)(n:Cs)(u:n.w f m)(ap:m.w.length<=64):
 AK 51 [A5 x,A5 l,A5 l] (Bd x f L M l aj::n.i l f m) (AL #[N 0,N 0,N 0,N 0,X I]):=by
 have a7:=o.nB.2;have a5:=o.nD;refine A9.t (J ?_);refine A9.u (Sw l f o z m n u ap) ?_;rintro v y ⟨S,p,ak,aa,ag,rfl,rfl⟩;refine J ?_;refine A9.u (Sw l f o z m n u ap) ?_;rintro v y ⟨W,q,al,af,ah,rfl,rfl⟩;refine J ?_;refine A9.u (Pf S f o p ak m.j n.x ag (f.b/f.c) aa u.nA u.nC z) ?_;rintro v y ⟨av,ax,Z,aq,bc,a8,a9,rfl,rfl⟩;refine J ?_;refine A9.u (Pf W f o q al m.j n.x ah (f.b/f.c) af u.nA u.nC z) ?_;rintro v y ⟨aw,ay,au,ar,bd,ba,bb,rfl,rfl⟩;refine J ?_;refine EY.f (m:=B) (λj=>f.a-j) (λj=>j<=f.a) (λj=>[(0,A5 x),(1,A5 l),(11,A5 S),(12,A5 W),(13,N (j:B))]) (λj=>AO S f {p with a:=av,e:=ax,c:=Z,g:=aq} ak.t::.t p.f [Q p.b (f.b/f.c) aa] 136::.t p.b (U (f.b/f.c) (AD 0)++ag) 3::B6 Z f::AO W f {q with a:=aw,e:=ay,c:=au,g:=ar} al.t::.t q.f [Q q.b (f.b/f.c) af] 136::.t q.b (U (f.b/f.c) (AD 0)++ah) 3::Bd x f L M l aj::n.i l f m) 0 (Af _) ⟨A,A,A,A,A,AA⟩ AQ.b ?_;intro j a6 ai;refine EY.b ?_;by_cases G:j<f.a
 ·have a1:=B7 ((j:F)<(f.a:B));have az:=Xu f o Z j G;obtain⟨t,ao⟩:∃t,j/f.c=t:=⟨_,A⟩;have a4:t<=1000:=by rw[<-ao];exact D9 (Iv _ _) Y
  refine J ?_;refine A9.u az ?_;rintro v y ⟨r,bf,rfl,rfl⟩;refine A' ?_;refine F'.mk ((t:B):F) (by rw[show((j:B):F).tdiv (f.c:F)=((j/f.c:B):F) from A,ao];exact A3 Y) (J ?_);have am:=X_ p.f p.b (f.b/f.c) aa t ag;have an:=X_ q.f q.b (f.b/f.c) af t ah;have bg:((0:F)!=0)=I:=A;by_cases a0:r=0
  ·have a2:((r:F)==0)=R:=by rw[a0];rfl
   refine J ?_;refine A9.b (am) ?_;refine J ?_;refine A9.b (an) ?_;refine J ?_;exact F'.mk ((j+1:B):F) Y2 (ai (j+1) G Y ⟨A,A,A,A,A,AA⟩ AQ.b)
  ·have a2:((r:F)==0)=I:=Y9;by_cases be:r≥4
   ·have a3:=B7 ((r:F)≥4);refine J ?_;refine A9.b (am) ?_;refine J ?_;refine A9.b (an) ?_;refine J ?_;exact F'.mk ((j+1:B):F) Y2 (ai (j+1) G Y ⟨A,A,A,A,A,AA⟩ AQ.b)
   ·have a3:=Aa ((r:F)≥4);refine J ?_;exact F'.mk ((j+1:B):F) Y2 (ai (j+1) G Y ⟨A,A,A,A,A,AA⟩ AQ.b)
 ·obtain rfl:j=f.a:=Y;have a1:=Aa ((f.a:F)<(f.a:B));refine J ?_;exact⟨_,AQ.b (g:=Bd x f L M l aj::n.i l f m),A,A⟩
def Sj(a:l<p):(U p yb++er)[0+l*1]?=C yb:=by
 rw[show 0+l*1=l by omega,Di Y5,HH,A8 a]
def Gu.d{m n:B->G B}(f:Gu l p er lg m)(o:∀a,a<p->m a=n a):Gu l p er lg n:=
 ⟨f.a,λa j=>by rw[<-o a j];exact f.b a j⟩
def E7.z{o:Al}{f n:AU}{a:CW}(z:o.op=.binOp .neq f yo yu l)(F:Tryz.prog.underlying f=C (.pointer n))(L:(Tryz.prog.info? n).isSome=R)
 (U:CR yc yo=C (T (C a)))(W:CR yc yu=C (T (C a)))(u:yr (X I) .t):E7 A4 o yc lg yr:=by
 refine⟨_,_,u,AA,λm aa Z ah j Y q ag af=>?_⟩;unfold Bh;rw[z];simp only[q.b U,q.b W];have G:A4.b.underlying f=C (.pointer n):=F;obtain⟨r,N⟩:∃r,A4.b.info? n=C r:=AFV.1 L;have y:(IA .neq f yo yu (T (C a)) (T (C a))).run A4.b j=Ao () j:=A;have t:∀p:B,(Kg (p+1) f (T (C a)) (T (C a))).run A4.b j=Ao R j:=λp=>by
  simp[Kg,run_underlying G,sizeOf,typeInfo,N,run_sameAddr_same]
 have x:(ED .neq f (T (C a)) (T (C a))).run A4.b j=Ao (X I) j:=by
  simp only[ED];simp[Qa,Qc,t 9999]
 rw[Ak,Ak,y];simp only[Bp];rw[x];rfl
def ADI(x L P j:B)(a:A6)(a4:a.e)(Q:Co)(m:Ag)(p:Cs)(a3:p.w a m):
 Z9 52 [A5 x,A5 j,A5 j] (Bd x a L P j Q::p.i j a m) λv ar=>∃q n o u t ag,Dv a p.u ag m.u/\Gu a.a a.a u t m.u/\v=A5 q/\ar=Dg q a.a n a.a o a.a A0 A0::.t n (u++[]) 31::Eu o a.a []::.u (A2 t)::Bd x a L P j Q::({p with v:=ag}:Cs).i j a m:=by
 have a5:=a4.nB;obtain⟨aj,a8⟩:∃aj,a.a=aj:=⟨_,A⟩;refine A9.t ?_;refine J ?_;refine A9.u (AB0 a.a ⟨a5.1,Y⟩) ?_;rintro v ai ⟨q,n,o,u,t,z,rfl,rfl⟩;refine J ?_;refine EY.f (m:=B×G M×S×(B->G B)×S) (λl=>a.a-l.1) (λl=>l.1<=a.a/\Gu a.a a.a l.2.1 l.2.2.1 l.2.2.2.1/\(∀r,r<l.1->l.2.2.2.1 r=m.u r)/\Dv a p.u l.2.2.2.2 m.u) (λl=>[(0,A5 x),(1,A5 j),(2,A5 j),(7,A5 q),(9,N (l.1:B))]) (λl=>Dg q a.a n a.a o a.a A0 A0::.t n (l.2.1++[]) 31::Eu o a.a []::.u (A2 l.2.2.1)::Bd x a L P j Q::({p with v:=l.2.2.2.2}:Cs).i j a m) (0,u,t,_,p.v) ⟨Af _,z,λr W=>CV W (Zr r),a3.nB⟩ ⟨A,A,A,A,A,AA⟩ AQ.b ?_;rintro⟨f,u,t,ap,U⟩ ⟨an,z,Z,V⟩ ao;dsimp only at an z Z V ao⊢;refine EY.b ?_;by_cases y:f<a.a
 ·have aa:=B7 ((f:F)<(a.a:B));have a1:=XZ j a p.h p.b p.u U m.u f V y;refine J ?_;refine A9.u a1 ?_;rintro v ai ⟨al,av,ak,ah,aw,ax,ay,az,rfl,rfl⟩;obtain⟨aq,am⟩:=Kp ax;refine A7 ?_;refine Ms.mk (v:=X I) (Sj y) (J ?_);intro a0;refine J ?_;refine A9.w ((AQ.u (GS.t (f:=[.u (A2 ah)]) Y0)).t (am _).1) (A9.u (AAs q a.a n a.a o a.a 0 f al av a0 1 A0 A0 [] ak u [] [] t ap (m.u f) y Y az ay z) ?_);rintro v ai ⟨a7,au,a2,rfl,rfl⟩;refine A7 ?_;refine Ms.mk (v:=X I) (Sj y) (J ?_);refine F'.mk ((f+1:B):F) Y2 (ao (f+1,a7,au,_,ah) ⟨y,a2,λr W=>?_,aw⟩ Y6 ⟨A,A,A,A,A,AA⟩ ?_)
  ·show Cm ap f (m.u f) r=m.u r;unfold Cm;by_cases af:r=f
   ·rw[A8 af,af]
   ·rw[A1 af];exact Z r (by dsimp only at W;omega)
  ·exact(AQ.u (GS.t (f:=[.t al ak 5,.u (A2 aq)]) Y0)).t ((am _).2.t AQ.b)
 ·obtain rfl:f=a.a:=Y;have aa:=Aa ((a.a:F)<(a.a:B));have z:=z.d Z;refine J ?_;refine A9.b (m5 p.h.e a.i) (J ?_);refine EY.b (J ?_);refine A9.b (AAo q a.a n a.a o a.a 0 E A0 A0) (J ?_);refine EY.f (m:=B) (λf=>a.a-f) (λf=>f<=a.a) (λf=>[(0,A5 x),(1,A5 j),(2,A5 j),(7,A5 q),(18,A0),(19,N (f:B))]) (λ_=>Dg q a.a n a.a o a.a A0 A0::.t n (u++[]) 31::Eu o a.a []::.u (A2 t)::Bd x a L P j Q::({p with v:=U}:Cs).i j a m) 0 (Af _) ⟨A,A,A,A,A,A,AA⟩ AQ.b ?_;intro f an a6;refine EY.b ?_;by_cases y:f<a.a
  ·have aa:=B7 ((f:F)<(a.a:B));refine J ?_;refine EY.b (A7 ?_);refine Ms.mk (v:=A0) (Sj y) (J ?_);exact F'.mk ((f+1:B):F) Y2 (a6 (f+1) y Y ⟨A,A,A,A,A,A,AA⟩ AQ.b)
  ·obtain rfl:f=a.a:=Y;have aa:=Aa ((a.a:F)<(a.a:B));refine J ?_;refine E7.z (f:=55) (n:=52) A Y3 Y3 A A (J ?_);refine A9.b (ABB q a.a n a.a o a.a 0 E A0 A0) (J ?_);exact⟨_,AQ.b (g:=Dg q a.a n a.a o a.a A0 A0::.t n (u++[]) 31::Eu o a.a []::.u (A2 t)::Bd x a L P j Q::({p with v:=U}:Cs).i j a m),q,n,o,u,t,U,V,z,A,A⟩
def kP(p j:B)(f:A6)(n:Ag)(a:Aj)(u:F×F):Z9 18 [A5 j] [.u (As f p j n a u)] λv m=>a.e=n.u/\m=[.u (IR f j a R)]:=by
 refine A9.ah λ⟨l,o⟩=>A9.aa ?_;have r:=o.nD;have t:=o.nG;subst r;refine A9.ad (AAr f l.a.b l.a.a a) Y0 (λv m q=>?_);obtain rfl:=q;exact⟨_,AQ.ab (a:=[.u (IR f l.a.a a R)]) Y0,t,A⟩
def kL(gk y:B)(l:A6)(N:l.e)(U:1<=l.b/l.c/\l.b/l.c<=256)(m:Ag)(q:Aj)(L:F×F)(u:m.b.a=4)(aa:m.j.getD 0 0=0):Z9 98 [A5 gk,BY 30 0,X R] [.u (As l gk y m q L)] λv r=>∃p o,v=Ar I A0 (B0 4 m.v) (Q p 1 1)/\r=[.u (As l gk y {m with v:=0,t:=0,w:=[]} q L),E9 p o [],AJ o (Fy [0,0,0,0]) []]:=by
 have G:B5 m.b.a ((30:B):F) (m.b.b 0)=(((4:B):F),R):=by rw[u];cases m.b.b 0<;>decide
 have z:=I0 G Z Z Z;have af:m.b.c 4=m.b:=by rw[<-u];exact MU
 rw[af] at z;refine Gz λj n=>?_;have M:({j.c with b:=-1,c:=-1,a:=0}:BV).t m.b.a={j.c with b:=-1,c:=-1,a:=0,d:=A0,f:=A0,g:=0}:=A1 Y;have W:j.f.getD 0 0=0:=by rw[n.nC 0 Z Z];exact aa
 have S:=I4 gk l j q m {j.c with b:=-1,c:=-1,a:=0} m.b 30 0 4 (λv r=>∃p o,v=Ar I A0 (B0 m.b.a m.v) (Q p 1 1)/\r=A_ j.a.c l j.b {j.c with b:=-1,c:=-1,a:=0,d:=A0,f:=A0,g:=0,e:=0}::Av j.b.a m.b::BH gk l j.a::.u (At l j.a.b j.a.a q)::(j.d l++[E9 p o [],AJ o (Fy [0,0,0,0]) []])) n.nA n.nA Z Y Y Y G z (Jr j.a.c l j.b j.c 30 Y) (by
  rw[M];refine A9.w (AQ.u (GS.t (f:=[.u (Em j.b.b l)]) Y0)) (A9.ae λb=>A9.aa (A9.ad (eB j.a.c l N j.b {j.c with b:=-1,c:=-1,a:=0,d:=A0,f:=A0,g:=0} m.b Y j.f (l.b/l.c) j.s j.t b n.nB W U) Y0 (λv r x=>?_)));obtain⟨p,o,rfl,rfl⟩:=x;refine⟨A_ j.a.c l j.b {j.c with b:=-1,c:=-1,a:=0,d:=A0,f:=A0,g:=0,e:=0}::Av j.b.a m.b::BH gk l j.a::.u (At l j.a.b j.a.a q)::(j.d l++[E9 p o [],AJ o (Fy [0,0,0,0]) []]),?_,_,_,_,_,_,_,_,_,{j.c with b:=-1,c:=-1,a:=0,d:=A0,f:=A0,g:=0,e:=0},_,n.nA,A,A,p,o,by show Ar _ _ (B0 _ j.c.e) _=_;rw[n.nJ],A⟩;exact((AQ.u (GS.t (f:=[BG j.b.b l R]) Y0)).t (AQ.ad (λb:AE=>[BG j.b.b l b]) R (Bi _))).t (AQ.ab Y0))
 refine A9.ac (j:=[.u (A2 j.e)]) S λv r x=>?_;obtain⟨p,o,rfl,rfl⟩:=x;refine⟨{m with v:=0,t:=0,w:=[]},q,{j with c:={j.c with b:=-1,c:=-1,a:=0,d:=A0,f:=A0,g:=0,e:=0},e:=[]},[E9 p o [],AJ o (Fy [0,0,0,0]) []],?_,(JN _ _).t (AQ.ab Y0),p,o,by rw[u],A⟩;exact⟨n.nH,n.nD,n.nE,n.nF,n.nI,n.nA,A,A,n.nM,n.nL,n.nK,n.nN,A,AT ⟨A,A,_,_,A⟩,n.nB,n.nC,n.nG⟩
def Nc(o l m u:B)(j:A6)(L:Co)(z arg:B)(G:Gp)(P t:Ag)(M:Aj)(q:F×F)(r:Aj->Prop)(S:J3 j m l q z arg G P t M r):
 Z9 49 [A5 o,N z,D Ax arg,X R] [Bd o j l m u L,.u (As j m l P M q)] λv n=>∃a f,r a/\F_ G v f/\n=[Bd o j l m u L,.u (As j m l t a q),.u (A2 f)]:=by
 refine A9.z (Py o j l m u L z arg R _ (λv n=>∃a f,r a/\F_ G v f/\n=[.u (As j m l t a q),.u (A2 f)]) (A9.z S λv n y=>?_)) λv n y=>?_
 ·obtain⟨a,f,x,p,Q⟩:=y;exact⟨p.a,a,f,x,p,Q⟩
 ·obtain⟨U,_,⟨a,f,x,p,rfl⟩,rfl⟩:=y;exact⟨a,f,x,p,A⟩
def AAu(q m n x:B)(a:A6)(G:a.e)(S:1<=a.b/a.c/\a.b/a.c<=256)(z:Co)(l:Ag)(p:Aj)(u:F×F)(M:l.b.a=4)(U:l.j.getD 0 0=0):
 Z9 49 [A5 q,N 30,D Ax 0,X R] [Bd q a m n x z,.u (As a n m l p u)] λv o=>∃j f,v=Ar I A0 (B0 4 l.v) (Q j 1 1)/\o=[Bd q a m n x z,.u (As a n m {l with v:=0,t:=0,w:=[]} p u),E9 j f [],AJ f (Fy [0,0,0,0]) []]:=by
 refine A9.z (Py q a m n x z 30 0 R _ (λv o=>∃j f,v=Ar I A0 (B0 4 l.v) (Q j 1 1)/\o=[.u (As a n m {l with v:=0,t:=0,w:=[]} p u),E9 j f [],AJ f (Fy [0,0,0,0]) []]) (A9.z (kL n m a G S l p u M U) λv o y=>?_)) λv o y=>?_
 ·obtain⟨j,f,r,L⟩:=y;exact⟨⟨_,_,_,_,_,_,_,_,r⟩,j,f,r,L⟩
 ·obtain⟨W,_,⟨j,f,r,rfl⟩,rfl⟩:=y;exact⟨j,f,r,A⟩
def AAt(G u x M:B)(f:A6)(ah:f.e)(ag:Co)(a:Ag)(y:Aj)(L:F×F)(q:a.b.a=4)(l j:B)(ap:a.j.getD 0 0=l)(au:l<8)(ar:l≠3)(an:j<f.j l)(ao:y.b+10<=500000000):
 Z9 49 [A5 G,N 17,D Ax j,X R] [Bd G f u x M ag,.u (As f x u a y L)] λv z=>∃p t r o n m,y.g m 2/\(n.drop 0).take 128=(a.u (f.g l+j)).map W/\(a.u (f.g l+j)).length=128/\v=Ar I A0 (B0 4 a.v) (Q p 1 t)/\z=[Bd G f u x M ag,.u (As f x u a.ai m L),E9 p o r,.t o n 5]:=by
 have am:j<4294967296:=by have:=A6.w ah l;omega
 have ak:B5 a.b.a ((17:B):F) (a.b.b j)=(((4:B):F),R):=by rw[q];cases a.b.b j<;>decide
 have aj:=I0 ak Z Z Z;have aq:a.b.c 4=a.b:=by rw[<-q];exact MU
 rw[aq] at aj;have ai:=X6 x u f ah a y L j 4 l a.b ap au ar an ao am Y Y Y ak aj;rw[q] at ai;refine A9.z (Py G f u x M ag 17 j R _ (λv z=>∃p t r o n m,y.g m 2/\(n.drop 0).take 128=(a.u (f.g l+j)).map W/\(a.u (f.g l+j)).length=128/\v=Ar I A0 (B0 4 a.v) (Q p 1 t)/\z=[.u (As f x u a.ai m L),E9 p o r,.t o n 5]) (A9.z ai λv z af=>?_)) λv z af=>?_
 ·obtain⟨p,t,r,o,n,m,S,U,aa,q,al⟩:=af;exact⟨⟨_,_,_,_,_,_,_,_,q⟩,p,t,r,o,n,m,S,U,aa,q,al⟩
 ·obtain⟨av,_,⟨p,t,r,o,n,m,S,U,aa,q,rfl⟩,rfl⟩:=af;exact⟨p,t,r,o,n,m,S,U,aa,q,A⟩
def ACR(o:B)(a:A6)(F:a.e)(L:1<=a.b/a.c/\a.b/a.c<=256)(m:Ag)(j:Cs)(n:j.w a m)(N:m.w.length<=64):Z9 23 [A5 o] (j.i o a m) λv x=>∃z l u q p r t,Jn q p/\v=A5 z/\x=(.u (A2 p)::AO z a l {j.b with c:=u,f:=q}::B8 l.d m.j::.t l.f [Q l.b (a.b/a.c) r] 136::.t l.b (U (a.b/a.c) (AD 0)++t) 3::B6 l.c a::Cv l.g a j.x::De a l::Dc a l::Dd a l::CS l j.u::j.i o a m):=by
 have M:=S' o a F j.h j.b m.b m.j j.x (a.b/a.c) j.z a.i E 0 j.aa j.u m.w j.j j.t n.nA n.nC n.nD L n.nB.a n.nB.c n.nK N n.nL;refine A9.aa (A9.w (a:=.u (A2 j.v)::.u (A2 j.j)::.u (A2 j.t)::AO o a j.h j.b::Eb a j.h m.b m.j j.x (a.b/a.c) j.z a.i E 0 j.aa j.u) (AQ.ab Y0) (A9.ac (j:=[.u (A2 j.v)]) M λv x S=>?_));obtain⟨y,l,u,q,r,t,Z,p,W,Y,G,rfl,rfl⟩:=S;exact⟨_,AQ.ab (a:=.u (A2 p)::AO y a l {j.b with c:=u,f:=q}::B8 l.d m.j::.t l.f [Q l.b (a.b/a.c) r] 136::.t l.b (U (a.b/a.c) (AD 0)++t) 3::B6 l.c a::Cv l.g a j.x::De a l::Dc a l::Dd a l::CS l j.u::j.i o a m) Y0,y,l,u,q,p,r,t,G,A,A⟩
def Ko.e(a:A6)(m:B->G B):Ko a (U a.a A0) [] (λ_=>I) m:=
 ⟨BI,λl f _=>by rw[HH,A8 f],λl f j=>by simp at j⟩
def Ko.d{r:B->AE}{n:B->G B}(m:Ko xp er lg r n)(aa:l<xp.a)(x:(yj.drop 0).take 128=(n l).map W)(y:(n l).length=128):
 Ko xp (er.set l (Q p 128 np)) (.t p yj 5::lg) (λq=>if l=q then R else r q) n:=by
 have Z:=m.a;refine⟨by rw[B_];exact m.a,λj o a=>?_,λj o a=>?_⟩
 ·by_cases f:l=j
  ·rw[A8 f] at a;cases a
  ·rw[A1 f] at a;rw[EV,A1 f];exact m.b j o a
 ·by_cases f:l=j
  ·subst f;exact⟨p,np,yj,by rw[EV,A8 A,A8 Y],.head _,x,y⟩
  ·rw[A1 f] at a;obtain⟨u,z,t,F,L,N,U⟩:=m.c j o a;exact⟨u,z,t,by rw[EV,A1 f];exact F,.tail _ L,N,U⟩
def AC5(f:B->AE)(v:B->G B)(a:B):Gf f v v a=v:=by
 funext p;unfold Gf;split<;>rfl
def mZ{a:C4}{f:Bu}{j o n:G M}{v:B->G B}{t:S}(m:f.g=I/\f.h=I/\f.s=0/\f.u=I)(L:q=U 64 0)(x:j.length=90)(y:j.all B'=R)(u:Dv xp n lg v)(F:Jn f.f yn):
 AQ (.u (A2 yn)::AO l xp a f.t::Aq a.a ⟨0,0,0⟩::B8 a.d q::.t a.f [Q a.b (xp.b/xp.c) p] 136::.t a.b (U (xp.b/xp.c) (AD 0)++o) 3::B6 a.c xp::Cv a.g xp j::CY a.e xp.i::De xp a::Dc xp a::Dd xp a::CS a n::.u (A2 lg)::t) (.u (Bb xp l (Ag.x v))::t):=by
 subst L;have z:Cs.w ⟨a,f.t,j,p,o,n,lg,[],yn⟩ xp (Ag.x v):=⟨A,A,m.1,m.2.1,m.2.2.1,m.2.2.2,A,AT ⟨A,A,E,0,A⟩,F,u,BI,x,y⟩;exact(AQ.aa [] _).t (AQ.t (AQ.u (GS.t (f:=(Cs.mk a f.t j p o n lg [] yn).i l xp (Ag.x v)) Y0)) (AQ.ad (λr:{r:Cs//r.w xp (Ag.x v)}=>r.1.i l xp (Ag.x v)) ⟨_,z⟩ (Bi _)))
abbrev Ag.af(v:B->G B)(a:B):Ag:=⟨⟨4,0,0⟩,(U 64 0).set 0 a,0,0,I,I,0,I,[],v⟩
def c2(n:xp.e)(v:B->G B)(f a:B)(m:a<8)(o:0<xp.j a):Dk xp 6 (C7 0 a) (.t I (B0 4 0)) (Ag.af v f) (Ag.af v a):=by
 have j:=OZ (c:=xp) (a:=Ag.af v f) n A (by show((U 64 0).set 0 f).length=64;rw[B_];rfl) a m o;have l:((U 64 0).set 0 f).set 0 a=(U 64 0).set 0 a:=Hl ..;dsimp only at j;rw[l] at j;exact j
abbrev Ag.ap(v:B->G B)(a:B):Ag:=⟨⟨0,0,0⟩,(U 64 0).set 0 a,0,0,I,I,0,I,[],v⟩
def c1(v:B->G B)(a:B):Dk xp 0 0 (.t R 0) (Ag.af v a) (Ag.ap v a):=US (c:=xp) (a:=Ag.af v a) (AT A) 0 Z
def ADM(v:B->G B):Dk xp 0 0 (.t R 0) (Ag.x v) (Ag.x v):=US (c:=xp) (a:=Ag.x v) (Ae (Ae A)) 0 Z
def W1(j:xp.e)(v:B->G B)(a:B):Dk xp 6 50331648 (.t I (B0 4 0)) (Ag.ap v a).ab (Ag.x v).ab:=by
 have m:=j.nC;have f:=OZ (c:=xp) (a:=(Ag.ap v a).ab) j A (by show((U 64 0).set 0 a).length=64;rw[B_];rfl) 0 Z (by show 0<xp.b;omega);have l:((U 64 0).set 0 a).set 0 0=U 64 0:=by rw[Hl];rfl
 dsimp only at f;rw[l] at f;exact f
def ADN(a:xp.e)(v:B->G B):Dk xp 6 50331648 (.t I (B0 4 0)) (Ag.x v).ab (Ag.x v).ab:=W1 a v 0
def ADL(q m cr r:B)(j:A6)(z:j.e)(d1:j.ac)(a2:1<=j.b/j.c/\j.b/j.c<=256)(d9:j.t<=j.x)(d3:276<=226+6*j.d+4*((j.a+15)/16))(br:Co)(cu:br.e=A0)(cx:br.c<=1)(l:Ag)(x:Aj)(bo:x.e=l.u)(bx:l.ae j)(ci:G0 l.j=U 64 0)(b1:l.y=I/\l.z=I/\l.aa=0/\l.ad=I)(dx:x.e (j.b+2*j.f)=U 128 0)(ds:j.d*14+64<=x.c)(d4:x.b<=200000000)(fg:x.d<=6900)(fw:x.a<=900000000):
 Z9 19 [A5 q,A5 r,A5 r] [Bd q j m cr r br,.u (IR j m x R),.u (Bb j r l)] λv c5=>v=X R/\∃c9 db t p,(t.e=x.e/\t.c+28=x.c/\t.d=x.d+4/\t.b<=x.b+30000/\t.a<=x.a+12)/\p.2=(t.a:Int)/\c5=DY q j m c9 db {br with b:=0,a:=0,c:=1} (Ag.x l.u).ab t p:=by
 obtain⟨aa,af,f1,ai,aj,ag⟩:=br;dsimp only at cu cx;subst cu;refine A9.w (a:=.u (Bb j r l)::[Bd q j m cr r ⟨aa,af,A0,ai,aj,ag⟩,.u (IR j m x R)]) AQ.b (A9.ae λ⟨L,ar⟩=>?_);dsimp only;refine A9.t (J ?_);refine EY.b (J ?_);refine A9.u (AB2 j m x) (λv ah bo=>?_);obtain rfl:=bo;refine J ?_;refine A9.u (AAh j m x) (λv ah bo=>?_);obtain rfl:=bo;refine J ?_;refine A9.u (dO j z d1 m x a2.1 dx ds d4 Y) ?_;rintro v ah ⟨n,W,a7,t,c0,a8,rfl,ax,ec,dw,fi,rfl⟩;refine J ?_;have fj:(t.a:F)<=x.a+12:=by have:=ax.nA.2;omega
 have bn:a7.a=m/\a7.f=a8/\a7.d=(t.a:F)/\a7.e=0:=by rw[dw];exact⟨A,A,A,A⟩
 have cd:=Us (xp:=j) (l:=n) (p:=m) (f:=W) (a:=a7) (xy:=t) (er:=c0) ec bn.1 (by rw[bn.2.2.1];exact⟨Y,AEA _⟩) bn.2.2.2;rw[bn.2.1,bn.2.2.1,ax.nB,bo] at cd;have fu:=z.nA;have fy:=z.nB;obtain⟨a0,cv⟩:∃a0,(j.a+15)/16=a0:=⟨_,A⟩;rw[cv] at d3;have ff:a0<=1000:=Y;refine F'.mk 210 A (J ?_);refine F'.mk ((6*j.d:B):F) Y2 (J ?_);refine F'.mk ((210+6*j.d:B):F) Y2 (J ?_);refine F'.mk ((j.a+15:B):F) Y2 (A' ?_);refine F'.mk ((a0:B):F) (by rw[show((j.a+15:B):F).tdiv 16=(((j.a+15)/16:B):F) from A,cv];exact A3 Y) (J ?_);refine F'.mk ((4*a0:B):F) Y2 (J ?_);refine F'.mk ((210+6*j.d+4*a0:B):F) Y2 (J ?_);obtain⟨b3,d2⟩:∃b3,210+6*j.d+4*a0+16=b3:=⟨_,A⟩;refine F'.mk ((b3:B):F) (by rw[<-d2,A3 Y];rfl) (J ?_);have f2:=Aa (a8<0);have f3:=Aa (a8>(b3:F));have bu:=k_ n m j (Ag.x l.u) t (a8,(t.a:F));obtain⟨p,ce⟩:∃p:F×F,p=(a8,(t.a:F)):=⟨_,A⟩;have d0:p.1=a8:=by rw[ce]
 rw[<-ce] at cd bu;rw[d0] at bu;refine A9.w ((AQ.b (g:=PB j n W a7 t c0++(L.i r j l++[Bd q j m n r ⟨aa,af,A0,ai,aj,ag⟩]))).t (AQ.ag cd _)) (A9.b (bu) (J ?_));refine A9.b (bu) (J ?_);have e7:=ax.nD;have d5:=Sd (xp:=j) (ye:=Ag.x l.u) A;have d6:=Se (xp:=j) (ye:=Ag.x l.u);have d7:=Sf (xp:=j) (ye:=Ag.x l.u);have d8:=Sg (xp:=j) (ye:=Ag.x l.u);intro e6;refine J ?_;refine EY.b (A7 ?_);refine A9.u (Nc q m n r j _ 1 0 _ _ _ t p _ (d5.1 n m p t Y)) ?_;rintro v ah ⟨cm,eq,bg,_,rfl⟩;have fq:=bg.nA;refine J ?_;refine F'.mk 1 A (EY.b (A7 ?_));refine A9.u (Nc q m n r j _ 2 0 _ _ _ cm p _ (d6.1 n m p cm Y)) ?_;rintro v ah ⟨cn,er,bh,_,rfl⟩;have fr:=bh.nA;refine J ?_;refine F'.mk 2 A (EY.b (A7 ?_));refine A9.u (Nc q m n r j _ 3 0 _ _ _ cn p _ (d7.1 n m p cn Y)) ?_;rintro v ah ⟨co,es,bi,_,rfl⟩;have fs:=bi.nA;refine J ?_;refine F'.mk 3 A (EY.b (A7 ?_));refine A9.u (Nc q m n r j _ 7 0 _ _ _ co p _ (d8.1 n m p co Y)) ?_;rintro v ah ⟨am,et,bj,_,rfl⟩;have ft:=bj.nA;refine J ?_;refine F'.mk 4 A (EY.b (J ?_));refine A9.u (AAu q m n r j z a2 _ (Ag.x l.u).ab am p A A) ?_;rintro v ah ⟨e4,ex,rfl,rfl⟩;refine J ?_;intro ez;refine A7 ?_;repeat(first|(refine F'.mk 0 A ?_;refine J ?_)|(refine Mt.mk Z ?_;refine J ?_))
 refine A7 ?_;repeat(first|(refine F'.mk 0 A ?_;refine J ?_)|(refine Mt.mk Z ?_;refine J ?_))
 refine A7 ?_;repeat(first|(refine F'.mk 0 A ?_;refine J ?_)|(refine Mt.mk Z ?_;refine J ?_))
 refine A7 ?_;repeat(first|(refine F'.mk 0 A ?_;refine J ?_)|(refine Mt.mk Z ?_;refine f0 ?_))
 refine A9.w (a:=.u (As j n m (Ag.x l.u).ab am p)::Bd q j m n r ⟨aa,af,A0,ai,aj,ag⟩::L.i r j l) AQ.b (A9.u (ACR r j z a2 l L ar bx.nA) ?_);rintro v ah ⟨y,u,bp,bs,cl,bc,bf,eb,rfl,rfl⟩;refine J ?_;have fv:am.c=t.c/\am.d=t.d/\am.a=t.a:=⟨by rw[bj.nD,bi.nD,bh.nD,bg.nD],by rw[bj.nC,bi.nC,bh.nC,bg.nC],by rw[bj.nB,bi.nB,bh.nB,bg.nB]⟩;have fc:=ax.nE;have fb:=ax.nC;refine A9.b (ACs q m n r j z a2 ⟨aa,af,A0,ai,aj,ag⟩ l (Ag.x l.u).ab am p L ar bx.nA ci A Y Y) (J ?_);intro e0;refine J ?_;refine A9.b (ACz q m n r j z a2 ⟨aa,af,A0,ai,aj,ag⟩ l L ar bx.nA) (J ?_);refine A9.u (ADI q m n r j z ⟨aa,af,A0,ai,aj,ag⟩ l L ar) ?_;rintro v ah ⟨bb,bd,be,ck,b7,b6,dn,dq,rfl,rfl⟩;refine J ?_;refine A9.u (Pf y j z u {L.b with c:=bp,f:=bs} l.j L.x bf (j.b/j.c) bc ar.nA ar.nC a2) ?_;rintro v ah ⟨b9,ca,a1,ba,cj,eg,fz,rfl,rfl⟩;refine J ?_;refine Cr.t (p:=j.a) (j:=j.a) (m:=_) (u:=_) A A A A A A ⟨AI _,by show 24*j.a<=_;omega,by show j.a<=9223372036854775807;omega⟩ (U j.a A0++[]) AF4 (λa5=>?_);refine J ?_;have fn:am.b<=200030000:=Y;refine EY.f (m:=B×B×Aj×G M×S×(B->AE)) (λW=>8-W.1) (λW=>W.1<=8/\W.2.1<8/\am.g W.2.2.1 (600*W.1)/\Ko j W.2.2.2.1 W.2.2.2.2.1 W.2.2.2.2.2 l.u) (λW=>[(0,A5 q),(19,A5 y),(21,X I),(29,A5 bb),(30,Q a5 j.a j.a),(31,N (W.1:B))]) (λW=>.u (A2 cl)::AO y j {u with a:=b9,e:=ca,c:=a1,g:=ba} ({L.b with c:=bp,f:=bs}:Bu).t::B8 u.d (G0 l.j)::.t u.f [Q u.b (j.b/j.c) bc] 136::.t u.b (U (j.b/j.c) (AD 0)++bf) 3::B6 a1 j::Cv ba j cj::De j u::Dc j u::Dd j u::CS u L.u::.u (A2 b6)::Dg bb j.a bd j.a be j.a A0 A0::.t bd (ck++[]) 31::Eu be j.a []::.u (A2 b7)::Bd q j m n r ⟨aa,af,A0,ai,aj,ag⟩::.t a5 (W.2.2.2.1++[]) 31::.u (A2 W.2.2.2.2.1)::.u (As j n m (Ag.af l.u W.2.1) W.2.2.1 p)::[]) (0,0,am,U j.a A0,[],λ_=>I) ⟨Af _,by show 0<8;decide,(Aj.g.nI am).nF (Af _),Ko.e j l.u⟩ ⟨A,A,A,A,A,A,AA⟩ ((AQ.aa [] _).t AQ.b) ?_;rintro⟨o,ap,av,az,aw,a4⟩ ⟨dv,ch,au,ao⟩ b2;dsimp only at dv ch au ao b2⊢;have e8:=au.nA;refine EY.b ?_;by_cases ay:o<8
 ·have ei:=B7 ((o:F)<8);have bv:=JS j z a1 o ay;have ed:=A6.w z o;obtain⟨aq,a3⟩:∃aq,j.j o=aq:=⟨_,A⟩;rw[a3] at bv ed;by_cases c3:o=3
  ·have ej:((o:F)==3)=R:=by rw[c3];rfl
   refine J ?_;refine A9.b (bv) (J ?_);exact F'.mk ((o+1:B):F) Y2 (b2 (o+1,ap,av,az,aw,a4) ⟨ay,ch,au.nF Y,ao⟩ Y6 ⟨A,A,A,A,A,A,AA⟩ AQ.b)
  have ej:((o:F)==3)=I:=Y9;by_cases ep:aq=0
  ·have ek:((aq:F)==0)=R:=by rw[ep];rfl
   refine J ?_;refine A9.b (bv) (J ?_);exact F'.mk ((o+1:B):F) Y2 (b2 (o+1,ap,av,az,aw,a4) ⟨ay,ch,au.nF Y,ao⟩ Y6 ⟨A,A,A,A,A,A,AA⟩ AQ.b)
  have ek:((aq:F)==0)=I:=Y9;have dg:=c2 z l.u ap o ay (by rw[a3];omega);refine J ?_;refine A9.b (bv) (J ?_);refine Mt.mk Z (F'.mk ((o*256:B):F) (by show IntKind.i64.wrap ((o:F)*256)=_;rw[A3 Y];omega) ?_);refine J ?_;refine F'.mk _ (Wu ay) (J ?_);refine F'.mk ((C7 0 o:B):F) (Dh (by unfold C7;omega)) (J ?_);refine A9.u (Nc q m n r j ⟨aa,af,A0,ai,aj,ag⟩ 6 (C7 0 o) _ (Ag.af l.u ap) _ av p _ (dg.1 n m p av Y)) ?_;rintro v ah ⟨b5,eu,dj,_,rfl⟩;refine J ?_;refine EY.f (m:=B×Aj×G M×S×(B->AE)) (λak=>aq-ak.1) (λak=>ak.1<=aq/\am.g ak.2.1 (600*o+2+2*ak.1)/\Ko j ak.2.2.1 ak.2.2.2.1 ak.2.2.2.2 l.u) (λak=>[(0,A5 q),(19,A5 y),(21,X I),(29,A5 bb),(30,Q a5 j.a j.a),(31,N (o:B)),(32,N (aq:B)),(33,N (ak.1:B))]) (λak=>.u (A2 cl)::AO y j {u with a:=b9,e:=ca,c:=a1,g:=ba} ({L.b with c:=bp,f:=bs}:Bu).t::B8 u.d (G0 l.j)::.t u.f [Q u.b (j.b/j.c) bc] 136::.t u.b (U (j.b/j.c) (AD 0)++bf) 3::B6 a1 j::Cv ba j cj::De j u::Dc j u::Dd j u::CS u L.u::.u (A2 b6)::Dg bb j.a bd j.a be j.a A0 A0::.t bd (ck++[]) 31::Eu be j.a []::.u (A2 b7)::Bd q j m n r ⟨aa,af,A0,ai,aj,ag⟩::.t a5 (ak.2.2.1++[]) 31::.u (A2 ak.2.2.2.1)::.u (As j n m (Ag.af l.u o) ak.2.1 p)::[]) (0,b5,az,aw,a4) ⟨Af _,au.nG dj,ao⟩ ⟨A,A,A,A,A,A,A,A,AA⟩ AQ.b ?_;rintro⟨an,a9,az,aw,a4⟩ ⟨dt,bt,ao⟩ cz;dsimp only at dt bt ao cz⊢;have e9:=bt.nA;refine EY.b ?_;by_cases b4:an<aq
  ·have em:=B7 ((an:F)<(aq:F));refine J ?_;refine F'.mk ((an:B):F) (Dh Y) (J ?_);have du:(Ag.af l.u o).j.getD 0 0=o:=by
    show((U 64 0).set 0 o).getD 0 0=o;rw[K.cz (by rw[BI];decide),A8 A]
   have cw:j.g o+an<j.a:=A6.aa (by rw[a3];exact b4);refine A9.u (AAt q m n r j z ⟨aa,af,A0,ai,aj,ag⟩ (Ag.af l.u o) a9 p A o an du ay c3 (by rw[a3];exact b4) Y) ?_;rintro v ah ⟨e5,ew,ev,b8,c8,al,dl,cp,cq,rfl,rfl⟩;refine J ?_;intro e1;refine J ?_;refine A9.b (Sm j z a1 o an (by rw[a3];exact b4)) ?_;obtain⟨bq,cg⟩:∃bq,j.g o+an=bq:=⟨_,A⟩;rw[cg] at cw cp cq⊢;refine A7 ?_;have fa:=ao.a;refine Mw.t (az.set bq (Q b8 128 128)++[]) ⟨A,Z5⟩ (P8 Y) (J ?_);exact F'.mk ((an+1:B):F) Y2 (cz (an+1,al,_,_,_) ⟨b4,(bt.nG dl).nF (by show _<=600*o+2+2*(an+1);omega),ao.d (p:=b8) (np:=128) cw cp cq⟩ Y6 ⟨A,A,A,A,A,A,A,A,AA⟩ ((AQ.u (GS.t (f:=[.t b8 c8 5,.u (A2 aw)]) Y0)).t ((N3 _ _ _).t AQ.b)))
  ·have em:=Aa ((an:F)<(aq:F));refine J ?_;exact F'.mk ((o+1:B):F) Y2 (b2 (o+1,o,a9,az,aw,a4) ⟨ay,ay,bt.nF (by show _<=600*(o+1);omega),ao⟩ Y6 ⟨A,A,A,A,A,A,AA⟩ AQ.b)
 ·have ei:=Aa ((o:F)<8);obtain rfl:o=8:=Y;refine J ?_;refine A9.b (m8 j z bb bd j.a be j.a a5 j.a ck [] [] az [] b7 aw a4 l.u l.u dq ao (λ_ _ _=>A) (λbq cg=>(bx.nD bq cg).2)) (J ?_);have a3:G0 (G0 l.j)=U 64 0:=by rw[ci];rfl
  refine A9.u (m2 y j z {u with a:=b9,e:=ca,c:=a1,g:=ba} ({L.b with c:=bp,f:=bs}:Bu).t (G0 l.j) cj bf (j.b/j.c) bc a5 j.a az [] L.u aw b6 a4 l.u l.u ao dn (by rw[ci];rfl) eg a2) ?_;rintro v ah ⟨de,df,dd,da,eh,ea,c4,ee,ef,cs,rfl,rfl⟩;rw[AC5] at cs;refine J ?_;have dp:=mZ (xp:=j) (l:=y) (a:={u with a:=de,e:=df,c:=dd,g:=da}) (f:=({L.b with c:=bp,f:=bs}:Bu).t) (q:=G0 (G0 l.j)) (j:=eh) (o:=bf) (n:=ea) (p:=bc) (v:=l.u) (lg:=c4) (yn:=cl) (t:=[Bd q j m n y ⟨aa,af,A0,ai,aj,ag⟩,.u (As j n m (Ag.af l.u ap) av p)]) ⟨by show L.b.g=I;rw[ar.nF];exact b1.1,by show L.b.h=I;rw[ar.nE];exact b1.2.1,by show L.b.s=0;rw[ar.nH];exact b1.2.2.1,by show L.b.u=I;rw[ar.nI];exact b1.2.2.2⟩ a3 ee ef cs eb;refine A9.w (a:=[Bd q j m n y ⟨aa,af,A0,ai,aj,ag⟩,.u (As j n m (Ag.af l.u ap) av p),.u (Bb j y (Ag.x l.u))]) (((AQ.ab Y0).t dp).t (AQ.ab Y0)) (A9.u (MY q j m n y ⟨aa,af,A0,ai,aj,ag⟩ 0 0 _ (Ag.af l.u ap) _ (Ag.x l.u) _ av p _ ((c1 (xp:=j) l.u ap).1 n m p av Y) ((ADM (xp:=j) l.u).2 y)) ?_);rintro v ah ⟨en,eo,b5,c6,c7,bk,cb,cc,rfl,rfl⟩;obtain⟨rfl,rfl⟩:=cb;obtain⟨rfl,rfl⟩:=cc;have fk:=bk.nA;refine J ?_;intro e2;refine J ?_;intro e3;refine J ?_;refine A9.u (ZE q m n y j ⟨aa,af,A0,ai,aj,ag⟩ (Ag.ap l.u ap) (Ag.x l.u) b5 p A A A Y) ?_;rintro v ah ⟨rfl,a9,bl,rfl⟩;have fl:=bl.nA;refine J ?_;refine A9.u (MY q j m n y ⟨aa,af,A0,ai,aj,ag⟩ 6 50331648 _ (Ag.ap l.u ap).ab _ (Ag.x l.u).ab _ a9 p _ ((W1 z l.u ap).1 n m p a9 Y) ((ADN z l.u).2 y)) ?_;rintro v ah ⟨en,eo,al,c6,c7,bm,cb,cc,rfl,rfl⟩;obtain⟨rfl,rfl⟩:=cb;obtain⟨rfl,rfl⟩:=cc;have fm:=bm.nA;have a6:al.e=x.e/\al.c+28=x.c/\al.d=x.d+4/\al.b<=x.b+30000/\al.a=t.a:=by
   have gb:=bm.nD;have gc:=bl.nD;have gg:=bk.nD;have gh:=au.nD;have f7:=bm.nC;have f8:=bl.nC;have f9:=bk.nC;have ga:=au.nC;have f4:=bm.nB;have u:=bl.nB;have f5:=bk.nB;have f6:=au.nB;refine⟨by rw[bm.nE,bl.nE,bk.nE,au.nE,bj.nE,bi.nE,bh.nE,bg.nE,ax.nB],Y,Y,Y,Y⟩
  have cy:p.2=(t.a:F):=by rw[ce]
  have ct:=P_ n m j (Ag.x l.u).ab al p (by have:=ax.nA;omega);rw[show(al.a:F)-p.2=0 by rw[a6.2.2.2.2,cy,AEF]] at ct;refine J ?_;refine A9.b (YH I (B0 4 0) []) ?_;refine J ?_;refine A9.b (ct) ?_;refine J ?_;have dr:=T7 q m n y j z ⟨aa,af,A0,0,0,ag⟩ (Ag.x l.u).ab al p A Y Y d9 cx;refine A9.w (a:=[Bd q j m n y ⟨aa,af,A0,0,0,ag⟩,.u (As j n m (Ag.x l.u).ab al p),.u (Bb j y (Ag.x l.u).ab)]) AQ.b (A9.b (dr) (J ?_));exact⟨DY q j m n y ⟨aa,af,A0,0,0,1⟩ (Ag.x l.u).ab al p,AQ.b,A,n,y,al,p,⟨a6.1,a6.2.1,a6.2.2.1,a6.2.2.2.1,by have:=ax.nA.2;omega⟩,by rw[a6.2.2.2.2];exact cy,A⟩
def ACq(p o u x:B)(f:A6)(ah:f.e)(aa:f.ac)(P:1<=f.b/f.c/\f.b/f.c<=256)(ak:f.t<=f.x)(af:276<=226+6*f.d+4*((f.a+15)/16))(n:Co)(S:n.e=A0)(Z:n.c<=1)(l:Ag)(j:Aj)(z:F×F)(Q:l.ae f)(al:G0 l.j=U 64 0)(aj:l.y=I/\l.z=I/\l.aa=0/\l.ad=I)(Y:l.u (f.b+2*f.f)=U 128 0)(V:f.d*14+64<=j.c)(ag:j.b<=200000000)(W:j.d<=6900)(ai:j.a<=900000000):
 Z9 8 [A5 p,Gd I 0 0 I 0 2 0 0 0] (DY p f o u x n l j z) λv G=>v=X R/\∃r t m q,(m.e=j.e/\m.c+28=j.c/\m.d=j.d+4/\m.b<=j.b+30000/\m.a<=j.a+12)/\q.2=(m.a:Int)/\G=DY p f o r t {n with b:=0,a:=0,c:=1} (Ag.x l.u).ab m q:=by
 refine A9.t ?_;intro am;refine J ?_;refine A9.u (kP u o f l j z) ?_;rintro v L ⟨y,rfl⟩;refine J ?_;refine A9.u (ADL p o u x f ah aa P ak af n S Z l j y Q al aj (by rw[y];exact Y) V ag W ai) ?_;rintro v L ⟨rfl,r,t,m,q,M,N,rfl⟩;refine J ?_;exact⟨DY p f o r t {n with b:=0,a:=0,c:=1} (Ag.x l.u).ab m q,AQ.b,A,r,t,m,q,M,N,A⟩
structure Hr(l:Co)(m:Aj)(a:F×F)(n:B):Prop where
 e:l.d=0
 b:l.e=A0
 s:l.c<=1
 c:l.a+n<=900
 i:0<=l.b/\l.b<=100000
 j:(m.a:F)-a.2<=l.b+6*l.a
 a:0<=a.2/\a.2<=m.a
 f:180+3*n<=m.c
 d:m.d+3*n<=6900
 h:m.b+10000*n<=190000000
 g:m.a+6*n<=100000
def Hr.t{f:Co}{m:B}(a:Hr f xy zc m):Qr BM f xy zc:=by
 have j:=a.e;have l:=a.c;have n:=a.f;have o:=a.d;have p:=a.g;have q:=a.a;exact⟨Z,Z,Z,Y,Y,a.s,by show 8*14+1<xy.c;omega,Y,Y,Y⟩
def LN(r:B)(n:Ag)(m:B)(l:S):Prop:=∃o p q j a f,Hr j a f m/\l=DY r BM o p q j n a f
def Yo:AK 7 [] [] (DA BM):=by
 refine A9.t ?_;intro a;refine J ?_;exact BE
def ABu:AK 14 [] [] (Gd I 0 0 I 0 2 0 0 0):=by
 refine A9.t ?_;intro a;refine J ?_;exact BE
def Y'(a:AE)(j arg:B)(f:B):AK 37 [AV #[X a,N j,D Ax arg,X I,X I,W f,A0,A0,X I]] [] (Gd a j arg I f 0 0 0 0):=by
 refine A9.t ?_;intro l;refine J ?_;intro m;refine J ?_;exact BE
def Nu(a arg:B)(l:arg<4294967296):AK 9 [N a,N arg] [] (Gd I a arg I 0 0 0 0 0):=by
 have f:=Y' I a arg 0;refine A9.t ?_;intro j;refine J ?_;refine F'.mk (arg:F) (Dh Y) (J ?_);refine A9.b (f) ?_;refine J ?_;exact BE
def Yb(a:B)(l:a<256):AK 10 [N a] [] (Gd R 0 0 I a 0 0 0 0):=by
 have f:=Y' R 0 0 a;refine A9.t ?_;intro j;refine J ?_;refine F'.mk (a:F) (by show((a:F)%256)=a;omega) (J ?_);refine A9.b (f) ?_;refine J ?_;exact BE
def Pv(f:F)(m:B)(x:-9223372036854775808<=f/\f<=9223372036854775807)(u:1<=m/\m<=70000):Z9 5 [N f,N m] [] λv o=>∃l:B,l<m/\v=N l/\o=[]:=by
 obtain⟨a,j⟩:∃a,f.tmod (m:F)=a:=⟨_,A⟩;have t:-(m:F)<a/\a<m:=by
  rw[<-j];have p:=Int.tmod_lt_of_pos f (b:=(m:F)) Y;have q:=Int.lt_tmod_of_pos f (b:=(m:F)) Y;exact⟨q,p⟩
 refine A9.t ?_;refine A7 ?_;refine F'.mk a j ?_;by_cases n:a<0
 ·have r:decide (a<0)=R:=DH n;refine J ?_;refine F'.mk (((a+m).toNat:B):F) Y4 (J ?_);exact⟨[],.w _,(a+m).toNat,Y,A,A⟩
 ·have r:decide (a<0)=I:=F2 n;refine J ?_;refine⟨[],.w _,a.toNat,Y,?_,A⟩;show(D H a)=N (a.toNat:F);rw[Int.toNat_of_nonneg Y]
abbrev Ag.ac(a:B)(v:B->G B):Ag:=⟨⟨4,a,0⟩,U 64 0,0,0,I,I,0,I,[],v⟩
def IL(v:B->G B):Prop:=∀a,a<BM.a->(v a).length=128/\∀f∈v a,f<256
def IL.b:IL λ_=>U 128 0:=λf _=>⟨BI,λj a=>by rw[(FX.1 a).2];decide⟩
def IL.j{v:B->G B}(f:IL v)(o a:B)(j:a<256):IL (Cm v o (U 128 a)):=λn l=>by
 unfold Cm;split
 ·exact⟨BI,λp m=>by rw[(FX.1 m).2];exact j⟩
 ·exact f n l
def JM{a:B}{v:B->G B}(j:a<65536)(f:IL v):(Ag.ac a v).ae BM:=⟨Af _,by show 4<16;decide,j,BI,A,by show 0<8;decide,f⟩
section
variable{h e f g:B}{s:Co}{a d:Ag}{c:Aj}{lo:F×F}{i:B}
def Nv{l arg:B}{q:Gp}(j:Hr s c lo (i+1))(u:a.ae BM)(x:d.ae BM)(p:Dk BM l arg q a d)(z:l≠8/\l≠38)(G:l<1000)(y:arg<4294967296):
 Z9 8 [A5 h,Gd I l arg I 0 0 0 0 0] (DY h BM e f g s a c lo) λv o=>v=X R/\LN h d i o:=by
 have Q:=j.h;have S:=j.a;have U:=j.g;have V:=j.f;have W:=j.d;have Z:=j.c;refine A9.z (ADJ h e f g BM Ht s a d c lo j.t u x l arg q z G y (p.1 f e lo c Y) (p.2 g)) ?_;rintro v o ⟨r,n,m,t⟩;have L:=m.nD;have M:=m.nB;have N:=m.nC;have P:=m.nA;refine⟨r,e,f,g,{s with b:=(c.a:F)-lo.2,a:=0,c:=1},n,lo,⟨j.e,j.b,by show 1<=1;decide,by show 0+i<=900;omega,?_,?_,Y,Y,Y,Y,Y⟩,t⟩
 ·show 0<=(c.a:F)-lo.2/\(c.a:F)-lo.2<=100000;omega
 ·show(n.a:F)-lo.2<=(c.a:F)-lo.2+6*(0:B);omega
def Yi{l m:B}{o:G B}(j:Hr s c lo (i+1))(y:a.ae BM)(M:a.w=l::o)(N:a.b.a=6)(P:1<=a.b.f/\a.b.f<=64)(z:a.aa=0)(Q:l<48)(S:a.j.getD 1 0=0)(L:m<256):
 Z9 8 [A5 h,Gd R 0 0 I m 0 0 0 0] (DY h BM e f g s a c lo) λv q=>v=X R/\LN h (a.al l o (U 128 m)) i q:=by
 have ah:=j.h;have ai:=j.a;have aj:=j.g;have ak:=j.f;have al:=j.d;have am:=j.c;have r:=j.i;have x:=j.j;have V:c.b<=190000000:=Y;have W:c.b+1000000<=500000000:=D9 (AEd V 1000000) (DW A);refine A9.z (ADK h e f g BM Ht s a c lo j.t y l o m M N P z (by show l<48;exact Q) S L W (by show 8*14+5<c.c;omega) Y Y ⟨r.1,Y⟩ x Y) ?_;rintro v q ⟨t,p,n,u⟩;have Z:=n.nC;have aa:=n.nA;have af:=n.nB;have ag:=n.nD;refine⟨t,e,f,g,{s with a:=s.a+1,c:=1},p,lo,⟨j.e,j.b,by show 1<=1;decide,by show s.a+1+i<=900;omega,r,?_,Y,Y,Y,Y,Y⟩,u⟩;show(p.a:F)-lo.2<=s.b+6*((s.a+1:B):F);omega
def ACG(j:Hr s c lo (i+10))(t:a.ae BM)(y:G0 a.j=U 64 0)(x:a.y=I/\a.z=I/\a.aa=0/\a.ad=I)(u:a.u 52=U 128 0):
 Z9 8 [A5 h,Gd I 0 0 I 0 2 0 0 0] (DY h BM e f g s a c lo) λv m=>v=X R/\LN h (Ag.ac 0 a.u) i m:=by
 have Q:=j.h;have S:=j.a;have V:=j.g;have W:=j.f;have aa:=j.d;have af:=j.c;have ag:=j.i;have ah:=j.j;refine A9.z (ACq h e f g BM Ht ⟨A,Z⟩ Z Z Z s j.b j.s a c lo t y x u (by show 8*14+64<=c.c;omega) Y Y Y) ?_;rintro v m ⟨o,q,r,l,n,⟨z,G,L,M,N⟩,P,p⟩;refine⟨o,e,q,r,{s with b:=0,a:=0,c:=1},l,n,⟨j.e,j.b,by show 1<=1;decide,by show 0+i<=900;omega,by show(0:F)<=0/\(0:F)<=100000;omega,?_,Y,Y,Y,Y,Y⟩,p⟩;show(l.a:F)-n.2<=0+6*((0:B):F);omega
def Yj(j:Hr s c lo (i+1))(t:a.ae BM)(q:a.b.a=4)(u:0<BM.j (a.j.getD 0 0)):
 Z9 12 [A5 h] (DY h BM e f g s a c lo) λv m=>v=X R/\LN h a.aq i m:=by
 have L:=j.h;have M:=j.a;have N:=j.g;have P:=j.f;have Q:=j.d;have S:=j.c;have r:=j.i;have U:=j.j;have x:c.b<=190000000:=Y;have y:c.b+10000<=500000000:=D9 (AEd x 10000) (DW A);refine A9.z (ACt h e f g BM Ht s a c lo t q u y) ?_;rintro v m ⟨o,n,l,p⟩;have z:=l.nD;have B:=l.nB;have F:=l.nC;have G:=l.nA;exact⟨o,e,f,g,s,n,lo,⟨j.e,j.b,j.s,Y,r,Y,Y,Y,Y,Y,Y⟩,p⟩
end
def Ym:Z9 6 [DA BM] [] λv n=>∃h,v=A5 h/\LN h (Ag.ac 0 λ_=>U 128 0) 100 n:=by
 have p:=ACp BM Ht Z;refine A9.t ?_;intro N;refine J ?_;refine A9.u p ?_;rintro v o ⟨h,e,f,g,s,l,lo,a,rfl,rfl⟩;have P:=a.c;refine J ?_;refine A9.u (ADD h e f g BM s (Ag.x λ_=>U 128 0) l lo A Y) ?_;rintro v o ⟨rfl,m,j,rfl⟩;refine J ?_;have x:=j.nD;have y:=j.nB;have z:=j.nC;have B:=j.nA;have F:l.c=550:=a.d;have G:=a.a;have L:=a.e;have M:=a.b;obtain⟨q,r,t,Q,u⟩:=a.f;refine⟨DY h BM e f g s (Ag.ac 0 λ_=>U 128 0) m lo,AQ.b,h,A,e,f,g,s,m,lo,⟨q,u,Y,Y,Y,by rw[r,t];omega,Y,Y,Y,Y,Y⟩,A⟩
abbrev Ag.ar(a:B)(v:B->G B)(f:B):Ag:=⟨⟨6,a,1⟩,U 64 0,0,0,I,I,0,I,[f],v⟩
def Yw{a f:B}{v:B->G B}(l:a<65536)(j:IL v):(Ag.ar a v f).ae BM:=⟨by show 1<=64;decide,by show 6<16;decide,l,BI,A,by show 0<8;decide,j⟩
def bN{f a:B}{v:B->G B}(j:a<48):Dk BM 24 a (.t I (B0 6 0)) (Ag.ac f v) (Ag.ar f v a):=bE (c:=BM) (a:=Ag.ac f v) Ht A 0 a A Z Z (by show a+1<=48;omega)
section
variable{f c d e:B}{s:Co}{a:Aj}{lo:F×F}{g:B}
def ACH{n:B}{v:B->G B}(j m:B)(l:Hr s a lo (g+2))(p:IL v)(o:n<65536)(q:j<48)(r:m<256):
 Z9 13 [A5 f,N j,N m] (DY f BM c d e s (Ag.ac n v) a lo) λF t=>F=X R/\LN f (Ag.ac n (Cm v j (U 128 m))) g t:=by
 have y:=Nu 24 j Y;have x:=Yb m r;have z:=Nv (h:=f) (e:=c) (f:=d) (g:=e) (i:=g+1) l (JM o p) (Yw o p) (bN q) ⟨Z,Z⟩ Z Y;refine A9.t (J ?_);refine A9.b (y) (J ?_);refine A9.u z ?_;rintro v u ⟨rfl,c,d,e,s,a,lo,l,rfl⟩;refine J ?_;refine A9.b (x) (J ?_);refine A9.u (Yi (h:=f) (e:=c) (f:=d) (g:=e) (i:=g) l (Yw o p) (l:=j) (o:=[]) A A ⟨by show 1<=1;decide,by show 1<=64;decide⟩ A q A r) ?_;rintro v u ⟨rfl,c,d,e,s,a,lo,l,rfl⟩;refine J ?_;refine⟨_,.w _,A,c,d,e,s,a,lo,l,?_⟩;rfl
end
abbrev Cs.ac(a:Cs)(e:B)(f:A6)(j:Ag):S:=.u (A2 a.j)::.u (A2 a.t)::AO e f a.h a.b::Aq a.h.a j.b::B8 a.h.d j.j::B6 a.h.c f::Cv a.h.g f a.x::CY a.h.e f.i::.t a.h.f [Q a.h.b (f.b/f.c) a.z] 136::.t a.h.b (U (f.b/f.c) (AD 0)++a.aa) 3::CS a.h a.u::De f a.h::Dc f a.h::Dd f a.h::[]
structure RO.b(f:Cs)(j:S)(m:A6)(l:Ag)(n:BL):Prop where
 nB:f.w m l
 nA:∀a,AQ (n::.u (A2 j)::a) (.u (A2 f.v)::a)
def Ph(j:A6)(e:B)(f:Ag)(l:BL):C0:=HW λa:{a:Cs×S//RO.b a.1 a.2 j f l}=>.u (A2 a.1.2)::a.1.1.ac e j f
def AQ.ap{x:Type}{j:x->S}{f l:S}(o:∀a,AQ (j a++f) l):AQ (.u (HW j)::f) l:=λm u t=>by
 obtain⟨n,⟨a,p⟩,q,r⟩:=D5.b.1 t;exact((AQ.ac (j a) f).t (o a)) m u (D5.b.2 ⟨n,p,q,r⟩)
def Xs{j:A6}{e:B}{f:Ag}{l:BL}(a:S):AQ (l::.u (Ph j e f l)::a) (.u (Bb j e f)::a):=by
 refine(AQ.u (D3 _ _ _)).t (AQ.ap λ⟨⟨n,o⟩,m⟩=>?_);dsimp only;refine AQ.t (a:=l::.u (A2 o)::(n.ac e j f++a)) (AQ.u ((List.perm_append_comm_assoc _ [l] _).trans (DZ A))) ((m.nA _).t (AQ.t ?_ (KC m.nB a)));exact AQ.u (GS.t (f:=n.i e j f) Y0)
def Yn(e:B)(f:A6)(M:f.e)(j:Ag)(o:B)(Y:o<f.a):Z9 11 [A5 e,N o] [.u (Bb f e j)] λZ x=>∃m t l,(l.drop 0).take 128=(j.u o).map W/\(j.u o).length=128/\Z=Q m 128 t/\x=[.t m l 5,.u (Ph f e j (.t m l 5))]:=by
 refine A9.ah λ⟨n,a⟩=>?_;dsimp only;refine A9.aa (A9.u (S_ e f M n.h n.b n.u n.v j.u o f.i a.nB Y) ?_);rintro v aa ⟨m,t,l,q,z,F,G,L,rfl,rfl⟩;obtain⟨r,u⟩:=Kp F;have U:RO.b {n with v:=q} r f j (.t m l 5):=⟨⟨a.nG,a.nJ,a.nF,a.nE,a.nH,a.nI,a.nM,a.nK,a.nL,z,a.nA,a.nC,a.nD⟩,λy=>(u y).2⟩;refine⟨_,?_,m,t,l,G,L,A,A⟩;refine(AQ.u (GS.t (f:=[.u (A2 q)]) Y0)).t ((u _).1.t (AQ.z _ ?_));exact AQ.t (AQ.b (g:=.u (A2 r)::({n with v:=q}:Cs).ac e f j)) (AQ.ad (λp:{p:Cs×S//RO.b p.1 p.2 f j (.t m l 5)}=>.u (A2 p.1.2)::p.1.1.ac e f j) ⟨⟨{n with v:=q},r⟩,U⟩ (Bi _))
def Xv(f:(er.drop 0).take 128=q.map W)(l:q.length=128):er[0+0*1]?=C (W (q.getD 0 0)):=by
 have a:=AB (λj:G M=>j[0]?) f;simp only[CJ,D_] at a;rw[Is,A8 Z] at a;rw[show 0+0*1=0 from A,a,AY,Aw Y];rfl
def ACB:AK 4 [] [] (X R):=by
 have u:=IL.b.j 3 7 Z;have B:Cm (λ_=>U 128 0) 3 (U 128 7) 52=U 128 0:=A;have y:Cm (λ_=>U 128 0) 3 (U 128 7) 3=U 128 7:=A;obtain⟨m,M⟩:∃m,Cm (λ_=>U 128 0) 3 (U 128 7)=m:=⟨_,A⟩;refine A9.t (J ?_);refine A9.b (Yo) (J ?_);refine A9.u Ym ?_;rintro v o ⟨p,rfl,f,j,a,r,n,q,l,rfl⟩;refine J ?_;have z:=ACH (f:=p) (c:=f) (d:=j) (e:=a) (g:=98) (n:=0) 3 7 l IL.b Z Z Z;rw[M] at z B y u;refine A9.u z ?_;rintro v o ⟨rfl,f,j,a,r,n,q,l,rfl⟩;refine J ?_;refine A9.b (ABu) (J ?_);refine A9.u (ACG (h:=p) (e:=f) (f:=j) (g:=a) (i:=88) l (JM (a:=0) Z u) A ⟨A,A,A,A⟩ B) ?_;rintro v o ⟨rfl,f,j,a,r,n,q,l,rfl⟩;refine J ?_;refine A9.u (Yn a BM Ht (Ag.ac 0 m) 3 Z) ?_;rintro v o ⟨x,N,t,F,G,rfl,rfl⟩;have L:=Xv F G;refine A7 ?_;refine Ms.mk (v:=W 7) (by show t[0+0*1]?=C (W 7);rw[L];show C (W ((m 3).getD 0 0))=_;rw[y];rfl) ?_;refine J ?_;refine A9.w (a:=DY p BM f j a r (Ag.ac 0 m) n q) ((AQ.u (GS.t (f:=[.t x t 5,.u (Ph BM a (Ag.ac 0 m) (.t x t 5))]) Y0)).t ((Xs _).t AQ.b)) (A9.u (Yj (h:=p) (e:=f) (f:=j) (g:=a) (i:=87) l (JM (a:=0) Z u) A (by show 0<48;decide)) ?_);rintro v o ⟨rfl,f,j,a,r,n,q,l,rfl⟩;refine J ?_;exact⟨[],AQ.b,A,A⟩
abbrev Cs.ab(a:Cs)(l:B)(f:Ag)(j:S):S:=.u (A2 a.j)::.u (A2 a.t)::AO l BM a.h a.b::Aq a.h.a f.b::B8 a.h.d f.j::B6 a.h.c BM::Cv a.h.g BM a.x::CY a.h.e BM.i::.t a.h.f [Q a.h.b (BM.b/BM.c) a.z] 136::.t a.h.b (U (BM.b/BM.c) (AD 0)++a.aa) 3::CS a.h a.u::De BM a.h::Dc BM a.h::Dd BM a.h::.u (A2 a.v)::j
def ACF(t:B)(a:Ag)(m:B)(r:S):Prop:=∃(j l n:B)(q:Co)(f:Aj)(p:F×F)(o:Cs),Hr q f p m/\o.w BM a/\r=o.ab n a [Bd t BM j l n q,.u (As BM l j a f p)]
def A9.aq{args:G M}{m:B}(y:Z9 l args lg λv a=>v=X R/\LN p ye m a):Z9 l args lg λv a=>v=X R/\ACF p ye m a:=
 ⟨λu af aa P=>(y.ag u af aa P).mono λag ah⟨v,a,z,⟨Q,o,q,f,t,n,r,L,F⟩,j⟩=>by
  subst F;have V:=(AQ.u (GS.t (a:=DY p BM o q f t ye n r) (f:=[.u (Bb BM f ye)]) Y0)) _ _ j.b.f;obtain⟨x,⟨⟨U,N⟩,W⟩,Y,Z⟩:=D5.b.1 V;exact⟨v,_,z,⟨Q,o,q,f,t,n,r,U,L,N,A⟩,⟨AQ.ac _ _ _ _ (D5.b.2 ⟨x,W,Y,Z⟩),j.b.b⟩,j.g⟩⟩
def Yk{f:Co}{a:Cs}(j:a.w BM ye):AQ (a.ab xu ye [Bd l BM p np xu f,.u (As BM np p ye xy zc)]) (DY l BM p np xu f ye xy zc):=
 (KC j _).t (AQ.ab Y0)
def kE(q x:B)(m:A6)(o:Ag)(p:Aj)(y:F×F)(arg z:B)(n:B4)(N:arg<4294967296)(U:o.b.a<16)(S:n.a<16)(L:n.a≠6)(Q:B5 o.b.a ((13:B):F) (o.b.b arg)=((z:F),R))(P:o.b.e 13 arg=(R,R,n)):
 Ay 98 [A5 q,BY 13 arg,X R] [.u (As m q x o p y)] (Ar I A0 (B0 n.a o.v) A0) [.u (As m q x {o with b:=n,v:=0,t:=0,w:=[]} p y)]:=by
 refine Gz λj l=>?_;have G:({j.c with a:=0}:BV).t n.a={j.c with a:=0,d:=A0,f:=A0,g:=0}:=A1 L;have M:=I4 q m j p o {j.c with a:=0} n 13 arg z (λv r=>v=Ar I A0 (B0 n.a o.v) A0/\r=A_ j.a.c m j.b {j.c with a:=0,d:=A0,f:=A0,g:=0,e:=0}::Av j.b.a n::BH q m j.a::.u (At m j.a.b j.a.a p)::j.d m) l.nA l.nA N Y Y Y Q P (eD j.a.c m j.b j.c 13 Y) (by
  rw[G];refine A9.ad (VB j.a.c m j.b _ n S 13 arg Y) Y0 (λv r u=>?_);obtain⟨rfl,rfl⟩:=u;exact⟨_,_,_,_,_,_,_,_,{j.c with a:=0,d:=A0,f:=A0,g:=0,e:=0},Av j.b.a n::BH q m j.a::.u (At m j.a.b j.a.a p)::j.d m,l.nA,A,A,by show Ar _ _ (B0 _ j.c.e) _=_;rw[l.nJ],A⟩)
 refine A9.ac (j:=[.u (A2 j.e)]) M λv r u=>?_;obtain⟨rfl,rfl⟩:=u;refine⟨{o with b:=n,v:=0,t:=0,w:=[]},p,{j with c:={j.c with a:=0,d:=A0,f:=A0,g:=0,e:=0},e:=[]},[],?_,?_,A,A⟩
 ·exact⟨l.nH,l.nD,l.nE,l.nF,l.nI,l.nA,A,A,l.nM,l.nL,l.nK,l.nN,A,AT ⟨A,A,_,_,A⟩,l.nB,l.nC,l.nG⟩
 ·exact(JN _ _).t (AQ.z _ (AQ.z _ (AQ.u (EE (l₁:=[_,_])).symm)))
def bB(m:ye.b.a=4)(arg:B)(u:arg<4294967296)(x:ye.b.b arg=R):Dk xp 13 arg (.t I (B0 4 ye.v)) ye {ye with v:=0,t:=0,w:=[]}:=by
 have o:B5 ye.b.a ((13:B):F) (ye.b.b arg)=(((4:B):F),R):=by rw[m,x];decide
 have n:=I0 o Z Z Z;have y:ye.b.c 4=ye.b:=by rw[<-m];exact MU
 rw[y] at n;have q:=λj f p a=>kE j f xp ye a p arg 4 ye.b u Y Y Y o n;have r:=λl=>mF l xp ye arg 4 ye.b u Y Y o n;rw[m] at q r;exact⟨λj f p a _=>(J3.d (q j f p a)).b,λl=>.a (r l)⟩
def h5(a:F):-9223372036854775808<=IntKind.i64.wrap a/\IntKind.i64.wrap a<=9223372036854775807:=by
 unfold Kd;simp[Kb,Kc];omega
def g9(a j:B):BN a (j+1)=a::BN (a+1) j:=by
 unfold BN;rw[List.range_succ_eq_map,List.map_cons,List.map_map];congr 1;exact List.map_congr_left λf _=>by show a+(f+1)=a+1+f;omega
abbrev Ag.ak(a:B)(v:B->G B):Ag:=⟨⟨4,0,0⟩,U 64 0,0,a,I,I,0,I,[],v⟩
abbrev Ag.ag(f a:B)(v:B->G B):Ag:=⟨⟨6,0,a⟩,U 64 0,0,0,I,I,0,I,BN f a,v⟩
def Ag.ah(f a:B)(v:B->G B):Ag:=if a=0 then Ag.ac 0 v else Ag.ag f a v
def Of{v:B->G B}(a:IL v):(Ag.ak l v).ae BM:=⟨Af _,by show 4<16;decide,by show 0<65536;decide,BI,A,by show 0<8;decide,a⟩
def YD{v:B->G B}(f:p<=64)(a:IL v):(Ag.ag l p v).ae BM:=⟨by show(BN l p).length<=64;simpa[BN] using f,by show 6<16;decide,by show 0<65536;decide,BI,A,by show 0<8;decide,a⟩
def bJ{v:B->G B}(n:1<=l/\l<=5):Dk BM 23 l (.t I (B0 4 0)) (Ag.ac 0 v) (Ag.ak l v):=by
 have a:=bD (c:=BM) (a:=Ag.ac 0 v) A l Y Y;have f:l%65536=l:=Y;have j:(l/2147483648==1)=I:=by rw[AEi Y];rfl
 have m:(l/1073741824%2==1)=I:=by rw[AEi Y];rfl
 rw[f,j,m] at a;exact a
def bL{v:B->G B}(f:1<=p/\p<=5)(a:l+p<=48):Dk BM 25 l (.t I (B0 6 0)) (Ag.ak p v) (Ag.ag l p v):=bG (c:=BM) (a:=Ag.ak p v) Ht A 0 l A Z Z (by show 0<p;omega) (by show p<=64;omega) A (by show l+p<=48;omega)
def UU{v:B->G B}(a:l+1<=48):Dk BM 25 l (.t I (B0 6 0)) (Ag.ac 0 v) (Ag.ag l 1 v):=bF (c:=BM) (a:=Ag.ac 0 v) Ht A 0 l A Z Z A (by show l+1<=48;omega)
def bM{v:B->G B}:Dk BM 13 0 (.t I (B0 4 0)) (Ag.ak l v) (Ag.ac 0 v):=bB (xp:=BM) (ye:=Ag.ak l v) A 0 Z A
def bK{v:B->G B}(a:IL v):Dk BM 17 3 (.y (B0 4 0) (v 3)) (Ag.ak l v) (Ag.ac 0 v):=UT (c:=BM) (a:=Ag.ak l v) Ht A 0 3 A Z Z Z (a 3 Z).2
def AAa{v:B->G B}:(Ag.ag l (p+1) v).al l (BN (l+1) p) q=Ag.ah (l+1) p (Cm v l q):=by
 unfold Ag.ah;by_cases a:p=0
 ·subst a;rw[A8 A];rfl
 ·rw[A1 a];have f:(B4.g ⟨6,0,p+1⟩)=⟨6,0,p⟩:=by unfold B4.g;rw[A1 (by show¬p+1=1;omega)];rfl
  show Ag.mk (B4.g ⟨6,0,p+1⟩) _ _ _ _ _ _ _ _ _=_;rw[f]
structure OY(f m:B)(l:B->G B):Prop where
 a:IL l
 c:∀n,n<m->(l (f+n)).getD 0 0≠0
 b:∀j,j<f\/f+m<=j->l j=U 128 0
def OY.e(a:B):OY a 0 λ_=>U 128 0:=⟨IL.b,λj f=>CV f (Zr j),λ_ _=>A⟩
def OY.d{v:B->G B}(a:OY l p v)(m:1<=np/\np<256):OY l (p+1) (Cm v (l+p) (U 128 np)):=by
 refine⟨a.a.j _ _ m.2,λf o=>?_,λn q=>?_⟩
 ·unfold Cm;by_cases j:l+f=l+p
  ·rw[A8 j];show np≠0;omega
  ·rw[A1 j];exact a.c f Y
 ·unfold Cm;rw[A1 Y];exact a.b n Y
def Hr.u{f:Co}{m:B}(a:Hr f xy zc (m+1)):Hr f xy zc m:=by
 have j:=a.h;have l:=a.a;have n:=a.g;have o:=a.f;have p:=a.d;have q:=a.c;exact⟨a.e,a.b,a.s,Y,a.i,a.j,a.a,Y,Y,Y,Y⟩
structure aX where
 a:B
 b:B->G B
 d:B
 e:B
 f:B
 i:Co
 c:Aj
 h:F×F
 g:Cs
def dN(ag aj ah al:F)(bc:-9223372036854775808<=ag/\ag<=9223372036854775807)(bd:-9223372036854775808<=aj/\aj<=9223372036854775807)(bf:-9223372036854775808<=ah/\ah<=9223372036854775807):
 AK 3 [N ag,N aj,N ah,N al] [] (X R):=by
 refine A9.t (J ?_);refine A9.b (ACB) (J ?_);refine A9.u (Pv ag 40 bc Z) ?_;rintro v y ⟨l,b1,rfl,rfl⟩;refine J ?_;refine A9.u (Pv aj 5 bd Z) ?_;rintro v y ⟨bn,b4,rfl,rfl⟩;refine J ?_;obtain⟨m,b3⟩:∃m,bn+1=m:=⟨_,A⟩;refine F'.mk ((m:B):F) Y4 (J ?_);refine A9.b (Yo) (J ?_);refine A9.u Ym ?_;rintro v y ⟨t,rfl,o,p,n,L,x,z,r,rfl⟩;obtain⟨M,bj⟩:∃M,(λ_=>U 128 0:B->G B)=M:=⟨_,A⟩;have u:=OY.e l;rw[bj] at u⊢;refine J ?_;refine A9.b (Nu 23 m Y) (J ?_);refine A9.u (Nv (h:=t) (e:=o) (f:=p) (g:=n) (i:=99) r (JM (a:=0) Z u.a) (Of (l:=m) u.a) (bJ Y) ⟨Z,Z⟩ Z Y) ?_;rintro v y ⟨rfl,o,p,n,L,x,z,r,rfl⟩;refine J ?_;refine A9.u (Pv ah 3 bf Z) ?_;rintro v y ⟨b,bx,rfl,rfl⟩;obtain rfl|rfl|rfl:b=0\/b=1\/b=2:=Y;have ay:(((0:B):F)==1)=I:=A;have bs:(((0:B):F)==2)=I:=A;have az:((m:F)!=(m:F))=I:=Y1;have ao:1<=m/\m<=5:=Y;have an:=Of (l:=m) u.a;have am:=bL (l:=l) (v:=M) ao Y;have r:=r.u;let a:B:=m;have aw:a=m:=A;rotate_left;have ay:(((1:B):F)==1)=R:=A;refine J ?_;refine A9.b (Nu 13 0 Z) (J ?_);refine A9.u (Nv (h:=t) (e:=o) (f:=p) (g:=n) (i:=98) r (Of (l:=m) u.a) (JM (a:=0) Z u.a) bM ⟨Z,Z⟩ Z Z) ?_;rintro v y ⟨rfl,o,p,n,L,x,z,r,rfl⟩;have az:(((1:B):F)!=1)=I:=A;have ao:1<=1/\1<=5:=Y;have an:=JM (a:=0) Z u.a;have am:=UU (l:=l) (v:=M) Y;let a:B:=1;have aw:a=1:=A;rotate_left;have ay:(((2:B):F)==1)=I:=A;have bs:(((2:B):F)==2)=R:=A;refine J ?_;refine A9.b (Nu 17 3 Z) (J ?_);refine A9.u (Nv (h:=t) (e:=o) (f:=p) (g:=n) (i:=98) r (Of (l:=m) u.a) (JM (a:=0) Z u.a) (bK u.a) ⟨Z,Z⟩ Z Z) ?_;rintro v y ⟨rfl,o,p,n,L,x,z,r,rfl⟩;have az:(((1:B):F)!=1)=I:=A;have ao:1<=1/\1<=5:=Y;have an:=JM (a:=0) Z u.a;have am:=UU (l:=l) (v:=M) Y;let a:B:=1;have aw:a=1:=A;all_goals
  refine J ?_;refine A9.b (Nu 25 l Y) (J ?_);refine A9.u (A9.aq (Nv (h:=t) (e:=o) (f:=p) (g:=n) (i:=97) r an (YD (l:=l) (p:=a) Y u.a) am ⟨Z,Z⟩ Z Y)) ?_;rintro v y ⟨rfl,o,p,n,L,x,z,ai,r,aa,rfl⟩;refine J ?_;have ar:Ag.ah (l+0) (a-0) M=Ag.ag l a M:=by unfold Ag.ah;rw[A1 Y];rfl
  refine EY.f (m:=aX) (λf=>a-f.a) (λf=>f.a<=a/\OY l f.a f.b/\Hr f.i f.c f.h (97-f.a)/\f.g.w BM (Ag.ah (l+f.a) (a-f.a) f.b)) (λf=>[(0,N (l:B)),(3,N al),(9,A5 t),(10,N (a:B)),(11,N (f.a:B))]) (λf=>f.g.ab f.f (Ag.ah (l+f.a) (a-f.a) f.b) [Bd t BM f.d f.e f.f f.i,.u (As BM f.e f.d (Ag.ah (l+f.a) (a-f.a) f.b) f.c f.h)]) ⟨0,M,o,p,n,L,x,z,ai⟩ ⟨Af _,u,r,by rw[ar];exact aa⟩ ⟨A,A,A,A,A,AA⟩ (by dsimp only;rw[ar];exact AQ.b) ?_;rintro⟨j,v,o,p,n,L,x,z,ai⟩ ⟨bg,af,r,aa⟩ ax;dsimp only at bg af r aa ax⊢;refine EY.b ?_;by_cases bo:j<a
  ·have br:=B7 ((j:F)<(a:B));have a2:Ag.ah (l+j) (a-j) v=Ag.ag (l+j) (a-(j+1)+1) v:=by unfold Ag.ah;rw[A1 Y,show a-j=a-(j+1)+1 by omega]
   have a3:97-j=97-(j+1)+1:=Y;rw[a3] at r;rw[a2] at aa⊢;refine J ?_;refine F'.mk (IntKind.i64.wrap (al+j)) A (J ?_);refine A9.u (Pv _ 200 (h5 _) Z) ?_;rintro v y ⟨bu,b6,rfl,rfl⟩;refine J ?_;obtain⟨f,b5⟩:∃f,bu+1=f:=⟨_,A⟩;refine F'.mk ((f:B):F) Y4 (J ?_);refine A9.b (Yb f Y) (J ?_);have bi:(Ag.ag (l+j) (a-(j+1)+1) v).w=(l+j)::BN (l+j+1) (a-(j+1)):=g9 _ _;have av:=Yi (h:=t) (e:=o) (f:=p) (g:=n) (i:=97-(j+1)) (a:=Ag.ag (l+j) (a-(j+1)+1) v) r (YD Y af.a) (l:=l+j) (o:=BN (l+j+1) (a-(j+1))) (m:=f) bi A ⟨by show 1<=a-(j+1)+1;omega,by show a-(j+1)+1<=64;omega⟩ A Y A Y;rw[AAa] at av;refine A9.w (a:=DY t BM o p n L (Ag.ag (l+j) (a-(j+1)+1) v) x z) ((AQ.b (g:=ai.ab n (Ag.ag (l+j) (a-(j+1)+1) v) [Bd t BM o p n L,.u (As BM p o (Ag.ag (l+j) (a-(j+1)+1) v) x z)])).t (Yk aa)) (A9.u (A9.aq av) ?_);rintro a0 y ⟨rfl,a9,ba,bb,bq,a1,bm,bl,be,bh,rfl⟩;refine J ?_;exact F'.mk ((j+1:B):F) Y2 (ax ⟨j+1,Cm v (l+j) (U 128 f),a9,ba,bb,bq,a1,bm,bl⟩ ⟨bo,af.d ⟨Y,Y⟩,be,bh⟩ Y6 ⟨A,A,A,A,A,AA⟩ AQ.b)
  ·obtain rfl:a=j:=Y;have br:=Aa (((a:B):F)<(a:B));have a4:Ag.ah (l+a) (a-a) v=Ag.ac 0 v:=by unfold Ag.ah;rw[A8 Y]
   rw[a4] at aa⊢;refine J ?_;refine EY.f (m:=B) (λq=>6-q) (λq=>q<=6) (λq=>[(0,N (l:B)),(9,A5 t),(10,N (a:B)),(12,N (q:B))]) (λ_=>DY t BM o p n L (Ag.ac 0 v) x z) 0 (Af _) ⟨A,A,A,A,AA⟩ ((AQ.b (g:=ai.ab n (Ag.ac 0 v) [Bd t BM o p n L,.u (As BM p o (Ag.ac 0 v) x z)])).t (Yk aa)) ?_;intro q b2 bk;refine EY.b ?_;by_cases bp:q<6
   ·have b7:=B7 ((q:F)<6);refine A7 ?_;refine A9.u (Yn n BM Ht (Ag.ac 0 v) (l+q) (by show l+q<56;omega)) ?_;rintro a0 y ⟨au,bv,ak,a5,a6,rfl,rfl⟩;have a7:=Xv a5 a6;obtain⟨S,ap⟩:∃S,(v (l+q)).getD 0 0=S:=⟨_,A⟩;have b8:(!(((S:F)!=0)==decide ((q:F)<(a:B))))=I:=by
     by_cases bt:q<a
     ·have aq:S≠0:=by rw[<-ap];exact af.c q bt
      rw[DH Y,show((S:F)!=0)=R by simpa using aq];rfl
     ·have aq:S=0:=by rw[<-ap,af.b (l+q) (Ae Y)];rfl
      rw[F2 Y,aq];rfl
    refine A7 ?_;refine Ms.mk (v:=W S) (by show ak[0+0*1]?=C (W S);rw[a7];show C (W ((v (l+q)).getD 0 0))=_;rw[ap]) ?_;refine J ?_;exact F'.mk ((q+1:B):F) Y2 (bk (q+1) bp Y ⟨A,A,A,A,AA⟩ ((AQ.u (GS.t (f:=[.t au ak 5,.u (Ph BM n (Ag.ac 0 v) (.t au ak 5))]) Y0)).t ((Xs _).t AQ.b)))
   ·obtain rfl:q=6:=Y;have a8:97-a=96-a+1:=Y;rw[a8] at r;refine J ?_;refine A9.u (Yj (h:=t) (e:=o) (f:=p) (g:=n) (i:=96-a) r (JM (a:=0) Z af.a) A (by show 0<48;decide)) ?_;rintro a0 y ⟨rfl,o,p,n,L,x,z,r,rfl⟩;refine J ?_;exact⟨[],AQ.b,A,A⟩
variable{xs:AG}
def J0.f(l:laidMet An [("math/bits.deBruijn64tab",Rows.laid_math_bits_deBruijn64tab)] xs):J0 xs:=by
 have m:Lib.TabIs An xs "math/bits.deBruijn64tab" BQ (Lib.deBruijn64tab.map λf:B=>(f:F)):=
  Lib.tabIs_of_head (rest:=[]) (g:=1) Y3 Y3 Tryz.underlying132 Tryz.underlying5 Y3 Y3 l
 intro a j;have:=m.cell (g:=1) Y3 a (by rw[BW];exact j);refine this.trans ?_;have:∀a,a<64->(Lib.deBruijn64tab.map λf:B=>(f:F)).getD a 0=((Lib.deBruijn64tab.getD a 0:B):F):=by decide+kernel
 rw[this a j]
theorem AFL(f l j n:F)(a:AG)(q:-9223372036854775808<=f/\f<=9223372036854775807)(r:-9223372036854775808<=l/\l<=9223372036854775807)(t:-9223372036854775808<=j/\j<=9223372036854775807)(u:J0 a):
 CL An 3 #[N f,N l,N j,N n] a λm o=>m=BT (X R)/\Below a.heap.size a o:=by
 refine((dN f l j n q r t).ag (λ_=>False) a a ⟨Dn.s (yl:=[]) (D5.t _ _),⟨id,u⟩⟩).mono ?_;rintro m o ⟨v,y,rfl,⟨rfl,rfl⟩,p⟩;exact⟨A,p.b.b.j (λ_ x=>x.elim) (AI _)⟩
