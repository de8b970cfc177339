/- Lemmas. -/
import Derived.Test.YtlklgghcliobfaaGreatDoorP02
import Derived.RangeFuncBox
import Derived.RangeFuncLeaves
import Derived.RangeFuncNested
import Derived.RangeFuncBound
import Derived.RangeFuncCalls
import Derived.Shelf.Abstract
import Derived.Shelf.RegionOpen
import Derived.WalkKit
import Derived.OwnWalkIn
import Derived.TacticsInMore
import Derived.LoopNIn
import Derived.LoopIn
import Derived.Maps.AppendAt
import Derived.Sort.QuietIn
import Derived.Deep.Upon
namespace Go.Proofs.YtlklgghcliobfaaGreatDoor
open Go Go.RowKit
open _root_.Array renaming replicate_succ->Jc,replicate_zero->Jd
open Bool renaming and_eq_true->GK,eq_iff_iff->Iy,false->I,false_and->a9,not_eq_true->Mp,not_eq_true'->K',true->R,true_and->OJ
open Decidable renaming decide->Ac,not_not->Th
open Go renaming Addr->CW,Calls->CL,CallsIn->Jg,MapEntry->CO,SeqStopsK->TF,TypeId->AU,TypeInfo->EU,Value->M,World->AG,bodyPost_ret->Q4,callFunc->Ey,callsIn_of_wp->M_,loadCells->Mb,loadCellsFrom->Nz,maxLen->BP,undef->Cw
open Go.Ending renaming returned->BT
open Go.Fn renaming func->CA
open Go.IntKind renaming i64->H,u32->Ax,u64->Au
open Go.Lib renaming hid->Ap
open Go.Obj renaming map->AM,mapIter->Cy
open Go.Proofs.Tryz renaming func487->ADU,prog->An
open Go.RowKit renaming Below->Bq,Hid->JW,intOf->Cc
open Go.RowKit.Below renaming alloc->AD8,refl->DT
open Go.Value renaming agg->AV,bool->X,func->BZ,iface->Cd,int->D,map->Ah,nilIface->Hf,pointer->T,slice->O,tuple->AL
open List renaming append_assoc->BS,append_nil->B1,append_toArray->JY,cons_append->DU,contains_iff_mem->Gi,drop_append_of_le_length->IB,drop_eq_getElem_cons->HF,drop_zero->CJ,filter_append->EO,filter_cons->HG,filter_nil->AET,flatMap_append->KP,flatMap_cons->FE,flatMap_nil->QC,foldl->Zf,foldl_append->KQ,foldl_cons->DN,getD_eq_getElem?_getD->AY,getElem?_append_left->Di,getElem?_eq_getElem->Aw,getElem?_eq_none->Dm,getElem?_eq_some_iff->Cx,getElem?_map->D_,getElem?_set->EV,getElem_mem->Gk,length->O4,length_append->Ad,length_cons->C8,length_drop->DV,length_eq_zero_iff->Hi,length_filter_le->Ez,length_map->BW,length_mergeSort->O5,length_nil->FV,length_range->Dj,length_replicate->BI,length_set->B_,length_singleton->JZ,length_take->Ci,map_append->CU,map_cons->Ee,map_drop->Hj,map_map->Iu,map_replicate->FF,map_set->J_,map_take->Hk,mem_append->Bs,mem_cons->C2,mem_cons_of_mem->By,mem_cons_self->Bt,mem_filter->CF,mem_map->CI,mem_mergeSort->KS,mem_of_getElem?->FW,mem_of_mem_drop->EP,mem_of_mem_take->EW,mem_range->Ce,mem_replicate->FX,mem_singleton->CZ,mergeSort->AE4,ne_nil_of_length_pos->Zj,nil_append->Bz,nodup_append->ID,nodup_cons->O6,nodup_nil->O7,nodup_range->TU,pairwise_iff_getElem->AE6,perm_append_comm->Cj,perm_append_comm_assoc->QE,perm_ext_iff_of_nodup->AE7,perm_middle->EE,push_toArray->KT,range->AH,range_succ->DO,replicate->U,set_cons_succ->Mj,set_cons_zero->Mk,size_toArray->KV,take_add_one->KW,take_append_of_le_length->Eg,take_left'->C_,take_length->LZ,take_of_length_le->DP,take_succ_eq_append_getElem->TW,take_zero->Hn
open List.Nodup renaming mem_erase_iff->AEJ
open List.Perm renaming append_left->AEL,refl->Bi,swap->D3,trans->Me
open Min renaming min->Bj
open Nat renaming add_comm->L_,add_mul->QF,add_zero->L',and_one_is_mod->AEf,ble_eq_true_of_le->Zn,div_le_self->Iv,le_of_ble_eq_true->DW,le_of_eq->QH,le_refl->AI,le_trans->D9,lt_or_ge->Ck,mul_le_mul_right->OD,mul_one->B3,one_mul->T_,reduceAdd->KX,reduceSub->KY,succ_mul->Lc,succ_pos->Zv,zero_add->BF,zero_le->Af,zero_mul->Mn
open Option renaming getD->AFU,getD_some->IG,isSome->Ix,map->a0,map_eq_some_iff->a1,map_some->Ld,none->E,some->C
open Option.some renaming inj->Gl,injEq->EX
open Or renaming inl->AT,inr->Ae
open Prod.mk renaming injEq->F0
open _root_ renaming Array->Ai,Bool->AE,Int->F,List->G,Nat->B,Option->AC,absurd->CV,beq_eq_false_iff_ne->Bv,beq_iff_eq->F1,bne_iff_ne->Bn,congrArg->AB,decide_eq_false->F2,decide_eq_true->DH,if_neg->A1,if_pos->A8,rfl->A,trivial->AA,true_and->a4
set_option linter.all false
set_option maxHeartbeats 8000000
set_option maxRecDepth 100000
def FL(f:G B)(a:AC B)(b:B):AE:=C b==a||f.contains b
def hI(q r n l p j:B)(a:G B)(o:G M)(f:AC B)(t u:AU)(x y z N:M)(S:a.length<=1000):
 AK 425 [AD j,P q,P r] [.t q [P n] t,.t r [Q l a.length p] u,.t n [x,y,D1 f,z,N] 477,BJ l a o] (X (!FL a f j)):=by
 refine A9.t (L ?_);by_cases m:f=C j
 ·have W:((j:F)!=Ca f)=I:=by rw[m];simp[Ca]
  refine L ?_;refine⟨_,.w _,?_,A⟩;rw[FL,m];simp[FA]
 ·have W:((j:F)!=Ca f)=R:=by
   cases S:f with
   |none=>simp only[Ca,Bn];omega
   |some Z=>rw[S] at m;simp only[Ca,Bn];intro aa;exact m (by congr 1;omega)
  refine L ?_;refine A9.b (V2 l 0 a.length p a (a.map AD++o) 3 j A (KE a o _ A) Y) (L ?_);refine⟨_,AQ.b (g:=[.t q [P n] t,.t r [Q l a.length p] u,.t n [x,y,D1 f,z,N] 477,BJ l a o]),?_,A⟩;have:(C j==f)=I:=by simp;exactλU=>m U.symm
  rw[FL,this,Bool.false_or];rfl
def hJ(p u o y:B)(f:D0)(j:J5)(l:G B)(r:G M)(W:B)(n:D0.e W f j)(ak:l.length<=1000)(aj:∃b∈j.a,FL l j.c b=R):
 Z9 350 [P p,Q o l.length y] (f.c p u j++[BJ o l r]) λv Z=>∃Y:D0,D0.e W Y {j with a:=j.a.filter (FL l j.c)}/\Z=Y.c p u {j with a:=j.a.filter (FL l j.c)}++[BJ o l r]:=by
 refine A9.t ?_;intro z F;refine L ?_;have S:=V7 (g:=f.b) (h:=j.a.length) (c:=f.f) (d:=425) (fs:=[]) (fc:=[P z,P F]) (e:=_) (f:=j.a) (j:=f.h) (a:=[.t z [P p] 280,.t F [Q o l.length y] 48,.t p [P u,Q f.b j.a.length f.f,D1 j.c,D Au j.d,Ah (C f.d)] 477,BJ o l r]) (i:=λt=>!FL l j.c t) A A (by have:=n.nA;omega) n.nB.1 (λt _=>hI z F p o y t l r j.c _ _ _ _ _ _ ak);simp only[Bool.not_not] at S;obtain⟨m,q⟩:∃m,j.a.filter (FL l j.c)=m:=⟨_,A⟩;rw[show(j.a.filter λt=>FL l j.c t)=m from q] at S;refine A9.u (S) ?_;rintro v am ⟨U,an,rfl,rfl⟩;refine A7 ?_;obtain⟨b,aa,af⟩:=aj;have ah:0<m.length:=by rw[<-q];exact List.length_pos_of_mem (CF.2 ⟨aa,af⟩)
 have ao:m.length<=j.a.length:=by rw[<-q];exact Ez _ _
 have ai:∀b∈m,b∈j.a:=λb x=>by rw[<-q] at x;exact(CF.1 x).1
 have ag:=n.nB;have al:=n.nA;rw[q];refine⟨_,AQ.b (g:=(⟨f.b,f.f,U,f.d,f.s,f.j,f.a,f.g,f.i⟩:D0).c p u {j with a:=m}++[BJ o l r]),⟨f.b,f.f,U,f.d,f.s,f.j,f.a,f.g,f.i⟩,⟨⟨by show m.length<=f.f;omega,ag.2.1,by show U.length=f.f-m.length;omega⟩,n.nD,n.nE,n.nG,⟨ah,by show m.length<=12;omega,λb x=>al.2.2 b (ai b x)⟩,n.nF⟩,A⟩
def b4(q t b:B)(f:D0)(j:J5)(z:B)(r:D0.e z f j)(aa:b<70)(al:j.a.length<12):
 Z9 414 [P q,N b] (f.c q t j) λv G=>∃F:D0,D0.e z F {j with a:=(j.a++[b]).mergeSort}/\G=F.c q t {j with a:=(j.a++[b]).mergeSort}:=by
 have n:=r.nB;have ag:=r.nA;obtain⟨l,u⟩:∃l,(j.a++[b]).mergeSort=l:=⟨_,A⟩;have af:l.length=j.a.length+1:=by rw[<-u,O5];simp
 rw[u];refine A9.t ?_;refine L ?_;intro S;refine Cr.y (j:=_) A A A A A A A ⟨A,Z⟩ ⟨?_,n.1,n.2.1⟩ [AD b] A A A ⟨Y,Z⟩ (λp o m aj U W=>?_)
 ·rw[Ad,BW];show _=f.f*1;omega
 refine A7 ?_;have ak:m.length=(o-(j.a.length+1))*1:=W;have M:((j.a.map AD++f.h).take (j.a.length*1)++[AD b]++m)=(j.a++[b]).map AD++m:=by
  rw[C_ Y1,CU];rfl
 refine A9.w (a:=BJ p (j.a++[b]) m::[.t S [AD b] 3,.t q [P t,Q p (j.a.length+1) o,D1 j.c,D Au j.d,Ah (C f.d)] 477,.o f.d (AM (C6 j.b f.a f.g f.j) f.s),Dr j.b f.a f.i]) ?_ ?_
 ·show AQ (.t p ((j.a.map AD++f.h).take (j.a.length*1)++[AD b]++m) 3::_) _;rw[M];exact .w _
 have y:=Pp p (j.a.length+1) o (j.a++[b]) m Y1 Y;rw[u] at y;refine A9.u (y) (λv ai ah=>?_);obtain rfl:=ah;refine L ?_;refine⟨(⟨p,o,m,f.d,f.s,f.j,f.a,f.g,f.i⟩:D0).c q t {j with a:=l},?_,⟨p,o,m,f.d,f.s,f.j,f.a,f.g,f.i⟩,⟨⟨by show l.length<=o;omega,U,by show m.length=o-l.length;omega⟩,r.nD,r.nE,r.nG,⟨by show 0<l.length;omega,by show l.length<=12;omega,λx n=>?_⟩,r.nF⟩,A⟩
 ·show AQ _ [.t q [P t,Q p l.length o,D1 j.c,D Au j.d,Ah (C f.d)] 477,BJ p l m,.o f.d (AM (C6 j.b f.a f.g f.j) f.s),Dr j.b f.a f.i];rw[af];exact AQ.b
 ·have n:x∈l:=n;rw[<-u,KS,Bs,CZ] at n;rcases n with n|rfl
  ·exact ag.2.2 x n
  ·exact aa
variable{q:G B}
def j1(n:q.Nodup):∀a,a+1<q.mergeSort.length->q.mergeSort.getD a 0<q.mergeSort.getD (a+1) 0:=by
 intro a j;have l:(q.mergeSort).Pairwise (·<=·):=by
  have:=List.pairwise_mergeSort (le:=λf b:B=>Ac (f<=b)) (by intro f b o;simp;omega) (by intro f b;simp;omega) q;exact this.imp Y1
 have m:(q.mergeSort).Nodup:=(List.mergeSort_perm q _).nodup_iff.2 n;have p:=AE6.1 l a (a+1) Y j Y;have r:=AE6.1 m a (a+1) Y j Y;rw[AY,AY,Aw Y,Aw j];simp only[IG];omega
variable{yf:AX}{l p np xu:B}
def YT(o U Z u ag f m:B)(j:G B)(t:G M)(z:AU){ap:G D4}(aw:C3 m yf l ap p np xu)(ak:j.length=f)(az:(t.drop 0).take f=j.map AD)(a0:3<=f/\f<=12)(a1:j.Nodup)(ay:∀b∈j,b<70):
 Z9 251 [P o,Q u f ag] (.t u t z::yf.b o U Z) λv ao=>∃(x:B)(an:D0),D0.e 0 an ⟨j.mergeSort,E,0,E⟩/\v=AL #[P x,N 0]/\ao=an.c x o ⟨j.mergeSort,E,0,E⟩++(.t u t z::yf.b o U Z):=by
 obtain⟨a,y⟩:∃a,j.mergeSort=a:=⟨_,A⟩;have q:a.length=f:=by rw[<-y,O5,ak]
 have ah:∀b∈a,b<70:=λb aj=>by rw[<-y,KS] at aj;exact ay b aj
 have ai:=j1 a1;rw[y,q] at ai;rw[y];have a8:=Aa ((f:F)<3);have a9:=Aa ((f:F)<(f:F));have ba:=Aa (((a.getD 0 0:B):F)<0);have a7:a.getD (f-1) 0<70:=ah _ (JH Y);have bb:=Aa (((a.getD (f-1) 0:B):F)≥70);refine A9.t ?_;refine A9.u (ACb _ _ _ []) ?_;rintro v af ⟨av,rfl,rfl⟩;have al:=AB8 av u 0 f ag j t 48 z ak az ⟨Y,a0.2⟩;rw[y] at al;refine A9.u (al) ?_;rintro v af ⟨S,r,n,a2,ax,a3,rfl,rfl⟩;refine L ?_;refine A9.b (LJ U yf.a aw.d) (L ?_);refine A9.u (Oe S 0 f r a (a.map AD++n) 3 Y (KE a n f q) q Y) ?_;rintro v af ⟨au,aq,am,a4,a5,a6,rfl,rfl⟩;refine L ?_;refine A9.b (dA au 0 f aq a (a.map AD++am) 3 q (KE a am f q) Y ai) (L ?_);refine Qh.mk 0 A Y (L ?_);refine Ms.mk (v:=AD (a.getD 0 0)) ?_ ?_
 ·exact H4 (q:=a) (er:=n) (l:=0) Y
 refine L ?_;refine F'.mk ((f-1:B):F) Y4 (A' ?_);refine Ms.mk (v:=AD (a.getD (f-1) 0)) ?_ ?_
 ·exact H4 (q:=a) (er:=n) (l:=f-1) Y
 refine L ?_;intro W x;refine L ?_;refine⟨_,?_,x,⟨S,r,n,W,0,0,0,0,[]⟩,⟨⟨by show a.length<=r;omega,ax,by show n.length=r-a.length;omega⟩,El.b,(λar aa=>by cases aa),(λar aa=>by cases aa),⟨by show 0<a.length;omega,by show a.length<=12;omega,ah⟩,AI _⟩,A,A⟩;show AQ _ ([.t x [P o,Q S a.length r,D1 E,D Au (0:B),Ah (C W)] 477,BJ S a n,.o W (AM #[] 0),Dr E 0 []]++(.t u t z::yf.b o U Z));rw[q];exact(AQ.aa [] _).t AQ.b
def FK(a:K)(f:G B):K:=f.foldl (λa b=>a.cx b I) a
def eX(f:G B):∀a:K,(FK a f).aa=a.aa/\(FK a f).aq=a.aq/\(FK a f).av=a.av/\(FK a f).bn=a.bn/\(FK a f).aj=a.aj/\(FK a f).i=a.i:=by
 induction f with
 |nil=>intro a;exact⟨A,A,A,A,A,A⟩
 |cons l f j=>intro a;exact j (a.cx l I)
def eY(f:K)(a:G B)(j:B):FK f (a++[j])=(FK f a).cx j I:=by simp[FK]
def ABR(l q p u aq m:B)(j:K)(W:G B)(t:G M)(y:AU)(S:B){x:AX}(au:B2 S x j)(bb:(t.drop 0).take m=W.map AD)(ax:W.length=m)(bd:3<=m/\m<=12)(be:W.Nodup)(av:∀b∈W,b<70)(a0:Bx j=⟨W.mergeSort,E,0,E⟩)(bg:j.aj=128)(bf:j.i=8\/j.i=16)(bn:S+50<=1000000000):
 Z9 167 [P l,Q u m aq] (.t u t y::x.b l q p) λv a5=>∃(o:B)(a:D0)(ah:AX),D0.e (S+50) a (Bx ((FK j j.aa).cr E))/\B2 (S+50) ah ((FK j j.aa).cr E)/\v=AL #[P o,Hf]/\a5=a.c o l (Bx ((FK j j.aa).cr E))++(.t u t y::ah.b l q p):=by
 obtain⟨f,ak⟩:∃f,W.mergeSort=f:=⟨_,A⟩;have am:f.length=m:=by rw[<-ak,O5,ax]
 have ba:∀b∈f,b<70:=λb aw=>by rw[<-ak,KS] at aw;exact av b aw
 have U:j.aa=f/\j.aq=E/\j.av=0/\j.bn=E:=by
  rw[ak] at a0;simpa only[Bx,J5.mk.injEq] using a0
 have ay:=YT l q p u aq m S W t y au ax bb bd be av;rw[ak] at ay;have bp:=Aa ((m:F)<3);have z:=eX f j;rw[U.1];refine A9.t ?_;refine A9.u (ay) ?_;rintro v ag ⟨o,a,aa,rfl,rfl⟩;refine L ?_;have bo:=aa.nA;have an:=λ(x:AX)=>N7 o l q p a.b m a.f f a.h (D1 E) (D Au (0:B)) (Ah (C a.d)) x am Y Y;refine A9.w (a:=[.t o [P l,Q a.b m a.f,D1 E,D Au (0:B),Ah (C a.d)] 477,BJ a.b f a.h,.o a.d (AM (C6 E a.a a.g a.j) a.s),Dr E a.a a.i]++(.t u t y::x.b l q p)) ?_ ?_
 ·rw[<-am];exact AQ.b
 refine A9.u (an x) ?_;rintro v ag ⟨bl,bj,bq,rfl,rfl⟩;refine L ?_;refine A9.u (an x) ?_;rintro v ag ⟨ar,a6,a3,rfl,rfl⟩;refine L ?_;refine EY.f (m:=B×AX) (λr=>m-r.1) (λr=>r.1<=m/\B2 (S+r.1) r.2 (FK j (f.take r.1))) (λr=>[(0,P l),(6,P o),(32,Q ar m a6),(33,N m),(34,N (r.1:B))])
  (λr=>BJ ar f a3::([.t o [P l,Q a.b m a.f,D1 E,D Au (0:B),Ah (C a.d)] 477,BJ a.b f a.h,.o a.d (AM (C6 E a.a a.g a.j) a.s),Dr E a.a a.i]++(.t u t y::r.2.b l q p))) (0,x) ⟨Af _,by rw[Hn];exact au⟩ ⟨A,A,A,A,A,AA⟩ AQ.b ?_
 rintro⟨n,ai⟩ ⟨bc,aj⟩ a2;dsimp only at bc aj;refine EY.b (IK.mk (λZ=>?_) (λZ=>?_))
 ·have Z:n<m:=by simp at Z;omega
  have bi:f.getD n 0<70:=ba _ (JH Y);have bh:f.take (n+1)=f.take n++[f.getD n 0]:=by
   rw[KW,AY,Aw Y];rfl
  refine A7 ?_;refine Ms.mk (v:=AD (f.getD n 0)) ?_ ?_
  ·exact H4 (q:=f) (er:=a3) (l:=n) Y
  refine A9.u (Rw l q p (f.getD n 0) I aj Y bi) ?_;rintro v ag ⟨ap,a9,rfl,rfl⟩;refine L ?_;refine F'.mk ((n+1:B):F) Z1 (a2 (n+1,ap) ⟨Z,?_⟩ (by show m-(n+1)<m-n;omega) ⟨A,A,A,A,A,AA⟩ AQ.b);show B2 (S+(n+1)) ap (FK j (f.take (n+1)));rw[bh,eY];exact a9
 ·have Z:n=m:=by simp at Z;omega
  subst Z;clear a2;rw[DP Y] at aj;refine A9.u (an ai) ?_;rintro v ag ⟨bm,bk,br,rfl,rfl⟩;refine L ?_;intro al;refine L ?_;have a1:Bx (FK j f)=⟨f,E,0,E⟩:=by
   show J5.mk _ _ _ _=_;rw[z.1,z.2.1,z.2.2.1,z.2.2.2.1,U.1,U.2.1,U.2.2.1,U.2.2.2]
  have az:=XQ o l q p a (FK j f) E al 0 0 0 0 [] (S+n) ai aj (by rw[a1];exact⟨aa.nB,aa.nD,aa.nE,aa.nG,aa.nA,Af _⟩) (by rw[z.2.2.2.2.1];exact bg) (by rw[z.2.2.2.2.2];exact bf) (λa7 ao=>by cases ao) El.b (λa7 ao=>by cases ao) ⟨f.getD 0 0,by rw[z.1,U.1];exact JH Y,by rw[z.2.1,U.2.1];simp⟩ Y;rw[a1] at az;refine A9.w (a:=(a.c o l ⟨f,E,0,E⟩++(.o al (AM (C6 E 0 0 0) 0)::Dr E 0 []::ai.b l q p))++[.t u t y]) ?_ ?_
  ·show AQ _ (([.t o [P l,Q a.b f.length a.f,D1 E,D Au (0:B),Ah (C a.d)] 477,BJ a.b f a.h,.o a.d (AM (C6 E a.a a.g a.j) a.s),Dr E a.a a.i]++(.o al (AM (C6 E 0 0 0) 0)::Dr E 0 []::ai.b l q p))++[.t u t y]);rw[am];exact(AQ.aa [] _).t AQ.b
  refine A9.u (az) ?_;rintro v ag ⟨a4,ah,af,a8,rfl,rfl⟩;refine L ?_;refine⟨_,AQ.b (g:=a4.c o l (Bx ((FK j f).cr E))++(.t u t y::ah.b l q p)),o,a4,ah,?_,a8.b Y,A,A⟩;exact⟨af.nB,af.nD,af.nE,af.nG,af.nA,by have:=af.nF;omega⟩
abbrev J4:=B->AC (B×AC (G B))
def Ch(f:J4)(o:AC (B×B×AC (G B)))(b:B):AC (B×B×AC (G B)):=match f b with
 |none=>o
 |some a=>match o with
  |none=>C (b,a.1,a.2)
  |some j=>if a.1>j.2.1 then C (b,a.1,a.2) else o
abbrev Mq:=AC (B×B×AC (G B))
def PO(o:Mq):AC B:=match o with
 |none=>E
 |some a=>C a.1
def S8(o:Mq):B:=match o with
 |none=>0
 |some a=>a.2.1
def jM(o:Mq):AC (G B):=match o with
 |none=>E
 |some a=>a.2.2
abbrev I7(a:G B)(o:Mq):J5:=⟨a,PO o,S8 o,jM o⟩
abbrev D0.t(f a:D0):D0:=⟨f.b,f.f,f.h,a.d,a.s,a.j,a.a,a.g,a.i⟩
structure Lu(p:B)(l:G D4)(n:J4)(o:G B):Prop where
 a:∀f∈o,n f=E->(BD l f).a=[]
 b:∀f∈o,∀j,n f=C j->∃m,m<=1000/\(BD l f).a.length=m+1/\(BD l f).a[m]?=C (K.cn 192 j.1 j.2)/\j.1<=p/\Nh j.2
def Fv(a:J4)(f:G B):B:=(f.filter λb=>(a b).isSome).length
def ABS(n r t y bd m:B)(j:J4)(Z:G B)(x:G M)(S:AU){p:B}{au:AX}{al:B}{ag:G D4}{am ao ak:B}(a3:C3 p au al ag am ao ak)(b3:(x.drop 0).take m=Z.map AD)(bn:Z.length=m)(b6:3<=m/\m<=12)(b7:Z.Nodup)(bi:∀b∈Z,b<70)(a5:Lu p ag j Z.mergeSort)(aq an:B)(ax:AC (G B))(ay:Z.mergeSort.foldl (Ch j) E=C (aq,an,ax))(ce:p+50<=1000000000):
 Z9 345 [P n,Q y m bd] (.t y x S::au.b n r t) λv bv=>∃(u:B)(q:D0)(bb:AX),D0.e p q ⟨Z.mergeSort,C aq,an,ax⟩/\C3 (p+50) bb al ag am (ao+Fv j Z.mergeSort) ak/\v=AL #[P u,Hf]/\bv=q.c u n ⟨Z.mergeSort,C aq,an,ax⟩++(.t y x S::bb.b n r t):=by
 obtain⟨f,a6⟩:∃f,Z.mergeSort=f:=⟨_,A⟩;have cd:f.length=m:=by rw[<-a6,O5,bn]
 have b2:∀b∈f,b<70:=λb bj=>by rw[<-a6,KS] at bj;exact bi b bj
 have bo:=YT n r t y bd m p Z x S a3 bn b3 b6 b7 bi;rw[a6] at bo a5 ay⊢;have cg:au.a.x=I:=a3.e;refine A9.t ?_;refine A9.z bo ?_;rintro v bx ⟨u,q,aw,rfl,rfl⟩;refine L ?_;refine A9.b (IV r au.a) ?_;refine L ?_;refine EY.f (m:=B×D0×AX) (λl=>m-l.1) (λl=>l.1<=m/\D0.e p (q.t l.2.1) (I7 f ((f.take l.1).foldl (Ch j) E))/\C3 (p+l.1) l.2.2 al ag am (ao+Fv j (f.take l.1)) ak)
  (λl=>[(0,P n),(6,P u),(37,Q q.b f.length q.f),(38,N f.length),(39,N (l.1:B))])
  (λl=>(q.t l.2.1).c u n (I7 f ((f.take l.1).foldl (Ch j) E))++(.t y x S::l.2.2.b n r t)) (0,q,au) ⟨Af _,?_,a3⟩ ⟨A,A,A,A,A,AA⟩ AQ.b ?_
 ·exact⟨aw.nB,aw.nD,aw.nE,aw.nG,aw.nA,Af _⟩
 rintro⟨a,aj,av⟩ ⟨b4,af,ar⟩ a1;dsimp only at b4 af ar;refine EY.b ?_;obtain⟨o,W⟩:∃o,(f.take a).foldl (Ch j) E=o:=⟨_,A⟩;rw[W] at af;by_cases a2:a<m
 ·have ca:=B7 ((a:F)<(f.length:F));obtain⟨l,a8⟩:∃l,f.getD a 0=l:=⟨_,A⟩;have a9:l∈f:=by rw[<-a8];exact JH Y
  have bs:l<70:=b2 _ a9;have br:f.take (a+1)=f.take a++[l]:=by
   rw[<-a8,KW,AY,Aw Y];rfl
  have ah:(f.take (a+1)).foldl (Ch j) E=Ch j o l:=by rw[br,KQ,W];rfl
  have az:Fv j (f.take (a+1))=Fv j (f.take a)+if(j l).isSome then 1 else 0:=by
   unfold Fv;rw[br,EO,Ad];by_cases bq:(j l).isSome
   ·simp[bq]
   ·simp[bq]
  refine A7 ?_;refine Ms.mk (v:=AD (f.getD a 0)) ?_ ?_
  ·exact H4 (q:=f) (er:=q.h) (l:=a) Y
  rw[a8];cases aa:j l with
  |none=>
   have U:Ch j o l=o:=by unfold Ch;rw[aa]
   refine A9.b (jA u n r t l _ _ _ _ ar bs (a5.a l a9 aa)) (L ?_);refine F'.mk ((a+1:B):F) Z1 (a1 (a+1,aj,av) ⟨a2,?_,?_⟩ (by show m-(a+1)<m-a;omega) ⟨A,A,A,A,A,AA⟩ ?_)
   ·show D0.e p (q.t aj) (I7 f ((f.take (a+1)).foldl (Ch j) E));rw[ah,U];exact af
   ·show C3 (p+(a+1)) av al ag am (ao+Fv j (f.take (a+1))) ak;rw[az,aa];exact ar.b Y
   ·show AQ _ ((q.t aj).c u n (I7 f ((f.take (a+1)).foldl (Ch j) E))++(.t y x S::av.b n r t));rw[ah,U,<-W];exact AQ.b
  |some cc=>
   obtain⟨ai,ba⟩:=cc;obtain⟨b9,b5,b8,bp,a7,a0⟩:=a5.b l a9 _ aa;dsimp only at bp a7 a0;refine A9.u (jB u n r t l ai b9 ba _ _ _ _ ar Y bs b8 b5 bp Y a0) ?_;rintro v bx ⟨bh,bg,be,bc,bf,bu,z,bk,bl,a4,rfl,rfl⟩;cases o with
   |none=>
    have U:Ch j E l=C (l,ai,ba):=by unfold Ch;rw[aa]
    have bt:Ac (Ca (PO ((f.take a).foldl (Ch j) E))<0)=R:=by rw[W];rfl
    refine A' ?_;refine F'.mk ((a+1:B):F) Z1 (a1 (a+1,⟨0,0,[],bh,bf,bc,bg,be,bu⟩,z) ⟨a2,?_,?_⟩ (by show m-(a+1)<m-a;omega) ⟨A,A,A,A,A,AA⟩ ?_)
    ·show D0.e p _ (I7 f ((f.take (a+1)).foldl (Ch j) E));rw[ah,U];exact⟨af.nB,bk,a0,bl,af.nA,a7⟩
    ·show C3 (p+(a+1)) z al ag am (ao+Fv j (f.take (a+1))) ak;rw[az,aa];exact a4.b Y
    ·show AQ _ (_++(.t y x S::z.b n r t));show AQ _ (D0.c _ u n (I7 f ((f.take (a+1)).foldl (Ch j) E))++(.t y x S::z.b n r t));rw[ah,U];exact AQ.b
   |some ap=>
    have bt:Ac (Ca (PO ((f.take a).foldl (Ch j) E))<0)=I:=by rw[W];exact F2 (by show¬(ap.1:F)<0;omega)
    by_cases bm:ai>ap.2.1;have U:Ch j (C ap) l=C (l,ai,ba):=by unfold Ch;rw[aa];exact A8 bm
    have cb:Ac ((ai:F)>(S8 ((f.take a).foldl (Ch j) E):F))=R:=by rw[W];exact DH (by show(ai:F)>(ap.2.1:F);omega)
    refine A' ?_;refine F'.mk ((a+1:B):F) Z1 (a1 (a+1,⟨0,0,[],bh,bf,bc,bg,be,bu⟩,z) ⟨a2,?_,?_⟩ (by show m-(a+1)<m-a;omega) ⟨A,A,A,A,A,AA⟩ ?_)
    ·show D0.e p _ (I7 f ((f.take (a+1)).foldl (Ch j) E));rw[ah,U];exact⟨af.nB,bk,a0,bl,af.nA,a7⟩
    ·show C3 (p+(a+1)) z al ag am (ao+Fv j (f.take (a+1))) ak;rw[az,aa];exact a4.b Y
    ·show AQ _ (_++(.t y x S::z.b n r t));show AQ _ (D0.c _ u n (I7 f ((f.take (a+1)).foldl (Ch j) E))++(.t y x S::z.b n r t));rw[ah,U];exact AQ.b
    have U:Ch j (C ap) l=C ap:=by unfold Ch;rw[aa];exact A1 bm
    have cb:Ac ((ai:F)>(S8 ((f.take a).foldl (Ch j) E):F))=I:=by rw[W];exact F2 (by show¬(ai:F)>(ap.2.1:F);omega)
    refine L ?_;refine F'.mk ((a+1:B):F) Z1 (a1 (a+1,aj,z) ⟨a2,?_,?_⟩ (by show m-(a+1)<m-a;omega) ⟨A,A,A,A,A,AA⟩ ?_)
    ·show D0.e p (q.t aj) (I7 f ((f.take (a+1)).foldl (Ch j) E));rw[ah,U];exact af
    ·show C3 (p+(a+1)) z al ag am (ao+Fv j (f.take (a+1))) ak;rw[az,aa];exact a4.b Y
    ·show AQ _ ((q.t aj).c u n (I7 f ((f.take (a+1)).foldl (Ch j) E))++(.t y x S::z.b n r t));rw[ah,U,<-W];exact AQ.b
 ·have an:a=m:=Y;subst an;rw[DP Y] at W ar;have ca:=Aa ((a:F)<(f.length:F));rw[ay] at W;subst W;have bt:Ac (Ca (PO ((f.take a).foldl (Ch j) E))<0)=I:=by rw[DP Y,ay];exact F2 (by show¬(aq:F)<0;omega)
  refine L ?_;refine⟨_,?_,u,q.t aj,av,af,ar.b Y,A,A⟩;have b1:(f.take a).foldl (Ch j) E=C (aq,an,ax):=by rw[DP Y,ay]
  show AQ _ ((q.t aj).c u n (I7 f (C (aq,an,ax)))++(.t y x S::av.b n r t));rw[<-b1];exact AQ.b
structure D6 where
 d:AC B
 g:B
 f:B
 h:G M
 i:G M
def D6.b(a:D6)(j:B):M:=match a.d with
 |none=>O E 0 0
 |some f=>O (C ⟨f,a.g,E⟩) j a.f
def D6.a(a:D6)(j:G M)(f:AU):S:=match a.d with
 |none=>[]
 |some l=>[.t l (a.h++(j++a.i)) f]
structure D6.e(a:D6)(j f:B):Prop where
 nB:a.d=E->f=0
 nC:a.h.length=a.g
 nD:f<=a.f/\a.f<=BP
 nE:(a.f-f)*j<=a.i.length
structure D6.c(a:D6)(f j:B):Prop where
 nA:a.e f j
 nC:a.h=[]
 nB:a.g=0
 nD:a.i.length=(a.f-j)*f
abbrev Cl(a:Cq):G M:=[N a.a,N a.c,N a.f,N a.d,N a.b,X I]
def Ab(a:K)(b:B):G M:=Cl (a.b b)
def AW(a:AF):G M:=[N a.a,N a.b]
def L6(a:AN×AF):G M:=[N a.1.b,N a.1.c,D Au a.1.a,D Au a.1.h,D Au a.1.d,N a.1.f,N a.2.a,N a.2.b]
def FP(n j:B->B)(l:B->G M)(m:G (AC CG))(a:B):S:=match m.getD a E with
 |none=>[]
 |some f=>[.t (n a) [Q (j a) 128 (128+(l a).length),X f.b,N f.c] 427,AJ (j a) f.a (l a)]
def FO(j l:B->B)(m:B->G M)(f:G (AC CG))(a:G B):S:=a.flatMap (FP j l m f)
structure AR where
 f:B
 c:B
 s:B
 aw:B
 ap:B
 au:B
 ar:B
 aq:B
 av:B
 d:B
 ac:B
 y:B
 e:Ai CO
 v:G (F×M)
 g:B
 h:B->B
 t:B->B
 i:B->G M
 ab:B
 b:D0
 al:B
 x:B
 am:B
 ah:Ai CO
 aj:G (F×M)
 ai:B
 ae:S
 w:D6
 z:D6
 aa:D6
 ak:D6
 af:F
abbrev AR.j(f:AR)(a:K):G M:=
 [P f.f,N 70,N a.i,N 128,N f.aw,N f.ap,N f.au,N f.ar,N f.aq,N f.av,
  N a.t,P f.d,P f.ab,Q f.al a.ac.length a.ac.length,Q f.x 70 70,
  D1 a.bh,D1 a.bg,D1 a.br,D Au a.ap,D Au a.x,D Au a.bq,N f.af,N (-1),N 0,Ah (C f.am),
  D Au a.aw,D1 a.bf.1,D1 a.bf.2,f.w.b a.ae.length,N a.ct,N a.bi,f.z.b a.bj.length,f.aa.b a.ax.length,f.ak.b a.ah.length]
abbrev AR.u(f:AR)(a:K)(j:B):G M:=
 [N (a.t+16:B),N 128,N (a.t+16:B),Cd 299 (AV #[P j]),Ah (C f.y),Q f.ac a.g.length a.g.length,N a.an]
def CH(a:B):M:=D Ax a
abbrev AR.a(a:AR)(l:B)(f:K)(j:AX):S:=
 [.t l (a.j f) 292,.t a.x (AZ (Ab f) 70) 295,.t a.d (a.u f l) 394,.t a.ac (f.g.map CH) 30,.o a.y (AM a.e a.g),
  AJ a.al f.ac [],.o a.am (AM a.ah a.ai),.u (A2 a.ae),.u (A2 (a.w.a (f.ae.map AD) 3)),.u (A2 (a.z.a (f.bj.flatMap AW) 326)),.u (A2 (a.aa.a (f.ax.flatMap AW) 326)),.u (A2 (a.ak.a (f.ah.flatMap L6) 502)),
  .u (A2 (FO a.h a.t a.i f.h (AH f.h.length))),
  .t a.ab [P a.f,Q a.b.b f.aa.length a.b.f,D1 f.aq,D Au f.av,Ah (C a.b.d)] 477,BJ a.b.b f.aa a.b.h,.o a.b.d (AM (C6 f.bn a.b.a a.b.g a.b.j) a.b.s),Dr f.bn a.b.a a.b.i,
  .t a.f [Cd 53 (P a.c),P a.c,N 192,Ah (C a.s),N j.c] 277,.o a.s (AM #[] 0),.u (CB a.c j.a)]
def ABy(a:AR)(l:B)(j:K)(f:AX):a.a l j f=(a.a l j f).take 13++(a.b.c a.ab a.f (Bx j)++f.b a.f a.c a.s):=A
def jS(a:K)(b:B):[Ca a.bh,Ca a.bg,Ca a.br].contains (b:F)=a.cc b:=by
 have f:∀o:AC B,((b:F)==Ca o)=(o==C b):=λo=>by
  cases o with
  |none=>simp only[Ca];rw[Iy];simp
  |some j=>simp only[Ca];rw[Iy];simp;omega
 simp only[List.contains_cons,List.contains_nil,f,K.cc,Bool.or_false,Bool.or_assoc]
def WA(f b:B)(j:AR)(a:K)(l:AX):
 AK 406 [P f,N b] (j.a f a l) (X (a.cc b)):=by
 refine A9.t (L ?_);refine Qp.mk 0 3 3 15 A A A Y A (by split<;>omega) (L ?_);refine A9.b (RD f 15 3 3 [Ca a.bh,Ca a.bg,Ca a.br] (j.j a) 292 b A A Y) (L ?_);refine⟨_,AQ.b (g:=j.a f a l),?_,A⟩;rw[jS];rfl
def EH(a:K)(b:B):(Ab a b).length=6:=A
def FJ(f:K){b a:B}(j:b<70)(l:a<6):(AZ (Ab f) 70)[b*6+a]?=(Ab f b)[a]?:=NG (EH f) l j
def R5(a:K){b:B}(n:b<70):CX (AZ (Ab a) 70) (0+b*6) 6 R=C (AV (Ab a b).toArray):=by
 have l:(AZ (Ab a) 70).length=420:=Db (EH a) 70;have f:=Ow (f:=Ab a) (EH a) (h:=AH 70) (i:=[]) b 1 Y5;rw[B1,T_] at f;have j:((AH 70).drop b).take 1=[b]:=by
  rw[HF Y5];simp
 rw[j,FE,QC,B1] at f;have m:Nat.ble (b*6+6) 420=R:=Zn Y;unfold CX;dsimp only;rw[BF,l,m];show C (AV (((AZ (Ab a) 70).drop (b*6)).take 6).toArray)=_;rw[show AZ (Ab a) 70=(AH 70).flatMap (Ab a) from A,f]
def AF1{P:Prop}(h:P:=by simp only[bne_iff_ne];omega):P:=h
def Rk(l b:B)(aa:b<70)(f:AR)(a:K)(j:AX):
 AK 405 [P l,N b] (f.a l a j) (X (a.ck b)):=by
 have Z:a.ck b=((a.b b).a !=3&&(a.b b).c==0&&(a.b b).f==0&&(a.b b).d==0&&!a.cc b):=A;rw[Z];have W:=R5 a aa;obtain⟨m,p,n,q,G,y⟩:∃m p n q G,a.b b=⟨m,p,n,q,G⟩:=⟨_,_,_,_,_,A⟩;have Y:Ab a b=[N m,N p,N n,N q,N G,X I]:=by rw[Ab,y]
 rw[Y] at W;rw[y];dsimp only;clear Z y Y;refine A9.t ?_;refine A7 ?_;refine Ms.mk W ?_;intro ah;refine A7 ?_;by_cases x:m=3
 ·have ag:((m:F)!=3)=I:=by subst x;rfl
  have u:(m !=3)=I:=by subst x;rfl
  refine L ?_;rw[u];exact⟨_,AQ.b (g:=f.a l a j),A,A⟩
 have ag:((m:F)!=3)=R:=AF1;have u:(m !=3)=R:=by simp only[Bn];exact x
 rw[u];by_cases M:¬p=0
 ·have r:(p==0)=I:=by simp only[Bv];exact M
  refine L ?_;rw[r];exact⟨_,AQ.b (g:=f.a l a j),A,A⟩
 have r:(p==0)=R:=by simp only[F1];exact Th.1 M
 by_cases S:¬n=0
 ·have t:(n==0)=I:=by simp only[Bv];exact S
  refine L ?_;rw[r,t];exact⟨_,AQ.b (g:=f.a l a j),A,A⟩
 have t:(n==0)=R:=by simp only[F1];exact Th.1 S
 by_cases U:¬q=0
 ·have z:(q==0)=I:=by simp only[Bv];exact U
  refine L ?_;rw[r,t,z];exact⟨_,AQ.b (g:=f.a l a j),A,A⟩
 have z:(q==0)=R:=by simp only[F1];exact Th.1 U
 refine L ?_;rw[r,t,z];refine A9.b (WA l b f a j) ?_;obtain⟨o,af⟩:∃o,a.cc b=o:=⟨_,A⟩;rw[af];cases o with
 |true=>
  refine L ?_;exact⟨_,AQ.b (g:=f.a l a j),A,A⟩
 |false=>
  refine L ?_;refine A9.b (NL f.f f.c f.s (b:F) j) (L ?_);exact⟨_,AQ.b (g:=f.a l a j),A,A⟩
def AQ.al(a j:BL)(f:S):AQ (a::j::f) (f++[a]):=((AQ.u (D3 _ _ _)).t (AQ.y _)).t (AQ.u (Cj (l₁:=[a])))
def Vr(l:B)(q:AR)(f:K)(m:AX)(u:f.j.length=70):
 AK 363 [P l] (q.a l f m) (N (f.ho:B)):=by
 refine A9.t ?_;refine L ?_;have y:∀a,a<=70->((AH a).filter f.ck).length<=a:=λa _=>by have:=Ez f.ck (AH a);rwa[Dj] at this
 refine EY.g (m:=B) (λa=>70-a) (λa=>a<=70) (λa=>[(0,P l),(3,N (((AH a).filter f.ck).length:B)),(9,N 70),(10,N (a:B))]) (λ_=>q.a l f m) 0 (Af _) ⟨A,A,A,A,AA⟩ A ?_;intro a x t;refine EY.b (IK.mk (λj=>?_) (λj=>?_))
 ·have j:a<70:=by simp at j;omega
  refine A9.b (Rk l a j q f m) ?_;have o:(AH (a+1)).filter f.ck=(AH a).filter f.ck++if f.ck a then[a] else[]:=by
   rw[DO,EO];congr 1;simp only[HG,AET]
  have z:=y a x;obtain⟨n,r⟩:∃n,f.ck a=n:=⟨_,A⟩;rw[r];rw[r] at o;cases n with
  |true=>
   refine L ?_;have p:((AH (a+1)).filter f.ck).length=((AH a).filter f.ck).length+1:=by rw[o];simp
   exact F'.mk ((((AH (a+1)).filter f.ck).length:B):F) (by rw[p,A3 Y];rfl) (F'.mk ((a+1:B):F) Y2 (t (a+1) (by show a+1<=70;omega) (by show 70-(a+1)<70-a;omega) ⟨A,A,A,A,AA⟩ A))
  |false=>
   refine L ?_;have p:((AH (a+1)).filter f.ck).length=((AH a).filter f.ck).length:=by rw[o];simp
   refine F'.mk ((a+1:B):F) Y2 (t (a+1) (by show a+1<=70;omega) (by show 70-(a+1)<70-a;omega) ⟨A,?_,A,A,AA⟩ A);rw[p];rfl
 ·have j:a=70:=by simp at j;omega
  subst j;refine L ?_;refine⟨_,.w _,?_,A⟩;unfold K.ho;rw[u];rfl
def H9(a:K)(b:B):G M:=[N b,N ((a.b b).c+(a.b b).f),N (a.ca b:B),N (a.b b).b,X I,X (a.w b).b,X I]
def i4(n:B)(m:AR)(f:K)(o:AX)(a2 S:B)(aw:Func)(Y W:G M)(j:B->AE)(al:B2 a2 o f)(ay:A4.h S=C aw)
 (ax:∀b,b<70->-1000000000<=(f.b b).c+(f.b b).f/\(f.b b).c+(f.b b).f<=1000000000)
 (a1:∀b,b<70->AK S (Y++[AD b]++W) (m.a n f o) (X (j b))):
 Z9 489 [P n,BZ (CA S) Y.toArray W.toArray] (m.a n f o)
  λv av=>∃t y x,DI 7 ((AH 70).filter j) y x/\v=Bm t y ((AH 70).filter j)/\av=m.a n f o++BX 672 (H9 f) t ((AH 70).filter j) x:=by
 refine A9.t ?_;refine L ?_;refine EY.f (m:=B×B×B×G M) (λl=>70-l.1) (λl=>l.1<=70/\DI 7 ((AH l.1).filter j) l.2.2.1 l.2.2.2) (λl=>[(0,P n),(1,BZ (CA S) Y.toArray W.toArray),(5,Bm l.2.1 l.2.2.1 ((AH l.1).filter j)),(11,Q m.x 70 70),(12,N 70),(13,N (l.1:B))]) (λl=>m.a n f o++BX 672 (H9 f) l.2.1 ((AH l.1).filter j) l.2.2.2) (0,0,0,[]) ⟨Af _,⟨AI 0,Z,A⟩⟩ ⟨A,A,A,A,A,A,AA⟩ ?_ ?_
 ·show AQ (m.a n f o) (m.a n f o++[]);rw[B1];exact .w _
 rintro⟨a,t,y,x⟩ ⟨az,U⟩ ap;dsimp only at az U;refine EY.b (IK.mk (λp=>?_) (λp=>?_))
 ·have p:a<70:=by simp at p;omega
  have ag:=R5 f p;have an:=ax a p;have ah:H9 f a=[N a,N ((f.b a).c+(f.b a).f),N (f.ca a:B),N (f.b a).b,X I,X (f.w a).b,X I]:=A;obtain⟨aq,u,r,ar,z,am⟩:∃aq u r ar z,f.b a=⟨aq,u,r,ar,z⟩:=⟨_,_,_,_,_,A⟩;rw[Ab,am] at ag;rw[am] at ah an;dsimp only at ah an ag;refine A7 ?_;refine Ms.mk ag ?_;intro ak;refine A7 ?_;conv=>whnf
  rw[ay];refine A9.b (a1 a p) (IK.mk (λai=>?_) (λai=>?_))
  ·apply Ms.mk;focus rfl
   apply Ms.mk;focus rfl
   refine F'.mk (u+r) (A3 Y6) (L ?_);refine A9.b (i' m.f m.c m.s a al p) ?_;refine L ?_;refine A9.b (S9 m.c a al p) ?_;refine L ?_;intro af;have q:(AH (a+1)).filter j=(AH a).filter j++[a]:=by
    rw[DO,EO];simp[ai]
   have a3:((AH a).filter j).length<=a:=by have:=Ez j (AH a);rwa[Dj] at this
   refine Cr.u (l:=.t af [N a,N (u+r),N (f.ca a:B),N z,X I,X (f.w a).b,X I] 672::(m.a n f o++BX 672 (H9 f) t ((AH a).filter j) x)) ?_ ?_
   ·exact(AQ.u (GS.t (f:=.t ak _ _::.t af [N a,N (u+r),N (f.ca a:B),N z,X I,X (f.w a).b,X I] 672::m.a n f o) Y0)).t (AQ.y _)
   refine Cr.z (f:=H9 f) (n:=_) (a1:=_) A A A A A A A ⟨A,Z⟩ (Cj (l₁:=.t af [N a,N (u+r),N (f.ca a:B),N z,X I,X (f.w a).b,X I] 672::m.a n f o)) (λl=>⟨A,A⟩) [a] ?_ A Z U ⟨Y6,Z⟩ (λaa aj au a0=>?_)
   ·rw[FE,QC,B1,ah];rfl
   refine F'.mk ((a+1:B):F) Z1 ?_;have ao:(AH a).filter j++[a]≠[]:=Y1;refine ap (a+1,aa,aj,au) ⟨by show a+1<=70;omega,by rw[q];exact a0⟩ (by show 70-(a+1)<70-a;omega) ⟨A,A,?_,A,A,A,AA⟩ ?_
   ·show _=C (Bm aa aj ((AH (a+1)).filter j));rw[q,E1 ao,Ad];rfl
   ·show AQ _ (m.a n f o++BX 672 (H9 f) aa ((AH (a+1)).filter j) au);rw[q,Dw ao];exact AQ.al _ _ _
  ·refine F'.mk ((a+1:B):F) Z1 ?_;have q:(AH (a+1)).filter j=(AH a).filter j:=by
    rw[DO,EO];simp[ai]
   refine ap (a+1,t,y,x) ⟨by show a+1<=70;omega,by rw[q];exact U⟩ (by show 70-(a+1)<70-a;omega) ⟨A,A,?_,A,A,A,AA⟩ ?_
   ·rw[q];rfl
   ·rw[q];exact(AQ.u (GS.t (f:=.t ak _ _::m.a n f o) Y0)).t (AQ.y _)
 ·have p:a=70:=by simp at p;omega
  subst p;refine L ?_;exact⟨_,.w _,t,y,x,U,A,A⟩
section
open Go.RowKit
structure Br where
 d:F
 c:F
 b:F
 a:F
 g:AE
 e:AE
 f:AE
def Br.i(b:Br):G M:=[N b.d,N b.c,N b.b,N b.a,X b.g,X b.e,X b.f]
def Br.h:Br:=⟨0,0,0,0,I,I,I⟩
def FQ(b:Br):AE:=Ac (0<=b.d)&&Ac (1<=b.b)&&Ac (b.b<=256)&&Ac (0<=b.c)&&Ac (b.c<=b.b)&&Ac (0<=b.a)&&Ac (b.a<=1073741824)
def NB(b:Br):AE:=!b.g&&!b.f
def MM(b:Br)(a:AG):CL An 571 #[AV #[N b.d,N b.c,N b.b,N b.a,X b.g,X b.e,X b.f]] a λf w'=>f=BT (X (FQ b))/\Bq a.heap.size a w':=by
 go_enter Tryz.func571,Tryz.ntmps571;go_wp2;all_goals
  go_ret;exact⟨by(first|(simp[FQ, *];done)|(simp[FQ, *];omega)),(DT _ _).alloc (AI _) _⟩
def d3(b:Br)(a:AG):CL An 547 #[AV #[N b.d,N b.c,N b.b,N b.a,X b.g,X b.e,X b.f]] a λf w'=>f=BT (X (NB b))/\Bq a.heap.size a w':=by
 go_enter Tryz.func547,Tryz.ntmps547;go_wp2;all_goals
  go_ret;exact⟨by simp[NB, *],(DT _ _).alloc (AI _) _⟩
def JE(b:Br):AE:=NB b&&Ac (b.c=0)
def J7(f:AE)(a b:Br):AE:=if a.a=b.a then(if a.e=b.e then Ac (a.d<b.d) else(a.e==f)) else Ac (a.a<b.a)
def AAI{b:Br}(a:FQ b=R):0<=b.d/\1<=b.b/\b.b<=256/\0<=b.c/\b.c<=b.b/\0<=b.a/\b.a<=1073741824:=by
 simp[FQ] at a;omega
def eJ(b:Br)(a:AG):CL An 546 #[AV #[N b.d,N b.c,N b.b,N b.a,X b.g,X b.e,X b.f]] a λf w'=>f=BT (X (JE b))/\Bq a.heap.size a w':=by
 cases l:NB b;all_goals
  go_enter Tryz.func546,Tryz.ntmps546;go_wp2_with (go_at_call 547;refine(d3 b _).mono ?_;rintro f n ⟨rfl,j⟩;rw[l];have m:=j.cell (p:=⟨a.heap.size,1,E⟩) Y1);all_goals
   go_ret;exact⟨by(simp[JE, *];try rfl),((DT _ _).alloc (AI _) _).trans (j.mono Y1)⟩
def b8(l:AE)(a b:Br)(j:B)(f:AG)(n:j<f.heap.size)(o:f.cell? ⟨j,0,E⟩=C (X l)):
 CL An 548 #[AV #[N a.d,N a.c,N a.b,N a.a,X a.g,X a.e,X a.f],AV #[N b.d,N b.c,N b.b,N b.a,X b.g,X b.e,X b.f],P j] f λm w'=>m=BT (X (J7 l a b))/\Bq f.heap.size f w':=by
 go_enter Tryz.func548,Tryz.ntmps548;go_wp2;all_goals
  go_ret;exact⟨by simp_all [J7],((DT _ _).alloc (AI _) _).alloc Y1 _⟩
end
section
open Go.RowKit
def Do(f:Br->AE)(ahead:Br->Br->AE)(o:AC Br)(b:Br):AC Br:=
 if FQ b&&f b&&(match o with|none=>R|some a=>ahead b a) then C b else o
def G8(f:Br->AE)(ahead:Br->Br->AE)(a:G Br):AC Br:=a.foldl (Do f ahead) E
def cC(j:Br->AE)(ahead:Br->Br->AE)(f:G Br)(a:B)(m:Br)(l:f[a]?=C m):G8 j ahead (f.take (a+1))=Do j ahead (G8 j ahead (f.take a)) m:=by
 have n:a<f.length:=(Cx.1 l).1;rw[TW n,(Cx.1 l).2];simp[G8,KQ]
def cD{j:Br->AE}{ahead:Br->Br->AE}{o:AC Br}{b a:Br}(f:Do j ahead o b=C a):(FQ a=R/\j a=R/\a=b)\/o=C a:=by
 unfold Do at f;generalize(match o with|none=>R|some a=>ahead b a)=t at f;cases m:FQ b<;>cases l:j b<;>cases t<;>simp[m,l] at f;all_goals first
  |exact Ae f
  |(subst f;exact AT ⟨m,l,A⟩)
def Vq{p:Br->AE}{ahead:Br->Br->AE}:∀(n:G Br)(o:AC Br)(a:Br),n.foldl (Do p ahead) o=C a->(FQ a=R/\p a=R/\a∈n)\/o=C a
 |[],o,a,j=>Ae j
 |b::r,o,a,j=>by
  rcases Vq r _ a j with⟨l,f,m⟩|l
  ·exact AT ⟨l,f,By _ m⟩
  ·rcases cD l with⟨f,m,q⟩|f
   ·exact AT ⟨f,m,by simp[q]⟩
   ·exact Ae f
def cB{l:Br->AE}{ahead:Br->Br->AE}{j:G Br}{a:Br}(f:G8 l ahead j=C a):FQ a=R/\l a=R/\a∈j:=by
 rcases Vq j E a f with f|f
 ·exact f
 ·simp at f
def AAH(j f l o:F)(m n p:AE)(a:AG):CL An 571 #[AV #[N j,N f,N l,N o,X m,X n,X p]] a λq r=>q=BT (X (FQ ⟨j,f,l,o,m,n,p⟩))/\Bq a.heap.size a r:=MM ⟨j,f,l,o,m,n,p⟩ a
variable{xs yg:AG}
def Br.s{b f q a:B}{p:G Br}{j:Br}(x:Lv 7 Br.i xs (C ⟨b,f,E⟩) q p)(r:Bq xs.heap.size xs yg)(F:a<q)(y:p[a]?=C j):
 b<xs.heap.size/\yg.cell? ⟨b,f+a*7,E⟩=C (N j.d)/\yg.cell? ⟨b,f+a*7+1,E⟩=C (N j.c)/\yg.cell? ⟨b,f+a*7+2,E⟩=C (N j.b)/\yg.cell? ⟨b,f+a*7+3,E⟩=C (N j.a)/\
 yg.cell? ⟨b,f+a*7+4,E⟩=C (X j.g)/\yg.cell? ⟨b,f+a*7+5,E⟩=C (X j.e)/\yg.cell? ⟨b,f+a*7+6,E⟩=C (X j.f):=by
 obtain⟨z,L,n,o,t⟩:=x.2 Y;simp only[EX,Addr.mk.injEq,and_true] at n;obtain⟨rfl,rfl⟩:=n;have l:=λm(u:m<7)=>(r.cell (p:=⟨b,f+(a*7+m),E⟩) o).trans (t a j y m u);exact⟨o,l 0 Y,l 1 Y,l 2 Y,l 3 Y,l 4 Y,l 5 Y,l 6 Y⟩
def OO(f:AG)(a:B)(b:Br):Prop:=BU f a #[N b.d,N b.c,N b.b,N b.a,X b.g,X b.e,X b.f] 672
def Br.j(b:Br):M:=AV #[N b.d,N b.c,N b.b,N b.a,X b.g,X b.e,X b.f]
def cE(q:Br->AE)(ahead:Br->Br->AE)(bh bg:B)(bx:Ai M)(bv:AC CW)(af b7:B)(z:G Br)(r:AG)(d0:af<=9223372036854775807)
 (bm:Lv 7 Br.i r bv af z)
 (dt:∀args w',Sem.run An (Ey bh args) w'=.ok (.enter bh args) w')(ds:∀args w',Sem.run An (Ey bg args) w'=.ok (.enter bg args) w')
 (bn:∀(b:Br)(w':AG),Bq r.heap.size r w'->CL An bh #[AV #[N b.d,N b.c,N b.b,N b.a,X b.g,X b.e,X b.f]] w' λx br=>x=BT (X (q b))/\Bq w'.heap.size w' br)
 (bl:∀(b u:Br)(w':AG),Bq r.heap.size r w'->FQ b=R->FQ u=R->CL An bg (#[AV #[N b.d,N b.c,N b.b,N b.a,X b.g,X b.e,X b.f],AV #[N u.d,N u.c,N u.b,N u.a,X u.g,X u.e,X u.f]]++bx) w' λx br=>x=BT (X (ahead b u))/\Bq w'.heap.size w' br):
 CL An 545 #[O bv af b7,BZ (CA bh) #[] #[],BZ (CA bg) #[] bx] r λx w'=>x=BT (AL #[((G8 q ahead z).getD Br.h).j,X (G8 q ahead z).isSome])/\Bq r.heap.size r w':=by
 have dv:=bm.1;go_enter Tryz.func545,Tryz.ntmps545;go_wp2_with fail;go_loopw [9,14] (λc5 bp wr=>∃n:B,n<=af/\bp=N n/\c5=X (G8 q ahead (z.take n)).isSome/\Bq r.heap.size r wr/\OO wr r.heap.size Br.h/\OO wr (r.heap.size+1) ((G8 q ahead (z.take n)).getD Br.h)) (λ_ bp _=>af-(Cc bp).toNat)
 case atStart=>exact⟨0,Af _,A,A,Fc (Fc (DT _ _) (AI _) _) Y1 _,(BU.i r _ _).x _,BU.y Y1 _ _⟩
 case round=>
  obtain⟨n,du,rfl,rfl,y,F,a⟩:=hrel;by_cases ai:n<af
  ·obtain⟨df,d2,rfl,dw,ci⟩:=bm.2 Y;have bo:z[n]?=C z[n]:=Aw Y;obtain⟨f,b6⟩:∃f,JW (f=z[n]):=⟨_,Ap A⟩;rw[<-b6.out] at bo;obtain⟨dx,dg,dj,dl,dn,dp,dq,dr⟩:=Br.s bm y ai bo;clear ci;have ak:=Ap bn;have bu:=Ap bl;clear bn bl;obtain⟨o,ag⟩:∃o,JW (o=G8 q ahead (z.take n)):=⟨_,Ap A⟩;rw[<-ag.out] at a;rw[<-ag.out];have d1:=a.b;obtain⟨_,b8,b9,ca,cb,cc,cd,ce⟩:=BU.f a;have W:JW (G8 q ahead (z.take (n+1))=Do q ahead o f):=Ap (by rw[cC q ahead z n f bo,ag.out]);have ext1:∀w':AG,Bq r.heap.size r w'->Bq wr.heap.size wr w'->FQ f=I->(∃bi:B,bi<=af/\D H (↑n+1)=N bi/\X o.isSome=X (G8 q ahead (z.take bi)).isSome/\Bq r.heap.size r w'/\OO w' r.heap.size Br.h/\OO w' (r.heap.size+1) ((G8 q ahead (z.take bi)).getD Br.h)):=λw' ch b1 t=>⟨n+1,ai,by go_num,by rw[W.out];simp[Do,t],ch,F.below b1 F.b,by rw[W.out,show Do q ahead o f=o from by simp[Do,t]];exact a.below b1 a.b⟩;have bt:=Ap ext1;clear ext1;cases t:FQ f
   ·have b2:∀b:Br,b=f->FQ b=I:=λb cg=>cg▸t;have b5:=Ap b2;clear b2;go_wp2_with fail
    all_goals(try(go_at_call 571
                  refine(AAH _ _ _ _ _ _ _ _).mono ?_;rintro x a1 ⟨rfl,p⟩;rw[b5.out];rotate_left
                  ·cases f;simp_all
                   done))
    all_goals(try(go_wp2_with fail))
    all_goals
     go_roundw
     case rel=>first
      |exact bt.out _ (Dx (Fc y y.size _) Y7 Y5) (Dx (Fc (DT wr.heap.size wr) (AI _) _) Y7 Y1) t
      |exact bt.out _ (Fc y y.size _) (Fc (DT _ _) (AI _) _) t
     case measure=>simp[Cc];omega
   ·obtain⟨d5,d6,d7,d8,d9,ea,eb⟩:=AAI t;rcases o with _|u
    ·cases U:q f
     ·go_wp2_with (first
       |(go_at_call 571;refine(MM f _).mono ?_;rintro x a1 ⟨rfl,p⟩;rw[t];have L:=Dx (Fc y y.size _) p Y5;have S:=Dx (Fc (DT wr.heap.size wr) (AI _) _) p Y1;have j:=(BU.i wr _ _).below p Y1;obtain⟨_,a2,a3,a4,a5,a6,a7,a8⟩:=BU.f j)
       |(refine(ak.out f _ Y7).mono ?_;rintro x bj ⟨rfl,m⟩;rw[U];have Z:=Dx L m L.size;have l:=Dx S m S.size;obtain⟨_,a9,ba,bb,bc,bd,be,bf⟩:=BU.f (j.below m j.b);obtain⟨_,al,am,an,ao,ap,aq,ar⟩:=BU.f (a.below l a.b);obtain⟨au,av,aw,ax,ay,az,a0⟩:=BU.s (a.below l a.b)))
      all_goals
       go_roundw
       case rel=>exact⟨n+1,ai,by go_num,by rw[W.out];simp[Do,t,U],Z,F.below l F.b,by rw[W.out,show Do q ahead E f=E from by simp[Do,U]];exact a.below l a.b⟩
       case measure=>simp[Cc];omega
     ·go_wp2_with (first
       |(go_at_call 571;refine(MM f _).mono ?_;rintro x a1 ⟨rfl,p⟩;rw[t];have L:=Dx (Fc y y.size _) p Y5;have S:=Dx (Fc (DT wr.heap.size wr) (AI _) _) p Y1;have j:=(BU.i wr _ _).below p Y1;obtain⟨_,a2,a3,a4,a5,a6,a7,a8⟩:=BU.f j)
       |(refine(ak.out f _ Y7).mono ?_;rintro x bj ⟨rfl,m⟩;rw[U];have Z:=Dx L m L.size;have l:=Dx S m S.size;obtain⟨_,a9,ba,bb,bc,bd,be,bf⟩:=BU.f (j.below m j.b);obtain⟨_,al,am,an,ao,ap,aq,ar⟩:=BU.f (a.below l a.b);obtain⟨au,av,aw,ax,ay,az,a0⟩:=BU.s (a.below l a.b)))
      all_goals
       go_roundw
       case rel=>exact⟨n+1,ai,by go_num,by rw[W.out];simp[Do,t,U],R3 Z Y ..,BU.v (F.below l F.b) Y ..,by rw[W.out,show Do q ahead E f=C f from by simp[Do,t,U]];exact BU.u (a.below l a.b) ..⟩
       case measure=>simp[Cc];omega
    ·have bs:=cB ag.out.symm;cases U:q f
     ·go_wp2_with (first
       |(go_at_call 571;refine(MM f _).mono ?_;rintro x a1 ⟨rfl,p⟩;rw[t];have L:=Dx (Fc y y.size _) p Y5;have S:=Dx (Fc (DT wr.heap.size wr) (AI _) _) p Y1;have j:=(BU.i wr _ _).below p Y1;obtain⟨_,a2,a3,a4,a5,a6,a7,a8⟩:=BU.f j)
       |(refine(ak.out f _ Y7).mono ?_;rintro x bj ⟨rfl,m⟩;rw[U];have Z:=Dx L m L.size;have l:=Dx S m S.size;obtain⟨_,a9,ba,bb,bc,bd,be,bf⟩:=BU.f (j.below m j.b);obtain⟨_,al,am,an,ao,ap,aq,ar⟩:=BU.f (a.below l a.b);obtain⟨au,av,aw,ax,ay,az,a0⟩:=BU.s (a.below l a.b)))
      all_goals
       go_roundw
       case rel=>exact⟨n+1,ai,by go_num,by rw[W.out];simp[Do,U],Z,F.below l F.b,by rw[W.out,show Do q ahead (C u) f=C u from by simp[Do,U]];exact a.below l a.b⟩
       case measure=>simp[Cc];omega
     ·cases aj:ahead f u
      ·go_wp2_with (first
       |(go_at_call 571;refine(MM f _).mono ?_;rintro x a1 ⟨rfl,p⟩;rw[t];have L:=Dx (Fc y y.size _) p Y5;have S:=Dx (Fc (DT wr.heap.size wr) (AI _) _) p Y1;have j:=(BU.i wr _ _).below p Y1;obtain⟨_,a2,a3,a4,a5,a6,a7,a8⟩:=BU.f j)
       |(refine(ak.out f _ Y7).mono ?_;rintro x bj ⟨rfl,m⟩;rw[U];have Z:=Dx L m L.size;have l:=Dx S m S.size;obtain⟨_,a9,ba,bb,bc,bd,be,bf⟩:=BU.f (j.below m j.b);obtain⟨_,al,am,an,ao,ap,aq,ar⟩:=BU.f (a.below l a.b);obtain⟨au,av,aw,ax,ay,az,a0⟩:=BU.s (a.below l a.b))
       |(refine(bu.out f u _ Y7 t bs.1).mono ?_;rintro x c6 ⟨rfl,ah⟩;rw[aj];have bk:=Dx Z ah Z.size;have aa:=Dx l ah l.size;have bq:=(j.below m j.b).below ah (j.below m j.b).b;obtain⟨_,ck,cl,cm,cn,co,cp,cq⟩:=BU.f bq;obtain⟨_,cr,cs,ct,cu,cv,cw,cx⟩:=BU.f (a.below aa a.b);obtain⟨cy,cz,c0,c1,c2,c3,c4⟩:=BU.s (a.below aa a.b)))
       all_goals
        go_roundw
        case rel=>exact⟨n+1,ai,by go_num,by rw[W.out];simp[Do,aj],bk,F.below aa F.b,by rw[W.out,show Do q ahead (C u) f=C u from by simp[Do,aj]];exact a.below aa a.b⟩
        case measure=>simp[Cc];omega
      ·go_wp2_with (first
       |(go_at_call 571;refine(MM f _).mono ?_;rintro x a1 ⟨rfl,p⟩;rw[t];have L:=Dx (Fc y y.size _) p Y5;have S:=Dx (Fc (DT wr.heap.size wr) (AI _) _) p Y1;have j:=(BU.i wr _ _).below p Y1;obtain⟨_,a2,a3,a4,a5,a6,a7,a8⟩:=BU.f j)
       |(refine(ak.out f _ Y7).mono ?_;rintro x bj ⟨rfl,m⟩;rw[U];have Z:=Dx L m L.size;have l:=Dx S m S.size;obtain⟨_,a9,ba,bb,bc,bd,be,bf⟩:=BU.f (j.below m j.b);obtain⟨_,al,am,an,ao,ap,aq,ar⟩:=BU.f (a.below l a.b);obtain⟨au,av,aw,ax,ay,az,a0⟩:=BU.s (a.below l a.b))
       |(refine(bu.out f u _ Y7 t bs.1).mono ?_;rintro x c6 ⟨rfl,ah⟩;rw[aj];have bk:=Dx Z ah Z.size;have aa:=Dx l ah l.size;have bq:=(j.below m j.b).below ah (j.below m j.b).b;obtain⟨_,ck,cl,cm,cn,co,cp,cq⟩:=BU.f bq;obtain⟨_,cr,cs,ct,cu,cv,cw,cx⟩:=BU.f (a.below aa a.b);obtain⟨cy,cz,c0,c1,c2,c3,c4⟩:=BU.s (a.below aa a.b)))
       all_goals
        go_roundw
        case rel=>exact⟨n+1,ai,by go_num,by rw[W.out];simp[Do,t,U,aj],R3 bk Y ..,BU.v (F.below aa F.b) Y ..,by rw[W.out,show Do q ahead (C u) f=C f from by simp[Do,t,U,aj]];exact BU.u (a.below aa a.b) ..⟩
        case measure=>simp[Cc];omega
  ·have cj:n=af:=Y;subst cj;rw[DP Y] at a;have b3:(z.take n)=z:=DP Y;rw[b3];clear b3 bn bl;obtain⟨o,ag⟩:∃o,JW (o=G8 q ahead z):=⟨_,Ap A⟩;rw[<-ag.out] at a⊢;obtain⟨d3,b8,b9,ca,cb,cc,cd,ce⟩:=BU.f a;obtain⟨d4,al,am,an,ao,ap,aq,ar⟩:=BU.f F;obtain⟨au,av,aw,ax,ay,az,a0⟩:=BU.s F;go_wp2_with fail;have b4:=BU.f (BU.u F (N (o.getD Br.h).d) (N (o.getD Br.h).c) (N (o.getD Br.h).b) (N (o.getD Br.h).a) (X (o.getD Br.h).g) (X (o.getD Br.h).e) (X (o.getD Br.h).f));unfold Pm at b4;obtain⟨_,c7,c8,c9,da,db,dd,de⟩:=b4;refine Q4 (v:=AL #[(o.getD Br.h).j,X o.isSome]) (by simp[results,Tryz.results545,go_sem,c7,c8,c9,da,db,dd,de,Br.j]) A ⟨by rw[<-ag.out],?_⟩;exact R3 y (AI _) ..
end
section
open Go.RowKit
def Oz(f:AE)(a:G Br):AC Br:=G8 JE (J7 f) a
def Wi(o:AC Br):F:=(o.getD Br.h).d
def eP(args:Ai M)(a:AG):Sem.run An (Ey 546 args) a=.ok (.enter 546 args) a:=by go_simp
def eO(args:Ai M)(a:AG):Sem.run An (Ey 548 args) a=.ok (.enter 548 args) a:=by go_simp
def g5(f:AE)(m:AC CW)(l o:B)(j:G Br)(a:AG)(y:l<=9223372036854775807)(u:Lv 7 Br.i a m l j):
 CL An 488 #[X f,O m l o] a λp w'=>p=BT (AL #[N (Wi (Oz f j)),X (Oz f j).isSome])/\Bq a.heap.size a w':=by
 have x:=u.below (AD8 (DT a.heap.size a) (AI _) (.cells #[X f] 4));rcases r:G8 JE (J7 f) j with _|b;all_goals
  go_enter Tryz.func488,Tryz.ntmps488;go_wp2_with fail;refine(cE JE (J7 f) _ _ #[T (V a.heap.size)] m l o j _ y x eP eO (λb w' _=>eJ b w') (λb t w' q n z=>b8 f b t a.heap.size w' (Nat.lt_of_lt_of_le Y1 q.size) ((q.cell (p:=⟨a.heap.size,0,E⟩) Y1).trans Y1))).mono ?_;rintro p F ⟨rfl,n⟩;rw[r];simp only[Br.j,AFU,Ix];go_wp2_with fail;go_ret2;exact⟨by simp[Oz,r,Wi],Fc ((AD8 (DT a.heap.size a) (AI _) _).trans (n.mono Y1)) (by have:=n.size;simp at this;omega) _⟩
end
def FT(a:K)(b:B):Br:=⟨b,(a.b b).c+(a.b b).f,(a.ca b:B),(a.b b).b,I,(a.w b).b,I⟩
def ACo(a:K)(b:B):(FT a b).i=H9 a b:=A
structure Hs(j:K)(f:B):Prop where
 a:(j.b f).c+(j.b f).f=0
 b:1<=j.ca f/\j.ca f<=256
 d:(j.b f).b<=1073741824
variable{n:K}
def Hs.c{b:B}(a:Hs n b):FQ (FT n b)=R/\JE (FT n b)=R:=by
 have f:=a.a;have j:=a.b;have l:=a.d;refine⟨?_,?_⟩
 ·simp only[FQ,FT,GK,decide_eq_true_eq];refine⟨⟨⟨⟨⟨⟨?_,?_⟩,?_⟩,?_⟩,?_⟩,?_⟩,?_⟩<;>refine DH ?_<;>omega
 ·simp only[JE,NB,FT,f];decide
def b9(a:K)(n:AE)(b f:B):J7 n (FT a b) (FT a f)=K.hv n (b,(a.b b).b,(a.w b).b) (f,(a.b f).b,(a.w f).b):=by
 unfold J7 K.hv FT;dsimp only;by_cases j:(a.b b).b=(a.b f).b
 ·have l:(((a.b b).b:B):F)=((a.b f).b:B):=Y;by_cases m:(a.w b).b=(a.w f).b
  ·simp[j,m]
  ·simp[j,m]
 ·have l:¬(((a.b b).b:B):F)=((a.b f).b:B):=Y;simp[j,l]
def Vs(a:K)(l:AE):∀(j:G B)(o:AC B),(∀b∈j,Hs a b)->
 (j.map (FT a)).foldl (Do JE (J7 l)) (o.map (FT a))=(j.foldl (λo b=>match o with|none=>C b|some f=>if K.hv l (b,(a.b b).b,(a.w b).b) (f,(a.b f).b,(a.w f).b) then C b else C f) o).map (FT a)
 |[],o,_=>A
 |b::j,o,m=>by
  rw[Ee,DN,DN];have n:=(m b (Bt ..)).c;have q:Do JE (J7 l) (o.map (FT a)) (FT a b)=a0 (FT a) (match o with|none=>C b|some f=>if K.hv l (b,(a.b b).b,(a.w b).b) (f,(a.b f).b,(a.w f).b) then C b else C f):=by
   unfold Do;rw[n.1,n.2];cases o with
   |none=>rfl
   |some f=>
    simp only[Ld,OJ,b9];split<;>rfl
  rw[q];exact Vs a l j _ λp r=>m p (By _ r)
def g7(a:K)(j:AE)(m:a.j.length=70)(l:∀b,b<70->a.ck b=R->Hs a b):Oz j (((AH 70).filter a.ck).map (FT a))=(a.gl j).map (FT a):=by
 have:=Vs a j ((AH 70).filter a.ck) E λb f=>by
  rw[CF,Ce] at f;exact l b f.1 f.2
 unfold K.gl;rw[m];exact this
def g6(a:K)(m:AE)(j p:B)(F:G M)(aa:a.j.length=70)(S:∀b,b<70->a.ck b=R->Hs a b)(b:B)(Z:a.gl m=C b):
 AK 488 [X m,Bm j p ((AH 70).filter a.ck)] (BX 672 (H9 a) j ((AH 70).filter a.ck) F) (AL #[N b,X R]):=by
 have l:=g7 a m aa S;obtain⟨f,o⟩:∃f,(AH 70).filter a.ck=f:=⟨_,A⟩;rw[o] at l;rw[o];rw[Z] at l;have u:f≠[]:=by rintro rfl;cases l
 rw[E1 u,Dw u];have al:f.length<=70:=by
  rw[<-o];have:=Ez a.ck (AH 70);rwa[Dj] at this
 refine A9.al (v:=AL #[N b,X R]) (λai am n ah=>?_) ⟨A,A⟩;have q:BU n j (f.flatMap (H9 a)++F).toArray 672:=BA.h (p:=⟨Bt ..⟩) ah;have ag:Lv 7 Br.i n (V j) f.length (f.map (FT a)):=by
  refine⟨Y1,λaj=>⟨j,0,A,q.b,λy an x z af=>?_⟩⟩;rw[D_] at x;obtain⟨L,r,rfl⟩:=a1.1 x;rw[ACo];have ak:y<f.length:=(Cx.1 r).1;have U:=Vj (f:=H9 a) (q:=7) (λ_=>A) r af;have W:(f.flatMap (H9 a)).length=f.length*7:=Fx (f:=H9 a) (a:=7) (λ_=>A) f;show n.cell? ⟨j,0+(y*7+z),E⟩=(H9 a L)[z]?;rw[q.e,BF,List.getElem?_toArray,Di (by rw[W];omega),U]
 have t:=g5 m (V j) f.length p (f.map (FT a)) n Y ag;rw[l] at t;exact t
section
variable{a:Type}{f:B->G M}{c:B}
def k0{a l j:G M}{f:B}(m:f+j.length<=a.length):Bf (a++l) f j=Bf a f j++l:=by
 rw[FN _ _ _ Z5,FN _ _ _ m,Eg Y,IB m];simp
def j'{a j f:G M}(l:f.length=j.length):Bf (a++j) a.length f=a++f:=by
 rw[FN _ _ _ Z5,List.take_left,List.drop_eq_nil_of_le Z5,B1]
def Vl(l:∀q,(f q).length=c){n:G M}(j:n.length=c){b:B}:∀{a:B},b<a->Bf (AZ f a) (b*c) n=AZ (λm=>if m=b then n else f m) a
 |a+1,r=>by
  rw[M4,M4];have p:(AZ f a).length=a*c:=Db l a;by_cases o:b=a
  ·subst o;rw[A8 A,<-p,j' (by rw[j,l])];congr 1;exact F4 λm t=>by rw[A1 Y]
  ·rw[A1 (Ne.symm o),k0 (by rw[p,j,<-Lc];exact OD _ Y),Vl l j Y]
end
def Pn(j:K)(b:B)(f:Cq->Cq)(m:b<j.j.length)(a:B):(j.bl b f).b a=if a=b then f (j.b b) else j.b a:=by
 unfold K.bl K.b;simp only[AY,EV];by_cases l:b=a
 ·subst l;simp[m]
 ·rw[A1 l,A1 (Ne.symm l)]
def JB(a:K)(b:B)(f:Cq->Cq)(l:b<a.j.length)(j:B):Ab (a.bl b f) j=if j=b then Cl (f (a.b b)) else Ab a j:=by
 unfold Ab;rw[Pn a b f l j];split<;>rfl
def Pt(j o b:B)(l:AE)(f:AR)(a:K)(n:AX)(y:B2 o n a)(aj:o+1<=1000000000)(ah:a.j.length=70)(r:b<70)(G:a.gl l=C b)(ao:a.x<=o)(ar:(a.b b).b<=o)
 (ak:∀b,b<70->a.ck b=R->Hs a b)(ai:∀b,b<70->-1000000000<=(a.b b).c+(a.b b).f/\(a.b b).c+(a.b b).f<=1000000000):
 Z9 413 [P j,X l] (f.a j a n) λv M=>∃p m,a.fc l=C (b,m)/\B2 (o+1) p m/\v=AL #[N b,N 0]/\M=f.a j m p:=by
 have af:CX (AZ (Ab a) 70) (0+b*6+4) 1 I=C (N (a.b b).b):=by
  show(AZ (Ab a) 70)[0+b*6+4]?=_;rw[BF,FJ a r Y];rfl
 have Z:=i4 j f a n o 405 _ [P j] [] a.ck y A ai (λc ag=>Rk j c ag f a n);refine A9.t ?_;refine EY.b (L ?_);refine A9.z Z ?_;rintro v u ⟨W,S,am,aq,rfl,rfl⟩;refine A9.ac (j:=f.a j a n) (g6 a l W S am ah ak b G) ?_;rintro v u ⟨rfl,rfl⟩;refine L ?_;refine A9.w (a:=f.a j a n) (AQ.ak _ _) (A9.u (Rw f.f f.c f.s b l y aj r) ?_);rintro v u ⟨p,aa,rfl,rfl⟩;refine L ?_;refine F'.mk ((a.x+1:B):F) (Ec Y) (Mw.mk ⟨A,Z2⟩ (L ?_));refine Qh.mk b A r (Ms.mk af (F'.mk (((a.b b).b+1:B):F) (A3 Y) (A' ?_)));have z:(AZ (Ab a) 70).length=420:=Db (EH a) 70;refine Mw.mk ⟨A,by rw[z];omega,A⟩ ?_;clear z;have au:((-1:F)==(b:F))=I:=Z4;refine L ?_;obtain⟨m,t⟩:∃m,({(a.cx b l).bl b (λq=>{Cq.e with b:=q.b+1}) with x:=a.x+1}:K)=m:=⟨_,A⟩;refine⟨_,AQ.ab (a:=f.a j m p) (j:=[]) ?_,p,m,?_,?_,A,A⟩
 ·subst t;have U:Bf (AZ (Ab a) 70) (0+b*6) (Cl {Cq.e with b:=(a.b b).b+1})=AZ (Ab ({(a.cx b l).bl b (λq=>{Cq.e with b:=q.b+1}) with x:=a.x+1}:K)) 70:=by
   rw[BF,Vl (EH a) A r];refine F4 λal ap=>?_;have:=JB (a.cx b l) b (λq=>{Cq.e with b:=q.b+1}) (by show b<a.j.length;omega) al;exact this.symm
  show GS _ (_::.t f.x (AZ (Ab _) 70) _::_) _;rw[<-U];repeat constructor
 ·unfold K.fc;rw[G];exact AB (λan=>C (b,an)) t
 ·rw[<-t];exact aa
def bO(m n b:B)(p:AR)(o f:K)(t:AX)(u:o.bk 0 E=f)(L:B2 n t f)(af:n+1<=1000000000)(z:f.j.length=70)(x:b<70)(y:f.gl I=C b)(W:f.x<=n)(ah:(f.b b).b<=n)
 (ag:∀b,b<70->f.ck b=R->Hs f b)(aa:∀b,b<70->-1000000000<=(f.b b).c+(f.b b).f/\(f.b b).c+(f.b b).f<=1000000000):
 Z9 437 [P m,N 0] (p.a m o t) λv F=>∃q,B2 (n+1) q (o.bm 0)/\v=N 0/\F=p.a m (o.bm 0) q:=by
 have S:=Pt m n b I p f t L af z x y W ah ag aa;refine A9.t ?_;refine A7 ?_;refine A9.w (a:=p.a m f t) (by subst u;exact .w _) ?_;refine A9.z S ?_;rintro v aj ⟨q,j,r,M,rfl,rfl⟩;refine A7 ?_;have ak:(AZ (Ab j) 70).length=420:=Db (EH j) 70;refine A7 ?_;have al:j.j.length=70:=by
  unfold K.fc at r;rw[y] at r;simp only[EX,F0,a4] at r;rw[<-r];show(f.j.set b _).length=70;rw[B_,z]
 have U:o.bm 0=(j.bl b (λl=>{l with a:=1})).bk 0 (C b):=by
  unfold K.bm;rw[u];show(match f.fc I with|none=>o|some (b,j)=>_)=_;rw[r];rfl
 rw[U];have G:(AZ (Ab j) 70).set (0+b*6+0) (N 1)=AZ (Ab (j.bl b (λl=>{l with a:=1}))) 70:=by
  rw[BF,Js (EH j) Z _ x];refine F4 λai am=>?_;rw[JB j b _ Y ai];rfl
 refine⟨_,AQ.ab (a:=p.a m ((j.bl b (λl=>{l with a:=1})).bk 0 (C b)) q) (j:=[]) ?_,q,M,A,A⟩;show GS _ (_::.t p.x (AZ (Ab (j.bl b (λl=>{l with a:=1}))) 70) _::_) _;rw[<-G];repeat constructor
def bP(m n b:B)(p:AR)(o f:K)(t:AX)(u:o.bk 1 E=f)(L:B2 n t f)(af:n+1<=1000000000)(z:f.j.length=70)(x:b<70)(y:f.gl R=C b)(W:f.x<=n)(ah:(f.b b).b<=n)
 (ag:∀b,b<70->f.ck b=R->Hs f b)(aa:∀b,b<70->-1000000000<=(f.b b).c+(f.b b).f/\(f.b b).c+(f.b b).f<=1000000000):
 Z9 437 [P m,N 1] (p.a m o t) λv F=>∃q,B2 (n+1) q (o.bm 1)/\v=N 0/\F=p.a m (o.bm 1) q:=by
 have S:=Pt m n b R p f t L af z x y W ah ag aa;refine A9.t ?_;refine A7 ?_;refine A9.w (a:=p.a m f t) (by subst u;exact .w _) ?_;refine A9.z S ?_;rintro v aj ⟨q,j,r,M,rfl,rfl⟩;refine A7 ?_;have ak:(AZ (Ab j) 70).length=420:=Db (EH j) 70;refine A7 ?_;have al:j.j.length=70:=by
  unfold K.fc at r;rw[y] at r;simp only[EX,F0,a4] at r;rw[<-r];show(f.j.set b _).length=70;rw[B_,z]
 have U:o.bm 1=(j.bl b (λl=>{l with a:=1})).bk 1 (C b):=by
  unfold K.bm;rw[u];show(match f.fc R with|none=>o|some (b,j)=>_)=_;rw[r];rfl
 rw[U];have G:(AZ (Ab j) 70).set (0+b*6+0) (N 1)=AZ (Ab (j.bl b (λl=>{l with a:=1}))) 70:=by
  rw[BF,Js (EH j) Z _ x];refine F4 λai am=>?_;rw[JB j b _ Y ai];rfl
 refine⟨_,AQ.ab (a:=p.a m ((j.bl b (λl=>{l with a:=1})).bk 1 (C b)) q) (j:=[]) ?_,q,M,A,A⟩;show GS _ (_::.t p.x (AZ (Ab (j.bl b (λl=>{l with a:=1}))) 70) _::_) _;rw[<-G];repeat constructor
def bQ(m n b:B)(p:AR)(o f:K)(t:AX)(x:o.bk 2 E=f)(U:B2 n t f)(ai:n+1<=1000000000)(F:f.j.length=70)(u:b<70)(z:f.gl I=C b)(ag:f.x<=n)(ak:(f.b b).b<=n)
 (aj:∀b,b<70->f.ck b=R->Hs f b)(ah:∀b,b<70->-1000000000<=(f.b b).c+(f.b b).f/\(f.b b).c+(f.b b).f<=1000000000):
 Z9 437 [P m,N 2] (p.a m o t) λv G=>∃q,B2 (n+1) q (o.bm 2)/\v=N 0/\G=p.a m (o.bm 2) q:=by
 have aa:=Pt m n b I p f t U ai F u z ag ak aj ah;refine A9.t (L ?_);refine Qh.mk 2 A Z (Mw.mk ⟨A,Z2⟩ (L ?_));refine A9.w (a:=p.a m f t) (by subst x;exact .w _) (A9.z aa ?_);rintro v am ⟨q,j,r,W,rfl,rfl⟩;refine A7 ?_;have y:(AZ (Ab j) 70).length=420:=Db (EH j) 70;refine Mw.mk ⟨A,by rw[y];omega⟩ (L ?_);refine Qh.mk b A u (Mw.mk ⟨A,by show 0+b*6+0<((AZ (Ab j) 70).set _ _).length;rw[B_,y];omega⟩ (L ?_));refine Qh.mk 2 A Z (Mw.mk ⟨A,Z2⟩ ?_);have an:j.j.length=70:=by
  unfold K.fc at r;rw[z] at r;simp only[EX,F0,a4] at r;rw[<-r];show(f.j.set b _).length=70;rw[B_,F]
 have af:o.bm 2=(j.bl b (λl=>{l with a:=2})).bk 2 (C b):=by
  unfold K.bm;rw[x];show(match f.fc I with|none=>o|some (b,j)=>_)=_;rw[r];rfl
 rw[af];have M:(AZ (Ab j) 70).set (0+b*6+0) (N 2)=AZ (Ab (j.bl b (λl=>{l with a:=2}))) 70:=by
  rw[BF,Js (EH j) Z _ u];refine F4 λal ao=>?_;rw[JB j b _ Y al];rfl
 refine⟨_,AQ.ab (a:=p.a m ((j.bl b (λl=>{l with a:=2})).bk 2 (C b)) q) (j:=[]) ?_,q,W,A,A⟩;show GS _ (_::.t p.x (AZ (Ab (j.bl b (λl=>{l with a:=2}))) 70) _::_) _;rw[<-M];have S:((AZ (Ab j) 70).set (0+b*6+0) (N 1)).set (0+b*6+0) (N 2)=(AZ (Ab j) 70).set (0+b*6+0) (N 2):=List.set_set ..;rw[<-S];repeat constructor
structure aT(l:B)(j:K)(m:AE):Prop where
 d:j.j.length=70
 b:j.x<=l
 e:∃f,j.gl m=C f/\f<70/\(j.b f).b<=l
 c:∀f,f<70->j.ck f=R->Hs j f
 a:∀f,f<70->-1000000000<=(j.b f).c+(j.b f).f/\(j.b f).c+(j.b f).f<=1000000000
structure Qm(m n:B)(j:K)(l:B):Prop where
 b:j.al n=C l
 a:l<70
 d:j.ci l≠0
 g:(j.b l).b<=m
 c:j.x<=m
 f:j.ap<=m
 e:j.aj=128
structure OR(m l:B)(j:K):Prop where
 b:j.ap<=m
 c:∀f,j.al l=C f->f<70/\(j.ci f≠0->Qm (m+1) l j.ag f)
 a:(j.al l=E\/∃f,j.al l=C f/\j.ci f=0)->aT m (j.ag.bk l E) (l==1)/\∃f,Qm (m+1) l (j.ag.bm l) f
def YN(a:K)(f:B)(o:AC B):(a.bk f o).ap=a.ap:=by unfold K.bk;split;rfl;split<;>rfl
variable{r:K}{za:AE}
def ABs{b:B}(a:n.fc za=C (b,r)):r.ap=n.ap:=by
 unfold K.fc at a;split at a
 ·cases a
 ·simp only[EX,F0] at a;rw[<-a.2];rfl
def UW(a:K)(f:B):(a.bm f).ap=a.ap:=by
 unfold K.bm;cases l:(a.bk f E).fc (f==1) with
 |none=>rfl
 |some m=>
  obtain⟨b,j⟩:=m;show((j.bl b _).bk f (C b)).ap=a.ap;rw[YN];show j.ap=a.ap;rw[ABs l,YN]
def SH(j:AN)(l:j.b<256)(m:∀a∈q,a<256)(n:B):∀a∈j.e q n,a<256:=by
 intro a f;rw[AN.e,Bs,Bs,FX] at f;rcases f with f|⟨_,rfl⟩|f
 ·exact m a f
 ·omega
 ·exact Ya j l a f
def NA(j:AR)(a:K)(f:l<=2):(j.j a)[15+l]?=C (D1 (a.al l)):=by
 match l,f with
 |0,_=>rfl
 |1,_=>rfl
 |2,_=>rfl
def UX(l:B)(S:l<=2)(m f b:B)(o:AR)(j a:K)(n:AX)(p:j.bk l E=a)(q:B2 f n a)(z:f+1<=1000000000)(x:a.j.length=70)(r:b<70)(u:a.gl (l==1)=C b)(t:a.x<=f)(G:(a.b b).b<=f)(F:∀b,b<70->a.ck b=R->Hs a b)(y:∀b,b<70->-1000000000<=(a.b b).c+(a.b b).f/\(a.b b).c+(a.b b).f<=1000000000):
 Z9 437 [P m,N l] (o.a m j n) λv M=>∃L,B2 (f+1) L (j.bm l)/\v=N 0/\M=o.a m (j.bm l) L:=
 match l,S with
 |0,_=>bO m f b o j a n p q z x r u t G F y
 |1,_=>bP m f b o j a n p q z x r u t G F y
 |2,_=>bQ m f b o j a n p q z x r u t G F y
def PU(l:B)(ag:l=0\/l=1\/l=2)(aj av:B)(o:AR)(j:K)(ax:AX)(q:AN)(ak:q.b<256/\q.c<256^4/\q.h<256^8)(U ba m bc:B)(z:G M)(ai:AU)(p:G B)(bm:p.length=m)(bn:m<=128)(bg:0<m)(bo:∀a0∈p,a0<256)(bi:(z.drop ba).take m=p.map W)(bd:B2 av ax j)(b4:av+10<=1000000000)(be:OR av l j):
 Z9 365 [P aj,N l,HY q,O (C ⟨U,ba,E⟩) m bc] (.t U z ai::o.a aj j ax) λv b2=>∃bp,B2 (av+3) bp (j.af l q p).2/\v=AL #[AV (AW (j.af l q p).1).toArray,N 0]/\b2=.t U z ai::o.a aj (j.af l q p).2 bp:=by
 have ay:l<=2:=Y;have b5:=be.b;refine A9.t ?_;intro br bs;refine L ?_;refine F'.mk ((j.ap+1:B):F) (Ec Y) (A7 ?_);refine EY.b (Qh.mk l A Y ?_);cases ar:j.al l with
 |none=>
  have x:(o.j j)[15+l]?=C (N (-1)):=by rw[NA o j ay,ar];rfl
  have y:Ac ((-1:F)<0)=R:=A;obtain⟨Z,b,r⟩:=be.a (AT ar);have a8:j.af l q p=(⟨b,(j.ag.bm l).y b⟩,(j.ag.bm l).cg l b q p):=by
   have a9:j.ag.gc l=j.ag.bm l:=by
    unfold K.gc;rw[show j.ag.al l=E from ar]
   have a1:((j.ag.bm l).al l).getD 0=b:=by rw[r.b];rfl
   unfold K.af;rw[a9];simp only[a1]
  rw[a8];obtain⟨a0,bl,bj,bk⟩:=Z.e;have bh:=UX l ay aj av a0 o j.ag _ ax A (by rcases ag with rfl|rfl|rfl<;>exact bd) Y Z.d bj bl Z.b bk Z.c Z.a;refine Ms.mk (v:=(N (-1))) ?_ ?_
  ·rcases ag with rfl|rfl|rfl<;>exact x
  refine L ?_;refine A9.w (a:=[.t bs [N 0,N 0] 326,.t br [N q.b,N q.c,D Au (j.ap+1:B),D Au q.h,D Au q.d,N q.f] 500,.t U z ai]++o.a aj j.ag ax) (.w _) (A9.ac bh ?_);rintro v aw ⟨b3,a3,rfl,rfl⟩;clear y x;refine L ?_;have a6:(j.ag.bm l).ap=j.ap+1:=UW j.ag l;have x:(o.j (j.ag.bm l))[15+l]?=C (N b):=by rw[NA o _ ay,r.b];rfl
  have ap:CX (AZ (Ab (j.ag.bm l)) 70) (0+b*6+4) 1 I=C (N ((j.ag.bm l).b b).b):=by
   show(AZ (Ab (j.ag.bm l)) 70)[0+b*6+4]?=_;rw[BF,FJ (j.ag.bm l) r.a Y];rfl
  have b1:=r.g;have bt:=r.c;have bv:=r.f;have au:=r.d;have aq:=r.a;obtain⟨n,u⟩:∃n,({q with a:=j.ap+1,d:=(j.ag.bm l).x,f:=((j.ag.bm l).b b).b}:AN)=n:=⟨_,A⟩;have aa:n.b<256:=by rw[<-u];exact ak.1
  have am:n.c<256^4/\n.a<256^8/\n.h<256^8/\n.d<256^8/\n.f<256^4:=by rw[<-u];exact⟨ak.2.1,by show j.ap+1<_;omega,ak.2.2,by show(j.ag.bm l).x<_;omega,by show((j.ag.bm l).b b).b<_;omega⟩
  have a2:=Re n aa am U ba m bc z ai p bm bn bg bi;have af:=n.j (q:=p) (l:=128) Y;have an:=SH n aa bo 128;have a5:(j.ag.bm l).cg l b q p=(let ah:=(j.ag.bm l).eu b (n.e p 128);if l=2 then ah else{ah with bq:=ah.x}):=by
   unfold K.cg;rw[a6,u,r.e]
  rw[a5];have ao:(BD (j.ag.bm l).ab b).a.length<F6 (j.ag.bm l).i (BD (j.ag.bm l).ab b):=by
   have bu:(j.ag.bm l).ca b-(j.ag.bm l).y b≠0:=au;show(j.ag.bm l).y b<(j.ag.bm l).ca b;omega
  have a7:=λS=>NS o.f o.c o.s b S 0 192 ((n.e p 128).map W++[]) 5 (n.e p 128) a3 Y aq ao af (Gb _ [] 192 af) an Y;clear ao au af an am aa;subst u;refine Qh.mk l A Y (Ms.mk (v:=(N b)) ?_ ?_)
  ·rcases ag with rfl|rfl|rfl<;>exact x
  refine A7 ?_;refine Ms.mk ap (A7 ?_);refine Mt.mk (aY.mk ap) (A7 ?_);refine A9.u a2 ?_;rintro v aw ⟨S,rfl,rfl⟩;refine L ?_;refine A9.u (a7 S) ?_;rintro v aw ⟨al,a4,rfl,rfl⟩;rcases ag with rfl|rfl|rfl;all_goals refine A7 ?_
  all_goals exact⟨.t U z ai::o.a aj _ al,AQ.b,al,a4.b Y,A,A⟩
 |some b=>
  have x:(o.j j)[15+l]?=C (N b):=by rw[NA o j ay,ar];rfl
  have y:=Aa ((b:F)<0);refine Ms.mk (v:=(N b)) ?_ ?_
  ·rcases ag with rfl|rfl|rfl<;>exact x
  repeat(refine IK.t y ?_)
  apply Ms.mk;focus rfl
  repeat(refine IK.t y ?_)
  refine Qh.mk l A Y ?_;repeat(refine IK.t y ?_)
  refine Ms.mk (v:=(N b)) ?_ ?_
  ·rcases ag with rfl|rfl|rfl<;>exact x
  repeat(refine IK.t y ?_)
  obtain⟨aq,bx⟩:=be.c b ar;refine A9.b (Wc o.f o.c o.s b bd aq) ?_;have bf:j.ci b=F6 j.i (BD j.ab b)-(BD j.ab b).a.length:=A;by_cases az:j.ci b=0
  ·have bb:(((F6 j.i (BD j.ab b)-(BD j.ab b).a.length:B):F)==0)=R:=by rw[<-bf,az];rfl
   obtain⟨Z,t,r⟩:=be.a (Ae ⟨b,ar,az⟩);have a8:j.af l q p=(⟨t,(j.ag.bm l).y t⟩,(j.ag.bm l).cg l t q p):=by
    have a9:j.ag.gc l=j.ag.bm l:=by
     unfold K.gc;rw[show j.ag.al l=C b from ar];exact A8 az
    have a1:((j.ag.bm l).al l).getD 0=t:=by rw[r.b];rfl
    unfold K.af;rw[a9];simp only[a1]
   rw[a8];obtain⟨a0,bl,bj,bk⟩:=Z.e;have bh:=UX l ay aj av a0 o j.ag _ ax A (by rcases ag with rfl|rfl|rfl<;>exact bd) Y Z.d bj bl Z.b bk Z.c Z.a;refine IK.t y (IK.t y ?_);clear bf x;refine IK.u bb ?_;clear y bb;refine A9.w (a:=[.t bs [N 0,N 0] 326,.t br [N q.b,N q.c,D Au (j.ap+1:B),D Au q.h,D Au q.d,N q.f] 500,.t U z ai]++o.a aj j.ag ax) AQ.b (A9.ac bh ?_);rintro v aw ⟨b3,a3,rfl,rfl⟩;refine L ?_;have a6:(j.ag.bm l).ap=j.ap+1:=UW j.ag l;have x:(o.j (j.ag.bm l))[15+l]?=C (N t):=by rw[NA o _ ay,r.b];rfl
   have ap:CX (AZ (Ab (j.ag.bm l)) 70) (0+t*6+4) 1 I=C (N ((j.ag.bm l).b t).b):=by
    show(AZ (Ab (j.ag.bm l)) 70)[0+t*6+4]?=_;rw[BF,FJ (j.ag.bm l) r.a Y];rfl
   have b1:=r.g;have bt:=r.c;have bv:=r.f;have au:=r.d;have aq:=r.a;obtain⟨n,u⟩:∃n,({q with a:=j.ap+1,d:=(j.ag.bm l).x,f:=((j.ag.bm l).b t).b}:AN)=n:=⟨_,A⟩;have aa:n.b<256:=by rw[<-u];exact ak.1
   have am:n.c<256^4/\n.a<256^8/\n.h<256^8/\n.d<256^8/\n.f<256^4:=by rw[<-u];exact⟨ak.2.1,by show j.ap+1<_;omega,ak.2.2,by show(j.ag.bm l).x<_;omega,by show((j.ag.bm l).b t).b<_;omega⟩
   have a2:=Re n aa am U ba m bc z ai p bm bn bg bi;have af:=n.j (q:=p) (l:=128) Y;have an:=SH n aa bo 128;have a5:(j.ag.bm l).cg l t q p=(let ah:=(j.ag.bm l).eu t (n.e p 128);if l=2 then ah else{ah with bq:=ah.x}):=by
    unfold K.cg;rw[a6,u,r.e]
   rw[a5];have ao:(BD (j.ag.bm l).ab t).a.length<F6 (j.ag.bm l).i (BD (j.ag.bm l).ab t):=by
    have bu:(j.ag.bm l).ca t-(j.ag.bm l).y t≠0:=au;show(j.ag.bm l).y t<(j.ag.bm l).ca t;omega
   have a7:=λS=>NS o.f o.c o.s t S 0 192 ((n.e p 128).map W++[]) 5 (n.e p 128) a3 Y aq ao af (Gb _ [] 192 af) an Y;clear ao au af an am aa;subst u;refine Qh.mk l A Y (Ms.mk (v:=(N t)) ?_ ?_)
   ·rcases ag with rfl|rfl|rfl<;>exact x
   refine A7 ?_;refine Ms.mk ap (A7 ?_);refine Mt.mk (aY.mk ap) (A7 ?_);refine A9.u a2 ?_;rintro v aw ⟨S,rfl,rfl⟩;refine L ?_;refine A9.u (a7 S) ?_;rintro v aw ⟨al,a4,rfl,rfl⟩;rcases ag with rfl|rfl|rfl;all_goals refine A7 ?_
   all_goals exact⟨.t U z ai::o.a aj _ al,AQ.b,al,a4.b Y,A,A⟩
  ·have bb:(((F6 j.i (BD j.ab b)-(BD j.ab b).a.length:B):F)==0)=I:=by rw[<-bf];simp only[Bv];omega
   have r:Qm (av+1) l j.ag b:=bx az;have a8:j.af l q p=(⟨b,j.ag.y b⟩,j.ag.cg l b q p):=by
    have a9:j.ag.gc l=j.ag:=by
     unfold K.gc;rw[show j.ag.al l=C b from ar];exact A1 az
    have a1:(j.ag.al l).getD 0=b:=by rw[r.b];rfl
    unfold K.af;rw[a9];simp only[a1]
   rw[a8];refine IK.t y (IK.t y ?_);clear bf x;refine IK.t bb ?_;clear y bb bx az aq;have a3:B2 (av+1) ax j.ag:=bd.b Y;have a6:j.ag.ap=j.ap+1:=A;have x:(o.j (j.ag))[15+l]?=C (N b):=by rw[NA o _ ay,r.b];rfl
   have ap:CX (AZ (Ab (j.ag)) 70) (0+b*6+4) 1 I=C (N ((j.ag).b b).b):=by
    show(AZ (Ab (j.ag)) 70)[0+b*6+4]?=_;rw[BF,FJ (j.ag) r.a Y];rfl
   have b1:=r.g;have bt:=r.c;have bv:=r.f;have au:=r.d;have aq:=r.a;obtain⟨n,u⟩:∃n,({q with a:=j.ap+1,d:=(j.ag).x,f:=((j.ag).b b).b}:AN)=n:=⟨_,A⟩;have aa:n.b<256:=by rw[<-u];exact ak.1
   have am:n.c<256^4/\n.a<256^8/\n.h<256^8/\n.d<256^8/\n.f<256^4:=by rw[<-u];exact⟨ak.2.1,by show j.ap+1<_;omega,ak.2.2,by show(j.ag).x<_;omega,by show((j.ag).b b).b<_;omega⟩
   have a2:=Re n aa am U ba m bc z ai p bm bn bg bi;have af:=n.j (q:=p) (l:=128) Y;have an:=SH n aa bo 128;have a5:(j.ag).cg l b q p=(let ah:=(j.ag).eu b (n.e p 128);if l=2 then ah else{ah with bq:=ah.x}):=by
    unfold K.cg;rw[a6,u,r.e]
   rw[a5];have ao:(BD (j.ag).ab b).a.length<F6 (j.ag).i (BD (j.ag).ab b):=by
    have bu:(j.ag).ca b-(j.ag).y b≠0:=au;show(j.ag).y b<(j.ag).ca b;omega
   have a7:=λS=>NS o.f o.c o.s b S 0 192 ((n.e p 128).map W++[]) 5 (n.e p 128) a3 Y aq ao af (Gb _ [] 192 af) an Y;clear ao au af an am aa;subst u;refine Qh.mk l A Y (Ms.mk (v:=(N b)) ?_ ?_)
   ·rcases ag with rfl|rfl|rfl<;>exact x
   refine A7 ?_;refine Ms.mk ap (A7 ?_);refine Mt.mk (aY.mk ap) (A7 ?_);refine A9.u a2 ?_;rintro v aw ⟨S,rfl,rfl⟩;refine L ?_;refine A9.u (a7 S) ?_;rintro v aw ⟨al,a4,rfl,rfl⟩;rcases ag with rfl|rfl|rfl;all_goals refine A7 ?_
   all_goals exact⟨.t U z ai::o.a aj _ al,AQ.b,al,a4.b Y,A,A⟩
def Ol(a:l<q.length):CX (q.map CH) (0+l*1) 1 I=C (CH (q.getD l 0)):=by
 show(q.map CH)[0+l*1]?=_;rw[BF,B3,D_,Aw a,AY,Aw a];rfl
def Fo(j:K)(a:B):M:=match j.bo a with
 |none=>AL #[AV #[N 0,N 0],X I]
 |some f=>AL #[AV (AW f).toArray,X R]
def T0(m j:B)(f:AR)(a:K)(u:j<a.g.length)(z:a.g.length<=1000)(r:a.g.getD j 0<4294967296):
 AK 404 [P f.d,N j] [.t f.d (f.u a m) 394,.t f.ac (a.g.map CH) 30] (Fo a j):=by
 have n:=Ol u;have t:=Aa ((j:F)<0);have l:=Aa ((j:F)≥(a.g.length:F));obtain⟨v,o⟩:∃v,a.g.getD j 0=v:=⟨_,A⟩;rw[o] at n r;refine A9.t ?_;intro y;repeat first|refine IK.t t ?_|(apply Ms.mk;focus rfl)
 clear t;repeat first|refine IK.t l ?_|(apply Ms.mk;focus rfl)
 refine A7 ?_;repeat(refine IK.t l ?_)
 refine Ms.mk n ?_;repeat(refine IK.t l ?_)
 clear l;by_cases q:v=0
 ·subst q;have p:Fo a j=AL #[AV #[D H 0,D H 0],X I]:=by unfold Fo K.bo;simp only[o,if_true]
  have x:(((0:B):F)==0)=R:=A;refine A7 ?_;exact⟨_,AQ.b (g:=[.t f.d (f.u a m) 394,.t f.ac (a.g.map CH) 30]),p.symm,A⟩
 ·have p:Fo a j=AL #[H6 ((v-1)/256) ((v-1)%256),X R]:=by unfold Fo K.bo;simp only[o,A1 q];rfl
  have x:((v:F)==0)=I:=Z4;refine A7 ?_;refine Ms.mk n (A9.ab (PZ v Y r _) (A7 ?_));exact⟨_,AQ.b (g:=[.t f.d (f.u a m) 394,.t f.ac (a.g.map CH) 30]),p.symm,A⟩
def ABD(n p b q:B)(a:AR)(f:K)(r:AX)(m:G B)(x:B2 p r f)(F:p+1<=1000000000)(z:b<70)(M:(f.w b).a[q]?=C m):
 Z9 627 [AV #[P n],H6 b q] (.t n (a.j f) 292::r.b a.f a.c a.s) λv t=>∃l o j,B2 (p+1) j {f with u:=f.u+1}/\v=AL #[Q l 128 128,N 0]/\t=AJ l m o::.t n (a.j f) 292::j.b a.f a.c a.s:=by
 refine A9.t ?_;intro U W;refine L ?_;refine A9.u (ME a.f a.c a.s b q m x F z M) ?_;rintro v S ⟨l,o,j,y,rfl,rfl⟩;refine L ?_;refine Qp.mk 0 128 128 0 A A A Y A (by split<;>omega) (L ?_);exact⟨_,AQ.b (g:=AJ l m o::.t n (a.j f) 292::j.b a.f a.c a.s),l,o,j,y,A,A⟩
def WW(v:B)(j:v<=262144)(a:S):AK 493 [D Ax v] a (X R):=by
 rcases Nat.eq_zero_or_pos v with f|f
 ·subst f;exact ABY a
 ·exact ABZ v f j a
def K9(a:K)(f:B):G B:=let v:=a.g.getD f 0;if v=0 then U 128 0 else(a.ay (DE v)).take 128
def KB(a:K)(f:B):K:={a with u:=if a.g.getD f 0=0 then a.u else a.u+1}
structure GP(f:K)(j:B):Prop where
 a:f.g.getD j 0<4294967296
 b:f.g.getD j 0≠0->(DE (f.g.getD j 0)).a<70/\∃l,(f.w (DE (f.g.getD j 0)).a).a[(DE (f.g.getD j 0)).b]?=C l/\l.length=192/\(∀n∈l,n<256)/\∀m,m<32->Az ((l.take 128).drop (4*m)) 4<=262144
def AFf{P:Prop}(h:P:=by rw[List.map_replicate,List.append_nil]):P:=h
def mR(m u l:B)(a:AR)(f:K)(t:AX)(r:l<f.g.length)(q:f.g.getD l 0=0):
 Z9 430 [P a.d,N l] [.t a.d (a.u f m) 394,.t a.ac (f.g.map CH) 30]
  λv o=>∃j,v=AL #[Q j 128 128,N 0]/\o=[AJ j (U 128 0) [],.t a.d (a.u f m) 394,.t a.ac (f.g.map CH) 30]:=by
 have n:=Ol r;rw[q] at n;refine A9.t ?_;refine A7 ?_;refine Ms.mk n ?_;refine L ?_;refine Cr.t (p:=128) (j:=128) (m:=_) (u:=_) A A A A A A ⟨Z,Z,Z⟩ (U 128 (W 0)) (DM _ _) (λj=>?_);refine L ?_;have p:U 128 (W 0)=(U 128 0).map W++[]:=AFf;refine⟨_,?_,j,A,A⟩;show AQ (.t j (U 128 (W 0)) 5::_) _;rw[p];exact .w _
def mS(n U o:B)(a:AR)(f:K)(aa:AX)(az:B2 U aa f)(a5:U+1<=1000000000)(a3:o<f.g.length)(ag:GP f o)(aj:f.g.getD o 0≠0):
 Z9 430 [P a.d,N o] (.t n (a.j f) 292::.t a.d (a.u f n) 394::.t a.ac (f.g.map CH) 30::aa.b a.f a.c a.s)
  λv au=>∃t p ai,B2 (U+1) ai {f with u:=f.u+1}/\128+p.length<=BP/\v=AL #[Q t 128 (128+p.length),N 0]/\au=AJ t ((f.ay (DE (f.g.getD o 0))).take 128) p::.t n (a.j f) 292::.t a.d (a.u f n) 394::.t a.ac (f.g.map CH) 30::ai.b a.f a.c a.s:=by
 have y:=Ol a3;have an:=ag.a;obtain⟨al,m,ah,a8,a1,am⟩:=ag.b aj;have ao:f.ay (DE (f.g.getD o 0))=m:=by
  show(f.w (DE (f.g.getD o 0)).a).a.getD (DE (f.g.getD o 0)).b []=m;rw[AY,ah];rfl
 rw[ao];obtain⟨v,aq⟩:∃v,f.g.getD o 0=v:=⟨_,A⟩;rw[aq] at y an ah al aj;clear ao aq ag;obtain⟨l,x⟩:∃l,m.take 128=l:=⟨_,A⟩;have ak:l.length=128:=by rw[<-x,Ci];omega
 have ax:∀r∈l,r<256:=λr S=>a1 r (by rw[<-x] at S;exact EW S);rw[x];rw[x] at am;have ap:∀p:G M,((m.map W++p).drop 0).take 128=l.map W:=λp=>by
  rw[CJ,Eg Y5,<-x,Hk]
 have ay:=ABD n U ((v-1)/256) ((v-1)%256) a f aa m az a5 al ah;have ar:((v:F)==0)=I:=Z4;refine A9.t ?_;refine A7 ?_;refine Ms.mk y ?_;refine IK.t ar ?_;clear ar;refine A7 ?_;refine Ms.mk y (A9.ab (PZ v Y an _) ?_);repeat first|refine Mt.mk (aY.mk y) ?_|refine Mt.mk (aY.mk A) ?_
 refine A9.u (ay) ?_;rintro v av ⟨z,q,af,a0,rfl,rfl⟩;repeat first|refine Mt.mk (aY.mk y) ?_|refine Mt.mk (aY.mk A) ?_
 refine L ?_;refine EY.f (m:=B) (λj=>32-j) (λj=>j<=32) (λj=>[(6,Q z 128 128),(8,N (4*j:B))]) (λ_=>AJ z m q::.t n (a.j f) 292::.t a.d (a.u f n) 394::.t a.ac (f.g.map CH) 30::af.b a.f a.c a.s) 0 (Af _) ⟨A,A,AA⟩ AQ.b ?_;intro j a9 a7;refine EY.b (IK.mk (λZ=>?_) (λZ=>?_))
 ·have Z:j<32:=by simp at Z;omega
  have a6:((m.map W++q).drop (4*j)).take (128-4*j)=(l.drop (4*j)).map W:=by
   have:=NC _ 0 128 _ (ap q) (4*j) (128-4*j) Y;rwa[BF] at this
  have a2:=Nn z (4*j) (128-4*j) (128-4*j) (m.map W++q) 5 (l.drop (4*j)) (λr S=>ax r (EP S)) (by rw[DV,ak]) a6 Y;have a4:=WW (Az (l.drop (4*j)) 4) (am j Z);exact Qp.mk (4*j) 128 128 (4*j) A A A Y A (by split<;>omega) (A9.b (a2) (A9.ab (a4 _) (IK.t (A:(!R)=I) (F'.mk ((4*(j+1):B):F) Y4 (a7 (j+1) (by show j+1<=32;omega) (by show 32-(j+1)<32-j;omega) ⟨A,A,AA⟩ (.w _))))))
 ·refine L ?_;refine A9.u (HT z 0 128 128 l (m.map W++q) 5 Y (ap q) ak) ?_;rintro v av ⟨t,p,aw,rfl,rfl⟩;refine L ?_;exact⟨_,AQ.b (g:=AJ t l p::.t n (a.j f) 292::.t a.d (a.u f n) 394::.t a.ac (f.g.map CH) 30::af.b a.f a.c a.s),t,p,af,a0,aw,A,A⟩
variable{xx:Am}{yc:AP}{lg:S}{yr:M->CQ->Prop}{yo yu:Operand}{yq:EU}{yb:M}{yp:Ai CO}{yi:B}{yx:G (F×M)}{ya:F}
def E7.h{o:Oper}(q:o.op=.lookup l yo yu I)(r:xx.c l=C (.map p np))(n:xx.c p=C (.int H))(m:xx.e np=C yq)(y:yq.zero=C yb)
 (u:CR yc yo=C (Ah (C xu)))(x:CR yc yu=C (N ya))[z:Cz lg xu (AM yp yi)](j:Da yp yx){v:M}(t:(Cu ya yx).getD yb=v)
 (f:yr v (.y λa=>Cz a xu (AM yp yi))):E7 xx o yc lg yr:=
 E7.b q r n m y u x j (by subst t;exact f)
variable{yh:Type}
def L1(a:B->G yh)(f:l∈q):(q.flatMap a).Perm (a l++(q.erase l).flatMap a):=by
 have:=(List.perm_cons_erase f).flatMap_right a;rwa[FE] at this
abbrev Fz(f:AR)(a:B)(j:CG):S:=[.t (f.h a) [Q (f.t a) 128 (128+(f.i a).length),X j.b,N j.c] 427,AJ (f.t a) j.a (f.i a)]
def DL(a:AR)(f:K)(j:B):C0:=A2 (FO a.h a.t a.i f.h ((AH f.h.length).erase j))
abbrev AR.ao(a:AR)(l:B)(f:K)(j:AX):S:=
 [.t l (a.j f) 292,.t a.x (AZ (Ab f) 70) 295,.t a.d (a.u f l) 394,.t a.ac (f.g.map CH) 30,.o a.y (AM a.e a.g),
  AJ a.al f.ac [],.o a.am (AM a.ah a.ai),.u (A2 a.ae),.u (A2 (a.w.a (f.ae.map AD) 3)),.u (A2 (a.z.a (f.bj.flatMap AW) 326)),.u (A2 (a.aa.a (f.ax.flatMap AW) 326)),.u (A2 (a.ak.a (f.ah.flatMap L6) 502)),
  .t a.ab [P a.f,Q a.b.b f.aa.length a.b.f,D1 f.aq,D Au f.av,Ah (C a.b.d)] 477,BJ a.b.b f.aa a.b.h,.o a.b.d (AM (C6 f.bn a.b.a a.b.g a.b.j) a.b.s),Dr f.bn a.b.a a.b.i,
  .t a.f [Cd 53 (P a.c),P a.c,N 192,Ah (C a.s),N j.c] 277,.o a.s (AM #[] 0),.u (CB a.c j.a)]
abbrev AR.ad(a:AR)(m:B)(j:K)(l:AX)(f:B)(n:CG):S:=Fz a f n++(.u (DL a j f)::a.ao m j l)
def Yd(a:AR)(l:B)(f:K)(j:AX):AQ (a.a l f j) (.u (A2 (FO a.h a.t a.i f.h (AH f.h.length)))::a.ao l f j):=
 AQ.ab Y0
def c7(a:AR)(l:B)(f:K)(j:AX):AQ (.u (A2 (FO a.h a.t a.i f.h (AH f.h.length)))::a.ao l f j) (a.a l f j):=
 AQ.ab Y0
variable{xr:AR}{yk:CG}
def P'(a:n.h.getD l E=C yk):FP xr.h xr.t xr.i n.h l=Fz xr l yk:=by
 unfold FP;rw[a]
def MT(f:p<n.h.length)(a:n.h.getD p E=C yk):AQ (xr.a l n yf) (xr.ad l n yf p yk):=by
 refine(Yd xr l n yf).t ((AQ.ac _ _).t ((AQ.u ((L1 (FP xr.h xr.t xr.i n.h) (Ce.2 f)).append_right _)).t ?_));rw[P' a,BS];exact(AQ.aj (Fz xr p yk) (FO xr.h xr.t xr.i n.h ((AH n.h.length).erase p)) (xr.ao l n yf)).t (AQ.u (EE (l₁:=Fz xr p yk)).symm)
def IW(f:p<n.h.length)(a:n.h.getD p E=C yk):AQ (xr.ad l n yf p yk) (xr.a l n yf):=by
 refine(AQ.u (EE (l₁:=Fz xr p yk))).t ((AQ.ac _ _).t ?_);refine AQ.t ?_ (c7 xr l n yf);refine AQ.t (AQ.u ?_) (AQ.aa _ _);rw[<-P' a];refine Me ?_ ((L1 (FP xr.h xr.t xr.i n.h) (Ce.2 f)).symm.append_right _);rw[BS];exact QE _ _ _
def SE{f j:AR}(o:r.h.length=n.h.length)(t:∀a,a<n.h.length->a≠l->FP j.h j.t j.i r.h a=FP f.h f.t f.i n.h a):DL j r l=DL f n l:=by
 unfold DL FO;rw[o];congr 1;have u:(AH n.h.length).Nodup:=TU;have y:∀m:G B,(∀a∈m,a<n.h.length/\a≠l)->m.flatMap (FP j.h j.t j.i r.h)=m.flatMap (FP f.h f.t f.i n.h):=λm=>by
  induction m with
  |nil=>intro _;rfl
  |cons p m x=>
   intro o;rw[FE,FE,t p (o p (Bt ..)).1 (o p (Bt ..)).2,x λa q=>o a (By _ q)]
 refine y _ λa q=>?_;have:=(AEJ u).1 q;exact⟨Ce.1 this.2,this.1⟩
structure CK(j:AR)(m:K):Prop where
 a:Da j.e j.v
 h:El j.e j.g
 b:∀l,l<m.h.length->Cu (l:F) j.v=(m.h.getD l E).map λ_=>T (V (j.h l))
 i:j.v.length=(m.h.filter Ix).length
 d:m.h.length<=16
 f:∀n p,m.h.getD n E=C p->128+(j.i n).length<=BP
 e:(j.v.map (·.1)).Nodup/\∀o∈j.v,∃l:B,l<m.h.length/\o.1=(l:F)
def SL(a:n.h.getD l E=C yk):n.am l={n with an:=n.an+1,h:=n.h.set l (C {yk with c:=n.an+1})}:=by
 unfold K.am;dsimp only;rw[a]
def Hz{a:G (AC CG)}(f:l<a.length)(v:AC CG):(a.set l v).getD l E=v:=by
 rw[AY,EV];simp[f]
def L5{a:G (AC CG)}(f:p≠l)(v:AC CG):(a.set l v).getD p E=a.getD p E:=by
 rw[AY,EV,A1 (Ne.symm f),<-AY]
def PS{v:AC CG}(a:r.h=n.h.set l v):DL xr r l=DL xr n l:=by
 refine SE (by rw[a,B_]) λj _ f=>?_;unfold FP;rw[a,L5 f]
def k8(n u f:B)(j:AR)(a:K)(m:AX)(l:CG)(t:a.h.getD f E=C l)(x:f<a.h.length)(q:CK j a)(y:a.an<=u)(z:u<=1000000000):
 Ay 359 [P j.d,N f] (j.ad n a m f l) (AL #[P (j.h f),N 0]) (j.ad n (a.am f) m f {l with c:=a.an+1}):=by
 have p:=q.b f x;rw[t] at p;have o:=SL t;have r:DL j (a.am f) f=DL j a f:=PS (v:=C {l with c:=a.an+1}) (by rw[o]);rw[o] at r;rw[o];refine A9.t ?_;refine L ?_;refine F'.mk ((a.an+1:B):F) (A3 Y) ?_;refine A' ?_;refine E7.h (yq:=_) (yb:=_) (yp:=j.e) (yi:=j.g) (yx:=j.v) A A A A A A A q.a (v:=P (j.h f)) (by rw[p];rfl) (A7 ?_);refine⟨j.ad n {a with an:=a.an+1,h:=a.h.set f (C {l with c:=a.an+1})} m f {l with c:=a.an+1},?_,A,A⟩;show AQ _ (Fz j f {l with c:=a.an+1}++(.u (DL j _ f)::_));rw[r];exact AQ.b
def DX{a:Type}(j:B->a)(l:B)(v:a)(f:B):a:=if f=l then v else j f
def G1(f:B->yh)(a:B)(v:yh):DX f a v a=v:=A8 A
def Gg(a:B->yh)(f:p≠l)(v:yh):DX a l v p=a p:=A1 f
def Ye(j:p<n.h.length)(f:n.h.getD p E=E):AQ (xr.a l n yf) (.u (DL xr n p)::xr.ao l n yf):=by
 refine(Yd xr l n yf).t ((AQ.ac _ _).t ((AQ.u ((L1 (FP xr.h xr.t xr.i n.h) (Ce.2 j)).append_right _)).t ?_));have a:FP xr.h xr.t xr.i n.h p=[]:=by unfold FP;rw[f]
 rw[a,Bz];exact AQ.aa _ _
def SK(f:n.aj=128)(a:n.h.getD l E=E):n.am l={n with an:=n.an+1,u:=(KB n l).u,h:=n.h.set l (C ⟨K9 n l,I,n.an+1⟩)}:=by
 unfold K.am K9 KB;dsimp only;rw[a,f]
def VL(a:Da yp yx):yp.size=yx.length:=by
 have:=AB O4 a;simpa using this
abbrev AR.put(a:AR)(f:B)(l:Ai CO)(n j m:B)(o:G M):AR:=
 {a with e:=l,v:=DC a.v f (P j),g:=n,h:=DX a.h f j,t:=DX a.t f m,i:=DX a.i f o}
def k6(r G f:B)(j:AR)(a:K)(q:AX)(z:a.h.getD f E=E)(y:f<a.h.length)(aj:a.g.length=a.h.length)(ao:a.aj=128)(o:CK j a)(av:a.an<=G)(ax:G<=1000000000)(ay:0<a.t)(x:a.g.getD f 0=0):
 Z9 359 [P j.d,N f] (j.a r a q) λv af=>∃m p l n aa,Da m (DC j.v f (P l))/\El m p/\128+aa.length<=BP/\v=AL #[P l,N 0]/\af=(j.put f m p l n aa).ad r (a.am f) q f ⟨K9 a f,I,a.an+1⟩:=by
 have S:=o.b f y;rw[z] at S;have M:=SK ao z;have ag:K9 a f=U 128 0:=by unfold K9;dsimp only;rw[A8 x]
 have ah:(KB a f).u=a.u:=by unfold KB;dsimp only;rw[A8 x]
 rw[ah] at M;rw[M,ag];have az:=VL o.a;have aw:j.v.length<=16:=by have aq:=o.i;have ar:=o.d;have au:=Ez Ix a.h;omega
 have W:=Aa ((j.e.size:F)≥((a.t+16:B):F));have am:=mR r G f j {a with an:=a.an+1} q (by rw[aj];exact y) x;refine A9.w (a:=.u (DL j a f)::j.ao r a q) (Ye y z) (A9.t ?_);refine L ?_;refine F'.mk ((a.an+1:B):F) (A3 Y) ?_;refine A' ?_;refine E7.h (yq:=_) (yb:=_) (yp:=j.e) (yi:=j.g) (yx:=j.v) A A A A A A A o.a (v:=T E) (by rw[S];rfl) (L ?_);refine A9.u (am) ?_;rintro v ap ⟨n,rfl,rfl⟩;refine L ?_;refine E7.s A A A A A ?_;apply Ms.mk;focus rfl
 refine IK.t W ?_;clear W;refine L ?_;intro l;refine L ?_;refine Cr.ae (ak:=j.v) (a:=j.e) (l:=j.g) A A A A A A o.a o.h (λm p ak ai=>?_);refine L ?_;refine⟨(j.put f m p l n []).ad r {a with an:=a.an+1,u:=a.u,h:=a.h.set f (C ⟨U 128 0,I,a.an+1⟩)} q f ⟨U 128 0,I,a.an+1⟩,?_,m,p,l,n,[],ak,ai,Z,A,A⟩;have al:DL (j.put f m p l n []) {a with an:=a.an+1,u:=a.u,h:=a.h.set f (C ⟨U 128 0,I,a.an+1⟩)} f=DL j a f:=by
  refine SE (by show(a.h.set f _).length=_;rw[B_]) λa0 _ t=>?_;unfold FP;dsimp only;rw[L5 t,Gg _ t,Gg _ t,Gg _ t]
 show AQ _ ([.t (DX j.h f l f) [Q (DX j.t f n f) 128 (128+(DX j.i f [] f).length),X I,N (a.an+1:B)] 427,AJ (DX j.t f n f) (U 128 0) (DX j.i f [] f)]++(.u (DL _ _ f)::_));rw[al,G1,G1,G1];exact AQ.b
def k7(x y f:B)(j:AR)(a:K)(z:AX)(W:a.h.getD f E=E)(U:f<a.h.length)(ap:a.g.length=a.h.length)(aw:a.aj=128)(q:CK j a)(a1:a.an<=y)(ak:B2 y z a)(aa:GP a f)(ar:y+1<=1000000000)(a3:0<a.t)(S:a.g.getD f 0≠0):
 Z9 359 [P j.d,N f] (j.a x a z) λv ai=>∃o r m p n t,B2 (y+1) t (a.am f)/\Da o (DC j.v f (P m))/\El o r/\128+n.length<=BP/\v=AL #[P m,N 0]/\ai=(j.put f o r m p n).ad x (a.am f) t f ⟨K9 a f,I,a.an+1⟩:=by
 have af:=q.b f U;rw[W] at af;have Z:=SK aw W;have am:(KB a f).u=a.u+1:=by unfold KB;dsimp only;rw[A1 S]
 obtain⟨l,M⟩:∃l,K9 a f=l:=⟨_,A⟩;have aj:(a.ay (DE (a.g.getD f 0))).take 128=l:=by rw[<-M];unfold K9;dsimp only;rw[A1 S]
 rw[am,M] at Z;rw[Z,M];have a4:=VL q.a;have a2:j.v.length<=16:=by have ay:=q.i;have az:=q.d;have a0:=Ez Ix a.h;omega
 have ah:=Aa ((j.e.size:F)≥((a.t+16:B):F));have ag:=mS x y f j {a with an:=a.an+1} z ak ar (by rw[ap];exact U) ⟨aa.a,aa.b⟩ S;rw[show(({a with an:=a.an+1}:K).ay (DE (({a with an:=a.an+1}:K).g.getD f 0))).take 128=l from aj] at ag;refine A9.w (a:=.u (DL j a f)::j.ao x a z) (Ye U W) (A9.t ?_);refine L ?_;refine F'.mk ((a.an+1:B):F) (A3 Y) ?_;refine A' ?_;refine E7.h (yq:=_) (yb:=_) (yp:=j.e) (yi:=j.g) (yx:=j.v) A A A A A A A q.a (v:=T E) (by rw[af];rfl) (L ?_);refine A9.u (ag) ?_;rintro v ax ⟨p,n,t,al,av,rfl,rfl⟩;refine L ?_;refine E7.s A A A A A ?_;apply Ms.mk;focus rfl
 refine IK.t ah ?_;clear ah;refine L ?_;intro m;refine L ?_;refine Cr.ae (ak:=j.v) (a:=j.e) (l:=j.g) A A A A A A q.a q.h (λo r aq ao=>?_);refine L ?_;refine⟨(j.put f o r m p n).ad x {a with an:=a.an+1,u:=a.u+1,h:=a.h.set f (C ⟨l,I,a.an+1⟩)} t f ⟨l,I,a.an+1⟩,?_,o,r,m,p,n,t,al,aq,ao,av,A,A⟩;have au:DL (j.put f o r m p n) {a with an:=a.an+1,u:=a.u+1,h:=a.h.set f (C ⟨l,I,a.an+1⟩)} f=DL j a f:=by
  refine SE (by show(a.h.set f _).length=_;rw[B_]) λa5 _ G=>?_;unfold FP;dsimp only;rw[L5 G,Gg _ G,Gg _ G,Gg _ G]
 show AQ _ ([.t (DX j.h f m f) [Q (DX j.t f p f) 128 (128+(DX j.i f n f).length),X I,N (a.an+1:B)] 427,AJ (DX j.t f p f) (l) (DX j.i f n f)]++(.u (DL _ _ f)::_));rw[au,G1,G1,G1];exact AQ.b
def WI(a:F)(v:M):∀l:G (F×M),Cu a l=E->(DC l a v).length=l.length+1
 |[],_=>A
 |m::n,j=>by
  unfold Cu at j;unfold DC;by_cases f:a=m.1
  ·simp[f] at j
  ·rw[A1 f,C8,WI a v n (by simpa[f] using j)];rfl
def Uy{m:CG}:∀{a:G (AC CG)}{j:B},j<a.length->a.getD j E=E->((a.set j (C m)).filter Ix).length=(a.filter Ix).length+1
 |[],j,f,_=>by simp at f
 |l::a,0,_,f=>by
  have f:l=E:=by simpa using f
  subst f;rw[Mk,HG,HG];simp
 |l::a,j+1,f,o=>by
  rw[Mj,HG,HG];have n:=Uy (m:=m) (a:=a) (j:=j) (by simpa using f) (by simpa using o);cases l with
  |none=>simpa using n
  |some l=>simpa using n
def Uz{m:CG}:∀{a:G (AC CG)}{f:B},f<a.length->a.getD f E≠E->((a.set f (C m)).filter Ix).length=(a.filter Ix).length
 |[],f,l,_=>by simp at l
 |j::a,0,_,l=>by
  obtain⟨j,rfl⟩:∃b,j=C b:=by
   cases j with
   |none=>simp at l
   |some b=>exact⟨b,A⟩
  rw[Mk,HG,HG];simp
 |j::a,f+1,l,o=>by
  rw[Mj,HG,HG];have n:=Uz (m:=m) (a:=a) (f:=f) (by simpa using l) (by simpa using o);cases j with
  |none=>simpa using n
  |some j=>simpa using n
def EZ(o p:AR):Prop:=∃a l f m n j,p={o with e:=a,v:=l,g:=f,h:=m,t:=n,i:=j}
def EZ.a(a:AR):EZ a a:=⟨a.e,a.v,a.g,a.h,a.t,a.i,A⟩
def EZ.c{a b f:AR}(l:EZ a b)(m:EZ b f):EZ a f:=by
 obtain⟨t,y,u,z,B,x,rfl⟩:=l;obtain⟨j,p,n,q,r,o,rfl⟩:=m;exact⟨j,p,n,q,r,o,A⟩
def WK(v:M):∀(j:G (F×M))(a:F),Cu a j=E->DC j a v=j++[(a,v)]
 |[],_,_=>A
 |m::n,a,f=>by
  unfold Cu at f;unfold DC;by_cases l:a=m.1
  ·rw[A8 l] at f;cases f
  ·rw[A1 l] at f⊢;rw[WK v n a f];rfl
def WG:∀{l:G (F×M)}{f:F×M},f∈l->Cu f.1 l≠E
 |n::r,f,m=>by
  unfold Cu;by_cases j:f.1=n.1
  ·rw[A8 j];exactλa=>by cases a
  ·rw[A1 j];rcases C2.1 m with a|a
   ·exact CV (by rw[a]) j
   ·exact WG a
def CK.g{t x:CG}(a:CK xr n)(u:l<n.h.length)(p:n.h.getD l E=C t)(f:r.h=n.h.set l (C x)):CK xr r:=by
 refine⟨a.a,a.h,λm o=>?_,?_,by rw[f,B_];exact a.d,λm y q=>?_,by rw[f,B_];exact a.e⟩
 ·rw[f,B_] at o;rw[a.b m o,f];by_cases j:m=l
  ·subst j;rw[Hz o,p];rfl
  ·rw[L5 j]
 ·rw[a.i,f,Uz u (by rw[p];simp)]
 ·rw[f] at q;by_cases j:m=l
  ·subst j;exact a.f _ t p
  ·rw[L5 j] at q;exact a.f m y q
variable{er:G M}
def CK.put(j:CK xr n)(u:l<n.h.length)(N:n.h.getD l E=E)(m:r.h=n.h.set l (C yk))(U:Da yp (DC xr.v l (P np)))(q:El yp p)(W:128+er.length<=BP):CK (xr.put l yp p np xu er) r:=by
 have t:=j.b l u;rw[N] at t;refine⟨U,q,λa x=>?_,?_,by rw[m,B_];exact j.d,λa aa z=>?_,?_⟩
 ·rw[m,B_] at x;show Cu (a:F) (DC xr.v l _)=_;rw[M9,m];by_cases f:a=l
  ·subst f;rw[A8 A,Hz x];show C (T (V np))=C (T (V (DX xr.h a np a)));rw[G1]
  ·rw[A1 Y,j.b a x,L5 f];show a0 _ _=a0 (λ_=>T (V (DX xr.h l np a))) _;rw[Gg _ f]
 ·show(DC xr.v l _).length=_;rw[WI _ _ _ t,j.i,m,Uy u N]
 ·show 128+(DX xr.i l er a).length<=BP;rw[m] at z;by_cases f:a=l
  ·subst f;rw[G1];exact W
  ·rw[Gg _ f];rw[L5 f] at z;exact j.f a aa z
 ·show((DC xr.v l _).map (·.1)).Nodup/\_;rw[m,B_];show _/\∀L∈DC xr.v l _,_;rw[WK _ _ _ t,CU,ID];refine⟨⟨j.e.1,Y1,λaf S b q Z=>?_⟩,λL y=>?_⟩
  ·simp only[Ee,List.map_nil,CZ] at q;obtain⟨L,y,rfl⟩:=CI.1 S;have:=WG y;rw[Z,q] at this;exact this t
  ·rcases Bs.1 y with o|o
   ·exact j.e.2 L o
   ·rw[CZ] at o;subst o;exact⟨l,u,A⟩
structure HN(j:B)(l:AR)(f:K):Prop where
 b:CK l f
 d:f.g.length=f.h.length
 a:f.aj=128
 c:f.an<=j
 e:0<f.t
def X5(r q a:B)(l:AR)(f:K)(p:AX)(m:a<f.h.length)(j:HN q l f)(S:B2 q p f)(ah:f.h.getD a E=E->GP f a)(ai:q+1<=1000000000):
 Z9 359 [P l.d,N a] (l.a r f p) λv y=>∃F z t,EZ l F/\CK F (f.am a)/\B2 (q+1) z (f.am a)/\(f.am a).h.getD a E=C t/\v=AL #[P (F.h a),N 0]/\y=F.ad r (f.am a) z a t:=by
 cases n:f.h.getD a E with
 |some t=>
  refine A9.w (a:=l.ad r f p a t) (MT m n) (A9.z (k8 r q a l f p t n m j.b j.c Y) λv y x=>?_);obtain⟨rfl,rfl⟩:=x;have o:=SL n;refine⟨l,p,{t with c:=f.an+1},EZ.a l,j.b.g m n (by rw[o]),?_,?_,A,A⟩
  ·rw[o];exact S.b Y
  ·rw[o];exact Hz m _
 |none=>
  have o:=SK j.a n;by_cases M:f.g.getD a 0=0
  ·refine A9.z (k6 r q a l f p n m j.d j.a j.b j.c Y j.e M) λv y x=>?_;obtain⟨G,aa,u,L,af,W,U,Z,rfl,rfl⟩:=x;refine⟨l.put a G aa u L af,p,_,⟨_,_,_,_,_,_,A⟩,j.b.put m n (by rw[o]) W U Z,?_,?_,?_,A⟩
   ·rw[o];have:(KB f a).u=f.u:=by unfold KB;dsimp only;rw[A8 M]
    rw[this];exact S.b Y
   ·rw[o];exact Hz m _
   ·show _=AL #[P (DX l.h a u a),_];rw[G1]
  ·refine A9.z (k7 r q a l f p n m j.d j.a j.b j.c S (ah n) ai j.e M) λv y x=>?_;obtain⟨G,aa,u,L,af,z,ag,W,U,Z,rfl,rfl⟩:=x;refine⟨l.put a G aa u L af,z,_,⟨_,_,_,_,_,_,A⟩,j.b.put m n (by rw[o]) W U Z,ag,?_,?_,A⟩
   ·rw[o];exact Hz m _
   ·show _=AL #[P (DX l.h a u a),_];rw[G1]
def YJ(f:B)(a:AR)(j:K):AK 250 [P a.d] [.t a.d (a.u j f) 394] (N 32):=by
 refine A9.t ?_;refine A' ?_;refine F'.mk 32 A ?_;refine L ?_;exact⟨_,.w _,A,A⟩
def Ue(l n a:B)(j:AR)(f:K)(q:AX)(ao:a<f.t+16)(ah:a/32<f.h.length)(ak:HN n j f)(aa:B2 n q f)(ag:f.h.getD (a/32) E=E->GP f (a/32))(aj:n+1<=1000000000)(ap:a<=100000):
 Z9 279 [P j.d,N a] (j.a l f q) λv W=>∃p m o,EZ j p/\CK p (f.am (a/32))/\B2 (n+1) m (f.am (a/32))/\(f.am (a/32)).h.getD (a/32) E=C o/\v=AL #[P (p.h (a/32)),N (a%32*4:B),N 0]/\W=p.ad l (f.am (a/32)) m (a/32) o:=by
 have u:=X5 l n (a/32) j f q ah ak aa ag aj;have M:=Aa ((a:F)<0);have S:=Aa ((a:F)≥((f.t+16:B):F));refine A9.t ?_;repeat first|refine IK.t M ?_|(apply Ms.mk;focus rfl)
 clear M;refine IK.t S ?_;clear S;refine L ?_;refine A9.b (YJ l j f) (Mt.mk Z ?_);refine F'.mk ((a/32:B):F) (A3 (a:=((a/32:B):F)) Y) (A9.w (a:=j.a l f q) AQ.b ?_);refine A9.z u ?_;rintro v an ⟨p,m,o,am,ai,af,al,rfl,rfl⟩;obtain⟨r,z,x,G,U,y,rfl⟩:=am;clear u;refine L ?_;refine A9.b (YJ l j (f.am (a/32))) (A7 ?_);refine F'.mk ((a%32:B):F) A (F'.mk ((a%32*4:B):F) Y4 (L ?_));exact⟨_,AQ.b (g:=AR.ad {j with e:=r,v:=z,g:=x,h:=G,t:=U,i:=y} l (f.am (a/32)) m (a/32) o),_,m,o,⟨r,z,x,G,U,y,A⟩,ai,af,al,A,A⟩
def P5(o:AC AF):M:=match o with
 |none=>AL #[AV #[N 0,N 0],X I,N 0]
 |some a=>AL #[AV (AW a).toArray,X R,N 0]
def Gq(l:K)(f:B):Prop:=∀a,(l.am f).h.getD f E=C a->a.a.length=128/\∀j∈a.a,j<256
def AF0{P:Prop}(h:P:=by rw[List.length_map];omega):P:=h
def NR(o q a:B)(n:AR)(f:K)(U:AX)(a2:a<f.t+16)(y:a/32<f.h.length)(ar:HN q n f)(am:B2 q U f)(ap:f.h.getD (a/32) E=E->GP f (a/32))(ao:Gq f (a/32))(a5:q+1<=1000000000)(a3:a<=100000):
 Z9 188 [P n.d,N a] (n.a o f U) λv ax=>∃S m,EZ n S/\CK S (f.be a).2/\B2 (q+1) m (f.be a).2/\v=P5 (f.be a).1/\ax=S.a o (f.be a).2 m:=by
 have al:=Ue o q a n f U a2 y ar am ap a5 a3;have x:f.ao=32:=by unfold K.ao;rw[ar.a]
 have ak:(f.be a).2=f.am (a/32):=by unfold K.be;rw[x]
 have au:(f.am (a/32)).h.length=f.h.length:=by
  unfold K.am;dsimp only;split<;>exact B_ ..
 refine A9.t ?_;intro az;refine L ?_;refine A9.ac (j:=[.t az (B9 (AV #[N 0,N 0])) 326]) al ?_;rintro v ay ⟨S,m,j,⟨u,G,z,M,r,l,rfl⟩,ag,an,p,rfl,rfl⟩;clear al;obtain⟨a6,ah⟩:=ao j p;have a8:=ag.f _ _ p;have aa:(f.be a).1=if Az (j.a.drop (a%32*4)) 4=0 then E else C (DE (Az (j.a.drop (a%32*4)) 4)):=by
  have a1:(f.am (a/32)).gv a=Az (j.a.drop (a%32*4)) 4:=by
   unfold K.gv;have a0:(f.am (a/32)).ao=32:=by
    unfold K.am;dsimp only;split<;>exact x
   rw[a0,p]
  unfold K.be;dsimp only;rw[x,a1]
 have a7:a%32*4+4<=128:=Y;have av:((j.a.map W++l (a/32)).drop (a%32*4)).take (128-a%32*4)=(j.a.drop (a%32*4)).map W:=by
  rw[IB AF0,C_ Y5,Hj]
 have aq:=Nn (r (a/32)) (a%32*4) (128-a%32*4) (128+(l (a/32)).length-a%32*4) (j.a.map W++l (a/32)) 5 (j.a.drop (a%32*4)) (λZ af=>ah Z (EP af)) (by rw[DV,a6]) av Y;have a4:Az (j.a.drop (a%32*4)) 4<256^4:=Ra (λZ af=>ah Z (EP af)) 4;obtain⟨v,aw⟩:∃v,Az (j.a.drop (a%32*4)) 4=v:=⟨_,A⟩;rw[aw] at aa aq a4;rw[ak,aa];rw[<-au] at y;clear av aw aa ah ak x ap am au ao;refine IK.y ?_;apply Ms.mk;focus rfl
 refine Qp.mk (a%32*4) 128 (128+(l (a/32)).length) (a%32*4) A A A Y6 A (by split<;>omega) (A9.u aq ?_);rintro v ay ⟨rfl,rfl⟩;by_cases aj:v=0
 ·subst aj;have ai:(((0:B):F)==0)=R:=A;rw[A8 A];refine IK.u ai (A7 ?_);refine⟨_,(AQ.b (g:=AR.ad {n with e:=u,v:=G,g:=z,h:=M,t:=r,i:=l} o (f.am (a/32)) m (a/32) j)).t (IW y p),_,m,⟨u,G,z,M,r,l,A⟩,ag,an,A,A⟩
 ·have ai:((v:F)==0)=I:=Z4;rw[A1 aj];refine IK.t ai (A9.ab (PZ v Y Y _) (A7 ?_));refine⟨_,(AQ.b (g:=AR.ad {n with e:=u,v:=G,g:=z,h:=M,t:=r,i:=l} o (f.am (a/32)) m (a/32) j)).t (IW y p),_,m,⟨u,G,z,M,r,l,A⟩,ag,an,A,A⟩
def N'(a:K)(f:B):(a.am f).h.length=a.h.length:=by
 unfold K.am;dsimp only;split<;>exact B_ ..
def PX(a:K)(f:B):(a.am f).aj=a.aj:=by
 unfold K.am;dsimp only;split<;>rfl
def Wd(S U f v:B)(n:AR)(j:K)(af:AX)(a4:f<j.t+16)(x:f/32<j.h.length)(aj:HN U n j)(am:B2 U af j)(ap:j.h.getD (f/32) E=E->GP j (f/32))(ao:Gq j (f/32))(a6:U+1<=1000000000)(a5:f<=100000)(bd:v<4294967296):
 Z9 504 [P n.d,N f,D Ax v] (n.a S j af) λq a0=>∃aa r,EZ n aa/\CK aa (j.ch f v)/\B2 (U+1) r (j.ch f v)/\q=N 0/\a0=aa.a S (j.ch f v) r:=by
 have al:=Ue S U f n j af a4 x aj am ap a6 a5;have aq:j.ao=32:=by unfold K.ao;rw[aj.a]
 have ar:(j.am (f/32)).ao=32:=by unfold K.ao;rw[PX,aj.a]
 have aw:=N' j (f/32);refine A9.t (L ?_);refine A9.z al ?_;rintro q a1 ⟨aa,r,l,⟨u,G,z,M,p,m,rfl⟩,Z,ag,y,rfl,rfl⟩;clear al;obtain⟨ba,az⟩:=ao l y;have bc:=Z.f _ _ y;have au:(j.am (f/32)).gv f=Az (l.a.drop (f%32*4)) 4:=by
  unfold K.gv;rw[ar,y]
 have ah:j.ch f v=if Az (l.a.drop (f%32*4)) 4=v then j.am (f/32) else{j.am (f/32) with h:=(j.am (f/32)).h.set (f/32) (C {l with a:=BO l.a (f%32*4) (AS v 4),b:=R})}:=by
  unfold K.ch;dsimp only;rw[aq,au,y];rfl
 have bb:f%32*4+4<=128:=Y;have ax:((l.a.map W++m (f/32)).drop (f%32*4)).take (128-f%32*4)=(l.a.drop (f%32*4)).map W:=by
  rw[IB AF0,C_ Y5,Hj]
 have av:=Nn (p (f/32)) (f%32*4) (128-f%32*4) (128+(m (f/32)).length-f%32*4) (l.a.map W++m (f/32)) 5 (l.a.drop (f%32*4)) (λa2 a3=>az a2 (EP a3)) (by rw[DV,ba]) ax Y;have a8:=Pq (p (f/32)) (f%32*4) v (128+(m (f/32)).length-f%32*4) (128-f%32*4) l.a (m (f/32)) 5 Y Y;obtain⟨q,ay⟩:∃q,Az (l.a.drop (f%32*4)) 4=q:=⟨_,A⟩;rw[ay] at ah av;rw[ah];rw[<-aw] at x;clear ax ay ah az ar aq ap am aw ao au;obtain⟨o,an⟩:∃o,j.am (f/32)=o:=⟨_,A⟩;rw[an] at x y Z ag;rw[an];repeat first|refine IK.aa ?_|(apply Ms.mk;focus rfl)
 refine Qp.mk (f%32*4) 128 (128+(m (f/32)).length) (f%32*4) A A A Y6 A (by split<;>omega) ?_;repeat(refine IK.aa ?_)
 refine A9.b av ?_;repeat(refine IK.aa ?_)
 by_cases ai:q=v
 ·have ak:((q:F)!=(v:F))=I:=by subst ai;simp
  rw[A8 ai];refine IK.t ak (L ?_);exact⟨_,(AQ.b (g:=AR.ad {n with e:=u,v:=G,g:=z,h:=M,t:=p,i:=m} S o r (f/32) l)).t (IW x y),_,r,⟨u,G,z,M,p,m,A⟩,Z,ag,A,A⟩
 ·have ak:((q:F)!=(v:F))=R:=AF1;rw[A1 ai];refine IK.u ak ?_;apply Ms.mk;focus rfl
  refine Qp.mk (f%32*4) 128 (128+(m (f/32)).length) (f%32*4) A A A Y6 A (by split<;>omega) (A9.u a8 (λbe a1 a9=>?_));obtain rfl:=a9;refine A7 ?_;refine⟨_,?_,{n with e:=u,v:=G,g:=z,h:=M,t:=p,i:=m},r,⟨u,G,z,M,p,m,A⟩,Z.g x y A,ag,A,A⟩;refine AQ.t (a:=AR.ad {n with e:=u,v:=G,g:=z,h:=M,t:=p,i:=m} S {o with h:=o.h.set (f/32) (C {l with a:=BO l.a (f%32*4) (AS v 4),b:=R})} r (f/32) {l with a:=BO l.a (f%32*4) (AS v 4),b:=R}) ?_ (IW (by show f/32<(o.h.set _ _).length;rw[B_];exact x) (Hz x _));have a7:DL {n with e:=u,v:=G,g:=z,h:=M,t:=p,i:=m} {o with h:=o.h.set (f/32) (C {l with a:=BO l.a (f%32*4) (AS v 4),b:=R})} (f/32)=DL {n with e:=u,v:=G,g:=z,h:=M,t:=p,i:=m} o (f/32):=PS (v:=C {l with a:=BO l.a (f%32*4) (AS v 4),b:=R}) A;show AQ _ (Fz _ _ _++(.u (DL _ _ _)::_));rw[a7];exact AQ.b
def iL(p j f:B)(l:AR)(a:K)(o:AX)(S:f<a.t+16)(M:f/32<a.h.length)(Z:HN j l a)(y:B2 j o a)(G:a.h.getD (f/32) E=E->GP a (f/32))(F:Gq a (f/32))(W:j+1<=1000000000)(U:f<=100000):
 Z9 502 [P l.d,N f] (l.a p a o) λq r=>∃m n,EZ l m/\CK m (a.ch f 0)/\B2 (j+1) n (a.ch f 0)/\q=N 0/\r=m.a p (a.ch f 0) n:=by
 have z:=Wd p j f 0 l a o S M Z y G F W U Y;refine A9.t (L ?_);refine A9.z z ?_;rintro q aa ⟨m,n,t,u,x,rfl,rfl⟩;refine L ?_;exact⟨_,.w _,m,n,t,u,x,A,A⟩
def j2(q l a b j:B)(m:AR)(f:K)(p:AX)(ag:a<f.t+16)(af:a/32<f.h.length)(aj:HN l m f)(U:B2 l p f)(aa:f.h.getD (a/32) E=E->GP f (a/32))(Z:Gq f (a/32))(ai:l+1<=1000000000)(ah:a<=100000)(al:b<70)(t:j<256):
 Z9 429 [P m.d,N a,H6 b j] (m.a q f p) λx y=>∃n o,EZ m n/\CK n (f.ch a (b*256+j+1))/\B2 (l+1) o (f.ch a (b*256+j+1))/\x=N 0/\y=n.a q (f.ch a (b*256+j+1)) o:=by
 have W:=Wd q l a (b*256+j+1) m f p ag af aj U aa Z ai ah Y;have u:=Aa ((a:F)<0);have r:=Aa ((a:F)≥((f.t+16:B):F));refine A9.t ?_;intro z;repeat first|refine IK.t u ?_|(apply Ms.mk;focus rfl)
 clear u;repeat first|refine IK.t r ?_|(apply Ms.mk;focus rfl)
 refine A9.ab (XD b j Y t _) ?_;repeat(refine IK.t r ?_)
 clear r;refine IK.t (A:(!R)=I) ?_;apply Ms.mk;focus rfl
 refine A9.ab (Wj b j Y t _) (A9.ac (j:=[.t z (B9 (H6 b j)) 326]) W ?_);rintro x ak ⟨n,o,G,M,S,rfl,rfl⟩;refine L ?_;exact⟨_,AQ.y _,n,o,G,M,S,A,A⟩
def ACJ(F p a:B)(j:AR)(f:K)(M:AX)(m:a<f.h.length)(am:HN p j f)(U:B2 p M f)(aa:f.h.getD a E=E->GP f a)(ak:p+1<=1000000000):
 Z9 408 [P j.d,N a] (j.a F f M) λai aj=>∃G n,EZ j G/\CK G (f.co a)/\B2 (p+1) n (f.co a)/\ai=N 0/\aj=G.a F (f.co a) n:=by
 have Y:=X5 F p a j f M m am U aa ak;have ag:=N' f a;refine A9.t (L ?_);refine A9.z Y ?_;rintro ai an ⟨G,n,z,⟨o,u,q,x,y,r,rfl⟩,af,W,S,rfl,rfl⟩;clear Y;have ah:f.co a={f.am a with h:=(f.am a).h.set a (C {z with b:=R})}:=by
  unfold K.co;dsimp only;rw[S];rfl
 rw[ah];rw[<-ag] at m;clear ah ag aa U;obtain⟨l,Z⟩:∃l,f.am a=l:=⟨_,A⟩;rw[Z] at m S af W;rw[Z];refine A7 ?_;refine⟨_,?_,{j with e:=o,v:=u,g:=q,h:=x,t:=y,i:=r},n,⟨o,u,q,x,y,r,A⟩,af.g m S A,W,A,A⟩;refine AQ.t (a:=AR.ad {j with e:=o,v:=u,g:=q,h:=x,t:=y,i:=r} F {l with h:=l.h.set a (C {z with b:=R})} n a {z with b:=R}) ?_ (IW (by show a<(l.h.set _ _).length;rw[B_];exact m) (Hz m _));have al:DL {j with e:=o,v:=u,g:=q,h:=x,t:=y,i:=r} {l with h:=l.h.set a (C {z with b:=R})} a=DL {j with e:=o,v:=u,g:=q,h:=x,t:=y,i:=r} l a:=PS (v:=C {z with b:=R}) A;show AQ _ (Fz _ _ _++(.u (DL _ _ _)::_));rw[al];exact AQ.b
def GU(f l:K){b j:B}(n:b<70)(p:j<6)(v:M)(m:∀a,a<70->Ab l a=if a=b then(Ab f b).set j v else Ab f a):(AZ (Ab f) 70).set (0+b*6+j) v=AZ (Ab l) 70:=by
 rw[BF,Js (EH f) p _ n];exact F4 λa o=>(m a o).symm
def Mz(a:K)(f:AF)(l:f.a<a.j.length)(j:B):Ab (a.ai f) j=if j=f.a then(Ab a f.a).set 3 (N ((a.b f.a).d+1)) else Ab a j:=by
 unfold K.ai;rw[JB a _ _ l j];split<;>rfl
def YY(a:K)(f:AF)(l:f.a<a.j.length)(j:B):Ab (a.dn f) j=if j=f.a then(Ab a f.a).set 3 (N ((a.b f.a).d-1)) else Ab a j:=by
 unfold K.dn;rw[JB a _ _ l j];split<;>rfl
structure UG(j:K)(l:AF):Prop where
 b:j.j.length=70
 a:l.a<70
 d:l.b<256
 c:∀f,f<70->-1000000000<=(j.b f).d/\(j.b f).d<=1000000000
def ABI(q S n:B)(r:AR)(j:K)(F:AX)(x al m an:B)(u:G M)(y:AU)(p:G B)(a9:p.length=m)(bb:m<=128)(a1:0<m)(aw:∀az∈p,az<256)(au:(u.drop al).take m=p.map W)(aq:B2 S F j)(bc:S+10<=1000000000)(av:OR S 2 j)
 (a7:n<j.g.length)(a6:j.g.length<=1000)(bf:j.g.getD n 0<4294967296)(bd:∀l,j.bo n=C l->l.a<70)(o:UG (j.af 2 ⟨3,n,0,0,0,0⟩ p).2 (j.af 2 ⟨3,n,0,0,0,0⟩ p).1):
 Z9 628 [AV #[P q],N n,O (C ⟨x,al,E⟩) m an] (.t x u y::r.a q j F) λv ax=>∃t,B2 (S+3) t (((j.af 2 ⟨3,n,0,0,0,0⟩ p).2.ai (j.af 2 ⟨3,n,0,0,0,0⟩ p).1).dw (j.bo n))/\v=AL #[AV (AW (j.af 2 ⟨3,n,0,0,0,0⟩ p).1).toArray,N 0]/\ax=.t x u y::r.a q (((j.af 2 ⟨3,n,0,0,0,0⟩ p).2.ai (j.af 2 ⟨3,n,0,0,0,0⟩ p).1).dw (j.bo n)) t:=by
 have a3:=T0 q n r j a7 a6 bf;have U:=PU 2 (Ae (Ae A)) q S r j F ⟨3,n,0,0,0,0⟩ ⟨by show 3<256;omega,by show n<256^4;omega,by show 0<256^8;omega⟩ x al m an u y p a9 bb a1 aw au aq bc av;obtain⟨am,ah⟩:∃am,j.af 2 ⟨3,n,0,0,0,0⟩ p=am:=⟨_,A⟩;rw[ah] at U o;rw[ah];obtain⟨f,a⟩:=am;dsimp only at U o⊢;have ar:CX (AZ (Ab a) 70) (0+f.a*6+3) 1 I=C (N (a.b f.a).d):=by
  show(AZ (Ab a) 70)[0+f.a*6+3]?=_;rw[BF,FJ a o.a Y];rfl
 have a5:(AZ (Ab a) 70).length=420:=Db (EH a) 70;have ai:=GU a (a.ai f) o.a (j:=3) Y (N ((a.b f.a).d+1)) λak a8=>Mz a f (by rw[o.b];exact o.a) ak;have bh:=o.c f.a o.a;have ba:=o.a;clear ah av au aw aq;refine A9.t ?_;intro ao ap;refine L ?_;refine A9.b a3 ?_;cases ag:j.bo n with
 |none=>
  have aj:Fo j n=AL #[AV #[N 0,N 0],X I]:=by unfold Fo;rw[ag]
  rw[aj];intro aa;refine A7 ?_;refine A9.w (a:=[.t ap [N 0,N 0] 326,.t ao [P q] 299,.t aa [N 0,N 0] 326]++(.t x u y::r.a q j F)) AQ.b (A9.ac U ?_);rintro v ay ⟨t,af,rfl,rfl⟩;intro a0;refine A7 ?_;refine Ms.mk ar (F'.mk ((a.b f.a).d+1) (A3 Y) (A' ?_));refine⟨.t x u y::r.a q (a.ai f) t,?_,t,af,A,A⟩;show AQ _ (_::_::.t r.x (AZ (Ab (a.ai f)) 70) _::_);rw[<-ai];exact AQ.b
 |some l=>
  have aj:Fo j n=AL #[AV (AW l).toArray,X R]:=by unfold Fo;rw[ag]
  rw[aj];intro aa;refine A7 ?_;refine A9.w (a:=[.t ap [N 0,N 0] 326,.t ao [P q] 299,.t aa (AW l) 326]++(.t x u y::r.a q j F)) AQ.b (A9.ac U ?_);rintro v ay ⟨t,af,rfl,rfl⟩;intro a0;refine A7 ?_;refine Ms.mk ar (F'.mk ((a.b f.a).d+1) (A3 Y) (A' ?_));have z:=bd l ag;have a2:(a.ai f).j.length=70:=by show(a.j.set _ _).length=70;rw[B_];exact o.b
  have bi:-1000000001<=((a.ai f).b l.a).d/\((a.ai f).b l.a).d<=1000000001:=by
   have bg:=o.c l.a z;unfold K.ai;rw[Pn a _ _ (by rw[o.b];exact ba)];split
   ·dsimp only;omega
   ·omega
  have a4:CX (Cb (AZ (Ab a) 70) (0+f.a*6+3) (N ((a.b f.a).d+1))) (0+l.a*6+3) 1 I=C (N ((a.ai f).b l.a).d):=by
   show((AZ (Ab a) 70).set (0+f.a*6+3) (N ((a.b f.a).d+1)))[0+l.a*6+3]?=_;rw[ai,BF,FJ (a.ai f) z Y];rfl
  have be:=GU (a.ai f) ((a.ai f).dn l) z (j:=3) Y (N (((a.ai f).b l.a).d-1)) λak a8=>YY (a.ai f) l (by rw[a2];exact z) ak;refine L ?_;refine Qh.mk l.a A z (Ms.mk a4 (F'.mk (((a.ai f).b l.a).d-1) (A3 Y) (Qh.mk l.a A z (Mw.mk ⟨A,by show 0+l.a*6+3<((AZ (Ab a) 70).set _ _).length;rw[B_,a5];omega⟩ (L ?_)))));refine Mw.mk ⟨A,Z,A⟩ (L ?_);refine⟨.t x u y::r.a q ((a.ai f).dn l) t,?_,t,af,A,A⟩;show AQ _ (_::_::.t r.x (AZ (Ab ((a.ai f).dn l)) 70) _::_);rw[<-be,<-ai];exact AQ.b
structure HO(a f:K):Prop where
 b:f.h=a.h
 c:f.g=a.g
 d:f.an=a.an
def HO.e(a:K):HO a a:=⟨A,A,A⟩
def HO.a{j b l:K}(f:HO j b)(a:HO b l):HO j l:=⟨a.b.trans f.b,a.c.trans f.c,a.d.trans f.d⟩
def YG(a:K)(f:B)(o:AC B):HO a (a.bk f o):=by
 unfold K.bk;split
 ·exact⟨A,A,A⟩
 ·split<;>exact⟨A,A,A⟩
def AAe{b:B}(a:n.fc za=C (b,r)):HO n r:=by
 unfold K.fc at a;split at a
 ·cases a
 ·simp only[EX,F0] at a;rw[<-a.2];exact⟨A,A,A⟩
def YF(a:K)(f:B):HO a (a.bm f):=by
 unfold K.bm;cases j:(a.bk f E).fc (f==1) with
 |none=>exact HO.e a
 |some n=>
  obtain⟨b,m⟩:=n;have l:=(YG a f E).a (AAe j);exact l.a (HO.a (b:=m.bl b _) ⟨A,A,A⟩ (YG _ f (C b)))
def AAd(a:K)(f:B)(j:AN)(m:G B):HO a (a.af f j m).2:=by
 have l:HO a (a.ag.gc f):=by
  refine HO.a (b:=a.ag) ⟨A,A,A⟩ ?_;unfold K.gc;split
  ·exact YF _ _
  ·split
   ·exact YF _ _
   ·exact HO.e _
 refine l.a ?_;show HO _ (K.cg _ _ _ _ _);unfold K.cg;dsimp only;split<;>exact⟨A,A,A⟩
def AAc(a:K)(o:AC AF):HO a (a.dw o):=by
 unfold K.dw;split<;>exact⟨A,A,A⟩
def AAj(o f:B)(a:AR)(j:K)(n:AX)(p:f<j.h.length)(m:CK a j)(q:j.h.getD f E=E):
 AK 330 [P a.d,N f] (a.a o j n) (N 0):=by
 have l:=m.b f p;rw[q] at l;refine A9.t ?_;refine L ?_;refine E7.h (yq:=_) (yb:=_) (yp:=a.e) (yi:=a.g) (yx:=a.v) A A A A A A A m.a (v:=T E) (by rw[l];rfl) ?_;refine L ?_;exact⟨_,.w _,A,A⟩
def AAk(p f:B)(a:AR)(j:K)(o:AX)(l:CG)(m:f<j.h.length)(r:CK a j)(n:j.h.getD f E=C l)(t:l.b=I):
 AK 330 [P a.d,N f] (a.a p j o) (N 0):=by
 have q:=r.b f m;rw[n] at q;refine A9.w (a:=a.ad p j o f l) (MT m n) (A9.t ?_);refine L ?_;refine E7.h (yq:=_) (yb:=_) (yp:=a.e) (yi:=a.g) (yx:=a.v) A A A A A A A r.a (v:=P (a.h f)) (by rw[q];rfl) ?_;have u:(!l.b)=R:=by rw[t];rfl
 refine L ?_;exact⟨_,IW m n,A,A⟩
def AAy{j:G (AC CG)}(a:j.getD l E=C yk):j.set l (C yk)=j:=by
 refine List.ext_getElem? λn=>?_;rw[EV];by_cases m:l=n
 ·subst m;rw[AY] at a;rcases Ck l j.length with f|f
  ·rw[A8 A,A8 f,Aw f];rw[Aw f] at a;exact AB C (by simpa using a.symm)
  ·rw[Dm f] at a;cases a
 ·rw[A1 m]
variable{xq:AF}
def So(a:p<n.h.length)(r:n.h.getD p E=C yk)(f:B):
 AQ (.t f (AW xq) 326::.t (xr.h p) [Q (xr.t p) 128 (128+(xr.i p).length),X I,N yk.c] 427::AJ (xr.t p) yk.a (xr.i p)::.u (DL xr n p)::.t l (xr.j n) 292::.t xr.x (AZ (Ab n) 70) 295::.t xr.d (xr.u n l) 394::.t xr.ac ((n.g.map CH).set (0+p*1) (D Ax (xq.a*256+xq.b+1:B))) 30::(xr.ao l n yf).drop 4)
  (xr.a l (n.fm (n.g.set p xq.c) (n.h.set p (C {yk with b:=I}))) yf):=by
 refine AQ.t (a:=xr.ad l (n.fm (n.g.set p xq.c) (n.h.set p (C {yk with b:=I}))) yf p {yk with b:=I}) ?_ (IW (by show p<(n.h.set _ _).length;rw[B_];exact a) (Hz a _));have o:DL xr (n.fm (n.g.set p xq.c) (n.h.set p (C {yk with b:=I}))) p=DL xr n p:=PS (v:=C {yk with b:=I}) A;have j:(n.g.map CH).set (0+p*1) (D Ax (xq.a*256+xq.b+1:B))=(n.g.set p xq.c).map CH:=by rw[BF,B3,J_];rfl
 rw[j];show AQ _ (Fz _ _ _++(.u (DL _ _ _)::.t l _ _::.t xr.x _ _::.t xr.d _ _::.t xr.ac (n.g.set p xq.c|>.map CH) _::_));rw[o];have q:((n.g.set p xq.c).map CH).length=(n.g.set p xq.c).length:=Y1;have m:xr.u (n.fm (n.g.set p xq.c) (n.h.set p (C {yk with b:=I}))) l=xr.u n l:=by
  show[_,_,_,_,_,O _ (n.g.set p xq.c).length (n.g.set p xq.c).length,_]=_;rw[B_];rfl
 show AQ _ (_::_::_::_::_::.t xr.d (xr.u (n.fm (n.g.set p xq.c) (n.h.set p (C {yk with b:=I}))) l) _::_);rw[m];exact AQ.y _
def AAl(n ag a:B)(l:AR)(j:K)(t:AX)(f:CG)(F:a<j.h.length)(aa:CK l j)(y:j.h.getD a E=C f)(a3:f.b=R)(S:f.a.length=128)(a2:∀au∈f.a,au<256)
 (av:B2 ag t j)(ax:ag+10<=1000000000)(aw:OR ag 2 j)(a5:j.g.length=j.h.length)(a1:j.g.getD a 0<4294967296)(ay:∀ap,j.bo a=C ap->ap.a<70)(ai:UG (j.af 2 ⟨3,a,0,0,0,0⟩ f.a).2 (j.af 2 ⟨3,a,0,0,0,0⟩ f.a).1):
 Z9 330 [P l.d,N a] (l.a n j t) λa4 ar=>∃p,CK l (j.gt a f)/\B2 (ag+3) p (j.gt a f)/\a4=N 0/\ar=l.a n (j.gt a f) p:=by
 have an:=aa.b a F;rw[y] at an;have a6:=aa.d;have a8:=aa.f a f y;have Z:=λ(r:B)(aq:G M)=>ABI n ag a l j t r 0 128 (128+aq.length) (f.a.map W++aq) 5 f.a S Y Y a2 (Gb _ _ 128 S) av ax aw Y Y a1 ay ai;refine A9.w (a:=l.ad n j t a f) (MT F y) (A9.t ?_);refine L ?_;refine E7.h (yq:=_) (yb:=_) (yp:=l.e) (yi:=l.g) (yx:=l.v) A A A A A A A aa.a (v:=P (l.h a)) (by rw[an];rfl) ?_;have a9:(!f.b)=I:=by rw[a3];rfl
 refine L ?_;have ao:=AAd j 2 ⟨3,a,0,0,0,0⟩ f.a;obtain⟨m,al⟩:∃m,j.af 2 ⟨3,a,0,0,0,0⟩ f.a=m:=⟨_,A⟩;have a0:j.gt a f=((m.2.ai m.1).dw (j.bo a)).fm (((m.2.ai m.1).dw (j.bo a)).g.set a m.1.c) (((m.2.ai m.1).dw (j.bo a)).h.set a (C {f with b:=I})):=by
  unfold K.gt;rw[al]
 rw[a0];rw[al] at Z ai ao;have af:HO j ((m.2.ai m.1).dw (j.bo a)):=(ao.a (HO.a (b:=m.2.ai m.1) ⟨A,A,A⟩ (AAc _ _)));obtain⟨q,am⟩:∃q,(m.2.ai m.1).dw (j.bo a)=q:=⟨_,A⟩;rw[am] at Z af;rw[am];have z:q.h.getD a E=C f:=by rw[af.b];exact y
 have x:a<q.h.length:=by rw[af.b];exact F
 have a7:a<q.g.length:=by rw[af.c];omega
 have aj:CK l q:=aa.g F y (by rw[af.b];exact(AAy y).symm);have ak:=Wj m.1.a m.1.b (by have:=ai.a;omega) ai.d;refine⟨?_,?_⟩
 ·refine A9.u (HT (l.t a) 0 128 (128+(l.i a).length) f.a (f.a.map W++l.i a) 5 Y (Gb _ _ 128 S) S) ?_;rintro v ah ⟨r,u,az,rfl,rfl⟩;refine L ?_;refine⟨?_,?_⟩
  ·refine A9.w (a:=.t r (f.a.map W++u) 5::l.a n j t) ((AQ.b (g:=.t r (f.a.map W++u) 5::l.ad n j t a f)).t (AQ.z _ (IW F y))) (A9.z (Z r u) ?_);rintro v ah ⟨p,U,rfl,rfl⟩;refine L ?_;intro o;refine A7 ?_;refine A9.w (a:=.t o (AW m.1) 326::l.ad n q p a f) ((AQ.b (g:=.t o (AW m.1) 326::l.a n q p)).t (AQ.z _ (MT x z))) (A9.ab (ak _) (A7 ?_));exact⟨_,So x z o,p,aj.g x z A,U,A,A⟩
  ·intro o;refine L ?_;refine A9.w (a:=[.t o (B9 (AV #[N 0,N 0])) 326]++(.t r (f.a.map W++u) 5::l.a n j t)) ((AQ.b (g:=.t o (B9 (AV #[N 0,N 0])) 326::.t r (f.a.map W++u) 5::l.ad n j t a f)).t (AQ.z _ (AQ.z _ (IW F y)))) (A9.ac (Z r u) ?_);rintro v ah ⟨p,U,rfl,rfl⟩;refine A7 ?_;refine A9.w (a:=.t o (AW m.1) 326::l.ad n q p a f) ((AQ.b (g:=.t o (AW m.1) 326::l.a n q p)).t (AQ.z _ (MT x z))) (A9.ab (ak _) (A7 ?_));exact⟨_,So x z o,p,aj.g x z A,U,A,A⟩
 ·intro o;refine L ?_;refine A9.u (HT (l.t a) 0 128 (128+(l.i a).length) f.a (f.a.map W++l.i a) 5 Y (Gb _ _ 128 S) S) ?_;rintro v ah ⟨r,u,az,rfl,rfl⟩;refine L ?_;refine A9.w (a:=[.t o (B9 (AV #[N 0,N 0])) 326]++(.t r (f.a.map W++u) 5::l.a n j t)) ((AQ.b (g:=.t o (B9 (AV #[N 0,N 0])) 326::.t r (f.a.map W++u) 5::l.ad n j t a f)).t (AQ.z _ (AQ.z _ (IW F y)))) (A9.ac (Z r u) ?_);rintro v ah ⟨p,U,rfl,rfl⟩;refine A7 ?_;refine A9.w (a:=.t o (AW m.1) 326::l.ad n q p a f) ((AQ.b (g:=.t o (AW m.1) 326::l.a n q p)).t (AQ.z _ (MT x z))) (A9.ab (ak _) (A7 ?_));exact⟨_,So x z o,p,aj.g x z A,U,A,A⟩
def CK.c(a:CK xr n)(f:r.h=n.h):CK xr r:=
 ⟨a.a,a.h,by rw[f];exact a.b,by rw[f];exact a.i,by rw[f];exact a.d,by rw[f];exact a.f,by rw[f];exact a.e⟩
def kA(f:K)(a:l<f.h.length):∃j,(f.am l).h.getD l E=C j:=by
 unfold K.am;dsimp only;split
 ·exact⟨_,Hz a _⟩
 ·exact⟨_,Hz a _⟩
def Uo(f:l<n.h.length)(q:Gq n l)(j:r.h=(n.am l).h):Gq r l/\r.h.getD l E≠E:=by
 obtain⟨p,m⟩:=kA n f;have o:r.h.getD l E=C p:=by rw[j];exact m
 refine⟨λt a=>?_,by rw[o];simp⟩;rw[SL o] at a;rw[Hz (by rw[j,N'];exact f)] at a;have:=q p m;simp only[EX] at a;rw[<-a];exact this
def X4(a:K)(f:B):(a.am f).g=a.g/\(a.am f).an=a.an+1/\(a.am f).t=a.t/\(a.am f).j=a.j:=by
 unfold K.am;dsimp only;split<;>exact⟨A,A,A,A⟩
def Qt(a:K)(f:AF)(l:f.a<a.j.length)(j:B):Ab (a.ee f) j=if j=f.a then(Ab a f.a).set 1 (N ((a.b f.a).c+1)) else Ab a j:=by
 unfold K.ee;rw[JB a _ _ l j];split<;>rfl
def YX(a:K)(f:AF)(l:f.a<a.j.length)(j:B):Ab (a.ev (C f)) j=if j=f.a then(Ab a f.a).set 1 (N ((a.b f.a).c-1)) else Ab a j:=by
 show Ab (a.bl f.a _) j=_;rw[JB a _ _ l j];split<;>rfl
def Uh(a:r.j=n.j)(b:B):r.b b=n.b b:=by unfold K.b;rw[a]
def gA(z F j:B)(f:AF)(r:AR)(l:K)(av:AX)(bh:j<l.t+16)(a3:j/32<l.h.length)(Z:HN F r l)(bb:B2 F av l)(bd:l.h.getD (j/32) E=E->GP l (j/32))(aj:Gq l (j/32))(b8:F+3<=1000000000)(bi:j<=100000)
 (b1:l.j.length=70)(b3:∀b,b<70->-1000000000<=(l.b b).c/\(l.b b).c<=1000000000)(y:f.a<70)(b5:f.b<256)(bk:∀u,(l.be j).1=C u->u.a<70):
 Z9 357 [P z,N j,H6 f.a f.b] (r.a z l av) λai au=>∃x q,EZ r x/\CK x (l.de j f)/\B2 (F+2) q (l.de j f)/\ai=N 0/\au=x.a z (l.de j f) q:=by
 have ay:=NR z F j r l av bh a3 Z bb bd aj Y bi;have be:l.ao=32:=by unfold K.ao;rw[Z.a]
 have ao:(l.be j).2=l.am (j/32):=by unfold K.be;rw[be]
 have bm:l.de j f=(((l.be j).2.ev (l.be j).1).ee f).ch j f.c:=A;rw[bm];obtain⟨o,ar⟩:∃o,(l.be j).1=o:=⟨_,A⟩;rw[ar,ao] at ay;rw[ar,ao];rw[ar] at bk;have M:=X4 l (j/32);have a5:=N' l (j/32);have bl:=PX l (j/32);have a1:∀p:K,p.h=(l.am (j/32)).h->Gq p (j/32)/\p.h.getD (j/32) E≠E:=λp b6=>Uo a3 aj b6;obtain⟨a,bc⟩:∃a,l.am (j/32)=a:=⟨_,A⟩;rw[bc] at ay M a5 bl a1;rw[bc];have aq:a.j.length=70:=by rw[M.2.2.2];exact b1
 have a0:∀b,b<70->-1000000000<=(a.b b).c/\(a.b b).c<=1000000000:=λb aj=>by rw[Uh M.2.2.2];exact b3 b aj
 have bv:(AZ (Ab a) 70).length=420:=Db (EH a) 70;have bn:∀(x:AR)(p:K)(q:AX),CK x a->x.d=r.d->p.h=a.h->p.g=a.g->p.an=a.an->p.t=a.t->p.aj=a.aj->B2 (F+1) q p->
  Z9 429 [P r.d,N j,H6 f.a f.b] (x.a z p q) λai au=>∃S U,EZ x S/\CK S (p.ch j f.c)/\B2 (F+1+1) U (p.ch j f.c)/\ai=N 0/\au=S.a z (p.ch j f.c) U:=λx p q b4 bx an bp bq ba br ap=>by
  have bf:=a1 p an;rw[<-bx];refine j2 z (F+1) j f.a f.b x p q (by rw[ba,M.2.2.1];exact bh) (by rw[an,a5];exact a3) ⟨b4.c an,by rw[an,bp,M.1,a5];exact Z.d,by rw[br,bl];exact Z.a,by rw[bq,M.2.1];have:=Z.c;omega,by rw[ba,M.2.2.1];exact Z.e⟩ ap (λu=>CV u bf.2) bf.1 Y bi y b5
 clear a1 bd bb aj ao be ar bm;refine A9.t ?_;intro ax;refine L ?_;refine A9.ac (j:=[.t ax (B9 (H6 f.a f.b)) 326]) ay ?_;rintro ai a9 ⟨x,q,⟨W,ag,aa,u,ah,af,rfl⟩,bj,ap,rfl,rfl⟩;cases o with
 |none=>
  have a6:=GU a (a.ee f) y (j:=1) Y (N ((a.b f.a).c+1)) λam bg=>Qt a f (by rw[aq];exact y) am;have a2:CX (AZ (Ab a) 70) (0+f.a*6+1) 1 I=C (N (a.b f.a).c):=by
   show(AZ (Ab a) 70)[0+f.a*6+1]?=_;rw[BF,FJ a y Y];rfl
  have b2:=a0 f.a y;intro aw;refine A7 ?_;refine Ms.mk a2 (F'.mk ((a.b f.a).c+1) (A3 Y) (A' ?_));refine A9.w (a:=[.t aw [N 0,N 0] 326,.t ax (B9 (H6 f.a f.b)) 326]++AR.a {r with e:=W,v:=ag,g:=aa,h:=u,t:=ah,i:=af} z (a.ee f) q) ?_ ?_
  ·show AQ _ (_::_::_::.t r.x (AZ (Ab (a.ee f)) 70) _::_);rw[<-a6];exact AQ.b
  refine A9.ac (bn {r with e:=W,v:=ag,g:=aa,h:=u,t:=ah,i:=af} (a.ee f) q bj A A A A A A ap) ?_;rintro ai a9 ⟨S,U,a8,a4,az,rfl,rfl⟩;refine L ?_;exact⟨_,(AQ.y _).t (AQ.y _),S,U,EZ.c ⟨W,ag,aa,u,ah,af,A⟩ a8,a4,az,A,A⟩
 |some n=>
  have al:=bk n A;have bt:(a.ev (C n)).j.length=70:=by show(a.j.set _ _).length=70;rw[B_];exact aq
  have a7:=GU a (a.ev (C n)) al (j:=1) Y (N ((a.b n.a).c-1)) λam bg=>YX a n (by rw[aq];exact al) am;have bu:CX (AZ (Ab a) 70) (0+n.a*6+1) 1 I=C (N (a.b n.a).c):=by
   show(AZ (Ab a) 70)[0+n.a*6+1]?=_;rw[BF,FJ a al Y];rfl
  have b7:=a0 n.a al;obtain⟨m,G⟩:∃m,a.ev (C n)=m:=⟨_,A⟩;have a6:=GU m (m.ee f) y (j:=1) Y (N ((m.b f.a).c+1)) λam bg=>Qt m f (by rw[<-G,bt];exact y) am;have b2:-1000000001<=(m.b f.a).c/\(m.b f.a).c<=1000000001:=by
   have ao:=a0 f.a y;rw[<-G];show _<=((a.bl n.a _).b f.a).c/\_;rw[show(a.ev (C n)).b f.a=(a.bl n.a λbo=>{bo with c:=bo.c-1}).b f.a from A,Pn a _ _ (by rw[aq];exact al)];split
   ·dsimp only;omega
   ·omega
  have a2:CX (Cb (AZ (Ab a) 70) (0+n.a*6+1) (N ((a.b n.a).c-1))) (0+f.a*6+1) 1 I=C (N (m.b f.a).c):=by
   show((AZ (Ab a) 70).set (0+n.a*6+1) (N ((a.b n.a).c-1)))[0+f.a*6+1]?=_;rw[a7,G,BF,FJ m y Y];rfl
  rw[G] at a7;intro aw;refine A7 ?_;refine Ms.mk bu (F'.mk ((a.b n.a).c-1) (A3 Y) (A' ?_));refine Ms.mk a2 (F'.mk ((m.b f.a).c+1) (A3 Y) (Qh.mk f.a A y (Mw.mk ⟨A,by show 0+f.a*6+1<((AZ (Ab a) 70).set _ _).length;rw[B_,bv];omega⟩ (L ?_))));rw[show a.ev (C n)=m from G];have bs:B2 (F+1) q m:=by rw[<-G];exact ap
  have ak:m.h=a.h/\m.g=a.g/\m.an=a.an/\m.t=a.t/\m.aj=a.aj:=by rw[<-G];exact⟨A,A,A,A,A⟩
  refine A9.w (a:=[.t aw (AW n) 326,.t ax (B9 (H6 f.a f.b)) 326]++AR.a {r with e:=W,v:=ag,g:=aa,h:=u,t:=ah,i:=af} z (m.ee f) q) ?_ ?_
  ·show AQ _ (_::_::_::.t r.x (AZ (Ab (m.ee f)) 70) _::_);rw[<-a6,<-a7];rw[<-G];exact AQ.b
  refine A9.ac (bn {r with e:=W,v:=ag,g:=aa,h:=u,t:=ah,i:=af} (m.ee f) q bj A ak.1 ak.2.1 ak.2.2.1 ak.2.2.2.1 ak.2.2.2.2 bs) ?_;rintro ai a9 ⟨S,U,a8,a4,az,rfl,rfl⟩;refine L ?_;exact⟨_,(AQ.y _).t (AQ.y _),S,U,EZ.c ⟨W,ag,aa,u,ah,af,A⟩ a8,a4,az,A,A⟩
def AC3(u x a:B)(r:AR)(f:K)(al:AX)(a0:a<f.t+16)(ap:a/32<f.h.length)(z:HN x r f)(av:B2 x al f)(ax:f.h.getD (a/32) E=E->GP f (a/32))(F:Gq f (a/32))(bs:x+3<=1000000000)(a1:a<=100000)
 (bg:f.j.length=70)(bh:∀b,b<70->-1000000000<=(f.b b).c/\(f.b b).c<=1000000000)(a3:∀p,(f.be a).1=C p->p.a<70):
 Z9 428 [P u,N a] (r.a u f al) λG ak=>∃q n,EZ r q/\CK q (f.fl a)/\B2 (x+2) n (f.fl a)/\G=N 0/\ak=q.a u (f.fl a) n:=by
 have an:=NR u x a r f al a0 ap z av ax F Y a1;have ay:f.ao=32:=by unfold K.ao;rw[z.a]
 have am:(f.be a).2=f.am (a/32):=by unfold K.be;rw[ay]
 have a5:f.fl a=(match(f.be a).1 with|none=>(f.be a).2|some p=>((f.be a).2.ev (C p)).ch a 0):=by
  unfold K.fl;obtain⟨a7,b⟩:=f.be a;cases a7<;>rfl
 rw[a5];obtain⟨o,aa⟩:∃o,(f.be a).1=o:=⟨_,A⟩;rw[aa,am] at an;rw[aa,am];rw[aa] at a3;have y:=X4 f (a/32);have aq:=N' f (a/32);have a4:=PX f (a/32);have ao:∀l:K,l.h=(f.am (a/32)).h->Gq l (a/32)/\l.h.getD (a/32) E≠E:=λl bk=>Uo ap F bk;obtain⟨j,aw⟩:∃j,f.am (a/32)=j:=⟨_,A⟩;rw[aw] at an y aq a4 ao;rw[aw];have bc:j.j.length=70:=by rw[y.2.2.2];exact bg
 have bd:∀b,b<70->-1000000000<=(j.b b).c/\(j.b b).c<=1000000000:=λb F=>by rw[Uh y.2.2.2];exact bh b F
 have bp:(AZ (Ab j) 70).length=420:=Db (EH j) 70;have bl:∀(q:AR)(l:K)(n:AX),CK q j->q.d=r.d->l.h=j.h->l.g=j.g->l.an=j.an->l.t=j.t->l.aj=j.aj->B2 (x+1) n l->
  Z9 502 [P r.d,N a] (q.a u l n) λG ak=>∃M S,EZ q M/\CK M (l.ch a 0)/\B2 (x+1+1) S (l.ch a 0)/\G=N 0/\ak=M.a u (l.ch a 0) S:=λq l n bi bf W a8 a9 au ba Z=>by
  have az:=ao l W;rw[<-bf];refine iL u (x+1) a q l n (by rw[au,y.2.2.1];exact a0) (by rw[W,aq];exact ap) ⟨bi.c W,by rw[W,a8,y.1,aq];exact z.d,by rw[ba,a4];exact z.a,by rw[a9,y.2.1];have:=z.c;omega,by rw[au,y.2.2.1];exact z.e⟩ Z (λp=>CV p az.2) az.1 Y a1
 clear ao ax av F am ay aa a5;refine A9.t ?_;refine L ?_;refine A9.z an ?_;rintro G a6 ⟨q,n,⟨U,ai,ag,p,aj,ah,rfl⟩,a2,Z,rfl,rfl⟩;cases o with
 |none=>
  intro ar;refine A7 ?_;exact⟨_,AQ.y _,_,n,⟨U,ai,ag,p,aj,ah,A⟩,a2,Z.b Y,A,A⟩
 |some m=>
  have af:=a3 m A;have bm:=GU j (j.ev (C m)) af (j:=1) Y (N ((j.b m.a).c-1)) λbo bq=>YX j m (by rw[bc];exact af) bo;have be:CX (AZ (Ab j) 70) (0+m.a*6+1) 1 I=C (N (j.b m.a).c):=by
   show(AZ (Ab j) 70)[0+m.a*6+1]?=_;rw[BF,FJ j af Y];rfl
  have br:=bd m.a af;intro ar;refine A7 ?_;refine Ms.mk be (F'.mk ((j.b m.a).c-1) (A3 Y) (A' ?_));refine A9.w (a:=[.t ar (AW m) 326]++AR.a {r with e:=U,v:=ai,g:=ag,h:=p,t:=aj,i:=ah} u (j.ev (C m)) n) ?_ ?_
  ·show AQ _ (_::_::.t r.x (AZ (Ab (j.ev (C m))) 70) _::_);rw[<-bm];exact AQ.b
  refine A9.ac (bl {r with e:=U,v:=ai,g:=ag,h:=p,t:=aj,i:=ah} (j.ev (C m)) n a2 A A A A A A Z) ?_;rintro G a6 ⟨M,S,bn,bj,bb,rfl,rfl⟩;refine L ?_;exact⟨_,AQ.y _,M,S,EZ.c ⟨U,ai,ag,p,aj,ah,A⟩ bn,bj,bb,A,A⟩
def bR(a:B)(j:a<256):bits .and .u8 (a:F) 1=((a%2:B):F):=by
 have f:=N5 (a:=.u8) (l:=8) (p:=a) (np:=1) A j Y (by rw[AEf];exact MW Y);rw[AEf] at f;exact f
def RN(n a:B)(p:AR)(f:K)(z:f.ac.length=(f.t+7)/8)(r:∀q∈f.ac,q<256)(y:a<=100000)(G:f.t<=100000):
 AK 187 [P n,N a] [.t n (p.j f) 292,AJ p.al f.ac []] (X (f.dg a)):=by
 refine A9.t ?_;apply Ms.mk;focus rfl
 by_cases o:a<f.t
 ·have j:=B7 ((a:F)<(f.t:F));have l:f.dg a=(f.ac.getD (a/8) 0/2^(a%8)%2==1):=by unfold K.dg;rw[DH o,OJ]
  have m:a/8<f.ac.length:=Y;have t:f.ac.getD (a/8) 0<256:=by rw[AY,Aw m];exact r _ (Gk _)
  have u:CX (f.ac.map W++[]) (0+a/8*1) 1 I=C (W (f.ac.getD (a/8) 0)):=by
   have:=If (a:=a/8) (Gb f.ac [] _ A) m A;show(f.ac.map W++[])[0+a/8*1]?=_;rw[B3];exact this
  have x:f.ac.getD (a/8) 0/2^(a%8)<256:=Nat.lt_of_le_of_lt (Iv _ _) t;rw[l];repeat first|refine IK.u j ?_|(apply Ms.mk;focus rfl)
  refine A' ?_;refine F'.mk ((a/8:B):F) (A3 (a:=((a/8:B):F)) Y) ?_;repeat(refine IK.u j ?_)
  refine Qh.mk (a/8) A m ?_;repeat(refine IK.u j ?_)
  refine Ms.mk u ?_;repeat(refine IK.u j ?_)
  refine A7 ?_;refine F'.mk ((a%8:B):F) A ?_;repeat(refine IK.u j ?_)
  refine A7 ?_;refine F'.mk _ (No (f.ac.getD (a/8) 0) (a%8) 8 Y) ?_;repeat(refine IK.u j ?_)
  refine F'.mk _ (bR _ x) ?_;repeat(refine IK.u j ?_)
  refine⟨_,.w _,?_,A⟩;show X ((((f.ac.getD (a/8) 0/2^(a%8)%2:B):F))==1)=_;congr 1;rw[Iy];simp only[F1];omega
 ·have j:=Aa ((a:F)<(f.t:F));have l:f.dg a=I:=by unfold K.dg;rw[F2 o,a9]
  rw[l];repeat(refine IK.t j ?_)
  exact⟨_,.w _,A,A⟩
def ABk(l f:B)(m:AR)(a:K)(t:a.ac.length=(a.t+7)/8)(q:∀p∈a.ac,p<256)(r:f<=100000)(u:a.t<=100000):
 AK 366 [P l,N f] [.t l (m.j a) 292,AJ m.al a.ac []] (N (if a.dg f then 1 else 0)):=by
 have n:=RN l f m a t q r u;obtain⟨j,o⟩:∃j,a.dg f=j:=⟨_,A⟩;rw[o] at n;rw[o];refine A9.t (L ?_);refine A9.ab n ?_;cases j with
 |true=>
  refine L ?_;exact⟨_,.w _,A,A⟩
 |false=>
  refine L ?_;exact⟨_,.w _,A,A⟩
def kD(f:B)(l:AR)(a:K)(j:AX)(m:a.j.length=70)(p:8<=a.ho)(q:a.i<=256):
 AK 283 [P f] (l.a f a j) (N 0):=by
 have n:=Aa ((a.ho:F)<3);have o:=Aa ((a.ho:F)<8);refine A9.t ?_;apply Ms.mk;focus rfl
 refine F'.mk ((4*a.i:B):F) Y4 (F'.mk ((4*a.i+64:B):F) Y4 (A9.ab (Vr f l a j m) (A7 ?_)));refine EY.b ?_;repeat(refine IK.t n ?_)
 repeat first|refine IK.y ?_|refine IK.t o ?_
 exact⟨_,.w _,A,A⟩
def WR(f:B)(j:AR)(a:K)(l:a.i<=256):
 AK 278 [P f] [.t f (j.j a) 292] (N (a.ec:B)):=by
 refine A9.t ?_;refine A' ?_;refine F'.mk ((a.i/2:B):F) (A3 (a:=((a.i/2:B):F)) Y) ?_;refine F'.mk ((a.ec:B):F) (by unfold K.ec;split<;>omega) ?_;refine L ?_;exact⟨_,.w _,A,A⟩
def g2(r x f:B)(n:AR)(a:K)(G:AX)(a5:f<a.t+16)(a4:f/32<a.h.length)(z:HN x n a)(am:B2 x G a)(ap:a.h.getD (f/32) E=E->GP a (f/32))(ao:Gq a (f/32))(bb:x+3<=1000000000)(a6:f<=100000)
 (ar:∀m,(a.be f).1=C m->m.a<70/\∃p,((a.be f).2.w m.a).a[m.b]?=C p/\p.length=192):
 Z9 189 [P r,N f] (n.a r a G) λax ay=>∃F y q ak,EZ n F/\CK F (a.dt f).2/\B2 (x+2) y (a.dt f).2/\(ak.drop 0).take 128=(a.dt f).1.map W/\(a.dt f).1.length=128/\ax=AL #[Q q 128 128,N 0]/\ay=.t q ak 5::F.a r (a.dt f).2 y:=by
 have al:=NR r x f n a G a5 a4 z am ap ao Y a6;have a8:(a.be f).2.aj=128:=by
  have:(a.be f).2=a.am (f/a.ao):=A;rw[this,PX,z.a]
 have aw:a.dt f=(match(a.be f).1 with|none=>(U 128 0,(a.be f).2)|some j=>(((a.be f).2.ay j).take 128,{(a.be f).2 with u:=(a.be f).2.u+1})):=by
  have a2:=z.a;unfold K.dt;rw[a2];cases a.be f with
  |mk a0 b=>cases a0<;>rfl
 rw[aw];obtain⟨l,S⟩:∃l,(a.be f).2=l:=⟨_,A⟩;obtain⟨o,aa⟩:∃o,(a.be f).1=o:=⟨_,A⟩;rw[S,aa] at al ar;rw[S,aa];clear aw a8 S aa ap ao am z;refine A9.t ?_;refine L ?_;refine A9.z al ?_;rintro ax az ⟨F,y,⟨M,ah,af,m,ai,ag,rfl⟩,aq,an,rfl,rfl⟩;cases o with
 |none=>
  intro a1;refine A7 ?_;refine Cr.t (p:=128) (j:=128) (m:=_) (u:=_) A A A A A A ⟨Z,Z,Z⟩ (U 128 (W 0)) (DM _ _) (λq=>?_);refine L ?_;refine⟨_,AQ.z _ (AQ.y _),_,y,q,U 128 (W 0),⟨M,ah,af,m,ai,ag,A⟩,aq,an.b Y,?_,Y1,A,A⟩;rw[CJ,DP Y1,FF]
 |some j=>
  obtain⟨a7,p,av,ba⟩:=ar j A;have au:l.ay j=p:=by
   show(l.w j.a).a.getD j.b []=p;rw[AY,av];rfl
  intro a1;refine A7 ?_;refine A9.u (ME n.f n.c n.s j.a j.b p an Y a7 av) ?_;rintro v az ⟨q,a9,aj,a3,rfl,rfl⟩;refine L ?_;refine Qp.mk 0 128 128 0 A A A Y A (by split<;>omega) (L ?_);refine⟨.t q (p.map W++a9) 5::AR.a {n with e:=M,v:=ah,g:=af,h:=m,t:=ai,i:=ag} r {l with u:=l.u+1} aj,AQ.b,_,aj,q,_,⟨M,ah,af,m,ai,ag,A⟩,aq.c A,a3,?_,by show((l.ay j).take 128).length=128;rw[au,Ci];omega,A,A⟩;show _=((l.ay j).take 128).map W;rw[au,CJ,Eg Y5,Hk]
def SV(a f:G B)(m j:B)(l:a.length=j)(n:f.length=4)(o:4<=m):BO (a++U m 0) j f=(a++f)++U (m-4) 0:=by
 have:=LF a (U m 0) 0 f j l;rw[L'] at this;rw[this];unfold BO;rw[Hn,Bz,n,List.drop_replicate,BS]
def Ok(a:B):G B:=AS 0x50414D53 4++AS a 4
def HU(a:G B)(f:B):G B:=Ok a.length++(a.take f).flatMap λv=>AS v 4
def dU(a:G B)(f:B)(n:f<=a.length):(HU a f).length=8+4*f:=by
 unfold HU Ok;have:((a.take f).flatMap λv=>AS v 4).length=4*f:=by
  have j:∀a:G B,(a.flatMap λv=>AS v 4).length=4*a.length:=λa=>by
   induction a with
   |nil=>rfl
   |cons m a l=>rw[FE,Ad,l,BK,C8];omega
  rw[j,Ci];omega
 rw[Ad,Ad,BK,BK,this]
def dV(f:G B)(a:B)(j:a<f.length):HU f (a+1)=HU f a++AS (f.getD a 0) 4:=by
 unfold HU;rw[TW j,KP,<-BS,AY,Aw j];simp
def dT(a:K):HU a.g a.g.length=a.cl:=by
 unfold HU Ok K.cl;rw[LZ,BS,List.flatMap_def]
def dZ(q:B)(l:AR)(j:K)(ai:j.g.length<=1000)(ah:0<j.g.length):
 Z9 410 [P l.d] [.t l.d (l.u j q) 394,.t l.ac (j.g.map CH) 30]
  λv S=>∃m,v=Q m (8+4*j.g.length) (8+4*j.g.length)/\S=[AJ m j.cl [],.t l.d (l.u j q) 394,.t l.ac (j.g.map CH) 30]:=by
 obtain⟨a,p⟩:∃a,j.g.length=a:=⟨_,A⟩;have z:U (8+4*a) (W 0)=([]++U (8+4*a) 0:G B).map W++[]:=by rw[Bz,FF,B1]
 refine A9.t ?_;refine L ?_;rw[p];refine F'.mk ((4*a:B):F) Y4 ?_;refine F'.mk ((8+4*a:B):F) Y4 ?_;refine Cr.t (p:=8+4*a) (j:=8+4*a) (m:=_) (u:=_) A A A A A A ⟨Y,?_,Y⟩ (U (8+4*a) (W 0)) ?_ (λm=>?_)
 ·show 1*(8+4*a)<=_;omega
 ·show D8 _ ((8+4*a)*1)=_;rw[B3];exact DM _ _
 rw[z];have t:=Pq m 0 0x50414D53 (8+4*a) (8+4*a) ([]++U (8+4*a) 0) [] 5 Y Y5;rw[SV [] _ _ 0 A (BK _ _) Y] at t;refine A9.u (t) (λv x o=>?_);obtain rfl:=o;have aa:∀f,f<a->CX (j.g.map CH) (0+f*1) 1 I=C (CH (j.g.getD f 0)):=λf ag=>Ol Y;refine Qp.mk 4 (8+4*a) (8+4*a) 4 A A A Y A (by split<;>omega) ?_;apply Ms.mk;focus rfl
 rw[p];refine F'.mk (a:F) (Dh Y) ?_;have u:=Pq m 4 a (8+4*a-4) (8+4*a-4) (([]++AS 0x50414D53 4)++U (8+4*a-4) 0) [] 5 Y (by simp[BK];omega);rw[SV _ _ _ 4 (by rw[Bz,BK]) (BK _ _) Y] at u;refine A9.u (u) (λv x o=>?_);obtain rfl:=o;have y:([]++AS 0x50414D53 4++AS a 4)++U (8+4*a-4-4) 0=HU j.g 0++U (4*(a-0)) 0:=by
  unfold HU Ok;rw[p,Hn,QC,B1,Bz];congr 2;omega
 rw[y];clear y t u z;apply Ms.mk;focus rfl
 refine EY.f (m:=B) (λf=>a-f) (λf=>f<=a) (λf=>[(3,Q m (8+4*a) (8+4*a)),(28,Q l.ac j.g.length j.g.length),(29,N j.g.length),(30,N (f:B))]) (λf=>[.t m ((HU j.g f++U (4*(a-f)) 0).map W++[]) 5,.t l.d (l.u j q) 394,.t l.ac (j.g.map CH) 30]) 0 (Af _) ⟨A,A,A,A,AA⟩ (.w _) ?_;intro f aj af;refine EY.b (IK.mk (λn=>?_) (λn=>?_))
 ·have n:f<a:=by simp at n;omega
  have r:=dU j.g f Y;have M:=Pq m (8+4*f) (j.g.getD f 0) (8+4*a-(8+4*f)) (8+4*a-(8+4*f)) (HU j.g f++U (4*(a-f)) 0) [] 5 Y (by rw[Ad,r,BI];omega);rw[SV _ _ _ (8+4*f) r (BK _ _) Y,<-dV _ _ Y,show 4*(a-f)-4=4*(a-(f+1)) by omega] at M;clear r;refine A7 ?_;refine Ms.mk (aa f n) (F'.mk ((4*f:B):F) Y4 (F'.mk ((8+4*f:B):F) Y4 (Qp.mk (8+4*f) (8+4*a) (8+4*a) (8+4*f) A A A Y A (by split<;>omega) (A9.u (M) (λv x o=>?_)))));obtain rfl:=o;exact F'.mk ((f+1:B):F) Y2 (af (f+1) (by show f+1<=a;omega) (by show a-(f+1)<a-f;omega) ⟨A,A,A,A,AA⟩ (.w _))
 ·have n:f=a:=by simp at n;omega
  subst n;refine L ?_;refine⟨_,?_,m,A,A⟩;have Z:HU j.g f++U (4*(f-f)) 0=j.cl:=by
   rw[Nat.sub_self,Nat.mul_zero,List.replicate_zero,B1,<-p,dT]
  rw[Z];exact .w _
def AB9(f l:B)(m:AR)(a:K)(j:AX)(u:a.ct<=l)(x:a.bi<=l)(t:l<=1000000000)(n:a.cu.bi%2≠0):
 Ay 367 [P f] (m.a f a j) (N 0) (m.a f a.ed j):=by
 have p:a.ed=a.cu:=by unfold K.ed;rw[A8 n]
 have o:(a.bi+1)%2=1:=by
  have r:(a.bi+1)%2≠0:=n;omega
 have q:((((a.bi+1:B):F).tmod 2)!=0)=R:=by
  have:(((a.bi+1:B):F).tmod 2)=(((a.bi+1)%2:B):F):=A;rw[this,o];rfl
 rw[p];refine A9.aa (A9.af A ?_);apply Ms.mk;focus rfl
 refine F'.mk ((a.ct+1:B):F) (A3 Y) (Mw.mk ⟨A,Z2⟩ ?_);apply Ms.mk;focus rfl
 refine F'.mk ((a.bi+1:B):F) (A3 Y) (Mw.mk ⟨A,Z2⟩ ?_);apply Ms.mk;focus rfl
 exact Mt.mk Z (F'.mk _ A (IK.u q ⟨m.a f a.cu j,AQ.ab Y0,A,A⟩))
def ABa(f l:B)(m:AR)(a:K)(j:AX)(n:M->S->Prop)(y:a.ct<=l)(z:a.bi<=l)(x:l<=1000000000)(p:a.cu.bi%2=0)
 (o:Z9 256 [P f] (m.a f a.cu j) n):
 Z9 367 [P f] (m.a f a j) n:=by
 have q:(a.bi+1)%2=0:=p;have t:((((a.bi+1:B):F).tmod 2)!=0)=I:=by
  have:(((a.bi+1:B):F).tmod 2)=(((a.bi+1)%2:B):F):=A;rw[this,q];rfl
 refine A9.af A ?_;apply Ms.mk;focus rfl
 refine F'.mk ((a.ct+1:B):F) (A3 Y) (Mw.mk ⟨A,Z2⟩ ?_);apply Ms.mk;focus rfl
 refine F'.mk ((a.bi+1:B):F) (A3 Y) (Mw.mk ⟨A,Z2⟩ ?_);apply Ms.mk;focus rfl
 exact Mt.mk Z (F'.mk _ A (IK.t t (A9.w (a:=m.a f a.cu j) (AQ.ab Y0) (A9.z o λv u r=>r))))
def PY(j:B)(a:AR)(f:K):AK 222 [P a.d] [.t a.d (a.u f j) 394] (N f.g.length):=by
 refine A9.t ?_;refine L ?_;exact⟨_,.w _,A,A⟩
def V9(j:B)(f:AR)(a:K)(l:a.g.length<=1000):AK 347 [P f.d] [.t f.d (f.u a j) 394] (N (8+4*a.g.length:B)):=by
 refine A9.t ?_;refine L ?_;refine F'.mk ((4*a.g.length:B):F) Y4 ?_;refine F'.mk ((8+4*a.g.length:B):F) Y4 ?_;exact⟨_,.w _,A,A⟩
def Qy(f:B)(j:AR)(a:K)(l:a.t<=100000):AK 166 [P f] [.t f (j.j a) 292] (N (a.t+16:B)):=by
 refine A9.t ?_;refine L ?_;refine F'.mk ((a.t+16:B):F) Y4 ?_;exact⟨_,.w _,A,A⟩
def AAU(j:B)(f:AR)(a:K)(l:a.g.length<=1000)(o:a.ac.length<=100000)(n:a.aj=128):AK 407 [P j] [.t j (f.j a) 292,.t f.d (f.u a j) 394] (N (a.jt:B)):=by
 have m:a.jt=(8+4*a.g.length+a.ac.length+127)/128:=by unfold K.jt;rw[n];congr 1
 rw[m];refine A9.t ?_;refine L ?_;refine A9.b (V9 j f a l) ?_;repeat(refine Mt.mk (aY.mk A) ?_)
 refine F'.mk ((8+4*a.g.length+a.ac.length:B):F) Y4 (F'.mk ((8+4*a.g.length+a.ac.length+128:B):F) Y4 (F'.mk ((8+4*a.g.length+a.ac.length+127:B):F) Y4 (A' ?_)));refine F'.mk (((8+4*a.g.length+a.ac.length+127)/128:B):F) (A3 (a:=(((8+4*a.g.length+a.ac.length+127)/128:B):F)) Y) (L ?_);exact⟨_,AQ.b (g:=[.t j (f.j a) 292,.t f.d (f.u a j) 394]),A,A⟩
abbrev AR.az(a:AR)(l:B)(f:K)(j:AX)(m:G M):S:=
 [.t l (a.j f) 292,.t a.x m 295,.t a.d (a.u f l) 394,.t a.ac (f.g.map CH) 30,.o a.y (AM a.e a.g),
  AJ a.al f.ac [],.o a.am (AM a.ah a.ai),.u (A2 a.ae),.u (A2 (a.w.a (f.ae.map AD) 3)),.u (A2 (a.z.a (f.bj.flatMap AW) 326)),.u (A2 (a.aa.a (f.ax.flatMap AW) 326)),.u (A2 (a.ak.a (f.ah.flatMap L6) 502)),
  .u (A2 (FO a.h a.t a.i f.h (AH f.h.length))),
  .t a.ab [P a.f,Q a.b.b f.aa.length a.b.f,D1 f.aq,D Au f.av,Ah (C a.b.d)] 477,BJ a.b.b f.aa a.b.h,.o a.b.d (AM (C6 f.bn a.b.a a.b.g a.b.j) a.b.s),Dr f.bn a.b.a a.b.i,
  .t a.f [Cd 53 (P a.c),P a.c,N 192,Ah (C a.s),N j.c] 277,.o a.s (AM #[] 0),.u (CB a.c j.a)]
def Nb(o:G AF×K)(f:B):G AF×K:=match o.2.bo f with
 |some a=>(o.1++[a],o.2.ai a)
 |none=>o
def CE(f:K)(a:B):G AF×K:=(AH a).foldl Nb ([],f)
def kZ(f:K)(a:B):CE f (a+1)=Nb (CE f a) a:=by unfold CE;rw[DO,KQ];rfl
def kX(a:K):a.jr=CE a a.g.length:=A
structure OW(n:K)(m:B)(f:G AF×K):Prop where
 b:f.2={n with j:=f.2.j}
 a:f.2.j.length=70
 d:∀l,l<70->-1000000000-(m:F)<=(f.2.b l).d/\(f.2.b l).d<=1000000000+(m:F)
 c:f.1.length<=m
def OW.f(a:K)(j:a.j.length=70)(l:∀b,b<70->-1000000000<=(a.b b).d/\(a.b b).d<=1000000000):OW a 0 ([],a):=
 ⟨A,j,λb f=>by have:=l b f;dsimp only;omega,AI 0⟩
def OW.e{o:G AF×K}(a:OW n l o)(j:∀f,o.2.bo l=C f->f.a<70):OW n (l+1) (Nb o l):=by
 unfold Nb;cases q:o.2.bo l with
 |none=>exact⟨a.b,a.a,λb j=>by have:=a.d b j;dsimp only;omega,by have:=a.c;dsimp only;omega⟩
 |some f=>
  have r:=j f q;refine⟨?_,?_,λb j=>?_,?_⟩
  ·dsimp only;rw[a.b];rfl
  ·show(o.2.j.set _ _).length=70;rw[B_];exact a.a
  ·have t:=a.d b j;show _<=((o.2.bl f.a _).b b).d/\_;rw[show(o.2.ai f).b b=(o.2.bl f.a λm=>{m with d:=m.d+1}).b b from A,Pn _ _ _ (by rw[a.a];exact r)];split
   ·rename_i p;subst p;dsimp only;omega
   ·omega
  ·show(o.1++[f]).length<=l+1;have:=a.c;rw[Ad,JZ];omega
def kW(a:AF):(AW a).length=2/\(AW a).all B'=R:=⟨A,A⟩
def SQ(m:B)(p:AR)(f:K)(q:AX)(aw:f.g.length<=1000)(a0:∀a,a<f.g.length->f.g.getD a 0<4294967296)(au:∀a j,f.bo a=C j->j.a<70)(a6:f.j.length=70)(bb:∀b,b<70->-1000000000<=(f.b b).d/\(f.b b).d<=1000000000):
 Z9 335 [P m] (p.a m f q) λv U=>∃r y t,DI 2 f.jr.1 y t/\v=Bm r y f.jr.1/\U=p.a m f.jr.2 q++BX 326 AW r f.jr.1 t:=by
 rw[kX];obtain⟨o,W⟩:∃o,f.g.length=o:=⟨_,A⟩;rw[W] at aw a0;rw[W];refine A9.t ?_;refine L ?_;refine A9.b (PY m p f) ?_;rw[W];refine L ?_;refine EY.f (m:=B×B×B×G M) (λl=>o-l.1) (λl=>l.1<=o/\DI 2 (CE f l.1).1 l.2.2.1 l.2.2.2/\OW f l.1 (CE f l.1)) (λl=>[(0,P m),(3,Bm l.2.1 l.2.2.1 (CE f l.1).1),(11,N o),(12,N (l.1:B))]) (λl=>p.a m (CE f l.1).2 q++BX 326 AW l.2.1 (CE f l.1).1 l.2.2.2) (0,0,0,[]) ⟨Af _,⟨AI 0,Z,A⟩,OW.f f a6 bb⟩ ⟨A,A,A,A,AA⟩ ?_ ?_
 ·show AQ _ (p.a m f q++[]);rw[B1];exact AQ.b
 rintro⟨a,r,y,t⟩ ⟨a7,af,z⟩ a1;dsimp only at a7 af z;refine EY.b (IK.mk (λu=>?_) (λu=>?_))
 ·have u:a<o:=by simp at u;omega
  have n:=kZ f a;obtain⟨a2,an⟩:∃a2,(CE f a).1=a2:=⟨_,A⟩;obtain⟨x,aa⟩:∃x,(CE f a).2=x:=⟨_,A⟩;have ai:x.g=f.g:=by rw[<-aa,z.b]
  have az:x.bo a=f.bo a:=by unfold K.bo;rw[ai]
  have a3:=T0 m a p x (by rw[ai,W];exact u) (by rw[ai,W];exact aw) (by rw[ai];exact a0 a u);have ao:=z.e (λj ba=>au a j (by rw[<-az,<-aa];exact ba));rw[<-n] at ao;have av:=z.d;have ax:=z.a;have a8:=z.c;rw[aa] at av ax;rw[an] at af a8;unfold Nb at n;rw[aa,an] at n;have be:(AZ (Ab x) 70).length=420:=Db (EH x) 70;apply Ms.mk;focus rfl
  subst aa;subst an;refine A9.b a3 ?_;cases ag:(CE f a).2.bo a with
  |none=>
   rw[ag] at n;have n:CE f (a+1)=CE f a:=n;have ap:Fo (CE f a).2 a=AL #[AV #[N 0,N 0],X I]:=by unfold Fo;rw[ag]
   rw[ap];intro am;refine A' ?_;refine F'.mk ((a+1:B):F) Z1 (a1 (a+1,r,y,t) ⟨by show a+1<=o;omega,by show DI 2 (CE f (a+1)).1 y t;rw[n];exact af,ao⟩ (by show o-(a+1)<o-a;omega) ⟨A,?_,A,A,AA⟩ ?_)
   ·show _=C (Bm r y (CE f (a+1)).1);rw[n];rfl
   ·show AQ _ (p.a m (CE f (a+1)).2 q++BX 326 AW r (CE f (a+1)).1 t);rw[n];exact(AQ.u (GS.t (f:=.t am _ _::p.a m (CE f a).2 q) Y0)).t (AQ.y _)
  |some j=>
   rw[ag] at n;have n:CE f (a+1)=((CE f a).1++[j],(CE f a).2.ai j):=n;have aj:j.a<70:=au a j (by rw[<-az];exact ag);have ap:Fo (CE f a).2 a=AL #[AV (AW j).toArray,X R]:=by unfold Fo;rw[ag]
   have a4:CX (AZ (Ab (CE f a).2) 70) (0+j.a*6+3) 1 I=C (N ((CE f a).2.b j.a).d):=by
    show(AZ (Ab (CE f a).2) 70)[0+j.a*6+3]?=_;rw[BF,FJ (CE f a).2 aj Y];rfl
   have bc:=GU (CE f a).2 ((CE f a).2.ai j) aj (j:=3) Y (N (((CE f a).2.b j.a).d+1)) λbd bf=>Mz (CE f a).2 j (by rw[ax];exact aj) bd;have bg:=av j.a aj;rw[ap];intro am;refine A7 ?_;refine Ms.mk a4 (F'.mk (((CE f a).2.b j.a).d+1) (A3 Y) (A' ?_));intro ah;have a5:∀U:S,AQ U (.t ah (AW j) 326::(p.az m ((CE f a).2.ai j) q ((AZ (Ab (CE f a).2) 70).set (0+j.a*6+3) (N (((CE f a).2.b j.a).d+1)))++BX 326 AW r (CE f a).1 t))->AQ U (.t ah (AW j) 326::(p.a m ((CE f a).2.ai j) q++BX 326 AW r (CE f a).1 t)):=λU ar=>by
    rw[bc] at ar;exact ar
   refine Cr.u (a5 _ ((AQ.u (GS.t (f:=.t am _ _::.t ah (AW j) 326::p.az m ((CE f a).2.ai j) q ((AZ (Ab (CE f a).2) 70).set (0+j.a*6+3) (N (((CE f a).2.b j.a).d+1)))) Y0)).t (AQ.y _))) (Cr.z (f:=AW) (n:=_) (a1:=_) A A A A A A A ⟨A,Z⟩ (Cj (l₁:=.t ah (AW j) 326::p.a m ((CE f a).2.ai j) q)) (λl=>⟨A,A⟩) [j] A A Z af ⟨Y6,Z⟩ (λal ak aq a9=>?_));refine F'.mk ((a+1:B):F) Z1 ?_;have ay:(CE f a).1++[j]≠[]:=Y1;refine a1 (a+1,al,ak,aq) ⟨by show a+1<=o;omega,by show DI 2 (CE f (a+1)).1 ak aq;rw[n];exact a9,ao⟩ (by show o-(a+1)<o-a;omega) ⟨A,?_,A,A,AA⟩ ?_
   ·show _=C (Bm al ak (CE f (a+1)).1);rw[n,E1 ay,Ad];rfl
   ·show AQ _ (p.a m (CE f (a+1)).2 q++BX 326 AW al (CE f (a+1)).1 aq);rw[n,Dw ay];exact AQ.al _ _ _
 ·have u:a=o:=by simp at u;omega
  subst u;refine L ?_;exact⟨_,.w _,r,y,t,af,A,A⟩
def e1(a:B)(f b j l m n:M):AK 250 [P a] [.t a [f,N 128,b,j,l,m,n] 394] (N 32):=by
 refine A9.t ?_;refine A' ?_;refine F'.mk 32 A ?_;refine L ?_;exact⟨_,.w _,A,A⟩
def T1(a:B)(n:M)(t:1<=a/\a<=4096):
 Z9 165 [N a,N 128,N a,Cd 299 n] [] λv p=>∃m j l,v=AL #[P m,N 0]/\p=[.t m [N a,N 128,N a,Cd 299 n,Ah (C j),Q l ((a-1)/32+1) ((a-1)/32+1),N 0] 394,.t l (U ((a-1)/32+1) (CH 0)) 30,.o j (AM #[] 0)]:=by
 have o:=Aa ((a:F)<1);have q:=Aa ((a:F)>4096);refine A9.t ?_;repeat(refine IK.t o ?_)
 repeat(refine IK.y ?_)
 refine A' ?_;refine F'.mk 0 A ?_;repeat(refine IK.y ?_)
 repeat(refine IK.t o ?_)
 clear o;refine IK.t q ?_;clear q;intro j m;refine F'.mk ((a-1:B):F) Y4 (A9.u (e1 m (N a) (N a) (Cd 299 n) (Ah (C j)) (O E 0 0) (N 0)) ?_);rintro v p ⟨rfl,rfl⟩;refine A' ?_;refine F'.mk (((a-1)/32:B):F) (A3 (a:=(((a-1)/32:B):F)) Y) (F'.mk (((a-1)/32+1:B):F) Y4 ?_);obtain⟨f,r⟩:∃f,(a-1)/32+1=f:=⟨_,A⟩;rw[r];refine Cr.t (p:=f) (j:=f) (m:=_) (u:=_) A A A A A A ⟨AI _,?_,Y⟩ (U f (CH 0)) ?_ (λl=>?_)
 ·show 4*f<=_;omega
 ·show D8 _ (f*1)=_;rw[B3];exact DM _ _
 refine A7 ?_;exact⟨_,AQ.b (g:=[.t m [N a,N 128,N a,Cd 299 n,Ah (C j),Q l f f,N 0] 394,.t l (U f (CH 0)) 30,.o j (AM #[] 0)]),m,j,l,A,A⟩
def F3(a:G B)(f:B):B:=Az (a.drop (8+4*f)) 4
def Fg(j:G B)(f a:B):G M:=(AH a).map (λl=>CH (F3 j l))++U (f-a) (CH 0)
def dX(a:G B)(f:p<=l):(Fg a l p).length=l:=by simp[Fg];omega
def dY(a:G B)(f:p<l):(Fg a l p).set (0+p*1) (CH (F3 a p))=Fg a l (p+1):=by
 unfold Fg;rw[BF,B3,List.set_append_right _ _ Y1,show l-p=(l-(p+1))+1 by omega,List.replicate_succ];simp[DO]
def dW(a:G B)(f:p<l):CX (Fg a l (p+1)) (0+p*1) 1 I=C (CH (F3 a p)):=by
 show(Fg a l (p+1))[0+p*1]?=_;rw[BF,B3];unfold Fg;rw[Di Y1];simp
def i7(x u a:B)(U b r aa af:M)(p m q:B)(o:G M)(t:AU)(j:G B)(az:0<a/\a<=1000)(ah:j.length=8+4*a)(ag:∀r∈j,r<256)(a0:8+4*a<=q)(z:(o.drop m).take (8+4*a)=j.map W)(S:Az j 4=1346456915)(am:Az (j.drop 4) 4=a)(ar:∀f,f<a->F3 j f<=262144):
 Ay 424 [P x,O (C ⟨p,m,E⟩) (8+4*a) q] [.t x [U,b,r,aa,af,Q u a a,N 0] 394,.t u (Fg j a 0) 30,.t p o t] (AL #[P x,N 0]) [.t x [U,b,r,aa,af,Q u a a,N 0] 394,.t u (Fg j a a) 30,.t p o t]:=by
 have aj:=Nn p m (8+4*a) q o t j ag ah z Y;have ao:∀l,l<=8+4*a->(o.drop (m+l)).take (8+4*a-l)=(j.drop l).map W:=λl av=>NC o m (8+4*a) j z l _ Y;have al:∀l,l+4<=8+4*a->AK 280 [O (C ⟨p,m+l,E⟩) (8+4*a-l) (q-l)] [.t p o t] (D Ax (Az (j.drop l) 4)):=λl av=>
  Nn p (m+l) (8+4*a-l) (q-l) o t (j.drop l) (λr z=>ag r (EP z)) (by rw[DV,ah]) (ao l Y) Y
 have ak:=al 4 Y;rw[S] at aj;rw[am] at ak;have ai:(((8+4*a:B):F)!=((8+4*a:B):F))=I:=Y1;have y:(((1346456915:B):F)!=1346456915)=I:=Z;have ap:((a:F)!=(a:F))=I:=Y1;clear ao z ag S am ah;refine A9.t ?_;apply Ms.mk;focus rfl
 refine F'.mk ((4*a:B):F) Y4 (F'.mk ((8+4*a:B):F) Y4 ?_);repeat(refine IK.t ai ?_)
 refine A9.b aj ?_;repeat(refine Mt.mk (aY.mk A) ?_)
 repeat(refine IK.t ai ?_)
 clear ai;repeat(refine IK.t y ?_)
 refine Qp.mk 4 (8+4*a) q (m+4) A A A Y A (by split<;>omega) ?_;repeat(refine IK.t y ?_)
 apply Ms.mk;focus rfl
 repeat(refine IK.t y ?_)
 refine F'.mk (a:F) (Dh Y) ?_;repeat(refine IK.t y ?_)
 refine A9.b ak ?_;repeat(refine Mt.mk (aY.mk A) ?_)
 repeat(refine IK.t y ?_)
 clear y;refine IK.t ap ?_;clear ap;apply Ms.mk;focus rfl
 refine EY.f (m:=B) (λf=>a-f) (λf=>f<=a) (λf=>[(0,P x),(1,O (C ⟨p,m,E⟩) (8+4*a) q),(38,N a),(39,N (f:B))]) (λf=>[.t x [U,b,r,aa,af,Q u a a,N 0] 394,.t u (Fg j a f) 30,.t p o t]) 0 (Af _) ⟨A,A,A,A,AA⟩ AQ.b ?_;intro f a1 ax;refine EY.b (IK.mk (λn=>?_) (λn=>?_))
 ·have n:f<a:=by simp at n;omega
  have aq:=al (8+4*f) Y;have S:=WW (F3 j f) (ar f n);have an:=dY j n;have au:=dW j n;have aw:=dX j (p:=f) (l:=a) Y;apply Ms.mk;focus rfl
  refine F'.mk ((4*f:B):F) Y4 (F'.mk ((8+4*f:B):F) Y4 (Qp.mk (8+4*f) (8+4*a) q (m+(8+4*f)) A A A Y A (by split<;>omega) (A9.u aq ?_)));rintro v ay ⟨rfl,rfl⟩;repeat(refine Mt.mk (aY.mk A) ?_)
  refine Qh.mk f A n (Mw.mk ⟨A,by rw[aw];omega⟩ ?_);repeat(refine Mt.mk (aY.mk A) ?_)
  apply Ms.mk;focus rfl
  refine A7 ?_;refine Ms.mk (v:=CH (F3 j f)) ?_ ?_
  ·show CX ((Fg j a f).set (0+f*1) (CH (F3 j f))) (0+f*1) 1 I=_;rw[an];exact au
  refine A9.ab (S _) (IK.t (A:(!R)=I) (F'.mk ((f+1:B):F) Y2 (ax (f+1) (by show f+1<=a;omega) (by show a-(f+1)<a-f;omega) ⟨A,A,A,A,AA⟩ ?_)));rw[<-an];exact AQ.b
 ·have n:f=a:=by simp at n;omega
  subst n;refine L ?_;exact⟨_,.w _,A,A⟩
def i8(f:B)(q:M)(U:1<=f/\f<=4096)(p u t a:B)(aa:(f-1)/32+1=a)(o:G M)(r:AU)(j:G B)(ai:j.length=8+4*a)(S:∀F∈j,F<256)(ag:8+4*a<=t)(af:(o.drop u).take (8+4*a)=j.map W)(aj:Az j 4=1346456915)(ak:Az (j.drop 4) 4=a)(ah:∀y,y<a->F3 j y<=262144):
 Z9 348 [N f,N 128,N f,Cd 299 q,O (C ⟨p,u,E⟩) (8+4*a) t] [.t p o r]
  λv z=>∃n m l,v=AL #[P n,N 0]/\z=[.t n [N f,N 128,N f,Cd 299 q,Ah (C m),Q l a a,N 0] 394,.t l (Fg j a a) 30,.t p o r,.o m (AM #[] 0)]:=by
 have x:=T1 f q U;rw[aa] at x;have Z:=λn m l=>i7 n l a (N f) (N 128) (N f) (Cd 299 q) (Ah (C m)) p u t o r j Y ai S ag af aj ak ah;refine A9.t ?_;refine A9.u x ?_;rintro v al ⟨n,m,l,rfl,rfl⟩;refine L ?_;refine A9.b (Z n m l) (L ?_);exact⟨_,AQ.b (g:=[.t n [N f,N 128,N f,Cd 299 q,Ah (C m),Q l a a,N 0] 394,.t l (Fg j a a) 30,.t p o r,.o m (AM #[] 0)]),n,m,l,A,A⟩
def RW{n:Type}(f j:n->AE)(o:∀l,j l=R->f l=R):∀{a:G n}{m:n},m∈a->f m=R->j m=I->(a.filter j).length<(a.filter f).length
 |l::a,m,x,t,u=>by
  have z:∀a:G n,(a.filter j).length<=(a.filter f).length:=λa=>by
   induction a with
   |nil=>exact AI _
   |cons r a y=>
    rw[HG,HG];cases p:j r with
    |true=>rw[o r p];simpa using y
    |false=>cases f r<;>simp<;>omega
  rw[HG,HG];rcases C2.1 x with q|q
  ·subst q;rw[t,u];have:=z a;simp;omega
  ·have:=RW f j o q t u;cases p:j l with
   |true=>rw[o l p];simpa using this
   |false=>cases f l<;>simp<;>omega
def eQ(j:Da yp yx){f:CO}(m:f∈yp.toList):∃a∈yx,f.key=N a.1/\f.val=a.2:=by
 have:(f.key,f.val)∈yx.map λa=>(D H a.1,a.2):=by unfold Da at j;rw[<-j];exact CI.2 ⟨f,m,A⟩
 obtain⟨a,n,l⟩:=CI.1 this;exact⟨a,n,(AB Prod.fst l).symm,(AB Prod.snd l).symm⟩
def WH:∀{l:G (F×M)}{a:F×M},(l.map (·.1)).Nodup->a∈l->Cu a.1 l=C a.2
 |o::r,a,j,m=>by
  rw[Ee,O6] at j;unfold Cu;rcases C2.1 m with f|f
  ·subst f;rw[A8 A]
  ·have:a.1≠o.1:=λn=>j.1 (n▸CI.2 ⟨a,f,A⟩);rw[A1 this];exact WH j.2 f
def CK.j(j:CK xr n){l:CO}(x:l∈xr.e.toList):∃a o,a<n.h.length/\n.h.getD a E=C o/\l.key=AD a/\l.val=P (xr.h a):=by
 obtain⟨y,r,t,u⟩:=eQ j.a x;obtain⟨a,q,p⟩:=j.e.2 y r;have f:=WH j.e.1 r;rw[p,j.b a q] at f;cases m:n.h.getD a E with
 |none=>rw[m] at f;cases f
 |some o=>
  rw[m] at f;exact⟨a,o,q,m,by rw[t,p];rfl,by rw[u];exact(Gl f).symm⟩
def WL:∀{l:G (F×M)}{f:F}{v:M},Cu f l=C v->(f,v)∈l
 |m::r,f,v,a=>by
  unfold Cu at a;by_cases j:f=m.1
  ·rw[A8 j] at a;cases a;rw[j];exact Bt ..
  ·rw[A1 j] at a;exact By _ (WL a)
def CK.s(m:CK xr n)(q:l<n.h.length)(r:n.h.getD l E=C yk):∃a∈xr.e.toList,a.key=AD l:=by
 have f:=m.b l q;rw[r] at f;have o:=WL f;have j:=m.a;unfold Da at j;have:(D H (l:F),T (V (xr.h l)))∈xr.e.toList.map λa=>(a.key,a.val):=by
  rw[j];exact CI.2 ⟨_,o,A⟩
 obtain⟨a,p,t⟩:=CI.1 this;exact⟨a,p,AB Prod.fst t⟩
def Er(v:M):B:=match v with
 |D _ a=>a.toNat
 |_=>0
def JD(f:K)(a:B):AE:=match f.h.getD a E with|some j=>j.b|none=>I
def E2(j:K)(f:G CO):G B:=(f.map λa=>Er a.key).filter (JD j)
def cX(f:K)(j:G CO)(a:CO):E2 f (j++[a])=E2 f j++if JD f (Er a.key) then[Er a.key] else[]:=by
 unfold E2;rw[CU,EO];cases l:JD f (Er a.key)<;>simp[l]
def hO(o:CK xr n):(xr.e.toList.map λj=>Er j.key).Nodup:=by
 have r:(xr.e.toList.map λj=>Er j.key)=xr.v.map λl=>l.1.toNat:=by
  have:=AB (List.map λy:M×M=>Er y.1) o.a;rw[Iu,Iu] at this;exact this
 rw[r];obtain⟨a,f⟩:=o.e;revert a f;generalize xr.v=p
 induction p with
 |nil=>intro _ _;exact O7
 |cons q p u=>
  intro a f;rw[Ee,O6] at a⊢;refine⟨λx=>?_,u a.2 λl t=>f l (By _ t)⟩;obtain⟨b,m,F⟩:=CI.1 x;obtain⟨G,_,z⟩:=f q (Bt ..);obtain⟨L,_,B⟩:=f b (By _ m);refine a.1 (CI.2 ⟨b,m,?_⟩);omega
def cY(l:CK xr n){m:G CO}(x:m.Perm xr.e.toList):(E2 n m).mergeSort=n.dr:=by
 have p:n.dr=(AH n.h.length).filter (JD n):=A;have y:(E2 n m).Perm n.dr:=by
  rw[p];refine((x.map _).filter _).trans ((AE7 ((hO l).filter _) (List.nodup_range.filter _)).2 λr=>?_);rw[CF,CF,Ce,CI];constructor
  ·rintro⟨⟨o,f,rfl⟩,a⟩;obtain⟨r,B,j,_,t,_⟩:=l.j f;exact⟨by rw[t];exact j,a⟩
  ·rintro⟨j,a⟩;unfold JD at a;cases q:n.h.getD r E with
   |none=>rw[q] at a;cases a
   |some B=>
    obtain⟨o,f,u⟩:=l.s j q;exact⟨⟨o,f,by rw[u];rfl⟩,by unfold JD;exact a⟩
 have z:n.dr.Pairwise (·<=·):=by rw[p];exact((List.pairwise_lt_range).imp (λa=>Nat.le_of_lt a)).filter _
 exact(Wx y.symm z).symm
abbrev HQ(a:AR)(f:K):C0:=A2 (FO a.h a.t a.i f.h (AH f.h.length))
def kC(j:l<n.h.length)(f:n.h.getD l E=C yk)(a:S):AQ (.u (HQ xr n)::a) (Fz xr l yk++(.u (DL xr n l)::a)):=by
 refine(AQ.ac _ _).t ((AQ.u ((L1 (FP xr.h xr.t xr.i n.h) (Ce.2 j)).append_right _)).t ?_);rw[P' f,BS];exact(AQ.aj (Fz xr l yk) (FO xr.h xr.t xr.i n.h ((AH n.h.length).erase l)) a).t (AQ.u (EE (l₁:=Fz xr l yk)).symm)
def kB(j:l<n.h.length)(f:n.h.getD l E=C yk)(a:S):AQ (Fz xr l yk++(.u (DL xr n l)::a)) (.u (HQ xr n)::a):=by
 refine(AQ.u (EE (l₁:=Fz xr l yk))).t ((AQ.ac _ _).t ?_);refine AQ.t (AQ.u ?_) (AQ.aa _ _);rw[<-P' f];refine Me ?_ ((L1 (FP xr.h xr.t xr.i n.h) (Ce.2 j)).symm.append_right _);rw[BS];exact QE _ _ _
def cS(n:B)(a:AR)(f:K)(u:CK a f)(bd:f.h.length<=12):
 Z9 328 [P a.d] [.t a.d (a.u f n) 394,.o a.y (AM a.e a.g),.u (HQ a f)]
  λv a0=>∃ao:D6,ao.c 1 f.dr.length/\v=ao.b f.dr.length/\a0=[.t a.d (a.u f n) 394,.o a.y (AM a.e a.g),.u (HQ a f)]++ao.a (f.dr.map AD) 3:=by
 refine A9.t ?_;refine L ?_;refine Cr.an A A A (λr=>?_);refine EY.f (m:=G CO×Ai B×B×B×G M) (λl=>(a.e.toList.filter λo=>!((l.1.map (·.born)).contains o.born)).length) (λl=>Mv a.e l.1 l.2.1/\DI 1 (E2 f l.1) l.2.2.2.1 l.2.2.2.2/\(a.e.toList.filter λo=>!((l.1.map (·.born)).contains o.born)).length+l.1.length<=a.e.toList.length) (λl=>[(0,P a.d),(3,Bm l.2.2.1 l.2.2.2.1 (E2 f l.1)),(10,P r)]) (λl=>.o r (Cy (C a.y) a.g l.2.1 a.g)::([.t a.d (a.u f n) 394,.o a.y (AM a.e a.g),.u (HQ a f)]++BX 3 GA l.2.2.1 (E2 f l.1) l.2.2.2.2)) ([],#[],0,0,[]) ⟨Mv.h _,⟨AI 0,Z,A⟩,Ez ..⟩ ⟨A,A,A,AA⟩ ?_ ?_
 ·show AQ _ (.o r _::([.t a.d (a.u f n) 394,.o a.y (AM a.e a.g),.u (HQ a f)]++[]));exact AQ.b
 rintro⟨j,seen,t,N,y⟩ ⟨az,x,a7⟩ al;dsimp only at az x a7 al⊢;refine EY.b (Cr.aj A A u.h j az (λa9=>?_) (λm ah ai aj=>?_))
 ·have aq:=cY u a9;have z:(E2 f j).length=f.dr.length:=by rw[<-aq,O5]
  have a4:f.dr.length<=12:=by
   have:f.dr.length<=(AH f.h.length).length:=Ez ..;rw[Dj] at this;omega
  by_cases W:E2 f j=[]
  ·have af:f.dr=[]:=Hi.1 (by rw[<-z,W];rfl);have aa:=Ss ([]:S);rw[W,af];refine L ?_;refine A9.u (aa) (λv a1 F=>?_);obtain rfl:=F;refine L ?_;exact⟨_,AQ.b (g:=[.t a.d (a.u f n) 394,.o a.y (AM a.e a.g),.u (HQ a f)]),⟨E,0,0,[],[]⟩,⟨⟨λ_=>A,A,⟨AI 0,Z⟩,AI 0⟩,A,A,A⟩,A,(B1 _).symm⟩
  ·have aa:=Pp t (E2 f j).length N (E2 f j) y A Y;rw[aq] at aa;rw[E1 W,Dw W,Vk];refine L ?_;refine A9.u (aa) (λv a1 F=>?_);obtain rfl:=F;refine L ?_;refine⟨_,AQ.b (g:=[.t a.d (a.u f n) 394,.o a.y (AM a.e a.g),.u (HQ a f),BJ t f.dr y]),⟨C t,0,N,[],y⟩,⟨⟨nofun,A,⟨by rw[<-z];exact x.t,x.u⟩,by rw[<-z];exact QH x.s.symm⟩,A,A,by rw[<-z];exact x.s⟩,by rw[z];rfl,A⟩
 ·obtain⟨q,l,au,ak,av,F⟩:=u.j ah;have a6:Er m.key=q:=by rw[av];rfl
  have a5:JD f q=l.b:=by unfold JD;rw[ak]
  have p:=cX f j m;rw[a6,a5] at p;have ax:(a.e.toList.filter λo=>!(((j++[m]).map (·.born)).contains o.born)).length<(a.e.toList.filter λo=>!((j.map (·.born)).contains o.born)).length:=by
   refine RW _ _ (λbe af=>?_) ah ?_ ?_
   ·simp only[CU,Gi,Bs,K',<-Mp] at af⊢
    exactλam=>af (AT am)
   ·simp only[K',<-Mp,Gi];have ay:=aj.b;rw[CU,ID] at ay
    exactλam=>ay.2.2 _ am _ (CZ.2 A) A
   ·simp
  refine L ?_;refine Cr.u (l:=Fz a q l++(.u (DL a f q)::.o r (Cy (C a.y) a.g (seen.push m.born) a.g)::.t a.d (a.u f n) 394::.o a.y (AM a.e a.g)::BX 3 GA t (E2 f j) y)) ?_ ?_
  ·exact(AQ.u (EE (l₁:=[.o r (Cy (C a.y) a.g (seen.push m.born) a.g),.t a.d (a.u f n) 394,.o a.y (AM a.e a.g)]) (l₂:=BX 3 GA t (E2 f j) y))).t (kC au ak _)
  refine Cr.am A A u.h ah ?_;have bc:a.e.toList.length<=16:=by
   have ag:=AB O4 u.a;rw[BW,BW,u.i] at ag;have bb:=Ez Ix f.h;have:=u.d;omega
  have a4:(E2 f j).length<=j.length:=by
   have ag:=Ez (JD f) (j.map λo=>Er o.key);rwa[BW] at ag
  have aw:(a.e.toList.filter λo=>!(((j++[m]).map (·.born)).contains o.born)).length+(j++[m]).length<=a.e.toList.length:=by
   rw[Ad,JZ];omega
  rw[av,F];refine L ?_;have ar:=kB (xr:=a) au ak;obtain⟨b,ba,a2⟩:=l;cases ba with
  |true=>
   have p:E2 f (j++[m])=E2 f j++[q]:=p;have ai:E2 f j++[q]≠[]:=Y1;refine L ?_;intro a3;refine Cr.z (f:=GA) (n:=_) (a1:=_) A A A A A A A ⟨A,Z⟩ (Cj (l₁:=.t a3 [AD q] 3::(Fz a q ⟨b,R,a2⟩++(.u (DL a f q)::[.o r (Cy (C a.y) a.g (seen.push m.born) a.g),.t a.d (a.u f n) 394,.o a.y (AM a.e a.g)])))) (λl=>W5 l) [q] A A Z x ⟨Y,Z⟩ (λU ap an a8=>?_);refine al (j++[m],seen.push m.born,U,ap,an) ⟨aj,by rw[p];exact a8,aw⟩ ax ⟨A,?_,A,AA⟩ ?_
   ·show _=C (Bm U ap (E2 f (j++[m])));rw[p,E1 ai,Ad];rfl
   ·show AQ _ (.o r (Cy (C a.y) a.g (seen.push m.born) a.g)::([.t a.d (a.u f n) 394,.o a.y (AM a.e a.g),.u (HQ a f)]++BX 3 GA U (E2 f (j++[m])) an));rw[p,Dw ai];refine AQ.t ?_ (AQ.t (ar [.o r (Cy (C a.y) a.g (seen.push m.born) a.g),.t a.d (a.u f n) 394,.o a.y (AM a.e a.g),.t U ((E2 f j++[q]).flatMap GA++an) 3]) ?_)
    ·exact AQ.b
    ·exact AQ.b
  |false=>
   have p:E2 f (j++[m])=E2 f j:=by rw[p];exact B1 _
   refine L ?_;refine al (j++[m],seen.push m.born,t,N,y) ⟨aj,by rw[p];exact x,aw⟩ ax ⟨A,?_,A,AA⟩ ?_
   ·show _=C (Bm t N (E2 f (j++[m])));rw[p];rfl
   ·show AQ _ (.o r (Cy (C a.y) a.g (seen.push m.born) a.g)::([.t a.d (a.u f n) 394,.o a.y (AM a.e a.g),.u (HQ a f)]++BX 3 GA t (E2 f (j++[m])) y));rw[p];exact(ar _).t (AQ.u (EE (l₁:=[BL.o r (Cy (C a.y) a.g (seen.push m.born) a.g),BL.t a.d (a.u f n) 394,BL.o a.y (AM a.e a.g)])).symm)
structure UL(j:AR)(o:K):Prop where
 a:Da j.ah j.aj
 b:El j.ah j.ai
 c:∀l:B,(o.cs.find? λf=>f.1==l)=E->Cu (l:F) j.aj=E
 d:∀(l:B)(f:B×G B),(o.cs.find? λf=>f.1==l)=C f->f.2.length<=64/\(∀p∈f.2,p<256)/\∃n m,f.2.length+m.length<=BP/\Cu (l:F) j.aj=C (Q n f.2.length (f.2.length+m.length))/\AJ n f.2 m∈j.ae
def H0(a:AR)(f:B):G B:=[70,f,128,a.aw,a.ap,a.au,a.ar,a.aq,a.av]
def GV(f:AR)(a:B):G B:=(H0 f a).flatMap λv=>AS v 4
structure Gw(m:B)(l:AR)(a:K):Prop where
 b:CK l a
 e:D0.e m l.b (Bx a)
 g:l.w.e 1 a.ae.length
 j:l.z.c 2 a.bj.length/\(l.z.d=E\/0<a.bj.length)
 s:l.aa.c 2 a.ax.length/\(l.aa.d=E\/0<a.ax.length)
 h:l.ak.e 8 a.ah.length
 d:UL l a
 f:a.bb=GV l a.i/\∀n∈H0 l a.i,n<=100000
def Gw.i(f:Gw l xr n):∀a∈n.bb,a<256:=by
 rw[f.f.1];intro a j;obtain⟨v,_,m⟩:=List.mem_flatMap.1 j;exact H' v 4 a m
def Du(G L:AR):Prop:=∃f o m p q n y u x r B F j l a,L={G with e:=f,v:=o,g:=m,h:=p,t:=q,i:=n,b:=y,ah:=u,aj:=x,ai:=r,ae:=B,w:=F,z:=j,aa:=l,ak:=a}
def Du.b(a:AR):Du a a:=⟨_,_,_,_,_,_,_,_,_,_,_,_,_,_,_,A⟩
def Du.a{a b f:AR}(j:Du a b)(l:Du b f):Du a f:=by
 obtain⟨_,_,_,_,_,_,_,_,_,_,_,_,_,_,_,rfl⟩:=j;obtain⟨_,_,_,_,_,_,_,_,_,_,_,_,_,_,_,rfl⟩:=l;exact⟨_,_,_,_,_,_,_,_,_,_,_,_,_,_,_,A⟩
def EZ.b{a f:AR}(j:EZ a f):Du a f:=by
 obtain⟨_,_,_,_,_,_,rfl⟩:=j;exact⟨_,_,_,_,_,_,_,_,_,_,_,_,_,_,_,A⟩
structure BB(f:B)(b:AR)(j:K)(l:AX):Prop where
 a:K.ad f j
 b:Gw f b j
 c:B2 f l j
def B2.a{a m:B}(r:B2 a yf n)(F:a<=m):B2 m yf n:=by
 obtain⟨x,o,u,t,j,p,q,l,G,f,z,y⟩:=r;exact⟨x,o,u,t,j,p,q,l,Y,f,Y,Y⟩
def D0.e.nC{a m:B}{j:D0}{f:J5}(o:D0.e a j f)(t:a<=m):D0.e m j f:=by
 obtain⟨n,l,q,r,p,u⟩:=o;exact⟨n,l,q,r,p,Y⟩
def Gw.c{a m:B}(l:Gw a xr n)(r:a<=m):Gw m xr n:=by
 obtain⟨q,t,x,o,p,f,u,j⟩:=l;exact⟨q,t.nC r,x,o,p,f,u,j⟩
def BB.d{j m:B}(a:BB j xr n yf)(f:j<=m):BB m xr n yf:=⟨a.a.nE f,a.b.c f,a.c.a f⟩
def Gw.a{o m:B}{p l:AR}(f:Gw o p n)(L:o<=m)(G:EZ p l)(z:CK l r)(a:K.jw n r):Gw m l r:=by
 obtain⟨_,_,_,_,_,_,rfl⟩:=G;refine⟨z,?_,by rw[a.nG];exact f.g,by rw[a.nP];exact f.j,by rw[a.nQ];exact f.s,by rw[a.nB];exact f.h,?_,by rw[a.nC,a.nA];exact f.f⟩
 ·have:=f.e.nC L;have x:Bx r=Bx n:=by unfold Bx;rw[a.nJ,a.nN,a.nM,a.nO]
  rw[x];exact this
 ·obtain⟨q,b,t,u⟩:=f.d;exact⟨q,b,λj y=>t j (by rw[<-a.nL];exact y),λj M F=>u j M (by rw[<-a.nL];exact F)⟩
def BB.e(a:BB l xr n yf):HN l xr n:=⟨a.b.b,a.a.nA.nA.nB.nA.symm,a.a.nB,a.a.nS,a.a.nF.1⟩
def St.c(f:K.ad l n)(m:p<n.g.length):n.g.getD p 0<4294967296:=by
 by_cases j:n.g.getD p 0=0
 ·omega
 ·have:=f.nA.nA.nE p m j;have a:=this.1;rw[f.nC] at a;unfold DE at a;dsimp only at a;omega
def IT{a:G yh}{f:yh}(j:l<a.length):a[l]?=C (a.getD l f):=by
 rw[AY,Aw j];rfl
def St.b(a:K.ad l n)(f:p<n.g.length)(t:n.h.getD p E=E):GP n p:=by
 refine⟨St.c a f,λm=>?_⟩;have q:=a.nA.nA.nE p f m;have o:=q.1;rw[a.nC] at o;have j:=IT (f:=([]:G B)) q.2.1;refine⟨o,_,j,?_,a.nN _ _ _ j,λu r=>?_⟩
 ·rw[a.nA.nA.nD _ _ _ j,a.nB]
 ·have:=a.nP p f u r;unfold K.az at this;rw[t] at this;unfold K.cq K.fi at this;rw[A1 m,a.nB,Nat.mul_comm] at this;exact this
def St.d(a:K.ad l n)(j:p<n.g.length):Gq n p:=by
 intro q o;have m:=K.ga a.nA.nA.nB j;have f:(n.am p).az p=q.a:=by unfold K.az;rw[o]
 rw[m.nB] at f;rw[<-f];exact⟨by rw[K.hp a.nA.nA.nB j,a.nB],K.kj a p⟩
def St.g(f:K.ad l n)(j:p<n.v):∀a,(n.be p).1=C a->a.a<70:=by
 intro a m;rw[(K.hh f j).1] at m;exact(f.nI (f.nA.nA.nC p a j m).1).1
def St.e(f:K.ad l n)(j:p<n.g.length):∀a,n.bo p=C a->a.a<70:=λa m=>(f.nI (K.ms f.nA.nA j m)).1
def St.a(a:K.ad l n)(o:l<=500000000):∀b,b<70->(-1000000000<=(n.b b).c/\(n.b b).c<=1000000000)/\(-1000000000<=(n.b b).f/\(n.b b).f<=1000000000)/\(-1000000000<=(n.b b).d/\(n.b b).d<=1000000000)/\-1000000000<=(n.b b).c+(n.b b).f/\(n.b b).c+(n.b b).f<=1000000000:=by
 intro b _;obtain⟨f,b,j,m⟩:=a.nH b;omega
def WV(a:n.i=8\/n.i=16)(b:B):1<=n.ca b/\n.ca b<=256:=by
 unfold K.ca;split<;>omega
def St.h(a:K.ad l n)(t:l<=500000000)(m:r.j=n.j)(q:r.ab=n.ab)(o:r.i=n.i):∀b,b<70->r.ck b=R->Hs r b:=by
 intro b _ f;have j:r.b b=n.b b:=by unfold K.b;rw[m]
 have p:=(a.nH b).nA;refine⟨?_,WV (by rw[o];exact a.nD) b,by rw[j];omega⟩;unfold K.ck at f;simp only[GK,F1] at f;omega
def St.f(a:K.ad l n)(L:l<=500000000)(F:0<n.au)(x:p<=2):OR l p n:=by
 have r:=a.nA.nA;refine⟨a.nG,λb j=>?_,λV=>?_⟩
 ·have t:b<70:=by
   have:=(match p,x,j with
    |0,_,j=>(r.nA.nC b j).1
    |1,_,j=>(r.nA.nB b j).1
    |2,_,j=>(r.nA.nE b j).1:b<n.j.length)
   rw[a.nC] at this;exact this
  have am:=a.nM;have an:=a.nG;have ao:=(a.nH b).nA;exact⟨t,λaa=>⟨j,t,aa,by show(n.b b).b<=_;omega,by show n.x<=_;omega,by show n.ap+1<=_;omega,a.nB⟩⟩
 ·have G:n.he (n.al p):=λb j=>by
   rcases V with q|⟨f,q,ag⟩
   ·rw[j] at q;cases q
   ·rw[j] at q;cases q;exact ag
  have u:=K.kq r.nA;obtain⟨ah,ai⟩:=K.sm u p G;obtain⟨M,P,W⟩:=K.jy F;have o:(n.ag.bk p E).j=n.j:=by unfold K.bk;split;rfl;split<;>rfl
  have Q:(n.ag.bk p E).ab=n.ab:=by unfold K.bk;split;rfl;split<;>rfl
  have Z:(n.ag.bk p E).i=n.i:=by unfold K.bk;split;rfl;split<;>rfl
  have af:(n.ag.bk p E).x=n.x:=by unfold K.bk;split;rfl;split<;>rfl
  have z:∀b,(n.ag.bk p E).b b=n.b b:=λb=>by unfold K.b;rw[o]
  obtain⟨b,N,y,al⟩:=K.kc ah (p==1) (l:=M) (by rw[o];exact P) (by rw[ai];exact W);have t:b<70:=by rw[o,a.nC] at y;exact y
  refine⟨⟨by rw[o];exact a.nC,by rw[af];exact a.nM,⟨b,N,t,by rw[z];exact(a.nH b).nA⟩,St.h a L o Q Z,λf m=>by rw[z];exact(St.a a L f m).2.2.2⟩,?_⟩;obtain⟨f,m,ap,U⟩:=K.ps u x G (show 0<n.ag.au from F);have S:f<70:=by have:f<n.j.length:=m;rw[a.nC] at this;exact this
  refine⟨f,?_⟩;rw[U];have aj:=a.nM;have ak:=a.nG;refine⟨K.mn x f,S,?_,?_,?_,?_,?_⟩
  ·unfold K.ci;rw[K.rn u m];have Y:=K.ro n.ag p f;have:=(WV (n:=n.ag.bs p f) (by rw[Y];exact a.nD) f).1;omega
  ·rw[K.jp (n:=n.ag) m,A8 A];show 1<=l+1;omega
  ·rw[(K.lb n.ag p f).1];show n.x+1<=l+1;omega
  ·rw[K.ov];show n.ap+1<=l+1;omega
  ·rw[K.rp];exact a.nB
def Kj(m n:B)(p:AR)(j:K)(o:M)(v:M)(l:S):Prop:=∃a f,Du p a/\BB n a j f/\v=o/\l=a.a m j f
def Om(a:K.ad l n)(f:p<n.v):p/32<n.g.length:=by have:=K.gr a.nA.nA.nB f;rw[K.ip a] at this;exact this
def J8(a:K.ad l n)(f:p<n.v):p<n.t+16/\p<=100000:=by unfold K.v at f;have:=a.nF;omega
def iZ(p n j:B)(l:AR)(f:K)(o:AX)(a:BB n l f o)(M:n+10<=500000000)(m:j<f.v):
 Z9 188 [P l.d,N j] (l.a p f o) (Kj p (n+1) l (f.be j).2 (P5 (f.ba j))):=by
 have q:=Om a.a m;have r:=K.hh a.a m;refine A9.z (NR p n j l f o (J8 a.a m).1 (by rw[a.a.nA.nA.nB.nA];exact q) a.e a.c (λF=>St.b a.a q F) (St.d a.a q) Y (J8 a.a m).2) λv L z=>?_;obtain⟨G,u,t,x,y,rfl,rfl⟩:=z;rw[r.1];exact⟨G,u,t.b,⟨r.2.nA,a.b.a Y t x (K.cj (K.kx f j)),y⟩,A,A⟩
def YO(n o l:B)(j:AF)(p:AR)(f:K)(q:AX)(a:BB o p f q)(aa:o+10<=500000000)(m:l<f.v)(u:f.ak j)(M:f.fo l j):
 Z9 357 [P n,N l,H6 j.a j.b] (p.a n f q) (Kj n (o+4) p (f.de l j) (N 0)):=by
 have r:=Om a.a m;obtain⟨y,z,_⟩:=a.a.nI u;refine A9.z (gA n o l j p f q (J8 a.a m).1 (by rw[a.a.nA.nA.nB.nA];exact r) a.e a.c (λU=>St.b a.a r U) (St.d a.a r) Y (J8 a.a m).2 a.a.nC (λb L=>(St.a a.a Y b L).1) y z (St.g a.a m)) λv Z S=>?_;obtain⟨W,x,t,F,G,rfl,rfl⟩:=S;exact⟨W,x,t.b,⟨(K.iy a.a m u M).1,a.b.a Y t F (K.cj (K.ln f l j)),G.a Y⟩,A,A⟩
def AC2(a:K)(j:B):(a.fl j).bu=a.bu:=by
 have f:=K.kx a j;unfold K.fl;obtain⟨l,m⟩:∃l,l=a.be j:=⟨_,A⟩;rw[<-m] at f⊢;obtain⟨o,p⟩:=l;cases o with
 |none=>exact f
 |some n=>dsimp only;rw[K.on];exact f
def AFP(m n l:B)(o:AR)(f:K)(p:AX)(a:BB n o f p)(M:n+10<=500000000)(j:l<f.v):
 Z9 428 [P m,N l] (o.a m f p) (Kj m (n+4) o (f.fl l) (N 0)):=by
 have q:=Om a.a j;refine A9.z (AC3 m n l o f p (J8 a.a j).1 (by rw[a.a.nA.nA.nB.nA];exact q) a.e a.c (λF=>St.b a.a q F) (St.d a.a q) Y (J8 a.a j).2 a.a.nC (λb y=>(St.a a.a Y b y).1) (St.g a.a j)) λv L z=>?_;obtain⟨G,t,r,u,x,rfl,rfl⟩:=z;exact⟨G,t,r.b,⟨(K.xi a.a j).1,a.b.a Y r u (K.cj (AC2 f l)),x.a Y⟩,A,A⟩
def ACK(q o j:B)(l:AR)(a:K)(p:AX)(f:BB o l a p)(G:o+10<=500000000)(r:j<a.g.length):
 Z9 408 [P l.d,N j] (l.a q a p) (λv t=>∃m n,EZ l m/\BB (o+1) m (a.co j) n/\v=N 0/\t=m.a q (a.co j) n):=by
 refine A9.z (ACJ q o j l a p (by rw[f.a.nA.nA.nB.nA];exact r) f.e f.c (λF=>St.b f.a r F) Y) λv t z=>?_;obtain⟨m,n,u,x,y,rfl,rfl⟩:=z;exact⟨m,n,u,⟨(K.na f.a r).nA,f.b.a Y u x (K.cj (K.ju a j)),y⟩,A,A⟩
def X1(t u l:B)(U:l<=2)(n:AR)(j:K)(L:AX)(p:BB u n j L)(av:u+20<=500000000)(aq:j.i*7<j.bc)(a:AN)(af:a.b<256/\a.c<256^4/\a.h<256^8)(r Z m aa:B)(q:G M)(x:AU)(f:G B)(ak:f.length=m)(al:m<=128)(ah:0<m)(ag:∀am∈f,am<256)(aj:(q.drop Z).take m=f.map W):
 Z9 365 [P t,N l,HY a,O (C ⟨r,Z,E⟩) m aa] (.t r q x::n.a t j L) λv F=>∃o,BB (u+3) n (j.af l a f).2 o/\v=AL #[AV (AW (j.af l a f).1).toArray,N 0]/\F=.t r q x::n.a t (j.af l a f).2 o:=by
 have ai:=K.dx (p:=0) p.a Y;have z:=St.f p.a Y ai U;have au:=K.il p.a.nA.nA U ai a f;have ar:(j.af l a f).2.h=j.h:=(AB K.h (K.fw p.a.nA.nA.nA U ai a f).nA:);have y:∀(v:M)(F:S),(∃o,B2 (u+3) o (j.af l a f).2/\v=AL #[AV (AW (j.af l a f).1).toArray,N 0]/\F=.t r q x::n.a t (j.af l a f).2 o)->∃o,BB (u+3) n (j.af l a f).2 o/\v=AL #[AV (AW (j.af l a f).1).toArray,N 0]/\F=.t r q x::n.a t (j.af l a f).2 o:=by
  rintro v F ⟨o,an,ao,ap⟩;exact⟨o,⟨(K.hi p.a U aq af.1 ag Y).nA,p.b.a Y (.a n) (p.b.b.c ar) (K.cj au),an⟩,ao,ap⟩
 match l,U,z,y with
 |0,_,z,y=>exact A9.z (PU 0 (AT A) t u n j L a af r Z m aa q x f ak al ah ag aj p.c Y z) y
 |1,_,z,y=>exact A9.z (PU 1 (Ae (AT A)) t u n j L a af r Z m aa q x f ak al ah ag aj p.c Y z) y
 |2,_,z,y=>exact A9.z (PU 2 (Ae (Ae A)) t u n j L a af r Z m aa q x f ak al ah ag aj p.c Y z) y
def AAm(q F f:B)(m:AR)(j:K)(o:AX)(a:BB F m j o)(aj:F+20<=500000000)(x:j.i*7<j.bc)(z:f<j.g.length):
 Z9 330 [P m.d,N f] (m.a q j o) (λv t=>∃u,BB (F+5) m (j.bt f) u/\v=N 0/\t=m.a q (j.bt f) u):=by
 have L:=K.dx (p:=0) a.a Y;have M:f<j.h.length:=by rw[a.a.nA.nA.nB.nA];exact z
 have U:=(K.mw a.a f x).nA;have S:=K.cj (K.hq a.a.nA.nA f L);cases l:j.h.getD f E with
 |none=>
  have p:j.bt f=j:=by unfold K.bt;rw[l]
  rw[p];refine A9.z (AAj q f m j o M a.b.b l) λv t r=>?_;obtain⟨rfl,rfl⟩:=r;exact⟨o,a.d Y,A,A⟩
 |some n=>
  cases y:n.b with
  |false=>
   have p:j.bt f=j:=by unfold K.bt;rw[l];dsimp only;rw[y];rfl
   rw[p];refine A9.z (AAk q f m j o n M a.b.b l y) λv t r=>?_;obtain⟨rfl,rfl⟩:=r;exact⟨o,a.d Y,A,A⟩
  |true=>
   have p:j.bt f=j.gt f n:=by unfold K.bt;rw[l];dsimp only;rw[y];rfl
   rw[p] at U S⊢;have ai:n.a.length=128:=by
    have:=K.hp a.a.nA.nA.nB z;unfold K.az at this;rw[l,a.a.nB] at this;exact this
   have ah:=K.fw a.a.nA.nA.nA (l:=2) Z L ⟨3,f,0,0,0,0⟩ n.a;have G:=K.hi a.a (p:=2) Z x (ym:=⟨3,f,0,0,0,0⟩) (show 3<256 by decide) (a.a.nQ f n l) Y;obtain⟨W,aa,_⟩:=G.nA.nI ah.nD.1;refine A9.z (AAl q F f m j o n M a.b.b l y ai (a.a.nQ f n l) a.c Y (St.f a.a Y L Z) a.a.nA.nA.nB.nA.symm (St.c a.a z) (St.e a.a z) ⟨G.nA.nC,W,aa,λb x=>(St.a G.nA Y b x).2.2.1⟩) λv t r=>?_;obtain⟨u,af,ag,rfl,rfl⟩:=r;exact⟨u,⟨U,a.b.a Y (.a m) af S,ag.a Y⟩,A,A⟩
def Xo(M q f:B)(U:AR)(a:K)(Z:AX)(j:BB q U a Z)(au:q+10<=500000000)(p:f<a.v):
 Z9 189 [P M,N f] (U.a M a Z) λar af=>∃y z L F,Du U y/\BB (q+2) y (a.dt f).2 z/\(F.drop 0).take 128=(a.dp f).map W/\(a.dp f).length=128/\ar=AL #[Q L 128 128,N 0]/\af=.t L F 5::y.a M (a.dt f).2 z:=by
 have aa:=Om j.a p;obtain⟨r,m⟩:=K.hh j.a p;have ap:(a.dt f).1=a.dp f:=by
  unfold K.dt;obtain⟨l,t⟩:∃l,l=a.be f:=⟨_,A⟩;rw[<-t] at r m⊢;obtain⟨o,n⟩:=l;cases o with
  |none=>exact(K.ja r.symm).symm
  |some u=>
   have S:=(j.a.nA.nA.nC f u p r.symm).1;show(n.ay u).take a.aj=_;rw[K.jb r.symm,(m.nB.nA.nA u S).2]
 have am:(a.dt f).2.bu=a.bu:=by
  have j:=K.kx a f;unfold K.dt;obtain⟨l,t⟩:∃l,l=a.be f:=⟨_,A⟩;rw[<-t] at j⊢;obtain⟨o,n⟩:=l;cases o with
  |none=>exact j
  |some u=>exact j
 have ao:K.ad (q+2) (a.dt f).2:=by
  unfold K.dt;obtain⟨l,t⟩:∃l,l=a.be f:=⟨_,A⟩;rw[<-t] at m⊢;obtain⟨o,n⟩:=l;cases o with
  |none=>exact m.nA.nE Y
  |some u=>exact(K.pf m.nA Y n.bd (n.u+1) n.bv n.aq n.av n.bn (by have x:n.av<=q+1:=m.nA.nX;omega)).nA
 refine A9.z (g2 M q f U a Z (J8 j.a p).1 (by rw[j.a.nA.nA.nB.nA];exact aa) j.e j.c (λx=>St.b j.a aa x) (St.d j.a aa) Y (J8 j.a p).2 (λx an=>?_)) λv af aq=>?_
 ·have S:=(m.nB.nA.nA x (j.a.nA.nA.nC f x p (by rw[<-r];exact an)).1).1;have aj:=IT (f:=([]:G B)) S.2.1;exact⟨(m.nA.nI S).1,_,aj,by rw[m.nA.nA.nA.nD _ _ _ aj,m.nA.nB]⟩
 ·obtain⟨y,z,L,F,ag,ak,al,ah,ai,rfl,rfl⟩:=aq;rw[ap] at ah ai;exact⟨y,z,L,F,ag.b,⟨ao,j.b.a Y ag ak (K.cj am),al⟩,ah,ai,A,A⟩
variable{yn:S}{xv:M->S->Prop}{zb:Call}{xt:AU}
def Cr.ah{o:Oper}{W q b r m N a:B}(al:o.op=.call zb)(af:zb.callee=.builtin .append)(ap:zb.argTypes=#[W,W])(x:D6)(j:G M)
 (aa:DK yc zb.args.toList=C [x.b a,O (C ⟨b,r,E⟩) m N])(ao:xx.c W=C (.slice q))(ah:xx.e q=C yq)(aq:yq.zero=C yb)(ar:(B9 yb).length=yq.size/\0<yq.size)(ax:x.c yq.size a)(L:j.length=a*yq.size)(ay:lg.Perm (.u (A2 (x.a j q))::yn))[ag:Bo yn b er xt]
 (n:G M)(ak:(er.drop r).take (m*yq.size)=n)(aj:n.length=m*yq.size)(Z:n.all B'=R)(aw:0<m)(an:a+m<=1000000000/\yq.bytes<=1000)
 (ai:∀l f u,(D6.mk (C l) 0 f [] u).c yq.size (a+m)->xv (Q l (a+m) f) (.t l (j++n++u) q::yn)):Cr xx o yc lg xv:=by
 refine Cr.u ((AQ.u ay).t (AQ.ac _ _)) ?_;obtain⟨y,a3,au,a4,t⟩:=x;obtain⟨⟨a1,_,F,_⟩,rfl,rfl,am⟩:=ax;dsimp only at F am;cases y with
 |none=>
  have a0:a=0:=a1 A;subst a0;have az:j=[]:=Hi.1 (by rw[L];omega);subst az;have z:DK yc zb.args.toList=C [O E 0 0,O (C ⟨b,r,E⟩) m N]:=aa;refine Cr.ad (j:=yq) al af ap z ao ah aq ar (aq:=ag) n ak aj Z ⟨Y,an.2,aw⟩ (λl f t a2 U p=>?_);have:=ai l f t ⟨⟨nofun,A,⟨by show 0+m<=f;omega,U⟩,by rw[BF];exact QH p.symm⟩,A,A,by rw[BF];exact p⟩;rw[BF] at this;exact this
 |some y=>
  have z:DK yc zb.args.toList=C [Q y a au,O (C ⟨b,r,E⟩) m N]:=aa;refine Cr.y (j:=yq) (c:=yn) (n:=j++t) al af ap z ao ah aq ar (a2:=Lo.g) (a3:=ag) ⟨by rw[Ad,L,am,<-QF];congr 1;omega,F.1,F.2⟩ n ak aj Z an (λl f u a2 U p=>?_);have av:(j++t).take (a*yq.size)=j:=C_ L;rw[av];exact ai l f u ⟨⟨nofun,A,⟨by show a+m<=f;omega,U⟩,QH p.symm⟩,A,A,p⟩
def VW(a:B->S){b:B}(j:b<70)(f:S):AQ (.u (A2 ((AH 70).flatMap a))::f) (a b++(.u (A2 (((AH 70).erase b).flatMap a))::f)):=by
 refine(AQ.ac _ _).t ((AQ.u ((L1 a (Ce.2 j)).append_right _)).t ?_);rw[BS];exact(AQ.aj (a b) _ f).t (AQ.u (EE (l₁:=a b)).symm)
def fQ(l f:B->S){b:B}(t:b<70)(r:∀a,a<70->a≠b->f a=l a)(p:S):AQ (f b++(.u (A2 (((AH 70).erase b).flatMap l))::p)) (.u (A2 ((AH 70).flatMap f))::p):=by
 have q:((AH 70).erase b).flatMap l=((AH 70).erase b).flatMap f:=by
  have x:∀j:G B,(∀a∈j,a<70/\a≠b)->j.flatMap l=j.flatMap f:=λj=>by
   induction j with
   |nil=>intro _;rfl
   |cons m j u=>
    intro o;rw[FE,FE,r m (o m (Bt ..)).1 (o m (Bt ..)).2,u λa n=>o a (By _ n)]
  refine x _ λa n=>?_;have:=(AEJ TU).1 n;exact⟨Ce.1 this.2,this.1⟩
 rw[q];refine(AQ.u (EE (l₁:=f b))).t ((AQ.ac _ _).t ?_);refine AQ.t (AQ.u ?_) (AQ.aa _ _);refine Me ?_ ((L1 f (Ce.2 t)).symm.append_right _);rw[BS];exact QE _ _ _
def EA(l:K)(a b:B):G B:=(AH a).filter λf=>match l.bo f with|some j=>j.a==b|none=>I
def Rf(a:n.bo l=E)(b:B):EA n (l+1) b=EA n l b:=by
 unfold EA;rw[DO,EO];simp[a]
def P9(f:n.bo l=C xq)(b:B):EA n (l+1) b=if b=xq.a then EA n l b++[l] else EA n l b:=by
 unfold EA;rw[DO,EO];by_cases a:b=xq.a
 ·subst a;simp[f]
 ·rw[A1 a];simp[f,Ne.symm a]
def ER(l:K)(j:B)(a:B->B)(f:B->G M)(b:B):S:=BX 3 GA (a b) (EA l j b) (f b)
structure Lr(o:K)(m:B)(l:Ai CO)(n:G (F×M))(r:B)(p j:B->B)(q:B->G M):Prop where
 a:Da l n
 d:El l r
 b:∀f:B,f<70->(Cu (f:F) n).getD (O E 0 0)=Bm (p f) (j f) (EA o m f)
 c:∀f,f<70->DI 1 (EA o m f) (j f) (q f)
def Lr.g(a:K):Lr a 0 #[] [] 0 (λ_=>0) (λ_=>0) (λ_=>[]):=⟨A,El.b,λ_ _=>A,λ_ _=>⟨AI 0,Z,A⟩⟩
def h2(f:K)(a b:B):(EA f a b).length<=a:=by
 have:=Ez (λj=>match f.bo j with|some l=>l.a==b|none=>I) (AH a);rwa[Dj] at this
def N0(m l:B)(a:G yh):∃f j,Bm m l a=O f a.length j:=by cases a<;>exact⟨_,_,A⟩
def Lr.e{m j:B->B}{o:B->G M}(a:Lr n l yp yx p m j o)(q:n.bo l=E):Lr n (l+1) yp yx p m j o:=
 ⟨a.a,a.d,λb f=>by rw[Rf q];exact a.b b f,λb f=>by rw[Rf q];exact a.c b f⟩
def h1(a:B->B)(f:B->G M)(j:n.bo l=E):ER n (l+1) a f=ER n l a f:=by
 funext b;unfold ER;rw[Rf j]
def Lr.f{u j:Ai CO}{o m:B->B}{q:B->G M}(r:Lr n l u yx p o m q)(t:n.bo l=C xq)(y:Da j (DC yx (xq.a:B) (Bm xu yi (EA n l xq.a++[l]))))(f:El j np)(x:DI 1 (EA n l xq.a++[l]) yi er):
 Lr n (l+1) j (DC yx (xq.a:B) (Bm xu yi (EA n l xq.a++[l]))) np (DX o xq.a xu) (DX m xq.a yi) (DX q xq.a er):=by
 refine⟨y,f,λb f=>?_,λb f=>?_⟩
 ·rw[M9,P9 t];by_cases a:b=xq.a
  ·subst a;rw[A8 A,A8 A,G1,G1];rfl
  ·rw[A1 Y,A1 a,Gg _ a,Gg _ a];exact r.b b f
 ·rw[P9 t];by_cases a:b=xq.a
  ·subst a;rw[A8 A,G1,G1];exact x
  ·rw[A1 a,Gg _ a,Gg _ a];exact r.c b f
def L3(a:K)(b:B):AE:=(a.b b).a==2&&!a.ck b
def G9(a:K)(b:B):B:=((AH b).filter (L3 a)).length
def F5(a:K)(b:B):AC B:=(((AH b).filter (L3 a)).filter λb=>!a.cc b).foldl (λ(o:AC B) b=>match o with|none=>C b|some f=>if(a.ep b).length<(a.ep f).length then C b else C f) E
def Vu(a:K)(b:B):G9 a b<=b:=by
 have:=Ez (L3 a) (AH b);rwa[Dj] at this
def RZ{b:B}(a:L3 n b=I):G9 n (b+1)=G9 n b/\F5 n (b+1)=F5 n b:=by
 unfold G9 F5;rw[DO,EO];simp[a]
def R_{b:B}(a:L3 n b=R):G9 n (b+1)=G9 n b+1/\(n.cc b=R->F5 n (b+1)=F5 n b)/\(n.cc b=I->F5 n (b+1)=match F5 n b with|none=>C b|some j=>if(n.ep b).length<(n.ep j).length then C b else C j):=by
 unfold G9 F5;rw[DO,EO];refine⟨by simp[a],λf=>by simp[a,f],λf=>?_⟩;simp only[HG,a,AET,if_true,EO,f,Bool.not_false];rw[KQ];rfl
def NJ(f:K):∀(b j:B),F5 f b=C j->j<b
 |0,j,a=>by cases a
 |b+1,j,a=>by
  cases l:L3 f b with
  |false=>rw[(RZ l).2] at a;have:=NJ f b j a;omega
  |true=>
   cases ho:f.cc b with
   |true=>rw[(R_ l).2.1 ho] at a;have:=NJ f b j a;omega
   |false=>
    rw[(R_ l).2.2 ho] at a;cases m:F5 f b with
    |none=>rw[m] at a;cases a;omega
    |some n=>
     rw[m] at a;have:=NJ f b n m;dsimp only at a;split at a<;>cases a<;>omega
def NK(a:n.g.length=l)(b:B):EA n l b=n.ep b:=by rw[<-a];rfl
def dL(j:D6)(a:G B)(l:B)(p:j.e 1 a.length)(F:a.length<=100000):
 AK 344 [j.b a.length,N l] [.u (A2 (j.a (a.map AD) 3))] (X (a.contains l)):=by
 obtain⟨f,u,o,m,n⟩:=j;obtain⟨q,r,y,z⟩:=p;cases f with
 |none=>
  have:a=[]:=Hi.1 (q A);subst this;exact dJ l _
 |some f=>
  refine A9.w (AQ.ac _ _) (A9.aa (A9.z (V2 f u a.length o a (m++(a.map AD++n)) 3 l A ?_ Y) λv x t=>?_))
  ·rw[List.drop_left' r];exact C_ Y1
  ·obtain⟨rfl,rfl⟩:=t;exact⟨_,AQ.aa [.t f (m++(a.map AD++n)) 3] [],A,A⟩
def Wf(j:q.Nodup)(m:∀a∈q,a<l):q.length<=l:=by
 have n:q.Perm ((AH l).filter λa=>q.contains a):=(AE7 j (List.nodup_range.filter _)).2 λa=>by
  rw[CF,Ce,Gi];exact⟨λf=>⟨m a f,f⟩,λf=>f.2⟩
 rw[n.length_eq];have:=Ez (λa=>q.contains a) (AH l);rwa[Dj] at this
def Nt{l m:Type}(j:m->l->m)(f:G l)(a:B)(p:l)(n:a<f.length)(o:m):(f.take (a+1)).foldl j o=j ((f.take a).foldl j o) (f.getD a p):=by
 rw[TW n,KQ,AY,Aw n];rfl
structure aW where
 a:B
 d:Ai CO
 g:G (F×M)
 e:B
 b:B->B
 f:B->B
 c:B->G M
def AFd{P:Prop}(h:P:=by rw[List.length_map];exact(Nat.mul_one _).symm):P:=h
def gJ(n bd:B)(m:AR)(a:K)(u:AX)(S:BB bd m a u)(et:bd+100<=500000000)(bl:m.w.c 1 a.ae.length):
 Z9 329 [P n] (m.a n a u) (λv c6=>∃az a7,Du m az/\BB (bd+12) az a.fj a7/\c6=az.a n a.fj a7):=by
 obtain⟨W,ah⟩:∃W,a.g.length=W:=⟨_,A⟩;have eo:W<=12:=by rw[<-ah];exact S.a.nJ
 refine A9.t ?_;intro ag;refine L ?_;refine A9.b (PY n m a) ?_;rw[ah];refine L ?_;refine EY.f (m:=aW) (λf=>W-f.a) (λf=>f.a<=W/\Lr a f.a f.d f.g f.e f.b f.f f.c) (λf=>[(0,P n),(2,N 0),(3,N (-1)),(4,Ah (C ag)),(17,N W),(18,N (f.a:B))]) (λf=>.o ag (AM f.d f.e)::.u (A2 ((AH 70).flatMap (ER a f.a f.b f.c)))::m.a n a u) ⟨0,#[],[],0,λ_=>0,λ_=>0,λ_=>[]⟩ ⟨Af _,Lr.g a⟩ ⟨A,A,A,A,A,A,AA⟩ ?_ ?_
 ·have db:A2 ((AH 70).flatMap (ER a 0 (λ_=>0) λ_=>[]))=A2 []:=A;show AQ _ (.o ag (AM #[] 0)::.u (A2 ((AH 70).flatMap (ER a 0 (λ_=>0) λ_=>[])))::m.a n a u);rw[db];exact AQ.t (AQ.b (g:=.o ag (AM #[] 0)::m.a n a u)) ((AQ.aa [] (.o ag (AM #[] 0)::m.a n a u)).t (AQ.u (D3 _ _ _)))
 rintro⟨j,aj,a5,ak,q,a1,x⟩ ⟨cr,U⟩ G;dsimp only at cr U G⊢;refine EY.b (IK.mk (λo=>?_) (λo=>?_))
 ·have o:j<W:=by simp at o;omega
  have aq:=T0 n j m a (by rw[ah];exact o) Y (St.c S.a (by rw[ah];exact o));apply Ms.mk;focus rfl
  refine A9.b (aq) ?_;cases ax:a.bo j with
  |none=>
   have an:Fo a j=AL #[AV #[N 0,N 0],X I]:=by unfold Fo;rw[ax]
   rw[an];intro bt;refine A' ?_;refine F'.mk ((j+1:B):F) Y2 (G ⟨j+1,aj,a5,ak,q,a1,x⟩ ⟨by show j+1<=W;omega,U.e ax⟩ (by show W-(j+1)<W-j;omega) ⟨A,A,A,A,A,A,AA⟩ ?_);show AQ _ (.o ag (AM aj ak)::.u (A2 ((AH 70).flatMap (ER a (j+1) q x)))::m.a n a u);rw[h1 q x ax];exact AQ.b
  |some p=>
   have bj:p.a<70:=St.e S.a (by rw[ah];exact o) p ax;have an:Fo a j=AL #[AV (AW p).toArray,X R]:=by unfold Fo;rw[ax]
   have er:=h2 a j p.a;rw[an];intro bt;refine A7 ?_;refine E7.h (yq:=_) (yb:=_) (yp:=aj) (yi:=ak) (yx:=a5) A A A A A A A U.a (v:=Bm (q p.a) (a1 p.a) (EA a j p.a)) (U.b p.a bj) (L ?_);intro bs;refine L ?_;refine Cr.u (l:=ER a j q x p.a++(.u (A2 (((AH 70).erase p.a).flatMap (ER a j q x)))::.t bs [AD j] 3::.t bt (AW p) 326::.o ag (AM aj ak)::m.a n a u)) ?_ ?_
   ·refine AQ.t (a:=.u (A2 ((AH 70).flatMap (ER a j q x)))::.t bs [AD j] 3::.t bt (AW p) 326::.o ag (AM aj ak)::m.a n a u) AQ.b (VW (ER a j q x) bj _)
   refine Cr.z (f:=GA) (n:=_) (a1:=_) A A A A A A A ⟨A,Z⟩ (Bi _) (λf=>W5 f) [j] A A Z (U.c p.a bj) ⟨Y,Z⟩ (λaf a3 ao du=>?_);have cv:EA a j p.a++[j]≠[]:=Y1;have dx:O (V af) ((EA a j p.a).length+1) a3=Bm af a3 (EA a j p.a++[j]):=by rw[E1 cv,Ad];rfl
   refine L ?_;refine Cr.ae (ak:=a5) (a:=aj) (l:=ak) (v:=Bm af a3 (EA a j p.a++[j])) A A A A A (AB C dx) U.a U.d (λbq b6 dn dg=>?_);refine L ?_;refine F'.mk ((j+1:B):F) Y2 (G ⟨j+1,bq,_,b6,DX q p.a af,DX a1 p.a a3,DX x p.a ao⟩ ⟨by show j+1<=W;omega,U.f ax dn dg du⟩ (by show W-(j+1)<W-j;omega) ⟨A,A,A,A,A,A,AA⟩ ?_);have cm:=fQ (ER a j q x) (ER a (j+1) (DX q p.a af) (DX x p.a ao)) bj (λt _ bf=>by unfold ER;rw[P9 ax,A1 bf,Gg _ bf,Gg _ bf]) (.o ag (AM bq b6)::m.a n a u);have dp:ER a (j+1) (DX q p.a af) (DX x p.a ao) p.a=[.t af ((EA a j p.a++[j]).flatMap GA++ao) 3]:=by
    unfold ER;rw[P9 ax,A8 A,G1,G1,Dw cv]
   rw[dp] at cm;refine AQ.t (AQ.b (g:=.t af ((EA a j p.a++[j]).flatMap GA++ao) 3::.u (A2 (((AH 70).erase p.a).flatMap (ER a j q x)))::.o ag (AM bq b6)::m.a n a u)) (cm.t (AQ.u (D3 _ _ _)))
 ·have o:j=W:=by simp at o;omega
  clear G cr;subst o;refine L ?_;obtain⟨bn,bu⟩:∃bn,bn=BL.u (A2 ((AH 70).flatMap (ER a j q x))):=⟨_,A⟩;rw[<-bu];refine EY.f (m:=B) (λb=>70-b) (λb=>b<=70) (λb=>[(0,P n),(2,N (G9 a b:B)),(3,D1 (F5 a b)),(4,Ah (C ag)),(45,Q m.x 70 70),(46,N 70),(47,N (b:B))]) (λb=>.o ag (AM aj ak)::bn::m.a n a u) 0 (Af _) ⟨A,A,A,A,A,A,A,AA⟩ (.w _) ?_;rintro b dj G;refine EY.b (IK.mk (λo=>?_) (λo=>?_))
  ·have o:b<70:=by simp at o;omega
   have ci:=R5 a o;have ar:L3 a b=((a.b b).a==2&&!a.ck b):=A;have dt:=Vu a b;obtain⟨ay,l,bo,b7,b9,bv⟩:∃ay l bo b7 b9,a.b b=⟨ay,l,bo,b7,b9⟩:=⟨_,_,_,_,_,A⟩;have ck:Ab a b=[N ay,N l,N bo,N b7,N b9,X I]:=by rw[Ab,bv]
   rw[ck] at ci;rw[bv] at ar;dsimp only at ar;clear bv ck;refine A7 ?_;refine Ms.mk ci ?_;intro en;refine A7 ?_;have next:∀d8 ej,G9 a (b+1)=d8->F5 a (b+1)=ej->True:=λ_ _ _ _=>AA
   by_cases be:ay=2
   ·have ei:((ay:F)!=2)=I:=by subst be;rfl
    have bp:(ay==2)=R:=by subst be;rfl
    rw[bp,OJ] at ar;refine L ?_;refine A9.b (Rk n b o m a u) ?_;cases cn:a.ck b with
    |true=>
     rw[cn] at ar;obtain⟨aw,aa⟩:=RZ ar;refine L ?_;refine F'.mk ((b+1:B):F) Y2 (G (b+1) (by show b+1<=70;omega) (by show 70-(b+1)<70-b;omega) ⟨A,by rw[aw];rfl,by rw[aa];rfl,A,A,A,A,AA⟩ AQ.b)
    |false=>
     rw[cn] at ar;obtain⟨aw,aa,bb⟩:=R_ ar;refine L ?_;refine F'.mk ((G9 a b+1:B):F) Y2 (L ?_);refine A9.b (WA n b m a u) ?_;cases cw:a.cc b with
     |true=>
      have aa:=aa cw;refine L ?_;refine F'.mk ((b+1:B):F) Y2 (G (b+1) (by show b+1<=70;omega) (by show 70-(b+1)<70-b;omega) ⟨A,by rw[aw];rfl,by rw[aa];rfl,A,A,A,A,AA⟩ AQ.b)
     |false=>
      have bb:=bb cw;clear aa;obtain⟨a2,aq⟩:∃a2,F5 a b=a2:=⟨_,A⟩;rw[aq] at bb;rw[aq];cases a2 with
      |none=>
       have aa:F5 a (b+1)=C b:=bb;refine L ?_;refine F'.mk ((b+1:B):F) Y2 (G (b+1) (by show b+1<=70;omega) (by show 70-(b+1)<70-b;omega) ⟨A,by rw[aw];rfl,by rw[aa];rfl,A,A,A,A,AA⟩ AQ.b)
      |some ai=>
       have ep:=NJ a b ai aq;have c5:=Aa ((ai:F)<0);have ap:=U.b b o;have br:=U.b ai Y;obtain⟨c7,c9,ca⟩:=N0 (q b) (a1 b) (EA a j b);obtain⟨c8,da,cb⟩:=N0 (q ai) (a1 ai) (EA a j ai);rw[ca,NK ah] at ap;rw[cb,NK ah] at br;refine L ?_;refine E7.h (yq:=_) (yb:=_) (yp:=aj) (yi:=ak) (yx:=a5) A A A A A A A U.a (v:=O c7 (a.ep b).length c9) ap (L ?_);refine E7.h (yq:=_) (yb:=_) (yp:=aj) (yi:=ak) (yx:=a5) A A A A A A A U.a (v:=O c8 (a.ep ai).length da) br ?_;clear ap br ca cb c5;by_cases bc:(a.ep b).length<(a.ep ai).length
       ·have b8:=B7 (((a.ep b).length:F)<((a.ep ai).length:F));have aa:F5 a (b+1)=C b:=by rw[bb];exact A8 bc
        refine L ?_;refine F'.mk ((b+1:B):F) Y2 (G (b+1) (by show b+1<=70;omega) (by show 70-(b+1)<70-b;omega) ⟨A,by rw[aw];rfl,by rw[aa];rfl,A,A,A,A,AA⟩ AQ.b)
       ·have b8:=Aa (((a.ep b).length:F)<((a.ep ai).length:F));have aa:F5 a (b+1)=C ai:=by rw[bb];exact A1 bc
        refine L ?_;refine F'.mk ((b+1:B):F) Y2 (G (b+1) (by show b+1<=70;omega) (by show 70-(b+1)<70-b;omega) ⟨A,by rw[aw];rfl,by rw[aa];rfl,A,A,A,A,AA⟩ AQ.b)
   ·have ei:((ay:F)!=2)=R:=AF1;have bp:(ay==2)=I:=by simp only[Bv];exact be
    rw[bp,a9] at ar;obtain⟨aw,aa⟩:=RZ ar;refine L ?_;refine F'.mk ((b+1:B):F) Y2 (G (b+1) (by show b+1<=70;omega) (by show 70-(b+1)<70-b;omega) ⟨A,by rw[aw];rfl,by rw[aa];rfl,A,A,A,A,AA⟩ AQ.b)
  ·have o:b=70:=by simp at o;omega
   clear G dj;subst o;have z:=K.kd a;have cq:a.ob=F5 a 70:=by unfold K.ob F5;rw[S.a.nC];rfl
   have cp:a.ny=G9 a 70:=by unfold K.ny G9;rw[S.a.nC];rfl
   rw[cq,cp] at z;have dt:=Vu a 70;have c2:=NJ a 70;obtain⟨a2,aq⟩:∃a2,F5 a 70=a2:=⟨_,A⟩;rw[aq] at z c2;refine L ?_;rw[aq];clear aq cq cp;cases a2 with
   |none=>
    have z:a.fj=a:=z;rw[z];refine L ?_;exact⟨_,AQ.b (g:=m.a n a u),m,u,Du.b m,S.d Y,A⟩
   |some r=>
    have c1:=c2 r A;have c5:=Aa ((r:F)<0);have dw:a.jt<=2:=S.a.nA.nG;have eu:=S.a.nD;have ce:=AAU n m a Y (by rw[S.a.nL];have:=S.a.nF;omega) S.a.nB;obtain⟨a6,cx⟩:∃a6,a.jt=a6:=⟨_,A⟩;rw[cx] at ce dw z;rw[ah] at z;clear cx;have dl:(j+a6)/a.i<=j+a6:=Iv _ _;obtain⟨am,bx⟩:∃am,(j+a6)/a.i=am:=⟨_,A⟩;have bl:((j+a6:B):F).tdiv (a.i:F)=(am:F):=by rw[<-bx,Int.ofNat_tdiv]
    rw[bx] at z dl;refine L ?_;refine A9.b (PY n m a) ?_;rw[ah];refine L ?_;refine A9.b ce (L ?_);refine F'.mk ((j+a6:B):F) Y2 (A' ?_);refine F'.mk (am:F) (by rw[bl];exact A3 Y) (L ?_);refine F'.mk ((am+1:B):F) Y2 (L ?_);refine F'.mk ((2*(am+1):B):F) Y4 (L ?_);refine F'.mk ((2*(am+1)+1:B):F) Y4 (L ?_);clear bl bx;by_cases cu:G9 a 70<=2*(am+1)+1
    ·have b8:=B7 (((G9 a 70:B):F)<=((2*(am+1)+1:B):F));have z:a.fj=a:=z.trans (A8 cu);rw[z];refine L ?_;exact⟨_,AQ.b (g:=m.a n a u),m,u,Du.b m,S.d Y,A⟩
    ·have b8:=Aa (((G9 a 70:B):F)<=((2*(am+1)+1:B):F));have z:a.fj=(a.ep r).foldl K.cp a:=z.trans (A1 cu);have ap:=U.b r c1;refine L ?_;by_cases bg:a.ep r=[]
     ·have z:a.fj=a:=by rw[z,bg];rfl
      rw[NK ah,bg] at ap;rw[z];refine E7.h (yq:=_) (yb:=_) (yp:=aj) (yi:=ak) (yx:=a5) A A A A A A A U.a (v:=O E 0 0) ap (L ?_);refine EY.b (L ?_);exact⟨_,AQ.b (g:=m.a n a u),m,u,Du.b m,S.d Y,A⟩
     ·obtain⟨l,cs⟩:∃l,a.ep r=l:=⟨_,A⟩;have dr:=K.oc a r;have bc:=K.od a r;have cj:=Dw (el:=3) (f:=GA) (g:=q r) (i:=x r) bg;rw[NK ah,E1 bg] at ap;have b3:=VW (ER a j q x) c1 (m.a n a u);have cd:ER a j q x r=[.t (q r) (l.map AD++x r) 3]:=by unfold ER;rw[NK ah,cj,Vk,cs]
      rw[cd,<-bu] at b3;rw[cs] at ap bg dr bc z;clear cj cd bu;obtain⟨ba,df⟩:∃ba,ba=BL.u (A2 (((AH 70).erase r).flatMap (ER a j q x))):=⟨_,A⟩;rw[<-df] at b3;refine E7.h (yq:=_) (yb:=_) (yp:=aj) (yi:=ak) (yx:=a5) A A A A A A A U.a (v:=Q (q r) l.length (a1 r)) ap (L ?_);refine EY.f (m:=B×AR×AX) (λf=>l.length-f.1) (λf=>f.1<=l.length/\Du m f.2.1/\BB (bd+f.1) f.2.1 ((l.take f.1).foldl K.cp a) f.2.2/\f.2.1.w.c 1 ((l.take f.1).foldl K.cp a).ae.length) (λf=>[(0,P n),(108,Q (q r) l.length (a1 r)),(109,N (l.length:B)),(110,N (f.1:B))]) (λf=>.t (q r) (l.map AD++x r) 3::ba::f.2.1.a n ((l.take f.1).foldl K.cp a) f.2.2) (0,m,u) ⟨Af _,Du.b m,S,bl⟩ ⟨A,A,A,A,AA⟩ ?_ ?_
      ·show AQ _ (.t (q r) (l.map AD++x r) 3::ba::m.a n a u);refine AQ.t ?_ b3;exact AQ.b
      rintro⟨t,az,a7⟩ ⟨bf,b2,an,b1⟩ G;dsimp only at bf b2 an b1 G⊢;refine EY.b (IK.mk (λo=>?_) (λo=>?_))
      ·have o:t<l.length:=by simp at o;omega
       have av:=Nt K.cp l t 0 o a;obtain⟨M,bh⟩:∃M,(l.take t).foldl K.cp a=M:=⟨_,A⟩;obtain⟨f,b5⟩:∃f,l.getD t 0=f:=⟨_,A⟩;have c4:=H4 (er:=x r) o;rw[bh,b5] at av;rw[b5] at c4;rw[bh] at an b1;have c3:f<M.g.length:=by
        have be:f∈l:=by rw[<-b5,AY,Aw o];exact Gk _
        have dd:=bc f be;have cc:=K.oa (l.take t) S.a (λek d0=>bc ek (EW d0));rw[bh] at cc;rw[cc.nB.nC];exact dd
       rw[bh];have cg:=ACK n (bd+t) f az M a7 an Y c3;refine A7 ?_;refine Ms.mk (v:=AD f) c4 (L ?_);refine A9.u cg ?_;rintro v em ⟨al,a8,cy,a4,rfl,rfl⟩;have cz:al.w=az.w:=by obtain⟨_,_,_,_,_,_,rfl⟩:=cy;rfl
       have c0:(M.co f).ae=M.ae:=(AB K.ae (K.ju M f):);have bi:al.w.c 1 (M.co f).ae.length:=by rw[cz,c0];exact b1
       have co:=b2.a cy.b;have au:M.cp f=if(M.co f).ae.contains f then M.co f else(M.co f).dv ((M.co f).ae++[f]):=A
       have b4:=(K.nz an.a c3).nA;obtain⟨y,ch⟩:∃y,M.co f=y:=⟨_,A⟩;rw[ch] at a4 bi au;rw[ch];have es:=Wf a4.a.nO.1 a4.a.nO.2;have eq:=a4.a.nJ;have de:=dL al.w y.ae f bi.nA Y;clear cg c0 cz;refine L ?_;refine A9.b de ?_;cases cl:y.ae.contains f with
       |true=>
        rw[cl] at au;have au:M.cp f=y:=au;rw[au] at b4 av;refine L ?_;refine F'.mk ((t+1:B):F) Y2 (G (t+1,al,a8) ⟨by show t+1<=l.length;omega,co,?_,?_⟩ (by show l.length-(t+1)<l.length-t;omega) ⟨A,A,A,A,AA⟩ ?_)
        ·show BB _ al ((l.take (t+1)).foldl K.cp a) a8;rw[av];exact a4
        ·show al.w.c 1 ((l.take (t+1)).foldl K.cp a).ae.length;rw[av];exact bi
        ·show AQ _ (.t (q r) (l.map AD++x r) 3::ba::al.a n ((l.take (t+1)).foldl K.cp a) a8);rw[av];exact AQ.b
       |false=>
        rw[cl] at au;have au:M.cp f=y.dv (y.ae++[f]):=au;rw[au] at b4 av;have ct:y.ae.length+1=(y.ae++[f]).length:=Y1;have ds:y.ae.map AD++[AD f]=(y.ae++[f]).map AD:=Y1;refine L ?_;intro bs;refine Cr.ah (yq:=_) (yb:=_) A A A al.w (y.ae.map AD) A A A A ⟨A,Z⟩ bi AFd (Gt.t (x:=.u (A2 (al.w.a (y.ae.map AD) 3))) Y0) [AD f] A A A Z ⟨Y,Z⟩ (λaf a3 ao bk=>?_);have bk:(D6.mk (C af) 0 a3 [] ao).c 1 (y.ae++[f]).length:=by rw[<-ct];exact bk
        rw[ct,ds];refine A' ?_;refine F'.mk ((t+1:B):F) Y2 ?_;obtain⟨a0,bm⟩:∃a0,a0={al with w:=D6.mk (C af) 0 a3 [] ao}:=⟨_,A⟩;have dq:Du al a0:=by rw[bm];exact⟨_,_,_,_,_,_,_,_,_,_,_,_,_,_,_,A⟩
        have dv:Gw (bd+t+1) a0 (y.dv (y.ae++[f])):=by
         obtain⟨⟨d1,d2,d3,d4,d5,d6,d7⟩,d9,ev,ea,eb,ec,⟨ee,ef,eg,eh⟩,ed⟩:=a4.b;rw[bm];exact⟨⟨d1,d2,d3,d4,d5,d6,d7⟩,d9,bk.nA,ea,eb,ec,⟨ee,ef,eg,eh⟩,ed⟩
        refine G (t+1,a0,a8) ⟨by show t+1<=l.length;omega,co.a dq,?_,?_⟩ (by show l.length-(t+1)<l.length-t;omega) ⟨A,A,A,A,AA⟩ ?_
        ·show BB _ a0 ((l.take (t+1)).foldl K.cp a) a8;rw[av];exact⟨b4,dv,a4.c⟩
        ·show a0.w.c 1 ((l.take (t+1)).foldl K.cp a).ae.length;rw[av,bm];exact bk
        ·show AQ _ (.t (q r) (l.map AD++x r) 3::ba::a0.a n ((l.take (t+1)).foldl K.cp a) a8);rw[av,bm];refine AQ.t (AQ.u (Gt.t (x:=.t af ((y.ae++[f]).map AD++ao) 3) Y0)) ((AQ.aa [.t af ((y.ae++[f]).map AD++ao) 3] _).t ?_);exact AQ.b
      ·have o:t=l.length:=by simp at o;omega
       clear G;subst o;rw[LZ] at an⊢;rw[z];refine L ?_;exact⟨_,AQ.b (g:=az.a n (l.foldl K.cp a) a7),az,a7,b2,an.d Y,A⟩
def D6.e.nA{a:D6}(m:a.e l p):∃j n,a.b p=O j p n:=by
 obtain⟨f,q,o,r,t⟩:=a;cases f with
 |none=>have:=m.nB A;subst this;exact⟨_,_,A⟩
 |some f=>exact⟨_,_,A⟩
def cR(l:B)(a:AR)(f:K)(p:CK a f)(q:f.h.length<=12):
 Z9 328 [P a.d] [.t a.d (a.u f l) 394,.o a.y (AM a.e a.g),.u (HQ a f)]
  λv m=>∃j:D6,j.c 1 f.dr.length/\v=j.b f.dr.length/\m=[.u (A2 (j.a (f.dr.map AD) 3)),.t a.d (a.u f l) 394,.o a.y (AM a.e a.g),.u (HQ a f)]:=by
 refine A9.aa (A9.z (cS l a f p q) ?_);rintro v m ⟨j,n,o,rfl⟩;exact⟨_,(AQ.u Cj).t (AQ.aa (j.a (f.dr.map AD) 3) _),j,n,o,A⟩
def Pr(j l:B)(m:AR)(a:K)(q:AX)(f:BB l m a q)(U:l+100<=500000000):
 Z9 255 [P j] (m.a j a q) (λv y=>∃n o,Du m n/\BB (l+12) n a.ce o/\y=n.a j a.ce o):=by
 have G:=cR j m a f.b.b (by rw[f.a.nA.nA.nB.nA];exact f.a.nJ);refine A9.t ?_;refine A7 ?_;refine A9.u G ?_;rintro v z ⟨x,u,rfl,rfl⟩;obtain⟨p,r⟩:∃p,p={m with w:=x}:=⟨_,A⟩;have S:Du m p:=by rw[r];exact⟨_,_,_,_,_,_,_,_,_,_,_,_,_,_,_,A⟩
 have W:=(K.jk f.a (AI l) (l:=a.ap) (o:=(a.bh,a.bg)) (q:=a.dr) (p:=0) (np:=0) f.a.nG ⟨λb t=>by have:=(f.a.nA.nA.nA.nC b t).1;rw[f.a.nC] at this;exact this,λb t=>by have:=(f.a.nA.nA.nA.nB b t).1;rw[f.a.nC] at this;exact this⟩ (K.nn f.a) Y Y).nA;have aa:BB l p (a.ii a.ap (a.bh,a.bg) a.dr 0 0) q:=by
  refine⟨W,?_,f.c⟩;obtain⟨⟨af,ag,ah,ai,aj,ak,al⟩,am,ay,an,ao,ap,⟨ar,au,av,aw⟩,aq⟩:=f.b;rw[r];exact⟨⟨af,ag,ah,ai,aj,ak,al⟩,am,u.nA,an,ao,ap,⟨ar,au,av,aw⟩,aq⟩
 have M:=gJ j l p _ q aa U (by rw[r];exact u);obtain⟨F,az,ax,a0,a1⟩:=x;subst r;cases F;all_goals
  refine A7 ?_;refine A9.u M ?_;rintro v z ⟨n,o,N,Z,rfl⟩;rw[K.kl];refine L ?_;exact⟨_,AQ.b (g:=n.a j _ o),n,o,S.a N,Z,A⟩
section
open Go Go.RowKit Go.Shelf
attribute[local go_sem] Oper.semAt_some
def Od(b l j a f:B):M:=O (C ⟨b,l+a*f,E⟩) (Bj a (j-a*f)) (Bj a (j-a*f))
def cZ(Z:B)(bi:1<=Z)(ar r o z b L f x j m:B)(bk:1<=j)(bh:f<=j*m)(a8:∀a,a<m->j*a<f)(bg:f<=1000000)(bj:j<=1000000)(bf:f<=x)(bd:x<=BP)(t ag:G B->AG->Prop)
 (a2:r<z)(aj:o<z)
 (l:AG)(a3:AbidesFrom l.heap.size t)
 (a7:∀q aa l,t q l->q.length<m->YieldAt Fence.wide (Z-1) An ar #[Od b L f j aa] l λp u=>
  (p=BT (X R)/\t (q++[aa]) u/\Bq z l u)\/(p=BT (X I)/\ag (q++[aa]) u))
 (a1:l.cell? ⟨r,0,E⟩=C (O (C ⟨b,L,E⟩) f x))(a0:l.cell? ⟨o,0,E⟩=C (N (j:F)))(az:t [] l):
 Jg Fence.wide Z An 487 #[BZ (.yield ar) #[] #[],P r,P o] l λp u=>(∃v,p=BT v)/\
  ((∃au,au=AH m/\t au u)\/(∃q,(∃a,a<=m/\q=AH a)/\ag q u)):=by
 refine M_ ADU A AA ?_ A;simp only[Tryz.ntmps487,KV,C8,FV,KX,KY,Jc,Jd,KT,JY,Bz,DU];gi_wp2;gi_loopw [4] (λW wr=>∃a n:B,a<=m/\n=j*a/\W=N (n:F)/\t (AH a) wr/\Bq z l wr)
  (λW _=>f+j-(Cc W).toNat)
 case atStart=>exact⟨0,0,Af _,Y1,A,az,DT _ _⟩
 case round=>
  obtain⟨a,n,be,U,rfl,al,S⟩:=hrel;have ah:wr.cell? ⟨r,0,E⟩=C (O (C ⟨b,L,E⟩) f x):=(S.cell (p:=⟨r,0,E⟩) a2).trans a1;have ai:wr.cell? ⟨o,0,E⟩=C (N (j:F)):=(S.cell (p:=⟨o,0,E⟩) aj).trans a0;by_cases an:a<m
  ·have a9:=a8 a an;rw[<-U] at a9;obtain⟨y,aq⟩:∃y,y=Bj j (f-n):=⟨_,A⟩;have bb:(n:F)<(f:F):=Y;have av:JW ((if f-n<j then((f-n:B):F) else(j:F))=(y:F)):=Ap (by split<;>omega);have bn:n+y<=f:=Y;have bo:1<=y:=Y;have af:=Ap U;have aw:=Ap aq;clear U aq;gi_wp2;gi_quiet (fail);have ak:=a3 (AH a) wr (wr.drewN nq) E al ⟨A,A,A,AI _,λ_ _ _=>A⟩ (λbl p=>by cases p);have ao:=cA S nq;have ay:(wr.drewN nq).cell? ⟨r,0,E⟩=C (O (C ⟨b,L,E⟩) f x):=ah;have M:(wr.drewN nq).cell? ⟨o,0,E⟩=C (N (j:F)):=ai;rw[av.out];generalize wr.drewN nq=ba at ak ao ay M⊢;clear ah ai;obtain⟨bc,bm,assign,body,ap,a6⟩:=a7 _ a ba ak (by rw[Dj];exact an);unfold Od at ap;rw[<-af.out,<-aw.out] at ap;gi_wp2;refine a6.mono ?_;rintro p ax (⟨rfl,a4,am⟩|⟨rfl,a5⟩)
   ·have M:ax.cell? ⟨o,0,E⟩=C (D H (j:F)):=(am.cell (p:=⟨o,0,E⟩) aj).trans M;gi_wp2;go_roundw
    case rel=>exact⟨a+1,n+j,Y,by rw[af.out,Nat.mul_succ],Y1,by rw[DO];exact a4,ao.trans am⟩
    case measure=>simp[Cc];omega
   ·gi_wp2;exact Q4 (results_none A _ _ _) A (⟨⟨_,A⟩,Ae ⟨_,⟨a+1,Y,List.range_succ.symm⟩,a5⟩⟩)
  ·obtain rfl:a=m:=Y;have bb:¬(n:F)<(f:F):=Y;gi_wp2;go_end0;exact⟨⟨_,A⟩,AT al⟩
end
section
open Go Go.RowKit Go.Shelf
attribute[local go_sem] Oper.semAt_some
def Tryz.b:(Tryz.prog.info? 31).map (λa=>(a.zero,a.size,a.bytes))=C (C (O E 0 0),1,24):=Y3
def bW(r:Fence)(F:B)(an:r.fn 486)(aa:r.round=E)(bd:2<=F)(n:B)(y:Ai M)(ap:r.fn n)(ak:∀args f,(Ey n args).run An f=.ok (.enter n args) f)(p:B->CW)(q l:B->B)(m:B)(bb:m<=1000000)(f:AG)(ah:G B->Prop)
 (ay:TF r (F-1) An n y (λa:B=>#[O (C (p a)) (q a) (l a)]) (Bq f.heap.size) (λag=>ag=AH m) ah m f):
 Jg r F An 486 #[O E 0 0,BZ (CA n) #[] y] f λaj N=>∃v,aj=BT v/\N.ownsRow f.heap.size 31 1 v m ((AH m).map (λa=>O (C (p a)) (q a) (l a)))/\Bq f.heap.size f N:=by
 have am:1<=F:=Y;have bc:BP=9223372036854775807:=A;obtain⟨a3,au,a0,a1,a2⟩:=info_parts Tryz.b;refine callsIn_of_wp_marks Tryz.func486 A an ?_ aa;simp only[Tryz.ntmps486,KV,C8,FV,KX,KY,Jc,Jd,KT,JY,Bz,DU];gi_wp2;have ai:=Boxed.new f 46 (O E 0 0);have S:Bq f.heap.size f (f.alloc (.cells #[O E 0 0] 46)):=(DT _ f).alloc (AI _) _;refine wpIn_rangeFunc_ownG aa am (gf:=n) (lb:=y) A ap ak ay belowK_t (belowK_b Y1) S (λ_=>A)
  (λ(o:G B) j=>(∃v,Boxed j f.heap.size 46 v/\j.ownsRow f.heap.size 31 1 v o.length (o.map (λa=>O (C (p a)) (q a) (l a)))/\True)/\Bq f.heap.size f j)
  (λ_ _ _=>False)
  (OwnFrom.and (Own.from (holdsRow_own f.heap.size f.heap.size 46 31 1 (λo:G B=>o.length) (λo=>o.map (λa=>O (C (p a)) (q a) (l a))) (λ_ _=>True)) _) (ownFrom_below (AI _) Y1))
  (λ_ _ _ _ _ ax _ _=>ax)
  ⟨⟨_,ai,World.ownsRow_nil _ _ _ _,AA⟩,S⟩
  (λa=>{tmps:=#[O E 0 0,BZ (CA n) #[] y,P f.heap.size,Cw,O E 0 0,(O (C (p a)) (q a) (l a)),BZ (CA n) #[] y,(O (C (p a)) (q a) (l a)),Cw,Cw,Cw,Cw,Cw],defers:=[]}) ?assign ?body ?done ?stop
 case assign=>
  intro a4 a j l u;gi_wp2;exact u
 case body=>
  rintro a4 o a j ⟨⟨v,z,x,-⟩,t⟩ ba;have aq:=z.cell;gi_wp2_with (gi_at_builtin;refine wpListIn_append_own _ A _ _ 46 A f.heap.size 31 a3 (O E 0 0) 1 24 Tryz.underlying46 au a0 a1 a2 A Z _ _ _ A (x.alloc _) ⟨j.heap.size,0,E⟩ 1 1 [O (C (p a)) (q a) (l a)] A A (cell_one_new _ _ _) (by simp[Value.oneCell']) Y Y (by have:=t.size;simp;omega) ?_;intro be bf W ar _;obtain⟨a7,a6,rfl⟩:=ownsRow_succ W;obtain⟨af,az,aw,av,U⟩:=z.appended Z x t.size (AI _) W ar;have a8:=af.cell;have a9:=af.frozen);exact⟨av.from _,U,⟨_,az,by simpa using aw,AA⟩,t.trans U⟩
 case done=>
  rintro L ag j ao rfl ⟨⟨v,z,x,-⟩,t⟩ u;have aq:=z.cell;gi_wp2;refine⟨Y1,AT ⟨_,_,A,run_takeDeferred u,?_⟩⟩;rw[Dj] at x;exact⟨_,results_tmp A _ _ _,v,A,ownsRow_putObj x _ u A,t.trans (belowK_b (w:=f) (AI _) j L _ _ (by simp at ao;omega) u A A)⟩
 case stop=>
  rintro L a5 o j _ _ al _;exact al.elim
def d5(f:Fence)(n:B)(F:f.fn 411)(L:f.fn 486)(y:f.round=E)(ag:3<=n)(l:B)(r:Ai M)(N:f.fn l)(z:∀args a,(Ey l args).run An a=.ok (.enter l args) a)(o:B->CW)(q p:B->B)(m:B)(U:m<=1000000)(a:AG)(t:G B->Prop)
 (Z:TF f (n-1-1) An l r (λj:B=>#[O (C (o j)) (q j) (p j)]) (Bq a.heap.size) (λaa=>aa=AH m) t m a):
 Jg f n An 411 #[BZ (CA l) #[] r] a λx u=>∃v,x=BT v/\u.ownsRow a.heap.size 31 1 v m ((AH m).map (λj=>O (C (o j)) (q j) (p j)))/\Bq a.heap.size a u:=by
 have af:1<=n:=Y;refine M_ Tryz.func411 A F ?_ y;simp only[Tryz.ntmps411,KV,C8,FV,KX,KY,Jc,Jd,KT,JY,Bz,DU];gi_wp2_with (gi_at_call 486;refine(bW f (n-1) L y Y l r N z o q p m U a t Z).mono ?_;rintro x w' ⟨v,rfl,W,S⟩);go_ret;exact⟨v,A,W,S⟩
end
section
open Go.Shelf
def c_(m:AC CW)(o n j:B)(q:1<=j)(l:S):Z9 412 [O m o n,N j] l λv p=>∃a f,v=BZ (CA 487) #[] #[P a,P f]/\p=.t f [N j] 3::.t a [O m o n] 31::l:=by
 have r:=Aa ((j:F)<1);refine A9.y ?_;intro a f;refine L ?_;exact⟨a,f,A,A⟩
def V0(o p b l f n a m:B)(q r:AU)(an:1<=a)(ak:f<=a*m)(al:∀j,j<m->a*j<f)(aj:f<=1000000)(am:a<=1000000)(ai:f<=n)(ah:n<=BP)(G:0<m/\m<=1000000):
 Z9 411 [BZ (CA 487) #[] #[P o,P p]] [.t p [N a] r,.t o [O (C ⟨b,l,E⟩) f n] q] λv W=>∃t u z,v=Q t m u/\W=[.t t ((AH m).map (Od b l f a)++z) 31,.t p [N a] r,.t o [O (C ⟨b,l,E⟩) f n] q]:=by
 refine A9.am (p:=31) (m:=m) (er:=(AH m).map (Od b l f a)) G.1 Y1 (λaq ax M L=>?_) (λt u z ar au av=>⟨t,u,z,A,A⟩);have x:BU M o #[O (C ⟨b,l,E⟩) f n] q:=BA.h (a:=[.t p [N a] r,.t o [O (C ⟨b,l,E⟩) f n] q]) L;have y:BU M p #[N a] r:=BA.h (a:=[.t p [N a] r,.t o [O (C ⟨b,l,E⟩) f n] q]) L;refine(callsIn_wide (n:=5)).1 (d5 Fence.wide 5 AA AA A Y _ _ AA (enters_of ADU Y3 A) (λj=>⟨b,l+a*j,E⟩) (λj=>Bj a (f-a*j)) (λj=>Bj a (f-a*j)) m G.2 _ (λap=>∃j,j<=m/\ap=AH j) ?_);intro ao S U Z F af aw ag aa;exact cZ 3 Y ao o p _ b l f n a m an ak al aj am ai ah S U x.b y.b Z af ag ((F.cell (p:=⟨_,0,E⟩) x.b).trans (by rw[x.e];rfl)) ((F.cell (p:=⟨_,0,E⟩) y.b).trans (by rw[y.e];rfl)) aa
end
def AAS(a:K.ad l n):n.cd=([(n.af 2 ⟨4,0,0,0,0,0⟩ (n.cl++n.ac)).1],(n.af 2 ⟨4,0,0,0,0,0⟩ (n.cl++n.ac)).2.ai (n.af 2 ⟨4,0,0,0,0,0⟩ (n.cl++n.ac)).1):=by
 have j:(n.cl++n.ac).length<=128/\0<(n.cl++n.ac).length:=by
  rw[Ad,K.ka,a.nL];have:=a.nJ;have:=a.nF;omega
 have f:K.gg n.aj (n.cl++n.ac)=[n.cl++n.ac]:=by
  unfold K.gg;rw[a.nB,show((n.cl++n.ac).length+128-1)/128=1 by omega];show[((n.cl++n.ac).drop (128*0)).take 128]=_;rw[show 128*0=0 from A,CJ,DP j.1]
 rw[K.lk,f];rfl
def AAT(o u:B)(m:AR)(a:K)(y:AX)(n:BB u m a y)(bp:u+100<=500000000)(a1:a.i*7+2<=a.bc):
 Z9 331 [P o] (m.a o a y) (λv au=>∃p ah U ak aq,a.cd.1=[ah]/\a.cd.2.ak ah/\(D6.mk (C U) 0 ak [] aq).c 2 1/\BB (u+4) m a.cd.2 p/\v=AL #[Q U 1 ak,N 0]/\au=.t U (AW ah++aq) 326::m.a o a.cd.2 p):=by
 have r:=AAS n.a;obtain⟨G,ag,_⟩:=K.mv n.a a1;have az:=dZ o m a (by have:=n.a.nJ;omega) (by rw[n.a.nU];omega);have af:=K.ka a;have bl:=n.a.nJ;have bm:=n.a.nL;have br:=n.a.nF;have a4:=K.nr a;have a5:=n.a.nT;obtain⟨f,q⟩:∃f,a.cl++a.ac=f:=⟨_,A⟩;have bh:f.length=8+4*a.g.length+a.ac.length:=by rw[<-q,Ad,af]
 have ay:∀z∈f,z<256:=by rw[<-q];intro z a2;rcases Bs.1 a2 with ai|ai;exact a4 z ai;exact a5 z ai
 rw[q] at r;have bi:a.cl.map W++a.ac.map W=f.map W:=by rw[<-CU,q]
 refine A9.t ?_;refine L ?_;refine A9.u az ?_;rintro v S ⟨am,rfl,rfl⟩;refine L ?_;refine Cr.v (g:=am) (f:=a.cl) (h:=[]) (t:=a.ac.map W++[]) A A A A ⟨af,by rw[af];rfl⟩ (Gt.t (x:=AJ am a.cl []) Y0) a.ac (by rw[B1,CJ];exact DP (by rw[BW];exact AI _)) A ⟨AF2,Y⟩ (λF x bt=>?_);rw[q];have bg:f.length<=128/\0<f.length:=Y;have a3:f.length+x.length<=BP:=Y;have bj:=V0;refine L ?_;refine A9.z (c_ (V F) f.length (f.length+x.length) 128 Z _) ?_;rintro v S ⟨aw,ax,rfl,rfl⟩;refine L ?_;refine A9.u (V0 aw ax F 0 f.length (f.length+x.length) 128 1 31 3 Z Y (λbs bo=>Y) Y Z Y a3 Z) ?_;rintro v S ⟨bd,bc,bu,rfl,rfl⟩;refine L ?_;refine EY.b (A7 ?_);have ao:Bj 128 (f.length-128*0)=f.length:=Y;have aa:=X1 o u 2 Z m a y n Y Y ⟨4,0,0,0,0,0⟩ ⟨Z,Z,Z⟩ F (0+128*0) (Bj 128 (f.length-128*0)) (Bj 128 (f.length-128*0)) (f.map W++x) 5 f ao.symm Y Y ay (by rw[ao];exact C_ Y1);obtain⟨aj,a6⟩:∃aj,a.af 2 ⟨4,0,0,0,0,0⟩ f=aj:=⟨_,A⟩;rw[a6] at aa r;obtain⟨j,l⟩:=aj;rw[r] at G ag;dsimp only at aa r G ag;rw[r];have an:=ag j (CZ.2 A);refine A9.w (a:=[]++(.t F (f.map W++x) 5::m.a o a y)) AQ.b (A9.ac aa ?_);rintro v S ⟨p,t,rfl,rfl⟩;have M:j.a<70:=(G.nA.nI an).1;have a0:CX (AZ (Ab l) 70) (0+j.a*6+3) 1 I=C (N (l.b j.a).d):=by
  show(AZ (Ab l) 70)[0+j.a*6+3]?=_;rw[BF,FJ l M Y];rfl
 have bk:(AZ (Ab l) 70).length=420:=Db (EH l) 70;have a7:=GU l (l.ai j) M (j:=3) Y (N ((l.b j.a).d+1)) λa9 bn=>Mz l j (by rw[t.a.nC];exact M) a9;have bq:=(St.a t.a Y j.a M).2.2.1;refine L ?_;intro bf;refine A7 ?_;refine Ms.mk a0 (F'.mk ((l.b j.a).d+1) (A3 Y) (A' ?_));intro be;refine Cr.ad (j:=_) (N:=_) A A A A A A A ⟨A,Z⟩ (AW j) A A A ⟨Z,Z,Z⟩ (λal av ar ba bb ap=>?_);refine L ?_;refine F'.mk 1 A (EY.b (L ?_));have a8:BB (u+4) m (l.ai j) p:=⟨G.nA,t.b.a Y (.a m) (t.b.b.c A) (K.cj A),t.c.a Y⟩;refine⟨.t al (AW j++ar) 326::m.a o (l.ai j) p,?_,p,j,al,av,ar,A,an,⟨⟨nofun,A,⟨ba,bb⟩,QH ap.symm⟩,A,A,ap⟩,a8,A,A⟩;show AQ _ (_::_::.t m.x (AZ (Ab (l.ai j)) 70) _::_);rw[<-a7];exact AQ.b
def MI(a:B):G M:=(AH 9).map λf=>T (C ⟨a,f,E⟩)
def lB(f a:B)(j:a<9):(MI f)[0+a*1]?=C (T (C ⟨f,a,E⟩)):=by
 rw[BF,B3,MI,D_,List.getElem?_range j];rfl
def jK(a:B)(l:G M)(j:AU):Z9 491 [P a] [.t a l j] λv m=>∃f,v=Q f 9 9/\m=[.t f (MI a) 434,.t a l j]:=by
 refine A9.y ?_;intro f;refine L ?_;exact⟨f,A,A⟩
def EQ(f:G B)(a:B):G B:=(f.take a).flatMap λv=>AS v 4
def VF(a:l<q.length):EQ q (l+1)=EQ q l++AS (q.getD l 0) 4:=by
 unfold EQ;rw[TW a,KP,AY,Aw a];simp
def RM(f:l<=q.length):(EQ q l).length=4*l:=by
 induction l with
 |zero=>rfl
 |succ l a=>rw[VF Y,Ad,a Y,BK];omega
def AQ.aq(a b f:BL)(j:S):(a::b::f::j).Perm (j++[a,b,f]):=Cj (l₁:=[a,b,f])
def Vw(f:G B)(av:f.length=9)(ap:∀v∈f,v<=100000):Z9 417 [AV (f.map AD).toArray] [] λv ah=>∃q p,36+p.length<=BP/\v=Q q 36 (36+p.length)/\ah=[AJ q (f.flatMap λv=>AS v 4) p]:=by
 refine A9.t ?_;intro m;refine L ?_;refine A9.u (jK m (f.map AD) 27) ?_;rintro v ar ⟨t,rfl,rfl⟩;refine L ?_;refine EY.f (m:=B×B×G M) (λa=>9-a.1) (λa=>a.1<=9/\(EQ f a.1).length+a.2.2.length<=BP) (λa=>[(1,P m),(3,Gx a.2.1 (EQ f a.1) a.2.2),(7,Q t 9 9),(8,N 9),(9,N (a.1:B))]) (λa=>.t t (MI m) 434::.t m (f.map AD) 27::Fu a.2.1 (EQ f a.1) a.2.2) (0,0,[]) ⟨Af _,by show(EQ f 0).length+([]:G M).length<=BP;rw[RM (Af _)];decide⟩ ⟨A,A,A,A,A,AA⟩ (.w _) ?_;rintro⟨j,q,p⟩ ⟨am,aa⟩ af;dsimp only at am aa af⊢;refine EY.b (IK.mk (λo=>?_) (λo=>?_))
 ·have o:j<9:=by simp at o;omega
  have au:=RM (q:=f) (l:=j) Y;have u:=VF (q:=f) (l:=j) Y;obtain⟨a,z⟩:∃a,f.getD j 0=a:=⟨_,A⟩;have aq:(f.map AD)[j]?=C (AD a):=by
   rw[D_,<-z,AY,Aw (show j<f.length by omega)];rfl
  have ay:a<=100000:=ap a (by rw[<-z,AY,Aw (show j<f.length by omega)];exact Gk _);rw[z] at u;refine A7 ?_;refine Ms.mk (v:=T (C ⟨m,j,E⟩)) (lB m j o) (L ?_);refine EY.f (m:=B×B×G M) (λa=>4-a.1) (λn=>n.1<=4/\(EQ f j++AS a n.1).length+n.2.2.length<=BP) (λn=>[(1,P m),(3,Gx n.2.1 (EQ f j++AS a n.1) n.2.2),(5,T (C ⟨m,j,E⟩)),(7,Q t 9 9),(8,N 9),(9,N (j:B)),(13,N (n.1:B))]) (λn=>.t t (MI m) 434::.t m (f.map AD) 27::Fu n.2.1 (EQ f j++AS a n.1) n.2.2) (0,q,p) ⟨Af _,by rw[show AS a 0=[] from A,B1];exact aa⟩ ⟨A,by rw[show AS a 0=[] from A,B1];rfl,A,A,A,A,A,AA⟩ (by rw[show AS a 0=[] from A,B1];exact .w _) ?_;rintro⟨l,x,U⟩ ⟨al,y⟩ ag;dsimp only at al y ag⊢;refine EY.b (IK.mk (λr=>?_) (λr=>?_))
  ·have r:l<4:=by simp at r;omega
   have ai:(2:B)^(8*l)=256^l:=by rw[Nat.pow_mul]
   have aw:(EQ f j++AS a l).length=(EQ f j).length+l:=by rw[Ad,BK]
   refine L ?_;refine Ms.mk (v:=AD a) aq (F'.mk (a:F) (Dh Y) (F'.mk ((8*l:B):F) Y4 (A' ?_)));refine F'.mk ((a/256^l:B):F) ((No a (8*l) 32 Y).trans (by rw[ai])) (F'.mk _ (KH _) ?_);intro aj;refine Cr.ag (g:=x) (f:=EQ f j++AS a l) (h:=U) A A A A (AQ.aq _ _ _ _) [a/256^l%256] A A Z ⟨y,Y⟩ (λW S ax=>?_);refine L ?_;refine F'.mk ((l+1:B):F) Y2 ?_;have ao:EQ f j++AS a l++[a/256^l%256]=EQ f j++AS a (l+1):=by rw[WP,BS]
   rw[ao];exact ag (l+1,W,S) ⟨by show l+1<=4;omega,by show(EQ f j++AS a (l+1)).length+S.length<=BP;rw[Ad,BK];omega⟩ (by show 4-(l+1)<4-l;omega) ⟨A,A,A,A,A,A,A,AA⟩ (AQ.t (a:=.t aj _ _::.t t (MI m) 434::.t m (f.map AD) 27::Fu W (EQ f j++AS a (l+1)) S) (AQ.u Cj) (AQ.y _))
  ·have r:l=4:=by simp at r;omega
   subst r;refine F'.mk ((j+1:B):F) Y2 (af (j+1,x,U) ⟨by show j+1<=9;omega,by show(EQ f (j+1)).length+_<=_;rw[u];exact y⟩ (by show 9-(j+1)<9-j;omega) ⟨A,by rw[u];rfl,A,A,A,AA⟩ ?_);show AQ _ (_::_::Fu x (EQ f (j+1)) U);rw[u];exact .w _
 ·have o:j=9:=by simp at o;omega
  subst o;have an:=RM (q:=f) (l:=9) Y;have ak:EQ f 9=f.flatMap λv=>AS v 4:=by unfold EQ;rw[DP Y]
  rw[N8 Y,N9 Y,an,ak];refine L ?_;exact⟨_,AQ.b (g:=[AJ q (f.flatMap λv=>AS v 4) p]),q,p,Y,A,A⟩
def Wo(o:AC B):Ca o+1=(K.cy o:B):=by cases o with
 |none=>rfl
 |some b=>show(b:F)+1=((b+1:B):F);rfl
def GZ(a:K)(f:B):G B:=AS a.aw 8++(AS a.bq 8++(AS (K.cy a.bf.1) 2++(AS (K.cy a.bf.2) 2++[f])))
def jF(a:K)(f:B):(BO (BO (BO (BO (U 21 0) 0 (AS a.aw 8)) 8 (AS a.bq 8)) 16 (AS (K.cy a.bf.1) 2)) 18 (AS (K.cy a.bf.2) 2)).set 20 f=GZ a f:=A
def jG(q ah p ax:B)(m:AR)(a:K)(f:AF)(y:G M)(r:K.ad ah a)(an:Gw ah m a)(bk:ah+100<=500000000)(bm:f.a<70/\f.b<256):
 Z9 333 [P q,Q p 1 ax] [.t q (m.j a) 292,.t p (AW f++y) 326]
  λv aw=>∃j ai,(a.db [f]).length+ai.length<=BP/\v=Q j (a.db [f]).length ((a.db [f]).length+ai.length)/\aw=[AJ j (a.db [f]) ai,.t q (m.j a) 292,.t p (AW f++y) 326]:=by
 have br:=r.n3;have bq:=r.nY;have bl:=K.mm a [f] r.nA.nC;have a6:a.db [f]=GZ a 1++(AS (f.a*256+f.b) 3++a.bb):=by
  unfold K.db GZ;simp
 have bd:U 21 (W 0)=(U 21 0:G B).map W++[]:=AFf;have a8:=Wo a.bf.1;have a9:=Wo a.bf.2;have bi:K.cy a.bf.1<=70:=by
  have:=r.nV.1;cases z:a.bf.1 with
  |none=>exact Af _
  |some b=>have:=this b z;show b+1<=70;omega
 have bj:K.cy a.bf.2<=70:=by
  have:=r.nV.2;cases z:a.bf.2 with
  |none=>exact Af _
  |some b=>have:=this b z;show b+1<=70;omega
 refine A9.t (L ?_);refine Cr.t (p:=21) (j:=21) (m:=_) (u:=_) A A A A A A ⟨Z,Z,Z⟩ (U 21 (W 0)) (DM _ _) (λj=>?_);rw[bd];have ao:=Hy j 0 8 a.aw 21 21 (U 21 0) [] 5 Z Z Z;obtain⟨t,S⟩:∃t,t=BO (U 21 0) 0 (AS a.aw 8):=⟨_,A⟩;have ay:t.length=21:=by rw[S];rfl
 rw[<-S] at ao;refine L ?_;refine A9.u (ao) (λv o l=>?_);obtain rfl:=l;refine L ?_;refine Qp.mk 8 21 21 8 A A A Y A Z ?_;have ap:=Hy j 8 8 a.bq 13 13 t [] 5 Z Z Y;obtain⟨u,aa⟩:∃u,u=BO t 8 (AS a.bq 8):=⟨_,A⟩;have az:u.length=21:=by rw[aa,G_ Z0];exact ay
 rw[<-aa] at ap;refine L ?_;refine A9.u (ap) (λv o l=>?_);obtain rfl:=l;refine L ?_;refine EY.b (A' ?_);refine F'.mk 0 A (F'.mk 16 A (Qp.mk 16 21 21 16 A A A Y A Z (F'.mk (K.cy a.bf.1:B) ((A3 Y).trans a8) (F'.mk (K.cy a.bf.1:B) (Ec Y) ?_))));have aq:=Hy j 16 2 (K.cy a.bf.1) 5 5 u [] 5 Z Z Y;obtain⟨x,af⟩:∃x,x=BO u 16 (AS (K.cy a.bf.1) 2):=⟨_,A⟩;have a0:x.length=21:=by rw[af,G_ Z0];exact az
 rw[<-af] at aq;refine L ?_;refine A9.u (aq) (λv o l=>?_);obtain rfl:=l;refine L ?_;refine F'.mk 1 A (EY.b (A' ?_));refine F'.mk 2 A (F'.mk 18 A (Qp.mk 18 21 21 18 A A A Y A Z (F'.mk (K.cy a.bf.2:B) ((A3 Y).trans a9) (F'.mk (K.cy a.bf.2:B) (Ec Y) ?_))));have ar:=Hy j 18 2 (K.cy a.bf.2) 3 3 x [] 5 Z Z Y;obtain⟨n,ag⟩:∃n,n=BO x 18 (AS (K.cy a.bf.2) 2):=⟨_,A⟩;have a1:n.length=21:=by rw[ag,G_ Z0];exact a0
 rw[<-ag] at ar;refine L ?_;refine A9.u (ar) (λv o l=>?_);obtain rfl:=l;refine L ?_;refine F'.mk 2 A (EY.b (L ?_));refine F'.mk 1 A (Qh.mk 20 A Z (L ?_));have bc:(n.map W++[]).set (0+20*1) (D .u8 1)=(GZ a 1).map W++[]:=by
  have al:=Pk (q:=n) (er:=[]) (l:=20) (p:=1) Y;have a4:n.set 20 1=GZ a 1:=by rw[ag,af,aa,S];exact jF a 1
  rw[a4] at al;exact al
 have a7:(GZ a 1).length=21:=A;refine Mw.mk ⟨A,by rw[Ad,BW,a1];decide⟩ (L ?_);refine EY.b (A7 ?_);intro a2;refine A7 ?_;refine Cr.u (l:=AJ j (GZ a 1) []::.t a2 (AW f) 326::[.t q (m.j a) 292,.t p (AW f++y) 326]) ?_ ?_
 ·show AQ _ (.t j ((GZ a 1).map W++[]) _::_);rw[<-bc];exact AQ.b
 refine Cr.t (p:=3) (j:=3) (m:=_) (u:=_) A A A A A A ⟨Z,Z,Z⟩ (U 3 (W 0)) (DM _ _) (λa3=>?_);have be:U 3 (W 0)=(U 3 0:G B).map W++[]:=AFf;rw[be];have bf:=Hy a3 0 3 (f.a*256+f.b) 3 3 (U 3 0) [] 5 Z Z Z;have ba:bits .or Au ((f.a*256:B):F) (f.b:F)=((f.a*256+f.b:B):F):=by
  rw[Ws,Wv 8 f.a Y Y Y,L_]
 refine L ?_;refine F'.mk (f.a:B) (Ec Y) (A7 ?_);refine F'.mk ((f.a*256:B):F) ?_ ?_
 ·have:=MQ f.a 8 64 Z;exact(AB IntKind.u64.wrap this).trans (Ec Y)
 refine L ?_;refine F'.mk (f.b:B) (Ec Y) (F'.mk ((f.a*256+f.b:B):F) ba (L ?_));refine A9.u (bf) (λv o l=>?_);obtain rfl:=l;refine L ?_;have bn:BO (U 3 0) 0 (AS (f.a*256+f.b) 3)=AS (f.a*256+f.b) 3:=A;refine Cr.v (g:=j) (f:=GZ a 1) (h:=[]) (t:=(BO (U 3 0) 0 (AS (f.a*256+f.b) 3)).map W++[]) A A A A ⟨A,A⟩ (Gt.t (x:=AJ j (GZ a 1) []) Y0) (AS (f.a*256+f.b) 3) A A ⟨Z,by rw[a7];decide⟩ (λaj au bo=>?_);refine L ?_;refine F'.mk 1 A (EY.b (L ?_));have a5:(GZ a 1++AS (f.a*256+f.b) 3).length=24:=A;have am:GZ a 1++AS (f.a*256+f.b) 3++(H0 m a.i).flatMap (λv=>AS v 4)=a.db [f]:=by
  rw[a6,an.f.1,BS];rfl
 refine A9.u (Vw (H0 m a.i) A an.f.2) ?_;rintro v o ⟨bh,bg,bp,rfl,rfl⟩;refine L ?_;refine Cr.v (g:=aj) (f:=GZ a 1++AS (f.a*256+f.b) 3) (h:=au) (t:=((H0 m a.i).flatMap λv=>AS v 4).map W++bg) A A A A ⟨A,A⟩ (Gt.t (x:=AJ aj (GZ a 1++AS (f.a*256+f.b) 3) au) Y0) ((H0 m a.i).flatMap λv=>AS v 4) A A ⟨Y,by rw[a5];decide⟩ (λak av bb=>?_);rw[am];refine L ?_;exact⟨_,AQ.b (g:=[AJ ak (a.db [f]) av,.t q (m.j a) 292,.t p (AW f++y) 326]),ak,av,by rw[<-am];exact bb,A,A⟩
def MK(b:G B)(v:AC (G B)):∀(f:G B)(a:K),∃j m o l n p q,K.ei b v f a={a with ab:=j,bd:=m,u:=o,bv:=l,aq:=n,av:=p,bn:=q}
 |[],a=>⟨a.ab,a.bd,a.u,a.bv,a.aq,a.av,a.bn,A⟩
 |t::f,a=>by
  unfold K.ei;dsimp only;by_cases r:a.aq=C t
  ·rw[A8 r];split
   ·exact MK b v f a
   ·exact⟨_,_,_,_,_,_,_,A⟩
  ·rw[A1 r];split
   ·obtain⟨j,m,o,l,n,p,q,x⟩:=MK b v f (a.cx t I);exact⟨j,m,o,l,n,p,q,x⟩
   ·exact⟨_,_,_,_,_,_,_,A⟩
def XO(a:K)(v:AC (G B)):∃f l n j m o p,a.cr v={a with ab:=f,bd:=l,u:=n,bv:=j,aq:=m,av:=o,bn:=p}:=MK _ v _ a
def XP{y m:B}(v:AC (G B))(l:Gw y xr n)(f:D0)(a:D0.e m f (Bx (n.cr v))):Gw m {xr with b:=f} (n.cr v):=by
 obtain⟨⟨o,p,q,r,t,u,x⟩,Y,z,F,L,M,⟨P,Q,S,U⟩,N⟩:=l;obtain⟨V,Z,af,W,aa,ag,ah,j⟩:=XO n v;rw[j] at a⊢;exact⟨⟨o,p,q,r,t,u,x⟩,a,z,F,L,M,⟨P,Q,S,U⟩,N⟩
def Yf(a:AR)(m:B)(f:K)(o:AX)(v:AC (G B))(n:D0)(l:AX)(j:S):AQ ((n.c a.ab a.f (Bx (f.cr v))++(j++l.b a.f a.c a.s))++(a.a m f o).take 13) (j++AR.a {a with b:=n} m (f.cr v) l):=by
 obtain⟨p,t,y,r,x,z,F,q⟩:=XO f v;rw[q];refine AQ.u (Me (l₂:=(j++l.b a.f a.c a.s)++((a.a m f o).take 13++n.c a.ab a.f (Bx {f with ab:=p,bd:=t,u:=y,bv:=r,aq:=x,av:=z,bn:=F}))) ?_ ?_)
 ·rw[BS];refine List.perm_append_comm.trans ?_;rw[BS]
 ·rw[BS];refine AEL j (List.perm_append_comm.trans ?_);rw[BS];exact Bi _
def Yt(f:q.Nodup)(m:2<=q.length)(o:AC B):∃n∈q,o≠C n:=by
 match q,f,m with
 |a::b::r,f,_=>
  by_cases j:o=C a
  ·refine⟨b,Y1,λl=>?_⟩;rw[j] at l;have:a=b:=Gl l;subst this;simp at f
  ·exact⟨a,Y1,j⟩
def hK(y r:B)(f:AR)(j:K)(U:AX)(l:BB r f j U)(co:r+200<=500000000)(az:j.i*7<j.bc)(m:G B)(q av aw:B)(p:G M)(t:AU)(a0:0<m.length/\m.length<=172/\∀be∈m,be<256)(a9:(p.drop av).take m.length=m.map W):
 Z9 332 [P y,O (C ⟨q,av,E⟩) m.length aw] (.t q p t::f.a y j U) (λv bd=>∃a5 a6,Du f a5/\BB (r+40) a5 (j.eq m) a6/\v=N 0/\bd=.t q p t::a5.a y (j.eq m) a6):=by
 have ao:=(K.mi l.a az (q:=m) ⟨Y,a0.2.2⟩).nA;refine A9.t (L ?_);refine EY.b (L ?_);refine A9.u (N7 f.ab f.f f.c f.s f.b.b j.aa.length f.b.f j.aa f.b.h _ _ _ U A l.a.nK.2.1 (by have:=l.a.nK.2.2;omega)) ?_;rintro v ah ⟨cj,ci,cq,rfl,rfl⟩;refine L ?_;refine IK.mk (λS=>?_) (λS=>?_)
 ·have S:j.aa.length<3:=by simp at S;omega
  have a8:=K.dx (p:=0) l.a Y;obtain⟨ch,bl,bm⟩:=K.jy a8;obtain⟨n,ba,bb,cn⟩:=K.kc l.a.nA.nA.nA I bl bm;have ar:n<70:=by rw[l.a.nC] at bb;exact bb
  have bk:=Pt y r n I f j U l.c Y l.a.nC ar ba l.a.nM (l.a.nH n).nA (St.h l.a Y A A A) (λb az=>(St.a l.a Y b az).2.2.2);refine A9.u bk ?_;rintro v ah ⟨ai,o,al,bi,rfl,rfl⟩;have aq:o={(j.cx n I).bl n (λF=>{Cq.e with b:=F.b+1}) with x:=j.x+1}:=by
   unfold K.fc at al;rw[ba] at al;simp only[EX,F0] at al;exact al.2.symm
  have ap:j.ds={o.bl n (λF=>{F with a:=3}) with aa:=(o.aa++[n]).mergeSort}:=by unfold K.ds;rw[al]
  have aj:=(K.om l.a a8 S).nA;have an:j.eq m=j.ds.cr (C m):=by unfold K.eq;rw[A8 S]
  have bo:o.aa=j.aa:=by rw[aq];rfl
  have bp:j.ds.aa.length=j.aa.length+1:=by rw[ap,bo];show(AE4 _ _).length=_;rw[O5,Ad];rfl
  have bn:=aj.nK.1;have a2:=GU o (o.bl n (λF=>{F with a:=3})) ar (j:=0) Y (N 3) λbt cm=>by
   rw[JB o _ _ (by rw[aq];show n<(j.j.set _ _).length;rw[B_,l.a.nC];exact ar) bt];split<;>rfl
  have cl:(AZ (Ab o) 70).length=420:=Db (EH o) 70;have bq:Bx o=Bx j:=by rw[aq];rfl
  obtain⟨u,am⟩:∃u,u=o.bl n (λF=>{F with a:=3}):=⟨_,A⟩;have a3:Bx u=Bx j:=by rw[am];exact bq
  have ay:j.ds={u with aa:=(u.aa++[n]).mergeSort}:=by rw[ap,am];rfl
  have bh:=b4 f.ab f.f n f.b (Bx u) r (by rw[a3];exact l.b.e) ar (by rw[a3];show j.aa.length<12;omega);rw[<-am] at a2;refine A' ?_;refine A9.w (a:=.t q p t::f.a y u ai) ?_ ?_
  ·rw[am] at a2⊢;show AQ _ (.t q p t::_::.t f.x (AZ (Ab (o.bl n (λF=>{F with a:=3}))) 70) _::_);rw[<-a2];exact AQ.b
  refine A9.u bh ?_;rintro v ah ⟨ag,br,rfl⟩;have ck:u.aa=j.aa:=AB J5.a a3;have a7:B2 (r+1) ai j.ds:=by rw[ap];exact bi
  have a1:Bx j.ds={Bx u with a:=((Bx u).a++[n]).mergeSort}:=by rw[ay]
  have au:Gw (r+1) {f with b:=ag} j.ds:=by
   obtain⟨⟨bu,bv,bx,b1,b2,b3,b5⟩,cp,b6,b7,b8,b9,⟨cc,cd,ce,cg⟩,ca⟩:=l.b;have bc:D0.e (r+1) ag (Bx j.ds):=by rw[a1];exact br.nC Y
   rw[ap,aq] at bc⊢;exact⟨⟨bu,bv,bx,b1,b2,b3,b5⟩,bc,b6,b7,b8,b9,⟨cc,cd,ce,cg⟩,ca⟩
  have bs:D0.e (r+1) ag (Bx j.ds):=au.e;have ak:0<j.ds.aa.length/\j.ds.aa.length<=1000/\2<=j.ds.aa.length:=by have:=l.a.nK.2.1;omega
  obtain⟨af,bj⟩:∃af,j.ds=af:=⟨_,A⟩;rw[bj] at ak bs au a7 aj bp an ay a1 bn;rw[<-a1];refine L ?_;refine A9.u (N7 f.ab f.f f.c f.s ag.b af.aa.length ag.f af.aa ag.h _ _ _ ai A ak.1 ak.2.1) ?_;rintro v ah ⟨bg,bf,cb,rfl,rfl⟩;refine L ?_;refine A9.u (XL f.ab f.f f.c f.s ag af m q av aw p t (r+1) ai a7 au.e aj.nB aj.nD a0 a9 ak.2.2 (Yt aj.nK.1 ak.2.2 _) Y) ?_;rintro v ah ⟨z,Z,a4,ax,rfl,rfl⟩;refine L ?_;rw[an] at ao⊢;refine⟨.t q p t::AR.a {f with b:=z} y (af.cr (C m)) Z,?_,{f with b:=z},Z,?_,⟨ao.nE Y,(XP (C m) au z a4).c Y,ax.a Y⟩,A,A⟩
  ·refine AQ.t ?_ (Yf f y af ai (C m) z Z [.t q p t]);rw[ay];exact AQ.b
  ·exact⟨_,_,_,_,_,_,_,_,_,_,_,_,_,_,_,A⟩
 ·have S:¬j.aa.length<3:=by simp at S;omega
  have an:j.eq m=j.cr (C m):=by unfold K.eq;rw[A1 S]
  have:=l.a.nK.2.2;refine L ?_;refine A9.u (N7 f.ab f.f f.c f.s f.b.b j.aa.length f.b.f j.aa f.b.h _ _ _ U A Y Y) ?_;rintro v ah ⟨bg,bf,cb,rfl,rfl⟩;refine L ?_;refine A9.u (XL f.ab f.f f.c f.s f.b j m q av aw p t r U l.c l.b.e l.a.nB l.a.nD a0 a9 Y (Yt l.a.nK.1 Y _) Y) ?_;rintro v ah ⟨z,Z,a4,ax,rfl,rfl⟩;refine L ?_;rw[an] at ao⊢;refine⟨.t q p t::AR.a {f with b:=z} y (j.cr (C m)) Z,?_,{f with b:=z},Z,?_,⟨ao.nE Y,(XP (C m) l.b z a4).c Y,ax.a Y⟩,A,A⟩
  ·refine AQ.t ?_ (Yf f y j U (C m) z Z [.t q p t]);exact AQ.b
  ·exact⟨_,_,_,_,_,_,_,_,_,_,_,_,_,_,_,A⟩
def Cr.ab{o:Oper}{f a:AC CW}(x:o.op=.call zb)(q:zb.callee=.builtin .append)(F:zb.argTypes=#[l,l])
 (n:DK yc zb.args.toList=C [O f np xu,O a 0 yi])(j:xx.c l=C (.slice p))(r:xx.e p=C yq)(u:np<=xu)(t:xv (O f np xu) lg):Cr xx o yc lg xv:=by
 refine Cr.ac x q n λG N m L z=>?_;have y:=run_append_nothing (P:=xx.b) m l l o.type p yq (xx.f j) (xx.i _ _ r) f np xu u (O a 0 yi) ⟨AT ⟨p,xx.f j⟩,λ_=>A,by cases a<;>simp[Builtin.firstCells,Mb,Nz],by cases a<;>simp[Builtin.firstCells,Mb,Nz],Y1,Y1⟩;refine⟨_,m,_,?_,t,z⟩;simp only[builtin];rw[F,Sem.run_bind,y];rfl
def Rd(f:B)(o:0<f/\f<=100)(l:S):Z9 418 [O E 0 0,N f] l λv n=>∃j a,f<=a/\a<=BP/\v=Q j 0 a/\∃m,m.length=a*2/\n=.t j m 326::l:=by
 have r:=Aa ((f:F)<0);have t:=B7 ((f:F)>0);refine A9.y ?_;refine A7 ?_;refine Qp.mk 0 0 0 0 A A A Y A A ?_;refine Cr.ar (yq:=_) (yb:=_) A A A A A A A A ⟨A,Z⟩ o.1 ⟨Y,Z⟩ (λj a p q=>?_);refine Qp.mk 0 0 a 0 A A A Y A (by split<;>omega) ⟨j,a,p,q,?_,_,?_,A⟩
 ·show O _ (0-0) (a-0)=_;rfl
 ·show(D8 [N 0,N 0] (a*2)).length=a*2;simp[D8]
def g_(a:S):AK 418 [O E 0 0,N 0] a (O E 0 0):=by
 refine A9.y ?_;refine L ?_;refine F'.mk 0 A ?_;refine F'.mk 0 A ?_;refine L ?_;exact⟨A,A⟩
def Cr.ai{o:Oper}{x p y a n b F m ao:B}(ai:o.op=.call zb)(Y:zb.callee=.builtin .append)(al:zb.argTypes=#[x,x])
 (W:DK yc zb.args.toList=C [Q y a n,O (C ⟨b,F,E⟩) m ao])(ak:xx.c x=C (.slice p))(aa:xx.e p=C yq)(am:yq.zero=C yb)(an:(B9 yb).length=yq.size/\0<yq.size)
 (j r:G M)(U:lg.Perm (.t y (j++r) p::yn))[Z:Bo yn b er xt](z:j.length=a*yq.size)(u:r.length=(n-a)*yq.size/\a<=n/\n<=BP)(l:G M)(ah:(er.drop F).take (m*yq.size)=l)(ag:l.length=m*yq.size)(N:l.all B'=R)(aj:a+m<=1000000000/\yq.bytes<=1000)
 (af:∀q f t,a+m<=f->f<=BP->t.length=(f-(a+m))*yq.size->xv (Q q (a+m) f) (.t q ((j++l)++t) p::yn)):Cr xx o yc lg xv:=by
 refine Cr.u (AQ.u U) (Cr.y (j:=yq) (c:=yn) (n:=j++r) ai Y al W ak aa am an (a2:=Lo.g) (a3:=Z) ⟨by rw[Ad,z,u.1,<-QF];congr 1;omega,u.2.1,u.2.2⟩ l ah ag N aj (λq f t ap aq ar=>?_));have L:(j++r).take (a*yq.size)=j:=C_ z;rw[L];exact af q f t ap aq ar
def dC(a:B)(f:AU):
 Z9 334 [Q a 2 2] [.t a [O E 0 0,O E 0 0] f]
  λv n=>∃l j m,DI 2 (([]:G AF)) j m/\v=Bm l j (([]:G AF))/\n=BX 326 AW l (([]:G AF)) m++[.t a [O E 0 0,O E 0 0] f]:=by
 have o:=Aa ((((0:B)):F)<0);have p:=Aa ((((0:B)):F)<0);refine A9.t (L ?_);refine EY.b (A' ?_);refine F'.mk (0:B) Y4 (L ?_);refine F'.mk 1 A (EY.b (A' ?_));refine F'.mk (0:B) Y4 (L ?_);refine F'.mk 2 A (EY.b (L ?_));refine A9.b (g_ []) (L ?_);refine EY.b (A7 ?_);refine Cr.ab (yq:=_) A A A A A A (AI _) (F'.mk 1 A (EY.b (A7 ?_)));refine Cr.ab (yq:=_) A A A A A A (AI _) (F'.mk 2 A (EY.b (L ?_)));exact⟨_,.w _,0,0,[],⟨AI 0,Z,A⟩,A,A⟩
def dD(j:B)(m:AU)(f o:B)(l:G M)(a:G AF)(ap:0<a.length/\a.length<=30):
 Z9 334 [Q j 2 2] [.t j [O E 0 0,Q f a.length o] m,.t f (a.flatMap AW++l) 326]
  λv aa=>∃t p W,DI 2 (a) p W/\v=Bm t p (a)/\aa=BX 326 AW t (a) W++[.t j [O E 0 0,Q f a.length o] m,.t f (a.flatMap AW++l) 326]:=by
 have r:=Fx (f:=AW) (a:=2) (λ_=>A) a;have an:=Aa ((((0:B)):F)<0);have ao:=Aa ((((a.length:B)):F)<0);refine A9.t (L ?_);refine EY.b (A' ?_);refine F'.mk (0:B) Y4 (L ?_);refine F'.mk 1 A (EY.b (A' ?_));refine F'.mk (a.length:B) Y4 (L ?_);refine F'.mk 2 A (EY.b (L ?_));refine A9.z (Rd (a.length) Y _) ?_;rintro v ak ⟨af,am,al,ai,rfl,q,ag,rfl⟩;refine EY.b (A7 ?_);refine Cr.ab (yq:=_) A A A A A A (Af _) (F'.mk 1 A (EY.b (A7 ?_)));refine Cr.ai (yq:=_) (yb:=_) (er:=a.flatMap AW++l) A A A A A A A ⟨A,Z⟩ ([]) (q) (Gt.t (x:=.t af ([]++q) 326) Y0) A ⟨ag,Af _,ai⟩ (a.flatMap AW) (by rw[CJ];exact C_ r) r (M3 (λ_=>A) a) ⟨Y,Z⟩ (λn z U N aj S=>?_);refine F'.mk 2 A (EY.b (L ?_));have y:a≠[]:=Zj Y;have ah:[]++a.flatMap AW=(a).flatMap AW:=by rw[Bz]
 have x:0+a.length=(a).length:=Y;rw[x] at N S;rw[ah];refine⟨BX 326 AW n (a) U++[.t j [O E 0 0,Q f a.length o] m,.t f (a.flatMap AW++l) 326],?_,n,z,U,⟨N,aj,S⟩,?_,A⟩
 ·rw[Dw y];exact AQ.b
 ·have u:=E1 (g:=n) (a:=z) y;rw[<-x] at u;exact u.symm
def dE(j:B)(m:AU)(f o:B)(l:G M)(a:G AF)(ap:0<a.length/\a.length<=30):
 Z9 334 [Q j 2 2] [.t j [Q f a.length o,O E 0 0] m,.t f (a.flatMap AW++l) 326]
  λv aa=>∃u q W,DI 2 (a) q W/\v=Bm u q (a)/\aa=BX 326 AW u (a) W++[.t j [Q f a.length o,O E 0 0] m,.t f (a.flatMap AW++l) 326]:=by
 have t:=Fx (f:=AW) (a:=2) (λ_=>A) a;have an:=Aa ((((a.length:B)):F)<0);have ao:=Aa ((((a.length:B)):F)<0);refine A9.t (L ?_);refine EY.b (A' ?_);refine F'.mk (a.length:B) Y4 (L ?_);refine F'.mk 1 A (EY.b (A' ?_));refine F'.mk (a.length:B) Y4 (L ?_);refine F'.mk 2 A (EY.b (L ?_));refine A9.z (Rd (a.length) Y _) ?_;rintro v ak ⟨af,am,al,ai,rfl,r,ag,rfl⟩;refine EY.b (A7 ?_);refine Cr.ai (yq:=_) (yb:=_) (er:=a.flatMap AW++l) A A A A A A A ⟨A,Z⟩ ([]) (r) (Gt.t (x:=.t af ([]++r) 326) Y0) A ⟨ag,Af _,ai⟩ (a.flatMap AW) (by rw[CJ];exact C_ t) t (M3 (λ_=>A) a) ⟨Y,Z⟩ (λn N U p aj S=>?_);refine F'.mk 1 A (EY.b (A7 ?_));refine Cr.ab (yq:=_) A A A A A A p (F'.mk 2 A (EY.b (L ?_)));have z:a≠[]:=Zj Y;have ah:[]++a.flatMap AW=(a).flatMap AW:=by rw[Bz]
 have y:0+a.length=(a).length:=Y;rw[y] at p S;rw[ah];refine⟨BX 326 AW n (a) U++[.t j [Q f a.length o,O E 0 0] m,.t f (a.flatMap AW++l) 326],?_,n,N,U,⟨p,aj,S⟩,?_,A⟩
 ·rw[Dw z];exact AQ.b
 ·have x:=E1 (g:=n) (a:=N) z;rw[<-y] at x;exact x.symm
def dF(m:B)(p:AU)(j t:B)(n:G M)(a:G AF)(a2:0<a.length/\a.length<=30)(l u:B)(o:G M)(f:G AF)(a3:0<f.length/\f.length<=30):
 Z9 334 [Q m 2 2] [.t m [Q j a.length t,Q l f.length u] p,.t j (a.flatMap AW++n) 326,.t l (f.flatMap AW++o) 326]
  λv ak=>∃N x aj,DI 2 (a++f) x aj/\v=Bm N x (a++f)/\ak=BX 326 AW N (a++f) aj++[.t m [Q j a.length t,Q l f.length u] p,.t j (a.flatMap AW++n) 326,.t l (f.flatMap AW++o) 326]:=by
 have q:=Fx (f:=AW) (a:=2) (λ_=>A) a;have z:=Fx (f:=AW) (a:=2) (λ_=>A) f;have a0:=Aa ((((a.length:B)):F)<0);have a1:=Aa ((((a.length+f.length:B)):F)<0);refine A9.t (L ?_);refine EY.b (A' ?_);refine F'.mk (a.length:B) Y4 (L ?_);refine F'.mk 1 A (EY.b (A' ?_));refine F'.mk (a.length+f.length:B) Y4 (L ?_);refine F'.mk 2 A (EY.b (L ?_));refine A9.z (Rd (a.length+f.length) Y _) ?_;rintro v aw ⟨am,az,ax,ap,rfl,y,an,rfl⟩;refine EY.b (A7 ?_);refine Cr.ai (yq:=_) (yb:=_) (er:=a.flatMap AW++n) A A A A A A A ⟨A,Z⟩ ([]) (y) (Gt.t (x:=.t am ([]++y) 326) Y0) A ⟨an,Af _,ap⟩ (a.flatMap AW) (by rw[CJ];exact C_ q) q (M3 (λ_=>A) a) ⟨Y,Z⟩ (λal ay ah aq ar av=>?_);refine F'.mk 1 A (EY.b (A7 ?_));refine Cr.ai (yq:=_) (yb:=_) (er:=f.flatMap AW++o) A A A A A A A ⟨A,Z⟩ ([]++a.flatMap AW) (ah) (Gt.t (x:=.t al ([]++a.flatMap AW++ah) 326) Y0) (by rw[Bz,BF];exact q) ⟨av,aq,ar⟩ (f.flatMap AW) (by rw[CJ];exact C_ z) z (M3 (λ_=>A) f) ⟨Y,Z⟩ (λr aa ai af au ag=>?_);refine F'.mk 2 A (EY.b (L ?_));have W:a++f≠[]:=Zj Z5;have ao:[]++a.flatMap AW++f.flatMap AW=(a++f).flatMap AW:=by rw[Bz,KP]
 have U:0+a.length+f.length=(a++f).length:=Z5;rw[U] at af ag;rw[ao];refine⟨BX 326 AW r (a++f) ai++[.t m [Q j a.length t,Q l f.length u] p,.t j (a.flatMap AW++n) 326,.t l (f.flatMap AW++o) 326],?_,r,aa,ai,⟨af,au,ag⟩,?_,A⟩
 ·rw[Dw W];exact AQ.b
 ·have S:=E1 (g:=r) (a:=aa) W;rw[<-U] at S;exact S.symm
def D6.j{a:D6}(m:a.c l p/\(a.d=E\/0<p))(n:er.length=p*l):(a.b p=O E 0 0/\a.a er xt=[]/\p=0/\er=[])\/(0<p/\∃f o r,a.b p=Q f p o/\a.a er xt=[.t f (er++r) xt]):=by
 obtain⟨f,x,j,y,t⟩:=a;obtain⟨⟨⟨q,_,_,_⟩,rfl,rfl,_⟩,u⟩:=m;cases f with
 |none=>
  have:=q A;exact AT ⟨A,A,this,Hi.1 (by rw[n,this,Mn])⟩
 |some f=>exact Ae ⟨u.resolve_left nofun,f,j,t,A,A⟩
def dH(m:B)(n:AU)(F L:D6)(a f:G AF)(al:F.c 2 a.length/\(F.d=E\/0<a.length))(am:L.c 2 f.length/\(L.d=E\/0<f.length))(N:a.length<=30/\f.length<=30):
 Z9 334 [Q m 2 2] [.t m [F.b a.length,L.b f.length] n,.u (A2 (F.a (a.flatMap AW) 326)),.u (A2 (L.a (f.flatMap AW) 326))]
  λv M=>∃r q t,DI 2 (a++f) q t/\v=Bm r q (a++f)/\M=BX 326 AW r (a++f) t++[.t m [F.b a.length,L.b f.length] n,.u (A2 (F.a (a.flatMap AW) 326)),.u (A2 (L.a (f.flatMap AW) 326))]:=by
 have aj:=Fx (f:=AW) (a:=2) (λ_=>A) a;have ak:=Fx (f:=AW) (a:=2) (λ_=>A) f;refine A9.aa ?_;rcases D6.j al aj (xt:=326) with⟨Y,Z,aa,_⟩|⟨W,j,u,o,Y,Z⟩<;>rcases D6.j am ak (xt:=326) with⟨ag,ah,ai,_⟩|⟨af,l,x,p,ag,ah⟩<;>rw[Y,Z,ag,ah]
 ·have S:a=[]:=Hi.1 aa;have U:f=[]:=Hi.1 ai;subst S;subst U;refine A9.ad (dC m n) Y0 ?_;rintro v M ⟨r,q,t,y,z,rfl⟩;exact⟨_,.w _,r,q,t,y,z,by rw[BS];rfl⟩
 ·have S:a=[]:=Hi.1 aa;subst S;refine A9.w (a:=[.t m [O E 0 0,Q l f.length x] n,.t l (f.flatMap AW++p) 326]++[.u (A2 [])]) ?_ ?_
  ·exact AQ.t (AQ.ab (a:=.u (A2 [.t l (f.flatMap AW++p) 326])::[.t m [O E 0 0,Q l f.length x] n,.u (A2 [])]) Y0) ((AQ.ac [.t l (f.flatMap AW++p) 326] _).t AQ.b)
  refine A9.ad (dD m n l x p f ⟨af,N.2⟩) Y0 ?_;rintro v M ⟨r,q,t,y,z,rfl⟩;refine⟨_,?_,r,q,t,y,z,A⟩;rw[BS,Bz];exact AQ.ah (AQ.t (AQ.ab (a:=.t l (f.flatMap AW++p) 326::[.t m [O E 0 0,Q l f.length x] n,.u (A2 [])]) Y0) ((AQ.aa [.t l (f.flatMap AW++p) 326] _).t AQ.b)) _
 ·have U:f=[]:=Hi.1 ai;subst U;refine A9.w (a:=[.t m [Q j a.length u,O E 0 0] n,.t j (a.flatMap AW++o) 326]++[.u (A2 [])]) ?_ ?_
  ·exact AQ.t (AQ.ab (a:=.u (A2 [.t j (a.flatMap AW++o) 326])::[.t m [Q j a.length u,O E 0 0] n,.u (A2 [])]) Y0) ((AQ.ac [.t j (a.flatMap AW++o) 326] _).t AQ.b)
  refine A9.ad (dE m n j u o a ⟨W,N.1⟩) Y0 ?_;rintro v M ⟨r,q,t,y,z,rfl⟩;rw[B1];refine⟨_,?_,r,q,t,y,z,A⟩;rw[BS];exact AQ.ah (AQ.t (AQ.ab (a:=.t j (a.flatMap AW++o) 326::[.t m [Q j a.length u,O E 0 0] n,.u (A2 [])]) Y0) ((AQ.aa [.t j (a.flatMap AW++o) 326] _).t AQ.b)) _
 ·refine A9.w (a:=[.t m [Q j a.length u,Q l f.length x] n,.t j (a.flatMap AW++o) 326,.t l (f.flatMap AW++p) 326]++[]) ?_ ?_
  ·exact AQ.t (AQ.ab (a:=.u (A2 [.t j (a.flatMap AW++o) 326])::.u (A2 [.t l (f.flatMap AW++p) 326])::[.t m [Q j a.length u,Q l f.length x] n]) Y0) ((AQ.ac [.t j (a.flatMap AW++o) 326] _).t (AQ.t (AQ.u (D3 _ _ _)) ((AQ.ac [.t l (f.flatMap AW++p) 326] _).t AQ.b)))
  refine A9.ad (dF m n j u o a ⟨W,N.1⟩ l x p f ⟨af,N.2⟩) Y0 ?_;rintro v M ⟨r,q,t,y,z,rfl⟩;refine⟨_,?_,r,q,t,y,z,A⟩;rw[BS];exact AQ.ah (AQ.t (AQ.ab (a:=.t j (a.flatMap AW++o) 326::.t l (f.flatMap AW++p) 326::[.t m [Q j a.length u,Q l f.length x] n]) Y0) ((AQ.aa [.t j (a.flatMap AW++o) 326] _).t (AQ.t (AQ.u (D3 _ _ _)) ((AQ.aa [.t l (f.flatMap AW++p) 326] _).t AQ.b)))) _
def On(f:n.ah=[]):n.hz=n:=by
 rw[K.ns];have:(n.ah.filter λa=>a.1.a<=n.aw)=[]:=by rw[f];rfl
 rw[this];show n.lq (n.ah.filter λa=>¬a.1.a<=n.aw)=n;have j:(n.ah.filter λa=>¬a.1.a<=n.aw)=n.ah:=by rw[f];rfl
 rw[j];rfl
def dS(m:D6)(l:M)(a:S):Z9 336 [m.b 0,l] a λv p=>v=m.b 0/\p=a:=by
 have o:∀(f:AC CW)(j:B),AK 336 [O f 0 j,l] a (O f 0 j):=λf j=>by
  have r:AK 419 [O f 0 j,l] a (N (-1)):=by
   refine A9.y (L ?_);refine EY.b (L ?_);exact⟨A,A⟩
  refine A9.y ?_;refine A9.ab r (L ?_);exact⟨A,A⟩
 obtain⟨n,t,q,u,x⟩:=m;cases n with
 |none=>exact o E 0
 |some n=>exact o (C ⟨n,t,E⟩) q
def DI.v{a:G yh}(j:DI l a p er){m:yh->G M}(o:∀n,(m n).length=l):∃f:D6,f.c l a.length/\(f.d=E\/0<a.length)/\f.b a.length=Bm np p a/\f.a (a.flatMap m) xt=BX xt m np a er:=by
 cases a with
 |nil=>exact⟨⟨E,0,0,[],[]⟩,⟨⟨λ_=>A,A,⟨AI 0,Z⟩,Y1⟩,A,A,Y1⟩,AT A,A,A⟩
 |cons n q=>exact⟨⟨C np,0,p,[],er⟩,⟨⟨nofun,A,⟨j.t,j.u⟩,QH j.s.symm⟩,A,A,j.s⟩,Ae (Zv _),A,A⟩
def V6(f:D6)(j:B)(n:j=0)(l:M)(a:S):Z9 336 [f.b j,l] a λv m=>v=f.b j/\m=a:=by subst n;exact dS f l a
def XB{a:G AF}(f:a[l]?=C xq):CX (a.flatMap AW++er) (0+l*2) 2 R=C (AV (AW xq).toArray):=by
 have n:l<a.length:=(Cx.1 f).1;have o:=Fx (f:=AW) (a:=2) (λ_=>A) a;have j:=Ow (f:=AW) (n:=2) (λ_=>A) (h:=a) (i:=er) l 1 Y;have m:(a.drop l).take 1=[xq]:=by
  rw[HF n];simp[(Cx.1 f).2]
 rw[m,FE,QC,B1,T_] at j;unfold CX;dsimp only;rw[BF,Zn (by rw[Ad,o];omega),j]
def YZ(f:BB l xr n yf)(a:G AF)(t:∀x∈a,n.ak x):BB (l+a.length) xr (a.foldl K.dn n) yf:=by
 have r:∀(a:G AF)(n:K),∃m,a.foldl K.dn n={n with j:=m}:=λa=>by
  induction a with
  |nil=>intro n;exact⟨n.j,A⟩
  |cons q a u=>intro n;obtain⟨m,o⟩:=u (n.dn q);exact⟨m,by rw[DN,o];rfl⟩
 obtain⟨m,o⟩:=r a n;have p:=(K.lo a f.a t).nA;rw[o] at p⊢;exact⟨p,f.b.a Y (.a xr) (f.b.b.c A) (K.cj A),f.c.a Y⟩
def UO(f:BB l xr n yf)(a:G AF)(t:∀x∈a,n.ak x):BB (l+a.length) xr (a.foldl K.ai n) yf:=by
 have r:∀(a:G AF)(n:K),∃m,a.foldl K.ai n={n with j:=m}:=λa=>by
  induction a with
  |nil=>intro n;exact⟨n.j,A⟩
  |cons q a u=>intro n;obtain⟨m,o⟩:=u (n.ai q);exact⟨m,by rw[DN,o];rfl⟩
 obtain⟨m,o⟩:=r a n;have p:=(K.jx a f.a t).nA;rw[o] at p⊢;exact⟨p,f.b.a Y (.a xr) (f.b.b.c A) (K.cj A),f.c.a Y⟩
def WM(m:AR)(j N f n:B)(a:K)(q:AX)(y:D6)(l:G AF)(o:AF)(p:G M)(t:AC CW)(x:B)(r:AC CW)(u:B)(L:G M)(F:AU):
 AQ (([.t N L F,.t f (AW o++p) 326,.t j ((m.j a).take 31++[O t l.length x,Q f 1 n,O r a.ah.length u]) 292]++(m.a j a q).drop 1)++y.a (l.flatMap AW) 326)
  (.t j ((m.j a).take 31++[O t l.length x,Q f 1 n,O r a.ah.length u]) 292::(AR.a {m with z:=y,aa:=D6.mk (C f) 0 n [] p} j (a.du l [o]) q).drop 1):=by
 exact AQ.t (AQ.u Cj) (AQ.t (AQ.aa _ _) (AQ.t (AQ.b (g:=.t f (AW o++p) 326::.u (A2 (y.a (l.flatMap AW) 326))::.t j ((m.j a).take 31++[O t l.length x,Q f 1 n,O r a.ah.length u]) 292::(m.a j a q).drop 1)) (AQ.t (AQ.aa [.t f (AW o++p) 326] _) AQ.b)))
def AFc{P:Prop}(h:P:=by rw[List.drop_zero];exact List.take_left' (by simp)):P:=h
def Vf(m ah:B)(a5:AR)(ai:K)(b2:AX)(a6:BB ah a5 ai b2)(eg:ah+400<=500000000)(bq:ai.i*9<=ai.bc)(dw:ai.ah=[]):
 Z9 257 [P m] (a5.a m ai b2) (Kj m (ah+200) a5 ai.ea (N 0)):=by
 have eh:=a6.a.nD;have de:=AAT m ah a5 ai b2 a6 Y Y;obtain⟨cj,ek,_⟩:=K.mv a6.a Y;have bu:=K.cj (K.ly a6.a.nA.nA (D9 (K.ll a6.a) (by have:=K.dx (p:=1) a6.a Y;omega)));refine A9.t ?_;intro aj;refine L ?_;refine A9.u de ?_;rintro v aw ⟨c7,j,y,al,am,dn,ch,da,ak,rfl,rfl⟩;obtain⟨M,bv⟩:∃M,ai.cd.2=M:=⟨_,A⟩;rw[bv] at ch ak cj bu;rw[bv];obtain⟨dr,ds,_⟩:=ak.a.nI ch;have dd:=jG m (ah+4) y al a5 M j am ak.a ak.b Y ⟨dr,ds⟩;have bt:=K.mm M [j] ak.a.nA.nC;have cg:=K.ml ak.a ak.b.i [j];refine L ?_;refine A9.u dd ?_;rintro v aw ⟨c9,c1,d3,rfl,rfl⟩;have ei:=cj.nD;have db:=hK m (ah+4) a5 M c7 ak Y (by rw[bu.nA];omega) (M.db [j]) c9 0 ((M.db [j]).length+c1.length) ((M.db [j]).map W++c1) 5 ⟨by rw[bt];omega,by rw[bt];exact(by decide:57+3*1<=172),cg⟩ AFc;have ce:=K.mi ak.a (q:=M.db [j]) (by rw[bu.nA];omega) ⟨by rw[bt];exact(by decide:57+3*1<=175),cg⟩;clear bt cg dd de d3;refine L ?_;refine A9.w (a:=[.t aj [P m] 148,.t y (AW j++am) 326]++(.t c9 ((M.db [j]).map W++c1) 5::a5.a m M c7)) AQ.b (A9.ac db ?_);rintro v aw ⟨t,af,dj,u,rfl,rfl⟩;obtain⟨a,bk⟩:∃a,M.eq (M.db [j])=a:=⟨_,A⟩;rw[bk] at u ce;rw[bk];have dl:ai.ea=((a.gx [j]).hz).ce:=by
  unfold K.ea;rw[bv,dn,bk]
 have dg:a.ah=[]:=by
  have:=(K.lw (K.ku M (M.db [j]))).2.2.1;rw[<-bk,this,bu.nB];exact dw
 have c6:=Ap dl;clear dl bv dn bk;clear db;have b8:=λb5=>dH b5 287 t.z t.aa a.bj a.ax u.b.j u.b.s ⟨by have:=u.a.n1;omega,by have:=u.a.n2;omega⟩;obtain⟨ea,em,cm⟩:=u.b.j.1.nA.nA;obtain⟨eb,en,cn⟩:=u.b.s.1.nA.nA;simp only[cm,cn] at b8;refine IK.y ?_;apply Ms.mk;focus rfl
 apply Ms.mk;focus rfl
 apply Ms.mk;focus rfl
 apply Ms.mk;focus rfl
 rw[cm,cn];intro b5;refine A9.u (b8 b5) ?_;rintro v aw ⟨b7,c8,d9,d1,dp,rfl⟩;obtain⟨ec,eo,be⟩:=N0 b7 c8 (a.bj++a.ax);rw[be] at dp;subst dp;have bc:∀l∈a.bj++a.ax,a.ak l:=λl q=>by
  rcases Bs.1 q with U|U
  ·exact u.a.nA.nE l U
  ·exact u.a.nA.nF l U
 have du:(a.bj++a.ax).length<=20:=by rw[Ad];have:=u.a.n1;have:=u.a.n2;omega
 have d2:a.ak j:=(ce.nB.nA.nA j ch).1;obtain⟨n,a7⟩:∃n,a.bj++a.ax=n:=⟨_,A⟩;have r:=YZ u n (by rw[<-a7];exact bc);have bx:=K.lo n u.a (by rw[<-a7];exact bc);have a8:(n.foldl K.dn a).ah=a.ah:=(K.cj (K.lz n a)).nB;rw[a7] at d1 be bc du;rw[a7];have br:∀l,l=j->(n.foldl K.dn a).ak l:=λl ba=>by subst ba;exact(bx.nB.nA.nA l d2).1
 clear b8 cm cn;by_cases b9:n=[]
 ·subst b9;have a8:a.ah=a.ah:=A;simp only[List.foldl_nil] at r bx br;have az:([]:G AF).foldl K.dn a=a:=A;refine EY.h (.t aj [P m] 148::.t y (AW j++am) 326::t.a m a af) (show AQ _ _ from AQ.b) (EY.b (IK.y ?_));apply Ms.mk;focus rfl
  apply Ms.mk;focus rfl
  have bj:=K.mt a;have aq:=K.lh r.a.nA.nA;have ci:=K.li a;have dx:=r.a.nJ;have an:=SQ m t a af Y (λbn cd=>St.c r.a cd) (λbn l q=>by
   rcases Ck bn a.g.length with U|U
   ·exact St.e r.a U l q
   ·exfalso;unfold K.bo at q;rw[AY,Dm U] at q;cases q) r.a.nC (λb bq=>(St.a r.a Y b bq).2.2.1)
  rw[bj] at an;dsimp only at an;have au:=UO r a.dl aq;have ar:=K.jx a.dl r.a aq;obtain⟨f,ao⟩:∃f,a.dl.foldl K.ai a=f:=⟨_,A⟩;obtain⟨p,a1⟩:∃p,a.dl=p:=⟨_,A⟩;rw[ao,a1] at an au ar;rw[a1] at aq ci;refine A9.w (a:=[.t aj [P m] 148,.t y (AW j++am) 326]++t.a m a af) AQ.b (A9.ac an ?_);rintro v aw ⟨b6,dt,d8,bi,bl,rfl⟩;obtain⟨bo,a0,bf,bg,bh⟩:=bi.v (xt:=326) (m:=AW) (np:=b6) (λ_=>A);obtain⟨ay,a4,bd⟩:=a0.nA.nA;rw[<-bg,bd] at bl;subst bl;rw[<-bh];have ap:f.ah=[]:=by
   have ba:f.ah=a.ah:=by rw[<-ao];exact(K.cj (K.kp _ _)).nB.trans a8
   rw[ba];exact dg
  have ap:f.ah.length=0:=by rw[ap];rfl
  obtain⟨ax,a3,a2⟩:=au.b.h.nA;have bb:=V6 t.ak f.ah.length ap (BZ (CA 337) #[] #[P aj]) [];rw[a2] at bb;have ca:JW (ai.ea=(f.du p [j]).ce):=Ap (by
   rw[c6.out,K.kg,a7,az,ao,a1,On];have:f.ah=[]:=Hi.1 ap;exact this)
  clear bj az ao a8;obtain⟨Z,av⟩:∃Z,Z={t with z:=bo,aa:=D6.mk (C y) 0 al [] am}:=⟨_,A⟩;have ck:=K.ol ar.nA (f:=p) (j:=[j]) (λl q=>(ar.nB.nA.nA l (aq l q)).1) (λl q=>by rw[CZ] at q;subst q;exact(ar.nB.nA.nA l (br _ A)).1) Y (by show 1<=4;decide);have b3:Gw (ah+200-12) Z (f.du p [j]):=by
   obtain⟨⟨cq,cr,cs,ct,cu,cv,cw⟩,cx,cy,d6,d7,cz,⟨c2,c3,c4,c5⟩,c0⟩:=au.b.c (show _<=ah+200-12 by omega);rw[av];exact⟨⟨cq,cr,cs,ct,cu,cv,cw⟩,cx,cy,⟨a0,bf⟩,⟨da,Ae (Zv 0)⟩,cz,⟨c2,c3,c4,c5⟩,c0⟩
  have cb:=Pr m (ah+200-12) Z (f.du p [j]) af ⟨ck.nA.nE Y,b3,au.c.a Y⟩ Y;clear a0 bf bg bh bi;refine A7 ?_;rw[a2];refine A9.b bb ?_;refine A7 ?_;have b4:Z.j (f.du p [j])=(t.j f).take 31++[O ay p.length a4,Q y 1 al,O ax f.ah.length a3]:=by rw[av,<-bd,<-a2];rfl
  refine A9.w (a:=.t m ((t.j f).take 31++[O ay p.length a4,Q y 1 al,O ax f.ah.length a3]) 292::(Z.a m (f.du p [j]) af).drop 1) ?_ ?_
  ·subst av;exact AQ.t (AQ.u (.of_eq A)) (WM t m aj y al f af bo p j am ay a4 ax a3 _ _)
  ·rw[<-b4];refine A9.u cb ?_;rintro v aw ⟨bp,a9,cc,bm,rfl⟩;rw[ca.out];refine L ?_;refine⟨_,AQ.b (g:=bp.a m _ a9),bp,a9,dj.a (Du.a ?_ cc),bm.d Y,A,A⟩;rw[av];exact⟨_,_,_,_,_,_,_,_,_,_,_,_,_,_,_,A⟩
 ·rw[E1 b9] at be;simp only[Value.slice.injEq] at be;obtain⟨rfl,_,rfl⟩:=be;rw[Dw b9];refine EY.f (m:=B) (λo=>n.length-o) (λo=>o<=n.length) (λo=>[(1,P aj),(3,Q y 1 al),(33,Q b7 n.length c8),(34,N (n.length:B)),(35,N (o:B))]) (λo=>.t aj [P m] 148::.t y (AW j++am) 326::.t b7 (n.flatMap AW++d9) 326::t.a m ((n.take o).foldl K.dn a) af) 0 (Af _) ⟨A,A,A,A,A,AA⟩ AQ.b ?_;intro o d0 dq;refine EY.b (IK.mk (λl=>?_) (λl=>?_))
  ·have l:o<n.length:=by simp at l;omega
   have cl:=Nt K.dn n o ⟨0,0⟩ l a;obtain⟨x,co⟩:∃x,n.getD o ⟨0,0⟩=x:=⟨_,A⟩;have cp:n[o]?=C x:=by rw[<-co];exact IT l
   have d5:a.ak x:=bc x (FW cp);have b1:=YZ u (n.take o) (λU bm=>bc U (EW bm));have bs:x.a<70:=(u.a.nI d5).1;have ef:(n.take o).length<=20:=Z3;rw[co] at cl;obtain⟨S,df⟩:∃S,(n.take o).foldl K.dn a=S:=⟨_,A⟩;rw[df] at cl b1;rw[df];have dv:CX (AZ (Ab S) 70) (0+x.a*6+3) 1 I=C (N (S.b x.a).d):=by
    show(AZ (Ab S) 70)[0+x.a*6+3]?=_;rw[BF,FJ S bs Y];rfl
   have ee:(AZ (Ab S) 70).length=420:=Db (EH S) 70;have d4:=GU S (S.dn x) bs (j:=3) Y (N ((S.b x.a).d-1)) λo d0=>YY S x (by rw[b1.a.nC];exact bs) o;have ej:=(St.a b1.a Y x.a bs).2.2.1;refine A7 ?_;refine Ms.mk (v:=AV (AW x).toArray) (XB cp) ?_;intro ed;refine A7 ?_;clear co cp u b1 r bx ce ak cj;refine A7 ?_;refine Ms.mk dv (F'.mk ((S.b x.a).d-1) (A3 Y) (A' ?_));refine F'.mk ((o+1:B):F) Y2 (dq (o+1) (by show o+1<=n.length;omega) (by show n.length-(o+1)<n.length-o;omega) ⟨A,A,A,A,A,AA⟩ ?_);rw[cl];show AQ _ (_::_::_::_::.t t.x (AZ (Ab (S.dn x)) 70) _::_);rw[<-d4];exact AQ.b
  have l:o=n.length:=by simp at l;omega
  clear dq;subst l;rw[LZ];obtain⟨ag,az⟩:∃ag,n.foldl K.dn a=ag:=⟨_,A⟩;rw[az] at r bx a8 br;rw[az];apply Ms.mk;focus rfl
  apply Ms.mk;focus rfl
  have bj:=K.mt ag;have aq:=K.lh r.a.nA.nA;have ci:=K.li ag;have dx:=r.a.nJ;have an:=SQ m t ag af Y (λbn cd=>St.c r.a cd) (λbn l q=>by
   rcases Ck bn ag.g.length with U|U
   ·exact St.e r.a U l q
   ·exfalso;unfold K.bo at q;rw[AY,Dm U] at q;cases q) r.a.nC (λb bq=>(St.a r.a Y b bq).2.2.1)
  rw[bj] at an;dsimp only at an;have au:=UO r ag.dl aq;have ar:=K.jx ag.dl r.a aq;obtain⟨f,ao⟩:∃f,ag.dl.foldl K.ai ag=f:=⟨_,A⟩;obtain⟨p,a1⟩:∃p,ag.dl=p:=⟨_,A⟩;rw[ao,a1] at an au ar;rw[a1] at aq ci;refine A9.w (a:=[.t aj [P m] 148,.t y (AW j++am) 326]++t.a m ag af) AQ.b (A9.ac an ?_);rintro v aw ⟨b6,dt,d8,bi,bl,rfl⟩;obtain⟨bo,a0,bf,bg,bh⟩:=bi.v (xt:=326) (m:=AW) (np:=b6) (λ_=>A);obtain⟨ay,a4,bd⟩:=a0.nA.nA;rw[<-bg,bd] at bl;subst bl;rw[<-bh];have ap:f.ah=[]:=by
   have ba:f.ah=a.ah:=by rw[<-ao];exact(K.cj (K.kp _ _)).nB.trans a8
   rw[ba];exact dg
  have ap:f.ah.length=0:=by rw[ap];rfl
  obtain⟨ax,a3,a2⟩:=au.b.h.nA;have bb:=V6 t.ak f.ah.length ap (BZ (CA 337) #[] #[P aj]) [];rw[a2] at bb;have ca:JW (ai.ea=(f.du p [j]).ce):=Ap (by
   rw[c6.out,K.kg,a7,az,ao,a1,On];have:f.ah=[]:=Hi.1 ap;exact this)
  clear bj az ao a8;obtain⟨Z,av⟩:∃Z,Z={t with z:=bo,aa:=D6.mk (C y) 0 al [] am}:=⟨_,A⟩;have ck:=K.ol ar.nA (f:=p) (j:=[j]) (λl q=>(ar.nB.nA.nA l (aq l q)).1) (λl q=>by rw[CZ] at q;subst q;exact(ar.nB.nA.nA l (br _ A)).1) Y (by show 1<=4;decide);have b3:Gw (ah+200-12) Z (f.du p [j]):=by
   obtain⟨⟨cq,cr,cs,ct,cu,cv,cw⟩,cx,cy,d6,d7,cz,⟨c2,c3,c4,c5⟩,c0⟩:=au.b.c (show _<=ah+200-12 by omega);rw[av];exact⟨⟨cq,cr,cs,ct,cu,cv,cw⟩,cx,cy,⟨a0,bf⟩,⟨da,Ae (Zv 0)⟩,cz,⟨c2,c3,c4,c5⟩,c0⟩
  have cb:=Pr m (ah+200-12) Z (f.du p [j]) af ⟨ck.nA.nE Y,b3,au.c.a Y⟩ Y;clear a0 bf bg bh bi;refine A7 ?_;rw[a2];refine A9.b bb ?_;refine A7 ?_;have b4:Z.j (f.du p [j])=(t.j f).take 31++[O ay p.length a4,Q y 1 al,O ax f.ah.length a3]:=by rw[av,<-bd,<-a2];rfl
  refine A9.w (a:=.t m ((t.j f).take 31++[O ay p.length a4,Q y 1 al,O ax f.ah.length a3]) 292::(Z.a m (f.du p [j]) af).drop 1) ?_ ?_
  ·subst av;exact AQ.t (AQ.u (.of_eq A)) (WM t m aj y al f af bo p j am ay a4 ax a3 _ _)
  ·rw[<-b4];refine A9.u cb ?_;rintro v aw ⟨bp,a9,cc,bm,rfl⟩;rw[ca.out];refine L ?_;refine⟨_,AQ.b (g:=bp.a m _ a9),bp,a9,dj.a (Du.a ?_ cc),bm.d Y,A,A⟩;rw[av];exact⟨_,_,_,_,_,_,_,_,_,_,_,_,_,_,_,A⟩
def gG(f:G B):∀a:K,(f.foldl K.cp a).ah=a.ah:=by
 induction f with
 |nil=>intro a;rfl
 |cons l f m=>
  intro a;rw[DN,m];have j:(a.co l).ah=a.ah:=(AB K.ah (K.ju a l):);unfold K.cp;split
  ·exact j
  ·exact j
def St(a:K):a.ce.ah=a.ah:=by
 rw[K.kl,K.kd];split
 ·rfl
 ·split
  ·rfl
  ·exact gG _ _
abbrev AR.ay(a:AR)(l:B)(f:K)(j:AX):S:=
 [.t l (a.j f) 292,.t a.x (AZ (Ab f) 70) 295,.t a.d (a.u f l) 394,.t a.ac (f.g.map CH) 30,.o a.y (AM a.e a.g),
  AJ a.al f.ac [],.o a.am (AM a.ah a.ai),.u (A2 a.ae),.u (A2 (a.z.a (f.bj.flatMap AW) 326)),.u (A2 (a.aa.a (f.ax.flatMap AW) 326)),.u (A2 (a.ak.a (f.ah.flatMap L6) 502)),
  .u (A2 (FO a.h a.t a.i f.h (AH f.h.length))),
  .t a.ab [P a.f,Q a.b.b f.aa.length a.b.f,D1 f.aq,D Au f.av,Ah (C a.b.d)] 477,BJ a.b.b f.aa a.b.h,.o a.b.d (AM (C6 f.bn a.b.a a.b.g a.b.j) a.b.s),Dr f.bn a.b.a a.b.i,
  .t a.f [Cd 53 (P a.c),P a.c,N 192,Ah (C a.s),N j.c] 277,.o a.s (AM #[] 0),.u (CB a.c j.a)]
variable{yj:G M}
def ABv(m:B)(f:AR)(a:K)(j:AX)(n:f.w=⟨C l,p,np,er,yj⟩):AQ (f.a m a j) (.t l (er++(a.ae.map AD++yj)) 3::f.ay m a j):=by
 refine AQ.t (AQ.u (Gt.t (x:=.u (A2 (f.w.a (a.ae.map AD) 3))) Y0)) ?_;rw[n];exact AQ.ac [.t l (er++(a.ae.map AD++yj)) 3] _
def Su(m:B)(f:AR)(a:K)(j:AX)(o:f.w=⟨C l,p,np,er,yj⟩):AQ (.t l (er++(a.ae.map AD++yj)) 3::f.ay m a j) (f.a m a j):=by
 refine AQ.t (AQ.aa [.t l (er++(a.ae.map AD++yj)) 3] _) ?_;have n:A2 [.t l (er++(a.ae.map AD++yj)) 3]=A2 (f.w.a (a.ae.map AD) 3):=by rw[o];rfl
 rw[n];exact AQ.u (Gt.t (x:=.u (A2 (f.w.a (a.ae.map AD) 3))) Y0).symm
def UP(o Z:B)(f:AR)(a:K)(z:AX)(x:BB Z f a z)(bq:Z+600<=500000000)(bh:a.i*9<=a.bc)(bi:a.ah=[]):
 Z9 256 [P o] (f.a o a z) (Kj o (Z+200) f a.dq (N 0)):=by
 have br:=x.a.nD;cases y:a.ae with
 |nil=>
  have bg:=WR o f a Y;have am:=Vf o Z f a z x Y bh bi;obtain⟨bm,bu,av⟩:=x.b.g.nA;have ag:a.ae.length=0:=by rw[y];rfl
  have bt:=x.a.nW;have bp:a.ec<=16:=by unfold K.ec;omega
  rw[ag] at av;refine A9.t ?_;apply Ms.mk;focus rfl
  rw[ag,av];refine L ?_;refine A9.b bg (L ?_);by_cases ar:a.ct<a.ec
  ·have ak:=B7 ((a.ct:F)<(a.ec:F));have M:a.dq=a:=by unfold K.dq;rw[y];exact A8 ar
   rw[M];clear am;refine L ?_;exact⟨_,AQ.b (g:=f.a o a z),f,z,Du.b f,x.d Y,A,A⟩
  ·have ak:=Aa ((a.ct:F)<(a.ec:F));have M:a.dq=a.ea:=by unfold K.dq;rw[y];exact A1 ar
   rw[M];clear M;refine L ?_;refine A9.u am ?_;rintro v bd ⟨a8,u,be,bf,rfl,rfl⟩;refine L ?_;exact⟨_,AQ.b (g:=a8.a o a.ea u),a8,u,be,bf,A,A⟩
 |cons m l=>
  have M:a.dq=(a.bt m).dv l:=by unfold K.dq;rw[y]
  have af:=x.a.nO;have bj:m<a.g.length:=af.2 m (by rw[y];exact Bt ..);have aa:=AAm o Z m f a z x Y Y bj;obtain⟨ah,G⟩:∃ah,f.w=ah:=⟨_,A⟩;have S:=x.b.g;rw[G] at S;have ag:a.ae.length=l.length+1:=by rw[y];rfl
  obtain⟨r,t,n,p,q⟩:=ah;cases r with
  |none=>exact CV (S.nB A) Y
  |some r=>
   refine A9.aa (A9.w (ABv o f a z G) (A9.y ?_));apply Ms.mk;focus rfl
   rw[G];have ak:=B7 ((a.ae.length:F)>0);have aq:(p++(a.ae.map AD++q))[t]?=C (AD m):=by
    have bs:p.length=t:=S.nC;rw[List.getElem?_append_right Y,y];rw[show t-p.length=0 by omega];rfl
   refine L ?_;rw[G];refine L ?_;refine Qh.mk 0 A Y (Ms.mk (v:=AD m) (by rw[Mn,L'];exact aq) (L ?_));refine A9.w (Su o f a z G) (A9.u aa ?_);rintro v bd ⟨u,W,rfl,rfl⟩;have U:(a.bt m).ae=a.ae:=(K.cj (K.hq x.a.nA.nA m (K.dx (p:=0) x.a Y))).nG;obtain⟨j,aa⟩:∃j,a.bt m=j:=⟨_,A⟩;rw[aa] at W U M;rw[aa];have bo:j.ae.length=l.length+1:=by rw[U,ag]
   clear aq ak aa;refine L ?_;rw[G];refine L ?_;have al:j.ae.length-1=l.length:=Y;have an:j.ae.length<=n/\n<=BP:=by rw[U];exact S.nD
   have ao:p.length=t:=S.nC;have bn:(n-a.ae.length)*1<=q.length:=S.nE;have af:j.ae.Nodup/\∀aj∈j.ae,aj<j.g.length:=W.a.nO;rw[U,y] at af;have au:=(K.mz W.a (q:=l) ⟨(O6.1 af.1).2,λaj bk=>af.2 aj (By _ bk)⟩).nA;obtain⟨⟨aw,ax,ay,az,a0,a1,a2⟩,a3,bv,a4,a5,a6,⟨a9,ba,bb,bc⟩,a7⟩:=W.b.c (show _<=Z+200 by omega);rw[M];by_cases ap:n=1
   ·refine Qp.mk 1 j.ae.length n (t) A A A ⟨Y,an.1,AI _⟩ A (A8 ap) (L ?_);rw[al];refine A7 ?_;have ai:f.w.a (j.ae.map AD) 3=[.t r (p++(l.map AD++(AD m::q))) 3]:=by
     rw[G,U,y];have bl:l=[]:=Hi.1 Y;subst bl;rfl
    refine⟨AR.a {f with w:=⟨C r,t,n-1,p,(AD m::q)⟩} o (j.dv l) u,?_,_,u,⟨_,_,_,_,_,_,_,_,_,_,_,_,_,_,_,A⟩,⟨au.nE Y,?_,W.c.a Y⟩,A,A⟩
    ·refine AQ.t (AQ.b (g:=.u (A2 (f.w.a (j.ae.map AD) 3))::AR.ay {f with w:=⟨C r,t,n-1,p,(AD m::q)⟩} o (j.dv l) u)) ?_;rw[ai];exact AQ.t (AQ.ac [.t r (p++(l.map AD++(AD m::q))) 3] _) (Su o {f with w:=⟨C r,t,n-1,p,(AD m::q)⟩} (j.dv l) u A)
    ·exact⟨⟨aw,ax,ay,az,a0,a1,a2⟩,a3,⟨nofun,ao,⟨by show l.length<=n-1;omega,by show n-1<=BP;omega⟩,by show(n-1-l.length)*1<=q.length+1;omega⟩,a4,a5,a6,⟨a9,ba,bb,bc⟩,a7⟩
   ·refine Qp.mk 1 j.ae.length n (t+1*1) A A A ⟨Y,an.1,AI _⟩ A (A1 ap) (L ?_);rw[al];refine A7 ?_;have ai:f.w.a (j.ae.map AD) 3=[.t r ((p++[AD m])++(l.map AD++q)) 3]:=by
     rw[G,U,y];rw[BS];rfl
    refine⟨AR.a {f with w:=⟨C r,t+1*1,n-1,(p++[AD m]),q⟩} o (j.dv l) u,?_,_,u,⟨_,_,_,_,_,_,_,_,_,_,_,_,_,_,_,A⟩,⟨au.nE Y,?_,W.c.a Y⟩,A,A⟩
    ·refine AQ.t (AQ.b (g:=.u (A2 (f.w.a (j.ae.map AD) 3))::AR.ay {f with w:=⟨C r,t+1*1,n-1,(p++[AD m]),q⟩} o (j.dv l) u)) ?_;rw[ai];exact AQ.t (AQ.ac [.t r ((p++[AD m])++(l.map AD++q)) 3] _) (Su o {f with w:=⟨C r,t+1*1,n-1,(p++[AD m]),q⟩} (j.dv l) u A)
    ·exact⟨⟨aw,ax,ay,az,a0,a1,a2⟩,a3,⟨nofun,by rw[Ad,ao];rfl,⟨by show l.length<=n-1;omega,by show n-1<=BP;omega⟩,by show(n-1-l.length)*1<=q.length;omega⟩,a4,a5,a6,⟨a9,ba,bb,bc⟩,a7⟩
namespace K
def ph(a:ad l n)(f:n.i*8<n.bc):n.jw n.cd.2:=
 cj (ly a.nA.nA (D9 (ll a) (by have:=dx (p:=1) a Y;omega)))
def uj(m:ad l n)(p:n.i*8<n.bc)(q:n.ah=[]):n.ea.ah=[]:=by
 unfold ea;rw[St];have f:(n.cd.2.eq (n.cd.2.db n.cd.1)).ah=[]:=by
  rw[(lw (ku n.cd.2 (n.cd.2.db n.cd.1))).2.2.1,(ph m p).nB,q]
 obtain⟨a,o⟩:∃a,n.cd.2.eq (n.cd.2.db n.cd.1)=a:=⟨_,A⟩;rw[o] at f⊢;have j:(a.gx n.cd.1).ah=[]:=by
  rw[kg];show(Zf ai _ _).ah=[];rw[(cj (kp _ _)).nB,(cj (lz _ a)).nB,f]
 rw[On j,j]
def pq(a:ad l n)(j:n.i*8<n.bc)(f:n.ah=[]):n.dq.ah=[]:=by
 unfold dq;split
 ·show(n.bt _).ah=[];rw[(cj (hq a.nA.nA _ (dx (p:=0) a Y))).nB,f]
 ·split
  ·exact f
  ·exact uj a j f
def wx(a:ad l n)(m:n.i*8<n.bc)(f:n.ah=[]):n.ed.ah=[]:=by
 have j:=lp a;have o:n.cu.bc=n.bc:=fr (ft (r:=n.cu) a.nA.nA A).2 A A A A A A;unfold ed;split
 ·exact f
 ·exact pq j.nA (by rw[o];exact m) f
def oj(f:ad l n)(ag:l<=1000000000)(af:n.i*9+2<=n.bc)(z:p<n.v)(x:q.length<=128)(P:∀M∈q,M<256)(o:np<=2){a:AF×K}(Q:a=n.af np ⟨1,p,0,0,0,0⟩ q):
 a.2.ak a.1/\a.2.fo p a.1/\p<a.2.v/\n.i*9<=(a.2.de p a.1).bc/\(a.2.de p a.1).ah=n.ah/\(a.2.de p a.1).i=n.i:=by
 have ah:=f.nD;have u:=dx (p:=0) f Y;have N:=fw f.nA.nA.nA o u ⟨1,p,0,0,0,0⟩ q;have j:=hi f o Y (ym:=⟨1,p,0,0,0,0⟩) (show 1<256 by decide) P x;have m:=cj (il f.nA.nA o u ⟨1,p,0,0,0,0⟩ q);obtain⟨r,L⟩:=N.nD;rw[<-Q] at j m r L;have S:=j.nA.nM;have U:=(j.nA.nH a.1.a).nA;have V:=f.nG;have aa:(256:B)^8=18446744073709551616:=Z;have W:(256:B)^4=4294967296:=Z;have y:a.2.fo p a.1:=by
  refine⟨_,by rw[L,j.nB.nA.nB];exact SI (ym:=⟨1,p,n.ap+1,0,a.2.x,(a.2.b a.1.a).b⟩) ⟨AI 1,show 1<=5 by decide,nh f z,Y6,show 0<256^8 by decide,Y6,Y6⟩ (by rw[f.nB];exact x),A,A⟩
 have F:p<a.2.v:=by rw[j.nB.nF];exact z
 obtain⟨aj,ak,al⟩:=iy j.nA F r y;have t:=cj (ln a.2 p a.1);have ai:=j.nD;exact⟨r,y,F,Y,t.nB.trans m.nB,t.nA.trans m.nA⟩
def xm(f:ad l n)(Q:l<=1000000000)(z:n.i*9+2<=n.bc)(N:p<n.v)(o:q.length<=128)(r:∀y∈q,y<256)(F:n.ah=[]):(n.et p q).ah=[]:=by
 have Z:=f.nD;obtain⟨a,t⟩:∃a,a=if n.dg p then 1 else 0:=⟨_,A⟩
 have u:a<=2:=by rw[t];split<;>omega
 have U:n.et p q=((n.af a ⟨1,p,0,0,0,0⟩ q).2.de p (n.af a ⟨1,p,0,0,0,0⟩ q).1).ed:=by rw[t];rfl
 obtain⟨x,j⟩:∃x,x=n.af a ⟨1,p,0,0,0,0⟩ q:=⟨_,A⟩;obtain⟨V,M,P,aa,L,S⟩:=oj f Q z N o r u j;have m:=hi f u Y (ym:=⟨1,p,0,0,0,0⟩) (show 1<256 by decide) r o;rw[<-j] at m;obtain⟨W,_,_⟩:=iy m.nA P V M;rw[U,<-j];exact wx W (by rw[S];omega) (by rw[L,F])
end K
def ACA(a:BB l xr n yf):BB (l+1) xr n.cu yf:=by
 refine⟨(K.lp a.a).nA,?_,a.c.a Y⟩;obtain⟨⟨f,j,m,o,p,q,r⟩,t,u,x,y,z,⟨G,L,M,N⟩,F⟩:=a.b.c (show l<=l+1 by omega);exact⟨⟨f,j,m,o,p,q,r⟩,t,u,x,y,z,⟨G,L,M,N⟩,F⟩
def ABb(l n:B)(f:AR)(a:K)(j:AX)(m:BB n f a j)(U:n+700<=500000000)(z:a.i*9<=a.bc)(F:a.ah=[]):
 Z9 367 [P l] (f.a l a j) (Kj l (n+201) f a.ed (N 0)):=by
 have q:=ACA m;have G:a.cu.bc=a.bc:=K.fr (K.ft (r:=a.cu) m.a.nA.nA A).2 A A A A A A;by_cases o:a.cu.bi%2=0
 ·have p:a.ed=a.cu.dq:=by unfold K.ed;rw[A1 Y]
  have y:=UP l (n+1) f a.cu j q Y (by rw[G];exact z) F;rw[p];refine ABa l n f a j _ m.a.nW m.a.n0 Y o (A9.z y λv S L=>?_);obtain⟨M,r,t,b,u,x⟩:=L;exact⟨M,r,t,b.d Y,u,x⟩
 ·have p:a.ed=a.cu:=by unfold K.ed;rw[A8 o]
  refine A9.ab (AB9 l n f a j m.a.nW m.a.n0 Y o) ?_;rw[p];exact⟨f,j,Du.b f,q.d Y,A,A⟩
def h_(l q a:B)(r:AR)(f:K)(z:AX)(n:BB q r f z)(bh:q+800<=500000000)(a0:f.i*9+2<=f.bc)(a1:f.ah=[])(F:a<f.v)(u S m ag:B)(t:G M)(x:AU)(j:G B)(aj:j.length=m)(ak:m<=128)(ax:0<m)(al:∀aw∈j,aw<256)(a3:(t.drop S).take m=j.map W):
 Z9 284 [P l,N a,O (C ⟨u,S,E⟩) m ag] (.t u t x::r.a l f z) (λv ar=>∃U aa,Du r U/\BB (q+210) U (f.kh a j) aa/\v=N 0/\ar=.t u t x::U.a l (f.kh a j) aa):=by
 have bi:=n.a.nD;have ba:=J8 n.a F;have ai:=ABk l a r f n.a.nL n.a.nT ba.2 (by have:=n.a.nF;omega);obtain⟨p,y⟩:∃p,(if f.dg a then 1 else 0:B)=p:=⟨_,A⟩;have an:p<=2:=by rw[<-y];split<;>omega
 have ao:(N (if f.dg a then 1 else 0):M)=N (p:B):=by rw[<-y];split<;>rfl
 rw[ao] at ai;have ah:=X1 l q p an r f z n Y Y ⟨1,a,0,0,0,0⟩ ⟨by show 1<256;decide,K.nh n.a F,by show 0<256^8;decide⟩ u S m ag t x j aj ak ax al a3;have ap:f.kh a j=((f.af p ⟨1,a,0,0,0,0⟩ j).2.de a (f.af p ⟨1,a,0,0,0,0⟩ j).1).ed:=by rw[<-y];rfl
 obtain⟨o,am⟩:∃o,o=f.af p ⟨1,a,0,0,0,0⟩ j:=⟨_,A⟩;obtain⟨be,a4,a7,a9,a2,a8⟩:=K.oj n.a Y a0 F (by rw[aj];exact ak) al an am;rw[<-am] at ah ap;rw[ap];clear y ao;refine A9.t (L ?_);refine A9.b ai (L ?_);refine A9.u ah ?_;rintro v Z ⟨au,bb,rfl,rfl⟩;have ay:=YO l (q+3) a o.1 r o.2 au bb Y a7 be a4;refine L ?_;intro bg;refine A7 ?_;refine A9.u ay ?_;rintro v Z ⟨bf,av,a5,bc,rfl,rfl⟩;have az:=ABb l (q+3+4) bf (o.2.de a o.1) av bc Y (by rw[a8];exact a9) (by rw[a2,a1]);refine L ?_;refine A9.u az ?_;rintro v Z ⟨aq,af,a6,bd,rfl,rfl⟩;refine L ?_;exact⟨_,AQ.b (g:=.t u t x::aq.a l (o.2.de a o.1).ed af),aq,af,a5.a a6,bd.d Y,A,A⟩
def ADE(l u j:B)(q:AR)(a:K)(r:AX)(p:BB u q a r)(au:u+800<=500000000)(ax:a.i*14<a.bc)(am:a.ah=[])(ap:j<a.v)(o z m Z:B)(n:G M)(t:AU)(f:G B)(aq:f.length=m)(ar:m<=128)(aj:0<m)(av:∀ai∈f,ai<256)(an:(n.drop z).take m=f.map W):
 Z9 190 [P l,N j,O (C ⟨o,z,E⟩) m Z] (.t o n t::q.a l a r) (λv ah=>∃F S,Du q F/\BB (u+210) F (a.et j f) S/\v=N 0/\ah=.t o n t::F.a l (a.et j f) S):=by
 have a0:=p.a.nD;have ay:=K.dx (p:=7) p.a Y;have az:=K.qu p.a.nA.nA.nA;have al:=kD l q a r p.a.nC Y Y;have ak:=h_ l u j q a r p au Y am ap o z m Z n t f aq ar aj av an;refine A9.t (L ?_);refine A9.b al (L ?_);refine A9.u ak ?_;rintro v aw ⟨ag,U,ao,aa,rfl,rfl⟩;have af:a.et j f=a.kh j f:=A;rw[af];obtain⟨x,y⟩:∃x,a.kh j f=x:=⟨_,A⟩;rw[y] at aa;rw[y];clear y af;refine L ?_;exact⟨_,AQ.b (g:=.t o n t::ag.a l x U),ag,U,ao,aa,A,A⟩
structure G6 where
 b:B
 e:B
 c:B
 f:B
 d:G M
 a:G B
abbrev Dy(a:G6):G M:=[N a.b,O (C ⟨a.e,a.c,E⟩) 128 a.f]
structure G6.g(j:K)(a:G6):Prop where
 nC:a.b<j.t
 nB:a.a.length=128
 nA:∀f∈a.a,f<256
 nD:(a.d.drop a.c).take 128=a.a.map W
def UR{f:yh->G M}{m:B}(o:∀u,(f u).length=m){a:G yh}{j:yh}(n:a[l]?=C j):CX (a.flatMap f++er) (0+l*m) m R=C (AV (f j).toArray):=by
 have p:l<a.length:=(Cx.1 n).1;have t:=Fx (f:=f) (a:=m) o a;have q:=Ow (f:=f) (n:=m) o (h:=a) (i:=er) l 1 Y;have r:(a.drop l).take 1=[j]:=by
  rw[HF p];simp[(Cx.1 n).2]
 rw[r,FE,QC,B1,T_] at q;unfold CX;dsimp only;rw[BF,Zn (by rw[Ad,t];calc l*m+m=(l+1)*m:=(Lc l m).symm
  _<=a.length*m:=OD _ p
  _<=_:=Nat.le_add_right _ _),q]
def cW(o W n t:B)(p:AR)(j:K)(m:AX)(y:BB W p j m)(a:G G6)(r:G M)(z:∀Z∈a,Z.g j)(ag:a.length<=1000):
 AK 643 [P o,Q n a.length t] (.t n (a.flatMap Dy++r) 732::p.a o j m) (N 0):=by
 have S:=y.c.e;refine A9.t (L ?_);refine EY.f (m:=B) (λf=>a.length-f) (λf=>f<=a.length) (λf=>[(0,P o),(7,Q n a.length t),(8,N (a.length:B)),(9,N (f:B))]) (λf=>.t n (a.flatMap Dy++r) 732::p.a o j m) 0 (Af _) ⟨A,A,A,A,AA⟩ AQ.b ?_;intro f af x;refine EY.b (IK.mk (λq=>?_) (λq=>?_))
 ·have q:f<a.length:=by simp at q;omega
  obtain⟨l,u⟩:∃l,a[f]?=C l:=⟨_,Aw q⟩;have U:=z l (FW u);have ah:=Aa ((l.b:F)<0);have ai:Ac ((l.b:F)≥(j.t:F))=I:=F2 (by have:=U.nC;omega);refine A7 ?_;refine Ms.mk (v:=AV (Dy l).toArray) (UR (f:=Dy) (λ_=>A) u) ?_;intro aa;refine A' ?_;exact F'.mk ((f+1:B):F) Y2 (x (f+1) (by show f+1<=a.length;omega) (by show a.length-(f+1)<a.length-f;omega) ⟨A,A,A,A,AA⟩ AQ.b)
 ·clear x;refine L ?_;refine A9.b (IV p.c m.a) ?_;rw[S];refine L ?_;exact⟨_,AQ.b (g:=.t n (a.flatMap Dy++r) 732::p.a o j m),A,A⟩
def Z8(a:B)(l:AR)(j:K)(f:AX)(m:AC CW)(n:B):
 AK 644 [P a,O m 0 n] (l.a a j f) (N 0):=by
 refine A9.t ?_;refine A' ?_;refine F'.mk 16 A ?_;refine L ?_;refine EY.b (L ?_);exact⟨_,AQ.b (g:=l.a a j f),A,A⟩
def SO{n:Type}:∀{a:G n}{j:B}{l:n},a[j]?=C l->a.Perm (l::a.eraseIdx j)
 |[],_,_,f=>by simp at f
 |m::a,0,l,f=>by
  have:m=l:=by simpa using f
  subst this;exact Bi _
 |m::a,j+1,l,f=>((SO (a:=a) (j:=j) (by simpa using f)).cons m).trans (D3 _ _ _)
def c6{a:G6->BL}{j:G G6}{m:G6}(n:j[l]?=C m)(f:S):AQ (.u (A2 (j.map a))::f) (a m::.u (A2 ((j.eraseIdx l).map a))::f):=
 (AQ.ac _ _).t ((AQ.u (((SO n).map a).append_right f)).t (AQ.u (.cons _ (Bi _))|>.t (AQ.z _ (AQ.aa _ _))))
def c5{a:G6->BL}{j:G G6}{m:G6}(n:j[l]?=C m)(f:S):AQ (a m::.u (A2 ((j.eraseIdx l).map a))::f) (.u (A2 (j.map a))::f):=
 (AQ.z _ (AQ.ac _ _)).t ((AQ.u (((SO n).map a).symm.append_right f)).t (AQ.aa _ _))
abbrev Dq(a:G6):BL:=.t a.e a.d 5
namespace K
def uw(f:G B):∀a:K,(f.foldl cp a).i=a.i:=by
 induction f with
 |nil=>intro a;rfl
 |cons l f m=>
  intro a;rw[DN,m];have j:(a.co l).i=a.i:=(AB K.i (ju a l):);unfold cp;split
  ·exact j
  ·exact j
def sr(a:K):a.ce.i=a.i:=by
 rw[kl,kd];split
 ·rfl
 ·split
  ·rfl
  ·exact uw _ _
def uk(f:ad l n)(p:n.i*8<n.bc)(r:n.ah=[]):n.ea.i=n.i:=by
 unfold ea;rw[sr];have j:(n.cd.2.eq (n.cd.2.db n.cd.1)).ah=[]:=by
  rw[(lw (ku n.cd.2 (n.cd.2.db n.cd.1))).2.2.1,(ph f p).nB,r]
 have m:(n.cd.2.eq (n.cd.2.db n.cd.1)).i=n.i:=by
  have:(n.cd.2.eq (n.cd.2.db n.cd.1)).i=n.cd.2.i:=(AB K.i (ku n.cd.2 (n.cd.2.db n.cd.1)):);rw[this,(ph f p).nA]
 obtain⟨a,q⟩:∃a,n.cd.2.eq (n.cd.2.db n.cd.1)=a:=⟨_,A⟩;rw[q] at j m⊢;have o:(a.gx n.cd.1).ah=[]/\(a.gx n.cd.1).i=n.i:=by
  rw[kg];show(Zf ai _ _).ah=[]/\(Zf ai _ _).i=n.i;rw[(cj (kp _ _)).nB,(cj (lz _ a)).nB,j,(cj (kp _ _)).nA,(cj (lz _ a)).nA,m];exact⟨A,A⟩
 rw[On o.1,o.2]
def xn(o:ad l n)(aa:l<=1000000000)(Q:n.i*9+2<=n.bc)(W:p<n.v)(z:q.length<=128)(F:∀N∈q,N<256)(U:n.ah=[]):(n.et p q).i=n.i:=by
 have aj:=o.nD;obtain⟨f,L⟩:∃f,f=if n.dg p then 1 else 0:=⟨_,A⟩
 have M:f<=2:=by rw[L];split<;>omega
 have ah:n.et p q=((n.af f ⟨1,p,0,0,0,0⟩ q).2.de p (n.af f ⟨1,p,0,0,0,0⟩ q).1).ed:=by rw[L];rfl
 obtain⟨m,t⟩:∃m,m=n.af f ⟨1,p,0,0,0,0⟩ q:=⟨_,A⟩;obtain⟨ai,V,Z,af,y,j⟩:=oj o aa Q W z F M t;have x:=hi o M Y (ym:=⟨1,p,0,0,0,0⟩) (show 1<256 by decide) F z;rw[<-t] at x;obtain⟨u,_,_⟩:=iy x.nA Z ai V;rw[ah,<-t];obtain⟨a,P⟩:∃a,m.2.de p m.1=a:=⟨_,A⟩;rw[P] at af y j u⊢;have r:=lp u;have ag:a.cu.bc=a.bc:=fr (ft (r:=a.cu) u.nA.nA A).2 A A A A A A;have S:a.cu.i*8<a.cu.bc:=by rw[ag];show a.i*8<_;omega
 unfold ed;split
 ·exact j
 ·unfold dq;split
  ·show(a.cu.bt _).i=n.i;rw[(cj (hq r.nA.nA.nA _ (dx (p:=0) r.nA Y))).nA];exact j
  ·split
   ·exact j
   ·rw[uk r.nA S (by rw[<-U,<-y];rfl)];exact j
end K
def K.ez(a:K)(j:G G6):K:=j.foldl (λa f=>a.et f.b f.a) a
def gB(o W p an:B)(u:AR)(f:K)(Z:AX)(ay:BB W u f Z)(a:G G6)(r:G M)(a2:∀bh∈a,bh.g f)(bf:a.length<=1000)(bl:W+1000000<=500000000)(bk:f.i*14+3*a.length<f.cm)(bb:f.ah=[]):
 Z9 639 [P o,Q p a.length an] (.t p (a.flatMap Dy++r) 732::.u (A2 (a.map Dq))::u.a o f Z)
  λv a5=>∃aw ax,Du u aw/\BB (W+210*a.length) aw (f.ez a) ax/\v=N 0/\a5=.t p (a.flatMap Dy++r) 732::.u (A2 (a.map Dq))::aw.a o (f.ez a) ax:=by
 have ba:=cW o W p an u f Z ay a r a2 bf;refine A9.t (L ?_);refine A9.b ba (L ?_);refine EY.f (m:=B×AR×AX) (λm=>a.length-m.1) (λm=>m.1<=a.length/\Du u m.2.1/\BB (W+210*m.1) m.2.1 (f.ez (a.take m.1)) m.2.2/\(f.ez (a.take m.1)).ah=[]/\f.cm<=(f.ez (a.take m.1)).cm+3*m.1/\(f.ez (a.take m.1)).t=f.t/\(f.ez (a.take m.1)).i=f.i) (λm=>[(0,P o),(6,O E 0 0),(17,Q p a.length an),(18,N (a.length:B)),(19,N (m.1:B))]) (λm=>.t p (a.flatMap Dy++r) 732::.u (A2 (a.map Dq))::m.2.1.a o (f.ez (a.take m.1)) m.2.2) (0,u,Z) ⟨Af _,Du.b u,ay,bb,AI _,A,A⟩ ⟨A,A,A,A,A,AA⟩ (show AQ _ (.t p (a.flatMap Dy++r) 732::.u (A2 (a.map Dq))::u.a o f Z) from AQ.b) ?_;rintro⟨l,S,x⟩ ⟨bd,aq,t,y,ak,aa,af⟩ av;dsimp only at bd aq t y ak aa af av⊢;refine EY.b (IK.mk (λz=>?_) (λz=>?_))
 ·have z:l<a.length:=by simp at z;omega
  obtain⟨j,ah⟩:∃j,a[l]?=C j:=⟨_,Aw z⟩;have q:=a2 j (FW ah);have au:f.ez (a.take (l+1))=(f.ez (a.take l)).et j.b j.a:=by
   unfold K.ez;rw[KW,ah,KQ];rfl
  obtain⟨n,ao⟩:∃n,f.ez (a.take l)=n:=⟨_,A⟩;rw[ao] at au t y ak aa af;rw[ao];have aj:j.b<n.v:=by have:=q.nC;unfold K.v;omega
  have bm:n.cm<=n.bc+1:=by unfold K.cm;omega
  have a0:=ADE o (W+210*l) j.b S n x t Y Y y aj j.e j.c 128 j.f j.d 5 j.a q.nB Y Y q.nA q.nD;have ag:=t.a;have bg:=ag.nD;have ar:=K.re ag Y Y t.b.i aj (q:=j.a) (by rw[q.nB];omega) q.nA;have a3:=K.xn ag Y Y aj (q:=j.a) (by rw[q.nB];omega) q.nA y;have a1:=K.xm ag Y Y aj (q:=j.a) (by rw[q.nB];omega) q.nA y;have az:JW (f.ez (a.take (l+1))=n.et j.b j.a/\(n.et j.b j.a).ah=[]/\f.cm<=(n.et j.b j.a).cm+3*(l+1)/\(n.et j.b j.a).t=f.t/\(n.et j.b j.a).i=f.i):=Ap ⟨au,a1,by have:=ar.nA;omega,by rw[ar.nB,aa],by rw[a3,af]⟩;have be:a.length-(l+1)<a.length-l:=Y;clear ar a1 a3 ao y aa af ak au q ag bg t;refine A7 ?_;refine Ms.mk (v:=AV (Dy j).toArray) (UR (f:=Dy) (λ_=>A) ah) ?_;intro bj;refine A7 ?_;refine A9.b (Z8 o S n x E 0) ?_;refine L ?_;refine A9.w (a:=Dq j::(S.a o n x++[.u (A2 ((a.eraseIdx l).map Dq)),.t p (a.flatMap Dy++r) 732])) ?_ ?_
  ·exact AQ.t (AQ.b (g:=.u (A2 (a.map Dq))::(S.a o n x++[.t p (a.flatMap Dy++r) 732]))) ((c6 (a:=Dq) ah _).t AQ.b)
  refine A9.u a0 ?_;rintro v bi ⟨al,ai,bc,a4,rfl,rfl⟩;obtain⟨am,ap⟩:∃am,n.et j.b j.a=am:=⟨_,A⟩;rw[ap] at a4 az;rw[ap];clear ap a0;refine L ?_;refine F'.mk ((l+1:B):F) Y2 ?_;obtain⟨U,a6,a7,a8,a9⟩:=az.out;refine av (l+1,al,ai) ⟨by show l+1<=a.length;omega,aq.a bc,?_,?_,?_,?_,?_⟩ be ⟨A,A,A,A,A,AA⟩ ?_
  ·show BB _ al (f.ez (a.take (l+1))) ai;rw[U];exact a4.d Y
  ·show(f.ez (a.take (l+1))).ah=[];rw[U];exact a6
  ·show f.cm<=(f.ez (a.take (l+1))).cm+3*(l+1);rw[U];exact a7
  ·show(f.ez (a.take (l+1))).t=f.t;rw[U];exact a8
  ·show(f.ez (a.take (l+1))).i=f.i;rw[U];exact a9
  ·show AQ _ (.t p (a.flatMap Dy++r) 732::.u (A2 (a.map Dq))::al.a o (f.ez (a.take (l+1))) ai);rw[U];exact AQ.t (AQ.b (g:=Dq j::.u (A2 ((a.eraseIdx l).map Dq))::.t p (a.flatMap Dy++r) 732::al.a o am ai)) ((c5 (a:=Dq) ah _).t AQ.b)
 ·have z:l=a.length:=by simp at z;omega
  clear av;subst z;rw[LZ] at t⊢;clear y ak aa af;refine A9.b (Z8 o S (f.ez a) x E 0) (L ?_);exact⟨_,AQ.b (g:=.t p (a.flatMap Dy++r) 732::.u (A2 (a.map Dq))::S.a o (f.ez a) x),S,x,aq,t,A,A⟩
def g3(m p a:B)(n:AR)(f:K)(o:AX)(u:BB p n f o)(Y:p+10<=500000000)(ag:a<f.t):
 Z9 177 [P m,N a] (n.a m f o) λaa y=>∃q r l j,Du n q/\BB (p+2) q (f.dt a).2 r/\(j.drop 0).take 128=(f.dp a).map W/\(f.dp a).length=128/\aa=AL #[Q l 128 128,N 0]/\y=.t l j 5::q.a m (f.dt a).2 r:=by
 have U:=Xo m p a n f o u Y (by unfold K.v;omega);have Z:=u.c.e;have ah:=Aa ((a:F)<0);have ai:=Aa ((a:F)≥(f.t:F));refine A9.t ?_;refine L ?_;refine A9.b (IV n.c o.a) ?_;rw[Z];refine L ?_;refine A9.u U ?_;rintro v af ⟨x,t,l,j,z,G,M,S,rfl,rfl⟩;refine L ?_;exact⟨_,AQ.b (g:=.t l j 5::x.a m (f.dt a).2 t),x,t,l,j,z,G,M,S,A,A⟩
abbrev AR.ax(a:AR)(l:B)(f:K)(j:AX):S:=
 [.t l (a.j f) 292,.t a.x (AZ (Ab f) 70) 295,.t a.d (a.u f l) 394,.t a.ac (f.g.map CH) 30,.o a.y (AM a.e a.g),
  AJ a.al f.ac [],.o a.am (AM a.ah a.ai),.u (A2 (a.w.a (f.ae.map AD) 3)),.u (A2 (a.z.a (f.bj.flatMap AW) 326)),.u (A2 (a.aa.a (f.ax.flatMap AW) 326)),.u (A2 (a.ak.a (f.ah.flatMap L6) 502)),
  .u (A2 (FO a.h a.t a.i f.h (AH f.h.length))),
  .t a.ab [P a.f,Q a.b.b f.aa.length a.b.f,D1 f.aq,D Au f.av,Ah (C a.b.d)] 477,BJ a.b.b f.aa a.b.h,.o a.b.d (AM (C6 f.bn a.b.a a.b.g a.b.j) a.b.s),Dr f.bn a.b.a a.b.i,
  .t a.f [Cd 53 (P a.c),P a.c,N 192,Ah (C a.s),N j.c] 277,.o a.s (AM #[] 0),.u (CB a.c j.a)]
def ABV(j:AR){f:BL}(q:f∈j.ae):∃l:S,∀a,AQ (.u (A2 j.ae)::a) (f::.u (A2 l)::a)/\AQ (f::.u (A2 l)::a) (.u (A2 j.ae)::a):=by
 obtain⟨n,o,p⟩:=List.append_of_mem q;have m:j.ae.Perm (f::(n++o)):=by rw[p];exact EE
 exact⟨n++o,λa=>⟨(AQ.ac _ _).t ((AQ.u (m.append_right a)).t (AQ.z _ (AQ.aa _ _))),(AQ.z _ (AQ.ac _ _)).t ((AQ.u (m.symm.append_right a)).t (AQ.aa _ _))⟩⟩
def mU(q:K.ad l n)(r:p<n.v):(n.dt p).1=n.dp p:=by
 obtain⟨a,m⟩:=K.hh q r;unfold K.dt;obtain⟨j,u⟩:∃j,j=n.be p:=⟨_,A⟩;rw[<-u] at a m⊢;obtain⟨o,x⟩:=j;cases o with
 |none=>exact(K.ja a.symm).symm
 |some f=>
  have t:=(q.nA.nA.nC p f r a.symm).1;show(x.ay f).take n.aj=_;rw[K.jb a.symm,(m.nB.nA.nA f t).2]
def AC7(r:K.ad l n)(t:p<n.v):∀f∈n.dp p,f<256:=by
 cases o:n.ba p with
 |none=>
  rw[K.ja o];intro f a;have:=(FX.1 a).2;omega
 |some j=>
  rw[K.jb o];intro f a;have a:=EW a;unfold K.ay at a;rw[AY] at a;cases m:(n.w j.a).a[j.b]? with
  |none=>rw[m] at a;cases a
  |some q=>rw[m] at a;exact r.nN j.a j.b q m f a
def K.lr(f:K)(a:G (B×G B)):K:={f with cs:=a}
def ABW(f:K.ad l n)(j:G (B×G B)):K.bz l n (n.lr j) 0:=by
 obtain⟨a,z⟩:=K.ft (r:=n.lr j) f.nA.nA A;have y:=f;obtain⟨am,S,af,U,ah,q,t,r,ag,x,ai,m,aa,al,Y,ak,p,W,Q,u,aj,N,P,o,Z,V,F,L,M⟩:=y;refine⟨⟨f.nA.nK a.nB a.nA a.nC A A A A A A,S,af,U,ah,q,t,r,ag,x,ai,m,aa,al,Y,ak,p,W,Q,u,aj,N,P,o,Z,V,F,L,M⟩,a,?_⟩;rw[K.fr z A A A A A A];exact AI _
def ABX(r:BB l xr n yf){m:G (B×G B)}(t:∀f,(m.find? λj=>j.1==f)=if f=p then C (p,q) else n.cs.find? λj=>j.1==f)(U:q.length<=64)(W:∀N∈q,N<256)(af:q.length+er.length<=BP)(aa:Da yp (DC xr.aj (p:F) (Q np q.length (q.length+er.length))))(Z:El yp xu):
 BB l {xr with ah:=yp,aj:=DC xr.aj (p:F) (Q np q.length (q.length+er.length)),ai:=xu,ae:=AJ np q er::xr.ae} (n.lr m) yf:=by
 refine⟨(ABW r.a m).nA,?_,r.c⟩;obtain⟨⟨ag,ak,al,am,an,ao,ap⟩,aq,ar,au,av,aw,⟨a1,a2,az,a0⟩,ax⟩:=r.b;refine⟨⟨ag,ak,al,am,an,ao,ap⟩,aq,ar,au,av,aw,⟨aa,Z,λf a=>?_,λf j a=>?_⟩,ax⟩
 ·have a:(m.find? λj=>j.1==f)=E:=a;rw[t] at a;by_cases o:f=p
  ·rw[A8 o] at a;cases a
  ·rw[A1 o] at a;rw[M9,A1 Y];exact az f a
 ·have a:(m.find? λj=>j.1==f)=C j:=a;rw[t] at a;by_cases o:f=p
  ·subst o;rw[A8 A,EX] at a;subst a;exact⟨U,W,np,er,af,by rw[M9,A8 A],Bt ..⟩
  ·rw[A1 o] at a;obtain⟨u,x,S,ay,y,z,L⟩:=a0 f j a;exact⟨u,x,S,ay,y,by rw[M9,A1 Y];exact z,By _ L⟩
def ABU(f:AR)(a:BL)(j:S):AQ (a::.u (A2 f.ae)::j) (.u (A2 (a::f.ae))::j):=(AQ.z _ (AQ.ac _ _)).t (AQ.aa (a::f.ae) _)
def gP(n:B)(q:AR)(p:K)(l:AX)(o:AC (G B))(v:M)(j:S):Prop:=match o with
 |none=>v=AL #[O E 0 0,X I]/\j=q.a n p l
 |some a=>∃m f,a.length+f.length<=BP/\v=AL #[Q m a.length (a.length+f.length),X R]/\j=AJ m a f::q.a n p l
def gR(o an f:B)(m:AR)(a:K)(y:AX)(u:BB an m a y)(b1:an+10<=500000000)(b7:f<16):
 Z9 172 [P o,N f] (m.a o a y) λb4 br=>∃a7 a9,Du m a7/\BB (an+2) a7 (a.hf f).2 a9/\gP o a7 (a.hf f).2 a9 (a.hf f).1 b4 br:=by
 have ca:=Aa ((f:F)<0);have cb:=Aa ((f:F)≥16);refine A9.t ?_;cases ak:a.cs.find? (λp=>p.1==f) with
 |some p=>
  obtain⟨cc,cd,aa,ao,ce,b5,b6⟩:=u.b.d.d f p ak;have Z:a.hf f=(C p.2,a):=by unfold K.hf;rw[ak]
  rw[Z];clear ak Z;refine L ?_;refine E7.b (yq:=_) (yb:=_) (yp:=m.ah) (yi:=m.ai) (yx:=m.aj) A A A A A A A u.b.d.a ?_;rw[b5];refine L ?_;obtain⟨a8,bd⟩:=ABV m b6;refine A9.w (a:=AJ aa p.2 ao::.u (A2 a8)::m.ax o a y) ?_ ?_
  ·exact(AQ.b (g:=.u (A2 m.ae)::m.ax o a y)).t (bd _).1
  refine A9.u (HT aa 0 p.2.length (p.2.length+ao.length) p.2 (p.2.map W++ao) 5 Y AFc A) ?_;rintro v ap ⟨au,a5,bu,rfl,rfl⟩;refine L ?_;refine⟨AJ au p.2 a5::m.a o a y,?_,m,y,Du.b m,u.d Y,au,a5,bu,A,A⟩;refine(AQ.b (g:=AJ aa p.2 ao::.u (A2 a8)::AJ au p.2 a5::m.ax o a y)).t ((bd _).2.t ?_);exact AQ.b
 |none=>
  have bn:=u.b.d.c f ak;have az:a.t+f<a.v:=by unfold K.v;omega
  have ax:=Xo o an (a.t+f) m a y u b1 az;have am:=mU u.a az;have bo:∀U∈a.dp (a.t+f),U<256:=AC7 u.a az;have M:a.hf f=if(a.dp (a.t+f)).getD 0 0=1/\(a.dp (a.t+f)).getD 1 0<=64 then(C (((a.dp (a.t+f)).drop 2).take ((a.dp (a.t+f)).getD 1 0)),{(a.dt (a.t+f)).2 with cs:=(f,((a.dp (a.t+f)).drop 2).take ((a.dp (a.t+f)).getD 1 0))::(a.dt (a.t+f)).2.cs}) else(E,(a.dt (a.t+f)).2):=by
   unfold K.hf;rw[ak];obtain⟨a4,b2⟩:∃a4,a4=a.dt (a.t+f):=⟨_,A⟩;rw[<-b2] at am⊢;obtain⟨b,b9⟩:=a4;dsimp only at am⊢;rw[am]
  obtain⟨G,bk⟩:∃G,a.dp (a.t+f)=G:=⟨_,A⟩;rw[bk] at ax bo M;obtain⟨r,be⟩:∃r,(a.dt (a.t+f)).2=r:=⟨_,A⟩;rw[be] at ax M;obtain⟨S,bf⟩:∃S,G.getD 0 0=S:=⟨_,A⟩;obtain⟨l,bg⟩:∃l,G.getD 1 0=l:=⟨_,A⟩;rw[bf,bg] at M;obtain⟨ba,ay⟩:∃ba,a.hf f=ba:=⟨_,A⟩;rw[ay] at M;rw[ay];have al:=Ap M;clear bk be am M ay;refine L ?_;refine E7.b (yq:=_) (yb:=_) (yp:=m.ah) (yi:=m.ai) (yx:=m.aj) A A A A A A A u.b.d.a ?_;rw[bn];have b8:=u.a.nF;refine A7 ?_;refine A9.u ax ?_;rintro v ap ⟨n,z,aa,bb,aw,af,ag,bc,rfl,rfl⟩;have bp:=SJ ag (np:=0) Y bc;have a3:=SJ ag (np:=1) Y bc;rw[bf] at bp;rw[bg] at a3;clear bn;have ag:=Ap ag;refine A7 ?_;refine Ms.mk (v:=W S) (by exact bp) ?_;by_cases bh:S=1
  ·subst bh;refine A7 ?_;refine Ms.mk (v:=W l) (by exact a3) ?_;by_cases bi:l<=64
   ·have bq:=Aa ((l:F)>64);have Z:=Ap (al.out.trans (A8 ⟨A,bi⟩));clear al;refine A7 ?_;refine Ms.mk (v:=W l) (by exact a3) (L ?_);refine F'.mk ((l+2:B):F) (by rw[MW Y];omega) (L ?_);refine Qp.mk 2 (l+2) 128 (0+2*1) A A A ⟨Y,Y,Y⟩ A A ?_;rw[show l+2-2=l by omega];have bj:(bb.drop (0+2*1)).take l=((G.drop 2).take l).map W:=by
     have:=ag.out;rw[CJ] at this;rw[Hk,Hj,<-this,List.drop_take,List.take_take,show Bj l (128-2)=l by omega]
    obtain⟨j,a0⟩:∃j,(G.drop 2).take l=j:=⟨_,A⟩;have a1:j.length=l:=by rw[<-a0,Ci,DV];omega
    have b3:∀U∈j,U<256:=λU x=>bo U (by rw[<-a0] at x;exact EP (EW x));rw[a0] at bj Z;refine L ?_;refine A9.u (HT aa (0+2*1) l (128-2) j bb 5 Y bj a1) ?_;rintro v ap ⟨t,q,bv,rfl,rfl⟩;refine L ?_;rw[<-a1];refine Cr.ae (ak:=n.aj) (a:=n.ah) (l:=n.ai) A A A A A A af.b.d.a af.b.d.b (λar aq bl bt=>?_);have bs:=ABX af (p:=f) (q:=j) (m:=(f,j)::r.cs) (λa2=>by
     rw[List.find?_cons];by_cases x:a2=f
     ·subst x;simp
     ·rw[A1 x];have:(f==a2)=I:=Y5;rw[show((f,j).1==a2)=I from this]) Y b3 (by rw[a1];exact bv) bl bt
    have bm:Cu ((f:B):F) (DC n.aj ((f:B):F) (Q t j.length (j.length+q.length)))=C (Q t j.length (j.length+q.length)):=by rw[M9,A8 A]
    refine L ?_;refine E7.b (yq:=_) (yb:=_) (yp:=ar) (yi:=aq) (yx:=DC n.aj ((f:B):F) (Q t j.length (j.length+q.length))) A A A A A A A bl ?_;rw[bm];clear bm;refine L ?_;refine A9.u (HT t 0 j.length (j.length+q.length) j (j.map W++q) 5 Y AFc A) ?_;rintro v ap ⟨av,a6,bx,rfl,rfl⟩;obtain rfl:=Z.out;refine L ?_;refine⟨AJ av j a6::AR.a {n with ah:=ar,aj:=DC n.aj (f:F) (Q t j.length (j.length+q.length)),ai:=aq,ae:=AJ t j q::n.ae} o (r.lr ((f,j)::r.cs)) z,?_,_,z,aw.a ⟨_,_,_,_,_,_,_,_,_,_,_,_,_,_,_,A⟩,bs,av,a6,bx,A,A⟩;refine(AQ.b (g:=AJ t j q::.u (A2 n.ae)::AJ av j a6::AR.ax {n with ah:=ar,aj:=DC n.aj (f:F) (Q t j.length (j.length+q.length)),ai:=aq,ae:=AJ t j q::n.ae} o (r.lr ((f,j)::r.cs)) z)).t ((ABU n _ _).t ?_);exact AQ.b
   ·have bq:=B7 ((l:F)>64);obtain rfl:=al.out.trans (A1 (λx=>bi x.2));refine L ?_;exact⟨_,AQ.b (g:=n.a o r z),n,z,aw,af,A,A⟩
  ·have bq:((S:F)!=1)=R:=AF1;obtain rfl:=al.out.trans (A1 (λx=>bh x.1));refine L ?_;exact⟨_,AQ.b (g:=n.a o r z),n,z,aw,af,A,A⟩
def dR(j:B)(m:AR)(a:K)(l:AX)(r:a.j.length=70)(p:8<=a.ho):
 AK 612 [P j] (m.a j a l) (N 0):=by
 have n:=Vr j m a l r;obtain⟨f,q⟩:∃f,a.ho=f:=⟨_,A⟩;rw[q] at n p;have o:AK 615 [N (f:B),N 8] [] (N 0):=by
  have t:=B7 ((f:F)≥8);refine A9.t ?_;refine L ?_;exact⟨_,.w _,A,A⟩
 refine A9.t (L ?_);refine A9.b n (L ?_);refine A9.b o (L ?_);exact⟨_,AQ.b (g:=m.a j a l),A,A⟩
def K.ok(a:K):B:=Bj (a.bq/70/100+1) 11
def i2(j f:B)(u:f<=1000000000):
 AK 642 [Q j 70 70] [.t j (N f::U 69 (N 0)) 3] (N (Bj (f/70/100+1) 11:B)):=by
 refine A9.t ?_;refine L ?_;refine EY.f (m:=B) (λa=>70-a) (λa=>a<=70) (λa=>[(0,Q j 70 70),(3,N (if a=0 then 0 else f:B)),(9,Q j 70 70),(10,N 70),(11,N (a:B))]) (λa=>[.t j (N f::U 69 (N 0)) 3]) 0 (Af _) ⟨A,A,A,A,A,AA⟩ AQ.b ?_;intro a t q;refine EY.b (IK.mk (λl=>?_) (λl=>?_))
 ·have l:a<70:=by simp at l;omega
  have p:(D H f::U 69 (N 0))[a]?=C (N (if a=0 then f else 0:B)):=by
   cases a with
   |zero=>rfl
   |succ a=>rw[List.getElem?_cons_succ,List.getElem?_replicate,A8 Y,A1 Y];rfl
  refine A7 ?_;refine Ms.mk (v:=N (if a=0 then f else 0:B)) (by show(D H f::U 69 (N 0))[0+a*1]?=_;rw[BF,B3];exact p) ?_;clear p;have r:(if a=0 then f else 0)+(if a=0 then 0 else f)=f:=by split<;>omega
  obtain⟨m,n⟩:∃m,(if a=0 then f else 0)=m:=⟨_,A⟩;obtain⟨b,o⟩:∃b,(if a=0 then 0 else f)=b:=⟨_,A⟩;rw[n,o] at r;rw[n,o];clear n o;refine L ?_;refine F'.mk ((m:B):F) (by rw[A1 Y]) (L ?_);refine F'.mk ((m:B):F) (by rw[A1 Y]) (L ?_);refine F'.mk ((f:B):F) Y4 (L ?_);exact F'.mk ((a+1:B):F) Y2 (q (a+1) (by show a+1<=70;omega) (by show 70-(a+1)<70-a;omega) ⟨A,A,A,A,A,AA⟩ AQ.b)
 ·have l:a=70:=by simp at l;omega
  subst l;clear q;refine L ?_;rw[A1 (by decide:¬(70=0))];refine A' ?_;refine F'.mk ((f/70:B):F) (by rw[show((f:B):F).tdiv ((70:B):F)=((f/70:B):F) from A];exact A3 Y) (A' ?_);refine F'.mk ((f/70/100:B):F) (by rw[show((f/70:B):F).tdiv 100=((f/70/100:B):F) from A];exact A3 Y) (L ?_);refine F'.mk ((f/70/100+1:B):F) Y2 (L ?_);refine F'.mk ((Bj (f/70/100+1) 11:B):F) (by split<;>omega) (L ?_);exact⟨_,AQ.b (g:=[.t j (N f::U 69 (N 0)) 3]),A,A⟩
def fX(f l:B)(m:AR)(a:K)(j:AX)(p:a.bq<=l)(o:l<=1000000000):
 AK 637 [P f] (m.a f a j) (N (a.ok:B)):=by
 refine A9.t ?_;refine L ?_;refine Cr.t (m:=_) (u:=_) (p:=70) (j:=70) A A A A A A ⟨Z,Z,Z⟩ (N 0::U 69 (N 0)) (DM _ _) (λn=>?_);refine L ?_;refine F'.mk ((a.bq:B):F) (by split<;>omega) (A7 ?_);refine A9.b (i2 n a.bq Y) (L ?_);exact⟨_,AQ.b (g:=m.a f a j),A,A⟩
def K.lj(a:K):B:=4*(a.t+16)+a.ac.length+24*70+16*a.g.length+2*192
def g1(m:B)(f:AR)(a:K)(o:AX)(x:a.t<=100000)(u:a.ac.length<=100000)(t:a.g.length<=100000):
 AK 138 [P m] (f.a m a o) (N (a.lj:B)):=by
 have r:=Qy m f a x;have p:AK 222 [P f.d] [.t f.d (f.u a m) 394] (N (a.g.length:B)):=by
  refine A9.t ?_;refine L ?_;exact⟨_,AQ.b (g:=[.t f.d (f.u a m) 394]),A,A⟩
 obtain⟨j,n⟩:∃j,a.ac.length=j:=⟨_,A⟩;obtain⟨l,q⟩:∃l,a.g.length=l:=⟨_,A⟩;have y:a.lj=4*(a.t+16)+j+1680+16*l+384:=by unfold K.lj;rw[n,q]
 rw[y];rw[n] at u;rw[q] at t p;refine A9.t ?_;refine L ?_;refine F'.mk ((1680:B):F) A ?_;refine L ?_;refine F'.mk ((192:B):F) A (L ?_);refine F'.mk ((384:B):F) A (L ?_);refine A9.b r (L ?_);refine F'.mk ((4*(a.t+16):B):F) Y4 (L ?_);refine F'.mk ((4*(a.t+16)+j:B):F) (by rw[n,A3 Y];omega) (L ?_);refine F'.mk ((4*(a.t+16)+j+1680:B):F) Y4 (L ?_);refine A9.b p ?_;refine L ?_;refine F'.mk ((16*l:B):F) Y4 (L ?_);refine F'.mk ((4*(a.t+16)+j+1680+16*l:B):F) Y4 (L ?_);refine F'.mk ((4*(a.t+16)+j+1680+16*l+384:B):F) Y4 (L ?_);exact⟨_,AQ.b (g:=f.a m a o),A,A⟩
def K.fa(a:K):B->K
 |0=>a
 |f+1=>(a.fa f).dq
def b5(j:G B):∀a:K,j.foldl (λn _=>n.dq) a=a.fa j.length:=by
 have m:∀(f:B)(a:K),a.dq.fa f=(a.fa f).dq:=λf=>by
  induction f with
  |zero=>intro a;rfl
  |succ f l=>intro a;show(a.dq.fa f).dq=_;rw[l];rfl
 induction j with
 |nil=>intro a;rfl
 |cons o j l=>intro a;rw[DN,l,C8];exact m _ _
def ABA(a:K):a.fb=(a.ce.fa a.ce.ae.length).ea:=by
 unfold K.fb;rw[b5]
def b6(a:K.ad l n)(j:n.i*8<n.bc)(f:n.ae=p::q):n.dq.ae=q/\n.dq.i=n.i:=by
 unfold K.dq;rw[f];exact⟨A,(K.cj (K.hq a.nA.nA p (K.dx (p:=0) a Y))).nA⟩
def YP(n t:B)(W:AR)(m:K)(ah:AX)(ay:BB t W m ah)(bp:t+4000<=500000000)(bn:m.i*9+40<=m.bc)(bb:m.ah=[]):
 Z9 169 [P n] (W.a n m ah) (Kj n (t+3000) W m.fb (N 0)):=by
 have Z:=Pr n t W m ah ay Y;obtain⟨z,ao,ap⟩:=K.km ay.a;have aa:=(St m).trans bb;have af:=K.sr m;rw[ABA];obtain⟨a,ak⟩:∃a,m.ce=a:=⟨_,A⟩;rw[ak] at Z z ao ap aa af;rw[ak];clear ak;refine A9.t (L ?_);refine A9.u Z ?_;rintro v au ⟨a3,av,bd,bh,rfl⟩;have bq:a.ae.length<=12:=by
  have bm:=Wf z.nO.1 z.nO.2;have:=z.nJ;omega
 refine L ?_;refine EY.f (m:=B×AR×AX) (λj=>a.ae.length-j.1) (λj=>j.1<=a.ae.length/\Du W j.2.1/\BB (t+12+200*j.1) j.2.1 (a.fa j.1) j.2.2/\(a.fa j.1).ae=a.ae.drop j.1/\(a.fa j.1).ah=[]/\a.bc<=(a.fa j.1).bc+2*j.1/\(a.fa j.1).i=m.i) (λj=>[(0,P n)]) (λj=>j.2.1.a n (a.fa j.1) j.2.2) (0,a3,av) ⟨Af _,bd,bh,A,aa,AI _,af⟩ ⟨A,AA⟩ (show AQ _ (a3.a n a av) from AQ.b) ?_;rintro⟨f,a4,aw⟩ ⟨be,an,r,G,p,ag,S⟩ ar;dsimp only at be an r G p ag S ar⊢;have q:=r.a;have bg:=q.nD;obtain⟨l,y⟩:∃l,a.fa f=l:=⟨_,A⟩;have al:a.fa (f+1)=l.dq:=by rw[<-y];rfl
 rw[y] at r G p ag S q bg;rw[y];obtain⟨bl,br,aq⟩:=r.b.g.nA;have ai:=UP n (t+12+200*f) a4 l aw r Y Y p;have az:=(K.pr q Y r.b.i).1.nD;have aj:=K.pq q Y p;have bo:l.ae.length=a.ae.length-f:=by rw[G,DV]
 refine EY.b ?_;apply Ms.mk;focus rfl
 rw[aq];by_cases bi:f<a.ae.length
 ·have bk:=B7 ((l.ae.length:F)>0);have a0:JW ((a.fa (f+1)).ae=a.ae.drop (f+1)/\(a.fa (f+1)).ah=[]/\a.bc<=(a.fa (f+1)).bc+2*(f+1)/\(a.fa (f+1)).i=m.i/\a.fa (f+1)=l.dq):=Ap (by
   rw[al];have bc:l.ae=a.ae[f]::a.ae.drop (f+1):=by rw[G];exact HF bi
   obtain⟨a5,a6⟩:=b6 q Y bc;exact⟨a5,aj,Y,a6.trans S,A⟩)
  have bf:a.ae.length-(f+1)<a.ae.length-f:=Y;clear al y aj az q S ag p G aq Z z ao ap aa af;refine L ?_;refine A9.u ai ?_;rintro v au ⟨M,u,am,U,rfl,rfl⟩;clear ai;obtain⟨x,o⟩:∃x,l.dq=x:=⟨_,A⟩;rw[o] at U a0;rw[o];clear o;refine L ?_;obtain⟨a7,a8,a9,ba,ax⟩:=a0.out;refine ar (f+1,M,u) ⟨by show f+1<=a.ae.length;omega,an.a am,?_,a7,a8,a9,ba⟩ bf ⟨A,AA⟩ ?_
  ·show BB _ M (a.fa (f+1)) u;rw[ax];exact U.d Y
  ·show AQ _ (M.a n (a.fa (f+1)) u);rw[ax];exact AQ.b
 ·have bk:=Aa ((l.ae.length:F)>0);have bj:f=a.ae.length:=Y;have a1:=Vf n (t+12+200*f) a4 l aw r Y Y p;have a2:a.fa a.ae.length=l:=by rw[<-bj,y]
  rw[a2];clear a2 al y aj az q S ag p G aq Z z ao ap aa af ai ar;refine L ?_;refine A9.u a1 ?_;rintro v au ⟨M,u,am,U,rfl,rfl⟩;clear a1;obtain⟨x,o⟩:∃x,l.ea=x:=⟨_,A⟩;rw[o] at U;rw[o];clear o;refine L ?_;exact⟨_,AQ.b (g:=M.a n x u),M,u,an.a am,U.d Y,A,A⟩
structure A6 where
 d:B
 b:B
 f:B
 s:B
 c:B
 i:B
 u:B
def BM:A6:=⟨8,48,2,4,6,6,2⟩
abbrev IP(a:A6):G M:=[N 70,N a.d,N 128,N a.b,N a.f,N a.s,N a.c,N a.i,N a.u]
abbrev DA(a:A6):M:=AV (IP a).toArray
def cF(v a f:F):AK 153 [N v,N a,N f] [] (X (Ac (v≥a)&&Ac (v<=f))):=by
 refine A9.t ?_;cases h1:Ac (v≥a) with
 |false=>
  refine L ?_;exact⟨_,.w _,A,A⟩
 |true=>
  refine L ?_;exact⟨_,.w _,A,A⟩
def Sy(a b:B)(l:0<b)(n:a<=100000/\b<=100000):AK 155 [N a,N b] [] (N ((a+b-1)/b:B)):=by
 refine A9.t (L ?_);refine F'.mk ((a+b:B):F) Y2 (L ?_);refine F'.mk ((a+b-1:B):F) Y4 (A' ?_);obtain⟨f,j⟩:∃f,(a+b-1)/b=f:=⟨_,A⟩;have m:f<=200000:=by rw[<-j];exact D9 (Iv _ _) Y
 refine F'.mk ((f:B):F) (by rw[show((a+b-1:B):F).tdiv (b:F)=(((a+b-1)/b:B):F) from A,j];exact A3 Y) ?_;rw[j];refine L ?_;exact⟨_,.w _,A,A⟩
def Uk(f a:B)(o:0<a)(q:f<=10000/\a<=1000):AK 240 [N f,N a] [] (N ((f+a-1)/a+((f+a-1)/a+2-1)/2:B)):=by
 have r:=Aa ((a:F)<1);have m:=Sy f a o Y;obtain⟨j,l⟩:∃j,(f+a-1)/a=j:=⟨_,A⟩;have p:j<=20000:=by rw[<-l];exact D9 (Iv _ _) Y
 rw[l] at m;rw[l];have n:=Sy j 2 Y Y;refine A9.t ?_;refine L ?_;refine A9.b m (L ?_);refine A9.b n (A7 ?_);exact⟨_,.w _,A,A⟩
def A6.y(a:A6):B:=(a.b+a.d-1)/a.d+((a.b+a.d-1)/a.d+2-1)/2+((2*a.f+a.s+a.d/2-1)/(a.d/2)+((2*a.f+a.s+a.d/2-1)/(a.d/2)+2-1)/2)+24+a.u
structure A6.e(a:A6):Prop where
 nA:a.d=8\/a.d=16
 nC:1<=a.b/\a.b<=256
 nI:1<=a.f/\a.f<=8
 nE:1<=a.s/\a.s<=8
 nD:1<=a.c/\a.c<=a.b
 nG:a.b%a.c=0
 nJ:a.b/a.c<=32
 nF:a.i<=64
 nK:a.u<=70
 nH:a.y<=70
def Ht:BM.e:=⟨Z,Z,Z,Z,Z,Z,Z,Z,Z,Z⟩
def j9(a:A6)(q:a.e):AK 154 [DA a,N 0] [] (N (a.y:B)):=by
 obtain⟨u,x,y,z,G,M,P,Q,S,l⟩:=q;have o:=Uk a.b a.d Y Y;have p:=Uk (2*a.f+a.s) (a.d/2) Y Y;unfold A6.y at l⊢;obtain⟨f,m⟩:∃f,(a.b+a.d-1)/a.d+((a.b+a.d-1)/a.d+2-1)/2=f:=⟨_,A⟩;obtain⟨j,n⟩:∃j,(2*a.f+a.s+a.d/2-1)/(a.d/2)+((2*a.f+a.s+a.d/2-1)/(a.d/2)+2-1)/2=j:=⟨_,A⟩;rw[m] at o l;rw[n] at p l;rw[m,n];clear m n;refine A9.t ?_;intro t;refine L ?_;refine F'.mk 0 A (L ?_);refine F'.mk 0 (by rw[A1 Y]) (L ?_);refine F'.mk (a.b:F) Y4 (L ?_);refine F'.mk ((2*a.f:B):F) Y4 (L ?_);refine F'.mk ((2*a.f+a.s:B):F) Y4 (L ?_);refine F'.mk ((2*a.f+a.s:B):F) Y4 (L ?_);refine Mt.mk Z (F'.mk ((a.d/2:B):F) (by rw[show((a.d:B):F).tdiv 2=((a.d/2:B):F) from A];exact A3 Y) (L ?_));refine A9.b o ?_;refine L ?_;refine A9.u p ?_;rintro v r ⟨rfl,rfl⟩;refine L ?_;refine F'.mk ((f+j:B):F) Y2 (L ?_);refine F'.mk ((f+j+24:B):F) Y2 (L ?_);refine F'.mk ((f+j+24+a.u:B):F) Y2 (L ?_);exact⟨_,AQ.b (g:=[]),A,A⟩
def JA(v f a:F)(j:f<=v/\v<=a):AK 153 [N v,N f,N a] [] (X R):=by
 refine A9.ab (cF v f a) ?_;rw[DH j.1,DH j.2];exact⟨A,A⟩
def P3(a:A6)(l:a.e):AK 79 [DA a] [] (N 0):=by
 have p:=j9 a l;obtain⟨t,u,x,y,z,n,o,G,M,r⟩:=l;refine A9.t ?_;intro q;refine L ?_;refine A9.u (JA _ _ _ Y) ?_;rintro v f ⟨rfl,rfl⟩;refine L ?_;refine A9.u (JA _ _ _ Y) ?_;rintro v f ⟨rfl,rfl⟩;refine A7 ?_;refine F'.mk 0 (by rw[show((a.d:B):F).tmod 2=((a.d%2:B):F) from A];omega) (L ?_);refine A9.u (JA _ _ _ Y) ?_;rintro v f ⟨rfl,rfl⟩;refine A' ?_;refine F'.mk 0 A (L ?_);refine A9.u (JA _ _ _ Y) ?_;rintro v f ⟨rfl,rfl⟩;refine L ?_;refine A9.u (JA _ _ _ Y) ?_;rintro v f ⟨rfl,rfl⟩;refine L ?_;refine A9.u (JA _ _ _ Y) ?_;rintro v f ⟨rfl,rfl⟩;refine L ?_;refine A9.u (JA _ _ _ Y) ?_;rintro v f ⟨rfl,rfl⟩;refine A7 ?_;refine F'.mk 0 (by rw[show((a.b:B):F).tmod (a.c:F)=((a.b%a.c:B):F) from A,n];rfl) (A7 ?_);obtain⟨j,m⟩:∃j,a.b/a.c=j:=⟨_,A⟩;rw[m] at o;refine F'.mk (j:F) (by rw[show((a.b:B):F).tdiv (a.c:F)=((a.b/a.c:B):F) from A,m];exact A3 Y) ?_;have P:=B7 ((j:F)<=32);refine L ?_;refine A9.u (JA _ _ _ Y) ?_;rintro v f ⟨rfl,rfl⟩;refine L ?_;refine A9.u (JA _ _ _ Y) ?_;rintro v f ⟨rfl,rfl⟩;refine L ?_;have Q:=Aa ((a.y:F)>70);refine A9.u p ?_;rintro v f ⟨rfl,rfl⟩;refine L ?_;exact⟨_,AQ.b (g:=[]),A,A⟩
def A6.a(a:A6):B:=a.b+2*a.f+a.s
def ACI(a:A6)(f:a.e):AK 245 [DA a] [] (N (a.a:B)):=by
 obtain⟨m,n,o,p,q,r,t,u,x,l⟩:=f;refine A9.t ?_;intro j;refine L ?_;refine F'.mk ((2*a.f:B):F) Y4 (L ?_);refine F'.mk ((a.b+2*a.f:B):F) Y4 (L ?_);refine F'.mk ((a.a:B):F) (by unfold A6.a;rw[A3 Y];omega) (L ?_);exact⟨_,AQ.b (g:=[]),A,A⟩
def Vg(a:A6)(u:a.e)(M l j m:B)(f:AX)(p:B)(r:G D4)(N S t:B)(n:C3 M f p r N S t)(y:p=a.d):
 AK 159 [DA a,P l] (f.b l j m) (X R):=by
 have x:=P3 a u;have z:f.a.t=a.d:=by rw[n.t,y]
 have o:=LJ j f.a n.d;rw[z] at o;refine A9.t ?_;intro U;refine L ?_;refine A9.u o ?_;rintro v q ⟨rfl,rfl⟩;refine L ?_;refine A9.u x ?_;rintro v q ⟨rfl,rfl⟩;have W:((a.d:F)==(a.d:F))=R:=beq_self_eq_true _;refine L ?_;refine F'.mk 192 A (L ?_);refine A9.b (PG l j m f) ?_;refine L ?_;exact⟨_,AQ.b (g:=f.b l j m),A,A⟩
inductive Mx:G M->B->M->G M->Prop
 |y {f v:M} {a:G M}:Mx (f::a) 0 v (v::a)
 |u {f v:M} {a j:G M} {l:B}:Mx a l v j->Mx (f::a) (l+1) v (f::j)
def Mx.t{v:M}(a:Mx er l v yj):er.set l v=yj:=by
 induction a with
 |y=>rfl
 |u _ f=>rw[Mj,f]
inductive FI:G M->B->G M->G M->Prop
 |y {a:G M} {f:B}:FI a f [] a
 |u {a j l m:G M} {v:M} {f:B}:Mx a f v j->FI j (f+1) m l->FI a f (v::m) l
def FI.t{a f j:G M}(m:FI a l j f):Bf a l j=f:=by
 induction m with
 |y=>rfl
 |u n _ o=>unfold Bf;rw[n.t];exact o
def Ms.u{a U V W Y Z aa af j l m n o p q:G M}{y z F L N P Q t u r x:B}{f:M->Prop}(an:B9 yb=a)(ag:FI a y U j)(ah:FI j z V l)(ai:FI l F W m)(aj:FI m L Y n)(ak:FI n N Z o)(al:FI o P aa p)(am:FI p Q af q)
 (ao:Ms (.t t q xt::lg) u r x za f):Ms (.t t (B9 (AV (Bf (Bf (Bf (Bf (Bf (Bf (Bf (B9 yb) y U) z V) F W) L Y) N Z) P aa) Q af).toArray)) xt::lg) u r x za f:=by
 rw[an,ag.t,ah.t,ai.t,aj.t,ak.t,al.t,am.t];exact ao
def Lz{a L N P Q U V W f j l m n o p:G M}{r t u x y z F q:B}(aj:B9 yb=a)(Y:FI a r L f)(Z:FI f t N j)(aa:FI j u P l)(af:FI l x Q m)(ag:FI m y U n)(ah:FI n z V o)(ai:FI o F W p):
 AQ (.t q (B9 (AV (Bf (Bf (Bf (Bf (Bf (Bf (Bf (B9 yb) r L) t N) u P) x Q) y U) z V) F W).toArray)) xt::lg) (.t q p xt::lg):=by
 rw[aj,Y.t,Z.t,aa.t,af.t,ag.t,ah.t,ai.t];exact .w _
abbrev Fe(a:A6)(l n f j o m:B):G M:=
 T (V l)::IP a++[N o,T E,T E,Q j m m,Q f 70 70,
  N (-1),N (-1),N (-1),D Au 0,D Au 0,D Au 0,N 0,N (-1),N 0,Ah (C n),
  D Au 0,N 0,N 0,O E 0 0,N 0,N 0,O E 0 0,O E 0 0,O E 0 0]
def Uj(o:A6)(x:o.e)(r:B):Z9 161 [DA o,P r] [] λS M=>∃n l j f,S=P n/\M=[.t n (Fe o r l j f o.a ((o.a+7)/8)) 292,AJ f (U ((o.a+7)/8) 0) [],.o l (AM #[] 0),.t j (AZ (λ_=>Cl Cq.e) 70) 295]:=by
 have u:=ACI o x;have N:o.a<=300:=by
  obtain⟨ag,ah,ai,aj,ak,al,am,an,ao,af⟩:=x;unfold A6.a;omega
 obtain⟨a,y⟩:∃a,o.a=a:=⟨_,A⟩;rw[y] at u N;rw[y];obtain⟨m,q⟩:∃m,(a+7)/8=m:=⟨_,A⟩;have ap:m<=100:=Y;rw[q];have q:=Ap q;obtain⟨p,t⟩:∃p,D8 (Cl Cq.e) (70*6)=p:=⟨_,A⟩;have G:AZ (λ_=>Cl Cq.e) 70=p:=by rw[<-t];exact(ZG (Cl Cq.e) Z 70).symm
 rw[G];have t:=Ap t;clear G y x;refine A9.t ?_;intro aa;refine L ?_;have z:(List.take 9 (List.drop 0 (B9 (DA o)))).toArray=(IP o).toArray:=A;rw[z];clear z;refine⟨?_,?_,?_⟩
 ·refine L ?_;refine A9.b u ?_;refine L ?_;refine⟨?_,?_⟩
  ·refine L ?_;refine Cr.t (m:=_) (u:=_) (p:=70) (j:=70) A A A A A A ⟨Z,Z,Z⟩ p (by exact t.out) (λj=>?_);refine L ?_;refine L ?_;intro l;refine L ?_;intro n;conv=>whnf
   refine Ms.u A Y0 Y0 Y0 Y0 Y0 Y0 Y0 (L ?_);refine F'.mk ((a+7:B):F) Y2 (A' ?_);refine F'.mk ((m:B):F) (by rw[show((a+7:B):F).tdiv 8=(((a+7)/8:B):F) from A,q.out];exact A3 Y) (L ?_);refine Cr.u (Lz A Y0 Y0 Y0 Y0 Y0 Y0 Y0) (Cr.t (m:=_) (u:=_) (p:=m) (j:=m) A A A A A A ⟨AI _,by show 1*m<=_;omega,Y⟩ ((U m 0).map W++[]) (by rw[B1,FF];show D8 [W 0] (m*1)=_;rw[B3];exact DM _ _) (λf=>?_));refine A7 ?_;exact⟨_,AQ.b (g:=[.t n (Fe o r l j f a m) 292,AJ f (U m 0) [],.o l (AM #[] 0),.t j p 295]),n,l,j,f,A,A⟩
  ·refine L ?_;intro l;refine L ?_;refine L ?_;refine Cr.t (m:=_) (u:=_) (p:=70) (j:=70) A A A A A A ⟨Z,Z,Z⟩ p (by exact t.out) (λj=>?_);refine L ?_;intro n;conv=>whnf
   refine Ms.u A Y0 Y0 Y0 Y0 Y0 Y0 Y0 (L ?_);refine F'.mk ((a+7:B):F) Y2 (A' ?_);refine F'.mk ((m:B):F) (by rw[show((a+7:B):F).tdiv 8=(((a+7)/8:B):F) from A,q.out];exact A3 Y) (L ?_);refine Cr.u (Lz A Y0 Y0 Y0 Y0 Y0 Y0 Y0) (Cr.t (m:=_) (u:=_) (p:=m) (j:=m) A A A A A A ⟨AI _,by show 1*m<=_;omega,Y⟩ ((U m 0).map W++[]) (by rw[B1,FF];show D8 [W 0] (m*1)=_;rw[B3];exact DM _ _) (λf=>?_));refine A7 ?_;exact⟨_,AQ.b (g:=[.t n (Fe o r l j f a m) 292,AJ f (U m 0) [],.o l (AM #[] 0),.t j p 295]),n,l,j,f,A,A⟩
 ·refine L ?_;refine Cr.t (m:=_) (u:=_) (p:=70) (j:=70) A A A A A A ⟨Z,Z,Z⟩ p (by exact t.out) (λj=>?_);refine L ?_;refine⟨?_,?_⟩
  ·refine L ?_;refine A9.b u (L ?_);refine L ?_;intro l;refine L ?_;intro n;conv=>whnf
   refine Ms.u A Y0 Y0 Y0 Y0 Y0 Y0 Y0 (L ?_);refine F'.mk ((a+7:B):F) Y2 (A' ?_);refine F'.mk ((m:B):F) (by rw[show((a+7:B):F).tdiv 8=(((a+7)/8:B):F) from A,q.out];exact A3 Y) (L ?_);refine Cr.u (Lz A Y0 Y0 Y0 Y0 Y0 Y0 Y0) (Cr.t (m:=_) (u:=_) (p:=m) (j:=m) A A A A A A ⟨AI _,by show 1*m<=_;omega,Y⟩ ((U m 0).map W++[]) (by rw[B1,FF];show D8 [W 0] (m*1)=_;rw[B3];exact DM _ _) (λf=>?_));refine A7 ?_;exact⟨_,AQ.b (g:=[.t n (Fe o r l j f a m) 292,AJ f (U m 0) [],.o l (AM #[] 0),.t j p 295]),n,l,j,f,A,A⟩
  ·refine L ?_;intro l;refine L ?_;refine L ?_;refine A9.b u ?_;refine L ?_;intro n;conv=>whnf
   refine Ms.u A Y0 Y0 Y0 Y0 Y0 Y0 Y0 (L ?_);refine F'.mk ((a+7:B):F) Y2 (A' ?_);refine F'.mk ((m:B):F) (by rw[show((a+7:B):F).tdiv 8=(((a+7)/8:B):F) from A,q.out];exact A3 Y) (L ?_);refine Cr.u (Lz A Y0 Y0 Y0 Y0 Y0 Y0 Y0) (Cr.t (m:=_) (u:=_) (p:=m) (j:=m) A A A A A A ⟨AI _,by show 1*m<=_;omega,Y⟩ ((U m 0).map W++[]) (by rw[B1,FF];show D8 [W 0] (m*1)=_;rw[B3];exact DM _ _) (λf=>?_));refine A7 ?_;exact⟨_,AQ.b (g:=[.t n (Fe o r l j f a m) 292,AJ f (U m 0) [],.o l (AM #[] 0),.t j p 295]),n,l,j,f,A,A⟩
 ·refine L ?_;intro l;refine L ?_;refine⟨?_,?_⟩
  ·refine L ?_;refine A9.b u (L ?_);refine L ?_;refine Cr.t (m:=_) (u:=_) (p:=70) (j:=70) A A A A A A ⟨Z,Z,Z⟩ p (by exact t.out) (λj=>?_);refine L ?_;intro n;conv=>whnf
   refine Ms.u A Y0 Y0 Y0 Y0 Y0 Y0 Y0 (L ?_);refine F'.mk ((a+7:B):F) Y2 (A' ?_);refine F'.mk ((m:B):F) (by rw[show((a+7:B):F).tdiv 8=(((a+7)/8:B):F) from A,q.out];exact A3 Y) (L ?_);refine Cr.u (Lz A Y0 Y0 Y0 Y0 Y0 Y0 Y0) (Cr.t (m:=_) (u:=_) (p:=m) (j:=m) A A A A A A ⟨AI _,by show 1*m<=_;omega,Y⟩ ((U m 0).map W++[]) (by rw[B1,FF];show D8 [W 0] (m*1)=_;rw[B3];exact DM _ _) (λf=>?_));refine A7 ?_;exact⟨_,AQ.b (g:=[.t n (Fe o r l j f a m) 292,AJ f (U m 0) [],.o l (AM #[] 0),.t j p 295]),n,l,j,f,A,A⟩
  ·refine L ?_;refine Cr.t (m:=_) (u:=_) (p:=70) (j:=70) A A A A A A ⟨Z,Z,Z⟩ p (by exact t.out) (λj=>?_);refine L ?_;refine L ?_;refine A9.b u ?_;refine L ?_;intro n;conv=>whnf
   refine Ms.u A Y0 Y0 Y0 Y0 Y0 Y0 Y0 (L ?_);refine F'.mk ((a+7:B):F) Y2 (A' ?_);refine F'.mk ((m:B):F) (by rw[show((a+7:B):F).tdiv 8=(((a+7)/8:B):F) from A,q.out];exact A3 Y) (L ?_);refine Cr.u (Lz A Y0 Y0 Y0 Y0 Y0 Y0 Y0) (Cr.t (m:=_) (u:=_) (p:=m) (j:=m) A A A A A A ⟨AI _,by show 1*m<=_;omega,Y⟩ ((U m 0).map W++[]) (by rw[B1,FF];show D8 [W 0] (m*1)=_;rw[B3];exact DM _ _) (λf=>?_));refine A7 ?_;exact⟨_,AQ.b (g:=[.t n (Fe o r l j f a m) 292,AJ f (U m 0) [],.o l (AM #[] 0),.t j p 295]),n,l,j,f,A,A⟩
def A6.h(a:A6):G B:=[70,a.d,128,a.b,a.f,a.s,a.c,a.i,a.u].flatMap λv=>AS v 4
def Eo(a b:B):G M:=if b<a then Cl K.iv else Cl Cq.e
def Ui(a b:B):(Eo a b).length=6:=by unfold Eo;split<;>rfl
def cH(j:l<70):(AZ (Eo l) 70).set (l*6+0) (N 3)=AZ (Eo (l+1)) 70:=by
 rw[Js (s:=6) (Ui l) Z _ j];refine F4 λb _=>?_;unfold Eo;by_cases a:b=l
 ·subst a;rw[A8 A,A1 (Nat.lt_irrefl b),A8 (Nat.lt_succ_self b)];rfl
 ·rw[A1 a];by_cases f:b<l
  ·rw[A8 f,A8 Y]
  ·rw[A1 f,A1 Y]
abbrev L2(j:A6)(p a l y q n o z r m:B)(t:C0)(f:AX)(u:G M)(x:G B):S:=
 [.t y (Fe j p q n o r m) 292,AJ o x [],.o q (AM #[] 0),.t n u 295,.t z (IP j) 27,.u t,
  .t p [Cd 53 (P a),P a,N 192,Ah (C l),N f.c] 277,.o l (AM #[] 0),.u (CB a f.a)]
def AQ.ag(f:AQ lg yn)(a:S):AQ (lg++a) (yn++a):=(AQ.u Cj).t ((AQ.ah f a).t (AQ.u Cj))
abbrev CC(a:B):G M:=[AD a]
def Es:D6:=⟨E,0,0,[],[]⟩
def Jt(a:A6)(p o j q m r u n l F:B)(G:D0):AR:=
 {f:=p,c:=o,s:=j,aw:=a.b,ap:=a.f,au:=a.s,ar:=a.c,aq:=a.i,av:=a.u,d:=q,ac:=m,y:=r,e:=#[],v:=[],g:=0,h:=λ_=>0,t:=λ_=>0,i:=λ_=>[],ab:=u,b:=G,al:=n,x:=l,am:=F,ah:=#[],aj:=[],ai:=0,ae:=[],w:=Es,z:=Es,aa:=Es,ak:=Es,af:=0}
def SN(m n:B->B)(o:B->G M){l:G (AC CG)}(j:∀a,l.getD a E=E):∀f:G B,FO m n o l f=[]
 |[]=>A
 |a::f=>by
  have:=SN m n o j f;unfold FO at this⊢;rw[FE,this];unfold FP;rw[j a];rfl
def Vn(l f:B)(j a:G B):(FK (K.cb l f j 0 a) (K.cb l f j 0 a).aa).cr E=K.eh l f j a:=by
 show((((K.cb l f j 0 a).cx 0 I).cx 1 I).cx 2 I).cr E=_;rw[K.kb,K.kb,K.kb];rfl
abbrev K.cv(l f:B)(j a:G B):K:=(K.eh l f j a).ii 0 (C 0,C 0) [] 0 0
def fY(a:A6)(F l z y q o r t p n x f m:B)(L:D0)(j:G B)(Z:AX)(ar:j.length=m)(ay:S):
 AQ (.t F (Cb (Cb (Fe a l x n p f m) (0+11) (P q)) (0+12) (P t)) 292::([AJ p j [],.o x (AM #[] 0),.t n (AZ (Eo 3) 70) 295,.t q [N (f+16:B),N 128,N (f+16:B),Cd 299 (AV #[P F]),Ah (C r),Q o ((f+16-1)/32+1) ((f+16-1)/32+1),N 0] 394,.t o (U ((f+16-1)/32+1) (CH 0)) 30,.o r (AM #[] 0)]++(L.c t l (Bx (K.eh a.d f a.h j))++Z.b l z y)))
  ((Jt a l z y q o r t p n x L).a F (K.cv a.d f a.h j) Z):=by
 obtain⟨aa,ai,ak,af,aj,al,am,M⟩:∃aa ai ak af aj al am,K.eh a.d f a.h j={K.cb a.d f a.h 3 j with ab:=aa,bd:=ai,u:=ak,bv:=af,aq:=aj,av:=al,bn:=am}:=MK _ E _ (K.cb a.d f a.h 3 j);have an:AZ (Eo 3) 70=AZ (Ab (K.cv a.d f a.h j)) 70:=F4 λb _=>by
  unfold Ab Eo K.cv;rw[M];show _=Cl ((K.cb a.d f a.h 3 j).b b);rw[K.ir];split<;>rfl
 have ax:FO (λ_=>0) (λ_=>0) (λ_=>[]) (K.cv a.d f a.h j).h (AH (K.cv a.d f a.h j).h.length)=[]:=SN _ _ _ (λah=>by
  unfold K.cv;rw[M];show(K.cb a.d f a.h 3 j).h.getD ah E=E;exact K.jm ah) _
 have ag:(K.cv a.d f a.h j).g=U ((f+16-1)/32+1) 0:=by unfold K.cv;rw[M];rfl
 have aw:(Jt a l z y q o r t p n x L).u (K.cv a.d f a.h j) F=[N (f+16:B),N 128,N (f+16:B),Cd 299 (AV #[P F]),Ah (C r),Q o ((f+16-1)/32+1) ((f+16-1)/32+1),N 0]:=by
  unfold AR.u;rw[ag,BI];unfold K.cv;rw[M];rfl
 have ao:(Jt a l z y q o r t p n x L).j (K.cv a.d f a.h j)=Cb (Cb (Fe a l x n p f m) (0+11) (P q)) (0+12) (P t):=by
  unfold K.cv;rw[M];subst ar;rfl
 have ap:(K.cv a.d f a.h j).g.map CH=U ((f+16-1)/32+1) (CH 0):=by rw[ag,FF]
 have au:(K.cv a.d f a.h j).ac=j:=by unfold K.cv;rw[M];rfl
 rw[ABy];show AQ _ ([.t F ((Jt a l z y q o r t p n x L).j (K.cv a.d f a.h j)) 292,.t n (AZ (Ab (K.cv a.d f a.h j)) 70) 295,.t q ((Jt a l z y q o r t p n x L).u (K.cv a.d f a.h j) F) 394,.t o ((K.cv a.d f a.h j).g.map CH) 30,.o r (AM #[] 0),AJ p (K.cv a.d f a.h j).ac [],.o x (AM #[] 0),.u (A2 []),.u (A2 []),.u (A2 []),.u (A2 []),.u (A2 []),.u (A2 (FO (λ_=>0) (λ_=>0) (λ_=>[]) (K.cv a.d f a.h j).h (AH (K.cv a.d f a.h j).h.length)))]++(L.c t l (Bx (K.eh a.d f a.h j))++Z.b l z y));rw[ao,<-an,aw,ap,au,ax];have W:∀Y:S,AQ Y (.u (A2 [])::Y):=λY=>AQ.aa [] Y;refine(W _).t ((W _).t ((W _).t ((W _).t ((W _).t ((W _).t ?_)))));exact AQ.b
def fZ(a:A6)(W:a.e)(aw au an ax ap ay az ar ao a0 f n:B)(x:D0)(j:G B)(y:AX)(a5:1<=f/\f<=300)(a4:j.length=(f+7)/8)(a3:∀t∈j,t<256)(ba:D0.e (n+50) x (Bx (K.eh a.d f a.h j)))(a8:B2 (n+50) y (K.eh a.d f a.h j)):
 BB (n+60) (Jt a aw au an ax ap ay az ar ao a0 x) (K.cv a.d f a.h j) y:=by
 have a7:a.h.length=36:=A;have a1:=K.nx (np:=a.d) (d:=f) (a:=a.h) (c:=j) W.nA ⟨a5.1,Y⟩ a7 a4 a3;obtain⟨z,af,ah,L,ag,ai,aj,F⟩:∃z af ah L ag ai aj,K.eh a.d f a.h j={K.cb a.d f a.h 3 j with ab:=z,bd:=af,u:=ah,bv:=L,aq:=ag,av:=ai,bn:=aj}:=MK _ E _ (K.cb a.d f a.h 3 j);have a2:=(K.jk (a1.nA.nE (show 1<=n+60 by omega)) (AI _) (l:=0) (o:=(C 0,C 0)) (q:=[]) (p:=0) (np:=0) (Af _) ⟨λb r=>by cases r;decide,λb r=>by cases r;decide⟩ ⟨O7,nofun⟩ (Af _) (Af _)).nA;refine⟨a2,?_,a8.a Y⟩;have bb:D0.e (n+60) x (Bx (K.cv a.d f a.h j)):=ba.nC Y;have a9:(U ((f+15)/(128/4)+1) (E:AC CG)).length<=16:=by rw[BI];omega
 have aa:∀m,(K.cv a.d f a.h j).h.getD m E=E:=λm=>by
  unfold K.cv;rw[F];show(K.cb a.d f a.h 3 j).h.getD m E=E;exact K.jm m
 have p:Es.e 1 0/\Es.e 8 0/\Es.e 2 0:=⟨⟨λ_=>A,A,⟨AI 0,Z⟩,AI 0⟩,⟨λ_=>A,A,⟨AI 0,Z⟩,AI 0⟩,⟨λ_=>A,A,⟨AI 0,Z⟩,AI 0⟩⟩;have o:(K.cv a.d f a.h j).bj=[]/\(K.cv a.d f a.h j).ax=[]/\(K.cv a.d f a.h j).ah=[]/\(K.cv a.d f a.h j).cs=[]/\(K.cv a.d f a.h j).bb=a.h/\(K.cv a.d f a.h j).i=a.d/\(K.cv a.d f a.h j).h=U ((f+15)/(128/4)+1) E:=by
  unfold K.cv;rw[F];exact⟨A,A,A,A,A,A,A⟩
 obtain⟨o,M,ak,al,am,N,S⟩:=o;refine⟨⟨A,El.b,λm _=>by rw[aa];rfl,?_,by rw[S];exact a9,λbq t l=>(by rw[aa] at l;cases l),⟨O7,nofun⟩⟩,bb,p.1,⟨⟨by rw[o];exact p.2.2,A,A,by rw[o];rfl⟩,AT A⟩,⟨⟨by rw[M];exact p.2.2,A,A,by rw[M];rfl⟩,AT A⟩,by rw[ak];exact p.2.1,⟨A,El.b,λbc _=>A,λbc t l=>by rw[al] at l;cases l⟩,?_,?_⟩
 ·rw[S];have:(U ((f+15)/(128/4)+1) (E:AC CG)).filter Ix=[]:=by
   rw[List.filter_eq_nil_iff];intro be a6;rw[(FX.1 a6).2];exact nofun
  rw[this];rfl
 ·rw[am,N];rfl
 ·rw[N];intro v q;obtain⟨bg,bh,bi,bj,bk,bl,bm,bo,bp,bf⟩:=W;have q:v∈[70,a.d,128,a.b,a.f,a.s,a.c,a.i,a.u]:=q;simp only[C2,List.mem_nil_iff,or_false] at q;omega
def j0:[0,1,2].mergeSort=[0,1,2]:=by simp[AE4,List.merge,List.MergeSort.Internal.splitInTwo]
def g0(f:A6)(ar:f.e)(l q x:B)(aa:AX)(ax:B)(bi:C3 ax aa f.d (U 70 ⟨I,[]⟩) 0 0 0)(d5:ax+5000<=500000000)(ag:C0)(ay:B)(c9:Func)(a3 a2:G M)(df:A4.h ay=C c9)(af:B->AE)
 (az:∀bm,bm<f.a->AK ay (a3++[AD bm]++a2) [.u ag] (X (af bm))):
 Z9 84 [DA f,P l,BZ (CA ay) a3.toArray a2.toArray] (.u ag::aa.b l q x) λv c7=>∃o ak cg,v=AL #[P o,Hf]/\(ak.f=l/\ak.c=q/\ak.s=x/\ak.aw=f.b/\ak.ap=f.f/\ak.au=f.s/\ak.ar=f.c/\ak.aq=f.i/\ak.av=f.u/\ak.af=0)/\BB (ax+4000) ak (K.iu 128 f.d f.a 70 f.h af) cg/\c7=.u ag::ak.a o (K.iu 128 f.d f.a 70 f.h af) cg:=by
 have co:=Vg f ar ax l q x aa f.d _ 0 0 0 bi A;have cm:=Uj f ar l;have dp:=bi.e;refine A9.t ?_;intro ai;refine L ?_;refine A9.b co (L ?_);refine A9.b (IV q aa.a) ?_;rw[dp];refine L ?_;refine A9.u cm ?_;rintro v ba ⟨o,S,z,y,rfl,rfl⟩;refine L ?_;have cb:1<=f.a/\f.a<=300:=by
  obtain⟨am,be,br,da,dx,d0,d1,d2,d3,dw⟩:=ar;unfold A6.a;omega
 obtain⟨p,bj⟩:∃p,f.a=p:=⟨_,A⟩;rw[bj] at cb az;rw[bj];have bj:=Ap bj;have dl:(p+7)/8<=100:=Y;obtain⟨m,au⟩:∃m,(p+7)/8=m:=⟨_,A⟩;rw[au] at dl;rw[au];have au:=Ap au;have cp:∀b:B,b<70->AK 605 [P q,N b] [.u (CB q aa.a)] (N 0):=λb db=>by
  have am:=NU q b bi db;have be:(BD (U 70 (⟨I,[]⟩:D4)) b).a.length=0:=by
   unfold BD;rw[K.ib];rfl
  rw[be] at am;exact am
 clear co cm;refine EY.f (m:=B) (λa=>70-a) (λa=>a<=70) (λa=>[(1,P l),(2,BZ (CA ay) a3.toArray a2.toArray),(3,P ai),(8,P o),(34,N 70),(35,N (a:B))]) (λa=>.t o (Fe f l S z y p m) 292::AJ y (U m 0) []::.o S (AM #[] 0)::.t z (AZ (λ_=>Cl Cq.e) 70) 295::.t ai (IP f) 27::.u ag::aa.b l q x) 0 (Af _) ⟨A,A,A,A,A,A,AA⟩ AQ.b ?_;intro a dj al;refine EY.b (IK.mk (λr=>?_) (λr=>?_))
 ·have r:a<70:=by simp at r;omega
  refine L ?_;refine A9.b (NL l q x a aa) (L ?_);refine A9.b (cp a r) (L ?_);exact F'.mk ((a+1:B):F) Y2 (al (a+1) (by show a+1<=70;omega) (by show 70-(a+1)<70-a;omega) ⟨A,A,A,A,A,A,AA⟩ AQ.b)
 clear al cp;have d8:=Aa ((0:F)>(f.u:F));refine L ?_;refine A9.b (c4 l q x aa) ?_;refine L ?_;refine EY.f (m:=B×B×B×G M) (λn=>70-n.1) (λn=>n.1<=70/\DI 1 (AH (Bj n.1 3)) n.2.2.1 n.2.2.2) (λn=>[(1,P l),(2,BZ (CA ay) a3.toArray a2.toArray),(3,P ai),(8,P o),(11,Bm n.2.1 n.2.2.1 (AH (Bj n.1 3))),(69,N 70),(70,N (n.1:B))]) (λn=>L2 f l q x o S z y ai p m ag aa (AZ (Eo (Bj n.1 3)) 70) (U m 0)++BX 3 CC n.2.1 (AH (Bj n.1 3)) n.2.2.2) (0,0,0,[]) ⟨Af _,⟨AI 0,Z,A⟩⟩ ⟨A,A,A,A,A,A,A,AA⟩ ?_ ?_
 ·show AQ _ (L2 f l q x o S z y ai p m ag aa (AZ (Eo 0) 70) (U m 0)++[]);rw[B1];exact AQ.b
 rintro⟨j,aj,a1,an⟩ ⟨dg,a9⟩ al;dsimp only at dg a9⊢;refine EY.b (IK.mk (λr=>?_) (λr=>?_))
 ·have r:j<70:=by simp at r;omega
  refine L ?_;refine A9.w (a:=L2 f l q x o S z y ai p m ag aa (AZ (Eo (Bj j 3)) 70) (U m 0)++BX 3 CC aj (AH (Bj j 3)) an) (.w _) ?_;obtain⟨dv,bm,a8⟩:=N0 aj a1 (AH (Bj j 3));have bk:(AH (Bj j 3)).length=Bj j 3:=Dj;rw[bk] at a8;refine A9.b (NL l q x j aa) (L ?_);rw[a8];by_cases br:j<3
  ·have c6:=B7 (((Bj j 3:B):F)<3);have dd:Cb (AZ (Eo j) 70) (0+j*6+0) (N 3)=AZ (Eo (j+1)) 70:=by rw[BF];exact cH r
   have a0:Bj j 3=j:=Y;rw[a0] at a8 c6 a9 bk;rw[a0];refine L ?_;intro cl;refine Cr.u (l:=(.t cl [AD j] 3::L2 f l q x o S z y ai p m ag aa (AZ (Eo j) 70) (U m 0))++BX 3 CC aj (AH j) an) ?_ ?_
   ·show AQ ((.t cl [AD j] 3::(aa.b l q x++[.t o (Fe f l S z y p m) 292,AJ y (U m 0) [],.o S (AM #[] 0),.t z (AZ (Eo j) 70) 295,.t ai (IP f) 27,.u ag]))++BX 3 CC aj (AH j) an) _;exact AQ.ag AQ.b _
   refine Cr.z (f:=CC) (n:=_) (a1:=_) (m:=1) (h:=AH j) A A A (by rw[a8];rfl) A A A ⟨A,Z⟩ Cj (λn=>⟨A,A⟩) [j] A A Z a9 ⟨by rw[bk];omega,Z⟩ (λbp cj c2 cu=>?_);have ds:AH j++[j]=AH (j+1):=List.range_succ.symm;rw[ds] at cu⊢;refine L ?_;refine Qh.mk j A r (Mw.mk ⟨A,by rw[Db (Ui j)];omega⟩ (L ?_));refine F'.mk ((j+1:B):F) Y2 ?_;have b5:Bj (j+1) 3=j+1:=Y;refine al (j+1,bp,cj,c2) ⟨by show j+1<=70;omega,by show DI 1 (AH (Bj (j+1) 3)) _ _;rw[b5];exact cu⟩ (by show 70-(j+1)<70-j;omega) ⟨A,A,A,A,?_,A,A,AA⟩ ?_
   ·show _=C (Bm bp cj (AH (Bj (j+1) 3)));rw[b5,E1 Y1,show(AH (j+1)).length=j+1 from Dj,bk];rfl
   ·show AQ _ (L2 f l q x o S z y ai p m ag aa (AZ (Eo (Bj (j+1) 3)) 70) (U m 0)++BX 3 CC bp (AH (Bj (j+1) 3)) c2);rw[b5,Dw Y1,<-dd];exact AQ.al _ _ _
  ·have c6:=Aa (((Bj j 3:B):F)<3);have a0:Bj j 3=Bj (j+1) 3:=Y;refine L ?_;refine F'.mk ((j+1:B):F) Y2 (al (j+1,aj,a1,an) ⟨by show j+1<=70;omega,by rw[<-a0];exact a9⟩ (by show 70-(j+1)<70-j;omega) ⟨A,A,A,A,?_,A,A,AA⟩ ?_)
   ·show _=C (Bm aj a1 (AH (Bj (j+1) 3)));rw[<-a0,a8];rfl
   ·show AQ _ (L2 f l q x o S z y ai p m ag aa (AZ (Eo (Bj (j+1) 3)) 70) (U m 0)++BX 3 CC aj (AH (Bj (j+1) 3)) an);rw[<-a0];show AQ ((aa.b l q x++[.t o (Fe f l S z y p m) 292,AJ y (U m 0) [],.o S (AM #[] 0),.t z (AZ (Eo (Bj j 3)) 70) 295,.t ai (IP f) 27,.u ag])++BX 3 CC aj (AH (Bj j 3)) an) _;exact AQ.ag AQ.b _
 have r:j=70:=by simp at r;omega
 subst r;clear al;have cx:AH (Bj 70 3)=[0,1,2]:=A;rw[cx] at a9⊢;rw[E1 Y1,Dw Y1];refine L ?_;have cn:=K.ub af m;refine EY.f (m:=B) (λa=>p-a) (λa=>a<=p) (λa=>[(1,P l),(2,BZ (CA ay) a3.toArray a2.toArray),(3,P ai),(8,P o),(11,Q aj 3 a1),(97,N p),(98,N (a:B))]) (λa=>.t aj ([0,1,2].flatMap CC++an) 3::L2 f l q x o S z y ai p m ag aa (AZ (Eo 3) 70) (K.gh af m a)) 0 (Af _) ⟨A,A,A,A,A,A,A,AA⟩ ?_ ?_
 ·rw[cn];exact AQ.b
 intro a dj al;refine EY.b (IK.mk (λr=>?_) (λr=>?_))
 ·have r:a<p:=by simp at r;omega
  refine L ?_;conv=>whnf
  rw[df];refine A9.b (az a r) ?_;cases b4:af a with
  |false=>
   have dn:=K.tz af (m:=m) b4;refine L ?_;refine F'.mk ((a+1:B):F) Y2 (al (a+1) (by show a+1<=p;omega) (by show p-(a+1)<p-a;omega) ⟨A,A,A,A,A,A,A,AA⟩ ?_);rw[dn];exact AQ.b
  |true=>
   have b6:a/8<m:=by have:=au.out;omega
   have bl:=K.ua af b4 b6;obtain⟨du,cc⟩:=K.qj af b4;have b3:=K.qh af (j:=a) b6;obtain⟨ce,bf⟩:∃ce,K.gh af m (a+1)=ce:=⟨_,A⟩;obtain⟨ao,a7⟩:∃ao,K.gh af m a=ao:=⟨_,A⟩;obtain⟨n,aw⟩:∃n,K.fq af a (a/8)=n:=⟨_,A⟩;rw[bf,a7,aw] at bl;rw[a7,aw] at b3;rw[aw] at cc;have d4:ao.length=m:=by rw[<-a7];exact K.nt af m a
   rw[a7];have bf:=Ap bf;clear du a7 aw;obtain⟨ap,cw⟩:∃ap,a/8=ap:=⟨_,A⟩;obtain⟨ah,b8⟩:∃ah,a%8=ah:=⟨_,A⟩;have d7:ah<8:=by rw[<-b8];exact Nat.mod_lt _ Z
   rw[cw] at bl b3 b6;rw[b8] at bl cc;have d6:2^ah<=128:=by
    have:2^ah<=2^7:=Nat.pow_le_pow_right Z Y;exact this
   have cv:n|||2^ah=n+2^ah:=by
    have:=Nat.two_pow_add_eq_or_of_lt cc 1;rw[B3] at this;rw[Nat.or_comm,<-this,L_]
   have dr:((ao.map W++[])[0+ap*1]?)=C (W n):=by rw[B1,BF,B3,D_,b3];rfl
   refine A' ?_;refine F'.mk ((ap:B):F) (by rw[show((a:B):F).tdiv 8=((a/8:B):F) from A,cw];exact A3 Y) (A' ?_);refine Ms.mk (v:=W n) (by exact dr) (A7 ?_);refine F'.mk ((ah:B):F) (by rw[show((a:B):F).tmod 8=((a%8:B):F) from A,b8]) (A7 ?_);refine F'.mk ((2^ah:B):F) (by
    have am:=MQ 1 ah 8 Y;rw[T_] at am;exact(AB IntKind.u8.wrap am).trans (MW Y)) ?_
   refine L ?_;refine F'.mk ((n+2^ah:B):F) (by rw[Oc (l:=8) A Y Y (by rw[cv];exact MW Y),cv]) (A' ?_);refine F'.mk ((a+1:B):F) Y2 (al (a+1) (by show a+1<=p;omega) (by show p-(a+1)<p-a;omega) ⟨A,A,A,A,A,A,A,AA⟩ ?_);rw[bf.out,bl];have dt:Cb (ao.map W++[]) (0+ap*1) (W (n+2^ah))=(ao.set ap (n+2^ah)).map W++[]:=by
    rw[B1,B1,BF,B3];show(ao.map W).set ap _=_;rw[J_]
   show AQ _ (_::.t o _ _::.t y ((ao.set ap (n+2^ah)).map W++[]) _::_);rw[<-dt];exact AQ.b
 have r:a=p:=by simp at r;omega
 subst r;clear al cn cx;have bs:AK 166 [P o] [.t o (Fe f l S z y a m) 292] (N (a+16:B)):=by
  refine A9.t ?_;refine L ?_;refine F'.mk ((a+16:B):F) Y2 ?_;refine L ?_;exact⟨_,AQ.b (g:=[.t o (Fe f l S z y a m) 292]),A,A⟩
 have cr:=T1 (a+16) (AV #[P o]) Y;refine L ?_;refine A9.b bs ?_;refine L ?_;refine A9.u bs ?_;rintro v ba ⟨rfl,rfl⟩;refine L ?_;refine A9.u cr ?_;rintro v ba ⟨a5,a6,a4,rfl,rfl⟩;refine A7 ?_;obtain⟨t,az⟩:∃t,K.gh af m a=t:=⟨_,A⟩;have bg:JW (t=K.dj a af):=Ap (by rw[<-az,<-au.out];rfl);rw[az];clear az;have cq:=ABR l q x aj a1 3 (K.cb f.d a f.h 0 t) [0,1,2] ([0,1,2].flatMap CC++an) 3 ax bi A A Z Z Z (by rw[j0];rfl) A ar.nA Y;refine A9.w (a:=[.t o (Cb (Fe f l S z y a m) (0+11) (P a5)) 292,AJ y t [],.o S (AM #[] 0),.t z (AZ (Eo 3) 70) 295,.u ag,.t a5 [N (a+16:B),N 128,N (a+16:B),Cd 299 (AV #[P o]),Ah (C a6),Q a4 ((a+16-1)/32+1) ((a+16-1)/32+1),N 0] 394,.t a4 (U ((a+16-1)/32+1) (CH 0)) 30,.o a6 (AM #[] 0)]++(.t aj ([0,1,2].flatMap CC++an) 3::aa.b l q x)) AQ.b (A9.ac cq ?_);rintro v ba ⟨bq,cd,bb,b9,ca,rfl,rfl⟩;refine A7 ?_;rw[Vn] at b9 ca;rw[Vn];have bh:t.length=(a+7)/8:=by rw[bg.out];unfold K.dj;rw[BW,Dj]
 have bt:∀n∈t,n<256:=by
  intro n aw;rw[bg.out] at aw;obtain⟨j,_,rfl⟩:=CI.1 aw;show K.fq af a j<256;exact K.qi af a j
 have cs:=fZ f ar l q x a5 a4 a6 bq y z S a ax cd t bb cb bh bt b9 ca;have dq:f.d*70<=(K.cv f.d a f.h t).bc:=by
  have am:=K.nx (np:=f.d) (d:=a) (a:=f.h) (c:=t) ar.nA ⟨cb.1,Y⟩ A bh bt;have be:=(K.jk am.nA (AI _) (l:=0) (o:=(C 0,C 0)) (q:=[]) (p:=0) (np:=0) (Af _) ⟨λb r=>by cases r;decide,λb r=>by cases r;decide⟩ ⟨O7,nofun⟩ (Af _) (Af _)).nD;have br:=am.nD;rw[K.qp] at br;have da:(K.eh f.d a f.h t).bc<=(K.cv f.d a f.h t).bc+0:=be;omega
 have b7:(K.cv f.d a f.h t).i=f.d/\(K.cv f.d a f.h t).ah=[]:=by
  obtain⟨ci,cz,c1,ck,c0,c3,c5,c8⟩:∃ci cz c1 ck c0 c3 c5,K.eh f.d a f.h t={K.cb f.d a f.h 3 t with ab:=ci,bd:=cz,u:=c1,bv:=ck,aq:=c0,av:=c3,bn:=c5}:=MK _ E _ (K.cb f.d a f.h 3 t);unfold K.cv;rw[c8];exact⟨A,A⟩
 have b1:=YP o (ax+60) _ (K.cv f.d a f.h t) bb cs Y (by rw[b7.1];have:=ar.nA;omega) b7.2;have ct:K.iu 128 f.d a 70 f.h af=(K.cv f.d a f.h t).fb:=by
  rw[K.qt,<-bg.out];rfl
 rw[ct];have b2:=fY f o l q x a5 a4 a6 bq y z S a m cd t bb (by rw[bh,au.out]) [];clear ct dq b7 cs bt bh b9 ca bg cq cr bs;obtain⟨bc,bu⟩:∃bc,K.cv f.d a f.h t=bc:=⟨_,A⟩;rw[bu] at b1 b2;rw[bu];clear bu;refine A9.w (a:=(Jt f l q x a5 a4 a6 bq y z S cd).a o bc bb++[.u ag]) ?_ ?_
 ·refine AQ.t ?_ (AQ.ag b2 [.u ag]);exact AQ.b
 refine A9.u b1 ?_;rintro v ba ⟨d9,ch,de,cy,rfl,rfl⟩;obtain⟨bo,bx⟩:∃bo,bc.fb=bo:=⟨_,A⟩;rw[bx] at cy;rw[bx];clear bx b1 b2;refine L ?_;obtain⟨_,_,_,_,_,_,_,_,_,_,_,_,_,_,_,rfl⟩:=de;exact⟨_,AQ.b (g:=.u ag::AR.a _ o bo ch),o,_,ch,A,⟨A,A,A,A,A,A,A,A,A,A⟩,cy.d Y,A⟩
def K.ex(f:K):B->K
 |0=>f
 |a+1=>((f.ex a).be a).2
def iY(a:K)(f:B):(a.be f).2.ab=a.ab:=by
 show(a.am (f/a.ao)).ab=a.ab;unfold K.am;dsimp only;split<;>rfl
structure aV(a:B)(f j:K):Prop where
 b:K.ad a j
 a:j.t=f.t
 e:j.ac=f.ac
 d:∀l,l<f.v->j.ba l=f.ba l
 c:j.ab=f.ab
def Rc{p:B}{f:K}(m:K.ad p f):∀a,a<=f.t->aV (p+a) f (f.ex a)
 |0,_=>⟨m,A,A,λ_ _=>A,A⟩
 |a+1,x=>by
  obtain⟨q,b,r,t,u⟩:=Rc m a Y;have j:a<(f.ex a).v:=by unfold K.v;omega
  obtain⟨_,l⟩:=K.hh q j;have n:=K.cj (K.kx (f.ex a) a);exact⟨l.nA,n.nI.trans b,n.nH.trans r,λo j=>(l.nB.nG o (by unfold K.v at j⊢;rw[b];exact j)).trans (t o j),(iY _ _).trans u⟩
def eM(j:r.t=n.t)(f:r.ac=n.ac)(a:B):r.dg a=n.dg a:=by unfold K.dg;rw[j,f]
def eL(l am:B)(x:AR)(a:K)(ag:AX)(y:BB am x a ag)(bm:am+1000<=500000000)(t:C0)(an:B)(bd:Func)(av au:G M)(bg:A4.h an=C bd)(a9:B->AE)
 (bf:∀q,q<a.t->AK an (av++[AD q]++au) [.u t] (X (a9 q)))(bk:∀q,q<a.t->a9 q=a.dg q)(bi:∀q u,q<a.t->a.ba q=C u->a.dg q=R->(a.w u.a).b=R):
 Z9 94 [P l,BZ (CA an) av.toArray au.toArray] (.u t::x.a l a ag) λv ba=>∃a1 a3,Du x a1/\BB (am+a.t) a1 (a.ex a.t) a3/\v=N 0/\ba=.u t::a1.a l (a.ex a.t) a3:=by
 have bn:=y.a.nF;refine A9.t ?_;refine L ?_;refine EY.f (m:=B) (λj=>a.t-j) (λj=>j<=a.t) (λj=>[(0,P l),(1,BZ (CA an) av.toArray au.toArray),(5,X I),(15,N a.t),(16,N (j:B))]) (λj=>.u t::x.a l a ag) 0 (Af _) ⟨A,A,A,A,A,AA⟩ AQ.b ?_;intro j bl S;refine EY.b (IK.mk (λo=>?_) (λo=>?_))
 ·have o:j<a.t:=by simp at o;omega
  have ah:=RN l j x a y.a.nL y.a.nT Y Y;have a0:=bk j o;obtain⟨b,ai⟩:∃b,a.dg j=b:=⟨_,A⟩;rw[ai] at ah a0;have a5:=bf j o;rw[a0] at a5;clear ai a0;refine L ?_;conv=>whnf
  rw[bg];refine A9.b a5 (L ?_);refine A9.b ah ?_;have bo:(b !=b)=I:=by cases b<;>rfl
  refine L ?_;exact F'.mk ((j+1:B):F) Y2 (S (j+1) (by show j+1<=a.t;omega) (by show a.t-(j+1)<a.t-j;omega) ⟨A,A,A,A,A,AA⟩ AQ.b)
 clear S;refine L ?_;refine EY.f (m:=B×AR×AX) (λm=>a.t-m.1) (λm=>m.1<=a.t/\Du x m.2.1/\BB (am+m.1) m.2.1 (a.ex m.1) m.2.2) (λm=>[(0,P l),(5,X I),(43,N a.t),(44,N (m.1:B))]) (λm=>.u t::m.2.1.a l (a.ex m.1) m.2.2) (0,x,ag) ⟨Af _,Du.b x,y⟩ ⟨A,A,A,A,AA⟩ (show AQ _ (.u t::x.a l a ag) from AQ.b) ?_;rintro⟨f,a2,ar⟩ ⟨a7,aj,ak⟩ S;dsimp only at a7 aj ak S⊢;have aq:=Rc y.a f a7;have p:a.ex (f+1)=((a.ex f).be f).2:=A;obtain⟨Z,W⟩:∃Z,a.ex f=Z:=⟨_,A⟩;refine EY.b (IK.mk (λo=>?_) (λo=>?_))
 ·have o:f<a.t:=by simp at o;omega
  rw[W] at aq ak p;rw[W];have bh:f<Z.v:=by unfold K.v;have:=aq.a;omega
  have aa:=iZ l (am+f) f a2 Z ar ak Y bh;have ax:=aq.d f (by unfold K.v;omega);have z:=Rc y.a (f+1) Y;rw[p] at z;obtain⟨U,aw⟩:∃U,(Z.be f).2=U:=⟨_,A⟩;rw[aw] at aa p z;have ao:U.dg f=a.dg f:=eM z.a z.e f;have p:=Ap p;rw[ax] at aa;have az:=bi f;cases af:a.ba f with
  |none=>
   rw[af] at aa;clear af ax az ao aw W;refine L ?_;refine A9.u aa ?_;rintro v bb ⟨n,r,ap,al,rfl,rfl⟩;refine L ?_;intro be;refine A' ?_;refine F'.mk ((f+1:B):F) Y2 (S (f+1,n,r) ⟨by show f+1<=a.t;omega,aj.a ap,?_⟩ (by show a.t-(f+1)<a.t-f;omega) ⟨A,A,A,A,AA⟩ ?_)
   ·show BB _ n (a.ex (f+1)) r;rw[p.out];exact al
   ·show AQ _ (.u t::n.a l (a.ex (f+1)) r);rw[p.out];exact AQ.b
  |some u=>
   rw[af] at aa;have bj:u.a<70:=(y.a.nI (y.a.nA.nA.nC f u (by unfold K.v;omega) af).1).1;have ah:=λn:AR=>RN l f n U z.b.nL z.b.nT Y (by have:=z.a;omega);obtain⟨b,ai⟩:∃b,U.dg f=b:=⟨_,A⟩;rw[ai] at ah ao;have ay:b=R->(U.w u.a).b=R:=λbc=>by
    have a4:=az u o af (by rw[<-ao];exact bc);unfold K.w at a4⊢;rw[z.c];exact a4
   have ay:=Ap ay;clear af ax az ao aw W ai;refine L ?_;refine A9.u aa ?_;rintro v bb ⟨n,r,ap,al,rfl,rfl⟩;refine L ?_;intro be;refine A7 ?_;refine A9.b (ah n) ?_;cases b with
   |false=>
    refine L ?_;refine F'.mk ((f+1:B):F) Y2 (S (f+1,n,r) ⟨by show f+1<=a.t;omega,aj.a ap,?_⟩ (by show a.t-(f+1)<a.t-f;omega) ⟨A,A,A,A,AA⟩ ?_)
    ·show BB _ n (a.ex (f+1)) r;rw[p.out];exact al
    ·show AQ _ (.u t::n.a l (a.ex (f+1)) r);rw[p.out];exact AQ.b
   |true=>
    have a6:=S9 n.c u.a al.c bj;have a8:(BD U.ab u.a).b=R:=ay.out A;rw[a8] at a6;clear a8;refine L ?_;refine A9.b a6 (L ?_);refine F'.mk ((f+1:B):F) Y2 (S (f+1,n,r) ⟨by show f+1<=a.t;omega,aj.a ap,?_⟩ (by show a.t-(f+1)<a.t-f;omega) ⟨A,A,A,A,AA⟩ ?_)
    ·show BB _ n (a.ex (f+1)) r;rw[p.out];exact al
    ·show AQ _ (.u t::n.a l (a.ex (f+1)) r);rw[p.out];exact AQ.b
 have o:f=a.t:=by simp at o;omega
 clear S p;subst o;rw[W] at ak;rw[W];clear W aq;refine L ?_;exact⟨_,AQ.b (g:=.u t::a2.a l Z ar),a2,ar,aj,ak,A,A⟩
abbrev AR.ag(f:AR)(a:K)(j l:M):G M:=
 [P f.f,N 70,N a.i,N 128,N f.aw,N f.ap,N f.au,N f.ar,N f.aq,N f.av,
  N a.t,j,l,Q f.al a.ac.length a.ac.length,Q f.x 70 70,
  D1 a.bh,D1 a.bg,D1 a.br,D Au a.ap,D Au a.x,D Au a.bq,N f.af,N (-1),N 0,Ah (C f.am),
  D Au a.aw,D1 a.bf.1,D1 a.bf.2,f.w.b a.ae.length,N a.ct,N a.bi,f.z.b a.bj.length,f.aa.b a.ax.length,f.ak.b a.ah.length]
def jZ(l j:B)(z:AR)(u:K)(x y n b o p:M):
 Z9 343 [P l] [.t l [P j,n,b,o,p] 323,.t j (z.ag u x y) 292]
  λv ai=>∃q S t,DI 1 (AH 70) S t/\v=Q q 70 S/\ai=[.t l [P j,n,b,o,p] 323,.t j (z.ag u x y) 292,.t q ((AH 70).flatMap CC++t) 3]:=by
 refine A9.t ?_;refine L ?_;refine EY.f (m:=B×B×B×G M) (λf=>70-f.1) (λf=>f.1<=70/\DI 1 (AH f.1) f.2.2.1 f.2.2.2) (λf=>[(3,Bm f.2.1 f.2.2.1 (AH f.1)),(12,N 70),(13,N (f.1:B))]) (λf=>[.t l [P j,n,b,o,p] 323,.t j (z.ag u x y) 292]++BX 3 CC f.2.1 (AH f.1) f.2.2.2) (0,0,0,[]) ⟨Af _,⟨AI 0,Z,A⟩⟩ ⟨A,A,A,AA⟩ (.w _) ?_;rintro⟨a,q,S,t⟩ ⟨al,W⟩ ag;dsimp only at al W⊢;refine EY.b (IK.mk (λm=>?_) (λm=>?_))
 ·have m:a<70:=by simp at m;omega
  have af:(AH a).length=a:=Dj;refine L ?_;intro aj;refine Cr.u (l:=[.t aj [AD a] 3,.t l [P j,n,b,o,p] 323,.t j (z.ag u x y) 292]++BX 3 CC q (AH a) t) (.w _) (Cr.z (f:=CC) (n:=_) (a1:=_) (m:=1) (h:=AH a) A A A A A A A ⟨A,Z⟩ Cj (λf=>⟨A,A⟩) [a] A A Z W ⟨by rw[af];omega,Z⟩ (λr U ah aa=>?_));have am:AH a++[a]=AH (a+1):=List.range_succ.symm;rw[am] at aa⊢;refine L ?_;refine F'.mk ((a+1:B):F) Y2 (ag (a+1,r,U,ah) ⟨by show a+1<=70;omega,aa⟩ (by show 70-(a+1)<70-a;omega) ⟨?_,A,A,AA⟩ ?_)
  ·show _=C (Bm r U (AH (a+1)));have ak:Bm r U (AH (a+1))=Q r (AH (a+1)).length U:=E1 Y1;rw[ak,show(AH (a+1)).length=a+1 from Dj,af];rfl
  ·show AQ _ ([.t l [P j,n,b,o,p] 323,.t j (z.ag u x y) 292]++BX 3 CC r (AH (a+1)) ah);rw[Dw Y1];exact AQ.al _ _ _
 have m:a=70:=by simp at m;omega
 subst m;clear ag;rw[E1 Y1,Dw Y1,show(AH 70).length=70 from Dj];refine L ?_;exact⟨_,AQ.b,q,S,t,W,A,A⟩
