/- Lemmas. -/
import Derived.Test.YtlklgghcliobfaaGreatDoorP03
import Derived.RangeFuncLeaves
import Derived.RangeFuncRecord
import Derived.RangeFuncNested
import Derived.ControlIn
import Derived.Maps.Own
import Derived.DeepKeys4
import Derived.MapKept
import Derived.Outline
import Derived.Defers
import Derived.Laws.Pointers
import Derived.Laws.LoneSync
import Derived.RegionCalls
import Derived.Stop.BytesEq
namespace Go.Proofs.YtlklgghcliobfaaGreatDoor
open Go Go.RowKit
open _root_.Array renaming getElem?_eq_some_iff->FY,replicate->Mo
open Bool renaming eq_iff_iff->Iy,false->I,not_eq_true->Mp,not_eq_true'->K',or_eq_true->Lg,true->R,true_and->OJ
open Decidable renaming decide->Ac
open Go renaming Addr->CW,Calls->CL,FrameMode->aE,Func->Fr,MapEntry->CO,Oper->Al,Operand->Cf,TypeId->AU,TypeInfo->EU,Value->M,World->AG,binOp->ED,callFunc->Ey,callsIn_wide->Ny,eqGuard->IA,execOp->Bh,grownBy_putObj'->ADg,keyOf->Hg,leaves_cons->ADk,rounds_succ->EN,run_call_load->ZT,run_call_mark0->ADn,run_call_marked->ADo,run_convert_to_unsafe->ADp,run_program->ADr,run_underlying->Io,undef->Cw,wpIn_wide->ADu,wpList->Mc,wp_loop_rounds->ADw,wp_seq->Q8,zeroValue->KL
open Go.Ending renaming returned->BT
open Go.Fn renaming func->CA,yield->GM
open Go.Instr renaming checkKey->IJ,lookup->Ji,mapUpdate->Lk
open Go.IntKind renaming bits->Kb,i32->Dt,i64->H,signed->Kc,u32->Ax,u64->Au,wrap->Kd
open Go.Lib renaming hid->Ap
open Go.MapKept renaming heap_alloc->AFI,run_getObj_map->Ts,run_setObj_map->AFJ
open Go.Obj renaming cells->CP,deferred->Ek,loop->Gn,map->AM
open Go.Op renaming equal->Qa,equalIn->Kg,mapUpdate->aQ,maxDepth->Qc,unary->UA
open Go.Proofs.Tryz renaming func136->ADP,func304->ZH,func344->ADS,func368->Il,ntmps136->ADX,ntmps344->ADZ,ntmps368->Im,prog->An,underlying3->AD4,underlying482->AD5,underlying588->TD,underlying591->AD6,underlying606->AD7
open Go.Result renaming andThen->Nw,andThen_ok->Bp,ok->Ao
open Go.RowKit.Below renaming refl->DT
open Go.Sem renaming run_bind->Ak
open Go.Target renaming collected->Q2
open Go.Value renaming agg->AV,bool->X,func->BZ,iface->Cd,int->D,map->Ah,nilIface->Hf,pointer->T,slice->O,tuple->AL
open Go.World renaming cell?_setCell_other->ADc,putObj_heap_same->ADd
open Int renaming fdiv_eq_ediv_of_nonneg->TO,toNat->AEG
open List renaming append_assoc->BS,append_nil->B1,contains_cons->Zb,contains_iff_mem->Gi,drop_append_of_le_length->IB,drop_drop->FD,drop_eq_getElem_cons->HF,drop_of_length_le->LX,drop_zero->CJ,eq_nil_of_length_eq_zero->KN,ext_getElem?->Gj,filter_append->EO,filter_cons_of_neg->Iq,filter_cons_of_pos->KO,filter_eq_nil_iff->QA,filter_filter->QB,find?_cons_of_neg->AEU,find?_cons_of_pos->AEV,find?_eq_none->AEW,flatMap_append->KP,flatMap_cons->FE,flatten_cons->Ze,foldl_append->KQ,foldl_cons->DN,foldl_nil->AEY,getD->Cp,getD_eq_getElem?_getD->AY,getElem?_append_left->Di,getElem?_cons_succ->IC,getElem?_cons_zero->GI,getElem?_drop->FU,getElem?_eq_getElem->Aw,getElem?_eq_none->Dm,getElem?_eq_some_iff->Cx,getElem?_map->D_,getElem?_range->Mg,getElem?_take_of_lt->Mi,getElem_mem->Gk,getLast?_eq_some_getLast->TS,length_append->Ad,length_cons->C8,length_drop->DV,length_filter_le->Ez,length_map->BW,length_pos_of_mem->AE1,length_range->Dj,length_replicate->BI,length_set->B_,length_take->Ci,map->HI,map_append->CU,map_cons->Ee,map_id->AE2,map_map->Iu,map_replicate->FF,map_set->J_,map_take->Hk,mem_append->Bs,mem_append_left->J',mem_append_right->KR,mem_cons->C2,mem_cons_of_mem->By,mem_cons_self->Bt,mem_filter->CF,mem_filterMap->QD,mem_flatMap->Zi,mem_map->CI,mem_mergeSort->KS,mem_of_getElem?->FW,mem_of_mem_drop->EP,mem_of_mem_take->EW,mem_range->Ce,mem_replicate->FX,mem_singleton->CZ,nil_append->Bz,nodup_append->ID,nodup_nil->O7,not_mem_nil->Ef,perm_append_comm->Cj,range->AH,range_succ->DO,replicate->U,setIfInBounds_toArray->KU,set_append_right->O8,take_add_one->KW,take_append_drop->Hm,take_append_of_le_length->Eg,take_left'->C_,take_length->LZ,take_of_length_le->DP,take_sublist->AEb,take_take->AEc,take_zero->Hn
open List.Nodup renaming length_le_of_subset->Md
open List.Pairwise renaming filter->Z',nil->AEK
open List.Perm renaming append_left->AEL,eq_of_pairwise->AFT,refl->Bi,swap->D3
open Nat renaming add_sub_cancel->AEe,and_two_pow_sub_one_eq_mod->O9,ble->La,ble_eq->AEg,le_of_ble_eq_true->DW,le_of_lt->AEo,le_refl->AI,le_succ_of_le->AEp,le_trans->D9,lt_irrefl->AEq,lt_or_ge->Ck,lt_succ_self->QI,mod_eq_of_lt->Ja,mul_le_mul_left->OC,mul_one->B3,sub_self->OE,sub_zero->Ta,zero_add->BF,zero_le->Af
open Option renaming getD_some->IG,isSome->Ix,map_eq_none_iff->AFA,map_eq_some_iff->a1,none->E,some->C
open Or renaming inl->AT,inr->Ae
open Prod.mk renaming inj->a3,injEq->F0
open _root_ renaming Array->Ai,Bool->AE,False->Be,Int->F,List->G,Nat->B,Option->AC,absurd->CV,beq_eq_false_iff_ne->Bv,beq_iff_eq->F1,bne_iff_ne->Bn,congrArg->AB,decide_eq_false->F2,decide_eq_true->DH,decide_eq_true_eq->KZ,if_neg->A1,if_pos->A8,or_false->Eh,rfl->A,trivial->AA
set_option linter.all false
set_option maxHeartbeats 8000000
set_option maxRecDepth 100000
def Z7{P:Prop}(h:P:=by rw[List.length_cons];omega):P:=h
structure DJ where
 b:K
 d:G B
 c:G B
 a:G (B×AN)
def K.hj(a:K):K:={a with u:=a.u+1}
def K.ij(f:K)(b:B)(a:AN):K:=f.bl b λj=>{j with b:=a.f}
def K.kt(a:K)(f:B):K:={a with x:=max a.x f}
def K.cw(f:K)(a:AF):AN:=(K6 (f.ay a) 128).1
def DJ.e(o:DJ)(b:B):DJ:=
 if o.b.y b=0 then⟨o.b,o.d++[b],o.c,o.a⟩
 else if K.gp (o.b.ay ⟨b,0⟩)=R then⟨o.b.hj,o.d,o.c++[b],o.a⟩
 else⟨((o.b.hj).ij b (o.b.cw ⟨b,0⟩)).kt (o.b.cw ⟨b,0⟩).d,o.d,o.c,o.a++[(b,o.b.cw ⟨b,0⟩)]⟩
def Bw(f:K)(a:B):DJ:=(AH a).foldl DJ.e ⟨f,[],[],[]⟩
def MD(f:K)(a:B):Bw f (a+1)=(Bw f a).e a:=by unfold Bw;rw[DO,KQ];rfl
structure OU(n:K)(m:B)(l:DJ):Prop where
 d:l.b.ab=n.ab
 s:l.b.i=n.i
 t:l.b.bd=n.bd
 i:l.b.bv=n.bv
 a:l.b.j.length=70
 g:l.b.u<=n.u+m
 c:l.d.length<=m
 f:l.c.length<=m
 e:∀p∈l.a,p.1<m
 h:∀c∈l.d,c<m
 u:∀c∈l.c,c<m
 j:∀o,n.x<=o->(∀p∈l.a,p.2.d<=o)->l.b.x<=o
def YM(a:K)(b:B)(f:Cq->Cq):(a.bl b f).j.length=a.j.length:=by unfold K.bl;simp
variable{n:K}{l:B}
def OU.v{o:DJ}(a:OU n l o):OU n (l+1) (o.e l):=by
 unfold DJ.e;split
 ·exact⟨a.d,a.s,a.t,a.i,a.a,by have:=a.g;dsimp only;omega,by have:=a.c;simp;omega,by have:=a.f;dsimp only;omega,λp m=>by have:=a.e p m;omega,λb f=>by
   rcases Bs.1 f with j|j
   ·have:=a.h b j;omega
   ·rw[CZ.1 j];omega,λb f=>by have:=a.u b f;omega,a.j⟩
 split
 ·exact⟨a.d,a.s,a.t,a.i,a.a,by have:=a.g;show o.b.u+1<=_;omega,by have:=a.c;dsimp only;omega,by have:=a.f;simp;omega,λp m=>by have:=a.e p m;omega,λb f=>by have:=a.h b f;omega,λb f=>by
   rcases Bs.1 f with j|j
   ·have:=a.u b j;omega
   ·rw[CZ.1 j];omega,a.j⟩
 ·refine⟨a.d,a.s,a.t,a.i,?_,by have:=a.g;show o.b.u+1<=_;omega,by have:=a.c;dsimp only;omega,by have:=a.f;dsimp only;omega,λp m=>?_,λb f=>by have:=a.h b f;omega,λb f=>by have:=a.u b f;omega,λq u r=>?_⟩
  ·show(o.b.hj.ij l (o.b.cw ⟨l,0⟩)).j.length=70;unfold K.ij;rw[YM];exact a.a
  ·rcases Bs.1 m with j|j
   ·have:=a.e p j;omega
   ·rw[CZ.1 j];show l<l+1;omega
  ·have x:=a.j q u λp m=>r p (J' _ m);have t:=r _ (KR _ (CZ.2 A));show max o.b.x _<=q;dsimp only at t;omega
def OU.b{j:K}(l:j.j.length=70):∀f,OU j f (Bw j f)
 |0=>⟨A,A,A,A,l,AI _,AI 0,AI 0,(λm a=>by cases a),(λm a=>by cases a),(λm a=>by cases a),λo n _=>n⟩
 |f+1=>by rw[MD];exact(OU.b l f).v
def Mr(j:G D4):Prop:=∀b,b<70->∀a,(BD j b).a[0]?=C a->a.length=192/\(∀l∈a,l<256)/\(K.gp a=R\/K.gp a=I/\∃f:AN,f.i/\f.d<=500000000/\a.drop 128=f.g)
structure Gr where
 c:B
 a:Ai CO
 d:B
 b:B
 g:B
 f:G M
 e:B
 h:B
 j:G M
def E5(f:G (B×AN)):G (F×M):=f.map λa=>((a.1:Int),HY a.2)
structure Gr.s(a:Gr)(f:DJ):Prop where
 nA:Da a.a (E5 f.a)
 nC:El a.a a.d
 nD:DI 1 f.c a.g a.f
 nB:DI 1 f.d a.h a.j
abbrev Gr.i(a:Gr)(f:B)(o:DJ)(j:M):G M:=[P f,Ah (C a.c),Bm a.b a.g o.c,Bm a.e a.h o.d,j]
def AQ.ae{j a f:S}(l:Gt j (.u (A2 a)) f):AQ j (a++f):=(AQ.u l.t).t (AQ.ac a f)
def AQ.af{j:BL}{f a l m:S}(o:[j]=f)(p:Gt m (.u (A2 f)) l)(n:AQ a l):AQ (j::a) m:=((AQ.aa [j] a).t (o▸(AQ.z _ n:AQ (.u (A2 f)::a) _))).t (AQ.u p.t.symm)
abbrev H5(m j:B)(f:AR)(a:Gr)(o:DJ)(p q n:M)(l:AX):S:=
 .t m (a.i j o n) 323::.t j (f.ag o.b p q) 292::.t f.x (AZ (Ab o.b) 70) 295::.o a.c (AM a.a a.d)::.u (A2 (BX 3 CC a.b o.c a.f))::.u (A2 (BX 3 CC a.e o.d a.j))::l.b f.f f.c f.s
def WJ:∀(j:G (F×M))(a:F)(v:M),(∀f∈j,f.1≠a)->DC j a v=j++[(a,v)]
 |[],_,_,_=>A
 |f::o,a,v,l=>by
  unfold DC;rw[A1 (λn=>l f (Bt ..) n.symm),WJ o a v λf m=>l f (By _ m)];rfl
variable{p:B}{q:G B}
def U'{b:B}:O (V l) (q.length+1) p=Bm l p (q++[b]):=by
 rw[E1 Y1,Ad];rfl
variable{xt:AU}{er:G M}
def U_{b:B}:[BL.t l ((q++[b]).flatMap CC++er) xt]=BX xt CC l (q++[b]) er:=(Dw Y1).symm
def iA(G aa S:B)(z:AR)(m:K)(au:Gr)(ah ai ag:M)(ay:AX)(bf:B2 S ay m)(ca:S+100<=500000000)(bo:m.j.length=70)(b7:m.x<=500000000)(a6:Mr m.ab)(bv:au.s ⟨m,[],[],[]⟩):
 Z9 271 [P G] (H5 G aa z au ⟨m,[],[],[]⟩ ah ai ag ay)
  λv bd=>∃p a4,p.c=au.c/\p.s (Bw m 70)/\B2 (S+70) a4 (Bw m 70).b/\v=N 0/\bd=H5 G aa z p (Bw m 70) ah ai ag a4:=by
 refine A9.t ?_;refine L ?_;refine EY.f (m:=B×Gr×AX) (λn=>70-n.1) (λn=>n.1<=70/\n.2.1.c=au.c/\n.2.1.s (Bw m n.1)/\B2 (S+n.1) n.2.2 (Bw m n.1).b) (λn=>[(0,P G),(15,N 70),(16,N (n.1:B))]) (λn=>H5 G aa z n.2.1 (Bw m n.1) ah ai ag n.2.2) (0,au,ay) ⟨Af _,A,bv,bf⟩ ⟨A,A,A,AA⟩ (.w _) ?_;rintro⟨l,p,aj⟩ ⟨bp,an,r,am⟩ ax;dsimp only at bp an r am;have af:=OU.b bo l;have y:=MD m l;obtain⟨o,ao⟩:∃o,Bw m l=o:=⟨_,A⟩;rw[ao] at y r am af;rw[ao];have a7:C3 (S+l) aj o.b.i o.b.ab o.b.bd o.b.u o.b.bv:=am;refine EY.b (IK.mk (λt=>?_) (λt=>?_))
 ·have t:l<70:=by simp at t;omega
  refine L ?_;refine A9.b (NU z.c l a7 t) ?_;by_cases az:(BD o.b.ab l).a.length=0
  ·have b2:(((BD o.b.ab l).a.length:F)==0)=R:=by rw[az];rfl
   have u:o.e l=⟨o.b,o.d++[l],o.c,o.a⟩:=A8 az;have bh:=af.c;refine L ?_;intro aw;refine Cr.u (AQ.ae (a:=BX 3 CC p.e o.d p.j) Y0) (Cr.z (f:=CC) (n:=_) (a1:=_) (m:=1) (h:=o.d) A A A A A A A ⟨A,Z⟩ (Bi _) (λn=>⟨A,A⟩) [l] A A Z r.nB ⟨Y,Z⟩ (λal ak aq a2=>?_));refine A' ?_;refine F'.mk ((l+1:B):F) Y2 (ax (l+1,{p with e:=al,h:=ak,j:=aq},aj) ⟨t,an,?_,?_⟩ (by show 70-(l+1)<70-l;omega) ⟨A,A,A,AA⟩ ?_)
   ·show Gr.s _ (Bw m (l+1));rw[y,u];exact⟨r.nA,r.nC,r.nD,a2⟩
   ·show B2 (S+(l+1)) aj (Bw m (l+1)).b;rw[y,u];exact am.a Y
   ·show AQ _ (H5 G aa z {p with e:=al,h:=ak,j:=aq} (Bw m (l+1)) ah ai ag aj);rw[y,u];dsimp only[H5,Gr.i];rw[<-U'];obtain⟨b4,bg⟩:∃be,A2 (BX 3 CC p.b o.c p.f)=be:=⟨_,A⟩;rw[bg];exact AQ.af U_ Y0 AQ.b
  have a9:¬o.b.y l=0:=az;have b2:(((BD o.b.ab l).a.length:F)==0)=I:=Z4;obtain⟨x,a0⟩:∃x,(BD o.b.ab l).a[0]?=C x:=⟨_,Aw Y⟩;obtain⟨a1,bk,bj⟩:=a6 l t x (by rw[<-af.d];exact a0);have a3:o.b.ay ⟨l,0⟩=x:=by
   unfold K.ay;show(BD o.b.ab l).a.getD 0 []=x;rw[AY,a0];rfl
  refine L ?_;refine A9.u (ME z.f z.c z.s l 0 x a7 Y t a0) ?_;rintro v b3 ⟨aw,ar,U,a8,rfl,rfl⟩;refine L ?_;refine A9.b (W9 aw 0 192 (192+ar.length) x (x.map W++ar) 5 a1 Z (Gb x ar 192 a1) bk Y) ?_;rcases bj with ap|⟨ap,q,ba,b8,bb⟩
  ·rw[ap];have u:o.e l=⟨o.b.hj,o.d,o.c++[l],o.a⟩:=by unfold DJ.e;rw[A1 a9,A8 (by rw[a3];exact ap)]
   have bh:=af.f;refine L ?_;intro aw;refine Cr.u (AQ.ae (a:=BX 3 CC p.b o.c p.f) Y0) (Cr.z (f:=CC) (n:=_) (a1:=_) (m:=1) (h:=o.c) A A A A A A A ⟨A,Z⟩ (Bi _) (λn=>⟨A,A⟩) [l] A A Z r.nD ⟨Y,Z⟩ (λal ak aq a2=>?_));refine A' ?_;refine F'.mk ((l+1:B):F) Y2 (ax (l+1,{p with b:=al,g:=ak,f:=aq},U) ⟨t,an,?_,?_⟩ (by show 70-(l+1)<70-l;omega) ⟨A,A,A,AA⟩ ?_)
   ·show Gr.s _ (Bw m (l+1));rw[y,u];exact⟨r.nA,r.nC,a2,r.nB⟩
   ·show B2 (S+(l+1)) U (Bw m (l+1)).b;rw[y,u];exact a8
   ·show AQ _ (H5 G aa z {p with b:=al,g:=ak,f:=aq} (Bw m (l+1)) ah ai ag U);rw[y,u];dsimp only[H5,Gr.i];rw[<-U'];exact AQ.af U_ Y0 AQ.b
  ·rw[ap];have bn:o.b.cw ⟨l,0⟩=q:=by unfold K.cw;rw[a3,PV bb ba]
   have u:o.e l=⟨((o.b.hj).ij l q).kt q.d,o.d,o.c,o.a++[(l,q)]⟩:=by unfold DJ.e;rw[A1 a9,A1 (by rw[a3,ap];simp),bn]
   have bt:=GU o.b ((o.b.hj).ij l q) t (j:=4) Y (N q.f) λbc b9=>by
    have bq:l<o.b.j.length:=by rw[af.a];exact t
    show Cl ((o.b.hj.bl l λn=>{n with b:=q.f}).b bc)=_;unfold K.bl K.b;show Cl ((o.b.j.set l _).getD bc Cq.e)=_;rw[K.cz bq];split
    ·rfl
    ·rfl
   have b6:(AZ (Ab o.b) 70).length=420:=Db (EH o.b) 70;have br:DC (E5 o.a) l (HY q)=E5 (o.a++[(l,q)]):=by
    rw[WJ]
    ·unfold E5;rw[CU];rfl
    ·intro cb bs;obtain⟨n,bu,rfl⟩:=CI.1 bs;have:=af.e n bu;show(n.1:F)≠l;omega
   have bx:=r.nC;have b1:=r.nA;clear a6;refine L ?_;refine A9.b (Rh q ba aw (192+ar.length) x ar 5 a1 bb Y) (L ?_);intro b5;refine A' ?_;refine Cr.ae (ak:=E5 o.a) (a:=p.a) (l:=p.d) A A A A A A b1 bx (λav a5 bl bi=>?_);have bm:Da av (E5 (o.a++[(l,q)])):=br▸(bl:Da av (DC (E5 o.a) l (HY q)));refine A' ?_;refine F'.mk ((max o.b.x q.d:B):F) (by split<;>omega) (A' ?_);refine F'.mk ((l+1:B):F) Y2 (ax (l+1,{p with a:=av,d:=a5},U) ⟨t,an,?_,?_⟩ (by show 70-(l+1)<70-l;omega) ⟨A,A,A,AA⟩ ?_)
   ·show Gr.s _ (Bw m (l+1));rw[y,u];exact⟨bm,bi,r.nD,r.nB⟩
   ·show B2 (S+(l+1)) U (Bw m (l+1)).b;rw[y,u];exact a8
   ·show AQ _ (H5 G aa z {p with a:=av,d:=a5} (Bw m (l+1)) ah ai ag U);rw[y,u];dsimp only[H5,Gr.i];rw[show Ab ((o.b.hj.ij l q).kt q.d)=Ab (o.b.hj.ij l q) from A,<-bt];exact AQ.b
 have t:l=70:=by simp at t;omega
 subst t;clear ax;refine L ?_;exact⟨_,.w _,p,aj,an,by rw[ao];exact r,by rw[ao];exact am,A,by rw[ao]⟩
def AQ.ai{n:BL}{a f j l m:S}(r:Gt f n l)(p:[n]=a)(q:Gt j (.u (A2 a)) m)(o:AQ l m):AQ f j:=(AQ.u r.t).t (AQ.af p q o)
def L0(a:G B):a.flatMap CC=a.map AD:=by induction a with
 |nil=>rfl
 |cons j a f=>rw[FE,f];rfl
def Cg(a f:G B)(j:B):G B:=a++f.take (min j (3-a.length))
variable{yd:G B}
def Sh(a:l<=yd.length):(Cg q yd l).length=q.length+min l (3-q.length):=by
 unfold Cg;rw[Ad,Ci];omega
def h6(a:G B):(a.map λf:B=>(f:F)).map Jx=a.map AD:=by rw[Iu];rfl
def dK(a:G B)(b:B):(a.map λj:B=>(j:F)).contains (b:F)=a.contains b:=by
 induction a with
 |nil=>rfl
 |cons l a f=>
  rw[Ee,Zb,Zb,f];congr 1;rw[Iy];simp;omega
def mW(u:(q++yd).Nodup)(n:yd[l]?=C p):((Cg q yd l).map λz:B=>(z:F)).contains (p:F)=I:=by
 rw[dK,Bool.eq_false_iff];intro a;have a:=Gi.1 a;obtain⟨L,o,r⟩:=ID.1 u;have x:p∈yd:=FW n;rcases Bs.1 a with f|f
 ·exact r p f p x A
 ·obtain⟨y,t,j⟩:=List.mem_iff_getElem.1 f;rw[Ci] at t;rw[List.getElem_take] at j;have m:=(Cx.1 n);exact(List.pairwise_iff_getElem.1 o) y l Y m.1 Y (j.trans m.2.symm)
def Xr(a:yd[l]?=C p)(f:l<3-q.length):Cg q yd l++[p]=Cg q yd (l+1):=by
 unfold Cg;rw[show min l (3-q.length)=l by omega,show min (l+1) (3-q.length)=l+1 by omega,BS,KW,a];rfl
def Si(a:3-q.length<=l):Cg q yd (l+1)=Cg q yd l:=by
 unfold Cg;rw[show min l (3-q.length)=3-q.length by omega,show min (l+1) (3-q.length)=3-q.length by omega]
def Xq(a:1<=q.length)(f:2<=yd.length):Cg q yd yd.length=Cg q yd 3:=by
 unfold Cg;rw[show min yd.length (3-q.length)=3-q.length by omega,show min 3 (3-q.length)=3-q.length by omega]
def AA1(a:G B)(f:G M):((a.flatMap CC++f).drop 0).take a.length=(a.map λj:B=>(j:F)).map Jx:=by
 rw[h6,L0];exact KE a f _ A
structure Qk(j f:G B):Prop where
 a:1<=j.length/\j.length<=3
 d:2<=f.length/\f.length<=70
 c:(j++f).Nodup
 b:∀d∈j++f,d<70
def mX(y u z:B)(n:AR)(o:DJ)(a:Gr)(ai ao an:M)(aj:AX)(bd:B2 z aj o.b)(cq:z+100<=500000000)(bm:a.s o)(bg:Qk o.c o.d)(ap:J4)(x:G B)(au:(Cg o.c o.d 3).mergeSort=x)(be:Lu z o.b.ab ap x)(ak am:B)(ah:AC (G B))(b6:x.foldl (Ch ap) E=C (ak,am,ah)):
 Z9 272 [P y] (H5 y u n a o ai ao an aj)
  λv ax=>∃af q U,D0.e z q ⟨x,C ak,am,ah⟩/\C3 (z+50) U o.b.i o.b.ab o.b.bd (o.b.u+Fv ap x) o.b.bv/\v=N 0/\ax=H5 y u n a o ai (P af) an U++q.c af n.f ⟨x,C ak,am,ah⟩:=by
 obtain⟨r,f,j,cl⟩:=o;dsimp only at bd bg au be bm⊢;obtain⟨⟨a4,cs⟩,⟨a2,cn⟩,bi,bh⟩:=bg;obtain⟨ch,cg,cj,ci⟩:=bm;dsimp only at ch cg cj ci;have bk:j≠[]:=λm=>by rw[m] at a4;simp at a4
 have bf:f≠[]:=λm=>by rw[m] at a2;simp at a2
 obtain⟨a6,cm⟩:∃a6,a6=3-j.length:=⟨_,A⟩;have bs:BX 3 CC a.b j a.f=[BJ a.b j a.f]:=by rw[Dw bk,L0]
 have bq:BX 3 CC a.e f a.j=[BJ a.e f a.j]:=by rw[Dw bf,L0]
 have bt:Bm a.b a.g j=Q a.b j.length a.g:=E1 bk;have br:Bm a.e a.h f=Q a.e f.length a.h:=E1 bf;have ct:((j.length:F)==0)=I:=Z4;unfold H5 Gr.i;dsimp only;rw[bs,bq,bt,br];refine A9.aa (A9.w (a:=.t y [P u,Ah (C a.c),Q a.b j.length a.g,Q a.e f.length a.h,an] 323::.t u (n.ag r ai ao) 292::BJ a.b j a.f::BJ a.e f a.j::.t n.x (AZ (Ab r) 70) 295::.o a.c (AM a.a a.d)::aj.b n.f n.c n.s) ?_ ?_)
 ·exact(AQ.ae (a:=[BJ a.b j a.f]) Y0).t ((AQ.ae (a:=[BJ a.e f a.j]) Y0).t AQ.b)
 refine A9.y ?_;refine L ?_;refine A9.u (Oe a.b 0 j.length a.g j (j.map AD++a.f) 3 Y (KE j a.f _ A) A Y) ?_;rintro v bb ⟨bv,ay,bo,b7,b8,co,rfl,rfl⟩;refine L ?_;refine A9.u (jZ y u n r ai ao _ _ _ _) ?_;rintro v bb ⟨aa,a0,a5,cr,rfl,rfl⟩;refine L ?_;intro ar;refine L ?_;refine EY.b (A7 ?_);refine EY.f (m:=B×B×B×G M) (λp=>f.length-p.1) (λp=>p.1<=f.length/\DI 1 (Cg j f p.1) p.2.2.1 p.2.2.2) (λp=>[(0,P y),(3,Q (p.2.1) (Cg j f p.1).length p.2.2.1),(27,Q ar 2 2),(28,N 2),(29,N 0),(33,Q a.e f.length a.h),(34,N f.length),(35,N (p.1:B))])
  (λp=>.t p.2.1 ((Cg j f p.1).flatMap CC++p.2.2.2) 3::.t ar [Q a.e f.length a.h,Q aa 70 a0] 48::.t aa ((AH 70).flatMap CC++a5) 3::.t y [P u,Ah (C a.c),Q a.b j.length a.g,Q a.e f.length a.h,an] 323::.t u (n.ag r ai ao) 292::BJ a.b j a.f::BJ a.e f a.j::.t n.x (AZ (Ab r) 70) 295::.o a.c (AM a.a a.d)::aj.b n.f n.c n.s) (0,bv,ay,bo) ⟨Af _,?_⟩ ⟨A,?_,A,A,A,A,A,A,AA⟩ ?_ ?_
 ·have aq:Cg j f 0=j:=by unfold Cg;simp
  show DI 1 (Cg j f 0) ay bo;rw[aq];exact⟨b7,b8,Y⟩
 ·show C (O _ j.length ay)=C (O _ (Cg j f 0).length ay);rw[Sh (Af _)];simp
 ·have aq:Cg j f 0=j:=by unfold Cg;simp
  dsimp only;rw[aq,L0 j];exact AQ.b
 ·rintro⟨l,W,az,ag⟩ ⟨a3,aw⟩ al;dsimp only at a3 aw;have S:=Sh (q:=j) a3;have b9:(Cg j f l).length<=3:=by rw[S];omega
  refine EY.b (IK.mk (λm=>?_) (λm=>?_))
  ·have m:l<f.length:=by simp at m;omega
   obtain⟨p,bl⟩:∃p,f.getD l 0=p:=⟨_,A⟩;have ba:f[l]?=C p:=by rw[<-bl,AY,Aw m];rfl
   refine A7 ?_;refine Ms.mk (v:=AD p) ?_ ?_
   ·exact(bl▸H4 (q:=f) (er:=a.j) (l:=l) m)
   refine L ?_;by_cases cp:l<a6
   ·have bn:Ac (((Cg j f l).length:F)<3)=R:=DH (by rw[S];omega);refine L ?_;refine A9.b (RD W 0 (Cg j f l).length az ((Cg j f l).map λz:B=>(z:F)) ((Cg j f l).flatMap CC++ag) 3 p (by rw[BW]) (AA1 _ _) Y) ?_;rw[mW bi ba];refine L ?_;intro bx;refine Cr.z (f:=CC) (n:=_) (a1:=_) (m:=1) (h:=Cg j f l) A A A (by rw[E1 (by intro m;rw[m] at S;simp at S;omega)];rfl) A A A ⟨A,Z⟩ (a:=.t bx [AD p] 3::.t ar [Q a.e f.length a.h,Q aa 70 a0] 48::.t aa ((AH 70).flatMap CC++a5) 3::.t y [P u,Ah (C a.c),Q a.b j.length a.g,Q a.e f.length a.h,an] 323::.t u (n.ag r ai ao) 292::BJ a.b j a.f::BJ a.e f a.j::.t n.x (AZ (Ab r) 70) 295::.o a.c (AM a.a a.d)::aj.b n.f n.c n.s) (g:=W) (i:=ag) (by rw[Dw (by intro m;rw[m] at S;simp at S;omega)];exact Gt.t Y0) (λp=>⟨A,A⟩) [p] A A Z aw ⟨Y,Z⟩ (λbu a7 ck bj=>?_);refine L ?_;rw[Xr ba Y] at bj⊢;refine F'.mk ((l+1:B):F) Z1 (al (l+1,bu,a7,ck) ⟨m,bj⟩ (by show f.length-(l+1)<f.length-l;omega) ⟨A,?_,A,A,A,A,A,A,AA⟩ ?_)
    ·show C (O _ ((Cg j f l).length+1) a7)=C (O _ (Cg j f (l+1)).length a7);rw[<-Xr ba Y,Ad];rfl
    ·dsimp only;exact AQ.b
   ·have bn:Ac (((Cg j f l).length:F)<3)=I:=F2 (by rw[S];omega);refine L ?_;refine F'.mk ((l+1:B):F) Z1 (al (l+1,W,az,ag) ⟨m,by rw[Si Y];exact aw⟩ (by show f.length-(l+1)<f.length-l;omega) ⟨A,?_,A,A,A,A,A,A,AA⟩ ?_)
    ·dsimp only;rw[Si Y];rfl
    ·dsimp only;rw[Si Y];exact .w _
  ·have m:l=f.length:=by simp at m;omega
   subst m;clear al S b9 a3;rw[Xq a4 a2] at aw⊢;obtain⟨t,a1⟩:∃t,Cg j f 3=t:=⟨_,A⟩;have a8:t.length=3:=by rw[<-a1,<-Xq a4 a2,Sh (AI _)];omega
   rw[a1] at au aw⊢;refine F'.mk 1 A (EY.b (A7 ?_));refine EY.f (m:=B) (λl=>70-l) (λl=>l<=70) (λl=>[(0,P y),(3,Q W t.length az),(27,Q ar 2 2),(28,N 2),(29,N 1),(33,Q aa 70 a0),(34,N 70),(35,N (l:B))])
    (λ_=>.t W (t.flatMap CC++ag) 3::.t ar [Q a.e f.length a.h,Q aa 70 a0] 48::.t aa ((AH 70).flatMap CC++a5) 3::.t y [P u,Ah (C a.c),Q a.b j.length a.g,Q a.e f.length a.h,an] 323::.t u (n.ag r ai ao) 292::BJ a.b j a.f::BJ a.e f a.j::.t n.x (AZ (Ab r) 70) 295::.o a.c (AM a.a a.d)::aj.b n.f n.c n.s) 0 (Af _) ⟨A,A,A,A,A,A,A,A,AA⟩ (.w _) ?_
   intro l a3 al;have bn:=Aa ((t.length:F)<3);refine EY.b (IK.mk (λm=>?_) (λm=>?_))
   ·have m:l<70:=by simp at m;omega
    refine A7 ?_;refine Ms.mk (v:=AD l) ?_ ?_
    ·exact(by
     rw[L0];have bc:=H4 (q:=AH 70) (er:=a5) (l:=l) (by simpa using m);have aq:(AH 70).getD l 0=l:=by rw[AY,Mg m];rfl
     rw[aq] at bc;exact bc)
    refine L ?_;exact F'.mk ((l+1:B):F) Y2 (al (l+1) m Y ⟨A,A,A,A,A,A,A,A,AA⟩ (.w _))
   ·have m:l=70:=by simp at m;omega
    subst m;clear al;refine F'.mk 2 A (EY.b (L ?_));have cb:t.Nodup:=by
     rw[<-a1];unfold Cg;obtain⟨b1,b2,b3⟩:=ID.1 bi;exact ID.2 ⟨b1,b2.sublist (AEb _ _),λbp b5 b av=>b3 bp b5 b (EW av)⟩
    have ca:∀b∈t,b<70:=λb av=>by
     rw[<-a1] at av;unfold Cg at av;rcases Bs.1 av with m|m
     ·exact bh b (J' _ m)
     ·exact bh b (KR _ (EW m))
    have a9:=ABS n.f n.c n.s W az 3 ap t (t.flatMap CC++ag) 3 bd (by rw[L0];exact KE t ag 3 a8) a8 Z cb ca (by rw[au];exact be) ak am ah (by rw[au];exact b6) Y;rw[au] at a9;rw[a8];have cc:=A9.z a9 (n:=λv ax=>∃(af:B)(q:D0)(U:AX),D0.e z q ⟨x,C ak,am,ah⟩/\C3 (z+50) U r.i r.ab r.bd (r.u+Fv ap x) r.bv/\v=AL #[P af,Hf]/\ax=.t af [P n.f,Q q.b x.length q.f,N ak,D Au am,Ah (C q.d)] 477::BJ q.b x q.h::.o q.d (AM (C6 ah q.a q.g q.j) q.s)::Dr ah q.a q.i::.t W (t.flatMap CC++ag) 3::U.b n.f n.c n.s) (λv ax ce=>ce);clear a9;refine A9.u (cc) ?_;rintro v bb ⟨af,q,U,cd,b4,rfl,rfl⟩;refine A7 ?_;refine⟨_,?_,af,q,U,cd,b4,A,A⟩;exact AQ.ai (n:=BJ a.b j a.f) Y0 A Y0 (AQ.ai (n:=BJ a.e f a.j) Y0 A Y0 AQ.b)
def AAv(q t f z r u S:B)(j:G B)(n p:G M)(x y:AU)(ak:j.length=f)(ag:(n.drop t).take f=j.map W)(ah:(p.drop u).take f=j.map W)(aj:f<=1000000):
 AK 423 [O (C ⟨q,t,E⟩) f z,O (C ⟨r,u,E⟩) f S] [.t q n x,.t r p y] (X R):=by
 have U:∀(o:B)(m:G M),(m.drop o).take f=j.map W->∀a,a<f->m[o+a*1]?=C (W (j.getD a 0)):=λo m af a Z=>by
  have aa:((m.drop o).take f)[a]?=m[o+a*1]?:=by rw[Mi Z,FU,B3]
  rw[<-aa,af,D_,AY,Aw Y];rfl
 have am:((f:F)!=(f:F))=I:=Y1;refine A9.y ?_;refine L ?_;refine EY.f (m:=B) (λa=>f-a) (λa=>a<=f) (λa=>[(0,O (C ⟨q,t,E⟩) f z),(1,O (C ⟨r,u,E⟩) f S),(12,N f),(13,N (a:B))]) (λ_=>[.t q n x,.t r p y]) 0 (Af _) ⟨A,A,A,A,AA⟩ (.w _) ?_;intro a Z ai;refine EY.b (IK.mk (λl=>?_) (λl=>?_))
 ·have l:a<f:=by simp at l;omega
  have al:(((j.getD a 0:B):F)!=((j.getD a 0:B):F))=I:=Y1;refine A7 ?_;refine Ms.mk (v:=W (j.getD a 0)) ?_ ?_
  ·exact U t n ag a l
  refine A7 ?_;refine Ms.mk (v:=W (j.getD a 0)) ?_ ?_
  ·exact U u p ah a l
  refine L ?_;refine L ?_;exact F'.mk ((a+1:B):F) Y2 (ai (a+1) l Y ⟨A,A,A,A,AA⟩ (.w _))
 ·refine L ?_;exact⟨A,A⟩
structure HM where
 d:B
 c:B
 o:AC B×AC B
 a:AF
structure HM.e(a:HM):Prop where
 nE:a.d<=500000000
 nB:a.c<=500000000
 nC:∀f,a.o.1=C f->f<70
 nD:∀f,a.o.2=C f->f<70
 nA:a.a.a<70/\a.a.b<256
def HM.b(b:HM)(a:G B):G B:=AS b.d 8++(AS b.c 8++(AS (K.cy b.o.1) 2++(AS (K.cy b.o.2) 2++([1]++(AS (b.a.a*256+b.a.b) 3++a)))))
def HM.f(b:HM)(a:q.length=36):(b.b q).length=60:=by simp[HM.b,BK,a]
def HM.g(b:HM)(l:∀f∈q,f<256):∀f∈b.b q,f<256:=by
 intro f j;unfold HM.b at j;simp only[Bs] at j;rcases j with a|a|a|a|a|a|a
 ·exact H' _ _ _ a
 ·exact H' _ _ _ a
 ·exact H' _ _ _ a
 ·exact H' _ _ _ a
 ·rw[CZ] at a;omega
 ·exact H' _ _ _ a
 ·exact l f a
def HM.h(b:HM)(z:b.e)(a:G B):Az (b.b a) 8=b.d/\Az ((b.b a).drop 8) 8=b.c/\Az ((b.b a).drop 16) 2=K.cy b.o.1/\Az ((b.b a).drop 18) 2=K.cy b.o.2/\(b.b a).getD 20 0=1/\Az ((b.b a).drop 21) 3=b.a.a*256+b.a.b/\(b.b a).drop 24=a:=by
 obtain⟨N,S,F,L,U,W⟩:=z;have u:K.cy b.o.1<256^2:=by
  cases m:b.o.1 with
  |none=>simp[K.cy]
  |some l=>have:=F l m;simp only[K.cy];omega
 have x:K.cy b.o.2<256^2:=by
  cases m:b.o.2 with
  |none=>simp[K.cy]
  |some l=>have:=L l m;simp only[K.cy];omega
 have f:∀v j(t:G B),v<256^j->Az (AS v j++t) j=v:=λv j t M=>by rw[M7 (BK _ _),Jw,Ja M]
 have r:(b.b a).drop 8=AS b.c 8++(AS (K.cy b.o.1) 2++(AS (K.cy b.o.2) 2++([1]++(AS (b.a.a*256+b.a.b) 3++a)))):=by unfold HM.b;rw[Fw (BK _ _) Y];rfl
 have n:(b.b a).drop 16=AS (K.cy b.o.1) 2++(AS (K.cy b.o.2) 2++([1]++(AS (b.a.a*256+b.a.b) 3++a))):=by
  rw[show(16:B)=8+8 from A,<-FD,r,Fw (BK _ _) Y];rfl
 have o:(b.b a).drop 18=AS (K.cy b.o.2) 2++([1]++(AS (b.a.a*256+b.a.b) 3++a)):=by
  rw[show(18:B)=16+2 from A,<-FD,n,Fw (BK _ _) Y];rfl
 have p:(b.b a).drop 20=[1]++(AS (b.a.a*256+b.a.b) 3++a):=by
  rw[show(20:B)=18+2 from A,<-FD,o,Fw (BK _ _) Y];rfl
 have q:(b.b a).drop 21=AS (b.a.a*256+b.a.b) 3++a:=by
  rw[show(21:B)=20+1 from A,<-FD,p];rfl
 have y:(b.b a).drop 24=a:=by
  rw[show(24:B)=21+3 from A,<-FD,q,Fw (BK _ _) Y];rfl
 refine⟨f _ _ _ Y,by rw[r];exact f _ _ _ Y,by rw[n];exact f _ _ _ u,by rw[o];exact f _ _ _ x,?_,by rw[q];exact f _ _ _ Y,y⟩;have:((b.b a).drop 20)[0]?=C 1:=by rw[p];rfl
 rw[FU] at this;rw[AY,this];rfl
def bS(v:B)(j:v<4294967296):bits .and Au (v:F) 255=((v%256:B):F):=by
 have a:v&&&255=v%256:=O9 v 8;have f:=N5 (a:=Au) (l:=64) (p:=v) (np:=255) A Y Y (by rw[a];exact Ec Y);rw[a] at f;exact f
def Wn(o:AC B):((K.cy o:B):F)-1=Ca o:=by cases o<;>simp[K.cy,Ca]<;>omega
def Wp{o:AC B}(f:∀a,o=C a->a<70):K.cy o<=70:=by
 cases o with
 |none=>simp[K.cy]
 |some a=>have:=f a A;simp only[K.cy];omega
def K.fk(a:K)(b:HM):K:={a with aw:=b.d,x:=max a.x b.c,bf:=b.o}
def AAV(af z p G:B)(f:AR)(l:K)(aa:D0)(u:J5)(b:HM)(a5:M)(ak x am an:M)(r:b.e)(bl:D0.e G aa u)(bk:u.b=C (b.b (GV f l.i)))(bd:∀v∈H0 f l.i,v<=100000)(bt:l.x<=500000000):
 Z9 346 [P af] (.t af [P z,ak,x,am,an] 323::.t z (f.ag l a5 (P p)) 292::aa.c p f.f u)
  λv a6=>∃ao al a4,DI 2 [b.a] al a4/\v=AL #[Q ao 1 al,X R]/\a6=.t ao (AW b.a++a4) 326::.t af [P z,ak,x,am,an] 323::.t z (f.ag (l.fk b) a5 (P p)) 292::aa.c p f.f u:=by
 have be:(GV f l.i).length=36:=A;have t:=b.f be;have ap:=b.g (q:=GV f l.i) (λb2 bn=>by
  obtain⟨v,_,bm⟩:=Zi.1 bn;exact H' _ _ _ bm)
 obtain⟨ay,az,a0,a1,ah,a2,a3⟩:=b.h r (GV f l.i);have ag:=ABC p f.f aa u _ G bl bk;have bf:=Vw (H0 f l.i) A bd;obtain⟨j,bb⟩:∃j,b.b (GV f l.i)=j:=⟨_,A⟩;rw[bb] at t ap ay az a0 a1 ah a2 a3 ag;rw[t] at ag;refine A9.t ?_;refine L ?_;refine A9.u (ag) ?_;rintro v aj ⟨y,a,bu,rfl,rfl⟩;refine L ?_;refine A9.u bf ?_;rintro v aj ⟨a9,ai,bv,rfl,rfl⟩;refine L ?_;refine F'.mk 57 A (A' ?_);refine Ms.mk (v:=W 1) ?_ ?_
 ·exact(by
  show(j.map W++a)[0+20*1]?=_;rw[Di AF0,D_,Aw Y];rw[AY,Aw Y] at ah;exact AB (λG=>C (W G)) ah)
 refine L ?_;refine F'.mk 1 A (L ?_);refine F'.mk 3 A (L ?_);refine F'.mk 24 A (L ?_);refine F'.mk 60 A (L ?_);refine F'.mk 3 A (L ?_);refine F'.mk 24 A (L ?_);refine Qp.mk 24 60 (60+a.length) 24 A A A Y A (by split<;>omega) (L ?_);refine A9.b (AAv y 24 36 (60+a.length-24) a9 0 (36+ai.length) (GV f l.i) (j.map W++a) ((GV f l.i).map W++ai) 5 5 A (by rw[NC (j.map W++a) 0 60 j (Gb j a 60 t) 24 36 A,a3]) (Gb (GV f l.i) ai 36 A) Y) ?_;refine L ?_;refine Qp.mk 8 60 (60+a.length) 8 A A A Y A (by split<;>omega) ?_;have q:∀n m,n+m=60->∀o,o<=m->o<=8->AK 420 [O (C ⟨y,0+n,E⟩) m (60+a.length-n),N o] [.t y (j.map W++a) 5] (D Au (Az (j.drop n) o)):=λn m bg o bj ba=>
  Kz y (0+n) m (60+a.length-n) o (j.map W++a) 5 (j.drop n) (λx bc=>ap x (EP bc)) (by rw[DV,t];omega) (NC (j.map W++a) 0 60 j (Gb j a 60 t) n m bg) bj ba
 have aq:=q 0 60 A 8 Y Y;have ar:=q 8 52 A 8 Y Y;have au:=q 16 44 A 2 Y Y;have av:=q 18 42 A 2 Y Y;have aw:=q 21 39 A 3 Y Y;rw[a0] at au;rw[a1] at av;rw[a2] at aw;have bo:=Wn b.o.1;have bp:=Wn b.o.2;have bx:=Wp r.nC;have b1:=Wp r.nD;have ax:=r.nA;rw[CJ,ay] at aq;rw[az] at ar;have bs:=r.nB;refine A9.b aq ?_;refine L ?_;refine A9.u ar ?_;rintro v aj ⟨rfl,rfl⟩;refine L ?_;refine F'.mk ((max l.x b.c:B):F) (by split<;>omega) (A7 ?_);refine EY.b (L ?_);refine F'.mk 0 A (L ?_);refine F'.mk 16 A (L ?_);refine Qp.mk 16 60 (60+a.length) 16 A A A Y A (by split<;>omega) (L ?_);refine A9.b au ?_;refine L ?_;refine F'.mk (K.cy b.o.1:F) (A3 Y) (L ?_);refine F'.mk (Ca b.o.1) (by rw[A3 Y,bo]) (A' ?_);refine F'.mk 1 A (EY.b (L ?_));refine F'.mk 2 A (L ?_);refine F'.mk 18 A (L ?_);refine Qp.mk 18 60 (60+a.length) 18 A A A Y A (by split<;>omega) (L ?_);refine A9.b av ?_;refine L ?_;refine F'.mk (K.cy b.o.2:F) (A3 Y) (L ?_);refine F'.mk (Ca b.o.2) (by rw[A3 Y,bp]) (A' ?_);refine F'.mk 2 A (EY.b (L ?_));refine EY.b (L ?_);refine F'.mk 0 A (L ?_);refine F'.mk 21 A (L ?_);refine Qp.mk 21 60 (60+a.length) 21 A A A Y A (by split<;>omega) (L ?_);refine A9.b aw (L ?_);obtain⟨S,U,bi⟩:∃S U,b.a=⟨S,U⟩:=⟨_,_,A⟩;rw[bi] at ax⊢;dsimp only at ax⊢;refine A7 ?_;refine F'.mk (S:F) ((No _ 8 64 Y).trans (by congr 1;omega)) (A7 ?_);refine F'.mk (U:F) ((bS _ Y).trans (by congr 1;omega)) (A7 ?_);intro br;refine Cr.z (f:=AW) (n:=_) (a1:=_) (m:=1) (h:=[]) (g:=0) (ak:=0) (i:=[]) A A A A A A A ⟨A,Z⟩ (Bi _) kW [⟨S,U⟩] A A Z ⟨AI 0,Z,A⟩ ⟨Z,Z⟩ (λa8 a7 bq bh=>?_);refine L ?_;refine F'.mk 1 A (EY.b (L ?_));refine⟨_,?_,a8,a7,bq,bh,A,A⟩;exact AQ.b
namespace K
structure dz(a:K):Prop where
 nA:a.fh
 nD:a.aj=128
 nE:1<=a.t/\a.t<=360
 nB:a.j.length=70
 nM:a.g.length=(a.t+15)/32+1
 nL:∀f,f<a.g.length->∀j∈a.az f,j<256
 nH:∀f,f<a.g.length->∀m,m<32->fi (a.az f) m<=262144
 nG:∀f,f<a.g.length->a.g.getD f 0<=262144
 nF:∀f,f<a.g.length->a.g.getD f 0≠0->(DE (a.g.getD f 0)).a<70/\∃l,(a.w (DE (a.g.getD f 0)).a).a[(DE (a.g.getD f 0)).b]?=C l/\l.length=192/\∀j∈l,j<256
 nI:∀n,n<a.v->∀o,a.ba n=C o->o.a<70
def dz.nC(a:n.dz):n.ao=32:=by unfold K.ao;rw[a.nD]
variable{r:K}
def dz.nT(f:n.dz)(m:hs n r l):r.dz:=by
 obtain⟨j,z,F,q,G,Q⟩:=m.nD;have L:r.v=n.v:=by unfold K.v;rw[q]
 have p:∀o,r.ba o=n.ba o:=λo=>by unfold ba;rw[m.nF]
 refine⟨m.nH f.nA,by rw[z];exact f.nD,by rw[q];exact f.nE,by rw[G];exact f.nB,by rw[j,q];exact f.nM,?_,?_,?_,?_,?_⟩
 ·intro l a y p;rw[j] at a;rw[m.nB] at p;exact f.nL l a y p
 ·intro l a N M;rw[j] at a;rw[m.nB];exact f.nH l a N M
 ·intro l a;rw[j] at a⊢;exact f.nG l a
 ·intro l a t;rw[j] at a t⊢;unfold K.w;rw[F];exact f.nF l a t
 ·intro o u P x;rw[L] at u;rw[p] at x;exact f.nI o u P x
def dz.nR(r:n.dz)(a:G Cq)(M:a.length=70):({n with j:=a}:K).dz:=by
 obtain⟨⟨f,l,m,o,p,q⟩,u,x,N,y,z,B,F,L,t⟩:=r;exact⟨⟨f,l,m,o,p,q⟩,u,x,M,y,z,B,F,L,t⟩
def dz.nO(a:n.dz)(b:B)(f:Cq->Cq):(n.bl b f).dz:=a.nR _ (by rw[B_];exact a.nB)
def dz.nJ(f:n.dz)(j:l<n.v):(n.be l).1=n.ba l/\hs n (n.be l).2 (l/32)/\(n.be l).2.dz:=by
 have a:=mj f.nA j;rw[f.nC] at a;exact⟨a.1,a.2,f.nT a.2⟩
def dz.nS(a:n.dz)(f:l<n.v):l/32<n.g.length:=by
 have:=gr a.nA f;rw[a.nC] at this;exact this
def nd(a:K)(o:AC AF):K:=match o with
 |none=>a
 |some f=>a.ee f
def hy(f:K)(a:B):K:=(f.be a).2.nd (f.be a).1
def ej(f:K)(a:B):K:=(AH a).foldl hy f
def nq(f:K)(a:B):f.ej (a+1)=(f.ej a).hy a:=by unfold ej;rw[DO,KQ];rfl
def fy(a:K):K:={a with h:=[],an:=0,u:=0,j:=[]}
def wb(a:K)(f:B):(a.am f).an=a.an+1:=by unfold am;split<;>rfl
def mr(o:AC AF)(b:B):AE:=match o with
 |some a=>a.a==b
 |none=>I
def fv(f:K)(b a:B):AE:=mr (f.ba a) b
def pz(f:K)(b a:B):((AH (a+1)).filter (f.fv b)).length=((AH a).filter (f.fv b)).length+if f.fv b a=R then 1 else 0:=by
 rw[DO,EO,Ad];congr 1;cases j:f.fv b a with
 |true=>rw[KO j];rfl
 |false=>rw[Iq (by rw[j];decide)];rfl
structure ls(a:K)(o:B)(f:K):Prop where
 nA:f.dz
 nB:f.fy=a.fy
 nF:∀j,f.ba j=a.ba j
 nH:∀n,f.az n=a.az n
 nE:f.an<=a.an+o
 nG:∀j,(match f.h.getD j E with|some m=>m.b|none=>I)=(match a.h.getD j E with|some m=>m.b|none=>I)
 nC:∀l,f.b l={a.b l with c:=(a.b l).c+(((AH o).filter (a.fv l)).length:B)}
def ls.nJ{o:K}(a:ls n l o)(N:l<n.v):ls n (l+1) (o.hy l):=by
 have ah:o.t=n.t:=by have:=AB K.t a.nB;exact this
 have L:l<o.v:=by unfold K.v at N⊢;rw[ah];exact N
 obtain⟨aa,q,u⟩:=a.nA.nJ L;have ag:(o.be l).2.an=o.an+1:=wb _ _;unfold hy;rw[aa];obtain⟨f,ak⟩:∃f,(o.be l).2=f:=⟨_,A⟩;rw[ak] at q u ag⊢;have aj:f.da=o.da:=q.nA;have S:f.fy=n.fy:=by
  have:f.fy=o.fy:=AB (λn:K=>{n with j:=[]}) aj;rw[this,a.nB]
 have M:∀p,f.ba p=n.ba p:=λp=>by rw[<-a.nF];unfold K.ba;rw[q.nF]
 have U:f.j=o.j:=q.nD.2.2.2.2.1;have af:∀b,f.b b=o.b b:=λb=>by unfold K.b;rw[U]
 have al:=a.nE;rw[a.nF];cases y:n.ba l with
 |none=>
  refine⟨u,S,M,λF=>by show f.az F=_;rw[q.nB,a.nH],by show f.an<=_;omega,λp=>(q.nC p).trans (a.nG p),λb=>?_⟩;show f.b b=_;have z:n.fv b l=I:=AB (λo=>mr o b) y;have t:=pz n b l;rw[z] at t;have r:((AH (l+1)).filter (n.fv b)).length=((AH l).filter (n.fv b)).length:=t;rw[af,a.nC b,r]
 |some m=>
  have ai:m.a<70:=a.nA.nI l L m (by rw[a.nF];exact y);refine⟨show(f.bl m.a λY=>{Y with c:=Y.c+1}).dz from u.nO _ _,S,M,λF=>by show f.az F=_;rw[q.nB,a.nH],by show f.an<=_;omega,λp=>(q.nC p).trans (a.nG p),λb=>?_⟩;show(f.ee m).b b=_;unfold ee K.bl K.b;dsimp only;rw[K.cz (by rw[u.nB];exact ai),U];have t:=a.nC b;have G:=a.nC m.a;unfold K.b at t G;have z:n.fv b l=(m.a==b):=AB (λo=>mr o b) y;have r:=pz n b l;rw[z] at r;by_cases W:b=m.a
  ·subst W;rw[A8 A,G];have Z:(m.a==m.a)=R:=Y1;rw[Z] at r;have x:((AH (l+1)).filter (n.fv m.a)).length=((AH l).filter (n.fv m.a)).length+1:=r;rw[x];congr 1;dsimp only;omega
  ·rw[A1 W,t];have:(m.a==b)=I:=Y5;rw[this] at r;have x:((AH (l+1)).filter (n.fv b)).length=((AH l).filter (n.fv b)).length:=r;rw[x]
def ls.nD{a:K}(l:a.dz):∀f,f<=a.v->ls a f (a.ej f)
 |0,_=>⟨l,A,λ_=>A,λ_=>A,AI _,λ_=>A,λb=>by
  show a.b b=_;obtain⟨j,n⟩:∃j,a.b b=j:=⟨_,A⟩;rw[n];show j={j with c:=j.c+0};rw[Int.add_zero]⟩
 |f+1,m=>by rw[nq];exact(ls.nD l f Y).nJ m
end K
def Mp.a(j:n.dz)(p:l<n.g.length)(r:n.h.getD l E=E):∀a,a<32->n.g.getD l 0≠0->∀f,(n.w (DE (n.g.getD l 0)).a).a[(DE (n.g.getD l 0)).b]?=C f->Az ((f.take 128).drop (4*a)) 4<=262144:=by
 intro a q m f o;have:=j.nH l p a q;unfold K.az at this;rw[r] at this;unfold K.cq K.fi at this;rw[A1 m,j.nD,Nat.mul_comm] at this;unfold K.ay at this;rw[AY,o] at this;exact this
variable{xr:AR}
def K.dz.nU(a:n.dz)(j:CK xr n)(f:n.an<=l):HN l xr n:=⟨j,a.nA.nA.symm,a.nD,f,a.nE.1⟩
def K.dz.nQ(a:n.dz)(f:l<n.g.length)(u:n.h.getD l E=E):GP n l:=
 ⟨by have:=a.nG l f;omega,λm=>by
  obtain⟨p,j,o,q,r⟩:=a.nF l f m;exact⟨p,j,o,q,r,λx t=>Mp.a a f u x t m j o⟩⟩
def K.dz.nP(a:n.dz)(f:l<n.g.length):Gq n l:=by
 intro p o;have m:=K.ga a.nA f;have j:(n.am l).az l=p.a:=by unfold K.az;rw[o]
 rw[m.nB] at j;rw[<-j];exact⟨by rw[K.hp a.nA f,a.nD],a.nL l f⟩
def K.dz.nN(a:n.dz)(f:l<n.v):l<n.t+16/\l<=100000:=by unfold K.v at f;have:=a.nE;omega
def K.ls.nI{o:K}(f:n.ls l o):o.v=n.v:=by
 have a:o.fy.t=n.fy.t:=by rw[f.nB]
 have a:o.t=n.t:=a;unfold K.v;rw[a]
abbrev AR.ba(a:AR)(l:B)(f:K)(j:AX):S:=
 [.t l (a.j f) 292,.t a.x (AZ (Ab f) 70) 295,.t a.d (a.u f l) 394,.t a.ac (f.g.map CH) 30,.o a.y (AM a.e a.g),
  AJ a.al f.ac [],.o a.am (AM a.ah a.ai),.u (A2 a.ae),.u (A2 (a.w.a (f.ae.map AD) 3)),.u (A2 (a.z.a (f.bj.flatMap AW) 326)),.u (A2 (a.ak.a (f.ah.flatMap L6) 502)),
  .u (A2 (FO a.h a.t a.i f.h (AH f.h.length))),
  .t a.ab [P a.f,Q a.b.b f.aa.length a.b.f,D1 f.aq,D Au f.av,Ah (C a.b.d)] 477,BJ a.b.b f.aa a.b.h,.o a.b.d (AM (C6 f.bn a.b.a a.b.g a.b.j) a.b.s),Dr f.bn a.b.a a.b.i,
  .t a.f [Cd 53 (P a.c),P a.c,N 192,Ah (C a.s),N j.c] 277,.o a.s (AM #[] 0),.u (CB a.c j.a)]
abbrev AR.bb(a:AR)(l:B)(f:K)(j:AX):S:=
 [.t l (a.j f) 292,.t a.x (AZ (Ab f) 70) 295,.t a.d (a.u f l) 394,.t a.ac (f.g.map CH) 30,.o a.y (AM a.e a.g),
  AJ a.al f.ac [],.o a.am (AM a.ah a.ai),.u (A2 a.ae),.u (A2 (a.w.a (f.ae.map AD) 3)),.u (A2 (a.aa.a (f.ax.flatMap AW) 326)),.u (A2 (a.ak.a (f.ah.flatMap L6) 502)),
  .u (A2 (FO a.h a.t a.i f.h (AH f.h.length))),
  .t a.ab [P a.f,Q a.b.b f.aa.length a.b.f,D1 f.aq,D Au f.av,Ah (C a.b.d)] 477,BJ a.b.b f.aa a.b.h,.o a.b.d (AM (C6 f.bn a.b.a a.b.g a.b.j) a.b.s),Dr f.bn a.b.a a.b.i,
  .t a.f [Cd 53 (P a.c),P a.c,N 192,Ah (C a.s),N j.c] 277,.o a.s (AM #[] 0),.u (CB a.c j.a)]
def K.em(a:K)(f:AF):K:=((a.ej a.v).ai f).dl.foldl K.ai (((((a.ej a.v).ai f).dl.foldl K.ai ((a.ej a.v).ai f))).du ((a.ej a.v).ai f).dl a.ax)
def Qw:∀(j:G AF)(a:K)(l:F),a.j.length=70->(∀f∈j,f.a<70)->(∀b,0<=(a.b b).d/\(a.b b).d<=l)->(j.foldl K.ai a).j.length=70/\∀b,0<=((j.foldl K.ai a).b b).d/\((j.foldl K.ai a).b b).d<=l+j.length
 |[],a,l,m,_,n=>⟨m,λb=>by have:=n b;simpa using this⟩
 |f::j,a,l,m,o,n=>by
  have q:=o f (Bt ..);have p:∀b,(a.ai f).b b=if b=f.a then{a.b f.a with d:=(a.b f.a).d+1} else a.b b:=λb=>K.cz (f:=a.j) (by rw[m];exact q) b
  obtain⟨t,u⟩:=Qw j (a.ai f) (l+1) (by show(a.bl _ _).j.length=70;rw[YM];exact m) (λx r=>o x (By _ r)) (λb=>by
   rw[p];have y:=n b;have z:=n f.a;split
   ·dsimp only;omega
   ·omega)
  refine⟨t,λb=>?_⟩;have:=u b;rw[DN,C8];omega
def V5(j:AR)(l:D6)(m t:B)(r:G M)(q:AU)(a:K)(p:AX)(f u:G AF)(n:AC CW)(o:B)(F:l.b f.length=O n f.length o)(L:a.ax=u):
 AQ ((.t t r q::.t m (Cb (j.j a) (0+31+0) (O n f.length o)) 292::(j.a m a p).drop 1)++l.a (f.flatMap AW) 326) (.t t r q::AR.a {j with z:=l} m (a.du f u) p):=by
 subst L;have y:AR.j {j with z:=l} (a.du f a.ax)=Cb (j.j a) (0+31+0) (O n f.length o):=by
  have x:AR.j {j with z:=l} (a.du f a.ax)=(j.j a).take 31++(l.b f.length::(j.j a).drop 32):=A;rw[x,F];rfl
 show AQ _ (_::.t m (AR.j {j with z:=l} (a.du f a.ax)) _::_);rw[y];refine(AQ.u Cj).t ((AQ.aa _ _).t ?_);exact AQ.b
def fR(ag l al ay cl:B)(ba:G M)(av:AR)(a:K)(f:AF)(bv:AX)(W b aj ak:M)(a4:a.dz)(dq:CK av a)(c8:B2 al bv a)(ef:al+1000<=500000000)(ea:a.an<=al)(bn:∀b,(a.b b).c=0/\(a.b b).d=0)(cc:a.ax=[f])(bs:f.a<70)(d1:av.aa=⟨C ay,0,cl,[],ba⟩)(ed:a.bj=[])(cj:av.z=Es)(dv:∀an,an<a.g.length->∀p,a.bo an=C p->p.a<70):
 Z9 349 [P ag] (.t ag [P l,W,b,aj,ak] 323::av.a l a bv)
  λv c5=>∃t cm cn,EZ av t/\CK t (a.em f)/\B2 (al+400) cn (a.em f)/\cm.c 2 (a.em f).bj.length/\(cm.d=E\/0<(a.em f).bj.length)/\v=N 0/\c5=.t ag [P l,W,b,aj,ak] 323::AR.a {t with z:=cm} l (a.em f) cn:=by
 have c9:a.t+16=a.v:=A;have ek:=a4.nE;refine A9.t ?_;refine L ?_;refine A9.b (Qy l av a Y) ?_;rw[c9];refine L ?_;refine EY.f (m:=B×AR×AX) (λaf=>a.v-af.1) (λaf=>af.1<=a.v/\EZ av af.2.1/\CK af.2.1 (a.ej af.1)/\B2 (al+af.1) af.2.2 (a.ej af.1)) (λaf=>[(0,P ag),(15,N (a.v:B)),(16,N (af.1:B))]) (λaf=>.t ag [P l,W,b,aj,ak] 323::af.2.1.a l (a.ej af.1) af.2.2) (0,av,bv) ⟨Af _,.a av,dq,c8⟩ ⟨A,A,A,AA⟩ AQ.b ?_;rintro⟨m,t,U⟩ ⟨c0,a8,a6,a5⟩ ai;dsimp only at c0 a8 a6 a5;have x:=K.ls.nD a4 m c0;refine EY.b (IK.mk (λp=>?_) (λp=>?_))
 ·have p:m<a.v:=by simp at p;omega
  have a0:=K.nq a m;obtain⟨o,a7⟩:∃o,a.ej m=o:=⟨_,A⟩;rw[a7] at a0 x a6 a5;rw[a7];have be:m<o.v:=by rw[x.nI];exact p
  have ej:a.v<=376:=by unfold K.v;omega
  have b9:=x.nA.nS be;have bq:=NR l (al+m) m t o U (x.nA.nN be).1 (by rw[x.nA.nA.nA];exact b9) (x.nA.nU a6 (by have:=x.nE;omega)) a5 (λaf=>x.nA.nQ b9 af) (x.nA.nP b9) Y (x.nA.nN be).2;obtain⟨co,cp,cq⟩:=x.nA.nJ be;rw[co] at bq;have ar:o.hy m=(o.be m).2.nd (o.ba m):=by unfold K.hy;rw[co]
  obtain⟨r,dw⟩:∃r,(o.be m).2=r:=⟨_,A⟩;rw[dw] at bq ar cp cq;have dx:r.j=o.j:=cp.nD.2.2.2.2.1;refine L ?_;refine A9.w (a:=[.t ag [P l,W,b,aj,ak] 323]++t.a l o U) AQ.b (A9.ac bq ?_);rintro v c6 ⟨Z,a3,cj,c1,cs,rfl,rfl⟩;cases b5:o.ba m with
  |none=>
   rw[b5] at ar;unfold P5;dsimp only;refine L ?_;intro cr;refine A' ?_;refine F'.mk ((m+1:B):F) Y2 (ai (m+1,Z,a3) ⟨p,a8.c cj,?_,?_⟩ (by show a.v-(m+1)<a.v-m;omega) ⟨A,A,A,AA⟩ ?_)
   ·show CK Z (a.ej (m+1));rw[a0,ar];exact c1
   ·show B2 (al+(m+1)) a3 (a.ej (m+1));rw[a0,ar];exact cs
   ·show AQ _ (_::Z.a l (a.ej (m+1)) a3);rw[a0,ar];exact AQ.b
  |some u=>
   rw[b5] at ar;have bk:u.a<70:=x.nA.nI m be u b5;unfold P5;dsimp only;refine L ?_;intro cr;refine A7 ?_;have eo:=Aa ((u.a:F)≥70);have bf:CX (AZ (Ab r) 70) (0+u.a*6+1) 1 I=C (N (r.b u.a).c):=by
    show(AZ (Ab r) 70)[0+u.a*6+1]?=_;rw[BF,FJ r bk Y];rfl
   have cy:(AZ (Ab r) 70).length=420:=Db (EH r) 70;have bj:=GU r (r.ee u) bk (j:=1) Y (N ((r.b u.a).c+1)) λn b7=>Qt r u (by rw[cq.nB];exact bk) n;have ee:0<=(r.b u.a).c/\(r.b u.a).c<=1000:=by
    have aa:r.b u.a=o.b u.a:=by unfold K.b;rw[dx]
    rw[aa,x.nC];dsimp only;rw[(bn u.a).1];have:=Ez (a.fv u.a) (AH m);rw[Dj] at this;omega
   clear bn bq;refine A7 ?_;refine Ms.mk bf (L ?_);refine F'.mk ((r.b u.a).c+1) (A3 Y) (A' ?_);refine F'.mk ((m+1:B):F) Y2 (ai (m+1,Z,a3) ⟨p,a8.c cj,?_,?_⟩ (by show a.v-(m+1)<a.v-m;omega) ⟨A,A,A,AA⟩ ?_)
   ·show CK Z (a.ej (m+1));rw[a0,ar];exact c1.c A
   ·show B2 (al+(m+1)) a3 (a.ej (m+1));rw[a0,ar];exact cs
   ·show AQ _ (_::Z.a l (a.ej (m+1)) a3);rw[a0,ar];show AQ _ (_::.t l (Z.j r) _::.t Z.x (AZ (Ab (r.ee u)) 70) _::_);rw[<-bj];exact AQ.b
 have p:m=a.v:=by simp at p;omega
 subst p;clear ai;obtain⟨o,a7⟩:∃o,a.ej a.v=o:=⟨_,A⟩;rw[a7] at x a6 a5;rw[a7];have eh:=x.nB;have ce:o.ax=[f]:=by
  have aa:o.fy.ax=a.fy.ax:=by rw[x.nB]
  exact Eq.trans aa cc
 have dt:o.g=a.g:=by
  have aa:o.fy.g=a.fy.g:=by rw[x.nB]
  exact aa
 have ci:t.aa=⟨C ay,0,cl,[],ba⟩:=by
  obtain⟨d4,bu,em,p,ep,en,rfl⟩:=a8;exact d1
 have d0:t.aa.b o.ax.length=Q ay 1 cl:=by rw[ci,ce];rfl
 have dn:t.aa.a (o.ax.flatMap AW) 326=[.t ay (AW f++ba) 326]:=by rw[ci,ce];rfl
 refine L ?_;rw[d0];refine L ?_;refine EY.h (f:=.t ay (AW f++ba) 326::.t ag [P l,W,b,aj,ak] 323::t.ba l o U) ?_ ?_
 ·show AQ (.t ag [P l,W,b,aj,ak] 323::t.a l o U) _;refine(AQ.ae (a:=t.aa.a (o.ax.flatMap AW) 326) Y0).t ?_;rw[dn];exact AQ.b
 refine EY.b (A7 ?_);intro cr;refine A7 ?_;have br:∀b,(0<=(o.b b).d/\(o.b b).d<=0):=λb=>by
  rw[x.nC];dsimp only;rw[(bn b).2];omega
 have bf:CX (AZ (Ab o) 70) (0+f.a*6+3) 1 I=C (N (o.b f.a).d):=by
  show(AZ (Ab o) 70)[0+f.a*6+3]?=_;rw[BF,FJ o bs Y];rfl
 have cy:(AZ (Ab o) 70).length=420:=Db (EH o) 70;have bj:=GU o (o.ai f) bs (j:=3) Y (N ((o.b f.a).d+1)) λn b7=>Mz o f (by rw[x.nA.nB];exact bs) n;have eg:=br f.a;refine A7 ?_;refine Ms.mk bf (L ?_);refine F'.mk ((o.b f.a).d+1) (A3 Y) (A' ?_);refine F'.mk 1 A (EY.b (L ?_));obtain⟨q,ao⟩:∃q,o.ai f=q:=⟨_,A⟩;have bd:q.dz:=by rw[<-ao];exact x.nA.nO _ _
 have b4:∀b,0<=(q.b b).d/\(q.b b).d<=1:=λb=>by
  have d6:=br b;have d7:=br f.a;have aa:q.b b=if b=f.a then{o.b f.a with d:=(o.b f.a).d+1} else o.b b:=by
   rw[<-ao];exact K.cz (f:=o.j) (by rw[x.nA.nB];exact bs) b
  rw[aa];split
  ·dsimp only;omega
  ·omega
 have dd:q.g=a.g:=by rw[<-ao];exact dt
 have b3:q.ax=[f]:=by rw[<-ao];exact ce
 have cw:∀an p,q.bo an=C p->p.a<70:=λan p bi=>by
  unfold K.bo at bi;rw[dd] at bi;rcases Ck an a.g.length with u|u
  ·exact dv an u p bi
  ·exfalso;rw[AY,Dm u] at bi;cases bi
 have eb:=bd.nM;have d8:=bd.nE;have bm:=SQ l t q U Y (λan b6=>by have:=bd.nG an b6;omega) cw bd.nB (λb d9=>by have:=b4 b;omega);have dp:t.aa.a (q.ax.flatMap AW) 326=[.t ay (AW f++ba) 326]:=by rw[ci,b3];rfl
 rw[K.mt] at bm;dsimp only at bm;have c3:=K.li q;have aq:a.em f=q.dl.foldl K.ai ((q.dl.foldl K.ai q).du q.dl a.ax):=by unfold K.em;rw[a7,ao]
 obtain⟨bu,cg⟩:∃bu,q.dl=bu:=⟨_,A⟩;rw[cg] at bm c3 aq;refine A9.w (a:=[.t ag [P l,W,b,aj,ak] 323]++t.a l q U) ?_ ?_
 ·refine AQ.ai (n:=.t ay (AW f++ba) 326) Y0 dp.symm (j:=.t ag [P l,W,b,aj,ak] 323::t.a l q U) (m:=.t ag [P l,W,b,aj,ak] 323::t.ba l q U) Y0 ?_;rw[<-ao];show AQ _ (_::.t l (t.j o) _::.t t.x (AZ (Ab (o.ai f)) 70) _::_);rw[<-bj];exact AQ.b
 refine A9.ac bm ?_;rintro v c6 ⟨ap,c7,a9,c2,c4,rfl⟩;obtain⟨au,bo,ca,bp,bh⟩:=c2.v (xt:=326) (m:=AW) (np:=ap) (λ_=>A);obtain⟨bl,a2,az⟩:=bo.nA.nA;rw[<-bp,az] at c4;subst c4;refine A7 ?_;cases bu with
 |nil=>
  have df:O bl 0 a2=O E 0 0:=by rw[<-show au.b 0=O bl 0 a2 from az];exact bp
  obtain⟨⟨⟩,-⟩:bl=E/\a2=0:=by simpa using df
  have dr:au.a (([]:G AF).flatMap AW) 326=[]:=bh;have bg:a.em f=q.du [] [f]:=by rw[aq,cc];rfl
  refine EY.b (L ?_);refine⟨_,?_,t,au,U,a8,a6.c (by rw[bg,<-ao];rfl),?_,by rw[bg];exact bo,by rw[bg];exact ca,A,A⟩
  ·rw[bg];have bb:=V5 t au l ag [P l,W,b,aj,ak] 323 q U [] [f] E a2 az b3;rw[dr,B1] at bb;exact AQ.t (AQ.u (by rw[show BX 326 AW ap ([]:G AF) a9=[] from A];exact Bi _)) bb
  ·rw[bg,<-ao];exact a5.a Y
 |cons d3 d2=>
  obtain⟨j,ct⟩:∃j,d3::d2=j:=⟨_,A⟩;rw[ct] at bo ca bp bh az aq cg c3 c2⊢;have bx:j≠[]:=by rw[<-ct];simp
  have dg:bl=V ap/\a2=c7:=by
   rw[bp,E1 bx] at az;simpa[eq_comm] using az
  obtain⟨rfl,rfl⟩:=dg;have b1:∀S∈j,S.a<70:=λS a1=>by
   rw[<-cg] at a1;unfold K.dl at a1;obtain⟨an,_,b6⟩:=QD.1 a1;exact cw an S b6
  obtain⟨ax,bc⟩:∃ax,j.foldl K.ai q=ax:=⟨_,A⟩;rw[bc] at aq⊢;have da:ax.ax=[f]:=by
   have aa:∀(y:G AF)(a:K),(y.foldl K.ai a).ax=a.ax:=λy=>by
    induction y with
    |nil=>intro a;rfl
    |cons W y ai=>intro a;rw[DN,ai];rfl
   rw[<-bc,aa];exact b3
  obtain⟨am,aw⟩:∃am,ax.du j [f]=am:=⟨_,A⟩;rw[cc,aw] at aq;obtain⟨Z,bt⟩:∃Z,({t with z:=au}:AR)=Z:=⟨_,A⟩;have bb:=V5 t au l ag [P l,W,b,aj,ak] 323 ax U j [f] (V ap) a2 az da;rw[aw,bt,bh] at bb;have dj:Z.z.a (am.bj.flatMap AW) 326=[.t ap (j.flatMap AW++a9) 326]:=by
   rw[<-bt,<-aw];show au.a (j.flatMap AW) _=_;rw[bh,Dw bx]
  obtain⟨cu,b2⟩:=Qw j q 1 bd.nB b1 (λb=>b4 b);rw[bc] at cu b2;have cv:∀b,0<=(am.b b).d/\(am.b b).d<=1+(j.length:B):=λb=>by rw[<-aw];exact b2 b
  have db:am.j.length=70:=by rw[<-aw];exact cu
  refine EY.h _ ((AQ.u (Bi _)).t bb) (EY.f (m:=B) (λn=>j.length-n) (λn=>n<=j.length) (λn=>[(0,P ag),(119,Q ap j.length a2),(120,N (j.length:B)),(121,N (n:B))]) (λn=>.t ap (j.flatMap AW++a9) 326::.t ag [P l,W,b,aj,ak] 323::Z.bb l ((j.take n).foldl K.ai am) U) 0 (Af _) ⟨A,A,A,A,AA⟩ ?_ ?_)
  ·refine(AQ.ae (a:=Z.z.a (am.bj.flatMap AW) 326) Y0).t ?_;rw[dj];exact AQ.b
  intro n b7 ai;refine EY.b (IK.mk (λp=>?_) (λp=>?_))
  ·have p:n<j.length:=by simp at p;omega
   have ch:=Nt K.ai j n ⟨0,0⟩ p am;obtain⟨S,a1⟩:∃S,j.getD n ⟨0,0⟩=S:=⟨_,A⟩;have ck:j[n]?=C S:=by rw[<-a1];exact IT p
   have cd:S.a<70:=b1 S (FW ck);obtain⟨cz,b8⟩:=Qw (j.take n) am _ db (λu bk=>b1 u (EW bk)) cv;rw[a1] at ch;obtain⟨ah,cx⟩:∃ah,(j.take n).foldl K.ai am=ah:=⟨_,A⟩;rw[cx] at ch cz b8;rw[cx];have bf:CX (AZ (Ab ah) 70) (0+S.a*6+3) 1 I=C (N (ah.b S.a).d):=by
    show(AZ (Ab ah) 70)[0+S.a*6+3]?=_;rw[BF,FJ ah cd Y];rfl
   have cy:(AZ (Ab ah) 70).length=420:=Db (EH ah) 70;have bj:=GU ah (ah.ai S) cd (j:=3) Y (N ((ah.b S.a).d+1)) λn b7=>Mz ah S (by rw[cz];exact cd) n;have ei:=b8 S.a;have ec:(j.take n).length<=j.length:=Z3;have de:=XB (er:=a9) ck;clear a1 ck bn b8 cv b2 br b4;refine A7 ?_;refine Ms.mk (v:=AV (AW S).toArray) de ?_;intro d5;refine A7 ?_;refine Ms.mk bf (L ?_);refine F'.mk ((ah.b S.a).d+1) (A3 Y) (A' ?_);refine F'.mk ((n+1:B):F) Y2 (ai (n+1) (by show n+1<=j.length;omega) (by show j.length-(n+1)<j.length-n;omega) ⟨A,A,A,A,AA⟩ ?_);rw[ch];show AQ _ (_::_::.t l (Z.j ah) _::.t Z.x (AZ (Ab (ah.ai S)) 70) _::_);rw[<-bj];exact AQ.b
  have p:n=j.length:=by simp at p;omega
  clear ai;subst p;rw[LZ,<-aq];have cb:(a.em f).bj=j:=by
   have aa:∀(y:G AF)(a:K),(y.foldl K.ai a).bj=a.bj:=λy=>by
    induction y with
    |nil=>intro a;rfl
    |cons W y ai=>intro a;rw[DN,ai];rfl
   rw[aq,aa,<-aw];rfl
  have du:(a.em f).h=o.h:=by
   have aa:∀(y:G AF)(a:K),(y.foldl K.ai a).h=a.h:=λy=>by
    induction y with
    |nil=>intro a;rfl
    |cons W y ai=>intro a;rw[DN,ai];rfl
   rw[aq,aa,<-aw];show ax.h=_;rw[<-bc,aa,<-ao];rfl
  have ds:B2 (al+a.v) U (a.em f):=by
   have aa:∀(y:G AF)(r:K),B2 (al+a.v) U r->B2 (al+a.v) U (y.foldl K.ai r):=λy=>by
    induction y with
    |nil=>intro r a4;exact a4
    |cons W y ai=>intro r a4;rw[DN];exact ai (r.ai W) a4
   rw[aq];refine aa j am ?_;rw[<-aw];show B2 _ U ax;rw[<-bc];refine aa j q ?_;rw[<-ao];exact a5
  refine⟨_,?_,t,au,U,a8,a6.c du,?_,by rw[cb];exact bo,by rw[cb];exact ca,A,A⟩
  ·refine L ?_;have dl:Z.z.a ((a.em f).bj.flatMap AW) 326=[.t ap (j.flatMap AW++a9) 326]:=by
    rw[<-bt,cb];show au.a (j.flatMap AW) _=_;rw[bh,Dw bx]
   rw[bt];exact AQ.ai (n:=.t ap (j.flatMap AW++a9) 326) Y0 dl.symm (j:=.t ag [P l,W,b,aj,ak] 323::Z.a l (a.em f) U) Y0 AQ.b
  ·exact ds.a (by show al+(a.t+16)<=al+400;omega)
def UV(f:B)(m:AR)(a:K)(j l:M)(n:a.t<=100000):AK 166 [P f] [.t f (m.ag a j l) 292] (N (a.t+16:B)):=by
 refine A9.t ?_;refine L ?_;refine F'.mk ((a.t+16:B):F) Y4 ?_;exact⟨_,.w _,A,A⟩
abbrev R7(a:B):G M:=[W a]
def Vi(a:G B):a.flatMap R7=a.map W:=by induction a with
 |nil=>rfl
 |cons j a f=>rw[FE,f];rfl
structure Qo(m:K)(j:G B):Prop where
 d:j.length=192
 e:∀o∈j,o<256
 c:∃l:AN,l.i/\l.b=4/\l.c=0/\j.drop 128=l.g
 b:8+4*m.g.length+m.ac.length<=128
 f:Az j 4=1346456915
 g:Az (j.drop 4) 4=m.g.length
 a:∀n,n<m.g.length->F3 j n<=262144
def K.hd(a:K)(f:G B)(j:AF):K:={a with g:=(AH a.g.length).map (F3 f),ac:=(f.drop (8+4*a.g.length)).take a.ac.length,ax:=[j],u:=a.u+1,an:=0,h:=U a.g.length E}
def gO(f:G B){m a:B}(j:a<=m):Az (f.take m) a=Az f a:=Jv a λn l=>by
 rw[AY,AY,Mi Y]
def Rb(j:G B){m f a:B}(l:f+a<=m):Az ((j.take m).drop f) a=Az (j.drop f) a:=Jv a λo n=>by
 rw[AY,AY,FU,FU,Mi Y]
structure UE(l:AR)(j:K):Prop where
 e:1<=j.t/\j.t<=360
 b:j.g.length=(j.t+15)/32+1
 g:l.w=Es/\j.ae=[]
 c:l.z=Es/\j.bj=[]
 d:l.aa=Es/\j.ax=[]
 a:l.ak=Es/\j.ah=[]
 f:l.ah=#[]/\l.ai=0/\l.ae=[]
abbrev Ut(m n:B)(a:AR)(f:K)(o:M)(j:AX)(l:G M):S:=
 .t m l 323::.t n (a.ag f o (P a.ab)) 292::.t a.x (AZ (Ab f) 70) 295::AJ a.al f.ac []::.o a.am (AM #[] 0)::.t a.ab [P a.f,Q a.b.b f.aa.length a.b.f,D1 f.aq,D Au f.av,Ah (C a.b.d)] 477::BJ a.b.b f.aa a.b.h::.o a.b.d (AM (C6 f.bn a.b.a a.b.g a.b.j) a.b.s)::Dr f.bn a.b.a a.b.i::j.b a.f a.c a.s
def cT(al n ap:B)(j:AR)(a:K)(b:HM)(l:G B)(b3:AX)(au av aw ax:M)(cy:B2 ap b3 a)(ep:ap+2000<=500000000)(cr:UE j a)(bi:b.e)(d8:D0.e ap j.b (Bx a))(d2:a.bn=C (b.b (GV j a.i)))(da:∀v∈H0 j a.i,v<=100000)(dp:a.x<=500000000)(df:(BD a.ab b.a.a).a[b.a.b]?=C l)(c1:Qo a l)
 (de:∀b,(a.b b).c=0/\(a.b b).d=0)(a6:((a.fk b).hd l b.a).dz):
 Z9 273 [P al] (Ut al n j a (T E) b3 [P n,au,av,aw,ax])
  λv b2=>∃m a2 b4,m.z=Es/\(∃cn cl co bc bv bt aq bx bu u af ai,m={j with d:=cn,ac:=cl,y:=co,e:=bc,v:=bv,g:=bt,h:=aq,t:=bx,i:=bu,aa:=⟨C u,0,af,[],ai⟩}/\m.aa.c 2 1)/\CK m (((a.fk b).hd l b.a).em b.a)/\B2 (ap+500) b4 (((a.fk b).hd l b.a).em b.a)/\a2.c 2 (((a.fk b).hd l b.a).em b.a).bj.length/\(a2.d=E\/0<(((a.fk b).hd l b.a).em b.a).bj.length)/\v=N 0/\b2=.t al [P n,au,av,aw,ax] 323::AR.a {m with z:=a2} n (((a.fk b).hd l b.a).em b.a) b4:=by
 obtain⟨eq,dj,⟨d9,er⟩,⟨bl,ds⟩,⟨en,eo⟩,⟨db,em⟩,⟨d4,d6,d7⟩⟩:=cr;obtain⟨dr,dt,⟨bj,d0,dq,dx,ea⟩,ca,dw,cb,b9⟩:=c1;have bp:=AAV al n j.ab ap j a j.b (Bx a) b (T E) au av aw ax bi d8 d2 da dp;obtain⟨f,ao⟩:∃f,a.g.length=f:=⟨_,A⟩;obtain⟨r,bf⟩:∃r,a.ac.length=r:=⟨_,A⟩;rw[ao] at cb b9 ca dj;rw[bf] at ca;have bo:=ME j.f j.c j.s b.a.a b.a.b l cy Y bi.nA.1 df;obtain⟨ag,ah,a8⟩:∃ag ah,b.a=⟨ag,ah⟩:=⟨_,_,A⟩;rw[a8] at bo bp;dsimp only at bo bp;refine A9.t ?_;refine A9.u bp ?_;rintro v ar ⟨u,af,ai,a7,rfl,rfl⟩;refine L ?_;refine EY.b (A7 ?_);intro ek;refine A7 ?_;refine A9.u bo ?_;rintro v ar ⟨ck,ba,a4,cz,rfl,rfl⟩;refine L ?_;refine A9.b (Rh bj d0 ck (192+ba.length) l ba 5 dr ea Y) (L ?_);intro ej;refine A7 ?_;have eu:((bj.b:F)!=4)=I:=by rw[dq];rfl
 have ev:((bj.c:F)!=0)=I:=by rw[dx];rfl
 refine L ?_;refine Qp.mk 0 128 (192+ba.length) 0 A A A Y A (by split<;>omega) (L ?_);have dg:((l.map W++ba).drop 0).take (128*1)=(l.take 128).flatMap R7:=by
  rw[Vi,CJ,Eg AF0,<-Hk]
 have bk:(l.take 128).length=128:=Z3;refine Cr.z (f:=R7) (n:=_) (a1:=_) (m:=128) (h:=[]) (g:=0) (ak:=0) (i:=[]) A A A A A A A ⟨A,Z⟩ (Bi _) (λeh=>⟨A,A⟩) (l.take 128) dg bk Z ⟨AI 0,Z,A⟩ ⟨Z,Z⟩ (λcq bb b1 bm=>?_);rw[Bz,Vi];rw[Bz] at bm;obtain⟨ak,bd⟩:∃ak,l.take 128=ak:=⟨_,A⟩;rw[bd] at bm bk⊢;refine L ?_;refine F'.mk 1 A (EY.b (L ?_));have b7:=UV n j (a.fk b) (T E) (P j.ab) (by show a.t<=100000;omega);refine A9.b b7 ?_;refine L ?_;refine A9.u b7 ?_;rintro v ar ⟨rfl,rfl⟩;refine L ?_;have b6:(a.t+16-1)/32+1=f:=Y;have ce:=T1 (a.t+16) (AV #[P n]) Y;rw[b6] at ce;refine A9.u ce ?_;rintro v ar ⟨b5,cp,cm,rfl,rfl⟩;refine A7 ?_;have be:=V9 n {j with d:=b5,ac:=cm,y:=cp} {a with an:=0} (by show a.g.length<=1000;omega);have c0:({a with an:=0}:K).g.length=f:=ao;unfold AR.u at be;rw[c0] at be;refine A9.b be ?_;refine L ?_;have am:(a.fk b).ac.length=r:=bf;refine F'.mk ((8+4*f+r:B):F) (by rw[am,A3 Y];omega) ?_;have ew:=Aa ((128:F)<((8+4*f+r:B):F));refine L ?_;have dd:=bm.t;rw[bk] at dd;refine Qp.mk 0 (8+4*f) bb 0 A A A Y A (by split<;>omega) (L ?_);have b8:=UV n j (a.fk b) (P b5) (P j.ab) (by show a.t<=100000;omega);refine A9.b b8 ?_;refine L ?_;refine A9.u b8 ?_;rintro v ar ⟨rfl,rfl⟩;refine L ?_;have cx:ak.take (8+4*f)=l.take (8+4*f):=by rw[<-bd,AEc];congr 1;omega
 have du:=i8 (a.t+16) (AV #[P n]) Y cq 0 bb f b6 (ak.map W++b1) 5 (l.take (8+4*f)) Z3 (λci c3=>dt ci (EW c3)) Y (by
  rw[CJ,Eg AF0,<-Hk,cx]) (by rw[gO l Y];exact dw) (by rw[Rb l Y];exact cb) (λx aj=>by
  have:=b9 x aj;unfold F3 at this⊢;rw[Rb l Y];exact this)
 refine A9.u du ?_;rintro v ar ⟨az,a0,ay,rfl,rfl⟩;refine A7 ?_;refine Qp.mk (8+4*f) 128 bb (8+4*f) A A A Y A (by split<;>omega) (L ?_);obtain⟨S,bg⟩:∃S,(l.drop (8+4*f)).take r=S:=⟨_,A⟩;have bh:S.length=r:=by rw[<-bg,Ci,DV];omega
 refine Cr.aa (n:=_) A A A A A A r (by rw[am];omega) (S.map W) ?_ ⟨?_,?_⟩ (Gy S) ?_
 ·show((ak.map W++b1).drop (8+4*f)).take (r*1)=_;rw[IB AF0,B3,Eg (by rw[DV,BW];omega),<-List.map_drop,<-Hk,<-bg,<-bd,List.drop_take,AEc];congr 2;omega
 ·show 8+4*f+r*1<=(ak.map W++b1).length;rw[Ad,BW];omega
 ·show 0+r*1<=(((a.fk b).ac.map W++[]):G M).length;rw[B1,BW,am];omega
 refine A7 ?_;rw[a8] at a6;obtain⟨p,o⟩:∃p,(a.fk b).hd l ⟨ag,ah⟩=p:=⟨_,A⟩;obtain⟨m,q⟩:∃m:AR,{j with d:=az,ac:=ay,y:=a0,e:=#[],v:=[],g:=0,aa:=⟨C u,0,af,[],ai⟩}=m:=⟨_,A⟩;have d5:p.g.length=f:=by rw[<-o];show((AH a.g.length).map (F3 l)).length=f;rw[BW,Dj,ao]
 have bq:p.h=U f E:=by rw[<-o,<-ao];rfl
 have cc:p.ac=S:=by rw[<-o,<-bg,<-ao,<-bf];rfl
 have cd:p.ax=[⟨ag,ah⟩]:=by rw[<-o];rfl
 have bn:∀x,p.h.getD x E=E:=λx=>by rw[bq];exact K.ib _ _ _
 have d3:(D6.mk (C u) 0 af [] ai).c 2 1:=⟨⟨(λaq=>by cases aq),A,⟨a7.t,a7.u⟩,Nat.le_of_eq a7.s.symm⟩,A,A,a7.s⟩;rw[o] at a6;have dv:CK m p:=by
  rw[<-q];refine⟨A,El.b,λx aj=>by rw[bn];rfl,?_,by rw[bq,BI];omega,(λes eh cg=>by rw[bn] at cg;cases cg),⟨O7,(λet d1=>by cases d1)⟩⟩;rw[bq];have cj:∀a9,((U a9 (E:AC CG)).filter Ix).length=0:=λa9=>by induction a9 with
   |zero=>rfl
   |succ a9 ec=>rw[List.replicate_succ];exact ec
  exact(cj f).symm
 have c9:=fR al n (ap+1) u af ai m p ⟨ag,ah⟩ a4 au av aw ax a6 dv (by rw[<-o];exact cz) Y (by rw[<-o];exact Af _) (λb=>by rw[<-o];exact de b) cd (by have:=bi.nA;rw[a8] at this;exact this.1) (by rw[<-q]) (by rw[<-o];exact ds) (by rw[<-q];exact bl) (λx aj aq a1=>by
  unfold K.bo at a1;dsimp only at a1;split at a1
  ·cases a1
  ·rename_i cs;cases a1;exact(a6.nF x aj cs).1)
 rw[a8,o];refine A9.w (a:=.t al [P n,au,av,aw,ax] 323::m.a n p a4) ?_ (A9.z c9 λv b2 eb=>?_)
 ·have dn:((a.fk b).hd l ⟨ag,ah⟩).ac.length=(a.fk b).ac.length:=by rw[o,cc,bh,am]
  have dl:((a.fk b).hd l ⟨ag,ah⟩).g.length=f:=by rw[o,d5]
  have c4:m.j p=Cb (j.ag (a.fk b) (P az) (P j.ab)) (0+32) (Q u 1 af):=by
   rw[<-q,<-o];unfold AR.j;rw[dn];rfl
  have c5:m.u p n=[N (a.t+16:B),N 128,N (a.t+16:B),Cd 299 (AV #[P n]),Ah (C a0),Q ay f f,N 0]:=by
   rw[<-q,<-o];unfold AR.u;rw[dl];rfl
  have c6:p.g.map CH=Fg (l.take (8+4*f)) f f:=by
   unfold Fg;rw[OE,List.replicate_zero,B1,<-o];show((AH a.g.length).map (F3 l)).map CH=_;rw[ao,Iu];refine List.map_congr_left λx aj=>?_;have aj:=Ce.1 aj;show CH (F3 l x)=CH (F3 _ x);unfold F3;rw[Rb l Y]
  have c7:FO m.h m.t m.i p.h (AH p.h.length)=[]:=SN _ _ _ bn _;have c8:Bf ((a.fk b).ac.map W++[]) 0 (S.map W)=S.map W++[]:=by
   rw[FN _ _ _ (by rw[B1,BW,BW,am,bh];omega),Hn,Bz,LX (by rw[B1,BW,BW,am,bh];omega)]
  have ed:m.w=Es:=by rw[<-q];exact d9
  have ee:m.z=Es:=by rw[<-q];exact bl
  have ef:m.ak=Es:=by rw[<-q];exact db
  have eg:m.aa=⟨C u,0,af,[],ai⟩:=by rw[<-q]
  have bs:m.ah=#[]/\m.ai=0/\m.ae=[]:=by rw[<-q];exact⟨d4,d6,d7⟩
  have c2:m.a n p a4=[.t n (Cb (j.ag (a.fk b) (P az) (P j.ab)) (0+32) (Q u 1 af)) 292,.t j.x (AZ (Ab a) 70) 295,.t az [N (a.t+16:B),N 128,N (a.t+16:B),Cd 299 (AV #[P n]),Ah (C a0),Q ay f f,N 0] 394,.t ay (Fg (l.take (8+4*f)) f f) 30,.o a0 (AM #[] 0),.t j.al (S.map W++[]) 5,.o j.am (AM #[] 0),.u (A2 []),.u (A2 []),.u (A2 []),.u (A2 [.t u (AW ⟨ag,ah⟩++ai) 326]),.u (A2 []),.u (A2 [])]++(j.b.c j.ab j.f (Bx a)++a4.b j.f j.c j.s):=by
   unfold AR.a;rw[c4,c5,c6,c7,cc,ed,ee,ef,eg,bs.1,bs.2.1,bs.2.2,cd,<-q,<-o];rfl
  rw[c2];have a3:∀a5,AQ a5 (.u (A2 [])::a5):=λa5=>AQ.aa [] a5;refine AQ.ai (n:=.t u (AW ⟨ag,ah⟩++ai) 326) Y0 A Y0 (((a3 _).t ((a3 _).t ((a3 _).t ((a3 _).t (a3 _))))).t ?_);rw[<-c8];exact AQ.b
 ·obtain⟨ei,a2,ch,⟨bc,bv,bt,aq,bx,bu,br⟩,ct,cu,cv,cw,rfl,rfl⟩:=eb;refine⟨_,.w _,ei,a2,ch,by rw[br,<-q];exact bl,⟨az,ay,a0,bc,bv,bt,aq,bx,bu,u,af,ai,by rw[br,<-q],by rw[br,<-q];exact d3⟩,ct,cu.a Y,cv,cw,A,A⟩
def K0(a:AN):B:=if a.b=3\/a.b=4 then 2 else 1
def BC(a:G (B×AN))(b:B):AC AN:=(a.find? λf=>f.1==b).map (·.2)
def M8(f:Cq)(o:AC AN):Cq:=match o with
 |none=>f
 |some j=>{f with a:=K0 j}
def GX(a:K)(j:G (B×AN))(f:G B)(b:B):Cq:=if f.contains b then M8 (a.b b) (BC j b) else a.b b
def GB(j:K)(f:G (B×AN))(l:G B)(b:B):Cq:=if l.contains b then{M8 (j.b b) (BC f b) with a:=3} else M8 (j.b b) (BC f b)
def K.ic(a:K)(l:G (B×AN))(f:G B):K:={a with j:=(AH 70).map (GB a l f),aa:=a.aa.filter (FL f a.aq)}
def WF(j:K)(a:G (B×AN))(f:G B){b:B}(l:b<70):(j.ic a f).b b=GB j a f b:=by
 show((AH 70).map (GB j a f)).getD b Cq.e=_;rw[AY,D_,Mg l];rfl
structure Qg(f:G (B×AN)):Prop where
 b:(f.map (·.1)).Nodup
 a:∀j∈f,j.1<70
def V_{f:G (B×AN)}(j:(f.map (·.1)).Nodup){a:B×AN}(l:a∈f):BC f a.1=C a.2:=by
 induction f with
 |nil=>cases l
 |cons o q m=>
  rw[Ee,List.nodup_cons] at j;unfold BC at m⊢;rcases C2.1 l with rfl|n
  ·rw[AEV Y1];rfl
  ·have:(o.1==a.1)=I:=by
    simp only[Bv]
    exactλp=>j.1 (CI.2 ⟨a,n,p.symm⟩)
   rw[AEU (by simp[this])];exact m j.2 n
def V'{a:G (B×AN)}{b:B}(j:b∉a.map (·.1)):BC a b=E:=by
 unfold BC;rw[AFA,AEW];intro m l;simp only[F1]
 exactλf=>j (CI.2 ⟨m,l,f⟩)
abbrev RU(l f:B)(p:AR)(a:Gr)(o:DJ)(m:K)(n:M)(j:AX):S:=.t l (a.i f o n) 323::.o a.c (AM a.a a.d)::.u (A2 (BX 3 CC a.b o.c a.f))::.u (A2 (BX 3 CC a.e o.d a.j))::p.a f m j
def R4(a:B->Cq)(b:B):(Cl (a b)).length=6:=A
def Vh(f l:B->Cq){b j:B}(n:b<70)(p:j<6)(v:M)(m:∀a,a<70->Cl (l a)=if a=b then(Cl (f b)).set j v else Cl (f a)):(AZ (λb=>Cl (f b)) 70).set (0+b*6+j) v=AZ (λb=>Cl (l b)) 70:=by
 rw[BF,Js (λq=>R4 f q) p v n];refine F4 λa o=>?_;rw[m a o]
def hQ(x y a2:B)(u:AR)(f:Gr)(o:DJ)(j:K)(ak:M)(ah:AX)(ap:f.s o)(bx:Qg o.a)(a9:1<=o.c.length/\o.c.length<=70)(b7:∀b∈o.c,b<70)(ca:D0.e a2 u.b (Bx j))(b2:∃b∈j.aa,FL o.c j.aq b=R):
 Z9 274 [P x] (RU x y u f o j ak ah)
  λv bk=>∃aq,D0.e a2 aq (Bx (j.ic o.a o.c))/\bk=RU x y {u with b:=aq} f o (j.ic o.a o.c) ak ah:=by
 obtain⟨bh,bg,cm,cl⟩:=ap;obtain⟨an,b4⟩:=bx;obtain⟨ar,av⟩:∃bl,A2 (BX 3 CC f.e o.d f.j)=bl:=⟨_,A⟩;have ba:o.c≠[]:=λn=>by rw[n] at a9;simp at a9
 have bn:BX 3 CC f.b o.c f.f=[BJ f.b o.c f.f]:=by rw[Dw ba,L0]
 have bo:Bm f.b f.g o.c=Q f.b o.c.length f.g:=E1 ba;unfold RU Gr.i;rw[av,bn,bo];refine A9.aa (A9.w (a:=.t x [P y,Ah (C f.c),Q f.b o.c.length f.g,Bm f.e f.h o.d,ak] 323::.o f.c (AM f.a f.d)::BJ f.b o.c f.f::.u ar::u.a y j ah) ?_ ?_)
 ·exact(AQ.ae (a:=[BJ f.b o.c f.f]) Y0).t AQ.b
 refine A9.y ?_;refine L ?_;refine Cr.an A A A (λbj=>?_);have cj:(λb=>Cl (GX j o.a [] b))=Ab j:=A;refine EY.f (m:=G CO×Ai B) (λp=>(f.a.toList.filter λm=>!((p.1.map (·.born)).contains m.born)).length) (λp=>Mv f.a p.1 p.2) (λp=>[(0,P x),(10,P bj)])
  (λp=>.o bj (.mapIter (C f.c) f.d p.2 f.d)::.t x [P y,Ah (C f.c),Q f.b o.c.length f.g,Bm f.e f.h o.d,ak] 323::.o f.c (AM f.a f.d)::BJ f.b o.c f.f::.u ar::u.az y j ah (AZ (λb=>Cl (GX j o.a (p.1.map λm=>Er m.key) b)) 70)) ([],#[]) (Mv.h _) ⟨A,A,AA⟩ ?_ ?_
 ·exact AQ.b
 rintro⟨r,seen⟩ bc U;dsimp only at bc U⊢;refine EY.b (Cr.aj A A bg r bc (λb6=>?_) (λq ay ck ao=>?_))
 ·clear U;have a6:∀b,b<70->GX j o.a (r.map λm=>Er m.key) b=M8 (j.b b) (BC o.a b):=λb S=>by
   unfold GX;split
   ·rfl
   ·rename_i bt;rw[V']
    ·rfl
    intro b5;refine bt (Gi.2 ?_);obtain⟨p,ag,rfl⟩:=CI.1 b5;have aa:(D H (p.1:F),HY p.2)∈f.a.toList.map λm=>(m.key,m.val):=by
     rw[bh];unfold E5;rw[Iu];exact CI.2 ⟨p,ag,A⟩
    obtain⟨m,bu,bv⟩:=CI.1 aa;refine CI.2 ⟨m,b6.mem_iff.2 bu,?_⟩;rw[(a3 bv).1];rfl
  rw[F4 λb S=>AB Cl (a6 b S)];refine L ?_;refine EY.f (m:=B) (λl=>o.c.length-l) (λl=>l<=o.c.length) (λl=>[(0,P x),(47,Q f.b o.c.length f.g),(48,N (o.c.length:B)),(49,N (l:B))])
   (λl=>.t x [P y,Ah (C f.c),Q f.b o.c.length f.g,Bm f.e f.h o.d,ak] 323::.o f.c (AM f.a f.d)::BJ f.b o.c f.f::.u ar::u.az y j ah (AZ (λb=>Cl (GB j o.a (o.c.take l) b)) 70)) 0 (Af _) ⟨A,A,A,A,AA⟩ ?_ ?_
  ·have bm:(λb=>Cl (GB j o.a (o.c.take 0) b))=λb=>Cl (M8 (j.b b) (BC o.a b)):=A;rw[bm];exact AQ.b
  intro l b1 U;refine EY.b (IK.mk (λn=>?_) (λn=>?_))
  ·have n:l<o.c.length:=by simp at n;omega
   obtain⟨b,S⟩:∃b,o.c.getD l 0=b:=⟨_,A⟩;have ax:o.c[l]?=C b:=by rw[<-S,AY,Aw n];rfl
   have br:b<70:=b7 b (FW ax);have a8:=H4 (q:=o.c) (er:=f.f) (l:=l) n;rw[S] at a8;have al:(AZ (λb=>Cl (GB j o.a (o.c.take l) b)) 70).length=420:=Db (λb=>R4 _ b) 70;have af:(AZ (λb=>Cl (GB j o.a (o.c.take l) b)) 70).set (0+b*6+0) (N 3)=AZ (λb=>Cl (GB j o.a (o.c.take (l+1)) b)) 70:=by
    refine Vh (GB j o.a (o.c.take l)) (GB j o.a (o.c.take (l+1))) br (j:=0) Z _ λcc ci=>?_;have bp:o.c.take (l+1)=o.c.take l++[b]:=by rw[KW,ax];rfl
    rw[bp];unfold GB;by_cases a4:cc=b
    ·subst a4;rw[A8 A,A8 Y1];split<;>rfl
    ·rw[A1 a4];congr 1;simp[a4]
   obtain⟨W,aw⟩:∃ai,AZ (λb=>Cl (GB j o.a (o.c.take l) b)) 70=ai:=⟨_,A⟩;rw[aw] at af al⊢;clear a6 av ax S;refine A7 ?_;refine Ms.mk (v:=AD b) ?_ ?_
   ·exact a8
   refine A' ?_;refine F'.mk ((l+1:B):F) Y2 (U (l+1) (by show l+1<=o.c.length;omega) (by show o.c.length-(l+1)<o.c.length-l;omega) ⟨A,A,A,A,AA⟩ ?_);rw[<-af];exact AQ.b
  have n:l=o.c.length:=by simp at n;omega
  clear U;subst n;rw[LZ];have b3:=hJ u.ab u.f f.b f.g u.b (Bx j) o.c f.f a2 ca Y b2;refine L ?_;refine A9.u b3 ?_;rintro v ce ⟨aq,cb,rfl⟩;have b8:AZ (λb=>Cl (GB j o.a o.c b)) 70=AZ (Ab (j.ic o.a o.c)) 70:=F4 λb S=>AB Cl (WF j o.a o.c S).symm;rw[b8];refine⟨_,?_,aq,cb,A⟩;exact AQ.ai (n:=BJ f.b o.c f.f) Y0 A Y0 AQ.b
 ·obtain⟨p,ag,a0,bf⟩:∃p∈o.a,q.key=N (p.1:F)/\q.val=HY p.2:=by
   have aa:(q.key,q.val)∈f.a.toList.map λm=>(m.key,m.val):=CI.2 ⟨q,ay,A⟩;rw[bh] at aa;unfold E5 at aa;rw[Iu] at aa;obtain⟨p,ag,be⟩:=CI.1 aa;exact⟨p,ag,(a3 be).1.symm,(a3 be).2.symm⟩
  have bd:=b4 p ag;have am:=V_ an ag;have a7:Er q.key=p.1:=by rw[a0];rfl
  obtain⟨b,t⟩:=p;dsimp only at a0 bf bd am a7;have az:(f.a.toList.filter λm=>!(((r++[q]).map (·.born)).contains m.born)).length<(f.a.toList.filter λm=>!((r.map (·.born)).contains m.born)).length:=by
   refine RW _ _ (λf ap=>?_) ay ?_ ?_
   ·simp only[CU,Gi,Bs,K',<-Mp] at ap⊢
    exactλn=>ap (AT n)
   ·simp only[K',<-Mp,Gi];have an:=ao.b;rw[CU,ID] at an
    exactλn=>an.2.2 _ n _ (CZ.2 A) A
   ·simp
  have al:(AZ (λb=>Cl (GX j o.a (r.map λm=>Er m.key) b)) 70).length=420:=Db (λb=>R4 _ b) 70;have a5:∀l,GX j o.a ((r++[q]).map λm=>Er m.key) l=if l=b then M8 (j.b b) (C t) else GX j o.a (r.map λm=>Er m.key) l:=λl=>by
   unfold GX;rw[CU,Ee,List.map_nil,a7];by_cases n:l=b
   ·subst n;rw[A8 A,A8 Y1,am]
   ·rw[A1 n];congr 1;simp[n]
  refine L ?_;refine Cr.am A A bg ay ?_;rw[a0,bf];refine L ?_;intro ch;refine A7 ?_;have af:∀a1,K0 t=a1->(AZ (λb=>Cl (GX j o.a (r.map λm=>Er m.key) b)) 70).set (0+b*6+0) (N a1)=AZ (λb=>Cl (GX j o.a ((r++[q]).map λm=>Er m.key) b)) 70:=λa1 aj=>by
   refine Vh (GX j o.a (r.map λm=>Er m.key)) (GX j o.a ((r++[q]).map λm=>Er m.key)) bd (j:=0) Z _ λl b1=>?_;rw[a5];by_cases n:l=b
   ·subst n;rw[A8 A,A8 A];unfold GX;rw[am];show Cl {j.b l with a:=K0 t}=_;rw[aj];split<;>rfl
   ·rw[A1 n,A1 n]
  obtain⟨W,aw⟩:∃ai,AZ (λb=>Cl (GX j o.a (r.map λm=>Er m.key) b)) 70=ai:=⟨_,A⟩;rw[aw] at af al⊢;clear av a5 am;refine A7 ?_;by_cases z:t.b=3\/t.b=4
  ·have aj:K0 t=2:=A8 z;have bb:=af 2 aj;have au:(Cb W (0+b*6+0) (N 1)).set (0+b*6+0) (N ((2:B):F))=W.set (0+b*6+0) (N ((2:B):F)):=List.set_set ..;have bs:(Cb W (0+b*6+0) (N 1)).length=420:=by
    show(W.set _ _).length=420;rw[B_];exact al
   obtain⟨cg,bq⟩:∃ai,Cb W (0+b*6+0) (N 1)=ai:=⟨_,A⟩;rw[bq] at au bs⊢;rcases z with z|z
   ·have bi:((t.b:F)==3)=R:=by rw[z];rfl
    refine A7 ?_;refine U (r++[q],seen.push q.born) ao az ⟨A,A,AA⟩ ?_;dsimp only;rw[<-bb,<-au];exact AQ.b
   ·have bi:((t.b:F)==3)=I:=by rw[z];rfl
    have cd:((t.b:F)==4)=R:=by rw[z];rfl
    refine A7 ?_;refine U (r++[q],seen.push q.born) ao az ⟨A,A,AA⟩ ?_;dsimp only;rw[<-bb,<-au];exact AQ.b
  ·have aj:K0 t=1:=A1 z;have b9:=af 1 aj;have bi:((t.b:F)==3)=I:=Z4;have cd:((t.b:F)==4)=I:=Z4;refine L ?_;refine U (r++[q],seen.push q.born) ao az ⟨A,A,AA⟩ ?_;dsimp only;rw[<-b9];exact AQ.b
def E'(f:K)(b:B)(o:AC AN):AE:=match o with
 |none=>I
 |some a=>a.b !=3&&a.b !=4&&(Ac (f.aw<a.a)||f.bf.1==C b||f.bf.2==C b)
def H_(b:B):∀a:G (B×AN),Cu (b:F) (E5 a)=(BC a b).map HY
 |[]=>A
 |m::l=>by
  have f:=H_ b l;unfold E5 BC at f⊢;rw[Ee];unfold Cu;by_cases j:m.1=b
  ·rw[A8 Y,AEV (by simp[j])];rfl
  ·rw[A1 Y,AEU (by simp[j]),f]
def jR(a:K)(b:B):[Ca a.bf.1,Ca a.bf.2].contains (b:F)=(a.bf.1==C b||a.bf.2==C b):=by
 have f:∀o:AC B,((b:F)==Ca o)=(o==C b):=λo=>by
  cases o with
  |none=>simp only[Ca];rw[Iy];simp
  |some j=>simp only[Ca];rw[Iy];simp;omega
 simp only[Zb,List.contains_nil,f,Bool.or_false]
abbrev AAn(j f:B)(n:AR)(a:Gr)(o:DJ)(l:K)(m:M):S:=[.t j (a.i f o m) 323,.o a.c (AM a.a a.d),.t f (n.j l) 292]
def YI(q r b:B)(u:AR)(l:Gr)(o:DJ)(a:K)(al:M)(W:Da l.a (E5 o.a)):
 AK 351 [P q,N b] (AAn q r u l o a al) (X (E' a b (BC o.a b))):=by
 have S:=H_ b o.a;refine A9.t ?_;refine L ?_;refine E7.b (yq:=_) (yb:=_) (yp:=l.a) (yi:=l.d) (yx:=E5 o.a) A A A A A A A W ?_;rw[S];cases hfi:BC o.a b with
 |none=>
  refine L ?_;intro z;refine A7 ?_;exact BE
 |some G=>
  obtain⟨f,Z,j,y,x,am⟩:=G;refine L ?_;intro z;refine A7 ?_;have U:E' a b (C ⟨f,Z,j,y,x,am⟩)=(f !=3&&f !=4&&(Ac (a.aw<j)||a.bf.1==C b||a.bf.2==C b)):=A;rw[U];by_cases m:f=3
  ·have aa:((f:F)!=3)=I:=by rw[m];rfl
   have af:(f !=3)=I:=by rw[m];rfl
   refine L ?_;rw[af];exact BE
  have aa:((f:F)!=3)=R:=AF1;have aj:(f !=3)=R:=by simp only[Bn];exact m
  rw[aj];by_cases n:f=4
  ·have ag:((f:F)!=4)=I:=by rw[n];rfl
   have ah:(f !=4)=I:=by rw[n];rfl
   refine L ?_;rw[ah];exact BE
  have ag:((f:F)!=4)=R:=AF1;have ak:(f !=4)=R:=by simp only[Bn];exact n
  rw[ak];by_cases t:a.aw<j
  ·have ai:=B7 ((j:F)>(a.aw:F));have p:Ac (a.aw<j)=R:=DH t;refine L ?_;rw[p];exact BE
  have ai:=Aa ((j:F)>(a.aw:F));have p:Ac (a.aw<j)=I:=F2 t;rw[p];refine L ?_;refine Qp.mk 0 2 2 26 A A A Y A (by split<;>omega) (L ?_);refine A9.b (RD r 26 2 2 [Ca a.bf.1,Ca a.bf.2] (u.j a) 292 b A A Y) ?_;rw[jR];refine L ?_;exact BE
abbrev DQ:=AN×AF
abbrev DR(a:DQ):G M:=[N a.1.b,N a.1.c,D Au a.1.a,D Au a.1.h,D Au a.1.d,N a.1.f,N a.2.a,N a.2.b,O E 0 0]
def JG(a:DQ):(DR a).length=9/\(DR a).all B'=R:=⟨A,A⟩
variable{yh:Type}
def Ox{f:yh->G M}(q:∀x,(f x).length=l){a:G yh}{j:yh}(m:a[p]?=C j):CX (a.flatMap f++er) (0+p*l) l R=C (AV (f j).toArray):=by
 have n:p<a.length:=(Cx.1 m).1;have u:=Fx q a;have o:=Ow q (h:=a) (i:=er) p 1 Y;have t:(a.drop p).take 1=[j]:=by
  rw[HF n];simp[(Cx.1 m).2]
 rw[t,FE,List.flatMap_nil,B1,Nat.one_mul] at o;unfold CX;dsimp only;have r:(p+1)*l<=a.length*l:=Nat.mul_le_mul_right l n;rw[Nat.succ_mul] at r;rw[BF,Nat.ble_eq_true_of_le (by rw[Ad,u];omega),o]
def Vm{f:yh->G M}(q:∀n,(f n).length=l){a:G yh}(j:yh)(y:p<a.length):Bf (a.flatMap f++er) (0+p*l) (f j)=(a.set p j).flatMap f++er:=by
 have u:a=a.take p++a[p]::a.drop (p+1):=by rw[<-HF y,Hm]
 have x:a.set p j=a.take p++j::a.drop (p+1):=by rw[List.set_eq_take_append_cons_drop,A8 y]
 obtain⟨m,r⟩:∃m,a.take p=m:=⟨_,A⟩;obtain⟨o,z⟩:∃o,a.drop (p+1)=o:=⟨_,A⟩;obtain⟨n,N⟩:∃n,a[p]=n:=⟨_,A⟩;have L:m.length=p:=by rw[<-r,Ci];omega
 rw[r,z,N] at u;rw[r,z] at x;have t:(m.flatMap f).length=p*l:=by rw[Fx q,L]
 rw[x,u,KP,KP,FE,FE,BF,BS,BS,BS,BS];have F:(m.flatMap f++(f n++(o.flatMap f++er))).drop (p*l+(f j).length)=o.flatMap f++er:=by
  rw[q j,<-BS];exact List.drop_left' (by rw[Ad,t,q])
 rw[FN _ _ _ (by simp only[Ad,t,q];omega),C_ t,F]
def We(a:F)(f:S):AK 427 [D Au a] f (X I):=by
 have j:(a !=a)=I:=Y1;refine A9.y (L ?_);exact⟨AB X j,A⟩
def Jq(a f:B):F:=if a<f then-1 else if f<a then 1 else 0
def dB(a f:B)(m:S):AK 355 [D Au a,D Au f] m (N (Jq a f)):=by
 refine A9.y (L ?_);refine A9.ab (We _ _) (L ?_);refine A9.ab (We _ _) ?_;unfold Jq;by_cases j:a<f
 ·have n:=B7 ((a:F)<(f:F));rw[A8 j];refine L ?_;exact⟨A,A⟩
 have n:=Aa ((a:F)<(f:F));rw[A1 j];by_cases l:f<a
 ·have o:=B7 ((a:F)>(f:F));rw[A8 l];refine L ?_;exact⟨A,A⟩
 have o:=Aa ((a:F)>(f:F));rw[A1 l];refine L ?_;exact⟨A,A⟩
def c8(a b:DQ)(f:S):AK 354 [AV (DR a).toArray,AV (DR b).toArray] f (N (Jq a.1.a b.1.a)):=by
 have j:AK 354 [AV (DR a).toArray,AV (DR b).toArray] [] (N (Jq a.1.a b.1.a)):=by
  refine A9.t ?_;intro n o;refine L ?_;refine A9.b (dB a.1.a b.1.a []) (L ?_);exact BE
 refine A9.w (a:=f++[]) (by rw[B1];exact .w _) (A9.ac j λv m l=>?_);obtain⟨rfl,rfl⟩:=l;exact⟨A,B1 _⟩
def Ea(a:DQ):B:=a.1.a
abbrev Hx:DQ:=(AN.v,⟨0,0⟩)
def LL(f:G DQ)(a:B):G DQ:=(f.set a (f.getD (a-1) Hx)).set (a-1) (f.getD a Hx)
def PF{a:G DQ}(f:l<a.length):(a.map Ea).getD l 0=Ea (a.getD l Hx):=by
 rw[AY,AY,D_,Aw f];rfl
def ABm{a:G DQ}(f:0<l/\l<a.length):(LL a l).map Ea=Ig (a.map Ea) l:=by
 unfold LL Ig;rw[J_,J_,PF f.2,PF Y]
def ABn(a:G DQ)(q:0<l/\l<a.length):(LL a l).Perm a:=by
 unfold LL;obtain⟨j,t⟩:∃j,a.getD (l-1) Hx=j:=⟨_,A⟩;obtain⟨b,x⟩:∃b,a.getD l Hx=b:=⟨_,A⟩;have u:a[l-1]?=C j:=by rw[<-t];exact IT Y
 have N:a[l]?=C b:=by rw[<-x];exact IT q.2
 rw[t,x];obtain⟨f,rfl⟩:∃f,l=f+1:=⟨l-1,Y⟩;rw[AEe] at u⊢;have p:a=a.take f++j::b::a.drop (f+2):=by
  have F:a.drop f=j::a.drop (f+1):=by
   rw[HF Y,(Cx.1 u).2]
  have L:a.drop (f+1)=b::a.drop (f+2):=by
   rw[HF q.2,(Cx.1 N).2]
  rw[<-L,<-F,Hm]
 have o:(a.take f).length=f:=Z3;obtain⟨m,r⟩:∃m,a.take f=m:=⟨_,A⟩;obtain⟨n,M⟩:∃n,a.drop (f+2)=n:=⟨_,A⟩;rw[r,M] at p;rw[r] at o;rw[p];have y:(m++j::b::n).set (f+1) j=m++j::j::n:=by rw[O8 _ _ Y,o,show f+1-f=1 by omega];rfl
 have z:(m++j::j::n).set f b=m++b::j::n:=by rw[O8 _ _ Y,o,OE];rfl
 rw[y,z];exact AEL m (D3 j b n)
abbrev IS(a:B)(f:G DQ)(j:G M):BL:=.t a (f.flatMap DR++j) 515
abbrev Kq:M:=BZ (CA 354) #[] #[]
def hB(o j x:B)(r:G DQ)(n:G M)(an:r.length=j)(a8:j<=1000000):
 Z9 494 [Q o j x,N 0,N j,Kq] [IS o r n] λv u=>∃q,q.Perm r/\(q.map Ea).Pairwise (·<=·)/\v=AL #[]/\u=[IS o q n]:=by
 refine A9.y ?_;refine F'.mk ((1:B):F) A (EY.g (m:=B×G DQ) (λa=>j+1-a.1) (λa=>1<=a.1/\a.1<=j+1/\a.2.Perm r/\Ls (a.2.map Ea) (min a.1 j)) (λa=>[(0,Q o j x),(1,N 0),(2,N j),(3,Kq),(8,N (a.1:B))]) (λa=>[IS o a.2 n]) (1,r) ⟨AI _,by show 1<=j+1;omega,Bi _,λa9 t am Z=>by dsimp only at Z;omega⟩ ⟨A,A,A,A,A,AA⟩ A ?_);rintro⟨l,q⟩ ⟨am,Z,z,y⟩ a2;dsimp only at am Z z y;have a1:q.length=j:=by rw[z.length_eq,an]
 refine EY.b (IK.mk (λt=>?_) (λt=>?_))
 ·have t:l<j:=by simp at t;omega
  refine EY.g (m:=B×G DQ) (λa=>a.1) (λa=>a.1<=l/\a.2.Perm r/\Kl (a.2.map Ea) (l+1) a.1) (λa=>[(0,Q o j x),(1,N 0),(2,N j),(3,Kq),(8,N (l:B)),(9,N (a.1:B))]) (λa=>[IS o a.2 n]) (l,q) ⟨AI _,z,.b (by rw[show min l j=l by omega] at y;exact y)⟩ ⟨A,A,A,A,A,A,AA⟩ A ?_;rintro⟨f,m⟩ ⟨ax,U,ag⟩ a3;dsimp only at ax U ag;have ao:m.length=j:=by rw[U.length_eq,an]
  have al:∀{W:AP}{u:S},Fm [(0,Q o j x),(1,N 0),(2,N j),(3,Kq),(8,N ((l+1:B):F))] W->u=[IS o m n]->(f=0\/(m.map Ea).getD (f-1) 0<=(m.map Ea).getD f 0)->EY _ W u:=λ{W}{u} aw aq a0=>a2 (l+1,m) ⟨by show 1<=l+1;omega,by show l+1<=j+1;omega,U,by
   have:=ag.a a0;rw[show min (l+1) j=l+1 by omega];exact this⟩ (by show j+1-(l+1)<j+1-l;omega) aw aq
  refine EY.b ?_;by_cases ba:0<f
  ·have a6:=B7 ((f:F)>0);obtain⟨p,aa⟩:∃p,m.getD f Hx=p:=⟨_,A⟩;obtain⟨b,af⟩:∃b,m.getD (f-1) Hx=b:=⟨_,A⟩;have ar:m[f]?=C p:=by rw[<-aa];exact IT Y
   have av:m[f-1]?=C b:=by rw[<-af];exact IT Y
   have ai:=Ox (λa=>(JG a).1) (er:=n) ar;have aj:=Ox (λa=>(JG a).1) (er:=n) av;have a4:(m.map Ea).getD f 0=p.1.a:=by rw[PF Y,aa];rfl
   have a5:(m.map Ea).getD (f-1) 0=b.1.a:=by rw[PF Y,af];rfl
   have au:=c8 p b [IS o m n];refine A7 ?_;refine Ms.mk ai (L ?_);refine F'.mk ((f-1:B):F) Y4 (A' ?_);refine Ms.mk aj (L ?_);refine A9.ab au ?_;by_cases ah:p.1.a<b.1.a
   ·have a7:Ac (Jq p.1.a b.1.a<0)=R:=by unfold Jq;rw[A8 ah];rfl
    refine L ?_;refine F'.mk ((f-1:B):F) Y4 (L ?_);refine F'.mk ((f-1:B):F) Y4 (A' ?_);refine Ms.mk aj (A7 ?_);refine Ms.mk ai (L ?_);have ay:(m.flatMap DR++n).length=j*9+n.length:=by rw[Ad,Fx (λa=>(JG a).1),ao]
    refine Qh.mk f A Y (L ?_);refine Mw.mk ⟨A,by rw[ay];omega,A⟩ (L ?_);have ak:=Vm (λa=>(JG a).1) (er:=n) b (show f<m.length by omega);have ap:=Vm (λa=>(JG a).1) (er:=n) p (show f-1<(m.set f b).length by rw[B_];omega);have az:(Bf (m.flatMap DR++n) (0+f*9) (DR b)).length=j*9+n.length:=by
     rw[ak,Ad,Fx (λa=>(JG a).1),B_,ao]
    refine Qh.mk (f-1) A Y (L ?_);refine Mw.mk ⟨A,by
     show 0+(f-1)*9+9<=(Bf (m.flatMap DR++n) (0+f*9) (DR b)).length;rw[az];omega,A⟩ ?_
    refine L ?_;refine F'.mk ((f-1:B):F) Y4 ?_;refine a3 (f-1,LL m f) ⟨by show f-1<=l;omega,(ABn m Y).trans U,by
     show Kl ((LL m f).map Ea) (l+1) (f-1);rw[ABm Y];exact ag.c ⟨Y,AF0⟩ Y (by rw[a4,a5];exact ah)⟩ (by show f-1<f;omega) ⟨A,A,A,A,A,A,AA⟩ ?_
    show[BL.t o (Bf (Bf (m.flatMap DR++n) (0+f*9) (DR b)) (0+(f-1)*9) (DR p)) _]=_;rw[ak,ap];unfold LL;rw[aa,af]
   ·have a7:Ac (Jq p.1.a b.1.a<0)=I:=by unfold Jq;rw[A1 ah];split<;>rfl
    refine L ?_;exact F'.mk ((l+1:B):F) Y2 (al ⟨A,A,A,A,A,AA⟩ A (Ae Y))
  ·have a6:=Aa ((f:F)>0);refine L ?_;exact F'.mk ((l+1:B):F) Y2 (al ⟨A,A,A,A,A,AA⟩ A (AT Y))
 ·have t:l=j\/l=j+1:=by simp at t;omega
  exact⟨q,z,Ls.a (by rw[BW,a1];rwa[show min l j=j by omega] at y),A,A⟩
def kQ(j a o:B)(m:F)(l:G DQ)(n:G M)(t:l.length=a)(x:a<=12):
 Z9 426 [Q j a o,N 0,N a,N m,Kq] [IS j l n] λv p=>∃f,f.Perm l/\(f.map Ea).Pairwise (·<=·)/\v=AL #[]/\p=[IS j f n]:=by
 have y:=B7 ((a:F)<=12);refine A9.y ?_;refine EY.b (F'.mk (a:F) Y4 ?_);refine L ?_;refine A9.z (hB j a o l n t Y) ?_;rintro v u ⟨f,q,r,rfl,rfl⟩;exact⟨f,q,r,A,A⟩
def AB4(j a o:B)(l:G DQ)(n:G M)(x:l.length=a)(p:a<=12):
 Z9 353 [Q j a o,Kq] [IS j l n] λv q=>∃f,f.Perm l/\(f.map Ea).Pairwise (·<=·)/\v=AL #[]/\q=[IS j f n]:=by
 refine A9.y (L ?_);refine F'.mk (a:F) (Ec Y) (A9.z (PE a p _) ?_);rintro v r ⟨⟨m,rfl⟩,rfl⟩;refine L ?_;refine A9.z (kQ j a o m l n x p) ?_;rintro v r ⟨f,t,u,rfl,rfl⟩;exact⟨f,t,u,A,A⟩
def AB3(l:S):AK 353 [O E 0 0,Kq] l (AL #[]):=by
 refine A9.y (L ?_);refine F'.mk 0 A (A9.z (PE 0 Y _) ?_);rintro v a ⟨⟨m,rfl⟩,rfl⟩;refine L ?_;refine A9.z (m:=λv f=>v=AL #[]/\f=a) (A9.af A ?_) λv a j=>?_
 ·refine EY.b (F'.mk 0 A (L ?_));refine A9.z (m:=λv f=>v=AL #[]/\f=a) (A9.af A ?_) λv a j=>?_
  ·refine F'.mk 1 A (EY.b (L ?_));exact⟨A,A⟩
  obtain⟨rfl,rfl⟩:=j;exact⟨A,A⟩
 ·obtain⟨rfl,rfl⟩:=j;exact⟨A,A⟩
def Hv(f:K)(b a:B):AC DQ:=if(f.cw ⟨b,a⟩).a<=f.aw\/(f.cw ⟨b,a⟩).b=3\/(f.cw ⟨b,a⟩).b=4 then E else C (f.cw ⟨b,a⟩,⟨b,a⟩)
def E3(f:K)(b a:B):G DQ:=(AH a).filterMap (Hv f b)
def Hw(a:K)(f:G (B×AN))(b:B):G DQ:=if E' a b (BC f b) then E3 a b (a.y b) else[]
def E4(j:K)(a:G (B×AN))(f:B):G DQ:=(AH f).flatMap (Hw j a)
def KA(a:K)(f:G (B×AN))(b:B):B:=if E' a b (BC f b) then a.y b else 0
def G'(j:K)(a:G (B×AN))(f:B):B:=((AH f).map (KA j a)).sum
def VM(f:K)(b a:B):E3 f b (a+1)=E3 f b a++(Hv f b a).toList:=by
 unfold E3;rw[DO,List.filterMap_append];cases j:Hv f b a with
 |none=>simp[j]
 |some l=>simp[j]
def VP(j:K)(a:G (B×AN))(f:B):E4 j a (f+1)=E4 j a f++Hw j a f:=by unfold E4;rw[DO,KP];simp
def mQ(j:K)(a:G (B×AN))(f:B):G' j a (f+1)=G' j a f+KA j a f:=by unfold G';rw[DO,CU,List.sum_append];simp
def VO(f:K)(a:G (B×AN))(n:l<=p):(E4 f a l).length<=(E4 f a p).length:=by
 induction p with
 |zero=>rw[show l=0 by omega];exact AI _
 |succ p j=>
  rcases Ck l (p+1) with m|m
  ·have:=j Y;rw[VP,Ad];omega
  ·rw[show l=p+1 by omega];exact AI _
def fD(a:K)(b:B)(m:l<=p):(E3 a b l).length<=(E3 a b p).length:=by
 induction p with
 |zero=>rw[show l=0 by omega];exact AI _
 |succ p f=>
  rcases Ck l (p+1) with j|j
  ·have:=f Y;rw[VM,Ad];omega
  ·rw[show l=p+1 by omega];exact AI _
structure Qe(l:K)(n:G (B×AN)):Prop where
 c:∀f,f<70->E' l f (BC n f)=R->∀(o:B)(j:G B),(BD l.ab f).a[o]?=C j->j.length=192/\(∀p∈j,p<256)/\∃m:AN,m.i/\m.b≠2/\j.drop 128=m.g
 b:∀f,f<70->(BD l.ab f).a.length<=16
 a:(E4 l n 70).length<=12
abbrev Kr(p f:B)(x:AR)(a:Gr)(o:DJ)(t:K)(u:M)(j:AX)(l m:C0)(n:B)(q:G DQ)(r:G M):S:=
 .t p (a.i f o u) 323::.o a.c (AM a.a a.d)::.u (A2 (BX 515 DR n q r))::.u l::.u m::x.a f t j
def c9(x aa au:B)(y:AR)(z:Gr)(o:DJ)(a:K)(ah:M)(a9:AX)(ca:B2 au a9 a)(c0:au+2000<=500000000)(cm:Da z.a (E5 o.a))(p:Qe a o.a)(aj ak:C0):
 Z9 275 [P x] (.t x (z.i aa o ah) 323::.o z.c (AM z.a z.d)::.u aj::.u ak::y.a aa a a9)
  λv ax=>∃n q r u bq,n.Perm (E4 a o.a 70)/\(n.map Ea).Pairwise (·<=·)/\DI 9 n r u/\C3 (au+1200) bq a.i a.ab a.bd (a.u+G' a o.a 70) a.bv/\v=AL #[Bm q r n,N 0]/\ax=Kr x aa y z o a ah bq aj ak q n u:=by
 refine A9.t ?_;refine L ?_;refine EY.f (m:=B×B×B×G M×AX) (λj=>70-j.1) (λj=>j.1<=70/\DI 9 (E4 a o.a j.1) j.2.2.1 j.2.2.2.1/\G' a o.a j.1<=16*j.1/\C3 (au+16*j.1) j.2.2.2.2 a.i a.ab a.bd (a.u+G' a o.a j.1) a.bv) (λj=>[(0,P x),(4,Bm j.2.1 j.2.2.1 (E4 a o.a j.1)),(19,N 70),(20,N (j.1:B))])
  (λj=>Kr x aa y z o a ah j.2.2.2.2 aj ak j.2.1 (E4 a o.a j.1) j.2.2.2.1) (0,0,0,[],a9) ⟨Af _,⟨AI 0,Af _,A⟩,AI 0,ca⟩ ⟨A,A,A,A,AA⟩ ?_ ?_
 ·exact(AQ.aa [] _).t AQ.b
 rintro⟨f,q,r,u,ai⟩ ⟨bu,ag,b2,aq⟩ a7;dsimp only at bu ag b2 aq;have U:=VP a o.a f;have am:=mQ a o.a f;obtain⟨n,ar⟩:∃n,E4 a o.a f=n:=⟨_,A⟩;obtain⟨a8,bn⟩:∃a8,G' a o.a f=a8:=⟨_,A⟩;rw[ar] at U ag;rw[bn] at am b2 aq;rw[ar];refine EY.b (IK.mk (λt=>?_) (λt=>?_))
 ·have t:f<70:=by simp at t;omega
  obtain⟨aw,bm,cx⟩:=p;have bl:n.length<=12:=by have:=VO a o.a bu;rw[ar] at this;omega
  have ce:(E4 a o.a (f+1)).length<=12:=by have:=VO a o.a (show f+1<=70 by omega);omega
  have aw:=aw f t;have bm:=bm f t;refine L ?_;refine A9.b (YI x aa f y z o a ah cm) ?_;cases a2:E' a f (BC o.a f) with
  |false=>
   have bb:Hw a o.a f=[]:=by unfold Hw;rw[a2];rfl
   have bc:KA a o.a f=0:=by unfold KA;rw[a2];rfl
   rw[bb,B1] at U;rw[bc,Nat.add_zero] at am;refine L ?_;refine F'.mk ((f+1:B):F) Y2 (a7 (f+1,q,r,u,ai) ⟨t,?_,?_,?_⟩ (by show 70-(f+1)<70-f;omega) ⟨A,?_,A,A,AA⟩ ?_)
   ·show DI 9 (E4 a o.a (f+1)) r u;rw[U];exact ag
   ·show G' a o.a (f+1)<=16*(f+1);rw[am];omega
   ·show C3 (au+16*(f+1)) ai a.i a.ab a.bd (a.u+G' a o.a (f+1)) a.bv;rw[am];exact aq.b Y
   ·show C (Bm q r n)=C (Bm q r (E4 a o.a (f+1)));rw[U]
   ·show AQ _ (Kr x aa y z o a ah ai aj ak q (E4 a o.a (f+1)) u);rw[U];exact AQ.b
  |true=>
   have aw:=aw a2;have bb:Hw a o.a f=E3 a f (a.y f):=by unfold Hw;rw[a2];rfl
   have bc:KA a o.a f=a.y f:=by unfold KA;rw[a2];rfl
   rw[bb] at U;rw[bc] at am;refine L ?_;refine A9.b (NU y.c f aq t) (L ?_);obtain⟨m,bv⟩:∃m,(BD a.ab f).a.length=m:=⟨_,A⟩;have ck:a.y f=m:=bv;rw[ck] at U am;rw[bv] at bm⊢;refine EY.f (m:=B×B×B×G M×AX) (λj=>m-j.1) (λj=>j.1<=m/\DI 9 (n++E3 a f j.1) j.2.2.1 j.2.2.2.1/\C3 (au+16*f+j.1) j.2.2.2.2 a.i a.ab a.bd (a.u+a8+j.1) a.bv) (λj=>[(0,P x),(4,Bm j.2.1 j.2.2.1 (n++E3 a f j.1)),(5,N (f:B)),(19,N 70),(20,N (f:B)),(38,N (m:B)),(39,N (j.1:B))])
    (λj=>Kr x aa y z o a ah j.2.2.2.2 aj ak j.2.1 (n++E3 a f j.1) j.2.2.2.1) (0,q,r,u,ai) ⟨Af _,?_,aq⟩ ⟨A,?_,A,A,A,A,A,AA⟩ ?_ ?_
   ·show DI 9 (n++E3 a f 0) r u;rw[show E3 a f 0=[] from A,B1];exact ag
   ·show C (Bm q r n)=C (Bm q r (n++E3 a f 0));rw[show E3 a f 0=[] from A,B1]
   ·show AQ _ (Kr x aa y z o a ah ai aj ak q (n++E3 a f 0) u);rw[show E3 a f 0=[] from A,B1];exact AQ.b
   rintro⟨l,ay,a4,a3,b6⟩ ⟨bt,a1,bf⟩ bo;dsimp only at bt a1 bf;have cb:=VM a f l;obtain⟨W,a0⟩:∃W,n++E3 a f l=W:=⟨_,A⟩;have bh:n++E3 a f (l+1)=W++(Hv a f l).toList:=by rw[cb,<-BS,a0]
   have cz:W.length<=12:=by
    have:=fD a f bt;rw[<-a0,Ad];rw[U,Ad] at ce;omega
   rw[a0] at a1;rw[a0];refine EY.b (IK.mk (λan=>?_) (λan=>?_))
   ·have an:l<m:=by simp at an;omega
    obtain⟨ao,bk⟩:∃ao,(BD a.ab f).a[l]?=C ao:=⟨_,Aw Y⟩;obtain⟨cc,cw,p,bx,cy,b3⟩:=aw l ao bk;have ch:a.cw ⟨f,l⟩=p:=by
     have ap:a.ay ⟨f,l⟩=ao:=by
      unfold K.ay;show(BD a.ab f).a.getD l []=ao;rw[AY,bk];rfl
     unfold K.cw;rw[ap,PV b3 bx]
    have az:Hv a f l=if p.a<=a.aw\/p.b=3\/p.b=4 then E else C (p,⟨f,l⟩):=by unfold Hv;rw[ch]
    have skip:∀{ap:AP}{ax:S},Hv a f l=E->(∃af,C3 (au+16*f+l+1) af a.i a.ab a.bd (a.u+a8+l+1) a.bv/\Fm [(0,P x),(4,Bm ay a4 W),(5,N (f:B)),(19,N 70),(20,N (f:B)),(38,N (m:B)),(39,N ((l+1:B):F))] ap/\AQ ax (Kr x aa y z o a ah af aj ak ay W a3))->EY _ ap ax:=λ{ap}{ax} cd b9=>by
     obtain⟨af,al,be,a5⟩:=b9;rw[cd] at bh;have bi:n++E3 a f (l+1)=W:=bh.trans (B1 _);refine bo (l+1,ay,a4,a3,af) ⟨an,?_,al⟩ (by show m-(l+1)<m-l;omega) ?_ ?_
     ·show DI 9 (n++E3 a f (l+1)) a4 a3;rw[bi];exact a1
     ·dsimp only;rw[bi];exact be
     ·dsimp only;rw[bi];exact a5
    refine L ?_;refine A9.u (ME y.f y.c y.s f l ao bf Y t bk) ?_;rintro v bp ⟨b7,b5,af,a6,rfl,rfl⟩;refine L ?_;refine A9.b (Rh p bx b7 (192+b5.length) ao b5 5 cc b3 Y) (L ?_);intro ct;refine Mw.mk ⟨A,Z,A⟩ ?_;clear aw a7;by_cases ci:p.a<=a.aw
    ·have co:=B7 ((p.a:F)<=(a.aw:F));refine L ?_;exact F'.mk ((l+1:B):F) Y2 (skip (by rw[az,A8 (AT ci)]) ⟨af,a6,⟨A,A,A,A,A,A,A,AA⟩,AQ.b⟩)
    have co:=Aa ((p.a:F)<=(a.aw:F));by_cases a5:p.b=3
    ·have cp:((p.b:F)==3)=R:=by rw[a5];rfl
     refine L ?_;exact F'.mk ((l+1:B):F) Y2 (skip (by rw[az,A8 (Ae (AT a5))]) ⟨af,a6,⟨A,A,A,A,A,A,A,AA⟩,AQ.b⟩)
    have cp:((p.b:F)==3)=I:=Z4;by_cases br:p.b=4
    ·have cq:((p.b:F)==4)=R:=by rw[br];rfl
     refine L ?_;exact F'.mk ((l+1:B):F) Y2 (skip (by rw[az,A8 (Ae (Ae br))]) ⟨af,a6,⟨A,A,A,A,A,A,A,AA⟩,AQ.b⟩)
    have cq:((p.b:F)==4)=I:=Z4;have c1:((p.b:F)==2)=I:=Z4;rw[A1 Y] at az;clear skip;refine L ?_;intro cu;refine Mw.mk ⟨A,Z,A⟩ (L ?_);intro cv;refine Cr.u (AQ.ae (a:=BX 515 DR ay W a3) Y0) (Cr.z (f:=DR) (n:=_) (a1:=_) (m:=1) (h:=W) A A A A A A A ⟨A,Z⟩ (Bi _) JG [(p,⟨f,l⟩)] A A Z a1 ⟨Y,Z⟩ (λbd ba cr cg=>?_));have bj:n++E3 a f (l+1)=W++[(p,⟨f,l⟩)]:=by rw[bh,az];rfl
    refine L ?_;refine F'.mk ((l+1:B):F) Y2 (bo (l+1,bd,ba,cr,af) ⟨an,by dsimp only;rw[bj];exact cg,a6⟩ (by show m-(l+1)<m-l;omega) ⟨A,?_,A,A,A,A,A,AA⟩ ?_)
    ·dsimp only;have ap:Bm bd ba (W++[(p,⟨f,l⟩)])=Q bd (W.length+1) ba:=by rw[E1 Y1,Ad];rfl
     rw[bj,ap];rfl
    ·dsimp only;rw[bj];exact AQ.af (Dw Y1).symm Y0 AQ.b
   have an:l=m:=by simp at an;omega
   subst an;clear bo;rw[a0] at U;refine L ?_;refine F'.mk ((f+1:B):F) Y2 (a7 (f+1,ay,a4,a3,b6) ⟨t,?_,?_,?_⟩ (by show 70-(f+1)<70-f;omega) ⟨A,?_,A,A,AA⟩ ?_)
   ·dsimp only;rw[U];exact a1
   ·dsimp only;rw[am];omega
   ·dsimp only;rw[am];exact C3.b (by rw[<-Nat.add_assoc];exact bf) Y
   ·dsimp only;rw[U];rfl
   ·dsimp only;rw[U];exact .w _
 have t:f=70:=by simp at t;omega
 subst t;clear a7;have bl:n.length<=12:=by have:=p.a;rw[ar] at this;exact this
 cases n with
 |nil=>
  have b8:=AB3 ([]:S);refine L ?_;refine A9.w (a:=Kr x aa y z o a ah ai aj ak q [] u++[]) (by rw[B1];exact .w _) (A9.ac b8 λv bp cl=>?_);obtain⟨rfl,rfl⟩:=cl;refine L ?_;exact⟨_,by rw[B1];exact .w _,[],q,r,u,ai,by rw[ar],AEK,ag,by rw[bn];exact aq.b Y,A,A⟩
 |cons cs cn=>
  obtain⟨av,bs⟩:∃av,cs::cn=av:=⟨_,A⟩;rw[bs] at ar ag bl⊢;have bg:av≠[]:=by rw[<-bs];simp
  have cj:=AB4 q av.length r av u A bl;rw[E1 bg];refine L ?_;refine A9.w (AQ.ae (a:=BX 515 DR q av u) Y0) ?_;rw[Dw bg];refine A9.ad cj Y0 ?_;rintro v bp ⟨b4,al,be,rfl,rfl⟩;have b1:b4≠[]:=λt=>by rw[t] at al;exact bg al.symm.eq_nil
  refine L ?_;refine⟨_,?_,b4,q,r,u,ai,al.trans (by rw[ar]),be,⟨by rw[al.length_eq];exact ag.t,ag.u,by rw[al.length_eq];exact ag.s⟩,by rw[bn];exact aq.b Y,by rw[E1 b1,al.length_eq];rfl,A⟩;exact AQ.af (Dw b1).symm Y0 AQ.b
namespace K
def ek(a:K)(f:AN×AF):K:={a with ap:=max a.ap f.1.a,x:=max a.x f.1.d}
def eo(f:K)(a:AN×AF):K:=f.de a.1.c a.2
def wz{j m:B}(a:ad j n)(ag:j<=m)(G:l<=m)(M:p<=m):bz m n ({n with ap:=l,x:=p}:K) 0:=by
 obtain⟨f,L⟩:=ft (r:=({n with ap:=l,x:=p}:K)) a.nA.nA A;have F:=a.nE ag;obtain⟨aq,W,aj,Y,ak,t,y,u,au,ar,al,o,ai,ao,af,an,r,aa,V,z,am,S,U,q,ah,Z,N,P,Q⟩:=F;refine⟨⟨a.nA.nJ f A,W,aj,Y,ak,t,y,u,G,M,al,o,ai,ao,af,an,r,aa,V,z,am,S,U,q,ah,Z,N,P,Q⟩,f,?_⟩;rw[fr L A A A A A A];exact AI _
def xd{j m:B}(a:ad j n)(aa:j<=m)(G:l<=m):bz m n ({n with bq:=l}:K) 0:=by
 obtain⟨f,F⟩:=ft (r:=({n with bq:=l}:K)) a.nA.nA A;have z:=a.nE aa;obtain⟨an,U,ah,V,aj,r,u,t,ai,y,ao,o,ag,am,Z,al,q,Y,S,x,ak,P,Q,p,af,W,L,M,N⟩:=z;refine⟨⟨a.nA.nJ f A,U,ah,V,aj,r,u,t,ai,y,G,o,ag,am,Z,al,q,Y,S,x,ak,P,Q,p,af,W,L,M,N⟩,f,?_⟩;rw[fr F A A A A A A];exact AI _
structure fx(j:B)(f:K)(a:AN×AF):Prop where
 nE:a.1.b=1
 nG:a.1.h=0
 nB:a.1.c<f.v
 nH:a.1.a<=j
 nF:a.1.d<=j
 nA:f.ak a.2
 nC:f.fo a.1.c a.2
variable{r:K}
def fx.nD{j:AN×AF}(a:fx l n j)(f:dy n r)(t:r.v=n.v):fx l r j:=by
 refine⟨a.nE,a.nG,by rw[t];exact a.nB,a.nH,a.nF,(f.nA _ a.nA).1,?_⟩;obtain⟨q,m,o,p⟩:=a.nC;exact⟨q,by rw[(f.nA _ a.nA).2,f.nB];exact m,o,p⟩
def mx{l:B}:∀(m:G (AN×AF)){a:K},ad l a->(∀n∈m,fx l a n)->bz l a (m.foldl ek a) 0
 |[],a,f,_=>⟨f,di.nH f.nA.nA,AI _⟩
 |n::m,a,f,p=>by
  have q:=p n (Bt ..);have j:bz l a (a.ek n) 0:=wz f (AI l) (by have:=f.nG;have:=q.nH;omega) (by have:=f.nM;have:=q.nF;omega);have o:=mx m j.nA λt r=>(p t (By _ r)).nD j.nB.nA j.nB.nF;exact⟨o.nA,j.nB.nD o.nB,by have:=j.nD;have:=o.nD;rw[DN];omega⟩
end K
def St.i(a:K.ad l n):n.g.length<=12:=by have:=a.nU;have:=a.nF;omega
variable{yf:AX}
def ABc(j:BB l xr n yf)(a:G DQ)(t:∀m∈a,K.fx l n m):BB l xr (a.foldl K.ek n) yf:=by
 have o:=(K.mx a j.a t).nA;have p:∀(a:G DQ)(n:K),∃f b,a.foldl K.ek n={n with ap:=f,x:=b}:=λa=>by
  induction a with
  |nil=>intro n;exact⟨n.ap,n.x,A⟩
  |cons f a u=>intro n;obtain⟨m,y,r⟩:=u (n.ek f);exact⟨m,y,by rw[DN,r];rfl⟩
 obtain⟨f,b,q⟩:=p a n;rw[q] at o⊢;exact⟨o,j.b.a (AI l) (.a xr) (j.b.b.c A) ⟨A,A,A,A,A,A,A,A,A,A,A,A,A,A,A,A,A,A⟩,j.c⟩
def AAw(m:K.ad l n){a:DQ}(f:K.fx l n a):K.dy n (n.eo a)/\(n.eo a).v=n.v/\K.ad (l+4) (n.eo a):=by
 obtain⟨o,j,p⟩:=K.iy m f.nB f.nA f.nC;exact⟨j.nA,by unfold K.v;rw[show(n.eo a).t=n.t from j.nB],o⟩
def EvOk.a{f m:B}{l:DQ}(a:K.fx f n l)(j:f<=m):K.fx m n l:=⟨a.nE,a.nG,a.nB,D9 a.nH j,D9 a.nF j,a.nA,a.nC⟩
def AAC(u m z p aq:B)(x:AR)(t:K)(ag:AX)(W:G M)(r:G DQ)(S:G M)(ar:BB z x t ag)(b3:z+1000<=500000000)(Z:∀a∈r,K.fx z t a)(bj:r.length<=100):
 Z9 276 [P u,Bm p aq r] (.t u (P m::W) 323::(x.a m t ag++BX 515 DR p r S))
  λv bb=>∃ay az,Du x ay/\BB (z+4*r.length) ay (r.foldl K.eo (r.foldl K.ek t)) az/\v=N 0/\bb=.t u (P m::W) 323::(ay.a m (r.foldl K.eo (r.foldl K.ek t)) az++BX 515 DR p r S):=by
 cases r with
 |nil=>
  refine A9.t (L ?_);intro ah;refine EY.b (L ?_);refine EY.b (L ?_);exact⟨_,AQ.b (g:=.t u (P m::W) 323::(x.a m t ag++BX 515 DR p [] S)),x,ag,.b x,ar,A,A⟩
 |cons bx bo=>
  obtain⟨f,au⟩:∃f,bx::bo=f:=⟨_,A⟩;rw[au] at Z bj⊢;have a4:f≠[]:=by rw[<-au];simp
  rw[E1 a4,Dw a4];refine A9.t (L ?_);intro ah;refine EY.f (m:=B) (λj=>f.length-j) (λj=>j<=f.length) (λj=>[(0,P u),(1,Q p f.length aq),(5,Ah (C ah)),(12,Q p f.length aq),(13,N (f.length:B)),(14,N (j:B))]) (λj=>.t p (f.flatMap DR++S) 515::.o ah (AM #[] 0)::.t u (P m::W) 323::x.a m ((f.take j).foldl K.ek t) ag) 0 (Af _) ⟨A,A,A,A,A,A,AA⟩ AQ.b ?_;intro j a6 an;refine EY.b (IK.mk (λl=>?_) (λl=>?_))
  ·have l:j<f.length:=by simp at l;omega
   have o:=Nt K.ek f j Hx l t;obtain⟨a,y⟩:∃a,f.getD j Hx=a:=⟨_,A⟩;have af:f[j]?=C a:=by rw[<-y];exact IT l
   have al:=Ox (λa=>(JG a).1) (er:=S) af;have q:=Z a (FW af);rw[y] at o;obtain⟨n,ai⟩:∃n,(f.take j).foldl K.ek t=n:=⟨_,A⟩;rw[ai] at o;rw[ai];have aj:=q.nE;have ax:((a.1.b:F)==5)=I:=by rw[aj];rfl
   clear Z q y af au;obtain⟨⟨bn,bp,ba,be,a0,bv⟩,⟨bq,br⟩⟩:=a;dsimp only at aj ax al o;have o:=Ap o;clear ai;refine A7 ?_;refine Ms.mk al ?_;intro bf;refine A7 ?_;refine F'.mk ((max n.ap ba:B):F) (by dsimp only;split<;>omega) (L ?_);refine F'.mk ((max n.x a0:B):F) (by dsimp only;split<;>omega) (A' ?_);refine F'.mk ((j+1:B):F) Y2 (an (j+1) (by show j+1<=f.length;omega) (by show f.length-(j+1)<f.length-j;omega) ⟨A,A,A,A,A,A,AA⟩ ?_);rw[o.out];exact AQ.b
  have l:j=f.length:=by simp at l;omega
  subst l;clear an;rw[LZ];have a9:=ABc ar f Z;have av:∀a∈f,K.fx z (f.foldl K.ek t) a:=λa y=>by
   have a3:=K.mx f ar.a Z;exact(Z a y).nD a3.nB.nA a3.nB.nF
  obtain⟨U,a7⟩:∃U,f.foldl K.ek t=U:=⟨_,A⟩;rw[a7] at a9 av;rw[a7];clear ar Z;refine L ?_;refine EY.f (m:=B×AR×AX) (λa=>f.length-a.1) (λa=>a.1<=f.length/\Du x a.2.1/\BB (z+4*a.1) a.2.1 ((f.take a.1).foldl K.eo U) a.2.2/\∀ak∈f,K.fx (z+4*a.1) ((f.take a.1).foldl K.eo U) ak) (λa=>[(0,P u),(5,Ah (C ah)),(65,Q p f.length aq),(66,N (f.length:B)),(67,N (a.1:B))]) (λa=>.t p (f.flatMap DR++S) 515::.o ah (AM #[] 0)::.t u (P m::W) 323::a.2.1.a m ((f.take a.1).foldl K.eo U) a.2.2) (0,x,ag) ⟨Af _,.b x,a9,av⟩ ⟨A,A,A,A,A,AA⟩ AQ.b ?_;rintro⟨j,ao,ap⟩ ⟨a6,aw,aa,am⟩ an;dsimp only at a6 aw aa am;refine EY.b (IK.mk (λl=>?_) (λl=>?_))
  ·have l:j<f.length:=by simp at l;omega
   have o:=Nt K.eo f j Hx l U;obtain⟨a,y⟩:∃a,f.getD j Hx=a:=⟨_,A⟩;have af:f[j]?=C a:=by rw[<-y];exact IT l
   have al:=Ox (λa=>(JG a).1) (er:=S) af;rw[y] at o;obtain⟨n,ai⟩:∃n,(f.take j).foldl K.eo U=n:=⟨_,A⟩;rw[ai] at o aa am;rw[ai];have q:=am a (FW af);obtain⟨a1,a2,bd⟩:=AAw aa.a q;have bi:∀ak∈f,K.fx (z+4*(j+1)) (n.eo a) ak:=λak bh=>EvOk.a ((am ak bh).nD a1 a2) Y;have a8:=YO m (z+4*j) a.1.c a.2 ao n ap aa Y q.nB q.nA q.nC;have bg:=Qy m ao n (by have:=aa.a.nF;omega);have aj:=q.nE;have a5:=q.nG;have bk:a.1.c<n.t+16:=q.nB;have ax:((a.1.b:F)==2)=I:=by rw[aj];rfl
   have bt:((a.1.b:F)==5)=I:=by rw[aj];rfl
   have bs:Ac ((a.1.h:F)>0)=I:=by rw[a5];rfl
   have bu:=Aa ((a.1.c:F)≥((n.t+16:B):F));clear am q y af au a1 a2 bd av;obtain⟨⟨bn,bp,ba,be,a0,bv⟩,⟨bq,br⟩⟩:=a;dsimp only at aj a5 ax bt bs bu al o a8 bk;refine A7 ?_;refine Ms.mk al ?_;intro bf;refine A7 ?_;refine A9.b bg ?_;refine L ?_;refine A9.w (a:=[.t p (f.flatMap DR++S) 515,.o ah (AM #[] 0),.t u (P m::W) 323]++ao.a m n ap) AQ.b (A9.ac a8 ?_);rintro v b2 ⟨b1,bc,bm,bl,rfl,rfl⟩;refine L ?_;refine F'.mk ((j+1:B):F) Y2 (an (j+1,b1,bc) ⟨l,aw.a bm,?_,?_⟩ (by show f.length-(j+1)<f.length-j;omega) ⟨A,A,A,A,A,AA⟩ ?_)
   ·dsimp only;rw[o];exact bl
   ·dsimp only;rw[o];exact bi
   ·dsimp only;rw[o];exact AQ.b
  have l:j=f.length:=by simp at l;omega
  subst l;clear an;rw[LZ] at aa⊢;refine L ?_;exact⟨_,AQ.b (g:=.t u (P m::W) 323::(ao.a m (f.foldl K.eo U) ap++[.t p (f.flatMap DR++S) 515])),ao,ap,aw,aa,A,A⟩
def CT(o:AC AN):B:=match o with
 |none=>0
 |some a=>a.a
variable{xx:Am}{yc:AP}{lg:S}{yr:M->CQ->Prop}{np xu yi:B}{yo yu:Cf}{yq:EU}{yp:Ai CO}{yx:G (F×M)}{ya:F}
def E7.i{o:Al}{a v:M}(r:o.op=.lookup l yo yu I)(t:xx.c l=C (.map p np))(q:xx.c p=C (.int H))(n:xx.e np=C yq)(z:yq.zero=C a)
 (x:CR yc yo=C (Ah (C xu)))(y:CR yc yu=C (N ya))[L:Cz lg xu (AM yp yi)](m:Da yp yx)(u:(Cu ya yx).getD a=v)
 (j:yr v (.y λf=>Cz f xu (AM yp yi))):E7 xx o yc lg yr:=by
 subst u;exact E7.b r t q n z x y m j
def IU(o:AC AN):∃a b f j l:M,(o.map HY).getD (AV #[N 0,N 0,D Au 0,D Au 0,D Au 0,N 0])=AV #[a,b,D Au (CT o),f,j,l]:=by cases o<;>exact⟨_,_,_,_,_,A⟩
def Ev(a:K)(f:G (B×AN))(b:B):AC B:=if a.ci b=0 then E else if(a.b b).a=2/\0<(a.b b).d then C 2 else if E' a b (BC f b)=I then E else if(a.w b).b=R then C 1 else C 0
def EC(a:K)(j:G (B×AN))(b f:B):K:=match a.al f with
 |none=>a.bk f (C b)
 |some l=>if CT (BC j l)<CT (BC j b) then a.bk f (C b) else a
def Df(f:G (B×AN))(a:K)(b:B):K:=match Ev a f b with
 |none=>a
 |some j=>EC a f b j
def Fk(j:K)(a:G (B×AN))(f:B):K:=(AH f).foldl (Df a) j
def Sl(j:K)(a:G (B×AN))(f:B):Fk j a (f+1)=Df a (Fk j a f) f:=by unfold Fk;rw[DO,KQ];rfl
def AA3(a:K)(o:G (B×AN))(b n:B):∃f j l,EC a o b n={a with bh:=f,bg:=j,br:=l}:=by
 have m:∀v,∃f j l,a.bk n v={a with bh:=f,bg:=j,br:=l}:=λv=>by
  unfold K.bk;split
  ·exact⟨_,_,_,A⟩
  split
  ·exact⟨_,_,_,A⟩
  ·exact⟨_,_,_,A⟩
 unfold EC;split
 ·exact m _
 split
 ·exact m _
 ·exact⟨a.bh,a.bg,a.br,A⟩
def AA4(f:G (B×AN))(a:K)(b:B):∃j l m,Df f a b={a with bh:=j,bg:=l,br:=m}:=by
 unfold Df;split
 ·exact⟨a.bh,a.bg,a.br,A⟩
 ·exact AA3 _ _ _ _
def Nk(a:K)(j:G (B×AN)):∀f,∃l m n,Fk a j f={a with bh:=l,bg:=m,br:=n}
 |0=>⟨a.bh,a.bg,a.br,A⟩
 |f+1=>by
  obtain⟨q,b,r,o⟩:=Nk a j f;obtain⟨l,m,n,p⟩:=AA4 j (Fk a j f) f;exact⟨l,m,n,by rw[Sl,p,o]⟩
def m'(ah af ba:B)(Z:AR)(n:Gr)(o:DJ)(G:K)(a3:M)(al:AX)(bc:B2 ba al G)(y:Da n.a (E5 o.a))(bj:G.i=8\/G.i=16):
 Z9 277 [P ah] (.t ah (n.i af o a3) 323::.o n.c (AM n.a n.d)::Z.a af G al)
  λv bb=>bb=.t ah (n.i af o a3) 323::.o n.c (AM n.a n.d)::Z.a af (Fk G o.a 70) al:=by
 refine A9.t ?_;refine L ?_;refine EY.f (m:=B) (λa=>70-a) (λa=>a<=70) (λa=>[(0,P ah),(12,N 70),(13,N (a:B))]) (λa=>.t ah (n.i af o a3) 323::.o n.c (AM n.a n.d)::Z.a af (Fk G o.a a) al) 0 (Af _) ⟨A,A,A,AA⟩ AQ.b ?_;intro a bi q;have j:=Sl G o.a a;have a7:B2 ba al (Fk G o.a a):=by
  obtain⟨bk,Z,n,a6⟩:=Nk G o.a a;rw[a6];exact bc
 obtain⟨f,r⟩:∃f,Fk G o.a a=f:=⟨_,A⟩;rw[r] at j a7;rw[r];refine EY.b (IK.mk (λz=>?_) (λz=>?_))
 ·have z:a<70:=by simp at z;omega
  have bd:CX (AZ (Ab f) 70) (0+a*6+0) 1 I=C (N (f.b a).a):=by
   show(AZ (Ab f) 70)[0+a*6+0]?=_;rw[BF,FJ f z Y];rfl
  have az:CX (AZ (Ab f) 70) (0+a*6+3) 1 I=C (N (f.b a).d):=by
   show(AZ (Ab f) 70)[0+a*6+3]?=_;rw[BF,FJ f z Y];rfl
  refine L ?_;refine A9.b (Wc Z.f Z.c Z.s a a7 z) ?_;have be:F6 f.i (BD f.ab a)-(BD f.ab a).a.length=f.ci a:=A;rw[be];by_cases ai:f.ci a=0
  ·have bf:(((f.ci a:B):F)==0)=R:=by rw[ai];rfl
   have p:Ev f o.a a=E:=A8 ai;have l:Df o.a f a=f:=by unfold Df;rw[p]
   rw[l] at j;have j:=Ap j;clear l p r;refine L ?_;refine F'.mk ((a+1:B):F) Y2 (q (a+1) Y (by show 70-(a+1)<70-a;omega) ⟨A,A,A,AA⟩ ?_);rw[j.out];exact AQ.b
  have bf:(((f.ci a:B):F)==0)=I:=Z4;refine A7 ?_;refine Ms.mk bd ?_;by_cases ag:(f.b a).a=2/\0<(f.b a).d
  ·have ak:(((f.b a).a:F)==2)=R:=by rw[ag.1];rfl
   have a8:Ac ((f.b a).d>0)=R:=DH ag.2;have p:Ev f o.a a=C 2:=by unfold Ev;rw[A1 ai,A8 ag]
   refine A7 ?_;refine Ms.mk az (A7 ?_);cases ho:f.br with
   |none=>
    have l:Df o.a f a={f with br:=C a}:=by
     unfold Df;rw[p];show EC f o.a a 2=_;unfold EC;rw[show f.al 2=E from ho];rfl
    rw[l] at j;have j:=Ap j;clear l p r;refine A' ?_;refine F'.mk ((a+1:B):F) Y2 (q (a+1) Y (by show 70-(a+1)<70-a;omega) ⟨A,A,A,AA⟩ ?_);rw[j.out];exact AQ.b
   |some m=>
    have a2:=Aa (((m:B):F)<0);obtain⟨an,ao,ap,aq,ar,t⟩:=IU (BC o.a a);obtain⟨au,av,aw,ax,ay,u⟩:=IU (BC o.a m);have l:Df o.a f a=if CT (BC o.a m)<CT (BC o.a a) then{f with br:=C a} else f:=by
     unfold Df;rw[p];show EC f o.a a 2=_;unfold EC;rw[show f.al 2=C m from ho];rfl
    have S:=H_ a o.a;have U:=H_ m o.a;have a1:=Ap p;clear p r;refine L ?_;rw[<-S] at t;rw[<-U] at u;refine E7.i (yq:=_) (a:=_) (yp:=n.a) (yi:=n.d) (yx:=E5 o.a) A A A A A A A y t (A7 ?_);refine E7.i (yq:=_) (a:=_) (yp:=n.a) (yi:=n.d) (yx:=E5 o.a) A A A A A A A y u (A7 ?_);by_cases x:CT (BC o.a m)<CT (BC o.a a)
    ·have W:=B7 ((CT (BC o.a a):F)>(CT (BC o.a m):F));rw[l,A8 x] at j;have j:=Ap j;clear l;refine A' ?_;refine F'.mk ((a+1:B):F) Y2 (q (a+1) Y (by show 70-(a+1)<70-a;omega) ⟨A,A,A,AA⟩ ?_);rw[j.out];exact AQ.b
    ·have W:=Aa ((CT (BC o.a a):F)>(CT (BC o.a m):F));rw[l,A1 x] at j;have j:=Ap j;clear l;refine L ?_;refine F'.mk ((a+1:B):F) Y2 (q (a+1) Y (by show 70-(a+1)<70-a;omega) ⟨A,A,A,AA⟩ ?_);rw[j.out];exact AQ.b
  have a5:(((f.b a).a:F)==2)=I\/((((f.b a).a:F)==2)=R/\Ac ((f.b a).d>0)=I):=by
   by_cases a9:(f.b a).a=2
   ·refine Ae ⟨by rw[a9];rfl,F2 λa6=>ag ⟨a9,a6⟩⟩
   ·exact AT Z4
  have aa:=YI ah af a Z n o f a3 y;cases am:E' f a (BC o.a a) with
  |false=>
   have p:Ev f o.a a=E:=by unfold Ev;rw[A1 ai,A1 ag,A8 am]
   have l:Df o.a f a=f:=by unfold Df;rw[p]
   rw[l] at j;rw[am] at aa;have j:=Ap j;clear l p r;rcases a5 with ak|⟨ak,a8⟩
   ·refine L ?_;refine A9.b aa (L ?_);refine F'.mk ((a+1:B):F) Y2 (q (a+1) Y (by show 70-(a+1)<70-a;omega) ⟨A,A,A,AA⟩ ?_);rw[j.out];exact AQ.b
   ·refine A7 ?_;refine Ms.mk az (L ?_);refine A9.b aa (L ?_);refine F'.mk ((a+1:B):F) Y2 (q (a+1) Y (by show 70-(a+1)<70-a;omega) ⟨A,A,A,AA⟩ ?_);rw[j.out];exact AQ.b
  |true=>
   rw[am] at aa;have aj:=S9 Z.c a a7 z;cases a0:(f.w a).b with
   |true=>
    have p:Ev f o.a a=C 1:=by unfold Ev;rw[A1 ai,A1 ag,A1 (by rw[am];decide),A8 a0]
    rw[show(BD f.ab a).b=R from a0] at aj;rcases a5 with ak|⟨ak,a8⟩
    ·refine L ?_;refine A9.b aa ?_;refine L ?_;refine A9.u aj ?_;rintro v a4 ⟨rfl,rfl⟩;refine A7 ?_;cases ho:f.bg with
     |none=>
      have l:Df o.a f a={f with bg:=C a}:=by
       unfold Df;rw[p];show EC f o.a a 1=_;unfold EC;rw[show f.al 1=E from ho];rfl
      rw[l] at j;have j:=Ap j;clear l p r;refine A' ?_;refine F'.mk ((a+1:B):F) Y2 (q (a+1) Y (by show 70-(a+1)<70-a;omega) ⟨A,A,A,AA⟩ ?_);rw[j.out];exact AQ.b
     |some m=>
      have a2:=Aa (((m:B):F)<0);obtain⟨an,ao,ap,aq,ar,t⟩:=IU (BC o.a a);obtain⟨au,av,aw,ax,ay,u⟩:=IU (BC o.a m);have l:Df o.a f a=if CT (BC o.a m)<CT (BC o.a a) then{f with bg:=C a} else f:=by
       unfold Df;rw[p];show EC f o.a a 1=_;unfold EC;rw[show f.al 1=C m from ho];rfl
      have S:=H_ a o.a;have U:=H_ m o.a;have a1:=Ap p;clear p r;refine L ?_;rw[<-S] at t;rw[<-U] at u;refine E7.i (yq:=_) (a:=_) (yp:=n.a) (yi:=n.d) (yx:=E5 o.a) A A A A A A A y t (A7 ?_);refine E7.i (yq:=_) (a:=_) (yp:=n.a) (yi:=n.d) (yx:=E5 o.a) A A A A A A A y u (A7 ?_);by_cases x:CT (BC o.a m)<CT (BC o.a a)
      ·have W:=B7 ((CT (BC o.a a):F)>(CT (BC o.a m):F));rw[l,A8 x] at j;have j:=Ap j;clear l;refine A' ?_;refine F'.mk ((a+1:B):F) Y2 (q (a+1) Y (by show 70-(a+1)<70-a;omega) ⟨A,A,A,AA⟩ ?_);rw[j.out];exact AQ.b
      ·have W:=Aa ((CT (BC o.a a):F)>(CT (BC o.a m):F));rw[l,A1 x] at j;have j:=Ap j;clear l;refine L ?_;refine F'.mk ((a+1:B):F) Y2 (q (a+1) Y (by show 70-(a+1)<70-a;omega) ⟨A,A,A,AA⟩ ?_);rw[j.out];exact AQ.b
    ·refine A7 ?_;refine Ms.mk az (L ?_);refine A9.b aa ?_;refine L ?_;refine A9.u aj ?_;rintro v a4 ⟨rfl,rfl⟩;refine A7 ?_;cases ho:f.bg with
     |none=>
      have l:Df o.a f a={f with bg:=C a}:=by
       unfold Df;rw[p];show EC f o.a a 1=_;unfold EC;rw[show f.al 1=E from ho];rfl
      rw[l] at j;have j:=Ap j;clear l p r;refine A' ?_;refine F'.mk ((a+1:B):F) Y2 (q (a+1) Y (by show 70-(a+1)<70-a;omega) ⟨A,A,A,AA⟩ ?_);rw[j.out];exact AQ.b
     |some m=>
      have a2:=Aa (((m:B):F)<0);obtain⟨an,ao,ap,aq,ar,t⟩:=IU (BC o.a a);obtain⟨au,av,aw,ax,ay,u⟩:=IU (BC o.a m);have l:Df o.a f a=if CT (BC o.a m)<CT (BC o.a a) then{f with bg:=C a} else f:=by
       unfold Df;rw[p];show EC f o.a a 1=_;unfold EC;rw[show f.al 1=C m from ho];rfl
      have S:=H_ a o.a;have U:=H_ m o.a;have a1:=Ap p;clear p r;refine L ?_;rw[<-S] at t;rw[<-U] at u;refine E7.i (yq:=_) (a:=_) (yp:=n.a) (yi:=n.d) (yx:=E5 o.a) A A A A A A A y t (A7 ?_);refine E7.i (yq:=_) (a:=_) (yp:=n.a) (yi:=n.d) (yx:=E5 o.a) A A A A A A A y u (A7 ?_);by_cases x:CT (BC o.a m)<CT (BC o.a a)
      ·have W:=B7 ((CT (BC o.a a):F)>(CT (BC o.a m):F));rw[l,A8 x] at j;have j:=Ap j;clear l;refine A' ?_;refine F'.mk ((a+1:B):F) Y2 (q (a+1) Y (by show 70-(a+1)<70-a;omega) ⟨A,A,A,AA⟩ ?_);rw[j.out];exact AQ.b
      ·have W:=Aa ((CT (BC o.a a):F)>(CT (BC o.a m):F));rw[l,A1 x] at j;have j:=Ap j;clear l;refine L ?_;refine F'.mk ((a+1:B):F) Y2 (q (a+1) Y (by show 70-(a+1)<70-a;omega) ⟨A,A,A,AA⟩ ?_);rw[j.out];exact AQ.b
   |false=>
    have p:Ev f o.a a=C 0:=by unfold Ev;rw[A1 ai,A1 ag,A1 (by rw[am];decide),A1 (by rw[a0];decide)]
    rw[show(BD f.ab a).b=I from a0] at aj;rcases a5 with ak|⟨ak,a8⟩
    ·refine L ?_;refine A9.b aa ?_;refine L ?_;refine A9.u aj ?_;rintro v a4 ⟨rfl,rfl⟩;refine A7 ?_;cases ho:f.bh with
     |none=>
      have l:Df o.a f a={f with bh:=C a}:=by
       unfold Df;rw[p];show EC f o.a a 0=_;unfold EC;rw[show f.al 0=E from ho];rfl
      rw[l] at j;have j:=Ap j;clear l p r;refine A' ?_;refine F'.mk ((a+1:B):F) Y2 (q (a+1) Y (by show 70-(a+1)<70-a;omega) ⟨A,A,A,AA⟩ ?_);rw[j.out];exact AQ.b
     |some m=>
      have a2:=Aa (((m:B):F)<0);obtain⟨an,ao,ap,aq,ar,t⟩:=IU (BC o.a a);obtain⟨au,av,aw,ax,ay,u⟩:=IU (BC o.a m);have l:Df o.a f a=if CT (BC o.a m)<CT (BC o.a a) then{f with bh:=C a} else f:=by
       unfold Df;rw[p];show EC f o.a a 0=_;unfold EC;rw[show f.al 0=C m from ho];rfl
      have S:=H_ a o.a;have U:=H_ m o.a;have a1:=Ap p;clear p r;refine L ?_;rw[<-S] at t;rw[<-U] at u;refine E7.i (yq:=_) (a:=_) (yp:=n.a) (yi:=n.d) (yx:=E5 o.a) A A A A A A A y t (A7 ?_);refine E7.i (yq:=_) (a:=_) (yp:=n.a) (yi:=n.d) (yx:=E5 o.a) A A A A A A A y u (A7 ?_);by_cases x:CT (BC o.a m)<CT (BC o.a a)
      ·have W:=B7 ((CT (BC o.a a):F)>(CT (BC o.a m):F));rw[l,A8 x] at j;have j:=Ap j;clear l;refine A' ?_;refine F'.mk ((a+1:B):F) Y2 (q (a+1) Y (by show 70-(a+1)<70-a;omega) ⟨A,A,A,AA⟩ ?_);rw[j.out];exact AQ.b
      ·have W:=Aa ((CT (BC o.a a):F)>(CT (BC o.a m):F));rw[l,A1 x] at j;have j:=Ap j;clear l;refine L ?_;refine F'.mk ((a+1:B):F) Y2 (q (a+1) Y (by show 70-(a+1)<70-a;omega) ⟨A,A,A,AA⟩ ?_);rw[j.out];exact AQ.b
    ·refine A7 ?_;refine Ms.mk az (L ?_);refine A9.b aa ?_;refine L ?_;refine A9.u aj ?_;rintro v a4 ⟨rfl,rfl⟩;refine A7 ?_;cases ho:f.bh with
     |none=>
      have l:Df o.a f a={f with bh:=C a}:=by
       unfold Df;rw[p];show EC f o.a a 0=_;unfold EC;rw[show f.al 0=E from ho];rfl
      rw[l] at j;have j:=Ap j;clear l p r;refine A' ?_;refine F'.mk ((a+1:B):F) Y2 (q (a+1) Y (by show 70-(a+1)<70-a;omega) ⟨A,A,A,AA⟩ ?_);rw[j.out];exact AQ.b
     |some m=>
      have a2:=Aa (((m:B):F)<0);obtain⟨an,ao,ap,aq,ar,t⟩:=IU (BC o.a a);obtain⟨au,av,aw,ax,ay,u⟩:=IU (BC o.a m);have l:Df o.a f a=if CT (BC o.a m)<CT (BC o.a a) then{f with bh:=C a} else f:=by
       unfold Df;rw[p];show EC f o.a a 0=_;unfold EC;rw[show f.al 0=C m from ho];rfl
      have S:=H_ a o.a;have U:=H_ m o.a;have a1:=Ap p;clear p r;refine L ?_;rw[<-S] at t;rw[<-U] at u;refine E7.i (yq:=_) (a:=_) (yp:=n.a) (yi:=n.d) (yx:=E5 o.a) A A A A A A A y t (A7 ?_);refine E7.i (yq:=_) (a:=_) (yp:=n.a) (yi:=n.d) (yx:=E5 o.a) A A A A A A A y u (A7 ?_);by_cases x:CT (BC o.a m)<CT (BC o.a a)
      ·have W:=B7 ((CT (BC o.a a):F)>(CT (BC o.a m):F));rw[l,A8 x] at j;have j:=Ap j;clear l;refine A' ?_;refine F'.mk ((a+1:B):F) Y2 (q (a+1) Y (by show 70-(a+1)<70-a;omega) ⟨A,A,A,AA⟩ ?_);rw[j.out];exact AQ.b
      ·have W:=Aa ((CT (BC o.a a):F)>(CT (BC o.a m):F));rw[l,A1 x] at j;have j:=Ap j;clear l;refine L ?_;refine F'.mk ((a+1:B):F) Y2 (q (a+1) Y (by show 70-(a+1)<70-a;omega) ⟨A,A,A,AA⟩ ?_);rw[j.out];exact AQ.b
 have z:a=70:=by simp at z;omega
 subst z;clear q;refine L ?_;rw[<-r];exact⟨_,AQ.b,A⟩
structure G5 where
 t:J4
 d:G B
 h:B
 s:B
 a:HM
 u:G B
namespace G5
def i(a:G5)(f:DJ):K:={f.b with aa:=a.d,aq:=C a.h,av:=a.s,bn:=C (a.a.b f.b.bb),u:=f.b.u+Fv a.t a.d}
def j(a:G5)(f:DJ):K:=((a.i f).fk a.a).hd a.u a.a.a
def x(a:G5)(f:DJ):K:=(a.j f).em a.a.a
def c(f:G5)(a:DJ):K:={(f.x a).ic a.a a.c with ap:=f.a.d}
def g(f:G5)(a:DJ):G DQ:=E4 (f.c a) a.a 70
def f(j:G5)(a:DJ):K:={j.c a with u:=(j.c a).u+G' (j.c a) a.a 70}
def w(f:G5)(j:DJ)(a:G DQ):K:=a.foldl K.eo (a.foldl K.ek (f.f j))
def v(f:G5)(a:DJ)(j:G DQ):K:=Fk (f.w a j) a.a 70
def b(a:G5)(f:DJ)(j:G DQ):K:={a.v f j with bq:=(a.v f j).x}
def e(f:G5)(j:DJ)(a:G DQ):K:=if a.length<max (f.b j a).ce.ec (2*(f.b j a).ce.g.length) then(f.b j a).ce else(f.b j a).ce.fb
end G5
structure OQ(o:B)(m:DJ)(l:G5):Prop where
 f:m.b.x<=400000000
 j:Qk m.c m.d
 a:(Cg m.c m.d 3).mergeSort=l.d
 t:Lu o m.b.ab l.t l.d
 c:l.d.foldl (Ch l.t) E=C (l.h,l.s,C (l.a.b m.b.bb))
 b:l.a.e
 e:(BD m.b.ab l.a.a.a).a[l.a.a.b]?=C l.u
 u:Qo (l.i m) l.u
 s:(l.j m).dz
 i:∃b∈l.d,FL m.c (C l.h) b=R
 h:Qg m.a
 d:Qe (l.c m) m.a
 v:K.ad o (l.f m)
 g:∀p∈l.g m,K.fx o (l.f m) p
 w:∀n,n.Perm (l.g m)->(n.map Ea).Pairwise (·<=·)->K.ad (o+100) (l.b m n)/\(l.b m n).ce.i*9+40<=(l.b m n).ce.bc/\(l.b m n).ce.ah=[]
structure UD(l:AR)(j:K):Prop where
 b:∀m,(j.b m).c=0/\(j.b m).d=0
 d:j.x=0
 e:j.j.length=70
 f:j.i=8\/j.i=16
 h:j.cs=[]
 a:UE l j
 c:j.bb=GV l j.i/\∀n∈H0 l j.i,n<=100000
 g:l.aj=[]
def K.gm(a:K):K:={a with h:=[],an:=0,u:=0,j:=[],bj:=[]}
def Qv:∀(f:G AF)(a:K),(f.foldl K.ai a).gm=a.gm
 |[],a=>A
 |j::f,a=>by rw[DN,Qv f];rfl
def V3(p:n.dz)(a:AF):(n.em a).gm=n.gm:=by
 have j:=K.ls.nD p n.v (AI _);unfold K.em;obtain⟨o,u⟩:∃o,n.ej n.v=o:=⟨_,A⟩;rw[u] at j⊢;have y:o.ax=n.ax:=by
  have m:o.fy.ax=n.fy.ax:=by rw[j.nB]
  exact m
 rw[Qv];show(((o.ai a).dl.foldl K.ai (o.ai a)).du _ n.ax).gm=_;obtain⟨f,l⟩:∃f,(o.ai a).dl.foldl K.ai (o.ai a)=f:=⟨_,A⟩;have q:f.gm=o.gm:=by rw[<-l,Qv];rfl
 have r:o.gm=n.gm:=by
  have:o.fy=n.fy:=j.nB;exact AB (λx:K=>{x with bj:=[]}) this
 rw[l];have t:(f.du (o.ai a).dl n.ax).gm={f.gm with ax:=n.ax}:=A;rw[t,q,r];rfl
def NQ(f:K):∀a,{(Bw f a).b with j:=[],x:=0,u:=0}=({f with j:=[],x:=0,u:=0}:K)
 |0=>A
 |a+1=>by
  rw[MD,<-NQ f a];unfold DJ.e;split
  ·rfl
  split
  ·rfl
  ·rfl
def WS{f:K}(l:∀b,(f.b b).c=0/\(f.b b).d=0)(m:f.j.length=70):∀a,a<=70->∀b,((Bw f a).b.b b).c=0/\((Bw f a).b.b b).d=0
 |0,_=>l
 |a+1,p=>λb=>by
  have j:=WS l m a Y;have o:=OU.b m a;rw[MD];unfold DJ.e;split
  ·exact j b
  split
  ·exact j b
  ·have n:(((Bw f a).b.hj.ij a ((Bw f a).b.cw ⟨a,0⟩)).kt ((Bw f a).b.cw ⟨a,0⟩).d).b b=if b=a then{(Bw f a).b.b a with b:=((Bw f a).b.cw ⟨a,0⟩).f} else(Bw f a).b.b b:=K.cz (f:=(Bw f a).b.j) (by rw[o.a];omega) b
   show((K.b _ b).c=0/\(K.b _ b).d=0);rw[n];split
   ·exact j a
   ·exact j b
def Lu.c{l m:B}{f:G D4}{a:J4}(j:Lu l f a q)(F:l<=m):Lu m f a q:=
 ⟨j.a,λb t y u=>by
  obtain⟨x,n,o,p,z,r⟩:=j.b b t y u;exact⟨x,n,o,p,Y,r⟩⟩
def BB.f(a:BB l xr n yf)(m:F):BB l {xr with af:=m} n yf:=by
 obtain⟨f,⟨⟨o,p,q,r,t,u,x⟩,y,z,G,L,M,⟨P,Q,S,U⟩,N⟩,j⟩:=a;exact⟨f,⟨⟨o,p,q,r,t,u,x⟩,y,z,G,L,M,⟨P,Q,S,U⟩,N⟩,j⟩
abbrev AR.an(f:AR)(a:F):AR:={f with af:=a}
structure Jl(a l:AR):Prop where
 f:l.f=a.f
 b:l.c=a.c
 e:l.s=a.s
 j:l.aw=a.aw
 c:l.ap=a.ap
 h:l.au=a.au
 g:l.ar=a.ar
 d:l.aq=a.aq
 i:l.av=a.av
def Jl.a{j b l:AR}(a:Jl j b)(f:Jl b l):Jl j l:=⟨f.f.trans a.f,f.b.trans a.b,f.e.trans a.e,f.j.trans a.j,f.c.trans a.c,f.h.trans a.h,f.g.trans a.g,f.d.trans a.d,f.i.trans a.i⟩
def Du.d{a b:AR}(f:Du a b):Jl a b/\b.af=a.af:=by
 obtain⟨l,q,o,r,t,p,z,x,y,u,B,F,m,n,j,rfl⟩:=f;exact⟨⟨A,A,A,A,A,A,A,A,A⟩,A⟩
abbrev VX(l m n:B)(a:AR)(f:K)(j:AX):S:=
 AJ a.al f.ac []::.o a.am (AM #[] 0)::H5 l n a ⟨m,#[],0,0,0,[],0,0,[]⟩ ⟨f,[],[],[]⟩ (T E) (T E) (O E 0 0) j
structure aZ(l m:K):Prop where
 g:m.ac=l.ac
 a:m.i=l.i
 d:m.t=l.t
 f:m.g=l.g
 c:m.bb=l.bb
 e:m.ae=l.ae
 h:m.bj=l.bj
 i:m.ax=l.ax
 b:m.ah=l.ah
 j:m.cs=l.cs
def ABz(m:AR)(j:B)(a:K)(l:B)(f:AX):m.a j {a with u:=l} f=m.a j a f:=by
 have n:Ab ({a with u:=l}:K)=Ab a:=A;unfold AR.a;rw[n]
def i6(j:K)(l:B):aZ j (Bw j l).b:=by
 have f:=NQ j l;obtain⟨m,n⟩:∃m,(Bw j l).b=m:=⟨_,A⟩;rw[n] at f⊢;exact⟨by have a:=AB K.ac f;exact a,by have a:=AB K.i f;exact a,by have a:=AB K.t f;exact a,by have a:=AB K.g f;exact a,by have a:=AB K.bb f;exact a,by have a:=AB K.ae f;exact a,by have a:=AB K.bj f;exact a,by have a:=AB K.ax f;exact a,by have a:=AB K.ah f;exact a,by have a:=AB K.cs f;exact a⟩
def fW(M co l G:B)(p:AR)(ag:K)(bm:AX)(j:G5)(eg:B2 G bm ag)(gt:G+20000<=400000000)(b3:UD p ag)(ee:Mr ag.ab)(a6:OQ (G+2000) (Bw ag 70) j)(fa:0<=p.af/\p.af<=400000000):
 Z9 186 [P M] (VX M co l p ag bm)
  λv bb=>∃n ci av d3,n.Perm (j.g (Bw ag 70))/\(n.map Ea).Pairwise (·<=·)/\Jl p ci/\BB (G+10000) ci (j.e (Bw ag 70) n) av/\v=N 0/\bb=.t M (P l::d3) 323::ci.a l (j.e (Bw ag 70) n) av:=by
 obtain⟨en,gn,b4,go,eo,ep,b5,eq⟩:=b3;have ef:=OU.b b4 70;have W:=i6 ag 70;have db:=WS en b4 70 (AI 70);have b9:=iA M l G p ag ⟨co,#[],0,0,0,[],0,0,[]⟩ (T E) (T E) (O E 0 0) bm eg Y b4 Y ee ⟨A,El.b,⟨AI 0,Af _,A⟩,⟨AI 0,Af _,A⟩⟩;obtain⟨a,cu⟩:∃a,Bw ag 70=a:=⟨_,A⟩;rw[cu] at ef W db b9 a6⊢;clear cu;obtain⟨gq,bh,de,e5,df,e6,e7,e8,b7,e0,e1,b8,e2,e3,e4⟩:=a6;refine A9.t (L ?_);intro gl;refine L ?_;refine EY.b (A7 ?_);refine A9.u b9 ?_;rintro v an ⟨f,d1,gx,bk,eh,rfl,rfl⟩;refine L ?_;refine F'.mk 1 A (EY.b (A7 ?_));have dq:=mX M l (G+2000) p a f (T E) (T E) (O E 0 0) d1 (eh.a Y) Y bk bh j.t j.d de e5 j.h j.s _ df;have dr:=A9.z dq (n:=λv bb=>∃(a5:B)(a2:D0)(av:AX),D0.e (G+2000) a2 ⟨j.d,C j.h,j.s,C (j.a.b a.b.bb)⟩/\C3 (G+2000+50) av a.b.i a.b.ab a.b.bd (a.b.u+Fv j.t j.d) a.b.bv/\v=N 0/\bb=
  .t M (f.i l a (O E 0 0)) 323::.t l (p.ag a.b (T E) (P a5)) 292::.t p.x (AZ (Ab a.b) 70) 295::.o f.c (AM f.a f.d)::.u (A2 (BX 3 CC f.b a.c f.f))::.u (A2 (BX 3 CC f.e a.d f.j))::.t p.f [Cd 53 (P p.c),P p.c,N 192,Ah (C p.s),N av.c] 277::.o p.s (AM #[] 0)::.u (CB p.c av.a)::
   a2.c a5 p.f ⟨j.d,C j.h,j.s,C (j.a.b a.b.bb)⟩) (λv bb ch=>ch)
 clear dq;refine A9.u dr ?_;rintro v an ⟨a5,a2,ck,cg,cq,rfl,rfl⟩;refine L ?_;refine F'.mk 2 A (EY.b (A7 ?_));obtain⟨er,es,⟨c5,c6⟩,⟨et,eu⟩,⟨ev,ew⟩,⟨c7,c8⟩,b6⟩:=ep;have da:=cT M l (G+2050) {p with ab:=a5,b:=a2} (j.i a) j.a j.u ck (Ah (C f.c)) (Bm f.b f.g a.c) (Bm f.e f.h a.d) (O E 0 0) cq Y ⟨by show 1<=a.b.t/\a.b.t<=360;rw[W.d];exact er,by show a.b.g.length=(a.b.t+15)/32+1;rw[W.d,W.f];exact es,⟨c5,by show a.b.ae=[];rw[W.e];exact c6⟩,⟨et,by show a.b.bj=[];rw[W.h];exact eu⟩,⟨ev,by show a.b.ax=[];rw[W.i];exact ew⟩,⟨c7,by show a.b.ah=[];rw[W.b];exact c8⟩,b6⟩ e6 (D0.e.nC cg Y) (by show C (j.a.b a.b.bb)=C (j.a.b (GV p a.b.i));rw[W.c,W.a,b5.1]) (by show∀v∈H0 p a.b.i,v<=100000;rw[W.a];exact b5.2) (by show a.b.x<=_;omega) e7 e8 db b7;refine A9.w (a:=[.o f.c (AM f.a f.d),.u (A2 (BX 3 CC f.b a.c f.f)),.u (A2 (BX 3 CC f.e a.d f.j))]++Ut M l {p with ab:=a5,b:=a2} (j.i a) (T E) ck [P l,Ah (C f.c),Bm f.b f.g a.c,Bm f.e f.h a.d,O E 0 0]) ?_ ?_
 ·show AQ _ ([_,_,_]++(_::_::_::AJ p.al a.b.ac []::.o p.am (AM #[] 0)::_));rw[W.g];exact AQ.b
 refine A9.ac da ?_;rintro v an ⟨cj,fy,bc,gw,⟨gh,gg,gi,gc,g4,g2,g5,g6,g3,gj,g0,g7,al,fc⟩,cc,bx,ca,cb,rfl,rfl⟩;have Z:=V3 b7 j.a.a;obtain⟨m,a9⟩:∃m,((j.i a).fk j.a|>.hd j.u j.a.a).em j.a.a=m:=⟨_,A⟩;have cx:j.x a=m:=a9;rw[a9] at cc bx ca cb;have Z:m.gm=(j.j a).gm:=by rw[<-a9];exact Z
 rw[a9];clear a9 da;have bp:m.aa=j.d:=by have y:=AB K.aa Z;exact y
 have br:m.aq=C j.h:=by have y:=AB K.aq Z;exact y
 have cm:m.av=j.s:=by have y:=AB K.av Z;exact y
 have cn:m.bn=C (j.a.b a.b.bb):=by have y:=AB K.bn Z;exact y
 have d7:m.aw=j.a.d:=by have y:=AB K.aw Z;exact y
 have d8:m.cs=[]:=by have y:=AB K.cs Z;exact(show m.cs=a.b.cs from y).trans (W.j.trans eo)
 have d9:m.bb=ag.bb:=by have y:=AB K.bb Z;exact(show m.bb=a.b.bb from y).trans W.c
 have ea:m.i=ag.i:=by have y:=AB K.i Z;exact(show m.i=a.b.i from y).trans W.a
 have eb:m.ae=[]:=by have y:=AB K.ae Z;exact(show m.ae=a.b.ae from y).trans (W.e.trans c6)
 have d5:m.ah=[]:=by have y:=AB K.ah Z;exact(show m.ah=a.b.ah from y).trans (W.b.trans c8)
 have d6:m.ax.length=1:=by have y:=AB K.ax Z;rw[show m.ax=[j.a.a] from y];rfl
 obtain⟨ba,aa⟩:∃ba,({cj with z:=fy}:AR)=ba:=⟨_,A⟩;have ds:D0.e (G+3000) ba.b (Bx m):=by
  rw[<-aa,al];show D0.e (G+3000) a2 ⟨m.aa,m.aq,m.av,m.bn⟩;rw[bp,br,cm,cn];exact D0.e.nC cg Y
 have fv:=bh.b;have dg:=hQ M l (G+3000) ba f a m (O E 0 0) bc bk e1 (by have:=bh.a;omega) (λb b3=>fv b (J' _ b3)) ds (by rw[bp,br];exact e0);have ei:=Ap cx;rw[aa];clear cx bh de df b7 b9 dr;refine L ?_;refine F'.mk 3 A (EY.b (L ?_));refine A9.u dg ?_;rintro v an ⟨f7,dt,rfl⟩;refine L ?_;have dv:(m.ic a.a a.c).aw=j.a.d:=d7;rw[dv];refine A7 ?_;obtain⟨q,af⟩:∃q,({ba with b:=f7}:AR)=q:=⟨_,A⟩;obtain⟨U,ah⟩:∃U,({m.ic a.a a.c with ap:=j.a.d}:K)=U:=⟨_,A⟩;have a3:j.c a=U:=by unfold G5.c;rw[ei.out];exact ah
 have a4:j.f a={U with u:=U.u+G' U a.a 70}:=by unfold G5.f;rw[a3]
 have bo:j.g a=E4 U a.a 70:=by unfold G5.g;rw[a3]
 have cs:B2 (G+2550) bc U:=by rw[<-ah];exact bx
 rw[a3] at b8;obtain⟨ax,cv⟩:∃bn,A2 (BX 3 CC f.b a.c f.f)=bn:=⟨_,A⟩;obtain⟨ay,cw⟩:∃bn,A2 (BX 3 CC f.e a.d f.j)=bn:=⟨_,A⟩;have c3:=c9 M l (G+2550) q f a U (O E 0 0) bc cs Y bk.nA b8 ax ay;rw[cv,cw];refine A9.w (a:=.t M (f.i l a (O E 0 0)) 323::.o f.c (AM f.a f.d)::.u ax::.u ay::q.a l U bc) ?_ ?_
 ·rw[<-af,<-ah];exact AQ.b
 refine A9.z c3 ?_;rintro v an ⟨n,ar,cl,a1,ao,bi,dj,dl,cr,rfl,rfl⟩;have gr:n.length<=12:=by rw[bi.length_eq];exact b8.a
 obtain⟨x,ai⟩:∃x,({U with u:=U.u+G' U a.a 70}:K)=x:=⟨_,A⟩;rw[ai] at a4;have ct:B2 (G+3750) ao x:=by rw[<-ai];exact cr
 have dd:∀bl∈n,K.fx (G+3750) x bl:=λbl bj=>by
  have a6:=e3 bl (by rw[bo];exact bi.mem_iff.1 bj);rw[a4] at a6;exact EvOk.a a6 Y
 have c2:BB (G+3750) q x ao:=by
  refine⟨?_,?_,ct⟩
  ·rw[<-a4];exact e2.nE Y
  ·obtain⟨fz,f0,f1,f2,f3,f4,f5⟩:=cc;have fn:x.cs=[]:=by rw[<-ai,<-ah];exact d8
   have ez:x.bb=GV q x.i/\∀v∈H0 q x.i,v<=100000:=by
    rw[<-ai,<-ah,<-af,<-aa,al];show m.bb=GV p m.i/\∀v∈H0 p m.i,v<=100000;rw[d9,ea];exact b5
   have fr:q.w.e 1 x.ae.length:=by
    rw[<-ai,<-ah,<-af,<-aa,al];show p.w.e 1 m.ae.length;rw[c5,eb];exact⟨λ_=>A,A,⟨AI 0,Af _⟩,AI 0⟩
   have ex:q.ak.e 8 x.ah.length:=by
    rw[<-ai,<-ah,<-af,<-aa,al];show p.ak.e 8 m.ah.length;rw[c7,d5];exact⟨λ_=>A,A,⟨AI 0,Af _⟩,AI 0⟩
   have ff:q.aa.c 2 x.ax.length/\(q.aa.d=E\/0<x.ax.length):=by
    rw[<-ai,<-ah,<-af,<-aa];show cj.aa.c 2 m.ax.length/\(cj.aa.d=E\/0<m.ax.length);rw[d6];exact⟨fc,Ae Nat.one_pos⟩
   have fb:q.z.c 2 x.bj.length/\(q.z.d=E\/0<x.bj.length):=by
    rw[<-ai,<-ah,<-af,<-aa];exact⟨ca,cb⟩
   have fm:D0.e (G+3750) q.b (Bx x):=by
    rw[<-ai,<-ah,<-af];exact D0.e.nC dt Y
   have fq:UL q x:=by
    have dx:q.ah=#[]:=by rw[<-af,<-aa,al];exact b6.1
    have gy:q.ai=0:=by rw[<-af,<-aa,al];exact b6.2.1
    have d0:q.aj=[]:=by rw[<-af,<-aa,al];exact eq
    refine⟨by rw[dx,d0];rfl,by rw[dx];exact El.b,λfw _=>by rw[d0];rfl,λfw bl bj=>by rw[fn] at bj;cases bj⟩
   refine⟨?_,fm,fr,fb,ff,ex,fq,ez⟩;rw[<-ai,<-ah,<-af,<-aa];exact⟨fz,f0,f1,f2,f3,f4,f5⟩
 have cd:=AAC M l (G+3750) ar cl q x ao [Ah (C f.c),Bm f.b f.g a.c,Bm f.e f.h a.d,O E 0 0] n a1 c2 Y dd Y;obtain⟨f9,gz,dw⟩:=N0 ar cl n;rw[dw] at cd;rw[dw];have bu:=Ap bi;have bv:=Ap dj;have gm:=Ap a3;have ed:=Ap a4;have bt:=Ap bo;clear bi dj a3 a4 bo ah c3 dg dd cc cs bx Z bp br cm cn ca cb dt ds cg cq dv;refine L ?_;refine A9.w (a:=[.o f.c (AM f.a f.d),.u ax,.u ay]++(.t M (f.i l a (O E 0 0)) 323::(q.a l x ao++BX 515 DR ar n a1))) ?_ ?_
 ·refine(AQ.ae (a:=BX 515 DR ar n a1) Y0).t ((AQ.u Cj).t ?_);have ej:q.a l x ao=q.a l U ao:=by rw[<-ai];exact ABz ..
  rw[ej];have ec:([.o f.c (AM f.a f.d),.u ax,.u ay]:S)++(.t M (f.i l a (O E 0 0)) 323::(q.a l U ao++BX 515 DR ar n a1))=([.o f.c (AM f.a f.d),.u ax,.u ay]++(.t M (f.i l a (O E 0 0)) 323::q.a l U ao))++BX 515 DR ar n a1:=(BS ([.o f.c (AM f.a f.d),.u ax,.u ay]:S) (.t M (f.i l a (O E 0 0)) 323::q.a l U ao) (BX 515 DR ar n a1)).symm;rw[ec];refine AQ.ag ?_ _;exact AQ.b
 refine A9.ac cd ?_;rintro v an ⟨am,aw,fs,a0,rfl,rfl⟩;refine L ?_;have a7:=e4 n (by rw[bt.out];exact bu.out) bv.out;have b1:j.w a n=n.foldl K.eo (n.foldl K.ek x):=by unfold G5.w;rw[ed.out]
 obtain⟨az,bs⟩:∃az,n.foldl K.eo (n.foldl K.ek x)=az:=⟨_,A⟩;rw[bs] at a0 b1;rw[bs];have fg:=a0.a.nD;have ce:=m' M l _ am f a az (O E 0 0) aw a0.c bk.nA fg;obtain⟨g8,g1,ga,a8⟩:=Nk az a.a 70;have b2:j.v a n=Fk az a.a 70:=by unfold G5.v;rw[b1]
 obtain⟨aq,cy⟩:∃aq,Fk az a.a 70=aq:=⟨_,A⟩;rw[cy] at ce a8 b2;obtain⟨aj,au⟩:∃aj,({aq with bq:=aq.x}:K)=aj:=⟨_,A⟩;have bd:j.b a n=aj:=by unfold G5.b;rw[b2];exact au
 rw[bd] at a7;have em:BB (G+4000) am aj aw:=by
  refine⟨a7.1.nE Y,?_,?_⟩
  ·refine a0.b.a Y (.a am) (a0.b.b.c ?_) ?_
   ·rw[<-au,a8]
   ·rw[<-au,a8];exact⟨A,A,A,A,A,A,A,A,A,A,A,A,A,A,A,A,A,A⟩
  ·rw[<-au,a8];exact a0.c.a Y
 have du:=Pr l (G+4000) am aj aw em Y;have c1:am.a l aj aw=.t l (am.j aj) 292::(am.a l aq aw).drop 1:=by rw[<-au];rfl
 have cp:am.j aj=Cb (am.j aq) (0+20) (D Au aq.x):=by rw[<-au];rfl
 have bd:=Ap bd;have dn:=fs.d;have dl:q.af=p.af:=by rw[<-af,<-aa,al]
 have fj:Jl p q:=by rw[<-af,<-aa,al];exact⟨A,A,A,A,A,A,A,A,A⟩
 clear au cy b2 b1 bs a8 ai cv cw aa al af c2 ct cr;refine A9.u ce (λv an ch=>?_);subst ch;refine A7 ?_;refine A9.w (a:=[.t M (f.i l a (O E 0 0)) 323]++am.a l aj aw) ?_ ?_
 ·rw[c1,cp];exact AQ.b
 refine A9.ac du ?_;rintro v an ⟨o,t,ft,bf,rfl⟩;obtain⟨r,be⟩:∃r,aj.ce=r:=⟨_,A⟩;rw[be] at bf a7⊢;have dp:=ft.d;have gs:0<=o.af/\o.af<=400000000:=by rw[dp.2,dn.2,dl];exact fa
 have gv:0<=t.a.v/\t.a.v<=400000000:=by
  have d4:=bf.c.i;have gb:=bf.c.g;rw[d4];omega
 have be:=Ap be;clear c1 cp ce du cd;refine L ?_;refine A9.b (Wa o.f o.c o.s t) (L ?_);refine A9.b (Oj o.c t.a) ?_;refine L ?_;refine F'.mk (t.a.v-o.af) (A3 Y) ?_;refine A' ?_;have bg:BB _ (o.an (t.a.v-o.af)) r t:=bf.f _;have fk:Jl o (o.an (t.a.v-o.af)):=⟨A,A,A,A,A,A,A,A,A⟩;have c0:(o.an (t.a.v-o.af)).a l r t=.t l (Cb (o.j r) (0+21) (N (t.a.v-o.af))) 292::(o.a l r t).drop 1:=A;refine A9.w (a:=.t M (f.i l a (O E 0 0)) 323::(o.an (t.a.v-o.af)).a l r t) ?_ ?_
 ·rw[c0];exact AQ.b
 clear c0;have e9:=WR l (o.an (t.a.v-o.af)) r (by have:=bg.a.nD;omega);have fi:=PY l (o.an (t.a.v-o.af)) r;have gp:=St.i bg.a;refine A9.b e9 ?_;refine L ?_;refine A9.u fi ?_;rintro v an ⟨rfl,rfl⟩;refine L ?_;refine F'.mk ((2*r.g.length:B):F) Y4 (L ?_);refine F'.mk ((max r.ec (2*r.g.length):B):F) (by split<;>omega) ?_;have ak:j.e a n=if n.length<max r.ec (2*r.g.length) then r else r.fb:=by
  unfold G5.e;rw[bd.out,be.out]
 have cz:=((fj.a dn.1).a dp.1).a fk;by_cases c4:n.length<max r.ec (2*r.g.length)
 ·have f6:=B7 ((n.length:F)<((max r.ec (2*r.g.length):B):F));rw[A8 c4] at ak;have ak:=Ap ak;refine L ?_;refine⟨_,?_,n,o.an (t.a.v-o.af),t,[Ah (C f.c),Bm f.b f.g a.c,Bm f.e f.h a.d,O E 0 0],by rw[bt.out];exact bu.out,bv.out,cz,by rw[ak.out];exact bg.d Y,A,by rw[ak.out]⟩;exact AQ.b
 ·have f6:=Aa ((n.length:F)<((max r.ec (2*r.g.length):B):F));rw[A1 c4] at ak;have ak:=Ap ak;have fl:=YP l _ (o.an (t.a.v-o.af)) r t bg Y a7.2.1 a7.2.2;refine L ?_;refine A9.w (a:=[.t M (f.i l a (O E 0 0)) 323]++(o.an (t.a.v-o.af)).a l r t) AQ.b (A9.ac fl ?_);rintro v an ⟨f8,d2,fu,ek,rfl,rfl⟩;refine L ?_;exact⟨_,.w _,n,f8,d2,[Ah (C f.c),Bm f.b f.g a.c,Bm f.e f.h a.d,O E 0 0],by rw[bt.out];exact bu.out,bv.out,cz.a fu.d.1,by rw[ak.out];exact ek.d Y,A,by rw[ak.out];rfl⟩
def ET(a:A6)(f:G D4)(l m j:B):K:=(K.nk 128 a.d a.a 70 a.h f l m j).ii 0 (C 0,C 0) [] 0 0
abbrev MH(a:A6)(n m f l j o:B)(p:F):AR:=(Jt a n m f 0 0 0 0 l j o ⟨0,0,[],0,0,0,0,0,[]⟩).an p
def SB(f:A6)(a:G D4)(l m j:B)(b:B):(ET f a l m j).b b=Cq.e:=K.ib 70 b _
def jO(a:A6)(f:G D4)(l m j:B):(ET a f l m j).ac.length=(a.a+7)/8:=BI
def jP(a:A6)(f:a.e)(t r o q p u:B)(x:F)(m:G D4)(y z n:B)(Y:a.a<=300)(j:1<=a.a):UD (MH a t r o q p u x) (ET a m y z n):=by
 refine⟨λb=>by rw[SB];exact⟨A,A⟩,A,BI,f.nA,A,⟨⟨j,by show a.a<=360;omega⟩,BI,⟨A,A⟩,⟨A,A⟩,⟨A,A⟩,⟨A,A⟩,A,A,A⟩,⟨A,?_⟩,A⟩;intro v l;obtain⟨j,M,N,P,Q,S,U,V,W,L⟩:=f;have l:v=70\/v=a.d\/v=128\/v=a.b\/v=a.f\/v=a.s\/v=a.c\/v=a.i\/v=a.u:=by
  have:v∈([70,a.d,128,a.b,a.f,a.s,a.c,a.i,a.u]:G B):=l;simpa using this
 omega
def jQ(a:A6)(Z:a.e)(n o q z:B)(p:AX)(M:G5)(j:G D4)(m f l:B)(S:C3 z p a.d j m f l)(ay:z+20000<=400000000)(al:Mr j)(am:OQ (z+2000) (Bw (ET a j m f l) 70) M):
 Z9 93 [DA a,P n] (p.b n o q)
  λv ar=>∃x y U W,y.Perm (M.g (Bw (ET a j m f l) 70))/\(y.map Ea).Pairwise (·<=·)/\(∃a2 t r u,Jl (MH a n o q t r u a2) U)/\BB (z+10000) U (M.e (Bw (ET a j m f l) 70) y) W/\v=AL #[P x,Hf]/\ar=U.a x (M.e (Bw (ET a j m f l) 70) y) W:=by
 have ap:1<=a.a/\a.a<=300:=by
  obtain⟨ah,ai,aj,ak,a6,a7,a8,a9,ba,a5⟩:=Z;unfold A6.a;omega
 have ax:=Vg a Z z n o q p a.d j m f l S A;have av:=Uj a Z n;have az:p.a.x=I:=S.e;obtain⟨aa,an⟩:∃aa,Bw (ET a j m f l) 70=aa:=⟨_,A⟩;refine A9.t ?_;intro a4;refine L ?_;refine A9.b ax (L ?_);refine A9.b (IV o p.a) ?_;rw[az];refine L ?_;refine A9.u av ?_;rintro v au ⟨x,u,r,t,rfl,rfl⟩;refine L ?_;intro ag;refine L ?_;intro af;refine L ?_;refine A9.b (Wa n o q p) (L ?_);refine A9.b (Oj o p.a) ?_;refine A7 ?_;have a0:p.a.v=(f:F):=S.i;have bb:=S.g;have ao:=fW af ag x z (MH a n o q t r u f) (ET a j m f l) p M S ay (jP a Z n o q t r u f j m f l ap.2 ap.1) al am (by show 0<=(f:F)/\(f:F)<=400000000;omega);have a1:AZ (Ab (ET a j m f l)) 70=AZ (λ_=>Cl Cq.e) 70:=F4 λb _=>AB Cl (SB a j m f l b);have aw:AR.ag (MH a n o q t r u f) (ET a j m f l) (T E) (T E)=Cb (Fe a n u r t a.a ((a.a+7)/8)) (0+21) (N f):=by
  unfold AR.ag;rw[jO];rfl
 rw[an] at ao⊢;clear am an al;refine A9.w (a:=VX af ag x (MH a n o q t r u f) (ET a j m f l) p) ?_ ?_
 ·show AQ _ (_::_::_::.t x (AR.ag (MH a n o q t r u f) (ET a j m f l) (T E) (T E)) _::.t r (AZ (Ab (ET a j m f l)) 70) _::_);rw[a1,aw,<-a0];have aq:∀Y,AQ Y (.u (A2 [])::Y):=λY=>AQ.aa [] Y;exact((aq _).t (aq _)).t AQ.b
 refine A9.z ao ?_;rintro v au ⟨y,U,W,a3,ah,ai,aj,ak,rfl,rfl⟩;refine L ?_;exact⟨_,AQ.b,x,y,U,W,ah,ai,⟨_,_,_,_,aj⟩,ak,A,A⟩
structure Aj where
 b:B
 c:B
 a:B
 f:B
 d:B
 e:B->G B
def A6.v(a:A6)(f:B):AE:=Ac (a.b<=f)
structure K.el(l:A6)(j:Aj)(a:K):Prop where
 nC:a.i=l.d
 nA:a.t=l.a
 nG:a.bb=l.h
 nM:a.ac=K.dj l.a l.v
 nJ:a.ah=[]
 nL:a.cs=[]
 nS:∀f,f<16->a.ba (l.a+f)=E
 nI:∀f,f<l.a->a.dp f=j.e f
 nF:j.c<=a.cm
 nH:a.bd=j.a
 nK:a.u=j.f
 nB:a.x<=j.d/\a.bq<=j.d
 nO:∀f m,f<a.t->a.ba f=C m->a.dg f=(a.w m.a).b
 nE:a.gd j.d
structure Ki(f:G B):Prop where
 a:f.length=128
 b:∀j∈f,j<256
 c:f.take 4≠[83,76,79,84]
structure Aj.g(a f:Aj)(j:B):Prop where
 nE:f.e=a.e
 nD:f.c=a.c
 nB:f.a=a.a
 nC:f.d=a.d
 nA:f.b<=a.b+j
 nH:a.f<=f.f/\f.f<=a.f+j
def Aj.g.nI(a:Aj):a.g a 0:=⟨A,A,A,A,AI _,AI _,AI _⟩
def Aj.g.nG{j l n:Aj}{o m:B}(a:j.g l o)(f:l.g n m):j.g n (o+m):=
 ⟨f.nE.trans a.nE,f.nD.trans a.nD,f.nB.trans a.nB,f.nC.trans a.nC,by have:=a.nA;have:=f.nA;omega,by have:=a.nH;have:=f.nH;omega⟩
def Aj.g.nF{f j:Aj}{l m:B}(a:f.g j l)(n:l<=m):f.g j m:=⟨a.nE,a.nD,a.nB,a.nC,by have:=a.nA;omega,by have:=a.nH;omega⟩
def Cm(v:B->G B)(j:B)(f:G B):B->G B:=λa=>if a=j then f else v a
structure Aj.h(a f:Aj)(l:B)(j:G B):Prop where
 nE:f.e=Cm a.e l j
 nC:f.c+3=a.c
 nA:a.a<=f.a/\f.a<=a.a+6
 nB:f.d=a.d+3
 nD:f.b<=a.b+1000
 nF:a.f<=f.f/\f.f<=a.f+1000
namespace K
def go(a:K)(b:B):AE:=a.y b !=0&&gp (a.ay ⟨b,0⟩)
def eb(a:K)(b:B):AE:=a.y b !=0&&!gp (a.ay ⟨b,0⟩)
structure lt(f:K)(l:B)(j:DJ):Prop where
 nC:j.d=(AH l).filter λa=>f.y a==0
 nF:j.c=(AH l).filter f.go
 nB:j.a=((AH l).filter f.eb).map λa=>(a,f.cw ⟨a,0⟩)
 nE:j.b.ab=f.ab
 nD:∀a,j.b.b a=if a<l/\f.eb a=R then{f.b a with b:=(f.cw ⟨a,0⟩).f} else f.b a
 nG:j.b.j.length=f.j.length
 nA:f.x<=j.b.x/\∀m,f.x<=m->(∀a,a<l->f.eb a=R->(f.cw ⟨a,0⟩).d<=m)->j.b.x<=m
def lt.nI{o:DJ}(a:lt n l o)(W:l<n.j.length):lt n (l+1) (o.e l):=by
 have P:∀b,o.b.w b=n.w b:=λb=>by unfold K.w;rw[a.nE]
 have Z:o.b.y l=n.y l:=by unfold y;rw[P]
 have Q:o.b.ay ⟨l,0⟩=n.ay ⟨l,0⟩:=by unfold ay;rw[P]
 have V:o.b.cw ⟨l,0⟩=n.cw ⟨l,0⟩:=by unfold cw;rw[Q]
 have G:∀b,b<l+1/\n.eb b=R↔(b<l/\n.eb b=R)\/(b=l/\n.eb b=R):=λb=>by
  constructor
  ·rintro⟨F,f⟩;by_cases j:b=l
   ·exact Ae ⟨j,f⟩
   ·exact AT ⟨Y,f⟩
  ·rintro(⟨F,f⟩|⟨F,f⟩)
   ·exact⟨Y,f⟩
   ·exact⟨Y,f⟩
 unfold DJ.e;rw[Z,Q,V];have N:∀b,b<l+1->n.eb l=I->(b<l+1/\n.eb b=R↔b<l/\n.eb b=R):=λb _ f=>by
  rw[G];constructor
  ·rintro(j|⟨j,U⟩)
   ·exact j
   ·rw[j,f] at U;cases U
  ·exactλj=>AT j
 have M:n.eb l=I->∀b,(if b<l+1/\n.eb b=R then{n.b b with b:=(n.cw ⟨b,0⟩).f} else n.b b)=(if b<l/\n.eb b=R then{n.b b with b:=(n.cw ⟨b,0⟩).f} else n.b b):=λf b=>by
  by_cases j:b<l+1
  ·by_cases m:b<l/\n.eb b=R
   ·rw[A8 m,A8 ((N b j f).2 m)]
   ·rw[A1 m,A1 (λr=>m ((N b j f).1 r))]
  ·rw[A1 (λm=>j m.1),A1 (λm=>Y)]
 split
 ·rename_i f;have p:n.eb l=I:=by unfold eb;rw[f];rfl
  have x:n.go l=I:=by unfold go;rw[f];rfl
  refine⟨?_,?_,?_,a.nE,λb=>?_,a.nG,a.nA.1,λq u t=>a.nA.2 q u λb L=>t b Y⟩
  ·show o.d++[l]=_;rw[a.nC,DO,EO,KO (by rw[f];rfl)];rfl
  ·rw[a.nF,DO,EO,Iq (by rw[x];decide)];simp
  ·rw[a.nB,DO,EO,Iq (by rw[p];decide)];simp
  ·rw[M p];exact a.nD b
 ·rename_i f;have S:(n.y l==0)=I:=by simpa using f
  split
  ·rename_i j;have p:n.eb l=I:=by unfold eb;rw[j];simp
   have x:n.go l=R:=by unfold go;rw[j];simpa using f
   refine⟨?_,?_,?_,a.nE,λb=>?_,a.nG,a.nA.1,λq u t=>a.nA.2 q u λb L=>t b Y⟩
   ·rw[a.nC,DO,EO,Iq (by rw[S];decide)];simp
   ·show o.c++[l]=_;rw[a.nF,DO,EO,KO x];rfl
   ·rw[a.nB,DO,EO,Iq (by rw[p];decide)];simp
   ·rw[M p];exact a.nD b
  ·rename_i j;have p:n.eb l=R:=by unfold eb;simp only[Mp] at j;rw[j];simpa using f
   have x:n.go l=I:=by unfold go;simp only[Mp] at j;rw[j];simp
   refine⟨?_,?_,?_,a.nE,λb=>?_,?_,?_,λq u t=>?_⟩
   ·rw[a.nC,DO,EO,Iq (by rw[S];decide)];simp
   ·rw[a.nF,DO,EO,Iq (by rw[x];decide)];simp
   ·show o.a++[(l,n.cw ⟨l,0⟩)]=_;rw[a.nB,DO,EO,KO p,CU];rfl
   ·have q:(((o.b.hj).ij l (n.cw ⟨l,0⟩)).kt (n.cw ⟨l,0⟩).d).b b=if b=l then{o.b.b l with b:=(n.cw ⟨l,0⟩).f} else o.b.b b:=cz (f:=o.b.j) (by rw[a.nG];exact W) b
    refine Eq.trans q ?_;by_cases m:b=l
    ·rw[A8 m,m,A8 ⟨QI l,p⟩,a.nD l,A1 (λr=>AEq l r.1)]
    ·rw[A1 m,a.nD b];by_cases r:b<l/\n.eb b=R
     ·rw[A8 r,A8 ((G b).2 (AT r))]
     ·rw[A1 r,A1];intro z;rcases(G b).1 z with z|z
      ·exact r z
      ·exact m z.1
   ·show(o.b.j.set _ _).length=_;rw[B_];exact a.nG
   ·show n.x<=max o.b.x _;have:=a.nA.1;omega
   ·have F:=a.nA.2 q u λb L=>t b Y;have b:=t l (QI l) p;show max o.b.x _<=q;omega
def lt.nH{f:K}:∀a,a<=f.j.length->lt f a (Bw f a)
 |0,_=>⟨A,A,A,A,λb=>by rw[A1 (λl=>by have:=l.1;omega)];rfl,A,AI _,λm j _=>j⟩
 |a+1,n=>by rw[MD];exact(lt.nH a Y).nI Y
def vb(a:B)(v:AC (G B)):gp (cn 192 a v)=R:=by
 unfold gp cn;simp
def pj{q:B}(o:n.hc){b:B}(m:(n.b b).a=3)(a:n.y b≠0):n.go b=R/\n.eb b=I:=by
 have f:n.ay ⟨b,0⟩∈(n.w b).a:=by
  unfold ay;have:0<(n.w b).a.length:=by unfold y at a;omega
  rw[AY,Aw this];exact Gk this
 obtain⟨p,v,j,_⟩:=o.nD b m _ f;have l:gp (n.ay ⟨b,0⟩)=R:=by rw[j];exact vb p v
 unfold go eb;rw[l];simpa using a
variable{xz:G (AN×AF)}
def iz(o:ge l n xz){b:B}(r:b<n.j.length)(u:(n.b b).a≠3)(x:n.y b≠0):n.eb b=R/\n.go b=I/\n.ak ⟨b,0⟩/\∃a,fp l n ⟨b,0⟩ a/\n.cw ⟨b,0⟩=a/\((n.b b).a=1/\a.b=1\/(n.b b).a=2/\(a.b=3\/a.b=4)):=by
 have p:n.ak ⟨b,0⟩:=⟨r,by show 0<n.y b;omega,u⟩;have t:∃a,fp l n ⟨b,0⟩ a/\((n.b b).a=1/\a.b=1\/(n.b b).a=2/\(a.b=3\/a.b=4)):=by
  rcases o.nD _ p with⟨⟨a,f,j⟩,m,_⟩|⟨a,f⟩
  ·exact⟨a,f,Ae ⟨m,j⟩⟩
  ·obtain⟨_,j,m,q,_⟩:=o.nA _ f;exact⟨a,j,AT ⟨m,q⟩⟩
 obtain⟨a,f,j⟩:=t;refine⟨?_,?_,p,a,f,by unfold cw;rw[f.nE],j⟩
 ·unfold eb;rw[f.nD];simpa using x
 ·unfold go;rw[f.nD];simp
end K
namespace K
structure bw(f:A6)(j l:B)(a:K)(m:G (AN×AF))(n:dc):Prop where
 oB:f.e
 nB:ad l a
 nA:dh j a m (C n) a.aw a.bf a.ae
 n9:jf a m n
 n6:a.i=f.d
 nF:a.t=f.a
 nL:a.bb=f.h
 oA:a.x<=j
 nH:j<=l
 nN:l<=300000000
 n0:3<=a.au
 nS:f.a<=300
abbrev eg(c:A6)(s:K):K:=ET c s.ab s.bd s.u s.bv
abbrev bx(c:A6)(s:K):DJ:=Bw (eg c s) 70
def jl(c:A6)(s:K):lt (eg c s) 70 (bx c s):=lt.nH 70 (by show 70<=(U 70 Cq.e).length;rw[BI];exact AI _)
def uh(c:A6)(s:K)(b:B):(eg c s).b b=Cq.e:=SB c s.ab s.bd s.u s.bv b
section
variable{c:A6}{e a:B}{s:K}{lg:G (AN×AF)}{d:dc}
def bw.nC(f:bw c e a s lg d):s.j.length=70:=f.nB.nC
def bw.nU(j:bw c e a s lg d){b:B}(n:b<70):s.go b=R↔(s.b b).a=3/\s.y b≠0:=by
 constructor
 ·intro f;have m:s.y b≠0:=by unfold K.go at f;simp at f;exact f.1
  refine⟨?_,m⟩;rcases Nat.decEq (s.b b).a 3 with l|l
  ·have:=(iz j.nA.nA.nA (by rw[j.nC];exact n) l m).2.1;rw[f] at this;cases this
  ·exact l
 ·exactλf=>(pj (q:=0) j.nA.nA.nC f.1 f.2).1
def bw.nG(j:bw c e a s lg d){b:B}(m:b<70):s.eb b=R↔(s.b b).a≠3/\s.y b≠0:=by
 constructor
 ·intro f;have l:s.y b≠0:=by unfold K.eb at f;simp at f;exact f.1
  refine⟨λn=>?_,l⟩;have:=(pj (q:=0) j.nA.nA.nC n l).2;rw[f] at this;cases this
 ·exactλf=>(iz j.nA.nA.nA (by rw[j.nC];exact m) f.1 f.2).1
def bw.nD(l:bw c e a s lg d)(b:B):b∈(bx c s).c↔b<70/\(s.b b).a=3/\s.y b≠0:=by
 rw[(jl c s).nF,CF,Ce];constructor
 ·rintro⟨f,j⟩;exact⟨f,(l.nU f).1 j⟩
 ·rintro⟨f,j⟩;exact⟨f,(l.nU f).2 j⟩
def bw.nJ(l:bw c e a s lg d)(b:B):b∈(bx c s).d↔b<70/\s.y b=0:=by
 rw[(jl c s).nC,CF,Ce];constructor
 ·rintro⟨f,j⟩;exact⟨f,eq_of_beq j⟩
 ·rintro⟨f,j⟩;exact⟨f,F1.2 j⟩
def bw.nE(m:bw c e a s lg d):∃f,s.aq=C f/\f∈s.aa/\f<70/\(s.b f).a=3/\s.y f≠0/\(s.w f).a.getLast?=C (cn 192 s.av (C (d.nD s.bb)))/\s.bn=C (d.nD s.bb)/\hl (C (d.nD s.bb)):=by
 have j:=m.nA.nA.nF d A;obtain⟨b,n,l⟩:=j.nD;have o:=j.nA.nA b n;obtain⟨p,q⟩:=m.nB.nA.nB b o;refine⟨b,n,o,by rw[<-m.nC];exact p,q,?_,l,j.nC.1,j.nC.2⟩;intro r;have:(s.w b).a=[]:=KN r;rw[this] at l;cases l
def bw.nK(f:bw c e a s lg d):Qk (bx c s).c (bx c s).d:=by
 obtain⟨p,_,_,j,x,y,_⟩:=f.nE;have n:=jl c s;have t:p∈(bx c s).c:=(f.nD p).2 ⟨j,x,y⟩;have q:(bx c s).c.Nodup:=by rw[n.nF];exact List.nodup_range.filter _
 have z:(bx c s).d.Nodup:=by rw[n.nC];exact List.nodup_range.filter _
 refine⟨⟨AE1 t,?_⟩,⟨?_,?_⟩,?_,λb j=>?_⟩
 ·refine D9 (Md q (l₂:=s.aa) λb j=>?_) f.nB.nK.2.2;obtain⟨m,l,_⟩:=(f.nD b).1 j;exact f.nA.nA.nC.nE b m l
 ·have:s.au<=(bx c s).d.length:=by
   unfold au;refine Md (List.nodup_range.filter _) λb j=>?_;obtain⟨m,l⟩:=CF.1 j;rw[Ce,f.nC] at m;unfold ar at l;simp at l;exact(f.nJ b).2 ⟨m,l.1.1⟩
  have:=f.n0;omega
 ·have:=Ez (λb=>(eg c s).y b==0) (AH 70);rw[Dj,<-n.nC] at this;exact this
 ·rw[ID];refine⟨q,z,λr u b j e=>?_⟩;have:=((f.nD r).1 u).2.2;rw[e] at this;exact this ((f.nJ b).1 j).2
 ·rcases Bs.1 j with o|o
  ·exact((f.nD b).1 o).1
  ·exact((f.nJ b).1 o).1
noncomputable def gs(s:K):J4:=λb=>if(s.w b).a=[] then E else if s.aq=C b then C (s.av,s.bn) else
 @dite (AC (B×AC (G B))) (∃a:B×AC (G B),(s.w b).a.getLast?=C (cn 192 a.1 a.2)/\a.1<s.av/\hl a.2) (Classical.propDecidable _) (λf=>C f.choose) (λ_=>E)
def sg{b:B}(a:(s.w b).a=[]):gs s b=E:=by unfold gs;rw[A8 a]
def bw.nQ(u:bw c e a s lg d){b:B}(x:(s.b b).a=3)(z:s.y b≠0)(p:s.aq≠C b):∃f,gs s b=C f/\(s.w b).a.getLast?=C (cn 192 f.1 f.2)/\f.1<s.av/\hl f.2:=by
 have o:(s.w b).a≠[]:=λm=>z (by unfold y;rw[m];rfl);obtain⟨j,n⟩:∃j,(s.w b).a.getLast?=C j:=⟨_,TS o⟩;have l:∃f:B×AC (G B),(s.w b).a.getLast?=C (cn 192 f.1 f.2)/\f.1<s.av/\hl f.2:=by
  obtain⟨m,v,q,r,t⟩:=u.nA.nA.nC.nF b x p j n;exact⟨(m,v),by rw[n,q],r,t⟩
 refine⟨l.choose,?_,l.choose_spec⟩;unfold gs;rw[A1 o,A1 p];exact dif_pos l
def bw.nP(n:bw c e a s lg d){b:B}(f:s.y b≠0)(l:s.aq=C b):gs s b=C (s.av,s.bn):=by
 have j:(s.w b).a≠[]:=λm=>f (by unfold y;rw[m];rfl);unfold gs;rw[A1 j,A8 l]
abbrev gi(c:A6)(s:K):G B:=(Cg (bx c s).c (bx c s).d 3).mergeSort
def bw.nM(l:bw c e a s lg d){b:B}(m:b∈gi c s):b<70/\((s.b b).a=3/\s.y b≠0\/s.y b=0):=by
 rw[KS] at m;rcases Bs.1 m with j|j
 ·obtain⟨f,b,n⟩:=(l.nD _).1 j;exact⟨f,AT ⟨b,n⟩⟩
 ·obtain⟨f,b⟩:=(l.nJ _).1 (EW j);exact⟨f,Ae b⟩
def bw.nR(j:bw c e a s lg d){b:B}(f:b∈(bx c s).c):b∈gi c s:=by
 rw[KS];exact J' _ f
def bw.n7(j:bw c e a s lg d):Lu a s.ab (gs s) (gi c s):=by
 refine⟨λb p n=>?_,λb p M m=>?_⟩
 ·obtain⟨x,f|f⟩:=j.nM p
  ·by_cases l:s.aq=C b
   ·rw[j.nP f.2 l] at n;cases n
   ·obtain⟨M,N,_⟩:=j.nQ f.1 f.2 l;rw[N] at n;cases n
  ·exact KN f
 ·obtain⟨x,f|f⟩:=j.nM p
  ·have q:∀o,(s.w b).a.getLast?=C o->(s.w b).a[(s.w b).a.length-1]?=C o:=λo z=>by rw[<-List.getLast?_eq_getElem?];exact z
   have t:(s.w b).a.length=(s.w b).a.length-1+1:=by have:=f.2;unfold y at this;omega
   have r:(s.w b).a.length-1<=1000:=by
    have:=j.nA.nA.nC.nB b f.1;have:=j.nB.nD;omega
   have B:=j.nB.nX;by_cases l:s.aq=C b
   ·rw[j.nP f.2 l] at m;cases m;obtain⟨Z,F,_,_,_,_,G,u,L⟩:=j.nE;rw[F] at l;cases l;exact⟨_,r,t,q _ (by rw[u];exact G),B,by rw[u];exact L⟩
   ·obtain⟨aa,S,U,af,W⟩:=j.nQ f.1 f.2 l;rw[S] at m;cases m;exact⟨_,r,t,q _ U,Y,W⟩
  ·rw[sg (KN f)] at m;cases m
def nj{m:J4}{j l:B}{v:AC (G B)}(u:m j=C (l,v)):∀(r:G B)(o:Mq),(∀b∈r,b≠j->∀n,m b=C n->n.1<l)->(o=E\/∃p,o=C p/\(p.2.1<l\/p=(j,l,v)))->(j∈r\/o=C (j,l,v))->r.foldl (Ch m) o=C (j,l,v)
 |[],o,_,_,a=>by
  rcases a with a|a
  ·cases a
  ·exact a
 |b::r,o,L,f,a=>by
  rw[DN];have M:∀b∈r,b≠j->∀n,m b=C n->n.1<l:=λb t=>L b (By _ t);by_cases z:b=j
  ·have e:Ch m o b=C (j,l,v):=by
    rw[z];unfold Ch;rw[u];rcases f with f|⟨p,f,q⟩
    ·rw[f]
    ·rw[f];dsimp only;rcases q with q|q
     ·rw[A8 q]
     ·rw[q];dsimp only;split<;>rfl
   rw[e];exact nj u r _ M (Ae ⟨_,A,Ae A⟩) (Ae A)
  ·have t:=L b (Bt ..) z;have N:Ch m o b=E\/∃p,Ch m o b=C p/\(p.2.1<l\/p=(j,l,v)):=by
    unfold Ch;cases x:m b with
    |none=>exact f
    |some n=>
     have y:=t n x;dsimp only;rcases f with f|⟨p,f,q⟩
     ·rw[f];exact Ae ⟨_,A,AT y⟩
     ·rw[f];dsimp only;split
      ·exact Ae ⟨_,A,AT y⟩
      ·exact Ae ⟨_,A,q⟩
   refine nj u r _ M N ?_;rcases a with a|a
   ·rcases C2.1 a with F|F
    ·exact CV F.symm z
    ·exact AT F
   ·right;rw[a];unfold Ch;cases x:m b with
    |none=>rfl
    |some n=>
     have y:=t n x;dsimp only;rw[A1 Y]
def bw.nY(f:bw c e a s lg d){n:B}(m:s.aq=C n):(gi c s).foldl (Ch (gs s)) E=C (n,s.av,s.bn):=by
 obtain⟨b,o,_,t,u,p,_⟩:=f.nE;rw[m] at o;cases o;refine nj (f.nP p m) _ _ (λz q r G l=>?_) (AT A) (AT (f.nR ((f.nD _).2 ⟨t,u,p⟩)));obtain⟨F,j|j⟩:=f.nM q
 ·obtain⟨L,x,_,y,_⟩:=f.nQ j.1 j.2 (by rw[m];intro e;cases e;exact r A);rw[x] at l;cases l;exact y
 ·rw[sg (KN j)] at l;cases l
end
end K
namespace K
def ul(a:G B):((a.map λv=>AS v 4).flatten).length=4*a.length:=by
 induction a with
 |nil=>rfl
 |cons j a f=>rw[Ee,Ze,Ad,BK,f,C8];omega
def qo:∀(f j:G B)(a:B),a<f.length->f.getD a 0<256^4->Az (((f.map λv=>AS v 4).flatten++j).drop (4*a)) 4=f.getD a 0
 |[],j,a,l,_=>by cases l
 |o::f,j,0,_,l=>by
  rw[Ee,Ze,Nat.mul_zero,CJ,BS,M7 (BK _ _),Jw];exact Ja l
 |o::f,j,a+1,l,m=>by
  have n:=qo f j a (by rw[C8] at l;omega) m;rw[Ee,Ze,BS,Fw (BK _ _) Y,show 4*(a+1)-4=4*a by omega];exact n
def qb(a:G B):(fu a).length=8+4*a.length:=by
 unfold fu;rw[Ad,Ad,BK,BK,ul];omega
def sj{l:AN}{a j:G B}(n:(fu a++j).length<=128)(o:∀f,f<a.length->a.getD f 0<=262144)(p:a.length<256):
 (l.e (fu a++j) 128).length=192/\(l.e (fu a++j) 128).drop 128=l.g/\Az (l.e (fu a++j) 128) 4=1346456915/\Az ((l.e (fu a++j) 128).drop 4) 4=a.length/\(∀f,f<a.length->F3 (l.e (fu a++j) 128) f=a.getD f 0)/\((l.e (fu a++j) 128).drop (8+4*a.length)).take j.length=j:=by
 refine⟨l.j n,l.s n,?_,?_,λf m=>?_,?_⟩
 ·unfold AN.e fu;rw[BS,BS,M7 (BK _ _),Jw]
 ·unfold AN.e fu;rw[BS,BS,Fw (BK _ _) Y,OE,CJ,BS,M7 (BK _ _),Jw,Ja (by
   have:(256:B)^4=4294967296:=Z;omega)]
 ·unfold F3 AN.e fu;rw[BS,BS,Fw (BK _ _) Y,BS,Fw (BK _ _) Y,show 8+4*f-4-4=4*f by omega];exact qo a _ f m (by
   have:=o f m;have:(256:B)^4=4294967296:=Z;omega)
 ·unfold AN.e;rw[BS,Fw (qb a) Y,OE,CJ,C_ A]
noncomputable def dd(c:A6)(s:K)(d:dc):G5:=⟨gs s,gi c s,s.aq.getD 0,s.av,⟨d.nA,d.nE,d.o,d.nB⟩,s.ay d.nB⟩
structure ko(m:A6)(n:B)(f:K)(l:dc)(a:K):Prop where
 nE:a.ab=f.ab
 nB:a.aj=128
 nT:a.i=f.i
 nC:a.t=f.t
 nA:a.g=l.nC
 nP:a.ac=f.ac
 nO:a.bb=f.bb
 nI:a.h=U ((f.t+15)/32+1) E
 nK:∀j,j<70->a.b j=if(f.b j).a≠3/\f.y j≠0 then{Cq.e with b:=1} else Cq.e
 nR:a.j.length=70
 n6:a.bh=E
 nU:a.bg=E
 nL:a.br=E
 nY:a.aa=gi m f
 nJ:a.aq=f.aq
 n0:a.av=f.av
 n1:a.bn=f.bn
 n7:a.aw=l.nA
 nV:a.bf=l.o
 n4:a.ae=[]
 nW:a.ct=0
 n5:a.bi=0
 nN:a.ah=[]
 n8:a.bj=[]
 nS:a.ax=[l.nB]
 n2:a.cs=[]
 nM:a.an=0
 n9:a.ap=0
 nQ:a.x<=n
 n3:a.bq=0
 nX:a.bd=f.bd
 nZ:f.u<=a.u/\a.u<=f.u+74
def rf(s:K):∀a,s.u<=(Bw s a).b.u
 |0=>AI _
 |a+1=>by
  have f:=rf s a;rw[MD];unfold DJ.e;split
  ·exact f
  split
  ·exact AEp f
  ·exact AEp f
section
variable{c:A6}{e a:B}{s:K}{lg:G (AN×AF)}{d:dc}
def bw.nV(l:bw c e a s lg d):∃f:AN,f.i/\f.b=4/\f.c=0/\s.ay d.nB=f.e (fu d.nC++s.ac) 128/\(fu d.nC++s.ac).length<=128/\d.nC.length=(s.t+15)/32+1/\d.nC.length<256/\(∀j,j<d.nC.length->d.nC.getD j 0<=262144):=by
 have m:=l.nA.nA.nB d A;obtain⟨f,o,p,q,r⟩:=m.nG;have n:=m.nA.nA;have y:=l.nF;have z:=l.nS;have t:=l.nB.nL;refine⟨f,o,p,q,r,by rw[Ad,qb,n,t];omega,n,Y,λj u=>?_⟩;by_cases x:d.nC.getD j 0=0
 ·omega
 ·exact(m.nA.nB j u x).1
def bw.nT(l:bw c e a s lg d):ko c e s d ((dd c s d).j (bx c s)):=by
 have p:=jl c s;have N:=l.nA.nA.nB d A;have j:=NQ (eg c s) 70;obtain⟨f,o⟩:∃f,Bw (eg c s) 70=f:=⟨_,A⟩;have B:bx c s=f:=o;rw[o] at j;have z:=OU.b (j:=eg c s) (by show(U 70 Cq.e).length=70;exact BI) 70;have y:OU (eg c s) 70 f:=by rw[<-o];exact z
 clear z;rw[B] at p⊢;obtain⟨aj,a0,a1,a2,ak,al,F,am,an⟩:=l.nV;obtain⟨ao,ap,aq,ar,G,L⟩:=sj (l:=aj) al an am;rw[<-ak] at ao ap aq ar G L;have q:f.b.g.length=(s.t+15)/32+1:=by
  rw[show f.b.g=(eg c s).g from(AB K.g j:),l.nF];exact BI
 have W:f.b.ac.length=s.ac.length:=by
  rw[show f.b.ac=(eg c s).ac from(AB K.ac j:),l.nB.nL,l.nF];exact BI
 have ay:f.b.x<=e:=p.nA.2 e (Af _) λb n m=>by
  obtain⟨aa,af⟩:=(l.nG n).1 m;obtain⟨_,_,_,u,r,t,_⟩:=iz l.nA.nA.nA (by rw[l.nC];exact n) aa af;have:(eg c s).cw ⟨b,0⟩=u:=t;rw[this];exact r.nA
 have S:∀b,b<70->f.b.b b=if(s.b b).a≠3/\s.y b≠0 then{Cq.e with b:=1} else Cq.e:=λb n=>by
  rw[p.nD b,uh];by_cases m:(s.b b).a≠3/\s.y b≠0
  ·rw[A8 m,A8 ⟨n,(l.nG n).2 m⟩];obtain⟨_,_,_,u,r,t,_⟩:=iz l.nA.nA.nA (by rw[l.nC];exact n) m.1 m.2;have:(eg c s).cw ⟨b,0⟩=u:=t;rw[this,r.nG]
  ·rw[A1 m,A1 (λai=>m ((l.nG n).1 ai.2))]
 have ax:Fv (gs s) (gi c s)<=3:=by
  refine D9 (Ez _ _) ?_;rw[List.length_mergeSort,Cg,Ad,Ci];have:=l.nK.a;omega
 have az:(dd c s d).a.c<=e:=N.nD;have Y:(eg c s).u<=f.b.u:=by rw[<-o];exact rf (eg c s) 70
 clear o p B;refine⟨(AB K.ab j:),(AB K.aj j:),?_,?_,?_,?_,?_,?_,S,y.a,(AB K.bh j:),(AB K.bg j:),(AB K.br j:),A,?_,A,?_,A,A,(AB K.ae j:),(AB K.ct j:),(AB K.bi j:),(AB K.ah j:),(AB K.bj j:),A,(AB K.cs j:),A,(AB K.ap j:),?_,(AB K.bq j:),(AB K.bd j:),?_⟩
 ·rw[l.n6];exact(AB K.i j:)
 ·rw[l.nF];exact(AB K.t j:)
 ·show(AH f.b.g.length).map (F3 (s.ay d.nB))=d.nC;refine List.ext_getElem (by rw[BW,Dj,q,F]) λZ aw x=>?_;rw[List.getElem_map,List.getElem_range,G Z x,AY,Aw x];rfl
 ·show((s.ay d.nB).drop (8+4*f.b.g.length)).take f.b.ac.length=s.ac;rw[q,W,<-F];exact L
 ·rw[l.nL];exact(AB K.bb j:)
 ·show U f.b.g.length E=_;rw[q]
 ·obtain⟨M,ag,_⟩:=l.nE;show C (s.aq.getD 0)=s.aq;rw[ag];rfl
 ·obtain⟨M,_,_,_,_,_,_,ah,_⟩:=l.nE;rw[ah];show C ((⟨d.nA,d.nE,d.o,d.nB⟩:HM).b f.b.bb)=_;rw[show f.b.bb=c.h from(AB K.bb j:),l.nL];rfl
 ·show max f.b.x (dd c s d).a.c<=e;omega
 ·show s.u<=f.b.u+Fv (gs s) (gi c s)+1/\f.b.u+Fv (gs s) (gi c s)+1<=_;have au:=y.g;have b:(eg c s).u=s.u:=A;have av:s.u<=f.b.u:=Y;omega
end
end K
namespace K
def lv{m:Type}(a:K->m)(l:∀(s:K)(f:AF),a (s.ai f)=a s):∀(j:G AF)(s:K),a (j.foldl ai s)=a s
 |[],s=>A
 |f::j,s=>(lv a l j (s.ai f)).trans (l s f)
def nf:∀(a:G AF)(s:K),s.j.length=70->(∀f∈a,f.a<70)->∀b,((a.foldl ai s).b b).a=(s.b b).a/\((a.foldl ai s).b b).b=(s.b b).b/\((a.foldl ai s).b b).c=(s.b b).c/\((a.foldl ai s).b b).f=(s.b b).f/\(s.b b).d<=((a.foldl ai s).b b).d/\((a.foldl ai s).b b).d<=(s.b b).d+a.length
 |[],s,_,_,b=>⟨A,A,A,A,Int.le_refl _,Y1⟩
 |f::a,s,r,t,b=>by
  have x:=t f (Bt ..);obtain⟨n,o,p,q,j,m⟩:=nf a (s.ai f) (by show(s.j.set _ _).length=_;rw[B_];exact r) (λl y=>t l (By _ y)) b;have e:(s.ai f).b b=if b=f.a then{s.b f.a with d:=(s.b f.a).d+1} else s.b b:=ji (n:=s) (λu=>{u with d:=u.d+1}) (by rw[r];exact x) b
  rw[DN];rw[e] at n o p q j m;rw[n,o,p,q];rw[C8];by_cases l:b=f.a
  ·rw[A8 l] at j m⊢;rw[l];rw[l] at j m;dsimp only at j m⊢;exact⟨A,A,A,A,Y,Y⟩
  ·rw[A1 l] at j m⊢;exact⟨A,A,A,A,j,Y⟩
def rt{s:K}{a:B}{j:CG}(f:s.h.getD a E=C j):(s.am a).u=s.u:=by
 unfold am;dsimp only;rw[f]
def py{s:K}(q:s.dz):∀a,a<=s.v->(s.ej a).u<=s.u+(a+31)/32/\s.u<=(s.ej a).u/\(0<a->∃l,(s.ej a).h.getD ((a-1)/32) E=C l)
 |0,_=>⟨by show s.u<=_;omega,AI _,λG=>Y⟩
 |a+1,z=>by
  obtain⟨y,x,r⟩:=py q a Y;have m:=ls.nD q a Y;have B:(s.ej a).t=s.t:=by have:=AB K.t m.nB;exact this
  have t:a<(s.ej a).v:=by unfold K.v at z⊢;rw[B];omega
  obtain⟨L,p,M⟩:=m.nA.nJ t;have o:=m.nA.nC;rw[nq];obtain⟨f,F⟩:∃f,s.ej a=f:=⟨_,A⟩;rw[F] at y x r p o t⊢;have u:(f.hy a).h=(f.be a).2.h/\(f.hy a).u=(f.be a).2.u:=by
   unfold hy nd;split<;>exact⟨A,A⟩
  rw[u.1,u.2];have n:(f.be a).2=f.am (a/32):=by
   have:(f.be a).2=f.am (a/f.ao):=A;rw[this,o]
  have N:=lf f (a/32);refine⟨?_,by rw[n];omega,λ_=>?_⟩
  ·by_cases G:a%32=0
   ·rw[n];omega
   ·obtain⟨l,j⟩:=r Y;have e:(a-1)/32=a/32:=Y;rw[e] at j;rw[n,rt j];omega
  ·obtain⟨l,j,_⟩:=p.nE;exact⟨l,by rw[show a+1-1=a by omega];exact j⟩
structure fe(p:B)(n:A6)(o:B)(f:K)(l:dc)(a:K):Prop where
 nI:a.ab=f.ab
 nE:a.aj=128
 nH:a.i=f.i
 nB:a.t=f.t
 nK:a.g=l.nC
 nL:a.ac=f.ac
 nV:a.bb=f.bb
 nC:∀j,j<70->(a.b j).a=if f.y j≠0 then(f.b j).a else 0
 nP:∀j,j<70->(a.b j).b=if(f.b j).a≠3/\f.y j≠0 then 1 else 0
 nU:∀j,j<70->(0<=(a.b j).c/\(a.b j).c<=316)/\(0<=(a.b j).d/\(a.b j).d<=30)/\(a.b j).f=0/\(f.y j=0->(a.b j).c=0/\(a.b j).d=0)
 nA:a.j.length=70
 nO:a.bh=E
 nM:a.bg=E
 nJ:a.br=E
 n1:a.aa=(gi n f).filter (FL (bx n f).c f.aq)
 oH:a.aq=f.aq
 n2:a.av=f.av
 oJ:a.bn=f.bn
 nT:a.aw=l.nA
 nZ:a.bf=l.o
 n3:a.ae=[]
 oE:a.ct=0
 oN:a.bi=0
 nQ:a.ah=[]
 nX:a.bj.length<=12/\∀q∈a.bj,f.ak q
 nY:a.ax=[l.nB]
 oK:a.cs=[]
 n4:a.an<=316
 nS:a.ap=l.nA
 nW:a.x<=o
 oM:a.bq=0
 oF:a.bd=f.bd
 oI:f.u<=a.u/\a.u<=f.u+p
 nG:a.dz
 n5:a.ha
 n7:∀m,a.df m=I
 oG:∀m,m<l.nC.length->a.az m=f.en l.nC m
section
variable{c:A6}{e a:B}{s:K}{lg:G (AN×AF)}{d:dc}
def ko.nF{l:K}(f:ko c e s d l)(n:bw c e a s lg d)(m:B):l.cq m=s.en d.nC m:=by
 have o:∀j,l.ay j=s.ay j:=λj=>by unfold ay K.w;rw[f.nE]
 unfold K.cq en;rw[f.nA,f.nB,n.nB.nB,o]
def ko.nG{f:K}(j:ko c e s d f)(a:B):f.h.getD a E=E:=by rw[j.nI];exact ib _ a _
def ko.nD{l:K}(j:ko c e s d l)(m:bw c e a s lg d)(f:B):l.az f=s.en d.nC f:=by
 unfold K.az;rw[j.nG f];exact j.nF m f
def qa(j:bw c e a s lg d){f:B}(q:f<d.nC.length):(s.en d.nC f).length=128/\∀l∈s.en d.nC f,l<256:=by
 have p:=j.nA.nA.nB d A;have n:=j.nB.nB;unfold en;split
 ·exact⟨by rw[BI];exact n,λl o=>by rw[FX] at o;omega⟩
 ·rename_i u;obtain⟨_,r⟩:=p.nA.nB f q u;have t:(s.ay (DE (d.nC.getD f 0))).length=192:=by
   have m:=r.2.1;unfold y at m;unfold ay;rw[AY,Aw m];have:=j.nB.nA.nA.nD _ _ _ (Aw m);rw[n] at this;exact this
  refine⟨by rw[Ci,t,n];rfl,λl o=>ow j.nB _ l (EW o)⟩
def ko.nH{p:K}(f:ko c e s d p)(l:bw c e a s lg d):p.dz:=by
 have o:=l.nA.nA.nB d A;have r:=o.nA.nA;have u:p.ao=32:=by unfold ao;rw[f.nB]
 have t:p.v=s.v:=by unfold K.v;rw[f.nC]
 have F:∀b,p.w b=s.w b:=λb=>by unfold K.w;rw[f.nE]
 refine⟨⟨by rw[f.nB],by rw[f.nB];omega,by rw[f.nI,BI,f.nA,r],by rw[t,f.nA,r,u];unfold K.v;omega,λm P G=>?_,λm j=>by rw[f.nF l,f.nB];rw[f.nA] at j;exact(qa l j).1⟩,f.nB,by rw[f.nC];exact l.nB.nF,f.nR,by rw[f.nA,f.nC];exact r,λm j=>by rw[f.nD l];rw[f.nA] at j;exact(qa l j).2,λm j L z=>by rw[f.nD l];rw[f.nA] at j;exact o.nA.nF m j L z,λm j=>?_,λm j q=>?_,λM B N n=>?_⟩
 ·have:=f.nG m;rw[AY,G] at this;cases this
 ·rw[f.nA] at j⊢;by_cases q:d.nC.getD m 0=0
  ·omega
  ·exact(o.nA.nB m j q).1
 ·rw[f.nA] at j q⊢;obtain⟨_,x⟩:=o.nA.nB m j q;rw[F];have n:=x.2.1;unfold y at n;refine⟨by have:=x.1;rw[l.nC] at this;exact this,_,Aw n,?_,?_⟩
  ·have:=l.nB.nA.nA.nD _ _ _ (Aw n);rw[l.nB.nB] at this;exact this
  ·exact l.nB.nN _ _ _ (Aw n)
 ·rw[jz u,f.nD l] at n;have:=(o.nA.nC M (by rw[<-t];exact B) N n).1.1;rw[l.nC] at this;exact this
def nu(o:bw c e a s lg d){b:B}(l:b<70):BC (bx c s).a b=if(s.b b).a≠3/\s.y b≠0 then C (s.cw ⟨b,0⟩) else E:=by
 have j:=jl c s;obtain⟨f,r⟩:∃f,bx c s=f:=⟨_,A⟩;rw[r] at j⊢;have t:(f.a.map (·.1)).Nodup:=by
  rw[j.nB,Iu];have:(HI ((λq:B×AN=>q.1)∘λb=>(b,(eg c s).cw ⟨b,0⟩)) ((AH 70).filter (eg c s).eb))=(AH 70).filter (eg c s).eb:=AE2 _;rw[this];exact List.nodup_range.filter _
 split
 ·rename_i n;have m:(b,s.cw ⟨b,0⟩)∈f.a:=by
   rw[j.nB];exact CI.2 ⟨b,CF.2 ⟨Ce.2 l,(o.nG l).2 n⟩,A⟩
  exact V_ t m
 ·rename_i n;refine V' λm=>n ?_;obtain⟨q,p,rfl⟩:=CI.1 m;rw[j.nB] at p;obtain⟨x,u,rfl⟩:=CI.1 p;exact(o.nG l).1 (CF.1 u).2
def bw.n2(p:bw c e a s lg d):Qg (bx c s).a:=by
 have f:=jl c s;obtain⟨j,n⟩:∃j,bx c s=j:=⟨_,A⟩;rw[n] at f⊢;refine⟨?_,λm l=>?_⟩
 ·rw[f.nB,Iu];have:(HI ((λm:B×AN=>m.1)∘λb=>(b,(eg c s).cw ⟨b,0⟩)) ((AH 70).filter (eg c s).eb))=(AH 70).filter (eg c s).eb:=AE2 _;rw[this];exact List.nodup_range.filter _
 ·rw[f.nB] at l;obtain⟨q,o,rfl⟩:=CI.1 l;exact Ce.1 (CF.1 o).1
def vd(l:bw c e a s lg d){n:K}(u:∀b,b<70->(n.b b).a=0){b:B}(o:b<70):GB n (bx c s).a (bx c s).c b={n.b b with a:=if s.y b≠0 then(s.b b).a else 0}:=by
 have r:=nu l o;have x:=u b o;unfold GB;by_cases f:s.y b≠0
 ·rw[A8 f];by_cases m:(s.b b).a=3
  ·rw[A8 (Gi.2 ((l.nD b).2 ⟨o,m,f⟩)),m,r,A1 (λj=>j.1 m)];rfl
  ·rw[A1 (λj=>m ((l.nD b).1 (Gi.1 j)).2.1),r,A8 ⟨m,f⟩];obtain⟨_,_,_,t,_,y,z⟩:=iz l.nA.nA.nA (by rw[l.nC];exact o) m f;rw[y];show{n.b b with a:=K0 t}=_;have:K0 t=(s.b b).a:=by
    unfold K0;rcases z with⟨p,q⟩|⟨p,q⟩
    ·rw[p,q];rfl
    ·rw[p,A8 q]
   rw[this]
 ·rw[A1 f,A1 (λj=>f ((l.nD b).1 (Gi.1 j)).2.2),r,A1 (λj=>f j.2)];show n.b b={n.b b with a:=0};rw[<-x]
end
end K
namespace K
def ng:∀(f:G AF)(s:K),s.j.length=70->(∀a∈f,a.a<70)->∀b,(∀a∈f,a.a≠b)->(f.foldl ai s).b b=s.b b
 |[],s,_,_,b,_=>A
 |a::f,s,o,p,b,n=>by
  have e:(s.ai a).b b=if b=a.a then{s.b a.a with d:=(s.b a.a).d+1} else s.b b:=ji (n:=s) (λj=>{j with d:=j.d+1}) (by rw[o];exact p a (Bt ..)) b
  rw[DN,ng f (s.ai a) (by show(s.j.set _ _).length=_;rw[B_];exact o) (λm l=>p m (By _ l)) b (λm l=>n m (By _ l)),e,A1 (λj=>n a (Bt ..) j.symm)]
def dz.nK{j b:K}(M:j.dz)(G:b.ab=j.ab)(l:b.g=j.g)(p:b.h=j.h)(q:b.t=j.t)(m:b.aj=j.aj)(L:b.j.length=70):b.dz:=by
 have B:∀o,b.w o=j.w o:=λo=>by unfold K.w;rw[G]
 have aa:∀t,b.ay t=j.ay t:=λt=>by unfold ay;rw[B]
 have x:∀a,b.cq a=j.cq a:=λa=>by unfold cq;rw[l,m,aa]
 have r:∀a,b.az a=j.az a:=λa=>by unfold az;rw[p,x]
 have u:b.v=j.v:=by unfold K.v;rw[q]
 have y:b.ao=j.ao:=by unfold ao;rw[m]
 have Z:∀n,b.ba n=j.ba n:=λn=>by unfold ba fz;rw[y,r]
 obtain⟨⟨af,ag,ah,ai,aj,ak⟩,P,Q,al,S,U,V,W,Y,N⟩:=M;refine⟨⟨by rw[m];exact af,by rw[m];exact ag,by rw[p,l];exact ah,by rw[u,l,y];exact ai,λa o F=>by rw[p] at F;rw[m];exact aj a o F,λa f=>by rw[l] at f;rw[x,m];exact ak a f⟩,by rw[m];exact P,by rw[q];exact Q,L,by rw[l,q];exact S,λa f=>by rw[l] at f;rw[r];exact U a f,λa f=>by rw[l] at f;rw[r];exact V a f,λa f=>by rw[l] at f⊢;exact W a f,λa f=>by rw[l] at f⊢;rw[B];exact Y a f,λn z=>by rw[u] at z;rw[Z];exact N n z⟩
section
variable{c:A6}{e a:B}{s:K}{lg:G (AN×AF)}{d:dc}
def uf(c:A6)(s:K)(d:dc)(a:DJ):(dd c s d).c a={((dd c s d).j a).em d.nB|>.ic a.a a.c with ap:=d.nA}:=A
def bw.nI(L:bw c e a s lg d):fe 84 c e s d ((dd c s d).c (bx c s)):=by
 have m:=L.nT;have aa:=L.nA.nA.nB d A;have bo:=λ{l:K}(co:∀b,b<70->(l.b b).a=0){b:B}(y:b<70)=>vd L co y;rw[uf];obtain⟨M,az⟩:∃M,bx c s=M:=⟨_,A⟩;have cj:∀l:K,(l.aa=gi c s)->l.aq=s.aq->l.aa.filter (FL M.c l.aq)=(gi c s).filter (FL (bx c s).c s.aq):=λl an b=>by rw[an,b,az]
 rw[az] at m bo⊢;clear az;obtain⟨l,bs⟩:∃l,(dd c s d).j M=l:=⟨_,A⟩;rw[bs] at m⊢;clear bs;have ah:=m.nH L;have bm:=V3 ah d.nB;have z:=ls.nD ah l.v (AI _);have aw:=py ah l.v (AI _);have aj:l.v=s.t+16:=by unfold K.v;rw[m.nC]
 have df:s.t<=300:=by rw[L.nF];exact L.nS
 have dn:=aa.nA.nA;obtain⟨j,av⟩:∃j,l.ej l.v=j:=⟨_,A⟩;have af:l.em d.nB=(j.ai d.nB).dl.foldl ai (((j.ai d.nB).dl.foldl ai (j.ai d.nB)).du (j.ai d.nB).dl l.ax):=by unfold K.em;rw[av]
 rw[av] at z aw;clear av;have bi:j.j.length=70:=z.nA.nB;have au:j.g=d.nC:=by rw[show j.g=l.g from(AB K.g z.nB:)];exact m.nA
 obtain⟨x,am⟩:∃x,(j.ai d.nB).dl=x:=⟨_,A⟩;have N:∀p∈x,s.ak p:=λp u=>by
  rw[<-am] at u;unfold dl at u;obtain⟨t,a3,U⟩:=QD.1 u;rw[Ce] at a3;unfold K.bo at U;have cn:t<d.nC.length:=by rw[<-au];exact a3
  have ag:(j.ai d.nB).g=d.nC:=au;rw[ag] at U;dsimp only at U;split at U
  ·cases U
  ·rename_i c0;cases U;exact(aa.nA.nB t cn c0).2
 have dj:x.length<=d.nC.length:=by
  rw[<-am];have:=li (j.ai d.nB);rw[show(j.ai d.nB).g=d.nC from au] at this;exact this
 have W:∀p,s.ak p->p.a<70:=λp u=>by have:=u.1;rw[L.nC] at this;exact this
 rw[am] at af;obtain⟨q,Z⟩:∃q,j.ai d.nB=q:=⟨_,A⟩;have aq:q.j.length=70:=by rw[<-Z];show(j.j.set _ _).length=_;rw[B_];exact bi
 have bg:∀b,q.b b=if b=d.nB.a then{j.b d.nB.a with d:=(j.b d.nB.a).d+1} else j.b b:=λb=>by
  rw[<-Z];exact ji (n:=j) (λG=>{G with d:=G.d+1}) (by rw[bi];exact W _ aa.nC) b
 have ar:q.h=j.h/\q.an=j.an/\q.u=j.u:=by rw[<-Z];exact⟨A,A,A⟩
 rw[Z] at af;clear Z am;have bl:=nf x q aq (λp u=>W p (N p u));have bq:=ng x q aq (λp u=>W p (N p u));have br:=lv (λs=>(s.h,s.an,s.u,s.j.length)) (λs p=>by show(s.h,s.an,s.u,(s.j.set _ _).length)=_;rw[B_]) x q;obtain⟨r,bh⟩:∃r,x.foldl ai q=r:=⟨_,A⟩;rw[bh] at bl bq br af;clear bh;obtain⟨cw,cx,cy,cz⟩:=(F0 ..▸br:r.h=q.h/\(r.an,r.u,r.j.length)=(q.an,q.u,q.j.length)).imp id (λG=>(F0 ..▸G:r.an=q.an/\(r.u,r.j.length)=(q.u,q.j.length)).imp id (λa7=>(F0 ..▸a7:r.u=q.u/\r.j.length=q.j.length)));have a0:(r.du x l.ax).j.length=70:=cz.trans aq;have a1:=nf x (r.du x l.ax) a0 (λp u=>W p (N p u));have a4:=ng x (r.du x l.ax) a0 (λp u=>W p (N p u));have a5:=lv (λs=>(s.h,s.an,s.u,s.j.length)) (λs p=>by show(s.h,s.an,s.u,(s.j.set _ _).length)=_;rw[B_]) x (r.du x l.ax);have ak:=lv (λs=>s.bj) (λs p=>A) x (r.du x l.ax);rw[<-af] at a1 a4 a5 ak;obtain⟨f,bj⟩:∃f,l.em d.nB=f:=⟨_,A⟩;rw[bj] at a1 a4 a5 ak bm⊢;clear bj af;obtain⟨c1,c2,c3,c4⟩:=(F0 ..▸a5:f.h=r.h/\(f.an,f.u,f.j.length)=(r.an,r.u,r.j.length)).imp id (λG=>(F0 ..▸G:f.an=r.an/\(f.u,f.j.length)=(r.u,r.j.length)).imp id (λa7=>(F0 ..▸a7:f.u=r.u/\f.j.length=r.j.length)));have ci:f.j.length=70:=c4.trans a0;have ay:f.h=j.h:=c1.trans (cw.trans ar.1);have ax:∀b,b<70->(f.b b).a=0/\(f.b b).b=(if(s.b b).a≠3/\s.y b≠0 then 1 else 0)/\(0<=(f.b b).c/\(f.b b).c<=316)/\(0<=(f.b b).d/\(f.b b).d<=30)/\(f.b b).f=0/\(s.y b=0->(f.b b).c=0/\(f.b b).d=0):=λb y=>by
  obtain⟨a9,ba,bb,bc,b2,b3⟩:=a1 b;obtain⟨b4,b5,b6,b7,c6,c7⟩:=bl b;have ck:=z.nC b;have cm:=m.nK b y;have de:((AH l.v).filter (l.fv b)).length<=316:=by
   refine D9 (Ez _ _) ?_;rw[Dj,aj];omega
  have a6:(j.b b).a=0/\(j.b b).b=(if(s.b b).a≠3/\s.y b≠0 then 1 else 0)/\(j.b b).d=0/\(j.b b).f=0/\(j.b b).c=((AH l.v).filter (l.fv b)).length:=by
   rw[ck,cm];split<;>exact⟨A,A,A,A,by show(0:F)+_=_;rw[Int.zero_add]⟩
  obtain⟨a6,cs,ct,cu,bv⟩:=a6;have cg:(q.b b).a=(j.b b).a/\(q.b b).b=(j.b b).b/\(q.b b).c=(j.b b).c/\(q.b b).f=(j.b b).f/\(j.b b).d<=(q.b b).d/\(q.b b).d<=(j.b b).d+1:=by
   rw[bg];split
   ·rename_i S;rw[S];exact⟨A,A,A,A,Y6,Y6⟩
   ·exact⟨A,A,A,A,Y,Y⟩
  obtain⟨b8,b9,ca,cb,c8,c9⟩:=cg;have bd:(r.du x l.ax).b b=r.b b:=A;rw[bd] at a9 ba bb bc b2 b3;refine⟨by rw[a9,b4,b8,a6],by rw[ba,b5,b9,cs],by rw[bb,b6,ca,bv];omega,Y,by rw[bc,b7,cb,cu],λdg=>?_⟩;have al:∀p,s.ak p->p.a≠b:=λp u S=>by
   have:=gw u;rw[S] at this;omega
  have be:=a4 b (λp u=>al p (N p u));have cc:=bq b (λp u=>al p (N p u));rw[bd] at be;have cd:q.b b=j.b b:=by rw[bg,A1 (λS=>al _ aa.nC S.symm)]
  rw[be,cc,cd];refine⟨?_,ct⟩;rw[bv];have:(AH l.v).filter (l.fv b)=[]:=by
   rw[QA];intro bu bn S;rw[Ce,aj] at bn;have cv:∀o,l.ba bu=o->mr o b=R->Be:=λo bp b1=>by
    cases o with
    |none=>cases b1
    |some p=>
     rw[jz ah.nC,m.nD L] at bp;exact al p (aa.nA.nC bu (by unfold K.v;exact bn) p bp).1 (eq_of_beq b1)
   exact cv _ A S
  rw[this];rfl
 have cp:=λb y=>bo (λb y=>(ax b y).1) (b:=b) y;have n:=λ{c5:Type}(a8:K->c5)(bt:∀G:K,a8 G.gm=a8 G)=>(bt f).symm.trans ((AB a8 bm).trans (bt l));have ch:f.dz:=z.nA.nK ((n K.ab λ_=>A).trans (AB K.ab z.nB:).symm) ((n K.g λ_=>A).trans (AB K.g z.nB:).symm) ay ((n K.t λ_=>A).trans (AB K.t z.nB:).symm) ((n K.aj λ_=>A).trans (AB K.aj z.nB:).symm) ci;have a2:∀b,b<70->({f.ic M.a M.c with ap:=d.nA}:K).b b={f.b b with a:=if s.y b≠0 then(s.b b).a else 0}:=λb y=>(WF f M.a M.c y).trans (cp b y);have bk:∀t,f.az t=s.en d.nC t:=λt=>by
  have ag:f.az t=j.az t:=by
   have ao:f.cq t=j.cq t:=by
    unfold K.cq K.ay K.w;rw[(n K.g λ_=>A),(n K.ab λ_=>A),(n K.aj λ_=>A),show j.g=l.g from(AB K.g z.nB:),show j.ab=l.ab from(AB K.ab z.nB:),show j.aj=l.aj from(AB K.aj z.nB:)]
   unfold K.az;rw[ay,ao]
  rw[ag,z.nH,m.nD L]
 have cl:∀t,f.cq t=s.en d.nC t:=λt=>by
  have ao:f.cq t=l.cq t:=by
   unfold K.cq K.ay K.w;rw[(n K.g λ_=>A),(n K.ab λ_=>A),(n K.aj λ_=>A)]
  rw[ao,m.nF L]
 refine⟨(n K.ab λ_=>A).trans m.nE,(n K.aj λ_=>A).trans m.nB,(n K.i λ_=>A).trans m.nT,(n K.t λ_=>A).trans m.nC,(n K.g λ_=>A).trans m.nA,(n K.ac λ_=>A).trans m.nP,(n K.bb λ_=>A).trans m.nO,λb y=>by rw[a2 b y],λb y=>by rw[a2 b y];exact(ax b y).2.1,λb y=>by rw[a2 b y];exact(ax b y).2.2,?_,(n K.bh λ_=>A).trans m.n6,(n K.bg λ_=>A).trans m.nU,(n K.br λ_=>A).trans m.nL,cj f ((n K.aa λ_=>A).trans m.nY) ((n K.aq λ_=>A).trans m.nJ),(n K.aq λ_=>A).trans m.nJ,(n K.av λ_=>A).trans m.n0,(n K.bn λ_=>A).trans m.n1,(n K.aw λ_=>A).trans m.n7,(n K.bf λ_=>A).trans m.nV,(n K.ae λ_=>A).trans m.n4,(n K.ct λ_=>A).trans m.nW,(n K.bi λ_=>A).trans m.n5,(n K.ah λ_=>A).trans m.nN,⟨?_,?_⟩,(n K.ax λ_=>A).trans m.nS,(n K.cs λ_=>A).trans m.n2,?_,A,?_,(n K.bq λ_=>A).trans m.n3,(n K.bd λ_=>A).trans m.nX,?_,ch.nK A A A A A ?_,λt G cq db=>?_,λt=>?_,λt a3=>bk t⟩
 ·show((AH 70).map _).length=_;rw[BW,Dj]
 ·show f.bj.length<=12;rw[ak];show x.length<=12;omega
 ·show∀p∈f.bj,s.ak p;rw[ak];exact N
 ·show f.an<=316;have:=z.nE;rw[m.nM,aj] at this;rw[c2,cx,ar.2.1];omega
 ·have:f.x=l.x:=n K.x λ_=>A;show f.x<=e;rw[this];exact m.nQ
 ·show s.u<=f.u/\f.u<=s.u+84;have ag:f.u=j.u:=by rw[c3,cy,ar.2.2]
  have an:=aw.1;have b:=aw.2.1;have da:=m.nZ;rw[aj] at an;omega
 ·show((AH 70).map _).length=_;rw[BW,Dj]
 ·have cr:f.h.getD t E=C G:=cq;have:f.az t=G.a:=by unfold K.az;rw[cr]
  rw[<-this,bk];exact(cl t).symm
 ·have bf:=z.nG t;have ce:l.h.getD t E=E:=m.nG t;rw[ce] at bf;show(match f.h.getD t E with|some G=>G.b|none=>I)=I;rw[ay];exact bf
end
end K
namespace K
def we{r a:G (AN×AF)}(q:r.Perm a)(p:(r.map Ea).Pairwise (·<=·))(m:a.Pairwise λf b=>f.1.a<b.1.a):r=a:=by
 have x:∀{f b:AN×AF},f∈a->b∈a->f.1.a=b.1.a->f=b:=by
  clear q p
  induction a with
  |nil=>intro f b l;cases l
  |cons B a u=>
   rw[List.pairwise_cons] at m;intro f b l o e;rcases C2.1 l with n|n
   ·rcases C2.1 o with j|j
    ·rw[n,j]
    ·have:=m.1 b j;rw[n] at e;omega
   ·rcases C2.1 o with j|j
    ·have:=m.1 f n;rw[j] at e;omega
    ·exact u m.2 n j e
 rw[List.pairwise_map] at p;refine AFT (le:=λf b:AN×AF=>f.1.a<=b.1.a) (λf b l o y z=>x (q.mem_iff.1 l) o Y) p (m.imp λt=>AEo t) q
section
variable{a:B}{c:A6}{e d:B}{s z:K}{lg:G (AN×AF)}{f:dc}
def fe.nF(j:fe a c e s f z)(b:B):z.w b=s.w b:=by unfold K.w;rw[j.nI]
def fe.n0(l:fe a c e s f z)(j:AF):z.ay j=s.ay j:=by unfold K.ay;rw[l.nF]
def fe.nD(j:fe a c e s f z)(b:B):z.y b=s.y b:=by unfold K.y;rw[j.nF]
def fe.oO(l:fe a c e s f z)(j:AF):z.cw j=s.cw j:=by unfold K.cw;rw[l.n0]
def fe.oD(m:fe a c e s f z)(o:bw c e d s lg f)(n:AF):z.ak n↔s.ak n:=by
 unfold ak;rw[m.nD,m.nA,o.nC];constructor
 ·rintro⟨j,b,l⟩;rw[m.nC _ j,A8 Y] at l;exact⟨j,b,l⟩
 ·rintro⟨j,b,l⟩;rw[m.nC _ j,A8 Y];exact⟨j,b,l⟩
def qv(s:K)(b:B):(s.cw ⟨b,0⟩).a=s.ia b:=A
def fe.nN(q:fe a c e s f z)(o:bw c e d s lg f){b:B}(p:b<70):E' z b (BC (bx c s).a b)=R↔(s.b b).a=1/\s.y b≠0/\s.ey f.nA f.o b:=by
 rw[nu o p];by_cases n:(s.b b).a≠3/\s.y b≠0
 ·rw[A8 n];obtain⟨_,_,_,x,_,u,r⟩:=iz o.nA.nA.nA (by rw[o.nC];exact p) n.1 n.2;have t:=qv s b;unfold E' ey;rw[q.nT,q.nZ,<-t,u];simp only[Bool.and_eq_true,Bn,ne_eq,Lg,KZ,F1];constructor
  ·rintro⟨⟨m,b⟩,j⟩;rcases r with l|l
   ·exact⟨l.1,n.2,by rcases j with(j|j)|j;exact AT j;exact Ae (AT j);exact Ae (Ae j)⟩
   ·rcases l.2 with l|l
    ·exact CV l m
    ·exact CV l b
  ·rintro⟨m,_,j⟩;rcases r with l|l
   ·rw[l.2];exact⟨⟨Z,Z⟩,by rcases j with j|j|j;exact AT (AT j);exact AT (Ae j);exact Ae j⟩
   ·rw[l.1] at m;cases m
 ·rw[A1 n];constructor
  ·intro l;cases l
  ·rintro⟨m,b,_⟩;exact CV ⟨by rw[m];decide,b⟩ n
def bw.nO(m:bw c e d s lg f){b a:B}(n:(s.b b).a=1)(p:b<70)(o:a<s.y b):∃l,(l,(⟨b,a⟩:AF))∈lg/\s.cw ⟨b,a⟩=l/\fp e s ⟨b,a⟩ l:=by
 have q:s.ak ⟨b,a⟩:=⟨by rw[m.nC];exact p,o,by rw[n];decide⟩;rcases m.nA.nA.nA.nD _ q with⟨_,j,_⟩|⟨l,j⟩
 ·rw[n] at j;cases j
 ·have:=(m.nA.nA.nA.nA _ j).2.1;exact⟨l,j,by unfold K.cw;rw[this.nE],this⟩
def fe.n8(q:fe a c e s f z)(p:bw c e d s lg f){b m:B}(x:(s.b b).a=1)(u:b<70)(t:m<s.y b):∃j,(j,(⟨b,m⟩:AF))∈lg/\Hv z b m=if j.a<=f.nA then E else C (j,⟨b,m⟩):=by
 obtain⟨j,r,y,F⟩:=p.nO x u t;refine⟨j,r,?_⟩;have o:=(p.nA.nA.nA.nA _ r).2.2.2.1;unfold Go.Proofs.YtlklgghcliobfaaGreatDoor.Hv;rw[q.oO,y,q.nT];by_cases n:j.a<=f.nA
 ·rw[A8 n,A8 (AT n)]
 ·rw[A1 n,A1];have o:j.b=1:=o;rw[o];rintro(l|l|l)
  ·exact n l
  ·cases l
  ·cases l
def fe.oB(o:fe a c e s f z)(m:bw c e d s lg f)(j:AN×AF):j∈E4 z (bx c s).a 70↔j∈lg/\f.nA<j.1.a:=by
 have G:=(m.nA.nA.nB f A).nB;unfold E4;rw[Zi];constructor
 ·rintro⟨b,n,l⟩;rw[Ce] at n;unfold Hw at l;split at l
  ·rename_i P;obtain⟨N,S,U⟩:=(o.nN m n).1 P;unfold E3 at l;obtain⟨p,x,l⟩:=QD.1 l;rw[Ce,o.nD] at x;obtain⟨r,t,u⟩:=o.n8 m N n x;rw[u] at l;split at l
   ·cases l
   ·rename_i v;cases l;exact⟨t,by show f.nA<r.a;omega⟩
  ·cases l
 ·rintro⟨l,M⟩;obtain⟨q,Q,y,_⟩:=m.nA.nA.nA.nA j l;have n:j.2.a<70:=by have:=q.1;rw[m.nC] at this;exact this
  have L:s.y j.2.a≠0:=by have:=q.2.1;omega
  refine⟨j.2.a,Ce.2 n,?_⟩;unfold Hw;rw[A8 ((o.nN m n).2 ⟨y,L,G.nB j l M⟩)];unfold E3;refine QD.2 ⟨j.2.b,by rw[Ce,o.nD];exact q.2.1,?_⟩;obtain⟨r,t,u⟩:=o.n8 m y n q.2.1;have B:r=j.1:=by
   have p:=(m.nA.nA.nA.nA _ t).2.1.nE;have b:=Q.nE;have F:(⟨j.2.a,j.2.b⟩:AF)=j.2:=A;dsimp only at p;rw[F,b] at p;exact((F0 ..▸p:j.1=r/\R=R)).1.symm
  rw[u,B,A1 Y]
def ue(s:K)(r:G (B×AN)):(E4 s r 70).Nodup:=by
 have m:∀b j f,Hv s b j=C f->f.2=⟨b,j⟩:=λb j f a=>by
  unfold Go.Proofs.YtlklgghcliobfaaGreatDoor.Hv at a;split at a
  ·cases a
  ·cases a;rfl
 have t:∀b f,f∈Hw s r b->f.2.a=b:=λb f a=>by
  unfold Hw at a;split at a
  ·unfold E3 at a;obtain⟨j,_,a⟩:=QD.1 a;rw[m b j f a]
  ·cases a
 unfold List.Nodup E4;rw[List.pairwise_flatMap];refine⟨λb _=>?_,List.nodup_range.imp λ{j b} o f a q n p=>o ?_⟩
 ·unfold Hw;split
  ·unfold E3;rw[List.pairwise_filterMap];refine List.nodup_range.imp λ{x y} o f a q n p=>o ?_;have l:=m b x f a;have u:=m b y q n;rw[p,u] at l;injection l with _ l
   exact l.symm
  ·exact AEK
 ·rw[<-t j f a,<-t b q n,p]
def vi(j:bw c e d s lg f):lg.Nodup:=j.nA.nA.nA.nF.imp λ{m b} a l=>by rw[l] at a;exact AEq _ a
def gj(lg:G (AN×AF))(a:B):G (AN×AF):=lg.filter λf=>Ac (a<f.1.a)
def fe.oC(l:fe a c e s f z)(j:bw c e d s lg f):(E4 z (bx c s).a 70).Perm (gj lg f.nA):=by
 exact(List.perm_ext_iff_of_nodup (ue _ _) ((vi j).filter _)).2 λm=>((l.oB j m).trans (by rw[CF,KZ]))
def fe.oA(o:fe a c e s f z)(l:bw c e d s lg f){j:G (AN×AF)}(n:j.Perm (E4 z (bx c s).a 70))(m:(j.map Ea).Pairwise (·<=·)):j=gj lg f.nA:=
 we (n.trans (o.oC l)) m (l.nA.nA.nA.nF.filter _)
def fe.oQ(F:fe a c e s f z)(q:bw c e d s lg f):G' z (bx c s).a 70<=s.i*(ew lg f.nA+2):=by
 obtain⟨j,P⟩:∃j,bx c s=j:=⟨_,A⟩;have t:=λ{b:B}(l:b<70)=>F.nN q l;rw[P] at t⊢;have V:∀m:G B,(∀b∈m,b<70)->(m.map (KA z j.a)).sum<=s.i*(m.filter λb=>E' z b (BC j.a b)).length:=λm=>by
  induction m with
  |nil=>intro _;exact Af _
  |cons b m u=>
   intro y;have u:=u λo U=>y o (By _ U);have l:=y b (Bt ..);rw[Ee,List.sum_cons];unfold KA at u⊢;by_cases p:E' z b (BC j.a b)=R
   ·rw[A8 p,KO (p:=λb=>E' z b (BC j.a b)) p,C8,Nat.mul_succ];have:z.y b<=s.i:=by
     rw[F.nD];obtain⟨x,_,_⟩:=(t l).1 p;have:=q.nB.nA.nA.nF b (by rw[q.nC];exact l) (by rw[x];decide);have:=kw (n:=s) b;omega
    omega
   ·rw[A1 p,Iq (p:=λb=>E' z b (BC j.a b)) p];omega
 have N:=V (AH 70) λb l=>Ce.1 l;refine D9 N (OC _ ?_);have Q:((AH 70).filter λb=>E' z b (BC j.a b)).Nodup:=List.nodup_range.filter _;have S:∀b∈(AH 70).filter λb=>E' z b (BC j.a b),b∈((gj lg f.nA).map λo=>o.2.a)++(f.o.1.toList++f.o.2.toList):=λb l=>by
  obtain⟨r,L⟩:=CF.1 l;rw[Ce] at r;obtain⟨x,ah,n⟩:=(t r).1 L;rcases n with n|n|n
  ·obtain⟨o,W,Z,ai⟩:=q.nO x r (a:=0) Y;refine J' _ (CI.2 ⟨(o,⟨b,0⟩),?_,A⟩);unfold gj;rw[CF];refine⟨W,DH ?_⟩;have M:=qv s b;rw[Z] at M;show f.nA<o.a;omega
  ·exact KR _ (J' _ (by rw[n];simp))
  ·exact KR _ (KR _ (by rw[n];simp))
 have:=Md Q S;rw[Ad,BW,Ad] at this;have aa:f.o.1.toList.length<=1:=by cases f.o.1<;>simp
 have af:f.o.2.toList.length<=1:=by cases f.o.2<;>simp
 have ag:(gj lg f.nA).length=ew lg f.nA:=A;omega
end
end K
namespace K
def kv(o:AC (AN×AF))(a:AC AF):AC AF:=match o with
 |some f=>C f.2
 |none=>a
def ve(a:AC AF):kv E a=a:=A
def vf(m:AN×AF)(n:G (AN×AF))(j:B)(o:AC AF):kv (((m::n).filter λa=>a.1.c==j).getLast?) o=kv ((n.filter λa=>a.1.c==j).getLast?) (if m.1.c=j then C m.2 else o):=by
 by_cases l:m.1.c=j
 ·rw[KO (by simp[l]),A8 l];obtain⟨f,q⟩:∃f,n.filter (λa=>a.1.c==j)=f:=⟨_,A⟩;rw[q];cases f with
  |nil=>rfl
  |cons p f=>
   rw[List.getLast?_cons_cons];obtain⟨a,r⟩:∃a,(p::f).getLast?=C a:=⟨_,TS Y1⟩;rw[r];rfl
 ·rw[Iq (by simp[l]),A1 l]
structure nc(nB m:B)(a f:K):Prop where
 nC:ad nB f
 nJ:dy a f
 nB:f.t=a.t
 nF:f.ab=a.ab
 nD:∀j,(f.b j).a=(a.b j).a/\(f.b j).b=(a.b j).b
 nA:f.gy=a.gy
 nG:f.br=a.br
 nH:f.g=a.g
 nM:f.j.length=a.j.length
 nI:∀l,a.bp<=l->f.df l=a.df l
 nK:a.u<=f.u/\f.u<=a.u+m
 nN:a.bc<=f.bc
 nE:f.bu=a.bu
def nc.nL{d:B}{z:K}(a:ad d z):nc d 0 z z:=⟨a,dy.nH z,A,A,λ_=>⟨A,A⟩,A,A,A,A,λ_ _=>A,⟨AI _,AI _⟩,AI _,A⟩
def wt{d:B}{z:K}{a:AN×AF}(o:ad d z)(l:fx d z a)(G:a.1.c<z.t):nc (d+4) 2 z (z.eo a)/\∀f,f<z.v->(z.eo a).ba f=if a.1.c=f then C a.2 else z.ba f:=by
 obtain⟨u,n,x⟩:=iy o l.nB l.nA l.nC;obtain⟨j,t⟩:=so o l.nB l.nA;have r:=ln z a.1.c a.2;have F:a.1.c/32<z.bp:=by unfold bp;omega
 have q:z.eo a=z.de a.1.c a.2:=A;rw[q];refine⟨⟨u,n.nA,n.nB,j.nC,j.nB,j.nA,j.nF,j.nD,j.nH,λf p=>j.nG f Y,t,x,r⟩,λf p=>?_⟩;rw[n.nC f p];by_cases m:f=a.1.c
 ·rw[A8 m,A8 m.symm]
 ·rw[A1 m,A1 (λy=>m y.symm)]
def wu(f:G (AN×AF)):∀{d:B}{z:K},ad d z->(∀o∈f,fx d z o/\o.1.c<z.t)->nc (d+4*f.length) (2*f.length) z (f.foldl eo z)/\∀a,a<z.v->(f.foldl eo z).ba a=kv ((f.filter λj=>j.1.c==a).getLast?) (z.ba a):=by
 induction f with
 |nil=>
  intro d z q _;rw[AEY];exact⟨nc.nL q,λa _=>by rw[List.filter_nil,List.getLast?_nil,ve]⟩
 |cons o f U=>
  intro d z q x;obtain⟨av,aw⟩:=x o (Bt ..);obtain⟨m,L⟩:=wt q av aw;rw[DN];obtain⟨p,u⟩:∃p,z.eo o=p:=⟨_,A⟩;rw[u] at m L⊢;clear u;have r:p.v=z.v:=by unfold K.v;rw[m.nB]
  obtain⟨N,P⟩:=U m.nC (λj S=>by
   obtain⟨ax,ay⟩:=x j (By _ S);have l:=ax.nD m.nJ r;exact⟨⟨l.nE,l.nG,l.nB,by have:=l.nH;omega,by have:=l.nF;omega,l.nA,l.nC⟩,by rw[m.nB];exact ay⟩)
  obtain⟨M,t⟩:∃M,f.foldl eo p=M:=⟨_,A⟩;rw[t] at N P⊢;clear t;refine⟨?_,λa n=>?_⟩
  ·obtain⟨aj,am,an,ao,Q,ap,aq,ar,au,ak,a2,a3,al⟩:=N;obtain⟨az,Z,y,aa,F,af,ag,ah,ai,V,a0,a1,W⟩:=m;exact⟨aj.nE Z7,Z.nE am,an.trans y,ao.trans aa,λj=>⟨(Q j).1.trans (F j).1,(Q j).2.trans (F j).2⟩,ap.trans af,aq.trans ag,ar.trans ah,au.trans ai,λa n=>(ak a (by rw[es y];exact n)).trans (V a n),Z7,Y,al.trans W⟩
  ·rw[P a (by rw[r];exact n),vf,L a n]
def oq(s:K):K:={s with ap:=0,x:=0}
def sq:∀(f:G (AN×AF))(z:K),(f.foldl ek z).oq=z.oq/\z.ap<=(f.foldl ek z).ap/\(∀a∈f,a.1.a<=(f.foldl ek z).ap)/\(∀e,z.x<=e->(∀a∈f,a.1.d<=e)->(f.foldl ek z).x<=e)/\z.x<=(f.foldl ek z).x/\(∀l,z.ap<=l->(∀a∈f,a.1.a<=l)->(f.foldl ek z).ap<=l)
 |[],z=>⟨A,AI _,λa j=>(by cases j),λe o _=>o,AI _,λl o _=>o⟩
 |a::f,z=>by
  obtain⟨q,B,r,t,F,u⟩:=sq f (z.ek a);have x:(z.ek a).ap=max z.ap a.1.a:=A;have y:(z.ek a).x=max z.x a.1.d:=A;rw[DN];refine⟨q,Y,λn m=>?_,λe L j=>t e ?_ λn m=>j n (By _ m),Y,λl M j=>u l ?_ λn m=>j n (By _ m)⟩
  ·rcases C2.1 m with p|p
   ·rw[p];omega
   ·exact r n p
  ·have:=j a (Bt ..);omega
  ·have:=j a (Bt ..);omega
section
variable{a:B}{c:A6}{e d:B}{s z:K}{lg:G (AN×AF)}{f:dc}
def fe.oP(l:fe a c e s f z)(p:bw c e d s lg f){m:B}{n:AF}(q:s.fo m n):z.fo m n:=by
 obtain⟨r,j,b,o⟩:=q;exact⟨r,by rw[l.n0,l.nE];rw[p.nB.nB] at j;exact j,b,o⟩
def fe.n6(l:fe a c e s f z)(m:bw c e d s lg f){j:B}(n:j<s.v):z.ba j=gb (fi (s.en f.nC (j/32)) (j%32)):=by
 rw[jz l.nG.nC,l.oG _ (by rw[(m.nA.nA.nB f A).nA.nA];exact mh n)]
def fe.nR(m:fe a c e s f z)(l:bw c e d s lg f)(b:B):b∈z.aa↔b<70/\(s.b b).a=3/\s.y b≠0:=by
 obtain⟨r,n,t,o,p,q,_⟩:=l.nE;rw[m.n1,CF];unfold FL;rw[Lg,Gi,l.nD,n];constructor
 ·rintro⟨_,j|j⟩
  ·have:=eq_of_beq j;cases this;exact⟨o,p,q⟩
  ·exact j
 ·intro j;exact⟨l.nR ((l.nD b).2 j),Ae j⟩
def fe.oS(l:fe a c e s f z)(n:bw c e d s lg f):z.dm:=by
 have x:∀b,z.cc b=I:=λb=>by unfold cc;rw[l.nO,l.nM,l.nJ];rfl
 refine⟨by rw[l.nI,l.nA,n.nB.nA.nA.nA.nA,n.nC],λb m j=>?_,λb m j p=>?_,λb j=>(by rw[l.nO] at j;cases j),λb j=>(by rw[l.nM] at j;cases j),λb j=>(by rw[l.nJ] at j;cases j),by rw[l.nH];exact n.nB.nA.nA.nA.nF⟩
 ·rw[l.nA] at m;have q:s.y b=0:=by
   unfold ar at j;rw[l.nD] at j;simp at j;exact j.1.1
  obtain⟨L,M,u,t⟩:=l.nU b m;refine⟨(t q).1,u,(t q).2,by rw[l.nP b m,A1 (λp=>p.2 q)],?_⟩;rw[l.nF];by_cases o:(s.b b).a=3
  ·exact n.nA.nA.nC.nC b o
  ·refine(n.nB.nA.nA.nA.nD b (by rw[n.nC];exact m) ?_).2.2.2.2;unfold ar;have r:s.cc b=I:=by
    cases r:s.cc b with
    |false=>rfl
    |true=>
     obtain⟨y,B,F⟩:=(gn s b).1 r;have:=(n.nA.nA.nA.nB y b B F).2.1;have this:0<s.y b:=this;omega
   rw[r,q];simpa using o
 ·rw[l.nA] at m;unfold ar at j;rw[x,l.nD] at j;rw[l.nC b m] at j p;rw[l.nP b m];by_cases o:s.y b=0
  ·rw[A1 (λG=>G o)] at j;rw[o] at j;simp at j
  ·rw[A8 o] at p;rw[A8 ⟨p,o⟩];exact AI _
def fe.oL(j:fe a c e s f z)(l:bw c e d s lg f):ad (d+2000) z:=by
 have q:=l.nA.nA.nB f A;have af:z.v=s.v:=by unfold K.v;rw[j.nB]
 have ar:=l.nB.nF;have aq:=l.nB.nD;have m:=l.nB;have P:=λG=>j.oD l G;have Z:z.cf:=by
  refine⟨j.oS l,j.nG.nA,j.n5,by rw[j.nH];omega,by rw[j.nA];decide,λb N L t=>?_,λb o y=>?_,λr u n=>?_,λai G y x=>?_⟩
  ·rw[j.nF] at t;rw[j.nE,m.nA.nA.nD b N L t,m.nB]
  ·rw[j.nA] at o;rw[j.nD];by_cases S:s.y b=0
   ·rw[S];exact Af _
   ·rw[j.nC b o,A8 S] at y;have:=m.nA.nA.nF b (by rw[l.nC];exact o) y;unfold ca at this⊢;rw[j.nF,j.nH];exact this
  ·rw[j.nK] at u n⊢;exact(P _).2 (q.nA.nB r u n).2
  ·rw[af] at y;rw[j.n6 l y] at x;obtain⟨p,b⟩:=q.nA.nC ai y G x;exact⟨(P _).2 p,j.oP l b⟩
 have W:z.gk:=by
  refine⟨Z,λb o=>?_,λG x=>(P _).2 (j.nX.2 G x),λG x=>?_,λU M=>(by rw[j.nQ] at M;cases M),by rw[j.nE];exact AI _,?_,by rw[j.nV];exact m.nA.nC⟩
  ·obtain⟨p,b,L⟩:=(j.nR l b).1 o;exact⟨by rw[j.nA];exact p,by rw[j.nC _ p,A8 L];exact b⟩
  ·rw[j.nY,CZ] at x;rw[x];exact(P _).2 q.nC
  ·have:=m.nA.nG;rw[j.nK,q.nA.nA,j.nL,j.nE];rw[m.nU,m.nB] at this;exact this
 obtain⟨V,aw,ax,aj,ak,al,_⟩:=l.nE;have av:=q.nB.nA;have au:=m.nG;have Q:z.aa.Nodup:=by
  rw[j.n1];refine Z' _ ?_;have:=List.mergeSort_perm (Cg (bx c s).c (bx c s).d 3) (λp b=>Ac (p<=b));refine this.nodup_iff.2 ?_;have t:=l.nK.c;unfold Cg;exact t.sublist (List.Sublist.append_left (AEb _ _) _)
 refine⟨W,j.nA,j.nE,by rw[j.nH];exact m.nD,by rw[j.nB];exact m.nF,by rw[j.nK,q.nA.nA,j.nB],by rw[j.nL,j.nB];exact m.nL,by rw[j.nL];exact m.nT,by rw[j.nS];omega,by have:=j.nW;have:=l.nH;omega,by rw[j.oM];omega,by have:=j.n4;omega,by rw[j.n2];have:=m.nX;omega,by rw[j.nT];omega,by rw[j.oE];omega,by rw[j.oN];omega,λb=>?_,λb N L t=>by rw[j.nF] at t;exact m.nN b N L t,λr U M p aa=>?_,λr u N ah=>j.nG.nH r u N ah,⟨by rw[j.n3];exact O7,λr u=>(by rw[j.n3] at u;cases u)⟩,by have:=j.nX.1;omega,by rw[j.nY];show 1<=4;decide,by rw[j.nQ];exact Af _,⟨Q,AE1 ((j.nR l V).2 ⟨aj,ak,al⟩),?_⟩,by rw[j.nZ];exact⟨q.nE,q.nF⟩,λb n=>(by rw[j.nO] at n;cases n),λb n=>(by rw[j.nM] at n;cases n),λb n=>by rw[j.nJ] at n;cases n⟩
 ·by_cases o:b<70
  ·obtain⟨am,an,ao,ap⟩:=j.nU b o;have:=j.nP b o;refine⟨by rw[this];split<;>omega,Y,Y,Y⟩
  ·have:z.b b=Cq.e:=by
    unfold K.b;rw[AY,Dm (by rw[j.nA];omega)];rfl
   rw[this];exact⟨Af _,by show-((_:B):F)<=0/\(0:F)<=_;omega,by show-((_:B):F)<=0/\(0:F)<=_;omega,by show-((_:B):F)<=0/\(0:F)<=_;omega⟩
 ·have ag:r<z.g.length:=by rw[<-j.nG.nA.nA];exact iw M
  have:=j.nG.nL r ag;have e:z.az r=U.a:=by unfold K.az;rw[M]
  rw[e] at this;exact this p aa
 ·refine D9 (Md Q λb o=>?_) l.nK.a.2;exact(l.nD b).2 ((j.nR l b).1 o)
def fe.n9(m:fe a c e s f z)(l:bw c e d s lg f){j:AN×AF}(n:j∈lg):fx (d+2000) z j/\j.1.c<z.t:=by
 obtain⟨q,o,F,p,r,t,G⟩:=l.nA.nA.nA.nA j n;have y:=l.nA.nA.nA.nC j n;have B:=l.nB.nG;have u:=o.nA;have x:=l.nH;refine⟨⟨p,r,by unfold K.v;rw[m.nB];omega,Y,Y,(m.oD l _).2 q,⟨j.1,?_,p,A⟩⟩,by rw[m.nB];exact t⟩;rw[m.n0,m.nE];exact o.nE
end
end K
namespace K
def sk{z:K}{m:G (B×AN)}(q:∀l,z.al l=E):∀j l b,l<=2->(Fk z m j).al l=C b->b<j/\Ev z m b=C l
 |0,l,b,_,f=>by
  have:z.al l=C b:=f;rw[q] at this;cases this
 |j+1,l,b,y,f=>by
  have o:=sk (m:=m) q j l b y;obtain⟨M,N,F,e⟩:=Nk z m j;rw[Sl] at f;have t:Ev (Fk z m j) m j=Ev z m j:=by rw[e];rfl
  obtain⟨s,r⟩:∃s,Fk z m j=s:=⟨_,A⟩;rw[r] at o t f;clear e r;have p:s.al l=C b->b<j+1/\Ev z m b=C l:=λv=>⟨by have:=(o v).1;omega,(o v).2⟩;have u:∀n,Ev z m j=C n->(s.bk n (C j)).al l=C b->b<j+1/\Ev z m b=C l:=λn a v=>by
   have L:n<=2:=by
    unfold Ev at a;split at a
    ·cases a
    split at a
    ·cases a;omega
    split at a
    ·cases a
    split at a
    ·cases a;omega
    ·cases a;omega
   rw[os] at v;split at v
   ·rename_i F;have x:l=n:=Y;cases v;exact⟨QI _,by rw[x];exact a⟩
   ·exact p v
  unfold Df at f;rw[t] at f;cases a:Ev z m j with
  |none=>rw[a] at f;exact p f
  |some n=>
   rw[a] at f;dsimp only at f;unfold EC at f;split at f
   ·exact u n a f
   ·split at f
    ·exact u n a f
    ·exact p f
def qm(j:B->AE):∀a:G B,(a.filter j).length+(a.filter λl=>!j l).length=a.length
 |[]=>A
 |l::a=>by
  have m:=qm j a;cases f:j l with
  |true=>rw[KO f,Iq (by rw[f];decide),C8,C8];omega
  |false=>rw[Iq (by rw[f];decide),KO (by rw[f];rfl),C8,C8];omega
section
variable{a:B}{c:A6}{e d:B}{s z:K}{lg:G (AN×AF)}{f:dc}
def fe.oR(j:fe a c e s f z){l m:B}(o:l<=m):fe (a+m) c e s f {z with u:=z.u+l}:=by
 have n:({z with u:=z.u+l}:K).dz:=j.nG.nK A A A A A j.nA;have p:=j.oI;exact⟨j.nI,j.nE,j.nH,j.nB,j.nK,j.nL,j.nV,j.nC,j.nP,j.nU,j.nA,j.nO,j.nM,j.nJ,j.n1,j.oH,j.n2,j.oJ,j.nT,j.nZ,j.n3,j.oE,j.oN,j.nQ,j.nX,j.nY,j.oK,j.n4,j.nS,j.nW,j.oM,j.oF,⟨by show s.u<=z.u+l;omega,by show z.u+l<=_;omega⟩,n,j.n5,j.n7,j.oG⟩
def ug(c:A6)(s:K)(f:dc)(a:DJ):(dd c s f).f a={(dd c s f).c a with u:=((dd c s f).c a).u+G' ((dd c s f).c a) a.a 70}:=A
def bw.nW(a:bw c e d s lg f):fe (84+s.i*(ew lg f.nA+2)) c e s f ((dd c s f).f (bx c s)):=by
 rw[ug];exact a.nI.oR (a.nI.oQ a)
structure gu(t:A6)(p nB:B)(f:K)(o:G (AN×AF))(l:dc)(a:K):Prop where
 nA:ad (nB+2060) a
 n1:a.ab=f.ab
 nI:∀j,j<70->(a.b j).a=if f.y j≠0 then(f.b j).a else 0
 n8:∀j,j<70->(a.b j).b=if(f.b j).a≠3/\f.y j≠0 then 1 else 0
 nB:a.t=f.t
 nE:a.i=f.i
 nJ:a.ac=f.ac
 nG:a.bb=f.bb
 n2:a.g=l.nC
 nH:∀n,n<f.v->a.ba n=f.ba n
 nQ:∀j,j∈a.aa↔j<70/\(f.b j).a=3/\f.y j≠0
 nP:a.aq=f.aq
 nR:a.av=f.av
 n6:a.bn=f.bn
 nK:∀m j,m<=2->a.al m=C j->j<70/\f.y j≠0/\(f.b j).a=(if m=2 then 2 else 1)/\(m<=1->f.ey l.nA l.o j)
 n3:∀q,f.bp<=q->a.df q=I
 nY:∀r∈o,r.1.a<=a.ap
 n7:l.nA<=a.ap
 nN:a.x<=p
 n0:a.bq<=p
 n4:a.bd=f.bd
 n5:f.u<=a.u/\a.u<=f.u+84+f.i*(ew o l.nA+2)+2*ew o l.nA
 nZ:a.cs=[]
 nL:a.ah=[]
def vj(N:lg.Pairwise λq b=>q.1.a<b.1.a)(l j:B)(u:AC AF)(L:(∀f∈lg,f.1.c=j->f.1.a<=l)->u=((lg.filter λf=>f.1.c==j).getLast?).map (·.2)):kv (((gj lg l).filter λa=>a.1.c==j).getLast?) u=((lg.filter λf=>f.1.c==j).getLast?).map (·.2):=by
 cases r:(gj lg l).filter λa=>a.1.c==j with
 |nil=>
  show u=_;refine L λf y U=>?_;rcases Ck l f.1.a with n|n
  ·exfalso;have:f∈(gj lg l).filter λa=>a.1.c==j:=CF.2 ⟨CF.2 ⟨y,DH n⟩,by simp[U]⟩;rw[r] at this;cases this
  ·exact n
 |cons q Y=>
  have o:(gj lg l).filter (λa=>a.1.c==j)≠[]:=by rw[r];simp
  rw[<-r];have F:(gj lg l).filter (λa=>a.1.c==j)=(lg.filter λa=>a.1.c==j).filter λf=>Ac (l<f.1.a):=by
   unfold gj;rw[QB,QB];congr 1;funext f;exact Bool.and_comm _ _
  rw[F] at o⊢;have t:(lg.filter λa=>a.1.c==j).Pairwise λq b=>q.1.a<b.1.a:=N.filter _;obtain⟨m,G⟩:∃m,lg.filter (λa=>a.1.c==j)=m:=⟨_,A⟩;rw[G] at o t⊢;clear G F r L;have x:m≠[]:=λp=>o (by rw[p];rfl);obtain⟨a,M⟩:∃a,m.getLast?=C a:=⟨_,TS x⟩;obtain⟨z,S⟩:∃z,m=z++[a]:=by
   refine⟨m.dropLast,?_⟩;have:=List.dropLast_concat_getLast x;rw[TS x] at M;cases M;exact this.symm
  rw[S] at t o⊢;rw[List.pairwise_append] at t;have W:l<a.1.a:=by
   rcases Ck l a.1.a with n|n
   ·exact n
   ·exfalso;apply o;rw[QA];intro f y;have:f.1.a<=a.1.a:=by
     rcases Bs.1 y with p|p
     ·exact AEo (t.2.2 f p a (CZ.2 A))
     ·rw[CZ.1 p];exact AI _
    simp;omega
  rw[EO,KO (by simpa using W)];simp;rfl
def bw.nX(q:bw c e d s lg f)(cn:ew lg f.nA<=12){y:G (AN×AF)}(an:y=gj lg f.nA):gu c e d s lg f ((dd c s f).b (bx c s) y):=by
 have l:=q.nW;have cr:=λ{b:B}(x:b<70)=>nu q x;have ax:=λ{b:B}(x:b<70)=>l.nN q x;have ay:=l.oL q;have am:=λ{n:AN×AF}(F:n∈lg)=>l.n9 q F;have au:=λ{p:B}(aa:p<s.v)=>l.n6 q aa;have aw:=l.nR q;have a7:=(q.nA.nA.nB f A).nB;have a3:∀t,(dd c s f).b t y={Fk (y.foldl eo (y.foldl ek ((dd c s f).f t))) t.a 70 with bq:=(Fk (y.foldl eo (y.foldl ek ((dd c s f).f t))) t.a 70).x}:=λ_=>A;rw[a3];clear a3;obtain⟨t,a4⟩:∃t,bx c s=t:=⟨_,A⟩;rw[a4] at l cr ax ay am au aw⊢;obtain⟨z,bi⟩:∃z,(dd c s f).f t=z:=⟨_,A⟩;rw[bi] at l ax ay am au aw⊢;clear bi a4;have eg:y.length<=12:=by rw[an];exact cn
 have eh:y.length=ew lg f.nA:=by rw[an];rfl
 have ap:∀n∈y,n∈lg:=λn F=>by rw[an] at F;exact(CF.1 F).1
 have ej:=q.nB.nG;have en:=a7.nA;have ee:=q.nH;have ak:=mx y ay (λn F=>(am (ap n F)).1);obtain⟨bl,dw,bm,bn,dx,d0⟩:=sq y z;obtain⟨M,be⟩:∃M,y.foldl ek z=M:=⟨_,A⟩;rw[be] at ak bl dw bm bn dx d0⊢;clear be;have o:=λ{ea:Type}(a2:K->ea)(bj:∀n:K,a2 n.oq=a2 n)=>(bj M).symm.trans ((AB a2 bl).trans (bj z));have ar:M.t=z.t:=o K.t λ_=>A;obtain⟨r,bo⟩:=wu y ak.nA (λn F=>⟨(am (ap n F)).1.nD ak.nB.nA ak.nB.nF,by rw[ar];exact(am (ap n F)).2⟩);obtain⟨a,bb⟩:∃a,y.foldl eo M=a:=⟨_,A⟩;rw[bb] at r bo⊢;clear bb;have co:M.v=s.v:=by unfold K.v;rw[ar,l.nB]
 have cq:∀p,p<s.v->a.ba p=s.ba p:=λp aa=>by
  rw[bo p (by rw[co];exact aa),ak.nB.nG p (by unfold K.v;rw[l.nB];exact aa),an,q.nA.nA.nA.nE p aa];refine vj q.nA.nA.nA.nF f.nA p _ λj=>?_;rw[au aa,<-q.nA.nA.nA.nE p aa];exact a7.nC p aa (λu=>by cases u) j
 have a6:a.ab=s.ab:=r.nF.trans ((o K.ab λ_=>A).trans l.nI);have a9:∀m,a.al m=E:=λm=>by
  have W:a.bh=E:=(AB K.bh r.nA:).trans ((o K.bh λ_=>A).trans l.nO);have af:a.bg=E:=(AB K.bg r.nA:).trans ((o K.bg λ_=>A).trans l.nM);have aj:a.br=E:=r.nG.trans ((o K.br λ_=>A).trans l.nJ);unfold al;rw[W,af,aj];split<;>(try split)<;>rfl
 have a8:∀b,a.w b=s.w b:=λb=>by unfold K.w;rw[a6]
 have cu:∀b,a.y b=s.y b:=λb=>by unfold K.y;rw[a8]
 have bf:M.j=z.j:=o K.j λ_=>A;have av:∀b,b<70->(a.b b).a=if s.y b≠0 then(s.b b).a else 0:=λb x=>by
  rw[(r.nD b).1];unfold K.b;rw[bf];exact l.nC b x
 have c3:∀b,b<70->(a.b b).b=if(s.b b).a≠3/\s.y b≠0 then 1 else 0:=λb x=>by
  rw[(r.nD b).2];unfold K.b;rw[bf];exact l.nP b x
 have L:=cj r.nE;have ba:=sk (m:=t.a) a9 70;have c1:∀b m,b<70->Ev a t.a b=C m->s.y b≠0/\(s.b b).a=(if m=2 then 2 else 1)/\(m<=1->s.ey f.nA f.o b)/\(a.w b).b=(m==1):=λb m x j=>by
  have cy:E' a b (BC t.a b)=E' z b (BC t.a b):=by
   unfold E';rw[L.nD,L.nF,(o K.aw λ_=>A),(o K.bf λ_=>A)]
  unfold Ev at j;rw[cy] at j;split at j
  ·cases j
  split at j
  ·rename_i _ u;cases j;rw[av b x] at u;by_cases v:s.y b=0
   ·rw[A1 (λn=>n v)] at u;exact CV u.1 Z
   ·rw[A8 v] at u;refine⟨v,u.1,λn=>Y,?_⟩;rw[a8];have cs:s.ak ⟨b,0⟩:=⟨by rw[q.nC];exact x,by show 0<s.y b;omega,by rw[u.1];decide⟩;rcases q.nA.nA.nA.nD _ cs with p|⟨n,p⟩
    ·exact p.nD
    ·have:=(q.nA.nA.nA.nA _ p).2.2.1;have this:(s.b b).a=1:=this;rw[u.1] at this;cases this
  split at j
  ·cases j
  rename_i u;have u:E' z b (BC t.a b)=R:=by
   cases cx:E' z b (BC t.a b) with
   |true=>rfl
   |false=>exact CV cx u
  obtain⟨a0,a1,bk⟩:=(ax x).1 u;split at j
  ·rename_i v;cases j;exact⟨a1,a0,λ_=>bk,v⟩
  ·rename_i v;cases j;exact⟨a1,a0,λ_=>bk,by simpa using v⟩
 obtain⟨N,S,U,cw⟩:=Nk a t.a 70;rw[cw] at ba⊢;have ah:∀m b,m<=2->({a with bh:=N,bg:=S,br:=U}:K).al m=C b->b<70/\s.y b≠0/\(s.b b).a=(if m=2 then 2 else 1)/\(m<=1->s.ey f.nA f.o b)/\(a.w b).b=(m==1):=λm b ao j=>by
  obtain⟨W,af⟩:=ba m b ao j;exact⟨W,c1 b m W af⟩
 have ag:∀m b,m<=2->({a with bh:=N,bg:=S,br:=U}:K).al m=C b->(a.b b).a=if m=2 then 2 else 1:=λm b ao j=>by
  obtain⟨W,af,aj,_⟩:=ah m b ao j;rw[av b W,A8 af,aj]
 have ef:a.j.length=70:=r.nC.nC;have cz:ad (d+2060) ({a with bh:=N,bg:=S,br:=U}:K):=by
  have cm:=r.nC.nE (m:=d+2060) Y;obtain⟨bs,dr,d3,ds,d5,b6,ca,b9,d4,cc,d6,b3,d2,d9,dv,d8,b5,du,dq,cb,d7,db,de,b4,d1,dt,eq,a0,a1⟩:=cm;obtain⟨⟨⟨bu,bv,b1,eb,ec,ed,b2⟩,⟨df,dg,dj,dl,dn,dp⟩,c4,c5,c6,c7,c8,c9,da⟩,cd,ce,cg,ch,ci,ck,cl⟩:=bs;have cv:∀b,({a with bh:=N,bg:=S,br:=U}:K).cc b=R->a.y b≠0:=λb j=>by
   obtain⟨m,bp,aq⟩:=(gn _ b).1 j;rw[cu];exact(ah m b bp aq).2.1
  have cp:∀b,a.cc b=I:=λb=>by
   cases j:a.cc b with
   |false=>rfl
   |true=>
    obtain⟨m,bp,aq⟩:=(gn a b).1 j;rw[a9] at aq;cases aq
  have a5:∀b,({a with bh:=N,bg:=S,br:=U}:K).ar b=a.ar b:=λb=>by
   have b7:({a with bh:=N,bg:=S,br:=U}:K).ar b=(a.y b==0&&(a.b b).a !=3&&!({a with bh:=N,bg:=S,br:=U}:K).cc b):=A;have b8:a.ar b=(a.y b==0&&(a.b b).a !=3&&!a.cc b):=A;rw[b7,b8,cp];cases j:({a with bh:=N,bg:=S,br:=U}:K).cc b with
   |false=>rfl
   |true=>
    have:=cv b j;simp[this]
  have c2:({a with bh:=N,bg:=S,br:=U}:K).dm:=by
   refine⟨bu,λb x j=>bv b x (by rw[<-a5];exact j),λb x j p=>b1 b x (by rw[<-a5];exact j) p,λb j=>?_,λb j=>?_,λb j=>?_,b2⟩
   ·have ai:=ah 0 b Z j;exact⟨by show b<a.j.length;omega,ai.2.2.2.2,by show(a.b b).a≠3;rw[ag 0 b Z j];decide⟩
   ·have ai:=ah 1 b Z j;exact⟨by show b<a.j.length;omega,ai.2.2.2.2,by show(a.b b).a≠3;rw[ag 1 b Z j];decide⟩
   ·have ai:=ah 2 b Z j;exact⟨by show b<a.j.length;omega,ai.2.2.2.2,by show(a.b b).a≠3;rw[ag 2 b Z j];decide⟩
  exact⟨⟨⟨c2,⟨df,dg,dj,dl,dn,dp⟩,c4,c5,c6,c7,c8,c9,da⟩,cd,ce,cg,ch,ci,ck,cl⟩,dr,d3,ds,d5,b6,ca,b9,d4,cc,d6,b3,d2,d9,dv,d8,b5,du,dq,cb,d7,db,de,b4,d1,dt,λb j=>ag 0 b Z j,λb j=>ag 1 b Z j,λb j=>ag 2 b Z j⟩
 have bc:a.x<=e:=by
  have:a.x=M.x:=(AB K.x r.nA:);rw[this];exact bn e l.nW λn F=>(q.nA.nA.nA.nA n (ap n F)).2.1.nA
 have c0:=(xd cz (AI _) (l:=a.x) Y).nA;have bd:a.ap=M.ap:=(AB K.ap r.nA:);have ei:=l.oI;have ep:M.u=z.u:=o K.u λ_=>A;have em:=r.nK;refine⟨c0,a6,av,c3,r.nB.trans (ar.trans l.nB),L.nA.trans ((o K.i λ_=>A).trans l.nH),L.nH.trans ((o K.ac λ_=>A).trans l.nL),L.nC.trans ((o K.bb λ_=>A).trans l.nV),r.nH.trans ((o K.g λ_=>A).trans l.nK),cq,λb=>?_,L.nN.trans ((o K.aq λ_=>A).trans l.oH),L.nM.trans ((o K.av λ_=>A).trans l.n2),L.nO.trans ((o K.bn λ_=>A).trans l.oJ),λm b ao j=>?_,λaz ct=>?_,λn F=>?_,?_,bc,bc,(AB K.bd r.nA:).trans ((o K.bd λ_=>A).trans l.oF),⟨by show s.u<=a.u;omega,by show a.u<=_;omega⟩,L.nL.trans ((o K.cs λ_=>A).trans l.oK),L.nB.trans ((o K.ah λ_=>A).trans l.nQ)⟩
 ·show b∈a.aa↔_;rw[L.nJ,(o K.aa λ_=>A)];exact aw b
 ·obtain⟨W,af,aj,bt,_⟩:=ah m b ao j;exact⟨W,af,aj,bt⟩
 ·show a.df az=I;rw[r.nI az (by rw[es (ar.trans l.nB)];exact ct),io (o K.h λ_=>A)];exact l.n7 az
 ·show n.1.a<=a.ap;rw[bd];rcases Ck f.nA n.1.a with u|u
  ·exact bm n (by rw[an];exact CF.2 ⟨F,DH u⟩)
  ·have:=l.nS;omega
 ·show f.nA<=a.ap;rw[bd];have:=l.nS;omega
end
end K
namespace K
section
variable{a:B}{c:A6}{e d:B}{s z:K}{lg:G (AN×AF)}{f:dc}
def gu.nC(a:gu c e d s lg f z)(b:B):z.w b=s.w b:=by unfold K.w;rw[a.n1]
def gu.nF(j:gu c e d s lg f z)(a:AF):z.ay a=s.ay a:=by unfold K.ay;rw[j.nC]
def gu.nU(a:gu c e d s lg f z)(b:B):z.y b=s.y b:=by unfold K.y;rw[a.nC]
def gu.nD(l:gu c e d s lg f z)(n:bw c e d s lg f)(m:AF):z.ak m↔s.ak m:=by
 unfold ak;rw[l.nU,l.nA.nC,n.nC];constructor
 ·rintro⟨a,b,j⟩;rw[l.nI _ a,A8 Y] at j;exact⟨a,b,j⟩
 ·rintro⟨a,b,j⟩;rw[l.nI _ a,A8 Y];exact⟨a,b,j⟩
def gu.nO(n:gu c e d s lg f z)(o:bw c e d s lg f){a:AF}(l:s.ak a):(z.b a.a).a=(s.b a.a).a/\(z.b a.a).b=1:=by
 have j:=l.1;rw[o.nC] at j;have m:s.y a.a≠0:=by have:=gw l;omega
 rw[n.nI _ j,n.n8 _ j,A8 m,A8 ⟨l.2.2,m⟩];exact⟨A,A⟩
def gu.nV(j:gu c e d s lg f z)(n:bw c e d s lg f){l:AF}{m:AN}(o:s.ak l)(a:fp e s l m):fp e z l m:=
 ⟨a.nB,by rw[j.nF];exact a.nC,a.nA,a.nG,by rw[j.nF];exact a.nD,(j.nO n o).2⟩
def gu.nX(m:gu c e d s lg f z){l:B}{a:AC B×AC B}{b:B}(j:s.ey l a b):z.ey l a b:=by
 unfold ey ia at j⊢;rw[m.nF];exact j
def gu.nM(j:gu c e d s lg f z)(m:bw c e d s lg f)(a:G B)(l:B):z.en a l=s.en a l:=by
 unfold en;rw[j.nA.nB,m.nB.nB,j.nF]
def gu.nS(a:gu c e d s lg f z)(l:bw c e d s lg f){q:G B}(n:s.hr q):z.hr q:=by
 have y:z.v=s.v:=by unfold K.v;rw[a.nB]
 refine⟨by rw[a.nB];exact n.nA,λm j P=>?_,λM r N t=>?_,λm j L F=>by rw[a.nM l];exact n.nF m j L F,λm j=>n.nG m (by rw[es a.nB] at j;exact j)⟩
 ·obtain⟨o,b⟩:=n.nB m j P;exact⟨o,(a.nD l _).2 b⟩
 ·rw[y] at r;rw[a.nM l] at t;obtain⟨o,Q,p,u,x⟩:=n.nC M r N t;exact⟨(a.nD l _).2 o,Q,by rw[a.nF,a.nA.nB];rw[l.nB.nB] at p;exact p,u,x⟩
def gu.nT(a:gu c e d s lg f z)(l:bw c e d s lg f):hb e z lg (C f):=by
 have n:=l.nA.nA;have o:=n.nB f A;have a8:=n.nF f A;have Y:z.v=s.v:=by unfold K.v;rw[a.nB]
 have aq:ge e z lg:=by
  refine⟨λah t=>?_,λB av=>?_,n.nA.nF,a.nY,λx p=>?_,λa1 b au m=>?_⟩
  ·have t:=(a.nD l ah).1 t;rcases n.nA.nD ah t with⟨⟨B,F,U⟩,G,al⟩|j
   ·exact AT ⟨⟨B,a.nV l t F,U⟩,by rw[(a.nO l t).1];exact G,by rw[a.nC];exact al⟩
   ·exact Ae j
  ·obtain⟨N,a2,a3,a4,a5,a6,a7⟩:=n.nA.nA B av;exact⟨(a.nD l _).2 N,a.nV l N a2,by rw[(a.nO l N).1];exact a3,a4,a5,by rw[a.nB];exact a6,by rw[ks a.nB a.nJ,a.nC];exact a7⟩
  ·rw[Y] at p;rw[a.nH x p];exact n.nA.nE x p
  ·obtain⟨F,U,G,_⟩:=a.nK a1 b au m;refine(a.nD l _).2 ⟨by rw[l.nC];exact F,by show 0<s.y b;omega,?_⟩;show(s.b b).a≠3;rw[G];split<;>decide
 have ag:z.hc:=by
  have r:∀b,(z.b b).a=3->b<70/\(s.b b).a=3/\s.y b≠0:=λb j=>by
   by_cases m:b<70
   ·rw[a.nI b m] at j;by_cases y:s.y b≠0
    ·rw[A8 y] at j;exact⟨m,j,y⟩
    ·rw[A1 y] at j;cases j
   ·have:z.b b=Cq.e:=by
     unfold K.b;rw[AY,Dm (by rw[a.nA.nC];omega)];rfl
    rw[this] at j;cases j
  refine⟨λb m j=>(a.nQ b).2 (r b j),λb j L q=>?_,λb j af L q=>?_,λb j=>?_,λb m=>?_,λb j=>by rw[a.nC];exact n.nC.nC b (r b j).2.1⟩
  ·rw[a.nC] at q;rw[a.nR];exact n.nC.nD b (r b j).2.1 L q
  ·rw[a.nC] at q;rw[a.nR];rw[a.nP] at af;exact n.nC.nF b (r b j).2.1 af L q
  ·rw[a.nC,a.nE];exact n.nC.nB b (r b j).2.1
  ·rw[a.nP] at m;obtain⟨W,M,ax,ai,aj,ak,_⟩:=l.nE;rw[M] at m;cases m;exact(a.nQ _).2 ⟨ai,aj,ak⟩
 obtain⟨W,M,ax,ai,aj,ak,ay,az,a0⟩:=l.nE;obtain⟨B,am,an,ao,ap⟩:=o.nG;have ar:∀b,z.bh=C b\/z.bg=C b->s.ey f.nA f.o b:=λb m=>by
  rcases m with j|j
  ·exact(a.nK 0 b Z j).2.2.2 Z
  ·exact(a.nK 1 b Z j).2.2.2 Z
 refine⟨aq,λS u=>?_,λS u=>?_,ag,λaw aa=>a.n3 aw (by rw[es a.nB] at aa;exact aa),by rw[a.n2];exact a.nS l o.nA,a.n0⟩
 ·cases u;exact⟨(a.nD l _).2 o.nC,⟨B,am,an,ao,by rw[a.nF,a.nJ];exact ap⟩,a.nS l o.nA,⟨λS u j=>a.nX (o.nB.nB S u j),λb m=>a.nX (ar b m),a.n7,λx p j y=>by
   rw[Y] at p;rw[a.nM l,a.nH x p];exact o.nB.nC x p j y⟩,o.nD,o.nE,o.nF⟩
 ·cases u;refine⟨ag,⟨by rw[a.n6,a.nG];exact az,by rw[a.nG];exact a0⟩,W,by rw[a.nP];exact M,?_⟩;rw[a.nC,a.nR,a.nG];exact ay
def gu.nW(p:gu c e d s lg f z)(q:bw c e d s lg f):s.bc+4<=z.bc+3*s.i:=by
 have n:=q.nB;have aq:=n.nD;have G:((AH 70).filter s.ar++s.aa.filter λb=>!(s.y b !=0)).Nodup:=by
  rw[ID];refine⟨List.nodup_range.filter _,Z' _ n.nK.1,λl L b r a=>?_⟩;have o:=(CF.1 L).2;have y:=(n.nA.nB b (CF.1 r).1).2;rw[a] at o;unfold ar at o;rw[y] at o;simp at o
 have U:∀b∈(AH 70).filter s.ar++s.aa.filter λb=>!(s.y b !=0),b∈(AH 70).filter z.ar:=λb r=>by
  have t:b<70/\s.y b=0:=by
   rcases Bs.1 r with a|a
   ·obtain⟨l,m⟩:=CF.1 a;unfold ar at m;simp at m;exact⟨Ce.1 l,m.1.1⟩
   ·obtain⟨l,m⟩:=CF.1 a;have:=(n.nA.nB b l).1;rw[q.nC] at this;exact⟨this,by simpa using m⟩
  refine CF.2 ⟨Ce.2 t.1,?_⟩;have M:z.cc b=I:=by
   cases a:z.cc b with
   |false=>rfl
   |true=>
    obtain⟨ag,ah,ai⟩:=(gn z b).1 a;exact CV t.2 (p.nK ag b ah ai).2.1
  unfold ar;rw[p.nU,t.2,p.nI b t.1,A1 (λak=>ak t.2),M];rfl
 have o:=Md G U;rw[Ad] at o;have y:(s.aa.filter λb=>s.y b !=0).length<=z.aa.length:=by
  refine Md (Z' _ n.nK.1) λb r=>?_;obtain⟨l,m⟩:=CF.1 r;obtain⟨aa,af⟩:=n.nA.nB b l;exact(p.nQ b).2 ⟨by rw[<-q.nC];exact aa,af,by simpa using m⟩
 have am:=qm (λb=>s.y b !=0) s.aa;have ao:z.au=((AH 70).filter z.ar).length:=by unfold au;rw[p.nA.nC]
 have an:s.au=((AH 70).filter s.ar).length:=by unfold au;rw[q.nC]
 have W:s.au+s.aa.length<=z.au+z.aa.length:=Y;have ap:=OC s.i W;have S:∀j b,j<=2->s.al j=C b->0<s.y b:=λj b u a=>(q.nA.nA.nA.nB j b u a).2.1;have x:∀j,j<=2->s.fg (s.al j)+1<=s.i/\(j=1->2*s.fg (s.al j)+2<=s.i):=λj u=>by
  cases a:s.al j with
  |none=>exact⟨by show 0+1<=_;omega,λ_=>by show 2*0+2<=_;omega⟩
  |some b=>
   have l:=S j b u a;have B:=kw (n:=s) b;refine⟨by show s.ca b-s.y b+1<=_;omega,λaj=>?_⟩;have N:=la n.nA.nA.nA u a;have F:s.ca b=s.i/2:=by
    unfold ca;rw[N,aj];rfl
   show 2*(s.ca b-s.y b)+2<=_;omega
 have al:=(x 0 Z).1;have B:=(x 1 Z).2 A;have F:=(x 2 Z).1;rw[ix,ix,p.nE];omega
end
end K
namespace K
section
variable{a:B}{c:A6}{e d:B}{s z:K}{lg:G (AN×AF)}{f:dc}
def bw.n5(a:bw c e d s lg f){b:B}(l:b<70):s.y b<=16:=by
 have m:=a.nB.nD;by_cases j:(s.b b).a=3
 ·have:=a.nA.nA.nC.nB b j;show(s.w b).a.length<=16;omega
 ·have:=a.nB.nA.nA.nF b (by rw[a.nC];exact l) j;have:=kw (n:=s) b;omega
def bw.n4(a:bw c e d s lg f):Mr s.ab:=by
 intro b t j u;have l:(s.w b).a[0]?=C j:=u;have o:=a.nB.nA.nA.nD b 0 j l;rw[a.nB.nB] at o;have n:s.ay ⟨b,0⟩=j:=by unfold ay;rw[AY,l];rfl
 have p:s.y b≠0:=by
  have:=(Cx.1 l).1;unfold y;omega
 refine⟨o,a.nB.nN b 0 j l,?_⟩;by_cases q:(s.b b).a=3
 ·left;have:=(pj (q:=0) a.nA.nA.nC q p).1;unfold K.go at this;rw[n] at this;simp at this;exact this.2
 ·right;obtain⟨_,_,_,r,m,_,_⟩:=iz a.nA.nA.nA (by rw[a.nC];exact t) q p;obtain⟨F,x,z⟩:=m.nC;have B:=m.nA;have:=a.nH;have:=a.nN;refine⟨by rw[<-n];exact m.nD,r,m.nB,Y,?_⟩;rw[<-n,z];exact r.s x
def bw.n8(j:bw c e d s lg f):Qo ((dd c s f).i (bx c s)) (s.ay f.nB):=by
 have Z:=j.nA.nA.nB f A;obtain⟨t,P,Q,S,U,V,u,W,x⟩:=j.nV;obtain⟨y,z,B,F,G,Y⟩:=sj (l:=t) V x W;rw[<-U] at y z B F G Y;have m:=NQ (eg c s) 70;obtain⟨a,n⟩:∃a,Bw (eg c s) 70=a:=⟨_,A⟩;have p:bx c s=a:=n;rw[n] at m;rw[p];clear n p;have M:a.b.g.length=(s.t+15)/32+1:=by
  rw[show a.b.g=(eg c s).g from(AB K.g m:),j.nF];exact BI
 have N:a.b.ac.length=(s.t+7)/8:=by
  rw[show a.b.ac=(eg c s).ac from(AB K.ac m:),j.nF];exact BI
 have l:((dd c s f).i a).g.length=(s.t+15)/32+1:=M;have L:((dd c s f).i a).ac.length=(s.t+7)/8:=N;have aa:s.t<=300:=by rw[j.nF];exact j.nS
 refine⟨y,ow j.nB _,⟨t,P,Q,S,z⟩,by rw[l,L];omega,B,by rw[l,F,u],λo q=>?_⟩;rw[l] at q;have r:o<f.nC.length:=by rw[u];exact q
 rw[G o r];exact x o r
def bw.nZ(a:bw c e d s lg f)(M:ew lg f.nA<=12):Qe ((dd c s f).c (bx c s)) (bx c s).a:=by
 have n:=a.nI;have q:=n.oC a;have r:=λ{b:B}(j:b<70)=>n.nN a j;obtain⟨z,G⟩:∃z,(dd c s f).c (bx c s)=z:=⟨_,A⟩;obtain⟨u,x⟩:∃u,bx c s=u:=⟨_,A⟩;rw[G] at n q r⊢;clear G;rw[x] at q r⊢;clear x;have F:∀b,BD z.ab b=s.w b:=λb=>by rw[n.nI];rfl
 refine⟨λb j V m o l=>?_,λb j=>?_,?_⟩
 ·rw[F] at l;obtain⟨Q,Y,Z⟩:=(r j).1 V;have N:m<s.y b:=(Cx.1 l).1;obtain⟨t,W,af,L⟩:=a.nO Q j N;have y:=a.nB.nA.nA.nD b m o l;rw[a.nB.nB] at y;have P:s.ay ⟨b,m⟩=o:=by unfold ay;rw[AY,l];rfl
  obtain⟨aa,S,U⟩:=L.nC;have p:=(a.nA.nA.nA.nA _ W).2.2.2.1;have p:t.b=1:=p;refine⟨y,a.nB.nN b m o l,t,L.nB,by rw[p];decide,?_⟩;rw[<-P,U];exact t.s S
 ·rw[F];exact a.n5 j
 ·rw[q.length_eq];exact M
def bw.n1(a:bw c e d s lg f)(B:ew lg f.nA<=12)(u:s.i*12+40<=s.bc):OQ (d+2000) (bx c s) (dd c s f):=by
 have o:=a.nA.nA.nB f A;obtain⟨n,af,bk,a4,a5,a6,bl,a7,bm⟩:=a.nE;have bf:=a.nN;have bd:=a.nH;have W:=jl c s;have t:=NQ (eg c s) 70;have an:(bx c s).b.bb=c.h:=by
  obtain⟨l,L⟩:∃l,Bw (eg c s) 70=l:=⟨_,A⟩;have ai:bx c s=l:=L;rw[L] at t;rw[ai];exact(AB K.bb t:)
 clear t;have bj:=o.nB.nA;have bi:=a.nB.nG;have U:=o.nC;have S:=a.nB.nI U;have al:(⟨f.nA,f.nE,f.o,f.nB⟩:HM).b (bx c s).b.bb=f.nD s.bb:=by rw[an,a.nL];rfl
 have be:(bx c s).b.x<=e:=W.nA.2 e (Af _) λb u z=>by
  obtain⟨a2,a3⟩:=(a.nG u).1 z;obtain⟨_,_,_,bb,a9,ba,_⟩:=iz a.nA.nA.nA (by rw[a.nC];exact u) a2 a3;have:(eg c s).cw ⟨b,0⟩=bb:=ba;rw[this];exact a9.nA
 have N:=W.nE;have aj:=a.nY af;have am:=a.nT.nH a;have aa:=a.nW;have Z:=a.nI;have av:=a.nK;have aw:=a.n7.c (show d<=d+2000 by omega);have ax:=a.n8;have au:∃b∈gi c s,FL (bx c s).c (C n) b=R:=⟨n,a.nR ((a.nD n).2 ⟨a4,a5,a6⟩),by unfold FL;simp⟩;have ar:=a.n2;have ak:=a.nZ B;have a1:=aa.oL a;have ap:=λp=>Z.oB a p;have aq:=λm(z:List.Perm m _) a8=>Z.oA (j:=m) a z a8;have ao:=λ{p:AN×AF}(r:p∈lg)=>(aa.n9 a r).1;have a0:=λ{m:G (AN×AF)}(q:m=gj lg f.nA)=>a.nX B q;have M:(dd c s f).h=n:=by show s.aq.getD 0=n;rw[af];rfl
 have bc:(dd c s f).d=gi c s:=A;have F:∀l,(dd c s f).g l=E4 ((dd c s f).c l) l.a 70:=λ_=>A;refine⟨Y,av,A,?_,?_,⟨by show f.nA<=_;omega,by show f.nE<=_;have:=o.nD;omega,o.nE,o.nF,S.1,S.2.1⟩,?_,ax,am,by rw[M];exact au,ar,ak,a1,λp r=>?_,λm q az=>?_⟩
 ·rw[N];exact aw
 ·rw[M];show(gi c s).foldl (Ch (gs s)) E=C (n,s.av,C ((⟨f.nA,f.nE,f.o,f.nB⟩:HM).b (bx c s).b.bb));rw[al,<-a7];exact aj
 ·rw[N];show(s.w f.nB.a).a[f.nB.b]?=C (s.ay f.nB);have x:=U.2.1;unfold y at x;unfold ay;rw[AY,Aw x];rfl
 ·rw[F] at r;exact ao ((ap p).1 r).1
 ·rw[F] at q;have j:=a0 (aq m q az);have x:=j.nW a;have ah:=km j.nA;have bh:=ah.nD;have bg:=a.nB.nD;refine⟨j.nA.nE Y,?_,(St _).trans j.nL⟩;have ag:((dd c s f).b (bx c s) m).ce.i=s.i:=(my j.nA (j.nT a) j.nN).1.nA.nC.trans j.nE;rw[ag];omega
end
structure tb(n:B)(l:B)(a f:K):Prop where
 nC:f.gd (l+a.bp+2)
 nF:f.t=a.t
 nG:f.i=a.i
 nD:f.ac=a.ac
 nB:f.bb=a.bb
 nK:f.cs=[]
 nA:f.ah=[]
 nM:∀j,j<a.v->f.ba j=a.ba j
 nL:∀j,j<a.v->f.dp j=a.dp j
 nN:∀m,a.ak m->(f.w m.a).b=(a.w m.a).b
 nE:f.x<=l+a.bp+2/\f.bq<=l+a.bp+2
 nI:a.bd<=f.bd/\f.bd<=a.bd+a.bp+2
 nJ:a.u<=f.u/\f.u<=a.u+n
 nH:a.cm<=f.cm+3*a.i+2*a.bp
def ge.nJ{e j:B}{s:K}{lg:G (AN×AF)}(a:ge e s lg)(l:e<=j):ge j s lg:=
 ⟨λq o=>by
  rcases a.nD q o with f|f
  ·exact AT (f.nA l)
  ·exact Ae f,λr p=>by
  obtain⟨m,b,n⟩:=a.nA r p;exact⟨m,b.nH l,n⟩,a.nF,a.nC,a.nE,a.nB⟩
def dh.nD{e a:B}{s:K}{lg:G (AN×AF)}{f:AC dc}{n:B}{l:AC B×AC B}{m:G B}(r:dh e s lg f n l m)(j:e<=a):dh a s lg f n l m:=by
 obtain⟨⟨t,u,x,y,z,F,L⟩,M⟩:=r;exact⟨⟨t.nJ j,λS N=>by
  obtain⟨o,b,p,a,q,P,Q⟩:=u S N;exact⟨o,b,p,a,D9 q j,P,Q⟩,x,y,z,F,D9 L j⟩,M⟩
section
variable{a:B}{c:A6}{e d:B}{s z:K}{lg:G (AN×AF)}{f:dc}
def bw.n3(n:bw c e d s lg f)(ap:ew lg f.nA<=12)(a6:s.i*12+40<=s.bc)(au:∀c∈s.bb,c<256){o:G (AN×AF)}(Z:o=gj lg f.nA):tb (125+s.i*(ew lg f.nA+2)+2*ew lg f.nA+s.bp) e s ((dd c s f).e (bx c s) o):=by
 have a:=n.nX ap Z;have ba:=n.nN;have bb:=n.nB.nD;have av:o.length=ew lg f.nA:=by rw[Z];rfl
 have U:∀r,(dd c s f).e r o=if o.length<max ((dd c s f).b r o).ce.ec (2*((dd c s f).b r o).ce.g.length) then((dd c s f).b r o).ce else((dd c s f).b r o).ce.fb:=λ_=>A
 rw[U];clear U;obtain⟨z,ag⟩:∃z,(dd c s f).b (bx c s) o=z:=⟨_,A⟩;rw[ag] at a⊢;clear ag;have aq:=a.nT n;have B:=a.nW n;have y:z.v=s.v:=by unfold K.v;rw[a.nB]
 have af:∀l,l<s.v->z.dp l=s.dp l:=λl m=>by
  have x:=a.nH l m;cases F:s.ba l with
  |none=>rw[ja (x.trans F),ja F,a.nA.nB,n.nB.nB]
  |some q=>rw[jb (x.trans F),jb F,a.nF,a.nA.nB,n.nB.nB]
 obtain⟨j,ah,bl,a0,a1,M,bm,a2⟩:=my a.nA aq a.nN;have u:=km a.nA;have bc:=u.nD;have aa:=es a.nB;have a8:=a.nN;have bg:=a.n0;have bf:=a.n5;have be:=a.n4;have W:z.ce.ef=s.ef:=(iq j.nA.nA j.nA.nC).trans (iq a.nB a.nE);have ar:z.ce.g.length=(s.t+15)/32+1:=by rw[u.nA.nU,j.nA.nA,a.nB]
 have aw:z.ce.ec=s.ec:=by unfold ec;rw[j.nA.nC,a.nE]
 have bd:s.cm<=s.bc+1:=by unfold cm;omega
 have bh:=j.nA.nB;have bi:=j.nA.nL;have bj:=j.nA.nQ;have bk:=j.nA.nF;have ax:∀N∈lg,N.1.a<=z.ce.aw:=λN az=>by rw[a0];exact a.nY N az
 have L:z.ce.bp=s.bp:=(es j.nA.nA).trans aa;split
 ·rename_i a4;rw[ar,aw,av] at a4;have a7:s.ef=max (2*((s.t+31)/32+1)) s.ec:=A;refine⟨⟨lg,f,ah.nD Y,⟨a1.trans M.symm,by rw[L];rw[aa] at a2;omega,by rw[M,W];omega,by rw[K.md ax];exact Af _,by rw[W];omega⟩⟩,j.nA.nA.trans a.nB,j.nA.nC.trans a.nE,j.nA.nG.trans a.nJ,j.nA.nE.trans a.nG,j.nA.nM.trans a.nZ,j.nA.nJ a.nL,λl m=>(j.nA.nH l (by rw[y];exact m)).trans (a.nH l m),λl m=>(u.nB.nI a.nA.nA.nA (by rw[y];exact m)).trans (af l m),λq B=>((j.nA.nK q ((a.nD n q).2 B)).2.2).trans (by rw[a.nC]),⟨Y,Y⟩,⟨Y,Y⟩,⟨Y,Y⟩,?_⟩;have x:z.ce.cm=z.ce.bc+1:=by unfold cm;rw[M];omega
  omega
 ·have a9:s.bp<=12:=by have:=n.nB.nF;unfold bp;omega
  have ay:z.ce.i=s.i:=j.nA.nC.trans a.nE;obtain⟨a3,t,ai,aj,S,ak⟩:=hb.nI (p:=e+s.bp+2) u.nA (ah.nD (show e<=e+s.bp+2 by omega)).nA (by rw[L];omega) (by rw[ay];omega) Y (by rw[j.nA.nE,a.nG];exact au);have al:=t.nB;have am:=t.nL;have an:=t.nQ;have a5:=t.nF;have ao:=S.nD;rw[L] at al am an ao;have p:=j.nA.nN t;refine⟨⟨lg,a3,ai,aj⟩,p.nA.trans a.nB,p.nC.trans a.nE,p.nG.trans a.nJ,p.nE.trans a.nG,p.nM.trans a.nZ,p.nJ a.nL,λl m=>(p.nH l (by rw[y];exact m)).trans (a.nH l m),λl m=>((u.nB.nD S.nB).nI a.nA.nA.nA (by rw[y];exact m)).trans (af l m),λq B=>((p.nK q ((a.nD n q).2 B)).2.2).trans (by rw[a.nC]),⟨Y,Y⟩,⟨Y,Y⟩,⟨Y,Y⟩,?_⟩;have x:z.ce.fb.cm=z.ce.fb.bc+1:=by unfold cm;rw[ak];omega
  omega
end
end K
def K.gd.nE(f:n.gd l)(m:l<=p):n.gd p:=by
 obtain⟨j,o,a,b⟩:=f;exact⟨j,o,a.nD m,b⟩
variable{xq:AF}
def K.gd.nB(r:n.gd l)(x:p<n.v)(f:n.ba p=C xq):p<n.t/\n.dg p=(n.w xq.a).b/\n.ak xq:=by
 obtain⟨F,G,a,b⟩:=r;rw[a.nA.nA.nE p x] at f;obtain⟨j,y,rfl⟩:=a1.1 f;obtain⟨t,u⟩:=CF.1 (List.mem_of_getLast? y);obtain⟨z,L,M,N,S,m,o⟩:=a.nA.nA.nA j t;have q:j.1.c=p:=by simpa using u
 rw[q] at m o;exact⟨m,o,z⟩
def K.gd.nA(a:n.gd l)(j:p<16):n.ba (n.t+p)=E:=by
 cases f:n.ba (n.t+p) with
 |none=>rfl
 |some m=>
  have:=(a.nB (by unfold K.v;omega) f).1;omega
def K.gd.nD(a:n.gd l)(j:p<n.t)(f:n.ba p=C xq):n.dg p=(n.w xq.a).b:=(a.nB (by unfold K.v;omega) f).2.1
variable{xp:A6}{r:K}
def K.el.nN{p a:Aj}(f:n.el xp p)(o:r.t=n.t)(y:r.i=n.i)(q:r.bb=n.bb)(u:r.ac=n.ac)(t:r.ah=[])(L:r.cs=[])(M:∀j,j<xp.a->r.dp j=a.e j)(z:a.c<=r.cm)(B:r.bd=a.a)(G:r.u=a.f)(x:r.x<=a.d/\r.bq<=a.d)(l:r.gd a.d):r.el xp a:=
 ⟨y.trans f.nC,o.trans f.nA,q.trans f.nG,u.trans f.nM,t,L,λj m=>by rw[<-f.nA,<-o];exact l.nA m,M,z,B,G,x,λj N m F=>l.nD m F,l⟩
variable{xy:Aj}
def K.el.nP(j:n.el xp xy)(a:K.ht l xy.d n r):r.el xp {xy with f:=r.u}/\xy.f<=r.u/\r.u<=xy.f+l:=by
 have p:=a.nA.nL;have q:=a.nA.nQ;have t:=a.nA.nB;have u:=j.nK;have x:=j.nH;have y:=j.nB;have z:=a.nA.nF;refine⟨j.nN a.nA.nA a.nA.nC a.nA.nE a.nA.nG (a.nA.nJ j.nJ) (a.nA.nM.trans j.nL) (λm o=>?_) ?_ ?_ A ⟨?_,?_⟩ a.nB,Y,Y⟩
 ·show r.dp m=xy.e m;rw[a.nD m (by unfold K.v;rw[j.nA];omega)];exact j.nI m o
 ·show xy.c<=r.cm;rw[a.nC];exact j.nF
 ·show r.bd=xy.a;omega
 ·show r.x<=xy.d;omega
 ·show r.bq<=xy.d;omega
def K.sa(r:K.ad l n)(a:n.el xp xy)(q:p<n.v):∃j,xy.f<=j/\j<=xy.f+2/\(n.dt p).2.el xp {xy with f:=j}:=by
 obtain⟨m,b,o⟩:=a.nP (K.wi r a.nE a.nB.1 q);exact⟨_,b,o,m⟩
def K.el.nQ(f:K.ad l n)(a:n.el xp xy)(r:xp.d*14+1<xy.c):8<=n.ho:=by
 have m:=a.nF;have j:=a.nC;have o:n.cm<=n.bc+1:=by unfold K.cm;omega
 have p:=K.dx (p:=7) f (by rw[j];omega);have q:=K.qu f.nA.nA.nA;omega
def K.uy(u:K.ad l n)(r:n.el xp xy)(F:p<16):(n.hf p).1=E/\∃j,xy.f<=j/\j<=xy.f+2/\(n.hf p).2.el xp {xy with f:=j}:=by
 have y:n.t+p<n.v:=by unfold K.v;omega
 obtain⟨j,G,L,x⟩:=K.sa u r y;have z:n.ba (n.t+p)=E:=r.nE.nA F;have m:=(K.mj u.nA.nA.nB y).1;have t:(n.dt (n.t+p)).1=U 128 0:=by
  unfold K.dt;obtain⟨a,q⟩:∃a,n.be (n.t+p)=a:=⟨_,A⟩;rw[q] at m⊢;obtain⟨o,M⟩:=a;rw[z] at m;dsimp only at m;rw[m,u.nB]
 unfold K.hf;rw[r.nL];obtain⟨a,q⟩:∃a,n.dt (n.t+p)=a:=⟨_,A⟩;rw[q] at t x;obtain⟨b,M⟩:=a;dsimp only at t x;rw[List.find?_nil];dsimp only;rw[q];dsimp only;rw[t,A1 (λN=>by have:=N.1;exact CV this Z)];exact⟨A,j,G,L,x⟩
def K.qz{q M:B}{l:K}(u:K.ad M l)(F:l.gd q)(ag:l.x<=q):∀a,a<=l.t->K.ht ((a+31)/32) q l (l.ex a)/\(∃m,K.ad m (l.ex a))/\(0<a->∃p,(l.ex a).h.getD ((a-1)/32) E=C p)
 |0,_=>⟨⟨(K.dk.nC u.nA.nA).nA,F,A,λ_ _=>A⟩,⟨M,u⟩,λx=>Y⟩
 |a+1,ak=>by
  obtain⟨n,⟨m,o⟩,y⟩:=K.qz u F ag a Y;obtain⟨j,L⟩:∃j,l.ex a=j:=⟨_,A⟩;have W:l.ex (a+1)=(j.be a).2:=by rw[<-L];rfl
  rw[L] at n o y;rw[W];have t:a<j.v:=by rw[n.nA.nO];unfold K.v;omega
  have aj:=n.nA.nB;have x:=K.rh o n.nB Y t;have z:=K.ip o;have G:(j.be a).2=j.am (a/32):=by
   have:(j.be a).2=j.am (a/j.ao):=A;rw[this,z]
  have aa:=K.ga o.nA.nA.nB (K.rv o.nA.nA.nB t z);have af:=(K.hh o t).2;have ah:∃p,(j.be a).2.h.getD ((a+1-1)/32) E=C p:=by
   obtain⟨p,r,_⟩:=aa.nE;exact⟨p,by rw[G];exact r⟩
  refine⟨?_,⟨_,af.nA⟩,λ_=>ah⟩;by_cases am:a%32=0
  ·have:=n.nE x;exact⟨this.nA.nI Y Y Y,this.nB,this.nC,this.nD⟩
  ·obtain⟨p,r⟩:=y Y;have Z:(a-1)/32=a/32:=Y;rw[Z] at r;have al:(j.be a).2.u=j.u:=by rw[G];exact K.rt r
   have ai:K.ht 0 q j (j.be a).2:=by
    obtain⟨f,N,S,U⟩:=x;refine⟨⟨f.nD,f.nH,f.nA,f.nG,f.nE,f.nC,f.nM,f.nU,f.nR,f.nS,f.nP,f.nT,f.nV,f.nK,f.nB,f.nL,Y,f.nF,f.nJ⟩,N,S,U⟩
   have:=n.nE ai;exact⟨this.nA.nI Y Y Y,this.nB,this.nC,this.nD⟩
def K.uz(m:K.ad l n)(a:n.el xp xy):∃j,xy.f<=j/\j<=xy.f+12/\(n.ex n.t).el xp {xy with f:=j}:=by
 have p:=(K.qz m a.nE a.nB.1 n.t (AI _)).1;obtain⟨o,b,q⟩:=a.nP p;have:=m.nF;exact⟨_,b,Y,o⟩
def A6.ad(j:A6):∀f∈j.h,f<256:=λf a=>by
 unfold A6.h at a;obtain⟨v,_,l⟩:=Zi.1 a;exact H' _ _ _ l
def K.xo(u:K.ad l n)(j:n.el xp xy)(V:p<xp.a)(Q:Ki q)(aa:l<=800000000)(ap:xp.d*14+3<xy.c):∃x y,xy.a<=x/\x<=xy.a+6/\xy.f<=y/\y<=xy.f+1000/\(n.et p q).el xp {xy with c:=xy.c-3,a:=x,f:=y,d:=xy.d+3,e:=Cm xy.e p q}:=by
 obtain⟨z,F,M⟩:=Q;have L:∀ai∈n.bb,ai<256:=by rw[j.nG];exact xp.ad
 have aj:=j.nF;have ak:=j.nC;have al:=u.nD;have am:=j.nB;have an:=j.nH;have ao:=j.nK;have W:p<n.t:=by rw[j.nA];exact V
 have Z:p<n.v:=by unfold K.v;omega
 obtain⟨aq,aw,P,N⟩:=j.nE;obtain⟨ag,ah,m⟩:=(P.nD (show xy.d<=xy.d+3 by omega)).nH u N Y Y aa L W ⟨z,F,M⟩;have t:=K.re u Y Y L Z Y F;have ar:=m.nF;have au:=m.nI;have av:=m.nJ;have af:=m.nA.nA.nG;refine⟨(n.et p q).bd,(n.et p q).u,Y,Y,Y,Y,j.nN m.nG m.nH m.nD m.nE (m.nB j.nJ) (m.nK.trans j.nL) (λo S=>?_) ?_ A A ⟨?_,?_⟩ ⟨ag,ah,m.nA,m.nC⟩⟩
 ·show _=Cm xy.e p q o;unfold Cm;have U:o<n.v:=by unfold K.v;rw[j.nA];omega
  by_cases r:o=p
  ·rw[A8 r,r,t.nD,z];simp
  ·rw[A1 r,t.nC o U r];exact j.nI o S
 ·show xy.c-3<=_;have:=t.nA;omega
 ·show(n.et p q).x<=xy.d+3;omega
 ·exact af
def cG(a:B->B)(f:∀m,a m<=1):∀j,j<8->(a 0+(2*a 1+(4*a 2+(8*a 3+(16*a 4+(32*a 5+(64*a 6+128*a 7)))))))/2^j%2=a j:=by
 have n:=f 0;have o:=f 1;have p:=f 2;have q:=f 3;have r:=f 4;have t:=f 5;have u:=f 6;have x:=f 7;intro j l
 match j,l with
 |0,_=>show _/1%2=_;omega
 |1,_=>show _/2%2=_;omega
 |2,_=>show _/4%2=_;omega
 |3,_=>show _/8%2=_;omega
 |4,_=>show _/16%2=_;omega
 |5,_=>show _/32%2=_;omega
 |6,_=>show _/64%2=_;omega
 |7,_=>show _/128%2=_;omega
def eK(l:B->AE)(n f j:B)(o:j<8):K.fq l n f/2^j%2=if(Ac (8*f+j<n)&&l (8*f+j))=R then 1 else 0:=by
 have p:=cG (λm=>if(Ac (8*f+m<n)&&l (8*f+m))=R then 1 else 0) (λm=>by split<;>omega) j o;rw[K.kr];have a:∀(b:AE)(v:B),(if b=R then v else 0)=v*(if b=R then 1 else 0):=λb v=>by cases b<;>simp
 rw[a _ 2,a _ 4,a _ 8,a _ 16,a _ 32,a _ 64,a _ 128];exact p
def K.el.nR(a:n.el xp xy)(j:l<xp.a):n.dg l=xp.v l:=by
 have o:=a.nA;have m:l/8<(xp.a+7)/8:=Y;have f:n.ac.getD (l/8) 0=K.fq xp.v xp.a (l/8):=by
  rw[a.nM,<-K.qg,AY,K.qh xp.v m];rfl
 unfold K.dg;rw[f,eK xp.v xp.a (l/8) (l%8) (Nat.mod_lt _ Z),o,show 8*(l/8)+l%8=l by omega];rw[DH j,OJ,OJ];cases xp.v l<;>rfl
def A6.z(a:A6):B:=a.d*70-2*((a.a+31)/32)-6
def A6.e.nB(a:xp.e):1<=xp.a/\xp.a<=300:=by
 obtain⟨j,l,m,n,o,p,q,r,t,f⟩:=a;unfold A6.a;omega
def K.ur(m:xp.e):∃p N,p<=20/\(K.iu 128 xp.d xp.a 70 xp.h xp.v).el xp ⟨0,xp.z,p,N,14,λ_=>U 128 0⟩:=by
 have t:=m.nB;have n:=K.uq (l:=xp.d) (p:=xp.a) (q:=xp.h) xp.v m.nA ⟨t.1,Y⟩ A xp.ad;obtain⟨a,o⟩:∃a,K.iu 128 xp.d xp.a 70 xp.h xp.v=a:=⟨_,A⟩;rw[o] at n⊢;clear o;obtain⟨u,l,z,q,B,F,G,L,M,x,Q,y⟩:=n;refine⟨a.bd,a.u,y,z,q,F,B,L,G,λj f=>by rw[<-q];exact l.nA f,λj f=>?_,?_,A,A,x,λj P f r=>l.nD f r,l⟩
 ·rw[K.ja (M j (by unfold K.v;omega)),u.nB]
 ·show xp.z<=a.cm;unfold A6.z;omega
structure A6.ac(a:A6):Prop where
 nA:a.d=8
 nB:a.a<=64
def K.us(V:xp.e)(aa:xp.ac)(af:K.ad l n)(m:n.el xp xy)(aw:xp.d*14+64<=xy.c)(an:l<=300000000)(ak:xy.d<=l):Mr n.ab/\∃M:G5,OQ (l+2000) (Bw (ET xp n.ab n.bd n.u n.bv) 70) M/\∀o,o.Perm (M.g (Bw (ET xp n.ab n.bd n.u n.bv) 70))->(o.map Ea).Pairwise (·<=·)->∃S U,n.bd<=S/\S<=n.bd+10/\n.u<=U/\U<=n.u+270/\(M.e (Bw (ET xp n.ab n.bd n.u n.bv) 70) o).el xp {xy with c:=xy.c-28,a:=S,f:=U,d:=xy.d+4}:=by
 obtain⟨L,p,ai,Q⟩:=m.nE;have au:=m.nF;have P:=m.nC;have ah:=m.nB;have am:=aa.nA;have az:=aa.nB;have a2:n.cm<=n.bc+1:=by unfold K.cm;omega
 have ax:=K.dx (p:=7) af (by rw[P];omega);have a0:n.bp<=2:=by unfold K.bp;rw[m.nA];omega
 have ay:n.ef=6\/n.ef<=6:=by
  right;unfold K.ef K.ec;omega
 have aj:∀ar∈n.bb,ar<256:=by rw[m.nG];exact xp.ad
 have r:K.bw xp xy.d l n L p:=⟨V,af,ai,Q,P,m.nA,m.nG,ah.1,ak,an,Y,V.nB.2⟩;have av:K.ew L p.nA<=11:=by have:=Q.nA;have:=Q.nB;omega
 have z:=λo ap aq=>r.nI.oA (j:=o) r ap aq;have t:(K.dd xp n p).g (Bw (ET xp n.ab n.bd n.u n.bv) 70)=E4 ((K.dd xp n p).c (K.bx xp n)) (K.bx xp n).a 70:=A;have u:=r.n1 Y Y;have x:=λ{o:G (AN×AF)}(y:o=K.gj L p.nA)=>r.n3 Y Y aj y;have W:K.bx xp n=Bw (ET xp n.ab n.bd n.u n.bv) 70:=A;rw[W] at z u x t;clear W;obtain⟨N,Z⟩:∃N,Bw (ET xp n.ab n.bd n.u n.bv) 70=N:=⟨_,A⟩;rw[Z] at z u x t⊢;clear Z;refine⟨r.n4,K.dd xp n p,u,λo y ao=>?_⟩;rw[t] at y;have j:=x (z o y ao);obtain⟨q,ag⟩:∃q,(K.dd xp n p).e N o=q:=⟨_,A⟩;rw[ag] at j⊢;clear ag u x t z;have a3:=j.nE;have a4:=j.nI;have a5:=j.nJ;have a6:=j.nH;have a1:n.i*(K.ew L p.nA+2)<=8*13:=by rw[P,am];exact OC _ Y
 refine⟨q.bd,q.u,Y,Y,Y,Y,m.nN j.nF j.nG j.nB j.nD j.nA j.nK (λF al=>?_) ?_ A A ⟨?_,?_⟩ (j.nC.nE (by show _<=xy.d+4;omega))⟩
 ·show q.dp F=xy.e F;rw[j.nL F (by unfold K.v;rw[m.nA];omega)];exact m.nI F al
 ·show xy.c-28<=q.cm;omega
 ·show q.x<=xy.d+4;omega
 ·show q.bq<=xy.d+4;omega
structure Qq where
 b:AR
 a:K
 c:AX
structure Qq.d(a:Qq)(j:A6)(nA:B)(f:Aj):Prop where
 nC:BB f.b a.b a.a a.c
 nA:a.b.c=nA
 nB:a.a.el j f
def At(j:A6)(m l:B)(f:Aj):C0:=HW λa:{a:Qq//a.d j l f}=>a.1.b.a m a.1.a a.1.c
variable{yn:S}
def JU(f:Qq.d ⟨xr,n,yf⟩ xp p xy)(j:lg.Perm (xr.a l n yf++yn)):AQ lg (.u (At xp l p xy)::yn):=AQ.ad (λa:{a:Qq//a.d xp p xy}=>a.1.b.a l a.1.a a.1.c) ⟨⟨xr,n,yf⟩,f⟩ j
def Du.c{a f:AR}(j:Du a f):f.c=a.c/\f.f=a.f/\f.s=a.s:=by
 obtain⟨_,_,_,_,_,_,_,_,_,_,_,_,_,_,_,rfl⟩:=j;exact⟨A,A,A⟩
def K.el.nD(a:n.el xp xy)(m:B):n.el xp {xy with b:=m}:=⟨a.nC,a.nA,a.nG,a.nM,a.nJ,a.nL,a.nS,a.nI,a.nF,a.nH,a.nK,a.nB,a.nO,a.nE⟩
def Yl(o:A6)(n u:B)(a:Aj)(j:B)(z:j<o.a)(am:a.b+10<=500000000):
 Z9 177 [P n,N j] [.u (At o n u a)] λaj t=>∃m l r,a.g r 2/\(l.drop 0).take 128=(a.e j).map W/\(a.e j).length=128/\aj=AL #[Q m 128 128,N 0]/\t=[.t m l 5,.u (At o n u r)]:=by
 refine A9.ae λ⟨⟨ak,q,L⟩,F,Z,p⟩=>A9.aa ?_;have aa:j<q.t:=by rw[p.nA];exact z
 have af:j<q.v:=by unfold K.v;omega
 refine A9.z (g3 n a.b j ak q L F Y aa) λv t ag=>?_;obtain⟨an,al,m,l,M,S,x,y,rfl,rfl⟩:=ag;rw[p.nI j z] at x y;obtain⟨G,ah,ai,U⟩:=K.sa F.a p af;exact⟨_,AQ.z _ (JU (xy:={a with b:=a.b+2,f:=G}) ⟨S,by rw[M.c.1];exact Z,U.nD _⟩ (Bi _)),m,l,{a with b:=a.b+2,f:=G},⟨A,A,A,A,AI _,ah,ai⟩,x,y,A,A⟩
def Yc(o:A6)(j p:B)(a:Aj)(l:B)(r:l<16)(ah:a.b+10<=500000000):
 Z9 172 [P j,N l] [.u (At o j p a)] λaa n=>∃m,a.g m 2/\aa=AL #[O E 0 0,X I]/\n=[.u (At o j p m)]:=by
 refine A9.ae λ⟨⟨af,Z,x⟩,t,G,L⟩=>A9.aa (A9.z (gR j a.b l af Z x t Y r) λv n M=>?_);obtain⟨ai,ag,y,z,q⟩:=M;obtain⟨S,u,U,W,F⟩:=K.uy t.a L r;rw[S] at q;obtain⟨rfl,rfl⟩:=q;exact⟨_,JU (xy:={a with b:=a.b+2,f:=u}) ⟨z,by rw[y.c.1];exact G,F.nD _⟩ (Bi _),{a with b:=a.b+2,f:=u},⟨A,A,A,A,AI _,U,W⟩,A,A⟩
variable{yb:M}
def Ps{args:G M}(q:∀f a j,BB xy.b f a j->f.c=p->a.el xp xy->AK np args (f.a l a j) yb):AK np args [.u (At xp l p xy)] yb:=by
 refine A9.ae λ⟨⟨f,a,j⟩,o,m,n⟩=>A9.aa (A9.z (q f a j o m n) λv t r=>?_);obtain⟨rfl,rfl⟩:=r;exact⟨_,JU ⟨o,m,n⟩ (Bi _),A,A⟩
def ABw(j:A6)(a n:B)(f:Aj)(o:j.d*14+1<f.c):AK 612 [P a] [.u (At j a n f)] (N 0):=
 Ps λr q m l t p=>dR a r q m l.a.nC (K.el.nQ l.a p o)
def ACC(o:A6)(a q:B)(j:Aj)(t:j.d<7000):AK 637 [P a] [.u (At o a q j)] (N 1):=
 Ps λr f n x u m=>by
  have l:=fX a f.bq r f n (AI _) (by have:=m.nB.2;omega);have p:f.ok=1:=by
   have:=m.nB.2;unfold K.ok;rw[Nat.div_div_eq_div_mul,Nat.div_eq_of_lt Y];rfl
  rw[p] at l;exact l
def A6.t(a:A6):B:=4*(a.a+16)+(a.a+7)/8+24*70+16*((a.a+15)/32+1)+2*192
def ACL(a:A6)(f q:B)(n:Aj)(z:a.a<=300):AK 138 [P f] [.u (At a f q n)] (N (a.t:B)):=
 Ps λy m o l F x=>by
  have r:=x.nA;have t:=l.a.nU;have u:=l.a.nL;have j:=g1 f y m o Y Y Y;have p:m.lj=a.t:=by unfold K.lj A6.t;rw[t,u,r]
  rw[p] at j;exact j
def Yh(n:A6)(j f:B)(m:Aj):AK 28 [P f] [.u (At n j f m)] (X I):=
 Ps λl t a r o x=>by
  subst o;have p:=r.c.e;refine A9.aa (A9.ad (IV l.c a.a) Y0 (λv u q=>?_));obtain⟨rfl,rfl⟩:=q;rw[p];exact⟨l.a j t a,AQ.ab Y0,A,A⟩
def Pu(p:A6)(m l:B)(a:Aj):Z9 67 [P l] [.u (At p m l a)] λv t=>∃u x:F,v=AL #[N u,N a.a,N a.f,N x]/\t=[.u (At p m l a)]:=by
 refine A9.ae λ⟨⟨j,n,o⟩,f,q,r⟩=>A9.aa ?_;have q:j.c=l:=q;have f:BB a.b j n o:=f;subst q;refine A9.ad (Oj j.c o.a) Y0 (λv S M=>?_);obtain⟨rfl,rfl⟩:=M;have y:=f.c.u;have z:=f.c.i;have U:=f.c.s;have G:=r.nH;have L:=r.nK;refine⟨[.u (At p m j.c a)],(AQ.ab (a:=j.a m n o) Y0).t (JU ⟨f,A,r⟩ (Bi _)),?_⟩;rw[y,z,show n.bd=a.a from G,show n.u=a.f from L];exact⟨_,_,A,A⟩
def ACU(p:A6)(n Z:B)(f:Aj)(a:G6)(j S:B)(l:G M)(ag:a.b<p.a)(y:Ki a.a)(ax:(a.d.drop a.c).take 128=a.a.map W)(a2:f.b+1000000<=500000000)(am:p.d*14+3<f.c):
 Z9 639 [P n,Q j 1 S] [.u (At p n Z f),.t j (Dy a++l) 732,Dq a] λa1 F=>∃z,f.h z a.b a.a/\a1=N 0/\F=[.u (At p n Z z),.t j (Dy a++l) 732,Dq a]:=by
 refine A9.ae λ⟨⟨u,m,q⟩,t,an,o⟩=>A9.aa ?_;have t:BB f.b u m q:=t;have o:m.el p f:=o;have ap:=o.nC;have a3:=o.nF;obtain⟨az,a0,aq,ar,au,av,af⟩:=K.xo t.a o ag y Y am;have ak:AQ (u.a n m q++[.t j (Dy a++l) 732,Dq a]) (.t j ([a].flatMap Dy++l) 732::.u (A2 ([a].map Dq))::u.a n m q):=
  (AQ.u (Cj (l₂:=[.t j (Dy a++l) 732,Dq a]))).t (AQ.z _ (AQ.aa [Dq a] _))
 have x:=gB n f.b j S u m q t [a] l (λa4 aw=>by
  rw[CZ.1 aw];exact⟨by rw[o.nA];exact ag,y.a,y.b,ax⟩) (by show 1<=1000;decide) Y (by
  show m.i*14+3*1<m.cm;rw[ap];omega) o.nJ
 have ao:([a]:G G6).length=1:=A;have U:m.ez [a]=m.et a.b a.a:=by unfold K.ez;rw[DN,AEY]
 rw[U,ao] at x;clear U;obtain⟨r,aa⟩:∃r,m.et a.b a.a=r:=⟨_,A⟩;rw[aa] at x af;clear aa;refine A9.w ak (A9.z x λv F ay=>?_);obtain⟨ah,L,ai,aj,rfl,rfl⟩:=ay;have al:AQ (.t j ([a].flatMap Dy++l) 732::.u (A2 ([a].map Dq))::ah.a n r L) (ah.a n r L++[.t j (Dy a++l) 732,Dq a]):=
  (AQ.z _ (AQ.ac [Dq a] _)).t (AQ.u (Cj (l₁:=[.t j (Dy a++l) 732,Dq a])))
 refine⟨_,al.t (JU (yn:=[.t j (Dy a++l) 732,Dq a]) (xy:=⟨f.b+210,f.c-3,az,a0,f.d+3,Cm f.e a.b a.a⟩) ⟨aj,by rw[ai.c.1];exact an,af.nD _⟩ (Bi _)),_,⟨A,by show f.c-3+3=f.c;omega,⟨aq,ar⟩,A,by show f.b+210<=_;omega,au,av⟩,A,A⟩
def a'(a:Am)(o:Fr)(x:Cf)(F:Code)(y:M->S->Prop)(n:AP)(q:S):Prop:=
 ∃(f:B)(u:Fr)(p m:Ai M)(j:S),CR n x=C (BZ (CA f) p m)/\a.h f=C u/\
  (∀z,A9 a f (p.toList++[BZ (GM z) #[] #[]]++m.toList) q λ_ r=>r=j)/\
  ND a o.ntmps F n j (λt l=>HV a t l o.results.toList λG=>y (FA G) l) (λ_ _=>Be) (λ_ _ _=>Be)
variable{xs yg:AG}
def OS.h{j l:BR}(f:BA j xs lg yg)(n:∀m,l m->j.a xs yg m):OS l yg:=⟨λa=>by
 rcases n _ a with a|a
 ·exact f.g.f a
 ·have:=f.g.b.b;omega,f.s⟩
variable{xw:BR}
def ACy{L:Ai Tmp}{y z:Code}{j:Act}{x:Exit->Act->AG->Prop}{aa:Fr}{o n:Ai M}
 (t:CM [] yc l j)(ar:BA xw yg lg xs)(an:CR yc yo=C (BZ (CA p) o n))(am:xx.h p=C aa)
 (ak:∀a,A9 xx p (o.toList++[BZ (GM a) #[] #[]]++n.toList) lg λ_ q=>q=yn)
 (ah:∀u m,BA xw yg (.o u (Ek (C []))::yn) m->CM [{target:=Q2 u,args:=#[]}] yc l {j with defers:=[{target:=Q2 u,args:=#[]}]}->x .normal {j with defers:=[{target:=Q2 u,args:=#[]}]} m):
 (Code.rangeFunc yo L y z).wp xx.b x j xs:=by
 refine(ADu (n:=1)).1 (wpIn_rangeFunc λN _=>?_);have af:=ar.v (Ek (C []));have F:=af.v (Gn {state:=.ready,pending:=E,fn:=N,tmps:=j.tmps,params:=L,assign:=y,body:=z,defers:=xs.heap.size});obtain⟨f,r⟩:∃f:Loop,f={state:=.ready,pending:=E,fn:=N,tmps:=j.tmps,params:=L,assign:=y,body:=z,defers:=xs.heap.size}:=⟨_,A⟩;rw[<-r] at F;obtain⟨a,W⟩:∃a,a=(xs.alloc (Ek (C []))).heap.size:=⟨_,A⟩;have ao:xs.heap.size+1=a:=by rw[W];show xs.heap.size+1=(xs.heap.push _).size;simp
 rw[<-W] at F;have al:=t.b an;have ai:=A9.ai (p:=BL.o a (Gn f)::BL.o xs.heap.size (Ek (C []))::lg) (ak a) (Cj (l₁:=[BL.o a (Gn f),BL.o xs.heap.size (Ek (C []))])) (u:=λ_ q=>q=yn++[BL.o a (Gn f),BL.o xs.heap.size (Ek (C []))]) (λv q aw=>by rw[aw]);have aj:=ai.ag _ _ _ F;refine⟨a,[{target:=Q2 xs.heap.size,args:=#[]}],(xs.alloc (Ek (C []))).alloc (Gn f),⟨.fn (CA p) n,o++#[BZ (GM a) #[] #[]]⟩,(xs.alloc (Ek (C []))).alloc (Gn f),p,(o++#[BZ (GM a) #[] #[]])++n,(xs.alloc (Ek (C []))).alloc (Gn f),?_,?_,λ_ _=>AA,?_,λU=>AI 1,?_⟩
 ·rw[<-ao,r];exact run_enterLoop_outer ..
 ·simp only[resolve,rangeCall,al,Deferred.ofValue];rw[show(#[Operand.const (BZ (GM a) #[] #[])]).map j.eval=#[BZ (GM a) #[] #[]] by simp[Act.eval]];rfl
 ·simp only[invoke];exact xx.x _ _ am _ _
 ·refine Ny.2 ?_;rw[show(o++#[BZ (GM a) #[] #[]])++n=(o.toList++[BZ (GM a) #[] #[]]++n.toList).toArray by apply Array.ext';simp];refine aj.mono ?_;rintro ax m ⟨v,q,rfl,ag,au⟩;subst ag;have Z:BA xw yg (.o a (Gn f)::.o xs.heap.size (Ek (C []))::yn) m:=au.j (Cj (l₂:=[BL.o a (Gn f),BL.o xs.heap.size (Ek (C []))]));have Y:m.heap[a]?=C (Gn f):=Z.i (f:=a);have ap:a<m.heap.size:=(FY.1 Y).1;refine⟨E,m.putObj a (Gn {f with state:=.exhausted}),?_,?_⟩
  ·have:=run_endLoop (P:=xx.b) Y (by rw[r];exactλU=>by cases U);rw[this,r]
  ·have G:BA xw yg (.o a (Gn {f with state:=.exhausted})::.o xs.heap.size (Ek (C []))::yn) (m.putObj a (Gn {f with state:=.exhausted})):=Z.x (f:=a) (ADg ..) (ADd ap);have av:BA xw yg (.o xs.heap.size (Ek (C []))::yn) (m.putObj a (Gn {f with state:=.exhausted})):=⟨⟨AQ.y _ _ _ G.b.f,G.b.b⟩,G.g⟩;have aq:=ah xs.heap.size _ av ⟨A,t.f,t.d⟩;show x .normal {j with defers:=[{target:=Q2 xs.heap.size,args:=#[]}]++j.defers} _;rw[t.e];exact aq
variable{xv:M->S->Prop}
def A9.ap{n:Fr}{args:G M}{aa af ag U aw ax:Code}{b:B}{bm:Ai Tmp}(ba:xx.h l=C n)
 (a3:n.body=C (aa.seq (af.seq ((ag.seq (.block b (.rangeFunc yo bm aw ax))).seq (U.seq .ret)))))(b6:args.length<=n.ntmps)
 (L:ND xx n.ntmps (aa.seq (af.seq ag)) (Ks 0 args) lg (a' xx n yo U xv) (λ_ _=>Be) (λ_ _ _=>Be)):A9 xx l args lg xv:=by
 refine⟨λt y m am=>?_⟩;refine Ny.1 (callsIn_of_wp_marks (F:=Fence.wide) (n:=1) (xx.ab _ _ ba) a3 AA (ADu.2 ?_) A);have a5:CM [] (Ks 0 args) n.ntmps {tmps:=args.toArray++Mo (n.ntmps-args.toArray.size) Cw,defers:=[]}:=by
  refine⟨A,Y5,λbp v bi=>?_⟩;obtain⟨_,x⟩:=Ob bi;rw[Ta] at x;have Y:=(Cx.1 x).1;show(args.toArray++Mo (n.ntmps-args.toArray.size) Cw)[bp]?=C v;rw[Array.getElem?_append_left (by simpa using Y)];simpa using x
 obtain⟨z,W⟩:∃z:Exit->Act->AG->Prop,z=λF f ah=>F=.ret/\LeavesInM Fence.wide 1 xx.b n f.tmps (λF ah=>∃v ai,F=BT v/\xv v ai/\BA t y ai ah) f.defers .returning ah:=⟨_,A⟩;have N:∀o f m,¬z (.panic o) f m:=λo f m a=>by rw[W] at a;cases a.1
 refine wp_mono (Q:=z) ?_ λF f m a=>by
  rw[W] at a;obtain⟨rfl,a⟩:=a;exact a
 refine Q8 (H3 aa (a:=[]) L a5 am (λo f m=>N o f m) ?_ (λ_ _ _ _ a=>a.elim) (λ_ _ _ _ _ a=>a.elim));intro b1 bq bt b9 az a6 bd;refine Q8 (H3 af (a:=[]) az a6 bd (λo f m=>N o f m) ?_ (λ_ _ _ _ a=>a.elim) (λ_ _ _ _ _ a=>a.elim));intro b2 br bu ca x a7 be;refine Q8 (Q8 (H3 ag (a:=[]) x a7 be (λo f m=>N o f m) ?_ (λ_ _ _ _ a=>a.elim) (λ_ _ _ _ _ a=>a.elim)));intro b3 bs bv cb a0 a8 bf;obtain⟨b7,b5,b8,bx,au,bc,bb,a4,a1⟩:=a0;refine wp_block (ACy a8 bf bc bb a4 λj ar ao a9=>?_);show(U.seq .ret).wp xx.b _ _ _;have bg:Dn t y (au.map BL.y++[L9 j (Ek (C []))]) ar:=by
  have:=(ao.j (Cj (l₁:=[BL.o j (Ek (C []))]))).b;rwa[CU] at this
 obtain⟨av,bj,bk,bl⟩:=Dn.t bg;refine Q8 (H3 U a1 a9 (Y:=av) (Z:=ar) ⟨Dn.s bk,OS.h ao bj⟩ (λo f m=>N o f m) ?_ (λ_ _ _ _ a=>a.elim) (λ_ _ _ _ _ a=>a.elim));intro b4 p aj r a2 ak ap;refine wp_ret ?_;have bh:=bl r (p.map BL.y) ap.b.f ap.b.b;have aq:BA t y (.o j (Ek (C []))::p) r:=by
  refine BA.j (a:=p++[BL.o j (Ek (C []))]) ⟨?_,am.g⟩ Cj;rw[CU];exact bh
 have al:r.heap[j]?=C (Ek (C [])):=aq.i (f:=j);have Y:j<r.heap.size:=(FY.1 al).1;have Z:BA t y (.o j (Ek E)::p) (r.putObj j (Ek E)):=aq.x (f:=j) (ADg ..) (ADd Y);have an:BA t y p (r.putObj j (Ek E)):=⟨⟨AQ.y _ _ _ Z.b.f,Z.b.b⟩,Z.g⟩;obtain⟨q,bn,bo⟩:=NE ak an a2;have ay:results n aj.tmps=(do let q<-n.results.mapM (KD aj.tmps);Pure.pure (if L:q.size=1 then q[0] else AL q):Sem M):=A;rw[W];refine⟨A,?_⟩;rw[ak.e];refine⟨(λL=>by cases L),AT ⟨j,_,A,run_takeDeferred al,FA q,?_,_,p,A,bn,an⟩⟩;rw[ay,Array.mapM_eq_mapM_toList,Ak,Sem.run_map];rw[bo];simp only[Bp]
 match q with
 |[]=>rfl
 |[v]=>rfl
 |v::u::j=>rfl
abbrev DB(l a m f:B)(j:G B)(n:G M):S:=[.t l [Q a m f] 408,AJ a j n]
def W0(a:B)(l:S)(n:1<=a/\a<=256):Z9 174 [N a] l λv m=>∃f j,v=AL #[P f,N 0]/\m=DB f j a a (U a 0) []++l:=by
 have o:=Aa ((a:F)<1);have p:=Aa ((a:F)>256);refine A9.y ?_;refine L ?_;refine Cr.t (p:=a) (j:=a) (m:=_) (u:=_) A A A A A A ⟨AI _,?_,Y⟩ (U a (W 0)) ?_ (λj=>?_)
 ·show 1*a<=_;omega
 ·show D8 [W 0] (a*1)=_;rw[B3];exact DM _ _
 refine L ?_;intro f;refine L ?_;refine⟨f,j,A,?_⟩;show _=DB f j a a (U a 0) []++l;show _=BL.t f [Q j a a] _::BL.t j ((U a 0).map W++[]) _::l;rw[FF,B1];rfl
def Jp(a:l<p)(f:q.length=p):(q.map W++er)[0+l*1]?=C (W (q.getD l 0)):=by
 rw[show 0+l*1=l by omega,Di Y5,D_,AY,Aw Y];rfl
def h0(j n f l a:B)(m:G B)(p:G M)(q:a<f):AK 385 [P j,N a] (DB j n f l m p) (X R):=by
 have r:=B7 ((a:F)≥0);have o:=B7 ((a:F)<f);refine A9.y ?_;refine L ?_;refine⟨?_,A⟩;show X (Ac ((a:F)<f))=_;rw[o]
def gV(l n j m f:B)(a:G B)(p:G M)(o:f<j)(q:a.length=j)(t:∀r∈a,r<256):AK 294 [P l,N f] (DB l n j m a p) (X (a.getD f 0==0)):=by
 refine A9.y (L ?_);refine A9.ab (h0 l n j m f a p o) (A7 ?_);refine Ms.mk (v:=W (a.getD f 0)) ?_ ?_
 ·exact Jp o q
 refine L ?_;refine⟨?_,A⟩;show X (((a.getD f 0:B):F)==0)=_;congr 1;rw[Iy];simp
def M5(a:B):B:=if a=2 then 0 else a
def RY(a:G B):G B:=a.map M5
def GW(a:G B)(f:B):G B:=(a.take f).map M5++a.drop f
def P2(a:G B)(f:B):(GW a f).length=a.length:=by simp[GW];omega
def gC(a:q.length=l):GW q l=RY q:=by
 unfold GW RY;rw[DP Y,List.drop_eq_nil_of_le Y,B1]
def NI(a:G B)(f j:B)(n:f<=a.length):(GW a f)[j]?=if j<f then(a[j]?).map M5 else a[j]?:=by
 unfold GW;have m:((a.take f).map M5).length=f:=Y5;split
 ·rename_i l;rw[Di Y,D_,Mi l]
 ·rename_i l;rw[List.getElem?_append_right Y,m,FU];congr 1;omega
def gF(f:l<q.length)(a:q.getD l 0=2):(GW q l).set l 0=GW q (l+1):=by
 refine Gj λj=>?_;rw[List.getElem?_set,NI _ _ _ Y,NI _ _ _ Y,P2];rw[AY,Aw f] at a;by_cases m:l=j
 ·subst m;rw[A8 A,A8 f,A8 Y,Aw f];simp only[IG] at a;simp[a,M5]
 ·rw[A1 m];by_cases n:j<l
  ·rw[A8 n,A8 Y]
  ·rw[A1 n,A1 Y]
def gE(f:l<q.length)(a:q.getD l 0≠2):GW q l=GW q (l+1):=by
 refine Gj λj=>?_;rw[NI _ _ _ Y,NI _ _ _ Y];rw[AY,Aw f] at a;by_cases n:l=j
 ·subst n;rw[A1 Y,A8 Y,Aw f];simp only[IG] at a;simp[a,M5]
 ·by_cases m:j<l
  ·rw[A8 m,A8 Y]
  ·rw[A1 m,A1 Y]
def gD(a:l<q.length):(GW q l).getD l 0=q.getD l 0:=by
 rw[AY,NI _ _ _ Y,A1 Y,AY]
def MO(f:G B)(j:G M)(a v:B)(l:a<f.length):(f.map W++j).set (0+a*1) (W v)=(f.set a v).map W++j:=by
 rw[show 0+a*1=a by omega,List.set_append_left _ _ (by simpa using l),J_]
def AFg{P:Prop}(h:P:=by rw[List.drop_zero,List.take_append_of_le_length (by simp;omega),List.take_of_length_le (by simp;omega)]):P:=h
def Y9{P:Prop}(h:P:=by rw[beq_eq_false_iff_ne];omega):P:=h
def gT(o q f p:B)(j:G B)(r:G M)(u:j.length=f)(ah:f<=256)(aa:∀U∈j,U<256):
 Z9 447 [P o] (DB o q f p j r) λv z=>∃n m,v=Q n f (f+m.length)/\z=AJ n (RY j) m::DB o q f p j r:=by
 refine A9.y ?_;refine L ?_;refine A9.u (HT q 0 f p j (j.map W++r) 5 Y AFg u) ?_;rintro v Z ⟨n,m,af,rfl,rfl⟩;refine L ?_;refine EY.f (m:=B) (λa=>f-a) (λa=>a<=f) (λa=>[(0,P o),(3,Q n f (f+m.length)),(11,Q n f (f+m.length)),(12,N f),(13,N (a:B))]) (λa=>AJ n (GW j a) m::DB o q f p j r) 0 (Af _) ⟨A,A,A,A,A,AA⟩ ?_ ?_
 ·exact AQ.b
 intro a ag y;refine EY.b (IK.mk (λl=>?_) (λl=>?_))
 ·have l:a<f:=by simp at l;omega
  refine A7 ?_;refine Ms.mk (v:=W (j.getD a 0)) ?_ ?_
  ·have:=Jp (er:=m) l ((P2 j a).trans u);rwa[gD Y] at this
  refine L ?_;by_cases t:j.getD a 0=2
  ·have S:(((j.getD a 0:B):F)==2)=R:=by rw[t];rfl
   refine L ?_;refine Qh.mk a A l (L ?_);refine Mw.mk ⟨A,by simp[P2];omega⟩ (L ?_);refine F'.mk ((a+1:B):F) Y2 (y (a+1) l Y ⟨A,A,A,A,A,AA⟩ ?_);have x:=MO (GW j a) m a 0 (by rw[P2];omega);rw[gF Y t] at x;show AQ (BL.t n (((GW j a).map W++m).set (0+a*1) (W 0)) _::_) _;rw[x];exact .w _
  ·have S:(((j.getD a 0:B):F)==2)=I:=Y9;refine L ?_;refine F'.mk ((a+1:B):F) Y2 (y (a+1) l Y ⟨A,A,A,A,A,AA⟩ ?_);rw[<-gE Y t];exact .w _
 ·have l:a=f:=by simp at l;omega
  subst l;refine L ?_;refine⟨n,m,A,?_⟩;rw[gC u]
def P4(a:B):Prop:=a=0\/a=1\/a=3
def gU(a:B)(f:S)(j:P4 a):AK 264 [W a] f (X I):=by
 rcases j with rfl|rfl|rfl
 ·refine A9.y ?_;refine L ?_;exact⟨A,A⟩
 ·refine A9.y ?_;refine L ?_;exact⟨A,A⟩
 ·refine A9.y ?_;refine L ?_;exact⟨A,A⟩
def AFh{P:Prop}(h:P:=by rw[List.getD_eq_getElem?_getD,List.getElem?_eq_getElem (by omega)];exact List.getElem_mem _):P:=h
def gS(m f n:B)(j:G B)(o:G M)(p:j.length=f)(x:f<=256)(q:∀t∈j,P4 t):
 AK 339 [Q m f n,BZ (CA 264) #[] #[]] [AJ m j o] (N (-1)):=by
 refine A9.y (L ?_);refine EY.f (m:=B) (λa=>f-a) (λa=>a<=f) (λa=>[(0,Q m f n),(1,BZ (CA 264) #[] #[]),(7,N f),(8,N (a:B))]) (λ_=>[AJ m j o]) 0 (Af _) ⟨A,A,A,A,AA⟩ (.w _) ?_;intro a u r;refine EY.b (IK.mk (λl=>?_) (λl=>?_))
 ·have l:a<f:=by simp at l;omega
  refine A7 ?_;refine Ms.mk (v:=W (j.getD a 0)) (Jp l p) (L ?_);refine A9.ab (gU (j.getD a 0) _ (q _ AFh)) ?_;refine L ?_;exact F'.mk ((a+1:B):F) Y2 (r (a+1) l Y ⟨A,A,A,A,AA⟩ (.w _))
 ·refine L ?_;exact⟨A,A⟩
def gL(j f l:B)(a:G B)(m:G M)(n:a.length=f)(p:f<=256)(o:∀q∈a,P4 q):
 AK 263 [Q j f l,BZ (CA 264) #[] #[]] [AJ j a m] (X I):=by
 refine A9.y (L ?_);refine A9.ab (gS j f l a m n p o) (L ?_);exact⟨A,A⟩
def AFM(a l p:B)(f:G B)(j:G M)(q:1<=a/\a<=256)(r:f.length=a)(u:∀x∈f,P4 x):
 Z9 176 [N a,Q l a p] [AJ l f j] λv o=>∃m n,v=AL #[P m,N 0]/\o=AJ l f j::DB m n a a f []:=by
 have y:((a:F)!=(a:F))=I:=Y1;refine A9.y (L ?_);refine A9.z (W0 a [AJ l f j] q) ?_;rintro v o ⟨m,n,rfl,rfl⟩;refine L ?_;refine A9.b (gL l a p f j r q.2 u) ?_;refine L ?_;refine Cr.aa (n:=_) A A A A A A a Y (f.map W) ?_ ⟨?_,?_⟩ (Gy f) ?_
 ·show((f.map W++j).drop 0).take (a*1)=_;rw[CJ,B3,Eg Y5,DP Y5]
 ·show 0+a*1<=(f.map W++j).length;simp;omega
 ·show 0+a*1<=((U a 0).map W++[]).length;simp
 refine L ?_;refine⟨m,n,A,?_⟩;have t:Bf ((U a 0).map W++[]) 0 (f.map W)=f.map W++[]:=by
  rw[N_ (by simp[r]),B1]
 show _::_::BL.t n (Bf ((U a 0).map W++[]) 0 (f.map W)) _::_=_;rw[t]
def gI(o p a n:B)(f:G B)(q:G M)(u:f.length=a)(z:a<=256):
 Z9 516 [P o] (DB o p a n f q) λv r=>∃j m l t,v=BZ (CA 562) #[] #[P m]/\r=.t m [Q j a (a+l.length)] t::AJ j f l::DB o p a n f q:=by
 refine A9.t ?_;refine L ?_;refine A9.u (HT p 0 a n f (f.map W++q) 5 Y AFg u) ?_;rintro v x ⟨j,l,y,rfl,rfl⟩;refine L ?_;intro m;refine A7 ?_;exact⟨.t m [Q j a (a+l.length)] _::AJ j f l::DB o p a n f q,AQ.b,j,m,l,_,A,A⟩
def gH(r j o f n:B)(l:G B)(p:G M)(q:AU)(u:l.length=f)(U:f<=256)(x:∀z∈l,z=0):
 Z9 562 [BZ (GM r) #[] #[],P o] [.t o [Q j f n] q,AJ j l p] λv t=>t=[.t o [Q j f n] q,AJ j l p]:=by
 refine A9.y ?_;refine L ?_;refine EY.f (m:=B) (λa=>f-a) (λa=>a<=f) (λa=>[(0,BZ (GM r) #[] #[]),(5,Q j f n),(6,N f),(7,N (a:B))]) (λ_=>[.t o [Q j f n] q,AJ j l p]) 0 (Af _) ⟨A,A,A,A,AA⟩ (.w _) ?_;intro a S y;refine EY.b (IK.mk (λm=>?_) (λm=>?_))
 ·have m:a<f:=by simp at m;omega
  refine A7 ?_;refine Ms.mk (v:=W 0) ?_ ?_
  ·have:=Jp (er:=p) m u;rwa[x (l.getD a 0) AFh] at this
  refine L ?_;exact F'.mk ((a+1:B):F) Y2 (y (a+1) m Y ⟨A,A,A,A,AA⟩ (.w _))
 ·refine L ?_;rfl
def gK(j m a l x:B)(f:G B)(n:G M)(t:f.length=a)(u:a<=256)(U:∀Y∈f,Y=0):
 AK 451 [P j,N x] (DB j m a l f n) (D Ax 0):=by
 refine A9.aa (A9.ap A A (by exact DW A) ?_);intro z;refine L ?_;intro F;refine A7 ?_;refine A9.u (gI j m a l f n t u) ?_;rintro v y ⟨p,q,o,r,rfl,rfl⟩;refine L ?_;refine⟨562,_,#[],#[P q],[.t q [Q p a (a+o.length)] r,AJ p f o]++(DB j m a l f n++[BL.t F (Cb (B9 (D Ax 0)) 0 (D Ax 0)) 30,BL.t z (B9 (N (x:B))) 3]),A,A,λW=>?_,?_⟩
 ·refine A9.ai (gH W p q a (a+o.length) f o r t u U) (Bi _) (λv y S=>?_);rw[S];rfl
 refine L ?_;exact⟨DB j m a l f n,AQ.b,A,A⟩
section
open Go.ChangeMaps (setBlock)
def Uu(f:xx.c l=C (.int H))(j:F)(b:AE)(a:AG):(IJ b (p+1) l (N j)).run xx.b a=Ao () a:=by
 rw[IJ,Ak,xx.d f];rfl
variable{yy:Ai M}
def X2{v:M}(j:xx.c l=C (.int H))(m:yy[p]?=C v)(a:AG):(part l yy p).run xx.b a=Ao v a:=by
 unfold part;have f:=xx.y j a;have:J6 (.int H)=I:=A;rw[this] at f;rw[Ak,f];simp[m]
def cU{f j:Field}(u:xx.c l=C (.struct #[f,j]))(o:xx.c f.type=C (.int H))(q:xx.c j.type=C (.int H))(x:f.offset=0)(y:j.offset=1)(m n:F)(b:AE)(a:AG):
 (IJ b (p+2) l (AV #[N m,N n])).run xx.b a=Ao () a:=by
 rw[IJ,Ak,xx.d u];have z:∀a,(part f.type #[N m,N n] f.offset).run xx.b a=Ao (N m) a:=λa=>X2 o (by rw[x];rfl) a;have G:∀a,(part j.type #[N m,N n] j.offset).run xx.b a=Ao (N n) a:=λa=>X2 q (by rw[y];rfl) a;have r:∀a,(IJ b (p+1) f.type (N m)).run xx.b a=Ao () a:=λa=>Uu o m b a;have t:∀a,(IJ b (p+1) j.type (N n)).run xx.b a=Ao () a:=λa=>Uu q n b a;simp only[Bp];by_cases L:f.name="_"<;>by_cases M:j.name="_"<;>simp[L,M,Ak,z,G,r,t]
def E7.t{o:Al}{m n:Field}{j b:F}(W:o.op=.lookup l yo yu I)(aa:xx.c l=C (.map p np))(r:xx.c p=C (.struct #[m,n]))(t:xx.c m.type=C (.int H))(u:xx.c n.type=C (.int H))(ai:m.offset=0)(aj:n.offset=1)(U:xx.e np=C yq)(ah:yq.zero=C yb)
 (af:CR yc yo=C (Ah (C xu)))(ag:CR yc yu=C (AV #[N j,N b]))[z:Cz lg xu (AM #[] yi)](x:yr yb (.y λf=>Cz f xu (AM #[] yi))):E7 xx o yc lg yr:=by
 refine⟨_,_,x,z,λam al ak an a f q Z Y=>?_⟩;unfold Bh;rw[W];simp only[q.b af,q.b ag];have G:Cz f xu (AM #[] yi):=Y;have L:(getObj xu).run xx.b a=Ao (AM #[] yi) a:=run_getObj_map a xu #[] yi (BA.i (p:=G) Z);have y:(IJ R 10000 p (AV #[N j,N b])).run xx.b a=Ao () a:=cU r t u ai aj j b R a;unfold Ji;simp only[Ak,xx.d aa,Bp,L,Sem.run_pure];rw[show(#[]:Ai CO).isEmpty=R from A,y];simp[Instr.findKey,xx.d r,Instr.findNow,KL,xx.t U,ah]
abbrev Cn(j a m l f:B):S:=[.t j [N m,O E 0 0,N l,Ah (C a)] 455,.o a (AM #[] f)]
def ACh(a:B)(l:S)(n:a<=64):Z9 268 [N a] l λv m=>∃f j,v=AL #[P f,N 0]/\m=Cn f j a 0 0++l:=by
 have o:=Aa ((a:F)<0);have p:=Aa ((a:F)>64);refine A9.y ?_;refine L ?_;intro j;refine L ?_;intro f;refine L ?_;exact⟨f,j,A,A⟩
def ACf(a j m l f n b:B):AK 515 [P a,N n,N b] (Cn a j m l f) (AL #[O E 0 0,X I]):=by
 refine A9.t ?_;intro o;refine L ?_;intro p;refine L ?_;intro q;refine A7 ?_;refine E7.t A A A A A A A A A A A (A7 ?_);exact⟨Cn a j m l f,AQ.b,A,A⟩
def ACg(f:M)(a:S):AK 461 [O E 0 0,f] a (N (-1)):=by
 refine A9.y (L ?_);refine EY.b (L ?_);exact⟨A,A⟩
def ACd(f:M)(a:S):AK 386 [O E 0 0,f] a (O E 0 0):=by
 refine A9.y (L ?_);refine A9.ab (ACg f a) (L ?_);exact⟨A,A⟩
def ACi(n:M)(a j m l f:B):Z9 297 [P a,n] (Cn a j m l f) λv o=>o=Cn a j m l f:=by
 refine A9.t ?_;refine L ?_;refine EY.b ?_;refine L ?_;refine A9.ab (ACd n _) (A7 ?_);exact⟨Cn a j m l f,AQ.b,A⟩
def ACe(a j m l f n b:B):AK 213 [P a,N n,N b] (Cn a j m l f) (X I):=by
 refine A9.t (L ?_);intro q;refine A7 ?_;refine E7.t A A A A A A A A A A A (L ?_);refine A9.u (ACi _ a j m l f) (λv p o=>?_);subst o;refine L ?_;exact⟨Cn a j m l f,AQ.b,A,A⟩
end
def ACc(a:S):AK 301 [O E 0 0] a (O E 0 0):=by
 refine A9.y ?_;refine L ?_;exact⟨A,A⟩
def AC9(f l n m j:B):Z9 223 [P f] (Cn f l n m j) λv o=>∃a,v=BZ (CA 308) #[] #[P a]/\o=.t a [O E 0 0] 452::Cn f l n m j:=by
 refine A9.y ?_;refine L ?_;refine A9.ab (ACc _) ?_;refine L ?_;intro a;refine A7 ?_;exact⟨a,A,A⟩
def AC8(l a:B)(f:AU):Z9 308 [BZ (GM l) #[] #[],P a] [.t a [O E 0 0] f] λv j=>j=[.t a [O E 0 0] f]:=by
 refine A9.y ?_;refine L ?_;refine EY.b ?_;refine L ?_;rfl
def Uq(l a m o n f:B)(j:G M)(p:AU)(u:j[15]?=C (P a)):
 AK 139 [P l] (.t l j p::Cn a m o n f) (O E 0 0):=by
 refine A9.aa (A9.ap A A (by exact DW A) (L ?_));intro t;refine L ?_;refine Ms.mk u (L ?_);refine A9.u (AC9 a m o n f) ?_;rintro v r ⟨q,rfl,rfl⟩;refine L ?_;refine⟨308,_,#[],#[P q],[.t q [O E 0 0] 452]++(Cn a m o n f++[BL.t t (B9 (O E 0 0)) 221,.t l j p]),A,A,λy=>?_,?_⟩
 ·refine A9.ai (AC8 y q _) (Bi _) (λv r x=>?_);rw[x];rfl
 refine L ?_;exact⟨.t l j p::Cn a m o n f,AQ.b,A,A⟩
section
open Go Go.RowKit Go.Maps
open Go.ChangeMaps (setBlock heap_setBlock_same heap_setBlock_other)
section
variable{f:Type}{a:Program}{d:AU}{c:f->M×M}{w e:AG}{b:B}{xs:G f}
def EG(c:f->M×M)(w:AG)(b:B)(xs:G f):Prop:=
 ∃j m,w.heap[b]?=C (AM j m)/\(∀a∈j.toList,∃l∈xs,c l=(a.key,a.val))/\∀l∈xs,∃a∈j.toList,c l=(a.key,a.val)
def EG.g(j:EG c w b xs){n:G f}(m:∀a,a∈xs↔a∈n):EG c w b n:=by
 obtain⟨q,o,u,r,t⟩:=j;refine⟨q,o,u,λp x=>?_,λa l=>t a ((m a).2 l)⟩;obtain⟨a,l,j⟩:=r p x;exact⟨a,(m a).1 l,j⟩
def EG.s(w:AG):EG c (w.alloc (AM #[] 0)) w.heap.size []:=
 ⟨#[],0,(AFI w _).1,Y1,Y1⟩
def EG.h(a:EG c w b xs):b<w.heap.size:=by
 obtain⟨l,j,f,_⟩:=a;exact(FY.1 f).1
def EG.below(a:EG c w b xs)(o:Below w.heap.size w e):EG c e b xs:=by
 have p:=a.h;obtain⟨j,f,l,m,n⟩:=a;exact⟨j,f,by rw[o.block b p];exact l,m,n⟩
def EG.put(N:EG c w b xs)(y:Keyed a d){M l:AU}(af:a.underlying M=C (.map d l))(W:∀j∈xs,∃q,Hg a d (c j).1=C q)(o:f)(ag:∃q,Hg a d (c o).1=C q)(aa:∀j∈xs,(c j).1≠(c o).1):
 ∃e,(Lk M (Ah (C b)) (c o).1 (c o).2).run a w=Ao () e/\EG c e b (o::xs)/\w.grownBy e (C b):=by
 obtain⟨r,u,t,x,S⟩:=N;obtain⟨ak,F⟩:=ag;have Y:∀l∈r.toList,∃q,Hg a d l.key=C q:=λl n=>by
  obtain⟨j,m,p⟩:=x l n;obtain⟨q,B⟩:=W j m;rw[p] at B;exact⟨q,B⟩
 rcases y.find w F r.toList Y with⟨G,L⟩|⟨aj,z,G,L,ah⟩
 ·refine⟨setBlock w b (AM (r.push ⟨(c o).1,(c o).2,u⟩) (u+1)),?_,⟨_,_,heap_setBlock_same t _,?_,?_⟩,⟨A,A,A,by simp[setBlock],λai _ U=>heap_setBlock_other t _ (λl=>U (by rw[l]))⟩⟩
  ·simp[Lk,Io af,Ts t,y.check w I F,G,AFJ _ t,Nw,setBlock]
  ·intro l n;simp only[Array.toList_push,Bs,CZ] at n;rcases n with n|rfl
   ·obtain⟨j,m,p⟩:=x l n;exact⟨j,by simp[m],p⟩
   ·exact⟨o,Y1,A⟩
  ·intro j m;rcases C2.1 m with rfl|m
   ·exact⟨⟨(c j).1,(c j).2,u⟩,Y1,A⟩
   ·obtain⟨l,n,p⟩:=S j m;exact⟨l,by simp[Array.mem_toList_iff.1 n],p⟩
 ·exfalso;have Z:z∈r.toList:=FW L;obtain⟨j,m,p⟩:=x z Z;exact aa j m (by rw[p];exact ah)
def EG.i(N:EG c w b xs)(x:Keyed a d){M m:AU}(aa:a.underlying M=C (.map d m))(z:∀l∈xs,∃o,Hg a d (c l).1=C o)(j:f)(G:j∈xs)(Z:∀l∈xs,(c l).1=(c j).1->(c l).2=(c j).2):
 (Ji M (Ah (C b)) (c j).1 R).run a w=Ao (AL #[(c j).2,X R]) w:=by
 obtain⟨q,ah,U,y,S⟩:=N;obtain⟨aj,F⟩:=z j G;have W:∀m∈q.toList,∃o,Hg a d m.key=C o:=λm r=>by
  obtain⟨l,t,n⟩:=y m r;obtain⟨o,B⟩:=z l t;rw[n] at B;exact⟨o,B⟩
 rcases x.find w F q.toList W with⟨L,u⟩|⟨ai,p,L,u,ag⟩
 ·exfalso;obtain⟨m,r,n⟩:=S j G;exact u m r (by rw[n])
 ·have Y:p∈q.toList:=FW u;obtain⟨l,t,n⟩:=y p Y;have af:p.val=(c j).2:=by
   have:=Z l t (by rw[n];exact ag);rw[n] at this;exact this
  simp[Ji,Io aa,Ts U,x.check w _ F,L,Nw,af]
def EG.j(G:EG c w b xs)(q:Keyed a d){B l:AU}(aa:a.underlying B=C (.map d l))(S:∀j∈xs,∃f,Hg a d (c j).1=C f){F:M}(af:(KL l).run a w=Ao F w){p:M}(U:∃f,Hg a d p=C f)(Z:∀j∈xs,(c j).1≠p):
 (Ji B (Ah (C b)) p R).run a w=Ao (AL #[F,X I]) w:=by
 obtain⟨n,ah,L,t,ai⟩:=G;obtain⟨ak,x⟩:=U;have W:∀l∈n.toList,∃f,Hg a d l.key=C f:=λl N=>by
  obtain⟨j,o,m⟩:=t l N;obtain⟨f,u⟩:=S j o;rw[m] at u;exact⟨f,u⟩
 rcases q.find w x n.toList W with⟨y,z⟩|⟨aj,r,y,z,ag⟩
 ·simp[Ji,Io aa,Ts L,q.check w _ x,y,af,Nw]
 ·exfalso;have Y:r∈n.toList:=FW z;obtain⟨j,o,m⟩:=t r Y;exact Z j o (by rw[m];exact ag)
end
def ACx{f:Type}{a:Program}{w:AG}{q:Ai Al}{r:G Al}{o:Al}{l:Act}{p:Exit->Act->AG->Prop}
 (N:o.guard=E)(m u v:Cf)(t:AU)(Y:o.op=aQ t m u v)(d y:AU)(x:Keyed a d)(aa:a.underlying t=C (.map d y))(c:f->M×M)(b:B)(xs:G f)
 (U:l.eval m=Ah (C b))(z:EG c w b xs)(j:f)(ag:l.eval u=(c j).1)(af:l.eval v=(c j).2)(S:∀j∈xs,∃n,Hg a d (c j).1=C n)(ah:∃n,Hg a d (c j).1=C n)(W:∀ak∈xs,(c ak).1≠(c j).1)
 (F:∀e,EG c e b (j::xs)->w.grownBy e (C b)->Mc a q p r (l.put o.dst Cw) e):
 Mc a q p (o::r) l w:=by
 refine wpList_plain N λal L=>?_;obtain⟨e,Z,ai,aj⟩:=z.put x aa S j ah W;unfold Oper.wp;simp[Bh,Y,U,ag,af,Z,Nw];exact L _ _ (F e ai aj)
end
section
open Go Go.RowKit Go.Maps
abbrev Lw:=F×F×F×F×F
def EL(a:Lw):M×M:=(AV #[N a.1,N a.2.1],AV #[N a.2.2.1,N a.2.2.2.1,N a.2.2.2.2])
def Ed:G (B×Lw):=[(3,0,1,0,1,0),(6,1,2,0,2,0),(9,2,3,0,3,0),(12,3,7,2,4,3),(15,3,9,1,3,0),(18,3,13,1,3,0),(21,4,7,3,3,0),(24,4,13,1,4,0),(27,6,12,0,4,0),(30,6,13,1,6,0)]
def Ds:G Lw:=[(4,25,0,6,0),(4,24,0,6,0),(4,38,0,4,0),(4,36,0,4,0),(4,35,0,4,0),(4,30,0,4,0),(4,29,0,4,0),(4,28,0,4,0),(4,23,0,4,0),(4,18,0,4,0),(4,17,0,4,0),(4,8,0,4,0),(4,6,0,4,0)]++Ed.map (·.2)
def PD:Keyed An 591:=Keyed.of_law (deep_law (m:=3) Y Y3 Y3 Y3)
def WD(f a:F)(r:J1 f)(o:J1 a):∃t,Hg An 591 (AV #[N f,N a])=C t:=by
 have x:(Lit.int H f).wf=R:=WalkArith.wf_i64 r;have u:(Lit.int H a).wf=R:=WalkArith.wf_i64 o;obtain⟨m,q⟩:∃m,Tryz.prog.types.size=m+1:=⟨Tryz.prog.types.size-1,by decide+kernel⟩;have p:Tryz.prog.keyType 591=R:=Y3;have l:Tryz.prog.cellsOf 591=2:=Y3;have j:Tryz.prog.cellsOf 3=1:=Y3;have n:Value.formed An 591 (AV #[N f,N a])=R:=Y3;unfold Hg;simp only[AD6,p,n,q];unfold Program.keyLits;simp[AD6,l,j,Value.cells,Program.keyLits,AD4,x,u]
def MX:∀a∈Ds,∃l,Hg An 591 (EL a).1=C l:=by
 intro a j;have f:∀a∈Ds,(0<=a.1/\a.1<=100)/\(0<=a.2.1/\a.2.1<=100):=Z;obtain⟨m,n⟩:=f a j;exact WD _ _ ⟨Y,Y⟩ ⟨Y,Y⟩
def Sz{a f:Lw}(j:(EL a).1=(EL f).1):a.1=f.1/\a.2.1=f.2.1:=by simpa[EL] using j
def ACk:∀a∈Ed,∀f∈Ed,a.2.1=f.2.1/\a.2.2.1=f.2.2.1->a.1=f.1:=Z
def ACm:∀a∈Ds,∀f∈Ds,a.1=f.1/\a.2.1=f.2.1->a=f:=Z
def Yx:∀a∈Ed,a.2∈Ds:=Z
def ACn{q:B->AE}{b:B}(l:B)(o:Lw)(p:(l,o)∈Ed)(S:q l=I)(z:EG EL xs b ((Ed.filter λa=>q a.1).map (·.2))):
 ∃n,(Lk 588 (Ah (C b)) (EL o).1 (EL o).2).run An xs=Ao () n/\EG EL n b ((Ed.filter λa=>(λu=>q u||u==l) a.1).map (·.2))/\xs.grownBy n (C b):=by
 obtain⟨n,F,G,L⟩:=z.put PD TD (λr j=>by
  obtain⟨a,f,rfl⟩:=CI.1 j;exact MX _ (Yx _ (CF.1 f).1)) o (MX _ (Yx _ p)) (λr j y=>by
  obtain⟨a,f,rfl⟩:=CI.1 j;have:=ACk _ (CF.1 f).1 _ p (Sz y);have m:=(CF.1 f).2;simp only at this;rw[this,S] at m;cases m)
 refine⟨n,F,G.g λr=>?_,L⟩;constructor
 ·intro j;rcases C2.1 j with rfl|j
  ·exact CI.2 ⟨(l,r),CF.2 ⟨p,Y1⟩,A⟩
  ·obtain⟨a,f,rfl⟩:=CI.1 j;exact CI.2 ⟨a,CF.2 ⟨(CF.1 f).1,by have:=(CF.1 f).2;simp[this]⟩,A⟩
 ·intro j;obtain⟨a,f,rfl⟩:=CI.1 j;obtain⟨m,M⟩:=CF.1 f;by_cases t:a.1=l
  ·have:a=(l,o):=by
    have N:∀a∈Ed,∀x∈Ed,a.1=x.1->a=x:=Z;exact N _ m _ p t
   rw[this];simp
  ·refine By _ (CI.2 ⟨a,CF.2 ⟨m,?_⟩,A⟩);simpa[t] using M
def ACl:∀a<13,∀j∈Ds.drop (a+1),∀f∈Ds[a]?,¬(j.1=f.1/\j.2.1=f.2.1):=Z
variable{yy:Ai M}
def BU.h(a:BU xs l yy xt){f:AC B}(j:xs.grownBy yg f)(m:C l≠f):BU yg l yy xt:=(j.block l a.b m).trans a
def HA{u:Ai Al}{x:G Al}{o:Al}{j:Act}{t:Exit->Act->AG->Prop}
 (U:o.guard=E)(m q v:Cf)(Z:o.op=aQ 588 m q v)(b a:B)(W:a<13)(f:Lw)(n:Ds[a]?=C f)
 (Y:j.eval m=Ah (C b))(z:EG EL xs b (Ds.drop (a+1)))(af:j.eval q=(EL f).1)(aa:j.eval v=(EL f).2)
 (S:∀l,EG EL l b (Ds.drop a)->xs.grownBy l (C b)->Mc An u t x (j.put o.dst Cw) l):
 Mc An u t (o::x) j xs:=by
 refine ACx U m q v _ Z _ _ PD TD EL b _ Y z f af aa (λr p=>MX r (EP p)) (MX f (FW n)) (λr p y=>ACl a W r p f (by rw[n];rfl) (Sz y)) ?_;intro l F L;refine S l ?_ L;have:Ds.drop a=f::Ds.drop (a+1):=by
  obtain⟨M,N⟩:=Cx.1 n;rw[HF M,N]
 rw[this];exact F
def ACj{f j:B->AE}(n:∀m∈[3,6,9,12,15,18,21,24,27,30],f m=j m):(Ed.filter λa=>f a.1)=Ed.filter λa=>j a.1:=by
 refine List.filter_congr λa l=>n _ ?_;simp[Ed] at l⊢;rcases l with rfl|rfl|rfl|rfl|rfl|rfl|rfl|rfl|rfl|rfl<;>simp
structure UF(f:B)(a:Prop):Prop where
 o:a
abbrev UF.a{a:B}{f:Prop}(_:UF a f):B:=a
def ES(m:B){a f:Prop}(l:f)(j:UF m f->a:=by
 intro k;refine Rg (UF.a k) (v:=?_) rfl (by kernel_rfl) (by kernel_rfl) (by kernel_rfl) (λ_ _ _ h=>h) (by rfl) (λw hS=>?_) (by assumption) ?_;rotate_left
 ·try dsimp only at hS
  go_simp<;>with_reducible rfl
 simp only[UF.a,Act.put,List.setIfInBounds_toArray,List.set_cons_zero,List.set_cons_succ];exact k.o):a:=j ⟨l⟩
def JV(a:AG):
 CL An 440 #[] a λp w'=>(p=BT (Ah (C a.heap.size))/\EG EL w' a.heap.size Ds)/\Below a.heap.size a w':=by
 go_enter Tryz.func440,Tryz.ntmps440;go_wp2_with fail;refine wp_region_held_drew (S:=(λw'=>Below a.heap.size a w')) Y3 ((DT _ _).drew) (λbp=>?_);refine ES 1 ?_;refine ES 2 ?_;refine ES 4 ?_;refine ES 5 ?_;refine ES 7 ?_;refine ES 8 ?_;refine ES 10 ?_;refine ES 11 ?_;refine ES 13 ?_;refine ES 14 ?_;refine ES 16 ?_;refine ES 17 ?_;refine ES 19 ?_;refine ES 20 ?_;refine ES 22 ?_;refine ES 23 ?_;refine ES 25 ?_;refine ES 26 ?_;refine ES 28 ?_;refine ES 29 ?_;refine W4 0 A Y3 (λbm u=>?_);go_simp;refine u.out _ _ (λw'=>Below a.heap.size a w') (λ_ z=>z) ((DT _ _).drew.alloc (AI _) _) (λbp=>?_);clear u bm;try simp only[Act.put,KU,List.set_cons_zero,List.set_cons_succ]
 refine h3 [3,6,9,12,15,18,21,24,27,30] 2 (λy w'=>EG EL w' a.heap.size ((Ed.filter λcw=>y cw.1).map (·.2))/\Below a.heap.size a w') Z Y3 A ?_ ?_ ?_ Y7 ?_
 ·intro y c9 w' z ⟨q,n⟩;refine⟨q.g λc7=>?_,n⟩;rw[ACj z]
 ·intro y w' db br cs ⟨q,n⟩ da bm u;simp only[C2,Ef,Eh] at br;rcases br with rfl|rfl|rfl|rfl|rfl|rfl|rfl|rfl|rfl|rfl;all_goals
   obtain⟨ca,cu,x,o⟩:=ACn _ _ (by unfold Ed;repeat first|exact .head _|apply List.Mem.tail) cs q;refine wpOp_step (RF A) (λc8 cc=>?_);dsimp only[EL] at cu;go_simp;exact cc _ _ (u _ ⟨x,n.grown o n.size (λl f=>by cases f;exact AI _)⟩ (n.grown o n.size (λl f=>by cases f;exact AI _)))
 ·exact⟨EG.s (c:=EL) a.drew,Y7⟩
 intro j ⟨r,ag⟩ cd;refine ES 31 ?_;refine ES 32 ?_;refine W2 Y3 ?_;have r:EG EL j a.heap.size (Ed.map (·.2)):=r.g λc7=>by simp
 clear cd bp;have cg:=ag.size;go_wp2_with fail;have b6:EG EL (j.alloc (CP #[N 6,N 8,N 17,N 18,N 23,N 28,N 29,N 30,N 35,N 36,N 38] 3)) a.heap.size (Ds.drop 13):=r.below ((DT _ _).alloc (AI _) _);have bn:=BU.i j #[N 6,N 8,N 17,N 18,N 23,N 28,N 29,N 30,N 35,N 36,N 38] 3;have a9:=Ap bn;have av:Below a.heap.size a (j.alloc (CP #[N 6,N 8,N 17,N 18,N 23,N 28,N 29,N 30,N 35,N 36,N 38] 3)):=ag.alloc cg _;have b8:C j.heap.size≠C a.heap.size:=λp=>by
  have q:=r.h;have:=Option.some.inj p;omega
 have m:=Ap b8;clear bn r ag b8;refine ADw 12 ?_;rw[EN];go_wp2_with (first|(at_mapUpdate;refine UM.mk ?_));refine UM.b (HA A _ _ _ A a.heap.size 12 Y (4,6,0,4,0) A A b6 A A ?_);intro ca x o;have B:=a9.out.h o m.out;have ba:=Ap B;have al:=av.grown o (av).size (λl f=>by cases f;exact AI _);clear b6 av o a9;have ch:ca.cell? ⟨j.heap.size,1,E⟩=C (N 8):=B.e 1;clear B;go_wp2_with fail;rw[EN];go_wp2_with (first|(at_mapUpdate;refine UM.mk ?_));clear ch;refine UM.b (HA A _ _ _ A a.heap.size 11 Y (4,8,0,4,0) A A x A A ?_);intro c0 bv a1;have G:=ba.out.h a1 m.out;have bc:=Ap G;have am:=al.grown a1 (al).size (λl f=>by cases f;exact AI _);clear x al a1 ba;have cj:c0.cell? ⟨j.heap.size,2,E⟩=C (N 17):=G.e 2;clear G;go_wp2_with fail;rw[EN];go_wp2_with (first|(at_mapUpdate;refine UM.mk ?_));clear cj;refine UM.b (HA A _ _ _ A a.heap.size 10 Y (4,17,0,4,0) A A bv A A ?_);intro c1 bx a2;have L:=bc.out.h a2 m.out;have bd:=Ap L;have an:=am.grown a2 (am).size (λl f=>by cases f;exact AI _);clear bv am a2 bc;have ck:c1.cell? ⟨j.heap.size,3,E⟩=C (N 18):=L.e 3;clear L;go_wp2_with fail;rw[EN];go_wp2_with (first|(at_mapUpdate;refine UM.mk ?_));clear ck;refine UM.b (HA A _ _ _ A a.heap.size 9 Y (4,18,0,4,0) A A bx A A ?_);intro c2 b1 a3;have M:=bd.out.h a3 m.out;have be:=Ap M;have ao:=an.grown a3 (an).size (λl f=>by cases f;exact AI _);clear bx an a3 bd;have cl:c2.cell? ⟨j.heap.size,4,E⟩=C (N 23):=M.e 4;clear M;go_wp2_with fail;rw[EN];go_wp2_with (first|(at_mapUpdate;refine UM.mk ?_));clear cl;refine UM.b (HA A _ _ _ A a.heap.size 8 Y (4,23,0,4,0) A A b1 A A ?_);intro c3 b2 a4;have S:=be.out.h a4 m.out;have bf:=Ap S;have ap:=ao.grown a4 (ao).size (λl f=>by cases f;exact AI _);clear b1 ao a4 be;have cm:c3.cell? ⟨j.heap.size,5,E⟩=C (N 28):=S.e 5;clear S;go_wp2_with fail;rw[EN];go_wp2_with (first|(at_mapUpdate;refine UM.mk ?_));clear cm;refine UM.b (HA A _ _ _ A a.heap.size 7 Y (4,28,0,4,0) A A b2 A A ?_);intro c4 b3 a5;have U:=bf.out.h a5 m.out;have bg:=Ap U;have aq:=ap.grown a5 (ap).size (λl f=>by cases f;exact AI _);clear b2 ap a5 bf;have cn:c4.cell? ⟨j.heap.size,6,E⟩=C (N 29):=U.e 6;clear U;go_wp2_with fail;rw[EN];go_wp2_with (first|(at_mapUpdate;refine UM.mk ?_));clear cn;refine UM.b (HA A _ _ _ A a.heap.size 6 Y (4,29,0,4,0) A A b3 A A ?_);intro c5 b4 a6;have W:=bg.out.h a6 m.out;have bh:=Ap W;have ar:=aq.grown a6 (aq).size (λl f=>by cases f;exact AI _);clear b3 aq a6 bg;have co:c5.cell? ⟨j.heap.size,7,E⟩=C (N 30):=W.e 7;clear W;go_wp2_with fail;rw[EN];go_wp2_with (first|(at_mapUpdate;refine UM.mk ?_));clear co;refine UM.b (HA A _ _ _ A a.heap.size 5 Y (4,30,0,4,0) A A b4 A A ?_);intro c6 b5 a7;have aa:=bh.out.h a7 m.out;have bi:=Ap aa;have au:=ar.grown a7 (ar).size (λl f=>by cases f;exact AI _);clear b4 ar a7 bh;have cp:c6.cell? ⟨j.heap.size,8,E⟩=C (N 35):=aa.e 8;clear aa;go_wp2_with fail;rw[EN];go_wp2_with (first|(at_mapUpdate;refine UM.mk ?_));clear cp;refine UM.b (HA A _ _ _ A a.heap.size 4 Y (4,35,0,4,0) A A b5 A A ?_);intro cx bs ax;have af:=bi.out.h ax m.out;have bj:=Ap af;have ah:=au.grown ax (au).size (λl f=>by cases f;exact AI _);clear b5 au ax bi;have cq:cx.cell? ⟨j.heap.size,9,E⟩=C (N 36):=af.e 9;clear af;go_wp2_with fail;rw[EN];go_wp2_with (first|(at_mapUpdate;refine UM.mk ?_));clear cq;refine UM.b (HA A _ _ _ A a.heap.size 3 Y (4,36,0,4,0) A A bs A A ?_);intro cy bt ay;have F:=bj.out.h ay m.out;have bb:=Ap F;have ai:=ah.grown ay (ah).size (λl f=>by cases f;exact AI _);clear bs ah ay bj;have ci:cy.cell? ⟨j.heap.size,10,E⟩=C (N 38):=F.e 10;clear F;go_wp2_with fail;rw[EN];go_wp2_with (first|(at_mapUpdate;refine UM.mk ?_));clear ci;refine UM.b (HA A _ _ _ A a.heap.size 2 Y (4,38,0,4,0) A A bt A A ?_);intro t a8 az;have bo:=bb.out.h az m.out;have cb:=Ap bo;have aj:=ai.grown az (ai).size (λl f=>by cases f;exact AI _);clear bt ai az bb;clear bo cb;go_wp2_with fail;rw[EN];go_wp2_with fail;have b7:EG EL (t.alloc (CP #[N 24,N 25] 3)) a.heap.size (Ds.drop 2):=a8.below ((DT _ _).alloc (AI _) _);have cv:=aj.size;have aw:Below a.heap.size a (t.alloc (CP #[N 24,N 25] 3)):=aj.alloc cv _;have bk:=Ap (BU.i t #[N 24,N 25] 3);have b9:C t.heap.size≠C a.heap.size:=λp=>by
  have q:=a8.h;have:=Option.some.inj p;omega
 have bl:=Ap b9;clear b9 a8 aj;refine ADw 3 ?_;rw[EN];go_wp2_with (first|(at_mapUpdate;refine UM.mk ?_));refine UM.b (HA A _ _ _ A a.heap.size 1 Y (4,24,0,6,0) A A b7 A A ?_);intro cz bu a0;have ak:=aw.grown a0 aw.size (λl f=>by cases f;exact AI _);have cr:cz.cell? ⟨t.heap.size,1,E⟩=C (N 25):=(bk.out.h a0 bl.out).e 1;clear b7 aw a0 bk bl;go_wp2_with fail;rw[EN];go_wp2_with (first|(at_mapUpdate;refine UM.mk ?_));clear cr;refine UM.b (HA A _ _ _ A a.heap.size 0 Y (4,25,0,6,0) A A bu A A ?_);intro dd ct bq;have ce:=ak.grown bq ak.size (λl f=>by cases f;exact AI _);clear bu ak bq;go_wp2_with fail;rw[EN];go_wp2;go_ret;exact⟨⟨A,ct⟩,ce⟩
end
section
open Go Go.RowKit Go.Maps
def JI(v:F)(a:G F):F:=if v∈a then(a.idxOf v:F) else-1
variable{ys:G F}
def h7{v:F}(j:l<ys.length)(f:ys.getD l 0=v)(r:∀o,o<l->ys.getD o 0≠v):JI v ys=l:=by
 have n:v∈ys:=by rw[<-f];simp[Cp,j]
 unfold JI;rw[A8 n];have p:ys.idxOf v=l:=by
  have m:ys.idxOf v<ys.length:=List.idxOf_lt_length_iff.2 n;have q:=List.getElem_idxOf m;rcases Nat.lt_trichotomy (ys.idxOf v) l with a|a|a
  ·exact CV (by rw[Cp,Aw m,q];rfl) (r _ a)
  ·exact a
  ·exfalso;have:=List.not_of_lt_findIdx (p:=(·==v)) (xs:=ys) (i:=l) a;simp[Cp,j] at this f;exact this f
 rw[p]
def h8{v:F}(m:∀a,a<ys.length->ys.getD a 0≠v):JI v ys=-1:=by
 unfold JI;rw[A1];intro l;obtain⟨a,f,j⟩:=List.getElem_of_mem l;exact m a f (by simp[Cp,f,j])
def W6(z:AC CW)(l U:B)(o:G F)(v:F)(y:AG)(M:Qi H y z l o)(ag:l<=1000000):
 CL An 398 #[O z l U,N v] y λj w'=>j=BT (N (JI v o))/\y=w':=by
 have p:=Ap M;clear M;go_enter Tryz.func398,Tryz.ntmps398;go_wp2_with fail;go_loop [8] (λx=>∃a:B,a<=l/\x=N a/\Hid (∀f,f<a->o.getD f 0≠v)) (λx=>l-(intOf x).toNat)
 case atStart=>exact⟨0,Y,A,Ap (λf L=>Y)⟩
 case round=>
  obtain⟨a,af,rfl,q⟩:=hrel;by_cases Q:a<l
  ·obtain⟨b,ah,rfl,aa,t⟩:=p.out.2 Y;have W:=t a Q;have Z:=Ap t;clear t;obtain⟨m,u⟩:∃m,m=o.getD a 0:=⟨_,A⟩;rw[<-u] at W;have r:=Ap u;clear u;by_cases j:v=m
   ·have V:(v==m)=R:=by simpa using j
    have n:=Ap j;clear j;go_wp2;go_ret;refine⟨?_,A⟩;rw[n.out,r.out,h7 (l:=a) (by rw[p.out.1];exact Q) A (by rw[<-r.out,<-n.out];exact q.out)];rfl
   ·have V:(v==m)=I:=by simpa using j
    have n:=Ap j;clear j;go_wp2;go_round
    case rel=>exact⟨a+1,Y,by go_num,Ap (λf P=>by
     rcases Ck f a with S|S
     ·exact q.out f S
     ·obtain rfl:f=a:=Y;rw[<-r.out];exactλL=>n.out L.symm)⟩
    case measure=>simp[intOf];omega
  ·obtain rfl:a=l:=Y;go_wp2;go_ret;exact⟨by rw[h8 (λf P=>q.out f (by rw[<-p.out.1];exact P))];rfl,A⟩
def Hu(l:AC CW)(j n:B)(a:G F)(v:F)(p:AG)(q:Qi H p l j a)(r:j<=1000000):
 CL An 344 #[O l j n,N v] p λo w'=>o=BT (X (Ac (v∈a)))/\p=w':=by
 by_cases f:v∈a
 ·have t:(0:F)<=JI v a:=by unfold JI;rw[A8 f];omega
  have m:Hid (Ac (v∈a)=R):=Ap (by simpa using f);clear f;go_enter ADS,ADZ;go_wp2_with (go_at_call 398;refine(W6 l j n a v _ q r).mono ?_;rintro o w' ⟨rfl,rfl⟩);go_ret;exact⟨by rw[m.out];rfl,A⟩
 ·have t:Ac ((0:F)<=JI v a)=I:=by unfold JI;rw[A1 f];rfl
  have m:Hid (Ac (v∈a)=I):=Ap (by simpa using f);clear f;go_enter ADS,ADZ;go_wp2_with (go_at_call 398;refine(W6 l j n a v _ q r).mono ?_;rintro o w' ⟨rfl,rfl⟩);go_ret;exact⟨by rw[m.out];rfl,A⟩
def D7:G F:=[0,1,2,3,4,6]
def GF:Ai M:=#[N 0,N 1,N 2,N 3,N 4,N 6]
def I8(a:AG):
 CL An 439 #[] a λf w'=>f=BT (Q a.heap.size 6 6)/\w'=a.alloc (CP GF 3):=by
 go_enter Tryz.func439,Tryz.ntmps439;go_wp2;go_ret;exact⟨A,A⟩
def YU(a:BU xs l GF 3):Qi H xs (V l) 6 D7:=by
 refine⟨A,λ_=>⟨l,0,A,a.b,λf j=>?_⟩⟩;rw[BF,a.e f]
 match f,j with
 |0,_=>rfl
 |1,_=>rfl
 |2,_=>rfl
 |3,_=>rfl
 |4,_=>rfl
 |5,_=>rfl
end
section
open Go Go.RowKit Go.Maps
def EJ(j f:F):AC (F×F×F):=(Ds.find? λa=>a.1==j&&a.2.1==f).map λa=>a.2.2
variable{yz:F}
def Rp{v:F×F×F}(f:EJ ya yz=C v):(ya,yz,v)∈Ds:=by
 unfold EJ at f;obtain⟨m,j,rfl⟩:=a1.1 f;have a:=List.find?_some j;simp at a;have l:=List.mem_of_find?_eq_some j;rw[<-a.1,<-a.2];exact l
def iC(f:EJ ya yz=E):∀a∈Ds,¬(a.1=ya/\a.2.1=yz):=by
 unfold EJ at f;rw[AFA,AEW] at f;intro a l j;exact f a l (by simp[j.1,j.2])
def iD{f j o:F}(l:EJ ya yz=C (f,j,o)):(0<=f/\f<=3)/\(0<=j/\j<=6)/\(0<=o/\o<=6):=by
 have:∀a∈Ds,(0<=a.2.2.1/\a.2.2.1<=3)/\(0<=a.2.2.2.1/\a.2.2.2.1<=6)/\(0<=a.2.2.2.2/\a.2.2.2.2<=6):=Z;exact this _ (Rp l)
def B5(a l:F)(j:AE):F×AE:=
 if a∈D7 then(if l=0 then(0,R) else
  match EJ a l with
  |none=>(a,I)
  |some (f,m,o)=>if(f=1/\j=I)\/(f=3/\j=R) then(a,I) else if f=2/\j=I then(o,R) else(m,R))
 else(a,I)
def K2{b:B}(f:EG EL xs b Ds){v:F×F×F}(a:EJ ya yz=C v):
 (Ji 588 (Ah (C b)) (AV #[N ya,N yz]) R).run An xs=Ao (AL #[AV #[N v.1,N v.2.1,N v.2.2],X R]) xs:=
 f.i PD TD MX (ya,yz,v) (Rp a) (λm l j=>by rw[ACm m l _ (Rp a) (Sz j)])
def iF{b:B}(f:EG EL xs b Ds)(m:J1 ya)(l:J1 yz)(a:EJ ya yz=E):
 (Ji 588 (Ah (C b)) (AV #[N ya,N yz]) R).run An xs=Ao (AL #[AV #[N 0,N 0,N 0],X I]) xs:=
 f.j PD TD MX Y3 (WD ya yz m l) (λo n j=>iC a o n (by simpa[EL] using j))
def jC(f:AE)(n:ya∈D7)(l:yz≠0){a j o:F}(m:EJ ya yz=C (a,j,o)):B5 ya yz f=if(a=1/\f=I)\/(a=3/\f=R) then(ya,I) else if a=2/\f=I then(o,R) else(j,R):=by
 unfold B5;rw[A8 n,A1 l,m]
def jE(j u:F)(S:AE)(p:AG)(ak:J1 j)(aj:J1 u)(Z:j∈D7)(W:u≠0)(M L o:F)(U:EJ j u=C (M,L,o)):
 CL An 368 #[N j,N u,X S] p λf w'=>f=BT (AL #[N (B5 j u S).1,X (B5 j u S).2])/\Below p.heap.size p w':=by
 have r:Below p.heap.size p (p.alloc (CP GF 3)):=(DT _ _).alloc (AI _) _;have y:=Ap (YU (BU.i p GF 3));have ai:Ac (j∈D7)=R:=by simpa using Z
 have ah:(u==0)=I:=by simpa using W
 obtain⟨⟨aa,af⟩,_,_⟩:=iD U;have q:=Ap (jC S Z W U);have z:=Ap U;clear Z W U;have ag:M=0\/M=1\/M=2\/M=3:=Y;clear aa af;rcases ag with rfl|rfl|rfl|rfl<;>cases S
 ·have n:B5 j u I=(L,R):=by rw[q.out];simp
  rw[n];clear n q;go_enter Il,Im;go_wp2_with (first|(go_at_call 439;refine(I8 _).mono ?_;rintro f x ⟨rfl,rfl⟩)|(go_at_call 344;refine(Hu _ _ _ D7 j _ y.out Y).mono ?_;rintro f x ⟨rfl,rfl⟩)|fail);refine(JV _).mono ?_;rintro f G ⟨⟨rfl,a⟩,l⟩;rw[show(p.alloc (CP GF 3)).heap.size=p.heap.size+1 by simp] at a;have B:=K2 a z.out;have m:=r.trans (l.mono r.size);have t:=m.size;clear a l;go_wp2;go_ret2;exact⟨A,m.alloc t _⟩
 ·have n:B5 j u R=(L,R):=by rw[q.out];simp
  rw[n];clear n q;go_enter Il,Im;go_wp2_with (first|(go_at_call 439;refine(I8 _).mono ?_;rintro f x ⟨rfl,rfl⟩)|(go_at_call 344;refine(Hu _ _ _ D7 j _ y.out Y).mono ?_;rintro f x ⟨rfl,rfl⟩)|fail);refine(JV _).mono ?_;rintro f G ⟨⟨rfl,a⟩,l⟩;rw[show(p.alloc (CP GF 3)).heap.size=p.heap.size+1 by simp] at a;have B:=K2 a z.out;have m:=r.trans (l.mono r.size);have t:=m.size;clear a l;go_wp2;go_ret2;exact⟨A,m.alloc t _⟩
 ·have n:B5 j u I=(j,I):=by rw[q.out];simp
  rw[n];clear n q;go_enter Il,Im;go_wp2_with (first|(go_at_call 439;refine(I8 _).mono ?_;rintro f x ⟨rfl,rfl⟩)|(go_at_call 344;refine(Hu _ _ _ D7 j _ y.out Y).mono ?_;rintro f x ⟨rfl,rfl⟩)|fail);refine(JV _).mono ?_;rintro f G ⟨⟨rfl,a⟩,l⟩;rw[show(p.alloc (CP GF 3)).heap.size=p.heap.size+1 by simp] at a;have B:=K2 a z.out;have m:=r.trans (l.mono r.size);have t:=m.size;clear a l;go_wp2;go_ret2;exact⟨A,m.alloc t _⟩
 ·have n:B5 j u R=(L,R):=by rw[q.out];simp
  rw[n];clear n q;go_enter Il,Im;go_wp2_with (first|(go_at_call 439;refine(I8 _).mono ?_;rintro f x ⟨rfl,rfl⟩)|(go_at_call 344;refine(Hu _ _ _ D7 j _ y.out Y).mono ?_;rintro f x ⟨rfl,rfl⟩)|fail);refine(JV _).mono ?_;rintro f G ⟨⟨rfl,a⟩,l⟩;rw[show(p.alloc (CP GF 3)).heap.size=p.heap.size+1 by simp] at a;have B:=K2 a z.out;have m:=r.trans (l.mono r.size);have t:=m.size;clear a l;go_wp2;go_ret2;exact⟨A,m.alloc t _⟩
 ·have n:B5 j u I=(o,R):=by rw[q.out];simp
  rw[n];clear n q;go_enter Il,Im;go_wp2_with (first|(go_at_call 439;refine(I8 _).mono ?_;rintro f x ⟨rfl,rfl⟩)|(go_at_call 344;refine(Hu _ _ _ D7 j _ y.out Y).mono ?_;rintro f x ⟨rfl,rfl⟩)|fail);refine(JV _).mono ?_;rintro f G ⟨⟨rfl,a⟩,l⟩;rw[show(p.alloc (CP GF 3)).heap.size=p.heap.size+1 by simp] at a;have B:=K2 a z.out;have m:=r.trans (l.mono r.size);have t:=m.size;clear a l;go_wp2;go_ret2;exact⟨A,m.alloc t _⟩
 ·have n:B5 j u R=(L,R):=by rw[q.out];simp
  rw[n];clear n q;go_enter Il,Im;go_wp2_with (first|(go_at_call 439;refine(I8 _).mono ?_;rintro f x ⟨rfl,rfl⟩)|(go_at_call 344;refine(Hu _ _ _ D7 j _ y.out Y).mono ?_;rintro f x ⟨rfl,rfl⟩)|fail);refine(JV _).mono ?_;rintro f G ⟨⟨rfl,a⟩,l⟩;rw[show(p.alloc (CP GF 3)).heap.size=p.heap.size+1 by simp] at a;have B:=K2 a z.out;have m:=r.trans (l.mono r.size);have t:=m.size;clear a l;go_wp2;go_ret2;exact⟨A,m.alloc t _⟩
 ·have n:B5 j u I=(L,R):=by rw[q.out];simp
  rw[n];clear n q;go_enter Il,Im;go_wp2_with (first|(go_at_call 439;refine(I8 _).mono ?_;rintro f x ⟨rfl,rfl⟩)|(go_at_call 344;refine(Hu _ _ _ D7 j _ y.out Y).mono ?_;rintro f x ⟨rfl,rfl⟩)|fail);refine(JV _).mono ?_;rintro f G ⟨⟨rfl,a⟩,l⟩;rw[show(p.alloc (CP GF 3)).heap.size=p.heap.size+1 by simp] at a;have B:=K2 a z.out;have m:=r.trans (l.mono r.size);have t:=m.size;clear a l;go_wp2;go_ret2;exact⟨A,m.alloc t _⟩
 ·have n:B5 j u R=(j,I):=by rw[q.out];simp
  rw[n];clear n q;go_enter Il,Im;go_wp2_with (first|(go_at_call 439;refine(I8 _).mono ?_;rintro f x ⟨rfl,rfl⟩)|(go_at_call 344;refine(Hu _ _ _ D7 j _ y.out Y).mono ?_;rintro f x ⟨rfl,rfl⟩)|fail);refine(JV _).mono ?_;rintro f G ⟨⟨rfl,a⟩,l⟩;rw[show(p.alloc (CP GF 3)).heap.size=p.heap.size+1 by simp] at a;have B:=K2 a z.out;have m:=r.trans (l.mono r.size);have t:=m.size;clear a l;go_wp2;go_ret2;exact⟨A,m.alloc t _⟩
def jD(a f:F)(o:AE)(l:AG)(L:J1 a)(G:J1 f):
 CL An 368 #[N a,N f,X o] l λm w'=>m=BT (AL #[N (B5 a f o).1,X (B5 a f o).2])/\Below l.heap.size l w':=by
 have r:Below l.heap.size l (l.alloc (CP GF 3)):=(DT _ _).alloc (AI _) _;have u:=Ap (YU (BU.i l GF 3));by_cases j:a∈D7
 ·by_cases p:f=0
  ·have B:Ac (a∈D7)=R:=by simpa using j
   have n:B5 a f o=(0,R):=by unfold B5;rw[A8 j,A8 p]
   rw[n];subst p;clear j n;go_enter Il,Im;go_wp2_with (first|(go_at_call 439;refine(I8 _).mono ?_;rintro m q ⟨rfl,rfl⟩)|(go_at_call 344;refine(Hu _ _ _ D7 a _ u.out Y).mono ?_;rintro m q ⟨rfl,rfl⟩)|fail);go_ret2;exact⟨A,r⟩
  ·cases t:EJ a f with
   |none=>
    have B:Ac (a∈D7)=R:=by simpa using j
    have U:(f==0)=I:=by simpa using p
    have n:B5 a f o=(a,I):=by unfold B5;rw[A8 j,A1 p,t]
    rw[n];have M:=Ap t;clear j p n t;go_enter Il,Im;go_wp2_with (first|(go_at_call 439;refine(I8 _).mono ?_;rintro m q ⟨rfl,rfl⟩)|(go_at_call 344;refine(Hu _ _ _ D7 a _ u.out Y).mono ?_;rintro m q ⟨rfl,rfl⟩)|fail);refine(JV _).mono ?_;rintro m Z ⟨⟨rfl,x⟩,y⟩;rw[show(l.alloc (CP GF 3)).heap.size=l.heap.size+1 by simp] at x;have W:=iF x L G M.out;have z:=r.trans (y.mono r.size);have S:=z.size;clear x y;go_wp2;go_ret2;exact⟨A,z.alloc S _⟩
   |some v=>exact jE a f o l L G j p v.1 v.2.1 v.2.2 t
 ·have B:Ac (a∈D7)=I:=by simpa using j
  have n:B5 a f o=(a,I):=by unfold B5;rw[A1 j]
  rw[n];clear j n;go_enter Il,Im;go_wp2_with (first|(go_at_call 439;refine(I8 _).mono ?_;rintro m q ⟨rfl,rfl⟩)|(go_at_call 344;refine(Hu _ _ _ D7 a _ u.out Y).mono ?_;rintro m q ⟨rfl,rfl⟩)|fail);go_ret2;exact⟨A,r⟩
end
def XE(f a:B)(j:AE)(l:S)(o:f<1000)(n:a<1000):AK 368 [N f,N a,X j] l (AL #[N (B5 f a j).1,X (B5 f a j).2]):=
 A9.below (λm _=>jD f a j m (by constructor<;>omega) (by constructor<;>omega)) ⟨A,A⟩
structure B4 where
 a:B
 d:B
 f:B
def B4.b(a:B4)(arg:B):AE:=arg/65536==a.d
def B4.c(a:B4)(f:B):B4:=⟨f,a.d,if a.a=f then a.f else if f=6 then 1 else 0⟩
abbrev Av(f:B)(a:B4):BL:=.t f [N a.a,D .u16 a.d,N a.f] 347
def MR(a:B):(a:F).fdiv (2^min (AEG 16) IntKind.u32.bits)=((a/65536:B):F):=by
 show(a:F).fdiv 65536=_;rw[TO _ Z];omega
def AF3{P:Prop}(h:P:=by rw[MV (by omega)]):P:=h
def XI(f arg:B)(a:B4)(j:arg<4294967296):AK 369 [P f,D Ax arg] [Av f a] (X (a.b arg)):=by
 refine A9.y (L ?_);refine Mt.mk Z (F'.mk ((arg/65536:B):F) (MR arg) ?_);refine L ?_;refine F'.mk ((arg/65536:B):F) AF3 (L ?_);refine⟨?_,A⟩;show X (((arg/65536:B):F)==(a.d:F))=X (arg/65536==a.d);congr 1;rw[Iy];simp only[F1];omega
def l7(a:B)(j:B4):Z9 340 [P a] [Av a j] λv f=>f=[Av a ⟨0,0,0⟩]:=by
 refine A9.y ?_;refine A7 ?_;rfl
def k'(f:S):Z9 265 [] f λv j=>∃a,v=P a/\j=Av a ⟨0,0,0⟩::f:=by
 refine A9.y (L ?_);intro a;refine L ?_;refine A9.u (l7 a ⟨0,0,0⟩) (λv j l=>?_);subst l;refine L ?_;exact⟨a,A,A⟩
def XK(j a:B)(m:B4):Z9 201 [P j,N a] [Av j m] λv o=>o=[Av j (m.c a)]:=by
 refine A9.y ?_;obtain⟨n,r,t⟩:=m;by_cases f:n=a
 ·have p:((n:F)!=a)=I:=by simp[f]
  refine A7 ?_;subst f;simp only[B4.c,A8];rfl
 ·have p:((n:F)!=a)=R:=Y5;by_cases l:a=6
  ·have q:((a:F)==6)=R:=by rw[l];rfl
   refine A7 ?_;simp only[B4.c,A1 f,A8 l];rfl
  ·have q:((a:F)==6)=I:=Y9;refine A7 ?_;simp only[B4.c,A1 f,A1 l];rfl
def Nd(a:B)(f:B4):AK 117 [P a] [Av a f] (N f.a):=by
 refine A9.y ?_;refine L ?_;exact⟨A,A⟩
def XC(j f arg:B)(a:B4)(l:arg<4294967296)(n:a.a<1000)(m:f<1000):AK 286 [P j,N f,D Ax arg] [Av j a] (X (B5 a.a f (a.b arg)).2):=by
 refine A9.y ?_;refine L ?_;refine A9.ab (XI j arg a l) ?_;refine L ?_;refine A9.ab (XE a.a f (a.b arg) _ n m) (L ?_);exact⟨A,A⟩
def B4.e(a:B4)(f arg:B):AE×AE×B4:=
 if(B5 a.a f (a.b arg)).2 then(f !=0&&(f !=7||a.b arg),R,let j:=a.c (B5 a.a f (a.b arg)).1.toNat;if f=3 then⟨j.a,arg/65536,j.f⟩ else j) else(I,I,a)
def Y8{P:Prop}(h:P:=by rw[bne_iff_ne];omega):P:=h
def kT(j a arg l:B)(f:B4)(u:arg<4294967296)(y:f.a<1000)(x:a<1000)(p:B5 f.a a (f.b arg)=((l:F),R)):Ay 287 [P j,N a,D Ax arg] [Av j f] (AL #[X (f.e a arg).1,X (f.e a arg).2.1]) [Av j (f.e a arg).2.2]:=by
 have t:f.e a arg=(a !=0&&(a !=7||f.b arg),R,if a=3 then⟨(f.c l).a,arg/65536,(f.c l).f⟩ else f.c l):=by
  unfold B4.e;rw[p];rfl
 rw[t];refine A9.y (L ?_);refine A9.ab (XI j arg f u) (L ?_);refine A9.ab (XE f.a a (f.b arg) _ y x) ?_;rw[p];refine L ?_;refine A9.z (XK j l f) λv G z=>?_;subst z;by_cases n:a=3
 ·subst n;refine L ?_;refine Mt.mk Z (F'.mk ((arg/65536:B):F) (MR arg) ?_);refine L ?_;refine F'.mk ((arg/65536:B):F) AF3 (A7 ?_);exact⟨A,A⟩
 have S:((a:F)==3)=I:=Y9;rw[A1 n];by_cases m:a=0
 ·subst m;refine L ?_;exact⟨A,A⟩
 have M:((a:F)!=0)=R:=Y8;by_cases o:a=7
 ·subst o;refine L ?_;exact⟨A,A⟩
 have U:((a:F)!=7)=R:=Y8;refine L ?_;refine⟨?_,A⟩;have q:(a !=0)=R:=by rw[Bn];exact m
 have r:(a !=7)=R:=by rw[Bn];exact o
 rw[q,r];rfl
def l6(j a:B)(f:B4)(m:f.a=6)(o:1<=a/\a<=64):Z9 458 [P j,N a] [Av j f] λv l=>l=[Av j ⟨6,f.d,a⟩]:=by
 obtain⟨q,n,p⟩:=f;subst m;refine A9.y ?_;refine L ?_;refine F'.mk (a:F) (by split<;>omega) ?_;refine L ?_;refine F'.mk (a:F) (by split<;>omega) (A7 ?_);rfl
def B4.g(a:B4):B4:=if a.f=1 then⟨4,a.d,0⟩ else⟨a.a,a.d,a.f-1⟩
def kU(f:B)(a:B4)(o:a.a=6)(m:1<=a.f/\a.f<=64):Ay 121 [P f] [Av f a] (X R) [Av f a.g]:=by
 obtain⟨t,n,j⟩:=a;subst o;refine A9.y ?_;refine L ?_;refine F'.mk ((j-1:B):F) (by dsimp only at m;show IntKind.i64.wrap ((j:F)-1)=_;rw[A3 Y];omega) ?_;refine A' ?_;dsimp only at m;by_cases l:j=1
 ·subst l;refine L ?_;refine A9.z (XK f 4 ⟨6,n,0⟩) λv q p=>?_;subst p;refine L ?_;exact⟨A,A⟩
 ·have r:(((j-1:B):F)==0)=I:=Y9;refine L ?_;refine⟨A,?_⟩;simp only[B4.g,A1 l];rfl
abbrev Bc(a:B)(f:G B):BL:=.t a (f.map W) 405
def AAM(f:S):Z9 171 [] f λv j=>∃a,v=P a/\j=Bc a (U 64 0)::f:=by
 refine A9.y (L ?_);intro a;refine L ?_;exact⟨a,A,A⟩
def Fj:G (B×B):=[(0,1),(1,1),(2,2),(3,2),(4,2),(5,1),(6,3),(8,3),(9,3),(10,3),(11,3),(12,3),(13,3),(32,4),(33,4),(34,4)]
def MN(j f:B)(l:S)(a:(j,f)∈Fj):AK 295 [N j] l (N f):=by
 simp only[Fj,C2,Ef,Eh,F0] at a;rcases a with⟨rfl,rfl⟩|⟨rfl,rfl⟩|⟨rfl,rfl⟩|⟨rfl,rfl⟩|⟨rfl,rfl⟩|⟨rfl,rfl⟩|⟨rfl,rfl⟩|⟨rfl,rfl⟩|⟨rfl,rfl⟩|⟨rfl,rfl⟩|⟨rfl,rfl⟩|⟨rfl,rfl⟩|⟨rfl,rfl⟩|⟨rfl,rfl⟩|⟨rfl,rfl⟩|⟨rfl,rfl⟩<;>
  (refine A9.af A ?_
   refine L ?_;exact⟨A,A⟩)
def LH(f:(l,p)∈Fj):l<64/\1<=p/\p<=4:=by
 have:∀a∈Fj,a.1<64/\1<=a.2/\a.2<=4:=Z;exact this _ f
def Pj(l a j:B)(f:G B)(m:(a,j)∈Fj)(o:f.length=64):AK 210 [P l,N a] [Bc l f] (W (f.getD a 0)):=by
 obtain⟨n,p,q⟩:=LH m;have r:((j:F)==0)=I:=Y9;refine A9.y (L ?_);refine A9.ab (MN a j _ m) (A7 ?_);refine Ms.mk (v:=W (f.getD a 0)) ?_ ?_
 ·have:=Jp (er:=[]) n o;rwa[B1] at this
 refine L ?_;exact⟨A,A⟩
def Sn(j a v:B)(f:G B)(m:(a,4)∈Fj)(r:f.length=64):Z9 218 [P j,N a,W v] [Bc j f] λt n=>n=[Bc j (f.set a v)]:=by
 obtain⟨o,p,q⟩:=LH m;refine A9.y (L ?_);refine A9.ab (MN a 4 _ m) (A7 ?_);have l:=MO f [] a v Y;rw[B1,B1] at l;show[BL.t j ((f.map W).set (0+a*1) (W v)) _]=_;rw[l]
def MB(a:er.length=l):CX er (0+0) l R=C (AV er.toArray):=by
 show(match La (0+0+l) er.length with|true=>C (AV ((er.drop (0+0)).take l).toArray)|false=>E)=_;rw[show La (0+0+l) er.length=R by rw[AEg];omega];show C (AV ((er.drop 0).take l).toArray)=_;rw[CJ,DP Y]
def Xj(f:B)(a:G B)(l:a.length=64):AK 219 [P f] [Bc f a] (AV (a.map W).toArray):=by
 refine A9.t ?_;intro m;refine L ?_;have j:(a.map W).length=64:=by rw[BW];exact l
 refine Ms.mk (v:=AV (a.map W).toArray) (MB j) (L ?_);refine Mw.mk ⟨by simp[l],Z,Gy a⟩ (L ?_);refine Ms.mk (v:=AV (a.map W).toArray) ?_ ?_
 ·show CX (Bf _ 0 (a.map W)) (0+0) 64 R=_;rw[N_ (by rw[j];rfl)];exact MB j
 refine L ?_;exact⟨[Bc f a],AQ.b,A,A⟩
def YE(f a:B)(l:S)(j:(f,a)∈Fj)(o:a<4):AK 520 [N f] l (X R):=by
 obtain⟨n,p,q⟩:=LH j;have r:((a:F)!=0)=R:=Y8;have m:((a:F)!=4)=R:=Y8;refine A9.y (L ?_);refine A9.ab (MN f a _ j) (L ?_);refine⟨?_,A⟩;show X ((a:F)!=4)=_;rw[m]
def Sk:G (B×B):=[(0,7),(1,1),(2,1),(3,1),(4,1),(5,2),(6,3),(13,1)]
def AAK(f m v:B)(j:S)(a:(f,m)∈Sk)(l:v<=m):AK 261 [N f,W v] j (X R):=by
 simp only[Sk,C2,Ef,Eh,F0] at a;have n:v<=7->Ac ((v:F)<8)=R:=λa=>DH Y;rcases a with⟨rfl,rfl⟩|⟨rfl,rfl⟩|⟨rfl,rfl⟩|⟨rfl,rfl⟩|⟨rfl,rfl⟩|⟨rfl,rfl⟩|⟨rfl,rfl⟩|⟨rfl,rfl⟩
 ·refine A9.y ?_;refine L ?_;exact⟨by show X (Ac ((v:F)<8))=_;rw[DH Y],A⟩
 all_goals
  refine A9.y ?_;refine L ?_;refine⟨?_,A⟩;first
  |(show X (Ac ((v:F)<=1))=_;rw[DH Y])
  |(show X (Ac ((v:F)<=2))=_;rw[DH Y])
  |(show X (Ac ((v:F)<=3))=_;rw[DH Y])
def mB(j a v:B)(f:G B)(m:a<64)(n:f.length=64):Ay 522 [P j,N a,W v] [Bc j f] (N 0) [Bc j (f.set a v)]:=by
 refine A9.y ?_;refine A7 ?_;refine⟨A,?_⟩;have l:=MO f [] a v Y;rw[B1,B1] at l;show[BL.t j ((f.map W).set (0+a*1) (W v)) _]=_;rw[l]
def AAb(f a m v:B)(j:G B)(l:(a,1)∈Fj)(o:(a,m)∈Sk)(q:v<=m)(p:j.length=64):Ay 454 [P f,N a,W v] [Bc f j] (N 0) [Bc f (j.set a v)]:=by
 obtain⟨n,_,_⟩:=LH l;refine A9.y (L ?_);refine A9.ab (YE a 1 _ l Z) (L ?_);refine A9.ab (AAK a m v _ o q) (L ?_);refine A9.ab (MN a 1 _ l) (L ?_);refine A9.ab (mB f a v j n p) (L ?_);exact⟨A,A⟩
def AA8(a:B)(v j:M)(f:AU)(l:B' v=R):AK 517 [j,P a] [.t a [v] f] v:=by
 refine A9.y ?_;refine L ?_;exact⟨A,A⟩
def C7(a v:B):B:=50331648+a*65536+v*256
def Ie(f:B)(a:B)(j:a<=32):(f:F).fdiv (2^min (AEG (a:F)) IntKind.u32.bits)=((f/2^a:B):F):=by
 rw[Int.toNat_natCast,Nat.min_eq_left (show a<=IntKind.u32.bits from j),TO _ AFe];norm_cast
def Jo(v m a:B)(l:m=2^a-1)(p:m<4294967296)(n:v<4294967296):bits .and Ax (v:F) (m:B)=((v%2^a:B):F):=by
 have f:v&&&m=v%2^a:=by rw[l];exact O9 v a
 have o:v%2^a<=v:=Nat.mod_le _ _;have j:=N5 (a:=Ax) (l:=32) (p:=v) (np:=m) A Y Y (by rw[f];exact Dh Y);rw[f] at j;exact j
def AAP(f a j v:B)(l:G B)(m:(a,j)∈Fj)(r:j<4)(M:v<256)(t:l.length=64):AK 452 [P f,D Ax (C7 a v)] [Bc f l] (AL #[N a,W v,N 0]):=by
 obtain⟨u,y,z⟩:=LH m;refine A9.t (L ?_);have x:C7 a v=50331648+a*65536+v*256:=A;have n:C7 a v/65536=768+a:=Y;have p:C7 a v/256=196608+a*256+v:=Y;have o:C7 a v/16777216=3:=Y;refine Mt.mk Z (F'.mk ((768+a:B):F) (by rw[<-n];exact Ie (C7 a v) 16 Z) ?_);refine L ?_;refine F'.mk (a:F) (by have:=Jo (768+a) 255 8 A Z Y;rw[show(768+a)%2^8=a by omega] at this;exact this) (L ?_);refine F'.mk (a:F) (by rw[A3 Y]) (L ?_);refine Mt.mk Z (F'.mk ((196608+a*256+v:B):F) (by rw[<-p];exact Ie (C7 a v) 8 Z) ?_);refine L ?_;refine F'.mk (v:F) (by unfold Kd;simp[Kb,Kc];omega) (L ?_);intro q;refine L ?_;refine Mw.mk ⟨A,Z2⟩ (L ?_);refine Mt.mk Z (F'.mk ((3:B):F) (by rw[<-o];exact Ie (C7 a v) 24 Z) ?_);refine L ?_;refine F'.mk ((3:B):F) (Jo 3 3 2 A Z Z) (L ?_);refine A9.ab (YE a j _ m r) (L ?_);refine A9.b (Pj f a j l m t) (L ?_);refine A9.b (AA8 q (W v) _ 5 A) (L ?_);exact⟨[Bc f l],AQ.b,A,A⟩
def VA(a:AG):(Ey 463 #[]).run An a=Ao (.value (AL #[])) a:=ADn Tryz.func463 Y3 Y3 Y3 .disable Y3 a
def VE(a:AG):(Ey 465 #[]).run An a=Ao (.value (AL #[])) a:=ADn Tryz.func465 Y3 Y3 Y3 .enable Y3 a
def b2(f:CW)(a:AG):(Ey 466 #[T (C f)]).run An a=Ao (.value (AL #[])) a:=ADo Tryz.func466 Y3 Y3 Y3 .acquire Y3 f a
def m_(f:CW)(a:AG):(Ey 468 #[T (C f)]).run An a=Ao (.value (AL #[])) a:=ADo Tryz.func468 Y3 Y3 Y3 .releaseMerge Y3 f a
def ABh(a:CW)(l:M)(j:aE)(f:AG)(q:f.cell? a=C l)(t:f.frozen? a=I):
 CallsD An 307 #[T (C a),X R] j f λm p w'=>p=j/\(m=BT (AL #[])/\w'=f.drew.setCell a (D Ax 1)):=by
 have n:f.drew.cell? a=C l:=by go_simp
 have o:f.drew.frozen? a=I:=by go_simp
 have r:=run_call_store (P:=An) Tryz.func390 Y3 Y3 Y3 Y3 (k:=Ax) (y:=1) n o;go_enter_d Tryz.func307,Tryz.ntmps307;go_wp2;go_region_calls;all_goals(go_end0;exact⟨A,A⟩)
def AC1(a:CW)(l:aE)(f:AG)(j:f.cell? a=C (D Dt 1))(n:f.frozen? a=I):
 CallsD An 306 #[T (C a)] l f λm o w'=>o=l/\(m=BT (AL #[])/\w'=f.setCell a (D Dt 0)):=by
 have r:=VA;have t:=VE;have u:=m_;have p:=run_call_add (P:=An) Tryz.func469 Y3 Y3 Y3 Dt Y3 (y:=-1) (s:=0) j n (by simp[go_sem];rfl);have q:=ADp (P:=An) (src:=606) (dst:=482) AD7 AD5 Y3 j;go_enter_d Tryz.func306,Tryz.ntmps306;go_wp2;go_end0;go_wp2;go_end0;exact⟨A,A⟩
def i9(a:CW)(f:AG)(j:f.cell? a=C (D Dt 0))(n:f.frozen? a=I):
 CL An 305 #[T (C a)] f λl w'=>l=BT (AL #[])/\w'=f.setCell a (D Dt 1):=by
 have r:=VA;have t:=VE;have o:=b2;have p:=run_call_cas_hit (P:=An) Tryz.func464 Y3 Y3 Y3 Dt Y3 (y:=1) j n;have m:(f.setCell a (D Dt 1)).cell? a=C (D Dt 1):=World.cell?_setCell_same f a _ j;have q:=ADp (P:=An) (src:=606) (dst:=482) AD7 AD5 Y3 m;go_enter Tryz.func305,Tryz.ntmps305;go_wp2;first|go_end0|(simp only[Exit.inBlock,Exit.then];refine bodyPost_ret (results_none rfl _ _ _) rfl ?_)|refine bodyPost_ret (results_none A _ _ _) A ?_
 go_wp2;go_end0;exact⟨A,A⟩
def ABT(j:B)(m:Ai M)(W:∀(args:Ai M)(a:AG),(Ey j args).run An a=Ao (.enter j args) a)(b o:B)(l:AG->Prop)(a:AG)
 (t:a.cell? ⟨b,o,E⟩=C (D Ax 0))(U:a.cell? ⟨b,o+1,E⟩=C (D Dt 0))
 (L:a.frozen? ⟨b,o,E⟩=I)(S:a.frozen? ⟨b,o+1,E⟩=I)
 (u:CL An j m (a.setCell ⟨b,o+1,E⟩ (D Dt 1)) λf w'=>f=BT (AL #[])/\l w'/\w'.cell? ⟨b,o,E⟩=C (D Ax 0)/\w'.cell? ⟨b,o+1,E⟩=C (D Dt 1)/\w'.frozen? ⟨b,o,E⟩=I/\w'.frozen? ⟨b,o+1,E⟩=I):
 CL An 221 #[T (C ⟨b,o,E⟩),BZ (CA j) #[] m] a λf w'=>f=BT (AL #[])/\∃n,l n/\w'=(n.drew.setCell ⟨b,o,E⟩ (D Ax 1)).setCell ⟨b,o+1,E⟩ (D Dt 0):=by
 have Z:(⟨b,o+1,E⟩:CW)≠⟨b,o,E⟩:=Y1;have Y:=ZT (P:=An) ZH Y3 Y3 Y3 Ax Y3 (w:=a.setCell ⟨b,o+1,E⟩ (D Dt 1)) (a:=⟨b,o,E⟩) (x:=0) ((ADc _ ⟨b,o+1,E⟩ ⟨b,o,E⟩ _ Y1).trans t);have aa:∀(p:AE)(a:AG),(UA .not (X p)).run An a=Ao (X (!p)) a:=λ_ _=>A;go_enter_defers Tryz.func221,Tryz.ntmps221;go_wp2_with (go_at_call 305;refine(i9 ⟨b,o+1,E⟩ _ (by go_simp) (by go_simp)).mono ?_;rintro f w' ⟨rfl,rfl⟩);go_wp2_with (go_at_call 220;go_in);refine u.mono ?_;rintro f w' ⟨rfl,x,q,r,F,G⟩;go_wp2;refine ADk (f:=307) (args:=#[T (C ⟨b,o,E⟩),X R]) Y1 (by simp[go_sem]) ((ABh ⟨b,o,E⟩ (D Ax 0) .returning _ q F).mono ?_);rintro f y z ⟨rfl,rfl,rfl⟩;refine ADk (f:=306) (args:=#[T (C ⟨b,o+1,E⟩)]) (by simp[settle]) (by simp[go_sem]) ((AC1 ⟨b,o+1,E⟩ _ _ ?_ (by simp[G])).mono ?_)
 ·refine(ADc _ ⟨b,o,E⟩ ⟨b,o+1,E⟩ _ Y1).trans ?_;rw[World.cell?_drew];exact r
 rintro f y z ⟨rfl,rfl,rfl⟩;simp[Leaves,settle,results,Tryz.results221];exact⟨_,x,A⟩
def d'(f:B)(n:Ai M)(F:∀(args:Ai M)(a:AG),(Ey f args).run An a=Ao (.enter f args) a)(b o:B)(m:AG->Prop)(a:AG)
 (p:a.cell? ⟨b,o,E⟩=C (D Ax 0))(y:a.cell? ⟨b,o+1,E⟩=C (D Dt 0))
 (u:a.frozen? ⟨b,o,E⟩=I)(x:a.frozen? ⟨b,o+1,E⟩=I)
 (q:CL An f n (a.setCell ⟨b,o+1,E⟩ (D Dt 1)) λj w'=>j=BT (AL #[])/\m w'/\w'.cell? ⟨b,o,E⟩=C (D Ax 0)/\w'.cell? ⟨b,o+1,E⟩=C (D Dt 1)/\w'.frozen? ⟨b,o,E⟩=I/\w'.frozen? ⟨b,o+1,E⟩=I):
 CL An 136 #[T (C ⟨b,o,E⟩),BZ (CA f) #[] n] a λj w'=>j=BT (AL #[])/\∃l,m l/\w'=(l.drew.setCell ⟨b,o,E⟩ (D Ax 1)).setCell ⟨b,o+1,E⟩ (D Dt 0):=by
 have G:=ZT (P:=An) ZH Y3 Y3 Y3 Ax Y3 p;have L:∀(r:AE)(a:AG),(UA .not (X r)).run An a=Ao (X (!r)) a:=λ_ _=>A;have t:=Ap q;clear q;go_enter ADP,ADX;go_wp2_with (first|(go_at_call 221;refine(ABT f n F b o m _ p y u x t.out).mono ?_;rintro j w' ⟨rfl,l,z,rfl⟩)|(go_at_call 220;go_in));go_end0;exact⟨A,l,z,A⟩
def d_(b o:B)(l:M)(a:AG)(m:a.cell? ⟨b,o,E⟩=C (D Ax 1)):
 CL An 136 #[T (C ⟨b,o,E⟩),l] a λj w'=>j=BT (AL #[])/\w'=a:=by
 have n:=ZT (P:=An) ZH Y3 Y3 Y3 Ax Y3 m;have p:∀(f:AE)(a:AG),(UA .not (X f)).run An a=Ao (X (!f)) a:=λ_ _=>A;go_enter ADP,ADX;go_wp2;go_end0;exact⟨A,A⟩
def BA.aa{a o:B}{v:M}(f:BA xw xs (.t a er xt::lg) yg):BA xw xs (.t a (er.set o v) xt::lg) (yg.setCell ⟨a,o,E⟩ v):=by
 have l:BU yg a er.toArray xt:=BA.h (a:=.t a er xt::lg) f;have j:=l.j o v;rw[KU] at j;exact BA.put (a:=.t a er xt::lg) (c:=.t a (er.set o v) xt::lg) (n:=er.set o v) f (Vv (R' _ _) _ _) j
variable{yy:Ai M}
def A9.an{x:Fr}{a o:B}(ah:A4.h l=C x)(aa:er[o]?=C (D Ax 0))(af:er[o+1]?=C (D Dt 0))
 (ag:Z9 l yy.toList (.t a (er.set (o+1) (D Dt 1)) xt::lg) λv t=>v=AL #[]/\∃f j,t=.t a f xt::j/\f[o]?=C (D Ax 0)/\f[o+1]?=C (D Dt 1)/\xv (AL #[]) (.t a ((f.set o (D Ax 1)).set (o+1) (D Dt 0)) xt::j)):
 Z9 136 [T (C ⟨a,o,E⟩),BZ (CA l) #[] yy] (.t a er xt::lg) xv:=by
 refine⟨λu L m z=>?_⟩;have n:BU m a er.toArray xt:=BA.h (a:=.t a er xt::lg) z;have W:m.cell? ⟨a,o,E⟩=C (D Ax 0):=by rw[n.e];simpa using aa
 have Y:m.cell? ⟨a,o+1,E⟩=C (D Dt 0):=by rw[n.e];simpa using af
 have ai:=z.aa (o:=o+1) (v:=D Dt 1);have y:=ag.ag u L _ ai;refine(d' l yy (λargs m=>A4.x l x ah args m) a o (λU=>∃f j,BA u L (.t a f xt::j) U/\xv (AL #[]) (.t a ((f.set o (D Ax 1)).set (o+1) (D Dt 0)) xt::j)) m W Y (n.g _) (n.g _) ?_).mono ?_
 ·rw[Array.toArray_toList] at y;refine y.mono ?_;rintro Z F ⟨v,t,rfl,⟨rfl,f,j,rfl,aj,ak,r⟩,q⟩;have p:BU F a f.toArray xt:=BA.h (a:=.t a f xt::j) q;exact⟨A,⟨f,j,q,r⟩,by rw[p.e];simpa using aj,by rw[p.e];simpa using ak,p.g _,p.g _⟩
 ·rintro Z F ⟨rfl,U,⟨f,j,q,r⟩,rfl⟩;exact⟨_,_,A,r,(q.t.aa (o:=o) (v:=D Ax 1)).aa (o:=o+1) (v:=D Dt 0)⟩
def A9.ao{a o:B}[n:Bo lg a er xt](l:er[o]?=C (D Ax 1))(p:xv (AL #[]) lg):Z9 136 [T (C ⟨a,o,E⟩),yb] lg xv:=by
 refine⟨λq u j f=>?_⟩;have m:BU j a er.toArray xt:=BA.h (p:=n) f;refine(d_ a o yb j (by rw[m.e];simpa using l)).mono ?_;rintro r t ⟨rfl,rfl⟩;exact⟨_,lg,A,p,f⟩
def LM(a:A6):G M:=[N a.b,N a.f,N a.f,N a.s,N 0,N 0,N 0,N 0]
def Ot(a:A6):G M:=[N 0,N a.b,N (a.b+a.f:B),N (a.b+2*a.f:B),N a.b,N a.b,N a.b,N a.b]
def UZ(a:S):AK 259 [] a (AV #[N 0,N 4,N 5,N 6,N 7,N 1,N 2,N 3]):=by
 refine A9.t ?_;intro f;refine A7 ?_;exact⟨a,AQ.y _,A,A⟩
def eT(a b f j m n o l:F)(p:AG):(Kg 10000 108 (AV #[N a,N b,N f,N j]) (AV #[N m,N n,N o,N l])).run An p=Ao (a==m&&b==n&&f==o&&j==l) p:=by
 have u3:=AD4;have x:=Tryz.isAgg3;have y:=Tryz.sizeOf3;rw[show(10000:B)=9999+1 from A,Kg];simp only[Ak,Io Tryz.underlying108,Bp];simp only[Std.Legacy.Range.forIn_eq_forIn_range',Std.Legacy.Range.size,Ta,AEe,Nat.div_one,List.range'_succ,List.range'_zero,List.forIn_cons,List.forIn_nil];go_simp;by_cases q:a=m<;>by_cases r:b=n<;>by_cases t:f=o<;>by_cases u:j=l<;>simp[q,r,t,u]
def E7.v{o:Al}{a b m p f j n q:F}(G:o.op=.binOp .eql 108 yo yu l)(W:CR yc yo=C (AV #[N a,N b,N m,N p]))(Y:CR yc yu=C (AV #[N f,N j,N n,N q]))
 (x:yr (X (a==f&&b==j&&m==n&&p==q)) .t):E7 A4 o yc lg yr:=by
 refine⟨_,_,x,AA,λai af aa aj r Z t ah ag=>?_⟩;unfold Bh;rw[G];simp only[t.b W,t.b Y];have u:=eT a b m p f j n q r;have L:Tryz.prog.eqGuardType Tryz.prog.depth 108=I:=Y3;have z:(IA .eql 108 yo yu (AV #[N a,N b,N m,N p]) (AV #[N f,N j,N n,N q])).run A4.b r=Ao () r:=by
  have U:A4.b.eqGuardType A4.b.depth 108=I:=L;simp[IA,Ak,ADr,Bp,U]
 have y:(ED .eql 108 (AV #[N a,N b,N m,N p]) (AV #[N f,N j,N n,N q])).run A4.b r=Ao (X (a==f&&b==j&&m==n&&p==q)) r:=by
  simp only[ED,Qa,Qc,Ak];rw[show(Kg 10000 108 (AV #[N a,N b,N m,N p]) (AV #[N f,N j,N n,N q])).run A4.b r=_ from u];rfl
 rw[Ak,Ak,z];simp only[Bp];rw[y];rfl
def ABJ(a:A6):AK 243 [DA a,AV #[N 0,N 0,N 0,N 0]] [] (AV (LM a).toArray):=by
 refine A9.t ?_;intro f j l;refine L ?_;intro m;refine A7 ?_;refine E7.v A A A (A7 ?_);exact⟨[],AQ.b,A,A⟩
abbrev LI:G M:=[N 0,N 0,N 0,N 0,D .u8 0,X I]
abbrev IM(a:A6)(f l:B)(m j:G M):G M:=IP a++(LI++(LI++([D Ax f,D Dt l,D Ax 0]++(m++j))))
abbrev Ik:G M:=[N 0,N 0,N 0,N 0,N 0,N 0,N 0,N 0]
def UY(a:A6)(l:a.e):Z9 83 [DA a,AV LI.toArray] [] λv j=>∃f,v=AL #[P f,N 0]/\j=[.t f (IM a 0 0 Ik Ik) 270]:=by
 refine A9.t ?_;intro m n;refine L ?_;refine A9.b (P3 a l) ?_;refine L ?_;intro f;refine L ?_;exact⟨[.t f (IM a 0 0 Ik Ik) _],AQ.b,f,A,A⟩
def fT(a:A6)(f:B):G M:=[N 0,N (if 5<f then a.b else 0:B),N (if 6<f then a.b+a.f else 0:B),N (if 7<f then a.b+2*a.f else 0:B),N (if 1<f then a.b else 0:B),N (if 2<f then a.b else 0:B),N (if 3<f then a.b else 0:B),N (if 4<f then a.b else 0:B)]
def CN(a:A6)(f:B):B:=match f with
 |0=>0
 |6=>a.b+a.f
 |7=>a.b+2*a.f
 |8=>a.b+2*a.f+a.s
 |_=>a.b
abbrev Wr:M:=AV #[N 0,N 4,N 5,N 6,N 7,N 1,N 2,N 3]
def AFZ{P:Prop}(h:P:=by simp only[CN];omega):P:=h
def bZ(a:A6)(q:a.e)(l n:B)(o p:AU):Ay 338 [P n] [.t l (IM a 0 1 Ik Ik) o,.t n [P l] p] (AL #[]) [.t l (IM a 0 1 (LM a) (Ot a)) o,.t n [P l] p]:=by
 obtain⟨x,y,z,G,M,S,U,W,aa,u⟩:=q;refine A9.y ?_;refine L ?_;refine A9.b (ABJ a) ?_;refine A7 ?_;refine A9.u (UZ []) ?_;rintro v t ⟨rfl,rfl⟩;refine L ?_;refine EY.f (m:=B) (λf=>8-f) (λf=>f<=8) (λf=>[(0,P n),(1,N (CN a f:B)),(17,Wr),(18,N (f:B))]) (λf=>[.t l (IM a 0 1 (LM a) (fT a f)) o,.t n [P l] p]) 0 Y ⟨A,A,A,A,AA⟩ (.w _) ?_;intro f af j;refine EY.b (IK.mk (λm=>?_) (λm=>?_))
 ·have m:f<8:=by simp at m;omega
  have r:f=0\/f=1\/f=2\/f=3\/f=4\/f=5\/f=6\/f=7:=Y;rcases r with rfl|rfl|rfl|rfl|rfl|rfl|rfl|rfl
  ·refine A' ?_;refine F'.mk (a.b:F) (by first|(rw[A3 AFZ];simp only[CN];omega)|rw[A3 Y]) (L ?_);exact F'.mk 1 A (j 1 Z Z ⟨A,A,A,A,AA⟩ (.w _))
  ·refine A' ?_;refine F'.mk (a.b:F) (by first|(rw[A3 AFZ];simp only[CN];omega)|rw[A3 Y]) (L ?_);exact F'.mk 2 A (j 2 Z Z ⟨A,A,A,A,AA⟩ (.w _))
  ·refine A' ?_;refine F'.mk (a.b:F) (by first|(rw[A3 AFZ];simp only[CN];omega)|rw[A3 Y]) (L ?_);exact F'.mk 3 A (j 3 Z Z ⟨A,A,A,A,AA⟩ (.w _))
  ·refine A' ?_;refine F'.mk (a.b:F) (by first|(rw[A3 AFZ];simp only[CN];omega)|rw[A3 Y]) (L ?_);exact F'.mk 4 A (j 4 Z Z ⟨A,A,A,A,AA⟩ (.w _))
  ·refine A' ?_;refine F'.mk (a.b:F) (by first|(rw[A3 AFZ];simp only[CN];omega)|rw[A3 Y]) (L ?_);exact F'.mk 5 A (j 5 Z Z ⟨A,A,A,A,AA⟩ (.w _))
  ·refine A' ?_;refine F'.mk ((a.b+a.f:B):F) (by first|(rw[A3 AFZ];simp only[CN];omega)|rw[A3 Y]) (L ?_);exact F'.mk 6 A (j 6 Z Z ⟨A,A,A,A,AA⟩ (.w _))
  ·refine A' ?_;refine F'.mk ((a.b+2*a.f:B):F) (by first|(rw[A3 AFZ];simp only[CN];omega)|rw[A3 Y]) (L ?_);exact F'.mk 7 A (j 7 Z Z ⟨A,A,A,A,AA⟩ (.w _))
  ·refine A' ?_;refine F'.mk ((a.b+2*a.f+a.s:B):F) (by first|(rw[A3 AFZ];simp only[CN];omega)|rw[A3 Y]) (L ?_);exact F'.mk 8 A (j 8 Z Z ⟨A,A,A,A,AA⟩ (.w _))
 ·have m:f=8:=by simp at m;omega
  subst m;refine L ?_;exact⟨A,A⟩
def bX(a:A6)(b:AE):G M:=match b with
 |false=>IM a 0 0 Ik Ik
 |true=>IM a 1 0 (LM a) (Ot a)
abbrev BG(f:B)(a:A6)(b:AE):BL:=.t f (bX a b) 270
def Ua(a:A6)(m:a.e)(f:B)(b:AE):Z9 258 [P f] [BG f a b] λv l=>l=[BG f a R]:=by
 cases b with
 |false=>
  refine A9.t ?_;intro j;refine L ?_;refine A9.w (AQ.u (D3 _ _ [])) (A9.an (er:=IM a 0 0 Ik Ik) A A A (A9.ab (bZ a m f j _ _) ⟨A,IM a 0 1 (LM a) (Ot a),_,A,A,A,?_⟩));refine L ?_;exact⟨[BG f a R],AQ.b,A⟩
 |true=>
  refine A9.t ?_;intro j;refine L ?_;refine A9.ao (a:=f) (er:=IM a 1 0 (LM a) (Ot a)) A (L ?_);exact⟨[BG f a R],AQ.b,A⟩
def A6.j(a:A6)(f:B):B:=match f with
 |0=>a.b
 |1=>a.f
 |2=>a.f
 |3=>a.s
 |_=>0
def A6.g(a:A6)(f:B):B:=match f with
 |0=>0
 |1=>a.b
 |2=>a.b+a.f
 |3=>a.b+2*a.f
 |_=>a.b
def R0(f:A6)(l:f.e)(j a:B)(p:a<8)(b:AE):Ay 292 [P j,N a] [BG j f b] (N (f.j a:B)) [BG j f R]:=by
 have q:=Aa ((a:F)<0);have r:=Aa ((a:F)≥8);refine A9.y ?_;refine L ?_;refine A9.z (Ua f l j b) λv o n=>?_;subst n;refine A7 ?_;refine Ms.mk (v:=N (f.j a:B)) ?_ ?_
 ·have m:a=0\/a=1\/a=2\/a=3\/a=4\/a=5\/a=6\/a=7:=Y;rcases m with rfl|rfl|rfl|rfl|rfl|rfl|rfl|rfl<;>rfl
 refine L ?_;exact⟨A,A⟩
def Qz(f:A6)(n:f.e)(l a j:B)(o:a<8)(S:j<f.j a)(b:AE):Ay 205 [P l,N a,N j] [BG l f b] (AL #[N (f.g a+j:B),X R]) [BG l f R]:=by
 have U:f.j a<=256/\f.g a<=1000:=by
  obtain⟨q,r,t,u,x,y,z,G,M,p⟩:=n;have m:a=0\/a=1\/a=2\/a=3\/a=4\/a=5\/a=6\/a=7:=Y;rcases m with rfl|rfl|rfl|rfl|rfl|rfl|rfl|rfl<;>simp only[A6.j,A6.g]<;>omega
 have W:=Aa ((j:F)<0);have Z:=Aa ((j:F)≥(f.j a:B));refine A9.y ?_;refine L ?_;refine A9.ab (R0 f n l a o b) ?_;refine A7 ?_;refine Ms.mk (v:=N (f.g a:B)) ?_ ?_
 ·have m:a=0\/a=1\/a=2\/a=3\/a=4\/a=5\/a=6\/a=7:=Y;rcases m with rfl|rfl|rfl|rfl|rfl|rfl|rfl|rfl<;>rfl
 refine A7 ?_;exact⟨A,A⟩
def b1(f:A6)(a:B)(b:AE):AK 217 [P a] [BG a f b] (X I):=by
 cases b<;>
  (refine A9.af A ?_
   refine L ?_;exact⟨A,A⟩)
def FM(a:B):B:=[0,4,5,6,7,1,2,3].getD a 0
def bU(f:A6)(p:f.e)(l j:B)(W:j<f.b+2*f.f+f.s)(b:AE):Z9 170 [P l,N j] [BG l f b] λv t=>∃m G:B,v=AL #[N m,N G,X R]/\t=[BG l f R]/\(m=0/\j<f.b\/(m=1\/m=2\/m=3)/\f.b<=j):=by
 obtain⟨af,ag,ah,ai,aj,ak,al,am,an,aa⟩:=id p;refine A9.y (L ?_);refine A9.z (Ua f p l b) λv S x=>?_;subst x;refine L ?_;refine A9.b (UZ []) (L ?_);refine EY.f (m:=B) (λa=>8-a) (λa=>a<=7/\CN f a<=j) (λa=>[(0,P l),(1,N (j:B)),(12,Wr),(13,N (a:B))]) (λa=>[BG l f R]) 0 ⟨Z,Af _⟩ ⟨A,A,A,A,AA⟩ (.w _) ?_;rintro a ⟨U,r⟩ y;refine EY.b ?_;have ao:=B7 ((a:F)<8);have u:IntKind.i64.wrap ((a:F)+1)=((a+1:B):F):=Y2;have o:IntKind.i64.wrap ((j:F)-(CN f a:B))=((j-CN f a:B):F):=Y4;have ap:=B7 ((j:F)≥(CN f a:B));have n:a=0\/a=1\/a=2\/a=3\/a=4\/a=5\/a=6\/a=7:=Y;by_cases q:j<CN f (a+1)
 ·have M:Ac (((j-CN f a:B):F)<(f.j (FM a):B))=R:=DH (by rcases n with rfl|rfl|rfl|rfl|rfl|rfl|rfl|rfl<;>simp only[CN,FM,A6.j,Cp,GI,IC,IG] at*<;>omega);rcases n with rfl|rfl|rfl|rfl|rfl|rfl|rfl|rfl<;>first|(simp only[CN] at q r;omega)|(refine A' ?_;refine F'.mk _ o (A' ?_);exact⟨_,_,A,A,by simp only[CN] at q r;first|exact AT ⟨A,Y⟩|exact Ae ⟨AT A,Y⟩|exact Ae ⟨Ae (AT A),Y⟩|exact Ae ⟨Ae (Ae A),Y⟩⟩)
 ·have M:Ac (((j-CN f a:B):F)<(f.j (FM a):B))=I:=F2 (by rcases n with rfl|rfl|rfl|rfl|rfl|rfl|rfl|rfl<;>simp only[CN,FM,A6.j,Cp,GI,IC,IG] at*<;>omega);have z:=@y (a+1) ⟨by rcases n with rfl|rfl|rfl|rfl|rfl|rfl|rfl|rfl<;>simp only[CN] at*<;>omega,Y⟩ (by show 8-(a+1)<8-a;omega);rcases n with rfl|rfl|rfl|rfl|rfl|rfl|rfl|rfl<;>(refine A' ?_;refine F'.mk _ o (A' ?_);exact F'.mk _ u (z ⟨A,A,A,A,AA⟩ (.w _)))
def h'{f a l:G M}{o j:B}(n:f.length=o)(m:a.length=j):CX (f++(a++l)) (0+o) j R=C (AV a.toArray):=by
 show(match La (0+o+j) (f++(a++l)).length with|true=>C (AV (((f++(a++l)).drop (0+o)).take j).toArray)|false=>E)=_;rw[show La (0+o+j) (f++(a++l)).length=R by rw[AEg,Ad,Ad];omega];show C (AV (((f++(a++l)).drop (0+o)).take j).toArray)=_;rw[BF,IB Y,LX Y,Bz,Eg Y,DP Y]
def hY(j:B)(m:M)(a n:G M)(f:a.length=34)(o:a.all B'=R)(l:AU):AK 204 [P j] [.t j ([m]++(a++n)) l] (AV a.toArray):=by
 refine A9.t ?_;intro p;refine L ?_;refine Ms.mk (v:=AV a.toArray) (h' (o:=1) A f) (L ?_);refine Mw.mk ⟨by simp[f],Z,by simpa using o⟩ (L ?_);refine Ms.mk (v:=AV a.toArray) ?_ ?_
 ·show CX (Bf _ 0 a) (0+0) 34 R=_;rw[N_ (by rw[f];rfl)];exact MB f
 refine L ?_;exact⟨[.t j ([m]++(a++n)) l],AQ.b,A,A⟩
def Xz(a:B)(l:AU)(n:Tryz.prog.underlying l=C (.array a 5))(f:AG):(Kg 10000 l (AV (U a (W 0)).toArray) (AV (U a (W 0)).toArray)).run An f=Ao R f:=by
 have j:=Go.run_equalIn_bytes (P:=An) f 9998 l 5 a n Tryz.underlying5 (λf=>Y3) (U a 0) (U a 0) Y1 Y1;rw[FF] at j;have m:(U a (0:UInt8)==U a 0)=R:=Y1;rw[m] at j;exact j
def E7.u{o:Al}(x:o.op=.binOp .neq xt yo yu l)(F:Tryz.prog.underlying xt=C (.array p 5))(y:Tryz.prog.eqGuardType Tryz.prog.depth xt=I)
 (G:CR yc yo=C (AV (U p (W 0)).toArray))(L:CR yc yu=C (AV (U p (W 0)).toArray))(r:yr (X I) .t):E7 A4 o yc lg yr:=by
 refine⟨_,_,r,AA,λm Z Y ag a N n af aa=>?_⟩;unfold Bh;rw[x];simp only[n.b G,n.b L];have z:A4.b.eqGuardType A4.b.depth xt=I:=y;have u:∀f j:Ai M,(IA .neq xt yo yu (AV f) (AV j)).run A4.b a=Ao () a:=λf j=>by
  simp[IA,Ak,ADr,Bp,z]
 have t:∀f j:Ai M,(Kg 10000 xt (AV f) (AV j)).run A4.b a=Ao R a->(ED .neq xt (AV f) (AV j)).run A4.b a=Ao (X I) a:=λf j q=>by
  simp only[ED,Qa,Qc,Ak];rw[q];rfl
 rw[Ak,Ak,u];simp only[Bp];rw[t _ _ (Xz p xt F a)];rfl
abbrev EB:G M:=U 32 (W 0)++[X I,D Ax 0]
def J{a f:Prop}(l:f)(j:OT f->a:=by intro k;(repeat first|refine IK.y ?_|refine IK.aa ?_|(apply IK.t;focus assumption)|(apply IK.u;focus assumption)|(apply Ms.mk;focus rfl)|refine Mt.mk (aY.mk rfl) ?_|refine Mt.mk (show Cz _ _ _ from inferInstance) ?_|refine Mt.mk (show Bo _ _ _ _ from inferInstance) ?_|refine Mw.mk ⟨rfl,Nat.le_of_ble_eq_true rfl⟩ ?_|refine Mw.mk ⟨rfl,Nat.le_of_ble_eq_true rfl,rfl⟩ ?_);exact k.o):a:=j ⟨l⟩
structure C5 where
 a:B
 c:B
 h:B
 e:B
 b:B
 i:B
 g:B
 f:B
 d:B
structure BV where
 e:F
 a:B
 h:AE
 i:AE
 b:F
 c:F
 j:B
 f:M
 g:B
 s:AE
 d:M
 u:AE
abbrev RK(f:A6)(j:C5)(a:BV):G M:=[P j.a,N 70,N f.d,N 128,N f.b,N f.f,N f.s,N f.c,N f.i,N f.u,Cd 317 (AV #[P j.d]),P j.c,P j.h,P j.b,P j.i,P j.g,D Ax a.e,N a.a,X a.h,X a.i,N a.b,N a.c,N a.j,a.f,N a.g,X a.s,a.d,X a.u]
abbrev A_(j:B)(a:A6)(l:C5)(f:BV):BL:=.t j (RK a l f) 243
abbrev A5(a:B):M:=P a
def PR(a b:F):F:=bits .or Ax a b
def VJ(a:S):AK 285 [] a (AV #[X R,O E 0 0,D Ax 0,O E 0 0]):=by
 refine A9.t ?_;intro f;refine J ?_;exact⟨a,AQ.y _,A,A⟩
def VC(a:B)(f:A6)(l:C5)(j:BV):AK 207 [A5 a,X R] [A_ a f l j] (X R):=by
 refine A9.y ?_;refine J ?_;exact⟨A,A⟩
def EK(a:l≠p):((l:F)==(p:F))=I:=Y9
def eE(j:B)(l:A6)(n:C5)(m:BV)(f:B)(o:f≠35/\f≠36/\f≠38/\f≠13/\f≠23/\f≠18/\f≠25):Ay 288 [A5 j,N f] [A_ j l n m] (AL #[]) [A_ j l n {m with b:=-1,c:=-1,a:=0}]:=by
 obtain⟨p,q,r,t,u,x,y⟩:=o;have z:=EK p;have F:=EK q;have G:=EK r;have L:=EK t;have M:=EK u;have P:=EK x;have Q:=EK y;refine A9.y ?_;refine J ?_;exact⟨A,A⟩
def RI(f:B)(j:A6)(m:C5)(l:BV)(a:B)(n:a=23\/a=18\/a=25):Ay 288 [A5 f,N a] [A_ f j m l] (AL #[]) [A_ f j m {l with b:=-1,c:=-1}]:=by
 rcases n with rfl|rfl|rfl<;>
  (refine A9.af A ?_
   refine J ?_;exact⟨A,A⟩)
def eD(j:B)(l:A6)(n:C5)(m:BV)(f:B)(o:f=13\/f=35\/f=36\/f=38):Ay 288 [A5 j,N f] [A_ j l n m] (AL #[]) [A_ j l n {m with a:=0}]:=by
 rcases o with rfl|rfl|rfl|rfl<;>
  (refine A9.af A ?_
   refine J ?_;exact⟨A,A⟩)
def B0(a:B)(f:F):F:=PR (PR (a*512:B) 256) f
def Ku(l:B)(m:A6)(f:C5)(j:BV)(a:B4)(o:a.a<16):Ay 379 [A5 l] [A_ l m f j,Av f.a a] (AV #[X I,O E 0 0,D Ax (B0 a.a j.e),O E 0 0]) [A_ l m f {j with e:=0},Av f.a a]:=by
 refine A9.t ?_;intro n;refine J ?_;refine A9.b (Nd f.a a) ?_;refine J ?_;refine F'.mk (a.a:F) (Dh Y) ?_;refine J ?_;refine Mt.mk Z (F'.mk ((a.a*512:B):F) (by show IntKind.u32.wrap ((a.a:F)*512)=_;rw[Dh Y];omega) (J ?_));refine F'.mk (PR (a.a*512:B) 256) A (J ?_);refine F'.mk (B0 a.a j.e) A (J ?_);exact BE
def RG(j:B)(l:A6)(f:C5)(m:BV)(a:G B)(n:a.length=64)(o:a.getD 0 0<256):AK 442 [A5 j] [A_ j l f m,Bc f.c a] (N (a.getD 0 0:B)):=by
 refine A9.t ?_;refine J ?_;refine A9.b (Pj f.c 0 1 a Z n) ?_;refine J ?_;refine F'.mk ((a.getD 0 0:B):F) (A3 Y) (J ?_);exact BE
def Fy(a:G B):G B:=a++U (128-a.length) 0
def k1(a:q.length<=128):Bf (U 128 (W 0)) 0 (q.map W)=(Fy q).map W++[]:=by
 rw[FN _ _ _ AF5,BW,BF,Hn,Bz,List.drop_replicate,Fy,CU,FF,B1]
def e2(n:B)(p:A6)(r:C5)(q:BV)(m l a y:B)(f:G M)(o:AU)(j:G B)(z:(f.drop l).take a=j.map W)(F:j.length=a)(L:a<=128)(N:l+a<=f.length):Z9 206 [A5 n,O (C ⟨m,l,E⟩) a y] [A_ n p r q,.t m f o] λv x=>∃t,v=Q t 128 128/\x=[AJ t (Fy j) [],A_ n p r q,.t m f o]:=by
 refine A9.t ?_;refine J ?_;refine Cr.t (p:=128) (j:=128) (m:=_) (u:=_) A A A A A A ⟨Z,Z,Z⟩ (U 128 (W 0)) (DM _ _) (λu=>?_);refine J ?_;refine Cr.aa (n:=_) A A A A A A a Y (j.map W) ?_ ⟨?_,?_⟩ (Gy j) ?_
 ·show(f.drop l).take (a*1)=_;rw[B3,z]
 ·show l+a*1<=_;omega
 ·show 0+a*1<=(U 128 (W 0)).length;rw[BI];omega
 rw[k1 Y];refine J ?_;exact⟨[AJ u (Fy j) [],A_ n p r q,.t m f o],AQ.b,u,A,A⟩
variable{zb:Call}
def Cr.ay{o:Al}{l G j a F z:B}{f:AC CW}(r:o.op=.call zb)(n:zb.callee=.builtin .copy)(y:zb.argTypes=#[l,G])
 (m:DK yc zb.args.toList=C [O f a F,O E 0 z])(x:xx.c l=C (.slice j))(p:xx.e j=C yq)(q:xv (N 0) lg):Cr xx o yc lg xv:=by
 refine Cr.ac r n m λU Y L W u=>⟨_,L,lg,?_,q,u⟩;have t:Nat.min 0 a=0:=Nat.zero_min a;simp only[builtin,Builtin.copy_];rw[y];simp only[Ak];cases f<;>simp[xx.d x,Builtin.lenOf,xx.g p,Builtin.firstCells,t,loadCells,loadCellsFrom,storeCells]<;>rfl
structure E0 where
 b:B
 c:B
 a:B
 d:F
 f:F
 e:B
 g:F
abbrev Og(a:A6)(f:E0):G M:=[A5 f.b,A5 f.c,N 70,N a.d,N 128,N a.b,N a.f,N a.s,N a.c,N a.i,N a.u,A5 f.a,N f.d,N f.f,D Ax f.e,D Dt 0,D Ax 0,N f.g]
abbrev BH(f:B)(a:A6)(j:E0):BL:=.t f (Og a j) 160
abbrev Sq(a:B):M:=AV #[A5 a]
def ABH(p:B)(f:A6)(a:E0)(j:Aj)(o:B)(y:o<f.a)(x:j.b+10<=500000000):
 Z9 633 [Sq p,N o] [BH p f a,.u (At f a.b a.a j)] λv q=>∃n m l,j.g l 2/\(m.drop 0).take 128=(j.e o).map W/\(j.e o).length=128/\v=AL #[Q n 128 128,X R]/\q=[.t n m 5,BH p f a,.u (At f a.b a.a l)]:=by
 refine A9.t ?_;intro F;refine J ?_;refine A9.u (Yl f a.b a.a j o y x) ?_;rintro v z ⟨n,m,l,u,r,t,rfl,rfl⟩;refine J ?_;exact⟨[.t n m 5,BH p f a,.u (At f a.b a.a l)],AQ.b,n,m,l,u,r,t,A,A⟩
abbrev ADA(a m j l f:B):G M:=[N a,N m,O (C ⟨j,l,E⟩) 128 f]
def ABG(n:B)(j:A6)(f:E0)(l:Aj)(o q:B)(a:G6)(F:a.b<j.a)(y:Ki a.a)(G:(a.d.drop a.c).take 128=a.a.map W)(z:l.b+1000000<=500000000)(x:j.d*14+3<l.c):
 Z9 632 [Sq n,Q o 1 1] [BH n j f,.t o (ADA q a.b a.e a.c a.f) 177,Dq a,.u (At j f.b f.a l)] λv p=>∃m,l.h m a.b a.a/\v=X R/\p=[BH n j f,Dq a,.u (At j f.b f.a m)]:=by
 refine A9.t ?_;intro N;refine J ?_;refine EY.b (A7 ?_);intro S;refine J ?_;intro U;refine J ?_;refine Cr.ad (j:=_) (N:=_) A A A A A A A ⟨A,Z⟩ (Dy a) A A A ⟨Z,Z,Z⟩ (λt r L Y aa af=>?_);refine J ?_;refine F'.mk 1 A (J ?_);refine EY.b (J ?_);refine A9.u (ACU j f.b f.a l a t r L F y G z x) ?_;rintro v M ⟨m,u,rfl,rfl⟩;refine J ?_;exact⟨[BH n j f,Dq a,.u (At j f.b f.a m)],AQ.b,m,u,A,A⟩
def ABF(l:B)(j:A6)(a:E0)(f:Aj)(m:j.d*14+1<f.c)(n:f.d<7000):AK 630 [Sq l] [BH l j a,.u (At j a.b a.a f)] (AL #[D .u8 1,D .u8 0]):=by
 refine A9.t ?_;intro o;refine J ?_;refine A9.b (ACC j a.b a.a f n) ?_;refine J ?_;refine F'.mk 1 A ?_;refine J ?_;refine A9.b (ABw j a.b a.a f m) (J ?_);refine F'.mk 0 A (J ?_);exact BE
def RJ(n:B)(f:A6)(p:f.e)(l:C5)(o:BV)(a m j:B)(q:a<8)(V:1<=j)(U:m+j<=f.j a)(b:AE):Ay 200 [A5 n,N a,D Ax m,N j] [A_ n f l o,BG l.b f b] (X R) [A_ n f l o,BG l.b f R]:=by
 have W:f.j a<=256:=by
  obtain⟨x,y,z,G,L,M,P,Q,S,u⟩:=p;have r:a=0\/a=1\/a=2\/a=3\/a=4\/a=5\/a=6\/a=7:=Y;rcases r with rfl|rfl|rfl|rfl|rfl|rfl|rfl|rfl<;>simp only[A6.j]<;>omega
 have Z:=B7 ((j:F)<=(f.j a:B));have t:=B7 ((m:F)<=((f.j a-j:B):F));refine A9.t ?_;refine J ?_;refine A9.b (R0 f p l.b a q b) ?_;refine A7 ?_;exact⟨_,AQ.b,AB X t,A⟩
def eF(n:B)(a:A6)(x:a.e)(l:C5)(r:BV)(f j m:B)(q:G M)(t:f/a.c<j)(z:f<=1000):AK 209 [A5 n,N 0,N f] (A_ n a l r::DB l.h l.e j m (U j 0) q) (X I):=by
 obtain⟨S,V,W,Z,aa,af,ag,ah,ai,Q⟩:=x;have o:=gV l.h l.e j m (f/a.c) (U j 0) q t BI (λaj P=>by rw[(FX.1 P).2];decide);have y:((U j 0).getD (f/a.c) 0==0)=R:=by
  rw[AY,List.getElem?_replicate,A8 t];rfl
 rw[y] at o;have L:f/a.c<=1000:=D9 (Nat.div_le_self _ _) z;obtain⟨p,u⟩:∃p,f/a.c=p:=⟨_,A⟩;rw[u] at o L;refine A9.t ?_;refine A' ?_;refine F'.mk ((p:B):F) (by rw[show((f:B):F).tdiv (a.c:F)=((f/a.c:B):F) from A,u];exact A3 Y) ?_;refine J ?_;refine A9.b o (J ?_);exact⟨A_ n a l r::DB l.h l.e j m (U j 0) q,AQ.b,A,A⟩
def VD(j:B)(l:A6)(n:C5)(m:BV)(f:B)(o:f≠18/\f≠25):Ay 441 [A5 j,N f] [A_ j l n m] (N 1) [A_ j l n {m with a:=0,h:=I,i:=I}]:=by
 have p:((f:F)!=18)=R:=Y8;have q:((f:F)!=25)=R:=Y8;refine A9.t ?_;refine J ?_;exact BE
def eH(j:B)(m:A6)(n:C5)(f:BV)(l:B)(p:l=18\/l=25)(q:f.a=0):Ay 441 [A5 j,N l] [A_ j m n f] (N 1) [A_ j m n {f with a:=0,h:=I,i:=I}]:=by
 obtain⟨L,o,rel,z,u,G,r,y,x,F,M,t⟩:=f;obtain rfl:o=0:=q;rcases p with rfl|rfl
 ·refine A9.t ?_;refine J ?_;exact BE
 ·refine A9.t ?_;refine J ?_;exact BE
def eI(j:B)(m:A6)(o:C5)(f:BV)(l:B)(p:l=18\/l=25)(q:0<f.a):Ay 441 [A5 j,N l] [A_ j m o f] (N f.a) [A_ j m o {f with a:=0}]:=by
 obtain⟨P,n,rel,z,u,M,r,y,x,L,Q,t⟩:=f;have G:((n:F)==0)=I:=by rw[Bv];have:0<n:=q;omega
 rcases p with rfl|rfl
 ·refine A9.t ?_;refine J ?_;exact BE
 ·refine A9.t ?_;refine J ?_;exact BE
def fB(p:B)(f:A6)(a:C5)(t:BV)(j:E0)(l:Aj)(x u r y z q:B)(U:q<f.a)(S:l.b+10<=500000000):
 Z9 446 [A5 p,N y,N z,N q] (A_ p f a t::BH a.d f j::.u (At f j.b j.a l)::Cn a.g a.f x u r) λv F=>∃o n m,l.g m 2/\(n.drop 0).take 128=(l.e q).map W/\(l.e q).length=128/\v=Q o 128 128/\F=.t o n 5::A_ p f a t::BH a.d f j::.u (At f j.b j.a m)::Cn a.g a.f x u r:=by
 refine A9.t ?_;refine J ?_;refine A9.b (ACf a.g a.f x u r y z) ?_;refine J ?_;refine A9.u (ABH a.d f j l q U S) ?_;rintro v Y ⟨o,n,m,M,G,L,rfl,rfl⟩;refine J ?_;refine A9.b (VC p f a t) (J ?_);exact⟨.t o n 5::A_ p f a t::BH a.d f j::.u (At f j.b j.a m)::Cn a.g a.f x u r,AQ.b,o,n,m,M,G,L,A,A⟩
def D6.s{a:D6}(m:a.c l p):∃j n,a.b p=O j p n:=by
 obtain⟨f,q,o,r,t⟩:=a;cases f with
 |none=>obtain rfl:=m.nA.nB A;exact⟨_,_,A⟩
 |some f=>exact⟨_,_,A⟩
def BN(a f:B):G B:=(AH f).map (a+·)
def Ju(f a:B):(BN f a).length=a:=by simp[BN]
def P1(a f:B):BN a (f+1)=BN a f++[a+f]:=by simp[BN,DO]
abbrev F7(f:D6)(a:G B):BL:=.u (A2 (f.a (a.map AD) 3))
abbrev BY(f a:B):M:=AV #[N f,D Ax a]
def AFa{P:Prop}(h:P:=by rw[P1,List.map_append];rfl):P:=h
def AF8{P:Prop}(h:P:=by rw[List.length_map,Ju,Nat.mul_one]):P:=h
def fP(r:B)(p:A6)(ah:p.e)(m:C5)(W u:BV)(y:B4)(x:G B)(L o l a:B)(b:AE)(a2:y.a=6)(a4:x.length=64)(av:x.getD 0 0=a)(aw:a<8)(bm:a≠3)(aj:1<=l/\l<=64)(ay:o+l<=p.j a)(a3:u.i=I)
 (a0:Ay 441 [A5 r,N L] [A_ r p m W] (N l) [A_ r p m u]):
 Z9 377 [A5 r,BY L o] [A_ r p m W,Av m.a y,Bc m.c x,BG m.b p b]
  λv ap=>∃t:D6,t.c 1 l/\v=AL #[]/\ap=[A_ r p m {u with j:=a,s:=u.h,f:=t.b l,g:=0},Av m.a ⟨6,y.d,l⟩,Bc m.c x,BG m.b p R,F7 t (BN o l)]:=by
 have bo:p.j a<=256:=by
  obtain⟨bd,be,bf,bg,bh,bi,bj,bk,bl,bc⟩:=ah;have ax:a=0\/a=1\/a=2\/a=3\/a=4\/a=5\/a=6\/a=7:=Y;rcases ax with rfl|rfl|rfl|rfl|rfl|rfl|rfl|rfl<;>simp only[A6.j]<;>omega
 have br:((a:F)==3)=I:=Y9;have ai:=RG r p m u x a4 Y;rw[av] at ai;obtain⟨an,S,rel,a7,aa,am,ba,bq,bn,bs,ao,U⟩:=u;obtain rfl:a7=I:=a3;refine A9.t ?_;intro ag;refine J ?_;refine A9.b a0 (J ?_);refine A9.b ai ?_;refine J ?_;refine A9.u (RJ r p ah m ⟨an,S,rel,I,aa,am,a,O E 0 0,0,rel,ao,U⟩ a o l aw aj.1 ay b) ?_;rintro v aq ⟨rfl,rfl⟩;refine J ?_;refine A9.u (l6 m.a l y a2 aj) (λv aq ak=>?_);obtain rfl:=ak;refine J ?_;refine EY.f (m:=B×D6) (λq=>l-q.1) (λq=>q.1<=l/\q.2.c 1 q.1) (λq=>[(0,A5 r),(3,P ag),(78,N (l:B)),(79,N (q.1:B))]) (λq=>[A_ r p m ⟨an,S,rel,I,aa,am,a,q.2.b q.1,0,rel,ao,U⟩,Av m.a ⟨6,y.d,l⟩,Bc m.c x,BG m.b p R,F7 q.2 (BN o q.1),.t ag [N L,D Ax o] 214]) (0,Es) ⟨Af _,⟨⟨λ_=>A,A,⟨AI _,Af _⟩,Af _⟩,A,A,A⟩⟩ ⟨A,A,A,A,AA⟩ ?_ ?_
 ·exact(AQ.aa [] _).t AQ.b
 rintro⟨n,t⟩ ⟨az,z⟩ a6;dsimp only at az z;refine EY.b ?_;by_cases a8:n<l
 ·have M:=B7 ((n:F)<(l:B));obtain⟨a9,bp,ak⟩:=D6.s z;have au:(BN o n).map AD++[AD (o+n)]=(BN o (n+1)).map AD:=AFa;have a1:((BN o n).map AD).length=n*1:=AF8;refine IK.u M (A7 ?_);intro bb;refine J ?_;refine Cr.ah (yq:=_) (yb:=_) A A A t ((BN o n).map AD) A A A A ⟨A,Z⟩ z a1 (Gt.t (x:=F7 t (BN o n)) Y0) [AD (o+n)] A A A Z ⟨Y,Z⟩ (λaf ar al a5=>?_);refine J ?_;refine F'.mk ((n+1:B):F) Y2 ?_;rw[au];exact a6 (n+1,⟨C af,0,ar,[],al⟩) ⟨a8,a5⟩ Y6 ⟨A,A,A,A,AA⟩ (AQ.af (j:=.t af ((BN o (n+1)).map AD++al) 3) A Y0 AQ.b)
 ·have M:=Aa ((n:F)<(l:B));refine IK.t M ?_;obtain rfl:n=l:=Y;refine J ?_;exact⟨_,AQ.b,t,z,A,A⟩
def GQ(v:M)(m:S)(a:G B):Prop:=(a=[]/\m=[]/\∃l n,v=O l 0 n)\/∃j f o,a.length<=f/\v=Q j a.length f/\m=[.t j (a.map AD++o) 3]
def PN{a:D6}(m:a.c 1 l)(o:q.length=l)(t:0<l):GQ (a.b l) (a.a (q.map AD) 3) q:=by
 obtain⟨f,u,j,x,r⟩:=a;obtain⟨⟨p,_,⟨n,_⟩,_⟩,rfl,rfl,_⟩:=m;cases f with
 |none=>have:=p A;omega
 |some f=>subst o;exact Ae ⟨f,j,r,n,A,A⟩
def d0(j:CW)(m:B)(a:S):Z9 123 [O (C j) 0 m] a λv f=>(∃l n,v=O l 0 n)/\f=a:=by
 refine A9.t ?_;refine J ?_;intro o;refine J ?_;refine Cr.ab (yq:=_) A A A A A A (AI _) (J ?_);exact⟨a,AQ.y _,⟨_,_,A⟩,A⟩
def d1(f o q:B)(a:G B)(l:G M)(n:AU)(F:a.length<=1000000)(z:(l.drop o).take a.length=a.map AD):
 Z9 123 [O (C ⟨f,o,E⟩) a.length q] [.t f l n] λv p=>∃j m u,GQ (O j a.length m) u a/\v=O j a.length m/\p=[.u (A2 u),.t f l n]:=by
 cases a with
 |nil=>
  refine A9.aa (A9.z (d0 ⟨f,o,E⟩ q [.t f l n]) ?_);rintro v p ⟨⟨j,m,rfl⟩,rfl⟩;exact⟨_,AQ.aa [] _,j,m,[],AT ⟨A,A,j,m,A⟩,A,A⟩
 |cons x a=>
  refine A9.aa (A9.z (Oe f o (x::a).length q (x::a) l n F z A Y1) ?_);rintro v p ⟨t,r,L,y,N,S,rfl,rfl⟩;exact⟨_,AQ.aa [_] _,V t,r,_,Ae ⟨t,r,L,y,A,A⟩,A,A⟩
def eS(p:B)(f:A6)(an:f.e)(a:C5)(l:BV)(j:E0)(u:Aj)(q:G B)(m L aa Y F o n z ag ah:B)(S:G M)(b:AE)(y:G M)(r:G B)(az:q.length=64)(a0:q.getD 1 0=0)(aq:o<8)(av:l.j=o)(a1:n<f.j o)(ay:f.g o+n<f.a)
 (aw:AK 209 [A5 p,N o,N (f.g o+n:B)] (A_ p f a l::Bc a.c q::DB a.h a.e m L (U m 0) S) (X I))
 (af:Ki r)(au:(y.drop ag).take 128=r.map W)(ax:u.b+1000000<=500000000)(ar:f.d*14+3<u.c):
 Z9 124 [A5 p,N n,O (C ⟨z,ag,E⟩) 128 ah] ([A_ p f a l,Bc a.c q,BG a.b f b,BH a.d f j,.u (At f j.b j.a u),.t z y 5]++(DB a.h a.e m L (U m 0) S++Cn a.g a.f aa Y F))
  λv ak=>∃x t,u.h x (f.g o+n) r/\v=D .u8 229/\ak=[A_ p f a {l with d:=Q t 1 1},Bc a.c q,BG a.b f R,BH a.d f j,.u (At f j.b j.a x),.t z y 5]++(DB a.h a.e m L (U m 0) S++Cn a.g a.f aa Y F):=by
 subst av;have ai:=Pj a.c 1 1 q Z az;rw[a0] at ai;refine A9.t ?_;refine J ?_;refine A9.b (Qz f an a.b l.j n aq a1 b) ?_;refine J ?_;refine A9.b aw (J ?_);refine A9.u (HT z ag 128 ah r y 5 Z au af.a) ?_;rintro v al ⟨am,aj,a2,rfl,rfl⟩;refine J ?_;intro t;refine J ?_;refine A9.b ai ?_;refine J ?_;have ap:=ABG a.d f j u t 0 ⟨f.g l.j+n,am,0,128+aj.length,r.map W++aj,r⟩ ay af (by rw[CJ];exact C_ (by rw[BW];exact af.a)) ax ar;refine A9.u ap ?_;rintro v al ⟨x,ao,rfl,rfl⟩;refine J ?_;refine A9.b (VC p f a {l with d:=Q t 1 1}) (J ?_);refine A9.b (ACe a.g a.f aa Y F l.j n) (J ?_);refine⟨_,AQ.b (g:=[A_ p f a {l with d:=Q t 1 1},Bc a.c q,BG a.b f R,BH a.d f j,.u (At f j.b j.a x),.t z y 5]++(DB a.h a.e m L (U m 0) S++Cn a.g a.f aa Y F)),x,t,ao,A,A⟩
def e6(t:B)(j:A6)(a6:j.e)(a:C5)(p:BV)(m:E0)(x:Aj)(q:B4)(u:G B)(n Z am ak ai o r S ap aq ao af:B)(l:G B)(an:G M)(aa:G M)(b:AE)(L:G M)(aj:G B)(bp:u.length=64)(bq:u.getD 1 0=0)(a9:o<8)(bt:o≠3)(bf:p.j=o)(br:r<j.j o)(bn:j.g o+r<j.a)
 (av:q.a=6)(bo:1<=q.f/\q.f<=64)(be:p.u=I)(bh:p.g=0)(bm:p.f=Q ao (l.length+1) af)(bu:l.length<=64)(bv:l.length+1<=af)
 (bg:∀p:BV,AK 209 [A5 t,N o,N (j.g o+r:B)] (A_ t j a p::Bc a.c u::DB a.h a.e n Z (U n 0) aa) (X I))
 (bc:Ki aj)(bb:(L.drop ap).take 128=aj.map W)(bi:x.b+1000000<=500000000)(ba:j.d*14+3<x.c):
 Z9 60 [A5 t,O (C ⟨S,ap,E⟩) 128 aq,X R] ([A_ t j a p,Av a.a q,.t ao ((r::l).map AD++an) 3,Bc a.c u,BG a.b j b,BH a.d j m,.u (At j m.b m.a x),.t S L 5]++(DB a.h a.e n Z (U n 0) aa++Cn a.g a.f am ak ai))
  λv a3=>∃y al ay ag,x.h y (j.g o+r) aj/\GQ ay ag l/\v=D .u8 229/\a3=[A_ t j a {p with f:=ay,d:=Q al 1 1},Av a.a q.g,.u (A2 ag),Bc a.c u,BG a.b j R,BH a.d j m,.u (At j m.b m.a y),.t S L 5]++(DB a.h a.e n Z (U n 0) aa++Cn a.g a.f am ak ai):=by
 obtain⟨a2,ar,rel,az,au,a1,z,bs,bd,a0,b2,a5⟩:=p;obtain rfl:a5=I:=be;obtain rfl:bd=0:=bh;obtain rfl:bs=_:=bm;obtain rfl:z=o:=bf;have b1:((q.a:F)!=6)=I:=by rw[av];rfl
 have bx:((z:F)==3)=I:=Y9;have a8:=Nd a.a q;refine A9.t ?_;refine J ?_;refine A9.b (a8) ?_;refine J ?_;refine A9.b (kU a.a q av bo) ?_;refine J ?_;refine Qh.mk 0 A Y ?_;refine J ?_;obtain⟨ah,bk,bl⟩:∃ah,(if af=1 then 0 else 0+1*1)=ah/\(((r::l).map AD++an).drop ah).take l.length=l.map AD:=by
  refine⟨_,A,?_⟩;split
  ·have:l=[]:=List.length_eq_zero_iff.1 Y;subst this;rfl
  ·show((r::l).map AD++an).tail.take l.length=_;exact C_ Y1
 refine Qp.mk 1 (l.length+1) af ah A A A ⟨Y,Y,Y⟩ A bk (J ?_);rw[show l.length+1-1=l.length by omega];refine A9.u (d1 ao ah (af-1) l ((r::l).map AD++an) 3 Y bl) ?_;rintro v a4 ⟨aw,ax,ag,bj,rfl,rfl⟩;refine J ?_;refine A9.u (eS t j a6 a ⟨a2,ar,rel,az,au,a1,z,O aw l.length ax,0,a0,O E 0 0,I⟩ m x u n Z am ak ai z r S ap aq aa b L aj bp bq a9 A br bn (bg _) bc bb bi ba) ?_;rintro v a4 ⟨y,al,a7,rfl,rfl⟩;refine J ?_;exact⟨_,AQ.b (g:=[A_ t j a ⟨a2,ar,rel,az,au,a1,z,O aw l.length ax,0,a0,Q al 1 1,I⟩,Av a.a q.g,.u (A2 ag),Bc a.c u,BG a.b j R,BH a.d j m,.u (At j m.b m.a y),.t S L 5]++(DB a.h a.e n Z (U n 0) aa++Cn a.g a.f am ak ai)),y,al,_,ag,a7,bj,A,A⟩
