/- Lemmas. -/
import Derived.Test.YtlklgghcliobfaaGreatDoorP01
import Derived.Test.YtlklgghcliobfaaGreatDoorProg
import Derived.KernelRfl
import Derived.Maps.AppendAt
import Derived.Laws.LoneSync
import Derived.Laws.MakeOwn
import Derived.Lib.TrailingZeros
import Derived.Laws.Bits64b
import Derived.Outline
import Derived.Laws.Rows
import Derived.Laws.Tables
import Derived.Laws.CopyOwn
import Derived.Stop.BytesEq
import Derived.Maps.RangeRun
import Derived.ArgAppend
import Derived.RangeFuncBox
import Derived.RangeFuncLeaves
import Derived.RangeFuncNested
import Derived.RangeFuncBound
import Derived.RangeFuncCalls
import Derived.Shelf.Abstract
import Derived.Shelf.RegionOpen
import Derived.WalkKit
import Derived.OwnWalkIn
import Derived.TacticsInMore
import Derived.LoopNIn
import Derived.LoopIn
import Derived.Sort.QuietIn
import Derived.Lib.AppendZeros
import Derived.Lib.AppendZerosOnto
namespace Go.Proofs.YtlklgghcliobfaaGreatDoor
open Go Go.RowKit
open _root_.Array renaming ext->a5,ext'->G4,getD->E6,getElem?_eq_getElem->Lf,getElem?_eq_some_iff->FY,getElem?_push_lt->QQ,getElem?_setIfInBounds_ne->OI,getElem?_toList->QR,length_toList->QS,replicate_succ->Jc,replicate_zero->Jd,toList_append->a7,toList_push->QT
open Bool renaming and_eq_true->GK,eq_false_iff->a8,eq_iff_iff->Iy,false->I,not_eq_true'->K',or_eq_true->Lg,true->R
open Decidable renaming decide->Ac
open Go renaming AbidesFrom->Ti,Act->C9,Addr->CW,Call->GL,Calls->CL,CallsIn->Jg,Func->Fr,IntKind->Ej,MapEntry->CO,Obj->EF,Oper->Al,Operand->Cf,Program->GN,SeqStopsK->TF,TypeId->AU,TypeInfo->EU,Value->M,World->AG,asIntOf->ZQ,bits->Dz,bodyPost_ret->Q4,builtin->GG,callFunc->Ey,callsIn_of_wp->M_,callsIn_wide->Ny,execOp->Bh,getD_set_ne->LQ,getObj->Q5,grownCap->Ma,grownCap_ge->ADh,grownCap_le_maxLen->ADi,heap_alloc2_old->ADj,invoke->LR,leftOf->LS,maxLen->BP,mem_ready->GH,resolve->LU,results_none->ADl,rounds_succ->EN,run_append_own_at->ADm,run_entry_at->ADq,run_getObj_map->LV,run_next_at->Q6,run_underlying->Io,u64_and_nat->ADt,u8_xor_nat->ZV,undef->Cw,wpAnyH->Ip,wpList_load_row->ADv,zeroValue->KL
open Go.Builtin renaming append->Je,append_->Tk,clear_->AFD,copy_->AFE,firstCells->AFF,lenOf->AFG,len_->AFH,zeroCells->Jf
open Go.Callee renaming builtin->Ei,value->Tl
open Go.ChangeMaps renaming setBlock->FZ
open Go.Ending renaming returned->BT
open Go.Fence renaming wide->Iz
open Go.Fn renaming func->CA,yield->GM
open Go.Instr renaming checkKey->IJ,findKey->Tp,findNow->OL,index->aF,keyThatStays->aG,lookup->Ji,mapUpdate->Lk,next->Jj,range->Ll,sameBits->aH,sameNow->aI,typeAssert->aL
open Go.IntKind renaming bits->Kb,i64->H,signed->Kc,u32->Ax,u64->Au,u8->BQ,wrap->Kd,wrap_u64->Tr
open Go.Lib renaming ctz->Lm,ctzFrom->aM,hid->Ap
open Go.Next renaming enter->Q',value->Kf
open Go.Obj renaming cells->CP,map->AM,mapIter->Cy
open Go.Op renaming call->FH,convert->ON
open Go.Proofs.Tryz renaming func317->ADR,func396->ADT,func482->TC,func507->ADV,func508->ADW,ntmps482->AD0,ntmps507->AD1,ntmps508->AD2,prog->An,underlying284->AD3,underlying642->TE
open Go.Region renaming Mode->AFQ,binds->KJ,free->AFR,noSelect->AFS,ready->FB,wanted->HC
open Go.Result renaming andThen->Nw,andThen_ok->Bp,ok->Ao
open Go.RowKit renaming Below->Bq,intOf->Cc
open Go.RowKit.Below renaming refl->DT
open Go.Sem renaming run_bind->Ak,run_pure->Ex
open Go.TypeDesc renaming int->JX,map->KK,slice->FC
open Go.Value renaming agg->AV,bool->X,cells->TH,func->BZ,iface->Cd,int->D,map->Ah,ownBlock->ADb,pointer->T,slice->O,string->In,tuple->AL
open Int renaming fdiv_eq_ediv_of_nonneg->TO,le_of_lt->ADz,natCast_mul->ZX,natCast_pow->TP,pow_mul->AED,pow_pos->AEE,tdiv_eq_ediv_of_nonneg->Z_
open List renaming all_eq_true->Gh,append->Hh,append_assoc->BS,append_nil->B1,append_toArray->JY,cons_append->DU,contains_iff_mem->Gi,drop->KM,drop_append->O0,drop_append_of_le_length->IB,drop_drop->FD,drop_eq_getElem_cons->HF,drop_left'->Mf,drop_of_length_le->LX,drop_replicate->TQ,drop_set_of_lt->AEO,drop_take->Zc,drop_zero->CJ,eq_nil_of_length_eq_zero->KN,eq_replicate_iff->AEQ,ext_getElem->AES,ext_getElem?->Gj,filter_append->EO,filter_eq_nil_iff->QA,filter_eq_self->Zd,findIdx?_eq_none_iff->O1,findIdx?_eq_some_iff_getElem->O2,flatMap_append->KP,flatMap_cons->FE,flatMap_def->AEX,foldl_cons->DN,getD->Cp,getD_eq_getElem?_getD->AY,getElem?_append_left->Di,getElem?_append_right->G3,getElem?_cons_succ->IC,getElem?_cons_zero->GI,getElem?_drop->FU,getElem?_eq_getElem->Aw,getElem?_eq_none->Dm,getElem?_eq_some_iff->Cx,getElem?_map->D_,getElem?_range->Mg,getElem?_replicate->HH,getElem?_set->EV,getElem?_take->Is,getElem?_take_of_lt->Mi,getElem?_toArray->LY,getElem_mem->Gk,getElem_of_mem->O3,length->O4,length_append->Ad,length_cons->C8,length_drop->DV,length_map->BW,length_nil->FV,length_range->Dj,length_replicate->BI,length_set->B_,length_singleton->JZ,length_take->Ci,map->HI,map_append->CU,map_congr_left->It,map_cons->Ee,map_drop->Hj,map_map->Iu,map_nil->TT,map_replicate->FF,map_set->J_,map_take->Hk,mem_append->Bs,mem_append_right->KR,mem_cons->C2,mem_cons_of_mem->By,mem_cons_self->Bt,mem_filter->CF,mem_map->CI,mem_of_getElem?->FW,mem_of_mem_drop->EP,mem_of_mem_take->EW,mem_range->Ce,mem_replicate->FX,mem_singleton->CZ,nil_append->Bz,nodup_append->ID,nodup_cons->O6,not_mem_nil->Ef,perm_append_comm->Cj,perm_append_comm_assoc->QE,perm_middle->EE,push_toArray->KT,range->AH,range_succ->DO,replicate->U,replicate_append_replicate->TV,setIfInBounds_toArray->KU,set_append_left->Zk,set_append_right->O8,set_cons_succ->Mj,set_cons_zero->Mk,set_set->Hl,size_toArray->KV,take->GJ,take_add->AE9,take_add_one->KW,take_append->Zl,take_append_drop->Hm,take_append_of_le_length->Eg,take_left'->C_,take_of_length_le->DP,take_set->AEa,take_zero->Hn
open List.Perm renaming append_right->AEM,cons->HE,of_eq->DZ,refl->Bi,swap->D3,trans->Me
open List.cons renaming injEq->Za
open Min renaming min->Bj
open Nat renaming add_assoc->Zm,add_comm->L_,add_mul->QF,add_zero->L',and_two_pow_sub_one_eq_mod->O9,div_div_eq_div_mul->Zp,div_lt_of_lt_mul->AEk,div_one->AEm,le_of_ble_eq_true->DW,le_refl->AI,le_trans->D9,lt_or_ge->Ck,lt_succ_self->QI,min->AEr,min_eq_left->Zq,mod_eq_of_lt->Ja,mod_le->AEs,mod_lt->Ml,mod_one->AEt,mul_add->OA,mul_assoc->TZ,mul_comm->OB,mul_le_mul->QJ,mul_le_mul_right->OD,mul_one->B3,or_comm->AEu,pow_add->AEv,pow_le_pow_right->Mm,pow_lt_pow_right->AEw,pow_mul->Zs,pow_succ->IF,pow_zero->AEx,reduceAdd->KX,reduceSub->KY,sub_mul->Zt,succ_mul->Lc,testBit_two_pow->OF,testBit_two_pow_mul_add->QM,two_pow_add_eq_or_of_lt->AEz,two_pow_pos->QN,xor_assoc->Iw,xor_comm->Tb,xor_lt_two_pow->Zw,xor_self->Zx,zero_add->BF,zero_le->Af,zero_mul->Mn,zero_testBit->Tc
open Option renaming bind_some->Zy,getD_none->Zz,getD_some->IG,map_none->AFB,map_some->Ld,ne_none_iff_exists'->AFY,none->E,some->C,toList_some->a2
open Option.some renaming inj->Gl,injEq->EX
open Or renaming inl->AT,inr->Ae
open Prod renaming fst->IH,snd->Ho
open Prod.mk renaming injEq->F0
open UInt8 renaming ofNat->OG,toNat->OH
open _root_ renaming Array->Ai,Bool->AE,ByteArray->Lh,False->Be,Int->F,List->G,Nat->B,Option->AC,UInt8->QO,absurd->CV,beq_eq_false_iff_ne->Bv,beq_iff_eq->F1,bne_iff_ne->Bn,congrArg->AB,decide_eq_true->DH,decide_eq_true_eq->KZ,if_false->Hp,if_neg->A1,if_pos->A8,if_true->FG,inferInstance->HJ,or_false->Eh,outParam->Gm,rfl->A,trivial->AA
set_option linter.all false
set_option maxHeartbeats 8000000
set_option maxRecDepth 100000
def Y6{P:Prop}(h:P:=by dsimp only;omega):P:=h
namespace K
def ew(a:G (AN×AF))(f:B):B:=(a.filter λj=>Ac (f<j.1.a)).length
def ef(a:K):B:=max (2*(a.bp+1)) a.ec
structure jf(a:K)(f:G (AN×AF))(j:dc):Prop where
 nD:a.ct=a.bi
 nE:a.ae.length<=a.bp-a.bi/2
 nB:a.bi<a.ef
 nC:ew f a.aw<=a.bi
 nA:ew f j.nA<=a.ef+a.bi
variable{xz:G (AN×AF)}{l:B}
def md(f:∀a∈xz,a.1.a<=l):ew xz l=0:=by
 unfold ew;rw[QA.2 λa j=>by have:=f a j;simp;omega];rfl
variable{p:B}{n:K}{yw:AC dc}
def dh.nF(f:ad l n)(W:dh p n xz yw n.aw n.bf [])(cb:n.x+2<=p)(b9:n.i*9<=n.bc)(bo:l<=1000000000)(a0:∀x∈n.bb,x<256):
 ∃o,o.nA=n.aw/\fd 2 2 14 n n.ea/\dh p n.ea xz (C o) n.ea.aw n.ea.bf n.ea.ae/\(∀U∈xz,U.1.a<=n.ea.aw)/\n.ea.ct=0/\n.ea.bi=0/\n.ea.ae.length<=n.bp:=by
 have ci:=f.nD;have az:=f.nA.nA;have bl:=dx (p:=0) f Y;have ca:=dx (p:=1) f Y;have a2:(n.cl++n.ac).length<=128/\8<=(n.cl++n.ac).length:=by
  have:=f.nJ;have:=f.nF;rw[Ad,ka,f.nL];omega
 have bh:∀x∈n.cl++n.ac,x<256:=λx bm=>by
  rcases Bs.1 bm with y|y
  ·exact nr n x y
  ·exact f.nT x y
 have bv:(n.cl++n.ac).take 4≠[83,76,79,84]:=by
  rw[Eg (by rw[ka];omega),tr];unfold fu;rw[Eg (by rw[BK];exact AI _)];decide
 obtain⟨q,aa,cg⟩:=mv f Y;have r:=cj (ly az (D9 (ll f) Y));have ag:=hi f (p:=2) Z Y (ym:=⟨4,0,0,0,0,0⟩) (show 4<256 by decide) bh a2.1;have am:=fw az.nA (l:=2) Z bl ⟨4,0,0,0,0,0⟩ (n.cl++n.ac);obtain⟨ai,F,aj,ak⟩:=rr f W.nA.nA Y bo (ym:=⟨4,0,0,0,0,0⟩) (Ae A) A Z (q:=n.cl++n.ac) a2.1 Y bv;have ao:(n.af 2 ⟨4,0,0,0,0,0⟩ (n.cl++n.ac)).2.h=n.h:=(AB K.h am.nA:);have an:(n.af 2 ⟨4,0,0,0,0,0⟩ (n.cl++n.ac)).2.g=n.g:=(AB K.g am.nA:);have al:=wq f;unfold K.ea;obtain⟨U,a6⟩:∃U,U=n.af 2 ⟨4,0,0,0,0,0⟩ (n.cl++n.ac):=⟨_,A⟩;rw[<-a6] at ag ai F aj ak ao an al;clear am a6;obtain⟨a,z⟩:=U;dsimp only at ag ai F aj ak ao an al;have t:=ai.nB (ne ag.nA.nA.nA F);have b7:=jh ag.nA F;have ap:(z.ai a).ak a/\(z.ai a).ay a=z.ay a:=b7.nB.nA.nA a F;rw[al] at q r aa⊢;dsimp only at q r aa⊢;have L:(z.ai a).g=n.g/\(z.ai a).h=n.h:=⟨an,ao⟩;obtain⟨j,br⟩:∃j,j=z.ai a:=⟨_,A⟩;rw[<-br] at t q r aa ap L⊢;have cc:=t.nA.nB;obtain⟨o,aq⟩:∃o:dc,o=⟨n.aw,n.bq,n.bf,a,n.g⟩:=⟨_,A⟩;have u:dh p j xz yw n.aw n.bf []:=W.nC f.nA.nB t Y L.1 (λN _=>io L.2 N);have a5:=u.nA.nD;have a4:=u.nB;rw[L.1] at a5 a4;have bk:lu p j xz o:=by
  rw[aq];exact⟨ap.1,⟨_,ak,A,A,by rw[ap.2,aj,t.nA.nG];rfl⟩,a5,a4,W.nA.nG,f.nV.1,f.nV.2⟩
 have bp:j.db [a]=o.nD n.bb:=by
  rw[dc.nF j a n.g,aq,r.nD,r.nF,r.nC,t.nA.nF]
 have a3:j.i=n.i:=r.nA;have ck:=q.nD;have ch:(j.db [a]).length=60:=by
  have:=mm j [a] q.nA.nA.nC;rw[this];rfl
 have bx:hl (C (j.db [a])):=λb8 bn=>by
  cases bn;exact⟨Y,Y,ml q.nA (by rw[r.nC];exact a0) _⟩
 obtain⟨m,ar,a7,a8⟩:=vc q.nA u.nA.nC (by rw[a3];omega) bx;have S:=mi q.nA (by rw[a3];omega) (q:=j.db [a]) ⟨Y,ml q.nA (by rw[r.nC];exact a0) _⟩;have bi:=lw (ku j (j.db [a]));obtain⟨ah,bs⟩:∃ah,ah=j.eq (j.db [a]):=⟨_,A⟩;rw[<-bs] at m ar a7 a8 S bi⊢;have cd:=m.nB;have bj:hb p ah xz (C o):=by
  refine⟨u.nA.nA.nG m Y,λax M=>by cases M;exact bk.nH u.nA.nA m,λax M=>?_,ar.nA,λN a1=>?_,by rw[a7];exact u.nA.nD.nD m.nD m.nA,by rw[m.nF];exact u.nA.nG⟩
  ·cases M;rw[m.nE,t.nA.nE,<-bp];exact ar
  ·rw[io a8,io L.2];exact W.nA.nE N (by rw[es m.nA,es t.nA.nA] at a1;exact a1)
 obtain⟨a9,ba,bb⟩:=vg S.nA [a];have au:=K.rd S.nA (p:=[a]) (λy bq=>(S.nB.nA.nA y (aa y bq)).1) (by show 1<=4;decide);obtain⟨av,bt⟩:∃av,av=ah.gx [a]:=⟨_,A⟩;rw[<-bt] at a9 ba bb au⊢;obtain⟨bc,bd,be⟩:=tx au.nA;have bg:=qc au.nA;obtain⟨aw,bu⟩:∃aw,aw=av.hz:=⟨_,A⟩;rw[<-bu] at bc bd be bg⊢;have af:=a9.nB bc;have ce:=af.nA.nB;have ay:hb p aw xz (C o):=bj.nH S.nA.nA.nB af Y (bd.trans ba) (λN _=>io (be.trans bb) N);obtain⟨b1,b2,cl,b5,b3,b4,cm,bf⟩:=my bg.nA ay Y;have b6:=(t.nA.nN (m.nN (af.nA.nN b1.nA)));refine⟨o,by rw[aq],b6.nI Y Y Y,b2,λax M=>?_,b3,b4,?_⟩
 ·rw[b5];exact ay.nA.nC ax M
 ·rw[es af.nA.nA,es m.nA,es t.nA.nA] at bf;exact bf
variable{r:K}
def iq(a:r.t=n.t)(f:r.i=n.i):r.ef=n.ef:=by unfold ef ec bp;rw[a,f]
def vh(a:ad l n):n.ec=4\/n.ec=8:=by
 have:=a.nD;unfold ec;omega
def dh.nI{o:dc}(x:ad l n)(a4:dh p n xz (C o) n.aw n.bf n.ae)(bi:n.x+2<=p)(bh:n.i*9<=n.bc)(bm:l<=900000000)(a6:∀av∈n.bb,av<256)
 (bo:n.ct=n.bi)(ba:n.ae.length<=n.bp-n.bi/2)(bp:n.bi<n.ef)(bf:ew xz n.aw<=n.bi+1)(be:ew xz o.nA<=n.ef+n.bi+1):
 ∃U,fd 2 2 14 n n.ed/\dh p n.ed xz (C U) n.ed.aw n.ed.bf n.ed.ae/\jf n.ed xz U:=by
 have t:=lp x;have bn:=x.nD;have bl:=vh x;have y:=im (n:=n) (r:=n.cu) x.nA.nA A A A id;have a8:n.cu.bc=n.bc:=fr (ft (r:=n.cu) x.nA.nA A).2 A A A A A A;have L:dh p n.cu xz (C o) n.aw n.bf n.ae:=a4.nC x.nA.nB y (by show n.x<=p;omega) A (λa9 _=>A);have bk:n.ef%2=0:=by unfold ef;omega
 have bj:2*(n.bp+1)<=n.ef/\n.ec<=n.ef:=by unfold ef;omega
 have Z:n.cu.bi=n.bi+1:=A;have az:n.cu.ct=n.ct+1:=A;have u:n.cu.ae=n.ae:=A;have ah:n.cu.bp=n.bp:=A;have a0:n.cu.ef=n.ef:=A;have r:n.cu.aw=n.aw:=A;have z:n.cu.bf=n.bf:=A;have a1:n.cu.i=n.i:=A;have a2:n.cu.ec=n.ec:=A;have ay:n.cu.x=n.x:=A;have ag:n.cu.bb=n.bb:=A;unfold K.ed;obtain⟨a,al⟩:∃a,a=n.cu:=⟨_,A⟩;rw[<-al] at t y a8 L Z az u ah a0 r z a1 a2 ay ag⊢;clear al;have ao:a.bi%2≠0\/n.ae=[]->a.bi<a.ef->jf a xz o:=λM b=>⟨Y,by rw[u,ah,Z];rcases M with M|M;(· omega);(· rw[M];exact Af _),b,by rw[r];omega,Y⟩;split
 ·rename_i af;refine⟨o,y.nA.nI Y Y Y,by rw[r,z,u];exact L,ao (AT af) Y⟩
 ·rename_i af;have af:a.bi%2=0:=Y;unfold K.dq;split
  ·rename_i f j q;have a7:f<a.g.length:=t.nA.nO.2 f (by rw[q];exact Bt);have ak:=mw t.nA f Y;rw[u] at q;obtain⟨am,aw⟩:=dh.nG t.nA (S:=by rw[<-q];exact L) (xu:=f) (q:=j) Y Y Y a7;have S:=cj (hq t.nA.nA.nA f (dx (p:=0) t.nA Y));have an:=im (n:=a.bt f) (r:=(a.bt f).dv j) ak.nA.nA.nA A A A id;have m:=y.nB (am.nB an);have ax:dh p ((a.bt f).dv j) xz (C o) n.aw n.bf j:=aw.nC ak.nA.nA.nB an (by show(a.bt f).x<=p;have:=am.nA.nB;omega) A (λa9 _=>A);have ai:((a.bt f).dv j).aw=n.aw:=S.nD.trans r;have a3:((a.bt f).dv j).bf=n.bf:=S.nF.trans z;have aj:((a.bt f).dv j).ae=j:=A;have N:((a.bt f).dv j).bi=a.bi:=S.nE;have bg:((a.bt f).dv j).ct=a.ct:=S.nK;have aa:((a.bt f).dv j).bp=n.bp:=es m.nA.nA;have F:((a.bt f).dv j).ef=n.ef:=iq m.nA.nA m.nA.nC;rw[q,C8] at ba;refine⟨o,m.nA.nI Y Y Y,by rw[ai,a3,aj];exact ax,⟨Y,by rw[aj,N,aa,Z];omega,by rw[N,F];omega,by rw[ai,N];omega,by rw[N,F];omega⟩⟩
  ·rename_i q;rw[u] at q;split
   ·rename_i bb;have a5:dh p a xz (C o) a.aw a.bf a.ae:=by rw[r,z,u];exact L
    refine⟨o,y.nA.nI Y Y Y,a5,ao (Ae q) Y⟩
   ·rename_i bb;obtain⟨U,ap,aq,ar,au,bc,W,bd⟩:=dh.nF t.nA (W:=by rw[r,z,<-q];exact L) Y Y Y (by rw[ag];exact a6);have m:=y.nA.nN aq;have F:a.ea.ef=n.ef:=iq m.nA m.nC;have aa:a.ea.bp=n.bp:=es m.nA;refine⟨U,m.nI Y Y Y,ar,⟨Y,by rw[W,aa];omega,by rw[W,F];omega,by rw[K.md au];exact Af _,?_⟩⟩;rw[ap,r,W,F];omega
end K
namespace K
structure gf(m:B)(a f:K):Prop where
 nC:f.ab=a.ab
 nB:∀j,(f.b j).a=(a.b j).a/\(f.b j).b=(a.b j).b
 nA:f.gy=a.gy
 nF:f.br=a.br
 nD:f.g=a.g
 nH:f.j.length=a.j.length
 nG:∀l,l≠m->f.df l=a.df l
variable{l:B}
def gf.nK{m b n:K}(a:gf l m b)(f:gf l b n):gf l m n:=
 ⟨f.nC.trans a.nC,λj=>⟨(f.nB j).1.trans (a.nB j).1,(f.nB j).2.trans (a.nB j).2⟩,f.nA.trans a.nA,f.nF.trans a.nF,f.nD.trans a.nD,f.nH.trans a.nH,λp o=>(f.nG p o).trans (a.nG p o)⟩
def pd{a b:K}(f:b.da=a.da)(p:∀m,m≠l->b.df m=a.df m):gf l a b:=by
 have n:b.j=a.j:=(AB K.j f:);have o:∀j,b.b j=a.b j:=λj=>by unfold K.b;rw[n]
 exact⟨(AB K.ab f:),λj=>by rw[o];exact⟨A,A⟩,(AB K.gy f:),(AB K.br f:),(AB K.g f:),by rw[n],p⟩
variable{n:K}{p:B}
def ry(r:p<n.j.length)(f:Cq->Cq)(o:∀a,(f a).a=a.a)(q:∀a,(f a).b=a.b):gf l n (n.bl p f):=by
 have m:=λj=>ji (n:=n) f r j;refine⟨A,λj=>?_,A,A,A,by show(n.j.set _ _).length=_;rw[B_],λu _=>A⟩;rw[m];split
 ·rename_i t;rw[o,q,t];exact⟨A,A⟩
 ·exact⟨A,A⟩
variable{xq:AF}
def so(t:ad l n)(x:p<n.v)(ai:n.ak xq):gf (p/32) n (n.de p xq)/\n.u<=(n.de p xq).u/\(n.de p xq).u<=n.u+2:=by
 have ar:=ip t;obtain⟨L,m⟩:=hh t x;have ah:=gr t.nA.nA.nB x;have M:=ga t.nA.nA.nB ah;have aj:=lf n (p/n.ao);obtain⟨o,a,y⟩:∃o a,n.be p=(o,a):=⟨_,_,A⟩;have S:n.de p xq=((a.ev o).ee xq).ch p xq.c:=by unfold K.de;rw[y]
 have ak:a=n.am (p/n.ao):=by have:=AB Ho y;exact this.symm
 rw[y] at L m;dsimp only at L m;clear y;rw[<-ak] at M aj;have ao:gf (p/32) n a:=pd M.nA (λz _=>M.nC z);have Y:∀j,o=C j->a.ak j:=λj G=>(m.nB.nA.nA j (t.nA.nA.nC p j x (by rw[<-L,G])).1).1;have u:=qd m.nA o Y;have F:gf (p/32) a (a.ev o)/\(a.ev o).u=a.u:=by
  cases o with
  |none=>exact⟨pd A (λz _=>A),A⟩
  |some j=>exact⟨ry (Y j A).1 (λaa=>{aa with c:=aa.c-1}) (λ_=>A) (λ_=>A),A⟩
 obtain⟨r,al⟩:∃U,U=a.ev o:=⟨_,A⟩;rw[<-al] at u F S;have N:r.ak xq:=((m.nC u).nB.nA.nA xq ai).1;have q:=pm u.nA N;have Z:gf (p/32) r (r.ee xq):=ry N.1 _ (λ_=>A) (λ_=>A);have aq:(r.ee xq).u=r.u:=A;obtain⟨f,am⟩:∃U,U=r.ee xq:=⟨_,A⟩;rw[<-am] at q Z S aq;have ag:p<f.v:=by rw[((m.nC u).nC q).nB.nF];exact x
 have an:xq.c<256^4:=(kz q.nA.nA.nA (q.nB.nA.nA xq N).1).2;have W:=op q.nA.nA.nA.nB ag an;have ap:gf (p/32) f (f.ch p xq.c):=pd W.nA (λz af=>W.nD z (by rw[ip q.nA];exact af));have au:f.u<=(f.ch p xq.c).u/\(f.ch p xq.c).u<=f.u+1:=by
  have G:(f.ch p xq.c).u=(f.am (p/f.ao)).u:=by unfold ch;dsimp only;split<;>rfl
  rw[G];exact lf f _
 rw[S];exact⟨((ao.nK F.1).nK Z).nK ap,by have:=F.2;omega,by have:=F.2;omega⟩
def gf.nJ{a b:K}(j:gf l a b)(f:AF):b.ay f=a.ay f:=by unfold K.ay K.w;rw[j.nC]
def gf.nE{a b:K}(j:gf l a b)(f:B):b.w f=a.w f:=by unfold K.w;rw[j.nC]
def gf.nI{f b:K}(a:gf l f b)(j:AF):b.ak j↔f.ak j:=by
 unfold ak y;rw[a.nE,a.nH,(a.nB _).1]
variable{ym:AN}
def gf.nL{j b:K}(f:gf l j b)(a:fp p j xq ym):fp p b xq ym:=
 ⟨a.nB,by rw[f.nJ];exact a.nC,a.nA,a.nG,by rw[f.nJ];exact a.nD,by rw[(f.nB _).2];exact a.nF⟩
variable{yv:AC B×AC B}{np:B}
def gf.nM{a b:K}(j:gf l a b)(f:a.ey p yv np):b.ey p yv np:=by
 unfold ey ia at f⊢;rw[j.nJ];exact f
def ql(j:G (AN×AF))(a:AN×AF)(f:B):ew (j++[a]) f<=ew j f+1:=by
 unfold ew;rw[EO,Ad];have:=List.length_filter_le (λa:AN×AF=>Ac (f<a.1.a)) [a];simp only[JZ] at this;omega
structure sz(a:G B):Prop where
 nB:a.length=128
 nA:∀f∈a,f<256
 nC:a.take 4≠[83,76,79,84]
structure td(m:B)(f a:K)(j:G (AN×AF))(l:dc):Prop where
 nA:dh m a j (C l) a.aw a.bf a.ae
 nC:jf a j l
 nF:f.x<=a.x/\a.x<=f.x+3
 nI:f.bd<=a.bd/\a.bd<=f.bd+3
 nJ:f.u<=a.u/\a.u<=f.u+20
 nG:a.t=f.t
 nH:a.i=f.i
 nE:a.ac=f.ac
 nD:a.bb=f.bb
 nK:a.cs=f.cs
 nB:f.ah=[]->a.ah=[]
variable{xz:G (AN×AF)}{q:G B}
def dh.nH{ag:dc}(aj:ad l n)(F:dh p n xz (C ag) n.aw n.bf n.ae)(b2:jf n xz ag)(c6:n.x+3<=p)(b5:n.i*9+3<=n.cm)(c9:l<=800000000)(ca:∀x∈n.bb,x<256)(cc:np<n.t)(b6:sz q):
 ∃M a5,td p n (n.et np q) M a5:=by
 obtain⟨c5,b7,b9⟩:=b6;have da:=aj.nD;have db:n.i*9+2<=n.bc:=by unfold K.cm at b5;omega
 have a3:=dx (p:=0) aj Y;have a2:=aj.nA.nA;have cd:np<n.v:=by unfold K.v;omega
 obtain⟨ah,a1⟩:∃ah,ah=if n.dg np then 1 else 0:=⟨_,A⟩
 have ay:ah<=2:=by rw[a1];split<;>omega
 have a4:ah<=1:=by rw[a1];split<;>omega
 have cb:n.dg np=(ah==1):=by rw[a1];cases n.dg np<;>rfl
 have cp:n.et np q=((n.af ah ⟨1,np,0,0,0,0⟩ q).2.de np (n.af ah ⟨1,np,0,0,0,0⟩ q).1).ed:=by rw[a1];rfl
 have W:=fw a2.nA ay a3 ⟨1,np,0,0,0,0⟩ q;have aw:=ox a2.nA ay a3 ⟨1,np,0,0,0,0⟩ q;have z:=hi aj ay Y (ym:=⟨1,np,0,0,0,0⟩) (show 1<256 by decide) b7 Y;have o:=cj (il a2 ay a3 ⟨1,np,0,0,0,0⟩ q);have c3:(256:B)^4=4294967296:=Z;have U:=rs aj F.nA.nA ay Y Y (ym:=⟨1,np,0,0,0,0⟩) ⟨AI 1,by show 1<=5;decide⟩ A (show np<256^4 by have:=aj.nF;omega) (q:=q) Y Y b9;rw[cp];obtain⟨a7,bn⟩:∃a7,a7=n.af ah ⟨1,np,0,0,0,0⟩ q:=⟨_,A⟩;rw[<-bn] at W aw z o U⊢;clear bn;obtain⟨u,f⟩:=a7;dsimp only at W aw z o U⊢;have cn:ah≠2:=Y;have cl:=aw.2.2.2.2.2 cn;have b8:f.fo np u:=⟨_,by rw[z.nA.nB];exact U.nB.nE,A,A⟩;have bi:np<f.v:=by rw[z.nB.nF];exact cd
 obtain⟨a8,a9,ba,bb,br⟩:=ge.nH (np:=np) aj F.nA.nA a4 cc cb W U Y z.nB.nG;obtain⟨bc,bs⟩:=je.nE F.nB F.nA.nA a4 W U;obtain⟨bd,bx⟩:=je.nE (F.nA.nB ag A).nB F.nA.nA a4 W U;obtain⟨bo,ap,ct⟩:=iy z.nA bi U.nC b8;obtain⟨a,cu⟩:=so z.nA bi U.nC;have r:=cj (ln f np u);obtain⟨j,bm⟩:∃j,j=f.de np u:=⟨_,A⟩;rw[<-bm] at bo ap ct a cu r⊢;clear bm;have bl:j.ap=f.ap:=(AB K.ap a.nA:);have c7:j.x=f.x:=(AB K.x a.nA:);have dd:j.bd=f.bd:=(AB K.bd a.nA:);have cm:j.bq=f.bq:=(AB K.bq a.nA:);have an:j.t=n.t:=ap.nB.trans z.nB.nE;have be:j.v=n.v:=by unfold K.v;rw[an]
 have bh:j.ac=n.ac:=r.nH.trans o.nH;have av:dy n j:=z.nB.nA.nE ap.nA;obtain⟨M,ao⟩:∃M,M=xz++[(n.ff f u ⟨1,np,0,0,0,0⟩,u)]:=⟨_,A⟩;have bf:∀m,m<n.v->j.ba m=if m=np then C u else n.ba m:=λm y=>by
  rw[ap.nC m (by rw[z.nB.nF];exact y)];split
  ·rfl
  ·exact z.nB.nG m y
 rw[<-ao] at a8 a9 ba bb bc bd;have ch:∀v,j.al v=f.al v:=λv=>by
  unfold al;rw[show j.bh=f.bh from(AB K.bh a.nA:),show j.bg=f.bg from(AB K.bg a.nA:),a.nF]
 have b3:ge p j M:=by
  refine⟨λS ck=>?_,λt L=>?_,ba,λt L=>by rw[bl];exact bb t L,λm y=>?_,λv b co am=>?_⟩
  ·rcases a8 S ((a.nI S).1 ck) with⟨⟨au,N,ai⟩,ak,ar⟩|aq
   ·exact AT ⟨⟨au,a.nL N,ai⟩,by rw[(a.nB _).1];exact ak,by rw[a.nE];exact ar⟩
   ·exact Ae aq
  ·obtain⟨N,ai,ak,ar,bq,cv,cw⟩:=a9 t L;exact⟨(a.nI _).2 N,a.nL ai,by rw[(a.nB _).1];exact ak,ar,bq,by rw[ap.nB];exact cv,by rw[ks ap.nB (r.nH),a.nE];exact cw⟩
  ·rw[be] at y;rw[bf m y,ao,ui];by_cases aq:m=np
   ·rw[A8 aq,A8 (show(n.ff f u ⟨1,np,0,0,0,0⟩).c=m by rw[aq];rfl)];rfl
   ·rw[A1 aq,A1 (show¬(n.ff f u ⟨1,np,0,0,0,0⟩).c=m fromλp=>aq p.symm)];exact F.nA.nA.nE m y
  ·rw[ch] at am;exact(a.nI _).2 (br v b co am)
 have ci:∀b,j.bh=C b\/j.bg=C b->f.bh=C b\/f.bg=C b:=λb am=>by
  rw[show j.bh=f.bh from(AB K.bh a.nA:),show j.bg=f.bg from(AB K.bg a.nA:)] at am;exact am
 have cg:∀x,x<=n.ap->(∀t∈M,t.1.c=np->t.1.a<=x)->Be:=λx c4 S=>by
  have:=S (n.ff f u ⟨1,np,0,0,0,0⟩,u) (by rw[ao];exact KR _ (CZ.2 A)) A;have p:(n.ff f u ⟨1,np,0,0,0,0⟩).a=n.ap+1:=A;have this:(n.ff f u ⟨1,np,0,0,0,0⟩).a<=x:=this;omega
 have bj:∀{x az a0 a6},n.je xz x az a0 a6->n.hr a0->(∀t∈M,x<t.1.a->f.ey x az t.2.a)->(∀b,f.bh=C b\/f.bg=C b->f.ey x az b)->j.je M x az a0 a6:=λ{x az a0 a6} N ai ak ar=>by
  refine⟨λt L S=>a.nM (ak t L S),λb am=>a.nM (ar b (ci b am)),by rw[bl,W.nL];have:=N.nA;omega,λm y S au=>?_⟩;rw[be] at y;have ce:m≠np:=λp=>cg x N.nA λt L cq=>au t L (by rw[p];exact cq);rw[bf m y,A1 ce,ai.nE av (by rw[ai.nA];exact mh y)];exact N.nC m y S λt L=>au t (by rw[ao];exact List.mem_append_left _ L)
 have bk:j.jg (C (ag.nD j.bb)):=by
  have N:=(F.nA.nF ag A).nB aj.nA.nB U.nH o.nA;rw[<-o.nC] at N;have ai:hu f j:=⟨(AB K.aa a.nA:),(AB K.aq a.nA:),(AB K.av a.nA:),(AB K.bn a.nA:),λb=>by rw[(a.nB b).1],λb _=>by rw[a.nE],λb _=>by rw[a.nE]⟩;have ak:=N.nB z.nA.nA.nB ai r.nA;rw[r.nC];exact ak
 have b1:hb p j M (C ag):=by
  have aa:=F.nA.nB ag A;obtain⟨au,cx,cy,cz,c0⟩:=aa.nG;refine⟨b3,λt L=>?_,λt L=>(by cases L;exact bk),bk.nA,λm y=>?_,?_,by rw[cm,cl];omega⟩
  ·cases L;exact⟨(av.nA _ aa.nC).1,⟨au,cx,cy,cz,by rw[(av.nA _ aa.nC).2,bh];exact c0⟩,aa.nA.nD av an,bj aa.nB aa.nA bd bx,aa.nD,aa.nE,aa.nF⟩
  ·rw[es an] at y;have c8:np/32<n.bp:=by unfold bp;omega
   rw[a.nG m Y,io (show f.h=n.h from(AB K.h W.nA:))];exact F.nA.nE m y
  ·rw[a.nD,show f.g=n.g from(AB K.g W.nA:)];exact F.nA.nD.nD av an
 have b4:dh p j M (C ag) j.aw j.bf j.ae:=by
  refine⟨b1,?_⟩;rw[r.nD,o.nD,r.nF,o.nF,r.nG,o.nG,a.nD,show f.g=n.g from(AB K.g W.nA:)];exact bj F.nB F.nA.nD bc bs
 have bg:j.ef=n.ef:=iq an (r.nA.trans o.nA);have ax:j.bi=n.bi:=r.nE.trans o.nE;obtain⟨bt,bu,bv,c1,c2⟩:=b2;have de:=z.nD;obtain⟨a5,af,cr,cs⟩:=dh.nI bo b4 Y (by rw[r.nA,o.nA];omega) Y (by rw[r.nC,o.nC];exact ca) (by rw[r.nK,o.nK,ax];exact bt) (by rw[r.nG,o.nG,es an,ax];exact bu) (by rw[bg,ax];exact bv) (by
  rw[r.nD,o.nD,ax,ao];have:=ql xz (n.ff f u ⟨1,np,0,0,0,0⟩,u) n.aw;omega) (by
  rw[bg,ax,ao];have:=ql xz (n.ff f u ⟨1,np,0,0,0,0⟩,u) ag.nA;omega)
 have N:=af.nB;have ai:=af.nL;have ak:=af.nQ;have ar:=aw.1;have bq:=aw.2.1;exact⟨M,a5,cr,cs,Y,Y,Y,af.nA.trans an,af.nC.trans (r.nA.trans o.nA),af.nG.trans bh,af.nE.trans (r.nC.trans o.nC),af.nM.trans (r.nL.trans o.nL),λS=>af.nJ ((r.nB.trans o.nB).trans S)⟩
end K
namespace K
def gd(l:B)(a:K):Prop:=∃f j,dh l a f (C j) a.aw a.bf a.ae/\jf a f j
def dh.nE{q:B}{P:G (AN×AF)}{Q:AC dc}:∀(m:B){t:B}{a:K},ad t a->dh q a P Q a.aw a.bf a.ae->a.ae.length=m->a.x+m<=q->a.i*7+2*m<=a.bc->t+6*m<=900000000->
 ∃l,l=a.ae.foldl (λa _=>a.dq) a/\bz (t+6*m) a l (2*m)/\dk m m m a l/\dh q l P Q l.aw l.bf []/\l.ae=[]/\l.aw=a.aw
 |0,t,a,n,y,r,am,al,ap=>by
  have F:=KN r;rw[F];exact⟨a,A,bz.nF n,dk.nC n.nA.nA,by rw[F] at y;exact y,F,A⟩
 |m+1,t,a,n,y,r,am,al,ap=>by
  cases p:a.ae with
  |nil=>rw[p] at r;cases r
  |cons f j=>
   have an:f<a.g.length:=n.nO.2 f (by rw[p];exact Bt);have o:=mw n f Y;have Z:=y;rw[p] at Z;obtain⟨N,ai⟩:=dh.nG n Z Y Y Y an;have L:=cj (hq n.nA.nA f (dx (p:=0) n Y));have M:=n.nO;rw[p] at M;have x:=mz o.nA (q:=j) ⟨(O6.1 M.1).2,λaa ao=>by rw[o.nB.nC];exact M.2 aa (By _ ao)⟩;have ag:=im (n:=a.bt f) (r:=(a.bt f).dv j) o.nA.nA.nA A A A id;have S:dh q ((a.bt f).dv j) P Q a.aw a.bf j:=ai.nC o.nA.nA.nB ag (by show(a.bt f).x<=q;have:=N.nA.nB;omega) A (λaa _=>A);have z:((a.bt f).dv j).aw=a.aw:=L.nD;have U:((a.bt f).dv j).bf=a.bf:=L.nF;have u:((a.bt f).dv j).ae=j:=A;have ak:((a.bt f).dv j).x=(a.bt f).x:=A;have V:((a.bt f).dv j).i=a.i:=L.nA;have aj:a.dq=(a.bt f).dv j:=by unfold K.dq;rw[p]
   rw[p,C8] at r;have aq:=(o.nC x).nD;have a0:=N.nA.nB;rw[DN,aj];have W:=o.nC x;have af:=N.nB ag;obtain⟨l,ar⟩:∃l,l=(a.bt f).dv j:=⟨_,A⟩;rw[<-ar] at W x af S z U u ak V aq⊢;obtain⟨au,ah,av,aw,ax,ay,az⟩:=dh.nE m x.nA (by rw[z,U,u];exact S) (by rw[u];omega) Y (by rw[V];omega) Y;rw[u] at ah;exact⟨au,ah,(W.nC av).nE Y Y,(af.nB aw).nE Y Y Y,ax,ay,az.trans z⟩
variable{l p:B}{n:K}{xz:G (AN×AF)}{yw:AC dc}
def hb.nI(r:ad l n)(y:hb p n xz yw)(av:n.x+n.bp+2<=p)(au:n.i*9+40<=n.bc)(az:l+1000<=800000000)(z:∀Z∈n.bb,Z<256):
 ∃o,fd (n.bp+2) (n.bp+2) (n.bp+26) n n.fb/\dh p n.fb xz (C o) n.fb.aw n.fb.bf n.fb.ae/\jf n.fb xz o/\bz (l+300) n n.fb (2*n.bp+2)/\n.fb.bi=0:=by
 have ay:n.bp<=12:=by have:=r.nF;unfold bp;omega
 obtain⟨j,u,aa,L,ag,ap,al,an⟩:=my r y Y;have f:=km r;have ai:=f.nD;unfold K.fb;obtain⟨ao,aj⟩:∃F,F=n.ce:=⟨_,A⟩;rw[<-aj] at j u aa L ag ap al an f ai⊢;have aw:=j.nA.nB;have a1:=j.nA.nC;obtain⟨F,ak,t,am,af,a3,aq⟩:=dh.nE ao.ae.length f.nA u A Y Y Y;rw[<-ak];have a:=j.nB am;have x:=f.nC t;have ax:=a.nA.nB;have a2:=x.nD;have a0:=a.nA.nC;obtain⟨o,M,N,S,U,ar,q,W⟩:=dh.nF t.nA af Y Y Y (by rw[a.nA.nE];exact z);obtain⟨ah,_⟩:=qn t.nA Y (by rw[a.nA.nE];exact z);have m:=a.nA.nN N;refine⟨o,m.nI Y Y Y,S,⟨Y,by rw[q,es m.nA];rw[es a.nA.nA] at W;omega,by rw[q,iq m.nA m.nC];unfold ef;omega,by rw[K.md U];exact Af _,?_⟩,(x.nC ah).nE Y Y,q⟩;rw[M,aq,L,K.md y.nA.nC];exact Af _
variable{q yd:G B}{np:B}
def un(f:AF):¬(cb l p q np yd).ak f:=λa=>by
 have:=a.2.1;rw[mf] at this;omega
def um(M:B):hb M (cb l p q np yd) [] E:=by
 have t:∀b,((cb l p q np yd).b b).a=3->b<3:=λb f=>by
  rcases Ck b 3 with F|F
  ·exact F
  ·rw[ir,A1 Y] at f;cases f
 have x:∀j,(cb l p q np yd).en (cb l p q np yd).g j=U 128 0:=λj=>nw j;refine⟨⟨λz o=>CV o (un z),λu m=>(by cases m),List.Pairwise.nil,λu m=>(by cases m),λy t=>nv y,λP b N a=>?_⟩,λu m=>(by cases m),λu m=>(by cases m),⟨λb a f=>?_,λb f L n=>?_,λb f S L n=>?_,λb f=>?_,λb a=>(by cases a),λb f=>(by rw[it])⟩,λj r=>?_,⟨BI,λj r f=>CV (me j) f,λy t z o=>?_,λj r V Q=>?_,λj r=>me j⟩,Af _⟩
 ·match P,N,a with
  |0,_,a=>cases a
  |1,_,a=>cases a
  |2,_,a=>cases a
 ·have:=t b f;show b∈[0,1,2]
  match b,this with
  |0,_=>decide
  |1,_=>decide
  |2,_=>decide
 ·rw[it] at n;cases n
 ·rw[it] at n;cases n
 ·rw[it];exact Af _
 ·unfold df;rw[jm]
 ·rw[x,mc] at o;cases o
 ·rw[x,mc];exact Af _
def ty(f:B->AE)(a:B):(dj a f).length=(a+7)/8/\∀j∈dj a f,j<256:=by
 rw[<-qg];refine⟨nt _ _ _,λj l=>?_⟩;obtain⟨m,_,rfl⟩:=CI.1 l;exact qi f a m
structure tc(l f:B)(m:G B)(n:B->AE)(a:K):Prop where
 nL:ad 400 a
 nC:gd 14 a
 nG:a.i=l
 nF:a.t=f
 nE:a.ac=dj f n
 nD:a.bb=m
 nK:a.cs=[]
 nA:a.ah=[]
 nB:∀j,j<a.v->a.ba j=E
 nH:a.x<=14/\a.bq<=14
 nI:l*70<=a.cm+2*((f+31)/32)+2
 nJ:a.bd<=20
def uq(a:B->AE)(ah:l=8\/l=16)(ag:1<=p/\p<=360)(V:q.length=36)(ax:∀ap∈q,ap<256):tc l p q a (iu 128 l p 70 q a):=by
 obtain⟨af,S⟩:=ty a p;rw[qt];have u:=nx ah ag V af S;have a7:(cb l p q 3 (dj p a)).bc=l*70:=qp;have o:=um (l:=l) (p:=p) (q:=q) (yd:=dj p a) (np:=3) 14;have aw:ad 0 (cb l p q 3 (dj p a)):=qr ah ag V af S;have n:fd 0 1 1 (cb l p q 3 (dj p a)) (eh l p q (dj p a))/\(eh l p q (dj p a)).jg E/\(eh l p q (dj p a)).g=(cb l p q 3 (dj p a)).g/\(eh l p q (dj p a)).h=(cb l p q 3 (dj p a)).h:=pb aw o.nC E nofun (by show 2<=[0,1,2].length;decide);obtain⟨f,aj,ak,al⟩:=n;have U:hb 14 (eh l p q (dj p a)) [] E:=by
  refine⟨o.nA.nG f (by have:=f.nB.2;have L:(cb l p q 3 (dj p a)).x=0:=A;omega),λa2 x=>(by cases x),λa2 x=>(by cases x),aj.nA,λaz W=>?_,?_,by rw[f.nF];exact Af _⟩
  ·rw[io al];exact o.nE az (by rw[es f.nA] at W;exact W)
  ·rw[ak];exact o.nD.nD f.nD f.nA
 have F:∀m,m<p+16->(eh l p q (dj p a)).ba m=E:=λm n=>(f.nH m n).trans (nv m);have aq:=f.nB;have t:(eh l p q (dj p a)).t=p:=f.nA;have P:(eh l p q (dj p a)).i=l:=f.nC;have M:(eh l p q (dj p a)).ac=dj p a:=f.nG;have r:(eh l p q (dj p a)).bb=q:=f.nE;have Q:(eh l p q (dj p a)).cs=[]:=f.nM;have N:(eh l p q (dj p a)).ah=[]:=f.nJ A;have av:(eh l p q (dj p a)).bq=0:=f.nF;have ar:(eh l p q (dj p a)).bd<=1:=by have L:(cb l p q 3 (dj p a)).bd=0:=A;have:=f.nL;omega
 have au:(eh l p q (dj p a)).x=0:=by
  have L:(cb l p q 3 (dj p a)).x=0:=A;omega
 have ay:=u.nD;obtain⟨y,ai⟩:∃a1,a1=eh l p q (dj p a):=⟨_,A⟩;rw[<-ai] at u U F t P M r Q N av ar au ay⊢;clear f aj ak al aq ai;have a5:y.bp<=12:=by unfold bp;omega
 obtain⟨a0,j,am,an,z,ao⟩:=hb.nI u.nA U Y Y Z (by rw[r];exact ax);have a4:=j.nB;have a6:=z.nD;refine⟨z.nA.nE Y,⟨[],a0,am,an⟩,j.nC.trans P,j.nA.trans t,j.nG.trans M,j.nE.trans r,j.nM.trans Q,j.nJ N,λm n=>?_,⟨Y,by rw[j.nF];omega⟩,?_,by have:=j.nL;omega⟩
 ·have aa:m<y.v:=by rw[<-j.nO];exact n
  rw[j.nH m aa];exact F m (by unfold K.v at aa;omega)
 ·have a3:y.bp=(p+31)/32:=by unfold bp;rw[t]
  unfold cm;rw[ao];omega
structure pl(a f:K):Prop where
 nC:f.aw=a.aw
 nE:f.bf=a.bf
 nB:f.ae=a.ae
 nF:f.ct=a.ct
 nA:f.bi=a.bi
variable{r:K}
def pl.nD(a:jw n r):pl n r:=⟨a.nD,a.nF,a.nG,a.nK,a.nE⟩
def gd.nC{m b o j:B}(y:n.gd j)(F:n.hm)(f:dk m b o n r)(L:r.x<=j)(G:r.g=n.g)(M:∀l,n.bp<=l->r.df l=n.df l)(a:pl n r):r.gd j:=by
 obtain⟨N,P,z,⟨p,q,t,u,x⟩⟩:=y;refine⟨N,P,?_,⟨by rw[a.nF,a.nA];exact p,by rw[a.nB,a.nA,es f.nA.nA];exact q,by rw[a.nA,iq f.nA.nA f.nA.nC];exact t,by rw[a.nC,a.nA];exact u,by rw[a.nA,iq f.nA.nA f.nA.nC];exact x⟩⟩;rw[a.nC,a.nE,a.nB];exact z.nC F f L G M
structure ht(l:B)(nB:B)(a f:K):Prop where
 nA:fd 0 0 l a f
 nB:f.gd nB
 nC:f.cm=a.cm
 nD:∀j,j<a.v->f.dp j=a.dp j
def ht.nE{l b j:B}{o p q:K}(a:ht l j o p)(f:ht b j p q):ht (l+b) j o q:=
 ⟨a.nA.nN f.nA,f.nB,f.nC.trans a.nC,λn m=>(f.nD n (by rw[a.nA.nO];exact m)).trans (a.nD n m)⟩
def rx(f:r.da=n.da)(a:r.au=n.au):r.cm=n.cm:=by
 have:=ky f;unfold cm;rw[fr a this.nB this.nA.nA this.nA.nJ this.nE this.nD this.nC,this.nA.nE]
def rh(a:ad l n)(r:n.gd p)(z:n.x<=p)(m:np<n.v):ht 1 p n (n.be np).2:=by
 have y:=gr a.nA.nA.nB m;have o:=ga a.nA.nA.nB y;have j:=vk a m;have t:=(hh a m).2;have f:(n.be np).2.da=n.da:=o.nA;have u:=cj (pu f);refine⟨j.nA,r.nC a.nA.nB j (by have:=j.nA.nB;omega) (AB K.g f:) (λq _=>o.nC q) (pl.nD u),rx f (jj f a.nA.nA.nA),λq x=>t.nB.nI a.nA.nA x⟩
def wi(r:ad l n)(G:n.gd p)(L:n.x<=p)(t:np<n.v):ht 2 p n (n.dt np).2:=by
 have f:=rh r G L t;have j:=(hh r t).2;unfold K.dt;obtain⟨q,y⟩:∃q,n.be np=q:=⟨_,A⟩;rw[y] at f j⊢;clear y;obtain⟨o,a⟩:=q;dsimp only at f j;have S:=f.nA.nB;cases o with
 |none=>exact⟨f.nA.nI Y Y Y,f.nB,f.nC,f.nD⟩
 |some U=>
  dsimp only;have x:({a with u:=a.u+1}:K).da=a.da:=A;have m:=(ft (r:=({a with u:=a.u+1}:K)) j.nA.nA.nA A);have z:dk 0 0 1 a ({a with u:=a.u+1}:K):=nm m.1 x ⟨Nat.le_succ _,AI _⟩;have F:ht 1 p a ({a with u:=a.u+1}:K):=⟨z.nA,f.nB.nC j.nA.nA.nB z (by show a.x<=p;omega) A (λN _=>A) ⟨A,A,A,A,A⟩,rx x m.2,λN M=>m.1.nI j.nA.nA.nA M⟩;exact f.nE F
end K
noncomputable def PM{a:Type}(n:G a):B->AC a:=
 List.rec (motive:=λ_=>B->AC a) (λ_=>E) (λf _ l j=>Nat.rec (motive:=λ_=>AC a) (C f) (λm _=>l m) j) n
def Wh{l:Type}:∀(f:G l)(a:B),f.length<=a->PM f a=E
 |[],_,_=>A
 |_::_,0,j=>CV j Y1
 |_::f,a+1,j=>Wh f a (by simp at j;omega)
noncomputable def I3{f:Type}(j:G (G f))(a:B):AC f:=match PM j (a/24) with
 |some l=>PM l (a%24)
 |none=>E
variable{yh:Type}
def Wg{f:G (G yh)}{l:B->AC yh}(o:Nat.ble f.length 32=R)(n:(AH 768).map (I3 f)=(AH 768).map λa=>(I3 f a).bind λ_=>l a)(a:B)(v:yh)(j:I3 f a=C v):l a=C v:=by
 rcases Ck a 768 with m|m
 ·have:=AB (λp=>p[a]?) n;simp only[D_,Mg m,Ld,j,Zy,EX] at this;exact this.symm
 ·unfold I3 at j;rw[Wh f _ (D9 (DW o) Y)] at j;cases j
section
open Go.Proofs.Tryz
noncomputable def Yu:G (G EU):=[[t0,t1,t2,t3,t4,t5,t6,t7,t8,t9,t10,t11,t12,t13,t14,t15,t16,t17,t18,t19,t20,t21,t22,t23],
 [t24,t25,t26,t27,t28,t29,t30,t31,t32,t33,t34,t35,t36,t37,t38,t39,t40,t41,t42,t43,t44,t45,t46,t47],
 [t48,t49,t50,t51,t52,t53,t54,t55,t56,t57,t58,t59,t60,t61,t62,t63,t64,t65,t66,t67,t68,t69,t70,t71],
 [t72,t73,t74,t75,t76,t77,t78,t79,t80,t81,t82,t83,t84,t85,t86,t87,t88,t89,t90,t91,t92,t93,t94,t95],
 [t96,t97,t98,t99,t100,t101,t102,t103,t104,t105,t106,t107,t108,t109,t110,t111,t112,t113,t114,t115,t116,t117,t118,t119],
 [t120,t121,t122,t123,t124,t125,t126,t127,t128,t129,t130,t131,t132,t133,t134,t135,t136,t137,t138,t139,t140,t141,t142,t143],
 [t144,t145,t146,t147,t148,t149,t150,t151,t152,t153,t154,t155,t156,t157,t158,t159,t160,t161,t162,t163,t164,t165,t166,t167],
 [t168,t169,t170,t171,t172,t173,t174,t175,t176,t177,t178,t179,t180,t181,t182,t183,t184,t185,t186,t187,t188,t189,t190,t191],
 [t192,t193,t194,t195,t196,t197,t198,t199,t200,t201,t202,t203,t204,t205,t206,t207,t208,t209,t210,t211,t212,t213,t214,t215],
 [t216,t217,t218,t219,t220,t221,t222,t223,t224,t225,t226,t227,t228,t229,t230,t231,t232,t233,t234,t235,t236,t237,t238,t239],
 [t240,t241,t242,t243,t244,t245,t246,t247,t248,t249,t250,t251,t252,t253,t254,t255,t256,t257,t258,t259,t260,t261,t262,t263],
 [t264,t265,t266,t267,t268,t269,t270,t271,t272,t273,t274,t275,t276,t277,t278,t279,t280,t281,t282,t283,t284,t285,t286,t287],
 [t288,t289,t290,t291,t292,t293,t294,t295,t296,t297,t298,t299,t300,t301,t302,t303,t304,t305,t306,t307,t308,t309,t310,t311],
 [t312,t313,t314,t315,t316,t317,t318,t319,t320,t321,t322,t323,t324,t325,t326,t327,t328,t329,t330,t331,t332,t333,t334,t335],
 [t336,t337,t338,t339,t340,t341,t342,t343,t344,t345,t346,t347,t348,t349,t350,t351,t352,t353,t354,t355,t356,t357,t358,t359],
 [t360,t361,t362,t363,t364,t365,t366,t367,t368,t369,t370,t371,t372,t373,t374,t375,t376,t377,t378,t379,t380,t381,t382,t383],
 [t384,t385,t386,t387,t388,t389,t390,t391,t392,t393,t394,t395,t396,t397,t398,t399,t400,t401,t402,t403,t404,t405,t406,t407],
 [t408,t409,t410,t411,t412,t413,t414,t415,t416,t417,t418,t419,t420,t421,t422,t423,t424,t425,t426,t427,t428,t429,t430,t431],
 [t432,t433,t434,t435,t436,t437,t438,t439,t440,t441,t442,t443,t444,t445,t446,t447,t448,t449,t450,t451,t452,t453,t454,t455],
 [t456,t457,t458,t459,t460,t461,t462,t463,t464,t465,t466,t467,t468,t469,t470,t471,t472,t473,t474,t475,t476,t477,t478,t479],
 [t480,t481,t482,t483,t484,t485,t486,t487,t488,t489,t490,t491,t492,t493,t494,t495,t496,t497,t498,t499,t500,t501,t502,t503],
 [t504,t505,t506,t507,t508,t509,t510,t511,t512,t513,t514,t515,t516,t517,t518,t519,t520,t521,t522,t523,t524,t525,t526,t527],
 [t528,t529,t530,t531,t532,t533,t534,t535,t536,t537,t538,t539,t540,t541,t542,t543,t544,t545,t546,t547,t548,t549,t550,t551],
 [t552,t553,t554,t555,t556,t557,t558,t559,t560,t561,t562,t563,t564,t565,t566,t567,t568,t569,t570,t571,t572,t573,t574,t575],
 [t576,t577,t578,t579,t580,t581,t582,t583,t584,t585,t586,t587,t588,t589,t590,t591,t592,t593,t594,t595,t596,t597,t598,t599],
 [t600,t601,t602,t603,t604,t605,t606,t607,t608,t609,t610,t611,t612,t613,t614,t615,t616,t617,t618,t619,t620,t621,t622,t623],
 [t624,t625,t626,t627,t628,t629,t630,t631,t632,t633,t634,t635,t636,t637,t638,t639,t640,t641,t642,t643,t644,t645,t646,t647],
 [t648,t649,t650,t651,t652,t653,t654,t655,t656,t657,t658,t659,t660,t661,t662,t663,t664,t665,t666,t667,t668,t669,t670,t671],
 [t672,t673,t674,t675,t676,t677,t678,t679,t680,t681,t682,t683,t684,t685,t686,t687,t688,t689,t690,t691,t692,t693,t694,t695],
 [t696,t697,t698,t699,t700,t701,t702,t703,t704,t705,t706,t707,t708,t709,t710,t711,t712,t713,t714,t715,t716,t717,t718,t719],
 [t720,t721,t722,t723,t724,t725,t726,t727,t728,t729,t730,t731,t732,t733,t734,t735,t736,t737,t738,t739,t740,t741,t742,t743],
 [t744,t745,t746,t747,t748]]
noncomputable def NH:G (G Fr):=[[f0,f1,f2,f3,f4,f5,f6,f7,f8,f9,f10,f11,f12,f13,f14,f15,f16,f17,f18,f19,f20,f21,f22,f23],
 [f24,f25,f26,f27,f28,f29,f30,f31,f32,f33,f34,f35,f36,f37,f38,f39,f40,f41,f42,f43,f44,f45,f46,f47],
 [f48,f49,f50,f51,f52,f53,f54,f55,f56,f57,f58,f59,f60,f61,f62,f63,f64,f65,f66,f67,f68,f69,f70,f71],
 [f72,f73,f74,f75,f76,f77,f78,f79,f80,f81,f82,f83,f84,f85,f86,f87,f88,f89,f90,f91,f92,f93,f94,f95],
 [f96,f97,f98,f99,f100,f101,f102,f103,f104,f105,f106,f107,f108,f109,f110,f111,f112,f113,f114,f115,f116,f117,f118,f119],
 [f120,f121,f122,f123,f124,f125,f126,f127,f128,f129,f130,f131,f132,f133,f134,f135,f136,f137,f138,f139,f140,f141,f142,f143],
 [f144,f145,f146,f147,f148,f149,f150,f151,f152,f153,f154,f155,f156,f157,f158,f159,f160,f161,f162,f163,f164,f165,f166,f167],
 [f168,f169,f170,f171,f172,f173,f174,f175,f176,f177,f178,f179,f180,f181,f182,f183,f184,f185,f186,f187,f188,f189,f190,f191],
 [f192,f193,f194,f195,f196,f197,f198,f199,f200,f201,f202,f203,f204,f205,f206,f207,f208,f209,f210,f211,f212,f213,f214,f215],
 [f216,f217,f218,f219,f220,f221,f222,f223,f224,f225,f226,f227,f228,f229,f230,f231,f232,f233,f234,f235,f236,f237,f238,f239],
 [f240,f241,f242,f243,f244,f245,f246,f247,f248,f249,f250,f251,f252,f253,f254,f255,f256,f257,f258,f259,f260,f261,f262,f263],
 [f264,f265,f266,f267,f268,f269,f270,f271,f272,f273,f274,f275,f276,f277,f278,f279,f280,f281,f282,f283,f284,f285,f286,f287],
 [f288,f289,f290,f291,f292,f293,f294,f295,f296,f297,f298,f299,f300,f301,f302,f303,f304,f305,f306,f307,f308,f309,f310,f311],
 [f312,f313,f314,f315,f316,f317,f318,f319,f320,f321,f322,f323,f324,f325,f326,f327,f328,f329,f330,f331,f332,f333,f334,f335],
 [f336,f337,f338,f339,f340,f341,f342,f343,f344,f345,f346,f347,f348,f349,f350,f351,f352,f353,f354,f355,f356,f357,f358,f359],
 [f360,f361,f362,f363,f364,f365,f366,f367,f368,f369,f370,f371,f372,f373,f374,f375,f376,f377,f378,f379,f380,f381,f382,f383],
 [f384,f385,f386,f387,f388,f389,f390,f391,f392,f393,f394,f395,f396,f397,f398,f399,f400,f401,f402,f403,f404,f405,f406,f407],
 [f408,f409,f410,f411,f412,f413,f414,f415,f416,f417,f418,f419,f420,f421,f422,f423,f424,f425,f426,f427,f428,f429,f430,f431],
 [f432,f433,f434,f435,f436,f437,f438,f439,f440,f441,f442,f443,f444,f445,f446,f447,f448,f449,f450,f451,f452,f453,f454,f455],
 [f456,f457,f458,f459,f460,f461,f462,f463,f464,f465,f466,f467,f468,f469,f470,f471,f472,f473,f474,f475,f476,f477,f478,f479],
 [f480,f481,f482,f483,f484,f485,f486,f487,f488,f489,f490,f491,f492,f493,f494,f495,f496,f497,f498,f499,f500,f501,f502,f503],
 [f504,f505,f506,f507,f508,f509,f510,f511,f512,f513,f514,f515,f516,f517,f518,f519,f520,f521,f522,f523,f524,f525,f526,f527],
 [f528,f529,f530,f531,f532,f533,f534,f535,f536,f537,f538,f539,f540,f541,f542,f543,f544,f545,f546,f547,f548,f549,f550,f551],
 [f552,f553,f554,f555,f556,f557,f558,f559,f560,f561,f562,f563,f564,f565,f566,f567,f568,f569,f570,f571,f572,f573,f574,f575],
 [f576,f577,f578,f579,f580,f581,f582,f583,f584,f585,f586,f587,f588,f589,f590,f591,f592,f593,f594,f595,f596,f597,f598,f599],
 [f600,f601,f602,f603,f604,f605,f606,f607,f608,f609,f610,f611,f612,f613,f614,f615,f616,f617,f618,f619,f620,f621,f622,f623],
 [f624,f625,f626,f627,f628,f629,f630,f631,f632,f633,f634,f635,f636,f637,f638,f639,f640,f641,f642,f643,f644,f645,f646,f647],
 [f648,f649,f650,f651,f652,f653,f654,f655,f656,f657,f658,f659,f660,f661,f662,f663,f664,f665,f666,f667,f668,f669]]
end
def Y3{P:Prop}(h:P:=by kernel_rfl):P:=h
def ACV:∀f a,I3 Yu f=C a->Tryz.prog.info? f=C a:=Wg A Y3
variable{l:B}
def cN{f:GN}{a:Fr}(m:f.funcs[l]?=C a)(n:a.body.isNone=I)(o:(a.name=="runtime.NumGoroutine")=I)(args:Ai M)(j:AG):(Ey l args).run f j=Ao (Q' l args) j:=by
 unfold Ey;rw[Ak];simp only[run_program,Bp,m];simp[o,n]
def Vp:∀f a,I3 NH f=C a->Tryz.prog.funcs[f]?=C a:=Wg A Y3
noncomputable def Oy(f:B):AC Fr:=match I3 NH f with
 |some a=>match a.body with
  |some _=>C a
  |none=>E
 |none=>E
def Vo(j:B)(f:Fr)(a:Oy j=C f):I3 NH j=C f/\f.body.isNone=I:=by
 unfold Oy at a;cases m:I3 NH j with
 |none=>rw[m] at a;cases a
 |some n=>
  rw[m] at a;dsimp only at a;cases l:n.body with
  |none=>rw[l] at a;cases a
  |some o=>rw[l] at a;cases a;exact⟨A,by rw[l];rfl⟩
def f':(NH.all λa=>a.all λf=>!(f.name=="runtime.NumGoroutine"))=R:=Y3
def S7{m:Type}:∀(j:G m)(l:B)(f:m),PM j l=C f->f∈j
 |[],_,_,a=>by cases a
 |n::_,0,f,a=>by cases a;exact .head _
 |_::j,l+1,f,a=>.tail _ (S7 j l f a)
def f_(f:B)(l:Fr)(n:Oy f=C l)(args:Ai M)(j:AG):(Ey f args).run An j=Ao (Q' f args) j:=by
 obtain⟨a,o⟩:=Vo f l n;refine cN (Vp _ _ a) o ?_ args j;unfold I3 at a;split at a
 ·next p m=>
  have:=Gh.1 (Gh.1 f' p (S7 _ _ _ m)) l (S7 _ _ _ a);simpa using this
 ·cases a
noncomputable def A4:Am:=⟨An,I3 Yu,ACV,Oy,λf a j=>Vp f a (Vo f a j).1,f_,Y3⟩
abbrev Z9(a b c d):=A9 A4 a b c d
abbrev Ay(n:B)(m:G M)(a:S)(j:M)(l:S):Prop:=Z9 n m a λv f=>v=j/\f=l
abbrev AK(m:B)(l:G M)(a:S)(j:M):Prop:=Z9 m l a λv f=>v=j/\f=a
def A3{a:F}(f:-9223372036854775808<=a/\a<=9223372036854775807):IntKind.i64.wrap a=a:=by
 unfold Kd;simp[Kb,Kc];omega
def Ec{a:F}(f:0<=a/\a<18446744073709551616):IntKind.u64.wrap a=a:=by
 unfold Kd;simp[Kb,Kc];omega
def Dh{a:F}(f:0<=a/\a<4294967296):IntKind.u32.wrap a=a:=by
 unfold Kd;simp[Kb,Kc];omega
def MV{a:F}(f:0<=a/\a<65536):IntKind.u16.wrap a=a:=by
 unfold Kd;simp[Kb,Kc];omega
def MW{a:F}(f:0<=a/\a<256):IntKind.u8.wrap a=a:=by
 unfold Kd;simp[Kb,Kc];omega
class Lo(a:S)(m:B)(l:Gm (G M))(j:Gm AU)(f:Gm S):Prop where
 b:a.Perm (.t m l j::f)
instance Lo.g{l:B}{j:G M}{f:AU}{a:S}:Lo (.t l j f::a) l j f a:=⟨Bi _⟩
instance(priority:=low) Lo.h{f:BL}{m:B}{l:G M}{j:AU}{a c:S}[n:Lo a m l j c]:Lo (f::a) m l j (f::c):=⟨(n.b.cons f).trans (D3 _ _ _)⟩
section
variable{d:BR}{f w e:AG}{a c:S}
def BA.ab{l a:B}{u o:G M}{t n:AU}(x:BA d f (.t l u t::c) w)(L:w.grownBy e (C l))(y:BU e a o.toArray n)(q:a=l\/w.heap.size<=a):BA d f (.t a o n::c) e:=by
 refine⟨?_,x.g⟩;obtain⟨af,⟨ag,aj,Y,Z⟩,S⟩:=Dn.h (o:=[HS l u.toArray t]) (p:=c.map BL.y) x.b;have W:=Z 0 _ A;have z:=(Y 0 l Y1 W.2);refine S e [HS a o.toArray n] ⟨λ_=>λr=>r=a,λm ai r F N ah=>?_,λm r F U=>?_,λm aa j=>?_⟩ (Gs.c L z.1)
 ·simp at F N;omega
 ·subst U;have p:=y.b;rcases q with rfl|q
  ·exact⟨AT z.1,p⟩
  ·exact⟨Ae ⟨q,p⟩,p⟩
 ·match m,j with
  |0,j=>simp only[GI,EX] at j;subst j;exact⟨y,A⟩
  |m+1,j=>simp at j
def BA.y{a:B}{l:G M}{j:AU}(m:BA d f c w)(q:Bq w.heap.size w e)(n:BU e a l.toArray j)(r:w.heap.size<=a):BA d f (.t a l j::c) e:=
 ⟨Dn.j m.b q _ (λo=>o=a) (λo p=>by subst p;exact⟨r,n.b⟩) ⟨n,A⟩,m.g⟩
end
def Ug{w e:AG}(a:w.grownBy e E):Bq w.heap.size w e:=⟨a.os,a.tape,a.output,a.size,λj f=>a.block j f Y1⟩
def Cr.ak{n:Am}{o:Al}{p:AP}{a:S}{r:M->S->Prop}{j:GL}{q:B}{m:G M}(Y:o.op=FH j)(N:j.callee=Tl (.func q))(L:DK p j.args.toList=C m)
 (t:∀(d:BR)(f w:AG),BA d f a w->∃v e l,(Ey q m.toArray).run n.b w=Ao (Kf v) e/\r v l/\BA d f l e):Cr n o p a r:=by
 refine⟨λag u d f w U Z aa af W=>?_⟩;obtain⟨v,e,l,x,y,z⟩:=t d f w Z;have F:j.args.map u.eval=m.toArray:=by apply G4;simpa using U.c L
 refine HB (g:=e) (v:=v) ?_ (W _ _ _ y z);unfold Bh;rw[Y];simp only[LU,N,Act.eval,Deferred.ofValue,pure_bind,LR,F];simpa using x
def Cr.ac{n:Am}{o:Al}{p:AP}{a:S}{q:M->S->Prop}{j:GL}{b:Builtin}{m:G M}(W:o.op=FH j)(L:j.callee=Ei b)(F:DK p j.args.toList=C m)
 (r:∀(d:BR)(f w:AG)(u:Ai AE),BA d f a w->∃v e l,(GG b j.argTypes o.type u m.toArray).run n.b w=Ao (Kf v) e/\q v l/\BA d f l e):Cr n o p a q:=by
 refine⟨λaf t d f w N Y Z aa U=>?_⟩;obtain⟨v,e,l,x,y,z⟩:=r d f w (j.args.map λ|.const _=>R|_=>I) Y;have B:j.args.map t.eval=m.toArray:=by apply G4;simpa using N.c F
 refine HB (g:=e) (v:=v) ?_ (U _ _ _ y z);unfold Bh;rw[W];simp only[LU,L,pure_bind,LR,B];exact x
def UC(l:GN)(m:B)(f:Ej):Prop:=∀(a:CW)(j:F)(w:AG),w.cell? a=C (D f j)->(Ey m #[T (C a)]).run l w=Ao (Kf (D f j)) w
def UB(m:GN)(n:B)(a:Ej):Prop:=∀(f:CW)(j l:F)(w:AG),w.cell? f=C (D a j)->w.frozen? f=I->(Ey n #[T (C f),D a l]).run m w=Ao (Kf (D a (a.wrap (j+l)))) (w.setCell f (D a (a.wrap (j+l))))
def Cr.aw{m:Am}{o:Al}{p:AP}{a:S}{u:M->S->Prop}{j:GL}{q r x:B}{l:Ej}(W:UC m.b q l)(aa:o.op=FH j)(U:j.callee=Tl (.func q))(L:DK p j.args.toList=C [T (C ⟨r,x,E⟩)])
 {n:G M}{z:AU}[Y:Bo a r n z]{y:F}(af:n[x]?=C (D l y))(Z:u (D l y) a):Cr m o p a u:=
 Cr.ak aa U L λd f w t=>⟨_,w,a,W _ _ _ (by rw[(BA.h (p:=Y) t).e];simpa using af),Z,t⟩
def Cr.ao{y:Am}{o:Al}{L:AP}{a q:S}{Z:M->S->Prop}{r:GL}{U n l:B}{j:Ej}{x:F}(ag:UB y.b U j)(aj:o.op=FH r)(af:r.callee=Tl (.func U))(aa:DK L r.args.toList=C [T (C ⟨n,l,E⟩),D j x])
 {m:G M}{z:AU}[ah:Bo a n m z]{u:F}(al:m[l]?=C (D j u))(p:F)(am:j.wrap (u+x)=p)[ak:Ft a n m z (m.set l (D j p)) q](ai:Z (D j p) q):Cr y o L a Z:=by
 refine Cr.ak aj af aa λd f w Y=>?_;have t:=BA.h (p:=ah) Y;have W:=ag ⟨n,l,E⟩ u x w (by rw[t.e];simpa using al) (t.g _);rw[am] at W;refine⟨_,_,q,W,ai,BA.put (x:=ak) Y (Vv (R' _ _) l _) ?_⟩;have:=t.j l (D j p);rwa[KU] at this
def iG(a:G M)(m:B):madeCells a.toArray m=(D8 a m).toArray:=TB a m
def Cr.t{l:Am}{o:Al}{q:AP}{a:S}{U:M->S->Prop}{t n p j:B}{m:EU}{u:M}{Z aa:Cf}{L W:Ej}(ak:o.op=.makeSlice t Z aa)(am:l.c t=C (FC n))(ah:l.e n=C m)(ap:m.zero=C u)
 (an:CR q Z=C (D L (p:F)))(ao:CR q aa=C (D W (j:F)))(af:p<=j/\m.bytes*j<=281474976710656/\j<=9223372036854775807)(x:G M)(ag:D8 (B9 u) (j*m.size)=x)(ai:∀y,U (Q y p j) (.t y x n::a)):Cr l o q a U:=by
 subst ag;refine⟨λav au d f w z al aq ar aj=>?_⟩;have r:=run_make (P:=l.b) w t n m u (l.f am) (l.i _ _ ah) ap L W p j Y Y (by have:=af.2.1;rw[<-ZX];omega) Y;rw[H8,iG] at r;simp only[Int.toNat_natCast] at r;refine HB (g:=_) ?_ (aj _ _ _ (ai w.heap.size) (al.u _ _));unfold Bh;rw[ak];simp only[z.b an,z.b ao];rw[Ak,r];rfl
def Cr.y{u:Am}{o:Al}{ak:AP}{a c:S}{am:M->S->Prop}{N:GL}{W p r l x b ag m an:B}{j:EU}{aj:M}{n Y:G M}{Z:AU}(bb:o.op=FH N)(a0:N.callee=Ei Je)(bf:N.argTypes=#[W,W])
 (ax:DK ak N.args.toList=C [Q r l x,O (C ⟨b,ag,E⟩) m an])(be:u.c W=C (FC p))(a4:u.e p=C j)(bg:j.zero=C aj)(al:(B9 aj).length=j.size/\0<j.size)
 [a2:Lo a r n p c][a3:Bo c b Y Z](F:n.length=x*j.size/\l<=x/\x<=BP)(t:G M)(a9:(Y.drop ag).take (m*j.size)=t)(a6:t.length=m*j.size)(aw:t.all B'=R)(af:l+m<=1000000000/\j.bytes<=1000)
 (a5:∀z y ao,l+m<=y->y<=BP->ao.length=(y-(l+m))*j.size->am (Q z (l+m) y) (.t z (n.take (l*j.size)++t++ao) p::c)):Cr u o ak a am:=by
 refine Cr.ac bb a0 ax λd f w bn bd=>?_;have aa:=bd.j a2.b;have ay:BU w r n.toArray p:=BA.h (a:=.t r n p::c) aa;have az:BU w b Y.toArray Z:=by
  have:Bo (.t r n p::c) b Y Z:=⟨By _ a3.j⟩;exact BA.h (p:=this) aa
 have a8:∀ai:B,ai<=1000000000->ai<=BP:=λai bo=>by simp only[BP];omega
 have bc:w.ownsRow 0 p j.size (Q r l x) l (n.take (l*j.size)):=by
  refine⟨by rw[Ci,F.1];exact Zq (OD _ F.2.1),Ae ⟨r,x,n.toArray,A,Af _,ay,F.2.1,F.2.2,by simpa using F.1,Y1⟩⟩
 have ba:(l+m)*j.bytes<=140737488355328:=by
  have:=QJ af.1 af.2;omega
 obtain⟨br,e,ap,aq,ar,au,av⟩:=ADm (P:=u.b) w 0 W o.type p j aj j.size j.bytes (u.f be) (u.i _ _ a4) bg A A (by rw[H8];simpa using al.1) al.2 _ l _ bc ⟨b,ag,E⟩ m an t a6 (λbp ah q=>by
  rw[Addr.b,az.e];rw[<-a9] at q;rw[Is] at q;split at q
  ·rw[FU] at q;simpa using q
  ·cases q) (λah q=>by
  have:=Gh.1 aw ah q;cases ah<;>first|rfl|simp[B'] at this) (a8 _ af.1) ba (Af _)
 rcases aq.2 with⟨L,_⟩|⟨z,y,U,bh,bq,bi,bj,bk,bl,bm⟩
 ·exact CV (au.1 L).1 Y1
 ·subst bh;have a7:U.toList=(n.take (l*j.size)++t)++U.toList.drop ((l+m)*j.size):=by rw[<-bm];exact(Hm _ _).symm
  have a1:BU e z (n.take (l*j.size)++t++U.toList.drop ((l+m)*j.size)).toArray p:=by
   rw[<-a7];exact bi
  refine⟨_,e,_,?_,a5 z y (U.toList.drop ((l+m)*j.size)) bj bk ?_,BA.ab aa ar a1 ?_⟩
  ·simp only[GG];rw[bf,Ak,ap];rfl
  ·rw[DV,QS,bl,<-Zt]
  ·rcases av with L|L
   ·left;simpa[ADb] using L
   ·right;simp[ADb] at L;omega
def AF2{P:Prop}(h:P:=by simp only[maxLen];omega):P:=h
def Cr.ad{p:Am}{o:Al}{W:AP}{a:S}{ag:M->S->Prop}{u:GL}{y r b z m ah:B}{j:EU}{N:M}{L:G M}{U:AU}(az:o.op=FH u)(ao:u.callee=Ei Je)(a2:u.argTypes=#[y,y])
 (am:DK W u.args.toList=C [O E 0 0,O (C ⟨b,z,E⟩) m ah])(a1:p.c y=C (FC r))(ar:p.e r=C j)(a3:j.zero=C N)(af:(B9 N).length=j.size/\0<j.size)
 [aq:Bo a b L U](n:G M)(ax:(L.drop z).take (m*j.size)=n)(av:n.length=m*j.size)(al:n.all B'=R)(aa:m<=1000000000/\j.bytes<=1000/\0<m)
 (au:∀t q ai,m<=q->q<=BP->ai.length=(q-m)*j.size->ag (Q t m q) (.t t (n++ai) r::a)):Cr p o W a ag:=by
 refine Cr.ac az ao am λd f w bb Z=>?_;have an:BU w b L.toArray U:=BA.h (p:=aq) Z;have a0:w.ownsRow w.heap.size r j.size (O E 0 0) 0 []:=⟨Y1,AT ⟨A,A⟩⟩;have ay:(0+m)*j.bytes<=140737488355328:=by
  rw[BF];have:=QJ aa.1 aa.2.1;omega
 obtain⟨bh,e,aj,Y,ak,bc,bd⟩:=ADm (P:=p.b) w w.heap.size y o.type r j N j.size j.bytes (p.f a1) (p.i _ _ ar) a3 A A (by rw[H8];simpa using af.1) af.2 _ 0 _ a0 ⟨b,z,E⟩ m ah n av (λbe F l=>by
  rw[Addr.b,an.e];rw[<-ax] at l;rw[Is] at l;split at l
  ·rw[FU] at l;simpa using l
  ·cases l) (λF l=>by
  have:=Gh.1 al F l;cases F<;>first|rfl|simp[B'] at this) AF2 ay (AI _)
 rw[BF,Bz] at Y;rcases Y.2 with⟨bf,bg⟩|⟨t,q,x,a4,a5,a6,a7,a8,a9,ba⟩
 ·omega
 ·subst a4;have aw:x.toList=n++x.toList.drop (m*j.size):=by rw[<-ba];exact(Hm _ _).symm
  have ap:BU e t (n++x.toList.drop (m*j.size)).toArray r:=by
   rw[<-aw];exact a6
  refine⟨_,e,_,?_,au t q (x.toList.drop (m*j.size)) a7 a8 ?_,BA.y Z (Ug ak) ap a5⟩
  ·simp only[GG];rw[a2,Ak,aj];rfl
  ·rw[DV,QS,a9,<-Zt]
def Cr.aa{l:Am}{o:Al}{Z:AP}{a z:S}{ah:M->S->Prop}{r:GL}{ai a7 aa t u U a6 b x m a5:B}{n:EU}{p y:G M}{F W:AU}(ay:o.op=FH r)(ar:r.callee=Ei .copy)(a3:r.argTypes=#[ai,a7])
 (an:DK Z r.args.toList=C [O (C ⟨t,u,E⟩) U a6,O (C ⟨b,x,E⟩) m a5])(a2:l.c ai=C (FC aa))(av:l.e aa=C n)[au:Bo a t p F][ao:Bo a b y W]
 (j:B)(a0:Bj m U=j)(q:G M)(ag:(y.drop x).take (j*n.size)=q)(ax:x+j*n.size<=y.length/\u+j*n.size<=p.length)(am:q.all B'=R)[az:Ft a t p F (Bf p u q) z](aw:ah (N j) z):Cr l o Z a ah:=by
 refine Cr.ac ay ar an λd f w a8 L=>?_;have ap:BU w t p.toArray F:=BA.h (p:=au) L;have aq:BU w b y.toArray W:=BA.h (p:=ao) L;have a9:q.length=j*n.size:=by rw[<-ag,Ci,DV];omega
 obtain⟨e,aj,ak,al⟩:=Nl l.b (f:=u) q 0 ap Y (λv a4=>Gh.1 am v a4);refine⟨_,e,z,?_,aw,BA.put (x:=az) L al ak⟩;have af:=YA l.b (j:=x) (a:=j*n.size) aq ax.1;rw[ag] at af;have a1:AEr m U=j:=a0;simp only[GG,AFE];rw[a3];simp only[Ak];simp only[LY,GI,IC,Ak,l.d a2,Bp,AFG,Ex,l.g av,AFF,a1,af];rw[aj];rfl
section
variable{x:BL}{f c a:S}{g:B}{cs e:G M}{d:AU}{h i:EF}
instance Bo.s[a:Bo (x::(f++c)) g cs d]:Bo ((x::f)++c) g cs d:=a
instance Bo.t[a:Bo c g cs d]:Bo ([]++c) g cs d:=a
instance Ft.j[j:Ft (x::(f++c)) g cs d e a]:Ft ((x::f)++c) g cs d e a:=j
instance Ft.s[f:Ft c g cs d e a]:Ft ([]++c) g cs d e a:=f
instance Fb.j[j:Fb (x::(f++c)) g e a]:Fb ((x::f)++c) g e a:=j
instance Fb.s[f:Fb c g e a]:Fb ([]++c) g e a:=f
instance Cz.j[a:Cz (x::(f++c)) g h]:Cz ((x::f)++c) g h:=a
instance Cz.s[a:Cz c g h]:Cz ([]++c) g h:=a
instance Bo.u[a:Bo (x::Hh f c) g cs d]:Bo (Hh (x::f) c) g cs d:=a
instance Bo.v[a:Bo c g cs d]:Bo (Hh [] c) g cs d:=a
instance Ft.t[j:Ft (x::Hh f c) g cs d e a]:Ft (Hh (x::f) c) g cs d e a:=j
instance Ft.u[f:Ft c g cs d e a]:Ft (Hh [] c) g cs d e a:=f
instance Fb.t[j:Fb (x::Hh f c) g e a]:Fb (Hh (x::f) c) g e a:=j
instance Fb.u[f:Fb c g e a]:Fb (Hh [] c) g e a:=f
instance Cz.t[a:Cz c g h]:Cz (Hh [] c) g h:=a
end
inductive Gt:S->BL->S->Prop
 |aa {x:BL} {a:S}:Gt (x::a) x a
 |ab {x j:BL} {a c:S}:Gt a x c->Gt (j::a) x (j::c)
 |u {x j:BL} {f a c:S}:Gt (j::(f++a)) x c->Gt ((j::f)++a) x c
 |y {x:BL} {a c:S}:Gt a x c->Gt ([]++a) x c
def Gt.t{f c:S}{x:BL}(j:Gt f x c):f.Perm (x::c):=by
 induction j with
 |aa=>exact Bi _
 |ab _ a=>exact(a.cons _).trans (D3 _ _ _)
 |u _ a=>exact a
 |y _ a=>exact a
inductive GS:S->S->S->Prop
 |y {a:S}:GS a [] a
 |u {a j f c:S} {x:BL}:Gt a x j->GS j f c->GS a (x::f) c
def GS.t{a f c:S}(j:GS a f c):a.Perm (f++c):=by
 induction j with
 |y=>exact Bi _
 |u l _ m=>exact l.t.trans (m.cons _)
def A9.ad{f:Am}{m:B}{args:G M}{j l c:S}{o n:M->S->Prop}(p:A9 f m args l o)(r:GS j l c)(q:∀v a,o v a->n v (a++c)):A9 f m args j n:=p.ai r.t q
def AQ(l a:S):Prop:=∀f j,D5 (l.map BL.y) f j->D5 (a.map BL.y) f j
def AQ.w(a:S):AQ a a:=λ_ _ f=>f
def AQ.t{f a j:S}(n:AQ f a)(o:AQ a j):AQ f j:=λl m p=>o l m (n l m p)
def AQ.u{f a:S}(j:f.Perm a):AQ f a:=λm n l=>l.g (j.map _)
def AQ.y{a:S}(x:BL):AQ (x::a) a:=λm p l=>by
 obtain⟨n,_,_,f⟩:=D5.b.1 l;exact f.f λo j _=>j.1
def AQ.z{f a:S}(x:BL)(l:AQ f a):AQ (x::f) (x::a):=λq r p=>by
 obtain⟨j,m,n,o⟩:=D5.b.1 p;exact D5.b.2 ⟨j,m,n,l _ _ o⟩
def AQ.ah{f a:S}(j:AQ f a):∀c:S,AQ (c++f) (c++a)
 |[]=>j
 |x::c=>AQ.z x (AQ.ah j c)
def A2(a:S):C0:=Sp (a.map BL.y)
def AQ.ac(a c:S):AQ (.u (A2 a)::c) (a++c):=λj l f=>by
 rw[CU];exact D5.j f
def AQ.aa(a c:S):AQ (a++c) (.u (A2 a)::c):=λj l f=>by
 rw[CU] at f;exact D5.s f
def AQ.ao{f:Type}(a:f->S)(x:f)(c:S):AQ (.u (A2 (a x))::c) (.u (VV λx=>A2 (a x))::c):=λp q o=>by
 obtain⟨j,l,m,n⟩:=D5.b.1 o;exact D5.b.2 ⟨j,⟨x,l⟩,m,n⟩
def HW{f:Type}(a:f->S):C0:=VV λx=>A2 (a x)
def AQ.ad{j:Type}(a:j->S)(x:j){f c:S}(l:f.Perm (a x++c)):AQ f (.u (HW a)::c):=(AQ.u l).t ((AQ.aa _ _).t (AQ.ao a x c))
def A9.w{f:Am}{l:B}{args:G M}{j a:S}{m:M->S->Prop}(o:AQ j a)(n:A9 f l args a m):A9 f l args j m:=A9.ar o n
def A9.ae{f:Am}{l:B}{args:G M}{z:Type}{j:z->S}{c:S}{m:M->S->Prop}(p:∀x,A9 f l args (j x++c) m):A9 f l args (.u (HW j)::c) m:=by
 refine⟨λn y u a=>?_⟩;obtain⟨o,⟨x,q⟩,r,t⟩:=D5.b.1 a.b.f;exact(p x).ag n y u ⟨⟨AQ.ac _ _ _ _ (D5.b.2 ⟨o,q,r,t⟩),a.b.b⟩,a.g⟩
def A9.aa{l:Am}{n:B}{args:G M}{m:S}{o:M->S->Prop}(q:A9 l n args m λv a=>∃f,AQ a f/\o v f):A9 l n args m o:=
 ⟨λp z y x=>(q.ag p z y x).mono λF L⟨v,a,r,⟨f,t,u⟩,j⟩=>⟨v,f,r,u,⟨t _ _ j.b.f,j.b.b⟩,j.g⟩⟩
def A9.ak{j:Am}{m:B}{args:G M}{f:S}{o:M->S->Prop}{v:M}(q:∀a,J0 a->CL j.b m args.toArray a λl p=>l=BT v/\a=p)(u:o v f):A9 j m args f o:=
 ⟨λx y a n=>(q a n.s).mono λl p⟨r,t⟩=>⟨v,f,r,u,t▸n⟩⟩
def Ff(f a:B):G B:=(AH f).filter (·≠a)
def mC{f a:B}(j:a<f):(AH f).Perm (a::Ff f a):=by
 have l:=List.filter_append_perm (λx=>Ac (x=a)) (AH f);have o:(AH f).filter (λx=>Ac (x=a))=[a]:=by
  have:∀m,a<m->(AH m).filter (λx=>Ac (x=a))=[a]:=by
   intro m
   induction m with
   |zero=>intro j;omega
   |succ m q=>
    intro t;rw[DO,EO];by_cases n:a=m
    ·subst n;have:(AH a).filter (λx=>Ac (x=a))=[]:=by
      rw[QA];intro r p;simp at p⊢;omega
     rw[this];simp
    ·rw[q Y];simp;omega
  exact this f j
 rw[o] at l;refine l.symm.trans ?_;simp only[List.singleton_append,Ff];refine HE _ (DZ (List.filter_congr λx _=>?_));simp
def WX{j f a:B}:a∈Ff j f↔a<j/\a≠f:=by simp[Ff]
def Rq{m:Type}{j f:B}(a:B->m)(l:f<j):((AH j).map a).Perm (a f::(Ff j f).map a):=(mC l).map a
def iI{p:Type}{j f:B}{l m:B->p}(o:∀a,a<j->a≠f->l a=m a):(Ff j f).map l=(Ff j f).map m:=
 It λa n=>o a (WX.1 n).1 (WX.1 n).2
structure OT(a:Prop):Prop where
 o:a
def L{a f:Prop}(l:f)(j:OT f->a:=by intro k;(repeat first|refine IK.y ?_|refine IK.aa ?_|(apply IK.t;focus assumption)|(apply IK.u;focus assumption)|(apply Ms.mk;focus rfl)|refine Mt.mk (aY.mk rfl) ?_|refine Mt.mk (show Cz _ _ _ from inferInstance) ?_|refine Mt.mk (show Bo _ _ _ _ from inferInstance) ?_);exact k.o):a:=j ⟨l⟩
def A9.b{l:Am}{o:B}{args:G M}{f m j c:S}{n:M}{p:M->S->Prop}(q:A9 l o args m λv f=>v=n/\f=j)(r:p n (j++c))(t:GS f m c:=by repeat constructor):A9 l o args f p:=
 A9.ad q t λv a u=>by obtain⟨rfl,rfl⟩:=u;exact r
def FN:∀(f cs:G M)(a:B),a+f.length<=cs.length->Bf cs a f=cs.take a++(f++cs.drop (a+f.length))
 |[],cs,a,j=>by simp[Bf]
 |v::m,cs,a,j=>by
  unfold Bf;simp only[C8] at j;rw[FN m _ (a+1) Y5];rw[AEa,AEO Y];have l:a<cs.length:=Y;rw[KW,Aw l];simp only[a2];rw[O8 _ _ Y5];have:a-(GJ a cs).length=0:=Y5;rw[this,Mk,BS,DU,Bz,DU];congr 4;simp;omega
def EY.g{m:Type}{step:AP->S->(AP->S->Prop)->Prop}{l:AP}{j:S}(u:m->B)(o:m->Prop)(n:m->AP)(p:m->S)(a:m)(F:o a)(t:Fm (n a) l)(r:j=p a)
 (x:∀a,o a->(∀f,o f->u f<u a->∀{l:AP}{j:S},Fm (n f) l->j=p f->EY step l j)->EY step (n a) (p a)):EY step l j:=by
 have M:∀e a,u a<=e->o a->EY step (n a) (p a):=by
  intro e
  induction e with
  |zero=>intro a z q;exact x a q λf _ G=>by omega
  |succ e L=>intro a z q;exact x a q λf y G l j t r=>by subst r;exact EY.i _ t (L f Y y)
 subst r;exact EY.i _ t (M _ a (AI _) F)
def DM(f:M)(e:B):D8 [f] e=U e f:=by
 unfold D8;apply Gj;intro j;simp only[D_,HH,JZ,AEt];by_cases a:j<e
 ·simp[a]
 ·simp[a]
def T9(a:G M)(e:B):Jf a.toArray e=(D8 a (e*a.length)).toArray:=by
 unfold Jf;have:=TB a (e*a.length);simpa using this
def Cr.au{a:Am}{o:Al}{t:AP}{n p:S}{d:M->S->Prop}{c:GL}{z u j l e F:B}{y:EU}{r:M}{cs:G M}{q:AU}(ak:o.op=FH c)(af:c.callee=Ei .clear)(an:c.argTypes=#[z])
 (Z:DK t c.args.toList=C [O (C ⟨j,l,E⟩) e F])(am:a.c z=C (FC u))(ah:a.e u=C y)(ap:y.zero=C r)(ax:e≠0)
 [ag:Bo n j cs q](f:G M)(aj:D8 (B9 r) (e*(B9 r).length)=f)(aw:l+f.length<=cs.length)(W:f.all B'=R)[al:Ft n j cs q (Bf cs l f) p](ai:d (AL #[]) p):Cr a o t n d:=by
 refine Cr.ac ak af Z λau ay aq av x=>?_;have aa:BU aq j cs.toArray q:=BA.h (p:=ag) x;obtain⟨ar,L,N,U⟩:=Nl a.b (f:=l) f 0 aa Y (λv ao=>Gh.1 W v ao);refine⟨_,ar,p,?_,ai,BA.put (x:=al) x U N⟩;obtain⟨m,rfl⟩:∃m,e=m+1:=⟨e-1,Y⟩;simp only[GG,AFD];rw[an];simp only[Ak,LY,GI,a.d am,Bp,KL,a.t ah,ap,Ex];rw[H8,T9,aj,L];rfl
def AZ{a:Type}(f:B->G a)(e:B):G a:=(AH e).flatMap f
def M4{f:Type}(a:B->G f)(e:B):AZ a (e+1)=AZ a e++a e:=by simp[AZ,DO]
def Db{l:Type}{a:B->G l}{s:B}(f:∀j,(a j).length=s):∀e,(AZ a e).length=e*s
 |0=>by simp[AZ]
 |e+1=>by rw[M4,Ad,Db f e,f,Lc]
def NG{n:Type}{j:B->G n}{s:B}(f:∀a,(j a).length=s){a d:B}(m:d<s):∀{e:B},a<e->(AZ j e)[a*s+d]?=(j a)[d]?
 |e+1,o=>by
  rw[M4];by_cases l:a<e
  ·rw[Di,NG f m l];rw[Db f]
   calc a*s+d<a*s+s:=by omega
    _=(a+1)*s:=by rw[Lc]
    _<=e*s:=OD _ l
  ·have:a=e:=Y;subst this;rw[G3 (by rw[Db f];omega),Db f];congr 1;omega
def F4{n:Type}{f j:B->G n}{e:B}(l:∀a,a<e->f a=j a):AZ f e=AZ j e:=by
 unfold AZ;rw[AEX,AEX];congr 1;exact It λa m=>l a (Ce.1 m)
def Js{n:Type}{f:B->G n}{s:B}(j:∀a,(f a).length=s){a d:B}(o:d<s)(v:n):∀{e:B},a<e->(AZ f e).set (a*s+d) v=AZ (λl=>if l=a then(f a).set d v else f l) e
 |e+1,p=>by
  rw[M4,M4];by_cases m:a<e
  ·rw[Zk,Js j o v m,A1 Y];rw[Db j]
   calc a*s+d<a*s+s:=by omega
    _=(a+1)*s:=by rw[Lc]
    _<=e*s:=OD _ m
  ·have:a=e:=Y;subst this;rw[O8 _ _ (by rw[Db j];omega),Db j,A8 A];congr 1
   ·exact F4 λl q=>by rw[A1 Y]
   ·congr 1;omega
def DS(c:B->G M)(e:B)(cs:G M)(a:B):G M:=AZ (λf=>if f=e then cs else c f) a
def AAY{c:B->G M}{e a:B}:AZ c a=DS c e (c e) a:=F4 λj _=>by by_cases f:j=e<;>simp[f]
section
variable{c:B->G M}{e a s d:B}{cs:G M}
def AAX(m:∀f,(c f).length=s)(l:cs.length=s):(DS c e cs a).length=a*s:=Db (λf=>by by_cases j:f=e<;>simp[j,m,l]) a
def AAW(o:∀f,(c f).length=s)(l:cs.length=s)(n:e<a)(m:d<s):(DS c e cs a)[e*s+d]?=cs[d]?:=by
 unfold DS;rw[NG (s:=s) (λf=>by by_cases j:f=e<;>simp[j,o,l]) m n,A8 A]
def AAZ(o:∀f,(c f).length=s)(l:cs.length=s)(n:e<a)(m:d<s)(v:M):(DS c e cs a).set (e*s+d) v=DS c e (cs.set d v) a:=by
 unfold DS;rw[Js (s:=s) (λf=>by by_cases j:f=e<;>simp[j,o,l]) m v n];exact F4 λf _=>by by_cases j:f=e<;>simp[j]
structure Km(j:B->G M)(n m a:B):Prop where
 b:∀l,(j l).length=n
 f:m<a
def Ms.t{j:S}{l:B}{f:M->Prop}{n:AU}(m:Km c s e a)[t:Bo j l (DS c e cs a) n](p:cs.length=s)(q:d<s){v:M}(r:cs[d]?=C v)(o:f v):Ms j l (e*s+d) 1 I f:=
 Ms.mk (v:=v) (by show(DS c e cs a)[e*s+d]?=_;rw[AAW m.b p m.f q];exact r) o
def Mw.u{f l:S}{j:B}{n:S->Prop}{p:AU}{v:M}(m:Km c s e a)[F:Bo f j (DS c e cs a) p](o:cs.length=s)(t:d<s)(y:B' v=R)(z:MS (a*s) (e*s+d) 1 v)[u:Fb f j (DS c e (cs.set d v) a) l](r:n l):Mw f j (e*s+d) 1 v n:=by
 have q:Cb (DS c e cs a) (e*s+d) v=DS c e (cs.set d v) a:=by
  rw[<-AAZ m.b o m.f t];cases v<;>first|rfl|simp[B'] at y
 have x:Fb f j (Cb (DS c e cs a) (e*s+d) v) l:=q.symm▸u;exact Mw.mk (by rw[AAX m.b o];exact z) (r:=x) r
end
def AQ.ak:∀(f j:S),AQ (f++j) f
 |[],j=>λo r q=>by
  exact⟨λ_ _=>Be,λl p d a=>by simp at a,λl d a=>by simp at a,λl n a=>by simp at a⟩
 |m::f,j=>AQ.z m (AQ.ak f j)
def AQ.ab{f a j:S}(l:GS f a j):AQ f a:=(AQ.u l.t).t (AQ.ak a j)
def N_{cs a:G M}(f:a.length=cs.length):Bf cs 0 a=a:=by
 rw[FN _ _ _ Y,Hn,Bz,LX Y,B1]
def AQ.an(f a:S):AQ (f++a) a:=(AQ.u Cj).t (AQ.ak a f)
def ZG(a:G M)(j:0<a.length)(e:B):D8 a (e*a.length)=AZ (λ_=>a) e:=by
 apply Gj;intro f;by_cases n:f<e*a.length
 ·have p:f/a.length<e:=(Nat.div_lt_iff_lt_mul j).2 n;have l:f%a.length<a.length:=Ml _ j;have o:f=f/a.length*a.length+f%a.length:=by rw[OB];exact(Nat.div_add_mod _ _).symm
  have m:=NG (j:=λ_=>a) (s:=a.length) (λ_=>A) l p;rw[<-o] at m;rw[m];simp[D8,n,Aw l]
 ·rw[Dm (by simp[D8];omega),Dm (by rw[Db (s:=a.length) (λ_=>A)];omega)]
section
variable{c:B->G M}{e a s d:B}{cs:G M}
def Mw.aa{f m:S}{j:B}{l:S->Prop}{n:AU}{v:M}(o:Km c s e a)[x:Bo f j (DS c e cs a) n](q:cs.length=s)(r:d<s)(t:B' v=R)(u:MS (a*s) (e*s+d) 1 v)[y:Fb f j (DS c e (cs.set d v) a) m](p:l m):Mw f j (0+e*s+d) 1 v l:=by
 rw[BF];exact Mw.u o q r t u p
end
def EY.f{m:Type}{step:AP->S->(AP->S->Prop)->Prop}{l:AP}{j:S}(u:m->B)(o:m->Prop)(n:m->AP)(p:m->S)(a:m)(F:o a)(t:Fm (n a) l)(r:AQ j (p a))
 (x:∀a,o a->(∀f,o f->u f<u a->∀{l:AP}{j:S},Fm (n f) l->AQ j (p f)->EY step l j)->EY step (n a) (p a)):EY step l j:=by
 have M:∀e a,u a<=e->o a->EY step (n a) (p a):=by
  intro e
  induction e with
  |zero=>intro a z q;exact x a q λf _ G=>by omega
  |succ e L=>intro a z q;exact x a q λf y G l j t r=>EY.h _ r (EY.i _ t (L f Y y))
 exact EY.h _ r (EY.i _ t (M _ a (AI _) F))
def AQ.am{o:Type}{l m:o->BL}:∀(j:G o),(∀f,f∈j->∀a,AQ (l f::a) (m f::a))->∀a,AQ (j.map l++a) (j.map m++a)
 |[],_,a=>.w _
 |q::j,n,a=>(n q Y1 _).t (AQ.z _ (AQ.am j (λf p=>n f (by simp[p])) a))
structure Fs where
 b:AE
 a:G (G B)
instance:Inhabited Fs:=⟨⟨I,[]⟩⟩
structure Bl where
 t:B
 s:G Fs
 x:AE
 u:F
 w:F
 aa:F
 v:F
 z:F
def W(a:B):M:=D BQ (a:F)
namespace Bl
def j(a:Bl)(f:B):Fs:=a.s.getD f default
def y(a:Bl)(f:B):B:=if(a.j f).b then a.t/2 else a.t
def af(a:Bl)(f:B)(j:Fs):Bl:={a with s:=a.s.set f j}
def an(f:Bl){a m:B}(l:Fs)(n:a<f.s.length):(f.af a l).j m=if m=a then l else f.j m:=by
 unfold Bl.j Bl.af;simp only[AY,EV];by_cases j:a=m
 ·subst j;simp[n]
 ·simp[j,Ne.symm j]
end Bl
structure Bl.ab(a:Bl):Prop where
 nA:a.s.length=70
 nD:a.t=8\/a.t=16
 nE:0<=a.u/\a.u<=9000000000000000000
 nC:(0<=a.w/\a.w<=1000000000000000)/\(0<=a.aa/\a.aa<=1000000000000000)/\(0<=a.v/\a.v<=1000000000000000)/\(0<=a.z/\a.z<=1000000000000000)
 nB:∀f,f<70->(a.j f).a.length<=a.y f/\∀j∈(a.j f).a,j.length=219/\∀l∈j,l<256
def Bl.aj(a:Bl)(f:B):G M:=
 [X a.x,N a.u,N a.w,Q f a.s.length a.s.length,N a.t,N 3,N a.aa,N a.v,N a.z]
def Fs.c(f:Fs)(a j:B):G M:=[Q j a a,N (f.a.length:B),X I,X f.b,X I]
def Bl.al(a:Bl)(j:B->B):G M:=AZ (λf=>(a.j f).c a.t (j f)) a.s.length
abbrev AJ(a:B)(f:G B)(j:G M):BL:=.t a (f.map W++j) 5
structure GR where
 a:B->B
 b:B->G M
def E_(j:Fs)(m:GR)(a:B):M:=match j.a[a]? with
 |some f=>Q (m.a a) f.length (f.length+(m.b a).length)
 |none=>O E 0 0
def LD(f:Fs)(j l:B)(m:GR):S:=.t j ((AH l).map (E_ f m)) 31::(AH f.a.length).map λa=>AJ (m.a a) (f.a.getD a []) (m.b a)
def Hc(j:Fs)(a f:B):C0:=HW (LD j a f)
structure Jk where
 b:B
 a:B->B
def Bl.ae(a:Bl)(j:B)(m:Jk):S:=.t j (a.aj m.b) 74::.t m.b (a.al m.a) 129::(AH a.s.length).map λf=>.u (Hc (a.j f) (m.a f) a.t)
def CB(f:B)(a:Bl):C0:=HW (a.ae f)
def Fs.d(j:Fs)(f a:B):(j.c f a).length=5:=A
variable{p:B}
def Bl.aw(a:Bl)(f:B->B)(j:l<a.s.length)(m:p<5):(a.al f)[0+l*5+p]?=((a.j l).c a.t (f l))[p]?:=by
 rw[BF];exact NG (λn=>Fs.d _ _ _) m j
def Cr.u{f:Am}{o:Al}{m:AP}{j l:S}{n:M->S->Prop}(z:AQ j l)(u:Cr f o m l n):Cr f o m j n:=
 ⟨λB t r G F x a p q y=>u.av B t r G F x ⟨⟨z _ _ a.b.f,a.b.b⟩,a.g⟩ p q y⟩
def Gx(g:B)(f:G B)(h:G M):M:=match f with
 |[]=>O E 0 0
 |_::_=>Q g f.length (f.length+h.length)
def Fu(g:B)(f:G B)(h:G M):S:=match f with
 |[]=>[]
 |_::_=>[AJ g f h]
def N9{g:B}{f:G B}{h:G M}(a:0<f.length):Gx g f h=Q g f.length (f.length+h.length):=by cases f<;>simp_all [Gx]
def N8{g:B}{f:G B}{h:G M}(a:0<f.length):Fu g f h=[AJ g f h]:=by cases f<;>simp_all [Fu]
section
variable{g:B}{f:G B}{h:G M}{a c:S}{b:B}{cs e:G M}{d:AU}
instance(priority:=low) Bo.y[j:Bo a b cs d]:Bo (Fu g f h++a) b cs d:=⟨KR _ j.j⟩
end
def Cr.ag{o:Al}{U:AP}{N a:S}{am:M->S->Prop}{x:GL}{g b an m ay:B}{f:G B}{h:G M}{u:G M}{z:AU}(ak:o.op=FH x)(af:x.callee=Ei Je)(al:x.argTypes=#[31,31])
 (aa:DK U x.args.toList=C [Gx g f h,O (C ⟨b,an,E⟩) m ay])(ax:N.Perm (Fu g f h++a))[L:Bo a b u z](q:G B)(ai:(u.drop an).take m=q.map W)(y:q.length=m)(ar:0<m)(a0:f.length+h.length<=BP/\f.length+m<=1000000000)
 (ag:∀n j,f.length+m+j.length<=BP->am (Gx n (f++q) j) (Fu n (f++q) j++a)):Cr A4 o U N am:=by
 refine Cr.u (AQ.u ax) ?_;have aj:0<(f++q).length:=Y5;have ah:=λn(j:G M) aq=>by have:=ag n j aq;rw[N9 aj,N8 aj] at this;exact this
 clear ag;cases f with
 |nil=>
  refine Cr.ad (j:=_) ak af al aa A A A ⟨A,Z⟩ (L:=u) (aq:=L) (q.map W) (by rw[<-ai];exact AB (λl=>GJ l _) (B3 m)) (by rw[BW,y];exact(B3 m).symm) (by simp[W,B']) ⟨Y,Z,ar⟩ (λn t j au av F=>?_);have aw:j.length=(t-m)*1:=F;have r:=ah n j Y5;simp only[Bz,y] at r;rw[show m+j.length=t by omega] at r;exact r
 |cons l p=>
  have az:Bo (AJ g (l::p) h::a) b u z:=⟨By _ L.j⟩;refine Cr.y (j:=_) (c:=a) (n:=(l::p).map W++h) (Y:=u) (Z:=z) ak af al aa A A A ⟨A,Z⟩ (a2:=⟨Bi _⟩) (a3:=L) ⟨?_,Y,Y⟩ (q.map W) (by rw[<-ai];exact AB (λl=>GJ l _) (B3 m)) (by rw[BW,y];exact(B3 m).symm) (by simp[W,B']) ⟨Y,Z⟩ (λn t j au av F=>?_)
  ·rw[Ad,BW];exact(B3 _).symm
  have aw:j.length=(t-((l::p).length+m))*1:=F;have r:=ah n j Y;simp only[Ad,y] at r;rw[show(l::p).length+m+j.length=t by omega] at r;have ao:((l::p).map W++h).take ((l::p).length*1)=(l::p).map W:=by
   rw[B3];exact C_ Y1
  have ap:AJ n (l::p++q) j=.t n (((l::p).map W++h).take ((l::p).length*1)++q.map W++j) 5:=by
   rw[ao,<-CU]
  rw[ap] at r;exact r
def Cr.v{o:Al}{z:AP}{u a:S}{L:M->S->Prop}{p:GL}{g b U N r m aq:B}{f:G B}{h:G M}{t:G M}{x:AU}(ao:o.op=FH p)(aj:p.callee=Ei Je)(ap:p.argTypes=#[31,31])
 (ai:DK z p.args.toList=C [Q g N r,O (C ⟨b,U,E⟩) m aq])(an:f.length=N/\f.length+h.length=r)(ah:u.Perm (AJ g f h::a))[ak:Bo a b t x](l:G B)(am:(t.drop U).take m=l.map W)(F:l.length=m)(ax:r<=BP/\f.length+m<=1000000000)
 (al:∀n j,f.length+m+j.length<=BP->L (Q n (f++l).length ((f++l).length+j.length)) (AJ n (f++l) j::a)):Cr A4 o z u L:=by
 refine Cr.u (AQ.u ah) ?_;obtain⟨rfl,rfl⟩:=an;refine Cr.y (j:=_) (c:=a) (n:=f.map W++h) (Y:=t) (Z:=x) ao aj ap ai A A A ⟨A,Z⟩ (a2:=⟨Bi _⟩) (a3:=ak) ⟨?_,Y,Y⟩ (l.map W) (by rw[<-am];exact AB (λar=>GJ ar _) (B3 m)) (by rw[BW,F];exact(B3 m).symm) (by simp[W,B']) ⟨Y,Z⟩ (λn y j au av ag=>?_)
 ·rw[Ad,BW];exact(B3 _).symm
 have aw:j.length=(y-(f.length+m))*1:=ag;have q:=al n j Y;simp only[Ad,F] at q;rw[show f.length+m+j.length=y by omega] at q;have aa:(f.map W++h).take (f.length*1)=f.map W:=by
  rw[B3];exact C_ Y1
 have af:AJ n (f++l) j=.t n ((f.map W++h).take (f.length*1)++l.map W++j) 5:=by
  rw[aa,<-CU]
 rw[af] at q;exact q
def If{cs:G M}{f:G B}{l j a:B}(n:(cs.drop l).take j=f.map W)(m:a<j)(p:f.length=j):cs[l+a]?=C (W (f.getD a 0)):=by
 have:=AB (λo=>o[a]?) n;simp only[Is,FU,D_,A8 m] at this;rw[this,AY,Aw Y];rfl
namespace Ecc
open Go
def h:G B:=[7,11,13,14,19,21,22,25,26,28,35,37,38,41,42,44,49,50,52,56,67,69,70,73,74,76,81,82,84,88,97,98,100,104,112,131,133,134,137,138,140,145,146,148,152,161,162,164,168,176,193,194,196,200,208,224,31,47,55,59,61,62,79,87]
def b(a:B):B:=Ecc.h.getD a 0
def d:B->B->B
 |0,_=>0
 |a+1,f=>Ecc.d a f^^^(if f.testBit a then Ecc.b a else 0)
def a(f:B):B:=Ecc.d 64 f
def t(a:B):Ecc.b a<256:=by
 by_cases j:a<64
 ·have:∀a,a<64->Ecc.b a<256:=by decide+kernel
  exact this a j
 ·unfold Ecc.b;have f:Ecc.h.getD a 0=0:=by rw[Cp,Dm (show Ecc.h.length<=a by have:Ecc.h.length=64:=A;omega)];rfl
  rw[f];omega
def v:∀a f,Ecc.d a f<256
 |0,_=>by simp[Ecc.d]
 |a+1,f=>by
  have j:=Ecc.v a f;have l:(if f.testBit a then Ecc.b a else 0)<256:=by
   split
   ·exact t a
   ·omega
  exact Zw (n:=8) j l
def s(a:B):Ecc.a a<256:=Ecc.v 64 a
def w:∀a f b,Ecc.d a (f^^^b)=Ecc.d a f^^^Ecc.d a b
 |0,_,_=>by simp[Ecc.d]
 |a+1,f,b=>by
  simp only[Ecc.d,Ecc.w a f b,Nat.testBit_xor];have n:(if(f.testBit a^^b.testBit a) then Ecc.b a else 0)=(if f.testBit a then Ecc.b a else 0)^^^(if b.testBit a then Ecc.b a else 0):=by
   cases f.testBit a<;>cases b.testBit a<;>simp
  rw[n];generalize Ecc.d a f=A;generalize Ecc.d a b=j;generalize(if f.testBit a then Ecc.b a else 0)=l;generalize(if b.testBit a then Ecc.b a else 0)=m;rw[Iw,Iw,<-Iw j l m,Tb j l,Iw]
def ac(a b:B):Ecc.a (a^^^b)=Ecc.a a^^^Ecc.a b:=Ecc.w 64 a b
def u(j l f:B)(q:j.testBit f=R)(r:l.testBit f=I)(n:∀m,m≠f->j.testBit m=l.testBit m):∀a,Ecc.d a j=Ecc.d a l^^^(if f<a then Ecc.b f else 0)
 |0=>by simp[Ecc.d]
 |a+1=>by
  simp only[Ecc.d,u j l f q r n a];by_cases p:a=f
  ·subst p;rw[q,r,A1 (Nat.lt_irrefl a),A8 (QI a)];simp
  ·rw[n a p];by_cases o:f<a
   ·rw[A8 o,A8 (show f<a+1 by omega),Iw,Iw,Tb (Ecc.b f)]
   ·rw[A1 o,A1 (show¬f<a+1 by omega)];simp
def ag(a m:B):(2^a*(2*m+1))&&&(2^a*(2*m+1)-1)=2^(a+1)*m:=by
 have r:0<2^a:=QN a;have j:2^a*(2*m+1)=2^(a+1)*m+2^a:=by rw[IF,OA,B3,TZ]
 have o:2^a*(2*m+1)-1=2^(a+1)*m+(2^a-1):=by rw[j];omega
 have q:2^a<2^(a+1):=by rw[IF];omega
 rw[o,j];apply Nat.eq_of_testBit_eq;intro f;rw[Nat.testBit_and,QM _ q,QM _ (by omega:2^a-1<2^(a+1))];have l:=QM m (QN (a+1)) f;rw[L'] at l;rw[l];by_cases n:f<a+1
 ·simp only[n,FG,OF,Nat.testBit_two_pow_sub_one,Tc];by_cases p:a=f<;>simp[p]
 ·simp only[n,Hp,Bool.and_self]
def af(a m:B):(2^a*(2*m+1)).testBit a=R/\(2^(a+1)*m).testBit a=I/\∀f,f≠a->(2^a*(2*m+1)).testBit f=(2^(a+1)*m).testBit f:=by
 have o:2^a*(2*m+1)=2^(a+1)*m+2^a:=by rw[IF,OA,B3,TZ]
 have p:2^a<2^(a+1):=by have:0<2^a:=QN a;rw[IF];omega
 have l:=λf=>QM m p f;have j:=λf=>QM m (QN (a+1)) f;simp only[L'] at j;rw[o];refine⟨by rw[l];simp,by rw[j];simp,λf q=>?_⟩;rw[l,j];by_cases n:f<a+1
 ·simp only[n,FG,OF,Tc];simp;omega
 ·simp[n]
def ab(a:B)(l:a≠0)(p:a<2^64):Ecc.a a=Ecc.a (a&&&(a-1))^^^Ecc.b (Lm 64 a)/\Lm 64 a<64/\a&&&(a-1)<a:=by
 obtain⟨m,o,j⟩:=Lib.ctzFrom_spec 64 a Y p;have n:Lm 64 a=aM 64 a:=by unfold Lm;rw[A1 l]
 rw[n];generalize aM 64 a=f at*;subst o;rw[ag];obtain⟨q,r,t⟩:=af f m;refine⟨?_,j,?_⟩
 ·unfold Ecc.a;rw[u _ _ f q r t 64,A8 j]
 ·have x:0<2^f:=QN f;rw[IF,OA,B3,TZ];omega
def aa(a:B)(f:a<64):Ecc.a (2^a)=Ecc.b a:=by
 have:∀a,a<64->Ecc.a (2^a)=Ecc.b a:=by decide+kernel
 exact this a f
def e(a:B):B:=a%2+a/2%2+a/4%2+a/8%2+a/16%2+a/32%2+a/64%2+a/128%2
def i:G B->B->B
 |[],_=>0
 |f::j,a=>if f=a then 0 else Ecc.i j a+1
def f(a:B):B:=Ecc.i Ecc.h a
def x:∀(m:G B)(a j:B),j<m.length->m.getD j 0=a->(∀l,l<j->m.getD l 0≠a)->Ecc.i m a=j
 |[],_,_,f,_,_=>by simp at f
 |n::p,a,0,_,f,_=>by simp at f;simp[Ecc.i,f]
 |n::p,a,j+1,r,f,o=>by
  have q:n≠a:=by simpa using o 0 Y
  have:=Ecc.x p a j (by simpa using r) (by simpa using f) (λl t=>by simpa using o (l+1) Y);simp[Ecc.i,q,this]
def y:∀(j:G B)(a:B),(∀f,f<j.length->j.getD f 0≠a)->Ecc.i j a=j.length
 |[],_,_=>A
 |m::p,a,l=>by
  have n:m≠a:=by simpa using l 0 Y1
  have:=y p a (λf o=>by simpa using l (f+1) (by simpa using o));simp[Ecc.i,n,this]
def ad(f a:B)(n:a<64)(l:Ecc.b a=f)(m:∀j,j<a->Ecc.b j≠f):Ecc.f f=a:=Ecc.x Ecc.h f a n l m
def ae(a:B)(j:∀f,f<64->Ecc.b f≠a):Ecc.f a=64:=y Ecc.h a j
def c(f a:B):B×B×B:=
 if Ecc.a f^^^a=0 then(f,a,0) else if Ecc.f (Ecc.a f^^^a)<64 then(f^^^2^Ecc.f (Ecc.a f^^^a),a,1) else if Ecc.e (Ecc.a f^^^a)=1 then(f,a^^^(Ecc.a f^^^a),1) else(f,a,2)
def g(j f a:B):B×B:=if a<64 then(j^^^2^a,f) else(j,f^^^2^(a-64))
def j(a:B):B:=if a<64 then Ecc.b a else 2^(a-64)
def ai:∀a,a<72->Ecc.j a≠0/\(a<64->Ecc.f (Ecc.j a)=a)/\(64<=a->Ecc.f (Ecc.j a)=64/\Ecc.e (Ecc.j a)=1):=by decide+kernel
def z(a b:B):a^^^b^^^b=a:=by rw[Iw,Zx,Nat.xor_zero]
def aj(l f a:B)(m:a<72):Ecc.a (Ecc.g l f a).1^^^(Ecc.g l f a).2=(Ecc.a l^^^f)^^^Ecc.j a:=by
 unfold Ecc.g Ecc.j;by_cases j:a<64
 ·simp only[j,FG,ac,aa a j];rw[Iw,Iw,Tb f]
 ·simp only[j,Hp];rw[Iw]
def ah(a f:B)(l:f<72):Ecc.c (Ecc.g a (Ecc.a a) f).1 (Ecc.g a (Ecc.a a) f).2=(a,Ecc.a a,1):=by
 have m:=aj a (Ecc.a a) f l;rw[Zx,Nat.zero_xor] at m;obtain⟨n,o,p⟩:=ai f l;unfold Ecc.c;rw[m,A1 n];by_cases j:f<64
 ·rw[o j,A8 j];unfold Ecc.g;simp only[j,FG,Ecc.z]
 ·obtain⟨q,r⟩:=p Y;rw[q,A1 Y,r,A8 A];unfold Ecc.g Ecc.j;simp only[j,Hp,Ecc.z]
end Ecc
section
open Go.RowKit
def OP(f:AG):Prop:=∀a,a<64->f.cell? ⟨1,a,E⟩=C (D BQ (Lib.deBruijn64tab.getD a 0))
def ACX(a j f:B)(l:AG)(r:((a:F)==0)=I)
 (n:IntKind.u64.wrap (Dz BinOp.and Au (a:F) (IntKind.u64.wrap (-(a:F)))*285870213051353865)/288230376151711744=(f:F))
 (p:f<64)(q:j<64)(o:l.cell? ⟨1,f,E⟩=C (D BQ j)):
 CL An 570 #[D Au a] l λm w'=>m=BT (N j)/\l=w':=by
 go_enter Tryz.func570,Tryz.ntmps570;go_wp2_with (simp only[n]);go_ret;exact⟨A,A⟩
def ACY(a f:B)(m:a<18446744073709551616)(n:a≠0)(l:a&&&(18446744073709551616-a)=f):
 IntKind.u64.wrap (Dz BinOp.and Au (a:F) (IntKind.u64.wrap (-(a:F)))*285870213051353865)/288230376151711744=((f*285870213051353865%18446744073709551616/288230376151711744:B):F):=by
 have j:IntKind.u64.wrap (-(a:F))=((18446744073709551616-a:B):F):=by rw[Tr];omega
 rw[j,bits_and_u64_nat a _ m Y,l,Tr];omega
def ACW(a:B)(n:a<18446744073709551616)(o:a≠0)(f:AG)(q:OP f):
 CL An 570 #[D Au a] f λp u=>p=BT (N (Lm 64 a))/\f=u:=by
 obtain⟨r,m⟩:=Lib.lowest_bit 64 a o n;obtain⟨l,t⟩:=Lib.deBruijn64_at _ m;have j:=q _ l;rw[t] at j;exact ACX a _ _ f Y5 (ACY a _ n o r) l m j
def Oi:Lh:={data:=#[7,11,13,14,19,21,22,25,26,28,35,37,38,41,42,44,49,50,52,56,67,69,70,73,74,76,81,82,84,88,97,98,100,104,112,131,133,134,137,138,140,145,146,148,152,161,162,164,168,176,193,194,196,200,208,224,31,47,55,59,61,62,79,87]}
def RB:∀a,(f:a<64)->(Oi[a]'f).toNat=Ecc.b a:=by decide+kernel
def Uv(j:B)(L:j<18446744073709551616)(n:AG)(G:OP n):
 CL An 544 #[D Au j] n λp w'=>p=BT (D BQ (Ecc.a j))/\n=w':=by
 go_enter Tryz.func544,Tryz.ntmps544;go_wp2;go_loop [0,3] (λv y=>∃a f:B,a<18446744073709551616/\f<256/\f^^^Ecc.a a=Ecc.a j/\v=D Au a/\y=D BQ f) (λv _=>(Cc v).toNat)
 case atStart=>exact⟨j,0,L,Y,Y1,A,A⟩
 case round=>
  obtain⟨a,f,l,r,q,rfl,rfl⟩:=hrel;have o:=Ap q;clear q;by_cases m:a=0
  ·subst m
   have z:f=Ecc.a j:=by rw[<-o.out];have:Ecc.a 0=0:=by decide
                        rw[this];simp
   subst z;go_wp2;go_ret;exact⟨A,A⟩
  ·obtain⟨t,u,M⟩:=Ecc.ab a m l;have x:=Ap t;clear t;go_wp2_with (go_at_call 570;refine(ACW a l m _ G).mono ?_;rintro p w' ⟨rfl,rfl⟩);go_round
   case rel=>
    refine⟨a&&&(a-1),f^^^Ecc.b (Lm 64 a),Y,Zw (n:=8) r (Ecc.t _),?_,?_,?_⟩
    ·rw[Iw,Tb (Ecc.b _),<-x.out];exact o.out
    ·rw[show((a:F)-1)=((a-1:B):F) by omega,ADt a (a-1) l Y]
    ·show D BQ (Dz .xor BQ (f:F) ((Oi[Lm 64 a]'u).toNat:F))=_;rw[RB _ u,ZV _ _ r (Ecc.t _)]
   case measure=>
    simp only[Cc];rw[show((a:F)-1)=((a-1:B):F) by omega,ADt a (a-1) l Y];simp;omega
def Y_(a:B)(f:B)(o:a<18446744073709551616)(n:f<256)(j:AG)(m:OP j):
 CL An 554 #[D Au a,D BQ f] j λl w'=>l=BT (D BQ ((Ecc.a a^^^f:B):F))/\j=w':=by
 go_enter Tryz.func554,Tryz.ntmps554;go_wp2_with (go_at_call 544;refine(Uv a o _ m).mono ?_;rintro l w' ⟨rfl,rfl⟩);go_ret;exact⟨by rw[<-ZV _ _ (Ecc.s a) n];rfl,A⟩
end
section
open Go.RowKit
def ADC(a:B)(f:a<18446744073709551616):IntKind.u64.wrap ((a:B):F)=(a:F):=by rw[Tr];omega
def ADB(a:B)(f:a<64):IntKind.u64.wrap ((2:F)^a)=((2^a:B):F):=by
 have j:2^a<18446744073709551616:=AEw (show 1<2 by omega) f;rw[show(2:F)^a=((2^a:B):F) by simp,ADC _ j]
def l2(a:B)(f:a<64):2^a<18446744073709551616:=AEw (show 1<2 by omega) f
def XG:Lh:={data:=#[0,1,1,2,1,2,2,3,1,2,2,3,2,3,3,4,1,2,2,3,2,3,3,4,2,3,3,4,3,4,4,5,1,2,2,3,2,3,3,4,2,3,3,4,3,4,4,5,2,3,3,4,3,4,4,5,3,4,4,5,4,5,5,6,1,2,2,3,2,3,3,4,2,3,3,4,3,4,4,5,2,3,3,4,3,4,4,5,3,4,4,5,4,5,5,6,2,3,3,4,3,4,4,5,3,4,4,5,4,5,5,6,3,4,4,5,4,5,5,6,4,5,5,6,5,6,6,7,1,2,2,3,2,3,3,4,2,3,3,4,3,4,4,5,2,3,3,4,3,4,4,5,3,4,4,5,4,5,5,6,2,3,3,4,3,4,4,5,3,4,4,5,4,5,5,6,3,4,4,5,4,5,5,6,4,5,5,6,5,6,6,7,2,3,3,4,3,4,4,5,3,4,4,5,4,5,5,6,3,4,4,5,4,5,5,6,4,5,5,6,5,6,6,7,3,4,4,5,4,5,5,6,4,5,5,6,5,6,6,7,4,5,5,6,5,6,6,7,5,6,6,7,6,7,7,8]}
def l0:∀a,(f:a<256)->(XG[a]'f).toNat=Ecc.e a:=by decide+kernel
def l1(a:B):Ecc.e a<=8:=by unfold Ecc.e;omega
def SA(a:B)(f:a<256)(j:AG):
 CL An 553 #[D BQ a] j λl w'=>l=BT (N (Ecc.e a))/\j=w':=by
 go_enter Tryz.func553,Tryz.ntmps553;go_wp2;go_ret;refine⟨?_,A⟩;show BT (N (wrap64 ((XG[a]'f).toNat:F)))=_;rw[l0 a f,IntWalk.wrap64_in _ (by have:=l1 a;omega)]
def I2(f a:B):M:=AL #[D Au (Ecc.c f a).1,D BQ (Ecc.c f a).2.1,N (Ecc.c f a).2.2]
def iR(j l:B)(M:j<18446744073709551616)(x:l<256)(Q:AG)(V:OP Q):
 CL An 507 #[D Au j,D BQ l] Q λp w'=>p=BT (I2 j l)/\Q=w':=by
 obtain⟨a,o⟩:∃a,a=Ecc.a j^^^l:=⟨_,A⟩;have L:a<256:=by rw[o];exact Zw (n:=8) (Ecc.s j) x
 have U:=Ap o;by_cases q:a=0
 ·have ag:Hid (I2 j l=AL #[D Au j,D BQ l,N 0]):=by unfold Hid I2 Ecc.c;rw[<-o,A8 q];rfl
  clear o;have ak:((a:F)==0)=R:=by simp[q]
  clear q;go_enter ADV,AD1;go_wp2_with (go_at_call 554;refine(Y_ j l M x _ V).mono ?_;rintro p w' ⟨rfl,rfl⟩;rw[<-U.out]);go_ret3;exact⟨by rw[ag.out];rfl,A⟩
 ·have W:∀f,f<64->Ecc.f a=f->I2 j l=AL #[D Au ((j^^^2^f:B):F),D BQ l,N 1]:=by
   intro f af t;unfold I2 Ecc.c;rw[<-o,A1 q,t,A8 af];rfl
  have Z:Ecc.f a=64->Ecc.e a=1->I2 j l=AL #[D Au j,D BQ ((l^^^a:B):F),N 1]:=by
   intro t m;unfold I2 Ecc.c;rw[<-o,A1 q,t,A1 Y,A8 m];rfl
  have aa:Ecc.f a=64->¬Ecc.e a=1->I2 j l=AL #[D Au j,D BQ l,N 2]:=by
   intro t m;unfold I2 Ecc.c;rw[<-o,A1 q,t,A1 Y,A1 m];rfl
  have ah:=Ap W;have ai:=Ap Z;have aj:=Ap aa;clear o W Z aa;have ak:((a:F)==0)=I:=Y5;go_enter ADV,AD1;go_wp2_with (go_at_call 554;refine(Y_ j l M x _ V).mono ?_;rintro p w' ⟨rfl,rfl⟩;rw[<-U.out]);go_loop [16] (λP=>∃f:B,f<=64/\P=N f/\Hid (∀r,r<f->Ecc.b r≠a)) (λP=>64-(Cc P).toNat)
  case atStart=>exact⟨0,Y,A,λr al=>Y⟩
  case round=>
   obtain⟨f,af,rfl,y⟩:=hrel;by_cases n:f<64
   ·have m:=l2 f n;go_wp2
    ·have u:(((Oi[f]'n).toNat:F)==(a:F))=R:=Y7;rw[RB f n] at u;have G:Ecc.b f=a:=by simp at u;omega
     go_ret3;refine⟨?_,A⟩;rw[ah.out f n (Ecc.ad a f n G y.out)];show BT (AL #[D Au (Dz .xor Au (j:F) (IntKind.u64.wrap (2^f))),_,_])=_;rw[ADB f n,u64_xor_nat _ _ M m];rfl
    ·have u:(((Oi[f]'n).toNat:F)==(a:F))=I:=Y7;rw[RB f n] at u;have G:¬Ecc.b f=a:=by simp at u;omega
     go_round
     case rel=>exact⟨f+1,Y,by go_num,λr al=>by
      by_cases p:r=f
      ·rw[p];exact G
      ·exact y.out r Y⟩
     case measure=>simp[Cc];omega
   ·obtain rfl:f=64:=Y;have S:Hid (Ecc.f a=64):=Ecc.ae a y.out;by_cases m:Ecc.e a=1
    ·have am:((Ecc.e a:F)==1)=R:=Y5;have z:=Ap m;clear m;go_wp2_with (go_at_call 553;refine(SA a L _).mono ?_;rintro p w' ⟨rfl,rfl⟩);go_ret3;refine⟨?_,A⟩;rw[ai.out S.out z.out];show BT (AL #[_,D BQ (Dz .xor BQ (l:F) (a:F)),_])=_;rw[ZV _ _ x L];rfl
    ·have am:((Ecc.e a:F)==1)=I:=Y5;have z:=Ap m;clear m;go_wp2_with (go_at_call 553;refine(SA a L _).mono ?_;rintro p w' ⟨rfl,rfl⟩);go_ret3;exact⟨by rw[aj.out S.out z.out];rfl,A⟩
end
section
open Go.RowKit
def DD(f:G B):B->B
 |0=>0
 |a+1=>DD f a+f.getD a 0*256^a
def NP{f:G B}(l:∀m∈f,m<256):∀a,DD f a<256^a
 |0=>by simp[DD]
 |a+1=>by
  have p:=NP l a;have n:f.getD a 0<=255:=by
   rcases Ck a f.length with j|j
   ·have:f.getD a 0∈f:=by simp[Cp,j]
    have:=l _ this;omega
   ·simp[Cp,Dm j]
  have o:f.getD a 0*256^a<=255*256^a:=OD _ n;rw[DD,IF];omega
def WQ{f:G B}{j:B}(l:f.length<=j):∀a,DD f (j+a)=DD f j
 |0=>A
 |a+1=>by
  rw[<-Zm,DD,WQ l a];simp[Cp,Dm (show f.length<=j+a by omega)]
def Ro(a:G B):∀m,DD a (m+1)=a.getD 0 0+256*DD (a.drop 1) m
 |0=>by simp[DD]
 |m+1=>by
  rw[DD,Ro a m,DD];have:(a.drop 1).getD m 0=a.getD (m+1) 0:=by simp[Cp,L_]
  rw[this,IF];rw[OA,Zm];congr 2;rw[OB 256 (_*_),TZ]
def EI(f a:B):B:=f/256^a%256
def cM(f a:B):EI f a<256:=Ml _ Y
def Um{a:G B}(n:∀m∈a,m<256):∀j f,f<j->EI (DD a j) f=a.getD f 0
 |j+1,0,_=>by
  have o:a.getD 0 0<256:=by
   rcases Ck 0 a.length with l|l
   ·have:a.getD 0 0∈a:=by simp[Cp,l]
    exact n _ this
   ·simp[Cp,Dm l]
  rw[Ro];unfold EI;simp only[AEx,AEm];omega
 |j+1,f+1,r=>by
  have q:=Um (a:=a.drop 1) (λm o=>n m (EP o)) j f Y;have o:a.getD 0 0<256:=by
   rcases Ck 0 a.length with l|l
   ·have:a.getD 0 0∈a:=by simp[Cp,l]
    exact n _ this
   ·simp[Cp,Dm l]
  have p:(a.drop 1).getD f 0=a.getD (f+1) 0:=by simp[Cp,L_]
  rw[<-p,<-q,Ro];unfold EI;rw[IF,OB (256^f) 256,<-Zp,show(a.getD 0 0+256*DD (a.drop 1) j)/256=DD (a.drop 1) j by omega]
def Ct(f a:B):G B:=(AH a).map (EI f)
def HR(f a:B):(Ct f a).length=a:=by simp[Ct]
def Un(j f a:B)(l:a<f):(Ct j f).getD a 0=EI j a:=by simp[Ct,Cp,l]
def R8(j m:B):∀a∈Ct j m,a<256:=by
 intro a f;simp only[Ct,CI] at f;obtain⟨l,_,rfl⟩:=f;exact cM j l
def i0(f:G B)(n:∀m∈f,m<256)(a:B):DD f a|||f.getD a 0*256^a=DD f (a+1):=by
 have l:=NP n a;have j:256^a=2^(8*a):=by rw[show(256:B)=2^8 by rfl,<-Zs]
 rw[j] at l;have:=AEz (i:=8*a) (b:=DD f a) l (f.getD a 0);rw[DD,j,AEu,OB (f.getD a 0),<-this];omega
def DG(f:G B)(a:B):B:=DD (f.drop (8*a)) 8
variable{q:G B}
def T2(j:∀a∈q,a<256)(f:B):DG q f<18446744073709551616:=by
 have:=NP (f:=q.drop (8*f)) (λa l=>j a (EP l)) 8;simpa[DG] using this
def G2(f:G B)(j:B):G B:=(AH j).map λa=>Ecc.a (DG f a)
def Ew(a:G B):G B:=G2 a ((a.length+7)/8)
def ZB(a:G B)(f:B):G2 a (f+1)=G2 a f++[Ecc.a (DG a f)]:=by
 simp[G2,DO]
def LO(f:G B)(a:B):(G2 f a).length=a:=by simp[G2]
def ZA(j:G B)(l:B):∀a∈G2 j l,a<256:=by
 intro a f;simp only[G2,CI] at f;obtain⟨m,_,rfl⟩:=f;exact Ecc.s _
def K3(f a j:B):AC (G B×B):=
 if(Ecc.c f a).2.2=2\/256^j<=(Ecc.c f a).1 then E else C (Ct (Ecc.c f a).1 j,if(Ecc.c f a).2.2=1 then 1 else 0)
variable{np:B}
def iQ{b:G B}{m:B}(a:K3 l p np=C (b,m)):b.length=np/\m<=1/\∀l∈b,l<256:=by
 unfold K3 at a;split at a
 ·cases a
 ·have f:=Gl a;have j:=AB IH f;have n:=AB Ho f;simp only at j n;rw[<-j,<-n];exact⟨HR _ _,by split<;>omega,R8 _ _⟩
def Lx(a b:AC (G B×B)):AC (G B×B):=match a,b with
 |some (o,f),C (j,m)=>C (o++j,f+m)
 |_,_=>E
def GC(f l:G B)(a:B):AC (G B×B):=(AH a).foldl (λj a=>Lx j (K3 (DG f a) (l.getD a 0) (Bj 8 (f.length-8*a)))) (C ([],0))
def PI(f j:G B)(a:B):GC f j (a+1)=Lx (GC f j a) (K3 (DG f a) (j.getD a 0) (Bj 8 (f.length-8*a))):=by
 unfold GC;rw[DO,List.foldl_append];rfl
def Rv(f a:G B):GC f a 0=C ([],0):=A
def JL(f a:G B):AC (G B×B):=if a.length=(f.length+7)/8 then GC f a a.length else E
def b3(b:AC (G B×B)):Lx E b=E:=A
def Qu{a b:AC (G B×B)}{o:G B}(f:Lx a b=C (o,l)):∃p n q m,a=C (p,n)/\b=C (q,m)/\o=p++q/\l=n+m:=by
 cases a with
 |none=>cases f
 |some r=>
  cases b with
  |none=>cases f
  |some t=>
   have j:=Gl f;exact⟨r.1,r.2,t.1,t.2,A,A,(AB IH j).symm,(AB Ho j).symm⟩
def W'{m f:G B}{l:B}(j:GC m f l=E):∀a,GC m f (l+a)=E
 |0=>j
 |a+1=>by rw[<-Zm,PI,W' j a,b3]
def PH{t u:G B}:∀(f:B)(o:G B)(j:B),GC t u f=C (o,j)->o.length=Bj (8*f) t.length/\j<=f/\∀n∈o,n<256
 |0,o,j,a=>by
  rw[Rv] at a;have l:=Gl a;have r:([]:G B)=o:=AB IH l;have p:(0:B)=j:=AB Ho l;rw[<-r,<-p];simp
 |f+1,o,j,a=>by
  rw[PI] at a;obtain⟨N,M,U,m,x,y,rfl,rfl⟩:=Qu a;obtain⟨l,r,p⟩:=PH f N M x;obtain⟨z,S,F⟩:=iQ y;refine⟨by rw[Ad,z,l];omega,Y,?_⟩;intro n L;rcases Bs.1 L with q|q
  ·exact p n q
  ·exact F n q
end
def jU(f:G B)(j:∀l∈f,l<256)(a:B)(r:a<8):Dz .or Au ((DD f a:B):F) ((f.getD a 0*256^a:B):F)=((DD f (a+1):B):F):=by
 have n:=NP j a;have m:=NP j (a+1);have o:256^(a+1)<=256^8:=Mm Y Y;have p:256^8=18446744073709551616:=Z;have q:256^a<=256^8:=Mm Y Y;rw[u64_or_nat _ _ Y (by rw[DD] at m;omega),i0 f j a]
def gQ(b Z q am:B)(n:G B)(U:AG)(S:Qf U (C ⟨b,Z,E⟩) q n)(aw:q<=1000000):
 CL An 508 #[O (C ⟨b,Z,E⟩) q am] U λL w'=>L=BT (D Au ((DD n 8:B):F))/\U=w':=by
 obtain⟨m,ar⟩:∃m,m=Bj q 8:=⟨_,A⟩;have aj:DD n m=DD n 8:=by
  by_cases ag:q<=8
  ·have L:m=q:=Y;have:=WQ (f:=n) (j:=q) (by rw[S.1];exact AI _) (8-q);rw[L,<-this];congr 1;omega
  ·have L:m=8:=Y;rw[L]
 have ak:=Ap aj;have ah:∀p,p<q->U.cell? ⟨b,Z+p,E⟩=C (D BQ (n.getD p 0:B)):=by
  intro p ag;obtain⟨av,az,ai,_,r⟩:=S.2.2 Y;simp at ai;obtain⟨rfl,rfl⟩:=ai;exact r p ag
 have af:=Ap ah;have HOr:=Ap (jU n S.2.1);have aa:=Ap S.2.1;have ax:m<=8:=Y;have ay:m<=q:=Y;have ao:(q<=8/\m=q)\/(8<q/\m=8):=Y;clear aj ah S ar;rcases ao with⟨al,rfl⟩|⟨al,rfl⟩
 ·go_enter ADW,AD2;go_wp2_with fail;go_loop [3,8] (λv p=>∃f:B,f<=m/\p=N f/\v=D Au ((DD n f:B):F)) (λ_ p=>m-(Cc p).toNat)
  case atStart=>exact⟨0,Y,A,A⟩
  case round=>
   obtain⟨f,ap,rfl,rfl⟩:=hrel;by_cases aq:f<m
   ·have M:=af.out f Y;obtain⟨j,r⟩:∃j,j=n.getD f 0:=⟨_,A⟩;have l:=HOr.out f Y;have an:j<256:=by
     rw[r];rcases Ck f n.length with x|x
     ·have:n.getD f 0∈n:=by simp[Cp,x]
      exact aa.out _ this
     ·simp[Cp,Dm x]
    rw[<-r] at M l;obtain⟨y,t⟩:∃y,y=DD n f:=⟨_,A⟩;obtain⟨z,u⟩:∃z,z=DD n (f+1):=⟨_,A⟩;rw[<-t,<-u] at l;rw[<-t];have o:=Ap u;clear r t u;have au:(0:F)<=(f:F):=Y;have W:f=0\/f=1\/f=2\/f=3\/f=4\/f=5\/f=6\/f=7:=Y;rcases W with rfl|rfl|rfl|rfl|rfl|rfl|rfl|rfl
    ·rw[L'] at M;have a:((j*256^0:B):F)=((j:F)):=Y;rw[a] at l;clear a;go_wp2;go_round
     case rel=>exact⟨1,Y,A,by rw[<-o.out]⟩
     case measure=>first|(simp[Cc];done)|(simp[Cc];omega)
    ·have a:((j*256^1:B):F)=((j:F)*256):=Y;rw[a] at l;clear a;go_wp2;go_round
     case rel=>exact⟨2,Y,A,by rw[<-o.out]⟩
     case measure=>first|(simp[Cc];done)|(simp[Cc];omega)
    ·have a:((j*256^2:B):F)=((j:F)*65536):=Y;rw[a] at l;clear a;go_wp2;go_round
     case rel=>exact⟨3,Y,A,by rw[<-o.out]⟩
     case measure=>first|(simp[Cc];done)|(simp[Cc];omega)
    ·have a:((j*256^3:B):F)=((j:F)*16777216):=Y;rw[a] at l;clear a;go_wp2;go_round
     case rel=>exact⟨4,Y,A,by rw[<-o.out]⟩
     case measure=>first|(simp[Cc];done)|(simp[Cc];omega)
    ·have a:((j*256^4:B):F)=((j:F)*4294967296):=Y;rw[a] at l;clear a;go_wp2;go_round
     case rel=>exact⟨5,Y,A,by rw[<-o.out]⟩
     case measure=>first|(simp[Cc];done)|(simp[Cc];omega)
    ·have a:((j*256^5:B):F)=((j:F)*1099511627776):=Y;rw[a] at l;clear a;go_wp2;go_round
     case rel=>exact⟨6,Y,A,by rw[<-o.out]⟩
     case measure=>first|(simp[Cc];done)|(simp[Cc];omega)
    ·have a:((j*256^6:B):F)=((j:F)*281474976710656):=Y;rw[a] at l;clear a;go_wp2;go_round
     case rel=>exact⟨7,Y,A,by rw[<-o.out]⟩
     case measure=>first|(simp[Cc];done)|(simp[Cc];omega)
    ·have a:((j*256^7:B):F)=((j:F)*72057594037927936):=Y;rw[a] at l;clear a;go_wp2;go_round
     case rel=>exact⟨8,Y,A,by rw[<-o.out]⟩
     case measure=>first|(simp[Cc];done)|(simp[Cc];omega)
   ·obtain rfl:f=m:=Y;go_wp2;go_ret;exact⟨by rw[<-ak.out];rfl,A⟩
 ·go_enter ADW,AD2;go_wp2_with fail;go_loop [3,8] (λv p=>∃f:B,f<=8/\p=N f/\v=D Au ((DD n f:B):F)) (λ_ p=>8-(Cc p).toNat)
  case atStart=>exact⟨0,Y,A,A⟩
  case round=>
   obtain⟨f,ap,rfl,rfl⟩:=hrel;by_cases aq:f<8
   ·have M:=af.out f Y;obtain⟨j,r⟩:∃j,j=n.getD f 0:=⟨_,A⟩;have l:=HOr.out f Y;have an:j<256:=by
     rw[r];rcases Ck f n.length with x|x
     ·have:n.getD f 0∈n:=by simp[Cp,x]
      exact aa.out _ this
     ·simp[Cp,Dm x]
    rw[<-r] at M l;obtain⟨y,t⟩:∃y,y=DD n f:=⟨_,A⟩;obtain⟨z,u⟩:∃z,z=DD n (f+1):=⟨_,A⟩;rw[<-t,<-u] at l;rw[<-t];have o:=Ap u;clear r t u;have au:(0:F)<=(f:F):=Y;have W:f=0\/f=1\/f=2\/f=3\/f=4\/f=5\/f=6\/f=7:=Y;rcases W with rfl|rfl|rfl|rfl|rfl|rfl|rfl|rfl
    ·rw[L'] at M;have a:((j*256^0:B):F)=((j:F)):=Y;rw[a] at l;clear a;go_wp2;go_round
     case rel=>exact⟨1,Y,A,by rw[<-o.out]⟩
     case measure=>first|(simp[Cc];done)|(simp[intOf];omega)
    ·have a:((j*256^1:B):F)=((j:F)*256):=Y;rw[a] at l;clear a;go_wp2;go_round
     case rel=>exact⟨2,Y,A,by rw[<-o.out]⟩
     case measure=>first|(simp[Cc];done)|(simp[intOf];omega)
    ·have a:((j*256^2:B):F)=((j:F)*65536):=Y;rw[a] at l;clear a;go_wp2;go_round
     case rel=>exact⟨3,Y,A,by rw[<-o.out]⟩
     case measure=>first|(simp[Cc];done)|(simp[intOf];omega)
    ·have a:((j*256^3:B):F)=((j:F)*16777216):=Y;rw[a] at l;clear a;go_wp2;go_round
     case rel=>exact⟨4,Y,A,by rw[<-o.out]⟩
     case measure=>first|(simp[Cc];done)|(simp[intOf];omega)
    ·have a:((j*256^4:B):F)=((j:F)*4294967296):=Y;rw[a] at l;clear a;go_wp2;go_round
     case rel=>exact⟨5,Y,A,by rw[<-o.out]⟩
     case measure=>first|(simp[Cc];done)|(simp[intOf];omega)
    ·have a:((j*256^5:B):F)=((j:F)*1099511627776):=Y;rw[a] at l;clear a;go_wp2;go_round
     case rel=>exact⟨6,Y,A,by rw[<-o.out]⟩
     case measure=>first|(simp[Cc];done)|(simp[intOf];omega)
    ·have a:((j*256^6:B):F)=((j:F)*281474976710656):=Y;rw[a] at l;clear a;go_wp2;go_round
     case rel=>exact⟨7,Y,A,by rw[<-o.out]⟩
     case measure=>first|(simp[Cc];done)|(simp[intOf];omega)
    ·have a:((j*256^7:B):F)=((j:F)*72057594037927936):=Y;rw[a] at l;clear a;go_wp2;go_round
     case rel=>exact⟨8,Y,A,by rw[<-o.out]⟩
     case measure=>first|(simp[Cc];done)|(simp[intOf];omega)
   ·obtain rfl:f=8:=Y;go_wp2;go_ret;exact⟨A,A⟩
def En(a:B):Ai M:=#[D BQ ((EI a 0:B):F),D BQ ((EI a 1:B):F),D BQ ((EI a 2:B):F),D BQ ((EI a 3:B):F),D BQ ((EI a 4:B):F),D BQ ((EI a 5:B):F),D BQ ((EI a 6:B):F),D BQ ((EI a 7:B):F)]
def Ul(f a:B):((EI f a:B):F)=(f:F)/((256^a:B):F)%256:=by unfold EI;simp
def b'(a:B)(j:a<18446744073709551616):#[D BQ ((a:F)%256),D BQ ((a:F)/256%256),D BQ ((a:F)/65536%256),D BQ ((a:F)/16777216%256),D BQ ((a:F)/4294967296%256),D BQ ((a:F)/1099511627776%256),D BQ ((a:F)/281474976710656%256),D BQ ((a:F)/72057594037927936)]=En a:=by
 have f:(a:F)/72057594037927936=(a:F)/72057594037927936%256:=Y;unfold En;rw[f];simp[Ul]
def W8:(Tryz.prog.info? 642).map (·.size)=C 8:=Y3
def lD(a:B)(m:a<18446744073709551616)(f:AG):
 CL An 509 #[D Au (a:F)] f λl w'=>l=BT (AV (En a))/\Bq f.heap.size f w':=by
 have j:=λn=>Ul a n;have o:=Ap j;clear j;go_enter Tryz.func509,Tryz.ntmps509;go_wp2_with fail;refine wp_loop_rounds 9 ?_;rw[EN];go_wp2_with fail;rw[EN];go_wp2_with fail;rw[EN];go_wp2_with fail;rw[EN];go_wp2_with fail;rw[EN];go_wp2_with fail;rw[EN];go_wp2_with fail;rw[EN];go_wp2_with fail;rw[EN];go_wp2_with fail;rw[EN];go_wp2;refine Q4 (v:=AV (En a)) ?_ A ⟨A,((DT _ _).alloc (AI _) _).alloc Y1 _⟩;rw[<-b' a m];exact results_cell_row (p:=2) Y3 _ _ f.heap.size 642 _ (0,0) _ A (ADj f _ _) TE A W8
def c0(a:B):(En a).toList=C1 (Ct a 8):=A
section
open Go
section
variable{a:GN}{f:G Al}{c:Exit->C9->AG->Prop}{md:AFQ}{d e:AG->Prop}
def W3(o:∀j,e j->d j):∀(l:B)(q:Ai AE)(n:C9)(j:AG),Ip a md f.toArray c e l q n j->Ip a md f.toArray c d l q n j
 |0,_,_,_,m=>m
 |l+1,_,_,_,m=>⟨m.1,λu t=>wpOp_mono (λr x p=>⟨o _ p.1,W3 o l _ r x p.2⟩) (m.2 u t)⟩
def RF{f:G Al}{a:B}{o:Al}{l:G Al}(j:f.drop a=o::l):f.toArray[a]?=C o:=by
 have:(f.drop a)[0]?=C o:=by rw[j];rfl
 simpa using this
def Rg(n:B){m:Al}{P:G Al}{v:M}{q:B}{o:Ai AE}{l:C9}{j:AG}(x:f.drop n=m::P)
 (F:AFS f.toArray=R)(y:AFR md f.toArray o n=R)(z:(FB md f.toArray o).contains n=R)
 (t:∀p l j,c (.panic p) (l.put m.dst v) j->c (.panic p) l j)(L:HC m (yielded f.toArray l.tmps)=R)(N:∀j,d j->(Bh l.eval m).run a j=Ao (Kf v) j)(u:d j)
 (r:Ip a md f.toArray c d q (o.setIfInBounds n R) (l.put m.dst v) j):Ip a md f.toArray c d (q+1) o l j:=
 wpAnyH_take (RF x) F y z t (AT ⟨L,N⟩) u r
def W4(n:B){o:Al}{L:G Al}{q:B}{p:Ai AE}{l:C9}{j:AG}(z:f.drop n=o::L)
 (F:FB md f.toArray p=[n])
 (u:∀m:C9->AG->Prop,Shut (∀l j(e:AG->Prop),(∀j,e j->d j)->e j->(e j->Ip a md f.toArray c e q (p.setIfInBounds n R) l j)->m l j)->if HC o (yielded f.toArray l.tmps)=R then Oper.wp a o l j m c else m (l.put o.dst Cw) j):Ip a md f.toArray c d (q+1) p l j:=
 wpAnyH_ready F Y1 (AllReadyH.cons (RF z) (λm x=>u m λl j e t r y=>x.out l j (t _ r) λ_=>W3 t _ _ _ _ (y r)) AllReadyH.nil)
def W2{m:Ai AE}{j:C9}{n:AG}{l:B}(p:FB md f.toArray m=[])(o:c .normal j n):Ip a md f.toArray c d l m j n:=wpAnyH_done p o l
end
def O_(md:AFQ)(j:Ai Al)(l:G B)(m:Ai AE):AE:=
 m.size==j.size&&
 l.all (λf=>Ac (f<j.size)&&!(m.getD f R)&&(match j[f]? with|some o=>o.after.toList.all (λa=>!(KJ md a)||(!(l.contains a.on)&&m.getD a.on I))|none=>I))&&
 (AH j.size).all (λn=>l.contains n||m.getD n R||(match j[n]? with|some o=>l.all (λf=>o.after.toList.any λa=>KJ md a&&a.on==f)|none=>R))
def JT(a:G B)(j:Ai AE):Ai AE:=a.foldl (λf l=>f.setIfInBounds l R) j
def YL:∀(a:G B)(f:Ai AE),(JT a f).size=f.size
 |[],_=>A
 |j::a,f=>by unfold JT;rw[DN];exact(YL a _).trans Y1
def YK:∀(f:G B)(j:Ai AE)(a:B),(∀l∈f,l<j.size)->(JT f j).getD a R=if a∈f then R else j.getD a R
 |[],_,_,_=>by simp[JT]
 |l::f,j,a,m=>by
  unfold JT;rw[DN];have:=YK f (j.setIfInBounds l R) a (λr q=>by simp;exact m r (by simp[q]));unfold JT at this;rw[this];by_cases n:a∈f
  ·simp[n]
  ·have p:=m l Y1;by_cases o:l=a
   ·subst o;simp[n,E6,p]
   ·rw[A1 n,A1 (by simp[n];exactλm=>o m.symm)];exact LQ R o
def i5{a f:Ai AE}(o:a.size=f.size)(l:∀j,a.getD j R=f.getD j R):a=f:=by
 refine a5 o λp m n=>?_;have:=l p;simpa[E6,m,n] using this
section
variable{a:GN}{f:G Al}{c:Exit->C9->AG->Prop}{md:AFQ}{d:AG->Prop}
def h4(n:G B)(bg:n.Nodup)(u:Ai AE)(a5:O_ md f.toArray n u=R)(N:C9)(ah:B)(Inv:(B->AE)->AG->Prop)
 (a8:∀m az p,(∀j∈n,m j=az j)->Inv m p->Inv az p)
 (step:∀m p j,j∈n->m j=I->Inv m p->d p->∀ay:C9->AG->Prop,(∀M,Inv (λl=>m l||l==j) M->d M->ay N M)->wpOp a f.toArray c j ay N p)
 (a6:∀M,Inv (λ_=>R) M->d M->Ip a md f.toArray c d ah (JT n u) N M):
 ∀(W:B)(m:B->AE)(t:Ai AE)(p:AG),(n.filter (λj=>!m j)).length=W->t.size=u.size->(∀l,t.getD l R=if l∈n then m l else u.getD l R)->Inv m p->d p->Ip a md f.toArray c d (W+ah) t N p:=by
 simp only[O_,GK,Gh,F1,KZ] at a5;obtain⟨⟨bi,a4⟩,bj⟩:=a5;have U:∀j∈n,j<u.size:=λj q=>by rw[bi];exact(a4 j q).1.1
 intro W
 induction W with
 |zero=>
  intro m t p ag Y F ap aq;have aj:∀j∈n,m j=R:=by
   intro j q;have ai:=KN ag;rw[QA] at ai;simpa using ai j q
  have aa:t=JT n u:=i5 (by rw[Y,YL]) (λl=>by
   rw[F,YK n u l U];by_cases z:l∈n
   ·rw[A8 z,A8 z,aj l z]
   ·rw[A1 z,A1 z])
  rw[aa,BF];exact a6 p (a8 _ _ p (λj q=>aj j q) ap) aq
 |succ W bm=>
  intro m t p ag Y F ap aq;rw[show W+1+ah=(W+ah)+1 by omega];have a3:∃j∈n,m j=I:=by
   cases ak:n.filter (λj=>!m j) with
   |nil=>rw[ak] at ag;simp at ag
   |cons j bp=>
    have:j∈n.filter (λj=>!m j):=by rw[ak];simp
    rw[CF] at this;exact⟨j,this.1,by simpa using this.2⟩
  have bl:∀j∈n,m j=I->j∈FB md f.toArray t:=by
   intro j q au;refine GH.2 ⟨by rw[F,A8 q,au],?_⟩;obtain⟨⟨bn,bo⟩,S⟩:=a4 j q;revert S;cases ax:f.toArray[j]? with
   |none=>intro an;simp at an
   |some o=>
    intro S;refine⟨o,A,λx aa ar=>?_⟩;have y:=S;simp only[Gh,Lg,K',GK] at y;rcases y x (by simpa using aa) with r|⟨r,ao⟩
    ·rw[ar] at r;cases r
    ·have Z:=F x.on;have bf:x.on∉n:=by
      intro a9;have:n.contains x.on=R:=by simpa using a9
      rw[this] at r;cases r
     rw[A1 bf] at Z;have U:x.on<u.size:=by
      rcases Ck x.on u.size with L|L
      ·exact L
      ·simp[E6,Nat.not_lt.2 L] at ao
     have a2:x.on<t.size:=by rw[Y];exact U
     simp[E6,U] at ao;simp[E6,U,a2] at Z;simp[E6,a2,Z,ao]
  refine⟨λai=>?_,λj q=>?_⟩
  ·obtain⟨j,q,au⟩:=a3;have:=bl j q au;rw[ai] at this;cases this
  ·obtain⟨al,o,ax,aj⟩:=GH.1 q;have af:j∈n:=by
    rcases Classical.em (j∈n) with L|L
    ·exact L
    ·exfalso;rw[F,A1 L] at al;have ba:j<f.toArray.size:=(FY.1 ax).1;have S:=bj j (by simpa using ba);rw[ax] at S;simp only[Lg,Gh,List.any_eq_true,GK,F1] at S;rcases S with(y|y)|y
     ·exact L (by simpa using y)
     ·rw[al] at y;cases y
     ·obtain⟨am,av,bd⟩:=a3;obtain⟨x,aa,ar,bk⟩:=y am av;have r:=aj x (by simpa using aa) ar;have aw:=F am;rw[A8 av,bd] at aw;rw[bk] at r;have bc:am<t.size:=by rw[Y];exact U am av
      simp[E6,bc] at r aw;rw[aw] at r;cases r
   have a1:m j=I:=by
    rw[F,A8 af] at al;exact al
   refine step m p j af a1 ap aq _ λM a7 a0=>⟨a0,bm _ _ _ ?_ (by simpa using Y) ?_ a7 a0⟩
   ·have ak:List.Perm (n.filter (λl=>!m l)) (j::n.filter (λl=>!(m l||l==j))):=by
     have be:j∈n.filter (λl=>!m l):=by rw[CF];exact⟨af,by simp[a1]⟩
     refine(List.perm_cons_erase be).trans (HE _ ?_);rw[List.Nodup.erase_eq_filter (List.Pairwise.filter _ bg),List.filter_filter];rw[show(λl=>!(m l||l==j))=(λN=>(N !=j)&&!m N) by funext l;cases m l<;>cases bb:(l==j)<;>simp[bne,bb]]
    have:=ak.length_eq;simp at this;simp at ag⊢;omega
   ·intro l;by_cases z:j=l
    ·subst z;have:j<t.size:=by rw[Y];exact U j af
     simp[af,E6,this]
    ·have Z:=F l;have bh:(l==j)=I:=by simpa usingλan=>z an.symm
     rw[bh,Bool.or_false,<-Z];exact LQ R z
def h3(l:G B)(t:B)(Inv:(B->AE)->AG->Prop){z:B}{p:Ai AE}{q:C9}{j:AG}(S:l.Nodup)(u:O_ md f.toArray l p=R)(P:z=l.length+t)
 (M:∀o y j,(∀m∈l,o m=y m)->Inv o j->Inv y j)
 (step:∀o j m,m∈l->o m=I->Inv o j->d j->∀x:C9->AG->Prop,(∀n,Inv (λr=>o r||r==m) n->d n->x q n)->wpOp a f.toArray c m x q j)
 (L:Inv (λ_=>I) j)(N:d j)
 (F:∀n,Inv (λ_=>R) n->d n->Ip a md f.toArray c d t (JT l p) q n):Ip a md f.toArray c d z p q j:=by
 rw[P];refine h4 l S p u q t Inv M step F _ (λ_=>I) p j ?_ A ?_ L N
 ·simp
 ·intro r;split
  ·rename_i Q;simp only[O_,GK,Gh,F1,KZ] at u;have:=(u.1.2 r Q).1.2;simpa using this
  ·rfl
end
end
def Hd(a:G B):G QO:=a.map λf=>OG f
variable{q:G B}
def Yg(f:∀a∈q,a<256):(Hd q).map Go.Extern.Stop.cell=C1 q:=by
 unfold Hd C1;rw[Iu];refine It λl j=>?_;have:=f l j;simp[Function.comp,Go.Extern.Stop.cell,Ja this]
variable{yd:G B}
def ACE(j:∀f∈q,f<256)(t:∀f∈yd,f<256)(m:Hd q=Hd yd):q=yd:=by
 have l:∀a:G B,(∀f∈a,f<256)->(Hd a).map OH=a:=by
  intro a r;unfold Hd;rw[Iu];have p:=List.map_id a;have o:a.map (OH∘λu=>OG u)=a.map id:=It λx j=>by
   simp[Function.comp,Ja (r x j)]
  rw[o,p]
 have n:=AB (HI OH) m;rwa[l q j,l yd t] at n
def ACD(j:∀a∈q,a<256)(l:∀a∈yd,a<256):(Hd q==Hd yd)=Ac (q=yd):=by
 rw[Iy];simp only[F1,KZ];exact⟨λf=>ACE j l f,λf=>by rw[f]⟩
def eV(n:AU)(j:B)(r:Tryz.prog.underlying n=C (.array j 5))(a f:G B)(p:∀m∈a,m<256)(q:∀m∈f,m<256)(t:a.length=j)(u:f.length=j)(l:AG):
 (binOp .eql n (AV (C1 a).toArray) (AV (C1 f).toArray)).run An l=Ao (X (Ac (a=f))) l:=by
 have o:=run_eql_bytes (P:=An) l n 5 j r Tryz.underlying5 (λl=>Y3) (Hd a) (Hd f) (by simp[Hd,t]) (by simp[Hd,u]);rw[Yg p,Yg q,ACD p q] at o;exact o
def V8:∀(m a:B),a<256^m->(∀j,j<m->EI a j=0)->a=0
 |0,a,f,_=>by simp at f;exact f
 |m+1,a,f,n=>by
  have l:=n 0 Y;unfold EI at l;simp only[AEx,AEm] at l;have o:a/256=0:=V8 m (a/256) (by rw[IF] at f;exact AEk Y) (λj p=>by
   have:=n (j+1) Y;unfold EI at this⊢;rw[Zp,OB 256,<-IF];exact this)
  omega
def jJ(j a:B)(L:a<=8)(y:j<18446744073709551616):Ac (Ct j 8=(Ct j 8).take a++U (8-a) 0)=Ac (j<256^a):=by
 rw[Iy];simp only[KZ];have l:=HR j 8;constructor
 ·intro n;have z:∀f,a<=f->f<8->EI j f=0:=by
   intro f G r;have p:=Un j 8 f r;rw[n] at p;have F:((Ct j 8).take a++U (8-a) 0).getD f 0=0:=by
    simp only[Cp];rw[G3 (by simp[l];omega)];simp only[HH];split<;>rfl
   omega
  have t:j/256^a<256^(8-a):=by
   apply AEk;rw[<-AEv,show a+(8-a)=8 by omega];exact y
  have M:=V8 (8-a) (j/256^a) t (λf o=>by
   have:=z (a+f) Y Y;unfold EI at this⊢;rw[Zp,<-AEv];exact this)
  rcases Ck j (256^a) with m|m
  ·exact m
  ·have:=Nat.div_pos m (Nat.pow_pos Y);omega
 ·intro n;apply Gj;intro f;by_cases o:f<8
  ·by_cases x:f<a
   ·rw[Di (by simp[l];omega),Mi x]
   ·rw[G3 (by simp[l];omega)];have u:EI j f=0:=by
     unfold EI;have:256^a<=256^f:=Mm Y Y;rw[Nat.div_eq_of_lt Y]
    have q:(Ct j 8)[f]?=C 0:=by simp[Ct,o,u]
    rw[q,HH,A8 (by simp[l];omega)]
  ·rw[Dm Y,Dm (by simp[l];omega)]
def ADO(a:B):KM a (C1 (U 8 0))=C1 (U (8-a) 0):=by
 unfold C1;rw[<-Hj,TQ]
def jH(a f:B)(y:f<=8)(bb:a<18446744073709551616)(j:AG):
 CL An 510 #[AV (En a),N (f:F)] j λa7 w'=>a7=BT (X (Ac (a<256^f)))/\Bq j.heap.size j w':=by
 have o:=HR a 8;have q:((Ct a 8).take f).length=f:=by simp[o];omega
 have au:(((j.alloc (CP (En a) 642)).alloc (CP (C1 (U 8 0)).toArray 642)).drew).heap[j.heap.size+1]?=C (CP (C1 (U 8 0)).toArray 642 (0,0)):=heap_alloc2_new j _ _;have t:(((j.alloc (CP (En a) 642)).alloc (CP (C1 (U 8 0)).toArray 642)).drew).heap[j.heap.size]?=C (CP (En a) 642 (0,0)):=ADj j _ _;have a0:∀m v,(C1 ((Ct a 8).take f))[m]?=C v->(((j.alloc (CP (En a) 642)).alloc (CP (C1 (U 8 0)).toArray 642)).drew).cell? ((⟨j.heap.size,0,E⟩:CW).add m)=C v:=by
  intro m v ay;rw[Go.WideShapes.add_plain,BF,cell_of_row _ _ m _ _ _ t];have ba:m<f:=by
   have:=(Cx.1 ay).1;simp[C1,o] at this;omega
  have:(En a)[m]?=(C1 (Ct a 8))[m]?:=by rw[<-c0];simp
  rw[this,<-ay];simp[C1,Mi ba]
 have am:=Ap au;have al:=Ap a0;have M:=Ap t;have ai:Hid ((C1 ((Ct a 8).take f)).length=AEr f 8):=Ap (by rw[Pw,q];exact(Zq y).symm);have ag:Hid (0+(C1 ((Ct a 8).take f)).length<=(C1 (U 8 0)).length):=Ap (by rw[Pw,q];simp[C1];exact y);have ak:Hid (splice (C1 (U 8 0)) 0 (C1 ((Ct a 8).take f))=C1 ((Ct a 8).take f++U (8-f) 0)):=Ap (by
  unfold splice;rw[Pw,q,BF,ADO f,Hn,Bz,ACZ])
 have af:=Ap (λw'=>eV 642 8 TE (Ct a 8) ((Ct a 8).take f++U (8-f) 0) (R8 a 8) (by
  intro a6 a9;rcases Bs.1 a9 with G|G
  ·exact R8 a 8 a6 (EW G)
  ·have:=List.eq_of_mem_replicate G;omega) o (by simp[o];omega) w')
 have z:=jJ a f y bb;obtain⟨L,az⟩:∃L,L=Ac (a<256^f):=⟨_,A⟩;rw[<-az] at z⊢;have aj:=Ap z;clear z az;have ah:=Ap W8;have bc:(0:F)<=(f:F):=Y;have bd:(f:F)<=8:=Y;clear o q au a0 t;go_enter Tryz.func510,Tryz.ntmps510;go_wp2_with fail;refine wp_region_held_drew (S:=(λ_=>True)) Y3 (AA) (λa8=>?_);refine Rg 0 (v:=?_) A Y3 Y3 Y3 (λ_ _ _ l=>l) (by rfl) (λj n=>?_) Y7 ?_;rotate_left
 ·try dsimp only at n
  go_simp<;>with_reducible rfl
 try simp only[Act.put,KU,Mk,Mj]
 refine Rg 1 (v:=?_) A Y3 Y3 Y3 (λ_ _ _ l=>l) (by rfl) (λj n=>?_) Y7 ?_;rotate_left
 ·try dsimp only at n
  go_simp<;>with_reducible rfl
 try simp only[Act.put,KU,Mk,Mj]
 refine Rg 2 (v:=?_) A Y3 Y3 Y3 (λ_ _ _ l=>l) (by rfl) (λj n=>?_) Y7 ?_;rotate_left
 ·try dsimp only at n
  go_simp<;>with_reducible rfl
 try simp only[Act.put,KU,Mk,Mj]
 refine W4 3 A Y3 (λa5 ar=>?_);refine step_copy_splice A _ _ 31 31 A 5 Tryz.underlying31 Y3 _ _ 8 8 f 8 A A (j.heap.size+1) 0 (C1 (U 8 0)) 642 am.out (C1 ((Ct a 8).take f)) ai.out (λ_=>⟨A,_,A,al.out⟩) ag.out (AC0 _) (j.heap.size+1) _ (DT _ _) (AI _) ?_;intro a1 aw av;have aa:=Ap aw.out;have W:=Ap av;clear aw av;refine ar.out _ _ (λ_=>True) (λ_ l=>l) AA (λa8=>?_);clear ar a5;try simp only[Act.put,KU,Mk,Mj]
 refine W2 Y3 ?_;have an:a1.heap[j.heap.size]?=C (CP (En a) 642 (0,0)):=(W.out.block j.heap.size Y).trans M.out;have ao:a1.heap[j.heap.size+1]?=C (CP (C1 ((Ct a 8).take f++U (8-f) 0)).toArray 642 (0,0)):=by rw[<-ak.out];exact aa.out
 have S:=Ap an;have Z:=Ap ao;have a3:=Ap ((((DT j.heap.size j).alloc (AI _) (CP (En a) 642)).alloc Y1 (CP (C1 (U 8 0)).toArray 642)).drew.trans (W.out.mono Y));clear an ao;have ax:∀w',(binOp .eql 642 (AV (En a)) (AV (C1 ((Ct a 8).take f++U (8-f) 0)).toArray)).run An w'=Ao (X L) w':=λw'=>by
  rw[<-aj.out];exact af.out w'
 obtain⟨p,x⟩:∃p,p=(C1 ((Ct a 8).take f++U (8-f) 0)).toArray:=⟨_,A⟩;have ap:(Tryz.prog.info? 642).map (·.size)=C p.size:=by rw[x,ah.out];simp[Pw,HR];omega
 have u:(Tryz.prog.info? 642).map (·.size)=C (En a).size:=by rw[ah.out];rfl
 rw[<-x] at ax Z;obtain⟨r,aq⟩:∃r,r=En a:=⟨_,A⟩;rw[<-aq] at ax S u⊢;have a4:=Ap ap;have a2:=Ap u;clear x aq ap u ak M am al aa af ai ag aj;go_wp2_with (first|(with_reducible refine ADv A 642 (.tmp 2) A j.heap.size A 642 r (0,0) _ S.out TE A a2.out ?_)|(with_reducible refine ADv A 642 (.tmp 5) A (j.heap.size+1) A 642 p (0,0) _ Z.out TE A a4.out ?_));go_ret;exact⟨A,a3.out⟩
variable{xx:Am}{lg:S}{xv:M->S->Prop}{er:G M}{xt:AU}
def A9.au{args:G M}{v:M}[r:Bo lg p er xt](n:∀a,J0 a->BU a p er.toArray xt->CL xx.b l args.toArray a λj m=>j=BT v/\a=m)(t:xv v lg):A9 xx l args lg xv:=
 ⟨λu x a f=>(n a f.s (BA.h (p:=r) f)).mono λj m⟨o,q⟩=>⟨v,lg,o,t,q▸f⟩⟩
def A9.below{args:G M}{v:M}(n:∀a,J0 a->CL xx.b l args.toArray a λj m=>j=BT v/\Bq a.heap.size a m)(q:xv v lg):A9 xx l args lg xv:=
 ⟨λr t a f=>(n a f.s).mono λj m⟨o,p⟩=>⟨v,lg,o,q,⟨Dn.below f.b p,f.g⟩⟩⟩
variable{xs:AG}{np:B}
def Up(a:BU xs l er.toArray xt)(t:q.length=np)(r:(er.drop p).take np=q.map W)(n:∀m∈q,m<256):Qf xs (C ⟨l,p,E⟩) np q:=by
 refine⟨t,n,λ_=>⟨l,p,A,a.b,λj o=>?_⟩⟩;rw[a.e];have:=AB (λu=>u[j]?) r;simp only[Is,FU,D_,A8 o] at this;have f:j<q.length:=Y;rw[Aw f] at this;simp only[LY,this,W,Ld];simp[AY,Aw f]
variable{xu:B}
def Vz[m:Bo lg l er xt](t:q.length=np)(o:(er.drop p).take np=q.map W)(f:∀a∈q,a<256)(r:np<=1000000)(n:xv (D Au ((DD q 8:B):F)) lg):Z9 508 [O (C ⟨l,p,E⟩) np xu] lg xv:=
 A9.au (r:=m) (λu _ j=>gQ l p np xu q u (Up j t o f) r) n
def cV(a:B)(l:a<18446744073709551616)(j:xv (D BQ (Ecc.a a:B)) lg):Z9 544 [D Au a] lg xv:=
 A9.ak (λm f=>Uv a l m f) j
def iS(f a:B)(n:f<18446744073709551616)(l:a<256)(m:xv (I2 f a) lg):Z9 507 [D Au f,D BQ a] lg xv:=
 A9.ak (λo j=>iR f a n l o j) m
def lE(a:B)(j:a<18446744073709551616)(f:xv (AV (En a)) lg):Z9 509 [D Au a] lg xv:=
 A9.below (λl _=>lD a j l) f
def jI(a m:B)(j:m<=8)(l:a<18446744073709551616)(f:xv (X (Ac (a<256^m))) lg):Z9 510 [AV (En a),N m] lg xv:=
 A9.below (λn _=>jH a m j l n) f
def Y4{P:Prop}(h:P:=by rw[A3 (by omega)];omega):P:=h
def ACw(o u m x:B)(n:G M)(r:AU)(f:G B)(L:f.length=m)(af:(n.drop u).take m=f.map W)(U:∀y∈f,y<256)(aa:m<=x)(l:B)(am:m=8*l)(al:0<l)(ar:m<=1000000):
 Z9 484 [O (C ⟨o,u,E⟩) m x] [.t o n r] λv aj=>∃t q,v=Q t l (l+q.length)/\aj=[AJ t (Ew f) q,.t o n r]:=by
 have aq:m<=n.length-u:=by
  have:=AB O4 af;simp[L] at this;omega
 refine A9.af A (EY.f (m:=B×B×G M) (λj=>l-j.1) (λj=>j.1<=l/\j.1+j.2.2.length<=BP) (λj=>[(0,O (C ⟨o,u,E⟩) m x),(3,Gx j.2.1 (G2 f j.1) j.2.2),(4,N ((8*j.1:B):F))]) (λj=>Fu j.2.1 (G2 f j.1) j.2.2++[.t o n r]) (0,0,[]) ⟨by show 0<=l;omega,Z⟩ ⟨A,A,A,AA⟩ (.w _) ?_);rintro⟨a,z,q⟩ ⟨an,ah⟩ ap;dsimp only at an ah;refine EY.b (IK.mk (λp=>?_) (λp=>?_))
 ·have p:a<l:=by simp at p;omega
  refine Qp.mk (8*a) m x (u+8*a) A A A Y A (by split<;>omega) (Vz (q:=f.drop (8*a)) (er:=n) (xt:=r) (by rw[DV,L]) ?_ (λy aa=>U y (EP aa)) Y ?_)
  ·rw[<-FD,Hj,<-af,Zc]
  refine cV (DG f a) (T2 U a) ?_;intro ak;refine Cr.ag (f:=G2 f a) (a:=.t ak [W (Ecc.a (DG f a))] 5::[.t o n r]) A A A A List.perm_middle.symm [Ecc.a (DG f a)] A A Y ⟨by rw[LO];exact ah,by rw[LO];omega⟩ (λt ai ag=>?_);refine F'.mk ((8*(a+1):B):F) Y4 (ap (a+1,t,ai) ⟨by show a+1<=l;omega,by rw[LO] at ag;exact ag⟩ (by show l-(a+1)<l-a;omega) ⟨A,?_,A,AA⟩ ?_)
  ·show C (Gx t (G2 f a++_) ai)=_;rw[<-ZB]
  ·rw[<-ZB];exact(AQ.u EE).t (AQ.y _)
 ·have p:a=l:=by simp at p;omega
  subst p;have ao:Ew f=G2 f a:=by unfold Ew;rw[L,am];congr 1;omega
  have S:0<(G2 f a).length:=by rw[LO];exact al
  refine⟨z,q,?_,?_⟩
  ·show Gx z (G2 f a) q=_;rw[N9 S,LO]
  ·rw[ao];show Fu z (G2 f a) q++_=_;rw[N8 S];rfl
class Kk(j:F)(f:Gm B):Prop where
 a:j=(f:F)
instance{a:B}:Kk (a:F) a:=⟨A⟩
instance{a b:F}{m f:B}[j:Kk a m][l:Kk b f]:Kk (a+b) (m+f):=⟨by rw[j.a,l.a];rfl⟩
variable{ya:F}
def F'.t{a:F->Prop}[j:Kk ya l](m:l<9223372036854775808)(f:a (l:F)):F' (IntKind.i64.wrap ya) a:=⟨(l:F),by rw[j.a,A3 Y],f⟩
def F'.u{j b:F}{m a:B}{f:F->Prop}[n:Kk j m][o:Kk b a](p:a<=m/\m<9223372036854775808)(l:f ((m-a:B):F)):F' (IntKind.i64.wrap (j-b)) f:=⟨((m-a:B):F),by rw[n.a,o.a,A3 Y];omega,l⟩
def A7{a f:Prop}(l:f)(j:OT f->a:=by intro k;(repeat first|refine IK.y ?_|refine IK.aa ?_|(apply IK.t;focus assumption)|(apply IK.u;focus assumption)|(apply Ms.mk;focus rfl)|refine Mt.mk (aY.mk rfl) ?_|refine Mt.mk (show Cz _ _ _ from inferInstance) ?_|refine Mt.mk (show Bo _ _ _ _ from inferInstance) ?_|refine Mw.mk ⟨rfl,Nat.le_of_ble_eq_true rfl⟩ ?_|refine Mw.mk ⟨rfl,Nat.le_of_ble_eq_true rfl,rfl⟩ ?_|refine Mw.mk ⟨rfl,by simp;omega⟩ ?_|refine UK.mk rfl ?_|refine Qh.mk _ rfl (by first|decide|assumption|omega) ?_|refine F'.t (by omega) ?_|refine F'.u (by omega) ?_|refine Mt.mk (by first|decide|omega) ?_);exact k.o):a:=j ⟨l⟩
def A'{a f:Prop}(l:f)(j:OT f->a:=by intro k;(repeat first|refine IK.y ?_|refine IK.aa ?_|(apply IK.t;focus assumption)|(apply IK.u;focus assumption)|(apply Ms.mk;focus rfl)|refine Mt.mk (aY.mk rfl) ?_|refine Mt.mk (show Cz _ _ _ from inferInstance) ?_|refine Mt.mk (show Bo _ _ _ _ from inferInstance) ?_|refine Mw.mk ⟨rfl,Nat.le_of_ble_eq_true rfl⟩ ?_|refine Mw.mk ⟨rfl,Nat.le_of_ble_eq_true rfl,rfl⟩ ?_|refine Mw.mk ⟨rfl,by simp;omega⟩ ?_|refine UK.mk rfl ?_|refine Qh.mk _ rfl (by first|decide|assumption|omega) ?_|refine Mt.mk (by first|decide|omega) ?_);exact k.o):a:=j ⟨l⟩
section
variable{d:Am}{f:B}{i:Fr}{args:G M}{e g h c:S}{a v:M}{s j:M->S->Prop}
def A9.u(l:A9 d f args g s)(m:∀v a,s v a->j v (a++h))(n:GS e g h:=by repeat constructor):A9 d f args e j:=A9.ad l n m
def A9.ab(m:A9 d f args e λv l=>v=a/\l=c)(n:j a c):A9 d f args e j:=
 A9.z m λv l o=>by obtain⟨rfl,rfl⟩:=o;exact n
def A9.y(a:Oo d i args e j)(l:d.h f=C i:=by rfl):A9 d f args e j:=A9.af l a
def A9.t(m:Oo d i args e λv l=>∃a,AQ l a/\j v a)(n:d.h f=C i:=by rfl):A9 d f args e j:=A9.aa (A9.af n m)
def BE(j:GS e g h:=by repeat constructor):∃f,AQ e f/\a=a/\f=g:=⟨_,AQ.ab j,A,A⟩
def AQ.b(a:GS e g h:=by repeat constructor):AQ e g:=AQ.ab a
end
def iT{o:G B}(W:q.length=8*l)(M:GC q yd l=C (o,np))(Z:p<l):∃x u,GC q yd p=C (x,u)/\(Ecc.c (DG q p) (yd.getD p 0)).2.2≠2/\(Ecc.c (DG q p) (yd.getD p 0)).1<18446744073709551616/\
 GC q yd (p+1)=C (x++Ct (Ecc.c (DG q p) (yd.getD p 0)).1 8,u+if(Ecc.c (DG q p) (yd.getD p 0)).2.2=1 then 1 else 0):=by
 have N:GC q yd (p+1)≠E:=λy=>by
  have:=W' y (l-(p+1));rw[show p+1+(l-(p+1))=l by omega,M] at this;cases this
 obtain⟨ag,t⟩:=AFY.1 N;have r:=t;rw[PI,show Bj 8 (q.length-8*p)=8 by omega] at r;obtain⟨U,S,af,m,z,a,F,L⟩:=Qu r;unfold K3 at a;split at a
 ·cases a
 ·rename_i aa;have f:=Gl a;refine⟨U,S,z,Y,Y,?_⟩;rw[t];have j:=AB IH f;have n:=AB Ho f;dsimp only at j n;rw[j,n,<-F,<-L]
def Z1{P:Prop}(h:P:=by rw[A3 (by dsimp only;omega)];rfl):P:=h
def Y2{P:Prop}(h:P:=by rw[A3 (by omega)];rfl):P:=h
def iO(p ag an Z aq:B)(r:G M)(x:AU)(q l:G B)(a:B)(ay:q.length=8*a)(a9:(r.drop ag).take (8*a)=q.map W)(aw:∀l∈q,l<256)(az:l.length=a)(ba:(r.drop an).take a=l.map W)(a6:∀f∈l,f<256)(ax:8*a<=Z)(be:0<a)(bh:a<=10000)
 (o:G B)(af:B)(ak:JL q l=C (o,af)):
 Z9 432 [O (C ⟨p,ag,E⟩) (8*a:B) Z,O (C ⟨p,an,E⟩) a aq] [.t p r x] λv a2=>∃y u,v=AL #[Q y (8*a) (8*a+u.length),N af,X R]/\a2=[AJ y o u,.t p r x]:=by
 have am:GC q l a=C (o,af):=by
  unfold JL at ak;rw[A8 Y,az] at ak;exact ak
 have bf:=PH _ _ _ am;have bi:((a:F)!=(a:F))=I:=Y1;refine A9.y ?_;refine F'.mk ((8*a+8:B):F) Y4 (F'.mk ((8*a+7:B):F) Y4 ?_);refine A' ?_;refine F'.mk (a:F) (by rw[Z_ Y,A3 Y];omega) (L ?_);refine Cr.t (m:=_) (u:=_) (p:=0) (j:=8*a) A A A A A A ⟨?_,?_,?_⟩ (U (8*a) (W 0)) ?_ (λai=>?_)
 ·omega
 ·show 1*(8*a)<=_;omega
 ·omega
 ·exact(AB _ (B3 (8*a))).trans (DM _ _)
 refine EY.f (m:=B×B×G M×G B×B) (λf=>a-f.1) (λf=>f.1<=a/\GC q l f.1=C (f.2.2.2.1,f.2.2.2.2)/\f.2.2.2.1.length+f.2.2.1.length<=BP)
  (λf=>[(0,O (C ⟨p,ag,E⟩) (8*a:B) Z),(7,Q (f.2.1) f.2.2.2.1.length (f.2.2.2.1.length+f.2.2.1.length)),(8,N (f.2.2.2.2:B)),(27,O (C ⟨p,an,E⟩) a aq),(28,N a),(29,N (f.1:F))])
  (λf=>[AJ f.2.1 f.2.2.2.1 f.2.2.1,.t p r x]) (0,ai,U (8*a) (W 0),[],0) ⟨by show 0<=a;omega,Rv _ _,?_⟩ ⟨A,?_,A,A,A,A,AA⟩ (.w _) ?_
 ·show 0+(U (8*a) (W 0)).length<=_;rw[BI];simp only[BP];omega
 ·show C (O (V ai) 0 (8*a))=C (Q ai 0 (0+(U (8*a) (W 0)).length));rw[BI,BF]
 rintro⟨j,av,u,m,n⟩ ⟨a8,aa,al⟩ a1;dsimp only at a8 aa al;have bg:=PH _ _ _ aa;refine EY.b (IK.mk (λt=>?_) (λt=>?_))
 ·have t:j<a:=by simp at t;omega
  obtain⟨bd,bc,ar,a3,ah,z⟩:=iT ay am t;rw[aa] at ar;obtain⟨rfl,rfl⟩:m=bd/\n=bc:=by have:=Gl ar;exact⟨AB IH this,AB Ho this⟩
  have a7:l.getD j 0<256:=by
   rw[AY,Aw Y];exact a6 _ (Gk _)
  obtain⟨f,a0⟩:∃f,Ecc.c (DG q j) (l.getD j 0)=f:=⟨_,A⟩;rw[a0] at a3 ah z;have bj:(((f.2.2:B):F)==2)=I:=Y5;have bk:(!Ac (f.1<256^8))=I:=Y5;refine A7 ?_;refine Ms.mk (v:=W (l.getD j 0)) (by rw[B3];exact If ba t az) (F'.mk ((8*j:B):F) Y4 (Qp.mk (8*j) (8*a) Z (ag+8*j) A A A Y A (by split<;>omega) (Vz (q:=q.drop (8*j)) (er:=r) (xt:=x) (by rw[DV,ay]) ?_ (λl ax=>aw l (EP ax)) Y ?_)))
  ·rw[<-FD,Hj,<-a9,Zc]
  refine iS (DG q j) (l.getD j 0) (T2 aw j) a7 ?_;unfold I2;rw[a0];refine lE f.1 ah (F'.mk ((8*j:B):F) Y4 (F'.mk ((8*a-8*j:B):F) Y4 (F'.mk ((8:B):F) (by rw[A1 Y];rfl) ?_)));intro au;refine A7 ?_;refine jI f.1 8 Y ah (L ?_);refine IK.mk (λao=>?_) (λao=>?_)
  ·have ap:(n+if f.2.2=1 then 1 else 0)=n+1:=by rw[A8 (by simp at ao;omega)]
   rw[ap] at z;refine F'.mk ((n+1:B):F) Z1 (Qp.mk 0 8 8 0 A A A Y A Y1 (Cr.v (f:=m) (h:=u) (a:=.t au (Cb (B9 (AV #[D BQ 0,D BQ 0,D BQ 0,D BQ 0,D BQ 0,D BQ 0,D BQ 0,D BQ 0])) 0 (AV (En f.1))) 642::[.t p r x]) A A A A ⟨A,A⟩ (D3 _ _ _) (Ct f.1 8) A (HR _ _) ⟨al,Y⟩ (λy S aj=>?_)));exact F'.mk ((j+1:B):F) Y2 (a1 (j+1,y,S,m++Ct f.1 8,n+1) ⟨by show j+1<=a;omega,z,by show(m++Ct f.1 8).length+S.length<=_;rw[Ad,HR];exact aj⟩ (by show a-(j+1)<a-j;omega) ⟨A,A,A,A,A,A,AA⟩ (AQ.z _ (AQ.y _)))
  ·have ap:(n+if f.2.2=1 then 1 else 0)=n:=by rw[A1 (by simp at ao;omega)];rfl
   rw[ap] at z;refine Qp.mk 0 8 8 0 A A A Y A Y1 (Cr.v (f:=m) (h:=u) (a:=.t au (Cb (B9 (AV #[D BQ 0,D BQ 0,D BQ 0,D BQ 0,D BQ 0,D BQ 0,D BQ 0,D BQ 0])) 0 (AV (En f.1))) 642::[.t p r x]) A A A A ⟨A,A⟩ (D3 _ _ _) (Ct f.1 8) A (HR _ _) ⟨al,Y⟩ (λy S aj=>?_));exact F'.mk ((j+1:B):F) Y2 (a1 (j+1,y,S,m++Ct f.1 8,n) ⟨by show j+1<=a;omega,z,by show(m++Ct f.1 8).length+S.length<=_;rw[Ad,HR];exact aj⟩ (by show a-(j+1)<a-j;omega) ⟨A,A,A,A,A,A,AA⟩ (AQ.z _ (AQ.y _)))
 ·have t:j=a:=by simp at t;omega
  subst t;have:=Gl (aa.symm.trans am);have a4:m=o:=AB IH this;have a5:n=af:=AB Ho this;subst a4;subst a5;have bb:m.length=8*j:=Y;refine⟨av,u,?_,A⟩;show AL #[Q av m.length (m.length+u.length),N n,X R]=_;rw[bb]
def Na(f:G B)(a:B):AE:=Ac (Ecc.e (f.getD (73*a+72) 0)<=4)
def GD(f:G B):B->B
 |0=>0
 |a+1=>GD f a+if Na f a then 1 else 0
def X9(f:G B):∀a,GD f a<=a
 |0=>AI _
 |a+1=>by have:=X9 f a;unfold GD;split<;>omega
def K7(a:G B):B:=if GD a 3=0 then 0 else if GD a 3=3 then 2 else 1
def iK(b:B)(f:b<256)(a:xv (X (Ac (Ecc.e b<=4))) lg):Z9 506 [D BQ b] lg xv:=by
 refine A9.y ?_;refine A9.ak (λj _=>SA b f j) ?_;have:(Ac (((Ecc.e b:B):F)<=4))=Ac (Ecc.e b<=4):=decide_eq_decide.2 Y;rw[<-this] at a;exact a
def AAJ(a:AC CW)(f:B)(j:xv (X R) lg):Z9 505 [O a 219 f] lg xv:=by
 refine A9.y ?_;refine A' ?_;refine F'.mk 0 A ?_;refine L ?_;exact j
def ABg(m q:B)(f:G B)(p:G M)(S:f.length=219)(u:∀r∈f,r<256):
 AK 431 [Q m 219 q] [AJ m f p] (N (K7 f)):=by
 refine A9.y ?_;refine AAJ _ _ (L ?_);refine EY.f (m:=B) (λa=>3-a) (λa=>a<=3) (λa=>[(0,Q m 219 q),(2,N 0),(3,N (GD f a)),(4,N ((73*a+72:B):F))]) (λ_=>[AJ m f p]) 0 Y ⟨A,A,A,A,AA⟩ (.w _) ?_;intro a z n;have y:=X9 f a;refine EY.b (IK.mk (λl=>?_) (λl=>?_))
 ·have l:a<3:=by simp at l;omega
  have x:f.getD (73*a+72) 0<256:=by
   rw[AY,Aw Y];exact u _ (Gk _)
  refine A7 ?_;refine Ms.mk (v:=W (f.getD (73*a+72) 0)) ?_ ?_
  ·show(f.map W++p)[0+(73*a+72)*1]?=_;rw[Di Y5,D_,BF,B3,AY,Aw Y];rfl
  refine iK _ x (IK.mk (λj=>?_) (λj=>?_))
  ·have t:GD f (a+1)=GD f a+1:=by rw[GD,Na,j];rfl
   exact F'.mk ((GD f (a+1):B):F) (by rw[A3 Y,t];rfl) (F'.mk ((73*(a+1)+72:B):F) Y4 (n (a+1) Y Y ⟨A,A,A,A,AA⟩ (.w _)))
  ·refine F'.mk ((73*(a+1)+72:B):F) Y4 ?_;have:GD f (a+1)=GD f a:=by rw[GD,Na,j];rfl
   refine n (a+1) Y Y ⟨A,A,?_,A,AA⟩ (.w _);rw[this];rfl
 ·have l:a=3:=by simp at l;omega
  subst l;clear n;unfold K7;refine IK.mk (λj=>?_) (λj=>?_)
  ·rw[A8 (by simp at j;omega)];exact⟨A,A⟩
  ·rw[A1 (by simp at j;omega)];refine A' ?_;refine F'.mk 3 A (IK.mk (λo=>?_) (λo=>?_))
   ·rw[A8 (by simp at o;omega)];exact⟨A,A⟩
   ·rw[A1 (by simp at o;omega)];exact⟨A,A⟩
def Ib(f:G B)(a:B):G B:=(f.drop (73*a)).take 64
def Ia(f:G B)(a:B):G B:=(f.drop (73*a+64)).take 8
def Fi(f:G B):B->AC (G B×B)
 |0=>C ([],0)
 |a+1=>Lx (Fi f a) (JL (Ib f a) (Ia f a))
def Sc{o:G B}:∀{a:B},Fi q (a+1)=C (o,l)->∃j f n m,Fi q a=C (j,f)/\JL (Ib q a) (Ia q a)=C (n,m)/\o=j++n/\l=f+m:=λ{a} p=>Qu p
def Sb(a:∃f,Fi q (l+1)=C f):∃f,Fi q l=C f:=by
 obtain⟨⟨o,m⟩,a⟩:=a;obtain⟨p,n,_,_,j,_⟩:=Sc a;exact⟨_,j⟩
def WZ{j f o:G B}(a:JL j f=C (o,l)):o.length=j.length/\l<=f.length/\∀m∈o,m<256:=by
 unfold JL at a;split at a
 ·rename_i n;have:=PH _ _ _ a;exact⟨by rw[this.1];omega,this.2.1,this.2.2⟩
 ·cases a
def Pg{n:G B}(z:n.length=219):∀{a:B}{o:G B}{f:B},a<=3->Fi n a=C (o,f)->o.length=64*a/\f<=8*a/\∀j∈o,j<256
 |0,o,f,_,p=>by
  have l:=Gl p;have q:([]:G B)=o:=AB IH l;have u:(0:B)=f:=AB Ho l;subst q;subst u;exact⟨A,AI _,λj r=>by simp at r⟩
 |a+1,o,f,L,p=>by
  obtain⟨N,M,S,m,x,y,rfl,rfl⟩:=Sc p;have l:=Pg z Y x;have q:=WZ y;have u:(Ib n a).length=64:=by simp[Ib];omega
  have F:(Ia n a).length=8:=by simp[Ia];omega
  refine⟨Z5,Y,λj r=>?_⟩;rcases Bs.1 r with t|t
  ·exact l.2.2 j t
  ·exact q.2.2 j t
def Xn(j:G B)(l:G M)(a f:B)(m:a+f<=j.length):((j.map W++l).drop a).take f=((j.drop a).take f).map W:=by
 rw[IB Y5,Eg Y5,<-Hj,<-Hk]
def l5(n U:B)(j:G B)(p:G M)(ap:j.length=219)(a8:219<=U)(al:∀u∈j,u<256)(a4:K7 j=2)(o:G B)(am:B)(aq:Fi j 3=C (o,am)):
 Z9 361 [Q n 219 U,N 192] [AJ n j p] λv ax=>∃aa S,v=AL #[Q aa 192 (192+S.length),N am,N 2]/\ax=[AJ aa (o.take 192) S,AJ n j p]:=by
 have a1:∀a,a<=3->∃f,Fi j a=C f:=by
  intro a ai;have ah:∃f,Fi j 3=C f:=⟨_,aq⟩;have ag:=Sb ah;have x:=Sb ag;have a0:=Sb x
  match a,ai with
  |0,_=>exact a0
  |1,_=>exact x
  |2,_=>exact ag
  |3,_=>exact ah
 refine A9.y ?_;refine A9.z (ABg n U j p ap al) λv ay ak=>?_;rw[a4] at ak;obtain⟨rfl,rfl⟩:=ak;refine A' ?_;refine F'.mk 3 A (L ?_);refine F'.mk 192 A (L ?_);refine EY.f (m:=B×B×G M×G B×B) (λf=>3-f.1) (λf=>f.1<=3/\Fi j f.1=C (f.2.2.2.1,f.2.2.2.2)/\f.2.2.2.1.length+f.2.2.1.length<=BP)
  (λf=>[(0,Q n 219 U),(1,N 192),(4,O E 0 0),(5,N 0),(6,N 0),(8,Gx f.2.1 f.2.2.2.1 f.2.2.1),(9,N (f.2.2.2.2:B)),(10,N ((73*f.1:B):F))])
  (λf=>Fu f.2.1 f.2.2.2.1 f.2.2.1++[AJ n j p]) (0,0,[],[],0) ⟨by show 0<=3;omega,A,Z⟩ ⟨A,A,A,A,A,A,A,A,AA⟩ (.w _) ?_
 rintro⟨a,af,q,l,z⟩ ⟨ai,aj,au⟩ aw;dsimp only at ai aj au;have a9:=Pg ap ai aj;refine EY.b (IK.mk (λt=>?_) (λt=>?_))
 ·have t:a<3:=by simp at t;omega
  obtain⟨⟨bc,bb⟩,av⟩:=a1 (a+1) Y;obtain⟨a6,a5,r,m,an,ao,rfl,rfl⟩:=Sc av;rw[aj] at an;obtain⟨rfl,rfl⟩:l=a6/\z=a5:=by have:=Gl an;exact⟨AB IH this,AB Ho this⟩
  have ba:=WZ ao;have a2:(Ib j a).length=64:=by simp[Ib];omega
  have y:(Ia j a).length=8:=by simp[Ia];omega
  refine F'.mk ((73*a+64:B):F) Z1 (Qp.mk (73*a) (73*a+64) (73*a+64) (73*a) A A A Y A (by split<;>omega) (F'.mk ((73*a+72:B):F) Z1 (F'.mk ((73*a+72:B):F) Z1 (Qp.mk (73*a+64) (73*a+72) (73*a+72) (73*a+64) A A A Y A (by split<;>omega) ?_))));rw[show 73*a+64-73*a=8*8 by omega,show 73*a+72-(73*a+64)=8 by omega];refine A9.ai (iO n (73*a) (73*a+64) (8*8) 8 (j.map W++p) 5 (Ib j a) (Ia j a) 8 a2 (Xn j p (73*a) 64 Y) (λu y=>al u (EP (EW y))) y (Xn j p (73*a+64) 8 Y) (λu y=>al u (EP (EW y))) Y Y Y r m ao) (j:=Fu af l q) Cj (λv ay ak=>?_);obtain⟨az,a7,rfl,rfl⟩:=ak;refine IK.y (Cr.ag (f:=l) (h:=q) (a:=[AJ az r a7,AJ n j p]) A A A A Cj r (by rw[CJ];exact C_ Y5) Y Y ⟨au,Y⟩ (λaa S a3=>?_));exact F'.mk ((z+m:B):F) Z1 (F'.mk ((73*(a+1):B):F) (by rw[A3 Y6];dsimp only;omega) (aw (a+1,aa,S,l++r,z+m) ⟨by show a+1<=3;omega,av,by show(l++r).length+S.length<=_;rw[Ad];rw[show r.length=8*8 by omega];exact a3⟩ (by show 3-(a+1)<3-a;omega) ⟨A,A,A,A,A,A,A,A,AA⟩ ((AQ.u EE).t (AQ.y _))))
 ·have t:a=3:=by simp at t;omega
  subst t;clear aw;have x:=Gl (aj.symm.trans aq);have ag:l=o:=AB IH x;have ah:z=am:=AB Ho x;subst ag;subst ah;have ar:0<l.length:=Y;dsimp only;rw[N9 ar,N8 ar];refine Qp.mk 0 192 (l.length+q.length) 0 A A A Y A Y1 ⟨af,(l.drop 192).map W++q,?_,?_⟩
  ·show AL #[Q af (192-0) (l.length+q.length-0),N z,N 2]=_;rw[Ad,BW,DV,show l.length+q.length-0=192+(l.length-192+q.length) by omega]
  ·show[AJ af l q,AJ n j p]=_;unfold AJ;rw[<-BS,<-CU,Hm]
def CD(a:G B):B->G B
 |0=>[]
 |f+1=>CD a f++(a.drop (64*f)).take 64++Ew ((a.drop (64*f)).take 64)++[0]
def Dp(a:G B):G B:=a++U (192-a.length) 0
def SF(a:q.length<=192):(Dp q).length=192:=by unfold Dp;rw[Ad,BI];omega
def T3(a:G B)(f:a.length=64):(Ew a).length=8:=by unfold Ew;rw[LO,f]
def MA{f:G B}(l:f.length=192):∀a,a<=3->(CD f a).length=73*a
 |0,_=>A
 |a+1,m=>by
  have j:((f.drop (64*a)).take 64).length=64:=Y5;unfold CD;rw[Ad,Ad,Ad,MA l a Y,j,T3 _ j,JZ];omega
def AF5{P:Prop}(h:P:=by rw[List.length_map,List.length_replicate];omega):P:=h
def kY(o aa af:B)(n:G M)(p:AU)(q:G B)(a6:q.length=192)(al:(n.drop aa).take 192=q.map W)(a3:∀m∈q,m<256)(z:192<=af):
 Z9 400 [O (C ⟨o,aa,E⟩) 192 af,N 3] [.t o n p] λv ay=>∃ag ax,v=AL #[Q ag 219 (219+ax.length),N 0]/\ay=[AJ ag (CD (Dp q) 3) ax,.t o n p]:=by
 obtain⟨f,x⟩:∃f,Dp q=f:=⟨_,A⟩;have ai:f.length=192:=by rw[<-x];exact SF Y
 have a4:∀m∈f,m<256:=by
  rw[<-x];intro m z;rcases Bs.1 z with l|l
  ·exact a3 m l
  ·rw[FX] at l;omega
 have a7:aa+192<=n.length:=by
  have:=AB O4 al;simp[a6] at this;omega
 rw[x];refine A9.t ?_;refine L ?_;refine F'.mk 192 A ?_;refine L ?_;refine F'.mk 192 A (Cr.t (m:=_) (u:=_) (p:=192) (j:=192) A A A A A A ⟨Z,Z,Z⟩ (U 192 (W 0)) (DM _ _) (λr=>?_));refine Cr.aa (n:=_) A A A A A A 192 Z (q.map W) al ⟨a7,?_⟩ (by simp[W,B']) ?_
 ·rw[BI];show 0+192*1<=192;omega
 have az:Bf (U 192 (W 0)) 0 (q.map W)=f.map W:=by
  rw[FN _ _ _ AF5,Hn,Bz,TQ,<-x,BW,Dp,CU,FF,BF]
 rw[az];refine EY.f (m:=B×B×G M) (λj=>3-j.1) (λj=>j.1<=3/\(CD f j.1).length+j.2.2.length<=BP)
  (λj=>[(5,N 0),(6,Q r 192 192),(7,Gx j.2.1 (CD f j.1) j.2.2),(8,N ((64*j.1:B):F))])
  (λj=>Fu j.2.1 (CD f j.1) j.2.2++[.t r (f.map W) 5,.t o n p]) (0,0,[]) ⟨by show 0<=3;omega,by show 0+0<=_;decide⟩ ⟨A,A,A,A,AA⟩ (.w _) ?_
 rintro⟨a,a2,aw⟩ ⟨ak,ap⟩ ar;dsimp only at ak ap;have am:=MA ai a ak;refine EY.b (IK.mk (λl=>?_) (λl=>?_))
 ·have l:a<3:=by simp at l;omega
  obtain⟨b,y⟩:∃b,(f.drop (64*a)).take 64=b:=⟨_,A⟩;have S:b.length=64:=by rw[<-y];simp;omega
  have a5:∀m∈b,m<256:=by rw[<-y];exactλm z=>a4 m (EP (EW z))
  have aj:((f.map W).drop (64*a)).take 64=b.map W:=by rw[<-Hj,<-Hk,y]
  have aq:=T3 b S;have an:CD f (a+1)=CD f a++b++Ew b++[0]:=by rw[CD,y]
  refine F'.mk ((64*a+64:B):F) Z1 (F'.mk ((64*a+64:B):F) Z1 (Qp.mk (64*a) (64*a+64) (64*a+64) (64*a) A A A Y A (by split<;>omega) ?_));rw[show 64*a+64-64*a=64 by omega];refine Cr.ag (f:=CD f a) (h:=aw) (a:=[.t r (f.map W) 5,.t o n p]) A A A A (Bi _) b aj S Y ⟨ap,Y⟩ (λa0 au be=>?_);refine A9.ai (ACw r (64*a) 64 64 (f.map W) 5 b S aj a5 Y 8 A Y Y) (j:=Fu a0 (CD f a++b) au++[.t o n p]) (EE (l₂:=[_])) (λv bc a8=>?_);obtain⟨ah,av,rfl,rfl⟩:=a8;have a9:(CD f a++b).length=73*a+64:=Z5;refine Cr.ag (f:=CD f a++b) (h:=au) (a:=[AJ ah (Ew b) av,.t r (f.map W) 5,.t o n p]) A A A A ?_ (Ew b) (by rw[CJ];exact C_ (by simp[aq])) aq Y ⟨by rw[a9,<-am,<-show 64=64 from A];omega,Y⟩ (λbd bb bf=>?_)
  ·exact(QE [_,_] _ _).trans (Bi _)
  have ba:(CD f a++b++Ew b).length=73*a+72:=Z5;intro a1;refine Cr.ag (f:=CD f a++b++Ew b) (h:=bb) (a:=.t a1 [W 0] 5::[AJ ah (Ew b) av,.t r (f.map W) 5,.t o n p]) A A A A List.perm_middle.symm [0] A A Y ⟨by rw[ba];omega,Y⟩ (λu t bg=>?_);refine F'.mk ((64*(a+1):B):F) (by rw[A3 Y6];dsimp only;omega) (ar (a+1,u,t) ⟨by show a+1<=3;omega,by show(CD f (a+1)).length+t.length<=_;rw[MA ai (a+1) Y];omega⟩ (by show 3-(a+1)<3-a;omega) ⟨A,A,?_,A,AA⟩ ?_)
  ·show C (Gx u (CD f a++b++Ew b++[0]) t)=C (Gx u (CD f (a+1)) t);rw[an]
  ·show AQ _ (Fu u (CD f (a+1)) t++_);rw[an];exact AQ.ah ((AQ.y _).t (AQ.y _)) _
 ·have l:a=3:=by simp at l;omega
  subst l;clear ar;have ao:0<(CD f 3).length:=Y;dsimp only;rw[N9 ao,N8 ao,am];exact⟨_,AQ.z _ (AQ.y _),a2,aw,A,A⟩
def Ud:UB A4.b 433 H:=λj m n l a f=>
 run_call_add (P:=An) Tryz.func433 Y3 Y3 Y3 H Y3 a f (by simp[go_sem])
def c3:UC A4.b 216 H:=λf l j a=>
 run_call_load (P:=An) Tryz.func216 Y3 Y3 Y3 H Y3 a
def C'(a:F):F:=if a=0 then 0 else a-1
def Nr(j m:B)(n:AE)(a f:F)(l:G M)(p:0<=a/\a≠1/\a<=9000000000000000000)(q:0<=f/\f<=9000000000000000000):
 Ay 610 [P j] [.t j (X n::N a::N f::l) m] (X R) [.t j (X n::N (C' a)::N (f+1)::l) m]:=by
 refine A9.af A (Ms.mk A ?_);refine IK.mk (λo=>?_) (λo=>?_)
 ·simp at o;omega
 refine Ms.mk A ?_;refine F'.mk _ (A3 Y) (F'.mk (C' a) (by unfold C';split<;>split<;>omega) ?_);refine Mw.mk ⟨A,Y1⟩ (A9.af A ?_);exact Cr.ao Ud A A A A _ (A3 Y) ⟨A,A⟩
def PK(l a:B)(f:Bl)(o:f.ab)(t:a<70):AK 605 [P l,N a] [.u (CB l f)] (N (f.j a).a.length):=by
 have r:=o.nA;have u:Ac ((a:F)<0)=I:=Y1;have x:=Aa ((a:F)≥f.s.length);have n:a<f.s.length:=Y;refine A9.ae λm=>A9.aa ?_;have j:=λq p=>f.aw m.a (p:=q) n p;simp only[Bl.ae,DU];refine A9.af A (A9.af A ?_);repeat first
  |refine IK.t Y7 ?_
  |refine IK.u Y7 ?_
  |(apply Ms.mk;focus rfl)
  |refine Qh.mk a A n ?_
 apply Ms.mk;exact j 2 Y;refine IK.y (IK.y ?_);apply Ms.mk;exact j 1 Y;exact⟨_,AQ.ad _ m (Bi _),A,A⟩
def NO[j:Bo lg l er xt](f:er[p]?=C (N ya))(a:xv (N ya) lg):Z9 134 [T (C ⟨l,p,E⟩)] lg xv:=by
 refine A9.y ?_;exact Cr.aw c3 A A A f a
variable{yn:S}{yz:F}
def My[n:Bo lg l er xt](j:er[p]?=C (N ya))(a:F)(m:IntKind.i64.wrap (ya+yz)=a)[o:Ft lg l er xt (er.set p (N a)) yn](f:xv (N a) yn):Z9 362 [T (C ⟨l,p,E⟩),N yz] lg xv:=by
 refine A9.y ?_;exact Cr.ao Ud A A A j a m f
def Wm(j a:B)(f:Bl)(o:f.ab)(t:a<70):AK 606 [P j,N a] [.u (CB j f)] (X (f.j a).b):=by
 have r:=o.nA;have u:Ac ((a:F)<0)=I:=Y1;have x:=Aa ((a:F)≥f.s.length);have l:a<f.s.length:=Y;refine A9.ae λm=>A9.aa ?_;have n:=λq p=>f.aw m.a (p:=q) l p;simp only[Bl.ae,DU];refine A9.y ?_;refine A9.y ?_;repeat first|refine IK.t Y7 ?_|refine IK.u Y7 ?_|refine IK.y ?_|refine IK.aa ?_|(apply Ms.mk;focus rfl)|refine Mt.mk (aY.mk A) ?_|refine Mt.mk (show Cz _ _ _ from HJ) ?_|refine Mt.mk (show Bo _ _ _ _ from HJ) ?_|refine Qh.mk a A l ?_
 apply Ms.mk;exact n 3 Y;refine L ?_;exact⟨_,AQ.ad _ m (Bi _),A,A⟩
def LJ(f:B)(a:Bl)(j:a.ab):AK 157 [P f] [.u (CB f a)] (AL #[N 70,N a.t,N 3]):=by
 have l:=j.nA;refine A9.ae λm=>A9.aa ?_;simp only[Bl.ae,DU];refine A9.y ?_;refine L ?_;exact⟨_,AQ.ad _ m (Bi _),by rw[l];rfl,A⟩
def IV(f:B)(a:Bl):AK 28 [P f] [.u (CB f a)] (X a.x):=by
 refine A9.ae λm=>A9.aa ?_;simp only[Bl.ae,DU];refine A9.y ?_;refine L ?_;exact⟨_,AQ.ad _ m (Bi _),A,A⟩
def Z2{P:Prop}(h:P:=by first|exact Nat.le_of_ble_eq_true rfl|(simp;omega)):P:=h
def dQ(a:B)(f:Bl):Z9 18 [P a] [.u (CB a f)] λv j=>j=[.u (CB a {f with x:=R,u:=0})]:=by
 refine A9.ae λm=>A9.aa ?_;simp only[Bl.ae,DU];refine A9.y ?_;repeat first|refine IK.t Y7 ?_|refine IK.u Y7 ?_|refine IK.y ?_|refine IK.aa ?_|(apply Ms.mk;focus rfl)|refine Mt.mk (aY.mk A) ?_|refine Mt.mk (show Cz _ _ _ from HJ) ?_|refine Mt.mk (show Bo _ _ _ _ from HJ) ?_|refine Mw.mk ⟨A,Z2⟩ ?_|(apply NO;focus rfl)
 exact⟨_,AQ.ad (Bl.ae _ a) m (Bi _),A⟩
def jN(a:B)(f:Bl):Z9 45 [P a] [.u (CB a f)] λv j=>j=[.u (CB a {f with x:=I})]:=by
 refine A9.ae λm=>A9.aa ?_;simp only[Bl.ae,DU];refine A9.y ?_;repeat first|refine IK.t Y7 ?_|refine IK.u Y7 ?_|refine IK.y ?_|refine IK.aa ?_|(apply Ms.mk;focus rfl)|refine Mt.mk (aY.mk A) ?_|refine Mt.mk (show Cz _ _ _ from HJ) ?_|refine Mt.mk (show Bo _ _ _ _ from HJ) ?_|refine Mw.mk ⟨A,Z2⟩ ?_|(apply NO;focus rfl)
 exact⟨_,AQ.ad (Bl.ae _ a) m (Bi _),A⟩
def Ub(f:B)(j:Bl)(a:B)(n:1<=a):Z9 17 [P f,N a] [.u (CB f j)] λv l=>l=[.u (CB f {j with u:=a})]:=by
 refine A9.ae λm=>A9.aa ?_;simp only[Bl.ae,DU];refine A9.y ?_;repeat first|refine IK.t Y7 ?_|refine IK.u Y7 ?_|refine IK.y ?_|refine IK.aa ?_|(apply Ms.mk;focus rfl)|refine Mt.mk (aY.mk A) ?_|refine Mt.mk (show Cz _ _ _ from HJ) ?_|refine Mt.mk (show Bo _ _ _ _ from HJ) ?_|refine Mw.mk ⟨rfl,by first|exact Nat.le_of_ble_eq_true rfl|(simp;omega)⟩ ?_|(apply NO;focus rfl)
 refine F'.mk (a:F) (by rw[A1 Y]) ?_;repeat first|refine IK.t Y7 ?_|refine IK.u Y7 ?_|refine IK.y ?_|refine IK.aa ?_|(apply Ms.mk;focus rfl)|refine Mt.mk (aY.mk A) ?_|refine Mt.mk (show Cz _ _ _ from HJ) ?_|refine Mt.mk (show Bo _ _ _ _ from HJ) ?_|refine Mw.mk ⟨A,Z2⟩ ?_|(apply NO;focus rfl)
 exact⟨_,AQ.ad (Bl.ae {j with u:=a} f) m (DZ A),A⟩
def Oj(f:B)(a:Bl):AK 67 [P f] [.u (CB f a)] (AL #[N a.w,N a.aa,N a.v,N a.z]):=by
 refine A9.ae λm=>A9.aa ?_;simp only[Bl.ae,DU];refine A9.y ?_;repeat first|refine IK.t Y7 ?_|refine IK.u Y7 ?_|refine IK.y ?_|refine IK.aa ?_|(apply Ms.mk;focus rfl)|refine Mt.mk (aY.mk A) ?_|refine Mt.mk (show Cz _ _ _ from HJ) ?_|refine Mt.mk (show Bo _ _ _ _ from HJ) ?_|refine Mw.mk ⟨rfl,by first|exact Nat.le_of_ble_eq_true rfl|(simp;omega)⟩ ?_|(apply NO;focus rfl)
 exact⟨_,AQ.ad _ m (Bi _),A,A⟩
def HX(f a:B):G M:=U a (W 255)++U (f-a) (W 0)
def VZ(f a m:B)(j:a+m<=f):Bf (HX f a) a (U m (W 255))=HX f (a+m):=by
 rw[FN _ _ _ (by simp[HX];omega)];unfold HX;rw[Eg Y1,DP Y1,O0,LX Y1,Bz,TQ,<-BS,TV];congr 2;simp;omega
def fS(l j a:B)(f:a<=j):((HX l j).drop 0).take (a*1)=U a (W 255):=by
 unfold HX;rw[CJ,B3,Eg (by simpa using f),List.take_replicate,Zq f]
def RV(a f:B)(j:f<=a):(HX a f).length=a:=by simp[HX];omega
def VY(a:B):(U a (W 255)).all B'=R:=by simp[W,B']
def d2(n a t:B)(m:G B)(f:G M)(o:AU)(U:a<=1000000)(p:f.take a=m.map W)(q:m.length=a):
 Z9 198 [Q n a t] [.t n f o] λv r=>∃l j,v=Q l a (a+j.length)/\r=[AJ l m j,.t n f o]:=by
 have S:a<=f.length:=by
  have:=AB O4 p;simp[q] at this;omega
 refine A9.y ?_;refine L ?_;intro y;refine Cr.y (j:=_) A A A A A A A ⟨A,Z⟩ ⟨A,Z,Z⟩ (m.map W) ?_ (by simp[q]:_=a*1) ?_ ⟨Y,Z⟩ ?_
 ·exact(by simpa using p:(f.drop 0).take (a*1)=_)
 ·simp[W,B']
 intro l u j z F x;have N:j.length=(u-(0+a))*1:=x;refine⟨l,j,?_,A⟩
 ·simp only[FA];congr 1<;>omega
def j3(a:B)(f:S)(j:a=219):AK 291 [D Au 1,D Au a] f (AL #[D Au 0,D Au a]):=by
 subst j;refine A9.y ?_;refine L ?_;refine A9.y ?_;repeat first|refine F'.mk _ A ?_|refine Mt.mk Z ?_
 exact⟨by rfl,A⟩
def AAB(b:B)(j:AU):
 Z9 199 [Q b 1 1,N 219] [.t b [W 255] j] λv n=>∃f,v=Q f 219 219/\n=[.t f (U 219 (W 255)) 5,.t b [W 255] j]:=by
 refine A9.y ?_;refine L ?_;refine F'.mk _ (Ec Y) ?_;refine F'.mk _ (Ec Y) ?_;refine A9.b (j3 219 [] A) (A7 ?_);refine Cr.t (m:=_) (u:=_) (p:=219) (j:=219) A A A A A A ⟨Z,Z,Z⟩ (HX 219 0) (DM _ _) (λf=>?_);refine Cr.aa (n:=_) A A A A A A 1 A (U 1 (W 255)) A ⟨Z,by rw[RV _ _ Y];decide⟩ (VY 1) ?_;rw[VZ 219 0 1 Y];refine EY.g (λa=>219-a) (λa=>1<=a/\a<=219) (λa=>[(7,Q f 219 219),(8,N (a:F))]) (λa=>.t f (HX 219 a) 5::([]++[BL.t b [W 255] j])) 1 Y ⟨A,A,AA⟩ A ?_;intro a q p;refine EY.b (IK.mk (λl=>?_) (λl=>?_))
 ·simp at l;refine Qp.mk a 219 219 a A A A Y A (by split<;>omega) (Qp.mk 0 a 219 0 A A A Y A Y1 ?_);obtain⟨m,o⟩:∃m,Bj a (219-a)=m:=⟨_,A⟩;refine Cr.aa (n:=_) A A A A A A m o (U m (W 255)) (fS 219 a m Y) ⟨?_,?_⟩ (VY m) ?_
  ·rw[RV _ _ Y];show 0+m*1<=219;omega
  ·rw[RV _ _ Y];show a+m*1<=219;omega
  rw[VZ 219 a m Y];refine A7 ?_;exact p (a+m) Y Y ⟨A,A,AA⟩ A
 ·simp at l;have:a=219:=Y;subst this;exact⟨f,A,by rw[show U 219 (W 255)=HX 219 219 from by simp[HX]];rfl⟩
def Bl.ah(a:Bl)(g:B)(l:Fs)(f:B->B):G M:=DS (λj=>(a.j j).c a.t (f j)) g (l.c a.t (f g)) a.s.length
def Bl.ax(a:Bl)(g:B)(f:B->B):a.al f=a.ah g (a.j g) f:=AAY
def Bl.ak(a:Bl)(n g:B)(m:Jk)(j:GR):S:=
 .t n (a.aj m.b) 74::.t m.b (a.ah g (a.j g) m.a) 129::.t (m.a g) ((AH a.t).map (E_ (a.j g) j)) 31::(((AH (a.j g).a.length).map λf=>AJ (j.a f) ((a.j g).a.getD f []) (j.b f))++((Ff a.s.length g).map λl=>.u (Hc (a.j l) (m.a l) a.t)))
def Bl.ar{a:Bl}{j g:B}{n:B}{args:G M}{f:S}{p:M->S->Prop}(q:g<a.s.length)(h:∀m l,Z9 n args (a.ak j g m l++f) p):Z9 n args (.u (CB j a)::f) p:=by
 refine A9.ae λm=>(A9.w (a:=.u (Hc (a.j g) (m.a g) a.t)::(.t j (a.aj m.b) 74::.t m.b (a.al m.a) 129::((Ff a.s.length g).map λo=>.u (Hc (a.j o) (m.a o) a.t))++f)) (AQ.u ?_) (A9.ae λl=>?_))
 ·unfold Bl.ae;refine AEM f (l₁:=_) (l₂:=_::_::_::_) (((HE _ (HE _ (Rq _ q))).trans ?_));exact((D3 _ _ _).cons _).trans (D3 _ _ _)
 ·refine A9.w (AQ.u ?_) (h m l);unfold LD Bl.ak;rw[<-Bl.ax];simp only[DU,BS];refine(HE _ EE).trans ((D3 _ _ _).trans (HE _ ?_));exact(HE _ EE).trans (D3 _ _ _)
def Bl.bf(a:Bl)(j g:B)(m:Jk)(l:GR)(p:g<a.s.length)(f:S):AQ (a.ak j g m l++f) (.u (CB j a)::f):=by
 refine(AQ.t ?_ (AQ.ad (a.ae j) m (Bi _)));have o:((a.ak j g m l)++f).Perm (LD (a.j g) (m.a g) a.t l++(.t j (a.aj m.b) 74::.t m.b (a.al m.a) 129::((Ff a.s.length g).map λn=>.u (Hc (a.j n) (m.a n) a.t))++f)):=by
  unfold LD Bl.ak;rw[<-Bl.ax];simp only[DU,BS];exact((HE _ (D3 _ _ _)).trans (D3 _ _ _)).trans (HE _ ((List.perm_middle.symm.cons _).trans List.perm_middle.symm))
 refine(AQ.ad (LD (a.j g) (m.a g) a.t) l o).t (AQ.u ?_);unfold Bl.ae;refine AEM f (l₁:=_::_::_::_) (l₂:=_) (Me ?_ ((HE _ (HE _ (Rq _ p))).symm));exact(D3 _ _ _).trans ((D3 _ _ _).cons _)
def Bl.bi(a l:Bl)(t g:B)(m:Jk)(o:GR)(f:Fs)(u:l.s=a.s.set g f)(x:l.t=a.t)(q:g<a.s.length):
 l.ak t g m o=.t t (l.aj m.b) 74::.t m.b (a.ah g f m.a) 129::.t (m.a g) ((AH a.t).map (E_ f o)) 31::(((AH f.a.length).map λn=>AJ (o.a n) (f.a.getD n []) (o.b n))++((Ff a.s.length g).map λj=>.u (Hc (a.j j) (m.a j) a.t))):=by
 have p:∀n,l.j n=(a.af g f).j n:=λn=>by unfold Bl.j;rw[u];rfl
 have y:l.j g=f:=by rw[p,Bl.an a f q,A8 A]
 have r:l.s.length=a.s.length:=by rw[u];simp
 have z:l.ah g f m.a=a.ah g f m.a:=by
  unfold Bl.ah DS;rw[r,x];refine F4 λj _=>?_;by_cases h:j=g
  ·simp[h]
  ·rw[A1 h,A1 h];show Fs.c (l.j j) _ _=_;rw[p,Bl.an a f q,A1 h]
 unfold Bl.ak;rw[y,r,z,x];have F:(Ff a.s.length g).map (λj=>BL.u (Hc (l.j j) (m.a j) a.t))=(Ff a.s.length g).map (λj=>BL.u (Hc (a.j j) (m.a j) a.t)):=iI λn _ G=>by
  rw[p,Bl.an a f q,A1 G]
 rw[F]
def Bl.be(f a:Bl)(j:B)(h:a.s.length=f.s.length):a.aj j=[X a.x,N a.u,N a.w,Q j f.s.length f.s.length,N a.t,N 3,N a.aa,N a.v,N a.z]:=by
 unfold Bl.aj;rw[h]
def Bl.au{f a:Bl}{n g:B}{m:Jk}{l:GR}{j:Fs}{q o:S}(x:g<f.s.length)(r:a.s=f.s.set g j)(y:a.t=f.t)
 (h:AQ q (.t n [X a.x,N a.u,N a.w,Q m.b f.s.length f.s.length,N a.t,N 3,N a.aa,N a.v,N a.z] 74::.t m.b (f.ah g j m.a) 129::.t (m.a g) ((AH f.t).map (E_ j l)) 31::(((AH j.a.length).map λp=>AJ (l.a p) (j.a.getD p []) (l.b p))++((Ff f.s.length g).map λt=>.u (Hc (f.j t) (m.a t) f.t)))++o)):AQ q (.u (CB n a)::o):=by
 have u:a.s.length=f.s.length:=by rw[r];simp
 refine h.t ?_;rw[<-Bl.be f a m.b u,<-Bl.bi f a n g m l j r y x];exact a.bf n g m l Y o
def Bl.am(a:Bl)(g:B)(n:G (G B))(m:Jk)(l:GR):S:=((AH n.length).map λf=>AJ (l.a f) (n.getD f []) (l.b f))++((Ff a.s.length g).map λj=>.u (Hc (a.j j) (m.a j) a.t))
def Bl.az{a:Bl}{n g:B}{l:B}{args:G M}{j:S}{o:M->S->Prop}(p:g<a.s.length)(h:∀m f,Z9 l args (.t n (a.aj m.b) 74::.t m.b (a.ah g (a.j g) m.a) 129::.t (m.a g) ((AH a.t).map (E_ (a.j g) f)) 31::(j++a.am g (a.j g).a m f)) o):Z9 l args (.u (CB n a)::j) o:=by
 refine Bl.ar p λm f=>A9.w (AQ.u ?_) (h m f);exact((Cj (l₁:=a.am g (a.j g).a m f) (l₂:=j)).cons _).cons _|>.cons _
def Bl.av{f a:Bl}{p g:B}{m:Jk}{n:GR}{j:Fs}{o l:S}(r:g<f.s.length)(q:a.s=f.s.set g j)(t:a.t=f.t)
 (h:AQ o (.t p [X a.x,N a.u,N a.w,Q m.b f.s.length f.s.length,N a.t,N 3,N a.aa,N a.v,N a.z] 74::.t m.b (f.ah g j m.a) 129::.t (m.a g) ((AH f.t).map (E_ j n)) 31::(l++f.am g j.a m n))):AQ o (.u (CB p a)::l):=
 Bl.au r q t (h.t (AQ.u (((Cj (l₁:=l) (l₂:=f.am g j.a m n)).cons _).cons _|>.cons _)))
def Bl.aq(a:Bl)(j:B->B){g:B}(l:g<a.s.length):Km (λf=>(a.j f).c a.t (j f)) 5 g a.s.length:=⟨λ_=>A,l⟩
def N6(f g:B)(a:Bl)(o:a.s.length=70)(p:g<70)(j:B)(m:AU)(l:S):AK 57 [P f,N g] (.t f (a.aj j) m::l) (T (C ⟨j,g*5,E⟩)):=by
 have q:Ac ((g:F)<0)=I:=Y1;have r:=Aa ((g:F)≥a.s.length);have n:g<a.s.length:=Y;refine A9.y ?_;repeat first|refine IK.t Y7 ?_|refine IK.u Y7 ?_|refine IK.y ?_|refine IK.aa ?_|(apply Ms.mk;focus rfl)|refine Mt.mk (aY.mk A) ?_|refine Mt.mk (show Cz _ _ _ from HJ) ?_|refine Mt.mk (show Bo _ _ _ _ from HJ) ?_|refine Qh.mk g A n ?_
 exact⟨by simp[FA],A⟩
section
variable{c:B->G M}{g f:B}(h:Km c 5 g f){a b d e:M}{i:AE}
include h
def iH(n:B)(j:Bl)(r:j.t<1000)(l:B)(p q:AU)(o:S):AK 197 [P n,T (C ⟨l,g*5,E⟩)] (.t n (j.aj l) p::.t l (DS c g [a,b,d,X i,e] f) q::o) (N ((if i then j.t/2 else j.t:B):F)):=by
 refine A9.y ?_;refine Ms.t (d:=3) h A Y A ?_;refine IK.mk (λm=>?_) (λm=>?_)
 ·refine A7 ?_;refine F'.mk ((j.t/2:B):F) ?_ ?_
  ·rw[Z_ Y];rw[A3 Y];omega
  exact⟨by simp[FA,m],A⟩
 ·refine L ?_;exact⟨by simp[FA,m],A⟩
def SG(n m:B)(j:Bl)(x:j.t<1000)(y:m<if i then j.t/2 else j.t)(l:B)(q r:AU)(p:S):AK 115 [P n,T (C ⟨l,g*5,E⟩),N m] (.t n (j.aj l) q::.t l (DS c g [a,b,d,X i,e] f) r::p) (X R):=by
 obtain⟨o,t⟩:∃o,(if i then j.t/2 else j.t:B)=o:=⟨_,A⟩;have M:Ac ((m:F)≥0)=R:=Y1;have z:Ac ((m:F)<(o:B))=R:=by rw[t] at y;simp;omega
 refine A9.y ?_;refine L ?_;refine A9.z (iH h n j x l q r p) λv G u=>?_;rw[t] at u;obtain⟨rfl,rfl⟩:=u;refine L ?_;exact⟨by rw[<-z];rfl,A⟩
def Rs(m:B)(l:Bl)(q:l.x=I)(j:B)(o p:AU)(n:S):AK 609 [P m,T (C ⟨j,g*5,E⟩),X R] (.t m (l.aj j) o::.t j (DS c g [a,b,d,X i,X I] f) p::n) (N 0):=by
 refine A9.y ?_;refine A9.y ?_;refine L ?_;refine Ms.t (d:=4) h A Y A ?_;refine L ?_;exact⟨A,A⟩
end
def i_(f g:B)(a:Bl)(i:AE)(h:a.ab)(o:g<70)(p:a.x=I)(q:(a.j g).a=[]):
 Ay 604 [P f,N g,X i] [.u (CB f a)] (N 0) [.u (CB f (a.af g ⟨i,(a.j g).a⟩))]:=by
 have n:=h.nA;have l:g<a.s.length:=Y;refine Bl.ar l λm r=>A9.aa ?_;have j:=a.aq m.a l;simp only[Bl.ak,Bl.ah,Fs.c,DU,BS];have t:(((a.j g).a.length:F)!=0)=I:=by rw[q];rfl
 refine A9.y ?_;refine A9.ab (N6 f g a n o m.b _ _) (A9.ab (Rs j f a p m.b _ _ _) ?_);refine L ?_;refine Ms.t (d:=2) j A Y A (L ?_);refine Ms.t (d:=1) j A Y A (L ?_);exact Mw.u (d:=3) j A Y A ⟨A,Y⟩ (⟨_,Bl.au (f:=a) (a:=a.af g ⟨i,(a.j g).a⟩) (m:=m) (l:=r) (j:=⟨i,(a.j g).a⟩) (o:=[]) l A A (AQ.u (DZ (by simp only[DU,BS,B1];rfl))),A,A⟩)
def AA0(a:B):AJ a (U 219 255) []=.t a (U 219 (W 255)) 5:=by unfold AJ;rw[B1,FF]
section
variable{c:B->G M}{g a:B}(h:Km c 5 g a){b d f e:M}{np:B}
include h
def Xi(l n j:B)(W:AE)(x ag:F)(af Z:M)(u:G M)(o:G M)(al:n<np)(aj:o[n]?=C (O E 0 0))(m:B)(q r t:AU)(p:S):
 Z9 116 [P l,T (C ⟨m,g*5,E⟩),N n] (.t l (X W::N x::N ag::af::Z::N 3::u) q::.t m (DS c g [Q j np np,b,d,f,e] a) r::.t j o t::p)
  λv ah=>∃y aa,v=Q y 219 (219+aa.length)/\ah=AJ y (U 219 255) aa::.t l (X W::N x::N ag::af::Z::N 3::u) q::.t m (DS c g [Q j np np,b,d,f,e] a) r::.t j o t::p:=by
 refine A9.t ?_;refine Ms.t (d:=0) h A Y A (A7 ?_);refine Ms.mk (v:=O E 0 0) (by rw[BF,B3];exact aj) (L ?_);intro ai;refine L ?_;refine F'.mk 219 A (A9.u (AAB ai _) ?_);rintro v ak ⟨z,rfl,rfl⟩;exact⟨AJ z (U 219 255) []::_,by rw[AA0];exact AQ.z _ (AQ.y _),z,[],A,A⟩
def mE(p r n m:B)(u:G M)(j:G B)(l:G M)(t:G M)(ai:r<np)(Z:t[r]?=C (Q m j.length (j.length+l.length)))(ag:j.length<=1000000)(q:B)(y z F:AU)(x:S):
 Z9 116 [P p,T (C ⟨q,g*5,E⟩),N r] (.t p u y::.t q (DS c g [Q n np np,b,d,f,e] a) z::.t n t F::AJ m j l::x)
  λv aa=>∃U o,v=Q U j.length (j.length+o.length)/\aa=AJ U j o::AJ m j l::.t p u y::.t q (DS c g [Q n np np,b,d,f,e] a) z::.t n t F::x:=by
 refine A9.y ?_;refine Ms.t (d:=0) h A Y A (A7 ?_);refine Ms.mk (v:=Q m j.length (j.length+l.length)) (by rw[BF,B3];exact Z) (L ?_);refine Ms.t (d:=0) h A Y A (A7 ?_);refine Ms.mk (v:=Q m j.length (j.length+l.length)) (by rw[BF,B3];exact Z) (A9.u (d2 m j.length (j.length+l.length) j (j.map W++l) 5 ag Y1 A) ?_);rintro v ah ⟨af,o,rfl,rfl⟩;exact⟨af,o,A,A⟩
end
def eZ(f g:B)(a:Bl)(h:a.ab)(r:g<70)(x:a.x=I)(y:a.u=0\/10<=a.u):
 Ay 603 [P f,N g] [.u (CB f a)] (N 0) [.u (CB f {a.af g ⟨(a.j g).b,[]⟩ with u:=C' (C' a.u),w:=a.w+1+1,z:=a.z+1})]:=by
 have p:=h.nA;have l:g<a.s.length:=Y;have F:=h.nE;have G:=h.nC;have q:0<=C' a.u/\C' a.u≠1/\C' a.u<=9000000000000000000:=by unfold C';split<;>omega
 refine Bl.ar l λm n=>A9.aa ?_;have j:=a.aq m.a l;simp only[Bl.ak,Bl.ah,Fs.c,DU,BS];refine A9.y ?_;refine A9.ab (N6 f g a p r m.b _ _) (A9.ab (Rs j f a x m.b _ _ _) ?_);refine L ?_;refine EY.b (L ?_);refine A9.b (Nr f _ a.x a.u a.w _ Y Y) (L ?_);refine Mw.u (d:=2) j A Y A ⟨A,Y⟩ (F'.mk 1 A (EY.b (L ?_)));refine A9.b (Nr f _ a.x (C' a.u) (a.w+1) _ q Y) (L ?_);refine Mw.u (d:=2) j A Y A ⟨A,Y⟩ (F'.mk 2 A (EY.b (L ?_)));refine Ms.t (d:=0) j A Y A ?_;have t:a.t≠0:=by have:=h.nD;omega
 refine Cr.au (y:=_) (r:=_) A A A A A A A t (U a.t (O E 0 0)) (by rw[show a.t*(B9 (O E 0 0)).length=a.t from B3 _];exact DM _ _) Y1 (by simp[B']) ?_;rw[N_ Y1];refine L ?_;refine Mw.u (d:=1) j A Y A ⟨A,Y⟩ (My A (a.z+1) (A3 Y) ?_);have o:(AH a.t).map (E_ ⟨(a.j g).b,[]⟩ n)=U a.t (O E 0 0):=by
  rw[AEQ];simp[E_]
 refine⟨_,Bl.au (f:=a) (a:={a.af g ⟨(a.j g).b,[]⟩ with u:=C' (C' a.u),w:=a.w+1+1,z:=a.z+1}) (m:=m) (l:=n) (j:=⟨(a.j g).b,[]⟩) (o:=[]) l A A ?_,A,A⟩;rw[o];simp only[B1];exact AQ.z _ (AQ.z _ (AQ.z _ (AQ.an _ _)))
def j_{m b c a f l o:G M}{g:B}(p:m.length=g)(q:b.length=g)(r:c.length=g)(j:a.length=g)(n:f.length=g)(t:l.length=g):
 Bf (Bf (Bf (m++(b++(c++o))) 0 a) g f) (g+g) l=a++(f++(l++o)):=by
 rw[FN _ _ 0 Y5];simp only[Hn,Bz,BF,j];rw[Mf p,FN _ _ g Y5,C_ j,n];rw[<-FD,Mf j,Mf q,FN _ _ (g+g) Y5,t];rw[Zl,Zl,O0,O0];simp only[j,n,DP,Ad];rw[DP Y,show g+g-g=g by omega,DP Y,show g-g=0 by omega,Hn,B1,LX (l:=a) Y,Bz,LX (l:=f) Y,Bz,show g+g+g-g-g=g by omega,Mf r,BS]
def RA(f:G B)(j:G M)(a:B)(l:73*a+73<=f.length):((f.map W++j).drop (73*a)).take (73*1)=((f.drop (73*a)).take 73).map W:=by
 rw[IB Y5,Eg Y5,<-Hj,<-Hk]
def R9(f:G B)(a:B)(j:73*a+73<=f.length):(((f.drop (73*a)).take 73).map W).length=73:=Y5
def Gy(a:G B):(a.map W).all B'=R:=by simp[W,B']
def GR.c(j:GR)(f l:B)(m:G M):GR:=⟨λa=>if a=f then l else j.a a,λa=>if a=f then m else j.b a⟩
def kR(a:Fs)(p:GR)(j n:B)(l:G B)(q:G M)(t:AE):((AH j).map (E_ a p)).set a.a.length (Q n l.length (l.length+q.length))=(AH j).map (E_ ⟨t,a.a++[l]⟩ (p.c a.a.length n q)):=by
 apply Gj;intro f;rw[EV];simp only[D_,BW,Dj];by_cases o:f<j
 ·rw[Mg o];by_cases m:a.a.length=f
  ·subst m;simp[o,E_,GR.c]
  ·rw[A1 m];simp only[Ld,E_,GR.c];by_cases r:f<a.a.length
   ·rw[Di r,A1 Y,A1 Y]
   ·rw[Dm Y,Dm Y5]
 ·rw[Dm Y5];simp;omega
def AA2(f:G (G B))(j:GR)(l:B)(n:G B)(o:G M):((AH (f++[n]).length).map λa=>AJ ((j.c f.length l o).a a) ((f++[n]).getD a []) ((j.c f.length l o).b a))=((AH f.length).map λa=>AJ (j.a a) (f.getD a []) (j.b a))++[AJ l n o]:=by
 rw[Ad,JZ,DO,CU];congr 1
 ·refine It λa m=>?_;have m:=Ce.1 m;simp only[GR.c,A1 (show¬a=f.length by omega)];congr 1;simp only[AY];rw[Di m]
 ·simp[GR.c]
def lA(a:Fs)(l:GR)(f:B)(j:a.a.length<f):((AH f).map (E_ a l))[a.a.length]?=C (O E 0 0):=by
 simp[E_,j]
def T8:((U 219 255).map W).length=219:=by rw[BW,BI]
def AFb{P:Prop}(h:P:=by simp only[Cb,List.length_set,List.length_map,List.length_range];omega):P:=h
def l8(n f:B)(a:Bl)(j:G B)(t:B)(o:G M)(S:a.ab)(a2:f<70)(a3:a.x=I)(a5:a.u=0\/10<=a.u)(a0:(a.j f).a.length<a.y f)(af:j.length=219):
 Ay 607 [P n,N f,N (a.j f).a.length,Q t 219 (219+o.length)] [.u (CB n a),AJ t j o] (N 0) [.u (CB n {a.af f ⟨(a.j f).b,(a.j f).a++[j]⟩ with u:=C' (C' (C' a.u)),w:=a.w+1+1+1,aa:=a.aa+1}),AJ t j o]:=by
 have a1:=S.nA;have ak:f<a.s.length:=Y;have a6:=S.nE;have a7:=S.nC;have a8:=S.nD;have ap:0<=C' a.u/\C' a.u≠1/\C' a.u<=9000000000000000000:=by unfold C';split<;>omega
 have aj:0<=C' (C' a.u)/\C' (C' a.u)≠1/\C' (C' a.u)<=9000000000000000000:=by unfold C';split<;>split<;>omega
 have y:(a.j f).a.length<a.t:=by have:a.y f<=a.t:=by unfold Bl.y;split<;>omega
                                 omega
 refine Bl.az ak λm z=>A9.aa ?_;have p:=a.aq m.a ak;simp only[Bl.ah,Fs.c,DU,Bz];have a4:=lA (a.j f) z a.t y;have a9:(((a.j f).a.length:F)!=((a.j f).a.length:F))=I:=Y1;refine A9.y ?_;refine A9.ab (N6 n f a a1 a2 m.b _ _) (A9.ab (SG p n (a.j f).a.length a Y a0 m.b _ _ _) ?_);refine L ?_;refine F'.mk 219 A (L ?_);refine A9.ab (Rs p n a a3 m.b _ _ _) (L ?_);refine Ms.t (d:=2) p A Y A (L ?_);refine Ms.t (d:=1) p A Y A (L ?_);refine A9.z (Xi p n (a.j f).a.length (m.a f) a.x a.u a.w _ _ _ _ y a4 m.b _ _ _ _) ?_;rintro v ag ⟨q,l,rfl,rfl⟩;refine L ?_;obtain⟨am,ah⟩:∃x,C' a.u=x:=⟨_,A⟩;obtain⟨an,ai⟩:∃x,C' am=x:=⟨_,A⟩;obtain⟨aq,ao⟩:∃x,C' an=x:=⟨_,A⟩;rw[ah] at ap aj;rw[ai] at aj;have az:0<=a.u/\a.u≠1/\a.u<=9000000000000000000:=Y;refine EY.b (L ?_);refine A9.u (Nr n _ a.x a.u a.w _ az Y) (λv ag r=>?_);rw[ah] at r;obtain⟨rfl,rfl⟩:=r;refine L ?_;refine F'.mk 0 A (Qp.mk 0 219 (219+l.length) 0 A A A Y A (by split<;>omega) (F'.mk 0 A (F'.mk 1 A (F'.mk 73 A (Qp.mk 0 73 (219+o.length) 0 A A A Y A (by split<;>omega) (Cr.aa (n:=_) A A A A A A 73 Z _ (RA j o 0 Y) ⟨?_,?_⟩ (Gy _) ?_))))))
 ·rw[Ad,BW,af];show 0+73*1<=_;omega
 ·rw[Ad,T8];show 0+73*1<=_;omega
 refine L ?_;refine Ms.t (d:=0) p A Y A (F'.mk (((a.j f).a.length+1:B):F) Y4 ?_);refine Qh.mk (a.j f).a.length A y (Mw.mk ⟨A,AFb⟩ ?_);refine L ?_;refine Mw.u (d:=1) p A Y A ⟨A,Y⟩ (F'.mk 1 A (EY.i [(0,P n),(1,N f),(2,N (a.j f).a.length),(3,Q t 219 (219+o.length)),(8,N 0),(9,T (C ⟨m.b,f*5,E⟩)),(11,Q q 219 (219+l.length)),(55,N 3),(56,N 1)] ⟨A,A,A,A,A,A,A,A,A,AA⟩ (EY.b (L ?_))));refine A9.u (Nr n _ a.x am (a.w+1) _ ap Y) (λv ag r=>?_);rw[ai] at r;obtain⟨rfl,rfl⟩:=r;refine L ?_;refine F'.mk 73 A (Qp.mk 73 219 (219+l.length) 73 A A A Y A (by split<;>omega) (F'.mk 73 A (F'.mk 2 A (F'.mk 146 A (Qp.mk 73 146 (219+o.length) 73 A A A Y A (by split<;>omega) (Cr.aa (n:=_) A A A A A A 73 Z _ (RA j o 1 Y) ⟨?_,?_⟩ (Gy _) ?_))))))
 ·rw[Ad,BW,af];show 73+73*1<=_;omega
 ·simp only[PT];rw[Ad,T8];show 73+73*1<=_;omega
 refine L ?_;refine Ms.t (d:=0) p A Y A (F'.mk (((a.j f).a.length+1:B):F) Y4 ?_);refine Qh.mk (a.j f).a.length A y (Mw.mk ⟨A,AFb⟩ ?_);refine L ?_;refine Mw.u (d:=1) p A Y A ⟨A,Y⟩ (F'.mk 2 A (EY.i [(0,P n),(1,N f),(2,N (a.j f).a.length),(3,Q t 219 (219+o.length)),(8,N 0),(9,T (C ⟨m.b,f*5,E⟩)),(11,Q q 219 (219+l.length)),(55,N 3),(56,N 2)] ⟨A,A,A,A,A,A,A,A,A,AA⟩ (EY.b (L ?_))));refine A9.u (Nr n _ a.x an (a.w+1+1) _ aj Y) (λv ag r=>?_);rw[ao] at r;obtain⟨rfl,rfl⟩:=r;refine L ?_;refine F'.mk 146 A (Qp.mk 146 219 (219+l.length) 146 A A A Y A (by split<;>omega) (F'.mk 146 A (F'.mk 3 A (F'.mk 219 A (Qp.mk 146 219 (219+o.length) 146 A A A Y A (by split<;>omega) (Cr.aa (n:=_) A A A A A A 73 Z _ (RA j o 2 Y) ⟨?_,?_⟩ (Gy _) ?_))))))
 ·rw[Ad,BW,af];show 146+73*1<=_;omega
 ·simp only[PT];rw[Ad,T8];show 146+73*1<=_;omega
 refine L ?_;refine Ms.t (d:=0) p A Y A (F'.mk (((a.j f).a.length+1:B):F) Y4 ?_);refine Qh.mk (a.j f).a.length A y (Mw.mk ⟨A,AFb⟩ ?_);refine L ?_;refine Mw.u (d:=1) p A Y A ⟨A,Y⟩ (F'.mk 3 A (EY.b (L ?_)));refine My A (a.aa+1) (A3 Y) ?_;have ar:Bf (Bf (Bf (HI W (U 219 255)++l) 0 (HI W (GJ 73 (KM (73*0) j)))) 73 (HI W (GJ 73 (KM (73*1) j)))) 146 (HI W (GJ 73 (KM (73*2) j)))=j.map W++l:=by
  have aw:HI W (U 219 255)++l=HI W (U 73 255)++(HI W (U 73 255)++(HI W (U 73 255)++l)):=by
   rw[<-BS,<-BS,<-CU,<-CU,TV,TV]
  have al:(HI W (U 73 255)).length=73:=by rw[BW,BI]
  rw[aw,j_ (g:=73) al al al (R9 j 0 Y) (R9 j 1 Y) (R9 j 2 Y),<-BS,<-BS,<-CU,<-CU];congr 2;rw[Nat.mul_zero,CJ,B3];have ax:GJ 73 (KM (73*2) j)=KM (73*2) j:=DP Y5;rw[ax,BS];have ay:GJ 73 (KM 73 j)++KM (73*2) j=KM 73 j:=by
   rw[show 73*2=73+73 from A,<-FD,Hm]
  rw[ay,Hm]
 refine⟨_,Bl.av (f:=a) (a:={a.af f ⟨(a.j f).b,(a.j f).a++[j]⟩ with u:=aq,w:=a.w+1+1+1,aa:=a.aa+1}) (m:=m) (n:=z.c (a.j f).a.length q l) (j:=⟨(a.j f).b,(a.j f).a++[j]⟩) (l:=[AJ t j o]) ak A A ?_,A,by rw[ah,ai,ao]⟩;rw[ar,<-kR,af,show Bl.am a f ((a.j f).a++[j]) m (z.c (a.j f).a.length q l)=_ from AB (·++_) (AA2 _ _ _ _ _),BS];have au:Cb (Cb (Cb (HI (E_ (a.j f) z) (AH a.t)) (0+(a.j f).a.length*1) (Q q 219 (219+l.length))) (0+(a.j f).a.length*1) (Q q 219 (219+l.length))) (0+(a.j f).a.length*1) (Q q 219 (219+l.length))=(HI (E_ (a.j f) z) (AH a.t)).set (a.j f).a.length (Q q 219 (219+l.length)):=by
  simp[Cb,Hl]
 rw[au];have av:((a.j f).a.length+1:B)=((a.j f).a++[j]).length:=Y1;rw[av];refine AQ.u (HE _ ?_);exact EE (l₁:=_::_::_::_).symm
def Bl.ag(a:Bl)(f j:B):G B:=(a.j f).a.getD j (U 219 255)
variable{yt:Bl}
def Bl.bd(j:yt.ab)(m:l<70)(a:B):(yt.ag l a).length=219:=by
 unfold Bl.ag;rw[AY];cases f:(yt.j l).a[a]? with
 |none=>simp only[Zz,BI]
 |some n=>exact((j.nB l m).2 n (FW f)).1
def ABr(j:Bl)(o:B)(f:G (G B))(m:Jk)(a:GR)(p:l<f.length):(j.am o f m a).Perm (AJ (a.a l) (f.getD l []) (a.b l)::(((Ff f.length l).map λl=>AJ (a.a l) (f.getD l []) (a.b l))++((Ff j.s.length o).map λn=>.u (Hc (j.j n) (m.a n) j.t)))):=
 (Rq (λl=>AJ (a.a l) (f.getD l []) (a.b l)) p).append_right _
def mT(l f j:B)(a:Bl)(u:a.ab)(y:f<70)(an:a.x=I)(W:j<a.y f):
 Z9 608 [P l,N f,N j] [.u (CB l a)]
  λv ah=>∃o ag,v=AL #[Q o 219 (219+ag.length),N 0]/\ah=[AJ o (a.ag f j) ag,.u (CB l {a with v:=a.v+1})]:=by
 have S:=u.nA;have q:f<a.s.length:=Y;have al:=u.nC;have am:=u.nD
 have x:j<a.t:=by have:a.y f<=a.t:=by unfold Bl.y;split<;>omega
                  omega
 have af:a.s=a.s.set f (a.j f):=by
  apply Gj;intro ao;rw[EV];split
  ·rename_i aj;subst aj;simp[Bl.j,q]
  ·rfl
 refine Bl.az q λm n=>A9.aa ?_;have p:=a.aq m.a q;simp only[Bl.ah,Fs.c,DU,Bz];by_cases r:j<(a.j f).a.length
 ·have Z:((a.j f).a.getD j []).length=219:=by
   rw[AY,Aw r];exact((u.nB f y).2 _ (Gk r)).1
  have t:a.ag f j=(a.j f).a.getD j []:=by
   unfold Bl.ag;rw[AY,AY,Aw r];rfl
  obtain⟨F,aa⟩:∃ak,(a.j f).a.getD j []=ak:=⟨_,A⟩;have z:((AH a.t).map (E_ (a.j f) n))[j]?=C (Q (n.a j) F.length (F.length+(n.b j).length)):=by
   rw[<-aa,AY];simp[x,E_,Aw r]
  have M:=ABr a f (a.j f).a m n r;rw[aa] at Z t M;refine A9.w (AQ.u (((M.cons _).cons _).cons _)) (A9.y ?_);refine A9.ab (N6 l f a S y m.b _ _) (A9.y ?_);refine L ?_;refine A9.ab (SG p l j a Y W m.b _ _ _) (L ?_);refine Ms.t (d:=2) p A Y A (L ?_);refine My A (a.v+1) (A3 Y) (A9.z (mE p l j (m.a f) (n.a j) _ F (n.b j) _ x z Y m.b _ _ _ _) ?_);rintro v ai ⟨o,G,rfl,rfl⟩;rw[Z];refine⟨_,AQ.z _ (Bl.av (f:=a) (a:={a with v:=a.v+1}) (m:=m) (n:=n) (j:=a.j f) (l:=[]) q af A (AQ.u ?_)),o,G,A,by rw[t]⟩;refine Me ?_ (((M.symm.cons _).cons _).cons _);exact(EE (l₁:=[_,_,_])).symm
 ·have t:a.ag f j=U 219 255:=by
   unfold Bl.ag;rw[AY,Dm Y];rfl
  have z:((AH a.t).map (E_ (a.j f) n))[j]?=C (O E 0 0):=by
   simp[x,E_,Dm (show(a.j f).a.length<=j by omega)]
  refine A9.y ?_;refine A9.ab (N6 l f a S y m.b _ _) (A9.y ?_);refine L ?_;refine A9.ab (SG p l j a Y W m.b _ _ _) (L ?_);refine Ms.t (d:=2) p A Y A (L ?_);refine My A (a.v+1) (A3 Y) (A9.z (Xi p l j (m.a f) a.x a.u a.w _ _ _ _ x z m.b _ _ _ _) ?_);rintro v ai ⟨o,G,rfl,rfl⟩;exact⟨_,AQ.z _ (Bl.av (f:=a) (a:={a with v:=a.v+1}) (m:=m) (n:=n) (j:=a.j f) (l:=[]) q af A (AQ.u (Bi _))),o,G,A,by rw[t]⟩
def Bl.ac(a:B):Bl:=⟨a,U 70 ⟨I,[]⟩,I,0,0,0,0,0⟩
def K5:G M:=[O E 0 0,N 0,X I,X I,X I]
def Wk(a f:B):G M:=[Q f a a,N 0,X I,X I,X I]
def Hb(j:B)(f:B×(B->B))(a:B):G M:=if a<f.1 then Wk j (f.2 a) else K5
abbrev jL(f l j:B)(a:B×(B->B)):S:=.t l [X I,N 0,N 0,Q j 70 70,N f,N 3,N 0,N 0,N 0] 74::.t j (DS (Hb f a) a.1 K5 70) 129::(AH a.1).map λm=>.t (a.2 m) (U f (O E 0 0)) 31
def P0(f a:B):(Bl.ac f).j a=⟨I,[]⟩:=by
 unfold Bl.j Bl.ac;rw[AY,HH];split<;>rfl
def Vt(a:B)(f:a=8\/a=16):(Bl.ac a).ab:=by
 refine⟨by simp[Bl.ac],f,by simp[Bl.ac],by simp[Bl.ac],λl j=>?_⟩;rw[P0];simp
def j8(a:B)(S:a=8\/a=16):Z9 80 [N 70,N a,N 3] [] λv G=>∃m,v=AL #[P m,N 0]/\G=[.u (CB m (Bl.ac a))]:=by
 have ag:=Aa ((a:F)<2);have ah:=Aa ((a:F)>256);refine A9.t ?_;refine A7 ?_;refine F'.mk 0 (by rcases S with rfl|rfl<;>rfl) ?_;refine L ?_;refine Cr.t (m:=_) (u:=_) (p:=70) (j:=70) A A A A A A ⟨Z,Z,Z⟩ (DS (Hb a (0,λ_=>0)) 0 K5 70) ?_ (λt=>?_)
 ·refine(ZG K5 Z 70).trans (F4 λf _=>?_);simp[Hb]
 intro m;refine L ?_;refine EY.f (m:=B×(B->B)) (λq=>70-q.1) (λq=>q.1<=70) (λq=>[(1,N a),(7,N 0),(8,P m),(47,N 70),(48,N (q.1:F))]) (jL a m t) (0,λ_=>0) Y ⟨A,A,A,A,A,AA⟩ (.w _) ?_;rintro⟨f,l⟩ af z;refine EY.b (IK.mk (λp=>?_) (λp=>?_))
 ·have p:f<70:=by simp at p;omega
  refine L ?_;refine Cr.t (m:=_) (u:=_) (p:=a) (j:=a) A A A A A A ⟨?_,?_,?_⟩ (U a (O E 0 0)) ?_ (λo=>?_)
  ·omega
  ·show 24*a<=_;omega
  ·omega
  ·exact(AB _ (B3 a)).trans (DM _ _)
  refine A7 ?_;have W:Km (Hb a (f,l)) 5 f 70:=⟨λj=>by unfold Hb;split<;>rfl,p⟩;refine L ?_;refine Mw.aa (d:=0) W A Y A ⟨A,Y⟩ (F'.mk ((f+1:B):F) Y2 (z (f+1,λj=>if j=f then o else l j) (by show f+1<=70;omega) (by show 70-(f+1)<70-f;omega) ⟨A,A,A,A,A,AA⟩ ?_));have r:DS (Hb a (f,l)) f (K5.set 0 (Q o a a)) 70=DS (Hb a (f+1,λj=>if j=f then o else l j)) (f+1) K5 70:=by
   refine F4 λj _=>?_;by_cases n:j=f
   ·subst n;rw[A8 A,A1 Y];simp[Hb,K5,Wk]
   ·rw[A1 n];by_cases u:j=f+1
    ·subst u;rw[A8 A];simp[Hb];intro;omega
    ·rw[A1 u];simp only[Hb];by_cases y:j<f
     ·rw[A8 y,A8 Y,A1 n]
     ·rw[A1 y,A1 Y]
  rw[r];refine AQ.u (Me (EE (l₁:=[_,_])).symm ?_);refine HE _ (HE _ ?_);have M:(AH (f+1)).map (λj=>BL.t (if j=f then o else l j) (U a (O E 0 0)) 31)=(AH f).map (λj=>BL.t (l j) (U a (O E 0 0)) 31)++[.t o (U a (O E 0 0)) 31]:=by
   rw[DO,CU];congr 1
   ·exact It λj n=>by rw[A1 (by have:=Ce.1 n;omega)]
   ·simp
  rw[M];exact Cj (l₁:=[_])
 ·have:f=70:=by simp at p;omega
  subst this;clear z;have x:(Bl.ac a).s.length=70:=by simp[Bl.ac]
  have r:(Bl.ac a).al l=DS (Hb a (70,l)) 70 K5 70:=by
   unfold Bl.al DS;rw[x];refine F4 λj n=>?_;rw[A1 Y,P0];simp only[Hb,A8 n];rfl
  refine⟨_,AQ.t ?_ (AQ.ad (Bl.ae (Bl.ac a) m) ⟨t,l⟩ (c:=[]) (Bi _)),m,A,A⟩;unfold Bl.ae;rw[r,x,B1];refine AQ.z _ (AQ.z _ ?_);have:=AQ.am (l:=λj=>BL.t (l j) (U a (O E 0 0)) 31) (m:=λf=>BL.u (Hc ((Bl.ac a).j f) (l f) a)) (AH 70) (λj _ aa=>?_) []
  ·rw[B1,B1] at this;exact this
  ·rw[P0];refine AQ.ad (LD ⟨I,[]⟩ (l j) a) ⟨λ_=>0,λ_=>[]⟩ (DZ ?_);simp only[LD,FV,List.range_zero,TT,DU,Bz];congr 2
   symm
   rw[AEQ];simp[E_]
def Da(j:Ai CO)(l:G (F×M)):Prop:=j.toList.map (λa=>(a.key,a.val))=l.map λf=>(N f.1,f.2)
def Cu(a:F):G (F×M)->AC M
 |[]=>E
 |f::j=>if a=f.1 then C f.2 else Cu a j
def Vd(l:F):∀(m:G CO)(q:G (F×M))(j:B),m.map (λo=>(o.key,o.val))=q.map (λa=>(D H a.1,a.2))->∃n,OL (JX H) (N l) m j=C n/\n.map (·.2)=Cu l q
 |[],[],j,_=>⟨E,A,A⟩
 |[],a::n,j,f=>by simp at f
 |o::m,[],j,f=>by simp at f
 |o::m,a::n,j,f=>by
  simp only[Ee,Za,F0] at f;obtain⟨⟨r,t⟩,u⟩:=f;unfold OL Cu;rw[r];simp only[aI,FG];by_cases p:l=a.1
  ·have:(l==a.1)=R:=by simp[p]
   rw[this,A8 p];exact⟨_,A,by simp[t]⟩
  ·have:(l==a.1)=I:=by simp[p]
   rw[this,A1 p];exact Vd l m n (j+1) u
variable{yq:EU}{yb:M}{yp:Ai CO}{yi:B}{yx:G (F×M)}
def iE(u:xx.c l=C (KK p np))(f:xx.c p=C (JX H))(t:xx.e np=C yq)(x:yq.zero=C yb)
 (q:xs.heap[xu]?=C (AM yp yi))(o:Da yp yx)(j:AE):
 (Ji l (Ah (C xu)) (N ya) j).run xx.b xs=Ao (if j then AL #[(Cu ya yx).getD yb,X (Cu ya yx).isSome] else(Cu ya yx).getD yb) xs:=by
 obtain⟨z,m,a⟩:=Vd ya yp.toList yx 0 o;have r:(Q5 xu).run xx.b xs=Ao (AM yp yi) xs:=LV xs xu yp yi q;unfold Ji;simp only[Ak,xx.d u,Bp,r,Ex];have n:(IJ yp.isEmpty 10000 p (N ya)).run xx.b xs=Ao () xs:=by
  rw[show(10000:B)=9999+1 from A,IJ,Ak,xx.d f];rfl
 rw[n];simp only[Bp,Tp,Ak,xx.d f,m,Ex];cases z with
 |none=>
  simp only[AFB] at a;simp[KL,xx.t t,x,<-a]
 |some y=>
  obtain⟨L,b⟩:=y;simp only[Ld] at a;simp[<-a]
variable{yc:AP}{yr:M->CQ->Prop}{yo yu:Cf}{za:AE}
def E7.b{o:Al}(u:o.op=.lookup l yo yu za)(z:xx.c l=C (KK p np))(t:xx.c p=C (JX H))(r:xx.e np=C yq)(W:yq.zero=C yb)
 (L:CR yc yo=C (Ah (C xu)))(U:CR yc yu=C (N ya))[n:Cz lg xu (AM yp yi)](m:Da yp yx)
 (j:yr (if za then AL #[(Cu ya yx).getD yb,X (Cu ya yx).isSome] else(Cu ya yx).getD yb) (.y λa=>Cz a xu (AM yp yi))):E7 xx o yc lg yr:=by
 refine⟨_,_,j,n,λaa Z Y ag af a f y x=>?_⟩;unfold Bh;rw[u];simp only[f.b L,f.b U];have q:Cz a xu (AM yp yi):=x;rw[Ak,iE z t r W (BA.i (p:=q) y) m za];rfl
structure AX where
 a:Bl
 c:F
abbrev AX.b(l a:B)(f:AX)(j:B):S:=[.t l [Cd 53 (P a),P a,N 192,Ah (C j),N f.c] 277,.o j (AM #[] 0),.u (CB a f.a)]
def PJ(l j m f:B)(a:AX)(n:a.a.ab)(p:f<70):AK 246 [P l,N f] (a.b l j m) (X R):=by
 have q:Ac ((f:F)≥0)=R:=Y1;have o:=B7 ((f:F)<70);refine A9.t ?_;refine L ?_;refine A9.b (LJ j a.a n) (L ?_);exact⟨_,AQ.b (g:=a.b l j m),by rw[<-o];rfl,A⟩
def Rx(l j m f:B)(a:AX)(n:a.a.ab)(p:f<70):AK 360 [P l,N f] (a.b l j m) (N (a.a.y f:B)):=by
 have r:=n.nD;refine A9.t ?_;refine L ?_;refine A9.b (LJ j a.a n) ?_;refine L ?_;refine A9.u (Wm j f a.a n p) ?_;rintro v q ⟨rfl,rfl⟩;refine IK.mk (λo=>?_) (λo=>?_)
 ·refine A' ?_;exact F'.mk ((a.a.y f:B):F) (by rw[Z_ Y,A3 Y,Bl.y,o];simp) ⟨_,AQ.b (g:=a.b l j m),A,A⟩
 ·have:a.a.t=a.a.y f:=by rw[Bl.y,o];rfl
  refine⟨_,AQ.b (g:=a.b l j m),?_,A⟩;rw[<-this];rfl
def Ry(l j n f:B)(a:AX)(m:a.a.ab)(o:f<70):AK 358 [P l,N f] (a.b l j n) (N ((a.a.y f-(a.a.j f).a.length:B):F)):=by
 have q:=m.nD;have r:=(m.nB f o).1;have p:a.a.y f<=a.a.t:=by unfold Bl.y;split<;>omega
 have t:Ac (((a.a.j f).a.length:F)<0)=I:=Y1;refine A9.t ?_;refine L ?_;refine A9.b (PK j f a.a m o) ?_;refine L ?_;refine E7.b (yq:=_) (yb:=_) (yp:=#[]) (yi:=0) (yx:=[]) A A A A A A A A (L ?_);refine A9.b (Rx l j n f a m o) (A7 ?_);exact⟨_,AQ.b (g:=a.b l j n),A,A⟩
def Bl.bh(m:yt.ab)(o:l<70)(f:B):∀a∈yt.ag l f,a<256:=by
 unfold Bl.ag;rw[AY];cases j:(yt.j l).a[f]? with
 |none=>intro a n;simp only[Zz,FX] at n;omega
 |some p=>exact((m.nB l o).2 p (FW j)).2
def Wb(m l q f j:B)(a:AX)(n:a.a.ab)(p:f<70)(af:j<a.a.y f)(aa:a.a.x=I)(aj:0<=a.c/\a.c<=1000000000000000)(ah:K7 (a.a.ag f j)=2)(o:G B)(r:B)(y:Fi (a.a.ag f j) 3=C (o,r)):
 Z9 282 [P m,N f,N j] (a.b m l q) λv W=>∃u S,v=AL #[Q u 192 (192+S.length),N 0]/\W=AJ u (o.take 192) S::AX.b m l ⟨{a.a with v:=a.a.v+1},a.c+r⟩ q:=by
 have z:=Bl.bd n p j;have ag:=Bl.bh n p j;have ai:=(Pg z Y y).2.1;have ak:Ac ((j:F)<0)=I:=Y1;have al:=Aa ((j:F)≥(a.a.y f:B));have am:Ac (((a.a.j f).a.length:F)<0)=I:=Y1;refine A9.t ?_;refine A9.b (PJ m l q f a n p) (L ?_);refine A9.b (Rx m l q f a n p) (L ?_);refine A9.b (IV l a.a) ?_;refine L ?_;refine A9.u (PK l f a.a n p) ?_;rintro v t ⟨rfl,rfl⟩;refine L ?_;refine A9.u (mT l f j a.a n p aa af) ?_;rintro v t ⟨Z,U,rfl,rfl⟩;refine L ?_;refine A9.u (l5 Z (219+U.length) (a.a.ag f j) U z Y ag ah o r y) ?_;rintro v t ⟨x,M,rfl,rfl⟩;refine L ?_;refine My A (a.c+r) (A3 Y) (L ?_);exact⟨_,AQ.b (g:=AJ x (o.take 192) M::AX.b m l ⟨{a.a with v:=a.a.v+1},a.c+r⟩ q),x,M,A,A⟩
def Bl.ad(a:Bl)(f:B)(j:AE):Bl:={a.af f ⟨j,[]⟩ with u:=C' (C' a.u),w:=a.w+1+1,z:=a.z+1}
def Bl.ao{a m:B}(f:a<yt.s.length):(yt.ad a za).j m=if m=a then⟨za,[]⟩ else yt.j m:=Bl.an yt _ f
def N1(a:0<=ya/\ya<=9000000000000000000):0<=C' ya/\C' ya<=9000000000000000000:=by unfold C';split<;>omega
def Bl.ay(a:yt.ab)(u:l<70)(j:AE)(t:yt.w+2<=1000000000000000/\yt.z+1<=1000000000000000):(yt.ad l j).ab:=by
 have p:=a.nA;have r:=a.nC;have o:=N1 (N1 a.nE);refine⟨by simp[Bl.ad,Bl.af,p],a.nD,o,?_,λm q=>?_⟩
 ·show(0<=yt.w+1+1/\yt.w+1+1<=1000000000000000)/\(0<=yt.aa/\yt.aa<=1000000000000000)/\(0<=yt.v/\yt.v<=1000000000000000)/\(0<=yt.z+1/\yt.z+1<=1000000000000000);omega
 ·have f:(yt.ad l j).j m=if m=l then⟨j,[]⟩ else yt.j m:=Bl.ao Y
  by_cases n:m=l
  ·rw[A8 n] at f;rw[f];simp
  ·rw[A1 n] at f;have:=a.nB m q;unfold Bl.y at this⊢;rw[f];exact this
def Bl.bg(f:Bl)(a:B)(j b:AE)(l:a<f.s.length):(f.ad a j).af a ⟨b,((f.ad a j).j a).a⟩=f.ad a b:=by
 have:((f.ad a j).j a).a=[]:=by rw[Bl.ao l,A8 A]
 rw[this];simp[Bl.ad,Bl.af,Hl]
def iX(a l j m:B)(f:AX):AK 247 [P a,N m,N 0] (f.b a l j) (N 0):=by
 refine A9.y ?_;refine L ?_;exact⟨A,A⟩
def iV(l j m f:B)(n:AE)(a:AX)(o:a.a.ab)(p:f<70)(r:a.a.x=I)(u:a.a.u=0\/10<=a.a.u)(x:a.a.w+2<=1000000000000000/\a.a.z+1<=1000000000000000):
 Ay 163 [P l,N f,X n] (a.b l j m) (N 0) (AX.b l j ⟨a.a.ad f n,a.c⟩ m):=by
 have y:=o.nA;refine A9.t ?_;refine A9.b (PJ l j m f a o p) ?_;refine L ?_;refine E7.b (yq:=_) (yb:=_) (yp:=#[]) (yi:=0) (yx:=[]) A A A A A A A A (L ?_);refine A9.b (IV j a.a) ?_;refine L ?_;refine A9.u (eZ j f a.a o p r u) ?_;rintro v t ⟨rfl,rfl⟩;refine L ?_;have q:=i_ j f (a.a.ad f (a.a.j f).b) n (Bl.ay o p _ x) p r (by rw[Bl.ao Y,A8 A]);rw[Bl.bg _ _ _ _ Y] at q;refine A9.b q ?_;refine A9.u (iX l j m f ⟨a.a.ad f n,a.c⟩) ?_;rintro v t ⟨rfl,rfl⟩;exact⟨_,AQ.b (g:=AX.b l j ⟨a.a.ad f n,a.c⟩ m),A,A⟩
def E7.f{o:Al}{n j l a r m p:B}(af:o.op=ON n j yo)(ah:xx.c n=C (FC l))(z:xx.c l=C (JX BQ))(y:xx.c j=C .string)
 (ai:CR yc yo=C (O (C ⟨a,r,E⟩) m p))[L:Bo lg a er xt](aa:q.length=m)(Z:(er.drop r).take m=q.map W)(u:∀t∈q,t<256)(x:yr (In (DF q)) (.y λf=>Bo f a er xt)):E7 xx o yc lg yr:=by
 refine⟨_,_,x,L,λal ak aj an am f F Y ag=>?_⟩;unfold Bh;rw[af];simp only[F.b ai];have U:Bo f a er xt:=ag;rw[Ak,YC (Up (BA.h (p:=U) Y) aa Z u) n l j (xx.f ah) (xx.f z) (xx.f y) p];rfl
variable{yj:G M}
def eW{l r f y m t j z:B}{u x:AU}[F:Bo lg l er u][L:Bo lg m yj x](Y:q.length=f)(N:(er.drop r).take f=q.map W)(n:∀a∈q,a<256)(Z:yd.length=j)(U:(yj.drop t).take j=yd.map W)(o:∀a∈yd,a<256)(p:xv (X (q==yd)) lg):
 Z9 401 [O (C ⟨l,r,E⟩) f y,O (C ⟨m,t,E⟩) j z] lg xv:=by
 rw[<-YV n o] at p;exact A9.af A (E7.f A A A A A (L:=F) Y N n (E7.f A A A A A (L:=L) Z U o p))
def Bl.ai(a:Bl)(f:B)(j:G B):Bl:={a.af f ⟨(a.j f).b,(a.j f).a++[j]⟩ with u:=C' (C' (C' a.u)),w:=a.w+1+1+1,aa:=a.aa+1}
def Bl.ap{a m:B}(f:a<yt.s.length):(yt.ai a q).j m=if m=a then⟨(yt.j a).b,(yt.j a).a++[q]⟩ else yt.j m:=Bl.an yt _ f
def Bl.ba{a m:B}(j:a<yt.s.length):(yt.ai a q).y m=yt.y m:=by
 unfold Bl.y;rw[Bl.ap j];by_cases f:m=a
 ·subst f;rw[A8 A];rfl
 ·rw[A1 f];rfl
def Bl.bb(a:yt.ab)(N:l<70)(x:q.length=219/\∀o∈q,o<256)(L:(yt.j l).a.length<yt.y l)(M:yt.w+3<=1000000000000000/\yt.aa+1<=1000000000000000):(yt.ai l q).ab:=by
 have t:=a.nA;have F:=a.nC;have r:=N1 (N1 (N1 a.nE));refine⟨by simp[Bl.ai,Bl.af,t],a.nD,r,?_,λm u=>?_⟩
 ·show(0<=yt.w+1+1+1/\yt.w+1+1+1<=1000000000000000)/\(0<=yt.aa+1/\yt.aa+1<=1000000000000000)/\(0<=yt.v/\yt.v<=1000000000000000)/\(0<=yt.z/\yt.z<=1000000000000000);omega
 ·have p:(yt.ai l q).j m=if m=l then⟨(yt.j l).b,(yt.j l).a++[q]⟩ else yt.j m:=Bl.ap Y
  rw[Bl.ba Y,p];have n:=a.nB m u;by_cases j:m=l
  ·subst j;rw[A8 A];refine⟨Y5,λz y=>?_⟩;rcases Bs.1 y with f|f
   ·exact n.2 z f
   ·rw[CZ] at f;subst f;exact x
  ·rw[A1 j];exact n
def Bl.bc(a:l<yt.s.length):(yt.ai l q).ag l (yt.j l).a.length=q:=by
 unfold Bl.ag;rw[Bl.ap a,A8 A];simp[AY]
def Y0{P:Prop}(h:P:=by repeat constructor):P:=h
def j5(t n u j x ai aa:B)(z:G M)(L:AU)(f:G B)(a:AX)(q:a.a.ab)(y:j<70)(m:a.a.x=I)(ay:a.a.u=0\/20<=a.a.u)(ag:(a.a.j j).a.length<a.a.y j)(an:a.a.w+3<=1000000000000000/\a.a.aa+1<=1000000000000000)(ap:0<=a.c/\a.c<=1000000000000000)
 (S:f.length=192)(aj:(z.drop ai).take 192=f.map W)(af:∀Z∈f,Z<256)(ao:192<=aa)(au:∀Z∈CD (Dp f) 3,Z<256)(aw:K7 (CD (Dp f) 3)=2)(o:G B)(U:B)(av:Fi (CD (Dp f) 3) 3=C (o,U))(ar:o.take 192=f):
 Ay 323 [P t,N j,O (C ⟨x,ai,E⟩) 192 aa] (.t x z L::a.b t n u) (AL #[N (a.a.j j).a.length,N 0]) (.t x z L::AX.b t n ⟨{a.a.ai j (CD (Dp f) 3) with v:=a.a.v+1},a.c+U⟩ u):=by
 have a0:=q.nA;have ah:j<a.a.s.length:=Y;have ak:(CD (Dp f) 3).length=219:=by
  have:=MA (f:=Dp f) (SF Y) 3 Y;omega
 have p:(((a.a.y j-(a.a.j j).a.length:B):F)==0)=I:=Y5;have aq:=Bl.bb q y ⟨ak,au⟩ ag an;have az:=q.nE;refine A9.aa (A9.af A (A9.ad (PJ t n u j a q y) Y0 (λv r l=>?_)));obtain⟨rfl,rfl⟩:=l;repeat first|refine IK.y ?_|refine IK.aa ?_|refine IK.t p ?_|refine IK.t m ?_|(apply Ms.mk;focus rfl)|refine Mt.mk (aY.mk A) ?_
 refine E7.b (yq:=_) (yb:=_) (yp:=#[]) (yi:=0) (yx:=[]) A A A A A A A A ?_;repeat first|refine IK.y ?_|refine IK.aa ?_|refine IK.t p ?_|refine IK.t m ?_|(apply Ms.mk;focus rfl)|refine Mt.mk (aY.mk A) ?_
 refine A9.ad (Ry t n u j a q y) Y0 (λv r l=>?_);obtain⟨rfl,rfl⟩:=l;repeat first|refine IK.y ?_|refine IK.aa ?_|refine IK.t p ?_|refine IK.t m ?_|(apply Ms.mk;focus rfl)|refine Mt.mk (aY.mk A) ?_
 refine A9.ad (IV n a.a) Y0 (λv r l=>?_);obtain⟨rfl,rfl⟩:=l;repeat first|refine IK.y ?_|refine IK.aa ?_|refine IK.t p ?_|refine IK.t m ?_|(apply Ms.mk;focus rfl)|refine Mt.mk (aY.mk A) ?_
 refine A9.ad (LJ n a.a q) Y0 (λv r l=>?_);obtain⟨rfl,rfl⟩:=l;repeat first|refine IK.y ?_|refine IK.aa ?_|refine IK.t p ?_|refine IK.t m ?_|(apply Ms.mk;focus rfl)|refine Mt.mk (aY.mk A) ?_
 refine A9.ad (kY x ai aa z L f S aj af ao) Y0 (λv r l=>?_);obtain⟨am,ax,rfl,rfl⟩:=l;repeat first|refine IK.y ?_|refine IK.aa ?_|refine IK.t p ?_|refine IK.t m ?_|(apply Ms.mk;focus rfl)|refine Mt.mk (aY.mk A) ?_
 refine A9.ad (PK n j a.a q y) Y0 (λv r l=>?_);obtain⟨rfl,rfl⟩:=l;repeat first|refine IK.y ?_|refine IK.aa ?_|refine IK.t p ?_|refine IK.t m ?_|(apply Ms.mk;focus rfl)|refine Mt.mk (aY.mk A) ?_
 refine A9.ad (l8 n j a.a (CD (Dp f) 3) am ax q y m Y ag ak) Y0 (λv r l=>?_);obtain⟨rfl,rfl⟩:=l;repeat first|refine IK.y ?_|refine IK.aa ?_|refine IK.t p ?_|refine IK.t m ?_|(apply Ms.mk;focus rfl)|refine Mt.mk (aY.mk A) ?_
 refine A9.ad (Wb t n u j (a.a.j j).a.length ⟨a.a.ai j (CD (Dp f) 3),a.c⟩ aq y (by rw[Bl.ba ah];exact ag) m ap (by rw[Bl.bc ah];exact aw) o U (by rw[Bl.bc ah];exact av)) Y0 (λv r l=>?_);obtain⟨al,a1,rfl,rfl⟩:=l;rw[ar];repeat first|refine IK.y ?_|refine IK.aa ?_|refine IK.t p ?_|refine IK.t m ?_|(apply Ms.mk;focus rfl)|refine Mt.mk (aY.mk A) ?_
 refine eW (l:=al) (m:=x) (q:=f) (yd:=f) S (by rw[CJ];exact C_ (by simp[S])) af S aj af ?_;rw[show(f==f)=R from beq_self_eq_true f];repeat first|refine IK.y ?_|refine IK.aa ?_|refine IK.t p ?_|refine IK.t m ?_|(apply Ms.mk;focus rfl)|refine Mt.mk (aY.mk A) ?_
 exact⟨_,AQ.ab (a:=.t x z L::AX.b t n ⟨{a.a.ai j (CD (Dp f) 3) with v:=a.a.v+1},a.c+U⟩ u) Y0,A,A⟩
section
open Go.ChangeMaps (setBlock)
class GO(a:S)(j:B)(l:Gm EF)(f:Gm S):Prop where
 b:a.Perm (.o j l::f)
instance GO.s{g:B}{x:EF}{a:S}:GO (.o g x::a) g x a:=⟨Bi _⟩
instance(priority:=low) GO.t{a:BL}{g:B}{x:EF}{f c:S}[j:GO f g x c]:GO (a::f) g x (a::c):=⟨(j.b.cons a).trans (D3 _ _ _)⟩
section
variable{x:BL}{d c a:S}{g:B}{e:EF}
instance GO.f[f:GO (x::(d++c)) g e a]:GO ((x::d)++c) g e a:=f
instance GO.h[f:GO c g e a]:GO ([]++c) g e a:=f
instance GO.i[f:GO (x::Hh d c) g e a]:GO (Hh (x::d) c) g e a:=f
instance GO.j[f:GO c g e a]:GO (Hh [] c) g e a:=f
end
theorem GO.put{a c:S}{g:B}{x:EF}(j:GO a g x c)(f:EF):OX a g x f (.o g f::c):=⟨c,j.b,Bi _⟩
structure El(a:Ai CO)(j:B):Prop where
 h:(a.toList.map (·.born)).Nodup
 f:∀l∈a.toList,l.born<j
def El.b{a:B}:El #[] a:=⟨Y1,Y1⟩
def DC(l:G (F×M))(a:F)(v:M):G (F×M):=
 match l with
 |[]=>[(a,v)]
 |f::j=>if a=f.1 then(a,v)::j else f::DC j a v
def S6{j m:Type}(f:j->m):∀{d:G j},(d.map f).Nodup->d.Nodup
 |[],_=>by simp
 |x::d,a=>by
  simp only[Ee,O6] at a⊢;exact⟨λl=>a.1 (CI.2 ⟨x,l,A⟩),S6 f a.2⟩
def M9(l:G (F×M))(j f:F)(v:M):Cu f (DC l j v)=if f=j then C v else Cu f l:=by
 induction l with
 |nil=>simp only[DC,Cu]
 |cons n p o=>
  unfold DC;by_cases m:j=n.1
  ·rw[A8 m];simp only[Cu];by_cases a:f=j
   ·rw[A8 a,A8 a]
   ·rw[A1 a,A1 a,A1 Y]
  ·rw[A1 m];simp only[Cu];by_cases a:f=n.1
   ·rw[A8 a,A8 a,A1 Y]
   ·rw[A1 a,A1 a,o]
def Ve(a:F)(v:M):∀(l:G CO)(q:G (F×M))(f:B),l.map (λj=>(j.key,j.val))=q.map (λn=>(D H n.1,n.2))->
 (OL (JX H) (N a) l f=C E/\DC q a v=q++[(a,v)])\/
 ∃m t j,OL (JX H) (N a) l f=C (C (f+m,t))/\l[m]?=C j/\j.key=N a/\DC q a v=q.set m (a,v)
 |[],[],f,_=>AT ⟨A,A⟩
 |[],n::x,f,o=>by simp at o
 |j::l,[],f,o=>by simp at o
 |j::l,n::x,f,o=>by
  simp only[Ee,Za,F0] at o;obtain⟨⟨u,U⟩,S⟩:=o;unfold OL DC;rw[u];simp only[aI,FG];by_cases p:a=n.1
  ·have:(a==n.1)=R:=by simp[p]
   rw[this,A8 p];exact Ae ⟨0,j.val,j,A,A,by rw[u,p],A⟩
  ·have:(a==n.1)=I:=by simp[p]
   rw[this,A1 p];rcases Ve a v l x (f+1) S with⟨r,b⟩|⟨m,t,L,r,b,y,z⟩
   ·exact AT ⟨r,by rw[b];rfl⟩
   ·exact Ae ⟨m+1,t,L,by rw[show f+(m+1)=f+1+m by omega];exact r,by simpa using b,y,by rw[z];rfl⟩
def Cr.ae{n:Am}{e:Al}{o:AP}{am c:S}{al:M->S->Prop}{W aj a9 g:B}{x a4 a5:Cf}{a:Ai CO}{l:B}{ak:G (F×M)}{f:F}{v:M}(ay:e.op=.mapUpdate W x a4 a5)(a0:n.c W=C (KK aj a9))(ag:n.c aj=C (JX H))
 (a1:CR o x=C (Ah (C g)))(a2:CR o a4=C (N f))(a3:CR o a5=C v)[af:GO am g (AM a l) c](aa:Da a ak)(z:El a l)
 (ap:∀Y an,Da Y (DC ak f v)->El Y an->al Cw (.o g (AM Y an)::c)):Cr n e o am al:=by
 refine⟨λbm a6 bl bo j y ai bj bk aw=>?_⟩;have ah:j.heap[g]?=C (AM a l):=OX.b (af.put (AM a l)) ai;have av:(Q5 g).run n.b j=Ao (AM a l) j:=LV j g a l ah;have az:∀q:EF,(setObj g q).run n.b j=Ao () (FZ j g q):=λq=>by simp[setObj,Sem.run,ah,FZ]
 have L:∀q:EF,j.grownBy (FZ j g q) (C g)/\(FZ j g q).heap[g]?=C q:=λq=>by
  have bi:=(FY.1 ah).1;exact⟨⟨A,A,A,by simp[FZ],λU _ bg=>by simp only[FZ];rw[OI (λr=>bg (by rw[r]))]⟩,by simp[FZ,bi]⟩
 have ar:∀b,(IJ b 10000 aj (N f)).run n.b j=Ao () j:=λb=>by
  rw[show(10000:B)=9999+1 from A,IJ,Ak,n.d ag];rfl
 rcases Ve f v a.toList ak 0 aa with⟨Z,u⟩|⟨m,bn,ao,Z,u,ba,bb⟩
 ·refine T6 (g:=FZ j g (AM (a.push ⟨N f,v,l⟩) (l+1))) ?_ (aw _ _ _ (ap (a.push ⟨N f,v,l⟩) (l+1) ?_ ?_) (BA.x (l:=af.put _) ai (L _).1 (L _).2))
  ·unfold Bh;rw[ay];simp only[y.b a1,y.b a2,y.b a3];rw[Ak];have:(Lk W (Ah (C g)) (N f) v).run n.b j=Ao () (FZ j g (AM (a.push ⟨N f,v,l⟩) (l+1))):=by
    unfold Lk;simp only[Ak,n.d a0,Bp,av,ar,Tp,n.d ag,Z,Ex,az]
   rw[this];rfl
  ·show(a.push _).toList.map _=_;rw[u,QT,CU,CU,aa];rfl
  ·refine⟨?_,?_⟩
   ·rw[QT,CU,ID];refine⟨z.h,Y1,λa6 be b bf=>?_⟩;simp only[Ee,TT,CZ] at bf;obtain⟨t,p,rfl⟩:=CI.1 be;have:=z.f t p;omega
   ·intro t p;rw[QT,Bs,CZ] at p;rcases p with p|rfl
    ·have:=z.f t p;omega
    ·exact QI _
 ·have ax:m<a.size:=by have:=(Cx.1 u).1;simpa using this
  have a7:a[0+m]?=C ao:=by rw[BF,<-QR];exact u
  have au:(a.modify (0+m) λo=>{o with key:=N f,val:=v}).toList=a.toList.set m {ao with key:=N f,val:=v}:=by
   apply Gj;intro U;rw[QR,Array.getElem?_modify,EV,BF];by_cases r:m=U
   ·subst r;rw[A8 A,A8 A,A8 (by simpa using ax),<-QR,u];rfl
   ·rw[A1 r,A1 r,QR]
  refine T6 (g:=FZ j g (AM (a.modify (0+m) λo=>{o with key:=N f,val:=v}) l)) ?_ (aw _ _ _ (ap (a.modify (0+m) λo=>{o with key:=N f,val:=v}) l ?_ ?_) (BA.x (l:=af.put _) ai (L _).1 (L _).2))
  ·unfold Bh;rw[ay];simp only[y.b a1,y.b a2,y.b a3];rw[Ak];have:(Lk W (Ah (C g)) (N f) v).run n.b j=Ao () (FZ j g (AM (a.modify (0+m) λo=>{o with key:=N f,val:=v}) l)):=by
    unfold Lk;simp only[Ak,n.d a0,Bp,av,ar,Tp,n.d ag,Z,Ex,a7,Ld,IG,ba];have bh:(aG (N f) (N f)).run n.b j=Ao (N f) j:=by
     unfold aG;have:aH 10000 (N f) (N f)=R:=by rw[show(10000:B)=9999+1 from A,aH];simp
     rw[this];rfl
    rw[bh];simp only[Bp,az]
   rw[this];rfl
  ·show(a.modify _ _).toList.map _=_;rw[bb,au,J_,aa,J_]
  ·have aq:(a.modify (0+m) λo=>{o with key:=N f,val:=v}).toList.map (·.born)=a.toList.map (·.born):=by
    rw[au,J_];apply Gj;intro U;rw[EV];by_cases r:m=U
    ·subst r;rw[A8 A];rw[D_,u];simp[ax]
    ·rw[A1 r]
   refine⟨by rw[aq];exact z.h,λt p=>?_⟩;have:t.born∈a.toList.map (·.born):=by rw[<-aq];exact CI.2 ⟨t,p,A⟩
   obtain⟨a8,bc,bd⟩:=CI.1 this;rw[<-bd];exact z.f a8 bc
def E7.s{m:Am}{e:Al}{q:AP}{p:S}{o:M->CQ->Prop}{j:GL}{r ah u g:B}{f:Ai CO}{l:B}(Y:e.op=FH j)(F:j.callee=Ei .len)(ag:j.argTypes=#[r])(af:m.c r=C (KK ah u))(z:DK q j.args.toList=C [Ah (C g)])[L:Cz p g (AM f l)]
 (x:o (N f.size) (.y λa=>Cz a g (AM f l))):E7 m e q p o:=by
 refine⟨_,_,x,L,λaj t ai ak n a G aa Z=>?_⟩;have U:Cz a g (AM f l):=Z;have W:(Q5 g).run m.b n=Ao (AM f l) n:=LV n g f l (BA.i (p:=U) aa);have y:j.args.map t.eval=#[Ah (C g)]:=by apply G4;simpa using G.c z
 unfold Bh;rw[Y];simp only[LU,F,pure_bind,LR,y,GG,ag];simp only[AFH,LY,GI,Ak,m.d af,Bp,W,Ex,goInt]
def Cr.an{j:Am}{e:Al}{o:AP}{l:S}{n:M->S->Prop}{r W t g:B}{x:Cf}{m:Ai CO}{a:B}(L:e.op=.range r x)(N:j.c r=C (KK W t))(U:CR o x=C (Ah (C g)))[z:Cz l g (AM m a)]
 (u:∀q,n (P q) (.o q (Cy (C g) a #[] a)::l)):Cr j e o l n:=by
 refine⟨λag af aa ah f y p Y Z G=>?_⟩;have F:(Q5 g).run j.b f=Ao (AM m a) f:=LV f g m a (BA.i (p:=z) p);refine HB (g:=f.alloc (Cy (C g) a #[] a)) (v:=P f.heap.size) ?_ (G _ _ _ (u f.heap.size) (p.v _));unfold Bh;rw[L];simp only[y.b U];rw[Ak,Ll];simp only[Ak,j.d N,Bp,F,Ex];rfl
structure Mv(l:Ai CO)(a:G CO)(seen:Ai B):Prop where
 f:seen.toList=a.map (·.born)
 i:∀j∈a,j∈l.toList
 b:(a.map (·.born)).Nodup
def Mv.h(a:Ai CO):Mv a [] #[]:=⟨A,Y1,Y1⟩
def Cr.aj{L:Am}{e:Al}{ai:AP}{t c:S}{U:M->S->Prop}{g r a:B}{x:Cf}{f:Ai CO}{seen:Ai B}(a5:e.op=.next x I)(ba:CR ai x=C (P r))[a3:Cz t g (AM f a)][ar:GO t r (Cy (C g) a seen a) c](Y:El f a)(o:G CO)(n:Mv f o seen)
 (N:o.Perm f.toList->U (AL #[X I]) t)(W:∀l∈f.toList,l∉o->Mv f (o++[l]) (seen.push l.born)->U (AL #[X R,l.key,l.val]) (.o r (Cy (C g) a (seen.push l.born) a)::c)):Cr L e ai t U:=by
 refine⟨λbk ah ax bg F a2 u bh bi an=>?_⟩;have a6:F.heap[g]?=C (AM f a):=BA.i (p:=a3) u;have ap:F.heap[r]?=C (Cy (C g) a seen a):=OX.b (ar.put (Cy (C g) a seen a)) u;have av:∀v ag,(Jj (P r) I e.type).run L.b F=Ao v ag->(Bh ah.eval e).run L.b F=Ao (Kf v) ag:=λv ag m=>by
  unfold Bh;rw[a5];simp only[a2.b ba];rw[Ak,m];rfl
 have bd:∀j∈f.toList,∀q∈f.toList,j.born=q.born->j=q:=by
  have:=Y.h;generalize f.toList=d at this;intro j N q W aq
  induction d with
  |nil=>cases N
  |cons x d bc=>
   simp only[Ee,O6] at this;rcases C2.1 N with y|y<;>rcases C2.1 W with z|z
   ·rw[y,z]
   ·subst y;exact CV (CI.2 ⟨q,z,aq.symm⟩) this.1
   ·subst z;exact CV (CI.2 ⟨j,y,aq⟩) this.1
   ·exact bc this.2 y z
 rcases Q6 (P:=L.b) F e.type r g a a seen f a ap a6 Y.f (AI _) with⟨bj,af⟩|⟨l,Z,aw,au,af⟩
 ·refine HB (av _ _ af) (an _ _ _ (N ?_) u);have a0:∀j∈f.toList,j∈o:=λj al=>by
   have a8:seen.contains j.born=R:=by
    cases a1:seen.contains j.born with
    |true=>rfl
    |false=>
     have:j∈(LS f seen):=by unfold LS;rw[Array.mem_filter];exact⟨by simpa using al,by simp only[a1];rfl⟩
     have:=(Array.mem_iff_getElem.1 this);obtain⟨bb,am,_⟩:=this;omega
   have:j.born∈o.map (·.born):=by rw[<-n.f];simpa using a8
   obtain⟨q,aj,ay⟩:=CI.1 this;have:=bd q (n.i q aj) j al ay;exact this▸aj
  have be:o.Nodup:=S6 _ n.b;have bf:f.toList.Nodup:=S6 _ Y.h;exact(List.perm_ext_iff_of_nodup be bf).2 λx=>⟨n.i x,a0 x⟩
 ·have aa:l∈f.toList/\seen.contains l.born=I:=by
   unfold LS at Z;simp only[Array.toList_filter,CF,K'] at Z;exact Z
  have ao:l.born∉o.map (·.born):=λp=>by rw[<-n.f] at p;have:=aa.2;simp at this;exact this (by simpa using p)
  have a9:BA ax bg t aw:=by rcases au with rfl|rfl;exact u;exact u.t
  have a7:aw.heap[r]?=C (Cy (C g) a seen a):=by rcases au with rfl|rfl<;>exact ap
  have a4:=(FY.1 a7).1;refine HB (av _ _ af) (an _ _ _ (W l aa.1 (λp=>ao (CI.2 ⟨l,p,A⟩)) ⟨?_,?_,?_⟩) (BA.x (l:=ar.put _) a9 ⟨A,A,A,by simp[FZ],λbb _ am=>by simp only[FZ];rw[OI (λp=>am (by rw[p]))]⟩ (by simp[FZ,a4])))
  ·rw[QT,n.f,CU];rfl
  ·intro j m;rcases Bs.1 m with m|m
   ·exact n.i j m
   ·rw[CZ] at m;subst m;exact aa.1
  ·rw[CU,ID];refine⟨n.b,Y1,λah az b ak=>?_⟩;simp only[Ee,TT,CZ] at ak;subst ak
   exactλp=>ao (p▸az)
def Cr.am{r:Am}{e:Al}{p:AP}{j:S}{o:M->S->Prop}{g n a:B}{x:Cf}{l:Ai CO}{seen:Ai B}{f:CO}(L:e.op=.entry x)(U:CR p x=C (P n))[F:Cz j g (AM l a)][N:Cz j n (Cy (C g) a (seen.push f.born) a)](u:El l a)(y:f∈l.toList)
 (t:o (AL #[f.key,f.val]) j):Cr r e p j o:=by
 refine⟨λaf aa Z ag q z m W Y G=>?_⟩;refine HB (g:=q) ?_ (G _ _ _ t m);unfold Bh;rw[L];simp only[z.b U];rw[Ak,ADq q n g a seen l a f (BA.i (p:=N) m) (BA.i (p:=F) m) y u.h];rfl
def E7.ab{j:Am}{e:Al}{m:AP}{p:S}{l:M->CQ->Prop}{f o F q:B}{x:Cf}{v:M}(u:e.op=.typeAssert x o f I)(y:j.c f=C (KK F q))(z:CR m x=C (Cd f v))(r:l v .t):E7 j e m p l:=by
 refine⟨_,_,r,AA,λW L G Y n a t U N=>?_⟩;unfold Bh;rw[u];simp only[t.b z];have:(aL (Cd f v) o f I).run j.b n=Ao v n:=by
  simp[aL,j.d y,go_sem,Nw]
 rw[Ak,this];rfl
end
section
variable{j:Type}
def Bm(g a:B)(h:G j):M:=match h with
 |[]=>O E 0 0
 |_::_=>Q g h.length a
def BX(el:AU)(f:j->G M)(g:B)(h:G j)(i:G M):S:=match h with
 |[]=>[]
 |_::_=>[.t g (h.flatMap f++i) el]
def E1{g a:B}{h:G j}(f:h≠[]):Bm g a h=Q g h.length a:=by cases h<;>simp_all [Bm]
def Dw{el:AU}{f:j->G M}{g:B}{h:G j}{i:G M}(a:h≠[]):BX el f g h i=[.t g (h.flatMap f++i) el]:=by cases h<;>simp_all [BX]
structure DI(l:B)(f:G j)(a:B)(s:G M):Prop where
 t:f.length<=a
 u:a<=BP
 s:s.length=(a-f.length)*l
def Fx{f:j->G M}{a:B}(m:∀l,(f l).length=a)(h:G j):(h.flatMap f).length=h.length*a:=by
 induction h with
 |nil=>simp
 |cons l h n=>rw[FE,Ad,n,m,C8,Lc];omega
def Vj{f:j->G M}{q:B}(n:∀l,(f l).length=q):∀{h:G j}{p m:B}{l:j},h[p]?=C l->m<q->(h.flatMap f)[p*q+m]?=(f l)[m]?
 |[],p,m,l,a,o=>by simp at a
 |r::h,0,m,l,a,o=>by
  simp only[GI,EX] at a;subst a;rw[FE,Mn,BF,Di (by rw[n];exact o)]
 |r::h,p+1,m,l,a,o=>by
  rw[IC] at a;rw[FE,G3 (by rw[n,Lc];omega),n,<-Vj n a o];congr 1;rw[Lc];omega
def Ow{f:j->G M}{n:B}(r:∀F,(f F).length=n){h:G j}{i:G M}(a l:B)(L:a+l<=h.length):((h.flatMap f++i).drop (a*n)).take (l*n)=((h.drop a).take l).flatMap f:=by
 have t:h=h.take a++((h.drop a).take l++(h.drop a).drop l):=by rw[Hm,Hm]
 have u:(h.take a).length=a:=Z3;have x:((h.drop a).take l).length=l:=by rw[Ci,DV];omega
 obtain⟨o,y⟩:∃o,h.take a=o:=⟨_,A⟩;obtain⟨p,m⟩:∃p,(h.drop a).take l=p:=⟨_,A⟩;obtain⟨q,z⟩:∃q,(h.drop a).drop l=q:=⟨_,A⟩;rw[y] at u;rw[m] at x;rw[y,m,z] at t;rw[m,t,KP,KP,BS,BS,Mf (by rw[Fx r,u]),C_ (by rw[Fx r,x])]
def M3{f:j->G M}(l:∀a,(f a).all B'=R)(h:G j):(h.flatMap f).all B'=R:=by
 rw[Gh];intro v m;obtain⟨a,_,n⟩:=List.mem_flatMap.1 m;exact Gh.1 (l a) v n
end
section
variable{j:Type}{el:AU}{f:j->G M}{g:B}{h:G j}{i:G M}{a c:S}{b:B}{cs e:G M}{d:AU}
end
def Cr.z{j:Type}{U:Am}{o:Al}{al:AP}{aj a:S}{az:M->S->Prop}{F:GL}{ai el g ak b a0 m a4:B}{f:j->G M}{n:EU}{a1:M}{h:G j}{i:G M}{z:G M}{W:AU}(au:o.op=FH F)(ao:F.callee=Ei Je)(aw:F.argTypes=#[ai,ai])
 (an:DK al F.args.toList=C [Bm g ak h,O (C ⟨b,a0,E⟩) m a4])(av:U.c ai=C (FC el))(ap:U.e el=C n)(ax:n.zero=C a1)(ay:(B9 a1).length=n.size/\0<n.size)(am:aj.Perm (BX el f g h i++a))[ag:Bo a b z W]
 (af:∀l,(f l).length=n.size/\(f l).all B'=R)(t:G j)(ar:(z.drop a0).take (m*n.size)=t.flatMap f)(r:t.length=m)(a3:0<m)(N:DI n.size h ak i)(ah:h.length+m<=1000000000/\n.bytes<=1000)
 (aq:∀q p u,DI n.size (h++t) p u->az (Q q (h.length+m) p) (.t q ((h++t).flatMap f++u) el::a)):Cr U o al aj az:=by
 refine Cr.u (AQ.u am) ?_;clear am;have L:=λh=>Fx (f:=f) (λl=>(af l).1) h;cases h with
 |nil=>
  refine Cr.ad (j:=n) au ao aw an av ap ax ay (L:=z) (aq:=ag) (t.flatMap f) ar (by rw[L,r]) (M3 (λl=>(af l).2) _) ⟨by simpa using ah.1,ah.2,a3⟩ (λq p u Y Z aa=>?_);have x:=aq q p u ⟨by simpa[r] using Y,Z,by rw[aa,Bz,r]⟩;simp only[Bz,FV,BF] at x;exact x
 |cons l y=>
  have a5:Bo (.t g ((l::y).flatMap f++i) el::a) b z W:=⟨By _ ag.j⟩;refine Cr.y (j:=n) (c:=a) (n:=(l::y).flatMap f++i) (Y:=z) (Z:=W) au ao aw an av ap ax ay (a2:=⟨Bi _⟩) (a3:=ag) ⟨?_,N.t,N.u⟩ (t.flatMap f) ar (by rw[L,r]) (M3 (λl=>(af l).2) _) ah (λq p u Y Z aa=>?_)
  ·rw[Ad,L,N.s,<-QF];congr 1;have:=N.t;omega
  have x:=aq q p u ⟨by rw[Ad,r];exact Y,Z,by rw[aa,Ad,r]⟩;rw[KP] at x;have a2:((l::y).flatMap f++i).take ((l::y).length*n.size)=(l::y).flatMap f:=C_ (L _);rw[a2];exact x
def Cr.ax{p:Am}{o:Al}{ai:AP}{y:S}{an:M->S->Prop}{z:GL}{L el g Z f U b Y m ao:B}{a:EU}{ag:M}{n af:G M}{ah:AU}(a6:o.op=FH z)(ax:z.callee=Ei Je)(a9:z.argTypes=#[L,L])
 (av:DK ai z.args.toList=C [O (C ⟨g,Z,E⟩) f U,O (C ⟨b,Y,E⟩) m ao])(a8:p.c L=C (FC el))(a1:p.e el=C a)(ba:a.zero=C ag)(am:(B9 ag).length=a.size/\0<a.size)
 (a7:∀N aa r,BA N aa y r->∀u x,n[u]?=C x->r.cell? ⟨g,Z+u,E⟩=C x)(ak:n.length=f*a.size)(az:U<f+m)[a0:Bo y b af ah](l:G M)(a4:(af.drop Y).take (m*a.size)=l)(aj:l.length=m*a.size)(al:f+m<=1000000000/\a.bytes<=1000)
 (a2:∀t q i,f+m<=q->q<=BP->i.length=(q-(f+m))*a.size->an (Q t (f+m) q) (.t t (n++l++i) el::y)):Cr p o ai y an:=by
 refine Cr.ac a6 ax av λN aa r bi W=>?_;have aw:BU r b af.toArray ah:=BA.h (p:=a0) W;have a5:(f+m)*a.bytes<=140737488355328:=by have:=QJ al.1 al.2;omega
 obtain⟨bm,ap,aq,ar,au⟩:=run_append_arg_grows (P:=p.b) r L o.type el a ag a.size a.bytes (p.f a8) (p.i _ _ a1) ba A A (by rw[H8];simpa using am.1) am.2 ⟨g,Z,E⟩ f U n ak (λu x j=>by rw[Addr.b];exact a7 N aa r W u x j) ⟨b,Y,E⟩ m ao l aj (λu x j=>by
  rw[Addr.b,aw.e];rw[<-a4] at j;rw[Is] at j;split at j
  ·rw[FU] at j;simpa using j
  ·cases j) az AF2 a5
 have bj:(n++l).length=(f+m)*a.size:=by rw[Ad,ak,aj,QF]
 rcases ar.2 with⟨bk,bl⟩|⟨t,q,F,bb,bc,bd,be,bf,bg,bh⟩
 ·omega
 ·subst bb;have a3:F.toList=(n++l)++F.toList.drop ((f+m)*a.size):=by rw[<-bh];exact(Hm _ _).symm
  have ay:BU ap t (n++l++F.toList.drop ((f+m)*a.size)).toArray el:=by
   rw[<-a3];exact bd
  refine⟨_,ap,_,?_,a2 t q (F.toList.drop ((f+m)*a.size)) be bf ?_,BA.y W (Ug au) ay bc⟩
  ·simp only[GG];rw[a9,Ak,aq];rfl
  ·rw[DV,QS,bg,<-Zt]
def Ha(cs:G M)(d:AU):EF:=CP cs.toArray d (cs.length,cs.length+1)
def Rr{m:BR}{q l:AG}{a:S}{g:B}{cs:G M}{d:AU}[n:Cz a g (Ha cs d)](o:BA m q a l)(f:B)(j:M)(p:cs[f]?=C j):l.cell? ⟨g,0+f,E⟩=C j:=by
 have:=BA.i (p:=n) o;simp[World.cell?,this,Ha,p]
def Cr.al{j:Am}{o:Al}{W:AP}{U a:S}{L:M->S->Prop}{p el g t q:B}{ag:Cf}{cs:G M}{d:AU}(aw:o.op=ON p p ag)(ay:j.c p=C (FC el))(ao:j.c el=C (JX BQ))(a0:CR W ag=C (Q g t q))[an:Lo U g cs d a]
 (ak:L (Q g t q) (.o g (Ha cs d)::a)):Cr j o W U L:=by
 refine⟨λbe bb ah a4 f ap ar a6 a8 x=>?_⟩;have z:=ar.j an.b;have Y:BU f g cs.toArray d:=BA.h (a:=.t g cs d::a) z;have u:f.heap[g]?=C (CP cs.toArray d):=Y;have y:=Y.b;have az:f.freeze ⟨g,cs.length,E⟩ 1={f with heap:=f.heap.setIfInBounds g (Ha cs d)}:=by
  unfold World.freeze;rw[A1 Z];congr 1;apply a5
  ·simp
  ·intro af ai aj;simp only[Array.getElem_modify,Array.getElem_setIfInBounds ai];by_cases n:g=af
   ·subst n;have:f.heap[g]=CP cs.toArray d:=by rw[Lf y] at u;exact Gl u
    simp[this,Ha]
   ·simp only[n,Hp];rw[Array.getElem_setIfInBounds_ne (by simpa using aj) n]
 have ax:f.shape? g=C (d,cs.length):=by unfold World.shape?;rw[u];simp
 have al:BA ah a4 (.o g (Ha cs d)::a) {f with heap:=f.heap.setIfInBounds g (Ha cs d)}:=by
  obtain⟨a9,⟨ba,bd,a2,a3⟩,x⟩:=Dn.h (o:=[HS g cs.toArray d]) (p:=a.map BL.y) z.b;have a1:=a3 0 _ A;have aa:=(a2 0 g Y1 a1.2);have aq:f.grownBy {f with heap:=f.heap.setIfInBounds g (Ha cs d)} (C g):=⟨A,A,A,Y1,λm _ r=>by
   show(f.heap.setIfInBounds g _)[m]?=_;rw[OI (λn=>r (by rw[n]))]⟩
  have am:({f with heap:=f.heap.setIfInBounds g (Ha cs d)}:AG).heap[g]?=C (Ha cs d):=by simp[y]
  refine⟨x _ [L9 g (Ha cs d)] ⟨λ_=>λF=>F=g,λm af F r au bc=>?_,λm F r av=>?_,λm a7 l=>?_⟩ (Gs.c aq aa.1),z.g⟩
  ·simp at r au;omega
  ·subst av;exact⟨AT aa.1,by simpa using y⟩
  ·match m,l with
   |0,l=>simp only[GI,EX] at l;subst l;exact⟨am,A⟩
   |m+1,l=>simp at l
 refine HB (g:=_) ?_ (x _ _ _ ak al);unfold Bh;rw[aw];simp only[ap.b a0];have:(convert p p (Q g t q)).run j.b f=Ao (Q g t q) {f with heap:=f.heap.setIfInBounds g (Ha cs d)}:=by
  rw[<-az];simp[convert,j.d ay,j.d ao,markStringish,ax]
 rw[Ak,this];rfl
def AD(a:B):M:=N (a:F)
def GA(a:B):G M:=[AD a]
def W5(a:B):(GA a).length=1/\(GA a).all B'=R:=⟨A,A⟩
def Vk(h:G B):h.flatMap GA=h.map AD:=by induction h with
 |nil=>rfl
 |cons f h a=>rw[FE,a];rfl
abbrev BJ(g:B)(h:G B)(i:G M):BL:=.t g (h.map AD++i) 3
def i1(f l:F)(j:S):AK 477 [N f,N l] j (X (Ac (f<l))):=by
 have m:∀a:F,AK 543 [N a] j (X I):=λa=>by
  refine A9.y ?_;exact⟨by show X (a !=a)=_;simp,A⟩
 refine A9.y ?_;refine A9.ab (m f) (L ?_);exact⟨A,A⟩
def Ig(f:G B)(a:B):G B:=(f.set a (f.getD (a-1) 0)).set (a-1) (f.getD a 0)
def ABo(a:G B)(f:B):(Ig a f).length=a.length:=by simp[Ig]
def Ns(f:G B)(n:0<l/\l<f.length)(a:B):(Ig f l).getD a 0=if a=l then f.getD (l-1) 0 else if a=l-1 then f.getD l 0 else f.getD a 0:=by
 unfold Ig;simp only[AY,EV,B_];by_cases j:a=l
 ·subst j;rw[A1 Y,A8 A,A8 n.2,A8 A];rfl
 ·rw[A1 j];by_cases m:a=l-1
  ·subst m;rw[A8 A,A8 Y,A8 A];rfl
  ·rw[A1 m,A1 Y,A1 Y]
def ABp(a:G B)(n:0<l/\l<a.length):(Ig a l).Perm a:=by
 have u:a=a.take (l-1)++(a.getD (l-1) 0::a.getD l 0::a.drop (l+1)):=by
  have r:a.drop (l-1)=a.getD (l-1) 0::a.drop l:=by
   rw[HF Y,AY,Aw Y,show l-1+1=l by omega];rfl
  have t:a.drop l=a.getD l 0::a.drop (l+1):=by
   rw[HF n.2,AY,Aw n.2];rfl
  rw[<-t,<-r,Hm]
 have x:Ig a l=a.take (l-1)++(a.getD l 0::a.getD (l-1) 0::a.drop (l+1)):=by
  apply AES
  ·rw[ABo];simp;omega
  ·intro f y z;have p:∀m:G B,∀o:f<m.length,m[f]=m.getD f 0:=λm o=>by rw[AY,Aw o];rfl
   rw[p,p,Ns a n];rcases Nat.lt_trichotomy f (l-1) with j|j|j
   ·rw[A1 Y,A1 Y,AY,AY,Di Z3,Mi j]
   ·rw[A1 Y,A8 j,AY (l:=_++_),G3 Z3,Ci,show f-Bj (l-1) a.length=0 by omega];rfl
   ·by_cases q:f=l
    ·rw[A8 q,AY (l:=_++_),G3 Z3,Ci,show f-Bj (l-1) a.length=1 by omega];rfl
    ·rw[A1 q,A1 Y,AY (l:=_++_),G3 Z3,Ci,show f-Bj (l-1) a.length=(f-l-1)+2 by omega,IC,IC,FU,AY];congr 2;omega
 rw[x];conv=>rhs;rw[u]
 exact(D3 _ _ _).append_left _
def Ls(f:G B)(l:B):Prop:=∀j a,j<a->a<l->f.getD j 0<=f.getD a 0
def Kl(j:G B)(m f:B):Prop:=(∀l a,l<a->a<m->l≠f->a≠f->j.getD l 0<=j.getD a 0)/\∀a,f<a->a<m->j.getD f 0<=j.getD a 0
def Kl.b(j:Ls q l):Kl q (l+1) l:=⟨λn f a m o p=>j n f a Y,λf a m=>Y⟩
def Kl.a(n:Kl q l p)(f:p=0\/q.getD (p-1) 0<=q.getD p 0):Ls q l:=by
 intro j a r t;by_cases m:j=p
 ·subst m;exact n.2 a r t
 ·by_cases o:a=p
  ·subst o;rcases f with rfl|f
   ·omega
   ·by_cases u:j=a-1
    ·subst u;exact f
    ·exact D9 (n.1 j (a-1) Y Y m Y) f
  ·exact n.1 j a r t m o
def Kl.c(m:Kl q l p)(o:0<p/\p<q.length)(z:p<l)(y:q.getD p 0<q.getD (p-1) 0):Kl (Ig q p) l (p-1):=by
 refine⟨λr a t n u x=>?_,λa t n=>?_⟩
 ·rw[Ns q o,Ns q o,A1 (show¬r=p-1 from u),A1 (show¬a=p-1 from x)];by_cases j:r=p
  ·rw[A8 j,A1 Y];exact m.1 (p-1) a Y n Y Y
  ·rw[A1 j];by_cases f:a=p
   ·rw[A8 f];exact m.1 r (p-1) Y Y j Y
   ·rw[A1 f];exact m.1 r a t n j f
 ·rw[Ns q o,Ns q o,A1 (show¬p-1=p by omega),A8 A,A1 (show¬a=p-1 by omega)];by_cases f:a=p
  ·rw[A8 f];omega
  ·rw[A1 f];exact m.2 a Y n
def Ls.a(f:Ls q q.length):q.Pairwise (·<=·):=by
 rw[List.pairwise_iff_getElem];intro m n j a l;have:=f m n l a;rwa[AY,AY,Aw j,Aw a] at this
def Wx(j:yd.Perm q)(l:yd.Pairwise (·<=·)):yd=q.mergeSort:=by
 have f:(q.mergeSort).Pairwise (·<=·):=by
  have:=List.pairwise_mergeSort (le:=λa b:B=>Ac (a<=b)) (by intro a b m;simp;omega) (by intro a b;simp;omega) q;exact this.imp Y1
 exact(j.trans (List.mergeSort_perm q _).symm).eq_of_pairwise (le:=(·<=·)) (λa b _ _=>Nat.le_antisymm) l f
def H4(a:l<q.length):(q.map AD++er)[0+l*1]?=C (AD (q.getD l 0)):=by
 rw[BF,B3,Di (by simpa using a),D_,AY,Aw a];rfl
def Ri{a v:B}(f:a<q.length):(q.map AD++er).set (0+a*1) (AD v)=(q.set a v).map AD++er:=by
 rw[BF,B3,Zk _ _ (by simpa using f),J_]
def hC(n j x:B)(r:G B)(o:G M)(ai:r.length=j)(ay:j<=1000000):
 Z9 471 [Q n j x,N 0,N j] [BJ n r o] λv p=>p=[BJ n r.mergeSort o]:=by
 refine A9.z (m:=λv p=>∃q,q.Perm r/\q.Pairwise (·<=·)/\p=[BJ n q o]) ?_ (λv p al=>by obtain⟨q,y,u,rfl⟩:=al;rw[Wx y u]);refine A9.y ?_;refine F'.mk ((1:B):F) A (EY.g (m:=B×G B) (λm=>j+1-m.1) (λm=>1<=m.1/\m.1<=j+1/\m.2.Perm r/\Ls m.2 (Bj m.1 j)) (λm=>[(0,Q n j x),(1,N 0),(2,N j),(6,N (m.1:B))]) (λm=>[BJ n m.2 o]) (1,r) ⟨AI _,by show 1<=j+1;omega,Bi _,λa0 t y u=>by dsimp only at u;omega⟩ ⟨A,A,A,A,AA⟩ A ?_);rintro⟨l,q⟩ ⟨y,u,z,Z⟩ ar;dsimp only at y u z Z;have aq:q.length=j:=by rw[z.length_eq,ai]
 refine EY.b (IK.mk (λt=>?_) (λt=>?_))
 ·have t:l<j:=by simp at t;omega
  refine EY.g (m:=B×G B) (λm=>m.1) (λm=>m.1<=l/\m.2.Perm r/\Kl m.2 (l+1) m.1) (λm=>[(0,Q n j x),(1,N 0),(2,N j),(6,N (l:B)),(7,N (m.1:B))]) (λm=>[BJ n m.2 o]) (l,q) ⟨AI _,z,.b (by rwa[show Bj l j=l by omega] at Z)⟩ ⟨A,A,A,A,A,AA⟩ A ?_;rintro⟨a,f⟩ ⟨ao,U,aa⟩ au;dsimp only at ao U aa;have az:f.length=j:=by rw[U.length_eq,ai]
  have ah:∀{W:AP}{p:S},Fm [(0,Q n j x),(1,N 0),(2,N j),(6,N ((l+1:B):F))] W->p=[BJ n f o]->(a=0\/f.getD (a-1) 0<=f.getD a 0)->EY _ W p:=λ{W}{p} an am ap=>ar (l+1,f) ⟨by show 1<=l+1;omega,by show l+1<=j+1;omega,U,by show Ls f (Bj (l+1) j);rw[show Bj (l+1) j=l+1 by omega];exact aa.a ap⟩ (by show j+1-(l+1)<j+1-l;omega) an am;refine EY.b ?_;by_cases a1:0<a
  ·have av:=B7 ((a:F)>0);refine A7 ?_;have af:=H4 (q:=f) (er:=o) (l:=a) Y;refine Ms.mk (v:=AD (f.getD a 0)) ?_ ?_
   ·exact af
   refine L ?_;refine F'.mk ((a-1:B):F) Y4 (A' ?_);have ag:=H4 (q:=f) (er:=o) (l:=a-1) Y;refine Ms.mk (v:=AD (f.getD (a-1) 0)) ?_ ?_
   ·exact ag
   refine L ?_;refine A9.ab (i1 _ _ _) ?_;by_cases aw:f.getD a 0<f.getD (a-1) 0
   ·have ax:=B7 (((f.getD a 0:B):F)<((f.getD (a-1) 0:B):F));refine L ?_;refine F'.mk ((a-1:B):F) Y4 (F'.mk ((a-1:B):F) Y4 (A' ?_));refine Ms.mk (v:=AD (f.getD (a-1) 0)) ?_ ?_
    ·exact ag
    refine A7 ?_;refine Ms.mk (v:=AD (f.getD a 0)) ?_ ?_
    ·exact af
    refine Qh.mk a A Y (Mw.mk ⟨A,Y5⟩ (Qh.mk (a-1) A Y (Mw.mk ⟨A,by simp[Cb,AD];omega⟩ (F'.mk ((a-1:B):F) Y4 (au (a-1,Ig f a) ⟨by show a-1<=l;omega,(ABp f Y).trans U,aa.c Y Y aw⟩ (by show a-1<a;omega) ⟨A,A,A,A,A,AA⟩ ?_)))));have aj:=Ri (q:=f) (er:=o) (a:=a) (v:=f.getD (a-1) 0) Y;have ak:=Ri (q:=f.set a (f.getD (a-1) 0)) (er:=o) (a:=a-1) (v:=f.getD a 0) Y5;show[BL.t n (((f.map AD++o).set (0+a*1) (AD (f.getD (a-1) 0))).set (0+(a-1)*1) (AD (f.getD a 0))) _]=_;rw[aj,ak];rfl
   ·have ax:=Aa (((f.getD a 0:B):F)<((f.getD (a-1) 0:B):F));refine L ?_;exact F'.mk ((l+1:B):F) Y2 (ah ⟨A,A,A,A,AA⟩ A (Ae Y))
  ·have av:=Aa ((a:F)>0);refine L ?_;exact F'.mk ((l+1:B):F) Y2 (ah ⟨A,A,A,A,AA⟩ A (AT Y))
 ·have t:l=j\/l=j+1:=by simp at t;omega
  exact⟨q,z,Ls.a (by rw[aq];rwa[show Bj l j=j by omega] at Z),A⟩
def E7.y{o:Al}{a:Lh}{j:Ej}(t:o.op=.index l yo yu)(u:xx.c l=C .string)(x:CR yc yo=C (In a))(y:CR yc yu=C (D j ya))(m:B)(r:ya=(m:F))(b:QO)(q:a[m]?=C b)(p:yr (D BQ b.toNat) .t):E7 xx o yc lg yr:=by
 refine⟨_,_,p,AA,λY L G Z n z f W U=>?_⟩;unfold Bh;rw[t];simp only[f.b x,f.b y];have:(aF l (In a) (D j ya)).run xx.b n=Ao (D BQ b.toNat) n:=by
  subst r;simp[aF,ZQ,xx.d u,q]
 rw[Ak,this];rfl
def PE(a:B)(n:a<=12)(j:S):Z9 395 [D Au a] j λv f=>(∃m:F,v=N m)/\f=j:=by
 have p:=Aa ((a:F)≥4294967296);have q:=Aa ((a:F)≥65536);have r:=Aa ((a:F)≥256);refine A9.y ?_;refine L ?_;refine A9.z (m:=λv f=>(∃m:F,v=N m)/\f=j) (A9.af A ?_) λv f o=>?_
 ·refine L ?_;refine F'.mk (a:F) (MW Y) (E7.y (m:=a) A A A A A (([0,1,2,2,3,3,3,3,4,4,4,4,4]:G QO).getD a 0) ?_ ?_)
  ·match a,n with
   |0,_=>rfl
   |1,_=>rfl
   |2,_=>rfl
   |3,_=>rfl
   |4,_=>rfl
   |5,_=>rfl
   |6,_=>rfl
   |7,_=>rfl
   |8,_=>rfl
   |9,_=>rfl
   |10,_=>rfl
   |11,_=>rfl
   |12,_=>rfl
  obtain⟨b,l⟩:∃b:QO,([0,1,2,2,3,3,3,3,4,4,4,4,4]:G QO).getD a 0=b:=⟨_,A⟩;rw[l];have:=b.toNat_lt;exact F'.mk (b.toNat:F) (A3 Y) (F'.mk (b.toNat:F) Y4 (⟨⟨_,A⟩,A⟩))
 ·obtain⟨⟨m,rfl⟩,rfl⟩:=o;exact⟨⟨m,A⟩,A⟩
def Pp(f a q:B)(j:G B)(l:G M)(r:j.length=a)(t:a<=12):
 Z9 316 [Q f a q] [BJ f j l] λv n=>n=[BJ f j.mergeSort l]:=by
 have u:=B7 ((a:F)<=12);refine A9.y ?_;refine F'.mk (a:F) (Ec Y) (A9.z (PE a t _) ?_);rintro v p ⟨⟨m,rfl⟩,rfl⟩;refine A9.z (m:=λv n=>v=AL #[]/\n=[BJ f j.mergeSort l]) (A9.af A ?_) λv p o=>?_
 ·refine EY.b (F'.mk (a:F) Y4 (L ?_));refine A9.z (hC f a q j l r Y) λv p o=>?_;subst o;exact⟨A,A⟩
 ·obtain⟨rfl,rfl⟩:=o;rfl
def Ss(l:S):Z9 316 [O E 0 0] l λv a=>a=l:=by
 refine A9.y ?_;refine F'.mk 0 A (A9.z (PE 0 Y _) ?_);rintro v a ⟨⟨m,rfl⟩,rfl⟩;refine A9.z (m:=λv f=>v=AL #[]/\f=a) (A9.af A ?_) λv a j=>?_
 ·refine EY.b (F'.mk 0 A (L ?_));refine A9.z (m:=λv f=>v=AL #[]/\f=a) (A9.af A ?_) λv a j=>?_
  ·refine F'.mk 1 A (EY.b (L ?_));exact⟨A,A⟩
  obtain⟨rfl,rfl⟩:=j;exact⟨A,A⟩
 ·obtain⟨rfl,rfl⟩:=j;rfl
section
open Go Go.RowKit Go.Shelf
attribute[local go_sem] Oper.semAt_some
def Qj(j:B)(a f:AG):Prop:=Bq j a f/\KeepsWalks a f
def Tryz.a:(Tryz.prog.info? 3).map (λa=>(a.zero,a.size,a.bytes))=C (C (N 0),1,8):=Y3
def bV(p:Fence)(S:B)(ax:p.fn 393)(am:p.round=E)(bm:2<=S)(n:B)(u:Ai M)(az:p.fn n)(aw:∀args a,(Ey n args).run An a=Ao (Q' n args) a)(U:G B)(m:B)(a8:U.length=m)(bk:m<=1000000)(a:AG)(ar:G B->Prop)
 (a6:TF p (S-1) An n u (λf:B=>#[D H (f:F)]) (Qj a.heap.size) (λaq=>aq=U) ar m a):
 Jg p S An 393 #[O E 0 0,BZ (CA n) #[] u] a λav aa=>∃v,av=BT v/\aa.ownsRow a.heap.size 3 1 v m (U.map (λf:B=>D H (f:F)))/\(U=[]->v=O E 0 0)/\Bq a.heap.size a aa:=by
 have y:1<=S:=Y;have bl:BP=9223372036854775807:=A;obtain⟨bc,a2,a9,ba,bb⟩:=info_parts Tryz.a;refine callsIn_of_wp_marks Tryz.func393 A ax ?_ am;simp only[Tryz.ntmps393,KV,C8,FV,KX,KY,Jc,Jd,KT,JY,Bz,DU];gi_wp2;have au:=Boxed.new a 48 (O E 0 0);have ai:Bq a.heap.size a (a.alloc (CP #[O E 0 0] 48)):=(DT _ a).alloc (AI _) _;refine wpIn_rangeFunc_ownG am y (gf:=n) (lb:=u) A az aw a6 (λx ao=>⟨x.1.trans ao.1,x.2.trans ao.2⟩) (λj L o ap y af ag ah=>⟨belowK_b (w:=a.alloc (CP #[O E 0 0] 48)) Y1 j L o ap y af ag ah,walksK_b (w:=a) j L o ap (by simp at y;omega) af ag ah⟩) ai (λ_=>A)
  (λ(l:G B) j=>(∃v,Boxed j a.heap.size 48 v/\j.ownsRow a.heap.size 3 1 v l.length (l.map (λf:B=>D H (f:F)))/\(l=[]->v=O E 0 0))/\Bq a.heap.size a j)
  (λ_ _ _=>Be)
  (OwnFrom.and (Own.from (holdsRow_own a.heap.size a.heap.size 48 3 1 (λl:G B=>l.length) (λl=>l.map (λf:B=>D H (f:F))) (λl v=>l=[]->v=O E 0 0)) _) (ownFrom_below (AI _) Y1))
  (λ_ _ _ _ _ a5 _ _=>a5)
  ⟨⟨_,au,World.ownsRow_nil _ _ _ _,λ_=>A⟩,ai⟩
  (λf=>{tmps:=#[O E 0 0,BZ (CA n) #[] u,P a.heap.size,Cw,O E 0 0,(D H (f:F)),BZ (CA n) #[] u,(D H (f:F)),Cw,Cw,Cw,Cw,Cw],defers:=[]}) ?assign ?body ?done ?stop
 case assign=>
  intro L f j bd r;gi_wp2;exact r
 case body=>
  rintro L l f j ⟨⟨v,z,t,-⟩,q⟩ bj;have a0:=z.cell;gi_wp2_with (gi_at_builtin;refine wpListIn_append_own _ A _ _ 48 A a.heap.size 3 bc (N 0) 1 8 Tryz.underlying48 a2 a9 ba bb A Z _ _ _ A (t.alloc _) ⟨j.heap.size,0,E⟩ 1 1 [D H (f:F)] A A (cell_one_new _ _ _) (by simp[Value.oneCell']) Y Y (by have:=q.size;simp;omega) ?_;intro bn bo al a1 _;obtain⟨bg,bf,rfl⟩:=ownsRow_succ al;obtain⟨an,a7,a4,ak,aj⟩:=z.appended Z t q.size (AI _) al a1;have bh:=an.cell;have bi:=an.frozen);exact⟨ak.from _,⟨aj,ak.walks⟩,⟨_,a7,by simpa using a4,Y1⟩,q.trans aj⟩
 case done=>
  rintro W aq j ay rfl ⟨⟨v,z,t,a3⟩,q⟩ r;have a0:=z.cell;gi_wp2;refine⟨Y1,AT ⟨_,_,A,run_takeDeferred r,?_⟩⟩;rw[a8] at t;exact⟨_,results_tmp A _ _ _,v,A,ownsRow_putObj t _ r A,a3,q.trans (belowK_b (w:=a) (AI _) j W _ _ (by simp at ay;omega) r A A)⟩
 case stop=>
  rintro W be l j _ _ x _;exact x.elim
def Oh(f:Fence)(l:B)(y:f.fn 315)(z:f.fn 393)(u:f.round=E)(aa:3<=l)(j:B)(o:Ai M)(L:f.fn j)(x:∀args a,(Ey j args).run An a=Ao (Q' j args) a)(n:G B)(m:B)(V:n.length=m)(P:m<=1000000)(a:AG)(q:G B->Prop)
 (U:TF f (l-1-1) An j o (λp:B=>#[D H (p:F)]) (Qj a.heap.size) (λW=>W=n) q m a):
 Jg f l An 315 #[BZ (CA j) #[] o] a λt r=>∃v,t=BT v/\r.ownsRow a.heap.size 3 1 v m (n.map (λp:B=>D H (p:F)))/\(n=[]->v=O E 0 0)/\Bq a.heap.size a r:=by
 have Z:1<=l:=Y;refine M_ Tryz.func315 A y ?_ u;simp only[Tryz.ntmps315,KV,C8,FV,KX,KY,Jc,Jd,KT,JY,Bz,DU];gi_wp2_with (gi_at_call 393;refine(bV f (l-1) z u Y j o L x n m V P a q U).mono ?_;rintro t w' ⟨v,rfl,S,Q,N⟩);go_ret;exact⟨v,A,S,Q,N⟩
def ACa(L:B)(ax:1<=L)(U u q b r j Z:B)(f:G B)(ay:f.length=j)(aw:j<=1000000)(ai:b<q)(au:u<q)(o M:G B->AG->Prop)
 (ah:∀m t l,o m l->m.length<j->YieldAt Iz (L-1) An U #[N (t:B)] l λp n=>
  (p=BT (X R)/\o (m++[t]) n/\Bq q l n)\/(p=BT (X I)/\M (m++[t]) n))
 (l:AG)(ar:l.cell? ⟨u,0,E⟩=C (O (C ⟨b,r,E⟩) j Z))(aj:∀F,F<j->l.cell? ⟨b,r+F,E⟩=C (N (f.getD F 0:B)))(aa:o [] l):
 Jg Iz L An 396 #[BZ (GM U) #[] #[],P u] l λp n=>(∃v,p=BT v)/\
  ((∃W,W=f/\o W n)\/(∃m,(∃a,a<=j/\m=f.take a)/\M m n)):=by
 refine M_ ADT A AA ?_ A;simp only[Tryz.ntmps396,KV,C8,FV,KX,KY,Jc,Jd,KT,JY,Bz,DU];gi_wp2;gi_loopw [7] (λz wr=>∃a:B,a<=j/\z=N a/\o (f.take a) wr/\Bq q l wr)
  (λz _=>j-(Cc z).toNat)
 case atStart=>exact⟨0,Af _,A,aa,DT _ _⟩
 case round=>
  obtain⟨a,av,rfl,x,S⟩:=hrel;by_cases am:a<j
  ·obtain⟨aq,az,assign,body,ao,y⟩:=ah _ (f.getD a 0) wr x Z3;have ak:wr.cell? ⟨b,r+a,E⟩=C (N (f.getD a 0:B)):=(S.cell (p:=⟨b,r+a,E⟩) ai).trans (aj a am);have an:f.take a++[f.getD a 0]=f.take (a+1):=by
    rw[KW,AY,Aw Y];rfl
   rw[an] at y;generalize f.getD a 0=t at ao ak y;gi_wp2;refine y.mono ?_;rintro p ap (⟨rfl,af,al⟩|⟨rfl,ag⟩)
   ·gi_wp2;go_roundw
    case rel=>exact⟨a+1,Y,Y1,af,S.trans al⟩
    case measure=>simp[Cc];omega
   ·gi_wp2;exact Q4 (ADl A _ _ _) A (⟨⟨_,A⟩,Ae ⟨_,⟨a+1,Y,A⟩,ag⟩⟩)
  ·obtain rfl:a=j:=Y;gi_wp2;go_end0;rw[DP Y] at x;exact⟨⟨_,A⟩,AT ⟨_,A,x⟩⟩
def d9(b q a u:B)(j:G B)(S:j.length=a)(M:a<=1000000)(f:AG)(n:B)(y:n<f.heap.size)(L:b<f.heap.size)
 (ah:f.cell? ⟨n,0,E⟩=C (O (C ⟨b,q,E⟩) a u))(aj:∀m,m<a->f.cell? ⟨b,q+m,E⟩=C (N (j.getD m 0:B))):
  CL An 315 #[BZ (CA 396) #[] #[P n]] f λx p=>∃v,x=BT v/\p.ownsRow f.heap.size 3 1 v a (j.map (λt:B=>D H (t:F)))/\(j=[]->v=O E 0 0)/\Bq f.heap.size f p:=by
 refine(Ny (n:=5)).1 (Oh Iz 5 AA AA A Y _ _ AA (enters_of ADT Y3 A) j a S M _ (λr=>∃U,U<=a/\r=j.take U) ?_);intro al W Z o z am an ai aa;exact ACa 3 Y al n _ b q a u j S M L y W Z (λr t o af ag=>(ai r t o af ag).mono λx p l=>l.imp (λl=>⟨l.1,l.2.1,l.2.2.1⟩) id) o ((z.cell (p:=⟨_,0,E⟩) y).trans ah) (λm ak=>(z.cell (p:=⟨_,_,E⟩) L).trans (aj m ak)) aa
end
section
open Go Go.RowKit Go.Shelf
attribute[local go_sem] Oper.semAt_some
open Go.ChangeMaps (setBlock)
def hL(r:B)(Z:1<=r)(S p b f:B)(l:G B->AG->Prop)(a:AG)(F:Ti a.heap.size l)(U:a.cell? ⟨p,0,E⟩=C (Ah (C b)))(m:a.heap[b]?=C (AM #[] f))(x:l [] a):
 Jg Iz r An 482 #[BZ (GM S) #[] #[],P p] a λj t=>(∃v,j=BT v)/\l [] t:=by
 have L:∀n,Tryz.prog.underlying n=C (KK 3 31)->(Ll n (Ah (C b))).run An a=Ao (P a.heap.size) (a.alloc (Cy (C b) f #[] f)):=λn N=>by
  unfold Ll;simp only[Ak,Io N,Bp,LV a b #[] f m,Ex];rfl
 have Y:=L 284 AD3;have q:=(FY.1 m).1;have W:∀o,(Jj (P a.heap.size) I o).run An (a.alloc (Cy (C b) f #[] f))=Ao (AL #[X I]) (a.alloc (Cy (C b) f #[] f)):=λo=>by
  have y:(a.alloc (Cy (C b) f #[] f)).heap[a.heap.size]?=C (Cy (C b) f #[] f):=by
   show(a.heap.push _)[a.heap.size]?=_;simp
  have z:(a.alloc (Cy (C b) f #[] f)).heap[b]?=C (AM #[] f):=by
   show(a.heap.push _)[b]?=_;rw[QQ q,<-Lf q];exact m
  rcases Q6 (P:=An) _ o a.heap.size b f f #[] #[] f y z Y1 (AI _) with⟨_,u⟩|⟨j,M,_⟩
  ·exact u
  ·simp[LS] at M
 refine M_ TC A AA ?_ A;simp only[AD0,KV,C8,FV,KX,KY,Jc,Jd,KT,JY,Bz,DU];gi_wp2;gi_loopw [3] (λ_ wr=>wr=a.alloc (Cy (C b) f #[] f)) (λ_ wr=>0)
 case atStart=>rfl
 case round=>
  subst hrel;gi_wp2;go_end0;exact⟨⟨_,A⟩,F [] a _ E x (World.grownBy_alloc a _ E) (λaa j=>by cases j)⟩
def hN(ah:B)(bp:1<=ah)(ay aa b f W:B)(o:B)(v:M)(q:B)(ap:q<f)(y ak:G B->AG->Prop)(a:AG)(a0:Ti a.heap.size y)(bj:a.cell? ⟨aa,0,E⟩=C (Ah (C b)))(af:a.heap[b]?=C (AM #[⟨N (o:F),v,q⟩] f))(bc:b<W)(bq:W<=a.heap.size)(bk:aa<W)
 (a7:∀Z aj a,y Z a->Z.length<1->YieldAt Iz (ah-1) An ay #[N (aj:B)] a λp z=>
  (p=BT (X R)/\y (Z++[aj]) z/\Qj W a z)\/(p=BT (X I)/\ak (Z++[aj]) z))(az:y [] a):
 Jg Iz ah An 482 #[BZ (GM ay) #[] #[],P aa] a λp z=>(∃v,p=BT v)/\(y [o] z\/ak [o] z):=by
 obtain⟨t,x⟩:∃t:Ai CO,#[⟨N (o:F),v,q⟩]=t:=⟨_,A⟩;obtain⟨j,au⟩:∃j:EF,Cy (C b) f #[] f=j:=⟨_,A⟩;obtain⟨ax,av⟩:∃j:EF,Cy (C b) f (#[].push q) f=j:=⟨_,A⟩;have a5:∀ai,Tryz.prog.underlying ai=C (KK 3 31)->(Ll ai (Ah (C b))).run An a=Ao (P a.heap.size) (a.alloc j):=λai be=>by
  unfold Ll;simp only[Ak,Io be,Bp,LV a b _ f af,Ex];rw[<-au];rfl
 have bn:=a5 284 AD3;have aw:=(FY.1 af).1;have al:(a.alloc j).heap[a.heap.size]?=C (Cy (C b) f #[] f):=by
  rw[au];show(a.heap.push _)[a.heap.size]?=_;simp
 have am:(a.alloc j).heap[b]?=C (AM t f):=by
  rw[<-x];show(a.heap.push _)[b]?=_;rw[QQ aw,<-Lf aw];exact af
 have ba:∀m:AG,m=a.alloc j\/m=(a.alloc j).drew->a.grownBy (FZ m a.heap.size ax) E:=λm r=>by
  have S:m.heap=a.heap.push j:=by rcases r with rfl|rfl<;>rfl
  refine⟨by rcases r with rfl|rfl<;>rfl,by rcases r with rfl|rfl<;>rfl,by rcases r with rfl|rfl<;>rfl,by simp[FZ,S],λbg aq _=>?_⟩;show(m.heap.setIfInBounds _ _)[bg]?=_;rw[OI Y,S,QQ aq,Lf aq]
 obtain⟨n,bm,a9,ag,ao⟩:∃n,(∀l,(Jj (P a.heap.size) I l).run An (a.alloc j)=Ao (AL #[X R,N (o:F),v]) n)/\a.grownBy n E/\n.heap[a.heap.size]?=C (Cy (C b) f #[q] f)/\n.heap[b]?=C (AM t f):=by
  have bh:∀l,∃m:AG,(m=a.alloc j\/m=(a.alloc j).drew)/\(Jj (P a.heap.size) I l).run An (a.alloc j)=Ao (AL #[X R,N (o:F),v]) (FZ m a.heap.size ax):=λl=>by
   rcases Q6 (P:=An) _ l a.heap.size b f f #[] t f al am (by rw[<-x];simpa using ap) (AI _) with⟨u,_⟩|⟨p,L,m,r,u⟩
   ·rw[<-x] at u;simp[LS] at u
   ·have:p=⟨D H (o:F),v,q⟩:=by rw[<-x] at L;simpa[LS] using L
    subst this;exact⟨m,r,by rw[<-av];exact u⟩
  have bd:∀l,(Jj (P a.heap.size) I l).run An (a.alloc j)=(Jj (P a.heap.size) I 0).run An (a.alloc j):=λl=>A;obtain⟨m,r,u⟩:=bh 0;have S:m.heap=a.heap.push j:=by rcases r with rfl|rfl<;>rfl
  refine⟨_,λl=>(bd l).trans u,ba m r,?_,?_⟩
  ·rw[<-av];simp[FZ,S]
  ·show(m.heap.setIfInBounds _ _)[b]?=_;rw[OI Y,S];exact am
 have bl:(Instr.entry (P a.heap.size)).run An n=Ao (AL #[N (o:F),v]) n:=
  ADq (P:=An) n a.heap.size b f #[] t f ⟨N (o:F),v,q⟩ (by simpa using ag) ao (by rw[<-x];simp) (by rw[<-x];simp)
 have a1:y [] n:=a0 [] a n E az a9 (λbs p=>by cases p);have bo:a.heap.size<n.heap.size:=(FY.1 ag).1;refine M_ TC A AA ?_ A;simp only[AD0,KV,C8,FV,KX,KY,Jc,Jd,KT,JY,Bz,DU];gi_wp2;gi_loopw [3] (λ_ wr=>wr=a.alloc j\/(y [o] wr/\∀l,(Jj (P a.heap.size) I l).run An wr=Ao (AL #[X I]) wr)) (λ_ wr=>(match wr.heap[a.heap.size]? with|some (Cy _ _ seen _)=>1-seen.size|_=>0))
 case atStart=>exact AT A
 case round=>
  rcases hrel with rfl|⟨a3,an⟩
  ·obtain⟨bi,bt,assign,body,br,a6⟩:=a7 [] o n a1 Y1;gi_wp2;refine a6.mono ?_;rintro p U (⟨rfl,a2,bb,bf⟩|⟨rfl,a4⟩)
   ·have ar:U.heap[a.heap.size]?=C (Cy (C b) f #[q] f):=bf.same _ _ ag A;have a8:U.heap[b]?=C (AM t f):=(bb.block b bc).trans ao;have an:∀l,(Jj (P a.heap.size) I l).run An U=Ao (AL #[X I]) U:=λl=>by
     rcases Q6 (P:=An) _ l a.heap.size b f f #[q] t f ar a8 (by rw[<-x];simpa using ap) (AI _) with⟨_,u⟩|⟨p,L,_⟩
     ·exact u
     ·rw[<-x] at L;simp[LS] at L
    gi_wp2;go_roundw
    case rel=>exact Ae ⟨a2,an⟩
    case measure=>rw[ar,al];simp
   ·gi_wp2;exact Q4 (ADl A _ _ _) A (⟨⟨_,A⟩,Ae a4⟩)
  ·gi_wp2;go_end0;exact⟨⟨_,A⟩,AT a3⟩
def d6(f b n:B)(a:AG)(z:f<a.heap.size)(y:a.cell? ⟨f,0,E⟩=C (Ah (C b)))(q:a.heap[b]?=C (AM #[] n)):
 CL An 315 #[BZ (CA 482) #[] #[P f]] a λl j=>l=BT (O E 0 0)/\Bq a.heap.size a j:=by
 refine((Ny (n:=5)).1 (Oh Iz 5 AA AA A Y _ _ AA (enters_of TC Y3 A) [] 0 A Y a (λS=>Be) ?_)).mono ?_
 ·intro G r L t p F M N u;refine(hL 3 Y G f b n r t F ((p.cell (p:=⟨_,0,E⟩) z).trans y) ((p.block b (FY.1 q).1).trans q) u).mono ?_;rintro l j ⟨o,m⟩;exact⟨o,AT ⟨_,A,m⟩⟩
 ·rintro l j ⟨v,rfl,o,m,x⟩;exact⟨by rw[m A],x⟩
def d8(j b p:B)(f:B)(v:M)(o:B)(aa:o<p)(a:AG)(t:j<a.heap.size)(U:a.cell? ⟨j,0,E⟩=C (Ah (C b)))(u:a.heap[b]?=C (AM #[⟨N (f:F),v,o⟩] p)):
 CL An 315 #[BZ (CA 482) #[] #[P j]] a λq l=>∃v,q=BT v/\l.ownsRow a.heap.size 3 1 v 1 [D H (f:F)]/\Bq a.heap.size a l:=by
 refine((Ny (n:=5)).1 (Oh Iz 5 AA AA A Y _ _ AA (enters_of TC Y3 A) [f] 1 A Y a (λag=>ag=[f]) ?_)).mono ?_
 ·intro af y z G r W ah Z L;have x:=(FY.1 u).1;refine(hN 3 Y af j b p a.heap.size f v o aa y z G W ((r.cell (p:=⟨_,0,E⟩) t).trans U) ((r.block b x).trans u) x r.size t Z L).mono ?_;rintro q l ⟨m,n|n⟩
  ·exact⟨m,AT ⟨_,A,n⟩⟩
  ·exact⟨m,Ae ⟨_,A,n⟩⟩
 ·rintro q l ⟨v,rfl,m,n,S⟩;exact⟨_,A,m,S⟩
def hM(r:B)(Z:1<=r)(S p b f:B)(l:G B->AG->Prop)(a:AG)(F:Ti a.heap.size l)(U:a.cell? ⟨p,0,E⟩=C (Ah (C b)))(m:a.heap[b]?=C (AM #[] f))(x:l [] a):
 Jg Iz r An 317 #[BZ (GM S) #[] #[],P p] a λj t=>(∃v,j=BT v)/\l [] t:=by
 have L:∀n,Tryz.prog.underlying n=C (KK 3 4)->(Ll n (Ah (C b))).run An a=Ao (P a.heap.size) (a.alloc (Cy (C b) f #[] f)):=λn N=>by
  unfold Ll;simp only[Ak,Io N,Bp,LV a b #[] f m,Ex];rfl
 have Y:=L 275 Tryz.underlying275;have q:=(FY.1 m).1;have W:∀o,(Jj (P a.heap.size) I o).run An (a.alloc (Cy (C b) f #[] f))=Ao (AL #[X I]) (a.alloc (Cy (C b) f #[] f)):=λo=>by
  have y:(a.alloc (Cy (C b) f #[] f)).heap[a.heap.size]?=C (Cy (C b) f #[] f):=by
   show(a.heap.push _)[a.heap.size]?=_;simp
  have z:(a.alloc (Cy (C b) f #[] f)).heap[b]?=C (AM #[] f):=by
   show(a.heap.push _)[b]?=_;rw[QQ q,<-Lf q];exact m
  rcases Q6 (P:=An) _ o a.heap.size b f f #[] #[] f y z Y1 (AI _) with⟨_,u⟩|⟨j,M,_⟩
  ·exact u
  ·simp[LS] at M
 refine M_ ADR A AA ?_ A;simp only[Tryz.ntmps317,KV,C8,FV,KX,KY,Jc,Jd,KT,JY,Bz,DU];gi_wp2;gi_loopw [3] (λ_ wr=>wr=a.alloc (Cy (C b) f #[] f)) (λ_ wr=>0)
 case atStart=>rfl
 case round=>
  subst hrel;gi_wp2;go_end0;exact⟨⟨_,A⟩,F [] a _ E x (World.grownBy_alloc a _ E) (λaa j=>by cases j)⟩
def d7(f b n:B)(a:AG)(z:f<a.heap.size)(y:a.cell? ⟨f,0,E⟩=C (Ah (C b)))(q:a.heap[b]?=C (AM #[] n)):
 CL An 315 #[BZ (CA 317) #[] #[P f]] a λl j=>l=BT (O E 0 0)/\Bq a.heap.size a j:=by
 refine((Ny (n:=5)).1 (Oh Iz 5 AA AA A Y _ _ AA (enters_of ADR Y3 A) [] 0 A Y a (λS=>Be) ?_)).mono ?_
 ·intro G r L t p F M N u;refine(hM 3 Y G f b n r t F ((p.cell (p:=⟨_,0,E⟩) z).trans y) ((p.block b (FY.1 q).1).trans q) u).mono ?_;rintro l j ⟨o,m⟩;exact⟨o,AT ⟨_,A,m⟩⟩
 ·rintro l j ⟨v,rfl,o,m,x⟩;exact⟨by rw[m A],x⟩
end
def A9.am{args:G M}{p m:B}(ak:0<m)(al:er.length=m)(F:∀n q a,BA n q lg a->CL xx.b l args.toArray a λr j=>∃v,r=BT v/\j.ownsRow a.heap.size p 1 v m er/\Bq a.heap.size a j)
 (U:∀t f y,m<=f->f<=BP->y.length=f-m->xv (Q t m f) (.t t (er++y) p::lg)):A9 xx l args lg xv:=by
 refine⟨λn q a x=>(F n q a x).mono ?_⟩;rintro r j ⟨v,rfl,Y,L⟩;rcases Y.2 with⟨am,an⟩|⟨u,z,o,Z,aa,af,ag,ah,ai,aj⟩
 ·omega
 ·subst Z;have W:o.toList=er++o.toList.drop (m*1):=by rw[<-aj];exact(Hm _ _).symm
  have N:BU j u (er++o.toList.drop (m*1)).toArray p:=by
   rw[<-W];exact af
  exact⟨_,_,A,U u z _ ag ah (by rw[DV,QS,ai];omega),BA.y x L N aa⟩
def A9.al{args:G M}{v:M}(p:∀f m a,BA f m lg a->CL xx.b l args.toArray a λn o=>n=BT v/\Bq a.heap.size a o)(t:xv v lg):A9 xx l args lg xv:=
 ⟨λf m a j=>(p f m a j).mono λn o⟨q,r⟩=>⟨v,lg,q,t,⟨Dn.below j.b r,j.g⟩⟩⟩
def ACb(f:AC CW)(m j:B)(a:S):Z9 318 [O f m j] a λv n=>∃l,v=BZ (CA 396) #[] #[P l]/\n=.t l [O f m j] 48::a:=by
 refine A9.af A ?_;intro o;exact⟨o,A,A⟩
def AB8(j b l a m:B)(o:G B)(n:G M)(p q:AU)(z:o.length=a)(Z:(n.drop l).take a=o.map AD)(L:0<a/\a<=12):
 Z9 248 [BZ (CA 396) #[] #[P j]] [.t j [O (C ⟨b,l,E⟩) a m] p,.t b n q] λv W=>∃r f t,a<=f/\f<=BP/\t.length=f-a/\v=Q r a f/\W=[BJ r o.mergeSort t,.t j [O (C ⟨b,l,E⟩) a m] p,.t b n q]:=by
 refine A9.af A (A9.am (p:=3) (m:=a) (er:=o.map AD) L.1 (by simp[z]) (λaj am F U=>?_) (λr f t u x y=>?_))
 ·have N:BU F j #[O (C ⟨b,l,E⟩) a m] p:=BA.h (a:=[.t j [O (C ⟨b,l,E⟩) a m] p,.t b n q]) U;have S:BU F b n.toArray q:=BA.h (a:=[.t j [O (C ⟨b,l,E⟩) a m] p,.t b n q]) U;refine(d9 b l a m o z Y F j N.b S.b (by rw[N.e];rfl) (λag aa=>?_)).mono ?_
  ·rw[S.e];have:=AB (λah=>ah[ag]?) Z;simp only[Is,FU,D_,A8 aa] at this;simp only[LY,this,AD];rw[AY,Aw Y];rfl
  ·rintro ak al ⟨v,u,x,_,y⟩;exact⟨v,u,x,y⟩
 ·refine A9.ad (Pp r a f o t z L.2) Y0 (λv ai af=>?_);obtain rfl:=af;exact⟨r,f,t,u,x,y,A,A⟩
def WE(m:M)(a:S):Z9 397 [m] a λv j=>∃f,v=BZ (CA 482) #[] #[P f]/\j=.t f (B9 m) 284::a:=by
 refine A9.af A ?_;intro l;exact⟨l,A,A⟩
def hP(m:M)(a:S):Z9 249 [m] a λv j=>∃f,v=BZ (CA 317) #[] #[P f]/\j=.t f (B9 m) 275::a:=by
 refine A9.af A ?_;intro l;exact⟨l,A,A⟩
def AB5(a b j:B)(f:AU):
 AK 248 [BZ (CA 482) #[] #[P a]] [.t a [Ah (C b)] f,.o b (AM #[] j)] (O E 0 0):=by
 refine A9.af A (A9.al (v:=O E 0 0) (λq r n m=>?_) ?_)
 ·have l:BU n a #[Ah (C b)] f:=BA.h (a:=[.t a [Ah (C b)] f,.o b (AM #[] j)]) m;exact d6 a b j n l.b (by rw[l.e];rfl) (BA.i (a:=[.t a [Ah (C b)] f,.o b (AM #[] j)]) m)
 ·refine A9.ad (Ss []) Y0 (λv p o=>?_);obtain rfl:=o;exact⟨A,A⟩
def AB6(a b j:B)(f:AU):
 AK 248 [BZ (CA 317) #[] #[P a]] [.t a [Ah (C b)] f,.o b (AM #[] j)] (O E 0 0):=by
 refine A9.af A (A9.al (v:=O E 0 0) (λq r n m=>?_) ?_)
 ·have l:BU n a #[Ah (C b)] f:=BA.h (a:=[.t a [Ah (C b)] f,.o b (AM #[] j)]) m;exact d7 a b j n l.b (by rw[l.e];rfl) (BA.i (a:=[.t a [Ah (C b)] f,.o b (AM #[] j)]) m)
 ·refine A9.ad (Ss []) Y0 (λv p o=>?_);obtain rfl:=o;exact⟨A,A⟩
def AB7(f b l a:B)(v:M)(j:B)(z:j<l)(m:AU):
 Z9 248 [BZ (CA 482) #[] #[P f]] [.t f [Ah (C b)] m,.o b (AM #[⟨N (a:F),v,j⟩] l)] λL u=>∃n o p,L=Q n 1 o/\u=[BJ n [a] p,.t f [Ah (C b)] m,.o b (AM #[⟨N (a:F),v,j⟩] l)]:=by
 refine A9.af A (A9.am (p:=3) (m:=1) (er:=[AD a]) Y A (λU af t r=>?_) (λn o p W Z aa=>?_))
 ·have q:BU t f #[Ah (C b)] m:=BA.h (a:=[.t f [Ah (C b)] m,.o b (AM #[⟨N (a:F),v,j⟩] l)]) r;exact d8 f b l a v j z t q.b (by rw[q.e];rfl) (BA.i (a:=[.t f [Ah (C b)] m,.o b (AM #[⟨N (a:F),v,j⟩] l)]) r)
 ·refine A9.ad (Pp n 1 o [a] p A Y) Y0 (λv S G=>?_);obtain rfl:=G;refine⟨n,o,p,A,?_⟩;have y:[a].mergeSort (λx b=>Ac (x<=b))=[a]:=Y1;rw[y];rfl
def TA(a:B):(Jf (D BQ 0).cells a).toList=C1 (U a 0):=by
 apply Gj;intro j;by_cases f:j<a
 ·simp[Jf,TH,C1,f,AEt]
 ·simp[Jf,TH,C1,f]
section
variable{c:GN}{f:Ai Al}{g:G Al}{e:Al}{a:C9}{w:AG}{d:Exit->C9->AG->Prop}
end
variable{xw:BR}{yg:AG}
def BA.z(j:BA xw xs lg yg)(f:G M)(a:AU):BA xw xs (.t yg.heap.size f a::lg) (yg.drew.alloc (CP f.toArray a)):=BA.u (w:=yg.drew) j.t f a
variable{zb:GL}
def Cr.ar{o:Al}{n p a m:B}{u:Ej}(af:o.op=FH zb)(G:zb.callee=Ei Je)(ak:zb.argTypes=#[n,p])
 (z:DK yc zb.args.toList=C [O E 0 0,N (m:F)])(ai:xx.c n=C (FC a))(aj:xx.c p=C (JX u))(Z:xx.e a=C yq)(al:yq.zero=C yb)(l:(B9 yb).length=yq.size/\0<yq.size)(y:0<m)(t:m<=1000000000/\yq.bytes<=1000)
 (aa:∀q j,m<=j->j<=BP->xv (Q q m j) (.t q (D8 (B9 yb) (j*yq.size)) a::lg)):Cr xx o yc lg xv:=by
 refine Cr.ac af G z λam aq f an ah=>?_;have ao:=QJ t.1 t.2;have r:=Lib.run_append_nil_zeros (P:=xx.b) f n p o.type a yq yb H u (xx.f ai) (xx.f aj) (xx.i _ _ Z) al m y l.2 Y Y;have W:=ADh f m 0 a;have L:Ma f m 0 a<=BP:=ADi f m 0 a AF2;have U:(Jf yb.cells m++Jf yb.cells (Ma f m 0 a-m))=(D8 (B9 yb) (Ma f m 0 a*yq.size)).toArray:=by
  rw[H8,T9,T9,l.1];obtain⟨x,ag⟩:∃x,Ma f m 0 a=m+x:=⟨Ma f m 0 a-m,Y⟩;rw[ag,Nat.add_sub_cancel_left];apply G4;simp only[a7,JY];unfold D8;rw[QF,List.range_add,CU];congr 1;rw[Iu];refine It λap _=>?_;simp only[Function.comp_def];rw[<-l.1,L_,Nat.add_mul_mod_self_right]
 rw[U] at r;refine⟨_,_,_,?_,aa f.heap.size _ W L,ah.z _ _⟩;simp only[GG];rw[ak,Ak,r];rfl
def Ii(a:G B):C1 a=a.map W:=by simp[C1,W]
def Cr.aq{o:Al}{aq:AP}{ap x:S}{ax:M->S->Prop}{t:GL}{j z L m:B}{a:G B}{f:G M}(be:o.op=FH t)(a6:t.callee=Ei Je)(bj:t.argTypes=#[31,3])
 (a5:DK aq t.args.toList=C [Q j z L,N (m:F)])(bc:a.length=z/\a.length+f.length=L)(a4:ap.Perm (AJ j a f::x))(bn:L<=BP/\a.length+m<=1000000000)
 (ag:∀ar an,a.length+m+an.length<=BP->ax (Q ar (z+m) (z+m+an.length)) (AJ ar (a++U m 0) an::x)):Cr A4 o aq ap ax:=by
 refine Cr.u (AQ.u a4) ?_;obtain⟨rfl,rfl⟩:=bc;refine Cr.ac be a6 a5 λbm bo l q u=>?_;have au:BU l j (a.map W++f).toArray 5:=BA.h (a:=AJ j a f::x) u;have aj:=A4.f (m:=31) (n:=FC 5) A;have ak:=A4.f (m:=3) (n:=JX H) A;obtain⟨n,af,aw,ai,y⟩:∃n,A4.b.info? 5=C n/\n.zero=C (D BQ 0)/\n.size=1/\n.bytes=1:=⟨_,A4.i 5 _ A,A,A,A⟩;have bk:IntKind.i64.wrap (m:F)=m:=A3 Y;have bd:¬((m:F)<0):=Y;have a2:¬(281474976710656<(m:F)):=Y;have bl:IntKind.i64.wrap (0:F)=0:=A;have aa:∀(q:Ai AE)(v:M)(r:AG),(Tk #[31,3] o.type #[Q j a.length (a.length+f.length),N (m:F)]).run A4.b l=Ao v r->(GG Je t.argTypes o.type q [Q j a.length (a.length+f.length),N (m:F)].toArray).run A4.b l=Ao (Kf v) r:=λq v r a1=>by
  simp only[GG];rw[bj,Ak,a1];rfl
 by_cases av:m=0
 ·subst av;refine⟨_,l,_,aa q (Q j a.length (a.length+f.length)) l ?_,ag j f Y,?_⟩
  ·simp[Tk,Io aj,Io ak,sizeOf,typeInfo,af,ai,y,asInt,ZQ,bl,storeCells]
  ·rw[List.replicate_zero,B1];exact u
 by_cases bi:a.length+m<=a.length+f.length
 ·obtain⟨r,ay,Z,az⟩:=Nl A4.b (j:=j) (f:=a.length) (t:=5) (C1 (U m 0)) 0 au (by rw[Ii];simp;omega) (by rw[Ii];simp[W,B']);rw[L',FN _ _ _ (by rw[Ii];simp;omega)] at Z;have a0:(a.map W++f).take a.length++(C1 (U m 0)++(a.map W++f).drop (a.length+(C1 (U m 0)).length))=(a++U m 0).map W++f.drop m:=by
   rw[Ii,C_ Y1,CU,BS];congr 2;rw[BW,BI,<-FD,Mf Y1]
  rw[a0] at Z;have bg:m<=f.length:=Y;have bh:¬f.length<m:=Y;refine⟨_,r,_,aa q (Q j (a.length+m) (a.length+f.length)) r ?_,?_,BA.ab u az Z (AT A)⟩
  ·simp[Tk,Io aj,Io ak,sizeOf,typeInfo,KL,af,ai,aw,y,asInt,ZQ,bk,bd,a2,av,bi,bg,bh,Addr.add_lit,TA,ay]
  ·have:=ag j (f.drop m) (by rw[DV];omega);rw[DV,show a.length+m+(f.length-m)=a.length+f.length by omega] at this;exact this
 ·have bf:∀am ao,(C1 a)[am]?=C ao->l.drew.cell? ((⟨j,0,E⟩:CW).add am)=C ao:=λam ao al=>by
   rw[Addr.b];show l.cell? _=_;rw[au.e,LY,BF];rw[Ii] at al;rw[Di (by have:=(Cx.1 al).1;simpa using this)];exact al
  have ba:=run_firstCells_some (P:=A4.b) l.drew n.size a.length ⟨j,0,E⟩ a.length (a.length+f.length) (C1 a) (by rw[ai,Ii];simp) bf;have ah:=Lib.run_append_grow_zeros (P:=A4.b) l 31 3 o.type 5 n (D BQ 0) H H aj ak af aw (V j) a.length (a.length+f.length) (C1 a) ba m Y Y Y Y (by rw[y];omega) (by have:=growslice_fits (need:=a.length+m) (old:=a.length+f.length) (bytes:=n.bytes) Y (by rw[y];omega);exact this);have bb:=ADh l (a.length+m) (a.length+f.length) 5;have a8:Ma l (a.length+m) (a.length+f.length) 5<=BP:=ADi l _ _ _ AF2;obtain⟨p,a3⟩:∃p,Ma l (a.length+m) (a.length+f.length) 5=p:=⟨_,A⟩;rw[a3] at ah bb a8;have a9:(C1 a).toArray++Jf (D BQ 0).cells m++Jf (D BQ 0).cells (p-(a.length+m))=((a++U m 0).map W++(U (p-(a.length+m)) 0).map W).toArray:=by
   apply G4;simp only[a7,TA,Ii,CU]
  rw[a9] at ah;refine⟨_,_,_,aa q _ _ ah,?_,(BA.z (lg:=x) ?_ _ _)⟩
  ·have:=ag l.heap.size ((U (p-(a.length+m)) 0).map W) AF5;rw[BW,BI,show a.length+m+(p-(a.length+m))=p by omega] at this;exact this
  ·exact⟨Dn.x u.b,u.g⟩
def SM(f:(er.drop l).take p=q.map AD)(a:np<p)(m:q.length=p):er[l+np*1]?=C (AD (q.getD np 0)):=by
 have:=AB (λj=>j[np]?) f;simp only[Is,FU,D_,A8 a] at this;rw[B3,this,AY,Aw Y];rfl
def Oe(o r a u:B)(m:G B)(n:G M)(p:AU)(aa:a<=1000000)(z:(n.drop r).take a=m.map AD)(F:m.length=a)(U:0<a):
 Z9 123 [O (C ⟨o,r,E⟩) a u] [.t o n p] λv t=>∃l f j,a<=f/\f<=BP/\j.length=f-a/\v=Q l a f/\t=[BJ l m j,.t o n p]:=by
 refine A9.y ?_;refine L ?_;intro S;refine Cr.y (j:=_) A A A A A A A ⟨A,Z⟩ ⟨A,Z,Z⟩ (m.map AD) ?_ (by simp[F]:_=a*1) ?_ ⟨Y,Z⟩ ?_
 ·rw[<-z];exact AB (λN=>GJ N _) (B3 a)
 ·simp[AD,B']
 intro l f j q x y;have W:j.length=(f-(0+a))*1:=y;rw[BF] at q;exact⟨l,f,j,q,x,Y,by simp only[FA,BF],A⟩
def HZ(f:G B)(v:F):F:=match f.findIdx? λj:B=>(j:F)==v with
 |some a=>(a:F)
 |none=>-1
def Rl{v:F}(f:∀a∈q,(a:F)≠v):HZ q v=-1:=by
 unfold HZ;have:q.findIdx? (λa:B=>(a:F)==v)=E:=by
  rw[O1];intro a j;simpa using f a j
 rw[this]
def WB{v:F}(m:l<q.length)(j:(q.getD l 0:B)=v)(n:∀a,a<l->((q.getD a 0:B):F)≠v):HZ q v=l:=by
 unfold HZ;have p:∀a,a<q.length->q.getD a 0=q[a]!:=λa f=>by
  rw[AY,Aw f];simp[f]
 have:q.findIdx? (λo:B=>(o:F)==v)=C l:=by
  rw[O2];refine⟨m,?_,λa f=>?_⟩
  ·rw[AY,Aw m] at j;simpa using j
  ·have:=n a f;rw[AY,Aw Y] at this;simpa using this
 rw[this]
def W7(o x f z:B)(j:G B)(q:G M)(y:AU)(m:F)(W:j.length=f)(U:(q.drop x).take f=j.map AD)(ah:f<=1000000):
 AK 398 [O (C ⟨o,x,E⟩) f z,N m] [.t o q y] (N (HZ j m)):=by
 refine A9.y ?_;refine EY.g (m:=B) (λa=>f-a) (λa=>a<=f/\∀l,l<a->((j.getD l 0:B):F)≠m) (λa=>[(0,O (C ⟨o,x,E⟩) f z),(1,N m),(7,N f),(8,N (a:B))]) (λ_=>[.t o q y]) 0 ⟨Af _,λl t=>Y⟩ ⟨A,A,A,A,AA⟩ A ?_;rintro a ⟨ag,u⟩ aa;refine EY.b (IK.mk (λn=>?_) (λn=>?_))
 ·have n:a<f:=by simp at n;omega
  refine A7 ?_;refine Ms.mk (v:=AD (j.getD a 0)) ?_ ?_
  ·exact SM U n W
  by_cases p:((j.getD a 0:B):F)=m
  ·have af:(m==((j.getD a 0:B):F))=R:=by simp only[F1];exact p.symm
   refine L ?_;exact⟨by rw[WB Y p u];rfl,A⟩
  ·have af:(m==((j.getD a 0:B):F))=I:=by simp only[Bv];exactλr=>p r.symm
   refine L ?_;refine F'.mk ((a+1:B):F) Y2 (aa (a+1) ⟨Y,λl t=>?_⟩ Y ⟨A,A,A,A,AA⟩ A);by_cases r:l=a
   ·subst r;exact p
   ·exact u l Y
 ·have n:a=f:=by simp at n;omega
  refine⟨?_,A⟩;have S:HZ j m=-1:=Rl λai Z=>by
   obtain⟨l,t,rfl⟩:=O3 Z;have:=u l Y;rwa[AY,Aw t] at this
  rw[S];rfl
def hG:Ac (HZ q (l:F)≥0)=q.contains l:=by
 unfold HZ;cases h:q.findIdx? (λo:B=>(o:F)==(l:F)) with
 |none=>
  rw[O1] at h;have:q.contains l=I:=by
   rw[a8];intro f;rw[Gi] at f;simpa using h l f
  rw[this];rfl
 |some a=>
  rw[O2] at h;obtain⟨n,m,_⟩:=h;have:q.contains l=R:=by
   rw[Gi];have p:((q[a]:B):F)=(l:F):=by simpa using m
   have j:q[a]=l:=Y;exact j▸Gk n
  rw[this];exact DH (by show(0:F)<=(a:F);omega)
def V2(l m a p:B)(f:G B)(j:G M)(o:AU)(n:B)(t:f.length=a)(q:(j.drop m).take a=f.map AD)(r:a<=1000000):
 AK 344 [O (C ⟨l,m,E⟩) a p,N (n:B)] [.t l j o] (X (f.contains n)):=by
 refine A9.y ?_;exact A9.b (W7 l m a p f j o n t q r) ⟨by rw[<-hG];rfl,A⟩
def dJ(l:F)(a:S):AK 344 [O E 0 0,N l] a (X I):=by
 refine A9.y ?_;refine A9.z (m:=λv f=>v=N (-1)/\f=a) (A9.af A ?_) λv f j=>?_
 ·refine EY.b (L ?_);exact⟨A,A⟩
 ·obtain⟨rfl,rfl⟩:=j;exact⟨A,A⟩
def Z4{P:Prop}(h:P:=by simp only[beq_eq_false_iff_ne];omega):P:=h
def dA(m n f o:B)(j:G B)(p:G M)(q:AU)(t:j.length=f)(r:(p.drop n).take f=j.map AD)(U:f<=1000000)(x:∀a,a+1<f->j.getD a 0<j.getD (a+1) 0):
 AK 319 [O (C ⟨m,n,E⟩) f o] [.t m p q] (O (C ⟨m,n,E⟩) f o):=by
 refine A9.y ?_;refine IK.mk (λl=>?_) (λl=>?_)
 ·exact⟨A,A⟩
 ·have l:2<=f:=by simp at l;omega
  refine EY.g (m:=B) (λa=>f-a) (λa=>1<=a/\a<=f) (λa=>[(0,O (C ⟨m,n,E⟩) f o),(3,N (a:B))]) (λ_=>[.t m p q]) 1 ⟨AI _,Y⟩ ⟨A,A,AA⟩ A ?_;rintro a ⟨z,S⟩ y;refine EY.b (IK.mk (λl=>?_) (λl=>?_))
  ·have l:a<f:=by simp at l;omega
   have u:=x (a-1) Y;rw[show a-1+1=a by omega] at u;have W:(((j.getD a 0:B):F)==((j.getD (a-1) 0:B):F))=I:=Z4;refine A7 ?_;refine Ms.mk (v:=AD (j.getD a 0)) ?_ ?_
   ·exact SM r l t
   refine F'.mk ((a-1:B):F) Y4 (A' ?_);refine Ms.mk (v:=AD (j.getD (a-1) 0)) ?_ ?_
   ·exact SM r Y t
   refine L ?_;exact F'.mk ((a+1:B):F) Y2 (y (a+1) ⟨Y,Y⟩ Y ⟨A,A,AA⟩ A)
  ·exact⟨A,A⟩
def g'(f:B)(n:0<f/\f<=1000000)(l:S):Z9 483 [O E 0 0,N f] l λv m=>∃j a,f<=a/\a<=BP/\v=Q j 0 a/\m=.t j (U a (AD 0)) 3::l:=by
 have q:=Aa ((f:F)<0);have r:=B7 ((f:F)>0);refine A9.y ?_;refine A7 ?_;refine Qp.mk 0 0 0 0 A A A Y A A ?_;refine Cr.ar (yq:=_) (yb:=_) A A A A A A A A ⟨A,Z⟩ n.1 ⟨Y,Z⟩ (λj a o p=>?_);refine Qp.mk 0 0 a 0 A A A Y A (by split<;>omega) ⟨j,a,o,p,?_,?_⟩
 ·show O _ (0-0) (a-0)=_;rfl
 ·show BL.t j (D8 [AD 0] (a*1)) _::l=_;rw[B3,DM]
def dG(o j p a u q f x:B)(l n:G B)(m:G M)(r t:AU)(N:l.length=a)(ak:n.length=f)(ao:(m.drop p).take a=l.map AD)(ap:(m.drop q).take f=n.map AD)(aj:0<a+f/\a+f<=100000):
 Z9 399 [Q o 2 2] [.t o [O (C ⟨j,p,E⟩) a u,O (C ⟨j,q,E⟩) f x] t,.t j m r] λv ah=>∃z y aq,a+f<=y/\v=Q z (a+f) y/\ah=[BJ z (l++n) aq,.t o [O (C ⟨j,p,E⟩) a u,O (C ⟨j,q,E⟩) f x] t,.t j m r]:=by
 have a3:=Aa ((a:F)<0);have a4:=Aa (((a+f:B):F)<0);refine A9.y ?_;refine EY.b (A' ?_);refine F'.mk (a:F) Y4 ?_;refine L ?_;refine F'.mk 1 A (EY.b (A' ?_));refine F'.mk ((a+f:B):F) Y2 (L ?_);refine F'.mk 2 A (EY.b (L ?_));refine A9.z (g' (a+f) ⟨aj.1,Y⟩ _) ?_;rintro v au ⟨z,y,ax,al,rfl,rfl⟩;refine EY.b (A7 ?_);have a2:BP=9223372036854775807:=A;refine Cr.y (j:=_) A A A A A A A ⟨A,Z⟩ ⟨?_,Y,al⟩ (l.map AD) ?_ ?_ (by simp[AD,B']) ⟨Y,Z⟩ (λav W S ay am an=>?_)
 ·rw[BI];exact(B3 _).symm
 ·rw[<-ao];exact AB (λU=>GJ U _) (B3 a)
 ·rw[BW,N];exact(B3 _).symm
 refine F'.mk 1 A (EY.b (A7 ?_));have az:S.length=(W-(0+a))*1:=an;refine Cr.y (j:=_) A A A A A A A ⟨A,Z⟩ ⟨?_,Y,am⟩ (n.map AD) ?_ ?_ (by simp[AD,B']) ⟨Y,Z⟩ (λaf aa ag a0 a1 aw=>?_)
 ·simp only[Mn,Hn,Bz,Ad,BW,N];show a+S.length=W*1;omega
 ·rw[<-ap];exact AB (λU=>GJ U _) (B3 f)
 ·rw[BW,ak];exact(B3 _).symm
 refine F'.mk 2 A (EY.b (L ?_));refine⟨af,aa,ag,Y,?_,?_⟩
 ·show O _ (0+a+f) aa=_;rw[BF]
 ·simp only[Mn,Hn,Bz];have ai:GJ ((0+a)*1) (l.map AD++S)=l.map AD:=C_ (by rw[BW,N];omega);refine(AB (λar=>[BL.t af (ar++n.map AD++ag) 3,.t o [O (C ⟨j,p,E⟩) a u,O (C ⟨j,q,E⟩) f x] t,.t j m r]) ai).trans ?_;rw[<-CU]
def A9.ac{l:Am}{m:B}{args:G M}{j a:S}{o n:M->S->Prop}(p:A9 l m args a o)(q:∀v f,o v f->n v (j++f)):A9 l m args (j++a) n:=
 A9.aa (A9.ai p Cj λv f r=>⟨j++f,AQ.u Cj,q v f r⟩)
section
variable{g h c d:B}{fs fc:G M}{e:Fr}{f:G B}{j:G M}{a:S}{i:B->AE}
def JJ(f:G B)(i:B->AE):F:=match f.findIdx? i with
 |some a=>(a:F)
 |none=>-1
def JH{f:G B}{j:B}(a:j<f.length):f.getD j 0∈f:=by
 rw[AY,Aw a];exact Gk a
def h9(x:A4.h d=C e)(S:f.length=h)(U:h<=1000000)(y:∀t∈f,AK d (fs++[AD t]++fc) a (X (i t))):
 AK 314 [Q g h c,BZ (CA d) fs.toArray fc.toArray] (BJ g f j::a) (N (JJ f i)):=by
 refine A9.y ?_;refine EY.g (m:=B) (λl=>h-l) (λl=>l<=h/\∀m,m<l->i (f.getD m 0)=I) (λl=>[(0,Q g h c),(1,BZ (CA d) fs.toArray fc.toArray),(7,N h),(8,N (l:B))]) (λ_=>BJ g f j::a) 0 ⟨Af _,λm n=>Y⟩ ⟨A,A,A,A,AA⟩ A ?_;rintro l ⟨M,r⟩ G;refine EY.b (IK.mk (λo=>?_) (λo=>?_))
 ·have o:l<h:=by simp at o;omega
  refine A7 ?_;refine Ms.mk (v:=AD (f.getD l 0)) ?_ ?_
  ·exact H4 Y
  conv=>whnf
  rw[x];refine A9.ac (j:=[BJ g f j]) (y _ (JH Y)) ?_;rintro v L ⟨rfl,rfl⟩;refine IK.mk (λp=>?_) (λp=>?_)
  ·refine⟨?_,A⟩;have:f.findIdx? i=C l:=by
    rw[O2];refine⟨Y,?_,λm n=>?_⟩
    ·rw[AY,Aw Y] at p;exact p
    ·have:=r m n;rw[AY,Aw Y] at this;simpa using this
   have q:JJ f i=l:=by unfold JJ;rw[this]
   rw[q];rfl
  ·refine F'.mk ((l+1:B):F) Y2 (G (l+1) ⟨Y,λm n=>?_⟩ Y ⟨A,A,A,A,AA⟩ A);by_cases u:m=l
   ·subst u;exact p
   ·exact r m Y
 ·have o:l=h:=by simp at o;omega
  refine⟨?_,A⟩;have:f.findIdx? i=E:=by
   rw[O1];intro W z;obtain⟨m,n,rfl⟩:=O3 z;have:=r m Y;rwa[AY,Aw n] at this
  have q:JJ f i=-1:=by unfold JJ;rw[this]
  rw[q];rfl
def Vc(f:G B)(i:B->AE){a:B}(l:a<f.length):(f.take (a+1)).filter i=(f.take a).filter i++if i (f.getD a 0) then[f.getD a 0] else[]:=by
 rw[KW,Aw l,EO,AY,Aw l];simp only[a2,IG];congr 1;by_cases j:i f[a]=R
 ·simp[j]
 ·simp[j]
def V7(ag:A4.h d=C e)(S:f.length=h)(ar:h<=1000000)(ay:h<=c)(ai:∀l∈f,AK d (fs++[AD l]++fc) a (X (i l))):
 Z9 320 [Q g h c,BZ (CA d) fs.toArray fc.toArray] (BJ g f j::a) λv al=>∃ak,ak.length+(f.filter λl=>!i l).length=j.length+h/\v=Q g (f.filter λl=>!i l).length c/\al=BJ g (f.filter λl=>!i l) ak::a:=by
 refine A9.y ?_;refine A9.ab (h9 ag S ar ai) ?_;cases r:f.findIdx? i with
 |none=>
  have y:JJ f i=-1:=by unfold JJ;rw[r]
  rw[y];have ap:(f.filter λl=>!i l)=f:=by
   rw[Zd];intro l W;rw[O1] at r;rw[r l W];rfl
  rw[ap];refine L ?_;exact⟨j,Y,by rw[S];rfl,A⟩
 |some p=>
  have y:JJ f i=p:=by unfold JJ;rw[r]
  rw[y];rw[O2] at r;obtain⟨ah,au,an⟩:=r;have az:((p:F)==-1)=I:=Z4;refine L ?_;refine F'.mk ((p+1:B):F) Y2 ?_;have av:(f.take (p+1)).filter (λl=>!i l)=f.take p:=by
   rw[Vc f _ ah,AY,Aw ah];simp only[IG,au,Bool.not_true,Bool.false_eq_true,Hp,B1];rw[Zd];intro l W;obtain⟨m,M,rfl⟩:=O3 W;rw[Ci] at M;rw[List.getElem_take];have:=an m Y;simpa using this
  refine EY.g (m:=B×B×G B) (λl=>h-l.1) (λl=>l.1<=h/\l.2.1<l.1/\l.2.2.length=h/\l.2.2.take l.2.1=(f.take l.1).filter (λaa=>!i aa)/\l.2.2.drop l.1=f.drop l.1)
   (λl=>[(0,Q g h c),(1,BZ (CA d) fs.toArray fc.toArray),(5,N (l.2.1:B)),(6,N (l.1:B))]) (λl=>BJ g l.2.2 j::a) (p+1,p,f) ⟨by show p+1<=h;omega,by show p<p+1;omega,S,av.symm,A⟩ ⟨A,A,A,A,AA⟩ A ?_
  rintro⟨m,n,o⟩ ⟨M,aq,z,q,u⟩ aj;dsimp only at M aq z q u;refine EY.b (IK.mk (λt=>?_) (λt=>?_))
  ·have t:m<h:=by simp at t;omega
   have ao:o.getD m 0=f.getD m 0:=by
    have:=AB (λaw=>aw[0]?) u;simp only[FU,L'] at this;rw[AY,AY,this]
   refine A7 ?_;refine Ms.mk (v:=AD (o.getD m 0)) ?_ ?_
   ·exact H4 (q:=o) Y
   rw[ao];conv=>whnf
   rw[ag];refine A9.ac (j:=[BJ g o j]) (ai _ (JH Y)) ?_;rintro v ax ⟨rfl,rfl⟩;have x:=Vc f (λaa=>!i aa) (a:=m) Y;refine IK.mk (λZ=>?_) (λZ=>?_)
   ·rw[Z,A8 A] at x;refine Qh.mk n A Y (Mw.mk ⟨A,Y5⟩ (F'.mk ((n+1:B):F) Z1 (F'.mk ((m+1:B):F) Y2 (aj (m+1,n+1,o.set n (f.getD m 0)) ⟨by show m+1<=h;omega,by show n+1<m+1;omega,by show(o.set _ _).length=h;simp[z],?_,?_⟩ (by show h-(m+1)<h-m;omega) ⟨A,A,A,A,AA⟩ ?_))))
    ·show(o.set n _).take (n+1)=_;rw[x,<-q,AEa,KW,Aw Y,a2,O8 _ _ Z3,Ci,show n-Bj n o.length=0 by omega];rfl
    ·show(o.set n _).drop (m+1)=_;rw[AEO Y,<-FD (i:=1) (j:=m),u,FD]
    ·have:=Ri (q:=o) (er:=j) (a:=n) (v:=f.getD m 0) Y;show BL.t g ((o.map AD++j).set (0+n*1) (AD (f.getD m 0))) _::_=_;rw[this];rfl
   ·rw[Z] at x;refine F'.mk ((m+1:B):F) Y2 (aj (m+1,n,o) ⟨by show m+1<=h;omega,by show n<m+1;omega,z,?_,?_⟩ (by show h-(m+1)<h-m;omega) ⟨A,A,A,A,AA⟩ A)
    ·show o.take n=_;rw[x,q];simp
    ·show o.drop (m+1)=_;rw[<-FD (i:=1) (j:=m),u,FD]
  ·have t:m=h:=by simp at t;omega
   subst t;rw[DP (l:=f) Y] at q;have af:(f.filter λl=>!i l).length=n:=by rw[<-q,Ci];omega
   refine Qp.mk n m c n A A A ⟨Y,Y,AI _⟩ A (by split<;>omega) (Cr.au (y:=_) (r:=_) A A A A A A A Y (U (m-n) (AD 0)) ((AB _ (B3 _)).trans (DM _ _)) ?_ (by simp[AD,B']) ?_)
   ·simp;omega
   refine Qp.mk 0 n c 0 A A A Y A (by split<;>omega) ?_;have am:Bf (o.map AD++j) n (U (m-n) (AD 0))=(f.filter λl=>!i l).map AD++(U (m-n) (AD 0)++j):=by
    rw[FN _ _ _ Y5,<-q,Eg Y5,Hk,IB Y5];congr 2;rw[LX Y5,Bz]
   refine⟨U (m-n) (AD 0)++j,by rw[af];simp;omega,by rw[af];rfl,?_⟩;show BL.t g (Bf (o.map AD++j) n (U (m-n) (AD 0))) _::a=_;rw[am]
end
def fV{f:G B}{i:B->AE}(j:∀a∈f,i a=I):(f.filter λa=>!i a)=f:=by
 rw[Zd];intro a l;rw[j a l];rfl
def dI(j:M)(a:S):AK 241 [O E 0 0,j] a (X I):=by
 refine A9.y ?_;refine A9.z (m:=λv f=>v=N (-1)/\f=a) (A9.af A ?_) λv f l=>?_
 ·refine EY.b (L ?_);exact⟨A,A⟩
 ·obtain⟨rfl,rfl⟩:=l;exact⟨A,A⟩
def iM(f:B)(a:Bl)(n:a.ab):Z9 156 [P f,N 192,O E 0 0] [.u (CB f a)] λv m=>∃j l,v=AL #[P j,N 0]/\m=AX.b j f ⟨a,0⟩ l:=by
 refine A9.t ?_;refine A9.b (LJ f a n) ?_;intro o;refine A' ?_;refine F'.mk 192 A (L ?_);refine A9.b (dI _ _) (L ?_);intro l j;refine EY.b (L ?_);exact⟨_,AQ.b (g:=AX.b j f ⟨a,0⟩ l),j,l,A,A⟩
def PG(a l j:B)(f:AX):AK 244 [P a] (f.b a l j) (N 192):=by
 refine A9.y ?_;refine L ?_;exact⟨A,A⟩
def Wa(f a l:B)(j:AX):AK 185 [P f] (j.b f a l) (P a):=by
 refine A9.y ?_;refine L ?_;exact⟨A,A⟩
def NL(a l j:B)(m:F)(f:AX):AK 162 [P a,N m] (f.b a l j) (X I):=by
 refine A9.y ?_;refine L ?_;refine E7.b (yq:=_) (yb:=_) (yp:=#[]) (yi:=0) (yx:=[]) A A A A A A A A ?_;exact⟨A,A⟩
def c4(f l a:B)(j:AX):AK 164 [P f] (j.b f l a) (O E 0 0):=by
 refine A9.t ?_;refine L ?_;refine A9.u (hP (Ah (C a)) []) ?_;rintro v n ⟨m,rfl,rfl⟩;refine A9.b (AB6 m a 0 _) ?_;exact⟨_,AQ.b (g:=j.b f l a),A,A⟩
def AFe{P:Prop}(h:P:=by exact Int.le_of_lt (Int.pow_pos (by decide))):P:=h
def Po(v a:B)(l:a<=8):(v:F).fdiv (2^Bj ((8*a:B):F).toNat 64)=((v/256^a:B):F):=by
 have f:Bj ((8*a:B):F).toNat 64=8*a:=Y;rw[f,TO _ AFe];have j:((2:F)^(8*a))=((256^a:B):F):=by
  rw[TP,AED];rfl
 rw[j];rfl
def KH(a:B):IntKind.u8.wrap (a:F)=((a%256:B):F):=by
 unfold Kd;simp[Kb,Kc]
def cL(a:G B):(a.map W).all B'=R:=by simp[W,B']
def FR(f a:B):G B:=[83,76,79,84]++AS f a
def Gc(f a:B):(FR f a).length=4+a:=by simp[FR,BK];omega
def ABO(f a:B):FR f (a+1)=FR f a++[f/256^a%256]:=by simp[FR,WP]
def Np(a:B):K.cn 192 a E=(FR a 8++[0,0])++U 178 0:=by
 unfold K.cn;simp[FR,BK]
abbrev C6(v:AC (G B))(l f a:B):Ai CO:=match v with
 |none=>#[]
 |some j=>#[⟨N 0,Q l j.length f,a⟩]
abbrev I5(v:AC (G B))(f:B)(j:G M):S:=match v with
 |none=>[]
 |some a=>[AJ f a j]
def Nq(f:B)(a:G B)(j:a.length<=175):K.cn 192 f (C a)=((FR f 8++[1,0])++[0,a.length%256,a.length/256%256]++a)++U (192-(17+a.length)) 0:=by
 unfold K.cn;simp only[FR,BS,Ad,C8,FV,BK,DU,Bz];rw[show 8+(a.length+1+1+1+1+1)+1+1+1+1=17+a.length by omega]
def ABP(S j z y r q p t f m:B)(ai:G M)(v:AC (G B))(x:AX)(aa af ag ah:M)(b4:t<18446744073709551616)(bl:∀a,v=C a->0<a.length/\a.length<=175/\(∀bd∈a,bd<256))(a0:El (C6 v f m p) q):
 Z9 321 [P S,D Au t,Ah (C r)] (.t S [P j,aa,af,ag,ah] 477::.o r (AM (C6 v f m p) q)::(x.b j z y++I5 v f ai))
  λa3 bc=>∃au aj,192+aj.length<=BP/\a3=Q au 192 (192+aj.length)/\bc=AJ au (K.cn 192 t v) aj::.t S [P j,aa,af,ag,ah] 477::.o r (AM (C6 v f m p) q)::(x.b j z y++I5 v f ai):=by
 have b3:BP=9223372036854775807:=A;have b5:∀l,l<=8->((t/256^l%256:B):F)=((t/256^l%256:B):F):=λ_ _=>A;refine A9.t (L ?_);intro be;refine Cr.al A A A A (EY.b (L ?_));refine F'.mk ((8*0:B):F) A (A7 ?_);refine F'.mk _ (Po t 0 Y) (F'.mk _ (KH _) ?_);intro br;refine Cr.ax (a:=_) (ag:=_) (n:=([83,76,79,84]:G B).map W) A A A A A A A ⟨A,Z⟩ (λbp b8 b7 bj bm a3 bk=>Rr (g:=be) bj bm a3 bk) A Z [W (t/256^0%256)] A A ⟨Z,Z⟩ (λav ao al bv bx a6=>?_);refine F'.mk 1 A ?_;refine EY.f (m:=B×B×G M) (λo=>8-o.1) (λo=>1<=o.1/\o.1<=8/\4+o.1+o.2.2.length<=BP) (λo=>[(0,P S),(1,D Au t),(2,Ah (C r)),(7,Q (o.2.1) (4+o.1) (4+o.1+o.2.2.length)),(14,N (o.1:B))])
  (λo=>AJ o.2.1 (FR t o.1) o.2.2::.t S [P j,aa,af,ag,ah] 477::.o r (AM (C6 v f m p) q)::(x.b j z y++I5 v f ai)) (1,av,al) ⟨AI 1,(by omega:1<=8),?_⟩ ?_ ?_ ?_
 ·have bg:al.length=(ao-(4+1))*1:=a6;show 4+1+al.length<=BP;omega
 ·have bg:al.length=(ao-(4+1))*1:=a6;refine⟨A,A,A,?_,A,AA⟩;show C (O (V av) (4+1) ao)=C (Q av (4+1) (4+1+al.length));rw[show 4+1+al.length=ao by omega]
 ·exact AQ.z _ ((AQ.y _).t (AQ.y _))
 rintro⟨l,au,aj⟩ ⟨a7,a8,a9⟩ bb;dsimp only at a7 a8 a9;refine EY.b (IK.mk (λak=>?_) (λak=>?_))
 ·have ak:l<8:=by simp at ak;omega
  refine F'.mk ((8*l:B):F) Y4 (A' ?_);refine F'.mk _ (Po t l Y) (F'.mk _ (KH _) ?_);intro an;refine Cr.v (f:=FR t l) (h:=aj) (a:=.t an [W (t/256^l%256)] 5::.t S [P j,aa,af,ag,ah] 477::.o r (AM (C6 v f m p) q)::(x.b j z y++I5 v f ai)) A A A A ⟨Gc _ _,by rw[Gc]⟩ (D3 _ _ _) [t/256^l%256] A A ⟨a9,by rw[Gc];omega⟩ (λaw am az=>?_);refine F'.mk ((l+1:B):F) Z1 ?_;rw[<-ABO,Gc];rw[Gc] at az;refine bb (l+1,aw,am) ⟨by show 1<=l+1;omega,by show l+1<=8;omega,by show 4+(l+1)+am.length<=BP;omega⟩ (by show 8-(l+1)<8-l;omega) ⟨A,A,A,A,A,AA⟩ (AQ.z _ (AQ.y _))
 ·have ak:l=8:=by simp at ak;omega
  subst ak;clear bb a7 a8;obtain⟨n,aq⟩:∃n,FR t 8=n:=⟨_,A⟩;have u:n.length=12:=by rw[<-aq,Gc]
  rw[aq];cases v with
  |none=>
   refine E7.s A A A A A (F'.mk 0 A ?_);intro an;refine Cr.v (f:=n) (h:=aj) (a:=.t an [W 0,W 0] 5::.t S [P j,aa,af,ag,ah] 477::.o r (AM (C6 E f m p) q)::(x.b j z y++I5 E f ai)) A A A A ⟨u,Y6⟩ (D3 _ _ _) [0,0] A A ⟨Y,Y⟩ (λaw am az=>?_);refine A9.u (WE (Ah (C r)) []) ?_;rintro v a4 ⟨ay,rfl,rfl⟩;refine A9.b (AB5 ay r q _) (EY.b ?_);refine L ?_;refine A9.b (PG j z y x) ?_;refine F'.mk 178 (by rw[Ad,u];rfl) ?_;refine Cr.aq (a:=n++[0,0]) (f:=am) (m:=178) A A A A ⟨A,A⟩ (Gt.t Y0) ⟨by rw[Ad,u];simp only[C8,FV];omega,by rw[Ad,u];simp⟩ (λax a1 ap=>?_);rw[Ad,u] at ap;refine⟨_,AQ.b (g:=AJ ax (n++[0,0]++U 178 0) a1::.t S [P j,aa,af,ag,ah] 477::.o r (AM (C6 E f m p) q)::x.b j z y),ax,a1,Y,?_,?_⟩
   ·show O _ ((n++[0,0]).length+178) ((n++[0,0]).length+178+a1.length)=_;rw[Ad,u];rfl
   ·rw[Np,aq];rfl
  |some a=>
   obtain⟨b1,bi,b2⟩:=bl a A;have a0:p<q:=a0.f ⟨N 0,Q f a.length m,p⟩ Y1;refine E7.s A A A A A (F'.mk 1 A ?_);intro an;refine Cr.v (f:=n) (h:=aj) (a:=.t an [W 1,W 0] 5::.t S [P j,aa,af,ag,ah] 477::.o r (AM (C6 (C a) f m p) q)::(x.b j z y++I5 (C a) f ai)) A A A A ⟨u,Y6⟩ (D3 _ _ _) [1,0] A A ⟨Y,Y⟩ (λaw am az=>?_);refine A9.u (WE (Ah (C r)) []) ?_;rintro v a4 ⟨ay,rfl,rfl⟩;refine A9.u (AB7 ay r q 0 (Q f a.length m) p a0 _) ?_;rintro v a4 ⟨bu,bq,b6,rfl,rfl⟩;refine EY.b (A7 ?_);have ba:Cu ((0:B):F) [(0,Q f a.length m)]=C (Q f a.length m):=A;refine E7.b (yq:=_) (yb:=_) (yp:=C6 (C a) f m p) (yi:=q) (yx:=[(0,Q f a.length m)]) A A A A A A A A ?_;rw[ba];refine F'.mk 0 A (F'.mk _ (KH _) (Mt.mk Z (F'.mk _ (Po a.length 1 Y) (F'.mk _ (KH _) (E7.b (yq:=_) (yb:=_) (yp:=C6 (C a) f m p) (yi:=q) (yx:=[(0,Q f a.length m)]) A A A A A A A A ?_)))));rw[ba];intro ax;refine L ?_;refine Cr.v (f:=n++[1,0]) (h:=am) A A A A ⟨A,A⟩ (Gt.t Y0) [0,a.length%256,a.length/256%256] A A ⟨by rw[Ad,u];simp only[C8,FV];omega,by rw[Ad,u];simp⟩ (λbs bn ap=>?_);refine L ?_;rw[Ad,u] at ap;simp only[C8,FV] at ap;refine Cr.v (f:=n++[1,0]++[0,a.length%256,a.length/256%256]) (h:=bn) (b:=f) (U:=0) (m:=a.length) A A A A ⟨A,A⟩ (Gt.t Y0) a ?_ A ?_ (λbt bo bh=>?_)
   ·show((a.map W++ai).drop 0).take a.length=_;rw[CJ,C_ Y1]
   ·simp only[Ad,u,C8,FV];omega
   refine L ?_;refine F'.mk 1 A (EY.b (L ?_));refine A9.b (PG j z y x) ?_;have ar:(n++[1,0]++[0,a.length%256,a.length/256%256]++a).length=17+a.length:=by simp only[Ad,u,C8,FV]
   refine F'.mk ((192-(17+a.length):B):F) (by rw[ar,A3 Y];omega) (Cr.aq (a:=n++[1,0]++[0,a.length%256,a.length/256%256]++a) (f:=bo) (m:=192-(17+a.length)) A A A A ⟨A,A⟩ (Gt.t Y0) ⟨?_,by rw[ar];omega⟩ (λa5 a2 bf=>?_))
   ·simp only[Ad,u,C8,FV] at bh⊢;omega
   rw[ar] at bf;refine⟨_,AQ.b (g:=AJ a5 (n++[1,0]++[0,a.length%256,a.length/256%256]++a++U (192-(17+a.length)) 0) a2::.t S [P j,aa,af,ag,ah] 477::.o r (AM (C6 (C a) f m p) q)::(x.b j z y++[AJ f a ai])),a5,a2,Y,?_,?_⟩
   ·show O _ ((n++[1,0]++[0,a.length%256,a.length/256%256]++a).length+(192-(17+a.length))) ((n++[1,0]++[0,a.length%256,a.length/256%256]++a).length+(192-(17+a.length))+a2.length)=_;rw[ar,show 17+a.length+(192-(17+a.length))=192 by omega]
   ·rw[Nq _ _ bi,aq]
def MF(a:l<2^np)(f:p=2^np*xu):l|||p=l+p:=by
 subst f;rw[AEu,<-AEz a,L_]
def PP(f a:B)(j:a<2^f):(BitVec.ofInt f (a:F)).toNat=a:=by
 rw[BitVec.toNat_ofInt];have:((a:F)%((2^f:B):F))=a:=Int.emod_eq_of_lt Y (by exact_mod_cast j);rw[this];rfl
def Oc{a:Ej}(f:a.bits=l)(m:p<2^l)(n:np<2^l)(j:a.wrap ((p|||np:B):F)=((p|||np:B):F)):Dz .or a (p:F) (np:F)=((p|||np:B):F):=by
 subst f;unfold Dz;dsimp only;rw[BitVec.toNat_or,PP _ p m,PP _ np n,j]
def N5{a:Ej}(f:a.bits=l)(m:p<2^l)(n:np<2^l)(j:a.wrap ((p&&&np:B):F)=((p&&&np:B):F)):Dz .and a (p:F) (np:F)=((p&&&np:B):F):=by
 subst f;unfold Dz;dsimp only;rw[BitVec.toNat_and,PP _ p m,PP _ np n,j]
def Wv(j m:B)(a:l<2^j)(f:p=2^j*m)(n:l+p<18446744073709551616):Dz .or Au (l:F) (p:F)=((l+p:B):F):=by
 rw[Oc (l:=64) A Y Y,MF a f];rw[MF a f];exact Ec Y
def SD(j m:B)(a:l<2^j)(f:p=2^j*m)(n:l+p<4294967296):Dz .or Ax (l:F) (p:F)=((l+p:B):F):=by
 rw[Oc (l:=32) A Y Y,MF a f];rw[MF a f];exact Dh Y
def Wt(j m:B)(a:l<2^j)(f:p=2^j*m)(n:l+p<9223372036854775808):Dz .or H (l:F) (p:F)=((l+p:B):F):=by
 rw[Oc (l:=64) A Y Y,MF a f];rw[MF a f];exact A3 Y
def Ws{a:Ej}:Dz .or a (l:F) (p:F)=Dz .or a (p:F) (l:F):=by
 unfold Dz;simp only[BitVec.or_comm]
def AFK(j:l<9223372036854775808)(a:p<=62):Dz .and H (l:F) ((2^p-1:B):F)=((l%2^p:B):F):=by
 have f:2^p<=2^62:=Mm Y a;rw[N5 (l:=64) A Y Y,O9];rw[O9];have:=AEs l (2^p);exact A3 Y
def bT(j:l<4294967296)(a:p<=31):Dz .and Ax (l:F) ((2^p-1:B):F)=((l%2^p:B):F):=by
 have f:2^p<=2^31:=Mm Y a;rw[N5 (l:=32) A Y Y,O9];rw[O9];have:=AEs l (2^p);exact Dh Y
def l3(j a f:B)(n:8*a<=f):(j:F)*2^Bj ((8*a:B):F).toNat f=((256^a*j:B):F):=by
 have l:Bj ((8*a:B):F).toNat f=8*a:=Y;have m:((2:F)^(8*a))=((256^a:B):F):=by
  rw[TP,AED];rfl
 rw[l,m,ZX,Int.mul_comm]
def YQ(f a:B)(l:f<256)(j:a<8):IntKind.u64.wrap ((f:F)*2^Bj ((8*a:B):F).toNat 64)=((256^a*f:B):F):=by
 rw[l3 _ _ _ Y];have:256^a*f<=256^7*255:=QJ (Mm Y Y) Y;exact Ec Y
def No(v a f:B)(m:a<=f):(v:F).fdiv (2^Bj ((a:B):F).toNat f)=((v/2^a:B):F):=by
 have j:Bj ((a:B):F).toNat f=a:=Y;rw[j,TO _ AFe];have l:((2:F)^a)=((2^a:B):F):=by rw[TP];rfl
 rw[l];rfl
def MQ(v a f:B)(m:a<=f):(v:F)*2^Bj ((a:B):F).toNat f=((v*2^a:B):F):=by
 have j:Bj ((a:B):F).toNat f=a:=Y;have l:((2:F)^a)=((2^a:B):F):=by rw[TP];rfl
 rw[j,l,ZX]
def Ra{b:G B}(l:∀j∈b,j<256)(f:B):Az b f<256^f:=Vx (λm=>by
 rcases Ck m b.length with a|a
 ·rw[AY,Aw a];exact l _ (Gk a)
 ·rw[AY,Dm a];exact Nat.zero_lt_succ _) f
def Vy{b:G B}(l:∀m∈b,m<256)(a:B)(r:a<8):Dz .or Au ((Az b a:B):F) ((256^a*b.getD a 0:B):F)=((Az b (a+1):B):F):=by
 have n:=Ra l a;have o:=Ra l (a+1);have p:256^(a+1)<=256^8:=Mm Y Y;have q:256^8=18446744073709551616:=Z;have f:256^a=2^(8*a):=by rw[show 256=2^8 from A,<-Zs]
 have j:Az b (a+1)=Az b a+256^a*b.getD a 0:=by rw[Az,OB]
 rw[Wv (8*a) (b.getD a 0) (by rw[<-f];exact n) (by rw[f]) (by rw[<-j];omega),j]
abbrev H6(b a:B):M:=AV #[N b,N a]
def Wj(b a:B)(l:b<1024)(m:a<256)(f:S):AK 409 [H6 b a] f (D Ax (b*256+a+1:B)):=by
 refine A9.t ?_;intro j;refine A7 ?_;refine F'.mk ((b*256:B):F) ?_ ?_
 ·show IntKind.i64.wrap ((b:F)*2^Bj ((8:B):F).toNat 64)=_;rw[MQ b 8 64 Y];exact A3 Y
 refine L ?_;refine F'.mk ((a+b*256:B):F) ?_ ?_
 ·rw[Ws,Wt 8 b Y Y Y]
 refine L ?_;refine F'.mk ((a+b*256:B):F) (Dh Y) (F'.mk ((b*256+a+1:B):F) (by rw[Dh Y];omega) (L ?_));exact⟨_,AQ.y _,A,A⟩
def PZ(v:B)(j:0<v)(l:v<4294967296)(a:S):AK 281 [D Ax v] a (H6 ((v-1)/256) ((v-1)%256)):=by
 refine A9.t ?_;intro f;refine L ?_;refine F'.mk ((v-1:B):F) (by rw[Dh Y];omega) (A7 ?_);refine F'.mk (((v-1)/256:B):F) (No (v-1) 8 32 Y) (A7 ?_);refine F'.mk ((v-1:B):F) (by rw[Dh Y];omega) (F'.mk (((v-1)%256:B):F) (bT (p:=8) Y Y) (A7 ?_));exact⟨_,AQ.y _,A,A⟩
def XD(b a:B)(p:b<1024)(q:a<256)(m:S):AK 503 [H6 b a] m (X R):=by
 have f:=B7 ((b:F)≥0);have j:=B7 ((b:F)<1024);have l:=B7 ((a:F)≥0);have n:=B7 ((a:F)<256);refine A9.t ?_;intro o;apply Ms.mk;focus rfl
 refine IK.u f (IK.u f ?_);apply Ms.mk;focus rfl
 refine IK.u f (IK.u f (IK.u j (IK.u j ?_)));apply Ms.mk;focus rfl
 refine IK.u j (IK.u j (IK.u l (IK.u l ?_)));apply Ms.mk;focus rfl
 refine IK.u l (IK.u l ⟨_,AQ.y _,?_,A⟩);show X (Ac ((a:F)<256))=_;rw[n]
def ABY(a:S):AK 493 [D Ax 0] a (X R):=by
 refine A9.t ?_;refine L ?_;exact⟨_,.w _,A,A⟩
def ABZ(v:B)(j:0<v)(l:v<=262144)(f:S):AK 493 [D Ax v] f (X R):=by
 have a:((v:F)==0)=I:=Y5;refine A9.t ?_;refine IK.t a (IK.t a ?_);refine A9.ab (PZ v j Y _) (IK.t a ?_);refine A9.ab (XD ((v-1)/256) ((v-1)%256) Y Y _) (IK.t a ?_);exact⟨_,.w _,A,A⟩
def Nn(o p l t:B)(n:G M)(q:AU)(b:G B)(x:∀r∈b,r<256)(j:b.length=l)(a:(n.drop p).take l=b.map W)(Z:4<=l):
 AK 280 [O (C ⟨o,p,E⟩) l t] [.t o n q] (D Ax (Az b 4)):=by
 have f:∀m,m<4->b.getD m 0<256:=λm aa=>by
  rw[AY,Aw Y];exact x _ (Gk _)
 have y:=f 0 Y;have z:=f 1 Y;have S:=f 2 Y;have U:=f 3 Y;have u:Az b 4=b.getD 0 0+256*b.getD 1 0+65536*b.getD 2 0+16777216*b.getD 3 0:=by simp[Az];omega
 refine A9.t (L ?_);refine Qh.mk 0 A Y (Ms.mk (v:=W (b.getD 0 0)) ?_ ?_)
 ·exact If a Y j
 refine L ?_;refine F'.mk _ (Dh Y) (Qh.mk 1 A Y (Ms.mk (v:=W (b.getD 1 0)) ?_ ?_))
 ·exact If a Y j
 refine L ?_;refine F'.mk _ (Dh Y) (A7 ?_);refine F'.mk ((b.getD 1 0*2^8:B):F) ((AB _ (MQ (b.getD 1 0) 8 32 Y)).trans (Dh Y)) (F'.mk ((b.getD 0 0+b.getD 1 0*2^8:B):F) (SD 8 (b.getD 1 0) Y Y Y) (Qh.mk 2 A Y (Ms.mk (v:=W (b.getD 2 0)) ?_ ?_)))
 ·exact If a Y j
 refine L ?_;refine F'.mk _ (Dh Y) (A7 ?_);refine F'.mk ((b.getD 2 0*2^16:B):F) ((AB _ (MQ (b.getD 2 0) 16 32 Y)).trans (Dh Y)) (F'.mk ((b.getD 0 0+b.getD 1 0*2^8+b.getD 2 0*2^16:B):F) (SD 16 (b.getD 2 0) Y Y Y) (Qh.mk 3 A Y (Ms.mk (v:=W (b.getD 3 0)) ?_ ?_)))
 ·exact If a Y j
 refine L ?_;refine F'.mk _ (Dh Y) (A7 ?_);refine F'.mk ((b.getD 3 0*2^24:B):F) ((AB _ (MQ (b.getD 3 0) 24 32 Y)).trans (Dh Y)) (F'.mk ((b.getD 0 0+b.getD 1 0*2^8+b.getD 2 0*2^16+b.getD 3 0*2^24:B):F) (SD 24 (b.getD 3 0) Y Y Y) (L ?_));refine⟨_,.w _,?_,A⟩;show D Ax ((b.getD 0 0+b.getD 1 0*2^8+b.getD 2 0*2^16+b.getD 3 0*2^24:B):F)=_;rw[u];congr 2;omega
def XM(b:G B)(o:B):BO b o []=b:=by simp[BO]
def XN{b:G B}{o v a:B}(r:o+a<b.length):(BO b o (AS v a)).set (o+a) (v/256^a%256)=BO b o (AS v (a+1)):=by
 have l:=G_ (b:=b) (o:=o) (q:=AS v a) Z0;have u:=G_ (b:=b) (o:=o) (q:=AS v (a+1)) Z0;refine Gj λf=>?_;rcases Ck f b.length with j|j
 ·have m:((BO b o (AS v a)).set (o+a) (v/256^a%256)).getD f 0=(BO b o (AS v (a+1))).getD f 0:=by
   by_cases n:f=o+a
   ·subst n;rw[Pb Z0 Z0,MC _ _ _ Y];simp only[AY,EV,l,A8 r];simp
   ·have q:((BO b o (AS v a)).set (o+a) (v/256^a%256)).getD f 0=(BO b o (AS v a)).getD f 0:=by
     simp only[AY,EV,A1 (Ne.symm n)]
    rw[q];by_cases t:o<=f/\f<o+a
    ·have:=Pb (b:=b) (o:=o) (q:=AS v a) Z0 (l:=f-o) Z0;have p:=Pb (b:=b) (o:=o) (q:=AS v (a+1)) Z0 (l:=f-o) Z0;rw[show o+(f-o)=f by omega] at this p;rw[this,p,MC _ _ _ Y,MC _ _ _ Y]
    ·rw[SU Z0 Z0,SU Z0 Z0]
  simp only[AY] at m;rw[Aw (by simp[l];exact j),Aw Y] at m⊢;simpa using m
 ·rw[Dm (by simp[l];exact j),Dm Y]
def Pk(a:l<q.length):(q.map W++er).set l (W p)=(q.set l p).map W++er:=by
 rw[Zk _ _ (by simpa using a),J_]
def Hy(j o f v q m:B)(b:G B)(p:G M)(n:AU)(x:f<=8)(y:f<=m)(z:o+f<=b.length):
 Z9 416 [O (C ⟨j,o,E⟩) m q,D Au v,N f] [.t j (b.map W++p) n] λU r=>r=[.t j ((BO b o (AS v f)).map W++p) n]:=by
 refine A9.t (L ?_);refine EY.f (m:=B) (λa=>f-a) (λa=>a<=f) (λa=>[(0,O (C ⟨j,o,E⟩) m q),(1,D Au v),(2,N f),(7,N f),(8,N (a:B))]) (λa=>[.t j ((BO b o (AS v a)).map W++p) n]) 0 (Af _) ⟨A,A,A,A,A,AA⟩ ?_ ?_
 ·rw[show AS v 0=[] from A,XM];exact .w _
 intro a u t;have S:=G_ (b:=b) (o:=o) (q:=AS v a) Z0;refine EY.b (IK.mk (λl=>?_) (λl=>?_))
 ·have l:a<f:=by simp at l;omega
  refine F'.mk ((8*a:B):F) Y4 (A' ?_);refine F'.mk _ (Po v a Y) (F'.mk _ (KH _) (A' ?_));refine F'.mk ((a+1:B):F) Y2 (t (a+1) (by show a+1<=f;omega) (by show f-(a+1)<f-a;omega) ⟨A,A,A,A,A,AA⟩ ?_);show AQ [.t j (((BO b o (AS v a)).map W++p).set (o+a*1) (W (v/256^a%256))) n] _;rw[B3,Pk Y,XN Y];exact .w _
 ·have l:a=f:=by simp at l;omega
  subst l;refine L ?_;exact⟨_,.w _,A⟩
def Pq(f o v p m:B)(b:G B)(n:G M)(l:AU)(u:4<=m)(x:o+4<=b.length):
 Z9 485 [O (C ⟨f,o,E⟩) m p,D Ax v] [.t f (b.map W++n) l] λz q=>q=[.t f ((BO b o (AS v 4)).map W++n) l]:=by
 refine A9.t (L ?_);refine EY.f (m:=B) (λa=>4-a) (λa=>a<=4) (λa=>[(0,O (C ⟨f,o,E⟩) m p),(1,D Ax v),(5,N (a:B))]) (λa=>[.t f ((BO b o (AS v a)).map W++n) l]) 0 (Af _) ⟨A,A,A,AA⟩ ?_ ?_
 ·rw[show AS v 0=[] from A,XM];exact .w _
 intro a t r;have y:=G_ (b:=b) (o:=o) (q:=AS v a) Z0;refine EY.b (IK.mk (λj=>?_) (λj=>?_))
 ·have j:a<4:=by simp at j;omega
  refine F'.mk ((8*a:B):F) Y4 (A' ?_);refine F'.mk ((v/2^(8*a):B):F) (No v (8*a) 32 Y) (F'.mk _ (KH _) (A' ?_));refine F'.mk ((a+1:B):F) Y2 (r (a+1) (by show a+1<=4;omega) (by show 4-(a+1)<4-a;omega) ⟨A,A,A,AA⟩ ?_);show AQ [.t f (((BO b o (AS v a)).map W++n).set (o+a*1) (W (v/2^(8*a)%256))) l] _;rw[B3,Pk Y,Zs,show 2^8=256 from A,XN Y];exact .w _
 ·have j:a=4:=by simp at j;omega
  subst j;refine L ?_;exact⟨_,.w _,A⟩
def Kz(m o l q f:B)(n:G M)(p:AU)(b:G B)(r:∀t∈b,t<256)(y:b.length=l)(x:(n.drop o).take l=b.map W)(Z:f<=l)(S:f<=8):
 AK 420 [O (C ⟨m,o,E⟩) l q,N f] [.t m n p] (D Au (Az b f)):=by
 refine A9.t (L ?_);refine EY.g (m:=B) (λa=>f-a) (λa=>a<=f) (λa=>[(0,O (C ⟨m,o,E⟩) l q),(1,N f),(5,D Au (Az b a)),(7,N f),(8,N (a:B))]) (λa=>[.t m n p]) 0 (Af _) ⟨A,A,A,A,A,AA⟩ A ?_;intro a U z;refine EY.b (IK.mk (λj=>?_) (λj=>?_))
 ·have j:a<f:=by simp at j;omega
  have u:b.getD a 0<256:=by rw[AY,Aw Y];exact r _ (Gk _)
  refine A7 ?_;refine Ms.mk (v:=W (b.getD a 0)) ?_ ?_
  ·exact(by rw[B3];exact If (a:=a) x Y y)
  refine L ?_;refine F'.mk _ (Ec Y) (F'.mk ((8*a:B):F) Y4 (A' ?_));exact F'.mk _ (YQ (b.getD a 0) a u Y) (F'.mk _ (Vy r a Y) (F'.mk ((a+1:B):F) Y2 (z (a+1) (by show a+1<=f;omega) (by show f-(a+1)<f-a;omega) ⟨A,A,A,A,A,AA⟩ A)))
 ·have j:a=f:=by simp at j;omega
  subst j;refine L ?_;exact⟨_,.w _,A,A⟩
def LF(a f:G B)(j:B)(l:G B)(m:B)(n:a.length=m):BO (a++f) (m+j) l=a++BO f j l:=by
 subst n;unfold BO;rw[Zl,DP Y,O0,List.drop_eq_nil_of_le Y];simp only[BS,Bz];congr 2
 ·congr 1;omega
 ·congr 2;omega
def AAx(a f:G B)(l j m:B)(n:a.length=m):(a++f).set (m+l) j=a++f.set l j:=by
 subst n;rw[O8 _ _ Y];congr 2;omega
def ABq(a:AN):BO (BO (BO (BO (BO ((BO (U 64 0) 0 (AS 19276 2)).set 2 a.b) 6 (AS a.c 4)) 10 (AS a.a 8)) 18 (AS a.h 8)) 26 (AS a.d 8)) 34 (AS a.f 4)=a.g:=by
 rfl
abbrev HY(a:AN):M:=AV #[N a.b,N a.c,D Au a.a,D Au a.h,D Au a.d,N a.f]
def k3(f:AN)(a:G B)(m:a.length<=128):BO (BO (BO (BO (BO ((BO (a++U (192-a.length) 0) 128 (AS 19276 2)).set 130 f.b) 134 (AS f.c 4)) 138 (AS f.a 8)) 146 (AS f.h 8)) 154 (AS f.d 8)) 162 (AS f.f 4)=f.e a 128:=by
 have l:a++U (192-a.length) 0=(a++U (128-a.length) 0)++U 64 0:=by
  rw[BS,TV];congr 2;omega
 have j:(a++U (128-a.length) 0).length=128:=Y5;rw[l,LF _ _ 0 _ 128 j,AAx _ _ 2 _ 128 j,LF _ _ 6 _ 128 j,LF _ _ 10 _ 128 j,LF _ _ 18 _ 128 j,LF _ _ 26 _ 128 j,LF _ _ 34 _ 128 j,ABq];simp[AN.e]
def Re(a:AN)(bd:a.b<256)(a2:a.c<256^4/\a.a<256^8/\a.h<256^8/\a.d<256^8/\a.f<256^4)(u r m az:B)(p:G M)(x:AU)(l:G B)(a3:l.length=m)(be:m<=128)(a6:0<m)(ap:(p.drop r).take m=l.map W):
 Z9 438 [HY a,O (C ⟨u,r,E⟩) m az,N 128] [.t u p x] λv o=>∃f,v=Q f 192 192/\o=[AJ f (a.e l 128) [],.t u p x]:=by
 obtain⟨a7,a8,a9,ba,bb⟩:=a2;have bc:r+m<=p.length:=by
  have:=AB O4 ap;rw[Ci,DV,BW] at this;omega
 refine A9.t ?_;intro a5;refine L ?_;refine F'.mk 192 A (Cr.t (p:=192) (j:=192) (m:=_) (u:=_) A A A A A A ⟨Z,Z,Z⟩ (U 192 (W 0)) (DM _ _) (λf=>?_));refine L ?_;refine Cr.aa (n:=_) A A A A A A m Y (l.map W) ?_ ⟨?_,?_⟩ (Gy l) ?_
 ·show(p.drop r).take (m*1)=_;rw[B3,ap]
 ·show r+m*1<=_;omega
 ·show 0+m*1<=(U 192 (W 0)).length;rw[BI];omega
 have ag:Bf (U 192 (W 0)) 0 (l.map W)=(l++U (192-l.length) 0).map W++[]:=by
  rw[FN _ _ _ AF5,BW,BF,a3,Hn,Bz,TQ,CU,FF,B1]
 obtain⟨t,ah⟩:∃b,l++U (192-l.length) 0=b:=⟨_,A⟩;have a1:t.length=192:=by rw[<-ah];simp;omega
 have n:=k3 a l Y;rw[ah] at ag n;rw[ag];refine Qp.mk 128 192 192 128 A A A Y A (by split<;>omega) ?_;refine A9.u (Hy f 128 2 19276 64 64 t [] 5 Y Y Y) (λv o j=>?_);obtain rfl:=j;have aq:(BO t 128 (AS 19276 2)).length=192:=by rw[G_ Z0,a1]
 obtain⟨q,ai⟩:∃b,BO t 128 (AS 19276 2)=b:=⟨_,A⟩;rw[ai] at aq n;rw[ai];refine L ?_;refine F'.mk (a.b:F) (MW Y) (A7 ?_);have a0:Cb (q.map W++[]) (128+2*1) (D BQ a.b)=(q.set 130 a.b).map W++[]:=by
  show(q.map W++[]).set 130 (W a.b)=_;rw[Pk Y]
 rw[a0];have ar:(q.set 130 a.b).length=192:=by rw[B_,aq]
 obtain⟨y,aj⟩:∃b,q.set 130 a.b=b:=⟨_,A⟩;rw[aj] at ar n;rw[aj];refine Qp.mk 6 64 64 134 A A A Y A (by split<;>omega) ?_;apply Ms.mk;focus rfl
 refine F'.mk (a.c:F) (Ec Y) (A9.u (Hy f 134 4 a.c 58 58 y [] 5 Y Y Y) (λv o j=>?_));obtain rfl:=j;have au:(BO y 134 (AS a.c 4)).length=192:=by rw[G_ Z0,ar]
 obtain⟨z,ak⟩:∃b,BO y 134 (AS a.c 4)=b:=⟨_,A⟩;rw[ak] at au n;rw[ak];refine Qp.mk 10 64 64 138 A A A Y A (by split<;>omega) ?_;apply Ms.mk;focus rfl
 refine A9.u (Hy f 138 8 a.a 54 54 z [] 5 Y Y Y) (λv o j=>?_);obtain rfl:=j;have av:(BO z 138 (AS a.a 8)).length=192:=by rw[G_ Z0,au]
 obtain⟨S,al⟩:∃b,BO z 138 (AS a.a 8)=b:=⟨_,A⟩;rw[al] at av n;rw[al];refine Qp.mk 18 64 64 146 A A A Y A (by split<;>omega) ?_;apply Ms.mk;focus rfl
 refine A9.u (Hy f 146 8 a.h 46 46 S [] 5 Y Y Y) (λv o j=>?_);obtain rfl:=j;have aw:(BO S 146 (AS a.h 8)).length=192:=by rw[G_ Z0,av]
 obtain⟨aa,am⟩:∃b,BO S 146 (AS a.h 8)=b:=⟨_,A⟩;rw[am] at aw n;rw[am];refine Qp.mk 26 64 64 154 A A A Y A (by split<;>omega) ?_;apply Ms.mk;focus rfl
 refine A9.u (Hy f 154 8 a.d 38 38 aa [] 5 Y Y Y) (λv o j=>?_);obtain rfl:=j;have ax:(BO aa 154 (AS a.d 8)).length=192:=by rw[G_ Z0,aw]
 obtain⟨af,an⟩:∃b,BO aa 154 (AS a.d 8)=b:=⟨_,A⟩;rw[an] at ax n;rw[an];refine Qp.mk 34 64 64 162 A A A Y A (by split<;>omega) ?_;apply Ms.mk;focus rfl
 refine F'.mk (a.f:F) (Ec Y) (A9.u (Hy f 162 4 a.f 30 30 af [] 5 Y Y Y) (λv o j=>?_));obtain rfl:=j;have a4:(BO af 162 (AS a.f 4)).length=192:=by rw[G_ Z0,ax]
 obtain⟨ay,ao⟩:∃b,BO af 162 (AS a.f 4)=b:=⟨_,A⟩;rw[ao] at a4 n;rw[ao];refine⟨_,?_,f,A,A⟩;rw[<-n];exact AQ.b (g:=[AJ f ay [],.t u p x])
def Ya(j:AN)(l:j.b<256):∀f∈j.g,f<256:=by
 intro f a;simp only[AN.g,Bs,C2,FX,Ef,Eh] at a;rcases a with a|(rfl|rfl|rfl|rfl)|a|a|a|a|a|⟨_,rfl⟩;all_goals first|exact H' _ _ _ a|omega
def NC(f:G M)(o l:B)(j:G B)(n:(f.drop o).take l=j.map W)(a m:B)(p:a+m=l):(f.drop (o+a)).take m=(j.drop a).map W:=by
 rw[Hj,<-n,Zc,FD];congr 1;omega
def Rh(a:AN)(z:a.i)(n f:B)(j:G B)(m:G M)(p:AU)(bk:j.length=192)(S:j.drop 128=a.g)(bi:192<=f):
 AK 342 [Q n 192 f,N 128] [.t n (j.map W++m) p] (AL #[HY a,X R]):=by
 have bb:=z.nA;have bc:=z.nB;have ak:=Ya a Y;have q:=a.u;have L:((j.map W++m).drop 128).take 64=a.g.map W:=by
  rw[<-S,IB Y5,C_ Y5,Hj]
 have y:∀o,o<=64->((j.map W++m).drop (128+o)).take (64-o)=(a.g.drop o).map W:=λo bj=>NC _ 128 64 _ L o (64-o) Y;have x:∀o,∀t∈a.g.drop o,t<256:=λo t a8=>ak t (EP a8);have l:=PV S z;unfold K6 at l;rw[S] at l;dsimp only at l;obtain⟨a2,l⟩:Az a.g 2=19276/\(⟨a.g.getD 2 0,Az (a.g.drop 6) 4,Az (a.g.drop 10) 8,Az (a.g.drop 18) 8,Az (a.g.drop 26) 8,Az (a.g.drop 34) 4⟩:AN)=a:=by
  by_cases am:Az a.g 2=19276
  ·rw[A1 (by simp[am])] at l;exact⟨am,AB IH l⟩
  ·rw[A8 am] at l;exact CV (AB Ho l) (λa=>Bool.noConfusion a)
 obtain⟨u,bd,be,ba,a9,al,aq,ar,a4,a5,a6,au,a1⟩:∃an b t j ap av:B,a.b=an/\a.c=b/\a.a=t/\a.h=j/\a.d=ap/\a.f=av/\HY a=AV #[N an,N b,D Au t,D Au j,D Au ap,N av]:=⟨_,_,_,_,_,_,A,A,A,A,A,A,A⟩;have aj:a.g.getD 2 0=u:=(AB AN.b l).trans aq;have aw:Az (a.g.drop 6) 4=bd:=(AB AN.c l).trans ar;have ax:Az (a.g.drop 10) 8=be:=(AB AN.a l).trans a4;have ay:Az (a.g.drop 18) 8=ba:=(AB AN.h l).trans a5;have az:Az (a.g.drop 26) 8=a9:=(AB AN.d l).trans a6;have a0:Az (a.g.drop 34) 4=al:=(AB AN.f l).trans au;have bf:=z.nC;have bg:=z.nD;rw[ar] at bf;rw[au] at bg;rw[aq] at bb bc;rw[a1];clear l a1 z S;generalize a.g=r at ak q L y x a2 aj aw ax ay az a0;have Z:=B7 ((u:F)≥1);have a3:=B7 ((u:F)<=5);refine A9.t ?_;intro bh;refine Qp.mk 128 192 f 128 A A A Y A (by split<;>omega) ?_;have ao:=Kz n 128 64 (f-128) 2 (j.map W++m) p r ak q L Y Y;rw[a2] at ao;refine A9.b (ao) (IK.t (show(((19276:B):F)!=19276)=I by decide) (A7 ?_));refine Ms.mk (v:=W (r.getD 2 0)) ?_ ?_
 ·exact(If (a:=2) L Y q)
 rw[aj];refine A7 ?_;refine Qp.mk 6 64 (f-128) 134 A A A Y A (by split<;>omega) ?_;have ai:=Kz n 134 58 (f-128-6) 4 (j.map W++m) p (r.drop 6) (x 6) (by rw[DV,q]) (y 6 Y) Y Y;rw[aw] at ai;have aa:=Kz n 138 54 (f-128-10) 8 (j.map W++m) p (r.drop 10) (x 10) (by rw[DV,q]) (y 10 Y) Y Y;rw[ax] at aa;have af:=Kz n 146 46 (f-128-18) 8 (j.map W++m) p (r.drop 18) (x 18) (by rw[DV,q]) (y 18 Y) Y Y;rw[ay] at af;have ag:=Kz n 154 38 (f-128-26) 8 (j.map W++m) p (r.drop 26) (x 26) (by rw[DV,q]) (y 26 Y) Y Y;rw[az] at ag;have ah:=Kz n 162 30 (f-128-34) 4 (j.map W++m) p (r.drop 34) (x 34) (by rw[DV,q]) (y 34 Y) Y Y;rw[a0] at ah;have U:(j.map W++m)[130]?=C (W u):=by rw[<-aj];exact If (a:=2) L Y q
 refine⟨?_,?_⟩
 ·refine A9.b (ai) (Mt.mk (aY.mk U) (A7 ?_));intro a7;refine Mt.mk (aY.mk U) (A7 ?_);refine Qp.mk 10 64 (f-128) 138 A A A Y A (by split<;>omega) (Qp.mk 18 64 (f-128) 146 A A A Y A (by split<;>omega) ?_);refine Qp.mk 26 64 (f-128) 154 A A A Y A (by split<;>omega) (Qp.mk 34 64 (f-128) 162 A A A Y A (by split<;>omega) ?_);refine A9.b (aa) (A9.b (af) ?_);refine A9.b (ag) (A9.b (ah) ?_);refine F'.mk (al:F) (A3 Y) (Mw.mk ⟨A,Z2⟩ ?_);refine Mw.mk ⟨A,Z2⟩ (Mw.mk ⟨A,Z2⟩ ?_);refine Mw.mk ⟨A,Z2⟩ ?_;apply Ms.mk;focus rfl
  apply Ms.mk;focus rfl
  repeat first|refine IK.u Z ?_|(apply Ms.mk;focus rfl)|refine Mt.mk (aY.mk A) ?_
  refine A7 ?_;repeat first|refine IK.u Z ?_|(apply Ms.mk;focus rfl)|refine Mt.mk (aY.mk A) ?_
  refine⟨_,AQ.b (g:=[.t n (j.map W++m) p]),?_,A⟩;show AL #[_,X (Ac ((u:F)<=5))]=_;rw[a3];rfl
 ·intro a7;refine Mt.mk (aY.mk U) (A9.b (ai) ?_);refine Mt.mk (aY.mk U) (A7 ?_);refine Qp.mk 10 64 (f-128) 138 A A A Y A (by split<;>omega) ?_;refine Qp.mk 18 64 (f-128) 146 A A A Y A (by split<;>omega) ?_;refine Qp.mk 26 64 (f-128) 154 A A A Y A (by split<;>omega) ?_;refine Qp.mk 34 64 (f-128) 162 A A A Y A (by split<;>omega) ?_;refine A9.b (aa) ?_;refine A9.b (af) ?_;refine A9.b (ag) ?_;refine A9.b (ah) ?_;refine F'.mk (al:F) (A3 Y) ?_;refine Mw.mk ⟨A,Z2⟩ ?_;refine Mw.mk ⟨A,Z2⟩ ?_;refine Mw.mk ⟨A,Z2⟩ ?_;refine Mw.mk ⟨A,Z2⟩ ?_;apply Ms.mk;focus rfl
  apply Ms.mk;focus rfl
  repeat first|refine IK.u Z ?_|(apply Ms.mk;focus rfl)|refine Mt.mk (aY.mk A) ?_
  refine A7 ?_;repeat first|refine IK.u Z ?_|(apply Ms.mk;focus rfl)|refine Mt.mk (aY.mk A) ?_
  refine⟨_,AQ.b (g:=[.t n (j.map W++m) p]),?_,A⟩;show AL #[_,X (Ac ((u:F)<=5))]=_;rw[a3];rfl
abbrev Jx(a:F):M:=N a
variable{ys:G F}
def k9(j:(er.drop l).take p=ys.map Jx)(f:np<p)(m:ys.length=p):er[l+np*1]?=C (Jx (ys.getD np 0)):=by
 have a:((er.drop l).take p)[np]?=C (Jx (ys.getD np 0)):=by
  rw[j,D_,AY,Aw Y];rfl
 rw[Is,A8 f,FU] at a;rw[B3];exact a
def Jz(f:G F)(v:F):F:=match f.findIdx? λj:F=>j==v with
 |some a=>a
 |none=>-1
def hE{v:F}(f:∀a∈ys,a≠v):Jz ys v=-1:=by
 have:ys.findIdx? (λa:F=>a==v)=E:=by rw[O1];intro a j;simpa using f a j
 unfold Jz;rw[this]
def hF{v:F}(j:l<ys.length)(f:ys.getD l 0=v)(m:∀a,a<l->ys.getD a 0≠v):Jz ys v=l:=by
 have:ys.findIdx? (λo:F=>o==v)=C l:=by
  rw[O2];refine⟨j,?_,λa n=>?_⟩
  ·rw[AY,Aw j] at f;simpa using f
  ·have:=m a n;rw[AY,Aw Y] at this;simpa using this
 unfold Jz;rw[this]
def hA(o x f z:B)(j:G F)(q:G M)(y:AU)(m:F)(W:j.length=f)(U:(q.drop x).take f=j.map Jx)(ah:f<=1000000):
 AK 398 [O (C ⟨o,x,E⟩) f z,N m] [.t o q y] (N (Jz j m)):=by
 refine A9.y ?_;refine EY.g (m:=B) (λa=>f-a) (λa=>a<=f/\∀l,l<a->j.getD l 0≠m) (λa=>[(0,O (C ⟨o,x,E⟩) f z),(1,N m),(7,N f),(8,N (a:B))]) (λ_=>[.t o q y]) 0 ⟨Af _,λl t=>Y⟩ ⟨A,A,A,A,AA⟩ A ?_;rintro a ⟨ag,u⟩ aa;refine EY.b (IK.mk (λn=>?_) (λn=>?_))
 ·have n:a<f:=by simp at n;omega
  refine A7 ?_;refine Ms.mk (v:=Jx (j.getD a 0)) ?_ ?_
  ·exact k9 U n W
  by_cases p:j.getD a 0=m
  ·have af:(m==j.getD a 0)=R:=by simp only[F1];exact p.symm
   refine L ?_;exact⟨by rw[hF Y p u];rfl,A⟩
  ·have af:(m==j.getD a 0)=I:=by simp only[Bv];exactλr=>p r.symm
   refine L ?_;refine F'.mk ((a+1:B):F) Y2 (aa (a+1) ⟨Y,λl t=>?_⟩ Y ⟨A,A,A,A,AA⟩ A);by_cases r:l=a
   ·subst r;exact p
   ·exact u l Y
 ·have n:a=f:=by simp at n;omega
  refine⟨?_,A⟩;have S:Jz j m=-1:=hE λai Z=>by
   obtain⟨l,t,rfl⟩:=O3 Z;have:=u l Y;rwa[AY,Aw t] at this
  rw[S];rfl
def hD:Ac (Jz ys ya≥0)=ys.contains ya:=by
 unfold Jz;cases h:ys.findIdx? (λn:F=>n==ya) with
 |none=>
  rw[O1] at h;have:ys.contains ya=I:=by
   rw[a8];intro a;rw[Gi] at a;simpa using h ya a
  rw[this];rfl
 |some f=>
  rw[O2] at h;obtain⟨m,l,_⟩:=h;have:ys.contains ya=R:=by
   rw[Gi];have j:ys[f]=ya:=by simpa using l
   exact j▸Gk m
  rw[this];exact DH (by show(0:F)<=(f:F);omega)
def RD(l m a p:B)(f:G F)(j:G M)(o:AU)(n:F)(t:f.length=a)(q:(j.drop m).take a=f.map Jx)(r:a<=1000000):
 AK 344 [O (C ⟨l,m,E⟩) a p,N n] [.t l j o] (X (f.contains n)):=by
 refine A9.y ?_;exact A9.b (hA l m a p f j o n t q r) ⟨by rw[<-hD];rfl,A⟩
section
open Go.RowKit
def e0(f:G B)(a j:B):(f.drop a).getD j 0=f.getD (a+j) 0:=by simp[Cp]
def He(f:G F)(a:B):AC B:=if a<f.length/\0<=f.getD a 0 then C ((f.getD a 0).toNat%72) else E
def ACO(a:He ys l=C p):p<72:=by
 unfold He at a;split at a
 ·have:=Gl a;omega
 ·cases a
def Jm(f:G B)(p:G F)(j n:B)(m l:G B):Prop:=
 m.length=8*j/\l.length=j/\(∀v∈m,v<256)/\(∀v∈l,v<256)/\
 ∀a,a<j->(DG m a,l.getD a 0)=match He p a with
  |some o=>if a<n then Ecc.g (DG f a) (Ecc.a (DG f a)) o else(DG f a,Ecc.a (DG f a))
  |none=>(DG f a,Ecc.a (DG f a))
def IQ(f:G F):B->B
 |0=>0
 |a+1=>IQ f a+(if(He f a).isSome then 1 else 0)
def mD(f:B->B)(j a:B)(l:a<j):((AH j).map f).getD a 0=f a:=by
 simp only[Cp,D_,Mg l,Ld,IG]
def ACv(f:G B)(a:B)(j:a<(f.length+7)/8):(Ew f).getD a 0=Ecc.a (DG f a):=
 mD (λl=>Ecc.a (DG f l)) _ a j
def ACQ(m:∀l∈q,l<256)(j:G F)(a:B)(n:q.length=8*a):Jm q j a 0 q (Ew q):=by
 refine⟨n,?_,m,ZA q _,λf o=>?_⟩
 ·unfold Ew;rw[LO];omega
 ·rw[ACv q f Y];cases He j f<;>rfl
def ACP{n f:G B}(r:Jm q ys l p n f)(m:He ys p=E):Jm q ys l (p+1) n f:=by
 obtain⟨t,u,x,y,z⟩:=r;refine⟨t,u,x,y,λa M=>?_⟩;rw[z a M];cases o:He ys a with
 |none=>rfl
 |some N=>
  have:a≠p:=by intro L;subst L;rw[o] at m;cases m
  simp only;by_cases j:a<p
  ·rw[A8 j,A8 Y]
  ·rw[A1 j,A1 Y]
def XH:(256:B)^8=18446744073709551616:=Z
def ACu(o:∀m∈q,m<256)(a:B)(t:8*a+8<=q.length):Ct (DG q a) 8=(q.drop (8*a)).take 8:=by
 refine AES (by rw[HR,Ci,DV];omega) λj f r=>?_;rw[HR] at f;have l:=Un (DG q a) 8 j f;unfold DG at l;rw[Um (λm p=>o m (EP p)) 8 j f,e0] at l;have n:(Ct (DG q a) 8).getD j 0=(Ct (DG q a) 8)[j]'(by rw[HR];exact f):=by simp[Cp,HR,f]
 rw[<-n];unfold DG;rw[l];simp[Cp,show 8*a+j<q.length by omega]
def iP(M:∀o∈q,o<256)(L:G F){p o:G B}(al:q.length=8*l)(af:Jm q L l l p o)(f:B)(W:f<l):
 K3 (DG p f) (o.getD f 0) (Bj 8 (p.length-8*f))=C ((q.drop (8*f)).take 8,if(He L f).isSome then 1 else 0):=by
 obtain⟨ah,ai,aj,ak,aa⟩:=af;have j:=aa f W;have z:=T2 M f;have x:=ACu M f Y;obtain⟨a,S⟩:∃a,a=DG q f:=⟨_,A⟩;obtain⟨n,U⟩:∃n,n=DG p f:=⟨_,A⟩;obtain⟨m,N⟩:∃m,m=o.getD f 0:=⟨_,A⟩;rw[<-S] at z x j;rw[<-U,<-N] at j⊢;rw[show Bj 8 (p.length-8*f)=8 by omega];clear S U N;cases r:He L f with
 |none=>
  rw[r] at j;simp only at j;have t:n=a:=AB IH j;have u:m=Ecc.a a:=AB Ho j;have y:Ecc.c a m=(a,m,0):=by
   rw[u];unfold Ecc.c;rw[Zx,A8 A]
  have ag:a<256^8:=by rw[XH];exact z
  unfold K3;rw[t,y];simp only;rw[A1 Y,x];rfl
 |some Z=>
  rw[r] at j;simp only at j;rw[A8 W] at j;have t:n=(Ecc.g a (Ecc.a a) Z).1:=AB IH j;have u:m=(Ecc.g a (Ecc.a a) Z).2:=AB Ho j;have y:Ecc.c n m=(a,Ecc.a a,1):=by
   rw[t,u];exact Ecc.ah _ _ (ACO r)
  have ag:a<256^8:=by rw[XH];exact z
  unfold K3;rw[y];simp only;rw[A1 Y,x];rfl
def W_{l:G B}(n:∀j∈l,j<256)(m:G F){f:B}{q j:G B}(p:l.length=8*f)(o:Jm l m f f q j):∀a,a<=f->GC q j a=C (l.take (8*a),IQ m a)
 |0,_=>by simp[Rv,IQ]
 |a+1,r=>by
  rw[PI,W_ n m p o a Y,iP n m p o a Y];unfold Lx;simp only;rw[IQ,show 8*(a+1)=8*a+8 by omega,AE9]
def iN(n:∀a∈q,a<256)(j:G F){m a:G B}(o:q.length=8*l)(f:Jm q j l l m a):JL m a=C (q,IQ j l):=by
 unfold JL;rw[A8 (by rw[f.1,f.2.1];omega),f.2.1,W_ n j o f l (AI _),DP Y]
def dM(a:He ys l=E):IQ ys (l+1)=IQ ys l:=by rw[IQ,a];rfl
def Yp(a:ys.length<=l):He ys l=E:=by unfold He;rw[A1 Y]
def Yq{p:G B}{j:G F}{m:B}{q n:G B}:∀(f a:B),j.length<=a->Jm p j m a q n->Jm p j m (a+f) q n/\IQ j (a+f)=IQ j a
 |0,a,_,l=>⟨l,A⟩
 |f+1,a,o,l=>by
  obtain⟨r,b⟩:=Yq f (a+1) Y (ACP l (Yp o));rw[show a+(f+1)=a+1+f by omega];exact⟨r,by rw[b,dM (Yp o)]⟩
end
def Pa(a l:G B)(f j:B)(m:f+j<=a.length):((a++l).drop f).take j=(a.drop f).take j:=by
 rw[IB Y,Eg (by rw[DV];omega)]
def SR(a f:G B)(j l:B):((a++f).drop (a.length+j)).take l=(f.drop j).take l:=by
 rw[<-FD,List.drop_left]
def kS(a j:G B)(f:B)(l:f<a.length):(a++j).getD f 0=a.getD f 0:=by simp[Cp,Di l]
def SP(a j:G B)(f:B):(a++j).getD (a.length+f) 0=j.getD f 0:=by
 simp only[Cp];rw[G3 Y,show a.length+f-a.length=f by omega]
def iU(j:∀m∈q,m<256)(a:B)(l:q.length=8*a):JL q (Ew q)=C (q,0):=by
 obtain⟨f,b⟩:=Yq (j:=[]) a 0 Y1 (ACQ j [] a l);rw[BF] at f b;have:=iN j [] l f;rw[this,b];rfl
def Rn{j:G B}(y:j.length=192):∀a,a<=3->∀f,f<a->Ib (CD j a) f=(j.drop (64*f)).take 64/\Ia (CD j a) f=Ew ((j.drop (64*f)).take 64)/\(CD j a).getD (73*f+72) 0=0
 |a+1,L,f,M=>by
  have F:=MA y a Y;have u:((j.drop (64*a)).take 64).length=64:=Y5;have x:=T3 _ u;rw[CD];obtain⟨l,q⟩:∃l,CD j a=l:=⟨_,A⟩;obtain⟨m,n⟩:∃m,(j.drop (64*a)).take 64=m:=⟨_,A⟩;obtain⟨o,r⟩:∃o,Ew m=o:=⟨_,A⟩;rw[q] at F;rw[n] at u x;rw[r] at x;rw[q,n,r];unfold Ib Ia;by_cases z:f<a
  ·obtain⟨p,b,t⟩:=Rn y a Y f z;unfold Ib at p;unfold Ia at b;rw[q] at p b t;rw[BS,BS,Pa _ _ _ _ Y,Pa _ _ _ _ Y,kS _ _ _ Y];exact⟨p,b,t⟩
  ·obtain rfl:f=a:=Y;rw[BS,BS,show 73*f=l.length+0 by omega,SR,show l.length+0+64=l.length+64 by omega,SR,show l.length+0+72=l.length+72 by omega,SP];refine⟨?_,?_,?_⟩
   ·rw[Pa _ _ _ _ Y,CJ,DP Y,n]
   ·rw[show 64=m.length+0 by omega,SR,Pa _ _ _ _ Y,CJ,DP Y,show m.length+0=64 by omega,n,r]
   ·rw[show 72=m.length+8 by omega,SP,show 8=o.length+0 by omega,SP];rfl
def Xm{f:G B}(m:f.length=192)(l:∀j∈f,j<256):∀a,a<=3->Fi (CD f 3) a=C (f.take (64*a),0)
 |0,_=>by simp[Fi]
 |a+1,p=>by
  obtain⟨n,b,_⟩:=Rn m 3 Y a Y;rw[Fi,Xm m l a Y,n,b,iU (λj o=>l j (EP (EW o))) 8 Y5];have:f.take (64*(a+1))=f.take (64*a)++(f.drop (64*a)).take 64:=by rw[show 64*(a+1)=64*a+64 by omega,AE9]
  rw[this];rfl
def WN(l:q.length=192)(n:∀f∈q,f<256):Fi (CD (Dp q) 3) 3=C (q,0)/\K7 (CD (Dp q) 3)=2/\∀f∈CD (Dp q) 3,f<256:=by
 have t:Dp q=q:=by unfold Dp;rw[l];simp
 rw[t];refine⟨?_,?_,?_⟩
 ·rw[Xm l n 3 Y,DP Y]
 ·have r:∀j,j<3->Na (CD q 3) j=R:=λj o=>by
   unfold Na;rw[(Rn l 3 Y j o).2.2];rfl
  have:GD (CD q 3) 3=3:=by
   simp[GD,r]
  unfold K7;rw[this];rfl
 ·have p:∀j,j<3->∀f∈Ew ((q.drop (64*j)).take 64),f<256:=λj o f a=>ZA _ _ f a;intro f a;simp only[CD,Bz,Bs,CZ] at a;have m:∀j f,f∈(q.drop (64*j)).take 64->f<256:=λj f a=>n f (EP (EW a));rcases a with((((((a|a)|a)|a)|a)|a)|a)|a;all_goals first|exact m _ f a|exact p _ Y f a|omega|skip
  all_goals(rcases a with a|a<;>first|exact m _ f a|exact p _ Y f a|omega)
structure UJ(j a:G B):Prop where
 b:a.length=192
 f:∀l∈a,l<256
 e:K7 j=2
 d:∃m,Fi j 3=C (a,m)
structure OV(l f:G (G B)):Prop where
 d:l.length=f.length
 b:∀j a,f[j]?=C a->UJ (l.getD j (U 219 255)) a
structure C3(m:B)(a:AX)(r:B)(n:G D4)(p q o:B):Prop where
 d:a.a.ab
 t:a.a.t=r
 e:a.a.x=I
 y:n.length=70
 f:∀l,l<70->(a.a.j l).b=(n.getD l ⟨I,[]⟩).b/\OV (a.a.j l).a (n.getD l ⟨I,[]⟩).a
 u:a.a.aa=(p:F)
 i:a.a.v=(q:F)
 s:a.a.z=(o:F)
 x:0<=a.a.w/\a.a.w<=5*m
 j:a.a.u=0\/1000000000000<=a.a.u+a.a.w
 w:0<=a.c/\a.c<=24*m
 g:p<=m/\q<=m/\o<=m
def BD(bl:G D4)(b:B):D4:=bl.getD b ⟨I,[]⟩
def F6(np:B)(a:D4):B:=if a.b then np/2 else np
def Rt{bl:G D4}{b a:B}{j:D4}(l:b<bl.length):BD (bl.set b j) a=if a=b then j else BD bl a:=by
 unfold BD;simp only[AY,EV];by_cases f:b=a
 ·subst f;simp[l]
 ·simp[f,Ne.symm f]
def N2{a f:F}(j:a=0\/1000000000000<=a+f)(l:f<=10000000000):C' a=0\/1000000000000<=C' a+(f+1):=by
 unfold C';split<;>omega
section
variable{c:B}{a:AX}{np:B}{bl:G D4}{pr rd er:B}
def C3.v(f:C3 c a np bl pr rd er){b:B}(j:b<70):a.a.y b=F6 np (BD bl b):=by
 unfold Bl.y F6 BD;rw[(f.f b j).1,f.t]
def C3.h(f:C3 c a np bl pr rd er){b:B}(j:b<70):(a.a.j b).a.length=(BD bl b).a.length:=(f.f b j).2.d
def C3.aa(f:C3 c a np bl pr rd er){b:B}(j:b<70):(a.a.j b).b=(BD bl b).b:=(f.f b j).1
def C3.b{m:B}(f:C3 c a np bl pr rd er)(j:c<=m):C3 m a np bl pr rd er:=
 ⟨f.d,f.t,f.e,f.y,f.f,f.u,f.i,f.s,by have:=f.x;omega,f.j,by have:=f.w;omega,by have:=f.g;omega⟩
def C3.ac(f:C3 c a np bl pr rd er)(l:B)(r:l<=24)(t:c+1<=1000000000):C3 (c+1) ⟨{a.a with v:=a.a.v+1},a.c+l⟩ np bl pr (rd+1) er:=by
 have j:=f.d;have m:=f.x;have n:=f.w;have o:=f.g;have p:=f.i;have q:=j.nC;refine⟨⟨j.nA,j.nD,j.nE,?_,j.nB⟩,f.t,f.e,f.y,f.f,f.u,by show a.a.v+1=_;omega,f.s,by show 0<=a.a.w/\a.a.w<=_;omega,f.j,by show 0<=a.c+l/\a.c+l<=_;omega,Y⟩;show(0<=a.a.w/\a.a.w<=1000000000000000)/\(0<=a.a.aa/\a.a.aa<=1000000000000000)/\(0<=a.a.v+1/\a.a.v+1<=1000000000000000)/\(0<=a.a.z/\a.a.z<=1000000000000000);omega
def C3.z(f:C3 c a np bl pr rd er){b:B}(p:b<70)(l:AE)(L:c+1<=1000000000):C3 (c+1) ⟨a.a.ad b l,a.c⟩ np (bl.set b ⟨l,[]⟩) pr rd (er+1):=by
 have n:=f.d;have x:=f.x;have y:=f.w;have z:=f.g;have F:=f.s;have G:=n.nA;have o:=f.y;have q:∀j,(a.a.ad b l).j j=if j=b then⟨l,[]⟩ else a.a.j j:=λj=>Bl.ao Y
 refine⟨Bl.ay n p l Y,f.t,f.e,by simp[o],λj r=>?_,f.u,f.i,by show a.a.z+1=_;omega,by show 0<=a.a.w+1+1/\a.a.w+1+1<=_;omega,N2 (N2 f.j Y) Y,by show 0<=a.c/\a.c<=_;omega,Y⟩;show((a.a.ad b l).j j).b=(BD (bl.set b ⟨l,[]⟩) j).b/\OV ((a.a.ad b l).j j).a (BD (bl.set b ⟨l,[]⟩) j).a;rw[q,Rt Y];by_cases m:j=b
 ·rw[A8 m,A8 m];exact⟨A,A,λM u t=>by simp at t⟩
 ·rw[A1 m,A1 m];exact f.f j r
def C3.ab(f:C3 c a np bl pr rd er){b:B}(o:b<70){l:G B}(L:l.length=192)(F:∀j∈l,j<256)(S:(BD bl b).a.length<F6 np (BD bl b))(am:c+1<=1000000000):C3 (c+1) ⟨{a.a.ai b (CD (Dp l) 3) with v:=a.a.v+1},a.c⟩ np (bl.set b {BD bl b with a:=(BD bl b).a++[l]}) (pr+1) (rd+1) er:=by
 have t:=f.d;have af:=f.x;have ah:=f.w;have ai:=f.g;have aj:=f.u;have al:=f.i;have ak:=t.nA;have N:=f.y;have y:=WN L F;have U:∀j,(a.a.ai b (CD (Dp l) 3)).j j=if j=b then⟨(a.a.j b).b,(a.a.j b).a++[CD (Dp l) 3]⟩ else a.a.j j:=λj=>Bl.ap Y
 have aa:(CD (Dp l) 3).length=219:=by
  have:=MA (f:=Dp l) (SF Y) 3 Y;omega
 have q:=Bl.bb t o ⟨aa,y.2.2⟩ (by rw[f.h o,f.v o];exact S) (by have:=t.nC;omega);have p:=q.nC;refine⟨⟨q.nA,q.nD,q.nE,?_,q.nB⟩,f.t,f.e,by simp[N],λj p=>?_,by show a.a.aa+1=_;omega,by show a.a.v+1=_;omega,f.s,by show 0<=a.a.w+1+1+1/\a.a.w+1+1+1<=_;omega,N2 (N2 (N2 f.j Y) Y) Y,by show 0<=a.c/\a.c<=_;omega,Y⟩
 ·have ag:0<=a.a.v:=t.nC.2.2.1.1;exact⟨p.1,p.2.1,by show 0<=a.a.v+1/\a.a.v+1<=_;omega,p.2.2.2⟩
 show((a.a.ai b (CD (Dp l) 3)).j j).b=(BD (bl.set b _) j).b/\OV ((a.a.ai b (CD (Dp l) 3)).j j).a (BD (bl.set b _) j).a;rw[U,Rt Y];by_cases r:j=b
 ·rw[A8 r,A8 r];have x:=f.f b o;refine⟨x.1,by simp only[Ad,JZ];exact AB (·+1) x.2.d,λn u W=>?_⟩;show UJ (((a.a.j b).a++[CD (Dp l) 3]).getD n _) u;have m:((BD bl b).a++[l])[n]?=C u:=W;have an:(a.a.j b).a.length=(BD bl b).a.length:=f.h o;rcases Ck n (BD bl b).a.length with z|z
  ·rw[Di z] at m;rw[AY,Di Y,<-AY];exact x.2.b n u m
  ·rw[G3 z] at m;have Z:n-(BD bl b).a.length=0:=by
    rcases Nat.eq_zero_or_pos (n-(BD bl b).a.length) with M|M
    ·exact M
    ·rw[Dm Y5] at m;cases m
   rw[Z] at m;simp only[GI,EX] at m;subst m;rw[AY,G3 Y,show n-(a.a.j b).a.length=0 by omega];exact⟨L,F,y.2.1,0,y.1⟩
 ·rw[A1 r,A1 r];exact f.f j p
end
section
variable{c:B}{a:AX}{np:B}{bl:G D4}{pr rd er:B}
def ME(o r q b j:B)(m:G B)(f:C3 c a np bl pr rd er)(M:c+1<=1000000000)(l:b<70)(z:(BD bl b).a[j]?=C m):
 Z9 282 [P o,N b,N j] (a.b o r q) λv u=>∃n p x,C3 (c+1) x np bl pr (rd+1) er/\v=AL #[Q n 192 (192+p.length),N 0]/\u=AJ n m p::x.b o r q:=by
 have L:=f.f b l;have t:=L.2.b j m z;have Z:=(Cx.1 z).1;have S:j<a.a.y b:=by
  have:=(f.d.nB b l).1;rw[f.h l] at this;omega
 obtain⟨F,y⟩:=t.d;have U:=(Pg (Bl.bd f.d l j) Y y).2.1;have W:=f.w;refine A9.z (Wb o r q b j a f.d l S f.e Y t.e m F y) ?_;rintro v u ⟨n,p,rfl,rfl⟩;rw[DP (by rw[t.b];omega)];exact⟨n,p,_,f.ac F Y M,A,A⟩
def Rw(j n m b:B)(l:AE)(f:C3 c a np bl pr rd er)(r:c+1<=1000000000)(p:b<70):
 Z9 163 [P j,N b,X l] (a.b j n m) λv q=>∃o,C3 (c+1) o np (bl.set b ⟨l,[]⟩) pr rd (er+1)/\v=N 0/\q=o.b j n m:=by
 have t:=f.x;have u:=f.j;have x:=f.g;have y:=f.s;exact A9.ab (iV j n m b l a f.d p f.e Y Y) ⟨_,f.z p l r,A,A⟩
def NS(o t r b n z q:B)(m:G M)(p:AU)(j:G B)(f:C3 c a np bl pr rd er)(ag:c+1<=1000000000)(l:b<70)(S:(BD bl b).a.length<F6 np (BD bl b))(y:j.length=192)(af:(m.drop z).take 192=j.map W)(u:∀Z∈j,Z<256)(aa:192<=q):
 Z9 323 [P o,N b,O (C ⟨n,z,E⟩) 192 q] (.t n m p::a.b o t r) λv U=>∃L,C3 (c+1) L np (bl.set b {BD bl b with a:=(BD bl b).a++[j]}) (pr+1) (rd+1) er/\v=AL #[N (BD bl b).a.length,N 0]/\U=.t n m p::L.b o t r:=by
 have ah:=f.x;have ai:=f.j;have aj:=f.g;have ak:=f.u;have al:=f.w;have x:=WN y u;refine A9.ab (j5 o t r b n z q m p j a f.d l f.e Y (by rw[f.h l,f.v l];exact S) Y Y y af u aa x.2.2 x.2.1 j 0 x.1 (DP Y)) ?_;rw[f.h l];have:=f.ab l y u S ag;refine⟨_,this,A,?_⟩;rw[show a.c+((0:B):F)=a.c by omega]
def j4(f l j b o u r:B)(q:G M)(p:AU)(m:C3 c a np bl pr rd er)(n:b<70)(t:(BD bl b).a.length=F6 np (BD bl b)):
 AK 323 [P f,N b,O (C ⟨o,u,E⟩) 192 r] (.t o q p::a.b f l j) (AL #[N 0,N 3]):=by
 have x:(((a.a.y b-(a.a.j b).a.length:B):F)==0)=R:=by rw[m.v n,m.h n,t];simp
 refine A9.t ?_;refine A9.b (PJ f l j b a m.d n) (L ?_);refine E7.b (yq:=_) (yb:=_) (yp:=#[]) (yi:=0) (yx:=[]) A A A A A A A A (L ?_);refine A9.b (Ry f l j b a m.d n) (L ?_);exact⟨_,AQ.b (g:=.t o q p::a.b f l j),A,A⟩
def Wc(f n m b:B)(j:C3 c a np bl pr rd er)(l:b<70):AK 358 [P f,N b] (a.b f n m) (N ((F6 np (BD bl b)-(BD bl b).a.length:B):F)):=by
 have:=Ry f n m b a j.d l;rwa[j.v l,j.h l] at this
def i'(f l j b:B)(m:C3 c a np bl pr rd er)(n:b<70):AK 360 [P f,N b] (a.b f l j) (N (F6 np (BD bl b):B)):=by
 have:=Rx f l j b a m.d n;rwa[m.v n] at this
def NU(f b:B)(j:C3 c a np bl pr rd er)(l:b<70):AK 605 [P f,N b] [.u (CB f a.a)] (N ((BD bl b).a.length:B)):=by
 have:=PK f b a.a j.d l;rwa[j.h l] at this
def S9(f b:B)(j:C3 c a np bl pr rd er)(l:b<70):AK 606 [P f,N b] [.u (CB f a.a)] (X (BD bl b).b):=by
 have:=Wm f b a.a j.d l;rwa[j.aa l] at this
end
def SJ(f:(er.drop l).take p=q.map W)(a:np<p)(j:q.length=p):er[l+np*1]?=C (W (q.getD np 0)):=by
 rw[B3];exact If f a j
def HT(n p a r:B)(j:G B)(m:G M)(o:AU)(aa:a<=1000000)(x:(m.drop p).take a=j.map W)(y:j.length=a):
 Z9 198 [O (C ⟨n,p,E⟩) a r] [.t n m o] λv q=>∃l f,a+f.length<=BP/\v=Q l a (a+f.length)/\q=[AJ l j f,.t n m o]:=by
 have af:BP=9223372036854775807:=A;refine A9.y ?_;refine L ?_;intro F;refine Cr.y (j:=_) A A A A A A A ⟨A,Z⟩ ⟨A,Z,Z⟩ (j.map W) ?_ (by simp[y]:_=a*1) (cL j) ⟨Y,Z⟩ ?_
 ·rw[<-x];exact AB (λz=>GJ z _) (B3 a)
 intro l t f N S u;have U:f.length=(t-(0+a))*1:=u;refine⟨l,f,Y,?_,A⟩;simp only[FA];congr 1<;>omega
def ABj:(⟨#[83,76,79,84]⟩:Lh)=DF [83,76,79,84]:=A
def W9(p n f m:B)(a:G B)(o:G M)(r:AU)(x:a.length=f)(u:14<=f)(t:(o.drop n).take f=a.map W)(q:∀j∈a,j<256)(l:f<=m):
 AK 341 [O (C ⟨p,n,E⟩) f m] [.t p o r] (X (K.gp a)):=by
 have y:=B7 ((f:F)≥14);refine A9.y ?_;refine L ?_;refine Qp.mk 0 4 m n A A A Y A (by split<;>omega) ?_;refine L ?_;refine E7.f (q:=a.take 4) A A A A A Z3 ?_ (λj l=>q j (EW l)) ?_
 ·rw[Hk,<-t,List.take_take];congr 1;omega
 refine L ?_;refine⟨?_,A⟩;show X ((DF (a.take 4)).toList==(⟨#[83,76,79,84]⟩:Lh).toList)=_;rw[ABj,YV (λj l=>q j (EW l)) Z];rfl
def YR(j:B)(v:AC (G B))(f:∀a,v=C a->a.length<=175):(K.cn 192 j v).length=192:=by
 cases v with
 |none=>rw[Np];simp only[Ad,Gc,C8,FV,BI]
 |some a=>rw[Nq _ _ (f a A)];have:=f a A;simp[Gc];omega
def YS(o:B)(v:AC (G B))(n:∀j,v=C j->j.length<=175/\∀f∈j,f<256):∀f∈K.cn 192 o v,f<256:=by
 have m:∀f∈FR o 8,f<256:=λf a=>by
  rcases Bs.1 a with l|l
  ·simp at l;omega
  ·exact H' _ _ f l
 intro f a;cases v with
 |none=>
  rw[Np] at a;simp only[Bs,FX,C2,Ef,Eh] at a;rcases a with(a|a)|a
  ·exact m f a
  ·omega
  ·omega
 |some j=>
  rw[Nq _ _ (n j A).1] at a;simp only[Bs,FX,C2,Ef,Eh] at a;have p:j.length%256<256:=Ml _ Z;have q:j.length/256%256<256:=Ml _ Z;rcases a with(((a|a)|a)|a)|a
  ·exact m f a
  ·omega
  ·omega
  ·exact(n j A).2 f a
  ·omega
def ABN(f:B)(v:AC (G B))(p:∀l,v=C l->l.length<=175)(a:B)(r:a<=8):Az ((K.cn 192 f v).drop 4) a=f%256^a:=by
 have m:∀j,Az (([83,76,79,84]++AS f 8++j).drop 4) a=f%256^a:=λj=>by
  have n:Az (([83,76,79,84]++AS f 8++j).drop 4) a=Az (AS f a) a:=Jv a λq o=>by
   rw[BS];show(AS f 8++j).getD q 0=_;rw[L4 Z0,MC _ _ _ Y,MC _ _ _ o]
  rw[n,Jw]
 cases v with
 |none=>rw[Np,FR,BS (_++_)];exact m _
 |some l=>rw[Nq _ _ (p l A),FR,BS (_++_),BS (_++_),BS (_++_)];exact m _
def ABM(a:B)(v:AC (G B)):K.gp (K.cn 192 a v)=R:=by
 unfold K.cn K.gp;simp
def VK{v:M}(a:Da yp [(ya,v)]):∃b,yp=#[⟨N ya,v,b⟩]:=by
 unfold Da at a;obtain⟨n⟩:=yp
 match n,a with
 |[],a=>simp at a
 |f::e2::r,a=>simp at a
 |[f],a=>
  simp only[Ee,TT,Za,F0,and_true] at a;obtain⟨o,p,m⟩:=f;obtain⟨j,l⟩:=a;dsimp only at j l;subst j;subst l;exact⟨m,A⟩
def ABK(a:B):(K.cn 192 a E).getD 12 0=0:=by
 rw[Np,L4 (by simp[Gc]),M6 (by rw[Gc];omega),Gc];rfl
def ABL(f:B)(a:G B)(n:a.length<=175):(K.cn 192 f (C a)).getD 12 0=1/\(K.cn 192 f (C a)).getD 14 0=0/\(K.cn 192 f (C a)).getD 15 0=a.length/\(K.cn 192 f (C a)).getD 16 0=0/\((K.cn 192 f (C a)).drop 17).take a.length=a:=by
 rw[Nq _ _ n];have m:FR f 8++[1,0]++[0,a.length%256,a.length/256%256]++a++U (192-(17+a.length)) 0=FR f 8++([1,0,0,a.length%256,a.length/256%256]++(a++U (192-(17+a.length)) 0)):=Y1;rw[m];have l:∀j,j<5->(FR f 8++([1,0,0,a.length%256,a.length/256%256]++(a++U (192-(17+a.length)) 0))).getD (12+j) 0=([1,0,0,a.length%256,a.length/256%256]:G B).getD j 0:=λj o=>by
  rw[M6 (by rw[Gc];omega),Gc,show 12+j-(4+8)=j by omega,L4 (by simpa using o)]
 refine⟨l 0 Y,l 2 Y,?_,?_,?_⟩
 ·rw[l 3 Y];show a.length%256=_;omega
 ·rw[l 4 Y];show a.length/256%256=_;omega
 ·rw[<-BS,Mf (by rw[Ad,Gc];rfl),C_ A]
def k5(o n l:B)(v:AC (G B))(m:G M)(a8:l<18446744073709551616)(ag:∀a,v=C a->0<a.length/\a.length<=175/\(∀ah∈a,ah<256))(a2:192<=n):
 Z9 492 [Q o 192 n] [AJ o (K.cn 192 l v) m] λa9 ay=>∃t r S x ak u,El (C6 v r S x) ak/\(∀a,v=C a->a.length+u.length=S/\S<=BP)/\a9=AL #[D Au l,Ah (C t),X R]/\ay=.o t (AM (C6 v r S x) ak)::AJ o (K.cn 192 l v) m::I5 v r u:=by
 have aw:∀a,v=C a->a.length<=175:=λa p=>(ag a p).2.1;have af:=YR l v aw;have z:=YS l v λa p=>⟨(ag a p).2.1,(ag a p).2.2⟩;have ar:=ABN l v aw;have aq:=ABM l v;obtain⟨j,aa⟩:∃j,K.cn 192 l v=j:=⟨_,A⟩;rw[aa] at af z ar aq;rw[aa];have av:((j.map W++m).drop 0).take 192=j.map W:=by rw[CJ,C_ (by simp[af])]
 have ai:∀f,f<192->(j.map W++m)[0+f*1]?=C (W (j.getD f 0)):=λf aj=>SJ av aj af;refine A9.t ?_;refine A9.b (W9 o 0 192 n j _ _ af Y av z a2) ?_;rw[aq];refine L ?_;refine EY.g (m:=B) (λf=>8-f) (λf=>f<=8) (λf=>[(0,Q o 192 n),(5,D Au (Az (j.drop 4) f:B)),(13,N (f:B))]) (λ_=>[AJ o j m]) 0 (Af _) ⟨A,A,A,AA⟩ A ?_;intro f aj ax;refine EY.b (IK.mk (λq=>?_) (λq=>?_))
 ·have q:f<8:=by simp at q;omega
  have a0:j.getD (4+f) 0<256:=z _ (JH Y);refine F'.mk ((4+f:B):F) Y2 (A' ?_);refine Ms.mk (v:=W (j.getD (4+f) 0)) ?_ ?_
  ·exact ai (4+f) Y
  refine F'.mk ((j.getD (4+f) 0:B):F) (Ec Y) (F'.mk ((8*f:B):F) Y4 (A' ?_));refine F'.mk _ (YQ _ f a0 q) ?_;have a6:(j.drop 4).getD f 0=j.getD (4+f) 0:=by simp[Cp,FU]
  have au:=Vy (b:=j.drop 4) (λah a1=>z ah (EP a1)) f q;rw[a6] at au;exact F'.mk _ au (F'.mk ((f+1:B):F) Y2 (ax (f+1) Y Y ⟨A,A,A,AA⟩ A))
 ·have q:f=8:=by simp at q;omega
  subst q;clear ax;rw[ar 8 Y,Ja (show l<256^8 from a8)];intro t;refine A7 ?_;refine Ms.mk (v:=W (j.getD 12 0)) ?_ ?_
  ·exact ai 12 Y
  have bd:j.getD 12 0<256:=z _ (JH Y);refine A7 ?_;refine Qp.mk 14 192 n 14 A A A Y A (by split<;>omega) ?_;cases v with
  |none=>
   have y:=ABK l;rw[aa] at y;rw[y];refine EY.b (L ?_);exact⟨_,AQ.b (g:=.o t (AM #[] 0)::AJ o j m::[]),t,0,0,0,0,[],El.b,(λa p=>by cases p),A,A⟩
  |some a=>
   obtain⟨be,a4,bf⟩:=ag a A;obtain⟨y,am,an,ao,ap⟩:=ABL l a a4;rw[aa] at y am an ao ap;rw[y];have U:∀f,f<178->(j.map W++m)[14+f*1]?=C (W (j.getD (14+f) 0)):=λf aj=>by
    have:=ai (14+f) Y;rw[BF,B3] at this;rw[B3];exact this
   refine EY.b (A7 ?_);refine Ms.mk (v:=W (j.getD 15 0)) ?_ ?_
   ·exact U 1 Y
   refine F'.mk ((a.length:B):F) (by rw[an];exact A3 Y) (A' ?_);refine Ms.mk (v:=W (j.getD 16 0)) ?_ ?_
   ·exact U 2 Y
   refine F'.mk ((0:B):F) (by rw[ao];rfl) (Mt.mk Z (F'.mk ((0:B):F) A (F'.mk ((a.length:B):F) (by rw[Wt 8 0 Y Y Y];rfl) (F'.mk ((175:B):F) A ?_))));have bg:=Aa ((a.length:F)>((175:B):F));refine A7 ?_;refine Ms.mk (v:=W (j.getD 14 0)) ?_ ?_
   ·exact U 0 Y
   refine F'.mk ((0:B):F) (by rw[am];rfl) (F'.mk ((3+a.length:B):F) Y2 (Qp.mk 3 (3+a.length) (n-14) 17 A A A Y A (by split<;>omega) ?_));rw[show 3+a.length-3=a.length by omega];have a3:((j.map W++m).drop 17).take a.length=a.map W:=by
    rw[IB Y5,Eg Y5,<-Hj,<-Hk,ap]
   refine A9.u (HT o 17 a.length (n-14-3) a (j.map W++m) 5 Y a3 A) ?_;rintro v ba ⟨r,u,a7,rfl,rfl⟩;refine L ?_;refine Mt.mk (aY.mk (U 0 Y)) (L ?_);refine Cr.ae (ak:=[]) (a:=#[]) (l:=0) A A A A A A (show Da #[] [] from A) El.b (λbc al a5 az=>?_);obtain⟨x,rfl⟩:=VK a5;refine F'.mk ((3+a.length:B):F) Y2 (Qp.mk (3+a.length) 178 (n-14) (if n-14=3+a.length then 14 else 14+(3+a.length)*1) A A A Y A A (F'.mk 1 A (EY.b (L ?_))));exact⟨_,AQ.b (g:=.o t (AM (C6 (C a) r (a.length+u.length) x) al)::AJ o j m::AJ r a u::[]),t,r,a.length+u.length,x,al,u,az,(λbb p=>by cases p;exact⟨A,a7⟩),A,A⟩
structure J5 where
 a:G B
 c:AC B
 d:B
 b:AC (G B)
structure D0 where
 b:B
 f:B
 h:G M
 d:B
 s:B
 j:B
 a:B
 g:B
 i:G M
def Ca(o:AC B):F:=match o with
 |none=>-1
 |some a=>(a:F)
abbrev D1(o:AC B):M:=N (Ca o)
abbrev Dr(v:AC (G B))(a:B)(f:G M):BL:=.u (A2 (I5 v a f))
abbrev D0.c(a:D0)(l j:B)(f:J5):S:=
 [.t l [P j,Q a.b f.a.length a.f,D1 f.c,D Au f.d,Ah (C a.d)] 477,BJ a.b f.a a.h,.o a.d (AM (C6 f.b a.a a.g a.j) a.s),Dr f.b a.a a.i]
def Nh(v:AC (G B)):Prop:=∀a,v=C a->0<a.length/\a.length<=175/\(∀f∈a,f<256)
structure D0.e(m:B)(a:D0)(f:J5):Prop where
 nB:f.a.length<=a.f/\a.f<=BP/\a.h.length=a.f-f.a.length
 nD:El (C6 f.b a.a a.g a.j) a.s
 nE:Nh f.b
 nG:∀j,f.b=C j->j.length+a.i.length=a.g/\a.g<=BP
 nA:0<f.a.length/\f.a.length<=12/\∀l∈f.a,l<70
 nF:f.d<=m
def KE(a:G B)(l:G M)(f:B)(j:a.length=f):((a.map AD++l).drop 0).take f=a.map AD:=by rw[CJ,C_ (by simp[j])]
def Gb(a:G B)(l:G M)(f:B)(j:a.length=f):((a.map W++l).drop 0).take f=a.map W:=by rw[CJ,C_ (by simp[j])]
def AQ.aj(j a f:S):AQ (j++(a++f)) (.u (A2 a)::(j++f)):=(AQ.u (QE j a f)).t (AQ.aa a _)
def ABQ(n f F z o m j S a l:B)(L:G M)(v:AC (G B))(q:AX)(r t u x:M)(aa:S<18446744073709551616)(af:Nh v)(Z:El (C6 v a l j) m):
 Z9 321 [P n,D Au S,Ah (C o)] (.t n [P f,r,t,u,x] 477::.o o (AM (C6 v a l j) m)::Dr v a L::q.b f F z)
  λW U=>∃y p,192+p.length<=BP/\W=Q y 192 (192+p.length)/\U=AJ y (K.cn 192 S v) p::.t n [P f,r,t,u,x] 477::.o o (AM (C6 v a l j) m)::Dr v a L::q.b f F z:=by
 refine A9.w (a:=.t n [P f,r,t,u,x] 477::.o o (AM (C6 v a l j) m)::(q.b f F z++I5 v a L)) ?_ (A9.aa ?_)
 ·refine AQ.z _ (AQ.z _ ((AQ.ac _ _).t (AQ.u Cj)))
 ·refine A9.z (ABP n f F z o m j S a l L v q r t u x aa af Z) ?_;rintro W U ⟨y,p,Y,rfl,rfl⟩;exact⟨_,AQ.z _ (AQ.z _ (AQ.z _ ((AQ.u Cj).t (AQ.aa _ _)))),y,p,Y,A,A⟩
def N7(u j p o l f t:B)(a:G B)(q:G M)(y z N:M)(n:AX)(x:a.length=f)(af:0<f)(al:f<=1000):
 Z9 252 [P u] (.t u [P j,Q l f t,y,z,N] 477::BJ l a q::n.b j p o)
  λv Z=>∃m r S,v=Q m f r/\Z=BJ m a S::.t u [P j,Q l f t,y,z,N] 477::BJ l a q::n.b j p o:=by
 refine A9.t ?_;refine L ?_;refine A9.u (Oe l 0 f t a (a.map AD++q) 3 Y (KE a q f x) x af) ?_;rintro v aa ⟨m,r,S,ag,ai,aj,rfl,rfl⟩;refine L ?_;have U:=V7 (g:=m) (h:=f) (c:=r) (d:=162) (fs:=[P j]) (fc:=[]) (e:=_) (f:=a) (j:=S) (a:=n.b j p o) (i:=λ_=>I) A x Y ag (λah _=>NL j p o (ah:F) n);rw[fV (λ_ _=>A)] at U;refine A9.u (U) ?_;rintro v aa ⟨W,ak,rfl,rfl⟩;refine⟨_,AQ.b (g:=BJ m a W::.t u [P j,Q l f t,y,z,N] 477::BJ l a q::n.b j p o),m,r,W,?_,A⟩;rw[x];rfl
def IX(a:G B)(l:AC B):G B:=match l with
 |none=>a
 |some j=>let f:=a.findIdx (·==j);if f<a.length then a.drop f++a.take f else a
def jX(a:G B)(m:AC B)(o:0<a.length):∃l,l<a.length/\(if(HZ a (Ca m))<0 then(0:F) else HZ a (Ca m))=(l:F)/\IX a m=a.drop l++a.take l:=by
 cases m with
 |none=>
  refine⟨0,o,?_,by simp[IX]⟩;rw[show Ca E=-1 from A,Rl (λr _=>Y)];rfl
 |some f=>
  rw[show Ca (C f)=(f:F) from A];unfold IX;dsimp only;by_cases j:a.findIdx (·==f)<a.length
  ·have n:HZ a (f:F)=(a.findIdx (·==f):F):=by
    refine WB j ?_ λp u=>?_
    ·have:=List.findIdx_getElem (w:=j);rw[AY,Aw j];have t:a[a.findIdx (·==f)]=f:=by simpa using this
     exact AB (λz:B=>(z:F)) t
    ·have:=List.not_of_lt_findIdx u;rw[AY,Aw Y];intro q
     have y:a[p]=f:=by have:((a[p]:B):F)=(f:F):=q
                       omega
     simp[y] at this
   refine⟨a.findIdx (·==f),j,?_,by rw[A8 j]⟩;rw[n,A1 Y]
  ·have n:HZ a (f:F)=-1:=Rl λr x q=>by
    have:a.findIdx (·==f)<a.length:=List.findIdx_lt_length_of_exists ⟨r,x,Y5⟩;exact j this
   refine⟨0,o,?_,by rw[A1 j];simp⟩;rw[n];rfl
def jY(o l j:B)(a:G B)(n:AC B)(m:G M)(p q r:M)(U:0<a.length/\a.length<=1000)(aj:a.length<=j):
 Z9 322 [P o] (.t o [p,Q l a.length j,D1 n,q,r] 477::[BJ l a m])
  λv z=>∃u N ag,v=Q u a.length N/\z=BJ u (IX a n) ag::.t o [p,Q l a.length j,D1 n,q,r] 477::[BJ l a m]:=by
 obtain⟨f,ak,aa,af⟩:=jX a n U.1;rw[af];refine A9.t ?_;refine L ?_;refine A9.b (W7 l 0 a.length j a (a.map AD++m) 3 (Ca n) A (KE a m _ A) Y) ?_;refine F'.mk (f:F) aa ?_;refine L ?_;refine Qp.mk f a.length j f A A A Y A (by split<;>omega) (L ?_);refine Qp.mk 0 f j 0 A A A Y A (by split<;>omega) (L ?_);intro S;refine L ?_;have W:((a.map AD++m).drop f).take (a.length-f)=(a.drop f).map AD:=by
  rw[IB Y5,C_ Y1,Hj]
 have Z:((a.map AD++m).drop 0).take f=(a.take f).map AD:=by
  rw[CJ,Eg Y5,Hk]
 refine A9.u (dG S l f (a.length-f) (j-f) 0 f j (a.drop f) (a.take f) (a.map AD++m) 3 _ Y1 Y5 W Z Y) ?_;rintro v ah ⟨x,t,y,ai,rfl,rfl⟩;refine⟨_,AQ.b (g:=BJ x (a.drop f++a.take f) y::.t o [p,Q l a.length j,D1 n,q,r] 477::[BJ l a m]),x,t,y,?_,A⟩;show O _ (a.length-f+f) t=_;rw[show a.length-f+f=a.length by omega]
variable{yf:AX}
def jA(j a f t b:B){m:G D4}(n o q r:M)(u:C3 l yf p m np xu yi)(x:b<70)(y:(BD m b).a=[]):
 AK 421 [P j,N b] (.t j [P a,n,o,q,r] 477::yf.b a f t) (AL #[D Au 0,Ah E,X I]):=by
 refine A9.t ?_;refine L ?_;refine A9.b (NU f b u x) ?_;rw[y];refine F'.mk (-1) A (EY.b (L ?_));exact⟨_,AQ.b (g:=.t j [P a,n,o,q,r] 477::yf.b a f t),A,A⟩
def jB(U m x S b y r:B)(a:AC (G B)){z:G D4}(W Z aa af:M)(aj:C3 l yf p z np xu yi)(ar:l+1<=1000000000)(ak:b<70)(aq:(BD z b).a.length=r+1)(ax:r<=1000)(au:(BD z b).a[r]?=C (K.cn 192 y a))(av:y<18446744073709551616)(aw:Nh a):
 Z9 421 [P U,N b] (.t U [P m,W,Z,aa,af] 477::yf.b m x S) λv al=>∃q f j n o t u,El (C6 a f j n) o/\(∀ah,a=C ah->ah.length+t.length=j/\j<=BP)/\C3 (l+1) u p z np (xu+1) yi/\v=AL #[D Au y,Ah (C q),X R]/\al=.o q (AM (C6 a f j n) o)::Dr a f t::.t U [P m,W,Z,aa,af] 477::u.b m x S:=by
 refine A9.t ?_;refine L ?_;refine A9.b (NU x b aj ak) ?_;rw[aq];refine F'.mk (r:F) Y4 (EY.b ?_);have ay:=B7 ((r:F)≥0);refine L ?_;refine A9.u (ME m x S b r _ aj ar ak au) ?_;rintro v am ⟨ai,ag,u,an,rfl,rfl⟩;refine L ?_;refine A9.u (k5 ai (192+ag.length) y a ag av aw Y) ?_;rintro v am ⟨q,f,j,n,o,t,ao,ap,rfl,rfl⟩;refine L ?_;refine⟨_,?_,q,f,j,n,o,t,u,ao,ap,an,A,A⟩;exact(AQ.aj [.o q (AM (C6 a f j n) o),AJ ai (K.cn 192 y a) ag] (I5 a f t) _).t (AQ.b (g:=.o q (AM (C6 a f j n) o)::Dr a f t::.t U [P m,W,Z,aa,af] 477::u.b m x S))
abbrev Bx(a:K):J5:=⟨a.aa,a.aq,a.av,a.bn⟩
abbrev B2(j:B)(f:AX)(a:K):Prop:=C3 j f a.i a.ab a.bd a.u a.bv
def Ww{a:AC B}:l∈IX q a↔l∈q:=by
 unfold IX;cases a with
 |none=>rfl
 |some f=>
  dsimp only;split
  ·rw[Bs,or_comm,<-Bs,Hm]
  ·rfl
def jW(f:G B)(a:AC B):(IX f a).length=f.length:=by
 unfold IX;cases a with
 |none=>rfl
 |some j=>
  dsimp only;split
  ·simp;omega
  ·rfl
def XQ(x m u t:B)(l:D0)(f:K)(v:AC (G B))(y p r z S:B)(Z:G M)(ag:B)(aw:AX)(ap:B2 ag aw f)(ao:D0.e ag l (Bx f))(b4:f.aj=128)(cd:f.i=8\/f.i=16)(au:Nh v)(bb:El (C6 v p r z) S)(bf:∀aa,v=C aa->aa.length+Z.length=r/\r<=BP)(bs:∃a∈f.aa,f.aq≠C a)(cc:ag+30<=1000000000):
 Z9 253 [P x,Ah (C y)] (l.c x m (Bx f)++(.o y (AM (C6 v p r z) S)::Dr v p Z::aw.b m u t))
  λb9 bl=>∃(bk:D0)(be:AX),D0.e (ag+30) bk (Bx (f.cr v))/\B2 (ag+30) be (f.cr v)/\b9=N 0/\bl=bk.c x m (Bx (f.cr v))++be.b m u t:=by
 obtain⟨bg,b2,bh⟩:=ao.nA;have b5:=ao.nF;dsimp only at bg b2 bh b5;have b6:∀aa,v=C aa->aa.length<=175:=λaa ap=>(au aa ap).2.1;have ay:=YR (f.av+1) v b6;have a9:=YS (f.av+1) v λaa ap=>⟨(au aa ap).2.1,(au aa ap).2.2⟩;have bx:f.cr v=K.ei (K.cn 192 (f.av+1) v) v (IX f.aa f.aq) f:=by unfold K.cr;rw[b4];rfl
 rw[bx];obtain⟨n,a8⟩:∃n,K.cn 192 (f.av+1) v=n:=⟨_,A⟩;rw[a8] at ay a9;rw[a8];obtain⟨o,az⟩:∃o,IX f.aa f.aq=o:=⟨_,A⟩;rw[az];have ce:o.length=f.aa.length:=by rw[<-az,jW]
 have bt:∃a∈o.drop 0,f.aq≠C a:=by
  obtain⟨a,an,a5⟩:=bs;exact⟨a,by rw[CJ,<-az];exact Ww.2 an,a5⟩
 have bv:∀a∈o,a<70:=λa an=>bh a (Ww.1 (az▸an));refine A9.t ?_;refine L ?_;refine F'.mk ((f.av+1:B):F) (Ec Y6) ?_;refine A9.u (ABQ x m u t y S z (f.av+1) p r Z v aw _ _ _ _ Y au bb) ?_;rintro v a2 ⟨am,U,ch,rfl,rfl⟩;rw[a8];refine A9.u (jY x l.b l.f f.aa f.aq l.h _ _ _ ⟨bg,Y⟩ ao.nB.1) ?_;rintro v a2 ⟨a3,bm,a6,rfl,rfl⟩;rw[az];refine L ?_;refine EY.f (m:=B×K×AX) (λa=>o.length-a.1) (λa=>a.1<=o.length/\B2 (ag+2*a.1) a.2.2 a.2.1/\K.ei n v (o.drop a.1) a.2.1=K.ei n v o f/\Bx a.2.1=Bx f/\a.2.1.i=f.i/\∃bd∈o.drop a.1,f.aq≠C bd)
  (λa=>[(0,P x),(1,Ah (C y)),(5,Q am 192 (192+U.length)),(20,Q a3 f.aa.length bm),(21,N f.aa.length),(22,N (a.1:B))])
  (λa=>BJ a3 o a6::AJ am n U::(l.c x m (Bx f)++(.o y (AM (C6 v p r z) S)::Dr v p Z::a.2.2.b m u t))) (0,f,aw) ⟨Af _,ap,A,A,A,bt⟩ ⟨A,A,A,A,A,A,AA⟩ ?_ ?_
 ·exact AQ.b (g:=BJ a3 o a6::AJ am n U::(l.c x m (Bx f)++(.o y (AM (C6 v p r z) S)::Dr v p Z::aw.b m u t)))
 rintro⟨q,j,a7⟩ ⟨bu,ah,ai,bc,bi,bd,a1,bj⟩ b7;dsimp only at bu ah ai bc bi a1;have a4:q<o.length:=by
  rcases Ck q o.length with al|al
  ·exact al
  ·rw[LX al] at a1;cases a1
 obtain⟨a,an⟩:∃a,o.getD q 0=a:=⟨_,A⟩;have ak:a<70:=by rw[<-an];exact bv _ (JH a4)
 have br:o.drop q=a::o.drop (q+1):=by
  rw[HF a4,<-an,AY,Aw a4];rfl
 rw[br] at a1 ai;have ci:=B7 ((q:F)<(f.aa.length:F));refine EY.b (A7 ?_);refine Ms.mk (v:=AD (o.getD q 0)) ?_ ?_
 ·exact H4 (q:=o) (er:=a6) (l:=q) Y
 rw[an];have af:j.aa=f.aa/\j.aq=f.aq/\j.av=f.av/\j.bn=f.bn:=by
  have:=bc;simp only[J5.mk.injEq] at this;exact this
 have cg:(BD j.ab a).a.length<=F6 j.i (BD j.ab a):=by
  have:=(ah.d.nB a ak).1;rwa[ah.h ak,ah.v ak] at this
 by_cases ar:f.aq=C a
 ·have b8:((a:F)!=Ca f.aq)=I:=by rw[ar];simp[Ca]
  have aj:K.ei n v (a::o.drop (q+1)) j=if j.ci a=0 then K.ei n v (o.drop (q+1)) j else{j.eu a n with aq:=C a,av:=j.av+1,bn:=v}:=by
   rw[K.ei];simp only[af.2.1,ar,FG]
  refine L ?_;by_cases b3:(BD j.ab a).a.length=F6 j.i (BD j.ab a)
  ·have a0:j.ci a=0:=by show F6 j.i (BD j.ab a)-(BD j.ab a).a.length=0;omega
   refine A9.b (j4 m u t a am 0 (192+U.length) (n.map W++U) 5 ah ak b3) (L ?_);refine F'.mk ((q+1:B):F) Z1 (b7 (q+1,j,a7) ⟨a4,ah.b Y,?_,bc,bi,bd,?_,bj⟩ (by show o.length-(q+1)<o.length-q;omega) ⟨A,A,A,A,A,A,AA⟩ ?_)
   ·rw[<-ai,aj,A8 a0]
   ·rcases C2.1 a1 with al|al
    ·subst al;exact CV ar bj
    ·exact al
   ·exact AQ.b (g:=BJ a3 o a6::AJ am n U::(l.c x m (Bx f)++(.o y (AM (C6 v p r z) S)::Dr v p Z::a7.b m u t)))
  have a0:¬j.ci a=0:=by show¬F6 j.i (BD j.ab a)-(BD j.ab a).a.length=0;omega
  refine A9.u (NS m u t a am 0 (192+U.length) (n.map W++U) 5 n ah Y ak Y ay (Gb n U 192 ay) a9 Y) ?_;rintro v a2 ⟨ax,ba,rfl,rfl⟩;refine L ?_;refine F'.mk ((f.av+1:B):F) (Ec Y6) (A7 ?_);refine⟨_,AQ.b (g:=(⟨l.b,l.f,l.h,y,S,z,p,r,Z⟩:D0).c x m ⟨f.aa,C a,f.av+1,v⟩++ax.b m u t),⟨l.b,l.f,l.h,y,S,z,p,r,Z⟩,ax,?_,?_,A,?_⟩
  ·rw[<-ai,aj,A1 a0];show D0.e (ag+30) _ ⟨j.aa,C a,j.av+1,v⟩;rw[af.1,af.2.2.1];exact⟨ao.nB,bb,au,bf,ao.nA,by show f.av+1<=ag+30;omega⟩
  ·rw[<-ai,aj,A1 a0];exact ba.b Y
  ·rw[<-ai,aj,A1 a0];show _=(⟨l.b,l.f,l.h,y,S,z,p,r,Z⟩:D0).c x m ⟨j.aa,C a,j.av+1,v⟩++_;rw[af.1,af.2.2.1]
 ·have b8:((a:F)!=Ca f.aq)=R:=by
   cases b1:f.aq with
   |none=>simp only[Ca,Bn];omega
   |some cb=>rw[b1] at ar;simp only[Ca,Bn];intro al;exact ar (by congr 1;omega)
  refine L ?_;refine A9.b (NL m u t (a:F) a7) ?_;refine L ?_;refine A9.u (Rw m u t a I ah Y ak) ?_;rintro v a2 ⟨ca,bq,rfl,rfl⟩;refine L ?_;have a5:BD (j.ab.set a ⟨I,[]⟩) a=⟨I,[]⟩:=by rw[Rt (by rw[ah.y];exact ak),A8 A]
  have aj:K.ei n v (a::o.drop (q+1)) j={(j.cx a I).eu a n with aq:=C a,av:=(j.cx a I).av+1,bn:=v}:=by
   rw[K.ei];have bo:¬j.aq=C a:=by rw[af.2.1];exact ar
   have bp:¬(j.cx a I).ci a=0:=by
    show¬F6 j.i (BD (j.ab.set a ⟨I,[]⟩) a)-(BD (j.ab.set a ⟨I,[]⟩) a).a.length=0;rw[a5];show¬j.i-0=0;omega
   simp only[A1 bo,A1 bp]
  refine A9.u (NS m u t a am 0 (192+U.length) (n.map W++U) 5 n bq Y ak (by rw[a5];show 0<j.i;omega) ay (Gb n U 192 ay) a9 Y) ?_;rintro v a2 ⟨ax,ba,rfl,rfl⟩;refine L ?_;refine F'.mk ((f.av+1:B):F) (Ec Y6) (A7 ?_);refine⟨_,AQ.b (g:=(⟨l.b,l.f,l.h,y,S,z,p,r,Z⟩:D0).c x m ⟨f.aa,C a,f.av+1,v⟩++ax.b m u t),⟨l.b,l.f,l.h,y,S,z,p,r,Z⟩,ax,?_,?_,A,?_⟩
  ·rw[<-ai,aj];show D0.e (ag+30) _ ⟨j.aa,C a,j.av+1,v⟩;rw[af.1,af.2.2.1];exact⟨ao.nB,bb,au,bf,ao.nA,by show f.av+1<=ag+30;omega⟩
  ·rw[<-ai,aj];exact ba.b Y
  ·rw[<-ai,aj];show _=(⟨l.b,l.f,l.h,y,S,z,p,r,Z⟩:D0).c x m ⟨j.aa,C a,j.av+1,v⟩++_;rw[af.1,af.2.2.1]
def AA9(a:AU)(m:xs.heap[l]?=C (AM yp p)):
 (Ey 572 #[Cd a (Ah (C l))]).run An xs=Ao (Kf (Cd a (Ah (C xs.heap.size)))) (xs.alloc (AM yp p)):=by
 rw[run_callFunc_extern Tryz.func572 Y3 Y3 Y3 (e:=Extern.MapsClone.clone) Y3];have f:Extern.MapsClone.clone #[Cd a (Ah (C l))]=(Q5 l>>=λo=>match o with
  |AM j p=>(newObj (AM j p)>>=λn=>pure (Cd a (Ah (C n))))
  |_=>stuck "maps.clone: a map expected"):=A
 rw[f];simp[LV xs l yp p m,Nw,go_sem]
def iJ(l:B)(j:Ai CO)(f:B):Z9 549 [Ah (C l)] [.o l (AM j f)] λv n=>∃a,v=Ah (C a)/\n=[.o a (AM j f),.o l (AM j f)]:=by
 refine A9.y ?_;refine L ?_;conv=>whnf
 refine Cr.ak A A A (λq r p m=>⟨_,_,_,AA9 (yp:=j) (p:=f) _ (BA.i (a:=[.o l (AM j f)]) m),?_,m.v _⟩);obtain⟨a,o⟩:∃a,p.heap.size=a:=⟨_,A⟩;rw[o];exact E7.ab A A A ⟨a,A,A⟩
def Ng(v:AC (G B))(j a:B):G (F×M):=match v with
 |none=>[]
 |some f=>[(0,Q j f.length a)]
def Xp(v:AC (G B))(f a j:B):Da (C6 v f a j) (Ng v f a):=by cases v<;>rfl
def mV(v:AC (G B))(j f:B)(a:M):DC (Ng v j f) ((0:B):F) a=[(0,a)]:=by cases v<;>rfl
def lC(p l n o:B)(j:D0)(f:K)(a:G B)(ak al x ai aj:B)(u:G M)(S:AU)(q:B)(m:AX)(am:B2 q m f)(aa:D0.e q j (Bx f))(ba:f.aj=128)(a6:f.i=8\/f.i=16)(an:0<a.length/\a.length<=172/\∀au∈a,au<256)(a1:(u.drop ai).take a.length=a.map W)(bm:2<=f.aa.length)(a3:∃bf∈f.aa,f.aq≠C bf)(a4:q+30<=1000000000):
 Z9 490 [P p,Q ak 1 1,Q al 1 1] (j.c p l (Bx f)++(.t ak [AD 0] 3::.t al [O (C ⟨x,ai,E⟩) a.length aj] 31::.t x u S::m.b l n o))
  λbe ar=>∃(z:D0)(t:AX),D0.e (q+30) z (Bx (f.cr (C a)))/\B2 (q+30) t (f.cr (C a))/\be=N 0/\ar=z.c p l (Bx (f.cr (C a)))++(.t x u S::t.b l n o):=by
 obtain⟨aq,a7,a8⟩:=aa.nA;have bb:=aa.nF;dsimp only at aq a7 a8 bb;refine A9.t ?_;refine L ?_;refine A9.u (iJ j.d (C6 f.bn j.a j.g j.j) j.s) ?_;rintro v af ⟨az,rfl,rfl⟩;refine L ?_;intro bk;refine L ?_;refine EY.b (A7 ?_);refine E7.b (yq:=_) (yb:=_) (yp:=#[]) (yi:=0) (yx:=[]) A A A A A A A A (L ?_);refine Cr.ae (ak:=[]) (a:=#[]) (l:=0) A A A A A A (show Da #[] [] from A) El.b (λbi bh bo bn=>?_);refine A7 ?_;refine A9.u (HT x ai a.length aj a u S Y a1 A) ?_;rintro v af ⟨y,r,a9,rfl,rfl⟩;refine L ?_;refine Cr.ae (ak:=Ng f.bn j.a j.g) (a:=C6 f.bn j.a j.g j.j) (l:=j.s) A A A A A A (Xp _ _ _ _) aa.nD (λbj av Z U=>?_);rw[mV] at Z;obtain⟨ag,rfl⟩:=VK Z;refine F'.mk 1 A (EY.b (L ?_));refine Cr.an A A A (λbt=>?_);refine EY.b (Cr.aj A A U [] (Mv.h _) (λap=>?_) (λax ao bp bc=>?_))
 ·have:=ap.length_eq;simp at this
 have a2:ax=⟨N ((0:B):F),Q y a.length (a.length+r.length),ag⟩:=by simpa using ao
 subst a2;refine L ?_;refine Cr.am A A U ao (L ?_);refine F'.mk ((a.length:B):F) Y4 (EY.b (Cr.aj A A U _ bc (λap=>?_) (λay Z a5 _=>?_)));rotate_left
 ·exfalso;have:ay=⟨N ((0:B):F),Q y a.length (a.length+r.length),ag⟩:=by simpa using Z
  exact a5 (by simp[this])
 refine L ?_;refine A9.b (PG l n o m) (F'.mk 176 A (E7.s A A A A A (F'.mk 4 A (F'.mk 172 A ?_))));have bq:=Aa ((a.length:F)>172);have br:m.a.x=I:=am.e;have bs:=Aa ((f.aa.length:F)<2);refine L ?_;refine A9.b (IV n m.a) (L ?_);refine A9.u (N7 p l n o j.b f.aa.length j.f f.aa j.h _ _ _ m A aq Y) ?_;rintro v af ⟨bl,bg,bu,rfl,rfl⟩;refine L ?_;refine A9.w ((AQ.u (Gt.t (x:=AJ y a r) Y0)).t (AQ.aa [AJ y a r] _)) (A9.u (XQ p l n o j f (C a) az y (a.length+r.length) ag av r q m am aa ba a6 (λaw ah=>by cases ah;exact⟨an.1,Y,an.2.2⟩) U (λaw ah=>by cases ah;exact⟨A,a9⟩) a3 a4) ?_);rintro v af ⟨z,t,bd,a0,rfl,rfl⟩;refine L ?_;exact⟨_,AQ.b (g:=z.c p l (Bx (f.cr (C a)))++(.t x u S::t.b l n o)),z,t,bd,a0,A,A⟩
def XL(p j u t:B)(z:D0)(a:K)(f:G B)(o y F:B)(n:G M)(r:AU)(l:B)(x:AX)(aa:B2 l x a)(an:D0.e l z (Bx a))(am:a.aj=128)(al:a.i=8\/a.i=16)(ai:0<f.length/\f.length<=172/\∀U∈f,U<256)(ah:(n.drop y).take f.length=f.map W)(af:2<=a.aa.length)(aj:∃aq∈a.aa,a.aq≠C aq)(ak:l+30<=1000000000):
 Z9 415 [P p,N 0,O (C ⟨o,y,E⟩) f.length F] (z.c p j (Bx a)++(.t o n r::x.b j u t))
  λap S=>∃(q:D0)(m:AX),D0.e (l+30) q (Bx (a.cr (C f)))/\B2 (l+30) m (a.cr (C f))/\ap=N 0/\S=q.c p j (Bx (a.cr (C f)))++(.t o n r::m.b j u t):=by
 refine A9.t (L ?_);intro Y Z;refine A9.u (lC p j u t z a f Y Z o y F n r l x aa an am al ai ah af aj ak) ?_;rintro v ar ⟨q,m,ao,ag,rfl,rfl⟩;exact⟨_,AQ.b (g:=q.c p j (Bx (a.cr (C f)))++(.t o n r::m.b j u t)),q,m,ao,ag,A,A⟩
def ABC(l m:B)(a:D0)(j:J5)(f:G B)(z:B)(y:D0.e z a j)(n:j.b=C f):
 Z9 422 [P l,N 0] (a.c l m j) λv t=>∃p o,f.length+o.length<=BP/\v=AL #[Q p f.length (f.length+o.length),X R]/\t=AJ p f o::a.c l m j:=by
 have S:=y.nE f n;have x:Cu (0:F) (Ng j.b a.a a.g)=C (Q a.a f.length a.g):=by rw[n];rfl
 refine A9.w (a:=AJ a.a f a.i::[.t l [P m,Q a.b j.a.length a.f,D1 j.c,D Au j.d,Ah (C a.d)] 477,BJ a.b j.a a.h,.o a.d (AM (C6 j.b a.a a.g a.j) a.s)]) ?_ (A9.aa ?_)
 ·refine(AQ.u (Gt.t (x:=Dr j.b a.a a.i) Y0)).t ?_;rw[n];exact AQ.ac [AJ a.a f a.i] _
 refine A9.y ?_;refine L ?_;refine E7.b (yq:=_) (yb:=_) (yp:=C6 j.b a.a a.g a.j) (yi:=a.s) (yx:=Ng j.b a.a a.g) A A A A A A A (Xp _ _ _ _) ?_;rw[x];refine L ?_;refine A9.u (HT a.a 0 f.length a.g f (f.map W++a.i) 5 Y (Gb f a.i _ A) A) ?_;rintro v M ⟨q,r,u,rfl,rfl⟩;refine L ?_;refine⟨_,?_,q,r,u,A,A⟩;refine(AQ.u (Gt.t (x:=AJ a.a f a.i) Y0)).t ((AQ.aa [AJ a.a f a.i] _).t ?_);rw[show[AJ a.a f a.i]=I5 j.b a.a a.i by rw[n]];exact AQ.b (g:=AJ q f r::a.c l m j)
