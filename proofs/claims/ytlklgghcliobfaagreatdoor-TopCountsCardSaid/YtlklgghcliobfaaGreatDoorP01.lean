/- Lemmas. -/
import Derived.Test.YtlklgghcliobfaaGreatDoorRows
import Derived.WalkKit
import Derived.ProofKit
import Derived.OpenShut
import Derived.ShutString
import Derived.ChangeOld
import Derived.Below
import Derived.Lib.Hide
import Derived.Deep.Slices
import Derived.SizedLaws
import Derived.JoinedCond
import Derived.Deep.CondSized
import Derived.Deep.DeepHandedRow
import Derived.Deep.DeepWitnessRowRef
import Derived.LaidMore
import Derived.Lib.LaidTab
import Derived.Laws.AppendOwnNone
import Derived.Deep.RegionLaw
import Derived.Deep.QuietTactic
import Derived.BigQuiet
import Derived.WalkSpells
import Derived.WalkLawsBesides
import Derived.Deep.RegionWith
import Derived.Deep.RegionHeld3
import Derived.StillTailTactics
import Derived.Deep.Fields
import Derived.ChangeSame
import Derived.Deep.WholeRow
import Derived.Lib.TrailingZeros
import Derived.Laws.Tables
import Derived.OrdersHeld
import Derived.Scope
namespace Go.Proofs.YtlklgghcliobfaaGreatDoor
open Go Go.RowKit
open _root_.Array renaming ext'->G4,getD->E6,getElem?_append_left->Te,getElem?_eq_getElem->Lf,getElem?_eq_some_iff->FY,mapM_eq_mapM_toList->Tf,range->a6,replicate->Mo,setIfInBounds_comm->Tg
open Bool renaming and_eq_true->GK,false->I,false_eq_true->QU,not_eq_true'->K',or_eq_true->Lg,true->R
open Decidable renaming decide->Ac
open Go renaming Act->C9,Addr->CW,ChangeSpec->aC,Code->Li,DataW->Ka,Deferred->QW,Exit->II,Field->QX,Frame->QY,Func->Fr,IntKind->Ej,MemPlace->OM,Obj->EF,Oper->Al,Operand->Cf,Program->GN,ResultVar->ZI,TypeDesc->Nx,TypeId->AU,TypeInfo->EU,Value->M,World->AG,YieldsIf->TI,asAddr->ZP,binOp->ED,bits->Dz,builtin->GG,calls_of_wp->ADe,eqGuard->IA,execOp->Bh,fieldPlace->ADf,follow->TJ,getD_set_ne->LQ,getD_set_true->M',invoke->LR,laidOutB->ZR,loadCells->Mb,loadCellsFrom->Nz,loadVar->TK,mem_ready->GH,ready_mono->ZS,receiverAt->TL,resolve->LU,results->TM,sizeOf->Q7,storeCells->ZU,storeVar->TN,strOfNums->ADs,undef->Cw,wpList->Mc,wpOp_mono->ZW,wp_region_any->ADx,yielded->LW,zeroValue->KL
open Go.Act renaming eval->QV,put->Tj
open Go.Callee renaming builtin->Ei
open Go.Code renaming rangeFunc->aD,region->OK
open Go.DataW renaming TrodAll->HK
open Go.Ending renaming returned->BT
open Go.Exit renaming normal->Jh,panic->Lj
open Go.Instr renaming build->Tm,buildSlice->Tn,fill->To,slice->aJ,sliceAt->Tq,sliceBounds->aK,sureAddr->QZ
open Go.Item renaming inLoop->Ke
open Go.Obj renaming cells->CP
open Go.Op renaming assign->Tt,binOp->Tu,build->Tv,buildSlice->aN,call->FH,convert->ON,extract->Tw,field->Tx,fieldAddr->Ty,index->Tz,indexAddr->U0,intArith->U1,intBits->Qb,intDiv->aO,load->U2,makeFunc->U3,makeInterface->U4,makeMap->aP,move->U5,nilCheck->U6,pick->U7,select->Ln,shift->aR,slice->U8,typeAssert->aS,unOp->U9
open Go.Region renaming binds->KJ,ready->FB,wanted->HC
open Go.Region.Mode renaming any->EM
open Go.Result renaming andThen_ok->Bp,ok->Ao
open Go.RowKit renaming Below->Bq
open Go.RowKit.Below renaming heap_setCell->ZJ,refl->DT
open Go.Sem renaming bind->AD9,run->Q1,run_bind->Ak,run_ite->ADa,run_map->ZK,run_pure->Ex
open Go.TypeDesc renaming array->Q3,bool->ZL,interface->TG,pointer->ZM,slice->FC,string->ZN,struct->MZ
open Go.Value renaming agg->AV,bool->X,cells->TH,func->BZ,iface->Cd,int->D,map->Ah,nilFunc->ZO,nilIface->Hf,pointer->T,slice->O,string->In,tuple->AL
open Int renaming not_lt->AEB,ofNat_inj->ZY
open LawfulMonad renaming pure_bind->HD
open List renaming append_assoc->BS,append_nil->B1,drop_append->O0,drop_drop->FD,drop_eq_getElem_cons->HF,drop_eq_nil_of_le->AEN,drop_zero->CJ,eq_nil_iff_forall_not_mem->AEP,eq_nil_of_length_eq_zero->KN,erase_of_not_mem->AER,ext_getElem?->Gj,filter_congr->Q9,filter_filter->QB,foldl_cons->DN,fst_mem_of_mem_zipIdx->AEZ,getD->Cp,getD_eq_getElem?_getD->AY,getElem?_append_left->Di,getElem?_append_right->G3,getElem?_cons_succ->IC,getElem?_cons_zero->GI,getElem?_drop->FU,getElem?_eq_getElem->Aw,getElem?_eq_none->Dm,getElem?_eq_some_iff->Cx,getElem?_map->D_,getElem?_of_mem->TR,getElem?_range->Mg,getElem?_replicate->HH,getElem?_set->EV,getElem?_set_ne->Ir,getElem?_set_self->Mh,getElem?_toArray->LY,getElem_of_mem->O3,length_append->Ad,length_cons->C8,length_drop->DV,length_erase_of_mem->AE0,length_filter_le->Ez,length_range->Dj,length_replicate->BI,length_set->B_,length_singleton->JZ,length_take->Ci,length_zipIdx->Zg,mapM_cons->Zh,map_append->CU,map_congr_left->It,map_cons->Ee,mem_append->Bs,mem_append_left->J',mem_append_right->KR,mem_cons->C2,mem_cons_of_mem->By,mem_cons_self->Bt,mem_filter->CF,mem_flatten->AE3,mem_map->CI,mem_mergeSort->KS,mem_of_getElem?->FW,mem_of_mem_drop->EP,mem_of_mem_take->EW,mem_range->Ce,mem_replicate->FX,mem_singleton->CZ,mergeSort_perm->AE5,nodup_append->ID,nodup_range->TU,not_mem_nil->Ef,range->AH,replicate->U,setIfInBounds_toArray->KU,set_set->Hl,take_append_of_le_length->Eg,take_of_length_le->DP
open List.Nodup renaming erase_eq_filter->AEI,length_le_of_subset->Md
open Nat renaming add_comm->L_,beq->TX,ble->La,blt->AEh,div_add_mod->Zo,eq_of_beq_eq_true->QG,le_refl->AI,le_succ->IE,le_trans->D9,lt_of_lt_of_le->TY,lt_or_ge->Ck,mod_eq_of_lt->Ja,mod_lt->Ml,mul_add->OA,mul_le_mul_left->OC,not_lt->QK,one_shiftLeft->T',pow_succ->IF,rec->AEy,reducePow->Lb,sub_self->OE,sub_zero->Ta,succ_le_succ->Zu,testBit->D',testBit_or->QL,testBit_two_pow->OF,zero_le->Af,zero_mul->Mn,zero_testBit->Tc
open Ne renaming symm->Jb
open Option renaming bind_some->Zy,getD_none->Zz,getD_some->IG,isSome_none->AFW,isSome_some->AFX,map_none->AFB,map_some->Ld,none->E,some->C
open Option.some renaming inj->Gl,injEq->EX
open Or renaming inl->AT,inr->Ae
open UInt8 renaming ofNat->OG,toNat->OH
open _root_ renaming Array->Ai,Bool->AE,ByteArray->Lh,Decidable->aA,DecidableEq->aB,False->Be,Int->F,List->G,Nat->B,Option->AC,String->Td,absurd->CV,beq_iff_eq->F1,bne_iff_ne->Bn,congrArg->AB,decide_eq_false->F2,decide_eq_true->DH,decide_eq_true_eq->KZ,if_false->Hp,if_neg->A1,if_pos->A8,if_true->FG,ne_eq->K_,not_false_eq_true->AFC,or_false->Eh,outParam->Gm,rfl->A,trivial->AA
abbrev V(g:Nat):Option Addr:=some ⟨g,0,none⟩
abbrev N(x:Int):Value:=.int .i64 x
abbrev P(g:Nat):Value:=.pointer (V g)
abbrev Q(g:Nat):Nat->Nat->Value:=.slice (V g)
set_option linter.all false
set_option maxHeartbeats 8000000
set_option maxRecDepth 100000
section
open Go.ChangeShapes Go.WideShapes Go.ChangeAt Go.RowKit
def B7(a:Prop)[aA a](f:a:=by omega):Ac a=R:=DH f
def Aa(a:Prop)[aA a](f:¬a:=by omega):Ac a=I:=F2 f
def Lv{q:Type}(n:B)(r:q->G M)(w:AG)(a:AC CW)(l:B)(p:G q):Prop:=
 p.length=l/\(0<l->∃b m,a=C ⟨b,m,E⟩/\b<w.heap.size/\∀j o,p[j]?=C o->∀f,f<n->w.cell? ⟨b,m+(j*n+f),E⟩=(r o)[f]?)
def Lv.below{r:Type}{o:B}{f:r->G M}{w p:AG}{a:AC CW}{n:B}{q:G r}(j:Lv o f w a n q)(l:Bq w.heap.size w p):Lv o f p a n q:=
 ⟨j.1,λt=>by
  obtain⟨b,L,x,m,u⟩:=j.2 t;exact⟨b,L,x,TY m l.size,λF N z H y=>(l.cell (p:=⟨b,_,E⟩) m).trans (u F N z H y)⟩⟩
def Qi(n:Ej)(w:AG)(a:AC CW)(j:B)(m:G F):Prop:=
 m.length=j/\(0<j->∃b l,a=C ⟨b,l,E⟩/\b<w.heap.size/\∀f,f<j->w.cell? ⟨b,l+f,E⟩=C (D n (m.getD f 0)))
def Qf(w:AG)(a:AC CW)(l:B)(j:G B):Prop:=
 j.length=l/\(∀n∈j,n<256)/\(0<l->∃b m,a=C ⟨b,m,E⟩/\b<w.heap.size/\∀f,f<l->w.cell? ⟨b,m+f,E⟩=C (D .u8 (j.getD f 0:B)))
def C1(a:G B):G M:=a.map λf:B=>D .u8 (f:F)
def AC0(j:G B):∀f∈C1 j,f.oneCell'=R:=by intro f a;simp[C1] at a;obtain⟨l,_,rfl⟩:=a;rfl
def Pw(a:G B):(C1 a).length=a.length:=by simp[C1]
def ACZ(a b:G B):C1 (a++b)=C1 a++C1 b:=by simp[C1]
def UM(a:Prop):Prop:=a
def UM.mk{a:Prop}(f:UM a):a:=f
def UM.b{a:Prop}(f:a):UM a:=f
def cA{j:B}{a w:AG}(f:Bq j a w)(l:B):Bq j a (w.drewN l):=⟨f.os,f.tape,f.output,f.size,f.block⟩
def DF(a:G B):Lh:=ADs (a.map λf:B=>(f:F))
def Y{P:Prop}(h:P:=by omega):P:=h
def YC{d:GN}{w:AG}{a:AC CW}{f:B}{l:G B}(j:Qf w a f l)(r o n:AU)(y:d.underlying r=C (FC o))(q:d.underlying o=C (.int .u8))(u:d.underlying n=C ZN)(m:B):
 (convert r n (O a f m)).run d w=Ao (In (DF l)) w:=by
 cases a with
 |none=>
  have p:f=0:=by
   by_cases p:0<f
   ·obtain⟨b,z,q,_⟩:=j.2.2 p;simp at q
   ·omega
  subst p;have x:l=[]:=KN j.1;subst x;exact run_convert_bytes_nil w r o y q 0 m n u
 |some t=>
  by_cases p:0<f
  ·obtain⟨b,z,U,_,S⟩:=j.2.2 p;obtain rfl:t=⟨b,z,E⟩:=by simpa using U
   refine run_convert_bytes_arg w r o y q b z f m (l.map λaa:B=>(aa:F)) (by simpa using j.1) (λL H=>?_) n u;have W:L<l.length:=by rw[j.1];exact H
   rw[S L H];simp[Cp,Aw W]
  ·have M:f=0:=Y;subst M;have x:l=[]:=KN j.1;subst x;have Z:(Mb t 0).run d w=Ao (([]:G F).map (D .u8)).toArray w:=by simp[Mb,Nz]
   rw[run_convert_bytes_string w r n o _ 0 m y q u,run_bytesToString w t 0 m [] Z];rfl
def ABi{a l:G B}(m:∀f∈a,f<256)(x:∀f∈l,f<256)(o:DF a=DF l):a=l:=by
 have p:(a.map λj:B=>OG j)=(l.map λj:B=>OG j):=by
  have:=AB (λb:Lh=>b.data.toList) o;simpa[DF,ADs,Function.comp_def] using this
 have q:=AB (List.map OH) p;have n:∀a:G B,(∀f∈a,f<256)->(a.map λj:B=>OG j).map OH=a:=by
  intro a m;rw[List.map_map];have u:=List.map_id a;have t:a.map (OH∘λj:B=>OG j)=a.map id:=It λf r=>by simp[UInt8.toNat_ofNat',Ja (m f r)]
  rw[t,u]
 rwa[n a m,n l x] at q
def YV{a f:G B}(n:∀j∈a,j<256)(o:∀j∈f,j<256):((DF a).toList==(DF f).toList)=(a==f):=by
 rw[Bool.eq_iff_iff,F1,F1,ByteArray.toList_eq,ByteArray.toList_eq];refine⟨λl=>ABi n o ?_,λl=>by rw[l]⟩;have m:(DF a).data=(DF f).data:=Array.toList_inj.1 l;exact ByteArray.ext m
section
variable{d:GN}{h:Ai Al}{i:G Al}{g:Al}{a:C9}{w:AG}{e:II->C9->AG->Prop}
end
def J1(a:F):Prop:=-9223372036854775808<=a/\a<=9223372036854775807
def AFN{a:F}(f:(Lit.int .i64 a).wf=R):J1 a:=bounds_i64 f
section
variable{c:Type}{f:AU×M->c}{d:GN}
def Below.b(y:ZR d=R){j u:AG}(x:Bq j.heap.size j u):∀{o:G AU}{t:G M}{p:G (Ka c)}{n:G OM},
 o.all (λr=>d.readableRec r&&Ac (r<d.types.size))=R->HK f d j 0 (λ_=>R) R o t p n->(∀l∈n,l.block<j.heap.size)->
 HK f d u 0 (λb=>Ac (b<j.heap.size)) R o t p n
 |[],[],[],_,_,a,_=>a
 |r::o,v::t,N::p,n,m,a,z=>by
  obtain⟨H,L,B,F,rfl⟩:=a;simp only[List.all_cons,GK,KZ] at m;refine⟨H,L,Below.trod y m.1.1 m.1.2 B x (λl q=>z l (by simp[q])),Below.b y x (by simpa using m.2) F (λl q=>z l (by simp[q])),A⟩
 |[],[],_::_,_,_,a,_=>by simp[HK] at a
 |[],_::_,_,_,_,a,_=>by simp[HK] at a
 |_::_,[],_,_,_,a,_=>by simp[HK] at a
 |_::_,_::_,[],_,_,a,_=>by simp[HK] at a
def UN:∀{w:AG}{o:B}{r:B->AE}{q:AE}{j:G AU}{m:G M}{l:G (Ka c)}{n:G OM},HK f d w o r q j m l n->l.length=j.length/\m.length=j.length
 |_,_,_,_,[],[],[],_,_=>⟨A,A⟩
 |_,_,_,_,y::j,v::m,t::l,n,a=>by
  obtain⟨u,x,_,p,_⟩:=a;have:=UN p;simp[this.1,this.2]
 |_,_,_,_,[],[],_::_,_,a=>by simp[HK] at a
 |_,_,_,_,[],_::_,_,_,a=>by simp[HK] at a
 |_,_,_,_,_::_,[],_,_,a=>by simp[HK] at a
 |_,_,_,_,_::_,_::_,[],_,a=>by simp[HK] at a
structure b0(z:AU×M->c)(a:GN)(m:Fr)(F:OpenSpec)(j:G (Td×Ka Unit))(f:AG)(y:B)(args:Ai M)(l:G (Ka c))(p:G OM):Prop where
 x:∀(n:B) q r,m.params[n]?=C q->args[n]?=C r->Value.okWide a f .any y q r
 v:HK z a f 0 (λ_=>R) R m.params.toList args.toList l p
 u:(DataW.weightsEach a m.params.toList l).all (·<=reachBytes)=R
 s:∀H∈p,H.block<f.heap.size
 j:laidMetH a j f
 b:∀o,F.cond=C o->o c l=R
 t:f.ShapedOpen a
def i3{a:Checked}{n:Fr}{m:aC}{x:AU}(L:ZR a.prog=R)(Y:m.vars=[])
 (U:n.resultTypes=#[x])(F:a.prog.underlying x=C ZL)(S:n.params.toList.all (λu=>a.prog.readableRec u&&Ac (u<a.prog.types.size))=R)
 {l p:AG}{args:Ai M}{j t:G (Ka c)}{q o:G OM}
 (B:DataW.Whole f a.prog n.params.toList m.vars I l args.toList j t q)(H:t=[])
 (W:(m.fn c j).results=[.lit (.bool R)]/\(m.fn c j).args=j/\(m.fn c j).vars=[])
 (z:HK f a.prog l 0 (λ_=>R) R n.params.toList args.toList j o)(N:∀ag∈o,ag.block<l.heap.size)(r:Bq l.heap.size l p):
 m.post f a.prog n I R I I l args (X R) p:=by
 obtain⟨Z,aa,af⟩:=W;subst H;refine⟨j,[],q,[],o,[],B,?_,?_,?_,r.frame _,λy=>by cases y⟩
 ·rw[U,B1,Z];exact trodAll_mk1 (shut_bool F _)
 ·rw[B1,aa];exact Below.b L r S z N
 ·rw[B1,af,Y];rfl
def AFO{a:Checked}{F:Os}{o:FuncId}{l:Fr}{p:aC}{g:OpenSpec}{z:G (Td×Ka Unit)}{ah:AU}{H:Stop.Interp}(Y:g.at H=p)(a1:ownKnob a.prog.godebug=E)(aq:ZR a.prog=R)(a2:F.Started)(a0:a.prog.inits.idxOf? o=E)(am:a.prog.funcs[o]?=C l)
 (r:g.vars=[])(au:l.resultTypes=#[ah])(ak:a.prog.underlying ah=C ZL)(ar:l.params.toList.all (λag=>a.prog.readableRec ag&&Ac (ag<a.prog.types.size))=R)
 (aw:∀(j:G (Ka c)),j.length=l.params.toList.length->(p.fn c j).results=[.lit (.bool R)]/\(p.fn c j).args=j/\(p.fn c j).vars=[])
 (a4:∃(w:AG)(u:Tape)(m:Input),w.os=F/\(w.forCall u m).Shaped a.prog/\m.vars=[]/\Input.okWide a.prog (w.forCall u m) .any w.heap.size o m/\
  g.preRow f a.prog l [] I z (w.forCall u m).memory m.args/\({}:Assume).holds a.prog (lone (Frame.enter a.prog o m.args .normal) [] (w.forCall u m)))
 (a3:∀(n:AG)(x:B)(args:Ai M)(j:G (Ka c))(t:G OM),b0 f a.prog l g z n x args j t->
  Calls a.prog o args n λN L=>N=BT (X R)/\Bq n.heap.size n L):
 ReturnsInHanded {} a F o .any (g.preRow f a.prog l [] I z) ((g.at H).post f a.prog l I R I I):=by
 refine returnsInHanded_of_row a1 a2 a0 am a4 ?_;intro n x args j y a6 ay U a8 ao aa aj av _;rw[Y];have af:p.vars=[]:=by rw[<-Y];exact r
 have W:=U;obtain⟨t,bb,q,S,rfl,a9,ba⟩:=U;rw[r] at S;have an:y=[]:=by
  cases y with
  |nil=>rfl
  |cons a7 y=>simp[DataW.TrodVars] at S
 subst an;have ax:g.bare.plain.varTypes a.prog=[]:=by simp[ChangeSpec.plain,OpenSpec.bare,DataSpec.varTypes,r]
 rw[ax,B1,B1] at aa;have Z:∀a5∈t,a5.block<n.heap.size:=q.lt;refine(a3 n x args j t ⟨ay,q,aa,Z,aj,λaz ap=>by have:=ao az ap;rwa[B1] at this,av⟩).mono λN L⟨al,ai⟩=>?_;rw[r,<-af] at W;exact⟨_,al,i3 aq af au ak ar W A (aw j (UN q).1) q Z ai⟩
end
end
section
open Go.ChangeShapes Go.WideShapes Go.Deep Go.RowKit
section
variable{a:Type}{d:AU×M->a}{c:GN}{w:AG}
end
def BU(w:AG)(f:B)(j:Ai M)(a:AU):Prop:=w.heap[f]?=C (CP j a (0,0))
def BU.b{w:AG}{a:B}{l:Ai M}{f:AU}(j:BU w a l f):a<w.heap.size:=lt_of_block j
def BU.below{w m:AG}{a f:B}{l:Ai M}{j:AU}(n:BU w a l j)(p:Bq f w m)(o:a<f):BU m a l j:=(p.block a o).trans n
def BU.e{w:AG}{a:B}{j:Ai M}{l:AU}(m:BU w a j l)(f:B):w.cell? ⟨a,f,E⟩=j[f]?:=by simp[World.cell?,show w.heap[a]?=_ from m]
def BU.g{w:AG}{a:B}{m:Ai M}{f:AU}(j:BU w a m f)(l:B):w.frozen? ⟨a,l,E⟩=I:=by simp[World.frozen?,show w.heap[a]?=_ from j]
def BU.i(w:AG)(f:Ai M)(a:AU):BU (w.alloc (CP f a)) w.heap.size f a:=by
 show(w.heap.push _)[w.heap.size]?=C _;simp
def BU.y{w:AG}{j:B}(l:j=w.heap.size)(f:Ai M)(a:AU):BU (w.alloc (CP f a)) j f a:=l▸BU.i w f a
def BU.x{w:AG}{f:B}{l:Ai M}{a:AU}(j:BU w f l a)(o:EF):BU (w.alloc o) f l a:=j.below ((DT _ _).alloc (AI _) o) j.b
def BU.f{w:AG}{a:B}{j l m n o p q:M}{r:AU}(f:BU w a #[j,l,m,n,o,p,q] r):
 a<w.heap.size/\w.cell? ⟨a,0,E⟩=C j/\w.cell? ⟨a,1,E⟩=C l/\w.cell? ⟨a,2,E⟩=C m/\w.cell? ⟨a,3,E⟩=C n/\w.cell? ⟨a,4,E⟩=C o/\w.cell? ⟨a,5,E⟩=C p/\w.cell? ⟨a,6,E⟩=C q:=
 ⟨f.b,f.e 0,f.e 1,f.e 2,f.e 3,f.e 4,f.e 5,f.e 6⟩
def BU.s{w:AG}{a:B}{l:Ai M}{j:AU}(f:BU w a l j):
 w.frozen? ⟨a,0,E⟩=I/\w.frozen? ⟨a,1,E⟩=I/\w.frozen? ⟨a,2,E⟩=I/\w.frozen? ⟨a,3,E⟩=I/\w.frozen? ⟨a,4,E⟩=I/\w.frozen? ⟨a,5,E⟩=I/\w.frozen? ⟨a,6,E⟩=I:=
 ⟨f.g 0,f.g 1,f.g 2,f.g 3,f.g 4,f.g 5,f.g 6⟩
def BU.j{w:AG}{a:B}{j:Ai M}{f:AU}(l:BU w a j f)(n:B)(v:M):BU (w.setCell ⟨a,n,E⟩ v) a (j.setIfInBounds n v) f:=by
 have m:=l.b;have o:w.heap[a]=CP j f (0,0):=by simpa[BU,Lf m] using l
 show(w.heap.modify a _)[a]?=_;rw[Lf (by simpa using m),Array.getElem_modify_self,o];rfl
def BU.t{w:AG}{a:B}{l:Ai M}{f:AU}(m:BU w a l f){j:CW}(n:a≠j.block)(v:M):BU (w.setCell j v) a l f:=(ZJ _ _ _ _ n).trans m
def Pm(w:AG)(a:B)(f j l m n o p:M):AG:=
 ((((((w.setCell ⟨a,0,E⟩ f).setCell ⟨a,1,E⟩ j).setCell ⟨a,2,E⟩ l).setCell ⟨a,3,E⟩ m).setCell ⟨a,4,E⟩ n).setCell ⟨a,5,E⟩ o).setCell ⟨a,6,E⟩ p
def Y1{P:Prop}(h:P:=by simp):P:=h
def BU.u{w:AG}{p:B}{r t u x y z F:M}{q:AU}(L:BU w p #[r,t,u,x,y,z,F] q)(a f j l m n o:M):BU (Pm w p a f j l m n o) p #[a,f,j,l,m,n,o] q:=by
 have G:=((((((L.j 0 a).j 1 f).j 2 j).j 3 l).j 4 m).j 5 n).j 6 o;have H:((((((#[r,t,u,x,y,z,F].setIfInBounds 0 a).setIfInBounds 1 f).setIfInBounds 2 j).setIfInBounds 3 l).setIfInBounds 4 m).setIfInBounds 5 n).setIfInBounds 6 o=#[a,f,j,l,m,n,o]:=Y1;rw[H] at G;exact G
def BU.v{w:AG}{t f:B}{u:Ai M}{j:AU}(x:BU w f u j)(a:f≠t)(l m n o p q r:M):BU (Go.Proofs.YtlklgghcliobfaaGreatDoor.Pm w t l m n o p q r) f u j:=
 ((((((x.t a l).t a m).t a n).t a o).t a p).t a q).t a r
def R3{f:B}{j w:AG}(u:Bq f j w){t:B}(a:f<=t)(l m n o p q r:M):Bq f j (Pm w t l m n o p q r):=
 ((((((u.setCell a l).setCell a m).setCell a n).setCell a o).setCell a p).setCell a q).setCell a r
def Fc{a:B}{f w:AG}(j:Bq a f w)(l:a<=w.heap.size)(o:EF):Bq a f (w.alloc o):=j.trans ((DT a w).alloc l o)
def Dx{a:B}{f w j:AG}(l:Bq a f w)(n:Bq w.heap.size w j)(m:a<=w.heap.size):Bq a f j:=l.trans (n.mono m)
end
def R'(a:AG)(f:AC B):a.grownBy a f:=⟨A,A,A,AI _,λ_ _ _=>A⟩
variable{l:B}
def Vv{f b:AG}(a:f.grownBy b (C l))(m:B)(v:M):f.grownBy (b.setCell ⟨l,m,E⟩ v) (C l):=
 ⟨a.os,a.tape,a.output,by simpa using a.size,λn p j=>(ZJ b ⟨l,m,E⟩ v n (λo=>j (by rw[o]))).trans (a.block n p j)⟩
abbrev BR:=B->Prop
def Kn(l:BR)(f j:AG):Prop:=f.heap.size<=j.heap.size/\∀a,l a->a<f.heap.size->j.heap[a]?=f.heap[a]?
structure Gs(n:BR)(j l:AG):Prop where
 d:l.os=j.os
 f:l.tape=j.tape
 e:l.output=j.output
 a:j.heap.size<=l.heap.size
 b:∀m,m<j.heap.size->¬n m->l.heap[m]?=j.heap[m]?
def BR.a(f:BR)(j l:AG):BR:=λa=>f a\/(j.heap.size<=a/\a<l.heap.size)
def BR.b(f j:BR):Prop:=∀a,f a->j a
def BR.c(f:BR)(j:AG):Prop:=∀a,f a->a<j.heap.size
def Gs.h(f:BR)(a:AG):Gs f a a:=⟨A,A,A,AI _,λ_ _ _=>A⟩
def Gs.g{l o:BR}{m b p:AG}(f:Gs l m b)(j:Gs o b p)(r:∀a,a<m.heap.size->o a->l a):Gs l m p:=
 ⟨j.d.trans f.d,j.f.trans f.f,j.e.trans f.e,D9 f.a j.a,λa n q=>(j.b a (TY n f.a) (λt=>q (r a n t))).trans (f.b a n q)⟩
variable{xw:BR}
def Gs.below{f b:AG}(a:Bq f.heap.size f b):Gs xw f b:=⟨a.os,a.tape,a.output,a.size,λl j _=>a.block l j⟩
def Gs.c{f b:AG}(a:f.grownBy b (C l))(m:xw l):Gs xw f b:=
 ⟨a.os,a.tape,a.output,a.size,λp n o=>a.block p n λj=>by cases j;exact o m⟩
def Gs.j{f b:AG}(a:Gs xw f b)(n:∀m,xw m->l<=m)(p:l<=f.heap.size):Bq l f b:=
 ⟨a.d,a.f,a.e,a.a,λj q=>a.b j Y λo=>by have:=n j o;omega⟩
def Gs.i{f j:BR}{l b:AG}(m:Gs f l b)(n:∀a,j a->¬f a):Kn j l b:=⟨m.a,λa o p=>m.b a p (n a o)⟩
def Kn.below{a b:AG}(f:Bq a.heap.size a b):Kn xw a b:=⟨f.size,λl _ j=>f.block l j⟩
def Kn.a{a f:BR}{j b:AG}(l:Kn a j b)(n:f.b a):Kn f j b:=⟨l.1,λm o p=>l.2 m (n m o) p⟩
variable{xs yg:AG}{yy:Ai M}{xt:AU}
def BU.z(a:BU xs l yy xt)(j:Kn xw xs yg)(f:xw l):BU yg l yy xt:=(j.2 l f a.b).trans a
structure C0 where
 a:BR->AG->Prop
 b:∀{f:BR}{j m:AG},a f j->Kn f j m->a f m
 c:∀{f l:BR}{j:AG},a f j->f.b l->l.c j->a l j
def D5(j:G C0)(p:BR)(o:AG):Prop:=
 ∃l:B->BR,(∀a m f,a<j.length->m<j.length->a≠m->l a f->l m f->Be)/\(∀a f,a<j.length->l a f->p f/\f<o.heap.size)/\∀(a:B)(n:C0),j[a]?=C n->n.a (l a) o
variable{yl:G C0}
def D5.f{n o:BR}(q:D5 yl n xs)(u:∀a,n a->a<xs.heap.size->o a):D5 yl o xs:=by
 obtain⟨p,r,f,t⟩:=q;exact⟨p,r,λm a j l=>⟨u a (f m a j l).1 (f m a j l).2,(f m a j l).2⟩,t⟩
def D5.h(r:D5 yl xw xs)(p:Kn xw xs yg):D5 yl xw yg:=by
 obtain⟨q,t,l,u⟩:=r;refine⟨q,t,λa j o f=>⟨(l a j o f).1,TY (l a j o f).2 p.1⟩,λa m n=>m.b (u a m n) (p.a λj f=>?_)⟩;exact(l a j (Cx.1 n).1 f).1
def D5.t(f:BR)(l:AG):D5 [] f l:=⟨λ_ _=>Be,λ_ _ _ a=>CV a Y1,λ_ _ a=>CV a Y1,λ_ _ j=>by simp at j⟩
def D5.i{t F:G C0}(ag:D5 (t++F) xw xs):
 ∃M:BR,(∀f,M f->xw f/\f<xs.heap.size)/\D5 t M xs/\∀z p,D5 p (M.a xs z) z->Gs M xs z->D5 (p++F) (xw.a xs z) z:=by
 obtain⟨N,P,H,V⟩:=ag;have al:(t++F).length=t.length+F.length:=Ad;refine⟨λf=>∃a,a<t.length/\N a f,λf⟨a,r,n⟩=>H a f Y n,⟨N,λa o f r Q=>P a o f Y Y,λa f r n=>⟨⟨a,r,n⟩,(H a f Y n).2⟩,λa B u=>V a B (by rw[Di (Cx.1 u).1];exact u)⟩,?_⟩;intro z p ah W;obtain⟨S,aj,aa,ak⟩:=ah;have am:=W.a;have U:∀a o f,a<p.length->o<F.length->S a f->N (o+t.length) f->Be:=by
  intro a o f r Q q l;have an:=H (o+t.length) f Y l;rcases(aa a f r q).1 with⟨m,Z,y⟩|y
  ·exact P m (o+t.length) f Y Y Y y l
  ·omega
 refine⟨λa=>if a<p.length then S a else N (a-p.length+t.length),λa o f r Q ai q l=>?_,λa f r n=>?_,λa B u=>?_⟩
 ·rw[Ad] at r Q;by_cases j:a<p.length<;>by_cases x:o<p.length
  ·rw[A8 j] at q;rw[A8 x] at l;exact aj a o f j x ai q l
  ·rw[A8 j] at q;rw[A1 x] at l;exact U a _ f j Y q l
  ·rw[A1 j] at q;rw[A8 x] at l;exact U o _ f x Y l q
  ·rw[A1 j] at q;rw[A1 x] at l;exact P _ _ f Y Y Y q l
 ·rw[Ad] at r;by_cases j:a<p.length
  ·rw[A8 j] at n;obtain⟨L,af⟩:=aa a f j n;refine⟨?_,af⟩;rcases L with⟨m,Z,y⟩|L
   ·exact AT (H m f Y y).1
   ·exact Ae L
  ·rw[A1 j] at n;obtain⟨L,af⟩:=H _ f Y n;exact⟨AT L,Y⟩
 ·by_cases j:a<p.length
  ·rw[Di j] at u;simp only[A8 j];exact ak a B u
  ·rw[G3 Y] at u;simp only[A1 j];have r:=(Cx.1 u).1;refine B.b (V _ B (by rw[G3 Y];simpa using u)) (W.i λf n=>?_);rintro⟨m,Z,y⟩;exact P m _ f Y Y Y y n
structure Dn(j:BR)(l:AG)(m:G C0)(a:AG):Prop where
 f:D5 m (j.a l a) a
 b:Gs j l a
def Dn.s(a:D5 yl xw xs):Dn xw xs yl xs:=⟨a.f λj f _=>AT f,Gs.h _ _⟩
def Dn.h{o p:G C0}(m:Dn xw xs (o++p) yg):
 ∃j:BR,D5 o j yg/\∀f l,D5 l (j.a yg f) f->Gs j yg f->Dn xw xs (l++p) f:=by
 obtain⟨j,q,r,t⟩:=m.f.i;have H:=m.b.a;refine⟨j,r,λf l x n=>⟨(t f l x n).f λL u F=>?_,m.b.g n λz B y=>?_⟩⟩
 ·have:=n.a;rcases u with(a|a)|a
  ·exact AT a
  ·exact Ae ⟨a.1,Y⟩
  ·exact Ae ⟨Y,a.2⟩
 ·rcases(q z y).1 with a|a
  ·exact a
  ·omega
def Dn.below{n j m:AG}(l:Dn xw n yl j)(f:Bq j.heap.size j m):Dn xw n yl m:=by
 have p:=f.size;exact⟨(l.f.h (Kn.below f)).f λq o _=>by
  rcases o with a|a
  ·exact AT a
  ·exact Ae ⟨a.1,Y⟩,l.b.g (Gs.below (xw:=λ_=>Be) f) λ_ _ a=>a.elim⟩
def Dn.v(a:Dn xw xs yl yg):Dn xw xs yl yg.drew:=a.below (DT _ _).drew
def Dn.j{N q r:AG}(x:Dn xw N yl q)(B:Bq q.heap.size q r)(L:C0)(t:BR)(z:∀a,t a->q.heap.size<=a/\a<r.heap.size)(V:L.a t r):Dn xw N (L::yl) r:=by
 have Q:=x.below B;refine⟨?_,Q.b⟩;obtain⟨P,S,y,U⟩:=x.f;have ai:=B.size;have ah:=x.b.a;refine⟨λf=>if f=0 then t else P (f-1),λf Z a F W af l n=>?_,λf a F p=>?_,λf M o=>?_⟩
 ·rw[C8] at F W;by_cases j:f=0<;>by_cases u:Z=0
  ·omega
  ·rw[A8 j] at l;rw[A1 u] at n;have:=(y _ a Y n).2;have:=z a l;omega
  ·rw[A1 j] at l;rw[A8 u] at n;have:=(y _ a Y l).2;have:=z a n;omega
  ·rw[A1 j] at l;rw[A1 u] at n;exact S _ _ a Y Y Y l n
 ·rw[C8] at F;by_cases j:f=0
  ·rw[A8 j] at p;have:=z a p;exact⟨Ae ⟨Y,Y⟩,Y⟩
  ·rw[A1 j] at p;obtain⟨aa,aj⟩:=y _ a Y p;refine⟨?_,Y⟩;rcases aa with H|H
   ·exact AT H
   ·exact Ae ⟨H.1,Y⟩
 ·by_cases j:f=0
  ·subst j;simp only[GI,EX] at o;subst o;simpa using V
  ·simp only[A1 j];obtain⟨m,rfl⟩:∃m,f=m+1:=⟨f-1,Y⟩;rw[IC] at o;have ag:=(Cx.1 o).1;refine M.b (U m M o) (Kn.below B)
def HS(f:B)(j:Ai M)(m:AU):C0:=
 ⟨λl p=>BU p f j m/\l f,λa o=>⟨a.1.z o a.2,a.2⟩,λa n _=>⟨a.1,n _ a.2⟩⟩
def Sp(f:G C0):C0:=⟨D5 f,λa m=>a.h m,λa j _=>a.f λn l _=>j n l⟩
def VV{q:Type}(f:q->C0):C0:=
 ⟨λl p=>∃a,(f a).a l p,λ⟨a,j⟩ o=>⟨a,(f a).b j o⟩,λ⟨a,j⟩ m n=>⟨a,(f a).c j m n⟩⟩
def Dn.i(n:Dn xw xs yl yg)(f:B){l:C0}(m:yl[f]?=C l):∃a,l.a a yg/\(∀j,a j->j<yg.heap.size):=by
 obtain⟨a,r,o,p⟩:=n.f;exact⟨a f,p f l m,λj q=>(o f j (Cx.1 m).1 q).2⟩
def Dn.y(f:Dn xw xs yl yg)(a:B)(j:yl[a]?=C (HS l yy xt)):BU yg l yy xt:=by
 obtain⟨n,m,_⟩:=f.i a j;exact m.1
def Dn.u(m:Dn xw xs yl yg)(a:Ai M)(f:AU):Dn xw xs (HS yg.heap.size a f::yl) (yg.alloc (CP a f)):=
 m.j ((DT _ _).alloc (AI _) _) _ (λj=>j=yg.heap.size) (λj l=>by subst l;simp) ⟨BU.i _ _ _,A⟩
def Dn.put{z y j:AG}{p m:Ai M}{q n:AU}(F:Dn xw z (HS l p q::yl) y)(L:y.grownBy j (C l))(t:BU j l m n):Dn xw z (HS l m n::yl) j:=by
 obtain⟨Y,⟨Z,aa,r,H⟩,S⟩:=Dn.h (o:=[HS l p q]) (p:=yl) F;have x:=H 0 _ A;refine S j [HS l m n] ⟨λ_=>λo=>o=l,λf ag o u N af=>?_,λf o u U=>?_,λf W a=>?_⟩ (Gs.c L (r 0 l Y1 x.2).1)
 ·simp at u N;omega
 ·subst U;exact⟨AT (r 0 _ Y1 x.2).1,t.b⟩
 ·match f,a with
  |0,a=>simp only[GI,EX] at a;subst a;exact⟨t,A⟩
  |f+1,a=>simp at a
def Y5{P:Prop}(h:P:=by simp;omega):P:=h
def D5.j{n u:G C0}(P:D5 (Sp n::u) xw xs):D5 (n++u) xw xs:=by
 obtain⟨z,F,H,L⟩:=P;obtain⟨y,S,N,U⟩:=L 0 _ A;have B:∀a o j,a<n.length->o<u.length->y a j->z (o+1) j->Be:=λa o j q M l m=>
  F 0 (o+1) j Y1 Y5 Y (N a j q l).1 m
 refine⟨λa=>if a<n.length then y a else z (a-n.length+1),λa o j q M Q l m=>?_,λa j q t=>?_,λa x r=>?_⟩
 ·rw[Ad] at q M;by_cases f:a<n.length<;>by_cases p:o<n.length
  ·rw[A8 f] at l;rw[A8 p] at m;exact S a o j f p Q l m
  ·rw[A8 f] at l;rw[A1 p] at m;exact B a _ j f Y l m
  ·rw[A1 f] at l;rw[A8 p] at m;exact B o _ j p Y m l
  ·rw[A1 f] at l;rw[A1 p] at m;exact F _ _ j Y5 Y5 Y l m
 ·rw[Ad] at q;by_cases f:a<n.length
  ·rw[A8 f] at t;exact H 0 j Y1 (N a j f t).1
  ·rw[A1 f] at t;exact H _ j Y5 t
 ·by_cases f:a<n.length
  ·rw[Di f] at r;simp only[A8 f];exact U a x r
  ·rw[G3 Y] at r;simp only[A1 f];exact L _ x (by rw[IC];exact r)
def D5.s{q u:G C0}(N:D5 (q++u) xw xs):D5 (Sp q::u) xw xs:=by
 obtain⟨z,x,F,H⟩:=N;have Q:(q++u).length=q.length+u.length:=Ad;refine⟨λa=>if a=0 then(λf=>∃t,t<q.length/\z t f) else z (a-1+q.length),λa t f r L P n o=>?_,λa f r l=>?_,λa y p=>?_⟩
 ·rw[C8] at r L;by_cases j:a=0<;>by_cases B:t=0
  ·omega
  ·rw[A8 j] at n;rw[A1 B] at o;obtain⟨m,M,n⟩:=n;exact x _ _ f Y Y Y n o
  ·rw[A1 j] at n;rw[A8 B] at o;obtain⟨m,M,o⟩:=o;exact x _ _ f Y Y Y n o
  ·rw[A1 j] at n;rw[A1 B] at o;exact x _ _ f Y Y Y n o
 ·rw[C8] at r;by_cases j:a=0
  ·rw[A8 j] at l;obtain⟨m,M,l⟩:=l;exact F m f Y l
  ·rw[A1 j] at l;exact F _ f Y l
 ·by_cases j:a=0
  ·subst j;simp only[GI,EX] at p;subst p;simp only[FG];exact⟨z,λa t f r L=>x a t f Y Y,λa f r l=>⟨⟨a,r,l⟩,(F a f Y l).2⟩,λa y p=>H a y (by rw[Di (Cx.1 p).1];exact p)⟩
  ·simp only[A1 j];obtain⟨m,rfl⟩:∃m,a=m+1:=⟨a-1,Y⟩;rw[IC] at p;exact H _ y (by rw[G3 Y];simpa using p)
def D5.b{B:C0}{a:G C0}{H:BR}{w:AG}:D5 (B::a) H w↔∃o:BR,B.a o w/\(∀f,o f->H f/\f<w.heap.size)/\D5 a (λf=>H f/\¬o f) w:=by
 constructor
 ·rintro⟨o,y,p,z⟩;refine⟨o 0,z 0 B A,λf n=>p 0 f Y1 n,λj=>o (j+1),λj M f u N U=>y (j+1) (M+1) f Y5 Y5 Y,λj f u n=>?_,λj F t=>z (j+1) F (by simpa using t)⟩;have x:=p (j+1) f Y5 n;exact⟨⟨x.1,λV=>y 0 (j+1) f Y1 Y5 Y V n⟩,x.2⟩
 ·rintro⟨o,Q,S,P,y,p,z⟩;refine⟨λj=>if j=0 then o else P (j-1),λj M f u N U q r=>?_,λj f u n=>?_,λj F t=>?_⟩
  ·rw[C8] at u N;by_cases l:j=0<;>by_cases L:M=0
   ·omega
   ·rw[A8 l] at q;rw[A1 L] at r;exact(p _ f Y r).1.2 q
   ·rw[A1 l] at q;rw[A8 L] at r;exact(p _ f Y q).1.2 r
   ·rw[A1 l] at q;rw[A1 L] at r;exact y _ _ f Y Y Y q r
  ·rw[C8] at u;by_cases l:j=0
   ·rw[A8 l] at n;exact S f n
   ·rw[A1 l] at n;have x:=p _ f Y n;exact⟨x.1.1,x.2⟩
  ·by_cases l:j=0
   ·subst l;simp only[GI,EX] at t;subst t;simpa using Q
   ·simp only[A1 l];obtain⟨m,rfl⟩:∃m,j=m+1:=⟨j-1,Y⟩;exact z m F (by simpa using t)
def D5.g{a c:G C0}(u:a.Perm c):∀{m:BR}{w:AG},D5 a m w->D5 c m w:=by
 induction u with
 |nil=>exactλj=>j
 |cons L _ x=>
  intro m w j;obtain⟨o,p,n,q⟩:=D5.b.1 j;exact D5.b.2 ⟨o,p,n,x q⟩
 |swap L N M=>
  intro m w j;obtain⟨o,p,n,q⟩:=D5.b.1 j;obtain⟨t,B,r,F⟩:=D5.b.1 q;refine D5.b.2 ⟨t,B,λl f=>⟨(r l f).1.1,(r l f).2⟩,D5.b.2 ⟨o,p,λl f=>⟨⟨(n l f).1,λH=>(r l H).1.2 f⟩,(n l f).2⟩,F.f λl f _=>⟨⟨f.1.1,f.2⟩,f.1.2⟩⟩⟩
 |trans _ _ y z=>exactλj=>z (y j)
def Dn.g{d:BR}{e w:AG}{a c:G C0}(f:Dn d e a w)(j:a.Perm c):Dn d e c w:=⟨f.f.g j,f.b⟩
def Dn.x{d:BR}{e w:AG}{j:C0}{a:G C0}(f:Dn d e (j::a) w):Dn d e a w:=by
 refine⟨?_,f.b⟩;obtain⟨n,_,_,l⟩:=D5.b.1 f.f;exact l.f λo m _=>m.1
def L9(f:B)(n:EF):C0:=
 ⟨λj w=>w.heap[f]?=C n/\j f,λa m=>⟨(m.2 f a.2 (FY.1 a.1).1).trans a.1,a.2⟩,λa l _=>⟨a.1,l _ a.2⟩⟩
inductive BL where
 |t (a:B) (l:G M) (j:AU)
 |o (a:B) (m:EF)
 |u (f:C0)
def BL.y:BL->C0
 |.t a l j=>HS a l.toArray j
 |.o a m=>L9 a m
 |.u f=>f
abbrev S:=G BL
def Lq:B:=1
def J0(w:AG):Prop:=∀a,a<64->w.cell? ⟨Lq,a,E⟩=C (D .u8 (Lib.deBruijn64tab.getD a 0))
structure OS(a:BR)(j:AG):Prop where
 f:¬a Lq
 b:J0 j
def J0.b{w:AG}(f:J0 w):Lq<w.heap.size:=by
 rcases Ck Lq w.heap.size with a|a
 ·exact a
 ·have:=f 0 Y;simp[World.cell?,Array.getElem?_eq_none a] at this
def OS.g{d:BR}{e w:AG}(a:OS d e)(j:Gs d e w):J0 w:=λf l=>(World.cell?_of_block (a:=⟨Lq,f,E⟩) (j.b Lq a.b.b a.f)).trans (a.b f l)
structure BA(a:BR)(f:AG)(j:S)(l:AG):Prop where
 b:Dn a f (j.map BL.y) l
 g:OS a f
class Bo(a:S)(m:B)(l:Gm (G M))(f:Gm AU):Prop where
 j:BL.t m l f∈a
instance Bo.z{l:B}{j:G M}{f:AU}{a:S}:Bo (.t l j f::a) l j f:=⟨Y1⟩
instance(priority:=low) Bo.aa{n:BL}{l:B}{j:G M}{f:AU}{a:S}[m:Bo a l j f]:Bo (n::a) l j f:=⟨By _ m.j⟩
class Ft(l:S)(j:B)(n:Gm (G M))(f:Gm AU)(o:G M)(m:Gm S):Prop where
 b:∃a,l.Perm (.t j n f::a)/\m.Perm (.t j o f::a)
instance Ft.v{j:B}{l m:G M}{f:AU}{a:S}:Ft (.t j l f::a) j l f m (.t j m f::a):=⟨a,.refl _,.refl _⟩
instance(priority:=low) Ft.y{f:BL}{n:B}{l m:G M}{j:AU}{a c:S}[p:Ft a n l j m c]:Ft (f::a) n l j m (f::c):=by
 obtain⟨o,q,r⟩:=p.b;exact⟨f::o,(q.cons f).trans (.swap _ _ _),(r.cons f).trans (.swap _ _ _)⟩
class Cz(a:S)(f:B)(j:Gm EF):Prop where
 b:BL.o f j∈a
instance Cz.u{f:B}{j:EF}{a:S}:Cz (.o f j::a) f j:=⟨Y1⟩
instance(priority:=low) Cz.v{m:BL}{f:B}{j:EF}{a:S}[l:Cz a f j]:Cz (m::a) f j:=⟨By _ l.b⟩
class OX(l:S)(j:B)(n:Gm EF)(o:EF)(m:Gm S):Prop where
 f:∃a,l.Perm (.o j n::a)/\m.Perm (.o j o::a)
instance OX.g{f:B}{j l:EF}{a:S}:OX (.o f j::a) f j l (.o f l::a):=⟨a,.refl _,.refl _⟩
section
variable{d:BR}{e w:AG}{a c:S}
def BA.j(f:BA d e a w)(j:a.Perm c):BA d e c w:=⟨Dn.g f.b (j.map _),f.g⟩
def BA.s(f:BA d e a w):J0 w:=f.g.g f.b.b
def BA.h(m:BA d e a w){l:B}{j:G M}{f:AU}[p:Bo a l j f]:BU w l j.toArray f:=by
 obtain⟨o,n⟩:=TR p.j;exact Dn.y m.b o (by rw[D_,n];rfl)
def BA.i(l:BA d e a w){f:B}{j:EF}[p:Cz a f j]:w.heap[f]?=C j:=by
 obtain⟨o,m⟩:=TR p.b;obtain⟨q,n,_⟩:=Dn.i l.b o (l:=L9 f j) (by rw[D_,m];rfl);exact n.1
def BA.put(o:BA d e a w){f:B}{m n:G M}{j:AU}[x:Ft a f m j n c]{l:AG}(u:w.grownBy l (C f))(t:BU l f n.toArray j):BA d e c l:=by
 obtain⟨p,q,r⟩:=x.b;have y:Dn d e (HS f m.toArray j::p.map BL.y) w:=Dn.g o.b (q.map BL.y);exact⟨Dn.g (Dn.put y u t) (r.map BL.y).symm,o.g⟩
def OX.b{f:B}{j p:EF}(o:OX a f j p c)(l:BA d e a w):w.heap[f]?=C j:=by
 obtain⟨q,m,t⟩:=o.f;obtain⟨r,n,_⟩:=Dn.i (l.j m).b 0 (l:=L9 f j) A;exact n.1
def BA.x(p:BA d e a w){f:B}{x o:EF}[l:OX a f x o c]{n:AG}(G:w.grownBy n (C f))(q:n.heap[f]?=C o):BA d e c n:=by
 obtain⟨y,z,F⟩:=l.f;have S:Dn d e ([L9 f x]++y.map BL.y) w:=Dn.g p.b (z.map BL.y);obtain⟨W,⟨Y,af,u,N⟩,L⟩:=S.h;have t:=N 0 _ A;refine⟨Dn.g (L n [L9 f o] ⟨λ_=>λl=>l=f,λm aa l r H Z=>?_,λm l r M=>?_,λm U j=>?_⟩ (Gs.c G (u 0 f Y1 t.2).1)) (F.map BL.y).symm,p.g⟩
 ·simp at r H;omega
 ·subst M;exact⟨AT (u 0 _ Y1 t.2).1,(FY.1 q).1⟩
 ·match m,j with
  |0,j=>simp only[GI,EX] at j;subst j;exact⟨q,A⟩
  |m+1,j=>simp at j
def BA.u(l:BA d e a w)(j:G M)(f:AU):BA d e (.t w.heap.size j f::a) (w.alloc (CP j.toArray f)):=⟨Dn.u l.b _ _,l.g⟩
def BA.v(j:BA d e a w)(f:EF):BA d e (.o w.heap.size f::a) (w.alloc f):=
 ⟨Dn.j j.b ((DT _ _).alloc (AI _) _) _ (λl=>l=w.heap.size) (λl m=>by subst m;simp) ⟨(by show(w.heap.push f)[w.heap.size]?=C f;simp),A⟩,j.g⟩
def BA.t(f:BA d e a w):BA d e a w.drew:=⟨Dn.v f.b,f.g⟩
end
def Addr.b(a j f:B):Addr.add ⟨a,j,E⟩ f=⟨a,j+f,E⟩:=by
 unfold Addr.add;split
 ·next l=>rw[l];rfl
 ·rfl
def YB(o:GN){w:AG}{n f:B}{j:G M}{r:AU}(p:BU w n j.toArray r):∀(l a:B)(m:Ai M),f+a+l<=j.length->
 (Nz ⟨n,f,E⟩ a l m).run o w=Ao (m++((j.drop (f+a)).take l).toArray) w
 |0,a,m,_=>by simp[Nz,pure,Q1]
 |l+1,a,m,u=>by
  have q:f+a<j.length:=Y;have t:w.cell? ⟨n,f+a,E⟩=C (j[f+a]):=by rw[p.e];simp[q]
  simp only[Nz,load,bind,AD9,Addr.b,Q1,t];rw[YB o p l (a+1) _ Y];have:(j.drop (f+a)).take (l+1)=j[f+a]::(j.drop (f+(a+1))).take l:=by
   rw[HF q,List.take_succ_cons];rfl
  rw[this];simp
def YA(l:GN){w:AG}{m j a:B}{f:G M}{n:AU}(o:BU w m f.toArray n)(p:j+a<=f.length):
 (Mb ⟨m,j,E⟩ a).run l w=Ao ((f.drop j).take a).toArray w:=by
 rw[Mb,YB l o a 0 #[] Y];simp
def B':M->AE
 |AV _|AL _=>I
 |_=>R
def Bf(a:G M)(f:B)(l:G M):G M:=
 match l with
 |[]=>a
 |v::j=>Bf (a.set f v) (f+1) j
def PT:∀(l a:G M)(f:B),(Bf a f l).length=a.length
 |[],_,_=>A
 |v::j,a,f=>by unfold Bf;rw[PT j];simp
def Nl(q:GN){j f:B}{t:AU}:∀(r:G M)(a:B){w:AG}{l:G M},BU w j l.toArray t->f+a+r.length<=l.length->(∀v∈r,B' v=R)->
 ∃p,(ZU ⟨j,f,E⟩ r a).run q w=Ao () p/\BU p j (Bf l (f+a) r).toArray t/\w.grownBy p (C j)
 |[],a,w,l,n,_,_=>⟨w,by simp[ZU,pure,Q1],n,R' _ _⟩
 |v::aa,a,w,l,n,U,x=>by
  rw[C8] at U;have S:f+a<l.length:=Y;have L:w.cell? ⟨j,f+a,E⟩=C (l[f+a]):=by rw[n.e];simp[S]
  have H:BU (w.setCell ⟨j,f+a,E⟩ v) j (l.set (f+a) v).toArray t:=by
   have:=n.j (f+a) v;rwa[KU] at this
  obtain⟨p,z,F,m⟩:=Nl q (f:=f) aa (a+1) H Y5 (λaf Z=>x af (By _ Z));refine⟨p,?_,F,?_⟩
  ·have W:=x v (Bt ..);have:∀o:Sem Unit,(Sem.store .plain ⟨j,f+a,E⟩ v o).run q w=o.run q (w.setCell ⟨j,f+a,E⟩ v):=by
    intro o;cases v<;>first|(simp[B'] at W;done)|simp[Q1,L,n.g]
   simp only[ZU,store,bind,AD9,Addr.b];rw[this];exact z
  ·exact⟨m.os,m.tape,m.output,D9 Y1 m.size,λo N u=>by
    rw[m.block o (by simpa using N) u];exact ZJ _ _ _ _ (λy=>u (by simp[y]))⟩
section
variable{a:G QW}
structure Am where
 b:GN
 e:B->AC EU
 i:∀l j,e l=C j->b.info? l=C j
 h:B->AC Fr
 ab:∀a f,h a=C f->b.funcs[a]?=C f
 x:∀a f,h a=C f->∀args m,(callFunc a args).run b m=Ao (.enter a args) m
 af:b.follows .mixedOrders=R
def Am.c(a:Am)(m:B):AC Nx:=
 match a.e m with
 |some j=>match j.desc with
  |.named _ n=>match a.e n with|some l=>C l.desc|none=>E
  |f=>C f
 |none=>E
def Am.f(f:Am){m:B}{n:Nx}(a:f.c m=C n):f.b.underlying m=C n:=by
 unfold Am.c at a;cases j:f.e m with
 |none=>rw[j] at a;cases a
 |some q=>
  rw[j] at a;have p:=f.i _ _ j;unfold Program.underlying;rw[p];obtain⟨o,_⟩:=q;cases o<;>(try simpa using a);rename_i u r;dsimp only at a⊢;cases l:f.e r with
  |none=>rw[l] at a;cases a
  |some t=>rw[l] at a;rw[f.i _ _ l];simpa using a
def Am.d(a:Am){l:B}{j:Nx}(m:a.c l=C j)(f:AG):(underlying l).run a.b f=Ao j f:=run_underlying (a.f m) f
def Am.t(a:Am){j:B}{f:EU}(m:a.e j=C f)(l:AG):(typeInfo j).run a.b l=Ao f l:=by simp[typeInfo,a.i _ _ m]
def Am.g(a:Am){j:B}{f:EU}(m:a.e j=C f)(l:AG):(Q7 j).run a.b l=Ao f.size l:=by simp[Q7,a.t m]
def J6:Nx->AE
 |MZ _|Q3 _ _=>R
 |_=>I
def Am.y(a:Am){j:B}{f:Nx}(m:a.c j=C f)(l:AG):(isAgg j).run a.b l=Ao (J6 f) l:=by
 unfold isAgg;simp[a.d m];cases f<;>rfl
def Am.j(a:Am)(j:B):AC B:=
 match a.e j with
 |some ⟨_,_,f,_,_,_,_,_,_,_⟩=>C f
 |none=>E
def Am.s(f:Am){m l:B}(a:f.j m=C l):∃j,f.e m=C j/\j.size=l:=by
 unfold Am.j at a;split at a
 ·rename_i n;cases a;exact⟨_,n,A⟩
 ·cases a
def Am.v(a:Am)(j:B):AC (B×AE):=
 match a.j j,a.c j with
 |some f,C l=>match J6 l with
  |true=>C (f,R)
  |false=>C (f,I)
 |_,_=>E
def Am.ac(l:Am){o u:B}{p:AE}(a:l.v o=C (u,p)):∃j f,l.e o=C j/\l.c o=C f/\j.size=u/\J6 f=p:=by
 unfold Am.v at a;split at a
 ·rename_i m f x q;obtain⟨j,r,t⟩:=l.s x;split at a
  ·rename_i n;cases a;exact⟨j,f,r,q,t,n⟩
  ·rename_i n;cases a;exact⟨j,f,r,q,t,n⟩
 ·cases a
def Am.w(a:Am)(m f:B):AC (B×B):=
 match a.c m with
 |some (MZ j)=>match j.toList[f]? with
  |some ⟨_,l,n,_,_,_,_⟩=>C (n,l)
  |none=>E
 |_=>E
def Am.ae(l:Am){o m p n:B}(a:l.w o m=C (p,n)):∃f j,l.c o=C (MZ f)/\f[m]?=C j/\j.offset=p/\j.type=n:=by
 unfold Am.w at a;split at a
 ·rename_i f r;split at a
  ·rename_i t b q;cases a;exact⟨f,_,r,by rw[<-q];simp,A,A⟩
  ·cases a
 ·cases a
abbrev AP:=G (B×M)
def AP.b:AP->B->AC M
 |[],_=>E
 |(f,v)::j,a=>match TX f a with
  |true=>C v
  |false=>AP.b j a
structure CM(m:G QW)(n:AP)(o:B)(a:C9):Prop where
 e:a.defers=m
 f:a.tmps.size=o
 d:∀j l,n.b j=C l->a.tmps[j]?=C l
def CR(a:AP):Cf->AC M
 |.tmp l=>a.b l
 |.const v=>C v
 |.global j=>C (P j)
 |.func f=>C (BZ (.func f) #[] #[])
def CM.b{m:AP}{o:B}{l:C9}(n:CM a m o l){j:Cf}{v:M}(f:CR m j=C v):l.eval j=v:=by
 cases j with
 |tmp r=>have:=n.d r v f;simp[QV,E6,this];simp[FY] at this;obtain⟨p,q⟩:=this;simp[p,q]
 |const x=>simpa[CR,QV] using f
 |global u=>simpa[CR,QV] using f
 |func t=>simpa[CR,QV] using f
def DK(a:AP):G Cf->AC (G M)
 |[]=>C []
 |l::f=>match CR a l with
  |some v=>match DK a f with
   |some j=>C (v::j)
   |none=>E
  |none=>E
def CM.c{j:AP}{r:B}{o:C9}(p:CM a j r o):∀{q:G Cf}{m:G M},DK j q=C m->q.map o.eval=m
 |[],m,f=>by simpa[DK] using f
 |u::t,m,f=>by
  unfold DK at f;cases l:CR j u with
  |none=>rw[l] at f;cases f
  |some v=>
   cases n:DK j t with
   |none=>rw[l,n] at f;cases f
   |some x=>
    rw[l,n] at f;cases f;rw[Ee,p.b l,p.c n]
def LG(j:B)(a:AC Tmp)(v:M)(f:AP):AC AP:=
 match a with
 |none=>C f
 |some a=>match AEh a j with
  |true=>C ((a,v)::f)
  |false=>E
def CM.put{t u:AP}{n:B}{r:C9}(l:CM a t n r){f:AC Tmp}{v:M}(j:LG n f v t=C u):CM a u n (r.put f v):=by
 cases f with
 |none=>simp only[LG,EX] at j;subst j;exact l
 |some f=>
  cases p:AEh f n with
  |false=>simp only[LG,p] at j;cases j
  |true=>
   simp only[LG,p,EX] at j;subst j;have x:f<n:=by simpa[Nat.blt_eq] using p
   refine⟨l.e,by simp[Tj,l.f],λq F m=>?_⟩;unfold AP.b at m;cases o:TX f q with
   |true=>
    rw[o] at m;have:=QG o;subst this;cases m;simp[Tj,l.f,x]
   |false=>
    rw[o] at m;have y:f≠q:=λz=>by subst z;simp at o
    simp only[Tj];rw[Array.getElem?_setIfInBounds_ne y];exact l.d q F m
inductive F'(j:F)(f:F->Prop):Prop
 |mk (a:F) (l:j=a) (m:f a)
inductive IK(b:AE)(a f:Prop):Prop
 |mk (l:b=R->a) (j:b=I->f)
def IK.aa{a f:Prop}(j:a):IK R a f:=⟨λ_=>j,λl=>by cases l⟩
def IK.y{f a:Prop}(j:a):IK I f a:=⟨λl=>(by cases l),λ_=>j⟩
def IK.u{b:AE}{a f:Prop}(l:b=R)(j:a):IK b a f:=l▸IK.aa j
def IK.t{b:AE}{f a:Prop}(l:b=I)(j:a):IK b f a:=l▸IK.y j
inductive Mt(f a:Prop):Prop
 |mk (l:f) (j:a)
def CX(a:G M)(f j:B)(l:AE):AC M:=
 match l with
 |true=>match La (f+j) a.length with
  |true=>C (AV ((a.drop f).take j).toArray)
  |false=>E
 |false=>a[f]?
inductive Ms(f:S)(m p o:B)(l:AE)(n:M->Prop):Prop
 |mk {a:G M} {j:AU} [q:Bo f m a j] {v:M} (t:CX a p o l=C v) (r:n v)
def MS(m f a:B)(v:M):Prop:=
 match v with
 |AV j=>j.size=a/\f+a<=m/\j.toList.all B'=R
 |AL _=>Be
 |_=>a=1/\f<m
def Cb(a:G M)(f:B)(v:M):G M:=
 match v with
 |AV j=>Bf a f j.toList
 |v=>a.set f v
class Fb(l:S)(j:B)(o:G M)(m:Gm S):Prop where
 b:∃a n f,l.Perm (.t j n f::a)/\m.Perm (.t j o f::a)
instance Fb.v{j:B}{l m:G M}{f:AU}{a:S}:Fb (.t j l f::a) j m (.t j m f::a):=⟨a,l,f,.refl _,.refl _⟩
instance(priority:=low) Fb.w{a:BL}{m:B}{l:G M}{f j:S}[q:Fb f m l j]:Fb (a::f) m l (a::j):=by
 obtain⟨n,p,o,r,t⟩:=q.b;exact⟨a::n,p,o,(r.cons a).trans (.swap _ _ _),(t.cons a).trans (.swap _ _ _)⟩
inductive Mw(f:S)(l m p:B)(v:M)(o:S->Prop):Prop
 |mk {a:G M} {n:AU} [q:Bo f l a n] (u:MS a.length m p v) {j:S} [r:Fb f l (Cb a m v) j] (t:o j)
inductive Qh(a:F)(j:B)(f:B->Prop):Prop
 |mk (m:B) (l:a=(m:F)) (o:m<j) (n:f m)
structure A9(n:Am)(q:B)(args:G M)(o:S)(r:M->S->Prop):Prop where
 ag:∀(f:BR)(m l:AG),BA f m o l->Calls n.b q args.toArray l λp t=>∃j a,p=BT j/\r j a/\BA f m a t
structure Cr(r:Am)(m:Al)(y:AP)(u:S)(z:M->S->Prop):Prop where
 av:∀{t:G QW}(F:B)(a:C9)(l:BR)(q o:AG),CM t y F a->BA l q u o->∀(f:C9->AG->Prop)(x:II->C9->AG->Prop),(∀n j p,z n j->BA l q j p->f (a.put m.dst n) p)->m.wp r.b a o f x
def Dl(a:AP)(j:Cf)(f:M->Prop):Prop:=
 match CR a j with
 |some v=>f v
 |none=>Be
def Fl(f j:Ej)(a:Prop):Prop:=match decEq f j with|isTrue _=>a|isFalse _=>Be
def RR(o:BinOp)(a n:Ej)(m f:F)(l:M->Prop):Prop:=
 match o with
 |.shl=>Mt (0<=f) (F' (a.wrap (m*2^min f.toNat a.bits)) λj=>l (D a j))
 |.shr=>Mt (0<=f) (F' (m.fdiv (2^min f.toNat a.bits)) λj=>l (D a j))
 |.add=>Fl a n (F' (a.wrap (m+f)) λj=>l (D a j))
 |.sub=>Fl a n (F' (a.wrap (m-f)) λj=>l (D a j))
 |.mul=>Fl a n (F' (a.wrap (m*f)) λj=>l (D a j))
 |.quo=>Fl a n (Mt (f≠0) (F' (a.wrap (m.tdiv f)) λj=>l (D a j)))
 |.rem=>Fl a n (Mt (f≠0) (F' (m.tmod f) λj=>l (D a j)))
 |.and=>Fl a n (F' (Dz .and a m f) λj=>l (D a j))
 |.or=>Fl a n (F' (Dz .or a m f) λj=>l (D a j))
 |.xor=>Fl a n (F' (Dz .xor a m f) λj=>l (D a j))
 |.andNot=>Fl a n (F' (Dz .andNot a m f) λj=>l (D a j))
 |.eql=>Fl a n (l (X (m==f)))
 |.neq=>Fl a n (l (X (m !=f)))
 |.lss=>Fl a n (l (X (Ac (m<f))))
 |.leq=>Fl a n (l (X (Ac (m<=f))))
 |.gtr=>Fl a n (l (X (Ac (m>f))))
 |.geq=>Fl a n (l (X (Ac (m≥f))))
def Y7{P:Prop}(h:P:=by assumption):P:=h
def Fl.b{j l:Ej}{f:Prop}(a:Fl j l f):j=l/\f:=by
 unfold Fl at a;split at a
 ·exact⟨Y7,a⟩
 ·exact a.elim
def AF9{P:Prop}(h:P:=by simp[binOp,Op.intBits,bits]):P:=h
def fK{u:GN}{n:BinOp}{x:AU}{p q:Ej}{r t:F}{o:M->Prop}(j:RR n p q r t o):∃v,(∀f,(ED n x (D p r) (D q t)).run u f=Ao v f)/\o v:=by
 cases n<;>simp only[RR] at j
 case shl=>obtain⟨m,l,rfl,a⟩:=j;exact⟨_,λf=>by simp[ED,aR,AEB.2 m],a⟩
 case shr=>obtain⟨m,l,rfl,a⟩:=j;exact⟨_,λf=>by simp[ED,aR,AEB.2 m],a⟩
 case quo=>obtain⟨rfl,m,l,rfl,a⟩:=j.b;exact⟨_,λf=>by simp[ED,aO,m],a⟩
 case rem=>obtain⟨rfl,m,l,rfl,a⟩:=j.b;exact⟨_,λf=>by simp[ED,aO,m],a⟩
 case add=>obtain⟨rfl,l,rfl,a⟩:=j.b;exact⟨_,λf=>by simp[ED,U1],a⟩
 case sub=>obtain⟨rfl,l,rfl,a⟩:=j.b;exact⟨_,λf=>by simp[ED,U1],a⟩
 case mul=>obtain⟨rfl,l,rfl,a⟩:=j.b;exact⟨_,λf=>by simp[ED,U1],a⟩
 case and=>obtain⟨rfl,l,rfl,a⟩:=j.b;exact⟨_,λf=>AF9,a⟩
 case or=>obtain⟨rfl,l,rfl,a⟩:=j.b;exact⟨_,λf=>AF9,a⟩
 case xor=>obtain⟨rfl,l,rfl,a⟩:=j.b;exact⟨_,λf=>AF9,a⟩
 case andNot=>obtain⟨rfl,l,rfl,a⟩:=j.b;exact⟨_,λf=>AF9,a⟩
 all_goals(obtain⟨rfl,a⟩:=j.b;exact⟨_,λf=>by simp[ED,Op.intCmp],a⟩)
def eU{j:GN}(a:BinOp)(o:AU)(p q:Cf)(m n:Ej)(l b:F)(f:AG):(IA a o p q (D m l) (D n b)).run j f=Ao () f:=by
 cases a<;>simp[IA]
def Rj:Cf->AE
 |.const _=>R
 |_=>I
def RO(a:Am)(f:AU)(n o:Cf)(m b:M):AC AE:=
 match m,b with
 |X j,X l=>match a.c f with|some ZL=>C (j==l)|_=>E
 |In j,In l=>match a.c f with|some ZN=>C (j.toList==l.toList)|_=>E
 |T j,T E=>match a.c f with|some (ZM _)=>C j.isNone|_=>E
 |T E,T j=>match a.c f with|some (ZM _)=>C j.isNone|_=>E
 |O j _ _,O E _ _=>match a.c f with|some (FC _)=>C j.isNone|_=>E
 |Ah j,Ah E=>match a.c f with|some (.map _ _)=>C j.isNone|_=>E
 |Hf,Cd _ _=>match a.c f with|some (TG _)=>C I|_=>E
 |Cd _ _,Hf=>match a.c f with|some (TG _)=>C I|_=>E
 |Hf,Hf=>match a.c f,Rj n||Rj o with|some (TG _),R=>C R|_,_=>E
 |BZ _ _ _,ZO=>match a.c f with|some (.func _ _ _)=>C I|_=>E
 |ZO,ZO=>match a.c f with|some (.func _ _ _)=>C R|_=>E
 |_,_=>E
def RP{f:Am}{n:AU}{p q:Cf}{l b:M}{o:AE}(j:RO f n p q l b=C o)(a:AG):
 (∀m,(IA m n p q l b).run f.b a=Ao () a)/\(ED .eql n l b).run f.b a=Ao (X o) a/\(ED .neq n l b).run f.b a=Ao (X !o) a:=by
 unfold RO at j;split at j;all_goals first|(cases j;done)|skip
 all_goals(split at j<;>first|(cases j;done)|skip)
 all_goals(rename_i t;cases j)
 all_goals(first|have r:=f.d t a|have r:=f.d Y7 a)
 all_goals refine⟨λm=>?_,?_,?_⟩
 all_goals first
  |(cases m<;>simp[IA]<;>done)
  |(simp only[ED];rw[Ak];unfold Op.equal Op.maxDepth;rw[Op.equalIn,Ak,r];first|rfl|(cases‹Option Addr›<;>rfl)|(cases‹Option Nat›<;>rfl))
  |(simp only[ED,Op.stringOp];rfl)
  |(cases m<;>cases p<;>cases q<;>simp_all [Rj,IA])
end
section
variable{a:G QW}
def B9:M->G M
 |AV a=>a.toList
 |v=>[v]
def H8(v:M):v.cells=(B9 v).toArray:=by cases v<;>simp[TH,B9]
def Ou(j:B->AC (B×B))(m:B):G M->G (B×M)->AC (G M)
 |a,[]=>C a
 |a,(l,v)::n=>match j l with
  |none=>E
  |some (f,size)=>match decEq (B9 v).length size,La (f+(B9 v).length) m with
   |isTrue _,R=>Ou j m (Bf a f (B9 v)) n
   |_,_=>E
def NF(f:B->AC (B×B))(a:G M)(j:G (B×M)):AC (G M):=Ou f a.length a j
def Wz:∀(m j:G M)(f a:B),(m.zipIdx a).foldl (λ(n:Ai M)(l:M×B)=>n.setIfInBounds (f+l.2) l.1) j.toArray=(Bf j (f+a) m).toArray
 |[],_,_,_=>A
 |v::o,j,f,a=>by
  rw[List.zipIdx_cons,DN,KU,Wz o _ f (a+1)];rfl
def Vb{n:B->AC (B×B)}{m:B}:∀{o:G (B×M)}{f j:G M},f.length=m->Ou n m f o=C j->To n f.toArray o=C j.toArray
 |[],f,j,_,a=>by cases a;rfl
 |(y,v)::o,f,j,u,a=>by
  unfold Ou at a;unfold To;cases p:n y with
  |none=>rw[p] at a;cases a
  |some z=>
   obtain⟨l,size⟩:=z;rw[p] at a;dsimp only at a⊢;split at a
   ·rename_i _ _ t _ r;have x:v.cells.size=(B9 v).length:=by rw[H8];simp
    have F:l+(B9 v).length<=m:=by simpa using r
    have q:¬((Ac (v.cells.size≠size)||Ac (l+v.cells.size>f.toArray.size))=R):=by
     rw[x,t] at*;simp;omega
    rw[A1 q];have:=Vb (by rw[PT];exact u) a;rw[<-this];congr 1;rw[H8,<-Array.foldl_toList];simpa using Wz (B9 v) f l 0
   ·cases a
def Ov{f:B->AC (B×B)}{j:G (B×M)}{a l:G M}(m:NF f a j=C l):To f a.toArray j=C l.toArray:=Vb A m
def Am.u(a:Am):G QX->AC (G (B×B))
 |[]=>C []
 |f::m=>match a.e f.type,a.u m with
  |some j,C l=>C ((f.offset,j.size)::l)
  |_,_=>E
def Am.ag(f:Am)(o:AG):∀{p:G QX}{m:G (B×B)},f.u p=C m->(p.mapM λj=>do pure (j.offset,<-Q7 j.type):Sem (G (B×B))).run f.b o=Ao m o
 |[],m,a=>by cases a;rfl
 |j::q,m,a=>by
  unfold Am.u at a;cases l:f.e j.type with
  |none=>rw[l] at a;cases a
  |some r=>
   cases n:f.u q with
   |none=>rw[l,n] at a;cases a
   |some t=>
    rw[l,n] at a;cases a;rw[Zh];simp only[bind_assoc,HD];rw[Ak,f.g l];simp only[Bp];rw[Ak,f.ag o n];rfl
def Am.z(f:Am)(n:B)(m:G (B×M)):AC (G M):=
 match f.e n,f.c n with
 |some a,C (MZ p)=>match a.zero,f.u p.toList with
  |some j,C q=>NF (λa=>q[a]?) (B9 j) m
  |_,_=>E
 |some a,C (Q3 _ o)=>match a.zero,f.e o with
  |some j,C l=>NF (λa=>C (a*l.size,l.size)) (B9 j) m
  |_,_=>E
 |_,_=>E
def Am.ah(f:Am){z:B}{y:Ai (B×M)}{t:G M}(a:f.z z y.toList=C t)(n:AG):(Tm z y).run f.b n=Ao (AV t.toArray) n:=by
 unfold Am.z at a;split at a
 ·rename_i m x p q;cases j:m.zero with
  |none=>rw[j] at a;cases a
  |some N=>
   cases l:f.u x.toList with
   |none=>rw[j,l] at a;cases a
   |some r=>
    rw[j,l] at a;dsimp only at a;have o:=Ov a;have L:(x.mapM λu=>do pure (u.offset,<-Q7 u.type):Sem (Ai (B×B))).run f.b n=Ao r.toArray n:=by
     rw[Tf,ZK,f.ag n l];rfl
    unfold Tm;rw[Ak];simp only[KL,Ak,f.t p,Bp,j,Ex,f.d q,L];rw[H8];have:(λ(F:B)=>r.toArray[F]?)=λm=>r[m]?:=by funext F;simp
    rw[this,o];rfl
 ·rename_i m U H p q;cases j:m.zero with
  |none=>rw[j] at a;cases a
  |some N=>
   cases l:f.e H with
   |none=>rw[j,l] at a;cases a
   |some S=>
    rw[j,l] at a;dsimp only at a;have o:=Ov a;unfold Tm;rw[Ak];simp only[KL,Ak,f.t p,Bp,j,Ex,f.d q,f.g l];rw[H8,o];rfl
 ·cases a
def LB(a:AP):G (B×Cf)->AC (G (B×M))
 |[]=>C []
 |(f,m)::l=>match CR a m,LB a l with
  |some v,C j=>C ((f,v)::j)
  |_,_=>E
def CM.g{j:AP}{t:B}{o:C9}(p:CM a j t o):∀{r:G (B×Cf)}{m:G (B×M)},LB j r=C m->r.map (λq=>(q.1,o.eval q.2))=m
 |[],m,f=>by simpa[LB] using f
 |(y,x)::u,m,f=>by
  unfold LB at f;cases l:CR j x with
  |none=>rw[l] at f;cases f
  |some v=>
   cases n:LB j u with
   |none=>rw[l,n] at f;cases f
   |some z=>
    rw[l,n] at f;cases f;rw[Ee,p.b l,p.g n]
end
section
variable{a:G QW}
def D8(a:G M)(m:B):G M:=(AH m).map λf=>a.getD (f%a.length) default
def TB(a:G M)(m:B):(a6 m).map (λf=>a.toArray[f%a.toArray.size]!)=(D8 a m).toArray:=by
 apply G4;simp[D8,Array.toList_map]
def Am.aa(n:Am)(q o:B)(p:G (B×M)):AC (B×G M):=
 match n.c q with
 |some (FC j)=>match n.e j with
  |some a=>match La (o*a.size) (2^24),o*a.size with
   |true,0=>match NF (λl=>C (l*a.size,a.size)) [] p with
    |some f=>C (j,f)
    |none=>E
   |true,m=>match a.zero with
    |some r=>match NF (λl=>C (l*a.size,a.size)) (D8 (B9 r) m) p with
     |some f=>C (j,f)
     |none=>E
    |none=>E
   |_,_=>E
  |none=>E
 |_=>E
def Am.ai(f:Am){z n:B}{y:Ai (B×M)}{t:B}{r:G M}(a:f.aa z n y.toList=C (t,r))(q:AG):
 (Tn z n y).run f.b q=Ao (Q q.heap.size n n) (q.alloc (CP r.toArray t)):=by
 unfold Am.aa at a;split at a
 ·rename_i U u;split at a
  ·rename_i p o;split at a
   ·rename_i j x;have j:n*p.size<=2^24:=by simpa using j
    split at a
    ·rename_i F l;cases a;have l:=Ov l;unfold Tn;simp only[Ak,f.d u,Bp,f.g o,ADa,A1 (QK.2 j),Ex,x,FG];have H:(a6 0).map (λS=>(#[]:Ai M)[S%(#[]:Ai M).size]!)=([]:G M).toArray:=Y1;rw[H,l];rfl
    ·cases a
   ·rename_i m j x;have j:n*p.size<=2^24:=by simpa using j
    split at a
    ·rename_i W N;split at a
     ·rename_i F l;cases a;have l:=Ov l;have L:n*p.size≠0:=Y7;unfold Tn;simp only[Ak,f.d u,Bp,f.g o,ADa,A1 (QK.2 j),Ex,A1 L,KL,f.t o,N];rw[H8,TB,l];rfl
     ·cases a
    ·cases a
   ·cases a
  ·cases a
 ·cases a
def Am.ad(f:Am)(o:B)(v:M)(m:Td):AC (B×M):=
 match f.e o with
 |some r=>match r.methods.toList.find? (λj=>j.name==m) with
  |some j=>match j.func,j.path.toList,f.c o with
   |some (a,R),[],C (ZM _)=>C (a,v)
   |some (a,I),[],C (MZ _)=>C (a,v)
   |some (a,I),[],C (.int _)=>C (a,v)
   |some (a,R),[l],_=>match l.deref,v,f.c l.struct with
    |true,T (C ⟨q,t,E⟩),C (MZ p)=>match p.toList[l.index]? with
     |some ⟨_,n,u,_,_,_,_⟩=>match f.j n,f.c n with
      |some (_+1),C (MZ _)=>C (a,T (C ⟨q,t+u,E⟩))
      |_,_=>E
     |none=>E
    |_,_,_=>E
   |_,_,_=>E
  |none=>E
 |none=>E
def RQ(l:Am)(b:Builtin)(p:G B)(q:G M):AC M:=
 match b,p,q with
 |.len,[a],[O _ n _]=>match l.c a with|some (FC _)=>C (N n)|_=>E
 |.len,[a],[In o]=>match l.c a with|some ZN=>C (N o.size)|_=>E
 |.cap,[a],[O _ _ n]=>match l.c a with|some (FC _)=>C (N n)|_=>E
 |.min,_,[D m f,D _ j]=>C (D m (if j<f then j else f))
 |.max,_,[D m f,D _ j]=>C (D m (if f<j then j else f))
 |_,_,_=>E
def I'(a:Am):Op->AE
 |U5 _|Tt _|U7 ..|Tv ..|U2 ..|U6 _|Tu ..|U9 ..|U4 ..|U3 ..|Ty ..|Tx ..|U0 ..|Tz ..|.lookup ..|Tw ..|U8 ..|aS ..=>R
 |ON _ j _=>match a.c j with
  |some (FC _)=>I
  |_=>R
 |FH f=>match f.callee with
  |Ei .len|Ei .cap|Ei .min|Ei .max=>R
  |_=>I
 |_=>I
inductive aY(f:S)(m o n:B)(l:AE)(v:M):Prop
 |mk {a:G M} {j:AU} [p:Bo f m a j] (q:CX a o n l=C v)
inductive CQ where
 |t
 |aa (j m l:B) (a:AE) (v:M)
 |y (f:S->Prop)
def CQ.u:CQ->S->Prop
 |.t,_=>True
 |.aa l n m f v,a=>aY a l n m f v
 |.y j,a=>j a
structure E7(n:Am)(x:Al)(r:AP)(p:S)(t:M->CQ->Prop):Prop where
 aa:∃(m:M)(a:CQ),t m a/\a.u p/\∀{o:G QW}(u:B)(l:C9)(q:BR)(y f:AG)(j:S),CM o r u l->BA q y j f->a.u j->(Bh l.eval x).run n.b f=Ao (.value m) f
def VN(a:Am)(o:Al)(p:Call)(f:AP)(j:S)(l:M->S->Prop):Prop:=
 match DK f p.args.toList with
 |none=>Be
 |some q=>match p.callee with
  |.value r=>Dl f r λz=>match z with
   |BZ (.func n) first cap=>match a.h n with
    |some _=>A9 a n (first.toList++q++cap.toList) j l
    |none=>Cr a o f j l
   |_=>Cr a o f j l
  |.invoke t m=>Dl f t λv=>match v with
   |Cd x y=>match a.ad x y m with
    |some (n,u)=>match a.h n with
     |some _=>A9 a n (u::q) j l
     |none=>Cr a o f j l
    |none=>Cr a o f j l
   |_=>Cr a o f j l
  |Ei _=>Cr a o f j l
inductive UK(o:AC M)(a:M->Prop):Prop
 |mk {v:M} (f:o=C v) (j:a v)
def PW(a:G M)(f l:B)(j:AE):AC M:=
 match j with
 |true=>C (AV ((a.drop f).take l).toArray)
 |false=>a[f]?
inductive Qp(t l n:AC (Ej×F))(r j p size:B)(q:B->B->B->B->Prop):Prop
 |mk (a f m o:B) (u:(t.map (·.2)).getD 0=(a:F)) (x:(l.map (·.2)).getD (r:F)=(f:F)) (y:(n.map (·.2)).getD (j:F)=(m:F)) (z:a<=f/\f<=m/\m<=j) (G:(!n.isSome||l.isSome)=R) (L:(if m=a then p else p+a*size)=o) (H:q a f m o)
def NX(a:AP):AC Cf->AC (AC (Ej×F))
 |none=>C E
 |some l=>match CR a l with
  |some (D f j)=>C (C (f,j))
  |_=>E
def Kw(l:Am)(o:Al)(f:AP)(x:S)(a:M->CQ->Prop):Prop:=
 match o.op with
 |U5 j=>Dl f j λv=>a v .t
 |Tt j=>Dl f j λv=>a v .t
 |U7 Y q b=>Dl f Y λp=>match p with
  |X p=>IK p (Dl f q λv=>a v .t) (Dl f b λv=>a v .t)
  |_=>Be
 |Tv p an=>match LB f an.toList with
  |some ap=>match l.z p ap with
   |some Z=>a (AV Z.toArray) .t
   |none=>Be
  |none=>Be
 |U2 p j=>Dl f j λv=>match v,l.v p with
  |T (C ⟨t,u,E⟩),C (r,W)=>Ms x t u r W (λv=>a v (.aa t u r W v))
  |_,_=>Be
 |U6 j=>Dl f j λv=>match v with
  |T (C q)=>a (T (C q)) .t
  |Cd p au=>a (Cd p au) .t
  |BZ (.func G) q b=>a (BZ (.func G) q b) .t
  |_=>Be
 |Tu ah p j B _=>Dl f j λq=>Dl f B λb=>match q,b with
  |D n m,D ao r=>RR ah n ao m r λv=>a v .t
  |q,b=>match RO l p j B q b with
   |some al=>match ah with
    |.eql=>a (X al) .t
    |.neq=>a (X !al) .t
    |_=>E7 l o f x a
   |none=>E7 l o f x a
 |U9 ah _ j=>Dl f j λq=>match ah,q with
  |.not,X b=>a (X !b) .t
  |.neg,D n r=>F' (n.wrap (0-r)) λz=>a (D n z) .t
  |_,_=>E7 l o f x a
 |ON ar am j=>Dl f j λq=>match q,l.c ar,l.c am with
  |D _ r,C _,C (.int n)=>F' (n.wrap r) λz=>a (D n z) .t
  |_,_,_=>E7 l o f x a
 |U4 p j=>Dl f j λv=>match l.c p with
  |some (TG _)=>Be
  |some _=>a (Cd p v) .t
  |none=>Be
 |U3 G q b=>match DK f q.toList,DK f b.toList with
  |some j,C B=>a (BZ G j.toArray B.toArray) .t
  |_,_=>Be
 |Ty aq j G=>Dl f j λv=>match v,l.w aq G with
  |T (C ⟨t,u,E⟩),C (z,aj)=>match l.j aj with
   |some 0=>E7 l o f x a
   |some (_+1)=>a (T (C ⟨t,u+z,E⟩)) .t
   |none=>Be
  |_,_=>Be
 |Tx p j G=>Dl f j λv=>match v,l.w p G with
  |AV Z,C (z,aj)=>match l.v aj with
   |some (r,W)=>UK (PW Z.toList z r W) λv=>a v .t
   |none=>Be
  |_,_=>Be
 |U0 p j af=>Dl f j λq=>Dl f af λb=>match q,b,l.c p with
  |O (C ⟨t,u,E⟩) ag _,D _ m,C (FC y)=>match l.j y with
   |some n=>Qh m ag λm=>a (T (C ⟨t,u+m*n,E⟩)) .t
   |none=>Be
  |T (C ⟨t,u,E⟩),D _ m,C (Q3 r y)=>match l.j y with
   |some n=>Qh m r λm=>a (T (C ⟨t,u+m*n,E⟩)) .t
   |none=>Be
  |_,_,_=>E7 l o f x a
 |Tz p j af=>Dl f j λq=>Dl f af λb=>match q,b,l.c p with
  |AV Z,D _ m,C (Q3 r y)=>match l.v y with
   |some (n,W)=>Qh m r λm=>UK (PW Z.toList (m*n) n W) λv=>a v .t
   |none=>Be
  |_,_,_=>E7 l o f x a
 |U8 p j L H U=>Dl f j λv=>match v,l.c p,NX f L,NX f H,NX f U with
  |O (C ⟨t,u,E⟩) ag ai,C (FC y),C L,C H,C U=>match l.j y with
   |some n=>Qp L H U ag ai u n λF aa m o=>a (O (C ⟨t,o,E⟩) (aa-F) (m-F)) .t
   |none=>Be
  |O E ag ai,C (FC y),C L,C H,C U=>match l.j y with
   |some n=>Qp L H U ag ai 0 n λF aa m o=>a (O E (aa-F) (m-F)) .t
   |none=>Be
  |T (C ⟨t,u,E⟩),C (Q3 r y),C L,C H,C U=>match l.j y with
   |some n=>Qp L H U r r u n λF aa m o=>a (O (C ⟨t,o,E⟩) (aa-F) (m-F)) .t
   |none=>Be
  |_,_,_,_,_=>E7 l o f x a
 |Tw j af=>Dl f j λv=>match v with
  |AL ak=>match ak.toList[af]? with
   |some v=>a v .t
   |none=>Be
  |_=>Be
 |FH Y=>match Y.callee,DK f Y.args.toList with
  |Ei .min,C [D n j,D _ B]=>F' (if B<j then B else j) λz=>a (D n z) .t
  |Ei .max,C [D n j,D _ B]=>F' (if j<B then B else j) λz=>a (D n z) .t
  |Ei b,C ak=>match RQ l b Y.argTypes.toList ak with
   |some v=>a v .t
   |none=>E7 l o f x a
  |_,_=>Be
 |_=>E7 l o f x a
def VU(n:Am)(o:Al)(m:AP)(j:S)(l:M->S->Prop):Prop:=
 match o.op with
 |.alloc f=>match n.e f with
  |some z=>match z.zero with
   |some L=>∀a,l (P a) (.t a (B9 L) f::j)
   |none=>Be
  |none=>Be
 |.box f q=>Dl m q λv=>∀a,l (P a) (.t a (B9 v) f::j)
 |aN f p F=>match LB m F.toList with
  |some G=>match n.aa f p G with
   |some (y,x)=>∀a,l (Q a p p) (.t a x y::j)
   |none=>Be
  |none=>Be
 |.store f q H=>Dl m q λt=>Dl m H λv=>match t,n.j f with
  |T (C ⟨a,B,E⟩),C p=>Mw j a B p v (λr=>l Cw r)
  |_,_=>Be
 |aP f E=>∀a,l (Ah (C a)) (.o a (.map #[] 0)::j)
 |FH u=>VN n o u m j l
 |_=>Cr n o m j l
def M1(a:Am)(o:Al)(j:AP)(f:S)(l:M->S->Prop):Prop:=
 match I' a o.op with
 |true=>Kw a o j f λv _=>l v f
 |false=>VU a o j f l
def Dl.b{j:AP}{l:Cf}{f:M->Prop}(a:Dl j l f):∃v,CR j l=C v/\f v:=by
 unfold Dl at a;split at a
 ·exact⟨_,Y7,a⟩
 ·exact a.elim
end
section
variable{d:GN}{a:C9}{w g:AG}{c:C9->AG->Prop}{e:II->C9->AG->Prop}{f:Al}
def HB{v:M}(j:(Bh a.eval f).run d w=Ao (.value v) g)(l:c (a.put f.dst v) g):f.wp d a w c e:=by unfold Oper.wp;rw[j];exact l
def T6(j:(Bh a.eval f).run d w=Ao .skip g)(l:c (a.put f.dst Cw) g):f.wp d a w c e:=by unfold Oper.wp;rw[j];exact l
def ZD{m:FuncId}{args:Ai M}(o:(Bh a.eval f).run d w=Ao (.enter m args) g)(j:Calls d m args g λl n=>∃v,l=BT v/\c (a.put f.dst v) n):f.wp d a w c e:=by
 unfold Oper.wp;rw[o];refine Calls.mono j ?_;rintro l n ⟨v,rfl,j⟩;exact j
end
def WO(d:GN){w:AG}{j f o:B}{m:G M}{q:AU}(p:BU w j m.toArray q){v:M}{l:AE}(a:CX m f o l=C v):
 (if l then(do pure (AV (<-Mb ⟨j,f,E⟩ o)):Sem M) else load ⟨j,f,E⟩).run d w=Ao v w:=by
 unfold CX at a;cases l with
 |true=>
  dsimp only at a;split at a
  ·rename_i n;cases a;have n:f+o<=m.length:=by simpa using n
   rw[A8 A,Ak,YA d p n];rfl
  ·cases a
 |false=>
  dsimp only at a;have r:w.cell? ⟨j,f,E⟩=C v:=by rw[p.e];simpa using a
  simp[load,Q1,r]
def ABl(d:GN){t:AU}{w:AG}{l a m:B}{j:G M}{p:AU}(u:BU w l j.toArray p){v:M}(r:MS j.length a m v)(U:∀w,(Q7 t).run d w=Ao m w):
 ∃g,(TN t ⟨l,a,E⟩ v).run d w=Ao () g/\BU g l (Cb j a v).toArray p/\w.grownBy g (C l):=by
 have F:∀f:G M,v.cells=f.toArray->f.length=m->a+m<=j.length->(∀y∈f,B' y=R)->Cb j a v=Bf j a f->
  ∃g,(TN t ⟨l,a,E⟩ v).run d w=Ao () g/\BU g l (Cb j a v).toArray p/\w.grownBy g (C l):=by
  intro f n o q x z;obtain⟨g,H,L,N⟩:=Nl d (f:=a) f 0 u Y x;refine⟨g,?_,by rw[z];exact L,N⟩;unfold TN;rw[Ak,U];simp only[Bp];rw[n];simp only[List.size_toArray,o,K_,not_true_eq_false,Hp];exact H
 have W:MS j.length a m v->v.cells=#[v]->B' v=R->(∀f,v≠AV f)->m=1/\a<j.length->∃g,(TN t ⟨l,a,E⟩ v).run d w=Ao () g/\BU g l (Cb j a v).toArray p/\w.grownBy g (C l):=by
  intro _ n o q ⟨x,z⟩;refine F [v] n (by simp[x]) Y (by simpa using o) ?_;cases v<;>first|rfl|exact CV A (q _)
 cases v with
 |agg f=>
  obtain⟨n,o,q⟩:=r;exact F f.toList (by simp[TH]) (by simpa using n) o (λy S=>List.all_eq_true.1 q y S) A
 |tuple f=>exact r.elim
 |_=>exact W r A A (by intro f u;cases u) r
def X3(f:Am){n:AU}{p:EU}{l:Nx}(r:f.e n=C p)(q:f.c n=C l){j:Ai M}{m:B}{v:M}(a:PW j.toList m p.size (J6 l)=C v)(w:AG):
 (part n j m).run f.b w=Ao v w:=by
 unfold part;rw[Ak,f.y q];simp only[Bp];unfold PW at a;cases o:J6 l with
 |true=>
  rw[o] at a;cases a;simp only[FG,Ak,f.g r,Bp,Ex];congr 2;apply G4;simp[List.take_drop,L_]
 |false=>
  rw[o] at a;dsimp only at a;have:j[m]?=C v:=by simpa using a
  simp[this]
def Va(a:Am){f:QX}{l:EU}(n:a.e f.type=C l)(o:l.size≠0)(j m:B)(w:AG):
 (ADf ⟨j,m,E⟩ f).run a.b w=Ao ⟨j,m+f.offset,E⟩ w:=by
 unfold ADf;rw[Ak,a.g n];simp[o,Addr.b]
def iW(f:Am){H:B}{v G:M}{m:Td}{t an:B}(a:f.ad H v m=C (t,G))(w:AG):(method (an+1) H v m).run f.b w=Ao (t,G) w:=by
 unfold Am.ad at a;split at a;rotate_left
 ·cases a
 rename_i am ag;split at a;rotate_left
 ·cases a
 rename_i r ak;have al:am.methods.find? (λr=>r.name==m)=C r:=by rw[<-ak];simp
 rw[method,Ak,f.t ag];simp only[Bp,al];split at a
 ·rename_i p S j l n;cases a;rw[Ak,l];simp[TJ,j,TL,f.d n,Place.get]
 ·rename_i p u j l n;cases a;rw[Ak,l];simp[TJ,j,TL,f.d n,Place.get]
 ·rename_i p S j l n;cases a;rw[Ak,l];simp[TJ,j,TL,f.d n,Place.get]
 ·rename_i p ar j l;split at a;rotate_left
  ·cases a
  rename_i W ap u aj n;split at a;rotate_left
  ·cases a
  rename_i ao x L U au aq N y;split at a;rotate_left
  ·cases a
  rename_i ay av ah F;cases a;obtain⟨ax,z,aw⟩:=f.s ah;obtain⟨o,q⟩:∃o:QX,o=⟨ao,x,L,U,au,aq,N⟩:=⟨_,A⟩;rw[<-q] at y;have aa:o.type=x:=by rw[q]
  have af:o.offset=L:=by rw[q]
  rw[<-aa] at z F;rw[<-af];have Z:u[ar.index]?=C o:=by rw[<-y];simp
  have ai:=Va f z Y W ap w;rw[Ak,l];simp[TJ,aj,f.d n,Z,Place.get,ZP,ai,j,TL,f.d F]
 ·cases a
section
variable{a:G QW}
def R6(f:Am){b:Builtin}{l:Ai B}{m:Ai M}{p:B}{o:Ai AE}{v:M}(a:RQ f b l.toList m.toList=C v)(n:AG):(GG b l p o m).run f.b n=Ao (.value v) n:=by
 obtain⟨l⟩:=l;obtain⟨m⟩:=m;unfold RQ at a;dsimp only at a;split at a
 ·split at a
  ·cases a;rename_i j;simp only[GG,Builtin.len_,Ak];simp[f.d j,goInt]
  ·cases a
 ·split at a
  ·cases a;rename_i j;simp only[GG,Builtin.len_,Ak];simp[f.d j,goInt]
  ·cases a
 ·split at a
  ·cases a;rename_i j;simp only[GG,Builtin.cap_,Ak];simp[f.d j,goInt]
  ·cases a
 ·cases a;simp[GG,Builtin.min_,Builtin.min2]
 ·cases a;simp[GG,Builtin.max_,Builtin.max2]
 ·cases a
def JO{n:AP}{t:B}{l:C9}(q:CM a n t l){j:AC Cf}{p:AC (Ej×F)}(f:NX n j=C p):j.map l.eval=p.map λo=>D o.1 o.2:=by
 cases j with
 |none=>cases f;rfl
 |some j=>
  unfold NX at f;dsimp only at f;split at f
  ·rename_i u m r;cases f;simp[q.b r]
  ·cases f
def Sr{P:GN}{V:AE}{Q x l j m:B}{L o q:AC (Ej×F)}(y:(L.map (·.2)).getD 0=(l:F))(z:(o.map (·.2)).getD (Q:F)=(j:F))(G:(q.map (·.2)).getD (x:F)=(m:F))(W:l<=j/\j<=m/\m<=x)(S:(!q.isSome||o.isSome)=R)(n:AG):
 (aK V Q x (L.map λa=>D a.1 a.2) (o.map λa=>D a.1 a.2) (q.map λa=>D a.1 a.2)).run P n=Ao (l,j,m) n:=by
 have M:∀(H:Ej)(p:F)(r:B)(u:BoundsCode)(t:B),p=t->t<=r->(Instr.sliceBound (D H p) r u).run P n=Ao t n:=λH p r u t U Z=>by
  rw[run_sliceBound n H p r u Y Y];rw[U];rfl
 cases L<;>cases o<;>cases q<;>simp only[AFB,Ld,Zz,IG] at y z G⊢<;>first
  |(exfalso;cases S;done)
  |skip
 all_goals simp only[aK,AFW,AFX,QU,Hp,FG]
 all_goals(try rw[Ak,M _ _ _ _ m G Y])
 all_goals(try simp only[HD,Ak,Ex,Bp])
 all_goals(try rw[M _ _ _ _ j z Y])
 all_goals(try simp only[Bp,Ex])
 all_goals(try rw[M _ _ _ _ l y Y])
 all_goals(try simp only[Bp])
 all_goals(try(have f:=ZY.1 y;subst f))
 all_goals(try(have f:=ZY.1 z;subst f))
 all_goals(try(have f:=ZY.1 G;subst f))
 all_goals(try(have f:l=0:=Y))
 all_goals(first|rfl|(subst f;rfl))
def VS{j:Am}{o:Al}{bk:AP}{ba:S}{bh:M->CQ->Prop}(t:Kw j o bk ba bh){b9:B}{ag:C9}(n:CM a bk b9 ag)(bi:BR)(bs:AG):
 ∃v U,bh v U/\U.u ba/\∀l q,BA bi bs q l->U.u q->(Bh ag.eval o).run j.b l=Ao (.value v) l:=by
 obtain⟨bj,a3,cb,ca,bt,guard⟩:=o;have ah:E7 j ⟨bj,a3,cb,ca,bt,guard⟩ bk ba bh->∃v U,bh v U/\U.u ba/\∀l q,BA bi bs q l->U.u q->(Bh ag.eval ⟨bj,a3,cb,ca,bt,guard⟩).run j.b l=Ao (.value v) l:=λal=>by
  obtain⟨v,U,W,Z,am⟩:=al.aa;exact⟨v,U,W,Z,λl q u r=>am b9 ag bi bs l q n u r⟩
 cases a3<;>simp only[Kw] at t<;>try exact ah t
 case move y=>
  obtain⟨v,p,f⟩:=t.b;exact⟨_,_,f,AA,λl q u r=>by simp only[Bh,n.b p];rfl⟩
 case assign y=>
  obtain⟨v,p,f⟩:=t.b;exact⟨_,_,f,AA,λl q u r=>by simp only[Bh,n.b p];rfl⟩
 case pick bb y aq=>
  obtain⟨v,bf,f⟩:=t.b;split at f
  ·rename_i z;obtain⟨aj,ch⟩:=f;cases z with
   |true=>
    obtain⟨H,p,F⟩:=(aj A).b;exact⟨_,_,F,AA,λl q u r=>by simp only[Bh,n.b bf,n.b p];rfl⟩
   |false=>
    obtain⟨H,p,F⟩:=(ch A).b;exact⟨_,_,F,AA,λl q u r=>by simp only[Bh,n.b bf,n.b p];rfl⟩
  ·exact f.elim
 case build z co=>
  split at t;rotate_left
  ·exact t.elim
  rename_i cz bg;split at t;rotate_left
  ·exact t.elim
  rename_i bc bf;have r:=n.g bg;have G:=j.ah (y:=co.map λU=>(U.1,ag.eval U.2)) (z:=z) (t:=bc) (by simpa[r] using bf);refine⟨_,_,t,AA,λl q u r=>?_⟩;simp only[Bh];rw[Ak,G];rfl
 case load z y=>
  obtain⟨v,p,f⟩:=t.b;split at f;rotate_left
  ·exact f.elim
  rename_i al a2 cn bu ax;obtain⟨au,ar,aa,an,rfl,rfl⟩:=j.ac ax;obtain@⟨bc,cq,ct,v,cj,x⟩:=f;refine⟨_,_,x,⟨cj⟩,λl q u r=>?_⟩;obtain@⟨cs,cr,ci,ck⟩:=r;have G:=WO j.b (BA.h (p:=ci) u) ck;simp only[Bh,n.b p,Instr.loadAt,QZ,HD];rw[Ak,TK,Ak,j.y an];simp only[Bp];cases b2:J6 ar with
  |true=>
   rw[b2] at G;simp only[FG] at G⊢;rw[Ak,j.g aa];simp only[Bp];rw[G];rfl
  |false=>
   rw[b2] at G;simp only[QU,Hp] at G⊢;rw[G];rfl
 case nilCheck y=>
  obtain⟨v,p,f⟩:=t.b;split at f
  ·exact⟨_,_,f,AA,λl q u r=>by simp only[Bh,n.b p];rfl⟩
  ·exact⟨_,_,f,AA,λl q u r=>by simp only[Bh,n.b p];rfl⟩
  ·exact⟨_,_,f,AA,λl q u r=>by simp only[Bh,n.b p];rfl⟩
  ·exact f.elim
 case binOp a3 z y aq c2=>
  obtain⟨H,p,f⟩:=t.b;obtain⟨v,bp,f⟩:=f.b;split at f
  ·rename_i af m ap a1;obtain⟨cp,az,x⟩:=fK (x:=z) f (u:=j.b);refine⟨_,_,x,AA,λl q u r=>?_⟩;simp only[Bh,n.b p,n.b bp];rw[Ak,Ak,eU];simp only[Bp];rw[az];rfl
  ·split at f
   ·rename_i cp az;have bd:=λl=>(RP az l).1;have bl:=λl=>(RP az l).2.1;have cc:=λl=>(RP az l).2.2;split at f
    ·refine⟨_,_,f,AA,λl q u r=>?_⟩;simp only[Bh,n.b p,n.b bp];rw[Ak,Ak,bd];simp only[Bp];rw[bl];rfl
    ·refine⟨_,_,f,AA,λl q u r=>?_⟩;simp only[Bh,n.b p,n.b bp];rw[Ak,Ak,bd];simp only[Bp];rw[cc];rfl
    ·exact ah f
   ·exact ah f
 case unOp a3 z y=>
  obtain⟨H,p,f⟩:=t.b;split at f
  ·exact⟨_,_,f,AA,λl q u r=>by simp only[Bh,n.b p];rfl⟩
  ·obtain⟨a9,rfl,x⟩:=f;exact⟨_,_,x,AA,λl q u r=>by simp only[Bh,n.b p];rfl⟩
  ·exact ah f
 case convert src bj y=>
  obtain⟨H,p,f⟩:=t.b;split at f
  ·rename_i ar af W Z;obtain⟨a9,rfl,x⟩:=f;refine⟨_,_,x,AA,λl q u r=>?_⟩;simp only[Bh,n.b p];rw[Ak];simp[convert,j.d W,j.d Z,Conv.intToInt]
  ·exact ah f
 case makeInterface z y=>
  obtain⟨H,p,f⟩:=t.b;split at f
  ·exact f.elim
  ·rename_i ar an cl;refine⟨_,_,f,AA,λl q u r=>?_⟩;simp only[Bh,n.b p];rw[Ak,Instr.makeInterface,Ak,j.d cl];cases ar<;>first|rfl|exact CV A (an _)
  ·exact f.elim
 case makeFunc bx y aq=>
  split at t
  ·rename_i H v W Z;refine⟨_,_,t,AA,λl q u r=>?_⟩;simp only[Bh,Instr.makeFunc];have bd:y.map ag.eval=H.toArray:=by apply G4;simpa using n.c W
   have bl:aq.map ag.eval=v.toArray:=by apply G4;simpa using n.c Z
   rw[bd,bl];rfl
  ·exact t.elim
 case fieldAddr c0 y bx=>
  obtain⟨H,p,f⟩:=t.b;split at f;rotate_left
  ·exact f.elim
  rename_i al a2 a9 cg bn;obtain⟨ce,cd,F,bm,rfl,rfl⟩:=j.ae bn;split at f
  ·exact ah f
  ·rename_i c1 cm;obtain⟨au,aa,cu⟩:=j.s cm;refine⟨_,_,f,AA,λl q u r=>?_⟩;simp only[Bh,n.b p];rw[Ak,Instr.fieldAt,Ak,j.d F];simp only[Bp,bm,QZ,HD];rw[Ak,Va j aa Y];rfl
  ·exact f.elim
 case field z y bx=>
  obtain⟨H,p,f⟩:=t.b;split at f;rotate_left
  ·exact f.elim
  rename_i bc a9 cg bn;obtain⟨ce,cd,F,bm,rfl,rfl⟩:=j.ae bn;split at f;rotate_left
  ·exact f.elim
  rename_i cn bu ax;obtain⟨au,ar,aa,an,rfl,rfl⟩:=j.ac ax;obtain⟨bo,x⟩:=f;refine⟨_,_,x,AA,λl q u r=>?_⟩;simp only[Bh,n.b p];rw[Ak,Instr.field,Ak,j.d F];simp only[Bp,bm,asAgg,HD];rw[X3 j aa an bo];rfl
 case indexAddr z y au=>
  obtain⟨H,p,f⟩:=t.b;obtain⟨v,aa,f⟩:=f.b;split at f
  ·rename_i al a2 b6 bv b5 m ak F b4;split at f;rotate_left
   ·exact f.elim
   rename_i a0 ai;obtain⟨af,L,rfl⟩:=j.s ai;obtain⟨ap,rfl,bg,x⟩:=f;refine⟨_,_,x,AA,λl q u r=>?_⟩;simp only[Bh,n.b p,n.b aa];have av:j.b.elem z=ak:=by simp[Program.elem,j.f F]
   rw[Ak,run_indexAt_slice l z _ _ _ _ _ (by rw[av];exact j.f F),A8 Y,av,j.g L];simp[Addr.b]
  ·rename_i al a2 b5 m bq ak F b4;split at f;rotate_left
   ·exact f.elim
   rename_i a0 ai;obtain⟨af,L,rfl⟩:=j.s ai;obtain⟨ap,rfl,bg,x⟩:=f;refine⟨_,_,x,AA,λl q u r=>?_⟩;simp only[Bh,n.b p,n.b aa];have av:j.b.elem z=ak:=by simp[Program.elem,j.f F]
   have b1:j.b.arrayLen z=bq:=by simp[Program.arrayLen,j.f F]
   rw[Ak,run_indexAt_array l z _ _ _ (by rw[av,b1];exact j.f F),b1,A8 Y,av,j.g L];simp[Addr.b]
  ·exact ah f
 case index z y au=>
  obtain⟨H,p,f⟩:=t.b;obtain⟨v,aa,f⟩:=f.b;split at f
  ·rename_i bc b5 m bq ak F b4;split at f;rotate_left
   ·exact f.elim
   rename_i a0 bu ax;obtain⟨af,ar,L,an,rfl,rfl⟩:=j.ac ax;obtain⟨ap,rfl,bg,bo,x⟩:=f;refine⟨_,_,x,AA,λl q u r=>?_⟩;simp only[Bh,n.b p,n.b aa];rw[Ak,Instr.index];simp only[asIntOf,HD];rw[Ak,j.d F];simp only[Bp];rw[A8 Y,Ak,j.g L];simp only[Bp,Int.toNat_natCast];rw[X3 j L an bo];rfl
  ·exact ah f
 case slice z y cx aa cy=>
  obtain⟨H,p,f⟩:=t.b;split at f
  ·rename_i al a2 b6 bv ak b7 b3 b8 aj W Z am;split at f;rotate_left
   ·exact f.elim
   rename_i a0 ai;obtain⟨af,L,rfl⟩:=j.s ai;obtain⟨a1,be,m,o,a4,a5,a6,a7,a8,rfl,x⟩:=f;refine⟨_,_,x,AA,λl q u r=>?_⟩;simp only[Bh,n.b p];rw[Ak,Tq,Ak,j.d aj];simp only[Bp];rw[aJ,Ak,j.d aj];simp only[Bp];rw[Ak,JO n W,JO n Z,JO n am,Sr a4 a5 a6 a7 a8];simp only[Bp,Ak,j.g L,Ex];by_cases ay:m=a1
   ·simp[ay]
   ·simp[ay,Addr.b]
  ·rename_i b6 bv ak b7 b3 b8 aj W Z am;split at f;rotate_left
   ·exact f.elim
   rename_i a0 ai;obtain⟨af,L,rfl⟩:=j.s ai;obtain⟨a1,be,m,o,a4,a5,a6,a7,a8,rfl,x⟩:=f;refine⟨_,_,x,AA,λl q u r=>?_⟩;simp only[Bh,n.b p];rw[Ak,Tq,Ak,j.d aj];simp only[Bp];rw[aJ,Ak,j.d aj];simp only[Bp];rw[Ak,JO n W,JO n Z,JO n am,Sr a4 a5 a6 a7 a8];simp only[Bp,Ak,j.g L,Ex];simp
  ·rename_i al a2 bq ak b7 b3 b8 aj W Z am;split at f;rotate_left
   ·exact f.elim
   rename_i a0 ai;obtain⟨af,L,rfl⟩:=j.s ai;obtain⟨a1,be,m,o,a4,a5,a6,a7,a8,rfl,x⟩:=f;refine⟨_,_,x,AA,λl q u r=>?_⟩;simp only[Bh,n.b p];rw[Ak,Tq,Ak,j.d aj];simp only[Bp,QZ,HD];rw[Ak,JO n W,JO n Z,JO n am,Sr a4 a5 a6 a7 a8];simp only[Bp,Ak,j.g L,Ex];by_cases ay:m=a1
   ·simp[ay]
   ·simp[ay,Addr.b]
  ·exact ah f
 case extract y au=>
  obtain⟨H,p,f⟩:=t.b;split at f;rotate_left
  ·exact f.elim
  rename_i br;split at f;rotate_left
  ·exact f.elim
  rename_i v ao;have be:br[au]?=C v:=by rw[<-ao];simp
  refine⟨_,_,f,AA,λl q u r=>?_⟩;simp only[Bh,n.b p,Instr.extract,be];rfl
 case call bb=>
  split at t
  ·rename_i af y ap aq G ao;have aw:bb.args.map ag.eval=#[D af y,D ap aq]:=by apply G4;simpa using n.c ao
   obtain⟨a9,rfl,x⟩:=t;refine⟨_,_,x,AA,λl q u r=>?_⟩;simp only[Bh,LU,G,HD,LR,aw];exact R6 j A l
  ·rename_i af y ap aq G ao;have aw:bb.args.map ag.eval=#[D af y,D ap aq]:=by apply G4;simpa using n.c ao
   obtain⟨a9,rfl,x⟩:=t;refine⟨_,_,x,AA,λl q u r=>?_⟩;simp only[Bh,LU,G,HD,LR,aw];exact R6 j A l
  ·rename_i b br cv cw G ao;have aw:bb.args.map ag.eval=br.toArray:=by apply G4;simpa using n.c ao
   split at t
   ·rename_i v f;refine⟨_,_,t,AA,λl q u r=>?_⟩;simp only[Bh,LU,G,HD,LR];exact R6 j (by simpa[aw] using f) l
   ·exact ah t
  ·exact t.elim
def fL{n:Am}{o:Al}{am:AP}{aa:S}{aw:M->S->Prop}(f:M1 n o am aa aw){a6:B}{p:C9}{x:BR}{z j:AG}(r:CM a am a6 p)(l:BA x z aa j)
 (Z:C9->AG->Prop)(ak:II->C9->AG->Prop)(t:∀v G Y,aw v G->BA x z G Y->Z (p.put o.dst v) Y):o.wp n.b p j Z ak:=by
 unfold M1 at f;split at f
 ·obtain⟨v,ah,L,N,bf⟩:=VS f r x z;exact HB (bf j aa l N) (t _ _ _ L l)
 rename_i bp;clear bp;obtain⟨a2,ax,a9,a8,a1,guard⟩:=o;have y:Cr n ⟨a2,ax,a9,a8,a1,guard⟩ am aa aw->Oper.wp n.b ⟨a2,ax,a9,a8,a1,guard⟩ p j Z ak:=λH=>H.av a6 p x z j r l Z ak t;cases ax<;>simp only[VU] at f<;>try exact y f
 case alloc q=>
  split at f;rotate_left
  ·exact f.elim
  rename_i bv aq;split at f;rotate_left
  ·exact f.elim
  rename_i aj av;refine HB (g:=j.alloc (CP (B9 aj).toArray q)) (v:=P j.heap.size) ?_ (t _ _ _ (f j.heap.size) (l.u _ _));simp only[Bh,Instr.alloc,KL,Ak,n.t aq,Bp,av,newVar,newRow];rw[<-H8];rfl
 case box q b4=>
  obtain⟨v,au,u⟩:=f.b;refine HB (g:=j.alloc (CP (B9 v).toArray q)) (v:=P j.heap.size) ?_ (t _ _ _ (u j.heap.size) (l.u _ _));simp only[Bh,r.b au,Instr.box,newVar,newRow];rw[<-H8];rfl
 case buildSlice q m b1=>
  split at f;rotate_left
  ·exact f.elim
  rename_i b9 bo;split at f;rotate_left
  ·exact f.elim
  rename_i a3 ag bk;have ar:=r.g bo;have bh:=n.ai (y:=b1.map λah=>(ah.1,p.eval ah.2)) (z:=q) (n:=m) (t:=a3) (r:=ag) (by simpa[ar] using bk) j;refine HB (g:=j.alloc (CP ag.toArray a3)) (v:=Q j.heap.size m m) ?_ (t _ _ _ (f _) (l.u _ _));simp only[Bh];rw[Ak,bh];rfl
 case store q b4 cb=>
  obtain⟨ah,au,u⟩:=f.b;obtain⟨v,bu,u⟩:=u.b;split at u;rotate_left
  ·exact u.elim
  rename_i H b8 b7 br b6;obtain⟨bv,aq,rfl⟩:=n.s br;obtain@⟨ag,a0,a5,bm,G,ar,bl⟩:=u;obtain⟨Y,bb,bc,bd⟩:=ABl n.b (BA.h (p:=a5) l) bm (t:=q) (λj=>n.g aq j);have bq:BA x z G Y:=by
   obtain⟨az,al,af,a7,bx⟩:=ar.b;have bj:BU j H al.toArray af:=BA.h (a:=.t H al af::az) (l.j a7);have bi:BU j H ag.toArray a0:=BA.h (p:=a5) l;have bg:af=a0:=by
    have:=bi.symm.trans bj;simp at this;exact this.2.symm
   subst bg;have b2:Dn x z (HS H al.toArray af::az.map BL.y) j:=Dn.g l.b (a7.map BL.y);exact⟨Dn.g (Dn.put b2 bd bc) (bx.map BL.y).symm,l.g⟩
  refine T6 (g:=Y) ?_ (t _ _ _ bl bq);simp only[Bh,r.b au,r.b bu,Instr.storeAt,QZ,HD];rw[Ak,bb];rfl
 case makeMap q ay=>
  cases ay with
  |none=>
   refine HB (g:=j.alloc (.map #[] 0)) (v:=Ah (C j.heap.size)) ?_ (t _ _ _ (f _) (l.v _));simp only[Bh,Instr.makeMap];rfl
  |some ay=>exact y f
 case call F=>
  unfold VN at f;split at f
  ·exact f.elim
  rename_i W bt;have a4:F.args.map p.eval=W.toArray:=by apply G4;simpa using r.c bt
  split at f
  ·rename_i b5 ao;obtain⟨ca,bs,f⟩:=f.b;split at f
   ·rename_i an first cap
    split at f
    ·rename_i be ap;refine ZD (g:=j) (m:=an) (args:=first++F.args.map p.eval++cap) ?_ ?_
     ·simp only[Bh,LU,ao,r.b bs,Deferred.ofValue,HD,LR];exact n.x _ _ ap _ _
     ·have:=f.ag x z j l;rw[a4];rw[show first++W.toArray++cap=(first.toList++W++cap.toList).toArray by apply G4;simp];refine this.mono ?_;rintro ba b3 ⟨v,G,rfl,L,N⟩;exact⟨v,A,t _ _ _ L N⟩
    ·exact y f
   ·exact y f
  ·rename_i ay m ao;obtain⟨v,u,f⟩:=f.b;split at f
   ·rename_i q ai;split at f
    ·rename_i an U bn;split at f
     ·rename_i be ap;refine ZD (g:=j) (m:=an) (args:=#[U]++F.args.map p.eval) ?_ ?_
      ·simp only[Bh,LU,ao,r.b u,HD,LR];have:((#[Cd q ai]++F.args.map p.eval)[0]?:AC M)=C (Cd q ai):=by rw[Te Y1];rfl
       obtain⟨aj,av⟩:∃aj,n.b.types.size+Made.depth=aj+1:=⟨_,A⟩;simp only[this,callMethod];rw[Ak];simp only[run_program,Bp];rw[av,Ak,iW n bn];simp only[Bp];rw[show#[U]++(#[Cd q ai]++F.args.map p.eval).extract 1 (#[Cd q ai]++F.args.map p.eval).size=#[U]++F.args.map p.eval by apply G4;simp;exact DP Y1];exact n.x _ _ ap _ _
      ·have:=f.ag x z j l;rw[a4];rw[show#[U]++W.toArray=(U::W).toArray by apply G4;simp];refine this.mono ?_;rintro ba b3 ⟨v,G,rfl,L,N⟩;exact⟨v,A,t _ _ _ L N⟩
     ·exact y f
    ·exact y f
   ·exact y f
  ·exact y f
end
section
variable{a:G QW}
def IY(n:B)(f:AC Tmp)(v:M)(j:AP)(a:S)(m:AP->S->Prop):Prop:=
 match LG n f v j with
 |some l=>m l a
 |none=>Be
def IY.b{o:B}{j:AC Tmp}{v:M}{l:AP}{f:S}{n:AP->S->Prop}(a:IY o j v l f n):∃m,LG o j v l=C m/\n m f:=by
 unfold IY at a;split at a
 ·exact⟨_,Y7,a⟩
 ·exact a.elim
def P6(j:G Al)(a:AP)(f:B):AC (AC AE):=
 match j[f]? with
 |some o=>match o.dst with
  |some l=>match a.b l with
   |some (X b)=>C (C b)
   |some (AL _)=>C E
   |_=>E
  |none=>C E
 |none=>C E
def P7{m:G Al}{p:AP}{l x:B}{u:AC AE}{n:C9}(f:P6 m p l=C u)(r:CM a p x n):LW m.toArray n.tmps l=u:=by
 unfold P6 at f;unfold LW;simp only[LY];cases t:m[l]? with
 |none=>rw[t] at f;cases f;rfl
 |some o=>
  rw[t] at f;dsimp only at f;simp only[Zy];cases q:o.dst with
  |none=>rw[q] at f;cases f;rfl
  |some y=>
   rw[q] at f;dsimp only at f;simp only[Zy];split at f
   ·rename_i b j;cases f;rw[r.d _ _ j]
   ·rename_i b j;cases f;rw[r.d _ _ j]
   ·cases f
def Kx(n:Am)(l:B)(q:G Al)(o:Al)(a:AP)(f:S)(j:AP->S->Prop):Prop:=
 match o.guard with
 |none=>M1 n o a f λv m=>IY l o.dst v a m j
 |some (p,r)=>match P6 q a p with
  |some (C b)=>match r with
   |true=>IK b (M1 n o a f λv m=>IY l o.dst v a m j) (IY l o.dst Cw a f j)
   |false=>IK b (IY l o.dst Cw a f j) (M1 n o a f λv m=>IY l o.dst v a m j)
  |some E=>IY l o.dst Cw a f j
  |none=>Be
def RT{u:Am}{r:B}{F:G Al}{o:Al}{n:AP}{x:S}{z:AP->S->Prop}(f:Kx u r F o n x z){j:C9}{ah:BR}{al t:AG}(p:CM a n r j)(ak:BA ah al x t)
 (l:C9->AG->Prop)(M:II->C9->AG->Prop)(aj:∀y m ai ag,z y m->CM a y r ai->BA ah al m ag->l ai ag):
 if HC o (LW F.toArray j.tmps)=R then o.wp u.b j t l M else l (j.put o.dst Cw) t:=by
 have H:M1 u o n x (λv m=>IY r o.dst v n m z)->o.wp u.b j t l M:=λf=>fL f p ak l M λv m ag ao an=>by
  obtain⟨y,N,U⟩:=ao.b;exact aj _ _ _ _ U (p.put N) an
 have L:IY r o.dst Cw n x z->l (j.put o.dst Cw) t:=λf=>by
  obtain⟨y,N,U⟩:=f.b;exact aj _ _ _ _ U (p.put N) ak
 unfold Kx at f;cases q:o.guard with
 |none=>
  rw[q] at f;rw[A8 (by simp[HC,q])];exact H f
 |some ap=>
  obtain⟨aq,am⟩:=ap;rw[q] at f;dsimp only at f;split at f
  ·rename_i b W;have af:=P7 W p;have aa:HC o (LW F.toArray j.tmps)=(b==am):=by simp[HC,q,af]
   rw[aa];cases am with
   |true=>
    obtain⟨Z,Y⟩:=f;cases b with
    |true=>exact H (Z A)
    |false=>exact L (Y A)
   |false=>
    obtain⟨Z,Y⟩:=f;cases b with
    |true=>exact L (Z A)
    |false=>exact H (Y A)
  ·rename_i W;have af:=P7 W p;have aa:HC o (LW F.toArray j.tmps)=I:=by simp[HC,q,af]
   rw[aa];exact L f
  ·exact f.elim
def VQ(l:Am)(r:B)(t:G Al)(q:G Al):AP->S->(AP->S->Prop)->Prop:=
 List.rec (motive:=λ_=>AP->S->(AP->S->Prop)->Prop) (λf a j=>j f a) (λo _ p f a j=>Kx l r t o f a λn m=>p n m j) q
def VR{u:Am}{H:B}{L:G Al}{M:BR}{V:AG}{l:II->C9->AG->Prop}{P:AP->S->Prop}(N:∀q j n t,P q j->CM a q H n->BA M V j t->l Jh n t):
 ∀(Q:G Al)(p:AP)(f:S)(m:C9)(r:AG),VQ u H L Q p f P->CM a p H m->BA M V f r->Mc u.b L.toArray l Q m r
 |[],p,f,m,r,x,y,z=>N _ _ _ _ x y z
 |o::U,p,f,m,r,x,y,z=>by
  have:=RT x y z (Mc u.b L.toArray l U) l λq j n t W Y Z=>VR N U q j n t W Y Z;unfold Mc;split
  ·rename_i F;rw[A8 F] at this;exact AT this
  ·rename_i F;rw[A1 F] at this;exact this
end
section
variable{a:GN}{d:Ai Al}{c:II->C9->AG->Prop}
def G7(f:B->B->AE)(l:Ai AE)(j:B):Prop:=∀a,l.getD a I=R->f a j=I
def Ij(a:GN)(d:Ai Al)(c:II->C9->AG->Prop)(o:B->B->AE)(n:G (B×(AG->Prop))):B->Ai AE->C9->AG->Prop
 |0,f,j,l=>FB EM d f=[]/\c Jh j l
 |t+1,f,j,l=>
  (FB EM d f=[]->c Jh j l)/\
  ∀m∈FB EM d f,wpOp a d c m (λr q=>(∀p∈n,G7 o (f.setIfInBounds m R) p.1->p.2 q)/\Ij a d c o n t (f.setIfInBounds m R) r q) j l
def T4{p:B->B->AE}{o:G (B×(AG->Prop))}:∀(f:B)(m:Ai AE)(l:C9)(n:AG),Ij a d c p o f m l n->wpAny a EM d c f m l n
 |0,_,_,_,j=>j
 |f+1,_,_,_,j=>⟨j.1,λu t=>ZW (λq x r=>T4 f _ q x r.2) (j.2 u t)⟩
def T5{o:B->B->AE}{m n:G (B×(AG->Prop))}(r:∀f∈n,f∈m):∀(j:B)(t:Ai AE)(p:C9)(u:AG),Ij a d c o m j t p u->Ij a d c o n j t p u
 |0,_,_,_,l=>l
 |j+1,_,_,_,l=>⟨l.1,λF z=>ZW (λx H q=>⟨λf y=>q.1 f (r f y),T5 r j _ x H q.2⟩) (l.2 F z)⟩
def HL(d:Ai Al)(j:Ai AE):Prop:=
 ∀f o,d[f]?=C o->j.getD f I=R->∀a∈o.after,KJ EM a=R->j.getD a.on I=R
def HL.b{f:Ai AE}(u:HL d f){a:B}(y:a∈FB EM d f):HL d (f.setIfInBounds a R):=by
 intro t o n q j m l;by_cases p:t=a
 ·subst p;obtain⟨_,z,r,x⟩:=GH.1 y;rw[n] at r;cases r;exact M' (x j m l)
 ·rw[LQ I (Jb p)] at q;exact M' (u t o n q j m l)
def Sx{f:Ai AE}{a:B}(l:f.getD a R=I):f.getD a I=I:=by
 rcases Ck a f.size with j|j
 ·simpa[E6,j] using l
 ·simp[E6,QK.2 j]
def ZC{q:B->B->AE}{l:B}{W:Al}{v:M}{F:AG->Prop}(ak:d[l]?=C W)(ao:∀(m:B)(o:Al) N b,d[m]?=C o->o.op≠Ln N b)
 (av:∀ah u t,¬c (Lj ah) u t)(aw:∀f,HL d f->∀p l,f.getD p I=R->q p l=R->f.getD l I=R)(ax:∀j,q l j=I)
 (ay:∀f,HL d f->l∈FB EM d f->∀m∈FB EM d f,m≠l->∀Y,d[m]?=C Y->W.apart d Y=R)(Z:G (B×(AG->Prop))):
 ∀(S:B)(f:Ai AE)(u:C9)(t:AG),HL d f->l∈FB EM d f->TI a d F W v u->F t->
  Ij a d c q ((l,F)::Z) S (f.setIfInBounds l R) (u.put W.dst v) t->(∀j∈Z,G7 q f j.1->j.2 t)->Ij a d c q Z (S+1) f u t:=by
 have un_i:∀{f:Ai AE}{j:B},G7 q (f.setIfInBounds l R) j↔G7 q f j:=by
  intro f j;constructor
  ·intro y p H;exact y p (M' H)
  ·intro y p H;by_cases an:p=l
   ·subst an;exact ax j
   ·rw[LQ I (Jb an)] at H;exact y p H
 intro S
 induction S with
 |zero=>
  intro f u t af x ag aj L ai;refine⟨λy=>(by rw[y] at x;cases x),λm z=>?_⟩;by_cases n:m=l
  ·subst n;exact ag.wpOp ak aj ⟨λj r U=>ai j r (un_i.1 U),T5 (λj r=>By _ r) _ _ _ _ L⟩
  ·have:=ZS z n;rw[L.1] at this;cases this
 |succ S a2=>
  intro f u t af x ag aj L ai;refine⟨λy=>(by rw[y] at x;cases x),λm z=>?_⟩;by_cases n:m=l
  ·subst n;exact ag.wpOp ak aj ⟨λj r U=>ai j r (un_i.1 U),T5 (λj r=>By _ r) _ _ _ _ L⟩
  ·have ar:=L.2 m (ZS z n);obtain⟨a5,Y,al,a4⟩:=GH.1 z;have a0:f.getD l I=I:=Sx (GH.1 x).1;have au:=wpOp_putIf (S:=F) al (ay f af x m z n Y al) (λN b=>ao l W N b ak) (λN b=>ao m Y N b al) (λah u t a3=>CV a3 (av ah _ _)) ag ar;refine ZW (λaq am aa=>?_) au;have ap:∀j∈Z,G7 q (f.setIfInBounds m R) j.1->j.2 am:=λj r U=>aa.2.1 j (By _ r) (by rw[Tg _ _ (Jb n)];exact un_i.2 U);refine⟨ap,?_⟩;have az:F am:=by
    refine aa.2.1 (l,F) (Bt ..) ?_;rw[Tg _ _ (Jb n)];refine un_i.2 λp H=>?_;cases a1:q p l with
    |false=>rfl
    |true=>
     have:=aw _ (af.b z) p l H a1;rw[LQ I n,a0] at this;cases this
   refine a2 (f.setIfInBounds m R) aq am (af.b z) (ZS x (Jb n)) aa.1 az ?_ ap;rw[Tg _ _ n];exact aa.2.2
end
def Jy(a:B):G Edge->AE
 |[]=>R
 |f::j=>match KJ EM f with
  |true=>match D' a f.on with
   |true=>Jy a j
   |false=>I
  |false=>Jy a j
def PA{j:B}:∀{f:G Edge},Jy j f=R↔∀a∈f,KJ EM a=R->D' j a.on=R
 |[]=>by simp[Jy]
 |a::r=>by
  unfold Jy;cases l:KJ EM a with
  |false=>simp[l,PA (f:=r)]
  |true=>
   cases m:D' j a.on with
   |false=>simp[l,m]
   |true=>simp[l,m,PA (f:=r)]
def F9(a:B):B->G Al->G (B×Al)
 |_,[]=>[]
 |f,o::j=>match D' a f with
  |true=>F9 a (f+1) j
  |false=>match Jy a o.after.toList with
   |true=>(f,o)::F9 a (f+1) j
   |false=>F9 a (f+1) j
def WY{n:B}{j:B}{t:Al}:∀{y:G Al}{a:B},(j,t)∈F9 n a y↔a<=j/\y[j-a]?=C t/\D' n j=I/\Jy n t.after.toList=R
 |[],a=>by simp[F9]
 |o::r,a=>by
  have x:=WY (n:=n) (j:=j) (t:=t) (y:=r) (a:=a+1);have q:∀(u:a+1<=j),(o::r)[j-a]?=r[j-(a+1)]?:=λu=>by
   rw[show j-a=(j-(a+1))+1 by omega,IC]
  unfold F9;cases H:D' n a with
  |true=>
   dsimp only;rw[x];constructor
   ·rintro⟨m,f,l⟩;exact⟨Y,by rw[q m];exact f,l⟩
   ·rintro⟨m,f,l,p⟩;have:a≠j:=λz=>by subst z;rw[H] at l;cases l
    exact⟨Y,by rw[<-q Y];exact f,l,p⟩
  |false=>
   cases F:Jy n o.after.toList with
   |false=>
    dsimp only;rw[x];constructor
    ·rintro⟨m,f,l⟩;exact⟨Y,by rw[q m];exact f,l⟩
    ·rintro⟨m,f,l,p⟩;have:a≠j:=λz=>by
      subst z;simp at f;subst f;rw[F] at p;cases p
     exact⟨Y,by rw[<-q Y];exact f,l,p⟩
   |true=>
    dsimp only;rw[C2,x];constructor
    ·rintro(u|⟨m,f,l⟩)
     ·cases u;exact⟨AI _,Y1,H,F⟩
     ·exact⟨Y,by rw[q m];exact f,l⟩
    ·rintro⟨m,f,l,p⟩;by_cases L:a=j
     ·subst L;simp at f;exact AT (by rw[f])
     ·exact Ae ⟨Y,by rw[<-q Y];exact f,l,p⟩
def Mu(f:Ai AE)(j:B)(l:B):Prop:=f.size=l/\∀a,f.getD a I=D' j a
variable{p:B}
def Mu.a{a:G Al}{n:Ai AE}(m:Mu n l a.length){f:Al}:(p∈FB EM a.toArray n/\a[p]?=C f)↔(p,f)∈F9 l 0 a:=by
 rw[GH,WY];have M:a[p]?=C f->p<n.size:=λq=>by rw[m.1];exact(Cx.1 q).1
 have y:∀(q:a[p]?=C f),n.getD p R=D' l p:=λq=>by
  rw[<-m.2 p];simp[E6,M q]
 constructor
 ·rintro⟨⟨z,o,N,L⟩,x⟩;have:o=f:=by simpa[x] using N.symm
  subst this;refine⟨Af _,by simpa using x,by rw[<-y x];exact z,PA.2 λr u t=>?_⟩;rw[<-m.2];exact L r (by simpa using u) t
 ·rintro⟨_,j,F,H⟩;have j:a[p]?=C f:=by simpa using j
  exact⟨⟨by rw[y j];exact F,f,by simpa using j,λr u t=>by rw[m.2];exact PA.1 H r (by simpa using u) t⟩,j⟩
variable{np:B}
def Mu.b{j:Ai AE}(a:Mu j l p)(n:np<p):Mu (j.setIfInBounds np R) (l|||1<<<np) p:=by
 refine⟨by simp[a.1],λm=>?_⟩;rw[QL,T',OF];by_cases f:m=np
 ·subst f;have:m<j.size:=by rw[a.1];exact n
  simp[E6,this]
 ·rw[LQ I (Jb f),a.2];simp[Jb f]
def IN(a:G B):G Edge->B
 |[]=>0
 |f::j=>match KJ EM f with
  |true=>(1<<<f.on)|||a.getD f.on 0|||IN a j
  |false=>IN a j
def D2:G B->G Al->G B
 |a,[]=>a
 |a,o::f=>D2 (a++[IN a o.after.toList]) f
def R2{p:G B}{l:B}:∀{q:G Edge},D' (IN p q) l=R->∃f∈q,KJ EM f=R/\(l=f.on\/D' (p.getD f.on 0) l=R)
 |[],a=>by simp[IN] at a
 |f::r,a=>by
  unfold IN at a;cases j:KJ EM f with
  |false=>
   rw[j] at a;obtain⟨m,n,o⟩:=R2 a;exact⟨m,By _ n,o⟩
  |true=>
   rw[j] at a;dsimp only at a;rw[QL,QL,T',OF] at a;simp only[Lg,KZ] at a;rcases a with(a|a)|a
   ·exact⟨f,Bt ..,j,AT a.symm⟩
   ·exact⟨f,Bt ..,j,Ae a⟩
   ·obtain⟨m,n,o⟩:=R2 a;exact⟨m,By _ n,o⟩
def Qd(m:G Al)(l:G B):Prop:=
 ∀a,HL m.toArray a->∀j f,a.getD j I=R->D' (l.getD j 0) f=R->a.getD f I=R
def Uf{p:G Al}:∀(y:G Al)(a:G B),Qd p a->(∀m,y[m]?=p[a.length+m]?)->Qd p (D2 a y)
 |[],a,n,_=>n
 |o::W,a,n,u=>by
  unfold D2;refine Uf W _ ?_ λm=>?_
  ·intro z r j F t f;by_cases S:j<a.length
   ·have l:(a++[IN a o.after.toList]).getD j 0=a.getD j 0:=by simp only[AY,Di S]
    rw[l] at f;exact n z r j F t f
   ·by_cases N:j=a.length
    ·subst N;have l:(a++[IN a o.after.toList]).getD a.length 0=IN a o.after.toList:=by simp[Cp]
     rw[l] at f;obtain⟨H,L,M,q⟩:=R2 f;have U:p.toArray[a.length]?=C o:=by have:=u 0;simp at this;simpa using this.symm
     have x:=r _ _ U t H (by simpa using L) M;rcases q with rfl|q
     ·exact x
     ·exact n z r _ _ x q
    ·have l:(a++[IN a o.after.toList]).getD j 0=0:=by
      simp only[AY];rw[Dm Y5];rfl
     rw[l] at f;simp at f
  ·have:=u (m+1);rw[IC] at this;rw[this];simp[Nat.add_assoc,L_ 1 m]
def Oa(a:G Al):Qd a (D2 [] a):=Uf a [] (λ_ _ m j _ f=>by simp at f) (λl=>Y1)
def Ge:G B->B
 |[]=>0
 |f::a=>(1<<<f)|||Ge a
def Sv{f:B}:∀{a:G B},D' (Ge a) f=R↔f∈a
 |[]=>by simp[Ge]
 |j::r=>by
  unfold Ge;rw[QL,T',OF,Lg,Sv,C2];simp[eq_comm]
def NZ:G Cf->G B
 |[]=>[]
 |.tmp f::a=>f::NZ a
 |_::a=>NZ a
def Wy:∀(a:G Cf),(a.filterMap λ|.tmp j=>C j|_=>E)=NZ a
 |[]=>A
 |l::f=>by
  cases l<;>simp[NZ,Wy f]
def Ur:Callee->G Cf
 |.value a=>[a]
 |.invoke f _=>[f]
 |Ei _=>[]
def PQ:Op->G Cf
 |.alloc _|.ready _|.waits _=>[]
 |U5 a|Tt a|.box _ a|U2 _ a|U6 a|U9 _ _ a|ON _ _ a|.sliceToArrayPointer _ a|U4 _ a
 |.makeChan _ a|Ty _ a _|Tx _ a _|.range _ a|.next a _|.entry a|aS a _ _ _|Tw a _|.panic a|.recv _ a _=>[a]
 |U7 j f b=>[j,f,b]
 |Tv _ n|aN _ _ n=>n.toList.map (·.2)
 |.store _ f v|Tu _ _ f v _|.makeSlice _ f v|U0 _ f v|Tz _ f v|.lookup _ f v _|.mapEntry _ f v|.send f v=>[f,v]
 |U3 _ f b=>f.toList++b.toList
 |aP _ r=>r.toList
 |U8 _ a q p m=>[a]++q.toList++p.toList++m.toList
 |.mapUpdate _ m l v|.entryStore _ m l v|.insert _ m l v=>[m,l,v]
 |FH j|.go j|.defer j=>Ur j.callee++j.args.toList
 |Ln o b=>(Ln o b).operands.toList
def jT(o:Op):o.operands.toList=PQ o:=by
 cases o<;>simp[Op.operands,PQ,Call.operands];all_goals(rename_i a;cases a.callee<;>simp[Ur])
def GY(f:G Al)(o:Al):G B:=
 NZ (PQ o.op)++(match o.guard with
  |some (a,_)=>match f[a]? with
   |some j=>j.dst.toList
   |none=>[]
  |none=>[])
def WT(a:G Al)(o:Al):o.looksAt a.toArray=GY a o:=by
 unfold Oper.looksAt GY;rw[jT];refine congr (AB HAppend.hAppend (Wy (PQ o.op))) ?_;cases o.guard with
 |none=>rfl
 |some j=>
  obtain⟨f,b⟩:=j;simp only[LY];cases a[f]?<;>simp
def H1(o:Al):B:=match o.dst with|some a=>1<<<a|none=>0
def RE{o:Al}:D' (H1 o) l=R↔o.dst=C l:=by
 unfold H1;cases o.dst with
 |none=>simp
 |some a=>show D' (1<<<a) l=R↔_;rw[T',OF];simp
def H7(a:G Al):G Al->G (B×B)
 |[]=>[]
 |o::f=>(H1 o,Ge (GY a o))::H7 a f
def Nj(f:G Al):∀(j:G Al)(a:B),(H7 f j)[a]?=(j[a]?).map λo=>(H1 o,Ge (GY f o))
 |[],a=>by simp[H7]
 |o::l,0=>by simp[H7]
 |o::l,a+1=>by simp[H7,Nj f l a]
def J9(f j a l:B):AE:=TX ((f&&&(a|||l))|||(a&&&j)) 0
def O'{l:G Al}{j f:Al}(B:J9 (H1 j) (Ge (GY l j)) (H1 f) (Ge (GY l f))=R):j.apart l.toArray f=R:=by
 have F:=QG B;have u:∀o,(D' (H1 j) o&&(D' (H1 f) o||D' (Ge (GY l f)) o)||D' (H1 f) o&&D' (Ge (GY l j)) o)=I:=λo=>by
  have:=AB (λm=>D' m o) F;simpa[QL,Nat.testBit_and] using this
 unfold Oper.apart;rw[WT,WT];have z:∀a,j.dst=C a->a∉GY l f/\f.dst≠C a:=λa q=>by
  have:=u a;rw[RE.2 q] at this;simp only[Bool.true_and,Bool.or_eq_false_iff] at this;refine⟨λn=>?_,λn=>?_⟩
  ·rw[Sv.2 n] at this;simp at this
  ·rw[RE.2 n] at this;simp at this
 have t:∀a,f.dst=C a->a∉GY l j:=λa q n=>by
  have:=u a;rw[RE.2 q,Sv.2 n] at this;simp at this
 cases L:j.dst with
 |none=>
  cases p:f.dst with
  |none=>rfl
  |some a=>simpa using t a p
 |some r=>
  obtain⟨x,y⟩:=z r L;cases p:f.dst with
  |none=>simpa using x
  |some a=>
   have:=t a p;rw[p] at y;have H:a≠r:=λn=>y (by rw[n]);simp[x,H,this]
def MG(a f j:B):B->G (B×B)->AE
 |_,[]=>R
 |l,(m,n)::o=>match J9 m n a f&&J9 a f m n with
  |true=>MG a f j (l+1) o
  |false=>match D' j l with
   |true=>MG a f j (l+1) o
   |false=>I
def Wl{l n o:B}:∀{u:G (B×B)}{f:B},MG l n o f u=R->∀m j,u[m]?=C j->(J9 j.1 j.2 l n=R/\J9 l n j.1 j.2=R)\/D' o (f+m)=R
 |[],f,_,m,j,a=>by simp at a
 |(r,x)::y,f,a,m,j,q=>by
  unfold MG at a;have t:MG l n o (f+1) y=R/\((J9 r x l n=R/\J9 l n r x=R)\/D' o f=R):=by
   split at a
   ·rename_i p;exact⟨a,AT (by simpa using p)⟩
   ·split at a
    ·rename_i p;exact⟨a,Ae p⟩
    ·cases a
  cases m with
  |zero=>simp at q;subst q;exact t.2
  |succ m=>
   have:=Wl t.1 m j (by simpa using q);rwa[show f+1+m=f+(m+1) by omega] at this
def LA:G (B×B)->G B->G (B×B)->AE
 |_,_,[]=>R
 |done,a,(f,j)::l=>match MG f j (a.headD 0) 0 done with
  |true=>LA (done++[(f,j)]) a.tail l
  |false=>I
def NW:∀{p done:G (B×B)}{f:G B},LA done f p=R->∀j l,p[j]?=C l->∀n m,(done++p)[n]?=C m->n<done.length+j->(J9 m.1 m.2 l.1 l.2=R/\J9 l.1 l.2 m.1 m.2=R)\/D' (f.getD j 0) n=R
 |[],done,f,_,j,l,o=>by simp at o
 |(u,y)::p,done,f,a,j,l,o=>by
  intro n m q x;unfold LA at a;split at a
  ·rename_i t;cases j with
   |zero=>
    simp at o;subst o;have r:n<done.length:=Y;rw[Di r] at q;have:=Wl t n m q;simp only[Nat.zero_add] at this;refine this.imp id λa=>?_;cases f with
    |nil=>simp at a
    |cons b f=>simpa using a
   |succ j=>
    have:=NW a j l (by simpa using o) n m (by simpa using q) Y5;refine this.imp id λa=>?_;cases f with
    |nil=>simp at a
    |cons b f=>simpa using a
  ·cases a
section
variable{a:G QW}
def JF(a:Am):G (B×Al)->AC (B×Al)
 |[]=>E
 |(f,o)::j=>match I' a o.op with
  |true=>C (f,o)
  |false=>JF a j
def RX{j:Am}:∀{l:G (B×Al)}{f:B×Al},JF j l=C f->f∈l/\I' j f.2.op=R
 |[],f,a=>by cases a
 |(n,o)::r,f,a=>by
  unfold JF at a;split at a
  ·rename_i m;cases a;exact⟨Bt ..,m⟩
  ·have:=RX a;exact⟨By _ this.1,this.2⟩
def K1(m:B):G (B×CQ)->S->Prop->Prop
 |[],_,a=>a
 |(l,n)::j,f,a=>match D' m l with
  |true=>K1 m j f a
  |false=>Mt (n.u f) (K1 m j f a)
def H2(m:B):G (B×CQ)->G (B×CQ)
 |[]=>[]
 |(a,j)::f=>match D' m a with
  |true=>H2 m f
  |false=>(a,j)::H2 m f
def PC{m:B}{n:S}{l:Prop}:∀{p:G (B×CQ)},K1 m p n l->l/\∀j∈H2 m p,j.2.u n
 |[],a=>⟨a,by simp[H2]⟩
 |(y,z)::r,a=>by
  unfold K1 at a;unfold H2;cases o:D' m y with
  |true=>rw[o] at a;exact PC a
  |false=>
   rw[o] at a;obtain⟨q,t⟩:=a;obtain⟨u,x⟩:=PC t;exact⟨u,λj f=>by
    rcases C2.1 f with rfl|f
    ·exact q
    ·exact x j f⟩
def Ru{m:B}{f:B×CQ}:∀{l:G (B×CQ)},f∈l->D' m f.1=I->f∈H2 m l
 |[],a,_=>by cases a
 |(n,o)::r,a,j=>by
  unfold H2;rcases C2.1 a with rfl|a
  ·rw[j];exact Bt ..
  ·have:=Ru a j;split
   ·exact this
   ·exact By _ this
def HP(j:B)(a:CQ)(f:G (B×CQ)):G (B×CQ):=
 match a with
 |.t=>f
 |a=>(j,a)::f
def IZ(m:B)(a:AC Tmp)(v:M)(f:AP)(n:CQ)(l:AP->CQ->Prop):Prop:=
 match LG m a v f with
 |some j=>l j n
 |none=>Be
def M2(m:Am)(j:B)(q:G Al)(o:Al)(a:AP)(n:S)(f:AP->CQ->Prop):Prop:=
 match o.guard with
 |none=>Kw m o a n λv l=>IZ j o.dst v a l f
 |some (p,r)=>match P6 q a p with
  |some (C b)=>match r with
   |true=>IK b (Kw m o a n λv l=>IZ j o.dst v a l f) (IZ j o.dst Cw a .t f)
   |false=>IK b (IZ j o.dst Cw a .t f) (Kw m o a n λv l=>IZ j o.dst v a l f)
  |some E=>IZ j o.dst Cw a .t f
  |none=>Be
def Kt(f:BR)(m:AG)(j:CQ)(l:AG):Prop:=∃a,BA f m a l/\j.u a
def VT{t:Am}{p:B}{q:G Al}{o:Al}{x:AP}{u:S}{r:AP->CQ->Prop}(f:M2 t p q o x u r){m:C9}{F:BR}{L:AG}(y:CM a x p m):
 ∃v l j,r l j/\j.u u/\CM a l p (m.put o.dst v)/\TI t.b q.toArray (Kt F L j) o v m:=by
 have M:HC o (LW q.toArray m.tmps)=R->Kw t o x u (λv j=>IZ p o.dst v x j r)->∃v l j,r l j/\j.u u/\CM a l p (m.put o.dst v)/\TI t.b q.toArray (Kt F L j) o v m:=λn f=>by
  obtain⟨v,j,H,ah,ai⟩:=VS f y F L;unfold IZ at H;split at H
  ·rename_i l W;exact⟨v,l,j,H,ah,y.put W,AT ⟨n,λal⟨ag,aj,ak⟩=>ai al ag aj ak⟩⟩
  ·exact H.elim
 have N:HC o (LW q.toArray m.tmps)=I->IZ p o.dst Cw x .t r->∃v l j,r l j/\j.u u/\CM a l p (m.put o.dst v)/\TI t.b q.toArray (Kt F L j) o v m:=λn f=>by
  unfold IZ at f;split at f
  ·rename_i l W;exact⟨Cw,l,.t,f,AA,y.put W,Ae ⟨n,A⟩⟩
  ·exact f.elim
 unfold M2 at f;cases z:o.guard with
 |none=>
  rw[z] at f;exact M (by simp[HC,z]) f
 |some j=>
  obtain⟨am,af⟩:=j;rw[z] at f;dsimp only at f;split at f
  ·rename_i b U;have aa:=P7 U y;have n:HC o (LW q.toArray m.tmps)=(b==af):=by simp[HC,z,aa]
   cases af with
   |true=>
    obtain⟨Z,Y⟩:=f;cases b with
    |true=>exact M n (Z A)
    |false=>exact N n (Y A)
   |false=>
    obtain⟨Z,Y⟩:=f;cases b with
    |true=>exact N n (Z A)
    |false=>exact M n (Y A)
  ·rename_i U;have aa:=P7 U y;exact N (by simp[HC,z,aa]) f
  ·exact f.elim
def Ly(a:B->Al->Prop):G (B×Al)->Prop
 |[]=>True
 |[(f,o)]=>a f o
 |(f,o)::j=>a f o/\Ly a j
def Qx{l:B->Al->Prop}:∀{m:G (B×Al)},Ly l m->∀f∈m,l f.1 f.2
 |[],_,f,a=>by cases a
 |[(n,o)],j,f,a=>by simp at a;subst a;exact j
 |(n,o)::q::r,j,f,a=>by
  rcases C2.1 a with rfl|a
  ·exact j.1
  ·exact Qx j.2 f a
def M0(p:Am)(y:B)(n:G Al)(u:G B)(F:B):B->AP->S->G (B×CQ)->(AP->S->Prop)->Prop:=
 AEy (motive:=λ_=>B->AP->S->G (B×CQ)->(AP->S->Prop)->Prop)
  (λj l a _ m=>match F9 j 0 n with
   |[]=>m l a
   |_=>Be)
  (λ_ x j l a r m=>match F9 j 0 n with
   |[]=>m l a
   |z=>match JF p z with
    |some (f,o)=>M2 p y n o l a λq H=>x (j|||1<<<f) q a (HP f H r) m
    |none=>Ly (λf o=>Kx p y n o l a λq t=>K1 (u.getD f 0) r t (x (j|||1<<<f) q t (H2 (u.getD f 0) r) m)) z) F
def fJ(n:Am)(p:B)(m:G Al)(o:G B)(f:B)(j:AP)(a:S)(q:G (B×CQ))(l:AP->S->Prop):M0 n p m o 0 f j a q l=match F9 f 0 m with
 |[]=>l j a
 |_=>Be:=A
def fI(a:Am)(n:B)(j:G Al)(m:G B)(x p:B)(q:AP)(l:S)(t:G (B×CQ))(r:AP->S->Prop):M0 a n j m (x+1) p q l t r=match F9 p 0 j with
 |[]=>r q l
 |z=>match JF a z with
  |some (f,o)=>M2 a n j o q l λu F=>M0 a n j m x (p|||1<<<f) u l (HP f F t) r
  |none=>Ly (λf o=>Kx a n j o q l λu y=>K1 (m.getD f 0) t y (M0 a n j m x (p|||1<<<f) u y (H2 (m.getD f 0) t) r)) z:=A
def L8:G Al->AE
 |[]=>R
 |o::a=>match o.op with
  |Ln _ _=>I
  |_=>L8 a
def S5:∀{l:G Al},L8 l=R->∀o∈l,∀j b,o.op≠Ln j b
 |[],_,o,a=>by cases a
 |p::r,f,o,a=>by
  unfold L8 at f;split at f
  ·cases f
  ·rename_i m;rcases C2.1 a with rfl|a
   ·exactλj b n=>m j b n
   ·exact S5 f o a
def RS(f:Am)(n:B)(a:G Al)(l:AP)(j:S)(m:AP->S->Prop):Prop:=
 match LA [] (D2 [] a) (H7 a a),L8 a with
 |true,R=>M0 f n a (D2 [] a) a.length 0 l j [] m
 |_,_=>Be
def E8(f:Am)(m:G Al)(j:G B)(a l:B):AE:=
 match m[a]? with
 |some o=>!(I' f o.op)&&D' (j.getD a 0) l
 |none=>I
def fH{u:Am}{bj:B}{f:G Al}{a4:BR}{a8:AG}{a3:II->C9->AG->Prop}{ar:AP->S->Prop}(cc:∀b7 ao an,¬a3 (Lj b7) ao an)
 (bu:∀ay a2 ax av,ar ay a2->CM a ay bj ax->BA a4 a8 a2 av->a3 Jh ax av)(b2:LA [] (D2 [] f) (H7 f f)=R)(cs:L8 f=R):
 ∀(ag aw:B)(bb:AP)(af:S)(Z:G (B×CQ))(N:G (B×(AG->Prop)))(m:Ai AE)(ao:C9)(an:AG),M0 u bj f (D2 [] f) ag aw bb af Z ar->Mu m aw f.length->HL f.toArray m->CM a bb bj ao->BA a4 a8 af an->
  (∀F∈Z,F.2.u af)->(∀p∈N,G7 (E8 u f (D2 [] f)) m p.1->∃z,p.2=Kt a4 a8 z/\(z=.t\/(p.1,z)∈Z))->Ij u.b f.toArray a3 (E8 u f (D2 [] f)) N ag m ao an:=by
 have cd:∀m,HL f.toArray m->∀ar j,m.getD ar I=R->E8 u f (D2 [] f) ar j=R->m.getD j I=R:=by
  intro m H ar j co U;unfold E8 at U;split at U
  ·simp only[GK] at U;exact Oa f m H ar j co U.2
  ·cases U
 have cg:∀m,HL f.toArray m->∀j∈FB EM f.toArray m,∀q∈FB EM f.toArray m,q≠j->∀a1 am,f.toArray[j]?=C a1->f.toArray[q]?=C am->a1.apart f.toArray am=R:=by
  intro m H j ap q aj bf a1 am bo a6;have bo:f[j]?=C a1:=by simpa using bo
  have a6:f[q]?=C am:=by simpa using a6
  have b5:(H7 f f)[j]?=C (H1 a1,Ge (GY f a1)):=by rw[Nj,bo];rfl
  have b6:(H7 f f)[q]?=C (H1 am,Ge (GY f am)):=by rw[Nj,a6];rfl
  have br:∀r a9,r∈FB EM f.toArray m->a9∈FB EM f.toArray m->r≠a9->D' ((D2 [] f).getD r 0) a9=R->Be:=by
   intro r a9 W cw bn ch;obtain⟨cv,c6,c4,_⟩:=GH.1 W;have a0:r<m.size:=by
    rcases Ck r m.size with F|F
    ·exact F
    ·simp[E6,QK.2 F] at cv
   have bl:(m.setIfInBounds r R).getD r I=R:=by simp[E6,a0]
   have az:=Oa f _ (H.b W) r a9 bl ch;rw[LQ I bn] at az;rw[Sx (GH.1 cw).1] at az;cases az
  rcases Ck j q with be|be
  ·rcases NW b2 q _ b6 j _ (by simpa using b5) (by simpa using be) with n|n
   ·exact O' n.1
   ·exact(br q j aj ap bf n).elim
  ·have be:q<j:=Y;rcases NW b2 j _ b5 q _ (by simpa using b6) (by simpa using be) with n|n
   ·exact O' n.2
   ·exact(br j q ap aj (Jb bf) n).elim
 have ct:∀(q:B)(o:Al) bk b,f.toArray[q]?=C o->o.op≠Ln bk b:=λq o bk b ak=>S5 cs o (FW (by simpa using ak)) bk b;intro ag
 induction ag with
 |zero=>
  intro aw bb af Z N m ao an n M bd a5 aq bh bc;rw[fJ] at n;split at n
  ·rename_i bp;refine⟨?_,bu _ _ _ _ n a5 aq⟩;rw[AEP];intro q aj;obtain⟨_,o,ak,_⟩:=GH.1 aj;have:=M.a.1 ⟨aj,by simpa using ak⟩;rw[bp] at this;cases this
  ·exact n.elim
 |succ ag b3=>
  intro aw bb af Z N m ao an n M bd a5 aq bh bc;rw[fI] at n;split at n
  ·rename_i bp;refine⟨λ_=>bu _ _ _ _ n a5 aq,λq aj=>?_⟩;obtain⟨_,o,ak,_⟩:=GH.1 aj;have:=M.a.1 ⟨aj,by simpa using ak⟩;rw[bp] at this;cases this
  ·rename_i c7 bn;split at n
   ·rename_i j o ah;obtain⟨cp,cr⟩:=RX ah;obtain⟨bt,ai⟩:=M.a.2 cp;have bs:f.toArray[j]?=C o:=by simpa using ai
    have a0:=(Cx.1 ai).1;obtain⟨v,ay,z,bl,az,b9,ca⟩:=VT (F:=a4) (L:=a8) n a5;have ce:∀ba,E8 u f (D2 [] f) j ba=I:=λba=>by unfold E8;rw[ai];simp[show I' u o.op=R from cr]
    refine ZC bs ct cc cd ce (λc0 ci cl q cm bf am a6=>cg c0 ci j cl q cm bf o am bs a6) N ag m ao an bd bt ca ⟨af,aq,az⟩ ?_ ?_
    ·refine b3 _ ay af (HP j z Z) _ _ _ an bl (M.b a0) (bd.b bt) b9 aq ?_ ?_
     ·intro F L;unfold HP at L;split at L
      ·exact bh F L
      ·rcases C2.1 L with rfl|L
       ·exact az
       ·exact bh F L
     ·intro p H al;have cy:∀F,F∈Z->F∈HP j z Z:=λF L=>by
       unfold HP;split
       ·exact L
       ·exact By _ L
      rcases C2.1 H with rfl|H
      ·refine⟨z,A,?_⟩;cases z with
       |t=>exact AT A
       |aa c3 c5 bj c2 v=>exact Ae (Bt ..)
       |y ag=>exact Ae (Bt ..)
      ·have bq:G7 (E8 u f (D2 [] f)) m p.1:=λr W=>al r (M' W);obtain⟨a7,au,x⟩:=bc p H bq;exact⟨a7,au,x.imp id (cy _)⟩
    ·intro ba cj al;obtain⟨a7,au,x⟩:=bc ba cj al;rw[au];refine⟨af,aq,?_⟩;rcases x with rfl|x
     ·trivial
     ·exact bh _ x
   ·rename_i ah;refine⟨λb8=>?_,λj ap=>?_⟩
    ·exfalso;cases bx:F9 aw 0 f with
     |nil=>exact bn bx
     |cons r c1=>
      have:=(M.a (p:=r.1) (f:=r.2)).2 (by rw[bx];exact Bt ..);rw[b8] at this;cases this.1
    ·obtain⟨_,o,ak,_⟩:=GH.1 ap;have ai:f[j]?=C o:=by simpa using ak
     have a0:=(Cx.1 ai).1;have cb:=Qx n (j,o) (M.a.1 ⟨ap,ai⟩);have cq:I' u o.op=I:=by
      cases L:I' u o.op with
      |false=>rfl
      |true=>
       exfalso;have bg:=M.a.1 ⟨ap,ai⟩;revert bg ah;generalize F9 aw 0 f=l;intro ah bg
       induction l with
       |nil=>cases bg
       |cons r c1 cx=>
        obtain⟨c8,c9⟩:=r;unfold JF at ah;split at ah
        ·cases ah
        ·rename_i W;rcases C2.1 bg with bm|bm
         ·cases bm;rw[L] at W;cases W
         ·exact cx ah bm
     have bi:=RT cb a5 aq (λax av=>(∀p∈N,G7 (E8 u f (D2 [] f)) (m.setIfInBounds j R) p.1->p.2 av)/\Ij u.b f.toArray a3 (E8 u f (D2 [] f)) N ag (m.setIfInBounds j R) ax av) a3 (by
      intro ay a2 ax av cn ck b1;obtain⟨cz,b4⟩:=PC cn;have bv:∀p∈N,G7 (E8 u f (D2 [] f)) (m.setIfInBounds j R) p.1->∃z,p.2=Kt a4 a8 z/\(z=.t\/(p.1,z)∈H2 ((D2 [] f).getD j 0) Z):=by
       intro p H al;have bq:G7 (E8 u f (D2 [] f)) m p.1:=λr W=>al r (M' W);obtain⟨a7,au,x⟩:=bc p H bq;refine⟨a7,au,x.imp id λx=>Ru x ?_⟩;have cu:j<m.size:=by rw[M.1];exact a0
       have:=al j (by simp[E6,cu]);unfold E8 at this;rw[ai] at this;simpa[cq] using this
      refine⟨λp H al=>?_,b3 _ ay a2 _ N _ ax av cz (M.b a0) (bd.b ap) ck b1 b4 bv⟩;obtain⟨a7,au,x⟩:=bv p H al;rw[au];refine⟨a2,b1,?_⟩;rcases x with rfl|x
      ·trivial
      ·exact b4 _ x)
     unfold wpOp;rw[ak];dsimp only;split
     ·rename_i U;rw[A8 U] at bi;exact AT bi
     ·rename_i U;rw[A1 U] at bi;exact bi
def fN{q:Am}{x af:B}{f:Ai Al}{t:AP}{r:S}{p:AP->S->Prop}(n:RS q x f.toList t r p){z:BR}{L l:AG}{j:C9}(V:CM a t x j)(Z:BA z L r l){m:II->C9->AG->Prop}(U:∀M j l,¬m (Lj M) j l)
 (W:∀G y F H,p G y->CM a G x F->BA z L y H->m Jh F H):(OK af f R).wp q.b m j l:=by
 unfold RS at n;split at n
 ·rename_i N P;refine ADx q.af ?_;have Q:=fH (a3:=m) U W N P f.toList.length 0 t r [] [] (Mo f.size I) j l.drew n ⟨Y1,λaa=>by
   simp only[Tc];by_cases u:aa<f.size<;>simp[E6,u]⟩ (λp o _ Y=>by
    by_cases u:p<f.size<;>simp[E6,u] at Y) V Z.t Y1 Y1
  have:=T4 _ _ _ _ Q;simpa using this
 ·exact n.elim
end
section
variable{a:G QW}
def Fm:AP->AP->Prop
 |[],_=>True
 |(j,v)::f,a=>a.b j=C v/\Fm f a
def YW{j:AP}:∀{l:AP},Fm l j->∀f v,l.b f=C v->j.b f=C v
 |[],_,f,v,a=>by cases a
 |(o,p)::r,m,f,v,a=>by
  unfold AP.b at a;split at a
  ·rename_i n;have:=QG n;subst this;cases a;exact m.1
  ·exact YW m.2 f v a
def CM.h{l m:AP}{n:B}{j:C9}(f:CM a l n j)(p:Fm m l):CM a m n j:=⟨f.e,f.f,λo v q=>f.d o v (YW p o v q)⟩
structure EY(step:AP->S->(AP->S->Prop)->Prop)(f:AP)(a:S):Prop where
 j:∀l:AP->S->Prop,(∀f a(o:AP->S->Prop),(∀n m,o n m->l n m)->step f a o->l f a)->(∀f n a,Fm n f->l n a->l f a)->(∀f a m,(∀p q,D5 (a.map BL.y) p q->D5 (m.map BL.y) p q)->l f m->l f a)->l f a
def EY.b{step:AP->S->(AP->S->Prop)->Prop}{f:AP}{a:S}(m:step f a (EY step)):EY step f a:=
 ⟨λl j n o=>j f a (EY step) (λr q p=>p.j l j n o) m⟩
def EY.i{step:AP->S->(AP->S->Prop)->Prop}{f:AP}{a:S}(j:AP)(q:Fm j f)(n:EY step j a):EY step f a:=
 ⟨λm o l p=>l f j a q (n.j m o l p)⟩
def EY.h{step:AP->S->(AP->S->Prop)->Prop}{j:AP}{a:S}(f:S)(t:∀l n,D5 (a.map BL.y) l n->D5 (f.map BL.y) l n)(p:EY step j f):EY step j a:=
 ⟨λo q r m=>m j a f t (p.j o q r m)⟩
structure Gv(x:Am)(q:B)(L:Li)(N:AP)(z:S)(y F:AP->S->Prop)(H:B->AP->S->Prop):Prop where
 e:∀{n:G QW}(p:C9)(o:BR)(t r:AG)(m:II->C9->AG->Prop),CM n N q p->BA o t z r->(∀M p r,¬m (Lj M) p r)->
  (∀j a f l,y j a->CM n j q f->BA o t a l->m Jh f l)->(∀j a f l,F j a->CM n j q f->BA o t a l->m .ret f l)->
  (∀u j a f l,H u j a->CM n j q f->BA o t a l->m (.exit u) f l)->L.wp x.b m p r
def ND(o:Am)(p:B)(r:Li):AP->S->(AP->S->Prop)->(AP->S->Prop)->(B->AP->S->Prop)->Prop:=
 Code.rec (motive:=λ_=>AP->S->(AP->S->Prop)->(AP->S->Prop)->(B->AP->S->Prop)->Prop)
  (λa f j _ _=>j a f)
  (λ_ u z a f j _ _=>match z with
   |false=>VQ o p u.toList u.toList a f j
   |true=>RS o p u.toList a f j)
  (λ_ _ t n a f j l m=>t a f (λa f=>n a f j l m) l m)
  (λr _ _ t n a f j l m=>Dl a r λx=>match x with
   |X x=>IK x (t a f j l m) (n a f j l m)
   |_=>Be)
  (λG _ n a f j l m=>n a f j l λq a f=>match TX q G with
   |true=>j a f
   |false=>m q a f)
  (λ_ n a f _ l m=>EY (λa f y=>n a f y l m) a f)
  (λF L N P _ _ a f j l m=>Gv o p (aD F L N P) a f j l m)
  (λq a f _ _ m=>m q a f)
  (λ_ n a f j l m=>n a f j l m)
  (λ_ a f j _ _=>j a f)
  (λH a f j l m=>Gv o p (.goto H) a f j l m)
  (λa f _ l _=>l a f)
  (λM a f j l m=>Gv o p (.refuse M) a f j l m) r
def H3{ao:Am}{ak:B}{Y:BR}{Z:AG}:∀(aw:Li){x:AP}{u:S}{F H:AP->S->Prop}{L:B->AP->S->Prop},ND ao ak aw x u F H L->∀{f:C9}{j:AG}{o:II->C9->AG->Prop},CM a x ak f->BA Y Z u j->(∀P f j,¬o (Lj P) f j)->
 (∀N M y z,F N M->CM a N ak y->BA Y Z M z->o Jh y z)->(∀N M y z,H N M->CM a N ak y->BA Y Z M z->o .ret y z)->
 (∀aq N M y z,L aq N M->CM a N ak y->BA Y Z M z->o (.exit aq) y z)->aw.wp ao.b o f j
 |.skip,x,u,F,H,L,n,f,j,o,m,l,q,p,r,t=>wp_skip (p _ _ _ _ n m l)
 |.label _,x,u,F,H,L,n,f,j,o,m,l,q,p,r,t=>wp_label (p _ _ _ _ n m l)
 |OK ay az I,x,u,F,H,L,n,f,j,o,m,l,q,p,r,t=>wp_region_list (by
  have:=VR (l:=o) p az.toList x u f j n m l;simpa using this)
 |OK ay az R,x,u,F,H,L,n,f,j,o,m,l,q,p,r,t=>fN n m l q p
 |.seq au av,x,u,F,H,L,n,f,j,o,m,l,q,p,r,t=>by
  refine wp_seq (H3 au n m l (λP f j=>q P f j) ?_ r t);intro N M y z aa ah aj;exact H3 av aa ah aj q p r t
 |.cond aw au av,x,u,F,H,L,n,f,j,o,m,l,q,p,r,t=>by
  obtain⟨v,a9,n⟩:=Dl.b n;split at n
  ·rename_i bh;obtain⟨a8,a4⟩:=n;exact wp_cond_split (m.b a9) (λaf=>H3 au (a8 af) m l q p r t) (λaf=>H3 av (a4 af) m l q p r t)
  ·exact n.elim
 |.block ay b,x,u,F,H,L,n,f,j,o,m,l,q,p,r,t=>by
  refine wp_block (H3 b n m l (λP f j=>q P f j) p r ?_);intro aq N M y z aa ah aj;dsimp only[Exit.inBlock];split at aa
  ·rename_i am;rw[A8 (QG am)];exact p _ _ _ _ aa ah aj
  ·rename_i am;rw[A1 (λaf=>by subst af;simp at am)];exact t _ _ _ _ _ aa ah aj
 |.loop b,x,u,F,H,L,n,f,j,o,m,l,q,p,r,t=>by
  have ba:=n.j (λx u=>∀f j,CM a x ak f->BA Y Z u j->∀(U:QY)(V:G Item)(Q:G QY),∃W y z,o W y z/\Arrives ao.b (lone (U.at f (.code b::Ke b::V)) Q j) U V Q W y z) ?_ ?_ ?_
  ·intro U V Q;obtain⟨W,y,z,af,bc⟩:=ba f j m l U V Q;exact⟨W,y,z,af,.of_steps (.one step_loop) bc⟩
  ·intro x u bd a1 a6 f j m l U V Q;have am:=H3 b (o:=Exit.then (λy z=>∀(U:QY)(V:G Item)(Q:G QY),∃W ap ar,o W ap ar/\Arrives ao.b (lone (U.at y (.code b::Ke b::V)) Q z) U V Q W ap ar) o) a6 m l (λP f j=>q P f j) (λN M y z aa ah aj=>a1 _ _ aa _ _ ah aj) r t;obtain⟨W,al,an,ai,ag⟩:=am U (Ke b::V) Q;cases W with
   |normal=>
    obtain⟨a0,ap,ar,a5,a2⟩:=ai U V Q;exact⟨a0,ap,ar,a5,.of_steps (Steps.trans ag (.one step_inLoop)) a2⟩
   |exit ay=>exact⟨_,al,an,ai,.pass (x:=Ke b) A (λ_ _=>AT Y1) ag⟩
   |goto bb=>exact⟨_,al,an,ai,.pass (x:=Ke b) A (λ_ _=>AT Y1) ag⟩
   |ret=>exact⟨_,al,an,ai,.pass (x:=Ke b) A (λ_ _=>AT Y1) ag⟩
   |panic P=>exact⟨_,al,an,ai,.pass (x:=Ke b) A (λ_ _=>AT Y1) ag⟩
   |outgrown=>exact⟨_,al,an,ai,.pass (x:=Ke b) A (λ_ _=>AT Y1) ag⟩
  ·intro x N u a7 ax f j m l;exact ax f j (m.h a7) l
  ·intro x u M a3 ax f j m l;exact ax f j m ⟨⟨a3 _ _ l.b.f,l.b.b⟩,l.g⟩
 |.exit aq,x,u,F,H,L,n,f,j,o,m,l,q,p,r,t=>wp_exit (t _ _ _ _ _ n m l)
 |.ret,x,u,F,H,L,n,f,j,o,m,l,q,p,r,t=>wp_ret (r _ _ _ _ n m l)
 |.scope b,x,u,F,H,L,n,f,j,o,m,l,q,p,r,t=>
  wp_scope_straight (H3 b n m l (λP f j=>q P f j) p r t)
 |aD be bf au av,x,u,F,H,L,n,f,j,o,m,l,q,p,r,t=>Gv.e n f Y Z j o m l q p r t
 |.goto bb,x,u,F,H,L,n,f,j,o,m,l,q,p,r,t=>Gv.e n f Y Z j o m l q p r t
 |.refuse bg,x,u,F,H,L,n,f,j,o,m,l,q,p,r,t=>Gv.e n f Y Z j o m l q p r t
def Ks:B->G M->AP
 |_,[]=>[]
 |a,v::f=>(a,v)::Ks (a+1) f
def HV(f:Am)(j:AP)(l:S):G ZI->(G M->Prop)->Prop
 |[],a=>a []
 |.tmp n::m,a=>match j.b n with
  |some v=>HV f j l m λo=>a (v::o)
  |none=>Be
 |.cell n p::m,a=>match j.b n,f.e p,f.c p with
  |some (T (C ⟨r,u,E⟩)),C t,C q=>Ms l r u t.size (J6 q) λv=>HV f j l m λo=>a (v::o)
  |_,_,_=>Be
def FA:G M->M
 |[v]=>v
 |a=>AL a.toArray
def Oo(j:Am)(f:Fr)(args:G M)(a:S)(n:M->S->Prop):Prop:=
 match f.body with
 |none=>Be
 |some o=>match La args.length f.ntmps with
  |true=>ND j f.ntmps o (Ks 0 args) a (λl a=>HV j l a f.results.toList λm=>n (FA m) a) (λl a=>HV j l a f.results.toList λm=>n (FA m) a) (λ_ _ _=>Be)
  |false=>Be
def Ob:∀{l:G M}{a f:B}{v:M},(Ks a l).b f=C v->a<=f/\l[f-a]?=C v
 |[],a,f,v,j=>by cases j
 |p::r,a,f,v,j=>by
  unfold Ks AP.b at j;split at j
  ·rename_i n;have:=QG n;subst this;cases j;exact⟨AI _,Y1⟩
  ·obtain⟨o,m⟩:=Ob j;refine⟨Y,?_⟩;rw[show f-a=(f-(a+1))+1 by omega,IC];exact m
def KD(f:Ai M):ZI->Sem M
 |.tmp a=>pure (f.getD a Cw)
 |.cell b a=>do TK a (<-ZP (f.getD b Cw))
def NE{l:Am}{W:AP}{U:S}{an:B}{m:C9}{ag:BR}{ao j:AG}(t:CM a W an m)(F:BA ag ao U j):∀{aa:G ZI}{q:G M->Prop},HV l W U aa q->
 ∃p,q p/\(aa.mapM (KD m.tmps):Sem (G M)).run l.b j=Ao p j
 |[],q,f=>⟨[],f,A⟩
 |.tmp o::r,q,f=>by
  unfold HV at f;split at f
  ·rename_i v H;obtain⟨p,x,y⟩:=NE t F f;refine⟨v::p,x,?_⟩;have z:m.tmps.getD o Cw=v:=by have:=t.d o v H;simp[FY] at this;obtain⟨L,N⟩:=this;simp[E6,L,N]
   rw[Zh,Ak];have u:(KD m.tmps (.tmp o)).run l.b j=Ao v j:=by simp only[KD,z];rfl
   rw[u];simp only[Bp];rw[Ak,y];rfl
  ·exact f.elim
 |.cell b o::r,q,f=>by
  unfold HV at f;split at f
  ·rename_i Y af ar ah H ak ai;obtain@⟨aq,ap,aj,v,al,f⟩:=f;obtain⟨p,x,y⟩:=NE t F f;refine⟨v::p,x,?_⟩;have z:m.tmps.getD b Cw=T (C ⟨Y,af,E⟩):=by have:=t.d b _ H;simp[FY] at this;obtain⟨L,N⟩:=this;simp[E6,L,N]
   have n:=WO l.b (BA.h (p:=aj) F) al;have am:(TK o ⟨Y,af,E⟩).run l.b j=Ao v j:=by
    rw[TK,Ak,l.y ai];simp only[Bp];cases Z:J6 ah with
    |true=>
     rw[Z] at n;simp only[FG] at n⊢;rw[Ak,l.g ak];simp only[Bp];rw[n]
    |false=>
     rw[Z] at n;simp only[QU,Hp] at n⊢;rw[n]
   rw[Zh,Ak];have u:(KD m.tmps (.cell b o)).run l.b j=Ao v j:=by simp only[KD,z,ZP,HD];exact am
   rw[u];simp only[Bp];rw[Ak,y];rfl
  ·exact f.elim
def A9.af{o:Am}{U:B}{j:Fr}{args:G M}{N:S}{z:M->S->Prop}(ai:o.h U=C j)(p:Oo o j args N z):A9 o U args N z:=by
 refine⟨λH L ap al=>?_⟩;unfold Oo at p;split at p
 ·exact p.elim
 rename_i aa ah;split at p;rotate_left
 ·exact p.elim
 rename_i Y;have Y:args.length<=j.ntmps:=by simpa using Y
 have W:∀m f a l,(HV o m f j.results.toList λn=>z (FA n) f)->CM [] m j.ntmps a->BA H L f l->
  a.defers=[]/\∃v,(TM j a.tmps).run o.b l=Ao v l/\∃Z F,BT v=BT Z/\z Z F/\BA H L F l:=by
  intro m f a l q t x;obtain⟨n,ag,y⟩:=NE t x q;refine⟨t.e,FA n,?_,_,f,A,ag,x⟩;have af:TM j a.tmps=(do let n<-j.results.mapM (KD a.tmps);pure (if p:n.size=1 then n[0] else AL n)):=A;rw[af,Tf,Ak,ZK];rw[y];simp only[Bp]
  match n with
  |[]=>rfl
  |[v]=>rfl
  |v::u::r=>rfl
 refine ADe (o.ab _ _ ai) ah (H3 (Y:=H) (Z:=L) aa p (o:=bodyPost o.b j _) ⟨A,Y5,λao v am=>?_⟩ al (λar aq ap an=>?_) ?_ ?_ ?_)
 ·obtain⟨_,y⟩:=Ob am;rw[Ta] at y;have ak:=(Cx.1 y).1;show(args.toArray++Mo (j.ntmps-args.toArray.size) Cw)[ao]?=C v;rw[Te (by simpa using ak)];simpa using y
 ·obtain⟨_,v,F,aj,_⟩:=an;cases aj
 ·intro m f a l q t x;exact W m f a l q t x
 ·intro m f a l q t x;exact W m f a l q t x
 ·intro au m f a l q;exact q.elim
def Dn.t{o:BR}{t m:AG}{u x:G C0}(p:Dn o t (u++x) m):
 ∃f:BR,(∀l,f l->o.a t m l)/\D5 u f m/\∀j n,D5 n (f.a m j) j->Gs f m j->Dn o t (n++x) j:=by
 obtain⟨f,y,z,B⟩:=p.f.i;have P:=p.b.a;refine⟨f,λl r=>(y l r).1,z,λj n F q=>⟨(B j n F q).f λl r N=>?_,p.b.g q λL M H=>?_⟩⟩
 ·have:=q.a;rcases r with(a|a)|a
  ·exact AT a
  ·exact Ae ⟨a.1,Y⟩
  ·exact Ae ⟨Y,a.2⟩
 ·rcases(y L H).1 with a|a
  ·exact a
  ·omega
def A9.z{f:Am}{l:B}{args:G M}{j:S}{m n:M->S->Prop}(p:A9 f l args j m)(u:∀v a,m v a->n v a):A9 f l args j n:=
 ⟨λo z y x=>(p.ag o z y x).mono λF H⟨v,a,q,r,t⟩=>⟨v,a,q,u _ _ r,t⟩⟩
def A9.ai{o:Am}{r:B}{args:G M}{p n j:S}{x u:M->S->Prop}(z:A9 o r args n x)(U:p.Perm (n++j))(P:∀v a,x v a->u v (a++j)):A9 o r args p u:=by
 refine⟨λy Y m f=>?_⟩;have V:Dn y Y (n.map BL.y++j.map BL.y) m:=by have:=(f.j U).b;rwa[CU] at this
 obtain⟨q,F,H,L⟩:=Dn.t V;have N:OS q m:=⟨λl=>by
  rcases F _ l with l|l
  ·exact f.g.f l
  ·have:=f.g.b.b;omega,f.s⟩
 refine(z.ag q m m ⟨Dn.s H,N⟩).mono ?_;rintro Z W ⟨v,a,rfl,Q,t⟩;refine⟨v,a++j,A,P _ _ Q,?_,f.g⟩;have:=L W (a.map BL.y) t.b.f t.b.b;rwa[CU]
def A9.ar{j:Am}{o:B}{args:G M}{l m:S}{p:M->S->Prop}(t:∀n a,D5 (l.map BL.y) n a->D5 (m.map BL.y) n a)(r:A9 j o args m p):A9 j o args l p:=
 ⟨λq u a f=>r.ag q u a ⟨⟨t _ _ f.b.f,f.b.b⟩,f.g⟩⟩
end
section
variable{a:G QW}
structure Ql(o:AP->S->Prop)(n:AP)(m:S):Prop where
 b:∃j a,Fm j n/\(∀f l,D5 (m.map BL.y) f l->D5 (a.map BL.y) f l)/\o j a
def Kv(p:Am)(y:B)(n:G Al)(u:G B)(L:B):B->AP->S->G (B×CQ)->(AP->S->Prop)->Prop:=
 AEy (motive:=λ_=>B->AP->S->G (B×CQ)->(AP->S->Prop)->Prop)
  (λj l a _ m=>match F9 j 0 n with
   |[]=>m l a
   |_=>Be)
  (λ_ x j l a r m=>match F9 j 0 n with
   |[]=>m l a
   |z=>match JF p z with
    |some (f,o)=>M2 p y n o l a λq M=>x (j|||1<<<f) q a (HP f M r) m
    |none=>Ly (λf o=>Kx p y n o l a λq F=>Ql (λH t=>K1 (u.getD f 0) r t (x (j|||1<<<f) H t (H2 (u.getD f 0) r) m)) q F) z) L
def fG(n:Am)(p:B)(m:G Al)(o:G B)(f:B)(j:AP)(a:S)(q:G (B×CQ))(l:AP->S->Prop):Kv n p m o 0 f j a q l=match F9 f 0 m with
 |[]=>l j a
 |_=>Be:=A
def fF(a:Am)(n:B)(j:G Al)(m:G B)(x p:B)(q:AP)(l:S)(t:G (B×CQ))(r:AP->S->Prop):Kv a n j m (x+1) p q l t r=match F9 p 0 j with
 |[]=>r q l
 |z=>match JF a z with
  |some (f,o)=>M2 a n j o q l λu L=>Kv a n j m x (p|||1<<<f) u l (HP f L t) r
  |none=>Ly (λf o=>Kx a n j o q l λu F=>Ql (λH y=>K1 (m.getD f 0) t y (Kv a n j m x (p|||1<<<f) H y (H2 (m.getD f 0) t) r)) u F) z:=A
def Oq(f:Am)(n:B)(a:G Al)(l:AP)(j:S)(m:AP->S->Prop):Prop:=
 match LA [] (D2 [] a) (H7 a a),L8 a with
 |true,R=>Kv f n a (D2 [] a) a.length 0 l j [] m
 |_,_=>Be
def fE{u:Am}{bj:B}{f:G Al}{ax:BR}{a3:AG}{a4:II->C9->AG->Prop}{au:AP->S->Prop}(ch:∀ca ap an,¬a4 (Lj ca) ap an)
 (b2:∀a5 bk ay ao,au a5 bk->CM a a5 bj ay->BA ax a3 bk ao->a4 Jh ay ao)(b5:LA [] (D2 [] f) (H7 f f)=R)(cv:L8 f=R):
 ∀(ag aw:B)(bb:AP)(af:S)(Z:G (B×CQ))(N:G (B×(AG->Prop)))(m:Ai AE)(ap:C9)(an:AG),Kv u bj f (D2 [] f) ag aw bb af Z au->Mu m aw f.length->HL f.toArray m->CM a bb bj ap->BA ax a3 af an->
  (∀F∈Z,F.2.u af)->(∀p∈N,G7 (E8 u f (D2 [] f)) m p.1->∃z,p.2=Kt ax a3 z/\(z=.t\/(p.1,z)∈Z))->Ij u.b f.toArray a4 (E8 u f (D2 [] f)) N ag m ap an:=by
 have ci:∀m,HL f.toArray m->∀au j,m.getD au I=R->E8 u f (D2 [] f) au j=R->m.getD j I=R:=by
  intro m H au j cr U;unfold E8 at U;split at U
  ·simp only[GK] at U;exact Oa f m H au j cr U.2
  ·cases U
 have ck:∀m,HL f.toArray m->∀j∈FB EM f.toArray m,∀q∈FB EM f.toArray m,q≠j->∀a2 am,f.toArray[j]?=C a2->f.toArray[q]?=C am->a2.apart f.toArray am=R:=by
  intro m H j aq q aj bf a2 am bs a7;have bs:f[j]?=C a2:=by simpa using bs
  have a7:f[q]?=C am:=by simpa using a7
  have b8:(H7 f f)[j]?=C (H1 a2,Ge (GY f a2)):=by rw[Nj,bs];rfl
  have b9:(H7 f f)[q]?=C (H1 am,Ge (GY f am)):=by rw[Nj,a7];rfl
  have bv:∀r a9,r∈FB EM f.toArray m->a9∈FB EM f.toArray m->r≠a9->D' ((D2 [] f).getD r 0) a9=R->Be:=by
   intro r a9 W c0 br cl;obtain⟨cz,da,c8,_⟩:=GH.1 W;have a0:r<m.size:=by
    rcases Ck r m.size with F|F
    ·exact F
    ·simp[E6,QK.2 F] at cz
   have bn:(m.setIfInBounds r R).getD r I=R:=by simp[E6,a0]
   have az:=Oa f _ (H.b W) r a9 bn cl;rw[LQ I br] at az;rw[Sx (GH.1 c0).1] at az;cases az
  rcases Ck j q with be|be
  ·rcases NW b5 q _ b9 j _ (by simpa using b8) (by simpa using be) with n|n
   ·exact O' n.1
   ·exact(bv q j aj aq bf n).elim
  ·have be:q<j:=Y;rcases NW b5 j _ b8 q _ (by simpa using b9) (by simpa using be) with n|n
   ·exact O' n.2
   ·exact(bv j q aq aj (Jb bf) n).elim
 have cw:∀(q:B)(o:Al) bm b,f.toArray[q]?=C o->o.op≠Ln bm b:=λq o bm b ak=>S5 cv o (FW (by simpa using ak)) bm b;intro ag
 induction ag with
 |zero=>
  intro aw bb af Z N m ap an n M bd a6 ar bh bc;rw[fG] at n;split at n
  ·rename_i bt;refine⟨?_,b2 _ _ _ _ n a6 ar⟩;rw[AEP];intro q aj;obtain⟨_,o,ak,_⟩:=GH.1 aj;have:=M.a.1 ⟨aj,by simpa using ak⟩;rw[bt] at this;cases this
  ·exact n.elim
 |succ ag b6=>
  intro aw bb af Z N m ap an n M bd a6 ar bh bc;rw[fF] at n;split at n
  ·rename_i bt;refine⟨λ_=>b2 _ _ _ _ n a6 ar,λq aj=>?_⟩;obtain⟨_,o,ak,_⟩:=GH.1 aj;have:=M.a.1 ⟨aj,by simpa using ak⟩;rw[bt] at this;cases this
  ·rename_i db br;split at n
   ·rename_i j o ah;obtain⟨cs,cu⟩:=RX ah;obtain⟨b1,ai⟩:=M.a.2 cs;have bx:f.toArray[j]?=C o:=by simpa using ai
    have a0:=(Cx.1 ai).1;obtain⟨v,a5,z,bn,az,cd,ce⟩:=VT (F:=ax) (L:=a3) n a6;have cj:∀ba,E8 u f (D2 [] f) j ba=I:=λba=>by unfold E8;rw[ai];simp[show I' u o.op=R from cu]
    refine ZC bx cw ch ci cj (λc4 cm cp q cq bf am a7=>ck c4 cm j cp q cq bf o am bx a7) N ag m ap an bd b1 ce ⟨af,ar,az⟩ ?_ ?_
    ·refine b6 _ a5 af (HP j z Z) _ _ _ an bn (M.b a0) (bd.b b1) cd ar ?_ ?_
     ·intro F L;unfold HP at L;split at L
      ·exact bh F L
      ·rcases C2.1 L with rfl|L
       ·exact az
       ·exact bh F L
     ·intro p H al;have c2:∀F,F∈Z->F∈HP j z Z:=λF L=>by
       unfold HP;split
       ·exact L
       ·exact By _ L
      rcases C2.1 H with rfl|H
      ·refine⟨z,A,?_⟩;cases z with
       |t=>exact AT A
       |aa c7 c9 bj c6 v=>exact Ae (Bt ..)
       |y ag=>exact Ae (Bt ..)
      ·have bu:G7 (E8 u f (D2 [] f)) m p.1:=λr W=>al r (M' W);obtain⟨a8,av,x⟩:=bc p H bu;exact⟨a8,av,x.imp id (c2 _)⟩
    ·intro ba cn al;obtain⟨a8,av,x⟩:=bc ba cn al;rw[av];refine⟨af,ar,?_⟩;rcases x with rfl|x
     ·trivial
     ·exact bh _ x
   ·rename_i ah;refine⟨λcc=>?_,λj aq=>?_⟩
    ·exfalso;cases b4:F9 aw 0 f with
     |nil=>exact br b4
     |cons r c5=>
      have:=(M.a (p:=r.1) (f:=r.2)).2 (by rw[b4];exact Bt ..);rw[cc] at this;cases this.1
    ·obtain⟨_,o,ak,_⟩:=GH.1 aq;have ai:f[j]?=C o:=by simpa using ak
     have a0:=(Cx.1 ai).1;have cg:=Qx n (j,o) (M.a.1 ⟨aq,ai⟩);have ct:I' u o.op=I:=by
      cases L:I' u o.op with
      |false=>rfl
      |true=>
       exfalso;have bg:=M.a.1 ⟨aq,ai⟩;revert bg ah;generalize F9 aw 0 f=l;intro ah bg
       induction l with
       |nil=>cases bg
       |cons r c5 c1=>
        obtain⟨dd,de⟩:=r;unfold JF at ah;split at ah
        ·cases ah
        ·rename_i W;rcases C2.1 bg with bp|bp
         ·cases bp;rw[L] at W;cases W
         ·exact c1 ah bp
     have bi:=RT cg a6 ar (λay ao=>(∀p∈N,G7 (E8 u f (D2 [] f)) (m.setIfInBounds j R) p.1->p.2 ao)/\Ij u.b f.toArray a4 (E8 u f (D2 [] f)) N ag (m.setIfInBounds j R) ay ao) a4 (by
      intro a5 bk ay ao bq bo a1;obtain⟨cb,bl,cx,co,bq⟩:=bq.b;have bo:=bo.h cx;have a1:BA ax a3 bl ao:=⟨⟨co _ _ a1.b.f,a1.b.b⟩,a1.g⟩;obtain⟨c3,b7⟩:=PC bq;have b3:∀p∈N,G7 (E8 u f (D2 [] f)) (m.setIfInBounds j R) p.1->∃z,p.2=Kt ax a3 z/\(z=.t\/(p.1,z)∈H2 ((D2 [] f).getD j 0) Z):=by
       intro p H al;have bu:G7 (E8 u f (D2 [] f)) m p.1:=λr W=>al r (M' W);obtain⟨a8,av,x⟩:=bc p H bu;refine⟨a8,av,x.imp id λx=>Ru x ?_⟩;have cy:j<m.size:=by rw[M.1];exact a0
       have:=al j (by simp[E6,cy]);unfold E8 at this;rw[ai] at this;simpa[ct] using this
      refine⟨λp H al=>?_,b6 _ cb bl _ N _ ay ao c3 (M.b a0) (bd.b aq) bo a1 b7 b3⟩;obtain⟨a8,av,x⟩:=b3 p H al;rw[av];refine⟨bl,a1,?_⟩;rcases x with rfl|x
      ·trivial
      ·exact b7 _ x)
     unfold wpOp;rw[ak];dsimp only;split
     ·rename_i U;rw[A8 U] at bi;exact AT bi
     ·rename_i U;rw[A1 U] at bi;exact bi
def fM{q:Am}{x af:B}{f:Ai Al}{t:AP}{r:S}{p:AP->S->Prop}(n:Oq q x f.toList t r p){z:BR}{L l:AG}{j:C9}(V:CM a t x j)(Z:BA z L r l){m:II->C9->AG->Prop}(U:∀M j l,¬m (Lj M) j l)
 (W:∀G y F H,p G y->CM a G x F->BA z L y H->m Jh F H):(OK af f R).wp q.b m j l:=by
 unfold Oq at n;split at n
 ·rename_i N P;refine ADx q.af ?_;have Q:=fE (a4:=m) U W N P f.toList.length 0 t r [] [] (Mo f.size I) j l.drew n ⟨Y1,λaa=>by
   simp only[Tc];by_cases u:aa<f.size<;>simp[E6,u]⟩ (λp o _ Y=>by
    by_cases u:p<f.size<;>simp[E6,u] at Y) V Z.t Y1 Y1
  have:=T4 _ _ _ _ Q;simpa using this
 ·exact n.elim
def Gv.b{f:Am}{p:B}{a:Li}{o:AP}{l:S}{j m:AP->S->Prop}{n:B->AP->S->Prop}(q:ND f p a o l j m n):Gv f p a o l j m n:=
 ⟨λH G M L F y z t r u x=>H3 a q y z t r u x⟩
def Gv.c{j:Am}{o:B}{z F:Li}{f:AP}{a:S}{q l:AP->S->Prop}{m:B->AP->S->Prop}(M:Gv j o z f a (λf a=>Gv j o F f a q l m) l m):Gv j o (.seq z F) f a q l m:=
 ⟨λn r y p G Q V t P u x=>wp_seq (M.e n r y p _ Q V (λL n p=>t L n p) (λaa Z H Y N U W=>N.e H r y Y G U W t P u x) u x)⟩
def Gv.d{l:Am}{q:B}{p:Li}{f:AP}{a:S}{m n:AP->S->Prop}{o:B->AP->S->Prop}(x:Ql (λf a=>Gv l q p f a m n o) f a):Gv l q p f a m n o:=
 ⟨λu t Q P r N j H G L M=>by
  obtain⟨V,U,y,z,F⟩:=x.b;exact F.e u t Q P r (N.h y) ⟨⟨z _ _ j.b.f,j.b.b⟩,j.g⟩ H G L M⟩
def Gv.g{a:Am}{m y:B}{n:Ai Al}{l:AP}{j:S}{f o:AP->S->Prop}{p:B->AP->S->Prop}(q:Oq a m n.toList l j f):Gv a m (OK y n R) l j f o p:=
 ⟨λG F N M z u x t r H L=>fM q u x t r⟩
def A9.aj{n:Am}{W:B}{a:Fr}{args:G M}{o:S}{z:M->S->Prop}(ai:n.h W=C a){U:Li}(ah:a.body=C U)(au:args.length<=a.ntmps)(Z:Gv n a.ntmps U (Ks 0 args) o (λL o=>HV n L o a.results.toList λf=>z (FA f) o) (λL o=>HV n L o a.results.toList λf=>z (FA f) o) (λ_ _ _=>Be)):A9 n W args o z:=by
 refine⟨λH N ap al=>?_⟩;have Y:∀p l j m,(HV n p l a.results.toList λf=>z (FA f) l)->CM [] p a.ntmps j->BA H N l m->
  j.defers=[]/\∃v,(TM a j.tmps).run n.b m=Ao v m/\∃aa F,BT v=BT aa/\z aa F/\BA H N F m:=by
  intro p l j m q t x;obtain⟨f,ag,y⟩:=NE t x q;refine⟨t.e,FA f,?_,_,l,A,ag,x⟩;have af:TM a j.tmps=(do let f<-a.results.mapM (KD j.tmps);pure (if Z:f.size=1 then f[0] else AL f)):=A;rw[af,Tf,Ak,ZK];rw[y];simp only[Bp]
  match f with
  |[]=>rfl
  |[v]=>rfl
  |v::u::r=>rfl
 refine ADe (n.ab _ _ ai) ah (Z.e _ H N _ (bodyPost n.b a _) ⟨A,Y5,λao v am=>?_⟩ al (λar aq ap an=>?_) ?_ ?_ ?_)
 ·obtain⟨_,y⟩:=Ob am;rw[Ta] at y;have ak:=(Cx.1 y).1;show(args.toArray++Mo (a.ntmps-args.toArray.size) Cw)[ao]?=C v;rw[Te (by simpa using ak)];simpa using y
 ·obtain⟨_,v,F,aj,_⟩:=an;cases aj
 ·intro p l j m q t x;exact Y p l j m q t x
 ·intro p l j m q t x;exact Y p l j m q t x
 ·intro av p l j m q;exact q.elim
end
variable{yh:Type}
def L4{a m:G yh}{f:yh}(j:l<a.length):(a++m).getD l f=a.getD l f:=by
 rw[AY,AY,Di j]
def M6{a j:G yh}{f:yh}(m:a.length<=l):(a++j).getD l f=j.getD (l-a.length) f:=by
 rw[AY,AY,G3 m]
def AS(v f:B):G B:=(AH f).map (λa=>v/256^a%256)
def BK(v a:B):(AS v a).length=a:=by simp[AS]
def WP(v a:B):AS v (a+1)=AS v a++[v/256^a%256]:=by simp[AS,List.range_succ]
def Z{P:Prop}(h:P:=by decide):P:=h
def H'(v j:B):∀a∈AS v j,a<256:=by
 intro a f;simp only[AS,CI] at f;obtain⟨l,_,rfl⟩:=f;exact Ml _ Z
def MC(v f a:B)(j:a<f):(AS v f).getD a 0=v/256^a%256:=by simp[AS,Cp,j]
def Az(b:G B):B->B
 |0=>0
 |a+1=>Az b a+b.getD a 0*256^a
def Jv{b j:G B}:∀a,(∀f,f<a->b.getD f 0=j.getD f 0)->Az b a=Az j a
 |0,_=>A
 |a+1,l=>by rw[Az,Az,Jv a (λf m=>l f Y),l a Y]
def Jw(v:B):∀a,Az (AS v a) a=v%256^a:=by
 have j:∀m a,a<=m->Az (AS v m) a=v%256^a:=by
  intro m a
  induction a with
  |zero=>intro _;simp[Az,Nat.mod_one]
  |succ a f=>
   intro l;rw[Az,f Y,MC _ _ _ Y,IF,Nat.mod_mul,Nat.mul_comm]
 exactλa=>j a a (AI _)
def Vx{b:G B}(f:∀j,b.getD j 0<256):∀a,Az b a<256^a
 |0=>by simp[Az]
 |a+1=>by
  have l:=Vx f a;have m:=f a;rw[Az,IF];have:b.getD a 0*256^a<=255*256^a:=Nat.mul_le_mul_right _ Y;omega
def BO(b:G B)(o:B)(a:G B):G B:=b.take o++a++b.drop (o+a.length)
variable{q:G B}
def G_{b:G B}{o:B}(a:o+q.length<=b.length):(BO b o q).length=b.length:=by
 simp[BO];omega
def Z3{P:Prop}(h:P:=by rw[List.length_take];omega):P:=h
def Pb{b:G B}{o:B}(j:o+q.length<=b.length)(f:l<q.length):(BO b o q).getD (o+l) 0=q.getD l 0:=by
 unfold BO;have a:(b.take o).length=o:=Z3;rw[BS,M6 Y,a,show o+l-o=l by omega,L4 f]
def Z5{P:Prop}(h:P:=by rw[List.length_append];omega):P:=h
def SU{b:G B}{o:B}(j:o+q.length<=b.length)(a:l<o\/o+q.length<=l):(BO b o q).getD l 0=b.getD l 0:=by
 unfold BO;have f:(b.take o).length=o:=Z3;rcases a with a|a
 ·rw[BS,L4 Y];simp[Cp,List.getElem?_take,a]
 ·rw[M6 Z5,Ad,f];simp only[Cp,FU];congr 2;omega
def gM{b:G B}{o v a:B}(j:o+a<=b.length)(m:v<256^a):Az ((BO b o (AS v a)).drop o) a=v:=by
 have f:=Jv (b:=(BO b o (AS v a)).drop o) (j:=AS v a) a (λn l=>by
  have:=Pb (b:=b) (o:=o) (q:=AS v a) (by rw[BK];exact j) (l:=n) (by rw[BK];exact l);simp only[Cp,FU] at this⊢;exact this)
 rw[f,Jw,Ja m]
def gN{b:G B}{o a f:B}(j:o+q.length<=b.length)(n:a+f<=o\/o+q.length<=a):Az ((BO b o q).drop a) f=Az (b.drop a) f:=by
 refine Jv f λl m=>?_;have:=SU (b:=b) (o:=o) (q:=q) j (l:=a+l) Y;simp only[Cp,FU] at this⊢;exact this
structure AN where
 b:B
 c:B
 a:B
 h:B
 d:B
 f:B
def AN.v:AN:=⟨0,0,0,0,0,0⟩
structure AN.i(a:AN):Prop where
 nA:1<=a.b
 nB:a.b<=5
 nC:a.c<256^4
 nG:a.a<256^8
 nF:a.h<256^8
 nE:a.d<256^8
 nD:a.f<256^4
def AN.g(a:AN):G B:=
 AS 19276 2++([a.b,0,0,0]++(AS a.c 4++(AS a.a 8++(AS a.h 8++(AS a.d 8++(AS a.f 4++U 26 0))))))
def AN.u(a:AN):a.g.length=64:=by simp[AN.g,BK]
def AN.e(f:AN)(a:G B)(j:B):G B:=a++(U (j-a.length) 0++f.g)
def AN.j(a:AN)(f:q.length<=l):(a.e q l).length=l+64:=by simp[AN.e,AN.u];omega
def AN.s(a:AN)(f:q.length<=l):(a.e q l).drop l=a.g:=by
 unfold AN.e;rw[<-BS,O0,AEN Y5];simp;rw[show l-(q.length+(l-q.length))=0 by omega];rfl
def AN.t(a:AN)(f:q.length<=l):(a.e q l).take l=q++U (l-q.length) 0:=by
 unfold AN.e;rw[<-BS,Eg Y5,DP Y5]
def K6(b:G B)(j:B):AN×AE:=
 let a:=b.drop j
 if Az a 2≠19276 then(AN.v,I)
 else
  let f:AN:=⟨a.getD 2 0,Az (a.drop 6) 4,Az (a.drop 10) 8,Az (a.drop 18) 8,Az (a.drop 26) 8,Az (a.drop 34) 4⟩
  (f,Ac (1<=f.b/\f.b<=5))
variable{yd:G B}
def M7(a:q.length=l):Az (q++yd) l=Az q l:=Jv l λj f=>by rw[L4 Y]
def Fw{a f:G yh}(j:a.length=l)(m:l<=p):(a++f).drop p=f.drop (p-l):=by rw[O0,AEN Y,j];rfl
def Z0{P:Prop}(h:P:=by rw[BK];omega):P:=h
variable{ym:AN}
def PV{b:G B}(x:b.drop l=ym.g)(a:ym.i):K6 b l=(ym,R):=by
 unfold K6;rw[x];have r:Az ym.g 2=19276:=by unfold AN.g;rw[M7 (BK _ _),Jw]
 have t:ym.g.getD 2 0=ym.b:=by unfold AN.g;rw[M6 Z0,BK];rfl
 have p:ym.g.drop 6=AS ym.c 4++(AS ym.a 8++(AS ym.h 8++(AS ym.d 8++(AS ym.f 4++U 26 0)))):=by
  unfold AN.g;rw[Fw (BK _ _) Y,Fw (l:=4) A Y];rfl
 have m:ym.g.drop 10=AS ym.a 8++(AS ym.h 8++(AS ym.d 8++(AS ym.f 4++U 26 0))):=by
  rw[show(10:B)=6+4 from A,<-FD,p,Fw (BK _ _) Y];rfl
 have n:ym.g.drop 18=AS ym.h 8++(AS ym.d 8++(AS ym.f 4++U 26 0)):=by
  rw[show(18:B)=10+8 from A,<-FD,m,Fw (BK _ _) Y];rfl
 have o:ym.g.drop 26=AS ym.d 8++(AS ym.f 4++U 26 0):=by
  rw[show(26:B)=18+8 from A,<-FD,n,Fw (BK _ _) Y];rfl
 have u:ym.g.drop 34=AS ym.f 4++U 26 0:=by
  rw[show(34:B)=26+8 from A,<-FD,o,Fw (BK _ _) Y];rfl
 have f:∀v j(q:G B),v<256^j->Az (AS v j++q) j=v:=λv j q y=>by rw[M7 (BK _ _),Jw,Ja y]
 simp only[r,t,p,m,n,o,u,f _ _ _ a.nC,f _ _ _ a.nG,f _ _ _ a.nF,f _ _ _ a.nE,f _ _ _ a.nD,K_,not_true,Hp];have:=a.nA;have:=a.nB;simp[*]
def SI(f:ym.i)(a:q.length<=l):K6 (ym.e q l) l=(ym,R):=PV (ym.s a) f
structure AF where
 a:B
 b:B
deriving aB,Repr
def AF.c(a:AF):B:=a.a*256+a.b+1
def DE(v:B):AF:=⟨(v-1)/256,(v-1)%256⟩
structure D4 where
 b:AE
 a:G (G B)
deriving Repr
structure Cq where
 a:B
 c:F
 f:F
 d:F
 b:B
deriving aB,Repr
def Cq.e:Cq:=⟨0,0,0,0,0⟩
structure CG where
 a:G B
 b:AE
 c:B
deriving Repr
structure K where
 aj:B
 i:B
 t:B
 ab:G D4
 bd:B
 u:B
 bv:B
 h:G (AC CG)
 g:G B
 an:B
 aa:G B
 aq:AC B
 av:B
 bn:AC (G B)
 ac:G B
 j:G Cq
 bh:AC B
 bg:AC B
 br:AC B
 ap:B
 x:B
 bq:B
 cs:G (B×G B)
 aw:B
 bf:AC B×AC B
 ae:G B
 ct:B
 bi:B
 bj:G AF
 ax:G AF
 ah:G (AN×AF)
 bb:G B
namespace K
def v(a:K):B:=a.t+16
def ao(a:K):B:=a.aj/4
def ec(a:K):B:=max 4 (a.i/2)
def w(a:K)(b:B):D4:=a.ab.getD b ⟨I,[]⟩
def b(a:K)(b:B):Cq:=a.j.getD b Cq.e
def y(a:K)(b:B):B:=(a.w b).a.length
def ca(a:K)(b:B):B:=if(a.w b).b then a.i/2 else a.i
def ci(a:K)(b:B):B:=a.ca b-a.y b
def ay(f:K)(a:AF):G B:=(f.w a.a).a.getD a.b []
def bl(a:K)(b:B)(f:Cq->Cq):K:={a with j:=a.j.set b (f (a.b b))}
def al(a:K)(f:B):AC B:=if f=0 then a.bh else if f=1 then a.bg else a.br
def bk(a:K)(f:B)(v:AC B):K:=if f=0 then{a with bh:=v} else if f=1 then{a with bg:=v} else{a with br:=v}
def cc(a:K)(b:B):AE:=a.bh==C b||a.bg==C b||a.br==C b
def ck(f:K)(b:B):AE:=let a:=f.b b;a.a !=3&&a.c==0&&a.f==0&&a.d==0&&!f.cc b
def ho(a:K):B:=((AH a.j.length).filter a.ck).length
def hv(f:AE)(a b:B×B×AE):AE:=if a.2.1≠b.2.1 then Ac (a.2.1<b.2.1) else if a.2.2 !=b.2.2 then a.2.2==f else Ac (a.1<b.1)
def gl(a:K)(j:AE):AC B:=
 ((AH a.j.length).filter a.ck).foldl (λo b=>match o with|none=>C b|some f=>if hv j (b,(a.b b).b,(a.w b).b) (f,(a.b f).b,(a.w f).b) then C b else C f) E
def cx(a:K)(b:B)(f:AE):K:={a with ab:=a.ab.set b ⟨f,[]⟩,bv:=a.bv+1}
def eu(f:K)(b:B)(j:G B):K:={f with ab:=f.ab.set b {f.w b with a:=(f.w b).a++[j]},bd:=f.bd+1,u:=f.u+1}
def fc(a:K)(f:AE):AC (B×K):=
 match a.gl f with
 |none=>E
 |some b=>C (b,{(a.cx b f).bl b (λj=>{Cq.e with b:=j.b+1}) with x:=a.x+1})
def bm(j:K)(f:B):K:=
 match(j.bk f E).fc (f==1) with
 |none=>j
 |some (b,l)=>((l.bl b (λm=>{m with a:=if f=2 then 2 else 1})).bk f (C b))
def ag(a:K):K:={a with ap:=a.ap+1}
def gc(a:K)(f:B):K:=match a.al f with|none=>a.bm f|some b=>if a.ci b=0 then a.bm f else a
def cg(j:K)(o b:B)(m:AN)(n:G B):K:=
 let l:=j.eu b (({m with a:=j.ap,d:=j.x,f:=(j.b b).b}:AN).e n j.aj)
 if o=2 then l else{l with bq:=l.x}
def af(m:K)(f:B)(j:AN)(l:G B):AF×K:=
 let a:=m.ag.gc f;let b:=(a.al f).getD 0
 (⟨b,a.y b⟩,a.cg f b j l)
def am(a:K)(j:B):K:=
 let f:=a.an+1
 match a.h.getD j E with
 |some l=>{a with an:=f,h:=a.h.set j (C {l with c:=f})}
 |none=>
  let v:=a.g.getD j 0;let b:=if v=0 then U a.aj 0 else(a.ay (DE v)).take a.aj
  {a with an:=f,u:=if v=0 then a.u else a.u+1,h:=a.h.set j (C ⟨b,I,f⟩)}
def gv(a:K)(f:B):B:=match a.h.getD (f/a.ao) E with|some j=>Az (j.a.drop (f%a.ao*4)) 4|none=>0
def be(f:K)(a:B):AC AF×K:=
 let j:=f.am (a/f.ao);let v:=j.gv a
 (if v=0 then E else C (DE v),j)
def ch(j:K)(f v:B):K:=
 let l:=j.am (f/j.ao)
 if l.gv f=v then l
 else{l with h:=l.h.set (f/j.ao) ((l.h.getD (f/j.ao) E).map λm=>{m with a:=BO m.a (f%j.ao*4) (AS v 4),b:=R})}
def bo(f:K)(a:B):AC AF:=let v:=f.g.getD a 0;if v=0 then E else C (DE v)
def dr(a:K):G B:=(AH a.h.length).filter λf=>match a.h.getD f E with|some j=>j.b|none=>I
def ai(j:K)(f:AF):K:=j.bl f.a λa=>{a with d:=a.d+1}
def dn(j:K)(f:AF):K:=j.bl f.a λa=>{a with d:=a.d-1}
def dw(a:K)(o:AC AF):K:=match o with|some f=>a.dn f|none=>a
def fm(j:K)(a:G B)(f:G (AC CG)):K:={j with g:=a,h:=f}
def gt(l:K)(a:B)(m:CG):K:=
 let f:=l.af 2 ⟨3,a,0,0,0,0⟩ m.a;let j:=(f.2.ai f.1).dw (l.bo a)
 j.fm (j.g.set a f.1.c) (j.h.set a (C {m with b:=I}))
def bt(a:K)(f:B):K:=match a.h.getD f E with|none=>a|some j=>if j.b then a.gt f j else a
def co(j:K)(a:B):K:=let f:=j.am a;{f with h:=f.h.set a ((f.h.getD a E).map λl=>{l with b:=R})}
def jt(a:K):B:=(8+4*a.g.length+a.ac.length+a.aj-1)/a.aj
def ep(a:K)(b:B):G B:=(AH a.g.length).filter λf=>match a.bo f with|some j=>j.a==b|none=>I
def fj(a:K):K:=
 let m:=(AH a.j.length).filter λb=>(a.b b).a==2&&!a.ck b;let p:=(m.filter λb=>!a.cc b).foldl (λ(o:AC B) b=>match o with|none=>C b|some l=>if(a.ep b).length<(a.ep l).length then C b else C l) E
 match p with
 |none=>a
 |some n=>
  if m.length<=2*((a.g.length+a.jt)/a.i+1)+1 then a
  else(a.ep n).foldl (λa j=>let f:=a.co j;if f.ae.contains j then f else{f with ae:=f.ae++[j]}) a
def ce(a:K):K:=({a with aw:=a.ap,bf:=(a.bh,a.bg),ae:=a.dr,ct:=0,bi:=0}).fj
def cl(a:K):G B:=AS 0x50414D53 4++(AS a.g.length 4++(a.g.map λv=>AS v 4).flatten)
def gg(a:B)(f:G B):G (G B):=(AH ((f.length+a-1)/a)).map λj=>(f.drop (a*j)).take a
def cd(a:K):G AF×K:=
 (gg a.aj (a.cl++a.ac)).zipIdx.foldl (λ(o:G AF×K) j=>let(f,l):=o.2.af 2 ⟨4,j.2,0,0,0,0⟩ j.1;(o.1++[f],l.ai f)) ([],a)
def cy(v:AC B):B:=match v with|none=>0|some b=>b+1
def db(a:K)(j:G AF):G B:=
 AS a.aw 8++(AS a.bq 8++(AS (cy a.bf.1) 2++(AS (cy a.bf.2) 2++([j.length%256]++((j.map λf=>AS (f.a*256+f.b) 3).flatten++a.bb)))))
def cn(j m:B)(v:AC (G B)):G B:=
 let l:=match v with|none=>[0,0]|some a=>[1,0]++([0,a.length%256,a.length/256%256]++a)
 let f:=[83,76,79,84]++(AS m 8++l)
 f++U (j-f.length) 0
def ig(a:K):G B:=match a.aq with|none=>a.aa|some j=>let f:=a.aa.findIdx (·==j);if f<a.aa.length then a.aa.drop f++a.aa.take f else a.aa
def ei(b:G B)(v:AC (G B)):G B->K->K
 |[],a=>a
 |f::l,a=>
  let j:=if a.aq=C f then a else a.cx f I
  if j.ci f=0 then ei b v l j
  else{j.eu f b with aq:=C f,av:=j.av+1,bn:=v}
def cr(a:K)(v:AC (G B)):K:=ei (cn (a.aj+64) (a.av+1) v) v a.ig a
def ds(f:K):K:=match f.fc I with|none=>f|some (l,j)=>{j.bl l (λm=>{m with a:=3}) with aa:=((j.aa++[l]).mergeSort)}
def eq(a:K)(b:G B):K:=(if a.aa.length<3 then a.ds else a).cr (C b)
def jr(f:K):G AF×K:=(AH f.g.length).foldl (λ(o:G AF×K) j=>match o.2.bo j with|some a=>(o.1++[a],o.2.ai a)|none=>o) ([],f)
def hk(j:K)(l:AN×AF):K:=j.bl l.2.a λa=>{a with f:=a.f-1}
def gx(a:K)(j:G AF):K:=
 let f:=((a.bj++a.ax).foldl dn a).jr
 {f.2 with bj:=f.1,ax:=j}
def hz(a:K):K:=
 let f:=(a.ah.filter λj=>j.1.a<=a.aw).foldl hk a
 {f with ah:=f.ah.filter λj=>¬j.1.a<=f.aw}
def ea(a:K):K:=(((a.cd.2.eq (a.cd.2.db a.cd.1)).gx a.cd.1).hz).ce
def dv(f:K)(a:G B):K:={f with ae:=a}
def cu(a:K):K:={a with ct:=a.ct+1,bi:=a.bi+1}
def dq(a:K):K:=
 match a.ae with
 |f::j=>(a.bt f).dv j
 |[]=>if a.ct<a.ec then a else a.ea
def ed(a:K):K:=if a.cu.bi%2≠0 then a.cu else a.cu.dq
def fb(a:K):K:=(a.ce.ae.foldl (λa _=>a.dq) a.ce).ea
def dg(f:K)(a:B):AE:=Ac (a<f.t)&&(f.ac.getD (a/8) 0/2^(a%8)%2==1)
def ev(a:K)(o:AC AF):K:=match o with|some j=>a.bl j.a λf=>{f with c:=f.c-1}|none=>a
def ee(j:K)(f:AF):K:=j.bl f.a λa=>{a with c:=a.c+1}
def de(j:K)(a:B)(f:AF):K:=(((j.be a).2.ev (j.be a).1).ee f).ch a f.c
def fl(m:K)(f:B):K:=
 match m.be f with
 |(E,a)=>a
 |(C l,a)=>(a.bl l.a λj=>{j with c:=j.c-1}).ch f 0
def kh(f:K)(a:B)(j:G B):K:=
 let(l,m):=f.af (if f.dg a then 1 else 0) ⟨1,a,0,0,0,0⟩ j
 (m.de a l).ed
def et(j:K)(f:B)(a:G B):K:=j.kh f a
def dt(f:K)(j:B):G B×K:=
 match f.be j with
 |(E,a)=>(U f.aj 0,a)
 |(C l,a)=>((a.ay l).take f.aj,{a with u:=a.u+1})
def hf(a:K)(f:B):AC (G B)×K:=
 match a.cs.find? λl=>l.1==f with
 |some l=>(C l.2,a)
 |none=>
  let(b,j):=a.dt (a.t+f)
  if b.getD 0 0=1/\b.getD 1 0<=64 then let v:=(b.drop 2).take (b.getD 1 0);(C v,{j with cs:=(f,v)::j.cs}) else(E,j)
def nk(l q a p:B)(n:G B)(m:G D4)(r y o:B):K:=
 let f:=(a+15)/(l/4)+1
 {aj:=l,i:=q,t:=a,ab:=m,bd:=r,u:=y,bv:=o,h:=U f E,g:=U f 0,an:=0,aa:=[],aq:=E,av:=0,bn:=E,
  ac:=U ((a+7)/8) 0,j:=U p Cq.e,bh:=E,bg:=E,br:=E,ap:=0,x:=0,bq:=0,cs:=[],aw:=0,bf:=(E,E),ae:=[],ct:=0,bi:=0,bj:=[],ax:=[],ah:=[],bb:=n}
def dj(j:B)(l:B->AE):G B:=(AH ((j+7)/8)).map λf=>((AH 8).map λa=>if Ac (8*f+a<j)&&l (8*f+a) then 2^a else 0).sum
def iu(q p l m:B)(n:G B)(o:B->AE):K:=
 let f:=nk q p l m n (U m ⟨I,[]⟩) 0 0 0;let f:={f with ac:=dj l o,j:=(f.j.set 0 {Cq.e with a:=3}|>.set 1 {Cq.e with a:=3}|>.set 2 {Cq.e with a:=3}),aa:=[0,1,2]};let f:=((f.cx 0 I).cx 1 I).cx 2 I
 (f.cr E).fb
def gp(b:G B):AE:=b.take 4==[83,76,79,84]
end K
namespace K
def ar(a:K)(b:B):AE:=a.y b==0&&(a.b b).a !=3&&!a.cc b
def au(a:K):B:=((AH a.j.length).filter a.ar).length
structure dm(f:K):Prop where
 nA:f.ab.length=f.j.length
 nD:∀a,a<f.j.length->f.ar a=R->(f.b a).c=0/\(f.b a).f=0/\(f.b a).d=0/\(f.b a).b=0/\(f.w a).b=I
 nG:∀a,a<f.j.length->f.ar a=I->(f.b a).a≠3->1<=(f.b a).b
 nC:∀a,f.bh=C a->a<f.j.length/\(f.w a).b=I/\(f.b a).a≠3
 nB:∀a,f.bg=C a->a<f.j.length/\(f.w a).b=R/\(f.b a).a≠3
 nE:∀a,f.br=C a->a<f.j.length/\(f.w a).b=I/\(f.b a).a≠3
 nF:4<=f.i
variable{n:K}
def pv(f:n.dm){b:B}(o:b<n.j.length)(a:n.ar b=R):n.ck b=R:=by
 obtain⟨j,l,m,p,q⟩:=f.nD b o a;unfold ar at a;simp only[GK,Bn,K_,F1,K'] at a;simp[ck,j,l,m,a.1.2,a.2]
def ut(f:n.dm){b:B}(l:b<n.j.length)(a:n.ck b=R)(o:(n.b b).b=0):n.ar b=R:=by
 cases m:n.ar b with
 |true=>rfl
 |false=>
  have j:(n.b b).a≠3:=by
   unfold ck at a;simp only[GK,Bn,K_] at a;exact a.1.1.1.1
  have:=f.nG b l m j;omega
def qs(q:B->B)(ahead:B->B->AE)(z:∀b f,ahead b f=R->q b<=q f)(F:∀b f,ahead b f=I->q f<=q b):
 ∀(p:G B)(o:AC B),(∀m,p.foldl (λo b=>match o with|none=>C b|some f=>if ahead b f=R then C b else C f) o=C m->(m∈p\/o=C m)/\(∀r,r∈p\/o=C r->q m<=q r))/\(p.foldl (λo b=>match o with|none=>C b|some f=>if ahead b f=R then C b else C f) o=E->p=[]/\o=E)
 |[],o=>⟨λm t=>⟨Ae t,λr a=>by
  rcases a with a|a
  ·cases a
  ·have t:o=C m:=t;rw[t] at a;cases a;exact AI _⟩,λt=>⟨A,t⟩⟩
 |b::p,o=>by
  rw[DN];obtain⟨H,L⟩:=qs q ahead z F p (match o with|none=>C b|some f=>if ahead b f=R then C b else C f);refine⟨λm y=>?_,λy=>?_⟩
  ·obtain⟨u,l⟩:=H m y;cases o with
   |none=>
    refine⟨?_,λr a=>?_⟩
    ·rcases u with j|j
     ·exact AT (By _ j)
     ·cases j;exact AT Bt
    ·rcases a with a|a
     ·rcases C2.1 a with rfl|a
      ·exact l _ (Ae A)
      ·exact l _ (AT a)
     ·cases a
   |some f=>
    cases n:ahead b f with
    |true=>
     simp only[n,FG] at u l;have M:=z b f n;refine⟨?_,λr a=>?_⟩
     ·rcases u with j|j
      ·exact AT (By _ j)
      ·cases j;exact AT Bt
     ·have x:=l b (Ae A);rcases a with a|a
      ·rcases C2.1 a with rfl|a
       ·exact x
       ·exact l _ (AT a)
      ·cases a;omega
    |false=>
     simp only[n,QU,Hp] at u l;have M:=F b f n;refine⟨?_,λr a=>?_⟩
     ·rcases u with j|j
      ·exact AT (By _ j)
      ·exact Ae j
     ·have x:=l f (Ae A);rcases a with a|a
      ·rcases C2.1 a with rfl|a
       ·omega
       ·exact l _ (AT a)
      ·cases a;exact x
  ·obtain⟨_,j⟩:=L y;exfalso;cases o with
   |none=>cases j
   |some f=>
    by_cases n:ahead b f=R
    ·simp only[n,FG] at j;cases j
    ·simp only[n] at j;cases j
def kc(r:n.dm)(j:AE)(t:l<n.j.length)(F:n.ar l=R):∃b,n.gl j=C b/\b<n.j.length/\n.ar b=R:=by
 have u:l∈(AH n.j.length).filter n.ck:=CF.2 ⟨Ce.2 t,pv r t F⟩;have y:=qs (λb=>(n.b b).b) (λb a=>hv j (b,(n.b b).b,(n.w b).b) (a,(n.b a).b,(n.w a).b))
  (λb a f=>by
   unfold hv at f;by_cases q:(n.b b).b=(n.b a).b
   ·omega
   ·simp only[K_,q,AFC,FG,KZ] at f;omega)
  (λb a f=>by
   unfold hv at f;by_cases q:(n.b b).b=(n.b a).b
   ·omega
   ·simp only[K_,q,AFC,FG,decide_eq_false_iff_not] at f;omega)
  ((AH n.j.length).filter n.ck) E
 have z:n.gl j=((AH n.j.length).filter n.ck).foldl (λo b=>match o with|none=>C b|some a=>if hv j (b,(n.b b).b,(n.w b).b) (a,(n.b a).b,(n.w a).b)=R then C b else C a) E:=A;cases m:n.gl j with
 |none=>
  rw[z] at m;obtain⟨f,_⟩:=y.2 m;rw[f] at u;cases u
 |some x=>
  rw[z] at m;obtain⟨L,M⟩:=y.1 x m;have G:x∈(AH n.j.length).filter n.ck:=by
   rcases L with f|f
   ·exact f
   ·cases f
  obtain⟨p,H⟩:=CF.1 G;have p:=Ce.1 p;have N:=M l (AT u);have S:=(r.nD l t F).2.2.2.1;exact⟨x,A,p,ut r p H Y⟩
def jy(a:0<n.au):∃b,b<n.j.length/\n.ar b=R:=by
 obtain⟨b,l⟩:=List.exists_mem_of_length_pos a;obtain⟨f,j⟩:=CF.1 l;exact⟨b,Ce.1 f,j⟩
def qu(j:n.dm):n.au<=n.ho:=by
 unfold au ho;have f:(AH n.j.length).filter n.ar=((AH n.j.length).filter n.ck).filter n.ar:=by
  rw[QB];refine Q9 λb a=>?_;have a:=Ce.1 a;cases l:n.ar b with
  |true=>rw[pv j a l];rfl
  |false=>rfl
 rw[f];exact Ez _ _
def ji{b:B}(f:Cq->Cq)(m:b<n.j.length)(a:B):(n.bl b f).b a=if a=b then f (n.b b) else n.b a:=by
 show(n.j.set b (f (n.b b))).getD a Cq.e=_;by_cases j:a=b
 ·subst j;rw[A8 A,AY,Mh m];rfl
 ·rw[A1 j,AY,Ir (λl=>j l.symm)];rfl
def ie{b:B}{j:D4}(m:b<n.ab.length)(a:B):(n.ab.set b j).getD a ⟨I,[]⟩=if a=b then j else n.w a:=by
 unfold K.w;by_cases f:a=b
 ·subst f;simp[Cp,m]
 ·rw[A1 f];simp[Cp,Ir (λl=>f l.symm)]
def os(j:K)(f:B)(v:AC B)(a:B):(j.bk f v).al a=if(a=0/\f=0)\/(a=1/\f=1)\/(a≠0/\a≠1/\f≠0/\f≠1) then v else j.al a:=by
 unfold bk al;by_cases l:f=0<;>by_cases b:f=1<;>by_cases m:a=0<;>by_cases n:a=1<;>simp[l,b,m,n]<;>omega
def he(a:K)(o:AC B):Prop:=∀b,o=C b->a.ci b=0
def rg(a:n.dm)(b:B):2<=n.ca b:=by
 have:=a.nF;unfold ca;split<;>omega
def qw(a:n.dm){b:B}(f:n.ci b=0):0<n.y b:=by
 have:=rg a b;unfold ci at f;omega
def sm(l:n.dm)(f:B)(F:n.he (n.al f)):(n.bk f E).dm/\∀b,(n.bk f E).ar b=n.ar b:=by
 have t:∀b,(n.bk f E).ar b=n.ar b:=by
  intro b;unfold ar;have o:(n.bk f E).y b=n.y b:=by unfold bk;split<;>(try split)<;>rfl
  have p:(n.bk f E).b b=n.b b:=by unfold bk;split<;>(try split)<;>rfl
  rw[o,p];by_cases m:n.al f=C b
  ·have:=qw l (F b m);have:(n.y b==0)=I:=Y5;simp[this]
  ·have j:(n.bk f E).cc b=n.cc b:=by
    unfold bk cc;unfold al at m;by_cases r:f=0
    ·simp only[r,FG] at m⊢;have:(n.bh==C b)=I:=by simpa using m
     simp[this]
    ·by_cases u:f=1
     ·simp only[r,u,FG,Hp,Nat.one_ne_zero] at m⊢;have:(n.bg==C b)=I:=by simpa using m
      simp[this]
     ·simp only[r,u,Hp] at m⊢;have:(n.br==C b)=I:=by simpa using m
      simp[this]
   rw[j]
 refine⟨?_,t⟩;have o:∀b,(n.bk f E).b b=n.b b:=λb=>by unfold bk;split<;>(try split)<;>rfl
 have p:∀b,(n.bk f E).w b=n.w b:=λb=>by unfold bk;split<;>(try split)<;>rfl
 have j:(n.bk f E).j=n.j:=by unfold bk;split<;>(try split)<;>rfl
 have y:(n.bk f E).ab=n.ab:=by unfold bk;split<;>(try split)<;>rfl
 have z:(n.bk f E).i=n.i:=by unfold bk;split<;>(try split)<;>rfl
 refine⟨by rw[j,y];exact l.nA,λb a q=>?_,λb a q x=>?_,λb a=>?_,λb a=>?_,λb a=>?_,by rw[z];exact l.nF⟩
 ·rw[t] at q;rw[o,p];rw[j] at a;exact l.nD b a q
 ·rw[t] at q;rw[o] at x⊢;rw[j] at a;exact l.nG b a q x
 ·rw[o,p,j];refine l.nC b ?_;unfold bk at a;split at a
  ·cases a
  ·split at a<;>exact a
 ·rw[o,p,j];refine l.nB b ?_;unfold bk at a;split at a
  ·exact a
  ·split at a
   ·cases a
   ·exact a
 ·rw[o,p,j];refine l.nE b ?_;unfold bk at a;split at a
  ·exact a
  ·split at a
   ·exact a
   ·cases a
end K
namespace K
def bs(a:K)(f b:B):K:=
 ({a with ab:=a.ab.set b ⟨f==1,[]⟩,bv:=a.bv+1,x:=a.x+1,j:=a.j.set b ⟨if f=2 then 2 else 1,0,0,0,1⟩}:K).bk f (C b)
variable{n:K}
def ps(m:n.dm)(F:l<=2)(x:n.he (n.al l))(u:0<n.au):∃b,b<n.j.length/\n.ar b=R/\n.bm l=n.bs l b:=by
 obtain⟨G,p⟩:=sm m l x;have o:(n.bk l E).j=n.j:=by unfold bk;split<;>(try split)<;>rfl
 obtain⟨r,t,z⟩:=jy u;obtain⟨b,y,a,f⟩:=kc G (l==1) (l:=r) (by rw[o];exact t) (by rw[p];exact z);rw[p] at f;rw[o] at a;have q:(n.b b).b=0:=(m.nD b a f).2.2.2.1;refine⟨b,a,f,?_⟩;have H:((n.bk l E).b b).b=0:=by
  have:(n.bk l E).b b=n.b b:=by unfold bk;split<;>(try split)<;>rfl
  rw[this];exact q
 have j:(n.j[b]'a).b=0:=by
  have:n.b b=n.j[b]'a:=by show n.j.getD b Cq.e=_;rw[AY,Aw a];rfl
  rw[<-this];exact q
 unfold bm K.fc;rw[y]
 match l,F with
 |0,_=>simp[bk,cx,K.bl,K.b,bs,Hl,Cq.e,a,j]
 |1,_=>simp[bk,cx,K.bl,K.b,bs,Hl,Cq.e,a,j]
 |2,_=>simp[bk,cx,K.bl,K.b,bs,Hl,Cq.e,a,j]
def kq(a:n.dm):n.ag.dm:=⟨a.nA,a.nD,a.nG,a.nC,a.nB,a.nE,a.nF⟩
def mn(a:l<=2)(b:B):(n.bs l b).al l=C b:=by
 unfold bs;rw[os]
 match l,a with
 |0,_=>rfl
 |1,_=>rfl
 |2,_=>rfl
def rn(j:n.dm){a b:B}(l:b<n.j.length):(n.bs a b).y b=0:=by
 have f:(n.bs a b).ab=n.ab.set b ⟨a==1,[]⟩:=by unfold bs bk;split<;>(try split)<;>rfl
 unfold y K.w;rw[f,AY,Mh (by rw[j.nA];exact l)];rfl
def mp(y:n.dm)(F:l<=2)(M:0<n.au)(j:AN)(m:G B):
 ∃b,(n.al l=C b/\n.ci b≠0/\n.af l j m=(⟨b,n.y b⟩,n.ag.cg l b j m))\/
  (n.he (n.al l)/\b<n.j.length/\n.ar b=R/\n.af l j m=(⟨b,0⟩,(n.ag.bs l b).cg l b j m)):=by
 have H:n.he (n.al l)->n.ag.gc l=n.ag.bm l->∃b,b<n.j.length/\n.ar b=R/\n.af l j m=(⟨b,0⟩,(n.ag.bs l b).cg l b j m):=by
  intro S f;obtain⟨b,z,U,N⟩:=ps (kq y) (l:=l) F S M;refine⟨b,z,U,?_⟩;unfold af;rw[f,N];dsimp only;rw[mn F,IG,rn (kq y) z]
 cases p:n.al l with
 |none=>
  have f:n.ag.gc l=n.ag.bm l:=by
   have:n.ag.al l=E:=p;unfold gc;rw[this]
  obtain⟨b,q,r,t⟩:=H (λb a=>by rw[p] at a;cases a) f;exact⟨b,Ae ⟨(λx a=>by cases a),q,r,t⟩⟩
 |some b=>
  have u:n.ag.al l=C b:=p;by_cases o:n.ci b=0
  ·have f:n.ag.gc l=n.ag.bm l:=by
    unfold gc;rw[u];exact A8 o
   obtain⟨L,q,r,t⟩:=H (λx a=>by rw[p] at a;cases a;exact o) f;exact⟨L,Ae ⟨(λx a=>by cases a;exact o),q,r,t⟩⟩
  ·have f:n.ag.gc l=n.ag:=by
    unfold gc;rw[u];exact A1 o
   refine⟨b,AT ⟨A,o,?_⟩⟩;unfold af;rw[f];dsimp only;rw[u];rfl
def ih(a:K):K:={a with ab:=[],bd:=0,u:=0,bv:=0,j:=[],bh:=E,bg:=E,br:=E,ap:=0,x:=0,bq:=0}
structure jv(l m:K)(j:AF)(o:B)(q:AN)(r:G B):Prop where
 nO:m.dm
 nL:m.ap=l.ap+1
 nA:m.ih=l.ih
 nF:m.j.length=l.j.length
 nC:∀n,(m.w n).a=if n=j.a then(l.w n).a++[(({q with a:=l.ap+1,d:=m.x,f:=(m.b j.a).b}:AN)).e r l.aj] else(l.w n).a
 nM:j.b=l.y j.a
 nP:j.a<l.j.length
 nE:∀n,n≠j.a->m.b n=l.b n
 nI:(m.b j.a).a≠3
 nR:1<=(m.b j.a).b
 nG:m.al o=C j.a
 nH:∀p,p<=2->p≠o->m.al p=l.al p
 nB:(l.al o=C j.a/\l.b j.a=m.b j.a)\/(l.ar j.a=R/\j.b=0/\l.he (l.al o)/\m.b j.a=⟨if o=2 then 2 else 1,0,0,0,1⟩)
 nN:l.au<=m.au+1
 nK:∀n,n≠j.a->(m.w n).b=(l.w n).b
 nQ:m.y j.a<=m.ca j.a
end K
namespace K
def lc(a:K)(f b:B):(a.bs f b).j=a.j.set b ⟨if f=2 then 2 else 1,0,0,0,1⟩:=by unfold bs bk;split<;>(try split)<;>rfl
def rm(a:K)(f b:B):(a.bs f b).ab=a.ab.set b ⟨f==1,[]⟩:=by unfold bs bk;split<;>(try split)<;>rfl
def ou(a:K)(f b:B):(a.bs f b).ih=a.ih:=by unfold bs bk ih;split<;>(try split)<;>rfl
def ov(a:K)(f b:B):(a.bs f b).ap=a.ap:=by unfold bs bk;split<;>(try split)<;>rfl
def ro(a:K)(f b:B):(a.bs f b).i=a.i:=by have:=AB K.i (ou a f b);exact this
def rp(a:K)(f b:B):(a.bs f b).aj=a.aj:=by have:=AB K.aj (ou a f b);exact this
variable{n:K}
def mo(o:l<=2)(b a:B)(m:a<=2):(n.bs l b).al a=if a=l then C b else n.al a:=by
 have j:(n.bs l b).al a=(n.bk l (C b)).al a:=by
  unfold bs bk al;split<;>split<;>(try split)<;>(try split)<;>rfl
 rw[j,os];by_cases f:a=l
 ·subst f;rw[A8 Y,A8 A]
 ·rw[A1 Y,A1 f]
def gn(j:K)(b:B):j.cc b=R↔∃f,f<=2/\j.al f=C b:=by
 unfold cc;simp only[Lg,F1];constructor
 ·rintro((a|a)|a)
  ·exact⟨0,Y,a⟩
  ·exact⟨1,Y,a⟩
  ·exact⟨2,Y,a⟩
 ·rintro⟨f,l,a⟩
  match f,l with
  |0,_=>exact AT (AT a)
  |1,_=>exact AT (Ae a)
  |2,_=>exact Ae a
def jq(j:n.dm){b:B}(l:b<n.j.length)(f a:B):(n.bs f b).w a=if a=b then⟨f==1,[]⟩ else n.w a:=by
 have:=ie (n:=n) (b:=b) (j:=⟨f==1,[]⟩) (by rw[j.nA];exact l) a;unfold K.w at this⊢;rw[rm];exact this
def jp{b:B}(m:b<n.j.length)(j a:B):(n.bs j b).b a=if a=b then⟨if j=2 then 2 else 1,0,0,0,1⟩ else n.b a:=by
 show((n.bs j b).j.getD a Cq.e)=_;rw[lc];by_cases f:a=b
 ·subst f;rw[A8 A,AY,Mh m];rfl
 ·rw[A1 f,AY,Ir (λl=>f l.symm)];rfl
def vt(q:n.dm){l b:B}(p:l<=2)(t:n.he (n.al l))(a:B)(r:a≠b)(x:n.y a=0):(n.bs l b).cc a=n.cc a:=by
 have u:(n.bs l b).cc a=R↔n.cc a=R:=by
  rw[gn,gn];constructor
  ·rintro⟨j,m,f⟩;rw[mo p b j m] at f;by_cases o:j=l
   ·rw[A8 o] at f;exact CV (Gl f).symm r
   ·rw[A1 o] at f;exact⟨j,m,f⟩
  ·rintro⟨j,m,f⟩;refine⟨j,m,?_⟩;rw[mo p b j m];by_cases o:j=l
   ·subst o;have:=qw q (t a f);omega
   ·rw[A1 o];exact f
 cases h1:(n.bs l b).cc a<;>cases h2:n.cc a<;>simp_all
def ot(m:n.dm){f b:B}(l:f<=2)(o:b<n.j.length)(t:n.he (n.al f))(a:B):(n.bs f b).ar a=if a=b then I else n.ar a:=by
 by_cases j:a=b
 ·subst j;rw[A8 A];have:(n.bs f a).cc a=R:=(gn _ _).2 ⟨f,l,mn l a⟩;unfold ar;rw[this];simp
 ·rw[A1 j];have q:(n.bs f b).y a=n.y a:=by unfold y;rw[jq m o,A1 j]
  have r:(n.bs f b).b a=n.b a:=by rw[jp o,A1 j]
  unfold ar;rw[q,r];by_cases p:n.y a=0
  ·rw[vt m l t a j p]
  ·have:(n.y a==0)=I:=by simpa using p
   simp[this]
def vu(m:n.dm){l b:B}(G:l<=2)(q:b<n.j.length)(H:n.he (n.al l))(z:n.ar b=R):(n.bs l b).dm:=by
 have F:(n.bs l b).j.length=n.j.length:=by rw[lc,B_]
 have N:∀j a,j<=2->(n.bs l b).al j=C a->(j=l/\a=b)\/(j≠l/\n.al j=C a/\a≠b):=by
  intro j a u f;rw[mo G b j u] at f;by_cases t:j=l
  ·rw[A8 t] at f;exact AT ⟨t,(Gl f).symm⟩
  ·rw[A1 t] at f;refine Ae ⟨t,f,λL=>?_⟩;subst L;have:n.cc a=R:=(gn _ _).2 ⟨j,u,f⟩;unfold ar at z;rw[this] at z;simp at z
 have x:∀j a(o:AE),j<=2->(o=(j==1))->(n.bs l b).al j=C a->(n.al j=C a->a<n.j.length/\(n.w a).b=o/\(n.b a).a≠3)->a<(n.bs l b).j.length/\((n.bs l b).w a).b=o/\((n.bs l b).b a).a≠3:=by
  intro j a o u M f S;rw[F,jq m q,jp q];rcases N j a u f with⟨t,rfl⟩|⟨t,U,r⟩
  ·subst t;rw[A8 A,A8 A];refine⟨q,M.symm,?_⟩;show(if j=2 then 2 else 1)≠3;split<;>omega
  ·rw[A1 r,A1 r];exact S U
 refine⟨by rw[rm,lc,B_,B_];exact m.nA,λa r p=>?_,λa r p y=>?_,λa f=>x 0 a I Y A f (m.nC a),λa f=>x 1 a R Y A f (m.nB a),λa f=>x 2 a I Y A f (m.nE a),by rw[ro];exact m.nF⟩
 ·rw[ot m G q H] at p;by_cases f:a=b
  ·rw[A8 f] at p;cases p
  ·rw[A1 f] at p;rw[jp q,jq m q,A1 f,A1 f];rw[F] at r;exact m.nD a r p
 ·rw[ot m G q H] at p;rw[jp q] at y⊢;by_cases f:a=b
  ·rw[A8 f];exact AI _
  ·rw[A1 f] at p y⊢;rw[F] at r;exact m.nG a r p y
def vr(m:n.dm){j b:B}(t:j<=2)(o:b<n.j.length)(p:n.he (n.al j)):n.au<=(n.bs j b).au+1:=by
 unfold au;rw[show(n.bs j b).j.length=n.j.length by rw[lc,B_]];have l:(AH n.j.length).filter (n.bs j b).ar=((AH n.j.length).filter n.ar).filter (λf=>f !=b):=by
  rw[QB];refine Q9 λf _=>?_;rw[ot m t o p];by_cases a:f=b
  ·rw[A8 a];simp[a]
  ·rw[A1 a];simp[a]
 rw[l];have q:((AH n.j.length).filter n.ar).Nodup:=List.Pairwise.filter _ TU;have r:((AH n.j.length).filter n.ar).filter (λf=>f !=b)=((AH n.j.length).filter n.ar).erase b:=by rw[AEI q]
 rw[r];have:=List.length_erase_le (l:=(AH n.j.length).filter n.ar) (a:=b);by_cases a:b∈(AH n.j.length).filter n.ar
 ·rw[AE0 a];omega
 ·rw[AER a];omega
def ni{b:B}(l:b<n.ab.length)(j:G B)(f:B):(n.eu b j).w f=if f=b then⟨(n.w b).b,(n.w b).a++[j]⟩ else n.w f:=by
 have:=ie (n:=n) (b:=b) (j:={n.w b with a:=(n.w b).a++[j]}) l f;exact this
def oi(m:n.dm){p b:B}(N:p<=2)(u:n.al p=C b)(t:AN)(F:G B):(n.cg p b t F).dm/\∀j,(n.cg p b t F).ar j=n.ar j:=by
 have M:n.cc b=R:=(gn _ _).2 ⟨p,N,u⟩;have L:b<n.j.length:=by
  match p,N with
  |0,_=>exact(m.nC b u).1
  |1,_=>exact(m.nB b u).1
  |2,_=>exact(m.nE b u).1
 obtain⟨l,aa⟩:∃l,l=(({t with a:=n.ap,d:=n.x,f:=(n.b b).b}:AN)).e F n.aj:=⟨_,A⟩;have S:n.cg p b t F=if p=2 then n.eu b l else{n.eu b l with bq:=(n.eu b l).x}:=by rw[aa];rfl
 have z:∀j,(n.eu b l).ar j=n.ar j:=by
  intro j;by_cases o:j=b
  ·subst o;have:(n.eu j l).cc j=R:=M;unfold ar;rw[this,M];simp
  ·have U:(n.eu b l).y j=n.y j:=by unfold y;rw[ni (by rw[m.nA];exact L),A1 o]
   have W:(n.eu b l).b j=n.b j:=A;have Y:(n.eu b l).cc j=n.cc j:=A;unfold ar;rw[U,W,Y]
 have x:∀j,((n.eu b l).w j).b=(n.w j).b:=by
  intro j;rw[ni (by rw[m.nA];exact L)];by_cases o:j=b
  ·subst o;rw[A8 A]
  ·rw[A1 o]
 have q:(n.eu b l).dm:=by
  refine⟨by show(n.ab.set b _).length=_;rw[B_];exact m.nA,λj H r=>?_,λj H r Z=>?_,λj o=>?_,λj o=>?_,λj o=>?_,m.nF⟩
  ·rw[z] at r;rw[x];exact m.nD j H r
  ·rw[z] at r;exact m.nG j H r Z
  ·rw[x];exact m.nC j o
  ·rw[x];exact m.nB j o
  ·rw[x];exact m.nE j o
 rw[S];split
 ·exact⟨q,z⟩
 ·exact⟨⟨q.nA,q.nD,q.nG,q.nC,q.nB,q.nE,q.nF⟩,z⟩
end K
namespace K
def oh(a:K)(l b:B)(f:AN)(j:G B):(a.cg l b f j).ih=a.ih:=by unfold cg;dsimp only;split<;>rfl
def kf(a:K)(l b:B)(f:AN)(j:G B):(a.cg l b f j).j=a.j:=by unfold cg;dsimp only;split<;>rfl
def jn(f:K)(m b:B)(j:AN)(l:G B)(a:B):(f.cg m b j l).b a=f.b a:=by unfold K.b;rw[kf]
def rb(a:K)(l b:B)(f:AN)(j:G B):(a.cg l b f j).ap=a.ap:=by unfold cg;dsimp only;split<;>rfl
def ke(a:K)(l b:B)(f:AN)(j:G B):(a.cg l b f j).x=a.x:=by unfold cg;dsimp only;split<;>rfl
def og(a:K)(m b:B)(j:AN)(l:G B)(f:B):(a.cg m b j l).al f=a.al f:=by unfold cg;dsimp only;split<;>rfl
variable{n:K}
def jo{b:B}(q:b<n.ab.length)(o:B)(l:AN)(m:G B)(j:B):(n.cg o b l m).w j=if j=b then⟨(n.w b).b,(n.w b).a++[(({l with a:=n.ap,d:=n.x,f:=(n.b b).b}:AN)).e m n.aj]⟩ else n.w j:=by
 have p:(n.cg o b l m).w j=(n.eu b ((({l with a:=n.ap,d:=n.x,f:=(n.b b).b}:AN)).e m n.aj)).w j:=by unfold cg;dsimp only;split<;>rfl
 rw[p,ni q]
variable{r:K}
def hx(j:r.j.length=n.j.length)(f:∀a,r.ar a=n.ar a):r.au=n.au:=by
 unfold au;rw[j];congr 1;exact Q9 λa _=>f a
def fw(o:n.dm)(q:l<=2)(al:0<n.au)(a:AN)(f:G B):jv n (n.af l a f).2 (n.af l a f).1 l a f:=by
 have x:=kq o;obtain⟨b,⟨p,au,W⟩|⟨af,z,H,W⟩⟩:=mp o q al a f
 ·have M:n.ag.al l=C b:=p;have z:b<n.j.length:=by
   match l,q with
   |0,_=>exact(o.nC b p).1
   |1,_=>exact(o.nB b p).1
   |2,_=>exact(o.nE b p).1
  have t:b<n.ag.ab.length:=by show b<n.ab.length;rw[o.nA];exact z
  have ah:(n.b b).a≠3:=by
   match l,q with
   |0,_=>exact(o.nC b p).2.2
   |1,_=>exact(o.nB b p).2.2
   |2,_=>exact(o.nE b p).2.2
  have ao:n.ar b=I:=by
   have:n.cc b=R:=(gn _ _).2 ⟨l,q,p⟩;unfold ar;rw[this];simp
  obtain⟨N,Y⟩:=oi x q M a f;rw[W];dsimp only;have L:∀j,(n.ag.cg l b a f).b j=n.b j:=λj=>jn n.ag l b a f j;have Z:∀u,(n.ag.cg l b a f).al u=n.al u:=λu=>og n.ag l b a f u;have aw:=o.nG b z ao ah;refine⟨N,rb n.ag l b a f,oh n.ag l b a f,by rw[kf];rfl,λj=>?_,A,z,λj F=>L j,by rw[L];exact ah,by rw[L];exact aw,by rw[Z];exact p,λu _ _=>Z u,AT ⟨p,(L b).symm⟩,?_,λj F=>?_,?_⟩
  ·rw[jo t,jn,ke];dsimp only;by_cases m:j=b
   ·rw[A8 m,A8 m,m];rfl
   ·rw[A1 m,A1 m];rfl
  ·rw[hx (n:=n) (by rw[kf];rfl) Y];omega
  ·rw[jo t,A1 F];rfl
  ·have S:(n.ag.cg l b a f).y b=n.y b+1:=by unfold y;rw[jo t,A8 A,Ad];rfl
   have ak:(n.ag.cg l b a f).ca b=n.ca b:=by
    have an:(n.ag.cg l b a f).i=n.i:=by have:=AB K.i (oh n.ag l b a f);exact this
    unfold ca;rw[jo t,A8 A,an];rfl
   show(n.ag.cg l b a f).y b<=(n.ag.cg l b a f).ca b;rw[S,ak];unfold ci at au;omega
 ·have ag:n.ag.he (n.ag.al l):=af;have am:n.ag.ar b=R:=H;have r:b<n.ag.j.length:=z;have aa:=vu x q r ag am;have M:=mn (n:=n.ag) q b;have ai:(n.ag.bs l b).j.length=n.j.length:=by rw[lc,B_];rfl
  have t:b<(n.ag.bs l b).ab.length:=by rw[aa.nA,ai];exact z
  obtain⟨N,Y⟩:=oi aa q M a f;have aj:n.y b=0:=by
   unfold ar at H;simp only[GK,F1] at H;exact H.1.1
  have aq:(n.w b).a=[]:=KN aj;have U:(n.ag.bs l b).b b=⟨if l=2 then 2 else 1,0,0,0,1⟩:=by rw[jp r,A8 A]
  rw[W];dsimp only;refine⟨N,by rw[rb,ov];rfl,by rw[oh,ou];rfl,by rw[kf,ai],λj=>?_,aj.symm,z,λj F=>by rw[jn,jp r,A1 F];rfl,?_,?_,by rw[og];exact M,λu av ap=>by rw[og,mo q b u av,A1 ap];rfl,Ae ⟨H,A,af,by rw[jn];exact U⟩,?_,λj F=>?_,?_⟩
  ·rw[jo t,jn,ke,jq x r,ov];dsimp only;by_cases m:j=b
   ·rw[A8 m,A8 m,m,aq,rp];simp only[FG];rfl
   ·rw[A1 m,A1 m,jq x r,A1 m];rfl
  ·rw[jn,U];show(if l=2 then 2 else 1)≠3;split<;>omega
  ·rw[jn,U];exact AI _
  ·rw[hx (n:=n.ag.bs l b) (by rw[kf]) Y];exact vr x q r ag
  ·rw[jo t,A1 F,jq x r,A1 F];rfl
  ·have S:((n.ag.bs l b).cg l b a f).y b=1:=by
    unfold y;rw[jo t,A8 A,jq x r,A8 A];rfl
   show((n.ag.bs l b).cg l b a f).y b<=((n.ag.bs l b).cg l b a f).ca b;rw[S];have:=rg N b;omega
end K
namespace K
def cq(a:K)(f:B):G B:=if a.g.getD f 0=0 then U a.aj 0 else(a.ay (DE (a.g.getD f 0))).take a.aj
def az(f:K)(a:B):G B:=match f.h.getD a E with|some j=>j.a|none=>f.cq a
def fi(b:G B)(a:B):B:=Az (b.drop (a*4)) 4
def fz(a:K)(f:B):B:=fi (a.az (f/a.ao)) (f%a.ao)
def gb(v:B):AC AF:=if v=0 then E else C (DE v)
def ba(f:K)(a:B):AC AF:=gb (f.fz a)
structure fh(a:K):Prop where
 nF:a.aj%4=0
 nE:4<=a.aj
 nA:a.h.length=a.g.length
 nB:a.v<=a.g.length*a.ao
 nC:∀(f:B)(j:CG),a.h[f]?=C (C j)->j.a.length=a.aj
 nD:∀f,f<a.g.length->(a.cq f).length=a.aj
variable{n:K}
def qf(a:n.fh):0<n.ao:=by have:=a.nE;unfold ao;omega
def gr(a:n.fh)(f:l<n.v):l/n.ao<n.g.length:=by
 have:=a.nB;exact(Nat.div_lt_iff_lt_mul (qf a)).2 (show l<n.g.length*n.ao by omega)
def hp(f:n.fh)(m:l<n.g.length):(n.az l).length=n.aj:=by
 unfold az;cases a:n.h.getD l E with
 |none=>exact f.nD l m
 |some o=>
  refine f.nC l o ?_;rw[AY] at a;cases j:n.h[l]? with
  |none=>rw[j] at a;cases a
  |some p=>rw[j] at a;exact AB C a
def cz{f:G yh}{n m:yh}(p:l<f.length)(a:B):(f.set l n).getD a m=if a=l then n else f.getD a m:=by
 by_cases j:a=l
 ·subst j;rw[A8 A,AY,Mh p];rfl
 ·rw[A1 j,AY,Ir (λo=>j o.symm),<-AY]
def da(a:K):K:={a with h:=[],an:=0,u:=0}
structure hs(j l:K)(m:B):Prop where
 nA:l.da=j.da
 nG:l.h.length=j.h.length
 nE:∃a,l.h.getD m E=C a/\a.a=j.az m
 nB:∀f,l.az f=j.az f
 nC:∀f,(match l.h.getD f E with|some a=>a.b|none=>I)=(match j.h.getD f E with|some a=>a.b|none=>I)
def ga(q:n.fh)(r:l<n.g.length):hs n (n.am l) l:=by
 have o:l<n.h.length:=by rw[q.nA];exact r
 cases j:n.h.getD l E with
 |some m=>
  have p:n.am l={n with an:=n.an+1,h:=n.h.set l (C {m with c:=n.an+1})}:=by unfold am;rw[j]
  rw[p];refine⟨A,Y1,⟨_,by rw[cz o,A8 A],?_⟩,λa=>?_,λa=>?_⟩
  ·show m.a=n.az l;unfold az;rw[j]
  ·show(match(n.h.set l (C {m with c:=n.an+1})).getD a E with|some m=>m.a|none=>n.cq a)=n.az a;rw[cz o];by_cases f:a=l
   ·subst f;rw[A8 A];unfold az;rw[j]
   ·rw[A1 f];rfl
  ·dsimp only;rw[cz o];by_cases f:a=l
   ·subst f;rw[A8 A,j]
   ·rw[A1 f]
 |none=>
  have p:n.am l={n with an:=n.an+1,u:=(if n.g.getD l 0=0 then n.u else n.u+1),h:=n.h.set l (C ⟨n.cq l,I,n.an+1⟩)}:=by unfold am;rw[j];rfl
  rw[p];refine⟨A,Y1,⟨_,by rw[cz o,A8 A],?_⟩,λa=>?_,λa=>?_⟩
  ·show n.cq l=n.az l;unfold az;rw[j]
  ·show(match(n.h.set l (C ⟨n.cq l,I,n.an+1⟩)).getD a E with|some m=>m.a|none=>n.cq a)=n.az a;rw[cz o];by_cases f:a=l
   ·subst f;rw[A8 A];unfold az;rw[j]
   ·rw[A1 f];rfl
  ·dsimp only;rw[cz o];by_cases f:a=l
   ·subst f;rw[A8 A,j]
   ·rw[A1 f]
variable{r:K}
def hs.nD(f:hs n r l):r.g=n.g/\r.aj=n.aj/\r.ab=n.ab/\r.t=n.t/\r.j=n.j/\r.i=n.i:=by
 have a:=f.nA;refine⟨?_,?_,?_,?_,?_,?_⟩
 ·have:=AB K.g a;exact this
 ·have:=AB K.aj a;exact this
 ·have:=AB K.ab a;exact this
 ·have:=AB K.t a;exact this
 ·have:=AB K.j a;exact this
 ·have:=AB K.i a;exact this
def hs.nI(f:hs n r l)(a:B):r.cq a=n.cq a:=by
 obtain⟨j,m,o,_⟩:=f.nD;unfold K.cq ay K.w;rw[j,m,o]
def hs.nH(f:hs n r l)(a:n.fh):r.fh:=by
 obtain⟨p,j,y,u,_⟩:=f.nD;refine⟨by rw[j];exact a.nF,by rw[j];exact a.nE,by rw[f.nG,p];exact a.nA,by unfold K.v ao;rw[u,p,j];exact a.nB,λo x q=>?_,λo m=>by rw[f.nI,j];rw[p] at m;exact a.nD o m⟩;have m:o<r.h.length:=(Cx.1 q).1;have t:r.az o=x.a:=by unfold K.az;rw[AY,q];rfl
 rw[<-t,f.nB,j];exact hp a (by rw[f.nG,a.nA] at m;exact m)
def hs.nF(a:hs n r l)(f:B):r.fz f=n.fz f:=by
 obtain⟨m,j,_⟩:=a.nD;unfold K.fz ao;rw[j,a.nB]
def mj(f:n.fh)(o:l<n.v):(n.be l).1=n.ba l/\hs n (n.be l).2 (l/n.ao):=by
 have a:=ga f (gr f o);obtain⟨q,p,m⟩:=a.nE;have j:(n.am (l/n.ao)).gv l=n.fz l:=by
  unfold gv;have:(n.am (l/n.ao)).ao=n.ao:=by have:=a.nD.2.1;show(n.am (l/n.ao)).aj/4=n.aj/4;rw[this]
  rw[this,p];show Az (q.a.drop (l%n.ao*4)) 4=_;rw[m];rfl
 refine⟨?_,a⟩;show(if(n.am (l/n.ao)).gv l=0 then E else C (DE ((n.am (l/n.ao)).gv l)))=_;rw[j];rfl
end K
namespace K
def ha(j:K):Prop:=∀(f:B)(a:CG),j.h.getD f E=C a->a.b=I->a.a=j.cq f
variable{n:K}
def le(m:n.fh)(y:n.ha)(p:l<n.g.length):(n.am l).ha:=by
 have j:=ga m p;have F:l<n.h.length:=by rw[m.nA];exact p
 intro f t q z;rw[j.nI];have o:=j.nB f;have a:=j.nC f;rw[q] at a;have x:(n.am l).az f=t.a:=by unfold K.az;rw[q]
 rw[x] at o;rw[o];unfold K.az;cases r:n.h.getD f E with
 |none=>rfl
 |some u=>
  rw[r] at a;have a:t.b=u.b:=a;rw[z] at a;exact y f u r a.symm
def qk{b:G B}{f a v:B}(j:f*4+4<=b.length)(m:v<256^4):fi (BO b (f*4) (AS v 4)) a=if a=f then v else fi b a:=by
 unfold fi;by_cases l:a=f
 ·subst l;rw[A8 A];exact gM j m
 ·rw[A1 l];exact gN (by rw[BK];exact j) Z0
structure tf(a j:K)(m o:B):Prop where
 nA:j.da=a.da
 nF:j.fh
 nC:a.ha->j.ha
 nE:∀l,l<a.v->j.fz l=if l=m then o else a.fz l
 nD:∀f,f≠m/a.ao->(match j.h.getD f E with|some n=>n.b|none=>I)=(match a.h.getD f E with|some n=>n.b|none=>I)
 nB:∀f,f≠m/a.ao->j.az f=a.az f
def op(p:n.fh){f v:B}(am:f<n.v)(an:v<256^4):tf n (n.ch f v) f v:=by
 have z:=gr p am;have o:=ga p z;have y:=o.nH p;obtain⟨m,ag,N⟩:=o.nE;obtain⟨aq,H,ar,au,av,aw⟩:=o.nD;have Z:(n.am (f/n.ao)).ao=n.ao:=by show(n.am (f/n.ao)).aj/4=n.aj/4;rw[H]
 have G:(n.am (f/n.ao)).gv f=n.fz f:=by
  unfold gv;rw[Z,ag];show Az (m.a.drop (f%n.ao*4)) 4=_;rw[N];rfl
 have ai:=qf p;by_cases x:n.fz f=v
 ·have t:n.ch f v=n.am (f/n.ao):=by
   unfold ch;dsimp only;rw[G,A8 x]
  rw[t];refine⟨o.nA,y,λS=>K.le p S z,λu al=>?_,λj _=>o.nC j,λj _=>o.nB j⟩;rw[o.nF];by_cases l:u=f
  ·subst l;rw[A8 A];exact x
  ·rw[A1 l]
 ·obtain⟨r,M⟩:∃r,r=BO m.a (f%n.ao*4) (AS v 4):=⟨_,A⟩;have t:n.ch f v={n.am (f/n.ao) with h:=(n.am (f/n.ao)).h.set (f/n.ao) (C {m with a:=r,b:=R})}:=by
   unfold ch;dsimp only;rw[G,A1 x,ag,M];rfl
  have F:f/n.ao<(n.am (f/n.ao)).h.length:=by rw[o.nG,p.nA];exact z
  have ap:m.a.length=n.aj:=by rw[N];exact hp p z
  have aa:f%n.ao*4+4<=m.a.length:=by
   have ax:=Ml f ai;have ay:n.ao*4<=n.aj:=by unfold ao;omega
   omega
  have ah:r.length=n.aj:=by rw[M,G_ (by rw[BK];exact aa),ap]
  have af:∀j,(n.ch f v).az j=if j=f/n.ao then r else n.az j:=by
   intro j;rw[t];show(match((n.am (f/n.ao)).h.set (f/n.ao) (C {m with a:=r,b:=R})).getD j E with|some m=>m.a|none=>(n.am (f/n.ao)).cq j)=_;rw[cz F];by_cases l:j=f/n.ao
   ·rw[A8 l,A8 l]
   ·rw[A1 l,A1 l];exact o.nB j
  refine⟨by rw[t];exact o.nA,?_,λS j W q Y=>?_,λu al=>?_,λj U=>?_,λj U=>by rw[af,A1 U]⟩
  ·rw[t];refine⟨by rw[show({n.am (f/n.ao) with h:=(n.am (f/n.ao)).h.set (f/n.ao) (C {m with a:=r,b:=R})}:K).aj=n.aj from H];exact p.nF,by rw[show({n.am (f/n.ao) with h:=(n.am (f/n.ao)).h.set (f/n.ao) (C {m with a:=r,b:=R})}:K).aj=n.aj from H];exact p.nE,by rw[B_];exact y.nA,y.nB,λj W q=>?_,λj ak=>y.nD j ak⟩;by_cases l:j=f/n.ao
   ·subst l;rw[Mh F] at q;cases q;exact ah.trans H.symm
   ·rw[Ir (λG=>l G.symm)] at q;exact y.nC j W q
  ·rw[t] at q⊢;by_cases l:j=f/n.ao
   ·subst l;rw[cz F,A8 A] at q;cases q;cases Y
   ·rw[cz F,A1 l] at q;exact K.le p S z j W q Y
  ·have aj:(n.ch f v).ao=n.ao:=by rw[t];exact Z
   unfold K.fz;rw[aj,af];by_cases l:u/n.ao=f/n.ao
   ·rw[A8 l,M,qk aa an,N];by_cases L:u%n.ao=f%n.ao
    ·have:u=f:=by rw[<-Zo u n.ao,<-Zo f n.ao,l,L]
     rw[A8 L,A8 this]
    ·have:u≠f:=λx=>L (by rw[x]);rw[A1 L,A1 this,l]
   ·have:u≠f:=λx=>l (by rw[x]);rw[A1 l,A1 this]
  ·rw[t];show(match((n.am (f/n.ao)).h.set (f/n.ao) (C {m with a:=r,b:=R})).getD j E with|some m=>m.b|none=>I)=_;rw[cz F,A1 U];exact o.nC j
end K
namespace K
def ak(f:K)(a:AF):Prop:=a.a<f.j.length/\a.b<f.y a.a/\(f.b a.a).a≠3
def fo(f:K)(j:B)(l:AF):Prop:=∃a:AN,K6 (f.ay l) f.aj=(a,R)/\a.b=1/\a.c=j
structure cf(a:K):Prop where
 nA:a.dm
 nB:a.fh
 nG:a.ha
 nI:a.i<=256
 nH:a.j.length<=1024
 nD:∀(nA n:B)(m:G B),(a.w nA).a[n]?=C m->m.length=a.aj+64
 nF:∀nA,nA<a.j.length->(a.b nA).a≠3->a.y nA<=a.ca nA
 nE:∀f,f<a.g.length->a.g.getD f 0≠0->a.ak (DE (a.g.getD f 0))
 nC:∀j l,j<a.v->a.ba j=C l->a.ak l/\a.fo j l
def ki(a:AF)(f:a.b<256):DE a.c=a:=by
 unfold DE AF.c;obtain⟨b,j⟩:=a;dsimp only at f⊢;rw[show b*256+j+1-1=j+b*256 by omega,Nat.add_mul_div_right _ _ Z,Nat.div_eq_of_lt f,Nat.add_mul_mod_self_right,Ja f];simp
structure dy(a f:K):Prop where
 nB:f.aj=a.aj
 nD:f.j.length=a.j.length
 nA:∀j,a.ak j->f.ak j/\f.ay j=a.ay j
 nF:∀l,(a.b l).a=3->(f.b l).a=3
def dy.nH(f:K):dy f f:=⟨A,A,λj a=>⟨a,A⟩,λ_ a=>a⟩
def dy.nE{m b n:K}(a:dy m b)(f:dy b n):dy m n:=
 ⟨f.nB.trans a.nB,f.nD.trans a.nD,λj l=>⟨(f.nA j (a.nA j l).1).1,((f.nA j (a.nA j l).1).2).trans (a.nA j l).2⟩,λo p=>f.nF o (a.nF o p)⟩
variable{n r:K}{xq:AF}
def jv.nJ(f:jv n r xq l ym q):dy n r:=by
 have z:r.aj=n.aj:=by have:=AB K.aj f.nA;exact this
 refine⟨z,f.nF,λa⟨t,o,u⟩=>?_,λF m=>?_⟩;rotate_left
 ·by_cases j:F=xq.a
  ·exfalso;rw[j] at m;rcases f.nB with⟨_,a⟩|⟨a,_⟩
   ·exact f.nI (by rw[<-a];exact m)
   ·unfold ar at a;simp only[GK,Bn,K_] at a;exact a.1.2 m
  ·rw[f.nE _ j];exact m
 have p:=f.nC a.a;have x:n.y a.a<=r.y a.a:=by
  unfold y;rw[p];split
  ·rw[Ad];omega
  ·exact AI _
 refine⟨⟨by rw[f.nF];exact t,TY o x,?_⟩,?_⟩
 ·by_cases j:a.a=xq.a
  ·rw[j];exact f.nI
  ·rw[f.nE _ j];exact u
 ·unfold ay;rw[p];split
  ·exact L4 o
  ·rfl
def jv.nD(j:jv n r xq l ym q):r.ak xq/\r.ay xq=(({ym with a:=n.ap+1,d:=r.x,f:=(r.b xq.a).b}:AN)).e q n.aj:=by
 have m:=j.nC xq.a;rw[A8 A] at m;refine⟨⟨by rw[j.nF];exact j.nP,?_,j.nI⟩,?_⟩
 ·unfold y;rw[m,Ad,j.nM];show(n.w xq.a).a.length<_;simp
 ·unfold ay;rw[m,j.nM];unfold y;rw[M6 (AI _),OE];rfl
def dy.nI(f:dy n r)(j:r.g=n.g)(m:n.g.getD l 0≠0->n.ak (DE (n.g.getD l 0))):r.cq l=n.cq l:=by
 unfold K.cq;rw[j,f.nB];by_cases a:n.g.getD l 0=0
 ·rw[A8 a,A8 a]
 ·rw[A1 a,A1 a,(f.nA _ (m a)).2]
def dy.nC(l:dy n r)(f:n.cf)(o:r.g=n.g)(p:r.h=n.h)(B:r.t=n.t):r.fh/\r.ha/\(∀a,a<n.g.length->r.az a=n.az a)/\∀m,m<n.v->r.ba m=n.ba m:=by
 have t:∀a,a<n.g.length->r.cq a=n.cq a:=λa j=>l.nI o (f.nE a j);have x:∀a,a<n.g.length->r.az a=n.az a:=λa j=>by unfold K.az;rw[p,t a j]
 refine⟨⟨by rw[l.nB];exact f.nB.nF,by rw[l.nB];exact f.nB.nE,by rw[p,o];exact f.nB.nA,by unfold K.v ao;rw[B,o,l.nB];exact f.nB.nB,by rw[p,l.nB];exact f.nB.nC,λa j=>by rw[o] at j;rw[t a j,l.nB];exact f.nB.nD a j⟩,λa F q y=>?_,x,λm z=>?_⟩
 ·rw[p] at q;have j:a<n.g.length:=by
   rw[<-f.nB.nA];rcases Ck a n.h.length with u|u
   ·exact u
   ·rw[AY,Dm u] at q;cases q
  rw[t a j];exact f.nG a F q y
 ·unfold K.ba K.fz ao;rw[l.nB];have:=x (m/(n.aj/4)) (gr f.nB z);rw[this]
def vp(o:n.cf)(a:jv n r xq l ym q):∀b,b<r.j.length->(r.b b).a≠3->r.y b<=r.ca b:=by
 intro b j m;rw[a.nF] at j;have t:r.i=n.i:=by have:=AB K.i a.nA;exact this
 by_cases f:b=xq.a
 ·subst f;exact a.nQ
 ·have p:r.y b=n.y b:=by unfold y;rw[a.nC,A1 f]
  have u:=a.nK b f;rw[a.nE b f] at m;have:=o.nF b j m;unfold K.ca at this⊢;rw[p,u,t];exact this
end K
namespace K
structure di(a f:K):Prop where
 nB:f.cf
 nA:dy a f
 nE:f.t=a.t
 nC:f.g.length=a.g.length
 nG:∀j,j<a.v->f.ba j=a.ba j
variable{n:K}
def di.nH(a:n.cf):di n n:=⟨a,dy.nH n,A,A,λ_ _=>A⟩
def di.nD{l b m:K}(a:di l b)(f:di b m):di l m:=
 ⟨f.nB,a.nA.nE f.nA,f.nE.trans a.nE,f.nC.trans a.nC,λn j=>(f.nG n (by unfold K.v at j⊢;rw[a.nE];exact j)).trans (a.nG n j)⟩
variable{r:K}{xq:AF}
def fo.nA(a:dy n r)(p:n.ak xq)(f:n.fo l xq):r.fo l xq:=by
 obtain⟨q,j,m,o⟩:=f;exact⟨q,by rw[(a.nA xq p).2,a.nB];exact j,m,o⟩
def ld(f:n.cf)(Z:l<=2)(U:0<n.au)(p:AN)(V:q.length<=n.aj):di n (n.af l p q).2:=by
 have j:=fw f.nA Z U p q;have o:=j.nJ;have t:(n.af l p q).2.g=n.g:=by have:=AB K.g j.nA;exact this
 have Y:(n.af l p q).2.h=n.h:=by have:=AB K.h j.nA;exact this
 have x:(n.af l p q).2.t=n.t:=by have:=AB K.t j.nA;exact this
 have W:(n.af l p q).2.i=n.i:=by have:=AB K.i j.nA;exact this
 obtain⟨af,ag,ai,N⟩:=o.nC f t Y x;refine⟨⟨j.nO,af,ag,by rw[W];exact f.nI,by rw[j.nF];exact f.nH,λb r S a=>?_,vp f j,λaa H F=>?_,λy P u M=>?_⟩,o,x,by rw[t],N⟩
 ·rw[o.nB];rw[j.nC] at a;split at a
  ·rcases Ck r ((n.w b).a.length) with z|z
   ·rw[Di z] at a;exact f.nD b r S a
   ·rw[G3 z] at a
    match hj:r-(n.w b).a.length,a with
    |0,a=>simp only[GI,EX] at a;subst a;exact AN.j _ V
    |m+1,a=>simp at a
  ·exact f.nD b r S a
 ·rw[t] at H F⊢;exact(o.nA _ (f.nE aa H F)).1
 ·have L:y<n.v:=by unfold K.v at u⊢;rw[x] at u;exact u
  rw[N y L] at M;obtain⟨Q,ah⟩:=f.nC y P L M;exact⟨(o.nA P Q).1,ah.nA o Q⟩
def kk(f:n.cf){b:B}(Y:b<n.j.length)(aq:0<n.y b)(l:Cq->Cq)(aa:∀u,(l u).a=u.a)(aj:∀u,(l u).b=u.b):di n (n.bl b l)/\(n.bl b l).da={n.da with j:=(n.bl b l).j}/\(n.bl b l).h=n.h/\(n.bl b l).au=n.au:=by
 have z:=λa=>ji (n:=n) l Y a;have m:(n.bl b l).j.length=n.j.length:=B_;have q:∀a,((n.bl b l).b a).a=(n.b a).a:=λa=>by
  rw[z];split
  ·rename_i o;rw[aa,o]
  ·rfl
 have F:∀a,(n.bl b l).ar a=n.ar a:=λa=>by
  unfold ar;rw[q];rfl
 have x:dy n (n.bl b l):=⟨A,m,λy⟨U,W,r⟩=>⟨⟨by rw[m];exact U,W,by rw[q];exact r⟩,A⟩,λu ak=>by rw[q];exact ak⟩;have af:n.ar b=I:=by
  have:(n.y b==0)=I:=Y5;unfold ar;rw[this];rfl
 have ap:(n.bl b l).dm:=by
  refine⟨by rw[m];exact f.nA.nA,λa p t=>?_,λa p t r=>?_,λa o=>?_,λa o=>?_,λa o=>?_,f.nA.nF⟩
  ·rw[F] at t;have ag:a≠b:=λN=>by rw[N,af] at t;cases t
   rw[z,A1 ag];rw[m] at p;exact f.nA.nD a p t
  ·rw[F] at t;rw[q] at r;rw[m] at p;have:=f.nA.nG a p t r;rw[z];split
   ·rename_i o;rw[aj,<-o];exact this
   ·exact this
  ·rw[m,q];exact f.nA.nC a o
  ·rw[m,q];exact f.nA.nB a o
  ·rw[m,q];exact f.nA.nE a o
 obtain⟨am,an,au,L⟩:=x.nC f A A A;refine⟨⟨⟨ap,am,an,f.nI,by rw[m];exact f.nH,f.nD,λa p r=>by rw[q] at r;rw[m] at p;exact f.nF a p r,λal Z S=>(x.nA _ (f.nE al Z S)).1,λG y H ah=>?_⟩,x,A,A,L⟩,A,A,hx m F⟩;have ai:n.ba G=C y:=by rw[<-L G H];exact ah
 obtain⟨M,ao⟩:=f.nC G y H ai;exact⟨(x.nA y M).1,ao.nA x M⟩
def dy.nG(f:r.da=n.da):dy n r:=by
 have p:r.aj=n.aj:=by have:=AB K.aj f;exact this
 have a:r.j=n.j:=by have:=AB K.j f;exact this
 have l:r.ab=n.ab:=by have:=AB K.ab f;exact this
 refine⟨p,by rw[a],λq⟨o,b,j⟩=>⟨⟨by rw[a];exact o,by unfold y K.w at b⊢;rw[l];exact b,by unfold K.b at j⊢;rw[a];exact j⟩,by unfold ay K.w;rw[l]⟩,λt m=>by unfold K.b at m⊢;rw[a];exact m⟩
def sy(m:r.da=n.da)(j:n.dm):r.dm/\r.au=n.au:=by
 have a:r.j=n.j:=by have:=AB K.j m;exact this
 have x:r.ab=n.ab:=by have:=AB K.ab m;exact this
 have z:r.bh=n.bh:=by have:=AB K.bh m;exact this
 have B:r.bg=n.bg:=by have:=AB K.bg m;exact this
 have F:r.br=n.br:=by have:=AB K.br m;exact this
 have G:r.i=n.i:=by have:=AB K.i m;exact this
 have l:∀b,r.b b=n.b b:=λb=>by unfold K.b;rw[a]
 have o:∀b,r.w b=n.w b:=λb=>by unfold K.w;rw[x]
 have t:∀b,r.ar b=n.ar b:=λb=>by unfold ar y cc;rw[l,o,z,B,F]
 refine⟨⟨by rw[a,x];exact j.nA,λb p q=>?_,λb p q u=>?_,λb f=>?_,λb f=>?_,λb f=>?_,by rw[G];exact j.nF⟩,hx (by rw[a]) t⟩
 ·rw[t] at q;rw[a] at p;rw[l,o];exact j.nD b p q
 ·rw[t] at q;rw[a] at p;rw[l] at u⊢;exact j.nG b p q u
 ·rw[z] at f;rw[a,l,o];exact j.nC b f
 ·rw[B] at f;rw[a,l,o];exact j.nB b f
 ·rw[F] at f;rw[a,l,o];exact j.nE b f
end K
namespace K
variable{n r:K}
def jj(a:r.da=n.da)(f:n.dm):r.au=n.au:=(sy a f).2
def mu(a:r.da=n.da):r.i=n.i/\r.j=n.j/\r.ab=n.ab/\r.g=n.g/\r.t=n.t/\r.aj=n.aj:=by
 refine⟨?_,?_,?_,?_,?_,?_⟩
 ·have:=AB K.i a;exact this
 ·have:=AB K.j a;exact this
 ·have:=AB K.ab a;exact this
 ·have:=AB K.g a;exact this
 ·have:=AB K.t a;exact this
 ·have:=AB K.aj a;exact this
def of(a:n.cf)(m:r.da=n.da)(aa:r.fh)(Y:r.ha)(Z:∀j f,j<n.v->r.ba j=C f->n.ak f/\n.fo j f):r.cf:=by
 obtain⟨q,l,M,N,S,U⟩:=mu m;have o:=dy.nG m;have W:r.v=n.v:=by unfold K.v;rw[S]
 have L:∀b,r.b b=n.b b:=λb=>by unfold K.b;rw[l]
 have p:∀b,r.w b=n.w b:=λb=>by unfold K.w;rw[M]
 refine⟨(sy m a.nA).1,aa,Y,by rw[q];exact a.nI,by rw[l];exact a.nH,λb ah H F=>by rw[p] at F;rw[U];exact a.nD b ah H F,λb x u=>?_,λag z t=>?_,λj f B af=>?_⟩
 ·rw[l] at x;rw[L] at u;have:=a.nF b x u;unfold K.ca y at this⊢;rw[p,q];exact this
 ·rw[N] at z t⊢;exact(o.nA _ (a.nE ag z t)).1
 ·rw[W] at B;obtain⟨G,ai⟩:=Z j f B af;exact⟨(o.nA f G).1,ai.nA o G⟩
def oz(j:n.cf)(f:hs n r l)(q:r.ha):di n r:=by
 obtain⟨y,z,F,o,p,G⟩:=mu f.nA;have m:∀a,r.ba a=n.ba a:=λa=>by unfold K.ba;rw[f.nF]
 exact⟨of j f.nA (f.nH j.nB) q (λa x t u=>j.nC a x t (by rw[<-m a];exact u)),dy.nG f.nA,p,by rw[o],λa _=>m a⟩
def ri(a:n.cf)(j:l<n.v):(n.be l).1=n.ba l/\di n (n.be l).2/\(n.be l).2.au=n.au:=by
 obtain⟨m,f⟩:=mj a.nB j;exact⟨m,oz a f (K.le a.nB a.nG (gr a.nB j)),jj f.nA a.nA⟩
structure ik(a f:K)(l:B)(m:AC AF):Prop where
 nE:f.cf
 nA:dy a f
 nB:f.t=a.t
 nD:f.g.length=a.g.length
 nC:∀j,j<a.v->f.ba j=if j=l then m else a.ba j
 nF:f.au=a.au
def di.nF(a:di n r):r.v=n.v:=by unfold K.v;rw[a.nE]
def di.nK{j b m:K}{v:AC AF}(f:di j b)(p:b.au=j.au)(a:ik b m l v):ik j m l v:=
 ⟨a.nE,f.nA.nE a.nA,a.nB.trans f.nE,a.nD.trans f.nC,λo n=>by
  rw[a.nC o (by rw[f.nF];exact n)];split
  ·rfl
  ·exact f.nG o n,a.nF.trans p⟩
def oo(m:n.cf){j v:B}(u:j<n.v)(y:v<256^4)(x:∀l,gb v=C l->n.ak l/\n.fo j l):ik n (n.ch j v) j (gb v):=by
 have f:=op m.nB u y;obtain⟨F,G,H,r,t,L⟩:=mu f.nA;have q:∀a,a<n.v->(n.ch j v).ba a=if a=j then gb v else n.ba a:=λa o=>by
  unfold K.ba;rw[f.nE a o];split<;>rfl
 refine⟨of m f.nA f.nF (f.nC m.nG) (λa l o p=>?_),dy.nG f.nA,t,by rw[r],q,jj f.nA m.nA⟩;rw[q a o] at p;split at p
 ·rename_i z;subst z;exact x l p
 ·exact m.nC a l o p
variable{xq:AF}
def gw(a:n.ak xq):0<n.y xq.a:=by have:=a.2.1;omega
def kz(f:n.cf)(a:n.ak xq):xq.b<256/\xq.c<256^4:=by
 have j:=f.nF xq.a a.1 a.2.2;have l:=a.2.1;have m:=f.nI;have o:=f.nH;have p:=a.1;have q:n.ca xq.a<=n.i:=by unfold K.ca;split<;>omega
 refine⟨Y,?_⟩;unfold AF.c;have:(256:B)^4=4294967296:=Z;omega
def tt(f:n.cf)(o:AC AF)(m:∀a,o=C a->n.ak a):di n (n.ev o)/\(n.ev o).au=n.au:=by
 cases o with
 |none=>exact⟨di.nH f,A⟩
 |some a=>
  have j:=m a A;have:=kk f (b:=a.a) j.1 (gw j) (λl=>{l with c:=l.c-1}) (λ_=>A) (λ_=>A);exact⟨this.1,this.2.2.2⟩
def ti(l:n.cf)(a:AF)(f:n.ak a):di n (n.ee a)/\(n.ee a).au=n.au:=by
 have:=kk l (b:=a.a) f.1 (gw f) (λj=>{j with c:=j.c+1}) (λ_=>A) (λ_=>A);exact⟨this.1,this.2.2.2⟩
def ws(N:n.cf)(t:l<n.v)(x:n.ak xq)(ag:n.fo l xq):ik n (n.de l xq) l (C xq):=by
 obtain⟨p,a,q⟩:=ri N t;obtain⟨o,m,u⟩:∃o m,n.be l=(o,m):=⟨_,_,A⟩;have y:n.de l xq=((m.ev o).ee xq).ch l xq.c:=by unfold K.de;rw[u]
 rw[u] at p a q;dsimp only at p a q;clear u;obtain⟨r,H⟩:=tt a.nB o (λZ af=>(a.nA.nA Z (N.nC l Z t (by rw[<-p,af])).1).1);obtain⟨z,W⟩:∃z,z=m.ev o:=⟨_,A⟩;rw[<-W] at y r H;have G:=a.nD r;have ah:=(G.nA.nA xq x).1;obtain⟨j,L⟩:=ti r.nB xq ah;obtain⟨aa,Y⟩:∃aa,aa=z.ee xq:=⟨_,A⟩;rw[<-Y] at y j L;clear W Y;have f:=G.nD j;have S:=(f.nA.nA xq x).1;obtain⟨ai,aj⟩:=kz j.nB S;rw[y];have U:gb xq.c=C xq:=by
  unfold gb;rw[A1 (by unfold AF.c;omega),ki xq ai]
 have M:=oo j.nB (j:=l) (v:=xq.c) (by rw[f.nF];exact t) aj (λak F=>by
  rw[U] at F;cases F;exact⟨S,ag.nA f.nA x⟩)
 rw[U] at M;exact f.nK (by rw[L,H,q]) M
def xh(z:n.cf)(r:l<n.v):ik n (n.fl l) l E:=by
 obtain⟨m,a,p⟩:=ri z r;obtain⟨o,q,t⟩:∃o q,n.be l=(o,q):=⟨_,_,A⟩;rw[t] at m a p;dsimp only at m a p;cases o with
 |none=>
  have u:n.fl l=q:=by unfold fl;rw[t]
  rw[u];refine⟨a.nB,a.nA,a.nE,a.nC,λS M=>?_,p⟩;rw[a.nG S M];split
  ·rename_i f;rw[f,<-m]
  ·rfl
 |some f=>
  have u:n.fl l=(q.bl f.a λj=>{j with c:=j.c-1}).ch l 0:=by unfold fl;rw[t]
  have N:=(z.nC l f r m.symm).1;have F:=(a.nA.nA f N).1;obtain⟨y,_,_,H⟩:=kk a.nB (b:=f.a) F.1 (gw F) (λj=>{j with c:=j.c-1}) (λ_=>A) (λ_=>A);have x:=a.nD y;have L:=oo y.nB (j:=l) (v:=0) (by rw[x.nF];exact r) Z (λU G=>by cases G);rw[u];exact x.nK (by rw[H,p]) L
end K
namespace K
variable{n:K}
def sh(m:n.cf)(f:AF)(l:n.ak f)(a:Cq->Cq)(o:∀j,(a j).a=j.a)(p:∀j,(a j).b=j.b):di n (n.bl f.a a)/\(n.bl f.a a).au=n.au/\(n.bl f.a a).h=n.h/\(n.bl f.a a).g=n.g:=by
 have:=kk m (b:=f.a) l.1 (gw l) a o p;exact⟨this.1,this.2.2.2,A,A⟩
def pn(f:n.cf)(a:AF)(j:n.ak a):di n (n.ai a)/\(n.ai a).au=n.au/\(n.ai a).h=n.h/\(n.ai a).g=n.g:=sh f a j _ (λ_=>A) (λ_=>A)
def xc(f:n.cf)(a:AF)(j:n.ak a):di n (n.dn a)/\(n.dn a).au=n.au/\(n.dn a).h=n.h/\(n.dn a).g=n.g:=sh f a j _ (λ_=>A) (λ_=>A)
def tw(f:n.cf)(o:AC AF)(j:∀a,o=C a->n.ak a):di n (n.dw o)/\(n.dw o).au=n.au/\(n.dw o).h=n.h/\(n.dw o).g=n.g:=by
 cases o with
 |none=>exact⟨di.nH f,A,A,A⟩
 |some a=>exact xc f a (j a A)
variable{yk:CG}
def iw(f:n.h.getD l E=C yk):l<n.h.length:=by
 rcases Ck l n.h.length with a|a
 ·exact a
 ·rw[AY,Dm a] at f;cases f
variable{xq:AF}
def sl(f:n.cf)(S:n.h.getD l E=C yk)(aj:n.ak xq)(a3:(n.ay xq).take n.aj=yk.a):
 di n (n.fm (n.g.set l xq.c) (n.h.set l (C {yk with b:=I})))/\(n.fm (n.g.set l xq.c) (n.h.set l (C {yk with b:=I}))).au=n.au:=by
 have Y:=iw S;have ai:l<n.g.length:=by rw[<-f.nB.nA];exact Y
 obtain⟨au,a6⟩:=kz f aj;have a2:xq.c≠0:=by unfold AF.c;omega
 obtain⟨m,r⟩:∃m,m=n.fm (n.g.set l xq.c) (n.h.set l (C {yk with b:=I})):=⟨_,A⟩;rw[<-r];have G:m.g=n.g.set l xq.c:=by rw[r];rfl
 have U:m.h=n.h.set l (C {yk with b:=I}):=by rw[r];rfl
 have t:m.aj=n.aj:=by rw[r];rfl
 have am:m.ab=n.ab:=by rw[r];rfl
 have o:m.j=n.j:=by rw[r];rfl
 have Z:m.t=n.t:=by rw[r];rfl
 have aa:m.i=n.i:=by rw[r];rfl
 have H:m.bh=n.bh/\m.bg=n.bg/\m.br=n.br:=by rw[r];exact⟨A,A,A⟩
 clear r;have u:∀b,m.b b=n.b b:=λb=>by unfold K.b;rw[o]
 have q:∀b,m.w b=n.w b:=λb=>by unfold K.w;rw[am]
 have af:∀b,m.ar b=n.ar b:=λb=>by unfold ar y cc;rw[u,q,H.1,H.2.1,H.2.2]
 have L:dy n m:=⟨t,by rw[o],λa⟨aw,b,ax⟩=>⟨⟨by rw[o];exact aw,by unfold y;rw[q];exact b,by rw[u];exact ax⟩,by unfold ay;rw[q]⟩,λyk S=>by rw[u];exact S⟩;have ah:∀j,m.cq j=if j=l then yk.a else n.cq j:=λj=>by
  unfold K.cq;rw[G,t,cz ai];by_cases a:j=l
  ·rw[A8 a,A8 a,A1 a2,ki xq au,(L.nA xq aj).2,a3]
  ·rw[A1 a,A1 a];have:∀ak,m.ay ak=n.ay ak:=λak=>by unfold ay;rw[q]
   rw[this]
 have a4:∀j,m.az j=n.az j:=λj=>by
  unfold K.az;rw[U,cz Y];by_cases a:j=l
  ·subst a;rw[A8 A,S]
  ·rw[A1 a,ah,A1 a]
 have an:yk.a.length=n.aj:=by
  have:=hp f.nB ai;unfold K.az at this;rw[S] at this;exact this
 have ap:∀F,m.ba F=n.ba F:=λF=>by unfold K.ba K.fz ao;rw[t,a4]
 refine⟨⟨⟨?_,?_,λj al p W=>?_,by rw[aa];exact f.nI,by rw[o];exact f.nH,λb j az W=>by rw[q] at W;rw[t];exact f.nD b j az W,λb z M=>by rw[o] at z;rw[u] at M;have:=f.nF b z M;unfold K.ca y at this⊢;rw[q,aa];exact this,λj N ag=>?_,λF a x aq=>?_⟩,L,Z,by rw[G,B_],λF _=>ap F⟩,hx (by rw[o]) af⟩
 ·refine⟨by rw[am,o];exact f.nA.nA,λb z x=>?_,λb z x M=>?_,λb a=>?_,λb a=>?_,λb a=>?_,by rw[aa];exact f.nA.nF⟩
  ·rw[af] at x;rw[o] at z;rw[u,q];exact f.nA.nD b z x
  ·rw[af] at x;rw[o] at z;rw[u] at M⊢;exact f.nA.nG b z x M
  ·rw[H.1] at a;rw[o,q,u];exact f.nA.nC b a
  ·rw[H.2.1] at a;rw[o,q,u];exact f.nA.nB b a
  ·rw[H.2.2] at a;rw[o,q,u];exact f.nA.nE b a
 ·refine⟨by rw[t];exact f.nB.nF,by rw[t];exact f.nB.nE,by rw[G,U,B_,B_];exact f.nB.nA,by unfold K.v ao;rw[G,t,Z,B_];exact f.nB.nB,λj al p=>?_,λj N=>?_⟩
  ·rw[U] at p;rw[t];by_cases a:j=l
   ·subst a;rw[Mh Y] at p;cases p;exact an
   ·rw[Ir (λa0=>a a0.symm)] at p;exact f.nB.nC j al p
  ·rw[G,B_] at N;rw[ah,t];split
   ·exact an
   ·exact f.nB.nD j N
 ·rw[U,cz Y] at p;rw[ah];by_cases a:j=l
  ·rw[A8 a] at p⊢;cases p;rfl
  ·rw[A1 a] at p⊢;exact f.nG j al p W
 ·rw[G,B_] at N;rw[G,cz ai] at ag⊢;by_cases a:j=l
  ·rw[A8 a];rw[ki xq au];exact(L.nA xq aj).1
  ·rw[A1 a] at ag⊢;exact(L.nA _ (f.nE j N ag)).1
 ·have a1:F<n.v:=by unfold K.v at x⊢;rw[Z] at x;exact x
  rw[ap] at aq;obtain⟨av,a5⟩:=f.nC F a a1 aq;exact⟨(L.nA a av).1,a5.nA L av⟩
def wr(j:n.cf)(a:B)(U:0<n.au):di n (n.bt a)/\n.au<=(n.bt a).au+1:=by
 unfold bt;cases F:n.h.getD a E with
 |none=>exact⟨di.nH j,IE _⟩
 |some f=>
  dsimp only;by_cases W:f.b=R
  ·rw[A8 W];have ao:=iw F;have Z:a<n.g.length:=by rw[<-j.nB.nA];exact ao
   have ar:f.a.length=n.aj:=by
    have:=hp j.nB Z;unfold K.az at this;rw[F] at this;exact this
   have u:=fw j.nA (l:=2) Y U ⟨3,a,0,0,0,0⟩ f.a;have o:=ld j (l:=2) Y U ⟨3,a,0,0,0,0⟩ (q:=f.a) Y;have S:=u.nN;obtain⟨p,x⟩:=u.nD;have z:(n.af 2 ⟨3,a,0,0,0,0⟩ f.a).2.h=n.h:=by have:=AB K.h u.nA;exact this
   unfold gt;dsimp only;obtain⟨l,q,aa⟩:∃l q,n.af 2 ⟨3,a,0,0,0,0⟩ f.a=(l,q):=⟨_,_,A⟩;rw[aa] at o S p x z⊢;dsimp only at o S p x z⊢;clear aa u;have ap:(q.ay l).take q.aj=f.a:=by
    rw[x,o.nA.nB,AN.t _ Y,ar,OE];simp
   clear x;obtain⟨r,aj,M,ak⟩:=pn o.nB l p;obtain⟨G,af⟩:∃G,G=q.ai l:=⟨_,A⟩;rw[<-af] at r aj M ak⊢;clear af;have L:=o.nD r;obtain⟨t,al,N,am⟩:=tw r.nB (n.bo a) (λav m=>by
    unfold bo at m;dsimp only at m;split at m
    ·cases m
    ·rename_i ah;cases m;exact(L.nA.nA _ (j.nE a Z ah)).1)
   obtain⟨H,ag⟩:∃H,H=G.dw (n.bo a):=⟨_,A⟩;rw[<-ag] at t al N am⊢;clear ag;have ai:=L.nD t;have y:=r.nD t;have aq:H.h.getD a E=C f:=by rw[N,M,z];exact F
   obtain⟨an,au⟩:=sl t.nB aq (y.nA.nA l p).1 (by rw[(y.nA.nA l p).2,y.nA.nB];exact ap);exact⟨ai.nD an,Y⟩
  ·rw[A1 W];exact⟨di.nH j,Y⟩
end K
namespace K
def mb(a:K):K:={a with bd:=0,u:=0,bv:=0,an:=0,aa:=[],aq:=E,av:=0,bn:=E,ac:=[],ap:=0,x:=0,bq:=0,cs:=[],aw:=0,bf:=(E,E),ae:=[],ct:=0,bi:=0,bj:=[],ax:=[],ah:=[],bb:=[]}
variable{n r:K}
def ft(a:n.cf)(l:r.mb=n.mb):di n r/\r.au=n.au:=by
 have x:r.g=n.g:=by have:=AB K.g l;exact this
 have ai:r.h=n.h:=by have:=AB K.h l;exact this
 have M:r.aj=n.aj:=by have:=AB K.aj l;exact this
 have N:r.ab=n.ab:=by have:=AB K.ab l;exact this
 have f:r.j=n.j:=by have:=AB K.j l;exact this
 have z:r.t=n.t:=by have:=AB K.t l;exact this
 have B:r.i=n.i:=by have:=AB K.i l;exact this
 have P:r.bh=n.bh:=by have:=AB K.bh l;exact this
 have Q:r.bg=n.bg:=by have:=AB K.bg l;exact this
 have L:r.br=n.br:=by have:=AB K.br l;exact this
 clear l;have m:∀b,r.b b=n.b b:=λb=>by unfold K.b;rw[f]
 have o:∀b,r.w b=n.w b:=λb=>by unfold K.w;rw[N]
 have F:∀b,r.ar b=n.ar b:=λb=>by unfold ar y cc;rw[m,o,P,Q,L]
 have u:dy n r:=⟨M,by rw[f],λj⟨af,b,ag⟩=>⟨⟨by rw[f];exact af,by unfold y;rw[o];exact b,by rw[m];exact ag⟩,by unfold ay;rw[o]⟩,λao aj=>by rw[m];exact aj⟩;obtain⟨ak,al,an,Z⟩:=u.nC a x ai z;refine⟨⟨⟨?_,ak,al,by rw[B];exact a.nI,by rw[f];exact a.nH,λb G ah U=>by rw[o] at U;rw[M];exact a.nD b G ah U,λb q t=>by rw[f] at q;rw[m] at t;have:=a.nF b q t;unfold K.ca y at this⊢;rw[o,B];exact this,λG V S=>?_,λH j p Y=>?_⟩,u,z,by rw[x],Z⟩,hx (by rw[f]) F⟩
 ·refine⟨by rw[N,f];exact a.nA.nA,λb q p=>?_,λb q p t=>?_,λb j=>?_,λb j=>?_,λb j=>?_,by rw[B];exact a.nA.nF⟩
  ·rw[F] at p;rw[f] at q;rw[m,o];exact a.nA.nD b q p
  ·rw[F] at p;rw[f] at q;rw[m] at t⊢;exact a.nA.nG b q p t
  ·rw[P] at j;rw[f,o,m];exact a.nA.nC b j
  ·rw[Q] at j;rw[f,o,m];exact a.nA.nB b j
  ·rw[L] at j;rw[f,o,m];exact a.nA.nE b j
 ·rw[x] at V S⊢;exact(u.nA _ (a.nE G V S)).1
 ·have W:H<n.v:=by unfold K.v at p⊢;rw[z] at p;exact p
  rw[Z H W] at Y;obtain⟨aa,am⟩:=a.nC H j W Y;exact⟨(u.nA j aa).1,am.nA u aa⟩
def xg(u:n.cf)(N:l<n.g.length):di n (n.co l)/\(n.co l).au=n.au:=by
 have y:=ga u.nB N;have q:=oz u y (K.le u.nB u.nG N);have H:=jj y.nA u.nA;obtain⟨x,m,_⟩:=y.nE;have t:n.co l={n.am l with h:=(n.am l).h.set l (C {x with b:=R})}:=by
  unfold co;dsimp only;rw[m];rfl
 obtain⟨j,S⟩:∃j,j=n.am l:=⟨_,A⟩;rw[<-S] at t q H m;clear S y;have z:=iw m;have F:(n.co l).da=j.da:=by rw[t];rfl
 have aj:∀a,(n.co l).az a=j.az a:=λa=>by
  rw[t];show(match(j.h.set l (C {x with b:=R})).getD a E with|some x=>x.a|none=>j.cq a)=j.az a;rw[cz z];by_cases p:a=l
  ·subst p;rw[A8 A];unfold K.az;rw[m]
  ·rw[A1 p];rfl
 have L:∀o,(n.co l).ba o=j.ba o:=λo=>by
  have:(n.co l).ao=j.ao:=by rw[t];rfl
  unfold K.ba K.fz;rw[this,aj]
 have ah:(n.co l).fh:=by
  have r:=q.nB.nB;rw[t];refine⟨r.nF,r.nE,by rw[B_];exact r.nA,r.nB,λa G f=>?_,λa af=>r.nD a af⟩;by_cases p:a=l
  ·subst p;rw[Mh z] at f;cases f;refine r.nC a x ?_;rw[AY] at m;cases U:j.h[a]? with
   |none=>rw[U] at m;cases m
   |some G=>rw[U] at m;exact AB C m
  ·rw[Ir (λW=>p W.symm)] at f;exact r.nC a G f
 have aa:(n.co l).ha:=λa G f M=>by
  rw[t] at f⊢;by_cases p:a=l
  ·subst p;rw[cz z,A8 A] at f;cases f;cases M
  ·rw[cz z,A1 p] at f;exact q.nB.nG a G f M
 obtain⟨al,am,an,Y,Z,ao⟩:=mu F;refine⟨q.nD ⟨of q.nB F ah aa (λo ak ag ai=>q.nB.nC o ak ag (by rw[<-L o];exact ai)),dy.nG F,Z,by rw[Y],λo _=>L o⟩,by rw[jj F q.nB.nA,H]⟩
end K
namespace K
def dl(a:K):G AF:=(AH a.g.length).filterMap a.bo
variable{n:K}{xq:AF}
def ms(j:n.cf)(m:l<n.g.length)(a:n.bo l=C xq):n.ak xq:=by
 unfold bo at a;dsimp only at a;split at a
 ·cases a
 ·rename_i f;cases a;exact j.nE l m f
def lh(f:n.cf):∀a∈n.dl,n.ak a:=by
 intro a m;obtain⟨o,l,j⟩:=List.mem_filterMap.1 m;exact ms f (Ce.1 l) j
def pa(f:K):∀(j:G B)(l:G AF)(a:K),a.g=f.g->j.foldl (λ(o:G AF×K) m=>match o.2.bo m with|some n=>(o.1++[n],o.2.ai n)|none=>o) (l,a)=(l++j.filterMap f.bo,(j.filterMap f.bo).foldl ai a)
 |[],l,a,_=>by simp
 |m::j,l,a,r=>by
  rw[DN];have q:a.bo m=f.bo m:=by unfold bo;rw[r]
  cases p:f.bo m with
  |none=>
   rw[p] at q;simp only[q];rw[pa f j l a r,List.filterMap_cons_none p]
  |some n=>
   rw[p] at q;simp only[q];rw[pa f j (l++[n]) (a.ai n) (by exact r),List.filterMap_cons_some p,DN];simp
def mt(a:K):a.jr=(a.dl,a.dl.foldl ai a):=by
 exact pa a (AH a.g.length) [] a A
def fs(o:G AF×K)(a:G B×B):G AF×K:=(o.1++[(o.2.af 2 ⟨4,a.2,0,0,0,0⟩ a.1).1],(o.2.af 2 ⟨4,a.2,0,0,0,0⟩ a.1).2.ai (o.2.af 2 ⟨4,a.2,0,0,0,0⟩ a.1).1)
def lk(a:K):a.cd=(gg a.aj (a.cl++a.ac)).zipIdx.foldl K.fs ([],a):=A
def wn{o:G AF×K}(p:o.2.cf)(x:∀f∈o.1,o.2.ak f){a:G B×B}(z:a.1.length<=o.2.aj)(r:0<o.2.au):di o.2 (K.fs o a).2/\o.2.au<=(K.fs o a).2.au+1/\∀f∈(K.fs o a).1,(K.fs o a).2.ak f:=by
 obtain⟨N,L⟩:=o;dsimp only at p x z r⊢;have q:=fw p.nA (l:=2) Y r ⟨4,a.2,0,0,0,0⟩ a.1;have l:=ld p (l:=2) Y r ⟨4,a.2,0,0,0,0⟩ (q:=a.1) z;have u:=q.nN;obtain⟨m,H⟩:=q.nD;unfold K.fs;dsimp only;obtain⟨f,F,y⟩:∃f F,L.af 2 ⟨4,a.2,0,0,0,0⟩ a.1=(f,F):=⟨_,_,A⟩;rw[y] at l u m⊢;dsimp only at l u m⊢;clear y q H;obtain⟨n,M,_,_⟩:=pn l.nB f m;refine⟨l.nD n,Y,λt j=>?_⟩;rcases Bs.1 j with j|j
 ·exact(n.nA.nA t (l.nA.nA t (x t j)).1).1
 ·rw[CZ] at j;subst j;exact(n.nA.nA _ m).1
end K
namespace K
def gz(a:K)(f:B)(m:D4):K:={a with ab:=a.ab.set f m}
variable{n:K}
def pe(f:n.cf)(al:l<n.j.length)(M:(n.b l).a=3)(m:D4)(ai:∀G∈m.a,G.length=n.aj+64):di n (n.gz l m)/\(n.gz l m).au=n.au:=by
 have am:l<n.ab.length:=by rw[f.nA.nA];exact al
 have r:∀a,(n.gz l m).w a=if a=l then m else n.w a:=λa=>ie am a
 have S:∀a,(n.gz l m).b a=n.b a:=λ_=>A;have L:∀a,(n.gz l m).ar a=n.ar a:=λa=>by
  by_cases j:a=l
  ·subst j;unfold ar;rw[S,M];simp
  ·unfold ar y;rw[S,r,A1 j];rfl
 have u:dy n (n.gz l m):=⟨A,A,λF⟨aa,b,a⟩=>by
  have W:F.a≠l:=λq=>a (by rw[q];exact M);refine⟨⟨aa,by unfold y;rw[r,A1 W];exact b,a⟩,by unfold ay;rw[r,A1 W]⟩,λ_ t=>t⟩
 obtain⟨ap,aq,av,Y⟩:=u.nC f A A A;have z:∀a,(n.b a).a≠3->(n.gz l m).w a=n.w a:=λa o=>by rw[r,A1 (λq=>o (by rw[q];exact M))]
 have ag:∀a,n.ar a=R->(n.b a).a≠3:=λa t=>by
  unfold ar at t;simp only[GK,Bn,K_] at t;exact t.1.2
 refine⟨⟨⟨?_,ap,aq,f.nI,f.nH,λb ao G H=>?_,λb x o=>?_,λan ah af=>(u.nA _ (f.nE an ah af)).1,λN F U aj=>?_⟩,u,A,A,Y⟩,hx A L⟩
 ·refine⟨by show(n.ab.set l m).length=_;rw[B_];exact f.nA.nA,λb x p=>?_,λb x p o=>?_,λb j=>?_,λb j=>?_,λb j=>?_,f.nA.nF⟩
  ·rw[L] at p;rw[z b (ag b p)];exact f.nA.nD b x p
  ·rw[L] at p;exact f.nA.nG b x p o
  ·have:=f.nA.nC b j;rw[z b this.2.2];exact this
  ·have:=f.nA.nB b j;rw[z b this.2.2];exact this
  ·have:=f.nA.nE b j;rw[z b this.2.2];exact this
 ·rw[r] at H;split at H
  ·exact ai G (FW H)
  ·exact f.nD b ao G H
 ·have:=f.nF b x o;have q:=z b o;unfold K.ca y at this⊢;rw[q];exact this
 ·have ak:n.ba N=C F:=by rw[<-Y N U];exact aj
  obtain⟨Z,au⟩:=f.nC N F U ak;exact⟨(u.nA F Z).1,au.nA u Z⟩
def sp(a l:B)(v:AC (G B))(j:∀f,v=C f->f.length+17<=a)(m:14<=a):(cn a l v).length=a:=by
 unfold cn;dsimp only;cases v with
 |none=>simp[BK];omega
 |some f=>have:=j f A;simp[BK];omega
def se(b:G B)(v:AC (G B)):∀(o:G B)(f:K),f.cf->b.length=f.aj+64->(∀j∈o,j<f.j.length/\(f.b j).a=3)->di f (ei b v o f)/\(ei b v o f).au=f.au
 |[],f,q,_,_=>⟨di.nH q,A⟩
 |j::o,f,q,L,S=>by
  obtain⟨U,N⟩:=S j Bt;have m:di f (if f.aq=C j then f else f.cx j I)/\(if f.aq=C j then f else f.cx j I).au=f.au/\(if f.aq=C j then f else f.cx j I).j=f.j:=by
   split
   ·exact⟨di.nH q,A,A⟩
   ·obtain⟨p,n⟩:=pe q U N ⟨I,[]⟩ (λF y=>by cases y);obtain⟨t,u⟩:=ft (r:=f.cx j I) p.nB A;exact⟨p.nD t,by rw[u,n],A⟩
  obtain⟨l,z⟩:∃l,l=(if f.aq=C j then f else f.cx j I):=⟨_,A⟩;have Z:ei b v (j::o) f=if l.ci j=0 then ei b v o l else{l.eu j b with aq:=C j,av:=l.av+1,bn:=v}:=by rw[z];rfl
  rw[<-z] at m;clear z;obtain⟨m,H,x⟩:=m;have M:∀n,l.b n=f.b n:=λn=>by unfold K.b;rw[x]
  rw[Z];split
  ·obtain⟨W,Y⟩:=se b v o l m.nB (by rw[m.nA.nB];exact L) (λah af=>by rw[x,M];exact S ah (By _ af));exact⟨m.nD W,by rw[Y,H]⟩
  ·obtain⟨p,n⟩:=pe m.nB (l:=j) (by rw[x];exact U) (by rw[M];exact N) {l.w j with a:=(l.w j).a++[b]} (λF y=>by
    rcases Bs.1 y with r|r
    ·obtain⟨ag,aa⟩:=TR r;exact m.nB.nD j ag F aa
    ·rw[CZ] at r;rw[r,m.nA.nB];exact L)
   obtain⟨t,u⟩:=ft (r:={l.eu j b with aq:=C j,av:=l.av+1,bn:=v}) p.nB A;exact⟨m.nD (p.nD t),by rw[u,n,H]⟩
def rq(j:K):∀l∈j.ig,l∈j.aa:=by
 intro l a;unfold ig at a;split at a
 ·exact a
 ·dsimp only at a;split at a
  ·rcases Bs.1 a with f|f
   ·exact EP f
   ·exact EW f
  ·exact a
def hm(a:K):Prop:=∀f∈a.aa,f<a.j.length/\(a.b f).a=3
def wh(j:n.cf)(l:n.hm)(v:AC (G B))(m:∀a,v=C a->a.length+17<=n.aj+64):di n (n.cr v)/\(n.cr v).au=n.au:=by
 unfold cr;exact se _ v n.ig n j (sp _ _ _ m Y) (λf o=>l f (rq n f o))
end K
namespace K
def gq(a:K)(b:B):K:={a with ab:=a.ab.set b ⟨I,[]⟩,j:=a.j.set b ⟨3,0,0,0,1⟩}
variable{n:K}
def wk(j:n.cf){b:B}(U:b<n.j.length)(z:n.ar b=R):di n (n.gq b)/\n.au<=(n.gq b).au+1:=by
 have ah:b<n.ab.length:=by rw[j.nA.nA];exact U
 have q:∀a,(n.gq b).w a=if a=b then⟨I,[]⟩ else n.w a:=λa=>ie ah a
 have o:∀a,(n.gq b).b a=if a=b then⟨3,0,0,0,1⟩ else n.b a:=λa=>by
  show(n.j.set b ⟨3,0,0,0,1⟩).getD a Cq.e=_;rw[cz U];rfl
 have p:(n.gq b).j.length=n.j.length:=B_;have ao:n.y b=0/\(n.b b).a≠3/\n.cc b=I:=by
  unfold ar at z;simp only[GK,Bn,K_,F1,K'] at z;exact⟨z.1.1,z.1.2,z.2⟩
 have M:∀a,(n.gq b).ar a=if a=b then I else n.ar a:=λa=>by
  by_cases f:a=b
  ·rw[A8 f];unfold ar;rw[o,A8 f];simp
  ·rw[A1 f];unfold ar y;rw[o,q,A1 f,A1 f];rfl
 have x:dy n (n.gq b):=⟨A,p,λF⟨af,a,L⟩=>by
  have l:F.a≠b:=λu=>by rw[u] at a;omega
  refine⟨⟨by rw[p];exact af,by unfold y;rw[q,A1 l];exact a,by rw[o,A1 l];exact L⟩,by unfold ay;rw[q,A1 l]⟩,λa0 an=>by
  rw[o];split
  ·rfl
  ·exact an⟩
 obtain⟨av,aw,az,Z⟩:=x.nC j A A A;have N:∀H a,H<=2->n.al H=C a->a≠b:=λH a am f u=>by
  have:=(gn n b).2 ⟨H,am,by rw[<-u];exact f⟩;rw[ao.2.2] at this;cases this
 refine⟨⟨⟨?_,av,aw,j.nI,by rw[p];exact j.nH,λa aq L G=>?_,λa t m=>?_,λap ai ag=>(x.nA _ (j.nE ap ai ag)).1,λS F W ak=>?_⟩,x,A,A,Z⟩,?_⟩
 ·refine⟨by show(n.ab.set b _).length=(n.j.set b _).length;rw[B_,B_];exact j.nA.nA,λa t r=>?_,λa t r m=>?_,λa f=>?_,λa f=>?_,λa f=>?_,j.nA.nF⟩
  ·rw[M] at r;by_cases f:a=b
   ·rw[A8 f] at r;cases r
   ·rw[A1 f] at r;rw[o,q,A1 f,A1 f];rw[p] at t;exact j.nA.nD a t r
  ·rw[M] at r;rw[o] at m⊢;by_cases f:a=b
   ·rw[A8 f] at m;exact CV A m
   ·rw[A1 f] at r m⊢;rw[p] at t;exact j.nA.nG a t r m
  ·have l:=N 0 a Y f;rw[p,q,o,A1 l,A1 l];exact j.nA.nC a f
  ·have l:=N 1 a Y f;rw[p,q,o,A1 l,A1 l];exact j.nA.nB a f
  ·have l:=N 2 a Y f;rw[p,q,o,A1 l,A1 l];exact j.nA.nE a f
 ·rw[q] at G;split at G
  ·simp at G
  ·exact j.nD a aq L G
 ·rw[o] at m;by_cases f:a=b
  ·rw[A8 f] at m;exact CV A m
  ·rw[A1 f] at m;rw[p] at t;have:=j.nF a t m;unfold K.ca y at this⊢;rw[q,A1 f];exact this
 ·have al:n.ba S=C F:=by rw[<-Z S W];exact ak
  obtain⟨aa,ax⟩:=j.nC S F W al;exact⟨(x.nA F aa).1,ax.nA x aa⟩
 ·unfold au;rw[p];have u:(AH n.j.length).filter (n.gq b).ar=((AH n.j.length).filter n.ar).erase b:=by
   have aj:((AH n.j.length).filter n.ar).Nodup:=List.Pairwise.filter _ TU;rw[AEI aj,QB];refine Q9 λa _=>?_;rw[M];by_cases f:a=b
   ·rw[A8 f];simp[f]
   ·rw[A1 f];simp[f]
  rw[u];by_cases f:b∈(AH n.j.length).filter n.ar
  ·rw[AE0 f];omega
  ·rw[AER f];omega
def rj(p:n.cf)(L:n.hm)(F:0<n.au):di n n.ds/\n.au<=n.ds.au+1/\n.ds.hm:=by
 obtain⟨S,z,H⟩:=jy F;obtain⟨b,G,a,r⟩:=kc p.nA I z H;have N:(n.j[b]'a).b=0:=by
  have o:=(p.nA.nD b a r).2.2.2.1;have:n.b b=n.j[b]'a:=by show n.j.getD b Cq.e=_;rw[AY,Aw a];rfl
  rw[<-this];exact o
 obtain⟨f,j⟩:∃f:K,f={n.gq b with bv:=n.bv+1,x:=n.x+1,aa:=(n.aa++[b]).mergeSort}:=⟨_,A⟩;have q:n.ds=f:=by
  unfold ds K.fc;rw[G,j];simp[cx,K.bl,K.b,gq,Hl,Cq.e,a,N]
 obtain⟨o,U⟩:=wk p a r;obtain⟨y,V⟩:=ft (r:=f) o.nB (by rw[j];rfl);have t:f.j=n.j.set b ⟨3,0,0,0,1⟩:=by rw[j];rfl
 have M:f.aa=(n.aa++[b]).mergeSort:=by rw[j]
 rw[q];clear j q;refine⟨o.nD y,Y,λm u=>?_⟩;rw[M,KS] at u;have B:f.b m=if m=b then⟨3,0,0,0,1⟩ else n.b m:=by
  show f.j.getD m Cq.e=_;rw[t,cz a];rfl
 rw[t,B_,B];rcases Bs.1 u with l|l
 ·obtain⟨P,Q⟩:=L m l;refine⟨P,?_⟩;split
  ·rfl
  ·exact Q
 ·rw[CZ] at l;rw[A8 l,l];exact⟨a,A⟩
def bu(a:K):K:={a with ab:=[],bd:=0,u:=0,bv:=0,j:=[],bh:=E,bg:=E,br:=E,ap:=0,x:=0,bq:=0,h:=[],g:=[],an:=0}
variable{r:K}
def lx(a:r.ih=n.ih):r.bu=n.bu:=by have:=AB K.bu a;exact this
def pu(a:r.da=n.da):r.bu=n.bu:=by have:=AB K.bu a;exact this
def il(j:n.cf)(o:l<=2)(m:0<n.au)(f:AN)(a:G B):(n.af l f a).2.bu=n.bu:=lx (fw j.nA o m f a).nA
def kp(f:G AF):∀a:K,(f.foldl ai a).bu=a.bu:=by
 induction f with
 |nil=>intro a;rfl
 |cons l f j=>intro a;rw[DN,j];rfl
def lz(f:G AF):∀a:K,(f.foldl dn a).bu=a.bu:=by
 induction f with
 |nil=>intro a;rfl
 |cons l f j=>intro a;rw[DN,j];rfl
def ly(j:n.cf)(l:(gg n.aj (n.cl++n.ac)).length<=n.au):n.cd.2.bu=n.bu:=by
 rw[lk];have x:∀(a:G (G B×B))(o:G AF×K),o.2.cf->(∀u∈o.1,o.2.ak u)->(∀f∈a,f.1.length<=o.2.aj)->a.length<=o.2.au->(a.foldl K.fs o).2.bu=o.2.bu:=by
  intro a
  induction a with
  |nil=>intro o _ _ _ _;rfl
  |cons f a N=>
   intro o j z r l;rw[DN];rw[C8] at l;obtain⟨q,Q,y⟩:=wn j z (r f Bt) Y;rw[N (K.fs o f) q.nB y (λP L=>by rw[q.nA.nB];exact r P (By _ L)) Y];exact il j Y Y _ _
 refine x _ ([],n) j (λu F=>by cases F) (λf H=>?_) (by rw[Zg];exact l);obtain⟨p,b⟩:=f;have t:=AEZ H;unfold gg at t;obtain⟨M,_,m⟩:=CI.1 t;show p.length<=n.aj;have m:List.take n.aj (List.drop (n.aj*M) (n.cl++n.ac))=p:=m;rw[<-m,Ci];exact Nat.min_le_left _ _
def wp(f:K):f.cd.1.length=(gg f.aj (f.cl++f.ac)).length:=by
 rw[lk];have j:∀(a:G (G B×B))(o:G AF×K),(a.foldl K.fs o).1.length=o.1.length+a.length:=by
  intro a
  induction a with
  |nil=>intro o;rfl
  |cons m a l=>intro o;rw[DN,l];unfold K.fs;simp;omega
 rw[j,Zg];simp
end K
namespace K
structure gk(a:K):Prop where
 nA:a.cf
 nB:a.hm
 nE:∀f∈a.bj,a.ak f
 nF:∀f∈a.ax,a.ak f
 nD:∀j∈a.ah,a.ak j.2
 nH:128<=a.aj
 nG:(8+4*a.g.length+a.ac.length+a.aj-1)/a.aj<=2
 nC:a.bb.length=36
variable{n r:K}
def tl(a:r.bu=n.bu):r.aa=n.aa/\r.bj=n.bj/\r.ax=n.ax/\r.ah=n.ah/\r.ac=n.ac/\r.bb=n.bb:=by
 refine⟨?_,?_,?_,?_,?_,?_⟩
 ·have:=AB K.aa a;exact this
 ·have:=AB K.bj a;exact this
 ·have:=AB K.ax a;exact this
 ·have:=AB K.ah a;exact this
 ·have:=AB K.ac a;exact this
 ·have:=AB K.bb a;exact this
def di.nJ(a:di n r)(o:n.hm)(m:r.aa=n.aa):r.hm:=λj f=>by
 rw[m] at f;obtain⟨l,b⟩:=o j f;exact⟨by rw[a.nA.nD];exact l,a.nA.nF j b⟩
def gk.nI(f:n.gk)(a:di n r)(y:r.bu=n.bu):r.gk:=by
 obtain⟨o,p,q,t,u,x⟩:=tl y;exact⟨a.nB,a.nJ f.nB o,λl j=>by rw[p] at j;exact(a.nA.nA l (f.nE l j)).1,λl j=>by rw[q] at j;exact(a.nA.nA l (f.nF l j)).1,λz m=>by rw[t] at m;exact(a.nA.nA _ (f.nD z m)).1,by rw[a.nA.nB];exact f.nH,by rw[a.nC,u,a.nA.nB];exact f.nG,by rw[x];exact f.nC⟩
def ka(f:K):f.cl.length=8+4*f.g.length:=by
 have:∀a:G B,((a.map λv=>AS v 4).flatten).length=4*a.length:=by
  intro a
  induction a with
  |nil=>rfl
  |cons l a j=>simp[BK,j];omega
 unfold cl;rw[Ad,Ad,BK,BK,this];omega
def tm(a:B)(f:G B):(gg a f).length=(f.length+a-1)/a:=by simp[gg]
def mm(l:K)(j:G AF)(m:l.bb.length=36):(l.db j).length=57+3*j.length:=by
 have:∀a:G AF,((a.map λf=>AS (f.a*256+f.b) 3).flatten).length=3*a.length:=by
  intro a
  induction a with
  |nil=>rfl
  |cons o a n=>simp[BK,n];omega
 unfold db;simp[BK,this,m];omega
end K
namespace K
def hn(a:K):K:={a.bu with aa:=[],aq:=E,av:=0,bn:=E}
variable{n r:K}
def lw(a:r.hn=n.hn):r.bj=n.bj/\r.ax=n.ax/\r.ah=n.ah/\r.ac=n.ac/\r.bb=n.bb:=by
 refine⟨?_,?_,?_,?_,?_⟩
 ·have:=AB K.bj a;exact this
 ·have:=AB K.ax a;exact this
 ·have:=AB K.ah a;exact this
 ·have:=AB K.ac a;exact this
 ·have:=AB K.bb a;exact this
def sc(b:G B)(v:AC (G B)):∀(j:G B)(a:K),(ei b v j a).hn=a.hn/\(ei b v j a).aa=a.aa
 |[],a=>⟨A,A⟩
 |l::j,a=>by
  obtain⟨f,n⟩:∃f,f=(if a.aq=C l then a else a.cx l I):=⟨_,A⟩;have q:ei b v (l::j) a=if f.ci l=0 then ei b v j f else{f.eu l b with aq:=C l,av:=f.av+1,bn:=v}:=by rw[n];rfl
  have m:f.hn=a.hn/\f.aa=a.aa:=by
   rw[n];split
   ·exact⟨A,A⟩
   ·exact⟨A,A⟩
  rw[q];split
  ·obtain⟨o,p⟩:=sc b v j f;exact⟨o.trans m.1,p.trans m.2⟩
  ·exact⟨Eq.trans A m.1,Eq.trans A m.2⟩
def vl(a:K):a.ds.hn=a.hn:=by
 unfold ds K.fc;cases a.gl I<;>rfl
def ku(a:K)(b:G B):(a.eq b).hn=a.hn:=by
 unfold eq cr;rw[(sc _ _ _ _).1];split
 ·exact vl a
 ·rfl
end K
namespace K
def hw(a:K):K:={a.bu with aw:=0,bf:=(E,E),ae:=[],ct:=0,bi:=0}
variable{n r:K}
def tk(a:r.bu=n.bu):r.hw=n.hw:=by unfold hw;rw[a]
def pt(a:r.hw=n.hw):r.aa=n.aa/\r.bj=n.bj/\r.ax=n.ax/\r.ah=n.ah/\r.ac=n.ac/\r.bb=n.bb:=by
 refine⟨?_,?_,?_,?_,?_,?_⟩
 ·have:=AB K.aa a;exact this
 ·have:=AB K.bj a;exact this
 ·have:=AB K.ax a;exact this
 ·have:=AB K.ah a;exact this
 ·have:=AB K.ac a;exact this
 ·have:=AB K.bb a;exact this
def gk.nJ(f:n.gk)(a:di n r)(y:r.hw=n.hw):r.gk:=by
 obtain⟨o,p,q,t,u,x⟩:=pt y;exact⟨a.nB,a.nJ f.nB o,λl j=>by rw[p] at j;exact(a.nA.nA l (f.nE l j)).1,λl j=>by rw[q] at j;exact(a.nA.nA l (f.nF l j)).1,λz m=>by rw[t] at m;exact(a.nA.nA _ (f.nD z m)).1,by rw[a.nA.nB];exact f.nH,by rw[a.nC,u,a.nA.nB];exact f.nG,by rw[x];exact f.nC⟩
def mq(a:K)(f:B):(a.am f).bu=a.bu:=by
 unfold am;dsimp only;split<;>rfl
def wd(a:K)(f:G (AC CG)):({a with h:=f}:K).bu=a.bu:=A
def ju(a:K)(f:B):(a.co f).bu=a.bu:=by
 have l:=mq a f;unfold co;dsimp only;obtain⟨j,m⟩:∃j,j=a.am f:=⟨_,A⟩;rw[<-m] at l⊢;exact(wd j _).trans l
def tu(a:K)(o:AC AF):(a.dw o).bu=a.bu:=by
 cases o<;>rfl
def xj(a:K)(f:G B)(b:G (AC CG)):(a.fm f b).bu=a.bu:=A
def tj(a:K)(f:AF):(a.ai f).bu=a.bu:=A
def th(a:K)(f:AF):(a.ee f).bu=a.bu:=A
def ts(a:K)(o:AC AF):(a.ev o).bu=a.bu:=by
 cases o<;>rfl
def hq(o:n.cf)(a:B)(p:0<n.au):(n.bt a).bu=n.bu:=by
 unfold bt;cases hx:n.h.getD a E with
 |none=>rfl
 |some m=>
  dsimp only;split
  ·have f:=il o (l:=2) Y p ⟨3,a,0,0,0,0⟩ m.a;unfold gt;dsimp only;obtain⟨j,l,q⟩:∃j l,n.af 2 ⟨3,a,0,0,0,0⟩ m.a=(j,l):=⟨_,_,A⟩;rw[q] at f⊢;dsimp only at f⊢;rw[xj,tu,tj];exact f
  ·rfl
end K
namespace K
def pk(a:K)(o:AC AF):G B:=match o with|none=>U a.aj 0|some f=>(a.ay f).take a.aj
def dp(a:K)(f:B):G B:=a.pk (a.ba f)
variable{n:K}
def ja(a:n.ba l=E):n.dp l=U n.aj 0:=(AB n.pk a).trans A
variable{xq:AF}
def jb(a:n.ba l=C xq):n.dp l=(n.ay xq).take n.aj:=(AB n.pk a).trans A
variable{r:K}
def sx(f:dy n r)(o:n.cf)(p:l<n.v)(j:r.ba l=n.ba l):r.dp l=n.dp l:=by
 cases a:n.ba l with
 |none=>rw[ja a,ja (j.trans a),f.nB]
 |some m=>rw[jb a,jb (j.trans a),f.nB,(f.nA m (o.nC l m p a).1).2]
def on(a:K)(j v:B):(a.ch j v).bu=a.bu:=by
 have f:=mq a (j/a.ao);unfold ch;dsimp only;obtain⟨l,m⟩:∃l,l=a.am (j/a.ao):=⟨_,A⟩;rw[<-m] at f⊢;split
 ·exact f
 ·exact f
def kx(a:K)(f:B):(a.be f).2.bu=a.bu:=by
 unfold be;exact mq a (f/a.ao)
def ln(a:K)(f:B)(n:AF):(a.de f n).bu=a.bu:=by
 have j:=kx a f;unfold K.de;obtain⟨l,m⟩:∃l,l=a.be f:=⟨_,A⟩;rw[<-m] at j⊢;rw[on,th,ts];exact j
end K
namespace K
def fg(a:K)(o:AC B):B:=match o with|none=>0|some b=>a.ci b
def bc(a:K):B:=a.i*(a.au+a.aa.length)+a.fg a.bh+2*a.fg a.bg+a.fg a.br
structure kn(a:B)(f:Cq):Prop where
 nA:f.b<=a
 nD:-(a:F)<=f.c/\f.c<=a
 nC:-(a:F)<=f.f/\f.f<=a
 nE:-(a:F)<=f.d/\f.d<=a
structure ad(j:B)(a:K):Prop where
 nA:a.gk
 nC:a.j.length=70
 nB:a.aj=128
 nD:a.i=8\/a.i=16
 nF:1<=a.t/\a.t<=360
 nU:a.g.length=(a.t+15)/32+1
 nL:a.ac.length=(a.t+7)/8
 nT:∀m∈a.ac,m<256
 nG:a.ap<=j
 nM:a.x<=j
 nY:a.bq<=j
 nS:a.an<=j
 nX:a.av<=j
 n3:a.aw<=j
 nW:a.ct<=j
 n0:a.bi<=j
 nH:∀f,kn j (a.b f)
 nN:∀(f n:B)(o:G B),(a.w f).a[n]?=C o->∀m∈o,m<256
 nQ:∀(l:B)(p:CG),a.h.getD l E=C p->∀m∈p.a,m<256
 nP:∀l,l<a.g.length->∀n,n<32->fi (a.az l) n<=262144
 nO:a.ae.Nodup/\∀l∈a.ae,l<a.g.length
 n1:a.bj.length<=16
 n2:a.ax.length<=4
 n4:a.ah.length<=64
 nK:a.aa.Nodup/\1<=a.aa.length/\a.aa.length<=3
 nV:(∀f,a.bf.1=C f->f<70)/\∀f,a.bf.2=C f->f<70
 n7:∀f,a.bh=C f->(a.b f).a=1
 n8:∀f,a.bg=C f->(a.b f).a=1
 n9:∀f,a.br=C f->(a.b f).a=2
def kn.nB{a m:B}{f:Cq}(j:kn a f)(p:a<=m):kn m f:=by
 obtain⟨l,b,n,o⟩:=j;exact⟨Y,Y,Y,Y⟩
variable{n:K}
def ad.nE{f m:B}(a:ad f n)(P:f<=m):ad m n:=by
 have aa:=a;obtain⟨j,H,S,L,U,p,r,q,ah,Z,ai,W,ag,ak,af,aj,o,N,G,t,V,z,F,l,Q,M,u,x,y⟩:=a;exact⟨j,H,S,L,U,p,r,q,Y,Y,Y,Y,Y,Y,Y,Y,λb=>(o b).nB P,N,G,t,V,z,F,l,Q,M,u,x,y⟩
def hg{v f a:B}(j:a∈AS v f):a<256:=H' v f a j
def vw(n:ym.b<256)(m:∀f∈q,f<256):∀f∈ym.e q l,f<256:=by
 intro f j;unfold AN.e AN.g at j;simp only[Bs,FX,C2,Ef,Eh] at j;rcases j with a|a|a|a|a|a|a|a|a|a
 ·exact m f a
 ·omega
 ·exact hg a
 ·omega
 all_goals first|exact hg a|omega
def kw(b:B):n.ca b<=n.i:=by unfold ca;split<;>omega
def wm(b:B):n.ci b<=n.i:=by have:=kw (n:=n) b;unfold ci;omega
def pg(o:AC B):n.fg o<=n.i:=by
 cases o with
 |none=>exact Af _
 |some b=>exact wm b
def dx(f:ad l n)(j:n.i*(7+p)<n.bc):p<n.au:=by
 have m:=pg (n:=n) n.bh;have o:=pg (n:=n) n.bg;have q:=pg (n:=n) n.br;have r:=f.nK.2.2;unfold bc at j;rcases Ck p n.au with a|a
 ·exact a
 ·exfalso;have:n.i*(n.au+n.aa.length)<=n.i*(p+3):=OC _ Y;have t:n.i*(7+p)=n.i*4+n.i*(p+3):=by rw[<-OA];congr 1;omega
  omega
end K
namespace K
variable{n:K}
def ad.n6(q:ad l n){u y b:B}(z:u<=2)(F:y<=2)(p:u≠y)(a:n.al u=C b)(f:n.al y=C b):Be:=by
 have x:∀b,n.bh=C b->(n.w b).b=I/\(n.b b).a=1:=λb m=>⟨(q.nA.nA.nA.nC b m).2.1,q.n7 b m⟩;have t:∀b,n.bg=C b->(n.w b).b=R/\(n.b b).a=1:=λb m=>⟨(q.nA.nA.nA.nB b m).2.1,q.n8 b m⟩;have r:∀b,n.br=C b->(n.w b).b=I/\(n.b b).a=2:=λb m=>⟨(q.nA.nA.nA.nE b m).2.1,q.n9 b m⟩
 match u,y,z,F,p,a,f with
 |0,1,_,_,_,a,f=>have o:=x b a;have j:=t b f;rw[o.1] at j;exact by cases j.1
 |0,2,_,_,_,a,f=>have o:=x b a;have j:=r b f;omega
 |1,0,_,_,_,a,f=>have o:=x b f;have j:=t b a;rw[o.1] at j;exact by cases j.1
 |1,2,_,_,_,a,f=>have o:=t b a;have j:=r b f;omega
 |2,0,_,_,_,a,f=>have o:=x b f;have j:=r b a;omega
 |2,1,_,_,_,a,f=>have o:=t b f;have j:=r b a;omega
 |0,0,_,_,p,_,_=>exact p A
 |1,1,_,_,p,_,_=>exact p A
 |2,2,_,_,p,_,_=>exact p A
def la(j:n.dm){f b:B}(l:f<=2)(a:n.al f=C b):(n.w b).b=(f==1):=by
 match f,l,a with
 |0,_,a=>exact(j.nC b a).2.1
 |1,_,a=>exact(j.nB b a).2.1
 |2,_,a=>exact(j.nE b a).2.1
def jc(a:B):B:=if a=1 then 2 else 1
def ix(a:K):a.bc=a.i*(a.au+a.aa.length)+a.fg (a.al 0)+2*a.fg (a.al 1)+a.fg (a.al 2):=A
def vy(z:ad l n)(u:p<=2)(aa:0<n.au)(f:AN)(a:G B):n.bc<=(n.af p f a).2.bc+2:=by
 have j:=fw z.nA.nA.nA u aa f a;have N:(n.af p f a).2.i=n.i:=by have:=AB K.i j.nA;exact this
 have aw:(n.af p f a).2.aa=n.aa:=by have:=AB K.aa j.nA;exact this
 obtain⟨b,L⟩:=mp z.nA.nA.nA u aa f a;have H:(n.af p f a).1.a=b:=by rcases L with⟨_,_,F⟩|⟨_,_,_,F⟩<;>rw[F]
 have m:∀t,t<=2->t≠p->(n.af p f a).2.fg ((n.af p f a).2.al t)=n.fg (n.al t):=by
  intro t U ai;rw[j.nH t U ai];cases r:n.al t with
  |none=>rfl
  |some o=>
   have af:o≠b:=by
    intro F;subst F;rcases L with⟨q,_,_⟩|⟨_,_,q,_⟩
    ·exact z.n6 U u ai r q
    ·have:n.cc o=R:=(gn n o).2 ⟨t,U,r⟩;unfold ar at q;rw[this] at q;simp at q
   show(n.af p f a).2.ci o=n.ci o;have Y:=j.nC o;rw[H,A1 af] at Y;have an:=j.nK o (by rw[H];exact af);unfold ci ca y;rw[Y,an,N]
 have ak:=la j.nO u j.nG;have S:=j.nC (n.af p f a).1.a;rw[A8 A] at S;have am:=j.nQ;have al:=j.nG;have a0:=j.nN;rw[H] at ak S am al;have aj:(n.af p f a).2.y b=n.y b+1:=by unfold y;rw[S];simp
 have ax:(n.af p f a).2.fg ((n.af p f a).2.al p)=(n.af p f a).2.ca b-(n.y b+1):=by
  rw[al];show(n.af p f a).2.ci b=_;unfold ci;rw[aj]
 have ah:(n.af p f a).2.ca b=if p=1 then n.i/2 else n.i:=by
  unfold ca;rw[ak,N];by_cases q:p=1<;>simp[q]
 have x:n.i*(n.au+n.aa.length)+jc p*n.fg (n.al p)<=(n.af p f a).2.i*((n.af p f a).2.au+(n.af p f a).2.aa.length)+jc p*(n.af p f a).2.fg ((n.af p f a).2.al p)+2:=by
  rw[N,aw,ax,ah];rw[aj,ah] at am;rcases L with⟨r,a2,ag⟩|⟨au,a1,M,ag⟩
  ·have aq:(n.af p f a).2.au=n.au:=by
    rw[ag];have ay:=(oi (kq z.nA.nA.nA) (p:=p) (b:=b) u r f a).2;exact hx (by rw[kf];rfl) ay
   have ap:=la z.nA.nA.nA u r;have av:n.ca b=if p=1 then n.i/2 else n.i:=by
    unfold ca;rw[ap];by_cases q:p=1<;>simp[q]
   rw[aq,r];show _+jc p*n.ci b<=_;unfold ci jc;rw[av];split<;>omega
  ·have ao:n.y b=0:=by unfold ar at M;simp at M;exact M.1.1
   have az:n.fg (n.al p)=0:=by
    cases r:n.al p with
    |none=>rfl
    |some o=>exact au o r
   rw[az,ao];have:n.i*(n.au+n.aa.length)<=n.i*((n.af p f a).2.au+n.aa.length)+n.i:=by
    have:=OC n.i (show n.au+n.aa.length<=(n.af p f a).2.au+n.aa.length+1 by omega);rw[OA _ _ 1] at this;omega
   have:=z.nD;unfold jc;split<;>omega
 rw[ix,ix]
 match p,u,m,x with
 |0,_,m,x=>rw[show jc 0=1 from A] at x;have W:=m 1 Z Z;have b:=m 2 Z Z;omega
 |1,_,m,x=>rw[show jc 1=2 from A] at x;have W:=m 0 Z Z;have b:=m 2 Z Z;omega
 |2,_,m,x=>rw[show jc 2=1 from A] at x;have W:=m 0 Z Z;have b:=m 1 Z Z;omega
end K
namespace K
structure jw(a f:K):Prop where
 nI:f.t=a.t
 nA:f.i=a.i
 nR:f.aj=a.aj
 nJ:f.aa=a.aa
 nN:f.aq=a.aq
 nM:f.av=a.av
 nO:f.bn=a.bn
 nH:f.ac=a.ac
 nL:f.cs=a.cs
 nD:f.aw=a.aw
 nF:f.bf=a.bf
 nG:f.ae=a.ae
 nK:f.ct=a.ct
 nE:f.bi=a.bi
 nP:f.bj=a.bj
 nQ:f.ax=a.ax
 nB:f.ah=a.ah
 nC:f.bb=a.bb
variable{n r:K}
def cj(a:r.bu=n.bu):jw n r:=
 ⟨(AB K.t a:),(AB K.i a:),(AB K.aj a:),(AB K.aa a:),(AB K.aq a:),(AB K.av a:),(AB K.bn a:),(AB K.ac a:),(AB K.cs a:),(AB K.aw a:),(AB K.bf a:),(AB K.ae a:),(AB K.ct a:),(AB K.bi a:),(AB K.bj a:),(AB K.ax a:),(AB K.ah a:),(AB K.bb a:)⟩
def ad.nZ{z m:B}(f:ad z n)(aa:z<=m)(S:r.gk)(a:jw n r)(W:r.j.length=70)(t:r.g.length=n.g.length)(af:r.ap<=m)(N:r.x<=m)(ag:r.bq<=m)(H:r.an<=m)(L:∀b,kn m (r.b b))
 (Y:∀(b p:B)(y:G B),(r.w b).a[p]?=C y->∀q∈y,q<256)(U:∀(o:B)(F:CG),r.h.getD o E=C F->∀q∈F.a,q<256)(M:∀o,o<n.g.length->∀p,p<32->fi (r.az o) p<=262144)
 (u:∀x b,x<=2->r.al x=C b->(r.b b).a=if x=2 then 2 else 1):ad m r:=by
 have l:=f.nE aa;refine⟨S,W,by rw[a.nR];exact f.nB,by rw[a.nA];exact f.nD,by rw[a.nI];exact f.nF,by rw[t,a.nI];exact f.nU,by rw[a.nH,a.nI];exact f.nL,by rw[a.nH];exact f.nT,af,N,ag,H,by rw[a.nM];exact l.nX,by rw[a.nD];exact l.n3,by rw[a.nK];exact l.nW,by rw[a.nE];exact l.n0,L,Y,U,by rw[t];exact M,by rw[a.nG,t];exact f.nO,by rw[a.nP];exact f.n1,by rw[a.nQ];exact f.n2,by rw[a.nB];exact f.n4,by rw[a.nJ];exact f.nK,by rw[a.nF];exact f.nV,λb j=>?_,λb j=>?_,λb j=>?_⟩
 ·exact u 0 b Z j
 ·exact u 1 b Z j
 ·exact u 2 b Z j
def ad.nR(j:ad l n):∀f b,f<=2->n.al f=C b->(n.b b).a=if f=2 then 2 else 1:=by
 intro f b m a
 match f,m,a with
 |0,_,a=>exact j.n7 b a
 |1,_,a=>exact j.n8 b a
 |2,_,a=>exact j.n9 b a
def lb(a:K)(f b:B):(a.bs f b).x=a.x+1/\(a.bs f b).bq=a.bq:=by unfold bs bk;split<;>(try split)<;>exact⟨A,A⟩
def rc(a:K)(l b:B)(f:AN)(j:G B):(a.cg l b f j).bq=a.bq\/(a.cg l b f j).bq=a.x:=by unfold cg;dsimp only;split;exact AT A;exact Ae A
def vx(o:n.dm)(r:l<=2)(p:0<n.au)(j:AN)(f:G B):(n.af l j f).2.x<=n.x+1/\((n.af l j f).2.bq=n.bq\/(n.af l j f).2.bq<=n.x+1):=by
 obtain⟨b,q⟩:=mp o r p j f;rcases q with⟨_,_,m⟩|⟨_,_,_,m⟩
 ·rw[m];dsimp only;rw[ke];refine⟨IE _,?_⟩;rcases rc n.ag l b j f with a|a
  ·exact AT a
  ·exact Ae (by rw[a];exact IE _)
 ·rw[m];dsimp only;rw[ke,(lb _ _ _).1];refine⟨AI _,?_⟩;rcases rc (n.ag.bs l b) l b j f with a|a
  ·rw[a,(lb _ _ _).2];exact AT A
  ·rw[a,(lb _ _ _).1];exact Ae (AI _)
def vz(a:ad l n)(H:p<=2)(L:0<n.au)(an:ym.b<256)(al:∀ak∈q,ak<256)(am:q.length<=128):ad (l+3) (n.af p ym q).2:=by
 have x:=a.nA.nA;have o:=fw x.nA H L ym q;have U:=ld x H L ym (q:=q) (by rw[a.nB];exact am);have S:=il x H L ym q;have aq:=vx x.nA H L ym q;have W:(n.af p ym q).2.g=n.g:=by have:=AB K.g o.nA;exact this
 have ag:(n.af p ym q).2.h=n.h:=by have:=AB K.h o.nA;exact this
 have au:(n.af p ym q).2.an=n.an:=by have:=AB K.an o.nA;exact this
 have ah:=cj S;obtain⟨aw,ax,ap,ay⟩:=U.nA.nC x W ag ah.nI;have av:=o.nL;have az:=a.nG;have a0:=a.nM;have a1:=a.nY;have a2:=a.nS;refine a.nZ Y (a.nA.nI U S) ah (by rw[o.nF];exact a.nC) (by rw[W]) Y Y Y Y (λb=>?_) (λb u N j=>?_) (λM N j=>?_) (λM Z u aa=>?_) (λt b z y=>?_)
 ·by_cases r:b=(n.af p ym q).1.a
  ·rw[r];rcases o.nB with⟨_,f⟩|⟨_,_,_,f⟩
   ·rw[<-f];exact(a.nH _).nB Y
   ·rw[f];exact⟨show 1<=l+3 by omega,show-((l+3:B):F)<=0/\(0:F)<=((l+3:B):F) by omega,show-((l+3:B):F)<=0/\(0:F)<=((l+3:B):F) by omega,show-((l+3:B):F)<=0/\(0:F)<=((l+3:B):F) by omega⟩
  ·rw[o.nE b r];exact(a.nH b).nB Y
 ·rw[o.nC] at j;split at j
  ·rcases Ck u ((n.w b).a.length) with f|f
   ·rw[Di f] at j;exact a.nN b u N j
   ·rw[G3 f] at j
    match aa:u-(n.w b).a.length,j with
    |0,j=>
     simp only[GI,EX] at j;subst j;exact vw an al
    |m+1,j=>simp at j
  ·exact a.nN b u N j
 ·rw[ag] at j;exact a.nQ M N j
 ·rw[ap M Z];exact a.nP M Z u aa
 ·have aj:∀b,t≠p->n.al t=C b->b≠(n.af p ym q).1.a:=by
   intro b ao af r;subst r;rcases o.nB with⟨f,_⟩|⟨f,_,_,_⟩
   ·exact a.n6 z H ao af f
   ·have:n.cc (n.af p ym q).1.a=R:=(gn n _).2 ⟨t,z,af⟩;unfold ar at f;rw[this] at f;simp at f
  by_cases r:t=p
  ·subst r;rw[o.nG] at y;cases y;rcases o.nB with⟨ai,f⟩|⟨_,_,_,f⟩
   ·rw[<-f];exact a.nR t _ z ai
   ·rw[f]
  ·rw[o.nH t z r] at y;rw[o.nE b (aj b r y)];exact a.nR t b z y
structure bz(l:B)(f a:K)(j:B):Prop where
 nA:ad l a
 nB:di f a
 nD:f.bc<=a.bc+j
def bz.nC{o m:B}{f b j:K}(n:bz o f b l)(a:bz m b j p):bz m f j (l+p):=⟨a.nA,n.nB.nD a.nB,by have:=n.nD;have:=a.nD;omega⟩
def bz.nF(a:ad l n):bz l n n 0:=⟨a,di.nH a.nA.nA,AI _⟩
def bz.nE{j m:B}{f b:K}(a:bz j f b l)(n:j<=m)(o:l<=p):bz m f b p:=⟨a.nA.nE n,a.nB,by have:=a.nD;omega⟩
def hi(a:ad l n)(j:p<=2)(u:n.i*7<n.bc)(t:ym.b<256)(r:∀o∈q,o<256)(m:q.length<=128):bz (l+3) n (n.af p ym q).2 2:=by
 have f:=dx (p:=0) a Y;exact⟨vz a j f t r m,ld a.nA.nA j f ym (by rw[a.nB];exact m),vy a j f ym q⟩
end K
namespace K
variable{n r:K}
def gk.nL(f:n.gk)(G:r.cf)(a:dy n r)(F:r.g.length=n.g.length)(B:r.hw=n.hw):r.gk:=by
 obtain⟨q,t,u,x,y,z⟩:=pt B;exact⟨G,λo l=>by rw[q] at l;obtain⟨p,b⟩:=f.nB o l;exact⟨by rw[a.nD];exact p,a.nF o b⟩,λm j=>by rw[t] at j;exact(a.nA m (f.nE m j)).1,λm j=>by rw[u] at j;exact(a.nA m (f.nF m j)).1,λo l=>by rw[x] at l;exact(a.nA _ (f.nD o l)).1,by rw[a.nB];exact f.nH,by rw[F,y,a.nB];exact f.nG,by rw[z];exact f.nC⟩
def ow(p:ad l n)(m:AF):∀f∈n.ay m,f<256:=by
 intro f a;unfold ay at a;rw[AY] at a;cases j:(n.w m.a).a[m.b]? with
 |none=>rw[j] at a;simp at a
 |some o=>rw[j] at a;exact p.nN _ _ o j f a
def tq(j:ad l n)(m:B):∀f∈n.cq m,f<256:=by
 intro f a;unfold cq at a;split at a
 ·rw[FX] at a;omega
 ·exact ow j _ f (EW a)
def kj(o:ad l n)(j:B):∀f∈n.az j,f<256:=by
 intro f a;unfold az at a;cases m:n.h.getD j E with
 |none=>rw[m] at a;exact tq o j f a
 |some p=>rw[m] at a;exact o.nQ j p m f a
structure te(a f:K):Prop where
 nI:f.ap=a.ap
 nH:f.x=a.x
 nJ:f.bq=a.bq
 nF:f.j=a.j
 nB:f.ab=a.ab
 nG:f.g=a.g
 nE:f.bh=a.bh
 nD:f.bg=a.bg
 nC:f.br=a.br
 nA:jw a f
def ky(a:r.da=n.da):te n r:=
 ⟨(AB K.ap a:),(AB K.x a:),(AB K.bq a:),(AB K.j a:),(AB K.ab a:),(AB K.g a:),(AB K.bh a:),(AB K.bg a:),(AB K.br a:),cj (pu a)⟩
def fr(m:r.au=n.au)(p:r.ab=n.ab)(f:r.i=n.i)(t:r.aa=n.aa)(l:r.bh=n.bh)(j:r.bg=n.bg)(q:r.br=n.br):r.bc=n.bc:=by
 have a:∀o,r.fg o=n.fg o:=λo=>by
  cases o with
  |none=>rfl
  |some b=>show r.ci b=n.ci b;unfold ci ca y K.w;rw[p,f]
 unfold bc;rw[m,f,t,l,j,q,a,a,a]
def ad.n5{x m:B}(f:ad x n)(y:x<=m)(N:r.da=n.da)(G:r.gk)(z:r.an<=m)(S:∀j,∀p∈r.az j,p<256)(U:∀j,j<n.g.length->∀o,o<32->fi (r.az j) o<=262144):ad m r:=by
 have a:=ky N;have V:=f.nG;have W:=f.nM;have Y:=f.nY;have t:∀b,r.b b=n.b b:=λb=>by unfold K.b;rw[a.nF]
 have L:∀b,r.w b=n.w b:=λb=>by unfold K.w;rw[a.nB]
 have M:∀l,r.al l=n.al l:=λl=>by unfold al;rw[a.nE,a.nD,a.nC]
 refine f.nZ y G a.nA (by rw[a.nF];exact f.nC) (by rw[a.nG]) (by rw[a.nI];omega) (by rw[a.nH];omega) (by rw[a.nJ];omega) z (λb=>by rw[t];exact(f.nH b).nB y) (λb o F u=>by rw[L] at u;exact f.nN b o F u) (λj Z Q p H=>S j p ?_) U (λl b P q=>by rw[M] at q;rw[t];exact f.nR l b P q);unfold az;rw[Q];exact H
def oy(a:K)(f:B):(a.am f).an=a.an+1:=by unfold am;dsimp only;split<;>rfl
def ru(a:ad l n)(t:p<n.g.length):bz (l+1) n (n.am p) 0:=by
 have m:=a.nA.nA;have f:=ga m.nB t;have q:=oz m f (K.le m.nB m.nG t);have j:=ky f.nA;refine⟨a.n5 Y f.nA (a.nA.nI q (mq n p)) (by rw[oy];have:=a.nS;omega) (λo u r=>?_) (λo x z y=>?_),q,?_⟩
 ·rw[f.nB] at r;exact kj a o u r
 ·rw[f.nB];exact a.nP o x z y
 ·rw[fr (jj f.nA m.nA) j.nB j.nA.nA j.nA.nJ j.nE j.nD j.nC];exact AI _
def ip(a:ad l n):n.ao=32:=by unfold ao;rw[a.nB]
def vo(f:n.fh){a v:B}(o:a<n.v):(n.ch a v).az (a/n.ao)=n.az (a/n.ao)\/(n.ch a v).az (a/n.ao)=BO (n.az (a/n.ao)) (a%n.ao*4) (AS v 4):=by
 have l:=gr f o;have j:=ga f l;obtain⟨q,p,m⟩:=j.nE;unfold ch;dsimp only;split
 ·exact AT (j.nB _)
 ·right;rw[p];unfold az;dsimp only;rw[cz (by rw[j.nG,f.nA];exact l),A8 A];show BO q.a _ _=BO (n.az _) _ _;rw[m]
def wf{b m:G B}{o:B}(l:∀a∈b,a<256)(n:∀a∈m,a<256):∀a∈BO b o m,a<256:=by
 intro a j;unfold BO at j;rw[Bs,Bs] at j;rcases j with(f|f)|f
 ·exact l a (EW f)
 ·exact n a f
 ·exact l a (EP f)
def vn(a:K)(f v:B):(a.ch f v).an=a.an+1:=by
 unfold ch;dsimp only;split<;>exact oy a _
def rk(a:ad l n){f v:B}(x:f<n.v)(aa:v<=262144)(W:∀L,gb v=C L->n.ak L/\n.fo f L):ad (l+1) (n.ch f v)/\ik n (n.ch f v) f (gb v)/\(n.ch f v).bc=n.bc:=by
 have o:=a.nA.nA
 have G:v<256^4:=by have:(256:B)^4=4294967296:=by decide
                    omega
 have t:=op o.nB x G;have u:=oo o x G W;have q:=ky t.nA;have N:=ip a;have M:=vo (n:=n) (v:=v) o.nB x;have S:=gr o.nB x;have Z:(n.az (f/n.ao)).length=n.aj:=hp o.nB S;have U:f%n.ao*4+4<=(n.az (f/n.ao)).length:=by rw[Z,a.nB,N];omega
 refine⟨a.n5 Y t.nA (a.nA.nL u.nE u.nA u.nD (tk (on n f v))) (by rw[vn];have:=a.nS;omega) (λj y p=>?_) (λj F H z=>?_),u,fr (jj t.nA o.nA) q.nB q.nA.nA q.nA.nJ q.nE q.nD q.nC⟩
 ·by_cases r:j=f/n.ao
  ·subst r;rcases M with m|m
   ·rw[m] at p;exact kj a _ y p
   ·rw[m] at p;exact wf (kj a _) (H' _ _) y p
  ·rw[t.nB j r] at p;exact kj a j y p
 ·by_cases r:j=f/n.ao
  ·subst r;rcases M with m|m
   ·rw[m];exact a.nP _ F H z
   ·rw[m,qk U G];split
    ·exact aa
    ·exact a.nP _ F H z
  ·rw[t.nB j r];exact a.nP j F H z
def lm(a:ad l n){b:B}(L:b<70)(Q:0<n.y b)(j:Cq->Cq)(x:∀f,(j f).a=f.a)(U:∀f,(j f).b=f.b)(G:kn (l+1) (j (n.b b))):bz (l+1) n (n.bl b j) 0:=by
 have q:=a.nA.nA;have r:b<n.j.length:=by rw[a.nC];exact L
 obtain⟨p,_,y,M⟩:=kk q r Q j x U;have t:=λm=>ji (n:=n) j r m;have Z:=a.nG;have aa:=a.nM;have af:=a.nY;have ag:=a.nS;have H:=(p.nA.nC q A y A).2.2.1;refine⟨a.nZ Y (a.nA.nI p A) (cj A) (by show(n.j.set _ _).length=_;rw[B_];exact a.nC) A (by show n.ap<=_;omega) (by show n.x<=_;omega) (by show n.bq<=_;omega) (by show n.an<=_;omega) (λm=>?_) a.nN (λo f z=>?_) (λo u V P=>?_) (λW m S N=>?_),p,?_⟩
 ·rw[t];split
  ·exact G
  ·exact(a.nH m).nB Y
 ·rw[y] at z;exact a.nQ o f z
 ·rw[H o u];exact a.nP o u V P
 ·have:=a.nR W m S N;rw[t];split
  ·rename_i F;rw[x,<-F];exact this
  ·exact this
 ·rw[fr M A A A A A A];exact AI _
variable{xq:AF}
def ad.nI(f:ad l n)(a:n.ak xq):xq.a<70/\xq.b<256/\0<n.y xq.a:=by
 have:=a.1;rw[f.nC] at this;exact⟨this,(kz f.nA.nA a).1,gw a⟩
def Y6{P:Prop}(h:P:=by dsimp only;omega):P:=h
def jh(a:ad l n)(m:n.ak xq):bz (l+1) n (n.ai xq) 0:=by
 obtain⟨f,b,j⟩:=a.nI m;obtain⟨o,p,q,r⟩:=a.nH xq.a;exact lm a f j _ (λ_=>A) (λ_=>A) ⟨Y6,Y6,Y6,Y6⟩
def pi(a:ad l n)(m:n.ak xq):bz (l+1) n (n.dn xq) 0:=by
 obtain⟨f,b,j⟩:=a.nI m;obtain⟨o,p,q,r⟩:=a.nH xq.a;exact lm a f j _ (λ_=>A) (λ_=>A) ⟨Y6,Y6,Y6,Y6⟩
def pm(a:ad l n)(m:n.ak xq):bz (l+1) n (n.ee xq) 0:=by
 obtain⟨f,b,j⟩:=a.nI m;obtain⟨o,p,q,r⟩:=a.nH xq.a;exact lm a f j _ (λ_=>A) (λ_=>A) ⟨Y6,Y6,Y6,Y6⟩
def st(a:ad l n)(o:n.ak xq):bz (l+1) n (n.bl xq.a λf=>{f with c:=f.c-1}) 0:=by
 obtain⟨j,b,m⟩:=a.nI o;obtain⟨p,q,r,t⟩:=a.nH xq.a;exact lm a j m _ (λ_=>A) (λ_=>A) ⟨Y6,Y6,Y6,Y6⟩
def ss(a:ad l n){f:AN×AF}(o:n.ak f.2):bz (l+1) n (n.hk f) 0:=by
 obtain⟨j,b,m⟩:=a.nI o;obtain⟨p,q,r,t⟩:=a.nH f.2.a;exact lm a j m _ (λ_=>A) (λ_=>A) ⟨Y6,Y6,Y6,Y6⟩
def qe(f:ad l n)(o:AC AF)(j:∀a,o=C a->n.ak a):bz (l+1) n (n.dw o) 0:=by
 cases o with
 |none=>exact(bz.nF f).nE Y (AI _)
 |some a=>exact pi f (j a A)
def qd(f:ad l n)(o:AC AF)(j:∀a,o=C a->n.ak a):bz (l+1) n (n.ev o) 0:=by
 cases o with
 |none=>exact(bz.nF f).nE Y (AI _)
 |some a=>exact st f (j a A)
end K
namespace K
variable{n:K}
def hh(a:ad l n)(f:p<n.v):(n.be p).1=n.ba p/\bz (l+1) n (n.be p).2 0:=
 ⟨(mj a.nA.nA.nB f).1,ru a (gr a.nA.nA.nB f)⟩
variable{xq:AF}
def rl(a:ad l n)(f:n.ak xq):xq.c<=262144:=by
 obtain⟨j,b,_⟩:=a.nI f;unfold AF.c;omega
def iy(r:ad l n)(j:p<n.v)(m:n.ak xq)(F:n.fo p xq):ad (l+4) (n.de p xq)/\ik n (n.de p xq) p (C xq)/\n.bc<=(n.de p xq).bc:=by
 obtain⟨q,f⟩:=hh r j;have N:=ws r.nA.nA j m F;refine⟨?_,N,?_⟩;all_goals
  obtain⟨o,z,u⟩:∃o z,n.be p=(o,z):=⟨_,_,A⟩;have S:n.de p xq=((z.ev o).ee xq).ch p xq.c:=by unfold K.de;rw[u]
  rw[u] at q f;dsimp only at q f;clear u;have L:=qd f.nA o (λy H=>(f.nB.nA.nA y (r.nA.nA.nC p y j (by rw[<-q,H])).1).1);have t:=f.nC L;have M:=pm t.nA (t.nB.nA.nA xq m).1;have a:=t.nC M;have x:=(a.nB.nA.nA xq m).1;obtain⟨U,Y,Z⟩:=rk a.nA (f:=p) (v:=xq.c) (by rw[a.nB.nF];exact j) (rl a.nA x) (λy G=>by
   have:gb xq.c=C xq:=by unfold gb;rw[A1 (by unfold AF.c;omega),ki xq (a.nA.nI x).2.1]
   rw[this] at G;cases G;exact⟨x,F.nA a.nB.nA m⟩)
  rw[S]
 ·exact U
 ·have W:=a.nD;omega
def xi(r:ad l n)(j:p<n.v):ad (l+4) (n.fl p)/\ik n (n.fl p) p E/\n.bc<=(n.fl p).bc:=by
 obtain⟨q,a⟩:=hh r j;have f:=xh r.nA.nA j;obtain⟨o,m,u⟩:∃o m,n.be p=(o,m):=⟨_,_,A⟩;rw[u] at q a;dsimp only at q a;cases o with
 |none=>
  have x:n.fl p=m:=by unfold fl;rw[u]
  rw[x] at f⊢;exact⟨a.nA.nE Y,f,by have:=a.nD;omega⟩
 |some y=>
  have x:n.fl p=(m.bl y.a λz=>{z with c:=z.c-1}).ch p 0:=by unfold fl;rw[u]
  have H:=(r.nA.nA.nC p y j q.symm).1;have G:=st a.nA (a.nB.nA.nA y H).1;have t:=a.nC G;obtain⟨L,M,N⟩:=rk t.nA (f:=p) (v:=0) (by rw[t.nB.nF];exact j) Z (λS F=>by cases F);rw[x] at f⊢;exact⟨L.nE Y,f,by have:=t.nD;omega⟩
def sw(p:n.fh)(q:l<n.g.length)(a:B):(n.co l).az a=n.az a:=by
 have m:=ga p q;obtain⟨f,j,_⟩:=m.nE;have r:=iw j;rw[<-m.nB a];show(match((n.am l).h.set l (((n.am l).h.getD l E).map λf=>{f with b:=R})).getD a E with|some f=>f.a|none=>(n.am l).cq a)=(n.am l).az a;rw[j,cz r];by_cases o:a=l
 ·subst o;rw[A8 A];unfold az;rw[j];rfl
 ·rw[A1 o];rfl
def na(a:ad l n)(m:p<n.g.length):bz (l+1) n (n.co p) 0:=by
 have j:=a.nA.nA;obtain⟨q,x⟩:=xg j m;have t:(n.co p).da=n.da:=(ga j.nB m).nA;have f:=ky t;refine⟨a.n5 Y t (a.nA.nI q (ju n p)) (by show(n.am p).an<=_;rw[oy];have:=a.nS;omega) (λo u r=>?_) (λo y F z=>?_),q,?_⟩
 ·rw[sw j.nB m] at r;exact kj a o u r
 ·rw[sw j.nB m];exact a.nP o y F z
 ·rw[fr x f.nB f.nA.nA f.nA.nJ f.nE f.nD f.nC];exact AI _
def ii(j:K)(m:B)(o:AC B×AC B)(l:G B)(f a:B):K:={j with aw:=m,bf:=o,ae:=l,ct:=f,bi:=a}
def jk{j m:B}(a:ad j n)(an:j<=m){o:AC B×AC B}(Y:l<=m)(S:(∀b,o.1=C b->b<70)/\∀b,o.2=C b->b<70)(W:q.Nodup/\∀Z∈q,Z<n.g.length)(U:p<=m)(N:np<=m):bz m n (n.ii l o q p np) 0:=by
 obtain⟨f,M⟩:=ft (r:=n.ii l o q p np) a.nA.nA A;have L:=a.nE an;obtain⟨aw,ak,aq,al,au,x,z,y,ar,H,av,r,ap,a1,ay,a0,u,am,aj,F,az,ah,ai,t,ao,ax,aa,af,ag⟩:=L;refine⟨⟨a.nA.nJ f A,ak,aq,al,au,x,z,y,ar,H,av,r,ap,Y,U,N,u,am,aj,F,W,ah,ai,t,ao,S,aa,af,ag⟩,f,?_⟩;rw[fr M A A A A A A];exact AI _
def mz(a:ad l n)(f:q.Nodup/\∀j∈q,j<n.g.length):bz l n (n.dv q) 0:=
 jk a (AI _) a.n3 a.nV f a.nW a.n0
def cp(f:K)(a:B):K:=if(f.co a).ae.contains a then f.co a else(f.co a).dv ((f.co a).ae++[a])
def nz(r:ad l n)(m:p<n.g.length):bz (l+1) n (cp n p) 0:=by
 have f:=na r m;unfold cp;split
 ·exact f
 ·rename_i z;have o:=f.nA.nO;have x:p∉(n.co p).ae:=λa=>z (List.contains_iff_mem.2 a);refine f.nC (mz f.nA ⟨?_,λy u=>?_⟩)
  ·rw[ID];exact⟨o.1,Y1,λF t b j q=>by rw[CZ] at j;subst j;subst q;exact x t⟩
  ·rcases Bs.1 u with a|a
   ·exact o.2 y a
   ·rw[CZ] at a;subst a;rw[f.nB.nC];exact m
def Z7{P:Prop}(h:P:=by rw[List.length_cons];omega):P:=h
def oa:∀(f:G B){j:B}{a:K},ad j a->(∀n∈f,n<a.g.length)->bz (j+f.length) a (f.foldl cp a) 0
 |[],j,a,l,_=>bz.nF l
 |n::f,j,a,l,o=>by
  have m:=nz l (o n (Bt ..));have p:=oa f m.nA λr q=>by rw[m.nB.nC];exact o r (By _ q)
  exact(m.nC p).nE Z7 (AI _)
def oc(a:K)(b:B):(a.ep b).length<=a.g.length:=by
 have:=Ez (λf=>match a.bo f with|some j=>j.a==b|none=>I) (AH a.g.length);rw[Dj] at this;exact this
def od(f:K)(b:B):∀a∈f.ep b,a<f.g.length:=λa j=>Ce.1 (CF.1 j).1
def ad.nJ(a:ad l n):n.g.length<=12:=by rw[a.nU];have:=a.nF;omega
def ob(a:K):AC B:=(((AH a.j.length).filter λb=>(a.b b).a==2&&!a.ck b).filter λb=>!a.cc b).foldl (λ(o:AC B) b=>match o with|none=>C b|some f=>if(a.ep b).length<(a.ep f).length then C b else C f) E
def ny(a:K):B:=((AH a.j.length).filter λb=>(a.b b).a==2&&!a.ck b).length
def kd(a:K):a.fj=match a.ob with
 |none=>a
 |some f=>if a.ny<=2*((a.g.length+a.jt)/a.i+1)+1 then a else(a.ep f).foldl cp a:=A
def ux(a:ad l n):bz (l+12) n n.fj 0:=by
 have f:=(bz.nF a).nE (m:=l+12) Y (AI 0);rw[kd];split
 ·exact f
 ·split
  ·exact f
  ·rename_i j _ _;have:=oc n j;have:=a.nJ;exact(oa _ a (od n j)).nE Y (AI _)
def kl(a:K):a.ce=(a.ii a.ap (a.bh,a.bg) a.dr 0 0).fj:=A
def nn(f:ad l n):n.dr.Nodup/\∀a∈n.dr,a<n.g.length:=
 ⟨List.nodup_range.filter _,λa j=>by rw[<-f.nA.nA.nB.nA];exact Ce.1 (CF.1 j).1⟩
def km(a:ad l n):bz (l+12) n n.ce 0:=by
 have j:=jk a (AI l) (l:=n.ap) (o:=(n.bh,n.bg)) (q:=n.dr) (p:=0) (np:=0) a.nG ⟨λb f=>by have:=(a.nA.nA.nA.nC b f).1;rw[a.nC] at this;exact this,λb f=>by have:=(a.nA.nA.nA.nB b f).1;rw[a.nC] at this;exact this⟩ (nn a) Y Y;rw[kl];exact j.nC (ux j.nA)
end K
namespace K
variable{n r:K}
def gk.nK(f:n.gk)(F:r.cf)(a:dy n r)(B:r.g.length=n.g.length)(q:r.aa=n.aa)(t:r.bj=n.bj)(u:r.ax=n.ax)(x:r.ah=n.ah)(y:r.ac=n.ac)(z:r.bb=n.bb):r.gk:=
 ⟨F,λo l=>by rw[q] at l;obtain⟨p,b⟩:=f.nB o l;exact⟨by rw[a.nD];exact p,a.nF o b⟩,λm j=>by rw[t] at j;exact(a.nA m (f.nE m j)).1,λm j=>by rw[u] at j;exact(a.nA m (f.nF m j)).1,λo l=>by rw[x] at l;exact(a.nA _ (f.nD o l)).1,by rw[a.nB];exact f.nH,by rw[B,y,a.nB];exact f.nG,by rw[z];exact f.nC⟩
variable{yk:CG}
def xk(j:n.h.getD l E=C yk)(v:B)(a:B):(n.fm (n.g.set l v) (n.h.set l (C {yk with b:=I}))).az a=n.az a:=by
 have p:=iw j;show(match(n.h.set l (C {yk with b:=I})).getD a E with|some yk=>yk.a|none=>(n.fm (n.g.set l v) (n.h.set l (C {yk with b:=I}))).cq a)=n.az a;rw[cz p];by_cases f:a=l
 ·subst f;rw[A8 A];unfold az;rw[j]
 ·rw[A1 f];have m:(n.fm (n.g.set l v) (n.h.set l (C {yk with b:=I}))).cq a=n.cq a:=by
   have o:(n.g.set l v).getD a 0=n.g.getD a 0:=by
    rw[AY,EV,A1 (Jb f),<-AY]
   show(if(n.g.set l v).getD a 0=0 then U n.aj 0 else(n.ay (DE ((n.g.set l v).getD a 0))).take n.aj)=_;rw[o];rfl
  rw[m];rfl
def xl(a:ad l n)(m:n.h.getD p E=C yk)(v:B)(t:(n.fm (n.g.set p v) (n.h.set p (C {yk with b:=I}))).gk):ad l (n.fm (n.g.set p v) (n.h.set p (C {yk with b:=I})))/\(n.fm (n.g.set p v) (n.h.set p (C {yk with b:=I}))).bc=n.bc:=by
 refine⟨a.nZ (AI _) t (cj A) a.nC B_ a.nG a.nM a.nY a.nS a.nH a.nN (λj r f o q=>?_) (λj u z x=>by rw[xk m];exact a.nP j u z x) a.nR,fr (hx A λ_=>A) A A A A A A⟩;have y:=iw m;have f:(n.h.set p (C {yk with b:=I})).getD j E=C r:=f;rw[cz y] at f;split at f
 ·cases f;exact a.nQ p yk m o q
 ·exact a.nQ j r f o q
def mw(j:ad l n)(a:B)(U:n.i*7<n.bc):bz (l+5) n (n.bt a) 2:=by
 have x:=dx (p:=0) j Y;obtain⟨q,_⟩:=wr j.nA.nA a x;have S:=hq j.nA.nA a x;have r:=j.nA.nI q S;cases o:n.h.getD a E with
 |none=>
  have p:n.bt a=n:=by unfold bt;rw[o]
  rw[p];exact(bz.nF j).nE Y Y
 |some f=>
  cases G:f.b with
  |false=>
   have p:n.bt a=n:=by unfold bt;rw[o];dsimp only;rw[G];rfl
   rw[p];exact(bz.nF j).nE Y Y
  |true=>
   have p:n.bt a=n.gt a f:=by unfold bt;rw[o];dsimp only;rw[G];rfl
   rw[p] at q r⊢;have H:a<n.g.length:=by rw[<-j.nA.nA.nB.nA];exact iw o
   have aj:f.a.length=128:=by
    have:=hp j.nA.nA.nB H;unfold az at this;rw[o,j.nB] at this;exact this
   have t:=hi j (p:=2) Z U (ym:=⟨3,a,0,0,0,0⟩) (show 3<256 by decide) (j.nQ a f o) Y;have z:=fw j.nA.nA.nA (l:=2) Z x ⟨3,a,0,0,0,0⟩ f.a;have L:=z.nD.1;have M:(n.af 2 ⟨3,a,0,0,0,0⟩ f.a).2.h=n.h:=(AB K.h z.nA:);have F:n.gt a f=(((n.af 2 ⟨3,a,0,0,0,0⟩ f.a).2.ai (n.af 2 ⟨3,a,0,0,0,0⟩ f.a).1).dw (n.bo a)).fm ((((n.af 2 ⟨3,a,0,0,0,0⟩ f.a).2.ai (n.af 2 ⟨3,a,0,0,0,0⟩ f.a).1).dw (n.bo a)).g.set a (n.af 2 ⟨3,a,0,0,0,0⟩ f.a).1.c) ((((n.af 2 ⟨3,a,0,0,0,0⟩ f.a).2.ai (n.af 2 ⟨3,a,0,0,0,0⟩ f.a).1).dw (n.bo a)).h.set a (C {f with b:=I})):=A;rw[F] at q r⊢;clear F;obtain⟨m,af⟩:∃m,m=n.af 2 ⟨3,a,0,0,0,0⟩ f.a:=⟨_,A⟩;rw[<-af] at t L M q r⊢;have u:=t.nC (jh t.nA L);have y:=u.nC (qe u.nA (n.bo a) (λai aa=>(u.nB.nA.nA ai (ms j.nA.nA H aa)).1));have W:((m.2.ai m.1).dw (n.bo a)).h.getD a E=C f:=by
    have N:((m.2.ai m.1).dw (n.bo a)).h=m.2.h:=by unfold dw;split<;>rfl
    rw[N,M];exact o
   obtain⟨ag,ah⟩:=xl y.nA W m.1.c r;exact⟨ag,q,by rw[ah];exact y.nD⟩
def wo{o:G AF×K}(p:ad l o.2)(u:o.2.i*7<o.2.bc)(y:∀f∈o.1,o.2.ak f){a:G B×B}(H:a.1.length<=128)(L:∀t∈a.1,t<256):bz (l+4) o.2 (K.fs o a).2 2/\∀f∈(K.fs o a).1,(K.fs o a).2.ak f:=by
 have x:=dx (p:=0) p Y;have j:=hi p (p:=2) Z u (ym:=⟨4,a.2,0,0,0,0⟩) (show 4<256 by decide) L H;have m:=(fw p.nA.nA.nA (l:=2) Z x ⟨4,a.2,0,0,0,0⟩ a.1).nD.1;unfold K.fs;obtain⟨r,F⟩:∃r,r=o.2.af 2 ⟨4,a.2,0,0,0,0⟩ a.1:=⟨_,A⟩;rw[<-F] at j m⊢;have q:=j.nC (jh j.nA m);refine⟨q,λf z=>?_⟩;rcases Bs.1 z with n|n
 ·exact(q.nB.nA.nA f (y f n)).1
 ·rw[CZ] at n;subst n;exact((jh j.nA m).nB.nA.nA _ m).1
def si:∀(a:G (G B×B)){l:B}{o:G AF×K},ad l o.2->o.2.i*7+2*a.length<=o.2.bc->(∀r∈o.1,o.2.ak r)->(∀f∈a,f.1.length<=128/\∀n∈f.1,n<256)->bz (l+4*a.length) o.2 (a.foldl K.fs o).2 (2*a.length)/\∀r∈(a.foldl K.fs o).1,(a.foldl K.fs o).2.ak r
 |[],l,o,j,_,p,_=>⟨bz.nF j,p⟩
 |f::a,l,o,j,u,p,q=>by
  rw[C8] at u;obtain⟨m,b⟩:=wo j Y p (q f (Bt ..)).1 (q f (Bt ..)).2;have x:(K.fs o f).2.i=o.2.i:=by
   have:=il j.nA.nA (l:=2) Z (dx (p:=0) j Y) ⟨4,f.2,0,0,0,0⟩ f.1;exact(AB K.i this:)
  have F:=m.nD;obtain⟨n,t⟩:=si a m.nA (by rw[x];omega) b (λz y=>q z (By _ y));exact⟨(m.nC n).nE Z7 Z7,t⟩
def nr(m:K):∀j∈m.cl,j<256:=by
 intro j f;unfold cl at f;rw[Bs,Bs,AE3] at f;rcases f with a|a|⟨n,l,a⟩
 ·exact hg a
 ·exact hg a
 ·obtain⟨v,_,rfl⟩:=CI.1 l;exact hg a
def tn(m:ad l n):∀j∈(gg n.aj (n.cl++n.ac)).zipIdx,j.1.length<=128/\∀a∈j.1,a<256:=by
 intro j q;have:=AEZ q;unfold gg at this;obtain⟨r,_,o⟩:=CI.1 this;rw[m.nB] at o;rw[<-o];refine⟨Z3,λa p=>?_⟩;have:=EP (EW p);rcases Bs.1 this with f|f
 ·exact nr n a f
 ·exact m.nT a f
def ll(a:ad l n):(gg n.aj (n.cl++n.ac)).length<=1:=by
 rw[tm,Ad,ka,a.nB,a.nL];have:=a.nJ;have:=a.nF;omega
def mv(a:ad l n)(q:n.i*7+2<=n.bc):bz (l+4) n n.cd.2 2/\(∀f∈n.cd.1,n.cd.2.ak f)/\n.cd.1.length<=1:=by
 have o:=ll a;have r:((gg n.aj (n.cl++n.ac)).zipIdx).length<=1:=by rw[Zg];exact o
 have m:=wp n;rw[lk] at m⊢;obtain⟨j,b⟩:=si (o:=([],n)) _ a (show n.i*7+2*_<=n.bc by omega) (λf p=>by cases p) (tn a);exact⟨j.nE Y Y,b,Y⟩
def sb(f:ad l n)(ak:p<70)(H:(n.b p).a=3)(m:D4)(L:∀o∈m.a,o.length=192/\∀a∈o,a<256):bz l n (n.gz p m) 0:=by
 have x:=f.nA.nA;have N:p<n.j.length:=by rw[f.nC];exact ak
 obtain⟨z,af⟩:=pe x N H m (λo q=>by rw[f.nB];exact(L o q).1);have M:∀a,(n.gz p m).w a=if a=p then m else n.w a:=λa=>ie (by rw[x.nA.nA];exact N) a
 have aa:=(z.nA.nC x A A A).2.2.1;refine⟨f.nZ (AI _) (f.nA.nI z A) (cj A) f.nC A f.nG f.nM f.nY f.nS f.nH (λb F o q a t=>?_) f.nQ (λS G F ag=>by rw[aa S G];exact f.nP S G F ag) f.nR,z,?_⟩
 ·rw[M] at q;split at q
  ·exact(L o (FW q)).2 a t
  ·exact f.nN b F o q a t
 ·have r:∀j,j<=2->(n.gz p m).fg (n.al j)=n.fg (n.al j):=by
   intro j aj;cases ai:n.al j with
   |none=>rfl
   |some a=>
    have ah:a≠p:=by
     intro r;subst r;have:=f.nR j a aj ai;rw[H] at this;split at this<;>omega
    have t:=M a;rw[A1 ah] at t;show(n.gz p m).ci a=n.ci a;unfold ci ca y;rw[t];rfl
  have U:=r 0 Z;have W:=r 1 Z;have Y:=r 2 Z;rw[ix,ix,af];have u:∀j,(n.gz p m).al j=n.al j:=λ_=>A;rw[u,u,u,U,W,Y];exact AI _
def pf{o m:B}(f:ad o n)(ak:o<=m)(p r l:B)(q:AC B)(j:B)(t:AC (G B))(S:j<=m):bz m n ({n with bd:=p,u:=r,bv:=l,aq:=q,av:=j,bn:=t}:K) 0:=by
 obtain⟨a,Q⟩:=ft (r:=({n with bd:=p,u:=r,bv:=l,aq:=q,av:=j,bn:=t}:K)) f.nA.nA A;have P:=f.nE ak;obtain⟨ax,af,am,ag,ao,F,L,H,an,N,ap,x,_,aw,aj,au,z,ai,aa,M,ar,Y,Z,y,al,ah,U,V,W⟩:=P;refine⟨⟨f.nA.nK a.nB a.nA a.nC A A A A A A,af,am,ag,ao,F,L,H,an,N,ap,x,S,aw,aj,au,z,ai,aa,M,ar,Y,Z,y,al,ah,U,V,W⟩,a,?_⟩;rw[fr Q A A A A A A];exact AI _
end K
namespace K
def wv{v:AC (G B)}(n:∀j,v=C j->∀f∈j,f<256):∀f∈cn l p v,f<256:=by
 intro f m;unfold cn at m;dsimp only at m;simp only[Bs,FX,C2,Ef,Eh] at m;rcases m with((a|a|a|a)|a|a)|a
 ·omega
 ·omega
 ·omega
 ·omega
 ·exact hg a
 ·cases v with
  |none=>simp at a;omega
  |some j=>
   simp only[Bs,C2,Ef,Eh] at a;rcases a with(a|a)|(a|a|a)|a
   ·omega
   ·omega
   ·omega
   ·omega
   ·omega
   ·exact n j A f a
 ·omega
def sf(b:G B)(z:b.length=192)(H:∀n∈b,n<256)(v:AC (G B)):∀(p:G B){o:B}{f:K},ad o f->(∀j∈p,j<70/\(f.b j).a=3)->bz (o+1) f (ei b v p f) 0
 |[],o,f,r,_=>(bz.nF r).nE Y (AI _)
 |j::p,o,f,r,N=>by
  obtain⟨S,M⟩:=N j Bt;have m:bz o f (if f.aq=C j then f else f.cx j I) 0/\(if f.aq=C j then f else f.cx j I).j=f.j:=by
   split
   ·exact⟨bz.nF r,A⟩
   ·have q:=sb r S M ⟨I,[]⟩ (λu x=>by cases x);have b:=pf q.nA (AI o) f.bd f.u (f.bv+1) f.aq f.av f.bn r.nX;exact⟨q.nC b,A⟩
  obtain⟨l,y⟩:∃l,l=(if f.aq=C j then f else f.cx j I):=⟨_,A⟩;have Z:ei b v (j::p) f=if l.ci j=0 then ei b v p l else{l.eu j b with aq:=C j,av:=l.av+1,bn:=v}:=by rw[y];rfl
  rw[<-y] at m;clear y;obtain⟨m,W⟩:=m;have F:∀n,l.b n=f.b n:=λn=>by unfold K.b;rw[W]
  rw[Z];split
  ·exact m.nC (sf b z H v p m.nA (λaf aa=>by rw[F];exact N af (By _ aa)))
  ·have q:=sb m.nA S (by rw[F];exact M) {l.w j with a:=(l.w j).a++[b]} (λu x=>by
    rcases Bs.1 x with t|t
    ·obtain⟨U,L⟩:=TR t;exact⟨by rw[m.nA.nA.nA.nD j U u L,m.nA.nB],m.nA.nN j U u L⟩
    ·rw[CZ] at t;rw[t];exact⟨z,H⟩)
   have n:=pf q.nA (IE o) (l.bd+1) (l.u+1) l.bv (C j) (l.av+1) v (by have:=m.nA.nX;omega);exact m.nC (q.nC n)
variable{n:K}
def pc(f:ad l n)(v:AC (G B))(m:∀a,v=C a->a.length<=175/\∀p∈a,p<256):bz (l+1) n (n.cr v) 0:=by
 unfold cr;refine sf _ ?_ (wv λa j=>(m a j).2) v n.ig f (λo q=>?_)
 ·rw[sp _ _ _ (λa j=>by rw[f.nB];have:=(m a j).1;omega) Y,f.nB]
 ·have:=f.nA.nB o (rq n o q);rw[f.nC] at this;exact this
def om(q:ad l n)(ak:0<n.au)(b6:n.aa.length<3):bz (l+1) n n.ds 0:=by
 have z:=q.nA.nA;obtain⟨b4,ba,bf⟩:=jy ak;obtain⟨b,bc,t,u⟩:=kc z.nA I ba bf;have bi:(n.j[b]'t).b=0:=by
  have a4:=(z.nA.nD b t u).2.2.2.1;have:n.b b=n.j[b]'t:=by show n.j.getD b Cq.e=_;rw[AY,Aw t];rfl
  rw[<-this];exact a4
 obtain⟨o,a8,ai⟩:=rj z q.nA.nB ak;obtain⟨j,a⟩:∃j:K,j={n.gq b with bv:=n.bv+1,x:=n.x+1,aa:=(n.aa++[b]).mergeSort}:=⟨_,A⟩;have bb:n.ds=j:=by
  unfold ds K.fc;rw[bc,a];simp[cx,K.bl,K.b,gq,Hl,Cq.e,t,bi]
 rw[bb] at o a8 ai⊢;have aj:∀f,j.b f=if f=b then⟨3,0,0,0,1⟩ else n.b f:=λf=>by
  rw[a];show(n.j.set b ⟨3,0,0,0,1⟩).getD f Cq.e=_;rw[cz t];rfl
 have am:∀f,j.w f=if f=b then⟨I,[]⟩ else n.w f:=λf=>by rw[a];exact ie (by rw[z.nA.nA];exact t) f
 have an:∀j,j<=2->n.al j≠C b:=λj a U=>by
  have:n.cc b=R:=(gn n b).2 ⟨j,a,U⟩;unfold ar at u;rw[this] at u;simp at u
 have a6:=(o.nA.nC z (by rw[a];rfl) (by rw[a];rfl) (by rw[a];rfl)).2.2.1;have a7:j.gk:=by
  obtain⟨_,af,ag,M⟩:=(⟨AA,q.nA.nE,q.nA.nF,q.nA.nD⟩:True/\_/\_/\_);exact⟨o.nB,ai,λG F=>by rw[show j.bj=n.bj by rw[a];rfl] at F;exact(o.nA.nA G (af G F)).1,λG F=>by rw[show j.ax=n.ax by rw[a];rfl] at F;exact(o.nA.nA G (ag G F)).1,λb3 aq=>by rw[show j.ah=n.ah by rw[a];rfl] at aq;exact(o.nA.nA _ (M b3 aq)).1,by rw[o.nA.nB];exact q.nA.nH,by rw[o.nC,show j.ac=n.ac by rw[a];rfl,o.nA.nB];exact q.nA.nG,by rw[show j.bb=n.bb by rw[a];rfl];exact q.nA.nC⟩
 have ao:∀m,j.al m=n.al m:=λm=>by rw[a];rfl
 have N:∀m f,m<=2->j.al m=C f->(j.b f).a=if m=2 then 2 else 1:=λm f L p=>by
  rw[ao] at p;rw[aj,A1 (λr=>an m L (by rw[<-r];exact p))];exact q.nR m f L p
 have ap:j.aa=(n.aa++[b]).mergeSort:=by rw[a]
 have S:=AE5 (n.aa++[b]) (λah b=>Ac (ah<=b));have bg:b∉n.aa:=λbp=>by
  have:=(q.nA.nB b bp).2;unfold ar at u;rw[this] at u;simp at u
 have a5:=q.nE (IE l);obtain⟨_,bk,br,bl,bt,ax,a2,a1,bs,b5,bu,au,bq,b2,bo,b1,av,bn,bj,a3,bx,af,ag,M,cb,bm,b7,b8,b9⟩:=a5;refine⟨⟨a7,by rw[o.nA.nD];exact bk,by rw[o.nA.nB];exact br,by rw[a];exact bl,by rw[o.nE];exact bt,by rw[o.nC,o.nE];exact ax,by rw[a];exact a2,by rw[a];exact a1,by rw[a];exact bs,by rw[a];exact Zu q.nM,by rw[a];exact bu,by rw[a];exact au,by rw[a];exact bq,by rw[a];exact b2,by rw[a];exact bo,by rw[a];exact b1,λf=>?_,λf Y aw H=>?_,by rw[a];exact bj,λW bd Y be=>?_,by rw[a];exact bx,by rw[a];exact af,by rw[a];exact ag,by rw[a];exact M,?_,by rw[a];exact bm,λf p=>N 0 f Z p,λf p=>N 1 f Z p,λf p=>N 2 f Z p⟩,o,?_⟩
 ·rw[aj];split
  ·exact⟨Y6,Y6,Y6,Y6⟩
  ·exact av f
 ·rw[am] at H;split at H
  ·simp at H
  ·exact bn f Y aw H
 ·have al:W<n.g.length:=by rw[<-o.nC];exact bd
  rw[a6 W al];exact a3 W al Y be
 ·rw[ap];refine⟨S.nodup_iff.2 ?_,?_⟩
  ·rw[ID];exact⟨q.nK.1,Y1,λah a9 f p r=>by rw[CZ] at p;subst p;subst r;exact bg a9⟩
  ·rw[S.length_eq,Ad,JZ];omega
 ·have r:∀m,m<=2->j.fg (j.al m)=n.fg (n.al m):=by
   intro m L;rw[ao];cases U:n.al m with
   |none=>rfl
   |some f=>
    have bh:f≠b:=λr=>an m L (by rw[<-r];exact U);have p:=am f;rw[A1 bh] at p;show j.ci f=n.ci f;unfold ci ca y;rw[p,show j.i=n.i by rw[a];rfl]
  have ay:=r 0 Z;have az:=r 1 Z;have a0:=r 2 Z;rw[ix,ix,ay,az,a0,ap,S.length_eq,Ad,JZ,show j.i=n.i by rw[a];rfl];have:=OC n.i (show n.au+n.aa.length<=j.au+(n.aa.length+1) by omega);omega
def mi(a:ad l n)(t:n.i*7<n.bc)(m:q.length<=175/\∀o∈q,o<256):bz (l+2) n (n.eq q) 0:=by
 unfold eq;split
 ·rename_i r;have j:=om a (dx (p:=0) a Y) r;exact j.nC (pc j.nA (C q) λp f=>by cases f;exact m)
 ·exact(pc a (C q) λp f=>by cases f;exact m).nE Y (AI _)
def lo:∀(f:G AF){j:B}{a:K},ad j a->(∀n∈f,a.ak n)->bz (j+f.length) a (f.foldl dn a) 0
 |[],j,a,l,_=>bz.nF l
 |n::f,j,a,l,o=>by
  have m:=pi l (o n Bt);exact(m.nC (K.lo f m.nA λp q=>(m.nB.nA.nA p (o p (By _ q))).1)).nE Z7 (AI _)
def jx:∀(f:G AF){j:B}{a:K},ad j a->(∀n∈f,a.ak n)->bz (j+f.length) a (f.foldl ai a) 0
 |[],j,a,l,_=>bz.nF l
 |n::f,j,a,l,o=>by
  have m:=jh l (o n Bt);exact(m.nC (jx f m.nA λp q=>(m.nB.nA.nA p (o p (By _ q))).1)).nE Z7 (AI _)
def no:∀(f:G (AN×AF)){j:B}{a:K},ad j a->(∀r∈f,a.ak r.2)->bz (j+f.length) a (f.foldl hk a) 0
 |[],j,a,l,_=>bz.nF l
 |p::f,j,a,l,n=>by
  have m:=ss l (n p Bt);exact(m.nC (no f m.nA λq o=>(m.nB.nA.nA _ (n q (By _ o))).1)).nE Z7 (AI _)
def li(a:K):a.dl.length<=a.g.length:=by
 have:=List.length_filterMap_le a.bo (AH a.g.length);rw[Dj] at this;exact this
def du(j:K)(a f:G AF):K:={j with bj:=a,ax:=f}
def lq(f:K)(a:G (AN×AF)):K:={f with ah:=a}
def ol(o:ad l n){f j:G AF}(H:∀m∈f,n.ak m)(L:∀m∈j,n.ak m)(S:f.length<=16)(U:j.length<=4):bz l n (n.du f j) 0:=by
 obtain⟨p,M⟩:=ft (r:=n.du f j) o.nA.nA A;obtain⟨a,W,ai,Y,ak,u,y,x,aj,F,al,q,ah,ao,af,an,t,aa,V,z,am,ap,aq,r,ag,Z,N,P,Q⟩:=o;refine⟨⟨⟨p.nB,a.nB,H,L,a.nD,a.nH,a.nG,a.nC⟩,W,ai,Y,ak,u,y,x,aj,F,al,q,ah,ao,af,an,t,aa,V,z,am,S,U,r,ag,Z,N,P,Q⟩,p,?_⟩;rw[fr M A A A A A A];exact AI _
variable{xz:G (AN×AF)}
def to(f:ad l n)(x:∀al∈xz,n.ak al.2)(L:xz.length<=64):bz l n (n.lq xz) 0:=by
 obtain⟨j,y⟩:=ft (r:=n.lq xz) f.nA.nA A;obtain⟨a,Q,aa,S,ag,p,r,q,af,u,ah,m,Z,ak,W,aj,o,V,P,t,ai,M,N,am,Y,U,z,F,H⟩:=f;refine⟨⟨⟨j.nB,a.nB,a.nE,a.nF,x,a.nH,a.nG,a.nC⟩,Q,aa,S,ag,p,r,q,af,u,ah,m,Z,ak,W,aj,o,V,P,t,ai,M,N,L,Y,U,z,F,H⟩,j,?_⟩;rw[fr y A A A A A A];exact AI _
def kg(a:K)(f:G AF):a.gx f=(((a.bj++a.ax).foldl dn a).dl.foldl ai ((a.bj++a.ax).foldl dn a)).du ((a.bj++a.ax).foldl dn a).dl f:=by
 unfold gx;dsimp only;rw[mt];rfl
def rd(f:ad l n){p:G AF}(z:∀a∈p,n.ak a)(y:p.length<=4):bz (l+32) n (n.gx p) 0:=by
 have j:=K.lo (n.bj++n.ax) f λa o=>by
  rcases Bs.1 o with t|t
  ·exact f.nA.nE a t
  ·exact f.nA.nF a t
 rw[kg];have H:(n.bj++n.ax).length<=20:=by rw[Ad];have:=f.n1;have:=f.n2;omega
 obtain⟨m,F⟩:∃m,m=(n.bj++n.ax).foldl dn n:=⟨_,A⟩;rw[<-F] at j⊢;have o:=lh j.nA.nA.nA;have u:=jx m.dl j.nA o;have q:=j.nC u;have L:=li m;have:=j.nA.nJ;have x:=ol q.nA (f:=m.dl) (j:=p) (λa r=>(u.nB.nA.nA a (o a r)).1) (λa r=>(q.nB.nA.nA a (z a r)).1) Y y;exact(q.nC x).nE Y (AI _)
def ns(a:K):a.hz=((a.ah.filter λf=>f.1.a<=a.aw).foldl hk a).lq (((a.ah.filter λf=>f.1.a<=a.aw).foldl hk a).ah.filter λf=>¬f.1.a<=((a.ah.filter λf=>f.1.a<=a.aw).foldl hk a).aw):=A
def qc(m:ad l n):bz (l+64) n n.hz 0:=by
 rw[ns];have f:=no (n.ah.filter λa=>a.1.a<=n.aw) m (λa o=>m.nA.nD a (CF.1 o).1);have r:=Ez (λa:AN×AF=>Ac (a.1.a<=n.aw)) n.ah;have:=m.n4;obtain⟨j,q⟩:∃j,j=(n.ah.filter λa=>a.1.a<=n.aw).foldl hk n:=⟨_,A⟩;rw[<-q] at f⊢;have p:=to f.nA (xz:=j.ah.filter λa=>¬a.1.a<=j.aw) (λa o=>f.nA.nA.nD a (CF.1 o).1) (D9 (Ez ..) f.nA.n4);exact(f.nC p).nE Y (AI _)
def ml(p:ad l n)(m:∀f∈n.bb,f<256)(o:G AF):∀f∈n.db o,f<256:=by
 intro f j;unfold db at j;simp only[Bs,AE3,CI,C2,Ef,Eh] at j;rcases j with a|a|a|a|a|⟨q,⟨r,_,rfl⟩,a⟩|a
 ·exact hg a
 ·exact hg a
 ·exact hg a
 ·exact hg a
 ·omega
 ·exact hg a
 ·exact m f a
def vq(f:ad l n)(a:G AF)(j:a.length<=2):(n.db a).length<=175:=by
 rw[mm n a f.nA.nC];omega
def qy:∀(f:G B)(a:K),(f.foldl cp a).bi=a.bi
 |[],_=>A
 |l::f,a=>by
  rw[DN,qy f];have j:(a.co l).bi=a.bi:=(AB K.bi (ju a l):);unfold cp;split
  ·exact j
  ·exact j
def xa(a:K):a.ce.bi=0:=by
 rw[kl,kd];split
 ·rfl
 ·split
  ·rfl
  ·exact qy _ _
def qn(j:ad l n)(U:n.i*9<=n.bc)(H:∀F∈n.bb,F<256):bz (l+130) n n.ea 2/\n.ea.bi=0:=by
 have V:=j.nD;have S:=dx (p:=1) j Y;obtain⟨f,u,L⟩:=mv j Y;have r:=cj (ly j.nA.nA (D9 (ll j) Y));have t:=r.nC;have x:=r.nA;have N:=f.nD;unfold ea;obtain⟨a,P⟩:∃a,a=n.cd:=⟨_,A⟩;rw[<-P] at f u L t x N⊢;have m:=mi f.nA (by rw[x];omega) (q:=a.2.db a.1) ⟨vq f.nA _ Y,ml f.nA (by rw[t];exact H) _⟩;have o:=f.nC m;obtain⟨z,Q⟩:∃z,z=a.2.eq (a.2.db a.1):=⟨_,A⟩;rw[<-Q] at m o⊢;have p:=K.rd m.nA (p:=a.1) (λy M=>(m.nB.nA.nA y (u y M)).1) Y;have q:=qc p.nA;have G:=km q.nA;exact⟨(o.nC (p.nC (q.nC G))).nE Y Y,xa _⟩
def pr(a:ad l n)(r:n.i*9<=n.bc)(t:∀p∈n.bb,p<256):bz (l+130) n n.dq 2/\(n.dq.bi=n.bi\/n.dq.bi=0):=by
 have G:=a.nD;unfold dq;split
 ·rename_i f F x;have j:=mw a f Y;have y:(n.bt f).ae=n.ae:=(cj (hq a.nA.nA f (dx (p:=0) a Y))).nG;have m:=j.nA.nO;rw[y,x] at m;have q:=mz j.nA (q:=F) ⟨(List.nodup_cons.1 m.1).2,λz u=>m.2 z (By _ u)⟩;exact⟨(j.nC q).nE Y Y,AT (cj (hq a.nA.nA f (dx (p:=0) a Y))).nE⟩
 ·split
  ·exact⟨(bz.nF a).nE Y Y,AT A⟩
  ·obtain⟨o,b⟩:=qn a r t;exact⟨o,Ae b⟩
def lp(a:ad l n):bz (l+1) n n.cu 0:=
 jk a (IE l) (by have:=a.n3;omega) a.nV a.nO (Zu a.nW) (Zu a.n0)
def cm(a:K):B:=a.bc+1-a.bi%2
def wy(j:ad l n)(r:n.i*9<=n.bc)(o:∀a∈n.bb,a<256):ad (l+131) n.ed/\di n n.ed/\n.cm<=n.ed.cm+1:=by
 have f:=lp j;have t:=f.nD;have q:n.cu.bi=n.bi+1:=A;have p:n.cu.bc=n.bc:=fr (ft (r:=n.cu) j.nA.nA A).2 A A A A A A;unfold ed;split
 ·refine⟨f.nA.nE Y,f.nB,?_⟩;unfold cm;rw[p,q];omega
 ·obtain⟨m,b⟩:=K.pr f.nA (by show n.i*9<=_;omega) o;have a:=f.nC m;refine⟨a.nA.nE Y,a.nB,?_⟩;have:=a.nD;unfold cm;rcases b with b|b<;>rw[b]<;>omega
structure tg(nB:B)(f a:K)(l:B)(n:G B)(m:B):Prop where
 nF:ad nB a
 nE:dy f a
 nB:a.t=f.t
 nA:f.cm<=a.cm+m
 nD:a.dp l=n
 nC:∀j,j<f.v->j≠l->a.dp j=f.dp j
variable{r:K}
def di.nI(a:di n r)(j:n.cf)(f:l<n.v):r.dp l=n.dp l:=sx a.nA j f (a.nG l f)
def nh(a:ad l n)(f:p<n.v):p<256^4:=by
 have:=a.nF;have j:(256:B)^4=4294967296:=Z;unfold K.v at f;omega
def re(j:ad l n)(a0:l<=1000000000)(al:n.i*9+3<=n.cm)(ao:∀u∈n.bb,u<256)(F:p<n.v)(y:q.length<=128)(am:∀u∈q,u<256):
 tg (l+140) n (n.et p q) p (q++U (128-q.length) 0) 3:=by
 have a1:=j.nD;have a3:n.i*9+2<=n.bc:=by unfold K.cm at al;omega
 have W:=dx (p:=0) j Y;obtain⟨o,ag⟩:∃o,o=if n.dg p then 1 else 0:=⟨_,A⟩
 have H:o<=2:=by rw[ag];split<;>omega
 have ar:n.et p q=((n.af o ⟨1,p,0,0,0,0⟩ q).2.de p (n.af o ⟨1,p,0,0,0,0⟩ q).1).ed:=by rw[ag];rfl
 have ak:=fw j.nA.nA.nA H W ⟨1,p,0,0,0,0⟩ q;have f:=hi j H Y (ym:=⟨1,p,0,0,0,0⟩) (show 1<256 by decide) am y;have t:=cj (il j.nA.nA H W ⟨1,p,0,0,0,0⟩ q);obtain⟨L,M⟩:=ak.nD;rw[ar];obtain⟨a,aq⟩:∃a,a=n.af o ⟨1,p,0,0,0,0⟩ q:=⟨_,A⟩;rw[<-aq] at f t L M⊢;have au:=f.nA.nM;have av:=(f.nA.nH a.1.a).nA;have aw:=j.nG;have ay:(256:B)^8=18446744073709551616:=Z;have ax:(256:B)^4=4294967296:=Z;have an:a.2.fo p a.1:=by
  refine⟨_,by rw[M,f.nB.nA.nB];exact SI (ym:=⟨1,p,n.ap+1,0,a.2.x,(a.2.b a.1.a).b⟩) ⟨AI 1,show 1<=5 by decide,nh j F,Y6,show 0<256^8 by decide,Y6,Y6⟩ (by rw[j.nB];exact y),A,A⟩
 have af:p<a.2.v:=by rw[f.nB.nF];exact F
 obtain⟨N,m,a4⟩:=iy f.nA af L an;have x:=cj (ln a.2 p a.1);have a2:=f.nD;obtain⟨aj,r,az⟩:=wy N (by rw[x.nA,t.nA];omega) (by rw[x.nC,t.nC];exact ao);have S:(a.2.de p a.1).v=n.v:=by unfold K.v;rw[m.nB,f.nB.nE]
 refine⟨aj.nE Y,f.nB.nA.nE (m.nA.nE r.nA),by rw[r.nE,m.nB,f.nB.nE],?_,?_,λah z ap=>?_⟩
 ·have ai:(a.2.de p a.1).bi=n.bi:=x.nE.trans t.nE;have:n.cm<=(a.2.de p a.1).cm+2:=by unfold K.cm;rw[ai];omega
  omega
 ·rw[r.nI N.nA.nA (by rw[S];exact F),jb (show(a.2.de p a.1).ba p=C a.1 by rw[m.nC p af,A8 A]),(m.nA.nA a.1 L).2,m.nA.nB,M,f.nB.nA.nB,AN.t _ (by rw[j.nB];exact y),j.nB]
 ·have aa:ah<a.2.v:=by rw[f.nB.nF];exact z
  rw[r.nI N.nA.nA (by rw[S];exact z),sx m.nA f.nA.nA.nA aa (by rw[m.nC ah aa,A1 ap]),f.nB.nI j.nA.nA z]
end K
namespace K
def iv:Cq:={Cq.e with a:=3}
def cb(np d:B)(a:G B)(er:B)(c:G B):K:=
 {nk 128 np d 70 a (U 70 ⟨I,[]⟩) 0 0 er with ac:=c,j:=(((U 70 Cq.e).set 0 iv).set 1 iv).set 2 iv,aa:=[0,1,2]}
def ib{f:Type}(d b:B)(a:f):(U d a).getD b a=a:=by
 rw[AY,HH];split<;>rfl
section
variable{np d er:B}{a c:G B}
def it(b:B):(cb np d a er c).w b=⟨I,[]⟩:=ib 70 b _
def ir(b:B):(cb np d a er c).b b=if b<3 then iv else Cq.e:=by
 show((((U 70 Cq.e).set 0 iv).set 1 iv).set 2 iv).getD b Cq.e=_
 match b with
 |0=>rfl
 |1=>rfl
 |2=>rfl
 |b+3=>
  rw[A1 Y,AY,Ir Y,Ir Y,Ir Y,<-AY];exact ib 70 _ _
def me(f:B):(cb np d a er c).g.getD f 0=0:=ib _ f _
def jm(f:B):(cb np d a er c).h.getD f E=E:=ib _ f _
def mf(b:B):(cb np d a er c).y b=0:=by unfold y;rw[it];rfl
def nw(f:B):(cb np d a er c).cq f=U 128 0:=by unfold cq;rw[me,A8 A];rfl
def qq(f:B):(cb np d a er c).az f=U 128 0:=by unfold az;rw[jm];exact nw f
def mc(m u:B):fi (U m 0) u=0:=by
 have o:∀(a:B)(f:G B),(∀j∈f,j=0)->Az f a=0:=by
  intro a
  induction a with
  |zero=>intro f _;rfl
  |succ a t=>
   intro f l;have p:f.getD a 0=0:=by
    rw[AY];cases r:f[a]? with
    |none=>rfl
    |some n=>exact l n (FW r)
   show Az f a+f.getD a 0*256^a=0;rw[t f l,p,Mn]
 exact o 4 _ λj q=>(FX.1 (EP q)).2
def nv(f:B):(cb np d a er c).ba f=E:=by
 unfold ba fz;rw[qq,mc];rfl
def up{b:B}(j:((cb np d a er c).b b).a≠3):3<=b:=by
 rcases Ck b 3 with f|f
 ·rw[ir,A8 f] at j;exact CV A j
 ·exact f
def uo(x:np=8\/np=16)(u:1<=d/\d<=360):(cb np d a er c).cf:=by
 have p:(cb np d a er c).v<=(cb np d a er c).g.length*(cb np d a er c).ao:=by
  show d+16<=(U ((d+15)/(128/4)+1) 0).length*(128/4);rw[BI];omega
 refine⟨⟨A,λb _ l=>?_,λb _ l q=>?_,nofun,nofun,nofun,by show 4<=np;omega⟩,⟨(by show 128%4=0;decide),(by show 4<=128;decide),?_,p,λf o m=>?_,λf _=>(by rw[nw];exact BI)⟩,λf o m=>(by rw[jm] at m;cases m),(by show np<=256;omega),(by show 70<=1024;decide),λb y r n=>(by rw[it] at n;simp at n),λb _ _=>(by rw[mf];exact Af _),λf _ j=>CV (me f) j,λz B _ j=>(by rw[nv] at j;cases j)⟩
 ·rw[ir,it];split
  ·exact⟨A,A,A,A,A⟩
  ·exact⟨A,A,A,A,A⟩
 ·exfalso;have t:=up q;unfold ar at l;rw[mf,ir,A1 Y] at l;revert l;show((0==0&&(Cq.e.a !=3)&&!(I||I||I))=I)->Be;decide
 ·show(U _ _).length=(U _ _).length;rw[BI,BI]
 ·exfalso;have:(cb np d a er c).h.getD f E=C o:=by rw[AY,m];rfl
  rw[jm] at this;cases this
def qr(o:np=8\/np=16)(n:1<=d/\d<=360)(r:a.length=36)(m:c.length=(d+7)/8)(q:∀p∈c,p<256):ad 0 (cb np d a er c):=by
 refine⟨⟨uo o n,?_,nofun,nofun,nofun,by show 128<=128;decide,?_,r⟩,A,A,o,n,?_,m,q,AI 0,AI 0,AI 0,AI 0,AI 0,AI 0,AI 0,AI 0,λb=>?_,λb u x l=>(by rw[it] at l;simp at l),λt j f=>(by rw[jm] at f;cases f),λt _ u _=>(by rw[qq,mc];exact Af _),⟨List.nodup_nil,nofun⟩,Af _,Af _,Af _,⟨(by show[0,1,2].Nodup;decide),(by show 1<=[0,1,2].length;decide),(by show[0,1,2].length<=3;decide)⟩,⟨nofun,nofun⟩,nofun,nofun,nofun⟩
 ·intro j f;have f:j∈[0,1,2]:=f;have:j<3:=by simp at f;omega
  exact⟨by show j<70;omega,by rw[ir,A8 this];rfl⟩
 ·show(8+4*(U _ _).length+c.length+128-1)/128<=2;rw[BI,m];show(8+4*((d+15)/32+1)+(d+7)/8+128-1)/128<=2;omega
 ·show(U _ _).length=(d+15)/32+1;rw[BI]
 ·rw[ir];split
  ·exact⟨AI 0,Z,Z,Z⟩
  ·exact⟨AI 0,Z,Z,Z⟩
def qp:(cb np d a er c).bc=np*70:=by
 have j:(cb np d a er c).au=67:=by
  unfold au;rw[show(AH (cb np d a er c).j.length).filter (cb np d a er c).ar=(AH 70).filter (λb=>Ac (3<=b)) from Q9 λb _=>?_]
  ·decide
  ·unfold ar;rw[mf,ir];rcases Ck b 3 with f|f
   ·rw[A8 f,F2 Y];rfl
   ·rw[A1 Y,DH f];rfl
 unfold bc;rw[j];show np*(67+3)+0+2*0+0=np*70;omega
def kb(b:B):(cb np d a er c).cx b I=cb np d a (er+1) c:=by
 have f:(U 70 (⟨I,[]⟩:D4)).set b ⟨I,[]⟩=U 70 ⟨I,[]⟩:=by
  apply Gj;intro j;rw[EV];split
  ·rename_i f;subst f;rw[HH,BI]
  ·rfl
 show({cb np d a er c with ab:=(U 70 (⟨I,[]⟩:D4)).set b ⟨I,[]⟩,bv:=er+1}:K)=_;rw[f];rfl
def eh(np d:B)(a c:G B):K:=(cb np d a 3 c).cr E
def nx(o:np=8\/np=16)(n:1<=d/\d<=360)(l:a.length=36)(m:c.length=(d+7)/8)(j:∀f∈c,f<256):bz 1 (cb np d a 3 c) (eh np d a c) 0:=
 pc (qr o n l m j) E nofun
def qt(f:B->AE):iu 128 np d 70 a f=(eh np d a (dj d f)).fb:=by
 show((((cb np d a 0 (dj d f)).cx 0 I).cx 1 I).cx 2 I|>.cr E).fb=_;rw[kb,kb,kb];rfl
end
end K
namespace K
def fq(j:B->AE)(l f:B):B:=((AH 8).map λa=>if Ac (8*f+a<l)&&j (8*f+a) then 2^a else 0).sum
def gh(a:B->AE)(m f:B):G B:=(AH m).map (fq a f)
def qg(f:B->AE)(a:B):gh f ((a+7)/8) a=dj a f:=A
def nt(a:B->AE)(m f:B):(gh a m f).length=m:=by simp[gh]
def kr(f:B->AE)(j a:B):fq f j a=(if Ac (8*a+0<j)&&f (8*a+0) then 1 else 0)+((if Ac (8*a+1<j)&&f (8*a+1) then 2 else 0)+((if Ac (8*a+2<j)&&f (8*a+2) then 4 else 0)+((if Ac (8*a+3<j)&&f (8*a+3) then 8 else 0)+((if Ac (8*a+4<j)&&f (8*a+4) then 16 else 0)+((if Ac (8*a+5<j)&&f (8*a+5) then 32 else 0)+((if Ac (8*a+6<j)&&f (8*a+6) then 64 else 0)+((if Ac (8*a+7<j)&&f (8*a+7) then 128 else 0)+0))))))):=A
def ub(a:B->AE)(m:B):gh a m 0=U m 0:=by
 rw[List.eq_replicate_iff];refine⟨nt a m 0,λb f=>?_⟩;obtain⟨j,_,rfl⟩:=CI.1 f;rw[kr];simp
def ud(j:B->AE)(n:l/8≠p):fq j (l+1) p=fq j l p:=by
 unfold fq;congr 1;apply It;intro a f;have f:=Ce.1 f;have:Ac (8*p+a<l+1)=Ac (8*p+a<l):=by
  by_cases m:8*p+a<l
  ·rw[DH m,DH Y]
  ·rw[F2 m,F2 Y]
 rw[this]
def uc(j:B->AE)(m:j l=I):fq j (l+1) p=fq j l p:=by
 unfold fq;congr 1;apply It;intro a n;by_cases f:8*p+a=l
 ·rw[f,m];simp
 ·have:Ac (8*p+a<l+1)=Ac (8*p+a<l):=by
   by_cases f:8*p+a<l
   ·rw[DH f,DH Y]
   ·rw[F2 f,F2 Y]
  rw[this]
def qj(p:B->AE)(N:p l=R):fq p (l+1) (l/8)=fq p l (l/8)+2^(l%8)/\fq p l (l/8)<2^(l%8):=by
 obtain⟨f,m,ai,rfl⟩:∃f m,m<8/\l=8*f+m:=⟨l/8,l%8,Ml _ Z,(Zo l 8).symm⟩;have H:(8*f+m)/8=f:=Y;have L:(8*f+m)%8=m:=Y;rw[H,L,kr,kr];obtain⟨o,u⟩:∃o:B->B->B->B,o=λl b n=>if Ac (8*f+b<l)&&p (8*f+b) then n else 0:=⟨_,A⟩
 have q:∀l b n,o l b n<=n:=λl b n=>by rw[u];dsimp only;split<;>omega
 have a:∀b n,b≠m->o (8*f+m+1) b n=o (8*f+m) b n:=λb n P=>by
  rw[u];dsimp only;have:Ac (8*f+b<8*f+m+1)=Ac (8*f+b<8*f+m):=by
   by_cases aj:b<m
   ·rw[DH Y,DH Y]
   ·rw[F2 Y,F2 Y]
  rw[this]
 have j:∀b n,m<=b->o (8*f+m) b n=0:=λb n P=>by
  rw[u];dsimp only;rw[F2 Y];rfl
 have r:∀n,o (8*f+m+1) m n=n:=λn=>by
  rw[u];dsimp only;rw[DH Y,N];rfl
 have F:∀l,(if Ac (8*f+0<l)&&p (8*f+0) then 1 else 0)+((if Ac (8*f+1<l)&&p (8*f+1) then 2 else 0)+((if Ac (8*f+2<l)&&p (8*f+2) then 4 else 0)+((if Ac (8*f+3<l)&&p (8*f+3) then 8 else 0)+((if Ac (8*f+4<l)&&p (8*f+4) then 16 else 0)+((if Ac (8*f+5<l)&&p (8*f+5) then 32 else 0)+((if Ac (8*f+6<l)&&p (8*f+6) then 64 else 0)+((if Ac (8*f+7<l)&&p (8*f+7) then 128 else 0)+0)))))))=o l 0 1+(o l 1 2+(o l 2 4+(o l 3 8+(o l 4 16+(o l 5 32+(o l 6 64+(o l 7 128+0))))))):=λl=>by rw[u]
 rw[F,F];clear F u H L;have S:=q (8*f+m) 0 1;have U:=q (8*f+m) 1 2;have V:=q (8*f+m) 2 4;have W:=q (8*f+m) 3 8;have aa:=q (8*f+m) 4 16;have af:=q (8*f+m) 5 32;have ag:=q (8*f+m) 6 64;have ah:=q (8*f+m) 7 128;obtain rfl|rfl|rfl|rfl|rfl|rfl|rfl|rfl:m=0\/m=1\/m=2\/m=3\/m=4\/m=5\/m=6\/m=7:=Y
 ·rw[r 1,a 1 2 Z,a 2 4 Z,a 3 8 Z,a 4 16 Z,a 5 32 Z,a 6 64 Z,a 7 128 Z];have ak:=j 0 1 Z;have Q:=j 1 2 Z;have M:=j 2 4 Z;have G:=j 3 8 Z;have z:=j 4 16 Z;have y:=j 5 32 Z;have x:=j 6 64 Z;have t:=j 7 128 Z;simp only[Lb];omega
 ·rw[r 2,a 0 1 Z,a 2 4 Z,a 3 8 Z,a 4 16 Z,a 5 32 Z,a 6 64 Z,a 7 128 Z];have Q:=j 1 2 Z;have M:=j 2 4 Z;have G:=j 3 8 Z;have z:=j 4 16 Z;have y:=j 5 32 Z;have x:=j 6 64 Z;have t:=j 7 128 Z;simp only[Lb];omega
 ·rw[r 4,a 0 1 Z,a 1 2 Z,a 3 8 Z,a 4 16 Z,a 5 32 Z,a 6 64 Z,a 7 128 Z];have M:=j 2 4 Z;have G:=j 3 8 Z;have z:=j 4 16 Z;have y:=j 5 32 Z;have x:=j 6 64 Z;have t:=j 7 128 Z;simp only[Lb];omega
 ·rw[r 8,a 0 1 Z,a 1 2 Z,a 2 4 Z,a 4 16 Z,a 5 32 Z,a 6 64 Z,a 7 128 Z];have G:=j 3 8 Z;have z:=j 4 16 Z;have y:=j 5 32 Z;have x:=j 6 64 Z;have t:=j 7 128 Z;simp only[Lb];omega
 ·rw[r 16,a 0 1 Z,a 1 2 Z,a 2 4 Z,a 3 8 Z,a 5 32 Z,a 6 64 Z,a 7 128 Z];have z:=j 4 16 Z;have y:=j 5 32 Z;have x:=j 6 64 Z;have t:=j 7 128 Z;simp only[Lb];omega
 ·rw[r 32,a 0 1 Z,a 1 2 Z,a 2 4 Z,a 3 8 Z,a 4 16 Z,a 6 64 Z,a 7 128 Z];have y:=j 5 32 Z;have x:=j 6 64 Z;have t:=j 7 128 Z;simp only[Lb];omega
 ·rw[r 64,a 0 1 Z,a 1 2 Z,a 2 4 Z,a 3 8 Z,a 4 16 Z,a 5 32 Z,a 7 128 Z];have x:=j 6 64 Z;have t:=j 7 128 Z;simp only[Lb];omega
 ·rw[r 128,a 0 1 Z,a 1 2 Z,a 2 4 Z,a 3 8 Z,a 4 16 Z,a 5 32 Z,a 6 64 Z];have t:=j 7 128 Z;simp only[Lb];omega
def qi(f:B->AE)(j a:B):fq f j a<256:=by
 rw[kr];have l:∀(b:AE)(m:B),(if b then m else 0)<=m:=λb m=>by split<;>omega
 have n:=l (Ac (8*a+0<j)&&f (8*a+0)) 1;have o:=l (Ac (8*a+1<j)&&f (8*a+1)) 2;have p:=l (Ac (8*a+2<j)&&f (8*a+2)) 4;have q:=l (Ac (8*a+3<j)&&f (8*a+3)) 8;have r:=l (Ac (8*a+4<j)&&f (8*a+4)) 16;have t:=l (Ac (8*a+5<j)&&f (8*a+5)) 32;have u:=l (Ac (8*a+6<j)&&f (8*a+6)) 64;have x:=l (Ac (8*a+7<j)&&f (8*a+7)) 128;omega
def tz(a:B->AE){m f:B}(j:a f=I):gh a m (f+1)=gh a m f:=It λl _=>uc a j
def ua(f:B->AE){m a:B}(p:f a=R)(l:a/8<m):gh f m (a+1)=(gh f m a).set (a/8) (fq f a (a/8)+2^(a%8)):=by
 apply Gj;intro o;unfold gh;rw[EV,D_,D_,List.length_map,Dj];by_cases j:a/8=o
 ·subst j;rw[A8 A,A8 l,Mg l];show C _=C _;rw[(qj f p).1]
 ·rw[A1 j];cases hr:(AH m)[o]? with
  |none=>rfl
  |some r=>
   obtain⟨q,n⟩:=Cx.1 hr;rw[List.getElem_range] at n;subst n;show C _=C _;rw[ud f j]
def qh(f:B->AE){m j a:B}(l:a<m):(gh f m j)[a]?=C (fq f j a):=by
 unfold gh;rw[D_,Mg l];rfl
end K
namespace K
def ia(a:K)(b:B):B:=(K6 (a.ay ⟨b,0⟩) 128).1.a
structure fp(m:B)(j:K)(f:AF)(a:AN):Prop where
 nB:a.i
 nC:∃l:G B,l.length<=128/\j.ay f=a.e l 128
 nA:a.d<=m
 nG:a.f=1
 nD:gp (j.ay f)=I
 nF:(j.b f.a).b=1
variable{n:K}{xq:AF}
def fp.nE(a:fp l n xq ym):K6 (n.ay xq) 128=(ym,R):=by
 obtain⟨m,f,j⟩:=a.nC;rw[j];exact SI a.nB f
structure jd(l:B)(j:K)(f:AF):Prop where
 nC:∃a,fp l j f a/\(a.b=3\/a.b=4)
 nE:(j.b f.a).a=2
 nD:(j.w f.a).b=I
structure ge(o:B)(a:K)(j:G (AN×AF)):Prop where
 nD:∀n,a.ak n->jd o a n\/∃r,(r,n)∈j
 nA:∀f∈j,a.ak f.2/\fp o a f.2 f.1/\(a.b f.2.a).a=1/\f.1.b=1/\f.1.h=0/\f.1.c<a.t/\a.dg f.1.c=(a.w f.2.a).b
 nF:j.Pairwise λq l=>q.1.a<l.1.a
 nC:∀f∈j,f.1.a<=a.ap
 nE:∀m,m<a.v->a.ba m=((j.filter λf=>f.1.c==m).getLast?).map (·.2)
 nB:∀p l,p<=2->a.al p=C l->a.ak ⟨l,0⟩
variable{xz:G (AN×AF)}
def ge.nI(f:ge l n xz)(m:n.ak xq):(n.b xq.a).b=1:=by
 rcases f.nD xq m with a|⟨o,a⟩
 ·obtain⟨p,j,_⟩:=a.nC;exact j.nF
 ·exact(f.nA _ a).2.1.nF
structure fd(n o p:B)(f a:K):Prop where
 nD:dy f a
 nH:∀l,l<f.v->a.ba l=f.ba l
 nA:a.t=f.t
 nG:a.ac=f.ac
 nE:a.bb=f.bb
 nC:a.i=f.i
 nM:a.cs=f.cs
 nU:a.g.length=f.g.length
 nR:f.ap<=a.ap
 nS:a.bh=f.bh
 nP:a.bg=f.bg
 nT:∀m,a.br=C m->f.br=C m\/a.ak ⟨m,0⟩
 nV:∀j,a.ak j->f.ak j\/jd a.x a j
 nK:∀j,f.ak j->(a.b j.a).a=(f.b j.a).a/\(a.b j.a).b=(f.b j.a).b/\(a.w j.a).b=(f.w j.a).b
 nB:f.x<=a.x/\a.x<=f.x+n
 nL:f.bd<=a.bd/\a.bd<=f.bd+o
 nQ:f.u<=a.u/\a.u<=f.u+p
 nF:a.bq=f.bq
 nJ:f.ah=[]->a.ah=[]
variable{r:K}
def fp.nI{o b p f:B}(l:fd o b p n r)(m:n.ak xq)(a:fp f n xq ym):fp f r xq ym:=by
 have j:=(l.nD.nA xq m).2;exact⟨a.nB,by rw[j];exact a.nC,a.nA,a.nG,by rw[j];exact a.nD,by rw[(l.nK xq m).2.1];exact a.nF⟩
def fp.nH(a:fp l n xq ym)(f:l<=p):fp p n xq ym:=⟨a.nB,a.nC,D9 a.nA f,a.nG,a.nD,a.nF⟩
def jd.nA(q:jd l n xq)(a:l<=p):jd p n xq:=by
 obtain⟨⟨r,f,j⟩,m,o⟩:=q;exact⟨⟨r,f.nH a,j⟩,m,o⟩
def jd.nB{l b m j:B}(a:fd l b m n r)(f:n.ak xq)(u:jd j n xq):jd j r xq:=by
 obtain⟨⟨x,o,p⟩,q,t⟩:=u;exact⟨⟨x,o.nI a f,p⟩,by rw[(a.nK xq f).1];exact q,by rw[(a.nK xq f).2.2];exact t⟩
def fd.nO{a b f:B}(j:fd a b f n r):r.v=n.v:=by unfold K.v;rw[j.nA]
def fd.nN{q b u r t x:B}{F G H:K}(f:fd q b u F G)(a:fd r t x G H):fd (q+r) (b+t) (u+x) F H:=by
 refine⟨f.nD.nE a.nD,λz y=>?_,a.nA.trans f.nA,a.nG.trans f.nG,a.nE.trans f.nE,a.nC.trans f.nC,a.nM.trans f.nM,a.nU.trans f.nU,D9 f.nR a.nR,a.nS.trans f.nS,a.nP.trans f.nP,λL M=>?_,λl m=>?_,λl m=>?_,?_,?_,?_,a.nF.trans f.nF,λj=>a.nJ (f.nJ j)⟩
 ·rw[a.nH z (by rw[f.nO];exact y)];exact f.nH z y
 ·rcases a.nT L M with j|j
  ·rcases f.nT L j with j|j
   ·exact AT j
   ·exact Ae (a.nD.nA _ j).1
  ·exact Ae j
 ·rcases a.nV l m with j|j
  ·rcases f.nV l j with p|p
   ·exact AT p
   ·exact Ae ((p.nB a j).nA a.nB.1)
  ·exact Ae j
 ·have n:=f.nK l m;have o:=a.nK l (f.nD.nA l m).1;exact⟨o.1.trans n.1,o.2.1.trans n.2.1,o.2.2.trans n.2.2⟩
 ·have:=f.nB;have:=a.nB;omega
 ·have:=f.nL;have:=a.nL;omega
 ·have:=f.nQ;have:=a.nQ;omega
def fd.nI{f b m j l o:B}(a:fd f b m n r)(p:f<=j)(q:b<=l)(t:m<=o):fd j l o n r:=
 ⟨a.nD,a.nH,a.nA,a.nG,a.nE,a.nC,a.nM,a.nU,a.nR,a.nS,a.nP,a.nT,a.nV,a.nK,by have:=a.nB;omega,by have:=a.nL;omega,by have:=a.nQ;omega,a.nF,a.nJ⟩
def ks(j:r.t=n.t)(f:r.ac=n.ac)(a:B):r.dg a=n.dg a:=by unfold dg;rw[j,f]
def ge.nG{M b N o:B}(m:ge o n xz)(a:fd M b N n r)(af:r.x<=o):ge o r xz:=by
 refine⟨λL ag=>?_,λy t=>?_,m.nF,λy t=>D9 (m.nC y t) a.nR,λH q=>?_,λx b F j=>?_⟩
 ·rcases a.nV L ag with f|f
  ·rcases m.nD L f with u|u
   ·exact AT (u.nB a f)
   ·exact Ae u
  ·exact AT (f.nA af)
 ·obtain⟨p,S,U,W,Y,Z,aa⟩:=m.nA y t;have z:=a.nK _ p;exact⟨(a.nD.nA _ p).1,S.nI a p,by rw[z.1];exact U,W,Y,by rw[a.nA];exact Z,by rw[ks a.nA a.nG,z.2.2];exact aa⟩
 ·rw[a.nO] at q;rw[a.nH H q];exact m.nE H q
 ·have l:n.al x=C b->r.ak ⟨b,0⟩:=λf=>(a.nD.nA _ (m.nB x b F f)).1
  match x,F,j,l with
  |0,_,j,l=>exact l (by rw[<-j];exact a.nS.symm)
  |1,_,j,l=>exact l (by rw[<-j];exact a.nP.symm)
  |2,_,j,l=>rcases a.nT b j with f|f;exact l f;exact f
structure hu(f j:K):Prop where
 nE:j.aa=f.aa
 nC:j.aq=f.aq
 nD:j.av=f.av
 nG:j.bn=f.bn
 nA:∀a,(j.b a).a=3↔(f.b a).a=3
 nB:∀a,(f.b a).a=3->(j.w a).a=(f.w a).a
 nF:∀a,(f.b a).a=3->(j.w a).b=(f.w a).b
def hu.nH{l b m:K}(a:hu l b)(f:hu b m):hu l m:=
 ⟨f.nE.trans a.nE,f.nC.trans a.nC,f.nD.trans a.nD,f.nG.trans a.nG,λb=>(f.nA b).trans (a.nA b),λb j=>(f.nB b ((a.nA b).2 j)).trans (a.nB b j),λb j=>(f.nF b ((a.nA b).2 j)).trans (a.nF b j)⟩
def gy(a:K):K:={a with ab:=[],h:=[],g:=[],an:=0,u:=0,j:=[],br:=E,aw:=0,bf:=(E,E),ae:=[],ct:=0,bi:=0,bj:=[],ax:=[],ah:=[]}
def pw(j:di n r)(x:r.ab=n.ab)(m:∀b,(r.b b).a=(n.b b).a/\(r.b b).b=(n.b b).b)(a:r.gy=n.gy)(z:r.br=n.br)(H:n.u<=r.u/\r.u<=n.u+l)(F:n.ah=[]->r.ah=[]):fd 0 0 l n r/\hu n r:=by
 have o:∀b,r.w b=n.w b:=λb=>by unfold K.w;rw[x]
 have G:∀f,r.ak f->n.ak f:=λf p=>by
  obtain⟨t,q,u⟩:=p;exact⟨by rw[<-j.nA.nD];exact t,by unfold y at q⊢;rw[<-o];exact q,by rw[<-(m _).1];exact u⟩
 have M:r.x=n.x:=(AB K.x a:);have N:r.bd=n.bd:=(AB K.bd a:);refine⟨⟨j.nA,j.nG,j.nE,(AB K.ac a:),(AB K.bb a:),(AB K.i a:),(AB K.cs a:),j.nC,Nat.le_of_eq (AB K.ap a:).symm,(AB K.bh a:),(AB K.bg a:),λP L=>AT (by rw[<-z];exact L),λf p=>AT (G f p),λf p=>⟨(m _).1,(m _).2,by rw[o]⟩,Y,Y,H,(AB K.bq a:),F⟩,
  ⟨(AB K.aa a:),(AB K.aq a:),(AB K.av a:),(AB K.bn a:),λb=>by rw[(m b).1],λb _=>by rw[o],λb _=>by rw[o]⟩⟩
structure dk(j l m:B)(a f:K):Prop where
 nA:fd j l m a f
 nD:hu a f
def dk.nB{a b l f j m:B}{p q r:K}(n:dk a b l p q)(o:dk f j m q r):dk (a+f) (b+j) (l+m) p r:=⟨n.nA.nN o.nA,n.nD.nH o.nD⟩
def dk.nE{a b l f j m:B}(o:dk a b l n r)(p:a<=f)(q:b<=j)(t:l<=m):dk f j m n r:=⟨o.nA.nI p q t,o.nD⟩
def ma(a:di n r)(f:r.ab=n.ab)(o:∀b,(r.b b).a=(n.b b).a/\(r.b b).b=(n.b b).b)(p:r.gy=n.gy)(j:r.br=n.br)(q:n.u<=r.u/\r.u<=n.u+l)(m:n.ah=[]->r.ah=[]):dk 0 0 l n r:=⟨(pw a f o p j q m).1,(pw a f o p j q m).2⟩
def nm(f:di n r)(a:r.da=n.da)(m:n.u<=r.u/\r.u<=n.u+l):dk 0 0 l n r:=by
 have j:∀b,r.b b=n.b b:=λb=>by unfold K.b;rw[show r.j=n.j from(AB K.j a:)]
 exact ma f (AB K.ab a:) (λb=>by rw[j];exact⟨A,A⟩) (AB K.gy a:) (AB K.br a:) m (λo=>(AB K.ah a:).trans o)
def im(f:n.cf)(a:r.mb=n.mb)(m:r.gy=n.gy)(o:r.u=n.u)(l:n.ah=[]->r.ah=[]):dk 0 0 0 n r:=by
 have j:∀b,r.b b=n.b b:=λb=>by unfold K.b;rw[show r.j=n.j from(AB K.j a:)]
 exact ma (ft f a).1 (AB K.ab a:) (λb=>by rw[j];exact⟨A,A⟩) m (AB K.br a:) Y l
def dk.nC(a:n.cf):dk 0 0 0 n n:=im a A A A id
def nl(p:n.cf){b:B}(l:b<n.j.length)(r:0<n.y b)(a:Cq->Cq)(m:∀f,(a f).a=f.a)(o:∀f,(a f).b=f.b):dk 0 0 0 n (n.bl b a):=by
 have q:=λj=>ji (n:=n) a l j;refine ma (kk p l r a m o).1 A (λj=>?_) A A ⟨AI _,AI _⟩ id;rw[q];split
 ·rename_i t;rw[m,o,t];exact⟨A,A⟩
 ·exact⟨A,A⟩
def ne(f:n.cf)(a:n.ak xq):dk 0 0 0 n (n.ai xq):=nl f a.1 (gw a) _ (λ_=>A) (λ_=>A)
def su(f:n.cf)(a:n.ak xq):dk 0 0 0 n (n.dn xq):=nl f a.1 (gw a) _ (λ_=>A) (λ_=>A)
def tv(f:n.cf)(o:AC AF)(j:∀a,o=C a->n.ak a):dk 0 0 0 n (n.dw o):=by
 cases o with
 |none=>exact dk.nC f
 |some a=>exact su f (j a A)
def lf(a:K)(f:B):a.u<=(a.am f).u/\(a.am f).u<=a.u+1:=by
 unfold am;dsimp only;split
 ·exact⟨AI _,IE _⟩
 ·dsimp only;split
  ·exact⟨AI _,IE _⟩
  ·exact⟨IE _,AI _⟩
def wa(a:ad l n)(f:p<n.g.length):dk 0 0 1 n (n.am p):=
 nm (ru a f).nB (ga a.nA.nA.nB f).nA (lf n p)
def vk(a:ad l n)(f:p<n.v):dk 0 0 1 n (n.be p).2:=wa a (gr a.nA.nA.nB f)
def sv:∀(j:G AF){n:B}{a:K},ad n a->(∀l∈j,a.ak l)->dk 0 0 0 a (j.foldl dn a)
 |[],n,a,f,_=>dk.nC f.nA.nA
 |l::j,n,a,f,m=>by
  have o:=pi f (m l Bt);exact(su f.nA.nA (m l Bt)).nB (sv j o.nA λp q=>(o.nB.nA.nA p (m p (By _ q))).1)
def po:∀(j:G AF){n:B}{a:K},ad n a->(∀l∈j,a.ak l)->dk 0 0 0 a (j.foldl ai a)
 |[],n,a,f,_=>dk.nC f.nA.nA
 |l::j,n,a,f,m=>by
  have o:=jh f (m l Bt);exact(ne f.nA.nA (m l Bt)).nB (po j o.nA λp q=>(o.nB.nA.nA p (m p (By _ q))).1)
end K
namespace K
def vs(a:K)(f b:B):(a.bs f b).bd=a.bd/\(a.bs f b).u=a.u:=by unfold bs bk;split<;>(try split)<;>exact⟨A,A⟩
def ra(a:K)(f b:B)(l:AN)(j:G B):(a.cg f b l j).bd=a.bd+1/\(a.cg f b l j).u=a.u+1/\(f=2->(a.cg f b l j).bq=a.bq)/\(f≠2->(a.cg f b l j).bq=a.x):=by
 unfold cg;dsimp only;split
 ·rename_i n;exact⟨A,A,λ_=>A,λm=>CV n m⟩
 ·rename_i n;exact⟨A,A,λm=>CV m n,λ_=>A⟩
variable{n:K}
def ox(p:n.dm)(t:l<=2)(r:0<n.au)(f:AN)(a:G B):(n.af l f a).2.bd=n.bd+1/\(n.af l f a).2.u=n.u+1/\n.x<=(n.af l f a).2.x/\(n.af l f a).2.x<=n.x+1/\(l=2->(n.af l f a).2.bq=n.bq)/\(l≠2->(n.af l f a).2.bq=(n.af l f a).2.x):=by
 obtain⟨b,o|o⟩:=mp p t r f a
 ·obtain⟨_,_,o⟩:=o;rw[o];have m:=ra n.ag l b f a;have q:=ke n.ag l b f a;have j:n.ag.x=n.x:=A;exact⟨m.1,m.2.1,Y6,Y6,m.2.2.1,λj=>by have:=m.2.2.2 j;dsimp only;omega⟩
 ·obtain⟨_,_,_,o⟩:=o;rw[o];have m:=ra (n.ag.bs l b) l b f a;have q:=ke (n.ag.bs l b) l b f a;have z:=vs n.ag l b;have F:=lb n.ag l b;have j:n.ag.x=n.x:=A;have u:n.ag.bd=n.bd:=A;have x:n.ag.u=n.u:=A;have y:n.ag.bq=n.bq:=A;exact⟨Y6,Y6,Y6,Y6,λj=>by have:=m.2.2.1 j;dsimp only;omega,λj=>by have:=m.2.2.2 j;dsimp only;omega⟩
def ff(l m:K)(n:AF)(j:AN):AN:={j with a:=l.ap+1,d:=m.x,f:=1}
def va(a:AN)(f:4<=q.length):gp (a.e q l)=(q.take 4==[83,76,79,84]):=by
 unfold gp AN.e;rw[Eg f]
structure nb(p:B)(l a:K)(f:AF)(m:B)(n:AN)(o:G B):Prop where
 nE:∀j,a.ak j->l.ak j\/j=f
 nA:∀j,l.ak j->(a.b j.a).a=(l.b j.a).a/\(a.b j.a).b=(l.b j.a).b/\(a.w j.a).b=(l.w j.a).b
 nC:a.ak f
 nJ:a.ay f=(l.ff a f n).e o 128
 nG:(a.b f.a).a=if m=2 then 2 else 1
 nB:fp a.x a f (l.ff a f n)
 nF:(a.w f.a).b=(m==1)
 nD:a.ak ⟨f.a,0⟩
 nI:f.b=0\/l.al m=C f.a
 nH:hu l a
variable{xz:G (AN×AF)}
def rs(z:ad l n)(an:ge p n xz)(H:np<=2)(F:n.i*7<n.bc)(be:l<=1000000000)(ap:1<=ym.b/\ym.b<=5)(a0:ym.h=0)(a3:ym.c<256^4)(ay:q.length<=128)(aw:4<=q.length)(a6:q.take 4≠[83,76,79,84]):
 nb p n (n.af np ym q).2 (n.af np ym q).1 np ym q:=by
 have ao:=dx (p:=0) z Y;have W:=z.nA.nA;have j:=fw W.nA H ao ym q;have ax:=ox W.nA H ao ym q;obtain⟨m,aq⟩:∃m,m=(n.af np ym q).1:=⟨_,A⟩;obtain⟨t,ai⟩:∃t,t=(n.af np ym q).2:=⟨_,A⟩;rw[<-aq,<-ai] at j⊢;rw[<-ai] at ax;clear aq ai;have bc:=j.nJ;obtain⟨aj,a8⟩:=j.nD;have au:(t.b m.a).b=1:=by
  rcases j.nB with⟨o,u⟩|⟨o,u,M,x⟩
  ·rw[<-u];exact an.nI (xq:=⟨m.a,0⟩) (an.nB np _ H o)
  ·rw[x]
 have ah:(t.b m.a).a=if np=2 then 2 else 1:=by
  rcases j.nB with⟨o,u⟩|⟨o,u,M,x⟩
  ·rw[<-u];exact z.nR np _ H o
  ·rw[x]
 have a2:∀r,n.ak r->r.a=m.a->n.al np=C m.a/\n.b m.a=t.b m.a:=by
  intro r L p;rcases j.nB with a9|⟨o,u,M,x⟩
  ·exact a9
  ·exfalso;have:=gw L;unfold ar at o;rw[p] at this;simp at o;omega
 have ag:∀b,t.y b=if b=m.a then n.y b+1 else n.y b:=λb=>by
  unfold y;rw[j.nC b];split
  ·rw[Ad];rfl
  ·rfl
 have am:(t.w m.a).b=(np==1):=la j.nO H j.nG;have a5:n.aj=128:=z.nB;have bf:=z.nG;have bd:=z.nM;have a1:n.ff t m ym=({ym with a:=n.ap+1,d:=t.x,f:=(t.b m.a).b}:AN):=by unfold ff;rw[au]
 have aa:t.ay m=(n.ff t m ym).e q 128:=by rw[a8,a1,a5]
 have a7:n.ap+1<256^8:=by
  have:(1000000002:B)<256^8:=Z;omega
 have az:t.x<256^8:=by
  have:(1000000002:B)<256^8:=Z;omega
 have a4:(n.ff t m ym).i:=⟨ap.1,ap.2,a3,a7,by show ym.h<_;rw[a0];decide,az,by show 1<256^4;decide⟩;refine⟨λr L=>?_,λr L=>?_,aj,aa,ah,⟨a4,⟨q,ay,aa⟩,AI _,A,?_,au⟩,am,?_,?_,?_⟩
 ·obtain⟨ak,N,S⟩:=L;by_cases p:r.a=m.a
  ·rw[p] at ak N S;rw[ag,A8 A] at N;rcases Ck r.b (n.y m.a) with av|av
   ·refine AT ⟨by rw[p];exact j.nP,by rw[p];exact av,?_⟩;rw[p];rcases j.nB with⟨o,u⟩|⟨o,u,M,x⟩
    ·rw[u];exact S
    ·unfold ar at o;simp at o;omega
   ·right;have al:r.b=m.b:=by rw[j.nM];omega
    cases r;cases m;simp at p al;rw[p,al]
  ·rw[ag,A1 p] at N;rw[j.nE _ p] at S;exact AT ⟨by rw[<-j.nF];exact ak,N,S⟩
 ·by_cases p:r.a=m.a
  ·obtain⟨ba,bb⟩:=a2 r L p;rw[p,bb];exact⟨A,A,by rw[am,la W.nA H ba]⟩
  ·rw[j.nE _ p,j.nK _ p];exact⟨A,A,A⟩
 ·rw[aa,va _ aw];simpa using a6
 ·refine⟨aj.1,?_,aj.2.2⟩;show 0<t.y m.a;rw[ag,A8 A];omega
 ·rcases j.nB with⟨o,u⟩|⟨o,u,M,x⟩
  ·exact Ae o
  ·exact AT u
 ·have U:=cj (lx j.nA);have af:∀b,(t.b b).a=3↔(n.b b).a=3:=λb=>by
   by_cases p:b=m.a
   ·rw[p,ah];rcases j.nB with⟨o,u⟩|⟨o,u,M,x⟩
    ·rw[u,ah]
    ·unfold ar at o;simp at o;constructor
     ·intro r;split at r<;>cases r
     ·intro r;exact CV r o.1.2
   ·rw[j.nE b p]
  refine⟨U.nJ,U.nN,U.nM,U.nO,af,λb F=>?_,λb F=>j.nK b (λp=>by rw[p] at F;exact j.nI ((af _).2 F))⟩;rw[j.nC b,A1];intro p;rw[p] at F;exact j.nI ((af _).2 F)
def rr(o:ad l n)(S:ge p n xz)(U:n.i*7<n.bc)(af:l<=1000000000)(aa:ym.b=3\/ym.b=4)(W:ym.h=0)(ag:ym.c<256^4)(H:q.length<=128)(N:4<=q.length)(ai:q.take 4≠[83,76,79,84]):
 dk 1 1 1 n (n.af 2 ym q).2/\(n.af 2 ym q).2.ak (n.af 2 ym q).1/\(n.af 2 ym q).2.ay (n.af 2 ym q).1=(n.ff (n.af 2 ym q).2 (n.af 2 ym q).1 ym).e q 128/\(n.ff (n.af 2 ym q).2 (n.af 2 ym q).1 ym).i:=by
 have t:=dx (p:=0) o Y;have r:=o.nA.nA;have f:=fw r.nA (l:=2) Z t ym q;have F:=ox r.nA (l:=2) Z t ym q;have j:=ld r (l:=2) Z t ym (q:=q) (by rw[o.nB];exact H);have a:=rs o S (np:=2) Z U af (ym:=ym) Y W ag H N ai;obtain⟨x,L⟩:∃x,x=(n.af 2 ym q).1:=⟨_,A⟩;obtain⟨M,u⟩:∃M,M=(n.af 2 ym q).2:=⟨_,A⟩;rw[<-L,<-u] at f a⊢;rw[<-u] at F j;clear L u;have m:=cj (lx f.nA);refine⟨⟨⟨j.nA,j.nG,j.nE,m.nH,m.nC,m.nA,m.nL,j.nC,by rw[f.nL];omega,f.nH 0 Z Z,f.nH 1 Z Z,λak aj=>?_,λy ah=>?_,a.nA,Y,Y,Y,F.2.2.2.2.1 A,λy=>m.nB.trans y⟩,a.nH⟩,a.nC,a.nJ,a.nB.nB⟩
 ·right;have:C ak=C x.a:=by rw[<-aj];exact f.nG
  cases this;exact a.nD
 ·rcases a.nE y ah with z|z
  ·exact AT z
  ·right;rw[z];exact⟨⟨_,a.nB,aa⟩,a.nG,a.nF⟩
end K
namespace K
def ey(f:K)(j:B)(a:AC B×AC B)(b:B):Prop:=j<f.ia b\/a.1=C b\/a.2=C b
def en(a:K)(f:G B)(j:B):G B:=if f.getD j 0=0 then U a.aj 0 else(a.ay (DE (f.getD j 0))).take a.aj
def bp(a:K):B:=(a.t+31)/32
structure hr(j:K)(f:G B):Prop where
 nA:f.length=(j.t+15)/32+1
 nB:∀a,a<f.length->f.getD a 0≠0->f.getD a 0<=262144/\j.ak (DE (f.getD a 0))
 nC:∀l,l<j.v->∀m,gb (fi (j.en f (l/32)) (l%32))=C m->j.ak m/\j.fo l m
 nF:∀a,a<f.length->∀n,n<32->fi (j.en f a) n<=262144
 nG:∀a,j.bp<=a->f.getD a 0=0
structure je(a:K)(n:G (AN×AF))(j:B)(o:AC B×AC B)(p q:G B):Prop where
 nB:∀l∈n,j<l.1.a->a.ey j o l.2.a
 nD:∀m,a.bh=C m\/a.bg=C m->a.ey j o m
 nA:j<=a.ap
 nC:∀f,f<a.v->f/32∉q->(∀l∈n,l.1.c=f->l.1.a<=j)->gb (fi (a.en p (f/32)) (f%32))=a.ba f
variable{n:K}{xq:AF}
def oe(a:n.ak xq):n.ak ⟨xq.a,0⟩:=⟨a.1,by have:=a.2.1;show 0<n.y xq.a;omega,a.2.2⟩
variable{r:K}
def uu(a:dy n r){b:B}(f:n.ak ⟨b,0⟩):r.ia b=n.ia b:=by unfold ia;rw[(a.nA _ f).2]
variable{yv:AC B×AC B}
def ey.nA(f:dy n r){b:B}(j:n.ak ⟨b,0⟩)(a:n.ey l yv b):r.ey l yv b:=by
 unfold ey at a⊢;rw[uu f j];exact a
def tp(a:dy n r)(f:q.getD l 0≠0->n.ak (DE (q.getD l 0))):r.en q l=n.en q l:=by
 unfold en;split
 ·rw[a.nB]
 ·rename_i j;rw[(a.nA _ (f j)).2,a.nB]
def mh(a:l<p+16):l/32<(p+15)/32+1:=Y
def hr.nE(a:n.hr q)(j:dy n r)(f:l<q.length):r.en q l=n.en q l:=tp j λm=>(a.nB l f m).2
def hr.nD(f:n.hr q)(o:dy n r)(t:r.t=n.t):r.hr q:=by
 have y:∀a,a<n.v->a/32<q.length:=λa l=>by rw[f.nA];exact mh l
 refine⟨by rw[t];exact f.nA,λm j F=>?_,λa l z x=>?_,λm j a l=>?_,λm j=>f.nG m (by unfold bp at j⊢;rw[t] at j;exact j)⟩
 ·obtain⟨p,b⟩:=f.nB m j F;exact⟨p,(o.nA _ b).1⟩
 ·have u:a<n.v:=by unfold K.v at l⊢;rw[t] at l;exact l
  rw[f.nE o (y a u)] at x;obtain⟨p,b⟩:=f.nC a u z x;exact⟨(o.nA _ p).1,b.nA o p⟩
 ·rw[f.nE o j];exact f.nF m j a l
variable{xz:G (AN×AF)}
def je.nF{F b H L:B}(m:n.je xz l yv q yd)(o:ge L n xz)(x:n.hr q)(a:fd F b H n r):r.je xz l yv q yd:=by
 have M:∀f,f<n.v->f/32<q.length:=λf j=>by rw[x.nA];exact mh j
 refine⟨λz y t=>(m.nB z y t).nA a.nD (oe (o.nA z y).1),λb p=>?_,D9 m.nA a.nR,λf j t N=>?_⟩
 ·rw[a.nS,a.nP] at p;refine(m.nD b p).nA a.nD ?_;rcases p with u|u
  ·exact o.nB 0 b Z u
  ·exact o.nB 1 b Z u
 ·rw[a.nO] at j;rw[x.nE a.nD (M f j),a.nH f j];exact m.nC f j t N
def ui(m:G (AN×AF))(j:AN×AF)(f:B):((m++[j]).filter λl=>l.1.c==f).getLast?=if j.1.c=f then C j else(m.filter λl=>l.1.c==f).getLast?:=by
 rw[List.filter_append];by_cases a:j.1.c=f
 ·rw[A8 a,List.filter_cons_of_pos (by simp[a])];simp
 ·rw[A1 a,List.filter_cons_of_neg (by simp[a])];simp
variable{xu:B}
def ge.nH(aw:ad l n)(t:ge p n xz)(ay:xu<=1)(ao:np<n.t)(al:n.dg np=(xu==1))(y:jv n r xq xu ⟨1,np,0,0,0,0⟩ q)(m:nb p n r xq xu ⟨1,np,0,0,0,0⟩ q)(an:r.x<=p)(ax:∀S,S<n.v->r.ba S=n.ba S):
 (∀j,r.ak j->jd p r j\/∃a,(a,j)∈xz++[(n.ff r xq ⟨1,np,0,0,0,0⟩,xq)])/\
 (∀a∈xz++[(n.ff r xq ⟨1,np,0,0,0,0⟩,xq)],r.ak a.2/\fp p r a.2 a.1/\(r.b a.2.a).a=1/\a.1.b=1/\a.1.h=0/\a.1.c<r.t/\r.dg a.1.c=(r.w a.2.a).b)/\
 ((xz++[(n.ff r xq ⟨1,np,0,0,0,0⟩,xq)]).Pairwise λF b=>F.1.a<b.1.a)/\
 (∀a∈xz++[(n.ff r xq ⟨1,np,0,0,0,0⟩,xq)],a.1.a<=r.ap)/\
 ∀u b,u<=2->r.al u=C b->r.ak ⟨b,0⟩:=by
 have z:=cj (lx y.nA);have M:=y.nJ;have W:r.ac=n.ac:=z.nH;have Z:∀j,n.ak j->∀a,fp p n j a->fp p r j a:=λj H a f=>by
  have x:=(M.nA j H).2;exact⟨f.nB,by rw[x];exact f.nC,f.nA,f.nG,by rw[x];exact f.nD,by rw[(m.nA j H).2.1];exact f.nF⟩
 have ap:xu≠2:=Y;refine⟨λj H=>?_,λa N=>?_,?_,λa N=>?_,λu b aa o=>?_⟩
 ·rcases m.nE j H with f|f
  ·rcases t.nD j f with U|⟨a,U⟩
   ·obtain⟨⟨a,aq,ar⟩,au,av⟩:=U;exact AT ⟨⟨a,Z j f a aq,ar⟩,by rw[(m.nA j f).1];exact au,by rw[(m.nA j f).2.2];exact av⟩
   ·exact Ae ⟨a,J' _ U⟩
  ·right;rw[f];exact⟨_,KR _ (CZ.2 A)⟩
 ·rcases Bs.1 N with f|f
  ·obtain⟨L,af,ag,ah,ai,aj,ak⟩:=t.nA a f;have x:=m.nA _ L;exact⟨(M.nA _ L).1,Z _ L _ af,by rw[x.1];exact ag,ah,ai,by rw[z.nI];exact aj,by rw[ks z.nI W,x.2.2];exact ak⟩
  ·rw[CZ] at f;subst f;refine⟨m.nC,m.nB.nH an,by rw[m.nG,A1 ap],A,A,by rw[z.nI];exact ao,?_⟩;show r.dg np=_;rw[ks z.nI W,al,m.nF]
 ·rw[List.pairwise_append];refine⟨t.nF,List.pairwise_singleton _ _,λF am b o=>?_⟩;rw[CZ] at o;subst o;have:=t.nC F am;show F.1.a<n.ap+1;omega
 ·rw[y.nL];rcases Bs.1 N with f|f
  ·have:=t.nC a f;omega
  ·rw[CZ] at f;subst f;exact AI _
 ·by_cases j:u=xu
  ·rw[j,y.nG] at o;cases o;exact m.nD
  ·rw[y.nH u aa j] at o;exact(M.nA _ (t.nB u b aa o)).1
def je.nE{F S:G B}(m:n.je xz xu yv F S)(t:ge l n xz)(L:np<=1)(u:jv n r xq np ⟨1,p,0,0,0,0⟩ q)(x:nb l n r xq np ⟨1,p,0,0,0,0⟩ q):
 (∀j∈xz++[(n.ff r xq ⟨1,p,0,0,0,0⟩,xq)],xu<j.1.a->r.ey xu yv j.2.a)/\∀b,r.bh=C b\/r.bg=C b->r.ey xu yv b:=by
 have o:=u.nJ;have W:=m.nA;have y:r.ey xu yv xq.a:=by
  rcases x.nI with a|a
  ·left;have U:r.ia xq.a=n.ap+1:=by
    have:(⟨xq.a,0⟩:AF)=xq:=by rw[<-a]
    unfold ia;rw[this,x.nB.nE];rfl
   omega
  ·refine(m.nD xq.a ?_).nA o (t.nB np _ Y a)
   match np,L,a with
   |0,_,a=>exact AT a
   |1,_,a=>exact Ae a
 refine⟨λj N a=>?_,λb H=>?_⟩
 ·rcases Bs.1 N with f|f
  ·exact(m.nB j f a).nA o (oe (t.nA j f).1)
  ·rw[CZ] at f;subst f;exact y
 ·have z:∀v,v<=1->r.al v=C b->r.ey xu yv b:=λv M a=>by
   by_cases f:v=np
   ·rw[f,u.nG] at a;cases a;exact y
   ·rw[u.nH v Y f] at a;refine(m.nD b ?_).nA o (t.nB v b Y a)
    match v,M,a with
    |0,_,a=>exact AT a
    |1,_,a=>exact Ae a
  rcases H with f|f
  ·exact z 0 Z f
  ·exact z 1 Z f
end K
namespace K
def hl(v:AC (G B)):Prop:=∀a,v=C a->0<a.length/\a.length<=175/\(∀f∈a,f<256)
structure hc(f:K):Prop where
 nE:∀a,a<70->(f.b a).a=3->a∈f.aa
 nD:∀a,(f.b a).a=3->∀m∈(f.w a).a,∃j l,m=cn 192 j l/\j<=f.av/\hl l
 nF:∀a,(f.b a).a=3->f.aq≠C a->∀m,(f.w a).a.getLast?=C m->∃j l,m=cn 192 j l/\j<f.av/\hl l
 nB:∀a,(f.b a).a=3->(f.w a).a.length<=f.i
 nA:∀a,f.aq=C a->a∈f.aa
 nC:∀a,(f.b a).a=3->(f.w a).b=I
structure jg(a:K)(f:AC (G B)):Prop where
 nA:a.hc
 nC:a.bn=f/\hl f
 nD:∃j,a.aq=C j/\(a.w j).a.getLast?=C (cn 192 a.av f)
variable{n r:K}
def hc.nG(j:n.hc)(f:hu n r)(q:r.i=n.i):r.hc:=by
 refine⟨λb m a=>by rw[f.nE];exact j.nE b m ((f.nA b).1 a),λb a o l=>?_,λb a p o l=>?_,λb a=>?_,λb m=>by rw[f.nE];rw[f.nC] at m;exact j.nA b m,λb a=>by rw[f.nF b ((f.nA b).1 a)];exact j.nC b ((f.nA b).1 a)⟩
 ·have a:=(f.nA b).1 a;rw[f.nB b a] at l;rw[f.nD];exact j.nD b a o l
 ·have a:=(f.nA b).1 a;rw[f.nB b a] at l;rw[f.nD];rw[f.nC] at p;exact j.nF b a p o l
 ·have a:=(f.nA b).1 a;rw[f.nB b a,q];exact j.nB b a
def jg.nB{v:AC (G B)}(a:n.jg v)(m:n.hm)(f:hu n r)(o:r.i=n.i):r.jg v:=by
 obtain⟨b,j,l⟩:=a.nD;refine⟨a.nA.nG f o,⟨by rw[f.nG];exact a.nC.1,a.nC.2⟩,b,by rw[f.nC];exact j,?_⟩;rw[f.nB b (m b (a.nA.nA b j)).2,f.nD];exact l
def js(a:K)(f:B)(m:D4)(j:B)(v:AC (G B)):K:={a with ab:=a.ab.set f m,bd:=a.bd+1,u:=a.u+1,bv:=j,aq:=C f,av:=a.av+1,bn:=v}
def vv(y:n.aq=C l)(z:l∈n.aa)(G:n.aa.Nodup):∃u,n.ig=l::u/\n.aa.length=u.length+1/\(∀q∈u,q∈n.aa/\q≠l):=by
 unfold ig;rw[y];dsimp only;have p:=List.findIdx_lt_length_of_exists (p:=λj=>j==l) ⟨l,z,Y1⟩;obtain⟨o,F⟩:∃o,o=n.aa.findIdx (λj=>j==l):=⟨_,A⟩;have r:n.aa[n.aa.findIdx (λj=>j==l)]=l:=by
  have:=List.findIdx_getElem (xs:=n.aa) (p:=λj=>j==l) (w:=p);simpa using this
 simp only[<-F] at p r⊢;rw[A8 p,HF p,r];refine⟨n.aa.drop (o+1)++n.aa.take o,A,by rw[Ad,DV,Ci];omega,λq H=>?_⟩;obtain⟨a,m,t⟩:∃(a:B)(m:a<n.aa.length),n.aa[a]=q/\a≠o:=by
  rcases Bs.1 H with x|x
  ·obtain⟨a,m,f⟩:=O3 x;rw[DV] at m;rw[List.getElem_drop] at f;exact⟨o+1+a,Y,f,Y⟩
  ·obtain⟨a,m,f⟩:=O3 x;rw[Ci] at m;rw[List.getElem_take] at f;exact⟨a,Y,f,Y⟩
 refine⟨t.1▸List.getElem_mem m,λf=>t.2 ?_⟩;exact(List.getElem_inj G).1 (t.1.trans (f.trans r.symm))
def sd(b:G B)(v:AC (G B))(a:B)(o:G B)(m:a<n.ab.length)(p:4<=n.i)(l:n.aq≠C a):ei b v (a::o) n=n.js a ⟨I,[b]⟩ (n.bv+1) v:=by
 have f:(n.cx a I).w a=⟨I,[]⟩:=by
  show(n.ab.set a ⟨I,[]⟩).getD a ⟨I,[]⟩=_;rw[ie m,A8 A]
 have j:(n.cx a I).ci a=n.i:=by
  unfold ci ca y;rw[f];rfl
 unfold ei;rw[A1 l];dsimp only;rw[j,A1 Y];unfold eu;rw[f];simp[cx,js,Hl]
def wj(b:G B)(v:AC (G B))(a:B)(f:G B)(j:n.aq=C a):ei b v (a::f) n=if n.ci a=0 then ei b v f n else n.js a ⟨(n.w a).b,(n.w a).a++[b]⟩ n.bv v:=by
 unfold ei;rw[A8 j];dsimp only;split
 ·cases f<;>rfl
 ·rfl
def wg(p:ad l n)(M:n.hc)(v:AC (G B))(x:2<=n.aa.length):∃a∈n.aa,∃m S,(n.aq=C a/\n.ci a≠0/\m=⟨(n.w a).b,(n.w a).a++[cn (n.aj+64) (n.av+1) v]⟩\/n.aq≠C a/\m=⟨I,[cn (n.aj+64) (n.av+1) v]⟩)/\n.cr v=n.js a m S v:=by
 have H:∀a,a∈n.aa->a<n.ab.length:=λa u=>by rw[p.nA.nA.nA.nA];exact(p.nA.nB a u).1
 have L:=p.nA.nA.nA.nF;unfold cr;obtain⟨j,Y⟩:∃j,j=cn (n.aj+64) (n.av+1) v:=⟨_,A⟩;rw[<-Y];cases f:n.aq with
 |none=>
  have r:n.ig=n.aa:=by unfold ig;rw[f]
  rw[r];cases z:n.aa with
  |nil=>rw[z] at x;simp at x
  |cons a q=>
   have u:a∈n.aa:=by rw[z];exact Bt
   refine⟨a,Bt,_,_,Ae ⟨Y1,A⟩,sd j v a q (H a u) L (by rw[f];simp)⟩
 |some o=>
  obtain⟨q,U,y,W⟩:=vv f (M.nA o f) p.nK.1;rw[U,wj j v o q f];split
  ·cases F:q with
   |nil=>rw[F] at y;simp at y;omega
   |cons a Z=>
    obtain⟨N,af⟩:=W a (by rw[F];exact Bt);have t:n.aq≠C a:=by rw[f];intro r;cases r;exact af A
    exact⟨a,N,_,_,Ae ⟨by rw[f] at t;exact t,A⟩,sd j v a Z (H a N) L t⟩
  ·rename_i aa;exact⟨o,M.nA o f,_,_,AT ⟨A,aa,A⟩,A⟩
def wl{m:D4}{v:AC (G B)}(f:l<n.ab.length)(a:B):(n.js l m p v).w a=if a=l then m else n.w a:=ie f a
def pb(q:ad l n)(x:n.hc)(v:AC (G B))(Z:hl v)(am:2<=n.aa.length):fd 0 1 1 n (n.cr v)/\(n.cr v).jg v/\(n.cr v).g=n.g/\(n.cr v).h=n.h:=by
 have S:=wh q.nA.nA q.nA.nB v (λo j=>by rw[q.nB];have:=(Z o j).2.1;omega);obtain⟨p,ah,m,U,M,L⟩:=wg q x v am;rw[L] at S⊢;obtain⟨ay,ai⟩:=q.nA.nB p ah;have ax:p<n.ab.length:=by rw[q.nA.nA.nA.nA];exact ay
 have u:=λH=>wl (n:=n) (m:=m) (p:=U) (v:=v) ax H;have ao:∀H,(n.js p m U v).b H=n.b H:=λH=>A;obtain⟨ak,a1⟩:∃ak,ak=n.js p m U v:=⟨_,A⟩;have ag:∀N,(n.b N).a≠3->N≠p:=λN f a=>f (by rw[a];exact ai);have aw:cn (n.aj+64) (n.av+1) v=cn 192 (n.av+1) v:=by rw[q.nB]
 rw[aw] at M;have au:∀o∈m.a,o=cn 192 (n.av+1) v\/o∈(n.w p).a:=λo j=>by
  rcases M with⟨_,_,a⟩|⟨_,a⟩
  ·rw[a] at j;rcases Bs.1 j with r|r
   ·exact Ae r
   ·exact AT (CZ.1 r)
  ·rw[a] at j;exact AT (CZ.1 j)
 have ap:m.a.getLast?=C (cn 192 (n.av+1) v):=by
  rcases M with⟨_,_,a⟩|⟨_,a⟩
  ·rw[a];simp
  ·rw[a];rfl
 have ar:m.b=I:=by
  rcases M with⟨_,_,a⟩|⟨_,a⟩
  ·rw[a];exact x.nC p ai
  ·rw[a]
 have aq:m.a.length<=n.i:=by
  rcases M with⟨_,a0,a⟩|⟨_,a⟩
  ·rw[a];unfold ci y at a0;have:=kw (n:=n) p;show((n.w p).a++[_]).length<=_;rw[Ad,JZ];omega
  ·rw[a];have:=q.nA.nA.nA.nF;show 1<=_;omega
 refine⟨⟨S.1.nA,S.1.nG,S.1.nE,A,A,A,A,A,AI _,A,A,λa2 az=>AT az,λN W=>AT ?_,λN W=>?_,⟨AI _,AI _⟩,⟨IE _,AI _⟩,⟨IE _,AI _⟩,A,id⟩,?_,A,A⟩
 ·obtain⟨z,F,t⟩:=W;rw[ao] at t;refine⟨z,?_,t⟩;unfold y at F⊢;rw[u,A1 (ag _ t)] at F;exact F
 ·refine⟨A,A,?_⟩;rw[u,A1 (ag _ W.2.2)]
 ·refine⟨⟨x.nE,λb f o j=>?_,λb f av o j=>?_,λb f=>?_,λb an=>?_,λb f=>?_⟩,⟨A,Z⟩,p,A,?_⟩
  ·rw[u] at j;show∃f v,_/\f<=n.av+1/\_;have aj:o∈(n.w b).a->∃f v,o=cn 192 f v/\f<=n.av+1/\hl v:=λa=>by
    obtain⟨aa,af,z,F,t⟩:=x.nD b f o a;exact⟨aa,af,z,Y,t⟩
   split at j
   ·rename_i L;rcases au o j with r|r
    ·exact⟨_,_,r,AI _,Z⟩
    ·rw[<-L] at r;exact aj r
   ·exact aj j
  ·have al:b≠p:=λL=>av (by rw[L];rfl);rw[u,A1 al] at j;show∃f v,_/\f<n.av+1/\_;obtain⟨aa,af,z,F,t⟩:=x.nD b f o (List.mem_of_getLast? j);exact⟨aa,af,z,Y,t⟩
  ·rw[u];show _<=n.i;split
   ·exact aq
   ·exact x.nB b f
  ·have:C p=C b:=an;cases this;exact ah
  ·rw[u];split
   ·exact ar
   ·exact x.nC b f
  ·rw[u,A8 A];exact ap
def vm(V:ad l n)(F:n.hc)(W:0<n.au):fd 1 0 0 n n.ds/\n.ds.hc/\n.ds.aa.length=n.aa.length+1/\n.ds.g=n.g/\n.ds.h=n.h:=by
 have N:=V.nA.nA;obtain⟨ap,ai,al⟩:=jy W;obtain⟨b,ak,q,r⟩:=kc N.nA I ai al;have ao:(n.j[b]'q).b=0:=by
  have ah:=(N.nA.nD b q r).2.2.2.1;have:n.b b=n.j[b]'q:=by show n.j.getD b Cq.e=_;rw[AY,Aw q];rfl
  rw[<-this];exact ah
 obtain⟨t,_,_⟩:=rj N V.nA.nB W;obtain⟨p,f⟩:∃p:K,p={n.gq b with bv:=n.bv+1,x:=n.x+1,aa:=(n.aa++[b]).mergeSort}:=⟨_,A⟩;have aj:n.ds=p:=by
  unfold ds K.fc;rw[ak,f];simp[cx,K.bl,K.b,gq,Hl,Cq.e,q,ao]
 rw[aj] at t⊢;have S:∀a,p.b a=if a=b then⟨3,0,0,0,1⟩ else n.b a:=λa=>by
  rw[f];show(n.j.set b ⟨3,0,0,0,1⟩).getD a Cq.e=_;rw[cz q];rfl
 have z:∀a,p.w a=if a=b then⟨I,[]⟩ else n.w a:=λa=>by rw[f];exact ie (by rw[N.nA.nA];exact q) a
 have am:=AE5 (n.aa++[b]) (λaf b=>Ac (af<=b));have U:p.aa=(n.aa++[b]).mergeSort:=by rw[f]
 have au:n.y b=0:=by unfold ar at r;simp at r;exact r.1.1
 have aq:(n.b b).a≠3:=by unfold ar at r;simp at r;exact r.1.2
 have an:∀G,n.ak G->G.a≠b:=λG M j=>by
  have:=gw M;rw[j] at this;omega
 refine⟨⟨t.nA,t.nG,t.nE,by rw[f];rfl,by rw[f];rfl,by rw[f];rfl,by rw[f];rfl,t.nC,by rw[f];exact AI _,by rw[f];rfl,by rw[f];rfl,λav Z=>AT (by rw[f] at Z;exact Z),λG M=>AT ?_,λG M=>?_,by rw[f];exact⟨IE _,AI _⟩,by rw[f];exact⟨AI _,AI _⟩,by rw[f];exact⟨AI _,AI _⟩,by rw[f];rfl,by rw[f];exact id⟩,?_,?_,by rw[f];rfl,by rw[f];rfl⟩
 ·obtain⟨ag,H,P⟩:=M;rw[S] at P;unfold y at H;rw[z] at H;split at H
  ·simp at H
  ·rename_i j;rw[A1 j] at P;exact⟨by rw[<-t.nA.nD];exact ag,H,P⟩
 ·have:=an G M;rw[S,z,A1 this,A1 this];exact⟨A,A,A⟩
 ·have L:∀a,a≠b->(p.b a).a=3->(n.b a).a=3:=λa u m=>by rw[S,A1 u] at m;exact m
  refine⟨λa u m=>?_,λa m Q o=>?_,λa m Y Q o=>?_,λa m=>?_,λa u=>?_,λa m=>?_⟩
  ·rw[U,KS];by_cases j:a=b
   ·rw[j];exact KR _ (CZ.2 A)
   ·exact J' _ (F.nE a u (L a j m))
  ·rw[z] at o;split at o
   ·cases o
   ·rename_i j;rw[f];exact F.nD a (L a j m) Q o
  ·rw[z] at o;split at o
   ·cases o
   ·rename_i j;rw[f] at Y⊢;exact F.nF a (L a j m) Y Q o
  ·rw[z,show p.i=n.i by rw[f];rfl];split
   ·exact Af _
   ·rename_i j;exact F.nB a (L a j m)
  ·rw[f] at u;rw[U,KS];exact J' _ (F.nA a u)
  ·rw[z];split
   ·rfl
   ·rename_i j;exact F.nC a (L a j m)
 ·rw[U,am.length_eq,Ad];rfl
def vc(a:ad l n)(t:n.hc)(N:n.i*7<n.bc)(r:hl (C q)):fd 1 1 1 n (n.eq q)/\(n.eq q).jg (C q)/\(n.eq q).g=n.g/\(n.eq q).h=n.h:=by
 have M:=a.nK;have p:=dx (p:=0) a Y;unfold eq;split
 ·rename_i H;obtain⟨u,x,L,z,F⟩:=vm a t p;have y:=om a p H;obtain⟨f,j,m,o⟩:=pb y.nA x (C q) r Y;exact⟨u.nN f,j,m.trans z,o.trans F⟩
 ·obtain⟨f,j,m,o⟩:=pb a t (C q) r Y;exact⟨f.nI Y Y Y,j,m,o⟩
end K
namespace K
def df(f:K)(a:B):AE:=match f.h.getD a E with|some j=>j.b|none=>I
def ta(f:K):Prop:=∀a,f.bp<=a->f.df a=I
structure dc where
 nA:B
 nE:B
 o:AC B×AC B
 nB:AF
 nC:G B
def dc.nD(a:dc)(f:G B):G B:=AS a.nA 8++(AS a.nE 8++(AS (cy a.o.1) 2++(AS (cy a.o.2) 2++([1]++(AS (a.nB.a*256+a.nB.b) 3++f)))))
def dc.nF(a:K)(f:AF)(j:G B):a.db [f]=(⟨a.aw,a.bq,a.bf,f,j⟩:dc).nD a.bb:=by
 unfold K.db dc.nD;simp
def fu(a:G B):G B:=AS 0x50414D53 4++(AS a.length 4++(a.map λv=>AS v 4).flatten)
def tr(a:K):a.cl=fu a.g:=A
structure lu(m:B)(j:K)(n:G (AN×AF))(a:dc):Prop where
 nC:j.ak a.nB
 nG:∃l:AN,l.i/\l.b=4/\l.c=0/\j.ay a.nB=l.e (fu a.nC++j.ac) 128
 nA:j.hr a.nC
 nB:j.je n a.nA a.o a.nC []
 nD:a.nE<=m
 nE:∀f,a.o.1=C f->f<70
 nF:∀f,a.o.2=C f->f<70
variable{n r:K}{xz:G (AN×AF)}
def lu.nH{m b o j:B}{l:dc}(a:lu j n xz l)(x:ge j n xz)(f:fd m b o n r):lu j r xz l:=by
 obtain⟨y,p,q,t,u⟩:=a.nG;exact⟨(f.nD.nA _ a.nC).1,⟨y,p,q,t,by rw[(f.nD.nA _ a.nC).2,f.nG];exact u⟩,a.nA.nD f.nD f.nA,a.nB.nF x a.nA f,a.nD,a.nE,a.nF⟩
structure hb(j:B)(a:K)(l:G (AN×AF))(m:AC dc):Prop where
 nA:ge j a l
 nB:∀f,m=C f->lu j a l f
 nF:∀f,m=C f->a.jg (C (f.nD a.bb))
 nC:a.hc
 nE:a.ta
 nD:a.hr a.g
 nG:a.bq<=j
def es(a:r.t=n.t):r.bp=n.bp:=by unfold bp;rw[a]
variable{yw:AC dc}
def hb.nH{q b t l:B}(f:hb l n xz yw)(u:n.hm)(a:dk q b t n r)(y:r.x<=l)(x:r.g=n.g)(z:∀j,n.bp<=j->r.df j=n.df j):hb l r xz yw:=
 ⟨f.nA.nG a.nA y,λp o=>(f.nB p o).nH f.nA a.nA,λp o=>by rw[a.nA.nE];exact(f.nF p o).nB u a.nD a.nA.nC,f.nC.nG a.nD a.nA.nC,λj m=>by rw[es a.nA.nA] at m;rw[z j m];exact f.nE j m,by rw[x];exact f.nD.nD a.nA.nD a.nA.nA,by rw[a.nA.nF];exact f.nG⟩
def io(f:r.h=n.h)(a:B):r.df a=n.df a:=by unfold df;rw[f]
structure dh(j:B)(a:K)(f:G (AN×AF))(m:AC dc)(o:B)(l:AC B×AC B)(n:G B):Prop where
 nA:hb j a f m
 nB:a.je f o l a.g n
variable{yv:AC B×AC B}
def dh.nC{p b t f:B}(a:dh f n xz yw l yv q)(u:n.hm)(o:dk p b t n r)(x:r.x<=f)(m:r.g=n.g)(y:∀j,n.bp<=j->r.df j=n.df j):dh f r xz yw l yv q:=
 ⟨a.nA.nH u o x m y,by rw[m];exact a.nB.nF a.nA.nA a.nA.nD o.nA⟩
def dh.nJ{f m:G B}(a:dh l n xz yw p yv f)(o:∀q∈f,q∈m):dh l n xz yw p yv m:=
 ⟨a.nA,⟨a.nB.nB,a.nB.nD,a.nB.nA,λr j t u=>a.nB.nC r j (λx=>t (o _ x)) u⟩⟩
def sn(f:K)(j:B)(l:AC CG)(a:B)(n:a≠j):({f with h:=f.h.set j l}:K).df a=f.df a:=by
 unfold df;show(match(f.h.set j l).getD a E with|some o=>o.b|none=>I)=_;rw[AY,Ir (λm=>n m.symm),<-AY]
def wc(f:n.fh)(j:l<n.g.length)(a:B):(n.am l).df a=n.df a:=(ga f j).nC a
def xf(a:n.fh)(f:l<n.g.length)(j:p≠l):(n.co l).df p=n.df p:=by
 rw[<-wc a f p];exact sn (n.am l) l _ p j
def xe(a:ad l n)(f:p<n.g.length):dk 0 0 1 n (n.co p)/\(n.co p).g=n.g:=by
 have j:=(ga a.nA.nA.nB f).nA;refine⟨nm (na a f).nB ?_ (lf n p),(AB K.g j:)⟩;have m:(n.co p).da=(n.am p).da:=A;rw[m];exact j
variable{xu:B}
def uv(m:ad l n)(H:dh p n xz yw np yv n.ae)(L:n.x<=p)(t:xu<n.g.length)(M:xu<n.bp):
 dk 0 0 1 n (cp n xu)/\dh p (cp n xu) xz yw np yv (cp n xu).ae/\(cp n xu).g=n.g/\(cp n xu).aw=n.aw/\(cp n xu).bf=n.bf/\(cp n xu).ct=n.ct/\(cp n xu).bi=n.bi/\(∀f∈(cp n xu).ae,f∈n.ae\/f=xu)/\(cp n xu).x=n.x:=by
 obtain⟨o,r⟩:=xe m t;have y:=na m t;have a:=cj (ju n xu);have z:(n.co xu).x=n.x:=by have:=o.nA.nB;omega
 have x:=H.nC m.nA.nB o Y r (λf j=>xf m.nA.nA.nB t Y);have q:=a.nG;unfold cp;split
 ·exact⟨o,by rw[q];exact x,r,a.nD,a.nF,a.nK,a.nE,λf j=>AT (by rw[<-q];exact j),z⟩
 ·have F:=im (n:=n.co xu) (r:=(n.co xu).dv ((n.co xu).ae++[xu])) y.nA.nA.nA A A A id;refine⟨o.nB F,?_,r,a.nD,a.nF,a.nK,a.nE,λf j=>?_,z⟩
  ·have:=x.nC y.nA.nA.nB F (by show(n.co xu).x<=p;omega) A (λf _=>A);exact this.nJ λf j=>J' _ (by rw[q];exact j)
  ·rcases Bs.1 j with u|u
   ·exact AT (by rw[<-q];exact u)
   ·exact Ae (CZ.1 u)
def qx{p:B}{H:G (AN×AF)}{M:AC dc}{N:B}{L:AC B×AC B}:∀(f:G B){r:B}{a:K},ad r a->dh p a H M N L a.ae->a.x<=p->(∀o∈f,o<a.g.length/\o<a.bp)->
 dk 0 0 f.length a (f.foldl cp a)/\dh p (f.foldl cp a) H M N L (f.foldl cp a).ae/\(f.foldl cp a).g=a.g/\(f.foldl cp a).aw=a.aw/\(f.foldl cp a).bf=a.bf/\(f.foldl cp a).ct=a.ct/\(f.foldl cp a).bi=a.bi/\∀j∈(f.foldl cp a).ae,j∈a.ae\/j<a.bp
 |[],r,a,n,q,_,_=>⟨dk.nC n.nA.nA,q,A,A,A,A,A,λj m=>AT m⟩
 |o::f,r,a,n,q,am,x=>by
  obtain⟨z,F⟩:=x o (Bt ..);obtain⟨t,P,u,Q,S,U,V,W,an⟩:=uv n q am z F;have al:=nz n z;have y:=es t.nA.nA;obtain⟨Z,aa,af,ag,ah,ai,aj,ak⟩:=qx f al.nA P Y (λj m=>by rw[u,y];exact x j (By _ m));refine⟨(t.nB Z).nE Y Y Z7,aa,af.trans u,ag.trans Q,ah.trans S,ai.trans U,aj.trans V,λj m=>?_⟩;rcases ak j m with l|l
  ·rcases W j l with l|l
   ·exact AT l
   ·right;rw[l];exact F
  ·right;rw[<-y];exact l
def rv(a:n.fh)(j:l<n.v)(f:n.ao=32):l/32<n.g.length:=by have:=gr a j;rw[f] at this;exact this
def rz(j:n.ha)(a:n.df l=I):n.az l=n.cq l:=by
 unfold az;unfold df at a;cases f:n.h.getD l E with
 |none=>rfl
 |some m=>rw[f] at a;exact j l m f a
def jz(f:n.ao=32)(a:B):n.ba a=gb (fi (n.az (a/32)) (a%32)):=by unfold ba fz;rw[f]
def my(o:ad l n)(L:hb p n xz yw)(aw:n.x<=p):
 dk 0 0 12 n n.ce/\dh p n.ce xz yw n.ce.aw n.ce.bf n.ce.ae/\n.ce.g=n.g/\n.ce.aw=n.ap/\n.ce.ct=0/\n.ce.bi=0/\(∀f∈n.ce.ae,f<n.bp)/\n.ce.ae.length<=n.bp:=by
 have H:=jk o (AI l) (l:=n.ap) (o:=(n.bh,n.bg)) (q:=n.dr) (p:=0) (np:=0) o.nG ⟨λb r=>by have:=(o.nA.nA.nA.nC b r).1;rw[o.nC] at this;exact this,λb r=>by have:=(o.nA.nA.nA.nB b r).1;rw[o.nC] at this;exact this⟩ (nn o) Y Y;have N:=km o;rw[kl] at N⊢;have u:=o.nA.nA;have W:=ip o;have y:=im (n:=n) (r:=n.ii n.ap (n.bh,n.bg) n.dr 0 0) u A A A id;have aa:∀m,m∈n.dr↔m<n.h.length/\n.df m=R:=λm=>by
  unfold dr df;rw[CF,Ce]<;>exact Iff.rfl
 have ag:∀m∈n.dr,m<n.bp:=λm x=>by
  rcases Ck m n.bp with j|j
  ·exact j
  ·have:=L.nE m j;rw[((aa m).1 x).2] at this;cases this
 have Z:dh p (n.ii n.ap (n.bh,n.bg) n.dr 0 0) xz yw n.ap (n.bh,n.bg) n.dr:=by
  refine⟨L.nH o.nA.nB y aw A (λf _=>A),⟨λba a2 aj=>?_,λb r=>?_,AI _,λf t aj j=>?_⟩⟩
  ·have:=L.nA.nC ba a2;omega
  ·rcases r with j|j
   ·exact Ae (AT j)
   ·exact Ae (Ae j)
  ·have ax:f<n.v:=t;have af:=rv u.nB ax W;have az:n.df (f/32)=I:=by
    cases a1:n.df (f/32) with
    |false=>rfl
    |true=>exact CV ((aa _).2 ⟨by rw[u.nB.nA];exact af,a1⟩) aj
   show gb (fi (n.en n.g (f/32)) (f%32))=n.ba f;rw[jz W,rz u.nG az];rfl
 obtain⟨a,q⟩:∃a,a=n.ii n.ap (n.bh,n.bg) n.dr 0 0:=⟨_,A⟩;have z:a.aw=n.ap:=by rw[q];rfl
 have ak:a.bf=(n.bh,n.bg):=by rw[q];rfl
 have F:a.ae=n.dr:=by rw[q];rfl
 have Q:a.g=n.g:=by rw[q];rfl
 have S:a.ct=0:=by rw[q];rfl
 have U:a.bi=0:=by rw[q];rfl
 have bb:a.x=n.x:=by rw[q];rfl
 have al:a.bp=n.bp:=by rw[q];rfl
 rw[<-q] at H N y Z⊢;clear q;have M:dh p a xz yw a.aw a.bf a.ae:=by rw[z,ak,F];exact Z
 have a9:dk 0 0 12 n a.fj/\dh p a.fj xz yw a.fj.aw a.fj.bf a.fj.ae/\a.fj.g=n.g/\a.fj.aw=n.ap/\a.fj.ct=0/\a.fj.bi=0/\(∀f∈a.fj.ae,f<n.bp):=by
  have ah:dk 0 0 12 n a/\dh p a xz yw a.aw a.bf a.ae/\a.g=n.g/\a.aw=n.ap/\a.ct=0/\a.bi=0/\(∀f∈a.ae,f<n.bp):=⟨y.nE Y Y Y,M,Q,z,S,U,by rw[F];exact ag⟩;rw[kd];split
  ·exact ah
  ·split
   ·exact ah
   ·rename_i P _ _;have bc:=oc a P;have af:=H.nA.nJ;have ay:=od a P;obtain⟨am,an,ao,V,ap,aq,ar,au⟩:=qx (a.ep P) H.nA M Y (λm x=>by
     refine⟨ay m x,?_⟩;rcases Ck m a.bp with j|j
     ·exact j
     ·exfalso;have av:=M.nA.nD.nG m j;have:=(CF.1 x).2;unfold bo at this;rw[av] at this;simp at this)
    refine⟨(y.nB am).nE Y Y Y,by rw[V,ap];exact an,ao.trans Q,V.trans z,aq.trans S,ar.trans U,λf t=>?_⟩;rcases au f t with j|j
    ·rw[F] at j;exact ag f j
    ·rw[<-al];exact j
 obtain⟨a3,a4,a5,a6,a7,a8,ai⟩:=a9;refine⟨a3,a4,a5,a6,a7,a8,ai,?_⟩;have a0:=N.nA.nO.1;have:=Md a0 (l₂:=AH n.bp) (λf t=>Ce.2 (ai f t));rw[Dj] at this;exact this
end K
namespace K
def ww{b:G B}(f:b.take 4=[83,76,79,84]):fi b 0=1414483027:=by
 have l:∀a,a<4->b.getD a 0=([83,76,79,84]:G B).getD a 0:=λa j=>by
  rw[<-f,AY,AY,List.getElem?_take_of_lt j]
 unfold fi;rw[Mn,CJ,Jv 4 l];decide
variable{n:K}{xz:G (AN×AF)}{yw:AC dc}{yv:AC B×AC B}{xu:B}
def dh.nG(F:ad l n)(S:dh p n xz yw np yv (xu::q))(b9:n.x+1<=p)(bd:n.i*7<n.bc)(b3:l<=1000000000)(ap:xu<n.g.length):
 dk 1 1 1 n (n.bt xu)/\dh p (n.bt xu) xz yw np yv q:=by
 have bx:=dx (p:=0) F Y;have ag:=F.nA.nA;have bt:=ip F;have br:n.df xu=I->dh p n xz yw np yv q:=λr=>by
  refine⟨S.nA,⟨S.nB.nB,S.nB.nD,S.nB.nA,λu L N b=>?_⟩⟩;by_cases m:u/32=xu
  ·rw[jz bt,m,rz ag.nG r];rfl
  ·exact S.nB.nC u L (λa=>by rcases C2.1 a with y|y;exact m y;exact N y) b
 cases M:n.h.getD xu E with
 |none=>
  have af:n.bt xu=n:=by unfold K.bt;rw[M]
  rw[af];exact⟨(dk.nC ag).nE Y Y Y,br (by unfold df;rw[M])⟩
 |some a=>
  cases ao:a.b with
  |false=>
   have af:n.bt xu=n:=by unfold K.bt;rw[M];dsimp only;rw[ao];rfl
   rw[af];exact⟨(dk.nC ag).nE Y Y Y,br (by unfold df;rw[M];exact ao)⟩
  |true=>
   have af:n.bt xu=n.gt xu a:=by unfold K.bt;rw[M];dsimp only;rw[ao];rfl
   rw[af];have b1:n.df xu=R:=by unfold df;rw[M];exact ao
   have cc:xu<n.bp:=by
    rcases Ck xu n.bp with m|m
    ·exact m
    ·have:=S.nA.nE xu m;rw[b1] at this;cases this
   have bk:n.az xu=a.a:=by unfold az;rw[M]
   have b6:a.a.length=128:=by
    have:=hp ag.nB ap;rw[bk,F.nB] at this;exact this
   have b5:a.a.take 4≠[83,76,79,84]:=λr=>by
    have bs:=F.nP xu ap 0 Z;rw[bk,ww r] at bs;omega
   have b2:xu<256^4:=by
    have:=F.nJ;have b8:(256:B)^4=4294967296:=Z;omega
   have ar:=hi F (p:=2) Z bd (ym:=⟨3,xu,0,0,0,0⟩) (show 3<256 by decide) (F.nQ xu a M) Y;have aw:=fw ag.nA (l:=2) Z bx ⟨3,xu,0,0,0,0⟩ a.a;obtain⟨a6,an,a7,b7⟩:=rr F S.nA.nA bd b3 (ym:=⟨3,xu,0,0,0,0⟩) (AT A) A b2 (q:=a.a) Y Y b5;have bi:(n.af 2 ⟨3,xu,0,0,0,0⟩ a.a).2.h=n.h:=(AB K.h aw.nA:);have bf:(n.af 2 ⟨3,xu,0,0,0,0⟩ a.a).2.g=n.g:=(AB K.g aw.nA:);have bb:n.gt xu a=(((n.af 2 ⟨3,xu,0,0,0,0⟩ a.a).2.ai (n.af 2 ⟨3,xu,0,0,0,0⟩ a.a).1).dw (n.bo xu)).fm ((((n.af 2 ⟨3,xu,0,0,0,0⟩ a.a).2.ai (n.af 2 ⟨3,xu,0,0,0,0⟩ a.a).1).dw (n.bo xu)).g.set xu (n.af 2 ⟨3,xu,0,0,0,0⟩ a.a).1.c) ((((n.af 2 ⟨3,xu,0,0,0,0⟩ a.a).2.ai (n.af 2 ⟨3,xu,0,0,0,0⟩ a.a).1).dw (n.bo xu)).h.set xu (C {a with b:=I})):=A;rw[bb];clear bb af;obtain⟨t,a3⟩:∃t,t=(n.af 2 ⟨3,xu,0,0,0,0⟩ a.a).1:=⟨_,A⟩;obtain⟨am,aq⟩:∃z,z=(n.af 2 ⟨3,xu,0,0,0,0⟩ a.a).2:=⟨_,A⟩;rw[<-a3,<-aq] at an a7;rw[<-a3,<-aq];rw[<-aq] at a6 ar bi bf;clear a3 aq aw;have bo:=ne ar.nA.nA.nA an;have au:=jh ar.nA an;have bh:∀r,n.bo xu=C r->(am.ai t).ak r:=λr aa=>((ar.nC au).nB.nA.nA r (ms ag ap aa)).1;have bp:=tv au.nA.nA.nA (n.bo xu) bh;have W:=qe au.nA (n.bo xu) bh;have a8:((am.ai t).dw (n.bo xu)).h=n.h/\((am.ai t).dw (n.bo xu)).g=n.g:=by
    rw[<-bi,<-bf];unfold dw;split<;>exact⟨A,A⟩
   have ai:=(a6.nB bo).nB bp;obtain⟨f,a4⟩:∃z,z=(am.ai t).dw (n.bo xu):=⟨_,A⟩;have aj:f.ak t/\f.ay t=am.ay t:=by
    rw[a4];have:=(au.nC W).nB.nA.nA t an;exact this
   rw[<-a4] at ai W a8⊢;clear a4 bo bp;obtain⟨a9,ba⟩:=a8;have bj:(f.ay t).take f.aj=a.a:=by
    rw[aj.2,a7,W.nA.nB,AN.t _ Y];rw[b6];simp
   have bn:f.h.getD xu E=C a:=by rw[a9];exact M
   have x:dh p f xz yw np yv (xu::q):=S.nC F.nA.nB ai (by have:=ai.nA.nB;omega) ba (λo _=>io a9 o);have av:=W.nA.nA.nA;have bv:=(sl av bn aj.1 bj).1;obtain⟨z,al⟩:∃z,z=f.fm (f.g.set xu t.c) (f.h.set xu (C {a with b:=I})):=⟨_,A⟩;have j:dk 0 0 0 f z:=by
    rw[al];exact ma bv A (λb=>⟨A,A⟩) A A ⟨AI _,AI _⟩ id
   have a1:xu<f.g.length:=by rw[ba];exact ap
   obtain⟨bq,cd⟩:=kz av aj.1;have ay:∀o,z.en z.g o=if o=xu then a.a else f.en f.g o:=λo=>by
    rw[al];unfold en;show(if(f.g.set xu t.c).getD o 0=0 then U f.aj 0 else(f.ay (DE ((f.g.set xu t.c).getD o 0))).take f.aj)=_;rw[cz a1];by_cases m:o=xu
    ·rw[A8 m,A8 m,A1 (by unfold AF.c;omega),ki t bq];exact bj
    ·rw[A1 m,A1 m]
   have bg:∀o,z.g.getD o 0=if o=xu then t.c else f.g.getD o 0:=λo=>by rw[al];exact cz a1 o
   have bl:f.az xu=a.a:=by unfold az;rw[bn]
   have bu:f.ao=32:=ip W.nA;have a2:f.bp=n.bp:=es ai.nA.nA;have bm:z.v=f.v:=j.nA.nO;have b4:t.c<=262144:=rl W.nA aj.1;have a0:z.g.length=f.g.length:=j.nA.nU;have ak:=x.nA.nD;have be:∀u,u/32=xu->gb (fi a.a (u%32))=f.ba u:=λu m=>by rw[jz bu,m,bl]
   rw[<-al];have ca:=ai.nA.nB;have cb:=j.nA.nB;refine⟨ai.nB j,⟨⟨x.nA.nA.nG j.nA Y,λy ah=>(x.nA.nB y ah).nH x.nA.nA j.nA,λy ah=>by rw[j.nA.nE];exact(x.nA.nF y ah).nB W.nA.nA.nB j.nD j.nA.nC,x.nA.nC.nG j.nD j.nA.nC,λo H=>?_,⟨by rw[a0,j.nA.nA];exact ak.nA,λo H r=>?_,λu L r aa=>?_,λo H N bc=>?_,λo H=>?_⟩,by rw[j.nA.nF];exact x.nA.nG⟩,⟨λy ah r=>(x.nB.nB y ah r).nA j.nA.nD (oe (x.nA.nA.nA y ah).1),λb ax=>?_,D9 x.nB.nA j.nA.nR,λu L N b=>?_⟩⟩⟩
   ·rw[es j.nA.nA,a2] at H;rw[al];have:=sn f xu (C {a with b:=I}) o Y;exact Eq.trans this (x.nA.nE o (by rw[a2];exact H))
   ·rw[bg] at r⊢;by_cases m:o=xu
    ·rw[A8 m,ki t bq];exact⟨b4,(j.nA.nD.nA t aj.1).1⟩
    ·rw[A1 m] at r⊢;obtain⟨N,b⟩:=ak.nB o (by rw[<-a0];exact H) r;exact⟨N,(j.nA.nD.nA _ b).1⟩
   ·rw[bm] at L;rw[ay] at aa;have a5:f.ak r/\f.fo u r:=by
     split at aa
     ·rename_i m;rw[be u m] at aa;exact av.nC u r L aa
     ·exact ak.nC u L r aa
    exact⟨(j.nA.nD.nA r a5.1).1,a5.2.nA j.nA.nD a5.1⟩
   ·rw[ay];split
    ·have:=W.nA.nP xu a1 N bc;rw[bl] at this;exact this
    ·exact ak.nF o (by rw[<-a0];exact H) N bc
   ·rw[bg,A1 (by rw[es j.nA.nA,a2] at H;omega)];exact ak.nG o (by rw[es j.nA.nA] at H;exact H)
   ·rw[j.nA.nS,j.nA.nP] at ax;refine(x.nB.nD b ax).nA j.nA.nD ?_;rcases ax with m|m
    ·exact x.nA.nA.nB 0 b Z m
    ·exact x.nA.nA.nB 1 b Z m
   ·rw[bm] at L;rw[ay,j.nA.nH u L];split
    ·rename_i m;exact be u m
    ·rename_i m;exact x.nB.nC u L (λa=>by rcases C2.1 a with y|y;exact m y;exact N y) b
def wq(a:ad l n):n.cd=([(n.af 2 ⟨4,0,0,0,0,0⟩ (n.cl++n.ac)).1],(n.af 2 ⟨4,0,0,0,0,0⟩ (n.cl++n.ac)).2.ai (n.af 2 ⟨4,0,0,0,0,0⟩ (n.cl++n.ac)).1):=by
 have j:(n.cl++n.ac).length<=128/\0<(n.cl++n.ac).length:=by
  have:=a.nJ;have:=a.nF;rw[Ad,ka,a.nL];omega
 have f:gg n.aj (n.cl++n.ac)=[n.cl++n.ac]:=by
  unfold gg;rw[a.nB,show((n.cl++n.ac).length+128-1)/128=1 by omega];simp only[List.range_one,Ee,List.map_nil,Nat.mul_zero,CJ];rw[DP j.1]
 rw[lk,f];rfl
def xb(j:ad l n){f:AN×AF}(a:n.ak f.2):dk 0 0 0 n (n.hk f):=nl j.nA.nA a.1 (gw a) _ (λ_=>A) (λ_=>A)
def px:∀(j:G (AN×AF)){m:B}{a:K},ad m a->(∀r∈j,a.ak r.2)->dk 0 0 0 a (j.foldl hk a)
 |[],m,a,f,_=>dk.nC f.nA.nA
 |o::j,m,a,f,l=>by
  have n:=ss f (l o Bt);exact(xb f (l o Bt)).nB (px j n.nA λq p=>(n.nB.nA.nA _ (l q (By _ p))).1)
def mg{n:Type}(f:K->n->K)(m:∀a j,(f a j).g=a.g/\(f a j).h=a.h):∀(l:G n)(a:K),(l.foldl f a).g=a.g/\(l.foldl f a).h=a.h
 |[],a=>⟨A,A⟩
 |j::l,a=>by
  obtain⟨o,p⟩:=mg f m l (f a j);obtain⟨q,r⟩:=m a j;exact⟨o.trans q,p.trans r⟩
def vg(m:ad l n)(o:G AF):dk 0 0 0 n (n.gx o)/\(n.gx o).g=n.g/\(n.gx o).h=n.h:=by
 have z:∀a∈n.bj++n.ax,n.ak a:=λa H=>by
  rcases Bs.1 H with r|r
  ·exact m.nA.nE a r
  ·exact m.nA.nF a r
 have f:=K.lo _ m z;have u:=sv _ m z;have p:=mg dn (λn a=>⟨A,A⟩) (n.bj++n.ax) n;rw[kg];obtain⟨j,L⟩:∃t,t=(n.bj++n.ax).foldl dn n:=⟨_,A⟩;rw[<-L] at f u p⊢;have y:=jx _ f.nA (lh f.nA.nA.nA);have x:=po _ f.nA (lh f.nA.nA.nA);have q:=mg ai (λn a=>⟨A,A⟩) j.dl j;obtain⟨N,M⟩:∃t,t=j.dl.foldl ai j:=⟨_,A⟩;rw[<-M] at y x q⊢;have F:=im (r:=N.du j.dl o) y.nA.nA.nA A A A id;exact⟨(u.nB x).nB F,q.1.trans p.1,q.2.trans p.2⟩
def tx(m:ad l n):dk 0 0 0 n n.hz/\n.hz.g=n.g/\n.hz.h=n.h:=by
 have q:∀a∈n.ah.filter λa=>a.1.a<=n.aw,n.ak a.2:=λa t=>m.nA.nD a (CF.1 t).1;have p:=no _ m q;have o:=px _ m q;have j:=mg hk (λn y=>⟨A,A⟩) (n.ah.filter λa=>a.1.a<=n.aw) n;rw[ns];obtain⟨f,r⟩:∃x,x=(n.ah.filter λa=>a.1.a<=n.aw).foldl hk n:=⟨_,A⟩;rw[<-r] at p o j⊢;exact⟨o.nB (im (r:=f.lq (f.ah.filter λa=>¬a.1.a<=f.aw)) p.nA.nA.nA A A A λu=>by show f.ah.filter _=[];rw[u];rfl),j.1,j.2⟩
end K
