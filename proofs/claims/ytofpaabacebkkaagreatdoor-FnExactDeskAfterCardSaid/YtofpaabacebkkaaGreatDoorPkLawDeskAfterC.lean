import Derived.StillTail
import Derived.ProofKit
import Derived.OpenShut
import Derived.ChangeOld
import Derived.Below
import Derived.Carry
import Derived.Deep.Slices
import Derived.Test.YtofpaabacebkkaaGreatDoorRows
import Derived.Test.YtofpaabacebkkaaGreatDoorCards
import Derived.Test.YtofpaabacebkkaaGreatDoorTie
import Derived.Lay
import Derived.LaidMore
import Derived.Stop.LaidErr
import Derived.Lib.LaidTab
import Derived.Shelf.Vars
import Derived.SevenTiedAt
import Derived.SizedLaws
import Derived.Sort.Grow
import Derived.Laws.IdiomCopy
import Derived.Deep.Draws
import Derived.Test.YtofpaabacebkkaaGreatDoorPkLawDeskAfterB
open Go.Proofs.Tryz
open Go.Proofs.Tryz renaming prog → pG
set_option linter.unusedVariables false
set_option linter.unusedSimpArgs false
set_option linter.unnecessarySimpa false
set_option maxRecDepth 1000000
set_option maxHeartbeats 16000000
open Array renaming getD_eq_getD_getElem? ->q0,getElem?_append_left->q1,getElem?_eq_some_iff->q2,getElem?_toList->q3,mapM_eq_mapM_toList->q4,replicate->q5
open Bool renaming false_eq_true->q6
open List renaming eq_nil_of_length_eq_zero->q7,getD_eq_getElem?_getD->q8,getElem?_eq_getElem->q9,getElem?_eq_none->q10,getElem?_eq_some_iff->q11,getElem_of_mem->q12,mem_cons->q13,mem_cons_of_mem->q14,mem_cons_self->q15,mem_map->q16,nil_append->q17,nodup_nil->q18,toArray->q19
open Nat renaming le_refl->q20,le_trans->q21,lt_of_lt_of_le->q22,not_lt_zero->q23,zero_add->q24
namespace Go.Vc
section
variable {P:Program} {B:eO} {N:Nat} {φ:Nat->LS} {fp:Nat->lN} {S:Nat->Prop} {ts:Env} {m:Mem} {a:Act} {w:World}
theorem RS.OT (h:RS B N φ fp S ts m a w) {l l':Nat} (hl:l<bG) (h0:aj B.m0 l'=none) (hfp:∀b,b∈fp l'->B.w0.heap.size<=b):
 RS B N (fun k=>φ (rl l l' k)) (fun k=>fp (rl l l' k)) S (HJ l l' ts) (xN l l' m) a w:=by
 have kn:∀k af,known m k af->known (xN l l' m) (rl l l' k) af:=by rintro k af ⟨b,h1,h2⟩;exact ⟨J0 l l' b,by rw [cW,jO,h1];rfl,by rw [nr];exact h2⟩
 have labs_in:∀(x:AV) k af,(k,af)∈ao (iR l l' x)->∃k0,k=rl l l' k0/\(k0,af)∈ao x:=by intro x k af hk;rw [jP] at hk;obtain ⟨⟨k0,v0⟩,h1,h2⟩:=q16.1 hk;simp only [Prod.mk.injEq] at h2;obtain ⟨rfl,rfl⟩:=h2;exact ⟨k0,rfl,h1⟩
 have hi:∀k af,bG<=k->known B.m0 k af->rl l l' k=k:=by rintro k af hk ⟨b,h1,_⟩;unfold rl;rw [if_neg (by omega),if_neg (fun e=>by subst e;rw [h0] at h1;cases h1)]
 refine {tm:=fun t=> ?_,tl:=fun t k af hk=> ?_,bU:=fun k hk=> ?_,aF:=fun k b hb=> ?_,bl:=fun k v xs hb k' af hk=> ?_,gK:=fun k=>h.gK _,e7:=fun k k' b h1 h2=>OQ (h.e7 _ _ b h1 h2),
         bJ:=fun k b hb=>h.bJ _ b hb,cw:=fun k b hb=> ?_,sB:=h.sB,base:=h.base,out:=h.out,ke:=h.ke,kn:=fun k af hk hv=> ?_,fix:=fun k af hk hv=> ?_,size:=h.size,defers:=h.defers,kv:=h.kv,jf:=h.jf}
 . rw [iS];exact (h.tm t).DR l l'
 . rw [iS] at hk;obtain ⟨k0,rfl,h1⟩:=labs_in _ k af hk;exact kn k0 af (h.tl t k0 af h1)
 . rw [cW] at hk;exact h.bU _ (by simpa using hk)
 . rw [cW] at hb;obtain ⟨b0,hb0,rfl⟩:=Option.map_eq_some_iff.1 hb;have hB:=h.aF _ b0 hb0;cases b0 with
   |gone v=>exact hB
   |row v sh d xs=>exact hB
   |jc v xs i u=>exact hB
   |sub v sh xs u=>exact hB
   |box v xs=>
    obtain ⟨b,cs,e,sh,h1,h2,h3,h4,h5,h6⟩:=hB;refine ⟨b,cs,e,sh,h1,h2,h3,q21 (Nat.le_of_eq (b7 l l' xs)) h4,fun i hi=> ?_,fun i hi=> ?_⟩
    . have h':i<xs.length:=by rw [b7] at hi;exact hi
      rw [eZ l l' xs i h' hi];exact xM (h5 i h')
    have h':i<xs.length:=by rw [b7] at hi;exact hi
    rw [eZ l l' xs i h' hi];exact (h6 i h').DR l l'
 . rw [cW] at hb;obtain ⟨b0,hb0,e⟩:=Option.map_eq_some_iff.1 hb;cases b0 with
   |gone v=>cases e
   |row v sh d xs=>cases e
   |jc v xs i u=>cases e
   |sub v sh xs u=>cases e
   |box v0 xs0=>
    cases e;rw [mF] at hk;obtain ⟨⟨k0,v1⟩,h1,h2⟩:=q16.1 hk;simp only [Prod.mk.injEq] at h2;obtain ⟨rfl,rfl⟩:=h2;exact kn k0 v1 (h.bl _ _ _ hb0 k0 v1 h1)
 . have hb:=hb;unfold rl at hb;split at hb
   . refine ⟨(h.cw _ b hb).1,.inl (hfp b hb)⟩
   split at hb
   . refine ⟨(h.cw _ b hb).1,?_⟩;rcases (h.cw _ b hb).2 with hh|⟨_,_,hh,_⟩
     . exact .inl hh
     omega
   exact h.cw _ b hb
 . have:=kn k af (h.kn k af hk hv)
   rwa [hi k af hk hv] at this
 rw [hi k af hk hv];exact h.fix k af hk hv
theorem RS.back {N':Nat} {φ':Nat->LS} {fp':Nat->lN} {S':Nat->Prop} {ts':Env} {m':Mem} {a':Act} {w':World} (h:RS B N φ fp S ts m a w) (hi:∀l,aj m l≠none->bG<=l)
 (h':RS ⟨w,fun l b=>b∈fp l,S,φ,m⟩ N' φ' fp' S' ts' m' a' w'):RS B N φ' fp' (fun b=>S b\/(S' b/\w.heap.size<=b)) ts m' a w':=by
 have hkn:∀l af,known m l af->bG<=l:=fun l af ⟨k,h1,_⟩=>hi l (by rw [h1];exact fun e=>by cases e);have hS:∀b,S b->w'.heap[b]? =w.heap[b]? :=fun b hb=>h'.base b (h.sB b hb).1 fun l hl=>h.bJ l b hl hb;have hz:fH φ w w':=fun l b sh af cs e _ hb=>h'.ke b cs e hb;have hST:∀b,S' b->S b\/(S' b/\w.heap.size<=b):=fun b hb=>by
  rcases (h'.sB b hb).2 with hh|hh
  . exact .inr ⟨hb,hh⟩
  exact .inl hh
 refine {tm:=fun t=>(h.tm t).mono hS (fun b hb=>.inl hb) hz fun l af hl=>h'.fix l af (hkn l af (h.tl t l af hl)) (h.tl t l af hl),
         tl:=fun t l af hl=>h'.kn l af (hkn l af (h.tl t l af hl)) (h.tl t l af hl),bU:=h'.bU,
         aF:=fun l k hk=>(h'.aF l k hk).mono (fun _ _=>rfl) hST (fun l b sh af cs e _ hb=>⟨cs,e,hb,rfl⟩) (fun _ _=>rfl) rfl (fun _ _ _ _ _ _=>LS.le_refl _ _),
         bl:=h'.bl,gK:=h'.gK,e7:=h'.e7,bJ:=fun l b hb=> ?_,cw:=fun l b hb=> ?_,sB:=fun b hb=> ?_,base:=fun b hb hio=> ?_,out:=h.out.trans h'.out,ke:=h.ke.trans h'.ke,
         kn:=fun l af hl hk=>h'.kn l af hl (h.kn l af hl hk),fix:=fun l af hl hk=>LS.le_trans (h'.fix l af hl (h.kn l af hl hk)) (h.fix l af hl hk),size:=q21 h.size h'.size,defers:=h.defers,kv:=h.kv,jf:=h.jf.mono hS fun b hb=>.inl hb}
 . rintro (hs|hs)
   . rcases (h'.cw l b hb).2 with hh|⟨l0,hh,_⟩
     . exact absurd (h.sB b hs).1 (Nat.not_lt.2 hh)
     exact h.bJ l0 b hh hs
   exact h'.bJ l b hb hs.1
 . refine ⟨(h'.cw l b hb).1,?_⟩;rcases (h'.cw l b hb).2 with hh|⟨l0,hh,hl,h3⟩
   . exact .inl (q21 h.size hh)
   rcases (h.cw l0 b hh).2 with h4|⟨l1,h4,h5,h6⟩
   . exact .inl h4
   refine .inr ⟨l1,h4,hl,?_⟩;rcases h3 with h3|h3
   . rw [h3] at h6;exact h6
   refine .inr ?_;cases he:aj B.m0 l with
   |none=>rfl
   |some k=>
    obtain ⟨k2,h7,_⟩:=h.kn l k.af hl ⟨k,he,q20 _⟩;have h3':aj m l=none:=h3;rw [h3'] at h7;cases h7
 . rcases hb with hs|hs
   . exact ⟨q22 (h.sB b hs).1 h'.size,(h.sB b hs).2⟩
   exact ⟨(h'.sB b hs.1).1,.inl (q21 h.size hs.2)⟩
 refine (h'.base b (q22 hb h.size) fun l hl=> ?_).trans (h.base b hb hio);rcases (h.cw l b hl).2 with hh|⟨l1,hh,_⟩
 . exact absurd hb (Nat.not_lt.2 hh)
 exact hio l1 hh
end
def OU (P:Program) (rs:List ResultVar) (k:AV->Mem->Prop):dh
 | .normal=>fun ts m=>aQ P (fun xs=>k (bM xs) m) rs ts m []
 | .ret=>fun ts m=>aQ P (fun xs=>k (bM xs) m) rs ts m []
 |_=>fun _ _=>False
theorem Fc (P:Program) (rs:List ResultVar) (k:AV->Mem->Prop) (ts:Env) (m:Mem):OU P rs k .normal ts m=aQ P (fun xs=>k (bM xs) m) rs ts m []:=rfl
theorem OV (P:Program) (rs:List ResultVar) (k:AV->Mem->Prop) (ts:Env) (m:Mem):OU P rs k .ret ts m=aQ P (fun xs=>k (bM xs) m) rs ts m []:=rfl
def qj:Mem->Prop
 | []=>True
 |(l,_)::r=>bG<=l/\qj r
theorem Lr:qj []=True:=rfl
theorem HK (l:Nat) (b:bh) (r:Mem):qj ((l,b)::r)=(1000000000<=l/\qj r):=rfl
theorem pD:∀{m:Mem},qj m->∀l,aj m l≠none->bG<=l
 | [],_,l,h=>absurd rfl h
 |(k,b)::r,⟨h1,h2⟩,l,h=>by
  rw [aw] at h;split at h
  . rename_i e;subst e;exact h1
  exact pD h2 l h
def kO:List (Nat × Nat)->Mem->Mem
 | [],m=>m
 |(l,l')::r,m=>kO r (xN l l' m)
def pV:List (Nat × Nat)->AV->AV
 | [],x=>x
 |(l,l')::r,x=>pV r (iR l l' x)
def mG (ρ:List (Nat × Nat)) (xs:lA):lA:=xs.map (pV ρ)
def rY:List (Nat × Nat)->Mem->Mem
 | [],m=>m
 |(l,l')::r,m=>xN l l' (rY r m)
def rZ:List (Nat × Nat)->AV->AV
 | [],x=>x
 |(l,l')::r,x=>iR l l' (rZ r x)
def hasB (b:Option bh):Prop:=b≠none
theorem Ls (b:bh):hasB (some b)=True:=by simp [hasB]
def J1 (b:Option bh):Prop:=b=none
theorem HL:J1 none=True:=by simp [J1]
def oQ:List (Nat × Nat)->Mem->Prop
 | [],_=>True
 |(l,l')::r,m=>((l<bG/\bG<=l')/\hasB (aj m l)/\J1 (aj m l'))/\oQ r (xN l l' m)
theorem OW (m:Mem):kO [] m=m:=rfl
theorem Lt (l l':Nat) (r:List (Nat × Nat)) (m:Mem):kO ((l,l')::r) m=kO r (xN l l' m):=rfl
theorem OX (x:AV):pV [] x=x:=rfl
theorem Lu (l l':Nat) (r:List (Nat × Nat)) (x:AV):pV ((l,l')::r) x=pV r (iR l l' x):=rfl
theorem OY (ρ:List (Nat × Nat)):mG ρ []=[]:=rfl
theorem Lv (ρ:List (Nat × Nat)) (x:AV) (r:lA):mG ρ (x::r)=pV ρ x::mG ρ r:=rfl
theorem Lw (m:Mem):rY [] m=m:=rfl
theorem HM (l l':Nat) (r:List (Nat × Nat)) (m:Mem):rY ((l,l')::r) m=xN l l' (rY r m):=rfl
theorem Lx (x:AV):rZ [] x=x:=rfl
theorem HN (l l':Nat) (r:List (Nat × Nat)) (x:AV):rZ ((l,l')::r) x=iR l l' (rZ r x):=rfl
theorem Ly (m:Mem):oQ [] m=True:=rfl
theorem HO (l l':Nat) (r:List (Nat × Nat)) (m:Mem):oQ ((l,l')::r) m=(((l<1000000000/\1000000000<=l')/\hasB (aj m l)/\J1 (aj m l'))/\oQ r (xN l l' m)):=rfl
def sa:List (Nat × Nat)->Prop
 | []=>True
 |(l,l')::r=>(l<bG/\l'<bG)/\sa r
theorem Lz:sa []=True:=rfl
theorem HP (l l':Nat) (r:List (Nat × Nat)):sa ((l,l')::r)=((l<1000000000/\l'<1000000000)/\sa r):=rfl
def WH:lN->Nat->Bool
 | [],_=>false
 |d::D,l=>l==d||WH D l
theorem SJ (l:Nat):WH [] l=false:=rfl
theorem OZ (d:Nat) (D:lN) (l:Nat):WH (d::D) l=(l==d||WH D l):=rfl
def eX (J:Nat):lN->Mem->List (Nat × Nat)
 |_,[]=>[]
 |E,(l,_)::r=>if (decide (l<1000000000)&& !WH E l)=true then (l,l+J)::eX J (l::E) r else eX J E r
theorem O0 (J:Nat) (E:lN):eX J E []=[]:=rfl
theorem LB (J:Nat) (E:lN) (l:Nat) (b:bh) (r:Mem):eX J E ((l,b)::r)=if (decide (l<1000000000)&& !WH E l)=true then (l,l+J)::eX J (l::E) r else eX J E r:=rfl
mutual
theorem CN (l l':Nat):∀x:AV,iR l l' (iR l l' x)=x
 | .ref k v i n=>by simp [iR,jO]
 | .ptr k v i j=>by simp [iR,jO]
 | .agg xs=>by rw [pA,pA,vW l l' xs]
 | .aZ xs=>by rw [pB,pB,vW l l' xs]
 | .cy f xs=>by rw [pC,pC,vW l l' xs]
 | .undef=>by simp [iR]
 | .val v=>by simp [iR]
 | .e0=>by simp [iR]
 | .arr sh xs=>by simp [iR]
 | .bu sh xs i j=>by simp [iR]
theorem vW (l l':Nat):∀xs:lA,qi l l' (qi l l' xs)=xs
 | []=>by simp [qi]
 |x::r=>by rw [oP,oP,CN l l' x,vW l l' r]
end
section
variable {P:Program} {B:eO} {N:Nat} {φ:Nat->LS} {fp:Nat->lN} {S:Nat->Prop} {ts:Env} {m:Mem} {a:Act} {w:World}
theorem xO {m:Mem} {acc:lA} {x:AV} (h:∀i (h:i<acc.reverse.length) l af,(l,af)∈ao acc.reverse[i]->known m l af) (hx:∀l af,(l,af)∈ao x->known m l af):
 ∀i (h:i<(x::acc).reverse.length) l af,(l,af)∈ao (x::acc).reverse[i]->known m l af:=by
 intro i hi l af hl;simp only [List.reverse_cons] at hi hl;rw [List.getElem_append] at hl;split at hl
 . exact h i _ l af hl
 simp at hl;exact hx l af hl
theorem cR (h:RS B N φ fp S ts m a w) {Q:lA->Prop}:∀(rs:List ResultVar) (acc:lA) (va:List Value),pq (RV w S φ) acc.reverse va->(∀i (h:i<acc.reverse.length) l af,(l,af)∈ao acc.reverse[i]->known m l af)->aQ P Q rs ts m acc→
 ∃xs vs,Q xs/\(rs.mapM (da a.tmps)).run P w= .ok vs w/\pq (RV w S φ) xs (va++vs)/\∀i (h:i<xs.length) l af,(l,af)∈ao xs[i]->known m l af
 | [],acc,va,ha,hl,hk=>⟨_,[],hk,by simp,by simpa using ha,hl⟩
 | .tmp t::r,acc,va,ha,hl,hk=>by
   obtain ⟨xs,vs,h1,h2,h3,h4⟩:=cR h r (look ts t::acc) (va++[a.tmps.getD t Go.undef]) (by rw [List.reverse_cons];exact ha.snoc (h.tm t)) (xO hl (fun l af hl'=>h.tl t l af hl')) hk;refine ⟨xs,a.tmps.getD t Go.undef::vs,h1,?_,by simpa using h3,h4⟩;rw [List.mapM_cons];simp only [da,Sem.run_bind,Sem.run_pure,Result.andThen_ok,h2]
 | .cell p t::r,acc,va,ha,hl,hk=>by obtain ⟨ti,ht,hk⟩:=bL hk;obtain ⟨ad,u,y,hv,hr,hy,hyl,hk⟩:=Bf ht h (h.tm p) hk;obtain ⟨xs,vs,h1,h2,h3,h4⟩:=cR h r (y::acc) (va++[u]) (by rw [List.reverse_cons];exact ha.snoc hy) (xO hl hyl) hk;refine ⟨xs,u::vs,h1,?_,by simpa using h3,h4⟩;rw [List.mapM_cons];simp only [da,hv,asAddr,Sem.run_bind,Sem.run_pure,Result.andThen_ok,hr,h2]
theorem mH {ys:lA} {vs:List Value} (hl:vs.length=ys.length) (hv:∀i (h:i<ys.length),RV w S φ ys[i] (vs.getD i Go.undef)):
 RV w S φ (bM ys) (if h:vs.toArray.size=1 then vs.toArray[0] else .tuple vs.toArray):=by
 match ys,vs,hl,hv with
 | [],[],_,_=>exact .rd _ _ (.aZ [] #[] rfl fun i hi=>absurd hi (q23 _))
 | [y],[v],_,hv=>simpa [bM] using hv 0 (by simp)
 |y::y'::r,v::v'::r',hl,hv=>
  have:¬((v::v'::r').toArray.size=1):=by simp
  rw [dif_neg this];exact .aZ _ _ (by simpa using hl) (by simpa using hv)
theorem HQ {ys:lA} (h:∀i (h:i<ys.length) l af,(l,af)∈ao ys[i]->known m l af):∀l af,(l,af)∈ao (bM ys)->known m l af:=by
 intro l af hl;match ys,h,hl with
 | [],_,hl=>simp [bM,ao,au] at hl
 | [y],h,hl=>exact h 0 (by simp) l af (by simpa [bM] using hl)
 |y::y'::r,h,hl=>
  rw [s4] at hl;simp only [ao] at hl;obtain ⟨i,hi,hl2⟩:=b8 hl;exact h i hi l af hl2
theorem RS.O1:∀(σ:List (Nat × Nat)) {φ:Nat->LS} {fp:Nat->lN} {ts:Env} {m:Mem},sa σ->RS B N φ fp S ts m a w->∃φ' fp' ts',RS B N φ' fp' S ts' (kO σ m) a w/\(∀x v,RV w S φ x v->RV w S φ' (pV σ x) v)∧
 (∀x,(∀l af,(l,af)∈ao x->known m l af)->∀l af,(l,af)∈ao (pV σ x)->known (kO σ m) l af)/\∀l,bG<=l->fp' l=fp l
 | [],φ,fp,ts,m,_,h=>⟨φ,fp,ts,h,fun _ _ h=>h,fun _ h=>h,fun _ _=>rfl⟩
 |(l,l')::r,φ,fp,ts,m,⟨⟨h1,h2⟩,h3⟩,h=>by
  obtain ⟨φ',fp',ts',g1,g2,g3,g4⟩:=RS.O1 r h3 (h.DR h1 h2);refine ⟨φ',fp',ts',g1,fun x v hx=>g2 _ _ (hx.DR l l'),fun x hx=>g3 _ fun k af hk=> ?_,fun k hk=> ?_⟩
  . rw [jP] at hk;obtain ⟨⟨k0,v0⟩,q1,q2⟩:=q16.1 hk;simp only [Prod.mk.injEq] at q2;obtain ⟨rfl,rfl⟩:=q2;obtain ⟨b0,q3,q4⟩:=hx k0 v0 q1;exact ⟨J0 l l' b0,by rw [cW,jO,q3];rfl,by rw [nr];exact q4⟩
  rw [g4 k hk];rw [JW h1 h2 hk]
theorem s7 (J:Nat) {f:FuncId} {fn:Func} {c:Code} (hf:P.funcs[f]? =some fn) (hb:fn.body=some c) (hok:codeOk fn.ntmps c=true):
 ∀(ρ:List (Nat × Nat)) {φ:Nat->LS} {fp:Nat->lN} {ts:Env} {m:Mem} {xs:lA} {vs:aV} {k:AV->Mem->Prop},RS B N φ fp S ts m a w->oQ ρ m->qj (kO ρ m)->xs.length<=fn.ntmps→
  vs.size=xs.length->(∀i (h:i<xs.length),RV w S φ xs[i] (vs.toList.getD i Go.undef))->(∀i (h:i<xs.length) l af,(l,af)∈ao xs[i]->known m l af)→
  vc P fn.ntmps c (bN 0 (mG ρ xs)) (kO ρ m) (OU P fn.results.toList fun x m'=>sa (eX J [] m')/\k (rZ ρ (pV (eX J [] m') x)) (rY ρ (kO (eX J [] m') m')))→
  Calls P f vs w fun e w'=>∃v,e= .returned v/\∃φ' fp' S' m' x,RS B N φ' fp' S' ts m' a w'/\RV w' S' φ' x v/\(∀l af,(l,af)∈ao x->known m' l af)/\k x m'∧
   ∀l,aj m l≠none->bG<=l->∀b,b∈fp' l->w.heap.size<=b\/b∈fp l
 | [],φ,fp,ts,m,xs,vs,k,h,_,hhi,ha,hsz,hx,hxl,hv=>by
   have hhi:=pD hhi;simp only [kO,mG] at hhi hv;rw [show xs.map (pV [])=xs from by rw [show pV []=id from rfl,List.map_id]] at hv;refine calls_of_wp hf hb ?_;have hRS:RS ⟨w,fun l b=>b∈fp l,S,φ,m⟩ fn.ntmps φ fp S (bN 0 xs) m {tmps:=vs++q5 (fn.ntmps-vs.size) undef,defers:=[]} w:=by
    refine {tm:=fun t=> ?_,tl:=fun t l af hl=> ?_,bU:=h.bU,aF:=h.aF,bl:=h.bl,gK:=h.gK,e7:=h.e7,bJ:=h.bJ,cw:=fun l b hb=>⟨(h.cw l b hb).1,.inr ⟨l,hb,?_,.inl rfl⟩⟩,
            sB:=fun b hb=>⟨(h.sB b hb).1,.inr hb⟩,base:=fun b hb _=>rfl,out:=a7.refl _,ke:=je.refl _,kn:=fun _ _ _ hk=>hk,fix:=fun _ _ _ _=>LS.le_refl _ _,size:=q20 _,defers:=rfl,kv:=by simp;omega,jf:=h.jf}
    . rw [bO];by_cases ht:t<xs.length
      . have h1:=hx t ht;have e1:vs.toList.getD t Go.undef=(vs++q5 (fn.ntmps-vs.size) undef).getD t Go.undef:=by
         have h2:t<vs.size:=by omega
         simp only [q0,q8,q3];rw [q1 h2]
        rw [←e1];simpa [ht] using h1
      have:(if 0<=t then (xs[t-0]?).getD AV.undef else .undef)= .undef:=by simp [q10 (show xs.length<=t by omega)]
      rw [this];exact .rd _ _ (.undef _)
    . rw [bO] at hl;by_cases ht:t<xs.length
      . exact hxl t ht l af (by simpa [ht] using hl)
      have:(if 0<=t then (xs[t-0]?).getD AV.undef else .undef)= .undef:=by simp [q10 (show xs.length<=t by omega)]
      rw [this] at hl;cases hl
    refine hhi l fun e=> ?_;rw [(h.bU l e).2] at hb;cases hb
   have fU:∀a' w',ie ⟨w,fun l b=>b∈fp l,S,φ,m⟩ fn.ntmps (fun ts m'=>aQ P (fun xs=>sa (eX J [] m')/\k (pV (eX J [] m') (bM xs)) (kO (eX J [] m') m')) fn.results.toList ts m' []) a' w'→
    a'.defers=[]/\∃v,(results fn a'.tmps).run P w'= .ok v w'/\∃v',Ending.returned v= .returned v'/\∃φ' fp' S' m' x,RS B N φ' fp' S' ts m' a w'/\RV w' S' φ' x v'/\(∀l af,(l,af)∈ao x->known m' l af)/\k x m'∧
     ∀l,aj m l≠none->bG<=l->∀b,b∈fp' l->w.heap.size<=b\/b∈fp l:=by
    rintro a' w' ⟨φ',fp',S',ts',m',h',hk⟩;refine ⟨h'.defers,?_⟩;obtain ⟨ys,us,⟨Y6,h1⟩,h2,h3,h4⟩:=cR h' fn.results.toList [] [] ⟨rfl,fun i hi=>absurd hi (q23 _)⟩ (fun i hi=>absurd hi (q23 _)) hk;obtain ⟨h3a,h3b⟩:=h3;simp only [q17] at h3a h3b;obtain ⟨φ2,fp2,ts2,r1,r2,r3,r4⟩:=RS.O1 (eX J [] m') Y6 h';have qv:=h.back hhi r1;have hST:∀b,S' b->S b\/(S' b/\w.heap.size<=b):=fun b hb=>by
     rcases (h'.sB b hb).2 with hh|hh
     . exact .inr ⟨hb,hh⟩
     exact .inl hh
    refine ⟨if h:us.toArray.size=1 then us.toArray[0] else .tuple us.toArray,?_,_,rfl,φ2,fp2,_,_,_,qv,?_,?_,h1,fun l hl hl2 b hb=> ?_⟩
    . have hm:results fn a'.tmps=(do let vs ←fn.results.mapM (da a'.tmps);pure (if h:vs.size=1 then vs[0] else .tuple vs)):=by
       unfold results;congr 1
      rw [hm,Sem.run_bind,q4];have:(q19 <$> fn.results.toList.mapM (da a'.tmps):Sem aV).run P w'= .ok us.toArray w':=by rw [map_eq_pure_bind,Sem.run_bind,h2];rfl
      rw [this];rfl
    . refine (r2 _ _ (mH h3a h3b)).mono (fun _ _=>rfl) hST (fun l b sh af cs e _ hb=>⟨cs,e,hb,rfl⟩) fun _ _ _=>LS.le_refl _ _
    . exact r3 _ (HQ h4)
    rw [r4 l hl2] at hb;rcases (h'.cw l b hb).2 with hh|⟨l0,hh,_,h5⟩
    . exact .inl hh
    rcases h5 with h5|h5
    . subst h5;exact .inr hh
    exact absurd h5 hl
   refine wp_mono (cI c _ _ _ hok hv _ _ _ _ _ _ hRS) ?_;intro e a' w' hq;cases e with
   |normal=>exact fU a' w' hq
   |ret=>exact fU a' w' hq
   |_=>obtain ⟨_,_,_,_,_,_,hh⟩:=hq;exact hh.elim
 |(l,l')::r,φ,fp,ts,m,xs,vs,k,h,⟨⟨⟨hl,hio⟩,hh,hl'⟩,rk⟩,hhi,ha,hsz,hx,hxl,hv=>by
  have hm0:aj B.m0 l'=none:=by
   cases he:aj B.m0 l' with
   |none=>rfl
   |some k0=>
    obtain ⟨k2,h7,_⟩:=h.kn l' k0.af hio ⟨k0,he,q20 _⟩;rw [show aj m l'=none from hl'] at h7;cases h7
  have Wu:fp l'=[]:=(h.bU l' hl').2;have h1:=h.OT hl hm0 (fun b hb=>by rw [Wu] at hb;cases hb);have hne:l≠l':=by unfold bG at*;omega
  have e1:rl l l' l=l':=by simp [rl]
  have e2:rl l l' l'=l:=by unfold rl;rw [if_neg (Ne.symm hne),if_pos rfl]
  have hlk:∀x,aj (xN l l' m) x≠none↔aj m (rl l l' x)≠none:=fun x=>by rw [cW];cases aj m (rl l l' x)<;>simp
  have hlen:(qi l l' xs).length=xs.length:=b7 l l' xs;have:=s7 J hf hb hok r (k:=fun x m'=>k (iR l l' x) (xN l l' m')) (xs:=qi l l' xs) (vs:=vs) h1 rk hhi (by rw [hlen];exact ha) (by rw [hlen];exact hsz) (fun i hi=> ?_) (fun i hi l0 af hl0=> ?_) ?_
  . refine this.mono ?_;rintro e w' ⟨v,rfl,φ',fp',S',m',x,g1,g2,g3,g4,g5⟩;have hb5:∀b,b∈fp' l'->B.w0.heap.size<=b:=by
     intro b hb';rcases g5 l' ((hlk l').2 (by rw [e2];exact hh)) hio b hb' with h5|h5
     . exact q21 h.size h5
     have h5:b∈fp (rl l l' l'):=h5;rw [e2] at h5;rcases (h.cw l b h5).2 with h6|⟨_,_,h6,_⟩
     . exact h6
     exact absurd hl (Nat.not_lt.2 h6)
    have g6:=g1.OT hl hm0 hb5;refine ⟨v,rfl,fun k=>φ' (rl l l' k),fun k=>fp' (rl l l' k),S',xN l l' m',iR l l' x,?_,g2.DR l l',fun l0 af hl0=> ?_,g4,fun l0 h0 h2 b hb'=> ?_⟩
    . have ets:∀t,look (HJ l l' (HJ l l' ts)) t=look ts t:=fun t=>by rw [iS,iS,CN]
      exact {g6 with tm:=fun t=>by rw [←ets];exact g6.tm t,tl:=fun t l af hl=>g6.tl t l af (by rw [ets];exact hl)}
    . rw [jP] at hl0;obtain ⟨⟨k0,v0⟩,q1,q2⟩:=q16.1 hl0;simp only [Prod.mk.injEq] at q2;obtain ⟨rfl,rfl⟩:=q2;obtain ⟨b0,q3,q4⟩:=g3 k0 v0 q1;exact ⟨J0 l l' b0,by rw [cW,jO,q3];rfl,by rw [nr];exact q4⟩
    have n1:l0≠l:=fun e=>by subst e;exact absurd hl (Nat.not_lt.2 h2)
    have n2:l0≠l':=fun e=>by subst e;exact h0 hl'
    have e3:rl l l' l0=l0:=by unfold rl;rw [if_neg n1,if_neg n2]
    have hb':b∈fp' (rl l l' l0):=hb';rw [e3] at hb';have:=g5 l0 ((hlk l0).2 (by rw [e3];exact h0)) h2 b hb';rcases this with h5|h5
    . exact .inl h5
    have h5:b∈fp (rl l l' l0):=h5;rw [e3] at h5;exact .inr h5
  . have h':i<xs.length:=by rw [hlen] at hi;exact hi
    rw [eZ l l' xs i h' hi];exact (hx i h').DR l l'
  . have h':i<xs.length:=by rw [hlen] at hi;exact hi
    rw [eZ l l' xs i h' hi,jP] at hl0;obtain ⟨⟨k0,v0⟩,q1,q2⟩:=q16.1 hl0;simp only [Prod.mk.injEq] at q2;obtain ⟨rfl,rfl⟩:=q2;obtain ⟨b0,q3,q4⟩:=hxl i h' k0 v0 q1;exact ⟨J0 l l' b0,by rw [cW,jO,q3];rfl,by rw [nr];exact q4⟩
  have:mG r (qi l l' xs)=mG ((l,l')::r) xs:=by refine List.ext_getElem (by simp [mG,hlen]) fun i h1 h2=> ?_;simp only [mG,List.getElem_map];rw [eZ l l' xs i (by simpa [mG] using h2)];rfl
  rw [this];exact hv
theorem cn {f:FuncId} {d:Nat} {xs xt:lA} {m:Mem} {k:AV->Mem->Prop} {q:Pack k} {fn:Func} {c:Code} (J:Nat) (N:Nat) (rs:List ResultVar) (hf:P.funcs[f]? =some fn) (hN:fn.ntmps=N) (hr:fn.results.toList=rs)
 (hn:(fn.name== "runtime.NumGoroutine")=false) (hb:fn.body=some c) (hok:codeOk N c=true) (ha:xs.length≤N)
 (hv:(oQ (eX 1500000000 [] m) m/\qj (kO (eX 1500000000 [] m) m))/\vc P N c (bN 0 (mG (eX 1500000000 [] m) xs)) (kO (eX 1500000000 [] m) m)
   (OU P rs fun x m'=>sa (eX J [] m')/\k (rZ (eX 1500000000 [] m) (pV (eX J [] m') x)) (rY (eX 1500000000 [] m) (kO (eX J [] m') m')))):eQ P f d xs xt m k q:=by
 subst hN;subst hr;refine .inl fun B N φ fp S ts a w vs hRS hsz hx hxl=>⟨⟨fn,c,hf,hn,hb⟩,?_⟩;refine (s7 J hf hb hok _ hRS hv.1.1 hv.1.2 ha hsz hx hxl hv.2).mono ?_;rintro e w' ⟨v,rfl,φ',fp',S',m',x,g1,g2,g3,g4,_⟩;exact ⟨v,rfl,φ',fp',S',ts,m',x,g1,g2,g3,rfl,g4⟩
end
def D1 {α:Type} (G:(α->Prop)->Prop):Prop:=∀k,G k->∃x,k x/\∀k',k' x->G k'
theorem D1.pure {α:Type} (x:α):D1 fun k=>k x:=fun _ h=>⟨x,h,fun _ h=>h⟩
theorem D1.no {α:Type}:D1 fun _:α->Prop=>False:=fun _ h=>h.elim
theorem D1.and {α:Type} {G:(α->Prop)->Prop} (p:Prop) (h:D1 G):D1 fun k=>p/\G k:=fun k hk=>
 have ⟨x,h1,h2⟩:=h k hk.2
 ⟨x,h1,fun k' hk'=>⟨hk.1,h2 k' hk'⟩⟩
theorem D1.bind {α β:Type} {G:(α->Prop)->Prop} {H:α->(β->Prop)->Prop} (h:D1 G) (h':∀x,D1 (H x)):D1 fun k=>G fun x=>H x k:=fun k hk=>
 have ⟨x,h1,h2⟩:=h _ hk;have ⟨y,g1,g2⟩:=h' x k h1
 ⟨y,g1,fun k' hk'=>h2 _ (g2 k' hk')⟩
theorem D1.opt (o:Option AV):D1 (ki o):=by
 cases o with
 |none=>exact D1.no
 |some x=>exact D1.pure x
theorem D1.Yl (o:Option (Nat × Nat × Bool)):D1 (vy o):=by
 cases o with
 |none=>exact D1.no
 |some x=>exact D1.pure x
theorem D1.ti (o:Option TI):D1 (ew o):=by
 cases o with
 |none=>exact D1.no
 |some x=>exact D1.pure x
theorem D1.ifs {α:Type} (c:Bool) (x y:α):D1 fun k:α->Prop=>(c=true->k x)/\(c=false->k y):=by
 intro k hk;cases c with
 |true=>exact ⟨x,hk.1 rfl,fun k' hk'=>⟨fun _=>hk',fun h=>(by cases h)⟩⟩
 |false=>exact ⟨y,hk.2 rfl,fun k' hk'=>⟨fun h=>(by cases h),fun _=>hk'⟩⟩
theorem D1.pick (c a b:AV):D1 (p6 c a b):=by
 unfold p6;split
 . exact D1.ifs _ _ _
 exact D1.no
theorem D1.wrap (i:IntKind) (n:Int):D1 (jg i n):=by
 unfold jg;split
 . exact D1.and _ (D1.pure _)
 exact D1.pure _
theorem D1.fx (op:BinOp) (i:IntKind) (x y:Int):D1 (fx op i x y):=by
 unfold Go.Vc.fx
 split<;>first
  |exact D1.wrap _ _
  |exact D1.pure _
  |exact D1.and _ (D1.wrap _ _)
  |exact D1.and _ (D1.pure _)
  |exact D1.no
theorem D1.l6 (op:BinOp) (x y:ByteArray):D1 (l6 op x y):=by
 unfold Go.Vc.l6
 split<;>first
  |exact D1.pure _
  |exact D1.and _ (D1.pure _)
  |exact D1.no
theorem D1.bin (op:BinOp) (kd:TK) (a b:AV):D1 (lx op kd a b):=by
 unfold lx;split
 . exact D1.and _ (D1.fx _ _ _ _)
 . exact D1.l6 _ _ _
 . split<;>first|exact D1.pure _|exact D1.no
 exact D1.no
theorem D1.not (a:AV):D1 (zn a):=by unfold zn;split<;>first|exact D1.pure _|exact D1.no
theorem D1.neg (a:AV):D1 (Cs a):=by unfold Cs;split<;>first|exact D1.wrap _ _|exact D1.no
theorem D1.conv (d:TK) (a:AV):D1 (ub d a):=by unfold ub;split<;>first|exact D1.wrap _ _|exact D1.pure _|exact D1.no
theorem D1.max (a b:AV):D1 (zo a b):=by unfold zo;split<;>first|exact D1.pure _|exact D1.no
theorem D1.min (a b:AV):D1 (mV a b):=by unfold mV;split<;>first|exact D1.pure _|exact D1.no
theorem D1.aZ (i:Nat) (a:AV):D1 (zp i a):=by unfold zp;split<;>first|exact D1.opt _|exact D1.no
theorem D1.part (ag:Bool) (n j:Nat) (x:AV):D1 (dm ag n j x):=by unfold dm;split<;>first|exact D1.opt _|exact D1.and _ (D1.pure _)|exact D1.no
theorem D1.WV (ag:Bool) (n j:Nat) (x:AV):D1 (qz ag n j x):=by unfold qz;split<;>first|exact D1.part _ _ _ _|exact D1.no
theorem D1.index (x i:AV):D1 (mY x i):=by unfold mY;split<;>first|exact D1.and _ (D1.pure _)|exact D1.no
theorem D1.cells (x:AV):D1 (eP x):=by unfold eP;split<;>first|exact D1.pure _|exact D1.no
theorem D1.fill (fs:List (Nat × Nat × Bool)):∀(ps:List (Nat × AV)) (cells:lA),D1 fun k=>mu fs cells k ps
 | [],cells=>D1.pure cells
 |(i,x)::r,cells=>D1.bind (H:=fun (fd:Nat × Nat × Bool) k=>eP x fun ys=>ys.length=fd.2.1/\fd.1+ys.length<=cells.length/\mu fs (jl cells fd.1 ys) k r) (D1.Yl _) fun fd=>
    D1.bind (H:=fun (ys:lA) k=>ys.length=fd.2.1/\fd.1+ys.length<=cells.length/\mu fs (jl cells fd.1 ys) k r) (D1.cells x) fun ys=>D1.and _ (D1.and _ (D1.fill fs r _))
theorem D1.build (ti:TI) (ps:List (Nat × AV)):D1 (qy ti ps):=
 D1.bind (H:=fun (zs:lA) k=>mu ti.fields zs (fun cs=>k (AV.agg cs)) ps) (D1.cells _) fun zs=>D1.bind (G:=fun k=>mu ti.fields zs k ps) (H:=fun (cs:lA) k=>k (AV.agg cs)) (D1.fill _ _ _) fun cs=>D1.pure (AV.agg cs)
theorem D1.Ul (sh:Sh):∀(ps:List (Nat × AV)) (xs:lA),D1 fun k=>nd sh xs k ps
 | [],xs=>D1.pure xs
 |(i,x)::r,xs=>D1.and _ (D1.and _ (D1.and _ (D1.Ul sh r _)))
theorem D1.live (v:Nat) (b:Option bh) (x:AV):D1 fun k:AV->Prop=>gh v b (k x):=by unfold gh;split<;>first|exact D1.and _ (D1.pure _)|exact D1.no
theorem D1.nil (m:Mem) (x:AV):D1 (rM m x):=by unfold rM;split<;>first|exact D1.live _ _ _|exact D1.pure _|exact D1.no
theorem D1.field (j:Nat) (m:Mem) (x:AV):D1 (ic j m x):=by unfold ic;split<;>first|exact D1.live _ _ _|exact D1.pure _|exact D1.no
theorem D1.len (kd:TK) (m:Mem) (x:AV):D1 (mX kd m x):=by unfold mX;split<;>first|exact D1.live _ _ _|exact D1.pure _|exact D1.no
theorem D1.ZE {α:Type} (sh:Sh) (v:Nat) (b:Option bh) {G:(α->Prop)->Prop} (h:D1 G):D1 fun k=>CC sh v b (G k):=by unfold CC;split<;>first|exact D1.and _ (D1.and _ h)|exact D1.no
theorem D1.WI (x:Option AV) (d:Int):D1 (mo x d):=by unfold mo;split<;>first|exact D1.pure _|exact D1.no
theorem D1.Ym (sh:Sh) (l v i0 n:Nat) (i:Int) (b:Option bh):D1 (qc sh l v i0 n i b):=by unfold qc;split<;>first|exact D1.and _ (D1.and _ (D1.and _ (D1.pure _)))|exact D1.and _ (D1.and _ (D1.and _ (D1.and _ (D1.pure _))))|exact D1.no
theorem D1.idx (sh:Sh) (m:Mem) (x i:AV):D1 (oI sh m x i):=by unfold oI;split<;>first|exact D1.and _ (D1.and _ (D1.pure _))|exact D1.Ym _ _ _ _ _ _ _|exact D1.no
theorem D1.slice (sh:Sh) (x:AV) (lo hi:Option AV) (m:Mem):D1 (fQ sh x lo hi m):=by
 unfold fQ;split
 . exact D1.bind (D1.WI _ _) fun l=>D1.bind (D1.WI _ _) fun h=>D1.and _ (D1.pure _)
 . exact D1.bind (D1.WI _ _) fun l=>D1.bind (D1.WI _ _) fun h=>D1.and _ (D1.and _ (D1.pure _))
 . exact D1.ZE _ _ _ (D1.bind (D1.WI _ _) fun l=>D1.bind (D1.WI _ _) fun h=>D1.and _ (D1.pure _))
 exact D1.no
theorem D1.Vz (m:Mem) (x:AV):D1 (jB m x):=by unfold jB;split<;>first|exact D1.pure _|exact D1.live _ _ _|exact D1.and _ (D1.pure _)
theorem D1.O2:∀(xs:lA) (acc:lU),D1 fun k=>jD k acc xs
 | [],_=>D1.pure _
 |x::r,acc=>by
  cases x<;>try exact D1.no
  rename_i v;cases v<;>try exact D1.no
  rename_i i z;cases i<;>try exact D1.no
  exact D1.and _ (D1.O2 r _)
theorem D1.bytes (y:AV):D1 (oL y):=by unfold oL;split<;>first|exact D1.O2 _ _|exact D1.no
theorem D1.ZF (y:AV):D1 (EK y):=by unfold EK;split<;>first|exact D1.and _ (D1.pure _)|exact D1.no
theorem D1.xh {α:Type} (kd:TK) {G:(α->Prop)->Prop} (h:D1 G):D1 fun k=>Vc.xh kd (G k):=by unfold Vc.xh;split<;>first|exact h|exact D1.no
theorem D1.ZG (P:Program) (tt:TI) (x:AV) (lo hi:Option AV) (m:Mem):D1 (nh P tt x lo hi m):=by
 unfold nh;split
 . exact D1.and _ (D1.slice _ _ _ _ _)
 . exact D1.and _ (D1.bind (D1.ti _) fun ti=>D1.slice _ _ _ _ _)
 exact D1.no
theorem D1.WW (sh:Sh) (v i n:Nat) (b:Option bh):D1 (rF sh v i n b):=by unfold rF;split<;>first|exact D1.and _ (D1.and _ (D1.and _ (D1.pure _)))|exact D1.no
theorem D1.src (sh:Sh) (y:AV) (m:Mem):D1 (qx sh y m):=by unfold qx;split<;>first|exact D1.and _ (D1.pure _)|exact D1.WW _ _ _ _ _
def NL (x:AV) (l:Nat):Prop:=∃af,(l,af)∈ao x
theorem NL.ref (l v i n:Nat):NL (.ref l v i n) l:=⟨v,by simp [ao]⟩
theorem NL.ptr (l v i j:Nat):NL (.ptr l v i j) l:=⟨v,by simp [ao]⟩
def j4 (R:Nat->Prop) (m m':Mem):Prop:=∀l,R l->aj m' l=aj m l
theorem O3 {m m':Mem} {x:AV} (h:j4 (NL x) m m'):rM m' x=rM m x:=by funext k;unfold rM;split<;>first|rfl|exact congrArg (fun b=>gh _ b _) (h _ (NL.ptr _ _ _ _))
theorem HR {m m':Mem} {x:AV} (j:Nat) (h:j4 (NL x) m m'):ic j m' x=ic j m x:=by funext k;unfold ic;split<;>first|rfl|exact congrArg (fun b=>gh _ b _) (h _ (NL.ptr _ _ _ _))
theorem O4 {m m':Mem} {x:AV} (kd:TK) (h:j4 (NL x) m m'):mX kd m' x=mX kd m x:=by funext k;unfold mX;split<;>first|rfl|rw [h _ (NL.ref _ _ _ _)]
theorem O5 {m m':Mem} {x:AV} (sh:Sh) (i:AV) (h:j4 (NL x) m m'):oI sh m' x i=oI sh m x i:=by funext k;unfold oI;split<;>first|rfl|rw [h _ (NL.ref _ _ _ _)]
theorem HS {m m':Mem} {x:AV} (sh:Sh) (lo hi:Option AV) (h:j4 (NL x) m m'):fQ sh x lo hi m'=fQ sh x lo hi m:=by funext k;unfold fQ;split<;>first|rfl|rw [h _ (NL.ref _ _ _ _)]
theorem Fe {m m':Mem} {x:AV} (h:j4 (NL x) m m'):jB m' x=jB m x:=by funext k;unfold jB;split<;>first|rfl|rw [h _ (NL.ref _ _ _ _)]
theorem O6 {P:Program} {tt:TI} {m m':Mem} {x:AV} (lo hi:Option AV) (h:j4 (NL x) m m'):nh P tt x lo hi m'=nh P tt x lo hi m:=by funext k;unfold nh;simp only [HS _ _ _ h]
theorem O7 {m m':Mem} {x:AV} (sh:Sh) (h:j4 (NL x) m m'):qx sh x m'=qx sh x m:=by funext k;unfold qx;split<;>first|rfl|rw [h _ (NL.ref _ _ _ _)]
theorem qD {m m':Mem} {x:AV} (h:j4 (NL x) m m'):fB m' x=fB m x:=by funext k;unfold fB;split<;>first|rfl|rw [h _ (NL.ref _ _ _ _)]
theorem sb {m m':Mem} (k:lA->Prop):∀(xs acc:lA),(∀x,x∈xs->j4 (NL x) m m')->c6 m' k acc xs=c6 m k acc xs
 | [],acc,_=>rfl
 |x::r,acc,h=>by simp only [c6];rw [qD (h x (q15 ..))];congr 1;funext y;exact sb k r _ fun z hz=>h z (q14 _ hz)
theorem LC {m m':Mem} {x:AV} (h:j4 (NL x) m m'):iz m' x=iz m x:=by
 funext k;cases x with
 |agg xs=>
  simp only [iz];refine sb _ xs [] fun y hy l hl=>h l ?_;obtain ⟨af,hv⟩:=hl;obtain ⟨i,hi,rfl⟩:=q12 hy;exact ⟨af,by simp only [ao];exact bw hi hv⟩
 |ref l v i n=>simp only [iz];rw [qD h]
 |_=>rfl
theorem qE {m m':Mem} (k:lA->Prop):∀(xs acc:lA),(∀x,x∈xs->j4 (NL x) m m')->dH m' k acc xs=dH m k acc xs
 | [],acc,_=>rfl
 |x::r,acc,h=>by simp only [dH];rw [LC (h x (q15 ..))];congr 1;funext y;exact qE k r _ fun z hz=>h z (q14 _ hz)
theorem dI (a b:Mem) (l:Nat):aj (a++b) l=match aj a l with|some x=>some x|none=>aj b l:=by
 induction a with
 |nil=>rfl
 |cons p r ih=>
  obtain ⟨k,v⟩:=p;simp only [List.cons_append,aw];by_cases h:k=l
  . simp [h]
  simp [h,ih]
def DM {α:Type} (F:Mem->(α->Mem->Prop)->Prop) (R:Nat->Prop) (m:Mem):Prop:=
 ∀k,F m k->∃x new,k x (new++m)/\∀m',j4 R m m'->j4 (fun l=>aj new l≠none) m m'->∀k',k' x (new++m')->F m' k'
theorem DM.still {α:Type} {R:Nat->Prop} {m:Mem} {G:Mem->(α->Prop)->Prop} (h:D1 (G m)) (hl:∀m',j4 R m m'->G m'=G m):DM (fun m k=>G m fun v=>k v m) R m:=fun k hk=>
 have ⟨x,h1,h2⟩:=h _ hk
 ⟨x,[],h1,fun m' hm _ k' hk'=>by show G m' _;rw [hl m' hm];exact h2 _ hk'⟩
theorem DM.no {α:Type} (R:Nat->Prop) (m:Mem):DM (fun _ (_:α->Mem->Prop)=>False) R m:=fun _ h=>h.elim
theorem DM.and {α:Type} {F:Mem->(α->Mem->Prop)->Prop} {R:Nat->Prop} {m:Mem} (p:Prop) (h:DM F R m):DM (fun m k=>p/\F m k) R m:=fun k hk=>
 have ⟨x,new,h1,h2⟩:=h k hk.2
 ⟨x,new,h1,fun m' hm hm' k' hk'=>⟨hk.1,h2 m' hm hm' k' hk'⟩⟩
theorem DM.pre {α β:Type} {F:α->Mem->(β->Mem->Prop)->Prop} {G:Mem->(α->Prop)->Prop} {R:Nat->Prop} {m:Mem} (hg:D1 (G m)) (hl:∀m',j4 R m m'->G m'=G m) (h:∀x,DM (F x) R m):
 DM (fun m k=>G m fun x=>F x m k) R m:=fun k hk=>
 have ⟨x,h1,h2⟩:=hg _ hk;have ⟨y,new,g1,g2⟩:=h x k h1
 ⟨y,new,g1,fun m' hm hm' k' hk'=>by show G m' _;rw [hl m' hm];exact h2 _ (g2 m' hm hm' k' hk')⟩
theorem DM.Ff {α β:Type} {F:α->Mem->(β->Mem->Prop)->Prop} {G:(α->Prop)->Prop} {R:Nat->Prop} {m:Mem} (hg:D1 G) (h:∀x,DM (F x) R m):DM (fun m k=>G fun x=>F x m k) R m:=
 DM.pre (G:=fun _=>G) hg (fun _ _=>rfl) h
theorem DM.bind {α β:Type} {one:Mem->(α->Mem->Prop)->Prop} {rest:α->Mem->(β->Mem->Prop)->Prop} {R:Nat->Prop} {m:Mem} (h:DM one R m) (h':∀y new,DM (rest y) R (new++m)):
 DM (fun m k=>one m fun y m1=>rest y m1 k) R m:=fun k hk=>by
 obtain ⟨y,n1,h1,h2⟩:=h _ hk;obtain ⟨z,n2,g1,g2⟩:=h' y n1 k h1;refine ⟨z,n2++n1,by rw [List.append_assoc];exact g1,fun m' hm hm' k' hk'=>h2 m' hm (fun l hl=>hm' l ?_) _ (g2 (n1++m') (fun l hl=> ?_) (fun l hl=> ?_) k' (by rw [←List.append_assoc];exact hk'))⟩
 . show aj (n2++n1) l≠none;have hl:aj n1 l≠none:=hl;rw [dI];split<;>simp_all
 . rw [dI,dI,hm l hl]
 rw [dI,dI];have hl:aj n2 l≠none:=hl;cases hn:aj n1 l with
 |some x=>rfl
 |none=>exact hm' l (by show aj (n2++n1) l≠none;rw [dI];split<;>simp_all)
theorem DM.put {α:Type} {R:Nat->Prop} {m:Mem} {x:Mem->α} (l:Nat) (b:Mem->bh) (hx:∀m',aj m' l=aj m l->x m'=x m/\b m'=b m):DM (fun m k=>k (x m) ((l,b m)::m)) R m:=fun k hk=>
 ⟨x m,[(l,b m)],hk,fun m' _ hm' k' hk'=>by
   obtain ⟨h1,h2⟩:=hx m' (hm' l (by simp [aw]))
   rw [h1,h2];exact hk'⟩
theorem DM.ret {α:Type} {R:Nat->Prop} {m:Mem} (x:α):DM (fun m (k:α->Mem->Prop)=>k x m) R m:=fun k hk=>⟨x,[],hk,fun _ _ _ _ hk'=>hk'⟩
theorem gq {m m':Mem} {l:Nat} (h:aj m' l=aj m l):aB m' l=aB m l:=by simp [aB,h]
variable {R:Nat->Prop}
theorem DM.box (d:Nat) (y:AV) (m:Mem):DM (Cx d y) R m:=
 DM.Ff (F:=fun ys m k=>k (AV.ptr d (aB m d) 0 0) ((d,bh.box (aB m d) ys)::m)) (D1.cells y) fun ys=>DM.put (x:=fun m=>AV.ptr d (aB m d) 0 0) d (fun m=>bh.box (aB m d) ys) fun m' h=>by rw [gq h];exact ⟨rfl,rfl⟩
theorem DM.make (ti:TI) (d:Nat) (x y:AV) (m:Mem):DM (rE ti d x y) R m:=by
 unfold rE;split
 . exact DM.and _ (DM.and _ (DM.and _ (DM.put d _ fun m' h=>by rw [gq h];exact ⟨rfl,rfl⟩)))
 exact DM.no _ _
theorem DM.buildSlice (ti:TI) (d n:Nat) (ps:List (Nat × AV)) (m:Mem):DM (iy ti d n ps) R m:=
 DM.and _ (DM.Ff (G:=fun k=>nd ti.sh (List.replicate n ti.zero) k ps) (F:=fun xs m k=>k (AV.ref d (aB m d) 0 n) ((d,bh.row (aB m d) ti.sh (bo xs) xs)::m)) (D1.Ul _ _ _) fun xs=>
  DM.put (x:=fun m=>AV.ref d (aB m d) 0 n) d (fun m=>bh.row (aB m d) ti.sh (bo xs) xs) fun m' h=>by rw [gq h];exact ⟨rfl,rfl⟩)
theorem DM.load (ag:Bool) (n:Nat) (p:AV) (m:Mem):DM (ou ag n p) (NL p) m:=by
 intro k hk;unfold ou at hk;split at hk
 . rename_i l af i j;cases hb:aj m l with
   |none=>rw [hb] at hk;exact hk.elim
   |some b=>
    rw [hb] at hk;have hh:∀m',j4 (NL (.ptr l af i j)) m m'->aj m' l=some b:=fun m' hm=>(hm l (NL.ptr _ _ _ _)).trans hb;cases b with
    |gone v=>exact hk.elim
    |box v xs=>
     obtain ⟨h1,h2,hk⟩:=hk;have hd:D1 fun q:AV->Prop=>if ag then j+n<=xs.length/\q (.agg ((xs.drop j).take n)) else ki xs[j]? q:=by
      cases ag with
      |true=>exact D1.and _ (D1.pure _)
      |false=>exact D1.opt _
     obtain ⟨x,g1,g2⟩:=hd (fun y=>k y m) hk
     exact ⟨x,[],g1,fun m' hm _ k' hk'=>by
      show dV ag n l af i j (aj m' l) m' k';rw [hh m' hm]
      exact ⟨h1,h2,g2 (fun y=>k' y m') hk'⟩⟩
    |jc v xs i u=>exact hk.elim
    |sub v sh xs u=>
     obtain ⟨h1,hk⟩:=hk;obtain ⟨x,hx,g1⟩:=D1.opt _ _ hk;obtain ⟨y,hy,g2⟩:=D1.part _ _ _ _ _ hx.2;refine ⟨y,[],hy,fun m' hm _ k' hk'=> ?_⟩;show dV ag n l af i j (aj m' l) m' k';rw [hh m' hm];exact ⟨h1,g1 _ ⟨hx.1,g2 (fun y=>k' y m') hk'⟩⟩
    |row v sh deep xs=>
     obtain ⟨h1,hk⟩:=hk;obtain ⟨x,hx,g1⟩:=D1.opt _ _ hk;obtain ⟨y,hy,g2⟩:=D1.part _ _ _ _ _ hx;by_cases hu:deep=true/\cm x=false
     . unfold dE at hy;rw [if_pos hu] at hy;refine ⟨y,[(l,.row v sh false xs)],hy.2,fun m' hm _ k' hk'=> ?_⟩;show dV ag n l af i j (aj m' l) m' k';rw [hh m' hm];refine ⟨h1,g1 _ (g2 _ ?_)⟩;unfold dE;rw [if_pos hu];exact ⟨hy.1,hk'⟩
     unfold dE at hy;rw [if_neg hu] at hy;refine ⟨y,[],hy,fun m' hm _ k' hk'=> ?_⟩;show dV ag n l af i j (aj m' l) m' k';rw [hh m' hm];refine ⟨h1,g1 _ (g2 _ ?_)⟩;unfold dE;rw [if_neg hu];exact hk'
 . rename_i sh xs i j;obtain ⟨x,hx,g1⟩:=D1.opt _ _ hk;obtain ⟨y,hy,g2⟩:=D1.part _ _ _ _ _ hx;exact ⟨y,[],hy,fun m' _ _ k' hk'=>g1 _ (g2 (fun y=>k' y m') hk')⟩
 exact hk.elim
theorem D1.put (j:Nat) (x y:AV):D1 (zq j x y):=by unfold zq;split<;>first|exact D1.and _ (D1.pure _)|exact D1.no
theorem DM.store (n:Nat) (p y:AV) (m:Mem):DM (fun m k=>kI n p y m fun m'=>k AV.undef m') (NL p) m:=by
 intro k hk;unfold kI at hk;split at hk
 . rename_i l af i j;cases hb:aj m l with
   |none=>rw [hb] at hk;exact hk.elim
   |some b=>
    rw [hb] at hk;have hh:∀m',j4 (NL (.ptr l af i j)) m m'->aj m' l=some b:=fun m' hm=>(hm l (NL.ptr _ _ _ _)).trans hb;cases b with
    |gone v=>exact hk.elim
    |box v xs=>
     obtain ⟨h1,h2,hk⟩:=hk;obtain ⟨ys,g1,g2⟩:=D1.cells _ _ hk;refine ⟨.undef,[(l,.box v (jl xs j ys))],g1.2.2,fun m' hm _ k' hk'=> ?_⟩;show dG l af i j (aj m' l) y m' n _;rw [hh m' hm];exact ⟨h1,h2,g2 _ ⟨g1.1,g1.2.1,hk'⟩⟩
    |jc v xs i0 u0=>exact hk.elim
    |sub v sh xs u0=>
     obtain ⟨h1,h2,hk⟩:=hk;obtain ⟨x,hx,g1⟩:=D1.opt _ _ hk;obtain ⟨h3,h4,hx⟩:=hx;obtain ⟨x',hx',g2⟩:=D1.put _ _ _ _ hx;refine ⟨.undef,[(l,.sub v sh (xs.set i x') u0)],hx',fun m' hm _ k' hk'=> ?_⟩;show dG l af i j (aj m' l) y m' n _;rw [hh m' hm];exact ⟨h1,h2,g1 _ ⟨h3,h4,g2 _ hk'⟩⟩
    |row v sh deep xs=>
     obtain ⟨h1,h2,hk⟩:=hk;obtain ⟨x,hx,g1⟩:=D1.opt _ _ hk;obtain ⟨h3,h4,hx⟩:=hx;obtain ⟨x',hx',g2⟩:=D1.put _ _ _ _ hx;refine ⟨.undef,[(l,.row v sh deep (xs.set i x'))],hx',fun m' hm _ k' hk'=> ?_⟩;show dG l af i j (aj m' l) y m' n _;rw [hh m' hm];exact ⟨h1,h2,g1 _ ⟨h3,h4,g2 _ hk'⟩⟩
 exact hk.elim
theorem DM.Yn (ti:TI) (d:Nat) (x:AV) (ys:lA) (m:Mem):DM (oB ti d x ys) (NL x) m:=by
 unfold oB;split
 . rename_i l v i n;intro k hk;cases hb:aj m l with
   |none=>simp only [hb] at hk;exact hk.elim
   |some b=>
    simp only [hb] at hk;cases b with
    |row v' sh deep xs=>
     obtain ⟨h1,h2,h3,h4,h5,hk⟩:=hk;refine ⟨.ref l (v+1) 0 (n+ys.length),[(l,.row (v+1) ti.sh deep (xs.take n++ys))],hk,fun m' hm _ k' hk'=> ?_⟩;show uB ti l v i n (aj m' l) ys m' k';rw [(hm l (NL.ref _ _ _ _)).trans hb];exact ⟨h1,h2,h3,h4,h5,hk'⟩
    |_=>exact hk.elim
 exact DM.and _ (DM.and _ (DM.put d _ fun m' h=>by rw [gq h];exact ⟨rfl,rfl⟩))
theorem DM.mono {α:Type} {F:Mem->(α->Mem->Prop)->Prop} {R R':Nat->Prop} {m:Mem} (h:DM F R m) (hr:∀l,R l->R' l):DM F R' m:=fun k hk=>
 have ⟨x,new,h1,h2⟩:=h k hk
 ⟨x,new,h1,fun m' hm hm' k' hk'=>h2 m' (fun l hl=>hm l (hr l hl)) hm' k' hk'⟩
theorem DM.app (ti:TI) (d:Nat) (x y:AV) (m:Mem):DM (vB ti d x y) (fun l=>NL x l\/NL y l) m:=
 DM.and _ (DM.and _ (DM.and _ (DM.pre (G:=qx ti.sh y) (F:=fun ys m k=>bo ys=true/\oB ti d x ys m k) (D1.src _ _ _) (fun m' hm=>O7 _ fun l hl=>hm l (.inr hl)) fun ys=>
  DM.and _ ((DM.Yn ti d x ys m).mono fun l hl=>.inl hl))))
theorem DM.WX (l:Nat) (x:AV) (m:Mem):DM (nV l x) (fun _=>False) m:=by
 unfold nV;split
 . exact DM.put l _ fun m' h=>by rw [gq h];exact ⟨rfl,rfl⟩
 exact DM.ret _
theorem DM.WY:∀(xs:lA) (l:Nat) (acc:lA) (m:Mem),DM (fun m k=>qa k l acc m xs) (fun _=>False) m
 | [],l,acc,m=>DM.ret acc.reverse
 |x::r,l,acc,m=>DM.bind (rest:=fun y m k=>qa k (l+1) (y::acc) m r) (DM.WX l x m) fun y new=>DM.WY r (l+1) (y::acc) (new++m)
theorem DM.WZ (l:Nat) (x:AV) (m:Mem):DM (nW l x) (fun _=>False) m:=by
 unfold nW;split
 . rename_i xs;exact DM.bind (one:=fun m k=>qa k l [] m xs) (rest:=fun ys m k=>k (AV.agg ys) m) (DM.WY xs l [] m) fun ys new=>DM.ret (AV.agg ys)
 . exact DM.no _ _
 exact DM.WX l _ m
theorem DM.Um:∀(xs:lA) (l:Nat) (acc:lA) (m:Mem),DM (fun m k=>l9 k l acc m xs) (fun _=>False) m
 | [],l,acc,m=>DM.ret acc.reverse
 |x::r,l,acc,m=>DM.bind (rest:=fun y m k=>l9 k (l+16) (y::acc) m r) (DM.WZ l x m) fun y new=>DM.Um r (l+16) (y::acc) (new++m)
theorem DM.Zq (l:Nat) (x:AV) (m:Mem):DM (nf l x) (fun _=>False) m:=by
 unfold nf;split
 . rename_i xs;exact DM.bind (one:=fun m k=>l9 k l [] m xs) (rest:=fun ys m k=>k (AV.aZ ys) m) (DM.Um xs l [] m) fun ys new=>DM.ret (AV.aZ ys)
 exact DM.WZ l _ m
end Go.Vc
namespace Go.Vc
def CO (P:Program) (f:FuncId) (d:Nat) (ρ:lN) (io:List bh) (args:lA) (m:Mem) (k:AV->Mem->Prop) (_:Pack k):Prop:=
 ∃r io1,pw P f io args (fun x io'=>x=r/\io'=io1)/\nf (1000*(d+1)) r (ga ρ io1 m) k
@[congr] theorem Rq {P:Program} {f:FuncId} {d:Nat} {ρ:lN} {io io':List bh} {args args':lA} {m:Mem} {k:AV->Mem->Prop} {q:Pack k} (h:io=io') (h':args=args'):CO P f d ρ io args m k q=CO P f d ρ io' args' m k q:=by rw [h,h']
def Fg (P:Program) (f:FuncId) (xs:lA) (m:Mem) (k:AV->Mem->Prop):Prop:=
 ∃r new,k r (new++m)/\∀m',j4 (fun l=>∃x,x∈xs/\NL x l) m m'->j4 (fun l=>aj new l≠none) m m'->∀k',k' r (new++m')->ib P f xs m' k'
def iT (P:Program) (f:FuncId) (d:Nat) (xs ts:lA) (m:Mem) (k:AV->Mem->Prop) (_:Pack k):Prop:=(∃own r,Fn P f ts own (· =r)/\(own=false->ay xs)/\Vh own d m r k)∨
 (∃ρ,(∀l,l∈ρ->∃x,x∈xs/\NL x l)/\pT m (fun io=>oO ρ (fun args=>CO P f d ρ io args m k ⟨⟩) [] xs) [] ρ)\/Fg P f xs m k
@[congr] theorem SK {P:Program} {f:FuncId} {d:Nat} {xs ts ts':lA} {m:Mem} {k:AV->Mem->Prop} {q:Pack k} (h:ts=ts'):iT P f d xs ts m k q=iT P f d xs ts' m k q:=by rw [h]
theorem an {P:Program} {f:FuncId} {d:Nat} {xs ts:lA} {m:Mem} {k:AV->Mem->Prop} {r:AV} (h:Fn P f ts true (· =r)) (hk:nf (1000*(d+1)) r m k) {q:Pack k}:iT P f d xs ts m k q:=
 .inl ⟨true,r,h,fun h=>(by cases h),hk⟩
theorem aI {P:Program} {f:FuncId} {d:Nat} {xs ts:lA} {m:Mem} {k:AV->Mem->Prop} {r:AV} (h:Fn P f ts false (· =r)) (hl:ay xs) (hk:k r m) {q:Pack k}:iT P f d xs ts m k q:=
 .inl ⟨false,r,h,fun _=>hl,hk⟩
def nt (P:Program) (f:FuncId) (d:Nat) (xs:lA) (m:Mem) (k:AV->Mem->Prop):Prop:=dH m (fun ts=>iT P f d xs ts m k ⟨⟩) [] xs
@[congr] theorem SL {P:Program} {f:FuncId} {d:Nat} {xs xs':lA} {m:Mem} {k:AV->Mem->Prop} (h:xs=xs'):nt P f d xs m k=nt P f d xs' m k:=by rw [h]
theorem Bx (P:Program) (f:FuncId) (d:Nat) (x:AV) (xs:lA) (m:Mem) (k:AV->Mem->Prop):nt P f d (x::xs) m k=dH m (fun ts=>iT P f d (x::xs) ts m k ⟨⟩) [] (x::xs):=rfl
theorem D1.O8 (m:Mem) (x:AV):D1 (fB m x):=by
 unfold fB
 split<;>first
  |exact D1.pure _
  |exact D1.no
  |(unfold nU;split<;>first|exact D1.and _ (D1.and _ (D1.pure _))|exact D1.no)
theorem D1.W2 (P:Program) (si ti:TI) (m:Mem) (x:AV):D1 (fR P si ti x m):=by
 unfold fR;split
 . exact D1.bind (D1.ti _) fun ei=>D1.xh _ (D1.bind (D1.O8 m x) fun y=>D1.bytes y)
 . exact D1.ZF _
 exact D1.conv _ _
theorem HT {P:Program} {si ti:TI} {m m':Mem} {x:AV} (h:j4 (NL x) m m'):fR P si ti x m'=fR P si ti x m:=by funext k;unfold fR;simp only [qD h]
theorem D1.J2 (m:Mem):∀(xs acc:lA),D1 fun k=>c6 m k acc xs
 | [],acc=>D1.pure acc.reverse
 |x::r,acc=>D1.bind (H:=fun y k=>c6 m k (y::acc) r) (D1.O8 m x) fun y=>D1.J2 m r (y::acc)
theorem D1.tree (m:Mem) (x:AV):D1 (iz m x):=by
 unfold iz;split
 . rename_i xs;exact D1.bind (G:=fun k=>c6 m k [] xs) (H:=fun ys k=>k (AV.agg ys)) (D1.J2 m xs []) fun ys=>D1.pure (AV.agg ys)
 . exact D1.pure _
 . exact D1.pure _
 exact D1.O8 m _
theorem D1.trees (m:Mem):∀(xs acc:lA),D1 fun k=>dH m k acc xs
 | [],acc=>D1.pure acc.reverse
 |x::r,acc=>D1.bind (H:=fun y k=>dH m k (y::acc) r) (D1.tree m x) fun y=>D1.trees m r (y::acc)
theorem DM.res (own:Bool) (d:Nat) (r:AV) (m:Mem):DM (fun m k=>Vh own d m r k) (fun _=>False) m:=by
 cases own with
 |true=>exact DM.Zq _ r m
 |false=>exact DM.ret r
theorem D1.Yo {α:Type} (b:Option bh) {G:bh->(α->Prop)->Prop} (h:∀b,D1 (G b)):D1 fun k=>rX b fun b=>G b k:=by unfold rX;split<;>first|exact h _|exact D1.and _ (h _)|exact D1.no
theorem D1.Yp (m:Mem):∀(ρ:lN) (acc:List bh),D1 fun k=>pT m k acc ρ
 | [],acc=>D1.pure acc.reverse
 |l::r,acc=>D1.and _ (D1.Yo (aj m l) (G:=fun b k=>pT m k (b::acc) r) fun b=>D1.Yp m r (b::acc))
theorem Fh {m m':Mem} (k:List bh->Prop):∀(ρ:lN) (acc:List bh),(∀l,l∈ρ->aj m' l=aj m l)->pT m' k acc ρ=pT m k acc ρ
 | [],acc,_=>rfl
 |l::r,acc,h=>by rw [py,py,h l (q15 ..)];have:(fun b=>pT m' k (b::acc) r)=fun b=>pT m k (b::acc) r:=funext fun b=>Fh k r (b::acc) fun l' hl=>h l' (q14 _ hl);rw [this]
theorem D1.pos (l:Nat):∀(ρ:lN) (i:Nat),D1 fun k=>s5 l k i ρ
 | [],_=>D1.no
 |l0::r,i=>by
  have h1:=D1.pos l r (i+1);intro k hk;have hk:s5 l k i (l0::r):=hk;rw [kA] at hk;split at hk
  . rename_i e;exact ⟨i,hk,fun k' h'=>by show s5 l k' i (l0::r);rw [kA,if_pos e];exact h'⟩
  rename_i e;obtain ⟨x,h2,h3⟩:=h1 k hk;exact ⟨x,h2,fun k' h'=>by show s5 l k' i (l0::r);rw [kA,if_neg e];exact h3 k' h'⟩
theorem D1.DR (ρ:lN) (x:AV):D1 (xE ρ x):=by
 unfold xE
 split<;>first
  |exact D1.pure _
  |exact D1.no
  |exact D1.bind (H:=fun j k=>k _) (D1.pos _ ρ 0) fun j=>D1.pure _
theorem D1.W4 (ρ:lN):∀(xs acc:lA),D1 fun k=>qh ρ k acc xs
 | [],acc=>D1.pure acc.reverse
 |x::r,acc=>D1.bind (H:=fun y k=>qh ρ k (y::acc) r) (D1.DR ρ x) fun y=>D1.W4 ρ r (y::acc)
theorem D1.Yq (ρ:lN) (x:AV):D1 (mC ρ x):=by
 unfold mC;split
 . rename_i xs;exact D1.bind (G:=fun k=>qh ρ k [] xs) (H:=fun ys k=>k (AV.agg ys)) (D1.W4 ρ xs []) fun ys=>D1.pure (AV.agg ys)
 exact D1.DR ρ _
theorem D1.VA (ρ:lN):∀(xs acc:lA),D1 fun k=>oO ρ k acc xs
 | [],acc=>D1.pure acc.reverse
 |x::r,acc=>D1.bind (H:=fun y k=>oO ρ k (y::acc) r) (D1.Yq ρ x) fun y=>D1.VA ρ r (y::acc)
theorem mI:∀(ρ:lN) (io:List bh) (m:Mem),ga ρ io m=ga ρ io []++m
 | [],io,m=>by cases io<;>rfl
 |_::_,[],m=>rfl
 |l::ρ,b::io,m=>by rw [kN,kN,mI ρ io m,List.cons_append]
theorem DM.W5 (P:Program) (f:FuncId) (d:Nat) (xs ts:lA) (m:Mem):DM (fun m k=>iT P f d xs ts m k ⟨⟩) (fun l=>∃x,x∈xs/\NL x l) m:=by
 rintro k (⟨own,r,h1,h2,h3⟩|⟨ρ,hρ,h⟩|⟨r,new,h1,h2⟩)
 rotate_left 2
 . exact ⟨r,new,h1,fun m' a b k' hk'=>.inr (.inr ⟨r,new,hk',fun m2 c d k2 hk2=>h2 m2 (fun l hl=>(c l hl).trans (a l hl)) (fun l hl=>(d l hl).trans (b l hl)) k2 hk2⟩)⟩
 . obtain ⟨x,new,g1,g2⟩:=DM.res own d r m k h3;exact ⟨x,new,g1,fun m' _ hm' k' hk'=>.inl ⟨own,r,h1,h2,g2 m' (fun _ hl=>hl.elim) hm' k' hk'⟩⟩
 obtain ⟨io,h1,h2⟩:=D1.Yp m ρ [] _ h;obtain ⟨args,h3,h4⟩:=D1.VA ρ xs [] _ h1;obtain ⟨r,io1,hF,hm⟩:=h3;obtain ⟨x,new,g1,g2⟩:=DM.Zq _ r (ga ρ io1 m) k hm;refine ⟨x,new++ga ρ io1 [],by rw [List.append_assoc,←mI];exact g1,fun m' hm1 hm' k' hk'=>.inr (.inl ⟨ρ,hρ,?_⟩)⟩;rw [Fh _ ρ [] fun l hl=>hm1 l (hρ l hl)];refine h2 _ (h4 _ ⟨r,io1,hF,g2 (ga ρ io1 m') (fun _ hl=>hl.elim) (fun l hl=> ?_) k' (by rw [mI ρ io1 m',←List.append_assoc];exact hk')⟩);have hl:aj new l≠none:=hl;rw [mI ρ io1 m',mI ρ io1 m,dI,dI];have:=hm' l (by show aj (new++ga ρ io1 []) l≠none;rw [dI];split<;>simp_all);rw [this]
theorem DM.Un (P:Program) (f:FuncId) (d:Nat) (xs:lA) (m:Mem):DM (nt P f d xs) (fun l=>∃x,x∈xs/\NL x l) m:=
 DM.pre (G:=fun m k=>dH m k [] xs) (F:=fun ts m k=>iT P f d xs ts m k ⟨⟩) (D1.trees m xs []) (fun m' hm=>funext fun k=>qE k xs [] fun x hx l hl=>hm l ⟨x,hx,hl⟩) fun ts=>DM.W5 P f d xs ts m
theorem HU {P:Program} {t:TypeId} {op:BinOp} {a b:AV} {k:AV->Prop} {r r':Prop} (hr:r->r') (h:gL P t op a b k r):gL P t op a b k r':=by
 unfold gL at h ⊢;split at h
 . exact h
 . exact h
 exact hr h
theorem D1.W6 (f:FK) (x y:AV):D1 (l8 f x y):=by unfold l8;split<;>first|exact D1.and _ (D1.pure _)|exact D1.pure _|exact D1.no
theorem D1.W7:∀(fs:List FK) (xs ys:lA) (acc:Bool),D1 fun k=>ur k acc fs xs ys
 | [],xs,ys,acc=>by cases xs<;>cases ys<;>first|exact D1.pure _|exact D1.no
 |f::fs,xs,ys,acc=>by
  cases xs with
  |nil=>cases ys<;>exact D1.no
  |cons x xs=>
   cases ys with
   |nil=>exact D1.no
   |cons y ys=>exact D1.bind (D1.W6 f x y) fun b=>D1.W7 fs xs ys _
theorem D1.ZH (op:BinOp) (c:Bool):D1 (RM op c):=by unfold RM;split<;>first|exact D1.pure _|exact D1.no
theorem D1.fk (o:Option (List FK)):D1 (WR o):=by
 cases o with
 |none=>exact D1.no
 |some x=>exact D1.pure x
theorem D1.Yr (P:Program) (t:TypeId) (op:BinOp) (kd:TK) (a b:AV):D1 fun k=>gL P t op a b k (lx op kd a b k):=by
 unfold gL;split
 . exact D1.bind (D1.fk _) fun ks=>D1.bind (D1.W7 ks _ _ true) fun c=>D1.ZH op c
 . cases rz P t op with
   |none=>exact D1.no
   |some c=>exact D1.pure _
 exact D1.bin _ _ _ _
def pE (P:Program) (c:AV) (d:Nat) (xs:lA) (m:Mem) (k:AV->Mem->Prop):Prop:=match c with
 | .cy f ys=>nt P f d (xs++ys) m k
 |_=>False
@[congr] theorem Rr {P:Program} {c c':AV} {d:Nat} {xs xs':lA} {m:Mem} {k:AV->Mem->Prop} (h:c=c') (h':xs=xs'):pE P c d xs m k=pE P c' d xs' m k:=by rw [h,h']
theorem DM.VB (P:Program) (c:AV) (d:Nat) (xs:lA) (m:Mem):DM (pE P c d xs) (fun l=>(∃x,x∈xs/\NL x l)\/NL c l) m:=by
 cases c with
 |cy f ys=>
  refine (DM.Un P f d (xs++ys) m).mono fun l hl=> ?_;obtain ⟨x,hx,af,hv⟩:=hl;rcases List.mem_append.1 hx with hx|hx
  . exact .inl ⟨x,hx,af,hv⟩
  obtain ⟨i,hi,rfl⟩:=q12 hx;exact .inr ⟨af,by simp only [ao];exact bw hi hv⟩
 |_=>exact DM.no _ _
def cG (P:Program) (d:Nat) (op:Op) (ts:Env) (m:Mem) (k:AV->Mem->Prop):Prop:=
 match op with
 | .call c=>match c.callee,c.args.toList with
   | .value (.func f),xs=>nt P f d (xs.map (ev ts)) m k
   | .value (.tmp t),xs=>pE P (look ts t) d (xs.map (ev ts)) m k
   | .builtin .append,[x,y]=>kK P c.argTypes.toList d (ev ts x) (ev ts y) m k
   |_,_=>iL P d (.call c) ts m k
 | .binOp op t x y _=>ew (aK P t) fun ti=>gL P t op (ev ts x) (ev ts y) (fun v=>k v m) (lx op ti.kind (ev ts x) (ev ts y) fun v=>k v m)
 | .load t x=>ew (aK P t) fun ti=>ou ti.agg ti.size (ev ts x) m k
 | .store t p y=>ew (aK P t) fun ti=>kI ti.size (ev ts p) (ev ts y) m fun m'=>k .undef m'
 | .indexAddr t x i=>ew (aK P t) fun tt=>w9 tt.kind (ew (aK P tt.elem) fun ti=>oI ti.sh m (ev ts x) (ev ts i) fun v=>k v m)
 |op=>iL P d op ts m k
theorem HV {ag:Bool} {n j:Nat} {x:AV} {k k':AV->Prop} (h:∀y,k y->k' y) (hk:dm ag n j x k):dm ag n j x k':=by obtain ⟨y,h1,h2⟩:=D1.part _ _ _ _ _ hk;exact h2 _ (h y h1)
theorem LD {ag:Bool} {n:Nat} {p:AV} {m:Mem} {k:AV->Mem->Prop} (h:ou ag n p m k):ov ag n p m k:=by
 cases p with
 |ptr l af i j=>
  have h0:dV ag n l af i j (aj m l) m k:=h;show if l<bG then dV ag n l af i j (aj m l) m k else kH ag n l af i j (aj m l) m k
  split
  . exact h0
  rename_i hl;generalize aj m l=b at h0;unfold kH;split
  . obtain ⟨h1,h2⟩:=h0;refine ⟨h1,?_⟩;rename_i xs;cases hx:xs[i]? with
    |none=>rw [hx] at h2;exact h2.elim
    |some x=>
     rw [hx] at h2;rw [sV] at h2 ⊢;refine HV (fun y hy=> ?_) h2;unfold dE at hy;unfold nT;split
     . rename_i hc;rw [if_pos hc] at hy;exact absurd hy.1 hl
     rename_i hc;rw [if_neg hc] at hy;exact hy
  exact h0
 |bu=>exact h
 |_=>exact h.elim
theorem HW {n:Nat} {p y:AV} {m:Mem} {k:Mem->Prop} (h:kI n p y m k):cM n p y m k:=by
 unfold cM;split
 . rename_i l af i j l2 v2 i2 n2;have h:dG l af i j (aj m l) (.ref l2 v2 i2 n2) m n k:=h;unfold mZ;split
   . rename_i v xs hb;rw [hb] at h;have:=h.2.1;cases this
   exact h
 exact h
theorem xP {P:Program} {f:FuncId} {d:Nat} {xs:lA} {m:Mem} {k:AV->Mem->Prop} (h:nt P f d xs m k):nX P f d xs m k:=by
 have key:∀(xs acc:lA) (G G':lA->Prop),(∀ts,G ts->G' ts)->dH m G acc xs->dH m G' acc xs:=by intro xs acc G G' hg h;obtain ⟨x,h1,h2⟩:=D1.trees m xs acc G h;exact h2 G' (hg x h1)
 exact key _ _ _ _ (fun ts hx=>by
  rcases hx with ⟨own,r,h1,h2,h3⟩|⟨ρ,_,h⟩|⟨r,new,h1,h2⟩
  rotate_left 2
  . exact .inl (h2 m (fun _ _=>rfl) (fun _ _=>rfl) k h1)
  . exact .inr ⟨own,_,h1,h2,fun _ e=>e▸h3⟩
  refine mE ρ ?_;obtain ⟨io,h1,h2⟩:=D1.Yp m ρ [] _ h;obtain ⟨args,h3,h4⟩:=D1.VA ρ _ [] _ h1;obtain ⟨r,io1,hF,hm⟩:=h3
  exact h2 _ (h4 _ ⟨_,hF,fun r io' ⟨e,e'⟩=>by subst e;subst e';exact hm⟩)) h
theorem Fi {P:Program} {c:AV} {d:Nat} {xs:lA} {m:Mem} {k:AV->Mem->Prop} (h:pE P c d xs m k):ni P c d xs m k:=by
 cases c with
 |cy f ys=>exact xP h
 |_=>exact h.elim
theorem xQ {P:Program} {d:Nat} {op:Op} {ts:Env} {m:Mem} {k:AV->Mem->Prop} (h:cG P d op ts m k):iL P d op ts m k:=by
 unfold cG at h;split at h
 . rename_i c;split at h
   . rename_i f hc;have:=xP h;unfold iL;simp only [hc];exact this
   . rename_i t hc;have:=Fi h;unfold iL;simp only [hc];exact this
   . rename_i x y hc hx;have:=h;unfold iL;simp only [hc,hx];exact this
   exact h
 . obtain ⟨ti,ht,h⟩:=bL h;show ew _ _;rw [ht];exact HU (fun h=>Oa h) h
 . obtain ⟨ti,ht,h⟩:=bL h;show ew _ _;rw [ht];exact LD h
 . obtain ⟨ti,ht,h⟩:=bL h;show ew _ _;rw [ht];exact Hm (HW h)
 . obtain ⟨tt,htt,h⟩:=bL h;obtain ⟨hks,h⟩:=nk h;obtain ⟨ti,ht,h⟩:=bL h;show ew _ _;rw [htt,v7,hks];show ew _ _;rw [ht];exact N9 h
 exact h
def Hb (op:Op):List Operand:=match op with
 | .move _=>[]
 | .assign _=>[]
 | .pick _ _ _=>[]
 | .box _ _=>[]
 | .build _ _=>[]
 | .binOp _ _ _ _ _=>[]
 | .extract _ _=>[]
 | .field _ _ _=>[]
 | .store _ p _=>[p]
 |op=>op.operands.toList
theorem SM {op:Op} {o:Operand} (h:o∈Hb op):o∈op.operands.toList:=by
 unfold Hb at h
 split at h<;>first
  |exact h
  |exact absurd h List.not_mem_nil
  |(rw [List.mem_singleton] at h;subst h;simp [Op.operands])
def Reads (op:Op) (ts:Env) (l:Nat):Prop:=∃o,o∈Hb op/\NL (ev ts o) l
theorem DM.sl {F:Mem->(AV->Mem->Prop)->Prop} {R:Nat->Prop} {m:Mem} (kd:TK) (h:DM F R m):DM (fun m k=>w9 kd (F m k)) R m:=by cases kd<;>first|exact h|exact DM.no _ _
theorem DM.st {F:Mem->(AV->Mem->Prop)->Prop} {R:Nat->Prop} {m:Mem} (kd:TK) (h:DM F R m):DM (fun m k=>WG kd (F m k)) R m:=by cases kd<;>first|exact h|exact DM.no _ _
theorem DM.ti {F:TI->Mem->(AV->Mem->Prop)->Prop} {R:Nat->Prop} {m:Mem} (o:Option TI) (h:∀ti,DM (F ti) R m):DM (fun m k=>ew o fun ti=>F ti m k) R m:=DM.Ff (D1.ti o) h
theorem DM.W8 {R:Nat->Prop} (d:Nat) (x:AV) (m:Mem):DM (s0 d x) R m:=by
 unfold s0;split
 . exact DM.and _ (DM.put d _ fun m' h=>by rw [gq h];exact ⟨rfl,rfl⟩)
 exact DM.no _ _
theorem DM.W9 {R:Nat->Prop} (P:Program) (si ti:TI) (d:Nat) (x:AV) (m:Mem) (h:∀m',j4 R m m'->fR P si ti x m'=fR P si ti x m):DM (kL P si ti d x) R m:=by
 unfold kL;split
 . refine DM.ti _ fun ei=> ?_;unfold xh;split
   . exact DM.W8 d x m
   exact DM.no _ _
 exact DM.still (G:=fun m k=>fR P si ti x m k) (D1.W2 P si ti m _) fun m' hm=>h m' hm
theorem DM.or {α:Type} {F G:Mem->(α->Mem->Prop)->Prop} {R:Nat->Prop} {m:Mem} (h:DM F R m) (h':DM G R m):DM (fun m k=>F m k\/G m k) R m:=fun k hk=>by
 rcases hk with hk|hk
 . obtain ⟨x,new,h1,h2⟩:=h k hk;exact ⟨x,new,h1,fun m' a b k' hk'=>.inl (h2 m' a b k' hk')⟩
 obtain ⟨x,new,h1,h2⟩:=h' k hk;exact ⟨x,new,h1,fun m' a b k' hk'=>.inr (h2 m' a b k' hk')⟩
theorem DM.Xa (ti:TI) (d:Nat) (x:AV) (ys:lA) (m:Mem):DM (lE ti d x ys) (NL x) m:=by
 unfold lE;split
 . rename_i l v i n;intro k hk;cases hb:aj m l with
   |none=>simp only [hb] at hk;exact hk.elim
   |some b=>
    simp only [hb] at hk;cases b with
    |row v' sh deep xs=>
     obtain ⟨h1,h2,h3,h4,h5,h6,hk⟩:=hk;refine ⟨.ref l (v+1) 0 (n+ys.length),[(l,.row (v+1) ti.sh false (xs.take n++ys))],hk,fun m' hm _ k' hk'=> ?_⟩;show oC ti l v i n (aj m' l) ys m' k';rw [(hm l (NL.ref _ _ _ _)).trans hb];exact ⟨h1,h2,h3,h4,h5,h6,hk'⟩
    |_=>exact hk.elim
 exact DM.and _ (DM.and _ (DM.put d _ fun m' h=>by rw [gq h];exact ⟨rfl,rfl⟩))
theorem DM.Ys (ti:TI) (d:Nat) (x y:AV) (m:Mem):DM (lF ti d x y) (fun l=>NL x l\/NL y l) m:=by
 cases y with
 |ref l v i n=>
  intro k hk;have hk1:jq ti d x l v i n (aj m l) m k:=hk;have go:∀m',j4 (fun l'=>NL x l'\/NL (.ref l v i n) l') m m'->aj m' l=aj m l:=fun m' hm=>hm l (.inr (NL.ref _ _ _ _));unfold jq at hk1;split at hk1
  . rename_i v' sh' zs hb;obtain ⟨z,new,h1,h2⟩:=DM.or (DM.app ti d x (.ref l v i n) m) (DM.and (v'=v) (DM.and (sh'=ti.sh) (DM.and (i+n<=zs.length) (DM.and (ti.bytes<=65536/\0<ti.size/\fits ti.sh ti.zero) ((DM.Xa ti d x ((zs.drop i).take n) m).mono fun l hl=>.inl hl))))) k hk1;refine ⟨z,new,h1,fun m' a b k' hk'=> ?_⟩;show jq ti d x l v i n (aj m' l) m' k';rw [go m' a,hb];exact h2 m' a b k' hk'
  rename_i hb;obtain ⟨z,new,h1,h2⟩:=DM.app ti d x (.ref l v i n) m k hk1;refine ⟨z,new,h1,fun m' a b k' hk'=> ?_⟩;show jq ti d x l v i n (aj m' l) m' k';rw [go m' a];have:=h2 m' a b k' hk';unfold jq;split
  . rename_i hb2;exact absurd hb2 (hb _ _ _)
  exact this
 |arr sh xs=>
  cases hb:bo xs with
  |true=>
   have e:lF ti d x (.arr sh xs)=vB ti d x (.arr sh xs):=by funext m k;show rH ti d x sh xs (bo xs) m k=_;rw [hb];rfl
   rw [e];exact DM.app ti d x _ m
  |false=>
   have e:lF ti d x (.arr sh xs)=fun m k=>sh=ti.sh/\(ti.bytes<=65536/\0<ti.size/\fits ti.sh ti.zero)/\lE ti d x xs m k:=by funext m k;show rH ti d x sh xs (bo xs) m k=_;rw [hb];rfl
   rw [e];exact DM.and _ (DM.and _ ((DM.Xa ti d x xs m).mono fun l hl=>.inl hl))
 |_=>exact DM.app ti d x _ m
theorem DM.Xb (P:Program) (tys:List TypeId) (d:Nat) (x y:AV) (m:Mem):DM (kK P tys d x y) (fun l=>NL x l\/NL y l) m:=by
 unfold kK;split
 . refine DM.Ff (F:=fun tt m k=>w9 tt.kind (ew (aK P _) fun tt'=>w9 tt'.kind (ew (aK P tt.elem) fun ti=>lF ti d x y m k))) (D1.ti _) fun tt=> ?_;have hsl:∀(kd:TK) {F:Mem->(AV->Mem->Prop)->Prop} {R:Nat->Prop},DM F R m->DM (fun m k=>w9 kd (F m k)) R m:=by
    intro kd F R h;cases kd<;>first|exact h|exact DM.no _ _
   refine hsl _ (DM.Ff (F:=fun tt' m k=>w9 tt'.kind (ew (aK P tt.elem) fun ti=>lF ti d x y m k)) (D1.ti _) fun tt'=> ?_);exact hsl _ (DM.Ff (F:=fun ti m k=>lF ti d x y m k) (D1.ti _) fun ti=>DM.Ys ti d x y m)
 exact DM.no _ _
theorem DM.Xc {R:Nat->Prop} (x:AV) (m:Mem) (hR:∀l,NL x l->R l):DM (mw x) R m:=by
 unfold mw;split
 . rename_i l v i n;intro k hk;cases hb:aj m l with
   |none=>rw [hb] at hk;exact hk.elim
   |some b=>
    rw [hb] at hk;cases b with
    |row v' sh d ys=>
     obtain ⟨h1,h2,h3,h4⟩:=hk;refine ⟨.arr sh ((ys.drop i).take n),[(l,.gone v)],h4,fun m' hm _ k' hk'=> ?_⟩;show rL l v i n (aj m' l) m' k';rw [hm l (hR l (NL.ref _ _ _ _)),hb];exact ⟨h1,h2,h3,hk'⟩
    |_=>exact hk.elim
 exact DM.ret _
theorem DM.map {α β:Type} {F:Mem->(α->Mem->Prop)->Prop} {R:Nat->Prop} {m:Mem} (f:α->β) (h:DM F R m):DM (fun m k=>F m fun x m'=>k (f x) m') R m:=fun k hk=>
 have ⟨x,new,h1,h2⟩:=h _ hk
 ⟨f x,new,h1,fun m' hm hm' k' hk'=>h2 m' hm hm' _ hk'⟩
theorem DM.Uo {R:Nat->Prop}:∀(xs acc:lA) (m:Mem),(∀x,x∈xs->∀l,NL x l->R l)->DM (fun m k=>ng k acc m xs) R m
 | [],acc,m,_=>DM.ret acc.reverse
 |x::r,acc,m,hR=>DM.bind (one:=mw x) (rest:=fun y m k=>ng k (y::acc) m r) (DM.Xc x m (hR x (q15 ..))) fun y new=>DM.Uo r (y::acc) (new++m) fun x hx=>hR x (q14 _ hx)
theorem DM.Yt {R:Nat->Prop} (x:AV) (m:Mem) (hR:∀l,NL x l->R l):DM (lG x) R m:=by
 cases x with
 |agg xs=>exact DM.map AV.agg (DM.Uo xs [] m fun x hx l ⟨af,hl⟩=>hR l ⟨af,by
   obtain ⟨i,hi,rfl⟩:=q12 hx
   simp only [ao];exact bw hi hl⟩)
 |_=>exact DM.Xc _ m hR
theorem DM.Xd {R:Nat->Prop}:∀(ps acc:List (Nat × AV)) (m:Mem),(∀p,p∈ps->∀l,NL p.2 l->R l)->DM (fun m k=>qb k acc m ps) R m
 | [],acc,m,_=>DM.ret acc.reverse
 |(i,x)::r,acc,m,hR=>DM.bind (one:=lG x) (rest:=fun y m k=>qb k ((i,y)::acc) m r) (DM.Yt x m (hR (i,x) (q15 ..))) fun y new=>DM.Xd r ((i,y)::acc) (new++m) fun p hp=>hR p (q14 _ hp)
theorem DM.Fj {R:Nat->Prop} (ti:TI) (d n:Nat) (ps:List (Nat × AV)) (m:Mem) (hR:∀p,p∈ps->∀l,NL p.2 l->R l):DM (gI ti d n ps) R m:=
 DM.bind (one:=fun m k=>qb k [] m ps) (rest:=fun ps m k=>iy ti d n ps m k) (DM.Xd ps [] m hR) fun ps new=>DM.buildSlice ti d n ps (new++m)
theorem O9 (P:Program) (d:Nat) (op:Op) (ts:Env) (m:Mem):DM (cG P d op ts) (Reads op ts) m:=by
 have rd:∀(o:Operand),o∈Hb op->∀l,NL (ev ts o) l->Reads op ts l:=fun o h l hl=>⟨o,h,hl⟩;have lk:∀(o:Operand),o∈Hb op->∀m',j4 (Reads op ts) m m'->j4 (NL (ev ts o)) m m':=fun o h m' hm l hl=>hm l (rd o h l hl);have nomem:∀{G:(AV->Prop)->Prop},D1 G->DM (fun m k=>G fun v=>k v m) (Reads op ts) m:=fun {G} h=>DM.still (G:=fun _=>G) h fun _ _=>rfl;have other:(∀t x i,op≠ .indexAddr t x i)->(∀c f,op= .call c->c.callee≠ .value (.func f))->(∀c t,op= .call c->c.callee≠ .value (.tmp t))->(∀o t x y t2,op≠ .binOp o t x y t2)->(∀t x,op≠ .load t x)->(∀t p y,op≠ .store t p y)->(∀c x y,op= .call c->c.callee= .builtin .append->c.args.toList=[x,y]->False)->DM (iL P d op ts) (Reads op ts) m:=by
  intro hni hno hnt hnb hnl hns hna;cases op with
  |move x=>exact DM.ret _
  |makeFunc fn first caps=>cases fn<;>first|exact DM.and _ (DM.ret _)|exact DM.no _ _
  |assign x=>exact DM.ret _
  |pick c a b=>exact nomem (D1.pick _ _ _)
  |alloc t=>exact DM.ti _ fun ti=>DM.box d ti.zero m
  |box t x=>exact DM.box d _ m
  |build t parts=>exact DM.ti _ fun ti=>DM.st _ (nomem (D1.build ti _))
  |buildSlice t n parts=>
   refine DM.ti _ fun tt=>DM.sl _ (DM.ti _ fun ti=>DM.Fj ti d n _ m fun p hp l hl=> ?_);obtain ⟨q,hq,rfl⟩:=q16.1 hp;exact ⟨q.2,by show q.2∈(Op.buildSlice t n parts).operands.toList;simp only [Op.operands];exact q16.2 ⟨q,hq,rfl⟩,hl⟩
  |load t x=>exact absurd rfl (hnl _ _)
  |store t p y=>exact absurd rfl (hns _ _ _)
  |nilCheck x=>exact DM.still (D1.nil m _) fun m' hm=>O3 (lk x (by simp [Hb,Op.operands]) m' hm)
  |binOp op t x y t2=>exact absurd rfl (hnb _ _ _ _ _)
  |unOp op t x=>cases op<;>first|exact nomem (D1.not _)|exact nomem (D1.neg _)|exact DM.no _ _
  |convert s t x=>exact DM.ti _ fun si=>DM.ti _ fun ti=>DM.W9 P si ti d _ m fun m' hm=>HT (lk x (by simp [Hb,Op.operands]) m' hm)
  |makeSlice t l c=>exact DM.ti _ fun tt=>DM.sl _ (DM.ti _ fun ti=>DM.make ti d _ _ m)
  |fieldAddr t x f=>exact DM.ti _ fun ti=>DM.Ff (F:=fun fd m k=>0<fd.2.1/\ic fd.1 m (ev ts x) fun v=>k v m) (D1.Yl _) fun fd=>DM.and _ (DM.still (D1.field _ m _) fun m' hm=>HR _ (lk x (by simp [Hb,Op.operands]) m' hm))
  |field t x f=>exact DM.ti _ fun ti=>DM.Ff (F:=fun fd m k=>qz fd.2.2 fd.2.1 fd.1 (ev ts x) fun v=>k v m) (D1.Yl _) fun fd=>nomem (D1.WV _ _ _ _)
  |indexAddr t x i=>exact absurd rfl (hni _ _ _)
  |index t x i=>exact DM.ti _ fun tt=>DM.and _ (nomem (D1.index _ _))
  |extract x i=>exact nomem (D1.aZ _ _)
  |slice t x lo hi mx=>
   cases mx with
   |none=>exact DM.ti _ fun tt=>DM.still (G:=fun m k=>nh P tt (ev ts x) (lo.map (ev ts)) (hi.map (ev ts)) m k) (D1.ZG _ _ _ _ _ m) fun m' hm=>O6 _ _ (lk x (by simp [Hb,Op.operands]) m' hm)
   |some mx=>
    cases lo with
    |none=>exact DM.and _ (DM.ti _ fun tt=>DM.sl _ (DM.ti _ fun _=>DM.still (G:=fun m k=>jB m (ev ts x) k) (D1.Vz m _) fun m' hm=>Fe (lk x (by simp [Hb,Op.operands]) m' hm)))
    |some lo=>exact DM.no _ _
  |call c=>
   obtain ⟨callee,args,tys⟩:=c;have hin:∀o,o∈args.toList->o∈Hb (Op.call ⟨callee,args,tys⟩):=fun o ho=>by show o∈(Op.call ⟨callee,args,tys⟩).operands.toList;simp only [Op.operands,Call.operands,Array.toList_append,List.mem_append];exact .inr ho
   show DM (fun m k=>match callee,args.toList with
    | .builtin .len,[x]=>match tys.toList with|t::_=>ew (aK P t) fun ti=>mX ti.kind m (ev ts x) fun v=>k v m| []=>False
    | .builtin .max,[x,y]=>zo (ev ts x) (ev ts y) fun v=>k v m
    | .builtin .min,[x,y]=>mV (ev ts x) (ev ts y) fun v=>k v m
    | .builtin .min,[x,y,z]=>mV (ev ts x) (ev ts y) fun u=>mV u (ev ts z) fun v=>k v m
    | .builtin .append,[x,y]=>kK P tys.toList d (ev ts x) (ev ts y) m k
    | .value (.func f),xs=>nX P f d (xs.map (ev ts)) m k
    | .value (.tmp t),xs=>ni P (look ts t) d (xs.map (ev ts)) m k
    |_,_=>False) (Reads (.call ⟨callee,args,tys⟩) ts) m
   generalize hl0:args.toList=l at hin;split
   . rename_i x;split
     . exact DM.ti _ fun ti=>DM.still (G:=fun m k=>mX ti.kind m (ev ts x) k) (D1.len _ m _) fun m' hm=>O4 _ (lk x (hin x (by simp)) m' hm)
     exact DM.no _ _
   . exact nomem (D1.max _ _)
   . exact nomem (D1.min _ _)
   . exact nomem (D1.bind (D1.min _ _) fun u=>D1.min u _)
   . rename_i x y;exact (hna _ x y rfl rfl hl0).elim
   . exact absurd rfl (hno _ _ rfl)
   . exact absurd rfl (hnt _ _ rfl)
   exact DM.no _ _
  |_=>exact DM.no _ _
 cases op with
 |call c=>
  by_cases hf:∃f,c.callee= .value (.func f)
  . obtain ⟨f,hf⟩:=hf;have:cG P d (.call c) ts=nt P f d (c.args.toList.map (ev ts)):=by
     funext m k;simp only [cG,hf]
    rw [this];refine (DM.Un P f d _ m).mono fun l hl=> ?_;obtain ⟨x,hx,hl⟩:=hl;obtain ⟨o,ho,rfl⟩:=q16.1 hx;exact ⟨o,by show o∈(Op.call c).operands.toList;simp only [Op.operands,Call.operands,Array.toList_append,List.mem_append];exact .inr ho,hl⟩
  by_cases hft:∃t,c.callee= .value (.tmp t)
  . obtain ⟨t,hft⟩:=hft;have:cG P d (.call c) ts=pE P (look ts t) d (c.args.toList.map (ev ts)):=by
     funext m k;simp only [cG,hft]
    rw [this];refine (DM.VB P (look ts t) d _ m).mono fun l hl=> ?_;rcases hl with ⟨x,hx,hl⟩|hl
    . obtain ⟨o,ho,rfl⟩:=q16.1 hx;exact ⟨o,by show o∈(Op.call c).operands.toList;simp only [Op.operands,Call.operands,Array.toList_append,List.mem_append];exact .inr ho,hl⟩
    exact ⟨.tmp t,by show Operand.tmp t∈(Op.call c).operands.toList;simp [Op.operands,Call.operands,hft],hl⟩
  by_cases hfa:∃x y,c.callee= .builtin .append/\c.args.toList=[x,y]
  . obtain ⟨x,y,hc,hx⟩:=hfa;have:cG P d (.call c) ts=kK P c.argTypes.toList d (ev ts x) (ev ts y):=by
     funext m k;simp only [cG,hc,hx]
    rw [this];have hin:∀o,o∈c.args.toList->o∈Hb (Op.call c):=fun o ho=>by show o∈(Op.call c).operands.toList;simp only [Op.operands,Call.operands,Array.toList_append,List.mem_append];exact .inr ho
    exact (DM.Xb P _ d _ _ m).mono fun l hl=>hl.elim (fun hl=>⟨x,hin x (by rw [hx];simp),hl⟩) fun hl=>⟨y,hin y (by rw [hx];simp),hl⟩
  have:cG P d (.call c) ts=iL P d (.call c) ts:=by
   funext m k;simp only [cG];split
   . rename_i f hc;exact absurd ⟨f,hc⟩ hf
   . rename_i f hc;exact absurd ⟨f,hc⟩ hft
   . rename_i x y hc hx;exact absurd ⟨x,y,hc,hx⟩ hfa
   rfl
  rw [this];exact other (fun _ _ _ e=>(by cases e)) (fun c' f e hc=>hf ⟨f,by injection e with e;rw [e];exact hc⟩) (fun c' f e hc=>hft ⟨f,by injection e with e;rw [e];exact hc⟩) (fun _ _ _ _ _ e=>(by cases e)) (fun _ _ e=>(by cases e)) (fun _ _ _ e=>(by cases e)) (fun c' x y e hc hx=>hfa ⟨x,y,by injection e with e;rw [e];exact hc,by injection e with e;rw [e];exact hx⟩)
 |binOp op t x y t2=>exact DM.ti _ fun ti=>nomem (G:=fun k=>gL P t op (ev ts x) (ev ts y) k (lx op ti.kind (ev ts x) (ev ts y) k)) (D1.Yr P t op ti.kind (ev ts x) (ev ts y))
 |load t x=>exact DM.ti _ fun ti=>(DM.load ti.agg ti.size (ev ts x) m).mono (rd x (by simp [Hb,Op.operands]))
 |store t p y=>exact DM.ti _ fun ti=>(DM.store ti.size (ev ts p) (ev ts y) m).mono (rd p (by simp [Hb]))
 |indexAddr t x i=>exact DM.ti _ fun tt=>DM.sl _ (DM.ti _ fun ti=>DM.still (G:=fun m k=>oI ti.sh m (ev ts x) (ev ts i) k) (D1.idx _ m _ _) fun m' hm=>O5 _ _ (lk x (by simp [Hb,Op.operands]) m' hm))
 |_=>exact other (fun _ _ _ e=>(by cases e)) (fun _ _ e=>(by cases e)) (fun _ _ e=>(by cases e)) (fun _ _ _ _ _ e=>(by cases e)) (fun _ _ e=>(by cases e)) (fun _ _ _ e=>(by cases e)) (fun _ _ _ e=>(by cases e))
theorem SN {P:Program} {d:Nat} {op:Op} {ts ts':Env} (h:∀o,o∈op.operands.toList->ev ts' o=ev ts o) (m:Mem) (k:AV->Mem->Prop):cG P d op ts' m k=cG P d op ts m k:=by
 have parts:∀(ps:Array (Nat × Operand)),(∀o,o∈(ps.toList.map (·.2))->ev ts' o=ev ts o)->(ps.toList.map fun p=>(p.1,ev ts' p.2))=ps.toList.map fun p=>(p.1,ev ts p.2):=by intro ps hp;refine List.map_congr_left fun p hpp=> ?_;rw [hp p.2 (q16.2 ⟨p,hpp,rfl⟩)]
 have optm:∀(lo:Option Operand),(∀o,o∈lo.toList->ev ts' o=ev ts o)->lo.map (ev ts')=lo.map (ev ts):=by
  intro lo hp;cases lo with
  |none=>rfl
  |some o=>simp [hp o (by simp)]
 cases op with
 |call c=>
  obtain ⟨callee,args,tys⟩:=c;have hin:∀o,o∈args.toList->ev ts' o=ev ts o:=fun o ho=>h o (by simp only [Op.operands,Call.operands,Array.toList_append,List.mem_append];exact .inr ho);have hcl:∀t,callee= .value (.tmp t)->look ts' t=look ts t:=fun t e=>h (.tmp t) (by subst e;simp [Op.operands,Call.operands]);simp only [cG,iL];generalize args.toList=l at hin;split
  . rename_i f xs;rw [List.map_congr_left hin]
  . rw [List.map_congr_left hin,hcl _ rfl]
  . simp only [hin _ (q15 ..),hin _ (q14 _ (q15 ..))]
  split<;>first
   |rfl
   |(rename_i hx _;exact (hx _ rfl).elim)
   |(rename_i hx _ _;exact (hx _ rfl).elim)
   |simp only [hin _ (q15 ..),hin _ (q14 _ (q15 ..)),hin _ (q14 _ (q14 _ (q15 ..)))]
   |simp only [hin _ (q15 ..),hin _ (q14 _ (q15 ..))]
   |simp only [hin _ (q15 ..)]
 |makeFunc fn first caps=>
  cases fn<;>first
   |rfl
   |(simp only [cG,iL];rw [List.map_congr_left (fun o ho=>h o (by simp [Op.operands];exact .inr (by simpa using ho)))])
 |build t ps=>simp only [cG,iL];rw [parts ps fun o ho=>h o (by simpa [Op.operands] using ho)]
 |buildSlice t n ps=>simp only [cG,iL];rw [parts ps fun o ho=>h o (by simpa [Op.operands] using ho)]
 |slice t x lo hi mx=>
  cases mx with
  |none=>simp only [cG,iL];rw [h x (by simp [Op.operands]),optm lo fun o ho=>h o (by simp only [Op.operands];simp at ho ⊢;simp [ho]),optm hi fun o ho=>h o (by simp only [Op.operands];simp at ho ⊢;simp [ho])]
  |some mx=>
   cases lo with
   |none=>simp only [cG,iL];rw [h x (by simp [Op.operands])]
   |some lo=>rfl
 |unOp op t x=>cases op<;>simp only [cG,iL]<;>rw [h x (by simp [Op.operands])]
 |pick c x y=>simp only [cG,iL];rw [h c (by simp [Op.operands]),h x (by simp [Op.operands]),h y (by simp [Op.operands])]
 |store t x y=>simp only [cG];rw [h x (by simp [Op.operands]),h y (by simp [Op.operands])]
 |binOp op t x y t2=>simp only [cG];rw [h x (by simp [Op.operands]),h y (by simp [Op.operands])]
 |makeSlice t x y=>simp only [cG,iL];rw [h x (by simp [Op.operands]),h y (by simp [Op.operands])]
 |indexAddr t x y=>simp only [cG];rw [h x (by simp [Op.operands]),h y (by simp [Op.operands])]
 |index t x y=>simp only [cG,iL];rw [h x (by simp [Op.operands]),h y (by simp [Op.operands])]
 |move x=>simp only [cG,iL];rw [h x (by simp [Op.operands])]
 |assign x=>simp only [cG,iL];rw [h x (by simp [Op.operands])]
 |box t x=>simp only [cG,iL];rw [h x (by simp [Op.operands])]
 |load t x=>simp only [cG];rw [h x (by simp [Op.operands])]
 |nilCheck x=>simp only [cG,iL];rw [h x (by simp [Op.operands])]
 |convert s t x=>simp only [cG,iL];rw [h x (by simp [Op.operands])]
 |fieldAddr t x f=>simp only [cG,iL];rw [h x (by simp [Op.operands])]
 |field t x f=>simp only [cG,iL];rw [h x (by simp [Op.operands])]
 |extract x i=>simp only [cG,iL];rw [h x (by simp [Op.operands])]
 |_=>rfl
structure Rec where
 x:AV
 new:Mem
def cS (ops:List Oper) (o:Oper) (ts:Env):Option Bool:=match o.guard with
 |none=>some true
 |some (j,w)=>match look ts (jL ops j) with
  | .val (.bool c)=>some (c==w)
  | .aZ []=>some false
  |_=>none
def tR (ops:List Oper) (o:Oper):lN:=(o.op.operands.toList.filterMap fun| .tmp t=>some t|_=>none)++(match o.guard with|some (j,_)=>[jL ops j]|none=>[])
def vG (op:Op) (ts:Env):lN:=(Hb op).flatMap fun o=>(ao (ev ts o)).map (·.1)
def YA (P:Program) (ops:List Oper) (o:Oper) (q:Rec) (rd:lN) (ts:Env) (m:Mem):Prop:=
 (cS ops o ts=some true/\(∀l,l∈vG o.op ts->l∈rd)/\∀m',(∀l,l∈vG o.op ts->aj m' l=aj m l)->(∀l,l∈q.new.map (·.1)->aj m' l=aj m l)->∀k,k q.x (q.new++m')->cG P (o.dst.getD 0) o.op ts m' k)∨
 (cS ops o ts=some false/\q.x= .aZ []/\q.new=[])
theorem HX {ts ts':Env} {o:Operand} (h:∀t,o= .tmp t->look ts' t=look ts t):ev ts' o=ev ts o:=by
 cases o with
 |tmp t=>exact h t rfl
 |_=>rfl
theorem LF {ops:List Oper} {o:Oper} {ts ts':Env} (h:∀t,t∈tR ops o->look ts' t=look ts t):∀x,x∈o.op.operands.toList->ev ts' x=ev ts x:=fun x hx=>
 HX fun t ht=>h t (by
  subst ht;unfold tR
  exact List.mem_append_left _ (List.mem_filterMap.2 ⟨_,hx,rfl⟩))
theorem uS {ops:List Oper} {o:Oper} {ts ts':Env} (h:∀t,t∈tR ops o->look ts' t=look ts t):cS ops o ts'=cS ops o ts:=by
 unfold cS;split
 . rfl
 rename_i j w hg;rw [h (jL ops j) (by unfold tR;rw [hg];exact List.mem_append_right _ (List.mem_singleton.2 rfl))]
theorem YA.local {P:Program} {ops:List Oper} {o:Oper} {q:Rec} {rd:lN} {ts ts':Env} {m m':Mem} (h:YA P ops o q rd ts m) (ht:∀t,t∈tR ops o->look ts' t=look ts t)
 (hr:∀l,l∈rd->aj m' l=aj m l) (hn:∀l,l∈q.new.map (·.1)->aj m' l=aj m l):YA P ops o q rd ts' m':=by
 have hev:=LF ht;have hrd:vG o.op ts'=vG o.op ts:=by unfold vG;rw [List.flatMap_def,List.flatMap_def,List.map_congr_left fun x hx=>by rw [hev x (SM hx)]]
 rcases h with ⟨h1,h2,h3⟩|⟨h1,h2,h3⟩
 . refine .inl ⟨(uS ht).trans h1,fun l hl=>h2 l (hrd▸hl),fun m'' hm hm' k hk=> ?_⟩;rw [SN hev];exact h3 m'' (fun l hl=>(hm l (hrd▸hl)).trans (hr l (h2 l hl))) (fun l hl=>(hm' l hl).trans (hn l hl)) k hk
 exact .inr ⟨(uS ht).trans h1,h2,h3⟩
def dx (os:Nat->Oper) (qs:Nat->Rec) (D:Nat->Bool) (ts:Env) (m:Mem):Nat->Env × Mem
 |0=>(ts,m)
 |i+1=>if D i then (mz (os i).dst (qs i).x (dx os qs D ts m i).1,(qs i).new++(dx os qs D ts m i).2) else dx os qs D ts m i
section
variable {os:Nat->Oper} {qs:Nat->Rec} {D D':Nat->Bool} {ts:Env} {m:Mem}
theorem pF (d:Option Nat) (x:AV) (ts:Env) (t:Nat):look (mz d x ts) t=if d=some t then x else look ts t:=by
 cases d with
 |none=>simp [mz]
 |some d=>simp [mz,cV]
theorem kB {new m:Mem} {l:Nat} (h:l∉new.map (·.1)):aj (new++m) l=aj m l:=by
 induction new with
 |nil=>rfl
 |cons p r ih=>
  obtain ⟨k,v⟩:=p;simp only [List.map_cons,q13,not_or] at h;rw [List.cons_append,aw,if_neg (fun e=>h.1 e.symm),ih h.2]
theorem sc {new m m':Mem} {l:Nat} (h:l∈new.map (·.1)):aj (new++m) l=aj (new++m') l:=by
 induction new with
 |nil=>cases h
 |cons p r ih=>
  obtain ⟨k,v⟩:=p;simp only [List.cons_append,aw];by_cases e:k=l
  . simp [e]
  simp only [if_neg e];exact ih (by simp only [List.map_cons,q13] at h;exact h.resolve_left fun hh=>e hh.symm)
theorem xR {t:Nat}:∀(hi:Nat) (lo:Nat),lo<=hi->(∀i,lo<=i->i<hi->D i≠D' i->(os i).dst≠some t)->look (dx os qs D ts m lo).1 t=look (dx os qs D' ts m lo).1 t→
 look (dx os qs D ts m hi).1 t=look (dx os qs D' ts m hi).1 t
 |0,lo,hl,_,h=>by rw [show lo=0 by omega] at h;exact h
 |hi+1,lo,hl,hd,h=>by
  by_cases e:lo=hi+1
  . subst e;exact h
  have ih:=xR hi lo (by omega) (fun i h1 h2=>hd i h1 (by omega)) h;have hne:=hd hi (by omega) (by omega);simp only [dx];cases h1:D hi<;>cases h2:D' hi<;>simp only [q6,if_true,if_false]<;>(try simp only [pF])
  . exact ih
  . rw [if_neg (hne (by simp [h1,h2]))];exact ih
  . rw [if_neg (hne (by simp [h1,h2]))];exact ih
  rw [ih]
theorem pH {l:Nat}:∀(hi:Nat) (lo:Nat),lo<=hi->(∀i,lo<=i->i<hi->D i≠D' i->l∉(qs i).new.map (·.1))->aj (dx os qs D ts m lo).2 l=aj (dx os qs D' ts m lo).2 l→
 aj (dx os qs D ts m hi).2 l=aj (dx os qs D' ts m hi).2 l
 |0,lo,hl,_,h=>by rw [show lo=0 by omega] at h;exact h
 |hi+1,lo,hl,hd,h=>by
  by_cases e:lo=hi+1
  . subst e;exact h
  have ih:=pH hi lo (by omega) (fun i h1 h2=>hd i h1 (by omega)) h;have hne:=hd hi (by omega) (by omega);simp only [dx];cases h1:D hi<;>cases h2:D' hi<;>simp only [q6,if_true,if_false]
  . exact ih
  . rw [kB (hne (by simp [h1,h2]))];exact ih
  . rw [kB (hne (by simp [h1,h2]))];exact ih
  by_cases hl:l∈(qs hi).new.map (·.1)
  . exact sc hl
  rw [kB hl,kB hl];exact ih
theorem kP {j:Nat}:∀(i:Nat),i<=j->(∀q,q<j->D q=D' q)->dx os qs D ts m i=dx os qs D' ts m i
 |0,_,_=>rfl
 |i+1,hi,h=>by simp only [dx];rw [kP i (by omega) h,h i (by omega)]
theorem mJ {j:Nat} (h:∀q,j<=q->D q=false):∀(i:Nat),j<=i->dx os qs D ts m i=dx os qs D ts m j
 |0,hi=>by rw [show j=0 by omega]
 |i+1,hi=>by
  by_cases e:j=i+1
  . rw [e]
  simp only [dx];rw [h i (by omega)];simpa using mJ h i (by omega)
end
def ins (a xs:lN):lN:=xs.foldl (fun a x=>if a.contains x then a else x::a) a
theorem J3 {x:Nat}:∀(xs a:lN),x∈ins a xs->x∈a\/x∈xs
 | [],a,h=>.inl h
 |y::r,a,h=>by
  simp only [ins,List.foldl_cons] at h;rcases J3 r _ h with h|h
  . split at h
    . exact .inl h
    rcases q13.1 h with rfl|h
    . exact .inr (q15 ..)
    exact .inl h
  exact .inr (q14 _ h)
def iA (o:Oper):lN:=(o.after.toList.filter (Region.binds .any)).map (·.on)
def Up (acc:List lN) (o:Oper):lN:=(iA o).foldl (fun a i=>ins a (i::acc.getD i [])) []
theorem By {x:Nat} {acc:List lN}:∀(ps a:lN),x∈ps.foldl (fun a i=>ins a (i::acc.getD i [])) a->x∈a\/∃i,i∈ps/\(x=i\/x∈acc.getD i [])
 | [],a,h=>.inl h
 |p::r,a,h=>by
  rw [List.foldl_cons] at h;rcases By r _ h with h|⟨i,hi,h⟩
  . rcases J3 _ _ h with h|h
    . exact .inl h
    exact .inr ⟨p,q15 ..,q13.1 h⟩
  exact .inr ⟨i,q14 _ hi,h⟩
def xS:List Oper->List lN->List lN
 | [],acc=>acc
 |o::r,acc=>xS r (acc++[Up acc o])
def ik (ops:List Oper) (D:Nat->Bool):Prop:=∀j o,ops[j]? =some o->D j=true->∀i,i∈iA o->D i=true
theorem jE {ops:List Oper} {D:Nat->Bool} (hD:ik ops D):∀(l:List Oper) (acc:List lN),ops.drop acc.length=l->(∀j x,x∈acc.getD j []->D j=true->D x=true)→
 ∀j x,x∈(xS l acc).getD j []->D j=true->D x=true
 | [],acc,_,h=>h
 |o::r,acc,hl,h=>by
  have hoi:ops[acc.length]? =some o:=by have:=congrArg (·[0]?) hl;simpa using this
  refine jE hD r (acc++[Up acc o]) ?_ ?_
  . have:=congrArg List.tail hl;simpa using this
  intro j x hx hj;by_cases e:j<acc.length
  . refine h j x ?_ hj
    rwa [q8,List.getElem?_append_left e,←q8] at hx
  by_cases e2:j=acc.length
  . subst e2;rw [q8,List.getElem?_append_right (q20 _)] at hx;simp only [Nat.sub_self,List.getElem?_cons_zero,Option.getD_some] at hx;rcases By _ _ hx with hx|⟨i,hi,hx⟩
    . cases hx
    have h1:=hD _ o hoi hj i hi;rcases hx with rfl|hx
    . exact h1
    exact h i x hx h1
  rw [q8,q10 (by simp;omega)] at hx;cases hx
def HY (ops:List Oper) (oi oj:Oper) (ti tj:lN × lN):Bool:=
 (match oi.dst with|some d=> !(tR ops oj).contains d&&oj.dst != some d|none=>true)&&(match oj.dst with|some d=> !(tR ops oi).contains d|none=>true)&&
 ti.2.all (fun l=> !tj.1.contains l&& !tj.2.contains l)&&tj.2.all (fun l=> !ti.1.contains l)
def uT (ops:List Oper):Bool:=(List.range ops.length).all fun i=>match ops[i]? with|some o=>(iA o).all fun p=>decide (p<i)|none=>true
def mL (ops:List Oper) (tr:List (lN × lN)):Bool:=
 uT ops&&(List.range ops.length).all fun j=>(List.range j).all fun i=>((xS ops []).getD j []).contains i||
  match ops[i]?,ops[j]?,tr[i]?,tr[j]? with
  |some oi,some oj,some ti,some tj=>HY ops oi oj ti tj
  |_,_,_,_=>false
structure CP (ops:List Oper) (oi oj:Oper) (ri rj wi wj:lN):Prop where
 t1:∀d,oi.dst=some d->d∉tR ops oj
 t2:∀d,oj.dst=some d->d∉tR ops oi
 t3:∀d,oi.dst=some d->oj.dst≠some d
 l1:∀l,l∈wi->l∉rj
 l2:∀l,l∈wj->l∉ri
 l3:∀l,l∈wi->l∉wj
theorem HZ {ops:List Oper} {oi oj:Oper} {ti tj:lN × lN} (h:HY ops oi oj ti tj=true):CP ops oi oj ti.1 tj.1 ti.2 tj.2:=by
 simp only [HY,Bool.and_eq_true,List.all_eq_true,Bool.not_eq_true',List.contains_eq_mem,decide_eq_false_iff_not] at h;obtain ⟨⟨⟨h1,h2⟩,h3⟩,h4⟩:=h;refine ⟨fun d hd=> ?_,fun d hd=> ?_,fun d hd=> ?_,fun l hl=>(h3 l hl).1,fun l hl=>h4 l hl,fun l hl=>(h3 l hl).2⟩
 . rw [hd] at h1;simp at h1;exact h1.1
 . rw [hd] at h2;simp at h2;exact h2
 rw [hd] at h1;simp at h1;exact h1.2
theorem Bz {ops:List Oper} {tr:List (lN × lN)} (h:mL ops tr=true) {D:Nat->Bool} (hD:ik ops D) {i j:Nat} (hij:i<j) {oi oj:Oper} {ti tj:lN × lN}
 (hi:ops[i]? =some oi) (hj:ops[j]? =some oj) (h1:tr[i]? =some ti) (h2:tr[j]? =some tj) (hd:¬(D j=true->D i=true)):CP ops oi oj ti.1 tj.1 ti.2 tj.2:=by
 have hjl:j<ops.length:=(q11.1 hj).1;simp only [mL,Bool.and_eq_true,List.all_eq_true,List.mem_range,Bool.or_eq_true,List.contains_eq_mem,decide_eq_true_eq] at h;rcases h.2 j hjl i hij with hh|hh
 . exact absurd (jE hD ops [] rfl (fun j x hx=>by simp at hx) j i hh) hd
 rw [hi,hj,h1,h2] at hh;exact HZ hh
section
variable {P:Program} {B:eO} {N:Nat} {φ:Nat->LS} {fp:Nat->lN} {S:Nat->Prop} {ts:Env} {m:Mem} {a:Act} {w:World}
theorem RS.ext (h:RS B N φ fp S ts m a w) {ts':Env} {m':Mem} (ht:∀t,look ts' t=look ts t) (hm:∀l,aj m' l=aj m l):RS B N φ fp S ts' m' a w:=by
 have hk:∀l af,known m l af->known m' l af:=fun l af ⟨k,h1,h2⟩=>⟨k,(hm l).trans h1,h2⟩
 exact {h with
  kn:=fun l af hl hk=>by obtain ⟨k,h1,h2⟩:=h.kn l af hl hk;exact ⟨k,(hm l).trans h1,h2⟩
  tm:=fun t=>by rw [ht t];exact h.tm t
  tl:=fun t l af hl=>hk l af (h.tl t l af (by rw [←ht t];exact hl))
  bU:=fun l hl=>h.bU l ((hm l).symm.trans hl)
  aF:=fun l k hl=>h.aF l k ((hm l).symm.trans hl)
  bl:=fun l v xs hl l' af hlv=>hk l' af (h.bl l v xs ((hm l).symm.trans hl) l' af hlv)}
variable {os:Nat->Oper} {qs:Nat->Rec} {D D':Nat->Bool} {ops:List Oper} {tr:List (lN × lN)}
theorem Fk {lo:Nat} {t:Nat}:∀(hi:Nat),lo<=hi->(∀i,lo<=i->i<hi->D i=true->(os i).dst≠some t)->look (dx os qs D ts m hi).1 t=look (dx os qs D ts m lo).1 t
 |0,hl,_=>by rw [show lo=0 by omega]
 |hi+1,hl,h=>by
  by_cases e:lo=hi+1
  . rw [e]
  have ih:=Fk hi (by omega) fun i h1 h2=>h i h1 (by omega);simp only [dx];cases hd:D hi with
  |false=>simpa using ih
  |true=>
   simp only [if_true,pF];rw [if_neg (h hi (by omega) (by omega) hd)];exact ih
theorem BA {lo:Nat} {l:Nat}:∀(hi:Nat),lo<=hi->(∀i,lo<=i->i<hi->D i=true->l∉(qs i).new.map (·.1))->aj (dx os qs D ts m hi).2 l=aj (dx os qs D ts m lo).2 l
 |0,hl,_=>by rw [show lo=0 by omega]
 |hi+1,hl,h=>by
  by_cases e:lo=hi+1
  . rw [e]
  have ih:=BA hi (by omega) fun i h1 h2=>h i h1 (by omega);simp only [dx];cases hd:D hi with
  |false=>simpa using ih
  |true=>
   simp only [if_true];rw [kB (h hi (by omega) (by omega) hd)];exact ih
structure SO (P:Program) (sk:Nat) (ops:List Oper) (os:Nat->Oper) (qs:Nat->Rec) (tr:List (lN × lN)) (ts:Env) (m:Mem):Prop where
 oe:∀i o,sk<=i->ops[i]? =some o->os i=o
 ya:∀i o,sk<=i->ops[i]? =some o->∃t,tr[i]? =some t/\YA P ops o (qs i) t.1 (dx os qs (fun _=>true) ts m i).1 (dx os qs (fun _=>true) ts m i).2/\∀l,l∈(qs i).new.map (·.1)->l∈t.2
def iU (D:Nat->Bool) (j:Nat):Nat->Bool:=fun i=>D i||i==j
theorem ik.add {j:Nat} {o:Oper} (h:ik ops D) (ho:ops[j]? =some o) (hp:∀i,i∈iA o->D i=true):ik ops (iU D j):=by
 intro k o' hk hd i hi;simp only [iU,Bool.or_eq_true,beq_iff_eq] at hd ⊢;rcases hd with hd|rfl
 . exact .inl (h k o' hk hd i hi)
 rw [ho] at hk;injection hk with hk;subst hk;exact .inl (hp i hi)
theorem SO.VC {sk:Nat} (hR:SO P sk ops os qs tr ts m) (hB:mL ops tr=true) (hD:ik ops D) (hn:∀i,D i=true->i<ops.length) (hsk:∀i,i<sk->D i=true) {j:Nat} {o:Oper} (ho:ops[j]? =some o) (hj:D j=false)
 (hp:∀i,i∈iA o->D i=true):
 (∃rd,YA P ops o (qs j) rd (dx os qs D ts m ops.length).1 (dx os qs D ts m ops.length).2)∧
 (∀t,look (dx os qs (iU D j) ts m ops.length).1 t=look (mz o.dst (qs j).x (dx os qs D ts m ops.length).1) t)∧
 (∀l,aj (dx os qs (iU D j) ts m ops.length).2 l=aj ((qs j).new++(dx os qs D ts m ops.length).2) l):=by
 have hjn:j<ops.length:=(q11.1 ho).1;have XW:sk<=j:=by
  rcases Nat.lt_or_ge j sk with h|h
  . rw [hsk j h] at hj;cases hj
  exact h
 obtain ⟨t,ht,hya,iu⟩:=hR.ya j o XW ho;have hoj:=hR.oe j o XW ho;have Ny:∀i,sk<=i->i<ops.length->∃(oi:Oper) (ti:lN × lN),ops[i]? =some oi/\os i=oi/\tr[i]? =some ti/\∀l,l∈(qs i).new.map (·.1)->l∈ti.2:=by intro i hsi hi;have h1:ops[i]? =some ops[i]:=q9 hi;obtain ⟨ti,h2,_,h3⟩:=hR.ya i _ hsi h1;exact ⟨_,ti,h1,hR.oe i _ hsi h1,h2,h3⟩
 have early:∀i,i<j->D i=false->∃(oi:Oper) (ti:lN × lN),os i=oi/\(∀l,l∈(qs i).new.map (·.1)->l∈ti.2)/\CP ops oi o ti.1 t.1 ti.2 t.2:=by
  intro i hi hdi;have hsi:sk<=i:=by
   rcases Nat.lt_or_ge i sk with h|h
   . rw [hsk i h] at hdi;cases hdi
   exact h
  obtain ⟨oi,ti,h1,h2,h3,h4⟩:=Ny i hsi (by omega);refine ⟨oi,ti,h2,h4,Bz hB (hD.add ho hp) hi h1 ho h3 ht fun hh=> ?_⟩;have:=hh (by simp [iU]);simp only [iU,hdi,Bool.false_or,beq_iff_eq] at this;omega
 have late:∀i,j<i->D i=true->∃(oi:Oper) (ti:lN × lN),os i=oi/\(∀l,l∈(qs i).new.map (·.1)->l∈ti.2)/\CP ops o oi t.1 ti.1 t.2 ti.2:=by intro i hi hdi;obtain ⟨oi,ti,h1,h2,h3,h4⟩:=Ny i (by omega) (hn i hdi);refine ⟨oi,ti,h2,h4,Bz hB hD hi ho h1 ht h3 fun hh=> ?_⟩;have:=hh hdi;rw [hj] at this;cases this
 have dC:dx os qs (fun _=>true) ts m j=dx os qs (fun i=>decide (i<j)) ts m ops.length:=by rw [mJ (j:=j) (fun q hq=>by simp;omega) ops.length (by omega)];exact kP j (q20 _) fun q hq=>by simp [hq]
 rw [dC] at hya;refine ⟨⟨t.1,hya.local (fun u hu=> ?_) (fun l hl=> ?_) (fun l hl=> ?_)⟩,fun u=> ?_,fun l=> ?_⟩
 . refine xR ops.length 0 (Nat.zero_le _) (fun i _ hi hne=> ?_) rfl;rcases Nat.lt_trichotomy i j with h|h|h
   . simp only [h,decide_true] at hne;obtain ⟨oi,ti,h1,h2,h3⟩:=early i h (by simpa using hne);rw [h1];exact fun hd=>h3.t1 _ hd hu
   . subst h;simp [hj] at hne
   have:decide (i<j)=false:=by simp;omega
   rw [this] at hne;obtain ⟨oi,ti,h1,h2,h3⟩:=late i h (by simpa using hne);rw [h1];exact fun hd=>h3.t2 _ hd hu
 . refine pH ops.length 0 (Nat.zero_le _) (fun i _ hi hne=> ?_) rfl;rcases Nat.lt_trichotomy i j with h|h|h
   . simp only [h,decide_true] at hne;obtain ⟨oi,ti,h1,h2,h3⟩:=early i h (by simpa using hne);exact fun hd=>h3.l1 _ (h2 l hd) hl
   . subst h;simp [hj] at hne
   have:decide (i<j)=false:=by simp;omega
   rw [this] at hne;obtain ⟨oi,ti,h1,h2,h3⟩:=late i h (by simpa using hne);exact fun hd=>h3.l2 _ (h2 l hd) hl
 . refine pH ops.length 0 (Nat.zero_le _) (fun i _ hi hne=> ?_) rfl;rcases Nat.lt_trichotomy i j with h|h|h
   . simp only [h,decide_true] at hne;obtain ⟨oi,ti,h1,h2,h3⟩:=early i h (by simpa using hne);exact fun hd=>h3.l3 _ (h2 l hd) (iu l hl)
   . subst h;simp [hj] at hne
   have:decide (i<j)=false:=by simp;omega
   rw [this] at hne;obtain ⟨oi,ti,h1,h2,h3⟩:=late i h (by simpa using hne);exact fun hd=>h3.l3 _ (iu l hl) (h2 l hd)
 . rw [pF];by_cases hd:o.dst=some u
   . rw [if_pos hd]
     rw [Fk (lo:=j+1) ops.length hjn fun i h1 h2 h3=>by
      have hdi:D i=true:=by simp only [iU,Bool.or_eq_true,beq_iff_eq] at h3;exact h3.resolve_right (by omega)
      obtain ⟨oi,ti,g1,_,g3⟩:=late i h1 hdi;rw [g1]
      exact g3.t3 u hd]
     simp only [dx,iU,beq_self_eq_true,Bool.or_true,if_true,pF,hoj,hd]
   rw [if_neg hd];refine xR ops.length 0 (Nat.zero_le _) (fun i _ hi hne=> ?_) rfl;have:i=j:=by
    by_cases e:i=j
    . exact e
    have:(i==j)=false:=by simpa using e
    simp [iU,this] at hne
   subst this;rw [hoj];exact hd
 by_cases hd:l∈(qs j).new.map (·.1)
 . rw [BA (lo:=j+1) ops.length hjn fun i h1 h2 h3=>by
    have hdi:D i=true:=by simp only [iU,Bool.or_eq_true,beq_iff_eq] at h3;exact h3.resolve_right (by omega)
    obtain ⟨oi,ti,g1,g2,g3⟩:=late i h1 hdi
    exact fun hl=>g3.l3 l (iu l hd) (g2 l hl)]
   simp only [dx,iU,beq_self_eq_true,Bool.or_true,if_true];exact sc hd
 rw [kB hd];refine pH ops.length 0 (Nat.zero_le _) (fun i _ hi hne=> ?_) rfl;have:i=j:=by
  by_cases e:i=j
  . exact e
  have:(i==j)=false:=by simpa using e
  simp [iU,this] at hne
 subst this;exact hd
theorem cC (h:RS B N φ fp S ts m a w) (hgs:di N ops=true) {j:Nat} {o:Oper} (ho:ops[j]? =some o) {b:Bool} (hw:cS ops o ts=some b):Region.wanted o (yielded ops.toArray a.tmps)=b:=by
 unfold cS at hw;unfold Region.wanted;split at hw
 . rename_i hg;rw [hg];injection hw
 rename_i i v hg;rw [hg];split at hw
 . rename_i c hl;have hgo:=List.all_eq_true.1 hgs o (List.mem_of_getElem? ho);rw [hg] at hgo;have hj:∃d,((ops[i]?).bind (·.dst))=some d/\d<N:=by
    simp only at hgo;split at hgo
    . rename_i d hd;exact ⟨d,hd,by simpa using hgo⟩
    cases hgo
   have hy:=ES h hl hj;simp only [hy];injection hw
 . rename_i hl;have hgo:=List.all_eq_true.1 hgs o (List.mem_of_getElem? ho);rw [hg] at hgo;have hj:∃d,((ops[i]?).bind (·.dst))=some d/\d<N:=by
    simp only at hgo;split at hgo
    . rename_i d hd;exact ⟨d,hd,by simpa using hgo⟩
    cases hgo
   have hy:=xo h hl hj;simp only [hy];injection hw with hw
 cases hw
theorem pI {f g:Nat->Bool}:∀(l:lN) (j:Nat),j∈l->f j=true->g j=false->(∀i,g i=true->f i=true)->l.countP g<l.countP f
 |x::r,j,hj,hf,hg,h=>by
  have hle:∀l:lN,l.countP g<=l.countP f:=fun l=>List.countP_mono_left fun i _ hi=>h i hi;rw [List.countP_cons,List.countP_cons];rcases q13.1 hj with rfl|hj
  . have:=hle r;simp [hf,hg];omega
  have:=pI r j hj hf hg h;have h1:=h x;cases hgx:g x<;>cases hfx:f x<;>simp_all<;>(try omega)
def CQ (n:Nat) (listed:Array Bool):Nat:=(List.range n).countP fun i=> !listed.getD i false
theorem BB {sk:Nat} {ts0:Env} {m0:Mem} (hR:SO P sk ops os qs tr ts0 m0) (hB:mL ops tr=true) (hok:jM N ops=true) (hgs:di N ops=true) {Q:Exit->Act->World->Prop} {K:St}
 (hK:K (dx os qs (fun _=>true) ts0 m0 ops.length).1 (dx os qs (fun _=>true) ts0 m0 ops.length).2) (hQ:∀a w,ie B N K a w->Q .normal a w):
 ∀(fuel:Nat) (listed:Array Bool) (φ:Nat->LS) (fp:Nat->lN) (S:Nat->Prop) (a:Act) (w:World),listed.size=ops.length->ik ops (fun i=>listed.getD i false)->(∀i,i<sk->listed.getD i false=true)->CQ ops.length listed<=fuel→
  RS B N φ fp S (dx os qs (fun i=>listed.getD i false) ts0 m0 ops.length).1 (dx os qs (fun i=>listed.getD i false) ts0 m0 ops.length).2 a w->wpAny P .any ops.toArray Q fuel listed a w:=by
 have qv:∀i o,ops[i]? =some o->∀p,p∈iA o->p<i:=by intro i o ho p hp;simp only [mL,uT,Bool.and_eq_true,List.all_eq_true,List.mem_range] at hB;have:=hB.1 i (q11.1 ho).1;rw [ho] at this;simpa using List.all_eq_true.1 this p hp
 have cX:∀(listed:Array Bool),listed.size=ops.length->Region.ready .any ops.toArray listed=[]->∀i,i<ops.length->listed.getD i false=true:=by
  intro listed hs hr i;induction i using Nat.strongRecOn with
  |ind i ih=>
   intro hi;cases hl:listed.getD i false with
   |true=>rfl
   |false=>
    have ho:ops[i]? =some ops[i]:=q9 hi
    have:i∈Region.ready .any ops.toArray listed:=mem_ready.2 ⟨getD_in (by omega) hl,ops[i],by simpa using ho,fun e he hb=>by
     have hp:e.on∈iA ops[i]:=q16.2 ⟨e,List.mem_filter.2 ⟨by simpa using he,hb⟩,rfl⟩;have hlt:=qv i _ ho _ hp
     exact ih e.on hlt (by omega)⟩
    rw [hr] at this;cases this
 have cF:∀(listed:Array Bool) (φ:Nat->LS) (fp:Nat->lN) (S:Nat->Prop) (a:Act) (w:World),(∀i,i<ops.length->listed.getD i false=true)→
  RS B N φ fp S (dx os qs (fun i=>listed.getD i false) ts0 m0 ops.length).1 (dx os qs (fun i=>listed.getD i false) ts0 m0 ops.length).2 a w->Q .normal a w:=by
  intro listed φ fp S a w hl h;have e:dx os qs (fun i=>listed.getD i false) ts0 m0 ops.length=dx os qs (fun _=>true) ts0 m0 ops.length:=kP ops.length (q20 _) fun q hq=>hl q hq;rw [e] at h;exact hQ a w ⟨φ,fp,S,_,_,h,hK⟩
 intro fuel;induction fuel with
 |zero=>
  intro listed φ fp S a w hs hc hsk hf h;have hl:∀i,i<ops.length->listed.getD i false=true:=by
   intro i hi;cases hl:listed.getD i false with
   |true=>rfl
   |false=>
    have h0:CQ ops.length listed=0:=Nat.le_zero.1 hf;have:=List.countP_eq_zero.1 h0 i (List.mem_range.2 hi);rw [hl] at this;exact absurd rfl this
  refine ⟨?_,cF listed φ fp S a w hl h⟩;cases hr:Region.ready .any ops.toArray listed with
  |nil=>rfl
  |cons j r=>
   have hj:j∈Region.ready .any ops.toArray listed:=by rw [hr];exact q15 ..
   obtain ⟨h0,o,ho,_⟩:=mem_ready.1 hj;have hjn:j<ops.length:=by simpa using (q2.1 ho).1
   have:=hl j hjn;rw [getD_both h0] at this;cases this
 |succ fuel ih=>
  intro listed φ fp S a w hs hc hsk hf h;refine ⟨fun hr=>cF listed φ fp S a w (cX listed hs hr) h,fun j hj=> ?_⟩;obtain ⟨h0,o,ho,dC⟩:=mem_ready.1 hj;have hdj:listed.getD j false=false:=getD_both h0;have ho':ops[j]? =some o:=by simpa using ho
  have hjn:j<ops.length:=(q11.1 ho').1;have hp:∀i,i∈iA o->listed.getD i false=true:=by intro i hi;obtain ⟨e,he,rfl⟩:=q16.1 hi;obtain ⟨he1,he2⟩:=List.mem_filter.1 he;exact dC e (by simpa using he1) he2
  obtain ⟨⟨rd,hya⟩,hlk,hlb⟩:=hR.VC (D:=fun i=>listed.getD i false) hB hc (fun i hi=>by
   rcases Nat.lt_or_ge i listed.size with h'|h'
   . omega
   rw [q0,Array.getElem?_eq_none h'] at hi;cases hi) hsk ho' hdj hp
  have hD':(fun i=>(listed.setIfInBounds j true).getD i false)=iU (fun i=>listed.getD i false) j:=by
   funext i;by_cases e:i=j
   . subst e;simp [iU,hs,hjn]
   have e2:(i==j)=false:=by simpa using e
   rw [getD_set_ne false (Ne.symm e)];simp [iU,e2]
  have hf':CQ ops.length (listed.setIfInBounds j true)<=fuel:=by
   have:CQ ops.length (listed.setIfInBounds j true)<CQ ops.length listed:=by
    refine pI _ j (List.mem_range.2 hjn) (by simp only [hdj];rfl) (by simp [hs,hjn]) fun i hi=> ?_;by_cases e:i=j
    . subst e;rw [hdj];rfl
    rw [getD_set_ne false (Ne.symm e)] at hi;exact hi
   omega
  have next:∀a' w',ie B N (fun ts m=>ts=mz o.dst (qs j).x (dx os qs (fun i=>listed.getD i false) ts0 m0 ops.length).1/\m=(qs j).new++(dx os qs (fun i=>listed.getD i false) ts0 m0 ops.length).2) a' w'→
   wpAny P .any ops.toArray Q fuel (listed.setIfInBounds j true) a' w':=by
   rintro a' w' ⟨φ',fp',S',ts',m',h',rfl,rfl⟩
   refine ih _ φ' fp' S' a' w' (by simp [hs]) (by rw [hD'];exact hc.add ho' hp) (fun i hi=>by
    by_cases e:i=j
    . subst e;simp [hs,hjn]
    rw [getD_set_ne false (Ne.symm e)];exact hsk i hi) hf' ?_
   rw [hD'];exact h'.ext hlk hlb
  have hdo:∀d,o.dst=some d->d<N:=by intro d hd;have:=List.all_eq_true.1 hok o (List.mem_of_getElem? ho');rw [hd] at this;simpa using this
  unfold wpOp;simp only [ho];rcases hya with ⟨hw,_,cO⟩|⟨hw,hx,iu⟩
  . rw [cC h hgs ho' hw];simp only [if_true];refine .inl (gm h (xQ (cO _ (fun _ _=>rfl) (fun _ _=>rfl) (fun x m'=>x=(qs j).x/\m'=(qs j).new++(dx os qs (fun i=>listed.getD i false) ts0 m0 ops.length).2) ⟨rfl,rfl⟩)) fun v w' hg=> ?_);exact next _ _ (step_done hdo hg fun x m' ⟨h1,h2⟩=>⟨by rw [h1],h2⟩)
  rw [cC h hgs ho' hw];simp only [q6,if_false];refine next _ _ (step_done (k:=fun x m'=>x= .aZ []/\m'=(dx os qs (fun i=>listed.getD i false) ts0 m0 ops.length).2) hdo (h.gives (x:=.aZ []) (.rd _ _ (.aZ [] #[] rfl fun i hi=>absurd hi (q23 _))) (fun _ _ hl=>by cases hl) ⟨rfl,rfl,rfl⟩) fun x m' ⟨h1,h2⟩=>⟨by rw [h1,hx],by rw [h2,iu];rfl⟩)
end
def zm (m' m:Mem):lN:=(m'.take (m'.length-m.length)).map (·.1)
theorem SP (new m:Mem):zm (new++m) m=new.map (·.1):=by unfold zm;rw [List.length_append,Nat.add_sub_cancel,List.take_left'];rfl
def sD (P:Program) (ops:List Oper):List Oper->Env->Mem->List (lN × lN)->St->Prop
 | [],ts,m,tr,k=>mL ops tr.reverse=true/\k ts m
 |o::r,ts,m,tr,k=>match o.guard with
  |none=>cG P (o.dst.getD 0) o.op ts m fun x m'=>sD P ops r (mz o.dst x ts) m' ((vG o.op ts,zm m' m)::tr) k
  |some (j,want)=>gp want (look ts (jL ops j)) (cG P (o.dst.getD 0) o.op ts m fun x m'=>sD P ops r (mz o.dst x ts) m' ((vG o.op ts,zm m' m)::tr) k)
    (sD P ops r (mz o.dst (.aZ []) ts) m (([],[])::tr) k)
theorem mem_keys {new:Mem} {l:Nat} (h:aj new l≠none):l∈new.map (·.1):=by
 induction new with
 |nil=>exact absurd rfl h
 |cons p r ih=>
  obtain ⟨k,v⟩:=p;rw [aw] at h;by_cases e:k=l
  . simp [e]
  rw [if_neg e] at h;exact q14 _ (ih h)
theorem H0 {os:Nat->Oper} {qs qs':Nat->Rec} {D:Nat->Bool} {ts:Env} {m:Mem}:∀(i:Nat),(∀j,j<i->qs j=qs' j)->dx os qs D ts m i=dx os qs' D ts m i
 |0,_=>rfl
 |i+1,h=>by simp only [dx];rw [H0 i fun j hj=>h j (by omega),h i (by omega)]
def Yu (P:Program) (sk:Nat) (ops:List Oper) (os:Nat->Oper) (qs:Nat->Rec) (tr:List (lN × lN)) (ts:Env) (m:Mem) (n:Nat):Prop:=
 ∀i o,sk<=i->i<n->ops[i]? =some o->∃t,tr[i]? =some t/\YA P ops o (qs i) t.1 (dx os qs (fun _=>true) ts m i).1 (dx os qs (fun _=>true) ts m i).2/\∀l,l∈(qs i).new.map (·.1)->l∈t.2
theorem xT {P:Program} {sk:Nat} {ops:List Oper} {os:Nat->Oper} (hos:∀i o,sk<=i->ops[i]? =some o->os i=o) {ts0:Env} {m0:Mem} {K:St}:
 ∀(r:List Oper) (i:Nat) (qs:Nat->Rec) (tr:List (lN × lN)) (ts:Env) (m:Mem),ops.drop i=r->sk<=i->i<=ops.length->tr.length=i->dx os qs (fun _=>true) ts0 m0 i=(ts,m)->Yu P sk ops os qs tr.reverse ts0 m0 i->sD P ops r ts m tr K→
  ∃qs' tr,SO P sk ops os qs' tr ts0 m0/\mL ops tr=true/\K (dx os qs' (fun _=>true) ts0 m0 ops.length).1 (dx os qs' (fun _=>true) ts0 m0 ops.length).2/\∀j,j<i->qs' j=qs j
 | [],i,qs,tr,ts,m,hl,XX,hin,ht,hs,hu,hk=>by
   have hn:ops.length<=i:=by have:=congrArg List.length hl;simp at this;omega
   have e:i=ops.length:=by omega
   subst e;exact ⟨qs,tr.reverse,⟨hos,fun j o hsj ho=>hu j o hsj (q11.1 ho).1 ho⟩,hk.1,by rw [hs];exact hk.2,fun _ _=>rfl⟩
 |o::r,i,qs,tr,ts,m,hl,XX,hin,ht,hs,hu,hk=>by
  have hi:i<ops.length:=by have:=congrArg List.length hl;simp at this;omega
  have hoi:ops[i]? =some o:=by have:=congrArg (·[0]?) hl;simpa using this
  have hr:ops.drop (i+1)=r:=by have:=congrArg List.tail hl;simpa using this
  have go:∀(q:Rec) (t:lN × lN),YA P ops o q t.1 ts m->(∀l,l∈q.new.map (·.1)->l∈t.2)->sD P ops r (mz o.dst q.x ts) (q.new++m) (t::tr) K→
   ∃qs' tr,SO P sk ops os qs' tr ts0 m0/\mL ops tr=true/\K (dx os qs' (fun _=>true) ts0 m0 ops.length).1 (dx os qs' (fun _=>true) ts0 m0 ops.length).2/\∀j,j<i->qs' j=qs j:=by
   intro q t hya iu hk;have hq:∀j,j<i->qs j=(fun k=>if k=i then q else qs k) j:=fun j hj=>by simp;intro e;omega
   have hst:∀j,j<=i->dx os (fun k=>if k=i then q else qs k) (fun _=>true) ts0 m0 j=dx os qs (fun _=>true) ts0 m0 j:=fun j hj=>(H0 j fun k hk=>hq k (by omega)).symm;suffices hh:∃qs' tr,SO P sk ops os qs' tr ts0 m0/\mL ops tr=true/\K (dx os qs' (fun _=>true) ts0 m0 ops.length).1 (dx os qs' (fun _=>true) ts0 m0 ops.length).2/\∀j,j<i+1->qs' j=(fun k=>if k=i then q else qs k) j by obtain ⟨qs',tr',g1,g2,g3,g4⟩:=hh;exact ⟨qs',tr',g1,g2,g3,fun j hj=>(g4 j (by omega)).trans (hq j hj).symm⟩
   refine xT hos r (i+1) (fun k=>if k=i then q else qs k) (t::tr) _ _ hr (by omega) hi (by simp [ht]) ?_ ?_ hk
   . simp only [dx,if_true,hst i (q20 _),hs,hos i o XX hoi]
   intro j oj hsj hj hoj;rw [hst j (by omega)];rw [List.reverse_cons];by_cases e:j=i
   . subst e;rw [hoi] at hoj;injection hoj with hoj;subst hoj
     refine ⟨t,by rw [List.getElem?_append_right (by simp [ht])];simp [ht],?_,by simpa using iu⟩;rw [hs];simpa using hya
   obtain ⟨t',h1,h2,h3⟩:=hu j oj hsj (by omega) hoj;refine ⟨t',by rw [List.getElem?_append_left (by simp [ht];omega)];exact h1,?_,?_⟩
   . simpa [e] using h2
   simpa [e] using h3
  have run:cS ops o ts=some true->cG P (o.dst.getD 0) o.op ts m (fun x m'=>sD P ops r (mz o.dst x ts) m' ((vG o.op ts,zm m' m)::tr) K)→
   ∃qs' tr,SO P sk ops os qs' tr ts0 m0/\mL ops tr=true/\K (dx os qs' (fun _=>true) ts0 m0 ops.length).1 (dx os qs' (fun _=>true) ts0 m0 ops.length).2/\∀j,j<i->qs' j=qs j:=by
   intro hw hk;obtain ⟨x,new,h1,h2⟩:=O9 P _ _ _ _ _ hk;refine go ⟨x,new⟩ (vG o.op ts,zm (new++m) m) (.inl ⟨hw,fun _ h=>h,fun m' hm hm' k' hk'=>h2 m' (fun l hl=>hm l ?_) (fun l hl=>hm' l (mem_keys hl)) k' hk'⟩) (fun l hl=>by rw [SP];exact hl) h1;obtain ⟨y,hy,af,hv⟩:=hl;exact List.mem_flatMap.2 ⟨y,hy,q16.2 ⟨(l,af),hv,rfl⟩⟩
  cases hg:o.guard with
  |none=>
   simp only [sD,hg] at hk;exact run (by simp [cS,hg]) hk
  |some jw=>
   obtain ⟨j,want⟩:=jw;simp only [sD,hg] at hk;unfold gp at hk;split at hk
   . rename_i c hy;by_cases hc:c=want
     . subst hc;exact run (by simp [cS,hg,hy]) (hk.1 rfl)
     exact go ⟨.aZ [],[]⟩ ([],[]) (.inr ⟨by simp [cS,hg,hy,hc],rfl,rfl⟩) (fun l hl=>by simp at hl) (hk.2 hc)
   . rename_i hy;exact go ⟨.aZ [],[]⟩ ([],[]) (.inr ⟨by simp [cS,hg,hy],rfl,rfl⟩) (fun l hl=>by simp at hl) hk
   exact hk.elim
theorem ak.draw {P:Program} {N i:Nat} {ops:List Oper} {ts:Env} {m:Mem} {Q:dh} {q:Pack (Code.region i ⟨ops⟩ true,Q)} (hm:P.follows .mixedOrders=true) (hok:(jM N ops&&di N ops)=true)
 (h:sD P ops ops ts m [] (Q .normal)):ak P N (.region i ⟨ops⟩ true) ts m Q q:=by
 refine ⟨fun B φ fp S a w hRS=> ?_⟩;simp only [Bool.and_eq_true] at hok;obtain ⟨qs,tr,hR,hB,hK,_⟩:=xT (os:=fun i=>(ops[i]?).getD default) (ts0:=ts) (m0:=m) (sk:=0) (fun i o _ ho=>by simp [ho]) ops 0 (fun _=>⟨.undef,[]⟩) [] ts m rfl (q20 _) (Nat.zero_le _) rfl rfl (fun i o _ hi=>absurd hi (q23 _)) h;refine wp_region_any hm ?_;refine BB (B:=B) (N:=N) hR hB hok.1 hok.2 hK (fun a w hd=>hd) _ _ φ fp S a _ (by simp) ?_ (fun i hi=>absurd hi (q23 _)) ?_ ?_
 . intro j o _ hd;have hd:(q5 (q19 ops).size false).getD j false=true:=hd;rw [getD_replicate_false] at hd;cases hd
 . exact q21 List.countP_le_length (by simp)
 have e:(fun i=>(q5 (q19 ops).size false).getD i false)=fun _=>false:=funext fun i=>getD_replicate_false _ _;have e2:=mJ (os:=fun i=>(ops[i]?).getD default) (qs:=qs) (D:=fun _=>false) (ts:=ts) (m:=m) (j:=0) (fun _ _=>rfl) ops.length (Nat.zero_le _);show RS B N φ fp S (dx _ qs (fun i=>(q5 (q19 ops).size false).getD i false) ts m ops.length).1 (dx _ qs (fun i=>(q5 (q19 ops).size false).getD i false) ts m ops.length).2 a {w with drawn:=w.drawn+1};rw [e,e2];exact hRS.rn rfl ⟨rfl,rfl,rfl⟩
section
variable (P:Program) (d:Nat) (ts:Env) (m:Mem) (k:AV->Mem->Prop)
theorem Pa (x:Operand):iL P d (.move x) ts m k=k (ev ts x) m:=rfl
theorem H2 (x:Operand):iL P d (.assign x) ts m k=k (ev ts x) m:=rfl
theorem Pb (c a b:Operand):iL P d (.pick c a b) ts m k=p6 (ev ts c) (ev ts a) (ev ts b) fun v=>k v m:=rfl
theorem LG (t:TypeId):iL P d (.alloc t) ts m k=ew (aK P t) fun ti=>Cx d ti.zero m k:=rfl
theorem SQ (t:TypeId) (x:Operand):iL P d (.box t x) ts m k=Cx d (ev ts x) m k:=rfl
theorem LH (t:TypeId) (l:List (Nat × Operand)):iL P d (.build t ⟨l⟩) ts m k=ew (aK P t) fun ti=>WG ti.kind (qy ti (l.map fun p=>(p.1,ev ts p.2)) fun v=>k v m):=rfl
theorem xU (t:TypeId) (n:Nat) (l:List (Nat × Operand)):iL P d (.buildSlice t n ⟨l⟩) ts m k=ew (aK P t) fun tt=>w9 tt.kind (ew (aK P tt.elem) fun ti=>gI ti d n (l.map fun p=>(p.1,ev ts p.2)) m k):=rfl
theorem Pc (t:TypeId) (x:Operand):iL P d (.load t x) ts m k=ew (aK P t) fun ti=>ov ti.agg ti.size (ev ts x) m k:=rfl
theorem LI (t:TypeId) (p y:Operand):iL P d (.store t p y) ts m k=ew (aK P t) fun ti=>fY ti.size (ev ts p) (ev ts y) m fun m'=>k .undef m':=rfl
theorem CR (x:Operand):iL P d (.nilCheck x) ts m k=rM m (ev ts x) fun v=>k v m:=rfl
theorem LJ (op:BinOp) (t t2:TypeId) (x y:Operand):iL P d (.binOp op t x y t2) ts m k=ew (aK P t) fun ti=>gL P t op (ev ts x) (ev ts y) (fun v=>k v m) (lH op ti.kind (ev ts x) (ev ts y) (Vn y) m fun v=>k v m):=rfl
theorem SR (t:TypeId) (x:Operand):iL P d (.unOp .not t x) ts m k=zn (ev ts x) fun v=>k v m:=rfl
theorem SU (t:TypeId) (x:Operand):iL P d (.unOp .neg t x) ts m k=Cs (ev ts x) fun v=>k v m:=rfl
theorem Fl (s t:TypeId) (x:Operand):iL P d (.convert s t x) ts m k=ew (aK P s) fun si=>ew (aK P t) fun ti=>kL P si ti d (ev ts x) m k:=rfl
theorem zv (t:TypeId) (l c:Operand):iL P d (.makeSlice t l c) ts m k=ew (aK P t) fun tt=>w9 tt.kind (ew (aK P tt.elem) fun ti=>rE ti d (ev ts l) (ev ts c) m k):=rfl
theorem LK (t:TypeId) (x:Operand) (lo hi:Option Operand):iL P d (.slice t x lo hi none) ts m k=ew (aK P t) fun tt=>nh P tt (ev ts x) (lo.map (ev ts)) (hi.map (ev ts)) m fun v=>k v m:=rfl
theorem zw (t:TypeId) (x:Operand) (f:Nat):iL P d (.fieldAddr t x f) ts m k=ew (aK P t) fun ti=>vy ti.fields[f]? fun fd=>0<fd.2.1/\ic fd.1 m (ev ts x) fun v=>k v m:=rfl
theorem zx (t:TypeId) (x i:Operand):iL P d (.indexAddr t x i) ts m k=ew (aK P t) fun tt=>w9 tt.kind (ew (aK P tt.elem) fun ti=>uL ti.sh m (ev ts x) (ev ts i) fun v=>k v m):=rfl
theorem LM (t:TypeId) (x i:Operand):iL P d (.index t x i) ts m k=ew (aK P t) fun tt=>(match tt.kind with| .string=>True|_=>False)/\mY (ev ts x) (ev ts i) fun v=>k v m:=rfl
theorem Fm (x:Operand) (i:Nat):iL P d (.extract x i) ts m k=zp i (ev ts x) fun v=>k v m:=rfl
theorem SV (t:TypeId) (r:List TypeId) (x:Operand):iL P d (.call ⟨.builtin .len,⟨[x]⟩,⟨t::r⟩⟩) ts m k=ew (aK P t) fun ti=>mX ti.kind m (ev ts x) fun v=>k v m:=rfl
theorem SW (tys:Array TypeId) (x y:Operand):iL P d (.call ⟨.builtin .max,⟨[x,y]⟩,tys⟩) ts m k=zo (ev ts x) (ev ts y) fun v=>k v m:=rfl
theorem SX (tys:Array TypeId) (x y:Operand):iL P d (.call ⟨.builtin .min,⟨[x,y]⟩,tys⟩) ts m k=mV (ev ts x) (ev ts y) fun v=>k v m:=rfl
theorem H3 (tys:List TypeId) (x y:Operand):iL P d (.call ⟨.builtin .append,⟨[x,y]⟩,⟨tys⟩⟩) ts m k=kK P tys d (ev ts x) (ev ts y) m k:=rfl
theorem Pd (f:FuncId) (xs:List Operand) (tys:Array TypeId):iL P d (.call ⟨.value (.func f),⟨xs⟩,tys⟩) ts m k=nX P f d (xs.map (ev ts)) m k:=rfl
theorem LN (t:Nat) (xs:List Operand) (tys:Array TypeId):iL P d (.call ⟨.value (.tmp t),⟨xs⟩,tys⟩) ts m k=ni P (look ts t) d (xs.map (ev ts)) m k:=rfl
theorem CS (f:FuncId) (l:List Operand):iL P d (.makeFunc (.func f) ⟨[]⟩ ⟨l⟩) ts m k=(([]:List Operand)=[]/\k (.cy f (l.map (ev ts))) m):=rfl
theorem LO (x:Operand):cG P d (.move x) ts m k=k (ev ts x) m:=rfl
theorem Fo (x:Operand):cG P d (.assign x) ts m k=k (ev ts x) m:=rfl
theorem LP (c a b:Operand):cG P d (.pick c a b) ts m k=p6 (ev ts c) (ev ts a) (ev ts b) fun v=>k v m:=rfl
theorem H4 (t:TypeId):cG P d (.alloc t) ts m k=ew (aK P t) fun ti=>Cx d ti.zero m k:=rfl
theorem H5 (t:TypeId) (l:List (Nat × Operand)):cG P d (.build t ⟨l⟩) ts m k=ew (aK P t) fun ti=>WG ti.kind (qy ti (l.map fun p=>(p.1,ev ts p.2)) fun v=>k v m):=rfl
theorem vH (t:TypeId) (n:Nat) (l:List (Nat × Operand)):cG P d (.buildSlice t n ⟨l⟩) ts m k=ew (aK P t) fun tt=>w9 tt.kind (ew (aK P tt.elem) fun ti=>gI ti d n (l.map fun p=>(p.1,ev ts p.2)) m k):=rfl
theorem LQ (t:TypeId) (x:Operand):cG P d (.load t x) ts m k=ew (aK P t) fun ti=>ou ti.agg ti.size (ev ts x) m k:=rfl
theorem H6 (t:TypeId) (p y:Operand):cG P d (.store t p y) ts m k=ew (aK P t) fun ti=>kI ti.size (ev ts p) (ev ts y) m fun m'=>k .undef m':=rfl
theorem zy (x:Operand):cG P d (.nilCheck x) ts m k=rM m (ev ts x) fun v=>k v m:=rfl
theorem H7 (op:BinOp) (t t2:TypeId) (x y:Operand):cG P d (.binOp op t x y t2) ts m k=ew (aK P t) fun ti=>gL P t op (ev ts x) (ev ts y) (fun v=>k v m) (lx op ti.kind (ev ts x) (ev ts y) fun v=>k v m):=rfl
theorem Pe (t:TypeId) (x:Operand):cG P d (.unOp .not t x) ts m k=zn (ev ts x) fun v=>k v m:=rfl
theorem CT (s t:TypeId) (x:Operand):cG P d (.convert s t x) ts m k=ew (aK P s) fun si=>ew (aK P t) fun ti=>kL P si ti d (ev ts x) m k:=rfl
theorem H8 (t:TypeId) (x:Operand) (lo hi:Option Operand):cG P d (.slice t x lo hi none) ts m k=ew (aK P t) fun tt=>nh P tt (ev ts x) (lo.map (ev ts)) (hi.map (ev ts)) m fun v=>k v m:=rfl
theorem xV (t:TypeId) (x:Operand) (f:Nat):cG P d (.fieldAddr t x f) ts m k=ew (aK P t) fun ti=>vy ti.fields[f]? fun fd=>0<fd.2.1/\ic fd.1 m (ev ts x) fun v=>k v m:=rfl
theorem xW (t:TypeId) (x i:Operand):cG P d (.indexAddr t x i) ts m k=ew (aK P t) fun tt=>w9 tt.kind (ew (aK P tt.elem) fun ti=>oI ti.sh m (ev ts x) (ev ts i) fun v=>k v m):=rfl
theorem CU (x:Operand) (i:Nat):cG P d (.extract x i) ts m k=zp i (ev ts x) fun v=>k v m:=rfl
theorem Pf (t:TypeId) (r:List TypeId) (x:Operand):cG P d (.call ⟨.builtin .len,⟨[x]⟩,⟨t::r⟩⟩) ts m k=ew (aK P t) fun ti=>mX ti.kind m (ev ts x) fun v=>k v m:=rfl
theorem Pg (tys:Array TypeId) (x y:Operand):cG P d (.call ⟨.builtin .min,⟨[x,y]⟩,tys⟩) ts m k=mV (ev ts x) (ev ts y) fun v=>k v m:=rfl
theorem Fp (tys:List TypeId) (x y:Operand):cG P d (.call ⟨.builtin .append,⟨[x,y]⟩,⟨tys⟩⟩) ts m k=kK P tys d (ev ts x) (ev ts y) m k:=rfl
theorem LR (f:FuncId) (xs:List Operand) (tys:Array TypeId):cG P d (.call ⟨.value (.func f),⟨xs⟩,tys⟩) ts m k=nt P f d (xs.map (ev ts)) m k:=rfl
theorem zz (f:FuncId) (l:List Operand):cG P d (.makeFunc (.func f) ⟨[]⟩ ⟨l⟩) ts m k=(([]:List Operand)=[]/\k (.cy f (l.map (ev ts))) m):=rfl
def Br (c:Bool) (a b:Prop) (_:Pack (a,b)):Prop:=(c=true->a)/\(c=false->b)
theorem SY (a b:Prop) {q:Pack (a,b)}:Br true a b q=a:=by simp [Br]
theorem Ph (a b:Prop) {q:Pack (a,b)}:Br false a b q=b:=by simp [Br]
theorem Br.intro {c:Bool} {a b:Prop} {q:Pack (a,b)} (ha:c=true->a) (hb:c=false->b):Br c a b q:=⟨ha,hb⟩
theorem SZ (c:Bool) (a b:Prop):UO (.val (.bool c)) a b=Br c a b ⟨⟩:=rfl
theorem LU (c:Bool) (a b:AV) (k:AV->Prop):p6 (.val (.bool c)) a b k=Br c (k a) (k b) ⟨⟩:=rfl
theorem LV (c:Bool) (a b:Prop):gp true (.val (.bool c)) a b=Br c a b ⟨⟩:=by simp [gp,Br]
theorem LW (c:Bool) (a b:Prop):gp false (.val (.bool c)) a b=Br c b a ⟨⟩:=by simp only [Oe,Br];exact propext and_comm
variable (ops:List Oper) (tr:List (lN × lN)) (K:St)
def qF (r:List Oper) (_:Pack (P,ops,r,d,ts,K)) (x:AV) (m':Mem):Prop:=sL P ops r ((d,x)::ts) m' K
def Zr (r:List Oper) (_:Pack (P,ops,r,ts,K)) (_:AV) (m':Mem):Prop:=sL P ops r ts m' K
def H9 (op:Op) (r:List Oper) (_:Pack (P,ops,r,d,op,ts,m,tr,K)) (x:AV) (m':Mem):Prop:=sD P ops r ((d,x)::ts) m' ((vG op ts,zm m' m)::tr) K
def Xe (op:Op) (r:List Oper) (_:Pack (P,ops,r,op,ts,m,tr,K)) (_:AV) (m':Mem):Prop:=sD P ops r ts m' ((vG op ts,zm m' m)::tr) K
theorem S4:sL P ops [] ts m K=K ts m:=rfl
theorem LX (op:Op) (ty:TypeId) (p:String) (e:Array Edge) (r:List Oper):sL P ops (⟨some d,op,ty,p,e,none⟩::r) ts m K=iL P d op ts m (qF P d ts ops K r ⟨⟩):=rfl
theorem LY (op:Op) (ty:TypeId) (p:String) (e:Array Edge) (r:List Oper):sL P ops (⟨none,op,ty,p,e,none⟩::r) ts m K=iL P 0 op ts m (Zr P ts ops K r ⟨⟩):=rfl
theorem LZ (op:Op) (ty:TypeId) (p:String) (e:Array Edge) (j:Nat) (w:Bool) (r:List Oper):
 sL P ops (⟨some d,op,ty,p,e,some (j,w)⟩::r) ts m K=gp w (look ts (jL ops j)) (iL P d op ts m (qF P d ts ops K r ⟨⟩)) (sL P ops r ((d,.aZ [])::ts) m K):=rfl
theorem VD:sD P ops [] ts m tr K=(mL ops tr.reverse=true/\K ts m):=rfl
theorem Pj (op:Op) (ty:TypeId) (p:String) (e:Array Edge) (r:List Oper):
 sD P ops (⟨some d,op,ty,p,e,none⟩::r) ts m tr K=cG P d op ts m (H9 P d ts m ops tr K op r ⟨⟩):=rfl
theorem Pk (op:Op) (ty:TypeId) (p:String) (e:Array Edge) (r:List Oper):
 sD P ops (⟨none,op,ty,p,e,none⟩::r) ts m tr K=cG P 0 op ts m (Xe P ts m ops tr K op r ⟨⟩):=rfl
theorem Pl (op:Op) (ty:TypeId) (p:String) (e:Array Edge) (j:Nat) (w:Bool) (r:List Oper):
 sD P ops (⟨some d,op,ty,p,e,some (j,w)⟩::r) ts m tr K=gp w (look ts (jL ops j)) (cG P d op ts m (H9 P d ts m ops tr K op r ⟨⟩))
  (sD P ops r ((d,.aZ [])::ts) m (([],[])::tr) K):=rfl
theorem Ia (g:Nat × bh) (m':Mem) (r:List Oper) {q:Pack (P,ops,r,ts,K)}:Zr P ts ops K r q (.undef) (g::m')=sL P ops r ts (g::m') K:=rfl
theorem Fq (g:Nat × bh) (m':Mem) (r:List Oper) (op:Op) {q:Pack (P,ops,r,op,ts,m,tr,K)}:Xe P ts m ops tr K op r q (.undef) (g::m')=sD P ops r ts (g::m') ((vG op ts,zm (g::m') m)::tr) K:=rfl
theorem L0 (v:Value) (r:List Oper) {q:Pack (P,ops,r,d,ts,K)}:qF P d ts ops K r q (.val v) []=sL P ops r ((d,.val v)::ts) [] K:=rfl
theorem Pm (v:Value) (r:List Oper) (op:Op) {q:Pack (P,ops,r,d,op,ts,m,tr,K)}:H9 P d ts m ops tr K op r q (.val v) []=sD P ops r ((d,.val v)::ts) [] ((vG op ts,zm [] m)::tr) K:=rfl
theorem L1 (v:Value) (g:Nat × bh) (m':Mem) (r:List Oper) {q:Pack (P,ops,r,d,ts,K)}:qF P d ts ops K r q (.val v) (g::m')=sL P ops r ((d,.val v)::ts) (g::m') K:=rfl
theorem Pn (v:Value) (g:Nat × bh) (m':Mem) (r:List Oper) (op:Op) {q:Pack (P,ops,r,d,op,ts,m,tr,K)}:H9 P d ts m ops tr K op r q (.val v) (g::m')=sD P ops r ((d,.val v)::ts) (g::m') ((vG op ts,zm (g::m') m)::tr) K:=rfl
theorem L2 (sh:Sh) (xs:lA) (r:List Oper) {q:Pack (P,ops,r,d,ts,K)}:qF P d ts ops K r q (.arr sh xs) []=sL P ops r ((d,.arr sh xs)::ts) [] K:=rfl
theorem Po (sh:Sh) (xs:lA) (r:List Oper) (op:Op) {q:Pack (P,ops,r,d,op,ts,m,tr,K)}:H9 P d ts m ops tr K op r q (.arr sh xs) []=sD P ops r ((d,.arr sh xs)::ts) [] ((vG op ts,zm [] m)::tr) K:=rfl
theorem L3 (sh:Sh) (xs:lA) (g:Nat × bh) (m':Mem) (r:List Oper) {q:Pack (P,ops,r,d,ts,K)}:qF P d ts ops K r q (.arr sh xs) (g::m')=sL P ops r ((d,.arr sh xs)::ts) (g::m') K:=rfl
theorem Pp (sh:Sh) (xs:lA) (g:Nat × bh) (m':Mem) (r:List Oper) (op:Op) {q:Pack (P,ops,r,d,op,ts,m,tr,K)}:H9 P d ts m ops tr K op r q (.arr sh xs) (g::m')=sD P ops r ((d,.arr sh xs)::ts) (g::m') ((vG op ts,zm (g::m') m)::tr) K:=rfl
theorem L4 (xs:lA) (r:List Oper) {q:Pack (P,ops,r,d,ts,K)}:qF P d ts ops K r q (.agg xs) []=sL P ops r ((d,.agg xs)::ts) [] K:=rfl
theorem Pq (xs:lA) (r:List Oper) (op:Op) {q:Pack (P,ops,r,d,op,ts,m,tr,K)}:H9 P d ts m ops tr K op r q (.agg xs) []=sD P ops r ((d,.agg xs)::ts) [] ((vG op ts,zm [] m)::tr) K:=rfl
theorem L5 (xs:lA) (g:Nat × bh) (m':Mem) (r:List Oper) {q:Pack (P,ops,r,d,ts,K)}:qF P d ts ops K r q (.agg xs) (g::m')=sL P ops r ((d,.agg xs)::ts) (g::m') K:=rfl
theorem Pr (xs:lA) (g:Nat × bh) (m':Mem) (r:List Oper) (op:Op) {q:Pack (P,ops,r,d,op,ts,m,tr,K)}:H9 P d ts m ops tr K op r q (.agg xs) (g::m')=sD P ops r ((d,.agg xs)::ts) (g::m') ((vG op ts,zm (g::m') m)::tr) K:=rfl
theorem L6 (xs:lA) (r:List Oper) {q:Pack (P,ops,r,d,ts,K)}:qF P d ts ops K r q (.aZ xs) []=sL P ops r ((d,.aZ xs)::ts) [] K:=rfl
theorem Ps (xs:lA) (r:List Oper) (op:Op) {q:Pack (P,ops,r,d,op,ts,m,tr,K)}:H9 P d ts m ops tr K op r q (.aZ xs) []=sD P ops r ((d,.aZ xs)::ts) [] ((vG op ts,zm [] m)::tr) K:=rfl
theorem L7 (xs:lA) (g:Nat × bh) (m':Mem) (r:List Oper) {q:Pack (P,ops,r,d,ts,K)}:qF P d ts ops K r q (.aZ xs) (g::m')=sL P ops r ((d,.aZ xs)::ts) (g::m') K:=rfl
theorem Pt (xs:lA) (g:Nat × bh) (m':Mem) (r:List Oper) (op:Op) {q:Pack (P,ops,r,d,op,ts,m,tr,K)}:H9 P d ts m ops tr K op r q (.aZ xs) (g::m')=sD P ops r ((d,.aZ xs)::ts) (g::m') ((vG op ts,zm (g::m') m)::tr) K:=rfl
theorem L8 (l v i n:Nat) (g:Nat × bh) (m':Mem) (r:List Oper) {q:Pack (P,ops,r,d,ts,K)}:qF P d ts ops K r q (.ref l v i n) (g::m')=sL P ops r ((d,.ref l v i n)::ts) (g::m') K:=rfl
theorem Pu (l v i n:Nat) (g:Nat × bh) (m':Mem) (r:List Oper) (op:Op) {q:Pack (P,ops,r,d,op,ts,m,tr,K)}:H9 P d ts m ops tr K op r q (.ref l v i n) (g::m')=sD P ops r ((d,.ref l v i n)::ts) (g::m') ((vG op ts,zm (g::m') m)::tr) K:=rfl
theorem L9 (l v i j:Nat) (g:Nat × bh) (m':Mem) (r:List Oper) {q:Pack (P,ops,r,d,ts,K)}:qF P d ts ops K r q (.ptr l v i j) (g::m')=sL P ops r ((d,.ptr l v i j)::ts) (g::m') K:=rfl
theorem Pv (l v i j:Nat) (g:Nat × bh) (m':Mem) (r:List Oper) (op:Op) {q:Pack (P,ops,r,d,op,ts,m,tr,K)}:H9 P d ts m ops tr K op r q (.ptr l v i j) (g::m')=sD P ops r ((d,.ptr l v i j)::ts) (g::m') ((vG op ts,zm (g::m') m)::tr) K:=rfl
theorem Ib (sh:Sh) (xs:lA) (i j:Nat) (r:List Oper) {q:Pack (P,ops,r,d,ts,K)}:qF P d ts ops K r q (.bu sh xs i j) []=sL P ops r ((d,.bu sh xs i j)::ts) [] K:=rfl
theorem Ma (sh:Sh) (xs:lA) (i j:Nat) (r:List Oper) (op:Op) {q:Pack (P,ops,r,d,op,ts,m,tr,K)}:H9 P d ts m ops tr K op r q (.bu sh xs i j) []=sD P ops r ((d,.bu sh xs i j)::ts) [] ((vG op ts,zm [] m)::tr) K:=rfl
theorem Ic (sh:Sh) (xs:lA) (i j:Nat) (g:Nat × bh) (m':Mem) (r:List Oper) {q:Pack (P,ops,r,d,ts,K)}:qF P d ts ops K r q (.bu sh xs i j) (g::m')=sL P ops r ((d,.bu sh xs i j)::ts) (g::m') K:=rfl
theorem Mb (sh:Sh) (xs:lA) (i j:Nat) (g:Nat × bh) (m':Mem) (r:List Oper) (op:Op) {q:Pack (P,ops,r,d,op,ts,m,tr,K)}:H9 P d ts m ops tr K op r q (.bu sh xs i j) (g::m')=sD P ops r ((d,.bu sh xs i j)::ts) (g::m') ((vG op ts,zm (g::m') m)::tr) K:=rfl
theorem Mc (f:FuncId) (xs:lA) (g:Nat × bh) (m':Mem) (r:List Oper) {q:Pack (P,ops,r,d,ts,K)}:qF P d ts ops K r q (.cy f xs) (g::m')=sL P ops r ((d,.cy f xs)::ts) (g::m') K:=rfl
theorem Pw (f:FuncId) (xs:lA) (g:Nat × bh) (m':Mem) (r:List Oper) (op:Op) {q:Pack (P,ops,r,d,op,ts,m,tr,K)}:H9 P d ts m ops tr K op r q (.cy f xs) (g::m')=sD P ops r ((d,.cy f xs)::ts) (g::m') ((vG op ts,zm (g::m') m)::tr) K:=rfl
end
attribute [go_sem ↓] Sd K0 Se Vq Sf Oh Sg Si Vr S4 LX LY
attribute [go_sem ↓] LZ Pa H2 Pb LG SQ LH xU Pc LI CR LJ
attribute [go_sem ↓] SR SU Fl zv LK zw zx LM Fm SV
attribute [go_sem ↓] SW SX H3 Pd LN CS LO Fo LP H4
attribute [go_sem ↓] H5 vH LQ H6 zy H7 Pe CT H8
attribute [go_sem ↓] xV xW CU Pf Pg Fp zz
attribute [go_sem ↓] LR VD Pj Pk Pl
attribute [go_sem] Ia Fq L0 Pm
attribute [go_sem] L1 Pn
attribute [go_sem] L2 Po L3 Pp L4 Pq
attribute [go_sem] L5 Pr L6 Ps L7 Pt
attribute [go_sem] L8 Pu
attribute [go_sem] L9 Pv Ib Ma Ic Mb
attribute [go_sem] Mc Pw
attribute [go_sem] SY Ph SZ LU LV LW
attribute [go_sem ↓] look_nil cV sU aw TI.WQ RA NJ He KG DW DX Cr
attribute [go_sem ↓] UM NK v7 sV zR DY zS DZ D0
attribute [go_sem ↓] D3 UQ UR US UT UU UW UX UY UZ U0
attribute [go_sem ↓] U1 NM NN JC JD zT JE JF
attribute [go_sem ↓] JG zU v8 zV zW Hf Hg Hh
attribute [go_sem ↓] D4 mW rp wa uc wb wc zX we
attribute [go_sem ↓] wg zY ud wh wk ue zZ z6 wm
attribute [go_sem ↓] uf D5 D6 D7 D8 z7 z8 wo wq wu
attribute [go_sem ↓] wv wx wy D9 sW Ea ug rq
attribute [go_sem ↓] wz uh ui uj uk uo uq
attribute [go_sem ↓] wB Ee
attribute [go_sem ↓] Ac wC rA uu ow uv Ad JJ
attribute [go_sem ↓] KP Hl rB p7 wF rC p8
attribute [go_sem ↓] uw ux uy rD uz
attribute [go_sem ↓] uA NT NU NV Eg Ag Eh Ei
attribute [go_sem ↓] Ah Ai Aj wH Al Am uC uD
attribute [go_sem ↓] An Ao wI uE Ap Aq Ep wJ wK wL
attribute [go_sem ↓] As wN Au wO uF oE Ax wQ wR
attribute [go_sem ↓] wS rI p9 Ay Az AA AB AD AE wT uG
attribute [go_sem ↓] AF AG AH wU AI AJ AK wV uH Eu
attribute [go_sem ↓] Ev Ew Ex AL AM AN
attribute [go_sem ↓] AO AP wY uJ AQ AR AS AT AU wZ
attribute [go_sem ↓] w8 uK nY AX xb EF AY EG EH EI AZ
attribute [go_sem ↓] xd EJ A0 A1
attribute [go_sem ↓] A2 JP A3 A4 KV RY JQ JR
attribute [go_sem ↓] A5 A6 uM A7 xe rN xf oJ nj oK
attribute [go_sem ↓] xg R3 EL rO xi xj rP xk xl
attribute [go_sem ↓] ER KZ Hs Ht Hu Sb Of Hv Sc Og K1
attribute [go_sem ↓] K3 Hw Oj Ol Om
attribute [go_sem ↓] ET On Oo K4 K5 K6 K7 K8 K9
attribute [go_sem ↓] Oq Ld Ot Ou Ov Ow Ox Oy xq
attribute [go_sem ↓] Oz OA OB OC OD Le OE OF Lf OG
attribute [go_sem ↓] Lg Hz HA Lh OH Li Sj uO xA rU rV
attribute [go_sem ↓] qf A9 Ba Bb xB uQ Bc Bd Be xC
attribute [go_sem ↓] uR Lk Ll s4 Sl Lm HC Sm OJ mB EY
attribute [go_sem ↓] EZ E0 Bi OK kA E1 E2
attribute [go_sem ↓] Bj xF Bk Bl Bm Bo Bp Bq xG Lo
attribute [go_sem ↓] HF Bu Bv E3 py kN Bw lO Fc OV Lr HK
attribute [go_sem ↓] Ls HL OW Lt OX Lu OY Lv Lw HM Lx HN
attribute [go_sem ↓] Ly HO Lz HP SJ OZ O0 LB Vu Vv
attribute [go_sem ↓] Vw Sr OM Ss Su Sv ON HG Sw
attribute [go_sem ↓] OO Lq Sx Sy Sz SA OP HH SB SC SD
attribute [go_sem ↓] Bx
attribute [go_sem] v7 sV zR DY zS DZ D0 D3 NM NN
attribute [go_sem] JC JD zT JE JF JG zU v8 zV zW
attribute [go_sem] rp wa uc wb wc zX we
attribute [go_sem] wg zY ud wh wk ue zZ z6 wm
attribute [go_sem] uf D5 D6 D7 D8 z7 z8 wo wq wu
attribute [go_sem] wv wx wy Ea ug rq wz
attribute [go_sem] uh ui uj uk uo uq
attribute [go_sem] wB Ee Ac wC
attribute [go_sem] rA uu ow uv Ad JJ rB
attribute [go_sem] p7 rC p8 uw ux uy rD
attribute [go_sem] uz uA Eg Ag Eh Ei
attribute [go_sem] Ah Ai Aj wH Al Am uC uD
attribute [go_sem] An Ao wI uE Ap Aq Ep wJ wK wL
attribute [go_sem] As wN Au wO uF oE Er Es
attribute [go_sem] N1 N2 N3 Av wP Ax wQ wR wS rI p9
attribute [go_sem] Ay Az AA AB AD AE wT uG AF AG
attribute [go_sem] AH wU AI AJ AK wV uH Eu Ev Ew
attribute [go_sem] Ex AL AM AN AO AP wY uJ
attribute [go_sem] AQ AR AS AT AU wZ w8 uK nY AX xb
attribute [go_sem] EF AY EG EH EI AZ xd EJ
attribute [go_sem] A0 A1 A2 JP A3
attribute [go_sem] A4 JQ JR A5 A6 uM A7 xe rN
attribute [go_sem] xf oJ nj oK xg EL rO xi xj
attribute [go_sem] rP xk xl ER uO xA rU rV qf A9
attribute [go_sem] Ba Bb xB uQ Bc Bd Be xC uR EY
attribute [go_sem] EZ E0 Bi kA E1 E2 Bj xF
attribute [go_sem] Bk Bl Bm Bo Bp Bq xG Bu Bv E3
attribute [go_sem] py Bx
attribute [go_sem] List.getElem?_cons_zero List.getElem?_cons_succ List.getElem?_nil List.map_cons List.map_nil List.length_cons List.length_nil List.drop_zero List.drop_succ_cons List.take_zero List.take_succ_cons List.take_nil List.drop_nil List.set_cons_zero List.set_cons_succ q24 Nat.add_zero
attribute [go_sem] List.length_map List.getElem?_map Option.map_some Bool.true_and Bool.false_and
attribute [go_sem] WS List.reverse_cons List.reverse_nil q17 List.cons_append Bool.true_eq_false q6 false_implies implies_true and_true true_and forall_const true_implies
attribute [go_sem ↓] reduceIte
attribute [go_sem] Nat.reduceEqDiff Nat.reduceLT Nat.reduceAdd Nat.reduceMul Nat.reduceLeDiff Int.reduceToNat
attribute [go_sem] q20 Int.natCast_zero Int.toNat_natCast
def pick (L:lN) (ts:Env):Env:=L.map fun t=>(t,look ts t)
theorem xX (ts:Env):pick [] ts=[]:=rfl
theorem s8 (t:Nat) (L:lN) (ts:Env):pick (t::L) ts=(t,look ts t)::pick L ts:=rfl
def WJ:lN->Nat->Bool
 | [],_=>false
 |d::D,l=>l==d||(l / 1000==d+1||WJ D l)
theorem CV (l:Nat):WJ [] l=false:=rfl
theorem xY (d:Nat) (D:lN) (l:Nat):WJ (d::D) l=(l==d||(l / 1000==d+1||WJ D l)):=rfl
def WK:lN->Nat->Bool
 | [],_=>false
 |d::D,l=>l==d||WK D l
theorem CW (l:Nat):WK [] l=false:=rfl
theorem xZ (d:Nat) (D:lN) (l:Nat):WK (d::D) l=(l==d||WK D l):=rfl
def iB (D E:lN):Mem->Mem
 | []=>[]
 |(l,b)::r=>if (WJ D l||WK E l)=true then iB D E r else (l,b)::iB D (l::E) r
theorem s9 (D E:lN):iB D E []=[]:=rfl
theorem qG (D E:lN) (l:Nat) (b:bh) (r:Mem):iB D E ((l,b)::r)=if (WJ D l||WK E l)=true then iB D E r else (l,b)::iB D (l::E) r:=rfl
theorem Ie (b:Bool):(true||b)=true:=rfl
theorem Ig (b:Bool):(false||b)=b:=rfl
section
variable {P:Program} {N:Nat} {ts:Env} {m:Mem}
theorem ak.up {body:Code} (L D E:lN) (n:Nat) (I:Nat->Prop) (up:Nat->Env) (um:Nat->Mem) {Q:dh} {q:Pack (Code.loop body,Q)} (h0:I 0)
 (hr:rS ts m (up 0++pick L ts) (um 0++iB D E m)) (hok:codeOk N body=true)
 (step:∀i,i<n->I i->vc P N body (up i++pick L ts) (um i++iB D E m) (zt Q fun ts' m'=>I (i+1)/\rS ts' m' (up (i+1)++pick L ts) (um (i+1)++iB D E m)))
 (stop:I n->vc P N body (up n++pick L ts) (um n++iB D E m) (zt Q fun _ _=>False)):ak P N (.loop body) ts m Q q:=
 ak.upto n I (fun i=>(up i++pick L ts,um i++iB D E m)) h0 hr hok step stop
theorem ak.lp {body:Code} {ι:Type} (L D E:lN) (I:ι->Prop) (up:ι->Env) (um:ι->Mem) (μ:ι->Nat) {Q:dh} {q:Pack (Code.loop body,Q)} (x0:ι) (h0:I x0)
 (hr:rS ts m (up x0++pick L ts) (um x0++iB D E m)) (hok:codeOk N body=true)
 (step:∀x,I x->vc P N body (up x++pick L ts) (um x++iB D E m) (zt Q fun ts' m'=>∃y,I y/\μ y<μ x/\rS ts' m' (up y++pick L ts) (um y++iB D E m))):ak P N (.loop body) ts m Q q:=
 ak.loop I (fun i=>(up i++pick L ts,um i++iB D E m)) μ x0 h0 hr hok step
end
attribute [go_sem] WU JX JY pA pB pC s6 JZ OR CM E9 SE oP SF SG OS SH Fa SI Fb
attribute [go_sem] Nat.reduceLT true_or or_true or_false false_or xX s8 CV xY CW xZ s9 qG Ie Ig Nat.reduceBEq Nat.reduceDiv beq_self_eq_true q6
theorem cz (a:Nat × AV) (x y:Env):a::x++y=a::(x++y):=rfl
theorem dz (x:Env):[]++x=x:=rfl
theorem ez (a:Nat × bh) (x y:Mem):a::x++y=a::(x++y):=rfl
theorem fz (x:Mem):[]++x=x:=rfl
theorem bz (a:Nat):(a==a)=true:=beq_self_eq_true a
theorem ai {a b:Prop} (x:a) (y:b):a/\b:=⟨x,y⟩
theorem pz:type_of%(And.intro @xX (And.intro @s8 (And.intro @look_nil (And.intro @cV (And.intro @s9 (And.intro @qG (And.intro @CV (And.intro @xY (And.intro @CW (And.intro @xZ (And.intro @Ig (And.intro @Ie (And.intro @bz (And.intro @Bool.or_false (And.intro @Bool.false_eq_true (And.intro @cz (And.intro @dz (And.intro @ez (@fz))))))))))))))))))):=And.intro @xX (And.intro @s8 (And.intro @look_nil (And.intro @cV (And.intro @s9 (And.intro @qG (And.intro @CV (And.intro @xY (And.intro @CW (And.intro @xZ (And.intro @Ig (And.intro @Ie (And.intro @bz (And.intro @Bool.or_false (And.intro @Bool.false_eq_true (And.intro @cz (And.intro @dz (And.intro @ez (@fz))))))))))))))))))
open Go.RowKit (Below)
open Go.ChangeShapes Go.WideShapes Go.ChangeAt Go.Deep
theorem Grown.below {w w':World} (h:Grown w w'):Below w.heap.size w w':=⟨h.out.os,h.out.tape,h.out.output,h.size,h.same⟩
def CX (w:World) (xs:lA) (cs:List Value):Prop:=cs.length=xs.length/\∀i (h:i<xs.length),leaf xs[i]/\Rd w (pn w) xs[i] (cs.getD i Go.undef)
def Rs (P:Program) (t:TypeId) {α:Type} (ok:α->Prop) (f:α->lA):Prop:=
 ∀(H:Type) (enc:TypeId × Value->H) (w:World) (base:Nat) (held:Bool) (fuel:Nat) (cs:List Value) (x:DataW H × List MemPlace),
  DataW.trod enc P w base (fun _=>true) held fuel t cs=some x->∃a,ok a/\CX w (f a) cs
theorem CX.one {w:World} {x:AV} {v:Value} (hl:leaf x) (h:Rd w (pn w) x v):CX w [x] [v]:=⟨rfl,fun i hi=>by
 have:i=0:=by simpa using hi
 subst this;exact ⟨hl,h⟩⟩
theorem Rs.string {P:Program} {t:TypeId} (ht:P.underlying t=some .string):Rs P t (fun s:ByteArray=>s.size<=maxLen) (fun s=>[.val (.string s)]):=fun H enc w base held fuel cs x h=>by obtain ⟨s,rfl,_,hs⟩:=DataW.trod_string ht h;exact ⟨s,hs,.one trivial (.val _ rfl)⟩
theorem Rs.map {P:Program} {t:TypeId} {α β:Type} {ok:α->Prop} {f:α->lA} {ok':β->Prop} {f':β->lA} (h:Rs P t ok f) (hm:∀a,ok a->∃b,ok' b/\f' b=f a):Rs P t ok' f':=fun H enc w base held fuel cs x hx=>by obtain ⟨a,h1,h2⟩:=h H enc w base held fuel cs x hx;obtain ⟨b,h3,h4⟩:=hm a h1;exact ⟨b,h3,by rw [h4];exact h2⟩
def VE (ag:Bool) (xs:lA):AV:=if ag then .agg xs else xs.getD 0 .undef
inductive VF (P:Program):List Field->Nat->{α:Type}->(α->Prop)->(α->List AV)->Prop
 |nil (o:Nat):VF P [] o (fun _:Unit=>True) (fun _=>[])
 |cons {α β:Type} {f:Field} {r:List Field} {o n:Nat} {ok:α->Prop} {g:α->List AV} {ok':β->Prop} {g':β->List AV} (ho:f.offset=o) (hn:P.cellsOf f.type=n) (hl:∀a,(g a).length=n) (hd:Rs P f.type ok g) (hr:VF P r (o+n) ok' g'):
   VF P (f::r) o (fun p:α × β=>ok p.1/\ok' p.2) (fun p=>g p.1++g' p.2)
theorem Rs.arg {P:Program} {t:TypeId} {α:Type} {ok:α->Prop} {f:α->lA} (h:Rs P t ok f) (ag:Bool) (hf:∀a,if ag then True else (f a).length=1) {H:Type} {enc:TypeId × Value->H} {w:World} {base:Nat} {held:Bool} {v:Value} {d:DataW H} {ps:List MemPlace}
 (ht:DataW.Trod enc P w base (fun _=>true) held t v d ps) (hv:if ag then ∃cs,v= .agg cs else v.cells= #[v]):∃a,ok a/\Rd w (pn w) (VE ag (f a)) v:=by
 obtain ⟨fuel,hx⟩:=ht;obtain ⟨a,h1,h2,h3⟩:=h H enc w base held fuel _ _ hx;refine ⟨a,h1,?_⟩;cases ag with
 |true=>
  obtain ⟨cs,rfl⟩:=hv;have e:(Value.agg cs).cells=cs:=rfl;rw [e] at h2 h3;exact .agg _ _ (by simpa using h2) (fun i hi=>(h3 i hi).1) (fun i hi=>(h3 i hi).2)
 |false=>
  have hl:(f a).length=1:=by simpa using hf a
  have hv:v.cells= #[v]:=hv;rw [hv] at h3;have:=(h3 0 (by omega)).2;have e1:VE false (f a)=(f a)[0]'(by omega):=by simp [VE,q8,q9 (show 0<(f a).length by omega)]
  rw [e1];exact this
theorem Fn.law {P:Program} {f:FuncId} {args:lA} {b:Bool} (h:Fn P f args true (· = .val (.bool b))) (W:World) (zi:KF W (pn W)) (vs:aV) (hs:vs.size=args.length)
 (hr:∀i (h:i<args.length),Rd W (pn W) args[i] (vs.toList.getD i Go.undef)):Calls P f vs W fun e W'=>e= .returned (.bool b)/\Below W.heap.size W W':=by
 refine (h.2 W (pn W) vs (fun _ hb=>hb) zi hs hr).mono fun e W' ⟨r,v,he,hx,hg,kc⟩=> ?_;subst hx;obtain ⟨fs,bd,_⟩:=kc;have hv:v= .bool b:=by
  cases bd with
  |rd _ _ h=>cases h with|val _ _=>rfl
 subst hv;exact ⟨he,hg.below⟩
end Go.Vc
namespace Go.Proofs.YtofpaabacebkkaaGreatDoor
open Go.Vc Go.ChangeShapes Go.WideShapes Go.ChangeAt Go.RowKit
theorem Ih {H:Type} {enc:TypeId × Value->H} {a:Assume} {C:Checked} {os:Os} {f:FuncId} {fn:Func} {s:ChangeSpec} {conds:List PathCond} {apart fresh handsOn again:Bool} {X:World->aV->Prop}
 (hX:∀(w w':World) (args:aV),w.heap=w'.heap->X w args->X w' args)
 (own:ownKnob C.prog.godebug=none) (started:os.Started) (noInit:C.prog.inits.idxOf? f=none) (hfn:C.prog.funcs[f]? =some fn)
 (witness:∃(w:World) (tape:Tape) (i:Input),w.os=os/\(w.forCall tape i).Shaped C.prog/\i.vars=[]/\Input.okWide C.prog (w.forCall tape i) .any w.heap.size f i∧
   ((s.pre enc C.prog fn conds apart (w.forCall tape i).memory i.args/\X (w.forCall tape i).memory i.args)/\sizedMet enc C.prog fn (OpenSpec.ofChange s) apart (w.forCall tape i).memory i.args)/\a.holds C.prog (lone (Frame.enter C.prog f i.args .normal) [] (w.forCall tape i)))
 (contract:∀(W:World) (base:Nat) (args:aV) (ds gs:List (DataW H)) (before:List MemPlace),
   (∀(j:Nat) t v,fn.params[j]? =some t->args[j]? =some v->Value.okWide C.prog W .any base t v)→
   DataW.Whole enc C.prog fn.params.toList s.vars apart W args.toList ds gs before→
   conds.all (PathCond.test C.prog ⟨fn.params.toList,ds,s.plain.varTypes C.prog,gs⟩)=true→
   (DataW.weightsEach C.prog (fn.params.toList++s.plain.varTypes C.prog) (ds++gs)).all (· <=reachBytes)=true->X W args->W.ShapedOpen C.prog→
   a.holds C.prog (lone (Frame.enter C.prog f args .normal) [] W)→
   Calls C.prog f args W fun e W'=>∃v,e= .returned v/\s.post enc C.prog fn apart fresh handsOn again W args v W'):
 ReturnsInHanded a C os f .any (fun w args=>(s.pre enc C.prog fn conds apart w args/\X w args)/\sizedMet enc C.prog fn (OpenSpec.ofChange s) apart w args) (s.post enc C.prog fn apart fresh handsOn again):=by
 refine returnsInHanded_of_calls own started noInit witness ?_;intro w tape i _ hsh _ hok dC Wv;obtain ⟨_,_,_,fn',Y7,_,_,_,_,TD⟩:=hok;have e:fn'=fn:=Option.some.inj (Y7.symm.trans hfn);subst e;obtain ⟨⟨⟨ds,gs,before,hw,hc⟩,hx⟩,hz⟩:=dC;have hw':=DataW.Whole.of_heap (w':=w.forCall tape i) (by rfl) hw;refine (contract (w.forCall tape i) w.heap.size i.args ds gs before TD hw' hc (hz.weights hw) (hX _ _ _ (by rfl) hx) hsh Wv).mono fun e W' ⟨v,he,hp⟩=> ?_;subst he;exact ChangeSpec.post_blind hp
theorem own:ownKnob Tryz.prog.godebug=none:=by kernel_rfl
theorem laidOut:laidOutB pG=true:=by kernel_rfl
theorem x7 {P:Program} {W:World} {n:String} {g:Nat} {cs:aV} (hg:P.globalNamed n=some g) (h:W.var? P n=some cs):pn W g/\∃e fr,W.heap[g]? =some (.cells cs e fr):=by
 unfold World.var? at h;rw [hg] at h;simp only [Option.bind_some] at h;rcases h1:W.heap[g]? with _|o
 . rw [h1] at h;cases h
 rw [h1] at h;refine ⟨(q2.1 h1).1,?_⟩;cases o<;>simp at h;subst h;exact ⟨_,_,rfl⟩
theorem CY {P:Program} {W:World} {g:Nat} {t:TypeId} {zero:aV} (h:W.ShapedOpen P) (hg:g<P.globals.size)
 (h0:((begin P (fun _ _=>0) default).world.heap[g]?).bind Obj.row? =some (zero,t)) (hz:zero.size=1)
 (hb:P.buildable t=true) (hc:P.cellTypes P.depth t=some [t]) (hu:P.underlying t=some (.int .i64)):pn W g/\∃cs e fr,W.heap[g]? =some (.cells cs e fr)/\Rx cs:=by
 obtain ⟨m,hm⟩:=cell_of_shapedOpen_int h hg h0 hz hb hc hu;obtain ⟨cs,hh,hs,_⟩:=h.1 g zero t hg h0;have hsz:cs.size=1:=hs.trans hz;refine ⟨(q2.1 hh).1,cs,_,_,hh,m,?_⟩;have h1:cs[0]? =some (.int .i64 m):=by simpa [World.cell?,hh] using hm
 obtain ⟨l⟩:=cs;match l,hsz,h1 with
 | [x],_,h1=>simp at h1;subst h1;rfl
def Px:List (String × DataW Unit):=[("math/bits.deBruijn32tab",Rows.laid_math_bits_deBruijn32tab),("math/bits.deBruijn64tab",Rows.laid_math_bits_deBruijn64tab),("internal/strconv.uint64pow10",Rows.laid_internal_strconv_uint64pow10)]
theorem Py {H:Type}:(Rows.laid_internal_strconv_uint64pow10:DataW H)=Lib.tabData .u64 ((List.range 20).map fun i=>((10^i:Nat):Int)):=rfl
theorem S5 {W:World} {r:List (String × DataW Unit)} (h:laidMet pG (("internal/strconv.uint64pow10",Rows.laid_internal_strconv_uint64pow10)::r) W):
 pn W 5/\∃cs e fr,W.heap[5]? =some (.cells cs e fr)/\Ry cs:=by
 rw [Py] at h;have h1:=Lib.tabIs_of_head (g:=5) (by kernel_rfl) (by kernel_rfl) underlying232 underlying174 (by kernel_rfl) (by kernel_rfl) h;obtain ⟨a,e,fr,h2⟩:=x7 (by kernel_rfl) h1;refine ⟨a,_,e,fr,h2,?_⟩;unfold Ry;rw [List.map_map];rfl
theorem Fs {W:World} {n:String} {g:Nat} {t:TypeId} {a:Option Addr} (hg:Tryz.prog.globalNamed n=some g) (h:W.var? pG n=some #[.iface t (.pointer a)]):
 pn W g/\∃cs e fr,W.heap[g]? =some (.cells cs e fr)/\NI cs:=by
 obtain ⟨a,e,fr,h2⟩:=x7 hg h;exact ⟨a,_,e,fr,h2,_,_,rfl⟩
def laidAll:List (String × DataW Unit):=Px++[("unicode/utf8.acceptRanges",Rows.laid_unicode_utf8_acceptRanges),("strconv.ErrRange",Rows.laid_strconv_ErrRange),("strconv.ErrSyntax",Rows.laid_strconv_ErrSyntax),("unicode/utf8.first",Rows.laid_unicode_utf8_first)]
theorem x8 (os:Os) (args:aV):((World.laidAll pG os laidAll).forCall (fun _ _=>0) ⟨#[],args,[]⟩).Shaped pG:=
 World.shaped_of_ZipB (by kernel_rfl) (by kernel_rfl)
theorem Ft (os:Os) (args:aV):laidMetH pG laidAll ((World.laidAll pG os laidAll).forCall (fun _ _=>0) ⟨#[],args,[]⟩).memory:=by rw [MakeChecks.laidMetH_plain _ _ _ (by kernel_rfl)];exact laidMet_laidAll _ (by kernel_rfl) (by kernel_rfl)
theorem star: "*" ++ "errors.errorString" = "*errors.errorString" :=by decide
theorem Pz (u:TypeId) (h:Tryz.prog.typeName? 3 u=some "*errors.errorString"):u=241:=
 typeName_ptr_named (nm:= "errors.errorString") (by rw [star];kernel_rfl) (by kernel_rfl) (by decide) u (by rw [star];exact h)
theorem S6 {W:World} (h:laidMetH pG laidAll W) (hs:W.ShapedOpen pG):KF W (pn W):=by
 rw [MakeChecks.laidMetH_plain _ _ _ (by kernel_rfl)] at h;have h1:laidMet pG (("internal/strconv.uint64pow10",Rows.laid_internal_strconv_uint64pow10)::_) W:=h.tail.tail;have h2:laidMet pG (("strconv.ErrRange",Rows.laid_strconv_ErrRange)::_) W:=h1.tail.tail;have h3:laidMet pG (("strconv.ErrSyntax",Rows.laid_strconv_ErrSyntax)::_) W:=h2.tail;obtain ⟨a1,s1,v1,_⟩:=laid_sentinel (g:=2) h2 (by kernel_rfl) (by kernel_rfl) underlying99 Pz underlying241 underlying243 rfl rfl underlying9 (by kernel_rfl) (by kernel_rfl);obtain ⟨a2,s2,v2,_⟩:=laid_sentinel (g:=1) h3 (by kernel_rfl) (by kernel_rfl) underlying99 Pz underlying241 underlying243 rfl rfl underlying9 (by kernel_rfl) (by kernel_rfl);intro g p hg;simp only [DV,q13,Prod.mk.injEq,List.not_mem_nil,or_false] at hg;rcases hg with ⟨rfl,rfl⟩|⟨rfl,rfl⟩|⟨rfl,rfl⟩|⟨rfl,rfl⟩
 . exact CY (zero:= #[.int .i64 0]) hs (oT (by kernel_rfl)) (by kernel_rfl) (by kernel_rfl) (by kernel_rfl) (by kernel_rfl) underlying3
 . exact S5 h1
 . exact Fs (by kernel_rfl) v2
 exact Fs (by kernel_rfl) v1
end Go.Proofs.YtofpaabacebkkaaGreatDoor
namespace Go.Vc
def keys (m:Mem):lN:=m.map (·.1)
theorem keys_nil:keys []=[]:=rfl
theorem keys_cons (l:Nat) (b:bh) (r:Mem):keys ((l,b)::r)=l::keys r:=rfl
theorem CZ {m:Mem} {l:Nat} (h:aj m l≠none):l∈keys m:=by
 induction m with
 |nil=>exact absurd rfl h
 |cons p r ih=>
  obtain ⟨k,v⟩:=p;rw [aw] at h;by_cases e:k=l
  . simp [keys,e]
  rw [if_neg e] at h;exact q14 _ (ih h)
theorem C0 {m:Mem} {l:Nat} (h:l∈keys m):aj m l≠none:=by
 induction m with
 |nil=>cases h
 |cons p r ih=>
  obtain ⟨k,v⟩:=p;rw [aw];by_cases e:k=l
  . rw [if_pos e];exact fun h=>by cases h
  rw [if_neg e];refine ih ?_;rcases q13.1 h with h|h
  . exact absurd h.symm e
  exact h
def WL (L:lN) (m:Mem):Prop:=(∀l,aj m l≠none->l∈L)/\∀l v xs,aj m l=some (.box v xs)->∀p,p∈au xs->p.1∈L
def oR (L:lN) (m m':Mem):Prop:=(∀l,l∈L->aj m' l=aj m l)/\WL L m'
def sf (L:lN) (φ:Nat->LS) (l:Nat):LS:=if l∈L then φ l else .dead
def td (L:lN) (fp:Nat->lN) (l:Nat):lN:=if l∈L then fp l else []
theorem iV {L:lN} {φ:Nat->LS} {l:Nat} (h:l∈L):sf L φ l=φ l:=if_pos h
theorem C1 {L:lN} {fp:Nat->lN} {l:Nat} (h:l∈L):td L fp l=fp l:=if_pos h
theorem fJ {L:lN} {fp:Nat->lN} {l b:Nat} (h:b∈td L fp l):l∈L/\b∈fp l:=by
 unfold td at h;split at h
 . exact ⟨‹_›,h⟩
 cases h
section
variable {P:Program} {B:eO} {N:Nat} {φ:Nat->LS} {fp:Nat->lN} {S:Nat->Prop} {ts:Env} {m:Mem} {a:Act} {w:World}
theorem RS.sub (h:RS B N φ fp S ts m a w) {L:lN} {m':Mem} (hk:oR L m m') (hb:∀l,aj B.m0 l≠none->l∈L):
 RS B 0 (sf L φ) (td L fp) S [] m' {tmps:= #[],defers:=[]} w:=by
 obtain ⟨k1,k2,k3⟩:=hk
 refine {tm:=fun t=>by rw [look_nil];exact .rd _ _ (.undef _),tl:=fun t l af hl=>(by rw [look_nil] at hl;cases hl),bU:=fun l hl=> ?_,aF:=fun l b hb=> ?_,bl:=fun l v xs hb l' af hl=> ?_,
         gK:=fun l=> ?_,e7:=fun l l' b h1 h2=>h.e7 l l' b (fJ h1).2 (fJ h2).2,bJ:=fun l b hb=>h.bJ l b (fJ hb).2,cw:=fun l b hb=>h.cw l b (fJ hb).2,
         sB:=h.sB,base:=h.base,out:=h.out,ke:=h.ke,kn:=fun l af hl hk=> ?_,fix:=fun l af hl hk=> ?_,size:=h.size,defers:=rfl,kv:=rfl,jf:=h.jf}
 . by_cases hm:l∈L
   . rw [iV hm,C1 hm];rw [k1 l hm] at hl;exact h.bU l hl
   unfold sf td;rw [if_neg hm,if_neg hm];exact ⟨rfl,rfl⟩
 . have hm:=k2 l (by rw [hb];exact fun e=>by cases e);have hb2:=hb;rw [k1 l hm] at hb2;rw [C1 hm];refine (h.aF l b hb2).mono (fun _ _=>rfl) (fun _ h=>h) (fun l b sh af cs e _ hb=>⟨cs,e,hb,rfl⟩) (fun _ _=>rfl) (iV hm) fun v xs e l' af hl'=> ?_;subst e;rw [iV (k3 l v xs hb _ hl')];exact LS.le_refl _ _
 . have hm:=k2 l (by rw [hb];exact fun e=>by cases e);have hb2:=hb;rw [k1 l hm] at hb2;obtain ⟨k,h1,h2⟩:=h.bl l v xs hb2 l' af hl;exact ⟨k,(k1 l' (k3 l v xs hb _ hl)).trans h1,h2⟩
 . unfold td;split
   . exact h.gK l
   exact q18
 . obtain ⟨k,h1,h2⟩:=h.kn l af hl hk;obtain ⟨k0,h3,_⟩:=hk;exact ⟨k,(k1 l (hb l (by rw [h3];exact fun e=>by cases e))).trans h1,h2⟩
 obtain ⟨k0,h3,h4⟩:=hk;rw [iV (hb l (by rw [h3];exact fun e=>by cases e))];exact h.fix l af hl ⟨k0,h3,h4⟩
end
def mM (w:World) (φ:Nat->LS) (fp:Nat->lN) (S:Nat->Prop) (m0:Mem):eO:=⟨w,fun l b=>b∈fp l,S,φ,m0⟩
def fN (P:Program) (f:FuncId) (m0:Mem) (xs:lA) (post:AV->Mem->Prop):Prop:=
 Enters P f/\∀(w:World) (φ:Nat->LS) (fp:Nat->lN) (S:Nat->Prop) (vs:aV),vs.size=xs.length→
  RS (mM w φ fp S m0) vs.size φ fp S (bN 0 xs) m0 {tmps:=vs,defers:=[]} w→
  Calls P f vs w fun e w'=>∃x v m' φ' fp' S',e= .returned v/\post x m'/\RV w' S' φ' x v/\ao x=[]/\WL (keys m0) m'/\RS (mM w φ fp S m0) 0 φ' fp' S' [] m' {tmps:= #[],defers:=[]} w'
theorem fN.mono {P:Program} {f:FuncId} {m0:Mem} {xs:lA} {post post':AV->Mem->Prop} (h:fN P f m0 xs post) (hp:∀r m',post r m'->post' r m'):fN P f m0 xs post':=
 ⟨h.1,fun w φ fp S vs h1 h2=>(h.2 w φ fp S vs h1 h2).mono fun _ _ ⟨x,v,m',φ',fp',S',g1,g2,g3⟩=>⟨x,v,m',φ',fp',S',g1,hp _ _ g2,g3⟩⟩
def VG (P:Program) (rs:List ResultVar) (L:lN) (post:AV->Mem->Prop):dh
 | .normal=>fun ts m=>aQ P (fun ys=>au ys=[]/\∃m',post (bM ys) m'/\oR L m m') rs ts m []
 | .ret=>fun ts m=>aQ P (fun ys=>au ys=[]/\∃m',post (bM ys) m'/\oR L m m') rs ts m []
 |_=>fun _ _=>False
theorem PA (P:Program) (rs:List ResultVar) (L:lN) (post:AV->Mem->Prop) (ts:Env) (m:Mem):
 VG P rs L post .ret ts m=aQ P (fun ys=>au ys=[]/\∃m',post (bM ys) m'/\oR L m m') rs ts m []:=rfl
theorem il {ys:lA} (h:au ys=[]):ao (bM ys)=[]:=by
 match ys,h with
 | [],_=>simp [bM,ao,au]
 | [y],h=>simpa [bM,au] using h
 |y::y'::r,h=>rw [s4];simpa [ao] using h
theorem fN.np {P:Program} {f:FuncId} {fn:Func} {c:Code} {m0:Mem} {xs:List AV} {post:AV→Mem→Prop} (hf:P.funcs[f]? =some fn) (hn:(fn.name== "runtime.NumGoroutine")=false) (hb:fn.body=some c)
 (hok:codeOk fn.ntmps c=true) (ha:xs.length<=fn.ntmps) (hv:vc P fn.ntmps c (bN 0 xs) m0 (VG P fn.results.toList (keys m0) post)):fN P f m0 xs post:=by
 refine ⟨⟨fn,c,hf,hn,hb⟩,fun w φ fp S vs hsz hR0=> ?_⟩;refine calls_of_wp hf hb ?_;have hRS:RS (mM w φ fp S m0) fn.ntmps φ fp S (bN 0 xs) m0 {tmps:=vs++q5 (fn.ntmps-vs.size) undef,defers:=[]} w:=by
  refine {hR0 with tm:=fun t=> ?_,defers:=rfl,kv:=by simp;omega};by_cases h:t<xs.length
  . have h1:=hR0.tm t;have:vs.getD t Go.undef=(vs++q5 (fn.ntmps-vs.size) undef).getD t Go.undef:=by
     have h2:t<vs.size:=by omega
     simp only [q0];rw [q1 h2]
    rw [←this];exact h1
  rw [bO];have:(if 0<=t then (xs[t-0]?).getD AV.undef else .undef)= .undef:=by simp [q10 (show xs.length<=t by omega)]
  rw [this];exact .rd _ _ (.undef _)
 have fU:∀a' w',ie (mM w φ fp S m0) fn.ntmps (fun ts m=>aQ P (fun ys=>au ys=[]/\∃m',post (bM ys) m'/\oR (keys m0) m m') fn.results.toList ts m []) a' w'→
  a'.defers=[]/\∃v,(results fn a'.tmps).run P w'= .ok v w'/\∃x v' m' φ' fp' S',Ending.returned v= .returned v'/\post x m'/\RV w' S' φ' x v'/\ao x=[]/\WL (keys m0) m'/\RS (mM w φ fp S m0) 0 φ' fp' S' [] m' {tmps:= #[],defers:=[]} w':=by
  rintro a' w' ⟨φ',fp',S',ts',m',h',hk⟩;refine ⟨h'.defers,?_⟩;obtain ⟨ys,us,⟨hU,m2,gP,UB⟩,h2,h3,h4⟩:=cR h' fn.results.toList [] [] ⟨rfl,fun i hi=>absurd hi (q23 _)⟩ (fun i hi=>absurd hi (q23 _)) hk;obtain ⟨h3a,h3b⟩:=h3;simp only [q17] at h3a h3b;refine ⟨if h:us.toArray.size=1 then us.toArray[0] else .tuple us.toArray,?_,bM ys,_,m2,sf (keys m0) φ',td (keys m0) fp',S',rfl,gP,?_,il hU,UB.2,h'.sub UB fun l hl=>CZ hl⟩
  . have hm:results fn a'.tmps=(do let vs ←fn.results.mapM (da a'.tmps);pure (if h:vs.size=1 then vs[0] else .tuple vs)):=by
     unfold results;congr 1
    rw [hm,Sem.run_bind,q4];have:(q19 <$> fn.results.toList.mapM (da a'.tmps):Sem aV).run P w'= .ok us.toArray w':=by rw [map_eq_pure_bind,Sem.run_bind,h2];rfl
    rw [this];rfl
  refine (mH h3a h3b).mono (fun _ _=>rfl) (fun _ h=>h) (fun l b sh af cs e _ hb=>⟨cs,e,hb,rfl⟩) fun l af hl=> ?_;rw [il hU] at hl;cases hl
 refine wp_mono (cI c _ _ _ hok hv _ _ _ _ _ _ hRS) ?_;intro e a' w' hq;cases e with
 |normal=>exact fU a' w' hq
 |ret=>exact fU a' w' hq
 |_=>obtain ⟨_,_,_,_,_,_,hh⟩:=hq;exact hh.elim
theorem fN.dM {P:Program} {f:FuncId} {fn:Func} {c:Code} {m0:Mem} {xs:lA} {post:AV->Mem->Prop} (N:Nat) (rs:List ResultVar) (hf:P.funcs[f]? =some fn) (hN:fn.ntmps=N:=by exact rfl) (hr:fn.results.toList=rs:=by exact rfl)
 (hn:(fn.name== "runtime.NumGoroutine")=false:=by exact rfl) (hb:fn.body=some c:=by exact rfl) (hok:codeOk N c=true:=by exact rfl) (ha:xs.length≤N:=by exact oT rfl) (hv:vc P N c (bN 0 xs) m0 (VG P rs (keys m0) post)):fN P f m0 xs post:=by
 subst hN;subst hr;exact fN.np hf hn hb hok ha hv
theorem x9 {m' m:Mem} {l:Nat} {b:bh} (h:aj m' l=some b):aj (m'++m) l=some b:=by
 induction m' with
 |nil=>cases h
 |cons p r ih=>
  obtain ⟨k,v⟩:=p;rw [List.cons_append,aw];rw [aw] at h;by_cases e:k=l
  . rw [if_pos e] at h ⊢;exact h
  rw [if_neg e] at h ⊢;exact ih h
theorem Ii {m' m:Mem} {l:Nat} (h:aj m' l=none):aj (m'++m) l=aj m l:=by
 induction m' with
 |nil=>rfl
 |cons p r ih=>
  obtain ⟨k,v⟩:=p;rw [List.cons_append,aw];rw [aw] at h;by_cases e:k=l
  . rw [if_pos e] at h;cases h
  rw [if_neg e] at h ⊢;exact ih h
def oS (P:Program) (f:FuncId) (xs:lA) (m:Mem) (k:AV->Mem->Prop):Prop:=
 Enters P f/\∀(B:eO) (N:Nat) (φ:Nat->LS) (fp:Nat->lN) (S:Nat->Prop) (ts:Env) (a:Act) (w:World) (vs:aV),RS B N φ fp S ts m a w->vs.size=xs.length→
  (∀i (h:i<xs.length),RV w S φ xs[i] (vs.toList.getD i Go.undef))->(∀i (h:i<xs.length) l af,(l,af)∈ao xs[i]->known m l af)→
  Calls P f vs w fun e w'=>∃v,e= .returned v/\∃φ' fp' S' m' x,RS B N φ' fp' S' ts m' a w'/\RV w' S' φ' x v/\(∀l af,(l,af)∈ao x->known m' l af)/\k x m'∧
   ∀l,aj m l≠none->bG<=l->∀b,b∈fp' l->w.heap.size<=b\/b∈fp l
theorem oS.io {P:Program} {f:FuncId} {xs:lA} {m:Mem} {k:AV->Mem->Prop} (h:oS P f xs m k):ib P f xs m k:=by intro B N φ fp S ts a w vs hRS hsz hx hxl;refine ⟨h.1,(h.2 B N φ fp S ts a w vs hRS hsz hx hxl).mono ?_⟩;rintro e w' ⟨v,rfl,φ',fp',S',m',x,g1,g2,g3,g4,_⟩;exact ⟨v,rfl,φ',fp',S',ts,m',x,g1,g2,g3,rfl,g4⟩
theorem oS.DR {P:Program} {f:FuncId}:∀(ρ:List (Nat × Nat)) {xs:lA} {m:Mem} {k:AV->Mem->Prop},oQ ρ m->oS P f (mG ρ xs) (kO ρ m) (fun x m'=>k (rZ ρ x) (rY ρ m'))->oS P f xs m k
 | [],xs,m,k,_,h=>by
   simp only [kO,mG] at h;rw [show xs.map (pV [])=xs from by rw [show pV []=id from rfl,List.map_id]] at h;exact h
 |(l,l')::r,xs,m,k,⟨⟨⟨hl,hio⟩,hh,hl'⟩,rk⟩,hv=>by
  have hlen:(qi l l' xs).length=xs.length:=b7 l l' xs;have e9:mG r (qi l l' xs)=mG ((l,l')::r) xs:=by refine List.ext_getElem (by simp [mG,hlen]) fun i h1 h2=> ?_;simp only [mG,List.getElem_map];rw [eZ l l' xs i (by simpa [mG] using h2)];rfl
  have lu:=oS.DR r (k:=fun x m'=>k (iR l l' x) (xN l l' m')) (xs:=qi l l' xs) rk (by rw [e9];exact hv);refine ⟨lu.1,fun B N φ fp S ts a w vs h hsz hx hxl=> ?_⟩;have hm0:aj B.m0 l'=none:=by
   cases he:aj B.m0 l' with
   |none=>rfl
   |some k0=>
    obtain ⟨k2,h7,_⟩:=h.kn l' k0.af hio ⟨k0,he,q20 _⟩;rw [show aj m l'=none from hl'] at h7;cases h7
  have Wu:fp l'=[]:=(h.bU l' hl').2;have h1:=h.OT hl hm0 (fun b hb=>by rw [Wu] at hb;cases hb);have hne:l≠l':=by unfold bG at*;omega
  have e1:rl l l' l=l':=by simp [rl]
  have e2:rl l l' l'=l:=by unfold rl;rw [if_neg (Ne.symm hne),if_pos rfl]
  have hlk:∀x,aj (xN l l' m) x≠none↔aj m (rl l l' x)≠none:=fun x=>by rw [cW];cases aj m (rl l l' x)<;>simp
  have:=lu.2 B N _ _ S _ a w vs h1 (by rw [hlen];exact hsz) (fun i hi=>by
   have h':i<xs.length:=by rw [hlen] at hi;exact hi
   rw [eZ l l' xs i h' hi];exact (hx i h').DR l l') (fun i hi l0 af hl0=>by
   have h':i<xs.length:=by rw [hlen] at hi;exact hi
   rw [eZ l l' xs i h' hi,jP] at hl0;obtain ⟨⟨k0,v0⟩,q1,q2⟩:=q16.1 hl0;simp only [Prod.mk.injEq] at q2;obtain ⟨rfl,rfl⟩:=q2;obtain ⟨b0,q3,q4⟩:=hxl i h' k0 v0 q1
   exact ⟨J0 l l' b0,by rw [cW,jO,q3];rfl,by rw [nr];exact q4⟩)
  refine this.mono ?_;rintro e w' ⟨v,rfl,φ',fp',S',m',x,g1,g2,g3,g4,g5⟩;have hb5:∀b,b∈fp' l'->B.w0.heap.size<=b:=by
   intro b hb';rcases g5 l' ((hlk l').2 (by rw [e2];exact hh)) hio b hb' with h5|h5
   . exact q21 h.size h5
   have h5:b∈fp (rl l l' l'):=h5;rw [e2] at h5;rcases (h.cw l b h5).2 with h6|⟨_,_,h6,_⟩
   . exact h6
   exact absurd hl (Nat.not_lt.2 h6)
  have g6:=g1.OT hl hm0 hb5;refine ⟨v,rfl,fun k=>φ' (rl l l' k),fun k=>fp' (rl l l' k),S',xN l l' m',iR l l' x,?_,g2.DR l l',fun l0 af hl0=> ?_,g4,fun l0 h0 h2 b hb'=> ?_⟩
  . have ets:∀t,look (HJ l l' (HJ l l' ts)) t=look ts t:=fun t=>by rw [iS,iS,CN]
    exact {g6 with tm:=fun t=>by rw [←ets];exact g6.tm t,tl:=fun t l af hl=>g6.tl t l af (by rw [ets];exact hl)}
  . rw [jP] at hl0;obtain ⟨⟨k0,v0⟩,q1,q2⟩:=q16.1 hl0;simp only [Prod.mk.injEq] at q2;obtain ⟨rfl,rfl⟩:=q2;obtain ⟨b0,q3,q4⟩:=g3 k0 v0 q1;exact ⟨J0 l l' b0,by rw [cW,jO,q3];rfl,by rw [nr];exact q4⟩
  have n1:l0≠l:=fun e=>by subst e;exact absurd hl (Nat.not_lt.2 h2)
  have n2:l0≠l':=fun e=>by subst e;exact h0 hl'
  have e3:rl l l' l0=l0:=by unfold rl;rw [if_neg n1,if_neg n2]
  have hb':b∈fp' (rl l l' l0):=hb';rw [e3] at hb';have:=g5 l0 ((hlk l0).2 (by rw [e3];exact h0)) h2 b hb';rcases this with h5|h5
  . exact .inl h5
  have h5:b∈fp (rl l l' l0):=h5;rw [e3] at h5;exact .inr h5
theorem fN.call {P:Program} {f:FuncId} {m0:Mem} {xs:lA} {post:AV->Mem->Prop} {m:Mem} {k:AV->Mem->Prop} (hH:fN P f m0 xs post) (hhi:∀l,l∈keys m0->bG<=l) (hm:∀l,l∈keys m0->aj m l=aj m0 l)
 (hok:WL (keys m0) m0) (hxs:∀p,p∈au xs->p.1∈keys m0) (hk:∀r m',post r m'->k r (m'++m)):oS P f xs m k:=by
 refine ⟨hH.1,fun B N φ fp S ts a w vs h hsz hx hxl=> ?_⟩;have hR0:RS (mM w (sf (keys m0) φ) (td (keys m0) fp) S m0) vs.size (sf (keys m0) φ) (td (keys m0) fp) S (bN 0 xs) m0 {tmps:=vs,defers:=[]} w:=by
  refine {tm:=fun t=> ?_,tl:=fun t l af hl=> ?_,bU:=fun l hl=> ?_,aF:=fun l b hb=> ?_,bl:=fun l v xs hb l' af hl=> ?_,gK:=fun l=> ?_,e7:=fun l l' b h1 h2=>h.e7 l l' b (fJ h1).2 (fJ h2).2,
          bJ:=fun l b hb=>h.bJ l b (fJ hb).2,cw:=fun l b hb=>⟨(h.cw l b (fJ hb).2).1,.inr ⟨l,hb,hhi l (fJ hb).1,.inl rfl⟩⟩,sB:=fun b hb=>⟨(h.sB b hb).1,.inr hb⟩,base:=fun b _ _=>rfl,out:=a7.refl _,ke:=je.refl _,
          kn:=fun _ _ _ hk=>hk,fix:=fun _ _ _ _=>LS.le_refl _ _,size:=q20 _,defers:=rfl,kv:=rfl,jf:=h.jf}
  . rw [bO];by_cases ht:t<xs.length
    . have e:(if 0<=t then (xs[t-0]?).getD AV.undef else .undef)=xs[t]:=by simp [ht]
      rw [e];have e2:vs.toList.getD t Go.undef=vs.getD t Go.undef:=by simp [q8,q0]
      rw [←e2];refine (hx t ht).mono (fun _ _=>rfl) (fun _ h=>h) (fun l b sh af cs e _ hb=>⟨cs,e,hb,rfl⟩) fun l af hl=> ?_;rw [iV (hxs _ (bw ht hl))];exact LS.le_refl _ _
    have e:(if 0<=t then (xs[t-0]?).getD AV.undef else .undef)= .undef:=by simp [q10 (show xs.length<=t by omega)]
    rw [e];exact .rd _ _ (.undef _)
  . rw [bO] at hl;by_cases ht:t<xs.length
    . have e:(if 0<=t then (xs[t-0]?).getD AV.undef else .undef)=xs[t]:=by simp [ht]
      rw [e] at hl;obtain ⟨b,h1,h2⟩:=hxl t ht l af hl;exact ⟨b,(hm l (hxs _ (bw ht hl))).symm.trans h1,h2⟩
    have e:(if 0<=t then (xs[t-0]?).getD AV.undef else .undef)= .undef:=by simp [q10 (show xs.length<=t by omega)]
    rw [e] at hl;cases hl
  . have hn:l∉keys m0:=fun hh=>C0 hh hl;unfold sf td;rw [if_neg hn,if_neg hn];exact ⟨rfl,rfl⟩
  . have hl:l∈keys m0:=CZ (by rw [hb];exact fun e=>by cases e);rw [C1 hl];refine (h.aF l b ((hm l hl).trans hb)).mono (fun _ _=>rfl) (fun _ h=>h) (fun l b sh af cs e _ hb=>⟨cs,e,hb,rfl⟩) (fun _ _=>rfl) (iV hl) fun v xs e l' af hl'=> ?_;subst e;rw [iV (hok.2 l v xs hb _ hl')];exact LS.le_refl _ _
  . have hl0:l∈keys m0:=CZ (by rw [hb];exact fun e=>by cases e);obtain ⟨b,h1,h2⟩:=h.bl l v xs ((hm l hl0).trans hb) l' af hl;exact ⟨b,(hm l' (hok.2 l v xs hb _ hl)).symm.trans h1,h2⟩
  unfold td;split
  . exact h.gK l
  exact q18
 refine (hH.2 w _ _ S vs hsz hR0).mono ?_;rintro e w' ⟨x,v,m',φ',fp',S',rfl,gP,hrv,hU,XY,hR⟩;have jb:∀b:Nat,b<w.heap.size->(∀l,l∈keys m0->b∉fp l)->w'.heap[b]? =w.heap[b]? :=fun b hb hn=>hR.base b hb fun l hb'=>hn l (fJ hb').1 (fJ hb').2;have lq:∀b,S b->w'.heap[b]? =w.heap[b]? :=fun b hb=>jb b (h.sB b hb).1 fun l _ hb'=>h.bJ _ b hb' hb;have hz:fH φ w w':=fun l b sh af cs e _ hb=>hR.ke b cs e hb;have hST:∀b,S' b->S b\/(S' b/\w.heap.size<=b):=fun b hb=>by
  rcases (hR.sB b hb).2 with hh|hh
  . exact .inr ⟨hb,hh⟩
  exact .inl hh
 have kno:∀l af,l∈keys m0->known m l af->known m0 l af:=fun l af hl ⟨b,h1,h2⟩=>⟨b,(hm l hl).symm.trans h1,h2⟩;have inm':∀l,l∈keys m0->∃b,aj m' l=some b:=by
  intro l hl;cases hb:aj m0 l with
  |none=>exact absurd hb (C0 hl)
  |some b=>
   obtain ⟨b',h1,_⟩:=hR.kn l b.af (hhi l hl) ⟨b,hb,q20 _⟩;exact ⟨b',h1⟩
 have lkL:∀l,l∈keys m0->aj (m'++m) l=aj m' l:=fun l hl=>by obtain ⟨b,hb⟩:=inm' l hl;rw [hb];exact x9 hb
 have lkR:∀l,l∉keys m0->aj (m'++m) l=aj m l:=fun l hl=>Ii (by
  cases hb:aj m' l with
  |none=>rfl
  |some b=>exact absurd (XY.1 l (by rw [hb];exact fun e=>by cases e)) hl)
 have hkn:∀l af,known m l af->known (m'++m) l af:=by
  intro l af hk;by_cases hl:l∈keys m0
  . obtain ⟨b,h1,h2⟩:=hR.kn l af (hhi l hl) (kno l af hl hk);exact ⟨b,(lkL l hl).trans h1,h2⟩
  obtain ⟨b,h1,h2⟩:=hk;exact ⟨b,(lkR l hl).trans h1,h2⟩
 let φ2:Nat->LS:=fun l=>if l∈keys m0 then φ' l else φ l
 let fp2:Nat->lN:=fun l=>if l∈keys m0 then fp' l else fp l
 have φi:∀l,l∈keys m0->φ2 l=φ' l:=fun l hl=>if_pos hl;have φo:∀l,l∉keys m0->φ2 l=φ l:=fun l hl=>if_neg hl;have fi:∀l,l∈keys m0->fp2 l=fp' l:=fun l hl=>if_pos hl;have fo:∀l,l∉keys m0->fp2 l=fp l:=fun l hl=>if_neg hl;have hle:∀l af,known m l af->LS.le (φ2 l) (φ l) af:=by
  intro l af hk;by_cases hl:l∈keys m0
  . have:=hR.fix l af (hhi l hl) (kno l af hl hk);have this:LS.le (φ' l) (sf (keys m0) φ l) af:=this;rw [iV hl] at this;rw [φi l hl];exact this
  rw [φo l hl];exact LS.le_refl _ _
 have fpnew:∀l,l∈keys m0->∀b,b∈fp' l->b<w'.heap.size/\(w.heap.size<=b\/b∈fp l):=by intro l hl b hb;have:=hR.cw l b hb;refine ⟨this.1,this.2.imp id ?_⟩;rintro ⟨l',hb2,_,hl3⟩;have hl3:l'=l:=hl3.resolve_right fun e=>C0 hl e;subst hl3;have hb2:b∈td (keys m0) fp l':=hb2;exact (fJ hb2).2
 have ZW:∀l,aj m' l=none->fp' l=[]:=fun l hl=>(hR.bU l hl).2;have mixed:∀l,l∈keys m0->∀l' b,l'∉keys m0->b∈fp' l->b∈fp l'->False:=by
  intro l hl l' b hl' b1 b2;rcases (fpnew l hl b b1).2 with hh|hh
  . have:=(h.cw l' b b2).1;omega
  exact hl' (by rw [h.e7 _ _ b b2 hh];exact hl)
 refine ⟨v,rfl,φ2,fp2,fun b=>S b\/(S' b/\w.heap.size<=b),m'++m,x,?_,?_,fun l af hl=>(by rw [hU] at hl;cases hl),hk x m' gP,fun l _ _ b hb=>(by
  by_cases hl:l∈keys m0
  . rw [fi l hl] at hb;exact (fpnew l hl b hb).2
  rw [fo l hl] at hb;exact .inr hb)⟩
 . refine {tm:=fun t=>(h.tm t).mono lq (fun b hb=>.inl hb) hz fun l af hl=>hle l af (h.tl t l af hl),tl:=fun t l af hl=>hkn l af (h.tl t l af hl),bU:=fun l hl=> ?_,aF:=fun l b hb=> ?_,
           bl:=fun l v xs hb l' af hl=> ?_,gK:=fun l=> ?_,e7:=fun l l' b h1 h2=> ?_,bJ:=fun l b hb=> ?_,cw:=fun l b hb=> ?_,sB:=fun b hb=> ?_,base:=fun b hb hio=> ?_,
           out:=h.out.trans hR.out,ke:=h.ke.trans hR.ke,kn:=fun l af hl hk=>hkn l af (h.kn l af hl hk),fix:=fun l af hl hk=>LS.le_trans (hle l af (h.kn l af hl hk)) (h.fix l af hl hk),size:=q21 h.size hR.size,defers:=h.defers,kv:=h.kv,
           jf:=h.jf.mono lq fun b hb=>.inl hb}
   . by_cases hm1:l∈keys m0
     . obtain ⟨b,hb⟩:=inm' l hm1;rw [lkL l hm1,hb] at hl;cases hl
     rw [lkR l hm1] at hl;rw [φo l hm1,fo l hm1];exact h.bU l hl
   . by_cases hm1:l∈keys m0
     . rw [lkL l hm1] at hb;rw [fi l hm1];refine (hR.aF l b hb).mono (fun _ _=>rfl) hST (fun l b sh af cs e _ hb=>⟨cs,e,hb,rfl⟩) (fun _ _=>rfl) (φi l hm1) fun v xs e l' af hl'=> ?_;subst e;rw [φi l' (XY.2 l v xs hb _ hl')];exact LS.le_refl _ _
     rw [lkR l hm1] at hb;rw [fo l hm1];refine (h.aF l b hb).mono lq (fun b hb=>.inl hb) hz (fun c hc=>jb c (h.cw l c hc).1 fun l' hl' hc'=>hm1 (by rw [h.e7 _ _ c hc hc'];exact hl')) (φo l hm1) fun v xs e l' af hl'=> ?_;subst e;exact hle l' af (h.bl l v xs hb l' af hl')
   . by_cases hm1:l∈keys m0
     . rw [lkL l hm1] at hb;obtain ⟨b,h1,h2⟩:=hR.bl l v xs hb l' af hl;exact ⟨b,x9 h1,h2⟩
     rw [lkR l hm1] at hb;exact hkn l' af (h.bl l v xs hb l' af hl)
   . by_cases hm1:l∈keys m0
     . rw [fi l hm1];exact hR.gK l
     rw [fo l hm1];exact h.gK l
   . by_cases m1:l∈keys m0
     . rw [fi l m1] at h1;by_cases m2:l'∈keys m0
       . rw [fi l' m2] at h2;exact hR.e7 _ _ b h1 h2
       rw [fo l' m2] at h2;exact (mixed l m1 l' b m2 h1 h2).elim
     rw [fo l m1] at h1;by_cases m2:l'∈keys m0
     . rw [fi l' m2] at h2;exact (mixed l' m2 l b m1 h2 h1).elim
     rw [fo l' m2] at h2;exact h.e7 l l' b h1 h2
   . by_cases hm1:l∈keys m0
     . rw [fi l hm1] at hb;rintro (hs|hs)
       . rcases (fpnew l hm1 b hb).2 with hh|hh
         . have:=(h.sB b hs).1;omega
         exact h.bJ _ b hh hs
       exact hR.bJ _ b hb hs.1
     rw [fo l hm1] at hb;rintro (hs|hs)
     . exact h.bJ l b hb hs
     have:=(h.cw l b hb).1;omega
   . by_cases hm1:l∈keys m0
     . rw [fi l hm1] at hb;have:=fpnew l hm1 b hb;refine ⟨this.1,?_⟩;rcases this.2 with hh|hh
       . exact .inl (q21 h.size hh)
       exact (h.cw _ b hh).2
     rw [fo l hm1] at hb;have:=h.cw l b hb;exact ⟨q22 this.1 hR.size,this.2⟩
   . rcases hb with hs|hs
     . have:=h.sB b hs;exact ⟨q22 this.1 hR.size,this.2⟩
     exact ⟨(hR.sB b hs.1).1,.inl (q21 h.size hs.2)⟩
   refine (jb b (q22 hb h.size) fun l hl hb'=> ?_).trans (h.base b hb hio);rcases (h.cw _ b hb').2 with hh|hh
   . omega
   exact hio _ hh.choose_spec.1
 refine hrv.mono (fun _ _=>rfl) hST (fun l b sh af cs e _ hb=>⟨cs,e,hb,rfl⟩) fun l af hl=> ?_;rw [hU] at hl;cases hl
def ct (L:lN):List (Nat × Nat)->Prop
 | []=>True
 |p::r=>p.1∈L/\ct L r
theorem PB (L:lN):ct L []=True:=rfl
theorem Md (L:lN) (l v:Nat) (r:List (Nat × Nat)):ct L ((l,v)::r)=(l∈L/\ct L r):=rfl
theorem oU {L:lN}:∀{r:List (Nat × Nat)},ct L r->∀p,p∈r->p.1∈L
 | [],_,p,h=>by cases h
 |_::_,h,p,hp=>by
  rcases q13.1 hp with e|hp
  . subst e;exact h.1
  exact oU h.2 p hp
def Yi (L:lN) (b:bh):Prop:=match b with
 | .box _ xs=>ct L (au xs)
 |_=>True
theorem S7 (L:lN) (v:Nat) (xs:lA):Yi L (.box v xs)=ct L (au xs):=rfl
theorem S8 (L:lN) (v:Nat) (sh:Sh) (d:Bool) (xs:lA):Yi L (.row v sh d xs)=True:=rfl
def okB (L:lN):Mem->Prop
 | []=>True
 |(l,b)::r=>(l∈L/\Yi L b)/\okB L r
theorem S9 (L:lN):okB L []=True:=rfl
theorem PC (L:lN) (l:Nat) (b:bh) (r:Mem):okB L ((l,b)::r)=((l∈L/\Yi L b)/\okB L r):=rfl
theorem te {L:lN}:∀{m:Mem},okB L m->WL L m
 | [],_=>⟨fun l h=>absurd rfl h,fun l v xs h=>by cases h⟩
 |(l,b)::r,⟨⟨h1,h2⟩,h3⟩=>by
  obtain ⟨g1,g2⟩:=te h3;refine ⟨fun l' h=> ?_,fun l' v xs h=> ?_⟩
  . rw [aw] at h;split at h
    . rename_i e;subst e;exact h1
    exact g1 l' h
  rw [aw] at h;split at h
  . injection h with h
    subst h;exact oU h2
  exact g2 l' v xs h
def sg (m m':Mem):lN->Prop
 | []=>True
 |l::r=>aj m l=aj m' l/\sg m m' r
theorem Me (m m':Mem):sg m m' []=True:=rfl
theorem Ij (m m':Mem) (l:Nat) (r:lN):sg m m' (l::r)=(aj m l=aj m' l/\sg m m' r):=rfl
theorem mN {m m':Mem}:∀{L:lN},sg m m' L->∀l,l∈L->aj m l=aj m' l
 | [],_,l,h=>by cases h
 |_::_,⟨h1,h2⟩,l,h=>by
  rcases q13.1 h with rfl|h
  . exact h1
  exact mN h2 l h
theorem aN {L:lN} {m m':Mem} (h1:sg m' m L) (h2:okB L m'):oR L m m':=⟨mN h1,te h2⟩
def Fu:lN->Prop
 | []=>True
 |l::r=>1000000000<=l/\Fu r
theorem PD:Fu []=True:=rfl
theorem Mf (l:Nat) (r:lN):Fu (l::r)=(1000000000<=l/\Fu r):=rfl
theorem sj:∀{L:lN},Fu L->∀l,l∈L->bG<=l
 | [],_,l,h=>by cases h
 |_::_,⟨h1,h2⟩,l,h=>by
  rcases q13.1 h with rfl|h
  . exact h1
  exact sj h2 l h
theorem c7 {P:Program} {f:FuncId} {m0:Mem} {xs xt:lA} {d:Nat} {post:AV->Mem->Prop} {m:Mem} {k:AV->Mem->Prop} {q:Pack k} (hH:fN P f m0 xs post)
 (hc:(Fu (keys m0)/\okB (keys m0) m0)/\sg m m0 (keys m0)/\ct (keys m0) (au xs)) (hk:∀r m',post r m'->k r (m'++m)):eQ P f d xs xt m k q:=
 .inl (fN.call hH (sj hc.1.1) (mN hc.2.1) (te hc.1.2) (oU hc.2.2) hk).io
theorem jr (J:Nat) {P:Program} {f:FuncId} {m0:Mem} {xs xs0 xt:lA} {d:Nat} {post:AV->Mem->Prop} {m:Mem} {k:AV->Mem->Prop} {q:Pack k} (hH:fN P f m0 xs0 post)
 (hr:oQ (eX J [] m) m/\mG (eX J [] m) xs=xs0)
 (hc:(Fu (keys m0)/\okB (keys m0) m0)/\sg (kO (eX J [] m) m) m0 (keys m0)/\ct (keys m0) (au xs0))
 (hk:∀r m',post r m'->k (rZ (eX J [] m) r) (rY (eX J [] m) (m'++kO (eX J [] m) m))):eQ P f d xs xt m k q:=
 .inl (oS.DR (eX J [] m) hr.1 (by rw [hr.2];exact fN.call hH (sj hc.1.1) (mN hc.2.1) (te hc.1.2) (oU hc.2.2) hk)).io
attribute [go_sem] keys_nil keys_cons PB Md S7 S8 S9 PC Me Ij PD Mf PA
end Go.Vc
namespace Go.Vc
section
variable {P:Program} {B:eO} {N:Nat} {φ:Nat->LS} {fp:Nat->lN} {S:Nat->Prop} {ts:Env} {m:Mem} {a:Act} {w:World}
def uU (l v:Nat) (sh:Sh) (ys:lA):lA->lA->Prop
 | [],[]=>True
 |x::xs,t::r=>((∃i n,x= .ref l v i n/\i+n<=ys.length/\t= .arr sh ((ys.drop i).take n))\/(ao x=[]/\aH x=false/\t=x))/\uU l v sh ys xs r
 |_,_=>False
theorem mO {l v:Nat} {sh:Sh} {ys xs r:lA} (i n:Nat) (h:i+n<=ys.length) (hr:uU l v sh ys xs r):uU l v sh ys (.ref l v i n::xs) (.arr sh ((ys.drop i).take n)::r):=⟨.inl ⟨i,n,rfl,h,rfl⟩,hr⟩
theorem sn {l v:Nat} {sh:Sh} {ys xs r:lA} {x:AV} (h:ao x=[]) (h2:aH x=false) (hr:uU l v sh ys xs r):uU l v sh ys (x::xs) (x::r):=⟨.inr ⟨h,h2,rfl⟩,hr⟩
theorem Mg {l v:Nat} {sh:Sh} {ys:lA}:uU l v sh ys [] []:=trivial
theorem kQ {P:Program} {f:FuncId} {d:Nat} {xs trs xt:lA} {m:Mem} {k:AV->Mem->Prop} {q:Pack k} {post:AV->Prop} (l v:Nat) (sh:Sh) (dp:Bool) (ys:lA) (hfn:Fn P f trs false post) (hl:l<bG)
 (hm:aj m l=some (.row v sh dp ys)) (hx:uU l v sh ys xs trs) (hk:∀r,post r->k r ((l,.gone v)::m)):eQ P f d xs xt m k q:=by
 refine .inl fun B N φ fp S ts a w vs h hsz hrv hxl=>⟨hfn.1,?_⟩;have hf:=h.Yh hl hm (v:=v) rfl
 have hlen:∀(xs trs:lA),uU l v sh ys xs trs->trs.length=xs.length/\∀i (h1:i<xs.length) (h2:i<trs.length),
  (∃j n,xs[i]= .ref l v j n/\j+n<=ys.length/\trs[i]= .arr sh ((ys.drop j).take n))\/(ao xs[i]=[]/\aH xs[i]=false/\trs[i]=xs[i]):=by
  intro xs;induction xs with
  |nil=>intro trs hx;cases trs with
   |nil=>exact ⟨rfl,fun i h1=>absurd h1 (q23 _)⟩
   |cons=>exact hx.elim
  |cons x xs ih=>intro trs hx;cases trs with
   |nil=>exact hx.elim
   |cons t r=>
    obtain ⟨g1,g2⟩:=ih r hx.2;refine ⟨by simp [g1],fun i h1 h2=> ?_⟩;cases i with
    |zero=>exact hx.1
    |succ i=>exact g2 i (by simpa using h1) (by simpa using h2)
 obtain ⟨hlen,Y8⟩:=hlen xs trs hx;refine (hfn.2 w (fun b=>S b\/b∈fp l) vs (fun b hb=>(hf.sB b hb).1) hf.jf (hsz.trans hlen.symm) fun i hi=> ?_).mono ?_
 . have hi2:i<xs.length:=by omega
   rcases Y8 i hi2 hi with ⟨j,n,e1,e2,e3⟩|⟨e1,e2,e3⟩
   . rw [e3];have:=hrv i hi2;rw [e1] at this;exact CF h hl hm e2 this
   rw [e3];exact (cQ (hrv i hi2) e1).mono (fun _ _=>rfl) fun _ h=>.inl h
 rintro e w' ⟨r,v',rfl,hr,hg,kc⟩;simp only [iN,q6,if_false] at kc;have hRS:=(hf.grown hg).hold (fun b=>w.heap.size<=b/\b<w'.heap.size) (fun b hb=>⟨hb.2,q21 hf.size hb.1,fun k hk=>by have:=(hf.cw k b hk).1;omega⟩);exact ⟨v',rfl,_,_,_,ts,_,r,hRS,.rd _ _ kc,fun k af hk=>(by rw [fX kc] at hk;cases hk),rfl,hk r hr⟩
def Ik (P:Program) (rs:List ResultVar) (post:AV->Prop):dh
 | .normal=>fun ts m=>aQ P (fun xs=>iO (fun ys _=>au ys=[]/\post (bM ys)) [] m xs) rs ts m []
 | .ret=>fun ts m=>aQ P (fun xs=>iO (fun ys _=>au ys=[]/\post (bM ys)) [] m xs) rs ts m []
 |_=>fun _ _=>False
theorem PE (P:Program) (rs:List ResultVar) (post:AV->Prop) (ts:Env) (m:Mem):Ik P rs post .ret ts m=aQ P (fun xs=>iO (fun ys _=>au ys=[]/\post (bM ys)) [] m xs) rs ts m []:=rfl
theorem Fn.Ta {P:Program} {f:FuncId} {fn:Func} {c:Code} {args:List AV} {post:AV→Prop} (hf:P.funcs[f]? =some fn) (hn:(fn.name== "runtime.NumGoroutine")=false) (hb:fn.body=some c)
 (hok:codeOk fn.ntmps c=true) (ha:args.length<=fn.ntmps) (hv:vc P fn.ntmps c (bN 0 args) [] (Ik P fn.results.toList post)):Fn P f args false post:=by
 refine ⟨⟨fn,c,hf,hn,hb⟩,fun w S vs hS zi hsz hrd=> ?_⟩;refine calls_of_wp hf hb ?_;have hRS:RS ⟨w,fun _ _=>False,S,fun _=>.dead,[]⟩ fn.ntmps (fun _=>.dead) (fun _=>[]) S (bN 0 args) [] {tmps:=vs++q5 (fn.ntmps-vs.size) undef,defers:=[]} w:=by
  have j0:∀t,(look (bN 0 args) t= .undef\/∃h:t<args.length,look (bN 0 args) t=args[t]):=by
   intro t;rw [bO];by_cases h:t<args.length
   . exact .inr ⟨h,by simp [h]⟩
   exact .inl (by simp [h])
  refine {tm:=fun t=> ?_,tl:=fun t l af hl=> ?_,bU:=fun _ _=>⟨rfl,rfl⟩,aF:=fun l k hk=>(by cases hk),bl:=fun l v xs hk=>(by cases hk),gK:=fun _=>q18,
          e7:=fun _ _ _ h=>(by cases h),bJ:=fun _ _ h=>(by cases h),cw:=fun _ _ h=>(by cases h),sB:=fun b hb=>⟨hS b hb,.inr hb⟩,base:=fun b hb _=>rfl,out:=a7.refl _,ke:=je.refl _,kn:=fun _ _ _ hk=>hk,fix:=fun _ _ _ _=>LS.le_refl _ _,
          size:=q20 _,defers:=rfl,kv:=by simp;omega,jf:=zi}
  . rcases j0 t with e|⟨h,e⟩
    . rw [e];exact .rd _ _ (.undef _)
    rw [e];have h1:=hrd t h;have:vs.toList.getD t Go.undef=(vs++q5 (fn.ntmps-vs.size) undef).getD t Go.undef:=by
     have h2:t<vs.size:=by omega
     simp only [q0,q8,q3];rw [q1 h2]
    rw [←this];exact .rd _ _ h1
  rcases j0 t with e|⟨h,e⟩
  . rw [e] at hl;cases hl
  rw [e,fX (hrd t h)] at hl;cases hl
 have fU:∀a' w',ie ⟨w,fun _ _=>False,S,fun _=>.dead,[]⟩ fn.ntmps (fun ts m=>aQ P (fun xs=>iO (fun ys _=>au ys=[]/\post (bM ys)) [] m xs) fn.results.toList ts m []) a' w'→
  a'.defers=[]/\∃v,(results fn a'.tmps).run P w'= .ok v w'/\∃r v',Ending.returned v= .returned v'/\post r/\Grown w w'/\iN w w' S false r v':=by
  rintro a' w' ⟨DP,fp0,S0,ts',m0,h0,hk⟩;refine ⟨h0.defers,?_⟩;obtain ⟨ys0,us,h1,h2,h3,h4⟩:=cR h0 fn.results.toList [] [] ⟨rfl,fun i hi=>absurd hi (q23 _)⟩ (fun i hi=>absurd hi (q23 _)) hk;obtain ⟨φ',fp',S',m',ys,hgv,h3,hU,gP⟩:=pr ys0 us [] [] h0 (by simpa using h3) ⟨rfl,fun i hi=>absurd hi (q23 _)⟩ h1;have h':=hgv.rs;obtain ⟨h3a,h3b⟩:=h3;simp only [q17] at h3a h3b;refine ⟨if h:us.toArray.size=1 then us.toArray[0] else .tuple us.toArray,?_,bM ys,_,rfl,gP,⟨h'.size,fun b hb=>h'.base b hb (fun _ h=>h),h'.out⟩,?_⟩
  . have hm:results fn a'.tmps=(do let vs ←fn.results.mapM (da a'.tmps);pure (if h:vs.size=1 then vs[0] else .tuple vs)):=by
     unfold results;congr 1
    rw [hm,Sem.run_bind,q4];have:(q19 <$> fn.results.toList.mapM (da a'.tmps):Sem aV).run P w'= .ok us.toArray w':=by rw [map_eq_pure_bind,Sem.run_bind,h2];rfl
    rw [this];rfl
  show Rd w' _ _ _;refine (cQ (mH h3a h3b) (il hU)).mono (fun _ _=>rfl) fun b hb=> ?_;rcases (h'.sB b hb).2 with hh|hh
  . exact .inr ⟨hh,(h'.sB b hb).1⟩
  exact .inl hh
 refine wp_mono (cI c _ _ _ hok hv _ _ _ _ _ _ hRS) ?_;intro e a' w' hq;cases e with
 |normal=>exact fU a' w' hq
 |ret=>exact fU a' w' hq
 |_=>obtain ⟨_,_,_,_,_,_,hh⟩:=hq;exact hh.elim
theorem Fn.cg {P:Program} {f:FuncId} {fn:Func} {c:Code} {args:List AV} {post:AV→Prop} (N:Nat) (rs:List ResultVar) (hf:P.funcs[f]? =some fn) (hN:fn.ntmps=N:=by exact rfl) (hr:fn.results.toList=rs:=by exact rfl) (hn:(fn.name== "runtime.NumGoroutine")=false:=by exact rfl)
 (hb:fn.body=some c:=by exact rfl) (hok:codeOk N c=true:=by exact rfl) (ha:args.length<=N:=by exact oT rfl) (hv:vc P N c (bN 0 args) [] (Ik P rs post)):Fn P f args false post:=by
 subst hN;subst hr;exact Fn.Ta hf hn hb hok ha hv
attribute [go_sem] PE Er Es Av wP
def Uq:lA->AV
 | [x]=>.bu ⟨1,false⟩ [x] 0 0
 |xs=>.bu ⟨xs.length,true⟩ [.agg xs] 0 0
def BC (m:Mem):lA->lA->Prop
 | [],[]=>True
 | .ptr l v 0 0::r,y::ys=>(∃xs,aj m l=some (.box v xs)/\au xs=[]/\(∀x,x∈xs->fits ⟨1,false⟩ x)/\xs≠[]/\y=Uq xs)/\BC m r ys
 |_,_=>False
def Il (P:Program) (rs:List ResultVar) (g:FuncId) (ys:lA):dh
 | .normal=>fun ts m=>aQ P (fun xs=>∃ps,xs=[.cy g ps]/\BC m ps ys) rs ts m []
 | .ret=>fun ts m=>aQ P (fun xs=>∃ps,xs=[.cy g ps]/\BC m ps ys) rs ts m []
 |_=>fun _ _=>False
theorem Im (P:Program) (rs:List ResultVar) (g:FuncId) (ys:lA) (ts:Env) (m:Mem):Il P rs g ys .ret ts m=aQ P (fun xs=>∃ps,xs=[.cy g ps]/\BC m ps ys) rs ts m []:=rfl
attribute [go_sem] Im
theorem Tb (h:RS B N φ fp S ts m a w) {l v:Nat} {xs:lA} {u:Value} (hb:aj m l=some (.box v xs)) (hl:au xs=[]) (hf:∀x,x∈xs->fits ⟨1,false⟩ x) (hne:xs≠[]) (hu:RV w S φ (.ptr l v 0 0) u):
 Rd w (fun b=>S b\/∃l,b∈fp l) (Uq xs) u:=by
 obtain ⟨b,cs,e,sh,h1,h2,h3,h4,h5,h6⟩:=h.aF l _ hb;have hp:=j3 hu b sh h1;rw [Nat.zero_mul,q24] at hp;subst hp;have hbS:S b\/∃l,b∈fp l:=.inr ⟨l,by rw [h2];simp⟩;have hrd:∀i (hi:i<xs.length),Rd w (fun b=>S b\/∃l,b∈fp l) xs[i] (cs.toList.getD i Go.undef):=fun i hi=>(cQ (h6 i hi) (bK hl i hi)).mono (fun _ _=>rfl) fun _ h=>.inl h;match xs,hne,hf,h4,h5,hrd with
 | [x],_,hf,h4,h5,hrd=>
   refine .bu ⟨1,false⟩ [x] 0 0 b 0 cs _ _ hbS h3 (by simpa using h4) (fun i hi=>hf _ (List.getElem_mem hi)) fun i hi=> ?_;have:i=0:=by simp at hi;omega
   subst this;simpa [elemV] using hrd 0 (by simp)
 |x::y::r,_,hf,h4,h5,hrd=>
  have:=Rd.bu (w:=w) (S:=fun b=>S b\/∃l,b∈fp l) ⟨(x::y::r).length,true⟩ [.agg (x::y::r)] 0 0 b 0 cs _ _ hbS h3 (by simpa using h4) (fun i hi=>by
   have:i=0:=by simp at hi;omega
   subst this
   exact ⟨rfl,rfl⟩) (fun i hi=>by
   have:i=0:=by simp at hi;omega
   subst this;simp only [elemV,if_true,Nat.zero_mul,q24,List.drop_zero,List.getElem_cons_zero];refine .agg _ _ (by simp at h4 ⊢;omega) h5 fun i hi=> ?_;have:=hrd i hi;rw [q8] at this ⊢;rw [List.toList_toArray,List.getElem?_take,if_pos hi]
   exact this)
  rw [Nat.zero_mul] at this;exact this
theorem J4 (h:RS B N φ fp S ts m a w):∀(ps ys:lA) (us:List Value),us.length=ps.length->(∀i (hi:i<ps.length),RV w S φ ps[i] (us.getD i Go.undef))->BC m ps ys->ys.length=ps.length/\∀i (hi:i<ys.length),Rd w (fun b=>S b\/∃l,b∈fp l) ys[i] (us.getD i Go.undef)
 | [],[],us,hl,_,_=>⟨rfl,fun i hi=>absurd hi (q23 _)⟩
 | .ptr l v 0 0::r,y::ys,[],hl,_,_=>absurd hl (by simp)
 | .ptr l v 0 0::r,y::ys,u::us,hl,hp,hk=>by
   obtain ⟨⟨xs,h1,h2,h3,h4,rfl⟩,hk⟩:=hk;obtain ⟨g1,g2⟩:=J4 h r ys us (by simpa using hl) (fun i hi=>by have:=hp (i+1) (by simpa using hi);rwa [List.getElem_cons_succ,List.getD_cons_succ] at this) hk;refine ⟨by simp [g1],fun i hi=> ?_⟩;cases i with
   |zero=>exact Tb h h1 h2 h3 h4 (hp 0 (by simp))
   |succ i=>
    rw [List.getElem_cons_succ,List.getD_cons_succ];exact g2 i (by simpa using hi)
end
theorem Fn.Mh {P:Program} {f:FuncId} {fn:Func} {c:Code} {args:List AV} {g:FuncId} {ys:List AV} (hf:P.funcs[f]? =some fn) (hn:(fn.name== "runtime.NumGoroutine")=false) (hb:fn.body=some c)
 (hok:codeOk fn.ntmps c=true) (ha:args.length<=fn.ntmps) (hv:vc P fn.ntmps c (bN 0 args) [] (Il P fn.results.toList g ys)):Fn P f args false (fun r=>r= .cy g ys):=by
 refine ⟨⟨fn,c,hf,hn,hb⟩,fun w S vs hS zi hsz hrd=> ?_⟩;refine calls_of_wp hf hb ?_;have hRS:RS ⟨w,fun _ _=>False,S,fun _=>.dead,[]⟩ fn.ntmps (fun _=>.dead) (fun _=>[]) S (bN 0 args) [] {tmps:=vs++q5 (fn.ntmps-vs.size) undef,defers:=[]} w:=by
  have j0:∀t,(look (bN 0 args) t= .undef\/∃h:t<args.length,look (bN 0 args) t=args[t]):=by
   intro t;rw [bO];by_cases h:t<args.length
   . exact .inr ⟨h,by simp [h]⟩
   exact .inl (by simp [h])
  refine {tm:=fun t=> ?_,tl:=fun t l af hl=> ?_,bU:=fun _ _=>⟨rfl,rfl⟩,aF:=fun l k hk=>(by cases hk),bl:=fun l v xs hk=>(by cases hk),gK:=fun _=>q18,
          e7:=fun _ _ _ h=>(by cases h),bJ:=fun _ _ h=>(by cases h),cw:=fun _ _ h=>(by cases h),sB:=fun b hb=>⟨hS b hb,.inr hb⟩,base:=fun b hb _=>rfl,out:=a7.refl _,ke:=je.refl _,kn:=fun _ _ _ hk=>hk,fix:=fun _ _ _ _=>LS.le_refl _ _,
          size:=q20 _,defers:=rfl,kv:=by simp;omega,jf:=zi}
  . rcases j0 t with e|⟨h,e⟩
    . rw [e];exact .rd _ _ (.undef _)
    rw [e];have h1:=hrd t h;have:vs.toList.getD t Go.undef=(vs++q5 (fn.ntmps-vs.size) undef).getD t Go.undef:=by
     have h2:t<vs.size:=by omega
     simp only [q0,q8,q3];rw [q1 h2]
    rw [←this];exact .rd _ _ h1
  rcases j0 t with e|⟨h,e⟩
  . rw [e] at hl;cases hl
  rw [e,fX (hrd t h)] at hl;cases hl
 have fU:∀a' w',ie ⟨w,fun _ _=>False,S,fun _=>.dead,[]⟩ fn.ntmps (fun ts m=>aQ P (fun xs=>∃ps,xs=[.cy g ps]/\BC m ps ys) fn.results.toList ts m []) a' w'→
  a'.defers=[]/\∃v,(results fn a'.tmps).run P w'= .ok v w'/\∃r v',Ending.returned v= .returned v'/\r=AV.cy g ys/\Grown w w'/\iN w w' S false r v':=by
  rintro a' w' ⟨DP,fp0,S0,ts',m0,h1,hk⟩;refine ⟨h1.defers,?_⟩;obtain ⟨zs,us,⟨ps,rfl,cj⟩,h2,h3,h4⟩:=cR h1 fn.results.toList [] [] ⟨rfl,fun i hi=>absurd hi (q23 _)⟩ (fun i hi=>absurd hi (q23 _)) hk;obtain ⟨h3a,h3b⟩:=h3;simp only [q17] at h3a h3b;obtain ⟨u,rfl⟩:∃u,us=[u]:=List.length_eq_one_iff.1 h3a;have hu:RV w' S0 DP (.cy g ps) u:=h3b 0 (by simp);refine ⟨u,?_,_,u,rfl,rfl,⟨h1.size,fun b hb=>h1.base b hb (fun _ h=>h),h1.out⟩,?_⟩
  . have hm:results fn a'.tmps=(do let vs ←fn.results.mapM (da a'.tmps);pure (if h:vs.size=1 then vs[0] else .tuple vs)):=by
     unfold results;congr 1
    rw [hm,Sem.run_bind,q4];have:(q19 <$> fn.results.toList.mapM (da a'.tmps):Sem aV).run P w'= .ok #[u] w':=by rw [map_eq_pure_bind,Sem.run_bind,h2];rfl
    rw [this];rfl
  obtain ⟨cs,rfl,hcs,hcv⟩:∃cs:aV,u= .func (.func g) #[] cs/\cs.size=ps.length/\∀i (hi:i<ps.length),RV w' S0 DP ps[i] (cs.toList.getD i Go.undef):=by
   cases hu with
   |rd _ _ h=>cases h with|cy _ _ cs q1 q2=>exact ⟨cs,rfl,q1,fun i hi=>.rd _ _ (q2 i hi)⟩
   |cy _ _ cs q1 q2=>exact ⟨cs,rfl,q1,q2⟩
  obtain ⟨g1,g2⟩:=J4 h1 ps ys cs.toList (by simpa using hcs) hcv cj;show Rd _ _ _ _;refine .cy g ys cs (by omega) fun i hi=>(g2 i hi).mono (fun _ _=>rfl) fun b hb=> ?_;rcases hb with hb|⟨l,hb⟩
  . rcases (h1.sB b hb).2 with hh|hh
    . exact .inr ⟨hh,(h1.sB b hb).1⟩
    exact .inl hh
  rcases (h1.cw l b hb).2 with hh|⟨_,hh,_⟩
  . exact .inr ⟨hh,(h1.cw l b hb).1⟩
  exact hh.elim
 refine wp_mono (cI c _ _ _ hok hv _ _ _ _ _ _ hRS) ?_;intro e a' w' hq;cases e with
 |normal=>exact fU a' w' hq
 |ret=>exact fU a' w' hq
 |_=>obtain ⟨_,_,_,_,_,_,hh⟩:=hq;exact hh.elim
theorem Fn.PF {P:Program} {f:FuncId} {fn:Func} {c:Code} {args:List AV} {g:FuncId} {ys:List AV} (N:Nat) (rs:List ResultVar) (hf:P.funcs[f]? =some fn) (hN:fn.ntmps=N:=by exact rfl) (hr:fn.results.toList=rs:=by exact rfl) (hn:(fn.name== "runtime.NumGoroutine")=false:=by exact rfl)
 (hb:fn.body=some c:=by exact rfl) (hok:codeOk N c=true:=by exact rfl) (ha:args.length<=N:=by exact oT rfl) (hv:vc P N c (bN 0 args) [] (Il P rs g ys)):Fn P f args false (fun r=>r= .cy g ys):=by
 subst hN;subst hr;exact Fn.Mh hf hn hb hok ha hv
def qH (w w':World) (S:Nat->Prop) (sh:Sh) (zs:lA) (v:Value):Prop:=
 (zs=[]/\∃ad,v= .slice ad 0 0)\/∃b cap,v= .slice (some ⟨b,0,none⟩) zs.length cap/\w.heap.size<=b/\Own w' (fun c=>S c\/(w.heap.size<=c/\c<w'.heap.size/\c≠b)) (.arr sh zs) v [b]
def nZ (P:Program) (f:FuncId) (args:lA) (sh:Sh) (zs:lA):Prop:=
 Enters P f/\∀(w:World) (S:Nat->Prop) (vs:aV),(∀b,S b->b<w.heap.size)->KF w S->vs.size=args.length->(∀i (h:i<args.length),Rd w S args[i] (vs.toList.getD i Go.undef))→
  Calls P f vs w fun e w'=>∃v,e= .returned v/\Grown w w'/\qH w w' S sh zs v
def C2 (sh:Sh) (zs:lA) (m:Mem) (xs:lA):Prop:=
 (zs=[]/\xs=[.val (.slice none 0 0)])\/∃l v,xs=[.ref l v 0 zs.length]/\(aj m l=some (.row v sh false zs)\/(zs=[]/\aj m l=some (.row v sh true [])))
def Io (P:Program) (rs:List ResultVar) (sh:Sh) (zs:lA):dh
 | .normal=>fun ts m=>aQ P (fun xs=>C2 sh zs m xs) rs ts m []
 | .ret=>fun ts m=>aQ P (fun xs=>C2 sh zs m xs) rs ts m []
 |_=>fun _ _=>False
theorem Ip (P:Program) (rs:List ResultVar) (sh:Sh) (zs:lA) (ts:Env) (m:Mem):Io P rs sh zs .ret ts m=aQ P (fun xs=>C2 sh zs m xs) rs ts m []:=rfl
attribute [go_sem] Ip
theorem row_one {w:World} {S:Nat->Prop} {φ:Nat->LS} {l v:Nat} {sh:Sh} {deep:Bool} {fs:lN} {zs:lA} {u:Value} (h0:0<sh.sz) (hb:BR w S φ l fs (.row v sh deep zs)) (hd:deep=true->zs=[]) (hu:RV w S φ (.ref l v 0 zs.length) u):
 (zs=[]/\∃ad,u= .slice ad 0 0)\/∃b cap,u= .slice (some ⟨b,0,none⟩) zs.length cap/\fs=[b]/\Own w S (.arr sh zs) u [b]:=by
 have hr:=dt hu;rcases hb with ⟨h1,h2,h3⟩|⟨b,cap,hφ,hbm,hdp,bd⟩
 . exact .inl ⟨h2,(hr.2 h1).2⟩
 obtain ⟨ad,cp,rfl,hnc,hcp⟩:=hr.1 b sh hφ;obtain ⟨cs,e,fss,hgf,aE,hcs,cj,hmx,hff,hfl,hvv⟩:=gG bd hbm;rcases hcp with rfl|⟨rfl,cs',e',g1,g2⟩
 . have hz:zs=[]:=q7 (by omega);subst hz;exact .inl ⟨rfl,_,rfl⟩
 obtain rfl:=df (aE.symm.trans g1);have hcc:cap=cp:=Nat.eq_of_mul_eq_mul_right h0 (by rw [←hcs,g2,q24]);subst hcc;have hfs:fs=[b]:=by
  cases deep with
  |false=>exact hdp rfl
  |true=>
   have hz:=hd rfl;subst hz;have:fss=[]:=q7 (by simpa using hfl);rw [hgf,this];rfl
 refine .inr ⟨b,cap,by rw [Nat.zero_mul],hfs,?_⟩;subst hfs;have ho:Own w S (.arr sh zs) (.slice (some ⟨b,0,none⟩) zs.length cap) [b]:=by
  cases deep with
  |false=>exact bd
  |true=>exact bd.mono (fun _ h=>h.elim) (fun _ h=>h.elim) fun _ _=>rfl
 simpa using ho
theorem nZ.np {P:Program} {f:FuncId} {fn:Func} {c:Code} {args:List AV} {sh:Sh} {zs:List AV} (h0:0<sh.sz) (hf:P.funcs[f]? =some fn) (hn:(fn.name== "runtime.NumGoroutine")=false) (hb:fn.body=some c)
 (hok:codeOk fn.ntmps c=true) (ha:args.length<=fn.ntmps) (hr1:fn.results.toList.length=1) (hv:vc P fn.ntmps c (bN 0 args) [] (Io P fn.results.toList sh zs)):nZ P f args sh zs:=by
 refine ⟨⟨fn,c,hf,hn,hb⟩,fun w S vs hS zi hsz hrd=> ?_⟩;refine calls_of_wp hf hb ?_;have hRS:RS ⟨w,fun _ _=>False,S,fun _=>.dead,[]⟩ fn.ntmps (fun _=>.dead) (fun _=>[]) S (bN 0 args) [] {tmps:=vs++q5 (fn.ntmps-vs.size) undef,defers:=[]} w:=by
  have j0:∀t,(look (bN 0 args) t= .undef\/∃h:t<args.length,look (bN 0 args) t=args[t]):=by
   intro t;rw [bO];by_cases h:t<args.length
   . exact .inr ⟨h,by simp [h]⟩
   exact .inl (by simp [h])
  refine {tm:=fun t=> ?_,tl:=fun t l af hl=> ?_,bU:=fun _ _=>⟨rfl,rfl⟩,aF:=fun l k hk=>(by cases hk),bl:=fun l v xs hk=>(by cases hk),gK:=fun _=>q18,
          e7:=fun _ _ _ h=>(by cases h),bJ:=fun _ _ h=>(by cases h),cw:=fun _ _ h=>(by cases h),sB:=fun b hb=>⟨hS b hb,.inr hb⟩,base:=fun b hb _=>rfl,out:=a7.refl _,ke:=je.refl _,kn:=fun _ _ _ hk=>hk,fix:=fun _ _ _ _=>LS.le_refl _ _,
          size:=q20 _,defers:=rfl,kv:=by simp;omega,jf:=zi}
  . rcases j0 t with e|⟨h,e⟩
    . rw [e];exact .rd _ _ (.undef _)
    rw [e];have h1:=hrd t h;have:vs.toList.getD t Go.undef=(vs++q5 (fn.ntmps-vs.size) undef).getD t Go.undef:=by
     have h2:t<vs.size:=by omega
     simp only [q0,q8,q3];rw [q1 h2]
    rw [←this];exact .rd _ _ h1
  rcases j0 t with e|⟨h,e⟩
  . rw [e] at hl;cases hl
  rw [e,fX (hrd t h)] at hl;cases hl
 have fU:∀a' w',ie ⟨w,fun _ _=>False,S,fun _=>.dead,[]⟩ fn.ntmps (fun ts m=>aQ P (fun xs=>C2 sh zs m xs) fn.results.toList ts m []) a' w'→
  a'.defers=[]/\∃v,(results fn a'.tmps).run P w'= .ok v w'/\∃v',Ending.returned v= .returned v'/\Grown w w'/\qH w w' S sh zs v':=by
  rintro a' w' ⟨DP,fp0,S0,ts',m0,h1,hk⟩;refine ⟨h1.defers,?_⟩;obtain ⟨ys,us,hq,h2,h3,h4⟩:=cR h1 fn.results.toList [] [] ⟨rfl,fun i hi=>absurd hi (q23 _)⟩ (fun i hi=>absurd hi (q23 _)) hk;obtain ⟨h3a,h3b⟩:=h3;simp only [q17] at h3a h3b;have hy1:ys.length=1:=by rcases hq with ⟨_,rfl⟩|⟨l,v,rfl,_⟩<;>rfl
  obtain ⟨u,rfl⟩:∃u,us=[u]:=List.length_eq_one_iff.1 (h3a.trans hy1);have hu:=h3b 0 (by omega);refine ⟨u,?_,u,rfl,⟨h1.size,fun b hb=>h1.base b hb (fun _ h=>h),h1.out⟩,?_⟩
  . have hm:results fn a'.tmps=(do let vs ←fn.results.mapM (da a'.tmps);pure (if h:vs.size=1 then vs[0] else .tuple vs)):=by
     unfold results;congr 1
    rw [hm,Sem.run_bind,q4];have:(q19 <$> fn.results.toList.mapM (da a'.tmps):Sem aV).run P w'= .ok #[u] w':=by rw [map_eq_pure_bind,Sem.run_bind,h2];rfl
    rw [this];rfl
  rcases hq with ⟨hz,rfl⟩|⟨l,v,rfl,hl⟩
  . have hu:RV w' S0 DP (.val (.slice none 0 0)) u:=hu;obtain ⟨rfl,_⟩:=aS hu;exact .inl ⟨hz,_,rfl⟩
  have hu:RV w' S0 DP (.ref l v 0 zs.length) u:=hu;have key:∀deep,aj m0 l=some (.row v sh deep zs)->(deep=true->zs=[])->qH w w' S sh zs u:=by
   intro deep hlk hd;rcases row_one h0 (h1.aF l _ hlk) hd hu with ⟨hz,hn⟩|⟨b,cap,rfl,hfs,ho⟩
   . exact .inl ⟨hz,hn⟩
   have hbf:b∈fp0 l:=by rw [hfs];simp
   refine .inr ⟨b,cap,rfl,?_,ho.mono (fun _ _=>rfl) (fun c hc=> ?_) fun _ _=>rfl⟩
   . rcases (h1.cw l b hbf).2 with hh|⟨_,hh,_⟩
     . exact hh
     exact hh.elim
   rcases (h1.sB c hc).2 with hh|hh
   . exact .inr ⟨hh,(h1.sB c hc).1,fun e=>h1.bJ l b hbf (e▸hc)⟩
   exact .inl hh
  rcases hl with hl|⟨hz,hl⟩
  . exact key false hl (fun h=>by cases h)
  exact key true (by rw [hz];exact hl) (fun _=>hz)
 refine wp_mono (cI c _ _ _ hok hv _ _ _ _ _ _ hRS) ?_;intro e a' w' hq;cases e with
 |normal=>exact fU a' w' hq
 |ret=>exact fU a' w' hq
 |_=>obtain ⟨_,_,_,_,_,_,hh⟩:=hq;exact hh.elim
theorem nZ.dM {P:Program} {f:FuncId} {fn:Func} {c:Code} {args:List AV} {sh:Sh} {zs:List AV} (N:Nat) (rs:List ResultVar) (hf:P.funcs[f]? =some fn) (hN:fn.ntmps=N:=by exact rfl) (hr:fn.results.toList=rs:=by exact rfl) (hn:(fn.name== "runtime.NumGoroutine")=false:=by exact rfl)
 (hb:fn.body=some c:=by exact rfl) (hok:(codeOk N c&&(decide (0<sh.sz)&&decide (rs.length=1)))=true:=by exact rfl) (ha:args.length<=N:=by exact oT rfl) (hv:vc P N c (bN 0 args) [] (Io P rs sh zs)):nZ P f args sh zs:=by
 simp only [Bool.and_eq_true,decide_eq_true_eq] at hok;subst hN;subst hr;exact nZ.np hok.2.1 hf hn hb hok.1 ha hok.2.2 hv
theorem nZ.io {P:Program} {f:FuncId} {xs:lA} {sh:Sh} {zs:lA} (h0:0<sh.sz) (h:nZ P f xs sh zs) (hl:au xs=[]) (l:Nat) (hio:l<bG) {m:Mem} {k:AV->Mem->Prop}
 (hk:k (.ref l (aB m l) 0 zs.length) ((l,.row (aB m l) sh false zs)::m)):ib P f xs m k:=by
 intro B N φ fp S ts a w vs hR hsz hx hxl;refine ⟨h.1,(h.2 w S vs (fun b hb=>(hR.sB b hb).1) hR.jf hsz fun i hi=>cQ (hx i hi) (bK hl i hi)).mono ?_⟩;rintro e w' ⟨v,rfl,hg,kc⟩;refine ⟨v,rfl,?_⟩;have hR1:=hR.grown hg;have fL:∀af,known m l af->af<aB m l:=by rintro af ⟨k0,h1,h2⟩;unfold aB;rw [h1];exact Nat.lt_succ_of_le h2
 have hkn:known ((l,.row (aB m l) sh false zs)::m) l (aB m l):=⟨_,by rw [aw,if_pos rfl],q20 _⟩;rcases kc with ⟨rfl,ad,rfl⟩|⟨b,cap,rfl,hb,bd⟩
 . have hR2:=hR1.next l (.nil (aB m l)) [] S (.row (aB m l) sh false []) (q20 _) (a7.refl _) (je.refl _) (fun _ _ _=>rfl) (fun c hc=>⟨hc,rfl⟩) (fun c h1 h2=>absurd h1 h2) (fun l b sh af cs e _ hb=>⟨cs,e,hb,rfl⟩)
    (fun _ _ _ _=>rfl) (fun af hk=>⟨fun _ _ e=>(by cases e),fun e=>by cases e;exact absurd (fL _ hk) (Nat.lt_irrefl _)⟩) (fun af hk=>Nat.le_of_lt (fL af hk)) (.inl ⟨by rw [az],rfl,rfl⟩) (fun _ _ hk=>by cases hk) q18 (fun c hc=>by cases hc)
   exact ⟨_,_,_,_,_,_,hR2,.ref l _ 0 0 _ (fun b sh e=>by rw [az] at e;cases e) (fun _=>⟨rfl,ad,rfl⟩) rfl,fun l' af hl'=>by simp only [ao,List.mem_singleton,Prod.mk.injEq] at hl';obtain ⟨rfl,rfl⟩:=hl';exact hkn,rfl,hk⟩
 obtain ⟨cs,e,fss,hgf,aE,hcs,cj,hmx,hff,hfl,hvv⟩:=gG bd (by simp);have hbw:b<w'.heap.size:=(q2.1 aE).1
 have hR2:=hR1.next l (.at b sh (aB m l)) [b] (fun c=>S c\/(w.heap.size<=c/\c<w'.heap.size/\c≠b)) (.row (aB m l) sh false zs) (q20 _) (a7.refl _) (je.refl _) (fun _ _ _=>rfl) (fun c hc=>⟨.inl hc,rfl⟩)
  (fun c h1 h2=>by
    rcases h1 with h1|⟨h1,h3,h4⟩
    . exact absurd h1 h2
    exact ⟨h3,.inl (q21 hR.size h1),fun l' _ hc=>by have:=(hR.cw l' c hc).1;omega⟩)
  (fun l b sh af cs e _ hb=>⟨cs,e,hb,rfl⟩) (fun _ _ _ _=>rfl)
  (fun af hk=>LS.kG _ _ _ _ _ (fL af hk)) (fun af hk=>Nat.le_of_lt (fL af hk))
  (.inr ⟨b,cap,by rw [az],by simp,fun _=>rfl,bd⟩) (fun _ _ hk=>by cases hk) (by simp)
  (fun c hc=>by
    rw [List.mem_singleton] at hc;subst hc;refine ⟨?_,fun l' _ hc=> ?_,hbw,.inl (q21 hR.size hb)⟩
    . rintro (h1|⟨_,_,h1⟩)
      . have:=(hR.sB c h1).1;omega
      exact h1 rfl
    have:=(hR.cw l' c hc).1;omega)
 refine ⟨_,_,_,_,_,_,hR2,.ref l _ 0 _ _ (fun b' sh' e'=> ?_) (fun e'=>by rw [az] at e';cases e') rfl,fun l' af hl'=>by simp only [ao,List.mem_singleton,Prod.mk.injEq] at hl';obtain ⟨rfl,rfl⟩:=hl';exact hkn,rfl,hk⟩;rw [az] at e';cases e';exact ⟨_,cap,rfl,cj,.inr ⟨by rw [Nat.zero_mul],cs,e,aE,by rw [hcs,q24]⟩⟩
theorem kR {P:Program} {f:FuncId} {d:Nat} {xs ts:lA} {m:Mem} {k:AV->Mem->Prop} {q:Pack k} {sh:Sh} {zs:lA} (h:nZ P f xs sh zs) (h0:0<sh.sz) (hl:au xs=[]) (hio:1000*(d+1)<bG)
 (hk:k (.ref (1000*(d+1)) (aB m (1000*(d+1))) 0 zs.length) ((1000*(d+1),.row (aB m (1000*(d+1))) sh false zs)::m)):iT P f d xs ts m k q:=by
 refine .inr (.inr ⟨.ref (1000*(d+1)) (aB m (1000*(d+1))) 0 zs.length,[(1000*(d+1),.row (aB m (1000*(d+1))) sh false zs)],hk,fun m' _ hm' k' hk'=> ?_⟩);have e:aB m' (1000*(d+1))=aB m (1000*(d+1)):=by unfold aB;rw [hm' (1000*(d+1)) (by show aj [_] _≠none;rw [aw,if_pos rfl];exact fun e=>by cases e)]
 exact h.io h0 hl _ hio (by rw [e];exact hk')
theorem pw.row {P:Program} {f:FuncId} (v:Nat) (xs ys:lA) (hlen:ys.length=xs.length) (sO:bo xs=true) (hfy:∀i (h:i<ys.length),fits ⟨1,false⟩ ys[i]) (hE:Enters P f)
 (hc:∀(w:World) (b cap:Nat) (cs:aV) (e:El),w.heap[b]? =some (eo cs e)->cs.size=cap->xs.length<=cap->(∀i (h:i<xs.length),Rd w (fun _=>False) xs[i] (cs.toList.getD i Go.undef))→
   Calls P f #[.slice (some ⟨b,0,none⟩) xs.length cap] w fun e' w'=>e'= .returned (.tuple #[])/\∃cs':aV,cs'.size=cs.size/\(∀i (h:i<ys.length),Rd w' (fun _=>False) ys[i] (cs'.toList.getD i Go.undef))∧
    w'.heap[b]? =some (eo cs' e)/\(∀c:Nat,c≠b->c<w.heap.size->w'.heap[c]? =w.heap[c]?)/\w.heap.size<=w'.heap.size/\a7 w w')
 (h0:xs=[]->∀(a:Option Addr) (w:World),Calls P f #[.slice a 0 0] w fun e' w'=>e'= .returned (.tuple #[])/\Grown w w'):
 pw P f [.row v ⟨1,false⟩ true xs] [.ref 1000000000 v 0 xs.length] (fun r io=>r= .aZ []/\io=[.row v ⟨1,false⟩ true ys]):=by
 refine ⟨hE,fun w φ fp S vs hsz hR=> ?_⟩;have hv0:=hR.tm 0;have hlk:aj (mf 0 [bh.row v ⟨1,false⟩ true xs]) bG=some (.row v ⟨1,false⟩ true xs):=rfl;obtain ⟨u,rfl⟩:∃u,vs= #[u]:=by have:vs.size=1:=hsz;exact ⟨vs[0],by apply Array.ext<;>simp_all⟩
 have hx:RV w S φ (.ref 1000000000 v 0 xs.length) u:=hv0;obtain ⟨r1,r2⟩:=dt hx
 have fin:∀(w':World) (fp':Nat->lN) (k:bh),k= .row v ⟨1,false⟩ true ys->RS (HE w φ fp S [.row v ⟨1,false⟩ true xs]) (#[u]:aV).size φ fp' S (bN 0 [.ref 1000000000 v 0 xs.length]) ((bG,k)::mf 0 [.row v ⟨1,false⟩ true xs]) {tmps:= #[u],defers:=[]} w'→
  ∃r v' io' φ' fp' S' m',Ending.returned (Value.tuple #[])= .returned v'/\(r= .aZ []/\io'=[bh.row v ⟨1,false⟩ true ys])/\RS (HE w φ fp S [.row v ⟨1,false⟩ true xs]) 0 φ' fp' S' [] m' {tmps:= #[],defers:=[]} w'/\Ln [.row v ⟨1,false⟩ true xs] io' m'∧
   ∃fs,Own w' (fun _=>False) r v' fs/\fs.Nodup/\∀b,b∈fs->w.heap.size<=b/\¬S' b/\∀l,bG<=l->b∉fp' l:=by
  rintro w' fp' k rfl h;refine ⟨.aZ [],.tuple #[],_,φ,fp',S,_,rfl,⟨rfl,rfl⟩,{h with tm:=fun t=>by rw [look_nil];exact .rd _ _ (.undef _),tl:=fun t l af hl=>(by rw [look_nil] at hl;cases hl),defers:=rfl,kv:=rfl},⟨rfl,fun j hj hj'=> ?_⟩,[],.rd _ _ (.aZ [] #[] rfl fun i hi=>absurd hi (q23 _)),q18,fun b hb=>by cases hb⟩;have:j=0:=by simpa using hj
  subst this;exact ⟨by simp [aw],rfl,trivial⟩
 have nilCase:xs=[]->(∃a,u= .slice a 0 0)->Calls P f #[u] w fun e' w'=>∃r v' io' φ' fp' S' m',e'= .returned v'/\(r= .aZ []/\io'=[bh.row v ⟨1,false⟩ true ys])/\RS (HE w φ fp S [.row v ⟨1,false⟩ true xs]) 0 φ' fp' S' [] m' {tmps:= #[],defers:=[]} w'/\Ln [.row v ⟨1,false⟩ true xs] io' m'∧
       ∃fs,Own w' (fun _=>False) r v' fs/\fs.Nodup/\∀b,b∈fs->w.heap.size<=b/\¬S' b/\∀l,bG<=l->b∉fp' l:=by
  rintro h1 ⟨a,rfl⟩;have hy:ys=[]:=q7 (by rw [hlen,h1];rfl);refine (h0 h1 a w).mono ?_;rintro e' w' ⟨rfl,hg⟩;have hR2:=hR.grown hg;refine fin w' fp (.row v ⟨1,false⟩ true ys) rfl ?_;have e1:aj (mf 0 [bh.row v ⟨1,false⟩ true xs])=aj ((bG,.row v ⟨1,false⟩ true ys)::mf 0 [.row v ⟨1,false⟩ true xs]):=by
   funext l;rw [aw];split
   . rename_i e;subst e;rw [hlk,h1,hy]
   rfl
  have kn:∀l af,known (mf 0 [bh.row v ⟨1,false⟩ true xs]) l af->known ((bG,.row v ⟨1,false⟩ true ys)::mf 0 [.row v ⟨1,false⟩ true xs]) l af:=by rintro l af ⟨k',q1,q2⟩;exact ⟨k',by rw [←e1];exact q1,q2⟩
  exact {hR2 with tl:=fun t l af hl=>kn l af (hR2.tl t l af hl),bU:=fun l hl=>hR2.bU l (by rw [e1];exact hl),aF:=fun l k hk=>hR2.aF l k (by rw [e1];exact hk),bl:=fun l v xs hb l' af hl=>kn l' af (hR2.bl l v xs (by rw [e1];exact hb) l' af hl),kn:=fun l af h1 h2=>kn l af (hR2.kn l af h1 h2)}
 rcases hR.aF bG _ hlk with ⟨hφ,hxs,_⟩|⟨b,cap,hφ,hbm,_,bd⟩
 . exact nilCase hxs (r2 hφ).2
 simp only [if_true] at bd;obtain ⟨a,cap',rfl,hn,hcp⟩:=r1 b _ hφ;rcases hcp with rfl|⟨rfl,cs0,e0,hh0,hs0⟩
 . have hx0:xs=[]:=q7 (by omega);exact nilCase hx0 ⟨a,by rw [hx0];rfl⟩
 rcases gE bd with ⟨hx0,hf0,_⟩|⟨b',cap2,cs,e,fss,q1,hgf,aE,hcs,cj,hmx,hff,hfl,hvv⟩
 . rw [hf0] at hbm;cases hbm
 simp only [Value.slice.injEq,Option.some.injEq,Addr.mk.injEq] at q1;obtain ⟨⟨rfl,_⟩,_,rfl⟩:=q1;rw [aE] at hh0;simp only [Option.some.injEq,Obj.cells.injEq] at hh0;obtain ⟨rfl, -, -⟩:=hh0;simp only [Nat.mul_one,q24] at hs0 hcs;have hfe:∀i (h:i<xs.length),Rd w (fun _=>False) xs[i] (cs.toList.getD i Go.undef)/\fss.getD i []=[]:=by intro i hi;have:=fA (S':=fun _=>False) (hvv i hi) (jK sO i hi);rw [aW,Nat.mul_one] at this;exact this
 have hfs:fss.flatten=[]:=List.flatten_eq_nil_iff.2 fun l hl=>by
  obtain ⟨i,hi,rfl⟩:=q12 hl;have:=(hfe i (hfl▸hi)).2
  rwa [q8,q9 hi] at this
 rw [hfs] at hgf;refine (hc w b cap' cs e aE hs0 hn fun i hi=>(hfe i hi).1).mono ?_;rintro e' w' ⟨rfl,cs',hs',hr',hb',vR,n8,zM⟩;have hbl:=(hR.cw bG b (by rw [hgf];simp)).1;have hnx:=hR.next (w':=w') bG (φ bG) (fp bG) S (.row v ⟨1,false⟩ true ys) n8 zM ?_ ?_ ?_ (fun c h1 h2=>absurd h1 h2) ?_ ?_ (fun af _=>LS.le_refl _ _) ?_ ?_ (fun _ _ hk=>by cases hk) (hR.gK bG) ?_
 . have e1:j1 φ bG (φ bG)=φ:=by funext l;by_cases e:l=bG<;>simp [j1,e]
   rw [e1] at hnx;exact fin w' _ _ rfl hnx
 . intro c cs2 e2 hc2;by_cases ec:c=b
   . subst ec;obtain rfl:=df (aE.symm.trans hc2);exact ⟨cs',e,hb',hs'⟩
   exact ⟨cs2,e2,by rw [vR c ec (q2.1 hc2).1];exact hc2,rfl⟩
 . intro c hcl hio;exact vR c (fun ec=>hio bG (by subst ec;show c∈fp bG;rw [hgf];simp)) hcl
 . intro c hcS;exact ⟨hcS,vR c (fun ec=>hR.bJ bG b (by rw [hgf];simp) (ec▸hcS)) (hR.sB c hcS).1⟩
 . intro l c sh af cs2 e2 _ hc2;by_cases ec:c=b
   . subst ec;obtain rfl:=df (aE.symm.trans hc2);exact ⟨cs',e,hb',hs'⟩
   exact ⟨cs2,e2,by rw [vR c ec (q2.1 hc2).1];exact hc2,rfl⟩
 . intro l' hl' c hcl;exact vR c (fun ec=>hl' (hR.e7 l' bG c hcl (by rw [ec,hgf];simp))) (hR.cw l' c hcl).1
 . rintro af ⟨k',q1,q2⟩;rw [hlk] at q1;cases q1;exact q2
 . refine .inr ⟨b,cap,by rw [az];exact hφ,by rw [hgf];simp,fun h=>(by cases h),?_⟩;rw [hgf];have e2:[b]=b::(List.replicate ys.length ([]:lN)).flatten:=by
    congr 1;exact (List.flatten_eq_nil_iff.2 fun l hl=>(List.mem_replicate.1 hl).2).symm
   show Own w' (fun _=>False) _ _ [b];rw [e2];refine .arr ⟨1,false⟩ ys b cap cs' e _ hb' (by rw [hs',hcs];simp) (by omega) hmx hfy (by simp) fun i hi=> ?_;have e3:(List.replicate ys.length ([]:lN)).getD i []=[]:=by simp [q8,hi]
   rw [e3,aW,Nat.mul_one];exact .rd _ _ (hr' i hi)
 intro c hc2;have:=hR.cw bG c hc2;exact ⟨hR.bJ bG c hc2,fun l' hl' hc'=>hl' (hR.e7 l' bG c hc' hc2),q22 this.1 n8,this.2⟩
open Go.Sort
theorem yb:∀zs:lI,bo (zs.map fun n=>AV.val (.int .i64 n))=true
 | []=>rfl
 |_::r=>by rw [List.map_cons,mW,yb r];rfl
theorem Fv {w:World} {b:Nat} {cs:aV} {e:El} {zs:lI} (hb:w.heap[b]? =some (eo cs e)) (cj:zs.length<=cs.size)
 (hrd:∀i (h:i<(zs.map fun n=>AV.val (.int .i64 n)).length),Rd w (fun _=>False) (zs.map fun n=>AV.val (.int .i64 n))[i] (cs.toList.getD i Go.undef)):Holds (Value.int .i64) w b 0 zs.toArray:=by
 intro j hj;have hj':j<zs.length:=by simpa using hj
 have h1:=hrd j (by simpa using hj');rw [List.getElem_map] at h1;have h2:cs.toList.getD j Go.undef= .int .i64 zs[j]:=by generalize cs.toList.getD j Go.undef=u at h1;cases h1;rfl
 have h3:j<cs.size:=by omega
 have h5:cs[j]? =some (.int .i64 zs[j]):=by rw [q8,q3,Array.getElem?_eq_getElem h3] at h2;rw [Array.getElem?_eq_getElem h3];exact congrArg some h2
 have h6:zs.toArray[j]! =zs[j]:=by rw [getElem!_pos zs.toArray j hj];simp
 refine ⟨?_,?_⟩
 . simp only [World.cell?,hb,q24,Option.isSome_none,q6,↓reduceIte,h5,h6]
 have:=mg hb h3;simpa using this
theorem BD {w:World} {b n:Nat} {cs:aV} {e:El} {ys:lI} {os:Array Obj} (hb:w.heap[b]? =some (eo cs e)) (hcs:ys.length<=cs.size):
 ∃cs':aV,cs'.size=cs.size/\(∀i (h:i<(ys.map fun n=>AV.val (.int .i64 n)).length),Rd (grow (putRow (Value.int .i64) (Sort.ahead w n) b 0 ys.toArray) os) (fun _=>False) (ys.map fun n=>AV.val (.int .i64 n))[i] (cs'.toList.getD i Go.undef))∧
  (grow (putRow (Value.int .i64) (Sort.ahead w n) b 0 ys.toArray) os).heap[b]? =some (eo cs' e)/\(∀c:Nat,c≠b->c<w.heap.size->(grow (putRow (Value.int .i64) (Sort.ahead w n) b 0 ys.toArray) os).heap[c]? =w.heap[c]?)∧
  w.heap.size<=(grow (putRow (Value.int .i64) (Sort.ahead w n) b 0 ys.toArray) os).heap.size/\a7 w (grow (putRow (Value.int .i64) (Sort.ahead w n) b 0 ys.toArray) os):=by
 have hbl:b<w.heap.size:=(q2.1 hb).1;have aE:∀c:Nat,c<w.heap.size->(grow (putRow (Value.int .i64) (Sort.ahead w n) b 0 ys.toArray) os).heap[c]? =if b=c then w.heap[c]?.map (onCells (putCells (Value.int .i64) 0 ys.toArray)) else w.heap[c]? :=by intro c hc;rw [heap_grow_old _ _ (by simpa using hc)];simp only [putRow,mapBlock,Sort.heap_ahead,Array.getElem?_modify]
 refine ⟨putCells (Value.int .i64) 0 ys.toArray cs,by simp [putCells],?_,?_,?_,?_,⟨rfl,rfl,rfl⟩⟩
 . intro i hi;have hi':i<ys.length:=by simpa using hi
   have hi2:i<cs.size:=by omega
   have e1:(putCells (Value.int .i64) 0 ys.toArray cs).toList.getD i Go.undef= .int .i64 ys[i]:=by rw [q8,q3];simp [putCells,hi2,hi']
   rw [e1,List.getElem_map];exact .val _ rfl
 . have hs:(putCells (Value.int .i64) 0 ys.toArray cs).size=cs.size:=by simp [putCells]
   rw [aE b hbl,if_pos rfl,hb];show some (Obj.cells (putCells (Value.int .i64) 0 ys.toArray cs) e.1 (n9 e cs.size))=some (Obj.cells (putCells (Value.int .i64) 0 ys.toArray cs) e.1 (n9 e (putCells (Value.int .i64) 0 ys.toArray cs).size));rw [hs]
 . intro c hcb hc;rw [aE c hc,if_neg (Ne.symm hcb)]
 simp
theorem pw.Tc {P:Program} {f:FuncId} (hE:Enters P f) (g:lI->lI) (hg:∀zs,(g zs).length=zs.length)
 (hs:∀(pt cap:Nat) (zs:lI) (w:World),Holds (Value.int .i64) w pt 0 zs.toArray->pt<w.heap.size->zs.length<4611686018427387904→
   Calls P f #[.slice (some ⟨pt,0,none⟩) zs.length cap] w fun e w'=>e= .returned (.tuple #[])/\∃n os,w'=grow (putRow (Value.int .i64) (Sort.ahead w n) pt 0 (g zs).toArray) os)
 (h0:∀(a:Option Addr) (w:World),Calls P f #[.slice a 0 0] w fun e w'=>e= .returned (.tuple #[])/\w'=w)
 (v:Nat) (zs:lI) (hz:zs.length<=1048576):
 pw P f [.row v ⟨1,false⟩ true (zs.map fun n=>.val (.int .i64 n))] [.ref 1000000000 v 0 zs.length] (fun r io=>r= .aZ []/\io=[.row v ⟨1,false⟩ true ((g zs).map fun n=>.val (.int .i64 n))]):=by
 have:=pw.row (P:=P) (f:=f) v (zs.map fun n=>AV.val (.int .i64 n)) ((g zs).map fun n=>AV.val (.int .i64 n)) (by simp [hg])
  (yb zs) (by intro i hi;simp [fits]) hE ?_ ?_
 . simpa using this
 . intro w b cap cs e hb hcs cj hrd;have h4:(zs.map fun n=>AV.val (.int .i64 n)).length=zs.length:=List.length_map _;have h1:=hs b cap zs w (Fv hb (by omega) hrd) (q2.1 hb).1 (by omega);rw [List.length_map];refine h1.mono ?_;rintro e' w' ⟨rfl,n,os,rfl⟩;exact ⟨rfl,BD hb (by rw [hg];omega)⟩
 intro hx a w;refine (h0 a w).mono ?_;rintro e' w' ⟨rfl,rfl⟩;exact ⟨rfl,Grown.refl _⟩
section
variable {P:Program} {m:Mem}
theorem Fw {f:FuncId} {l af j:Nat} {xs ys:lA} {k:AV->Mem->Prop} (hE:Enters P f) (hlk:aj m l=some (.row af ⟨1,false⟩ true xs)) (sO:bo xs=true) (hlen:ys.length=xs.length) (hj:j<=xs.length)
 (hfy:∀i (h:i<ys.length),fits ⟨1,false⟩ ys[i])
 (hc:∀(w:World) (b cap:Nat) (cs:aV) (e:El),w.heap[b]? =some (eo cs e)->cs.size=cap->xs.length<=cap->(∀i (h:i<xs.length),Rd w (fun _=>False) xs[i] (cs.toList.getD i Go.undef))→
   Calls P f #[.slice (some ⟨b,0,none⟩) xs.length cap] w fun e' w'=>e'= .returned (.slice (some ⟨b,0,none⟩) j cap)/\∃cs':aV,cs'.size=cs.size/\(∀i (h:i<ys.length),Rd w' (fun _=>False) ys[i] (cs'.toList.getD i Go.undef))∧
    w'.heap[b]? =some (eo cs' e)/\(∀c:Nat,c≠b->c<w.heap.size->w'.heap[c]? =w.heap[c]?)/\w.heap.size<=w'.heap.size/\a7 w w')
 (h0:xs=[]->∀(a:Option Addr) (w:World),Calls P f #[.slice a 0 0] w fun e' w'=>e'= .returned (.slice a 0 0)/\Grown w w')
 (hk:k (.ref l (af+1) 0 j) ((l,.row (af+1) ⟨1,false⟩ true ys)::m)):ib P f [.ref l af 0 xs.length] m k:=by
 refine fun B N φ fp S ts a w vs hR hsz hx hxl=>⟨hE,?_⟩;obtain ⟨u,rfl⟩:∃u,vs= #[u]:=by have:vs.size=1:=hsz;exact ⟨vs[0],by apply Array.ext<;>simp_all⟩
 have hx0:RV w S φ (.ref l af 0 xs.length) u:=hx 0 (by simp);obtain ⟨r1,r2⟩:=dt hx0;have fL:∀v',known m l v'->v'<af+1:=by rintro v' ⟨k',h1,h2⟩;rw [hlk] at h1;cases h1;exact Nat.lt_succ_of_le h2
 have nilCase:xs=[]->(∃a',u= .slice a' 0 0)->Calls P f #[u] w fun e' w'=>∃v,e'= .returned v/\iw B N a (fun x ts' m'=>ts'=ts/\k x m') v w':=by
  rintro h1 ⟨a',rfl⟩;have hy:ys=[]:=q7 (by rw [hlen,h1];rfl);have hj0:j=0:=by rw [h1] at hj;simpa using hj
  refine (h0 h1 a' w).mono ?_;rintro e' w' ⟨rfl,hg⟩;refine ⟨_,rfl,(hR.grown hg).rG fL (nv:=af+1) (sh:=⟨1,false⟩) (deep:=true) ⟨rfl,?_⟩⟩;rw [hy,hj0] at hk;exact hk
 rcases hR.aF l _ hlk with ⟨hφ,hxs,_⟩|⟨b,cap,hφ,hbm,_,bd⟩
 . exact nilCase hxs (r2 hφ).2
 simp only [if_true] at bd;obtain ⟨ad,cap',rfl,hn,hcp⟩:=r1 b _ hφ;rcases hcp with rfl|⟨rfl,cs0,e0,hh0,hs0⟩
 . have hx1:xs=[]:=q7 (by omega);exact nilCase hx1 ⟨ad,by rw [hx1];rfl⟩
 rcases gE bd with ⟨hx1,hf0,_⟩|⟨b',cap2,cs,e,fss,q1,hgf,aE,hcs,cj,hmx,hff,hfl,hvv⟩
 . rw [hf0] at hbm;cases hbm
 simp only [Value.slice.injEq,Option.some.injEq,Addr.mk.injEq] at q1;obtain ⟨⟨rfl,_⟩,_,rfl⟩:=q1;rw [aE] at hh0;simp only [Option.some.injEq,Obj.cells.injEq] at hh0;obtain ⟨rfl, -, -⟩:=hh0;simp only [Nat.mul_one,q24] at hs0 hcs;have hfe:∀i (h:i<xs.length),Rd w (fun _=>False) xs[i] (cs.toList.getD i Go.undef)/\fss.getD i []=[]:=by intro i hi;have:=fA (S':=fun _=>False) (hvv i hi) (jK sO i hi);rw [aW,Nat.mul_one] at this;exact this
 have hfs:fss.flatten=[]:=List.flatten_eq_nil_iff.2 fun l hl=>by
  obtain ⟨i,hi,rfl⟩:=q12 hl;have:=(hfe i (hfl▸hi)).2
  rwa [q8,q9 hi] at this
 rw [hfs] at hgf;rw [show (0:Nat)*(1:Nat)=0 from rfl];refine (hc w b cap' cs e aE hs0 hn fun i hi=>(hfe i hi).1).mono ?_;rintro e' w' ⟨rfl,cs',hs',hr',hb',vR,n8,zM⟩;have hbl:b<w.heap.size:=(q2.1 aE).1;have DG:je w w':=by
  intro c cs2 e2 hc2;by_cases ec:c=b
  . subst ec;obtain rfl:=df (aE.symm.trans hc2);exact ⟨cs',e,hb',hs'⟩
  exact ⟨cs2,e2,by rw [vR c ec (q2.1 hc2).1];exact hc2,rfl⟩
 refine ⟨_,rfl,hR.kj (b:=b) (cap:=cap) (n:=j) (nv:=af+1) (sh:=⟨1,false⟩) (deep:=true) (xs:=ys) (fs:=[b]) n8 zM DG vR
  (fun l b sh af cs e _ hb=>DG b cs e hb) (.inl hbm) fL (fun c hc=>.inl (by simpa using hc)) (by simp) (fun h=>(by cases h)) (by simp) ?_ ?_ ⟨rfl,hk⟩⟩
 . have e2:[b]=b::(List.replicate ys.length ([]:lN)).flatten:=by
    congr 1;exact (List.flatten_eq_nil_iff.2 fun l hl=>(List.mem_replicate.1 hl).2).symm
   show Own w' (fun _=>False) _ _ [b];rw [e2];refine .arr ⟨1,false⟩ ys b cap cs' e _ hb' (by rw [hs',hcs];simp) (by omega) hmx hfy (by simp) fun i hi=> ?_;have e3:(List.replicate ys.length ([]:lN)).getD i []=[]:=by simp [q8,hi]
   rw [e3,aW,Nat.mul_one];exact .rd _ _ (hr' i hi)
 exact ⟨some ⟨b,0,none⟩,cap',rfl,by omega,.inr ⟨rfl,cs',e,hb',by rw [hs',hs0];simp⟩⟩
theorem so {f:FuncId} {l af n:Nat} {zs ys:lI} {k:AV->Mem->Prop} (j:Nat) (hE:Enters P f) (hlk:aj m l=some (.row af ⟨1,false⟩ true (zs.map fun n=>.val (.int .i64 n)))) (hn:n=zs.length) (hlen:ys.length=zs.length) (hj:j<=zs.length)
 (hz:zs.length<=1048576)
 (hc:∀(pt cap:Nat) (w:World),Holds (Value.int .i64) w pt 0 zs.toArray->zs.length<=cap→
   Calls P f #[.slice (some ⟨pt,0,none⟩) zs.length cap] w fun e' w'=>e'= .returned (.slice (some ⟨pt,0,none⟩) j cap)/\∃q,w'=putRow (Value.int .i64) (Sort.ahead w q) pt 0 ys.toArray)
 (h0:∀(a:Option Addr) (w:World),Calls P f #[.slice a 0 0] w fun e' w'=>e'= .returned (.slice a 0 0)/\w'=w)
 (hk:k (.ref l (af+1) 0 j) ((l,.row (af+1) ⟨1,false⟩ true (ys.map fun n=>.val (.int .i64 n)))::m)):ib P f [.ref l af 0 n] m k:=by
 have h4:(zs.map fun n=>AV.val (.int .i64 n)).length=zs.length:=List.length_map _;rw [hn,←h4];refine Fw hE hlk (yb zs) (ys:=ys.map fun n=>.val (.int .i64 n)) (j:=j) (by simp [hlen]) (by omega) (by intro i hi;simp [fits]) ?_ ?_ hk
 . intro w b cap cs e hb hcs cj hrd;have h1:=hc b cap w (Fv hb (by omega) hrd) (by omega);rw [h4];refine h1.mono ?_;rintro e' w' ⟨rfl,n,rfl⟩;refine ⟨rfl,?_⟩;have:=BD (os:= #[]) (n:=n) (ys:=ys) hb (by omega);simpa only [grow_empty] using this
 intro hx a w;refine (h0 a w).mono ?_;rintro e' w' ⟨rfl,rfl⟩;exact ⟨rfl,Grown.refl _⟩
theorem Fx {f:FuncId} {d l af n:Nat} {zs ys:lI} {xt:lA} {k:AV->Mem->Prop} {q:Pack k} (j:Nat) (hE:Enters P f) (hlk:aj m l=some (.row af ⟨1,false⟩ true (zs.map fun n=>.val (.int .i64 n)))) (hn:n=zs.length) (hlen:ys.length=zs.length) (hj:j<=zs.length)
 (hz:zs.length<=1048576)
 (hc:∀(pt cap:Nat) (w:World),Holds (Value.int .i64) w pt 0 zs.toArray->zs.length<=cap→
   Calls P f #[.slice (some ⟨pt,0,none⟩) zs.length cap] w fun e' w'=>e'= .returned (.slice (some ⟨pt,0,none⟩) j cap)/\∃q,w'=putRow (Value.int .i64) (Sort.ahead w q) pt 0 ys.toArray)
 (h0:∀(a:Option Addr) (w:World),Calls P f #[.slice a 0 0] w fun e' w'=>e'= .returned (.slice a 0 0)/\w'=w)
 (hk:k (.ref l (af+1) 0 j) ((l,.row (af+1) ⟨1,false⟩ true (ys.map fun n=>.val (.int .i64 n)))::m)):eQ P f d [.ref l af 0 n] xt m k q:=
 .inl (so j hE hlk hn hlen hj hz hc h0 hk)
theorem Fy {f:FuncId} {d l af n:Nat} {zs ys:lI} {xt:lA} {k:AV->Mem->Prop} {q:Pack k} (j:Nat) (hE:Enters P f) (hlk:aj m l=some (.row af ⟨1,false⟩ true (zs.map fun n=>.val (.int .i64 n)))) (hn:n=zs.length) (hlen:ys.length=zs.length) (hj:j<=zs.length)
 (hz:zs.length<=1048576)
 (hc:∀(pt cap:Nat) (w:World),Holds (Value.int .i64) w pt 0 zs.toArray->zs.length<=cap→
   Calls P f #[.slice (some ⟨pt,0,none⟩) zs.length cap] w fun e' w'=>e'= .returned (.slice (some ⟨pt,0,none⟩) j cap)/\∃q,w'=putRow (Value.int .i64) (Sort.ahead w q) pt 0 ys.toArray)
 (h0:∀(a:Option Addr) (w:World),Calls P f #[.slice a 0 0] w fun e' w'=>e'= .returned (.slice a 0 0)/\w'=w)
 (hk:k (.ref l (af+1) 0 j) ((l,.row (af+1) ⟨1,false⟩ true (ys.map fun n=>.val (.int .i64 n)))::m)):iT P f d [.ref l af 0 n] xt m k q:=
 .inr (.inr ⟨_,[_],hk,fun m' a _ k' hk'=>so j hE ((a l ⟨_,List.mem_singleton.2 rfl,NL.ref _ _ _ _⟩).trans hlk) hn hlen hj hz hc h0 hk'⟩)
theorem nu {P:Program} {w:World} {b o:Nat} {cs:aV} {e:El} {vs:List Value} (hb:w.heap[b]? =some (eo cs e)) (h1:∀u,u∈vs->u.oneCell'=true) (mc:o+vs.length<=cs.size):
 w.setCells b o vs=w.setRow b (cs.toList.take o++vs++cs.toList.drop (o+vs.length)).toArray:=by
 have e1:=iM P (e:=e) (o:=o) vs 0 cs w hb (by simpa using mc) h1
 have e2:=run_storeCells_cells (P:=P) b o vs 0 w (fun j hj=>by
  have hlt:o+0+j<cs.size:=by omega
  simp [World.cell?,hb];omega) (fun j hj=>by
   have hlt:o+j<cs.size:=by omega
   have:=mg hb hlt
   simpa using this) h1
 simp only [Nat.add_zero] at e1 e2;rw [e2] at e1;injection e1
theorem Td {w:World} {S:Nat->Prop} {x:AV} {l:List Value} {o:Nat} {sh:Sh} {fs:lN} (h:Own w S x (elemV l o sh) fs) (hf:fits sh x) (hl:o+sh.sz<=l.length) (c:Nat) (hc:c<sh.sz):(l.getD (o+c) Go.undef).oneCell'=true:=by
 cases sh with
 |mk sz ag=>
 simp only at hc hl;have one:leaf x->ag=false/\sz=1->(l.getD (o+c) Go.undef).oneCell'=true:=by rintro hlf ⟨rfl,rfl⟩;have:=h.aU hlf;rw [aW] at this;rw [show o+c=o by omega];exact this
 cases x with
 |agg zs=>
  obtain ⟨rfl,hzl⟩:=hf;obtain ⟨cs,fss,hcs,_,h1,h2,_,h3⟩:=CD h;rw [c8] at hcs;cases hcs;have h4:=(h3 c (by rw [hzl];exact hc)).aU (h2 _ (by rw [hzl];exact hc));rw [show (((l.drop o).take sz).toArray.toList)=(l.drop o).take sz from rfl,bX _ _ _ _ hc] at h4;exact h4
 |undef=>exact hf.elim
 |aZ xs=>exact hf.elim
 |_=>exact one trivial hf
def PG (i p:Nat):Nat:=if p<i then p else p+1
theorem tf {α:Type} (xs:List α) (i p:Nat):(xs.eraseIdx i)[p]? =xs[PG i p]? :=by rw [List.getElem?_eraseIdx];unfold PG;split<;>rfl
theorem Fz {f:FuncId} {l af i n:Nat} {sh:Sh} {xs:lA} {zs:List Value} {k:AV->Mem->Prop} (hE:Enters P f) (hlk:aj m l=some (.row af sh true xs)) (hn:n=xs.length) (hi:i<xs.length) (hsz:0<sh.sz)
 (hzl:zs.length=sh.sz) (hz1:∀u,u∈zs->u.oneCell'=true)
 (hc:∀(w:World) (b cap:Nat) (cs:aV) (e:El),w.heap[b]? =some (eo cs e)->cs.size=cap*sh.sz->cap<=9223372036854775807->xs.length<=cap->(∀v,v∈(cs.toList.drop ((i+1)*sh.sz)).take ((xs.length-(i+1))*sh.sz)->v.oneCell'=true)→
   Calls P f #[.slice (some ⟨b,0,none⟩) xs.length cap,.int .i64 i,.int .i64 ((i+1:Nat):Int)] w fun e' w'=>e'= .returned (.slice (some ⟨b,0,none⟩) (xs.length-1) cap)∧
    ∃q,w'=((w.drewN q).setCells b (i*sh.sz) ((cs.toList.drop ((i+1)*sh.sz)).take ((xs.length-(i+1))*sh.sz))).setCells b ((xs.length-1)*sh.sz) zs)
 (hk:k (.ref l (af+1) 0 (xs.length-1)) ((l,.row (af+1) sh true (xs.eraseIdx i))::m)):ib P f [.ref l af 0 n,.val (.int .i64 i),.val (.int .i64 ((i:Int)+1))] m k:=by
 subst hn;refine fun B N φ fp S ts a w vs hR Y9 hx hxl=>⟨hE,?_⟩;obtain ⟨u,u1,u2,rfl⟩:∃u u1 u2,vs= #[u,u1,u2]:=by
  have:vs.size=3:=Y9
  exact ⟨vs[0],vs[1],vs[2],by
   apply Array.ext
   . simpa using this
   intro j h1 h2;have:j=0\/j=1\/j=2:=by omega
   rcases this with rfl|rfl|rfl<;>rfl⟩
 have hx0:RV w S φ (.ref l af 0 xs.length) u:=hx 0 (by simp);have hx1:RV w S φ (.val (.int .i64 i)) u1:=hx 1 (by simp);have hx2:RV w S φ (.val (.int .i64 ((i:Int)+1))) u2:=hx 2 (by simp);obtain ⟨rfl,_⟩:=aS hx1;obtain ⟨rfl,_⟩:=aS hx2;obtain ⟨r1,r2⟩:=dt hx0;have fL:∀v',known m l v'->v'<af+1:=by rintro v' ⟨k',h1,h2⟩;rw [hlk] at h1;cases h1;exact Nat.lt_succ_of_le h2
 rcases hR.aF l _ hlk with ⟨hφ,hxs,_⟩|⟨b,cap,hφ,hbm,_,bd⟩
 . rw [hxs] at hi;exact absurd hi (q23 _)
 simp only [if_true] at bd;obtain ⟨ad,cap',rfl,hn,hcp⟩:=r1 b _ hφ;rcases hcp with rfl|⟨rfl,cs0,e0,hh0,hs0⟩
 . omega
 rcases gE bd with ⟨hx1,hf0,_⟩|⟨b',cap2,cs,e,fss,q1,hgf,aE,hcs,cj,hmx,hff,hfl,hvv⟩
 . rw [hf0] at hbm;cases hbm
 simp only [Value.slice.injEq,Option.some.injEq,Addr.mk.injEq] at q1;obtain ⟨⟨rfl,_⟩,_,rfl⟩:=q1;rw [aE] at hh0;simp only [Option.some.injEq,Obj.cells.injEq] at hh0;obtain ⟨rfl, -, -⟩:=hh0;rw [q24] at hs0;have hcc:cap'=cap:=Nat.eq_of_mul_eq_mul_right hsz (by rw [←hs0,hcs]);subst hcc;have mc:xs.length*sh.sz<=cs.size:=by rw [hcs];exact Nat.mul_le_mul_right _ cj
 have cell1:∀p,p<xs.length->∀c,c<sh.sz->(cs.toList.getD (p*sh.sz+c) Go.undef).oneCell'=true:=by intro p hp c hcl;have h1:=bf (s:=sh.sz) hp;exact Td (hvv p hp) (hff p hp) (by rw [Array.length_toList];omega) c hcl
 have hmul:∀p,(p+1)*sh.sz=p*sh.sz+sh.sz:=fun p=>Nat.succ_mul p _;obtain ⟨g1,hg1⟩:∃g1,g1=(xs.length-(i+1))*sh.sz:=⟨_,rfl⟩;have hg2:(i+1)*sh.sz+g1=xs.length*sh.sz:=by rw [hg1,←Nat.add_mul];congr 1;omega
 have hg3:(xs.length-1)*sh.sz+sh.sz=xs.length*sh.sz:=by rw [←hmul];congr 1;omega
 have hg4:i*sh.sz+g1=(xs.length-1)*sh.sz:=by rw [hmul] at hg2;omega
 obtain ⟨news,qw⟩:∃news,news=(cs.toList.drop ((i+1)*sh.sz)).take ((xs.length-(i+1))*sh.sz):=⟨_,rfl⟩;have hnl:news.length=g1:=by rw [qw,hg1];simp;omega
 have UC:∀c,c<g1->news.getD c Go.undef=cs.toList.getD ((i+1)*sh.sz+c) Go.undef:=by intro c hcl;rw [qw,bX _ _ _ _ (by rw [←hg1];exact hcl)]
 have hn1:∀u,u∈news->u.oneCell'=true:=by
  intro u hu;obtain ⟨t,ht,rfl⟩:=q12 hu;have h2:=UC t (by omega);rw [q8,q9 ht] at h2;simp only [Option.getD_some] at h2;rw [h2];have h3:((i+1)*sh.sz+t) / sh.sz<xs.length:=by rw [Nat.div_lt_iff_lt_mul hsz];omega
  have h4:=Nat.div_add_mod ((i+1)*sh.sz+t) sh.sz;have h5:=cell1 _ h3 _ (Nat.mod_lt ((i+1)*sh.sz+t) hsz);rw [Nat.mul_comm] at h4;rw [h4] at h5;exact h5
 have hcr:=hc w b cap' cs e aE hcs (by unfold maxLen at hmx;omega) cj (by rw [←qw];exact hn1);rw [←qw] at hcr;rw [show (0:Nat)*sh.sz=0 from Nat.zero_mul _];refine hcr.mono ?_;rintro e' w' ⟨rfl,q',hw'⟩;have Re:(w.drewN q').heap[b]? =some (eo cs e):=aE;have hf1:i*sh.sz+news.length<=cs.size:=by rw [hnl];omega
 rw [nu (P:=P) Re hn1 hf1] at hw';have hs1:=b6 (cs:=cs) hf1;have hh1:=bZ Re hs1;have UD:∀c,c<(xs.length-1)*sh.sz->(cs.toList.take (i*sh.sz)++news++cs.toList.drop (i*sh.sz+news.length)).toArray.toList.getD c Go.undef=if c<i*sh.sz then cs.toList.getD c Go.undef else cs.toList.getD (c+sh.sz) Go.undef:=by
  intro c hcl;show (cs.toList.take (i*sh.sz)++news++cs.toList.drop (i*sh.sz+news.length)).getD c Go.undef=_;rw [eC _ _ _ _ (by rw [Array.length_toList];exact hf1)];by_cases h1:c<i*sh.sz
  . rw [if_neg (by omega),if_pos h1]
  rw [if_pos (by omega),if_neg h1,UC _ (by omega),hmul];congr 1;omega
 generalize (cs.toList.take (i*sh.sz)++news++cs.toList.drop (i*sh.sz+news.length)).toArray=cs1 at hw' hs1 hh1 UD;have hf2:(xs.length-1)*sh.sz+zs.length<=cs1.size:=by rw [hzl,hs1];omega
 rw [nu (P:=P) hh1 hz1 hf2] at hw';have hs2:=b6 (cs:=cs1) hf2;have hh2:=bZ hh1 hs2;have UE:∀c,c<(xs.length-1)*sh.sz->(cs1.toList.take ((xs.length-1)*sh.sz)++zs++cs1.toList.drop ((xs.length-1)*sh.sz+zs.length)).toArray.toList.getD c Go.undef=if c<i*sh.sz then cs.toList.getD c Go.undef else cs.toList.getD (c+sh.sz) Go.undef:=by intro c hcl;rw [←UD c hcl];show (cs1.toList.take ((xs.length-1)*sh.sz)++zs++cs1.toList.drop ((xs.length-1)*sh.sz+zs.length)).getD c Go.undef=_;rw [eC _ _ _ _ (by rw [Array.length_toList];exact hf2),if_neg (by omega)]
 have vR:∀c,c≠b->w'.heap[c]? =w.heap[c]? :=by intro c hcb;rw [hw',aD _ hcb,aD _ hcb];rfl
 have ZX:w'.heap.size=w.heap.size:=by rw [hw'];simp
 have hso:a7 w w':=by rw [hw'];exact ⟨rfl,rfl,rfl⟩
 rw [←hw'] at hh2;clear hw';generalize (cs1.toList.take ((xs.length-1)*sh.sz)++zs++cs1.toList.drop ((xs.length-1)*sh.sz+zs.length)).toArray=cs2 at hs2 hh2 UE;have TE:cs2.size=cs.size:=hs2.trans hs1;have DG:je w w':=by
  intro c cs3 e3 hc3;by_cases ec:c=b
  . subst ec;obtain rfl:=df (aE.symm.trans hc3);exact ⟨cs2,e,hh2,TE⟩
  exact ⟨cs3,e3,by rw [vR c ec];exact hc3,rfl⟩
 have kb:=hR.gK l;rw [hgf] at kb;have jZ:=List.nodup_cons.1 kb;have hel:(xs.eraseIdx i).length=xs.length-1:=by rw [List.length_eraseIdx,if_pos hi]
 have dC:((fss.eraseIdx i).flatten).Sublist fss.flatten:=by
  rw [List.eraseIdx_eq_take_drop_succ,List.flatten_append];have e1:fss.flatten=(fss.take i).flatten++((fss.drop i).take 1).flatten++(fss.drop (i+1)).flatten:=by rw [List.append_assoc,←List.flatten_append,←List.flatten_append];congr 1;rw [show fss.drop (i+1)=(fss.drop i).drop 1 by rw [List.drop_drop],List.take_append_drop,List.take_append_drop]
  rw [e1];exact List.Sublist.append (List.sublist_append_left ..) (List.Sublist.refl _)
 have cF:∀c,c∈(fss.eraseIdx i).flatten->c∈fp l:=fun c hc=>by rw [hgf];exact q14 _ (dC.subset hc)
 refine ⟨_,rfl,hR.kj (b:=b) (cap:=cap') (n:=xs.length-1) (nv:=af+1) (sh:=sh) (deep:=true) (xs:=xs.eraseIdx i) (fs:=b::(fss.eraseIdx i).flatten) (by omega) hso DG (fun c hcb _=>vR c hcb)
  (fun l b sh af cs e _ hb=>DG b cs e hb) (.inl hbm) fL (fun c hc=> ?_) (q15 ..) (fun h=>(by cases h)) (List.nodup_cons.2 ⟨fun hc=>jZ.1 (dC.subset hc),jZ.2.sublist dC⟩) ?_ ?_ ⟨rfl,hk⟩⟩
 . rcases q13.1 hc with rfl|hc
   . exact .inl rfl
   exact .inr (cF c hc)
 . show Own w' (fun _=>False) _ _ _;refine .arr sh (xs.eraseIdx i) b cap' cs2 e (fss.eraseIdx i) hh2 (by rw [TE,hcs]) (by omega) hmx (fun p hp=> ?_) (by rw [hel,List.length_eraseIdx,if_pos (by omega)];omega) fun p hp=> ?_
   . have hp1:PG i p<xs.length:=by unfold PG;split<;>omega
     have:(xs.eraseIdx i)[p]=xs[PG i p]:=by have h1:=tf xs i p;rw [q9 hp,q9 hp1] at h1;exact Option.some.inj h1
     rw [this];exact hff _ hp1
   have hp1:PG i p<xs.length:=by unfold PG;split<;>omega
   have hp2:p<xs.length-1:=by omega
   have e1:(xs.eraseIdx i)[p]=xs[PG i p]:=by have h1:=tf xs i p;rw [q9 hp,q9 hp1] at h1;exact Option.some.inj h1
   have e2:(fss.eraseIdx i).getD p []=fss.getD (PG i p) []:=by rw [q8,q8,tf]
   have m1:=bf (s:=sh.sz) hp2;have m2:=bf (s:=sh.sz) hp1;have e3:elemV cs2.toList (p*sh.sz) sh=elemV cs.toList (PG i p*sh.sz) sh:=by
    refine ix (by rw [Array.length_toList,TE];omega) (by rw [Array.length_toList];omega) (gH (hff _ hp1)) fun c hcl=> ?_;rw [UE _ (by omega)];unfold PG;by_cases h1:p<i
    . have:=bf (s:=sh.sz) h1;rw [if_pos (by omega),if_pos h1]
    have:i*sh.sz<=p*sh.sz:=Nat.mul_le_mul_right _ (by omega);rw [if_neg (by omega),if_neg h1,hmul];congr 1;omega
   rw [e1,e2,e3];exact (hvv _ hp1).mono (fun _ h=>h.elim) (fun _ h=>h) fun c hc2=>vR c fun e=>jZ.1 (by rw [←e];exact aJ (by omega) hc2)
 exact ⟨some ⟨b,0,none⟩,cap',rfl,by omega,.inr ⟨rfl,cs2,e,hh2,by rw [TE,hcs]⟩⟩
end
def qI (P:Program) (f:FuncId) (io:List bh) (args:lA) (post:AV->List bh->Prop):Prop:=
 Enters P f/\∀(w:World) (φ:Nat->LS) (fp:Nat->lN) (S:Nat->Prop) (vs:aV),vs.size=args.length→
  RS (HE w φ fp S io) vs.size φ fp S (bN 0 args) (mf 0 io) {tmps:=vs,defers:=[]} w→
  Calls P f vs w fun e w'=>∃r v io' φ' fp' S' m',e= .returned v/\post r io'/\RS (HE w φ fp S io) 0 φ' fp' S' [] m' {tmps:= #[],defers:=[]} w'/\Ln io io' m'/\Rd w' S' r v
def PH (P:Program) (rs:List ResultVar) (vers:lN) (post:AV->List bh->Prop):dh
 | .normal=>fun ts m=>aQ P (fun xs=>iO (fun ys m'=>au ys=[]/\qC m' (fun io'=>post (bM ys) io') 0 vers []) [] m xs) rs ts m []
 | .ret=>fun ts m=>aQ P (fun xs=>iO (fun ys m'=>au ys=[]/\qC m' (fun io'=>post (bM ys) io') 0 vers []) [] m xs) rs ts m []
 |_=>fun _ _=>False
theorem Mi (P:Program) (rs:List ResultVar) (vers:lN) (post:AV->List bh->Prop) (ts:Env) (m:Mem):
 PH P rs vers post .ret ts m=aQ P (fun xs=>iO (fun ys m'=>au ys=[]/\qC m' (fun io'=>post (bM ys) io') 0 vers []) [] m xs) rs ts m []:=rfl
theorem qI.np {P:Program} {f:FuncId} {fn:Func} {c:Code} {io:List bh} {args:List AV} {post:AV→List bh→Prop} (hf:P.funcs[f]? =some fn) (hn:(fn.name== "runtime.NumGoroutine")=false) (hb:fn.body=some c)
 (hok:codeOk fn.ntmps c=true) (ha:args.length<=fn.ntmps) (hv:vc P fn.ntmps c (bN 0 args) (mf 0 io) (PH P fn.results.toList (io.map bh.af) post)):qI P f io args post:=by
 refine ⟨⟨fn,c,hf,hn,hb⟩,fun w φ fp S vs hsz hR0=> ?_⟩;refine calls_of_wp hf hb ?_;have hRS:RS (HE w φ fp S io) fn.ntmps φ fp S (bN 0 args) (mf 0 io) {tmps:=vs++q5 (fn.ntmps-vs.size) undef,defers:=[]} w:=by
  refine {hR0 with tm:=fun t=> ?_,defers:=rfl,kv:=by simp;omega};by_cases h:t<args.length
  . have h1:=hR0.tm t;have:vs.getD t Go.undef=(vs++q5 (fn.ntmps-vs.size) undef).getD t Go.undef:=by
     have h2:t<vs.size:=by omega
     simp only [q0];rw [q1 h2]
    rw [←this];exact h1
  rw [bO];have:(if 0<=t then (args[t-0]?).getD AV.undef else .undef)= .undef:=by simp [q10 (show args.length<=t by omega)]
  rw [this];exact .rd _ _ (.undef _)
 have fU:∀a' w',ie (HE w φ fp S io) fn.ntmps (fun ts m=>aQ P (fun xs=>iO (fun ys m'=>au ys=[]/\qC m' (fun io'=>post (bM ys) io') 0 (io.map bh.af) []) [] m xs) fn.results.toList ts m []) a' w'→
  a'.defers=[]/\∃v,(results fn a'.tmps).run P w'= .ok v w'/\∃r v' io' φ' fp' S' m',Ending.returned v= .returned v'/\post r io'/\RS (HE w φ fp S io) 0 φ' fp' S' [] m' {tmps:= #[],defers:=[]} w'/\Ln io io' m'∧
   Rd w' S' r v':=by
  rintro a' w' ⟨DP,fp0,S0,ts',m0,h0,hk⟩;refine ⟨h0.defers,?_⟩;obtain ⟨ys0,us,h1,h2,h3,h4⟩:=cR h0 fn.results.toList [] [] ⟨rfl,fun i hi=>absurd hi (q23 _)⟩ (fun i hi=>absurd hi (q23 _)) hk;obtain ⟨φ',fp',S',m',ys,hgv,h3,hU,h1⟩:=pr ys0 us [] [] h0 (by simpa using h3) ⟨rfl,fun i hi=>absurd hi (q23 _)⟩ h1;have h':=hgv.rs;obtain ⟨h3a,h3b⟩:=h3;simp only [q17] at h3a h3b;obtain ⟨io',q1,q2,q3⟩:=CJ _ _ _ h1;rw [List.reverse_nil,q17] at q1;refine ⟨if h:us.toArray.size=1 then us.toArray[0] else .tuple us.toArray,?_,bM ys,_,io',φ',fp',S',m',rfl,q1,?_,⟨by simpa using q2,fun k hk hk'=> ?_⟩,cQ (mH h3a h3b) (il hU)⟩
  . have hm:results fn a'.tmps=(do let vs ←fn.results.mapM (da a'.tmps);pure (if h:vs.size=1 then vs[0] else .tuple vs)):=by
     unfold results;congr 1
    rw [hm,Sem.run_bind,q4];have:(q19 <$> fn.results.toList.mapM (da a'.tmps):Sem aV).run P w'= .ok us.toArray w':=by rw [map_eq_pure_bind,Sem.run_bind,h2];rfl
    rw [this];rfl
  . exact {h' with tm:=fun t=>by rw [look_nil];exact .rd _ _ (.undef _),tl:=fun t l af hl=>(by rw [look_nil] at hl;cases hl),defers:=rfl,kv:=rfl}
  have:=q3 k hk (by simpa using hk');rw [q24] at this;refine ⟨this.1,?_,this.2.2⟩;rw [this.2.1,List.getElem_map]
 refine wp_mono (cI c _ _ _ hok hv _ _ _ _ _ _ hRS) ?_;intro e a' w' hq;cases e with
 |normal=>exact fU a' w' hq
 |ret=>exact fU a' w' hq
 |_=>obtain ⟨_,_,_,_,_,_,hh⟩:=hq;exact hh.elim
theorem qI.dM {P:Program} {f:FuncId} {fn:Func} {c:Code} {io:List bh} {args:lA} {post:AV->List bh->Prop} (N:Nat) (rs:List ResultVar) (hf:P.funcs[f]? =some fn) (hN:fn.ntmps=N:=by exact rfl) (hr:fn.results.toList=rs:=by exact rfl)
 (hn:(fn.name== "runtime.NumGoroutine")=false:=by exact rfl) (hb:fn.body=some c:=by exact rfl) (hok:codeOk N c=true:=by exact rfl) (ha:args.length≤N:=by exact oT rfl) (hv:vc P N c (bN 0 args) (mf 0 io) (PH P rs (io.map bh.af) post)):qI P f io args post:=by
 subst hN;subst hr;exact qI.np hf hn hb hok ha hv
section
variable {P:Program} {B:eO} {N:Nat} {φ:Nat->LS} {fp:Nat->lN} {S:Nat->Prop} {ts:Env} {m:Mem} {a:Act} {w:World}
theorem FA {f:FuncId} {ρ:lN} {io:List bh} {args xs:lA} (hnd:ρ.Nodup) (hio:io.length=ρ.length)
 (hlk:∀j (h:j<ρ.length) (h':j<io.length),aj m ρ[j]=some io[j]/\fZ io[j]) {vs:aV} (h:RS B N φ fp S ts m a w) (hvl:vs.size=args.length)
 (hx:∀i (h:i<args.length),RV w S (mD φ ρ) args[i] (vs.toList.getD i Go.undef)/\∀l af,(l,af)∈ao args[i]->known (mf 0 io) l af) {post:AV->List bh->Prop} (hf:qI P f io args post):
 Calls P f vs w fun e w'=>∃v r io' fp2 T,e= .returned v/\post r io'/\RS B N φ fp2 T ts (ga ρ io' m) a w'/\Rd w' T r v:=by
 have inj:∀i j (hi:i<ρ.length) (hj:j<ρ.length),ρ[i]=ρ[j]->i=j:=fun i j hi hj e=>(List.getElem_inj hnd).1 e;have look0:∀l,aj (mf 0 io) l=if bG<=l then io[l-bG]? else none:=fun l=>by rw [mB];rfl
 have at_:∀l b,aj (mf 0 io) l=some b->∃j,∃hj:j<ρ.length,∃hj':j<io.length,l=bG+j/\b=io[j]:=by
  intro l b hb;rw [look0] at hb;split at hb
  . rename_i hl;obtain ⟨hj,e⟩:=q11.1 hb;exact ⟨l-bG,by omega,hj,by omega,e.symm⟩
  cases hb
 have hR0:RS (HE w (mD φ ρ) (pU fp ρ) S io) vs.size (mD φ ρ) (pU fp ρ) S (bN 0 args) (mf 0 io) {tmps:=vs,defers:=[]} w:=by
  refine {tm:=fun t=> ?_,tl:=fun t l af hl=> ?_,bU:=fun l hl=> ?_,aF:=fun l b hb=> ?_,bl:=fun l v xs hb l' af hl=> ?_,gK:=fun l=> ?_,e7:=fun l l' b h1 h2=> ?_,
          bJ:=fun l b hb=> ?_,cw:=fun l b hb=> ?_,sB:=fun b hb=>⟨(h.sB b hb).1,.inr hb⟩,base:=fun b _ _=>rfl,out:=a7.refl _,ke:=je.refl _,kn:=fun _ _ _ hk=>hk,fix:=fun _ _ _ _=>LS.le_refl _ _,
          size:=q20 _,defers:=rfl,kv:=rfl,jf:=h.jf}
  . rw [bO];by_cases ht:t<args.length
    . have e:(if 0<=t then (args[t-0]?).getD AV.undef else .undef)=args[t]:=by simp [ht]
      rw [e];have:=(hx t ht).1;have e2:vs.toList.getD t Go.undef=vs.getD t Go.undef:=by simp [q8,q0]
      rw [←e2];exact this
    have e:(if 0<=t then (args[t-0]?).getD AV.undef else .undef)= .undef:=by simp [q10 (show args.length<=t by omega)]
    rw [e];exact .rd _ _ (.undef _)
  . rw [bO] at hl;by_cases ht:t<args.length
    . have e:(if 0<=t then (args[t-0]?).getD AV.undef else .undef)=args[t]:=by simp [ht]
      rw [e] at hl;exact (hx t ht).2 l af hl
    have e:(if 0<=t then (args[t-0]?).getD AV.undef else .undef)= .undef:=by simp [q10 (show args.length<=t by omega)]
    rw [e] at hl;cases hl
  . rw [look0] at hl;unfold mD pU;split at hl
    . rename_i hl';have:ρ[l-bG]? =none:=q10 (by have:=List.getElem?_eq_none_iff.1 hl;omega);rw [if_pos hl',if_pos hl',this];exact ⟨rfl,rfl⟩
    rename_i hl';rw [if_neg hl',if_neg hl'];exact ⟨rfl,rfl⟩
  . obtain ⟨j,hj,hj',rfl,rfl⟩:=at_ l b hb;have hb0:=h.aF ρ[j] _ (hlk j hj hj').1;have hfr:=(hlk j hj hj').2;rw [vV fp hj];generalize io[j]=b at hb0 hfr;cases b with
    |gone v=>exact ⟨by rw [fC φ hj];exact hb0.1,hb0.2⟩
    |row v sh dp xs=>
     rcases hb0 with ⟨q1,q2,q3⟩|⟨b,cap,q1,q2⟩
     . exact .inl ⟨by rw [fC φ hj];exact q1,q2,q3⟩
     exact .inr ⟨b,cap,by rw [fC φ hj];exact q1,q2⟩
    |jc v xs i u=>exact hfr.elim
    |sub v sh xs u=>exact hfr.elim
    |box v xs=>
     obtain ⟨b,cs,e,sh,q1,q2,q3,q4,q5,q6⟩:=hb0;exact ⟨b,cs,e,sh,by rw [fC φ hj];exact q1,q2,q3,q4,q5,fun i hi=>.rd _ _ (cQ (q6 i hi) (bK hfr i hi))⟩
  . obtain ⟨j,hj,hj',rfl,e⟩:=at_ l _ hb;have hfr:=(hlk j hj hj').2;rw [←e] at hfr;have hfr:au xs=[]:=hfr;rw [hfr] at hl;cases hl
  . unfold pU;split
    . split
      . exact h.gK _
      exact q18
    exact q18
  . obtain ⟨i,hi,rfl,b1⟩:=gX h1;obtain ⟨j,hj,rfl,b2⟩:=gX h2;have:=inj i j hi hj (h.e7 _ _ b b1 b2);subst this;rfl
  . obtain ⟨i,hi,rfl,b1⟩:=gX hb;exact h.bJ _ b b1
  obtain ⟨i,hi,rfl,b1⟩:=gX hb;exact ⟨(h.cw _ b b1).1,.inr ⟨_,hb,by omega,.inl rfl⟩⟩
 refine (hf.2 w (mD φ ρ) (pU fp ρ) S vs hvl hR0).mono ?_;rintro e w' ⟨r,v,io',φ',fp',S',m',rfl,gP,hR,⟨hl',hok⟩,hrd⟩;have hl2:io'.length=ρ.length:=hl'.trans hio;have jb:∀b:Nat,b<w.heap.size->(∀j (hj:j<ρ.length),b∉fp ρ[j])->w'.heap[b]? =w.heap[b]? :=fun b hb hn=>hR.base b hb fun l hb'=>by obtain ⟨j,hj,rfl,hb2⟩:=gX hb';exact hn j hj hb2
 have lq:∀b,S b->w'.heap[b]? =w.heap[b]? :=fun b hb=>jb b (h.sB b hb).1 fun j hj hb'=>h.bJ _ b hb' hb;have hz:fH φ w w':=fun l b sh af cs e _ hb=>hR.ke b cs e hb;have hm2:=fun l=>lO (m:=m) ρ io' hl2 hnd l;have hkn:∀l af,known m l af->known (ga ρ io' m) l af:=by
  rintro l af ⟨k',h1,h2⟩;by_cases hl:l∈ρ
  . obtain ⟨j,hj,rfl⟩:=q12 hl;have e:=(hm2 ρ[j]).1 j hj rfl;rw [q9 (by omega)] at e;rw [(hlk j hj (by omega)).1] at h1;have h1:=Option.some.inj h1;exact ⟨_,e,by rw [(hok j (by omega) (by omega)).2.1,h1];exact h2⟩
  exact ⟨k',((hm2 l).2 hl).trans h1,h2⟩
 let T:Nat->Prop:=fun b=>S b\/(S' b/\w.heap.size<=b);have hST:∀b,S' b->T b:=fun b hb=>by
  rcases (hR.sB b hb).2 with hh|hh
  . exact .inr ⟨hb,hh⟩
  exact .inl hh
 let fp2:Nat->lN:=fun l=>match ρ.idxOf? l with|some j=>fp' (bG+j)|none=>fp l
 have fp2in:∀j (hj:j<ρ.length),fp2 ρ[j]=fp' (bG+j):=by
  intro j hj;have:ρ.idxOf? ρ[j]=some j:=by rw [List.idxOf?,List.findIdx?_eq_some_iff_getElem];refine ⟨hj,by simp,fun i hi=> ?_⟩;simp only [beq_iff_eq];intro e2;have:=inj i j (by omega) hj e2;omega
  show (match ρ.idxOf? ρ[j] with|some j=>fp' (bG+j)|none=>fp ρ[j])=_;rw [this]
 have fp2out:∀l,l∉ρ->fp2 l=fp l:=by
  intro l hl;have:ρ.idxOf? l=none:=by simpa [List.idxOf?_eq_none_iff] using hl
  show (match ρ.idxOf? l with|some j=>fp' (bG+j)|none=>fp l)=_;rw [this]
 have fpnew:∀j (hj:j<ρ.length) b,b∈fp' (bG+j)->b<w'.heap.size/\(w.heap.size<=b\/b∈fp ρ[j]):=by
  intro j hj b hb;have:=hR.cw _ b hb;refine ⟨this.1,this.2.imp id fun hh=> ?_⟩;obtain ⟨l',hb2,_,hl3⟩:=hh;have hl3:l'=bG+j:=hl3.resolve_right fun e=>by have e:aj (mf 0 io) (bG+j)=none:=e;rw [look0,if_pos (by omega),List.getElem?_eq_none_iff] at e;omega
  subst hl3;have hh:b∈pU fp ρ (bG+j):=hb2
  rwa [vV fp hj] at hh
 have hRS:RS B N φ fp2 T ts (ga ρ io' m) a w':=by
  refine {tm:=fun t=>(h.tm t).mono lq (fun b hb=>.inl hb) hz fun l af _=>LS.le_refl _ _,tl:=fun t l af hl=>hkn l af (h.tl t l af hl),bU:=fun l hl=> ?_,aF:=fun l b hb=> ?_,
          bl:=fun l v xs hb l' af hl=> ?_,gK:=fun l=> ?_,e7:=fun l l' b h1 h2=> ?_,bJ:=fun l b hb=> ?_,cw:=fun l b hb=> ?_,sB:=fun b hb=> ?_,base:=fun b hb hio=> ?_,
          out:=h.out.trans hR.out,ke:=h.ke.trans hR.ke,kn:=fun l af hl hk=>hkn l af (h.kn l af hl hk),fix:=h.fix,size:=q21 h.size hR.size,defers:=h.defers,kv:=h.kv,jf:=h.jf.mono lq fun b hb=>.inl hb}
  . by_cases hm:l∈ρ
    . obtain ⟨j,hj,rfl⟩:=q12 hm;rw [(hm2 ρ[j]).1 j hj rfl,q9 (by omega)] at hl;cases hl
    rw [(hm2 l).2 hm] at hl;rw [fp2out l hm];exact h.bU l hl
  . by_cases hm:l∈ρ
    . obtain ⟨j,hj,rfl⟩:=q12 hm;rw [(hm2 ρ[j]).1 j hj rfl,q9 (by omega)] at hb;have hb:=Option.some.inj hb;subst hb;obtain ⟨g1,g2,g3⟩:=hok j (by omega) (by omega);have hB:=hR.aF _ _ g1;have Wt:known (mf 0 io) (bG+j) (io[j]'(by omega)).af:=⟨io[j]'(by omega),by rw [look0,if_pos (by omega)];simp<;>omega,q20 _⟩;have rh:=hR.fix (bG+j) _ (by omega) Wt;have rh:LS.le (φ' (bG+j)) (φ ρ[j]) (io[j]'(by omega)).af:=by rw [←fC φ hj];exact rh
      rw [fp2in j hj];rw [←g2] at rh;generalize io'[j]=b at hB rh g3;cases b with
      |gone v=>exact g3.elim
      |row v sh dp xs=>
       rcases hB with ⟨q1,q2,q3⟩|⟨b,cap,q1,q2,q3,q4⟩
       . exact .inl ⟨rh.2 q1,q2,q3⟩
       refine .inr ⟨b,cap,rh.1 _ _ q1,q2,q3,?_⟩;cases dp with
       |true=>exact q4
       |false=>exact q4.mono (fun _ _=>rfl) hST (fun _ _=>rfl)
      |jc v xs i u=>exact g3.elim
      |sub v sh xs u=>exact g3.elim
      |box v xs=>
       obtain ⟨b,cs,e,sh,q1,q2,q3,q4,q5,q6⟩:=hB;exact ⟨b,cs,e,sh,rh.1 _ _ q1,q2,q3,q4,q5,fun i hi=>.rd _ _ ((cQ (q6 i hi) (bK g3 i hi)).mono (fun _ _=>rfl) hST)⟩
    rw [(hm2 l).2 hm] at hb;rw [fp2out l hm];refine (h.aF l b hb).mono lq (fun b hb=>.inl hb) hz (fun c hc=>jb c (h.cw l c hc).1 fun j hj hc'=>hm ?_) rfl fun _ _ _ _ _ _=>LS.le_refl _ _;rw [h.e7 _ _ c hc hc'];exact List.getElem_mem hj
  . by_cases hm:l∈ρ
    . obtain ⟨j,hj,rfl⟩:=q12 hm;rw [(hm2 ρ[j]).1 j hj rfl,q9 (by omega)] at hb;have hb:=Option.some.inj hb;have g3:=(hok j (by omega) (by omega)).2.2;rw [hb] at g3;have g3:au xs=[]:=g3;rw [g3] at hl;cases hl
    rw [(hm2 l).2 hm] at hb;exact hkn l' af (h.bl l v xs hb l' af hl)
  . by_cases hm:l∈ρ
    . obtain ⟨j,hj,rfl⟩:=q12 hm;rw [fp2in j hj];exact hR.gK _
    rw [fp2out l hm];exact h.gK l
  . have mixed:∀j (hj:j<ρ.length) l,l∉ρ->b∈fp' (bG+j)->b∈fp l->False:=by
     intro j hj l hm b1 b2;rcases (fpnew j hj b b1).2 with hh|hh
     . have:=(h.cw l b b2).1;omega
     exact hm (by rw [h.e7 _ _ b b2 hh];exact List.getElem_mem hj)
    by_cases m1:l∈ρ
    . obtain ⟨j,hj,rfl⟩:=q12 m1;rw [fp2in j hj] at h1;by_cases m2:l'∈ρ
      . obtain ⟨j',hj',rfl⟩:=q12 m2;rw [fp2in j' hj'] at h2;have:=hR.e7 _ _ b h1 h2;have:j=j':=by omega
        subst this;rfl
      rw [fp2out l' m2] at h2;exact (mixed j hj l' m2 h1 h2).elim
    rw [fp2out l m1] at h1;by_cases m2:l'∈ρ
    . obtain ⟨j',hj',rfl⟩:=q12 m2;rw [fp2in j' hj'] at h2;exact (mixed j' hj' l m1 h2 h1).elim
    rw [fp2out l' m2] at h2;exact h.e7 l l' b h1 h2
  . by_cases hm:l∈ρ
    . obtain ⟨j,hj,rfl⟩:=q12 hm;rw [fp2in j hj] at hb;rintro (hs|hs)
      . rcases (fpnew j hj b hb).2 with hh|hh
        . have:=(h.sB b hs).1;omega
        exact h.bJ _ b hh hs
      exact hR.bJ _ b hb hs.1
    rw [fp2out l hm] at hb;rintro (hs|hs)
    . exact h.bJ l b hb hs
    have:=(h.cw l b hb).1;omega
  . by_cases hm:l∈ρ
    . obtain ⟨j,hj,rfl⟩:=q12 hm;rw [fp2in j hj] at hb;have:=fpnew j hj b hb;refine ⟨this.1,?_⟩;rcases this.2 with hh|hh
      . exact .inl (q21 h.size hh)
      exact (h.cw _ b hh).2
    rw [fp2out l hm] at hb;have:=h.cw l b hb;exact ⟨q22 this.1 hR.size,this.2⟩
  . rcases hb with hs|hs
    . have:=h.sB b hs;exact ⟨q22 this.1 hR.size,this.2⟩
    exact ⟨(hR.sB b hs.1).1,.inl (q21 h.size hs.2)⟩
  refine (jb b (q22 hb h.size) fun j hj hb'=> ?_).trans (h.base b hb hio);rcases (h.cw _ b hb').2 with hh|hh
  . omega
  exact hio _ hh.choose_spec.1
 exact ⟨v,r,io',fp2,T,rfl,gP,hRS,hrd.mono (fun _ _=>rfl) hST⟩
end
def sq (P:Program) (f:FuncId) (ρ:lN) (io:List bh) (args:lA) (m:Mem) (k:AV->Mem->Prop) (_:Pack k):Prop:=
 ∃post,qI P f io args post/\∀r io',post r io'->k r (ga ρ io' m)
@[congr] theorem Rt {P:Program} {f:FuncId} {ρ:lN} {io io':List bh} {args args':lA} {m:Mem} {k:AV->Mem->Prop} {q:Pack k} (h:io=io') (h':args=args'):sq P f ρ io args m k q=sq P f ρ io' args' m k q:=by rw [h,h']
theorem dN {P:Program} {f:FuncId} {ρ:lN} {io:List bh} {args:lA} {post:AV->List bh->Prop} {m:Mem} {k:AV->Mem->Prop} (h:qI P f io args post) (hk:∀r io',post r io'->k r (ga ρ io' m)) {q:Pack k}:sq P f ρ io args m k q:=
 ⟨_,h,hk⟩
theorem FB {P:Program} {f:FuncId} {xs:lA} {m:Mem} {k:AV->Mem->Prop} (ρ:lN) (h:pT m (fun io=>oO ρ (fun args=>sq P f ρ io args m k ⟨⟩) [] xs) [] ρ):ib P f xs m k:=by refine fun B N φ fp S ts a w vs hRS hsz hx hxl=> ?_;obtain ⟨hnd,io,h1,h2,h3⟩:=xI ρ [] h;rw [List.reverse_nil,q17] at h1;obtain ⟨args,g1,g2,g3⟩:=xK (w:=w) (S:=S) (φ:=φ) h2 h3 xs vs.toList [] (by simpa using hsz) hx hxl h1;rw [List.reverse_nil,q17] at g1;obtain ⟨post,hf,hk⟩:=g1;refine ⟨hf.1,(FA hnd h2 h3 hRS (hsz.trans g2.symm) g3 hf (xs:=xs)).mono ?_⟩;rintro e w' ⟨v,r,io',fp2,T,rfl,gP,hR,hrd⟩;exact ⟨v,rfl,φ,fp2,T,ts,_,r,hR,.rd _ _ hrd,fun l af hl=>(by rw [fX hrd] at hl;cases hl),rfl,hk r io' gP⟩
theorem im {P:Program} {f:FuncId} {d:Nat} {xs ts:lA} {m:Mem} {k:AV->Mem->Prop} (ρ:lN) (h:pT m (fun io=>oO ρ (fun args=>sq P f ρ io args m k ⟨⟩) [] xs) [] ρ) {q:Pack k}:eQ P f d xs ts m k q:=
 .inl (FB ρ h)
attribute [go_sem] Mi
end Go.Vc
