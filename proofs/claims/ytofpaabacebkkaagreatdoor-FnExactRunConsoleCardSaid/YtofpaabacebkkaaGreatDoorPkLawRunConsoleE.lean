import Derived.Test.YtofpaabacebkkaaGreatDoorPkLawRunConsoleD
open Go.Proofs.Tryz
open Go.Proofs.Tryz renaming prog → pG
set_option linter.unusedVariables false
set_option linter.unusedSimpArgs false
set_option linter.unnecessarySimpa false
set_option maxRecDepth 1000000
set_option maxHeartbeats 16000000
open Bool renaming and_eq_true->uq0
open List renaming all_eq_true->uq1,drop_succ_cons->uq2,drop_zero->uq3,getD_eq_getElem?_getD->uq4,getElem?_eq_getElem->uq5,getElem_mem->uq6,length_append->uq7,map->uq8,mem_append->uq9,mem_cons_self->cK,mem_range->dB,mem_singleton->dt,range->bu,range_succ->cF,take->bf,take_length->cj,take_of_length_le->c7,take_succ_cons->eP,take_succ_eq_append_getElem->iH,take_zero->cq
open Nat renaming le_refl->bO,pow_le_pow_right->c8,reduceAdd->aW,reduceBEq->bd,reduceDiv->aP,reduceEqDiff->aO
open Option renaming isSome_some->du
namespace Go.Vc
open Go.Proofs
def fB (m:aK) (c:lI):Bool:=fault m c==0
theorem CQ (m:aK) (c:lI) (hm:aY m=true) (h:c.length<=1048576):Fn pG 76 [la m,aQ c] true (· =eB (fB m c)):=by
 refine Fn.au 9 [.tmp 4] func76 (hv:= ?_);simp -dsimp -implicitDefEqProofs only [go_sem];repeat' (refine aa (x8 m c hm h) ?_;try simp -dsimp -implicitDefEqProofs only [go_sem, *])
 all_goals first|rfl|skip
theorem Bq (m:aK) (ks:lL) (hm:aY m=true) (h:ks.length<=1048576) (h2:∀x∈ks,x.length<=1048576):Fn pG 52 [la m,aR ks] true (· =eB (ks.all (fB m)&&decide ((ks.length:Int)<=300))):=by
 refine Fn.au 22 [.tmp 4] func52 (hv:= ?_);simp -dsimp -implicitDefEqProofs only [go_sem];refine aj.up [1,2] [8,17] [] ks.length (fun i=>(ks.take i).all (fB m)) (fun i=>[(5,eI i)]) (fun _=>[]) (by simp) ?_ rfl (fun i hi hI=> ?_) (fun hI=> ?_)
 . simp -dsimp -implicitDefEqProofs only [go_sem]
 . have gi:=get_some hi;have li:=aE hi;have no:fB m ks[i]=false->ks.all (fB m)=false:=fun h=>gL hi h;have yes:fB m ks[i]=true->(ks.take (i+1)).all (fB m)=true:=fun h=>by rw [dw _ _ _ hi,hI,h];rfl
   have yes':(fault m ks[i] != 0)=false->(ks.take (i+1)).all (fB m)=true:=fun h=>yes (by simpa [fB] using h);have no':(fault m ks[i] != 0)=true->ks.all (fB m)=false:=fun h=>no (by simpa [fB] using h);have hc:=nr m ks[i] hm (h2 _ (uq6 hi));clear no yes hI;simp -dsimp -implicitDefEqProofs only [pz,bd,aP,aW,↓reduceIte,aO];simp -dsimp -implicitDefEqProofs only [go_sem,li]
   repeat' first
    |(refine Br.intro (fun _=> ?_) (fun _=> ?_)<;>try simp -dsimp -implicitDefEqProofs only [go_sem, *])
    |(with_reducible refine ai ?_ ?_)
    |(refine aj.draw mixed rfl ?_;try simp -dsimp -implicitDefEqProofs only [go_sem,gi])
    |(refine ak (hc) ?_;try simp -dsimp -implicitDefEqProofs only [go_sem, *])
   all_goals (first|omega|(refine ⟨?_,?_⟩<;>omega)|(simp;done)|rfl|skip)
 rw [cj] at hI;rw [hI];simp -dsimp -implicitDefEqProofs only [pz,bd,aP,aW,↓reduceIte,aO];simp -dsimp -implicitDefEqProofs only [go_sem,aA]
set_option maxHeartbeats 4000000 in
theorem sY (m:aK) (ks:lL) (hm:aY m=true) (h:ks.length<=1048576) (h2:∀x∈ks,x.length<=1048576):Fn pG 50 [la m,aR ks] true (· =eB (ks.all (fB m))):=by
 refine Fn.au 9 [.tmp 4] func50 (hv:= ?_);have y2:(∀i (hi:i<ks.length),fB m ks[i]=true)->ks.all (fB m)=true:=fun h=>uq1.2 fun x hx=>by obtain ⟨i,hi,rfl⟩:=List.getElem_of_mem hx;exact h i hi
 have hno:∀i (hi:i<ks.length),fB m ks[i]=false->ks.all (fB m)=false:=fun i hi h=>gL hi h;generalize ks.all (fB m)=ok at y2 hno;simp -dsimp -implicitDefEqProofs only [go_sem];refine ca 400000 9 [.tmp 4] func74 rfl rfl rfl rfl rfl (by exact oT rfl) ?_;simp -dsimp -implicitDefEqProofs only [go_sem];refine ca 410000 19 [.tmp 4] func89 rfl rfl rfl rfl rfl (by exact oT rfl) ?_;simp -dsimp -implicitDefEqProofs only [go_sem];refine aj.up [0,1,7] [16] [] ks.length (fun i=>∀j (hj:j<ks.length),j<i->fB m ks[j]=true) (fun i=>[(8,eI i)]) (fun _=>[]) (fun j _ h=>absurd h (Nat.not_lt_zero _)) ?_ rfl (fun i hi hI=> ?_) (fun hI=> ?_)
 . simp -dsimp -implicitDefEqProofs only [go_sem]
 . have gi:=get_some hi;have li:=aE hi;have hc:=CQ m ks[i] hm (h2 _ (uq6 hi));rcases hv:fB m ks[i] with _|_
   . rw [hv] at hc;have hn:=hno i hi hv;clear hno y2 hI hv;subst hn;simp -dsimp -implicitDefEqProofs only [pz,bd,aP,aW,↓reduceIte,aO];simp -dsimp -implicitDefEqProofs only [go_sem,gi,li];refine ⟨⟨by omega,by omega⟩,?_⟩;refine ca 420000 8 [.tmp 3] func75 rfl rfl rfl rfl rfl (by exact oT rfl) ?_;simp -dsimp -implicitDefEqProofs only [go_sem];repeat' (refine aa (hc) ?_;try simp -dsimp -implicitDefEqProofs only [go_sem, *])
     (all_goals try first|exact rfl|(simp;done))
   rw [hv] at hc;have hI':∀j (hj:j<ks.length),j<i+1->fB m ks[j]=true:=fun j hj h=>by
    by_cases hji:j=i
    . subst hji;exact hv
    exact hI j hj (by omega)
   clear hno y2 hI hv;simp -dsimp -implicitDefEqProofs only [pz,bd,aP,aW,↓reduceIte,aO];simp -dsimp -implicitDefEqProofs only [go_sem,gi,li];refine ⟨⟨by omega,by omega⟩,?_⟩;refine ca 420000 8 [.tmp 3] func75 rfl rfl rfl rfl rfl (by exact oT rfl) ?_;simp -dsimp -implicitDefEqProofs only [go_sem]
   repeat' first
    |(with_reducible refine ai ?_ ?_)
    |(refine aa (hc) ?_;try simp -dsimp -implicitDefEqProofs only [go_sem, *])
   (all_goals try first|omega|(refine ⟨?_,?_⟩<;>omega)|exact rfl|(simp;done))
 have hn:=y2 fun j hj=>hI j hj hj;clear hno y2 hI;subst hn;simp -dsimp -implicitDefEqProofs only [pz,bd,aP,aW,↓reduceIte,aO];simp -dsimp -implicitDefEqProofs only [go_sem,aA];(all_goals try first|exact rfl|(simp;done))
def gM (m:aK) (a k:lL):Bool:=aY m&&(((a.length:Int)==0)||iF a)&&((k.length:Int)==(a.length:Int))&&k.all (fB m)
abbrev WV (m:aK) (a k:lL):AV:=.agg [eI m.af,eI m.ao,eI m.step,eI m.same,eI m.least,aR a,aR k]
theorem L0 (m:aK) (a k:lL) (h:a.length<=1048576) (h2:∀x∈a,x.length<=1048576) (h3:k.length<=1048576) (h4:∀x∈k,x.length<=1048576):Fn pG 23 [WV m a k] true (· =eB (gM m a k)):=by
 refine Fn.au 33 [.tmp 2] func23 (hv:= ?_);rcases hm:aY m with _|_
 . have hF:gM m a k=false:=by rw [gM,hm];rfl
   rw [hF];simp -dsimp -implicitDefEqProofs only [go_sem];repeat' (refine aa (eJ m) ?_;try simp -dsimp -implicitDefEqProofs only [go_sem, *])
 have hF:gM m a k=((((a.length:Int)==0)||iF a)&&((k.length:Int)==(a.length:Int))&&k.all (fB m)):=by rw [gM,hm];rfl
 rw [hF];clear hF;simp -dsimp -implicitDefEqProofs only [go_sem]
 repeat' first
  |(refine Br.intro (fun _=> ?_) (fun _=> ?_)<;>try simp -dsimp -implicitDefEqProofs only [go_sem, *])
  |(refine aa (eJ m) ?_;try simp -dsimp -implicitDefEqProofs only [go_sem, *])
  |(refine aa (qz a h h2) ?_;try simp -dsimp -implicitDefEqProofs only [go_sem, *])
  |(refine aa (sY m k hm h3 h4) ?_;try simp -dsimp -implicitDefEqProofs only [go_sem, *])
theorem L1 (m:aK) (a k:lL) (h:a.length<=1048576) (h2:∀x∈a,x.length<=1048576) (h3:k.length<=1048576) (h4:∀x∈k,x.length<=1048576):Fn pG 24 [WV m a k] true (· =eB (gM m a k)):=by
 refine Fn.au 33 [.tmp 2] func24 (hv:= ?_);rcases hm:aY m with _|_
 . have hF:gM m a k=false:=by rw [gM,hm];rfl
   rw [hF];simp -dsimp -implicitDefEqProofs only [go_sem];repeat' (refine aa (fA m) ?_;try simp -dsimp -implicitDefEqProofs only [go_sem, *])
 have hF:gM m a k=((((a.length:Int)==0)||iF a)&&((k.length:Int)==(a.length:Int))&&k.all (fB m)):=by rw [gM,hm];rfl
 rw [hF];have hq:iF a=true->a.length<=10:=fun h=>(mG h).2.1;clear hF;simp -dsimp -implicitDefEqProofs only [go_sem]
 repeat' first
  |(refine Br.intro (fun _=> ?_) (fun _=> ?_)<;>try simp -dsimp -implicitDefEqProofs only [go_sem, *])
  |(refine aa (fA m) ?_;try simp -dsimp -implicitDefEqProofs only [go_sem, *])
  |(refine aa (qA a h h2) ?_;try simp -dsimp -implicitDefEqProofs only [go_sem, *])
  |(refine aa (Bq m k hm h3 h4) ?_;try simp -dsimp -implicitDefEqProofs only [go_sem, *])
 all_goals first
  |(rename_i hA hB
    have hA':(k.length:Int)=a.length:=by simpa [bne] using hA
    rcases cR:k.all (fB m) with _|_
    . simp
    rw [cR,Bool.true_and] at hB;have hB':¬(k.length:Int)<=300:=by simpa using hB
    have h1:iF a=false:=by rw [Bool.eq_false_iff];intro hh;have:=hq hh;omega
    have h0:((a.length:Int)==0)=false:=by rw [beq_eq_false_iff_ne];omega
    rw [h1,h0];rfl)
  |(first|(simp_all;done)|skip)
def jX (keys:lL) (i:Nat) (d:Nat):Bool:=keys.any fun k=>k.getD i 0==(d:Int)
def jB (m:aK) (keys:lL) (i:Nat):lI:=vt (jX keys i) m.ao.toNat
def kc (m:aK) (keys:lL) (n:Nat):lL:=(bu n).map (jB m keys)
theorem Bt (m:aK) (keys:lL) (n:Nat):kc m keys (n+1)=kc m keys n++[jB m keys n]:=by simp [kc,cF]
theorem Bu (m:aK) (keys:lL):kc m keys 0=[]:=rfl
theorem oQ (m:aK) (keys:lL) (n:Nat):(kc m keys n).length=n:=by simp [kc]
theorem Fv (m:aK) (keys:lL) (i:Nat):(jB m keys i).length<=m.ao.toNat:=pA _ _
theorem L2 (m:aK) (keys:lL) (n:Nat):∀x∈kc m keys n,x.length<=m.ao.toNat:=fun x hx=>by simp only [kc,List.mem_map] at hx;obtain ⟨i,_,rfl⟩:=hx;exact Fv _ _ _
theorem x9:∀{xs ys:lI},xs.Pairwise (· < ·)->ys.Pairwise (· < ·)->(∀x,x∈xs↔x∈ys)->xs=ys
 | [],[],_,_,_=>rfl
 | [],y::ys,_,_,h=>absurd ((h y).2 (cK ..)) (by simp)
 |x::xs,[],_,_,h=>absurd ((h x).1 (cK ..)) (by simp)
 |x::xs,y::ys,h1,h2,h=>by
  obtain ⟨g1,g2⟩:=List.pairwise_cons.1 h1;obtain ⟨k1,k2⟩:=List.pairwise_cons.1 h2;have e:x=y:=by
   rcases List.mem_cons.1 ((h x).1 (cK ..)) with e|e
   . exact e
   rcases List.mem_cons.1 ((h y).2 (cK ..)) with e'|e'
   . exact e'.symm
   have:=k1 x e;have:=g1 y e';omega
  subst e
  have hr:∀z,z∈xs↔z∈ys:=fun z=>⟨fun hz=>by
   rcases List.mem_cons.1 ((h z).1 (List.mem_cons_of_mem _ hz)) with e|e
   . have:=g1 z hz;omega
   . exact e,fun hz=>by
   rcases List.mem_cons.1 ((h z).2 (List.mem_cons_of_mem _ hz)) with e|e
   . have:=k1 z hz;omega
   exact e⟩
  rw [x9 g2 k2 hr]
theorem sa (p:Nat->Bool):∀n,(vt p n).Pairwise (· < ·)
 |0=>by rw [oM];exact List.Pairwise.nil
 |n+1=>by
  rw [mF];split
  . refine List.pairwise_append.2 ⟨sa p n,List.pairwise_singleton ..,fun a ha b hb=> ?_⟩;obtain ⟨j,hj,rfl,_⟩:=r6 ha;simp only [dt] at hb;omega
  exact sa p n
theorem qD {p:Nat->Bool} {n j:Nat} (hj:j<n) (hp:p j=true):(j:Int)∈vt p n:=by
 induction n with
 |zero=>omega
 |succ n ih=>
  rw [mF];by_cases e:j=n
  . subst e;rw [if_pos hp];simp
  have:=ih (by omega);split
  . exact List.mem_append_left _ this
  exact this
theorem L3 {xs:lI} {p:Nat->Bool} {D:Nat} (h:∀x∈xs,∃j:Nat,j<D/\x=(j:Int)) (hp:∀j,j<D->(p j=true↔(j:Int)∈xs)):uO xs=vt p D:=by
 refine x9 (H8 xs) (sa p D) fun x=> ?_;rw [LW];constructor
 . intro hx;obtain ⟨j,hj,rfl⟩:=h x hx;exact qD hj ((hp j hj).2 hx)
 intro hx;obtain ⟨j,hj,rfl,h2⟩:=r6 hx;exact (hp j hj).1 h2
theorem Ie {m:aK} {keys:lL} {i:Nat} (h:∀k∈keys,0<=k.getD i 0/\k.getD i 0<m.ao):uO (keys.map fun k=>k.getD i 0)=jB m keys i:=by
 refine L3 (fun x hx=> ?_) fun j _=> ?_
 . obtain ⟨k,hk,rfl⟩:=List.mem_map.1 hx;have:=h k hk;exact ⟨(k.getD i 0).toNat,by omega,by omega⟩
 simp only [jX,List.any_eq_true,List.mem_map,beq_iff_eq]
def jn (t ab:lL) (k:Nat):Nat->lL
 |0=>[]
 |i+1=>if ((t.getD i []).getD k 0==1)=true then jn t ab k i++[ab.getD i []] else jn t ab k i
theorem L4 (t ab:lL) (k:Nat):jn t ab k 0=[]:=rfl
theorem gE (t ab:lL) (k i:Nat):jn t ab k (i+1)=if ((t.getD i []).getD k 0==1)=true then jn t ab k i++[ab.getD i []] else jn t ab k i:=rfl
theorem sb (t ab:lL) (k:Nat):∀i,(jn t ab k i).length<=i
 |0=>bO _
 |i+1=>by
  have:=sb t ab k i;rw [gE];split
  . simp;omega
  omega
theorem yb {t ab:lL} {k:Nat}:∀{i:Nat},i<=ab.length->∀x∈jn t ab k i,x∈ab
 |0,_,x,hx=>by cases hx
 |i+1,hi,x,hx=>by
  have ih:=yb (t:=t) (ab:=ab) (k:=k) (i:=i) (by omega);rw [gE] at hx;split at hx
  . rcases uq9.1 hx with h|h
    . exact ih x h
    simp only [dt] at h;subst h;rw [uq4,uq5 (by omega)];exact uq6 _
  exact ih x hx
def bN (m:aK) (t ab:lL) (k:Nat):lL:=kc m (jn t ab k ab.length) m.af.toNat
theorem kP (m:aK) (t ab:lL) (k:Nat):(bN m t ab k).length=m.af.toNat:=oQ _ _ _
theorem iB (m:aK) (t ab:lL) (k:Nat):∀x∈bN m t ab k,x.length<=m.ao.toNat:=L2 _ _ _
def ay (m:aK) (t ab:lL) (n:Nat):List lL:=(bu n).map (bN m t ab)
theorem sc (m:aK) (t ab:lL):ay m t ab 0=[]:=rfl
theorem sf (m:aK) (t ab:lL) (n:Nat):ay m t ab (n+1)=ay m t ab n++[bN m t ab n]:=by simp [ay,cF]
theorem dM (m:aK) (t ab:lL) (n:Nat):(ay m t ab n).length=n:=by simp [ay]
theorem jO (m:aK) (t ab:lL) {n k:Nat} (h:k<n):(ay m t ab n)[k]? =some (bN m t ab k):=by simp [ay,h]
def dU (l:lL) (c:lI):Bool:=(bu c.length).all fun i=>has (l.getD i []) (c.getD i 0)
def nW (m:aK) (t ab:lL) (i:Nat):Nat->lL
 |0=>[]
 |k+1=>if (((t.getD i []).getD k 0==0)&&dU (bN m t ab k) (ab.getD i []))=true then nW m t ab i k++[[(i:Int),(k:Int)]] else nW m t ab i k
theorem Bv (m:aK) (t ab:lL) (i:Nat):nW m t ab i 0=[]:=rfl
theorem pB (m:aK) (t ab:lL) (i k:Nat):nW m t ab i (k+1)=if (((t.getD i []).getD k 0==0)&&dU (bN m t ab k) (ab.getD i []))=true then nW m t ab i k++[[(i:Int),(k:Int)]] else nW m t ab i k:=rfl
theorem sg (m:aK) (t ab:lL) (i:Nat):∀k,(nW m t ab i k).length<=k
 |0=>bO _
 |k+1=>by
  have:=sg m t ab i k;rw [pB];split
  . simp;omega
  omega
def jP (m:aK) (t ab:lL):Nat->lL
 |0=>[]
 |i+1=>jP m t ab i++nW m t ab i (t.getD 0 []).length
theorem yd (m:aK) (t ab:lL):jP m t ab 0=[]:=rfl
theorem nt (m:aK) (t ab:lL) (i:Nat):jP m t ab (i+1)=jP m t ab i++nW m t ab i (t.getD 0 []).length:=rfl
theorem kv (m:aK) (t ab:lL):∀i,(jP m t ab i).length<=i*(t.getD 0 []).length
 |0=>Nat.zero_le _
 |i+1=>by have:=kv m t ab i;have:=sg m t ab i (t.getD 0 []).length;rw [nt,uq7,Nat.succ_mul];omega
def gN (m:aK) (t ab:lL):lL:=jP m t ab ab.length
def dV (m:aK) (t ab:lL):Bool:=(ab.length==t.length)&&ab.all (fB m)
def bS (m:aK) (t ab:lL):Int:=if eO m t then (if dV m t ab then 0 else 2) else 1
def bk (m:aK) (t ab:lL):Bool:=eO m t&&dV m t ab&&(gN m t ab).isEmpty
abbrev pM (ls:List lL):AV:=.arr ⟨1,true⟩ (ls.map r8)
theorem aZ {α β:Type} (f:α->β) (l:List α) (n:Nat) (h:l.length<=n):(l.map f).take n=l.map f:=c7 (by simpa using h)
theorem L5 (m:aK) (keys:lL) (hm:aY m=true) (h0:keys.length<=1048576) (hk3:∀k∈keys,(k.length:Int)=m.af):
 Fn pG 244 [la m,aR keys] false (· =r8 (kc m keys m.af.toNat)):=by
 have ⟨⟨n1,n2⟩,n3,n4⟩:=aM hm;refine Fn.cf 54 [.cell 4 121] func244 (hv:= ?_);simp -dsimp -implicitDefEqProofs only [go_sem];refine aj.up [1,2,4] [18,27,46,47,50,51] [11] m.af.toNat (fun _=>True) (fun i=>[(6,eI i),(5,.ref 11 0 0 i)]) (fun i=>[(11,.row 0 ⟨1,false⟩ (i==0) ((kc m keys i).map aQ))]) trivial ?_ rfl (fun i hi _=> ?_) (fun _=> ?_)
 . simp -dsimp -implicitDefEqProofs only [go_sem,Bu]
 . have hlt:decide ((i:Int)<m.af)=true:=dT (by omega);have hhl:=oQ m keys i;rw [Bt];unfold jB;generalize kc m keys i=H at*;simp -dsimp -implicitDefEqProofs only [pz,bd,aP,aW,↓reduceIte,aO];simp -dsimp -implicitDefEqProofs only [go_sem,hlt];refine aj.up [1,2,4,5,6] [27,46,47] [18] m.ao.toNat (fun _=>True) (fun d=>[(8,eI d),(7,.ref 18 0 0 (vt (jX keys i) d).length)]) (fun d=>[(18,.row 0 ⟨1,false⟩ true ((vt (jX keys i) d).map eI))]) trivial ?_ rfl (fun d hd _=> ?_) (fun _=> ?_)
   . simp -dsimp -implicitDefEqProofs only [go_sem,oM]
   . have V2:decide ((d:Int)<m.ao)=true:=dT (by omega);have hfl:=pA (jX keys i) d;rw [mF];have Xy:jX keys i d=(keys.take keys.length).any fun x=>x.getD i 0==(d:Int):=by rw [cj];rfl
     rw [Xy];clear Xy;generalize vt (jX keys i) d=F at*;simp -dsimp -implicitDefEqProofs only [pz,bd,aP,aW,↓reduceIte,aO];simp -dsimp -implicitDefEqProofs only [go_sem,V2];refine aj.up [1,2,4,5,6,7,8] [27] [] keys.length (fun _=>True) (fun k=>[(10,eI k),(9,eB ((keys.take k).any fun x=>x.getD i 0==(d:Int)))]) (fun _=>[]) trivial ?_ rfl (fun k hk' _=> ?_) (fun _=> ?_)
     . simp -dsimp -implicitDefEqProofs only [go_sem];exact rfl
     . have hkl:i<keys[k].length:=by have:=hk3 _ (uq6 hk');omega
       have gk:=get_some hk';have gi:=get_some hkl;have hgd:keys[k].getD i 0=keys[k][i]:=by simp [uq4,hkl]
       rw [xY _ _ _ hk',hgd];have lk:=aE hk';generalize keys[k]=x at*;generalize x[i]=z at*;generalize ((keys.take k).any fun x=>x.getD i 0==(d:Int))=b at*;simp -dsimp -implicitDefEqProofs only [pz,bd,aP,aW,↓reduceIte,aO];cases b<;>simp -dsimp -implicitDefEqProofs only [go_sem,lk,gk,gi]
       . exact ⟨⟨by omega,by omega⟩,⟨by omega,by omega⟩,⟨by omega,by omega⟩,rfl⟩
       exact ⟨⟨by omega,by omega⟩,rfl⟩
     generalize ((keys.take keys.length).any fun x=>x.getD i 0==(d:Int))=b at*;simp -dsimp -implicitDefEqProofs only [pz,bd,aP,aW,↓reduceIte,aO];cases b<;>simp -dsimp -implicitDefEqProofs only [go_sem,aA]
     . exact ⟨⟨by omega,by omega⟩,rfl⟩
     exact ⟨by omega,⟨by omega,by omega⟩,rfl,by simp⟩
   have V2:decide (((m.ao.toNat:Nat):Int)<m.ao)=false:=dF (by omega);have hfl:=pA (jX keys i) m.ao.toNat;generalize vt (jX keys i) m.ao.toNat=F at*;have htk:bf F.length (uq8 eI F)=uq8 eI F:=c7 (by simp);have QF:bf i (uq8 aQ H)=uq8 aQ H:=c7 (by simp;omega);have e2:uq8 aQ (H++[F])=uq8 aQ H++[aQ F]:=by simp
   have e0:(i+1==0)=false:=rfl;simp -dsimp -implicitDefEqProofs only [pz,bd,aP,aW,↓reduceIte,aO];simp -dsimp -implicitDefEqProofs only [go_sem,V2];refine .inr ⟨by omega,by omega,(by cases i with|zero=>exact .inr rfl|succ i=>exact .inl rfl),⟨by omega,by omega⟩,rfl,?_⟩;rw [e0,e2];simp -dsimp -implicitDefEqProofs only [go_sem,QF]
 have hlt:decide (((m.af.toNat:Nat):Int)<m.af)=false:=dF (by omega);have hhl:=oQ m keys m.af.toNat;generalize kc m keys m.af.toNat=H at*;have htk:=aZ aQ H m.af.toNat (by omega);simp -dsimp -implicitDefEqProofs only [pz,bd,aP,aW,↓reduceIte,aO];simp -dsimp -implicitDefEqProofs only [go_sem,hlt];((with_reducible and_intros);all_goals try (omega));all_goals rw [htk]
theorem L6 (m:aK) (t ab:lL) (k:Nat) (hm:aY m=true) (h0:ab.length<=1048576) (h1:ab.length<=t.length) (hk:∀i (hi:i<t.length),k<t[i].length) (hc:∀x∈ab,(x.length:Int)=m.af):
 Fn pG 195 [jM m t,aR ab,eI k] false (· =r8 (bN m t ab k)):=by
 refine Fn.cf 36 [.cell 6 121] func195 (hv:= ?_);simp -dsimp -implicitDefEqProofs only [go_sem];refine aj.up [1,2,3,6] [12,30,31] [9] ab.length (fun _=>True) (fun i=>[(8,eI i),(7,.ref 9 0 0 (jn t ab k i).length)]) (fun i=>[(9,.row 0 ⟨1,false⟩ (jn t ab k i).isEmpty ((jn t ab k i).map aQ))]) trivial ?_ rfl (fun i hi _=> ?_) (fun _=> ?_)
 . simp -dsimp -implicitDefEqProofs only [go_sem,L4,List.isEmpty_nil]
 . have hit:i<t.length:=by omega
   have hki:=hk i hit;have gi:=get_some hit;have gk:=get_some hki;have gc:=get_some hi;have li:=aE hi;have hp:(t.getD i []).getD k 0=t[i][k]:=by simp [uq4,hit,hki]
   have hcd:ab.getD i []=ab[i]:=by simp [uq4,hi]
   have hon:=sb t ab k i;rw [gE,hp,hcd];generalize jn t ab k i=F at*;generalize t[i][k]=z at*;generalize ab[i]=c at*;have htk:=aZ aQ F F.length (bO _);have e2:uq8 aQ (F++[c])=uq8 aQ F++[aQ c]:=by simp
   have e0:(F++[c]).isEmpty=false:=by simp
   have e1:(F++[c]).length=F.length+1:=by simp
   simp -dsimp -implicitDefEqProofs only [pz,bd,aP,aW,↓reduceIte,aO];rcases hz:(z==1) with _|_
   . simp -dsimp -implicitDefEqProofs only [go_sem,li,gi,gk,hz];((with_reducible and_intros);all_goals try first|omega|(refine ⟨?_,?_⟩<;>omega)|exact rfl)
   simp only [if_true];simp -dsimp -implicitDefEqProofs only [go_sem,li,gi,gk,gc,hz];((with_reducible and_intros);all_goals try (omega));refine .inr ⟨by omega,(by cases F with|nil=>exact .inr rfl|cons=>exact .inl rfl),⟨by omega,by omega⟩,?_⟩;rw [e0,e2];simp -dsimp -implicitDefEqProofs only [go_sem];exact rfl
 have hon:=sb t ab k ab.length;have hmm:∀x∈jn t ab k ab.length,(x.length:Int)=m.af:=fun x hx=>hc x (yb (bO _) x hx);have hq:=L5 m (jn t ab k ab.length) hm (by omega) hmm;unfold bN;generalize jn t ab k ab.length=F at*;have htk:=aZ aQ F F.length (bO _);simp -dsimp -implicitDefEqProofs only [pz,bd,aP,aW,↓reduceIte,aO];simp -dsimp -implicitDefEqProofs only [go_sem,aA];refine kK 9 0 ⟨1,false⟩ F.isEmpty (uq8 aQ F) hq (by decide) ?_ ?_ fun r hr=> ?_
 . simp -dsimp -implicitDefEqProofs only [go_sem]
 . refine rT ?_ rfl ?_
   . simp -dsimp -implicitDefEqProofs only [go_sem]
   have h:=mD (l:=9) (v:=0) (sh:=⟨1,false⟩) (ys:=uq8 aQ F) (xs:=[]) (r:=[]) 0 F.length (by simp) trivial;rw [uq3,htk] at h;exact h
 subst hr;simp -dsimp -implicitDefEqProofs only [go_sem]
theorem kQ (m:aK) (t ab:lL) (hm:aY m=true) (h0:ab.length<=1048576) (h1:ab.length<=t.length) (h2:0<t.length) (hk:∀i (hi:i<t.length),t[i].length=(t.getD 0 []).length) (hd:(t.getD 0 []).length<=1048576) (hc:∀x∈ab,(x.length:Int)=m.af):
 Fn pG 145 [jM m t,aR ab] false (· =pM (ay m t ab (t.getD 0 []).length)):=by
 refine Fn.cf 25 [.tmp 4] func145 (hv:= ?_);have g0:=get_some h2;have hg:t.getD 0 []=t[0]:=by simp [uq4,h2]
 rw [hg] at hk hd ⊢;simp -dsimp -implicitDefEqProofs only [go_sem];refine aj.up [1,2] [13,21,22,23] [7] t[0].length (fun _=>True) (fun i=>[(6,eI i),(5,.ref 7 0 0 i)]) (fun i=>[(7,.row 0 ⟨1,true⟩ (i==0) ((ay m t ab i).map r8))]) trivial ?_ rfl (fun i hi _=> ?_) (fun _=> ?_)
 . simp -dsimp -implicitDefEqProofs only [go_sem,sc]
 . have hq:=L6 m t ab i hm h0 h1 (fun j hj=>by rw [hk j hj];exact hi) hc;have hll:=dM m t ab i;have li:=aE hi;rw [sf];generalize ay m t ab i=F at*;generalize bN m t ab i=L at*;have htk:=aZ r8 F i (by omega);have e0:(i+1==0)=false:=rfl;have e2:uq8 r8 (F++[L])=uq8 r8 F++[r8 L]:=by simp
   simp -dsimp -implicitDefEqProofs only [pz,bd,aP,aW,↓reduceIte,aO];simp -dsimp -implicitDefEqProofs only [go_sem,g0,li];refine ⟨by omega,?_⟩;refine av (hq) (by simp [ax,an,aq,aG]) ?_;simp -dsimp -implicitDefEqProofs only [go_sem];refine .inr ⟨by omega,by omega,(by cases i with|zero=>exact .inr rfl|succ i=>exact .inl rfl),⟨by omega,by omega⟩,rfl,?_⟩;rw [e0,e2];simp -dsimp -implicitDefEqProofs only [go_sem,htk]
 have hll:=dM m t ab t[0].length;generalize ay m t ab t[0].length=F at*;have htk:=aZ r8 F t[0].length (by omega);simp -dsimp -implicitDefEqProofs only [pz,bd,aP,aW,↓reduceIte,aO];simp -dsimp -implicitDefEqProofs only [go_sem,g0,aA];((with_reducible and_intros);all_goals try (omega));all_goals rw [htk]
theorem qE (l:lL) (c:lI) (h0:c.length<=l.length) (h1:l.length<=1048576) (h2:∀x∈l,x.length<=1048576):Fn pG 191 [r8 l,aQ c] true (· =eB (dU l c)):=by
 refine Fn.au 23 [.tmp 4] func191 (hv:= ?_);simp -dsimp -implicitDefEqProofs only [go_sem];refine aj.up [1,2] [8,21] [] c.length (fun i=>((bu i).all fun i=>has (l.getD i []) (c.getD i 0))=true) (fun i=>[(5,eI i)]) (fun _=>[]) rfl ?_ rfl (fun i hi hI=> ?_) (fun hI=> ?_)
 . simp -dsimp -implicitDefEqProofs only [go_sem]
 . have gi:=get_some (show i<l.length by omega);have gc:=get_some hi;have li:=aE hi;have hp:has (l.getD i []) (c.getD i 0)=has l[i] c[i]:=by simp [uq4,hi,show i<l.length by omega]
   have hq:=Fo l[i] c[i] (h2 _ (uq6 _));have no:has l[i] c[i]=false->dU l c=false:=fun h=>bX hi (by rw [hp];exact h);have yes:has l[i] c[i]=true->((bu (i+1)).all fun i=>has (l.getD i []) (c.getD i 0))=true:=fun h=>by rw [bm,hI,hp,h];rfl
   clear hp hI;generalize l[i]=x at*;generalize c[i]=z at*;simp -dsimp -implicitDefEqProofs only [pz,bd,aP,aW,↓reduceIte,aO];simp -dsimp -implicitDefEqProofs only [go_sem,li];refine aj.draw mixed rfl ?_;simp -dsimp -implicitDefEqProofs only [go_sem,gi,gc];((with_reducible and_intros);all_goals try (omega));refine ak hq ?_;simp -dsimp -implicitDefEqProofs only [go_sem];refine ⟨by exact rfl,?_⟩;rcases hb:has x z with _|_
   . rw [no hb];simp -dsimp -implicitDefEqProofs only [go_sem]
   simp -dsimp -implicitDefEqProofs only [go_sem];refine ⟨⟨by omega,by omega⟩,?_,rfl⟩;rw [←cF];exact yes hb
 simp -dsimp -implicitDefEqProofs only [pz,bd,aP,aW,↓reduceIte,aO];simp -dsimp -implicitDefEqProofs only [go_sem,aA];rw [show dU l c=true from hI]
theorem qF (m:aK) (t ab:lL) (hm:aY m=true) (h0:ab.length<=1000) (h1:ab.length<=t.length) (h2:0<t.length) (hk:∀i (hi:i<t.length),t[i].length=(t.getD 0 []).length) (hd:(t.getD 0 []).length<=1000) (hc:∀x∈ab,(x.length:Int)=m.af):
 Fn pG 140 [jM m t,aR ab] false (· =aR (gN m t ab)):=by
 have ⟨⟨n1,n2⟩,n3,n4⟩:=aM hm;refine Fn.cf 52 [.tmp 4] func140 (hv:= ?_);have hq:=kQ m t ab hm (by omega) h1 h2 hk (by omega) hc;simp -dsimp -implicitDefEqProofs only [go_sem];refine av (hq) (by simp [ax,an,aq,aG]) ?_;clear hq;simp -dsimp -implicitDefEqProofs only [go_sem];have hll:=dM m t ab (t.getD 0 []).length;refine aj.up [1,2,5] [15,21,43,48,49,50] [12] ab.length (fun _=>True) (fun i=>[(7,eI i),(6,.ref 12 0 0 (jP m t ab i).length)]) (fun i=>[(12,.row 0 ⟨1,false⟩ (jP m t ab i).isEmpty ((jP m t ab i).map aQ))]) trivial ?_ rfl (fun i hi _=> ?_) (fun _=> ?_)
 . simp -dsimp -implicitDefEqProofs only [go_sem,yd,List.isEmpty_nil]
 . have hfl:=kv m t ab i;have li:=aE hi;have hmul:i*(t.getD 0 []).length<=1000*1000:=Nat.mul_le_mul (by omega) hd;rw [nt];generalize jP m t ab i=H at*;simp -dsimp -implicitDefEqProofs only [pz,bd,aP,aW,↓reduceIte,aO];simp -dsimp -implicitDefEqProofs only [go_sem,li];refine aj.up [1,2,5,7] [21,43,48,49,50] [12] (t.getD 0 []).length (fun _=>True) (fun k=>[(8,eI k),(6,.ref 12 0 0 (H++nW m t ab i k).length)]) (fun k=>[(12,.row 0 ⟨1,false⟩ (H++nW m t ab i k).isEmpty ((H++nW m t ab i k).map aQ))]) trivial ?_ rfl (fun k hk' _=> ?_) (fun _=> ?_)
   . simp -dsimp -implicitDefEqProofs only [go_sem,Bv,List.append_nil]
   . have hit:i<t.length:=by omega
     have hki:k<t[i].length:=by rw [hk i hit];exact hk'
     have gi:=get_some hit;have gk:=get_some hki;have gc:=get_some hi;have gl:=jO m t ab hk';have hp:(t.getD i []).getD k 0=t[i][k]:=by simp [uq4,hit,hki]
     have hcd:ab.getD i []=ab[i]:=by simp [uq4,hi]
     have hfk:=sg m t ab i k;have hL:=kP m t ab k;have hcl:=hc _ (uq6 hi);have hop:=qE (bN m t ab k) ab[i] (by omega) (by omega) (fun x hx=>by have:=iB m t ab k x hx;omega);rw [pB,hp,hcd];generalize nW m t ab i k=F at*;generalize bN m t ab k=L at*;generalize ay m t ab (t.getD 0 []).length=LS at*;have lk:decide ((k:Int)<(LS.length:Int))=true:=dT (by omega);generalize t[i][k]=z at*;generalize ab[i]=c at*;generalize YH:dU L c=ob at*;have hG:(H++F).length<=1001000:=by rw [uq7];omega
     have e9:∀x:lI,H++(F++[x])=(H++F)++[x]:=fun x=>by simp
     simp only [e9,apply_ite (fun l=>H++l)];generalize H++F=G at*;have htk:=aZ aQ G G.length (bO _);have e0:(G++[[(i:Int),(k:Int)]]).isEmpty=false:=by simp
     have e1:(G++[[(i:Int),(k:Int)]]).length=G.length+1:=by simp
     have e2:uq8 aQ (G++[[(i:Int),(k:Int)]])=uq8 aQ G++[aQ [(i:Int),(k:Int)]]:=by simp
     simp -dsimp -implicitDefEqProofs only [pz,bd,aP,aW,↓reduceIte,aO];rcases hz:(z==0) with _|_
     . simp -dsimp -implicitDefEqProofs only [go_sem,lk];refine aj.draw mixed rfl ?_;simp -dsimp -implicitDefEqProofs only [go_sem,gi,gk,hz];((with_reducible and_intros);all_goals try first|omega|(refine ⟨?_,?_⟩<;>omega)|exact rfl)
     simp -dsimp -implicitDefEqProofs only [go_sem,lk];refine aj.draw mixed rfl ?_;simp -dsimp -implicitDefEqProofs only [go_sem,gi,gk,gc,gl,hz];((with_reducible and_intros);all_goals try (omega));refine ak hop ?_;cases ob with
     |false=>
      simp -dsimp -implicitDefEqProofs only [go_sem];((with_reducible and_intros);all_goals try first|(refine ⟨?_,?_⟩<;>omega)|exact rfl)
     |true=>
      simp -dsimp -implicitDefEqProofs only [go_sem];refine ⟨by exact rfl,?_⟩;refine .inr ⟨by omega,(by cases G with|nil=>exact .inr rfl|cons=>exact .inl rfl),⟨by omega,by omega⟩,rfl,?_⟩;rw [e0,e2];simp -dsimp -implicitDefEqProofs only [go_sem];all_goals first|exact rfl|skip
   simp -dsimp -implicitDefEqProofs only [pz,bd,aP,aW,↓reduceIte,aO];simp -dsimp -implicitDefEqProofs only [go_sem,hll,aA];((with_reducible and_intros);all_goals try first|(refine ⟨?_,?_⟩<;>omega)|exact rfl)
 have hfl:=kv m t ab ab.length;unfold gN;generalize jP m t ab ab.length=F at*;have htk:=aZ aQ F F.length (bO _);simp -dsimp -implicitDefEqProofs only [pz,bd,aP,aW,↓reduceIte,aO];simp -dsimp -implicitDefEqProofs only [go_sem,aA];all_goals rw [htk]
theorem CR (l:lL) (c:lI) (h0:c.length<=l.length) (h1:l.length<=1048576) (h2:∀x∈l,x.length<=1048576):Fn pG 221 [r8 l,aQ c] true (· =eB (dU l c)):=by
 refine Fn.au 23 [.tmp 4] func221 (hv:= ?_);simp -dsimp -implicitDefEqProofs only [go_sem];refine aj.up [2,7,8] [20] [] c.length (fun i=>((bu i).all fun i=>has (l.getD i []) (c.getD i 0))=true) (fun i=>[(9,eI i)]) (fun _=>[]) rfl ?_ rfl (fun i hi hI=> ?_) (fun hI=> ?_)
 . simp -dsimp -implicitDefEqProofs only [go_sem]
 . have gi:=get_some (show i<l.length by omega);have gc:=get_some hi;have li:=aE hi;have hp:has (l.getD i []) (c.getD i 0)=has l[i] c[i]:=by simp [uq4,hi,show i<l.length by omega]
   have hq:=qy l[i] c[i] (h2 _ (uq6 _));have no:has l[i] c[i]=false->dU l c=false:=fun h=>bX hi (by rw [hp];exact h);have yes:has l[i] c[i]=true->((bu (i+1)).all fun i=>has (l.getD i []) (c.getD i 0))=true:=fun h=>by rw [bm,hI,hp,h];rfl
   clear hp hI;generalize l[i]=x at*;generalize c[i]=z at*;simp -dsimp -implicitDefEqProofs only [pz,bd,aP,aW,↓reduceIte,aO];simp -dsimp -implicitDefEqProofs only [go_sem,gi,gc,li];((with_reducible and_intros);all_goals try (omega));refine aa hq ?_;rcases hb:has x z with _|_
   . rw [no hb];simp -dsimp -implicitDefEqProofs only [go_sem]
   simp -dsimp -implicitDefEqProofs only [go_sem];refine ⟨⟨by omega,by omega⟩,?_,rfl⟩;rw [←cF];exact yes hb
 simp -dsimp -implicitDefEqProofs only [pz,bd,aP,aW,↓reduceIte,aO];simp -dsimp -implicitDefEqProofs only [go_sem,aA];rw [show dU l c=true from hI]
theorem JM (k:lL) (i:Nat):∀n,n<=k.length->((k.take n).map fun x=>x.getD i 0).length=n:=fun n h=>by simp [h]
theorem Py (m:aK) (keys:lL) (hm:aY m=true) (h0:keys.length<=1048576) (hk3:∀k∈keys,(k.length:Int)=m.af/\∀x∈k,0<=x/\x<m.ao):
 Fn pG 214 [la m,aR keys] false (· =r8 (kc m keys m.af.toNat)):=by
 have ⟨⟨n1,n2⟩,n3,n4⟩:=aM hm;refine Fn.cf 42 [.cell 4 121] func214 (hv:= ?_);simp -dsimp -implicitDefEqProofs only [go_sem];refine aj.up [1,4,5,12] [16,18,28,29,32,36,37,38] [5,38] m.af.toNat (fun _=>True) (fun i=>[(13,eI i)]) (fun i=>[(5,.box 0 [.ref 38 0 0 i]),(38,.row 0 ⟨1,false⟩ (i==0) ((kc m keys i).map aQ))]) trivial ?_ rfl (fun i hi _=> ?_) (fun _=> ?_)
 . simp -dsimp -implicitDefEqProofs only [go_sem,Bu]
 . have hlt:decide ((i:Int)<m.af)=true:=dT (by omega);have hhl:=oQ m keys i
   have S8:=Ie (m:=m) (keys:=keys) (i:=i) (fun k hk=>by
    obtain ⟨h1,h2⟩:=hk3 k hk;have hil:i<k.length:=by omega
    rw [show k.getD i 0=k[i] by simp [uq4,hil]]
    exact h2 _ (uq6 hil))
   rw [Bt,←S8];clear S8;generalize kc m keys i=H at*;simp -dsimp -implicitDefEqProofs only [pz,bd,aP,aW,↓reduceIte,aO];simp -dsimp -implicitDefEqProofs only [go_sem,hlt];refine aj.up [1,4,5,6,12,13,17,18] [28,29] [16] keys.length (fun _=>True) (fun k=>[(19,eI k),(7,.ref 16 0 0 k)]) (fun k=>[(16,.row 0 ⟨1,false⟩ true (((keys.take k).map fun x=>x.getD i 0).map eI))]) trivial ?_ rfl (fun k hk' _=> ?_) (fun _=> ?_)
   . simp -dsimp -implicitDefEqProofs only [go_sem,cq,List.map_nil]
   . have hkl:i<keys[k].length:=by have:=(hk3 _ (uq6 hk')).1;omega
     have gk:=get_some hk';have gi:=get_some hkl;have lk:=aE hk';have hgd:keys[k].getD i 0=keys[k][i]:=by simp [uq4,hkl]
     have ht:(keys.take (k+1)).map (fun x=>x.getD i 0)=(keys.take k).map (fun x=>x.getD i 0)++[keys[k][i]]:=by rw [iH hk',List.map_append,List.map_singleton,hgd]
     have hln:=JM keys i k (by omega);rw [ht];clear ht hgd;generalize (keys.take k).map (fun x=>x.getD i 0)=F at*;generalize keys[k]=x at*;generalize x[i]=z at*;have htk:=aZ eI F k (by omega);simp -dsimp -implicitDefEqProofs only [pz,bd,aP,aW,↓reduceIte,aO];simp -dsimp -implicitDefEqProofs only [go_sem,lk,gk,gi,htk];((with_reducible and_intros);all_goals try first|omega|(refine ⟨?_,?_⟩<;>omega)|exact rfl);all_goals first|(simp;done)|skip
   have hln:=JM keys i keys.length (bO _);have hr:uO (keys.map fun k=>k.getD i 0)=Lib.compact (((keys.take keys.length).map fun k=>k.getD i 0).mergeSort fun x y=>decide (x<=y)):=by rw [cj,Ps]
   rw [hr];clear hr;generalize (keys.take keys.length).map (fun x=>x.getD i 0)=F at*;simp -dsimp -implicitDefEqProofs only [pz,bd,aP,aW,↓reduceIte,aO];simp -dsimp -implicitDefEqProofs only [go_sem,aA];refine ⟨by omega,?_⟩;refine sI [16] ?_;simp -dsimp -implicitDefEqProofs only [go_sem];rw [←hln];refine xn (SI 0 F (by omega)) ?_;simp -dsimp -implicitDefEqProofs only [go_sem];refine aj.draw mixed rfl ?_;have hle:(F.mergeSort fun x y=>decide (x<=y)).length=F.length:=List.length_mergeSort _;have hcl:=jN (F.mergeSort fun x y=>decide (x<=y));simp -dsimp -implicitDefEqProofs only [go_sem];refine ⟨by omega,?_⟩;refine H9 (zs:=F.mergeSort fun x y=>decide (x<=y)) ?_ hle.symm (by omega) ?_
   . simp -dsimp -implicitDefEqProofs only [go_sem]
   generalize Lib.compact (F.mergeSort fun x y=>decide (x<=y))=C at*;have e0:(i+1==0)=false:=rfl;have e2:uq8 aQ (H++[C])=uq8 aQ H++[aQ C]:=by simp
   have htk:=aZ aQ H i (by omega);have htC:bf C.length (uq8 eI (C++List.replicate ((F.mergeSort fun x y=>decide (x<=y)).length-C.length) 0))=uq8 eI C:=by rw [←List.map_take];simp
   simp -dsimp -implicitDefEqProofs only [go_sem,htC];refine ⟨by omega,.inr ⟨by omega,by omega,(by cases i with|zero=>exact .inr rfl|succ i=>exact .inl rfl),by exact rfl,⟨by omega,by omega⟩,rfl,?_⟩⟩;rw [e0,e2];simp -dsimp -implicitDefEqProofs only [go_sem,htk]
 have hlt:decide (((m.af.toNat:Nat):Int)<m.af)=false:=dF (by omega);have hhl:=oQ m keys m.af.toNat;generalize kc m keys m.af.toNat=H at*;have htk:=aZ aQ H m.af.toNat (by omega);simp -dsimp -implicitDefEqProofs only [pz,bd,aP,aW,↓reduceIte,aO];simp -dsimp -implicitDefEqProofs only [go_sem,hlt];((with_reducible and_intros);all_goals try (omega));all_goals rw [htk]
def jb (ab:lL) (rs:lI):Nat->lL
 |0=>[]
 |j+1=>if decide (rs.getD j 0<(ab.length:Int))=true then jb ab rs j++[ab.getD (rs.getD j 0).toNat []] else jb ab rs j
theorem Ig (ab:lL) (rs:lI):jb ab rs 0=[]:=rfl
theorem kR (ab:lL) (rs:lI) (j:Nat):jb ab rs (j+1)=if decide (rs.getD j 0<(ab.length:Int))=true then jb ab rs j++[ab.getD (rs.getD j 0).toNat []] else jb ab rs j:=rfl
theorem Bw (ab:lL) (rs:lI):∀j,(jb ab rs j).length<=j
 |0=>bO _
 |j+1=>by
  have:=Bw ab rs j;rw [kR];split
  . simp;omega
  omega
theorem L7 (ab:lL) (rs:lI) (x:Int):jb ab (rs++[x]) (rs++[x]).length=if decide (x<(ab.length:Int))=true then jb ab rs rs.length++[ab.getD x.toNat []] else jb ab rs rs.length:=by
 have key:∀j,j<=rs.length->jb ab (rs++[x]) j=jb ab rs j:=by
  intro j;induction j with
  |zero=>intro _;rfl
  |succ j ih=>
   intro hj;have:(rs++[x]).getD j 0=rs.getD j 0:=by simp [uq4,List.getElem?_append_left (show j<rs.length by omega)]
   rw [kR,kR,ih (by omega),this]
 have e:(rs++[x]).length=rs.length+1:=by simp
 have hx:(rs++[x]).getD rs.length 0=x:=by simp [uq4]
 rw [e,kR,key _ (bO _),hx]
theorem ye (t ab:lL) (k:Nat):∀n,n<=t.length->jb ab (vt (fun i=>(t.getD i []).getD k 0==1) n) (vt (fun i=>(t.getD i []).getD k 0==1) n).length=jn t ab k (min n ab.length)
 |0,_=>by rw [oM,Nat.zero_min];rfl
 |n+1,hn=>by
  have ih:=ye t ab k n (by omega);rw [mF];split
  . rename_i h;rw [L7,ih];by_cases hc:n<ab.length
    . rw [if_pos (dT (by omega)),show min (n+1) ab.length=n+1 by omega,show min n ab.length=n by omega,gE,if_pos h];rfl
    rw [if_neg (by simp;omega),show min (n+1) ab.length=min n ab.length by omega]
  rename_i h;rw [ih];by_cases hc:n<ab.length
  . rw [show min (n+1) ab.length=n+1 by omega,show min n ab.length=n by omega,gE,if_neg h]
  rw [show min (n+1) ab.length=min n ab.length by omega]
theorem L8 {t ab:lL} (h:ab.length<=t.length) (k:Nat):jb ab (jj t k) (jj t k).length=jn t ab k ab.length:=by
 have:=ye t ab k t.length (bO _)
 rwa [show min t.length ab.length=ab.length by omega] at this
theorem Ih {t:lL} {k j:Nat} (h:j<(jj t k).length):0<=(jj t k)[j]:=by have h1:(jj t k)[j]∈jj t k:=uq6 h;obtain ⟨i,_,e,_⟩:=r6 (p:=fun i=>(t.getD i []).getD k 0==1) (i:=t.length) h1;omega
theorem Ii (t:lL) (k:Nat):(jj t k).length<=t.length:=pA _ _
theorem gp (m:aK) (t ab:lL) (hm:aY m=true) (h0:t.length<=1000) (h1:ab.length<=t.length) (h2:0<t.length) (hk:∀i (hi:i<t.length),t[i].length=(t.getD 0 []).length) (hd:(t.getD 0 []).length<=1000) (hc:∀x∈ab,(x.length:Int)=m.af/\∀y∈x,0<=y/\y<m.ao):
 Fn pG 162 [jM m t,aR ab] false (· =pM (ay m t ab (t.getD 0 []).length)):=by
 refine Fn.cf 49 [.tmp 4] func162 (hv:= ?_);have g0:=get_some h2;have hg:t.getD 0 []=t[0]:=by simp [uq4,h2]
 rw [hg] at hk hd ⊢;simp -dsimp -implicitDefEqProofs only [go_sem,g0];refine ⟨by omega,?_⟩;refine aj.up [1,2,15] [19,22,23,30,37,38,44,45,46] [10] t[0].length (fun _=>True) (fun i=>[(16,eI i),(5,.ref 10 0 0 i)]) (fun i=>[(10,.row 0 ⟨1,true⟩ (i==0) ((ay m t ab i).map r8))]) trivial ?_ rfl (fun i hi _=> ?_) (fun _=> ?_)
 . simp -dsimp -implicitDefEqProofs only [go_sem,sc]
 . have hrf:=Bp m t i (by omega) (fun j hj=>by rw [hk j hj];exact hi);have hll:=dM m t ab i;have li:=aE hi;have hrl:=Ii t i;have hrg:=fun j (h:j<(jj t i).length)=>Ih h;have hon:=sb t ab i ab.length;have hmm:∀x∈jn t ab i ab.length,(x.length:Int)=m.af/\∀y∈x,0<=y/\y<m.ao:=fun x hx=>hc x (yb (bO _) x hx);have hq:=Py m (jn t ab i ab.length) hm (by omega) hmm;have cR:=L8 h1 i;rw [sf];unfold bN;generalize ay m t ab i=F at*;have htk:=aZ r8 F i (by omega);have e0:(i+1==0)=false:=rfl;have e2:∀L:lL,uq8 r8 (F++[L])=uq8 r8 F++[r8 L]:=fun L=>by simp
   generalize jn t ab i ab.length=K at*;simp -dsimp -implicitDefEqProofs only [pz,bd,aP,aW,↓reduceIte,aO];simp -dsimp -implicitDefEqProofs only [go_sem,li];refine aa hrf ?_;clear hrf;generalize jj t i=R at*;simp -dsimp -implicitDefEqProofs only [go_sem];refine aj.up [1,2,5,15,16,22,23] [30,37,38] [19] R.length (fun _=>True) (fun j=>[(24,eI j),(7,.ref 19 0 0 (jb ab R j).length)]) (fun j=>[(19,.row 0 ⟨1,false⟩ (jb ab R j).isEmpty ((jb ab R j).map aQ))]) trivial ?_ rfl (fun j hj _=> ?_) (fun _=> ?_)
   . simp -dsimp -implicitDefEqProofs only [go_sem,Ig,List.isEmpty_nil]
   . have lj:=aE hj;have gj:=get_some hj;have hgd:R.getD j 0=R[j]:=by simp [uq4,hj]
     have hcl:=Bw ab R j;have hr0:=hrg j hj;rw [kR,hgd];generalize jb ab R j=G at*;generalize R[j]=z at*;have htG:=aZ aQ G G.length (bO _);simp -dsimp -implicitDefEqProofs only [pz,bd,aP,aW,↓reduceIte,aO];rcases hz:decide (z<(ab.length:Int)) with _|_
     . simp -dsimp -implicitDefEqProofs only [go_sem,lj,gj,hz];((with_reducible and_intros);all_goals try first|omega|(refine ⟨?_,?_⟩<;>omega)|exact rfl)
     have hzl:z.toNat<ab.length:=by have:=oT hz;omega
     have gz:=get_some hzl;have hcd:ab.getD z.toNat []=ab[z.toNat]:=by simp [uq4,hzl]
     simp only [if_true];rw [hcd];generalize ab[z.toNat]=c at*;have f0:(G++[c]).isEmpty=false:=by simp
     have f2:uq8 aQ (G++[c])=uq8 aQ G++[aQ c]:=by simp
     simp -dsimp -implicitDefEqProofs only [go_sem,lj,gj,gz,hz];refine ⟨⟨by omega,by omega⟩,⟨by omega,by omega⟩,?_⟩;refine .inr ⟨by omega,(by cases G with|nil=>exact .inr rfl|cons=>exact .inl rfl),⟨by omega,by omega⟩,?_⟩;rw [f0,f2];simp -dsimp -implicitDefEqProofs only [go_sem];exact rfl
   rw [cR];have htK:=aZ aQ K K.length (bO _);simp -dsimp -implicitDefEqProofs only [pz,bd,aP,aW,↓reduceIte,aO];simp -dsimp -implicitDefEqProofs only [go_sem,aA];refine kK 19 0 ⟨1,false⟩ K.isEmpty (uq8 aQ K) hq (by decide) ?_ ?_ fun r hr=> ?_
   . simp -dsimp -implicitDefEqProofs only [go_sem]
   . refine rT ?_ rfl ?_
     . simp -dsimp -implicitDefEqProofs only [go_sem]
     have h:=mD (l:=19) (v:=0) (sh:=⟨1,false⟩) (ys:=uq8 aQ K) (xs:=[]) (r:=[]) 0 K.length (by simp) trivial;rw [uq3,htK] at h;exact h
   subst hr;generalize kc m K m.af.toNat=L at*;simp -dsimp -implicitDefEqProofs only [go_sem];refine .inr ⟨by omega,by omega,(by cases i with|zero=>exact .inr rfl|succ i=>exact .inl rfl),⟨by omega,by omega⟩,rfl,?_⟩;rw [e0,e2];simp -dsimp -implicitDefEqProofs only [go_sem,htk]
 have hll:=dM m t ab t[0].length;generalize ay m t ab t[0].length=F at*;have htk:=aZ r8 F t[0].length (by omega);simp -dsimp -implicitDefEqProofs only [pz,bd,aP,aW,↓reduceIte,aO];simp -dsimp -implicitDefEqProofs only [go_sem,aA];((with_reducible and_intros);all_goals try (omega));all_goals rw [htk]
theorem nu (m:aK) (t ab:lL) (hm:aY m=true) (h0:t.length<=1000) (h1:ab.length<=t.length) (h2:0<t.length) (hk:∀i (hi:i<t.length),t[i].length=(t.getD 0 []).length) (hd:(t.getD 0 []).length<=1000) (hc:∀x∈ab,(x.length:Int)=m.af/\∀y∈x,0<=y/\y<m.ao):
 Fn pG 231 [jM m t,aR ab] false (· =aR (gN m t ab)):=by
 have ⟨⟨n1,n2⟩,n3,n4⟩:=aM hm;refine Fn.cf 52 [.tmp 4] func231 (hv:= ?_);have hq:=gp m t ab hm h0 h1 h2 hk hd hc;simp -dsimp -implicitDefEqProofs only [go_sem];refine av (hq) (by simp [ax,an,aq,aG]) ?_;clear hq;simp -dsimp -implicitDefEqProofs only [go_sem];have hll:=dM m t ab (t.getD 0 []).length;refine aj.up [2,6,15,16] [10,23,41,46,47,48] [11] ab.length (fun _=>True) (fun i=>[(17,eI i),(5,.ref 11 0 0 (jP m t ab i).length)]) (fun i=>[(11,.row 0 ⟨1,false⟩ (jP m t ab i).isEmpty ((jP m t ab i).map aQ))]) trivial ?_ rfl (fun i hi _=> ?_) (fun _=> ?_)
 . simp -dsimp -implicitDefEqProofs only [go_sem,yd,List.isEmpty_nil]
 . have hfl:=kv m t ab i;have li:=aE hi;have gc:=get_some hi;have hmul:i*(t.getD 0 []).length<=1000*1000:=Nat.mul_le_mul (by omega) hd;rw [nt];generalize jP m t ab i=H at*;simp -dsimp -implicitDefEqProofs only [pz,bd,aP,aW,↓reduceIte,aO];simp -dsimp -implicitDefEqProofs only [go_sem,li,gc];refine ⟨by omega,?_⟩;refine aj.up [2,6,7,8,15,16,17,22,23] [10,41,46,47,48] [11] (t.getD 0 []).length (fun _=>True) (fun k=>[(24,eI k),(5,.ref 11 0 0 (H++nW m t ab i k).length)]) (fun k=>[(11,.row 0 ⟨1,false⟩ (H++nW m t ab i k).isEmpty ((H++nW m t ab i k).map aQ))]) trivial ?_ rfl (fun k hk' _=> ?_) (fun _=> ?_)
   . simp -dsimp -implicitDefEqProofs only [go_sem,Bv,List.append_nil]
   . have hit:i<t.length:=by omega
     have hki:k<t[i].length:=by rw [hk i hit];exact hk'
     have gi:=get_some hit;have gk:=get_some hki;have gl:=jO m t ab hk';have hp:(t.getD i []).getD k 0=t[i][k]:=by simp [uq4,hit,hki]
     have hcd:ab.getD i []=ab[i]:=by simp [uq4,hi]
     have hfk:=sg m t ab i k;have hL:=kP m t ab k;have hcl:=(hc _ (uq6 hi)).1;have hop:=CR (bN m t ab k) ab[i] (by omega) (by omega) (fun x hx=>by have:=iB m t ab k x hx;omega);rw [pB,hp,hcd];generalize nW m t ab i k=F at*;generalize bN m t ab k=L at*;generalize ay m t ab (t.getD 0 []).length=LS at*;have lk:decide ((k:Int)<(LS.length:Int))=true:=dT (by omega);generalize t[i][k]=z at*;generalize ab[i]=c at*;generalize YH:dU L c=ob at*;have hG:(H++F).length<=1001000:=by rw [uq7];omega
     have e9:∀x:lI,H++(F++[x])=(H++F)++[x]:=fun x=>by simp
     simp only [e9,apply_ite (fun l=>H++l)];generalize H++F=G at*;have htk:=aZ aQ G G.length (bO _);have e0:(G++[[(i:Int),(k:Int)]]).isEmpty=false:=by simp
     have e2:uq8 aQ (G++[[(i:Int),(k:Int)]])=uq8 aQ G++[aQ [(i:Int),(k:Int)]]:=by simp
     simp -dsimp -implicitDefEqProofs only [pz,bd,aP,aW,↓reduceIte,aO];rcases hz:(z==0) with _|_
     . simp -dsimp -implicitDefEqProofs only [go_sem,gi,gk,gl,lk,hz];((with_reducible and_intros);all_goals try first|omega|(refine ⟨?_,?_⟩<;>omega)|exact rfl)
     simp -dsimp -implicitDefEqProofs only [go_sem,gi,gk,gl,lk,hz];((with_reducible and_intros);all_goals try (omega));refine aa hop ?_;cases ob with
     |false=>
      simp -dsimp -implicitDefEqProofs only [go_sem];((with_reducible and_intros);all_goals try first|(refine ⟨?_,?_⟩<;>omega)|exact rfl)
     |true=>
      simp -dsimp -implicitDefEqProofs only [go_sem];refine .inr ⟨by omega,(by cases G with|nil=>exact .inr rfl|cons=>exact .inl rfl),⟨by omega,by omega⟩,rfl,?_⟩;rw [e0,e2];simp -dsimp -implicitDefEqProofs only [go_sem];all_goals first|exact rfl|skip
   simp -dsimp -implicitDefEqProofs only [pz,bd,aP,aW,↓reduceIte,aO];simp -dsimp -implicitDefEqProofs only [go_sem,hll,aA];((with_reducible and_intros);all_goals try first|(refine ⟨?_,?_⟩<;>omega)|exact rfl)
 have hfl:=kv m t ab ab.length;unfold gN;generalize jP m t ab ab.length=F at*;have htk:=aZ aQ F F.length (bO _);simp -dsimp -implicitDefEqProofs only [pz,bd,aP,aW,↓reduceIte,aO];simp -dsimp -implicitDefEqProofs only [go_sem,aA];all_goals rw [htk]
structure KS (σ:Type) where
 ae:Nat
 zs:lI
 s:σ
def eC {τ:Type} (f:Nat->τ->τ × Bool) (t:τ):Nat->τ × Bool
 |0=>(t,true)
 |i+1=>if (eC f t i).2=true then f i (eC f t i).1 else eC f t i
theorem iU {τ:Type} {f:Nat->τ->τ × Bool} {t:τ} {i:Nat} (h:(eC f t i).2=true):eC f t (i+1)=f i (eC f t i).1:=by rw [eC,if_pos h]
theorem oR {τ:Type} {f:Nat->τ->τ × Bool} {t:τ} {i:Nat} (h:(eC f t i).2=false):∀j,i<=j->eC f t j=eC f t i:=by
 intro j hj;induction j with
 |zero=>rw [show i=0 by omega]
 |succ j ih=>
  by_cases e:i=j+1
  . rw [e]
  have:=ih (by omega);rw [eC,this,if_neg (by rw [h];exact fun e=>by cases e)]
def bC {σ:Type} (f:σ->lI->σ × Bool):σ->lL->σ × Bool
 |s,[]=>(s,true)
 |s,k::r=>if (f s k).2=true then bC f (f s k).1 r else f s k
theorem qb {σ:Type} {f:σ->lI->σ × Bool}:∀(a b:lL) (s:σ),bC f s (a++b)=if (bC f s a).2=true then bC f (bC f s a).1 b else bC f s a
 | [],b,s=>by simp [bC]
 |k::a,b,s=>by
  simp only [List.cons_append,bC];by_cases h:(f s k).2=true
  . simp only [h,if_true];exact qb a b _
  have h':(f s k).2=false:=by simpa using h
  simp [h']
def bJ (m:aK) (c:lI) (d:Int):Bool:=c.isEmpty||decide (e8 (d-c.getD (c.length-1) 0)<=m.step)
def fY (m:aK) (c:lI) (d:Int):Bool:=decide ((a6 (c++[d]) c.length:Int)<=m.same)
def a7 (m:aK):Nat->lI->lL
 |0,c=>if (bo c c.length:Int)<m.least then [] else [c]
 |n+1,c=>(bu m.ao.toNat).flatMap fun (d:Nat)=>if (bJ m c (d:Int)&&fY m c (d:Int))=true then a7 m n (c++[(d:Int)]) else []
def bp {σ:Type} (m:aK) (f:σ->lI->σ × Bool):Nat->lI->KS σ->KS σ × Bool
 |0,c,t=>if (bo c c.length:Int)<m.least then (t,true) else (⟨t.ae,t.zs,(f t.s c).1⟩,(f t.s c).2)
 |n+1,c,t=>eC (fun (d:Nat) t=>if bJ m c d=true then if fY m c d=true then bp m f n (c++[(d:Int)]) ⟨t.ae+1,t.zs.take c.length++[(d:Int)],t.s⟩ else (⟨t.ae+1,t.zs.take c.length++[(d:Int)],t.s⟩,true) else (t,true)) t m.ao.toNat
def aT {σ:Type} (m:aK) (f:σ->lI->σ × Bool) (n:Nat) (c:lI) (d:Nat) (t:KS σ):KS σ × Bool:=
 if bJ m c d=true then if fY m c d=true then bp m f n (c++[(d:Int)]) ⟨t.ae+1,t.zs.take c.length++[(d:Int)],t.s⟩ else (⟨t.ae+1,t.zs.take c.length++[(d:Int)],t.s⟩,true) else (t,true)
theorem dP {σ:Type} (m:aK) (f:σ->lI->σ × Bool) (n:Nat) (c:lI) (t:KS σ):bp m f (n+1) c t=eC (aT m f n c) t m.ao.toNat:=rfl
def Ds {σ:Type} (c:lI) (t:KS σ):Prop:=t.zs.take c.length=c/\c.length<=t.zs.length
theorem sj {σ:Type} {c:lI} {t:KS σ} (h:Ds c t) (d:Int):Ds (c++[d]) (⟨t.ae+1,t.zs.take c.length++[d],t.s⟩:KS σ):=by
 refine ⟨?_,?_⟩
 . show (t.zs.take c.length++[d]).take (c++[d]).length=_;rw [h.1];exact cj
 show (c++[d]).length<=(t.zs.take c.length++[d]).length;rw [h.1];exact bO _
theorem sn {σ:Type} {c:lI} {d:Int} {t:KS σ} (h:Ds (c++[d]) t):Ds c t:=by
 have h2:c.length<=t.zs.length:=by have:=h.2;simp at this;omega
 refine ⟨?_,h2⟩;have:=congrArg (bf c.length) h.1;simp only [List.take_take] at this;rw [show min c.length (c++[d]).length=c.length by simp] at this;rw [this];simp
theorem iC {σ:Type} (m:aK) (f:σ->lI->σ × Bool):∀(n:Nat) (c:lI) (t:KS σ),Ds c t->Ds c (bp m f n c t).1/\(bp m f n c t).1.s=(bC f t.s (a7 m n c)).1/\(bp m f n c t).2=(bC f t.s (a7 m n c)).2
 |0,c,t,h=>by
  simp only [bp,a7];split
  . exact ⟨h,rfl,rfl⟩
  refine ⟨h,?_,?_⟩
  . simp only [bC];split<;>rfl
  simp only [bC];split<;>simp_all
 |n+1,c,t,h=>by
  rw [dP,a7];generalize m.ao.toNat=D;induction D with
  |zero=>exact ⟨h,rfl,rfl⟩
  |succ D ih=>
   obtain ⟨i1,i2,i3⟩:=ih;rw [cF,List.flatMap_append,qb];rw [←i3];by_cases hb:(eC (aT m f n c) t D).2=true
   . rw [iU hb,if_pos hb,←i2];generalize (eC (aT m f n c) t D).1=u at i1;simp only [List.flatMap_cons,List.flatMap_nil,List.append_nil,aT];by_cases h1:bJ m c D=true
     . by_cases h2:fY m c D=true
       . rw [if_pos h1,if_pos h2,if_pos (by rw [h1,h2];rfl)];have:=iC m f n (c++[(D:Int)]) ⟨u.ae+1,u.zs.take c.length++[(D:Int)],u.s⟩ (sj i1 D);exact ⟨sn this.1,this.2.1,this.2.2⟩
       rw [if_pos h1,if_neg h2,if_neg (by simp [h2])];exact ⟨sn (sj i1 D),rfl,rfl⟩
     rw [if_neg h1,if_neg (by simp [h1])];exact ⟨i1,rfl,rfl⟩
   rw [eC,if_neg hb,if_neg hb];exact ⟨i1,i2,by simpa using i3⟩
theorem pC {σ:Type} {m:aK} {f:σ->lI->σ × Bool} {n:Nat} {c:lI} {t:KS σ} (h:Ds c t):∀D,Ds c (eC (aT m f n c) t D).1
 |0=>h
 |D+1=>by
  have i1:=pC h D (m:=m) (f:=f) (n:=n);by_cases hb:(eC (aT m f n c) t D).2=true
  . rw [iU hb];generalize (eC (aT m f n c) t D).1=u at i1;simp only [aT];by_cases h1:bJ m c D=true
    . by_cases h2:fY m c D=true
      . rw [if_pos h1,if_pos h2];exact sn (iC m f n (c++[(D:Int)]) ⟨u.ae+1,u.zs.take c.length++[(D:Int)],u.s⟩ (sj i1 D)).1
      rw [if_pos h1,if_neg h2];exact sn (sj i1 D)
    rw [if_neg h1];exact i1
  rw [eC,if_neg hb];exact i1
theorem ke (m:aK) (hm:aY m=true):∀(n:Nat) (c:lI),(a7 m n c).length<=8^n
 |0,c=>by simp only [a7];split<;>simp
 |n+1,c=>by
  have hd:m.ao.toNat<=8:=by have:=aM hm;omega
  have:∀D,((bu D).flatMap fun (d:Nat)=>if (bJ m c (d:Int)&&fY m c (d:Int))=true then a7 m n (c++[(d:Int)]) else []).length<=D*8^n:=by
   intro D;induction D with
   |zero=>simp
   |succ D ih=>
    rw [cF,List.flatMap_append,uq7,Nat.succ_mul];refine Nat.add_le_add ih ?_;simp only [List.flatMap_cons,List.flatMap_nil,List.append_nil];split
    . exact ke m hm n _
    exact Nat.zero_le _
  rw [a7,Nat.pow_succ,Nat.mul_comm (8^n) 8];exact Nat.le_trans (this _) (Nat.mul_le_mul_right _ hd)
theorem nw (m:aK):∀(n:Nat) (c k:lI),k∈a7 m n c->k.take c.length=c/\k.length=c.length+n
 |0,c,k,h=>by
  simp only [a7] at h;split at h
  . cases h
  simp at h;subst h;simp
 |n+1,c,k,h=>by
  simp only [a7,List.mem_flatMap,dB] at h;obtain ⟨d,_,h⟩:=h;split at h
  . have:=nw m n _ k h;have h1:=congrArg (bf c.length) this.1;simp only [List.take_take] at h1;rw [show min c.length (c++[(d:Int)]).length=c.length by simp] at h1;refine ⟨by rw [h1];simp,by rw [this.2];simp;omega⟩
  cases h
theorem vI {m:aK} (hm:aY m=true) {f:Int->lI->Int × Bool} {n:Nat} {c:lI} (hc:∀(c':lI) (t:KS Int),t.s<=(bp m f n c' t).1.s/\(bp m f n c' t).1.s<=t.s+8^n) (t:KS Int):
 ∀D:Nat,t.s<=(eC (aT m f n c) t D).1.s/\(eC (aT m f n c) t D).1.s<=t.s+D*8^n
 |0=>by simp [eC]
 |D+1=>by
  have ih:=vI hm hc t D (c:=c);have hp:(0:Int)<=8^n:=Int.pow_nonneg (by decide);have e:((D+1:Nat):Int)*8^n=(D:Int)*8^n+8^n:=by rw [Int.natCast_add,Int.add_mul];simp
  rw [e];by_cases hb:(eC (aT m f n c) t D).2=true
  . rw [iU hb];generalize (eC (aT m f n c) t D).1=u at ih;simp only [aT];split
    . split
      . have:=hc (c++[(D:Int)]) ⟨u.ae+1,u.zs.take c.length++[(D:Int)],u.s⟩;simp only at this;omega
      simp only;omega
    simp only;omega
  rw [eC,if_neg hb];omega
theorem yf {m:aK} (hm:aY m=true) {f:Int->lI->Int × Bool} (hf:∀s k,s<=(f s k).1/\(f s k).1<=s+1):∀(n:Nat) (c:lI) (t:KS Int),t.s<=(bp m f n c t).1.s/\(bp m f n c t).1.s<=t.s+8^n
 |0,c,t=>by
  simp only [bp];have:=hf t.s c;split<;>simp<;>omega
 |n+1,c,t=>by
  have hd:m.ao.toNat<=8:=by have:=aM hm;omega
  have:=vI hm (yf hm hf n) t m.ao.toNat (c:=c);have hp:(0:Int)<=8^n:=Int.pow_nonneg (by decide);have h2:(m.ao.toNat:Int)*8^n<=8*8^n:=Int.mul_le_mul_of_nonneg_right (by omega) hp;have h3:(8:Int)^(n+1)=8*8^n:=by rw [Int.pow_succ,Int.mul_comm]
  rw [dP,h3];omega
def fF (s:Int) (_:lI):Int × Bool:=(s+1,true)
def cr (key:lI) (s:Int) (k:lI):Int × Bool:=if k=key then (s,false) else (s+1,true)
theorem Bx:∀(ks:lL) (s:Int),bC fF s ks=(s+ks.length,true)
 | [],s=>by simp [bC]
 |k::r,s=>by show bC fF (s+1) r=_;rw [Bx r];simp;omega
theorem yg {key:lI}:∀(a b:lL) (s:Int),key∉a->bC (cr key) s (a++key::b)=(s+a.length,false)
 | [],b,s,_=>by simp [bC,cr]
 |k::a,b,s,h=>by
  have h1:k≠key:=fun e=>h (by simp [e]);have h2:cr key s k=(s+1,true):=by simp [cr,h1]
  rw [List.cons_append,bC,h2];show bC (cr key) (s+1) _=_;rw [yg a b (s+1) fun hh=>h (List.mem_cons_of_mem _ hh)];simp;omega
def fe (m:aK) (c:lI):Bool:=(bu c.length).all fun i=>decide ((a6 c i:Int)<=m.same)&&cy m c i
theorem uQ {m:aK} {c:lI} {d:Int} {i:Nat} (h:i<c.length):cy m (c++[d]) i=cy m c i:=by
 have g:∀j,j<c.length->(c++[d]).getD j 0=c.getD j 0:=fun j hj=>by simp [uq4,List.getElem?_append_left hj]
 unfold cy;rw [g i h,g (i-1) (by omega)]
theorem By {c:lI} {d:Int} {i:Nat} (h:i<c.length):a6 (c++[d]) i=a6 c i:=by have:=x6 (c++[d]) c.length i h;simp at this;exact this.symm
theorem jo (m:aK) (c:lI) (d:Int):fe m (c++[d])=(fe m c&&(bJ m c d&&fY m c d)):=by
 have h1:(bu c.length).all (fun i=>decide ((a6 (c++[d]) i:Int)<=m.same)&&cy m (c++[d]) i)=fe m c:=by
  unfold fe;rw [Bool.eq_iff_iff,uq1,uq1];constructor
  . intro h i hi;have:=h i hi
    rwa [By (dB.1 hi),uQ (dB.1 hi)] at this
  intro h i hi;rw [By (dB.1 hi),uQ (dB.1 hi)];exact h i hi
 have h2:cy m (c++[d]) c.length=bJ m c d:=by
  unfold cy bJ;cases c with
  |nil=>simp
  |cons x r=>
   have g1:((x::r)++[d]).getD (x::r).length 0=d:=by simp [uq4]
   have g2:((x::r)++[d]).getD ((x::r).length-1) 0=(x::r).getD ((x::r).length-1) 0:=by simp only [uq4];rw [List.getElem?_append_left (by simp)]
   rw [g1,g2];simp
 rw [fe,uq7,show c.length+[d].length=c.length+1 by rfl,bm,h1,h2];unfold fY;cases fe m c<;>cases bJ m c d<;>simp
def lF (m:aK) (n:Nat) (c:lI):Nat:=if fe m c=true then (a7 m n c).length else 0
theorem Pz (m:aK) (c:lI) (h:fe m c=true):lF m 0 c=if (bo c c.length:Int)<m.least then 0 else 1:=by rw [lF,if_pos h,a7];split<;>rfl
def jQ (m:aK) (n:Nat) (c:lI) (D:Nat):Nat:=((bu D).map fun (d:Nat)=>lF m n (c++[(d:Int)])).sum
theorem ny (m:aK) (n:Nat) (c:lI) (D:Nat):jQ m n c (D+1)=jQ m n c D+lF m n (c++[(D:Int)]):=by rw [jQ,cF,List.map_append,List.sum_append];simp [jQ]
def jY (m:aK) (n:Nat) (c:lI) (D:Nat):lL:=(bu D).flatMap fun (d:Nat)=>if (bJ m c (d:Int)&&fY m c (d:Int))=true then a7 m n (c++[(d:Int)]) else []
theorem jR (m:aK) (n:Nat) (c:lI) (D:Nat):jY m n c (D+1)=jY m n c D++if (bJ m c (D:Int)&&fY m c (D:Int))=true then a7 m n (c++[(D:Int)]) else []:=by rw [jY,cF,List.flatMap_append];simp [jY]
theorem yh (m:aK) (n:Nat) (c:lI) (h:fe m c=true) (D:Nat):(jY m n c D).length=jQ m n c D:=by
 induction D with
 |zero=>rfl
 |succ D ih=>
  rw [jR,ny,uq7,ih];congr 1;rw [lF,jo,h,Bool.true_and];split<;>rfl
theorem PA (m:aK) (n:Nat) (c:lI) (h:fe m c=true):lF m (n+1) c=jQ m n c m.ao.toNat:=by rw [lF,if_pos h,←yh m n c h];rfl
theorem CS (m:aK) (hm:aY m=true) (n:Nat) (c:lI):lF m n c<=8^n:=by
 unfold lF;split
 . exact ke m hm n c
 exact Nat.zero_le _
theorem yi (m:aK) (hm:aY m=true) (n:Nat) (c:lI) (D:Nat):jQ m n c D<=D*8^n:=by
 induction D with
 |zero=>simp [jQ]
 |succ D ih=>rw [ny,Nat.succ_mul];exact Nat.add_le_add ih (CS m hm n _)
theorem qG {m:aK} {n:Nat} {c k:lI}:∀{D:Nat},k∈jY m n c D->∃d:Nat,d<D/\k.take (c.length+1)=c++[(d:Int)]
 |0,h=>by cases h
 |D+1,h=>by
  rw [jR,uq9] at h;rcases h with h|h
  . obtain ⟨d,h1,h2⟩:=qG h;exact ⟨d,by omega,h2⟩
  split at h
  . have:=(nw m n _ k h).1;exact ⟨D,by omega,by simpa using this⟩
  cases h
theorem so (m:aK) (n:Nat) (c:lI) (D:Nat):∀E,∃r,jY m n c (D+E)=jY m n c D++r
 |0=>⟨[],by simp⟩
 |E+1=>by obtain ⟨r,h⟩:=so m n c D E;exact ⟨r++_,by rw [←Nat.add_assoc,jR,h,List.append_assoc]⟩
def cI (m:aK) (key:lI):Nat->Nat
 |0=>0
 |i+1=>cI m key i+jQ m (key.length-(i+1)) (key.take i) (key.getD i 0).toNat
theorem yj {key:lI} {i:Nat} (h:i<key.length):key.take (i+1)=key.take i++[key.getD i 0]:=by rw [List.take_add_one];simp [uq4,h]
theorem Bz {m:aK} {key:lI} (h:fe m key=true):∀j,fe m (key.take (key.length-j))=true
 |0=>by simpa using h
 |j+1=>by
  have ih:=Bz h j;by_cases e:j<key.length
  . rw [show key.length-j=key.length-(j+1)+1 by omega,yj (by omega),jo] at ih;simp only [uq0] at ih;exact ih.1
  rw [show key.length-(j+1)=key.length-j by omega];exact ih
theorem nz {m:aK} {key:lI} (h:fe m key=true) {i:Nat} (hi:i<=key.length):fe m (key.take i)=true:=by
 have:=Bz h (key.length-i)
 rwa [show key.length-(key.length-i)=i by omega] at this
theorem JN {m:aK} {key:lI} (h:fe m key=true) (hk:¬(bo key key.length:Int)<m.least) (he:∀x∈key,0<=x/\x<m.ao):∀(n i:Nat),i+n=key.length→
 ∃a b,a7 m n (key.take i)=a++key::b/\key∉a/\a.length+cI m key i=cI m key key.length
 |0,i,hi=>by
  have e:key.take i=key:=by rw [show i=key.length by omega];exact cj
  refine ⟨[],[],?_,List.not_mem_nil,?_⟩
  . rw [e,a7,if_neg hk];rfl
  rw [show i=key.length by omega];simp
 |n+1,i,hi=>by
  have hlt:i<key.length:=by omega
  have hx:=he (key.getD i 0) (by rw [uq4,uq5 hlt];exact uq6 _);have hsn:=yj hlt;have l6:=nz h (show i+1<=key.length by omega);obtain ⟨a',b',h1,h2,h3⟩:=JN h hk he n (i+1) (by omega);have ed:((key.getD i 0).toNat:Int)=key.getD i 0:=by omega
  have Xz:(bJ m (key.take i) ((key.getD i 0).toNat:Int)&&fY m (key.take i) ((key.getD i 0).toNat:Int))=true:=by rw [hsn,jo] at l6;simp only [uq0] at l6;rw [ed,l6.2.1,l6.2.2];rfl
  obtain ⟨r,hr⟩:=so m n (key.take i) ((key.getD i 0).toNat+1) (m.ao.toNat-((key.getD i 0).toNat+1));rw [show (key.getD i 0).toNat+1+(m.ao.toNat-((key.getD i 0).toNat+1))=m.ao.toNat by omega,jR,if_pos Xz,ed,←hsn,h1] at hr;refine ⟨jY m n (key.take i) (key.getD i 0).toNat++a',b'++r,?_,fun hm=> ?_,?_⟩
  . show jY m n (key.take i) m.ao.toNat=_;rw [hr];simp
  . rcases uq9.1 hm with hm|hm
    . obtain ⟨d,g1,g2⟩:=qG hm;rw [show (key.take i).length+1=i+1 by simp;omega,hsn] at g2;have:=List.append_cancel_left g2;injection this with this
      omega
    exact h2 hm
  rw [uq7,yh m n _ (nz h (by omega)),←h3,cI,show key.length-(i+1)=n by omega];omega
theorem pD {m:aK} {c:lI} (h:fault m c=0):(c.length:Int)=m.af/\(∀x∈c,0<=x/\x<m.ao)/\fe m c=true/\¬(bo c c.length:Int)<m.least:=by
 unfold fault at h;split at h
 . cases h
 rename_i h1;split at h
 . cases h
 rename_i h2;split at h
 . cases h
 rename_i h3;split at h
 . cases h
 rename_i h4;split at h
 . cases h
 rename_i h5;refine ⟨by omega,fun x hx=> ?_,?_,h5⟩
 . have:=uq1.1 (by simpa using h2) x hx;simp [bB] at this;omega
 unfold fe;rw [uq1];intro i hi;have a3:=uq1.1 (by simpa using h3) i hi;have h4':((bu c.length).all fun i=>decide ((a6 c i:Int)<=m.same))=true:=by
  cases hh:((bu c.length).all fun i=>decide ((a6 c i:Int)<=m.same)) with
  |true=>rfl
  |false=>exact absurd hh h4
 have a4:=uq1.1 h4' i hi;simp only [a3,a4,Bool.and_self]
theorem CT {m:aK} {key:lI} (h:fault m key=0):(bC (cr key) 0 (a7 m m.af.toNat [])).1=cI m key key.length/\cI m key key.length<lF m m.af.toNat []:=by
 obtain ⟨h1,h2,h3,h4⟩:=pD h;obtain ⟨a,b,g1,g2,g3⟩:=JN h3 h4 h2 key.length 0 (by omega);rw [show key.length=m.af.toNat by omega] at g1;have g1':a7 m m.af.toNat []=a++key::b:=g1;have g3':a.length=cI m key key.length:=by simpa [cI] using g3
 rw [g1',yg a b 0 g2,←g3'];refine ⟨by simp,?_⟩;have h0:fe m []=true:=rfl;rw [lF,if_pos h0,g1'];simp
theorem gq {m:aK} {c:lI} (h:fB m c=true):(c.length:Int)=m.af/\∀y∈c,0<=y/\y<m.ao:=by obtain ⟨h1,h2,_⟩:=pD (beq_iff_eq.1 h);exact ⟨h1,h2⟩
theorem dH {m:aK} {t ab:lL} (h:dV m t ab=true):ab.length=t.length/\∀x∈ab,fB m x=true:=by simp only [dV,uq0,beq_iff_eq,uq1] at h;exact h
theorem lG {m:aK} {t:lL} (h:eO m t=true):aY m=true:=by simp only [eO,uq0] at h;exact h.1.1
theorem uR (m:aK) (t ab:lL):(((gN m t ab).length:Int)==0)=(gN m t ab).isEmpty:=by
 cases gN m t ab with
 |nil=>rfl
 |cons x r=>simp;omega
theorem sZ {m:aK} {t ab:lL} (h:bk m t ab=true):eO m t=true/\dV m t ab=true:=by simp only [bk,uq0] at h;exact h.1
theorem L9 (m:aK) (t ab:lL) (h:t.length<=1048576) (h2:∀x∈t,x.length<=1048576) (h3:ab.length<=1048576) (h4:∀x∈ab,x.length<=1048576) (hs:eO m t=true):Fn pG 190 [jM m t,aR ab] true (· =eB (dV m t ab)):=by
 have hn:=iT hs;have hq:=Bq m ab (lG hs) h3 h4;have hlen:((ab.length:Int)==(t.length:Int))=(ab.length==t.length):=by rw [Bool.eq_iff_iff];simp only [beq_iff_eq];omega
 refine Fn.au 17 [.tmp 4] func190 (hv:= ?_);unfold dV;rcases hl:(ab.length==t.length) with _|_
 . simp -dsimp -implicitDefEqProofs only [go_sem,hlen,hl]
 have he:=beq_iff_eq.1 hl;rw [decide_eq_true (show _ by omega),Bool.and_true] at hq;simp -dsimp -implicitDefEqProofs only [go_sem,hlen,hl];refine aa hq ?_;simp -dsimp -implicitDefEqProofs only [go_sem]
theorem s0 (m:aK) (t ab:lL) (h:t.length<=1048576) (h2:∀x∈t,x.length<=1048576) (h3:ab.length<=1048576) (h4:∀x∈ab,x.length<=1048576):Fn pG 139 [jM m t,aR ab] true (· =eI (bS m t ab)):=by
 refine Fn.au 12 [.tmp 4] func139 (hv:= ?_);have hq:=uN m t h h2;unfold bS;rcases hb:eO m t with _|_
 . rw [hb] at hq;simp -dsimp -implicitDefEqProofs only [go_sem];refine aa hq ?_;simp -dsimp -implicitDefEqProofs only [go_sem]
 have hr:=L9 m t ab h h2 h3 h4 hb;rw [hb] at hq;simp -dsimp -implicitDefEqProofs only [go_sem];refine aa hq ?_;simp -dsimp -implicitDefEqProofs only [go_sem];refine aa hr ?_;cases dV m t ab<;>simp -dsimp -implicitDefEqProofs only [go_sem];all_goals ((with_reducible and_intros);all_goals try first|omega|(refine ⟨?_,?_⟩<;>omega)|exact rfl)
theorem Fw (m:aK) (t ab:lL) (h:t.length<=1048576) (h2:∀x∈t,x.length<=1048576) (h3:ab.length<=1048576) (h4:∀x∈ab,x.length<=1048576):Fn pG 192 [jM m t,aR ab] true (· =eB (bk m t ab)):=by
 refine Fn.au 16 [.tmp 4] func192 (hv:= ?_);have hq:=s0 m t ab h h2 h3 h4;have hf0:=uR m t ab;rcases hb:(eO m t&&dV m t ab) with _|_
 . have hc:(bS m t ab==0)=false:=by
    unfold bS;cases h1:eO m t<;>cases h2:dV m t ab<;>simp_all
   unfold bk;rw [hb];generalize bS m t ab=c at*;simp -dsimp -implicitDefEqProofs only [go_sem];refine aa hq ?_;simp -dsimp -implicitDefEqProofs only [go_sem,hc]
 obtain ⟨h5,h6⟩:=Bool.and_eq_true_iff.1 hb;have hn:=iT h5;obtain ⟨h7,h8⟩:=dH h6;have hr:=qF m t ab (lG h5) (by omega) (by omega) (by omega) (fun i hi=>hn.2.2.2.2 i hi) (by omega) (fun x hx=>(gq (h8 x hx)).1);have hc:bS m t ab=0:=by rw [bS,h5,h6];rfl
 rw [hc] at hq;unfold bk;rw [hb];generalize gN m t ab=F at*;simp -dsimp -implicitDefEqProofs only [go_sem];refine aa hq ?_;simp -dsimp -implicitDefEqProofs only [go_sem];refine av (hr) (by simp [ax,an,aq,aG]) ?_;simp -dsimp -implicitDefEqProofs only [go_sem,hf0]
theorem pE (m:aK) (t ab:lL) (h:t.length<=1048576) (h2:∀x∈t,x.length<=1048576) (h3:ab.length<=1048576) (h4:∀x∈ab,x.length<=1048576):Fn pG 141 [jM m t,aR ab] true (· =eI (if bk m t ab then 0 else 1)):=by refine Fn.au 9 [.tmp 4] func141 (hv:= ?_);have hq:=Fw m t ab h h2 h3 h4;simp -dsimp -implicitDefEqProofs only [go_sem];refine aa hq ?_;cases bk m t ab<;>simp -dsimp -implicitDefEqProofs only [go_sem];all_goals ((with_reducible and_intros);all_goals try first|omega|(refine ⟨?_,?_⟩<;>omega)|exact rfl)
theorem qH (m:aK) (t ab:lL) (h:t.length<=1048576) (h2:∀x∈t,x.length<=1048576) (h3:ab.length<=1048576) (h4:∀x∈ab,x.length<=1048576):Fn pG 161 [jM m t,aR ab] true (· =eI (bS m t ab)):=by
 refine Fn.au 21 [.tmp 4] func161 (hv:= ?_);have hq:=uM m t h h2;unfold bS;rcases hb:eO m t with _|_
 . rw [hb] at hq;simp -dsimp -implicitDefEqProofs only [go_sem];refine aa hq ?_;simp -dsimp -implicitDefEqProofs only [go_sem]
 have hr:=sY m ab (lG hb) h3 h4;rw [hb] at hq;have hlen:((ab.length:Int) != (t.length:Int))= !(ab.length==t.length):=by rw [Bool.eq_iff_iff];simp only [bne_iff_ne,Bool.not_eq_true',beq_eq_false_iff_ne];omega
 unfold dV;rcases hl:(ab.length==t.length) with _|_
 . simp -dsimp -implicitDefEqProofs only [go_sem];refine aa hq ?_;simp -dsimp -implicitDefEqProofs only [go_sem,hlen,hl,Bool.not_false]
 simp -dsimp -implicitDefEqProofs only [go_sem];refine aa hq ?_;simp -dsimp -implicitDefEqProofs only [go_sem,hlen,hl,Bool.not_true];refine aa hr ?_;cases ab.all (fB m)<;>simp -dsimp -implicitDefEqProofs only [go_sem]
theorem Fx (m:aK) (t ab:lL) (h:t.length<=1048576) (h2:∀x∈t,x.length<=1048576) (h3:ab.length<=1048576) (h4:∀x∈ab,x.length<=1048576):Fn pG 220 [jM m t,aR ab] true (· =eB (bk m t ab)):=by
 refine Fn.au 16 [.tmp 4] func220 (hv:= ?_);have hq:=qH m t ab h h2 h3 h4;have hf0:=uR m t ab;rcases hb:(eO m t&&dV m t ab) with _|_
 . have hc:(bS m t ab==0)=false:=by
    unfold bS;cases h1:eO m t<;>cases h2:dV m t ab<;>simp_all
   unfold bk;rw [hb];generalize bS m t ab=c at*;simp -dsimp -implicitDefEqProofs only [go_sem];refine aa hq ?_;simp -dsimp -implicitDefEqProofs only [go_sem,hc]
 obtain ⟨h5,h6⟩:=Bool.and_eq_true_iff.1 hb;have hn:=iT h5;obtain ⟨h7,h8⟩:=dH h6;have hr:=nu m t ab (lG h5) (by omega) (by omega) (by omega) (fun i hi=>hn.2.2.2.2 i hi) (by omega) (fun x hx=>gq (h8 x hx));have hc:bS m t ab=0:=by rw [bS,h5,h6];rfl
 rw [hc] at hq;unfold bk;rw [hb];generalize gN m t ab=F at*;simp -dsimp -implicitDefEqProofs only [go_sem];refine aa hq ?_;simp -dsimp -implicitDefEqProofs only [go_sem];refine av (hr) (by simp [ax,an,aq,aG]) ?_;simp -dsimp -implicitDefEqProofs only [go_sem,hf0]
theorem kf (m:aK) (t ab:lL) (h:t.length<=1048576) (h2:∀x∈t,x.length<=1048576) (h3:ab.length<=1048576) (h4:∀x∈ab,x.length<=1048576):Fn pG 168 [jM m t,aR ab] true (· =eI (if bk m t ab then 0 else 1)):=by refine Fn.au 9 [.tmp 4] func168 (hv:= ?_);have hq:=Fx m t ab h h2 h3 h4;simp -dsimp -implicitDefEqProofs only [go_sem];refine aa hq ?_;cases bk m t ab<;>simp -dsimp -implicitDefEqProofs only [go_sem];all_goals ((with_reducible and_intros);all_goals try first|omega|(refine ⟨?_,?_⟩<;>omega)|exact rfl)
def kS (set:lI):Nat->lI
 |0=>[set.getD 0 0]
 |i+1=>kS set i++[set.getD (i+1) 0-set.getD i 0]
theorem qI (set:lI):kS set 0=[set.getD 0 0]:=rfl
theorem nA (set:lI) (i:Nat):kS set (i+1)=kS set i++[set.getD (i+1) 0-set.getD i 0]:=rfl
theorem kx (set:lI):∀i,(kS set i).length=i+1
 |0=>rfl
 |i+1=>by rw [nA,uq7,kx set i];rfl
def uS (m:aK) (set:lI):lI:=kS set (set.length-1)++[m.ao-1-set.getD (set.length-1) 0]
theorem SN {m:aK} {set:lI} (h:0<set.length):(uS m set).length=set.length+1:=by rw [uS,uq7,kx];simp;omega
theorem fL {xs:lI} {n:Int} (h:lE xs n=true) {i:Nat} (hi:i<xs.length):0<=xs.getD i 0/\xs.getD i 0<n/\(0<i->xs.getD (i-1) 0<xs.getD i 0):=by unfold lE at h;rw [uq1] at h;have:=h i (dB.2 hi);simp only [eK,uq0,Bool.or_eq_true,decide_eq_true_eq,beq_iff_eq] at this;exact ⟨this.1.1,this.1.2,fun h0=>this.2.resolve_left (by omega)⟩
theorem Fy {m:aK} {set:lI} (h:lE set m.ao=true):∀i,i<set.length->∀x∈kS set i,0<=x/\x<m.ao
 |0,hi,x,hx=>by
  have:=fL h hi;simp only [qI,dt] at hx;subst hx;omega
 |i+1,hi,x,hx=>by
  rw [nA] at hx;rcases uq9.1 hx with hx|hx
  . exact Fy h i (by omega) x hx
  simp only [dt] at hx;subst hx;have h1:=fL h hi;have h2:=fL h (show i<set.length by omega);have:=h1.2.2 (by omega);simp only [Nat.add_sub_cancel] at this;omega
theorem Ij {m:aK} {set:lI} (h:cN m set=true):0<set.length/\∀x∈uS m set,0<=x/\x<m.ao:=by
 simp only [cN,uq0,decide_eq_true_eq] at h;have h0:0<set.length:=by omega
 refine ⟨h0,fun x hx=> ?_⟩;rcases uq9.1 hx with hx|hx
 . exact Fy h.2 _ (by omega) x hx
 simp only [dt] at hx;have:=fL h.2 (show set.length-1<set.length by omega);subst hx;omega
structure Zv where
 b:lI
 w:lI
 d:lI
def pins (m:aK) (l:lL):lL:=l.map (uS m)
theorem Ik (m:aK) (set:lI) (hm:aY m=true) (hs:cN m set=true) (h:set.length<=1048576):Fn pG 197 [la m,aQ set] true (· =aQ (uS m set)):=by
 refine Fn.au 43 [.tmp 4] func197 (hv:= ?_);have ⟨⟨n1,n2⟩,n3,n4⟩:=aM hm;obtain ⟨h0,hin⟩:=Ij hs;have hr:lE set m.ao=true:=by simp only [cN,uq0] at hs;exact hs.2
 have g0:=get_some h0;have hg0:set.getD 0 0=set[0]:=by simp [uq4,h0]
 simp -dsimp -implicitDefEqProofs only [go_sem,g0];refine ⟨by omega,?_⟩;refine aj.up [1,2] [13,28,29] [10] (set.length-1) (fun _=>True) (fun j=>[(6,eI (1+(j:Int))),(5,.ref 10 0 0 (kS set j).length)]) (fun j=>[(10,.row 0 ⟨1,false⟩ true ((kS set j).map eI))]) trivial ?_ rfl (fun j hj _=> ?_) (fun _=> ?_)
 . simp -dsimp -implicitDefEqProofs only [go_sem,qI,hg0];(all_goals try (exact rfl))
 . have hlen:=kx set j;have h1:j<set.length:=by omega
   have h2:j+1<set.length:=by omega
   have a1:=fL hr h1;have a2:=fL hr h2;have e1:set.getD j 0=set[j]:=by simp [uq4,h1]
   have e2:set.getD (j+1) 0=set[j+1]:=by simp [uq4,h2]
   have g1:set[(1+(j:Int)-1).toNat]? =some set[j]:=by rw [show (1+(j:Int)-1).toNat=j by omega];exact get_some h1
   have g2:set[(1+(j:Int)).toNat]? =some set[j+1]:=by rw [show (1+(j:Int)).toNat=j+1 by omega];exact get_some h2
   have hlt:decide (1+(j:Int)<(set.length:Int))=true:=dT (by omega);rw [nA,e1,e2];rw [e1] at a1;rw [e2] at a2;generalize kS set j=F at*;generalize set[j]=x at*;generalize set[j+1]=y at*;have htk:=aZ eI F F.length (bO _);simp -dsimp -implicitDefEqProofs only [pz,bd,aP,aW,↓reduceIte,aO];simp -dsimp -implicitDefEqProofs only [go_sem,hlt];refine aj.draw mixed rfl ?_;simp -dsimp -implicitDefEqProofs only [go_sem,g1,g2,htk];((with_reducible and_intros);all_goals try first|omega|(refine ⟨?_,?_⟩<;>omega)|exact rfl);all_goals first|(simp;done)|skip
 have hlen:=kx set (set.length-1);have h1:set.length-1<set.length:=by omega
 have a1:=fL hr h1;have e1:set.getD (set.length-1) 0=set[set.length-1]:=by simp [uq4,h1]
 have g1:set[((set.length:Int)-1).toNat]? =some set[set.length-1]:=by rw [show ((set.length:Int)-1).toNat=set.length-1 by omega];exact get_some h1
 have hlt:decide (1+((set.length-1:Nat):Int)<(set.length:Int))=false:=dF (by omega);unfold uS;rw [e1];rw [e1] at a1;generalize kS set (set.length-1)=F at*;generalize set[set.length-1]=x at*;have htk:=aZ eI F F.length (bO _);have QF:∀z,bf (F.length+1) (uq8 eI F++[eI z])=uq8 eI F++[eI z]:=fun z=>c7 (by simp);simp -dsimp -implicitDefEqProofs only [pz,bd,aP,aW,↓reduceIte,aO];simp -dsimp -implicitDefEqProofs only [go_sem,hlt];refine aj.draw mixed rfl ?_;simp -dsimp -implicitDefEqProofs only [go_sem,g1,htk,QF];((with_reducible and_intros);all_goals try first|omega|(refine ⟨?_,?_⟩<;>omega)|exact rfl);all_goals first|(simp;done)|skip
theorem Ma (m:aK) (set:lI) (hm:aY m=true) (hs:cN m set=true) (h:set.length<=1048576):Fn pG 216 [la m,aQ set] true (· =aQ (uS m set)):=by
 refine Fn.au 43 [.tmp 4] func216 (hv:= ?_);have ⟨⟨n1,n2⟩,n3,n4⟩:=aM hm;obtain ⟨h0,hin⟩:=Ij hs;have hr:lE set m.ao=true:=by simp only [cN,uq0] at hs;exact hs.2
 have g0:=get_some h0;have hg0:set.getD 0 0=set[0]:=by simp [uq4,h0]
 simp -dsimp -implicitDefEqProofs only [go_sem,g0];refine ⟨by omega,?_⟩;refine aj.up [1,2] [13,28,29] [10] (set.length-1) (fun _=>True) (fun j=>[(6,eI (1+(j:Int))),(5,.ref 10 0 0 (kS set j).length)]) (fun j=>[(10,.row 0 ⟨1,false⟩ true ((kS set j).map eI))]) trivial ?_ rfl (fun j hj _=> ?_) (fun _=> ?_)
 . simp -dsimp -implicitDefEqProofs only [go_sem,qI,hg0];(all_goals try (exact rfl))
 . have hlen:=kx set j;have h1:j<set.length:=by omega
   have h2:j+1<set.length:=by omega
   have a1:=fL hr h1;have a2:=fL hr h2;have e1:set.getD j 0=set[j]:=by simp [uq4,h1]
   have e2:set.getD (j+1) 0=set[j+1]:=by simp [uq4,h2]
   have g1:set[(1+(j:Int)-1).toNat]? =some set[j]:=by rw [show (1+(j:Int)-1).toNat=j by omega];exact get_some h1
   have g2:set[(1+(j:Int)).toNat]? =some set[j+1]:=by rw [show (1+(j:Int)).toNat=j+1 by omega];exact get_some h2
   have hlt:decide (1+(j:Int)<(set.length:Int))=true:=dT (by omega);rw [nA,e1,e2];rw [e1] at a1;rw [e2] at a2;generalize kS set j=F at*;generalize set[j]=x at*;generalize set[j+1]=y at*;have htk:=aZ eI F F.length (bO _);simp -dsimp -implicitDefEqProofs only [pz,bd,aP,aW,↓reduceIte,aO];simp -dsimp -implicitDefEqProofs only [go_sem,hlt];refine aj.draw mixed rfl ?_;simp -dsimp -implicitDefEqProofs only [go_sem,g1,g2,htk];((with_reducible and_intros);all_goals try first|omega|(refine ⟨?_,?_⟩<;>omega)|exact rfl);all_goals first|(simp;done)|skip
 have hlen:=kx set (set.length-1);have h1:set.length-1<set.length:=by omega
 have a1:=fL hr h1;have e1:set.getD (set.length-1) 0=set[set.length-1]:=by simp [uq4,h1]
 have g1:set[((set.length:Int)-1).toNat]? =some set[set.length-1]:=by rw [show ((set.length:Int)-1).toNat=set.length-1 by omega];exact get_some h1
 have hlt:decide (1+((set.length-1:Nat):Int)<(set.length:Int))=false:=dF (by omega);unfold uS;rw [e1];rw [e1] at a1;generalize kS set (set.length-1)=F at*;generalize set[set.length-1]=x at*;have htk:=aZ eI F F.length (bO _);have QF:∀z,bf (F.length+1) (uq8 eI F++[eI z])=uq8 eI F++[eI z]:=fun z=>c7 (by simp);simp -dsimp -implicitDefEqProofs only [pz,bd,aP,aW,↓reduceIte,aO];simp -dsimp -implicitDefEqProofs only [go_sem,hlt];refine aj.draw mixed rfl ?_;simp -dsimp -implicitDefEqProofs only [go_sem,g1,htk,QF];((with_reducible and_intros);all_goals try first|omega|(refine ⟨?_,?_⟩<;>omega)|exact rfl);all_goals first|(simp;done)|skip
theorem Mb (m:aK) (l:lL) (hm:aY m=true) (hl:fq m l=true) (h2:∀x∈l,x.length<=1048576):Fn pG 148 [la m,r8 l] false (· =aR (pins m l)):=by
 have ⟨⟨n1,n2⟩,n3,n4⟩:=aM hm;simp only [fq,uq0,uq1,beq_iff_eq] at hl;obtain ⟨hl1,hl2⟩:=hl;refine Fn.cf 26 [.tmp 4] func148 (hv:= ?_);simp -dsimp -implicitDefEqProofs only [go_sem];refine aj.up [2,3] [11,22,23,24] [7] l.length (fun _=>True) (fun i=>[(6,eI i),(5,.ref 7 0 0 i)]) (fun i=>[(7,.row 0 ⟨1,false⟩ (i==0) (((l.take i).map (uS m)).map aQ))]) trivial ?_ rfl (fun i hi _=> ?_) (fun _=> ?_)
 . simp -dsimp -implicitDefEqProofs only [go_sem,cq,List.map_nil]
 . have gi:=get_some hi;have li:=aE hi;have hq:=Ik m l[i] hm (hl2 _ (uq6 hi)) (h2 _ (uq6 hi));have ht:(l.take (i+1)).map (uS m)=(l.take i).map (uS m)++[uS m l[i]]:=by rw [iH hi,List.map_append];rfl
   have hln:((l.take i).map (uS m)).length=i:=by simp;omega
   rw [ht];generalize (l.take i).map (uS m)=F at*;generalize uS m l[i]=s at*;generalize l[i]=x at*;have htk:=aZ aQ F i (by omega);have e0:(i+1==0)=false:=rfl;have e2:uq8 aQ (F++[s])=uq8 aQ F++[aQ s]:=by simp
   simp -dsimp -implicitDefEqProofs only [pz,bd,aP,aW,↓reduceIte,aO];simp -dsimp -implicitDefEqProofs only [go_sem,li];refine aj.draw mixed rfl ?_;simp -dsimp -implicitDefEqProofs only [go_sem,gi];((with_reducible and_intros);all_goals try (omega));refine ak hq ?_;simp -dsimp -implicitDefEqProofs only [go_sem];refine .inr ⟨by omega,by omega,(by cases i with|zero=>exact .inr rfl|succ i=>exact .inl rfl),by exact rfl,⟨by omega,by omega⟩,rfl,?_⟩;rw [e0,e2];simp -dsimp -implicitDefEqProofs only [go_sem,htk]
 rw [cj];unfold pins;have hln:(l.map (uS m)).length=l.length:=by simp
 generalize l.map (uS m)=F at*;have htk:=aZ aQ F l.length (by omega);simp -dsimp -implicitDefEqProofs only [pz,bd,aP,aW,↓reduceIte,aO];simp -dsimp -implicitDefEqProofs only [go_sem,aA];((with_reducible and_intros);all_goals try (omega));all_goals rw [htk]
theorem PB (m:aK) (l:lL) (hm:aY m=true) (hl:fq m l=true) (h2:∀x∈l,x.length<=1048576):Fn pG 164 [la m,r8 l] false (· =aR (pins m l)):=by
 have ⟨⟨n1,n2⟩,n3,n4⟩:=aM hm;simp only [fq,uq0,uq1,beq_iff_eq] at hl;obtain ⟨hl1,hl2⟩:=hl;refine Fn.cf 24 [.tmp 4] func164 (hv:= ?_);simp -dsimp -implicitDefEqProofs only [go_sem];refine aj.up [2,10,11] [19,20,21] [8] l.length (fun _=>True) (fun i=>[(12,eI i),(5,.ref 8 0 0 i)]) (fun i=>[(8,.row 0 ⟨1,false⟩ (i==0) (((l.take i).map (uS m)).map aQ))]) trivial ?_ rfl (fun i hi _=> ?_) (fun _=> ?_)
 . simp -dsimp -implicitDefEqProofs only [go_sem,cq,List.map_nil]
 . have gi:=get_some hi;have li:=aE hi;have hq:=Ma m l[i] hm (hl2 _ (uq6 hi)) (h2 _ (uq6 hi));have ht:(l.take (i+1)).map (uS m)=(l.take i).map (uS m)++[uS m l[i]]:=by rw [iH hi,List.map_append];rfl
   have hln:((l.take i).map (uS m)).length=i:=by simp;omega
   rw [ht];generalize (l.take i).map (uS m)=F at*;generalize uS m l[i]=s at*;generalize l[i]=x at*;have htk:=aZ aQ F i (by omega);have e0:(i+1==0)=false:=rfl;have e2:uq8 aQ (F++[s])=uq8 aQ F++[aQ s]:=by simp
   simp -dsimp -implicitDefEqProofs only [pz,bd,aP,aW,↓reduceIte,aO];simp -dsimp -implicitDefEqProofs only [go_sem,li,gi];((with_reducible and_intros);all_goals try (omega));refine aa hq ?_;simp -dsimp -implicitDefEqProofs only [go_sem];refine .inr ⟨by omega,by omega,(by cases i with|zero=>exact .inr rfl|succ i=>exact .inl rfl),⟨by omega,by omega⟩,rfl,?_⟩;rw [e0,e2];simp -dsimp -implicitDefEqProofs only [go_sem,htk]
 rw [cj];unfold pins;have hln:(l.map (uS m)).length=l.length:=by simp
 generalize l.map (uS m)=F at*;have htk:=aZ aQ F l.length (by omega);simp -dsimp -implicitDefEqProofs only [pz,bd,aP,aW,↓reduceIte,aO];simp -dsimp -implicitDefEqProofs only [go_sem,aA];((with_reducible and_intros);all_goals try (omega));all_goals rw [htk]
def bx (m:aK):lL:=a7 m m.af.toNat []
theorem PC (m:aK):lF m m.af.toNat []=(bx m).length:=by rw [lF,if_pos (show fe m []=true from rfl)];rfl
structure qc (m:aK) (k:lI):Prop where
 len:(k.length:Int)=m.af
 ok:fe m k=true
 kinds:¬(bo k k.length:Int)<m.least
 el:∀x∈k,0<=x/\x<m.ao
theorem uT {m:aK}:∀(n:Nat) (c k:lI),fe m c=true->(∀x∈c,0<=x/\x<m.ao)->k∈a7 m n c->k.length=c.length+n/\fe m k=true/\¬(bo k k.length:Int)<m.least/\∀x∈k,0<=x/\x<m.ao
 |0,c,k,h1,h2,h=>by
  simp only [a7] at h;split at h
  . cases h
  rename_i hk;rw [dt] at h;subst h;exact ⟨rfl,h1,hk,h2⟩
 |n+1,c,k,h1,h2,h=>by
  simp only [a7,List.mem_flatMap,dB] at h;obtain ⟨d,hd,h⟩:=h;split at h
  . rename_i hc
    obtain ⟨g1,g2⟩:=uT n (c++[(d:Int)]) k (by rw [jo,h1,Bool.true_and];exact hc) (fun x hx=>by
     rcases uq9.1 hx with h|h
     . exact h2 x h
     simp at h;omega) h
    exact ⟨by rw [g1];simp;omega,g2⟩
  cases h
theorem kg {m:aK} (hm:0<=m.af) {k:lI} (h:k∈bx m):qc m k:=by obtain ⟨h1,h2,h3,h4⟩:=uT m.af.toNat [] k rfl (fun x hx=>by cases hx) h;exact ⟨by rw [h1];simp;omega,h2,h3,h4⟩
theorem qc.PD {m:aK} {k:lI} (h:fault m k=0):qc m k:=by obtain ⟨h1,h2,h3,h4⟩:=pD h;exact ⟨h1,h3,h4,h2⟩
theorem qc.fault {m:aK} {k:lI} (h:qc m k):fault m k=0:=by
 obtain ⟨h1,h2,h3,h4⟩:=h;unfold Go.Vc.fault;rw [if_neg (by omega)];have e2:(k.all fun x=>bB x 0 (m.ao-1))=true:=by rw [uq1];intro x hx;have:=h4 x hx;simp [bB];omega
 unfold fe at h2;rw [uq1] at h2;have e3:((bu k.length).all fun i=>cy m k i)=true:=by rw [uq1];intro i hi;have:=h2 i hi;simp only [uq0] at this;exact this.2
 have e4:((bu k.length).all fun i=>decide ((a6 k i:Int)<=m.same))=true:=by rw [uq1];intro i hi;have:=h2 i hi;simp only [uq0] at this;exact this.1
 simp [e2,e3,e4,h3]
theorem oS {m:aK}:∀(n:Nat) (c:lI),(a7 m n c).Nodup
 |0,c=>by
  simp only [a7];split
  . exact List.nodup_nil
  simp
 |n+1,c=>by
  show (jY m n c m.ao.toNat).Nodup;have key:∀D,(jY m n c D).Nodup:=by
   intro D;induction D with
   |zero=>exact List.nodup_nil
   |succ D ih=>
    rw [jR,List.nodup_append];refine ⟨ih,?_,fun a ha b hb=> ?_⟩
    . split
      . exact oS n _
      exact List.nodup_nil
    rintro rfl;obtain ⟨d,hd,g⟩:=qG ha;split at hb
    . have g2:=(nw m n _ a hb).1;have e:(c++[(D:Int)]).length=c.length+1:=by simp
      rw [e,g] at g2;have:=List.append_cancel_left g2;injection this with this _
      omega
    cases hb
  exact key _
def Fz (m:aK) (c:lI) (i:Nat):Bool:=decide ((a6 c i:Int)<=m.same)&&cy m c i
theorem lH (m:aK) (c:lI) (hm:aY m=true) (h:c.length<=6) (hel:∀x∈c,0<=x/\x<=7):Fn pG 127 [la m,aQ c] true (· =eB (fe m c)):=by
 refine Fn.au 53 [.tmp 4] func127 (hv:= ?_);have hF:fe m c=(bu c.length).all (Fz m c):=rfl;simp -dsimp -implicitDefEqProofs only [go_sem];refine aj.up [1,2] [9,47] [] c.length (fun i=>(bu i).all (Fz m c)=true) (fun i=>[(6,eI i),(5,eI (dx c i))]) (fun _=>[]) (by simp) ?_ rfl (fun i hi hI=> ?_) (fun hI=> ?_)
 . rw [show dx c 0=0 from rfl];simp -dsimp -implicitDefEqProofs only [go_sem]
 . have no:Fz m c i=false->fe m c=false:=fun h=>by rw [hF];exact bX hi h
   have yes:Fz m c i=true->(bu (i+1)).all (Fz m c)=true:=fun h=>by rw [bm,hI,h];rfl
   have hrb:dx c i<=i/\dx c (i+1)<=i+1:=by
    refine ⟨?_,(ij c i).2.1⟩;rw [dx];split
    . omega
    have:=(ij c (i-1)).2.1;omega
   have e1:=hel c[i] (uq6 hi);have gi:=get_some hi;have li:=aE hi;have hok:Fz m c i=(decide (((dx c (i+1):Nat):Int)<=m.same)&&cy m c i):=rfl;clear hF hI;by_cases hi0:0<i
   rotate_left
   . have g3:decide ((i:Int)>0)=false:=by simp;omega
     have hR:dx c i=0/\dx c (i+1)=1:=by
      have e0:i=0:=by omega
      subst e0;exact ⟨rfl,by show a6 c 0=1;unfold a6;rfl⟩
     have hs:Fz m c i=true:=by
      have e0:i=0:=by omega
      have:=mH hm;rw [hok,hR.2];subst e0;have:decide (((1:Nat):Int)<=m.same)=true:=dT (by omega);rw [this];rfl
     have iY:decide ((1:Int)>m.same)=false:=dF (by have:=mH hm;omega);rw [hR.1,hR.2];clear hR hrb no;have yes:=yes hs;simp -dsimp -implicitDefEqProofs only [pz,bd,aP,aW,↓reduceIte,aO];simp -dsimp -implicitDefEqProofs only [go_sem,li]
     repeat' first
      |(refine Br.intro (fun _=> ?_) (fun _=> ?_)<;>try simp -dsimp -implicitDefEqProofs only [go_sem, *])
      |(with_reducible refine ai ?_ ?_)
      |(refine aj.draw mixed rfl ?_;try simp -dsimp -implicitDefEqProofs only [go_sem,g3])
     all_goals (first|(refine ⟨?_,?_⟩<;>omega)|(simp;done)|rfl|(simp_all;done)|(simp_all;omega)|skip)
   have hi':i-1<c.length:=by omega
   have e2:=hel c[i-1] (uq6 hi');have g2:c[((i:Int)-1).toNat]? =some c[i-1]:=by rw [pred_toNat hi0];exact get_some hi'
   have g3:decide ((i:Int)>0)=true:=by simp;omega
   have hs:cy m c i= !decide (e8 (c[i]-c[i-1])>m.step):=by
    rw [cy,show (i==0)=false by simp;omega];have q1:c.getD i 0=c[i]:=by simp [uq4,hi]
    have q2:c.getD (i-1) 0=c[i-1]:=by simp [uq4,hi']
    rw [q1,q2,Bool.false_or];by_cases hq:e8 (c[i]-c[i-1])<=m.step
    . rw [decide_eq_true hq,decide_eq_false (by omega)];rfl
    rw [decide_eq_false hq,decide_eq_true (by omega)];rfl
   have hR:((dx c (i+1):Nat):Int)=if (c[i]==c[i-1])=true then (dx c i:Int)+1 else 0+1:=by
    obtain ⟨j,rfl⟩:∃j,i=j+1:=⟨i-1,by omega⟩;rw [show dx c (j+1+1)=a6 c (j+1) from rfl,show dx c (j+1)=a6 c j from rfl,a6];simp only [Nat.add_sub_cancel];have q1:c.getD (j+1) 0=c[j+1]:=by simp [uq4,hi]
    have q2:c.getD j 0=c[j]:=by simp [uq4,show j<c.length by omega]
    rw [q1,q2];by_cases hq:c[j+1]=c[j]
    . rw [if_pos hq,if_pos (by simpa using hq)];simp
    rw [if_neg hq,if_neg (by simpa using hq)];simp
   have qQ:Fz m c i=(!decide (((dx c (i+1):Nat):Int)>m.same)&& !decide (e8 (c[i]-c[i-1])>m.step)):=by
    rw [hok,hs];congr 1;by_cases hq:((dx c (i+1):Nat):Int)<=m.same
    . rw [decide_eq_true hq,decide_eq_false (by omega)];rfl
    rw [decide_eq_false hq,decide_eq_true (by omega)];rfl
   clear hok hs;rw [qQ] at no yes;clear qQ;have pQ:=Fu (c[i]-c[i-1]) (by omega);rcases hq1:(c[i]==c[i-1]) with _|_
   all_goals
    rw [hq1] at hR;simp only [if_true,Bool.false_eq_true,if_false] at hR;have hne:(c[i] != c[i-1])= !(c[i]==c[i-1]):=rfl;rw [hq1] at hne;rw [hR] at no yes;rcases hq2:decide (e8 (c[i]-c[i-1])>m.step) with _|_
   all_goals
    first
     |(rcases hq3:decide ((dx c i:Int)+1>m.same) with _|_)
     |skip
   all_goals
    generalize dx c i=R at*;generalize dx c (i+1)=R' at*;simp -dsimp -implicitDefEqProofs only [pz,bd,aP,aW,↓reduceIte,aO];try rw [hR]
    simp -dsimp -implicitDefEqProofs only [go_sem,li]
    repeat' first
     |(refine Br.intro (fun _=> ?_) (fun _=> ?_)<;>try simp -dsimp -implicitDefEqProofs only [go_sem, *])
     |(with_reducible refine ai ?_ ?_)
     |(refine aj.draw mixed rfl ?_;try simp -dsimp -implicitDefEqProofs only [go_sem,gi,g2,g3])
     |(refine ak (pQ) ?_;try simp -dsimp -implicitDefEqProofs only [go_sem, *])
    all_goals first
     |(rw [no (by simp_all)];done)
     |(rw [←cF];exact yes (by simp_all))
     |(first|omega|(refine ⟨?_,?_⟩<;>omega)|(simp;done)|rfl|(simp_all;done)|skip)
 rw [←hF] at hI;rw [hI];simp -dsimp -implicitDefEqProofs only [pz,bd,aP,aW,↓reduceIte,aO];simp -dsimp -implicitDefEqProofs only [go_sem,aA]
theorem FA (xs ys:lI) (h:xs.length<=9223372036854775807):Fn pG 227 [aQ xs,aQ ys] true (· =eB (decide (xs=ys))):=by
 refine Fn.au 26 [.tmp 4] func227 (hv:= ?_);simp -dsimp -implicitDefEqProofs only [go_sem];repeat' (refine Br.intro (fun _=> ?_) (fun _=> ?_)<;>try simp -dsimp -implicitDefEqProofs only [go_sem, *])
 . rw [decide_eq_false];intro e;subst e;simp_all
 have h1:xs.length=ys.length:=by simp_all<;>omega
 refine aj.up [0,1,12] [] [] xs.length (fun i=>xs.take i=ys.take i) (fun i=>[(13,eI i)]) (fun _=>[]) rfl ?_ rfl (fun i hi hI=> ?_) (fun hI=> ?_)
 . simp -dsimp -implicitDefEqProofs only [go_sem]
 . simp -dsimp -implicitDefEqProofs only [pz,↓reduceIte,aO];have hy:i<ys.length:=by omega
   have no:xs[i]≠ys[i]->decide (xs=ys)=false:=T0 hi hy;have yes:xs[i]=ys[i]->xs.take (i+1)=ys.take (i+1):=Pl hi hy hI;simp -dsimp -implicitDefEqProofs only [go_sem,aE hi];refine aj.draw mixed rfl ?_;simp -dsimp -implicitDefEqProofs only [go_sem,get_some hi,get_some hy]
   repeat' first
    |(refine Br.intro (fun _=> ?_) (fun _=> ?_)<;>try simp -dsimp -implicitDefEqProofs only [go_sem, *])
    |(with_reducible refine ai ?_ ?_)
    |fail
   all_goals first
    |omega
    |(refine ⟨?_,?_⟩<;>omega)
    |rfl
    |(rw [no];clear no yes;simp_all;done)
    |(refine yes ?_;clear no yes;simp_all;done)
 simp -dsimp -implicitDefEqProofs only [pz,↓reduceIte,aO];simp -dsimp -implicitDefEqProofs only [go_sem,aA];have h3:xs=ys:=by rw [←cj (l:=xs),hI,h1,cj]
 simp [h3]
theorem WW (c:lI) (ae:Nat) (ys:lA) (s:Int) (hc:c.length<=6) (hy:ys.take c.length=c.map eI) (hs:0<=s/\s<=1000000):
 fK pG 228 [(1700000010,.row ae ⟨1,false⟩ true ys),(1500000005,.box 0 [eI s])] [.ref 1700000010 ae 0 c.length,.ptr 1500000005 0 0 0]
  (fun r m'=>r=eB (fF s c).2/\m'=[(1700000010,.row ae ⟨1,false⟩ true ys),(1500000005,.box 0 [eI (fF s c).1])]):=by
 refine fK.dK 6 [.tmp 3] func228 (hv:= ?_);simp -dsimp -implicitDefEqProofs only [go_sem];refine ⟨⟨by omega,by omega⟩,_,⟨rfl,rfl⟩,aL ?_ ?_⟩
 . simp -dsimp -implicitDefEqProofs only [go_sem,fF]
 simp -dsimp -implicitDefEqProofs only [go_sem];simp
theorem WX (m:aK) (hm:aY m=true):∀(n:Nat) (c:lI) (t:KS Int),(c.length:Int)+n=m.af->(∀x∈c,0<=x/\x<=7)->Ds c t->(0<=t.s/\t.s+8^n<=1000000)→
 fK pG 262 [(1700000008,.box 0 [.ref 1700000010 t.ae 0 c.length]),(1700000010,.row t.ae ⟨1,false⟩ true (t.zs.map eI)),(1700000004,.box 0 [eI m.af,eI m.ao,eI m.step,eI m.same,eI m.least]),(1700000007,.box 0 [.cm 228 [.ptr 1500000005 0 0 0]]),(1700000005,.box 0 [.val (.slice none 0 0)]),(1700000006,.box 0 [.val .nilFunc]),(1700000009,.box 0 [.cm 262 [.ptr 1700000008 0 0 0,.ptr 1700000004 0 0 0,.ptr 1700000007 0 0 0,.ptr 1700000005 0 0 0,.ptr 1700000006 0 0 0,.ptr 1700000009 0 0 0]]),(1500000005,.box 0 [eI t.s])] [eB false,.ptr 1700000008 0 0 0,.ptr 1700000004 0 0 0,.ptr 1700000007 0 0 0,.ptr 1700000005 0 0 0,.ptr 1700000006 0 0 0,.ptr 1700000009 0 0 0]
  (fun r m'=>r=eB (bp m fF n c t).2/\m'=[(1700000008,.box 0 [.ref 1700000010 (bp m fF n c t).1.ae 0 c.length]),(1700000010,.row (bp m fF n c t).1.ae ⟨1,false⟩ true ((bp m fF n c t).1.zs.map eI)),(1700000004,.box 0 [eI m.af,eI m.ao,eI m.step,eI m.same,eI m.least]),(1700000007,.box 0 [.cm 228 [.ptr 1500000005 0 0 0]]),(1700000005,.box 0 [.val (.slice none 0 0)]),(1700000006,.box 0 [.val .nilFunc]),(1700000009,.box 0 [.cm 262 [.ptr 1700000008 0 0 0,.ptr 1700000004 0 0 0,.ptr 1700000007 0 0 0,.ptr 1700000005 0 0 0,.ptr 1700000006 0 0 0,.ptr 1700000009 0 0 0]]),(1500000005,.box 0 [eI (bp m fF n c t).1.s])]):=by
 intro n;have ⟨⟨zy,zz⟩,hd1,hd2⟩:=aM hm;induction n with
 |zero=>
  intro c t hl hc hz hs;have hk:((c.length:Int)==m.af)=true:=beq_iff_eq.2 (by omega);have ht:bf c.length (uq8 eI t.zs)=uq8 eI c:=by rw [←List.map_take,hz.1]
  have hzl:c.length<=(uq8 eI t.zs).length:=by simpa using hz.2
  refine fK.dK 91 [.tmp 8] func262 (hv:= ?_);simp -dsimp -implicitDefEqProofs only [go_sem,hk];refine aj.k9 8 mixed rfl ?_;simp -dsimp -implicitDefEqProofs only [eP,cq,uq2,uq3];have sv:=iA c (by omega);rcases hq:decide ((bo c c.length:Int)<m.least) with _|_
  . have hq':=of_decide_eq_false hq;have eQ:bp m fF 0 c t=(⟨t.ae,t.zs,(fF t.s c).1⟩,(fF t.s c).2):=by rw [bp,if_neg hq']
    rw [eQ];simp -dsimp -implicitDefEqProofs only [go_sem,ht,uq3];refine ⟨hz.2,?_⟩;(refine ak (sv) ?_;try simp -dsimp -implicitDefEqProofs only [go_sem, *]);refine ⟨by exact rfl,hz.2,?_⟩;refine cW (WW c t.ae (t.zs.map eI) t.s (by omega) ht (by omega)) ⟨⟨?_,?_⟩,?_,?_⟩ ?_
    . simp -dsimp -implicitDefEqProofs only [go_sem]
    . simp -dsimp -implicitDefEqProofs only [go_sem];simp
    . simp -dsimp -implicitDefEqProofs only [go_sem]
    . simp -dsimp -implicitDefEqProofs only [go_sem];simp
    rintro r m' ⟨hr,hm'⟩;rw [hr,hm'];simp -dsimp -implicitDefEqProofs only [go_sem];refine ⟨_,rfl,aL ?_ ?_⟩
    . simp -dsimp -implicitDefEqProofs only [go_sem]
    simp -dsimp -implicitDefEqProofs only [go_sem];simp [an,aq,ck]
  have hq':=oT hq;have eQ:bp m fF 0 c t=(t,true):=by rw [bp,if_pos hq']
  rw [eQ];simp -dsimp -implicitDefEqProofs only [go_sem,ht,uq3];refine ⟨hz.2,?_⟩;(refine ak (sv) ?_;try simp -dsimp -implicitDefEqProofs only [go_sem, *]);refine ⟨by exact rfl,_,rfl,aL ?_ ?_⟩
  . simp -dsimp -implicitDefEqProofs only [go_sem]
  simp -dsimp -implicitDefEqProofs only [go_sem];simp [an,aq,ck]
 |succ n ih=>
  intro c t hl hc hz hs;have hk:((c.length:Int)==m.af)=false:=beq_eq_false_iff_ne.2 (by omega);refine fK.dK 91 [.tmp 8] func262 (hv:= ?_);simp -dsimp -implicitDefEqProofs only [go_sem,hk];refine aj.up [0,1,2,5,6,9,10] [47,61,69,70,72,84] [1700000008,1700000010,1500000005] m.ao.toNat (fun i=>(eC (aT m fF n c) t i).2=true) (fun i=>[(11,eI i)]) (fun i=>[(1700000008,.box 0 [.ref 1700000010 (eC (aT m fF n c) t i).1.ae 0 c.length]),(1700000010,.row (eC (aT m fF n c) t i).1.ae ⟨1,false⟩ true ((eC (aT m fF n c) t i).1.zs.map eI)),(1500000005,.box 0 [eI (eC (aT m fF n c) t i).1.s])]) rfl ?_ rfl (fun i hi hI=> ?_) (fun hI=> ?_)
  . simp -dsimp -implicitDefEqProofs only [go_sem];simp [eC]
  . have hu:Ds c (eC (aT m fF n c) t i).1:=pC hz i;have hb:=vI hm (yf hm (f:=fF) (fun s k=>⟨(by show s<=s+1;omega),Int.le_refl _⟩) n) t i (c:=c);have hp:(0:Int)<8^n:=Int.pow_pos (by decide);have h8:(i:Int)*8^n<=7*8^n:=Int.mul_le_mul_of_nonneg_right (by omega) (by omega);have h9:(8:Int)^(n+1)=8*8^n:=by rw [Int.pow_succ,Int.mul_comm]
    have hlt:decide ((i:Int)<m.ao)=true:=dT (by omega);have hS:=iU hI;have cA:(aT m fF n c i (eC (aT m fF n c) t i).1).2=false->bp m fF (n+1) c t=aT m fF n c i (eC (aT m fF n c) t i).1:=fun h=>by rw [←hS] at h ⊢;rw [dP,oR h m.ao.toNat (by omega)]
    rw [hS];clear hS hI;generalize (eC (aT m fF n c) t i).1=u at*;obtain ⟨hu1,hu2⟩:=hu;have htk:bf c.length (uq8 eI u.zs)=uq8 eI c:=by rw [←List.map_take,hu1]
    have ki:0<=u.s/\u.s+8^n<=1000000:=by omega
    have hcl:c.length<=6:=by omega
    have hih:=ih (c++[(i:Int)]) ⟨u.ae+1,c++[(i:Int)],u.s⟩ (by simp;omega) (fun x hx=>by
     rcases uq9.1 hx with h|h
     . exact hc x h
     simp at h;omega) ⟨cj,bO _⟩ ki
    simp only [uq7,List.length_cons,List.length_nil,Nat.zero_add] at hih;have cJ:=ku (c++[(i:Int)]) (by simp) (by simp;omega);simp only [uq7,List.length_cons,List.length_nil,Nat.zero_add,Nat.add_sub_cancel] at cJ;have n6:uq8 eI c++[eI (i:Int)]=uq8 eI (c++[(i:Int)]):=by simp
    have lT:bJ m c i=(c.isEmpty|| !decide (e8 ((i:Int)-c.getD (c.length-1) 0)>m.step)):=by
     unfold bJ;congr 1;by_cases h:e8 ((i:Int)-c.getD (c.length-1) 0)<=m.step
     . rw [decide_eq_true h,decide_eq_false (by omega)];rfl
     rw [decide_eq_false h,decide_eq_true (by omega)];rfl
    have dI:fY m c i= !decide ((a6 (c++[(i:Int)]) c.length:Int)>m.same):=by
     unfold fY;by_cases h:(a6 (c++[(i:Int)]) c.length:Int)<=m.same
     . rw [decide_eq_true h,decide_eq_false (by omega)];rfl
     rw [decide_eq_false h,decide_eq_true (by omega)];rfl
    simp -dsimp -implicitDefEqProofs only [pz,bd,aP,aW,↓reduceIte,aO];simp -dsimp -implicitDefEqProofs only [go_sem,hlt];refine aj.draw mixed rfl ?_;have hfn:qY pG 216 .neq=some false:=rfl;rcases hk0:decide ((c.length:Int)>0) with _|_
    . have hce:c=[]:=by
       have:=of_decide_eq_false hk0;exact List.eq_nil_of_length_eq_zero (by omega)
      have hsT:bJ m c i=true:=by rw [hce];rfl
      clear hce;simp -dsimp -implicitDefEqProofs only [go_sem,hfn,hk0];refine ⟨by exact rfl,hu2,by omega,?_⟩;refine aj.k9 13 mixed rfl ?_;simp -dsimp -implicitDefEqProofs only [eP,cq,uq2,uq3];have htl:bf (c.length+1) (uq8 eI (c++[(i:Int)]))=uq8 eI (c++[(i:Int)]):=c7 (by simp);rcases hq2:decide ((a6 (c++[(i:Int)]) c.length:Int)>m.same) with _|_
      . have hcB:aT m fF n c i u=bp m fF n (c++[(i:Int)]) ⟨u.ae+1,c++[(i:Int)],u.s⟩:=by rw [aT,if_pos hsT,if_pos (by rw [dI,hq2];rfl),hu1]
        rw [hcB] at cA ⊢;clear hcB;generalize bp m fF n (c++[(i:Int)]) ⟨u.ae+1,c++[(i:Int)],u.s⟩=w at*;obtain ⟨w,b⟩:=w;simp -dsimp -implicitDefEqProofs only [go_sem,htk,n6,htl];(refine ak (cJ) ?_;try simp -dsimp -implicitDefEqProofs only [go_sem, *]);refine ⟨by exact rfl,?_⟩;refine cW hih ⟨⟨?_,?_⟩,?_,?_⟩ ?_
        . simp -dsimp -implicitDefEqProofs only [go_sem]
        . simp -dsimp -implicitDefEqProofs only [go_sem];simp [an,aq,ck]
        . simp -dsimp -implicitDefEqProofs only [go_sem]
        . simp -dsimp -implicitDefEqProofs only [go_sem];simp
        rintro r m' ⟨hr,hm'⟩;rw [hr,hm'];clear hr hm';cases b with
        |false=>
         rw [cA rfl];simp -dsimp -implicitDefEqProofs only [go_sem];refine ⟨by omega,_,rfl,aL ?_ ?_⟩
         . simp -dsimp -implicitDefEqProofs only [go_sem]
         simp -dsimp -implicitDefEqProofs only [go_sem];simp [an,aq,ck]
        |true=>
         simp -dsimp -implicitDefEqProofs only [go_sem];exact ⟨by omega,⟨by omega,by omega⟩,by simp⟩
      have hcB:aT m fF n c i u=(⟨u.ae+1,c++[(i:Int)],u.s⟩,true):=by rw [aT,if_pos hsT,if_neg (by rw [dI,hq2];exact fun h=>by cases h),hu1]
      rw [hcB];clear hcB cA;simp -dsimp -implicitDefEqProofs only [go_sem,htk,n6,htl];(refine ak (cJ) ?_;try simp -dsimp -implicitDefEqProofs only [go_sem, *]);exact ⟨by exact rfl,by omega,⟨by omega,by omega⟩,by simp⟩
    have hkp:=oT hk0;have hla:c.getD (c.length-1) 0=c[c.length-1]:=by simp [uq4,show c.length-1<c.length by omega]
    have j7:(uq8 eI u.zs)[c.length-1]? =some (eI (c.getD (c.length-1) 0)):=by
     have h1:(bf c.length (uq8 eI u.zs))[c.length-1]? =(uq8 eI u.zs)[c.length-1]? :=by rw [List.getElem?_take];simp;omega
     rw [←h1,htk,hla];simp [show c.length-1<c.length by omega]
    have hlb:=hc _ (uq6 (show c.length-1<c.length by omega));rw [←hla] at hlb;generalize c.getD (c.length-1) 0=z at*;clear hla;have e1:((c.length:Int)-1).toNat=c.length-1:=by omega
    have pQ:=jl ((i:Int)-z) (by omega);rcases hq:decide (e8 ((i:Int)-z)>m.step) with _|_
    . have hsT:bJ m c i=true:=by rw [lT,hq];simp
      simp -dsimp -implicitDefEqProofs only [go_sem,hfn,hk0,e1,j7];refine ⟨⟨by omega,by omega⟩,⟨by omega,by omega⟩,⟨by omega,by omega⟩,?_⟩;(refine ak (pQ) ?_;try simp -dsimp -implicitDefEqProofs only [go_sem, *]);refine ⟨by exact rfl,by omega,?_⟩;refine aj.k9 13 mixed rfl ?_;simp -dsimp -implicitDefEqProofs only [eP,cq,uq2,uq3];have htl:bf (c.length+1) (uq8 eI (c++[(i:Int)]))=uq8 eI (c++[(i:Int)]):=c7 (by simp);rcases hq2:decide ((a6 (c++[(i:Int)]) c.length:Int)>m.same) with _|_
      . have hcB:aT m fF n c i u=bp m fF n (c++[(i:Int)]) ⟨u.ae+1,c++[(i:Int)],u.s⟩:=by rw [aT,if_pos hsT,if_pos (by rw [dI,hq2];rfl),hu1]
        rw [hcB] at cA ⊢;clear hcB;generalize bp m fF n (c++[(i:Int)]) ⟨u.ae+1,c++[(i:Int)],u.s⟩=w at*;obtain ⟨w,b⟩:=w;simp -dsimp -implicitDefEqProofs only [go_sem,htl];(refine ak (cJ) ?_;try simp -dsimp -implicitDefEqProofs only [go_sem, *]);refine ⟨by exact rfl,?_⟩;refine cW hih ⟨⟨?_,?_⟩,?_,?_⟩ ?_
        . simp -dsimp -implicitDefEqProofs only [go_sem]
        . simp -dsimp -implicitDefEqProofs only [go_sem];simp [an,aq,ck]
        . simp -dsimp -implicitDefEqProofs only [go_sem]
        . simp -dsimp -implicitDefEqProofs only [go_sem];simp
        rintro r m' ⟨hr,hm'⟩;rw [hr,hm'];clear hr hm';cases b with
        |false=>
         rw [cA rfl];simp -dsimp -implicitDefEqProofs only [go_sem];refine ⟨by omega,_,rfl,aL ?_ ?_⟩
         . simp -dsimp -implicitDefEqProofs only [go_sem]
         simp -dsimp -implicitDefEqProofs only [go_sem];simp [an,aq,ck]
        |true=>
         simp -dsimp -implicitDefEqProofs only [go_sem];exact ⟨by omega,⟨by omega,by omega⟩,by simp⟩
      have hcB:aT m fF n c i u=(⟨u.ae+1,c++[(i:Int)],u.s⟩,true):=by rw [aT,if_pos hsT,if_neg (by rw [dI,hq2];exact fun h=>by cases h),hu1]
      rw [hcB];clear hcB cA;simp -dsimp -implicitDefEqProofs only [go_sem,htl];(refine ak (cJ) ?_;try simp -dsimp -implicitDefEqProofs only [go_sem, *]);exact ⟨by exact rfl,by omega,⟨by omega,by omega⟩,by simp⟩
    have hsF:bJ m c i=false:=by
     rw [lT,hq];cases c with
     |nil=>simp at hkp
     |cons=>rfl
    have hcB:aT m fF n c i u=(u,true):=by rw [aT,if_neg (by rw [hsF];exact fun h=>by cases h)]
    rw [hcB];clear hcB cA;simp -dsimp -implicitDefEqProofs only [go_sem,hfn,hk0,e1,j7];refine ⟨⟨by omega,by omega⟩,⟨by omega,by omega⟩,⟨by omega,by omega⟩,?_⟩;(refine ak (pQ) ?_;try simp -dsimp -implicitDefEqProofs only [go_sem, *]);exact ⟨by exact rfl,⟨by omega,by omega⟩,by simp⟩
  simp -dsimp -implicitDefEqProofs only [pz,bd,aP,aW,↓reduceIte,aO];have hlt:decide (((m.ao.toNat:Nat):Int)<m.ao)=false:=dF (by omega);simp -dsimp -implicitDefEqProofs only [go_sem,hlt];rw [dP];refine ⟨_,⟨by rw [hI],rfl⟩,aL ?_ ?_⟩
  . simp -dsimp -implicitDefEqProofs only [go_sem]
  simp -dsimp -implicitDefEqProofs only [go_sem];simp [an,aq,ck]
theorem WY (key:lI) (V3:key.length<=1048576) (c:lI) (ae:Nat) (ys:lA) (s:Int) (hc:c.length<=6) (hy:ys.take c.length=c.map eI) (hs:0<=s/\s<=1000000):
 fK pG 226 [(1700000010,.row ae ⟨1,false⟩ true ys),(1500000003,.box 0 [aQ key]),(1500000007,.box 0 [eI s])] [.ref 1700000010 ae 0 c.length,.ptr 1500000003 0 0 0,.ptr 1500000007 0 0 0]
  (fun r m'=>r=eB ((cr key) s c).2/\m'=[(1700000010,.row ae ⟨1,false⟩ true ys),(1500000003,.box 0 [aQ key]),(1500000007,.box 0 [eI ((cr key) s c).1])]):=by
 refine fK.dK 10 [.tmp 4] func226 (hv:= ?_);have heq:=FA c key (by omega);have hyl:c.length<=ys.length:=by have:=congrArg List.length hy;simp at this;omega
 by_cases hk:c=key
 . rw [decide_eq_true hk] at heq;have hr:cr key s c=(s,false):=if_pos hk;rw [hr];clear hr hk;simp -dsimp -implicitDefEqProofs only [go_sem,hy]
   repeat' first
    |(with_reducible refine ai ?_ ?_)
    |(refine aa (heq) ?_;try simp -dsimp -implicitDefEqProofs only [go_sem, *])
   all_goals first
    |exact hyl
    |(refine ⟨_,rfl,aL ?_ ?_⟩
      . simp -dsimp -implicitDefEqProofs only [go_sem]
      simp -dsimp -implicitDefEqProofs only [go_sem]
      simp)
    |skip
 rw [decide_eq_false hk] at heq;have hr:cr key s c=(s+1,true):=if_neg hk;rw [hr];clear hr hk;simp -dsimp -implicitDefEqProofs only [go_sem,hy]
 repeat' first
  |(with_reducible refine ai ?_ ?_)
  |(refine aa (heq) ?_;try simp -dsimp -implicitDefEqProofs only [go_sem, *])
 all_goals first
  |exact hyl
  |exact ⟨by omega,by omega⟩
  |(refine ⟨_,rfl,aL ?_ ?_⟩
    . simp -dsimp -implicitDefEqProofs only [go_sem]
    simp -dsimp -implicitDefEqProofs only [go_sem]
    simp)
  |skip
theorem WZ (key:lI) (V3:key.length<=1048576) (m:aK) (hm:aY m=true):∀(n:Nat) (c:lI) (t:KS Int),(c.length:Int)+n=m.af->(∀x∈c,0<=x/\x<=7)->Ds c t->(0<=t.s/\t.s+8^n<=1000000)→
 fK pG 262 [(1700000008,.box 0 [.ref 1700000010 t.ae 0 c.length]),(1700000010,.row t.ae ⟨1,false⟩ true (t.zs.map eI)),(1700000004,.box 0 [eI m.af,eI m.ao,eI m.step,eI m.same,eI m.least]),(1700000007,.box 0 [.cm 226 [.ptr 1500000003 0 0 0,.ptr 1500000007 0 0 0]]),(1700000005,.box 0 [.val (.slice none 0 0)]),(1700000006,.box 0 [.val .nilFunc]),(1700000009,.box 0 [.cm 262 [.ptr 1700000008 0 0 0,.ptr 1700000004 0 0 0,.ptr 1700000007 0 0 0,.ptr 1700000005 0 0 0,.ptr 1700000006 0 0 0,.ptr 1700000009 0 0 0]]),(1500000003,.box 0 [aQ key]),(1500000007,.box 0 [eI t.s])] [eB false,.ptr 1700000008 0 0 0,.ptr 1700000004 0 0 0,.ptr 1700000007 0 0 0,.ptr 1700000005 0 0 0,.ptr 1700000006 0 0 0,.ptr 1700000009 0 0 0]
  (fun r m'=>r=eB (bp m (cr key) n c t).2/\m'=[(1700000008,.box 0 [.ref 1700000010 (bp m (cr key) n c t).1.ae 0 c.length]),(1700000010,.row (bp m (cr key) n c t).1.ae ⟨1,false⟩ true ((bp m (cr key) n c t).1.zs.map eI)),(1700000004,.box 0 [eI m.af,eI m.ao,eI m.step,eI m.same,eI m.least]),(1700000007,.box 0 [.cm 226 [.ptr 1500000003 0 0 0,.ptr 1500000007 0 0 0]]),(1700000005,.box 0 [.val (.slice none 0 0)]),(1700000006,.box 0 [.val .nilFunc]),(1700000009,.box 0 [.cm 262 [.ptr 1700000008 0 0 0,.ptr 1700000004 0 0 0,.ptr 1700000007 0 0 0,.ptr 1700000005 0 0 0,.ptr 1700000006 0 0 0,.ptr 1700000009 0 0 0]]),(1500000003,.box 0 [aQ key]),(1500000007,.box 0 [eI (bp m (cr key) n c t).1.s])]):=by
 intro n;have ⟨⟨zy,zz⟩,hd1,hd2⟩:=aM hm;induction n with
 |zero=>
  intro c t hl hc hz hs;have hk:((c.length:Int)==m.af)=true:=beq_iff_eq.2 (by omega);have ht:bf c.length (uq8 eI t.zs)=uq8 eI c:=by rw [←List.map_take,hz.1]
  have hzl:c.length<=(uq8 eI t.zs).length:=by simpa using hz.2
  refine fK.dK 91 [.tmp 8] func262 (hv:= ?_);simp -dsimp -implicitDefEqProofs only [go_sem,hk];refine aj.k9 8 mixed rfl ?_;simp -dsimp -implicitDefEqProofs only [eP,cq,uq2,uq3];have sv:=iA c (by omega);rcases hq:decide ((bo c c.length:Int)<m.least) with _|_
  . have hq':=of_decide_eq_false hq;have eQ:bp m (cr key) 0 c t=(⟨t.ae,t.zs,((cr key) t.s c).1⟩,((cr key) t.s c).2):=by rw [bp,if_neg hq']
    rw [eQ];simp -dsimp -implicitDefEqProofs only [go_sem,ht,uq3];refine ⟨hz.2,?_⟩;(refine ak (sv) ?_;try simp -dsimp -implicitDefEqProofs only [go_sem, *]);refine ⟨by exact rfl,hz.2,?_⟩;refine cW (WY key V3 c t.ae (t.zs.map eI) t.s (by omega) ht (by omega)) ⟨⟨?_,?_⟩,?_,?_⟩ ?_
    . simp -dsimp -implicitDefEqProofs only [go_sem]
    . simp -dsimp -implicitDefEqProofs only [go_sem];simp
    . simp -dsimp -implicitDefEqProofs only [go_sem]
    . simp -dsimp -implicitDefEqProofs only [go_sem];simp
    rintro r m' ⟨hr,hm'⟩;rw [hr,hm'];simp -dsimp -implicitDefEqProofs only [go_sem];refine ⟨_,rfl,aL ?_ ?_⟩
    . simp -dsimp -implicitDefEqProofs only [go_sem]
    simp -dsimp -implicitDefEqProofs only [go_sem];simp [an,aq,ck]
  have hq':=oT hq;have eQ:bp m (cr key) 0 c t=(t,true):=by rw [bp,if_pos hq']
  rw [eQ];simp -dsimp -implicitDefEqProofs only [go_sem,ht,uq3];refine ⟨hz.2,?_⟩;(refine ak (sv) ?_;try simp -dsimp -implicitDefEqProofs only [go_sem, *]);refine ⟨by exact rfl,_,rfl,aL ?_ ?_⟩
  . simp -dsimp -implicitDefEqProofs only [go_sem]
  simp -dsimp -implicitDefEqProofs only [go_sem];simp [an,aq,ck]
 |succ n ih=>
  intro c t hl hc hz hs;have hk:((c.length:Int)==m.af)=false:=beq_eq_false_iff_ne.2 (by omega);refine fK.dK 91 [.tmp 8] func262 (hv:= ?_);simp -dsimp -implicitDefEqProofs only [go_sem,hk];refine aj.up [0,1,2,5,6,9,10] [47,61,69,70,72,84] [1700000008,1700000010,1500000007] m.ao.toNat (fun i=>(eC (aT m (cr key) n c) t i).2=true) (fun i=>[(11,eI i)]) (fun i=>[(1700000008,.box 0 [.ref 1700000010 (eC (aT m (cr key) n c) t i).1.ae 0 c.length]),(1700000010,.row (eC (aT m (cr key) n c) t i).1.ae ⟨1,false⟩ true ((eC (aT m (cr key) n c) t i).1.zs.map eI)),(1500000007,.box 0 [eI (eC (aT m (cr key) n c) t i).1.s])]) rfl ?_ rfl (fun i hi hI=> ?_) (fun hI=> ?_)
  . simp -dsimp -implicitDefEqProofs only [go_sem];simp [eC]
  . have hu:Ds c (eC (aT m (cr key) n c) t i).1:=pC hz i;have hb:=vI hm (yf hm (f:=(cr key)) (fun s k=>by unfold cr;split;exact ⟨Int.le_refl _,(by show s<=s+1;omega)⟩;exact ⟨(by show s<=s+1;omega),Int.le_refl _⟩) n) t i (c:=c);have hp:(0:Int)<8^n:=Int.pow_pos (by decide);have h8:(i:Int)*8^n<=7*8^n:=Int.mul_le_mul_of_nonneg_right (by omega) (by omega);have h9:(8:Int)^(n+1)=8*8^n:=by rw [Int.pow_succ,Int.mul_comm]
    have hlt:decide ((i:Int)<m.ao)=true:=dT (by omega);have hS:=iU hI;have cA:(aT m (cr key) n c i (eC (aT m (cr key) n c) t i).1).2=false->bp m (cr key) (n+1) c t=aT m (cr key) n c i (eC (aT m (cr key) n c) t i).1:=fun h=>by rw [←hS] at h ⊢;rw [dP,oR h m.ao.toNat (by omega)]
    rw [hS];clear hS hI;generalize (eC (aT m (cr key) n c) t i).1=u at*;obtain ⟨hu1,hu2⟩:=hu;have htk:bf c.length (uq8 eI u.zs)=uq8 eI c:=by rw [←List.map_take,hu1]
    have ki:0<=u.s/\u.s+8^n<=1000000:=by omega
    have hcl:c.length<=6:=by omega
    have hih:=ih (c++[(i:Int)]) ⟨u.ae+1,c++[(i:Int)],u.s⟩ (by simp;omega) (fun x hx=>by
     rcases uq9.1 hx with h|h
     . exact hc x h
     simp at h;omega) ⟨cj,bO _⟩ ki
    simp only [uq7,List.length_cons,List.length_nil,Nat.zero_add] at hih;have cJ:=ku (c++[(i:Int)]) (by simp) (by simp;omega);simp only [uq7,List.length_cons,List.length_nil,Nat.zero_add,Nat.add_sub_cancel] at cJ;have n6:uq8 eI c++[eI (i:Int)]=uq8 eI (c++[(i:Int)]):=by simp
    have lT:bJ m c i=(c.isEmpty|| !decide (e8 ((i:Int)-c.getD (c.length-1) 0)>m.step)):=by
     unfold bJ;congr 1;by_cases h:e8 ((i:Int)-c.getD (c.length-1) 0)<=m.step
     . rw [decide_eq_true h,decide_eq_false (by omega)];rfl
     rw [decide_eq_false h,decide_eq_true (by omega)];rfl
    have dI:fY m c i= !decide ((a6 (c++[(i:Int)]) c.length:Int)>m.same):=by
     unfold fY;by_cases h:(a6 (c++[(i:Int)]) c.length:Int)<=m.same
     . rw [decide_eq_true h,decide_eq_false (by omega)];rfl
     rw [decide_eq_false h,decide_eq_true (by omega)];rfl
    simp -dsimp -implicitDefEqProofs only [pz,bd,aP,aW,↓reduceIte,aO];simp -dsimp -implicitDefEqProofs only [go_sem,hlt];refine aj.draw mixed rfl ?_;have hfn:qY pG 216 .neq=some false:=rfl;rcases hk0:decide ((c.length:Int)>0) with _|_
    . have hce:c=[]:=by
       have:=of_decide_eq_false hk0;exact List.eq_nil_of_length_eq_zero (by omega)
      have hsT:bJ m c i=true:=by rw [hce];rfl
      clear hce;simp -dsimp -implicitDefEqProofs only [go_sem,hfn,hk0];refine ⟨by exact rfl,hu2,by omega,?_⟩;refine aj.k9 13 mixed rfl ?_;simp -dsimp -implicitDefEqProofs only [eP,cq,uq2,uq3];have htl:bf (c.length+1) (uq8 eI (c++[(i:Int)]))=uq8 eI (c++[(i:Int)]):=c7 (by simp);rcases hq2:decide ((a6 (c++[(i:Int)]) c.length:Int)>m.same) with _|_
      . have hcB:aT m (cr key) n c i u=bp m (cr key) n (c++[(i:Int)]) ⟨u.ae+1,c++[(i:Int)],u.s⟩:=by rw [aT,if_pos hsT,if_pos (by rw [dI,hq2];rfl),hu1]
        rw [hcB] at cA ⊢;clear hcB;generalize bp m (cr key) n (c++[(i:Int)]) ⟨u.ae+1,c++[(i:Int)],u.s⟩=w at*;obtain ⟨w,b⟩:=w;simp -dsimp -implicitDefEqProofs only [go_sem,htk,n6,htl];(refine ak (cJ) ?_;try simp -dsimp -implicitDefEqProofs only [go_sem, *]);refine ⟨by exact rfl,?_⟩;refine cW hih ⟨⟨?_,?_⟩,?_,?_⟩ ?_
        . simp -dsimp -implicitDefEqProofs only [go_sem]
        . simp -dsimp -implicitDefEqProofs only [go_sem];simp [an,aq,ck]
        . simp -dsimp -implicitDefEqProofs only [go_sem]
        . simp -dsimp -implicitDefEqProofs only [go_sem];simp
        rintro r m' ⟨hr,hm'⟩;rw [hr,hm'];clear hr hm';cases b with
        |false=>
         rw [cA rfl];simp -dsimp -implicitDefEqProofs only [go_sem];refine ⟨by omega,_,rfl,aL ?_ ?_⟩
         . simp -dsimp -implicitDefEqProofs only [go_sem]
         simp -dsimp -implicitDefEqProofs only [go_sem];simp [an,aq,ck]
        |true=>
         simp -dsimp -implicitDefEqProofs only [go_sem];exact ⟨by omega,⟨by omega,by omega⟩,by simp⟩
      have hcB:aT m (cr key) n c i u=(⟨u.ae+1,c++[(i:Int)],u.s⟩,true):=by rw [aT,if_pos hsT,if_neg (by rw [dI,hq2];exact fun h=>by cases h),hu1]
      rw [hcB];clear hcB cA;simp -dsimp -implicitDefEqProofs only [go_sem,htk,n6,htl];(refine ak (cJ) ?_;try simp -dsimp -implicitDefEqProofs only [go_sem, *]);exact ⟨by exact rfl,by omega,⟨by omega,by omega⟩,by simp⟩
    have hkp:=oT hk0;have hla:c.getD (c.length-1) 0=c[c.length-1]:=by simp [uq4,show c.length-1<c.length by omega]
    have j7:(uq8 eI u.zs)[c.length-1]? =some (eI (c.getD (c.length-1) 0)):=by
     have h1:(bf c.length (uq8 eI u.zs))[c.length-1]? =(uq8 eI u.zs)[c.length-1]? :=by rw [List.getElem?_take];simp;omega
     rw [←h1,htk,hla];simp [show c.length-1<c.length by omega]
    have hlb:=hc _ (uq6 (show c.length-1<c.length by omega));rw [←hla] at hlb;generalize c.getD (c.length-1) 0=z at*;clear hla;have e1:((c.length:Int)-1).toNat=c.length-1:=by omega
    have pQ:=jl ((i:Int)-z) (by omega);rcases hq:decide (e8 ((i:Int)-z)>m.step) with _|_
    . have hsT:bJ m c i=true:=by rw [lT,hq];simp
      simp -dsimp -implicitDefEqProofs only [go_sem,hfn,hk0,e1,j7];refine ⟨⟨by omega,by omega⟩,⟨by omega,by omega⟩,⟨by omega,by omega⟩,?_⟩;(refine ak (pQ) ?_;try simp -dsimp -implicitDefEqProofs only [go_sem, *]);refine ⟨by exact rfl,by omega,?_⟩;refine aj.k9 13 mixed rfl ?_;simp -dsimp -implicitDefEqProofs only [eP,cq,uq2,uq3];have htl:bf (c.length+1) (uq8 eI (c++[(i:Int)]))=uq8 eI (c++[(i:Int)]):=c7 (by simp);rcases hq2:decide ((a6 (c++[(i:Int)]) c.length:Int)>m.same) with _|_
      . have hcB:aT m (cr key) n c i u=bp m (cr key) n (c++[(i:Int)]) ⟨u.ae+1,c++[(i:Int)],u.s⟩:=by rw [aT,if_pos hsT,if_pos (by rw [dI,hq2];rfl),hu1]
        rw [hcB] at cA ⊢;clear hcB;generalize bp m (cr key) n (c++[(i:Int)]) ⟨u.ae+1,c++[(i:Int)],u.s⟩=w at*;obtain ⟨w,b⟩:=w;simp -dsimp -implicitDefEqProofs only [go_sem,htl];(refine ak (cJ) ?_;try simp -dsimp -implicitDefEqProofs only [go_sem, *]);refine ⟨by exact rfl,?_⟩;refine cW hih ⟨⟨?_,?_⟩,?_,?_⟩ ?_
        . simp -dsimp -implicitDefEqProofs only [go_sem]
        . simp -dsimp -implicitDefEqProofs only [go_sem];simp [an,aq,ck]
        . simp -dsimp -implicitDefEqProofs only [go_sem]
        . simp -dsimp -implicitDefEqProofs only [go_sem];simp
        rintro r m' ⟨hr,hm'⟩;rw [hr,hm'];clear hr hm';cases b with
        |false=>
         rw [cA rfl];simp -dsimp -implicitDefEqProofs only [go_sem];refine ⟨by omega,_,rfl,aL ?_ ?_⟩
         . simp -dsimp -implicitDefEqProofs only [go_sem]
         simp -dsimp -implicitDefEqProofs only [go_sem];simp [an,aq,ck]
        |true=>
         simp -dsimp -implicitDefEqProofs only [go_sem];exact ⟨by omega,⟨by omega,by omega⟩,by simp⟩
      have hcB:aT m (cr key) n c i u=(⟨u.ae+1,c++[(i:Int)],u.s⟩,true):=by rw [aT,if_pos hsT,if_neg (by rw [dI,hq2];exact fun h=>by cases h),hu1]
      rw [hcB];clear hcB cA;simp -dsimp -implicitDefEqProofs only [go_sem,htl];(refine ak (cJ) ?_;try simp -dsimp -implicitDefEqProofs only [go_sem, *]);exact ⟨by exact rfl,by omega,⟨by omega,by omega⟩,by simp⟩
    have hsF:bJ m c i=false:=by
     rw [lT,hq];cases c with
     |nil=>simp at hkp
     |cons=>rfl
    have hcB:aT m (cr key) n c i u=(u,true):=by rw [aT,if_neg (by rw [hsF];exact fun h=>by cases h)]
    rw [hcB];clear hcB cA;simp -dsimp -implicitDefEqProofs only [go_sem,hfn,hk0,e1,j7];refine ⟨⟨by omega,by omega⟩,⟨by omega,by omega⟩,⟨by omega,by omega⟩,?_⟩;(refine ak (pQ) ?_;try simp -dsimp -implicitDefEqProofs only [go_sem, *]);exact ⟨by exact rfl,⟨by omega,by omega⟩,by simp⟩
  simp -dsimp -implicitDefEqProofs only [pz,bd,aP,aW,↓reduceIte,aO];have hlt:decide (((m.ao.toNat:Nat):Int)<m.ao)=false:=dF (by omega);simp -dsimp -implicitDefEqProofs only [go_sem,hlt];rw [dP];refine ⟨_,⟨by rw [hI],rfl⟩,aL ?_ ?_⟩
  . simp -dsimp -implicitDefEqProofs only [go_sem]
  simp -dsimp -implicitDefEqProofs only [go_sem];simp [an,aq,ck]
theorem yk (m:aK) (hm:aY m=true):∀(n:Nat) (c:lI),(c.length:Int)+n=m.af->(∀x∈c,0<=x/\x<=7)->Fn pG 143 [la m,aQ c] true (· =eI (lF m n c)):=by
 intro n;have ⟨⟨zy,zz⟩,hd1,hd2⟩:=aM hm;induction n with
 |zero=>
  intro c hl hc;refine Fn.au 37 [.tmp 4] func143 (hv:= ?_);have hbe:=lH m c hm (by omega) hc;have hk:((c.length:Int)==m.af)=true:=beq_iff_eq.2 (by omega);rcases hb:fe m c with _|_
  . have jr:lF m 0 c=0:=by rw [lF,if_neg (by rw [hb];exact fun h=>by cases h)]
    rw [hb] at hbe;rw [jr];simp -dsimp -implicitDefEqProofs only [go_sem];(refine aa (hbe) ?_;try simp -dsimp -implicitDefEqProofs only [go_sem, *])
  have jr:=Pz m c hb;rw [hb] at hbe;rw [jr];have hki:=qC c (by omega);rcases hq:decide ((bo c c.length:Int)<m.least) with _|_
  . rw [if_neg (of_decide_eq_false hq)];clear jr hb;simp -dsimp -implicitDefEqProofs only [go_sem];(refine aa (hbe) ?_;try simp -dsimp -implicitDefEqProofs only [go_sem, *]);refine aj.draw mixed rfl ?_;simp -dsimp -implicitDefEqProofs only [go_sem];(refine ak (hki) ?_;try simp -dsimp -implicitDefEqProofs only [go_sem, *]);(exact ⟨by exact rfl,rfl⟩)
  rw [if_pos (oT hq)];clear jr hb;simp -dsimp -implicitDefEqProofs only [go_sem];(refine aa (hbe) ?_;try simp -dsimp -implicitDefEqProofs only [go_sem, *]);refine aj.draw mixed rfl ?_;simp -dsimp -implicitDefEqProofs only [go_sem];(refine ak (hki) ?_;try simp -dsimp -implicitDefEqProofs only [go_sem, *]);exact rfl
 |succ n ih=>
  intro c hl hc;refine Fn.au 37 [.tmp 4] func143 (hv:= ?_);have hbe:=lH m c hm (by omega) hc;have hk:((c.length:Int)==m.af)=false:=beq_eq_false_iff_ne.2 (by omega);rcases hb:fe m c with _|_
  . have jr:lF m (n+1) c=0:=by rw [lF,if_neg (by rw [hb];exact fun h=>by cases h)]
    rw [hb] at hbe;rw [jr];simp -dsimp -implicitDefEqProofs only [go_sem];(refine aa (hbe) ?_;try simp -dsimp -implicitDefEqProofs only [go_sem, *])
  have jr:=PA m n c hb;rw [hb] at hbe;rw [jr];clear jr hb;have bc:=r7 c (by omega);simp -dsimp -implicitDefEqProofs only [go_sem];(refine aa (hbe) ?_;try simp -dsimp -implicitDefEqProofs only [go_sem, *]);refine aj.up [1,2] [30,32,33,34] [] m.ao.toNat (fun _=>True) (fun i=>[(6,eI i),(5,eI (jQ m n c i))]) (fun _=>[]) trivial ?_ rfl (fun i hi _=> ?_) (fun _=> ?_)
  . simp -dsimp -implicitDefEqProofs only [go_sem];try simp [jQ]
  . have hih:=ih (c++[(i:Int)]) (by simp;omega) (fun x hx=>by
     rcases uq9.1 hx with h|h
     . exact hc x h
     simp at h;omega)
    have hlt:decide ((i:Int)<m.ao)=true:=dT (by omega);have n6:uq8 eI c++[eI (i:Int)]=uq8 eI (c++[(i:Int)]):=by simp
    have htk:bf c.length (uq8 eI c)=uq8 eI c:=c7 (by simp);have htl:bf (c.length+1) (uq8 eI (c++[(i:Int)]))=uq8 eI (c++[(i:Int)]):=c7 (by simp);have hb1:=yi m hm n c i;have hb2:=CS m hm n (c++[(i:Int)]);have hp:8^n<=8^6:=c8 (by decide) (by omega);have h8:i*8^n<=7*8^n:=Nat.mul_le_mul_right _ (by omega);rw [ny];clear ih;generalize 8^n=p at*;generalize jQ m n c i=A at*;generalize lF m n (c++[(i:Int)])=Bn at*;simp -dsimp -implicitDefEqProofs only [pz,bd,aP,aW,↓reduceIte,aO];simp -dsimp -implicitDefEqProofs only [go_sem,hlt];refine aj.draw mixed rfl ?_;simp -dsimp -implicitDefEqProofs only [go_sem];(refine ak (bc) ?_;try simp -dsimp -implicitDefEqProofs only [go_sem, *]);refine ⟨by omega,?_⟩;(refine ak (hih) ?_;try simp -dsimp -implicitDefEqProofs only [go_sem, *]);exact ⟨⟨by omega,by omega⟩,by exact rfl,⟨by omega,by omega⟩,by simp,by simp⟩
  have hlt:decide (((m.ao.toNat:Nat):Int)<m.ao)=false:=dF (by omega);simp -dsimp -implicitDefEqProofs only [pz,bd,aP,aW,↓reduceIte,aO];simp -dsimp -implicitDefEqProofs only [go_sem,hlt]
theorem uU (m:aK) (key:lI) (h:key.length<=1048576):Fn pG 174 [la m,aR [key]] true (· =eI (if aY m=true then if fault m key=0 then 0 else 2 else 1)):=by
 refine Fn.au 21 [.tmp 4] func174 (hv:= ?_);have hm0:=eJ m;rcases hm:aY m with _|_
 . rw [hm] at hm0;clear hm;simp -dsimp -implicitDefEqProofs only [go_sem];repeat' (refine aa (hm0) ?_;try simp -dsimp -implicitDefEqProofs only [go_sem, *])
   all_goals simp
 have hk:Fn pG 76 [la m,aQ key] true (· =eB (fault m key==0)):=by refine Fn.au 9 [.tmp 4] func76 (hv:= ?_);have hf:=x8 m key hm h;simp -dsimp -implicitDefEqProofs only [go_sem];repeat' (refine aa (hf) ?_;try simp -dsimp -implicitDefEqProofs only [go_sem, *])
 rw [hm] at hm0;clear hm;have h01:decide ((0:Int)<((1:Nat):Int))=true:=rfl;have h11:decide (((1:Nat):Int)<((1:Nat):Int))=false:=rfl;rcases hq:(fault m key==0) with _|_
 all_goals
  have hF:=hq;simp only [beq_iff_eq,beq_eq_false_iff_ne] at hF;rw [hq] at hk;simp only [hF,if_true,if_false];clear hq hF;simp -dsimp -implicitDefEqProofs only [go_sem];repeat' (refine aa (hm0) ?_;try simp -dsimp -implicitDefEqProofs only [go_sem, *])
 . refine aj.up [2,10,11] [18] [] 1 (fun i=>i=0) (fun i=>[(12,eI i)]) (fun _=>[]) rfl ?_ rfl (fun i hi hI=> ?_) (fun hI=> ?_)
   . simp -dsimp -implicitDefEqProofs only [go_sem]
   . subst hI;simp -dsimp -implicitDefEqProofs only [pz,bd,aP,aW,↓reduceIte,aO];simp -dsimp -implicitDefEqProofs only [go_sem,h01]
     repeat' first
      |(with_reducible refine ai ?_ ?_)
      |(refine aa (hk) ?_;try simp -dsimp -implicitDefEqProofs only [go_sem, *])
     all_goals first
      |omega
      |skip
   cases hI
 refine aj.up [2,10,11] [18] [] 1 (fun i=>True) (fun i=>[(12,eI i)]) (fun _=>[]) trivial ?_ rfl (fun i hi hI=> ?_) (fun hI=> ?_)
 . simp -dsimp -implicitDefEqProofs only [go_sem]
 . obtain rfl:i=0:=by omega
   simp -dsimp -implicitDefEqProofs only [pz,bd,aP,aW,↓reduceIte,aO];simp -dsimp -implicitDefEqProofs only [go_sem,h01]
   repeat' first
    |(with_reducible refine ai ?_ ?_)
    |(refine aa (hk) ?_;try simp -dsimp -implicitDefEqProofs only [go_sem, *])
   all_goals first
    |omega
    |exact ⟨by omega,by omega⟩
    |rfl
    |skip
 simp -dsimp -implicitDefEqProofs only [pz,bd,aP,aW,↓reduceIte,aO];simp -dsimp -implicitDefEqProofs only [go_sem,h11]
theorem Mc (m:aK) (key:lI) (hm:aY m=true) (hf:fault m key=0):Fn pG 153 [la m,aQ key] true (· =eI (cI m key key.length)):=by
 refine Fn.au 34 [.tmp 4] func153 (hv:= ?_);obtain ⟨hl,hel,_,_⟩:=pD hf;have ⟨⟨zy,zz⟩,hd1,hd2⟩:=aM hm;have hrb:∀i,i<=key.length->cI m key i<=i*8^6:=by
  intro i hi;induction i with
  |zero=>simp [cI]
  |succ i ih=>
   have h1:=ih (by omega);have hx:=hel (key.getD i 0) (by rw [uq4,uq5 (by omega)];exact uq6 _);have h2:=yi m hm (key.length-(i+1)) (key.take i) (key.getD i 0).toNat;have h3:(key.getD i 0).toNat*8^(key.length-(i+1))<=8*8^5:=Nat.mul_le_mul (by omega) (c8 (by decide) (by omega));rw [cI,Nat.succ_mul];omega
 simp -dsimp -implicitDefEqProofs only [go_sem];refine aj.up [1,2] [10,27,29,30,31] [] key.length (fun _=>True) (fun i=>[(6,eI i),(5,eI (cI m key i))]) (fun _=>[]) trivial ?_ rfl (fun i hi _=> ?_) (fun _=> ?_)
 . simp -dsimp -implicitDefEqProofs only [go_sem];try simp [cI]
 . have gi:=get_some hi;have li:=aE hi;have hx:=hel key[i] (uq6 hi);have hr1:=hrb i (by omega);have hgd:key.getD i 0=key[i]:=by simp [uq4,hi]
   have kZ:cI m key (i+1)=cI m key i+jQ m (key.length-(i+1)) (key.take i) key[i].toNat:=by rw [cI,hgd]
   rw [kZ];clear kZ hgd hrb;have hcl:∀d,jQ m (key.length-(i+1)) (key.take i) d<=d*8^5:=fun d=>Nat.le_trans (yi m hm _ _ d) (Nat.mul_le_mul_left _ (c8 (by decide) (by omega)));generalize cI m key i=R at*;simp -dsimp -implicitDefEqProofs only [pz,bd,aP,aW,↓reduceIte,aO];simp -dsimp -implicitDefEqProofs only [go_sem,li];refine aj.up [1,2,6] [27,29,30,31] [] key[i].toNat (fun _=>True) (fun d=>[(7,eI d),(5,eI ((R:Int)+jQ m (key.length-(i+1)) (key.take i) d))]) (fun _=>[]) trivial ?_ rfl (fun d hd _=> ?_) (fun _=> ?_)
   . simp -dsimp -implicitDefEqProofs only [go_sem];try simp [jQ]
   . have hlt:decide ((d:Int)<key[i])=true:=dT (by omega)
     have jr:=yk m hm (key.length-(i+1)) (key.take i++[(d:Int)]) (by simp;omega) (fun x hx2=>by
      rcases uq9.1 hx2 with h|h
      . have:=hel x (List.mem_of_mem_take h);omega
      simp at h;omega)
     have bc:=r7 (key.take i) (by simp;omega);have htk:bf i (uq8 eI key)=uq8 eI (key.take i):=List.map_take.symm;have n6:uq8 eI (key.take i)++[eI (d:Int)]=uq8 eI (key.take i++[(d:Int)]):=by simp
     have hlen:(key.take i).length=i:=by simp;omega
     have hb1:=hcl d;have hb2:=CS m hm (key.length-(i+1)) (key.take i++[(d:Int)]);have hp:8^(key.length-(i+1))<=8^5:=c8 (by decide) (by omega);have htl:bf (i+1) (uq8 eI (key.take i++[(d:Int)]))=uq8 eI (key.take i++[(d:Int)]):=c7 (by simp;omega);have YI:bf i (uq8 eI (key.take i))=uq8 eI (key.take i):=c7 (by simp;omega);rw [ny];clear hcl hel;generalize hT:key.take i=T at*;generalize jQ m (key.length-(i+1)) T d=A at*;generalize lF m (key.length-(i+1)) (T++[(d:Int)])=Bn at*;generalize 8^(key.length-(i+1))=p at*;simp -dsimp -implicitDefEqProofs only [pz,bd,aP,aW,↓reduceIte,aO];simp -dsimp -implicitDefEqProofs only [go_sem,hlt,gi];refine ⟨by omega,?_⟩;refine aj.draw mixed rfl ?_;simp -dsimp -implicitDefEqProofs only [go_sem,htk];refine ⟨by omega,?_⟩;(refine ak (bc) ?_;try simp -dsimp -implicitDefEqProofs only [go_sem, *]);refine ⟨by omega,?_⟩;(refine ak (jr) ?_;try simp -dsimp -implicitDefEqProofs only [go_sem, *]);exact ⟨⟨by omega,by omega⟩,by exact rfl,⟨by omega,by omega⟩,by simp,by simp;omega⟩
   have hlt:decide (((key[i].toNat:Nat):Int)<key[i])=false:=dF (by omega);simp -dsimp -implicitDefEqProofs only [pz,bd,aP,aW,↓reduceIte,aO];simp -dsimp -implicitDefEqProofs only [go_sem,hlt,gi];exact ⟨by omega,⟨by omega,by omega⟩,by simp,by simp⟩
 simp -dsimp -implicitDefEqProofs only [pz,bd,aP,aW,↓reduceIte,aO];simp -dsimp -implicitDefEqProofs only [go_sem,aA]
theorem uV (m:aK) (hm:aY m=true):Fn pG 176 [la m,.val .nilFunc] true (· =eI (lF m m.af.toNat [])):=by
 refine Fn.au 11 [.tmp 4] func176 (hv:= ?_);have vC:=aM hm;have h8:(8:Int)^m.af.toNat<=8^6:=by
  have:8^m.af.toNat<=8^6:=c8 (by decide) (by omega)
  exact_mod_cast this
 have eQ:=WX m hm m.af.toNat [] ⟨0,[],0⟩ (by simp;omega) (fun x hx=>by cases hx) ⟨rfl,bO _⟩ ⟨Int.le_refl _,by show (0:Int)+_<=_;omega⟩;have hsp:=(iC m fF m.af.toNat [] ⟨0,[],0⟩ ⟨rfl,bO _⟩).2.1;rw [Bx] at hsp;have hc:lF m m.af.toNat []=(a7 m m.af.toNat []).length:=by rw [lF,if_pos (show fe m []=true from rfl)]
 rw [hc];simp only [Int.zero_add] at hsp;rw [←hsp];generalize bp m fF m.af.toNat [] ⟨0,[],0⟩=w at*;simp -dsimp -implicitDefEqProofs only [go_sem];refine ca 900000 16 [] func222 rfl rfl rfl rfl rfl (by exact oT rfl) ?_;simp -dsimp -implicitDefEqProofs only [go_sem];simp only [List.length_nil,List.map_nil] at eQ;refine ji 1700000000 eQ ⟨?_,?_⟩ ⟨⟨?_,?_⟩,?_,?_⟩ ?_
 . simp -dsimp -implicitDefEqProofs only [go_sem]
 . simp -dsimp -implicitDefEqProofs only [go_sem]
 . simp -dsimp -implicitDefEqProofs only [go_sem]
 . simp -dsimp -implicitDefEqProofs only [go_sem];simp [an,aq,ck]
 . simp -dsimp -implicitDefEqProofs only [go_sem]
 . simp -dsimp -implicitDefEqProofs only [go_sem];simp
 rintro r m' ⟨hr,hm'⟩;rw [hr,hm'];simp -dsimp -implicitDefEqProofs only [go_sem]
theorem PE (m:aK) (key:lI) (h:key.length<=1048576):Fn pG 175 [la m,aQ key] true (· =if aY m=true then if fault m key=0 then .aX [eI (cI m key key.length),eI 0] else .aX [eI 0,eI 2] else .aX [eI 0,eI 1]):=by
 refine Fn.au 19 [.tmp 4,.tmp 5] func175 (hv:= ?_);have ft:=uU m key h;have h10:((1:Int) != 0)=true:=rfl;have h20:((2:Int) != 0)=true:=rfl;rcases hm:aY m with _|_
 . rw [hm] at ft;simp only [Bool.false_eq_true,if_false] at ft ⊢;clear hm;simp -dsimp -implicitDefEqProofs only [go_sem];repeat' (refine aa (ft) ?_;try simp -dsimp -implicitDefEqProofs only [go_sem, *])
 rw [hm] at ft;simp only [if_true] at ft ⊢;by_cases hf:fault m key=0
 . rw [if_pos hf] at ft ⊢;have vC:=aM hm;have h8:(8:Int)^m.af.toNat<=8^6:=by
    have:8^m.af.toNat<=8^6:=c8 (by decide) (by omega)
    exact_mod_cast this
   have eQ:=WZ key h m hm m.af.toNat [] ⟨0,[],0⟩ (by simp;omega) (fun x hx=>by cases hx) ⟨rfl,bO _⟩ ⟨Int.le_refl _,by show (0:Int)+_<=_;omega⟩;have hsp:=(iC m (cr key) m.af.toNat [] ⟨0,[],0⟩ ⟨rfl,bO _⟩).2.1;have XA:=hsp.trans (CT hf).1;rw [←XA];clear hsp XA;generalize bp m (cr key) m.af.toNat [] ⟨0,[],0⟩=w at*;simp only [List.length_nil,List.map_nil] at eQ;clear hm hf h8 vC;simp -dsimp -implicitDefEqProofs only [go_sem];repeat' (refine aa (ft) ?_;try simp -dsimp -implicitDefEqProofs only [go_sem, *])
   refine ca 900000 16 [] func222 rfl rfl rfl rfl rfl (by exact oT rfl) ?_;simp -dsimp -implicitDefEqProofs only [go_sem];refine ji 1700000000 eQ ⟨?_,?_⟩ ⟨⟨?_,?_⟩,?_,?_⟩ ?_
   . simp -dsimp -implicitDefEqProofs only [go_sem]
   . simp -dsimp -implicitDefEqProofs only [go_sem]
   . simp -dsimp -implicitDefEqProofs only [go_sem]
   . simp -dsimp -implicitDefEqProofs only [go_sem];simp [an,aq,ck]
   . simp -dsimp -implicitDefEqProofs only [go_sem]
   . simp -dsimp -implicitDefEqProofs only [go_sem];simp
   rintro r m' ⟨hr,hm'⟩;rw [hr,hm'];simp -dsimp -implicitDefEqProofs only [go_sem]
 rw [if_neg hf] at ft ⊢;clear hm hf;simp -dsimp -implicitDefEqProofs only [go_sem];repeat' (refine aa (ft) ?_;try simp -dsimp -implicitDefEqProofs only [go_sem, *])
def df (f:Nat->Option lI):Nat->Option lI
 |0=>none
 |d+1=>match df f d with
  |some k=>some k
  |none=>f d
def cn (m:aK):Nat->lI->Option lI
 |0,c=>if fe m c=true/\m.least<=(bo c c.length:Int) then some c else none
 |n+1,c=>if fe m c=true then df (fun (d:Nat)=>cn m n (c++[(d:Int)])) m.ao.toNat else none
theorem uW {f:Nat->Option lI} {D:Nat} (h:df f D=none):df f (D+1)=f D:=by simp [df,h]
theorem oU {f:Nat->Option lI} {D:Nat} {k:lI} (h:df f D=some k):∀E,D<=E->df f E=some k
 |0,hE=>by rw [show D=0 by omega] at h;cases h
 |E+1,hE=>by
  by_cases e:D=E+1
  . rw [←e];exact h
  simp only [df];rw [oU h E (by omega)]
def SO (o:Option lI):AV:=match o with
 |some k=>.aX [aQ k,eB true]
 |none=>.aX [.val (.slice none 0 0),eB false]
def s4 (m:aK) (n:Nat) (c:lI) (r:AV):Prop:=match cn m n c with
 |some k=>r= .aX [aQ k,eB true]
 |none=>∃x,r= .aX [x,eB false]/\(x= .val (.slice none 0 0)\/x=aQ c)
theorem yl (m:aK) (hm:aY m=true):∀(n:Nat) (c:lI),(c.length:Int)+n=m.af->(∀x∈c,0<=x/\x<=7)->Fn pG 87 [la m,aQ c] false (s4 m n c):=by
 intro n;have ⟨⟨zy,zz⟩,hd1,hd2⟩:=aM hm;induction n with
 |zero=>
  intro c hl hc;refine Fn.cf 42 [.tmp 4,.tmp 5] func87 (hv:= ?_);have hbe:=lH m c hm (by omega) hc;have hk:((c.length:Int)==m.af)=true:=beq_iff_eq.2 (by omega);have hki:=qC c (by omega);unfold s4;rcases hb:fe m c with _|_
  . have jr:cn m 0 c=none:=by rw [cn,if_neg (by rw [hb];exact fun h=>by cases h.1)]
    rw [hb] at hbe;rw [jr];clear jr hb;simp -dsimp -implicitDefEqProofs only [go_sem];(refine aa (hbe) ?_;try simp -dsimp -implicitDefEqProofs only [go_sem, *]);exact ⟨_,rfl,.inl rfl⟩
  rw [hb] at hbe;rcases hq:decide ((bo c c.length:Int)≥m.least) with _|_
  . have jr:cn m 0 c=none:=by rw [cn,if_neg (fun h=>by have:=of_decide_eq_false hq;omega)]
    rw [jr];clear jr hb;simp -dsimp -implicitDefEqProofs only [go_sem];(refine aa (hbe) ?_;try simp -dsimp -implicitDefEqProofs only [go_sem, *]);refine aj.draw mixed rfl ?_;simp -dsimp -implicitDefEqProofs only [go_sem];(refine ak (hki) ?_;try simp -dsimp -implicitDefEqProofs only [go_sem, *]);exact ⟨by exact rfl,_,rfl,.inr rfl⟩
  have jr:cn m 0 c=some c:=by rw [cn,if_pos ⟨hb,by have:=oT hq;omega⟩]
  rw [jr];clear jr hb;simp -dsimp -implicitDefEqProofs only [go_sem];(refine aa (hbe) ?_;try simp -dsimp -implicitDefEqProofs only [go_sem, *]);refine aj.draw mixed rfl ?_;simp -dsimp -implicitDefEqProofs only [go_sem];(refine ak (hki) ?_;try simp -dsimp -implicitDefEqProofs only [go_sem, *]);exact rfl
 |succ n ih=>
  intro c hl hc;refine Fn.cf 42 [.tmp 4,.tmp 5] func87 (hv:= ?_);have hbe:=lH m c hm (by omega) hc;have hk:((c.length:Int)==m.af)=false:=beq_eq_false_iff_ne.2 (by omega);unfold s4;rcases hb:fe m c with _|_
  . have jr:cn m (n+1) c=none:=by rw [cn,if_neg (by rw [hb];exact fun h=>by cases h)]
    rw [hb] at hbe;rw [jr];clear jr hb;simp -dsimp -implicitDefEqProofs only [go_sem];(refine aa (hbe) ?_;try simp -dsimp -implicitDefEqProofs only [go_sem, *]);exact ⟨_,rfl,.inl rfl⟩
  have jr:cn m (n+1) c=df (fun (d:Nat)=>cn m n (c++[(d:Int)])) m.ao.toNat:=by rw [cn,if_pos hb]
  rw [hb] at hbe;rw [jr];clear jr hb;have bc:=r7 c (by omega);simp -dsimp -implicitDefEqProofs only [go_sem];(refine aa (hbe) ?_;try simp -dsimp -implicitDefEqProofs only [go_sem, *]);refine aj.up [1,2] [33,35,36,37] [] m.ao.toNat (fun i=>df (fun (d:Nat)=>cn m n (c++[(d:Int)])) i=none) (fun i=>[(6,eI i)]) (fun _=>[]) rfl ?_ rfl (fun i hi hI=> ?_) (fun hI=> ?_)
  . simp -dsimp -implicitDefEqProofs only [go_sem]
  . have hih:=ih (c++[(i:Int)]) (by simp;omega) (fun x hx=>by
     rcases uq9.1 hx with h|h
     . exact hc x h
     simp at h;omega)
    have hlt:decide ((i:Int)<m.ao)=true:=dT (by omega);have n6:uq8 eI c++[eI (i:Int)]=uq8 eI (c++[(i:Int)]):=by simp
    have htk:bf c.length (uq8 eI c)=uq8 eI c:=c7 (by simp);have htl:bf (c.length+1) (uq8 eI (c++[(i:Int)]))=uq8 eI (c++[(i:Int)]):=c7 (by simp);have hnx:=uW hI;have fR:∀k,cn m n (c++[(i:Int)])=some k->df (fun (d:Nat)=>cn m n (c++[(d:Int)])) m.ao.toNat=some k:=fun k hk=>oU (hnx.trans hk) _ (by omega);rw [hnx];clear ih hI hnx;unfold s4 at hih;generalize cn m n (c++[(i:Int)])=F at*;simp -dsimp -implicitDefEqProofs only [pz,bd,aP,aW,↓reduceIte,aO];simp -dsimp -implicitDefEqProofs only [go_sem,hlt];refine aj.YV 6 mixed rfl ?_;simp -dsimp -implicitDefEqProofs only [eP,cq,uq2,uq3];simp -dsimp -implicitDefEqProofs only [go_sem];(refine ak (bc) ?_;try simp -dsimp -implicitDefEqProofs only [go_sem, *]);refine ⟨by omega,?_⟩;refine ⟨by exact rfl,?_⟩;refine kK 34000 1 ⟨1,false⟩ true (uq8 eI (c++[(i:Int)])) hih (by decide) ?_ ?_ fun r hr=> ?_
    . simp -dsimp -implicitDefEqProofs only [go_sem]
    . refine rT ?_ rfl ?_
      . simp -dsimp -implicitDefEqProofs only [go_sem]
      have h:=mD (l:=34000) (v:=1) (sh:=⟨1,false⟩) (ys:=uq8 eI (c++[(i:Int)])) (xs:=[]) (r:=[]) 0 (c.length+1) (by simp) trivial;rw [uq3,htl] at h;exact h
    cases F with
    |some k=>
     rw [fR k rfl];rw [show r= .aX [aQ k,eB true] from hr];clear hr fR;simp -dsimp -implicitDefEqProofs only [go_sem];exact rfl
    |none=>
     clear fR;obtain ⟨x,rfl,hx⟩:=hr;rcases hx with rfl|rfl
     . simp -dsimp -implicitDefEqProofs only [go_sem];exact ⟨by exact rfl,⟨by omega,by omega⟩,by simp⟩
     simp -dsimp -implicitDefEqProofs only [go_sem];exact ⟨by exact rfl,⟨by omega,by omega⟩,by simp⟩
  have hlt:decide (((m.ao.toNat:Nat):Int)<m.ao)=false:=dF (by omega);rw [hI];clear hI;simp -dsimp -implicitDefEqProofs only [pz,bd,aP,aW,↓reduceIte,aO];simp -dsimp -implicitDefEqProofs only [go_sem,hlt];exact ⟨_,rfl,.inl rfl⟩
def ff (m:aK) (c:lI):Nat->Option lI
 |0=>none
 |j+1=>match ff m c j with
  |some k=>some k
  |none=>df (fun (e:Nat)=>cn m j (c.take (c.length-1-j)++[c.getD (c.length-1-j) 0+1+(e:Int)])) (m.ao-(c.getD (c.length-1-j) 0+1)).toNat
theorem FB {m:aK} {c:lI} {j:Nat} (h:ff m c j=none):ff m c (j+1)=df (fun (e:Nat)=>cn m j (c.take (c.length-1-j)++[c.getD (c.length-1-j) 0+1+(e:Int)])) (m.ao-(c.getD (c.length-1-j) 0+1)).toNat:=by simp [ff,h]
theorem uX {m:aK} {c k:lI} {j:Nat} (h:ff m c j=some k):∀E,j<=E->ff m c E=some k
 |0,hE=>by rw [show j=0 by omega] at h;cases h
 |E+1,hE=>by
  by_cases e:j=E+1
  . rw [←e];exact h
  simp only [ff];rw [uX h E (by omega)]
theorem s5 (m:aK) (c:lI) (hm:aY m=true) (hl:(c.length:Int)=m.af) (hc:∀x∈c,0<=x/\x<m.ao):Fn pG 86 [la m,aQ c] false (· =SO (ff m c c.length)):=by
 have ⟨⟨zy,zz⟩,hd1,hd2⟩:=aM hm;refine Fn.cf 42 [.tmp 4,.tmp 5] func86 (hv:= ?_);simp -dsimp -implicitDefEqProofs only [go_sem];refine ⟨⟨by omega,by omega⟩,?_⟩;refine aj.up [1,2] [33,35,36,37] [] c.length (fun j=>ff m c j=none) (fun j=>[(6,eI ((c.length:Int)-1-(j:Int)))]) (fun _=>[]) rfl ?_ rfl (fun j hj hJ=> ?_) (fun hJ=> ?_)
 . simp -dsimp -implicitDefEqProofs only [go_sem];all_goals first|(simp;done)|skip
 . have hlt:decide ((c.length:Int)-1-(j:Int)≥0)=true:=dT (by omega);have hnx:=FB hJ;have fR:∀k,ff m c (j+1)=some k->ff m c c.length=some k:=fun k hk=>uX hk _ (by omega);have hi:c.length-1-j<c.length:=by omega
   have QG:(c.length:Int)-1-(j:Int)=((c.length-1-j:Nat):Int):=by omega
   have hx:=hc c[c.length-1-j] (uq6 hi);have hgd:c.getD (c.length-1-j) 0=c[c.length-1-j]:=by simp [uq4,hi]
   have gi:=get_some hi;have XB:(c.length:Int)-1-((j+1:Nat):Int)=((c.length-1-j:Nat):Int)-1:=by omega
   rw [hgd] at hnx;rw [QG] at hlt;rw [QG,XB];clear hJ QG hgd XB;generalize hI:c.length-1-j=i at*;generalize c[i]=z at*;rw [hnx];have Ua:∀k,df (fun (e:Nat)=>cn m j (c.take i++[z+1+(e:Int)])) (m.ao-(z+1)).toNat=some k->ff m c c.length=some k:=fun k hk=>fR k (hnx.trans hk);clear hnx fR;simp -dsimp -implicitDefEqProofs only [pz,bd,aP,aW,↓reduceIte,aO];simp -dsimp -implicitDefEqProofs only [go_sem,hlt,gi];refine ⟨by omega,⟨by omega,by omega⟩,?_⟩;refine aj.up [1,2,6] [33,35,36,37] [] (m.ao-(z+1)).toNat (fun e=>df (fun (e:Nat)=>cn m j (c.take i++[z+1+(e:Int)])) e=none) (fun e=>[(7,eI (z+1+(e:Int)))]) (fun _=>[]) rfl ?_ rfl (fun e he hE=> ?_) (fun hE=> ?_)
   . simp -dsimp -implicitDefEqProofs only [go_sem];all_goals first|(simp;done)|skip
   . have V4:decide (z+1+(e:Int)<m.ao)=true:=dT (by omega);have Y1:(c.take i).length=i:=by simp;omega
     have hih:=yl m hm j (c.take i++[z+1+(e:Int)]) (by simp;omega) (fun x hx2=>by
      rcases uq9.1 hx2 with h|h
      . have:=hc x (List.mem_of_mem_take h);omega
      simp at h;omega)
     have bc:=r7 (c.take i) (by omega);have htk:bf i (uq8 eI c)=uq8 eI (c.take i):=List.map_take.symm;have hnx:=uW hE;have QH:∀k,cn m j (c.take i++[z+1+(e:Int)])=some k->ff m c c.length=some k:=fun k hk=>Ua k (oU (hnx.trans hk) _ (by omega));rw [hnx];clear hE hnx Ua hc;unfold s4 at hih;generalize c.take i=T at*;have n6:uq8 eI T++[eI (z+1+(e:Int))]=uq8 eI (T++[z+1+(e:Int)]):=by simp
     have htl:bf (i+1) (uq8 eI (T++[z+1+(e:Int)]))=uq8 eI (T++[z+1+(e:Int)]):=c7 (by simp;omega);have YI:bf i (uq8 eI T)=uq8 eI T:=c7 (by simp;omega);generalize cn m j (T++[z+1+(e:Int)])=F at*;simp -dsimp -implicitDefEqProofs only [pz,bd,aP,aW,↓reduceIte,aO];simp -dsimp -implicitDefEqProofs only [go_sem,V4];refine aj.YV 8 mixed rfl ?_;simp -dsimp -implicitDefEqProofs only [eP,cq,uq2,uq3];simp -dsimp -implicitDefEqProofs only [go_sem,htk];refine ⟨by omega,?_⟩;(refine ak (bc) ?_;try simp -dsimp -implicitDefEqProofs only [go_sem, *]);refine ⟨by omega,?_⟩;refine ⟨by exact rfl,?_⟩;refine kK 34000 1 ⟨1,false⟩ true (uq8 eI (T++[z+1+(e:Int)])) hih (by decide) ?_ ?_ fun r hr=> ?_
     . simp -dsimp -implicitDefEqProofs only [go_sem]
     . refine rT ?_ rfl ?_
       . simp -dsimp -implicitDefEqProofs only [go_sem]
       have h:=mD (l:=34000) (v:=1) (sh:=⟨1,false⟩) (ys:=uq8 eI (T++[z+1+(e:Int)])) (xs:=[]) (r:=[]) 0 (i+1) (by simp;omega) trivial;rw [uq3,htl] at h;exact h
     cases F with
     |some k=>
      rw [QH k rfl];rw [show r= .aX [aQ k,eB true] from hr];clear hr QH;simp -dsimp -implicitDefEqProofs only [go_sem,SO];exact rfl
     |none=>
      clear QH;obtain ⟨x,rfl,hx⟩:=hr;rcases hx with rfl|rfl
      . simp -dsimp -implicitDefEqProofs only [go_sem];exact ⟨by exact rfl,⟨by omega,by omega⟩,by simp;omega⟩
      simp -dsimp -implicitDefEqProofs only [go_sem];exact ⟨by exact rfl,⟨by omega,by omega⟩,by simp;omega⟩
   have V4:decide (z+1+(((m.ao-(z+1)).toNat:Nat):Int)<m.ao)=false:=dF (by omega);rw [hE];simp -dsimp -implicitDefEqProofs only [pz,bd,aP,aW,↓reduceIte,aO];simp -dsimp -implicitDefEqProofs only [go_sem,V4];(exact ⟨by omega,by omega⟩)
 have hlt:decide ((c.length:Int)-1-(c.length:Int)≥0)=false:=dF (by omega);rw [hJ];clear hJ;simp -dsimp -implicitDefEqProofs only [pz,bd,aP,aW,↓reduceIte,aO];simp -dsimp -implicitDefEqProofs only [go_sem,hlt,SO]
theorem ym {f:Nat->Option lI} {d:Nat} (h:f d≠none):∀D,d<D->df f D≠none
 |0,hd=>absurd hd (Nat.not_lt_zero _)
 |D+1,hd=>by
  simp only [df];cases hh:df f D with
  |some k=>exact fun h=>by cases h
  |none=>
   by_cases e:d=D
   . subst e;exact h
   exact absurd hh (ym h D (by omega))
theorem yn {m:aK}:∀(n:Nat) (c t:lI),t.length=n->fe m (c++t)=true->m.least<=(bo (c++t) (c++t).length:Int)->(∀x∈t,0<=x/\x<m.ao)->cn m n c≠none
 |0,c,t,hl,ho,hk,hx=>by
  obtain rfl:=List.eq_nil_of_length_eq_zero hl;rw [List.append_nil] at ho hk;rw [cn,if_pos ⟨ho,hk⟩];exact fun h=>by cases h
 |n+1,c,t,hl,ho,hk,hx=>by
  cases t with
  |nil=>cases hl
  |cons d t=>
   have hd:=hx d (cK ..);have hoc:fe m c=true:=by
    have:=nz ho (i:=c.length) (by simp)
    rwa [List.take_left'] at this
    rfl
   rw [cn,if_pos hoc];refine ym (d:=d.toNat) ?_ _ (by omega);have e:((d.toNat:Nat):Int)=d:=by omega
   rw [e];have e2:c++d::t=(c++[d])++t:=by simp
   rw [e2] at ho hk;exact yn n (c++[d]) t (by simpa using hl) ho hk fun x hx2=>hx x (List.mem_cons_of_mem _ hx2)
def Il (ch dp:Int):lI:=(([0,1,2,3,4,5]:lI).map fun x=>if x<dp then x else if (x-dp).tmod 2=0 then dp-2 else dp-1).take ch.toNat
def W2 (C D:Int):Bool:=
 (Il C D).length==C.toNat&&(bu (Il C D).length).all (fun i=>decide (a6 (Il C D) i<=1)&&(i==0||decide (e8 ((Il C D).getD i 0-(Il C D).getD (i-1) 0)<=1)))&&
   decide ((if D<C then D else C)<=(bo (Il C D) (Il C D).length:Int))&&(Il C D).all fun x=>decide (0<=x)&&decide (x<D)
theorem PF:((bu 5).all fun c=>(bu 7).all fun d=>W2 ((c:Int)+2) ((d:Int)+2))=true:=by decide+kernel
theorem Vs {m:aK} (hm:aY m=true):(Il m.af m.ao).length=m.af.toNat/\fe m (Il m.af m.ao)=true/\m.least<=(bo (Il m.af m.ao) (Il m.af m.ao).length:Int)/\∀x∈Il m.af m.ao,0<=x/\x<m.ao:=by
 have vC:=aM hm;have hs:=mH hm;have hl:m.least<=if m.ao<m.af then m.ao else m.af:=by simp only [aY,bB,uq0,decide_eq_true_eq] at hm;exact hm.2.2
 have h1:=uq1.1 PF (m.af.toNat-2) (dB.2 (by omega));have h2:=uq1.1 h1 (m.ao.toNat-2) (dB.2 (by omega));rw [show ((m.af.toNat-2:Nat):Int)+2=m.af by omega,show ((m.ao.toNat-2:Nat):Int)+2=m.ao by omega] at h2;unfold W2 at h2;simp only [uq0,beq_iff_eq,decide_eq_true_eq] at h2;obtain ⟨⟨⟨g1,g2⟩,g3⟩,g4⟩:=h2;generalize Il m.af m.ao=z at*;refine ⟨g1,?_,by omega,fun x hx=> ?_⟩
 . unfold fe;rw [uq1] at g2 ⊢;intro i hi;have:=g2 i hi;simp only [uq0,decide_eq_true_eq,Bool.or_eq_true,beq_iff_eq] at this ⊢;refine ⟨by omega,?_⟩;unfold cy;rcases this.2 with h|h
   . simp [h]
   rw [decide_eq_true (show e8 (z.getD i 0-z.getD (i-1) 0)<=m.step by omega)];simp
 have:=uq1.1 g4 x hx;simpa using this
theorem FD {m:aK} (hm:aY m=true):∃k,cn m m.af.toNat []=some k:=by
 obtain ⟨h1,h2,h3,h4⟩:=Vs hm;have:=yn m.af.toNat [] (Il m.af m.ao) h1 h2 h3 h4;cases hh:cn m m.af.toNat [] with
 |some k=>exact ⟨k,rfl⟩
 |none=>exact absurd hh this
theorem nB {f g:Nat->Option lI}:∀{D:Nat},(∀d,d<D->f d=g d)->df f D=df g D
 |0,_=>rfl
 |D+1,h=>by simp only [df];rw [nB (D:=D) (fun d hd=>h d (by omega)),h D (by omega)]
theorem s6 (F:Nat->lL):∀D,df (fun d=>(F d).head?) D=((bu D).flatMap F).head?
 |0=>rfl
 |D+1=>by rw [cF,List.flatMap_append,List.head?_append,←s6 F D];simp only [df,List.flatMap_cons,List.flatMap_nil,List.append_nil];cases df (fun d=>(F d).head?) D<;>rfl
theorem oV (m:aK):∀(n:Nat) (c:lI),cn m n c=if fe m c=true then (a7 m n c).head? else none
 |0,c=>by
  simp only [cn,a7];by_cases h1:fe m c=true
  . rw [if_pos h1];by_cases h2:m.least<=(bo c c.length:Int)
    . rw [if_pos ⟨h1,h2⟩,if_neg (by omega)];rfl
    rw [if_neg (fun h=>h2 h.2),if_pos (by omega)];rfl
  rw [if_neg (fun h=>h1 h.1),if_neg h1]
 |n+1,c=>by
  simp only [cn];by_cases h1:fe m c=true
  . rw [if_pos h1,if_pos h1];simp only [a7];rw [←s6];refine nB fun d _=> ?_;rw [oV m n,jo,h1,Bool.true_and];split<;>rfl
  rw [if_neg h1,if_neg h1]
theorem gO (F:Nat->lL) (a:Nat):∀b,(bu (a+b)).flatMap F=(bu a).flatMap F++(bu b).flatMap fun e=>F (a+e)
 |0=>by simp
 |b+1=>by rw [show a+(b+1)=(a+b)+1 by omega,cF,List.flatMap_append,gO F a b,cF,List.flatMap_append];simp
theorem uY {m:aK} {k:lI} (h:qc m k):∀j,j<=k.length->∃a b,a7 m j (k.take (k.length-j))=a++k::b/\ff m k j=b.head?
 |0,_=>by
  obtain ⟨h1,h2,h3,h4⟩:=h;refine ⟨[],[],?_,rfl⟩;rw [Nat.sub_zero,cj,a7,if_neg h3];rfl
 |j+1,hj=>by
  obtain ⟨a,b,e1,e2⟩:=uY h j (by omega);obtain ⟨h1,h2,h3,h4⟩:=h;have hi:k.length-1-j<k.length:=by omega
  have hx:=h4 _ (uq6 hi);have hg:k.getD (k.length-1-j) 0=k[k.length-1-j]:=by simp [uq4,hi]
  have ht:=yj hi;rw [show k.length-1-j+1=k.length-j by omega,hg] at ht;have hok:=nz h2 (i:=k.length-j) (by omega);rw [ht,jo] at hok;obtain ⟨l6,qQ⟩:=Bool.and_eq_true_iff.1 hok
  have hnx:ff m k (j+1)=match ff m k j with
   |some k=>some k
   |none=>df (fun (e:Nat)=>cn m j (k.take (k.length-1-j)++[k[k.length-1-j]+1+(e:Int)])) (m.ao-(k[k.length-1-j]+1)).toNat:=by
   simp only [ff,hg]<;>cases ff m k j<;>rfl
  rw [show k.length-(j+1)=k.length-1-j by omega];generalize k[k.length-1-j]=z at*;generalize hp:k.take (k.length-1-j)=p at*;rw [ht] at e1;have hz:z=((z.toNat:Nat):Int):=by omega
  have hsp:m.ao.toNat=z.toNat+(1+(m.ao-(z+1)).toNat):=by omega
  let F:Nat->lL:=fun d=>if (bJ m p (d:Int)&&fY m p (d:Int))=true then a7 m j (p++[(d:Int)]) else []
  have hF:F z.toNat=a++k::b:=by show (if (bJ m p ((z.toNat:Nat):Int)&&fY m p ((z.toNat:Nat):Int))=true then a7 m j (p++[((z.toNat:Nat):Int)]) else [])=_;rw [←hz,if_pos qQ,e1]
  have hk:a7 m (j+1) p=(bu z.toNat).flatMap F++(F z.toNat++(bu (m.ao-(z+1)).toNat).flatMap fun e=>F (z.toNat+(1+e))):=by show (bu m.ao.toNat).flatMap F=_;rw [hsp,gO,gO (fun e=>F (z.toNat+e)) 1];simp [cF]
  refine ⟨(bu z.toNat).flatMap F++a,b++(bu (m.ao-(z+1)).toNat).flatMap fun e=>F (z.toNat+(1+e)),?_,?_⟩
  . rw [hk,hF];simp
  rw [hnx,e2,List.head?_append,←s6];cases b.head? with
  |some x=>rfl
  |none=>
   show df _ _=_;simp only [Option.none_or];refine nB fun e _=> ?_;rw [oV,jo,l6,Bool.true_and];have:z+1+(e:Int)=((z.toNat+(1+e):Nat):Int):=by omega
   rw [this];show _=(if (bJ m p ((z.toNat+(1+e):Nat):Int)&&fY m p ((z.toNat+(1+e):Nat):Int))=true then a7 m j (p++[((z.toNat+(1+e):Nat):Int)]) else []).head?
   split<;>rfl
theorem Im {m:aK} (hm:0<=m.af) {a b:lL} {k:lI} (h:bx m=a++k::b):ff m k k.length=b.head? :=by
 have hk:k∈bx m:=by rw [h];simp
 have hok:=kg hm hk;obtain ⟨a',b',e1,e2⟩:=uY hok k.length (bO _);rw [Nat.sub_self,cq] at e1;have hl:m.af.toNat=k.length:=by have:=hok.len;omega
 have e1':bx m=a'++k::b':=by rw [bx,hl];exact e1
 have hn:=oS (m:=m) m.af.toNat [];rw [show a7 m m.af.toNat []=bx m from rfl,h] at hn;rw [h] at e1';have:a=a'/\k::b=k::b':=by
  have key:∀(a a' b b':lL),a++k::b=a'++k::b'->(a++k::b).Nodup->a=a'/\b=b':=by
   intro a;induction a with
   |nil=>
    intro a' b b' h hn;cases a' with
    |nil=>exact ⟨rfl,by simpa using h⟩
    |cons x r=>
     simp only [List.nil_append,List.cons_append,List.cons.injEq] at h;obtain ⟨rfl,h⟩:=h;simp only [List.nil_append,List.nodup_cons] at hn;exact absurd (by rw [h];simp) hn.1
   |cons x r ih=>
    intro a' b b' h hn;cases a' with
    |nil=>
     simp only [List.nil_append,List.cons_append,List.cons.injEq] at h;obtain ⟨rfl,h⟩:=h;simp only [List.cons_append,List.nodup_cons] at hn;exact absurd (by simp) hn.1
    |cons x' r'=>
     simp only [List.cons_append,List.cons.injEq] at h;obtain ⟨rfl,h⟩:=h;simp only [List.cons_append,List.nodup_cons] at hn;obtain ⟨h1,h2⟩:=ih r' b b' h hn.2;exact ⟨by rw [h1],h2⟩
  obtain ⟨h1,h2⟩:=key a a' b b' e1' hn;exact ⟨h1,by rw [h2]⟩
 rw [e2];have:=this.2;simp only [List.cons.injEq,true_and] at this;rw [this]
theorem Io (m:aK):cn m m.af.toNat []=(bx m).head? :=by rw [oV,if_pos (show fe m []=true from rfl)];rfl
def lJ (m:aK) (t ab:lL):Bool:=((gN m t ab).length:Int)==0
def Md (o:Option lI):AV:=match o with
 |some k=>aQ k
 |none=>.val (.slice none 0 0)
theorem cZ (k:lI):Md (some k)=aQ k:=rfl
theorem fM:Md none= .val (.slice none 0 0):=rfl
theorem CU (o:Option lI):SO o= .aX [Md o,eB o.isSome]:=by cases o<;>rfl
theorem yo {m:aK} (hm:0<=m.af) {i:Nat} {k:lI} (h:(bx m)[i]? =some k):ff m k k.length=(bx m)[i+1]? :=by
 obtain ⟨hi,e⟩:=List.getElem?_eq_some_iff.1 h;have hs:bx m=(bx m).take i++k::(bx m).drop (i+1):=by rw [←e,←List.drop_eq_getElem_cons hi,List.take_append_drop]
 rw [Im hm hs,List.head?_drop]
structure SS where
 tries:Nat
 stop:Bool
 found:List lL
def Dt (m:aK) (t:lL) (lim:Nat) (part:lL) (rec:lL->SS->Bool × SS):lL->SS->Bool × SS
 | [],z=>(false,z)
 |k::ks,z=>
  if ((z.tries:Int)==(lim:Int))=true then (true,⟨z.tries,true,z.found⟩)
  else if lJ m t (part++[k])=true then
   (if (rec (part++[k]) ⟨z.tries+1,z.stop,z.found⟩).1=true then (true,(rec (part++[k]) ⟨z.tries+1,z.stop,z.found⟩).2)
   else Dt m t lim part rec ks (rec (part++[k]) ⟨z.tries+1,z.stop,z.found⟩).2)
  else Dt m t lim part rec ks ⟨z.tries+1,z.stop,z.found⟩
def dN (m:aK) (t:lL) (lim:Nat):Nat->lL->SS->Bool × SS
 |0,part,z=>(true,⟨z.tries,z.stop,[part]⟩)
 |d+1,part,z=>Dt m t lim part (dN m t lim d) (bx m) z
structure Vt (m:aK) (lim n:Nat) (b:Bool) (z:SS):Prop where
 tr:z.tries<=lim
 no:b=false->z.found=[]
 one:z.found.length<=1
 fl:∀f∈z.found,f.length=n/\∀k∈f,k∈bx m
theorem Ip {m:aK} {t:lL} {lim n:Nat} {part:lL} {rec:lL->SS->Bool × SS} (hp:∀k∈part,k∈bx m)
 (hr:∀k z,k∈bx m->z.tries<=lim->z.found=[]->Vt m lim n (rec (part++[k]) z).1 (rec (part++[k]) z).2):
 ∀(ks:lL) (z:SS),(∀k∈ks,k∈bx m)->z.tries<=lim->z.found=[]->Vt m lim n (Dt m t lim part rec ks z).1 (Dt m t lim part rec ks z).2
 | [],z,_,h1,h2=>⟨h1,fun _=>h2,by rw [Dt,h2];simp,fun f hf=>by rw [Dt,h2] at hf;cases hf⟩
 |k::ks,z,hk,h1,h2=>by
  have hk1:=hk k (cK ..);have hk2:∀k∈ks,k∈bx m:=fun x hx=>hk x (List.mem_cons_of_mem _ hx);unfold Dt;split
  . exact ⟨h1,fun h=>(by cases h),by simp [h2],fun f hf=>by simp [h2] at hf⟩
  rename_i hne;have hne:z.tries≠lim:=fun e=>hne (by rw [e];simp);split
  . have:=hr k ⟨z.tries+1,z.stop,z.found⟩ hk1 (by simp only;omega) h2;split
    . rename_i hb;rw [hb] at this;exact ⟨this.tr,fun h=>(by cases h),this.one,this.fl⟩
    rename_i hb;exact Ip hp hr ks _ hk2 this.tr (this.no (by simpa using hb))
  exact Ip hp hr ks _ hk2 (by simp only;omega) h2
theorem kT {m:aK} {t:lL} {lim:Nat}:∀(d:Nat) (part:lL) (z:SS),(∀k∈part,k∈bx m)->z.tries<=lim->z.found=[]->Vt m lim (part.length+d) (dN m t lim d part z).1 (dN m t lim d part z).2
 |0,part,z,hp,h1,h2=>⟨h1,fun h=>(by cases h),by simp [dN],fun f hf=>by
   simp only [dN,dt] at hf;subst hf;exact ⟨rfl,hp⟩⟩
 |d+1,part,z,hp,h1,h2=>by
  refine Ip hp (fun k z hk h1 h2=> ?_) (bx m) z (fun _ h=>h) h1 h2
  have:=kT d (part++[k]) z (t:=t) (fun x hx=>by
   rcases uq9.1 hx with hx|hx
   . exact hp x hx
   simp at hx;subst hx;exact hk) h1 h2
  rw [uq7,List.length_singleton] at this;rw [show part.length+(d+1)=part.length+1+d by omega];exact this
theorem BA (ab:lL) (key:lI) (h:ab.length<=1000):Fn pG 241 [aR ab,aQ key] false (· =aR (ab++[key])):=by
 refine Fn.cf 11 [.tmp 4] func241 (hv:= ?_);have tc:(ab.map aQ).take ab.length=ab.map aQ:=c7 (by simp);cases ab with
 |nil=>
  simp -dsimp -implicitDefEqProofs only [go_sem];all_goals first|(simp [aQ];done)|skip
 |cons c r=>
  have hf:bn ((c::r).map aQ)=false:=rfl;generalize c::r=ab at*;simp -dsimp -implicitDefEqProofs only [go_sem,hf,tc];((with_reducible and_intros);all_goals try (omega));all_goals first|(refine .inr ⟨by omega,?_⟩;rw [c7 (by simp)];simp [aQ];done)|skip
theorem BB (m:aK) (t ab:lL) (hm:aY m=true) (h0:ab.length<=1000) (h1:ab.length<=t.length) (h2:0<t.length) (hk:∀i (hi:i<t.length),t[i].length=(t.getD 0 []).length) (hd:(t.getD 0 []).length<=1000) (hc:∀x∈ab,(x.length:Int)=m.af):
 Fn pG 242 [jM m t,aR ab] true (· =eB (lJ m t ab)):=by
 have hq:=qF m t ab hm h0 h1 h2 hk hd hc;refine Fn.au 10 [.tmp 4] func242 (hv:= ?_);unfold lJ;generalize gN m t ab=F at*;simp -dsimp -implicitDefEqProofs only [go_sem];refine av (hq) (by simp [ax,an,aq,aG]) ?_;simp -dsimp -implicitDefEqProofs only [go_sem]
theorem s7 (xs:lI) (h:xs.length<=1048576):Fn pG 57 [aQ xs] false (· =aQ xs):=by refine Fn.cf 6 [.tmp 2] func57 (hv:= ?_);simp -dsimp -implicitDefEqProofs only [go_sem];(all_goals try (omega))
theorem yp (t:lL) (h:t.length<=1000) (h2:∀x∈t,x.length<=1048576):Fn pG 31 [aR t] false (· =aR t):=by
 refine Fn.cf 21 [.tmp 2] func31 (hv:= ?_);simp -dsimp -implicitDefEqProofs only [go_sem];refine aj.up [0] [8,17,18,19] [5] t.length (fun _=>True) (fun i=>[(4,eI i),(3,.ref 5 0 0 i)]) (fun i=>[(5,.row 0 ⟨1,false⟩ (i==0) ((t.take i).map aQ))]) trivial ?_ rfl (fun i hi _=> ?_) (fun _=> ?_)
 . simp -dsimp -implicitDefEqProofs only [go_sem]
 . have gi:=get_some hi;have li:=aE hi;have ho:=s7 t[i] (h2 _ (uq6 hi));have e2:(t.take (i+1)).map aQ=(t.take i).map aQ++[aQ t[i]]:=by rw [iH hi,List.map_append];rfl
   have hln:(t.take i).length=i:=by simp;omega
   have e0:(i+1==0)=false:=rfl;rw [e0,e2];clear e0 e2;generalize t.take i=F at*;generalize t[i]=x at*;have tF:(F.map aQ).take i=F.map aQ:=c7 (by simp;omega);simp -dsimp -implicitDefEqProofs only [pz,bd,aP,aW,↓reduceIte,aO];simp -dsimp -implicitDefEqProofs only [go_sem,gi,li];((with_reducible and_intros);all_goals try (omega));refine av (ho) (by simp [ax,an,aG]) ?_;simp -dsimp -implicitDefEqProofs only [go_sem];refine .inr ⟨by omega,by omega,(by cases i with|zero=>exact .inr rfl|succ i=>exact .inl rfl),⟨by omega,by omega⟩,?_⟩;simp -dsimp -implicitDefEqProofs only [go_sem,tF];(all_goals try (exact rfl))
 have tt:(t.map aQ).take t.length=t.map aQ:=c7 (by simp);rw [cj];simp -dsimp -implicitDefEqProofs only [pz,bd,aP,aW,↓reduceIte,aO];simp -dsimp -implicitDefEqProofs only [go_sem,aA]
def eF (fs:List lL):AV:=match fs with
 | []=>.val (.slice none 0 0)
 |f::r=>.arr ⟨1,false⟩ (aR f::r.map aR)
theorem cT:eF []= .val (.slice none 0 0):=rfl
theorem s8 (f:lL):eF [f]= .arr ⟨1,false⟩ [aR f]:=rfl
abbrev sB (v:Nat) (m:aK) (t:lL) (lim:Nat) (z:SS):bj:=
 .box v [eI m.af,eI m.ao,eI m.step,eI m.same,eI m.least,aR t,eI lim,eI 1,eI z.tries,eB z.stop,eF z.found]
structure PG (t:lL):Prop where
 n:1<=t.length/\t.length<=900
 r:∀i (hi:i<t.length),t[i].length=(t.getD 0 []).length
 d:(t.getD 0 []).length<=1000
theorem yq {m:aK} (hm:aY m=true):∃k0,(bx m)[0]? =some k0/\Fn pG 87 [la m,Vr] false (· = .aX [aQ k0,eB true]):=by have ⟨⟨n1,n2⟩,n3,n4⟩:=aM hm;obtain ⟨k0,hk0⟩:=FD hm;have hf:=(yl m hm m.af.toNat [] (by simp;omega) (fun x hx=>by cases hx)).Px (args':=[la m,Vr]) (.cons (.refl _) (.cons (.nil _) .nil));unfold s4 at hf;rw [hk0] at hf;exact ⟨k0,by rw [←List.head?_eq_getElem?,←Io,hk0],hf⟩
set_option maxHeartbeats 16000000 in
theorem Me (m:aK) (t:lL) (lim:Nat) (hm:aY m=true) (ht:PG t) (hl:lim<=4000):∀(d v:Nat) (part:lL) (z:SS),part.length+d=t.length->(∀k∈part,k∈bx m)->z.tries<=lim->z.found=[]→
 qw pG 189 [sB v m t lim z] [.ptr 1000000000 v 0 0,aR part,.val (.slice none 0 0)] (fun x io=>x=eB (dN m t lim d part z).1/\io=[sB v m t lim (dN m t lim d part z).2]):=by
 have ⟨⟨n1,n2⟩,n3,n4⟩:=aM hm;have hK:=fun k (hk:k∈bx m)=>kg (m:=m) (by omega) hk;have ⟨⟨ht1,ht2⟩,ht3,ht4⟩:=ht;obtain ⟨k0,hk1,hf⟩:=yq hm;intro d;induction d with
 |zero=>
  intro v part z hd hp hz1 hz2;refine qw.dK 105 [.tmp 6] func189 (hv:= ?_);obtain ⟨tries,stop,found⟩:=z;simp only at hz1 hz2;subst hz2;have hln:((part.length:Int)==(t.length:Int))=true:=by simp;omega
  unfold dN;simp -dsimp -implicitDefEqProofs only [go_sem,cT,hln];refine .inr ?_;refine aj.U8 1000000000 v 10 26 0 0 1 ⟨1,false⟩ false _ _ (by decide) rfl rfl rfl (by simp) ?_;refine aj.draw mixed rfl ?_;simp -dsimp -implicitDefEqProofs only [go_sem];((with_reducible and_intros);all_goals try (exact rfl))
 |succ d ih=>
  intro v part z hd hp hz1 hz2;refine qw.dK 105 [.tmp 6] func189 (hv:= ?_);have hln:((part.length:Int)==(t.length:Int))=false:=by simp;omega
  obtain ⟨RR,hR⟩:∃RR,dN m t lim (d+1) part z=RR:=⟨_,rfl⟩;rw [hR];unfold dN at hR;obtain ⟨tries0,stop0,found0⟩:=z;simp only at hz1 hz2;subst hz2;simp -dsimp -implicitDefEqProofs only [go_sem,hln,cT];refine av hf (by simp [ax,an,aq,aG]) ?_;have h00:decide ((0:Int)>0)=false:=rfl;simp -dsimp -implicitDefEqProofs only [go_sem,h00];have hdr:Dt m t lim part (dN m t lim d) ((bx m).drop 0) ⟨tries0,stop0,[]⟩=RR:=hR;clear hR
  refine aj.lp [0,1] [83,89,93,102] [1000000000] (fun x:Nat × SS=>x.1<=(bx m).length/\x.2.tries<=lim/\x.2.found=[]/\Dt m t lim part (dN m t lim d) ((bx m).drop x.1) x.2=RR) (fun x=>[(8,eB ((bx m)[x.1]?).isSome),(7,Md ((bx m)[x.1]?))])
   (fun x=>[(1000000000,sB v m t lim x.2)]) (fun x=>(bx m).length-x.1) (0,⟨tries0,stop0,[]⟩) ⟨Nat.zero_le _,hz1,rfl,hdr⟩ ?_ rfl (fun x hx=> ?_)
  . rw [hk1];simp -dsimp -implicitDefEqProofs only [go_sem,cZ,du,cT]
  obtain ⟨i,z⟩:=x;obtain ⟨x1,x2,x3,x4⟩:=hx;obtain ⟨tries,stop,found⟩:=z;simp only at x1 x2 x3 x4 ⊢;subst x3;rcases Nat.lt_or_ge i (bx m).length with hi|hi
  . have gi:=get_some hi;have hki:=hK _ (uq6 hi);have hkm:=uq6 hi;rw [List.drop_eq_getElem_cons hi] at x4;generalize (bx m)[i]=k at*;have hnx:=s5 m k hm hki.len hki.el;rw [yo (by omega) gi,CU] at hnx;have hw:=BA part k (by omega);have hp2:∀x∈part++[k],x∈bx m:=fun x hx=>by
     rcases uq9.1 hx with hx|hx
     . exact hp x hx
     simp at hx;subst hx;exact hkm
    have ho:=BB m t (part++[k]) hm (by simp;omega) (by simp;omega) (by omega) ht3 ht4 (fun x hx=>(hK x (hp2 x hx)).len);have kZ:=fun z=>ih v (part++[k]) z (by simp;omega) hp2;have I3:=fun z h1 h2=>kT (m:=m) (t:=t) (lim:=lim) d (part++[k]) z hp2 h1 h2;unfold Dt at x4;rw [gi];generalize hO:(bx m)[i+1]? =o at*;generalize lJ m t (part++[k])=b at*;clear hK ih;cases htl:((tries:Int)==(lim:Int)) with
    |true=>
     rw [htl,if_pos rfl] at x4;subst x4;simp -dsimp -implicitDefEqProofs only [pz,bd,aP,aW,↓reduceIte,aO];simp -dsimp -implicitDefEqProofs only [go_sem,cZ,du];refine aj.draw mixed rfl ?_;simp -dsimp -implicitDefEqProofs only [go_sem,htl];((with_reducible and_intros);all_goals try (exact rfl))
    |false=>
     have YJ:tries≠lim:=fun e=>by rw [e] at htl;simp at htl
     rw [htl,if_neg (by simp)] at x4;simp -dsimp -implicitDefEqProofs only [pz,bd,aP,aW,↓reduceIte,aO];simp -dsimp -implicitDefEqProofs only [go_sem,cZ,du];refine aj.draw mixed rfl ?_;simp -dsimp -implicitDefEqProofs only [go_sem,htl];((with_reducible and_intros);all_goals try first|(refine ⟨?_,?_⟩<;>omega)|exact rfl);refine av hw (by simp [ax,an,aG]) ?_;simp -dsimp -implicitDefEqProofs only [go_sem];refine aa ho ?_;cases b with
     |true=>
      rw [if_pos rfl] at x4;have kZ:=kZ ⟨tries+1,stop,[]⟩ (by simp only;omega) rfl;have I3:=I3 ⟨tries+1,stop,[]⟩ (by simp only;omega) rfl;generalize dN m t lim d (part++[k]) ⟨tries+1,stop,[]⟩=F at*;obtain ⟨bb,tr,st,fd⟩:=F;obtain ⟨g1,g2,g3,g4⟩:=I3;simp only at g1 g2 g3 x4;cases bb with
      |true=>
       rw [if_pos rfl] at x4;subst x4;simp -dsimp -implicitDefEqProofs only [go_sem];refine ig [1000000000] ?_;cases fd with
       |nil=>
        simp -dsimp -implicitDefEqProofs only [go_sem,cT];refine dL kZ ?_;rintro _ _ ⟨rfl,rfl⟩;simp -dsimp -implicitDefEqProofs only [go_sem,cT];(all_goals try (exact rfl))
       |cons f r=>
        obtain rfl:r=[]:=by cases r with|nil=>rfl|cons=>simp at g3
        simp -dsimp -implicitDefEqProofs only [go_sem,cT];refine dL kZ ?_;rintro _ _ ⟨rfl,rfl⟩;simp -dsimp -implicitDefEqProofs only [go_sem,s8];(all_goals try (exact rfl))
      |false=>
       rw [if_neg (by simp)] at x4;obtain rfl:=g2 rfl;simp -dsimp -implicitDefEqProofs only [go_sem];refine ig [1000000000] ?_;simp -dsimp -implicitDefEqProofs only [go_sem,cT];refine dL kZ ?_;rintro _ _ ⟨rfl,rfl⟩;simp -dsimp -implicitDefEqProofs only [go_sem,cT];refine av hnx (by simp [ax,an,aq,aG]) ?_;cases o with
       |some k2=>
        simp -dsimp -implicitDefEqProofs only [go_sem];refine ⟨(i+1,⟨tr,st,[]⟩),⟨by omega,g1,rfl,x4⟩,by simp only;omega,?_⟩;rw [hO];simp -dsimp -implicitDefEqProofs only [go_sem,cZ,du,cT]
       |none=>
        simp -dsimp -implicitDefEqProofs only [go_sem];refine ⟨(i+1,⟨tr,st,[]⟩),⟨by omega,g1,rfl,x4⟩,by simp only;omega,?_⟩;rw [hO];simp -dsimp -implicitDefEqProofs only [go_sem,fM,Option.isSome_none,cT]
     |false=>
      rw [if_neg (by simp)] at x4;simp -dsimp -implicitDefEqProofs only [go_sem];refine av hnx (by simp [ax,an,aq,aG]) ?_;cases o with
      |some k2=>
       simp -dsimp -implicitDefEqProofs only [go_sem];refine ⟨(i+1,⟨tries+1,stop,[]⟩),⟨by omega,by simp only;omega,rfl,x4⟩,by simp only;omega,?_⟩;rw [hO];simp -dsimp -implicitDefEqProofs only [go_sem,cZ,du,cT];(all_goals try (exact rfl))
      |none=>
       simp -dsimp -implicitDefEqProofs only [go_sem];refine ⟨(i+1,⟨tries+1,stop,[]⟩),⟨by omega,by simp only;omega,rfl,x4⟩,by simp only;omega,?_⟩;rw [hO];simp -dsimp -implicitDefEqProofs only [go_sem,fM,Option.isSome_none,cT];(all_goals try (exact rfl))
  have gn:(bx m)[i]? =none:=List.getElem?_eq_none hi;rw [List.drop_of_length_le hi,Dt] at x4;subst x4;rw [gn];simp -dsimp -implicitDefEqProofs only [pz,bd,aP,aW,↓reduceIte,aO];simp -dsimp -implicitDefEqProofs only [go_sem,fM,Option.isSome_none,cT];(all_goals try (exact rfl))
set_option maxHeartbeats 16000000 in
theorem Iq (m:aK) (t:lL) (lim:Nat) (hm:aY m=true) (ht:PG t) (hl:lim<=4000) (d v:Nat) (z:SS) (hd0:d+1=t.length) (hz1:z.tries<=lim) (hz2:z.found=[]):
 qw pG 189 [sB v m t lim z] [.ptr 1000000000 v 0 0,.val (.slice none 0 0),.val (.slice none 0 0)] (fun x io=>x=eB (dN m t lim (d+1) [] z).1/\io=[sB v m t lim (dN m t lim (d+1) [] z).2]):=by
 have ⟨⟨n1,n2⟩,n3,n4⟩:=aM hm;have hK:=fun k (hk:k∈bx m)=>kg (m:=m) (by omega) hk;have ⟨⟨ht1,ht2⟩,ht3,ht4⟩:=ht;obtain ⟨k0,hk1,hf⟩:=yq hm;refine qw.dK 105 [.tmp 6] func189 (hv:= ?_);have hln:((0:Int)==(t.length:Int))=false:=by simp;omega
 have hd:([]:lL).length+(d+1)=t.length:=by simp;omega
 have hp:∀k∈([]:lL),k∈bx m:=fun k h=>by cases h
 obtain ⟨RR,hR⟩:∃RR,dN m t lim (d+1) [] z=RR:=⟨_,rfl⟩;rw [hR];unfold dN at hR;obtain ⟨tries0,stop0,found0⟩:=z;simp only at hz1 hz2;subst hz2;simp -dsimp -implicitDefEqProofs only [go_sem,hln,cT];refine av hf (by simp [ax,an,aq,aG]) ?_;have h00:decide ((0:Int)>0)=false:=rfl;simp -dsimp -implicitDefEqProofs only [go_sem,h00];have hdr:Dt m t lim [] (dN m t lim d) ((bx m).drop 0) ⟨tries0,stop0,[]⟩=RR:=hR;clear hR
 refine aj.lp [0,1] [83,89,93,102] [1000000000] (fun x:Nat × SS=>x.1<=(bx m).length/\x.2.tries<=lim/\x.2.found=[]/\Dt m t lim [] (dN m t lim d) ((bx m).drop x.1) x.2=RR) (fun x=>[(8,eB ((bx m)[x.1]?).isSome),(7,Md ((bx m)[x.1]?))])
  (fun x=>[(1000000000,sB v m t lim x.2)]) (fun x=>(bx m).length-x.1) (0,⟨tries0,stop0,[]⟩) ⟨Nat.zero_le _,hz1,rfl,hdr⟩ ?_ rfl (fun x hx=> ?_)
 . rw [hk1];simp -dsimp -implicitDefEqProofs only [go_sem,cZ,du,cT]
 obtain ⟨i,z⟩:=x;obtain ⟨x1,x2,x3,x4⟩:=hx;obtain ⟨tries,stop,found⟩:=z;simp only at x1 x2 x3 x4 ⊢;subst x3;rcases Nat.lt_or_ge i (bx m).length with hi|hi
 . have gi:=get_some hi;have hki:=hK _ (uq6 hi);have hkm:=uq6 hi;rw [List.drop_eq_getElem_cons hi] at x4;generalize (bx m)[i]=k at*;have hnx:=s5 m k hm hki.len hki.el;rw [yo (by omega) gi,CU] at hnx;have hw:=(BA [] k (by simp)).Px (args':=[.val (.slice none 0 0),aQ k]) (.cons (.nil _) (.cons (.refl _) .nil));have hp2:∀x∈[]++[k],x∈bx m:=fun x hx=>by
    rcases uq9.1 hx with hx|hx
    . exact hp x hx
    simp at hx;subst hx;exact hkm
   have ho:=BB m t ([]++[k]) hm (by simp) (by simp only [List.nil_append,List.length_singleton];omega) (by omega) ht3 ht4 (fun x hx=>(hK x (hp2 x hx)).len);have kZ:=fun z=>Me m t lim hm ht hl d v ([]++[k]) z (by simp only [List.nil_append,List.length_singleton];omega) hp2;have I3:=fun z h1 h2=>kT (m:=m) (t:=t) (lim:=lim) d ([]++[k]) z hp2 h1 h2;unfold Dt at x4;rw [gi];generalize hO:(bx m)[i+1]? =o at*;generalize lJ m t ([]++[k])=b at*;clear hK;cases htl:((tries:Int)==(lim:Int)) with
   |true=>
    rw [htl,if_pos rfl] at x4;subst x4;simp -dsimp -implicitDefEqProofs only [pz,bd,aP,aW,↓reduceIte,aO];simp -dsimp -implicitDefEqProofs only [go_sem,cZ,du];refine aj.draw mixed rfl ?_;simp -dsimp -implicitDefEqProofs only [go_sem,htl];((with_reducible and_intros);all_goals try (exact rfl))
   |false=>
    have YJ:tries≠lim:=fun e=>by rw [e] at htl;simp at htl
    rw [htl,if_neg (by simp)] at x4;simp -dsimp -implicitDefEqProofs only [pz,bd,aP,aW,↓reduceIte,aO];simp -dsimp -implicitDefEqProofs only [go_sem,cZ,du];refine aj.draw mixed rfl ?_;simp -dsimp -implicitDefEqProofs only [go_sem,htl];((with_reducible and_intros);all_goals try first|(refine ⟨?_,?_⟩<;>omega)|exact rfl);refine av hw (by simp [ax,an,aG]) ?_;simp -dsimp -implicitDefEqProofs only [go_sem];refine aa ho ?_;cases b with
    |true=>
     rw [if_pos rfl] at x4;have kZ:=kZ ⟨tries+1,stop,[]⟩ (by simp only;omega) rfl;have I3:=I3 ⟨tries+1,stop,[]⟩ (by simp only;omega) rfl;generalize dN m t lim d ([]++[k]) ⟨tries+1,stop,[]⟩=F at*;obtain ⟨bb,tr,st,fd⟩:=F;obtain ⟨g1,g2,g3,g4⟩:=I3;simp only at g1 g2 g3 x4;cases bb with
     |true=>
      rw [if_pos rfl] at x4;subst x4;simp -dsimp -implicitDefEqProofs only [go_sem];refine ig [1000000000] ?_;cases fd with
      |nil=>
       simp -dsimp -implicitDefEqProofs only [go_sem,cT];refine dL kZ ?_;rintro _ _ ⟨rfl,rfl⟩;simp -dsimp -implicitDefEqProofs only [go_sem,cT];(all_goals try (exact rfl))
      |cons f r=>
       obtain rfl:r=[]:=by cases r with|nil=>rfl|cons=>simp at g3
       simp -dsimp -implicitDefEqProofs only [go_sem,cT];refine dL kZ ?_;rintro _ _ ⟨rfl,rfl⟩;simp -dsimp -implicitDefEqProofs only [go_sem,s8];(all_goals try (exact rfl))
     |false=>
      rw [if_neg (by simp)] at x4;obtain rfl:=g2 rfl;simp -dsimp -implicitDefEqProofs only [go_sem];refine ig [1000000000] ?_;simp -dsimp -implicitDefEqProofs only [go_sem,cT];refine dL kZ ?_;rintro _ _ ⟨rfl,rfl⟩;simp -dsimp -implicitDefEqProofs only [go_sem,cT];refine av hnx (by simp [ax,an,aq,aG]) ?_;cases o with
      |some k2=>
       simp -dsimp -implicitDefEqProofs only [go_sem];refine ⟨(i+1,⟨tr,st,[]⟩),⟨by omega,g1,rfl,x4⟩,by simp only;omega,?_⟩;rw [hO];simp -dsimp -implicitDefEqProofs only [go_sem,cZ,du,cT]
      |none=>
       simp -dsimp -implicitDefEqProofs only [go_sem];refine ⟨(i+1,⟨tr,st,[]⟩),⟨by omega,g1,rfl,x4⟩,by simp only;omega,?_⟩;rw [hO];simp -dsimp -implicitDefEqProofs only [go_sem,fM,Option.isSome_none,cT]
    |false=>
     rw [if_neg (by simp)] at x4;simp -dsimp -implicitDefEqProofs only [go_sem];refine av hnx (by simp [ax,an,aq,aG]) ?_;cases o with
     |some k2=>
      simp -dsimp -implicitDefEqProofs only [go_sem];refine ⟨(i+1,⟨tries+1,stop,[]⟩),⟨by omega,by simp only;omega,rfl,x4⟩,by simp only;omega,?_⟩;rw [hO];simp -dsimp -implicitDefEqProofs only [go_sem,cZ,du,cT];(all_goals try (exact rfl))
     |none=>
      simp -dsimp -implicitDefEqProofs only [go_sem];refine ⟨(i+1,⟨tries+1,stop,[]⟩),⟨by omega,by simp only;omega,rfl,x4⟩,by simp only;omega,?_⟩;rw [hO];simp -dsimp -implicitDefEqProofs only [go_sem,fM,Option.isSome_none,cT];(all_goals try (exact rfl))
 have gn:(bx m)[i]? =none:=List.getElem?_eq_none hi;rw [List.drop_of_length_le hi,Dt] at x4;subst x4;rw [gn];simp -dsimp -implicitDefEqProofs only [pz,bd,aP,aW,↓reduceIte,aO];simp -dsimp -implicitDefEqProofs only [go_sem,fM,Option.isSome_none,cT];(all_goals try (exact rfl))
def kU (m:aK) (t:lL) (lim:Int):Int:=if eO m t=true then (if bB lim 0 4000=true then 0 else 2) else 1
theorem BC (m:aK) (t:lL) (lim:Int) (h:t.length<=1048576) (h2:∀x∈t,x.length<=1048576):Fn pG 136 [jM m t,eI lim] true (· =eI (kU m t lim)):=by
 have hs:=uN m t h h2;unfold kU;refine Fn.au 11 [.tmp 4] func136 (hv:= ?_);cases hsy:eO m t with
 |false=>
  rw [hsy] at hs;simp -dsimp -implicitDefEqProofs only [go_sem];refine aa hs ?_;simp -dsimp -implicitDefEqProofs only [go_sem]
 |true=>
  rw [hsy] at hs;have hi:=jz lim 0 4000;cases hin:bB lim 0 4000 with
  |false=>
   rw [hin] at hi;simp -dsimp -implicitDefEqProofs only [go_sem];refine aa hs ?_;simp -dsimp -implicitDefEqProofs only [go_sem];refine aa hi ?_;simp -dsimp -implicitDefEqProofs only [go_sem]
  |true=>
   rw [hin] at hi;simp -dsimp -implicitDefEqProofs only [go_sem];refine aa hs ?_;simp -dsimp -implicitDefEqProofs only [go_sem];refine aa hi ?_;simp -dsimp -implicitDefEqProofs only [go_sem]
def fV (z:SS):AV:=match z.found with
 |f::_=>.aX [aR f,eI z.tries,eI 0]
 | []=>.aX [.val (.slice none 0 0),eI 0,eI (if z.stop=true then 3 else 4)]
theorem Ir (v:Nat) (m:aK) (t:lL) (lim:Nat) (z:SS) (h1:z.found.length<=1) (h2:∀f∈z.found,f.length<=1000/\∀k∈f,k.length<=1000):
 qw pG 137 [sB v m t lim z] [.ptr 1000000000 v 0 0] (fun x io=>x=fV z/\io=[sB v m t lim z]):=by
 refine qw.dK 26 [.tmp 2,.tmp 3,.tmp 4] func137 (hv:= ?_);obtain ⟨tries,stop,found⟩:=z;have h00:decide ((0:Int)>0)=false:=rfl;have h10:decide (((1:Nat):Int)>0)=true:=rfl;simp only at h1 h2;cases found with
 |nil=>
  cases stop with
  |true=>
   simp -dsimp -implicitDefEqProofs only [go_sem,cT,fV,h00];(all_goals try (exact rfl))
  |false=>
   simp -dsimp -implicitDefEqProofs only [go_sem,cT,fV,h00];(all_goals try (exact rfl))
 |cons f r=>
  obtain rfl:r=[]:=by cases r with|nil=>rfl|cons=>simp at h1
  have ho:=h2 f (cK ..);have hq:=yp f ho.1 (fun x hx=>by have:=ho.2 x hx;omega);simp -dsimp -implicitDefEqProofs only [go_sem,s8,h10];refine aj.draw mixed rfl ?_;simp -dsimp -implicitDefEqProofs only [go_sem,s8];((with_reducible and_intros);all_goals try (omega));refine aH hq (by simp [ax,an,aG]) ?_;simp -dsimp -implicitDefEqProofs only [go_sem,s8];((with_reducible and_intros);all_goals try (exact rfl))
def lK (m:aK) (t:lL) (lim:Nat):AV:=if kU m t lim=0 then fV (dN m t lim t.length [] ⟨0,false,[]⟩).2 else .aX [.val (.slice none 0 0),eI 0,eI (kU m t lim)]
theorem PH {m:aK} {t:lL} (h:eO m t=true):aY m=true/\PG t:=by have ⟨h1,h2,h3,h4,h5⟩:=iT h;simp only [eO,uq0] at h;exact ⟨h.1.1,⟨h1,by omega⟩,h5,by omega⟩
theorem CV (m:aK) (t:lL) (lim:Nat) (h:t.length<=1048576) (h2:∀x∈t,x.length<=1048576) (su:lim<=4000):Fn pG 96 [jM m t,eI lim] false (· =lK m t lim):=by
 refine Fn.cf 21 [.tmp 4,.tmp 5,.tmp 6] func96 (hv:= ?_);have hc:=BC m t lim h h2;unfold lK;cases hz:(kU m t lim != 0) with
 |true=>
  have hz':kU m t lim≠0:=by simpa using hz
  rw [if_neg hz'];simp -dsimp -implicitDefEqProofs only [go_sem];refine aa hc ?_;simp -dsimp -implicitDefEqProofs only [go_sem,hz]
 |false=>
  have hz':kU m t lim=0:=by simpa using hz
  rw [if_pos hz'];have hs:eO m t=true:=by
   cases h:eO m t with
   |true=>rfl
   |false=>rw [kU,h,if_neg (by simp)] at hz';exact absurd hz' (by decide)
  obtain ⟨hm,ht⟩:=PH hs;have hfr:=fun v=>Iq m t lim hm ht su (t.length-1) v ⟨0,false,[]⟩ (by have:=ht.n;omega) (Nat.zero_le _) rfl;have hok:=kT (m:=m) (t:=t) (lim:=lim) t.length [] ⟨0,false,[]⟩ (fun k h=>by cases h) (Nat.zero_le _) rfl;rw [show t.length-1+1=t.length by have:=ht.n;omega] at hfr;have hfi:=fun v z h1 h2=>Ir v m t lim z h1 h2;have ko:=aM hm;have htn:=ht.n;generalize dN m t lim t.length [] ⟨0,false,[]⟩=F at*;obtain ⟨b,z⟩:=F;obtain ⟨g1,g2,g3,g4⟩:=hok;simp only at g1 g2 g3 g4 hfr ⊢;have hfi:=fun v=>hfi v z g3 (fun f hf=>⟨by have:=(g4 f hf).1;simp at this;omega,fun k hk=>by have:=(kg (m:=m) (by omega) ((g4 f hf).2 k hk)).len;omega⟩);simp -dsimp -implicitDefEqProofs only [go_sem];refine aa hc ?_;simp -dsimp -implicitDefEqProofs only [go_sem,hz];have h10:decide ((1:Int)>0)=true:=rfl;refine ca 900000 21 [.tmp 8] func138 rfl rfl rfl rfl rfl (by exact oT rfl) ?_;simp -dsimp -implicitDefEqProofs only [go_sem,h10];refine ig [14] ?_;obtain ⟨tr,st,fd⟩:=z;simp only at g1 g2 g3 g4;cases fd with
  |nil=>
   simp -dsimp -implicitDefEqProofs only [go_sem];refine dL (hfr _) ?_;rintro _ _ ⟨rfl,rfl⟩;simp -dsimp -implicitDefEqProofs only [go_sem,cT];refine ig [900014] ?_;simp -dsimp -implicitDefEqProofs only [go_sem];refine dL (hfi _) ?_;rintro _ _ ⟨rfl,rfl⟩;simp -dsimp -implicitDefEqProofs only [go_sem,fV]
  |cons f r=>
   obtain rfl:r=[]:=by cases r with|nil=>rfl|cons=>simp at g3
   simp -dsimp -implicitDefEqProofs only [go_sem];refine dL (hfr _) ?_;rintro _ _ ⟨rfl,rfl⟩;simp -dsimp -implicitDefEqProofs only [go_sem,s8];refine ig [900014] ?_;simp -dsimp -implicitDefEqProofs only [go_sem];refine dL (hfi _) ?_;rintro _ _ ⟨rfl,rfl⟩;simp -dsimp -implicitDefEqProofs only [go_sem,fV]
open Go.Lib
attribute [go_sem] Option.map_none Nat.sub_zero cj List.size_toArray LQ pw SF np nn
theorem SP (a b:lU):(a==b)=decide (a=b):=by
 by_cases h:a=b
 . simp [h]
 simp [h]
attribute [go_sem] SP
theorem nC {x:Int} (h:0<=x/\x<256):IntKind.u8.wrap x=x:=by simp [IntKind.wrap,IntKind.bits,IntKind.signed];omega
theorem JO {n:Nat} (h:n<10):decDigits n=[UInt8.ofNat (48+n)]:=decDigits_one h
theorem PI {n:Nat} (h:¬n<10):decDigits n=decDigits (n / 10)++[UInt8.ofNat (48+n%10)]:=by rw [decDigits,dif_neg h]
theorem zi {n:Nat} (h:n<18446744073709551616):(decDigits n).length<=20:=by rw [decDigits_length];exact nDigits_le20 n h
theorem FE:∀(n:Nat),n<=1000000000000000000->Fn pG 65 [eI n] true (· =eS (decDigits n)):=by
 intro n;induction n using Nat.strongRecOn with
 |_ n ih=>
  intro hn;refine Fn.au 20 [.tmp 2] func65 (hv:= ?_);simp -dsimp -implicitDefEqProofs only [go_sem];by_cases h:n<10
  . have hd:decide ((n:Int)<10)=true:=dT (by omega);have hw:IntKind.u8.wrap (48+(n:Int))=48+(n:Int):=nC (by omega);have ht:(48+(n:Int)).toNat=48+n:=by omega
    rw [JO h];simp -dsimp -implicitDefEqProofs only [go_sem,hd,hw,ht];with_reducible and_intros
    all_goals first|omega|(refine ⟨?_,?_⟩<;>omega)|skip
  have hd:decide ((n:Int)<10)=false:=dF (by omega);have hq:(n:Int).tdiv 10=((n / 10:Nat):Int):=by rw [Int.tdiv_eq_ediv_of_nonneg (by omega)];omega
  have hr:(n:Int).tmod 10=((n%10:Nat):Int):=by rw [Int.tmod_eq_emod_of_nonneg (by omega)];omega
  have hw:IntKind.u8.wrap (48+((n%10:Nat):Int))=48+((n%10:Nat):Int):=nC (by omega);have ht:(48+((n%10:Nat):Int)).toNat=48+n%10:=by omega
  have hl:=zi (n:=n / 10) (by omega);have hc:=ih (n / 10) (by omega) (by omega);rw [PI h];simp -dsimp -implicitDefEqProofs only [go_sem,hd];refine aj.draw mixed rfl ?_;simp -dsimp -implicitDefEqProofs only [go_sem,hq];with_reducible and_intros
  all_goals try (first|omega|(refine ⟨?_,?_⟩<;>omega)|(simp;done))
  refine ak hc ?_;have hz:n%10<10:=Nat.mod_lt _ (by decide);generalize n%10=z at*;simp -dsimp -implicitDefEqProofs only [go_sem,hr,hw,ht];with_reducible and_intros
  all_goals first|omega|(refine ⟨?_,?_⟩<;>omega)|exact rfl|skip
theorem fg (n:Int) (h:0<=n/\n<=1000000000000000000):Fn pG 65 [eI n] true (· =eS (itoa n)):=by have:=FE n.toNat (by omega);rw [show ((n.toNat:Nat):Int)=n by omega] at this;rw [e7 h.1];exact this
theorem kV {n:Int} (h:km n):Fn pG 83 [eI n] true (· =eS (itoa n)):=by refine Fn.au 5 [.tmp 2] func83 (hv:= ?_);simp -dsimp -implicitDefEqProofs only [go_sem];refine aa (Ft h) ?_;simp -dsimp -implicitDefEqProofs only [go_sem]
theorem SQ (s:lU):pL s=(l4 s,xZ s&&decide (itoa (l4 s)=s)):=by unfold pL l4 xZ;cases parseIntB 64 s<;>simp
theorem Mf (s:lU):km (l4 s):=by
 unfold l4;rcases hp:parseIntB 64 s with v|_|_
 . exact uL hp
 . unfold km;simp
 simp only [intSat];split<;>simp [km]
theorem PJ (s:lU) (h:s.length<=1048576):Fn pG 69 [eS s] true (· = .aX [eI (pL s).1,eB (pL s).2]):=by
 refine Fn.au 20 [.tmp 2,.tmp 3] func69 (hv:= ?_);simp -dsimp -implicitDefEqProofs only [go_sem];refine wH (Ib s h) ?_;rintro _ ⟨e,rfl,he⟩;rw [SQ];have h64:=Mf s;have hl:=cO h64;generalize l4 s=v at*;rcases ho:xZ s with _|_
 . rw [ho] at he;simp only [Bool.false_eq_true,if_false] at he;obtain ⟨t,p,rfl⟩:=he;simp -dsimp -implicitDefEqProofs only [go_sem]
 rw [ho] at he;simp only [if_true] at he;subst he;simp -dsimp -implicitDefEqProofs only [go_sem];refine aa (kV h64) ?_;simp -dsimp -implicitDefEqProofs only [go_sem]
theorem iV (c:UInt8):∀(l:lU),∀w∈di c l,w.length<=l.length
 | [],w,hw=>by simp [di] at hw;simp [hw]
 |b::l,w,hw=>by
  have ih:=iV c l;rw [di] at hw;split at hw
  . rcases List.mem_cons.1 hw with rfl|hw
    . simp
    have:=ih w hw;simp;omega
  split at hw
  . rename_i h t he;rcases List.mem_cons.1 hw with rfl|hw
    . have:=ih h (by rw [he];exact cK ..);simp;omega
    have:=ih w (by rw [he];exact List.mem_cons_of_mem _ hw);simp;omega
  simp at hw;simp [hw]
def fh (c:UInt8) (s:lU):Nat->List lU × Nat
 |0=>([],0)
 |i+1=>if i=s.length\/s.getD i 0=c then ((fh c s i).1++[(s.take i).drop (fh c s i).2],i+1) else fh c s i
theorem PK {α:Type} {s:List α} {i j:Nat} {x:α} (h:s[i]? =some x) (hj:j<=i):s.drop j=(s.take i).drop j++x::s.drop (i+1):=by
 obtain ⟨hlt,he⟩:=List.getElem?_eq_some_iff.1 h;have e:s.take i++x::s.drop (i+1)=s:=by rw [←he,←List.drop_eq_getElem_cons hlt,List.take_append_drop]
 rw [←List.drop_append_of_le_length (by simp;omega),e]
theorem BD (c:UInt8) (s:lU):∀i,i<=s.length->di c s=(fh c s i).1++di c (s.drop (fh c s i).2)/\(fh c s i).2<=i/\c∉(s.take i).drop (fh c s i).2/\(fh c s i).1.length<=i
 |0,_=>by simp [fh]
 |i+1,hi=>by
  obtain ⟨h1,h2,h3,h4⟩:=BD c s i (by omega);have hlt:i<s.length:=by omega
  have hg:s.getD i 0=s[i]:=by rw [uq4,uq5 hlt];rfl
  rw [fh];by_cases hc:s[i]=c
  . rw [if_pos (.inr (by rw [hg];exact hc))];dsimp only;refine ⟨?_,bO _,?_,by simp;omega⟩
    . rw [List.append_assoc,h1];congr 1;have e:=PK (s:=s) (i:=i) (j:=(fh c s i).2) (by rw [uq5 hlt,hc]) h2;rw [e,CN _ h3];rfl
    rw [List.drop_eq_nil_of_le (by simp;omega)];exact List.not_mem_nil
  rw [if_neg (by rw [hg];rintro (h|h);· omega
                 exact hc h)]
  refine ⟨h1,by omega,?_,by omega⟩;rw [iH hlt,List.drop_append];intro hm;rcases uq9.1 hm with hm|hm
  . exact h3 hm
  have:(s.take i).length=i:=by simp;omega
  rw [this,show (fh c s i).2-i=0 by omega] at hm;simp at hm;exact hc hm.symm
theorem Mg (c:UInt8) (s:lU):(fh c s (s.length+1)).1=di c s:=by obtain ⟨h1,h2,h3,h4⟩:=BD c s s.length (bO _);rw [fh,if_pos (.inl rfl)];rw [cj] at h3 ⊢;rw [h1,rZ h3]
theorem FF (c:UInt8) (s:lU):∀i,(fh c s i).1.length<=i/\(fh c s i).2<=i
 |0=>by simp [fh]
 |i+1=>by
  have:=FF c s i;rw [fh];split
  . simp;omega
  omega
theorem W4 (a b:UInt8):(((a.toNat:Int)==(b.toNat:Int))=true)↔a=b:=by
 rw [beq_iff_eq];constructor
 . intro h;exact UInt8.toNat_inj.1 (by omega)
 intro h;rw [h]
theorem yt (s:lU) (c:UInt8) (h:s.length<=1048576):Fn pG 56 [eS s,.val (.int .u8 c.toNat)] true (· =lZ (di c s)):=by
 refine Fn.au 36 [.tmp 4] func56 (hv:= ?_);simp -dsimp -implicitDefEqProofs only [go_sem];refine aj.up [0,1] [11,17,31,32] [8] (s.length+1) (fun _=>True) (fun i=>[(5,.ref 8 0 0 (fh c s i).1.length),(6,eI ((fh c s i).2:Nat)),(7,eI i)]) (fun i=>[(8,.row 0 ⟨1,false⟩ true ((fh c s i).1.map eS))]) trivial ?_ rfl (fun i hi _=> ?_) (fun _=> ?_)
 . simp -dsimp -implicitDefEqProofs only [go_sem];simp [fh]
 . have hle:=FF c s i;have d1:decide ((i:Int)<=(s.length:Int))=true:=dT (by omega);have hst:fh c s (i+1)=if i=s.length\/s.getD i 0=c then ((fh c s i).1++[(s.take i).drop (fh c s i).2],i+1) else fh c s i:=rfl
   rw [hst];clear hst;generalize fh c s i=q at*;obtain ⟨out,fr⟩:=q;dsimp only at hle ⊢;rcases he:((i:Int)==(s.length:Int)) with _|_
   . have hne:i≠s.length:=by intro e;subst e;simp at he
     have hlt:i<s.length:=by omega
     have hg:s.getD i 0=s[i]:=by rw [uq4,uq5 hlt];rfl
     have hu:=W4 s[i] c;rw [hg];generalize s[i]=b at*;rcases hb:((b.toNat:Int)==(c.toNat:Int)) with _|_
     . have hbc:b≠c:=fun e=>by rw [hu.2 e] at hb;cases hb
       rw [if_neg (by rintro (w|w);· exact hne w
                      exact hbc w)]
       simp -dsimp -implicitDefEqProofs only [pz,bd,aP,aW,↓reduceIte,aO];simp -dsimp -implicitDefEqProofs only [go_sem,d1,he,hg,hb];with_reducible and_intros
       all_goals (first|omega|(refine ⟨?_,?_⟩<;>omega)|exact rfl|skip)
     rw [if_pos (.inr (hu.1 hb))];simp -dsimp -implicitDefEqProofs only [pz,bd,aP,aW,↓reduceIte,aO];simp -dsimp -implicitDefEqProofs only [go_sem,d1,he,hg,hb];with_reducible and_intros
     all_goals try (first|omega|(refine ⟨?_,?_⟩<;>omega))
     all_goals first|(simp;done)|skip
   have hq:i=s.length:=by have:=beq_iff_eq.1 he;omega
   rw [if_pos (.inl hq)];simp -dsimp -implicitDefEqProofs only [pz,bd,aP,aW,↓reduceIte,aO];simp -dsimp -implicitDefEqProofs only [go_sem,d1,he];with_reducible and_intros
   all_goals try (first|omega|(refine ⟨?_,?_⟩<;>omega))
   all_goals first|(simp;done)|skip
 have d1:decide (((s.length+1:Nat):Int)<=(s.length:Int))=false:=dF (by omega);rw [Mg];simp -dsimp -implicitDefEqProofs only [pz,bd,aP,aW,↓reduceIte,aO];simp -dsimp -implicitDefEqProofs only [go_sem,d1];all_goals first|(simp;done)|skip
theorem Is (b:UInt8):(decide (48<=b.toNat)&&decide (b.toNat<=57))=(!(decide ((b.toNat:Int)<48)||decide ((b.toNat:Int)>57))):=by
 by_cases h1:48<=b.toNat
 . by_cases h2:b.toNat<=57
   . rw [decide_eq_true h1,decide_eq_true h2,decide_eq_false (by omega),decide_eq_false (by omega)];rfl
   rw [decide_eq_true h1,decide_eq_false h2,decide_eq_false (by omega),decide_eq_true (by omega)];rfl
 rw [decide_eq_false h1,decide_eq_true (show (b.toNat:Int)<48 by omega)];rfl
abbrev dO (b:UInt8):Bool:=decide (48<=b.toNat)&&decide (b.toNat<=57)
theorem JP {n:Nat} (h:n<=13):10^n<=10000000000000:=by have:=c8 (show 0<10 by decide) h;exact this
theorem It (s:lU) (h:s.length<=1048576):Fn pG 71 [eS s] true (· = .aX [eI (dS s).1,eB (dS s).2]):=by
 refine Fn.au 43 [.tmp 2,.tmp 3] func71 (hv:= ?_);unfold dS;rcases h1:decide ((s.length:Int)<1) with _|_
 . rcases h13:decide ((s.length:Int)>13) with _|_
   . have g1:=of_decide_eq_false h1;have g2:=of_decide_eq_false h13;rw [if_neg (by omega)];have hv:∀i,i<=s.length->((s.take i).all dO)=true->jL 0 (s.take i)<=10000000000000:=by
      intro i hi cR;have h3:=rY (s.take i) 0 (fun c hc=>by have:=uq1.1 cR c hc;simpa [dO] using this);have h4:=JP (n:=(s.take i).length) (by simp;omega);rw [Nat.zero_add,Nat.one_mul] at h3;omega
     simp -dsimp -implicitDefEqProofs only [go_sem,h1,h13];refine aj.up [0] [16] [] s.length (fun i=>((s.take i).all dO)=true) (fun i=>[(4,eI ((jL 0 (s.take i):Nat):Int)),(5,eI i)]) (fun _=>[]) rfl ?_ rfl (fun i hi hI=> ?_) (fun hI=> ?_)
     . simp -dsimp -implicitDefEqProofs only [go_sem];exact rfl
     . have hb:=(s[i]).toNat_lt;have hg:(s.getD i 0)=s[i]:=by rw [uq4,uq5 hi];rfl
       have cR:=dw dO s i hi;have hno:=fun h=>gL (p:=dO) hi h;have hdv:jL 0 (s.take (i+1))=jL 0 (s.take i)*10+((s[i]).toNat-48):=by rw [iH hi,Fl];rfl
       have hv1:=hv i (by omega) hI;have hd:=Is s[i];rw [hdv];clear hdv hv;generalize s[i]=b at*;generalize jL 0 (s.take i)=z at*;rcases d1:decide ((b.toNat:Int)<48) with _|_
       . rcases d2:decide ((b.toNat:Int)>57) with _|_
         . have e1:=of_decide_eq_false d1;have e2:=of_decide_eq_false d2;have hw:IntKind.u8.wrap ((b.toNat:Int)-48)=(b.toNat:Int)-48:=nC (by omega);simp -dsimp -implicitDefEqProofs only [pz,↓reduceIte,aO];simp -dsimp -implicitDefEqProofs only [go_sem,aE hi,hg,d1,d2,hw];with_reducible and_intros
           all_goals first|omega|(refine ⟨?_,?_⟩<;>omega)|(rw [cR,hI];show dO b=true;rw [dO,hd,d1,d2];rfl)|(simp;omega)|(simp;done)|skip
         have hz:=hno (by rw [dO,hd,d1,d2];rfl);rw [if_neg (by rw [show (s.all fun c=>decide (48<=c.toNat)&&decide (c.toNat<=57))=s.all dO from rfl,hz];decide)];simp -dsimp -implicitDefEqProofs only [pz,↓reduceIte,aO];simp -dsimp -implicitDefEqProofs only [go_sem,aE hi,hg,d1,d2];with_reducible and_intros
         all_goals (first|omega|skip)
       have hz:=hno (by rw [dO,hd,d1];rfl);rw [if_neg (by rw [show (s.all fun c=>decide (48<=c.toNat)&&decide (c.toNat<=57))=s.all dO from rfl,hz];decide)];simp -dsimp -implicitDefEqProofs only [pz,↓reduceIte,aO];simp -dsimp -implicitDefEqProofs only [go_sem,aE hi,hg,d1];with_reducible and_intros
       all_goals (first|omega|skip)
     rw [cj] at hI;have hv1:=hv s.length (bO _) (by rw [cj];exact hI);rw [cj] at hv1;rw [if_pos (show (s.all fun c=>decide (48<=c.toNat)&&decide (c.toNat<=57))=true from hI),cj];have hcd:=FE (jL 0 s) (by omega);generalize jL 0 s=z at*;simp -dsimp -implicitDefEqProofs only [pz,↓reduceIte,aO];simp -dsimp -implicitDefEqProofs only [go_sem,aA];refine aa hcd ?_;simp -dsimp -implicitDefEqProofs only [go_sem]
   have g1:=oT h13;rw [if_pos (by omega)];simp -dsimp -implicitDefEqProofs only [go_sem,h1,h13]
 have g1:=oT h1;rw [if_pos (by omega)];simp -dsimp -implicitDefEqProofs only [go_sem,h1]
def oW (w:Nat) (s:lU):lU:=List.replicate (w-s.length) 48++s
def JQ (series n:Int):Int:=(100*n+series).tmod 97
def s9 (w:Nat) (series n:Int):lU:=[UInt8.ofNat (65+series).toNat]++oW w (itoa n)++[45]++oW 2 (itoa (JQ series n))
def PL (s:lU):Nat->Int
 |0=>0
 |i+1=>PL s i*10+((s.getD (i+1) 0).toNat:Int)-48
theorem Iu (s:lU):∀i, -(29*10^i-29)<=PL s i/\PL s i<=29*10^i-29
 |0=>by simp [PL]
 |i+1=>by
  have ih:=Iu s i;have hb:=(s.getD (i+1) 0).toNat_lt;have e:(10:Int)^(i+1)=10*10^i:=by rw [Int.pow_succ,Int.mul_comm]
  simp only [PL];rw [e];generalize (s.getD (i+1) 0).toNat=x at*;generalize (10:Int)^i=p at*;omega
theorem PM {x:Int} (h:0<=x/\x<256):IntKind.i32.wrap x=x:=by simp [IntKind.wrap,IntKind.bits,IntKind.signed];omega
theorem BE:∀k,Lib.repeatL [48] k=List.replicate k 48
 |0=>rfl
 |k+1=>by rw [Lib.repeatL,BE k,List.replicate_succ];rfl
theorem Mh (k:Nat) (h:k<=1000000):Fn pG 264 [eS [48],eI k] true (· =eS (List.replicate k 48)):=by refine Fn.plain [.string ⟨[48].toArray⟩,.int .i64 k] ⟨Tryz.f264,_,func264,by decide,rfl⟩ fun w S hk=> ?_;refine (Any.strings_Repeat Tryz.LM Tryz.Fg ⟨[48].toArray⟩ k w (by omega) (by simp [pw];omega)).mono ?_;rintro e w' ⟨rfl,hb⟩;rw [nn,BE];exact ⟨_,[],rfl,Grown.oP hb,qB rfl,List.nodup_nil,fun b hb=>by cases hb⟩
theorem sq (n:Int) (w:Nat) (hn:0<=n/\n<=1000000) (hw:w<=1000):Fn pG 229 [eI n,eI w] true (· =eS (oW w (itoa n))):=by
 refine Fn.au 16 [.tmp 4] func229 (hv:= ?_);have ht:=kV (n:=n) ⟨by omega,by omega⟩;have hl:=cO (v:=n) ⟨by omega,by omega⟩;have hmx:(if (w:Int)-((itoa n).length:Int)>0 then (w:Int)-((itoa n).length:Int) else 0)=((w-(itoa n).length:Nat):Int):=by split<;>omega
 have hr:=Mh (w-(itoa n).length) (by omega);simp -dsimp -implicitDefEqProofs only [go_sem];(refine aa (ht) ?_;try simp -dsimp -implicitDefEqProofs only [go_sem, *]);((with_reducible and_intros);all_goals try ((refine ⟨?_,?_⟩<;>omega)));refine aa hr ?_;simp -dsimp -implicitDefEqProofs only [go_sem];refine ⟨by simp;omega,by exact rfl⟩
theorem Mi (se n:Int) (h:0<=se/\se<=25) (hn:0<=n/\n<=9999999999):Fn pG 230 [eI se,eI n] true (· =eI (JQ se n)):=by refine Fn.au 10 [.tmp 4] func230 (hv:= ?_);simp -dsimp -implicitDefEqProofs only [go_sem];((with_reducible and_intros);all_goals try first|omega|(refine ⟨?_,?_⟩<;>omega)|exact rfl)
theorem Iv (se n:Int) (h:0<=se/\se<=25) (hn:0<=n/\n<=9999999999):Fn pG 200 [eI se,eI n] true (· =eI (JQ se n)):=by refine Fn.au 10 [.tmp 4] func200 (hv:= ?_);simp -dsimp -implicitDefEqProofs only [go_sem];((with_reducible and_intros);all_goals try first|omega|(refine ⟨?_,?_⟩<;>omega)|exact rfl)
theorem BF {se n:Int} (h:0<=se/\se<=25) (hn:0<=n/\n<=1000000):0<=JQ se n/\JQ se n<=96:=by unfold JQ;rw [Int.tmod_eq_emod_of_nonneg (by omega)];omega
theorem FG (K se n:Int) (hK:0<=K/\K<=1000000) (h:0<=se/\se<=25) (hn:0<=n/\n<=1000000):Fn pG 177 [eI K,eI se,eI n] true (· =eS (s9 (itoa K).length se n)):=by
 refine Fn.au 23 [.tmp 6] func177 (hv:= ?_);have ht:=kV (n:=K) ⟨by omega,by omega⟩;have hl:=cO (v:=K) ⟨by omega,by omega⟩;have hd:=sq n (itoa K).length hn (by omega);have hc:=Mi se n h (by omega);have hcb:=BF h hn;have hd2:=sq (JQ se n) 2 (by omega) (by omega);have hw:IntKind.i32.wrap (65+se)=65+se:=PM (by omega);have hpl:(oW (itoa K).length (itoa n)).length<=50:=by have:=cO (v:=n) ⟨by omega,by omega⟩;simp [oW];omega
 have YK:(oW 2 (itoa (JQ se n))).length<=50:=by have:=cO (v:=JQ se n) ⟨by omega,by omega⟩;simp [oW];omega
 unfold s9;generalize oW (itoa K).length (itoa n)=A at*;generalize oW 2 (itoa (JQ se n))=Bs at*;simp -dsimp -implicitDefEqProofs only [go_sem,hw];refine ⟨⟨by omega,by omega⟩,by omega,?_⟩;(refine aa (ht) ?_;try simp -dsimp -implicitDefEqProofs only [go_sem, *]);(refine aa (hd) ?_;try simp -dsimp -implicitDefEqProofs only [go_sem, *]);((with_reducible and_intros);all_goals try (omega));all_goals try (refine aa (hc) ?_;try simp -dsimp -implicitDefEqProofs only [go_sem, *])
 all_goals try (refine aa (hd2) ?_;try simp -dsimp -implicitDefEqProofs only [go_sem, *])
 (all_goals try (omega))
theorem FH (n:Int) (w:Nat) (hn:0<=n/\n<=1000000) (hw:w<=1000):Fn pG 198 [eI n,eI w] true (· =eS (oW w (itoa n))):=by
 refine Fn.au 15 [.tmp 4] func198 (hv:= ?_);have ht:=fg n ⟨by omega,by omega⟩;have hl:=cO (v:=n) ⟨by omega,by omega⟩;unfold oW;generalize itoa n=A at*;simp -dsimp -implicitDefEqProofs only [go_sem];(refine aa (ht) ?_;try simp -dsimp -implicitDefEqProofs only [go_sem, *]);refine aj.up [1] [9] [] (w-A.length) (fun _=>True) (fun i=>[(5,eS (List.replicate i 48++A))]) (fun _=>[]) trivial ?_ rfl (fun i hi _=> ?_) (fun _=> ?_)
 . simp -dsimp -implicitDefEqProofs only [go_sem]
 . have hlt:decide (((i+A.length:Nat):Int)<(w:Int))=true:=dT (by omega);have hlen:(List.replicate i (48:UInt8)++A).length=i+A.length:=by simp
   rw [List.replicate_succ];simp -dsimp -implicitDefEqProofs only [pz,↓reduceIte,aO];simp -dsimp -implicitDefEqProofs only [go_sem,hlen,hlt];(all_goals try (omega))
 have hlt:decide (((w-A.length+A.length:Nat):Int)<(w:Int))=false:=dF (by omega);have hlen:(List.replicate (w-A.length) (48:UInt8)++A).length=w-A.length+A.length:=by simp
 simp -dsimp -implicitDefEqProofs only [pz,↓reduceIte,aO];simp -dsimp -implicitDefEqProofs only [go_sem,hlen,hlt]
theorem jC (m:aK) (hm:aY m=true):lF m m.af.toNat []<=262144:=by have vC:=aM hm;have:=CS m hm m.af.toNat [];have:8^m.af.toNat<=8^6:=c8 (by decide) (by omega);omega
theorem lM (m:aK) (hm:aY m=true):Fn pG 143 [la m,Vr] true (· =eI (lF m m.af.toNat [])):=
 (yk m hm m.af.toNat [] (by have:=aM hm;simp;omega) (fun x hx=>by cases hx)).Px (.cons (.refl _) (.cons (.nil _) .nil))
theorem FI (m:aK) (hm:aY m=true):Fn pG 199 [la m] true (· =eI ((itoa (lF m m.af.toNat [])).length)):=by refine Fn.au 7 [.tmp 2] func199 (hv:= ?_);have hc:=lM m hm;have hb:=jC m hm;generalize lF m m.af.toNat []=N at*;have ht:=fg (N:Int) ⟨by omega,by omega⟩;simp -dsimp -implicitDefEqProofs only [go_sem];(refine aa (hc) ?_;try simp -dsimp -implicitDefEqProofs only [go_sem, *]);repeat' (refine aa (ht) ?_;try simp -dsimp -implicitDefEqProofs only [go_sem, *])
theorem Mj (m:aK) (hm:aY m=true) (se n:Int) (h:0<=se/\se<=25) (hn:0<=n/\n<=1000000):Fn pG 152 [la m,eI se,eI n] true (· =eS (s9 (itoa (lF m m.af.toNat [])).length se n)):=by
 refine Fn.au 23 [.tmp 6] func152 (hv:= ?_);have hc:=FI m hm;have hb:=jC m hm;generalize lF m m.af.toNat []=N at*;have hl:=cO (v:=(N:Int)) ⟨by omega,by omega⟩;have hp:=FH n (itoa N).length hn (by omega);have hk:=Iv se n h (by omega);have hcb:=BF h hn;have hp2:=FH (JQ se n) 2 (by omega) (by omega);have hw:IntKind.u8.wrap (65+se)=65+se:=nC (by omega);have hpl:(oW (itoa N).length (itoa n)).length<=50:=by have:=cO (v:=n) ⟨by omega,by omega⟩;simp [oW];omega
 have YK:(oW 2 (itoa (JQ se n))).length<=50:=by have:=cO (v:=JQ se n) ⟨by omega,by omega⟩;simp [oW];omega
 unfold s9;generalize oW (itoa N).length (itoa n)=A at*;generalize oW 2 (itoa (JQ se n))=Bs at*;simp -dsimp -implicitDefEqProofs only [go_sem];refine aj.draw mixed rfl ?_;simp -dsimp -implicitDefEqProofs only [go_sem,hw];refine ⟨⟨by omega,by omega⟩,by omega,?_⟩;(refine ak (hc) ?_;try simp -dsimp -implicitDefEqProofs only [go_sem, *]);(refine ak (hp) ?_;try simp -dsimp -implicitDefEqProofs only [go_sem, *]);((with_reducible and_intros);all_goals try (omega));all_goals try (refine ak (hk) ?_;try simp -dsimp -implicitDefEqProofs only [go_sem, *])
 all_goals try (refine ak (hp2) ?_;try simp -dsimp -implicitDefEqProofs only [go_sem, *])
 ((with_reducible and_intros);all_goals try first|omega|exact rfl)
theorem getD_in {s:lU} {i:Nat} (h:i<s.length):s.getD i 0=s[i]:=by simp [uq4,h]
def iG (m:aK):Int:=lF m m.af.toNat []
def iW:lU:=[102,97,108,115,101]
def eW:lU:=[103,104,111,115,116,115]
def dY:lU:=[119,111,114,115,116]
def fP:lU:=[99,111,117,110,116]
def dj:lU:=[119,97,102,101,114,115]
def iD:lU:=[100,114,111,112]
def gT:lU:=[102,105,110,100]
def jc:lU:=[108,111,99,107]
def dW:lU:=[115,116,97,109,112]
def gP:lU:=[109,97,107,101,114]
def dr:lU:=[111,112,101,110,115]
def kW:lU:=[107,101,121]
def cE (w:lU):Int:=
 if w=iW then 0 else if w=eW then 0 else if w=dY then 0 else if w=fP then 0 else if w=dj then 0
 else if w=iD then 1 else if w=gT then 1 else if w=jc then 1
 else if w=dW then 2 else if w=gP then 5 else if w=dr then 11 else if w=kW then 12 else -1
def PN (w:lU):Int:=if cE w<0 then 0 else (cE w).tmod 10+1
theorem FJ (w:lU):cE w= -1\/cE w=0\/cE w=1\/cE w=2\/cE w=5\/(cE w=11/\w=dr)\/(cE w=12/\w=kW):=by
 unfold cE;rcases Classical.em (w=iW) with h|h
 . simp only [if_pos h];simp [h]
 simp only [if_neg h];clear h;rcases Classical.em (w=eW) with h|h
 . simp only [if_pos h];simp [h]
 simp only [if_neg h];clear h;rcases Classical.em (w=dY) with h|h
 . simp only [if_pos h];simp [h]
 simp only [if_neg h];clear h;rcases Classical.em (w=fP) with h|h
 . simp only [if_pos h];simp [h]
 simp only [if_neg h];clear h;rcases Classical.em (w=dj) with h|h
 . simp only [if_pos h];simp [h]
 simp only [if_neg h];clear h;rcases Classical.em (w=iD) with h|h
 . simp only [if_pos h];simp [h]
 simp only [if_neg h];clear h;rcases Classical.em (w=gT) with h|h
 . simp only [if_pos h];simp [h]
 simp only [if_neg h];clear h;rcases Classical.em (w=jc) with h|h
 . simp only [if_pos h];simp [h]
 simp only [if_neg h];clear h;rcases Classical.em (w=dW) with h|h
 . simp only [if_pos h];simp [h]
 simp only [if_neg h];clear h;rcases Classical.em (w=gP) with h|h
 . simp only [if_pos h];simp [h]
 simp only [if_neg h];clear h;rcases Classical.em (w=dr) with h|h
 . simp only [if_pos h];simp [h]
 simp only [if_neg h];clear h;rcases Classical.em (w=kW) with h|h
 . simp only [if_pos h];simp [h]
 simp only [if_neg h];clear h;simp
theorem FL:cE dr=11:=by decide
theorem Mk:cE kW=12:=by decide
def fj (s:lU):List lU × lI × Bool:=
 if cE ((di 32 s).headD [])<0\/((di 32 s).length:Int)≠(cE ((di 32 s).headD [])).tmod 10+1 then ([],[],false)
 else if 10<=cE ((di 32 s).headD []) then (di 32 s,[],true)
 else if (((di 32 s).drop 1).all fun w=>(dS w).2)=true then (di 32 s,((di 32 s).drop 1).map fun w=>(dS w).1,true)
 else ([],[],false)
theorem td (w:lU):((pL w).2=true/\0<=(pL w).1/\w.length<=13)↔(dS w).2=true:=by
 constructor
 . rintro ⟨h1,h2,h3⟩;obtain ⟨q1,q2⟩:=Bo h1;have hw:w=decDigits (pL w).1.toNat:=by rw [←e7 h2];exact q2
   have:nDigits (pL w).1.toNat<=13:=by have e:=congrArg List.length hw;rw [decDigits_length] at e;omega
   rw [hw,Pq this]
 intro h;obtain ⟨h1,h2⟩:=sW h;have hl:w.length<=13:=by
  unfold dS at h;split at h
  . cases h
  omega
 have h64:km (dS w).1:=by
  have hd:∀c∈w,48<=c.toNat/\c.toNat<=57:=by intro c hc;rw [e7 h1] at h2;exact py _ c (by rw [←h2];exact hc)
  have hb:=rY w 0 hd;have hp:10^w.length<=10000000000000:=JP hl;have hv:(dS w).1=(jL 0 w:Nat):=by
   unfold dS at h ⊢;split
   . rename_i hc;rw [if_pos hc] at h;cases h
   rename_i hc;rw [if_neg hc] at h;split
   . rfl
   rename_i hd2;rw [if_neg hd2] at h;cases h
  rw [hv];unfold km;omega
 have e:=LR h64;rw [←h2] at e;rw [e];exact ⟨rfl,h1,hl⟩
theorem CW {w:lU} (h:(dS w).2=true):(pL w).1=(dS w).1:=by
 obtain ⟨h1,h2,h3⟩:=(td w).2 h;obtain ⟨q1,q2⟩:=Bo h1;obtain ⟨v1,v2⟩:=sW h;have h64:km (dS w).1:=by
  have hd:∀c∈w,48<=c.toNat/\c.toNat<=57:=by intro c hc;rw [e7 v1] at v2;exact py _ c (by rw [←v2];exact hc)
  have hb:=rY w 0 hd;have hp:10^w.length<=10000000000000:=JP h3;have hv:(dS w).1=(jL 0 w:Nat):=by
   unfold dS at h ⊢;split
   . rename_i hc;rw [if_pos hc] at h;cases h
   rename_i hc;rw [if_neg hc] at h;split
   . rfl
   rename_i hd2;rw [if_neg hd2] at h;cases h
  rw [hv];unfold km;omega
 exact Pp q1 h64 (q2.symm.trans v2)
theorem Ml (w:lU):Fn pG 70 [eS w] true (· =eI (cE w)):=by
 refine Fn.au 22 [.tmp 2] func70 (hv:= ?_);unfold cE iW eW dY fP dj iD gT jc dW gP dr kW;simp -dsimp -implicitDefEqProofs only [go_sem];repeat' (refine Br.intro (fun _=> ?_) (fun _=> ?_)<;>try simp -dsimp -implicitDefEqProofs only [go_sem, *])
 all_goals first
  |(simp only [decide_eq_true_eq,decide_eq_false_iff_not] at*;subst_vars;simp;done)
  |(simp only [decide_eq_false_iff_not] at*;simp [*];done)
  |skip
theorem FM (w:lU):Fn pG 68 [eS w] true (· =eI (PN w)):=by
 refine Fn.au 20 [.tmp 2] func68 (hv:= ?_)
 have hk:PN w=if w=iW then 1 else if w=eW then 1 else if w=dY then 1 else if w=fP then 1 else if w=dj then 1
  else if w=iD then 2 else if w=gT then 2 else if w=jc then 2
  else if w=dr then 2 else if w=kW then 3 else if w=dW then 3 else if w=gP then 6 else 0:=by
  unfold PN cE;rcases Classical.em (w=iW) with h|h
  . subst h;decide
  simp only [if_neg h];clear h;rcases Classical.em (w=eW) with h|h
  . subst h;decide
  simp only [if_neg h];clear h;rcases Classical.em (w=dY) with h|h
  . subst h;decide
  simp only [if_neg h];clear h;rcases Classical.em (w=fP) with h|h
  . subst h;decide
  simp only [if_neg h];clear h;rcases Classical.em (w=dj) with h|h
  . subst h;decide
  simp only [if_neg h];clear h;rcases Classical.em (w=iD) with h|h
  . subst h;decide
  simp only [if_neg h];clear h;rcases Classical.em (w=gT) with h|h
  . subst h;decide
  simp only [if_neg h];clear h;rcases Classical.em (w=jc) with h|h
  . subst h;decide
  simp only [if_neg h];clear h;rcases Classical.em (w=dW) with h|h
  . subst h;decide
  simp only [if_neg h];clear h;rcases Classical.em (w=gP) with h|h
  . subst h;decide
  simp only [if_neg h];clear h;rcases Classical.em (w=dr) with h|h
  . subst h;decide
  simp only [if_neg h];clear h;rcases Classical.em (w=kW) with h|h
  . subst h;decide
  simp only [if_neg h];clear h;decide
 rw [hk];clear hk;unfold iW eW dY fP dj iD gT jc dW gP dr kW;simp -dsimp -implicitDefEqProofs only [go_sem];repeat' (refine Br.intro (fun _=> ?_) (fun _=> ?_)<;>try simp -dsimp -implicitDefEqProofs only [go_sem, *])
 all_goals first
  |(simp only [decide_eq_true_eq,decide_eq_false_iff_not] at*;subst_vars;simp;done)
  |(simp only [decide_eq_false_iff_not] at*;simp [*];done)
  |skip
theorem FN {s:lU}:(di 32 s)[0]? =some ((di 32 s).headD []):=by
 have h:=sX 32 s;cases hs:di 32 s with
 |nil=>exact absurd hs h
 |cons x r=>rfl
set_option maxHeartbeats 2000000 in
theorem Iw (s:lU) (hs:s.length<=1048576):Fn pG 44 [eS s] true (· = .aX [lZ (fj s).1,aQ (fj s).2.1,eB (fj s).2.2]):=by
 refine Fn.au 54 [.tmp 2,.tmp 3,.tmp 4] func44 (hv:= ?_);have hpl:=iV 32 s;have hsl:=jA 32 s;have g0:=FN (s:=s);have hne:=sX 32 s
 have hP:fj s=if cE ((di 32 s).headD [])<0\/((di 32 s).length:Int)≠(cE ((di 32 s).headD [])).tmod 10+1 then ([],[],false)
  else if 10<=cE ((di 32 s).headD []) then (di 32 s,[],true)
  else if (((di 32 s).drop 1).all fun w=>(dS w).2)=true then (di 32 s,((di 32 s).drop 1).map fun w=>(dS w).1,true)
  else ([],[],false):=rfl
 rw [hP];clear hP;have hki:=FJ ((di 32 s).headD []);have hck:=Ml ((di 32 s).headD []);simp -dsimp -implicitDefEqProofs only [go_sem];refine aa (yt s 32 (by omega)) ?_;generalize di 32 s=ws at*
 have h1:1<=ws.length:=by cases ws with
  |nil=>exact absurd rfl hne
  |cons x r=>simp
 generalize ws.headD []=w0 at*;generalize cE w0=k at*;have hk2: -1<=k/\k<=12:=by omega
 have hkt:km (k.tmod 10)/\km (k.tmod 10+1):=by have h1:=Int.tmod_lt_of_pos k (show (0:Int)<10 by decide);rcases hki with rfl|rfl|rfl|rfl|rfl|⟨rfl,_⟩|⟨rfl,_⟩<;>(unfold km;decide)
 simp -dsimp -implicitDefEqProofs only [go_sem,g0];((with_reducible and_intros);all_goals try (omega));refine aa hck ?_;rcases hk0:decide (k<0) with _|_
 rotate_left
 . rw [if_pos (.inl (oT hk0))];simp -dsimp -implicitDefEqProofs only [go_sem,hk0]
 have YL:=of_decide_eq_false hk0;rcases hlen:((ws.length:Int) != k.tmod 10+1) with _|_
 rotate_left
 . rw [if_pos (.inr (by simpa using hlen))];simp -dsimp -implicitDefEqProofs only [go_sem,hk0,hlen];((with_reducible and_intros);all_goals try (omega));all_goals first|exact hkt.2|(first|omega|(refine ⟨?_,?_⟩<;>omega)|exact rfl|(simp;done)|skip)
 rw [if_neg (by rintro (q|q);· exact YL q
                exact q (by simpa using hlen))]
 rcases h10:decide (k<10) with _|_
 . have MV:=of_decide_eq_false h10;rw [if_pos (by omega)];have hl2:(ws.length:Int)≥2:=by
    have e:(ws.length:Int)=k.tmod 10+1:=by simpa using hlen
    rcases hki with rfl|rfl|rfl|rfl|rfl|⟨rfl,_⟩|⟨rfl,_⟩<;>simp at* <;>omega
   have d1:decide ((1:Int)<ws.length)=true:=dT (by omega);simp -dsimp -implicitDefEqProofs only [go_sem,hk0,hlen];((with_reducible and_intros);all_goals try (omega));all_goals first|exact hkt.2|skip
   refine aj.up [5,6] [30,43,50,51] [27] 0 (fun _=>True) (fun i=>[(7,.ref 27 0 0 0),(8,eI 1)]) (fun i=>[(27,.row 0 ⟨1,false⟩ true [])]) trivial ?_ rfl (fun i hi _=>absurd hi (Nat.not_lt_zero _)) (fun _=> ?_)
   . simp -dsimp -implicitDefEqProofs only [go_sem]
   simp -dsimp -implicitDefEqProofs only [pz,bd,aP,aW,↓reduceIte,aO];simp -dsimp -implicitDefEqProofs only [go_sem,d1,h10];((with_reducible and_intros);all_goals try (exact rfl));all_goals (first|(simp;done)|skip)
 have MV:=oT h10;rw [if_neg (by omega)];simp -dsimp -implicitDefEqProofs only [go_sem,hk0,hlen];((with_reducible and_intros);all_goals try (omega));all_goals first|exact hkt.2|skip
 refine aj.up [5,6] [30,43,50,51] [27] (ws.length-1) (fun i=>(((ws.drop 1).take i).all fun w=>(dS w).2)=true) (fun i=>[(7,.ref 27 0 0 i),(8,eI ((i:Int)+1))]) (fun i=>[(27,.row 0 ⟨1,false⟩ true ((((ws.drop 1).take i).map fun w=>(dS w).1).map eI))]) rfl ?_ rfl (fun i hi hI=> ?_) (fun hI=> ?_)
 . simp -dsimp -implicitDefEqProofs only [go_sem];all_goals exact rfl
 . have hi1:i+1<ws.length:=by omega
   have hid:i<(ws.drop 1).length:=by simp;omega
   have gi:ws[i+1]? =some (ws.drop 1)[i]:=by rw [List.getElem_drop,←uq5,Nat.add_comm 1 i]
   have hw:=hpl _ (List.mem_of_getElem? gi);have dl:decide ((i:Int)+1<ws.length)=true:=dT (by omega);have ht:((i:Int)+1).toNat=i+1:=by omega
   have cR:=dw (fun w=>(dS w).2) (ws.drop 1) i hid;have hno:=fun h=>gL (p:=fun w=>(dS w).2) hid h;have htk:(ws.drop 1).take (i+1)=(ws.drop 1).take i++[(ws.drop 1)[i]]:=iH hid;have hol:(((ws.drop 1).take i).map fun w=>(dS w).1).length=i:=by simp;omega
   rw [htk] at cR ⊢;rw [List.map_append,List.map_singleton];clear htk;generalize (ws.drop 1)[i]=w at*;have hcv:=It w (by omega);generalize dS w=v at*;generalize ((ws.drop 1).take i).map (fun w=>(dS w).1)=q at*;rcases hv:v.2 with _|_
   . have hz:=hno hv;rw [if_neg (by rw [hz];decide)];simp -dsimp -implicitDefEqProofs only [pz,bd,aP,aW,↓reduceIte,aO];simp -dsimp -implicitDefEqProofs only [go_sem,dl,h10,ht,gi];((with_reducible and_intros);all_goals try (omega));refine aa hcv ?_;simp -dsimp -implicitDefEqProofs only [go_sem,hv]
   simp -dsimp -implicitDefEqProofs only [pz,bd,aP,aW,↓reduceIte,aO];simp -dsimp -implicitDefEqProofs only [go_sem,dl,h10,ht,gi];((with_reducible and_intros);all_goals try (omega));refine aa hcv ?_;simp -dsimp -implicitDefEqProofs only [go_sem,hv];((with_reducible and_intros);all_goals try first|omega|(refine ⟨?_,?_⟩<;>omega)|exact rfl);all_goals first|(rw [cR,hI,hv];rfl)|(rw [←hol,nk];simp;done)|skip
 have dl:decide (((ws.length-1:Nat):Int)+1<ws.length)=false:=dF (by omega);have hdl:(ws.drop 1).take (ws.length-1)=ws.drop 1:=c7 (by simp);rw [hdl] at hI ⊢;rw [if_pos hI];have hol:((ws.drop 1).map fun w=>(dS w).1).length=ws.length-1:=by simp
 generalize (ws.drop 1).map (fun w=>(dS w).1)=q at*;rw [←hol] at dl ⊢;simp -dsimp -implicitDefEqProofs only [pz,bd,aP,aW,↓reduceIte,aO];simp -dsimp -implicitDefEqProofs only [go_sem,dl];((with_reducible and_intros));all_goals (first|(simp;done)|skip)
theorem PO {w:lU} (h:10<=cE w):w=kW\/w=dr:=by
 rcases FJ w with q|q|q|q|q|⟨q,e⟩|⟨q,e⟩
 all_goals first|omega|exact .inr e|exact .inl e
theorem Mm {w:lU} (h:cE w<10):w≠kW/\w≠dr:=by
 refine ⟨?_,?_⟩
 . rintro rfl;rw [Mk] at h;omega
 rintro rfl;rw [FL] at h;omega
set_option maxHeartbeats 2000000 in
theorem Ix (s:lU) (hs:s.length<=1048576):Fn pG 43 [eS s] true (· = .aX [lZ (fj s).1,aQ (fj s).2.1,eB (fj s).2.2]):=by
 refine Fn.au 62 [.tmp 2,.tmp 3,.tmp 4] func43 (hv:= ?_);have hpl:=iV 32 s;have hsl:=jA 32 s;have g0:=FN (s:=s);have hne:=sX 32 s
 have hP:fj s=if cE ((di 32 s).headD [])<0\/((di 32 s).length:Int)≠(cE ((di 32 s).headD [])).tmod 10+1 then ([],[],false)
  else if 10<=cE ((di 32 s).headD []) then (di 32 s,[],true)
  else if (((di 32 s).drop 1).all fun w=>(dS w).2)=true then (di 32 s,((di 32 s).drop 1).map fun w=>(dS w).1,true)
  else ([],[],false):=rfl
 rw [hP];clear hP;have hck:=FM ((di 32 s).headD []);have hkk:=fun h=>PO (w:=(di 32 s).headD []) h;have hkn:=fun h=>Mm (w:=(di 32 s).headD []) h;have hcn:PN ((di 32 s).headD [])=if cE ((di 32 s).headD [])<0 then 0 else (cE ((di 32 s).headD [])).tmod 10+1:=rfl
 simp -dsimp -implicitDefEqProofs only [go_sem];refine aa (JK s 32 (by omega)) ?_;generalize di 32 s=ws at*
 have h1:1<=ws.length:=by cases ws with
  |nil=>exact absurd rfl hne
  |cons x r=>simp
 generalize ws.headD []=w0 at*;generalize cE w0=k at*;generalize PN w0=n at*;simp -dsimp -implicitDefEqProofs only [go_sem,g0];((with_reducible and_intros);all_goals try (omega));refine aa hck ?_;rcases hlen:((ws.length:Int) != n) with _|_
 rotate_left
 . have hl':(ws.length:Int)≠n:=by simpa using hlen
   rw [if_pos (by
    by_cases h0:k<0
    . exact .inl h0
    rw [if_neg h0] at hcn
    exact .inr (by rw [←hcn];exact hl'))]
   simp -dsimp -implicitDefEqProofs only [go_sem,hlen]
 have hl':(ws.length:Int)=n:=by simpa using hlen
 have hk0:¬k<0:=by intro h0;rw [if_pos h0] at hcn;omega
 rw [if_neg hk0] at hcn
 rw [if_neg (by rintro (q|q);· exact hk0 q
                exact q (by rw [←hcn];exact hl'))]
 unfold kW dr at hkk hkn;rcases h10:decide (10<=k) with _|_
 . have MV:=of_decide_eq_false h10;obtain ⟨q1,q2⟩:=hkn (by omega);have d1:decide (w0=[107,101,121])=false:=dF q1;have d2:decide (w0=[111,112,101,110,115])=false:=dF q2;have lf:(1:Int).toNat=1:=rfl;rw [if_neg MV];clear hkk hkn hck hcn;simp -dsimp -implicitDefEqProofs only [go_sem,hlen,g0,d1,d2];((with_reducible and_intros);all_goals try (omega));refine aj.up [5,33,34] [41,52,57,58] [13] (ws.length-1) (fun i=>(((ws.drop 1).take i).all fun w=>(dS w).2)=true) (fun i=>[(6,.ref 13 0 0 i),(35,eI i)]) (fun i=>[(13,.row 0 ⟨1,false⟩ true ((((ws.drop 1).take i).map fun w=>(dS w).1).map eI))]) rfl ?_ rfl (fun i hi hI=> ?_) (fun hI=> ?_)
   . simp -dsimp -implicitDefEqProofs only [go_sem]
   . have hi1:i+1<ws.length:=by omega
     have hid:i<(ws.drop 1).length:=by simp;omega
     have gi:ws[1+i]? =some (ws.drop 1)[i]:=by rw [List.getElem_drop,←uq5]
     have hw:=hpl _ (List.mem_of_getElem? gi);have dl:=aE hi;have cR:=dw (fun w=>(dS w).2) (ws.drop 1) i hid;have hno:=fun h=>gL (p:=fun w=>(dS w).2) hid h;have htk:(ws.drop 1).take (i+1)=(ws.drop 1).take i++[(ws.drop 1)[i]]:=iH hid;have hol:(((ws.drop 1).take i).map fun w=>(dS w).1).length=i:=by simp;omega
     rw [htk] at cR ⊢;rw [List.map_append,List.map_singleton];clear htk;generalize (ws.drop 1)[i]=w at*;have hcv:=PJ w (by omega);have Td:=td w;have heq:=fun h=>CW (w:=w) h;generalize ((ws.drop 1).take i).map (fun w=>(dS w).1)=q at*;generalize dS w=v at*;generalize pL w=u at*;rcases hu:u.2 with _|_
     . have hv:v.2=false:=by
        cases hv2:v.2 with
        |false=>rfl
        |true=>have:=(Td.2 hv2).1;rw [hu] at this;cases this
       have hz:=hno hv;rw [if_neg (by rw [hz];decide)];simp -dsimp -implicitDefEqProofs only [pz,bd,aP,aW,↓reduceIte,aO];simp -dsimp -implicitDefEqProofs only [go_sem,dl,gi];((with_reducible and_intros);all_goals try (omega));refine aa hcv ?_;simp -dsimp -implicitDefEqProofs only [go_sem,hu]
     rcases hn0:decide (u.1<0) with _|_
     rotate_left
     . have Zr:=oT hn0;have hv:v.2=false:=by
        cases hv2:v.2 with
        |false=>rfl
        |true=>have:=(Td.2 hv2).2.1;omega
       have hz:=hno hv;rw [if_neg (by rw [hz];decide)];simp -dsimp -implicitDefEqProofs only [pz,bd,aP,aW,↓reduceIte,aO];simp -dsimp -implicitDefEqProofs only [go_sem,dl,gi];((with_reducible and_intros);all_goals try (omega));refine aa hcv ?_;simp -dsimp -implicitDefEqProofs only [go_sem,hu,hn0]
     rcases Te:decide ((w.length:Int)>13) with _|_
     rotate_left
     . have Y2:=oT Te;have hv:v.2=false:=by
        cases hv2:v.2 with
        |false=>rfl
        |true=>have:=(Td.2 hv2).2.2;omega
       have hz:=hno hv;rw [if_neg (by rw [hz];decide)];simp -dsimp -implicitDefEqProofs only [pz,bd,aP,aW,↓reduceIte,aO];simp -dsimp -implicitDefEqProofs only [go_sem,dl,gi];((with_reducible and_intros);all_goals try (omega));refine aa hcv ?_;simp -dsimp -implicitDefEqProofs only [go_sem,hu,hn0,Te]
     have hv:v.2=true:=Td.1 ⟨hu,by have:=of_decide_eq_false hn0;omega,by have:=of_decide_eq_false Te;omega⟩;have huv:=heq hv;rw [←huv];simp -dsimp -implicitDefEqProofs only [pz,bd,aP,aW,↓reduceIte,aO];simp -dsimp -implicitDefEqProofs only [go_sem,dl,gi];((with_reducible and_intros);all_goals try (omega));refine aa hcv ?_;simp -dsimp -implicitDefEqProofs only [go_sem,hu,hn0,Te];((with_reducible and_intros);all_goals try first|omega|(refine ⟨?_,?_⟩<;>omega)|exact rfl);all_goals first|(rw [cR,hI,hv];rfl)|(rw [←hol,nk];simp;done)|skip
   have hdl:(ws.drop 1).take (ws.length-1)=ws.drop 1:=c7 (by simp);rw [hdl] at hI ⊢;rw [if_pos hI];have hol:((ws.drop 1).map fun w=>(dS w).1).length=ws.length-1:=by simp
   generalize (ws.drop 1).map (fun w=>(dS w).1)=q at*;rw [←hol];simp -dsimp -implicitDefEqProofs only [pz,bd,aP,aW,↓reduceIte,aO];simp -dsimp -implicitDefEqProofs only [go_sem,aA];((with_reducible and_intros));all_goals first|(simp;done)|(first|omega|(refine ⟨?_,?_⟩<;>omega)|exact rfl|(simp;done)|skip)
 have MV:=oT h10;rw [if_pos MV];rcases hkk MV with q1|q1
 . have d1:decide (w0=[107,101,121])=true:=dT q1;simp -dsimp -implicitDefEqProofs only [go_sem,hlen,g0,d1];((with_reducible and_intros);all_goals try (omega));all_goals (first|(simp;done)|skip)
 have d1:decide (w0=[107,101,121])=false:=dF (by rw [q1];decide);have d2:decide (w0=[111,112,101,110,115])=true:=dT q1;simp -dsimp -implicitDefEqProofs only [go_sem,hlen,g0,d1,d2];((with_reducible and_intros);all_goals try (omega));all_goals (first|(simp;done)|skip)
attribute [go_sem] Option.map_none Nat.sub_zero
abbrev eY (b:UInt8):AV:=.val (.int .u8 b.toNat)
abbrev Zg (bs:lU):AV:=.arr ⟨1,false⟩ (bs.map eY)
structure Src where
 Vu:Int
 pos:Nat
def PQ (s:Src):Prop:=0<=s.Vu/\s.Vu<2147483647
abbrev Wn (v:Nat) (bs:lU) (s:Src):bj:=.box v [Zg bs,eI s.pos,eI s.Vu]
end Go.Vc
