import Derived.RangeFuncFrom
import Derived.RangeFuncLeaves
import Derived.OrdersIn
import Derived.Shelf.Strconv.Itoa4
import Derived.Shelf.Strconv.ParseIntPublic10
import Derived.Shelf.Strings.Split
import Derived.Shelf.Strings.Cut
import Derived.Shelf.Strings.OnBuilder
import Derived.Shelf.Strings.Repeat
import Derived.Ground.NamesProg
import Derived.Test.YtofpaabacebkkaaGreatDoorProg
import Derived.Shelf.SlGeneric
import Derived.Ground.SlgnProg
import Derived.Shelf.SortG.Plain
import Derived.Shelf.SlicesG.CompactI
import Derived.Shelf.SortG.SortNone
import Derived.Lib.ItoaLen
import Derived.Lib.ItoaMem
import Derived.Lib.ParseIntB
import Derived.Lib.Split
import Derived.Lib.CountLaws
import Derived.Lib.IndexBytes
import Derived.Lib.CutLaws
import Derived.Lib.Join
import Derived.Lib.SlicesCompact
import Derived.Sort.Grow
import Derived.Shelf.RegionOpenPlain
import Derived.Deep.LoopGhost
import Derived.Deep.RegionLaw
import Derived.Lib.Walk
import Derived.Lib.SliceRun
import Derived.Test.YtofpaabacebkkaaGreatDoorPkLawDesksC
open Go.Proofs.Tryz
open Go.Proofs.Tryz renaming prog → pG
open Go renaming undef → uD
set_option linter.unusedVariables false
set_option linter.unusedSimpArgs false
set_option linter.unnecessarySimpa false
set_option maxRecDepth 1000000
set_option maxHeartbeats 16000000
open Array renaming getD_eq_getD_getElem? ->uq0,getElem?_eq_some_iff->uq1,replicate->uq2
open Bool renaming and_eq_true->uq3,false_eq_true->uq4
open List renaming all_eq_true->uq5,getD_eq_getElem?_getD->uq6,getElem?_eq_getElem->uq7,getElem?_eq_some_iff->uq8,getElem_mem->uq9,getElem_of_mem->bk,getElem_take->dL,mem_cons_of_mem->dE,mem_cons_self->cM,mem_filter->a_,mem_map->ba,mem_of_getElem? ->bp,mem_range->cE,mem_singleton->b7,nodup_nil->eR,range->dh,range_succ->c_,replicate->bw,take_length->di,toArray->e8
open Nat renaming le_refl->cm,le_trans->fu,lt_irrefl->eZ,not_lt_zero->da,reduceEqDiff->j_
namespace Go.Vc
section
variable {P:pR} {B:eC} {N:Nat} {φ:Nat->LS} {fp:nN} {S:nP} {ts:Env} {m:Mem} {a:Act} {w:World}
theorem RS.C8 (h:RS B N φ fp S ts m a w){l v i l2:Nat}{xs ys:lA}{sh2:Sh}(hl:l<bE)(hlk:ah m l=some (.row v ⟨1,false⟩ true xs))(hx:xs[i]? =some (.arr sh2 ys))(hy:0<ys.length)(Q9:ah m l2=none):
 ∃φ2 fp2 u,RS B N φ2 fp2 S ts ((l2,.sub 0 sh2 ys u)::(l,.row v ⟨1,false⟩ true (xs.set i (.val u)))::m) a w:=by
 obtain ⟨hi,hxi⟩:=uq8.1 hx;have hne:l2≠l:=λe=>by rw[e,hlk] at Q9;cases Q9
 rcases h.aG l _ hlk with ⟨_,h0,_⟩|⟨b,cap,hφ,hbm,_,bc⟩
 . rw[h0] at hi;exact absurd hi (da _)
 simp only[if_true] at bc;rcases kg bc with ⟨h0,_⟩|⟨b',cap',cs,e',fss,q1,hfp,aD,hc,hl',hm,hf,hs,hv⟩
 . rw[h0] at hi;exact absurd hi (da _)
 simp only[Value.slice.injEq,Option.some.injEq,Addr.mk.injEq] at q1;obtain ⟨⟨rfl,_⟩,_,rfl⟩:=q1;have hvi:=hv i hi;rw[hxi,bd,Nat.mul_one] at hvi;generalize hu:cs.toList.getD i uD=u at hvi;have hlf:i<fss.length:=by omega
 have huo:u.oneCell'=true:=hvi.aW trivial;have Tv:(fss.set i []).set i (fss.getD i [])=fss:=by
  rw[List.set_set];refine List.ext_getElem (by simp) λj h1 h2=>?_;rw[List.getElem_set];split
  . rename_i e;subst e;rw[uq6,uq7 hlf];rfl
  rfl
 have G8:fss.flatten.Perm (fss.getD i []++(fss.set i []).flatten):=by
  have:=gH (fss.getD i []) (fss.set i []) i (by simpa using hlf) (by simp[uq6,hlf])
  rwa [Tv] at this
 have hpm:(fp l).Perm (fss.getD i []++(b::(fss.set i []).flatten)):=by rw[hfp];exact (G8.cons b).trans List.perm_middle.symm
 have nW:=hpm.nodup_iff.1 (h.hZ l);have nW:=List.nodup_append.1 nW;have hin:∀c,c∈b::(fss.set i []).flatten->c∈fp l:=λc hc=>hpm.mem_iff.2 (List.mem_append_right _ hc);have Nr:∀c,c∈fss.getD i []->c∈fp l:=λc hc=>hpm.mem_iff.2 (List.mem_append_left _ hc);have R1:RS B N (nX φ l (φ l)) (nX fp l (b::(fss.set i []).flatten)) S ts ((l,.row v ⟨1,false⟩ true (xs.set i (.val u)))::m) a w:=by
  refine h.next l (φ l) _ S _ (cm _) (a7.refl _) (jI.refl _) (λ_ _ _=>rfl) (λc hc=>⟨hc,rfl⟩) (λc h1 h2=>absurd h1 h2) (λl b sh af cs e _ hb=>⟨cs,e,hb,rfl⟩)
   (λ_ _ _ _=>rfl) (λaf _=>LS.le_refl _ _) ?_ ?_ (λ_ _ hk=>by cases hk) nW.2.1 ?_
  . rintro af ⟨k',h1,h2⟩;rw[hlk] at h1;cases h1;exact h2
  . refine .inr ⟨b,cap,by rw [aB];exact hφ,cM ..,λh=>(by cases h),?_⟩;refine .arr ⟨1,false⟩ (xs.set i (.val u)) b cap cs e' (fss.set i []) aD hc (by simpa using hl') hm (λj hj=> ?_) (by simpa using hs) λj hj=> ?_
    . rw [List.getElem_set];split
      . exact ⟨rfl,rfl⟩
      exact hf j (by simpa using hj)
    have hj':j<xs.length:=(by simpa using hj);by_cases e:i=j
    . subst e;have e1:(fss.set i []).getD i []=[]:=(by simp[uq6,hlf]);rw[List.getElem_set_self,e1,bd,Nat.mul_one,hu];exact .rd _ _ (.val _ huo)
    have e1:(fss.set i []).getD j []=fss.getD j []:=(by simp[uq6,e]);rw[List.getElem_set_ne e,e1];exact hv j hj'
  intro c hc;have:=h.cu l c (hin c hc);exact ⟨h.bS l c (hin c hc),λl' hl' hc'=>hl' (h.fL l' l c hc' (hin c hc)),this.1,this.2⟩
 rcases kg hvi with ⟨g1,g2,g3⟩|⟨b2,cap2,cs2,e2,fss2,g1,g2,g3,g4,g5,g6,g7,g8,g9⟩
 . rw[g1] at hy;exact absurd hy (da _)
 have hno:ah ((l,bf.row v ⟨1,false⟩ true (xs.set i (.val u)))::m) l2=none:=by rw[aw,if_neg (Ne.symm hne)];exact Q9
 refine ⟨_,_,u,R1.next l2 (.at b2 sh2 0) (fss.getD i []) S _ (cm _) (a7.refl _) (jI.refl _) (λ_ _ _=>rfl) (λc hc=>⟨hc,rfl⟩) (λc h1 h2=>absurd h1 h2) (λl b sh af cs e _ hb=>⟨cs,e,hb,rfl⟩)
  (λ_ _ _ _=>rfl) ?_ ?_ ?_ (λ_ _ hk=>by cases hk) nW.1 ?_⟩
 . rintro af ⟨k',h1,_⟩;rw[hno] at h1;cases h1
 . rintro af ⟨k',h1,_⟩;rw[hno] at h1;cases h1
 . exact ⟨b2,cap2,aB _ _ _,by rw[g2];simp,g1,hvi⟩
 intro c hc;have:=h.cu l c (Nr c hc);refine ⟨h.bS l c (Nr c hc),λl' hl' hc'=>?_,this.1,.inl (this.2.resolve_right λhh=>eZ _ (Nat.lt_of_lt_of_le hl hh.choose_spec.2.1))⟩;by_cases e:l'=l
 . subst e;rw[aB] at hc';exact nW.2.2 c hc c hc' rfl
 rw[bB _ _ _ _ e] at hc';exact e (h.fL l' l c hc' (Nr c hc))
theorem RS.J7 (h:RS B N φ fp S ts m a w){l v i l2 v2:Nat}{xs ys:lA}{sh2:Sh}{u:Value}(hl2:l2<bE)(hlk:ah m l=some (.row v ⟨1,false⟩ true xs))(hx:xs[i]? =some (.val u))(kv:ah m l2=some (.sub v2 sh2 ys u)):
 ∃φ2 fp2,RS B N φ2 fp2 S ts ((l,.row v ⟨1,false⟩ true (xs.set i (.arr sh2 ys)))::(l2,.gone v2)::m) a w:=by
 obtain ⟨hi,hxi⟩:=uq8.1 hx;have hne:l2≠l:=λe=>by rw[e,hlk] at kv;cases kv
 rcases h.aG l _ hlk with ⟨_,h0,_⟩|⟨b,cap,hφ,hbm,_,bc⟩
 . rw[h0] at hi;exact absurd hi (da _)
 simp only[if_true] at bc;rcases kg bc with ⟨h0,_⟩|⟨b',cap',cs,e',fss,q1,hfp,aD,hc,hl',hm,hf,hs,hv⟩
 . rw[h0] at hi;exact absurd hi (da _)
 simp only[Value.slice.injEq,Option.some.injEq,Addr.mk.injEq] at q1;obtain ⟨⟨rfl,_⟩,_,rfl⟩:=q1;obtain ⟨b2,cap2,ZK,ZL,hu2,XK⟩:=h.aG l2 _ kv;have hlf:i<fss.length:=by omega
 have hvi:=hv i hi;rw[hxi,bd,Nat.mul_one] at hvi;obtain ⟨hu,hfe,huo⟩:=RF hvi;have hR1:=h.Rt l2 _ kv S (λ_ h=>h) (λb h1 h2=>absurd h1 h2);have G8:=gH (fp l2) fss i hlf hfe;have hpm:(b::(fss.set i (fp l2)).flatten).Perm (fp l2++fp l):=by rw[hfp];exact (G8.cons b).trans List.perm_middle.symm
 have YY:∀c,c∈b::(fss.set i (fp l2)).flatten->c∈fp l2\/c∈fp l:=λc hc=>List.mem_append.1 (hpm.mem_iff.1 hc);have hnl:l≠l2:=Ne.symm hne;have V6:nX φ l2 .dead l=φ l:=bB _ _ _ _ hnl
 refine ⟨_,_,hR1.next l (φ l) (b::(fss.set i (fp l2)).flatten) S _ (cm _) (a7.refl _) (jI.refl _) (λ_ _ _=>rfl) (λc hc=>⟨hc,rfl⟩) (λc h1 h2=>absurd h1 h2) (λl b sh af cs e _ hb=>⟨cs,e,hb,rfl⟩)
  (λ_ _ _ _=>rfl) (λaf _=>by rw[V6];exact LS.le_refl _ _) ?_ ?_ (λ_ _ hk=>by cases hk) ?_ ?_⟩
 . rintro af ⟨k',h1,h2⟩;rw[aw,if_neg hne,hlk] at h1;cases h1;exact h2
 . refine .inr ⟨b,cap,by rw [aB];exact hφ,cM ..,λh=>(by cases h),?_⟩;refine .arr ⟨1,false⟩ (xs.set i (.arr sh2 ys)) b cap cs e' (fss.set i (fp l2)) aD hc (by simpa using hl') hm (λj hj=> ?_) (by simpa using hs) λj hj=> ?_
   . rw [List.getElem_set];split
     . exact ⟨rfl,rfl⟩
     exact hf j (by simpa using hj)
   have hj':j<xs.length:=(by simpa using hj);by_cases ej:i=j
   . subst ej;have e1:(fss.set i (fp l2)).getD i []=fp l2:=(by simp[uq6,hlf]);rw[List.getElem_set_self,e1,bd,Nat.mul_one,hu];exact XK
   have e1:(fss.set i (fp l2)).getD j []=fss.getD j []:=(by simp[uq6,ej]);rw[List.getElem_set_ne ej,e1];exact hv j hj'
 . refine hpm.nodup_iff.2 (List.nodup_append.2 ⟨h.hZ l2,h.hZ l,λc h1 c' h2 e=>?_⟩);subst e;exact hne (h.fL l2 l c h1 h2)
 intro c hc;have XL:∀l',l'≠l->c∈nX fp l2 [] l'->c∈fp l'/\l'≠l2:=λl' hl' hc'=>by
  by_cases e2:l'=l2
  . subst e2;rw[aB] at hc';cases hc'
  rw[bB _ _ _ _ e2] at hc';exact ⟨hc',e2⟩
 rcases YY c hc with hcl|hcl
 . have:=h.cu l2 c hcl;refine ⟨h.bS l2 c hcl,λl' hl' hc'=>?_,this.1,.inl (this.2.resolve_right λhh=>eZ _ (Nat.lt_of_lt_of_le hl2 hh.choose_spec.2.1))⟩;obtain ⟨h1,h2⟩:=XL l' hl' hc';exact h2 (h.fL l' l2 c h1 hcl)
 have:=h.cu l c hcl;refine ⟨h.bS l c hcl,λl' hl' hc'=>?_,this.1,this.2⟩;obtain ⟨h1,h2⟩:=XL l' hl' hc';exact hl' (h.fL l' l c h1 hcl)
theorem aj.C8 {code:Code}{Q:de}{q:Pack (code,Q)}(l v i l2:Nat)(xs ys:lA)(sh2:Sh)(hl:l<bE)(hlk:ah m l=some (.row v ⟨1,false⟩ true xs))(hx:xs[i]? =some (.arr sh2 ys))(hy:0<ys.length)(Q9:ah m l2=none)
 (h:∀u,aj P N code ts ((l2,.sub 0 sh2 ys u)::(l,.row v ⟨1,false⟩ true (xs.set i (.val u)))::m) Q q):aj P N code ts m Q q:=
 ⟨λB φ fp S a w hRS=>have ⟨_,_,u,hR⟩:=hRS.C8 hl hlk hx hy Q9;(h u).ok B _ _ _ a w hR⟩
theorem RS.known (h:RS B N φ fp S ts m a w){t l v n:Nat}{sh:Sh}{ys:lA}(ht:look ts t= .ref l v 0 n)(htN:t<N)(hlk:ah m l=some (.row v sh true ys))(hn:n=ys.length)(h0:0<n)(hsz:0<sh.sz):
 ∃φ2 fp2 u,RS B N φ2 fp2 S ((t,.val u)::ts) ((l,.sub v sh ys u)::m) a w:=by
 subst hn;rcases h.aG l _ hlk with ⟨_,e0,_⟩|⟨b,cap,hφ,hbm,_,bc⟩
 . rw[e0] at h0;exact absurd h0 (eZ _)
 simp only[if_true] at bc;have htm:=h.tm t;rw[ht] at htm;have hr:=dt htm;obtain ⟨ad,cp,hv,hnc,hcp⟩:=hr.1 b sh hφ;obtain ⟨rfl,cs,e,g1,g2⟩:=hcp.resolve_left (by omega);rw[Nat.zero_mul] at hv;have QW:=bc;rcases kg bc with ⟨e0,_⟩|⟨b',cap',cs',e',fss,q1,hfp,aD,hc,hl',hm,hf,hs,hvv⟩
 . rw[e0] at h0;exact absurd h0 (eZ _)
 simp only [Value.slice.injEq,Option.some.injEq,Addr.mk.injEq] at q1;obtain ⟨⟨rfl,_⟩,_,rfl⟩:=q1;obtain rfl:=dc (aD.symm.trans g1);have hcc:cp=cap:=by
  have:cp*sh.sz=cap*sh.sz:=by rw[←hc,g2,Nat.zero_add]
  exact Nat.eq_of_mul_eq_mul_right hsz this
 subst hcc;have R1:RS B N (nX φ l (φ l)) (nX fp l (fp l)) S ts ((l,.sub v sh ys (.slice (some ⟨b,0,none⟩) ys.length cp))::m) a w:=by
  refine h.next l (φ l) (fp l) S _ (cm _) (a7.refl _) (jI.refl _) (λ_ _ _=>rfl) (λc hc=>⟨hc,rfl⟩) (λc h1 h2=>absurd h1 h2) (λl b sh af cs e _ hb=>⟨cs,e,hb,rfl⟩)
   (λ_ _ _ _=>rfl) (λaf _=>LS.le_refl _ _) ?_ ?_ (λ_ _ hk=>by cases hk) (h.hZ l) ?_
  . rintro af ⟨k',h1,h2⟩;rw[hlk] at h1;cases h1;exact h2
  . exact ⟨b,cp,by rw[aB];exact hφ,hbm,rfl,QW⟩
  intro c hc;have:=h.cu l c hc;exact ⟨h.bS l c hc,λl' hl' hc'=>hl' (h.fL l' l c hc' hc),this.1,this.2⟩
 refine ⟨_,_,_,{R1 with tm:=λt'=>?_,tl:=λt' l' af hl'=>?_}⟩
 . rw [cN];split
   . rename_i e;subst e;rw[hv];exact .rd _ _ (.val _ rfl)
   exact R1.tm t'
 rw[cN] at hl';split at hl'
 . cases hl'
 exact R1.tl t' l' af hl'
theorem aj.known {code:Code}{Q:de}{q:Pack (code,Q)}(t l v n:Nat)(sh:Sh)(ys:lA)(ht:look ts t= .ref l v 0 n)(htN:t<N)(hlk:ah m l=some (.row v sh true ys))(hn:n=ys.length)(h0:0<n)(hsz:0<sh.sz)
 (h:∀u,aj P N code ((t,.val u)::ts) ((l,.sub v sh ys u)::m) Q q):aj P N code ts m Q q:=
 ⟨λB φ fp S a w hRS=>have ⟨_,_,u,hR⟩:=hRS.known ht htN hlk hn h0 hsz;(h u).ok B _ _ _ a w hR⟩
theorem aj.vc {code:Code}{Q:de}{q:Pack (code,Q)}(hok:codeOk N code=true)(h:vc P N code ts m Q):aj P N code ts m Q q:=⟨cB code _ _ _ hok h⟩
theorem RS.PB (h:RS B N φ fp S ts m a w){l v:Nat}{sh:Sh}{xs:lA}(hio:l<bE)(hlk:ah m l=some (.row v sh true xs)):∃fp2 S2,RS B N φ fp2 S2 ts ((l,.row v sh false xs)::m) a w/\∀c,S c->S2 c:=by
 have Ut:nX φ l (φ l)=φ:=funext λk=>by unfold nX;split<;>simp_all
 rcases h.aG l _ hlk with ⟨h1,h2,h3⟩|⟨b,cap,hφ,hbm,_,bc⟩
 . have hR:=h.next l (φ l) [] S (.row v sh false xs) (cm _) (a7.refl _) (jI.refl _) (λ_ _ _=>rfl) (λc hc=>⟨hc,rfl⟩) (λc h1 h2=>absurd h1 h2) (λl b sh af cs e _ hb=>⟨cs,e,hb,rfl⟩)
    (λ_ _ _ _=>rfl) (λaf _=>LS.le_refl _ _) (by
      rintro af ⟨k',g1,g2⟩
      rw[hlk] at g1;cases g1;exact g2) (.inl ⟨by rw[aB];exact h1,h2,rfl⟩) (λ_ _ hk=>by cases hk) eR (λc hc=>by cases hc)
   rw[Ut] at hR;exact ⟨_,_,hR,λ_ h=>h⟩
 simp only[if_true] at bc;obtain ⟨cs,e,fss,hgf,aD,hcs,b_,hmx,hff,hfl,hvv⟩:=gI bc hbm;obtain ⟨S',hR,hS,_⟩:=h.CG hlk hφ hgf aD hcs b_ hmx hff hfl hvv hio;rw[Ut] at hR;exact ⟨_,_,hR,hS⟩
theorem RS.S7 (h:RS B N φ fp S ts m a w){l v:Nat}{sh:Sh}{xs:lA}(hio:l<bE)(hlk:ah m l=some (.row v sh true xs)):∃φ2 fp2 S2,RS B N φ2 fp2 S2 ts ((l,.row v sh false xs)::m) a w:=
 have ⟨_,_,hR,_⟩:=h.PB hio hlk
 ⟨_,_,_,hR⟩
end
def hk (P:pR)(n:St):St:=λts m=>∀(B:eC)(N:Nat)(φ:Nat->LS)(fp:nN)(S:nP)(a:Act)(w:World),RS B N φ fp S ts m a w->∃φ2 fp2 S2 ts2 m2,RS B N φ2 fp2 S2 ts2 m2 a w/\n ts2 m2
@[congr] theorem WX {P:pR} {n:St} {ts ts':Env} {m m':Mem} (h:ts=ts') (h2:m=m'):hk P n ts m=hk P n ts' m':=by rw[h,h2]
theorem hk.go {P:pR}{n:St}{ts:Env}{m:Mem}(h:n ts m):hk P n ts m:=λ_ _ _ _ _ _ _ hR=>⟨_,_,_,_,_,hR,h⟩
theorem hk.back {P:pR}{n:St}{ts:Env}{m:Mem}(l v i l2 v2:Nat)(xs ys:lA)(sh2:Sh)(u:Value)(hl2:l2<bE)(hlk:ah m l=some (.row v ⟨1,false⟩ true xs))(hx:xs[i]? =some (.val u))(kv:ah m l2=some (.sub v2 sh2 ys u))
 (h:hk P n ts ((l,.row v ⟨1,false⟩ true (xs.set i (.arr sh2 ys)))::(l2,.gone v2)::m)):hk P n ts m:=λB N _ _ _ a w hR=>
 have ⟨_,_,hR2⟩:=hR.J7 hl2 hlk hx kv
 h B N _ _ _ a w hR2
theorem aj.Vu {P:pR}{N:Nat}{ts:Env}{m:Mem}{code:Code}{Q:de}{q:Pack (code,Q)}(h:aj P N code ts m (zF Q (hk P (Q .normal))) ⟨⟩):aj P N code ts m Q q:=by
 refine ⟨λB φ fp S a w hRS=>wp_mono (h.ok B φ fp S a w hRS) λe a' w' hq=>?_⟩;obtain ⟨φ',fp',S',ts',m',h1,h2⟩:=hq;cases e with
 |normal=>
  obtain ⟨φ2,fp2,S2,ts2,m2,hR,hn⟩:=h2 B N φ' fp' S' a' w' h1;exact ⟨φ2,fp2,S2,ts2,m2,hR,hn⟩
 |_=>exact ⟨φ',fp',S',ts',m',h1,h2⟩
inductive yp:Env->Mem->Env->Mem->Prop
 |here {ts:Env} {m:Mem} {ts2:Env} {m2:Mem} (h:sj ts m ts2 m2):yp ts m ts2 m2
 |mv {ts:Env} {m:Mem} {ts2:Env} {m2:Mem} (l l':Nat) (hl:l<bE) (hl':l'<bE) (h:yp (HN l l' ts) (x7 l l' m) ts2 m2):yp ts m ts2 m2
 |back {ts:Env} {m:Mem} {ts2:Env} {m2:Mem} (l v i l2 v2:Nat) (xs ys:List AV) (sh2:Sh) (u:Value) (hl2:l2<bE) (hlk:ah m l=some (.row v ⟨1,false⟩ true xs)) (hx:xs[i]? =some (.val u)) (kv:ah m l2=some (.sub v2 sh2 ys u))
   (h:yp ts ((l,.row v ⟨1,false⟩ true (xs.set i (.arr sh2 ys)))::(l2,.gone v2)::m) ts2 m2):yp ts m ts2 m2
section
variable {B:eC} {N:Nat} {S:nP} {ts:Env} {m:Mem} {a:Act} {w:World} {P:pR}
theorem RS.J8 {ts2:Env}{m2:Mem}(hr:yp ts m ts2 m2):∀{φ:Nat->LS} {fp:nN},RS B N φ fp S ts m a w->∃φ' fp' S',RS B N φ' fp' S' ts2 m2 a w:=by
 induction hr with
 |here h=>intro φ fp hR;exact ⟨_,_,_,hR.refine h⟩
 |mv l l' hl hl' _ ih=>intro φ fp hR;exact ih (hR.DV hl hl')
 |back l v i l2 v2 xs ys sh2 u hl2 hlk hx kv _ ih=>
  intro φ fp hR;obtain ⟨_,_,hR2⟩:=hR.J7 hl2 hlk hx kv;exact ih hR2
theorem Ok.WY {body:Code}{ι:Type}(I:ι->Prop)(σ:ι->Env × Mem)(μ:ι->Nat){Q:de}(x0:ι)(h0:I x0)(hr:yp ts m (σ x0).1 (σ x0).2)
 (step:∀x,I x->Ok P N body (σ x).1 (σ x).2 (zF Q λts' m'=>∃y,I y/\μ y<μ x/\yp ts' m' (σ y).1 (σ y).2)):Ok P N (.loop body) ts m Q:=by
 intro B φ fp S a w hRS;obtain ⟨DT,fp0,S0,hR0⟩:=hRS.J8 hr;refine wp_loop_ghost (λn a w=>∃x φ fp S,I x/\μ x=n/\RS B N φ fp S (σ x).1 (σ x).2 a w) (μ x0) ⟨x0,_,_,_,h0,rfl,hR0⟩ ?_;rintro n a w ⟨x,φ,fp,S,hx,rfl,hRS⟩;refine wp_mono (step x hx B φ fp S a w hRS) λe a' w' hq=>?_;obtain ⟨φ',fp',S',ts',m',h1,h2⟩:=hq;cases e with
 |normal=>
  obtain ⟨y,hy,hlt,Wb⟩:=h2;obtain ⟨φ3,fp3,S3,hR3⟩:=h1.J8 Wb;exact ⟨μ y,hlt,y,_,_,_,hy,rfl,hR3⟩
 |_=>exact ⟨φ',fp',S',ts',m',h1,h2⟩
theorem aj.Zv {body:Code}(L D E:lN)(n:Nat)(I:nP)(up:Nat->Env)(um:Nat->Mem){Q:de}{q:Pack (Code.loop body,Q)}(h0:I 0)
 (hr:yp ts m (up 0++pick L ts) (um 0++iA D E m)) (hok:codeOk N body=true)
 (step:∀i,i<n->I i->aj P N body (up i++pick L ts) (um i++iA D E m) (zF Q λts' m'=>I (i+1)/\yp ts' m' (up (i+1)++pick L ts) (um (i+1)++iA D E m)) ⟨⟩)
 (stop:I n->aj P N body (up n++pick L ts) (um n++iA D E m) (zF Q λ_ _=>False) ⟨⟩):aj P N (.loop body) ts m Q q:=by
 refine ⟨Ok.WY (λi=>i<=n/\I i) (λi=>(up i++pick L ts,um i++iA D E m)) (λi=>n-i) 0 ⟨Nat.zero_le _,h0⟩ hr λi ⟨hi,hI⟩=>?_⟩;rcases Nat.lt_or_ge i n with h|h
 . refine Ok.mono (step i h hI).ok λe ts' m' hq=> ?_;cases e with
   |normal=>exact ⟨i+1,⟨h,hq.1⟩,by omega,hq.2⟩
   |_=>exact hq
 have e:i=n:=Nat.le_antisymm hi h;subst e;refine Ok.mono (stop hI).ok λe ts' m' hq=>?_;cases e with
 |normal=>exact hq.elim
 |_=>exact hq
end
section
variable {P:pR} {B:eC} {N:Nat} {φ:Nat->LS} {fp:nN} {S:nP} {ts:Env} {m:Mem} {a:Act} {w:World}
theorem aj.Vv {x y:Code}{Q:de}{q:Pack (Code.seq x y,Q)}(hok:codeOk N x=true)(h:Go.Vc.vc P N x ts m (zF Q λts' m'=>aj P N y ts' m' Q ⟨⟩)):aj P N (.seq x y) ts m Q q:=⟨λB φ fp S ac w hRS=>by
 refine wp_seq (wp_mono (cB x ts m _ hok h B φ fp S ac w hRS) λe a' w' hq=>?_);obtain ⟨φ',fp',S',ts',m',h1,h2⟩:=hq;cases e with
 |normal=>exact h2.ok B φ' fp' S' a' w' h1
 |_=>exact ⟨φ',fp',S',ts',m',h1,h2⟩⟩
theorem aj.Yf {x y:Code}{Q:de}{q:Pack (Code.seq x y,Q)}(h:aj P N x ts m (zF Q λts' m'=>aj P N y ts' m' Q ⟨⟩) ⟨⟩):aj P N (.seq x y) ts m Q q:=⟨λB φ fp S ac w hRS=>by
 refine wp_seq (wp_mono (h.ok B φ fp S ac w hRS) λe a' w' hq=>?_);obtain ⟨φ',fp',S',ts',m',h1,h2⟩:=hq;cases e with
 |normal=>exact h2.ok B φ' fp' S' a' w' h1
 |_=>exact ⟨φ',fp',S',ts',m',h1,h2⟩⟩
theorem aj.Vw {id:Nat}{x:Code}{Q:de}{q:Pack (Code.block id x,Q)}(h:aj P N x ts m (pN Q id) ⟨⟩):aj P N (.block id x) ts m Q q:=⟨λB φ fp S ac w hRS=>by
 refine wp_block (wp_mono (h.ok B φ fp S ac w hRS) λe a' w' hq=>?_);obtain ⟨φ',fp',S',ts',m',h1,h2⟩:=hq;cases e with
 |exit j=>
  simp only[pN] at h2;simp only[Exit.inBlock];split
  . rename_i hj;rw[if_pos hj] at h2;exact ⟨φ',fp',S',ts',m',h1,h2⟩
  rename_i hj;rw[if_neg hj] at h2;exact ⟨φ',fp',S',ts',m',h1,h2⟩
 |_=>exact ⟨φ',fp',S',ts',m',h1,h2⟩⟩
def nw (P:pR)(N:Nat)(n:St):St:=λts m=>∀(B:eC)(φ:Nat->LS)(fp:nN)(S:nP)(a:Act)(w:World),RS B N φ fp S ts m a w->∃φ2 fp2 S2 ts2 m2,RS B N φ2 fp2 S2 ts2 m2 a w/\n ts2 m2
@[congr] theorem Wv {P:pR} {N:Nat} {n:St} {ts ts':Env} {m m':Mem} (h:ts=ts') (h2:m=m'):nw P N n ts m=nw P N n ts' m':=by rw[h,h2]
theorem nw.known {n:St}(t l v k:Nat)(sh:Sh)(ys:lA)(ht:look ts t= .ref l v 0 k)(htN:t<N)(hlk:ah m l=some (.row v sh true ys))(hn:k=ys.length)(h0:0<k)(hsz:0<sh.sz)
 (h:∀u,n ((t,.val u)::ts) ((l,.sub v sh ys u)::m)):nw P N n ts m:=λ_ _ _ _ _ _ hRS=>have ⟨_,_,u,hR⟩:=hRS.known ht htN hlk hn h0 hsz;⟨_,_,_,_,_,hR,h u⟩
theorem Fn.shared {f:fI}{args:lA}{post:AV->Prop}(h:Fn P f args true post):Fn P f args false post:=
 ⟨h.1,λw S vs h1 hk h2 h3=>(h.2 w S vs h1 hk h2 h3).mono λ_ _ ⟨r,v,g1,g2,g3,g4⟩=>⟨r,v,g1,g2,g3,by
   simp only[iN,if_true] at g4;obtain ⟨fs,hO,_,hge⟩:=g4;simp only[iN,uq4,if_false]
   exact hO.mm (λ_ h=>h.elim) λb hb=>.inr ⟨hge b hb,hO.lt b hb⟩⟩⟩
structure Ir (w w':World) (b' c' n i:Nat) (JA:Nat->Value) (x:Value):Prop where
 lt:b'<w'.heap.size
 room:n+1<=c'
 max:c'<=maxLen
 row:∃(cs':aV) (e':El),w'.heap[b']? =some (eA cs' e')/\cs'.size=c'/\∀p,p<n+1->cs'.toList.getD p uD=if p<i then JA p else if p=i then x else JA (p-1)
 ZO:∀c:Nat,c≠b'->c<w.heap.size->w'.heap[c]? =w.heap[c]?
 Zf:w.heap.size<=w'.heap.size
 out:a7 w w'
structure X5 (P:Program) (f:FuncId):Prop where
 enters:Enters P f
 at_:∀(w:World) (b vb c vc i n:Nat) (cs cv:aV) (e:El) (ev:TypeId) (x:Value),w.heap[b]? =some (eA cs e)->cs.size=c->n<=c->i<=n->n+1<=1073741824->c<=maxLen->vb≠b->w.heap[vb]? =some (.cells cv ev (0,0))->cv[0]? =some x->x.oneCell'=true→
  (∀v,v∈cs.toList.take n->v.oneCell'=true)->0<n→
  Calls P f #[.slice (some ⟨b,0,none⟩) n c,.int .i64 i,.slice (some ⟨vb,0,none⟩) 1 vc] w λe' w'=>∃b' c',e'= .returned (.slice (some ⟨b',0,none⟩) (n+1) c')/\Ir w w' b' c' n i (λp=>cs.toList.getD p uD) x/\(b'=b/\c'=c\/b'=w.heap.size)
 Zw:∀(w:World) (ad:Option Addr) (vb c vc:Nat) (cv:aV) (ev:TypeId) (x:Value),w.heap[vb]? =some (.cells cv ev (0,0))->cv[0]? =some x->x.oneCell'=true->c=0→
  Calls P f #[.slice ad 0 c,.int .i64 0,.slice (some ⟨vb,0,none⟩) 1 vc] w λe' w'=>∃b' c',e'= .returned (.slice (some ⟨b',0,none⟩) 1 c')/\Ir w w' b' c' 0 0 (λ_=>uD) x/\b'=w.heap.size
 Zg:∀(w:World) (b vb c vc:Nat) (cs cv:aV) (e:El) (ev:TypeId) (x:Value),w.heap[b]? =some (eA cs e)->cs.size=c->1<=c->c<=maxLen->vb≠b->w.heap[vb]? =some (.cells cv ev (0,0))->cv[0]? =some x->x.oneCell'=true→
  Calls P f #[.slice (some ⟨b,0,none⟩) 0 c,.int .i64 0,.slice (some ⟨vb,0,none⟩) 1 vc] w λe' w'=>∃b' c',e'= .returned (.slice (some ⟨b',0,none⟩) 1 c')/\Ir w w' b' c' 0 0 (λ_=>uD) x/\(b'=b/\c'=c)
theorem Is {n j:Nat}(h:j<n):(dh (n-j)).map (· +j)=j::(dh (n-(j+1))).map (· +(j+1)):=by rw[show n-j=(n-(j+1))+1 by omega,List.range_succ_eq_map];simp[List.map_map,Function.comp_def];intro q hq;omega
theorem sN {ops:List Oper}{n:Nat}(hok:jM N ops=true)(dD:((ops.take n).all λo=>o.guard.isNone)=true)(hn:n<=ops.length){Q:Exit->Act->World->Prop}{K:St}
 (hQ:∀φ fp S ts m a w,RS B N φ fp S ts m a w->K ts m->wpOps P ops.toArray Q ((dh (ops.length-n)).map (· +n)) a w):
 ∀(l:List Oper) (i:Nat),(ops.take n).drop i=l->i<=n->∀(φ:Nat->LS) (fp:nN) (S:nP) (ts:Env) (m:Mem) (a:Act) (w:World),RS B N φ fp S ts m a w->sL P ops l ts m K→
  wpOps P ops.toArray Q ((dh (ops.length-i)).map (· +i)) a w
 | [],i,hl,hin,φ,fp,S,ts,m,a,w,h,hk=>by
   have:i=n:=by have:=congrArg List.length hl;simp at this;omega
   subst this;exact hQ φ fp S ts m a w h hk
 |o::r,i,hl,hin,φ,fp,S,ts,m,a,w,h,hk=>by
  have hi':i<n:=by have:=congrArg List.length hl;simp at this;omega
  have hi:i<ops.length:=by omega
  have Wh:(ops.take n)[i]? =some o:=by have:=congrArg (·[0]?) hl;simpa using this
  have hoi:ops[i]? =some o:=by rw[List.getElem?_take,if_pos hi'] at Wh;exact Wh
  have hg:o.guard=none:=by have:=uq5.1 dD o (bp Wh);simpa using this
  have hr:(ops.take n).drop (i+1)=r:=by have:=congrArg List.tail hl;simpa using this
  rw[Is hi];have hoo:ops.toArray[i]? =some o:=by simpa using hoi
  simp only[wpOps,hoo];have hdo:∀d,o.dst=some d->d<N:=by intro d hd;have:=uq5.1 hok o (bp hoi);rw[hd] at this;simpa using this
  simp only[sL,hg] at hk;simp only[Region.wanted,hg,if_true];refine .inl (gu h hk λv w' hgv=>?_);obtain ⟨φ',fp',S',ts',m',h1,h2⟩:=step_done (o:=o) (K:=λts m=>sL P ops r ts m K) hdo hgv (λx m' h=>h);exact sN hok dD hn hQ r (i+1) hr (by omega) φ' fp' S' ts' m' _ w' h1 h2
end
def yq (ops:List Oper)(n:Nat):Bool:=vo ops&&(dh ops.length).all λj=>decide (j<n)||(dh j).all λi=>((yd ops []).getD j []).contains i
section
variable {P:pR} {B:eC} {N:Nat} {φ:Nat->LS} {fp:nN} {S:nP} {ts:Env} {m:Mem} {a:Act} {w:World}
variable {os:Nat->Oper} {qs:Nat->Rec} {D D':Nat->Bool} {ops:List Oper} {tr:List (lN × lN)}
theorem FG {n:Nat}(h:yq ops n=true)(hD:ig ops D){j:Nat}(hj:j<ops.length)(hn:n<=j)(hd:D j=true):∀i,i<j->D i=true:=by
 intro i hi;simp only[yq,uq3,uq5,cE,Bool.or_eq_true,decide_eq_true_eq,List.contains_eq_mem] at h;rcases h.2 j hj with h1|h1
 . omega
 exact jD hD ops [] rfl (λj x hx=>by simp at hx) j i (h1 i hi) hd
theorem C9 {n:Nat}(h:yq ops n=true):∀i o,ops[i]? =some o->∀p,p∈iz o->p<i:=by intro i o ho p hp;simp only[yq,vo,uq3,uq5,cE] at h;have:=h.1 i (uq8.1 ho).1;rw[ho] at this;simpa using uq5.1 this p hp
def X6 (ops:List Oper)(k:Nat)(listed:Array Bool):Prop:=listed.size=ops.length/\∀i,i<ops.length->listed.getD i false=decide (i<k)
theorem It {n:Nat}(hs:yq ops n=true)(hok:jM N ops=true)(hgs:df N ops=true){Q:Exit->Act->World->Prop}{K:St}(hQ:∀a w,ia B N K a w->Q .normal a w):
 ∀(c k fuel:Nat) (listed:Array Bool) (φ:Nat->LS) (fp:nN) (S:nP) (ts:Env) (m:Mem) (a:Act) (w:World),c=ops.length-k->n<=k->k<=ops.length->X6 ops k listed->ops.length-k<=fuel→
  RS B N φ fp S ts m a w->sL P ops (ops.drop k) ts m K->wpAny P .any ops.toArray Q fuel listed a w:=by
 intro c;induction c with
 |zero=>
  intro k fuel listed φ fp S ts m a w hc hnk hk hu hf h hsl;have hkl:k=ops.length:=by omega
  subst hkl;rw [List.drop_length] at hsl;have cy:Q .normal a w:=hQ a w ⟨φ,fp,S,ts,m,h,hsl⟩;have hr:Region.ready .any ops.toArray listed=[]:=by
   cases hr:Region.ready .any ops.toArray listed with
   |nil=>rfl
   |cons j r=>
    have hj:j∈Region.ready .any ops.toArray listed:=(by rw[hr];exact cM ..);obtain ⟨h0,o,ho,_⟩:=mem_ready.1 hj;have hjn:j<ops.length:=(by simpa using (uq1.1 ho).1);have:=hu.2 j hjn;rw[getD_both h0] at this;simp at this;omega
  cases fuel with
  |zero=>exact ⟨hr,cy⟩
  |succ fuel=>exact ⟨λ_=>cy,λi hi=>by rw[hr] at hi;cases hi⟩
 |succ c ih=>
  intro k fuel listed φ fp S ts m a w hc hnk hk hu hf h hsl;have hkl:k<ops.length:=by omega
  have mi:ops[k]? =some ops[k]:=uq7 hkl;rw[List.drop_eq_getElem_cons hkl] at hsl;generalize ops[k]=o at mi hsl;obtain ⟨fuel,rfl⟩:∃f,fuel=f+1:=⟨fuel-1,by omega⟩;have DN:ig ops (λi=>listed.getD i false):=by intro j oj hoj hdj i hi;have hjn:=(uq8.1 hoj).1;have h1:=hu.2 j hjn;have h2:=C9 hs j oj hoj i hi;have h3:=hu.2 i (by omega);simp only at hdj ⊢;rw[h1] at hdj;rw[h3];simp at hdj ⊢;omega
  have zw:k∈Region.ready .any ops.toArray listed:=by
   refine mem_ready.2 ⟨?_,o,by simpa using mi,λe he hb=>?_⟩
   . have h5:listed.getD k false=false:=(by rw[hu.2 k hkl];exact dF (eZ k));exact getD_in (by rw[hu.1];exact hkl) h5
   have hp:e.on∈iz o:=ba.2 ⟨e,a_.2 ⟨by simpa using he,hb⟩,rfl⟩;have hlt:=C9 hs k o mi _ hp;rw[hu.2 e.on (by omega)];simpa using hlt
  refine ⟨λhr=>(by rw[hr] at zw;exact absurd zw List.not_mem_nil),λj hj=>?_⟩;obtain ⟨h0,oj,hoj,dD⟩:=mem_ready.1 hj;have hdj:listed.getD j false=false:=getD_both h0;have uy:ops[j]? =some oj:=by simpa using hoj
  have hjn:j<ops.length:=(uq8.1 uy).1;have hjk:k<=j:=by have:=hu.2 j hjn;rw[hdj] at this;simp at this;omega
  have hp:∀i,i∈iz oj->listed.getD i false=true:=by intro i hi;obtain ⟨e,he,rfl⟩:=ba.1 hi;obtain ⟨he1,he2⟩:=a_.1 he;exact dD e (by simpa using he1) he2
  have e:j=k:=by
   rcases Nat.lt_or_ge k j with hlt|hge
   . have QX:=DN.add uy hp;have:=FG hs QX hjn (by omega) (by simp[iT]) k hlt;simp only[iT,hu.2 k hkl,Bool.or_eq_true,beq_iff_eq] at this;simp at this;omega
   omega
  subst e;rw[mi] at uy;injection uy with uy
  subst uy;have hup:X6 ops (j+1) (listed.setIfInBounds j true):=by
   refine ⟨by simp[hu.1],λi hi=>?_⟩;by_cases e:i=j
   . subst e;simp[hu.1,hi]
   rw[getD_set_ne false (Ne.symm e),hu.2 i hi];simp;omega
  have hdo:∀d,o.dst=some d->d<N:=by intro d hd;have:=uq5.1 hok o (bp mi);rw[hd] at this;simpa using this
  have next:∀a' w',ia B N (λts m=>sL P ops (ops.drop (j+1)) ts m K) a' w'->wpAny P .any ops.toArray Q fuel (listed.setIfInBounds j true) a' w':=by rintro a' w' ⟨φ',fp',S',ts',m',h',hk'⟩;exact ih (j+1) fuel _ φ' fp' S' ts' m' a' w' (by omega) (by omega) (by omega) hup (by omega) h' hk'
  unfold wpOp;have hoA:ops.toArray[j]? =some o:=by simpa using mi
  simp only[hoA];simp only[sL] at hsl;cases hg:o.guard with
  |none=>
   rw[hg] at hsl;rw[cr h hgs mi (show cJ ops o ts=some true by simp[cJ,hg])];simp only[if_true];exact .inl (gu h hsl λv w' hgv=>next _ _ (step_done hdo hgv λx m' hx=>hx))
  |some jw=>
   obtain ⟨g,want⟩:=jw;rw[hg] at hsl;simp only at hsl;unfold gv at hsl;split at hsl
   . rename_i c hy;by_cases hcw:c=want
     . subst hcw;rw[cr h hgs mi (show cJ ops o ts=some true by simp[cJ,hg,hy])];simp only[if_true];exact .inl (gu h (hsl.1 rfl) λv w' hgv=>next _ _ (step_done hdo hgv λx m' hx=>hx))
     rw[cr h hgs mi (show cJ ops o ts=some false by simp[cJ,hg,hy,hcw])];simp only[uq4,if_false];have hk2:=hsl.2 hcw;refine next _ _ (step_done (k:=λx m'=>x= .aX []/\m'=m) hdo (h.gives (x:=.aX []) (.rd _ _ (.aX [] #[] rfl λi hi=>absurd hi (da _))) (λ_ _ hl=>by cases hl) ⟨rfl,rfl,rfl⟩) λx m' ⟨h1,h2⟩=>?_)
     rw[h1,h2];exact hk2
   . rename_i hy;rw [cr h hgs mi (show cJ ops o ts=some false by simp [cJ,hg,hy])];simp only [uq4,if_false];refine next _ _ (step_done (k:=λx m'=>x= .aX []/\m'=m) hdo (h.gives (x:=.aX []) (.rd _ _ (.aX [] #[] rfl λi hi=>absurd hi (da _))) (λ_ _ hl=>by cases hl) ⟨rfl,rfl,rfl⟩) λx m' ⟨h1,h2⟩=> ?_)
     rw[h1,h2];exact hsl
   exact hsl.elim
theorem yt {f:Nat->Bool}{n:Nat}:∀N,(∀i,n<=i->i<N->f i=true)->N-n<=(dh N).countP f
 |0,_=>by omega
 |N+1,h=>by
  rw[c_,List.countP_append];have:=yt (f:=f) (n:=n) N λi h1 h2=>h i h1 (by omega);by_cases e:n<=N
  . have h1:=h N e (by omega);have h2:List.countP f [N]=1:=(by simp[h1]);omega
  omega
theorem kW {n i:Nat}(h:i<n):(ops.take n)[i]? =ops[i]? :=by rw[List.getElem?_take];simp[h]
def Iu (n:Nat)(ops:List Oper):Bool:=(ops.take n).all λo=>match o.guard with|some (j,_)=>decide (j<n)|none=>true
theorem yu {n j:Nat}{o:Oper}(hg:Iu n ops=true)(ho:(ops.take n)[j]? =some o)(ts:Env):cJ (ops.take n) o ts=cJ ops o ts:=by
 have:=uq5.1 hg o (bp ho);unfold cJ;cases hg:o.guard with
 |none=>rfl
 |some iv=>
  obtain ⟨i,v⟩:=iv;rw[hg] at this;simp only[decide_eq_true_eq] at this;simp only[jL];rw[kW this]
theorem Iv {n:Nat}(hn:n<=ops.length)(hs:yq ops n=true)(hgl:Iu n ops=true){ts0:Env}{m0:Mem}(hR:SH P 0 (ops.take n) os qs tr ts0 m0)(hB:mM (ops.take n) tr=true)(hok:jM N ops=true)(hgs:df N ops=true){Q:Exit->Act->World->Prop}{K:St}
 (hK:sL P ops (ops.drop n) (dy os qs (λ_=>true) ts0 m0 n).1 (dy os qs (λ_=>true) ts0 m0 n).2 K) (hQ:∀a w,ia B N K a w->Q .normal a w):
 ∀(fuel:Nat) (listed:Array Bool) (φ:Nat->LS) (fp:nN) (S:nP) (a:Act) (w:World),listed.size=ops.length->ig ops (λi=>listed.getD i false)->(∀i,n<=i->listed.getD i false=false)->CY ops.length listed<=fuel→
  RS B N φ fp S (dy os qs (λi=>listed.getD i false) ts0 m0 n).1 (dy os qs (λi=>listed.getD i false) ts0 m0 n).2 a w->wpAny P .any ops.toArray Q fuel listed a w:=by
 have hlen:(ops.take n).length=n:=by simp;omega
 have qL:=C9 hs
 have full:∀(fuel:Nat) (listed:Array Bool) (φ:Nat->LS) (fp:nN) (S:nP) (a:Act) (w:World),listed.size=ops.length->(∀i,n<=i->listed.getD i false=false)->CY ops.length listed<=fuel→
  (∀i,i<n->listed.getD i false=true)->RS B N φ fp S (dy os qs (λi=>listed.getD i false) ts0 m0 n).1 (dy os qs (λi=>listed.getD i false) ts0 m0 n).2 a w->wpAny P .any ops.toArray Q fuel listed a w:=by
  intro fuel listed φ fp S a w hsz hlo hf cP h;have e:dy os qs (λi=>listed.getD i false) ts0 m0 n=dy os qs (λ_=>true) ts0 m0 n:=kU n (cm _) λq hq=>cP q hq;rw[e] at h;refine It hs hok hgs hQ _ n fuel listed φ fp S _ _ a w rfl (cm _) hn ⟨hsz,λi _=>?_⟩ ?_ h hK
  . by_cases hi:i<n
    . rw[cP i hi];simp[hi]
    rw[hlo i (by omega)];simp[hi]
  refine fu (yt _ λi h1 _=>?_) hf;rw[hlo i h1];rfl
 intro fuel;induction fuel with
 |zero=>
  intro listed φ fp S a w hsz hc hlo hf h;refine full 0 listed φ fp S a w hsz hlo hf (λi hi=>?_) h;cases hl:listed.getD i false with
  |true=>rfl
  |false=>
   have h0:CY ops.length listed=0:=Nat.le_zero.1 hf;have:=List.countP_eq_zero.1 h0 i (cE.2 (by omega));rw[hl] at this;exact absurd rfl this
 |succ fuel ih=>
  intro listed φ fp S a w hsz hc hlo hf h;by_cases cP:∀i,i<n->listed.getD i false=true
  . exact full _ listed φ fp S a w hsz hlo hf cP h
  obtain ⟨i0,hi0⟩:=Classical.not_forall.1 cP;obtain ⟨XM,hi0⟩:=Classical.not_imp.1 hi0;have hi0:listed.getD i0 false=false:=by simpa using hi0
  refine ⟨λhr=>?_,λj hj=>?_⟩
  . exfalso;have:∀i,i<ops.length->listed.getD i false=true:=by
     intro i;induction i using Nat.strongRecOn with
     |ind i ih=>
      intro hi;cases hl:listed.getD i false with
      |true=>rfl
      |false=>
       have ho:ops[i]? =some ops[i]:=uq7 hi
       have:i∈Region.ready .any ops.toArray listed:=mem_ready.2 ⟨getD_in (by omega) hl,ops[i],by simpa using ho,λe he hb=>by
        have hp:e.on∈iz ops[i]:=ba.2 ⟨e,a_.2 ⟨by simpa using he,hb⟩,rfl⟩;have hlt:=qL i _ ho _ hp
        exact ih e.on hlt (by omega)⟩
       rw[hr] at this;cases this
    rw[this i0 (by omega)] at hi0;cases hi0
  obtain ⟨h0,o,ho,dD⟩:=mem_ready.1 hj;have hdj:listed.getD j false=false:=getD_both h0;have ho':ops[j]? =some o:=by simpa using ho
  have hjn:j<ops.length:=(uq8.1 ho').1;have hp:∀i,i∈iz o->listed.getD i false=true:=by intro i hi;obtain ⟨e,he,rfl⟩:=ba.1 hi;obtain ⟨he1,he2⟩:=a_.1 he;exact dD e (by simpa using he1) he2
  have Wi:j<n:=by
   rcases Nat.lt_or_ge j n with hlt|hge
   . exact hlt
   have:=FG hs (hc.add ho' hp) hjn hge (by simp[iT]) i0 (by omega);simp only[iT,hi0,Bool.false_or,beq_iff_eq] at this;omega
  have hot:(ops.take n)[j]? =some o:=(kW Wi).trans ho';have hct:ig (ops.take n) (λi=>listed.getD i false):=λk ok hk=>by have hkn:=(uq8.1 hk).1;rw[hlen] at hkn;exact hc k ok ((kW hkn).symm.trans hk)
  obtain ⟨⟨rd,hya⟩,hlk,hlb⟩:=hR.Vp (D:=λi=>listed.getD i false) hB hct (λi hi=>by
   rw[hlen];rcases Nat.lt_or_ge i n with h'|h'
   . exact h'
   rw[hlo i h'] at hi;cases hi) (λi hi=>absurd hi (da _)) hot hdj hp
  rw [hlen] at hya hlk hlb;have hD':(λi=>(listed.setIfInBounds j true).getD i false)=iT (λi=>listed.getD i false) j:=by
   funext i;by_cases e:i=j
   . subst e;simp[iT,hsz,hjn]
   have e2:(i==j)=false:=(by simpa using e);rw[getD_set_ne false (Ne.symm e)];simp[iT,e2]
  have hf':CY ops.length (listed.setIfInBounds j true)<=fuel:=by
   have:CY ops.length (listed.setIfInBounds j true)<CY ops.length listed:=by
    refine pX _ j (cE.2 hjn) (by simp only[hdj];rfl) (by simp[hsz,hjn]) λi hi=>?_;by_cases e:i=j
    . subst e;rw[hdj];rfl
    rw[getD_set_ne false (Ne.symm e)] at hi;exact hi
   omega
  have next:∀a' w',ia B N (λts m=>ts=mE o.dst (qs j).x (dy os qs (λi=>listed.getD i false) ts0 m0 n).1/\m=(qs j).new++(dy os qs (λi=>listed.getD i false) ts0 m0 n).2) a' w'→
   wpAny P .any ops.toArray Q fuel (listed.setIfInBounds j true) a' w':=by
   rintro a' w' ⟨φ',fp',S',ts',m',h',rfl,rfl⟩;refine ih _ φ' fp' S' a' w' (by simp[hsz]) (by rw[hD'];exact hc.add ho' hp) (λi hi=>?_) hf' ?_
   . rw[getD_set_ne false (by omega)];exact hlo i hi
   rw[hD'];exact h'.ext hlk hlb
  have hdo:∀d,o.dst=some d->d<N:=by intro d hd;have:=uq5.1 hok o (bp ho');rw[hd] at this;simpa using this
  have hwt:=yu hgl hot;unfold wpOp;simp only[ho];rcases hya with ⟨hw,_,cH⟩|⟨hw,hx,iq⟩
  . rw[hwt] at hw;rw[cr h hgs ho' hw];simp only[if_true];refine .inl (gu h (x_ (cH _ (λ_ _=>rfl) (λ_ _=>rfl) (λx m'=>x=(qs j).x/\m'=(qs j).new++(dy os qs (λi=>listed.getD i false) ts0 m0 n).2) ⟨rfl,rfl⟩)) λv w' hg=>?_);exact next _ _ (step_done hdo hg λx m' ⟨h1,h2⟩=>⟨by rw[h1],h2⟩)
  rw[hwt] at hw;rw[cr h hgs ho' hw];simp only[uq4,if_false];refine next _ _ (step_done (k:=λx m'=>x= .aX []/\m'=(dy os qs (λi=>listed.getD i false) ts0 m0 n).2) hdo (h.gives (x:=.aX []) (.rd _ _ (.aX [] #[] rfl λi hi=>absurd hi (da _))) (λ_ _ hl=>by cases hl) ⟨rfl,rfl,rfl⟩) λx m' ⟨h1,h2⟩=>⟨by rw[h1,hx],by rw[h2,iq];rfl⟩)
end
theorem aj.lB (n:Nat){P:pR}{N i:Nat}{ops:List Oper}{ts:Env}{m:Mem}{Q:de}{q:Pack (Code.region i ⟨ops⟩ true,Q)}(hm:P.follows .mixedOrders=true)(hok:(jM N ops&&df N ops&&(Iu n ops&&(yq ops n&&decide (n<=ops.length))))=true)
 (h:sD P (ops.take n) (ops.take n) ts m [] λts' m'=>sL P ops (ops.drop n) ts' m' (Q .normal)):aj P N (.region i ⟨ops⟩ true) ts m Q q:=by
 refine ⟨λB φ fp S a w hRS=>?_⟩;simp only[uq3,decide_eq_true_eq] at hok;have hlen:(ops.take n).length=n:=by simp;omega
 obtain ⟨qs,tr,hR,hB,hK,_⟩:=ye (os:=λi=>(ops[i]?).getD default) (ts0:=ts) (m0:=m) (sk:=0) (λi o _ ho=>by
  have hi:=(uq8.1 ho).1;rw[hlen] at hi;rw[kW hi] at ho
  simp[ho]) (ops.take n) 0 (λ_=>⟨.undef,[]⟩) [] ts m rfl (cm _) (Nat.zero_le _) rfl rfl (λi o _ hi=>absurd hi (da _)) h
 rw[hlen] at hK;refine wp_region_any hm ?_;refine Iv (B:=B) (N:=N) hok.2.2.2 hok.2.2.1 hok.2.1 hR hB hok.1.1 hok.1.2 hK (λa w hd=>hd) _ _ φ fp S a _ (by simp) ?_ ?_ ?_ ?_
 . intro j o _ hd;have hd:(uq2 (e8 ops).size false).getD j false=true:=hd;rw[getD_replicate_false] at hd;cases hd
 . exact λi _=>getD_replicate_false _ _
 . exact fu List.countP_le_length (by simp)
 have e:(λi=>(uq2 (e8 ops).size false).getD i false)=λ_=>false:=funext λi=>getD_replicate_false _ _;have e2:=mL (os:=λi=>(ops[i]?).getD default) (qs:=qs) (D:=λ_=>false) (ts:=ts) (m:=m) (j:=0) (λ_ _=>rfl) n (Nat.zero_le _);show RS B N φ fp S (dy _ qs (λi=>(uq2 (e8 ops).size false).getD i false) ts m n).1 (dy _ qs (λi=>(uq2 (e8 ops).size false).getD i false) ts m n).2 a {w with drawn:=w.drawn+1};rw[e,e2];exact hRS.rM rfl ⟨rfl,rfl,rfl⟩
def om (ops:List Oper)(n:Nat):Bool:=vo ops&&(dh ops.length).all λj=>decide (j<n)||(dh n).all λi=>((yd ops []).getD j []).contains i
section
variable {P:pR} {B:eC} {N:Nat} {φ:Nat->LS} {fp:nN} {S:nP} {ts:Env} {m:Mem} {a:Act} {w:World}
variable {os:Nat->Oper} {qs:Nat->Rec} {D D':Nat->Bool} {ops:List Oper} {tr:List (lN × lN)}
theorem FH {n:Nat}(h:om ops n=true)(hD:ig ops D){j:Nat}(hj:j<ops.length)(hn:n<=j)(hd:D j=true):∀i,i<n->D i=true:=by
 intro i hi;simp only[om,uq3,uq5,cE,Bool.or_eq_true,decide_eq_true_eq,List.contains_eq_mem] at h;rcases h.2 j hj with h1|h1
 . omega
 exact jD hD ops [] rfl (λj x hx=>by simp at hx) j i (h1 i hi) hd
theorem tN {n:Nat}(h:om ops n=true):∀i o,ops[i]? =some o->∀p,p∈iz o->p<i:=by intro i o ho p hp;simp only[om,vo,uq3,uq5,cE] at h;have:=h.1 i (uq8.1 ho).1;rw[ho] at this;simpa using uq5.1 this p hp
theorem Mc {n:Nat}(hn:n<=ops.length)(hs:om ops n=true)(hgl:Iu n ops=true){ts0:Env}{m0:Mem}(hR:SH P 0 (ops.take n) os qs tr ts0 m0)(hB:mM (ops.take n) tr=true)(hok:jM N ops=true)(hgs:df N ops=true)
 {Q:Exit->Act->World->Prop} {KN:St} (hK:KN (dy os qs (λ_=>true) ts0 m0 n).1 (dy os qs (λ_=>true) ts0 m0 n).2)
 (XN:∀(fuel:Nat)(listed:Array Bool)(φ:Nat->LS)(fp:nN)(S:nP)(ts:Env)(m:Mem)(a:Act)(w:World),X6 ops n listed->ops.length-n<=fuel->RS B N φ fp S ts m a w->KN ts m->wpAny P .any ops.toArray Q fuel listed a w):
 ∀(fuel:Nat) (listed:Array Bool) (φ:Nat->LS) (fp:nN) (S:nP) (a:Act) (w:World),listed.size=ops.length->ig ops (λi=>listed.getD i false)->(∀i,n<=i->listed.getD i false=false)->CY ops.length listed<=fuel→
  RS B N φ fp S (dy os qs (λi=>listed.getD i false) ts0 m0 n).1 (dy os qs (λi=>listed.getD i false) ts0 m0 n).2 a w->wpAny P .any ops.toArray Q fuel listed a w:=by
 have hlen:(ops.take n).length=n:=by simp;omega
 have qL:=tN hs
 have full:∀(fuel:Nat) (listed:Array Bool) (φ:Nat->LS) (fp:nN) (S:nP) (a:Act) (w:World),listed.size=ops.length->(∀i,n<=i->listed.getD i false=false)->CY ops.length listed<=fuel→
  (∀i,i<n->listed.getD i false=true)->RS B N φ fp S (dy os qs (λi=>listed.getD i false) ts0 m0 n).1 (dy os qs (λi=>listed.getD i false) ts0 m0 n).2 a w->wpAny P .any ops.toArray Q fuel listed a w:=by
  intro fuel listed φ fp S a w hsz hlo hf cP h;have e:dy os qs (λi=>listed.getD i false) ts0 m0 n=dy os qs (λ_=>true) ts0 m0 n:=kU n (cm _) λq hq=>cP q hq;rw[e] at h;refine XN fuel listed φ fp S _ _ a w ⟨hsz,λi _=>?_⟩ ?_ h hK
  . by_cases hi:i<n
    . rw[cP i hi];simp[hi]
    rw[hlo i (by omega)];simp[hi]
  refine fu (yt _ λi h1 _=>?_) hf;rw[hlo i h1];rfl
 intro fuel;induction fuel with
 |zero=>
  intro listed φ fp S a w hsz hc hlo hf h;refine full 0 listed φ fp S a w hsz hlo hf (λi hi=>?_) h;cases hl:listed.getD i false with
  |true=>rfl
  |false=>
   have h0:CY ops.length listed=0:=Nat.le_zero.1 hf;have:=List.countP_eq_zero.1 h0 i (cE.2 (by omega));rw[hl] at this;exact absurd rfl this
 |succ fuel ih=>
  intro listed φ fp S a w hsz hc hlo hf h;by_cases cP:∀i,i<n->listed.getD i false=true
  . exact full _ listed φ fp S a w hsz hlo hf cP h
  obtain ⟨i0,hi0⟩:=Classical.not_forall.1 cP;obtain ⟨XM,hi0⟩:=Classical.not_imp.1 hi0;have hi0:listed.getD i0 false=false:=by simpa using hi0
  refine ⟨λhr=>?_,λj hj=>?_⟩
  . exfalso;have:∀i,i<ops.length->listed.getD i false=true:=by
     intro i;induction i using Nat.strongRecOn with
     |ind i ih=>
      intro hi;cases hl:listed.getD i false with
      |true=>rfl
      |false=>
       have ho:ops[i]? =some ops[i]:=uq7 hi
       have:i∈Region.ready .any ops.toArray listed:=mem_ready.2 ⟨getD_in (by omega) hl,ops[i],by simpa using ho,λe he hb=>by
        have hp:e.on∈iz ops[i]:=ba.2 ⟨e,a_.2 ⟨by simpa using he,hb⟩,rfl⟩;have hlt:=qL i _ ho _ hp
        exact ih e.on hlt (by omega)⟩
       rw[hr] at this;cases this
    rw[this i0 (by omega)] at hi0;cases hi0
  obtain ⟨h0,o,ho,dD⟩:=mem_ready.1 hj;have hdj:listed.getD j false=false:=getD_both h0;have ho':ops[j]? =some o:=by simpa using ho
  have hjn:j<ops.length:=(uq8.1 ho').1;have hp:∀i,i∈iz o->listed.getD i false=true:=by intro i hi;obtain ⟨e,he,rfl⟩:=ba.1 hi;obtain ⟨he1,he2⟩:=a_.1 he;exact dD e (by simpa using he1) he2
  have Wi:j<n:=by
   rcases Nat.lt_or_ge j n with hlt|hge
   . exact hlt
   have:=FH hs (hc.add ho' hp) hjn hge (by simp[iT]) i0 XM;simp only[iT,hi0,Bool.false_or,beq_iff_eq] at this;omega
  have hot:(ops.take n)[j]? =some o:=(kW Wi).trans ho';have hct:ig (ops.take n) (λi=>listed.getD i false):=λk ok hk=>by have hkn:=(uq8.1 hk).1;rw[hlen] at hkn;exact hc k ok ((kW hkn).symm.trans hk)
  obtain ⟨⟨rd,hya⟩,hlk,hlb⟩:=hR.Vp (D:=λi=>listed.getD i false) hB hct (λi hi=>by
   rw[hlen];rcases Nat.lt_or_ge i n with h'|h'
   . exact h'
   rw[hlo i h'] at hi;cases hi) (λi hi=>absurd hi (da _)) hot hdj hp
  rw [hlen] at hya hlk hlb;have hD':(λi=>(listed.setIfInBounds j true).getD i false)=iT (λi=>listed.getD i false) j:=by
   funext i;by_cases e:i=j
   . subst e;simp[iT,hsz,hjn]
   have e2:(i==j)=false:=(by simpa using e);rw[getD_set_ne false (Ne.symm e)];simp[iT,e2]
  have hf':CY ops.length (listed.setIfInBounds j true)<=fuel:=by
   have:CY ops.length (listed.setIfInBounds j true)<CY ops.length listed:=by
    refine pX _ j (cE.2 hjn) (by simp only[hdj];rfl) (by simp[hsz,hjn]) λi hi=>?_;by_cases e:i=j
    . subst e;rw[hdj];rfl
    rw[getD_set_ne false (Ne.symm e)] at hi;exact hi
   omega
  have next:∀a' w',ia B N (λts m=>ts=mE o.dst (qs j).x (dy os qs (λi=>listed.getD i false) ts0 m0 n).1/\m=(qs j).new++(dy os qs (λi=>listed.getD i false) ts0 m0 n).2) a' w'→
   wpAny P .any ops.toArray Q fuel (listed.setIfInBounds j true) a' w':=by
   rintro a' w' ⟨φ',fp',S',ts',m',h',rfl,rfl⟩;refine ih _ φ' fp' S' a' w' (by simp[hsz]) (by rw[hD'];exact hc.add ho' hp) (λi hi=>?_) hf' ?_
   . rw[getD_set_ne false (by omega)];exact hlo i hi
   rw[hD'];exact h'.ext hlk hlb
  have hdo:∀d,o.dst=some d->d<N:=by intro d hd;have:=uq5.1 hok o (bp ho');rw[hd] at this;simpa using this
  have hwt:=yu hgl hot;unfold wpOp;simp only[ho];rcases hya with ⟨hw,_,cH⟩|⟨hw,hx,iq⟩
  . rw[hwt] at hw;rw[cr h hgs ho' hw];simp only[if_true];refine .inl (gu h (x_ (cH _ (λ_ _=>rfl) (λ_ _=>rfl) (λx m'=>x=(qs j).x/\m'=(qs j).new++(dy os qs (λi=>listed.getD i false) ts0 m0 n).2) ⟨rfl,rfl⟩)) λv w' hg=>?_);exact next _ _ (step_done hdo hg λx m' ⟨h1,h2⟩=>⟨by rw[h1],h2⟩)
  rw[hwt] at hw;rw[cr h hgs ho' hw];simp only[uq4,if_false];refine next _ _ (step_done (k:=λx m'=>x= .aX []/\m'=(dy os qs (λi=>listed.getD i false) ts0 m0 n).2) hdo (h.gives (x:=.aX []) (.rd _ _ (.aX [] #[] rfl λi hi=>absurd hi (da _))) (λ_ _ hl=>by cases hl) ⟨rfl,rfl,rfl⟩) λx m' ⟨h1,h2⟩=>⟨by rw[h1,hx],by rw[h2,iq];rfl⟩)
theorem Md {n:Nat}(hw:om ops (n+1)=true)(hok:jM N ops=true)(hgs:df N ops=true){o:Oper}(hon:ops[n]? =some o){KC:St}{Q:Exit->Act->World->Prop}{fuel:Nat}{listed:Array Bool}
 (hu:X6 ops n listed) (h:RS B N φ fp S ts m a w) (hsl:sL P ops [o] ts m KC)
 (XO:∀(φ:Nat->LS)(fp:nN)(S:nP)(ts:Env)(m:Mem)(a:Act)(w:World),RS B N φ fp S ts m a w->KC ts m->wpAny P .any ops.toArray Q fuel (listed.setIfInBounds n true) a w):
 wpAny P .any ops.toArray Q (fuel+1) listed a w:=by
 have hnl:n<ops.length:=(uq8.1 hon).1;have qL:=tN hw;have DN:ig ops (λi=>listed.getD i false):=by intro j oj hoj hdj i hi;have hjn:=(uq8.1 hoj).1;have h1:=hu.2 j hjn;have h2:=qL j oj hoj i hi;have h3:=hu.2 i (by omega);simp only at hdj ⊢;rw[h1] at hdj;rw[h3];simp at hdj ⊢;omega
 have zw:n∈Region.ready .any ops.toArray listed:=by
  refine mem_ready.2 ⟨?_,o,by simpa using hon,λe he hb=>?_⟩
  . have h5:listed.getD n false=false:=(by rw[hu.2 n hnl];exact dF (eZ n));exact getD_in (by rw[hu.1];exact hnl) h5
  have hp:e.on∈iz o:=ba.2 ⟨e,a_.2 ⟨by simpa using he,hb⟩,rfl⟩;have hlt:=qL n o hon _ hp;rw[hu.2 e.on (by omega)];simpa using hlt
 refine ⟨λhr=>(by rw[hr] at zw;exact absurd zw List.not_mem_nil),λj hj=>?_⟩;obtain ⟨h0,oj,hoj,dD⟩:=mem_ready.1 hj;have hdj:listed.getD j false=false:=getD_both h0;have uy:ops[j]? =some oj:=by simpa using hoj
 have hjn:j<ops.length:=(uq8.1 uy).1;have hjk:n<=j:=by have:=hu.2 j hjn;rw[hdj] at this;simp at this;omega
 have hp:∀i,i∈iz oj->listed.getD i false=true:=by intro i hi;obtain ⟨e,he,rfl⟩:=ba.1 hi;obtain ⟨he1,he2⟩:=a_.1 he;exact dD e (by simpa using he1) he2
 have e:j=n:=by
  rcases Nat.lt_or_ge n j with hlt|hge
  . have QX:=DN.add uy hp;have:=FH hw QX hjn (by omega) (by simp[iT]) n (by omega);simp only[iT,hu.2 n hnl,Bool.or_eq_true,beq_iff_eq] at this;simp at this;omega
  omega
 subst e;rw[hon] at uy;injection uy with uy
 subst uy;have hdo:∀d,o.dst=some d->d<N:=by intro d hd;have:=uq5.1 hok o (bp hon);rw[hd] at this;simpa using this
 have next:∀a' w',ia B N KC a' w'->wpAny P .any ops.toArray Q fuel (listed.setIfInBounds j true) a' w':=by rintro a' w' ⟨φ',fp',S',ts',m',h',hk'⟩;exact XO φ' fp' S' ts' m' a' w' h' hk'
 unfold wpOp;have hoA:ops.toArray[j]? =some o:=by simpa using hon
 simp only[hoA];simp only[sL] at hsl;cases hg:o.guard with
 |none=>
  rw[hg] at hsl;rw[cr h hgs hon (show cJ ops o ts=some true by simp[cJ,hg])];simp only[if_true];exact .inl (gu h hsl λv w' hgv=>next _ _ (step_done hdo hgv λx m' hx=>hx))
 |some jw=>
  obtain ⟨g,want⟩:=jw;rw[hg] at hsl;simp only at hsl;unfold gv at hsl;split at hsl
  . rename_i c hy;by_cases hcw:c=want
    . subst hcw;rw[cr h hgs hon (show cJ ops o ts=some true by simp[cJ,hg,hy])];simp only[if_true];exact .inl (gu h (hsl.1 rfl) λv w' hgv=>next _ _ (step_done hdo hgv λx m' hx=>hx))
    rw[cr h hgs hon (show cJ ops o ts=some false by simp[cJ,hg,hy,hcw])];simp only[uq4,if_false];have hk2:=hsl.2 hcw;refine next _ _ (step_done (k:=λx m'=>x= .aX []/\m'=m) hdo (h.gives (x:=.aX []) (.rd _ _ (.aX [] #[] rfl λi hi=>absurd hi (da _))) (λ_ _ hl=>by cases hl) ⟨rfl,rfl,rfl⟩) λx m' ⟨h1,h2⟩=>?_)
    rw[h1,h2];exact hk2
  . rename_i hy;rw [cr h hgs hon (show cJ ops o ts=some false by simp [cJ,hg,hy])];simp only [uq4,if_false];refine next _ _ (step_done (k:=λx m'=>x= .aX []/\m'=m) hdo (h.gives (x:=.aX []) (.rd _ _ (.aX [] #[] rfl λi hi=>absurd hi (da _))) (λ_ _ hl=>by cases hl) ⟨rfl,rfl,rfl⟩) λx m' ⟨h1,h2⟩=> ?_)
    rw[h1,h2];exact hsl
  exact hsl.elim
theorem FI {n:Nat}{x:AV}{ts:Env}{m:Mem}(f:Nat->Oper)(hd:∀i,i<n->(f i).dst=none):∀i,i<=n->dy f (λ_=>⟨x,[]⟩) (λ_=>true) ts m i=(ts,m)
 |0,_=>rfl
 |i+1,hi=>by simp only[dy,if_true];rw[FI f hd i (by omega),hd i (by omega)];rfl
end
def C_:Oper:={(default:Oper) with dst:=none}
theorem J9 (n:Nat){P:pR}{N:Nat}{ops:List Oper}{ts:Env}{m:Mem}{K:St}{Q:Exit->Act->World->Prop}
 (hok:(jM N ops&&df N ops&&(Iu n ops&&(om ops n&&(om ops (n+1)&&decide (n<ops.length)))))=true)
 (h:sD P (ops.take n) (ops.take n) ts m [] λts' m'=>sL P ops ((ops.drop n).take 1) ts' m' λts'' m''=>sD P ops (ops.drop (n+1)) ts'' m'' (bw (n+1) ([],[])) K)
 {B:eC} {φ:Nat->LS} {fp:nN} {S:nP} {a:Act} {w:World} (hRS:RS B N φ fp S ts m a w) (hQ:∀a w,ia B N K a w->Q .normal a w):
 wpAny P .any ops.toArray Q ops.toArray.size (uq2 ops.toArray.size false) a {w with drawn:=w.drawn+1}:=by
 simp only[uq3,decide_eq_true_eq] at hok;obtain ⟨⟨mi,rJ⟩,hgl,hw,hw1,hn⟩:=hok;have hlen:(ops.take n).length=n:=by simp;omega
 obtain ⟨qs,tr,hR,hB,hK,_⟩:=ye (os:=λi=>(ops[i]?).getD default) (ts0:=ts) (m0:=m) (sk:=0) (λi o _ ho=>by
  have hi:=(uq8.1 ho).1;rw[hlen] at hi;rw[kW hi] at ho
  simp[ho]) (ops.take n) 0 (λ_=>⟨.undef,[]⟩) [] ts m rfl (cm _) (Nat.zero_le _) rfl rfl (λi o _ hi=>absurd hi (da _)) h
 rw[hlen] at hK;have hon:ops[n]? =some ops[n]:=uq7 hn;have hdt:(ops.drop n).take 1=[ops[n]]:=by rw[List.drop_eq_getElem_cons hn];rfl
 rw[hdt] at hK;refine Mc (B:=B) (N:=N) (KN:=λts' m'=>sL P ops [ops[n]] ts' m' λts'' m''=>sD P ops (ops.drop (n+1)) ts'' m'' (bw (n+1) ([],[])) K) (by omega) hw hgl hR hB mi rJ hK ?_ _ _ φ fp S a _ (by simp) ?_ ?_ ?_ ?_
 . intro fuel listed φ fp S ts m a w hu hf h1 hsl;obtain ⟨fuel,rfl⟩:∃f,fuel=f+1:=⟨fuel-1,by omega⟩;refine Md hw1 mi rJ hon hu h1 hsl λφ fp S ts m a w h2 hsd=> ?_;have hsz:(listed.setIfInBounds n true).size=ops.length:=(by simp [hu.1]);have hup:∀i,i<ops.length->(listed.setIfInBounds n true).getD i false=decide (i<n+1):=by
    intro i hi;by_cases e:i=n
    . subst e;simp[hu.1,hi]
    rw[getD_set_ne false (Ne.symm e),hu.2 i hi];simp;omega
   have hid:∀i,i<=n+1->dy (λi=>if i<n+1 then C_ else (ops[i]?).getD default) (λ_=>⟨.undef,[]⟩) (λ_=>true) ts m i=(ts,m):=FI (n:=n+1) _ λi hi=>by simp only[hi,if_true];rfl
   obtain ⟨qs2,tr2,hR2,hB2,hK2,hq2⟩:=ye (os:=λi=>if i<n+1 then C_ else (ops[i]?).getD default) (ts0:=ts) (m0:=m) (sk:=n+1) (λi o hi ho=>by simp only [Nat.not_lt.2 hi,if_false];simp [ho]) (ops.drop (n+1)) (n+1)
    (λ_=>⟨.undef,[]⟩) (bw (n+1) ([],[])) ts m rfl (cm _) hn (by simp) (hid _ (cm _)) (λi o h1 h2=>absurd h2 (Nat.not_lt.2 h1)) hsd
   have hst:dy (λi=>if i<n+1 then C_ else (ops[i]?).getD default) qs2 (λi=>(listed.setIfInBounds n true).getD i false) ts m ops.length=(ts,m):=by
    rw [mL (j:=n+1) (λq hq=>by
     rcases Nat.lt_or_ge q ops.length with hql|hql
     . rw[hup q hql];simp;omega
     rw[uq0,Array.getElem?_eq_none (by omega)];rfl) ops.length hn]
    rw [H5 (qs':=λ_=>⟨.undef,[]⟩) (n+1) hq2];have XP:∀(D:Nat->Bool) i,i<=n+1->dy (λi=>if i<n+1 then C_ else (ops[i]?).getD default) (λ_=>⟨.undef,[]⟩) D ts m i=(ts,m):=by
     intro D i;induction i with
     |zero=>intro _;rfl
     |succ i ih=>
      intro hi;simp only[dy];rw[ih (by omega)];cases D i with
      |false=>rfl
      |true=>simp only[if_true,show i<n+1 by omega];rfl
    exact XP _ _ (cm _)
   refine BL (B:=B) (N:=N) hR2 hB2 mi rJ hK2 hQ _ _ φ fp S a w hsz ?_ (λi hi=>by rw[hup i (by omega)];simpa using hi) ?_ (by rw[hst];exact h2)
   . intro j oj hoj hdj i hi;have hjn:=(uq8.1 hoj).1;have h3:=tN hw1 j oj hoj i hi;have hdj:(listed.setIfInBounds n true).getD j false=true:=hdj;show (listed.setIfInBounds n true).getD i false=true;rw[hup j hjn] at hdj;rw[hup i (by omega)];simp at hdj ⊢;omega
   have hc:CY ops.length (listed.setIfInBounds n true)<=ops.length-(n+1):=by
    unfold CY;have:∀N,(∀i,i<N->i<ops.length)->(dh N).countP (λi=> !(listed.setIfInBounds n true).getD i false)<=N-(n+1):=by
     intro N hN;induction N with
     |zero=>simp
     |succ N ih=>
      have ih:=ih λi hi=>hN i (by omega);rw[c_,List.countP_append,List.countP_cons,List.countP_nil,hup N (hN N (by omega))];by_cases e:N<n+1
      . simp only[decide_eq_true e,Bool.not_true,uq4,if_false];omega
      simp only[decide_eq_false e,Bool.not_false,if_true];omega
    exact this _ λi hi=>hi
   omega
 . intro j o _ hd;have hd:(uq2 (e8 ops).size false).getD j false=true:=hd;rw[getD_replicate_false] at hd;cases hd
 . exact λi _=>getD_replicate_false _ _
 . exact fu List.countP_le_length (by simp)
 have e:(λi=>(uq2 (e8 ops).size false).getD i false)=λ_=>false:=funext λi=>getD_replicate_false _ _;have e2:=mL (os:=λi=>(ops[i]?).getD default) (qs:=qs) (D:=λ_=>false) (ts:=ts) (m:=m) (j:=0) (λ_ _=>rfl) n (Nat.zero_le _);show RS B N φ fp S (dy _ qs (λi=>(uq2 (e8 ops).size false).getD i false) ts m n).1 (dy _ qs (λi=>(uq2 (e8 ops).size false).getD i false) ts m n).2 a {w with drawn:=w.drawn+1};rw[e,e2];exact hRS.rM rfl ⟨rfl,rfl,rfl⟩
theorem aj.Zh (n:Nat){P:pR}{N i:Nat}{ops:List Oper}{ts:Env}{m:Mem}{Q:de}{q:Pack (Code.region i ⟨ops⟩ true,Q)}(hm:P.follows .mixedOrders=true)
 (hok:(jM N ops&&df N ops&&(Iu n ops&&(om ops n&&(om ops (n+1)&&decide (n<ops.length)))))=true)
 (h:sD P (ops.take n) (ops.take n) ts m [] λts' m'=>sL P ops ((ops.drop n).take 1) ts' m' λts'' m''=>sD P ops (ops.drop (n+1)) ts'' m'' (bw (n+1) ([],[])) (Q .normal)):aj P N (.region i ⟨ops⟩ true) ts m Q q:=
 ⟨λ_ _ _ _ _ _ hRS=>wp_region_any hm (J9 n hok h hRS λ_ _ hd=>hd)⟩
open Go.RowKit
def th (w:World)(b:Nat):Prop:=∃o:Obj,w.heap[b]? =some o/\o.isCells=true
theorem tO {w:World}{b:Nat}{cs:aV}{e:TypeId}{fr:Nat × Nat}(h:w.heap[b]? =some (.cells cs e fr)):th w b:=⟨_,h,rfl⟩
theorem Rd.cells {w:World}{S:nP}{x:AV}{v:Value}(h:Rd w S x v):Rd w (λb=>S b/\th w b) x v:=by
 induction h with
 |undef v=>exact .undef v
 |val v h=>exact .val v h
 |e0 a=>exact .e0 a
 |nil sh a=>exact .nil sh a
 |arr sh xs b off cap cs e fr hb hh b_ hl hf _ ih=>exact .arr sh xs b off cap cs e fr ⟨hb,tO hh⟩ hh b_ hl hf ih
 |agg xs cs hl hf _ ih=>exact .agg xs cs hl hf ih
 |aX xs cs hl _ ih=>exact .aX xs cs hl ih
 |bo sh xs i j b off cs e fr hb hh hl hf _ ih=>exact .bo sh xs i j b off cs e fr ⟨hb,tO hh⟩ hh hl hf ih
 |cn f xs cs hl _ ih=>exact .cn f xs cs hl ih
theorem RV.Uf {w:World}{S:nP}{φ:Nat->LS}{x:AV}{v:Value}(h:RV w S φ x v):RV w (λb=>S b/\th w b) φ x v:=by
 induction h with
 |rd x v h=>exact .rd x v h.cells
 |agg xs cs hl hf _ ih=>exact .agg xs cs hl hf ih
 |aX xs cs hl _ ih=>exact .aX xs cs hl ih
 |cn f xs cs hl _ ih=>exact .cn f xs cs hl ih
 |ref l af i n v h1 h2 h3=>exact .ref l af i n v h1 h2 h3
 |ptr l af i j v h1 h2 h3=>exact .ptr l af i j v h1 h2 h3
theorem Own.cells {w:World}{S:nP}{x:AV}{v:Value}{fs:lN}(h:Own w S x v fs):Own w (λb=>S b/\th w b) x v fs:=by
 induction h with
 |rd x v h=>exact .rd x v h.cells
 |arr sh xs b cap cs e fss hb hc hl hm hf hs _ ih=>exact .arr sh xs b cap cs e fss hb hc hl hm hf hs ih
 |agg xs cs fss hl hf hs _ ih=>exact .agg xs cs fss hl hf hs ih
 |aX xs cs fss hl hs _ ih=>exact .aX xs cs fss hl hs ih
theorem Own.th {w:World}{S:nP}{x:AV}{v:Value}{fs:lN}(h:Own w S x v fs):∀b,b∈fs->th w b:=by
 have key:∀(fss:List lN)(n:Nat),fss.length=n->(∀i,i<n->∀b,b∈fss.getD i []->Vc.th w b)->∀b,b∈fss.flatten->Vc.th w b:=by intro fss n hn hh b hb;obtain ⟨l,hl,hbl⟩:=List.mem_flatten.1 hb;obtain ⟨i,hi,rfl⟩:=bk hl;refine hh i (hn▸hi) b ?_;rw[uq6,uq7 hi];exact hbl
 induction h with
 |rd x v h=>intro b hb;cases hb
 |arr sh xs b cap cs e fss hb hc hl hm hf hs _ ih=>
  intro b' hb';rcases List.mem_cons.1 hb' with rfl|hb'
  . exact tO hb
  exact key fss xs.length hs ih b' hb'
 |agg xs cs fss hl hf hs _ ih=>exact key fss xs.length hs ih
 |aX xs cs fss hl hs _ ih=>exact key fss xs.length hs ih
section
variable {P:pR} {B:eC} {N:Nat} {φ:Nat->LS} {fp:nN} {S:nP} {ts:Env} {m:Mem} {a:Act} {w:World}
theorem BR.cells {l:Nat}{fs:lN}{k:bf}(h:BR w S φ l fs k):BR w (λb=>S b/\th w b) φ l fs k:=by
 cases k with
 |gone=>exact h
 |row af sh deep xs=>
  rcases h with h|⟨b,cap,h1,h2,h4,h3⟩
  . exact .inl h
  refine .inr ⟨b,cap,h1,h2,h4,?_⟩;cases deep with
  |true=>exact h3
  |false=>exact h3.cells
 |box af xs=>
  obtain ⟨b,cs,e,sh,h1,h2,h3,h4,h5,h6⟩:=h;exact ⟨b,cs,e,sh,h1,h2,h3,h4,h5,λi hi=>(h6 i hi).Uf⟩
 |ke af xs i u=>exact h
 |sub af sh xs u=>exact h
theorem BR.th {l:Nat}{fs:lN}{k:bf}(h:BR w S φ l fs k):∀b,b∈fs->th w b:=by
 cases k with
 |gone=>intro b hb;rw[h.2] at hb;cases hb
 |row af sh deep xs=>
  rcases h with ⟨_,_,h⟩|⟨b,cap,h1,h2,h4,h3⟩
  . intro b hb;rw[h] at hb;cases hb
  exact h3.th
 |box af xs=>
  obtain ⟨b,cs,e,sh,h1,h2,h3,_⟩:=h;intro c hc;rw[h2,b7] at hc;subst hc;exact tO h3
 |ke af xs i u=>
  obtain ⟨b,cap,cs,e,fr,h1,h2,h3,_⟩:=h;exact h3.th
 |sub af sh xs u=>
  obtain ⟨b,cap,h1,h2,h3,h4⟩:=h;exact h4.th
theorem RS.th (h:RS B N φ fp S ts m a w){l b:Nat}(hb:b∈fp l):th w b:=by
 cases hk:ah m l with
 |none=>rw[(h.ca l hk).2] at hb;cases hb
 |some k=>exact (h.aG l k hk).th b hb
theorem RS.cells (h:RS B N φ fp S ts m a w):RS B N φ fp (λb=>S b/\Vc.th w b) ts m a w:=
 {h with
  tm:=λt=>(h.tm t).Uf
  aG:=λl k hk=>(h.aG l k hk).cells
  bS:=λl b hb hs=>h.bS l b hb hs.1
  sB:=λb hb=>h.sB b hb.1
  jx:=λg p hg=>by obtain ⟨h1,cs,e,fr,h2,h3⟩:=h.jx g p hg;exact ⟨⟨h1,tO h2⟩,cs,e,fr,h2,h3⟩}
theorem yv {w':World}{row:Option Nat}(hg:w.grownBy w' row)(hr:∀r,row=some r->∃o:Obj,w.heap[r]? =some o/\o.isCells=false){b:Nat}(h:th w b):w'.heap[b]? =w.heap[b]? :=by obtain ⟨o,h1,h2⟩:=h;exact grownBy_keeps_cells hg hr h1 h2
theorem RS.PC (h:RS B N φ fp S ts m a w)(hC:∀b,S b->Vc.th w b){w':World}{row:Option Nat}(hg:w.grownBy w' row)
 (hr:∀r,row=some r->B.w0.heap.size<=r/\∃o:Obj,w.heap[r]? =some o/\o.isCells=false):RS B N φ fp S ts m a w':=by
 have hk:∀b,Vc.th w b->w'.heap[b]? =w.heap[b]? :=λb hb=>yv hg (λr e=>(hr r e).2) hb;have hs:∀l b,b∈fp l->w'.heap[b]? =w.heap[b]? :=λl b hb=>hk b (h.th hb);have hS:∀b,S b->w'.heap[b]? =w.heap[b]? :=λb hb=>hk b (hC b hb);have hsz:jI w w':=λb cs e hb=>⟨cs,e,(hk b (tO hb)).trans hb,rfl⟩;have hz:fX φ w w':=λl b sh af cs e _ hb=>hsz b cs e hb
 exact {h with
  tm:=λt=>(h.tm t).mono hS (λ_ h=>h) hz λl af _=>LS.le_refl _ _
  aG:=λl k hl=>(h.aG l k hl).mono hS (λ_ h=>h) hz (hs l) rfl λ_ _ _ _ _ _=>LS.le_refl _ _
  cu:=λl b hb=>⟨Nat.lt_of_lt_of_le (h.cu l b hb).1 hg.size,(h.cu l b hb).2⟩
  sB:=λb hb=>⟨Nat.lt_of_lt_of_le (h.sB b hb).1 hg.size,(h.sB b hb).2⟩
  base:=λb hb hio=>(hg.block b (Nat.lt_of_lt_of_le hb h.size) λe=>by have:=(hr b e.symm).1;omega).trans (h.base b hb hio)
  out:=h.out.trans ⟨hg.os,hg.tape,hg.output⟩
  ky:=h.ky.trans hsz
  size:=fu h.size hg.size
  jx:=h.jx.mono hS λ_ h=>h}
theorem RS.PD (h:RS B N φ fp S ts m a w)(hi:∀l,ah m l≠none->bE<=l):RS ⟨w,λl b=>b∈fp l,S,φ,m⟩ N φ fp S ts m a w:=
 {tm:=h.tm,tl:=h.tl,ca:=h.ca,aG:=h.aG,bl:=h.bl,hZ:=h.hZ,fL:=h.fL,bS:=h.bS,
  cu:=λl b hb=>⟨(h.cu l b hb).1,.inr ⟨l,hb,hi l (λe=>by rw[(h.ca l e).2] at hb;cases hb),.inl rfl⟩⟩,
  sB:=λb hb=>⟨(h.sB b hb).1,.inr hb⟩,base:=λb hb _=>rfl,out:=a7.refl _,ky:=jI.refl _,kn:=λ_ _ _ hk=>hk,fix:=λ_ _ _ _=>LS.le_refl _ _,size:=cm _,defers:=h.defers,ly:=h.ly,jx:=h.jx}
theorem RS.Vx {N':Nat}{φ':Nat->LS}{fp':nN}{S':nP}{ts':Env}{m':Mem}{a':Act}{w':World}(h:RS B N φ fp S ts m a w)
 (h':RS ⟨w,λl b=>b∈fp l,S,φ,m⟩ N' φ' fp' S' ts' m' a' w'):RS B N' φ' fp' S' ts' m' a' w':=by
 refine {tm:=h'.tm,tl:=h'.tl,ca:=h'.ca,aG:=h'.aG,bl:=h'.bl,hZ:=h'.hZ,fL:=h'.fL,bS:=h'.bS,cu:=λl b hb=> ?_,sB:=λb hb=> ?_,base:=λb hb hio=> ?_,
         out:=h.out.trans h'.out,ky:=h.ky.trans h'.ky,kn:=λl af hl hk=>h'.kn l af hl (h.kn l af hl hk),
         fix:=λl af hl hk=>LS.le_trans (h'.fix l af hl (h.kn l af hl hk)) (h.fix l af hl hk),size:=fu h.size h'.size,defers:=h'.defers,ly:=h'.ly,jx:=h'.jx}
 . refine ⟨(h'.cu l b hb).1,?_⟩;rcases (h'.cu l b hb).2 with hh|⟨l0,hh,hl,h3⟩
   . exact .inl (fu h.size hh)
   rcases (h.cu l0 b hh).2 with h4|⟨l1,h4,h5,h6⟩
   . exact .inl h4
   refine .inr ⟨l1,h4,hl,?_⟩;rcases h3 with h3|h3
   . rw[h3] at h6;exact h6
   refine .inr ?_;cases he:ah B.m0 l with
   |none=>rfl
   |some k=>
    obtain ⟨k2,h7,_⟩:=h.kn l k.af hl ⟨k,he,cm _⟩;have h3':ah m l=none:=h3;rw[h3'] at h7;cases h7
 . refine ⟨(h'.sB b hb).1,?_⟩;rcases (h'.sB b hb).2 with hh|hh
   . exact .inl (fu h.size hh)
   exact (h.sB b hh).2
 refine (h'.base b (Nat.lt_of_lt_of_le hb h.size) λl hl=>?_).trans (h.base b hb hio);rcases (h.cu l b hl).2 with hh|⟨l1,hh,_⟩
 . exact absurd hb (Nat.not_lt.2 hh)
 exact hio l1 hh
def Iw:List (Nat × Nat)->Env->Env
 | [],ts=>ts
 |(l,l')::r,ts=>Iw r (HN l l' ts)
theorem PE (ts:Env):Iw [] ts=ts:=rfl
theorem Me (l l':Nat)(r:List (Nat × Nat))(ts:Env):Iw ((l,l')::r) ts=Iw r (HN l l' ts):=rfl
theorem RS.Ug (h0:B.m0=[]):∀(ρ:List (Nat × Nat)) {φ:Nat->LS} {fp:nN} {ts:Env} {m:Mem},o4 ρ m->RS B N φ fp S ts m a w->∃φ' fp',RS B N φ' fp' S (Iw ρ ts) (kT ρ m) a w
 | [],φ,fp,ts,m,_,h=>⟨φ,fp,h⟩
 |(l,l')::r,φ,fp,ts,m,⟨⟨⟨hl,_⟩,_,hf⟩,h3⟩,h=>by have hfp:fp l'=[]:=(h.ca l' hf).2;exact RS.Ug h0 r h3 (h.OL hl (by rw[h0];rfl) λb hb=>by rw[hfp] at hb;cases hb)
theorem FJ {n l:Nat}{row:String}{args:aV}{R:Value->World->Prop}(h:Rows P row args w R):RowsIn (Fence.wide.inRound l) n P row args w R:=
 λc cs _=>let ⟨v,w',r,s⟩:=h c cs;⟨v,w',r,stepsIn_wide.2 s⟩
theorem WZ {n l:Nat}{o:Oper}(hnd:∀c,o.op≠ .defer c){K:Act->World->Prop}{Q:Exit->Act->World->Prop}(h:o.wp P a w K Q):o.wpIn (Fence.wide.inRound l) n P a w K Q:=by
 refine ⟨λ_ _=>trivial,?_⟩;rw[Oper.semAt_eq _ _ _ hnd];unfold Oper.wp at h;generalize (execOp a.eval o).run P w=r at h ⊢;cases r with
 |ok x w'=>
  cases x with
  |enter f args=>exact ⟨λhh=>(by simp[Fence.wide] at hh),callsIn_wide.2 h⟩
  |row r args=>exact ⟨λhh=>(by simp[Fence.wide] at hh),FJ h⟩
  |value v=>exact h
  |skip=>exact h
  |defer d=>exact h
  |_=>exact h.elim
 |halt x w'=>cases x<;>simp only[Oper.upon,Oper.uponIn] at h ⊢ <;>exact h
theorem J_ {n l:Nat}{md:Region.Mode}{ops:Array Oper}{Q:Exit->Act->World->Prop}(hnd:∀(i:Nat) (o:Oper),ops[i]? =some o->∀c,o.op≠ .defer c)(hQ:¬LetsOut Q):
 ∀(fuel:Nat)(listed:Array Bool)(a:Act)(w:World),wpAny P md ops Q fuel listed a w->wpAnyIn (Fence.wide.inRound l) n P md ops Q fuel listed a w
 |0,_,_,_,h=>h
 |fuel+1,listed,a,w,⟨h1,h2⟩=>by
  refine ⟨h1,λi hi=>?_⟩;have h3:=h2 i hi;unfold wpOp at h3;unfold wpOpIn;split
  . rename_i e;simp only[e] at h3;exact J_ hnd hQ fuel _ _ _ h3
  rename_i o ho;simp only[ho] at h3;split
  . rename_i hw;simp only [hw,if_true] at h3;rcases h3 with h3|⟨_,h3⟩
    . exact Oper.wpIn_mono (λa w hh=>J_ hnd hQ fuel _ _ _ hh) (WZ (hnd i o ho) h3)
    exact absurd h3 hQ
  rename_i hw;simp only[hw,uq4,if_false] at h3;exact ⟨λ_ _=>trivial,J_ hnd hQ fuel _ _ _ h3⟩
theorem iB {ds:List Deferred}{ops:Array Oper}{Q:Exit->Act->World->Prop}:∀(l:lN) (a:Act) (w:World),wpOps P ops Q l a w→
 wpOps P ops (λe a' w'=>∃a'',a'={a'' with defers:=a''.defers++ds}/\Q e a'' w') l {a with defers:=a.defers++ds} w
 | [],a,w,h=>⟨a,rfl,h⟩
 |i::r,a,w,h=>by
  simp only[wpOps] at h ⊢;cases ho:ops[i]? with
  |none=>simp only[ho] at h ⊢;exact iB r a w h
  |some o=>
   simp only[ho] at h ⊢;have DK:∀v,({a with defers:=a.defers++ds}:Act).put o.dst v={(a.put o.dst v) with defers:=(a.put o.dst v).defers++ds}:=λv=>by cases o.dst<;>rfl
   by_cases hw:Region.wanted o (yielded ops a.tmps)=true
   . simp only [hw,if_true] at h ⊢;have he:({a with defers:=a.defers++ds}:Act).eval=a.eval:=rfl;rcases h with h|⟨h1,b,w2,h2⟩
     . refine .inl ?_;unfold Oper.wp at h ⊢;rw [he];generalize (execOp a.eval o).run P w=rr at h ⊢;cases rr with
       |ok x w'=>
        cases x with
        |value v=>simp only[Oper.upon] at h ⊢;rw[DK];exact iB r _ _ h
        |skip=>simp only[Oper.upon] at h ⊢;rw[DK];exact iB r _ _ h
        |defer d=>
         simp only[Oper.upon] at h ⊢;have:=iB (ds:=ds) r _ _ h;have e:({a with defers:=d::(a.defers++ds)}:Act).put o.dst undef={(({a with defers:=d::a.defers}:Act).put o.dst undef) with defers:=(({a with defers:=d::a.defers}:Act).put o.dst undef).defers++ds}:=by cases o.dst<;>rfl
         rw[e];exact this
        |enter f args=>
         simp only[Oper.upon] at h ⊢;refine Calls.mono h λe w'' he=>?_;cases e with
         |returned v=>simp only at he ⊢;rw[DK];exact iB r _ _ he
         |panicked ch=>exact ⟨_,rfl,he⟩
         |outgrown=>obtain ⟨b,w2,h2⟩:=he;exact ⟨_,w2,b,rfl,h2⟩
        |row row args=>simp only[Oper.upon] at h ⊢;exact Rows.mono h λv w'' hh=>by rw[DK];exact iB r _ _ hh
        |_=>exact h.elim
       |halt x w'=>cases x<;>first|exact h.elim|exact ⟨_,rfl,h⟩
     exact .inr ⟨h1,_,w2,b,rfl,h2⟩
   simp only[hw,uq4,if_false] at h ⊢;rw[DK];exact iB r _ _ h
end
def Vy (w0:World)(S0:nP)(post:AV->Prop)(e:Ending)(w':World):Prop:=∃r v,e= .returned v/\post r/\Grown w0 w'/\iN w0 w' S0 false r v
def PF (P:pR)(fn:Func)(w0:World)(S0:nP)(post:AV->Prop):Exit->Act->World->Prop:=bodyPostM Fence.wide 1 P fn (Vy w0 S0 post)
abbrev BP (w0:World)(S0:nP):eC:=⟨w0,λ_ _=>False,S0,λ_=>.dead,[]⟩
structure C' (P:Program) (fn:Func) (c:Code) (ts:Env) (m:Mem) (post:AV->Prop):Prop where
 ok:∀(w0:World)(S0:nP)(φ:Nat->LS)(fp:nN)(S:nP)(a:Act)(w:World),RS (BP w0 S0) fn.ntmps φ fp S ts m a w->c.wpIn Fence.wide 1 P (PF P fn w0 S0 post) a w
structure Uh (P:Program) (fn:Func) (x y:Code) (ts:Env) (m:Mem) (post:AV->Prop):Prop where
 ok:∀(w0:World) (S0:nP) (φ:Nat->LS) (fp:nN) (S:nP) (a:Act) (w:World),RS (BP w0 S0) fn.ntmps φ fp S ts m a w→
  x.wpIn Fence.wide 1 P (Exit.then (y.wpIn Fence.wide 1 P (PF P fn w0 S0 post)) (PF P fn w0 S0 post)) a w
theorem vq {P:pR}{fn:Func}{tmps:aV}{us:lV}{w:World}(h:(fn.results.toList.mapM (cW tmps)).run P w= .ok us w):
 (results fn tmps).run P w= .ok (if h:us.toArray.size=1 then us.toArray[0] else .tuple us.toArray) w:=by
 have hm:results fn tmps=(do let vs ←fn.results.mapM (cW tmps);pure (if h:vs.size=1 then vs[0] else .tuple vs)):=by unfold results;congr 1
 rw[hm,Sem.run_bind,Array.mapM_eq_mapM_toList];have:(e8 <$> fn.results.toList.mapM (cW tmps):Sem aV).run P w= .ok us.toArray w:=by rw[map_eq_pure_bind,Sem.run_bind,h];rfl
 rw[this];rfl
theorem Vz {P:pR}{fn:Func}{w0:World}{S0:nP}{post:AV->Prop}{e:Exit}{a':Act}{w':World}
 (h:ia (BP w0 S0) fn.ntmps (Il P fn.results.toList post e) a' w'):PF P fn w0 S0 post e a' w':=by
 obtain ⟨DT,fp0,S0',ts',m0,h0,hk⟩:=h;have go:aP P (λxs=>iO (λys _=>aq ys=[]/\post (bG ys)) [] m0 xs) fn.results.toList ts' m0 []->LeavesInM Fence.wide 1 P fn a'.tmps (Vy w0 S0 post) a'.defers .returning w':=by
  intro hk;rw[h0.defers];obtain ⟨ys0,us,h1,h2,h3,h4⟩:=cI h0 fn.results.toList [] [] ⟨rfl,λi hi=>absurd hi (da _)⟩ (λi hi=>absurd hi (da _)) hk;obtain ⟨φ',fp',S',m',ys,hgv,h3,gZ,gP⟩:=pM ys0 us [] [] h0 (by simpa using h3) ⟨rfl,λi hi=>absurd hi (da _)⟩ h1;have h':=hgv.rs;obtain ⟨h3a,h3b⟩:=h3;simp only[List.nil_append] at h3a h3b;refine ⟨_,vq h2,bG ys,_,rfl,gP,⟨h'.size,λb hb=>h'.base b hb (λ_ h=>h),h'.out⟩,?_⟩;show Rd w' _ _ _;refine (cR (mJ h3a h3b) (ij gZ)).mono (λ_ _=>rfl) λb hb=>?_;rcases (h'.sB b hb).2 with hh|hh
  . exact .inr ⟨hh,(h'.sB b hb).1⟩
  exact .inl hh
 cases e with
 |normal=>exact go hk
 |ret=>exact go hk
 |_=>exact hk.elim
section
variable {P:pR} {fn:Func} {ts:Env} {m:Mem} {post:AV->Prop}
theorem PG {c:Code}{K:St}(hok:codeOk fn.ntmps c=true)(hv:vc P fn.ntmps c ts m (zF (Il P fn.results.toList post) K)){w0:World}{S0:nP}{φ:Nat->LS}{fp:nN}{S:nP}{a:Act}{w:World}
 (h:RS (BP w0 S0) fn.ntmps φ fp S ts m a w) {K':Act->World->Prop} (hK:∀a' w',ia (BP w0 S0) fn.ntmps K a' w'->K' a' w'):c.wpIn Fence.wide 1 P (Exit.then K' (PF P fn w0 S0 post)) a w:=by
 refine wpIn_wide.2 (wp_mono (cB c _ _ _ hok hv _ _ _ _ _ _ h) ?_);intro e a' w' hq;cases e with
 |normal=>exact hK _ _ hq
 |ret=>exact Vz hq
 |_=>obtain ⟨_,_,_,_,_,_,hh⟩:=hq;exact hh.elim
theorem C'.seq {x y:Code}(hok:codeOk fn.ntmps x=true)(hv:vc P fn.ntmps x ts m (zF (Il P fn.results.toList post) λts m=>C' P fn y ts m post)):C' P fn (.seq x y) ts m post:=
 ⟨λ_ _ _ _ _ _ _ h=>wpIn_seq (PG hok hv h λ_ _ ⟨_,_,_,_,_,h1,h2⟩=>h2.ok _ _ _ _ _ _ _ h1)⟩
theorem C'.Yg {x y z:Code}(hok:codeOk fn.ntmps x=true)(hv:vc P fn.ntmps x ts m (zF (Il P fn.results.toList post) λts m=>Uh P fn y z ts m post)):C' P fn (.seq (.seq x y) z) ts m post:=
 ⟨λ_ _ _ _ _ _ _ h=>wpIn_seq (wpIn_seq (wpIn_mono (PG hok hv h λ_ _ ⟨_,_,_,_,_,h1,h2⟩=>h2.ok _ _ _ _ _ _ _ h1) λe a w hq=>by cases e<;>exact hq))⟩
theorem C'.CG {c:Code}(l v:Nat)(sh:Sh)(xs:lA)(hio:l<bE)(hlk:ah m l=some (.row v sh true xs))(h:C' P fn c ts ((l,.row v sh false xs)::m) post):C' P fn c ts m post:=
 ⟨λ_ _ _ _ _ _ _ hR=>have ⟨_,_,_,hR2⟩:=hR.S7 hio hlk;h.ok _ _ _ _ _ _ _ hR2⟩
def Ix (ts:Env):Env->Prop
 | []=>True
 |(t,x)::r=>look ts t=x/\Ix ts r
theorem PH (ts:Env):Ix ts []=True:=rfl
theorem Mf (ts:Env)(t:Nat)(x:AV)(r:Env):Ix ts ((t,x)::r)=(look ts t=x/\Ix ts r):=rfl
attribute [go_sem] PH Mf
theorem tQ {ts:Env}:∀{ts':Env},Ix ts ts'->∀t,look ts' t=look ts t\/look ts' t= .undef
 | [],_,t=>.inr rfl
 |(k,x)::r,⟨h1,h2⟩,t=>by
  rw[cN];split
  . rename_i e;subst e;exact .inl h1.symm
  exact tQ h2 t
theorem RS.keep {B:eC}{N:Nat}{φ:Nat->LS}{fp:nN}{S:nP}{a:Act}{w:World}(h:RS B N φ fp S ts m a w){L:lN}{m':Mem}{ts':Env}(hk:o8 L m m')(hb:∀l,ah B.m0 l≠none->l∈L)(ht:Ix ts ts')
 (hl:∀t p,p∈ao (look ts' t)->p.1∈L):RS B N (sH L φ) (tJ L fp) S ts' m' a w:=by
 have h1:=h.sub hk hb;refine {h1 with tm:=λt=>?_,tl:=λt l af hlv=>?_,defers:=h.defers,ly:=h.ly}
 . rcases tQ ht t with e|e
   . rw[e];refine (h.tm t).mono (λ_ _=>rfl) (λ_ h=>h) (λl b sh af cs e _ hb=>⟨cs,e,hb,rfl⟩) λl af hlv=>?_;rw[iU (hl t (l,af) (by rw[e];exact hlv))];exact LS.le_refl _ _
   rw[e];exact .rd _ _ (.undef _)
 rcases tQ ht t with e|e
 . obtain ⟨k,g1,g2⟩:=h.tl t l af (by rw[←e];exact hlv);exact ⟨k,(hk.1 l (hl t (l,af) hlv)).trans g1,g2⟩
 rw[e] at hlv;cases hlv
theorem Uh.keep {x y:Code}(L:lN)(m':Mem)(ts':Env)(hk:o8 L m m')(ht:Ix ts ts')(hl:∀q,q∈ts'->∀p,p∈ao q.2->p.1∈L)(h:Uh P fn x y ts' m' post):Uh P fn x y ts m post:=
 ⟨λ_ _ _ _ _ _ _ hR=>h.ok _ _ _ _ _ _ _ (hR.keep hk (λl hl=>absurd rfl hl) ht λt p hp=>by
   have:∀(ts':Env),(∀q,q∈ts'->∀p,p∈ao q.2->p.1∈L)->p∈ao (look ts' t)->p.1∈L:=by
    intro ts';induction ts' with
    |nil=>intro _ hp;cases hp
    |cons q r ih=>
     obtain ⟨k,x⟩:=q;intro hl hp;rw[cN] at hp;split at hp
     . exact hl _ (cM ..) p hp
     exact ih (λq hq=>hl q (dE _ hq)) hp
   exact this ts' hl hp)⟩
theorem Fn.Yh {f:fI} {c:Code} {args:List AV} (hf:P.funcs[f]? =some fn) (hn:(fn.name== "runtime.NumGoroutine")=false) (hb:fn.body=some c) (ha:args.length≤fn.ntmps)
 (hv:C' P fn c (bH 0 args) [] post):Fn P f args false post:=by
 refine ⟨⟨fn,c,hf,hn,hb⟩,λw S vs hS zv hsz hrd=> ?_⟩;refine callsIn_wide.1 (callsIn_of_wp_marks (n:=1) hf hb trivial (hv.ok w S (λ_=>.dead) (λ_=>[]) S _ w ?_));have l7:∀t,(look (bH 0 args) t= .undef\/∃h:t<args.length,look (bH 0 args) t=args[t]):=by
  intro t;rw[bI];by_cases h:t<args.length
  . exact .inr ⟨h,by simp[h]⟩
  exact .inl (by simp[h])
 refine {tm:=λt=> ?_,tl:=λt l af hl=> ?_,ca:=λ_ _=>⟨rfl,rfl⟩,aG:=λl k hk=>(by cases hk),bl:=λl v xs hk=>(by cases hk),hZ:=λ_=>eR,
         fL:=λ_ _ _ h=>(by cases h),bS:=λ_ _ h=>(by cases h),cu:=λ_ _ h=>(by cases h),sB:=λb hb=>⟨hS b hb,.inr hb⟩,base:=λb hb _=>rfl,out:=a7.refl _,ky:=jI.refl _,kn:=λ_ _ _ hk=>hk,fix:=λ_ _ _ _=>LS.le_refl _ _,
         size:=cm _,defers:=rfl,ly:=by simp;omega,jx:=zv}
 . rcases l7 t with e|⟨h,e⟩
   . rw[e];exact .rd _ _ (.undef _)
   rw[e];have h1:=hrd t h;have:vs.toList.getD t uD=(vs++uq2 (fn.ntmps-vs.size) undef).getD t uD:=by have h2:t<vs.size:=(by omega);simp only[uq0,uq6,Array.getElem?_toList];rw[Array.getElem?_append_left h2]
   rw[←this];exact .rd _ _ h1
 rcases l7 t with e|⟨h,e⟩
 . rw[e] at hl;cases hl
 rw[e,fY (hrd t h)] at hl;cases hl
def Ui (P:pR)(gf:fI)(xs:lA)(ys:List (AV × AV)):Prop:=
 (∀args w,(callFunc gf args).run P w= .ok (.enter gf args) w)/\∀(w:World) (S:nP) (cs:aV),(∀b,S b->b<w.heap.size)->cs.size=xs.length->(∀i (h:i<xs.length),Rd w S xs[i] (cs.toList.getD i uD))→
   ∃vs:Fin ys.length->Value × Value,(∀i,Rd w S ys[i].1 (vs i).1/\Rd w S ys[i].2 (vs i).2)∧
    SeqStopsK Fence.wide 0 P gf cs (λi=> #[(vs i).1,(vs i).2]) (λA B=>∀b,S b->B.heap[b]? =A.heap[b]?) (λl=>l=List.finRange ys.length) (λ_=>True) ys.length w
def vZ (m:Mem)(k:lA->Prop):lA->lA->Prop
 |acc,[]=>k acc.reverse
 |acc,.ref l v i n::r=>nZ v i n (ah m l) λy=>vZ m k (y::acc) r
 |acc,.val v::r=>vZ m k (.val v::acc) r
 |acc,.arr sh xs::r=>vZ m k (.arr sh xs::acc) r
 |_,_=>False
theorem PI (m:Mem)(k:lA->Prop)(acc:lA):vZ m k acc []=k acc.reverse:=rfl
theorem FL (m:Mem)(k:lA->Prop)(acc r:lA)(l v i n:Nat):vZ m k acc (.ref l v i n::r)=nZ v i n (ah m l) λy=>vZ m k (y::acc) r:=rfl
theorem PJ (m:Mem)(k:lA->Prop)(acc r:lA)(v:Value):vZ m k acc (.val v::r)=vZ m k (.val v::acc) r:=rfl
attribute [go_sem] PI FL PJ PE Me
theorem VA {B:eC}{N:Nat}{φ:Nat->LS}{fp:nN}{S:nP}{a:Act}{w:World}(h:RS B N φ fp S ts m a w){l v i n:Nat}{sh:Sh}{d:Bool}{xs:lA}{u:Value}(hm:ah m l=some (.row v sh d xs))(hn:i+n<=xs.length)(hu:RV w S φ (.ref l v i n) u):
 Rd w (λb=>S b\/b∈fp l) (.arr sh ((xs.drop i).take n)) u:=by
 have hr:=dt hu;have hlen:((xs.drop i).take n).length=n:=by simp;omega
 rcases h.aG l _ hm with ⟨h1,h2,h3⟩|⟨b,cap,hφ,hbm,hdp,bc⟩
 . obtain ⟨rfl,ad,rfl⟩:=hr.2 h1;rw[List.take_zero];exact .nil _ _
 obtain ⟨ad,cp,rfl,hnc,hcp⟩:=hr.1 b sh hφ;obtain ⟨cs,e,fss,hgf,aD,hcs,b_,hmx,hff,hfl,hvv⟩:=gI bc hbm;by_cases hc0:cp=0
 . have:n=0:=(by omega);subst this;subst hc0;rw[List.take_zero];exact .nil _ _
 obtain ⟨rfl,cs',e',g1,g2⟩:=hcp.resolve_left hc0;obtain rfl:=dc (aD.symm.trans g1);have cf:i*sh.sz+n*sh.sz<=cs.size:=by rw[g2,←Nat.add_mul];exact Nat.mul_le_mul_right _ (by omega)
 have:=Rd.arr (w:=w) (S:=λb=>S b\/b∈fp l) sh ((xs.drop i).take n) b (i*sh.sz) cp cs e.1 (ou e cs.size) (.inr hbm) aD (by rw [hlen];exact hnc) (by rw [hlen];exact cf)
  (λq hq=>by rw[hlen] at hq;simp only[dL,List.getElem_drop];exact hff _ (by omega))
  (λq hq=>by
    rw[hlen] at hq;simp only[dL,List.getElem_drop]
    have:=(hvv (i+q) (by omega)).mm (S':=λb=>S b\/b∈fp l) (λc hc=>by
     cases d with
     |true=>exact hc.elim
     |false=>exact .inl hc) (λc hc=>.inr (by rw[hgf];exact dE _ (aK (by omega) hc)))
    rwa [Nat.add_mul] at this)
 rw[hlen] at this;exact this
def J' (S:nP)(fp:nN)(b:Nat):Prop:=S b\/∃l,b∈fp l
theorem FM {B:eC}{N:Nat}{φ:Nat->LS}{fp:nN}{S:nP}{a:Act}{w:World}(h:RS B N φ fp S ts m a w){k:lA->Prop}:∀(xs:lA) (us:lV) (acc:lA) (va:lV),
 pL (RV w S φ) xs us->pL (Rd w (J' S fp)) acc.reverse va->vZ m k acc xs->∃ys,k ys/\pL (Rd w (J' S fp)) ys (va++us)
 | [],us,acc,va,hx,ha,hk=>by
   have:us=[]:=List.eq_nil_of_length_eq_zero hx.1;subst this;exact ⟨_,hk,by simpa using ha⟩
 |x::r,[],acc,va,hx,ha,hk=>absurd hx.1 (by simp)
 |x::r,u::us,acc,va,hx,ha,hk=>by
  have hx0:RV w S φ x u:=hx.2 0 (by simp);have hr:pL (RV w S φ) r us:=⟨by simpa using hx.1,λi hi=>by have:=hx.2 (i+1) (by simpa using hi);rwa [List.getElem_cons_succ,List.getD_cons_succ] at this⟩;have go:∀y,Rd w (J' S fp) y u->vZ m k (y::acc) r->∃ys,k ys/\pL (Rd w (J' S fp)) ys (va++u::us):=by intro y hy hk;have:=FM h r us (y::acc) (va++[u]) hr (by rw[List.reverse_cons];exact ha.snoc hy) hk;simpa using this
  cases x with
  |ref l v i n=>
   rw[FL] at hk;unfold nZ at hk;split at hk
   . rename_i v' sh d xs hb;obtain ⟨rfl,hn,hk⟩:=hk;exact go _ ((VA h hb hn hx0).mono (λ_ _=>rfl) λb hb=>hb.imp id λhh=>⟨l,hh⟩) hk
   exact hk.elim
  |val v=>exact go _ ((cR hx0 rfl).mono (λ_ _=>rfl) λb hb=>.inl hb) hk
  |arr sh xs=>exact go _ ((cR hx0 rfl).mono (λ_ _=>rfl) λb hb=>.inl hb) hk
  |_=>exact hk.elim
theorem PK {w:World}{S:nP}{ys:lA}{vs:lV}(h:pL (Rd w S) ys vs):Rd w S (bG ys) (if h:vs.toArray.size=1 then vs.toArray[0] else .tuple vs.toArray):=by
 obtain ⟨hl,hv⟩:=h;match ys,vs,hl,hv with
 | [],[],_,_=>exact .aX [] #[] rfl λi hi=>absurd hi (da _)
 | [y],[v],_,hv=>simpa [bG] using hv 0 (by simp)
 |y::y'::r,v::v'::r',hl,hv=>
  have:¬((v::v'::r').toArray.size=1):=by simp
  rw[dif_neg this];exact .aX _ _ (by simpa using hl) (by simpa using hv)
def Uj (ops:List Oper):Bool:=ops.all λo=>match o.op with| .defer _=>false|_=>true
theorem Mg {ops:List Oper}(h:Uj ops=true):∀(i:Nat)(o:Oper),ops.toArray[i]? =some o->∀c,o.op≠ .defer c:=by intro i o ho c hc;have:=uq5.1 h o (bp (by simpa using ho));rw[hc] at this;cases this
theorem Uh.VB {id0 g p1 p2 i1 d ty1 id2 i2 i3:Nat}{pos1:String}{af1:Array Edge}{ops tops:List Oper}{gf:fI}{xs:lA}{ys:List (AV × AV)}(k:Nat)(MM:List (Fin ys.length)->Mem->Prop)(ts1:Env)(hts:Iw (e7 1500000000 [] m) ts=ts1)
 (YZ:P.follows .mixedOrders=true) (hg:look ts g= .cn gf xs) (hxl:aq xs=[]) (Y0:Ui P gf xs ys) (Y1:o4 (e7 1500000000 [] m) m)
 (h0:∃m0,MM [] m0/\∀l,ah (kT (e7 1500000000 [] m) m) l=ah m0 l) (hhi:∀pre m,MM pre m->qD m)
 (hok:(jM fn.ntmps ops&&df fn.ntmps ops&&(Iu k ops&&(om ops k&&(om ops (k+1)&&decide (k<ops.length)))))=true)
 (rJ:(Uj ops&&(jM fn.ntmps tops&&df fn.ntmps tops)&&(decide (p1<fn.ntmps)&&decide (p2<fn.ntmps)&&decide (d<fn.ntmps)))=true)
 (Q_:∀pre (x:Fin ys.length) m1,pre.length<ys.length->MM pre m1->sD P (ops.take k) (ops.take k) ((d,ys[x].2)::(p2,ys[x].2)::(p1,ys[x].1)::ts1) m1 [] λts' m'=>
   sL P ops ((ops.drop k).take 1) ts' m' λts'' m''=>sD P ops (ops.drop (k+1)) ts'' m'' (bw (k+1) ([],[])) λ_ m3=>∃m2,MM (pre++[x]) m2/\∀l,ah m3 l=ah m2 l)
 (XQ:∀m1,MM (List.finRange ys.length) m1->sL P tops tops ts1 m1 λts' m'=>aP P (λzs=>vZ m' (λzs=>post (bG zs)) [] zs) fn.results.toList ts' m' []):
 Uh P fn (.block id0 (.rangeFunc (.tmp g) #[p1,p2] (.region i1 #[⟨some d,.assign (.tmp p2),ty1,pos1,af1,none⟩] false) (.block id2 (.region i2 ⟨ops⟩ true)))) (.seq (.region i3 ⟨tops⟩ false) .ret) ts m post:=by
 subst hts;refine ⟨λw0 S0 φ fp S a w h=>wpIn_block ?_⟩;simp only [uq3,decide_eq_true_eq] at rJ;obtain ⟨⟨hnd,Y2,Y3⟩,⟨hp1,hp2⟩,hd⟩:=rJ;obtain ⟨φ1,fp1,h1⟩:=RS.Ug rfl _ Y1 h;obtain ⟨m0,hm0,e0⟩:=h0;have h2:=(h1.ext (λ_=>rfl) λl=>(e0 l).symm).cells;have had:a.defers=[]:=h.defers;have hv:=h.tm g;rw [hg] at hv;obtain ⟨cs,hcv,hcs,hrd⟩:∃cs,a.tmps.getD g uD= .func (.func gf) #[] cs/\cs.size=xs.length/\∀i (h:i<xs.length),Rd w S xs[i] (cs.toList.getD i uD):=by
  generalize a.tmps.getD g uD=v at hv;cases hv with
  |rd _ _ h=>cases h with|cn _ _ cs h1 h2=>exact ⟨cs,rfl,h1,h2⟩
  |cn _ _ cs h1 h2=>exact ⟨cs,rfl,h1,λi hi=>cR (h2 i hi) (bO hxl i hi)⟩
 obtain ⟨he,hit⟩:=Y0;obtain ⟨vs,hvs,hst⟩:=hit w (λb=>S b/\th w b) cs (λb hb=>(h.sB b hb.1).1) hcs (λi hi=>(hrd i hi).cells)
 refine wpIn_rangeFunc_ownF (F:=Fence.wide) (n:=1) rfl (cm _) (gf:=gf) (lb:=cs) (by simpa [Act.eval] using hcv) trivial he hst (λh k b hb=>(k b hb).trans (h b hb))
  (λW l o o' hl _ _ _ b hb=>World.putObj_heap_other (by have:=(h.sB b hb.1).1;omega)) (Below.refl _ _) (λ_=>rfl)
  (λpre W=>∃φ fp S2 m1,RS (BP w0 S0) fn.ntmps φ fp S2 (Iw (e7 1500000000 [] m) ts) m1 a W/\MM pre m1/\(∀b,(S b/\th w b)->S2 b/\W.heap[b]? =w.heap[b]?)/\∀b,S2 b->th W b)
  (λ_ _ _=>False) ?hI (λc s W W' row h=>h.elim) ?h0 (λx=>{tmps:=((a.tmps.setIfInBounds p1 (vs x).1).setIfInBounds p2 (vs x).2).setIfInBounds d (vs x).2,defers:=[]}) ?Tw ?Q_ ?XR
  (λD c pre W _ _ h=>h.elim)
 case hI=>
  rintro s W W' row ⟨φ,fp,S2,m1,r,hm,hs,hc⟩ hgr hr;refine ⟨φ,fp,S2,m1,r.PC hc hgr (λq e=>⟨fu h.size (hr q e).1,(hr q e).2⟩),hm,λb hb=>⟨(hs b hb).1,(yv hgr (λr e=>(hr r e).2) (hc b (hs b hb).1)).trans (hs b hb).2⟩,λb hb=>?_⟩;obtain ⟨o,q1,q2⟩:=hc b hb;exact ⟨o,(yv hgr (λr e=>(hr r e).2) ⟨o,q1,q2⟩).trans q1,q2⟩
 case h0=>exact ⟨φ1,fp1,_,m0,h2,hm0,λb hb=>⟨hb,rfl⟩,λb hb=>hb.2⟩
 case Tw=>
  intro l x W K hK;have htz:=h.ly;refine wpIn_region_list ?_;simp only[wpListIn];rw[if_pos (show Region.wanted _ _=true from rfl)];refine WZ (λc e=>by cases e) ?_;unfold Oper.wp;simp only[execOp,Sem.run_pure,Oper.upon];have ez:Array.foldl (λt (x:Nat × Value)=>t.setIfInBounds x.1 x.2) a.tmps (#[p1,p2].zip #[(vs x).1,(vs x).2])=(a.tmps.setIfInBounds p1 (vs x).1).setIfInBounds p2 (vs x).2:=by simp
  have e2:((a.tmps.setIfInBounds p1 (vs x).1).setIfInBounds p2 (vs x).2).getD p2 uD=(vs x).2:=by have:p2<a.tmps.size:=(by rw[htz];exact hp2);simp[uq0,this]
  show K _ W;rw[ez];show K {tmps:=((a.tmps.setIfInBounds p1 (vs x).1).setIfInBounds p2 (vs x).2).setIfInBounds d (((a.tmps.setIfInBounds p1 (vs x).1).setIfInBounds p2 (vs x).2).getD p2 uD),defers:=[]} W;rw[e2];exact hK
 case Q_=>
  rintro l pre x W ⟨φ,fp,S2,m1,r,hm,hs,hc⟩ hlen;have Tx:=pT (hhi _ _ hm);have XS:=(hvs x).1.mono (S':=S2) (w':=W) (λb hb=>(hs b hb).2) (λb hb=>(hs b hb).1);have Ty:=(hvs x).2.mono (S':=S2) (w':=W) (λb hb=>(hs b hb).2) (λb hb=>(hs b hb).1);have hno:∀{y:AV} {u:Value},Rd W S2 y u->∀l af,(l,af)∈ao y->known m1 l af:=λhr l af hl=>by rw[fY hr] at hl;cases hl
  have r2:=(((r.PD Tx).put p1 _ _ hp1 (.rd _ _ XS) (hno XS)).put p2 _ _ hp2 (.rd _ _ Ty) (hno Ty)).put d _ _ hd (.rd _ _ Ty) (hno Ty);have ea:(((a.put (some p1) (vs x).1).put (some p2) (vs x).2).put (some d) (vs x).2)=({tmps:=((a.tmps.setIfInBounds p1 (vs x).1).setIfInBounds p2 (vs x).2).setIfInBounds d (vs x).2,defers:=[]}:Act):=by show ({tmps:=_,defers:=a.defers}:Act)=_;rw[had];rfl
  rw[ea] at r2;refine wpIn_block (wpIn_region_any YZ (J_ (Mg hnd) (λ⟨_,_,hh⟩=>hh) _ _ _ _ (J9 k hok (Q_ pre x m1 hlen hm) r2 ?_)));rintro a' W' ⟨φ',fp',S',ts',m3,r3,m2,hm2,e2⟩;have r4:=r3.ext (λ_=>rfl) (m':=m2) (λl=>(e2 l).symm);have r5:=(r.back Tx r4).cells;have hkp:∀b,(S b/\th w b)->W'.heap[b]? =W.heap[b]? :=λb hb=>r4.base b (r.sB b (hs b hb).1).1 λl hl=>r.bS l b hl (hs b hb).1;refine ⟨⟨r4.size,λk o hk ho=>?_⟩,hkp,φ',fp',_,m2,r5,hm2,λb hb=>⟨⟨.inl (hs b hb).1,?_⟩,(hkp b hb).trans (hs b hb).2⟩,λb hb=>hb.2⟩
  . refine (r4.base k (uq1.1 hk).1 λl hl=>?_).trans hk;obtain ⟨o',q1,q2⟩:=r.th hl;rw[hk] at q1;cases q1;rw[ho] at q2;cases q2
  obtain ⟨o,q1,q2⟩:=hc b (hs b hb).1;exact ⟨o,(hkp b hb).trans q1,q2⟩
 case XR=>
  rintro D xs' W hD rfl ⟨φ,fp,S2,m1,r,hm,hs,hc⟩ hK;have Tx:=pT (hhi _ _ hm);have r1:=r.PD Tx
  have hp:=iP (P:=P) (B:=⟨W,λl b=>b∈fp l,S2,φ,m1⟩) (N:=fn.ntmps) (ops:=tops) Y2 Y3
   (Q:=λe a' w'=>e= .normal/\ia ⟨W,λl b=>b∈fp l,S2,φ,m1⟩ fn.ntmps (λts' m'=>aP P (λzs=>vZ m' (λzs=>post (bG zs)) [] zs) fn.results.toList ts' m' []) a' w')
   (λa w h=>⟨rfl,h⟩) tops 0 (by simp) φ fp S2 _ m1 a W r1 (XQ m1 hm)
  have hp2:=iB (ds:=[{target:=.collected D,args:= #[]}]) _ _ _ hp;rw[had] at hp2;show (Code.seq (.region i3 ⟨tops⟩ false) .ret).wpIn _ _ _ _ _ _;rw[had];refine wpIn_seq (wpIn_wide.2 (wp_mono (wp_region (by simpa using hp2)) ?_));rintro e a' w' ⟨a'',rfl,rfl,φ',fp',S',ts',m',r',hk⟩;refine wpIn_ret ?_;have hnc:∀l,D∉fp l:=λl hl=>by obtain ⟨o',q1,q2⟩:=r.th hl;rw[hK] at q1;cases q1;cases q2
  have hK':w'.heap[D]? =some (.deferred (some [])):=(r'.base D (uq1.1 hK).1 λl hl=>hnc l hl).trans hK;have Y4:a''.defers=[]:=r'.defers;show LeavesInM Fence.wide 1 P fn a''.tmps (Vy w0 S0 post) (a''.defers++[{target:=.collected D,args:= #[]}]) .returning w';rw[Y4];refine ⟨by simp,.inl ⟨D,_,rfl,run_takeDeferred hK',?_⟩⟩;have r3:=((r.Vx r').cells).PC (λb hb=>hb.2) (grownBy_putObj' w' D (.deferred none)) (λq e=>by cases e;exact ⟨fu h.size hD,_,hK',rfl⟩);obtain ⟨zs,us,q1,q2,q3,q4⟩:=cI r3 fn.results.toList [] [] ⟨rfl,λi hi=>absurd hi (da _)⟩ (λi hi=>absurd hi (da _)) hk;obtain ⟨ys',hpo,hy⟩:=FM r3 zs us [] [] (by simpa using q3) ⟨rfl,λi hi=>absurd hi (da _)⟩ q1;refine ⟨_,vq q2,bG ys',_,rfl,hpo,⟨r3.size,λb hb=>r3.base b hb (λ_ h=>h),r3.out⟩,?_⟩;show Rd _ _ _ _;refine (PK (by simpa using hy)).mono (λ_ _=>rfl) λb hb=>?_;rcases hb with hb|⟨l,hb⟩
  . rcases (r3.sB b hb).2 with hh|hh
    . exact .inr ⟨hh,(r3.sB b hb).1⟩
    exact .inl hh
  rcases (r3.cu l b hb).2 with hh|⟨_,hh,_⟩
  . exact .inr ⟨hh,(r3.cu l b hb).1⟩
  exact hh.elim
end
end Go.Vc
namespace Go.Proofs
open Go.Shelf
def Tryz.zN:Go.Shelf.Ren:=⟨fun|173=>112|246=>158|283=>206|284=>207|285=>208|286=>209|129=>248|317=>247|318=>249|319=>250|320=>251|337=>268|338=>269|n=>n,fun|2=>2|3=>3|9=>9|4=>4|171=>194|0=>0|53=>174|37=>32|5=>5|173=>197|212=>232|51=>228|20=>20|213=>233|46=>177|232=>253|233=>254|n=>n,fun|17=>5|18=>6|19=>7|n=>n⟩
theorem Tryz.Mh:Go.Proofs.LaysM.n173 pG Tryz.zN:={
 mixed:=by kernel_rfl
 f129:=Tryz.func248.trans (congrArg some (by kernel_rfl))
 f173:=Tryz.func112.trans (congrArg some (by kernel_rfl))
 f246:=Tryz.func158.trans (congrArg some (by kernel_rfl))
 f283:=Tryz.func206.trans (congrArg some (by kernel_rfl))
 f284:=Tryz.func207.trans (congrArg some (by kernel_rfl))
 f285:=Tryz.func208.trans (congrArg some (by kernel_rfl))
 f286:=Tryz.func209.trans (congrArg some (by kernel_rfl))
 f317:=Tryz.func247.trans (congrArg some (by kernel_rfl))
 f318:=Tryz.func249.trans (congrArg some (by kernel_rfl))
 f319:=Tryz.func250.trans (congrArg some (by kernel_rfl))
 f320:=Tryz.func251.trans (congrArg some (by kernel_rfl))
 f337:=Tryz.func268.trans (congrArg some (by kernel_rfl))
 f338:=Tryz.func269.trans (congrArg some (by kernel_rfl))
 t0:=underlying0
 a0:=isAgg0
 z0:=sizeOf0
 v0:=zeroValue0
 t2:=underlying2
 a2:=isAgg2
 z2:=sizeOf2
 v2:=zeroValue2
 t3:=underlying3
 a3:=isAgg3
 z3:=sizeOf3
 v3:=zeroValue3
 t4:=underlying4
 a4:=isAgg4
 z4:=sizeOf4
 v4:=zeroValue4
 t5:=underlying5
 a5:=isAgg5
 z5:=sizeOf5
 v5:=zeroValue5
 t9:=underlying9
 a9:=isAgg9
 z9:=sizeOf9
 v9:=zeroValue9
 t20:=underlying20
 a20:=isAgg20
 z20:=sizeOf20
 v20:=zeroValue20
 t37:=underlying32
 a37:=isAgg32
 z37:=sizeOf32
 v37:=zeroValue32
 t46:=underlying177
 a46:=isAgg177
 z46:=sizeOf177
 v46:=zeroValue177
 t51:=underlying228
 a51:=isAgg228
 z51:=sizeOf228
 v51:=zeroValue228
 t53:=underlying174
 a53:=isAgg174
 z53:=sizeOf174
 v53:=zeroValue174
 t171:=underlying194
 a171:=isAgg194
 z171:=sizeOf194
 v171:=zeroValue194
 t173:=underlying197
 a173:=isAgg197
 z173:=sizeOf197
 v173:=zeroValue197
 t212:=underlying232
 a212:=isAgg232
 z212:=sizeOf232
 v212:=zeroValue232
 t213:=underlying233
 a213:=isAgg233
 z213:=sizeOf233
 t232:=underlying253
 a232:=isAgg253
 z232:=sizeOf253
 v232:=zeroValue253
 t233:=underlying254
 a233:=isAgg254
 z233:=sizeOf254
 v233:=zeroValue254
 g17:=by kernel_rfl
 g18:=by kernel_rfl
 g19:=by kernel_rfl
 i0:=by kernel_rfl
 i2:=by kernel_rfl
 i3:=by kernel_rfl
 i4:=by kernel_rfl
 i5:=by kernel_rfl
 i9:=by kernel_rfl
 i20:=by kernel_rfl
 i37:=by kernel_rfl
 i46:=by kernel_rfl
 i51:=by kernel_rfl
 i53:=by kernel_rfl
 i171:=by kernel_rfl
 i173:=by kernel_rfl
 i212:=by kernel_rfl
 i232:=by kernel_rfl
 i233:=by kernel_rfl
 m17:=by kernel_rfl
 m18:=by kernel_rfl
 m19:=by kernel_rfl}
def Tryz.ny:Go.Shelf.Ren:=⟨fun|174=>88|247=>128|245=>129|287=>182|279=>183|280=>184|281=>185|282=>186|321=>235|322=>236|316=>237|171=>239|205=>238|243=>267|246=>158|283=>206|284=>207|285=>208|286=>209|129=>248|317=>247|318=>249|319=>250|320=>251|337=>268|338=>269|n=>n,fun|9=>9|3=>3|2=>2|75=>99|85=>100|4=>4|167=>173|5=>5|53=>174|175=>175|46=>177|168=>178|37=>32|0=>0|210=>220|21=>21|127=>238|145=>243|143=>241|171=>194|173=>197|212=>232|51=>228|20=>20|213=>233|232=>253|233=>254|80=>213|n=>n,fun|15=>1|16=>2|17=>5|18=>6|19=>7|n=>n⟩
theorem Tryz.yw:Go.Proofs.LaysC.n174 pG Tryz.ny:={
 mixed:=by kernel_rfl
 f129:=Tryz.func248.trans (congrArg some (by kernel_rfl))
 f171:=Tryz.func239.trans (congrArg some (by kernel_rfl))
 f174:=Tryz.func88.trans (congrArg some (by kernel_rfl))
 f205:=Tryz.func238.trans (congrArg some (by kernel_rfl))
 f243:=Tryz.func267.trans (congrArg some (by kernel_rfl))
 f245:=Tryz.func129.trans (congrArg some (by kernel_rfl))
 f246:=Tryz.func158.trans (congrArg some (by kernel_rfl))
 f247:=Tryz.func128.trans (congrArg some (by kernel_rfl))
 f279:=Tryz.func183.trans (congrArg some (by kernel_rfl))
 f280:=Tryz.func184.trans (congrArg some (by kernel_rfl))
 f281:=Tryz.func185.trans (congrArg some (by kernel_rfl))
 f282:=Tryz.func186.trans (congrArg some (by kernel_rfl))
 f283:=Tryz.func206.trans (congrArg some (by kernel_rfl))
 f284:=Tryz.func207.trans (congrArg some (by kernel_rfl))
 f285:=Tryz.func208.trans (congrArg some (by kernel_rfl))
 f286:=Tryz.func209.trans (congrArg some (by kernel_rfl))
 f287:=Tryz.func182.trans (congrArg some (by kernel_rfl))
 f316:=Tryz.func237.trans (congrArg some (by kernel_rfl))
 f317:=Tryz.func247.trans (congrArg some (by kernel_rfl))
 f318:=Tryz.func249.trans (congrArg some (by kernel_rfl))
 f319:=Tryz.func250.trans (congrArg some (by kernel_rfl))
 f320:=Tryz.func251.trans (congrArg some (by kernel_rfl))
 f321:=Tryz.func235.trans (congrArg some (by kernel_rfl))
 f322:=Tryz.func236.trans (congrArg some (by kernel_rfl))
 f337:=Tryz.func268.trans (congrArg some (by kernel_rfl))
 f338:=Tryz.func269.trans (congrArg some (by kernel_rfl))
 t0:=underlying0
 a0:=isAgg0
 z0:=sizeOf0
 v0:=zeroValue0
 t2:=underlying2
 a2:=isAgg2
 z2:=sizeOf2
 v2:=zeroValue2
 t3:=underlying3
 a3:=isAgg3
 z3:=sizeOf3
 v3:=zeroValue3
 t4:=underlying4
 a4:=isAgg4
 z4:=sizeOf4
 v4:=zeroValue4
 t5:=underlying5
 a5:=isAgg5
 z5:=sizeOf5
 v5:=zeroValue5
 t9:=underlying9
 a9:=isAgg9
 z9:=sizeOf9
 v9:=zeroValue9
 t20:=underlying20
 a20:=isAgg20
 z20:=sizeOf20
 v20:=zeroValue20
 t21:=underlying21
 a21:=isAgg21
 z21:=sizeOf21
 v21:=zeroValue21
 t37:=underlying32
 a37:=isAgg32
 z37:=sizeOf32
 v37:=zeroValue32
 t46:=underlying177
 a46:=isAgg177
 z46:=sizeOf177
 v46:=zeroValue177
 t51:=underlying228
 a51:=isAgg228
 z51:=sizeOf228
 v51:=zeroValue228
 t53:=underlying174
 a53:=isAgg174
 z53:=sizeOf174
 v53:=zeroValue174
 t75:=underlying99
 a75:=isAgg99
 z75:=sizeOf99
 v75:=zeroValue99
 t85:=underlying100
 a85:=isAgg100
 z85:=sizeOf100
 v85:=zeroValue100
 t127:=underlying238
 a127:=isAgg238
 z127:=sizeOf238
 v127:=zeroValue238
 t143:=underlying241
 a143:=isAgg241
 z143:=sizeOf241
 v143:=zeroValue241
 t145:=underlying243
 a145:=isAgg243
 z145:=sizeOf243
 v145:=zeroValue243
 t167:=underlying173
 a167:=isAgg173
 z167:=sizeOf173
 v167:=zeroValue173
 t168:=underlying178
 a168:=isAgg178
 z168:=sizeOf178
 v168:=zeroValue178
 t171:=underlying194
 a171:=isAgg194
 z171:=sizeOf194
 v171:=zeroValue194
 t173:=underlying197
 a173:=isAgg197
 z173:=sizeOf197
 v173:=zeroValue197
 t175:=underlying175
 a175:=isAgg175
 z175:=sizeOf175
 v175:=zeroValue175
 t210:=underlying220
 a210:=isAgg220
 z210:=sizeOf220
 v210:=zeroValue220
 t212:=underlying232
 a212:=isAgg232
 z212:=sizeOf232
 v212:=zeroValue232
 t213:=underlying233
 a213:=isAgg233
 z213:=sizeOf233
 t232:=underlying253
 a232:=isAgg253
 z232:=sizeOf253
 v232:=zeroValue253
 t233:=underlying254
 a233:=isAgg254
 z233:=sizeOf254
 v233:=zeroValue254
 g15:=by kernel_rfl
 g16:=by kernel_rfl
 g17:=by kernel_rfl
 g18:=by kernel_rfl
 g19:=by kernel_rfl
 t80:=underlying213
 a80:=isAgg213
 z80:=sizeOf213
 v80:=zeroValue213
 i0:=by kernel_rfl
 i2:=by kernel_rfl
 i3:=by kernel_rfl
 i4:=by kernel_rfl
 i5:=by kernel_rfl
 i9:=by kernel_rfl
 i20:=by kernel_rfl
 i21:=by kernel_rfl
 i37:=by kernel_rfl
 i46:=by kernel_rfl
 i51:=by kernel_rfl
 i53:=by kernel_rfl
 i75:=by kernel_rfl
 i80:=by kernel_rfl
 i85:=by kernel_rfl
 i127:=by kernel_rfl
 i143:=by kernel_rfl
 i145:=by kernel_rfl
 i167:=by kernel_rfl
 i168:=by kernel_rfl
 i171:=by kernel_rfl
 i173:=by kernel_rfl
 i175:=by kernel_rfl
 i210:=by kernel_rfl
 i212:=by kernel_rfl
 i232:=by kernel_rfl
 i233:=by kernel_rfl
 m15:=by kernel_rfl
 m16:=by kernel_rfl
 m17:=by kernel_rfl
 m18:=by kernel_rfl
 m19:=by kernel_rfl
 c0:=by kernel_rfl
 c2:=by kernel_rfl
 c3:=by kernel_rfl
 c4:=by kernel_rfl
 c5:=by kernel_rfl
 c9:=by kernel_rfl
 c20:=by kernel_rfl
 c21:=by kernel_rfl
 c37:=by kernel_rfl
 c46:=by kernel_rfl
 c51:=by kernel_rfl
 c53:=by kernel_rfl
 c75:=by kernel_rfl
 c80:=by kernel_rfl
 c85:=by kernel_rfl
 c127:=by kernel_rfl
 c143:=by kernel_rfl
 c145:=by kernel_rfl
 c167:=by kernel_rfl
 c168:=by kernel_rfl
 c171:=by kernel_rfl
 c173:=by kernel_rfl
 c175:=by kernel_rfl
 c210:=by kernel_rfl
 c212:=by kernel_rfl
 c213:=by kernel_rfl
 c232:=by kernel_rfl
 c233:=by kernel_rfl}
def Tryz.nz:Go.Shelf.Ren:=⟨fun|146=>58|221=>81|268=>108|138=>109|143=>110|195=>154|197=>155|218=>156|219=>157|260=>201|217=>202|225=>203|224=>204|267=>205|266=>245|314=>246|n=>n,fun|9=>9|31=>35|3=>3|4=>4|0=>0|105=>155|21=>21|5=>5|46=>177|119=>224|139=>227|138=>226|146=>229|51=>228|n=>n,fun|1=>0|3=>3|4=>4|n=>n⟩
theorem Tryz.PL:Go.Proofs.Lays.n146 pG Tryz.nz:={
 mixed:=by kernel_rfl
 f138:=Tryz.func109.trans (congrArg some (by kernel_rfl))
 f143:=Tryz.func110.trans (congrArg some (by kernel_rfl))
 f146:=Tryz.func58.trans (congrArg some (by kernel_rfl))
 f195:=Tryz.func154.trans (congrArg some (by kernel_rfl))
 f197:=Tryz.func155.trans (congrArg some (by kernel_rfl))
 f217:=Tryz.func202.trans (congrArg some (by kernel_rfl))
 f218:=Tryz.func156.trans (congrArg some (by kernel_rfl))
 f219:=Tryz.func157.trans (congrArg some (by kernel_rfl))
 f221:=Tryz.func81.trans (congrArg some (by kernel_rfl))
 f224:=Tryz.func204.trans (congrArg some (by kernel_rfl))
 f225:=Tryz.func203.trans (congrArg some (by kernel_rfl))
 f260:=Tryz.func201.trans (congrArg some (by kernel_rfl))
 f266:=Tryz.func245.trans (congrArg some (by kernel_rfl))
 f267:=Tryz.func205.trans (congrArg some (by kernel_rfl))
 f268:=Tryz.func108.trans (congrArg some (by kernel_rfl))
 f314:=Tryz.func246.trans (congrArg some (by kernel_rfl))
 t0:=underlying0
 a0:=isAgg0
 z0:=sizeOf0
 v0:=zeroValue0
 t3:=underlying3
 a3:=isAgg3
 z3:=sizeOf3
 v3:=zeroValue3
 t4:=underlying4
 a4:=isAgg4
 z4:=sizeOf4
 v4:=zeroValue4
 t5:=underlying5
 a5:=isAgg5
 z5:=sizeOf5
 v5:=zeroValue5
 t9:=underlying9
 a9:=isAgg9
 z9:=sizeOf9
 v9:=zeroValue9
 t21:=underlying21
 a21:=isAgg21
 z21:=sizeOf21
 v21:=zeroValue21
 t31:=underlying35
 a31:=isAgg35
 z31:=sizeOf35
 v31:=zeroValue35
 t46:=underlying177
 a46:=isAgg177
 z46:=sizeOf177
 v46:=zeroValue177
 t51:=underlying228
 a51:=isAgg228
 z51:=sizeOf228
 v51:=zeroValue228
 t105:=underlying155
 a105:=isAgg155
 z105:=sizeOf155
 v105:=zeroValue155
 t119:=underlying224
 a119:=isAgg224
 z119:=sizeOf224
 t138:=underlying226
 a138:=isAgg226
 z138:=sizeOf226
 v138:=zeroValue226
 t139:=underlying227
 a139:=isAgg227
 z139:=sizeOf227
 v139:=zeroValue227
 t146:=underlying229
 a146:=isAgg229
 z146:=sizeOf229
 v146:=zeroValue229
 g1:=by kernel_rfl
 g3:=by kernel_rfl
 g4:=by kernel_rfl}
def Tryz.vr:Go.Shelf.Ren:=⟨fun|156=>166|165=>217|166=>218|169=>219|240=>260|241=>261|276=>275|277=>276|n=>n,fun|31=>35|9=>9|3=>3|4=>4|0=>0|20=>20|72=>209|76=>211|70=>207|37=>32|75=>99|127=>238|164=>247|5=>5|80=>213|n=>n,fun|n=>n⟩
theorem Tryz.Ka:Go.Proofs.Lays.n156 pG Tryz.vr:={
 mixed:=by kernel_rfl
 f156:=Tryz.func166.trans (congrArg some (by kernel_rfl))
 f165:=Tryz.func217.trans (congrArg some (by kernel_rfl))
 f166:=Tryz.func218.trans (congrArg some (by kernel_rfl))
 f169:=Tryz.func219.trans (congrArg some (by kernel_rfl))
 f240:=Tryz.func260.trans (congrArg some (by kernel_rfl))
 f241:=Tryz.func261.trans (congrArg some (by kernel_rfl))
 f276:=Tryz.func275.trans (congrArg some (by kernel_rfl))
 f277:=Tryz.func276.trans (congrArg some (by kernel_rfl))
 t0:=underlying0
 a0:=isAgg0
 z0:=sizeOf0
 v0:=zeroValue0
 t3:=underlying3
 a3:=isAgg3
 z3:=sizeOf3
 v3:=zeroValue3
 t4:=underlying4
 a4:=isAgg4
 z4:=sizeOf4
 v4:=zeroValue4
 t9:=underlying9
 a9:=isAgg9
 z9:=sizeOf9
 v9:=zeroValue9
 t20:=underlying20
 a20:=isAgg20
 z20:=sizeOf20
 v20:=zeroValue20
 t31:=underlying35
 a31:=isAgg35
 z31:=sizeOf35
 v31:=zeroValue35
 t37:=underlying32
 a37:=isAgg32
 z37:=sizeOf32
 v37:=zeroValue32
 t70:=underlying207
 a70:=isAgg207
 z70:=sizeOf207
 v70:=zeroValue207
 t72:=underlying209
 a72:=isAgg209
 z72:=sizeOf209
 v72:=zeroValue209
 t75:=underlying99
 a75:=isAgg99
 z75:=sizeOf99
 v75:=zeroValue99
 t76:=underlying211
 a76:=isAgg211
 z76:=sizeOf211
 v76:=zeroValue211
 t127:=underlying238
 a127:=isAgg238
 z127:=sizeOf238
 v127:=zeroValue238
 t164:=underlying247
 a164:=isAgg247
 z164:=sizeOf247
 v164:=zeroValue247}
def Tryz.qE:Go.Shelf.Ren:=⟨fun|105=>264|212=>277|99=>278|165=>217|166=>218|170=>279|169=>219|263=>292|264=>293|206=>294|240=>260|241=>261|276=>275|277=>276|n=>n,fun|9=>9|3=>3|4=>4|20=>20|0=>0|46=>177|109=>250|5=>5|72=>209|76=>211|51=>228|146=>229|53=>174|148=>266|70=>207|37=>32|75=>99|127=>238|164=>247|80=>213|n=>n,fun|n=>n⟩
theorem Tryz.Mi:Go.Proofs.Lays.n105 pG Tryz.qE:={
 mixed:=by kernel_rfl
 f99:=Tryz.func278.trans (congrArg some (by kernel_rfl))
 f105:=Tryz.func264.trans (congrArg some (by kernel_rfl))
 f165:=Tryz.func217.trans (congrArg some (by kernel_rfl))
 f166:=Tryz.func218.trans (congrArg some (by kernel_rfl))
 f169:=Tryz.func219.trans (congrArg some (by kernel_rfl))
 f170:=Tryz.func279.trans (congrArg some (by kernel_rfl))
 f206:=Tryz.func294.trans (congrArg some (by kernel_rfl))
 f212:=Tryz.func277.trans (congrArg some (by kernel_rfl))
 f240:=Tryz.func260.trans (congrArg some (by kernel_rfl))
 f241:=Tryz.func261.trans (congrArg some (by kernel_rfl))
 f263:=Tryz.func292.trans (congrArg some (by kernel_rfl))
 f264:=Tryz.func293.trans (congrArg some (by kernel_rfl))
 f276:=Tryz.func275.trans (congrArg some (by kernel_rfl))
 f277:=Tryz.func276.trans (congrArg some (by kernel_rfl))
 t0:=underlying0
 a0:=isAgg0
 z0:=sizeOf0
 v0:=zeroValue0
 t3:=underlying3
 a3:=isAgg3
 z3:=sizeOf3
 v3:=zeroValue3
 t4:=underlying4
 a4:=isAgg4
 z4:=sizeOf4
 v4:=zeroValue4
 t5:=underlying5
 a5:=isAgg5
 z5:=sizeOf5
 v5:=zeroValue5
 t9:=underlying9
 a9:=isAgg9
 z9:=sizeOf9
 v9:=zeroValue9
 t20:=underlying20
 a20:=isAgg20
 z20:=sizeOf20
 v20:=zeroValue20
 t37:=underlying32
 a37:=isAgg32
 z37:=sizeOf32
 v37:=zeroValue32
 t46:=underlying177
 a46:=isAgg177
 z46:=sizeOf177
 v46:=zeroValue177
 t51:=underlying228
 a51:=isAgg228
 z51:=sizeOf228
 v51:=zeroValue228
 t53:=underlying174
 a53:=isAgg174
 z53:=sizeOf174
 v53:=zeroValue174
 t70:=underlying207
 a70:=isAgg207
 z70:=sizeOf207
 v70:=zeroValue207
 t72:=underlying209
 a72:=isAgg209
 z72:=sizeOf209
 v72:=zeroValue209
 t75:=underlying99
 a75:=isAgg99
 z75:=sizeOf99
 v75:=zeroValue99
 t76:=underlying211
 a76:=isAgg211
 z76:=sizeOf211
 v76:=zeroValue211
 t109:=underlying250
 a109:=isAgg250
 z109:=sizeOf250
 v109:=zeroValue250
 t127:=underlying238
 a127:=isAgg238
 z127:=sizeOf238
 v127:=zeroValue238
 t146:=underlying229
 a146:=isAgg229
 z146:=sizeOf229
 v146:=zeroValue229
 t148:=underlying266
 a148:=isAgg266
 z148:=sizeOf266
 v148:=zeroValue266
 t164:=underlying247
 a164:=isAgg247
 z164:=sizeOf247
 v164:=zeroValue247}
theorem Tryz.BQ:Builder.Extra pG Tryz.vr:={
 sizeBuilder:=by kernel_rfl
 liesBuilder:=by kernel_rfl
 t5:=underlying5
 a5:=isAgg5
 z5:=sizeOf5
 v5:=zeroValue5
 infoByte:=by kernel_rfl
 cellsByte:=by kernel_rfl
 sizeByte:=by kernel_rfl
 neB5:=by decide}
theorem Tryz.FN:Builder.Extra pG Tryz.qE:={
 sizeBuilder:=by kernel_rfl
 liesBuilder:=by kernel_rfl
 t5:=underlying5
 a5:=isAgg5
 z5:=sizeOf5
 v5:=zeroValue5
 infoByte:=by kernel_rfl
 cellsByte:=by kernel_rfl
 sizeByte:=by kernel_rfl
 neB5:=by decide}
end Go.Proofs
namespace Go.Proofs
open Go.Shelf
def Tryz.FO:Go.Shelf.Ren:=⟨fun|53=>257|64=>274|63=>273|78=>291|79=>248|70=>282|71=>283|72=>284|73=>285|74=>286|75=>287|59=>288|76=>289|77=>290|88=>295|89=>296|90=>297|91=>298|92=>299|68=>300|96=>301|n=>n,fun|22=>58|23=>2|3=>3|51=>177|0=>0|67=>228|69=>174|4=>4|61=>258|60=>257|44=>263|5=>5|9=>9|75=>268|79=>272|83=>274|84=>275|n=>n,fun|n=>n⟩
theorem Tryz.Kb:Go.Proofs.SlLaysN.n53 pG Tryz.FO:={
 mixed:=by kernel_rfl
 f53:=⟨Tryz.f257.name,by decide,Tryz.func257.trans (congrArg some (by kernel_rfl))⟩
 f59:=⟨Tryz.f288.name,by decide,Tryz.func288.trans (congrArg some (by kernel_rfl))⟩
 f63:=⟨Tryz.f273.name,by decide,Tryz.func273.trans (congrArg some (by kernel_rfl))⟩
 f64:=Tryz.func274.trans (congrArg some (by kernel_rfl))
 f68:=⟨Tryz.f300.name,by decide,Tryz.func300.trans (congrArg some (by kernel_rfl))⟩
 f70:=⟨Tryz.f282.name,by decide,Tryz.func282.trans (congrArg some (by kernel_rfl))⟩
 f71:=⟨Tryz.f283.name,by decide,Tryz.func283.trans (congrArg some (by kernel_rfl))⟩
 f72:=⟨Tryz.f284.name,by decide,Tryz.func284.trans (congrArg some (by kernel_rfl))⟩
 f73:=⟨Tryz.f285.name,by decide,Tryz.func285.trans (congrArg some (by kernel_rfl))⟩
 f74:=⟨Tryz.f286.name,by decide,Tryz.func286.trans (congrArg some (by kernel_rfl))⟩
 f75:=⟨Tryz.f287.name,by decide,Tryz.func287.trans (congrArg some (by kernel_rfl))⟩
 f76:=⟨Tryz.f289.name,by decide,Tryz.func289.trans (congrArg some (by kernel_rfl))⟩
 f77:=⟨Tryz.f290.name,by decide,Tryz.func290.trans (congrArg some (by kernel_rfl))⟩
 f78:=Tryz.func291.trans (congrArg some (by kernel_rfl))
 f79:=Tryz.func248.trans (congrArg some (by kernel_rfl))
 f88:=⟨Tryz.f295.name,by decide,Tryz.func295.trans (congrArg some (by kernel_rfl))⟩
 f89:=Tryz.func296.trans (congrArg some (by kernel_rfl))
 f90:=Tryz.func297.trans (congrArg some (by kernel_rfl))
 f91:=⟨Tryz.f298.name,by decide,Tryz.func298.trans (congrArg some (by kernel_rfl))⟩
 f92:=⟨Tryz.f299.name,by decide,Tryz.func299.trans (congrArg some (by kernel_rfl))⟩
 f96:=⟨Tryz.f301.name,by decide,Tryz.func301.trans (congrArg some (by kernel_rfl))⟩
 t0:=underlying0
 a0:=isAgg0
 z0:=sizeOf0
 v0:=zeroValue0
 t3:=underlying3
 a3:=isAgg3
 z3:=sizeOf3
 v3:=zeroValue3
 t4:=underlying4
 a4:=isAgg4
 z4:=sizeOf4
 v4:=zeroValue4
 t5:=underlying5
 a5:=isAgg5
 z5:=sizeOf5
 v5:=zeroValue5
 t9:=underlying9
 a9:=isAgg9
 z9:=sizeOf9
 v9:=zeroValue9
 t22:=underlying58
 a22:=isAgg58
 z22:=sizeOf58
 v22:=zeroValue58
 t23:=underlying2
 a23:=isAgg2
 z23:=sizeOf2
 v23:=zeroValue2
 t44:=underlying263
 a44:=isAgg263
 z44:=sizeOf263
 v44:=zeroValue263
 t51:=underlying177
 a51:=isAgg177
 z51:=sizeOf177
 v51:=zeroValue177
 t60:=underlying257
 a60:=isAgg257
 z60:=sizeOf257
 v60:=zeroValue257
 t61:=underlying258
 a61:=isAgg258
 z61:=sizeOf258
 v61:=zeroValue258
 t67:=underlying228
 a67:=isAgg228
 z67:=sizeOf228
 v67:=zeroValue228
 t69:=underlying174
 a69:=isAgg174
 z69:=sizeOf174
 v69:=zeroValue174
 t75:=underlying268
 a75:=isAgg268
 z75:=sizeOf268
 v75:=zeroValue268
 t79:=underlying272
 a79:=isAgg272
 z79:=sizeOf272
 v79:=zeroValue272
 t83:=underlying274
 a83:=isAgg274
 z83:=sizeOf274
 v83:=zeroValue274
 t84:=underlying275
 a84:=isAgg275
 z84:=sizeOf275
 v84:=zeroValue275}
def Tryz.yx:Go.Shelf.Ren:=⟨fun|43=>258|n=>n,fun|22=>58|23=>2|3=>3|4=>4|0=>0|n=>n,fun|n=>n⟩
theorem Tryz.nA:Go.Proofs.SlLaysN.n43 pG Tryz.yx:={
 mixed:=by kernel_rfl
 f43:=⟨Tryz.f258.name,by decide,Tryz.func258.trans (congrArg some (by kernel_rfl))⟩
 t0:=underlying0
 a0:=isAgg0
 z0:=sizeOf0
 v0:=zeroValue0
 t3:=underlying3
 a3:=isAgg3
 z3:=sizeOf3
 v3:=zeroValue3
 t4:=underlying4
 a4:=isAgg4
 z4:=sizeOf4
 v4:=zeroValue4
 t22:=underlying58
 a22:=isAgg58
 z22:=sizeOf58
 v22:=zeroValue58
 t23:=underlying2
 a23:=isAgg2
 z23:=sizeOf2
 v23:=zeroValue2
 i23:=by kernel_rfl}
end Go.Proofs
namespace Go.Vc
def vt (l v:Nat)(sh:Sh)(ys:lA):lA->lA->Prop
 | [],[]=>True
 |x::xs,t::r=>((∃i n,x= .ref l v i n/\i+n<=ys.length/\t= .arr sh ((ys.drop i).take n))\/((∀p,p∈ao x->p.1≠l)/\t=x))/\vt l v sh ys xs r
 |_,_=>False
theorem Mj {l v:Nat}{sh:Sh}{ys xs r:lA}{y:AV}(i n:Nat)(h:i+n<=ys.length)(e:y= .arr sh ((ys.drop i).take n))(hr:vt l v sh ys xs r):vt l v sh ys (.ref l v i n::xs) (y::r):=⟨.inl ⟨i,n,rfl,h,e⟩,hr⟩
theorem FP {l v:Nat}{sh:Sh}{ys xs r:lA}{x:AV}(h:∀p,p∈ao x->p.1≠l)(hr:vt l v sh ys xs r):vt l v sh ys (x::xs) (x::r):=⟨.inr ⟨h,rfl⟩,hr⟩
theorem Mk {l v:Nat}{sh:Sh}{ys:lA}:vt l v sh ys [] []:=trivial
theorem BT {l v:Nat}{sh:Sh}{ys:lA}:∀{xs ts:lA},vt l v sh ys xs ts->ts.length=xs.length/\∀i (h1:i<xs.length) (h2:i<ts.length),
 (∃j n,xs[i]= .ref l v j n/\j+n<=ys.length/\ts[i]= .arr sh ((ys.drop j).take n))\/((∀p,p∈ao xs[i]->p.1≠l)/\ts[i]=xs[i])
 | [],[],_=>⟨rfl,λi h1=>absurd h1 (da _)⟩
 |x::xs,t::ts,⟨h1,h2⟩=>by
  obtain ⟨g1,g2⟩:=BT h2;refine ⟨by simp[g1],λi hi1 hi2=>?_⟩;cases i with
  |zero=>exact h1
  |succ i=>exact g2 i (by simpa using hi1) (by simpa using hi2)
theorem Iy {P:pR}{f:fI}{d:Nat}{xs xt:lA}{m:Mem}{k:AV->Mem->Prop}{q:Pack k}(l v:Nat)(sh:Sh)(dp:Bool)(ys xs':lA)(hl:l<bE)(hm:ah m l=some (.row v sh dp ys))(hx:vt l v sh ys xs xs')
 (h:hU P f xs' ((l,.gone v)::m) k):eo P f d xs xt m k q:=by
 refine .inl λB N φ fp S ts a w vs hR hsz hrv hxl=>?_;have hf:=hR.X3 hl hm (v:=v) rfl;obtain ⟨g1,g2⟩:=BT hx;refine h B N _ _ _ ts a w vs hf (hsz.trans g1.symm) (λi hi=>?_) (λi hi k af hk=>?_)
 . have hi':i<xs.length:=(by omega);rcases g2 i hi' hi with ⟨j,n,e1,e2,e3⟩|⟨e1,e2⟩
   . rw[e3];have:=hrv i hi';rw[e1] at this;exact .rd _ _ (CO hR hl hm e2 this)
   rw[e2];refine (hrv i hi').mono (λ_ _=>rfl) (λ_ h=>.inl h) (λl b sh af cs e _ hb=>⟨cs,e,hb,rfl⟩) λl' af hl'=>?_;rw[r7 (e1 _ hl')];exact LS.le_refl _ _
 have hi':i<xs.length:=by omega
 rcases g2 i hi' hi with ⟨j,n,e1,e2,e3⟩|⟨e1,e2⟩
 . rw[e3] at hk;cases hk
 rw[e2] at hk;obtain ⟨b,h1,h2⟩:=hxl i hi' k af hk;exact ⟨b,by rw[aw,if_neg (Ne.symm (e1 _ hk))];exact h1,h2⟩
theorem Ml {P:pR}{f:fI}{m0:Mem}{xs:lA}{post:AV->Mem->Prop}{m:Mem}{k:AV->Mem->Prop}(hH:fN P f m0 xs post)
 (hc:(Fx (keys m0)/\okB (keys m0) m0)/\sI m m0 (keys m0)/\ck (keys m0) (aq xs)) (hk:∀r m',post r m'->k r (m'++m)):hU P f xs m k:=
 (fN.call hH (sJ hc.1.1) (mP hc.2.1) (tL hc.1.2) (o_ hc.2.2) hk).io
end Go.Vc
namespace Go.Vc
def PM (ops:List Oper)(D:List Bool):lN:=(dh ops.length).filter λi=> !D.getD i false&&(match ops[i]? with|some o=>(iz o).all λp=>D.getD p false|none=>false)
def Iz (P:pR)(N:Nat)(ops:List Oper)(K:St):Nat->List Bool->St
 |0,_=>nw P N K
 |f+1,D=>λts m=>∀i,i∈PM ops D->sL P ops ((ops.drop i).take 1) ts m (nw P N (Iz P N ops K f (D.set i true)))
def VC (p:nP):lN->Prop
 | []=>True
 |i::r=>p i/\VC p r
theorem FQ {p:nP}:∀{L:lN},VC p L->∀i,i∈L->p i
 | [],_,i,h=>by cases h
 |_::_,⟨h1,h2⟩,i,h=>by
  rcases List.mem_cons.1 h with rfl|h
  . exact h1
  exact FQ h2 i h
theorem ct {P:pR}{N:Nat}{ops:List Oper}{K:St}{f:Nat}{D:List Bool}{ts:Env}{m:Mem}(L:lN)(h:PM ops D=L)(hk:VC (λi=>sL P ops ((ops.drop i).take 1) ts m (nw P N (Iz P N ops K f (D.set i true)))) L):
 Iz P N ops K (f+1) D ts m:=λi hi=>FQ hk i (h▸hi)
theorem sO {P:pR}{N:Nat}{ops:List Oper}{K:St}{D:List Bool}{ts:Env}{m:Mem}(h:nw P N K ts m):Iz P N ops K 0 D ts m:=h
theorem nw.go {P:pR}{N:Nat}{n:St}{ts:Env}{m:Mem}(h:n ts m):nw P N n ts m:=λ_ _ _ _ _ _ hR=>⟨_,_,_,_,_,hR,h⟩
theorem least (p:Nat->Bool):∀n,p n=false->∃i,i<=n/\p i=false/\∀j,j<i->p j=true:=by
 intro n;induction n using Nat.strongRecOn with
 |_ n ih=>
  intro h;by_cases hx:∃j,j<n/\p j=false
  . obtain ⟨j,hj,hp⟩:=hx;obtain ⟨i,h1,h2⟩:=ih j hj hp;exact ⟨i,by omega,h2⟩
  refine ⟨n,cm _,h,λj hj=>?_⟩;cases hp:p j with
  |true=>rfl
  |false=>exact absurd ⟨j,hj,hp⟩ hx
section
variable {P:pR} {B:eC} {N:Nat} {ops:List Oper}
theorem yy (hok:jM N ops=true)(hgs:df N ops=true)(hb:vo ops=true){K:St}{Q:Exit->Act->World->Prop}(hQ:∀a w,ia B N K a w->Q .normal a w):
 ∀(f:Nat)(D:List Bool)(listed:Array Bool),listed.size=ops.length->D.length=ops.length->(∀i,listed.getD i false=D.getD i false)->D.count false=f→
 ∀(φ:Nat->LS)(fp:nN)(S:nP)(ts:Env)(m:Mem)(a:Act)(w:World),RS B N φ fp S ts m a w->Iz P N ops K f D ts m->wpAny P .any ops.toArray Q f listed a w
 |0,D,listed,hs,hl,he,hc,φ,fp,S,ts,m,a,w,h,hk=>by
  have cP:∀i,i<ops.length->D.getD i false=true:=by
   intro i hi;have hi':i<D.length:=(by omega);have hn:false∉D:=λhm=>by have:=List.count_pos_iff.2 hm;omega
   have:D[i]≠false:=λe=>hn (e▸uq9 hi');rw[uq6,uq7 hi'];simpa using this
  refine ⟨?_,?_⟩
  . cases hr:Region.ready .any ops.toArray listed with
    |nil=>rfl
    |cons j r=>
     have hj:j∈Region.ready .any ops.toArray listed:=(by rw[hr];exact cM ..);obtain ⟨h0,oj,hoj,_⟩:=mem_ready.1 hj;have hdj:listed.getD j false=false:=getD_both h0;have hjn:j<ops.length:=(by simpa using (uq1.1 hoj).1);rw[he,cP j hjn] at hdj;cases hdj
  obtain ⟨φ2,fp2,S2,ts2,m2,h2,hk2⟩:=hk B φ fp S a w h;exact hQ _ _ ⟨φ2,fp2,S2,ts2,m2,h2,hk2⟩
 |f+1,D,listed,hs,hl,he,hc,φ,fp,S,ts,m,a,w,h,hk=>by
  refine ⟨λhr=>?_,λj hj=>?_⟩
  . exfalso;have hm:false∈D:=List.count_pos_iff.1 (by omega);obtain ⟨n,hn,hn2⟩:=bk hm;obtain ⟨i,hi,hi2,hi3⟩:=least (λi=>D.getD i false) n (by simp [uq6,hn,hn2]);have hil:i<ops.length:=(by omega);have hin:i∈Region.ready .any ops.toArray listed:=by
     refine mem_ready.2 ⟨getD_in (by omega) ((he i).trans hi2),ops[i],by simp[hil],λe hee hbd=>?_⟩;have hp:e.on∈iz ops[i]:=ba.2 ⟨e,a_.2 ⟨by simpa using hee,hbd⟩,rfl⟩;have hlt:e.on<i:=by have:=uq5.1 hb i (cE.2 hil);rw[uq7 hil] at this;have:=uq5.1 this _ hp;simpa using this
     rw[he];exact hi3 _ hlt
    rw[hr] at hin;cases hin
  obtain ⟨h0,o,hoj,dD⟩:=mem_ready.1 hj;have hdj:listed.getD j false=false:=getD_both h0;have hon:ops[j]? =some o:=by simpa using hoj
  have hjn:j<ops.length:=(uq8.1 hon).1;have hDj:D.getD j false=false:=(he j).symm.trans hdj;have hav:j∈PM ops D:=by refine a_.2 ⟨cE.2 hjn,?_⟩;rw[hDj,hon];simp only[Bool.not_false,Bool.true_and,uq5];intro p hp;obtain ⟨e,he1,rfl⟩:=ba.1 hp;obtain ⟨he2,he3⟩:=a_.1 he1;rw[←he];exact dD e (by simpa using he2) he3
  have hsl:=hk j hav;have hdt:(ops.drop j).take 1=[o]:=by
   rw[List.drop_eq_getElem_cons hjn];rw[uq7 hjn] at hon;injection hon with hon
   rw[hon];rfl
  rw[hdt] at hsl;have hDl:D[j]'(by omega)=false:=by rw[uq6,uq7 (by omega)] at hDj;simpa using hDj
  have hc2:(D.set j true).count false=f:=by rw[List.count_set (by omega),hDl,hc];simp
  have he2:∀i,(listed.setIfInBounds j true).getD i false=(D.set j true).getD i false:=by
   intro i;by_cases e:j=i
   . subst e;simp[uq0,uq6,hs,hjn,hl]
   have:=he i;rw[uq0,uq6] at this ⊢;rw[Array.getElem?_setIfInBounds_ne e,List.getElem?_set_ne e];exact this
  have hdo:∀d,o.dst=some d->d<N:=by intro d hd;have:=uq5.1 hok o (bp hon);rw[hd] at this;simpa using this
  have next:∀a' w',ia B N (nw P N (Iz P N ops K f (D.set j true))) a' w'->wpAny P .any ops.toArray Q f (listed.setIfInBounds j true) a' w':=by rintro a' w' ⟨φ',fp',S',ts',m',h',hk'⟩;obtain ⟨φ2,fp2,S2,ts2,m2,h2,hk2⟩:=hk' B φ' fp' S' a' w' h';exact yy hok hgs hb hQ f (D.set j true) _ (by simpa using hs) (by simpa using hl) he2 hc2 φ2 fp2 S2 ts2 m2 a' w' h2 hk2
  unfold wpOp;simp only[hoj];simp only[sL] at hsl;cases hg:o.guard with
  |none=>
   rw[hg] at hsl;rw[cr h hgs hon (show cJ ops o ts=some true by simp[cJ,hg])];simp only[if_true];exact .inl (gu h hsl λv w' hgv=>next _ _ (step_done hdo hgv λx m' hx=>hx))
  |some jw=>
   obtain ⟨g,want⟩:=jw;rw[hg] at hsl;simp only at hsl;unfold gv at hsl;split at hsl
   . rename_i c hy;by_cases hcw:c=want
     . subst hcw;rw[cr h hgs hon (show cJ ops o ts=some true by simp[cJ,hg,hy])];simp only[if_true];exact .inl (gu h (hsl.1 rfl) λv w' hgv=>next _ _ (step_done hdo hgv λx m' hx=>hx))
     rw[cr h hgs hon (show cJ ops o ts=some false by simp[cJ,hg,hy,hcw])];simp only[uq4,if_false];have hk2:=hsl.2 hcw;refine next _ _ (step_done (k:=λx m'=>x= .aX []/\m'=m) hdo (h.gives (x:=.aX []) (.rd _ _ (.aX [] #[] rfl λi hi=>absurd hi (da _))) (λ_ _ hl=>by cases hl) ⟨rfl,rfl,rfl⟩) λx m' ⟨h1,h2⟩=>?_)
     rw[h1,h2];exact hk2
   . rename_i hy;rw [cr h hgs hon (show cJ ops o ts=some false by simp [cJ,hg,hy])];simp only [uq4,if_false];refine next _ _ (step_done (k:=λx m'=>x= .aX []/\m'=m) hdo (h.gives (x:=.aX []) (.rd _ _ (.aX [] #[] rfl λi hi=>absurd hi (da _))) (λ_ _ hl=>by cases hl) ⟨rfl,rfl,rfl⟩) λx m' ⟨h1,h2⟩=> ?_)
     rw[h1,h2];exact hsl
   exact hsl.elim
theorem aj.any {i:Nat}{ts:Env}{m:Mem}{Q:de}{q:Pack (Code.region i ⟨ops⟩ true,Q)}(hm:P.follows .mixedOrders=true)(hok:(jM N ops&&df N ops&&vo ops)=true)
 (h:Iz P N ops (Q .normal) ops.length (bw ops.length false) ts m):aj P N (.region i ⟨ops⟩ true) ts m Q q:=by
 simp only[uq3] at hok;refine ⟨λB φ fp S a w hRS=>wp_region_any hm ?_⟩;refine yy (B:=B) hok.1.1 hok.1.2 hok.2 (λa w hd=>hd) _ (bw ops.length false) _ (by simp) (by simp) (λi=>?_) (by simp) φ fp S ts m a _ (hRS.rM rfl ⟨rfl,rfl,rfl⟩) h;rw[getD_replicate_false];rw[uq6,List.getElem?_replicate];split<;>rfl
end
theorem aj.cut (n:Nat){P:pR}{N i:Nat}{ops:List Oper}{ts:Env}{m:Mem}{Q:de}{q:Pack (Code.region i ⟨ops⟩ false,Q)}(hok:(jM N ops&&df N ops&&(((ops.take n).all λo=>o.guard.isNone)&&decide (n<=ops.length)))=true)
 (h:sL P ops (ops.take n) ts m (nw P N λts m=>sL P ops (ops.drop n) ts m (Q .normal))):aj P N (.region i ⟨ops⟩ false) ts m Q q:=⟨λB φ fp S a w hRS=>by
 simp only[uq3,decide_eq_true_eq] at hok;refine wp_region ?_;have:=sN (P:=P) (B:=B) (Q:=λe a' w'=>ia B N (Q e) a' w') hok.1.1 hok.2.1 hok.2.2 (K:=nw P N λts m=>sL P ops (ops.drop n) ts m (Q .normal)) (λDT fp0 S0 ts0 m0 a w h0 hk0=>?_) (ops.take n) 0 (by simp) (Nat.zero_le _) φ fp S ts m a w hRS h
 . simpa using this
 obtain ⟨φ2,fp2,S2,ts2,m2,h2,hk2⟩:=hk0 B DT fp0 S0 a w h0
 exact iP hok.1.1 hok.1.2 (λa w hd=>hd) (ops.drop n) n rfl φ2 fp2 S2 ts2 m2 a w h2 hk2⟩
section
variable {P:pR} {B:eC} {N:Nat} {φ:Nat->LS} {fp:nN} {S:nP} {ts:Env} {m:Mem} {a:Act} {w:World}
theorem RS.untold (h:RS B N φ fp S ts m a w){t l v:Nat}{sh:Sh}{ys:lA}{u:Value}(ht:look ts t= .val u)(hlk:ah m l=some (.sub v sh ys u)):
 ∃φ2 fp2,RS B N φ2 fp2 S ((t,.ref l v 0 ys.length)::ts) ((l,.row v sh true ys)::m) a w:=by
 obtain ⟨b,cap,hφ,hbm,hu,bc⟩:=h.aG l _ hlk;have R1:RS B N (nX φ l (φ l)) (nX fp l (fp l)) S ts ((l,.row v sh true ys)::m) a w:=by
  refine h.next l (φ l) (fp l) S _ (cm _) (a7.refl _) (jI.refl _) (λ_ _ _=>rfl) (λc hc=>⟨hc,rfl⟩) (λc h1 h2=>absurd h1 h2) (λl b sh af cs e _ hb=>⟨cs,e,hb,rfl⟩)
   (λ_ _ _ _=>rfl) (λaf _=>LS.le_refl _ _) ?_ ?_ (λ_ _ hk=>by cases hk) (h.hZ l) ?_
  . rintro af ⟨k',h1,h2⟩;rw[hlk] at h1;cases h1;exact h2
  . exact .inr ⟨b,cap,by rw[aB];exact hφ,hbm,λh=>(by cases h),by rw[←hu];exact bc⟩
  intro c hc;have:=h.cu l c hc;exact ⟨h.bS l c hc,λl' hl' hc'=>hl' (h.fL l' l c hc' hc),this.1,this.2⟩
 refine ⟨_,_,{R1 with tm:=λt'=>?_,tl:=λt' l' af hl'=>?_}⟩
 . rw [cN];split
   . rename_i e;subst e;have htm:=h.tm t;rw [ht] at htm;obtain ⟨e1,_⟩:=aS htm;rw [←e1,hu];refine .ref _ _ _ _ _ (λb' sh' e'=> ?_) (λe'=> ?_) rfl
     . rw [aB,hφ] at e';simp only [LS.at.injEq] at e';obtain ⟨rfl,rfl,_⟩:=e';rw [hu] at bc;rcases kg bc with ⟨g1,g2,g3⟩|⟨b2,cap2,cs2,e2,fss2,g1,g2,g3,g4,g5,g6,g7,g8,g9⟩
       . rw[g2] at hbm;cases hbm
       simp only[Value.slice.injEq,Option.some.injEq,Addr.mk.injEq] at g1;obtain ⟨⟨rfl,_⟩,_,rfl⟩:=g1;exact ⟨_,cap,rfl,g5,.inr ⟨by rw[Nat.zero_mul],cs2,e2,g3,by rw[g4,Nat.zero_add]⟩⟩
     rw[aB,hφ] at e';cases e'
   exact R1.tm t'
 rw[cN] at hl';split at hl'
 . simp only[ao,b7,Prod.mk.injEq] at hl';obtain ⟨rfl,rfl⟩:=hl';exact ⟨_,by rw[aw,if_pos rfl],cm _⟩
 exact R1.tl t' l' af hl'
theorem hk.untold {n:St}(t l v:Nat)(sh:Sh)(ys:lA)(u:Value)(ht:look ts t= .val u)(hlk:ah m l=some (.sub v sh ys u))(h:hk P n ((t,.ref l v 0 ys.length)::ts) ((l,.row v sh true ys)::m)):hk P n ts m:=λB N _ _ _ a w hR=>
 have ⟨_,_,hR2⟩:=hR.untold ht hlk
 h B N _ _ _ a w hR2
theorem zO {P:pR}{f:fI}{l v j:Nat}{xs:lA}{m:Mem}{k:AV->Mem->Prop}
 (hf:∀us:lV,us.length=xs.length->(∀u,u∈us->u.oneCell'=true)->Fn P f [.bo ⟨xs.length,true⟩ [.agg (us.map .val)] 0 0] false (· = .agg ((us.map .val).take j)))
 (hlk:ah m l=some (.box v xs)) (hk:k (.agg (xs.take j)) m):Fi P f [.ptr l v 0 0] m k:=by
 refine ⟨.agg (xs.take j),[],hk,λm' hm' _ k' hk' B N φ fp S ts a w vs hRS hsz hv hvl=>?_⟩;have Wj:ah m' l=some (.box v xs):=by rw[←hlk];exact hm' l ⟨.ptr l v 0 0,by simp,v,by simp[ao]⟩
 obtain ⟨b,cs,e,sh,hφ,hfs,aD,hlen,hlf,hrv⟩:=hRS.aG l _ Wj;have hbw:b<w.heap.size:=(uq1.1 aD).1;let us:=cs.toList.take xs.length;have hul:us.length=xs.length:=by simp[us];omega
 have hug:∀i,i<xs.length->us.getD i uD=cs.toList.getD i uD:=λi hi=>by simp only[us];rw[uq6,List.getElem?_take_of_lt hi,←uq6]
 have hu1:∀u,u∈us->u.oneCell'=true:=by
  intro u hu;obtain ⟨i,hi,rfl⟩:=bk hu;have hi':i<xs.length:=by omega
  have:=(hrv i hi').aW (hlf i hi');rw[←hug i hi',uq6,uq7 hi] at this;exact this
 have hF:=hf us hul hu1;have h0:=j0 (hv 0 (by simp)) b sh hφ;rw[Nat.zero_mul] at h0;have h0:vs.toList.getD 0 uD= .pointer (some ⟨b,0,none⟩):=h0;refine ⟨hF.1,(hF.2 w (oC w) vs (λb hb=>hb) (hRS.jx.mono (λ_ _=>rfl) λb hb=>(hRS.sB b hb).1) (by simpa using hsz) λi hi=>?_).mono ?_⟩
 . simp only [List.length_singleton] at hi;obtain rfl:i=0:=by omega
   show Rd w (oC w) (.bo ⟨xs.length,true⟩ [.agg (us.map .val)] 0 0) _;rw[h0]
   have:=Rd.bo (w:=w) (S:=oC w) ⟨xs.length,true⟩ [.agg (us.map .val)] 0 0 b 0 cs e.1 (ou e cs.size) hbw aD (by simpa using hlen) (λi hi=>by
    simp only[List.length_singleton] at hi;obtain rfl:i=0:=by omega
    exact ⟨rfl,by simpa using hul⟩) (λi hi=>by
    simp only[List.length_singleton] at hi;obtain rfl:i=0:=by omega
    show Rd w (oC w) (.agg (us.map .val)) _;rw[cV];refine .agg _ _ (by simp[us]) (λi hi=>by simp[leaf]) λi hi=>?_;simp only[List.length_map] at hi;rw[List.getElem_map];have e1:(List.take xs.length (List.drop (0+0*xs.length) cs.toList)).toArray.toList.getD i uD=us[i]:=by have h5:=hug i (by omega);rw[uq6,uq7 hi] at h5;simp only[Option.getD_some] at h5;rw[h5];show (List.take xs.length (List.drop (0+0*xs.length) cs.toList)).getD i uD=_;rw[Nat.zero_mul,Nat.add_zero,List.drop_zero,uq6,List.getElem?_take_of_lt (by omega),←uq6]
    rw[e1]
    exact .val _ (hu1 _ (uq9 hi)))
   simpa using this
 rintro e' w' ⟨r,u,rfl,rfl,hg,j9⟩;simp only[iN,uq4,if_false] at j9;have hR2:=hRS.grown hg;refine ⟨u,rfl,φ,fp,S,ts,m',_,hR2,?_,λl' af hl'=>?_,rfl,hk'⟩
 . obtain ⟨cs2,rfl,q1,q2,q3⟩:=oJ j9;obtain ⟨b2,cs3,e3,sh3,g1,g2,g3,g4,g5,g6⟩:=hR2.aG l _ Wj;rw [hφ] at g1;simp only [LS.at.injEq] at g1;obtain ⟨rfl,rfl,_⟩:=g1;obtain rfl:=dc (((hg.same b hbw).trans aD).symm.trans g3);have hln:((us.map AV.val).take j).length=(xs.take j).length:=(by simp [hul]);refine .agg _ _ (q1.trans hln) (λi hi=> ?_) λi hi=> ?_
   . rw[dL];exact g5 i _
   have hi2:i<xs.length:=(by simp at hi;omega);have:=q3 i (by rw[hln];exact hi);rw[dL,List.getElem_map] at this;have e1:cs2.toList.getD i uD=us[i]'(by omega):=by have h5:=aS (RV.rd (φ:=φ) _ _ this);exact h5.1.symm
   rw[e1,dL];have:=g6 i hi2;rw[←hug i hi2,uq6,uq7 (by omega)] at this;exact this
 simp only[ao] at hl';obtain ⟨i,hi,hl2⟩:=bM hl';rw[dL] at hl2;exact hRS.bl l v xs Wj l' af (bq (by simp at hi;omega) hl2)
theorem vu {P:pR}{f:fI}{d l v:Nat}(j:Nat){xs trs:lA}{m:Mem}{k:AV->Mem->Prop}{q:Pack k}
 (hf:∀us:lV,us.length=xs.length->(∀u,u∈us->u.oneCell'=true)->Fn P f [.bo ⟨xs.length,true⟩ [.agg (us.map .val)] 0 0] false (· = .agg ((us.map .val).take j)))
 (hlk:ah m l=some (.box v xs)) (hk:k (.agg (xs.take j)) m):ie P f d [.ptr l v 0 0] trs m k q:=.inr (.inr (zO hf hlk hk))
theorem yz {P:pR}{m:Mem}{f:fI}{d l af i n:Nat}{sh:Sh}{xs xt:lA}{zs:lV}{k:AV->Mem->Prop}{q:Pack k}(hE:Enters P f)(hlk:ah m l=some (.row af sh true xs))(hn:n=xs.length)(hi:i<xs.length)(hsz:0<sh.sz)
 (hzl:zs.length=sh.sz) (hz1:∀u,u∈zs->u.oneCell'=true)
 (hc:∀(w:World) (b cap:Nat) (cs:aV) (e:El),w.heap[b]? =some (eA cs e)->cs.size=cap*sh.sz->cap<=9223372036854775807->xs.length<=cap->(∀v,v∈(cs.toList.drop ((i+1)*sh.sz)).take ((xs.length-(i+1))*sh.sz)->v.oneCell'=true)→
   Calls P f #[.slice (some ⟨b,0,none⟩) xs.length cap,.int .i64 i,.int .i64 ((i+1:Nat):Int)] w λe' w'=>e'= .returned (.slice (some ⟨b,0,none⟩) (xs.length-1) cap)∧
    ∃q,w'=((w.drewN q).setCells b (i*sh.sz) ((cs.toList.drop ((i+1)*sh.sz)).take ((xs.length-(i+1))*sh.sz))).setCells b ((xs.length-1)*sh.sz) zs)
 (hk:k (.ref l (af+1) 0 (xs.length-1)) ((l,.row (af+1) sh true (xs.eraseIdx i))::m)):ie P f d [.ref l af 0 n,.val (.int .i64 i),.val (.int .i64 ((i:Int)+1))] xt m k q:=by
 refine .inr (.inr ⟨.ref l (af+1) 0 (xs.length-1),[(l,.row (af+1) sh true (xs.eraseIdx i))],hk,λm' hm' _ k' hk'=>?_⟩);refine FD hE ?_ hn hi hsz hzl hz1 hc hk';rw[←hlk];exact hm' l ⟨.ref l af 0 n,by simp,af,by simp[ao]⟩
inductive d_ (m:Mem):AV->List AV->Option Nat->Prop
 |ref (l v:Nat) (ys:List AV) (h:ah m l=some (.row v ⟨1,false⟩ true ys)):d_ m (.ref l v 0 ys.length) ys (some l)
 |nil:d_ m (.val (.slice none 0 0)) [] none
def vv (Lb La Lc va vk:Nat)(cs ya yc:lA):Mem:=[(Lb,.box 0 (cs++[.ref La va 0 ya.length,.ref Lc vk 0 yc.length])),(La,.row va ⟨1,false⟩ true ya),(Lc,.row vk ⟨1,false⟩ true yc)]
def Nw (φ:Nat->LS)(o:Option Nat)(v:Nat):LS:=match o with
 |some l=>(match φ l with| .at b sh _=>.at b sh v|_=>.nil v)
 |none=>.nil v
def W2 (fp:nN)(o:Option Nat):lN:=match o with|some l=>fp l|none=>[]
def VD (Lb La Lc va vk:Nat)(φ:Nat->LS)(oa oc:Option Nat)(l:Nat):LS:=if l=Lb then φ Lb else if l=La then Nw φ oa va else if l=Lc then Nw φ oc vk else .dead
def Rp (Lb La Lc:Nat)(fp:nN)(oa oc:Option Nat)(l:Nat):lN:=if l=Lb then fp Lb else if l=La then W2 fp oa else if l=Lc then W2 fp oc else []
theorem d_.br (h:RS B N φ fp S ts m a w){x:AV}{ys:lA}{o:Option Nat}(hx:d_ m x ys o){φ':Nat->LS}{L v':Nat}(hφ:φ' L=Nw φ o v'):BR w S φ' L (W2 fp o) (.row v' ⟨1,false⟩ true ys):=by
 cases hx with
 |nil=>exact .inl ⟨hφ,rfl,rfl⟩
 |ref l v _ hl=>
  rcases h.aG l _ hl with ⟨h1,h2,h3⟩|⟨b,cap,h1,h2,h3,h4⟩
  . refine .inl ⟨?_,h2,h3⟩;rw[hφ];unfold Nw;simp only[h1]
  refine .inr ⟨b,cap,?_,h2,h3,h4⟩;rw[hφ];unfold Nw;simp only[h1]
theorem d_.rv (h:RS B N φ fp S ts m a w){x:AV}{ys:lA}{o:Option Nat}(hx:d_ m x ys o){φ':Nat->LS}{L v':Nat}(hφ:φ' L=Nw φ o v'){u:Value}(hu:RV w S φ x u):RV w S φ' (.ref L v' 0 ys.length) u:=by
 cases hx with
 |nil=>
  obtain ⟨rfl,_⟩:=aS hu;refine .ref _ _ _ _ _ (λb sh e=>?_) (λ_=>⟨rfl,none,rfl⟩) rfl;rw[hφ] at e;cases e
 |ref l v _ hl=>
  have hr:=dt hu;rcases h.aG l _ hl with ⟨h1,h2,h3⟩|⟨b,cap,h1,h2,h3,h4⟩
  . have e0:φ' L= .nil v':=(by rw[hφ];unfold Nw;simp only[h1]);refine .ref _ _ _ _ _ (λb sh e=>?_) (λ_=>hr.2 h1) (hu.aW trivial);rw[e0] at e;cases e
  have e0:φ' L= .at b ⟨1,false⟩ v':=by rw[hφ];unfold Nw;simp only[h1]
  refine .ref _ _ _ _ _ (λb' sh' e=>?_) (λe=>?_) (hu.aW trivial)
  . rw[e0] at e;simp only[LS.at.injEq] at e;obtain ⟨rfl,rfl,_⟩:=e;exact hr.1 b ⟨1,false⟩ h1
  rw[e0] at e;cases e
theorem RS.Yi {w0:World}{DT:Nat->LS}{fp0:nN}{S0:nP}{Lb La Lc va vk:Nat}{cs0 ya0 yc0 cs ya yc:lA}{xa xc:AV}{oa oc:Option Nat}
 (h:RS (mO w0 DT fp0 S0 (vv Lb La Lc va vk cs0 ya0 yc0)) N φ fp S ts m a w) (hd:Lb≠La/\Lb≠Lc/\La≠Lc) (hb:ah m Lb=some (.box 0 (cs++[xa,xc]))) (hcs:aq cs=[]) (ha:d_ m xa ya oa) (hc:d_ m xc yc oc)
 (hne:∀l,oa=some l->oc≠some l) (hla:∀l,oa=some l->l=La\/l<bE) (hlc:∀l,oc=some l->l=Lc\/l<bE):
 RS (mO w0 DT fp0 S0 (vv Lb La Lc va vk cs0 ya0 yc0)) 0 (VD Lb La Lc (va+1) (vk+1) φ oa oc) (Rp Lb La Lc fp oa oc) S [] (vv Lb La Lc (va+1) (vk+1) cs ya yc) {tmps:= #[],defers:=[]} w:=by
 obtain ⟨d1,d2,d3⟩:=hd;have eb:VD Lb La Lc (va+1) (vk+1) φ oa oc Lb=φ Lb:=if_pos rfl;have ea:VD Lb La Lc (va+1) (vk+1) φ oa oc La=Nw φ oa (va+1):=by unfold VD;rw[if_neg (Ne.symm d1),if_pos rfl]
 have ec:VD Lb La Lc (va+1) (vk+1) φ oa oc Lc=Nw φ oc (vk+1):=by unfold VD;rw[if_neg (Ne.symm d2),if_neg (Ne.symm d3),if_pos rfl]
 have fb:Rp Lb La Lc fp oa oc Lb=fp Lb:=if_pos rfl;have fa:Rp Lb La Lc fp oa oc La=W2 fp oa:=by unfold Rp;rw[if_neg (Ne.symm d1),if_pos rfl]
 have fc:Rp Lb La Lc fp oa oc Lc=W2 fp oc:=by unfold Rp;rw[if_neg (Ne.symm d2),if_neg (Ne.symm d3),if_pos rfl]
 have lk:∀l,ah (vv Lb La Lc (va+1) (vk+1) cs ya yc) l=if Lb=l then some (.box 0 (cs++[.ref La (va+1) 0 ya.length,.ref Lc (vk+1) 0 yc.length])) else if La=l then some (.row (va+1) ⟨1,false⟩ true ya) else if Lc=l then some (.row (vk+1) ⟨1,false⟩ true yc) else none:=λl=>rfl
 have own:∀l b,b∈Rp Lb La Lc fp oa oc l->∃l0,b∈fp l0/\((l=Lb/\l0=Lb)\/(l=La/\oa=some l0)\/(l=Lc/\oc=some l0)):=by
  intro l b hbm;unfold Rp at hbm;split at hbm
  . exact ⟨Lb,hbm,.inl ⟨‹_›,rfl⟩⟩
  split at hbm
  . cases oa with
    |none=>cases hbm
    |some l0=>exact ⟨l0,hbm,.inr (.inl ⟨‹_›,rfl⟩)⟩
  split at hbm
  . cases oc with
    |none=>cases hbm
    |some l0=>exact ⟨l0,hbm,.inr (.inr ⟨‹_›,rfl⟩)⟩
  cases hbm
 have hab:∀l,oa=some l->l≠Lb:=by
  rintro l rfl rfl;cases ha with
  |ref _ v _ hl=>rw[hb] at hl;cases hl
 have hcb:∀l,oc=some l->l≠Lb:=by
  rintro l rfl rfl;cases hc with
  |ref _ v _ hl=>rw[hb] at hl;cases hl
 have hbr:=h.aG Lb _ hb;obtain ⟨b,cz,e,sh,g1,g2,g3,g4,g5,g6⟩:=hbr;have leafs:∀x,x∈cs->leaf x:=λx hx=>by
  obtain ⟨i,hi,rfl⟩:=bk hx;have:=g5 i (by simp;omega)
  rwa [List.getElem_append_left hi] at this
 refine {tm:=λt=>by rw [look_nil];exact .rd _ _ (.undef _),tl:=λt l af hl=>(by rw [look_nil] at hl;cases hl),ca:=λl hl=> ?_,aG:=λl k hk=> ?_,bl:=λl v xs hk l' af hl=> ?_,
         hZ:=λl=>?_,fL:=λl l' b h1 h2=>?_,bS:=λl b hb=>?_,cu:=λl b hbm=>?_,
         sB:=h.sB,base:=h.base,out:=h.out,ky:=h.ky,kn:=λl af hl hk=>?_,fix:=λl af hl hk=>?_,size:=h.size,defers:=rfl,ly:=rfl,jx:=h.jx}
 . rw [lk] at hl;split at hl
   . cases hl
   split at hl
   . cases hl
   split at hl
   . cases hl
   rename_i n1 n2 n3;exact ⟨by unfold VD;rw[if_neg (Ne.symm n1),if_neg (Ne.symm n2),if_neg (Ne.symm n3)],by unfold Rp;rw[if_neg (Ne.symm n1),if_neg (Ne.symm n2),if_neg (Ne.symm n3)]⟩
 . rw [lk] at hk;split at hk
   . rename_i el;subst el;cases hk;rw [fb];refine ⟨b,cz,e,sh,eb.trans g1,g2,g3,by simpa using g4,λi hi=> ?_,λi hi=> ?_⟩
     . have hm:(cs++[AV.ref La (va+1) 0 ya.length,AV.ref Lc (vk+1) 0 yc.length])[i]∈cs++[AV.ref La (va+1) 0 ya.length,AV.ref Lc (vk+1) 0 yc.length]:=uq9 hi;rcases List.mem_append.1 hm with q|q
       . exact leafs _ q
       simp only[List.mem_cons,List.not_mem_nil,or_false] at q;rcases q with q|q<;>(rw[q];trivial)
     simp only[List.length_append,List.length_cons,List.length_nil] at hi;by_cases hi1:i<cs.length
     . have q:=g6 i (by simp;omega);rw[List.getElem_append_left hi1] at q ⊢;exact .rd _ _ (cR q (bO hcs i hi1))
     by_cases hi2:i=cs.length
     . subst hi2;have q:=g6 cs.length (by simp);rw[List.getElem_append_right (cm _)] at q ⊢;simp only[Nat.sub_self,List.getElem_cons_zero] at q ⊢;exact ha.rv h ea q
     obtain rfl:i=cs.length+1:=by omega
     have q:=g6 (cs.length+1) (by simp);rw[List.getElem_append_right (by omega)] at q ⊢;simp only[Nat.add_sub_cancel_left,List.getElem_cons_succ,List.getElem_cons_zero] at q ⊢;exact hc.rv h ec q
   split at hk
   . rename_i el;subst el;cases hk;rw[fa];exact ha.br h ea
   split at hk
   . rename_i el;subst el;cases hk;rw[fc];exact hc.br h ec
   cases hk
 . rw [lk] at hk;split at hk
   . cases hk;obtain ⟨i,hi,hl⟩:=bM hl;have hm:=uq9 hi;rcases List.mem_append.1 hm with q|q
     . obtain ⟨j,hj,ej⟩:=bk q;rw[←ej,bO hcs j hj] at hl;cases hl
     simp only[List.mem_cons,List.not_mem_nil,or_false] at q;rcases q with q|q
     . rw[q] at hl;simp only[ao,b7,Prod.mk.injEq] at hl;obtain ⟨rfl,rfl⟩:=hl;exact ⟨_,by rw[lk,if_neg d1,if_pos rfl],cm _⟩
     rw[q] at hl;simp only[ao,b7,Prod.mk.injEq] at hl;obtain ⟨rfl,rfl⟩:=hl;exact ⟨_,by rw[lk,if_neg d2,if_neg d3,if_pos rfl],cm _⟩
   split at hk
   . cases hk
   split at hk<;>cases hk
 . unfold Rp;split
   . exact h.hZ _
   split
   . cases oa with
     |none=>exact eR
     |some l0=>exact h.hZ _
   split
   . cases oc with
     |none=>exact eR
     |some l0=>exact h.hZ _
   exact eR
 . obtain ⟨p,hp,q⟩:=own l b h1;obtain ⟨p',hp',q'⟩:=own l' b h2;obtain rfl:=h.fL p p' b hp hp';rcases q with ⟨rfl,rfl⟩|⟨rfl,e1⟩|⟨rfl,e1⟩<;>rcases q' with ⟨rfl,e2⟩|⟨rfl,e2⟩|⟨rfl,e2⟩
   . rfl
   . exact absurd rfl (hab _ e2)
   . exact absurd rfl (hcb _ e2)
   . exact absurd e2 (hab _ e1)
   . rfl
   . exact absurd e2 (hne _ e1)
   . exact absurd e2 (hcb _ e1)
   . exact absurd e1 (hne _ e2)
   rfl
 . obtain ⟨p,hp,q⟩:=own l b hb;exact h.bS p b hp
 . obtain ⟨p,hp,q⟩:=own l b hbm;obtain ⟨r1,r2⟩:=h.cu p b hp;refine ⟨r1,r2.imp id ?_⟩;rintro ⟨l',k1,k2,k3⟩;have same:p=l->∃l',(mO w0 DT fp0 S0 (vv Lb La Lc va vk cs0 ya0 yc0)).io l' b/\bE<=l/\(l'=l\/ah (mO w0 DT fp0 S0 (vv Lb La Lc va vk cs0 ya0 yc0)).m0 l=none):=by
    rintro rfl;exact ⟨l',k1,k2,k3⟩
   rcases q with ⟨rfl,rfl⟩|⟨rfl,e1⟩|⟨rfl,e1⟩
   . exact same rfl
   . rcases hla p e1 with e2|e2
     . exact same e2
     omega
   rcases hlc p e1 with e2|e2
   . exact same e2
   omega
 . obtain ⟨k,h01,h2⟩:=hk;have h1:ah (vv Lb La Lc va vk cs0 ya0 yc0) l=some k:=h01;clear h01;unfold Go.Vc.known;rw [lk];have lk0:ah (vv Lb La Lc va vk cs0 ya0 yc0) l=if Lb=l then some (.box 0 (cs0++[.ref La va 0 ya0.length,.ref Lc vk 0 yc0.length])) else if La=l then some (.row va ⟨1,false⟩ true ya0) else if Lc=l then some (.row vk ⟨1,false⟩ true yc0) else none:=rfl
   rw[lk0] at h1;split at h1
   . rename_i el;rw[if_pos el];cases h1;exact ⟨_,rfl,h2⟩
   rename_i el;rw[if_neg el];split at h1
   . rename_i el2;rw[if_pos el2];cases h1;exact ⟨_,rfl,Nat.le_succ_of_le h2⟩
   rename_i el2;rw[if_neg el2];split at h1
   . rename_i el3;rw[if_pos el3];cases h1;exact ⟨_,rfl,Nat.le_succ_of_le h2⟩
   cases h1
 have hk0:=hk;obtain ⟨k,h01,h2⟩:=hk;have h1:ah (vv Lb La Lc va vk cs0 ya0 yc0) l=some k:=h01;clear h01;have lk0:ah (vv Lb La Lc va vk cs0 ya0 yc0) l=if Lb=l then some (.box 0 (cs0++[.ref La va 0 ya0.length,.ref Lc vk 0 yc0.length])) else if La=l then some (.row va ⟨1,false⟩ true ya0) else if Lc=l then some (.row vk ⟨1,false⟩ true yc0) else none:=rfl
 have re_le:∀(o:Option Nat) (v:Nat) (x:LS),af<v->LS.le (Nw φ o v) x af:=by
  intro o v x hv;unfold Nw;split
  . split
    . exact LS.kJ _ _ _ _ _ hv
    exact ⟨λ_ _ e=>(by cases e),λe=>by cases e;exact absurd hv (eZ _)⟩
  exact ⟨λ_ _ e=>(by cases e),λe=>by cases e;exact absurd hv (eZ _)⟩
 rw[lk0] at h1;split at h1
 . rename_i el;subst el;rw[eb];exact h.fix _ af hl hk0
 split at h1
 . rename_i el2;subst el2;cases h1;rw[ea];exact re_le _ _ _ (Nat.lt_succ_of_le h2)
 split at h1
 . rename_i el3;subst el3;cases h1;rw[ec];exact re_le _ _ _ (Nat.lt_succ_of_le h2)
 cases h1
end
def W4 (Lb La Lc:Nat)(post:lA->lA->lA->Prop)(m:Mem):Prop:=
 ∃cs xa xc ya yc oa oc,ah m Lb=some (.box 0 (cs++[xa,xc]))/\aq cs=[]/\d_ m xa ya oa/\d_ m xc yc oc/\(∀l,oa=some l->oc≠some l)/\(∀l,oa=some l->l=La\/l<bE)/\(∀l,oc=some l->l=Lc\/l<bE)/\post cs ya yc
def VE (P:pR)(rs:List ResultVar)(Lb La Lc:Nat)(post:AV->lA->lA->lA->Prop):de
 | .normal=>λts m=>aP P (λys=>aq ys=[]/\W4 Lb La Lc (post (bG ys)) m) rs ts m []
 | .ret=>λts m=>aP P (λys=>aq ys=[]/\W4 Lb La Lc (post (bG ys)) m) rs ts m []
 |_=>λ_ _=>False
theorem PN (P:pR)(rs:List ResultVar)(Lb La Lc:Nat)(post:AV->lA->lA->lA->Prop)(ts:Env)(m:Mem):
 VE P rs Lb La Lc post .ret ts m=aP P (λys=>aq ys=[]/\W4 Lb La Lc (post (bG ys)) m) rs ts m []:=rfl
attribute [go_sem] PN
theorem kX (Lb La Lc va vk:Nat)(cs ya yc:lA):keys (vv Lb La Lc va vk cs ya yc)=[Lb,La,Lc]:=rfl
theorem fN.S8 {P:pR} {f:fI} {fn:Func} {c:Code} {Lb La Lc va vk:Nat} {cs0 ya0 yc0:List AV} {xs:List AV} {post:AV→List AV→List AV→List AV→Prop} (hf:P.funcs[f]? =some fn) (hn:(fn.name== "runtime.NumGoroutine")=false) (hb:fn.body=some c)
 (hok:codeOk fn.ntmps c=true) (ha:xs.length<=fn.ntmps) (hd:Lb≠La/\Lb≠Lc/\La≠Lc) (hv:vc P fn.ntmps c (bH 0 xs) (vv Lb La Lc va vk cs0 ya0 yc0) (VE P fn.results.toList Lb La Lc post)):
 fN P f (vv Lb La Lc va vk cs0 ya0 yc0) xs (λr m'=>∃cs ya yc,aq cs=[]/\m'=vv Lb La Lc (va+1) (vk+1) cs ya yc/\post r cs ya yc):=by
 refine ⟨⟨fn,c,hf,hn,hb⟩,λw φ fp S vs hsz hR0=> ?_⟩;refine calls_of_wp hf hb ?_;have hRS:RS (mO w φ fp S (vv Lb La Lc va vk cs0 ya0 yc0)) fn.ntmps φ fp S (bH 0 xs) (vv Lb La Lc va vk cs0 ya0 yc0) {tmps:=vs++uq2 (fn.ntmps-vs.size) undef,defers:=[]} w:=by
  refine {hR0 with tm:=λt=>?_,defers:=rfl,ly:=by simp;omega};by_cases h:t<xs.length
  . have h1:=hR0.tm t;have:vs.getD t uD=(vs++uq2 (fn.ntmps-vs.size) undef).getD t uD:=by
     have h2:t<vs.size:=(by omega);simp only[uq0];rw[Array.getElem?_append_left h2]
    rw[←this];exact h1
  rw[bI];have:(if 0<=t then (xs[t-0]?).getD AV.undef else .undef)= .undef:=by simp[List.getElem?_eq_none (show xs.length<=t by omega)]
  rw[this];exact .rd _ _ (.undef _)
 have fW:∀a' w',ia (mO w φ fp S (vv Lb La Lc va vk cs0 ya0 yc0)) fn.ntmps (λts m=>aP P (λys=>aq ys=[]/\W4 Lb La Lc (post (bG ys)) m) fn.results.toList ts m []) a' w'→
  a'.defers=[]/\∃v,(results fn a'.tmps).run P w'= .ok v w'/\∃x v' m' φ' fp' S',Ending.returned v= .returned v'/\(∃cs ya yc,aq cs=[]/\m'=vv Lb La Lc (va+1) (vk+1) cs ya yc/\post x cs ya yc)/\RV w' S' φ' x v'/\ao x=[]/\Wu (keys (vv Lb La Lc va vk cs0 ya0 yc0)) m'∧
   RS (mO w φ fp S (vv Lb La Lc va vk cs0 ya0 yc0)) 0 φ' fp' S' [] m' {tmps:= #[],defers:=[]} w':=by
  rintro a' w' ⟨φ',fp',S',ts',m',h',hk⟩;refine ⟨h'.defers,?_⟩;obtain ⟨ys,us,⟨gZ,hD⟩,h2,h3,h4⟩:=cI h' fn.results.toList [] [] ⟨rfl,λi hi=>absurd hi (da _)⟩ (λi hi=>absurd hi (da _)) hk;obtain ⟨h3a,h3b⟩:=h3;simp only[List.nil_append] at h3a h3b;obtain ⟨cs,xa,xc,ya,yc,oa,oc,q1,q2,q3,q4,q5,q6,q7,q8⟩:=hD;refine ⟨if h:us.toArray.size=1 then us.toArray[0] else .tuple us.toArray,?_,bG ys,_,_,_,_,S',rfl,⟨cs,ya,yc,q2,rfl,q8⟩,?_,ij gZ,?_,h'.Yi hd q1 q2 q3 q4 q5 q6 q7⟩
  . have hm:results fn a'.tmps=(do let vs ←fn.results.mapM (cW a'.tmps);pure (if h:vs.size=1 then vs[0] else .tuple vs)):=by
     unfold results;congr 1
    rw[hm,Sem.run_bind,Array.mapM_eq_mapM_toList];have:(e8 <$> fn.results.toList.mapM (cW a'.tmps):Sem aV).run P w'= .ok us.toArray w':=by rw[map_eq_pure_bind,Sem.run_bind,h2];rfl
    rw[this];rfl
  . refine (mJ h3a h3b).mono (λ_ _=>rfl) (λ_ h=>h) (λl b sh af cs e _ hb=>⟨cs,e,hb,rfl⟩) λl af hl=>?_;rw[ij gZ] at hl;cases hl
  refine tL ?_;rw [kX];refine ⟨⟨by simp,?_⟩,⟨by simp,trivial⟩,⟨by simp,trivial⟩,trivial⟩;have hin:∀(r:List (Nat × Nat)),(∀p,p∈r->p.1∈[Lb,La,Lc])->ck [Lb,La,Lc] r:=by
   intro r;induction r with
   |nil=>intro _;trivial
   |cons p r ih=>intro hp;exact ⟨hp p (by simp),ih λp' h'=>hp p' (by simp[h'])⟩
  refine hin _ λp hp=>?_;obtain ⟨i,hi,hp⟩:=bM hp;have hm:=uq9 hi;rcases List.mem_append.1 hm with q|q
  . obtain ⟨j,hj,ej⟩:=bk q;rw[←ej,bO q2 j hj] at hp;cases hp
  simp only[List.mem_cons,List.not_mem_nil,or_false] at q;rcases q with q|q
  . rw[q] at hp;simp only[ao,b7] at hp;subst hp;simp
  rw[q] at hp;simp only[ao,b7] at hp;subst hp;simp
 refine wp_mono (cB c _ _ _ hok hv _ _ _ _ _ _ hRS) ?_;intro e a' w' hq;cases e with
 |normal=>exact fW a' w' hq
 |ret=>exact fW a' w' hq
 |_=>obtain ⟨_,_,_,_,_,_,hh⟩:=hq;exact hh.elim
theorem fN.tS {P:pR}{f:fI}{fn:Func}{c:Code}{Lb La Lc va vk:Nat}{cs0 ya0 yc0:lA}{xs:lA}{post:AV->lA->lA->lA->Prop}(N:Nat)(rs:List ResultVar)(hf:P.funcs[f]? =some fn)(hN:fn.ntmps=N:=by exact rfl)(hr:fn.results.toList=rs:=by exact rfl)
 (hn:(fn.name== "runtime.NumGoroutine")=false:=by exact rfl) (hb:fn.body=some c:=by exact rfl) (hok:codeOk N c=true:=by exact rfl) (ha:xs.length≤N:=by exact oT rfl) (hd:Lb≠La∧Lb≠Lc∧La≠Lc) (hv:vc P N c (bH 0 xs) (vv Lb La Lc va vk cs0 ya0 yc0) (VE P rs Lb La Lc post)):
 fN P f (vv Lb La Lc va vk cs0 ya0 yc0) xs (λr m'=>∃cs ya yc,aq cs=[]/\m'=vv Lb La Lc (va+1) (vk+1) cs ya yc/\post r cs ya yc):=by
 subst hN;subst hr;exact fN.S8 hf hn hb hok ha hd hv
theorem qX.VF {w w':World}{S:nP}{sh:Sh}{zs:lA}{v:Value}{fs:lN}(h:Own w' (λ_=>False) (.arr sh zs) v fs)(hnd:fs.Nodup)(hfr:∀b,b∈fs->w.heap.size<=b):qX w w' S sh zs v:=by
 have hlt:=h.lt;cases h with
 |rd _ _ h=>
  cases h with
  |nil _ a=>exact .inl ⟨rfl,a,rfl⟩
  |arr _ _ b _ _ _ _ _ hS=>exact hS.elim
 |arr _ _ b cap cs e fss hb hc hl hm hf hs hv=>
  refine .inr ⟨b,cap,rfl,hfr b (cM ..),?_⟩;have hn:=(List.nodup_cons.1 hnd).1;have:=Own.arr (w:=w') (S:=λc=>S c\/(w.heap.size<=c/\c<w'.heap.size/\c≠b)) sh zs b cap cs e (bw zs.length []) hb hc hl hm hf (by simp) λi hi=>by rw[show (bw zs.length ([]:lN)).getD i []=[] by simp[uq6,hi]];refine .rd _ _ ((hv i hi).mm (λ_ h=>h.elim) λc hc=>?_);have hm2:c∈fss.flatten:=aK (by omega) hc;exact .inr ⟨hfr c (dE _ hm2),hlt c (dE _ hm2),λe=>hn (e▸hm2)⟩
  have e0:(bw zs.length ([]:lN)).flatten=[]:=List.flatten_eq_nil_iff.2 λl hl=>(List.mem_replicate.1 hl).2;rw[e0] at this;exact this
theorem Da {P:pR}{f:fI}{xs trs:lA}{sh:Sh}{zs:lA}{m:Mem}(h0:0<sh.sz)(h:Fn P f trs true (· = .arr sh zs))(hx:dI m (· =trs) [] xs)(l:Nat)(hio:l<bE){k:AV->Mem->Prop}
 (hk:k (.ref l (az m l) 0 zs.length) ((l,.row (az m l) sh false zs)::m)):hU P f xs m k:=by
 intro B N φ fp S ts a w vs hR hsz hxv hxl;obtain ⟨ys,rfl,hrd⟩:=tz (Q:=(· =trs)) hR xs vs.toList [] [] ⟨by simpa using hsz,hxv⟩ ⟨rfl,λi hi=>absurd hi (da _)⟩ hx;rw[List.nil_append] at hrd;refine ⟨h.1,(h.2 w (oC w) vs (λb hb=>hb) (hR.jx.mono (λ_ _=>rfl) λb hb=>(hR.sB b hb).1) (by simpa using hrd.1) hrd.2).mono ?_⟩;rintro e w' ⟨r,v,rfl,rfl,hg,Uu⟩;simp only[iN,if_true] at Uu;obtain ⟨fs,bc,hnd,hfr⟩:=Uu;have j9:qX w w' S sh zs v:=qX.VF bc hnd hfr;refine ⟨v,rfl,?_⟩;have hR1:=hR.grown hg;have fK:∀af,known m l af->af<az m l:=by rintro af ⟨k0,h1,h2⟩;unfold az;rw[h1];exact Nat.lt_succ_of_le h2
 have hkn:known ((l,.row (az m l) sh false zs)::m) l (az m l):=⟨_,by rw[aw,if_pos rfl],cm _⟩;rcases j9 with ⟨rfl,ad,rfl⟩|⟨b,cap,rfl,hb,bc⟩
 . have hR2:=hR1.next l (.nil (az m l)) [] S (.row (az m l) sh false []) (cm _) (a7.refl _) (jI.refl _) (λ_ _ _=>rfl) (λc hc=>⟨hc,rfl⟩) (λc h1 h2=>absurd h1 h2) (λl b sh af cs e _ hb=>⟨cs,e,hb,rfl⟩)
    (λ_ _ _ _=>rfl) (λaf hk=>⟨λ_ _ e=>(by cases e),λe=>by cases e;exact absurd (fK _ hk) (eZ _)⟩) (λaf hk=>Nat.le_of_lt (fK af hk)) (.inl ⟨by rw[aB],rfl,rfl⟩) (λ_ _ hk=>by cases hk) eR (λc hc=>by cases hc)
   exact ⟨_,_,_,_,_,_,hR2,.ref l _ 0 0 _ (λb sh e=>by rw[aB] at e;cases e) (λ_=>⟨rfl,ad,rfl⟩) rfl,λl' af hl'=>by simp only[ao,b7,Prod.mk.injEq] at hl';obtain ⟨rfl,rfl⟩:=hl';exact hkn,rfl,hk⟩
 obtain ⟨cs,e,fss,hgf,aD,hcs,b_,hmx,hff,hfl,hvv⟩:=gI bc (by simp);have hbw:b<w'.heap.size:=(uq1.1 aD).1
 have hR2:=hR1.next l (.at b sh (az m l)) [b] (λc=>S c\/(w.heap.size<=c/\c<w'.heap.size/\c≠b)) (.row (az m l) sh false zs) (cm _) (a7.refl _) (jI.refl _) (λ_ _ _=>rfl) (λc hc=>⟨.inl hc,rfl⟩)
  (λc h1 h2=>by
    rcases h1 with h1|⟨h1,h3,h4⟩
    . exact absurd h1 h2
    exact ⟨h3,.inl (fu hR.size h1),λl' _ hc=>by have:=(hR.cu l' c hc).1;omega⟩)
  (λl b sh af cs e _ hb=>⟨cs,e,hb,rfl⟩) (λ_ _ _ _=>rfl)
  (λaf hk=>LS.kJ _ _ _ _ _ (fK af hk)) (λaf hk=>Nat.le_of_lt (fK af hk))
  (.inr ⟨b,cap,by rw[aB],by simp,λ_=>rfl,bc⟩) (λ_ _ hk=>by cases hk) (by simp)
  (λc hc=>by
    rw[b7] at hc;subst hc;refine ⟨?_,λl' _ hc=>?_,hbw,.inl (fu hR.size hb)⟩
    . rintro (h1|⟨_,_,h1⟩)
      . have:=(hR.sB c h1).1;omega
      exact h1 rfl
    have:=(hR.cu l' c hc).1;omega)
 refine ⟨_,_,_,_,_,_,hR2,.ref l _ 0 _ _ (λb' sh' e'=>?_) (λe'=>by rw[aB] at e';cases e') rfl,λl' af hl'=>by simp only[ao,b7,Prod.mk.injEq] at hl';obtain ⟨rfl,rfl⟩:=hl';exact hkn,rfl,hk⟩;rw[aB] at e';cases e';exact ⟨_,cap,rfl,b_,.inr ⟨by rw[Nat.zero_mul],cs,e,aD,by rw[hcs,Nat.zero_add]⟩⟩
theorem vw {P:pR}{f:fI}{d:Nat}{xs ts:lA}{m:Mem}{k:AV->Mem->Prop}{q:Pack k}{sh:Sh}{zs:lA}(h:Fn P f ts true (· = .arr sh zs))(h0:0<sh.sz)(hx:dI m (· =ts) [] xs)(hio:1000*(d+1)<bE)
 (hk:k (.ref (1000*(d+1)) (az m (1000*(d+1))) 0 zs.length) ((1000*(d+1),.row (az m (1000*(d+1))) sh false zs)::m)):ie P f d xs ts m k q:=by
 refine .inr (.inr ⟨.ref (1000*(d+1)) (az m (1000*(d+1))) 0 zs.length,[(1000*(d+1),.row (az m (1000*(d+1))) sh false zs)],hk,λm' hm hm' k' hk'=>?_⟩);have e:az m' (1000*(d+1))=az m (1000*(d+1)):=by unfold az;rw[hm' (1000*(d+1)) (by show ah [_] _≠none;rw[aw,if_pos rfl];exact λe=>by cases e)]
 refine Da h0 h ?_ _ hio (by rw[e];exact hk');rw[qV (· =ts) xs [] λx hx l hl=>hm l ⟨x,hx,hl⟩];exact hx
section
variable {P:pR} {m:Mem}
theorem yA {f:fI}{d l v:Nat}{xs rest trs cells:lA}{k:AV->Mem->Prop}{r:AV}{q:Pack k}(hf:Fn P f (.bo ⟨xs.length,true⟩ [.agg cells] 0 0::rest) true (· =r))(hlk:ah m l=some (.box v xs))
 (hx:cS m (· =cells) [] xs) (hl:aq rest=[]) (hk:mB (1000*(d+1)) r m k):eo P f d (.ptr l v 0 0::rest) trs m k q:=by
 refine .inl λB N φ fp S ts a w vs hRS hsz hv hvl=>⟨hf.1,?_⟩;have hS:∀b,S b->oC w b:=λb hb=>(hRS.sB b hb).1;obtain ⟨b,cs,e,sh,hφ,hfs,aD,hlen,hlf,hrv⟩:=hRS.aG l _ hlk;have r0:Rd w (oC w) (.bo ⟨xs.length,true⟩ [.agg cells] 0 0) (vs.toList.getD 0 uD):=by
  have h0:=j0 (hv 0 (by simp)) b sh hφ;rw[Nat.zero_mul] at h0;have h0:vs.toList.getD 0 uD= .pointer (some ⟨b,0,none⟩):=h0;rw[h0]
  obtain ⟨ys,rfl,g1,g2⟩:=oQ (Q:=(· =cells)) hRS xs (cs.toList.take xs.length) [] [] ⟨by simp;omega,λi hi=>by
   have:=hrv i hi;have e1:(cs.toList.take xs.length).getD i uD=cs.toList.getD i uD:=by rw[uq6,List.getElem?_take_of_lt hi,←uq6]
   rw[e1];exact this⟩ ⟨rfl,λi hi=>absurd hi (da _)⟩ hx
  rw[List.nil_append] at g1 g2;have hyl:ys.length=xs.length:=by rw[←g1];simp;omega
  have:=Rd.bo (w:=w) (S:=oC w) ⟨xs.length,true⟩ [.agg ys] 0 0 b 0 cs e.1 (ou e cs.size) ?_ aD (by simpa using hlen) (λi hi=>?_) (λi hi=>?_)
  . simpa using this
  . exact (uq1.1 aD).1
  . simp only [List.length_singleton] at hi;obtain rfl:i=0:=by omega
    exact ⟨rfl,hyl⟩
  simp only[List.length_singleton] at hi;obtain rfl:i=0:=by omega
  show Rd w (oC w) (.agg ys) _;rw[cV];refine .agg ys _ (by simp;omega) (λi hi=>(g2 i hi).2) λi hi=>?_;have:=(g2 i hi).1;simpa using this
 refine (hf.2 w (oC w) vs (λb hb=>hb) (hRS.jx.mono (λ_ _=>rfl) λb hb=>(hRS.sB b hb).1) (by simpa using hsz) λi hi=>?_).mono ?_
 . cases i with
   |zero=>exact r0
   |succ i=>
    have hi':i+1<(AV.ptr l v 0 0::rest).length:=(by simpa using hi);exact (cR (hv (i+1) hi') (bO hl i (by simpa using hi))).mono (λ_ _=>rfl) hS
 rintro e w' ⟨r',v,rfl,rfl,hg,j9⟩;simp only[iN,if_true] at j9;obtain ⟨fs,bc,hnd,hfr⟩:=j9;have hR2:=hRS.grown hg;obtain ⟨φ',fp',y,m',g1,g2,g3,g4⟩:=CN hR2 bc hnd (λb hb=>⟨fu hRS.size (hfr b hb),λhs=>by have:=(hRS.sB b hs).1;have:=hfr b hb;omega,λl hl=>by have:=(hRS.cu l b hl).1;have:=hfr b hb;omega⟩) _ hk;exact ⟨v,rfl,φ',fp',S,ts,m',y,g1.rs,g3,g4,rfl,g2⟩
end
abbrev eI (n:Int):AV:=.val (.int .i64 n)
abbrev eB (b:Bool):AV:=.val (.bool b)
abbrev aM (xs:lI):AV:=.arr ⟨1,false⟩ (xs.map eI)
theorem dA {α:Type}(p:α->Bool)(xs:List α)(i:Nat)(h:i<xs.length):(xs.take (i+1)).all p=((xs.take i).all p&&p xs[i]):=by rw[List.take_succ_eq_append_getElem h,List.all_append];simp
theorem gQ {α:Type}{p:α->Bool}{xs:List α}{i:Nat}(h:i<xs.length)(hp:p xs[i]=false):xs.all p=false:=by rw[List.all_eq_false];exact ⟨xs[i],uq9 h,by simp[hp]⟩
def fill {α β:Type}(f:α->β)(z:β)(xs:List α)(i:Nat):List β:=(xs.take i).map f++bw (xs.length-i) z
theorem nB {α β:Type}(f:α->β)(xs:List α):(xs.map f).take xs.length=xs.map f:=by rw[←List.map_take,di]
attribute [go_sem] nB
theorem aE {i n:Nat}(h:i<n):decide ((i:Int)<(n:Int))=true:=dT (by omega)
theorem aA (n:Nat):decide ((n:Int)<(n:Int))=false:=dF (by omega)
theorem get_some {α:Type}{xs:List α}{i:Nat}(h:i<xs.length):xs[i]? =some xs[i]:=uq7 h
theorem FR {α:Type}{f:α->AV}(xs:List α)(h:∀x,cg (f x)=true):bm (xs.map f)=true:=by
 induction xs with
 |nil=>rfl
 |cons x r ih=>rw[List.map_cons,mZ,h,ih];rfl
theorem Yj {α:Type}(z:α):bw 0 z=[]:=rfl
theorem Yk {α:Type}(z:α):bw 1 z=[z]:=rfl
theorem Yl {α:Type}(z:α):bw 2 z=[z,z]:=rfl
theorem Ym {α:Type}(z:α):bw 3 z=[z,z,z]:=rfl
theorem Yn {α:Type}(z:α):bw 4 z=[z,z,z,z]:=rfl
theorem Yo {α:Type}(z:α):bw 5 z=[z,z,z,z,z]:=rfl
theorem Yp {α:Type}(z:α):bw 6 z=[z,z,z,z,z,z]:=rfl
theorem Yq {α:Type}(z:α):bw 7 z=[z,z,z,z,z,z,z]:=rfl
theorem Yr {α:Type}(z:α):bw 8 z=[z,z,z,z,z,z,z,z]:=rfl
theorem Ys {α:Type}(z:α):bw 9 z=[z,z,z,z,z,z,z,z,z]:=rfl
theorem W5 {α:Type}(z:α):bw 11 z=[z,z,z,z,z,z,z,z,z,z,z]:=rfl
attribute [go_sem] FR List.take_take Nat.min_self List.map_take List.append_nil List.length_append List.length_take Yj Yk Yl Ym Yn Yo Yp Yq Yr Ys W5
theorem VG:bE=1000000000:=rfl
attribute [go_sem] ne_eq not_false_eq_true VG decide_true decide_false Bool.not_true Bool.not_false bne_self_eq_false
attribute [go_sem] List.length_set
theorem PO {α:Type}[DecidableEq α]{xs ys:List α}{i:Nat}(hi:i<xs.length)(hy:i<ys.length)(h:xs[i]≠ys[i]):decide (xs=ys)=false:=
 dF λe=>h (by subst e;rfl)
theorem IA {α:Type}{xs ys:List α}{i:Nat}(hi:i<xs.length)(hy:i<ys.length)(hI:xs.take i=ys.take i)(h:xs[i]=ys[i]):xs.take (i+1)=ys.take (i+1):=by rw[List.take_succ_eq_append_getElem hi,List.take_succ_eq_append_getElem hy,hI,h]
open Go.Proofs
theorem Zx:aL pG 2=some ⟨false,1,8,.val (.int .i64 0),[],0,.int .i64⟩:=by kernel_rfl
theorem Zy:aL pG 3=some ⟨false,1,8,.val (.int .i64 0),[],0,.int .i64⟩:=by kernel_rfl
theorem Zz:aL pG 4=some ⟨false,1,1,.val (.bool false),[],0,.bool⟩:=by kernel_rfl
theorem ZA:aL pG 5=some ⟨false,1,1,.val (.int .u8 0),[],0,.int .u8⟩:=by kernel_rfl
theorem ZB:aL pG 9=some ⟨false,1,16,.val (.string ⟨#[]⟩),[],0,.string⟩:=by kernel_rfl
theorem Yt:aL pG 21=some ⟨false,1,4,.val (.int .i32 0),[],0,.int .i32⟩:=by kernel_rfl
theorem Yu:aL pG 23=some ⟨true,5,40,.agg [.val (.int .i64 0),.val (.int .i64 0),.val (.int .i64 0),.val (.int .i64 0),.val (.int .i64 0)],[(0,1,false),(1,1,false),(2,1,false),(3,1,false),(4,1,false)],0,.struct⟩:=by kernel_rfl
theorem Yv:aL pG 24=some ⟨false,1,24,.val (.slice none 0 0),[],58,.slice⟩:=by kernel_rfl
theorem Yw:aL pG 26=some ⟨true,7,88,.agg [.val (.int .i64 0),.val (.int .i64 0),.val (.int .i64 0),.val (.int .i64 0),.val (.int .i64 0),.val (.slice none 0 0),.val (.slice none 0 0)],[(0,5,true),(5,1,false),(6,1,false)],0,.struct⟩:=by kernel_rfl
theorem Yx:aL pG 32=some ⟨false,1,24,.val (.slice none 0 0),[],5,.slice⟩:=by kernel_rfl
theorem Yy:aL pG 35=some ⟨false,1,24,.val (.slice none 0 0),[],9,.slice⟩:=by kernel_rfl
theorem Yz:aL pG 58=some ⟨false,1,24,.val (.slice none 0 0),[],2,.slice⟩:=by kernel_rfl
theorem YB:aL pG 63=some ⟨false,1,8,.val .nilFunc,[],0,.other⟩:=by kernel_rfl
theorem YC:aL pG 65=some ⟨false,1,8,.val .nilFunc,[],0,.other⟩:=by kernel_rfl
theorem YD:aL pG 77=some ⟨true,3,40,.agg [.val (.slice none 0 0),.val (.int .i64 0),.val (.int .i64 0)],[(0,1,false),(1,1,false),(2,1,false)],0,.struct⟩:=by kernel_rfl
theorem YE:aL pG 87=some ⟨false,1,8,.val .nilFunc,[],0,.other⟩:=by kernel_rfl
theorem YF:aL pG 99=some ⟨false,1,16,.val .nilIface,[],0,.iface⟩:=by kernel_rfl
theorem W6:aL pG 110=some ⟨true,6,64,.agg [.val (.int .i64 0),.val (.int .i64 0),.val (.int .i64 0),.val (.int .i64 0),.val (.int .i64 0),.val (.slice none 0 0)],[(0,5,true),(5,1,false)],0,.struct⟩:=by kernel_rfl
theorem W7:aL pG 116=some ⟨false,1,24,.val (.slice none 0 0),[],121,.slice⟩:=by kernel_rfl
theorem W8:aL pG 121=some ⟨true,1,24,.agg [.val (.slice none 0 0)],[(0,1,false)],0,.struct⟩:=by kernel_rfl
theorem W9:aL pG 164=some ⟨false,1,24,.val (.slice none 0 0),[],24,.slice⟩:=by kernel_rfl
theorem W_:aL pG 183=some ⟨true,11,120,.agg [.val (.int .i64 0),.val (.int .i64 0),.val (.int .i64 0),.val (.int .i64 0),.val (.int .i64 0),.val (.slice none 0 0),.val (.int .i64 0),.val (.int .i64 0),.val (.int .i64 0),.val (.bool false),.val (.slice none 0 0)],[(0,6,true),(6,1,false),(7,1,false),(8,1,false),(9,1,false),(10,1,false)],0,.struct⟩:=by kernel_rfl
theorem Xa:aL pG 200=some ⟨false,1,8,.val (.pointer none),[],0,.other⟩:=by kernel_rfl
theorem Xb:aL pG 204=some ⟨true,10,96,.agg [.val (.int .i64 0),.val (.int .i64 0),.val (.int .i64 0),.val (.int .i64 0),.val (.int .i64 0),.val (.slice none 0 0),.val (.int .i64 0),.val (.int .i64 0),.val (.bool false),.val .nilFunc],[(0,6,true),(6,1,false),(7,1,false),(8,1,false),(9,1,false)],0,.struct⟩:=by kernel_rfl
theorem Xc:aL pG 216=some ⟨false,1,8,.val .nilFunc,[],0,.other⟩:=by kernel_rfl
theorem Xd:aL pG 239=some ⟨false,1,8,.val .nilFunc,[],0,.other⟩:=by kernel_rfl
attribute [go_sem] Zx Zy Zz ZA ZB
attribute [go_sem] Yt Yu Yv Yw Yx Yy
attribute [go_sem] Yz
attribute [go_sem] YB YC YD
attribute [go_sem] YE YF
attribute [go_sem] W6 W7
attribute [go_sem] W8
attribute [go_sem] W9
attribute [go_sem] W_
attribute [go_sem] Xa Xb Xc
attribute [go_sem] Xd
open Go.Lib
abbrev eS (bs:lU):AV:=.val (.string ⟨bs.toArray⟩)
abbrev nC (xs:List lU):AV:=.arr ⟨1,false⟩ (xs.map eS)
theorem Mm (a b:lU):(⟨a.toArray⟩:ByteArray)++⟨b.toArray⟩=⟨(a++b).toArray⟩:=by apply ByteArray.ext;rw[ByteArray.data_append];simp
theorem pZ (a:lU):(⟨a.toArray⟩:ByteArray).size=a.length:=by show a.toArray.size=_;simp
theorem nD (a:lU):(⟨a.toArray⟩:ByteArray).data.toList=a:=rfl
theorem S9 (a:lU):(⟨a.toArray⟩:ByteArray).toList=a:=by rw[ByteArray.toList_eq]
theorem nE (a:lU)(i j:Nat):(⟨a.toArray⟩:ByteArray).extract i j=⟨((a.take j).drop i).toArray⟩:=by apply ByteArray.ext;rw[ByteArray.data_extract];simp;exact List.drop_take.symm
theorem p5 (u:Nat):∀c∈decDigits u,48<=c.toNat/\c.toNat<=57:=by
 induction u using Nat.strongRecOn with
 |_ u ih=>
  have one:∀k,k<10->48<=(UInt8.ofNat (48+k)).toNat/\(UInt8.ofNat (48+k)).toNat<=57:=by intro k hk;rw[UInt8.toNat_ofNat_of_lt' (by show 48+k<256;omega)];omega
  by_cases h:u<10
  . rw[decDigits,dif_pos h];intro c hc;rw[b7] at hc;subst hc;exact one u h
  rw[decDigits,dif_neg h];intro c hc;rcases List.mem_append.1 hc with hc|hc
  . exact ih (u / 10) (by omega) c hc
  rw[b7] at hc;subst hc;exact one (u%10) (by omega)
def jQ (acc:Nat)(l:lU):Nat:=l.foldl (λa c=>a*10+(c.toNat-48)) acc
theorem yB (acc:Nat):jQ acc []=acc:=rfl
theorem mQ (acc:Nat)(c:UInt8)(r:lU):jQ acc (c::r)=jQ (acc*10+(c.toNat-48)) r:=by simp only[jQ,List.foldl_cons]
theorem FT (acc:Nat)(a b:lU):jQ acc (a++b)=jQ (jQ acc a) b:=List.foldl_append
theorem Kc:∀(l:lU) (acc:Nat),acc<=jQ acc l
 | [],acc=>cm _
 |c::r,acc=>by rw[mQ];have:=Kc r (acc*10+(c.toNat-48));omega
theorem sP:∀(l:lU) (acc:Nat),(∀c∈l,48<=c.toNat/\c.toNat<=57)->jQ acc l+1<=(acc+1)*10^l.length
 | [],acc,_=>by simp[yB]
 |c::r,acc,h=>by rw[mQ,List.length_cons,Nat.pow_succ];have h1:=h c (cM ..);refine fu (sP r _ λx hx=>h x (dE _ hx)) ?_;rw[Nat.mul_comm (10^r.length) 10,←Nat.mul_assoc];exact Nat.mul_le_mul_right _ (by omega)
theorem PQ (u:Nat):∀acc,jQ acc (decDigits u)=acc*10^nDigits u+u:=by
 induction u using Nat.strongRecOn with
 |_ u ih=>
  intro acc;have one:∀k,k<10->(UInt8.ofNat (48+k)).toNat-48=k:=by intro k hk;rw[UInt8.toNat_ofNat_of_lt' (by show 48+k<256;omega)];omega
  by_cases h:u<10
  . rw[decDigits,dif_pos h,nDigits_small h,mQ,yB,one u h]
  rw[decDigits,dif_neg h,nDigits_big h,FT,ih (u / 10) (by omega),mQ,yB,one (u%10) (by omega),Nat.pow_succ,Nat.add_mul,Nat.mul_assoc];omega
theorem tT (u:Nat):jQ 0 (decDigits u)=u:=by rw[PQ];simp
theorem PS (u:Nat):decDigits u≠[]:=by intro h;have:=decDigits_length u;rw[h] at this;have:=nDigits_pos u;simp at*;omega
theorem PT (u:Nat):itoa (u:Int)=decDigits u:=by unfold itoa;rw[if_neg (by omega)];simp
theorem fh {n:Int}(h:0<=n):itoa n=decDigits n.toNat:=by unfold itoa;rw[if_neg (by omega)]
theorem BU (M:Nat)(hM:M<=18446744073709551615):∀(l:lU) (acc:Nat),(∀c∈l,48<=c.toNat/\c.toNat<=57)->jQ acc l<=M->parseUintM M acc l= .ok (jQ acc l)
 | [],acc,_,_=>rfl
 |c::r,acc,hd,hv=>by have h1:=hd c (cM ..);rw[mQ] at hv ⊢;have h2:=Kc r (acc*10+(c.toNat-48));rw[parseUintM,if_pos h1,if_neg (by omega),if_neg (by omega)];exact BU M hM r _ (λx hx=>hd x (dE _ hx)) hv
theorem yC (u:Nat)(h:u<=18446744073709551615):parseUintB 64 (decDigits u)= .ok u:=by rw[parseUintB,if_neg (PS u),BU _ (by decide) _ _ (p5 u) (by rw[tT];exact h),tT]
theorem qY {v:Int}(h:jy v):parseIntB 64 (itoa v)= .ok v:=by
 obtain ⟨h0,h1⟩:=h;have e63:(2:Nat)^(64-1)=9223372036854775808:=by decide
 by_cases hn:v<0
 . rw[itoa,if_pos hn];simp only[parseIntB];rw[if_pos (.inr rfl),yC _ (by omega)];simp only[e63];rw[if_neg (by rintro ⟨q,_⟩;exact q rfl),if_neg (by rintro ⟨_,q⟩;omega),if_pos (show (45:UInt8).toNat=45 from rfl)];congr 1;omega
 rw[itoa,if_neg hn];have hd:=p5 v.toNat;have hp:=yC v.toNat (by omega);cases hl:decDigits v.toNat with
 |nil=>exact absurd hl (PS _)
 |cons c r=>
  rw[hl] at hd hp;have hc:=hd c (cM ..);have n1:¬c.toNat=45:=by omega
  simp only[parseIntB,e63];rw[if_neg (by omega),hp];simp only[];rw[if_neg (by omega),if_neg (by omega),if_neg n1];congr 1;omega
theorem vx {l:lU}{v:Int}(h:parseIntB 64 l= .ok v):jy v:=by
 have e63:(2:Nat)^(64-1)=9223372036854775808:=by decide
 unfold parseIntB at h;cases l with
 |nil=>cases h
 |cons c r=>
  simp only[e63] at h;split at h
  . cases h
  . cases h
  split at h
  . cases h
  split at h
  . cases h
  rename_i n1 n2;injection h with h
  subst h;unfold jy;split<;>rename_i hc
  . have:¬9223372036854775808<_:=λq=>n2 ⟨hc,q⟩;omega
  have:¬9223372036854775808<=_:=λq=>n1 ⟨hc,q⟩;omega
theorem PU {m n:Int}(hm:jy m)(hn:jy n)(h:itoa m=itoa n):m=n:=by have h1:=qY hm;rw[h,qY hn] at h1;injection h1 with h1;exact h1.symm
def qh (s:lU):Int × Bool:=match parseIntB 64 s with
 | .ok v=>(v,decide (itoa v=s))
 | .range=>(intSat 64 s,false)
 |_=>(0,false)
theorem Mn {v:Int}(h:jy v):qh (itoa v)=(v,true):=by rw[qh,qY h];simp
theorem BW {s:lU}(h:(qh s).2=true):jy (qh s).1/\s=itoa (qh s).1:=by
 unfold qh at*;split at h
 . rename_i v hv;exact ⟨vx hv,(oT h).symm⟩
 . cases h
 cases h
def dW (s:lU):Int × Bool:=
 if s.length<1\/13<s.length then (0,false) else
  if (s.all λc=>decide (48<=c.toNat)&&decide (c.toNat<=57))=true then ((jQ 0 s:Nat),decide (decDigits (jQ 0 s)=s)) else (0,false)
theorem PV {u:Nat}(h:nDigits u<=13):dW (decDigits u)=((u:Int),true):=by
 have h1:=nDigits_pos u;rw[dW,if_neg (by rw[decDigits_length];omega),if_pos,tT]
 . simp
 rw[uq5];intro c hc;have:=p5 u c hc;simp;omega
theorem tU {s:lU}(h:(dW s).2=true):0<=(dW s).1/\s=itoa (dW s).1:=by
 unfold dW at*;split at h
 . cases h
 split at h
 . rename_i h1 h2;rw[if_neg h1,if_pos h2];exact ⟨Int.natCast_nonneg _,by rw[PT];exact (oT h).symm⟩
 cases h
def dm (c:UInt8):lU->List lU
 | []=>[[]]
 |b::l=>if b=c then []::dm c l else match dm c l with
  |h::t=>(b::h)::t
  | []=>[[b]]
theorem tV (c:UInt8):∀l,dm c l≠[]
 | []=>by simp[dm]
 |b::l=>by
  rw[dm];split
  . simp
  split<;>simp
theorem sQ {c:UInt8}:∀{l:lU},c∉l->dm c l=[l]
 | [],_=>rfl
 |b::l,h=>by rw[dm,if_neg (λe=>h (by rw[e];exact cM ..)),sQ (λq=>h (dE _ q))]
theorem Db {c:UInt8}:∀{a:lU} (r:lU),c∉a->dm c (a++c::r)=a::dm c r
 | [],r,_=>by rw[List.nil_append,dm,if_pos rfl]
 |b::l,r,h=>by rw[List.cons_append,dm,if_neg (λe=>h (by rw[e];exact cM ..)),Db r (λq=>h (dE _ q))]
theorem FU {c:UInt8}{l:lU}{i:Nat}(hi:l[i]? =some c)(hno:∀k,k<i->l[k]? ≠some c):dm c l=l.take i::dm c (l.drop (i+1)):=by
 obtain ⟨hlt,he⟩:=uq8.1 hi;have e:l=l.take i++c::l.drop (i+1):=by rw[←he,←List.drop_eq_getElem_cons hlt,List.take_append_drop]
 have hn:c∉l.take i:=by
  intro hc;obtain ⟨k,hk,hkc⟩:=bk hc;have hk2:k<i:=by simp at hk;omega
  refine hno k hk2 ?_;rw[dL] at hkc;rw[uq7 (by omega),hkc]
 conv=>lhs;rw[e]
 exact Db _ hn
theorem wu (l:lU)(c:UInt8):indexB ⟨l.toArray⟩ ⟨#[c]⟩=indexByte l c:=index_one l c
theorem IB (c:UInt8):∀(k:Nat) (l:lU),countB ⟨l.toArray⟩ ⟨#[c]⟩=k->splitB ⟨#[c]⟩ 0 k ⟨l.toArray⟩=(dm c l).map λa=>⟨a.toArray⟩:=by
 intro k;induction k with
 |zero=>
  intro l hl;rcases indexB_cases ⟨l.toArray⟩ ⟨#[c]⟩ with h|⟨i,h,_⟩
  . rw [splitB_miss _ _ _ _ h];rw [wu] at h;have hn:c∉l:=by
     intro hc;obtain ⟨j,hj,e⟩:=bk hc;exact indexByte_none h j (by rw[uq7 hj,e])
    rw[sQ hn];rfl
  rw[countB_hit _ _ i (show 1<=(⟨#[c]⟩:ByteArray).size from cm 1) h] at hl;omega
 |succ k ih=>
  intro l hl;rcases indexB_cases ⟨l.toArray⟩ ⟨#[c]⟩ with h|⟨i,h,_⟩
  . rw[countB_miss _ _ h] at hl;omega
  rw[countB_hit _ _ i (show 1<=(⟨#[c]⟩:ByteArray).size from cm 1) h] at hl;rw[splitB_hit _ _ _ _ _ h];rw[wu] at h;obtain ⟨h1,h2⟩:=indexByte_some h;have e1:(⟨#[c]⟩:ByteArray).size=1:=rfl;have e2:(⟨l.toArray⟩:ByteArray).extract (i+1) (⟨l.toArray⟩:ByteArray).size=⟨(l.drop (i+1)).toArray⟩:=by rw[pZ,nE,di]
  have e3:(⟨l.toArray⟩:ByteArray).extract 0 (i+0)=⟨(l.take i).toArray⟩:=by rw[nE];simp
  rw[e1,e2] at hl;rw[e1,e2,e3,ih _ (by omega),FU h1 h2];simp
theorem Mo (c:UInt8):∀(k:Nat) (l:lU),countB ⟨l.toArray⟩ ⟨#[c]⟩=k->(dm c l).length=k+1:=by
 intro k;induction k with
 |zero=>
  intro l hl;rcases indexB_cases ⟨l.toArray⟩ ⟨#[c]⟩ with h|⟨i,h,_⟩
  . rw [wu] at h;have hn:c∉l:=by
     intro hc;obtain ⟨j,hj,e⟩:=bk hc;exact indexByte_none h j (by rw[uq7 hj,e])
    rw[sQ hn];rfl
  rw[countB_hit _ _ i (show 1<=(⟨#[c]⟩:ByteArray).size from cm 1) h] at hl;omega
 |succ k ih=>
  intro l hl;rcases indexB_cases ⟨l.toArray⟩ ⟨#[c]⟩ with h|⟨i,h,_⟩
  . rw[countB_miss _ _ h] at hl;omega
  rw[countB_hit _ _ i (show 1<=(⟨#[c]⟩:ByteArray).size from cm 1) h] at hl;rw[wu] at h;obtain ⟨h1,h2⟩:=indexByte_some h;have e1:(⟨#[c]⟩:ByteArray).size=1:=rfl;have e2:(⟨l.toArray⟩:ByteArray).extract (i+1) (⟨l.toArray⟩:ByteArray).size=⟨(l.drop (i+1)).toArray⟩:=by rw[pZ,nE,di]
  rw[e1,e2] at hl;rw[FU h1 h2,List.length_cons,ih _ (by omega)]
def bA (a b c:Int):Bool:=decide (a≥b)&&decide (a<=c)
theorem bj (p:Nat->Bool)(i:Nat):(dh (i+1)).all p=((dh i).all p&&p i):=by rw[c_,List.all_append];simp
theorem b8 {p:Nat->Bool}{i n:Nat}(h:i<n)(hp:p i=false):(dh n).all p=false:=by rw[List.all_eq_false];exact ⟨i,cE.2 h,by simp[hp]⟩
def v7 (p:Nat->Bool)(i:Nat):lI:=List.map (λj:Nat=>(j:Int)) ((dh i).filter p)
theorem pd (p:Nat->Bool):v7 p 0=[]:=rfl
theorem mR (p:Nat->Bool)(i:Nat):v7 p (i+1)=if p i then v7 p i++[(i:Int)] else v7 p i:=by simp only[v7,c_,List.filter_append,List.map_append];rw[List.filter_cons];split<;>simp
theorem p6 (p:Nat->Bool)(i:Nat):(v7 p i).length<=i:=by rw[v7,List.length_map];exact fu (List.length_filter_le _ _) (by simp)
theorem sR {p:Nat->Bool}{i:Nat}{x:Int}(h:x∈v7 p i):∃j:Nat,j<i/\x=j/\p j=true:=by simp only[v7,ba,a_,cE] at h;obtain ⟨j,⟨h1,h2⟩,h3⟩:=h;exact ⟨j,h1,h3.symm,h2⟩
attribute [irreducible] v7
theorem pred_toNat {i:Nat}(h:0<i):((i:Int)-1).toNat=i-1:=by omega
theorem jE (a b c:Int):Fn pG 77 [eI a,eI b,eI c] true (· =eB (bA a b c)):=by
 refine Fn.au 15 [.tmp 6] func77 (hv:=?_);simp -dsimp -implicitDefEqProofs only[go_sem];repeat' (refine Br.intro (λ_=>?_) (λ_=>?_)<;>try simp -dsimp -implicitDefEqProofs only[go_sem, *])
 all_goals first
  |(simp_all [bA];done)
  |(simp_all [bA];omega)
theorem kY (a b c:Int):Fn pG 72 [eI a,eI b,eI c] true (· =eB (bA a b c)):=by
 refine Fn.au 15 [.tmp 6] func72 (hv:=?_);simp -dsimp -implicitDefEqProofs only[go_sem];repeat' (refine Br.intro (λ_=>?_) (λ_=>?_)<;>try simp -dsimp -implicitDefEqProofs only[go_sem, *])
 all_goals first
  |(simp_all [bA];done)
  |(simp_all [bA];omega)
theorem pe (xs:lI)(a b:Int)(h:xs.length<=9223372036854775807):Fn pG 73 [aM xs,eI a,eI b] true (· =eB (xs.all λx=>bA x a b)):=by
 refine Fn.au 21 [.tmp 6] func73 (hv:=?_);simp -dsimp -implicitDefEqProofs only[go_sem];refine aj.up [1,2,9,10] [18] [] xs.length (λi=>(xs.take i).all λx=>bA x a b) (λi=>[(11,eI i)]) (λ_=>[]) (by simp) ?_ rfl (λi hi hI=>?_) (λhI=>?_)
 . simp -dsimp -implicitDefEqProofs only[go_sem]
 . simp -dsimp -implicitDefEqProofs only [pz,↓reduceIte,j_];have no:bA xs[i] a b=false->(xs.all λx=>bA x a b)=false:=λh=>gQ (p:=λx=>bA x a b) hi h;have yes:bA xs[i] a b=true->((xs.take (i+1)).all λx=>bA x a b)=true:=λh=>by rw [dA _ _ _ hi,hI,h];rfl
   simp -dsimp -implicitDefEqProofs only[go_sem,aE hi,get_some hi]
   repeat' first
    |(refine Br.intro (λ_=>?_) (λ_=>?_)<;>try simp -dsimp -implicitDefEqProofs only[go_sem, *])
    |(with_reducible refine ai ?_ ?_)
    |(refine aa (kY _ _ _) ?_;try simp -dsimp -implicitDefEqProofs only[go_sem, *])
   all_goals first|omega|(refine ⟨?_,?_⟩<;>omega)|(simp;done)|(rw[no];clear no yes;simp_all [];done)|(refine yes ?_;clear no yes;simp_all [];done)|skip
 simp -dsimp -implicitDefEqProofs only[go_sem,aA];rw[di] at hI;rw[hI]
theorem mixed:Tryz.prog.follows .mixedOrders=true:=by kernel_rfl
theorem sS (xs:lI)(h:xs.length<=1048576):Fn pG 57 [aM xs] true (· =aM xs):=by
 refine Fn.au 6 [.tmp 2] func57 (hv:=?_);simp -dsimp -implicitDefEqProofs only[go_sem];with_reducible and_intros
 all_goals first|omega|(simp;done)|skip
theorem yD (xs:lI)(h:xs.length<=1048576):Fn pG 159 [aM xs] true (· =aM xs):=by
 refine Fn.au 8 [.tmp 2] func159 (hv:=?_);simp -dsimp -implicitDefEqProofs only[go_sem];intro c hc
 repeat' first
  |(refine Br.intro (λ_=>?_) (λ_=>?_)<;>try simp -dsimp -implicitDefEqProofs only[go_sem, *])
  |(with_reducible refine ai ?_ ?_)
 all_goals first|(simp_all;done)|omega|skip
abbrev aQ (xs:lL):AV:=.arr ⟨1,false⟩ (xs.map aM)
abbrev sT (l:lL):AV:=.agg [aQ l]
structure aJ where
 ae:Int
 ak:Int
 step:Int
 same:Int
 least:Int
 deriving DecidableEq
abbrev kj (m:aJ):AV:=.agg [eI m.ae,eI m.ak,eI m.step,eI m.same,eI m.least]
def aU (m:aJ):Bool:=bA m.ae 2 6&&bA m.ak 2 8&&bA m.step 1 (m.ak-1)&&bA m.same 1 m.ae&&bA m.least 1 (if m.ak<m.ae then m.ak else m.ae)
theorem aI {m:aJ}(h:aU m=true):(2<=m.ae/\m.ae<=6)/\2<=m.ak/\m.ak<=8:=by simp[aU,bA] at h;omega
theorem fC (m:aJ):Fn pG 51 [kj m] true (· =eB (aU m)):=by
 refine Fn.au 36 [.tmp 2] func51 (hv:=?_);simp -dsimp -implicitDefEqProofs only[go_sem]
 repeat' first
  |(refine Br.intro (λ_=>?_) (λ_=>?_)<;>try simp -dsimp -implicitDefEqProofs only[go_sem, *])
  |(with_reducible refine ai ?_ ?_)
  |(refine aa (jE _ _ _) ?_;try simp -dsimp -implicitDefEqProofs only[go_sem, *])
 all_goals first
  |(simp_all [aU,bA,jy];done)
  |(simp_all [aU,bA,jy];omega)
  |skip
theorem eV (m:aJ):Fn pG 48 [kj m] true (· =eB (aU m)):=by
 refine Fn.au 36 [.tmp 2] func48 (hv:=?_);simp -dsimp -implicitDefEqProofs only[go_sem]
 repeat' first
  |(refine Br.intro (λ_=>?_) (λ_=>?_)<;>try simp -dsimp -implicitDefEqProofs only[go_sem, *])
  |(with_reducible refine ai ?_ ?_)
  |(refine aa (kY _ _ _) ?_;try simp -dsimp -implicitDefEqProofs only[go_sem, *])
 all_goals first
  |(simp_all [aU,bA,jy];done)
  |(simp_all [aU,bA,jy];omega)
  |skip
def eW (xs:lI)(n:Int)(i:Nat):Bool:=decide (0<=xs.getD i 0)&&decide (xs.getD i 0<n)&&(i==0||decide (xs.getD (i-1) 0<xs.getD i 0))
def lQ (xs:lI)(n:Int):Bool:=(dh xs.length).all (eW xs n)
theorem IC (xs:lI)(n:Int)(h:xs.length<=9223372036854775807):Fn pG 196 [aM xs,eI n] true (· =eB (lQ xs n)):=by
 refine Fn.au 41 [.tmp 4] func196 (hv:=?_);simp -dsimp -implicitDefEqProofs only[go_sem];refine aj.up [0,1] [8] [] xs.length (λi=>(dh i).all (eW xs n)) (λi=>[(5,eI i)]) (λ_=>[]) (by simp) ?_ rfl (λi hi hI=>?_) (λhI=>?_)
 . simp -dsimp -implicitDefEqProofs only[go_sem]
 . have no:eW xs n i=false->lQ xs n=false:=b8 hi;have yes:eW xs n i=true->(dh (i+1)).all (eW xs n)=true:=λh=>by rw [bj,hI,h];rfl
   have hi':i-1<xs.length:=(by omega);have gi:=get_some hi;have li:=aE hi;by_cases hi0:0<i
   rotate_left
   . have g3:decide ((i:Int)>0)=false:=(by simp;omega);simp -dsimp -implicitDefEqProofs only [go_sem,aE hi]
     repeat' first
      |(refine Br.intro (λ_=>?_) (λ_=>?_)<;>try simp -dsimp -implicitDefEqProofs only[go_sem, *])
      |(with_reducible refine ai ?_ ?_)
      |(refine aj.draw mixed rfl ?_;simp -dsimp -implicitDefEqProofs only[go_sem,get_some hi])
     all_goals first
      |omega
      |(refine ⟨?_,?_⟩<;>omega)
      |(simp;done)
      |rfl
      |(rw[no];clear no yes;simp_all [eW];done)|(rw[no];clear no yes;simp_all [eW];omega)
      |(rw[←c_];refine yes ?_;clear no yes;simp_all [eW];done)
      |skip
   have g2:xs[((i:Int)-1).toNat]? =some xs[i-1]:=(by rw[pred_toNat hi0];exact get_some hi');have g3:decide ((i:Int)>0)=true:=(by simp;omega);simp -dsimp -implicitDefEqProofs only[go_sem,aE hi]
   repeat' first
    |(refine Br.intro (λ_=>?_) (λ_=>?_)<;>try simp -dsimp -implicitDefEqProofs only[go_sem, *])
    |(with_reducible refine ai ?_ ?_)
    |(refine aj.draw mixed rfl ?_;simp -dsimp -implicitDefEqProofs only[go_sem,get_some hi])
   all_goals first
    |omega
    |(refine ⟨?_,?_⟩<;>omega)
    |(simp;done)
    |rfl|(rw[no];clear no yes;simp_all [eW];omega)
    |(rw[←c_];refine yes ?_;clear no yes;simp_all [eW];done)
    |skip
 simp -dsimp -implicitDefEqProofs only[go_sem,aA];rw[lQ,hI]
theorem ID (xs:lI)(n:Int)(h:xs.length<=9223372036854775807):Fn pG 259 [aM xs,eI n] true (· =eB (lQ xs n)):=by
 refine Fn.au 35 [.tmp 4] func259 (hv:=?_);simp -dsimp -implicitDefEqProofs only[go_sem];refine aj.up [0,1,7,8] [] [] xs.length (λi=>(dh i).all (eW xs n)) (λi=>[(9,eI i)]) (λ_=>[]) (by simp) ?_ rfl (λi hi hI=>?_) (λhI=>?_)
 . simp -dsimp -implicitDefEqProofs only[go_sem]
 . have no:eW xs n i=false->lQ xs n=false:=b8 hi;have yes:eW xs n i=true->(dh (i+1)).all (eW xs n)=true:=λh=>by rw [bj,hI,h];rfl
   have hi':i-1<xs.length:=(by omega);have gi:=get_some hi;have li:=aE hi;by_cases hi0:0<i
   rotate_left
   . have g3:decide ((i:Int)>0)=false:=(by simp;omega);simp -dsimp -implicitDefEqProofs only [go_sem,aE hi,get_some hi]
     repeat' first
      |(refine Br.intro (λ_=>?_) (λ_=>?_)<;>try simp -dsimp -implicitDefEqProofs only[go_sem, *])
      |(with_reducible refine ai ?_ ?_)
     all_goals first
      |omega
      |(refine ⟨?_,?_⟩<;>omega)
      |(simp;done)
      |(rw[no];clear no yes;simp_all [eW];done)|(rw[no];clear no yes;simp_all [eW];omega)
      |(rw[←c_];refine yes ?_;clear no yes;simp_all [eW];done)
      |skip
   have g2:xs[((i:Int)-1).toNat]? =some xs[i-1]:=(by rw[pred_toNat hi0];exact get_some hi');have g3:decide ((i:Int)>0)=true:=(by simp;omega);simp -dsimp -implicitDefEqProofs only[go_sem,aE hi,get_some hi]
   repeat' first
    |(refine Br.intro (λ_=>?_) (λ_=>?_)<;>try simp -dsimp -implicitDefEqProofs only[go_sem, *])
    |(with_reducible refine ai ?_ ?_)
   all_goals first
    |omega
    |(refine ⟨?_,?_⟩<;>omega)
    |(simp;done)|(rw[no];clear no yes;simp_all [eW];omega)
    |(rw[←c_];refine yes ?_;clear no yes;simp_all [eW];done)
    |skip
 simp -dsimp -implicitDefEqProofs only[go_sem,aA];rw[lQ,hI]
def has (xs:lI)(x:Int):Bool:= !(xs.all λy=> !(y==x))
theorem FV (xs:lI)(x:Int)(h:xs.length<=1048576):Fn pG 134 [aM xs,eI x] true (· =eB (has xs x)):=by
 refine Fn.au 18 [.tmp 4] func134 (hv:=?_);simp -dsimp -implicitDefEqProofs only[go_sem];refine aj.up [0,1] [8] [] xs.length (λi=>(xs.take i).all (λy=> !(y==x))) (λi=>[(5,eI i)]) (λ_=>[]) (by simp) ?_ rfl (λi hi hI=>?_) (λhI=>?_)
 . simp -dsimp -implicitDefEqProofs only[go_sem]
 . simp -dsimp -implicitDefEqProofs only [pz,↓reduceIte,j_];have gi:=get_some hi;have li:=aE hi;have no:(!(xs[i]==x))=false->(xs.all λy=> !(y==x))=false:=λh=>by simp [gQ (p:=λy=> !(y==x)) hi h]
   have yes:(!(xs[i]==x))=true->((xs.take (i+1)).all (λy=> !(y==x)))=true:=λh=>by rw[dA _ _ _ hi,hI];simpa using h
   simp -dsimp -implicitDefEqProofs only[go_sem,li,gi]
   repeat' first
    |(refine Br.intro (λ_=>?_) (λ_=>?_)<;>try simp -dsimp -implicitDefEqProofs only[go_sem, *])
    |(with_reducible refine ai ?_ ?_)
   all_goals first
    |omega
    |(refine ⟨?_,?_⟩<;>omega)
    |(simp;done)
    |(rw[has,no (by rw[‹(xs[i]==x)=true›];rfl)];rfl)
    |skip
 simp -dsimp -implicitDefEqProofs only[go_sem,aA];rw[di] at hI;(simp_all [has];done)
theorem S_ (xs:lI)(x:Int)(h:xs.length<=1048576):Fn pG 240 [aM xs,eI x] true (λr=>∃n:Int,r=eI n/\decide (n≥0)=has xs x):=by
 refine Fn.cT 19 [.tmp 4] func240 (hv:=?_);simp -dsimp -implicitDefEqProofs only[go_sem];refine aj.up [0,1,7] [] [] xs.length (λi=>(xs.take i).all (λy=> !(y==x))) (λi=>[(8,eI i)]) (λ_=>[]) (by simp) ?_ rfl (λi hi hI=>?_) (λhI=>?_)
 . simp -dsimp -implicitDefEqProofs only[go_sem]
 . simp -dsimp -implicitDefEqProofs only [pz,↓reduceIte,j_];have no:(!(xs[i]==x))=false->has xs x=true:=λh=>by simp [has,gQ (p:=λy=> !(y==x)) hi h]
   have yes:(!(xs[i]==x))=true->((xs.take (i+1)).all (λy=> !(y==x)))=true:=λh=>by rw[dA _ _ _ hi,hI];simpa using h
   have gi:=get_some hi;simp -dsimp -implicitDefEqProofs only[go_sem,aE hi,get_some hi]
   repeat' first
    |(refine Br.intro (λ_=>?_) (λ_=>?_)<;>try simp -dsimp -implicitDefEqProofs only[go_sem, *])
    |(with_reducible refine ai ?_ ?_)
   all_goals first
    |omega
    |(refine ⟨?_,?_⟩<;>omega)
    |rfl
    |(refine ⟨_,rfl,?_⟩;rw [no];· simp
      clear no yes;simp_all)
    |(refine yes ?_;rw[BEq.comm,‹(x==xs[i])=false›];rfl)
    |skip
 simp -dsimp -implicitDefEqProofs only[go_sem,aA];rw[di] at hI;exact ⟨_,rfl,by rw[has,hI];rfl⟩
theorem qZ (xs:lI)(x:Int)(h:xs.length<=1048576):Fn pG 187 [aM xs,eI x] true (· =eB (has xs x)):=by refine Fn.au 9 [.tmp 4] func187 (hv:=?_);simp -dsimp -implicitDefEqProofs only[go_sem];refine qP (S_ xs x h) ?_;rintro _ ⟨n,rfl,hn⟩;simp -dsimp -implicitDefEqProofs only[go_sem];rw[←hn]
abbrev jR (m:aJ)(t:lL):AV:=.agg [eI m.ae,eI m.ak,eI m.step,eI m.same,eI m.least,aQ t]
def gA (n:Nat)(r:lI):Bool:=(r.length==n)&&decide (1<=r.length)&&decide (r.length<=12)&&r.all λx=>bA x 0 1
def iJ (t:lL):Bool:=decide (1<=t.length)&&decide (t.length<=10)&&t.all (gA (t.getD 0 []).length)
theorem Kd {t:lL}{i:Nat}(hi:i<t.length)(h:gA (t.getD 0 []).length t[i]=false):iJ t=false:=by rw[iJ,gQ hi h];simp
theorem mS {t:lL}(h:iJ t=true):1<=t.length/\t.length<=10/\1<=(t.getD 0 []).length/\(t.getD 0 []).length<=12/\∀i (hi:i<t.length),t[i].length=(t.getD 0 []).length:=by
 simp only[iJ,uq3,decide_eq_true_eq] at h;have hr:∀i (hi:i<t.length),gA (t.getD 0 []).length t[i]=true:=λi hi=>uq5.1 h.2 _ (uq9 hi);have h0:=hr 0 (by omega);have e:t.getD 0 []=t[0]'(by omega):=by simp[uq6,show 0<t.length by omega]
 simp only[gA,uq3,decide_eq_true_eq,beq_iff_eq] at h0 hr;rw[←e] at h0;exact ⟨h.1.1,h.1.2,h0.1.1.2,h0.1.2,λi hi=>(hr i hi).1.1.1⟩
theorem q_ (t:lL)(h:t.length<=1048576)(h2:∀x∈t,x.length<=1048576):Fn pG 49 [aQ t] true (· =eB (iJ t)):=by
 refine Fn.au 42 [.tmp 2] func49 (hv:=?_);simp -dsimp -implicitDefEqProofs only[go_sem];refine aj.up [0,5,6] [12,16,20,25,30] [] t.length (λi=>(t.take i).all (gA (t.getD 0 []).length)) (λi=>[(7,eI i)]) (λ_=>[]) (by simp) ?_ rfl (λi hi hI=>?_) (λhI=>?_)
 . simp -dsimp -implicitDefEqProofs only[go_sem]
 . have h00:0<t.length:=(by omega);have g0:=get_some h00;have gd:t.getD 0 []=t[0]:=(by simp [uq6,h00]);have hx:=h2 t[i] (uq9 hi);have hx0:=h2 t[0] (uq9 h00);have gi:=get_some hi;have li:=aE hi;have no:gA t[0].length t[i]=false->iJ t=false:=λh=>Kd hi (by rw [gd];exact h);have yes:gA t[0].length t[i]=true->(t.take (i+1)).all (gA (t.getD 0 []).length)=true:=λh=>by rw [dA _ _ _ hi,hI,gd,h];rfl
   clear gd;simp -dsimp -implicitDefEqProofs only[go_sem,li,gi,g0]
   repeat' first
    |(refine Br.intro (λ_=>?_) (λ_=>?_)<;>try simp -dsimp -implicitDefEqProofs only[go_sem, *])
    |(with_reducible refine ai ?_ ?_)
    |(refine aa (pe t[i] 0 1 (by omega)) ?_;try simp -dsimp -implicitDefEqProofs only[go_sem, *])
   all_goals first
    |omega
    |(refine ⟨?_,?_⟩<;>omega)
    |rfl
    |(rw[no];clear no yes;simp_all [gA];done)|(rw[no];clear no yes;simp_all [gA];omega)|(refine yes ?_;clear no yes;simp_all [gA];omega)
    |skip
 simp -dsimp -implicitDefEqProofs only[go_sem,aA];rw[di] at hI;repeat' (refine Br.intro (λ_=>?_) (λ_=>?_)<;>try simp -dsimp -implicitDefEqProofs only[go_sem, *])
 all_goals first
  |(rename_i hx
    have h3:1<=t.length:=(by have:=oT hx;omega);have h4:decide ((t.length:Int)<=10)=decide (t.length<=10):=(by rw[decide_eq_decide];omega)
    rw[iJ,hI,decide_eq_true h3,h4,Bool.true_and,Bool.and_true])
  |(rename_i hx
    have h3:¬1<=t.length:=(by have:=of_decide_eq_false hx;omega)
    rw[iJ,decide_eq_false h3];rfl)
  |skip
theorem ra (t:lL)(h:t.length<=1048576)(h2:∀x∈t,x.length<=1048576):Fn pG 53 [aQ t] true (· =eB (iJ t)):=by
 refine Fn.au 52 [.tmp 2] func53 (hv:=?_);simp -dsimp -implicitDefEqProofs only[go_sem]
 repeat' first
  |(refine Br.intro (λ_=>?_) (λ_=>?_)<;>try simp -dsimp -implicitDefEqProofs only[go_sem, *])
  |(refine aa (jE _ _ _) ?_;try simp -dsimp -implicitDefEqProofs only[go_sem, *])
 all_goals try ((simp_all [iJ,bA];omega))
 rename_i hl;refine aj.up [0] [11,19,23,30,31,39,50] [] t.length (λi=>(t.take i).all (gA (t.getD 0 []).length)) (λi=>[(3,eI i)]) (λ_=>[]) (by simp) ?_ rfl (λi hi hI=>?_) (λhI=>?_)
 . simp -dsimp -implicitDefEqProofs only[go_sem]
 . have h00:0<t.length:=(by omega);have g0:=get_some h00;have gd:t.getD 0 []=t[0]:=(by simp [uq6,h00]);have hx:=h2 t[i] (uq9 hi);have hx0:=h2 t[0] (uq9 h00);have gi:=get_some hi;have li:=aE hi;have no:gA t[0].length t[i]=false->iJ t=false:=λh=>Kd hi (by rw [gd];exact h);have yes:gA t[0].length t[i]=true->(t.take (i+1)).all (gA (t.getD 0 []).length)=true:=λh=>by rw [dA _ _ _ hi,hI,gd,h];rfl
   clear gd hI;simp -dsimp -implicitDefEqProofs only[go_sem,li]
   repeat' first
    |(refine Br.intro (λ_=>?_) (λ_=>?_)<;>try simp -dsimp -implicitDefEqProofs only[go_sem, *])
    |(with_reducible refine ai ?_ ?_)
    |(refine aj.draw mixed rfl ?_;try simp -dsimp -implicitDefEqProofs only[go_sem, *])
    |(refine an (jE _ _ _) ?_;try simp -dsimp -implicitDefEqProofs only[go_sem, *])
   all_goals try (first|omega|rfl|(rw[no];clear no yes;simp_all [gA,bA];omega))
   refine aj.up [0,3] [39,50] [] t[i].length (λj=>(t[i].take j).all (λx=>bA x 0 1)) (λj=>[(4,eI j)]) (λ_=>[]) (by simp) ?_ rfl (λj hj hJ=>?_) (λhJ=>?_)
   . simp -dsimp -implicitDefEqProofs only[go_sem]
   . have gj:=get_some hj;have lj:=aE hj;have no1:bA t[i][j] 0 1=false->iJ t=false:=λh=>no (by rw [gA,gQ (p:=λx=>bA x 0 1) hj h];simp);have yes1:bA t[i][j] 0 1=true->(t[i].take (j+1)).all (λx=>bA x 0 1)=true:=λh=>by rw [dA _ _ _ hj,hJ,h];rfl
     clear no yes;simp -dsimp -implicitDefEqProofs only[go_sem,gi,gj,lj]
     repeat' first
      |(refine Br.intro (λ_=>?_) (λ_=>?_)<;>try simp -dsimp -implicitDefEqProofs only[go_sem, *])
      |(with_reducible refine ai ?_ ?_)
      |(refine aa (jE _ _ _) ?_;try simp -dsimp -implicitDefEqProofs only[go_sem, *])
     all_goals first
      |omega
      |(refine ⟨?_,?_⟩<;>omega)
      |rfl
      |(rw[no1];clear no1 yes1;simp_all;done)
      |(refine yes1 ?_;clear no1 yes1;simp_all;done)
      |skip
   simp -dsimp -implicitDefEqProofs only[pz,↓reduceIte,j_];rw[di] at hJ;simp -dsimp -implicitDefEqProofs only[go_sem,gi,aA];with_reducible and_intros
   all_goals first
    |omega
    |(refine ⟨?_,?_⟩<;>omega)
    |rfl
    |(refine yes ?_;clear no yes;simp_all [gA,bA];omega)
    |skip
 simp -dsimp -implicitDefEqProofs only[go_sem,aA];rw[di] at hI;(simp_all [iJ,bA];omega)
def eK (t:lL)(k:Nat):Bool:=t.any λr=>r.getD k 0==1
def iC (t:lL):Bool:=(dh (t.getD 0 []).length).all (eK t)
def eX (m:aJ)(t:lL):Bool:=aU m&&iJ t&&iC t
theorem iV {m:aJ}{t:lL}(h:eX m t=true):1<=t.length/\t.length<=10/\1<=(t.getD 0 []).length/\(t.getD 0 []).length<=12/\∀i (hi:i<t.length),t[i].length=(t.getD 0 []).length:=by simp only[eX,uq3] at h;exact mS h.1.2
theorem yE {α:Type}(p:α->Bool)(xs:List α)(i:Nat)(h:i<xs.length):(xs.take (i+1)).any p=((xs.take i).any p||p xs[i]):=by rw[List.take_succ_eq_append_getElem h,List.any_append];simp
def jo (t:lL)(k:Nat):lI:=v7 (λi=>(t.getD i []).getD k 0==1) t.length
theorem IE (t:lL)(k:Nat):decide (((jo t k).length:Int)=0)= !eK t k:=by
 have key:∀n,n<=t.length->((v7 (λi=>(t.getD i []).getD k 0==1) n)=[]↔(t.take n).any (λr=>r.getD k 0==1)=false):=by
  intro n;induction n with
  |zero=>intro _;simp[pd]
  |succ n ih=>
   intro hn;have h1:=ih (by omega);have e:t.getD n []=t[n]:=(by simp[uq6,show n<t.length by omega]);rw[mR,yE _ _ _ (show n<t.length by omega),Bool.or_eq_false_iff,←h1,e];cases hc:(t[n].getD k 0==1)<;>simp
 have h1:=key t.length (cm _);rw[di] at h1;have h2:(((jo t k).length:Int)=0)↔jo t k=[]:=by rw[←List.length_eq_zero_iff];omega
 cases hd:eK t k with
 |true=>
  rw[Bool.not_true];refine dF λe=>?_;have:=h1.1 (h2.1 e);rw[show eK t k=t.any λr=>r.getD k 0==1 from rfl,this] at hd;cases hd
 |false=>
  rw[Bool.not_false];exact dT (h2.2 (h1.2 hd))
theorem BX (m:aJ)(t:lL)(k:Nat)(h:t.length<=1048576)(hk:∀i (hi:i<t.length),k<t[i].length):Fn pG 213 [jR m t,eI k] true (· =aM (jo t k)):=by
 refine Fn.au 28 [.tmp 4] func213 (hv:=?_);simp -dsimp -implicitDefEqProofs only[go_sem];refine aj.up [1,10,11] [24,25] [8] t.length (λ_=>True) (λi=>[(12,eI i),(5,.ref 8 0 0 (v7 (λi=>(t.getD i []).getD k 0==1) i).length)]) (λi=>[(8,.row 0 ⟨1,false⟩ true ((v7 (λi=>(t.getD i []).getD k 0==1) i).map eI))]) trivial ?_ rfl (λi hi _=>?_) (λ_=>?_)
 . simp -dsimp -implicitDefEqProofs only[go_sem,pd];all_goals simp
 . have hl:=p6 (λi=>(t.getD i []).getD k 0==1) i;have hs:=mR (λi=>(t.getD i []).getD k 0==1) i;have hki:=hk i hi;have hp:(t.getD i []).getD k 0=t[i][k]:=(by simp [uq6,hi,hki]);rw [hp] at hs;clear hp;have gi:=get_some hi;have gk:=get_some hki;have li:=aE hi;simp -dsimp -implicitDefEqProofs only [pz,Nat.reduceBEq,Nat.reduceDiv,Nat.reduceAdd,↓reduceIte,j_];rw [hs];clear hs;simp -dsimp -implicitDefEqProofs only [go_sem,li,gi,gk]
   repeat' first
    |(refine Br.intro (λ_=>?_) (λ_=>?_)<;>try simp -dsimp -implicitDefEqProofs only[go_sem, *])
    |(with_reducible refine ai ?_ ?_)
   all_goals first
    |omega|(refine ⟨?_,?_⟩<;>omega)|(simp;done)
    |skip
 have hl:=p6 (λi=>(t.getD i []).getD k 0==1) t.length;simp -dsimp -implicitDefEqProofs only[go_sem,aA];with_reducible and_intros
 all_goals first
  |(simp;done)
  |rfl
  |skip
theorem vy (m:aJ)(t:lL)(h:t.length<=1048576)(h2:∀x∈t,x.length<=1048576):Fn pG 212 [jR m t] true (· =eB (eX m t)):=by
 refine Fn.au 28 [.tmp 2] func212 (hv:=?_);rcases hb:(aU m&&iJ t) with _|_
 . simp -dsimp -implicitDefEqProofs only [go_sem]
   repeat' first
    |(refine Br.intro (λ_=>?_) (λ_=>?_)<;>try simp -dsimp -implicitDefEqProofs only[go_sem, *])
    |(with_reducible refine ai ?_ ?_)
    |(refine aa (eV m) ?_;try simp -dsimp -implicitDefEqProofs only[go_sem, *])
    |(refine aa (q_ t h h2) ?_;try simp -dsimp -implicitDefEqProofs only[go_sem, *])
   all_goals first
    |omega
    |(simp_all [eX];done)
    |skip
 obtain ⟨hb1,hb2⟩:=Bool.and_eq_true_iff.1 hb;obtain ⟨n1,n2,n3,n4,n5⟩:=mS hb2;have h00:0<t.length:=by omega
 have g0:=get_some h00;have gd:t.getD 0 []=t[0]:=by simp[uq6,h00]
 rw[gd] at n3 n4 n5;simp -dsimp -implicitDefEqProofs only[go_sem]
 repeat' first
  |(with_reducible refine ai ?_ ?_)
  |(refine aa (eV m) ?_;try simp -dsimp -implicitDefEqProofs only[go_sem, *])
  |(refine aa (q_ t h h2) ?_;try simp -dsimp -implicitDefEqProofs only[go_sem, *])
 all_goals try (first|omega|(simp_all;done))
 refine aj.up [1,18] [24,25] [] t[0].length (λi=>(dh i).all (eK t)) (λi=>[(19,eI i)]) (λ_=>[]) (by simp) ?_ rfl (λi hi hI=>?_) (λhI=>?_)
 . simp -dsimp -implicitDefEqProofs only[go_sem]
 . have no:eK t i=false->eX m t=false:=λh=>by
    have:iC t=false:=(by rw[iC,gd];exact b8 hi h);simp[eX,this]
   have yes:eK t i=true->(dh (i+1)).all (eK t)=true:=λh=>by rw[bj,hI,h];rfl
   have hr:=IE t i;clear hI gd;simp -dsimp -implicitDefEqProofs only[go_sem,aE hi]
   repeat' first
    |(refine Br.intro (λ_=>?_) (λ_=>?_)<;>try simp -dsimp -implicitDefEqProofs only[go_sem, *])
    |(with_reducible refine ai ?_ ?_)
    |(refine aa (BX m t i h (λj hj=>by rw[n5 j hj];exact hi)) ?_;try simp -dsimp -implicitDefEqProofs only[go_sem])
   all_goals first
    |(refine ⟨?_,?_⟩<;>omega)
    |rfl
    |(rw[no];clear no yes;simp_all;done)
    |(rw[←c_];refine yes ?_;clear no yes;simp_all;done)
    |skip
 simp -dsimp -implicitDefEqProofs only[go_sem,aA];(rw[eX,hb1,hb2,iC,gd,hI];rfl)
theorem vz (m:aJ)(t:lL)(h:t.length<=1048576)(h2:∀x∈t,x.length<=1048576):Fn pG 188 [jR m t] true (· =eB (eX m t)):=by
 refine Fn.au 46 [.tmp 2] func188 (hv:=?_);rcases hb:(aU m&&iJ t) with _|_
 . simp -dsimp -implicitDefEqProofs only [go_sem]
   repeat' first
    |(refine Br.intro (λ_=>?_) (λ_=>?_)<;>try simp -dsimp -implicitDefEqProofs only[go_sem, *])
    |(refine aa (fC m) ?_;try simp -dsimp -implicitDefEqProofs only[go_sem, *])
    |(refine aa (ra t h h2) ?_;try simp -dsimp -implicitDefEqProofs only[go_sem, *])
   all_goals first
    |(simp_all [eX];done)
    |skip
 obtain ⟨hb1,hb2⟩:=Bool.and_eq_true_iff.1 hb;obtain ⟨n1,n2,n3,n4,n5⟩:=mS hb2;have h00:0<t.length:=by omega
 have g0:=get_some h00;have gd:t.getD 0 []=t[0]:=by simp[uq6,h00]
 rw[gd] at n3 n4 n5;simp -dsimp -implicitDefEqProofs only[go_sem]
 repeat' first
  |(refine aa (fC m) ?_;try simp -dsimp -implicitDefEqProofs only[go_sem, *])
  |(refine aa (ra t h h2) ?_;try simp -dsimp -implicitDefEqProofs only[go_sem, *])
 refine aj.up [1] [21,28] [] t[0].length (λi=>(dh i).all (eK t)) (λi=>[(3,eI i)]) (λ_=>[]) (by simp) ?_ rfl (λi hi hI=>?_) (λhI=>?_)
 . simp -dsimp -implicitDefEqProofs only[go_sem]
 . have no:eK t i=false->eX m t=false:=λh=>by
    have:iC t=false:=(by rw[iC,gd];exact b8 hi h);simp[eX,this]
   have yes:eK t i=true->(dh (i+1)).all (eK t)=true:=λh=>by rw[bj,hI,h];rfl
   clear hI gd;simp -dsimp -implicitDefEqProofs only[go_sem,aE hi,g0];with_reducible and_intros
   all_goals try (first|omega|(simp;done))
   refine aj.up [1,3] [28] [] t.length (λ_=>True) (λj=>[(5,eI j),(4,eB ((t.take j).any λr=>r.getD i 0==1))]) (λ_=>[]) trivial ?_ rfl (λj hj _=>?_) (λ_=>?_)
   . simp -dsimp -implicitDefEqProofs only[go_sem,List.take_zero,List.any_nil]
   . have gj:=get_some hj;have lj:=aE hj;have hij:i<t[j].length:=(by rw [n5 j hj];exact hi);have gij:=get_some hij;have ha:=yE (λr=>r.getD i 0==1) t j hj;have he:t[j].getD i 0=t[j][i]:=(by simp [uq6,hij]);rw [he] at ha;clear he no yes;simp -dsimp -implicitDefEqProofs only [pz,Nat.reduceBEq,Nat.reduceDiv,Nat.reduceAdd,↓reduceIte,j_];rw [ha];clear ha;simp -dsimp -implicitDefEqProofs only [go_sem,lj]
     repeat' first
      |(refine Br.intro (λ_=>?_) (λ_=>?_)<;>try simp -dsimp -implicitDefEqProofs only[go_sem, *])
      |(with_reducible refine ai ?_ ?_)
     all_goals first
      |omega
      |(refine ⟨?_,?_⟩<;>omega)
      |rfl
      |skip
   simp -dsimp -implicitDefEqProofs only[go_sem,aA];rw[di];have hd:(t.any λr=>r.getD i 0==1)=eK t i:=rfl;rw[hd]
   repeat' first
    |(refine Br.intro (λ_=>?_) (λ_=>?_)<;>try simp -dsimp -implicitDefEqProofs only[go_sem, *])
    |(with_reducible refine ai ?_ ?_)
   all_goals first
    |(refine ⟨?_,?_⟩<;>omega)
    |rfl
    |(rw[no];clear no yes;simp_all;done)
    |(rw[←c_];refine yes ?_;clear no yes;simp_all;done)
    |skip
 simp -dsimp -implicitDefEqProofs only[go_sem,aA,g0];with_reducible and_intros
 all_goals first
  |omega
  |(rw[eX,hb1,hb2,iC,gd,hI];rfl)
  |skip
def vA (xs:lI):lI:=Lib.compact (xs.mergeSort λx y=>decide (x<=y))
theorem FW (zs:lI)(x:Int):x∈Lib.compact zs↔x∈zs:=by
 unfold Lib.compact Lib.compactUpTo;have gi:∀i,i<zs.length->zs.toArray[i]! =zs.getD i 0:=λi hi=>by simp[uq6,hi]
 constructor
 . intro h;obtain ⟨j,hj,rfl⟩:=ba.1 h;have hj':=cE.1 (a_.1 hj).1;simp[hj']
 intro h;obtain ⟨j,hj,rfl⟩:=bk h;induction j with
 |zero=>exact ba.2 ⟨0,a_.2 ⟨cE.2 hj,by simp[Lib.keeps]⟩,by simp[hj]⟩
 |succ j ih=>
  by_cases e:zs[j+1]=zs[j]
  . rw[e];exact ih (by omega) (uq9 _)
  refine ba.2 ⟨j+1,a_.2 ⟨cE.2 hj,?_⟩,by simp[hj]⟩;have h1:j<zs.length:=by omega
  simp[Lib.keeps,hj,h1,e]
theorem Dc (zs:lI)(h:zs.Pairwise (· <= ·)):(Lib.compact zs).Pairwise (· < ·):=by
 unfold Lib.compact Lib.compactUpTo;rw[List.pairwise_map];have hs:=List.pairwise_iff_getElem.1 h;refine List.Pairwise.imp_of_mem ?_ ((List.pairwise_lt_range (n:=zs.length)).filter (Lib.keeps zs.toArray));intro i j hi hj hij;have hj':=cE.1 (a_.1 hj).1;have hk:=(a_.1 hj).2;have hi':i<zs.length:=by omega
 have hp:j-1<zs.length:=by omega
 have h1:zs[i]<=zs[j-1]:=by
  rcases Nat.lt_or_ge i (j-1) with hh|hh
  . exact hs i (j-1) _ _ hh
  have:i=j-1:=by omega
  subst this;exact Int.le_refl _
 have h2:=hs (j-1) j hp hj' (by omega);have h3:zs[j]≠zs[j-1]:=by
  have:j≠0:=by omega
  simpa [Lib.keeps,this,hj',hp] using hk
 have e1:zs.toArray[i]! =zs[i]:=by simp[hi']
 have e2:zs.toArray[j]! =zs[j]:=by simp[hj']
 rw[e1,e2];omega
theorem Mp (xs:lI):(xs.mergeSort λx y=>decide (x<=y)).Pairwise (· <= ·):=by have:=List.pairwise_mergeSort (le:=λx y:Int=>decide (x<=y)) (by intro a b c h1 h2;simp at*;omega) (by intro a b;simp;omega) xs;exact this.imp λh=>by simpa using h
theorem PW (xs:lI)(x:Int):x∈(xs.mergeSort λx y=>decide (x<=y))↔x∈xs:=List.mem_mergeSort
theorem Mq (xs:lI)(x:Int):x∈vA xs↔x∈xs:=by rw[vA,FW,PW]
theorem IF (xs:lI):(vA xs).Pairwise (· < ·):=Dc _ (Mp xs)
theorem PX (xs:lI):vA xs=Lib.compact (xs.mergeSort λx y=>decide (x<=y)):=rfl
attribute [irreducible] vA
theorem Ta (v:Nat)(zs:lI)(h:zs.length<=1048576):oD pG 257 [.row v ⟨1,false⟩ true (zs.map eI)] [.ref 1000000000 v 0 zs.length] (λr io=>r= .aX []/\io=[.row v ⟨1,false⟩ true ((zs.mergeSort λx y=>decide (x<=y)).map eI)]):=
 oD.S5 ⟨_,_,func257,by rfl,rfl⟩ (λzs=>zs.mergeSort λx y=>decide (x<=y)) (λzs=>List.length_mergeSort zs)
  (λpN cap zs w hH hb hs=>AnyG.slices_Sort_int Tryz.Kb pN 0 cap zs w hH hb hs) (λa w=>AnyG.slices_Sort_int_none Tryz.Kb a 0 w) v zs h
theorem jS (zs:lI):(Lib.compact zs).length<=zs.length:=by unfold Lib.compact Lib.compactUpTo;rw[List.length_map];exact fu (List.length_filter_le _ _) (by simp)
theorem VH {d l af n:Nat}{zs:lI}{xt:lA}{m:Mem}{k:AV->Mem->Prop}{q:Pack k}(hlk:ah m l=some (.row af ⟨1,false⟩ true (zs.map eI)))(hn:n=zs.length)(hz:zs.length<=1048576)
 (hk:k (.ref l (af+1) 0 (Lib.compact zs).length) ((l,.row (af+1) ⟨1,false⟩ true ((Lib.compact zs++bw (zs.length-(Lib.compact zs).length) 0).map eI))::m)):
 eo pG 258 d [.ref l af 0 n] xt m k q:=
 FA (Lib.compact zs).length ⟨_,_,func258,by rfl,rfl⟩ hlk hn (ys:=Lib.compact zs++bw (zs.length-(Lib.compact zs).length) 0) (by have:=jS zs;simp;omega) (jS zs) hz
  (λpN cap w hH hc=>AnyG.slices_Compact_int Tryz.nA pN 0 cap zs w hH (by omega) hc) (λa w=>AnyG.slices_Compact_int_empty Tryz.nA a 0 w) hk
theorem IG {d l af n:Nat}{zs:lI}{xt:lA}{m:Mem}{k:AV->Mem->Prop}{q:Pack k}(hlk:ah m l=some (.row af ⟨1,false⟩ true (zs.map eI)))(hn:n=zs.length)(hz:zs.length<=1048576)
 (hk:k (.ref l (af+1) 0 (Lib.compact zs).length) ((l,.row (af+1) ⟨1,false⟩ true ((Lib.compact zs++bw (zs.length-(Lib.compact zs).length) 0).map eI))::m)):
 ie pG 258 d [.ref l af 0 n] xt m k q:=
 FB (Lib.compact zs).length ⟨_,_,func258,by rfl,rfl⟩ hlk hn (ys:=Lib.compact zs++bw (zs.length-(Lib.compact zs).length) 0) (by have:=jS zs;simp;omega) (jS zs) hz
  (λpN cap w hH hc=>AnyG.slices_Compact_int Tryz.nA pN 0 cap zs w hH (by omega) hc) (λa w=>AnyG.slices_Compact_int_empty Tryz.nA a 0 w) hk
def cK (m:aJ)(xs:lI):Bool:=decide (xs.length≠0)&&lQ xs m.ak
def fv (m:aJ)(l:lL):Bool:=((l.length:Int)==m.ae)&&l.all (cK m)
def Dd (m:aJ)(l:lL):Bool:=aU m&&fv m l
theorem Mr (m:aJ)(l:lL)(h:l.length<=1048576)(h2:∀x∈l,x.length<=1048576):Fn pG 146 [kj m,sT l] true (· =eB (Dd m l)):=by
 refine Fn.au 42 [.tmp 4] func146 (hv:=?_);simp -dsimp -implicitDefEqProofs only[go_sem]
 repeat' first
  |(refine Br.intro (λ_=>?_) (λ_=>?_)<;>try simp -dsimp -implicitDefEqProofs only[go_sem, *])
  |(refine aa (fC _) ?_;try simp -dsimp -implicitDefEqProofs only[go_sem, *])
 all_goals try ((simp_all [Dd,fv];done))
 refine aj.up [2,3] [20,29,39] [] l.length (λi=>(l.take i).all (cK m)) (λi=>[(5,eI i)]) (λ_=>[]) (by simp) ?_ rfl (λi hi hI=>?_) (λhI=>?_)
 . simp -dsimp -implicitDefEqProofs only[go_sem]
 . simp -dsimp -implicitDefEqProofs only [pz,Nat.reduceBEq,Nat.reduceDiv,Nat.reduceAdd,↓reduceIte,j_];have gi:=get_some hi;have li:=aE hi;have no:cK m l[i]=false->Dd m l=false:=λh=>by simp [Dd,fv,gQ (p:=cK m) hi h]
   have yes:cK m l[i]=true->((l.take (i+1)).all (cK m))=true:=λh=>by rw[dA _ _ _ hi,hI];simpa using h
   simp -dsimp -implicitDefEqProofs only[go_sem,li]
   repeat' first
    |(refine Br.intro (λ_=>?_) (λ_=>?_)<;>try simp -dsimp -implicitDefEqProofs only[go_sem, *])
    |(with_reducible refine ai ?_ ?_)
    |(refine an (IC l[i] _ (by have:=h2 l[i] (uq9 hi);omega)) ?_;try simp -dsimp -implicitDefEqProofs only[go_sem, *])
    |(refine aj.draw mixed rfl ?_;try simp -dsimp -implicitDefEqProofs only[go_sem, *])
   all_goals first
    |omega
    |(refine ⟨?_,?_⟩<;>omega)
    |(simp;done)
    |rfl
    |(rw[no];clear no yes;simp_all [cK];done)|(refine yes ?_;clear no yes;simp_all [cK];done)
    |skip
 simp -dsimp -implicitDefEqProofs only[go_sem,aA];rw[di] at hI;(simp_all [Dd,fv];done)
theorem PY (m:aJ)(l:lL)(h:l.length<=1048576)(h2:∀x∈l,x.length<=1048576):Fn pG 215 [kj m,sT l] true (· =eB (fv m l)):=by
 refine Fn.au 31 [.tmp 4] func215 (hv:=?_);simp -dsimp -implicitDefEqProofs only[go_sem];refine aj.up [2,3,8,9] [15,21] [] l.length (λi=>(l.take i).all (cK m)) (λi=>[(10,eI i)]) (λ_=>[]) (by simp) ?_ rfl (λi hi hI=>?_) (λhI=>?_)
 . simp -dsimp -implicitDefEqProofs only[go_sem]
 . simp -dsimp -implicitDefEqProofs only [pz,Nat.reduceBEq,Nat.reduceDiv,Nat.reduceAdd,↓reduceIte,j_];have gi:=get_some hi;have li:=aE hi;have no:cK m l[i]=false->fv m l=false:=λh=>by simp [fv,gQ (p:=cK m) hi h]
   have yes:cK m l[i]=true->((l.take (i+1)).all (cK m))=true:=λh=>by rw[dA _ _ _ hi,hI];simpa using h
   simp -dsimp -implicitDefEqProofs only[go_sem,li,gi]
   repeat' first
    |(refine Br.intro (λ_=>?_) (λ_=>?_)<;>try simp -dsimp -implicitDefEqProofs only[go_sem, *])
    |(with_reducible refine ai ?_ ?_)
    |(refine aa (ID l[i] _ (by have:=h2 l[i] (uq9 hi);omega)) ?_;try simp -dsimp -implicitDefEqProofs only[go_sem, *])
   all_goals first
    |omega
    |(refine ⟨?_,?_⟩<;>omega)
    |(simp;done)
    |(rw[no];clear no yes;simp_all [cK];done)|(refine yes ?_;clear no yes;simp_all [cK];done)
    |skip
 simp -dsimp -implicitDefEqProofs only[go_sem,aA];rw[di] at hI;(simp_all [fv];done)
def nF (m:aJ)(ls:List lL):Int:=if aU m&&ls.all (fv m) then 0 else 1
theorem IH {m:aJ}{ls:List lL}{i:Nat}(hi:i<ls.length)(h:fv m ls[i]=false):nF m ls=1:=by rw[nF,gQ hi h];simp
theorem FX (m:aJ)(l:lL):nF m [l]=if Dd m l then 0 else 1:=by simp[nF,Dd]
theorem FY (m:aJ)(ls:List lL)(h0:ls.length<=1048576)(h:∀l∈ls,l.length<=1048576/\∀x∈l,x.length<=1048576):Fn pG 163 [kj m,.arr ⟨1,true⟩ (ls.map sT)] true (· =eI (nF m ls)):=by
 refine Fn.au 21 [.tmp 4] func163 (hv:=?_);simp -dsimp -implicitDefEqProofs only[go_sem]
 repeat' first
  |(refine Br.intro (λ_=>?_) (λ_=>?_)<;>try simp -dsimp -implicitDefEqProofs only[go_sem, *])
  |(refine aa (eV _) ?_;try simp -dsimp -implicitDefEqProofs only[go_sem, *])
 all_goals try ((simp_all [nF];done))
 refine aj.up [2,10,11] [6,18] [] ls.length (λi=>(ls.take i).all (fv m)) (λi=>[(12,eI i)]) (λ_=>[]) (by simp) ?_ rfl (λi hi hI=>?_) (λhI=>?_)
 . simp -dsimp -implicitDefEqProofs only[go_sem]
 . have hx:=h ls[i] (uq9 hi);have no:=λh=>IH (m:=m) hi h;have yes:fv m ls[i]=true->((ls.take (i+1)).all (fv m))=true:=λh=>by rw [dA _ _ _ hi,hI,h];rfl
   simp -dsimp -implicitDefEqProofs only[go_sem,aE hi,get_some hi]
   repeat' first
    |(refine Br.intro (λ_=>?_) (λ_=>?_)<;>try simp -dsimp -implicitDefEqProofs only[go_sem, *])
    |(with_reducible refine ai ?_ ?_)
    |(refine aa (PY m ls[i] hx.1 hx.2) ?_;try simp -dsimp -implicitDefEqProofs only[go_sem, *])
   all_goals first
    |omega
    |(refine ⟨?_,?_⟩<;>omega)
    |(simp;done)
    |(rw[no];clear no yes;simp_all [];done)|(refine yes ?_;clear no yes;simp_all [];done)
    |skip
 simp -dsimp -implicitDefEqProofs only[go_sem,aA];rw[di] at hI;(simp_all [nF];done)
structure ZP where
 key:Bool
 index:Int
 YG:Int
 deriving DecidableEq,Inhabited
open Go.RowKit
theorem Grown.pf {w w':World}(h:Below w.heap.size w w'):Grown w w':=by obtain ⟨h1,h2,h3,h4,h5⟩:=h;exact ⟨h4,h5,⟨h1,h2,h3⟩⟩
theorem Grown.Tb (w:World)(k:Nat)(os:Array Obj):Grown w (Sort.grow (w.drewN k) os):=
 ⟨by simp[Sort.grow],λb hb=>Sort.heap_grow_old _ _ (by simpa using hb),⟨rfl,rfl,rfl⟩⟩
theorem Fn.plain {P:pR}{f:fI}(us:lV){r:AV}(hE:Enters P f)
 (hc:∀(w:World)(S:nP),KA w S->Calls P f us.toArray w λe w'=>∃v fs,e= .returned v/\Grown w w'/\Own w' (λ_=>False) r v fs/\fs.Nodup/\∀b,b∈fs->w.heap.size<=b):
 Fn P f (us.map .val) true (· =r):=by
 refine ⟨hE,λw S vs _ hk hsz hr=> ?_⟩;have e:vs=us.toArray:=by
  rw[List.length_map] at hsz;apply Array.ext
  . simpa using hsz
  intro i h1 h2;have h3:i<(us.map AV.val).length:=by simpa using h2
  have:=hr i h3;rw[List.getElem_map] at this;generalize hu:vs.toList.getD i uD=u at this;cases this;have h4:i<us.length:=by simpa using h2
  have h5:vs.toList.getD i uD=vs[i]:=by simp[uq6,h1]
  rw[←h5,hu];simp
 subst e;refine (hc w S hk).mono ?_;rintro e w' ⟨v,fs,rfl,hg,ho,hn,hb⟩;exact ⟨r,v,rfl,rfl,hg,by simp only[iN,if_true];exact ⟨fs,ho,hn,hb⟩⟩
theorem Fn.VI {P:pR}{f:fI}(us:lV){post:AV->Prop}(hE:Enters P f)
 (hc:∀(w:World)(S:nP),KA w S->Calls P f us.toArray w λe w'=>∃r v fs,post r/\e= .returned v/\Grown w w'/\Own w' (λ_=>False) r v fs/\fs.Nodup/\∀b,b∈fs->w.heap.size<=b):
 Fn P f (us.map .val) true post:=by
 refine ⟨hE,λw S vs _ hk hsz hr=> ?_⟩;have e:vs=us.toArray:=by
  rw[List.length_map] at hsz;apply Array.ext
  . simpa using hsz
  intro i h1 h2;have h3:i<(us.map AV.val).length:=by simpa using h2
  have:=hr i h3;rw[List.getElem_map] at this;generalize hu:vs.toList.getD i uD=u at this;cases this;have h4:i<us.length:=by simpa using h2
  have h5:vs.toList.getD i uD=vs[i]:=by simp[uq6,h1]
  rw[←h5,hu];simp
 subst e;refine (hc w S hk).mono ?_;rintro e w' ⟨r,v,fs,hp,rfl,hg,ho,hn,hb⟩;exact ⟨r,v,rfl,hp,hg,by simp only[iN,if_true];exact ⟨fs,ho,hn,hb⟩⟩
theorem rb {w:World}{v:Value}(h:v.oneCell'=true):Own w (λ_=>False) (.val v) v []:=.rd _ _ (.val _ h)
theorem cell_of {w:World}{g:Nat}{v:Value}{e:TypeId}{fr:Nat × Nat}(h:w.heap[g]? =some (.cells #[v] e fr)):w.cell? ⟨g,0,none⟩=some v:=by simp[World.cell?,h]
theorem VJ {w:World}(xs:lA)(vs:lV)(hl:vs.length=xs.length)(h:∀i (h:i<xs.length),Own w (λ_=>False) xs[i] (vs.getD i uD) []):Own w (λ_=>False) (.aX xs) (.tuple vs.toArray) []:=by
 have e:([]:lN)=(bw xs.length ([]:lN)).flatten:=(List.flatten_eq_nil_iff.2 λl hl=>(List.mem_replicate.1 hl).2).symm;rw[e];refine .aX xs _ _ (by simpa using hl) (by simp) λi hi=>?_;have e3:(bw xs.length ([]:lN)).getD i []=[]:=by simp[uq6,hi]
 rw[e3];exact h i hi
theorem Tc {w:World} {S:Nat→Prop} (h:KA w S):Lib.TabIs pG w "internal/strconv.uint64pow10" .u64 Lib.pow10Tab:=by
 obtain ⟨_,cs,e,fr,h1,h2⟩:=h 5 Rs (by simp[DZ]);unfold Lib.TabIs World.var?
 have hg:Tryz.prog.globalNamed "internal/strconv.uint64pow10" =some 5:=by kernel_rfl
 rw[hg,Option.bind_some,h1,show cs=_ from h2];simp[Lib.pow10Tab,Function.comp_def]
theorem FZ {n:Int}(h:jy n):Fn pG 112 [eI n,eI 10] true (· =eS (Lib.itoa n)):=by refine Fn.plain [.int .i64 n,.int .i64 10] ⟨Tryz.f112,_,func112,by decide,rfl⟩ λw S hk=>?_;refine (Any.strconv_FormatInt_10 Tryz.Mh n h.1 h.2 w (Tc hk)).mono ?_;rintro e w' ⟨rfl,k,os,rfl⟩;exact ⟨_,[],rfl,Grown.Tb _ _ _,rb rfl,eR,λb hb=>by cases hb⟩
theorem Grown.PZ (w:World)(e:TypeId)(s:ByteArray):Grown w (Lib.bytesWorld w e s):=Grown.pf (Lib.bytesWorld_below w e s)
theorem Ke {w:World}{S:nP}(h:KA w S)(g:Nat)(hg:(g,NA)∈DZ):∃t p,w.cell? ⟨g,0,none⟩=some (.iface t p):=by obtain ⟨_,cs,e,fr,h1,t,p,rfl⟩:=h g NA hg;exact ⟨t,p,cell_of h1⟩
def me (s:lU):Int:=match Lib.parseIntB 64 s with
 | .ok v=>v
 | .range=>Lib.intSat 64 s
 |_=>0
def yF (s:lU):Bool:=match Lib.parseIntB 64 s with
 | .ok _=>true
 |_=>false
theorem II (s:lU)(h:s.length<=1048576):Fn pG 88 [eS s,eI 10,eI 64] true
 (λx=>∃e,x= .aX [eI (me s),.val e]/\if yF s=true then e= .nilIface else ∃t p,e= .iface t p):=by
 refine Fn.VI [.string ⟨s.toArray⟩,.int .i64 10,.int .i64 64] ⟨Tryz.f88,_,func88,by decide,rfl⟩ λw S hk=> ?_;have hsz:(⟨s.toArray⟩:ByteArray).size=s.length:=pZ s;have tw:∀(w':World) (n:Int) (e:Value),e.oneCell'=true->Own w' (λ_=>False) (.aX [eI n,.val e]) (.tuple #[.int .i64 n,e]) []:=λw' n e he=>by
  refine VJ [eI n,.val e] [.int .i64 n,e] rfl λi hi=>?_;have:i=0\/i=1:=by simp at hi;omega
  rcases this with rfl|rfl
  . exact rb rfl
  exact rb he
 rcases hp:Lib.parseIntB 64 s with v|_|_
 . refine (Any.strconv_ParseInt_10_at64_ok Tryz.yw ⟨s.toArray⟩ (by omega) v (by rw [nD];exact hp) w).mono ?_;rintro e w' ⟨rfl,hw⟩;refine ⟨.aX [eI v,.val .nilIface],_,[],⟨.nilIface,by simp only [me,hp],by simp [yF,hp]⟩,rfl,?_,tw _ _ _ rfl,eR,λb hb=>by cases hb⟩;rcases hw with rfl|⟨t,rfl⟩
   . exact Grown.refl _
   exact Grown.PZ _ _ _
 . obtain ⟨tp,pv,hc⟩:=Ke hk 1 (by simp[DZ]);refine (Any.strconv_ParseInt_10_at64_syntax Tryz.yw ⟨s.toArray⟩ (by omega) (by rw[nD];exact hp) _ w hc (.inr ⟨tp,pv,rfl⟩)).mono ?_;rintro e w' ⟨N,rfl,_,_,hb⟩;exact ⟨.aX [eI 0,.val _],_,[],⟨.iface (Tryz.ny.t 168) (.pointer (some ⟨N,0,none⟩)),by simp only[me,hp],by simp only[yF,hp];exact ⟨_,_,rfl⟩⟩,rfl,Grown.pf hb,tw _ _ _ rfl,eR,λb hb=>by cases hb⟩
 obtain ⟨tp,pv,hc⟩:=Ke hk 2 (by simp[DZ]);refine (Any.strconv_ParseInt_10_at64_range Tryz.yw ⟨s.toArray⟩ (by omega) (by rw[nD];exact hp) _ w hc (.inr ⟨tp,pv,rfl⟩)).mono ?_;rintro e w' ⟨N,rfl,_,_,hb⟩;exact ⟨.aX [eI (Lib.intSat 64 s),.val _],_,[],⟨.iface (Tryz.ny.t 168) (.pointer (some ⟨N,0,none⟩)),by simp only[me,hp],by simp only[yF,hp];exact ⟨_,_,rfl⟩⟩,rfl,Grown.pf hb,tw _ _ _ rfl,eR,λb hb=>by cases hb⟩
theorem Td {w:World}{S:nP}(h:KA w S)(g:Nat)(hg:(g,Rr)∈DZ):∃m,w.cell? ⟨g,0,none⟩=some (.int .i64 m):=by obtain ⟨_,cs,e,fr,h1,m,rfl⟩:=h g Rr hg;exact ⟨m,cell_of h1⟩
theorem P0:(Tryz.prog.info? (Tryz.nz.t 9)).map (λi=>(i.zero,i.size,i.bytes))=some (some (.string ByteArray.empty),1,16):=by kernel_rfl
theorem jF (c:UInt8):∀(l:lU),(dm c l).length<=l.length+1
 | []=>by simp[dm]
 |b::l=>by
  have:=jF c l;rw[dm];split
  . simp;omega
  split
  . rename_i h t he;rw[he] at this;simp at this ⊢;omega
  simp
theorem Kf (s:lU)(c:UInt8)(h:s.length<=1048576):Fn pG 58 [eS s,eS [c]] true (· =nC (dm c s)):=by
 refine Fn.plain [.string ⟨s.toArray⟩,.string ⟨[c].toArray⟩] ⟨Tryz.f58,_,func58,by decide,rfl⟩ λw S hk=>?_;have hsz:(⟨s.toArray⟩:ByteArray).size=s.length:=pZ s;obtain ⟨m,hm⟩:=Td hk 0 (by simp[DZ]);refine (Any.strings_Split Tryz.PL P0 ⟨s.toArray⟩ ⟨[c].toArray⟩ m w (by omega) hm (by show 1<=1;omega)).mono ?_;rintro e w' ⟨rfl,rfl⟩;have hs:=IB c _ s rfl;have hl:(dm c s).length=Lib.countB ⟨s.toArray⟩ ⟨[c].toArray⟩+1:=Mo c _ s rfl;have hle:=jF c s;refine ⟨_,[w.heap.size],rfl,⟨by simp,λb hb=>JA w _ b hb,⟨rfl,rfl,rfl⟩⟩,?_,by simp,λb hb=>by simp at hb;omega⟩;rw[←hl,show (⟨#[c]⟩:ByteArray)=⟨[c].toArray⟩ from rfl] at*;have e2:[w.heap.size]=w.heap.size::(bw ((dm c s).map eS).length ([]:lN)).flatten:=by congr 1;exact (List.flatten_eq_nil_iff.2 λl hl=>(List.mem_replicate.1 hl).2).symm
 rw[e2,hs]
 have:=Own.arr (w:=w.alloc (.cells (((dm c s).map λa=>(⟨a.toArray⟩:ByteArray)).map Value.string).toArray (Tryz.nz.t 9))) (S:=λ_=>False) ⟨1,false⟩ ((dm c s).map eS) w.heap.size (dm c s).length _ _ (bw ((dm c s).map eS).length []) (nd w _ _)
  (by simp) (by simp) (by unfold maxLen;omega) (by intro i hi;simp[fits]) (by simp) λi hi=>?_
 . simpa using this
 have e3:(bw ((dm c s).map eS).length ([]:lN)).getD i []=[]:=by rw[uq6,List.getElem?_replicate];split<;>rfl
 have hi2:i<(dm c s).length:=by simpa using hi
 rw[e3,bd,Nat.mul_one,List.getElem_map];have e4:((((dm c s).map λa=>(⟨a.toArray⟩:ByteArray)).map Value.string).toArray).toList.getD i uD= .string ⟨((dm c s)[i]).toArray⟩:=by simp[uq6,hi2]
 rw[e4];exact rb rfl
theorem Te {w:World}{S:nP}{xs:List lU}{v:Value}(h:Rd w S (nC xs) v):
 (xs=[]/\∃a,v= .slice a 0 0)\/∃b off cap,v= .slice (some ⟨b,off,none⟩) xs.length cap/\b<w.heap.size/\xs.length<=cap/\∀(j:Nat) x,xs[j]? =some x->w.cell? ⟨b,off+j,none⟩=some (.string ⟨x.toArray⟩):=by
 unfold nC at h;generalize hxs:xs.map eS=ys at h;have hlen:ys.length=xs.length:=by rw[←hxs];simp
 cases h with
 |nil sh a=>exact .inl ⟨List.eq_nil_of_length_eq_zero (by rw[←hlen];rfl),a,rfl⟩
 |arr sh ys b off cap cs e fr hS hb b_ hl hf hv=>
  refine .inr ⟨b,off,cap,by rw[hlen],(uq1.1 hb).1,by omega,λj x hj=>?_⟩;obtain ⟨hj1,hj2⟩:=uq8.1 hj;have hj3:j<ys.length:=by omega
  have h2:=hv j hj3;have hx:ys[j]=eS x:=by simp[←hxs,hj2]
  rw[hx] at h2;rw[bd,Nat.mul_one] at h2;have h4:cs.toList.getD (off+j) uD= .string ⟨x.toArray⟩:=by generalize cs.toList.getD (off+j) uD=u at h2;cases h2;rfl
  have h5:off+j<cs.size:=by simp only[Nat.mul_one] at hl;omega
  rw[uq6,Array.getElem?_toList,Array.getElem?_eq_getElem h5] at h4;simp only[World.cell?,hb,Option.isSome_none,uq4,↓reduceIte,Array.getElem?_eq_getElem h5];exact congrArg some h4
theorem P1 (xs:List lU)(sep:lU)(h1:xs.length<=1048576)(h2:(Lib.join xs sep).length<=140737488355328):Fn pG 166 [nC xs,eS sep] true (· =eS (Lib.join xs sep)):=by
 refine ⟨⟨Tryz.f166,_,func166,by decide,rfl⟩,λw S vs hS hk hsz hr=> ?_⟩;obtain ⟨u,v,rfl⟩:∃u v,vs= #[u,v]:=by
  have:vs.size=2:=hsz
  exact ⟨vs[0],vs[1],by apply Array.ext<;>simp_all;intro i h;have:i=0\/i=1:=by omega
                        rcases this with rfl|rfl<;>(intro _;rfl)⟩
 have r0:Rd w S (nC xs) u:=hr 0 (by simp);have r1:Rd w S (eS sep) v:=hr 1 (by simp);obtain rfl:v= .string ⟨sep.toArray⟩:=by cases r1;rfl
 have hm:((xs.map λa=>(⟨a.toArray⟩:ByteArray)).map (·.data.toList))=xs:=by simp[List.map_map,Function.comp_def]
 rcases Te r0 with ⟨rfl,a,rfl⟩|⟨b,off,cap,rfl,hb,b_,hc⟩
 . refine (Any.strings_Join_none Tryz.Ka Tryz.BQ a 0 ⟨sep.toArray⟩ w).mono ?_;rintro e w' ⟨rfl,rfl⟩;exact ⟨_,_,rfl,rfl,Grown.refl _,by simp only[iN,if_true];exact ⟨[],rb rfl,eR,λb hb=>by cases hb⟩⟩
 have:=Any.strings_Join Tryz.Ka Tryz.BQ b off cap (xs.map λa=>(⟨a.toArray⟩:ByteArray)) ⟨sep.toArray⟩ w (λj x hj=>by
  rw[List.getElem?_map] at hj;obtain ⟨y,hy,rfl⟩:=Option.map_eq_some_iff.1 hj
  exact hc j y hy) hb (by simp;omega) (by simpa using b_) (by rw[hm,nD];exact h2)
 rw[hm,nD,List.length_map] at this;refine this.mono ?_;rintro e w' ⟨rfl,hbl⟩;exact ⟨_,_,rfl,rfl,Grown.pf hbl,by simp only[iN,if_true];exact ⟨[],rb rfl,eR,λb hb=>by cases hb⟩⟩
theorem bU {v:Int}(h:jy v):(itoa v).length<=21:=itoa_length_le v h.1 h.2
def Sub (x y:AV):Prop:=∀(w:World)(S:nP)(v:Value),Rd w S x v->Rd w S y v
inductive Ms:List AV->List AV->Prop
 |nil:Ms [] []
 |cons {x y:AV} {xs ys:List AV} (h:Sub x y) (hs:Ms xs ys):Ms (x::xs) (y::ys)
theorem Sub.refl (x:AV):Sub x x:=λ_ _ _ h=>h
theorem Sub.nil (sh:Sh):Sub (.val (.slice none 0 0)) (.arr sh []):=λ_ _ _ h=>by cases h;exact .nil sh none
theorem Ms.get {xs ys:lA}(h:Ms xs ys):xs.length=ys.length/\∀i (h1:i<xs.length) (h2:i<ys.length),Sub xs[i] ys[i]:=by
 induction h with
 |nil=>exact ⟨rfl,λi h1=>absurd h1 (da _)⟩
 |cons h hs ih=>
  refine ⟨by simp[ih.1],λi h1 h2=>?_⟩;cases i with
  |zero=>exact h
  |succ i=>exact ih.2 i (by simpa using h1) (by simpa using h2)
theorem Fn.Mt {P:pR}{f:fI}{args args':lA}{own:Bool}{post:AV->Prop}(h:Fn P f args own post)(hs:Ms args' args):Fn P f args' own post:=
 ⟨h.1,λw S vs h1 h0 h2 h3=>h.2 w S vs h1 h0 (h2.trans hs.get.1) λi hi=>hs.get.2 i (by rw[hs.get.1];exact hi) hi _ _ _ (h3 i _)⟩
abbrev Tf:AV:=.val (.slice none 0 0)
open Go.Shelf Go.Sort
set_option maxHeartbeats 4000000 in
theorem vB (w:World)(b cap i j n:Nat)(cs:aV)(e:El)(hb:w.heap[b]? =some (eA cs e))(hcs:cs.size=cap*1)(b_:cap<=9223372036854775807)(hj:j=i+1)(hi:i<n)(hn:n<=cap)(h1:∀v,v∈(cs.toList.drop (j*1)).take ((n-j)*1)->v.oneCell'=true):
 Calls pG 114 #[.slice (some ⟨b,0,none⟩) n cap,.int .i64 i,.int .i64 j] w λe' w'=>e'= .returned (.slice (some ⟨b,0,none⟩) (n-1) cap)∧
  ∃q,w'=((w.drewN q).setCells b (i*1) ((cs.toList.drop (j*1)).take ((n-j)*1))).setCells b (n-1) [.slice none 0 0]:=by
 obtain ⟨news,qM⟩:∃news,news=(cs.toList.drop (j*1)).take ((n-j)*1):=⟨_,rfl⟩;rw[←qM];have hlen:news.length=(n-j)*1:=by rw[qM];simp;omega
 obtain ⟨A,hA,V9⟩:∃A:Addr,(if cap=j then (some ⟨b,0,none⟩:Option Addr) else some ⟨b,j,none⟩)=some A/\Hid (∀t u,news[t]? =some u->w.drew.cell? (A.add t)=some u):=by
  by_cases h:cap=j
  . refine ⟨⟨b,0,none⟩,by simp[h],λt u hu=>?_⟩;have h0:news.length=0:=(by rw[hlen];omega);rw[List.length_eq_zero_iff.1 h0] at hu;simp at hu
  refine ⟨⟨b,j,none⟩,by simp [h],λt u hu=> ?_⟩;have ht:t<(n-j)*1:=by
   have:=(uq8.1 hu).1
   rwa [hlen] at this
  rw[qM,List.getElem?_take,if_pos ht,List.getElem?_drop] at hu;rw[Addr.add_lit];show w.cell? _=_;simp only[World.cell?,hb,Option.isSome_none,uq4,↓reduceIte];simpa using hu
 have s1:Hid (news.length=(n-j)*1):=hlen;have s2:Hid (∀u∈news,u.oneCell'=true):=by intro u hu;rw[qM] at hu;exact h1 u hu
 have s3:Hid (∀t,t<news.length->(w.drew.cell? ⟨b,0+i*1+t,none⟩).isSome=true/\w.drew.frozen? ⟨b,0+i*1+t,none⟩=false):=by
  intro t ht;rw[hlen] at ht;have hlt:0+i*1+t<cs.size:=by omega
  refine ⟨?_,?_⟩
  . show (w.cell? _).isSome=true;simp[World.cell?,hb];omega
  show w.frozen? _=false;exact ml hb hlt
 obtain ⟨W1,hW1⟩:∃W1,W1=w.drew.setCells b (0+i*1) news:=⟨_,rfl⟩;have hsz:((cs.toList.take (0+i*1)++news++cs.toList.drop (0+i*1+news.length)).toArray).size=cap*1:=by simp[hlen];omega
 have Tz:W1.heap[b]? =some (eA (cs.toList.take (0+i*1)++news++cs.toList.drop (0+i*1+news.length)).toArray e):=by rw[hW1,nu (P:=pG) (w:=w.drew) hb s2.out (by rw[hlen];omega)];exact bW (w:=w.drew) hb (by rw[hsz];exact hcs.symm)
 generalize (cs.toList.take (0+i*1)++news++cs.toList.drop (0+i*1+news.length)).toArray=cs1 at Tz hsz;have hcl:∀ty,(Builtin.clear_ #[24] ty #[.slice (some ⟨b,i+(n-j),none⟩) (n-(i+(n-j))) (cap-(i+(n-j)))]).run pG W1= .ok (.tuple #[]) (W1.setCells b (n-1) [.slice none 0 0]):=by
  intro ty;have e1:i+(n-j)=n-1:=by omega
  have e2:n-(n-1)=1:=by omega
  rw[e1,e2]
  have hst:=run_storeCells_cells (P:=pG) b (n-1) [.slice none 0 0] 0 W1 (λj hj=>by
   have hj:j<1:=hj;have hlt:(n-1)+0+j<cs1.size:=(by omega)
   simp[World.cell?,Tz];omega) (λj hj=>by
   have hj:j<1:=hj
   exact ml Tz (by omega)) (by
   intro v hv;simp only[List.mem_cons,List.not_mem_nil,or_false] at hv
   subst hv;rfl)
  simp only[Nat.add_zero] at hst;have hz:(Builtin.zeroCells #[Value.slice none 0 0] 1).toList=[.slice none 0 0]:=by refine List.ext_getElem (by simp[Builtin.zeroCells]) λt h1 h2=>?_;have:t=0:=(by simp at h2;omega);subst this;simp[Builtin.zeroCells]
  simp[Builtin.clear_,run_underlying underlying24,zeroValue58,Value.cells,hz,hst]
 have hW:Hid (W1=w.drew.setCells b (0+i*1) news):=hW1;have X:Aside (W1=w.drew.setCells b (0+i*1) news):=hW1;have hj':Aside (j=i+1):=hj;have hij:(i==j)=false:=by simp;omega
 have hlt:i<j:=by omega
 have hjn:j<=n:=by omega
 have mixed:Tryz.prog.follows .mixedOrders=true:=mixed;have hic:i<=cap:=by omega
 have hjc:j<=cap:=by omega
 clear hW1 Tz hsz qM hlen hb hcs h1 hj
 go_enter func114,Tryz.ntmps114
 obtain ⟨i0,hi0⟩:∃i,Tryz.prog.info? 58=some i:=Option.isSome_iff_exists.1 (by kernel_rfl);have hz1:i0.size=1:=by
  have:(Tryz.prog.info? 58).map (λi=>i.size)=some 1:=by kernel_rfl
  rw[hi0] at this;simpa using this
 go_wp2_with fail
 go_region_law_o (refine step_append_room rfl (.tmp 22) (.tmp 25) 24 rfl 58 i0 1 underlying24 hi0 hz1 b 0 i cap (by simp[Act.eval,Act.put]) A (n-j) (cap-j) news (by simp[Act.eval,Act.put]) s1.out V9.out s2.out (by omega) s3.out ?_;rw[←hW.out])
 go_wp2
 go_ret
 have hj:=hj'.out;refine ⟨by rw[show n-1=i+(n-j) by omega];rfl,1,?_⟩;rw[X.out,Nat.zero_add];rfl
attribute [go_sem] Option.map_none Nat.sub_zero
abbrev eY (b:UInt8):AV:=.val (.int .u8 b.toNat)
abbrev VK (bs:lU):AV:=.arr ⟨1,false⟩ (bs.map eY)
structure Src where
 nG:Int
 pos:Nat
def dO (s:Src):Prop:=0<=s.nG/\s.nG<2147483647
abbrev ki (v:Nat)(bs:lU)(s:Src):bf:=.box v [VK bs,eI s.pos,eI s.nG]
def nx (bs:lU)(n:Int)(s:Src):Int × Src:=
 if n<=1 then (0,s) else
  if h:s.pos<bs.length then
   ((if n<=256/\((s.pos:Int)+1).tmod 2=0 then (bs[s.pos].toNat:Int) else ((s.nG*48271+29).tmod 2147483647).tdiv 31+(bs[s.pos].toNat:Int)).tmod n,⟨(s.nG*48271+29).tmod 2147483647,s.pos+1⟩)
  else (((s.nG*48271+29).tmod 2147483647).tdiv 31 |>.tmod n,⟨(s.nG*48271+29).tmod 2147483647,s.pos⟩)
theorem sU {x n:Int}(hx:0<=x)(hn:0<n):0<=x.tmod n/\x.tmod n<n:=⟨Int.tmod_nonneg _ hx,Int.tmod_lt_of_pos _ hn⟩
theorem dq (bs:lU)(n:Int){s:Src}(h:dO s):0<=(nx bs n s).1/\(n<=1->(nx bs n s).1=0)/\(1<n->(nx bs n s).1<n)/\dO (nx bs n s).2:=by
 obtain ⟨h1,h2⟩:=h;have hs:=sU (x:=s.nG*48271+29) (n:=2147483647) (by omega) (by omega);have hx:0<=((s.nG*48271+29).tmod 2147483647).tdiv 31:=Int.tdiv_nonneg hs.1 (by omega);unfold nx;split
 . exact ⟨Int.le_refl _,λ_=>rfl,λh=>absurd h (by omega),h1,h2⟩
 split
 . rename_i hn hp;have hb:0<=(if n<=256/\((s.pos:Int)+1).tmod 2=0 then (bs[s.pos].toNat:Int) else ((s.nG*48271+29).tmod 2147483647).tdiv 31+(bs[s.pos].toNat:Int)):=(by split<;>omega);have:=sU (n:=n) hb (by omega);exact ⟨this.1,λh=>absurd h hn,λ_=>this.2,hs⟩
 rename_i hn hp;have:=sU (n:=n) hx (by omega);exact ⟨this.1,λh=>absurd h hn,λ_=>this.2,hs⟩
set_option maxHeartbeats 4000000 in
theorem bu (v:Nat)(bs:lU)(n:Int)(s:Src)(h:dO s)(hl:bs.length<=4096):
 oD pG 41 [ki v bs s] [.ptr 1000000000 v 0 0,eI n] (λx io=>x=eI (nx bs n s).1/\io=[ki v bs (nx bs n s).2]):=by
 refine oD.au 78 [.tmp 4] func41 (hv:=?_);obtain ⟨h1,h2⟩:=h;have hs:=sU (x:=s.nG*48271+29) (n:=2147483647) (by omega) (by omega);have hx:0<=((s.nG*48271+29).tmod 2147483647).tdiv 31:=Int.tdiv_nonneg hs.1 (by omega);have hx2:((s.nG*48271+29).tmod 2147483647).tdiv 31<=2147483647:=by have:((s.nG*48271+29).tmod 2147483647).tdiv 31<=(s.nG*48271+29).tmod 2147483647:=Int.tdiv_le_self _ hs.1;omega
 by_cases hn:n<=1
 . have hF:nx bs n s=(0,s):=(by rw[nx,if_pos hn]);rw[hF];have hn':=dT hn;simp -dsimp -implicitDefEqProofs only[go_sem,hn']
 have hn':=dF hn;by_cases hp:s.pos<bs.length
 . have hF:nx bs n s=((if n<=256/\((s.pos:Int)+1).tmod 2=0 then (bs[s.pos].toNat:Int) else ((s.nG*48271+29).tmod 2147483647).tdiv 31+(bs[s.pos].toNat:Int)).tmod n,⟨(s.nG*48271+29).tmod 2147483647,s.pos+1⟩):=by
    rw[nx,if_neg hn,dif_pos hp]
   have hb:(bs[s.pos].toNat:Int)<=255:=(by have:=bs[s.pos].toNat_lt;omega);have gp:=get_some hp;have lp:=aE hp;have ep:((s.pos:Int)+1-1).toNat=s.pos:=(by omega);rw[hF];clear hF;generalize hz:bs[s.pos]=z at gp hb;by_cases hc:n<=256/\((s.pos:Int)+1).tmod 2=0
   . rw [if_pos hc];have c1:=dT hc.1;have c2:(((s.pos:Int)+1).tmod 2==0)=true:=beq_iff_eq.2 hc.2;clear hc;simp -dsimp -implicitDefEqProofs only [go_sem,hn']
     repeat' first
      |(refine Br.intro (λ_=>?_) (λ_=>?_)<;>try simp -dsimp -implicitDefEqProofs only[go_sem, *])
      |(with_reducible refine ai ?_ ?_)
      |(refine aj.draw mixed rfl ?_;try simp -dsimp -implicitDefEqProofs only[go_sem,lp,gp,ep])
     all_goals (first|omega|(refine ⟨?_,?_⟩<;>omega)|(simp;done)|exact rfl|(simp_all;done)|skip)
   rw[if_neg hc];have c3:(decide (n<=256)&&(((s.pos:Int)+1).tmod 2==0))=false:=by rw[Bool.eq_false_iff];intro h;apply hc;simpa using h
   clear hc;simp -dsimp -implicitDefEqProofs only[go_sem,hn']
   repeat' first
    |(refine Br.intro (λ_=>?_) (λ_=>?_)<;>try simp -dsimp -implicitDefEqProofs only[go_sem, *])
    |(with_reducible refine ai ?_ ?_)
    |(refine aj.draw mixed rfl ?_;try simp -dsimp -implicitDefEqProofs only[go_sem,lp,gp,ep])
   all_goals (first|omega|(refine ⟨?_,?_⟩<;>omega)|(simp;done)|exact rfl|(simp_all;done)|skip)
 have hF:nx bs n s=(((s.nG*48271+29).tmod 2147483647).tdiv 31 |>.tmod n,⟨(s.nG*48271+29).tmod 2147483647,s.pos⟩):=by rw[nx,if_neg hn,dif_neg hp]
 have lp:decide ((s.pos:Int)<(bs.length:Int))=false:=dF (by omega);rw[hF];clear hF;simp -dsimp -implicitDefEqProofs only[go_sem,hn']
 repeat' first
  |(with_reducible refine ai ?_ ?_)
  |(refine aj.draw mixed rfl ?_;try simp -dsimp -implicitDefEqProofs only[go_sem,lp])
 all_goals (first|omega|(refine ⟨?_,?_⟩<;>omega)|exact rfl|skip)
attribute [irreducible] nx
theorem P2:Pp pG 32 (λxs:lU=>xs.length<=maxLen/\∀a∈xs,True) (λxs=>[VK xs]):=
 Pp.slice false 1 underlying32 (by kernel_rfl) (by decide) (λ_=>rfl) (λ_=>rfl) (Pp.u8 underlying5)
def pk (bs:lU)(xs:lI)(s:Src):Int × Src:=(xs.getD (nx bs xs.length s).1.toNat 0,(nx bs xs.length s).2)
theorem Xe (bs:lU)(xs:lI){s:Src}(h:dO s):dO (pk bs xs s).2:=(dq bs xs.length h).2.2.2
theorem P3 (bs:lU){xs:lI}{s:Src}(h:dO s)(h0:xs≠[]):(pk bs xs s).1∈xs:=by
 obtain ⟨h1,h2,h3,_⟩:=dq bs xs.length h;have hl:0<xs.length:=List.length_pos_iff.2 h0;have:(nx bs xs.length s).1.toNat<xs.length:=by
  by_cases h:(xs.length:Int)<=1
  . rw[h2 h];exact hl
  have:=h3 (by omega);omega
 show xs.getD _ 0∈xs;rw[uq6,uq7 this];exact uq9 this
theorem BY (v v2:Nat)(d:Bool)(bs:lU)(xs:lI)(ys:lA)(s:Src)(hy:ys=xs.map eI)(h0:0<xs.length)(hx:xs.length<=1000)(h:dO s)(hl:bs.length<=4096):
 oD pG 45 [ki v bs s,.row v2 ⟨1,false⟩ d ys] [.ptr 1000000000 v 0 0,.ref 1000000001 v2 0 xs.length] (λx io=>x=eI (pk bs xs s).1/\io=[ki v bs (pk bs xs s).2,.row v2 ⟨1,false⟩ d ys]):=by
 subst hy;refine oD.au 12 [.tmp 4] func45 (hv:= ?_);obtain ⟨h1,h2,h3,h4⟩:=dq bs xs.length h;have hc:=λv=>bu v bs xs.length s h hl;have hi:(nx bs xs.length s).1.toNat<xs.length:=by
  by_cases h:(xs.length:Int)<=1
  . rw[h2 h];exact h0
  have:=h3 (by omega);omega
 have gi:=get_some hi;have hp:(pk bs xs s).1=xs[(nx bs xs.length s).1.toNat]:=by rw[pk];simp[uq6,hi]
 have hp2:(pk bs xs s).2=(nx bs xs.length s).2:=rfl;rw[hp,hp2];clear hp hp2;simp -dsimp -implicitDefEqProofs only[go_sem]
 repeat' first
  |(with_reducible refine ai ?_ ?_)
  |(refine aR [1000000000] ?_;simp -dsimp -implicitDefEqProofs only[go_sem];refine aN (hc _) ?_;simp -dsimp -implicitDefEqProofs only[go_sem,gi])
 all_goals first
  |omega
  |skip
theorem Xf (bs:lU)(h:bs.length<=9223372036854775807):Fn pG 12 [VK bs] true (· =eB (decide ((bs.length:Int)>4096))):=by refine Fn.au 6 [.tmp 2] func12 (hv:=?_);simp -dsimp -implicitDefEqProofs only[go_sem];all_goals first|omega|(simp;done)
theorem IJ (xs ys:lI)(h:xs.length<=9223372036854775807):Fn pG 47 [aM xs,aM ys] true (· =eB (decide (xs=ys))):=by
 refine Fn.au 26 [.tmp 4] func47 (hv:=?_);simp -dsimp -implicitDefEqProofs only[go_sem];repeat' (refine Br.intro (λ_=>?_) (λ_=>?_)<;>try simp -dsimp -implicitDefEqProofs only[go_sem, *])
 . rw[decide_eq_false];intro e;subst e;simp_all
 have h1:xs.length=ys.length:=by simp_all<;>omega
 refine aj.up [0,1] [13] [] xs.length (λi=>xs.take i=ys.take i) (λi=>[(5,eI i)]) (λ_=>[]) rfl ?_ rfl (λi hi hI=>?_) (λhI=>?_)
 . simp -dsimp -implicitDefEqProofs only[go_sem]
 . simp -dsimp -implicitDefEqProofs only [pz,↓reduceIte,j_];have hy:i<ys.length:=(by omega);have no:xs[i]≠ys[i]->decide (xs=ys)=false:=PO hi hy;have yes:xs[i]=ys[i]->xs.take (i+1)=ys.take (i+1):=IA hi hy hI;simp -dsimp -implicitDefEqProofs only [go_sem,aE hi];refine aj.draw mixed rfl ?_;simp -dsimp -implicitDefEqProofs only [go_sem,get_some hi,get_some hy]
   repeat' first
    |(refine Br.intro (λ_=>?_) (λ_=>?_)<;>try simp -dsimp -implicitDefEqProofs only[go_sem, *])
    |(with_reducible refine ai ?_ ?_)
    |fail
   all_goals first
    |omega
    |(refine ⟨?_,?_⟩<;>omega)
    |rfl
    |(rw[no];clear no yes;simp_all;done)
    |(refine yes ?_;clear no yes;simp_all;done)
 simp -dsimp -implicitDefEqProofs only[go_sem,aA];have h3:xs=ys:=by rw[←di (l:=xs),hI,h1,di]
 simp[h3]
def fj (bs:lU):Nat->Int
 |0=>30011
 |i+1=>(fj bs i*67+((bs.getD i 0).toNat:Int)).tmod 2147483647
theorem mT (bs:lU):∀i,0<=fj bs i/\fj bs i<2147483647
 |0=>by simp[fj]
 |i+1=>by have h:=mT bs i;exact sU (by have:=(bs.getD i 0).toNat_lt;omega) (by omega)
def IK (bs:lU):Src:=⟨fj bs (min bs.length 64),0⟩
theorem De (bs:lU):dO (IK bs):=mT bs _
theorem pg {bs:lU}{i:Nat}(h:i<bs.length):fj bs (i+1)=(fj bs i*67+((bs[i]).toNat:Int)).tmod 2147483647:=by rw[fj,uq6,uq7 h];rfl
theorem Mu (xs ys:lI)(h:xs.length<=9223372036854775807):Fn pG 243 [aM xs,aM ys] true (· =eB (decide (xs=ys))):=by
 refine Fn.au 26 [.tmp 4] func243 (hv:=?_);simp -dsimp -implicitDefEqProofs only[go_sem];repeat' (refine Br.intro (λ_=>?_) (λ_=>?_)<;>try simp -dsimp -implicitDefEqProofs only[go_sem, *])
 . rw[decide_eq_false];intro e;subst e;simp_all
 have h1:xs.length=ys.length:=by simp_all<;>omega
 refine aj.up [0,1] [13] [] xs.length (λi=>xs.take i=ys.take i) (λi=>[(5,eI i)]) (λ_=>[]) rfl ?_ rfl (λi hi hI=>?_) (λhI=>?_)
 . simp -dsimp -implicitDefEqProofs only[go_sem]
 . simp -dsimp -implicitDefEqProofs only [pz,↓reduceIte,j_];have hy:i<ys.length:=(by omega);have no:xs[i]≠ys[i]->decide (xs=ys)=false:=PO hi hy;have yes:xs[i]=ys[i]->xs.take (i+1)=ys.take (i+1):=IA hi hy hI;simp -dsimp -implicitDefEqProofs only [go_sem,aE hi];refine aj.draw mixed rfl ?_;simp -dsimp -implicitDefEqProofs only [go_sem,get_some hi,get_some hy]
   repeat' first
    |(refine Br.intro (λ_=>?_) (λ_=>?_)<;>try simp -dsimp -implicitDefEqProofs only[go_sem, *])
    |(with_reducible refine ai ?_ ?_)
    |fail
   all_goals first
    |omega
    |(refine ⟨?_,?_⟩<;>omega)
    |rfl
    |(rw[no];clear no yes;simp_all;done)
    |(refine yes ?_;clear no yes;simp_all;done)
 simp -dsimp -implicitDefEqProofs only[go_sem,aA];have h3:xs=ys:=by rw[←di (l:=xs),hI,h1,di]
 simp[h3]
structure BS where
 ps:lI
 ds:List Bool
 gs:lI
 src:Src
def Zi (ps:lI):Prop:=∀i,i<ps.length-> -1<=ps.getD i 0/\ps.getD i 0<i/\(0<i->0<=ps.getD i 0)
structure Zj (z:BS) (j:Nat):Prop where
 src:dO z.src
 lp:z.ps.length=j+1
 ld:z.ds.length=j+1
 lg:1<=z.gs.length/\z.gs.length<=j+1
 gs:∀g∈z.gs,0<=g/\g<=j
 ps:Zi z.ps
def Xg (ps:lI):Nat->Int->Int->Bool
 |0,_,_=>false
 |k+1,node,other=>if node<0 then false else if (node==other)=true then true else Xg ps k (ps.getD node.toNat 0) other
def VL (ps:lI)(ds:List Bool)(node:Int):lI:=v7 (λi=>ds.getD i false&&Xg ps ps.length (i:Int) node) ds.length
structure Xh where
 ps:lI
 ds:List Bool
 IL:lL
structure YH (p:Xh):Prop where
 lp:p.ps.length<=10
 ld:p.ds.length=p.ps.length
 lr:1<=p.IL.length/\p.IL.length<=4
 rs:∀x∈p.IL,x.length<=11
 ps:Zi p.ps
 some:1<=(VL p.ps p.ds 0).length
theorem F0 (xs:lI)(h:xs.length<=9223372036854775807):Fn pG 47 [aM xs,aM xs] true (· =eB true):=by have:=IJ xs xs h;simpa using this
end Go.Vc
