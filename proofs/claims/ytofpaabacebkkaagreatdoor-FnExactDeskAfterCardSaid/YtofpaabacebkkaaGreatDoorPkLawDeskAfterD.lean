import Derived.RangeFuncFrom
import Derived.RangeFuncLeaves
import Derived.OrdersIn
import Derived.Shelf.Strconv.Itoa4
import Derived.Shelf.Strconv.ParseIntPublic10
import Derived.Shelf.Strings.Split
import Derived.Shelf.Strings.Cut
import Derived.Shelf.Strings.OnBuilder
import Derived.Shelf.Strings.Repeat
import Derived.Ground.NamesProg
import Derived.Test.YtofpaabacebkkaaGreatDoorProg
import Derived.Shelf.SlGeneric
import Derived.Ground.SlgnProg
import Derived.Shelf.SortG.Plain
import Derived.Shelf.SlicesG.CompactI
import Derived.Shelf.SortG.SortNone
import Derived.Lib.ItoaLen
import Derived.Lib.ItoaMem
import Derived.Lib.ParseIntB
import Derived.Lib.Split
import Derived.Lib.CountLaws
import Derived.Lib.IndexBytes
import Derived.Lib.CutLaws
import Derived.Lib.Join
import Derived.Lib.SlicesCompact
import Derived.Sort.Grow
import Derived.Test.YtofpaabacebkkaaGreatDoorPkLawDeskAfterC
open Go.Proofs.Tryz
open Go.Proofs.Tryz renaming prog → pG
set_option linter.unusedVariables false
set_option linter.unusedSimpArgs false
set_option linter.unnecessarySimpa false
set_option maxRecDepth 1000000
set_option maxHeartbeats 16000000
open Array renaming getD_eq_getD_getElem? ->uq0,getElem?_eq_some_iff->uq1,replicate->uq2
open Bool renaming and_eq_true->uq3,false_eq_true->uq4
open List renaming all_eq_true->uq5,getD_eq_getElem?_getD->uq6,getElem?_eq_getElem->uq7,getElem?_eq_some_iff->uq8,getElem_map->uq9,getElem_mem->dD,getElem_of_mem->bW,getElem_take->cr,mem_cons_of_mem->bQ,mem_cons_self->bB,mem_filter->bk,mem_map->bR,mem_of_getElem? ->cK,mem_range->cP,mem_singleton->hZ,nodup_nil->jd,range->cf,range_succ->cH,replicate->cL,take_length->aY,take_succ_eq_append_getElem->bg,toArray->bj
open Nat renaming le_refl->aP,le_trans->fW,lt_irrefl->gB,not_lt_zero->fu,reduceAdd->bx,reduceBEq->bC,reduceDiv->bD,reduceEqDiff->aT
namespace Go.Vc
section
variable {P:Program} {N:Nat} {ts:Env} {m:Mem}
theorem RS.VH {B:eO} {φ:Nat->LS} {fp:Nat->lN} {S:Nat->Prop} {a:Act} {w:World} (hRS:RS B N φ fp S ts m a w) (lb vb j l v i n:Nat) (sh:Sh) (d:Bool) (xs ys:lA) (hl:l<bG) (hb:aj m lb=some (.box vb xs)) (hx:xs[j]? =some (.ref l v i n))
 (hm:aj m l=some (.row v sh d ys)) (hn:i+n<=ys.length):
 RS B N (uI l φ) (Hp l fp) (fun b=>S b\/b∈fp l) ts ((lb,.box vb (xs.set j (.arr sh ((ys.drop i).take n))))::(l,.gone v)::m) a w:=by
 have hf:=hRS.Yh hl hm (v:=v) rfl;have hne:lb≠l:=by rintro rfl;rw [hb] at hm;cases hm
 obtain ⟨hj,hx'⟩:=uq8.1 hx;obtain ⟨b,cs,e,sh2,h1,h2,h3,h4,h5,h6⟩:=hRS.aF lb _ hb;have hrd:=CF hRS hl hm hn (hx'▸h6 j hj);have hb2:aj ((l,bh.gone v)::m) lb=some (.box vb xs):=by rw [aw,if_neg (Ne.symm hne)];exact hb
 have hkn:∀k af,known ((l,bh.gone v)::m) k af->known ((lb,.box vb (xs.set j (.arr sh ((ys.drop i).take n))))::(l,.gone v)::m) k af:=by
  rintro k af ⟨b0,g1,g2⟩;by_cases e:lb=k
  . subst e;rw [hb2] at g1;injection g1 with g1;subst g1
    exact ⟨.box vb (xs.set j (.arr sh ((ys.drop i).take n))),by rw [aw,if_pos rfl],g2⟩
  exact ⟨b0,by rw [aw,if_neg e];exact g1,g2⟩
 refine {hf with tl:=fun t k af hk=>hkn k af (hf.tl t k af hk),bU:=fun k hk=> ?_,aF:=fun k b0 hk=> ?_,bl:=fun k v' zs hk k' af hl'=> ?_,kn:=fun k af hk hk2=>hkn k af (hf.kn k af hk hk2)}
 . rw [aw] at hk;split at hk
   . cases hk
   exact hf.bU k hk
 . rw [aw] at hk;split at hk
   . rename_i e0;subst e0;injection hk with hk
     subst hk;obtain ⟨b',cs',e',sh',g1,g2,g3,g4,g5,g6⟩:=hf.aF lb _ hb2;refine ⟨b',cs',e',sh',g1,g2,g3,by simpa using g4,fun q hq=> ?_,fun q hq=> ?_⟩
     . rw [List.getElem_set];split
       . trivial
       exact g5 q (by simpa using hq)
     rw [List.getElem_set];split
     . rename_i e2;subst e2;refine .rd _ _ ?_;have hbb:b'=b:=by
        have:uI l φ lb=φ lb:=rJ hne;rw [this,h1] at g1;cases g1;rfl
       subst hbb;rw [h3] at g3;injection g3 with g3;injection g3 with g3 _ _
       subst g3;exact hrd
     exact g6 q (by simpa using hq)
   exact hf.aF k b0 hk
 rw [aw] at hk;split at hk
 . rename_i e0;injection hk with hk
   injection hk with _ hk
   subst hk;obtain ⟨q,hq,hlq⟩:=b8 hl';rw [List.getElem_set] at hlq;split at hlq
   . cases hlq
   have hq2:q<xs.length:=by simpa using hq
   exact hkn k' af (hf.bl lb vb xs hb2 k' af (bw hq2 hlq))
 exact hkn k' af (hf.bl k v' zs hk k' af hl')
theorem ak.VH {code:Code} {Q:dh} {q:Pack (code,Q)} (lb vb j l v i n:Nat) (sh:Sh) (d:Bool) (xs ys:lA) (hl:l<bG) (hb:aj m lb=some (.box vb xs)) (hx:xs[j]? =some (.ref l v i n))
 (hm:aj m l=some (.row v sh d ys)) (hn:i+n<=ys.length)
 (h:ak P N code ts ((lb,.box vb (xs.set j (.arr sh ((ys.drop i).take n))))::(l,.gone v)::m) Q q):ak P N code ts m Q q:=
 ⟨fun B φ fp S a w hRS=>h.ok B _ _ _ a w (hRS.VH lb vb j l v i n sh d xs ys hl hb hx hm hn)⟩
end
section
variable {P:Program} {B:eO} {N:Nat} {φ:Nat->LS} {fp:Nat->lN} {S:Nat->Prop} {ts:Env} {m:Mem} {a:Act} {w:World}
theorem oV {f:FuncId} {d:Nat} {xs xt:lA} {m:Mem} {k:AV->Mem->Prop} {q:Pack k} {fn:Func} {c:Code} (K J:Nat) (N:Nat) (rs:List ResultVar) (hf:P.funcs[f]? =some fn) (hN:fn.ntmps=N) (hr:fn.results.toList=rs)
 (hn:(fn.name== "runtime.NumGoroutine")=false) (hb:fn.body=some c) (hok:codeOk N c=true) (ha:xs.length≤N)
 (hv:(oQ (eX K [] m) m/\qj (kO (eX K [] m) m))/\vc P N c (bN 0 (mG (eX K [] m) xs)) (kO (eX K [] m) m)
   (OU P rs fun x m'=>sa (eX J [] m')/\k (rZ (eX K [] m) (pV (eX J [] m') x)) (rY (eX K [] m) (kO (eX J [] m') m')))):eQ P f d xs xt m k q:=by
 subst hN;subst hr;refine .inl fun B N φ fp S ts a w vs hRS hsz hx hxl=>⟨⟨fn,c,hf,hn,hb⟩,?_⟩;refine (s7 J hf hb hok _ hRS hv.1.1 hv.1.2 ha hsz hx hxl hv.2).mono ?_;rintro e w' ⟨v,rfl,φ',fp',S',m',x,g1,g2,g3,g4,_⟩;exact ⟨v,rfl,φ',fp',S',ts,m',x,g1,g2,g3,rfl,g4⟩
inductive Xf (m:Mem):Mem->Prop
 |refl:Xf m m
 |box (lb vb j l v i n:Nat) (sh:Sh) (d:Bool) (xs ys:List AV) (hl:l<bG) (hb:aj m lb=some (.box vb xs)) (hx:xs[j]? =some (.ref l v i n)) (hm:aj m l=some (.row v sh d ys)) (hn:i+n<=ys.length):
   Xf m ((lb,.box vb (xs.set j (.arr sh ((ys.drop i).take n))))::(l,.gone v)::m)
theorem RS.C3 (h:RS B N φ fp S ts m a w) {l v i l2:Nat} {xs ys:lA} {sh2:Sh} (hl:l<bG) (hlk:aj m l=some (.row v ⟨1,false⟩ true xs)) (hx:xs[i]? =some (.arr sh2 ys)) (hy:0<ys.length) (oq:aj m l2=none):
 ∃φ2 fp2 u,RS B N φ2 fp2 S ts ((l2,.sub 0 sh2 ys u)::(l,.row v ⟨1,false⟩ true (xs.set i (.val u)))::m) a w:=by
 obtain ⟨hi,hxi⟩:=uq8.1 hx;have hne:l2≠l:=fun e=>by rw [e,hlk] at oq;cases oq
 rcases h.aF l _ hlk with ⟨_,h0,_⟩|⟨b,cap,hφ,hbm,_,bd⟩
 . rw [h0] at hi;exact absurd hi (fu _)
 simp only [if_true] at bd;rcases gE bd with ⟨h0,_⟩|⟨b',cap',cs,e',fss,q1,hfp,aE,hc,hl',hm,hf,hs,hv⟩
 . rw [h0] at hi;exact absurd hi (fu _)
 simp only [Value.slice.injEq,Option.some.injEq,Addr.mk.injEq] at q1;obtain ⟨⟨rfl,_⟩,_,rfl⟩:=q1;have hvi:=hv i hi;rw [hxi,aW,Nat.mul_one] at hvi;generalize hu:cs.toList.getD i Go.undef=u at hvi;have hlf:i<fss.length:=by omega
 have huo:u.oneCell'=true:=hvi.aU trivial;have Nz:(fss.set i []).set i (fss.getD i [])=fss:=by
  rw [List.set_set];refine List.ext_getElem (by simp) fun j h1 h2=> ?_;rw [List.getElem_set];split
  . rename_i e;subst e;rw [uq6,uq7 hlf];rfl
  rfl
 have sP:fss.flatten.Perm (fss.getD i []++(fss.set i []).flatten):=by
  have:=dR (fss.getD i []) (fss.set i []) i (by simpa using hlf) (by simp [uq6,hlf])
  rwa [Nz] at this
 have hpm:(fp l).Perm (fss.getD i []++(b::(fss.set i []).flatten)):=by rw [hfp];exact (sP.cons b).trans List.perm_middle.symm
 have kb:=hpm.nodup_iff.1 (h.gK l);have kb:=List.nodup_append.1 kb;have hin:∀c,c∈b::(fss.set i []).flatten->c∈fp l:=fun c hc=>hpm.mem_iff.2 (List.mem_append_right _ hc);have zh:∀c,c∈fss.getD i []->c∈fp l:=fun c hc=>hpm.mem_iff.2 (List.mem_append_left _ hc);have R1:RS B N (j1 φ l (φ l)) (j1 fp l (b::(fss.set i []).flatten)) S ts ((l,.row v ⟨1,false⟩ true (xs.set i (.val u)))::m) a w:=by
  refine h.next l (φ l) _ S _ (aP _) (a7.refl _) (je.refl _) (fun _ _ _=>rfl) (fun c hc=>⟨hc,rfl⟩) (fun c h1 h2=>absurd h1 h2) (fun l b sh af cs e _ hb=>⟨cs,e,hb,rfl⟩)
   (fun _ _ _ _=>rfl) (fun af _=>LS.le_refl _ _) ?_ ?_ (fun _ _ hk=>by cases hk) kb.2.1 ?_
  . rintro af ⟨k',h1,h2⟩;rw [hlk] at h1;cases h1;exact h2
  . refine .inr ⟨b,cap,by rw [az];exact hφ,bB ..,fun h=>(by cases h),?_⟩;refine .arr ⟨1,false⟩ (xs.set i (.val u)) b cap cs e' (fss.set i []) aE hc (by simpa using hl') hm (fun j hj=> ?_) (by simpa using hs) fun j hj=> ?_
    . rw [List.getElem_set];split
      . exact ⟨rfl,rfl⟩
      exact hf j (by simpa using hj)
    have hj':j<xs.length:=by simpa using hj
    by_cases e:i=j
    . subst e;have e1:(fss.set i []).getD i []=[]:=by simp [uq6,hlf]
      rw [List.getElem_set_self,e1,aW,Nat.mul_one,hu];exact .rd _ _ (.val _ huo)
    have e1:(fss.set i []).getD j []=fss.getD j []:=by simp [uq6,e]
    rw [List.getElem_set_ne e,e1];exact hv j hj'
  intro c hc;have:=h.cw l c (hin c hc);exact ⟨h.bJ l c (hin c hc),fun l' hl' hc'=>hl' (h.e7 l' l c hc' (hin c hc)),this.1,this.2⟩
 rcases gE hvi with ⟨g1,g2,g3⟩|⟨b2,cap2,cs2,e2,fss2,g1,g2,g3,g4,g5,g6,g7,g8,g9⟩
 . rw [g1] at hy;exact absurd hy (fu _)
 have hno:aj ((l,bh.row v ⟨1,false⟩ true (xs.set i (.val u)))::m) l2=none:=by rw [aw,if_neg (Ne.symm hne)];exact oq
 refine ⟨_,_,u,R1.next l2 (.at b2 sh2 0) (fss.getD i []) S _ (aP _) (a7.refl _) (je.refl _) (fun _ _ _=>rfl) (fun c hc=>⟨hc,rfl⟩) (fun c h1 h2=>absurd h1 h2) (fun l b sh af cs e _ hb=>⟨cs,e,hb,rfl⟩)
  (fun _ _ _ _=>rfl) ?_ ?_ ?_ (fun _ _ hk=>by cases hk) kb.1 ?_⟩
 . rintro af ⟨k',h1,_⟩;rw [hno] at h1;cases h1
 . rintro af ⟨k',h1,_⟩;rw [hno] at h1;cases h1
 . exact ⟨b2,cap2,az _ _ _,by rw [g2];simp,g1,hvi⟩
 intro c hc;have:=h.cw l c (zh c hc);refine ⟨h.bJ l c (zh c hc),fun l' hl' hc'=> ?_,this.1,.inl (this.2.resolve_right fun hh=>gB _ (Nat.lt_of_lt_of_le hl hh.choose_spec.2.1))⟩;by_cases e:l'=l
 . subst e;rw [az] at hc';exact kb.2.2 c hc c hc' rfl
 rw [bp _ _ _ _ e] at hc';exact e (h.e7 l' l c hc' (zh c hc))
theorem RS.J5 (h:RS B N φ fp S ts m a w) {l v i l2 v2:Nat} {xs ys:lA} {sh2:Sh} {u:Value} (hl2:l2<bG) (hlk:aj m l=some (.row v ⟨1,false⟩ true xs)) (hx:xs[i]? =some (.val u)) (kt:aj m l2=some (.sub v2 sh2 ys u)):
 ∃φ2 fp2,RS B N φ2 fp2 S ts ((l,.row v ⟨1,false⟩ true (xs.set i (.arr sh2 ys)))::(l2,.gone v2)::m) a w:=by
 obtain ⟨hi,hxi⟩:=uq8.1 hx;have hne:l2≠l:=fun e=>by rw [e,hlk] at kt;cases kt
 rcases h.aF l _ hlk with ⟨_,h0,_⟩|⟨b,cap,hφ,hbm,_,bd⟩
 . rw [h0] at hi;exact absurd hi (fu _)
 simp only [if_true] at bd;rcases gE bd with ⟨h0,_⟩|⟨b',cap',cs,e',fss,q1,hfp,aE,hc,hl',hm,hf,hs,hv⟩
 . rw [h0] at hi;exact absurd hi (fu _)
 simp only [Value.slice.injEq,Option.some.injEq,Addr.mk.injEq] at q1;obtain ⟨⟨rfl,_⟩,_,rfl⟩:=q1;obtain ⟨b2,cap2,zN,ZY,hu2,XZ⟩:=h.aF l2 _ kt;have hlf:i<fss.length:=by omega
 have hvi:=hv i hi;rw [hxi,aW,Nat.mul_one] at hvi;obtain ⟨hu,hfe,huo⟩:=Cy hvi;have hR1:=h.Rz l2 _ kt S (fun _ h=>h) (fun b h1 h2=>absurd h1 h2);have sP:=dR (fp l2) fss i hlf hfe;have hpm:(b::(fss.set i (fp l2)).flatten).Perm (fp l2++fp l):=by rw [hfp];exact (sP.cons b).trans List.perm_middle.symm
 have Rc:∀c,c∈b::(fss.set i (fp l2)).flatten->c∈fp l2\/c∈fp l:=fun c hc=>List.mem_append.1 (hpm.mem_iff.1 hc);have hnl:l≠l2:=Ne.symm hne;have Wk:j1 φ l2 .dead l=φ l:=bp _ _ _ _ hnl
 refine ⟨_,_,hR1.next l (φ l) (b::(fss.set i (fp l2)).flatten) S _ (aP _) (a7.refl _) (je.refl _) (fun _ _ _=>rfl) (fun c hc=>⟨hc,rfl⟩) (fun c h1 h2=>absurd h1 h2) (fun l b sh af cs e _ hb=>⟨cs,e,hb,rfl⟩)
  (fun _ _ _ _=>rfl) (fun af _=>by rw [Wk];exact LS.le_refl _ _) ?_ ?_ (fun _ _ hk=>by cases hk) ?_ ?_⟩
 . rintro af ⟨k',h1,h2⟩;rw [aw,if_neg hne,hlk] at h1;cases h1;exact h2
 . refine .inr ⟨b,cap,by rw [az];exact hφ,bB ..,fun h=>(by cases h),?_⟩;refine .arr ⟨1,false⟩ (xs.set i (.arr sh2 ys)) b cap cs e' (fss.set i (fp l2)) aE hc (by simpa using hl') hm (fun j hj=> ?_) (by simpa using hs) fun j hj=> ?_
   . rw [List.getElem_set];split
     . exact ⟨rfl,rfl⟩
     exact hf j (by simpa using hj)
   have hj':j<xs.length:=by simpa using hj
   by_cases ej:i=j
   . subst ej;have e1:(fss.set i (fp l2)).getD i []=fp l2:=by simp [uq6,hlf]
     rw [List.getElem_set_self,e1,aW,Nat.mul_one,hu];exact XZ
   have e1:(fss.set i (fp l2)).getD j []=fss.getD j []:=by simp [uq6,ej]
   rw [List.getElem_set_ne ej,e1];exact hv j hj'
 . refine hpm.nodup_iff.2 (List.nodup_append.2 ⟨h.gK l2,h.gK l,fun c h1 c' h2 e=> ?_⟩);subst e;exact hne (h.e7 l2 l c h1 h2)
 intro c hc;have X0:∀l',l'≠l->c∈j1 fp l2 [] l'->c∈fp l'/\l'≠l2:=fun l' hl' hc'=>by
  by_cases e2:l'=l2
  . subst e2;rw [az] at hc';cases hc'
  rw [bp _ _ _ _ e2] at hc';exact ⟨hc',e2⟩
 rcases Rc c hc with hcl|hcl
 . have:=h.cw l2 c hcl;refine ⟨h.bJ l2 c hcl,fun l' hl' hc'=> ?_,this.1,.inl (this.2.resolve_right fun hh=>gB _ (Nat.lt_of_lt_of_le hl2 hh.choose_spec.2.1))⟩;obtain ⟨h1,h2⟩:=X0 l' hl' hc';exact h2 (h.e7 l' l2 c h1 hcl)
 have:=h.cw l c hcl;refine ⟨h.bJ l c hcl,fun l' hl' hc'=> ?_,this.1,this.2⟩;obtain ⟨h1,h2⟩:=X0 l' hl' hc';exact hl' (h.e7 l' l c h1 hcl)
theorem ak.C3 {code:Code} {Q:dh} {q:Pack (code,Q)} (l v i l2:Nat) (xs ys:lA) (sh2:Sh) (hl:l<bG) (hlk:aj m l=some (.row v ⟨1,false⟩ true xs)) (hx:xs[i]? =some (.arr sh2 ys)) (hy:0<ys.length) (oq:aj m l2=none)
 (h:∀u,ak P N code ts ((l2,.sub 0 sh2 ys u)::(l,.row v ⟨1,false⟩ true (xs.set i (.val u)))::m) Q q):ak P N code ts m Q q:=
 ⟨fun B φ fp S a w hRS=>have ⟨_,_,u,hR⟩:=hRS.C3 hl hlk hx hy oq;(h u).ok B _ _ _ a w hR⟩
theorem RS.known (h:RS B N φ fp S ts m a w) {t l v n:Nat} {sh:Sh} {ys:lA} (ht:look ts t= .ref l v 0 n) (htN:t<N) (hlk:aj m l=some (.row v sh true ys)) (hn:n=ys.length) (h0:0<n) (hsz:0<sh.sz):
 ∃φ2 fp2 u,RS B N φ2 fp2 S ((t,.val u)::ts) ((l,.sub v sh ys u)::m) a w:=by
 subst hn;rcases h.aF l _ hlk with ⟨_,e0,_⟩|⟨b,cap,hφ,hbm,_,bd⟩
 . rw [e0] at h0;exact absurd h0 (gB _)
 simp only [if_true] at bd;have htm:=h.tm t;rw [ht] at htm;have hr:=dt htm;obtain ⟨ad,cp,hv,hnc,hcp⟩:=hr.1 b sh hφ;obtain ⟨rfl,cs,e,g1,g2⟩:=hcp.resolve_left (by omega);rw [Nat.zero_mul] at hv;have Q1:=bd;rcases gE bd with ⟨e0,_⟩|⟨b',cap',cs',e',fss,q1,hfp,aE,hc,hl',hm,hf,hs,hvv⟩
 . rw [e0] at h0;exact absurd h0 (gB _)
 simp only [Value.slice.injEq,Option.some.injEq,Addr.mk.injEq] at q1;obtain ⟨⟨rfl,_⟩,_,rfl⟩:=q1;obtain rfl:=df (aE.symm.trans g1);have hcc:cp=cap:=by
  have:cp*sh.sz=cap*sh.sz:=by rw [←hc,g2,Nat.zero_add]
  exact Nat.eq_of_mul_eq_mul_right hsz this
 subst hcc;have R1:RS B N (j1 φ l (φ l)) (j1 fp l (fp l)) S ts ((l,.sub v sh ys (.slice (some ⟨b,0,none⟩) ys.length cp))::m) a w:=by
  refine h.next l (φ l) (fp l) S _ (aP _) (a7.refl _) (je.refl _) (fun _ _ _=>rfl) (fun c hc=>⟨hc,rfl⟩) (fun c h1 h2=>absurd h1 h2) (fun l b sh af cs e _ hb=>⟨cs,e,hb,rfl⟩)
   (fun _ _ _ _=>rfl) (fun af _=>LS.le_refl _ _) ?_ ?_ (fun _ _ hk=>by cases hk) (h.gK l) ?_
  . rintro af ⟨k',h1,h2⟩;rw [hlk] at h1;cases h1;exact h2
  . exact ⟨b,cp,by rw [az];exact hφ,hbm,rfl,Q1⟩
  intro c hc;have:=h.cw l c hc;exact ⟨h.bJ l c hc,fun l' hl' hc'=>hl' (h.e7 l' l c hc' hc),this.1,this.2⟩
 refine ⟨_,_,_,{R1 with tm:=fun t'=> ?_,tl:=fun t' l' af hl'=> ?_}⟩
 . rw [cV];split
   . rename_i e;subst e;rw [hv];exact .rd _ _ (.val _ rfl)
   exact R1.tm t'
 rw [cV] at hl';split at hl'
 . cases hl'
 exact R1.tl t' l' af hl'
theorem ak.known {code:Code} {Q:dh} {q:Pack (code,Q)} (t l v n:Nat) (sh:Sh) (ys:lA) (ht:look ts t= .ref l v 0 n) (htN:t<N) (hlk:aj m l=some (.row v sh true ys)) (hn:n=ys.length) (h0:0<n) (hsz:0<sh.sz)
 (h:∀u,ak P N code ((t,.val u)::ts) ((l,.sub v sh ys u)::m) Q q):ak P N code ts m Q q:=
 ⟨fun B φ fp S a w hRS=>have ⟨_,_,u,hR⟩:=hRS.known ht htN hlk hn h0 hsz;(h u).ok B _ _ _ a w hR⟩
theorem ak.vc {code:Code} {Q:dh} {q:Pack (code,Q)} (hok:codeOk N code=true) (h:vc P N code ts m Q):ak P N code ts m Q q:=⟨cI code _ _ _ hok h⟩
theorem RS.PI (h:RS B N φ fp S ts m a w) {l v:Nat} {sh:Sh} {xs:lA} (hio:l<bG) (hlk:aj m l=some (.row v sh true xs)):∃fp2 S2,RS B N φ fp2 S2 ts ((l,.row v sh false xs)::m) a w/\∀c,S c->S2 c:=by
 have UF:j1 φ l (φ l)=φ:=funext fun k=>by unfold j1;split<;>simp_all
 rcases h.aF l _ hlk with ⟨h1,h2,h3⟩|⟨b,cap,hφ,hbm,_,bd⟩
 . have hR:=h.next l (φ l) [] S (.row v sh false xs) (aP _) (a7.refl _) (je.refl _) (fun _ _ _=>rfl) (fun c hc=>⟨hc,rfl⟩) (fun c h1 h2=>absurd h1 h2) (fun l b sh af cs e _ hb=>⟨cs,e,hb,rfl⟩)
    (fun _ _ _ _=>rfl) (fun af _=>LS.le_refl _ _) (by
      rintro af ⟨k',g1,g2⟩
      rw [hlk] at g1;cases g1;exact g2) (.inl ⟨by rw [az];exact h1,h2,rfl⟩) (fun _ _ hk=>by cases hk) jd (fun c hc=>by cases hc)
   rw [UF] at hR;exact ⟨_,_,hR,fun _ h=>h⟩
 simp only [if_true] at bd;obtain ⟨cs,e,fss,hgf,aE,hcs,cj,hmx,hff,hfl,hvv⟩:=gG bd hbm;obtain ⟨S',hR,hS,_⟩:=h.Cw hlk hφ hgf aE hcs cj hmx hff hfl hvv hio;rw [UF] at hR;exact ⟨_,_,hR,hS⟩
theorem RS.Te (h:RS B N φ fp S ts m a w) {l v:Nat} {sh:Sh} {xs:lA} (hio:l<bG) (hlk:aj m l=some (.row v sh true xs)):∃φ2 fp2 S2,RS B N φ2 fp2 S2 ts ((l,.row v sh false xs)::m) a w:=
 have ⟨_,_,hR,_⟩:=h.PI hio hlk
 ⟨_,_,_,hR⟩
end
def hk (P:Program) (n:St):St:=fun ts m=>∀(B:eO) (N:Nat) (φ:Nat->LS) (fp:Nat->lN) (S:Nat->Prop) (a:Act) (w:World),RS B N φ fp S ts m a w->∃φ2 fp2 S2 ts2 m2,RS B N φ2 fp2 S2 ts2 m2 a w/\n ts2 m2
@[congr] theorem Xg {P:Program} {n:St} {ts ts':Env} {m m':Mem} (h:ts=ts') (h2:m=m'):hk P n ts m=hk P n ts' m':=by rw [h,h2]
theorem hk.go {P:Program} {n:St} {ts:Env} {m:Mem} (h:n ts m):hk P n ts m:=fun _ _ _ _ _ _ _ hR=>⟨_,_,_,_,_,hR,h⟩
theorem hk.back {P:Program} {n:St} {ts:Env} {m:Mem} (l v i l2 v2:Nat) (xs ys:lA) (sh2:Sh) (u:Value) (hl2:l2<bG) (hlk:aj m l=some (.row v ⟨1,false⟩ true xs)) (hx:xs[i]? =some (.val u)) (kt:aj m l2=some (.sub v2 sh2 ys u))
 (h:hk P n ts ((l,.row v ⟨1,false⟩ true (xs.set i (.arr sh2 ys)))::(l2,.gone v2)::m)):hk P n ts m:=fun B N _ _ _ a w hR=>
 have ⟨_,_,hR2⟩:=hR.J5 hl2 hlk hx kt
 h B N _ _ _ a w hR2
theorem ak.VI {P:Program} {N:Nat} {ts:Env} {m:Mem} {code:Code} {Q:dh} {q:Pack (code,Q)} (h:ak P N code ts m (zt Q (hk P (Q .normal))) ⟨⟩):ak P N code ts m Q q:=by
 refine ⟨fun B φ fp S a w hRS=>wp_mono (h.ok B φ fp S a w hRS) fun e a' w' hq=> ?_⟩;obtain ⟨φ',fp',S',ts',m',h1,h2⟩:=hq;cases e with
 |normal=>
  obtain ⟨φ2,fp2,S2,ts2,m2,hR,hn⟩:=h2 B N φ' fp' S' a' w' h1;exact ⟨φ2,fp2,S2,ts2,m2,hR,hn⟩
 |_=>exact ⟨φ',fp',S',ts',m',h1,h2⟩
inductive yd:Env->Mem->Env->Mem->Prop
 |here {ts:Env} {m:Mem} {ts2:Env} {m2:Mem} (h:rS ts m ts2 m2):yd ts m ts2 m2
 |mv {ts:Env} {m:Mem} {ts2:Env} {m2:Mem} (l l':Nat) (hl:l<bG) (hl':l'<bG) (h:yd (HJ l l' ts) (xN l l' m) ts2 m2):yd ts m ts2 m2
 |back {ts:Env} {m:Mem} {ts2:Env} {m2:Mem} (l v i l2 v2:Nat) (xs ys:List AV) (sh2:Sh) (u:Value) (hl2:l2<bG) (hlk:aj m l=some (.row v ⟨1,false⟩ true xs)) (hx:xs[i]? =some (.val u)) (kt:aj m l2=some (.sub v2 sh2 ys u))
   (h:yd ts ((l,.row v ⟨1,false⟩ true (xs.set i (.arr sh2 ys)))::(l2,.gone v2)::m) ts2 m2):yd ts m ts2 m2
section
variable {B:eO} {N:Nat} {S:Nat->Prop} {ts:Env} {m:Mem} {a:Act} {w:World} {P:Program}
theorem RS.J6 {ts2:Env} {m2:Mem} (hr:yd ts m ts2 m2):∀{φ:Nat->LS} {fp:Nat->lN},RS B N φ fp S ts m a w->∃φ' fp' S',RS B N φ' fp' S' ts2 m2 a w:=by
 induction hr with
 |here h=>intro φ fp hR;exact ⟨_,_,_,hR.refine h⟩
 |mv l l' hl hl' _ ih=>intro φ fp hR;exact ih (hR.DR hl hl')
 |back l v i l2 v2 xs ys sh2 u hl2 hlk hx kt _ ih=>
  intro φ fp hR;obtain ⟨_,_,hR2⟩:=hR.J5 hl2 hlk hx kt;exact ih hR2
theorem Ok.Xh {body:Code} {ι:Type} (I:ι->Prop) (σ:ι->Env × Mem) (μ:ι->Nat) {Q:dh} (x0:ι) (h0:I x0) (hr:yd ts m (σ x0).1 (σ x0).2)
 (step:∀x,I x->Ok P N body (σ x).1 (σ x).2 (zt Q fun ts' m'=>∃y,I y/\μ y<μ x/\yd ts' m' (σ y).1 (σ y).2)):Ok P N (.loop body) ts m Q:=by
 intro B φ fp S a w hRS;obtain ⟨DP,fp0,S0,hR0⟩:=hRS.J6 hr;refine wp_loop_ghost (fun n a w=>∃x φ fp S,I x/\μ x=n/\RS B N φ fp S (σ x).1 (σ x).2 a w) (μ x0) ⟨x0,_,_,_,h0,rfl,hR0⟩ ?_;rintro n a w ⟨x,φ,fp,S,hx,rfl,hRS⟩;refine wp_mono (step x hx B φ fp S a w hRS) fun e a' w' hq=> ?_;obtain ⟨φ',fp',S',ts',m',h1,h2⟩:=hq;cases e with
 |normal=>
  obtain ⟨y,hy,hlt,Wr⟩:=h2;obtain ⟨φ3,fp3,S3,hR3⟩:=h1.J6 Wr;exact ⟨μ y,hlt,y,_,_,_,hy,rfl,hR3⟩
 |_=>exact ⟨φ',fp',S',ts',m',h1,h2⟩
theorem ak.ZI {body:Code} (L D E:lN) (n:Nat) (I:Nat->Prop) (up:Nat->Env) (um:Nat->Mem) {Q:dh} {q:Pack (Code.loop body,Q)} (h0:I 0)
 (hr:yd ts m (up 0++pick L ts) (um 0++iB D E m)) (hok:codeOk N body=true)
 (step:∀i,i<n->I i->ak P N body (up i++pick L ts) (um i++iB D E m) (zt Q fun ts' m'=>I (i+1)/\yd ts' m' (up (i+1)++pick L ts) (um (i+1)++iB D E m)) ⟨⟩)
 (stop:I n->ak P N body (up n++pick L ts) (um n++iB D E m) (zt Q fun _ _=>False) ⟨⟩):ak P N (.loop body) ts m Q q:=by
 refine ⟨Ok.Xh (fun i=>i<=n/\I i) (fun i=>(up i++pick L ts,um i++iB D E m)) (fun i=>n-i) 0 ⟨Nat.zero_le _,h0⟩ hr fun i ⟨hi,hI⟩=> ?_⟩;rcases Nat.lt_or_ge i n with h|h
 . refine Ok.mono (step i h hI).ok fun e ts' m' hq=> ?_;cases e with
   |normal=>exact ⟨i+1,⟨h,hq.1⟩,by omega,hq.2⟩
   |_=>exact hq
 have e:i=n:=Nat.le_antisymm hi h;subst e;refine Ok.mono (stop hI).ok fun e ts' m' hq=> ?_;cases e with
 |normal=>exact hq.elim
 |_=>exact hq
end
section
variable {P:Program} {B:eO} {N:Nat} {φ:Nat->LS} {fp:Nat->lN} {S:Nat->Prop} {ts:Env} {m:Mem} {a:Act} {w:World}
theorem ak.VJ {x y:Code} {Q:dh} {q:Pack (Code.seq x y,Q)} (hok:codeOk N x=true) (h:Go.Vc.vc P N x ts m (zt Q fun ts' m'=>ak P N y ts' m' Q ⟨⟩)):ak P N (.seq x y) ts m Q q:=⟨fun B φ fp S ac w hRS=>by
 refine wp_seq (wp_mono (cI x ts m _ hok h B φ fp S ac w hRS) fun e a' w' hq=> ?_);obtain ⟨φ',fp',S',ts',m',h1,h2⟩:=hq;cases e with
 |normal=>exact h2.ok B φ' fp' S' a' w' h1
 |_=>exact ⟨φ',fp',S',ts',m',h1,h2⟩⟩
theorem ak.Yv {x y:Code} {Q:dh} {q:Pack (Code.seq x y,Q)} (h:ak P N x ts m (zt Q fun ts' m'=>ak P N y ts' m' Q ⟨⟩) ⟨⟩):ak P N (.seq x y) ts m Q q:=⟨fun B φ fp S ac w hRS=>by
 refine wp_seq (wp_mono (h.ok B φ fp S ac w hRS) fun e a' w' hq=> ?_);obtain ⟨φ',fp',S',ts',m',h1,h2⟩:=hq;cases e with
 |normal=>exact h2.ok B φ' fp' S' a' w' h1
 |_=>exact ⟨φ',fp',S',ts',m',h1,h2⟩⟩
theorem ak.VK {id:Nat} {x:Code} {Q:dh} {q:Pack (Code.block id x,Q)} (h:ak P N x ts m (pt Q id) ⟨⟩):ak P N (.block id x) ts m Q q:=⟨fun B φ fp S ac w hRS=>by
 refine wp_block (wp_mono (h.ok B φ fp S ac w hRS) fun e a' w' hq=> ?_);obtain ⟨φ',fp',S',ts',m',h1,h2⟩:=hq;cases e with
 |exit j=>
  simp only [pt] at h2;simp only [Exit.inBlock];split
  . rename_i hj;rw [if_pos hj] at h2;exact ⟨φ',fp',S',ts',m',h1,h2⟩
  rename_i hj;rw [if_neg hj] at h2;exact ⟨φ',fp',S',ts',m',h1,h2⟩
 |_=>exact ⟨φ',fp',S',ts',m',h1,h2⟩⟩
def nw (P:Program) (N:Nat) (n:St):St:=fun ts m=>∀(B:eO) (φ:Nat->LS) (fp:Nat->lN) (S:Nat->Prop) (a:Act) (w:World),RS B N φ fp S ts m a w->∃φ2 fp2 S2 ts2 m2,RS B N φ2 fp2 S2 ts2 m2 a w/\n ts2 m2
@[congr] theorem WM {P:Program} {N:Nat} {n:St} {ts ts':Env} {m m':Mem} (h:ts=ts') (h2:m=m'):nw P N n ts m=nw P N n ts' m':=by rw [h,h2]
theorem nw.known {n:St} (t l v k:Nat) (sh:Sh) (ys:lA) (ht:look ts t= .ref l v 0 k) (htN:t<N) (hlk:aj m l=some (.row v sh true ys)) (hn:k=ys.length) (h0:0<k) (hsz:0<sh.sz)
 (h:∀u,n ((t,.val u)::ts) ((l,.sub v sh ys u)::m)):nw P N n ts m:=fun _ _ _ _ _ _ hRS=>have ⟨_,_,u,hR⟩:=hRS.known ht htN hlk hn h0 hsz;⟨_,_,_,_,_,hR,h u⟩
theorem Fn.shared {f:FuncId} {args:lA} {post:AV->Prop} (h:Fn P f args true post):Fn P f args false post:=
 ⟨h.1,fun w S vs h1 hk h2 h3=>(h.2 w S vs h1 hk h2 h3).mono fun _ _ ⟨r,v,g1,g2,g3,g4⟩=>⟨r,v,g1,g2,g3,by
   simp only [iN,if_true] at g4;obtain ⟨fs,hO,_,hge⟩:=g4;simp only [iN,uq4,if_false]
   exact hO.mh (fun _ h=>h.elim) fun b hb=>.inr ⟨hge b hb,hO.lt b hb⟩⟩⟩
structure Iq (w w':World) (b' c' n i:Nat) (JB:Nat->Value) (x:Value):Prop where
 lt:b'<w'.heap.size
 room:n+1<=c'
 max:c'<=maxLen
 row:∃(cs':aV) (e':El),w'.heap[b']? =some (eo cs' e')/\cs'.size=c'/\∀p,p<n+1->cs'.toList.getD p Go.undef=if p<i then JB p else if p=i then x else JB (p-1)
 Z1:∀c:Nat,c≠b'->c<w.heap.size->w'.heap[c]? =w.heap[c]?
 Zs:w.heap.size<=w'.heap.size
 out:a7 w w'
structure Yj (P:Program) (f:FuncId):Prop where
 enters:Enters P f
 at_:∀(w:World) (b vb c vc i n:Nat) (cs cv:aV) (e:El) (ev:TypeId) (x:Value),w.heap[b]? =some (eo cs e)->cs.size=c->n<=c->i<=n->n+1<=1073741824->c<=maxLen->vb≠b->w.heap[vb]? =some (.cells cv ev (0,0))->cv[0]? =some x->x.oneCell'=true→
  (∀v,v∈cs.toList.take n->v.oneCell'=true)->0<n→
  Calls P f #[.slice (some ⟨b,0,none⟩) n c,.int .i64 i,.slice (some ⟨vb,0,none⟩) 1 vc] w fun e' w'=>∃b' c',e'= .returned (.slice (some ⟨b',0,none⟩) (n+1) c')/\Iq w w' b' c' n i (fun p=>cs.toList.getD p Go.undef) x/\(b'=b/\c'=c\/b'=w.heap.size)
 ZJ:∀(w:World) (ad:Option Addr) (vb c vc:Nat) (cv:aV) (ev:TypeId) (x:Value),w.heap[vb]? =some (.cells cv ev (0,0))->cv[0]? =some x->x.oneCell'=true->c=0→
  Calls P f #[.slice ad 0 c,.int .i64 0,.slice (some ⟨vb,0,none⟩) 1 vc] w fun e' w'=>∃b' c',e'= .returned (.slice (some ⟨b',0,none⟩) 1 c')/\Iq w w' b' c' 0 0 (fun _=>Go.undef) x/\b'=w.heap.size
 Zt:∀(w:World) (b vb c vc:Nat) (cs cv:aV) (e:El) (ev:TypeId) (x:Value),w.heap[b]? =some (eo cs e)->cs.size=c->1<=c->c<=maxLen->vb≠b->w.heap[vb]? =some (.cells cv ev (0,0))->cv[0]? =some x->x.oneCell'=true→
  Calls P f #[.slice (some ⟨b,0,none⟩) 0 c,.int .i64 0,.slice (some ⟨vb,0,none⟩) 1 vc] w fun e' w'=>∃b' c',e'= .returned (.slice (some ⟨b',0,none⟩) 1 c')/\Iq w w' b' c' 0 0 (fun _=>Go.undef) x/\(b'=b/\c'=c)
theorem Ir {n j:Nat} (h:j<n):(cf (n-j)).map (· +j)=j::(cf (n-(j+1))).map (· +(j+1)):=by rw [show n-j=(n-(j+1))+1 by omega,List.range_succ_eq_map];simp [List.map_map,Function.comp_def];intro q hq;omega
theorem sr {ops:List Oper} {n:Nat} (hok:jM N ops=true) (dC:((ops.take n).all fun o=>o.guard.isNone)=true) (hn:n<=ops.length) {Q:Exit->Act->World->Prop} {K:St}
 (hQ:∀φ fp S ts m a w,RS B N φ fp S ts m a w->K ts m->wpOps P ops.toArray Q ((cf (ops.length-n)).map (· +n)) a w):
 ∀(l:List Oper) (i:Nat),(ops.take n).drop i=l->i<=n->∀(φ:Nat->LS) (fp:Nat->lN) (S:Nat->Prop) (ts:Env) (m:Mem) (a:Act) (w:World),RS B N φ fp S ts m a w->sL P ops l ts m K→
  wpOps P ops.toArray Q ((cf (ops.length-i)).map (· +i)) a w
 | [],i,hl,hin,φ,fp,S,ts,m,a,w,h,hk=>by
   have:i=n:=by have:=congrArg List.length hl;simp at this;omega
   subst this;exact hQ φ fp S ts m a w h hk
 |o::r,i,hl,hin,φ,fp,S,ts,m,a,w,h,hk=>by
  have hi':i<n:=by have:=congrArg List.length hl;simp at this;omega
  have hi:i<ops.length:=by omega
  have Ww:(ops.take n)[i]? =some o:=by have:=congrArg (·[0]?) hl;simpa using this
  have hoi:ops[i]? =some o:=by rw [List.getElem?_take,if_pos hi'] at Ww;exact Ww
  have hg:o.guard=none:=by have:=uq5.1 dC o (cK Ww);simpa using this
  have hr:(ops.take n).drop (i+1)=r:=by have:=congrArg List.tail hl;simpa using this
  rw [Ir hi];have hoo:ops.toArray[i]? =some o:=by simpa using hoi
  simp only [wpOps,hoo];have hdo:∀d,o.dst=some d->d<N:=by intro d hd;have:=uq5.1 hok o (cK hoi);rw [hd] at this;simpa using this
  simp only [sL,hg] at hk;simp only [Region.wanted,hg,if_true];refine .inl (gm h hk fun v w' hgv=> ?_);obtain ⟨φ',fp',S',ts',m',h1,h2⟩:=step_done (o:=o) (K:=fun ts m=>sL P ops r ts m K) hdo hgv (fun x m' h=>h);exact sr hok dC hn hQ r (i+1) hr (by omega) φ' fp' S' ts' m' _ w' h1 h2
end
def ye (ops:List Oper) (n:Nat):Bool:=uT ops&&(cf ops.length).all fun j=>decide (j<n)||(cf j).all fun i=>((xS ops []).getD j []).contains i
section
variable {P:Program} {B:eO} {N:Nat} {φ:Nat->LS} {fp:Nat->lN} {S:Nat->Prop} {ts:Env} {m:Mem} {a:Act} {w:World}
variable {os:Nat->Oper} {qs:Nat->Rec} {D D':Nat->Bool} {ops:List Oper} {tr:List (lN × lN)}
theorem FD {n:Nat} (h:ye ops n=true) (hD:ik ops D) {j:Nat} (hj:j<ops.length) (hn:n<=j) (hd:D j=true):∀i,i<j->D i=true:=by
 intro i hi;simp only [ye,uq3,uq5,cP,Bool.or_eq_true,decide_eq_true_eq,List.contains_eq_mem] at h;rcases h.2 j hj with h1|h1
 . omega
 exact jE hD ops [] rfl (fun j x hx=>by simp at hx) j i (h1 i hi) hd
theorem C4 {n:Nat} (h:ye ops n=true):∀i o,ops[i]? =some o->∀p,p∈iA o->p<i:=by intro i o ho p hp;simp only [ye,uT,uq3,uq5,cP] at h;have:=h.1 i (uq8.1 ho).1;rw [ho] at this;simpa using uq5.1 this p hp
def Yk (ops:List Oper) (k:Nat) (listed:Array Bool):Prop:=listed.size=ops.length/\∀i,i<ops.length->listed.getD i false=decide (i<k)
theorem Is {n:Nat} (hs:ye ops n=true) (hok:jM N ops=true) (hgs:di N ops=true) {Q:Exit->Act->World->Prop} {K:St} (hQ:∀a w,ie B N K a w->Q .normal a w):
 ∀(c k fuel:Nat) (listed:Array Bool) (φ:Nat->LS) (fp:Nat->lN) (S:Nat->Prop) (ts:Env) (m:Mem) (a:Act) (w:World),c=ops.length-k->n<=k->k<=ops.length->Yk ops k listed->ops.length-k<=fuel→
  RS B N φ fp S ts m a w->sL P ops (ops.drop k) ts m K->wpAny P .any ops.toArray Q fuel listed a w:=by
 intro c;induction c with
 |zero=>
  intro k fuel listed φ fp S ts m a w hc hnk hk hu hf h hsl;have hkl:k=ops.length:=by omega
  subst hkl;rw [List.drop_length] at hsl;have cF:Q .normal a w:=hQ a w ⟨φ,fp,S,ts,m,h,hsl⟩;have hr:Region.ready .any ops.toArray listed=[]:=by
   cases hr:Region.ready .any ops.toArray listed with
   |nil=>rfl
   |cons j r=>
    have hj:j∈Region.ready .any ops.toArray listed:=by rw [hr];exact bB ..
    obtain ⟨h0,o,ho,_⟩:=mem_ready.1 hj;have hjn:j<ops.length:=by simpa using (uq1.1 ho).1
    have:=hu.2 j hjn;rw [getD_both h0] at this;simp at this;omega
  cases fuel with
  |zero=>exact ⟨hr,cF⟩
  |succ fuel=>exact ⟨fun _=>cF,fun i hi=>by rw [hr] at hi;cases hi⟩
 |succ c ih=>
  intro k fuel listed φ fp S ts m a w hc hnk hk hu hf h hsl;have hkl:k<ops.length:=by omega
  have me:ops[k]? =some ops[k]:=uq7 hkl;rw [List.drop_eq_getElem_cons hkl] at hsl;generalize ops[k]=o at me hsl;obtain ⟨fuel,rfl⟩:∃f,fuel=f+1:=⟨fuel-1,by omega⟩;have DJ:ik ops (fun i=>listed.getD i false):=by intro j oj hoj hdj i hi;have hjn:=(uq8.1 hoj).1;have h1:=hu.2 j hjn;have h2:=C4 hs j oj hoj i hi;have h3:=hu.2 i (by omega);simp only at hdj ⊢;rw [h1] at hdj;rw [h3];simp at hdj ⊢;omega
  have zk:k∈Region.ready .any ops.toArray listed:=by
   refine mem_ready.2 ⟨?_,o,by simpa using me,fun e he hb=> ?_⟩
   . have h5:listed.getD k false=false:=by rw [hu.2 k hkl];exact dF (gB k)
     exact getD_in (by rw [hu.1];exact hkl) h5
   have hp:e.on∈iA o:=bR.2 ⟨e,bk.2 ⟨by simpa using he,hb⟩,rfl⟩;have hlt:=C4 hs k o me _ hp;rw [hu.2 e.on (by omega)];simpa using hlt
  refine ⟨fun hr=>(by rw [hr] at zk;exact absurd zk List.not_mem_nil),fun j hj=> ?_⟩;obtain ⟨h0,oj,hoj,dC⟩:=mem_ready.1 hj;have hdj:listed.getD j false=false:=getD_both h0;have ua:ops[j]? =some oj:=by simpa using hoj
  have hjn:j<ops.length:=(uq8.1 ua).1;have hjk:k<=j:=by have:=hu.2 j hjn;rw [hdj] at this;simp at this;omega
  have hp:∀i,i∈iA oj->listed.getD i false=true:=by intro i hi;obtain ⟨e,he,rfl⟩:=bR.1 hi;obtain ⟨he1,he2⟩:=bk.1 he;exact dC e (by simpa using he1) he2
  have e:j=k:=by
   rcases Nat.lt_or_ge k j with hlt|hge
   . have Q2:=DJ.add ua hp;have:=FD hs Q2 hjn (by omega) (by simp [iU]) k hlt;simp only [iU,hu.2 k hkl,Bool.or_eq_true,beq_iff_eq] at this;simp at this;omega
   omega
  subst e;rw [me] at ua;injection ua with ua
  subst ua;have hup:Yk ops (j+1) (listed.setIfInBounds j true):=by
   refine ⟨by simp [hu.1],fun i hi=> ?_⟩;by_cases e:i=j
   . subst e;simp [hu.1,hi]
   rw [getD_set_ne false (Ne.symm e),hu.2 i hi];simp;omega
  have hdo:∀d,o.dst=some d->d<N:=by intro d hd;have:=uq5.1 hok o (cK me);rw [hd] at this;simpa using this
  have next:∀a' w',ie B N (fun ts m=>sL P ops (ops.drop (j+1)) ts m K) a' w'->wpAny P .any ops.toArray Q fuel (listed.setIfInBounds j true) a' w':=by rintro a' w' ⟨φ',fp',S',ts',m',h',hk'⟩;exact ih (j+1) fuel _ φ' fp' S' ts' m' a' w' (by omega) (by omega) (by omega) hup (by omega) h' hk'
  unfold wpOp;have hoA:ops.toArray[j]? =some o:=by simpa using me
  simp only [hoA];simp only [sL] at hsl;cases hg:o.guard with
  |none=>
   rw [hg] at hsl;rw [cC h hgs me (show cS ops o ts=some true by simp [cS,hg])];simp only [if_true];exact .inl (gm h hsl fun v w' hgv=>next _ _ (step_done hdo hgv fun x m' hx=>hx))
  |some jw=>
   obtain ⟨g,want⟩:=jw;rw [hg] at hsl;simp only at hsl;unfold gp at hsl;split at hsl
   . rename_i c hy;by_cases hcw:c=want
     . subst hcw;rw [cC h hgs me (show cS ops o ts=some true by simp [cS,hg,hy])];simp only [if_true];exact .inl (gm h (hsl.1 rfl) fun v w' hgv=>next _ _ (step_done hdo hgv fun x m' hx=>hx))
     rw [cC h hgs me (show cS ops o ts=some false by simp [cS,hg,hy,hcw])];simp only [uq4,if_false];have hk2:=hsl.2 hcw;refine next _ _ (step_done (k:=fun x m'=>x= .aZ []/\m'=m) hdo (h.gives (x:=.aZ []) (.rd _ _ (.aZ [] #[] rfl fun i hi=>absurd hi (fu _))) (fun _ _ hl=>by cases hl) ⟨rfl,rfl,rfl⟩) fun x m' ⟨h1,h2⟩=> ?_)
     rw [h1,h2];exact hk2
   . rename_i hy;rw [cC h hgs me (show cS ops o ts=some false by simp [cS,hg,hy])];simp only [uq4,if_false];refine next _ _ (step_done (k:=fun x m'=>x= .aZ []/\m'=m) hdo (h.gives (x:=.aZ []) (.rd _ _ (.aZ [] #[] rfl fun i hi=>absurd hi (fu _))) (fun _ _ hl=>by cases hl) ⟨rfl,rfl,rfl⟩) fun x m' ⟨h1,h2⟩=> ?_)
     rw [h1,h2];exact hsl
   exact hsl.elim
theorem yf {f:Nat->Bool} {n:Nat}:∀N,(∀i,n<=i->i<N->f i=true)->N-n<=(cf N).countP f
 |0,_=>by omega
 |N+1,h=>by
  rw [cH,List.countP_append];have:=yf (f:=f) (n:=n) N fun i h1 h2=>h i h1 (by omega);by_cases e:n<=N
  . have h1:=h N e (by omega);have h2:List.countP f [N]=1:=by simp [h1]
    omega
  omega
theorem kS {n i:Nat} (h:i<n):(ops.take n)[i]? =ops[i]? :=by rw [List.getElem?_take];simp [h]
def It (n:Nat) (ops:List Oper):Bool:=(ops.take n).all fun o=>match o.guard with|some (j,_)=>decide (j<n)|none=>true
theorem yg {n j:Nat} {o:Oper} (hg:It n ops=true) (ho:(ops.take n)[j]? =some o) (ts:Env):cS (ops.take n) o ts=cS ops o ts:=by
 have:=uq5.1 hg o (cK ho);unfold cS;cases hg:o.guard with
 |none=>rfl
 |some iv=>
  obtain ⟨i,v⟩:=iv;rw [hg] at this;simp only [decide_eq_true_eq] at this;simp only [jL];rw [kS this]
theorem Iu {n:Nat} (hn:n<=ops.length) (hs:ye ops n=true) (hgl:It n ops=true) {ts0:Env} {m0:Mem} (hR:SO P 0 (ops.take n) os qs tr ts0 m0) (hB:mL (ops.take n) tr=true) (hok:jM N ops=true) (hgs:di N ops=true) {Q:Exit->Act->World->Prop} {K:St}
 (hK:sL P ops (ops.drop n) (dx os qs (fun _=>true) ts0 m0 n).1 (dx os qs (fun _=>true) ts0 m0 n).2 K) (hQ:∀a w,ie B N K a w->Q .normal a w):
 ∀(fuel:Nat) (listed:Array Bool) (φ:Nat->LS) (fp:Nat->lN) (S:Nat->Prop) (a:Act) (w:World),listed.size=ops.length->ik ops (fun i=>listed.getD i false)->(∀i,n<=i->listed.getD i false=false)->CQ ops.length listed<=fuel→
  RS B N φ fp S (dx os qs (fun i=>listed.getD i false) ts0 m0 n).1 (dx os qs (fun i=>listed.getD i false) ts0 m0 n).2 a w->wpAny P .any ops.toArray Q fuel listed a w:=by
 have hlen:(ops.take n).length=n:=by simp;omega
 have qv:=C4 hs
 have full:∀(fuel:Nat) (listed:Array Bool) (φ:Nat->LS) (fp:Nat->lN) (S:Nat->Prop) (a:Act) (w:World),listed.size=ops.length->(∀i,n<=i->listed.getD i false=false)->CQ ops.length listed<=fuel→
  (∀i,i<n->listed.getD i false=true)->RS B N φ fp S (dx os qs (fun i=>listed.getD i false) ts0 m0 n).1 (dx os qs (fun i=>listed.getD i false) ts0 m0 n).2 a w->wpAny P .any ops.toArray Q fuel listed a w:=by
  intro fuel listed φ fp S a w hsz hlo hf cX h;have e:dx os qs (fun i=>listed.getD i false) ts0 m0 n=dx os qs (fun _=>true) ts0 m0 n:=kP n (aP _) fun q hq=>cX q hq;rw [e] at h;refine Is hs hok hgs hQ _ n fuel listed φ fp S _ _ a w rfl (aP _) hn ⟨hsz,fun i _=> ?_⟩ ?_ h hK
  . by_cases hi:i<n
    . rw [cX i hi];simp [hi]
    rw [hlo i (by omega)];simp [hi]
  refine fW (yf _ fun i h1 _=> ?_) hf;rw [hlo i h1];rfl
 intro fuel;induction fuel with
 |zero=>
  intro listed φ fp S a w hsz hc hlo hf h;refine full 0 listed φ fp S a w hsz hlo hf (fun i hi=> ?_) h;cases hl:listed.getD i false with
  |true=>rfl
  |false=>
   have h0:CQ ops.length listed=0:=Nat.le_zero.1 hf;have:=List.countP_eq_zero.1 h0 i (cP.2 (by omega));rw [hl] at this;exact absurd rfl this
 |succ fuel ih=>
  intro listed φ fp S a w hsz hc hlo hf h;by_cases cX:∀i,i<n->listed.getD i false=true
  . exact full _ listed φ fp S a w hsz hlo hf cX h
  obtain ⟨i0,hi0⟩:=Classical.not_forall.1 cX;obtain ⟨X1,hi0⟩:=Classical.not_imp.1 hi0;have hi0:listed.getD i0 false=false:=by simpa using hi0
  refine ⟨fun hr=> ?_,fun j hj=> ?_⟩
  . exfalso;have:∀i,i<ops.length->listed.getD i false=true:=by
     intro i;induction i using Nat.strongRecOn with
     |ind i ih=>
      intro hi;cases hl:listed.getD i false with
      |true=>rfl
      |false=>
       have ho:ops[i]? =some ops[i]:=uq7 hi
       have:i∈Region.ready .any ops.toArray listed:=mem_ready.2 ⟨getD_in (by omega) hl,ops[i],by simpa using ho,fun e he hb=>by
        have hp:e.on∈iA ops[i]:=bR.2 ⟨e,bk.2 ⟨by simpa using he,hb⟩,rfl⟩;have hlt:=qv i _ ho _ hp
        exact ih e.on hlt (by omega)⟩
       rw [hr] at this;cases this
    rw [this i0 (by omega)] at hi0;cases hi0
  obtain ⟨h0,o,ho,dC⟩:=mem_ready.1 hj;have hdj:listed.getD j false=false:=getD_both h0;have ho':ops[j]? =some o:=by simpa using ho
  have hjn:j<ops.length:=(uq8.1 ho').1;have hp:∀i,i∈iA o->listed.getD i false=true:=by intro i hi;obtain ⟨e,he,rfl⟩:=bR.1 hi;obtain ⟨he1,he2⟩:=bk.1 he;exact dC e (by simpa using he1) he2
  have Wx:j<n:=by
   rcases Nat.lt_or_ge j n with hlt|hge
   . exact hlt
   have:=FD hs (hc.add ho' hp) hjn hge (by simp [iU]) i0 (by omega);simp only [iU,hi0,Bool.false_or,beq_iff_eq] at this;omega
  have hot:(ops.take n)[j]? =some o:=(kS Wx).trans ho';have hct:ik (ops.take n) (fun i=>listed.getD i false):=fun k ok hk=>by have hkn:=(uq8.1 hk).1;rw [hlen] at hkn;exact hc k ok ((kS hkn).symm.trans hk)
  obtain ⟨⟨rd,hya⟩,hlk,hlb⟩:=hR.VC (D:=fun i=>listed.getD i false) hB hct (fun i hi=>by
   rw [hlen];rcases Nat.lt_or_ge i n with h'|h'
   . exact h'
   rw [hlo i h'] at hi;cases hi) (fun i hi=>absurd hi (fu _)) hot hdj hp
  rw [hlen] at hya hlk hlb;have hD':(fun i=>(listed.setIfInBounds j true).getD i false)=iU (fun i=>listed.getD i false) j:=by
   funext i;by_cases e:i=j
   . subst e;simp [iU,hsz,hjn]
   have e2:(i==j)=false:=by simpa using e
   rw [getD_set_ne false (Ne.symm e)];simp [iU,e2]
  have hf':CQ ops.length (listed.setIfInBounds j true)<=fuel:=by
   have:CQ ops.length (listed.setIfInBounds j true)<CQ ops.length listed:=by
    refine pI _ j (cP.2 hjn) (by simp only [hdj];rfl) (by simp [hsz,hjn]) fun i hi=> ?_;by_cases e:i=j
    . subst e;rw [hdj];rfl
    rw [getD_set_ne false (Ne.symm e)] at hi;exact hi
   omega
  have next:∀a' w',ie B N (fun ts m=>ts=mz o.dst (qs j).x (dx os qs (fun i=>listed.getD i false) ts0 m0 n).1/\m=(qs j).new++(dx os qs (fun i=>listed.getD i false) ts0 m0 n).2) a' w'→
   wpAny P .any ops.toArray Q fuel (listed.setIfInBounds j true) a' w':=by
   rintro a' w' ⟨φ',fp',S',ts',m',h',rfl,rfl⟩;refine ih _ φ' fp' S' a' w' (by simp [hsz]) (by rw [hD'];exact hc.add ho' hp) (fun i hi=> ?_) hf' ?_
   . rw [getD_set_ne false (by omega)];exact hlo i hi
   rw [hD'];exact h'.ext hlk hlb
  have hdo:∀d,o.dst=some d->d<N:=by intro d hd;have:=uq5.1 hok o (cK ho');rw [hd] at this;simpa using this
  have hwt:=yg hgl hot;unfold wpOp;simp only [ho];rcases hya with ⟨hw,_,cO⟩|⟨hw,hx,iu⟩
  . rw [hwt] at hw;rw [cC h hgs ho' hw];simp only [if_true];refine .inl (gm h (xQ (cO _ (fun _ _=>rfl) (fun _ _=>rfl) (fun x m'=>x=(qs j).x/\m'=(qs j).new++(dx os qs (fun i=>listed.getD i false) ts0 m0 n).2) ⟨rfl,rfl⟩)) fun v w' hg=> ?_);exact next _ _ (step_done hdo hg fun x m' ⟨h1,h2⟩=>⟨by rw [h1],h2⟩)
  rw [hwt] at hw;rw [cC h hgs ho' hw];simp only [uq4,if_false];refine next _ _ (step_done (k:=fun x m'=>x= .aZ []/\m'=(dx os qs (fun i=>listed.getD i false) ts0 m0 n).2) hdo (h.gives (x:=.aZ []) (.rd _ _ (.aZ [] #[] rfl fun i hi=>absurd hi (fu _))) (fun _ _ hl=>by cases hl) ⟨rfl,rfl,rfl⟩) fun x m' ⟨h1,h2⟩=>⟨by rw [h1,hx],by rw [h2,iu];rfl⟩)
end
theorem ak.ly (n:Nat) {P:Program} {N i:Nat} {ops:List Oper} {ts:Env} {m:Mem} {Q:dh} {q:Pack (Code.region i ⟨ops⟩ true,Q)} (hm:P.follows .mixedOrders=true) (hok:(jM N ops&&di N ops&&(It n ops&&(ye ops n&&decide (n<=ops.length))))=true)
 (h:sD P (ops.take n) (ops.take n) ts m [] fun ts' m'=>sL P ops (ops.drop n) ts' m' (Q .normal)):ak P N (.region i ⟨ops⟩ true) ts m Q q:=by
 refine ⟨fun B φ fp S a w hRS=> ?_⟩;simp only [uq3,decide_eq_true_eq] at hok;have hlen:(ops.take n).length=n:=by simp;omega
 obtain ⟨qs,tr,hR,hB,hK,_⟩:=xT (os:=fun i=>(ops[i]?).getD default) (ts0:=ts) (m0:=m) (sk:=0) (fun i o _ ho=>by
  have hi:=(uq8.1 ho).1;rw [hlen] at hi;rw [kS hi] at ho
  simp [ho]) (ops.take n) 0 (fun _=>⟨.undef,[]⟩) [] ts m rfl (aP _) (Nat.zero_le _) rfl rfl (fun i o _ hi=>absurd hi (fu _)) h
 rw [hlen] at hK;refine wp_region_any hm ?_;refine Iu (B:=B) (N:=N) hok.2.2.2 hok.2.2.1 hok.2.1 hR hB hok.1.1 hok.1.2 hK (fun a w hd=>hd) _ _ φ fp S a _ (by simp) ?_ ?_ ?_ ?_
 . intro j o _ hd;have hd:(uq2 (bj ops).size false).getD j false=true:=hd;rw [getD_replicate_false] at hd;cases hd
 . exact fun i _=>getD_replicate_false _ _
 . exact fW List.countP_le_length (by simp)
 have e:(fun i=>(uq2 (bj ops).size false).getD i false)=fun _=>false:=funext fun i=>getD_replicate_false _ _;have e2:=mJ (os:=fun i=>(ops[i]?).getD default) (qs:=qs) (D:=fun _=>false) (ts:=ts) (m:=m) (j:=0) (fun _ _=>rfl) n (Nat.zero_le _);show RS B N φ fp S (dx _ qs (fun i=>(uq2 (bj ops).size false).getD i false) ts m n).1 (dx _ qs (fun i=>(uq2 (bj ops).size false).getD i false) ts m n).2 a {w with drawn:=w.drawn+1};rw [e,e2];exact hRS.rn rfl ⟨rfl,rfl,rfl⟩
def n6 (ops:List Oper) (n:Nat):Bool:=uT ops&&(cf ops.length).all fun j=>decide (j<n)||(cf n).all fun i=>((xS ops []).getD j []).contains i
section
variable {P:Program} {B:eO} {N:Nat} {φ:Nat->LS} {fp:Nat->lN} {S:Nat->Prop} {ts:Env} {m:Mem} {a:Act} {w:World}
variable {os:Nat->Oper} {qs:Nat->Rec} {D D':Nat->Bool} {ops:List Oper} {tr:List (lN × lN)}
theorem FE {n:Nat} (h:n6 ops n=true) (hD:ik ops D) {j:Nat} (hj:j<ops.length) (hn:n<=j) (hd:D j=true):∀i,i<n->D i=true:=by
 intro i hi;simp only [n6,uq3,uq5,cP,Bool.or_eq_true,decide_eq_true_eq,List.contains_eq_mem] at h;rcases h.2 j hj with h1|h1
 . omega
 exact jE hD ops [] rfl (fun j x hx=>by simp at hx) j i (h1 i hi) hd
theorem tg {n:Nat} (h:n6 ops n=true):∀i o,ops[i]? =some o->∀p,p∈iA o->p<i:=by intro i o ho p hp;simp only [n6,uT,uq3,uq5,cP] at h;have:=h.1 i (uq8.1 ho).1;rw [ho] at this;simpa using uq5.1 this p hp
theorem Mj {n:Nat} (hn:n<=ops.length) (hs:n6 ops n=true) (hgl:It n ops=true) {ts0:Env} {m0:Mem} (hR:SO P 0 (ops.take n) os qs tr ts0 m0) (hB:mL (ops.take n) tr=true) (hok:jM N ops=true) (hgs:di N ops=true)
 {Q:Exit->Act->World->Prop} {KN:St} (hK:KN (dx os qs (fun _=>true) ts0 m0 n).1 (dx os qs (fun _=>true) ts0 m0 n).2)
 (X2:∀(fuel:Nat) (listed:Array Bool) (φ:Nat->LS) (fp:Nat->lN) (S:Nat->Prop) (ts:Env) (m:Mem) (a:Act) (w:World),Yk ops n listed->ops.length-n<=fuel->RS B N φ fp S ts m a w->KN ts m->wpAny P .any ops.toArray Q fuel listed a w):
 ∀(fuel:Nat) (listed:Array Bool) (φ:Nat->LS) (fp:Nat->lN) (S:Nat->Prop) (a:Act) (w:World),listed.size=ops.length->ik ops (fun i=>listed.getD i false)->(∀i,n<=i->listed.getD i false=false)->CQ ops.length listed<=fuel→
  RS B N φ fp S (dx os qs (fun i=>listed.getD i false) ts0 m0 n).1 (dx os qs (fun i=>listed.getD i false) ts0 m0 n).2 a w->wpAny P .any ops.toArray Q fuel listed a w:=by
 have hlen:(ops.take n).length=n:=by simp;omega
 have qv:=tg hs
 have full:∀(fuel:Nat) (listed:Array Bool) (φ:Nat->LS) (fp:Nat->lN) (S:Nat->Prop) (a:Act) (w:World),listed.size=ops.length->(∀i,n<=i->listed.getD i false=false)->CQ ops.length listed<=fuel→
  (∀i,i<n->listed.getD i false=true)->RS B N φ fp S (dx os qs (fun i=>listed.getD i false) ts0 m0 n).1 (dx os qs (fun i=>listed.getD i false) ts0 m0 n).2 a w->wpAny P .any ops.toArray Q fuel listed a w:=by
  intro fuel listed φ fp S a w hsz hlo hf cX h;have e:dx os qs (fun i=>listed.getD i false) ts0 m0 n=dx os qs (fun _=>true) ts0 m0 n:=kP n (aP _) fun q hq=>cX q hq;rw [e] at h;refine X2 fuel listed φ fp S _ _ a w ⟨hsz,fun i _=> ?_⟩ ?_ h hK
  . by_cases hi:i<n
    . rw [cX i hi];simp [hi]
    rw [hlo i (by omega)];simp [hi]
  refine fW (yf _ fun i h1 _=> ?_) hf;rw [hlo i h1];rfl
 intro fuel;induction fuel with
 |zero=>
  intro listed φ fp S a w hsz hc hlo hf h;refine full 0 listed φ fp S a w hsz hlo hf (fun i hi=> ?_) h;cases hl:listed.getD i false with
  |true=>rfl
  |false=>
   have h0:CQ ops.length listed=0:=Nat.le_zero.1 hf;have:=List.countP_eq_zero.1 h0 i (cP.2 (by omega));rw [hl] at this;exact absurd rfl this
 |succ fuel ih=>
  intro listed φ fp S a w hsz hc hlo hf h;by_cases cX:∀i,i<n->listed.getD i false=true
  . exact full _ listed φ fp S a w hsz hlo hf cX h
  obtain ⟨i0,hi0⟩:=Classical.not_forall.1 cX;obtain ⟨X1,hi0⟩:=Classical.not_imp.1 hi0;have hi0:listed.getD i0 false=false:=by simpa using hi0
  refine ⟨fun hr=> ?_,fun j hj=> ?_⟩
  . exfalso;have:∀i,i<ops.length->listed.getD i false=true:=by
     intro i;induction i using Nat.strongRecOn with
     |ind i ih=>
      intro hi;cases hl:listed.getD i false with
      |true=>rfl
      |false=>
       have ho:ops[i]? =some ops[i]:=uq7 hi
       have:i∈Region.ready .any ops.toArray listed:=mem_ready.2 ⟨getD_in (by omega) hl,ops[i],by simpa using ho,fun e he hb=>by
        have hp:e.on∈iA ops[i]:=bR.2 ⟨e,bk.2 ⟨by simpa using he,hb⟩,rfl⟩;have hlt:=qv i _ ho _ hp
        exact ih e.on hlt (by omega)⟩
       rw [hr] at this;cases this
    rw [this i0 (by omega)] at hi0;cases hi0
  obtain ⟨h0,o,ho,dC⟩:=mem_ready.1 hj;have hdj:listed.getD j false=false:=getD_both h0;have ho':ops[j]? =some o:=by simpa using ho
  have hjn:j<ops.length:=(uq8.1 ho').1;have hp:∀i,i∈iA o->listed.getD i false=true:=by intro i hi;obtain ⟨e,he,rfl⟩:=bR.1 hi;obtain ⟨he1,he2⟩:=bk.1 he;exact dC e (by simpa using he1) he2
  have Wx:j<n:=by
   rcases Nat.lt_or_ge j n with hlt|hge
   . exact hlt
   have:=FE hs (hc.add ho' hp) hjn hge (by simp [iU]) i0 X1;simp only [iU,hi0,Bool.false_or,beq_iff_eq] at this;omega
  have hot:(ops.take n)[j]? =some o:=(kS Wx).trans ho';have hct:ik (ops.take n) (fun i=>listed.getD i false):=fun k ok hk=>by have hkn:=(uq8.1 hk).1;rw [hlen] at hkn;exact hc k ok ((kS hkn).symm.trans hk)
  obtain ⟨⟨rd,hya⟩,hlk,hlb⟩:=hR.VC (D:=fun i=>listed.getD i false) hB hct (fun i hi=>by
   rw [hlen];rcases Nat.lt_or_ge i n with h'|h'
   . exact h'
   rw [hlo i h'] at hi;cases hi) (fun i hi=>absurd hi (fu _)) hot hdj hp
  rw [hlen] at hya hlk hlb;have hD':(fun i=>(listed.setIfInBounds j true).getD i false)=iU (fun i=>listed.getD i false) j:=by
   funext i;by_cases e:i=j
   . subst e;simp [iU,hsz,hjn]
   have e2:(i==j)=false:=by simpa using e
   rw [getD_set_ne false (Ne.symm e)];simp [iU,e2]
  have hf':CQ ops.length (listed.setIfInBounds j true)<=fuel:=by
   have:CQ ops.length (listed.setIfInBounds j true)<CQ ops.length listed:=by
    refine pI _ j (cP.2 hjn) (by simp only [hdj];rfl) (by simp [hsz,hjn]) fun i hi=> ?_;by_cases e:i=j
    . subst e;rw [hdj];rfl
    rw [getD_set_ne false (Ne.symm e)] at hi;exact hi
   omega
  have next:∀a' w',ie B N (fun ts m=>ts=mz o.dst (qs j).x (dx os qs (fun i=>listed.getD i false) ts0 m0 n).1/\m=(qs j).new++(dx os qs (fun i=>listed.getD i false) ts0 m0 n).2) a' w'→
   wpAny P .any ops.toArray Q fuel (listed.setIfInBounds j true) a' w':=by
   rintro a' w' ⟨φ',fp',S',ts',m',h',rfl,rfl⟩;refine ih _ φ' fp' S' a' w' (by simp [hsz]) (by rw [hD'];exact hc.add ho' hp) (fun i hi=> ?_) hf' ?_
   . rw [getD_set_ne false (by omega)];exact hlo i hi
   rw [hD'];exact h'.ext hlk hlb
  have hdo:∀d,o.dst=some d->d<N:=by intro d hd;have:=uq5.1 hok o (cK ho');rw [hd] at this;simpa using this
  have hwt:=yg hgl hot;unfold wpOp;simp only [ho];rcases hya with ⟨hw,_,cO⟩|⟨hw,hx,iu⟩
  . rw [hwt] at hw;rw [cC h hgs ho' hw];simp only [if_true];refine .inl (gm h (xQ (cO _ (fun _ _=>rfl) (fun _ _=>rfl) (fun x m'=>x=(qs j).x/\m'=(qs j).new++(dx os qs (fun i=>listed.getD i false) ts0 m0 n).2) ⟨rfl,rfl⟩)) fun v w' hg=> ?_);exact next _ _ (step_done hdo hg fun x m' ⟨h1,h2⟩=>⟨by rw [h1],h2⟩)
  rw [hwt] at hw;rw [cC h hgs ho' hw];simp only [uq4,if_false];refine next _ _ (step_done (k:=fun x m'=>x= .aZ []/\m'=(dx os qs (fun i=>listed.getD i false) ts0 m0 n).2) hdo (h.gives (x:=.aZ []) (.rd _ _ (.aZ [] #[] rfl fun i hi=>absurd hi (fu _))) (fun _ _ hl=>by cases hl) ⟨rfl,rfl,rfl⟩) fun x m' ⟨h1,h2⟩=>⟨by rw [h1,hx],by rw [h2,iu];rfl⟩)
theorem Mk {n:Nat} (hw:n6 ops (n+1)=true) (hok:jM N ops=true) (hgs:di N ops=true) {o:Oper} (hon:ops[n]? =some o) {KC:St} {Q:Exit->Act->World->Prop} {fuel:Nat} {listed:Array Bool}
 (hu:Yk ops n listed) (h:RS B N φ fp S ts m a w) (hsl:sL P ops [o] ts m KC)
 (X3:∀(φ:Nat->LS) (fp:Nat->lN) (S:Nat->Prop) (ts:Env) (m:Mem) (a:Act) (w:World),RS B N φ fp S ts m a w->KC ts m->wpAny P .any ops.toArray Q fuel (listed.setIfInBounds n true) a w):
 wpAny P .any ops.toArray Q (fuel+1) listed a w:=by
 have hnl:n<ops.length:=(uq8.1 hon).1;have qv:=tg hw;have DJ:ik ops (fun i=>listed.getD i false):=by intro j oj hoj hdj i hi;have hjn:=(uq8.1 hoj).1;have h1:=hu.2 j hjn;have h2:=qv j oj hoj i hi;have h3:=hu.2 i (by omega);simp only at hdj ⊢;rw [h1] at hdj;rw [h3];simp at hdj ⊢;omega
 have zk:n∈Region.ready .any ops.toArray listed:=by
  refine mem_ready.2 ⟨?_,o,by simpa using hon,fun e he hb=> ?_⟩
  . have h5:listed.getD n false=false:=by rw [hu.2 n hnl];exact dF (gB n)
    exact getD_in (by rw [hu.1];exact hnl) h5
  have hp:e.on∈iA o:=bR.2 ⟨e,bk.2 ⟨by simpa using he,hb⟩,rfl⟩;have hlt:=qv n o hon _ hp;rw [hu.2 e.on (by omega)];simpa using hlt
 refine ⟨fun hr=>(by rw [hr] at zk;exact absurd zk List.not_mem_nil),fun j hj=> ?_⟩;obtain ⟨h0,oj,hoj,dC⟩:=mem_ready.1 hj;have hdj:listed.getD j false=false:=getD_both h0;have ua:ops[j]? =some oj:=by simpa using hoj
 have hjn:j<ops.length:=(uq8.1 ua).1;have hjk:n<=j:=by have:=hu.2 j hjn;rw [hdj] at this;simp at this;omega
 have hp:∀i,i∈iA oj->listed.getD i false=true:=by intro i hi;obtain ⟨e,he,rfl⟩:=bR.1 hi;obtain ⟨he1,he2⟩:=bk.1 he;exact dC e (by simpa using he1) he2
 have e:j=n:=by
  rcases Nat.lt_or_ge n j with hlt|hge
  . have Q2:=DJ.add ua hp;have:=FE hw Q2 hjn (by omega) (by simp [iU]) n (by omega);simp only [iU,hu.2 n hnl,Bool.or_eq_true,beq_iff_eq] at this;simp at this;omega
  omega
 subst e;rw [hon] at ua;injection ua with ua
 subst ua;have hdo:∀d,o.dst=some d->d<N:=by intro d hd;have:=uq5.1 hok o (cK hon);rw [hd] at this;simpa using this
 have next:∀a' w',ie B N KC a' w'->wpAny P .any ops.toArray Q fuel (listed.setIfInBounds j true) a' w':=by rintro a' w' ⟨φ',fp',S',ts',m',h',hk'⟩;exact X3 φ' fp' S' ts' m' a' w' h' hk'
 unfold wpOp;have hoA:ops.toArray[j]? =some o:=by simpa using hon
 simp only [hoA];simp only [sL] at hsl;cases hg:o.guard with
 |none=>
  rw [hg] at hsl;rw [cC h hgs hon (show cS ops o ts=some true by simp [cS,hg])];simp only [if_true];exact .inl (gm h hsl fun v w' hgv=>next _ _ (step_done hdo hgv fun x m' hx=>hx))
 |some jw=>
  obtain ⟨g,want⟩:=jw;rw [hg] at hsl;simp only at hsl;unfold gp at hsl;split at hsl
  . rename_i c hy;by_cases hcw:c=want
    . subst hcw;rw [cC h hgs hon (show cS ops o ts=some true by simp [cS,hg,hy])];simp only [if_true];exact .inl (gm h (hsl.1 rfl) fun v w' hgv=>next _ _ (step_done hdo hgv fun x m' hx=>hx))
    rw [cC h hgs hon (show cS ops o ts=some false by simp [cS,hg,hy,hcw])];simp only [uq4,if_false];have hk2:=hsl.2 hcw;refine next _ _ (step_done (k:=fun x m'=>x= .aZ []/\m'=m) hdo (h.gives (x:=.aZ []) (.rd _ _ (.aZ [] #[] rfl fun i hi=>absurd hi (fu _))) (fun _ _ hl=>by cases hl) ⟨rfl,rfl,rfl⟩) fun x m' ⟨h1,h2⟩=> ?_)
    rw [h1,h2];exact hk2
  . rename_i hy;rw [cC h hgs hon (show cS ops o ts=some false by simp [cS,hg,hy])];simp only [uq4,if_false];refine next _ _ (step_done (k:=fun x m'=>x= .aZ []/\m'=m) hdo (h.gives (x:=.aZ []) (.rd _ _ (.aZ [] #[] rfl fun i hi=>absurd hi (fu _))) (fun _ _ hl=>by cases hl) ⟨rfl,rfl,rfl⟩) fun x m' ⟨h1,h2⟩=> ?_)
    rw [h1,h2];exact hsl
  exact hsl.elim
theorem FF {n:Nat} {x:AV} {ts:Env} {m:Mem} (f:Nat->Oper) (hd:∀i,i<n->(f i).dst=none):∀i,i<=n->dx f (fun _=>⟨x,[]⟩) (fun _=>true) ts m i=(ts,m)
 |0,_=>rfl
 |i+1,hi=>by simp only [dx,if_true];rw [FF f hd i (by omega),hd i (by omega)];rfl
end
def C5:Oper:={(default:Oper) with dst:=none}
theorem J7 (n:Nat) {P:Program} {N:Nat} {ops:List Oper} {ts:Env} {m:Mem} {K:St} {Q:Exit->Act->World->Prop}
 (hok:(jM N ops&&di N ops&&(It n ops&&(n6 ops n&&(n6 ops (n+1)&&decide (n<ops.length)))))=true)
 (h:sD P (ops.take n) (ops.take n) ts m [] fun ts' m'=>sL P ops ((ops.drop n).take 1) ts' m' fun ts'' m''=>sD P ops (ops.drop (n+1)) ts'' m'' (cL (n+1) ([],[])) K)
 {B:eO} {φ:Nat->LS} {fp:Nat->lN} {S:Nat->Prop} {a:Act} {w:World} (hRS:RS B N φ fp S ts m a w) (hQ:∀a w,ie B N K a w->Q .normal a w):
 wpAny P .any ops.toArray Q ops.toArray.size (uq2 ops.toArray.size false) a {w with drawn:=w.drawn+1}:=by
 simp only [uq3,decide_eq_true_eq] at hok;obtain ⟨⟨me,rk⟩,hgl,hw,hw1,hn⟩:=hok;have hlen:(ops.take n).length=n:=by simp;omega
 obtain ⟨qs,tr,hR,hB,hK,_⟩:=xT (os:=fun i=>(ops[i]?).getD default) (ts0:=ts) (m0:=m) (sk:=0) (fun i o _ ho=>by
  have hi:=(uq8.1 ho).1;rw [hlen] at hi;rw [kS hi] at ho
  simp [ho]) (ops.take n) 0 (fun _=>⟨.undef,[]⟩) [] ts m rfl (aP _) (Nat.zero_le _) rfl rfl (fun i o _ hi=>absurd hi (fu _)) h
 rw [hlen] at hK;have hon:ops[n]? =some ops[n]:=uq7 hn;have hdt:(ops.drop n).take 1=[ops[n]]:=by rw [List.drop_eq_getElem_cons hn];rfl
 rw [hdt] at hK;refine Mj (B:=B) (N:=N) (KN:=fun ts' m'=>sL P ops [ops[n]] ts' m' fun ts'' m''=>sD P ops (ops.drop (n+1)) ts'' m'' (cL (n+1) ([],[])) K) (by omega) hw hgl hR hB me rk hK ?_ _ _ φ fp S a _ (by simp) ?_ ?_ ?_ ?_
 . intro fuel listed φ fp S ts m a w hu hf h1 hsl;obtain ⟨fuel,rfl⟩:∃f,fuel=f+1:=⟨fuel-1,by omega⟩;refine Mk hw1 me rk hon hu h1 hsl fun φ fp S ts m a w h2 hsd=> ?_;have hsz:(listed.setIfInBounds n true).size=ops.length:=by simp [hu.1]
   have hup:∀i,i<ops.length->(listed.setIfInBounds n true).getD i false=decide (i<n+1):=by
    intro i hi;by_cases e:i=n
    . subst e;simp [hu.1,hi]
    rw [getD_set_ne false (Ne.symm e),hu.2 i hi];simp;omega
   have hid:∀i,i<=n+1->dx (fun i=>if i<n+1 then C5 else (ops[i]?).getD default) (fun _=>⟨.undef,[]⟩) (fun _=>true) ts m i=(ts,m):=FF (n:=n+1) _ fun i hi=>by simp only [hi,if_true];rfl
   obtain ⟨qs2,tr2,hR2,hB2,hK2,hq2⟩:=xT (os:=fun i=>if i<n+1 then C5 else (ops[i]?).getD default) (ts0:=ts) (m0:=m) (sk:=n+1) (fun i o hi ho=>by simp only [Nat.not_lt.2 hi,if_false];simp [ho]) (ops.drop (n+1)) (n+1)
    (fun _=>⟨.undef,[]⟩) (cL (n+1) ([],[])) ts m rfl (aP _) hn (by simp) (hid _ (aP _)) (fun i o h1 h2=>absurd h2 (Nat.not_lt.2 h1)) hsd
   have hst:dx (fun i=>if i<n+1 then C5 else (ops[i]?).getD default) qs2 (fun i=>(listed.setIfInBounds n true).getD i false) ts m ops.length=(ts,m):=by
    rw [mJ (j:=n+1) (fun q hq=>by
     rcases Nat.lt_or_ge q ops.length with hql|hql
     . rw [hup q hql];simp;omega
     rw [uq0,Array.getElem?_eq_none (by omega)];rfl) ops.length hn]
    rw [H0 (qs':=fun _=>⟨.undef,[]⟩) (n+1) hq2];have X4:∀(D:Nat->Bool) i,i<=n+1->dx (fun i=>if i<n+1 then C5 else (ops[i]?).getD default) (fun _=>⟨.undef,[]⟩) D ts m i=(ts,m):=by
     intro D i;induction i with
     |zero=>intro _;rfl
     |succ i ih=>
      intro hi;simp only [dx];rw [ih (by omega)];cases D i with
      |false=>rfl
      |true=>simp only [if_true,show i<n+1 by omega];rfl
    exact X4 _ _ (aP _)
   refine BB (B:=B) (N:=N) hR2 hB2 me rk hK2 hQ _ _ φ fp S a w hsz ?_ (fun i hi=>by rw [hup i (by omega)];simpa using hi) ?_ (by rw [hst];exact h2)
   . intro j oj hoj hdj i hi;have hjn:=(uq8.1 hoj).1;have h3:=tg hw1 j oj hoj i hi;have hdj:(listed.setIfInBounds n true).getD j false=true:=hdj;show (listed.setIfInBounds n true).getD i false=true;rw [hup j hjn] at hdj;rw [hup i (by omega)];simp at hdj ⊢;omega
   have hc:CQ ops.length (listed.setIfInBounds n true)<=ops.length-(n+1):=by
    unfold CQ;have:∀N,(∀i,i<N->i<ops.length)->(cf N).countP (fun i=> !(listed.setIfInBounds n true).getD i false)<=N-(n+1):=by
     intro N hN;induction N with
     |zero=>simp
     |succ N ih=>
      have ih:=ih fun i hi=>hN i (by omega);rw [cH,List.countP_append,List.countP_cons,List.countP_nil,hup N (hN N (by omega))];by_cases e:N<n+1
      . simp only [decide_eq_true e,Bool.not_true,uq4,if_false];omega
      simp only [decide_eq_false e,Bool.not_false,if_true];omega
    exact this _ fun i hi=>hi
   omega
 . intro j o _ hd;have hd:(uq2 (bj ops).size false).getD j false=true:=hd;rw [getD_replicate_false] at hd;cases hd
 . exact fun i _=>getD_replicate_false _ _
 . exact fW List.countP_le_length (by simp)
 have e:(fun i=>(uq2 (bj ops).size false).getD i false)=fun _=>false:=funext fun i=>getD_replicate_false _ _;have e2:=mJ (os:=fun i=>(ops[i]?).getD default) (qs:=qs) (D:=fun _=>false) (ts:=ts) (m:=m) (j:=0) (fun _ _=>rfl) n (Nat.zero_le _);show RS B N φ fp S (dx _ qs (fun i=>(uq2 (bj ops).size false).getD i false) ts m n).1 (dx _ qs (fun i=>(uq2 (bj ops).size false).getD i false) ts m n).2 a {w with drawn:=w.drawn+1};rw [e,e2];exact hRS.rn rfl ⟨rfl,rfl,rfl⟩
theorem ak.Zu (n:Nat) {P:Program} {N i:Nat} {ops:List Oper} {ts:Env} {m:Mem} {Q:dh} {q:Pack (Code.region i ⟨ops⟩ true,Q)} (hm:P.follows .mixedOrders=true)
 (hok:(jM N ops&&di N ops&&(It n ops&&(n6 ops n&&(n6 ops (n+1)&&decide (n<ops.length)))))=true)
 (h:sD P (ops.take n) (ops.take n) ts m [] fun ts' m'=>sL P ops ((ops.drop n).take 1) ts' m' fun ts'' m''=>sD P ops (ops.drop (n+1)) ts'' m'' (cL (n+1) ([],[])) (Q .normal)):ak P N (.region i ⟨ops⟩ true) ts m Q q:=
 ⟨fun _ _ _ _ _ _ hRS=>wp_region_any hm (J7 n hok h hRS fun _ _ hd=>hd)⟩
open Go.RowKit
def sT (w:World) (b:Nat):Prop:=∃o:Obj,w.heap[b]? =some o/\o.isCells=true
theorem th {w:World} {b:Nat} {cs:aV} {e:TypeId} {fr:Nat × Nat} (h:w.heap[b]? =some (.cells cs e fr)):sT w b:=⟨_,h,rfl⟩
theorem Rd.cells {w:World} {S:Nat->Prop} {x:AV} {v:Value} (h:Rd w S x v):Rd w (fun b=>S b/\sT w b) x v:=by
 induction h with
 |undef v=>exact .undef v
 |val v h=>exact .val v h
 |e0 a=>exact .e0 a
 |nil sh a=>exact .nil sh a
 |arr sh xs b off cap cs e fr hb hh cj hl hf _ ih=>exact .arr sh xs b off cap cs e fr ⟨hb,th hh⟩ hh cj hl hf ih
 |agg xs cs hl hf _ ih=>exact .agg xs cs hl hf ih
 |aZ xs cs hl _ ih=>exact .aZ xs cs hl ih
 |bu sh xs i j b off cs e fr hb hh hl hf _ ih=>exact .bu sh xs i j b off cs e fr ⟨hb,th hh⟩ hh hl hf ih
 |cy f xs cs hl _ ih=>exact .cy f xs cs hl ih
theorem RV.Ur {w:World} {S:Nat->Prop} {φ:Nat->LS} {x:AV} {v:Value} (h:RV w S φ x v):RV w (fun b=>S b/\sT w b) φ x v:=by
 induction h with
 |rd x v h=>exact .rd x v h.cells
 |agg xs cs hl hf _ ih=>exact .agg xs cs hl hf ih
 |aZ xs cs hl _ ih=>exact .aZ xs cs hl ih
 |cy f xs cs hl _ ih=>exact .cy f xs cs hl ih
 |ref l af i n v h1 h2 h3=>exact .ref l af i n v h1 h2 h3
 |ptr l af i j v h1 h2 h3=>exact .ptr l af i j v h1 h2 h3
theorem Own.cells {w:World} {S:Nat->Prop} {x:AV} {v:Value} {fs:lN} (h:Own w S x v fs):Own w (fun b=>S b/\sT w b) x v fs:=by
 induction h with
 |rd x v h=>exact .rd x v h.cells
 |arr sh xs b cap cs e fss hb hc hl hm hf hs _ ih=>exact .arr sh xs b cap cs e fss hb hc hl hm hf hs ih
 |agg xs cs fss hl hf hs _ ih=>exact .agg xs cs fss hl hf hs ih
 |aZ xs cs fss hl hs _ ih=>exact .aZ xs cs fss hl hs ih
theorem Own.sT {w:World} {S:Nat->Prop} {x:AV} {v:Value} {fs:lN} (h:Own w S x v fs):∀b,b∈fs->sT w b:=by
 have key:∀(fss:List lN) (n:Nat),fss.length=n->(∀i,i<n->∀b,b∈fss.getD i []->Vc.sT w b)->∀b,b∈fss.flatten->Vc.sT w b:=by intro fss n hn hh b hb;obtain ⟨l,hl,hbl⟩:=List.mem_flatten.1 hb;obtain ⟨i,hi,rfl⟩:=bW hl;refine hh i (hn▸hi) b ?_;rw [uq6,uq7 hi];exact hbl
 induction h with
 |rd x v h=>intro b hb;cases hb
 |arr sh xs b cap cs e fss hb hc hl hm hf hs _ ih=>
  intro b' hb';rcases List.mem_cons.1 hb' with rfl|hb'
  . exact th hb
  exact key fss xs.length hs ih b' hb'
 |agg xs cs fss hl hf hs _ ih=>exact key fss xs.length hs ih
 |aZ xs cs fss hl hs _ ih=>exact key fss xs.length hs ih
section
variable {P:Program} {B:eO} {N:Nat} {φ:Nat->LS} {fp:Nat->lN} {S:Nat->Prop} {ts:Env} {m:Mem} {a:Act} {w:World}
theorem BR.cells {l:Nat} {fs:lN} {k:bh} (h:BR w S φ l fs k):BR w (fun b=>S b/\sT w b) φ l fs k:=by
 cases k with
 |gone=>exact h
 |row af sh deep xs=>
  rcases h with h|⟨b,cap,h1,h2,h4,h3⟩
  . exact .inl h
  refine .inr ⟨b,cap,h1,h2,h4,?_⟩;cases deep with
  |true=>exact h3
  |false=>exact h3.cells
 |box af xs=>
  obtain ⟨b,cs,e,sh,h1,h2,h3,h4,h5,h6⟩:=h;exact ⟨b,cs,e,sh,h1,h2,h3,h4,h5,fun i hi=>(h6 i hi).Ur⟩
 |jc af xs i u=>exact h
 |sub af sh xs u=>exact h
theorem BR.sT {l:Nat} {fs:lN} {k:bh} (h:BR w S φ l fs k):∀b,b∈fs->sT w b:=by
 cases k with
 |gone=>intro b hb;rw [h.2] at hb;cases hb
 |row af sh deep xs=>
  rcases h with ⟨_,_,h⟩|⟨b,cap,h1,h2,h4,h3⟩
  . intro b hb;rw [h] at hb;cases hb
  exact h3.sT
 |box af xs=>
  obtain ⟨b,cs,e,sh,h1,h2,h3,_⟩:=h;intro c hc;rw [h2,hZ] at hc;subst hc;exact th h3
 |jc af xs i u=>
  obtain ⟨b,cap,cs,e,fr,h1,h2,h3,_⟩:=h;exact h3.sT
 |sub af sh xs u=>
  obtain ⟨b,cap,h1,h2,h3,h4⟩:=h;exact h4.sT
theorem RS.sT (h:RS B N φ fp S ts m a w) {l b:Nat} (hb:b∈fp l):sT w b:=by
 cases hk:aj m l with
 |none=>rw [(h.bU l hk).2] at hb;cases hb
 |some k=>exact (h.aF l k hk).sT b hb
theorem RS.cells (h:RS B N φ fp S ts m a w):RS B N φ fp (fun b=>S b/\Vc.sT w b) ts m a w:=
 {h with
  tm:=fun t=>(h.tm t).Ur
  aF:=fun l k hk=>(h.aF l k hk).cells
  bJ:=fun l b hb hs=>h.bJ l b hb hs.1
  sB:=fun b hb=>h.sB b hb.1
  jf:=fun g p hg=>by obtain ⟨h1,cs,e,fr,h2,h3⟩:=h.jf g p hg;exact ⟨⟨h1,th h2⟩,cs,e,fr,h2,h3⟩}
theorem yh {w':World} {row:Option Nat} (hg:w.grownBy w' row) (hr:∀r,row=some r->∃o:Obj,w.heap[r]? =some o/\o.isCells=false) {b:Nat} (h:sT w b):w'.heap[b]? =w.heap[b]? :=by obtain ⟨o,h1,h2⟩:=h;exact grownBy_keeps_cells hg hr h1 h2
theorem RS.PJ (h:RS B N φ fp S ts m a w) (hC:∀b,S b->Vc.sT w b) {w':World} {row:Option Nat} (hg:w.grownBy w' row)
 (hr:∀r,row=some r->B.w0.heap.size<=r/\∃o:Obj,w.heap[r]? =some o/\o.isCells=false):RS B N φ fp S ts m a w':=by
 have hk:∀b,Vc.sT w b->w'.heap[b]? =w.heap[b]? :=fun b hb=>yh hg (fun r e=>(hr r e).2) hb;have hs:∀l b,b∈fp l->w'.heap[b]? =w.heap[b]? :=fun l b hb=>hk b (h.sT hb);have hS:∀b,S b->w'.heap[b]? =w.heap[b]? :=fun b hb=>hk b (hC b hb);have hsz:je w w':=fun b cs e hb=>⟨cs,e,(hk b (th hb)).trans hb,rfl⟩;have hz:fH φ w w':=fun l b sh af cs e _ hb=>hsz b cs e hb
 exact {h with
  tm:=fun t=>(h.tm t).mono hS (fun _ h=>h) hz fun l af _=>LS.le_refl _ _
  aF:=fun l k hl=>(h.aF l k hl).mono hS (fun _ h=>h) hz (hs l) rfl fun _ _ _ _ _ _=>LS.le_refl _ _
  cw:=fun l b hb=>⟨Nat.lt_of_lt_of_le (h.cw l b hb).1 hg.size,(h.cw l b hb).2⟩
  sB:=fun b hb=>⟨Nat.lt_of_lt_of_le (h.sB b hb).1 hg.size,(h.sB b hb).2⟩
  base:=fun b hb hio=>(hg.block b (Nat.lt_of_lt_of_le hb h.size) fun e=>by have:=(hr b e.symm).1;omega).trans (h.base b hb hio)
  out:=h.out.trans ⟨hg.os,hg.tape,hg.output⟩
  ke:=h.ke.trans hsz
  size:=fW h.size hg.size
  jf:=h.jf.mono hS fun _ h=>h}
theorem RS.PK (h:RS B N φ fp S ts m a w) (hi:∀l,aj m l≠none->bG<=l):RS ⟨w,fun l b=>b∈fp l,S,φ,m⟩ N φ fp S ts m a w:=
 {tm:=h.tm,tl:=h.tl,bU:=h.bU,aF:=h.aF,bl:=h.bl,gK:=h.gK,e7:=h.e7,bJ:=h.bJ,
  cw:=fun l b hb=>⟨(h.cw l b hb).1,.inr ⟨l,hb,hi l (fun e=>by rw [(h.bU l e).2] at hb;cases hb),.inl rfl⟩⟩,
  sB:=fun b hb=>⟨(h.sB b hb).1,.inr hb⟩,base:=fun b hb _=>rfl,out:=a7.refl _,ke:=je.refl _,kn:=fun _ _ _ hk=>hk,fix:=fun _ _ _ _=>LS.le_refl _ _,size:=aP _,defers:=h.defers,kv:=h.kv,jf:=h.jf}
theorem RS.VL {N':Nat} {φ':Nat->LS} {fp':Nat->lN} {S':Nat->Prop} {ts':Env} {m':Mem} {a':Act} {w':World} (h:RS B N φ fp S ts m a w)
 (h':RS ⟨w,fun l b=>b∈fp l,S,φ,m⟩ N' φ' fp' S' ts' m' a' w'):RS B N' φ' fp' S' ts' m' a' w':=by
 refine {tm:=h'.tm,tl:=h'.tl,bU:=h'.bU,aF:=h'.aF,bl:=h'.bl,gK:=h'.gK,e7:=h'.e7,bJ:=h'.bJ,cw:=fun l b hb=> ?_,sB:=fun b hb=> ?_,base:=fun b hb hio=> ?_,
         out:=h.out.trans h'.out,ke:=h.ke.trans h'.ke,kn:=fun l af hl hk=>h'.kn l af hl (h.kn l af hl hk),
         fix:=fun l af hl hk=>LS.le_trans (h'.fix l af hl (h.kn l af hl hk)) (h.fix l af hl hk),size:=fW h.size h'.size,defers:=h'.defers,kv:=h'.kv,jf:=h'.jf}
 . refine ⟨(h'.cw l b hb).1,?_⟩;rcases (h'.cw l b hb).2 with hh|⟨l0,hh,hl,h3⟩
   . exact .inl (fW h.size hh)
   rcases (h.cw l0 b hh).2 with h4|⟨l1,h4,h5,h6⟩
   . exact .inl h4
   refine .inr ⟨l1,h4,hl,?_⟩;rcases h3 with h3|h3
   . rw [h3] at h6;exact h6
   refine .inr ?_;cases he:aj B.m0 l with
   |none=>rfl
   |some k=>
    obtain ⟨k2,h7,_⟩:=h.kn l k.af hl ⟨k,he,aP _⟩;have h3':aj m l=none:=h3;rw [h3'] at h7;cases h7
 . refine ⟨(h'.sB b hb).1,?_⟩;rcases (h'.sB b hb).2 with hh|hh
   . exact .inl (fW h.size hh)
   exact (h.sB b hh).2
 refine (h'.base b (Nat.lt_of_lt_of_le hb h.size) fun l hl=> ?_).trans (h.base b hb hio);rcases (h.cw l b hl).2 with hh|⟨l1,hh,_⟩
 . exact absurd hb (Nat.not_lt.2 hh)
 exact hio l1 hh
def Iv:List (Nat × Nat)->Env->Env
 | [],ts=>ts
 |(l,l')::r,ts=>Iv r (HJ l l' ts)
theorem PL (ts:Env):Iv [] ts=ts:=rfl
theorem Ml (l l':Nat) (r:List (Nat × Nat)) (ts:Env):Iv ((l,l')::r) ts=Iv r (HJ l l' ts):=rfl
theorem RS.Us (h0:B.m0=[]):∀(ρ:List (Nat × Nat)) {φ:Nat->LS} {fp:Nat->lN} {ts:Env} {m:Mem},oQ ρ m->RS B N φ fp S ts m a w->∃φ' fp',RS B N φ' fp' S (Iv ρ ts) (kO ρ m) a w
 | [],φ,fp,ts,m,_,h=>⟨φ,fp,h⟩
 |(l,l')::r,φ,fp,ts,m,⟨⟨⟨hl,_⟩,_,hf⟩,h3⟩,h=>by have hfp:fp l'=[]:=(h.bU l' hf).2;exact RS.Us h0 r h3 (h.OT hl (by rw [h0];rfl) fun b hb=>by rw [hfp] at hb;cases hb)
theorem FG {n l:Nat} {row:String} {args:aV} {R:Value->World->Prop} (h:Rows P row args w R):RowsIn (Fence.wide.inRound l) n P row args w R:=
 fun c cs _=>let ⟨v,w',r,s⟩:=h c cs;⟨v,w',r,stepsIn_wide.2 s⟩
theorem Xi {n l:Nat} {o:Oper} (hnd:∀c,o.op≠ .defer c) {K:Act->World->Prop} {Q:Exit->Act->World->Prop} (h:o.wp P a w K Q):o.wpIn (Fence.wide.inRound l) n P a w K Q:=by
 refine ⟨fun _ _=>trivial,?_⟩;rw [Oper.semAt_eq _ _ _ hnd];unfold Oper.wp at h;generalize (execOp a.eval o).run P w=r at h ⊢;cases r with
 |ok x w'=>
  cases x with
  |enter f args=>exact ⟨fun hh=>(by simp [Fence.wide] at hh),callsIn_wide.2 h⟩
  |row r args=>exact ⟨fun hh=>(by simp [Fence.wide] at hh),FG h⟩
  |value v=>exact h
  |skip=>exact h
  |defer d=>exact h
  |_=>exact h.elim
 |halt x w'=>cases x<;>simp only [Oper.upon,Oper.uponIn] at h ⊢ <;>exact h
theorem J8 {n l:Nat} {md:Region.Mode} {ops:Array Oper} {Q:Exit->Act->World->Prop} (hnd:∀(i:Nat) (o:Oper),ops[i]? =some o->∀c,o.op≠ .defer c) (hQ:¬LetsOut Q):
 ∀(fuel:Nat) (listed:Array Bool) (a:Act) (w:World),wpAny P md ops Q fuel listed a w->wpAnyIn (Fence.wide.inRound l) n P md ops Q fuel listed a w
 |0,_,_,_,h=>h
 |fuel+1,listed,a,w,⟨h1,h2⟩=>by
  refine ⟨h1,fun i hi=> ?_⟩;have h3:=h2 i hi;unfold wpOp at h3;unfold wpOpIn;split
  . rename_i e;simp only [e] at h3;exact J8 hnd hQ fuel _ _ _ h3
  rename_i o ho;simp only [ho] at h3;split
  . rename_i hw;simp only [hw,if_true] at h3;rcases h3 with h3|⟨_,h3⟩
    . exact Oper.wpIn_mono (fun a w hh=>J8 hnd hQ fuel _ _ _ hh) (Xi (hnd i o ho) h3)
    exact absurd h3 hQ
  rename_i hw;simp only [hw,uq4,if_false] at h3;exact ⟨fun _ _=>trivial,J8 hnd hQ fuel _ _ _ h3⟩
theorem iC {ds:List Deferred} {ops:Array Oper} {Q:Exit->Act->World->Prop}:∀(l:lN) (a:Act) (w:World),wpOps P ops Q l a w→
 wpOps P ops (fun e a' w'=>∃a'',a'={a'' with defers:=a''.defers++ds}/\Q e a'' w') l {a with defers:=a.defers++ds} w
 | [],a,w,h=>⟨a,rfl,h⟩
 |i::r,a,w,h=>by
  simp only [wpOps] at h ⊢;cases ho:ops[i]? with
  |none=>simp only [ho] at h ⊢;exact iC r a w h
  |some o=>
   simp only [ho] at h ⊢;have DH:∀v,({a with defers:=a.defers++ds}:Act).put o.dst v={(a.put o.dst v) with defers:=(a.put o.dst v).defers++ds}:=fun v=>by cases o.dst<;>rfl
   by_cases hw:Region.wanted o (yielded ops a.tmps)=true
   . simp only [hw,if_true] at h ⊢;have he:({a with defers:=a.defers++ds}:Act).eval=a.eval:=rfl;rcases h with h|⟨h1,b,w2,h2⟩
     . refine .inl ?_;unfold Oper.wp at h ⊢;rw [he];generalize (execOp a.eval o).run P w=rr at h ⊢;cases rr with
       |ok x w'=>
        cases x with
        |value v=>simp only [Oper.upon] at h ⊢;rw [DH];exact iC r _ _ h
        |skip=>simp only [Oper.upon] at h ⊢;rw [DH];exact iC r _ _ h
        |defer d=>
         simp only [Oper.upon] at h ⊢;have:=iC (ds:=ds) r _ _ h;have e:({a with defers:=d::(a.defers++ds)}:Act).put o.dst undef={(({a with defers:=d::a.defers}:Act).put o.dst undef) with defers:=(({a with defers:=d::a.defers}:Act).put o.dst undef).defers++ds}:=by cases o.dst<;>rfl
         rw [e];exact this
        |enter f args=>
         simp only [Oper.upon] at h ⊢;refine Calls.mono h fun e w'' he=> ?_;cases e with
         |returned v=>simp only at he ⊢;rw [DH];exact iC r _ _ he
         |panicked ch=>exact ⟨_,rfl,he⟩
         |outgrown=>obtain ⟨b,w2,h2⟩:=he;exact ⟨_,w2,b,rfl,h2⟩
        |row row args=>simp only [Oper.upon] at h ⊢;exact Rows.mono h fun v w'' hh=>by rw [DH];exact iC r _ _ hh
        |_=>exact h.elim
       |halt x w'=>cases x<;>first|exact h.elim|exact ⟨_,rfl,h⟩
     exact .inr ⟨h1,_,w2,b,rfl,h2⟩
   simp only [hw,uq4,if_false] at h ⊢;rw [DH];exact iC r _ _ h
end
def VM (w0:World) (S0:Nat->Prop) (post:AV->Prop) (e:Ending) (w':World):Prop:=∃r v,e= .returned v/\post r/\Grown w0 w'/\iN w0 w' S0 false r v
def PM (P:Program) (fn:Func) (w0:World) (S0:Nat->Prop) (post:AV->Prop):Exit->Act->World->Prop:=bodyPostM Fence.wide 1 P fn (VM w0 S0 post)
abbrev BE (w0:World) (S0:Nat->Prop):eO:=⟨w0,fun _ _=>False,S0,fun _=>.dead,[]⟩
structure C6 (P:Program) (fn:Func) (c:Code) (ts:Env) (m:Mem) (post:AV->Prop):Prop where
 ok:∀(w0:World) (S0:Nat->Prop) (φ:Nat->LS) (fp:Nat->lN) (S:Nat->Prop) (a:Act) (w:World),RS (BE w0 S0) fn.ntmps φ fp S ts m a w->c.wpIn Fence.wide 1 P (PM P fn w0 S0 post) a w
structure Ut (P:Program) (fn:Func) (x y:Code) (ts:Env) (m:Mem) (post:AV->Prop):Prop where
 ok:∀(w0:World) (S0:Nat->Prop) (φ:Nat->LS) (fp:Nat->lN) (S:Nat->Prop) (a:Act) (w:World),RS (BE w0 S0) fn.ntmps φ fp S ts m a w→
  x.wpIn Fence.wide 1 P (Exit.then (y.wpIn Fence.wide 1 P (PM P fn w0 S0 post)) (PM P fn w0 S0 post)) a w
theorem uV {P:Program} {fn:Func} {tmps:aV} {us:List Value} {w:World} (h:(fn.results.toList.mapM (da tmps)).run P w= .ok us w):
 (results fn tmps).run P w= .ok (if h:us.toArray.size=1 then us.toArray[0] else .tuple us.toArray) w:=by
 have hm:results fn tmps=(do let vs ←fn.results.mapM (da tmps);pure (if h:vs.size=1 then vs[0] else .tuple vs)):=by unfold results;congr 1
 rw [hm,Sem.run_bind,Array.mapM_eq_mapM_toList];have:(bj <$> fn.results.toList.mapM (da tmps):Sem aV).run P w= .ok us.toArray w:=by rw [map_eq_pure_bind,Sem.run_bind,h];rfl
 rw [this];rfl
theorem VN {P:Program} {fn:Func} {w0:World} {S0:Nat->Prop} {post:AV->Prop} {e:Exit} {a':Act} {w':World}
 (h:ie (BE w0 S0) fn.ntmps (Ik P fn.results.toList post e) a' w'):PM P fn w0 S0 post e a' w':=by
 obtain ⟨DP,fp0,S0',ts',m0,h0,hk⟩:=h;have go:aQ P (fun xs=>iO (fun ys _=>au ys=[]/\post (bM ys)) [] m0 xs) fn.results.toList ts' m0 []->LeavesInM Fence.wide 1 P fn a'.tmps (VM w0 S0 post) a'.defers .returning w':=by
  intro hk;rw [h0.defers];obtain ⟨ys0,us,h1,h2,h3,h4⟩:=cR h0 fn.results.toList [] [] ⟨rfl,fun i hi=>absurd hi (fu _)⟩ (fun i hi=>absurd hi (fu _)) hk;obtain ⟨φ',fp',S',m',ys,hgv,h3,hU,gP⟩:=pr ys0 us [] [] h0 (by simpa using h3) ⟨rfl,fun i hi=>absurd hi (fu _)⟩ h1;have h':=hgv.rs;obtain ⟨h3a,h3b⟩:=h3;simp only [List.nil_append] at h3a h3b;refine ⟨_,uV h2,bM ys,_,rfl,gP,⟨h'.size,fun b hb=>h'.base b hb (fun _ h=>h),h'.out⟩,?_⟩;show Rd w' _ _ _;refine (cQ (mH h3a h3b) (il hU)).mono (fun _ _=>rfl) fun b hb=> ?_;rcases (h'.sB b hb).2 with hh|hh
  . exact .inr ⟨hh,(h'.sB b hb).1⟩
  exact .inl hh
 cases e with
 |normal=>exact go hk
 |ret=>exact go hk
 |_=>exact hk.elim
section
variable {P:Program} {fn:Func} {ts:Env} {m:Mem} {post:AV->Prop}
theorem PN {c:Code} {K:St} (hok:codeOk fn.ntmps c=true) (hv:vc P fn.ntmps c ts m (zt (Ik P fn.results.toList post) K)) {w0:World} {S0:Nat->Prop} {φ:Nat->LS} {fp:Nat->lN} {S:Nat->Prop} {a:Act} {w:World}
 (h:RS (BE w0 S0) fn.ntmps φ fp S ts m a w) {K':Act->World->Prop} (hK:∀a' w',ie (BE w0 S0) fn.ntmps K a' w'->K' a' w'):c.wpIn Fence.wide 1 P (Exit.then K' (PM P fn w0 S0 post)) a w:=by
 refine wpIn_wide.2 (wp_mono (cI c _ _ _ hok hv _ _ _ _ _ _ h) ?_);intro e a' w' hq;cases e with
 |normal=>exact hK _ _ hq
 |ret=>exact VN hq
 |_=>obtain ⟨_,_,_,_,_,_,hh⟩:=hq;exact hh.elim
theorem C6.seq {x y:Code} (hok:codeOk fn.ntmps x=true) (hv:vc P fn.ntmps x ts m (zt (Ik P fn.results.toList post) fun ts m=>C6 P fn y ts m post)):C6 P fn (.seq x y) ts m post:=
 ⟨fun _ _ _ _ _ _ _ h=>wpIn_seq (PN hok hv h fun _ _ ⟨_,_,_,_,_,h1,h2⟩=>h2.ok _ _ _ _ _ _ _ h1)⟩
theorem C6.Yw {x y z:Code} (hok:codeOk fn.ntmps x=true) (hv:vc P fn.ntmps x ts m (zt (Ik P fn.results.toList post) fun ts m=>Ut P fn y z ts m post)):C6 P fn (.seq (.seq x y) z) ts m post:=
 ⟨fun _ _ _ _ _ _ _ h=>wpIn_seq (wpIn_seq (wpIn_mono (PN hok hv h fun _ _ ⟨_,_,_,_,_,h1,h2⟩=>h2.ok _ _ _ _ _ _ _ h1) fun e a w hq=>by cases e<;>exact hq))⟩
theorem C6.Cw {c:Code} (l v:Nat) (sh:Sh) (xs:lA) (hio:l<bG) (hlk:aj m l=some (.row v sh true xs)) (h:C6 P fn c ts ((l,.row v sh false xs)::m) post):C6 P fn c ts m post:=
 ⟨fun _ _ _ _ _ _ _ hR=>have ⟨_,_,_,hR2⟩:=hR.Te hio hlk;h.ok _ _ _ _ _ _ _ hR2⟩
def Iw (ts:Env):Env->Prop
 | []=>True
 |(t,x)::r=>look ts t=x/\Iw ts r
theorem PO (ts:Env):Iw ts []=True:=rfl
theorem Mm (ts:Env) (t:Nat) (x:AV) (r:Env):Iw ts ((t,x)::r)=(look ts t=x/\Iw ts r):=rfl
attribute [go_sem] PO Mm
theorem tn {ts:Env}:∀{ts':Env},Iw ts ts'->∀t,look ts' t=look ts t\/look ts' t= .undef
 | [],_,t=>.inr rfl
 |(k,x)::r,⟨h1,h2⟩,t=>by
  rw [cV];split
  . rename_i e;subst e;exact .inl h1.symm
  exact tn h2 t
theorem RS.keep {B:eO} {N:Nat} {φ:Nat->LS} {fp:Nat->lN} {S:Nat->Prop} {a:Act} {w:World} (h:RS B N φ fp S ts m a w) {L:lN} {m':Mem} {ts':Env} (hk:oR L m m') (hb:∀l,aj B.m0 l≠none->l∈L) (ht:Iw ts ts')
 (hl:∀t p,p∈ao (look ts' t)->p.1∈L):RS B N (sf L φ) (td L fp) S ts' m' a w:=by
 have h1:=h.sub hk hb;refine {h1 with tm:=fun t=> ?_,tl:=fun t l af hlv=> ?_,defers:=h.defers,kv:=h.kv}
 . rcases tn ht t with e|e
   . rw [e];refine (h.tm t).mono (fun _ _=>rfl) (fun _ h=>h) (fun l b sh af cs e _ hb=>⟨cs,e,hb,rfl⟩) fun l af hlv=> ?_;rw [iV (hl t (l,af) (by rw [e];exact hlv))];exact LS.le_refl _ _
   rw [e];exact .rd _ _ (.undef _)
 rcases tn ht t with e|e
 . obtain ⟨k,g1,g2⟩:=h.tl t l af (by rw [←e];exact hlv);exact ⟨k,(hk.1 l (hl t (l,af) hlv)).trans g1,g2⟩
 rw [e] at hlv;cases hlv
theorem Ut.keep {x y:Code} (L:lN) (m':Mem) (ts':Env) (hk:oR L m m') (ht:Iw ts ts') (hl:∀q,q∈ts'->∀p,p∈ao q.2->p.1∈L) (h:Ut P fn x y ts' m' post):Ut P fn x y ts m post:=
 ⟨fun _ _ _ _ _ _ _ hR=>h.ok _ _ _ _ _ _ _ (hR.keep hk (fun l hl=>absurd rfl hl) ht fun t p hp=>by
   have:∀(ts':Env),(∀q,q∈ts'->∀p,p∈ao q.2->p.1∈L)->p∈ao (look ts' t)->p.1∈L:=by
    intro ts';induction ts' with
    |nil=>intro _ hp;cases hp
    |cons q r ih=>
     obtain ⟨k,x⟩:=q;intro hl hp;rw [cV] at hp;split at hp
     . exact hl _ (bB ..) p hp
     exact ih (fun q hq=>hl q (bQ _ hq)) hp
   exact this ts' hl hp)⟩
theorem Fn.Yx {f:FuncId} {c:Code} {args:List AV} (hf:P.funcs[f]? =some fn) (hn:(fn.name== "runtime.NumGoroutine")=false) (hb:fn.body=some c) (ha:args.length≤fn.ntmps)
 (hv:C6 P fn c (bN 0 args) [] post):Fn P f args false post:=by
 refine ⟨⟨fn,c,hf,hn,hb⟩,fun w S vs hS zi hsz hrd=> ?_⟩;refine callsIn_wide.1 (callsIn_of_wp_marks (n:=1) hf hb trivial (hv.ok w S (fun _=>.dead) (fun _=>[]) S _ w ?_));have j0:∀t,(look (bN 0 args) t= .undef\/∃h:t<args.length,look (bN 0 args) t=args[t]):=by
  intro t;rw [bO];by_cases h:t<args.length
  . exact .inr ⟨h,by simp [h]⟩
  exact .inl (by simp [h])
 refine {tm:=fun t=> ?_,tl:=fun t l af hl=> ?_,bU:=fun _ _=>⟨rfl,rfl⟩,aF:=fun l k hk=>(by cases hk),bl:=fun l v xs hk=>(by cases hk),gK:=fun _=>jd,
         e7:=fun _ _ _ h=>(by cases h),bJ:=fun _ _ h=>(by cases h),cw:=fun _ _ h=>(by cases h),sB:=fun b hb=>⟨hS b hb,.inr hb⟩,base:=fun b hb _=>rfl,out:=a7.refl _,ke:=je.refl _,kn:=fun _ _ _ hk=>hk,fix:=fun _ _ _ _=>LS.le_refl _ _,
         size:=aP _,defers:=rfl,kv:=by simp;omega,jf:=zi}
 . rcases j0 t with e|⟨h,e⟩
   . rw [e];exact .rd _ _ (.undef _)
   rw [e];have h1:=hrd t h;have:vs.toList.getD t Go.undef=(vs++uq2 (fn.ntmps-vs.size) undef).getD t Go.undef:=by
    have h2:t<vs.size:=by omega
    simp only [uq0,uq6,Array.getElem?_toList];rw [Array.getElem?_append_left h2]
   rw [←this];exact .rd _ _ h1
 rcases j0 t with e|⟨h,e⟩
 . rw [e] at hl;cases hl
 rw [e,fX (hrd t h)] at hl;cases hl
def Uu (P:Program) (gf:FuncId) (xs:lA) (ys:List (AV × AV)):Prop:=
 (∀args w,(callFunc gf args).run P w= .ok (.enter gf args) w)/\∀(w:World) (S:Nat->Prop) (cs:aV),(∀b,S b->b<w.heap.size)->cs.size=xs.length->(∀i (h:i<xs.length),Rd w S xs[i] (cs.toList.getD i Go.undef))→
   ∃vs:Fin ys.length->Value × Value,(∀i,Rd w S ys[i].1 (vs i).1/\Rd w S ys[i].2 (vs i).2)∧
    SeqStopsK Fence.wide 0 P gf cs (fun i=> #[(vs i).1,(vs i).2]) (fun A B=>∀b,S b->B.heap[b]? =A.heap[b]?) (fun l=>l=List.finRange ys.length) (fun _=>True) ys.length w
def vI (m:Mem) (k:lA->Prop):lA->lA->Prop
 |acc,[]=>k acc.reverse
 |acc,.ref l v i n::r=>nU v i n (aj m l) fun y=>vI m k (y::acc) r
 |acc,.val v::r=>vI m k (.val v::acc) r
 |acc,.arr sh xs::r=>vI m k (.arr sh xs::acc) r
 |_,_=>False
theorem PQ (m:Mem) (k:lA->Prop) (acc:lA):vI m k acc []=k acc.reverse:=rfl
theorem FH (m:Mem) (k:lA->Prop) (acc r:lA) (l v i n:Nat):vI m k acc (.ref l v i n::r)=nU v i n (aj m l) fun y=>vI m k (y::acc) r:=rfl
theorem PS (m:Mem) (k:lA->Prop) (acc r:lA) (v:Value):vI m k acc (.val v::r)=vI m k (.val v::acc) r:=rfl
attribute [go_sem] PQ FH PS PL Ml
theorem VO {B:eO} {N:Nat} {φ:Nat->LS} {fp:Nat->lN} {S:Nat->Prop} {a:Act} {w:World} (h:RS B N φ fp S ts m a w) {l v i n:Nat} {sh:Sh} {d:Bool} {xs:lA} {u:Value} (hm:aj m l=some (.row v sh d xs)) (hn:i+n<=xs.length) (hu:RV w S φ (.ref l v i n) u):
 Rd w (fun b=>S b\/b∈fp l) (.arr sh ((xs.drop i).take n)) u:=by
 have hr:=dt hu;have hlen:((xs.drop i).take n).length=n:=by simp;omega
 rcases h.aF l _ hm with ⟨h1,h2,h3⟩|⟨b,cap,hφ,hbm,hdp,bd⟩
 . obtain ⟨rfl,ad,rfl⟩:=hr.2 h1;rw [List.take_zero];exact .nil _ _
 obtain ⟨ad,cp,rfl,hnc,hcp⟩:=hr.1 b sh hφ;obtain ⟨cs,e,fss,hgf,aE,hcs,cj,hmx,hff,hfl,hvv⟩:=gG bd hbm;by_cases hc0:cp=0
 . have:n=0:=by omega
   subst this;subst hc0;rw [List.take_zero];exact .nil _ _
 obtain ⟨rfl,cs',e',g1,g2⟩:=hcp.resolve_left hc0;obtain rfl:=df (aE.symm.trans g1);have ck:i*sh.sz+n*sh.sz<=cs.size:=by rw [g2,←Nat.add_mul];exact Nat.mul_le_mul_right _ (by omega)
 have:=Rd.arr (w:=w) (S:=fun b=>S b\/b∈fp l) sh ((xs.drop i).take n) b (i*sh.sz) cp cs e.1 (n9 e cs.size) (.inr hbm) aE (by rw [hlen];exact hnc) (by rw [hlen];exact ck)
  (fun q hq=>by rw [hlen] at hq;simp only [cr,List.getElem_drop];exact hff _ (by omega))
  (fun q hq=>by
    rw [hlen] at hq;simp only [cr,List.getElem_drop]
    have:=(hvv (i+q) (by omega)).mh (S':=fun b=>S b\/b∈fp l) (fun c hc=>by
     cases d with
     |true=>exact hc.elim
     |false=>exact .inl hc) (fun c hc=>.inr (by rw [hgf];exact bQ _ (aJ (by omega) hc)))
    rwa [Nat.add_mul] at this)
 rw [hlen] at this;exact this
def J9 (S:Nat->Prop) (fp:Nat->lN) (b:Nat):Prop:=S b\/∃l,b∈fp l
theorem FI {B:eO} {N:Nat} {φ:Nat->LS} {fp:Nat->lN} {S:Nat->Prop} {a:Act} {w:World} (h:RS B N φ fp S ts m a w) {k:lA->Prop}:∀(xs:lA) (us:List Value) (acc:lA) (va:List Value),
 pq (RV w S φ) xs us->pq (Rd w (J9 S fp)) acc.reverse va->vI m k acc xs->∃ys,k ys/\pq (Rd w (J9 S fp)) ys (va++us)
 | [],us,acc,va,hx,ha,hk=>by
   have:us=[]:=List.eq_nil_of_length_eq_zero hx.1;subst this;exact ⟨_,hk,by simpa using ha⟩
 |x::r,[],acc,va,hx,ha,hk=>absurd hx.1 (by simp)
 |x::r,u::us,acc,va,hx,ha,hk=>by
  have hx0:RV w S φ x u:=hx.2 0 (by simp);have hr:pq (RV w S φ) r us:=⟨by simpa using hx.1,fun i hi=>by have:=hx.2 (i+1) (by simpa using hi);rwa [List.getElem_cons_succ,List.getD_cons_succ] at this⟩;have go:∀y,Rd w (J9 S fp) y u->vI m k (y::acc) r->∃ys,k ys/\pq (Rd w (J9 S fp)) ys (va++u::us):=by intro y hy hk;have:=FI h r us (y::acc) (va++[u]) hr (by rw [List.reverse_cons];exact ha.snoc hy) hk;simpa using this
  cases x with
  |ref l v i n=>
   rw [FH] at hk;unfold nU at hk;split at hk
   . rename_i v' sh d xs hb;obtain ⟨rfl,hn,hk⟩:=hk;exact go _ ((VO h hb hn hx0).mono (fun _ _=>rfl) fun b hb=>hb.imp id fun hh=>⟨l,hh⟩) hk
   exact hk.elim
  |val v=>exact go _ ((cQ hx0 rfl).mono (fun _ _=>rfl) fun b hb=>.inl hb) hk
  |arr sh xs=>exact go _ ((cQ hx0 rfl).mono (fun _ _=>rfl) fun b hb=>.inl hb) hk
  |_=>exact hk.elim
theorem PT {w:World} {S:Nat->Prop} {ys:lA} {vs:List Value} (h:pq (Rd w S) ys vs):Rd w S (bM ys) (if h:vs.toArray.size=1 then vs.toArray[0] else .tuple vs.toArray):=by
 obtain ⟨hl,hv⟩:=h;match ys,vs,hl,hv with
 | [],[],_,_=>exact .aZ [] #[] rfl fun i hi=>absurd hi (fu _)
 | [y],[v],_,hv=>simpa [bM] using hv 0 (by simp)
 |y::y'::r,v::v'::r',hl,hv=>
  have:¬((v::v'::r').toArray.size=1):=by simp
  rw [dif_neg this];exact .aZ _ _ (by simpa using hl) (by simpa using hv)
def Uv (ops:List Oper):Bool:=ops.all fun o=>match o.op with| .defer _=>false|_=>true
theorem Mn {ops:List Oper} (h:Uv ops=true):∀(i:Nat) (o:Oper),ops.toArray[i]? =some o->∀c,o.op≠ .defer c:=by intro i o ho c hc;have:=uq5.1 h o (cK (by simpa using ho));rw [hc] at this;cases this
theorem Ut.VP {id0 g p1 p2 i1 d ty1 id2 i2 i3:Nat} {pos1:String} {af1:Array Edge} {ops tops:List Oper} {gf:FuncId} {xs:lA} {ys:List (AV × AV)} (k:Nat) (MM:List (Fin ys.length)->Mem->Prop) (ts1:Env) (hts:Iv (eX 1500000000 [] m) ts=ts1)
 (Za:P.follows .mixedOrders=true) (hg:look ts g= .cy gf xs) (hxl:au xs=[]) (Zb:Uu P gf xs ys) (Zc:oQ (eX 1500000000 [] m) m)
 (h0:∃m0,MM [] m0/\∀l,aj (kO (eX 1500000000 [] m) m) l=aj m0 l) (hhi:∀pre m,MM pre m->qj m)
 (hok:(jM fn.ntmps ops&&di fn.ntmps ops&&(It k ops&&(n6 ops k&&(n6 ops (k+1)&&decide (k<ops.length)))))=true)
 (rk:(Uv ops&&(jM fn.ntmps tops&&di fn.ntmps tops)&&(decide (p1<fn.ntmps)&&decide (p2<fn.ntmps)&&decide (d<fn.ntmps)))=true)
 (Rf:∀pre (x:Fin ys.length) m1,pre.length<ys.length->MM pre m1->sD P (ops.take k) (ops.take k) ((d,ys[x].2)::(p2,ys[x].2)::(p1,ys[x].1)::ts1) m1 [] fun ts' m'=>
   sL P ops ((ops.drop k).take 1) ts' m' fun ts'' m''=>sD P ops (ops.drop (k+1)) ts'' m'' (cL (k+1) ([],[])) fun _ m3=>∃m2,MM (pre++[x]) m2/\∀l,aj m3 l=aj m2 l)
 (X5:∀m1,MM (List.finRange ys.length) m1->sL P tops tops ts1 m1 fun ts' m'=>aQ P (fun zs=>vI m' (fun zs=>post (bM zs)) [] zs) fn.results.toList ts' m' []):
 Ut P fn (.block id0 (.rangeFunc (.tmp g) #[p1,p2] (.region i1 #[⟨some d,.assign (.tmp p2),ty1,pos1,af1,none⟩] false) (.block id2 (.region i2 ⟨ops⟩ true)))) (.seq (.region i3 ⟨tops⟩ false) .ret) ts m post:=by
 subst hts;refine ⟨fun w0 S0 φ fp S a w h=>wpIn_block ?_⟩;simp only [uq3,decide_eq_true_eq] at rk;obtain ⟨⟨hnd,Zd,Ze⟩,⟨hp1,hp2⟩,hd⟩:=rk;obtain ⟨φ1,fp1,h1⟩:=RS.Us rfl _ Zc h;obtain ⟨m0,hm0,e0⟩:=h0;have h2:=(h1.ext (fun _=>rfl) fun l=>(e0 l).symm).cells;have had:a.defers=[]:=h.defers;have hv:=h.tm g;rw [hg] at hv;obtain ⟨cs,hcv,hcs,hrd⟩:∃cs,a.tmps.getD g Go.undef= .func (.func gf) #[] cs/\cs.size=xs.length/\∀i (h:i<xs.length),Rd w S xs[i] (cs.toList.getD i Go.undef):=by
  generalize a.tmps.getD g Go.undef=v at hv;cases hv with
  |rd _ _ h=>cases h with|cy _ _ cs h1 h2=>exact ⟨cs,rfl,h1,h2⟩
  |cy _ _ cs h1 h2=>exact ⟨cs,rfl,h1,fun i hi=>cQ (h2 i hi) (bK hxl i hi)⟩
 obtain ⟨he,hit⟩:=Zb;obtain ⟨vs,hvs,hst⟩:=hit w (fun b=>S b/\sT w b) cs (fun b hb=>(h.sB b hb.1).1) hcs (fun i hi=>(hrd i hi).cells)
 refine wpIn_rangeFunc_ownF (F:=Fence.wide) (n:=1) rfl (aP _) (gf:=gf) (lb:=cs) (by simpa [Act.eval] using hcv) trivial he hst (fun h k b hb=>(k b hb).trans (h b hb))
  (fun W l o o' hl _ _ _ b hb=>World.putObj_heap_other (by have:=(h.sB b hb.1).1;omega)) (Below.refl _ _) (fun _=>rfl)
  (fun pre W=>∃φ fp S2 m1,RS (BE w0 S0) fn.ntmps φ fp S2 (Iv (eX 1500000000 [] m) ts) m1 a W/\MM pre m1/\(∀b,(S b/\sT w b)->S2 b/\W.heap[b]? =w.heap[b]?)/\∀b,S2 b->sT W b)
  (fun _ _ _=>False) ?hI (fun c s W W' row h=>h.elim) ?h0 (fun x=>{tmps:=((a.tmps.setIfInBounds p1 (vs x).1).setIfInBounds p2 (vs x).2).setIfInBounds d (vs x).2,defers:=[]}) ?TF ?Rf ?X6
  (fun D c pre W _ _ h=>h.elim)
 case hI=>
  rintro s W W' row ⟨φ,fp,S2,m1,r,hm,hs,hc⟩ hgr hr;refine ⟨φ,fp,S2,m1,r.PJ hc hgr (fun q e=>⟨fW h.size (hr q e).1,(hr q e).2⟩),hm,fun b hb=>⟨(hs b hb).1,(yh hgr (fun r e=>(hr r e).2) (hc b (hs b hb).1)).trans (hs b hb).2⟩,fun b hb=> ?_⟩;obtain ⟨o,q1,q2⟩:=hc b hb;exact ⟨o,(yh hgr (fun r e=>(hr r e).2) ⟨o,q1,q2⟩).trans q1,q2⟩
 case h0=>exact ⟨φ1,fp1,_,m0,h2,hm0,fun b hb=>⟨hb,rfl⟩,fun b hb=>hb.2⟩
 case TF=>
  intro l x W K hK;have htz:=h.kv;refine wpIn_region_list ?_;simp only [wpListIn];rw [if_pos (show Region.wanted _ _=true from rfl)];refine Xi (fun c e=>by cases e) ?_;unfold Oper.wp;simp only [execOp,Sem.run_pure,Oper.upon];have ez:Array.foldl (fun t (x:Nat × Value)=>t.setIfInBounds x.1 x.2) a.tmps (#[p1,p2].zip #[(vs x).1,(vs x).2])=(a.tmps.setIfInBounds p1 (vs x).1).setIfInBounds p2 (vs x).2:=by simp
  have e2:((a.tmps.setIfInBounds p1 (vs x).1).setIfInBounds p2 (vs x).2).getD p2 Go.undef=(vs x).2:=by
   have:p2<a.tmps.size:=by rw [htz];exact hp2
   simp [uq0,this]
  show K _ W;rw [ez];show K {tmps:=((a.tmps.setIfInBounds p1 (vs x).1).setIfInBounds p2 (vs x).2).setIfInBounds d (((a.tmps.setIfInBounds p1 (vs x).1).setIfInBounds p2 (vs x).2).getD p2 Go.undef),defers:=[]} W;rw [e2];exact hK
 case Rf=>
  rintro l pre x W ⟨φ,fp,S2,m1,r,hm,hs,hc⟩ hlen;have TG:=pD (hhi _ _ hm);have X7:=(hvs x).1.mono (S':=S2) (w':=W) (fun b hb=>(hs b hb).2) (fun b hb=>(hs b hb).1);have TH:=(hvs x).2.mono (S':=S2) (w':=W) (fun b hb=>(hs b hb).2) (fun b hb=>(hs b hb).1);have hno:∀{y:AV} {u:Value},Rd W S2 y u->∀l af,(l,af)∈ao y->known m1 l af:=fun hr l af hl=>by rw [fX hr] at hl;cases hl
  have r2:=(((r.PK TG).put p1 _ _ hp1 (.rd _ _ X7) (hno X7)).put p2 _ _ hp2 (.rd _ _ TH) (hno TH)).put d _ _ hd (.rd _ _ TH) (hno TH);have ea:(((a.put (some p1) (vs x).1).put (some p2) (vs x).2).put (some d) (vs x).2)=({tmps:=((a.tmps.setIfInBounds p1 (vs x).1).setIfInBounds p2 (vs x).2).setIfInBounds d (vs x).2,defers:=[]}:Act):=by show ({tmps:=_,defers:=a.defers}:Act)=_;rw [had];rfl
  rw [ea] at r2;refine wpIn_block (wpIn_region_any Za (J8 (Mn hnd) (fun ⟨_,_,hh⟩=>hh) _ _ _ _ (J7 k hok (Rf pre x m1 hlen hm) r2 ?_)));rintro a' W' ⟨φ',fp',S',ts',m3,r3,m2,hm2,e2⟩;have r4:=r3.ext (fun _=>rfl) (m':=m2) (fun l=>(e2 l).symm);have r5:=(r.back TG r4).cells;have hkp:∀b,(S b/\sT w b)->W'.heap[b]? =W.heap[b]? :=fun b hb=>r4.base b (r.sB b (hs b hb).1).1 fun l hl=>r.bJ l b hl (hs b hb).1;refine ⟨⟨r4.size,fun k o hk ho=> ?_⟩,hkp,φ',fp',_,m2,r5,hm2,fun b hb=>⟨⟨.inl (hs b hb).1,?_⟩,(hkp b hb).trans (hs b hb).2⟩,fun b hb=>hb.2⟩
  . refine (r4.base k (uq1.1 hk).1 fun l hl=> ?_).trans hk;obtain ⟨o',q1,q2⟩:=r.sT hl;rw [hk] at q1;cases q1;rw [ho] at q2;cases q2
  obtain ⟨o,q1,q2⟩:=hc b (hs b hb).1;exact ⟨o,(hkp b hb).trans q1,q2⟩
 case X6=>
  rintro D xs' W hD rfl ⟨φ,fp,S2,m1,r,hm,hs,hc⟩ hK;have TG:=pD (hhi _ _ hm);have r1:=r.PK TG
  have hp:=iP (P:=P) (B:=⟨W,fun l b=>b∈fp l,S2,φ,m1⟩) (N:=fn.ntmps) (ops:=tops) Zd Ze
   (Q:=fun e a' w'=>e= .normal/\ie ⟨W,fun l b=>b∈fp l,S2,φ,m1⟩ fn.ntmps (fun ts' m'=>aQ P (fun zs=>vI m' (fun zs=>post (bM zs)) [] zs) fn.results.toList ts' m' []) a' w')
   (fun a w h=>⟨rfl,h⟩) tops 0 (by simp) φ fp S2 _ m1 a W r1 (X5 m1 hm)
  have hp2:=iC (ds:=[{target:=.collected D,args:= #[]}]) _ _ _ hp;rw [had] at hp2;show (Code.seq (.region i3 ⟨tops⟩ false) .ret).wpIn _ _ _ _ _ _;rw [had];refine wpIn_seq (wpIn_wide.2 (wp_mono (wp_region (by simpa using hp2)) ?_));rintro e a' w' ⟨a'',rfl,rfl,φ',fp',S',ts',m',r',hk⟩;refine wpIn_ret ?_;have hnc:∀l,D∉fp l:=fun l hl=>by obtain ⟨o',q1,q2⟩:=r.sT hl;rw [hK] at q1;cases q1;cases q2
  have hK':w'.heap[D]? =some (.deferred (some [])):=(r'.base D (uq1.1 hK).1 fun l hl=>hnc l hl).trans hK;have Zf:a''.defers=[]:=r'.defers;show LeavesInM Fence.wide 1 P fn a''.tmps (VM w0 S0 post) (a''.defers++[{target:=.collected D,args:= #[]}]) .returning w';rw [Zf];refine ⟨by simp,.inl ⟨D,_,rfl,run_takeDeferred hK',?_⟩⟩;have r3:=((r.VL r').cells).PJ (fun b hb=>hb.2) (grownBy_putObj' w' D (.deferred none)) (fun q e=>by cases e;exact ⟨fW h.size hD,_,hK',rfl⟩);obtain ⟨zs,us,q1,q2,q3,q4⟩:=cR r3 fn.results.toList [] [] ⟨rfl,fun i hi=>absurd hi (fu _)⟩ (fun i hi=>absurd hi (fu _)) hk;obtain ⟨ys',hpo,hy⟩:=FI r3 zs us [] [] (by simpa using q3) ⟨rfl,fun i hi=>absurd hi (fu _)⟩ q1;refine ⟨_,uV q2,bM ys',_,rfl,hpo,⟨r3.size,fun b hb=>r3.base b hb (fun _ h=>h),r3.out⟩,?_⟩;show Rd _ _ _ _;refine (PT (by simpa using hy)).mono (fun _ _=>rfl) fun b hb=> ?_;rcases hb with hb|⟨l,hb⟩
  . rcases (r3.sB b hb).2 with hh|hh
    . exact .inr ⟨hh,(r3.sB b hb).1⟩
    exact .inl hh
  rcases (r3.cw l b hb).2 with hh|⟨_,hh,_⟩
  . exact .inr ⟨hh,(r3.cw l b hb).1⟩
  exact hh.elim
end
end Go.Vc
namespace Go.Proofs
open Go.Shelf
def Tryz.zA:Go.Shelf.Ren:=⟨fun|173=>112|246=>158|283=>206|284=>207|285=>208|286=>209|129=>248|317=>247|318=>249|319=>250|320=>251|337=>268|338=>269|n=>n,fun|2=>2|3=>3|9=>9|4=>4|171=>194|0=>0|53=>174|37=>32|5=>5|173=>197|212=>232|51=>228|20=>20|213=>233|46=>177|232=>253|233=>254|n=>n,fun|17=>5|18=>6|19=>7|n=>n⟩
theorem Tryz.Mo:Go.Proofs.LaysM.n173 pG Tryz.zA:={
 mixed:=by kernel_rfl
 f129:=Tryz.func248.trans (congrArg some (by kernel_rfl))
 f173:=Tryz.func112.trans (congrArg some (by kernel_rfl))
 f246:=Tryz.func158.trans (congrArg some (by kernel_rfl))
 f283:=Tryz.func206.trans (congrArg some (by kernel_rfl))
 f284:=Tryz.func207.trans (congrArg some (by kernel_rfl))
 f285:=Tryz.func208.trans (congrArg some (by kernel_rfl))
 f286:=Tryz.func209.trans (congrArg some (by kernel_rfl))
 f317:=Tryz.func247.trans (congrArg some (by kernel_rfl))
 f318:=Tryz.func249.trans (congrArg some (by kernel_rfl))
 f319:=Tryz.func250.trans (congrArg some (by kernel_rfl))
 f320:=Tryz.func251.trans (congrArg some (by kernel_rfl))
 f337:=Tryz.func268.trans (congrArg some (by kernel_rfl))
 f338:=Tryz.func269.trans (congrArg some (by kernel_rfl))
 t0:=underlying0
 a0:=isAgg0
 z0:=sizeOf0
 v0:=zeroValue0
 t2:=underlying2
 a2:=isAgg2
 z2:=sizeOf2
 v2:=zeroValue2
 t3:=underlying3
 a3:=isAgg3
 z3:=sizeOf3
 v3:=zeroValue3
 t4:=underlying4
 a4:=isAgg4
 z4:=sizeOf4
 v4:=zeroValue4
 t5:=underlying5
 a5:=isAgg5
 z5:=sizeOf5
 v5:=zeroValue5
 t9:=underlying9
 a9:=isAgg9
 z9:=sizeOf9
 v9:=zeroValue9
 t20:=underlying20
 a20:=isAgg20
 z20:=sizeOf20
 v20:=zeroValue20
 t37:=underlying32
 a37:=isAgg32
 z37:=sizeOf32
 v37:=zeroValue32
 t46:=underlying177
 a46:=isAgg177
 z46:=sizeOf177
 v46:=zeroValue177
 t51:=underlying228
 a51:=isAgg228
 z51:=sizeOf228
 v51:=zeroValue228
 t53:=underlying174
 a53:=isAgg174
 z53:=sizeOf174
 v53:=zeroValue174
 t171:=underlying194
 a171:=isAgg194
 z171:=sizeOf194
 v171:=zeroValue194
 t173:=underlying197
 a173:=isAgg197
 z173:=sizeOf197
 v173:=zeroValue197
 t212:=underlying232
 a212:=isAgg232
 z212:=sizeOf232
 v212:=zeroValue232
 t213:=underlying233
 a213:=isAgg233
 z213:=sizeOf233
 t232:=underlying253
 a232:=isAgg253
 z232:=sizeOf253
 v232:=zeroValue253
 t233:=underlying254
 a233:=isAgg254
 z233:=sizeOf254
 v233:=zeroValue254
 g17:=by kernel_rfl
 g18:=by kernel_rfl
 g19:=by kernel_rfl
 i0:=by kernel_rfl
 i2:=by kernel_rfl
 i3:=by kernel_rfl
 i4:=by kernel_rfl
 i5:=by kernel_rfl
 i9:=by kernel_rfl
 i20:=by kernel_rfl
 i37:=by kernel_rfl
 i46:=by kernel_rfl
 i51:=by kernel_rfl
 i53:=by kernel_rfl
 i171:=by kernel_rfl
 i173:=by kernel_rfl
 i212:=by kernel_rfl
 i232:=by kernel_rfl
 i233:=by kernel_rfl
 m17:=by kernel_rfl
 m18:=by kernel_rfl
 m19:=by kernel_rfl}
def Tryz.ny:Go.Shelf.Ren:=⟨fun|174=>88|247=>128|245=>129|287=>182|279=>183|280=>184|281=>185|282=>186|321=>235|322=>236|316=>237|171=>239|205=>238|243=>267|246=>158|283=>206|284=>207|285=>208|286=>209|129=>248|317=>247|318=>249|319=>250|320=>251|337=>268|338=>269|n=>n,fun|9=>9|3=>3|2=>2|75=>99|85=>100|4=>4|167=>173|5=>5|53=>174|175=>175|46=>177|168=>178|37=>32|0=>0|210=>220|21=>21|127=>238|145=>243|143=>241|171=>194|173=>197|212=>232|51=>228|20=>20|213=>233|232=>253|233=>254|80=>213|n=>n,fun|15=>1|16=>2|17=>5|18=>6|19=>7|n=>n⟩
theorem Tryz.yi:Go.Proofs.LaysC.n174 pG Tryz.ny:={
 mixed:=by kernel_rfl
 f129:=Tryz.func248.trans (congrArg some (by kernel_rfl))
 f171:=Tryz.func239.trans (congrArg some (by kernel_rfl))
 f174:=Tryz.func88.trans (congrArg some (by kernel_rfl))
 f205:=Tryz.func238.trans (congrArg some (by kernel_rfl))
 f243:=Tryz.func267.trans (congrArg some (by kernel_rfl))
 f245:=Tryz.func129.trans (congrArg some (by kernel_rfl))
 f246:=Tryz.func158.trans (congrArg some (by kernel_rfl))
 f247:=Tryz.func128.trans (congrArg some (by kernel_rfl))
 f279:=Tryz.func183.trans (congrArg some (by kernel_rfl))
 f280:=Tryz.func184.trans (congrArg some (by kernel_rfl))
 f281:=Tryz.func185.trans (congrArg some (by kernel_rfl))
 f282:=Tryz.func186.trans (congrArg some (by kernel_rfl))
 f283:=Tryz.func206.trans (congrArg some (by kernel_rfl))
 f284:=Tryz.func207.trans (congrArg some (by kernel_rfl))
 f285:=Tryz.func208.trans (congrArg some (by kernel_rfl))
 f286:=Tryz.func209.trans (congrArg some (by kernel_rfl))
 f287:=Tryz.func182.trans (congrArg some (by kernel_rfl))
 f316:=Tryz.func237.trans (congrArg some (by kernel_rfl))
 f317:=Tryz.func247.trans (congrArg some (by kernel_rfl))
 f318:=Tryz.func249.trans (congrArg some (by kernel_rfl))
 f319:=Tryz.func250.trans (congrArg some (by kernel_rfl))
 f320:=Tryz.func251.trans (congrArg some (by kernel_rfl))
 f321:=Tryz.func235.trans (congrArg some (by kernel_rfl))
 f322:=Tryz.func236.trans (congrArg some (by kernel_rfl))
 f337:=Tryz.func268.trans (congrArg some (by kernel_rfl))
 f338:=Tryz.func269.trans (congrArg some (by kernel_rfl))
 t0:=underlying0
 a0:=isAgg0
 z0:=sizeOf0
 v0:=zeroValue0
 t2:=underlying2
 a2:=isAgg2
 z2:=sizeOf2
 v2:=zeroValue2
 t3:=underlying3
 a3:=isAgg3
 z3:=sizeOf3
 v3:=zeroValue3
 t4:=underlying4
 a4:=isAgg4
 z4:=sizeOf4
 v4:=zeroValue4
 t5:=underlying5
 a5:=isAgg5
 z5:=sizeOf5
 v5:=zeroValue5
 t9:=underlying9
 a9:=isAgg9
 z9:=sizeOf9
 v9:=zeroValue9
 t20:=underlying20
 a20:=isAgg20
 z20:=sizeOf20
 v20:=zeroValue20
 t21:=underlying21
 a21:=isAgg21
 z21:=sizeOf21
 v21:=zeroValue21
 t37:=underlying32
 a37:=isAgg32
 z37:=sizeOf32
 v37:=zeroValue32
 t46:=underlying177
 a46:=isAgg177
 z46:=sizeOf177
 v46:=zeroValue177
 t51:=underlying228
 a51:=isAgg228
 z51:=sizeOf228
 v51:=zeroValue228
 t53:=underlying174
 a53:=isAgg174
 z53:=sizeOf174
 v53:=zeroValue174
 t75:=underlying99
 a75:=isAgg99
 z75:=sizeOf99
 v75:=zeroValue99
 t85:=underlying100
 a85:=isAgg100
 z85:=sizeOf100
 v85:=zeroValue100
 t127:=underlying238
 a127:=isAgg238
 z127:=sizeOf238
 v127:=zeroValue238
 t143:=underlying241
 a143:=isAgg241
 z143:=sizeOf241
 v143:=zeroValue241
 t145:=underlying243
 a145:=isAgg243
 z145:=sizeOf243
 v145:=zeroValue243
 t167:=underlying173
 a167:=isAgg173
 z167:=sizeOf173
 v167:=zeroValue173
 t168:=underlying178
 a168:=isAgg178
 z168:=sizeOf178
 v168:=zeroValue178
 t171:=underlying194
 a171:=isAgg194
 z171:=sizeOf194
 v171:=zeroValue194
 t173:=underlying197
 a173:=isAgg197
 z173:=sizeOf197
 v173:=zeroValue197
 t175:=underlying175
 a175:=isAgg175
 z175:=sizeOf175
 v175:=zeroValue175
 t210:=underlying220
 a210:=isAgg220
 z210:=sizeOf220
 v210:=zeroValue220
 t212:=underlying232
 a212:=isAgg232
 z212:=sizeOf232
 v212:=zeroValue232
 t213:=underlying233
 a213:=isAgg233
 z213:=sizeOf233
 t232:=underlying253
 a232:=isAgg253
 z232:=sizeOf253
 v232:=zeroValue253
 t233:=underlying254
 a233:=isAgg254
 z233:=sizeOf254
 v233:=zeroValue254
 g15:=by kernel_rfl
 g16:=by kernel_rfl
 g17:=by kernel_rfl
 g18:=by kernel_rfl
 g19:=by kernel_rfl
 t80:=underlying213
 a80:=isAgg213
 z80:=sizeOf213
 v80:=zeroValue213
 i0:=by kernel_rfl
 i2:=by kernel_rfl
 i3:=by kernel_rfl
 i4:=by kernel_rfl
 i5:=by kernel_rfl
 i9:=by kernel_rfl
 i20:=by kernel_rfl
 i21:=by kernel_rfl
 i37:=by kernel_rfl
 i46:=by kernel_rfl
 i51:=by kernel_rfl
 i53:=by kernel_rfl
 i75:=by kernel_rfl
 i80:=by kernel_rfl
 i85:=by kernel_rfl
 i127:=by kernel_rfl
 i143:=by kernel_rfl
 i145:=by kernel_rfl
 i167:=by kernel_rfl
 i168:=by kernel_rfl
 i171:=by kernel_rfl
 i173:=by kernel_rfl
 i175:=by kernel_rfl
 i210:=by kernel_rfl
 i212:=by kernel_rfl
 i232:=by kernel_rfl
 i233:=by kernel_rfl
 m15:=by kernel_rfl
 m16:=by kernel_rfl
 m17:=by kernel_rfl
 m18:=by kernel_rfl
 m19:=by kernel_rfl
 c0:=by kernel_rfl
 c2:=by kernel_rfl
 c3:=by kernel_rfl
 c4:=by kernel_rfl
 c5:=by kernel_rfl
 c9:=by kernel_rfl
 c20:=by kernel_rfl
 c21:=by kernel_rfl
 c37:=by kernel_rfl
 c46:=by kernel_rfl
 c51:=by kernel_rfl
 c53:=by kernel_rfl
 c75:=by kernel_rfl
 c80:=by kernel_rfl
 c85:=by kernel_rfl
 c127:=by kernel_rfl
 c143:=by kernel_rfl
 c145:=by kernel_rfl
 c167:=by kernel_rfl
 c168:=by kernel_rfl
 c171:=by kernel_rfl
 c173:=by kernel_rfl
 c175:=by kernel_rfl
 c210:=by kernel_rfl
 c212:=by kernel_rfl
 c213:=by kernel_rfl
 c232:=by kernel_rfl
 c233:=by kernel_rfl}
def Tryz.nz:Go.Shelf.Ren:=⟨fun|146=>58|221=>81|268=>108|138=>109|143=>110|195=>154|197=>155|218=>156|219=>157|260=>201|217=>202|225=>203|224=>204|267=>205|266=>245|314=>246|n=>n,fun|9=>9|31=>35|3=>3|4=>4|0=>0|105=>155|21=>21|5=>5|46=>177|119=>224|139=>227|138=>226|146=>229|51=>228|n=>n,fun|1=>0|3=>3|4=>4|n=>n⟩
theorem Tryz.PU:Go.Proofs.Lays.n146 pG Tryz.nz:={
 mixed:=by kernel_rfl
 f138:=Tryz.func109.trans (congrArg some (by kernel_rfl))
 f143:=Tryz.func110.trans (congrArg some (by kernel_rfl))
 f146:=Tryz.func58.trans (congrArg some (by kernel_rfl))
 f195:=Tryz.func154.trans (congrArg some (by kernel_rfl))
 f197:=Tryz.func155.trans (congrArg some (by kernel_rfl))
 f217:=Tryz.func202.trans (congrArg some (by kernel_rfl))
 f218:=Tryz.func156.trans (congrArg some (by kernel_rfl))
 f219:=Tryz.func157.trans (congrArg some (by kernel_rfl))
 f221:=Tryz.func81.trans (congrArg some (by kernel_rfl))
 f224:=Tryz.func204.trans (congrArg some (by kernel_rfl))
 f225:=Tryz.func203.trans (congrArg some (by kernel_rfl))
 f260:=Tryz.func201.trans (congrArg some (by kernel_rfl))
 f266:=Tryz.func245.trans (congrArg some (by kernel_rfl))
 f267:=Tryz.func205.trans (congrArg some (by kernel_rfl))
 f268:=Tryz.func108.trans (congrArg some (by kernel_rfl))
 f314:=Tryz.func246.trans (congrArg some (by kernel_rfl))
 t0:=underlying0
 a0:=isAgg0
 z0:=sizeOf0
 v0:=zeroValue0
 t3:=underlying3
 a3:=isAgg3
 z3:=sizeOf3
 v3:=zeroValue3
 t4:=underlying4
 a4:=isAgg4
 z4:=sizeOf4
 v4:=zeroValue4
 t5:=underlying5
 a5:=isAgg5
 z5:=sizeOf5
 v5:=zeroValue5
 t9:=underlying9
 a9:=isAgg9
 z9:=sizeOf9
 v9:=zeroValue9
 t21:=underlying21
 a21:=isAgg21
 z21:=sizeOf21
 v21:=zeroValue21
 t31:=underlying35
 a31:=isAgg35
 z31:=sizeOf35
 v31:=zeroValue35
 t46:=underlying177
 a46:=isAgg177
 z46:=sizeOf177
 v46:=zeroValue177
 t51:=underlying228
 a51:=isAgg228
 z51:=sizeOf228
 v51:=zeroValue228
 t105:=underlying155
 a105:=isAgg155
 z105:=sizeOf155
 v105:=zeroValue155
 t119:=underlying224
 a119:=isAgg224
 z119:=sizeOf224
 t138:=underlying226
 a138:=isAgg226
 z138:=sizeOf226
 v138:=zeroValue226
 t139:=underlying227
 a139:=isAgg227
 z139:=sizeOf227
 v139:=zeroValue227
 t146:=underlying229
 a146:=isAgg229
 z146:=sizeOf229
 v146:=zeroValue229
 g1:=by kernel_rfl
 g3:=by kernel_rfl
 g4:=by kernel_rfl}
def Tryz.uW:Go.Shelf.Ren:=⟨fun|156=>166|165=>217|166=>218|169=>219|240=>260|241=>261|276=>275|277=>276|n=>n,fun|31=>35|9=>9|3=>3|4=>4|0=>0|20=>20|72=>209|76=>211|70=>207|37=>32|75=>99|127=>238|164=>247|5=>5|80=>213|n=>n,fun|n=>n⟩
theorem Tryz.Ka:Go.Proofs.Lays.n156 pG Tryz.uW:={
 mixed:=by kernel_rfl
 f156:=Tryz.func166.trans (congrArg some (by kernel_rfl))
 f165:=Tryz.func217.trans (congrArg some (by kernel_rfl))
 f166:=Tryz.func218.trans (congrArg some (by kernel_rfl))
 f169:=Tryz.func219.trans (congrArg some (by kernel_rfl))
 f240:=Tryz.func260.trans (congrArg some (by kernel_rfl))
 f241:=Tryz.func261.trans (congrArg some (by kernel_rfl))
 f276:=Tryz.func275.trans (congrArg some (by kernel_rfl))
 f277:=Tryz.func276.trans (congrArg some (by kernel_rfl))
 t0:=underlying0
 a0:=isAgg0
 z0:=sizeOf0
 v0:=zeroValue0
 t3:=underlying3
 a3:=isAgg3
 z3:=sizeOf3
 v3:=zeroValue3
 t4:=underlying4
 a4:=isAgg4
 z4:=sizeOf4
 v4:=zeroValue4
 t9:=underlying9
 a9:=isAgg9
 z9:=sizeOf9
 v9:=zeroValue9
 t20:=underlying20
 a20:=isAgg20
 z20:=sizeOf20
 v20:=zeroValue20
 t31:=underlying35
 a31:=isAgg35
 z31:=sizeOf35
 v31:=zeroValue35
 t37:=underlying32
 a37:=isAgg32
 z37:=sizeOf32
 v37:=zeroValue32
 t70:=underlying207
 a70:=isAgg207
 z70:=sizeOf207
 v70:=zeroValue207
 t72:=underlying209
 a72:=isAgg209
 z72:=sizeOf209
 v72:=zeroValue209
 t75:=underlying99
 a75:=isAgg99
 z75:=sizeOf99
 v75:=zeroValue99
 t76:=underlying211
 a76:=isAgg211
 z76:=sizeOf211
 v76:=zeroValue211
 t127:=underlying238
 a127:=isAgg238
 z127:=sizeOf238
 v127:=zeroValue238
 t164:=underlying247
 a164:=isAgg247
 z164:=sizeOf247
 v164:=zeroValue247}
def Tryz.qk:Go.Shelf.Ren:=⟨fun|105=>264|212=>277|99=>278|165=>217|166=>218|170=>279|169=>219|263=>292|264=>293|206=>294|240=>260|241=>261|276=>275|277=>276|n=>n,fun|9=>9|3=>3|4=>4|20=>20|0=>0|46=>177|109=>250|5=>5|72=>209|76=>211|51=>228|146=>229|53=>174|148=>266|70=>207|37=>32|75=>99|127=>238|164=>247|80=>213|n=>n,fun|n=>n⟩
theorem Tryz.Mp:Go.Proofs.Lays.n105 pG Tryz.qk:={
 mixed:=by kernel_rfl
 f99:=Tryz.func278.trans (congrArg some (by kernel_rfl))
 f105:=Tryz.func264.trans (congrArg some (by kernel_rfl))
 f165:=Tryz.func217.trans (congrArg some (by kernel_rfl))
 f166:=Tryz.func218.trans (congrArg some (by kernel_rfl))
 f169:=Tryz.func219.trans (congrArg some (by kernel_rfl))
 f170:=Tryz.func279.trans (congrArg some (by kernel_rfl))
 f206:=Tryz.func294.trans (congrArg some (by kernel_rfl))
 f212:=Tryz.func277.trans (congrArg some (by kernel_rfl))
 f240:=Tryz.func260.trans (congrArg some (by kernel_rfl))
 f241:=Tryz.func261.trans (congrArg some (by kernel_rfl))
 f263:=Tryz.func292.trans (congrArg some (by kernel_rfl))
 f264:=Tryz.func293.trans (congrArg some (by kernel_rfl))
 f276:=Tryz.func275.trans (congrArg some (by kernel_rfl))
 f277:=Tryz.func276.trans (congrArg some (by kernel_rfl))
 t0:=underlying0
 a0:=isAgg0
 z0:=sizeOf0
 v0:=zeroValue0
 t3:=underlying3
 a3:=isAgg3
 z3:=sizeOf3
 v3:=zeroValue3
 t4:=underlying4
 a4:=isAgg4
 z4:=sizeOf4
 v4:=zeroValue4
 t5:=underlying5
 a5:=isAgg5
 z5:=sizeOf5
 v5:=zeroValue5
 t9:=underlying9
 a9:=isAgg9
 z9:=sizeOf9
 v9:=zeroValue9
 t20:=underlying20
 a20:=isAgg20
 z20:=sizeOf20
 v20:=zeroValue20
 t37:=underlying32
 a37:=isAgg32
 z37:=sizeOf32
 v37:=zeroValue32
 t46:=underlying177
 a46:=isAgg177
 z46:=sizeOf177
 v46:=zeroValue177
 t51:=underlying228
 a51:=isAgg228
 z51:=sizeOf228
 v51:=zeroValue228
 t53:=underlying174
 a53:=isAgg174
 z53:=sizeOf174
 v53:=zeroValue174
 t70:=underlying207
 a70:=isAgg207
 z70:=sizeOf207
 v70:=zeroValue207
 t72:=underlying209
 a72:=isAgg209
 z72:=sizeOf209
 v72:=zeroValue209
 t75:=underlying99
 a75:=isAgg99
 z75:=sizeOf99
 v75:=zeroValue99
 t76:=underlying211
 a76:=isAgg211
 z76:=sizeOf211
 v76:=zeroValue211
 t109:=underlying250
 a109:=isAgg250
 z109:=sizeOf250
 v109:=zeroValue250
 t127:=underlying238
 a127:=isAgg238
 z127:=sizeOf238
 v127:=zeroValue238
 t146:=underlying229
 a146:=isAgg229
 z146:=sizeOf229
 v146:=zeroValue229
 t148:=underlying266
 a148:=isAgg266
 z148:=sizeOf266
 v148:=zeroValue266
 t164:=underlying247
 a164:=isAgg247
 z164:=sizeOf247
 v164:=zeroValue247}
theorem Tryz.BF:Builder.Extra pG Tryz.uW:={
 sizeBuilder:=by kernel_rfl
 liesBuilder:=by kernel_rfl
 t5:=underlying5
 a5:=isAgg5
 z5:=sizeOf5
 v5:=zeroValue5
 infoByte:=by kernel_rfl
 cellsByte:=by kernel_rfl
 sizeByte:=by kernel_rfl
 neB5:=by decide}
theorem Tryz.FJ:Builder.Extra pG Tryz.qk:={
 sizeBuilder:=by kernel_rfl
 liesBuilder:=by kernel_rfl
 t5:=underlying5
 a5:=isAgg5
 z5:=sizeOf5
 v5:=zeroValue5
 infoByte:=by kernel_rfl
 cellsByte:=by kernel_rfl
 sizeByte:=by kernel_rfl
 neB5:=by decide}
end Go.Proofs
namespace Go.Proofs
open Go.Shelf
def Tryz.FL:Go.Shelf.Ren:=⟨fun|53=>257|64=>274|63=>273|78=>291|79=>248|70=>282|71=>283|72=>284|73=>285|74=>286|75=>287|59=>288|76=>289|77=>290|88=>295|89=>296|90=>297|91=>298|92=>299|68=>300|96=>301|n=>n,fun|22=>58|23=>2|3=>3|51=>177|0=>0|67=>228|69=>174|4=>4|61=>258|60=>257|44=>263|5=>5|9=>9|75=>268|79=>272|83=>274|84=>275|n=>n,fun|n=>n⟩
theorem Tryz.Kb:Go.Proofs.SlLaysN.n53 pG Tryz.FL:={
 mixed:=by kernel_rfl
 f53:=⟨Tryz.f257.name,by decide,Tryz.func257.trans (congrArg some (by kernel_rfl))⟩
 f59:=⟨Tryz.f288.name,by decide,Tryz.func288.trans (congrArg some (by kernel_rfl))⟩
 f63:=⟨Tryz.f273.name,by decide,Tryz.func273.trans (congrArg some (by kernel_rfl))⟩
 f64:=Tryz.func274.trans (congrArg some (by kernel_rfl))
 f68:=⟨Tryz.f300.name,by decide,Tryz.func300.trans (congrArg some (by kernel_rfl))⟩
 f70:=⟨Tryz.f282.name,by decide,Tryz.func282.trans (congrArg some (by kernel_rfl))⟩
 f71:=⟨Tryz.f283.name,by decide,Tryz.func283.trans (congrArg some (by kernel_rfl))⟩
 f72:=⟨Tryz.f284.name,by decide,Tryz.func284.trans (congrArg some (by kernel_rfl))⟩
 f73:=⟨Tryz.f285.name,by decide,Tryz.func285.trans (congrArg some (by kernel_rfl))⟩
 f74:=⟨Tryz.f286.name,by decide,Tryz.func286.trans (congrArg some (by kernel_rfl))⟩
 f75:=⟨Tryz.f287.name,by decide,Tryz.func287.trans (congrArg some (by kernel_rfl))⟩
 f76:=⟨Tryz.f289.name,by decide,Tryz.func289.trans (congrArg some (by kernel_rfl))⟩
 f77:=⟨Tryz.f290.name,by decide,Tryz.func290.trans (congrArg some (by kernel_rfl))⟩
 f78:=Tryz.func291.trans (congrArg some (by kernel_rfl))
 f79:=Tryz.func248.trans (congrArg some (by kernel_rfl))
 f88:=⟨Tryz.f295.name,by decide,Tryz.func295.trans (congrArg some (by kernel_rfl))⟩
 f89:=Tryz.func296.trans (congrArg some (by kernel_rfl))
 f90:=Tryz.func297.trans (congrArg some (by kernel_rfl))
 f91:=⟨Tryz.f298.name,by decide,Tryz.func298.trans (congrArg some (by kernel_rfl))⟩
 f92:=⟨Tryz.f299.name,by decide,Tryz.func299.trans (congrArg some (by kernel_rfl))⟩
 f96:=⟨Tryz.f301.name,by decide,Tryz.func301.trans (congrArg some (by kernel_rfl))⟩
 t0:=underlying0
 a0:=isAgg0
 z0:=sizeOf0
 v0:=zeroValue0
 t3:=underlying3
 a3:=isAgg3
 z3:=sizeOf3
 v3:=zeroValue3
 t4:=underlying4
 a4:=isAgg4
 z4:=sizeOf4
 v4:=zeroValue4
 t5:=underlying5
 a5:=isAgg5
 z5:=sizeOf5
 v5:=zeroValue5
 t9:=underlying9
 a9:=isAgg9
 z9:=sizeOf9
 v9:=zeroValue9
 t22:=underlying58
 a22:=isAgg58
 z22:=sizeOf58
 v22:=zeroValue58
 t23:=underlying2
 a23:=isAgg2
 z23:=sizeOf2
 v23:=zeroValue2
 t44:=underlying263
 a44:=isAgg263
 z44:=sizeOf263
 v44:=zeroValue263
 t51:=underlying177
 a51:=isAgg177
 z51:=sizeOf177
 v51:=zeroValue177
 t60:=underlying257
 a60:=isAgg257
 z60:=sizeOf257
 v60:=zeroValue257
 t61:=underlying258
 a61:=isAgg258
 z61:=sizeOf258
 v61:=zeroValue258
 t67:=underlying228
 a67:=isAgg228
 z67:=sizeOf228
 v67:=zeroValue228
 t69:=underlying174
 a69:=isAgg174
 z69:=sizeOf174
 v69:=zeroValue174
 t75:=underlying268
 a75:=isAgg268
 z75:=sizeOf268
 v75:=zeroValue268
 t79:=underlying272
 a79:=isAgg272
 z79:=sizeOf272
 v79:=zeroValue272
 t83:=underlying274
 a83:=isAgg274
 z83:=sizeOf274
 v83:=zeroValue274
 t84:=underlying275
 a84:=isAgg275
 z84:=sizeOf275
 v84:=zeroValue275}
def Tryz.yj:Go.Shelf.Ren:=⟨fun|43=>258|n=>n,fun|22=>58|23=>2|3=>3|4=>4|0=>0|n=>n,fun|n=>n⟩
theorem Tryz.nA:Go.Proofs.SlLaysN.n43 pG Tryz.yj:={
 mixed:=by kernel_rfl
 f43:=⟨Tryz.f258.name,by decide,Tryz.func258.trans (congrArg some (by kernel_rfl))⟩
 t0:=underlying0
 a0:=isAgg0
 z0:=sizeOf0
 v0:=zeroValue0
 t3:=underlying3
 a3:=isAgg3
 z3:=sizeOf3
 v3:=zeroValue3
 t4:=underlying4
 a4:=isAgg4
 z4:=sizeOf4
 v4:=zeroValue4
 t22:=underlying58
 a22:=isAgg58
 z22:=sizeOf58
 v22:=zeroValue58
 t23:=underlying2
 a23:=isAgg2
 z23:=sizeOf2
 v23:=zeroValue2
 i23:=by kernel_rfl}
end Go.Proofs
namespace Go.Vc
def uX (l v:Nat) (sh:Sh) (ys:lA):lA->lA->Prop
 | [],[]=>True
 |x::xs,t::r=>((∃i n,x= .ref l v i n/\i+n<=ys.length/\t= .arr sh ((ys.drop i).take n))\/((∀p,p∈ao x->p.1≠l)/\t=x))/\uX l v sh ys xs r
 |_,_=>False
theorem Mq {l v:Nat} {sh:Sh} {ys xs r:lA} {y:AV} (i n:Nat) (h:i+n<=ys.length) (e:y= .arr sh ((ys.drop i).take n)) (hr:uX l v sh ys xs r):uX l v sh ys (.ref l v i n::xs) (y::r):=⟨.inl ⟨i,n,rfl,h,e⟩,hr⟩
theorem FM {l v:Nat} {sh:Sh} {ys xs r:lA} {x:AV} (h:∀p,p∈ao x->p.1≠l) (hr:uX l v sh ys xs r):uX l v sh ys (x::xs) (x::r):=⟨.inr ⟨h,rfl⟩,hr⟩
theorem Mr {l v:Nat} {sh:Sh} {ys:lA}:uX l v sh ys [] []:=trivial
theorem BG {l v:Nat} {sh:Sh} {ys:lA}:∀{xs ts:lA},uX l v sh ys xs ts->ts.length=xs.length/\∀i (h1:i<xs.length) (h2:i<ts.length),
 (∃j n,xs[i]= .ref l v j n/\j+n<=ys.length/\ts[i]= .arr sh ((ys.drop j).take n))\/((∀p,p∈ao xs[i]->p.1≠l)/\ts[i]=xs[i])
 | [],[],_=>⟨rfl,fun i h1=>absurd h1 (fu _)⟩
 |x::xs,t::ts,⟨h1,h2⟩=>by
  obtain ⟨g1,g2⟩:=BG h2;refine ⟨by simp [g1],fun i hi1 hi2=> ?_⟩;cases i with
  |zero=>exact h1
  |succ i=>exact g2 i (by simpa using hi1) (by simpa using hi2)
theorem Ix {P:Program} {f:FuncId} {d:Nat} {xs xt:lA} {m:Mem} {k:AV->Mem->Prop} {q:Pack k} (l v:Nat) (sh:Sh) (dp:Bool) (ys xs':lA) (hl:l<bG) (hm:aj m l=some (.row v sh dp ys)) (hx:uX l v sh ys xs xs')
 (h:ib P f xs' ((l,.gone v)::m) k):eQ P f d xs xt m k q:=by
 refine .inl fun B N φ fp S ts a w vs hR hsz hrv hxl=> ?_;have hf:=hR.Yh hl hm (v:=v) rfl;obtain ⟨g1,g2⟩:=BG hx;refine h B N _ _ _ ts a w vs hf (hsz.trans g1.symm) (fun i hi=> ?_) (fun i hi k af hk=> ?_)
 . have hi':i<xs.length:=by omega
   rcases g2 i hi' hi with ⟨j,n,e1,e2,e3⟩|⟨e1,e2⟩
   . rw [e3];have:=hrv i hi';rw [e1] at this;exact .rd _ _ (CF hR hl hm e2 this)
   rw [e2];refine (hrv i hi').mono (fun _ _=>rfl) (fun _ h=>.inl h) (fun l b sh af cs e _ hb=>⟨cs,e,hb,rfl⟩) fun l' af hl'=> ?_;rw [rJ (e1 _ hl')];exact LS.le_refl _ _
 have hi':i<xs.length:=by omega
 rcases g2 i hi' hi with ⟨j,n,e1,e2,e3⟩|⟨e1,e2⟩
 . rw [e3] at hk;cases hk
 rw [e2] at hk;obtain ⟨b,h1,h2⟩:=hxl i hi' k af hk;exact ⟨b,by rw [aw,if_neg (Ne.symm (e1 _ hk))];exact h1,h2⟩
theorem Ms {P:Program} {f:FuncId} {m0:Mem} {xs:lA} {post:AV->Mem->Prop} {m:Mem} {k:AV->Mem->Prop} (hH:fN P f m0 xs post)
 (hc:(Fu (keys m0)/\okB (keys m0) m0)/\sg m m0 (keys m0)/\ct (keys m0) (au xs)) (hk:∀r m',post r m'->k r (m'++m)):ib P f xs m k:=
 (fN.call hH (sj hc.1.1) (mN hc.2.1) (te hc.1.2) (oU hc.2.2) hk).io
end Go.Vc
namespace Go.Vc
def PV (ops:List Oper) (D:List Bool):lN:=(cf ops.length).filter fun i=> !D.getD i false&&(match ops[i]? with|some o=>(iA o).all fun p=>D.getD p false|none=>false)
def Iy (P:Program) (N:Nat) (ops:List Oper) (K:St):Nat->List Bool->St
 |0,_=>nw P N K
 |f+1,D=>fun ts m=>∀i,i∈PV ops D->sL P ops ((ops.drop i).take 1) ts m (nw P N (Iy P N ops K f (D.set i true)))
def VQ (p:Nat->Prop):lN->Prop
 | []=>True
 |i::r=>p i/\VQ p r
theorem FN {p:Nat->Prop}:∀{L:lN},VQ p L->∀i,i∈L->p i
 | [],_,i,h=>by cases h
 |_::_,⟨h1,h2⟩,i,h=>by
  rcases List.mem_cons.1 h with rfl|h
  . exact h1
  exact FN h2 i h
theorem cD {P:Program} {N:Nat} {ops:List Oper} {K:St} {f:Nat} {D:List Bool} {ts:Env} {m:Mem} (L:lN) (h:PV ops D=L) (hk:VQ (fun i=>sL P ops ((ops.drop i).take 1) ts m (nw P N (Iy P N ops K f (D.set i true)))) L):
 Iy P N ops K (f+1) D ts m:=fun i hi=>FN hk i (h▸hi)
theorem ss {P:Program} {N:Nat} {ops:List Oper} {K:St} {D:List Bool} {ts:Env} {m:Mem} (h:nw P N K ts m):Iy P N ops K 0 D ts m:=h
theorem nw.go {P:Program} {N:Nat} {n:St} {ts:Env} {m:Mem} (h:n ts m):nw P N n ts m:=fun _ _ _ _ _ _ hR=>⟨_,_,_,_,_,hR,h⟩
theorem least (p:Nat->Bool):∀n,p n=false->∃i,i<=n/\p i=false/\∀j,j<i->p j=true:=by
 intro n;induction n using Nat.strongRecOn with
 |_ n ih=>
  intro h;by_cases hx:∃j,j<n/\p j=false
  . obtain ⟨j,hj,hp⟩:=hx;obtain ⟨i,h1,h2⟩:=ih j hj hp;exact ⟨i,by omega,h2⟩
  refine ⟨n,aP _,h,fun j hj=> ?_⟩;cases hp:p j with
  |true=>rfl
  |false=>exact absurd ⟨j,hj,hp⟩ hx
section
variable {P:Program} {B:eO} {N:Nat} {ops:List Oper}
theorem yk (hok:jM N ops=true) (hgs:di N ops=true) (hb:uT ops=true) {K:St} {Q:Exit->Act->World->Prop} (hQ:∀a w,ie B N K a w->Q .normal a w):
 ∀(f:Nat) (D:List Bool) (listed:Array Bool),listed.size=ops.length->D.length=ops.length->(∀i,listed.getD i false=D.getD i false)->D.count false=f→
 ∀(φ:Nat->LS) (fp:Nat->lN) (S:Nat->Prop) (ts:Env) (m:Mem) (a:Act) (w:World),RS B N φ fp S ts m a w->Iy P N ops K f D ts m->wpAny P .any ops.toArray Q f listed a w
 |0,D,listed,hs,hl,he,hc,φ,fp,S,ts,m,a,w,h,hk=>by
  have cX:∀i,i<ops.length->D.getD i false=true:=by
   intro i hi;have hi':i<D.length:=by omega
   have hn:false∉D:=fun hm=>by have:=List.count_pos_iff.2 hm;omega
   have:D[i]≠false:=fun e=>hn (e▸dD hi');rw [uq6,uq7 hi'];simpa using this
  refine ⟨?_,?_⟩
  . cases hr:Region.ready .any ops.toArray listed with
    |nil=>rfl
    |cons j r=>
     have hj:j∈Region.ready .any ops.toArray listed:=by rw [hr];exact bB ..
     obtain ⟨h0,oj,hoj,_⟩:=mem_ready.1 hj;have hdj:listed.getD j false=false:=getD_both h0;have hjn:j<ops.length:=by simpa using (uq1.1 hoj).1
     rw [he,cX j hjn] at hdj;cases hdj
  obtain ⟨φ2,fp2,S2,ts2,m2,h2,hk2⟩:=hk B φ fp S a w h;exact hQ _ _ ⟨φ2,fp2,S2,ts2,m2,h2,hk2⟩
 |f+1,D,listed,hs,hl,he,hc,φ,fp,S,ts,m,a,w,h,hk=>by
  refine ⟨fun hr=> ?_,fun j hj=> ?_⟩
  . exfalso;have hm:false∈D:=List.count_pos_iff.1 (by omega);obtain ⟨n,hn,hn2⟩:=bW hm;obtain ⟨i,hi,hi2,hi3⟩:=least (fun i=>D.getD i false) n (by simp [uq6,hn,hn2]);have hil:i<ops.length:=by omega
    have hin:i∈Region.ready .any ops.toArray listed:=by
     refine mem_ready.2 ⟨getD_in (by omega) ((he i).trans hi2),ops[i],by simp [hil],fun e hee hbd=> ?_⟩;have hp:e.on∈iA ops[i]:=bR.2 ⟨e,bk.2 ⟨by simpa using hee,hbd⟩,rfl⟩;have hlt:e.on<i:=by have:=uq5.1 hb i (cP.2 hil);rw [uq7 hil] at this;have:=uq5.1 this _ hp;simpa using this
     rw [he];exact hi3 _ hlt
    rw [hr] at hin;cases hin
  obtain ⟨h0,o,hoj,dC⟩:=mem_ready.1 hj;have hdj:listed.getD j false=false:=getD_both h0;have hon:ops[j]? =some o:=by simpa using hoj
  have hjn:j<ops.length:=(uq8.1 hon).1;have hDj:D.getD j false=false:=(he j).symm.trans hdj;have hav:j∈PV ops D:=by refine bk.2 ⟨cP.2 hjn,?_⟩;rw [hDj,hon];simp only [Bool.not_false,Bool.true_and,uq5];intro p hp;obtain ⟨e,he1,rfl⟩:=bR.1 hp;obtain ⟨he2,he3⟩:=bk.1 he1;rw [←he];exact dC e (by simpa using he2) he3
  have hsl:=hk j hav;have hdt:(ops.drop j).take 1=[o]:=by
   rw [List.drop_eq_getElem_cons hjn];rw [uq7 hjn] at hon;injection hon with hon
   rw [hon];rfl
  rw [hdt] at hsl;have hDl:D[j]'(by omega)=false:=by rw [uq6,uq7 (by omega)] at hDj;simpa using hDj
  have hc2:(D.set j true).count false=f:=by rw [List.count_set (by omega),hDl,hc];simp
  have he2:∀i,(listed.setIfInBounds j true).getD i false=(D.set j true).getD i false:=by
   intro i;by_cases e:j=i
   . subst e;simp [uq0,uq6,hs,hjn,hl]
   have:=he i;rw [uq0,uq6] at this ⊢;rw [Array.getElem?_setIfInBounds_ne e,List.getElem?_set_ne e];exact this
  have hdo:∀d,o.dst=some d->d<N:=by intro d hd;have:=uq5.1 hok o (cK hon);rw [hd] at this;simpa using this
  have next:∀a' w',ie B N (nw P N (Iy P N ops K f (D.set j true))) a' w'->wpAny P .any ops.toArray Q f (listed.setIfInBounds j true) a' w':=by rintro a' w' ⟨φ',fp',S',ts',m',h',hk'⟩;obtain ⟨φ2,fp2,S2,ts2,m2,h2,hk2⟩:=hk' B φ' fp' S' a' w' h';exact yk hok hgs hb hQ f (D.set j true) _ (by simpa using hs) (by simpa using hl) he2 hc2 φ2 fp2 S2 ts2 m2 a' w' h2 hk2
  unfold wpOp;simp only [hoj];simp only [sL] at hsl;cases hg:o.guard with
  |none=>
   rw [hg] at hsl;rw [cC h hgs hon (show cS ops o ts=some true by simp [cS,hg])];simp only [if_true];exact .inl (gm h hsl fun v w' hgv=>next _ _ (step_done hdo hgv fun x m' hx=>hx))
  |some jw=>
   obtain ⟨g,want⟩:=jw;rw [hg] at hsl;simp only at hsl;unfold gp at hsl;split at hsl
   . rename_i c hy;by_cases hcw:c=want
     . subst hcw;rw [cC h hgs hon (show cS ops o ts=some true by simp [cS,hg,hy])];simp only [if_true];exact .inl (gm h (hsl.1 rfl) fun v w' hgv=>next _ _ (step_done hdo hgv fun x m' hx=>hx))
     rw [cC h hgs hon (show cS ops o ts=some false by simp [cS,hg,hy,hcw])];simp only [uq4,if_false];have hk2:=hsl.2 hcw;refine next _ _ (step_done (k:=fun x m'=>x= .aZ []/\m'=m) hdo (h.gives (x:=.aZ []) (.rd _ _ (.aZ [] #[] rfl fun i hi=>absurd hi (fu _))) (fun _ _ hl=>by cases hl) ⟨rfl,rfl,rfl⟩) fun x m' ⟨h1,h2⟩=> ?_)
     rw [h1,h2];exact hk2
   . rename_i hy;rw [cC h hgs hon (show cS ops o ts=some false by simp [cS,hg,hy])];simp only [uq4,if_false];refine next _ _ (step_done (k:=fun x m'=>x= .aZ []/\m'=m) hdo (h.gives (x:=.aZ []) (.rd _ _ (.aZ [] #[] rfl fun i hi=>absurd hi (fu _))) (fun _ _ hl=>by cases hl) ⟨rfl,rfl,rfl⟩) fun x m' ⟨h1,h2⟩=> ?_)
     rw [h1,h2];exact hsl
   exact hsl.elim
theorem ak.any {i:Nat} {ts:Env} {m:Mem} {Q:dh} {q:Pack (Code.region i ⟨ops⟩ true,Q)} (hm:P.follows .mixedOrders=true) (hok:(jM N ops&&di N ops&&uT ops)=true)
 (h:Iy P N ops (Q .normal) ops.length (cL ops.length false) ts m):ak P N (.region i ⟨ops⟩ true) ts m Q q:=by
 simp only [uq3] at hok;refine ⟨fun B φ fp S a w hRS=>wp_region_any hm ?_⟩;refine yk (B:=B) hok.1.1 hok.1.2 hok.2 (fun a w hd=>hd) _ (cL ops.length false) _ (by simp) (by simp) (fun i=> ?_) (by simp) φ fp S ts m a _ (hRS.rn rfl ⟨rfl,rfl,rfl⟩) h;rw [getD_replicate_false];rw [uq6,List.getElem?_replicate];split<;>rfl
end
theorem ak.cut (n:Nat) {P:Program} {N i:Nat} {ops:List Oper} {ts:Env} {m:Mem} {Q:dh} {q:Pack (Code.region i ⟨ops⟩ false,Q)} (hok:(jM N ops&&di N ops&&(((ops.take n).all fun o=>o.guard.isNone)&&decide (n<=ops.length)))=true)
 (h:sL P ops (ops.take n) ts m (nw P N fun ts m=>sL P ops (ops.drop n) ts m (Q .normal))):ak P N (.region i ⟨ops⟩ false) ts m Q q:=⟨fun B φ fp S a w hRS=>by
 simp only [uq3,decide_eq_true_eq] at hok;refine wp_region ?_;have:=sr (P:=P) (B:=B) (Q:=fun e a' w'=>ie B N (Q e) a' w') hok.1.1 hok.2.1 hok.2.2 (K:=nw P N fun ts m=>sL P ops (ops.drop n) ts m (Q .normal)) (fun DP fp0 S0 ts0 m0 a w h0 hk0=> ?_) (ops.take n) 0 (by simp) (Nat.zero_le _) φ fp S ts m a w hRS h
 . simpa using this
 obtain ⟨φ2,fp2,S2,ts2,m2,h2,hk2⟩:=hk0 B DP fp0 S0 a w h0
 exact iP hok.1.1 hok.1.2 (fun a w hd=>hd) (ops.drop n) n rfl φ2 fp2 S2 ts2 m2 a w h2 hk2⟩
section
variable {P:Program} {B:eO} {N:Nat} {φ:Nat->LS} {fp:Nat->lN} {S:Nat->Prop} {ts:Env} {m:Mem} {a:Act} {w:World}
theorem RS.untold (h:RS B N φ fp S ts m a w) {t l v:Nat} {sh:Sh} {ys:lA} {u:Value} (ht:look ts t= .val u) (hlk:aj m l=some (.sub v sh ys u)):
 ∃φ2 fp2,RS B N φ2 fp2 S ((t,.ref l v 0 ys.length)::ts) ((l,.row v sh true ys)::m) a w:=by
 obtain ⟨b,cap,hφ,hbm,hu,bd⟩:=h.aF l _ hlk;have R1:RS B N (j1 φ l (φ l)) (j1 fp l (fp l)) S ts ((l,.row v sh true ys)::m) a w:=by
  refine h.next l (φ l) (fp l) S _ (aP _) (a7.refl _) (je.refl _) (fun _ _ _=>rfl) (fun c hc=>⟨hc,rfl⟩) (fun c h1 h2=>absurd h1 h2) (fun l b sh af cs e _ hb=>⟨cs,e,hb,rfl⟩)
   (fun _ _ _ _=>rfl) (fun af _=>LS.le_refl _ _) ?_ ?_ (fun _ _ hk=>by cases hk) (h.gK l) ?_
  . rintro af ⟨k',h1,h2⟩;rw [hlk] at h1;cases h1;exact h2
  . exact .inr ⟨b,cap,by rw [az];exact hφ,hbm,fun h=>(by cases h),by rw [←hu];exact bd⟩
  intro c hc;have:=h.cw l c hc;exact ⟨h.bJ l c hc,fun l' hl' hc'=>hl' (h.e7 l' l c hc' hc),this.1,this.2⟩
 refine ⟨_,_,{R1 with tm:=fun t'=> ?_,tl:=fun t' l' af hl'=> ?_}⟩
 . rw [cV];split
   . rename_i e;subst e;have htm:=h.tm t;rw [ht] at htm;obtain ⟨e1,_⟩:=aS htm;rw [←e1,hu];refine .ref _ _ _ _ _ (fun b' sh' e'=> ?_) (fun e'=> ?_) rfl
     . rw [az,hφ] at e';simp only [LS.at.injEq] at e';obtain ⟨rfl,rfl,_⟩:=e';rw [hu] at bd;rcases gE bd with ⟨g1,g2,g3⟩|⟨b2,cap2,cs2,e2,fss2,g1,g2,g3,g4,g5,g6,g7,g8,g9⟩
       . rw [g2] at hbm;cases hbm
       simp only [Value.slice.injEq,Option.some.injEq,Addr.mk.injEq] at g1;obtain ⟨⟨rfl,_⟩,_,rfl⟩:=g1;exact ⟨_,cap,rfl,g5,.inr ⟨by rw [Nat.zero_mul],cs2,e2,g3,by rw [g4,Nat.zero_add]⟩⟩
     rw [az,hφ] at e';cases e'
   exact R1.tm t'
 rw [cV] at hl';split at hl'
 . simp only [ao,hZ,Prod.mk.injEq] at hl';obtain ⟨rfl,rfl⟩:=hl';exact ⟨_,by rw [aw,if_pos rfl],aP _⟩
 exact R1.tl t' l' af hl'
theorem hk.untold {n:St} (t l v:Nat) (sh:Sh) (ys:lA) (u:Value) (ht:look ts t= .val u) (hlk:aj m l=some (.sub v sh ys u)) (h:hk P n ((t,.ref l v 0 ys.length)::ts) ((l,.row v sh true ys)::m)):hk P n ts m:=fun B N _ _ _ a w hR=>
 have ⟨_,_,hR2⟩:=hR.untold ht hlk
 h B N _ _ _ a w hR2
theorem zB {P:Program} {f:FuncId} {l v j:Nat} {xs:lA} {m:Mem} {k:AV->Mem->Prop}
 (hf:∀us:List Value,us.length=xs.length->(∀u,u∈us->u.oneCell'=true)->Fn P f [.bu ⟨xs.length,true⟩ [.agg (us.map .val)] 0 0] false (· = .agg ((us.map .val).take j)))
 (hlk:aj m l=some (.box v xs)) (hk:k (.agg (xs.take j)) m):Fg P f [.ptr l v 0 0] m k:=by
 refine ⟨.agg (xs.take j),[],hk,fun m' hm' _ k' hk' B N φ fp S ts a w vs hRS hsz hv hvl=> ?_⟩;have Wy:aj m' l=some (.box v xs):=by rw [←hlk];exact hm' l ⟨.ptr l v 0 0,by simp,v,by simp [ao]⟩
 obtain ⟨b,cs,e,sh,hφ,hfs,aE,hlen,hlf,hrv⟩:=hRS.aF l _ Wy;have hbw:b<w.heap.size:=(uq1.1 aE).1;let us:=cs.toList.take xs.length;have hul:us.length=xs.length:=by simp [us];omega
 have hug:∀i,i<xs.length->us.getD i Go.undef=cs.toList.getD i Go.undef:=fun i hi=>by simp only [us];rw [uq6,List.getElem?_take_of_lt hi,←uq6]
 have hu1:∀u,u∈us->u.oneCell'=true:=by
  intro u hu;obtain ⟨i,hi,rfl⟩:=bW hu;have hi':i<xs.length:=by omega
  have:=(hrv i hi').aU (hlf i hi');rw [←hug i hi',uq6,uq7 hi] at this;exact this
 have hF:=hf us hul hu1;have h0:=j3 (hv 0 (by simp)) b sh hφ;rw [Nat.zero_mul] at h0;have h0:vs.toList.getD 0 Go.undef= .pointer (some ⟨b,0,none⟩):=h0;refine ⟨hF.1,(hF.2 w (pn w) vs (fun b hb=>hb) (hRS.jf.mono (fun _ _=>rfl) fun b hb=>(hRS.sB b hb).1) (by simpa using hsz) fun i hi=> ?_).mono ?_⟩
 . simp only [List.length_singleton] at hi;obtain rfl:i=0:=by omega
   show Rd w (pn w) (.bu ⟨xs.length,true⟩ [.agg (us.map .val)] 0 0) _;rw [h0]
   have:=Rd.bu (w:=w) (S:=pn w) ⟨xs.length,true⟩ [.agg (us.map .val)] 0 0 b 0 cs e.1 (n9 e cs.size) hbw aE (by simpa using hlen) (fun i hi=>by
    simp only [List.length_singleton] at hi;obtain rfl:i=0:=by omega
    exact ⟨rfl,by simpa using hul⟩) (fun i hi=>by
    simp only [List.length_singleton] at hi;obtain rfl:i=0:=by omega
    show Rd w (pn w) (.agg (us.map .val)) _;rw [c8];refine .agg _ _ (by simp [us]) (fun i hi=>by simp [leaf]) fun i hi=> ?_;simp only [List.length_map] at hi;rw [uq9];have e1:(List.take xs.length (List.drop (0+0*xs.length) cs.toList)).toArray.toList.getD i Go.undef=us[i]:=by have h5:=hug i (by omega);rw [uq6,uq7 hi] at h5;simp only [Option.getD_some] at h5;rw [h5];show (List.take xs.length (List.drop (0+0*xs.length) cs.toList)).getD i Go.undef=_;rw [Nat.zero_mul,Nat.add_zero,List.drop_zero,uq6,List.getElem?_take_of_lt (by omega),←uq6]
    rw [e1]
    exact .val _ (hu1 _ (dD hi)))
   simpa using this
 rintro e' w' ⟨r,u,rfl,rfl,hg,kc⟩;simp only [iN,uq4,if_false] at kc;have hR2:=hRS.grown hg;refine ⟨u,rfl,φ,fp,S,ts,m',_,hR2,?_,fun l' af hl'=> ?_,rfl,hk'⟩
 . obtain ⟨cs2,rfl,q1,q2,q3⟩:=oz kc;obtain ⟨b2,cs3,e3,sh3,g1,g2,g3,g4,g5,g6⟩:=hR2.aF l _ Wy;rw [hφ] at g1;simp only [LS.at.injEq] at g1;obtain ⟨rfl,rfl,_⟩:=g1;obtain rfl:=df (((hg.same b hbw).trans aE).symm.trans g3);have hln:((us.map AV.val).take j).length=(xs.take j).length:=by simp [hul]
   refine .agg _ _ (q1.trans hln) (fun i hi=> ?_) fun i hi=> ?_
   . rw [cr];exact g5 i _
   have hi2:i<xs.length:=by simp at hi;omega
   have:=q3 i (by rw [hln];exact hi);rw [cr,uq9] at this;have e1:cs2.toList.getD i Go.undef=us[i]'(by omega):=by have h5:=aS (RV.rd (φ:=φ) _ _ this);exact h5.1.symm
   rw [e1,cr];have:=g6 i hi2;rw [←hug i hi2,uq6,uq7 (by omega)] at this;exact this
 simp only [ao] at hl';obtain ⟨i,hi,hl2⟩:=b8 hl';rw [cr] at hl2;exact hRS.bl l v xs Wy l' af (bw (by simp at hi;omega) hl2)
theorem uY {P:Program} {f:FuncId} {d l v:Nat} (j:Nat) {xs trs:lA} {m:Mem} {k:AV->Mem->Prop} {q:Pack k}
 (hf:∀us:List Value,us.length=xs.length->(∀u,u∈us->u.oneCell'=true)->Fn P f [.bu ⟨xs.length,true⟩ [.agg (us.map .val)] 0 0] false (· = .agg ((us.map .val).take j)))
 (hlk:aj m l=some (.box v xs)) (hk:k (.agg (xs.take j)) m):iT P f d [.ptr l v 0 0] trs m k q:=.inr (.inr (zB hf hlk hk))
theorem yl {P:Program} {m:Mem} {f:FuncId} {d l af i n:Nat} {sh:Sh} {xs xt:lA} {zs:List Value} {k:AV->Mem->Prop} {q:Pack k} (hE:Enters P f) (hlk:aj m l=some (.row af sh true xs)) (hn:n=xs.length) (hi:i<xs.length) (hsz:0<sh.sz)
 (hzl:zs.length=sh.sz) (hz1:∀u,u∈zs->u.oneCell'=true)
 (hc:∀(w:World) (b cap:Nat) (cs:aV) (e:El),w.heap[b]? =some (eo cs e)->cs.size=cap*sh.sz->cap<=9223372036854775807->xs.length<=cap->(∀v,v∈(cs.toList.drop ((i+1)*sh.sz)).take ((xs.length-(i+1))*sh.sz)->v.oneCell'=true)→
   Calls P f #[.slice (some ⟨b,0,none⟩) xs.length cap,.int .i64 i,.int .i64 ((i+1:Nat):Int)] w fun e' w'=>e'= .returned (.slice (some ⟨b,0,none⟩) (xs.length-1) cap)∧
    ∃q,w'=((w.drewN q).setCells b (i*sh.sz) ((cs.toList.drop ((i+1)*sh.sz)).take ((xs.length-(i+1))*sh.sz))).setCells b ((xs.length-1)*sh.sz) zs)
 (hk:k (.ref l (af+1) 0 (xs.length-1)) ((l,.row (af+1) sh true (xs.eraseIdx i))::m)):iT P f d [.ref l af 0 n,.val (.int .i64 i),.val (.int .i64 ((i:Int)+1))] xt m k q:=by
 refine .inr (.inr ⟨.ref l (af+1) 0 (xs.length-1),[(l,.row (af+1) sh true (xs.eraseIdx i))],hk,fun m' hm' _ k' hk'=> ?_⟩);refine Fz hE ?_ hn hi hsz hzl hz1 hc hk';rw [←hlk];exact hm' l ⟨.ref l af 0 n,by simp,af,by simp [ao]⟩
inductive ep (m:Mem):AV->List AV->Option Nat->Prop
 |ref (l v:Nat) (ys:List AV) (h:aj m l=some (.row v ⟨1,false⟩ true ys)):ep m (.ref l v 0 ys.length) ys (some l)
 |nil:ep m (.val (.slice none 0 0)) [] none
def uZ (Lb La Lc va vk:Nat) (cs ya yc:lA):Mem:=[(Lb,.box 0 (cs++[.ref La va 0 ya.length,.ref Lc vk 0 yc.length])),(La,.row va ⟨1,false⟩ true ya),(Lc,.row vk ⟨1,false⟩ true yc)]
def NF (φ:Nat->LS) (o:Option Nat) (v:Nat):LS:=match o with
 |some l=>(match φ l with| .at b sh _=>.at b sh v|_=>.nil v)
 |none=>.nil v
def Xj (fp:Nat->lN) (o:Option Nat):lN:=match o with|some l=>fp l|none=>[]
def VR (Lb La Lc va vk:Nat) (φ:Nat->LS) (oa oc:Option Nat) (l:Nat):LS:=if l=Lb then φ Lb else if l=La then NF φ oa va else if l=Lc then NF φ oc vk else .dead
def Ru (Lb La Lc:Nat) (fp:Nat->lN) (oa oc:Option Nat) (l:Nat):lN:=if l=Lb then fp Lb else if l=La then Xj fp oa else if l=Lc then Xj fp oc else []
theorem ep.br (h:RS B N φ fp S ts m a w) {x:AV} {ys:lA} {o:Option Nat} (hx:ep m x ys o) {φ':Nat->LS} {L v':Nat} (hφ:φ' L=NF φ o v'):BR w S φ' L (Xj fp o) (.row v' ⟨1,false⟩ true ys):=by
 cases hx with
 |nil=>exact .inl ⟨hφ,rfl,rfl⟩
 |ref l v _ hl=>
  rcases h.aF l _ hl with ⟨h1,h2,h3⟩|⟨b,cap,h1,h2,h3,h4⟩
  . refine .inl ⟨?_,h2,h3⟩;rw [hφ];unfold NF;simp only [h1]
  refine .inr ⟨b,cap,?_,h2,h3,h4⟩;rw [hφ];unfold NF;simp only [h1]
theorem ep.rv (h:RS B N φ fp S ts m a w) {x:AV} {ys:lA} {o:Option Nat} (hx:ep m x ys o) {φ':Nat->LS} {L v':Nat} (hφ:φ' L=NF φ o v') {u:Value} (hu:RV w S φ x u):RV w S φ' (.ref L v' 0 ys.length) u:=by
 cases hx with
 |nil=>
  obtain ⟨rfl,_⟩:=aS hu;refine .ref _ _ _ _ _ (fun b sh e=> ?_) (fun _=>⟨rfl,none,rfl⟩) rfl;rw [hφ] at e;cases e
 |ref l v _ hl=>
  have hr:=dt hu;rcases h.aF l _ hl with ⟨h1,h2,h3⟩|⟨b,cap,h1,h2,h3,h4⟩
  . have e0:φ' L= .nil v':=by rw [hφ];unfold NF;simp only [h1]
    refine .ref _ _ _ _ _ (fun b sh e=> ?_) (fun _=>hr.2 h1) (hu.aU trivial);rw [e0] at e;cases e
  have e0:φ' L= .at b ⟨1,false⟩ v':=by rw [hφ];unfold NF;simp only [h1]
  refine .ref _ _ _ _ _ (fun b' sh' e=> ?_) (fun e=> ?_) (hu.aU trivial)
  . rw [e0] at e;simp only [LS.at.injEq] at e;obtain ⟨rfl,rfl,_⟩:=e;exact hr.1 b ⟨1,false⟩ h1
  rw [e0] at e;cases e
theorem RS.Yy {w0:World} {DP:Nat->LS} {fp0:Nat->lN} {S0:Nat->Prop} {Lb La Lc va vk:Nat} {cs0 ya0 yc0 cs ya yc:lA} {xa xc:AV} {oa oc:Option Nat}
 (h:RS (mM w0 DP fp0 S0 (uZ Lb La Lc va vk cs0 ya0 yc0)) N φ fp S ts m a w) (hd:Lb≠La/\Lb≠Lc/\La≠Lc) (hb:aj m Lb=some (.box 0 (cs++[xa,xc]))) (hcs:au cs=[]) (ha:ep m xa ya oa) (hc:ep m xc yc oc)
 (hne:∀l,oa=some l->oc≠some l) (hla:∀l,oa=some l->l=La\/l<bG) (hlc:∀l,oc=some l->l=Lc\/l<bG):
 RS (mM w0 DP fp0 S0 (uZ Lb La Lc va vk cs0 ya0 yc0)) 0 (VR Lb La Lc (va+1) (vk+1) φ oa oc) (Ru Lb La Lc fp oa oc) S [] (uZ Lb La Lc (va+1) (vk+1) cs ya yc) {tmps:= #[],defers:=[]} w:=by
 obtain ⟨d1,d2,d3⟩:=hd;have eb:VR Lb La Lc (va+1) (vk+1) φ oa oc Lb=φ Lb:=if_pos rfl;have ea:VR Lb La Lc (va+1) (vk+1) φ oa oc La=NF φ oa (va+1):=by unfold VR;rw [if_neg (Ne.symm d1),if_pos rfl]
 have ec:VR Lb La Lc (va+1) (vk+1) φ oa oc Lc=NF φ oc (vk+1):=by unfold VR;rw [if_neg (Ne.symm d2),if_neg (Ne.symm d3),if_pos rfl]
 have fb:Ru Lb La Lc fp oa oc Lb=fp Lb:=if_pos rfl;have fa:Ru Lb La Lc fp oa oc La=Xj fp oa:=by unfold Ru;rw [if_neg (Ne.symm d1),if_pos rfl]
 have fc:Ru Lb La Lc fp oa oc Lc=Xj fp oc:=by unfold Ru;rw [if_neg (Ne.symm d2),if_neg (Ne.symm d3),if_pos rfl]
 have lk:∀l,aj (uZ Lb La Lc (va+1) (vk+1) cs ya yc) l=if Lb=l then some (.box 0 (cs++[.ref La (va+1) 0 ya.length,.ref Lc (vk+1) 0 yc.length])) else if La=l then some (.row (va+1) ⟨1,false⟩ true ya) else if Lc=l then some (.row (vk+1) ⟨1,false⟩ true yc) else none:=fun l=>rfl
 have own:∀l b,b∈Ru Lb La Lc fp oa oc l->∃l0,b∈fp l0/\((l=Lb/\l0=Lb)\/(l=La/\oa=some l0)\/(l=Lc/\oc=some l0)):=by
  intro l b hbm;unfold Ru at hbm;split at hbm
  . exact ⟨Lb,hbm,.inl ⟨‹_›,rfl⟩⟩
  split at hbm
  . cases oa with
    |none=>cases hbm
    |some l0=>exact ⟨l0,hbm,.inr (.inl ⟨‹_›,rfl⟩)⟩
  split at hbm
  . cases oc with
    |none=>cases hbm
    |some l0=>exact ⟨l0,hbm,.inr (.inr ⟨‹_›,rfl⟩)⟩
  cases hbm
 have hab:∀l,oa=some l->l≠Lb:=by
  rintro l rfl rfl;cases ha with
  |ref _ v _ hl=>rw [hb] at hl;cases hl
 have hcb:∀l,oc=some l->l≠Lb:=by
  rintro l rfl rfl;cases hc with
  |ref _ v _ hl=>rw [hb] at hl;cases hl
 have hbr:=h.aF Lb _ hb;obtain ⟨b,cz,e,sh,g1,g2,g3,g4,g5,g6⟩:=hbr;have leafs:∀x,x∈cs->leaf x:=fun x hx=>by
  obtain ⟨i,hi,rfl⟩:=bW hx;have:=g5 i (by simp;omega)
  rwa [List.getElem_append_left hi] at this
 refine {tm:=fun t=>by rw [look_nil];exact .rd _ _ (.undef _),tl:=fun t l af hl=>(by rw [look_nil] at hl;cases hl),bU:=fun l hl=> ?_,aF:=fun l k hk=> ?_,bl:=fun l v xs hk l' af hl=> ?_,
         gK:=fun l=> ?_,e7:=fun l l' b h1 h2=> ?_,bJ:=fun l b hb=> ?_,cw:=fun l b hbm=> ?_,
         sB:=h.sB,base:=h.base,out:=h.out,ke:=h.ke,kn:=fun l af hl hk=> ?_,fix:=fun l af hl hk=> ?_,size:=h.size,defers:=rfl,kv:=rfl,jf:=h.jf}
 . rw [lk] at hl;split at hl
   . cases hl
   split at hl
   . cases hl
   split at hl
   . cases hl
   rename_i n1 n2 n3;exact ⟨by unfold VR;rw [if_neg (Ne.symm n1),if_neg (Ne.symm n2),if_neg (Ne.symm n3)],by unfold Ru;rw [if_neg (Ne.symm n1),if_neg (Ne.symm n2),if_neg (Ne.symm n3)]⟩
 . rw [lk] at hk;split at hk
   . rename_i el;subst el;cases hk;rw [fb];refine ⟨b,cz,e,sh,eb.trans g1,g2,g3,by simpa using g4,fun i hi=> ?_,fun i hi=> ?_⟩
     . have hm:(cs++[AV.ref La (va+1) 0 ya.length,AV.ref Lc (vk+1) 0 yc.length])[i]∈cs++[AV.ref La (va+1) 0 ya.length,AV.ref Lc (vk+1) 0 yc.length]:=dD hi;rcases List.mem_append.1 hm with q|q
       . exact leafs _ q
       simp only [List.mem_cons,List.not_mem_nil,or_false] at q;rcases q with q|q<;>(rw [q];trivial)
     simp only [List.length_append,List.length_cons,List.length_nil] at hi;by_cases hi1:i<cs.length
     . have q:=g6 i (by simp;omega);rw [List.getElem_append_left hi1] at q ⊢;exact .rd _ _ (cQ q (bK hcs i hi1))
     by_cases hi2:i=cs.length
     . subst hi2;have q:=g6 cs.length (by simp);rw [List.getElem_append_right (aP _)] at q ⊢;simp only [Nat.sub_self,List.getElem_cons_zero] at q ⊢;exact ha.rv h ea q
     obtain rfl:i=cs.length+1:=by omega
     have q:=g6 (cs.length+1) (by simp);rw [List.getElem_append_right (by omega)] at q ⊢;simp only [Nat.add_sub_cancel_left,List.getElem_cons_succ,List.getElem_cons_zero] at q ⊢;exact hc.rv h ec q
   split at hk
   . rename_i el;subst el;cases hk;rw [fa];exact ha.br h ea
   split at hk
   . rename_i el;subst el;cases hk;rw [fc];exact hc.br h ec
   cases hk
 . rw [lk] at hk;split at hk
   . cases hk;obtain ⟨i,hi,hl⟩:=b8 hl;have hm:=dD hi;rcases List.mem_append.1 hm with q|q
     . obtain ⟨j,hj,ej⟩:=bW q;rw [←ej,bK hcs j hj] at hl;cases hl
     simp only [List.mem_cons,List.not_mem_nil,or_false] at q;rcases q with q|q
     . rw [q] at hl;simp only [ao,hZ,Prod.mk.injEq] at hl;obtain ⟨rfl,rfl⟩:=hl;exact ⟨_,by rw [lk,if_neg d1,if_pos rfl],aP _⟩
     rw [q] at hl;simp only [ao,hZ,Prod.mk.injEq] at hl;obtain ⟨rfl,rfl⟩:=hl;exact ⟨_,by rw [lk,if_neg d2,if_neg d3,if_pos rfl],aP _⟩
   split at hk
   . cases hk
   split at hk<;>cases hk
 . unfold Ru;split
   . exact h.gK _
   split
   . cases oa with
     |none=>exact jd
     |some l0=>exact h.gK _
   split
   . cases oc with
     |none=>exact jd
     |some l0=>exact h.gK _
   exact jd
 . obtain ⟨p,hp,q⟩:=own l b h1;obtain ⟨p',hp',q'⟩:=own l' b h2;obtain rfl:=h.e7 p p' b hp hp';rcases q with ⟨rfl,rfl⟩|⟨rfl,e1⟩|⟨rfl,e1⟩<;>rcases q' with ⟨rfl,e2⟩|⟨rfl,e2⟩|⟨rfl,e2⟩
   . rfl
   . exact absurd rfl (hab _ e2)
   . exact absurd rfl (hcb _ e2)
   . exact absurd e2 (hab _ e1)
   . rfl
   . exact absurd e2 (hne _ e1)
   . exact absurd e2 (hcb _ e1)
   . exact absurd e1 (hne _ e2)
   rfl
 . obtain ⟨p,hp,q⟩:=own l b hb;exact h.bJ p b hp
 . obtain ⟨p,hp,q⟩:=own l b hbm;obtain ⟨r1,r2⟩:=h.cw p b hp;refine ⟨r1,r2.imp id ?_⟩;rintro ⟨l',k1,k2,k3⟩;have same:p=l->∃l',(mM w0 DP fp0 S0 (uZ Lb La Lc va vk cs0 ya0 yc0)).io l' b/\bG<=l/\(l'=l\/aj (mM w0 DP fp0 S0 (uZ Lb La Lc va vk cs0 ya0 yc0)).m0 l=none):=by
    rintro rfl;exact ⟨l',k1,k2,k3⟩
   rcases q with ⟨rfl,rfl⟩|⟨rfl,e1⟩|⟨rfl,e1⟩
   . exact same rfl
   . rcases hla p e1 with e2|e2
     . exact same e2
     omega
   rcases hlc p e1 with e2|e2
   . exact same e2
   omega
 . obtain ⟨k,h01,h2⟩:=hk;have h1:aj (uZ Lb La Lc va vk cs0 ya0 yc0) l=some k:=h01;clear h01;unfold Go.Vc.known;rw [lk];have lk0:aj (uZ Lb La Lc va vk cs0 ya0 yc0) l=if Lb=l then some (.box 0 (cs0++[.ref La va 0 ya0.length,.ref Lc vk 0 yc0.length])) else if La=l then some (.row va ⟨1,false⟩ true ya0) else if Lc=l then some (.row vk ⟨1,false⟩ true yc0) else none:=rfl
   rw [lk0] at h1;split at h1
   . rename_i el;rw [if_pos el];cases h1;exact ⟨_,rfl,h2⟩
   rename_i el;rw [if_neg el];split at h1
   . rename_i el2;rw [if_pos el2];cases h1;exact ⟨_,rfl,Nat.le_succ_of_le h2⟩
   rename_i el2;rw [if_neg el2];split at h1
   . rename_i el3;rw [if_pos el3];cases h1;exact ⟨_,rfl,Nat.le_succ_of_le h2⟩
   cases h1
 have hk0:=hk;obtain ⟨k,h01,h2⟩:=hk;have h1:aj (uZ Lb La Lc va vk cs0 ya0 yc0) l=some k:=h01;clear h01;have lk0:aj (uZ Lb La Lc va vk cs0 ya0 yc0) l=if Lb=l then some (.box 0 (cs0++[.ref La va 0 ya0.length,.ref Lc vk 0 yc0.length])) else if La=l then some (.row va ⟨1,false⟩ true ya0) else if Lc=l then some (.row vk ⟨1,false⟩ true yc0) else none:=rfl
 have re_le:∀(o:Option Nat) (v:Nat) (x:LS),af<v->LS.le (NF φ o v) x af:=by
  intro o v x hv;unfold NF;split
  . split
    . exact LS.kG _ _ _ _ _ hv
    exact ⟨fun _ _ e=>(by cases e),fun e=>by cases e;exact absurd hv (gB _)⟩
  exact ⟨fun _ _ e=>(by cases e),fun e=>by cases e;exact absurd hv (gB _)⟩
 rw [lk0] at h1;split at h1
 . rename_i el;subst el;rw [eb];exact h.fix _ af hl hk0
 split at h1
 . rename_i el2;subst el2;cases h1;rw [ea];exact re_le _ _ _ (Nat.lt_succ_of_le h2)
 split at h1
 . rename_i el3;subst el3;cases h1;rw [ec];exact re_le _ _ _ (Nat.lt_succ_of_le h2)
 cases h1
end
def Xk (Lb La Lc:Nat) (post:lA->lA->lA->Prop) (m:Mem):Prop:=
 ∃cs xa xc ya yc oa oc,aj m Lb=some (.box 0 (cs++[xa,xc]))/\au cs=[]/\ep m xa ya oa/\ep m xc yc oc/\(∀l,oa=some l->oc≠some l)/\(∀l,oa=some l->l=La\/l<bG)/\(∀l,oc=some l->l=Lc\/l<bG)/\post cs ya yc
def VS (P:Program) (rs:List ResultVar) (Lb La Lc:Nat) (post:AV->lA->lA->lA->Prop):dh
 | .normal=>fun ts m=>aQ P (fun ys=>au ys=[]/\Xk Lb La Lc (post (bM ys)) m) rs ts m []
 | .ret=>fun ts m=>aQ P (fun ys=>au ys=[]/\Xk Lb La Lc (post (bM ys)) m) rs ts m []
 |_=>fun _ _=>False
theorem PW (P:Program) (rs:List ResultVar) (Lb La Lc:Nat) (post:AV->lA->lA->lA->Prop) (ts:Env) (m:Mem):
 VS P rs Lb La Lc post .ret ts m=aQ P (fun ys=>au ys=[]/\Xk Lb La Lc (post (bM ys)) m) rs ts m []:=rfl
attribute [go_sem] PW
theorem kT (Lb La Lc va vk:Nat) (cs ya yc:lA):keys (uZ Lb La Lc va vk cs ya yc)=[Lb,La,Lc]:=rfl
theorem fN.Tf {P:Program} {f:FuncId} {fn:Func} {c:Code} {Lb La Lc va vk:Nat} {cs0 ya0 yc0:List AV} {xs:List AV} {post:AV→List AV→List AV→List AV→Prop} (hf:P.funcs[f]? =some fn) (hn:(fn.name== "runtime.NumGoroutine")=false) (hb:fn.body=some c)
 (hok:codeOk fn.ntmps c=true) (ha:xs.length<=fn.ntmps) (hd:Lb≠La/\Lb≠Lc/\La≠Lc) (hv:vc P fn.ntmps c (bN 0 xs) (uZ Lb La Lc va vk cs0 ya0 yc0) (VS P fn.results.toList Lb La Lc post)):
 fN P f (uZ Lb La Lc va vk cs0 ya0 yc0) xs (fun r m'=>∃cs ya yc,au cs=[]/\m'=uZ Lb La Lc (va+1) (vk+1) cs ya yc/\post r cs ya yc):=by
 refine ⟨⟨fn,c,hf,hn,hb⟩,fun w φ fp S vs hsz hR0=> ?_⟩;refine calls_of_wp hf hb ?_;have hRS:RS (mM w φ fp S (uZ Lb La Lc va vk cs0 ya0 yc0)) fn.ntmps φ fp S (bN 0 xs) (uZ Lb La Lc va vk cs0 ya0 yc0) {tmps:=vs++uq2 (fn.ntmps-vs.size) undef,defers:=[]} w:=by
  refine {hR0 with tm:=fun t=> ?_,defers:=rfl,kv:=by simp;omega};by_cases h:t<xs.length
  . have h1:=hR0.tm t;have:vs.getD t Go.undef=(vs++uq2 (fn.ntmps-vs.size) undef).getD t Go.undef:=by
     have h2:t<vs.size:=by omega
     simp only [uq0];rw [Array.getElem?_append_left h2]
    rw [←this];exact h1
  rw [bO];have:(if 0<=t then (xs[t-0]?).getD AV.undef else .undef)= .undef:=by simp [List.getElem?_eq_none (show xs.length<=t by omega)]
  rw [this];exact .rd _ _ (.undef _)
 have fU:∀a' w',ie (mM w φ fp S (uZ Lb La Lc va vk cs0 ya0 yc0)) fn.ntmps (fun ts m=>aQ P (fun ys=>au ys=[]/\Xk Lb La Lc (post (bM ys)) m) fn.results.toList ts m []) a' w'→
  a'.defers=[]/\∃v,(results fn a'.tmps).run P w'= .ok v w'/\∃x v' m' φ' fp' S',Ending.returned v= .returned v'/\(∃cs ya yc,au cs=[]/\m'=uZ Lb La Lc (va+1) (vk+1) cs ya yc/\post x cs ya yc)/\RV w' S' φ' x v'/\ao x=[]/\WL (keys (uZ Lb La Lc va vk cs0 ya0 yc0)) m'∧
   RS (mM w φ fp S (uZ Lb La Lc va vk cs0 ya0 yc0)) 0 φ' fp' S' [] m' {tmps:= #[],defers:=[]} w':=by
  rintro a' w' ⟨φ',fp',S',ts',m',h',hk⟩;refine ⟨h'.defers,?_⟩;obtain ⟨ys,us,⟨hU,hD⟩,h2,h3,h4⟩:=cR h' fn.results.toList [] [] ⟨rfl,fun i hi=>absurd hi (fu _)⟩ (fun i hi=>absurd hi (fu _)) hk;obtain ⟨h3a,h3b⟩:=h3;simp only [List.nil_append] at h3a h3b;obtain ⟨cs,xa,xc,ya,yc,oa,oc,q1,q2,q3,q4,q5,q6,q7,q8⟩:=hD;refine ⟨if h:us.toArray.size=1 then us.toArray[0] else .tuple us.toArray,?_,bM ys,_,_,_,_,S',rfl,⟨cs,ya,yc,q2,rfl,q8⟩,?_,il hU,?_,h'.Yy hd q1 q2 q3 q4 q5 q6 q7⟩
  . have hm:results fn a'.tmps=(do let vs ←fn.results.mapM (da a'.tmps);pure (if h:vs.size=1 then vs[0] else .tuple vs)):=by
     unfold results;congr 1
    rw [hm,Sem.run_bind,Array.mapM_eq_mapM_toList];have:(bj <$> fn.results.toList.mapM (da a'.tmps):Sem aV).run P w'= .ok us.toArray w':=by rw [map_eq_pure_bind,Sem.run_bind,h2];rfl
    rw [this];rfl
  . refine (mH h3a h3b).mono (fun _ _=>rfl) (fun _ h=>h) (fun l b sh af cs e _ hb=>⟨cs,e,hb,rfl⟩) fun l af hl=> ?_;rw [il hU] at hl;cases hl
  refine te ?_;rw [kT];refine ⟨⟨by simp,?_⟩,⟨by simp,trivial⟩,⟨by simp,trivial⟩,trivial⟩;have hin:∀(r:List (Nat × Nat)),(∀p,p∈r->p.1∈[Lb,La,Lc])->ct [Lb,La,Lc] r:=by
   intro r;induction r with
   |nil=>intro _;trivial
   |cons p r ih=>intro hp;exact ⟨hp p (by simp),ih fun p' h'=>hp p' (by simp [h'])⟩
  refine hin _ fun p hp=> ?_;obtain ⟨i,hi,hp⟩:=b8 hp;have hm:=dD hi;rcases List.mem_append.1 hm with q|q
  . obtain ⟨j,hj,ej⟩:=bW q;rw [←ej,bK q2 j hj] at hp;cases hp
  simp only [List.mem_cons,List.not_mem_nil,or_false] at q;rcases q with q|q
  . rw [q] at hp;simp only [ao,hZ] at hp;subst hp;simp
  rw [q] at hp;simp only [ao,hZ] at hp;subst hp;simp
 refine wp_mono (cI c _ _ _ hok hv _ _ _ _ _ _ hRS) ?_;intro e a' w' hq;cases e with
 |normal=>exact fU a' w' hq
 |ret=>exact fU a' w' hq
 |_=>obtain ⟨_,_,_,_,_,_,hh⟩:=hq;exact hh.elim
theorem fN.tq {P:Program} {f:FuncId} {fn:Func} {c:Code} {Lb La Lc va vk:Nat} {cs0 ya0 yc0:lA} {xs:lA} {post:AV->lA->lA->lA->Prop} (N:Nat) (rs:List ResultVar) (hf:P.funcs[f]? =some fn) (hN:fn.ntmps=N:=by exact rfl) (hr:fn.results.toList=rs:=by exact rfl)
 (hn:(fn.name== "runtime.NumGoroutine")=false:=by exact rfl) (hb:fn.body=some c:=by exact rfl) (hok:codeOk N c=true:=by exact rfl) (ha:xs.length≤N:=by exact oT rfl) (hd:Lb≠La∧Lb≠Lc∧La≠Lc) (hv:vc P N c (bN 0 xs) (uZ Lb La Lc va vk cs0 ya0 yc0) (VS P rs Lb La Lc post)):
 fN P f (uZ Lb La Lc va vk cs0 ya0 yc0) xs (fun r m'=>∃cs ya yc,au cs=[]/\m'=uZ Lb La Lc (va+1) (vk+1) cs ya yc/\post r cs ya yc):=by
 subst hN;subst hr;exact fN.Tf hf hn hb hok ha hd hv
theorem qH.VT {w w':World} {S:Nat->Prop} {sh:Sh} {zs:lA} {v:Value} {fs:lN} (h:Own w' (fun _=>False) (.arr sh zs) v fs) (hnd:fs.Nodup) (hfr:∀b,b∈fs->w.heap.size<=b):qH w w' S sh zs v:=by
 have hlt:=h.lt;cases h with
 |rd _ _ h=>
  cases h with
  |nil _ a=>exact .inl ⟨rfl,a,rfl⟩
  |arr _ _ b _ _ _ _ _ hS=>exact hS.elim
 |arr _ _ b cap cs e fss hb hc hl hm hf hs hv=>
  refine .inr ⟨b,cap,rfl,hfr b (bB ..),?_⟩;have hn:=(List.nodup_cons.1 hnd).1;have:=Own.arr (w:=w') (S:=fun c=>S c\/(w.heap.size<=c/\c<w'.heap.size/\c≠b)) sh zs b cap cs e (cL zs.length []) hb hc hl hm hf (by simp) fun i hi=>by rw [show (cL zs.length ([]:lN)).getD i []=[] by simp [uq6,hi]];refine .rd _ _ ((hv i hi).mh (fun _ h=>h.elim) fun c hc=> ?_);have hm2:c∈fss.flatten:=aJ (by omega) hc;exact .inr ⟨hfr c (bQ _ hm2),hlt c (bQ _ hm2),fun e=>hn (e▸hm2)⟩
  have e0:(cL zs.length ([]:lN)).flatten=[]:=List.flatten_eq_nil_iff.2 fun l hl=>(List.mem_replicate.1 hl).2;rw [e0] at this;exact this
theorem C7 {P:Program} {f:FuncId} {xs trs:lA} {sh:Sh} {zs:lA} {m:Mem} (h0:0<sh.sz) (h:Fn P f trs true (· = .arr sh zs)) (hx:dH m (· =trs) [] xs) (l:Nat) (hio:l<bG) {k:AV->Mem->Prop}
 (hk:k (.ref l (aB m l) 0 zs.length) ((l,.row (aB m l) sh false zs)::m)):ib P f xs m k:=by
 intro B N φ fp S ts a w vs hR hsz hxv hxl;obtain ⟨ys,rfl,hrd⟩:=sZ (Q:=(· =trs)) hR xs vs.toList [] [] ⟨by simpa using hsz,hxv⟩ ⟨rfl,fun i hi=>absurd hi (fu _)⟩ hx;rw [List.nil_append] at hrd;refine ⟨h.1,(h.2 w (pn w) vs (fun b hb=>hb) (hR.jf.mono (fun _ _=>rfl) fun b hb=>(hR.sB b hb).1) (by simpa using hrd.1) hrd.2).mono ?_⟩;rintro e w' ⟨r,v,rfl,rfl,hg,UG⟩;simp only [iN,if_true] at UG;obtain ⟨fs,bd,hnd,hfr⟩:=UG;have kc:qH w w' S sh zs v:=qH.VT bd hnd hfr;refine ⟨v,rfl,?_⟩;have hR1:=hR.grown hg;have fL:∀af,known m l af->af<aB m l:=by rintro af ⟨k0,h1,h2⟩;unfold aB;rw [h1];exact Nat.lt_succ_of_le h2
 have hkn:known ((l,.row (aB m l) sh false zs)::m) l (aB m l):=⟨_,by rw [aw,if_pos rfl],aP _⟩;rcases kc with ⟨rfl,ad,rfl⟩|⟨b,cap,rfl,hb,bd⟩
 . have hR2:=hR1.next l (.nil (aB m l)) [] S (.row (aB m l) sh false []) (aP _) (a7.refl _) (je.refl _) (fun _ _ _=>rfl) (fun c hc=>⟨hc,rfl⟩) (fun c h1 h2=>absurd h1 h2) (fun l b sh af cs e _ hb=>⟨cs,e,hb,rfl⟩)
    (fun _ _ _ _=>rfl) (fun af hk=>⟨fun _ _ e=>(by cases e),fun e=>by cases e;exact absurd (fL _ hk) (gB _)⟩) (fun af hk=>Nat.le_of_lt (fL af hk)) (.inl ⟨by rw [az],rfl,rfl⟩) (fun _ _ hk=>by cases hk) jd (fun c hc=>by cases hc)
   exact ⟨_,_,_,_,_,_,hR2,.ref l _ 0 0 _ (fun b sh e=>by rw [az] at e;cases e) (fun _=>⟨rfl,ad,rfl⟩) rfl,fun l' af hl'=>by simp only [ao,hZ,Prod.mk.injEq] at hl';obtain ⟨rfl,rfl⟩:=hl';exact hkn,rfl,hk⟩
 obtain ⟨cs,e,fss,hgf,aE,hcs,cj,hmx,hff,hfl,hvv⟩:=gG bd (by simp);have hbw:b<w'.heap.size:=(uq1.1 aE).1
 have hR2:=hR1.next l (.at b sh (aB m l)) [b] (fun c=>S c\/(w.heap.size<=c/\c<w'.heap.size/\c≠b)) (.row (aB m l) sh false zs) (aP _) (a7.refl _) (je.refl _) (fun _ _ _=>rfl) (fun c hc=>⟨.inl hc,rfl⟩)
  (fun c h1 h2=>by
    rcases h1 with h1|⟨h1,h3,h4⟩
    . exact absurd h1 h2
    exact ⟨h3,.inl (fW hR.size h1),fun l' _ hc=>by have:=(hR.cw l' c hc).1;omega⟩)
  (fun l b sh af cs e _ hb=>⟨cs,e,hb,rfl⟩) (fun _ _ _ _=>rfl)
  (fun af hk=>LS.kG _ _ _ _ _ (fL af hk)) (fun af hk=>Nat.le_of_lt (fL af hk))
  (.inr ⟨b,cap,by rw [az],by simp,fun _=>rfl,bd⟩) (fun _ _ hk=>by cases hk) (by simp)
  (fun c hc=>by
    rw [hZ] at hc;subst hc;refine ⟨?_,fun l' _ hc=> ?_,hbw,.inl (fW hR.size hb)⟩
    . rintro (h1|⟨_,_,h1⟩)
      . have:=(hR.sB c h1).1;omega
      exact h1 rfl
    have:=(hR.cw l' c hc).1;omega)
 refine ⟨_,_,_,_,_,_,hR2,.ref l _ 0 _ _ (fun b' sh' e'=> ?_) (fun e'=>by rw [az] at e';cases e') rfl,fun l' af hl'=>by simp only [ao,hZ,Prod.mk.injEq] at hl';obtain ⟨rfl,rfl⟩:=hl';exact hkn,rfl,hk⟩;rw [az] at e';cases e';exact ⟨_,cap,rfl,cj,.inr ⟨by rw [Nat.zero_mul],cs,e,aE,by rw [hcs,Nat.zero_add]⟩⟩
theorem u7 {P:Program} {f:FuncId} {d:Nat} {xs ts:lA} {m:Mem} {k:AV->Mem->Prop} {q:Pack k} {sh:Sh} {zs:lA} (h:Fn P f ts true (· = .arr sh zs)) (h0:0<sh.sz) (hx:dH m (· =ts) [] xs) (hio:1000*(d+1)<bG)
 (hk:k (.ref (1000*(d+1)) (aB m (1000*(d+1))) 0 zs.length) ((1000*(d+1),.row (aB m (1000*(d+1))) sh false zs)::m)):iT P f d xs ts m k q:=by
 refine .inr (.inr ⟨.ref (1000*(d+1)) (aB m (1000*(d+1))) 0 zs.length,[(1000*(d+1),.row (aB m (1000*(d+1))) sh false zs)],hk,fun m' hm hm' k' hk'=> ?_⟩);have e:aB m' (1000*(d+1))=aB m (1000*(d+1)):=by unfold aB;rw [hm' (1000*(d+1)) (by show aj [_] _≠none;rw [aw,if_pos rfl];exact fun e=>by cases e)]
 refine C7 h0 h ?_ _ hio (by rw [e];exact hk');rw [qE (· =ts) xs [] fun x hx l hl=>hm l ⟨x,hx,hl⟩];exact hx
section
variable {P:Program} {m:Mem}
theorem ym {f:FuncId} {d l v:Nat} {xs rest trs cells:lA} {k:AV->Mem->Prop} {r:AV} {q:Pack k} (hf:Fn P f (.bu ⟨xs.length,true⟩ [.agg cells] 0 0::rest) true (· =r)) (hlk:aj m l=some (.box v xs))
 (hx:c6 m (· =cells) [] xs) (hl:au rest=[]) (hk:nf (1000*(d+1)) r m k):eQ P f d (.ptr l v 0 0::rest) trs m k q:=by
 refine .inl fun B N φ fp S ts a w vs hRS hsz hv hvl=>⟨hf.1,?_⟩;have hS:∀b,S b->pn w b:=fun b hb=>(hRS.sB b hb).1;obtain ⟨b,cs,e,sh,hφ,hfs,aE,hlen,hlf,hrv⟩:=hRS.aF l _ hlk;have r0:Rd w (pn w) (.bu ⟨xs.length,true⟩ [.agg cells] 0 0) (vs.toList.getD 0 Go.undef):=by
  have h0:=j3 (hv 0 (by simp)) b sh hφ;rw [Nat.zero_mul] at h0;have h0:vs.toList.getD 0 Go.undef= .pointer (some ⟨b,0,none⟩):=h0;rw [h0]
  obtain ⟨ys,rfl,g1,g2⟩:=oG (Q:=(· =cells)) hRS xs (cs.toList.take xs.length) [] [] ⟨by simp;omega,fun i hi=>by
   have:=hrv i hi;have e1:(cs.toList.take xs.length).getD i Go.undef=cs.toList.getD i Go.undef:=by rw [uq6,List.getElem?_take_of_lt hi,←uq6]
   rw [e1];exact this⟩ ⟨rfl,fun i hi=>absurd hi (fu _)⟩ hx
  rw [List.nil_append] at g1 g2;have hyl:ys.length=xs.length:=by rw [←g1];simp;omega
  have:=Rd.bu (w:=w) (S:=pn w) ⟨xs.length,true⟩ [.agg ys] 0 0 b 0 cs e.1 (n9 e cs.size) ?_ aE (by simpa using hlen) (fun i hi=> ?_) (fun i hi=> ?_)
  . simpa using this
  . exact (uq1.1 aE).1
  . simp only [List.length_singleton] at hi;obtain rfl:i=0:=by omega
    exact ⟨rfl,hyl⟩
  simp only [List.length_singleton] at hi;obtain rfl:i=0:=by omega
  show Rd w (pn w) (.agg ys) _;rw [c8];refine .agg ys _ (by simp;omega) (fun i hi=>(g2 i hi).2) fun i hi=> ?_;have:=(g2 i hi).1;simpa using this
 refine (hf.2 w (pn w) vs (fun b hb=>hb) (hRS.jf.mono (fun _ _=>rfl) fun b hb=>(hRS.sB b hb).1) (by simpa using hsz) fun i hi=> ?_).mono ?_
 . cases i with
   |zero=>exact r0
   |succ i=>
    have hi':i+1<(AV.ptr l v 0 0::rest).length:=by simpa using hi
    exact (cQ (hv (i+1) hi') (bK hl i (by simpa using hi))).mono (fun _ _=>rfl) hS
 rintro e w' ⟨r',v,rfl,rfl,hg,kc⟩;simp only [iN,if_true] at kc;obtain ⟨fs,bd,hnd,hfr⟩:=kc;have hR2:=hRS.grown hg;obtain ⟨φ',fp',y,m',g1,g2,g3,g4⟩:=CE hR2 bd hnd (fun b hb=>⟨fW hRS.size (hfr b hb),fun hs=>by have:=(hRS.sB b hs).1;have:=hfr b hb;omega,fun l hl=>by have:=(hRS.cw l b hl).1;have:=hfr b hb;omega⟩) _ hk;exact ⟨v,rfl,φ',fp',S,ts,m',y,g1.rs,g3,g4,rfl,g2⟩
end
abbrev eI (n:Int):AV:=.val (.int .i64 n)
abbrev eB (b:Bool):AV:=.val (.bool b)
abbrev aM (xs:lI):AV:=.arr ⟨1,false⟩ (xs.map eI)
theorem dy {α:Type} (p:α->Bool) (xs:List α) (i:Nat) (h:i<xs.length):(xs.take (i+1)).all p=((xs.take i).all p&&p xs[i]):=by rw [bg h,List.all_append];simp
theorem gQ {α:Type} {p:α->Bool} {xs:List α} {i:Nat} (h:i<xs.length) (hp:p xs[i]=false):xs.all p=false:=by rw [List.all_eq_false];exact ⟨xs[i],dD h,by simp [hp]⟩
def fill {α β:Type} (f:α->β) (z:β) (xs:List α) (i:Nat):List β:=(xs.take i).map f++cL (xs.length-i) z
theorem nB {α β:Type} (f:α->β) (xs:List α):(xs.map f).take xs.length=xs.map f:=by rw [←List.map_take,aY]
attribute [go_sem] nB
theorem aG {i n:Nat} (h:i<n):decide ((i:Int)<(n:Int))=true:=dT (by omega)
theorem aC (n:Nat):decide ((n:Int)<(n:Int))=false:=dF (by omega)
theorem get_some {α:Type} {xs:List α} {i:Nat} (h:i<xs.length):xs[i]? =some xs[i]:=uq7 h
def Iz {β:Type} (f:Nat->β) (zs:List β) (i:Nat):List β:=(cf i).map f++zs.drop i
theorem FO {β:Type} (f:Nat->β) (zs:List β):Iz f zs 0=zs:=by simp [Iz]
theorem Kc {β:Type} (f:Nat->β) (zs:List β) (n:Nat) (h:zs.length<=n):Iz f zs n=(cf n).map f:=by simp [Iz,List.drop_eq_nil_of_le h]
theorem Tg {β:Type} (f:Nat->β) (zs:List β) (i:Nat) (h:i<=zs.length):(Iz f zs i).length=zs.length:=by simp [Iz];omega
theorem Kd {β:Type} (f:Nat->β) (zs:List β) (i:Nat) (h:i<zs.length):(Iz f zs i)[i]? =some zs[i]:=by rw [Iz,List.getElem?_append_right (by simp)];simp [h]
theorem Ke {β:Type} (f:Nat->β) (zs:List β) (i:Nat) (h:i<zs.length):(Iz f zs i).set i (f i)=Iz f zs (i+1):=by rw [Iz,Iz,List.set_append_right _ _ (by simp),cH,List.map_append];simp only [List.length_map,List.length_range,Nat.sub_self,List.map_cons,List.map_nil,List.append_assoc];rw [List.drop_eq_getElem_cons h];rfl
theorem PX {β:Type} (f:Nat->β) (zs:List β) (i:Nat) (x:β) (h:i<zs.length):((Iz f zs i).set i x)[i]? =some x:=by rw [List.getElem?_set];simp [Tg f zs i (by omega),h]
theorem FP {α:Type} {f:α->AV} (xs:List α) (h:∀x,cm (f x)=true):bo (xs.map f)=true:=by
 induction xs with
 |nil=>rfl
 |cons x r ih=>rw [List.map_cons,mW,h,ih];rfl
theorem Yz {α:Type} (z:α):cL 0 z=[]:=rfl
theorem YB {α:Type} (z:α):cL 1 z=[z]:=rfl
theorem YC {α:Type} (z:α):cL 2 z=[z,z]:=rfl
theorem YD {α:Type} (z:α):cL 6 z=[z,z,z,z,z,z]:=rfl
theorem YE {α:Type} (z:α):cL 7 z=[z,z,z,z,z,z,z]:=rfl
theorem YF {α:Type} (z:α):cL 9 z=[z,z,z,z,z,z,z,z,z]:=rfl
theorem Xl {α:Type} (z:α):cL 11 z=[z,z,z,z,z,z,z,z,z,z,z]:=rfl
attribute [go_sem] FP List.take_take Nat.min_self List.map_take List.append_nil List.length_append List.length_take Yz YB YC YD YE YF Xl
theorem VU:bG=1000000000:=rfl
attribute [go_sem] ne_eq not_false_eq_true VU decide_true decide_false Bool.not_true Bool.not_false bne_self_eq_false
attribute [go_sem] List.length_set
theorem Kf {α:Type} [DecidableEq α] {xs ys:List α} {i:Nat} (hi:i<xs.length) (hy:i<ys.length) (h:xs[i]≠ys[i]):decide (xs=ys)=false:=
 dF fun e=>h (by subst e;rfl)
theorem C8 {α:Type} {xs ys:List α} {i:Nat} (hi:i<xs.length) (hy:i<ys.length) (hI:xs.take i=ys.take i) (h:xs[i]=ys[i]):xs.take (i+1)=ys.take (i+1):=by rw [bg hi,bg hy,hI,h]
open Go.Lib
abbrev eS (bs:lU):AV:=.val (.string ⟨bs.toArray⟩)
abbrev nC (xs:List lU):AV:=.arr ⟨1,false⟩ (xs.map eS)
theorem Mt (a b:lU):(⟨a.toArray⟩:ByteArray)++⟨b.toArray⟩=⟨(a++b).toArray⟩:=by apply ByteArray.ext;rw [ByteArray.data_append];simp
theorem pJ (a:lU):(⟨a.toArray⟩:ByteArray).size=a.length:=by show a.toArray.size=_;simp
theorem nD (a:lU):(⟨a.toArray⟩:ByteArray).data.toList=a:=rfl
theorem Th (a:lU):(⟨a.toArray⟩:ByteArray).toList=a:=by rw [ByteArray.toList_eq]
theorem nE (a:lU) (i j:Nat):(⟨a.toArray⟩:ByteArray).extract i j=⟨((a.take j).drop i).toArray⟩:=by apply ByteArray.ext;rw [ByteArray.data_extract];simp;exact List.drop_take.symm
theorem pK (u:Nat):∀c∈decDigits u,48<=c.toNat/\c.toNat<=57:=by
 induction u using Nat.strongRecOn with
 |_ u ih=>
  have one:∀k,k<10->48<=(UInt8.ofNat (48+k)).toNat/\(UInt8.ofNat (48+k)).toNat<=57:=by intro k hk;rw [UInt8.toNat_ofNat_of_lt' (by show 48+k<256;omega)];omega
  by_cases h:u<10
  . rw [decDigits,dif_pos h];intro c hc;rw [hZ] at hc;subst hc;exact one u h
  rw [decDigits,dif_neg h];intro c hc;rcases List.mem_append.1 hc with hc|hc
  . exact ih (u / 10) (by omega) c hc
  rw [hZ] at hc;subst hc;exact one (u%10) (by omega)
def jQ (acc:Nat) (l:lU):Nat:=l.foldl (fun a c=>a*10+(c.toNat-48)) acc
theorem yn (acc:Nat):jQ acc []=acc:=rfl
theorem mP (acc:Nat) (c:UInt8) (r:lU):jQ acc (c::r)=jQ (acc*10+(c.toNat-48)) r:=by simp only [jQ,List.foldl_cons]
theorem FQ (acc:Nat) (a b:lU):jQ acc (a++b)=jQ (jQ acc a) b:=List.foldl_append
theorem Kg:∀(l:lU) (acc:Nat),acc<=jQ acc l
 | [],acc=>aP _
 |c::r,acc=>by rw [mP];have:=Kg r (acc*10+(c.toNat-48));omega
theorem su:∀(l:lU) (acc:Nat),(∀c∈l,48<=c.toNat/\c.toNat<=57)->jQ acc l+1<=(acc+1)*10^l.length
 | [],acc,_=>by simp [yn]
 |c::r,acc,h=>by rw [mP,List.length_cons,Nat.pow_succ];have h1:=h c (bB ..);refine fW (su r _ fun x hx=>h x (bQ _ hx)) ?_;rw [Nat.mul_comm (10^r.length) 10,←Nat.mul_assoc];exact Nat.mul_le_mul_right _ (by omega)
theorem PY (u:Nat):∀acc,jQ acc (decDigits u)=acc*10^nDigits u+u:=by
 induction u using Nat.strongRecOn with
 |_ u ih=>
  intro acc;have one:∀k,k<10->(UInt8.ofNat (48+k)).toNat-48=k:=by intro k hk;rw [UInt8.toNat_ofNat_of_lt' (by show 48+k<256;omega)];omega
  by_cases h:u<10
  . rw [decDigits,dif_pos h,nDigits_small h,mP,yn,one u h]
  rw [decDigits,dif_neg h,nDigits_big h,FQ,ih (u / 10) (by omega),mP,yn,one (u%10) (by omega),Nat.pow_succ,Nat.add_mul,Nat.mul_assoc];omega
theorem tu (u:Nat):jQ 0 (decDigits u)=u:=by rw [PY];simp
theorem PZ (u:Nat):decDigits u≠[]:=by intro h;have:=decDigits_length u;rw [h] at this;have:=nDigits_pos u;simp at*;omega
theorem P0 (u:Nat):itoa (u:Int)=decDigits u:=by unfold itoa;rw [if_neg (by omega)];simp
theorem ff {n:Int} (h:0<=n):itoa n=decDigits n.toNat:=by unfold itoa;rw [if_neg (by omega)]
theorem BH (M:Nat) (hM:M<=18446744073709551615):∀(l:lU) (acc:Nat),(∀c∈l,48<=c.toNat/\c.toNat<=57)->jQ acc l<=M->parseUintM M acc l= .ok (jQ acc l)
 | [],acc,_,_=>rfl
 |c::r,acc,hd,hv=>by have h1:=hd c (bB ..);rw [mP] at hv ⊢;have h2:=Kg r (acc*10+(c.toNat-48));rw [parseUintM,if_pos h1,if_neg (by omega),if_neg (by omega)];exact BH M hM r _ (fun x hx=>hd x (bQ _ hx)) hv
theorem yo (u:Nat) (h:u<=18446744073709551615):parseUintB 64 (decDigits u)= .ok u:=by rw [parseUintB,if_neg (PZ u),BH _ (by decide) _ _ (pK u) (by rw [tu];exact h),tu]
theorem qJ {v:Int} (h:kx v):parseIntB 64 (itoa v)= .ok v:=by
 obtain ⟨h0,h1⟩:=h;have e63:(2:Nat)^(64-1)=9223372036854775808:=by decide
 by_cases hn:v<0
 . rw [itoa,if_pos hn];simp only [parseIntB];rw [if_pos (.inr rfl),yo _ (by omega)];simp only [e63];rw [if_neg (by rintro ⟨q,_⟩;exact q rfl),if_neg (by rintro ⟨_,q⟩;omega),if_pos (show (45:UInt8).toNat=45 from rfl)];congr 1;omega
 rw [itoa,if_neg hn];have hd:=pK v.toNat;have hp:=yo v.toNat (by omega);cases hl:decDigits v.toNat with
 |nil=>exact absurd hl (PZ _)
 |cons c r=>
  rw [hl] at hd hp;have hc:=hd c (bB ..);have n1:¬c.toNat=45:=by omega
  simp only [parseIntB,e63];rw [if_neg (by omega),hp];simp only [];rw [if_neg (by omega),if_neg (by omega),if_neg n1];congr 1;omega
theorem u9 {l:lU} {v:Int} (h:parseIntB 64 l= .ok v):kx v:=by
 have e63:(2:Nat)^(64-1)=9223372036854775808:=by decide
 unfold parseIntB at h;cases l with
 |nil=>cases h
 |cons c r=>
  simp only [e63] at h;split at h
  . cases h
  . cases h
  split at h
  . cases h
  split at h
  . cases h
  rename_i n1 n2;injection h with h
  subst h;unfold kx;split<;>rename_i hc
  . have:¬9223372036854775808<_:=fun q=>n2 ⟨hc,q⟩;omega
  have:¬9223372036854775808<=_:=fun q=>n1 ⟨hc,q⟩;omega
theorem P1 {m n:Int} (hm:kx m) (hn:kx n) (h:itoa m=itoa n):m=n:=by have h1:=qJ hm;rw [h,qJ hn] at h1;injection h1 with h1;exact h1.symm
def pW (s:lU):Int × Bool:=match parseIntB 64 s with
 | .ok v=>(v,decide (itoa v=s))
 | .range=>(intSat 64 s,false)
 |_=>(0,false)
theorem Mu {v:Int} (h:kx v):pW (itoa v)=(v,true):=by rw [pW,qJ h];simp
theorem BJ {s:lU} (h:(pW s).2=true):kx (pW s).1/\s=itoa (pW s).1:=by
 unfold pW at*;split at h
 . rename_i v hv;exact ⟨u9 hv,(oT h).symm⟩
 . cases h
 cases h
def dW (s:lU):Int × Bool:=
 if s.length<1\/13<s.length then (0,false) else
  if (s.all fun c=>decide (48<=c.toNat)&&decide (c.toNat<=57))=true then ((jQ 0 s:Nat),decide (decDigits (jQ 0 s)=s)) else (0,false)
theorem P2 {u:Nat} (h:nDigits u<=13):dW (decDigits u)=((u:Int),true):=by
 have h1:=nDigits_pos u;rw [dW,if_neg (by rw [decDigits_length];omega),if_pos,tu]
 . simp
 rw [uq5];intro c hc;have:=pK u c hc;simp;omega
theorem tv {s:lU} (h:(dW s).2=true):0<=(dW s).1/\s=itoa (dW s).1:=by
 unfold dW at*;split at h
 . cases h
 split at h
 . rename_i h1 h2;rw [if_neg h1,if_pos h2];exact ⟨Int.natCast_nonneg _,by rw [P0];exact (oT h).symm⟩
 cases h
def dq (c:UInt8):lU->List lU
 | []=>[[]]
 |b::l=>if b=c then []::dq c l else match dq c l with
  |h::t=>(b::h)::t
  | []=>[[b]]
theorem tx (c:UInt8):∀l,dq c l≠[]
 | []=>by simp [dq]
 |b::l=>by
  rw [dq];split
  . simp
  split<;>simp
theorem sv {c:UInt8}:∀{l:lU},c∉l->dq c l=[l]
 | [],_=>rfl
 |b::l,h=>by rw [dq,if_neg (fun e=>h (by rw [e];exact bB ..)),sv (fun q=>h (bQ _ q))]
theorem C9 {c:UInt8}:∀{a:lU} (r:lU),c∉a->dq c (a++c::r)=a::dq c r
 | [],r,_=>by rw [List.nil_append,dq,if_pos rfl]
 |b::l,r,h=>by rw [List.cons_append,dq,if_neg (fun e=>h (by rw [e];exact bB ..)),C9 r (fun q=>h (bQ _ q))]
theorem FR {c:UInt8} {l:lU} {i:Nat} (hi:l[i]? =some c) (hno:∀k,k<i->l[k]? ≠some c):dq c l=l.take i::dq c (l.drop (i+1)):=by
 obtain ⟨hlt,he⟩:=uq8.1 hi;have e:l=l.take i++c::l.drop (i+1):=by rw [←he,←List.drop_eq_getElem_cons hlt,List.take_append_drop]
 have hn:c∉l.take i:=by
  intro hc;obtain ⟨k,hk,hkc⟩:=bW hc;have hk2:k<i:=by simp at hk;omega
  refine hno k hk2 ?_;rw [cr] at hkc;rw [uq7 (by omega),hkc]
 conv=>lhs;rw [e]
 exact C9 _ hn
theorem vX (l:lU) (c:UInt8):indexB ⟨l.toArray⟩ ⟨#[c]⟩=indexByte l c:=index_one l c
theorem IA (c:UInt8):∀(k:Nat) (l:lU),countB ⟨l.toArray⟩ ⟨#[c]⟩=k->splitB ⟨#[c]⟩ 0 k ⟨l.toArray⟩=(dq c l).map fun a=>⟨a.toArray⟩:=by
 intro k;induction k with
 |zero=>
  intro l hl;rcases indexB_cases ⟨l.toArray⟩ ⟨#[c]⟩ with h|⟨i,h,_⟩
  . rw [splitB_miss _ _ _ _ h];rw [vX] at h;have hn:c∉l:=by
     intro hc;obtain ⟨j,hj,e⟩:=bW hc;exact indexByte_none h j (by rw [uq7 hj,e])
    rw [sv hn];rfl
  rw [countB_hit _ _ i (show 1<=(⟨#[c]⟩:ByteArray).size from aP 1) h] at hl;omega
 |succ k ih=>
  intro l hl;rcases indexB_cases ⟨l.toArray⟩ ⟨#[c]⟩ with h|⟨i,h,_⟩
  . rw [countB_miss _ _ h] at hl;omega
  rw [countB_hit _ _ i (show 1<=(⟨#[c]⟩:ByteArray).size from aP 1) h] at hl;rw [splitB_hit _ _ _ _ _ h];rw [vX] at h;obtain ⟨h1,h2⟩:=indexByte_some h;have e1:(⟨#[c]⟩:ByteArray).size=1:=rfl;have e2:(⟨l.toArray⟩:ByteArray).extract (i+1) (⟨l.toArray⟩:ByteArray).size=⟨(l.drop (i+1)).toArray⟩:=by rw [pJ,nE,aY]
  have e3:(⟨l.toArray⟩:ByteArray).extract 0 (i+0)=⟨(l.take i).toArray⟩:=by rw [nE];simp
  rw [e1,e2] at hl;rw [e1,e2,e3,ih _ (by omega),FR h1 h2];simp
theorem Mv (c:UInt8):∀(k:Nat) (l:lU),countB ⟨l.toArray⟩ ⟨#[c]⟩=k->(dq c l).length=k+1:=by
 intro k;induction k with
 |zero=>
  intro l hl;rcases indexB_cases ⟨l.toArray⟩ ⟨#[c]⟩ with h|⟨i,h,_⟩
  . rw [vX] at h;have hn:c∉l:=by
     intro hc;obtain ⟨j,hj,e⟩:=bW hc;exact indexByte_none h j (by rw [uq7 hj,e])
    rw [sv hn];rfl
  rw [countB_hit _ _ i (show 1<=(⟨#[c]⟩:ByteArray).size from aP 1) h] at hl;omega
 |succ k ih=>
  intro l hl;rcases indexB_cases ⟨l.toArray⟩ ⟨#[c]⟩ with h|⟨i,h,_⟩
  . rw [countB_miss _ _ h] at hl;omega
  rw [countB_hit _ _ i (show 1<=(⟨#[c]⟩:ByteArray).size from aP 1) h] at hl;rw [vX] at h;obtain ⟨h1,h2⟩:=indexByte_some h;have e1:(⟨#[c]⟩:ByteArray).size=1:=rfl;have e2:(⟨l.toArray⟩:ByteArray).extract (i+1) (⟨l.toArray⟩:ByteArray).size=⟨(l.drop (i+1)).toArray⟩:=by rw [pJ,nE,aY]
  rw [e1,e2] at hl;rw [FR h1 h2,List.length_cons,ih _ (by omega)]
open Go.Proofs
theorem Ti:Rs pG 9 (fun t:lU=>t.length<=maxLen) (fun t=>[eS t]):=
 (Rs.string underlying9).map fun s h=>⟨s.data.toList,h,rfl⟩
theorem ZK:aK pG 2=some ⟨false,1,8,.val (.int .i64 0),[],0,.int .i64⟩:=by kernel_rfl
theorem ZL:aK pG 3=some ⟨false,1,8,.val (.int .i64 0),[],0,.int .i64⟩:=by kernel_rfl
theorem ZM:aK pG 4=some ⟨false,1,1,.val (.bool false),[],0,.bool⟩:=by kernel_rfl
theorem ZN:aK pG 5=some ⟨false,1,1,.val (.int .u8 0),[],0,.int .u8⟩:=by kernel_rfl
theorem ZO:aK pG 9=some ⟨false,1,16,.val (.string ⟨#[]⟩),[],0,.string⟩:=by kernel_rfl
theorem YG:aK pG 21=some ⟨false,1,4,.val (.int .i32 0),[],0,.int .i32⟩:=by kernel_rfl
theorem YH:aK pG 23=some ⟨true,5,40,.agg [.val (.int .i64 0),.val (.int .i64 0),.val (.int .i64 0),.val (.int .i64 0),.val (.int .i64 0)],[(0,1,false),(1,1,false),(2,1,false),(3,1,false),(4,1,false)],0,.struct⟩:=by kernel_rfl
theorem YI:aK pG 24=some ⟨false,1,24,.val (.slice none 0 0),[],58,.slice⟩:=by kernel_rfl
theorem YJ:aK pG 26=some ⟨true,7,88,.agg [.val (.int .i64 0),.val (.int .i64 0),.val (.int .i64 0),.val (.int .i64 0),.val (.int .i64 0),.val (.slice none 0 0),.val (.slice none 0 0)],[(0,5,true),(5,1,false),(6,1,false)],0,.struct⟩:=by kernel_rfl
theorem YK:aK pG 32=some ⟨false,1,24,.val (.slice none 0 0),[],5,.slice⟩:=by kernel_rfl
theorem YL:aK pG 35=some ⟨false,1,24,.val (.slice none 0 0),[],9,.slice⟩:=by kernel_rfl
theorem YM:aK pG 58=some ⟨false,1,24,.val (.slice none 0 0),[],2,.slice⟩:=by kernel_rfl
theorem YN:aK pG 63=some ⟨false,1,8,.val .nilFunc,[],0,.other⟩:=by kernel_rfl
theorem YO:aK pG 65=some ⟨false,1,8,.val .nilFunc,[],0,.other⟩:=by kernel_rfl
theorem YP:aK pG 87=some ⟨false,1,8,.val .nilFunc,[],0,.other⟩:=by kernel_rfl
theorem YQ:aK pG 99=some ⟨false,1,16,.val .nilIface,[],0,.iface⟩:=by kernel_rfl
theorem Xm:aK pG 110=some ⟨true,6,64,.agg [.val (.int .i64 0),.val (.int .i64 0),.val (.int .i64 0),.val (.int .i64 0),.val (.int .i64 0),.val (.slice none 0 0)],[(0,5,true),(5,1,false)],0,.struct⟩:=by kernel_rfl
theorem Xn:aK pG 116=some ⟨false,1,24,.val (.slice none 0 0),[],121,.slice⟩:=by kernel_rfl
theorem Xo:aK pG 121=some ⟨true,1,24,.agg [.val (.slice none 0 0)],[(0,1,false)],0,.struct⟩:=by kernel_rfl
theorem Xp:aK pG 164=some ⟨false,1,24,.val (.slice none 0 0),[],24,.slice⟩:=by kernel_rfl
theorem Xq:aK pG 183=some ⟨true,11,120,.agg [.val (.int .i64 0),.val (.int .i64 0),.val (.int .i64 0),.val (.int .i64 0),.val (.int .i64 0),.val (.slice none 0 0),.val (.int .i64 0),.val (.int .i64 0),.val (.int .i64 0),.val (.bool false),.val (.slice none 0 0)],[(0,6,true),(6,1,false),(7,1,false),(8,1,false),(9,1,false),(10,1,false)],0,.struct⟩:=by kernel_rfl
theorem Xr:aK pG 200=some ⟨false,1,8,.val (.pointer none),[],0,.other⟩:=by kernel_rfl
theorem Xs:aK pG 204=some ⟨true,10,96,.agg [.val (.int .i64 0),.val (.int .i64 0),.val (.int .i64 0),.val (.int .i64 0),.val (.int .i64 0),.val (.slice none 0 0),.val (.int .i64 0),.val (.int .i64 0),.val (.bool false),.val .nilFunc],[(0,6,true),(6,1,false),(7,1,false),(8,1,false),(9,1,false)],0,.struct⟩:=by kernel_rfl
theorem Xt:aK pG 216=some ⟨false,1,8,.val .nilFunc,[],0,.other⟩:=by kernel_rfl
theorem Xu:aK pG 239=some ⟨false,1,8,.val .nilFunc,[],0,.other⟩:=by kernel_rfl
attribute [go_sem] ZK ZL ZM ZN ZO
attribute [go_sem] YG YH YI YJ YK YL
attribute [go_sem] YM
attribute [go_sem] YN YO
attribute [go_sem] YP YQ
attribute [go_sem] Xm Xn
attribute [go_sem] Xo
attribute [go_sem] Xp
attribute [go_sem] Xq
attribute [go_sem] Xr Xs Xt
attribute [go_sem] Xu
def bF (a b c:Int):Bool:=decide (a≥b)&&decide (a<=c)
theorem bn (p:Nat->Bool) (i:Nat):(cf (i+1)).all p=((cf i).all p&&p i):=by rw [cH,List.all_append];simp
theorem b9 {p:Nat->Bool} {i n:Nat} (h:i<n) (hp:p i=false):(cf n).all p=false:=by rw [List.all_eq_false];exact ⟨i,cP.2 h,by simp [hp]⟩
def vJ (p:Nat->Bool) (i:Nat):lI:=List.map (fun j:Nat=>(j:Int)) ((cf i).filter p)
theorem oW (p:Nat->Bool):vJ p 0=[]:=rfl
theorem mQ (p:Nat->Bool) (i:Nat):vJ p (i+1)=if p i then vJ p i++[(i:Int)] else vJ p i:=by simp only [vJ,cH,List.filter_append,List.map_append];rw [List.filter_cons];split<;>simp
theorem pL (p:Nat->Bool) (i:Nat):(vJ p i).length<=i:=by rw [vJ,List.length_map];exact fW (List.length_filter_le _ _) (by simp)
theorem sw {p:Nat->Bool} {i:Nat} {x:Int} (h:x∈vJ p i):∃j:Nat,j<i/\x=j/\p j=true:=by simp only [vJ,bR,bk,cP] at h;obtain ⟨j,⟨h1,h2⟩,h3⟩:=h;exact ⟨j,h1,h3.symm,h2⟩
attribute [irreducible] vJ
theorem pred_toNat {i:Nat} (h:0<i):((i:Int)-1).toNat=i-1:=by omega
theorem jF (a b c:Int):Fn pG 77 [eI a,eI b,eI c] true (· =eB (bF a b c)):=by
 refine Fn.av 15 [.tmp 6] func77 (hv:= ?_);simp -dsimp -implicitDefEqProofs only [go_sem];repeat' (refine Br.intro (fun _=> ?_) (fun _=> ?_)<;>try simp -dsimp -implicitDefEqProofs only [go_sem, *])
 all_goals first
  |(simp_all [bF];done)
  |(simp_all [bF];omega)
theorem kU (a b c:Int):Fn pG 72 [eI a,eI b,eI c] true (· =eB (bF a b c)):=by
 refine Fn.av 15 [.tmp 6] func72 (hv:= ?_);simp -dsimp -implicitDefEqProofs only [go_sem];repeat' (refine Br.intro (fun _=> ?_) (fun _=> ?_)<;>try simp -dsimp -implicitDefEqProofs only [go_sem, *])
 all_goals first
  |(simp_all [bF];done)
  |(simp_all [bF];omega)
theorem oX (xs:lI) (a b:Int) (h:xs.length<=9223372036854775807):Fn pG 73 [aM xs,eI a,eI b] true (· =eB (xs.all fun x=>bF x a b)):=by
 refine Fn.av 21 [.tmp 6] func73 (hv:= ?_);simp -dsimp -implicitDefEqProofs only [go_sem];refine ak.up [1,2,9,10] [18] [] xs.length (fun i=>(xs.take i).all fun x=>bF x a b) (fun i=>[(11,eI i)]) (fun _=>[]) (by simp) ?_ rfl (fun i hi hI=> ?_) (fun hI=> ?_)
 . simp -dsimp -implicitDefEqProofs only [go_sem]
 . simp -dsimp -implicitDefEqProofs only [pz,↓reduceIte,aT];have no:bF xs[i] a b=false->(xs.all fun x=>bF x a b)=false:=fun h=>gQ (p:=fun x=>bF x a b) hi h;have yes:bF xs[i] a b=true->((xs.take (i+1)).all fun x=>bF x a b)=true:=fun h=>by rw [dy _ _ _ hi,hI,h];rfl
   simp -dsimp -implicitDefEqProofs only [go_sem,aG hi,get_some hi]
   repeat' first
    |(refine Br.intro (fun _=> ?_) (fun _=> ?_)<;>try simp -dsimp -implicitDefEqProofs only [go_sem, *])
    |(with_reducible refine ai ?_ ?_)
    |(refine ab (kU _ _ _) ?_;try simp -dsimp -implicitDefEqProofs only [go_sem, *])
   all_goals first|omega|(refine ⟨?_,?_⟩<;>omega)|(simp;done)|(rw [no];clear no yes;simp_all [];done)|(refine yes ?_;clear no yes;simp_all [];done)|skip
 simp -dsimp -implicitDefEqProofs only [pz,↓reduceIte,aT];simp -dsimp -implicitDefEqProofs only [go_sem,aC];rw [aY] at hI;rw [hI]
theorem mixed:Tryz.prog.follows .mixedOrders=true:=by kernel_rfl
theorem IB (xs ys:lI) (h:xs.length<=9223372036854775807):Fn pG 61 [aM xs,aM ys] true (· =eB (decide (xs=ys))):=by
 refine Fn.av 26 [.tmp 4] func61 (hv:= ?_);simp -dsimp -implicitDefEqProofs only [go_sem];repeat' (refine Br.intro (fun _=> ?_) (fun _=> ?_)<;>try simp -dsimp -implicitDefEqProofs only [go_sem, *])
 . rw [decide_eq_false];intro e;subst e;simp_all
 have h1:xs.length=ys.length:=by simp_all<;>omega
 refine ak.up [0,1] [13] [] xs.length (fun i=>xs.take i=ys.take i) (fun i=>[(5,eI i)]) (fun _=>[]) rfl ?_ rfl (fun i hi hI=> ?_) (fun hI=> ?_)
 . simp -dsimp -implicitDefEqProofs only [go_sem]
 . simp -dsimp -implicitDefEqProofs only [pz,↓reduceIte,aT];have hy:i<ys.length:=by omega
   have no:xs[i]≠ys[i]->decide (xs=ys)=false:=Kf hi hy;have yes:xs[i]=ys[i]->xs.take (i+1)=ys.take (i+1):=C8 hi hy hI;simp -dsimp -implicitDefEqProofs only [go_sem,aG hi];refine ak.draw mixed rfl ?_;simp -dsimp -implicitDefEqProofs only [go_sem,get_some hi,get_some hy]
   repeat' first
    |(refine Br.intro (fun _=> ?_) (fun _=> ?_)<;>try simp -dsimp -implicitDefEqProofs only [go_sem, *])
    |(with_reducible refine ai ?_ ?_)
    |fail
   all_goals first
    |omega
    |(refine ⟨?_,?_⟩<;>omega)
    |rfl
    |(rw [no];clear no yes;simp_all;done)
    |(refine yes ?_;clear no yes;simp_all;done)
 simp -dsimp -implicitDefEqProofs only [pz,↓reduceIte,aT];simp -dsimp -implicitDefEqProofs only [go_sem,aC];have h3:xs=ys:=by rw [←aY (l:=xs),hI,h1,aY]
 simp [h3]
def cY (k:Int) (n:Nat):lI:=(cf n).map fun i:Nat=>(k+(i:Int))
theorem Da (xs:lI) (k:Int) (v:Nat) (dp:Bool) (hk:0<=k/\k<=1000000000000) (h:xs.length<=1000000000000):
 pw pG 62 [.row v ⟨1,false⟩ dp (xs.map eI)] [.ref 1000000000 v 0 xs.length,eI k] (fun x io=>x=eI (k+1*xs.length)/\io=[.row v ⟨1,false⟩ dp ((cY k xs.length).map eI)]):=by
 refine pw.av 19 [.tmp 4] func62 (hv:= ?_);simp -dsimp -implicitDefEqProofs only [go_sem];refine ak.up [0] [8] [1000000000] xs.length (fun _=>True) (fun i=>[(5,eI i),(1,eI (k+1*i))]) (fun i=>[(1000000000,.row v ⟨1,false⟩ dp (Iz (fun i:Nat=>eI ((k+(i:Int)))) (xs.map eI) i))]) trivial ?_ rfl (fun i hi _=> ?_) (fun _=> ?_)
 . simp -dsimp -implicitDefEqProofs only [go_sem,FO,Int.mul_zero,Int.add_zero]
 . simp -dsimp -implicitDefEqProofs only [pz,bC,bD,bx,↓reduceIte,aT];have g0:=Kd (fun i:Nat=>eI ((k+(i:Int)))) (xs.map eI) i (by simpa using hi);have g1:=Ke (fun i:Nat=>eI ((k+(i:Int)))) (xs.map eI) i (by simpa using hi);have g2:=fun x=>PX (fun i:Nat=>eI ((k+(i:Int)))) (xs.map eI) i x (by simpa using hi);rw [uq9] at g0;simp -dsimp -implicitDefEqProofs only [go_sem,aG hi,g0];with_reducible and_intros
   all_goals first
    |omega
    |(refine ⟨?_,?_⟩<;>omega)
    |(simp;done)
    |(simp;omega)
 simp -dsimp -implicitDefEqProofs only [pz,bC,bD,bx,↓reduceIte,aT];simp -dsimp -implicitDefEqProofs only [go_sem,aC,Kc _ _ _ (show (xs.map eI).length<=xs.length by simp)];all_goals (simp [cY,List.map_map,Function.comp_def];done)
theorem Db (n:Nat) (k:Int) (hk:0<=k/\k<=1000000000000) (h:n<=1000000000000):
 Fn pG 63 [aM (cY k n),eI k] true (· =eI (k+1*n)):=by
 refine Fn.av 21 [.tmp 4] func63 (hv:= ?_);simp -dsimp -implicitDefEqProofs only [go_sem];have hl:(cY k n).length=n:=by simp [cY]
 refine ak.up [0] [8] [] n (fun _=>True) (fun i=>[(5,eI i),(1,eI (k+1*i))]) (fun _=>[]) trivial ?_ rfl (fun i hi _=> ?_) (fun _=> ?_)
 . simp -dsimp -implicitDefEqProofs only [go_sem,Int.mul_zero,Int.add_zero]
 . simp -dsimp -implicitDefEqProofs only [pz,↓reduceIte,aT];have g0:(cY k n)[i]? =some ((k+(i:Int))):=by simp [cY,hi]
   simp -dsimp -implicitDefEqProofs only [go_sem,hl,aG hi,g0]
   repeat' first
    |(refine Br.intro (fun _=> ?_) (fun _=> ?_)<;>try simp -dsimp -implicitDefEqProofs only [go_sem, *])
    |(with_reducible refine ai ?_ ?_)
   all_goals first
    |omega
    |(refine ⟨?_,?_⟩<;>omega)
    |(simp;done)
    |(simp;omega)
    |(simp_all;done)
    |(simp_all;omega)
 simp -dsimp -implicitDefEqProofs only [pz,↓reduceIte,aT];simp -dsimp -implicitDefEqProofs only [go_sem,hl,aC]
theorem sx (xs:lI) (h:xs.length<=1048576):Fn pG 57 [aM xs] true (· =aM xs):=by
 refine Fn.av 6 [.tmp 2] func57 (hv:= ?_);simp -dsimp -implicitDefEqProofs only [go_sem];with_reducible and_intros
 all_goals first|omega|(simp;done)|skip
theorem yp (xs:lI) (h:xs.length<=1048576):Fn pG 159 [aM xs] true (· =aM xs):=by
 refine Fn.av 8 [.tmp 2] func159 (hv:= ?_);simp -dsimp -implicitDefEqProofs only [go_sem];intro c hc
 repeat' first
  |(refine Br.intro (fun _=> ?_) (fun _=> ?_)<;>try simp -dsimp -implicitDefEqProofs only [go_sem, *])
  |(with_reducible refine ai ?_ ?_)
 all_goals first|(simp_all;done)|omega|skip
abbrev aR (xs:lL):AV:=.arr ⟨1,false⟩ (xs.map aM)
abbrev sy (l:lL):AV:=.agg [aR l]
theorem vd (xs ys:lL) (h:xs.length<=9223372036854775807) (h2:∀x∈xs,x.length<=9223372036854775807):Fn pG 34 [aR xs,aR ys] true (· =eB (decide (xs=ys))):=by
 refine Fn.av 27 [.tmp 4] func34 (hv:= ?_);simp -dsimp -implicitDefEqProofs only [go_sem];repeat' (refine Br.intro (fun _=> ?_) (fun _=> ?_)<;>try simp -dsimp -implicitDefEqProofs only [go_sem, *])
 . rw [decide_eq_false];intro e;subst e;simp_all
 have h1:xs.length=ys.length:=by simp_all<;>omega
 refine ak.up [0,1] [13,25] [] xs.length (fun i=>xs.take i=ys.take i) (fun i=>[(5,eI i)]) (fun _=>[]) rfl ?_ rfl (fun i hi hI=> ?_) (fun hI=> ?_)
 . simp -dsimp -implicitDefEqProofs only [go_sem]
 . have hx:=h2 xs[i] (dD hi);simp -dsimp -implicitDefEqProofs only [pz,↓reduceIte,aT];have hy:i<ys.length:=by omega
   have no:xs[i]≠ys[i]->decide (xs=ys)=false:=Kf hi hy;have yes:xs[i]=ys[i]->xs.take (i+1)=ys.take (i+1):=C8 hi hy hI;simp -dsimp -implicitDefEqProofs only [go_sem,aG hi]
   repeat' first
    |(refine Br.intro (fun _=> ?_) (fun _=> ?_)<;>try simp -dsimp -implicitDefEqProofs only [go_sem, *])
    |(with_reducible refine ai ?_ ?_)
    |(refine ak.draw mixed rfl ?_;simp -dsimp -implicitDefEqProofs only [go_sem,get_some hi,get_some hy])
    |(refine an (IB xs[i] ys[i] hx) ?_;try simp -dsimp -implicitDefEqProofs only [go_sem, *])
   all_goals first
    |omega
    |(refine ⟨?_,?_⟩<;>omega)
    |rfl
    |(rw [no];clear no yes;simp_all;done)
    |(refine yes ?_;clear no yes;simp_all;done)
    |skip
 simp -dsimp -implicitDefEqProofs only [pz,↓reduceIte,aT];simp -dsimp -implicitDefEqProofs only [go_sem,aC];have h3:xs=ys:=by rw [←aY (l:=xs),hI,h1,aY]
 simp [h3]
def FT (k:Int) (ns:lN) (j:Nat):lI:=cY (k+(ns.take j).sum) (ns.getD j 0)
def fD (k:Int) (ns:lN):lL:=(cf ns.length).map (FT k ns)
theorem FU (ns:lN) (i:Nat) (h:i<ns.length):(ns.take (i+1)).sum=(ns.take i).sum+ns[i]:=by rw [bg h,List.sum_append];simp
theorem P3 (ns:lN) (i:Nat):(ns.take i).sum<=ns.sum:=by
 have:ns.sum=(ns.take i).sum+(ns.drop i).sum:=by rw [←List.sum_append,List.take_append_drop]
 omega
theorem ql (xs:lL) (k:Int) (v:Nat) (hk:0<=k/\k<=100000000000) (h:xs.length<=1000000000) (h2:(xs.map List.length).sum<=1000000000):
 pw pG 35 [.row v ⟨1,false⟩ true (xs.map aM)] [.ref 1000000000 v 0 xs.length,eI k]
  (fun x io=>x=eI (k+(xs.map List.length).sum)/\io=[.row v ⟨1,false⟩ true ((fD k (xs.map List.length)).map aM)]):=by
 refine pw.av 19 [.tmp 4] func35 (hv:= ?_);simp -dsimp -implicitDefEqProofs only [go_sem];refine ak.up [0] [8,17] [1000000000] xs.length (fun _=>True) (fun i=>[(5,eI i),(1,eI (k+((xs.map List.length).take i).sum))]) (fun i=>[(1000000000,.row v ⟨1,false⟩ true (Iz (fun j=>aM (FT k (xs.map List.length) j)) (xs.map aM) i))]) trivial ?_ rfl (fun i hi _=> ?_) (fun _=> ?_)
 . simp -dsimp -implicitDefEqProofs only [go_sem,FO,List.take_zero,List.sum_nil];simp
 . have hi2:i<(xs.map aM).length:=by simpa using hi
   have hi3:i<(xs.map List.length).length:=by simpa using hi
   have g0:=Kd (fun j=>aM (FT k (xs.map List.length) j)) (xs.map aM) i hi2;have g1:=Ke (fun j=>aM (FT k (xs.map List.length) j)) (xs.map aM) i hi2;have s1:=FU (xs.map List.length) i hi3;have s2:=P3 (xs.map List.length) (i+1);rw [uq9] at g0 s1;have hr:FT k (xs.map List.length) i=cY (k+((xs.map List.length).take i).sum) xs[i].length:=by rw [FT,uq6,uq7 hi3,uq9];rfl
   simp -dsimp -implicitDefEqProofs only [pz,bC,bD,bx,↓reduceIte,aT];simp -dsimp -implicitDefEqProofs only [go_sem,aG hi,g0];with_reducible and_intros
   all_goals first
    |omega
    |skip
   intro u;refine Lp 1000000000 rfl g0 rfl (Da xs[i] (k+((xs.map List.length).take i).sum) 0 true (by omega) (by omega)) (by simp) (by simp [cY]) ?_;rw [show (AV.arr ⟨1,false⟩ ((cY (k+((xs.map List.length).take i).sum) xs[i].length).map eI))=aM (FT k (xs.map List.length) i) by rw [hr]];simp -dsimp -implicitDefEqProofs only [go_sem,g1];with_reducible and_intros
   all_goals first
    |(refine ⟨?_,?_⟩<;>omega)
    |(simp;done)
    |(simp only [Value.int.injEq,true_and];omega)
    |skip
 simp -dsimp -implicitDefEqProofs only [pz,bC,bD,bx,↓reduceIte,aT];simp -dsimp -implicitDefEqProofs only [go_sem,aC,Kc _ _ _ (show (xs.map aM).length<=xs.length by simp)]
 all_goals first
  |(simp [fD,List.map_map,Function.comp_def];done)
  |skip
theorem qm (ns:lN) (k:Int) (hk:0<=k/\k<=100000000000) (h:ns.length<=1000000000) (h2:ns.sum<=1000000000):
 Fn pG 36 [aR (fD k ns),eI k] true (· =eI (k+ns.sum)):=by
 refine Fn.av 21 [.tmp 4] func36 (hv:= ?_);simp -dsimp -implicitDefEqProofs only [go_sem];have hl:(fD k ns).length=ns.length:=by simp [fD]
 refine ak.up [0] [8,17] [] ns.length (fun _=>True) (fun i=>[(5,eI i),(1,eI (k+(ns.take i).sum))]) (fun _=>[]) trivial ?_ rfl (fun i hi _=> ?_) (fun _=> ?_)
 . simp -dsimp -implicitDefEqProofs only [go_sem,List.take_zero,List.sum_nil];simp
 . have g0:(fD k ns)[i]? =some (cY (k+(ns.take i).sum) ns[i]):=by simp [fD,FT,hi]
   have s1:=FU ns i hi;have s2:=P3 ns (i+1);simp -dsimp -implicitDefEqProofs only [pz,↓reduceIte,aT];simp -dsimp -implicitDefEqProofs only [go_sem,hl,aG hi,g0];refine ⟨⟨by omega,by omega⟩,?_⟩;refine ab (Db ns[i] (k+(ns.take i).sum) (by omega) (by omega)) ?_;simp -dsimp -implicitDefEqProofs only [go_sem]
   repeat' first
    |(refine Br.intro (fun _=> ?_) (fun _=> ?_)<;>try simp -dsimp -implicitDefEqProofs only [go_sem, *])
    |(with_reducible refine ai ?_ ?_)
   all_goals first
    |(refine ⟨?_,?_⟩<;>omega)
    |(simp;done)
    |(simp_all;omega)
    |skip
 simp -dsimp -implicitDefEqProofs only [pz,↓reduceIte,aT];simp -dsimp -implicitDefEqProofs only [go_sem,hl,aC];rw [aY]
structure aL where
 ah:Int
 aq:Int
 step:Int
 same:Int
 least:Int
 deriving DecidableEq
abbrev kV (m:aL):AV:=.agg [eI m.ah,eI m.aq,eI m.step,eI m.same,eI m.least]
theorem Mw (t u:aL):Fn pG 33 [kV t,kV u] true (· =eB (decide (t=u))):=by
 refine Fn.av 30 [.tmp 4] func33 (hv:= ?_);simp -dsimp -implicitDefEqProofs only [go_sem];repeat' (refine Br.intro (fun _=> ?_) (fun _=> ?_)<;>try simp -dsimp -implicitDefEqProofs only [go_sem, *])
 all_goals (cases t;cases u;simp_all)
def a6 (m:aL):Bool:=bF m.ah 2 6&&bF m.aq 2 8&&bF m.step 1 (m.aq-1)&&bF m.same 1 m.ah&&bF m.least 1 (if m.aq<m.ah then m.aq else m.ah)
theorem aO {m:aL} (h:a6 m=true):(2<=m.ah/\m.ah<=6)/\2<=m.aq/\m.aq<=8:=by simp [a6,bF] at h;omega
theorem fE (m:aL):Fn pG 51 [kV m] true (· =eB (a6 m)):=by
 refine Fn.av 36 [.tmp 2] func51 (hv:= ?_);simp -dsimp -implicitDefEqProofs only [go_sem]
 repeat' first
  |(refine Br.intro (fun _=> ?_) (fun _=> ?_)<;>try simp -dsimp -implicitDefEqProofs only [go_sem, *])
  |(with_reducible refine ai ?_ ?_)
  |(refine ab (jF _ _ _) ?_;try simp -dsimp -implicitDefEqProofs only [go_sem, *])
 all_goals first
  |(simp_all [a6,bF,kx];done)
  |(simp_all [a6,bF,kx];omega)
  |skip
theorem eR (m:aL):Fn pG 48 [kV m] true (· =eB (a6 m)):=by
 refine Fn.av 36 [.tmp 2] func48 (hv:= ?_);simp -dsimp -implicitDefEqProofs only [go_sem]
 repeat' first
  |(refine Br.intro (fun _=> ?_) (fun _=> ?_)<;>try simp -dsimp -implicitDefEqProofs only [go_sem, *])
  |(with_reducible refine ai ?_ ?_)
  |(refine ab (kU _ _ _) ?_;try simp -dsimp -implicitDefEqProofs only [go_sem, *])
 all_goals first
  |(simp_all [a6,bF,kx];done)
  |(simp_all [a6,bF,kx];omega)
  |skip
def eU (xs:lI) (n:Int) (i:Nat):Bool:=decide (0<=xs.getD i 0)&&decide (xs.getD i 0<n)&&(i==0||decide (xs.getD (i-1) 0<xs.getD i 0))
def lP (xs:lI) (n:Int):Bool:=(cf xs.length).all (eU xs n)
theorem IC (xs:lI) (n:Int) (h:xs.length<=9223372036854775807):Fn pG 196 [aM xs,eI n] true (· =eB (lP xs n)):=by
 refine Fn.av 41 [.tmp 4] func196 (hv:= ?_);simp -dsimp -implicitDefEqProofs only [go_sem];refine ak.up [0,1] [8] [] xs.length (fun i=>(cf i).all (eU xs n)) (fun i=>[(5,eI i)]) (fun _=>[]) (by simp) ?_ rfl (fun i hi hI=> ?_) (fun hI=> ?_)
 . simp -dsimp -implicitDefEqProofs only [go_sem]
 . have no:eU xs n i=false->lP xs n=false:=b9 hi;have yes:eU xs n i=true->(cf (i+1)).all (eU xs n)=true:=fun h=>by rw [bn,hI,h];rfl
   have hi':i-1<xs.length:=by omega
   have gi:=get_some hi;have li:=aG hi;by_cases hi0:0<i
   rotate_left
   . have g3:decide ((i:Int)>0)=false:=by simp;omega
     simp -dsimp -implicitDefEqProofs only [pz,↓reduceIte,aT];simp -dsimp -implicitDefEqProofs only [go_sem,aG hi]
     repeat' first
      |(refine Br.intro (fun _=> ?_) (fun _=> ?_)<;>try simp -dsimp -implicitDefEqProofs only [go_sem, *])
      |(with_reducible refine ai ?_ ?_)
      |(refine ak.draw mixed rfl ?_;simp -dsimp -implicitDefEqProofs only [go_sem,get_some hi])
     all_goals first
      |omega
      |(refine ⟨?_,?_⟩<;>omega)
      |(simp;done)
      |rfl
      |(rw [no];clear no yes;simp_all [eU];done)|(rw [no];clear no yes;simp_all [eU];omega)
      |(rw [←cH];refine yes ?_;clear no yes;simp_all [eU];done)
      |skip
   have g2:xs[((i:Int)-1).toNat]? =some xs[i-1]:=by rw [pred_toNat hi0];exact get_some hi'
   have g3:decide ((i:Int)>0)=true:=by simp;omega
   simp -dsimp -implicitDefEqProofs only [pz,↓reduceIte,aT];simp -dsimp -implicitDefEqProofs only [go_sem,aG hi]
   repeat' first
    |(refine Br.intro (fun _=> ?_) (fun _=> ?_)<;>try simp -dsimp -implicitDefEqProofs only [go_sem, *])
    |(with_reducible refine ai ?_ ?_)
    |(refine ak.draw mixed rfl ?_;simp -dsimp -implicitDefEqProofs only [go_sem,get_some hi])
   all_goals first
    |omega
    |(refine ⟨?_,?_⟩<;>omega)
    |(simp;done)
    |rfl|(rw [no];clear no yes;simp_all [eU];omega)
    |(rw [←cH];refine yes ?_;clear no yes;simp_all [eU];done)
    |skip
 simp -dsimp -implicitDefEqProofs only [pz,↓reduceIte,aT];simp -dsimp -implicitDefEqProofs only [go_sem,aC];rw [lP,hI]
theorem ID (xs:lI) (n:Int) (h:xs.length<=9223372036854775807):Fn pG 259 [aM xs,eI n] true (· =eB (lP xs n)):=by
 refine Fn.av 35 [.tmp 4] func259 (hv:= ?_);simp -dsimp -implicitDefEqProofs only [go_sem];refine ak.up [0,1,7,8] [] [] xs.length (fun i=>(cf i).all (eU xs n)) (fun i=>[(9,eI i)]) (fun _=>[]) (by simp) ?_ rfl (fun i hi hI=> ?_) (fun hI=> ?_)
 . simp -dsimp -implicitDefEqProofs only [go_sem]
 . have no:eU xs n i=false->lP xs n=false:=b9 hi;have yes:eU xs n i=true->(cf (i+1)).all (eU xs n)=true:=fun h=>by rw [bn,hI,h];rfl
   have hi':i-1<xs.length:=by omega
   have gi:=get_some hi;have li:=aG hi;by_cases hi0:0<i
   rotate_left
   . have g3:decide ((i:Int)>0)=false:=by simp;omega
     simp -dsimp -implicitDefEqProofs only [pz,↓reduceIte,aT];simp -dsimp -implicitDefEqProofs only [go_sem,aG hi,get_some hi]
     repeat' first
      |(refine Br.intro (fun _=> ?_) (fun _=> ?_)<;>try simp -dsimp -implicitDefEqProofs only [go_sem, *])
      |(with_reducible refine ai ?_ ?_)
     all_goals first
      |omega
      |(refine ⟨?_,?_⟩<;>omega)
      |(simp;done)
      |(rw [no];clear no yes;simp_all [eU];done)|(rw [no];clear no yes;simp_all [eU];omega)
      |(rw [←cH];refine yes ?_;clear no yes;simp_all [eU];done)
      |skip
   have g2:xs[((i:Int)-1).toNat]? =some xs[i-1]:=by rw [pred_toNat hi0];exact get_some hi'
   have g3:decide ((i:Int)>0)=true:=by simp;omega
   simp -dsimp -implicitDefEqProofs only [pz,↓reduceIte,aT];simp -dsimp -implicitDefEqProofs only [go_sem,aG hi,get_some hi]
   repeat' first
    |(refine Br.intro (fun _=> ?_) (fun _=> ?_)<;>try simp -dsimp -implicitDefEqProofs only [go_sem, *])
    |(with_reducible refine ai ?_ ?_)
   all_goals first
    |omega
    |(refine ⟨?_,?_⟩<;>omega)
    |(simp;done)|(rw [no];clear no yes;simp_all [eU];omega)
    |(rw [←cH];refine yes ?_;clear no yes;simp_all [eU];done)
    |skip
 simp -dsimp -implicitDefEqProofs only [pz,↓reduceIte,aT];simp -dsimp -implicitDefEqProofs only [go_sem,aC];rw [lP,hI]
def has (xs:lI) (x:Int):Bool:= !(xs.all fun y=> !(y==x))
theorem FV (xs:lI) (x:Int) (h:xs.length<=1048576):Fn pG 134 [aM xs,eI x] true (· =eB (has xs x)):=by
 refine Fn.av 18 [.tmp 4] func134 (hv:= ?_);simp -dsimp -implicitDefEqProofs only [go_sem];refine ak.up [0,1] [8] [] xs.length (fun i=>(xs.take i).all (fun y=> !(y==x))) (fun i=>[(5,eI i)]) (fun _=>[]) (by simp) ?_ rfl (fun i hi hI=> ?_) (fun hI=> ?_)
 . simp -dsimp -implicitDefEqProofs only [go_sem]
 . simp -dsimp -implicitDefEqProofs only [pz,↓reduceIte,aT];have gi:=get_some hi;have li:=aG hi;have no:(!(xs[i]==x))=false->(xs.all fun y=> !(y==x))=false:=fun h=>by simp [gQ (p:=fun y=> !(y==x)) hi h]
   have yes:(!(xs[i]==x))=true->((xs.take (i+1)).all (fun y=> !(y==x)))=true:=fun h=>by rw [dy _ _ _ hi,hI];simpa using h
   simp -dsimp -implicitDefEqProofs only [go_sem,li,gi]
   repeat' first
    |(refine Br.intro (fun _=> ?_) (fun _=> ?_)<;>try simp -dsimp -implicitDefEqProofs only [go_sem, *])
    |(with_reducible refine ai ?_ ?_)
   all_goals first
    |omega
    |(refine ⟨?_,?_⟩<;>omega)
    |(simp;done)
    |(rw [has,no (by rw [‹(xs[i]==x)=true›];rfl)];rfl)
    |skip
 simp -dsimp -implicitDefEqProofs only [pz,↓reduceIte,aT];simp -dsimp -implicitDefEqProofs only [go_sem,aC];rw [aY] at hI;(simp_all [has];done)
theorem Tj (xs:lI) (x:Int) (h:xs.length<=1048576):Fn pG 240 [aM xs,eI x] true (fun r=>∃n:Int,r=eI n/\decide (n≥0)=has xs x):=by
 refine Fn.dM 19 [.tmp 4] func240 (hv:= ?_);simp -dsimp -implicitDefEqProofs only [go_sem];refine ak.up [0,1,7] [] [] xs.length (fun i=>(xs.take i).all (fun y=> !(y==x))) (fun i=>[(8,eI i)]) (fun _=>[]) (by simp) ?_ rfl (fun i hi hI=> ?_) (fun hI=> ?_)
 . simp -dsimp -implicitDefEqProofs only [go_sem]
 . simp -dsimp -implicitDefEqProofs only [pz,↓reduceIte,aT];have no:(!(xs[i]==x))=false->has xs x=true:=fun h=>by simp [has,gQ (p:=fun y=> !(y==x)) hi h]
   have yes:(!(xs[i]==x))=true->((xs.take (i+1)).all (fun y=> !(y==x)))=true:=fun h=>by rw [dy _ _ _ hi,hI];simpa using h
   have gi:=get_some hi;simp -dsimp -implicitDefEqProofs only [go_sem,aG hi,get_some hi]
   repeat' first
    |(refine Br.intro (fun _=> ?_) (fun _=> ?_)<;>try simp -dsimp -implicitDefEqProofs only [go_sem, *])
    |(with_reducible refine ai ?_ ?_)
   all_goals first
    |omega
    |(refine ⟨?_,?_⟩<;>omega)
    |rfl
    |(refine ⟨_,rfl,?_⟩;rw [no];· simp
      clear no yes;simp_all)
    |(refine yes ?_;rw [BEq.comm,‹(x==xs[i])=false›];rfl)
    |skip
 simp -dsimp -implicitDefEqProofs only [pz,↓reduceIte,aT];simp -dsimp -implicitDefEqProofs only [go_sem,aC];rw [aY] at hI;exact ⟨_,rfl,by rw [has,hI];rfl⟩
theorem qK (xs:lI) (x:Int) (h:xs.length<=1048576):Fn pG 187 [aM xs,eI x] true (· =eB (has xs x)):=by refine Fn.av 9 [.tmp 4] func187 (hv:= ?_);simp -dsimp -implicitDefEqProofs only [go_sem];refine wW (Tj xs x h) ?_;rintro _ ⟨n,rfl,hn⟩;simp -dsimp -implicitDefEqProofs only [go_sem];rw [←hn]
abbrev jR (m:aL) (t:lL):AV:=.agg [eI m.ah,eI m.aq,eI m.step,eI m.same,eI m.least,aR t]
def gu (n:Nat) (r:lI):Bool:=(r.length==n)&&decide (1<=r.length)&&decide (r.length<=12)&&r.all fun x=>bF x 0 1
def iJ (t:lL):Bool:=decide (1<=t.length)&&decide (t.length<=10)&&t.all (gu (t.getD 0 []).length)
theorem Kh {t:lL} {i:Nat} (hi:i<t.length) (h:gu (t.getD 0 []).length t[i]=false):iJ t=false:=by rw [iJ,gQ hi h];simp
theorem mR {t:lL} (h:iJ t=true):1<=t.length/\t.length<=10/\1<=(t.getD 0 []).length/\(t.getD 0 []).length<=12/\∀i (hi:i<t.length),t[i].length=(t.getD 0 []).length:=by
 simp only [iJ,uq3,decide_eq_true_eq] at h;have hr:∀i (hi:i<t.length),gu (t.getD 0 []).length t[i]=true:=fun i hi=>uq5.1 h.2 _ (dD hi);have h0:=hr 0 (by omega);have e:t.getD 0 []=t[0]'(by omega):=by simp [uq6,show 0<t.length by omega]
 simp only [gu,uq3,decide_eq_true_eq,beq_iff_eq] at h0 hr;rw [←e] at h0;exact ⟨h.1.1,h.1.2,h0.1.1.2,h0.1.2,fun i hi=>(hr i hi).1.1.1⟩
theorem qL (t:lL) (h:t.length<=1048576) (h2:∀x∈t,x.length<=1048576):Fn pG 49 [aR t] true (· =eB (iJ t)):=by
 refine Fn.av 42 [.tmp 2] func49 (hv:= ?_);simp -dsimp -implicitDefEqProofs only [go_sem];refine ak.up [0,5,6] [12,16,20,25,30] [] t.length (fun i=>(t.take i).all (gu (t.getD 0 []).length)) (fun i=>[(7,eI i)]) (fun _=>[]) (by simp) ?_ rfl (fun i hi hI=> ?_) (fun hI=> ?_)
 . simp -dsimp -implicitDefEqProofs only [go_sem]
 . have h00:0<t.length:=by omega
   have g0:=get_some h00;have gd:t.getD 0 []=t[0]:=by simp [uq6,h00]
   have hx:=h2 t[i] (dD hi);have hx0:=h2 t[0] (dD h00);have gi:=get_some hi;have li:=aG hi;have no:gu t[0].length t[i]=false->iJ t=false:=fun h=>Kh hi (by rw [gd];exact h);have yes:gu t[0].length t[i]=true->(t.take (i+1)).all (gu (t.getD 0 []).length)=true:=fun h=>by rw [dy _ _ _ hi,hI,gd,h];rfl
   clear gd;simp -dsimp -implicitDefEqProofs only [pz,↓reduceIte,aT];simp -dsimp -implicitDefEqProofs only [go_sem,li,gi,g0]
   repeat' first
    |(refine Br.intro (fun _=> ?_) (fun _=> ?_)<;>try simp -dsimp -implicitDefEqProofs only [go_sem, *])
    |(with_reducible refine ai ?_ ?_)
    |(refine ab (oX t[i] 0 1 (by omega)) ?_;try simp -dsimp -implicitDefEqProofs only [go_sem, *])
   all_goals first
    |omega
    |(refine ⟨?_,?_⟩<;>omega)
    |rfl
    |(rw [no];clear no yes;simp_all [gu];done)|(rw [no];clear no yes;simp_all [gu];omega)|(refine yes ?_;clear no yes;simp_all [gu];omega)
    |skip
 simp -dsimp -implicitDefEqProofs only [pz,↓reduceIte,aT];simp -dsimp -implicitDefEqProofs only [go_sem,aC];rw [aY] at hI;repeat' (refine Br.intro (fun _=> ?_) (fun _=> ?_)<;>try simp -dsimp -implicitDefEqProofs only [go_sem, *])
 all_goals first
  |(rename_i hx
    have h3:1<=t.length:=by have:=oT hx;omega
    have h4:decide ((t.length:Int)<=10)=decide (t.length<=10):=by rw [decide_eq_decide];omega
    rw [iJ,hI,decide_eq_true h3,h4,Bool.true_and,Bool.and_true])
  |(rename_i hx
    have h3:¬1<=t.length:=by have:=of_decide_eq_false hx;omega
    rw [iJ,decide_eq_false h3];rfl)
  |skip
theorem qM (t:lL) (h:t.length<=1048576) (h2:∀x∈t,x.length<=1048576):Fn pG 53 [aR t] true (· =eB (iJ t)):=by
 refine Fn.av 52 [.tmp 2] func53 (hv:= ?_);simp -dsimp -implicitDefEqProofs only [go_sem]
 repeat' first
  |(refine Br.intro (fun _=> ?_) (fun _=> ?_)<;>try simp -dsimp -implicitDefEqProofs only [go_sem, *])
  |(refine ab (jF _ _ _) ?_;try simp -dsimp -implicitDefEqProofs only [go_sem, *])
 all_goals try ((simp_all [iJ,bF];omega))
 rename_i hl;refine ak.up [0] [11,19,23,30,31,39,50] [] t.length (fun i=>(t.take i).all (gu (t.getD 0 []).length)) (fun i=>[(3,eI i)]) (fun _=>[]) (by simp) ?_ rfl (fun i hi hI=> ?_) (fun hI=> ?_)
 . simp -dsimp -implicitDefEqProofs only [go_sem]
 . have h00:0<t.length:=by omega
   have g0:=get_some h00;have gd:t.getD 0 []=t[0]:=by simp [uq6,h00]
   have hx:=h2 t[i] (dD hi);have hx0:=h2 t[0] (dD h00);have gi:=get_some hi;have li:=aG hi;have no:gu t[0].length t[i]=false->iJ t=false:=fun h=>Kh hi (by rw [gd];exact h);have yes:gu t[0].length t[i]=true->(t.take (i+1)).all (gu (t.getD 0 []).length)=true:=fun h=>by rw [dy _ _ _ hi,hI,gd,h];rfl
   clear gd hI;simp -dsimp -implicitDefEqProofs only [pz,↓reduceIte,aT];simp -dsimp -implicitDefEqProofs only [go_sem,li]
   repeat' first
    |(refine Br.intro (fun _=> ?_) (fun _=> ?_)<;>try simp -dsimp -implicitDefEqProofs only [go_sem, *])
    |(with_reducible refine ai ?_ ?_)
    |(refine ak.draw mixed rfl ?_;try simp -dsimp -implicitDefEqProofs only [go_sem, *])
    |(refine an (jF _ _ _) ?_;try simp -dsimp -implicitDefEqProofs only [go_sem, *])
   all_goals try (first|omega|rfl|(rw [no];clear no yes;simp_all [gu,bF];omega))
   refine ak.up [0,3] [39,50] [] t[i].length (fun j=>(t[i].take j).all (fun x=>bF x 0 1)) (fun j=>[(4,eI j)]) (fun _=>[]) (by simp) ?_ rfl (fun j hj hJ=> ?_) (fun hJ=> ?_)
   . simp -dsimp -implicitDefEqProofs only [go_sem]
   . have gj:=get_some hj;have lj:=aG hj;have no1:bF t[i][j] 0 1=false->iJ t=false:=fun h=>no (by rw [gu,gQ (p:=fun x=>bF x 0 1) hj h];simp);have yes1:bF t[i][j] 0 1=true->(t[i].take (j+1)).all (fun x=>bF x 0 1)=true:=fun h=>by rw [dy _ _ _ hj,hJ,h];rfl
     clear no yes;simp -dsimp -implicitDefEqProofs only [pz,↓reduceIte,aT];simp -dsimp -implicitDefEqProofs only [go_sem,gi,gj,lj]
     repeat' first
      |(refine Br.intro (fun _=> ?_) (fun _=> ?_)<;>try simp -dsimp -implicitDefEqProofs only [go_sem, *])
      |(with_reducible refine ai ?_ ?_)
      |(refine ab (jF _ _ _) ?_;try simp -dsimp -implicitDefEqProofs only [go_sem, *])
     all_goals first
      |omega
      |(refine ⟨?_,?_⟩<;>omega)
      |rfl
      |(rw [no1];clear no1 yes1;simp_all;done)
      |(refine yes1 ?_;clear no1 yes1;simp_all;done)
      |skip
   simp -dsimp -implicitDefEqProofs only [pz,↓reduceIte,aT];rw [aY] at hJ;simp -dsimp -implicitDefEqProofs only [go_sem,gi,aC];with_reducible and_intros
   all_goals first
    |omega
    |(refine ⟨?_,?_⟩<;>omega)
    |rfl
    |(refine yes ?_;clear no yes;simp_all [gu,bF];omega)
    |skip
 simp -dsimp -implicitDefEqProofs only [pz,↓reduceIte,aT];simp -dsimp -implicitDefEqProofs only [go_sem,aC];rw [aY] at hI;(simp_all [iJ,bF];omega)
def eH (t:lL) (k:Nat):Bool:=t.any fun r=>r.getD k 0==1
def iD (t:lL):Bool:=(cf (t.getD 0 []).length).all (eH t)
def eV (m:aL) (t:lL):Bool:=a6 m&&iJ t&&iD t
theorem iW {m:aL} {t:lL} (h:eV m t=true):1<=t.length/\t.length<=10/\1<=(t.getD 0 []).length/\(t.getD 0 []).length<=12/\∀i (hi:i<t.length),t[i].length=(t.getD 0 []).length:=by simp only [eV,uq3] at h;exact mR h.1.2
theorem yq {α:Type} (p:α->Bool) (xs:List α) (i:Nat) (h:i<xs.length):(xs.take (i+1)).any p=((xs.take i).any p||p xs[i]):=by rw [bg h,List.any_append];simp
def js (t:lL) (k:Nat):lI:=vJ (fun i=>(t.getD i []).getD k 0==1) t.length
theorem IE (t:lL) (k:Nat):decide (((js t k).length:Int)=0)= !eH t k:=by
 have key:∀n,n<=t.length->((vJ (fun i=>(t.getD i []).getD k 0==1) n)=[]↔(t.take n).any (fun r=>r.getD k 0==1)=false):=by
  intro n;induction n with
  |zero=>intro _;simp [oW]
  |succ n ih=>
   intro hn;have h1:=ih (by omega);have e:t.getD n []=t[n]:=by simp [uq6,show n<t.length by omega]
   rw [mQ,yq _ _ _ (show n<t.length by omega),Bool.or_eq_false_iff,←h1,e];cases hc:(t[n].getD k 0==1)<;>simp
 have h1:=key t.length (aP _);rw [aY] at h1;have h2:(((js t k).length:Int)=0)↔js t k=[]:=by rw [←List.length_eq_zero_iff];omega
 cases hd:eH t k with
 |true=>
  rw [Bool.not_true];refine dF fun e=> ?_;have:=h1.1 (h2.1 e);rw [show eH t k=t.any fun r=>r.getD k 0==1 from rfl,this] at hd;cases hd
 |false=>
  rw [Bool.not_false];exact dT (h2.2 (h1.2 hd))
theorem BK (m:aL) (t:lL) (k:Nat) (h:t.length<=1048576) (hk:∀i (hi:i<t.length),k<t[i].length):Fn pG 213 [jR m t,eI k] true (· =aM (js t k)):=by
 refine Fn.av 28 [.tmp 4] func213 (hv:= ?_);simp -dsimp -implicitDefEqProofs only [go_sem];refine ak.up [1,10,11] [24,25] [8] t.length (fun _=>True) (fun i=>[(12,eI i),(5,.ref 8 0 0 (vJ (fun i=>(t.getD i []).getD k 0==1) i).length)]) (fun i=>[(8,.row 0 ⟨1,false⟩ true ((vJ (fun i=>(t.getD i []).getD k 0==1) i).map eI))]) trivial ?_ rfl (fun i hi _=> ?_) (fun _=> ?_)
 . simp -dsimp -implicitDefEqProofs only [go_sem,oW];all_goals simp
 . have hl:=pL (fun i=>(t.getD i []).getD k 0==1) i;have hs:=mQ (fun i=>(t.getD i []).getD k 0==1) i;have hki:=hk i hi;have hp:(t.getD i []).getD k 0=t[i][k]:=by simp [uq6,hi,hki]
   rw [hp] at hs;clear hp;have gi:=get_some hi;have gk:=get_some hki;have li:=aG hi;simp -dsimp -implicitDefEqProofs only [pz,bC,bD,bx,↓reduceIte,aT];rw [hs];clear hs;simp -dsimp -implicitDefEqProofs only [go_sem,li,gi,gk]
   repeat' first
    |(refine Br.intro (fun _=> ?_) (fun _=> ?_)<;>try simp -dsimp -implicitDefEqProofs only [go_sem, *])
    |(with_reducible refine ai ?_ ?_)
   all_goals first
    |omega|(refine ⟨?_,?_⟩<;>omega)|(simp;done)
    |skip
 have hl:=pL (fun i=>(t.getD i []).getD k 0==1) t.length;simp -dsimp -implicitDefEqProofs only [pz,bC,bD,bx,↓reduceIte,aT];simp -dsimp -implicitDefEqProofs only [go_sem,aC];with_reducible and_intros
 all_goals first
  |(simp;done)
  |rfl
  |skip
theorem ve (m:aL) (t:lL) (h:t.length<=1048576) (h2:∀x∈t,x.length<=1048576):Fn pG 212 [jR m t] true (· =eB (eV m t)):=by
 refine Fn.av 28 [.tmp 2] func212 (hv:= ?_);rcases hb:(a6 m&&iJ t) with _|_
 . simp -dsimp -implicitDefEqProofs only [go_sem]
   repeat' first
    |(refine Br.intro (fun _=> ?_) (fun _=> ?_)<;>try simp -dsimp -implicitDefEqProofs only [go_sem, *])
    |(with_reducible refine ai ?_ ?_)
    |(refine ab (eR m) ?_;try simp -dsimp -implicitDefEqProofs only [go_sem, *])
    |(refine ab (qL t h h2) ?_;try simp -dsimp -implicitDefEqProofs only [go_sem, *])
   all_goals first
    |omega
    |(simp_all [eV];done)
    |skip
 obtain ⟨hb1,hb2⟩:=Bool.and_eq_true_iff.1 hb;obtain ⟨n1,n2,n3,n4,n5⟩:=mR hb2;have h00:0<t.length:=by omega
 have g0:=get_some h00;have gd:t.getD 0 []=t[0]:=by simp [uq6,h00]
 rw [gd] at n3 n4 n5;simp -dsimp -implicitDefEqProofs only [go_sem]
 repeat' first
  |(with_reducible refine ai ?_ ?_)
  |(refine ab (eR m) ?_;try simp -dsimp -implicitDefEqProofs only [go_sem, *])
  |(refine ab (qL t h h2) ?_;try simp -dsimp -implicitDefEqProofs only [go_sem, *])
 all_goals try (first|omega|(simp_all;done))
 refine ak.up [1,18] [24,25] [] t[0].length (fun i=>(cf i).all (eH t)) (fun i=>[(19,eI i)]) (fun _=>[]) (by simp) ?_ rfl (fun i hi hI=> ?_) (fun hI=> ?_)
 . simp -dsimp -implicitDefEqProofs only [go_sem]
 . have no:eH t i=false->eV m t=false:=fun h=>by
    have:iD t=false:=by rw [iD,gd];exact b9 hi h
    simp [eV,this]
   have yes:eH t i=true->(cf (i+1)).all (eH t)=true:=fun h=>by rw [bn,hI,h];rfl
   have hr:=IE t i;clear hI gd;simp -dsimp -implicitDefEqProofs only [pz,bC,bD,bx,↓reduceIte,aT];simp -dsimp -implicitDefEqProofs only [go_sem,aG hi]
   repeat' first
    |(refine Br.intro (fun _=> ?_) (fun _=> ?_)<;>try simp -dsimp -implicitDefEqProofs only [go_sem, *])
    |(with_reducible refine ai ?_ ?_)
    |(refine ab (BK m t i h (fun j hj=>by rw [n5 j hj];exact hi)) ?_;try simp -dsimp -implicitDefEqProofs only [go_sem])
   all_goals first
    |(refine ⟨?_,?_⟩<;>omega)
    |rfl
    |(rw [no];clear no yes;simp_all;done)
    |(rw [←cH];refine yes ?_;clear no yes;simp_all;done)
    |skip
 simp -dsimp -implicitDefEqProofs only [pz,bC,bD,bx,↓reduceIte,aT];simp -dsimp -implicitDefEqProofs only [go_sem,aC];(rw [eV,hb1,hb2,iD,gd,hI];rfl)
theorem vf (m:aL) (t:lL) (h:t.length<=1048576) (h2:∀x∈t,x.length<=1048576):Fn pG 188 [jR m t] true (· =eB (eV m t)):=by
 refine Fn.av 46 [.tmp 2] func188 (hv:= ?_);rcases hb:(a6 m&&iJ t) with _|_
 . simp -dsimp -implicitDefEqProofs only [go_sem]
   repeat' first
    |(refine Br.intro (fun _=> ?_) (fun _=> ?_)<;>try simp -dsimp -implicitDefEqProofs only [go_sem, *])
    |(refine ab (fE m) ?_;try simp -dsimp -implicitDefEqProofs only [go_sem, *])
    |(refine ab (qM t h h2) ?_;try simp -dsimp -implicitDefEqProofs only [go_sem, *])
   all_goals first
    |(simp_all [eV];done)
    |skip
 obtain ⟨hb1,hb2⟩:=Bool.and_eq_true_iff.1 hb;obtain ⟨n1,n2,n3,n4,n5⟩:=mR hb2;have h00:0<t.length:=by omega
 have g0:=get_some h00;have gd:t.getD 0 []=t[0]:=by simp [uq6,h00]
 rw [gd] at n3 n4 n5;simp -dsimp -implicitDefEqProofs only [go_sem]
 repeat' first
  |(refine ab (fE m) ?_;try simp -dsimp -implicitDefEqProofs only [go_sem, *])
  |(refine ab (qM t h h2) ?_;try simp -dsimp -implicitDefEqProofs only [go_sem, *])
 refine ak.up [1] [21,28] [] t[0].length (fun i=>(cf i).all (eH t)) (fun i=>[(3,eI i)]) (fun _=>[]) (by simp) ?_ rfl (fun i hi hI=> ?_) (fun hI=> ?_)
 . simp -dsimp -implicitDefEqProofs only [go_sem]
 . have no:eH t i=false->eV m t=false:=fun h=>by
    have:iD t=false:=by rw [iD,gd];exact b9 hi h
    simp [eV,this]
   have yes:eH t i=true->(cf (i+1)).all (eH t)=true:=fun h=>by rw [bn,hI,h];rfl
   clear hI gd;simp -dsimp -implicitDefEqProofs only [pz,bC,bD,bx,↓reduceIte,aT];simp -dsimp -implicitDefEqProofs only [go_sem,aG hi,g0];with_reducible and_intros
   all_goals try (first|omega|(simp;done))
   refine ak.up [1,3] [28] [] t.length (fun _=>True) (fun j=>[(5,eI j),(4,eB ((t.take j).any fun r=>r.getD i 0==1))]) (fun _=>[]) trivial ?_ rfl (fun j hj _=> ?_) (fun _=> ?_)
   . simp -dsimp -implicitDefEqProofs only [go_sem,List.take_zero,List.any_nil]
   . have gj:=get_some hj;have lj:=aG hj;have hij:i<t[j].length:=by rw [n5 j hj];exact hi
     have gij:=get_some hij;have ha:=yq (fun r=>r.getD i 0==1) t j hj;have he:t[j].getD i 0=t[j][i]:=by simp [uq6,hij]
     rw [he] at ha;clear he no yes;simp -dsimp -implicitDefEqProofs only [pz,bC,bD,bx,↓reduceIte,aT];rw [ha];clear ha;simp -dsimp -implicitDefEqProofs only [go_sem,lj]
     repeat' first
      |(refine Br.intro (fun _=> ?_) (fun _=> ?_)<;>try simp -dsimp -implicitDefEqProofs only [go_sem, *])
      |(with_reducible refine ai ?_ ?_)
     all_goals first
      |omega
      |(refine ⟨?_,?_⟩<;>omega)
      |rfl
      |skip
   simp -dsimp -implicitDefEqProofs only [pz,bC,bD,bx,↓reduceIte,aT];simp -dsimp -implicitDefEqProofs only [go_sem,aC];rw [aY];have hd:(t.any fun r=>r.getD i 0==1)=eH t i:=rfl;rw [hd]
   repeat' first
    |(refine Br.intro (fun _=> ?_) (fun _=> ?_)<;>try simp -dsimp -implicitDefEqProofs only [go_sem, *])
    |(with_reducible refine ai ?_ ?_)
   all_goals first
    |(refine ⟨?_,?_⟩<;>omega)
    |rfl
    |(rw [no];clear no yes;simp_all;done)
    |(rw [←cH];refine yes ?_;clear no yes;simp_all;done)
    |skip
 simp -dsimp -implicitDefEqProofs only [pz,bC,bD,bx,↓reduceIte,aT];simp -dsimp -implicitDefEqProofs only [go_sem,aC,g0];with_reducible and_intros
 all_goals first
  |omega
  |(rw [eV,hb1,hb2,iD,gd,hI];rfl)
  |skip
def vg (xs:lI):lI:=Lib.compact (xs.mergeSort fun x y=>decide (x<=y))
theorem FW (zs:lI) (x:Int):x∈Lib.compact zs↔x∈zs:=by
 unfold Lib.compact Lib.compactUpTo;have gi:∀i,i<zs.length->zs.toArray[i]! =zs.getD i 0:=fun i hi=>by simp [uq6,hi]
 constructor
 . intro h;obtain ⟨j,hj,rfl⟩:=bR.1 h;have hj':=cP.1 (bk.1 hj).1;simp [hj']
 intro h;obtain ⟨j,hj,rfl⟩:=bW h;induction j with
 |zero=>exact bR.2 ⟨0,bk.2 ⟨cP.2 hj,by simp [Lib.keeps]⟩,by simp [hj]⟩
 |succ j ih=>
  by_cases e:zs[j+1]=zs[j]
  . rw [e];exact ih (by omega) (dD _)
  refine bR.2 ⟨j+1,bk.2 ⟨cP.2 hj,?_⟩,by simp [hj]⟩;have h1:j<zs.length:=by omega
  simp [Lib.keeps,hj,h1,e]
theorem Dc (zs:lI) (h:zs.Pairwise (· <= ·)):(Lib.compact zs).Pairwise (· < ·):=by
 unfold Lib.compact Lib.compactUpTo;rw [List.pairwise_map];have hs:=List.pairwise_iff_getElem.1 h;refine List.Pairwise.imp_of_mem ?_ ((List.pairwise_lt_range (n:=zs.length)).filter (Lib.keeps zs.toArray));intro i j hi hj hij;have hj':=cP.1 (bk.1 hj).1;have hk:=(bk.1 hj).2;have hi':i<zs.length:=by omega
 have hp:j-1<zs.length:=by omega
 have h1:zs[i]<=zs[j-1]:=by
  rcases Nat.lt_or_ge i (j-1) with hh|hh
  . exact hs i (j-1) _ _ hh
  have:i=j-1:=by omega
  subst this;exact Int.le_refl _
 have h2:=hs (j-1) j hp hj' (by omega);have h3:zs[j]≠zs[j-1]:=by
  have:j≠0:=by omega
  simpa [Lib.keeps,this,hj',hp] using hk
 have e1:zs.toArray[i]! =zs[i]:=by simp [hi']
 have e2:zs.toArray[j]! =zs[j]:=by simp [hj']
 rw [e1,e2];omega
theorem Mx (xs:lI):(xs.mergeSort fun x y=>decide (x<=y)).Pairwise (· <= ·):=by have:=List.pairwise_mergeSort (le:=fun x y:Int=>decide (x<=y)) (by intro a b c h1 h2;simp at*;omega) (by intro a b;simp;omega) xs;exact this.imp fun h=>by simpa using h
theorem P4 (xs:lI) (x:Int):x∈(xs.mergeSort fun x y=>decide (x<=y))↔x∈xs:=List.mem_mergeSort
theorem My (xs:lI) (x:Int):x∈vg xs↔x∈xs:=by rw [vg,FW,P4]
theorem IF (xs:lI):(vg xs).Pairwise (· < ·):=Dc _ (Mx xs)
theorem P5 (xs:lI):vg xs=Lib.compact (xs.mergeSort fun x y=>decide (x<=y)):=rfl
attribute [irreducible] vg
theorem Tk (v:Nat) (zs:lI) (h:zs.length<=1048576):pw pG 257 [.row v ⟨1,false⟩ true (zs.map eI)] [.ref 1000000000 v 0 zs.length] (fun r io=>r= .aZ []/\io=[.row v ⟨1,false⟩ true ((zs.mergeSort fun x y=>decide (x<=y)).map eI)]):=
 pw.Tc ⟨_,_,func257,by rfl,rfl⟩ (fun zs=>zs.mergeSort fun x y=>decide (x<=y)) (fun zs=>List.length_mergeSort zs)
  (fun pt cap zs w hH hb hs=>AnyG.slices_Sort_int Tryz.Kb pt 0 cap zs w hH hb hs) (fun a w=>AnyG.slices_Sort_int_none Tryz.Kb a 0 w) v zs h
theorem jS (zs:lI):(Lib.compact zs).length<=zs.length:=by unfold Lib.compact Lib.compactUpTo;rw [List.length_map];exact fW (List.length_filter_le _ _) (by simp)
theorem VV {d l af n:Nat} {zs:lI} {xt:lA} {m:Mem} {k:AV->Mem->Prop} {q:Pack k} (hlk:aj m l=some (.row af ⟨1,false⟩ true (zs.map eI))) (hn:n=zs.length) (hz:zs.length<=1048576)
 (hk:k (.ref l (af+1) 0 (Lib.compact zs).length) ((l,.row (af+1) ⟨1,false⟩ true ((Lib.compact zs++cL (zs.length-(Lib.compact zs).length) 0).map eI))::m)):
 eQ pG 258 d [.ref l af 0 n] xt m k q:=
 Fx (Lib.compact zs).length ⟨_,_,func258,by rfl,rfl⟩ hlk hn (ys:=Lib.compact zs++cL (zs.length-(Lib.compact zs).length) 0) (by have:=jS zs;simp;omega) (jS zs) hz
  (fun pt cap w hH hc=>AnyG.slices_Compact_int Tryz.nA pt 0 cap zs w hH (by omega) hc) (fun a w=>AnyG.slices_Compact_int_empty Tryz.nA a 0 w) hk
theorem IG {d l af n:Nat} {zs:lI} {xt:lA} {m:Mem} {k:AV->Mem->Prop} {q:Pack k} (hlk:aj m l=some (.row af ⟨1,false⟩ true (zs.map eI))) (hn:n=zs.length) (hz:zs.length<=1048576)
 (hk:k (.ref l (af+1) 0 (Lib.compact zs).length) ((l,.row (af+1) ⟨1,false⟩ true ((Lib.compact zs++cL (zs.length-(Lib.compact zs).length) 0).map eI))::m)):
 iT pG 258 d [.ref l af 0 n] xt m k q:=
 Fy (Lib.compact zs).length ⟨_,_,func258,by rfl,rfl⟩ hlk hn (ys:=Lib.compact zs++cL (zs.length-(Lib.compact zs).length) 0) (by have:=jS zs;simp;omega) (jS zs) hz
  (fun pt cap w hH hc=>AnyG.slices_Compact_int Tryz.nA pt 0 cap zs w hH (by omega) hc) (fun a w=>AnyG.slices_Compact_int_empty Tryz.nA a 0 w) hk
def cT (m:aL) (xs:lI):Bool:=decide (xs.length≠0)&&lP xs m.aq
def fv (m:aL) (l:lL):Bool:=((l.length:Int)==m.ah)&&l.all (cT m)
def Dd (m:aL) (l:lL):Bool:=a6 m&&fv m l
theorem Mz (m:aL) (l:lL) (h:l.length<=1048576) (h2:∀x∈l,x.length<=1048576):Fn pG 146 [kV m,sy l] true (· =eB (Dd m l)):=by
 refine Fn.av 42 [.tmp 4] func146 (hv:= ?_);simp -dsimp -implicitDefEqProofs only [go_sem]
 repeat' first
  |(refine Br.intro (fun _=> ?_) (fun _=> ?_)<;>try simp -dsimp -implicitDefEqProofs only [go_sem, *])
  |(refine ab (fE _) ?_;try simp -dsimp -implicitDefEqProofs only [go_sem, *])
 all_goals try ((simp_all [Dd,fv];done))
 refine ak.up [2,3] [20,29,39] [] l.length (fun i=>(l.take i).all (cT m)) (fun i=>[(5,eI i)]) (fun _=>[]) (by simp) ?_ rfl (fun i hi hI=> ?_) (fun hI=> ?_)
 . simp -dsimp -implicitDefEqProofs only [go_sem]
 . simp -dsimp -implicitDefEqProofs only [pz,bC,bD,bx,↓reduceIte,aT];have gi:=get_some hi;have li:=aG hi;have no:cT m l[i]=false->Dd m l=false:=fun h=>by simp [Dd,fv,gQ (p:=cT m) hi h]
   have yes:cT m l[i]=true->((l.take (i+1)).all (cT m))=true:=fun h=>by rw [dy _ _ _ hi,hI];simpa using h
   simp -dsimp -implicitDefEqProofs only [go_sem,li]
   repeat' first
    |(refine Br.intro (fun _=> ?_) (fun _=> ?_)<;>try simp -dsimp -implicitDefEqProofs only [go_sem, *])
    |(with_reducible refine ai ?_ ?_)
    |(refine an (IC l[i] _ (by have:=h2 l[i] (dD hi);omega)) ?_;try simp -dsimp -implicitDefEqProofs only [go_sem, *])
    |(refine ak.draw mixed rfl ?_;try simp -dsimp -implicitDefEqProofs only [go_sem, *])
   all_goals first
    |omega
    |(refine ⟨?_,?_⟩<;>omega)
    |(simp;done)
    |rfl
    |(rw [no];clear no yes;simp_all [cT];done)|(refine yes ?_;clear no yes;simp_all [cT];done)
    |skip
 simp -dsimp -implicitDefEqProofs only [pz,bC,bD,bx,↓reduceIte,aT];simp -dsimp -implicitDefEqProofs only [go_sem,aC];rw [aY] at hI;(simp_all [Dd,fv];done)
theorem P6 (m:aL) (l:lL) (h:l.length<=1048576) (h2:∀x∈l,x.length<=1048576):Fn pG 215 [kV m,sy l] true (· =eB (fv m l)):=by
 refine Fn.av 31 [.tmp 4] func215 (hv:= ?_);simp -dsimp -implicitDefEqProofs only [go_sem];refine ak.up [2,3,8,9] [15,21] [] l.length (fun i=>(l.take i).all (cT m)) (fun i=>[(10,eI i)]) (fun _=>[]) (by simp) ?_ rfl (fun i hi hI=> ?_) (fun hI=> ?_)
 . simp -dsimp -implicitDefEqProofs only [go_sem]
 . simp -dsimp -implicitDefEqProofs only [pz,bC,bD,bx,↓reduceIte,aT];have gi:=get_some hi;have li:=aG hi;have no:cT m l[i]=false->fv m l=false:=fun h=>by simp [fv,gQ (p:=cT m) hi h]
   have yes:cT m l[i]=true->((l.take (i+1)).all (cT m))=true:=fun h=>by rw [dy _ _ _ hi,hI];simpa using h
   simp -dsimp -implicitDefEqProofs only [go_sem,li,gi]
   repeat' first
    |(refine Br.intro (fun _=> ?_) (fun _=> ?_)<;>try simp -dsimp -implicitDefEqProofs only [go_sem, *])
    |(with_reducible refine ai ?_ ?_)
    |(refine ab (ID l[i] _ (by have:=h2 l[i] (dD hi);omega)) ?_;try simp -dsimp -implicitDefEqProofs only [go_sem, *])
   all_goals first
    |omega
    |(refine ⟨?_,?_⟩<;>omega)
    |(simp;done)
    |(rw [no];clear no yes;simp_all [cT];done)|(refine yes ?_;clear no yes;simp_all [cT];done)
    |skip
 simp -dsimp -implicitDefEqProofs only [pz,bC,bD,bx,↓reduceIte,aT];simp -dsimp -implicitDefEqProofs only [go_sem,aC];rw [aY] at hI;(simp_all [fv];done)
def nF (m:aL) (ls:List lL):Int:=if a6 m&&ls.all (fv m) then 0 else 1
theorem IH {m:aL} {ls:List lL} {i:Nat} (hi:i<ls.length) (h:fv m ls[i]=false):nF m ls=1:=by rw [nF,gQ hi h];simp
theorem FX (m:aL) (l:lL):nF m [l]=if Dd m l then 0 else 1:=by simp [nF,Dd]
theorem FY (m:aL) (ls:List lL) (h0:ls.length<=1048576) (h:∀l∈ls,l.length<=1048576/\∀x∈l,x.length<=1048576):Fn pG 163 [kV m,.arr ⟨1,true⟩ (ls.map sy)] true (· =eI (nF m ls)):=by
 refine Fn.av 21 [.tmp 4] func163 (hv:= ?_);simp -dsimp -implicitDefEqProofs only [go_sem]
 repeat' first
  |(refine Br.intro (fun _=> ?_) (fun _=> ?_)<;>try simp -dsimp -implicitDefEqProofs only [go_sem, *])
  |(refine ab (eR _) ?_;try simp -dsimp -implicitDefEqProofs only [go_sem, *])
 all_goals try ((simp_all [nF];done))
 refine ak.up [2,10,11] [6,18] [] ls.length (fun i=>(ls.take i).all (fv m)) (fun i=>[(12,eI i)]) (fun _=>[]) (by simp) ?_ rfl (fun i hi hI=> ?_) (fun hI=> ?_)
 . simp -dsimp -implicitDefEqProofs only [go_sem]
 . have hx:=h ls[i] (dD hi);have no:=fun h=>IH (m:=m) hi h;have yes:fv m ls[i]=true->((ls.take (i+1)).all (fv m))=true:=fun h=>by rw [dy _ _ _ hi,hI,h];rfl
   simp -dsimp -implicitDefEqProofs only [pz,bC,bD,bx,↓reduceIte,aT];simp -dsimp -implicitDefEqProofs only [go_sem,aG hi,get_some hi]
   repeat' first
    |(refine Br.intro (fun _=> ?_) (fun _=> ?_)<;>try simp -dsimp -implicitDefEqProofs only [go_sem, *])
    |(with_reducible refine ai ?_ ?_)
    |(refine ab (P6 m ls[i] hx.1 hx.2) ?_;try simp -dsimp -implicitDefEqProofs only [go_sem, *])
   all_goals first
    |omega
    |(refine ⟨?_,?_⟩<;>omega)
    |(simp;done)
    |(rw [no];clear no yes;simp_all [];done)|(refine yes ?_;clear no yes;simp_all [];done)
    |skip
 simp -dsimp -implicitDefEqProofs only [pz,bC,bD,bx,↓reduceIte,aT];simp -dsimp -implicitDefEqProofs only [go_sem,aC];rw [aY] at hI;(simp_all [nF];done)
structure Z2 where
 key:Bool
 index:Int
 YR:Int
 deriving DecidableEq,Inhabited
open Go.RowKit
theorem Grown.oY {w w':World} (h:Below w.heap.size w w'):Grown w w':=by obtain ⟨h1,h2,h3,h4,h5⟩:=h;exact ⟨h4,h5,⟨h1,h2,h3⟩⟩
theorem Grown.Tl (w:World) (k:Nat) (os:Array Obj):Grown w (Sort.grow (w.drewN k) os):=
 ⟨by simp [Sort.grow],fun b hb=>Sort.heap_grow_old _ _ (by simpa using hb),⟨rfl,rfl,rfl⟩⟩
theorem Fn.plain {P:Program} {f:FuncId} (us:List Value) {r:AV} (hE:Enters P f)
 (hc:∀(w:World) (S:Nat->Prop),KF w S->Calls P f us.toArray w fun e w'=>∃v fs,e= .returned v/\Grown w w'/\Own w' (fun _=>False) r v fs/\fs.Nodup/\∀b,b∈fs->w.heap.size<=b):
 Fn P f (us.map .val) true (· =r):=by
 refine ⟨hE,fun w S vs _ hk hsz hr=> ?_⟩;have e:vs=us.toArray:=by
  rw [List.length_map] at hsz;apply Array.ext
  . simpa using hsz
  intro i h1 h2;have h3:i<(us.map AV.val).length:=by simpa using h2
  have:=hr i h3;rw [uq9] at this;generalize hu:vs.toList.getD i Go.undef=u at this;cases this;have h4:i<us.length:=by simpa using h2
  have h5:vs.toList.getD i Go.undef=vs[i]:=by simp [uq6,h1]
  rw [←h5,hu];simp
 subst e;refine (hc w S hk).mono ?_;rintro e w' ⟨v,fs,rfl,hg,ho,hn,hb⟩;exact ⟨r,v,rfl,rfl,hg,by simp only [iN,if_true];exact ⟨fs,ho,hn,hb⟩⟩
theorem Fn.VW {P:Program} {f:FuncId} (us:List Value) {post:AV->Prop} (hE:Enters P f)
 (hc:∀(w:World) (S:Nat->Prop),KF w S->Calls P f us.toArray w fun e w'=>∃r v fs,post r/\e= .returned v/\Grown w w'/\Own w' (fun _=>False) r v fs/\fs.Nodup/\∀b,b∈fs->w.heap.size<=b):
 Fn P f (us.map .val) true post:=by
 refine ⟨hE,fun w S vs _ hk hsz hr=> ?_⟩;have e:vs=us.toArray:=by
  rw [List.length_map] at hsz;apply Array.ext
  . simpa using hsz
  intro i h1 h2;have h3:i<(us.map AV.val).length:=by simpa using h2
  have:=hr i h3;rw [uq9] at this;generalize hu:vs.toList.getD i Go.undef=u at this;cases this;have h4:i<us.length:=by simpa using h2
  have h5:vs.toList.getD i Go.undef=vs[i]:=by simp [uq6,h1]
  rw [←h5,hu];simp
 subst e;refine (hc w S hk).mono ?_;rintro e w' ⟨r,v,fs,hp,rfl,hg,ho,hn,hb⟩;exact ⟨r,v,rfl,hp,hg,by simp only [iN,if_true];exact ⟨fs,ho,hn,hb⟩⟩
theorem qN {w:World} {v:Value} (h:v.oneCell'=true):Own w (fun _=>False) (.val v) v []:=.rd _ _ (.val _ h)
theorem cell_of {w:World} {g:Nat} {v:Value} {e:TypeId} {fr:Nat × Nat} (h:w.heap[g]? =some (.cells #[v] e fr)):w.cell? ⟨g,0,none⟩=some v:=by simp [World.cell?,h]
theorem VX {w:World} (xs:lA) (vs:List Value) (hl:vs.length=xs.length) (h:∀i (h:i<xs.length),Own w (fun _=>False) xs[i] (vs.getD i Go.undef) []):Own w (fun _=>False) (.aZ xs) (.tuple vs.toArray) []:=by
 have e:([]:lN)=(cL xs.length ([]:lN)).flatten:=(List.flatten_eq_nil_iff.2 fun l hl=>(List.mem_replicate.1 hl).2).symm;rw [e];refine .aZ xs _ _ (by simpa using hl) (by simp) fun i hi=> ?_;have e3:(cL xs.length ([]:lN)).getD i []=[]:=by simp [uq6,hi]
 rw [e3];exact h i hi
theorem Tm {w:World} {S:Nat→Prop} (h:KF w S):Lib.TabIs pG w "internal/strconv.uint64pow10" .u64 Lib.pow10Tab:=by
 obtain ⟨_,cs,e,fr,h1,h2⟩:=h 5 Ry (by simp [DV]);unfold Lib.TabIs World.var?
 have hg:Tryz.prog.globalNamed "internal/strconv.uint64pow10" =some 5:=by kernel_rfl
 rw [hg,Option.bind_some,h1,show cs=_ from h2];simp [Lib.pow10Tab,Function.comp_def]
theorem FZ {n:Int} (h:kx n):Fn pG 112 [eI n,eI 10] true (· =eS (Lib.itoa n)):=by refine Fn.plain [.int .i64 n,.int .i64 10] ⟨Tryz.f112,_,func112,by decide,rfl⟩ fun w S hk=> ?_;refine (Any.strconv_FormatInt_10 Tryz.Mo n h.1 h.2 w (Tm hk)).mono ?_;rintro e w' ⟨rfl,k,os,rfl⟩;exact ⟨_,[],rfl,Grown.Tl _ _ _,qN rfl,jd,fun b hb=>by cases hb⟩
theorem Grown.P7 (w:World) (e:TypeId) (s:ByteArray):Grown w (Lib.bytesWorld w e s):=Grown.oY (Lib.bytesWorld_below w e s)
theorem Ki {w:World} {S:Nat->Prop} (h:KF w S) (g:Nat) (hg:(g,NI)∈DV):∃t p,w.cell? ⟨g,0,none⟩=some (.iface t p):=by obtain ⟨_,cs,e,fr,h1,t,p,rfl⟩:=h g NI hg;exact ⟨t,p,cell_of h1⟩
def ma (s:lU):Int:=match Lib.parseIntB 64 s with
 | .ok v=>v
 | .range=>Lib.intSat 64 s
 |_=>0
def yt (s:lU):Bool:=match Lib.parseIntB 64 s with
 | .ok _=>true
 |_=>false
theorem II (s:lU) (h:s.length<=1048576):Fn pG 88 [eS s,eI 10,eI 64] true
 (fun x=>∃e,x= .aZ [eI (ma s),.val e]/\if yt s=true then e= .nilIface else ∃t p,e= .iface t p):=by
 refine Fn.VW [.string ⟨s.toArray⟩,.int .i64 10,.int .i64 64] ⟨Tryz.f88,_,func88,by decide,rfl⟩ fun w S hk=> ?_;have hsz:(⟨s.toArray⟩:ByteArray).size=s.length:=pJ s;have tw:∀(w':World) (n:Int) (e:Value),e.oneCell'=true->Own w' (fun _=>False) (.aZ [eI n,.val e]) (.tuple #[.int .i64 n,e]) []:=fun w' n e he=>by
  refine VX [eI n,.val e] [.int .i64 n,e] rfl fun i hi=> ?_;have:i=0\/i=1:=by simp at hi;omega
  rcases this with rfl|rfl
  . exact qN rfl
  exact qN he
 rcases hp:Lib.parseIntB 64 s with v|_|_
 . refine (Any.strconv_ParseInt_10_at64_ok Tryz.yi ⟨s.toArray⟩ (by omega) v (by rw [nD];exact hp) w).mono ?_;rintro e w' ⟨rfl,hw⟩;refine ⟨.aZ [eI v,.val .nilIface],_,[],⟨.nilIface,by simp only [ma,hp],by simp [yt,hp]⟩,rfl,?_,tw _ _ _ rfl,jd,fun b hb=>by cases hb⟩;rcases hw with rfl|⟨t,rfl⟩
   . exact Grown.refl _
   exact Grown.P7 _ _ _
 . obtain ⟨tp,pv,hc⟩:=Ki hk 1 (by simp [DV]);refine (Any.strconv_ParseInt_10_at64_syntax Tryz.yi ⟨s.toArray⟩ (by omega) (by rw [nD];exact hp) _ w hc (.inr ⟨tp,pv,rfl⟩)).mono ?_;rintro e w' ⟨N,rfl,_,_,hb⟩;exact ⟨.aZ [eI 0,.val _],_,[],⟨.iface (Tryz.ny.t 168) (.pointer (some ⟨N,0,none⟩)),by simp only [ma,hp],by simp only [yt,hp];exact ⟨_,_,rfl⟩⟩,rfl,Grown.oY hb,tw _ _ _ rfl,jd,fun b hb=>by cases hb⟩
 obtain ⟨tp,pv,hc⟩:=Ki hk 2 (by simp [DV]);refine (Any.strconv_ParseInt_10_at64_range Tryz.yi ⟨s.toArray⟩ (by omega) (by rw [nD];exact hp) _ w hc (.inr ⟨tp,pv,rfl⟩)).mono ?_;rintro e w' ⟨N,rfl,_,_,hb⟩;exact ⟨.aZ [eI (Lib.intSat 64 s),.val _],_,[],⟨.iface (Tryz.ny.t 168) (.pointer (some ⟨N,0,none⟩)),by simp only [ma,hp],by simp only [yt,hp];exact ⟨_,_,rfl⟩⟩,rfl,Grown.oY hb,tw _ _ _ rfl,jd,fun b hb=>by cases hb⟩
theorem Tn {w:World} {S:Nat->Prop} (h:KF w S) (g:Nat) (hg:(g,Rx)∈DV):∃m,w.cell? ⟨g,0,none⟩=some (.int .i64 m):=by obtain ⟨_,cs,e,fr,h1,m,rfl⟩:=h g Rx hg;exact ⟨m,cell_of h1⟩
theorem P8:(Tryz.prog.info? (Tryz.nz.t 9)).map (fun i=>(i.zero,i.size,i.bytes))=some (some (.string ByteArray.empty),1,16):=by kernel_rfl
theorem jG (c:UInt8):∀(l:lU),(dq c l).length<=l.length+1
 | []=>by simp [dq]
 |b::l=>by
  have:=jG c l;rw [dq];split
  . simp;omega
  split
  . rename_i h t he;rw [he] at this;simp at this ⊢;omega
  simp
theorem Kj (s:lU) (c:UInt8) (h:s.length<=1048576):Fn pG 58 [eS s,eS [c]] true (· =nC (dq c s)):=by
 refine Fn.plain [.string ⟨s.toArray⟩,.string ⟨[c].toArray⟩] ⟨Tryz.f58,_,func58,by decide,rfl⟩ fun w S hk=> ?_;have hsz:(⟨s.toArray⟩:ByteArray).size=s.length:=pJ s;obtain ⟨m,hm⟩:=Tn hk 0 (by simp [DV]);refine (Any.strings_Split Tryz.PU P8 ⟨s.toArray⟩ ⟨[c].toArray⟩ m w (by omega) hm (by show 1<=1;omega)).mono ?_;rintro e w' ⟨rfl,rfl⟩;have hs:=IA c _ s rfl;have hl:(dq c s).length=Lib.countB ⟨s.toArray⟩ ⟨[c].toArray⟩+1:=Mv c _ s rfl;have hle:=jG c s;refine ⟨_,[w.heap.size],rfl,⟨by simp,fun b hb=>JB w _ b hb,⟨rfl,rfl,rfl⟩⟩,?_,by simp,fun b hb=>by simp at hb;omega⟩;rw [←hl,show (⟨#[c]⟩:ByteArray)=⟨[c].toArray⟩ from rfl] at*;have e2:[w.heap.size]=w.heap.size::(cL ((dq c s).map eS).length ([]:lN)).flatten:=by congr 1;exact (List.flatten_eq_nil_iff.2 fun l hl=>(List.mem_replicate.1 hl).2).symm
 rw [e2,hs]
 have:=Own.arr (w:=w.alloc (.cells (((dq c s).map fun a=>(⟨a.toArray⟩:ByteArray)).map Value.string).toArray (Tryz.nz.t 9))) (S:=fun _=>False) ⟨1,false⟩ ((dq c s).map eS) w.heap.size (dq c s).length _ _ (cL ((dq c s).map eS).length []) (nb w _ _)
  (by simp) (by simp) (by unfold maxLen;omega) (by intro i hi;simp [fits]) (by simp) fun i hi=> ?_
 . simpa using this
 have e3:(cL ((dq c s).map eS).length ([]:lN)).getD i []=[]:=by rw [uq6,List.getElem?_replicate];split<;>rfl
 have hi2:i<(dq c s).length:=by simpa using hi
 rw [e3,aW,Nat.mul_one,uq9];have e4:((((dq c s).map fun a=>(⟨a.toArray⟩:ByteArray)).map Value.string).toArray).toList.getD i Go.undef= .string ⟨((dq c s)[i]).toArray⟩:=by simp [uq6,hi2]
 rw [e4];exact qN rfl
theorem To {w:World} {S:Nat->Prop} {xs:List lU} {v:Value} (h:Rd w S (nC xs) v):
 (xs=[]/\∃a,v= .slice a 0 0)\/∃b off cap,v= .slice (some ⟨b,off,none⟩) xs.length cap/\b<w.heap.size/\xs.length<=cap/\∀(j:Nat) x,xs[j]? =some x->w.cell? ⟨b,off+j,none⟩=some (.string ⟨x.toArray⟩):=by
 unfold nC at h;generalize hxs:xs.map eS=ys at h;have hlen:ys.length=xs.length:=by rw [←hxs];simp
 cases h with
 |nil sh a=>exact .inl ⟨List.eq_nil_of_length_eq_zero (by rw [←hlen];rfl),a,rfl⟩
 |arr sh ys b off cap cs e fr hS hb cj hl hf hv=>
  refine .inr ⟨b,off,cap,by rw [hlen],(uq1.1 hb).1,by omega,fun j x hj=> ?_⟩;obtain ⟨hj1,hj2⟩:=uq8.1 hj;have hj3:j<ys.length:=by omega
  have h2:=hv j hj3;have hx:ys[j]=eS x:=by simp [←hxs,hj2]
  rw [hx] at h2;rw [aW,Nat.mul_one] at h2;have h4:cs.toList.getD (off+j) Go.undef= .string ⟨x.toArray⟩:=by generalize cs.toList.getD (off+j) Go.undef=u at h2;cases h2;rfl
  have h5:off+j<cs.size:=by simp only [Nat.mul_one] at hl;omega
  rw [uq6,Array.getElem?_toList,Array.getElem?_eq_getElem h5] at h4;simp only [World.cell?,hb,Option.isSome_none,uq4,↓reduceIte,Array.getElem?_eq_getElem h5];exact congrArg some h4
theorem P9 (xs:List lU) (sep:lU) (h1:xs.length<=1048576) (h2:(Lib.join xs sep).length<=140737488355328):Fn pG 166 [nC xs,eS sep] true (· =eS (Lib.join xs sep)):=by
 refine ⟨⟨Tryz.f166,_,func166,by decide,rfl⟩,fun w S vs hS hk hsz hr=> ?_⟩;obtain ⟨u,v,rfl⟩:∃u v,vs= #[u,v]:=by
  have:vs.size=2:=hsz
  exact ⟨vs[0],vs[1],by apply Array.ext<;>simp_all;intro i h;have:i=0\/i=1:=by omega
                        rcases this with rfl|rfl<;>(intro _;rfl)⟩
 have r0:Rd w S (nC xs) u:=hr 0 (by simp);have r1:Rd w S (eS sep) v:=hr 1 (by simp);obtain rfl:v= .string ⟨sep.toArray⟩:=by cases r1;rfl
 have hm:((xs.map fun a=>(⟨a.toArray⟩:ByteArray)).map (·.data.toList))=xs:=by simp [List.map_map,Function.comp_def]
 rcases To r0 with ⟨rfl,a,rfl⟩|⟨b,off,cap,rfl,hb,cj,hc⟩
 . refine (Any.strings_Join_none Tryz.Ka Tryz.BF a 0 ⟨sep.toArray⟩ w).mono ?_;rintro e w' ⟨rfl,rfl⟩;exact ⟨_,_,rfl,rfl,Grown.refl _,by simp only [iN,if_true];exact ⟨[],qN rfl,jd,fun b hb=>by cases hb⟩⟩
 have:=Any.strings_Join Tryz.Ka Tryz.BF b off cap (xs.map fun a=>(⟨a.toArray⟩:ByteArray)) ⟨sep.toArray⟩ w (fun j x hj=>by
  rw [List.getElem?_map] at hj;obtain ⟨y,hy,rfl⟩:=Option.map_eq_some_iff.1 hj
  exact hc j y hy) hb (by simp;omega) (by simpa using cj) (by rw [hm,nD];exact h2)
 rw [hm,nD,List.length_map] at this;refine this.mono ?_;rintro e w' ⟨rfl,hbl⟩;exact ⟨_,_,rfl,rfl,Grown.oY hbl,by simp only [iN,if_true];exact ⟨[],qN rfl,jd,fun b hb=>by cases hb⟩⟩
theorem cU {v:Int} (h:kx v):(itoa v).length<=21:=itoa_length_le v h.1 h.2
def Sub (x y:AV):Prop:=∀(w:World) (S:Nat->Prop) (v:Value),Rd w S x v->Rd w S y v
inductive MA:List AV->List AV->Prop
 |nil:MA [] []
 |cons {x y:AV} {xs ys:List AV} (h:Sub x y) (hs:MA xs ys):MA (x::xs) (y::ys)
theorem Sub.refl (x:AV):Sub x x:=fun _ _ _ h=>h
theorem Sub.nil (sh:Sh):Sub (.val (.slice none 0 0)) (.arr sh []):=fun _ _ _ h=>by cases h;exact .nil sh none
theorem MA.get {xs ys:lA} (h:MA xs ys):xs.length=ys.length/\∀i (h1:i<xs.length) (h2:i<ys.length),Sub xs[i] ys[i]:=by
 induction h with
 |nil=>exact ⟨rfl,fun i h1=>absurd h1 (fu _)⟩
 |cons h hs ih=>
  refine ⟨by simp [ih.1],fun i h1 h2=> ?_⟩;cases i with
  |zero=>exact h
  |succ i=>exact ih.2 i (by simpa using h1) (by simpa using h2)
theorem Fn.Qa {P:Program} {f:FuncId} {args args':lA} {own:Bool} {post:AV->Prop} (h:Fn P f args own post) (hs:MA args' args):Fn P f args' own post:=
 ⟨h.1,fun w S vs h1 h0 h2 h3=>h.2 w S vs h1 h0 (h2.trans hs.get.1) fun i hi=>hs.get.2 i (by rw [hs.get.1];exact hi) hi _ _ _ (h3 i _)⟩
abbrev VY:AV:=.val (.slice none 0 0)
end Go.Vc
