import Derived.Laws.IdiomStrings
import Derived.Deep.LoopGhost
import Derived.Test.YthdheoafaakbbaaGreatPkLawNormalOrdersA
set_option linter.unusedVariables false
set_option linter.unusedSimpArgs false
set_option linter.unnecessarySimpa false
set_option maxRecDepth 1000000
set_option maxHeartbeats 16000000
open Array renaming getD_eq_getD_getElem? →q0,getElem?_eq_getElem→q1,getElem?_toList→q2
open Bool renaming false_eq_true→q3
open List renaming getD_eq_getElem?_getD→q4,getElem?_eq_getElem→q5,getElem?_eq_none→q6,getElem?_eq_some_iff→q7,getElem_drop→q8,getElem_map→q9,getElem_of_mem→q10,getElem_take→q11,mem_append→q12,mem_cons_of_mem→q13,mem_cons_self→q14,mem_map→q15,mem_singleton→q16,nil_append→q17,nodup_nil→q18,reverse_cons→q19
open Nat renaming le_trans→q20,not_lt_zero→q21
namespace Go.Vc
section
variable {P:Program} {B:Base} {N:Nat} {φ:Nat→LS} {fp:Nat→List Nat} {S:Nat→Prop} {ts:Env} {m:Mem} {a:Act} {w:World}
def offφ (l:Nat) (φ:Nat→LS) (k:Nat):LS:=if k=l then .dead else φ k
def offF (l:Nat) (fp:Nat→List Nat) (k:Nat):List Nat:=if k=l then [] else fp k
theorem offφ_ne {l k:Nat} {φ:Nat→LS} (h:k≠l):offφ l φ k=φ k:=if_neg h
theorem offF_ne {l k:Nat} {fp:Nat→List Nat} (h:k≠l):offF l fp k=fp k:=if_neg h
theorem mem_offF {l k b:Nat} {fp:Nat→List Nat} (h:b∈offF l fp k):k≠l∧b∈fp k:=by
 unfold offF at h
 split at h
 · cases h
 · exact ⟨‹_›,h⟩
theorem RS.frz (h:RS B N φ fp S ts m a w) {l v:Nat} {b0:Blk} (hl:l<ioL) (hm:lookB m l=some b0) (hv:b0.ver=v):
 RS B N (offφ l φ) (offF l fp) (fun b=>S b∨b∈fp l) ts ((l,.gone v)::m) a w:=by
 have hz:Sized φ w w:=fun l b sh ver cs e _ hb=>⟨cs,e,hb,rfl⟩
 have hle:∀k ver,LS.le (offφ l φ k) (φ k) ver:=fun k ver=>by
  unfold offφ;split
  · exact LS.le_dead _ _
  · exact LS.le_refl _ _
 have hkn:∀k ver,known m k ver→known ((l,.gone v)::m) k ver:=by
  rintro k ver ⟨b,h1,h2⟩
  by_cases e:k=l
  · subst e
    rw [hm] at h1;injection h1 with h1;subst h1
    exact ⟨.gone v,by rw [lookB_cons,if_pos rfl],by show ver≤v;omega⟩
  · exact ⟨b,by rw [lookB_cons,if_neg (Ne.symm e)];exact h1,h2⟩
 refine {tm:=fun t=>(h.tm t).mono (fun _ _=>rfl) (fun _ h=>.inl h) hz fun k ver _=>hle k ver,tl:=fun t k ver hk=>hkn k ver (h.tl t k ver hk),mNone:=fun k hk=> ?_,mSome:=fun k b hb=> ?_,bl:=fun k v' xs hb k' ver hk=> ?_,
         nod:=fun k=> ?_,dis:=fun k k' b h1 h2=>h.dis k k' b (mem_offF h1).2 (mem_offF h2).2,notS:=fun k b hb=> ?_,fpB:=fun k b hb=>h.fpB k b (mem_offF hb).2,sB:=fun b hb=> ?_,base:=h.base,out:=h.out,szs:=h.szs,
         kn:=fun k ver hk hk2=>hkn k ver (h.kn k ver hk hk2),fix:=fun k ver hk hk2=>LS.le_trans (hle k ver) (h.fix k ver hk hk2),size:=h.size,defers:=h.defers,tsz:=h.tsz,kon:=h.kon.mono (fun _ _=>rfl) fun _ h=>.inl h}
 · rw [lookB_cons] at hk
   split at hk
   · cases hk
   · rename_i e
     rw [offφ_ne (Ne.symm e),offF_ne (Ne.symm e)];exact h.mNone k hk
 · rw [lookB_cons] at hb
   split at hb
   · rename_i e
     subst e
     injection hb with hb
     subst hb
     exact ⟨by unfold offφ;rw [if_pos rfl],by unfold offF;rw [if_pos rfl]⟩
   · rename_i e
     rw [offF_ne (Ne.symm e)]
     exact (h.mSome k b hb).mono (fun _ _=>rfl) (fun _ h=>.inl h) hz (fun _ _=>rfl) (offφ_ne (Ne.symm e)) fun v' xs _ k' ver _=>hle k' ver
 · rw [lookB_cons] at hb
   split at hb
   · cases hb
   · exact hkn k' ver (h.bl k v' xs hb k' ver hk)
 · unfold offF;split
   · exact q18
   · exact h.nod k
 · obtain ⟨h1,h2⟩:=mem_offF hb
   rintro (hs|hs)
   · exact h.notS k b h2 hs
   · exact h1 (h.dis k l b h2 hs)
 · rcases hb with hb|hb
   · exact h.sB b hb
   · refine ⟨(h.fpB l b hb).1,?_⟩
     rcases (h.fpB l b hb).2 with hh|⟨_,_,hh,_⟩
     · exact .inl hh
     · exact absurd hl (Nat.not_lt.2 hh)
theorem frz_rd (h:RS B N φ fp S ts m a w) {l v i n:Nat} {sh:Sh} {d:Bool} {xs:List AV} {u:Value} (hl:l<ioL) (hm:lookB m l=some (.row v sh d xs)) (hn:i+n≤xs.length) (hu:RV w S φ (.ref l v i n) u):
 Rd w (fun b=>S b∨b∈fp l) (.arr sh ((xs.drop i).take n)) u:=by
 have hr:=rv_ref hu
 have hlen:((xs.drop i).take n).length=n:=by simp;omega
 rcases h.mSome l _ hm with ⟨h1,h2,h3⟩|⟨b,cap,hφ,hbm,hdp,hown⟩
 · obtain ⟨rfl,ad,rfl⟩:=hr.2 h1
   rw [List.take_zero];exact .nil _ _
 · obtain ⟨ad,cp,rfl,hnc,hcp⟩:=hr.1 b sh hφ
   obtain ⟨cs,e,fss,hgf,hheap,hcs,hcap,hmx,hff,hfl,hvv⟩:=row_inv hown hbm
   by_cases hc0:cp=0
   · have:n=0:=by omega
     subst this;subst hc0
     rw [List.take_zero];exact .nil _ _
   · obtain ⟨rfl,cs',e',g1,g2⟩:=hcp.resolve_left hc0
     obtain rfl:=celO_inj (hheap.symm.trans g1)
     have hroom:i*sh.sz+n*sh.sz≤cs.size:=by
      rw [g2,←Nat.add_mul];exact Nat.mul_le_mul_right _ (by omega)
     have:=Rd.arr (w:=w) (S:=fun b=>S b∨b∈fp l) sh ((xs.drop i).take n) b (i*sh.sz) cp cs e.1 (frOf e cs.size) (.inr hbm) hheap (by rw [hlen];exact hnc) (by rw [hlen];exact hroom)
      (fun q hq=>by rw [hlen] at hq;simp only [q11,q8];exact hff _ (by omega))
      (fun q hq=>by
        rw [hlen] at hq
        simp only [q11,q8]
        have:=(hvv (i+q) (by omega)).rd_of (S':=fun b=>S b∨b∈fp l) (fun c hc=>by
         cases d with
         |true=>exact hc.elim
         |false=>exact .inl hc) (fun c hc=>.inr (by rw [hgf];exact q13 _ (mem_flatten_getD (by omega) hc)))
        rwa [Nat.add_mul] at this)
     rw [hlen] at this
     exact this
end
def sGivB (l v i n:Nat) (b:Option Blk) (m:Mem) (k:AV→Mem→Prop):Prop:=match b with
 |some (.row v' sh _ ys)=>v'=v∧l<ioL∧i+n≤ys.length∧k (.arr sh ((ys.drop i).take n)) ((l,.gone v)::m)
 |_=>False
@[congr] theorem sGivB_congr {l v i n:Nat} {b b':Option Blk} {m:Mem} {k:AV→Mem→Prop} (h:b=b'):sGivB l v i n b m k=sGivB l v i n b' m k:=by rw [h]
theorem sGivB_row (l v i n:Nat) (sh:Sh) (d:Bool) (ys:List AV) (m:Mem) (k:AV→Mem→Prop):sGivB l v i n (some (.row v sh d ys)) m k=(l<1000000000∧i+n≤ys.length∧k (.arr sh ((ys.drop i).take n)) ((l,.gone v)::m)):=by simp [sGivB,ioL]
def sGivL (x:AV) (m:Mem) (k:AV→Mem→Prop):Prop:=match x with
 | .ref l v i n=>sGivB l v i n (lookB m l) m k
 |x=>k x m
@[congr] theorem sGivL_congr {x x':AV} {m:Mem} {k:AV→Mem→Prop} (h:x=x'):sGivL x m k=sGivL x' m k:=by rw [h]
theorem sGivL_ref (l v i n:Nat) (m:Mem) (k:AV→Mem→Prop):sGivL (.ref l v i n) m k=sGivB l v i n (lookB m l) m k:=rfl
theorem sGivL_val (v:Value) (m:Mem) (k:AV→Mem→Prop):sGivL (.val v) m k=k (.val v) m:=rfl
theorem sGivL_arr (sh:Sh) (xs:List AV) (m:Mem) (k:AV→Mem→Prop):sGivL (.arr sh xs) m k=k (.arr sh xs) m:=rfl
def sGivLs (k:List AV→Mem→Prop):List AV→Mem→List AV→Prop
 |acc,m,[]=>k acc.reverse m
 |acc,m,x::r=>sGivL x m fun y m'=>sGivLs k (y::acc) m' r
theorem sGivLs_nil (k:List AV→Mem→Prop) (acc:List AV) (m:Mem):sGivLs k acc m []=k acc.reverse m:=rfl
theorem sGivLs_cons (k:List AV→Mem→Prop) (acc:List AV) (m:Mem) (x:AV) (r:List AV):sGivLs k acc m (x::r)=sGivL x m fun y m'=>sGivLs k (y::acc) m' r:=rfl
def sGivA (x:AV) (m:Mem) (k:AV→Mem→Prop):Prop:=match x with
 | .agg xs=>sGivLs (fun ys m'=>k (.agg ys) m') [] m xs
 |x=>sGivL x m k
@[congr] theorem sGivA_congr {x x':AV} {m:Mem} {k:AV→Mem→Prop} (h:x=x'):sGivA x m k=sGivA x' m k:=by rw [h]
theorem sGivA_agg (xs:List AV) (m:Mem) (k:AV→Mem→Prop):sGivA (.agg xs) m k=sGivLs (fun ys m'=>k (.agg ys) m') [] m xs:=rfl
theorem sGivA_ref (l v i n:Nat) (m:Mem) (k:AV→Mem→Prop):sGivA (.ref l v i n) m k=sGivB l v i n (lookB m l) m k:=rfl
theorem sGivA_val (v:Value) (m:Mem) (k:AV→Mem→Prop):sGivA (.val v) m k=k (.val v) m:=rfl
theorem sGivA_arr (sh:Sh) (xs:List AV) (m:Mem) (k:AV→Mem→Prop):sGivA (.arr sh xs) m k=k (.arr sh xs) m:=rfl
def sGivs (k:List (Nat × AV)→Mem→Prop):List (Nat × AV)→Mem→List (Nat × AV)→Prop
 |acc,m,[]=>k acc.reverse m
 |acc,m,(i,x)::r=>sGivA x m fun y m'=>sGivs k ((i,y)::acc) m' r
theorem sGivs_nil (k:List (Nat × AV)→Mem→Prop) (acc:List (Nat × AV)) (m:Mem):sGivs k acc m []=k acc.reverse m:=rfl
theorem sGivs_cons (k:List (Nat × AV)→Mem→Prop) (acc:List (Nat × AV)) (m:Mem) (i:Nat) (x:AV) (r:List (Nat × AV)):sGivs k acc m ((i,x)::r)=sGivA x m fun y m'=>sGivs k ((i,y)::acc) m' r:=rfl
def sGivAs (k:List AV→Mem→Prop):List AV→Mem→List AV→Prop
 |acc,m,[]=>k acc.reverse m
 |acc,m,x::r=>sGivA x m fun y m'=>sGivAs k (y::acc) m' r
theorem sGivAs_nil (k:List AV→Mem→Prop) (acc:List AV) (m:Mem):sGivAs k acc m []=k acc.reverse m:=rfl
theorem sGivAs_cons (k:List AV→Mem→Prop) (acc:List AV) (m:Mem) (x:AV) (r:List AV):sGivAs k acc m (x::r)=sGivA x m fun y m'=>sGivAs k (y::acc) m' r:=rfl
def sBuildSliceX (ti:TI) (d n:Nat) (parts:List (Nat × AV)) (m:Mem) (k:AV→Mem→Prop):Prop:=sGivs (fun ps m'=>sBuildSlice ti d n ps m' k) [] m parts
theorem sBuildSliceX_eq (ti:TI) (d n:Nat) (parts:List (Nat × AV)) (m:Mem) (k:AV→Mem→Prop):sBuildSliceX ti d n parts m k=sGivs (fun ps m'=>sBuildSlice ti d n ps m' k) [] m parts:=rfl
section
variable {P:Program} {B:Base} {N:Nat} {φ:Nat→LS} {fp:Nat→List Nat} {S:Nat→Prop} {ts:Env} {m:Mem} {a:Act} {w:World}
structure GivOk (B:Base) (N:Nat) (φ φ':Nat→LS) (S S':Nat→Prop) (fp':Nat→List Nat) (ts:Env) (m':Mem) (a:Act) (w:World):Prop where
 rs:RS B N φ' fp' S' ts m' a w
 rv:∀z u,RV w S φ z u→RV w S' φ' z u
theorem givL_out (h:RS B N φ fp S ts m a w) {x:AV} {u:Value} (hu:RV w S φ x u) {k:AV→Mem→Prop} (hk:sGivL x m k):∃φ' fp' S' m' y,GivOk B N φ φ' S S' fp' ts m' a w∧RV w S' φ' y u∧(leaf x→leaf y)∧k y m':=by
 unfold sGivL at hk
 split at hk
 · rename_i l v i n
   unfold sGivB at hk
   split at hk
   · rename_i v' sh d ys hlk
     obtain ⟨rfl,hl,hn,hk⟩:=hk
     refine ⟨_,_,_,_,_,⟨h.frz hl hlk (v:=v') rfl,fun z u hz=>hz.mono (fun _ _=>rfl) (fun _ h=>.inl h) (fun l b sh ver cs e _ hb=>⟨cs,e,hb,rfl⟩) fun k ver _=> ?_⟩,.rd _ _ (frz_rd h hl hlk hn hu),fun _=>trivial,hk⟩
     unfold offφ;split
     · exact LS.le_dead _ _
     · exact LS.le_refl _ _
   · exact hk.elim
 · exact ⟨φ,fp,S,m,x,⟨h,fun _ _ h=>h⟩,hu,id,hk⟩
theorem givLs_out {Q:List AV→Mem→Prop}:∀(xs:List AV) (vs:List Value) (acc:List AV) (va:List Value) {φ:Nat→LS} {fp:Nat→List Nat} {S:Nat→Prop} {m:Mem},RS B N φ fp S ts m a w→vs.length=xs.length→(∀i (h:i<xs.length),leaf xs[i]∧RV w S φ xs[i] (vs.getD i Go.undef))→
 RdL (fun x v=>RV w S φ x v∧leaf x) acc.reverse va→sGivLs Q acc m xs→∃φ' fp' S' m' ys,GivOk B N φ φ' S S' fp' ts m' a w∧RdL (fun x v=>RV w S' φ' x v∧leaf x) ys (va++vs)∧Q ys m'
 | [],vs,acc,va,φ,fp,S,m,h,hl,_,ha,hk=>by
   have:vs=[]:=List.eq_nil_of_length_eq_zero hl
   subst this
   exact ⟨φ,fp,S,m,_,⟨h,fun _ _ h=>h⟩,by simpa using ha,hk⟩
 |x::xs,vs,acc,va,φ,fp,S,m,h,hl,hx,ha,hk=>by
  cases vs with
  |nil=>simp at hl
  |cons v vs=>
   obtain ⟨hx1,hx2⟩:=hx 0 (by simp)
   obtain ⟨φ1,fp1,S1,m1,y,g1,g2,g3,g4⟩:=givL_out h (show RV w S φ x v from hx2) hk
   obtain ⟨φ2,fp2,S2,m2,ys,q1,q2,q3⟩:=givLs_out xs vs (y::acc) (va++[v]) g1.rs (by simpa using hl) (fun i hi=>by
    have:=hx (i+1) (by simpa using hi)
    exact ⟨this.1,g1.rv _ _ this.2⟩) (by
    rw [q19]
    exact RdL.snoc ⟨ha.1,fun i hi=>⟨g1.rv _ _ (ha.2 i hi).1,(ha.2 i hi).2⟩⟩ ⟨g2,g3 hx1⟩) g4
   exact ⟨φ2,fp2,S2,m2,ys,⟨q1.rs,fun z u hz=>q1.rv _ _ (g1.rv _ _ hz)⟩,by simpa using q2,q3⟩
theorem givA_out (h:RS B N φ fp S ts m a w) {x:AV} {u:Value} (hu:RV w S φ x u) {k:AV→Mem→Prop} (hk:sGivA x m k):∃φ' fp' S' m' y,GivOk B N φ φ' S S' fp' ts m' a w∧RV w S' φ' y u∧k y m':=by
 unfold sGivA at hk
 split at hk
 · rename_i xs
   obtain ⟨cs,rfl,h1,h2,h3⟩:=rv_agg hu
   obtain ⟨φ',fp',S',m',ys,g1,g2,g3⟩:=givLs_out xs cs.toList [] [] h (by simpa using h1) (fun i hi=>⟨h2 i hi,h3 i hi⟩) ⟨rfl,fun i hi=>absurd hi (q21 _)⟩ hk
   refine ⟨φ',fp',S',m',_,g1,.agg ys cs (by simpa using g2.1) (fun i hi=>(g2.2 i hi).2) (fun i hi=>(g2.2 i hi).1),g3⟩
 · obtain ⟨φ',fp',S',m',y,g1,g2,_,g3⟩:=givL_out h hu hk
   exact ⟨φ',fp',S',m',y,g1,g2,g3⟩
theorem givAs_out {Q:List AV→Mem→Prop}:∀(xs:List AV) (vs:List Value) (acc:List AV) (va:List Value) {φ:Nat→LS} {fp:Nat→List Nat} {S:Nat→Prop} {m:Mem},RS B N φ fp S ts m a w→RdL (RV w S φ) xs vs→
 RdL (RV w S φ) acc.reverse va→sGivAs Q acc m xs→∃φ' fp' S' m' ys,GivOk B N φ φ' S S' fp' ts m' a w∧RdL (RV w S' φ') ys (va++vs)∧Q ys m'
 | [],vs,acc,va,φ,fp,S,m,h,hx,ha,hk=>by
   have:vs=[]:=List.eq_nil_of_length_eq_zero hx.1
   subst this
   exact ⟨φ,fp,S,m,_,⟨h,fun _ _ h=>h⟩,by simpa using ha,hk⟩
 |x::xs,vs,acc,va,φ,fp,S,m,h,hx,ha,hk=>by
  cases vs with
  |nil=>have:=hx.1;simp at this
  |cons v vs=>
   have hx2:=hx.2 0 (by simp)
   obtain ⟨φ1,fp1,S1,m1,y,g1,g2,g4⟩:=givA_out h (show RV w S φ x v from hx2) hk
   obtain ⟨φ2,fp2,S2,m2,ys,q1,q2,q3⟩:=givAs_out xs vs (y::acc) (va++[v]) g1.rs ⟨by simpa using hx.1,fun i hi=>by
    have:=hx.2 (i+1) (by simpa using hi)
    exact g1.rv _ _ this⟩ (by
    rw [q19]
    exact RdL.snoc ⟨ha.1,fun i hi=>g1.rv _ _ (ha.2 i hi)⟩ g2) g4
   exact ⟨φ2,fp2,S2,m2,ys,⟨q1.rs,fun z u hz=>q1.rv _ _ (g1.rv _ _ hz)⟩,by simpa using q2,q3⟩
theorem PR_snoc {R:AV→Value→Prop} {i:Nat} {x:AV} {v:Value} (hx:R x v):∀(ps:List (Nat × AV)) (vs:List (Nat × Value)),PR R ps vs→PR R (ps++[(i,x)]) (vs++[(i,v)])
 | [],[],_=>⟨rfl,hx,trivial⟩
 |(j,y)::r,(j',u)::s,⟨h1,h2,h3⟩=>⟨h1,h2,PR_snoc hx r s h3⟩
 | [],_::_,h=>h.elim
 |_::_,[],h=>h.elim
theorem PR_mono {R R':AV→Value→Prop} (hR:∀x v,R x v→R' x v):∀(ps:List (Nat × AV)) (vs:List (Nat × Value)),PR R ps vs→PR R' ps vs
 | [],[],_=>trivial
 |(j,y)::r,(j',u)::s,⟨h1,h2,h3⟩=>⟨h1,hR _ _ h2,PR_mono hR r s h3⟩
 | [],_::_,h=>h.elim
 |_::_,[],h=>h.elim
theorem givs_out {Q:List (Nat × AV)→Mem→Prop}:∀(ps:List (Nat × AV)) (vs:List (Nat × Value)) (acc:List (Nat × AV)) (va:List (Nat × Value)) {φ:Nat→LS} {fp:Nat→List Nat} {S:Nat→Prop} {m:Mem},RS B N φ fp S ts m a w→PR (RV w S φ) ps vs→
 PR (RV w S φ) acc.reverse va→sGivs Q acc m ps→∃φ' fp' S' m' qs,GivOk B N φ φ' S S' fp' ts m' a w∧PR (RV w S' φ') qs (va++vs)∧Q qs m'
 | [],[],acc,va,φ,fp,S,m,h,_,ha,hk=>⟨φ,fp,S,m,_,⟨h,fun _ _ h=>h⟩,by simpa using ha,hk⟩
 |(i,x)::r,(j,v)::s,acc,va,φ,fp,S,m,h,⟨e,hx,hr⟩,ha,hk=>by
  subst e
  obtain ⟨φ1,fp1,S1,m1,y,g1,g2,g4⟩:=givA_out h hx hk
  obtain ⟨φ2,fp2,S2,m2,qs,q1,q2,q3⟩:=givs_out r s ((i,y)::acc) (va++[(i,v)]) g1.rs (PR_mono g1.rv _ _ hr) (by
   rw [q19]
   exact PR_snoc g2 _ _ (PR_mono g1.rv _ _ ha)) g4
  exact ⟨φ2,fp2,S2,m2,qs,⟨q1.rs,fun z u hz=>q1.rv _ _ (g1.rv _ _ hz)⟩,by simpa using q2,q3⟩
 | [],_::_,_,_,_,_,_,_,_,h,_,_=>h.elim
 |_::_,[],_,_,_,_,_,_,_,h,_,_=>h.elim
theorem run_buildSliceX {t:TypeId} {tt ti:TI} (htt:tiOf P t=some tt) (hks:tt.kind= .slice) (ht:tiOf P tt.elem=some ti) (h:RS B N φ fp S ts m a w) {parts:List (Nat × AV)} {vparts:List (Nat × Value)} (hp:PR (RV w S φ) parts vparts) (d n:Nat)
 {k:AV→Mem→Prop} (hk:sBuildSliceX ti d n parts m k):Runs B N a (fun x ts' m'=>ts'=ts∧k x m') ((Instr.buildSlice t n vparts.toArray).run P w):=by
 obtain ⟨φ',fp',S',m',qs,g1,g2,g3⟩:=givs_out parts vparts [] [] h hp trivial hk
 exact run_buildSlice' htt hks ht g1.rs g2 d n g3
end
end Go.Vc
namespace Go.Vc
section
variable {P:Program} {B:Base} {N:Nat} {φ:Nat→LS} {fp:Nat→List Nat} {S:Nat→Prop} {ts:Env} {m:Mem} {a:Act} {w:World}
def sConvB (d:Nat) (x:AV) (m:Mem) (k:AV→Mem→Prop):Prop:=match x with
 | .val (.string s)=>s.data.size≤1048576∧k (.ref d (newVer m d) 0 s.data.size) ((d,.row (newVer m d) ⟨1,false⟩ true (s.data.toList.map fun b=>.val (.int .u8 b.toNat)))::m)
 |_=>False
@[congr] theorem sConvB_congr {d:Nat} {x x':AV} {m:Mem} {k:AV→Mem→Prop} (h:x=x'):sConvB d x m k=sConvB d x' m k:=by rw [h]
theorem run_convB (h:RS B N φ fp S ts m a w) {src t e:TypeId} (hs:P.underlying src=some .string) (hd:P.underlying t=some (.slice e)) (he:P.underlying e=some (.int .u8)) {s:ByteArray} (hl:s.data.size≤1048576) (d:Nat)
 {k:AV→Mem→Prop} (hk:k (.ref d (newVer m d) 0 s.data.size) ((d,.row (newVer m d) ⟨1,false⟩ true (s.data.toList.map fun b=>.val (.int .u8 b.toNat)))::m)):
 Runs B N a (fun x ts' m'=>ts'=ts∧k x m') ((convert src t (.string s)).run P w):=by
 refine ⟨_,_,run_bytes_of_string w src t e s hs hd he,?_⟩
 have hsz:s.size=s.data.size:=rfl
 have hge:=grownCap_ge w s.size 0 e
 have hle:grownCap w s.size 0 e≤maxLen:=grownCap_le_maxLen w _ _ _ (by unfold maxLen;omega)
 generalize grownCap w s.size 0 e=gc at hge hle ⊢
 have hC:(bytesRow s gc).size=gc:=by simp [bytesRow];omega
 have hg:∀i (hi:i<s.data.size),(bytesRow s gc).toList.getD i Go.undef= .int .u8 (s.data.toList[i]'(by simpa using hi)).toNat:=by
  intro i hi
  rw [q4,q2]
  unfold bytesRow
  rw [Array.getElem?_append_left (by simpa using hi)]
  have hi2:i<s.data.size:=hi
  simp only [Array.getElem?_map,q1 hi2,Option.map_some,Option.getD_some,Array.getElem_toList]
 have hnew:(w.drew.alloc (.cells (bytesRow s gc) e ((bytesRow s gc).size,(bytesRow s gc).size+1))).heap[w.heap.size]? =some (celO (bytesRow s gc) (e,true)):=new_at w.drew _
 have hold:∀b,b<w.heap.size→(w.drew.alloc (.cells (bytesRow s gc) e ((bytesRow s gc).size,(bytesRow s gc).size+1))).heap[b]? =w.heap[b]? :=fun b hb=>old w.drew _ b hb
 have hws:(w.drew.alloc (.cells (bytesRow s gc) e ((bytesRow s gc).size,(bytesRow s gc).size+1))).heap.size=w.heap.size+1:=by simp
 have hso:SameOut w (w.drew.alloc (.cells (bytesRow s gc) e ((bytesRow s gc).size,(bytesRow s gc).size+1))):=⟨rfl,rfl,rfl⟩
 generalize w.drew.alloc (.cells (bytesRow s gc) e ((bytesRow s gc).size,(bytesRow s gc).size+1))=w' at hnew hold hws hso ⊢
 generalize bytesRow s gc=C at hnew hC hg
 have hlen:(s.data.toList.map fun b=>AV.val (.int .u8 b.toNat)).length=s.data.size:=by simp
 have hown:Own w' (if true=true then fun _=>False else S) (.arr ⟨1,false⟩ (s.data.toList.map fun b=>AV.val (.int .u8 b.toNat))) (.slice (some ⟨w.heap.size,0,none⟩) (s.data.toList.map fun b=>AV.val (.int .u8 b.toNat)).length gc) [w.heap.size]:=by
  have e1:[w.heap.size]=w.heap.size::(List.replicate (s.data.toList.map fun b=>AV.val (.int .u8 b.toNat)).length ([]:List Nat)).flatten:=by
   congr 1
   exact (List.flatten_eq_nil_iff.2 fun l hl=>(List.mem_replicate.1 hl).2).symm
  rw [e1]
  refine .arr ⟨1,false⟩ _ w.heap.size gc C (e,true) _ hnew (by rw [hC,Nat.mul_one]) (by rw [hlen];omega) hle (fun i hi=> ?_) (by simp) fun i hi=> ?_
  · rw [q9];exact ⟨rfl,rfl⟩
  · rw [hlen] at hi
    rw [elemV_cell,Nat.mul_one,hg i hi,q9]
    have e2:(List.replicate (s.data.toList.map fun b=>AV.val (.int .u8 b.toNat)).length ([]:List Nat)).getD i []=[]:=by
     rw [q4,List.getElem?_replicate];split<;>rfl
    rw [e2]
    exact .rd _ _ (.val _ rfl)
 refine h.rowNext (b:=w.heap.size) (cap:=gc) (by omega) hso (Szs.of_same hold) (fun c _ hc=>hold c hc) (fun l b sh ver cs e hl hb=>⟨cs,e,by rw [hold b (h.fpB l b (h.at_mem hl)).1];exact hb,rfl⟩) (.inr ⟨rfl,by omega⟩) (fun ver hv=>known_lt hv)
  (fun c hc=>.inl (q16.1 hc)) (q16.2 rfl) (fun h=>by cases h) (List.nodup_cons.2 ⟨List.not_mem_nil,q18⟩) hown ?_ ⟨rfl,hk⟩
 exact ⟨_,gc,by rw [hsz],by omega,.inr ⟨rfl,_,_,hnew,by rw [hC,Nat.mul_one]⟩⟩
end
end Go.Vc
namespace Go.Vc
def sSl (kd:TK) (k:Prop):Prop:=match kd with| .slice=>k|_=>False
theorem sSl_slice (k:Prop):sSl .slice k=k:=rfl
def sSt (kd:TK) (k:Prop):Prop:=match kd with| .struct=>k|_=>False
theorem sSt_struct (k:Prop):sSt .struct k=k:=rfl
def sNil (m:Mem) (x:AV) (k:AV→Prop):Prop:=match x with
 | .ptr l v i j=>sLive v (lookB m l) (k (.ptr l v i j))
 | .eptr sh xs i j=>k (.eptr sh xs i j)
 | .clo f xs=>k (.clo f xs)
 |_=>False
@[congr] theorem sNil_congr {m:Mem} {x x':AV} {k:AV→Prop} (h:x=x'):sNil m x k=sNil m x' k:=by rw [h]
theorem sNil_ptr (m:Mem) (l v i j:Nat) (k:AV→Prop):sNil m (.ptr l v i j) k=sLive v (lookB m l) (k (.ptr l v i j)):=rfl
def sSlK (P:Program) (tt:TI) (x:AV) (lo hi:Option AV) (m:Mem) (k:AV→Prop):Prop:=match tt.kind with
 | .string=>(match x with| .val (.string _)=>True|_=>False)∧sSlice ⟨0,false⟩ x lo hi m k
 | .slice=>(match x with| .arr _ _=>True| .ref _ _ _ _=>True|_=>False)∧sTI (tiOf P tt.elem) fun ti=>sSlice ti.sh x lo hi m k
 |_=>False
@[congr] theorem sSlK_congr {P:Program} {tt:TI} {x x':AV} {lo hi lo' hi':Option AV} {m:Mem} {k:AV→Prop} (h:x=x') (h1:lo=lo') (h2:hi=hi'):sSlK P tt x lo hi m k=sSlK P tt x' lo' hi' m k:=by rw [h,h1,h2]
theorem sSlK_arr (P:Program) (ag:Bool) (s b:Nat) (z:AV) (f:List (Nat × Nat × Bool)) (e:Nat) (sh:Sh) (xs:List AV) (lo hi:Option AV) (m:Mem) (k:AV→Prop):
 sSlK P ⟨ag,s,b,z,f,e,.slice⟩ (.arr sh xs) lo hi m k=sTI (tiOf P e) fun ti=>sSlice ti.sh (.arr sh xs) lo hi m k:=by simp [sSlK]
def sIdxB (sh:Sh) (l v i0 n:Nat) (i:Int) (b:Option Blk) (k:AV→Prop):Prop:=match b with
 |some (.row v' sh' _ _)=>v'=v∧sh'=sh∧((0≤i∧i<n)∧k (.ptr l v (i0+i.toNat) 0))
 |some (.box v' _)=>v'=v∧i0=0∧sh.sz=1∧((0≤i∧i<n)∧k (.ptr l v 0 i.toNat))
 |_=>False
@[congr] theorem sIdxB_congr {sh:Sh} {l v i0 n:Nat} {i:Int} {b b':Option Blk} {k:AV→Prop} (h:b=b'):sIdxB sh l v i0 n i b k=sIdxB sh l v i0 n i b' k:=by rw [h]
theorem sIdxB_row (sh:Sh) (l v i0 n:Nat) (i:Int) (d:Bool) (xs:List AV) (k:AV→Prop):sIdxB sh l v i0 n i (some (.row v sh d xs)) k=((0≤i∧i<n)∧k (.ptr l v (i0+i.toNat) 0)):=by simp [sIdxB]
theorem sIdxB_box (ag:Bool) (l v n:Nat) (i:Int) (xs:List AV) (k:AV→Prop):sIdxB ⟨1,ag⟩ l v 0 n i (some (.box v xs)) k=((0≤i∧i<n)∧k (.ptr l v 0 i.toNat)):=by simp [sIdxB]
def sIdx (sh:Sh) (m:Mem) (x i:AV) (k:AV→Prop):Prop:=match x,i with
 | .arr sh' xs,.val (.int _ i)=>sh'=sh∧(0≤i∧i<xs.length)∧k (.eptr sh xs i.toNat 0)
 | .ref l v i0 n,.val (.int _ i)=>sIdxB sh l v i0 n i (lookB m l) k
 |_,_=>False
@[congr] theorem sIdx_congr {sh:Sh} {m:Mem} {x x' i i':AV} {k:AV→Prop} (h:x=x') (h':i=i'):sIdx sh m x i k=sIdx sh m x' i' k:=by rw [h,h']
theorem sIdx_arr (sh:Sh) (m:Mem) (xs:List AV) (j:IntKind) (i:Int) (k:AV→Prop):sIdx sh m (.arr sh xs) (.val (.int j i)) k=((0≤i∧i<xs.length)∧k (.eptr sh xs i.toNat 0)):=by simp [sIdx]
theorem sIdx_ref (sh:Sh) (m:Mem) (l v i0 n:Nat) (j:IntKind) (i:Int) (k:AV→Prop):sIdx sh m (.ref l v i0 n) (.val (.int j i)) k=sIdxB sh l v i0 n i (lookB m l) k:=rfl
def sSubI (sh:Sh) (u:Value) (i:AV) (m0:Mem) (k:AV→Prop):Mem→Prop
 | []=>False
 |(l,.sub v sh' xs u')::_=>(lookB m0 l=some (.sub v sh' xs u')∧u'=u∧sh'=sh)∧(match i with| .val (.int _ n)=>(0≤n∧n<xs.length)∧k (.ptr l v n.toNat 0)|_=>False)
 |_::r=>sSubI sh u i m0 k r
section
variable (sh:Sh) (u:Value) (j:IntKind) (n:Int) (m0:Mem) (k:AV→Prop) (l:Nat) (r:Mem)
theorem sSubI_sub (v:Nat) (xs:List AV):sSubI sh u (.val (.int j n)) m0 k ((l,.sub v sh xs u)::r)=(lookB m0 l=some (.sub v sh xs u)∧(0≤n∧n<xs.length)∧k (.ptr l v n.toNat 0)):=by simp [sSubI]
theorem sSubI_row (v:Nat) (sh':Sh) (d:Bool) (xs:List AV):sSubI sh u (.val (.int j n)) m0 k ((l,.row v sh' d xs)::r)=sSubI sh u (.val (.int j n)) m0 k r:=rfl
theorem sSubI_box (v:Nat) (xs:List AV):sSubI sh u (.val (.int j n)) m0 k ((l,.box v xs)::r)=sSubI sh u (.val (.int j n)) m0 k r:=rfl
end
def sIdxX (sh:Sh) (m:Mem) (x i:AV) (k:AV→Prop):Prop:=match x with
 | .val u=>sSubI sh u i m k m
 |x=>sIdx sh m x i k
@[congr] theorem sIdxX_congr {sh:Sh} {m:Mem} {x x' i i':AV} {k:AV→Prop} (h:x=x') (h':i=i'):sIdxX sh m x i k=sIdxX sh m x' i' k:=by rw [h,h']
theorem sIdxX_val (sh:Sh) (m:Mem) (u:Value) (i:AV) (k:AV→Prop):sIdxX sh m (.val u) i k=sSubI sh u i m k m:=rfl
theorem sIdxX_arr (sh:Sh) (m:Mem) (xs:List AV) (j:IntKind) (i:Int) (k:AV→Prop):sIdxX sh m (.arr sh xs) (.val (.int j i)) k=((0≤i∧i<xs.length)∧k (.eptr sh xs i.toNat 0)):=sIdx_arr sh m xs j i k
theorem sIdxX_ref (sh:Sh) (m:Mem) (l v i0 n:Nat) (j:IntKind) (i:Int) (k:AV→Prop):sIdxX sh m (.ref l v i0 n) (.val (.int j i)) k=sIdxB sh l v i0 n i (lookB m l) k:=rfl
theorem sIdxX_of {sh:Sh} {m:Mem} {x i:AV} {k:AV→Prop} (h:sIdx sh m x i k):sIdxX sh m x i k:=by
 cases x with
 |val u=>cases i<;>exact h.elim
 |_=>exact h
def sAppT (P:Program) (tys:List TypeId) (d:Nat) (x y:AV) (m:Mem) (k:AV→Mem→Prop):Prop:=match tys with
 | [t,t']=>sTI (tiOf P t) fun tt=>sSl tt.kind (sTI (tiOf P t') fun tt'=>sSl tt'.kind (sTI (tiOf P tt.elem) fun ti=>sApp ti d x y m k))
 |_=>False
def sAppTX (P:Program) (tys:List TypeId) (d:Nat) (x y:AV) (m:Mem) (k:AV→Mem→Prop):Prop:=match tys with
 | [t,t']=>sTI (tiOf P t) fun tt=>sSl tt.kind (sTI (tiOf P t') fun tt'=>sSl tt'.kind (sTI (tiOf P tt.elem) fun ti=>sAppX ti d x y m k))
 |_=>False
theorem sAppTX_eq (P:Program) (t t':TypeId) (d:Nat) (x y:AV) (m:Mem) (k:AV→Mem→Prop):
 sAppTX P [t,t'] d x y m k=sTI (tiOf P t) fun tt=>sSl tt.kind (sTI (tiOf P t') fun tt'=>sSl tt'.kind (sTI (tiOf P tt.elem) fun ti=>sAppX ti d x y m k)):=rfl
theorem sApp_eq (ti:TI) (d:Nat) (x y:AV) (m:Mem) (k:AV→Mem→Prop):
 sApp ti d x y m k=(ti.bytes≤65536∧0<ti.size∧fits ti.sh ti.zero∧sSrc ti.sh y m fun ys=>isFlatL ys=true∧sApp1 ti d x ys m k):=rfl
def is0:Option Operand→Bool
 |some (.const (.int _ n))=>n==0
 |_=>false
def sPartA (ag:Bool) (n j:Nat) (x:AV) (k:AV→Prop):Prop:=match x with| .agg ys=>sPart ag n j (.agg ys) k|_=>False
@[congr] theorem sPartA_congr {ag:Bool} {n j:Nat} {x x':AV} {k:AV→Prop} (h:x=x'):sPartA ag n j x k=sPartA ag n j x' k:=by rw [h]
def sNilB (a:AV) (m:Mem) (k:Bool→Prop):Prop:=match a with
 | .arr _ xs=>∀c,(c=true→xs=[])→k c
 | .ref l v _ n=>sLive v (lookB m l) (∀c,(c=true→n=0)→k c)
 | .e0=>∀c,k c
 | .val (.slice none 0 0)=>k true
 |_=>False
@[congr] theorem sNilB_congr {a a':AV} {m:Mem} {k:Bool→Prop} (h:a=a'):sNilB a m k=sNilB a' m k:=by rw [h]
theorem sNilB_arr (sh:Sh) (xs:List AV) (m:Mem) (k:Bool→Prop):sNilB (.arr sh xs) m k=∀c,(c=true→xs=[])→k c:=rfl
def cst:Operand→Bool| .const _=>true|_=>false
theorem cst_const (v:Value):cst (.const v)=true:=rfl
theorem cst_tmp (t:Nat):cst (.tmp t)=false:=rfl
def sIfc (op:BinOp) (a:AV) (c:Bool) (k:AV→Prop):Prop:=match op,a with
 | .eql,.val .nilIface=>c=true∧k (.val (.bool true))
 | .neq,.val .nilIface=>c=true∧k (.val (.bool false))
 | .eql,.val (.iface _ _)=>k (.val (.bool false))
 | .neq,.val (.iface _ _)=>k (.val (.bool true))
 |_,_=>False
@[congr] theorem sIfc_congr {op:BinOp} {a a':AV} {c:Bool} {k:AV→Prop} (h:a=a'):sIfc op a c k=sIfc op a' c k:=by rw [h]
def sBinN (op:BinOp) (kd:TK) (a b:AV) (c:Bool) (m:Mem) (k:AV→Prop):Prop:=match kd,op,b with
 | .slice,.eql,.val (.slice none 0 0)=>sNilB a m fun c=>k (.val (.bool c))
 | .slice,.neq,.val (.slice none 0 0)=>sNilB a m fun c=>k (.val (.bool (!c)))
 | .iface,op,.val .nilIface=>sIfc op a c k
 |kd,op,b=>sBin op kd a b k
@[congr] theorem sBinN_congr {op:BinOp} {kd:TK} {a b a' b':AV} {c:Bool} {m:Mem} {k:AV→Prop} (h:a=a') (h':b=b'):sBinN op kd a b c m k=sBinN op kd a' b' c m k:=by rw [h,h']
theorem sBinN_eql (a:AV) (c:Bool) (m:Mem) (k:AV→Prop):sBinN .eql .slice a (.val (.slice none 0 0)) c m k=sNilB a m fun c=>k (.val (.bool c)):=rfl
theorem sBinN_int (op:BinOp) (i:IntKind) (a b:AV) (c:Bool) (m:Mem) (k:AV→Prop):sBinN op (.int i) a b c m k=sBin op (.int i) a b k:=rfl
theorem sBinN_bool (op:BinOp) (a b:AV) (c:Bool) (m:Mem) (k:AV→Prop):sBinN op .bool a b c m k=sBin op .bool a b k:=rfl
theorem sBinN_of {op:BinOp} {kd:TK} {a b:AV} {c:Bool} {m:Mem} {k:AV→Prop} (h:sBin op kd a b k):sBinN op kd a b c m k:=by
 unfold sBinN
 split
 · unfold sBin at h;split at h<;>first|exact h.elim|(rename_i e;cases e)
 · unfold sBin at h;split at h<;>first|exact h.elim|(rename_i e;cases e)
 · unfold sBin at h;split at h<;>first|exact h.elim|(rename_i e;cases e)
 · exact h
def sCallV (P:Program) (c:AV) (d:Nat) (xs:List AV) (m:Mem) (k:AV→Mem→Prop):Prop:=match c with
 | .clo f ys=>sCall P f d (xs++ys) m k
 |_=>False
@[congr] theorem sCallV_congr {P:Program} {c c':AV} {d:Nat} {xs xs':List AV} {m:Mem} {k:AV→Mem→Prop} (h:c=c') (h':xs=xs'):sCallV P c d xs m k=sCallV P c' d xs' m k:=by rw [h,h']
theorem sCallV_clo (P:Program) (f:FuncId) (ys:List AV) (d:Nat) (xs:List AV) (m:Mem) (k:AV→Mem→Prop):sCallV P (.clo f ys) d xs m k=sCall P f d (xs++ys) m k:=rfl
def sBytesL (k:AV→Prop):List UInt8→List AV→Prop
 |acc,[]=>k (.val (.string ⟨acc.reverse.toArray⟩))
 |acc,.val (.int .u8 z)::r=>(0≤z∧z<256)∧sBytesL k (UInt8.ofNat z.toNat::acc) r
 |_,_=>False
theorem sBytesL_nil (k:AV→Prop) (acc:List UInt8):sBytesL k acc []=k (.val (.string ⟨acc.reverse.toArray⟩)):=rfl
theorem sBytesL_out {k:AV→Prop}:∀{xs:List AV} {acc:List UInt8},sBytesL k acc xs→∃bs:List UInt8,xs=bs.map (fun b=>.val (.int .u8 b.toNat))∧k (.val (.string ⟨(acc.reverse++bs).toArray⟩))
 | [],acc,h=>⟨[],rfl,by rw [sBytesL_nil] at h;simpa using h⟩
 | .val (.int .u8 z)::r,acc,h=>by
   obtain ⟨⟨h0,h1⟩,h⟩:=h
   obtain ⟨bs,rfl,hk⟩:=sBytesL_out h
   refine ⟨UInt8.ofNat z.toNat::bs,?_,by simpa using hk⟩
   have:((UInt8.ofNat z.toNat).toNat:Int)=z:=by
    rw [UInt8.toNat_ofNat_of_lt' (by show z.toNat<256;omega)];omega
   rw [List.map_cons,this]
def sBytes (y:AV) (k:AV→Prop):Prop:=match y with| .arr _ xs=>sBytesL k [] xs|_=>False
@[congr] theorem sBytes_congr {y y':AV} {k:AV→Prop} (h:y=y'):sBytes y k=sBytes y' k:=by rw [h]
def isU8 (kd:TK) (k:Prop):Prop:=match kd with| .int .u8=>k|_=>False
def sChr (x:AV) (k:AV→Prop):Prop:=match x with| .val (.int _ n)=>(0≤n∧n<128)∧k (.val (.string ⟨#[UInt8.ofNat n.toNat]⟩))|_=>False
@[congr] theorem sChr_congr {y y':AV} {k:AV→Prop} (h:y=y'):sChr y k=sChr y' k:=by rw [h]
def sConvX (P:Program) (si ti:TI) (x:AV) (m:Mem) (k:AV→Prop):Prop:=match si.kind,ti.kind with
 | .slice,.string=>sTI (tiOf P si.elem) fun ei=>isU8 ei.kind (sLeafT m x fun y=>sBytes y k)
 | .int _,.string=>sChr x k
 |_,d=>sConv d x k
@[congr] theorem sConvX_congr {P:Program} {si ti:TI} {x x':AV} {m:Mem} {k:AV→Prop} (h:x=x'):sConvX P si ti x m k=sConvX P si ti x' m k:=by rw [h]
section
variable (P:Program) (ag ag':Bool) (s b s' b':Nat) (z z':AV) (f f':List (Nat × Nat × Bool)) (e e':Nat) (x:AV) (m:Mem) (k:AV→Prop)
theorem sConvX_int (kd:TK) (i:IntKind):sConvX P ⟨ag,s,b,z,f,e,kd⟩ ⟨ag',s',b',z',f',e',.int i⟩ x m k=sConv (.int i) x k:=by cases kd<;>rfl
end
def sConvY (P:Program) (si ti:TI) (d:Nat) (x:AV) (m:Mem) (k:AV→Mem→Prop):Prop:=match si.kind,ti.kind with
 | .string,.slice=>sTI (tiOf P ti.elem) fun ei=>isU8 ei.kind (sConvB d x m k)
 |_,_=>sConvX P si ti x m fun v=>k v m
@[congr] theorem sConvY_congr {P:Program} {si ti:TI} {d:Nat} {x x':AV} {m:Mem} {k:AV→Mem→Prop} (h:x=x'):sConvY P si ti d x m k=sConvY P si ti d x' m k:=by rw [h]
section
variable (P:Program) (ag ag':Bool) (s b s' b':Nat) (z z':AV) (f f':List (Nat × Nat × Bool)) (e e' d:Nat) (x:AV) (m:Mem) (k:AV→Mem→Prop)
theorem sConvY_int (kd:TK) (i:IntKind):sConvY P ⟨ag,s,b,z,f,e,kd⟩ ⟨ag',s',b',z',f',e',.int i⟩ d x m k=sConvX P ⟨ag,s,b,z,f,e,kd⟩ ⟨ag',s',b',z',f',e',.int i⟩ x m fun v=>k v m:=by cases kd<;>rfl
end
def sOp (P:Program) (d:Nat) (op:Op) (ts:Env) (m:Mem) (k:AV→Mem→Prop):Prop:=
 match op with
 | .move x=>k (ev ts x) m
 | .assign x=>k (ev ts x) m
 | .pick c a b=>sPick (ev ts c) (ev ts a) (ev ts b) fun v=>k v m
 | .alloc t=>sTI (tiOf P t) fun ti=>sBox d ti.zero m k
 | .box _ x=>sBox d (ev ts x) m k
 | .build t parts=>sTI (tiOf P t) fun ti=>sSt ti.kind (sBuild ti (parts.toList.map fun p=>(p.1,ev ts p.2)) fun v=>k v m)
 | .buildSlice t n parts=>sTI (tiOf P t) fun tt=>sSl tt.kind (sTI (tiOf P tt.elem) fun ti=>sBuildSliceX ti d n (parts.toList.map fun p=>(p.1,ev ts p.2)) m k)
 | .load t x=>sTI (tiOf P t) fun ti=>sLoadX ti.agg ti.size (ev ts x) m k
 | .store t p y=>sTI (tiOf P t) fun ti=>sStoreY ti.size (ev ts p) (ev ts y) m fun m'=>k .undef m'
 | .nilCheck x=>sNil m (ev ts x) fun v=>k v m
 | .binOp op t x y _=>sTI (tiOf P t) fun ti=>sBinS P t op (ev ts x) (ev ts y) (fun v=>k v m) (sBinN op ti.kind (ev ts x) (ev ts y) (cst y) m fun v=>k v m)
 | .unOp .not _ x=>sNot (ev ts x) fun v=>k v m
 | .unOp .neg _ x=>sNeg (ev ts x) fun v=>k v m
 | .convert s t x=>sTI (tiOf P s) fun si=>sTI (tiOf P t) fun ti=>sConvY P si ti d (ev ts x) m k
 | .makeSlice t l c=>sTI (tiOf P t) fun tt=>sSl tt.kind (sTI (tiOf P tt.elem) fun ti=>sMake ti d (ev ts l) (ev ts c) m k)
 | .slice t x lo hi none=>sTI (tiOf P t) fun tt=>sSlK P tt (ev ts x) (lo.map (ev ts)) (hi.map (ev ts)) m fun v=>k v m
 | .slice t x none hi mx=>(is0 hi=true∧is0 mx=true)∧sTI (tiOf P t) fun tt=>sSl tt.kind (sTI (tiOf P tt.elem) fun _=>sSlice0 m (ev ts x) fun v=>k v m)
 | .fieldAddr t x f=>sTI (tiOf P t) fun ti=>sFld ti.fields[f]? fun fd=>0<fd.2.1∧sField fd.1 m (ev ts x) fun v=>k v m
 | .field t x f=>sTI (tiOf P t) fun ti=>sFld ti.fields[f]? fun fd=>sPartA fd.2.2 fd.2.1 fd.1 (ev ts x) fun v=>k v m
 | .indexAddr t x i=>sTI (tiOf P t) fun tt=>sSl tt.kind (sTI (tiOf P tt.elem) fun ti=>sIdxX ti.sh m (ev ts x) (ev ts i) fun v=>k v m)
 | .index t x i=>sTI (tiOf P t) fun tt=>(match tt.kind with| .string=>True|_=>False)∧sIndex (ev ts x) (ev ts i) fun v=>k v m
 | .extract x i=>sTup i (ev ts x) fun v=>k v m
 | .call c=>match c.callee,c.args.toList with
   | .builtin .len,[x]=>match c.argTypes.toList with|t::_=>sTI (tiOf P t) fun ti=>sLen ti.kind m (ev ts x) fun v=>k v m| []=>False
   | .builtin .max,[x,y]=>sMax (ev ts x) (ev ts y) fun v=>k v m
   | .builtin .min,[x,y]=>sMin (ev ts x) (ev ts y) fun v=>k v m
   | .builtin .min,[x,y,z]=>sMin (ev ts x) (ev ts y) fun u=>sMin u (ev ts z) fun v=>k v m
   | .builtin .append,[x,y]=>sAppTX P c.argTypes.toList d (ev ts x) (ev ts y) m k
   | .value (.func f),xs=>sCall P f d (xs.map (ev ts)) m k
   | .value (.tmp t),xs=>sCallV P (look ts t) d (xs.map (ev ts)) m k
   |_,_=>False
 | .makeFunc (.func f) first caps=>first.toList=[]∧k (.clo f (caps.toList.map (ev ts))) m
 |_=>False
section
variable {P:Program} {B:Base} {N:Nat} {φ:Nat→LS} {fp:Nat→List Nat} {S:Nat→Prop} {ts:Env} {m:Mem} {a:Act} {w:World}
theorem sTI_out {x:Option TI} {k:TI→Prop} (h:sTI x k):∃t,x=some t∧k t:=by
 cases x with
 |none=>exact h.elim
 |some t=>exact ⟨t,rfl,h⟩
theorem sSl_out {kd:TK} {k:Prop} (h:sSl kd k):kd= .slice∧k:=by cases kd<;>first|exact h.elim|exact ⟨rfl,h⟩
theorem sSt_out {kd:TK} {k:Prop} (h:sSt kd k):kd= .struct∧k:=by cases kd<;>first|exact h.elim|exact ⟨rfl,h⟩
theorem sFld_out {f:Option (Nat × Nat × Bool)} {k:Nat × Nat × Bool→Prop} (h:sFld f k):∃fd,f=some fd∧k fd:=by
 cases f with
 |none=>exact h.elim
 |some t=>exact ⟨t,rfl,h⟩
theorem field_of {t:TypeId} {ti:TI} (ht:tiOf P t=some ti) {f:Nat} {fd:Nat × Nat × Bool} (hf:ti.fields[f]? =some fd):
 ∃fs g,P.underlying t=some (.struct fs)∧fs[f]? =some g∧fd=(g.offset,sizeOf' P g.type,aggOf P g.type)∧∃i d,P.info? g.type=some i∧P.underlying g.type=some d:=by
 obtain ⟨i,d,z,hi,hd,hz,_,_,_,_,hff,_⟩:=kind_of ht
 rw [hff] at hf
 cases d with
 |struct fs=>
  simp only [List.getElem?_map] at hf
  cases hg:fs.toList[f]? with
  |none=>rw [hg] at hf;cases hf
  |some g=>
   rw [hg] at hf
   simp only [Option.map_some,Option.some.injEq] at hf
   obtain ⟨i',hi'⟩:=Option.isSome_iff_exists.1 (fields_of ht fs hd g (List.mem_of_getElem? hg)).1
   obtain ⟨d',hd'⟩:=Option.isSome_iff_exists.1 (fields_of ht fs hd g (List.mem_of_getElem? hg)).2
   exact ⟨fs,g,hd,by simpa using hg,hf.symm,i',d',hi',hd'⟩
 |_=>simp at hf
theorem live_out (h:RS B N φ fp S ts m a w) {l v:Nat} (hn:φ l≠ .nil v) {k:Prop} (hk:sLive v (lookB m l) k):(∃b sh,φ l= .at b sh v)∧k:=by
 unfold sLive at hk
 split at hk
 · rename_i v' xs hlk
   obtain ⟨rfl,hk⟩:=hk
   obtain ⟨b,cs,e,sh,hφ,_⟩:=h.mSome l _ hlk
   exact ⟨⟨b,sh,hφ⟩,hk⟩
 · rename_i v' sh d xs hlk
   obtain ⟨rfl,hk⟩:=hk
   rcases h.mSome l _ hlk with ⟨h1,_⟩|⟨b,cap,hφ,_⟩
   · exact absurd h1 hn
   · exact ⟨⟨b,sh,hφ⟩,hk⟩
 · exact hk.elim
theorem run_field {t:TypeId} {ti:TI} (ht:tiOf P t=some ti) (h:RS B N φ fp S ts m a w) {p:AV} {v:Value} (hp:RV w S φ p v) (hpl:∀l ver,(l,ver)∈labs p→known m l ver) {f:Nat} {fd:Nat × Nat × Bool} (hf:ti.fields[f]? =some fd) (hsz:0<fd.2.1)
 {k:AV→Prop} (hk:sField fd.1 m p k):Runs B N a (fun x ts' m'=>ts'=ts∧m'=m∧k x) ((Instr.fieldAt t v f).run P w):=by
 obtain ⟨fs,g,hu,hg,rfl,i,d,hi,hd⟩:=field_of ht hf
 simp only at hsz
 have hs:sizeOf' P g.type=i.size:=by simp [sizeOf',hi]
 have hrun:∀b o,(Instr.fieldAt t (.pointer (some ⟨b,o,none⟩)) f).run P w= .ok (.pointer (some ⟨b,o+g.offset,none⟩)) w:=by
  intro b o
  have h0:i.size≠0:=by omega
  simp [Instr.fieldAt,run_underlying hu,hg,Instr.sureAddr,fieldPlace,sizeOf,typeInfo,hi,h0,Addr.add_none]
 unfold sField at hk
 split at hk
 · rename_i l ver i' j'
   obtain ⟨⟨b,sh,hφ⟩,hk⟩:=live_out h (rv_ptr2 hp).1 hk
   have hv:=rv_ptr hp b sh hφ
   subst hv
   refine ⟨_,w,hrun _ _,h.gives (x:=.ptr l ver i' (j'+g.offset)) ?_ (fun l' ver' hl=>hpl l' ver' (by simpa [labs] using hl)) ⟨rfl,rfl,hk⟩⟩
   refine .ptr _ _ _ _ _ (fun b' sh' hb'=> ?_) (rv_ptr2 hp).1 rfl
   rw [hφ] at hb';cases hb'
   rw [Nat.add_assoc]
 · rename_i sh xs i' j'
   cases rv_eptr hp with
   |eptr _ _ _ _ b off cs e fr hS hb hl hff hv=>
    refine ⟨_,w,hrun _ _,h.gives ?_ (fun l' ver' hl=>by cases hl) ⟨rfl,rfl,hk⟩⟩
    have:=Rd.eptr (w:=w) (S:=S) sh xs i' (j'+g.offset) b off cs e fr hS hb hl hff hv
    rw [←Nat.add_assoc] at this
    exact .rd _ _ this
 · exact hk.elim
theorem run_idx {t:TypeId} {tt ti:TI} (htt:tiOf P t=some tt) (hks:tt.kind= .slice) (ht:tiOf P tt.elem=some ti) (h:RS B N φ fp S ts m a w) {x i:AV} {u v:Value} (hx:RV w S φ x u) (hxl:∀l ver,(l,ver)∈labs x→known m l ver) (hi:RV w S φ i v)
 {k:AV→Prop} (hk:sIdx ti.sh m x i k):Runs B N a (fun x ts' m'=>ts'=ts∧m'=m∧k x) ((Instr.indexAt t u v).run P w):=by
 have hsl:=kind_slice htt hks
 have hs:=sizeOf_run ht w
 have hrun:∀(b o len cap:Nat) (q:IntKind) (n:Int),0≤n→n<len→(Instr.indexAt t (.slice (some ⟨b,o,none⟩) len cap) (.int q n)).run P w= .ok (.pointer (some ⟨b,o+n.toNat*ti.size,none⟩)) w:=by
  intro b o len cap q n h0 h1
  simp [Instr.indexAt,asIntOf,run_underlying hsl,h0,h1,hs,Addr.add_none]
 unfold sIdx at hk
 split at hk
 · rename_i sh' xs q n
   obtain ⟨rfl,⟨h0,h1⟩,hk⟩:=hk
   obtain ⟨rfl,_⟩:=rv_val hi
   cases rv_arr hx with
   |nil=>simp at h1;omega
   |arr _ _ b off cap cs e fr hS hb hcap hl hf hv=>
    refine ⟨_,w,hrun b off _ cap q n h0 h1,h.gives ?_ (fun l' ver' hl=>by cases hl) ⟨rfl,rfl,hk⟩⟩
    have:=Rd.eptr (w:=w) (S:=S) ti.sh xs n.toNat 0 b off cs e fr hS hb hl hf hv
    exact .rd _ _ this
 · rename_i l ver i0 n0 q n
   unfold sIdxB at hk
   split at hk
   · rename_i v' sh' deep xs hlk
     obtain ⟨rfl,rfl,⟨h0,h1⟩,hk⟩:=hk
     obtain ⟨rfl,_⟩:=rv_val hi
     have hr:=rv_ref hx
     have hkn:=hxl l v' (by simp [labs])
     rcases h.mSome l _ hlk with ⟨g1,g2,g3⟩|⟨b,cap0,hφ,hbm,hdp,hown⟩
     · have:=(hr.2 g1).1;omega
     · obtain ⟨ad,cap,rfl,hnc,hcp⟩:=hr.1 b _ hφ
       obtain ⟨rfl,cs,e,q1,q2⟩:=hcp.resolve_left (by omega)
       refine ⟨_,w,hrun b _ _ cap q n h0 h1,h.gives (x:=.ptr l v' (i0+n.toNat) 0) ?_ (fun l' ver' hl=> ?_) ⟨rfl,rfl,hk⟩⟩
       · refine .ptr _ _ _ _ _ (fun b' sh' hb'=> ?_) (fun hb'=>by rw [hφ] at hb';cases hb') rfl
         rw [hφ] at hb';cases hb'
         rw [Nat.add_zero,Nat.add_mul];rfl
       · simp only [labs,q16,Prod.mk.injEq] at hl
         obtain ⟨rfl,rfl⟩:=hl
         exact hkn
   · rename_i v' xs hlk
     obtain ⟨rfl,rfl,hsz1,⟨h0,h1⟩,hk⟩:=hk
     obtain ⟨rfl,_⟩:=rv_val hi
     have hr:=rv_ref hx
     have hkn:=hxl l v' (by simp [labs])
     obtain ⟨b,cs,e,sh2,hφ,_⟩:=h.mSome l _ hlk
     obtain ⟨ad,cap,rfl,hnc,hcp⟩:=hr.1 b _ hφ
     obtain ⟨rfl,cs,e,q1,q2⟩:=hcp.resolve_left (by omega)
     refine ⟨_,w,hrun b _ _ cap q n h0 h1,h.gives (x:=.ptr l v' 0 n.toNat) ?_ (fun l' ver' hl=> ?_) ⟨rfl,rfl,hk⟩⟩
     · refine .ptr _ _ _ _ _ (fun b' sh' hb'=> ?_) (fun hb'=>by rw [hφ] at hb';cases hb') rfl
       rw [hφ] at hb';cases hb'
       have:ti.size=1:=hsz1
       rw [this,Nat.mul_one]
     · simp only [labs,q16,Prod.mk.injEq] at hl
       obtain ⟨rfl,rfl⟩:=hl
       exact hkn
   · exact hk.elim
 · exact hk.elim
theorem sSubI_out {sh:Sh} {u:Value} {i:AV} {m0:Mem} {k:AV→Prop}:∀{r:Mem},sSubI sh u i m0 k r→∃l v xs j n,lookB m0 l=some (.sub v sh xs u)∧i= .val (.int j n)∧(0≤n∧n<xs.length)∧k (.ptr l v n.toNat 0)
 |(l,.sub v sh' xs u')::r,h=>by
  obtain ⟨⟨h1,rfl,rfl⟩,h2⟩:=h
  split at h2
  · rename_i j n;exact ⟨l,v,xs,j,n,h1,rfl,h2.1,h2.2⟩
  · exact h2.elim
 |(l,.row v sh' d xs)::r,h=>sSubI_out (r:=r) h
 |(l,.box v xs)::r,h=>sSubI_out (r:=r) h
 |(l,.gone v)::r,h=>sSubI_out (r:=r) h
 |(l,.lent v xs i0 u0)::r,h=>sSubI_out (r:=r) h
theorem run_idxX {t:TypeId} {tt ti:TI} (htt:tiOf P t=some tt) (hks:tt.kind= .slice) (ht:tiOf P tt.elem=some ti) (h:RS B N φ fp S ts m a w) {x i:AV} {u v:Value} (hx:RV w S φ x u) (hxl:∀l ver,(l,ver)∈labs x→known m l ver) (hi:RV w S φ i v)
 {k:AV→Prop} (hk:sIdxX ti.sh m x i k):Runs B N a (fun x ts' m'=>ts'=ts∧m'=m∧k x) ((Instr.indexAt t u v).run P w):=by
 cases x with
 |val u0=>
  obtain ⟨l,v',xs,j,n,hlk,rfl,⟨h0,h1⟩,hk'⟩:=sSubI_out hk
  obtain ⟨rfl,_⟩:=rv_val hx
  obtain ⟨rfl,_⟩:=rv_val hi
  obtain ⟨b,cap,hφ,hbm,rfl,hown⟩:=h.mSome l _ hlk
  have hsl:=kind_slice htt hks
  have hs:=sizeOf_run ht w
  have hrun:(Instr.indexAt t (.slice (some ⟨b,0,none⟩) xs.length cap) (.int j n)).run P w= .ok (.pointer (some ⟨b,0+n.toNat*ti.size,none⟩)) w:=by
   simp [Instr.indexAt,asIntOf,run_underlying hsl,h0,h1,hs,Addr.add_none]
  refine ⟨_,w,hrun,h.gives (x:=.ptr l v' n.toNat 0) ?_ (fun l' ver' hl=> ?_) ⟨rfl,rfl,hk'⟩⟩
  · refine .ptr _ _ _ _ _ (fun b' sh' hb'=> ?_) (fun hb'=>by rw [hφ] at hb';cases hb') rfl
    rw [hφ] at hb';cases hb'
    rw [Nat.add_zero,Nat.zero_add];rfl
  · simp only [labs,q16,Prod.mk.injEq] at hl
    obtain ⟨rfl,rfl⟩:=hl
    exact ⟨_,hlk,Nat.le_refl _⟩
 |_=>exact run_idx htt hks ht h hx hxl hi hk
theorem run_index {t:TypeId} (ht:P.underlying t=some .string) (h:RS B N φ fp S ts m a w) {x i:AV} {u v:Value} (hx:RV w S φ x u) (hi:RV w S φ i v)
 {k:AV→Prop} (hk:sIndex x i k):Runs B N a (fun x ts' m'=>ts'=ts∧m'=m∧k x) ((Instr.index t u v).run P w):=by
 unfold sIndex at hk
 split at hk
 · rename_i s q n
   obtain ⟨⟨h0,h1⟩,hk⟩:=hk
   obtain ⟨rfl,_⟩:=rv_val hx
   obtain ⟨rfl,_⟩:=rv_val hi
   have hlt:n.toNat<s.size:=by omega
   have hlt':n.toNat<s.data.toList.length:=by simpa using hlt
   have e:s[n.toNat]? =some (s.data.toList.getD n.toNat 0):=by
    rw [q4,q5 hlt',getElem?_pos s n.toNat hlt]
    rfl
   refine ⟨.int .u8 (s.data.toList.getD n.toNat 0).toNat,w,?_,h.givesV rfl ⟨rfl,rfl,hk⟩⟩
   simp only [Instr.index,asIntOf,pure_bind,Sem.run_bind,run_underlying ht,Result.andThen_ok,h0,if_true,e]
   rfl
 · exact hk.elim
theorem run_len {t ty:TypeId} {ti:TI} (ht:tiOf P t=some ti) (h:RS B N φ fp S ts m a w) {x:AV} {u:Value} (hx:RV w S φ x u)
 {k:AV→Prop} (hk:sLen ti.kind m x k):Runs B N a (fun x ts' m'=>ts'=ts∧m'=m∧k x) ((Builtin.len_ #[t] ty #[u]).run P w):=by
 unfold sLen at hk
 have sl:∀(ad:Option Addr) (n c:Nat),ti.kind= .slice→(Builtin.len_ #[t] ty #[.slice ad n c]).run P w= .ok (.int .i64 n) w:=by
  intro ad n c hkd
  simp [Builtin.len_,run_underlying (kind_slice ht hkd),goInt]
 split at hk
 · rename_i sh xs hkd
   cases rv_arr hx with
   |nil _ ad=>exact ⟨_,w,sl ad 0 0 hkd,h.givesV rfl ⟨rfl,rfl,hk⟩⟩
   |arr _ _ b off cap cs e fr hS hb hcap hl hf hv=>exact ⟨_,w,sl _ _ _ hkd,h.givesV rfl ⟨rfl,rfl,hk⟩⟩
 · rename_i l v i n hkd
   have hr:=rv_ref hx
   unfold sLive at hk
   split at hk
   · rename_i v' xs hlk
     obtain ⟨rfl,hk⟩:=hk
     obtain ⟨b,cs,e,sh,hφ,_⟩:=h.mSome l _ hlk
     obtain ⟨ad,c,rfl,_⟩:=hr.1 b sh hφ
     exact ⟨_,w,sl _ _ _ hkd,h.givesV rfl ⟨rfl,rfl,hk⟩⟩
   · rename_i v' sh d xs hlk
     obtain ⟨rfl,hk⟩:=hk
     rcases h.mSome l _ hlk with ⟨h1,_⟩|⟨b,cap,hφ,_⟩
     · obtain ⟨rfl,ad,rfl⟩:=hr.2 h1
       exact ⟨_,w,sl _ _ _ hkd,h.givesV rfl ⟨rfl,rfl,hk⟩⟩
     · obtain ⟨ad,c,rfl,_⟩:=hr.1 b sh hφ
       exact ⟨_,w,sl _ _ _ hkd,h.givesV rfl ⟨rfl,rfl,hk⟩⟩
   · exact hk.elim
 · rename_i hkd
   obtain ⟨ad,rfl⟩:=rv_e0 hx
   exact ⟨_,w,sl ad 0 0 hkd,h.givesV rfl ⟨rfl,rfl,hk⟩⟩
 · rename_i ad n c hkd
   obtain ⟨rfl,_⟩:=rv_val hx
   exact ⟨_,w,sl ad n c hkd,h.givesV rfl ⟨rfl,rfl,hk⟩⟩
 · rename_i s hkd
   obtain ⟨rfl,_⟩:=rv_val hx
   refine ⟨.int .i64 s.size,w,?_,h.givesV rfl ⟨rfl,rfl,hk⟩⟩
   simp [Builtin.len_,run_underlying (kind_string ht hkd),goInt]
 · exact hk.elim
theorem run_fieldV (h:RS B N φ fp S ts m a w) {x:AV} {u:Value} (hx:RV w S φ x u) (hxl:∀l ver,(l,ver)∈labs x→known m l ver) {t:TypeId} {ti:TI} (ht:tiOf P t=some ti) {f:Nat} {fd:Nat × Nat × Bool} (hf:ti.fields[f]? =some fd)
 {k:AV→Prop} (hk:sPart fd.2.2 fd.2.1 fd.1 x k) (hagg:∃xs,x= .agg xs):Runs B N a (fun x ts' m'=>ts'=ts∧m'=m∧k x) ((Instr.field t u f).run P w):=by
 obtain ⟨xs,rfl⟩:=hagg
 obtain ⟨fs,g,hu,hg,rfl,i,d,hi,hd⟩:=field_of ht hf
 obtain ⟨cs,rfl,h1,h2,h3⟩:=rv_agg hx
 have hs:sizeOf' P g.type=i.size:=by simp [sizeOf',hi]
 have hag:(isAgg g.type).run P w= .ok (aggOf P g.type) w:=by
  unfold isAgg aggOf
  simp only [Sem.run_bind,run_underlying hd,Result.andThen_ok,hd]
  cases d<;>rfl
 simp only at hk
 rw [hs] at hk
 cases hb:aggOf P g.type with
 |true=>
  rw [hb] at hk hag
  obtain ⟨hlen,hk⟩:=hk
  refine ⟨.agg (cs.extract g.offset (g.offset+i.size)),w,?_,h.gives (x:=.agg ((xs.drop g.offset).take i.size)) (.agg _ _ (by simp;omega) (fun q hq=> ?_) fun q hq=> ?_) (fun l ver hl=> ?_) ⟨rfl,rfl,hk⟩⟩
  · simp [Instr.field,run_underlying hu,hg,asAgg,part,hag,sizeOf,typeInfo,hi]
  · simp only [List.length_take,List.length_drop] at hq
    simp only [q11,q8]
    exact h2 _ (by omega)
  · simp only [List.length_take,List.length_drop] at hq
    simp only [q11,q8]
    have:=h3 (g.offset+q) (by omega)
    have e:(cs.extract g.offset (g.offset+i.size)).toList.getD q Go.undef=cs.toList.getD (g.offset+q) Go.undef:=by
     simp only [q4,q2,Array.getElem?_extract]
     rw [if_pos (by omega)]
    rw [e];exact this
  · simp only [labs] at hl
    obtain ⟨q,hq,hl2⟩:=of_mem_labsL hl
    simp only [List.length_take,List.length_drop] at hq
    simp only [q11,q8] at hl2
    exact hxl l ver (by simp only [labs];exact mem_labsL (by omega) hl2)
 |false=>
  rw [hb] at hk hag
  simp only [sPart] at hk
  cases hj:xs[g.offset]? with
  |none=>rw [hj] at hk;exact hk.elim
  |some y=>
   rw [hj] at hk
   obtain ⟨hj1,hj2⟩:=q7.1 hj
   have hlt:g.offset<cs.size:=by omega
   refine ⟨cs.toList.getD g.offset Go.undef,w,?_,h.gives (x:=y) ?_ (fun l ver hl=> ?_) ⟨rfl,rfl,hk⟩⟩
   · have e:cs[g.offset]? =some (cs.toList.getD g.offset Go.undef):=by
      rw [q4,q2,q1 hlt];rfl
     simp only [Instr.field,run_underlying hu,Sem.run_bind,Result.andThen_ok,hg,asAgg,pure_bind,part,hag,e,q3,if_false]
     rfl
   · have:=h3 g.offset hj1
     rwa [hj2] at this
   · exact hxl l ver (by simp only [labs];exact mem_labsL hj1 (by rw [hj2];exact hl))
end
end Go.Vc
namespace Go.Vc
section
variable {P:Program} {B:Base} {N:Nat} {φ:Nat→LS} {fp:Nat→List Nat} {S:Nat→Prop} {ts:Env} {m:Mem} {a:Act} {w:World}
theorem Gives.mono {k k':AV→Env→Mem→Prop} {v:Value} {w:World} (h:Gives B N a k v w) (hk:∀x ts m,k x ts m→k' x ts m):Gives B N a k' v w:=by
 obtain ⟨φ,fp,S,ts,m,x,h1,h2,h3,h4⟩:=h
 exact ⟨φ,fp,S,ts,m,x,h1,h2,h3,hk _ _ _ h4⟩
theorem Runs.mono {k k':AV→Env→Mem→Prop} {r:Result Value} (h:Runs B N a k r) (hk:∀x ts m,k x ts m→k' x ts m):Runs B N a k' r:=by
 obtain ⟨v,w',h1,h2⟩:=h
 exact ⟨v,w',h1,h2.mono hk⟩
theorem known_evs (h:RS B N φ fp S ts m a w) (l:List (Nat × Operand)):∀p,p∈l.map (fun p=>(p.1,Vc.ev ts p.2))→∀q,q∈labs p.2→known m q.1 q.2:=by
 intro p hp q hq
 obtain ⟨p0,_,rfl⟩:=q15.1 hp
 exact h.evL p0.2 q.1 q.2 hq
theorem call_sound {f:FuncId} {d:Nat} {xs:List AV} {vs:Array Value} (h:RS B N φ fp S ts m a w) (hxs:RdL (RV w S φ) xs vs.toList) (hxl:∀i (hi:i<xs.length) l ver,(l,ver)∈labs xs[i]→known m l ver) {k:AV→Mem→Prop} (hk:sCall P f d xs m k):
 Enters P f∧Calls P f vs w fun e w'=>∃v,e= .returned v∧Gives B N a (fun x ts' m'=>ts'=ts∧k x m') v w':=by
 have hk':sTrees m (fun ts=>sCallT P f d xs ts m k ⟨⟩) [] xs:=by
  cases xs with
  |nil=>exact hk
  |cons x r=>exact hk
 have owned:∀(trs:List AV) (post:AV→Prop),RdL (Rd w (Now w)) trs vs.toList→Fn P f trs true post→(∀r,post r→sMat (1000*(d+1)) r m k)→
  Calls P f vs w fun e w'=>∃v,e= .returned v∧Gives B N a (fun x ts' m'=>ts'=ts∧k x m') v w':=by
  intro trs post hrd hfn hpost
  refine (hfn.2 w (Now w) vs (fun b hb=>hb) (h.kon.mono (fun _ _=>rfl) fun b hb=>(h.sB b hb).1) (by simpa using hrd.1) hrd.2).mono ?_
  rintro e w' ⟨r,v,rfl,hr,hg,hres⟩
  simp only [FnRes,if_true] at hres
  obtain ⟨fs,hown,hnd,hfr⟩:=hres
  have hRS:=h.grown hg
  obtain ⟨φ',fp',y,m',g1,g2,g3,g4⟩:=mat_out hRS hown hnd (fun b hb=>⟨q20 h.size (hfr b hb),fun hs=>by have:=(h.sB b hs).1;have:=hfr b hb;omega,fun l hl=>by have:=(h.fpB l b hl).1;have:=hfr b hb;omega⟩) _ (hpost r hr)
  exact ⟨v,rfl,φ',fp',S,ts,m',y,g1.rs,g3,g4,rfl,g2⟩
 have io:sCallIo P f xs m k→Enters P f∧Calls P f vs w fun e w'=>∃v,e= .returned v∧Gives B N a (fun x ts' m'=>ts'=ts∧k x m') v w':=
  fun hi=>hi B N φ fp S ts a w vs h (by simpa using hxs.1) hxs.2 hxl
 by_cases hlab:noLabs xs
 · have hct:=trees_S xs [] hlab hk'
   rcases hct with hct|hct
   · exact io hct
   obtain ⟨own,post,hfn,hshare,hpost⟩:=hct
   rw [List.reverse_nil,q17] at hfn
   have lab:∀(xs:List AV),noLabs xs→∀i (hi:i<xs.length),labs xs[i]=[]:=by
    intro xs
    induction xs with
    |nil=>intro _ i hi;exact absurd hi (q21 _)
    |cons x r ih=>
     intro hl i hi
     cases i with
     |zero=>exact hl.1.1
     |succ i=>exact ih hl.2 i (by simpa using hi)
   have hrd:∀i (hi:i<xs.length),Rd w S xs[i] (vs.toList.getD i Go.undef):=fun i hi=>rd_of_rv (hxs.2 i hi) (lab xs hlab i hi)
   refine ⟨hfn.1,?_⟩
   cases own with
   |true=>exact owned xs post ⟨hxs.1,fun i hi=>(hrd i hi).mono (fun _ _=>rfl) fun b hb=>(h.sB b hb).1⟩ hfn hpost
   |false=>
    refine (hfn.2 w S vs (fun b hb=>(h.sB b hb).1) h.kon (by simpa using hxs.1) hrd).mono ?_
    rintro e w' ⟨r,v,rfl,hr,hg,hres⟩
    simp only [FnRes,q3,if_false] at hres
    have hRS:=(h.grown hg).hold (fun b=>w.heap.size≤b∧b<w'.heap.size) (fun b hb=>⟨hb.2,q20 h.size hb.1,fun l hl=>by have:=(h.fpB l b hl).1;omega⟩)
    exact ⟨v,rfl,φ,fp,_,ts,m,r,hRS,.rd _ _ hres,fun l ver hl=>(by rw [labs_rd hres] at hl;cases hl),rfl,hpost r hr⟩
 · obtain ⟨trs,hct,hrd⟩:=trees_out h xs vs.toList [] [] hxs ⟨rfl,fun i hi=>absurd hi (q21 _)⟩ hk'
   rw [q17] at hrd
   rcases hct with hct|hct
   · exact io hct
   obtain ⟨own,post,hfn,hshare,hpost⟩:=hct
   refine ⟨hfn.1,?_⟩
   cases own with
   |true=>exact owned trs post hrd hfn hpost
   |false=>exact absurd (hshare rfl) hlab
theorem evs_RdL (h:RS B N φ fp S ts m a w) (l:List Operand):RdL (RV w S φ) (l.map (Vc.ev ts)) (l.map a.eval):=by
 refine ⟨by simp,fun i hi=> ?_⟩
 simp only [List.length_map] at hi
 simp only [q9,q4,List.getElem?_map,q5 hi,Option.map_some,Option.getD_some]
 exact h.ev _
theorem parts_toArray (l:Array (Nat × Operand)) (a:Act):(l.map fun (i,x)=>(i,a.eval x))=((l.toList.map fun p=>(p.1,a.eval p.2)).toArray):=by
 apply Array.ext';simp
theorem run_nil {t:TypeId} {ti:TI} (ht:tiOf P t=some ti) (hks:ti.kind= .slice) (a:Option Addr) (n c:Nat) (w:World):(Op.equal t (.slice a n c) (.slice none 0 0)).run P w= .ok a.isNone w:=by
 have hu:=kind_slice ht hks
 show (Op.equalIn (9999+1) t (.slice a n c) (.slice none 0 0)).run P w=_
 have:(underlying t).run P w= .ok (.slice ti.elem) w:=by simp [underlying,hu]
 rw [Op.equalIn,Sem.run_bind,this]
 cases a<;>rfl
theorem nilB_out (h:RS B N φ fp S ts m a w) {x:AV} {u:Value} (hx:RV w S φ x u) {k:Bool→Prop} (hk:sNilB x m k):∃ad n c,u= .slice ad n c∧k ad.isNone:=by
 unfold sNilB at hk
 split at hk
 · rename_i sh xs
   cases hx with
   |rd _ _ hr=>cases hr with
    |nil _ ad=>exact ⟨ad,0,0,rfl,hk _ fun _=>rfl⟩
    |arr _ _ b off cap cs e fr _ _ _ _ _ _=>exact ⟨_,_,_,rfl,hk _ fun e=>by simp at e⟩
 · rename_i l v i n
   obtain ⟨r1,r2⟩:=rv_ref hx
   unfold sLive at hk
   split at hk
   · rename_i v' xs hlk
     obtain ⟨rfl,hk⟩:=hk
     obtain ⟨b,cs,e,sh,hφ,_⟩:=h.mSome l _ hlk
     obtain ⟨ad,cap,rfl,hn,hc⟩:=r1 b sh hφ
     refine ⟨ad,n,cap,rfl,hk _ fun e=> ?_⟩
     rcases hc with rfl|⟨rfl,_⟩
     · omega
     · simp at e
   · rename_i v' sh d xs hlk
     obtain ⟨rfl,hk⟩:=hk
     rcases h.mSome l _ hlk with ⟨h1,_⟩|⟨b,cap,hφ,_⟩
     · obtain ⟨rfl,ad,rfl⟩:=r2 h1
       exact ⟨ad,0,0,rfl,hk _ fun _=>rfl⟩
     · obtain ⟨ad,cap,rfl,hn,hc⟩:=r1 b sh hφ
       refine ⟨ad,n,cap,rfl,hk _ fun e=> ?_⟩
       rcases hc with rfl|⟨rfl,_⟩
       · omega
       · simp at e
   · exact hk.elim
 · cases hx with
   |rd _ _ hr=>cases hr with
    |e0 ad=>exact ⟨ad,0,0,rfl,hk _⟩
 · obtain ⟨rfl,_⟩:=rv_val hx
   exact ⟨none,0,0,rfl,hk⟩
 · exact hk.elim
theorem run_binN {op:BinOp} {t:TypeId} {ti:TI} (h:RS B N φ fp S ts m a w) (ht:tiOf P t=some ti) {x y:AV} {u v:Value} (hx:RV w S φ x u) (hy:RV w S φ y v) {ox oy:Operand} {k:AV→Prop}
 (hk:sBinN op ti.kind x y (cst oy) m k):∃r,(do eqGuard op t ox oy u v;binOp op t u v:Sem Value).run P w= .ok r w∧Scal k r:=by
 unfold sBinN at hk
 split at hk
 · rename_i hks
   obtain ⟨ad,n,c,rfl,hk⟩:=nilB_out h hx hk
   obtain ⟨rfl,_⟩:=rv_val hy
   refine ⟨.bool ad.isNone,?_,rfl,hk⟩
   have:(binOp .eql t (.slice ad n c) (.slice none 0 0)).run P w= .ok (.bool ad.isNone) w:=by
    simp only [binOp,Sem.run_bind,run_nil ht hks];rfl
   simp only [Sem.run_bind]
   have hg:(eqGuard .eql t ox oy (.slice ad n c) (.slice none 0 0)).run P w= .ok () w:=by simp [eqGuard]
   rw [hg];exact this
 · rename_i hks
   obtain ⟨ad,n,c,rfl,hk⟩:=nilB_out h hx hk
   obtain ⟨rfl,_⟩:=rv_val hy
   refine ⟨.bool (!ad.isNone),?_,rfl,hk⟩
   have:(binOp .neq t (.slice ad n c) (.slice none 0 0)).run P w= .ok (.bool (!ad.isNone)) w:=by
    simp only [binOp,Sem.run_bind,run_nil ht hks];rfl
   simp only [Sem.run_bind]
   have hg:(eqGuard .neq t ox oy (.slice ad n c) (.slice none 0 0)).run P w= .ok () w:=by simp [eqGuard]
   rw [hg];exact this
 · rename_i hks
   obtain ⟨ms,hu⟩:=kind_iface ht hks
   obtain ⟨rfl,_⟩:=rv_val hy
   have e1:∀(d:Nat) u x,(Op.equalIn (d+1) t (.iface u x) .nilIface).run P w= .ok false w:=fun d u x=>by rw [Op.equalIn];simp [run_underlying hu]
   have e2:∀(d:Nat),(Op.equalIn (d+1) t .nilIface .nilIface).run P w= .ok true w:=fun d=>by rw [Op.equalIn];simp [run_underlying hu]
   have g1:∀op u x,(eqGuard op t ox oy (.iface u x) .nilIface).run P w= .ok () w:=fun op u x=>by cases op<;>simp [eqGuard]
   have g2:∀op,cst oy=true→(eqGuard op t ox oy .nilIface .nilIface).run P w= .ok () w:=fun op hc=>by
    cases oy<;>simp [cst] at hc
    cases op<;>simp [eqGuard]
   unfold sIfc at hk
   split at hk
   · obtain ⟨rfl,_⟩:=rv_val hx
     exact ⟨_,(by simp only [Sem.run_bind,g2 _ hk.1,Result.andThen_ok,binOp,Op.equal,Op.maxDepth];simp [e2]),rfl,hk.2⟩
   · obtain ⟨rfl,_⟩:=rv_val hx
     exact ⟨_,(by simp only [Sem.run_bind,g2 _ hk.1,Result.andThen_ok,binOp,Op.equal,Op.maxDepth];simp [e2]),rfl,hk.2⟩
   · obtain ⟨rfl,_⟩:=rv_val hx
     exact ⟨_,(by simp only [Sem.run_bind,g1,Result.andThen_ok,binOp,Op.equal,Op.maxDepth];simp [e1]),rfl,hk⟩
   · obtain ⟨rfl,_⟩:=rv_val hx
     exact ⟨_,(by simp only [Sem.run_bind,g1,Result.andThen_ok,binOp,Op.equal,Op.maxDepth];simp [e1]),rfl,hk⟩
   · exact hk.elim
 · exact run_bin ht hx hy hk
theorem run_conv_bytes {src t e:TypeId} {sh:Sh} {bs:List UInt8} {v:Value} (hs:P.underlying src=some (.slice e)) (he:P.underlying e=some (.int .u8)) (ht:P.underlying t=some .string)
 (h:Rd w (Now w) (.arr sh (bs.map fun b=>.val (.int .u8 b.toNat))) v):(convert src t v).run P w= .ok (.string ⟨bs.toArray⟩) w:=by
 have hnil:∀(ad:Option Addr),(convert src t (.slice ad 0 0)).run P w= .ok (.string ⟨#[]⟩) w:=by
  intro ad
  cases ad with
  |none=>simp only [convert,Sem.run_bind,run_underlying hs,run_underlying ht,run_underlying he,Result.andThen_ok];rfl
  |some ad=>
   have:=run_convert_bytes_back (P:=P) w src t e ad 0 [] hs he ht (fun j hj=>absurd hj (q21 _))
   simpa using this
 generalize hxs:bs.map (fun b=>AV.val (.int .u8 b.toNat))=xs at h
 have hlen:xs.length=bs.length:=by rw [←hxs];simp
 cases h with
 |nil sh ad=>
  have:bs=[]:=List.eq_nil_of_length_eq_zero (by rw [←hlen];rfl)
  subst this
  exact hnil ad
 |arr sh xs b off cap cs e2 fr hS hb hcap hl hf hv=>
  rw [hlen]
  refine run_convert_bytes_back (P:=P) w src t e ⟨b,off,none⟩ cap bs hs he ht fun j hj=> ?_
  have hj2:j<xs.length:=by omega
  have h1:=hf j hj2
  have h2:=hv j hj2
  have hx:xs[j]= .val (.int .u8 bs[j].toNat):=by simp [←hxs]
  rw [hx] at h1 h2
  obtain ⟨ha,hz⟩:=h1
  have e1:sh=⟨1,false⟩:=by cases sh;simp_all
  subst e1
  have h4:elemV cs.toList (off+j*1) ⟨1,false⟩= .int .u8 bs[j].toNat:=by
   generalize elemV cs.toList (off+j*1) ⟨1,false⟩=u at h2
   cases h2;rfl
  rw [elemV_cell,Nat.mul_one] at h4
  have h5:off+j<cs.size:=by simp only [Nat.mul_one] at hl;omega
  rw [q4,q2,q1 h5] at h4
  have e3:(⟨b,off,none⟩:Addr).add j=⟨b,off+j,none⟩:=by unfold Addr.add;split<;>simp_all
  rw [e3]
  simp only [World.cell?,hb,Option.isSome_none,q3,↓reduceIte,q1 h5]
  exact congrArg some h4
theorem run_chr {n:Int} (h0:0≤n) (h1:n<128):(Conv.intToString n).run P w= .ok (.string ⟨#[UInt8.ofNat n.toNat]⟩) w:=by
 have hv:Utf8.valid n=true:=by
  unfold Utf8.valid
  simp;omega
 have:Utf8.encode n=⟨#[UInt8.ofNat n.toNat]⟩:=by
  unfold Utf8.encode
  simp only [hv,if_true]
  rw [if_pos (by omega)]
 simp only [Conv.intToString,this];rfl
theorem op_sound {o:Oper} {next:Act→World→Prop} {Q:Exit→Act→World→Prop} (h:RS B N φ fp S ts m a w) {k:AV→Mem→Prop} (hk:sOp P (o.dst.getD 0) o.op ts m k)
 (hnext:∀v w',Gives B N a (fun x ts' m'=>ts'=ts∧k x m') v w'→next (a.put o.dst v) w'):o.wp P a w next Q:=by
 have V:∀s:Sem Value,execOp a.eval o=(do pure (.value (←s)):Sem Next)→Runs B N a (fun x ts' m'=>ts'=ts∧k x m') (s.run P w)→o.wp P a w next Q:=by
  intro s hs ⟨v,w',h1,h2⟩
  unfold Oper.wp
  rw [hs]
  simp only [Sem.run_bind,h1,Result.andThen_ok,Sem.run_pure]
  exact hnext v w' h2
 have Vm:∀s:Sem Value,∀k':AV→Prop,execOp a.eval o=(do pure (.value (←s)):Sem Next)→Runs B N a (fun x ts' m'=>ts'=ts∧m'=m∧k' x) (s.run P w)→(∀x,k' x→k x m)→o.wp P a w next Q:=by
  intro s k' hs hr hkk
  exact V s hs (hr.mono fun x ts m ⟨h1,h2,h3⟩=>⟨h1,by rw [h2];exact hkk x h3⟩)
 have V0:∀(x:AV) (v:Value),execOp a.eval o=(pure (.value v):Sem Next)→RV w S φ x v→(∀l ver,(l,ver)∈labs x→known m l ver)→k x m→o.wp P a w next Q:=by
  intro x v hs hx hl hkx
  unfold Oper.wp
  rw [hs]
  exact hnext v w (h.gives hx hl ⟨rfl,hkx⟩)
 cases hop:o.op with
 |move x=>
  rw [hop] at hk
  exact V0 _ (a.eval x) (by simp only [execOp,hop]) (h.ev x) (h.evL x) hk
 |assign x=>
  rw [hop] at hk
  exact V0 _ (a.eval x) (by simp only [execOp,hop]) (h.ev x) (h.evL x) hk
 |pick c x y=>
  rw [hop] at hk
  have hk:sPick (Vc.ev ts c) (Vc.ev ts x) (Vc.ev ts y) fun v=>k v m:=hk
  have hc:=h.ev c
  unfold sPick at hk
  split at hk
  · rename_i cb hcv
    rw [hcv] at hc
    obtain ⟨hcc,_⟩:=rv_val hc
    cases cb with
    |true=>exact V0 _ (a.eval x) (by simp [execOp,hop,←hcc,asBool]) (h.ev x) (h.evL x) (hk.1 rfl)
    |false=>exact V0 _ (a.eval y) (by simp [execOp,hop,←hcc,asBool]) (h.ev y) (h.evL y) (hk.2 rfl)
  · exact hk.elim
 |alloc t=>
  rw [hop] at hk
  obtain ⟨ti,ht,hk⟩:=sTI_out hk
  exact V _ (by simp only [execOp,hop]) (run_alloc h ht _ hk)
 |box t x=>
  rw [hop] at hk
  exact V _ (by simp only [execOp,hop]) (run_box h (h.ev x) (h.evL x) t _ hk)
 |build t parts=>
  rw [hop] at hk
  obtain ⟨ti,ht,hk⟩:=sTI_out hk
  obtain ⟨hks,hk⟩:=sSt_out hk
  refine Vm (Instr.build t ((parts.toList.map fun p=>(p.1,a.eval p.2)).toArray)) (fun x=>k x m) (by simp only [execOp,hop,parts_toArray]) ?_ (fun _ h=>h)
  exact run_build' ht hks (fun fs hfs f hf=>(fields_of ht fs hfs f hf).1) h (PR_map h parts.toList) (known_evs h parts.toList) hk
 |buildSlice t n parts=>
  rw [hop] at hk
  obtain ⟨tt,htt,hk⟩:=sTI_out hk
  obtain ⟨hks,hk⟩:=sSl_out hk
  obtain ⟨ti,ht,hk⟩:=sTI_out hk
  refine V (Instr.buildSlice t n ((parts.toList.map fun p=>(p.1,a.eval p.2)).toArray)) (by simp only [execOp,hop,parts_toArray]) ?_
  exact run_buildSliceX htt hks ht h (PR_map h parts.toList) _ n hk
 |load t x=>
  rw [hop] at hk
  obtain ⟨ti,ht,hk⟩:=sTI_out hk
  exact V _ (by simp only [execOp,hop]) (run_loadX ht h (h.ev x) (h.evL x) hk)
 |store t p y=>
  rw [hop] at hk
  obtain ⟨ti,ht,hk⟩:=sTI_out hk
  obtain ⟨w',hr,φ',fp',S',ts',m',hRS,rfl,hkk⟩:=run_storeY ht h (h.ev p) (h.ev y) (h.evL y) hk
  unfold Oper.wp
  simp only [execOp,hop,Sem.run_bind,hr,Result.andThen_ok,Sem.run_pure]
  exact hnext _ w' (hRS.gives (x:=.undef) (.rd _ _ (.undef _)) (fun _ _ hl=>by cases hl) ⟨rfl,hkk⟩)
 |nilCheck x=>
  rw [hop] at hk
  have hk:sNil m (Vc.ev ts x) fun v=>k v m:=hk
  have hx:=h.ev x
  have hxl:=h.evL x
  unfold sNil at hk
  split at hk
  · rename_i l v i j hv
    rw [hv] at hx hxl
    obtain ⟨⟨b,sh,hφ⟩,hk⟩:=live_out h (rv_ptr2 hx).1 hk
    have:=rv_ptr hx b sh hφ
    exact V0 _ (a.eval x) (by simp only [execOp,hop,this]) hx hxl hk
  · rename_i sh xs i j hv
    rw [hv] at hx hxl
    have hx':=rv_eptr hx
    cases hq:a.eval x with
    |pointer ad=>
     rw [hq] at hx'
     cases hx'
     exact V0 _ _ (by simp only [execOp,hop,hq]) (hq▸hx) hxl hk
    |_=>rw [hq] at hx';cases hx'
  · rename_i f xs hv
    rw [hv] at hx hxl
    obtain ⟨cs,hcs,_⟩:=rv_clo hx
    exact V0 _ (a.eval x) (by simp only [execOp,hop,hcs]) hx hxl hk
  · exact hk.elim
 |binOp op t x y ty=>
  rw [hop] at hk
  obtain ⟨ti,ht,hk⟩:=sTI_out hk
  obtain ⟨r,hr,h1,h2⟩:=run_binS (h.ev x) (h.ev y) (ox:=x) (oy:=y) hk fun hk=>run_binN h ht (h.ev x) (h.ev y) (ox:=x) (oy:=y) hk
  exact V _ (by simp only [execOp,hop]) ⟨r,w,hr,h.givesV h1 ⟨rfl,h2⟩⟩
 |unOp op t x=>
  rw [hop] at hk
  have hx:=h.ev x
  cases op with
  |not=>
   have hk:sNot (Vc.ev ts x) fun v=>k v m:=hk
   unfold sNot at hk
   split at hk
   · rename_i b hv
     rw [hv] at hx
     obtain ⟨hb,_⟩:=rv_val hx
     exact V (Op.unary .not (a.eval x)) (by simp only [execOp,hop]) ⟨.bool (!b),w,by rw [←hb];rfl,h.givesV rfl ⟨rfl,hk⟩⟩
   · exact hk.elim
  |neg=>
   have hk:sNeg (Vc.ev ts x) fun v=>k v m:=hk
   unfold sNeg at hk
   split at hk
   · rename_i i n hv
     rw [hv] at hx
     obtain ⟨hb,_⟩:=rv_val hx
     exact V (Op.unary .neg (a.eval x)) (by simp only [execOp,hop]) ⟨.int i (i.wrap (0-n)),w,by rw [←hb];rfl,h.givesV rfl ⟨rfl,sWrap_out (c:=fun v=>k v m) hk⟩⟩
   · exact hk.elim
  |_=>exact hk.elim
 |convert src t x=>
  rw [hop] at hk
  obtain ⟨si,hsi,hk⟩:=sTI_out hk
  obtain ⟨ti,ht,hk⟩:=sTI_out hk
  have hx:=h.ev x
  obtain ⟨_,sd,_,_,hsd,_⟩:=kind_of hsi
  unfold sConvY at hk
  split at hk
  · rename_i hks hkd
    obtain ⟨ei,hei,hk⟩:=sTI_out hk
    unfold isU8 at hk
    split at hk
    · rename_i hke
      unfold sConvB at hk
      split at hk
      · rename_i s hv
        rw [hv] at hx
        obtain ⟨hb,_⟩:=rv_val hx
        obtain ⟨hl,hk⟩:=hk
        refine V (convert src t (a.eval x)) (by simp only [execOp,hop]) ?_
        rw [←hb]
        exact run_convB h (kind_string hsi hks) (kind_slice ht hkd) (kind_int hei hke) hl _ hk
      · exact hk.elim
    · exact hk.elim
  unfold sConvX at hk
  split at hk
  · rename_i hks hkd
    obtain ⟨ei,hei,hk⟩:=sTI_out hk
    unfold isU8 at hk
    split at hk
    · rename_i hke
      obtain ⟨y,hk,hrd,_,_⟩:=leafT_out h hx hk
      unfold sBytes at hk
      split at hk
      · rename_i sh xs
        obtain ⟨bs,rfl,hk2⟩:=sBytesL_out hk
        refine V (convert src t (a.eval x)) (by simp only [execOp,hop]) ⟨.string ⟨bs.toArray⟩,w,?_,h.givesV rfl ⟨rfl,hk2⟩⟩
        exact run_conv_bytes (kind_slice hsi hks) (kind_int hei hke) (kind_string ht hkd) hrd
      · exact hk.elim
    · exact hk.elim
  · rename_i i hks hkd
    unfold sChr at hk
    split at hk
    · rename_i j n hv
      rw [hv] at hx
      obtain ⟨hb,_⟩:=rv_val hx
      obtain ⟨⟨h0,h1⟩,hk⟩:=hk
      refine V (convert src t (a.eval x)) (by simp only [execOp,hop]) ⟨.string ⟨#[UInt8.ofNat n.toNat]⟩,w,?_,h.givesV rfl ⟨rfl,hk⟩⟩
      rw [←hb]
      simp only [convert,Sem.run_bind,run_underlying (kind_int hsi hks),run_underlying (kind_string ht hkd),Result.andThen_ok]
      exact run_chr h0 h1
    · exact hk.elim
  unfold sConv at hk
  split at hk
  · rename_i i j n hkd hv
    rw [hv] at hx
    obtain ⟨hb,_⟩:=rv_val hx
    refine V (convert src t (a.eval x)) (by simp only [execOp,hop]) ⟨.int i (i.wrap n),w,?_,h.givesV rfl ⟨rfl,sWrap_out (c:=fun v=>k v m) hk⟩⟩
    rw [←hb]
    simp only [convert,Sem.run_bind,run_underlying hsd,run_underlying (kind_int ht hkd),Result.andThen_ok]
    cases sd<;>rfl
  · rename_i s hkd hv
    rw [hv] at hx
    obtain ⟨hb,_⟩:=rv_val hx
    refine V (convert src t (a.eval x)) (by simp only [execOp,hop]) ⟨.string s,w,?_,h.givesV rfl ⟨rfl,hk⟩⟩
    rw [←hb]
    simp only [convert,Sem.run_bind,run_underlying hsd,run_underlying (kind_string ht hkd),Result.andThen_ok]
    cases sd<;>rfl
  · exact hk.elim
 |makeSlice t l c=>
  rw [hop] at hk
  obtain ⟨tt,htt,hk⟩:=sTI_out hk
  obtain ⟨hks,hk⟩:=sSl_out hk
  obtain ⟨ti,ht,hk⟩:=sTI_out hk
  exact V _ (by simp only [execOp,hop]) (run_make' htt hks ht h (h.ev l) (h.ev c) _ hk)
 |slice t x lo hi mx=>
  rw [hop] at hk
  have BVm:∀q:Option Operand,BV w S φ (q.map (Vc.ev ts)) (q.map a.eval):=by
   intro q
   cases q with
   |none=>trivial
   |some q=>exact h.ev q
  cases mx with
  |none=>
   have hk:sTI (tiOf P t) fun tt=>sSlK P tt (Vc.ev ts x) (lo.map (Vc.ev ts)) (hi.map (Vc.ev ts)) m fun v=>k v m:=by
    cases lo<;>exact hk
   obtain ⟨tt,htt,hk⟩:=sTI_out hk
   have hx:=h.ev x
   have hxl:=h.evL x
   generalize Vc.ev ts x=xv at hx hxl hk
   unfold sSlK at hk
   split at hk
   · rename_i hkd
     obtain ⟨hs,hk⟩:=hk
     refine Vm (Instr.sliceAt t (a.eval x) (lo.map a.eval) (hi.map a.eval) none) (fun x=>k x m) (by simp only [execOp,hop];rfl) ?_ (fun _ h=>h)
     refine run_slice' htt ⟨0,false⟩ (fun hc=>by rw [hkd] at hc;cases hc) (.inr hkd) h hx hxl (BVm lo) (BVm hi) ⟨fun hc=>(by rw [hkd] at hc;cases hc),fun hc=> ?_⟩ hk
     split at hs
     · exact absurd rfl (hc _)
     · exact hs.elim
   · rename_i hkd
     obtain ⟨hs,hk⟩:=hk
     obtain ⟨ti,ht,hk⟩:=sTI_out hk
     refine Vm (Instr.sliceAt t (a.eval x) (lo.map a.eval) (hi.map a.eval) none) (fun x=>k x m) (by simp only [execOp,hop];rfl) ?_ (fun _ h=>h)
     refine run_slice' htt ti.sh (fun _=>⟨ti,ht,rfl⟩) (.inl hkd) h hx hxl (BVm lo) (BVm hi) ⟨fun _ s hc=> ?_,fun _=>hkd⟩ hk
     rw [hc] at hs;exact hs
   · exact hk.elim
  |some mv=>
   cases lo with
   |some lv=>exact hk.elim
   |none=>
    obtain ⟨⟨h0,hm0⟩,hk⟩:=hk
    obtain ⟨tt,htt,hk⟩:=sTI_out hk
    obtain ⟨hks,hk⟩:=sSl_out hk
    obtain ⟨ti,ht,hk⟩:=sTI_out hk
    have hx:=h.ev x
    have hsl:(∃ad n c,a.eval x= .slice ad n c)∧k .e0 m:=by
     generalize a.eval x=u at hx
     generalize Vc.ev ts x=xv at hx hk
     unfold sSlice0 at hk
     split at hk
     · cases rv_arr hx with
       |nil _ ad=>exact ⟨⟨_,_,_,rfl⟩,hk⟩
       |arr=>exact ⟨⟨_,_,_,rfl⟩,hk⟩
     · rename_i l v i n
       have hr:=rv_ref hx
       unfold sLive at hk
       split at hk
       · rename_i v' xs hlk
         obtain ⟨rfl,hk⟩:=hk
         obtain ⟨b,cs,e,sh,hφ,_⟩:=h.mSome l _ hlk
         obtain ⟨ad,c,rfl,_⟩:=hr.1 b sh hφ
         exact ⟨⟨_,_,_,rfl⟩,hk⟩
       · rename_i v' sh d xs hlk
         obtain ⟨rfl,hk⟩:=hk
         rcases h.mSome l _ hlk with ⟨h1,_⟩|⟨b,cap,hφ,_⟩
         · obtain ⟨rfl,ad,rfl⟩:=hr.2 h1
           exact ⟨⟨_,_,_,rfl⟩,hk⟩
         · obtain ⟨ad,c,rfl,_⟩:=hr.1 b sh hφ
           exact ⟨⟨_,_,_,rfl⟩,hk⟩
       · exact hk.elim
     · obtain ⟨h1,hk⟩:=hk
       unfold isNil at h1
       split at h1
       · obtain ⟨ad,rfl⟩:=rv_e0 hx;exact ⟨⟨_,_,_,rfl⟩,hk⟩
       · obtain ⟨rfl,_⟩:=rv_val hx;exact ⟨⟨_,_,_,rfl⟩,hk⟩
       · cases h1
    obtain ⟨⟨ad,n,c,hu⟩,hk⟩:=hsl
    have z0:∀q:Option Operand,is0 q=true→∃j,q.map a.eval=some (.int j 0):=by
     intro q hq
     unfold is0 at hq
     split at hq
     · rename_i j n
       have:n=0:=by simpa using hq
       subst this;exact ⟨j,rfl⟩
     · cases hq
    obtain ⟨jh,ejh⟩:=z0 hi h0
    obtain ⟨jm,ejm⟩:=z0 (some mv) hm0
    refine V (Instr.sliceAt t (a.eval x) none (hi.map a.eval) ((some mv).map a.eval)) (by simp only [execOp,hop,Option.map_none]) ⟨.slice ad 0 0,w,?_,h.gives (x:=.e0) (.rd _ _ (.e0 _)) (fun _ _ hl=>by cases hl) ⟨rfl,hk⟩⟩
    rw [hu,ejh,ejm]
    have hund:=kind_slice htt hks
    unfold Instr.sliceAt
    simp [run_underlying hund,Instr.slice,Instr.sliceBounds,run_sliceBound,sizeOf_run ht]
 |fieldAddr t x f=>
  rw [hop] at hk
  obtain ⟨ti,ht,hk⟩:=sTI_out hk
  obtain ⟨fd,hf,hsz,hk⟩:=sFld_out hk
  exact Vm _ (fun x=>k x m) (by simp only [execOp,hop]) (run_field ht h (h.ev x) (h.evL x) hf hsz hk) (fun _ h=>h)
 |field t x f=>
  rw [hop] at hk
  obtain ⟨ti,ht,hk⟩:=sTI_out hk
  obtain ⟨fd,hf,hk⟩:=sFld_out hk
  have hx:=h.ev x
  have hxl:=h.evL x
  unfold sPartA at hk
  split at hk
  · rename_i ys hv
    rw [hv] at hx hxl
    exact Vm _ (fun x=>k x m) (by simp only [execOp,hop]) (run_fieldV h hx hxl ht hf hk ⟨_,rfl⟩) (fun _ h=>h)
  · exact hk.elim
 |indexAddr t x i=>
  rw [hop] at hk
  obtain ⟨tt,htt,hk⟩:=sTI_out hk
  obtain ⟨hks,hk⟩:=sSl_out hk
  obtain ⟨ti,ht,hk⟩:=sTI_out hk
  exact Vm _ (fun x=>k x m) (by simp only [execOp,hop]) (run_idxX htt hks ht h (h.ev x) (h.evL x) (h.ev i) hk) (fun _ h=>h)
 |index t x i=>
  rw [hop] at hk
  obtain ⟨tt,htt,hkd,hk⟩:=sTI_out hk
  have hks:tt.kind= .string:=by
   generalize tt.kind=kk at hkd
   cases kk<;>first|rfl|exact hkd.elim
  exact Vm _ (fun x=>k x m) (by simp only [execOp,hop]) (run_index (kind_string htt hks) h (h.ev x) (h.ev i) hk) (fun _ h=>h)
 |extract x i=>
  rw [hop] at hk
  have hk:sTup i (Vc.ev ts x) fun v=>k v m:=hk
  have hx:=h.ev x
  have hxl:=h.evL x
  unfold sTup at hk
  split at hk
  · rename_i xs hv
    rw [hv] at hx hxl
    cases hi:xs[i]? with
    |none=>rw [hi] at hk;exact hk.elim
    |some y=>
     rw [hi] at hk
     obtain ⟨hi1,hi2⟩:=q7.1 hi
     obtain ⟨cs,hcs,h1,h2⟩:=rv_tup hx
     have hlt:i<cs.size:=by omega
     have e:cs[i]? =some (cs.toList.getD i Go.undef):=by
      rw [q4,q2,q1 hlt];rfl
     refine V (Instr.extract (a.eval x) i) (by simp only [execOp,hop]) ⟨cs.toList.getD i Go.undef,w,?_,h.gives (x:=y) ?_ (fun l ver hl=> ?_) ⟨rfl,hk⟩⟩
     · rw [hcs];simp only [Instr.extract,e,Sem.run_pure]
     · have:=h2 i hi1
       rwa [hi2] at this
     · exact hxl l ver (by simp only [labs];exact mem_labsL hi1 (by rw [hi2];exact hl))
  · exact hk.elim
 |call c=>
  rw [hop] at hk
  have BI:∀(b:Builtin) (s:Sem Value),c.callee= .builtin b→(∀cs,builtin b c.argTypes o.type cs (c.args.map a.eval)=(do pure (.value (←s)):Sem Next))→Runs B N a (fun x ts' m'=>ts'=ts∧k x m') (s.run P w)→o.wp P a w next Q:=by
   intro b s hc hb hr
   refine V s ?_ hr
   simp only [execOp,hop,resolve,hc,pure_bind,invoke,hb]
  have ha:∀l,c.args.toList=l→c.args.map a.eval=(l.map a.eval).toArray:=by
   intro l hl
   apply Array.ext';simp [←hl]
  have hk:(match c.callee,c.args.toList with
   | .builtin .len,[x]=>match c.argTypes.toList with|t::_=>sTI (tiOf P t) fun ti=>sLen ti.kind m (Vc.ev ts x) fun v=>k v m| []=>False
   | .builtin .max,[x,y]=>sMax (Vc.ev ts x) (Vc.ev ts y) fun v=>k v m
   | .builtin .min,[x,y]=>sMin (Vc.ev ts x) (Vc.ev ts y) fun v=>k v m
   | .builtin .min,[x,y,z]=>sMin (Vc.ev ts x) (Vc.ev ts y) fun u=>sMin u (Vc.ev ts z) fun v=>k v m
   | .builtin .append,[x,y]=>sAppTX P c.argTypes.toList (o.dst.getD 0) (Vc.ev ts x) (Vc.ev ts y) m k
   | .value (.func f),xs=>sCall P f (o.dst.getD 0) (xs.map (Vc.ev ts)) m k
   | .value (.tmp t),xs=>sCallV P (look ts t) (o.dst.getD 0) (xs.map (Vc.ev ts)) m k
   |_,_=>False):=hk
  split at hk
  · rename_i x hc hx
    split at hk
    · rename_i t r hty
      obtain ⟨ti,ht,hk⟩:=sTI_out hk
      have hr:=run_len (ty:=o.type) ht h (h.ev x) hk
      refine BI _ (Builtin.len_ c.argTypes o.type (c.args.map a.eval)) hc (fun _=>rfl) ?_
      have e0:c.argTypes=(t::r).toArray:=by apply Array.ext';simpa using hty
      have el:(Builtin.len_ c.argTypes o.type (c.args.map a.eval)).run P w=(Builtin.len_ #[t] o.type #[a.eval x]).run P w:=by
       rw [ha _ hx,e0]
       simp [Builtin.len_]
      rw [el]
      exact hr.mono fun x ts m ⟨h1,h2,h3⟩=>⟨h1,by rw [h2];exact h3⟩
    · exact hk.elim
  · rename_i x y hc hx
    have h1:=h.ev x
    have h2:=h.ev y
    unfold sMax at hk
    split at hk
    · rename_i i p j q e1 e2
      rw [e1] at h1;rw [e2] at h2
      obtain ⟨g1,_⟩:=rv_val h1
      obtain ⟨g2,_⟩:=rv_val h2
      refine BI _ (Builtin.max_ c.argTypes o.type (c.args.map a.eval)) hc (fun _=>rfl) ⟨_,w,?_,h.givesV rfl ⟨rfl,hk⟩⟩
      rw [ha _ hx]
      simp [Builtin.max_,←g1,←g2,Builtin.max2]
    · exact hk.elim
  · rename_i x y hc hx
    have h1:=h.ev x
    have h2:=h.ev y
    unfold sMin at hk
    split at hk
    · rename_i i p j q e1 e2
      rw [e1] at h1;rw [e2] at h2
      obtain ⟨g1,_⟩:=rv_val h1
      obtain ⟨g2,_⟩:=rv_val h2
      refine BI _ (Builtin.min_ c.argTypes o.type (c.args.map a.eval)) hc (fun _=>rfl) ⟨_,w,?_,h.givesV rfl ⟨rfl,hk⟩⟩
      rw [ha _ hx]
      simp [Builtin.min_,←g1,←g2,Builtin.min2]
    · exact hk.elim
  · rename_i x y z hc hx
    have h1:=h.ev x
    have h2:=h.ev y
    have h3:=h.ev z
    have hk:sMin (Vc.ev ts x) (Vc.ev ts y) fun u=>sMin u (Vc.ev ts z) fun v=>k v m:=hk
    generalize e1:Vc.ev ts x=X at hk h1
    generalize e2:Vc.ev ts y=Y at hk h2
    generalize e3:Vc.ev ts z=Z at hk h3
    cases X with
    |val X=>
     cases X with
     |int i p=>
      cases Y with
      |val Y=>
       cases Y with
       |int j q=>
        cases Z with
        |val Z=>
         cases Z with
         |int j2 r=>
          obtain ⟨g1,_⟩:=rv_val h1
          obtain ⟨g2,_⟩:=rv_val h2
          obtain ⟨g3,_⟩:=rv_val h3
          refine BI _ (Builtin.min_ c.argTypes o.type (c.args.map a.eval)) hc (fun _=>rfl) ⟨_,w,?_,h.givesV rfl ⟨rfl,hk⟩⟩
          rw [ha _ hx]
          simp [Builtin.min_,←g1,←g2,←g3,Builtin.min2]
         |_=>exact hk.elim
        |_=>exact hk.elim
       |_=>exact hk.elim
      |_=>exact hk.elim
     |_=>exact hk.elim
    |_=>exact hk.elim
  · rename_i x y hc hx
    unfold sAppTX at hk
    split at hk
    · rename_i t t' htys
      obtain ⟨tt,htt,hk⟩:=sTI_out hk
      obtain ⟨hks,hk⟩:=sSl_out hk
      obtain ⟨tt',htt',hk⟩:=sTI_out hk
      obtain ⟨hks',hk⟩:=sSl_out hk
      obtain ⟨ti,ht,hk⟩:=sTI_out hk
      have et:c.argTypes= #[t,t']:=by apply Array.ext';simpa using htys
      refine BI _ (Builtin.append_ c.argTypes o.type (c.args.map a.eval)) hc (fun _=>rfl) ?_
      rw [ha _ hx,et]
      exact run_appX htt hks htt' hks' ht h (h.ev x) (h.ev y) (h.evL x) _ hk
    · exact hk.elim
  · rename_i f hc
    obtain ⟨⟨fn,cd,hf,hnm,hbd⟩,hcalls⟩:=call_sound (vs:=c.args.map a.eval) h (by simpa using evs_RdL h c.args.toList) (fun i hi l ver hl=>by
     rw [q9] at hl;exact h.evL _ l ver hl) hk
    have hex:(execOp a.eval o).run P w= .ok (.enter f (c.args.map a.eval)) w:=by
     have hnm':¬fn.name= "runtime.NumGoroutine" :=by simpa using hnm
     simp [execOp,hop,resolve,hc,Act.eval,Deferred.ofValue,invoke,callFunc,hf,hnm',hbd]
    unfold Oper.wp
    rw [hex,Oper.upon_enter]
    refine hcalls.mono ?_
    rintro e w' ⟨v,rfl,hg⟩
    exact hnext v w' hg
  · rename_i t hc
    unfold sCallV at hk
    split at hk
    · rename_i f ys hf0
      have hx:=h.tm t
      rw [hf0] at hx
      obtain ⟨cs,hcs,hl,hy⟩:=rv_clo hx
      have hap:RdL (RV w S φ) (c.args.toList.map (Vc.ev ts)++ys) (c.args.map a.eval++cs).toList:=by
       have h1:=evs_RdL h c.args.toList
       refine ⟨by simp [hl],fun i hi=> ?_⟩
       rw [Array.toList_append,Array.toList_map,List.getElem_append]
       split
       · rename_i hi1
         have:=h1.2 i hi1
         rw [q4] at this ⊢
         rw [List.getElem?_append_left (by simpa using hi1)]
         exact this
       · rename_i hi1
         have hi2:i-(c.args.toList.map (Vc.ev ts)).length<ys.length:=by rw [List.length_append] at hi;omega
         have:=hy _ hi2
         rw [q4] at this ⊢
         rw [List.getElem?_append_right (by simpa using hi1)]
         simpa using this
      obtain ⟨⟨fn,cd,hf,hnm,hbd⟩,hcalls⟩:=call_sound (vs:=c.args.map a.eval++cs) h hap (fun i hi l ver hl=>by
       rw [List.getElem_append] at hl
       split at hl
       · rw [q9] at hl;exact h.evL _ l ver hl
       · exact h.tl t l ver (by rw [hf0];simp only [labs];exact mem_labsL (by rw [List.length_append] at hi;omega) hl)) hk
      have hex:(execOp a.eval o).run P w= .ok (.enter f (c.args.map a.eval++cs)) w:=by
       have hnm':¬fn.name= "runtime.NumGoroutine" :=by simpa using hnm
       have hcs':a.tmps.getD t Go.undef= .func (.func f) #[] cs:=hcs
       simp [execOp,hop,resolve,hc,Act.eval,hcs',Deferred.ofValue,invoke,callFunc,hf,hnm',hbd]
      unfold Oper.wp
      rw [hex,Oper.upon_enter]
      refine hcalls.mono ?_
      rintro e w' ⟨v,rfl,hg⟩
      exact hnext v w' hg
    · exact hk.elim
  · exact hk.elim
 |makeFunc fn first caps=>
  rw [hop] at hk
  cases fn with
  |func f=>
   obtain ⟨h1,hk⟩:first.toList=[]∧k (.clo f (caps.toList.map (Vc.ev ts))) m:=hk
   have h1':first= #[]:=by apply Array.ext';simpa using h1
   subst h1'
   have hr:=evs_RdL h caps.toList
   refine V (Instr.makeFunc (.func f) (Array.map a.eval #[]) (caps.map a.eval)) (by simp only [execOp,hop]) ⟨.func (.func f) #[] (caps.map a.eval),w,by simp [Instr.makeFunc],h.gives (x:=.clo f (caps.toList.map (Vc.ev ts))) ?_ (fun l ver hl=> ?_) ⟨rfl,hk⟩⟩
   · exact .clo f _ _ (by simp) (by simpa using hr.2)
   · simp only [labs] at hl
     obtain ⟨i,hi,hl2⟩:=of_mem_labsL hl
     rw [q9] at hl2
     exact h.evL _ l ver hl2
  |_=>exact False.elim hk
 |_=>rw [hop] at hk;exact hk.elim
end
end Go.Vc
namespace Go.Vc
abbrev St:=Env→Mem→Prop
abbrev Post:=Exit→Env→Mem→Prop
def sGuard (want:Bool) (y:AV) (a b:Prop):Prop:=match y with
 | .val (.bool c)=>(c=want→a)∧(c≠want→b)
 | .tup []=>b
 |_=>False
@[congr] theorem sGuard_congr {w:Bool} {y y':AV} {a b:Prop} (h:y=y'):sGuard w y a b=sGuard w y' a b:=by rw [h]
theorem sGuard_u (w:Bool) (a b:Prop):sGuard w (.tup []) a b=b:=rfl
theorem sGuard_f (c:Bool) (a b:Prop):sGuard false (.val (.bool c)) a b=((c=false→a)∧(c=true→b)):=by simp [sGuard]
def dstOf (ops:List Oper) (j:Nat):Nat:=match (ops[j]?).bind (·.dst) with|some d=>d|none=>0
def putE (d:Option Nat) (x:AV) (ts:Env):Env:=match d with|some d=>(d,x)::ts|none=>ts
theorem putE_some (d:Nat) (x:AV) (ts:Env):putE (some d) x ts=(d,x)::ts:=rfl
def sL (P:Program) (ops:List Oper):List Oper→Env→Mem→St→Prop
 | [],ts,m,k=>k ts m
 |o::r,ts,m,k=>match o.guard with
  |none=>sOp P (o.dst.getD 0) o.op ts m fun x m'=>sL P ops r (putE o.dst x ts) m' k
  |some (j,want)=>sGuard want (look ts (dstOf ops j)) (sOp P (o.dst.getD 0) o.op ts m fun x m'=>sL P ops r (putE o.dst x ts) m' k) (sL P ops r (putE o.dst (.tup []) ts) m k)
theorem dstOf_cons (o:Oper) (l:List Oper) (j:Nat):dstOf (o::l) (j+1)=dstOf l j:=rfl
theorem dstOf_zero (d:Nat) (op:Op) (ty:TypeId) (p:String) (e:Array Edge) (g:Option (Nat × Bool)) (l:List Oper):dstOf (⟨some d,op,ty,p,e,g⟩::l) 0=d:=rfl
section
variable {P:Program} {B:Base} {N:Nat} {φ:Nat→LS} {fp:Nat→List Nat} {S:Nat→Prop} {ts:Env} {m:Mem} {a:Act} {w:World}
def opsOk (N:Nat) (ops:List Oper):Bool:=ops.all fun o=>match o.dst with|some d=>decide (d<N)|none=>true
theorem step_done {o:Oper} (hd:∀d,o.dst=some d→d<N) {k:AV→Mem→Prop} {v:Value} (hg:Gives B N a (fun x ts' m'=>ts'=ts∧k x m') v w) {K:St} (hK:∀x m',k x m'→K (putE o.dst x ts) m'):Done B N K (a.put o.dst v) w:=by
 cases hdst:o.dst with
 |none=>
  refine hg.skip fun x ts' m' ⟨h1,h2⟩=> ?_
  have:=hK x m' h2
  rw [hdst] at this
  rw [h1];exact this
 |some d=>
  refine hg.done (hd d hdst) fun x ts' m' ⟨h1,h2⟩=> ?_
  have:=hK x m' h2
  rw [hdst] at this
  rw [h1];exact this
theorem yield_of (h:RS B N φ fp S ts m a w) {ops:List Oper} {j:Nat} {c:Bool} (hl:look ts (dstOf ops j)= .val (.bool c)) (hj:∃d,((ops[j]?).bind (·.dst))=some d∧d<N):yielded ops.toArray a.tmps j=some c:=by
 obtain ⟨d,hd,hdN⟩:=hj
 have h0:dstOf ops j=d:=by unfold dstOf;rw [hd]
 rw [h0] at hl
 have ht:=h.tm d
 rw [hl] at ht
 obtain ⟨hv,_⟩:=rv_val ht
 have hsz:d<a.tmps.size:=by rw [h.tsz];exact hdN
 have e1:a.tmps[d]? =some (.bool c):=by
  rw [hv]
  simp [q0,q1 hsz]
 unfold yielded
 simp only [List.getElem?_toArray,hd,Option.bind_some,e1]
theorem yield_none (h:RS B N φ fp S ts m a w) {ops:List Oper} {j:Nat} (hl:look ts (dstOf ops j)= .tup []) (hj:∃d,((ops[j]?).bind (·.dst))=some d∧d<N):yielded ops.toArray a.tmps j=none:=by
 obtain ⟨d,hd,hdN⟩:=hj
 have h0:dstOf ops j=d:=by unfold dstOf;rw [hd]
 rw [h0] at hl
 have ht:=h.tm d
 rw [hl] at ht
 have hsz:d<a.tmps.size:=by rw [h.tsz];exact hdN
 have hv:a.tmps.getD d Go.undef= .tuple #[]:=by
  generalize a.tmps.getD d Go.undef=v at ht
  cases ht with
  |rd _ _ h=>cases h with
   |tup _ cs hl _=>rw [Array.eq_empty_of_size_eq_zero hl]
  |tup _ cs hl _=>rw [Array.eq_empty_of_size_eq_zero hl]
 have e1:a.tmps[d]? =some (.tuple #[]):=by
  rw [←hv]
  simp [q0,q1 hsz]
 unfold yielded
 simp only [List.getElem?_toArray,hd,Option.bind_some,e1]
def guardsOk (N:Nat) (ops:List Oper):Bool:=ops.all fun o=>match o.guard with
 |none=>true
 |some (j,_)=>match (ops[j]?).bind (·.dst) with|some d=>decide (d<N)|none=>false
theorem region_sound {ops:List Oper} (hok:opsOk N ops=true) (hgs:guardsOk N ops=true) {Q:Exit→Act→World→Prop} {K:St} (hQ:∀a w,Done B N K a w→Q .normal a w):
 ∀(l:List Oper) (i:Nat),ops.drop i=l→∀(φ:Nat→LS) (fp:Nat→List Nat) (S:Nat→Prop) (ts:Env) (m:Mem) (a:Act) (w:World),RS B N φ fp S ts m a w→sL P ops l ts m K→
  wpOps P ops.toArray Q ((List.range (ops.length-i)).map (· +i)) a w
 | [],i,hl,φ,fp,S,ts,m,a,w,h,hk=>by
   have:ops.length-i=0:=by
    have:=congrArg List.length hl;simpa using this
   rw [this]
   exact hQ a w ⟨φ,fp,S,ts,m,h,hk⟩
 |o::r,i,hl,φ,fp,S,ts,m,a,w,h,hk=>by
  have hi:i<ops.length:=by
   have:=congrArg List.length hl;simp at this;omega
  have hoi:ops[i]? =some o:=by
   have:=congrArg (·[0]?) hl
   simpa using this
  have hr:ops.drop (i+1)=r:=by
   have:=congrArg List.tail hl
   simpa using this
  have e:(List.range (ops.length-i)).map (· +i)=i::(List.range (ops.length-(i+1))).map (· +(i+1)):=by
   rw [show ops.length-i=(ops.length-(i+1))+1 by omega,List.range_succ_eq_map]
   simp [List.map_map,Function.comp_def];intro q hq;omega
  rw [e]
  have hoo:ops.toArray[i]? =some o:=by simpa using hoi
  simp only [wpOps,hoo]
  have hdo:∀d,o.dst=some d→d<N:=by
   intro d hd
   have:=List.all_eq_true.1 hok o (List.mem_of_getElem? hoi)
   rw [hd] at this;simpa using this
  have run:sOp P (o.dst.getD 0) o.op ts m (fun x m'=>sL P ops r (putE o.dst x ts) m' K)→o.wp P a w (wpOps P ops.toArray Q ((List.range (ops.length-(i+1))).map (· +(i+1)))) Q:=by
   intro hk
   refine op_sound h hk fun v w' hg=> ?_
   obtain ⟨φ',fp',S',ts',m',h1,h2⟩:=step_done (o:=o) (K:=fun ts m=>sL P ops r ts m K) hdo hg (fun x m' h=>h)
   exact region_sound hok hgs hQ r (i+1) hr φ' fp' S' ts' m' _ w' h1 h2
  have skip:sL P ops r (putE o.dst (.tup []) ts) m K→wpOps P ops.toArray Q ((List.range (ops.length-(i+1))).map (· +(i+1))) (a.put o.dst Go.undef) w:=by
   intro hk
   obtain ⟨φ',fp',S',ts',m',h1,h2⟩:=step_done (o:=o) (a:=a) (w:=w) (v:=Go.undef) (K:=fun ts m=>sL P ops r ts m K) (k:=fun x m'=>x= .tup []∧m'=m) hdo
    (h.gives (x:=.tup []) (.rd _ _ (.tup [] #[] rfl fun i hi=>absurd hi (q21 _))) (fun _ _ hl=>by cases hl) ⟨rfl,rfl,rfl⟩) (fun x m' ⟨h1,h2⟩=>by rw [h1,h2];exact hk)
   exact region_sound hok hgs hQ r (i+1) hr φ' fp' S' ts' m' _ w h1 h2
  cases hg:o.guard with
  |none=>
   simp only [sL,hg] at hk
   simp only [Region.wanted,hg,if_true]
   exact .inl (run hk)
  |some jw=>
   obtain ⟨j,want⟩:=jw
   simp only [sL,hg] at hk
   have hgo:=List.all_eq_true.1 hgs o (List.mem_of_getElem? hoi)
   rw [hg] at hgo
   unfold sGuard at hk
   split at hk
   · rename_i c hy
     have hj:∃d,((ops[j]?).bind (·.dst))=some d∧d<N:=by
      simp only at hgo
      split at hgo
      · rename_i d hd;exact ⟨d,hd,by simpa using hgo⟩
      · cases hgo
     have hyy:=yield_of h hy hj
     simp only [Region.wanted,hg,hyy]
     by_cases hc:c=want
     · subst hc
       simp only [beq_self_eq_true,if_true]
       exact .inl (run (hk.1 rfl))
     · have:(some c==some want)=false:=by simpa using hc
       simp only [this,q3,if_false]
       exact skip (hk.2 hc)
   · rename_i hy
     have hj:∃d,((ops[j]?).bind (·.dst))=some d∧d<N:=by
      simp only at hgo
      split at hgo
      · rename_i d hd;exact ⟨d,hd,by simpa using hgo⟩
      · cases hgo
     have hyy:=yield_none h hy hj
     simp only [Region.wanted,hg,hyy]
     have:((none:Option Bool)==some want)=false:=by simp
     simp only [this,q3,if_false]
     exact skip hk
   · exact hk.elim
def Ok (P:Program) (N:Nat) (c:Code) (ts:Env) (m:Mem) (Q:Post):Prop:=
 ∀(B:Base) (φ:Nat→LS) (fp:Nat→List Nat) (S:Nat→Prop) (a:Act) (w:World),RS B N φ fp S ts m a w→c.wp P (fun e a' w'=>Done B N (Q e) a' w') a w
structure Later (P:Program) (N:Nat) (c:Code) (ts:Env) (m:Mem) (Q:Post) (_:Pack (c,Q)):Prop where
 ok:Ok P N c ts m Q
def thn (Q:Post) (n:St):Post
 | .normal=>n
 | .exit i=>Q (.exit i)
 | .ret=>Q .ret
 |e=>Q e
theorem thn_normal (Q:Post) (n:St):thn Q n .normal=n:=rfl
theorem thn_ret (Q:Post) (n:St):thn Q n .ret=Q .ret:=rfl
theorem thn_exit (Q:Post) (n:St) (i:Nat):thn Q n (.exit i)=Q (.exit i):=rfl
def blk (Q:Post) (id:Nat):Post
 | .exit j=>if j=id then Q .normal else Q (.exit j)
 | .normal=>Q .normal
 | .ret=>Q .ret
 |e=>Q e
theorem blk_normal (Q:Post) (i:Nat):blk Q i .normal=Q .normal:=rfl
theorem blk_ret (Q:Post) (i:Nat):blk Q i .ret=Q .ret:=rfl
theorem blk_exit (Q:Post) (i j:Nat):blk Q i (.exit j)=if j=i then Q .normal else Q (.exit j):=rfl
def vc (P:Program) (N:Nat):Code→Env→Mem→Post→Prop
 | .skip,ts,m,Q=>Q .normal ts m
 | .region i ops false,ts,m,Q=>sL P ops.toList ops.toList ts m (Q .normal)
 | .region i ops true,ts,m,Q=>Ok P N (.region i ops true) ts m Q
 | .seq a b,ts,m,Q=>vc P N a ts m (thn Q fun ts' m'=>vc P N b ts' m' Q)
 | .cond c a b,ts,m,Q=>sIf (ev ts c) (vc P N a ts m Q) (vc P N b ts m Q)
 | .block id b,ts,m,Q=>vc P N b ts m (blk Q id)
 | .loop b,ts,m,Q=>Ok P N (.loop b) ts m Q
 | .exit id,ts,m,Q=>Q (.exit id) ts m
 | .ret,ts,m,Q=>Q .ret ts m
 |_,_,_,_=>False
theorem vc_skip (N:Nat) (ts:Env) (m:Mem) (Q:Post):vc P N .skip ts m Q=Q .normal ts m:=rfl
theorem vc_region (N i:Nat) (l:List Oper) (ts:Env) (m:Mem) (Q:Post):vc P N (.region i ⟨l⟩ false) ts m Q=sL P l l ts m (Q .normal):=rfl
theorem vc_draw (N i:Nat) (l:List Oper) (ts:Env) (m:Mem) (Q:Post):vc P N (.region i ⟨l⟩ true) ts m Q=Later P N (.region i ⟨l⟩ true) ts m Q ⟨⟩:=propext ⟨fun h=>⟨h⟩,fun h=>h.ok⟩
theorem vc_seq (N:Nat) (a b:Code) (ts:Env) (m:Mem) (Q:Post):vc P N (.seq a b) ts m Q=vc P N a ts m (thn Q fun ts' m'=>vc P N b ts' m' Q):=rfl
theorem vc_cond (N:Nat) (c:Operand) (a b:Code) (ts:Env) (m:Mem) (Q:Post):vc P N (.cond c a b) ts m Q=sIf (ev ts c) (vc P N a ts m Q) (vc P N b ts m Q):=rfl
theorem vc_block (N i:Nat) (b:Code) (ts:Env) (m:Mem) (Q:Post):vc P N (.block i b) ts m Q=vc P N b ts m (blk Q i):=rfl
theorem vc_loop (N:Nat) (b:Code) (ts:Env) (m:Mem) (Q:Post):vc P N (.loop b) ts m Q=Later P N (.loop b) ts m Q ⟨⟩:=propext ⟨fun h=>⟨h⟩,fun h=>h.ok⟩
theorem vc_exit (N i:Nat) (ts:Env) (m:Mem) (Q:Post):vc P N (.exit i) ts m Q=Q (.exit i) ts m:=rfl
theorem vc_ret (N:Nat) (ts:Env) (m:Mem) (Q:Post):vc P N .ret ts m Q=Q .ret ts m:=rfl
def codeOk (N:Nat):Code→Bool
 | .region _ ops false=>opsOk N ops.toList&&guardsOk N ops.toList
 | .seq a b=>codeOk N a&&codeOk N b
 | .cond _ a b=>codeOk N a&&codeOk N b
 | .block _ b=>codeOk N b
 |_=>true
theorem vc_sound:∀(c:Code) (ts:Env) (m:Mem) (Q:Post),codeOk N c=true→vc P N c ts m Q→Ok P N c ts m Q
 | .skip,ts,m,Q,_,h=>fun B φ fp S a w hRS=>wp_skip ⟨φ,fp,S,ts,m,hRS,h⟩
 | .region i ops false,ts,m,Q,hok,h=>fun B φ fp S a w hRS=>by
   simp only [codeOk,Bool.and_eq_true] at hok
   refine wp_region ?_
   have:=region_sound (P:=P) (B:=B) (Q:=fun e a' w'=>Done B N (Q e) a' w') hok.1 hok.2 (K:=Q .normal) (fun a w h=>h) ops.toList 0 (by simp) φ fp S ts m a w hRS h
   simpa using this
 | .region i ops true,ts,m,Q,_,h=>h
 | .seq a b,ts,m,Q,hok,h=>fun B φ fp S ac w hRS=>by
   simp only [codeOk,Bool.and_eq_true] at hok
   refine wp_seq (wp_mono (vc_sound a ts m _ hok.1 h B φ fp S ac w hRS) fun e a' w' hq=> ?_)
   obtain ⟨φ',fp',S',ts',m',h1,h2⟩:=hq
   cases e with
   |normal=>exact vc_sound b ts' m' Q hok.2 h2 B φ' fp' S' a' w' h1
   |_=>exact ⟨φ',fp',S',ts',m',h1,h2⟩
 | .cond c x y,ts,m,Q,hok,h=>fun B φ fp S ac w hRS=>by
   simp only [codeOk,Bool.and_eq_true] at hok
   have h:sIf (ev ts c) (vc P N x ts m Q) (vc P N y ts m Q):=h
   have hc:=hRS.ev c
   unfold sIf at h
   split at h
   · rename_i b hv
     rw [hv] at hc
     obtain ⟨hb,_⟩:=rv_val hc
     refine wp_cond_split hb.symm (fun ht=>vc_sound x ts m Q hok.1 (h.1 ht) B φ fp S ac w hRS) (fun hf=>vc_sound y ts m Q hok.2 (h.2 hf) B φ fp S ac w hRS)
   · exact h.elim
 | .block id b,ts,m,Q,hok,h=>fun B φ fp S ac w hRS=>by
   refine wp_block (wp_mono (vc_sound b ts m _ hok h B φ fp S ac w hRS) fun e a' w' hq=> ?_)
   obtain ⟨φ',fp',S',ts',m',h1,h2⟩:=hq
   cases e with
   |exit j=>
    simp only [blk] at h2
    simp only [Exit.inBlock]
    split
    · rename_i hj;rw [if_pos hj] at h2;exact ⟨φ',fp',S',ts',m',h1,h2⟩
    · rename_i hj;rw [if_neg hj] at h2;exact ⟨φ',fp',S',ts',m',h1,h2⟩
   |_=>exact ⟨φ',fp',S',ts',m',h1,h2⟩
 | .loop b,ts,m,Q,_,h=>h
 | .exit id,ts,m,Q,_,h=>fun B φ fp S a w hRS=>wp_exit ⟨φ,fp,S,ts,m,hRS,h⟩
 | .ret,ts,m,Q,_,h=>fun B φ fp S a w hRS=>wp_ret ⟨φ,fp,S,ts,m,hRS,h⟩
 | .rangeFunc ..,_,_,_,_,h=>h.elim
 | .scope ..,_,_,_,_,h=>h.elim
 | .label ..,_,_,_,_,h=>h.elim
 | .goto ..,_,_,_,_,h=>h.elim
 | .refuse ..,_,_,_,_,h=>h.elim
end
end Go.Vc
namespace Go.Vc
def verIs (b:Option Blk) (v:Nat):Prop:=match b with|some (.gone _)=>False|some k=>k.ver=v|none=>False
theorem verIs_row (u v:Nat) (sh:Sh) (d:Bool) (xs:List AV):verIs (some (.row u sh d xs)) v=(u=v):=rfl
theorem verIs_box (u v:Nat) (xs:List AV):verIs (some (.box u xs)) v=(u=v):=rfl
def noBlk (b:Option Blk):Prop:=match b with|none=>True|some (.gone _)=>True|_=>False
theorem noBlk_none:noBlk none=True:=rfl
def refArr (b b2:Option Blk) (l ver i n:Nat) (sh:Sh) (ys:List AV):Prop:=match b,b2 with
 |some (.row v sh' _ xs),none=>v=ver∧sh'=sh∧i+n≤xs.length∧(xs.drop i).take n=ys∧l<ioL
 |_,_=>False
def refV (m m2:Mem):AV→AV→Prop
 |_,.undef=>True
 | .val u,.val v=>u=v
 | .e0,.e0=>True
 | .arr sh xs,.arr sh' ys=>sh=sh'∧xs=ys
 | .ref l ver i n,.arr sh ys=>refArr (lookB m l) (lookB m2 l) l ver i n sh ys
 | .e0,.arr _ ys=>ys=[]
 | .val (.slice none 0 0),.arr _ ys=>ys=[]
 | .ref l ver i n,.ref l' ver' i' n'=>(l=l'∧i=i'∧n=n')∧verIs (lookB m l) ver∧verIs (lookB m2 l) ver'
 | .e0,.ref l' ver' i' n'=>(i'=0∧n'=0)∧noBlk (lookB m l')∧verIs (lookB m2 l') ver'
 | .val (.slice none 0 0),.ref l' ver' i' n'=>(i'=0∧n'=0)∧noBlk (lookB m l')∧verIs (lookB m2 l') ver'
 | .ptr l ver i j,.ptr l' ver' i' j'=>(l=l'∧i=i'∧j=j')∧verIs (lookB m l) ver∧verIs (lookB m2 l) ver'
 | .eptr sh xs i j,.eptr sh' ys i' j'=>sh=sh'∧xs=ys∧i=i'∧j=j'
 |_,_=>False
section
variable (m m2:Mem)
theorem refV_val (u v:Value):refV m m2 (.val u) (.val v)=(u=v):=by cases u<;>rfl
theorem refV_arr (sh:Sh) (xs ys:List AV):refV m m2 (.arr sh xs) (.arr sh ys)=(xs=ys):=by simp [refV]
theorem refV_ref (l ver i n ver' i' n':Nat):refV m m2 (.ref l ver i n) (.ref l ver' i' n')=((i=i'∧n=n')∧verIs (lookB m l) ver∧verIs (lookB m2 l) ver'):=by simp [refV]
theorem refV_nilRef (l' ver' i' n':Nat):refV m m2 (.val (.slice none 0 0)) (.ref l' ver' i' n')=((i'=0∧n'=0)∧noBlk (lookB m l')∧verIs (lookB m2 l') ver'):=rfl
theorem refV_ptr (l ver i j ver' i' j':Nat):refV m m2 (.ptr l ver i j) (.ptr l ver' i' j')=((i=i'∧j=j')∧verIs (lookB m l) ver∧verIs (lookB m2 l) ver'):=by simp [refV]
end
def refC (m m2:Mem):List AV→List AV→Prop
 | [],[]=>True
 |x::xs,y::ys=>(refV m m2 x y∧leaf y)∧refC m m2 xs ys
 |_,_=>False
theorem refC_nil (m m2:Mem):refC m m2 [] []=True:=rfl
theorem refC_cons (m m2:Mem) (x y:AV) (xs ys:List AV):refC m m2 (x::xs) (y::ys)=((refV m m2 x y∧leaf y)∧refC m m2 xs ys):=rfl
def refV1 (m m2:Mem):AV→AV→Prop
 | .clo f xs,.clo g ys=>f=g∧refC m m2 xs ys
 |x,y=>refV m m2 x y
theorem refV1_val (m m2:Mem) (x:AV) (v:Value):refV1 m m2 x (.val v)=refV m m2 x (.val v):=by cases x<;>rfl
theorem refV1_arr (m m2:Mem) (x:AV) (sh:Sh) (ys:List AV):refV1 m m2 x (.arr sh ys)=refV m m2 x (.arr sh ys):=by cases x<;>rfl
theorem refV1_ref (m m2:Mem) (x:AV) (l v i n:Nat):refV1 m m2 x (.ref l v i n)=refV m m2 x (.ref l v i n):=by cases x<;>rfl
def refL (m m2:Mem):List AV→List AV→Prop
 | [],[]=>True
 |x::xs,y::ys=>(refV1 m m2 x y∧leaf y)∧refL m m2 xs ys
 |_,_=>False
theorem refL_nil (m m2:Mem):refL m m2 [] []=True:=rfl
theorem refL_cons (m m2:Mem) (x y:AV) (xs ys:List AV):refL m m2 (x::xs) (y::ys)=((refV1 m m2 x y∧leaf y)∧refL m m2 xs ys):=rfl
theorem leaf_val (v:Value):leaf (.val v)=True:=rfl
theorem leaf_arr (sh:Sh) (xs:List AV):leaf (.arr sh xs)=True:=rfl
theorem leaf_ref (l v i n:Nat):leaf (.ref l v i n)=True:=rfl
theorem leaf_ptr (l v i n:Nat):leaf (.ptr l v i n)=True:=rfl
def refA (m m2:Mem):AV→AV→Prop
 | .agg xs,.agg ys=>refL m m2 xs ys
 | .clo f xs,.clo g ys=>f=g∧refC m m2 xs ys
 |x,y=>refV m m2 x y
theorem refA_clo (m m2:Mem) (f g:FuncId) (xs ys:List AV):refA m m2 (.clo f xs) (.clo g ys)=(f=g∧refC m m2 xs ys):=rfl
theorem refA_undef (m m2:Mem) (x:AV):refA m m2 x .undef=True:=by cases x<;>rfl
theorem refA_val (m m2:Mem) (x:AV) (v:Value):refA m m2 x (.val v)=refV m m2 x (.val v):=by cases x<;>rfl
theorem refA_arr (m m2:Mem) (x:AV) (sh:Sh) (ys:List AV):refA m m2 x (.arr sh ys)=refV m m2 x (.arr sh ys):=by cases x<;>rfl
theorem refA_ref (m m2:Mem) (x:AV) (l v i n:Nat):refA m m2 x (.ref l v i n)=refV m m2 x (.ref l v i n):=by cases x<;>rfl
theorem refA_ptr (m m2:Mem) (x:AV) (l v i n:Nat):refA m m2 x (.ptr l v i n)=refV m m2 x (.ptr l v i n):=by cases x<;>rfl
def refE (ts:Env) (m m2:Mem):Env→Prop
 | []=>True
 |(t,v)::r=>refA m m2 (look ts t) v∧refE ts m m2 r
theorem refE_nil (ts:Env) (m m2:Mem):refE ts m m2 []=True:=rfl
theorem refE_cons (ts:Env) (m m2:Mem) (t:Nat) (v:AV) (r:Env):refE ts m m2 ((t,v)::r)=(refA m m2 (look ts t) v∧refE ts m m2 r):=rfl
def refB (m m2:Mem) (b:Option Blk) (b2:Blk):Prop:=match b,b2 with
 |some (.row _ sh d xs),.row _ sh2 d2 xs2=>sh=sh2∧d=d2∧xs=xs2
 |some (.box _ xs),.box _ ys=>refL m m2 xs ys
 |none,.row _ _ _ xs=>xs=[]
 |some (.gone _),.row _ _ _ xs=>xs=[]
 |_,_=>False
section
variable (m m2:Mem)
theorem refB_row (v v2:Nat) (sh:Sh) (d:Bool) (xs xs2:List AV):refB m m2 (some (.row v sh d xs)) (.row v2 sh d xs2)=(xs=xs2):=by simp [refB]
theorem refB_box (v v2:Nat) (xs xs2:List AV):refB m m2 (some (.box v xs)) (.box v2 xs2)=refL m m2 xs xs2:=rfl
theorem refB_none (v2:Nat) (sh:Sh) (d:Bool) (xs2:List AV):refB m m2 none (.row v2 sh d xs2)=(xs2=[]):=rfl
end
def refM (m m2:Mem):Mem→Prop
 | []=>True
 |(l,b)::r=>refB m m2 (lookB m l) b∧refM m m2 r
theorem refM_nil (m m2:Mem):refM m m2 []=True:=rfl
theorem refM_cons (m m2:Mem) (l:Nat) (b:Blk) (r:Mem):refM m m2 ((l,b)::r)=(refB m m2 (lookB m l) b∧refM m m2 r):=rfl
def sameVer (b b2:Option Blk):Prop:=match b,b2 with
 |some (.row v _ _ _),some (.row v2 _ _ _)=>v=v2
 |some (.box v _),some (.box v2 _)=>v=v2
 |_,_=>False
theorem sameVer_rr (v v2:Nat) (sh sh2:Sh) (d d2:Bool) (xs xs2:List AV):sameVer (some (.row v sh d xs)) (some (.row v2 sh2 d2 xs2))=(v=v2):=rfl
theorem sameVer_bb (v v2:Nat) (xs xs2:List AV):sameVer (some (.box v xs)) (some (.box v2 xs2))=(v=v2):=rfl
def keepIo (l:Nat) (b b2:Option Blk):Prop:=l<ioL∨sameVer b b2
theorem keepIo_eq (l:Nat) (b b2:Option Blk):keepIo l b b2=(l<1000000000∨sameVer b b2):=rfl
def refK (m m2:Mem):Mem→Prop
 | []=>True
 |(l,_)::r=>keepIo l (lookB m l) (lookB m2 l)∧refK m m2 r
theorem refK_nil (m m2:Mem):refK m m2 []=True:=rfl
theorem refK_cons (m m2:Mem) (l:Nat) (b:Blk) (r:Mem):refK m m2 ((l,b)::r)=(keepIo l (lookB m l) (lookB m2 l)∧refK m m2 r):=rfl
theorem refK_get {m m2:Mem}:∀{r:Mem},refK m m2 r→∀{l:Nat} {b:Blk},lookB r l=some b→keepIo l (lookB m l) (lookB m2 l)
 | [],_,l,b,hb=>by rw [lookB_nil] at hb;cases hb
 |(l0,b0)::r,h,l,b,hb=>by
  rw [lookB_cons] at hb
  split at hb
  · rename_i e;subst e;exact h.1
  · exact refK_get h.2 hb
def refS (ts:Env) (m:Mem) (ts2:Env) (m2:Mem):Prop:=refE ts m m2 ts2∧refM m m2 m2∧refK m m2 m
theorem refS_eq (ts:Env) (m:Mem) (ts2:Env) (m2:Mem):refS ts m ts2 m2=(refE ts m m2 ts2∧refM m m2 m2∧refK m m2 m):=rfl
section
variable {P:Program} {B:Base} {N:Nat} {φ:Nat→LS} {fp:Nat→List Nat} {S:Nat→Prop} {ts:Env} {m:Mem} {a:Act} {w:World}
theorem refM_get {m m2:Mem}:∀{r:Mem},refM m m2 r→∀{l:Nat} {b:Blk},lookB r l=some b→refB m m2 (lookB m l) b
 | [],_,l,b,h=>by cases h
 |(l0,b0)::r,h,l,b,hb=>by
  rw [lookB_cons] at hb
  split at hb
  · rename_i e;subst e;cases hb;exact h.1
  · exact refM_get h.2 hb
theorem refE_get {ts:Env} {m m2:Mem}:∀{r:Env},refE ts m m2 r→∀t,refA m m2 (look ts t) (look r t)
 | [],_,t=>by rw [look_nil,refA_undef];trivial
 |(t0,v)::r,h,t=>by
  rw [look_cons]
  split
  · rename_i e;subst e;exact h.1
  · exact refE_get h.2 t
def newφ (φ:Nat→LS) (m2:Mem):Nat→LS:=fun l=>match lookB m2 l with
 |none=>.dead
 |some k=>match φ l with
  | .at b sh _=>.at b sh k.ver
  |_=>.nil k.ver
def newfp (fp:Nat→List Nat) (m2:Mem):Nat→List Nat:=fun l=>match lookB m2 l with|none=>[]|some _=>fp l
def newS (S:Nat→Prop) (fp:Nat→List Nat) (m2:Mem):Nat→Prop:=fun b=>S b∨∃l,lookB m2 l=none∧l<ioL∧b∈fp l
theorem known_of_verIs {m2:Mem} {l v:Nat} (h:verIs (lookB m2 l) v):known m2 l v:=by
 unfold verIs at h
 split at h
 · exact h.elim
 · rename_i k hn hk;exact ⟨k,hk,Nat.le_of_eq h.symm⟩
 · exact h.elim
theorem refV_out (h:RS B N φ fp S ts m a w) {m2:Mem} {x y:AV} {v:Value} (hx:RV w S φ x v) (hr:refV m m2 x y):
 RV w (newS S fp m2) (newφ φ m2) y v∧∀l ver,(l,ver)∈labs y→known m2 l ver:=by
 have hS:∀b,S b→newS S fp m2 b:=fun b hb=>.inl hb
 have nolab:∀{y:AV} {v:Value},Rd w S y v→RV w (newS S fp m2) (newφ φ m2) y v∧∀l ver,(l,ver)∈labs y→known m2 l ver:=by
  intro y v hy
  exact ⟨.rd _ _ (hy.mono (fun _ _=>rfl) hS),fun l ver hl=>by rw [labs_rd hy] at hl;cases hl⟩
 have nilref:∀{v:Value} {l' ver' i' n':Nat},(∃ad,v= .slice ad 0 0)→(i'=0∧n'=0)∧noBlk (lookB m l')∧verIs (lookB m2 l') ver'→
  RV w (newS S fp m2) (newφ φ m2) (.ref l' ver' i' n') v∧∀l ver,(l,ver)∈labs (.ref l' ver' i' n')→known m2 l ver:=by
  rintro v l' ver' i' n' ⟨ad,rfl⟩ ⟨⟨rfl,rfl⟩,hnb,hv⟩
  refine ⟨.ref _ _ _ _ _ (fun b sh hb=> ?_) (fun _=>⟨rfl,ad,rfl⟩) rfl,fun l ver hl=> ?_⟩
  · have hd:φ l'= .dead:=by
     unfold noBlk at hnb
     split at hnb
     · rename_i hk;exact (h.mNone l' hk).1
     · rename_i v hk;exact (h.mSome l' _ hk).1
     · exact hnb.elim
    unfold newφ at hb
    split at hb
    · cases hb
    · rw [hd] at hb;cases hb
  · simp only [labs,q16,Prod.mk.injEq] at hl
    obtain ⟨rfl,rfl⟩:=hl
    exact known_of_verIs hv
 unfold refV at hr
 split at hr
 · exact ⟨.rd _ _ (.undef _),fun _ _ hl=>by cases hl⟩
 · subst hr
   obtain ⟨rfl,h1⟩:=rv_val hx
   exact nolab (.val _ h1)
 · obtain ⟨ad,rfl⟩:=rv_e0 hx
   exact nolab (.e0 _)
 · obtain ⟨rfl,rfl⟩:=hr
   exact nolab (rv_arr hx)
 · rename_i l ver i n sh ys
   unfold refArr at hr
   split at hr
   · rename_i v' sh' d xs hlk hlk2
     obtain ⟨rfl,rfl,hin,rfl,hio⟩:=hr
     refine ⟨.rd _ _ ?_,fun _ _ hl=>by cases hl⟩
     have hlen:((xs.drop i).take n).length=n:=by simp;omega
     have hrr:=rv_ref hx
     rcases h.mSome l _ hlk with ⟨h1,h2,h3⟩|⟨b,cap,hφ,hbm,hdp,hown⟩
     · obtain ⟨rfl,ad,rfl⟩:=hrr.2 h1
       rw [List.take_zero];exact .nil _ _
     · obtain ⟨ad,cp,rfl,hnc,hcp⟩:=hrr.1 b sh' hφ
       obtain ⟨cs,e,fss,hgf,hheap,hcs,hcap,hmx,hff,hfl,hvv⟩:=row_inv hown hbm
       by_cases hc0:cp=0
       · have:n=0:=by omega
         subst this;subst hc0
         rw [List.take_zero];exact .nil _ _
       · obtain ⟨rfl,cs',e',g1,g2⟩:=hcp.resolve_left hc0
         obtain rfl:=celO_inj (hheap.symm.trans g1)
         have hroom:i*sh'.sz+n*sh'.sz≤cs.size:=by
          rw [g2,←Nat.add_mul];exact Nat.mul_le_mul_right _ (by omega)
         have hin2:∀c,c∈fp l→newS S fp m2 c:=fun c hc=>.inr ⟨l,hlk2,hio,hc⟩
         have:=Rd.arr (w:=w) (S:=newS S fp m2) sh' ((xs.drop i).take n) b (i*sh'.sz) cp cs e.1 (frOf e cs.size) (hin2 b hbm) hheap (by rw [hlen];exact hnc) (by rw [hlen];exact hroom)
          (fun q hq=>by rw [hlen] at hq;simp only [q11,q8];exact hff _ (by omega))
          (fun q hq=>by
            rw [hlen] at hq
            simp only [q11,q8]
            have:=(hvv (i+q) (by omega)).rd_of (S':=newS S fp m2) (fun c hc=>by
             cases d with
             |true=>exact hc.elim
             |false=>exact hS c hc) (fun c hc=>hin2 c (by rw [hgf];exact q13 _ (mem_flatten_getD (by omega) hc)))
            rwa [Nat.add_mul] at this)
         rw [hlen] at this
         exact this
   · exact hr.elim
 · obtain ⟨ad,rfl⟩:=rv_e0 hx
   subst hr
   exact nolab (.nil _ _)
 · obtain ⟨rfl,_⟩:=rv_val hx
   subst hr
   exact nolab (.nil _ _)
 · rename_i l ver i n l' ver' i' n'
   obtain ⟨⟨rfl,rfl,rfl⟩,hv1,hv2⟩:=hr
   have hrr:=rv_ref hx
   have hlab:∀l' v',(l',v')∈labs (.ref l ver' i n)→known m2 l' v':=by
    intro l' v' hl
    simp only [labs,q16,Prod.mk.injEq] at hl
    obtain ⟨rfl,rfl⟩:=hl
    exact known_of_verIs hv2
   have hone:v.oneCell'=true:=hx.leaf_oneCell trivial
   refine ⟨.ref _ _ _ _ _ (fun b sh hb=> ?_) (fun hb=> ?_) hone,hlab⟩
   · unfold newφ at hb
     split at hb
     · cases hb
     · rename_i k hk
       split at hb
       · rename_i b' sh' v' hφ
         cases hb
         obtain ⟨k0,hk0,hk0v⟩:=h.lookB_ne hφ
         have hvv:v'=ver:=by
          rw [hk0] at hv1
          cases k0<;>first|exact hv1.elim|exact hk0v.symm.trans hv1
         subst hvv
         exact hrr.1 _ _ hφ
       · cases hb
   · unfold newφ at hb
     split at hb
     · cases hb
     · rename_i k hk
       split at hb
       · cases hb
       · rename_i hne
         unfold verIs at hv1
         split at hv1
         · exact hv1.elim
         · rename_i k0 hng hk0
           have hb0:=h.mSome l k0 hk0
           cases k0 with
           |gone=>exact absurd rfl (hng _)
           |row v0 sh d xs=>
            rcases hb0 with ⟨h1,_⟩|⟨b,cap,hφ,_⟩
            · have hv1:v0=ver:=hv1
              subst hv1
              exact hrr.2 h1
            · exact absurd hφ (hne _ _ _)
           |box v0 xs=>obtain ⟨b,cs,e,sh,hφ,_⟩:=hb0;exact absurd hφ (hne _ _ _)
           |lent v0 xs i0 u0=>obtain ⟨b,cap,cs,e,fr,hφ,_⟩:=hb0;exact absurd hφ (hne _ _ _)
           |sub v0 sh xs u0=>obtain ⟨b,cap,hφ,_⟩:=hb0;exact absurd hφ (hne _ _ _)
         · exact hv1.elim
 · exact nilref (rv_e0 hx) hr
 · obtain ⟨rfl,_⟩:=rv_val hx
   exact nilref ⟨_,rfl⟩ hr
 · rename_i l ver i j l' ver' i' j'
   obtain ⟨⟨rfl,rfl,rfl⟩,hv1,hv2⟩:=hr
   have hrr:=rv_ptr hx
   have hr2:=rv_ptr2 hx
   refine ⟨.ptr _ _ _ _ _ (fun b sh hb=> ?_) (fun hb=> ?_) hr2.2,fun l' v' hl=> ?_⟩
   · unfold newφ at hb
     split at hb
     · cases hb
     · split at hb
       · rename_i b' sh' v' hφ
         cases hb
         obtain ⟨k0,hk0,hk0v⟩:=h.lookB_ne hφ
         have hvv:v'=ver:=by
          rw [hk0] at hv1
          cases k0<;>first|exact hv1.elim|exact hk0v.symm.trans hv1
         subst hvv
         exact hrr _ _ hφ
       · cases hb
   · unfold newφ at hb
     split at hb
     · cases hb
     · split at hb
       · cases hb
       · rename_i hne
         unfold verIs at hv1
         split at hv1
         · exact hv1.elim
         · rename_i k0 hng hk0
           have hb0:=h.mSome l k0 hk0
           cases k0 with
           |gone=>exact absurd rfl (hng _)
           |row v0 sh d xs=>
            rcases hb0 with ⟨h1,_⟩|⟨b,cap,hφ,_⟩
            · have hv1:v0=ver:=hv1
              subst hv1
              exact hr2.1 h1
            · exact absurd hφ (hne _ _ _)
           |box v0 xs=>obtain ⟨b,cs,e,sh,hφ,_⟩:=hb0;exact absurd hφ (hne _ _ _)
           |lent v0 xs i0 u0=>obtain ⟨b,cap,cs,e,fr,hφ,_⟩:=hb0;exact absurd hφ (hne _ _ _)
           |sub v0 sh xs u0=>obtain ⟨b,cap,hφ,_⟩:=hb0;exact absurd hφ (hne _ _ _)
         · exact hv1.elim
   · simp only [labs,q16,Prod.mk.injEq] at hl
     obtain ⟨rfl,rfl⟩:=hl
     exact known_of_verIs hv2
 · obtain ⟨rfl,rfl,rfl,rfl⟩:=hr
   exact nolab (rv_eptr hx)
 · exact hr.elim
theorem getD_takeV {l:List Value} {n i:Nat} (h:i<n):(l.take n).getD i Go.undef=l.getD i Go.undef:=by simp [q4,List.getElem?_take,h]
theorem refC_out (h:RS B N φ fp S ts m a w) {m2:Mem}:∀(xs ys:List AV) (vs:List Value),refC m m2 xs ys→vs.length=xs.length→(∀i (hi:i<xs.length),RV w S φ xs[i] (vs.getD i Go.undef))→
 ys.length=xs.length∧(∀i (hi:i<ys.length),leaf ys[i])∧(∀i (hi:i<ys.length),RV w (newS S fp m2) (newφ φ m2) ys[i] (vs.getD i Go.undef))∧∀l ver,(l,ver)∈labsL ys→known m2 l ver
 | [],[],vs,_,_,_=>⟨rfl,fun i hi=>absurd hi (q21 _),fun i hi=>absurd hi (q21 _),fun _ _ hl=>by cases hl⟩
 |x::xs,y::ys,vs,hr,hv,hx=>by
  cases vs with
  |nil=>simp at hv
  |cons v vs=>
   obtain ⟨⟨h1,h2⟩,h3⟩:=hr
   obtain ⟨g1,g2⟩:=refV_out h (hx 0 (by simp)) h1
   obtain ⟨q1,q2,q3,q4⟩:=refC_out h xs ys vs h3 (by simpa using hv) (fun i hi=>by have:=hx (i+1) (by simpa using hi);exact this)
   refine ⟨by simp [q1],fun i hi=> ?_,fun i hi=> ?_,fun l ver hl=> ?_⟩
   · cases i with
     |zero=>exact h2
     |succ i=>exact q2 i (by simpa using hi)
   · cases i with
     |zero=>exact g1
     |succ i=>exact q3 i (by simpa using hi)
   · simp only [labsL,q12] at hl
     rcases hl with hl|hl
     · exact g2 l ver hl
     · exact q4 l ver hl
 | [],_::_,_,hr,_,_=>hr.elim
 |_::_,[],_,hr,_,_=>hr.elim
theorem refV1_out (h:RS B N φ fp S ts m a w) {m2:Mem} {x y:AV} {v:Value} (hx:RV w S φ x v) (hr:refV1 m m2 x y):
 RV w (newS S fp m2) (newφ φ m2) y v∧∀l ver,(l,ver)∈labs y→known m2 l ver:=by
 unfold refV1 at hr
 split at hr
 · rename_i f xs g ys
   obtain ⟨rfl,hr⟩:=hr
   obtain ⟨cs,rfl,h1,h3⟩:=rv_clo hx
   obtain ⟨q1,q2,q3,q4⟩:=refC_out h xs ys cs.toList hr (by simpa using h1) h3
   exact ⟨.clo _ _ _ (by omega) q3,fun l ver hl=>q4 l ver (by simpa [labs] using hl)⟩
 · exact refV_out h hx hr
theorem refL_out (h:RS B N φ fp S ts m a w) {m2:Mem}:∀(xs ys:List AV) (vs:List Value),refL m m2 xs ys→vs.length=xs.length→(∀i (hi:i<xs.length),RV w S φ xs[i] (vs.getD i Go.undef))→
 ys.length=xs.length∧(∀i (hi:i<ys.length),leaf ys[i])∧(∀i (hi:i<ys.length),RV w (newS S fp m2) (newφ φ m2) ys[i] (vs.getD i Go.undef))∧∀l ver,(l,ver)∈labsL ys→known m2 l ver
 | [],[],vs,_,_,_=>⟨rfl,fun i hi=>absurd hi (q21 _),fun i hi=>absurd hi (q21 _),fun _ _ hl=>by cases hl⟩
 |x::xs,y::ys,vs,hr,hv,hx=>by
  cases vs with
  |nil=>simp at hv
  |cons v vs=>
   obtain ⟨⟨h1,h2⟩,h3⟩:=hr
   obtain ⟨g1,g2⟩:=refV1_out h (hx 0 (by simp)) h1
   obtain ⟨q1,q2,q3,q4⟩:=refL_out h xs ys vs h3 (by simpa using hv) (fun i hi=>by have:=hx (i+1) (by simpa using hi);exact this)
   refine ⟨by simp [q1],fun i hi=> ?_,fun i hi=> ?_,fun l ver hl=> ?_⟩
   · cases i with
     |zero=>exact h2
     |succ i=>exact q2 i (by simpa using hi)
   · cases i with
     |zero=>exact g1
     |succ i=>exact q3 i (by simpa using hi)
   · simp only [labsL,q12] at hl
     rcases hl with hl|hl
     · exact g2 l ver hl
     · exact q4 l ver hl
 | [],_::_,_,hr,_,_=>hr.elim
 |_::_,[],_,hr,_,_=>hr.elim
theorem refA_out (h:RS B N φ fp S ts m a w) {m2:Mem} {x y:AV} {v:Value} (hx:RV w S φ x v) (hr:refA m m2 x y):
 RV w (newS S fp m2) (newφ φ m2) y v∧∀l ver,(l,ver)∈labs y→known m2 l ver:=by
 unfold refA at hr
 split at hr
 · rename_i xs ys
   obtain ⟨cs,rfl,h1,h2,h3⟩:=rv_agg hx
   obtain ⟨q1,q2,q3,q4⟩:=refL_out h xs ys cs.toList hr (by simpa using h1) h3
   exact ⟨.agg _ _ (by omega) q2 q3,fun l ver hl=>q4 l ver (by simpa [labs] using hl)⟩
 · rename_i f xs g ys
   obtain ⟨rfl,hr⟩:=hr
   obtain ⟨cs,rfl,h1,h3⟩:=rv_clo hx
   obtain ⟨q1,q2,q3,q4⟩:=refC_out h xs ys cs.toList hr (by simpa using h1) h3
   exact ⟨.clo _ _ _ (by omega) q3,fun l ver hl=>q4 l ver (by simpa [labs] using hl)⟩
 · exact refV_out h hx hr
theorem RS.refine (h:RS B N φ fp S ts m a w) {ts2:Env} {m2:Mem} (hr:refS ts m ts2 m2):RS B N (newφ φ m2) (newfp fp m2) (newS S fp m2) ts2 m2 a w:=by
 obtain ⟨hE,hM,hK⟩:=hr
 have keeps:∀l ver,ioL≤l→known m l ver→∃k k2,lookB m l=some k∧lookB m2 l=some k2∧k.ver=k2.ver∧ver≤k.ver∧∀v,k≠ .gone v:=by
  rintro l ver hl ⟨k,hk,hv⟩
  rcases refK_get hK hk with hh|hh
  · exact absurd hh (Nat.not_lt.2 hl)
  · rw [hk] at hh
    unfold sameVer at hh
    split at hh
    · rename_i h1 h2;cases h1;exact ⟨_,_,hk,h2,hh,hv,fun _ e=>by cases e⟩
    · rename_i h1 h2;cases h1;exact ⟨_,_,hk,h2,hh,hv,fun _ e=>by cases e⟩
    · exact hh.elim
 have fps:∀l b,b∈newfp fp m2 l→b∈fp l∧∃k,lookB m2 l=some k:=by
  intro l b hb
  unfold newfp at hb
  split at hb
  · cases hb
  · rename_i k hk;exact ⟨hb,k,hk⟩
 refine ⟨fun t=>(refA_out h (h.tm t) (refE_get hE t)).1,fun t=>(refA_out h (h.tm t) (refE_get hE t)).2,?_,?_,?_,?_,?_,?_,?_,?_,h.base,h.out,h.szs,?_,?_,h.size,h.defers,h.tsz,h.kon.mono (fun _ _=>rfl) fun b hb=>.inl hb⟩
 · intro l hl
   simp [newφ,newfp,hl]
 · intro l k hk
   have hb:=refM_get hM hk
   have hfp:newfp fp m2 l=fp l:=by simp [newfp,hk]
   have hnoblk:(lookB m l=none∨∃v,lookB m l=some (.gone v))→φ l= .dead∧fp l=[]:=by
    rintro (hl|⟨v,hl⟩)
    · exact h.mNone l hl
    · exact h.mSome l _ hl
   rw [hfp]
   unfold refB at hb
   split at hb
   · rename_i v sh d xs v2 sh2 d2 xs2 hlk
     obtain ⟨rfl,rfl,rfl⟩:=hb
     rcases h.mSome l _ hlk with ⟨h1,h2,h3⟩|⟨b,cap,hφ,hbm,hdp,hown⟩
     · exact .inl ⟨by simp [newφ,hk,h1,Blk.ver],h2,h3⟩
     · refine .inr ⟨b,cap,by simp [newφ,hk,hφ,Blk.ver],hbm,hdp,?_⟩
       cases d with
       |true=>exact hown
       |false=>exact hown.mono (fun _ _=>rfl) (fun _ h=>.inl h) (fun _ _=>rfl)
   · rename_i v xs v2 ys hlk
     obtain ⟨b,cs,e,sh,hφ,hfs,hheap,hsz,hlf,hrv⟩:=h.mSome l _ hlk
     obtain ⟨q1,q2,q3,q4⟩:=refL_out h xs ys (cs.toList.take xs.length) hb (by simp;omega) (fun i hi=>by rw [getD_takeV hi];exact hrv i hi)
     exact ⟨b,cs,e,sh,by simp [newφ,hk,hφ,Blk.ver],hfs,hheap,by omega,q2,fun i hi=>by have:=q3 i hi;rwa [getD_takeV (by omega)] at this⟩
   · rename_i v2 sh2 d2 xs2 hlk
     obtain ⟨h1,h2⟩:=hnoblk (.inl hlk)
     exact .inl ⟨by simp [newφ,hk,h1,Blk.ver],hb,h2⟩
   · rename_i v v2 sh2 d2 xs2 hlk
     obtain ⟨h1,h2⟩:=hnoblk (.inr ⟨v,hlk⟩)
     exact .inl ⟨by simp [newφ,hk,h1,Blk.ver],hb,h2⟩
   · exact hb.elim
 · intro l v xs hk l' ver hl
   have hb:=refM_get hM hk
   unfold refB at hb
   split at hb
   · cases ‹Blk.box v xs=_›
   · rename_i v' xs' v2 ys hlk hbx
     cases hbx
     obtain ⟨b,cs,e,sh,hφ,hfs,hheap,hsz,hlf,hrv⟩:=h.mSome l _ hlk
     exact (refL_out h xs' xs (cs.toList.take xs'.length) hb (by simp;omega) (fun i hi=>by rw [getD_takeV hi];exact hrv i hi)).2.2.2 l' ver hl
   · cases ‹Blk.box v xs=_›
   · cases ‹Blk.box v xs=_›
   · exact hb.elim
 · intro l
   unfold newfp
   split
   · simp
   · exact h.nod l
 · intro l l' b h1 h2
   exact h.dis l l' b (fps l b h1).1 (fps l' b h2).1
 · intro l b hb hs
   obtain ⟨h1,k,hk⟩:=fps l b hb
   rcases hs with hs|⟨l',hl',_,hb'⟩
   · exact h.notS l b h1 hs
   · have:=h.dis l l' b h1 hb'
     subst this
     rw [hk] at hl';cases hl'
 · intro l b hb
   exact h.fpB l b (fps l b hb).1
 · intro b hb
   rcases hb with hb|⟨l,_,hio,hb⟩
   · exact h.sB b hb
   · have:=h.fpB l b hb
     exact ⟨this.1,.inl (this.2.resolve_right fun hh=>Nat.lt_irrefl _ (Nat.lt_of_lt_of_le hio hh.choose_spec.2.1))⟩
 · intro l ver hl hk
   obtain ⟨k,k2,h1,h2,h3,h4,_⟩:=keeps l ver hl (h.kn l ver hl hk)
   exact ⟨k2,h2,h3▸h4⟩
 · intro l ver hl hk
   obtain ⟨k,k2,h1,h2,h3,h4,hng⟩:=keeps l ver hl (h.kn l ver hl hk)
   have hle:=h.fix l ver hl hk
   have hb:=h.mSome l k h1
   have hx2:newφ φ m2 l=match φ l with| .at b sh _=>.at b sh k2.ver|_=>.nil k2.ver:=by unfold newφ;rw [h2]
   have e:newφ φ m2 l=φ l:=by
    rw [hx2]
    cases k with
    |gone v=>exact absurd rfl (hng v)
    |row v sh d xs=>
     rcases hb with ⟨q1,_,_⟩|⟨b,cap,q1,_⟩
     · rw [q1,←h3];rfl
     · rw [q1,←h3];rfl
    |box v xs=>
     obtain ⟨b,cs,e,sh,q1,_⟩:=hb
     rw [q1,←h3];rfl
    |lent v xs i u=>
     obtain ⟨b,cap,cs,e,fr,q1,_⟩:=hb
     rw [q1,←h3];rfl
    |sub v sh xs u=>
     obtain ⟨b,cap,q1,_⟩:=hb
     rw [q1,←h3];rfl
   rw [e];exact hle
theorem Ok.mono {c:Code} {Q Q':Post} (h:Ok P N c ts m Q) (hq:∀e ts m,Q e ts m→Q' e ts m):Ok P N c ts m Q':=fun B φ fp S a w hRS=>
 wp_mono (h B φ fp S a w hRS) fun e _ _ ⟨φ',fp',S',ts',m',h1,h2⟩=>⟨φ',fp',S',ts',m',h1,hq e ts' m' h2⟩
theorem Ok.loop {body:Code} {ι:Type} (I:ι→Prop) (σ:ι→Env × Mem) (μ:ι→Nat) {Q:Post} (x0:ι) (h0:I x0) (hr:refS ts m (σ x0).1 (σ x0).2)
 (step:∀x,I x→Ok P N body (σ x).1 (σ x).2 (thn Q fun ts' m'=>∃y,I y∧μ y<μ x∧refS ts' m' (σ y).1 (σ y).2)):Ok P N (.loop body) ts m Q:=by
 intro B φ fp S a w hRS
 refine wp_loop_ghost (fun n a w=>∃x φ fp S,I x∧μ x=n∧RS B N φ fp S (σ x).1 (σ x).2 a w) (μ x0) ⟨x0,_,_,_,h0,rfl,hRS.refine hr⟩ ?_
 rintro n a w ⟨x,φ,fp,S,hx,rfl,hRS⟩
 refine wp_mono (step x hx B φ fp S a w hRS) fun e a' w' hq=> ?_
 obtain ⟨φ',fp',S',ts',m',h1,h2⟩:=hq
 cases e with
 |normal=>
  obtain ⟨y,hy,hlt,href⟩:=h2
  exact ⟨μ y,hlt,y,_,_,_,hy,rfl,h1.refine href⟩
 |_=>exact ⟨φ',fp',S',ts',m',h1,h2⟩
theorem Later.loop {body:Code} {ι:Type} (I:ι→Prop) (σ:ι→Env × Mem) (μ:ι→Nat) {Q:Post} {q:Pack (Code.loop body,Q)} (x0:ι) (h0:I x0) (hr:refS ts m (σ x0).1 (σ x0).2) (hok:codeOk N body=true)
 (step:∀x,I x→vc P N body (σ x).1 (σ x).2 (thn Q fun ts' m'=>∃y,I y∧μ y<μ x∧refS ts' m' (σ y).1 (σ y).2)):Later P N (.loop body) ts m Q q:=
 ⟨Ok.loop I σ μ x0 h0 hr fun x hx=>vc_sound body _ _ _ hok (step x hx)⟩
theorem Later.upto {body:Code} (n:Nat) (I:Nat→Prop) (σ:Nat→Env × Mem) {Q:Post} {q:Pack (Code.loop body,Q)} (h0:I 0) (hr:refS ts m (σ 0).1 (σ 0).2) (hok:codeOk N body=true)
 (step:∀i,i<n→I i→vc P N body (σ i).1 (σ i).2 (thn Q fun ts' m'=>I (i+1)∧refS ts' m' (σ (i+1)).1 (σ (i+1)).2))
 (stop:I n→vc P N body (σ n).1 (σ n).2 (thn Q fun _ _=>False)):Later P N (.loop body) ts m Q q:=by
 refine ⟨Ok.loop (fun i=>i≤n∧I i) σ (fun i=>n-i) 0 ⟨Nat.zero_le _,h0⟩ hr fun i ⟨hi,hI⟩=> ?_⟩
 rcases Nat.lt_or_ge i n with h|h
 · refine (vc_sound body _ _ _ hok (step i h hI)).mono fun e ts' m' hq=> ?_
   cases e with
   |normal=>exact ⟨i+1,⟨h,hq.1⟩,by omega,hq.2⟩
   |_=>exact hq
 · have e:i=n:=Nat.le_antisymm hi h
   subst e
   refine (vc_sound body _ _ _ hok (stop hI)).mono fun e ts' m' hq=> ?_
   cases e with
   |normal=>exact hq.elim
   |_=>exact hq
end
end Go.Vc
namespace Go.Vc
def sCellRB (ag:Bool) (n j v:Nat) (b:Option Blk) (k:AV→Prop):Prop:=match b with
 |some (.box v' xs)=>v'=v∧(if ag then j+n≤xs.length∧k (.agg ((xs.drop j).take n)) else sOpt xs[j]? k)
 |_=>False
@[congr] theorem sCellRB_congr {ag:Bool} {n j v:Nat} {b b':Option Blk} {k:AV→Prop} (h:b=b'):sCellRB ag n j v b k=sCellRB ag n j v b' k:=by rw [h]
theorem sCellRB_agg (n j v:Nat) (xs:List AV) (k:AV→Prop):sCellRB true n j v (some (.box v xs)) k=(j+n≤xs.length∧k (.agg ((xs.drop j).take n))):=by simp [sCellRB]
def sCellR (ag:Bool) (n:Nat) (p:AV) (m:Mem) (k:AV→Prop):Prop:=match p with
 | .ptr l v i j=>i=0∧sCellRB ag n j v (lookB m l) k
 |_=>False
@[congr] theorem sCellR_congr {ag:Bool} {n:Nat} {p p':AV} {m:Mem} {k:AV→Prop} (h:p=p'):sCellR ag n p m k=sCellR ag n p' m k:=by rw [h]
theorem sCellR_ptr (ag:Bool) (n l v j:Nat) (m:Mem) (k:AV→Prop):sCellR ag n (.ptr l v 0 j) m k=sCellRB ag n j v (lookB m l) k:=by simp [sCellR]
def sResults (P:Program) (k:List AV→Prop):List ResultVar→Env→Mem→List AV→Prop
 | [],_,_,acc=>k acc.reverse
 | .tmp t::r,ts,m,acc=>sResults P k r ts m (look ts t::acc)
 | .cell p t::r,ts,m,acc=>sTI (tiOf P t) fun ti=>sCellR ti.agg ti.size (look ts p) m fun y=>sResults P k r ts m (y::acc)
section
variable (P:Program) (k:List AV→Prop) (r:List ResultVar) (ts:Env) (m:Mem) (acc:List AV)
theorem sResults_nil:sResults P k [] ts m acc=k acc.reverse:=rfl
theorem sResults_tmp (t:Nat):sResults P k (.tmp t::r) ts m acc=sResults P k r ts m (look ts t::acc):=rfl
theorem sResults_cell (p t:Nat):sResults P k (.cell p t::r) ts m acc=sTI (tiOf P t) fun ti=>sCellR ti.agg ti.size (look ts p) m fun y=>sResults P k r ts m (y::acc):=rfl
end
def sOwnB (l v i n:Nat) (used:List Nat) (b:Option Blk) (k:AV→List Nat→Prop):Prop:=match b with
 |some (.row v' sh deep xs)=>v'=v∧deep=true∧i=0∧(0<sh.sz∧n≤xs.length∧l<ioL∧l∉used)∧k (.arr sh (xs.take n)) (l::used)
 |_=>False
@[congr] theorem sOwnB_congr {l v i n:Nat} {used:List Nat} {b b':Option Blk} {k:AV→List Nat→Prop} (h:b=b'):sOwnB l v i n used b k=sOwnB l v i n used b' k:=by rw [h]
theorem sOwnB_row (l v n:Nat) (used:List Nat) (sh:Sh) (xs:List AV) (k:AV→List Nat→Prop):
 sOwnB l v 0 n used (some (.row v sh true xs)) k=((0<sh.sz∧n≤xs.length∧l<ioL∧l∉used)∧k (.arr sh (xs.take n)) (l::used)):=by simp [sOwnB]
def sOwnL (m:Mem) (used:List Nat) (x:AV) (k:AV→List Nat→Prop):Prop:=match x with
 | .val v=>k (.val v) used
 | .e0=>k .e0 used
 | .ref l v i n=>sOwnB l v i n used (lookB m l) k
 |_=>False
@[congr] theorem sOwnL_congr {m:Mem} {used:List Nat} {x x':AV} {k:AV→List Nat→Prop} (h:x=x'):sOwnL m used x k=sOwnL m used x' k:=by rw [h]
theorem sOwnL_val (m:Mem) (used:List Nat) (v:Value) (k:AV→List Nat→Prop):sOwnL m used (.val v) k=k (.val v) used:=rfl
theorem sOwnL_ref (m:Mem) (used:List Nat) (l v i n:Nat) (k:AV→List Nat→Prop):sOwnL m used (.ref l v i n) k=sOwnB l v i n used (lookB m l) k:=rfl
def sOwnLs (m:Mem) (k:List AV→List Nat→Prop):List Nat→List AV→List AV→Prop
 |used,acc,[]=>k acc.reverse used
 |used,acc,x::r=>sOwnL m used x fun y used'=>sOwnLs m k used' (y::acc) r
theorem sOwnLs_nil (m:Mem) (k:List AV→List Nat→Prop) (used:List Nat) (acc:List AV):sOwnLs m k used acc []=k acc.reverse used:=rfl
theorem sOwnLs_cons (m:Mem) (k:List AV→List Nat→Prop) (used:List Nat) (acc:List AV) (x:AV) (r:List AV):sOwnLs m k used acc (x::r)=sOwnL m used x fun y used'=>sOwnLs m k used' (y::acc) r:=rfl
def sOwnA (m:Mem) (used:List Nat) (x:AV) (k:AV→List Nat→Prop):Prop:=match x with
 | .agg xs=>sOwnLs m (fun ys u=>k (.agg ys) u) used [] xs
 |x=>sOwnL m used x k
@[congr] theorem sOwnA_congr {m:Mem} {used:List Nat} {x x':AV} {k:AV→List Nat→Prop} (h:x=x'):sOwnA m used x k=sOwnA m used x' k:=by rw [h]
theorem sOwnA_agg (m:Mem) (used:List Nat) (xs:List AV) (k:AV→List Nat→Prop):sOwnA m used (.agg xs) k=sOwnLs m (fun ys u=>k (.agg ys) u) used [] xs:=rfl
theorem sOwnA_val (m:Mem) (used:List Nat) (v:Value) (k:AV→List Nat→Prop):sOwnA m used (.val v) k=k (.val v) used:=rfl
theorem sOwnA_ref (m:Mem) (used:List Nat) (l v i n:Nat) (k:AV→List Nat→Prop):sOwnA m used (.ref l v i n) k=sOwnB l v i n used (lookB m l) k:=rfl
def sOwnAs (m:Mem) (k:List AV→Prop):List Nat→List AV→List AV→Prop
 |_,acc,[]=>k acc.reverse
 |used,acc,x::r=>sOwnA m used x fun y used'=>sOwnAs m k used' (y::acc) r
theorem sOwnAs_nil (m:Mem) (k:List AV→Prop) (used:List Nat) (acc:List AV):sOwnAs m k used acc []=k acc.reverse:=rfl
theorem sOwnAs_cons (m:Mem) (k:List AV→Prop) (used:List Nat) (acc:List AV) (x:AV) (r:List AV):sOwnAs m k used acc (x::r)=sOwnA m used x fun y used'=>sOwnAs m k used' (y::acc) r:=rfl
def mkRes:List AV→AV| [x]=>x|xs=>.tup xs
theorem mkRes_one (x:AV):mkRes [x]=x:=rfl
theorem mkRes_nil:mkRes []= .tup []:=rfl
theorem mkRes_two (x y:AV) (r:List AV):mkRes (x::y::r)= .tup (x::y::r):=rfl
def fin (P:Program) (rs:List ResultVar) (post:AV→Prop):Post
 | .normal=>fun ts m=>sResults P (fun xs=>sOwnAs m (fun ys=>post (mkRes ys)) [] [] xs) rs ts m []
 | .ret=>fun ts m=>sResults P (fun xs=>sOwnAs m (fun ys=>post (mkRes ys)) [] [] xs) rs ts m []
 |_=>fun _ _=>False
theorem fin_ret (P:Program) (rs:List ResultVar) (post:AV→Prop) (ts:Env) (m:Mem):fin P rs post .ret ts m=sResults P (fun xs=>sOwnAs m (fun ys=>post (mkRes ys)) [] [] xs) rs ts m []:=rfl
def argsE:Nat→List AV→Env
 |_,[]=>[]
 |i,x::r=>(i,x)::argsE (i+1) r
theorem argsE_nil (i:Nat):argsE i []=[]:=rfl
theorem argsE_cons (i:Nat) (x:AV) (r:List AV):argsE i (x::r)=(i,x)::argsE (i+1) r:=rfl
section
variable {P:Program} {B:Base} {N:Nat} {φ:Nat→LS} {fp:Nat→List Nat} {S:Nat→Prop} {ts:Env} {m:Mem} {a:Act} {w:World}
theorem run_cellR {t:TypeId} {ti:TI} (ht:tiOf P t=some ti) (h:RS B N φ fp S ts m a w) {p:AV} {v:Value} (hp:RV w S φ p v) {k:AV→Prop} (hk:sCellR ti.agg ti.size p m k):
 ∃ad u y,v= .pointer (some ad)∧(loadVar t ad).run P w= .ok u w∧RV w S φ y u∧(∀l ver,(l,ver)∈labs y→known m l ver)∧k y:=by
 unfold sCellR at hk
 split at hk
 · rename_i l ver i j
   obtain ⟨rfl,hk⟩:=hk
   have hp1:=rv_ptr hp
   unfold sCellRB at hk
   split at hk
   · rename_i v' xs hlk
     obtain ⟨rfl,hk⟩:=hk
     obtain ⟨b,cs,e,sh,hφ,hfs,hheap,hsz,hlf,hr⟩:=h.mSome l _ hlk
     have hpv:=hp1 b sh hφ
     rw [Nat.zero_mul,Nat.zero_add] at hpv
     subst hpv
     cases hag:ti.agg with
     |true=>
      simp only [hag,if_true] at hk
      obtain ⟨hlen,hk⟩:=hk
      refine ⟨_,_,.agg ((xs.drop j).take ti.size),rfl,run_loadVar_at ht hheap j (fun _=>by omega) (fun h=>by rw [hag] at h;cases h),?_,?_,hk⟩
      · rw [show ti.sh=⟨ti.size,true⟩ by simp [TI.sh,hag],elemV_agg]
        refine .agg _ _ (by simp;omega) (fun i hi=> ?_) fun i hi=> ?_
        · simp only [List.length_take,List.length_drop] at hi
          simp only [q11,q8]
          exact hlf _ (by omega)
        · simp only [List.length_take,List.length_drop] at hi
          simp only [q11,q8]
          rw [getD_drop_take _ _ _ _ (by omega)]
          exact hr (j+i) (by omega)
      · intro l' ver' hl'
        simp only [labs] at hl'
        obtain ⟨i,hi,hl2⟩:=of_mem_labsL hl'
        simp only [List.length_take,List.length_drop] at hi
        simp only [q11,q8] at hl2
        exact h.bl l v' xs hlk l' ver' (mem_labsL (by omega) hl2)
     |false=>
      simp only [hag,if_false,q3] at hk
      cases hj:xs[j]? with
      |none=>rw [hj] at hk;exact hk.elim
      |some y=>
       rw [hj] at hk
       obtain ⟨hj1,hj2⟩:=q7.1 hj
       refine ⟨_,_,y,rfl,run_loadVar_at ht hheap j (fun h=>by rw [hag] at h;cases h) (fun _=>by omega),?_,?_,hk⟩
       · rw [show ti.sh=⟨ti.size,false⟩ by simp [TI.sh,hag],elemV_cell]
         have:=hr j hj1
         rwa [hj2] at this
       · intro l' ver' hl'
         exact h.bl l v' xs hlk l' ver' (mem_labsL hj1 (by rw [hj2];exact hl'))
   · exact hk.elim
 · exact hk.elim
def resOne (tmps:Array Value):ResultVar→Sem Value
 | .tmp t=>pure (tmps.getD t Go.undef)
 | .cell p t=>do loadVar t (←asAddr (tmps.getD p Go.undef))
theorem results_out (h:RS B N φ fp S ts m a w) {Q:List AV→Prop}:∀(rs:List ResultVar) (acc:List AV) (va:List Value),RdL (RV w S φ) acc.reverse va→sResults P Q rs ts m acc→
 ∃xs vs,Q xs∧(rs.mapM (resOne a.tmps)).run P w= .ok vs w∧RdL (RV w S φ) xs (va++vs)∧vs.length=rs.length
 | [],acc,va,ha,hk=>⟨_,[],hk,by simp,by simpa using ha,rfl⟩
 | .tmp t::r,acc,va,ha,hk=>by
   obtain ⟨xs,vs,h1,h2,h3,h4⟩:=results_out h r (look ts t::acc) (va++[a.tmps.getD t Go.undef]) (by rw [q19];exact ha.snoc (h.tm t)) hk
   refine ⟨xs,a.tmps.getD t Go.undef::vs,h1,?_,by simpa using h3,by simp [h4]⟩
   rw [List.mapM_cons]
   simp only [resOne,Sem.run_bind,Sem.run_pure,Result.andThen_ok,h2]
 | .cell p t::r,acc,va,ha,hk=>by
   obtain ⟨ti,ht,hk⟩:=sTI_out hk
   obtain ⟨ad,u,y,hv,hr,hy,_,hk⟩:=run_cellR ht h (h.tm p) hk
   obtain ⟨xs,vs,h1,h2,h3,h4⟩:=results_out h r (y::acc) (va++[u]) (by rw [q19];exact ha.snoc hy) hk
   refine ⟨xs,u::vs,h1,?_,by simpa using h3,by simp [h4]⟩
   rw [List.mapM_cons]
   simp only [resOne,hv,asAddr,Sem.run_bind,Sem.run_pure,Result.andThen_ok,hr,h2]
structure Taken (fp:Nat→List Nat) (used used':List Nat) (fs:List Nat):Prop where
 nod:fs.Nodup
 mem:∀b,b∈fs→∃l,l∈used'∧b∈fp l
 dis:∀b,b∈fs→∀l,l∈used→b∉fp l
 sub:∀l,l∈used→l∈used'
 lo:∀l,l∈used'→l∈used∨l<ioL
theorem Taken.nil (used:List Nat):Taken fp used used []:=⟨q18,fun _ h=>(by cases h),fun _ h=>(by cases h),fun _ h=>h,fun _ h=>.inl h⟩
theorem Taken.app {u1 u2 u3 fs gs:List Nat} (h:Taken fp u1 u2 fs) (g:Taken fp u2 u3 gs):Taken fp u1 u3 (fs++gs):=by
 refine ⟨List.nodup_append.2 ⟨h.nod,g.nod,?_⟩,?_,?_,fun l hl=>g.sub l (h.sub l hl),?_⟩
 · rintro b hb c hc rfl
   obtain ⟨l,hl,hbl⟩:=h.mem b hb
   exact g.dis b hc l hl hbl
 · intro b hb
   rcases q12.1 hb with hb|hb
   · obtain ⟨l,hl,hbl⟩:=h.mem b hb
     exact ⟨l,g.sub l hl,hbl⟩
   · exact g.mem b hb
 · intro b hb l hl
   rcases q12.1 hb with hb|hb
   · exact h.dis b hb l hl
   · exact g.dis b hb l (h.sub l hl)
 · intro l hl
   rcases g.lo l hl with hl|hl
   · exact h.lo l hl
   · exact .inr hl
theorem ownL_out (h:RS B N φ fp S ts m a w) {used:List Nat} {x:AV} {v:Value} (hx:RV w S φ x v) {k:AV→List Nat→Prop} (hk:sOwnL m used x k):
 ∃y used' fs,k y used'∧leaf y∧Own w (fun _=>False) y v fs∧Taken fp used used' fs:=by
 unfold sOwnL at hk
 split at hk
 · rename_i u
   have:=rv_val hx
   obtain ⟨rfl,hu⟩:=this
   exact ⟨_,_,[],hk,trivial,.rd _ _ (.val _ hu),Taken.nil used⟩
 · cases hx with
   |rd _ _ hr=>cases hr with
    |e0 ad=>exact ⟨_,_,[],hk,trivial,.rd _ _ (.e0 ad),Taken.nil used⟩
 · rename_i l ver i n
   obtain ⟨r1,r2⟩:=rv_ref hx
   unfold sOwnB at hk
   split at hk
   · rename_i v' sh deep xs hlk
     obtain ⟨rfl,rfl,rfl,⟨h0,hn,hio,hnu⟩,hk⟩:=hk
     have hnil:n=0→(∃ad,v= .slice ad 0 0)→∃y used' fs,k y used'∧leaf y∧Own w (fun _=>False) y v fs∧Taken fp used used' fs:=by
      rintro rfl ⟨ad,rfl⟩
      exact ⟨_,_,[],hk,trivial,by rw [List.take_zero];exact .rd _ _ (.nil sh ad),q18,fun _ hh=>(by cases hh),fun _ hh=>(by cases hh),fun _ hh=>q13 _ hh,fun l' hl'=>by
       rcases List.mem_cons.1 hl' with rfl|hl'
       · exact .inr hio
       · exact .inl hl'⟩
     rcases h.mSome l _ hlk with ⟨hφ,hxs,_⟩|⟨b,cap,hφ,hbm,_,hown⟩
     · exact hnil (r2 hφ).1 (r2 hφ).2
     · obtain ⟨ad,cap',rfl,hcap,hc⟩:=r1 b sh hφ
       rcases hc with rfl|⟨rfl,cs',e',hh',hs'⟩
       · have:n=0:=by omega
         subst this
         exact hnil rfl ⟨_,rfl⟩
       · simp only [if_true] at hown
         obtain ⟨gs,g1,g2,cs,e,g3,g4⟩:=own_take hown hbm n hn
         rw [g3] at hh'
         injection hh' with hh';injection hh' with e1
         subst e1
         rw [g4,Nat.zero_add] at hs'
         have:cap=cap':=Nat.eq_of_mul_eq_mul_right h0 hs'
         subst this
         refine ⟨_,_,gs,hk,trivial,by simpa using g1,g2.nodup (h.nod l),fun c hc=>⟨l,q14 ..,g2.subset hc⟩,fun c hc l' hl' hcl=> ?_,fun _ hh=>q13 _ hh,fun l' hl'=> ?_⟩
         · have:=h.dis l l' c (g2.subset hc) hcl
           subst this
           exact hnu hl'
         · rcases List.mem_cons.1 hl' with rfl|hl'
           · exact .inr hio
           · exact .inl hl'
   · exact hk.elim
 · exact hk.elim
theorem owns_gen {one:List Nat→AV→(AV→List Nat→Prop)→Prop} {ok:AV→Prop}
 (hone:∀(used:List Nat) (x:AV) (v:Value) (k:AV→List Nat→Prop),RV w S φ x v→one used x k→∃y used' fs,k y used'∧ok y∧Own w (fun _=>False) y v fs∧Taken fp used used' fs)
 {Q:List AV→List Nat→Prop} {many:List Nat→List AV→List AV→Prop} (hnil:∀used acc,many used acc []→Q acc.reverse used) (hcons:∀used acc x r,many used acc (x::r)→one used x fun y used'=>many used' (y::acc) r):
 ∀(xs:List AV) (vs:List Value) (used:List Nat) (acc:List AV),vs.length=xs.length→(∀i (h:i<xs.length),RV w S φ xs[i] (vs.getD i Go.undef))→many used acc xs→
  ∃(ys:List AV) (used':List Nat) (fss:List (List Nat)),Q (acc.reverse++ys) used'∧ys.length=xs.length∧fss.length=ys.length∧(∀i (h:i<ys.length),ok ys[i]∧Own w (fun _=>False) ys[i] (vs.getD i Go.undef) (fss.getD i []))∧Taken fp used used' fss.flatten
 | [],vs,used,acc,hv,_,hk=>⟨[],used,[],by simpa using hnil _ _ hk,rfl,rfl,fun i hi=>absurd hi (q21 _),Taken.nil used⟩
 |x::xs,vs,used,acc,hv,hr,hk=>by
  cases vs with
  |nil=>simp at hv
  |cons v vs=>
   obtain ⟨y,used1,fs,h1,h2,h3,h4⟩:=hone used x v _ (hr 0 (by simp)) (hcons _ _ _ _ hk)
   obtain ⟨ys,used2,fss,g1,g2,g3,g4,g5⟩:=owns_gen hone hnil hcons xs vs used1 (y::acc) (by simpa using hv) (fun i hi=>by have:=hr (i+1) (by simpa using hi);exact this) h1
   refine ⟨y::ys,used2,fs::fss,by simpa using g1,by simp [g2],by simp [g3],fun i hi=> ?_,?_⟩
   · cases i with
     |zero=>exact ⟨h2,h3⟩
     |succ i=>exact g4 i (by simpa using hi)
   · rw [List.flatten_cons];exact h4.app g5
theorem ownA_out (h:RS B N φ fp S ts m a w) {used:List Nat} {x:AV} {v:Value} (hx:RV w S φ x v) {k:AV→List Nat→Prop} (hk:sOwnA m used x k):
 ∃y used' fs,k y used'∧True∧Own w (fun _=>False) y v fs∧Taken fp used used' fs:=by
 cases x with
 |agg xs=>
  obtain ⟨cs,rfl,h1,h2,h3⟩:=rv_agg hx
  obtain ⟨ys,used',fss,g1,g2,g3,g4,g5⟩:=owns_gen (one:=fun used x k=>sOwnL m used x k) (ok:=leaf) (Q:=fun ys u=>k (.agg ys) u) (many:=fun used acc xs=>sOwnLs m (fun ys u=>k (.agg ys) u) used acc xs)
   (fun used x v k hx hk=>ownL_out h hx hk) (fun _ _ h=>h) (fun _ _ _ _ h=>h) xs cs.toList used [] (by simpa using h1) h3 hk
  exact ⟨.agg ys,used',fss.flatten,by simpa using g1,trivial,.agg ys cs fss (h1.trans g2.symm) (fun i hi=>(g4 i hi).1) g3 (fun i hi=>(g4 i hi).2),g5⟩
 |_=>
  obtain ⟨y,used',fs,g1,_,g3,g4⟩:=ownL_out h hx hk
  exact ⟨y,used',fs,g1,trivial,g3,g4⟩
theorem ownAs_out (h:RS B N φ fp S ts m a w) {xs:List AV} {vs:List Value} (hl:vs.length=xs.length) (hx:∀i (h:i<xs.length),RV w S φ xs[i] (vs.getD i Go.undef)) {k:List AV→Prop} (hk:sOwnAs m k [] [] xs):
 ∃(ys:List AV) (fss:List (List Nat)),k ys∧ys.length=xs.length∧fss.length=ys.length∧(∀i (h:i<ys.length),Own w (fun _=>False) ys[i] (vs.getD i Go.undef) (fss.getD i []))∧fss.flatten.Nodup∧∀b,b∈fss.flatten→∃l,l<ioL∧b∈fp l:=by
 obtain ⟨ys,used',fss,g1,g2,g3,g4,g5⟩:=owns_gen (one:=fun used x k=>sOwnA m used x k) (ok:=fun _=>True) (Q:=fun ys _=>k ys) (many:=fun used acc xs=>sOwnAs m k used acc xs)
  (fun used x v k hx hk=>ownA_out h hx hk) (fun _ _ h=>h) (fun _ _ _ _ h=>h) xs vs [] [] hl hx hk
 refine ⟨ys,fss,by simpa using g1,g2,g3,fun i hi=>(g4 i hi).2,g5.nod,fun b hb=> ?_⟩
 obtain ⟨l,hl,hbl⟩:=g5.mem b hb
 rcases g5.lo l hl with hh|hh
 · cases hh
 · exact ⟨l,hh,hbl⟩
theorem mkRes_out {ys:List AV} {vs:List Value} {fss:List (List Nat)} (hl:vs.length=ys.length) (hf:fss.length=ys.length) (hv:∀i (h:i<ys.length),Own w (fun _=>False) ys[i] (vs.getD i Go.undef) (fss.getD i [])):
 Own w (fun _=>False) (mkRes ys) (if h:vs.toArray.size=1 then vs.toArray[0] else .tuple vs.toArray) fss.flatten:=by
 match ys,vs,fss,hl,hf,hv with
 | [],[],[],_,_,_=>exact .rd _ _ (.tup [] #[] rfl fun i hi=>absurd hi (q21 _))
 | [y],[v],[f],_,_,hv=>simpa [mkRes] using hv 0 (by simp)
 |y::y'::r,v::v'::r',f::f'::r'',hl,hf,hv=>
  have:¬((v::v'::r').toArray.size=1):=by simp
  rw [dif_neg this]
  exact .tup _ _ _ (by simpa using hl) hf (by simpa using hv)
theorem look_argsE:∀(xs:List AV) (i t:Nat),look (argsE i xs) t=if i≤t then (xs[t-i]?).getD .undef else .undef
 | [],i,t=>by simp [argsE,look]
 |x::r,i,t=>by
  rw [argsE,look_cons,look_argsE r (i+1) t]
  by_cases h:i=t
  · subst h;simp
  · by_cases h2:i≤t
    · have h3:i+1≤t:=by omega
      rw [if_neg h,if_pos h3,if_pos h2,show t-i=(t-(i+1))+1 by omega,List.getElem?_cons_succ]
    · rw [if_neg h,if_neg (by omega),if_neg h2]
end
theorem Fn.of_vc' {P:Program} {f:FuncId} {fn:Func} {c:Code} {args:List AV} {post:AV→Prop} (hf:P.funcs[f]? =some fn) (hn:(fn.name== "runtime.NumGoroutine")=false) (hb:fn.body=some c)
 (hok:codeOk fn.ntmps c=true) (ha:args.length≤fn.ntmps) (hv:vc P fn.ntmps c (argsE 0 args) [] (fin P fn.results.toList post)):Fn P f args true post:=by
 refine ⟨⟨fn,c,hf,hn,hb⟩,fun w S vs hS hkon hsz hrd=> ?_⟩
 refine calls_of_wp hf hb ?_
 have hRS:RS ⟨w,fun _ _=>False,fun _=>True,fun _=>.dead,[]⟩ fn.ntmps (fun _=>.dead) (fun _=>[]) (fun b=>b<w.heap.size) (argsE 0 args) [] {tmps:=vs++Array.replicate (fn.ntmps-vs.size) undef,defers:=[]} w:=by
  have hx:∀i (h:i<args.length),Rd w (fun b=>b<w.heap.size) args[i] (vs.toList.getD i Go.undef):=fun i h=>(hrd i h).mono (fun _ _=>rfl) hS
  have hlook:∀t,(look (argsE 0 args) t= .undef∨∃h:t<args.length,look (argsE 0 args) t=args[t]):=by
   intro t
   rw [look_argsE]
   by_cases h:t<args.length
   · exact .inr ⟨h,by simp [h]⟩
   · exact .inl (by simp [h])
  refine {tm:=fun t=> ?_,tl:=fun t l ver hl=> ?_,mNone:=fun _ _=>⟨rfl,rfl⟩,mSome:=fun l k hk=>(by cases hk),bl:=fun l v xs hk=>(by cases hk),nod:=fun _=>q18,
          dis:=fun _ _ _ h=>(by cases h),notS:=fun _ _ h=>(by cases h),fpB:=fun _ _ h=>(by cases h),sB:=fun b hb=>⟨hb,.inr trivial⟩,base:=fun b hb _=>rfl,out:=SameOut.refl _,szs:=Szs.refl _,kn:=fun _ _ _ hk=>hk,fix:=fun _ _ _ _=>LS.le_refl _ _,
          size:=Nat.le_refl _,defers:=rfl,tsz:=by simp;omega,kon:=hkon.mono (fun _ _=>rfl) hS}
  · rcases hlook t with e|⟨h,e⟩
    · rw [e];exact .rd _ _ (.undef _)
    · rw [e]
      have h1:=hx t h
      have:vs.toList.getD t Go.undef=(vs++Array.replicate (fn.ntmps-vs.size) undef).getD t Go.undef:=by
       have h2:t<vs.size:=by omega
       simp only [q0,q4,q2]
       rw [Array.getElem?_append_left h2]
      rw [←this]
      exact .rd _ _ h1
  · rcases hlook t with e|⟨h,e⟩
    · rw [e] at hl;cases hl
    · rw [e,labs_rd (hx t h)] at hl;cases hl
 have hend:∀a' w',Done ⟨w,fun _ _=>False,fun _=>True,fun _=>.dead,[]⟩ fn.ntmps (fun ts m=>sResults P (fun xs=>sOwnAs m (fun ys=>post (mkRes ys)) [] [] xs) fn.results.toList ts m []) a' w'→
  a'.defers=[]∧∃v,(results fn a'.tmps).run P w'= .ok v w'∧∃r v',Ending.returned v= .returned v'∧post r∧Grown w w'∧FnRes w w' S true r v':=by
  rintro a' w' ⟨φ',fp',S',ts',m',h',hk⟩
  refine ⟨h'.defers,?_⟩
  obtain ⟨xs,us,h1,h2,h3,_⟩:=results_out h' fn.results.toList [] [] ⟨rfl,fun i hi=>absurd hi (q21 _)⟩ hk
  obtain ⟨h3a,h3b⟩:=h3
  simp only [q17] at h3a h3b
  obtain ⟨ys,fss,g1,g2,g3,g4,g5,g6⟩:=ownAs_out h' h3a h3b h1
  refine ⟨if h:us.toArray.size=1 then us.toArray[0] else .tuple us.toArray,?_,mkRes ys,_,rfl,g1,⟨h'.size,fun b hb=>h'.base b hb (fun _ h=>h),h'.out⟩,?_⟩
  · have hm:results fn a'.tmps=(do let vs ←fn.results.mapM (resOne a'.tmps);pure (if h:vs.size=1 then vs[0] else .tuple vs)):=by
     unfold results
     congr 1
    rw [hm,Sem.run_bind,Array.mapM_eq_mapM_toList]
    have:(List.toArray <$> fn.results.toList.mapM (resOne a'.tmps):Sem (Array Value)).run P w'= .ok us.toArray w':=by
     rw [map_eq_pure_bind,Sem.run_bind,h2];rfl
    rw [this];rfl
  · refine ⟨fss.flatten,mkRes_out (h3a.trans g2.symm) g3 g4,g5,fun b hb=> ?_⟩
    obtain ⟨l,hl,hbl⟩:=g6 b hb
    rcases (h'.fpB l b hbl).2 with hh|⟨_,hh,_⟩
    · exact hh
    · exact hh.elim
 refine wp_mono (vc_sound c _ _ _ hok hv _ _ _ _ _ _ hRS) ?_
 intro e a' w' hq
 cases e with
 |normal=>exact hend a' w' hq
 |ret=>exact hend a' w' hq
 |_=>obtain ⟨_,_,_,_,_,_,hh⟩:=hq;exact hh.elim
theorem Fn.of_vc {P:Program} {f:FuncId} {fn:Func} {c:Code} {args:List AV} {post:AV→Prop} (N:Nat) (rs:List ResultVar) (hf:P.funcs[f]? =some fn) (hN:fn.ntmps=N) (hr:fn.results.toList=rs) (hn:(fn.name== "runtime.NumGoroutine")=false)
 (hb:fn.body=some c) (hok:codeOk N c=true) (ha:args.length≤N) (hv:vc P N c (argsE 0 args) [] (fin P rs post)):Fn P f args true post:=by
 subst hN;subst hr;exact Fn.of_vc' hf hn hb hok ha hv
end Go.Vc
namespace Go.Vc
def ioM:Nat→List Blk→Mem
 |_,[]=>[]
 |k,b::r=>(ioL+k,b)::ioM (k+1) r
theorem ioM_nil (k:Nat):ioM k []=[]:=rfl
theorem ioM_cons (k:Nat) (b:Blk) (r:List Blk):ioM k (b::r)=(1000000000+k,b)::ioM (k+1) r:=rfl
theorem lookB_ioM:∀(io:List Blk) (k l:Nat),lookB (ioM k io) l=if ioL+k≤l then io[l-(ioL+k)]? else none
 | [],k,l=>by simp [ioM,lookB]
 |b::r,k,l=>by
  rw [ioM,lookB_cons,lookB_ioM r (k+1) l]
  by_cases h:ioL+k=l
  · subst h;simp
  · by_cases h2:ioL+k≤l
    · rw [if_neg h,if_pos (by omega),if_pos h2,show l-(ioL+k)=(l-(ioL+(k+1)))+1 by omega,List.getElem?_cons_succ]
    · rw [if_neg h,if_neg (by omega),if_neg h2]
def labFree:Blk→Prop
 | .box _ xs=>labsL xs=[]
 | .row _ _ _ _=>True
 | .gone _=>False
 | .lent _ _ _ _=>False
 | .sub _ _ _ _=>False
def IoOk (io io':List Blk) (m:Mem):Prop:=io'.length=io.length∧∀k (h:k<io'.length) (h':k<io.length),lookB m (ioL+k)=some io'[k]∧io'[k].ver=io[k].ver∧labFree io'[k]
def ioB (w:World) (φ:Nat→LS) (fp:Nat→List Nat) (S:Nat→Prop) (io:List Blk):Base:=⟨w,fun l b=>b∈fp l,S,φ,ioM 0 io⟩
def FnM (P:Program) (f:FuncId) (io:List Blk) (args:List AV) (post:AV→List Blk→Prop):Prop:=
 Enters P f∧∀(w:World) (φ:Nat→LS) (fp:Nat→List Nat) (S:Nat→Prop) (vs:Array Value),vs.size=args.length→
  RS (ioB w φ fp S io) vs.size φ fp S (argsE 0 args) (ioM 0 io) {tmps:=vs,defers:=[]} w→
  Calls P f vs w fun e w'=>∃r v io' φ' fp' S' m',e= .returned v∧post r io'∧RS (ioB w φ fp S io) 0 φ' fp' S' [] m' {tmps:= #[],defers:=[]} w'∧IoOk io io' m'∧
   ∃fs,Own w' (fun _=>False) r v fs∧fs.Nodup∧∀b,b∈fs→w.heap.size≤b∧¬S' b∧∀l,ioL≤l→b∉fp' l
def sIo1 (v:Nat) (b:Option Blk) (k:Blk→Prop):Prop:=match b with
 |some (.row v' sh d xs)=>v'=v∧k (.row v' sh d xs)
 |some (.box v' xs)=>v'=v∧labsL xs=[]∧k (.box v' xs)
 |_=>False
@[congr] theorem sIo1_congr {v:Nat} {b b':Option Blk} {k:Blk→Prop} (h:b=b'):sIo1 v b k=sIo1 v b' k:=by rw [h]
theorem sIo1_row (v:Nat) (sh:Sh) (d:Bool) (xs:List AV) (k:Blk→Prop):sIo1 v (some (.row v sh d xs)) k=k (.row v sh d xs):=by simp [sIo1]
theorem sIo1_box (v:Nat) (xs:List AV) (k:Blk→Prop):sIo1 v (some (.box v xs)) k=(labsL xs=[]∧k (.box v xs)):=by simp [sIo1]
def sIoB (m:Mem) (k:List Blk→Prop):Nat→List Nat→List Blk→Prop
 |_,[],acc=>k acc.reverse
 |i,v::r,acc=>sIo1 v (lookB m (ioL+i)) fun b=>sIoB m k (i+1) r (b::acc)
theorem sIoB_nil (m:Mem) (k:List Blk→Prop) (i:Nat) (acc:List Blk):sIoB m k i [] acc=k acc.reverse:=rfl
theorem sIoB_cons (m:Mem) (k:List Blk→Prop) (i v:Nat) (r:List Nat) (acc:List Blk):sIoB m k i (v::r) acc=sIo1 v (lookB m (1000000000+i)) fun b=>sIoB m k (i+1) r (b::acc):=rfl
theorem sIo_out {m:Mem} {k:List Blk→Prop}:∀(vers:List Nat) (i:Nat) (acc:List Blk),sIoB m k i vers acc→∃io',k (acc.reverse++io')∧io'.length=vers.length∧
 ∀j (h:j<io'.length) (h':j<vers.length),lookB m (ioL+(i+j))=some io'[j]∧io'[j].ver=vers[j]∧labFree io'[j]
 | [],i,acc,hk=>by
   have hk1:k acc.reverse:=hk
   exact ⟨[],by simpa using hk1,rfl,fun j h=>absurd h (q21 _)⟩
 |v::r,i,acc,hk0=>by
  have hk1:sIo1 v (lookB m (ioL+i)) fun b=>sIoB m k (i+1) r (b::acc):=hk0
  clear hk0
  have main:∀b,lookB m (ioL+i)=some b→b.ver=v→labFree b→sIoB m k (i+1) r (b::acc)→∃io',k (acc.reverse++io')∧io'.length=(v::r).length∧
   ∀j (h:j<io'.length) (h':j<(v::r).length),lookB m (ioL+(i+j))=some io'[j]∧io'[j].ver=(v::r)[j]∧labFree io'[j]:=by
   intro b hb hv hf hk
   obtain ⟨io',h1,h2,h3⟩:=sIo_out r (i+1) (b::acc) hk
   refine ⟨b::io',by simpa using h1,by simp [h2],fun j hj hj'=> ?_⟩
   cases j with
   |zero=>exact ⟨hb,hv,hf⟩
   |succ j=>
    have:=h3 j (by simpa using hj) (by simpa using hj')
    rw [show i+1+j=i+(j+1) by omega] at this
    exact this
  unfold sIo1 at hk1
  split at hk1
  · rename_i hb;exact main _ hb hk1.1 trivial hk1.2
  · rename_i hb;exact main _ hb hk1.1 hk1.2.1 hk1.2.2
  · exact hk1.elim
def finM (P:Program) (rs:List ResultVar) (vers:List Nat) (post:AV→List Blk→Prop):Post
 | .normal=>fun ts m=>sResults P (fun xs=>sOwnAs m (fun ys=>sIoB m (fun io'=>post (mkRes ys) io') 0 vers []) [] [] xs) rs ts m []
 | .ret=>fun ts m=>sResults P (fun xs=>sOwnAs m (fun ys=>sIoB m (fun io'=>post (mkRes ys) io') 0 vers []) [] [] xs) rs ts m []
 |_=>fun _ _=>False
theorem finM_ret (P:Program) (rs:List ResultVar) (vers:List Nat) (post:AV→List Blk→Prop) (ts:Env) (m:Mem):
 finM P rs vers post .ret ts m=sResults P (fun xs=>sOwnAs m (fun ys=>sIoB m (fun io'=>post (mkRes ys) io') 0 vers []) [] [] xs) rs ts m []:=rfl
theorem FnM.of_vc' {P:Program} {f:FuncId} {fn:Func} {c:Code} {io:List Blk} {args:List AV} {post:AV→List Blk→Prop} (hf:P.funcs[f]? =some fn) (hn:(fn.name== "runtime.NumGoroutine")=false) (hb:fn.body=some c)
 (hok:codeOk fn.ntmps c=true) (ha:args.length≤fn.ntmps) (hv:vc P fn.ntmps c (argsE 0 args) (ioM 0 io) (finM P fn.results.toList (io.map Blk.ver) post)):FnM P f io args post:=by
 refine ⟨⟨fn,c,hf,hn,hb⟩,fun w φ fp S vs hsz hR0=> ?_⟩
 refine calls_of_wp hf hb ?_
 have hRS:RS (ioB w φ fp S io) fn.ntmps φ fp S (argsE 0 args) (ioM 0 io) {tmps:=vs++Array.replicate (fn.ntmps-vs.size) undef,defers:=[]} w:=by
  refine {hR0 with tm:=fun t=> ?_,defers:=rfl,tsz:=by simp;omega}
  by_cases h:t<args.length
  · have h1:=hR0.tm t
    have:vs.getD t Go.undef=(vs++Array.replicate (fn.ntmps-vs.size) undef).getD t Go.undef:=by
     have h2:t<vs.size:=by omega
     simp only [q0]
     rw [Array.getElem?_append_left h2]
    rw [←this];exact h1
  · rw [look_argsE]
    have:(if 0≤t then (args[t-0]?).getD AV.undef else .undef)= .undef:=by simp [q6 (show args.length≤t by omega)]
    rw [this];exact .rd _ _ (.undef _)
 have hend:∀a' w',Done (ioB w φ fp S io) fn.ntmps (fun ts m=>sResults P (fun xs=>sOwnAs m (fun ys=>sIoB m (fun io'=>post (mkRes ys) io') 0 (io.map Blk.ver) []) [] [] xs) fn.results.toList ts m []) a' w'→
  a'.defers=[]∧∃v,(results fn a'.tmps).run P w'= .ok v w'∧∃r v' io' φ' fp' S' m',Ending.returned v= .returned v'∧post r io'∧RS (ioB w φ fp S io) 0 φ' fp' S' [] m' {tmps:= #[],defers:=[]} w'∧IoOk io io' m'∧
   ∃fs,Own w' (fun _=>False) r v' fs∧fs.Nodup∧∀b,b∈fs→w.heap.size≤b∧¬S' b∧∀l,ioL≤l→b∉fp' l:=by
  rintro a' w' ⟨φ',fp',S',ts',m',h',hk⟩
  refine ⟨h'.defers,?_⟩
  obtain ⟨xs,us,h1,h2,h3,_⟩:=results_out h' fn.results.toList [] [] ⟨rfl,fun i hi=>absurd hi (q21 _)⟩ hk
  obtain ⟨h3a,h3b⟩:=h3
  simp only [q17] at h3a h3b
  obtain ⟨ys,fss,g1,g2,g3,g4,g5,g6⟩:=ownAs_out h' h3a h3b h1
  obtain ⟨io',q1,q2,q3⟩:=sIo_out _ _ _ g1
  rw [List.reverse_nil,q17] at q1
  refine ⟨if h:us.toArray.size=1 then us.toArray[0] else .tuple us.toArray,?_,mkRes ys,_,io',φ',fp',S',m',rfl,q1,?_,⟨by simpa using q2,fun k hk hk'=> ?_⟩,fss.flatten,mkRes_out (h3a.trans g2.symm) g3 g4,g5,fun b hb=> ?_⟩
  · have hm:results fn a'.tmps=(do let vs ←fn.results.mapM (resOne a'.tmps);pure (if h:vs.size=1 then vs[0] else .tuple vs)):=by
     unfold results
     congr 1
    rw [hm,Sem.run_bind,Array.mapM_eq_mapM_toList]
    have:(List.toArray <$> fn.results.toList.mapM (resOne a'.tmps):Sem (Array Value)).run P w'= .ok us.toArray w':=by
     rw [map_eq_pure_bind,Sem.run_bind,h2];rfl
    rw [this];rfl
  · exact {h' with tm:=fun t=>by rw [look_nil];exact .rd _ _ (.undef _),tl:=fun t l ver hl=>(by rw [look_nil] at hl;cases hl),defers:=rfl,tsz:=rfl}
  · have:=q3 k hk (by simpa using hk')
    rw [Nat.zero_add] at this
    refine ⟨this.1,?_,this.2.2⟩
    rw [this.2.1,q9]
  · obtain ⟨l,hl,hbl⟩:=g6 b hb
    refine ⟨?_,h'.notS l b hbl,fun l' hl' hb'=> ?_⟩
    · rcases (h'.fpB l b hbl).2 with hh|⟨_,_,hh,_⟩
      · exact hh
      · exact absurd hl (Nat.not_lt.2 hh)
    · have:=h'.dis l l' b hbl hb'
      subst this
      exact absurd hl (Nat.not_lt.2 hl')
 refine wp_mono (vc_sound c _ _ _ hok hv _ _ _ _ _ _ hRS) ?_
 intro e a' w' hq
 cases e with
 |normal=>exact hend a' w' hq
 |ret=>exact hend a' w' hq
 |_=>obtain ⟨_,_,_,_,_,_,hh⟩:=hq;exact hh.elim
theorem FnM.of_vc {P:Program} {f:FuncId} {fn:Func} {c:Code} {io:List Blk} {args:List AV} {post:AV→List Blk→Prop} (N:Nat) (rs:List ResultVar) (hf:P.funcs[f]? =some fn) (hN:fn.ntmps=N) (hr:fn.results.toList=rs)
 (hn:(fn.name== "runtime.NumGoroutine")=false) (hb:fn.body=some c) (hok:codeOk N c=true) (ha:args.length≤N) (hv:vc P N c (argsE 0 args) (ioM 0 io) (finM P rs (io.map Blk.ver) post)):FnM P f io args post:=by
 subst hN;subst hr;exact FnM.of_vc' hf hn hb hok ha hv
theorem FnM.mono {P:Program} {f:FuncId} {io:List Blk} {args:List AV} {post post':AV→List Blk→Prop} (h:FnM P f io args post) (hp:∀r io',post r io'→post' r io'):FnM P f io args post':=
 ⟨h.1,fun w φ fp S vs h1 h2=>(h.2 w φ fp S vs h1 h2).mono fun _ _ ⟨r,v,io',φ',fp',S',m',g1,g2,g3⟩=>⟨r,v,io',φ',fp',S',m',g1,hp _ _ g2,g3⟩⟩
def sPos (l:Nat) (k:Nat→Prop):Nat→List Nat→Prop
 |_,[]=>False
 |j,l0::r=>if l0=l then k j else sPos l k (j+1) r
theorem sPos_cons (l:Nat) (k:Nat→Prop) (j l0:Nat) (r:List Nat):sPos l k j (l0::r)=if l0=l then k j else sPos l k (j+1) r:=rfl
def sRen (ρ:List Nat) (x:AV) (k:AV→Prop):Prop:=match x with
 | .ref l v i n=>sPos l (fun j=>k (.ref (1000000000+j) v i n)) 0 ρ
 | .ptr l v i n=>sPos l (fun j=>k (.ptr (1000000000+j) v i n)) 0 ρ
 | .val v=>k (.val v)
 | .e0=>k .e0
 | .arr sh xs=>k (.arr sh xs)
 | .eptr sh xs i j=>k (.eptr sh xs i j)
 |_=>False
@[congr] theorem sRen_congr {ρ:List Nat} {x x':AV} {k:AV→Prop} (h:x=x'):sRen ρ x k=sRen ρ x' k:=by rw [h]
theorem sRen_ref (ρ:List Nat) (l v i n:Nat) (k:AV→Prop):sRen ρ (.ref l v i n) k=sPos l (fun j=>k (.ref (1000000000+j) v i n)) 0 ρ:=rfl
theorem sRen_val (ρ:List Nat) (v:Value) (k:AV→Prop):sRen ρ (.val v) k=k (.val v):=rfl
theorem sRen_arr (ρ:List Nat) (sh:Sh) (xs:List AV) (k:AV→Prop):sRen ρ (.arr sh xs) k=k (.arr sh xs):=rfl
def sRenL (ρ:List Nat) (k:List AV→Prop):List AV→List AV→Prop
 |acc,[]=>k acc.reverse
 |acc,x::r=>sRen ρ x fun y=>sRenL ρ k (y::acc) r
theorem sRenL_nil (ρ:List Nat) (k:List AV→Prop) (acc:List AV):sRenL ρ k acc []=k acc.reverse:=rfl
theorem sRenL_cons (ρ:List Nat) (k:List AV→Prop) (acc:List AV) (x:AV) (r:List AV):sRenL ρ k acc (x::r)=sRen ρ x fun y=>sRenL ρ k (y::acc) r:=rfl
def sRenA (ρ:List Nat) (x:AV) (k:AV→Prop):Prop:=match x with
 | .agg xs=>sRenL ρ (fun ys=>k (.agg ys)) [] xs
 |x=>sRen ρ x k
@[congr] theorem sRenA_congr {ρ:List Nat} {x x':AV} {k:AV→Prop} (h:x=x'):sRenA ρ x k=sRenA ρ x' k:=by rw [h]
theorem sRenA_agg (ρ:List Nat) (xs:List AV) (k:AV→Prop):sRenA ρ (.agg xs) k=sRenL ρ (fun ys=>k (.agg ys)) [] xs:=rfl
theorem sRenA_ref (ρ:List Nat) (l v i n:Nat) (k:AV→Prop):sRenA ρ (.ref l v i n) k=sPos l (fun j=>k (.ref (1000000000+j) v i n)) 0 ρ:=rfl
theorem sRenA_ptr (ρ:List Nat) (l v i n:Nat) (k:AV→Prop):sRenA ρ (.ptr l v i n) k=sPos l (fun j=>k (.ptr (1000000000+j) v i n)) 0 ρ:=rfl
theorem sRenA_val (ρ:List Nat) (v:Value) (k:AV→Prop):sRenA ρ (.val v) k=k (.val v):=rfl
theorem sRenA_arr (ρ:List Nat) (sh:Sh) (xs:List AV) (k:AV→Prop):sRenA ρ (.arr sh xs) k=k (.arr sh xs):=rfl
def sRens (ρ:List Nat) (k:List AV→Prop):List AV→List AV→Prop
 |acc,[]=>k acc.reverse
 |acc,x::r=>sRenA ρ x fun y=>sRens ρ k (y::acc) r
theorem sRens_nil (ρ:List Nat) (k:List AV→Prop) (acc:List AV):sRens ρ k acc []=k acc.reverse:=rfl
theorem sRens_cons (ρ:List Nat) (k:List AV→Prop) (acc:List AV) (x:AV) (r:List AV):sRens ρ k acc (x::r)=sRenA ρ x fun y=>sRens ρ k (y::acc) r:=rfl
def notIn (l:Nat):List Nat→Prop
 | []=>True
 |x::r=>l≠x∧notIn l r
theorem notIn_nil (l:Nat):notIn l []=True:=rfl
theorem notIn_cons (l x:Nat) (r:List Nat):notIn l (x::r)=(l≠x∧notIn l r):=rfl
theorem notIn_out {l:Nat}:∀{r:List Nat},notIn l r→l∉r
 | [],_,h=>by cases h
 |_::_,h,hm=>by
  rcases List.mem_cons.1 hm with e|hm
  · exact h.1 e
  · exact notIn_out h.2 hm
def sSel1 (b:Option Blk) (k:Blk→Prop):Prop:=match b with
 |some (.row v sh d xs)=>k (.row v sh d xs)
 |some (.box v xs)=>labsL xs=[]∧k (.box v xs)
 |_=>False
@[congr] theorem sSel1_congr {b b':Option Blk} {k:Blk→Prop} (h:b=b'):sSel1 b k=sSel1 b' k:=by rw [h]
theorem sSel1_row (v:Nat) (sh:Sh) (d:Bool) (xs:List AV) (k:Blk→Prop):sSel1 (some (.row v sh d xs)) k=k (.row v sh d xs):=rfl
theorem sSel1_box (v:Nat) (xs:List AV) (k:Blk→Prop):sSel1 (some (.box v xs)) k=(labsL xs=[]∧k (.box v xs)):=rfl
def sSel (m:Mem) (k:List Blk→Prop):List Blk→List Nat→Prop
 |acc,[]=>k acc.reverse
 |acc,l::r=>notIn l r∧sSel1 (lookB m l) fun b=>sSel m k (b::acc) r
theorem sSel_nil (m:Mem) (k:List Blk→Prop) (acc:List Blk):sSel m k acc []=k acc.reverse:=rfl
theorem sSel_cons (m:Mem) (k:List Blk→Prop) (acc:List Blk) (l:Nat) (r:List Nat):sSel m k acc (l::r)=(notIn l r∧sSel1 (lookB m l) fun b=>sSel m k (b::acc) r):=rfl
def putIo:List Nat→List Blk→Mem→Mem
 |l::ρ,b::io,m=>(l,b)::putIo ρ io m
 |_,_,m=>m
theorem putIo_cons (l:Nat) (ρ:List Nat) (b:Blk) (io:List Blk) (m:Mem):putIo (l::ρ) (b::io) m=(l,b)::putIo ρ io m:=rfl
theorem putIo_nil (io:List Blk) (m:Mem):putIo [] io m=m:=rfl
def sCallM (P:Program) (f:FuncId) (d:Nat) (ρ:List Nat) (io:List Blk) (args:List AV) (m:Mem) (k:AV→Mem→Prop) (_:Pack k):Prop:=
 ∃post,FnM P f io args post∧∀r io',post r io'→sMat (1000*(d+1)) r (putIo ρ io' m) k
@[congr] theorem sCallM_congr {P:Program} {f:FuncId} {d:Nat} {ρ:List Nat} {io io':List Blk} {args args':List AV} {m:Mem} {k:AV→Mem→Prop} {q:Pack k} (h:io=io') (h':args=args'):sCallM P f d ρ io args m k q=sCallM P f d ρ io' args' m k q:=by rw [h,h']
theorem sCallM_one {P:Program} {f:FuncId} {d:Nat} {ρ:List Nat} {io io1:List Blk} {args:List AV} {m:Mem} {k:AV→Mem→Prop} {r:AV} (h:FnM P f io args (fun x io'=>x=r∧io'=io1)) (hk:sMat (1000*(d+1)) r (putIo ρ io1 m) k) {q:Pack k}:sCallM P f d ρ io args m k q:=
 ⟨_,h,fun _ _ ⟨e,e'⟩=>by subst e;subst e';exact hk⟩
theorem sCallM_any {P:Program} {f:FuncId} {d:Nat} {ρ:List Nat} {io:List Blk} {args:List AV} {post:AV→List Blk→Prop} {m:Mem} {k:AV→Mem→Prop} (h:FnM P f io args post) (hk:∀r io',post r io'→sMat (1000*(d+1)) r (putIo ρ io' m) k) {q:Pack k}:sCallM P f d ρ io args m k q:=
 ⟨_,h,hk⟩
section
variable {P:Program} {B:Base} {N:Nat} {φ:Nat→LS} {fp:Nat→List Nat} {S:Nat→Prop} {ts:Env} {m:Mem} {a:Act} {w:World}
theorem sSel_out {k:List Blk→Prop}:∀(ρ:List Nat) (acc:List Blk),sSel m k acc ρ→ρ.Nodup∧∃io,k (acc.reverse++io)∧io.length=ρ.length∧∀j (h:j<ρ.length) (h':j<io.length),lookB m ρ[j]=some io[j]∧labFree io[j]
 | [],acc,hk=>by
   have hk1:k acc.reverse:=hk
   exact ⟨q18,[],by simpa using hk1,rfl,fun j h=>absurd h (q21 _)⟩
 |l::r,acc,hk=>by
  obtain ⟨hn,hk⟩:=hk
  have main:∀b,lookB m l=some b→labFree b→sSel m k (b::acc) r→(l::r).Nodup∧∃io,k (acc.reverse++io)∧io.length=(l::r).length∧∀j (h:j<(l::r).length) (h':j<io.length),lookB m (l::r)[j]=some io[j]∧labFree io[j]:=by
   intro b hb hf hk
   obtain ⟨h0,io,h1,h2,h3⟩:=sSel_out r (b::acc) hk
   refine ⟨List.nodup_cons.2 ⟨notIn_out hn,h0⟩,b::io,by simpa using h1,by simp [h2],fun j hj hj'=> ?_⟩
   cases j with
   |zero=>exact ⟨hb,hf⟩
   |succ j=>exact h3 j (by simpa using hj) (by simpa using hj')
  unfold sSel1 at hk
  split at hk
  · rename_i hb;exact main _ hb trivial hk
  · rename_i hb;exact main _ hb hk.1 hk.2
  · exact hk.elim
theorem sPos_out {l:Nat} {k:Nat→Prop}:∀(ρ:List Nat) (i:Nat),sPos l k i ρ→∃j,∃h:j<ρ.length,ρ[j]=l∧k (i+j)
 | [],_,hk=>hk.elim
 |l0::r,i,hk=>by
  rw [sPos_cons] at hk
  split at hk
  · rename_i e;exact ⟨0,by simp,e,hk⟩
  · obtain ⟨j,h1,h2,h3⟩:=sPos_out r (i+1) hk
    exact ⟨j+1,by simpa using h1,by simpa using h2,by rw [show i+(j+1)=i+1+j by omega];exact h3⟩
def φio (φ:Nat→LS) (ρ:List Nat):Nat→LS:=fun l=>if ioL≤l then (match ρ[l-ioL]? with|some l'=>φ l'|none=>.dead) else .dead
def fpio (fp:Nat→List Nat) (ρ:List Nat):Nat→List Nat:=fun l=>if ioL≤l then (match ρ[l-ioL]? with|some l'=>fp l'|none=>[]) else []
theorem φio_at (φ:Nat→LS) {ρ:List Nat} {j:Nat} (h:j<ρ.length):φio φ ρ (ioL+j)=φ ρ[j]:=by simp [φio,h]
theorem fpio_at (fp:Nat→List Nat) {ρ:List Nat} {j:Nat} (h:j<ρ.length):fpio fp ρ (ioL+j)=fp ρ[j]:=by simp [fpio,h]
theorem fpio_mem {fp:Nat→List Nat} {ρ:List Nat} {l b:Nat} (h:b∈fpio fp ρ l):∃j,∃hj:j<ρ.length,l=ioL+j∧b∈fp ρ[j]:=by
 unfold fpio at h
 split at h
 · rename_i hl
   split at h
   · rename_i l' hl'
     obtain ⟨hj,e⟩:=q7.1 hl'
     exact ⟨l-ioL,hj,by omega,by rw [e];exact h⟩
   · cases h
 · cases h
theorem ren_out {io:List Blk} {ρ:List Nat} (hio:io.length=ρ.length) (hlk:∀j (h:j<ρ.length) (h':j<io.length),lookB m ρ[j]=some io[j]∧labFree io[j]) {x:AV} {v:Value} (hx:RV w S φ x v) (hxl:∀l ver,(l,ver)∈labs x→known m l ver)
 {k:AV→Prop} (hk:sRen ρ x k):∃y,k y∧RV w S (φio φ ρ) y v∧leaf y∧∀l ver,(l,ver)∈labs y→known (ioM 0 io) l ver:=by
 have kn:∀j (hj:j<ρ.length) ver,known m ρ[j] ver→known (ioM 0 io) (ioL+j) ver:=by
  rintro j hj ver ⟨k',h1,h2⟩
  rw [(hlk j hj (by omega)).1] at h1
  have h1:=Option.some.inj h1
  refine ⟨io[j]'(by omega),?_,by rw [h1];exact h2⟩
  rw [lookB_ioM,if_pos (by omega)]
  simp<;>omega
 have flat:∀y,labs y=[]→leaf y→k y→RV w S φ y v→∃y,k y∧RV w S (φio φ ρ) y v∧leaf y∧∀l ver,(l,ver)∈labs y→known (ioM 0 io) l ver:=by
  intro y hl hlf hk hv
  exact ⟨y,hk,.rd _ _ (rd_of_rv hv hl),hlf,fun l ver h=>by rw [hl] at h;cases h⟩
 unfold sRen at hk
 split at hk
 · rename_i l ver i n
   obtain ⟨j,hj,rfl,hk1⟩:=sPos_out ρ 0 hk
   simp only [Nat.zero_add] at hk1
   obtain ⟨r1,r2⟩:=rv_ref hx
   have h3:v.oneCell'=true:=hx.leaf_oneCell trivial
   refine ⟨_,hk1,.ref _ _ _ _ _ (fun b sh hb=> ?_) (fun hb=> ?_) h3,trivial,fun l' ver' hl'=> ?_⟩
   · rw [show (1000000000+j)=ioL+j from rfl,φio_at φ hj] at hb
     exact r1 b sh hb
   · rw [show (1000000000+j)=ioL+j from rfl,φio_at φ hj] at hb
     exact r2 hb
   · simp only [labs,q16,Prod.mk.injEq] at hl'
     obtain ⟨rfl,rfl⟩:=hl'
     exact kn j hj _ (hxl _ _ (by simp [labs]))
 · rename_i l ver i n
   obtain ⟨j,hj,rfl,hk1⟩:=sPos_out ρ 0 hk
   simp only [Nat.zero_add] at hk1
   have h3:v.oneCell'=true:=hx.leaf_oneCell trivial
   refine ⟨_,hk1,?_,trivial,fun l' ver' hl'=> ?_⟩
   · cases hx with
     |rd _ _ h=>cases h
     |ptr _ _ _ _ _ h1 h2 _=>
      refine .ptr _ _ _ _ _ (fun b sh hb=> ?_) (fun hb=> ?_) h3
      · rw [show (1000000000+j)=ioL+j from rfl,φio_at φ hj] at hb
        exact h1 b sh hb
      · rw [show (1000000000+j)=ioL+j from rfl,φio_at φ hj] at hb
        exact h2 hb
   · simp only [labs,q16,Prod.mk.injEq] at hl'
     obtain ⟨rfl,rfl⟩:=hl'
     exact kn j hj _ (hxl _ _ (by simp [labs]))
 · rename_i u;exact flat (.val u) rfl trivial hk hx
 · exact flat .e0 rfl trivial hk hx
 · rename_i sh xs;exact flat (.arr sh xs) rfl trivial hk hx
 · rename_i sh xs i j;exact flat (.eptr sh xs i j) rfl trivial hk hx
 · exact hk.elim
theorem renL_out {io:List Blk} {ρ:List Nat} (hio:io.length=ρ.length) (hlk:∀j (h:j<ρ.length) (h':j<io.length),lookB m ρ[j]=some io[j]∧labFree io[j]) {Q:List AV→Prop}:
 ∀(xs:List AV) (vs:List Value) (acc:List AV),vs.length=xs.length→(∀i (h:i<xs.length),RV w S φ xs[i] (vs.getD i Go.undef))→(∀i (h:i<xs.length) l ver,(l,ver)∈labs xs[i]→known m l ver)→sRenL ρ Q acc xs→
  ∃ys,Q (acc.reverse++ys)∧ys.length=xs.length∧∀i (h:i<ys.length),RV w S (φio φ ρ) ys[i] (vs.getD i Go.undef)∧leaf ys[i]∧∀l ver,(l,ver)∈labs ys[i]→known (ioM 0 io) l ver
 | [],vs,acc,_,_,_,hk=>by
   have hk1:Q acc.reverse:=hk
   exact ⟨[],by simpa using hk1,rfl,fun i h=>absurd h (q21 _)⟩
 |x::xs,vs,acc,hl,hx,hxl,hk=>by
  cases vs with
  |nil=>simp at hl
  |cons v vs=>
   obtain ⟨y,h1,h2,h3,h4⟩:=ren_out hio hlk (hx 0 (by simp)) (hxl 0 (by simp)) hk
   obtain ⟨ys,g1,g2,g3⟩:=renL_out hio hlk xs vs (y::acc) (by simpa using hl) (fun i hi=>hx (i+1) (by simpa using hi)) (fun i hi=>hxl (i+1) (by simpa using hi)) h1
   refine ⟨y::ys,by simpa using g1,by simp [g2],fun i hi=> ?_⟩
   cases i with
   |zero=>exact ⟨h2,h3,h4⟩
   |succ i=>exact g3 i (by simpa using hi)
theorem renA_out {io:List Blk} {ρ:List Nat} (hio:io.length=ρ.length) (hlk:∀j (h:j<ρ.length) (h':j<io.length),lookB m ρ[j]=some io[j]∧labFree io[j]) {x:AV} {v:Value} (hx:RV w S φ x v) (hxl:∀l ver,(l,ver)∈labs x→known m l ver)
 {k:AV→Prop} (hk:sRenA ρ x k):∃y,k y∧RV w S (φio φ ρ) y v∧∀l ver,(l,ver)∈labs y→known (ioM 0 io) l ver:=by
 unfold sRenA at hk
 split at hk
 · rename_i xs
   obtain ⟨cs,rfl,h1,h2,h3⟩:=rv_agg hx
   obtain ⟨ys,g1,g2,g3⟩:=renL_out hio hlk xs cs.toList [] (by simpa using h1) h3 (fun i hi l ver hl=>hxl l ver (by simp only [labs];exact mem_labsL hi hl)) hk
   refine ⟨.agg ys,by simpa using g1,.agg ys cs (h1.trans g2.symm) (fun i hi=>(g3 i hi).2.1) (fun i hi=>(g3 i hi).1),fun l ver hl=> ?_⟩
   simp only [labs] at hl
   obtain ⟨i,hi,hl⟩:=of_mem_labsL hl
   exact (g3 i hi).2.2 l ver hl
 · obtain ⟨y,h1,h2,_,h4⟩:=ren_out hio hlk hx hxl hk
   exact ⟨y,h1,h2,h4⟩
theorem rens_out {io:List Blk} {ρ:List Nat} (hio:io.length=ρ.length) (hlk:∀j (h:j<ρ.length) (h':j<io.length),lookB m ρ[j]=some io[j]∧labFree io[j]) {Q:List AV→Prop}:
 ∀(xs:List AV) (vs:List Value) (acc:List AV),vs.length=xs.length→(∀i (h:i<xs.length),RV w S φ xs[i] (vs.getD i Go.undef))→(∀i (h:i<xs.length) l ver,(l,ver)∈labs xs[i]→known m l ver)→sRens ρ Q acc xs→
  ∃ys,Q (acc.reverse++ys)∧ys.length=xs.length∧∀i (h:i<ys.length),RV w S (φio φ ρ) ys[i] (vs.getD i Go.undef)∧∀l ver,(l,ver)∈labs ys[i]→known (ioM 0 io) l ver
 | [],vs,acc,_,_,_,hk=>by
   have hk1:Q acc.reverse:=hk
   exact ⟨[],by simpa using hk1,rfl,fun i h=>absurd h (q21 _)⟩
 |x::xs,vs,acc,hl,hx,hxl,hk=>by
  cases vs with
  |nil=>simp at hl
  |cons v vs=>
   obtain ⟨y,h1,h2,h4⟩:=renA_out hio hlk (hx 0 (by simp)) (hxl 0 (by simp)) hk
   obtain ⟨ys,g1,g2,g3⟩:=rens_out hio hlk xs vs (y::acc) (by simpa using hl) (fun i hi=>hx (i+1) (by simpa using hi)) (fun i hi=>hxl (i+1) (by simpa using hi)) h1
   refine ⟨y::ys,by simpa using g1,by simp [g2],fun i hi=> ?_⟩
   cases i with
   |zero=>exact ⟨h2,h4⟩
   |succ i=>exact g3 i (by simpa using hi)
theorem lookB_putIo:∀(ρ:List Nat) (io:List Blk),io.length=ρ.length→ρ.Nodup→∀l,(∀j (h:j<ρ.length),ρ[j]=l→lookB (putIo ρ io m) l=io[j]?)∧(l∉ρ→lookB (putIo ρ io m) l=lookB m l)
 | [],io,_,_,l=>⟨fun j h=>absurd h (q21 _),fun _=>by rw [putIo_nil]⟩
 |l0::ρ,[],h,_,_=>by simp at h
 |l0::ρ,b::io,h,hn,l=>by
  obtain ⟨hn1,hn2⟩:=List.nodup_cons.1 hn
  obtain ⟨ih1,ih2⟩:=lookB_putIo ρ io (by simpa using h) hn2 l
  refine ⟨fun j hj e=> ?_,fun hl=> ?_⟩
  · rw [putIo_cons,lookB_cons]
    cases j with
    |zero=>rw [if_pos (by simpa using e)];rfl
    |succ j=>
     have e':ρ[j]'(by simpa using hj)=l:=by simpa using e
     rw [if_neg (fun e2=>hn1 (by rw [e2,←e'];exact List.getElem_mem _))]
     rw [ih1 j (by simpa using hj) e'];rfl
  · rw [putIo_cons,lookB_cons,if_neg (fun e=>hl (by rw [←e];exact q14 ..))]
    exact ih2 fun hm=>hl (q13 _ hm)
theorem callM_core {f:FuncId} {ρ:List Nat} {io:List Blk} {args xs:List AV} (hnd:ρ.Nodup) (hio:io.length=ρ.length)
 (hlk:∀j (h:j<ρ.length) (h':j<io.length),lookB m ρ[j]=some io[j]∧labFree io[j]) {vs:Array Value} (h:RS B N φ fp S ts m a w) (hvl:vs.size=args.length)
 (hx:∀i (h:i<args.length),RV w S (φio φ ρ) args[i] (vs.toList.getD i Go.undef)∧∀l ver,(l,ver)∈labs args[i]→known (ioM 0 io) l ver) {post:AV→List Blk→Prop} (hf:FnM P f io args post):
 Calls P f vs w fun e w'=>∃v r io' fp2 T fs,e= .returned v∧post r io'∧RS B N φ fp2 T ts (putIo ρ io' m) a w'∧Szs w w'∧io'.length=ρ.length∧
  Own w' (fun _=>False) r v fs∧(∀j (h:j<ρ.length) b,b∈fp2 ρ[j]→w.heap.size≤b∨b∈fp ρ[j])∧fs.Nodup∧∀b,b∈fs→w.heap.size≤b∧¬T b∧∀l,b∉fp2 l:=by
 have inj:∀i j (hi:i<ρ.length) (hj:j<ρ.length),ρ[i]=ρ[j]→i=j:=fun i j hi hj e=>(List.getElem_inj hnd).1 e
 have look0:∀l,lookB (ioM 0 io) l=if ioL≤l then io[l-ioL]? else none:=fun l=>by rw [lookB_ioM];rfl
 have at_:∀l b,lookB (ioM 0 io) l=some b→∃j,∃hj:j<ρ.length,∃hj':j<io.length,l=ioL+j∧b=io[j]:=by
  intro l b hb
  rw [look0] at hb
  split at hb
  · rename_i hl
    obtain ⟨hj,e⟩:=q7.1 hb
    exact ⟨l-ioL,by omega,hj,by omega,e.symm⟩
  · cases hb
 have hR0:RS (ioB w (φio φ ρ) (fpio fp ρ) S io) vs.size (φio φ ρ) (fpio fp ρ) S (argsE 0 args) (ioM 0 io) {tmps:=vs,defers:=[]} w:=by
  refine {tm:=fun t=> ?_,tl:=fun t l ver hl=> ?_,mNone:=fun l hl=> ?_,mSome:=fun l b hb=> ?_,bl:=fun l v xs hb l' ver hl=> ?_,nod:=fun l=> ?_,dis:=fun l l' b h1 h2=> ?_,
          notS:=fun l b hb=> ?_,fpB:=fun l b hb=> ?_,sB:=fun b hb=>⟨(h.sB b hb).1,.inr hb⟩,base:=fun b _ _=>rfl,out:=SameOut.refl _,szs:=Szs.refl _,kn:=fun _ _ _ hk=>hk,fix:=fun _ _ _ _=>LS.le_refl _ _,
          size:=Nat.le_refl _,defers:=rfl,tsz:=rfl,kon:=h.kon}
  · rw [look_argsE]
    by_cases ht:t<args.length
    · have e:(if 0≤t then (args[t-0]?).getD AV.undef else .undef)=args[t]:=by simp [ht]
      rw [e]
      have:=(hx t ht).1
      have e2:vs.toList.getD t Go.undef=vs.getD t Go.undef:=by
       simp [q4,q0]
      rw [←e2];exact this
    · have e:(if 0≤t then (args[t-0]?).getD AV.undef else .undef)= .undef:=by simp [q6 (show args.length≤t by omega)]
      rw [e];exact .rd _ _ (.undef _)
  · rw [look_argsE] at hl
    by_cases ht:t<args.length
    · have e:(if 0≤t then (args[t-0]?).getD AV.undef else .undef)=args[t]:=by simp [ht]
      rw [e] at hl
      exact (hx t ht).2 l ver hl
    · have e:(if 0≤t then (args[t-0]?).getD AV.undef else .undef)= .undef:=by simp [q6 (show args.length≤t by omega)]
      rw [e] at hl;cases hl
  · rw [look0] at hl
    unfold φio fpio
    split at hl
    · rename_i hl'
      have:ρ[l-ioL]? =none:=q6 (by have:=List.getElem?_eq_none_iff.1 hl;omega)
      rw [if_pos hl',if_pos hl',this];exact ⟨rfl,rfl⟩
    · rename_i hl'
      rw [if_neg hl',if_neg hl'];exact ⟨rfl,rfl⟩
  · obtain ⟨j,hj,hj',rfl,rfl⟩:=at_ l b hb
    have hb0:=h.mSome ρ[j] _ (hlk j hj hj').1
    have hfr:=(hlk j hj hj').2
    rw [fpio_at fp hj]
    generalize io[j]=b at hb0 hfr
    cases b with
    |gone v=>exact ⟨by rw [φio_at φ hj];exact hb0.1,hb0.2⟩
    |row v sh dp xs=>
     rcases hb0 with ⟨q1,q2,q3⟩|⟨b,cap,q1,q2⟩
     · exact .inl ⟨by rw [φio_at φ hj];exact q1,q2,q3⟩
     · exact .inr ⟨b,cap,by rw [φio_at φ hj];exact q1,q2⟩
    |lent v xs i u=>exact hfr.elim
    |sub v sh xs u=>exact hfr.elim
    |box v xs=>
     obtain ⟨b,cs,e,sh,q1,q2,q3,q4,q5,q6⟩:=hb0
     exact ⟨b,cs,e,sh,by rw [φio_at φ hj];exact q1,q2,q3,q4,q5,fun i hi=>.rd _ _ (rd_of_rv (q6 i hi) (labs_nil_get hfr i hi))⟩
  · obtain ⟨j,hj,hj',rfl,e⟩:=at_ l _ hb
    have hfr:=(hlk j hj hj').2
    rw [←e] at hfr
    have hfr:labsL xs=[]:=hfr
    rw [hfr] at hl;cases hl
  · unfold fpio
    split
    · split
      · exact h.nod _
      · exact q18
    · exact q18
  · obtain ⟨i,hi,rfl,b1⟩:=fpio_mem h1
    obtain ⟨j,hj,rfl,b2⟩:=fpio_mem h2
    have:=inj i j hi hj (h.dis _ _ b b1 b2)
    subst this;rfl
  · obtain ⟨i,hi,rfl,b1⟩:=fpio_mem hb
    exact h.notS _ b b1
  · obtain ⟨i,hi,rfl,b1⟩:=fpio_mem hb
    exact ⟨(h.fpB _ b b1).1,.inr ⟨_,hb,by omega,.inl rfl⟩⟩
 refine (hf.2 w (φio φ ρ) (fpio fp ρ) S vs hvl hR0).mono ?_
 rintro e w' ⟨r,v,io',φ',fp',S',m',rfl,hpost,hR,⟨hl',hok⟩,fs,hown,hndf,hfr⟩
 have hl2:io'.length=ρ.length:=hl'.trans hio
 have hsame:∀b:Nat,b<w.heap.size→(∀j (hj:j<ρ.length),b∉fp ρ[j])→w'.heap[b]? =w.heap[b]? :=fun b hb hn=>hR.base b hb fun l hb'=>by
  obtain ⟨j,hj,rfl,hb2⟩:=fpio_mem hb'
  exact hn j hj hb2
 have hSsame:∀b,S b→w'.heap[b]? =w.heap[b]? :=fun b hb=>hsame b (h.sB b hb).1 fun j hj hb'=>h.notS _ b hb' hb
 have hz:Sized φ w w':=fun l b sh ver cs e _ hb=>hR.szs b cs e hb
 have hm2:=fun l=>lookB_putIo (m:=m) ρ io' hl2 hnd l
 have hkn:∀l ver,known m l ver→known (putIo ρ io' m) l ver:=by
  rintro l ver ⟨k',h1,h2⟩
  by_cases hl:l∈ρ
  · obtain ⟨j,hj,rfl⟩:=q10 hl
    have e:=(hm2 ρ[j]).1 j hj rfl
    rw [q5 (by omega)] at e
    rw [(hlk j hj (by omega)).1] at h1
    have h1:=Option.some.inj h1
    exact ⟨_,e,by rw [(hok j (by omega) (by omega)).2.1,h1];exact h2⟩
  · exact ⟨k',((hm2 l).2 hl).trans h1,h2⟩
 let T:Nat→Prop:=fun b=>S b∨(S' b∧w.heap.size≤b)
 have hST:∀b,S' b→T b:=fun b hb=>by
  rcases (hR.sB b hb).2 with hh|hh
  · exact .inr ⟨hb,hh⟩
  · exact .inl hh
 let fp2:Nat→List Nat:=fun l=>match ρ.idxOf? l with|some j=>fp' (ioL+j)|none=>fp l
 have fp2in:∀j (hj:j<ρ.length),fp2 ρ[j]=fp' (ioL+j):=by
  intro j hj
  have:ρ.idxOf? ρ[j]=some j:=by
   rw [List.idxOf?,List.findIdx?_eq_some_iff_getElem]
   refine ⟨hj,by simp,fun i hi=> ?_⟩
   simp only [beq_iff_eq,Bool.not_eq_true,beq_eq_false_iff_ne,ne_eq]
   intro e2
   have:=inj i j (by omega) hj e2
   omega
  show (match ρ.idxOf? ρ[j] with|some j=>fp' (ioL+j)|none=>fp ρ[j])=_
  rw [this]
 have fp2out:∀l,l∉ρ→fp2 l=fp l:=by
  intro l hl
  have:ρ.idxOf? l=none:=by simpa [List.idxOf?_eq_none_iff] using hl
  show (match ρ.idxOf? l with|some j=>fp' (ioL+j)|none=>fp l)=_
  rw [this]
 have fpnew:∀j (hj:j<ρ.length) b,b∈fp' (ioL+j)→b<w'.heap.size∧(w.heap.size≤b∨b∈fp ρ[j]):=by
  intro j hj b hb
  have:=hR.fpB _ b hb
  refine ⟨this.1,this.2.imp id fun hh=> ?_⟩
  obtain ⟨l',hb2,_,hl3⟩:=hh
  have hl3:l'=ioL+j:=hl3.resolve_right fun e=>by
   have e:lookB (ioM 0 io) (ioL+j)=none:=e
   rw [look0,if_pos (by omega),List.getElem?_eq_none_iff] at e;omega
  subst hl3
  have hh:b∈fpio fp ρ (ioL+j):=hb2
  rwa [fpio_at fp hj] at hh
 have hRS:RS B N φ fp2 T ts (putIo ρ io' m) a w':=by
  refine {tm:=fun t=>(h.tm t).mono hSsame (fun b hb=>.inl hb) hz fun l ver _=>LS.le_refl _ _,tl:=fun t l ver hl=>hkn l ver (h.tl t l ver hl),mNone:=fun l hl=> ?_,mSome:=fun l b hb=> ?_,
          bl:=fun l v xs hb l' ver hl=> ?_,nod:=fun l=> ?_,dis:=fun l l' b h1 h2=> ?_,notS:=fun l b hb=> ?_,fpB:=fun l b hb=> ?_,sB:=fun b hb=> ?_,base:=fun b hb hio=> ?_,
          out:=h.out.trans hR.out,szs:=h.szs.trans hR.szs,kn:=fun l ver hl hk=>hkn l ver (h.kn l ver hl hk),fix:=h.fix,size:=q20 h.size hR.size,defers:=h.defers,tsz:=h.tsz,kon:=h.kon.mono hSsame fun b hb=>.inl hb}
  · by_cases hm:l∈ρ
    · obtain ⟨j,hj,rfl⟩:=q10 hm
      rw [(hm2 ρ[j]).1 j hj rfl,q5 (by omega)] at hl;cases hl
    · rw [(hm2 l).2 hm] at hl
      rw [fp2out l hm];exact h.mNone l hl
  · by_cases hm:l∈ρ
    · obtain ⟨j,hj,rfl⟩:=q10 hm
      rw [(hm2 ρ[j]).1 j hj rfl,q5 (by omega)] at hb
      have hb:=Option.some.inj hb
      subst hb
      obtain ⟨g1,g2,g3⟩:=hok j (by omega) (by omega)
      have hB:=hR.mSome _ _ g1
      have hkn0:known (ioM 0 io) (ioL+j) (io[j]'(by omega)).ver:=⟨io[j]'(by omega),by rw [look0,if_pos (by omega)];simp<;>omega,Nat.le_refl _⟩
      have hfix:=hR.fix (ioL+j) _ (by omega) hkn0
      have hfix:LS.le (φ' (ioL+j)) (φ ρ[j]) (io[j]'(by omega)).ver:=by rw [←φio_at φ hj];exact hfix
      rw [fp2in j hj]
      rw [←g2] at hfix
      generalize io'[j]=b at hB hfix g3
      cases b with
      |gone v=>exact g3.elim
      |row v sh dp xs=>
       rcases hB with ⟨q1,q2,q3⟩|⟨b,cap,q1,q2,q3,q4⟩
       · exact .inl ⟨hfix.2 q1,q2,q3⟩
       · refine .inr ⟨b,cap,hfix.1 _ _ q1,q2,q3,?_⟩
         cases dp with
         |true=>exact q4
         |false=>exact q4.mono (fun _ _=>rfl) hST (fun _ _=>rfl)
      |lent v xs i u=>exact g3.elim
      |sub v sh xs u=>exact g3.elim
      |box v xs=>
       obtain ⟨b,cs,e,sh,q1,q2,q3,q4,q5,q6⟩:=hB
       exact ⟨b,cs,e,sh,hfix.1 _ _ q1,q2,q3,q4,q5,fun i hi=>.rd _ _ ((rd_of_rv (q6 i hi) (labs_nil_get g3 i hi)).mono (fun _ _=>rfl) hST)⟩
    · rw [(hm2 l).2 hm] at hb
      rw [fp2out l hm]
      refine (h.mSome l b hb).mono hSsame (fun b hb=>.inl hb) hz (fun c hc=>hsame c (h.fpB l c hc).1 fun j hj hc'=>hm ?_) rfl fun _ _ _ _ _ _=>LS.le_refl _ _
      rw [h.dis _ _ c hc hc'];exact List.getElem_mem hj
  · by_cases hm:l∈ρ
    · obtain ⟨j,hj,rfl⟩:=q10 hm
      rw [(hm2 ρ[j]).1 j hj rfl,q5 (by omega)] at hb
      have hb:=Option.some.inj hb
      have g3:=(hok j (by omega) (by omega)).2.2
      rw [hb] at g3
      have g3:labsL xs=[]:=g3
      rw [g3] at hl;cases hl
    · rw [(hm2 l).2 hm] at hb
      exact hkn l' ver (h.bl l v xs hb l' ver hl)
  · by_cases hm:l∈ρ
    · obtain ⟨j,hj,rfl⟩:=q10 hm
      rw [fp2in j hj];exact hR.nod _
    · rw [fp2out l hm];exact h.nod l
  · have mixed:∀j (hj:j<ρ.length) l,l∉ρ→b∈fp' (ioL+j)→b∈fp l→False:=by
     intro j hj l hm b1 b2
     rcases (fpnew j hj b b1).2 with hh|hh
     · have:=(h.fpB l b b2).1;omega
     · exact hm (by rw [h.dis _ _ b b2 hh];exact List.getElem_mem hj)
    by_cases m1:l∈ρ
    · obtain ⟨j,hj,rfl⟩:=q10 m1
      rw [fp2in j hj] at h1
      by_cases m2:l'∈ρ
      · obtain ⟨j',hj',rfl⟩:=q10 m2
        rw [fp2in j' hj'] at h2
        have:=hR.dis _ _ b h1 h2
        have:j=j':=by omega
        subst this;rfl
      · rw [fp2out l' m2] at h2
        exact (mixed j hj l' m2 h1 h2).elim
    · rw [fp2out l m1] at h1
      by_cases m2:l'∈ρ
      · obtain ⟨j',hj',rfl⟩:=q10 m2
        rw [fp2in j' hj'] at h2
        exact (mixed j' hj' l m1 h2 h1).elim
      · rw [fp2out l' m2] at h2
        exact h.dis l l' b h1 h2
  · by_cases hm:l∈ρ
    · obtain ⟨j,hj,rfl⟩:=q10 hm
      rw [fp2in j hj] at hb
      rintro (hs|hs)
      · rcases (fpnew j hj b hb).2 with hh|hh
        · have:=(h.sB b hs).1;omega
        · exact h.notS _ b hh hs
      · exact hR.notS _ b hb hs.1
    · rw [fp2out l hm] at hb
      rintro (hs|hs)
      · exact h.notS l b hb hs
      · have:=(h.fpB l b hb).1;omega
  · by_cases hm:l∈ρ
    · obtain ⟨j,hj,rfl⟩:=q10 hm
      rw [fp2in j hj] at hb
      have:=fpnew j hj b hb
      refine ⟨this.1,?_⟩
      rcases this.2 with hh|hh
      · exact .inl (q20 h.size hh)
      · exact (h.fpB _ b hh).2
    · rw [fp2out l hm] at hb
      have:=h.fpB l b hb
      exact ⟨Nat.lt_of_lt_of_le this.1 hR.size,this.2⟩
  · rcases hb with hs|hs
    · have:=h.sB b hs
      exact ⟨Nat.lt_of_lt_of_le this.1 hR.size,this.2⟩
    · exact ⟨(hR.sB b hs.1).1,.inl (q20 h.size hs.2)⟩
  · refine (hsame b (Nat.lt_of_lt_of_le hb h.size) fun j hj hb'=> ?_).trans (h.base b hb hio)
    rcases (h.fpB _ b hb').2 with hh|hh
    · omega
    · exact hio _ hh.choose_spec.1
 refine ⟨v,r,io',fp2,T,fs,rfl,hpost,hRS,hR.szs,hl2,hown,fun j hj b hb=>(fpnew j hj b (by rw [←fp2in j hj];exact hb)).2,hndf,fun b hb=> ?_⟩
 obtain ⟨q1,q2,q3⟩:=hfr b hb
 refine ⟨q1,?_,fun l hl=> ?_⟩
 · rintro (hs|hs)
   · have:=(h.sB b hs).1;omega
   · exact q2 hs.1
 · by_cases hm:l∈ρ
   · obtain ⟨j,hj,rfl⟩:=q10 hm
     rw [fp2in j hj] at hl
     exact q3 _ (by omega) hl
   · rw [fp2out l hm] at hl
     have:=(h.fpB l b hl).1;omega
theorem callM_sound {f:FuncId} {d:Nat} {ρ:List Nat} {io:List Blk} {args xs:List AV} {k:AV→Mem→Prop} (hnd:ρ.Nodup) (hio:io.length=ρ.length)
 (hlk:∀j (h:j<ρ.length) (h':j<io.length),lookB m ρ[j]=some io[j]∧labFree io[j]) {vs:Array Value} (h:RS B N φ fp S ts m a w) (hvl:vs.size=args.length)
 (hx:∀i (h:i<args.length),RV w S (φio φ ρ) args[i] (vs.toList.getD i Go.undef)∧∀l ver,(l,ver)∈labs args[i]→known (ioM 0 io) l ver) {post:AV→List Blk→Prop} (hf:FnM P f io args post)
 (hk:∀r io',post r io'→sMat (1000*(d+1)) r (putIo ρ io' m) k):
 Calls P f vs w fun e w'=>∃v,e= .returned v∧Gives B N a (fun x ts' m'=>ts'=ts∧k x m') v w':=by
 refine (callM_core hnd hio hlk h hvl hx hf (xs:=xs)).mono ?_
 rintro e w' ⟨v,r,io',fp2,T,fs,rfl,hpost,hRS,_,_,hown,_,hndf,hfr⟩
 obtain ⟨φ3,fp3,y,m3,g1,g2,g3,g4⟩:=mat_out hRS hown hndf (fun b hb=>⟨q20 h.size (hfr b hb).1,(hfr b hb).2.1,(hfr b hb).2.2⟩) _ (hk r io' hpost)
 exact ⟨v,rfl,φ3,fp3,T,ts,m3,y,g1.rs,g3,g4,rfl,g2⟩
theorem sCallT_io {f:FuncId} {d:Nat} {xs ts:List AV} {m:Mem} {k:AV→Mem→Prop} (ρ:List Nat) (h:sSel m (fun io=>sRens ρ (fun args=>sCallM P f d ρ io args m k ⟨⟩) [] xs) [] ρ) {q:Pack k}:sCallT P f d xs ts m k q:=by
 refine .inl fun B N φ fp S ts a w vs hRS hsz hx hxl=> ?_
 obtain ⟨hnd,io,h1,h2,h3⟩:=sSel_out ρ [] h
 rw [List.reverse_nil,q17] at h1
 obtain ⟨args,g1,g2,g3⟩:=rens_out (w:=w) (S:=S) (φ:=φ) h2 h3 xs vs.toList [] (by simpa using hsz) hx hxl h1
 rw [List.reverse_nil,q17] at g1
 obtain ⟨post,hf,hk⟩:=g1
 exact ⟨hf.1,callM_sound hnd h2 h3 hRS (hsz.trans g2.symm) g3 hf hk (xs:=xs)⟩
end
end Go.Vc
namespace Go.Vc
def nl (x y:AV):Prop:=match x,y with
 | .val (.slice none 0 0),.arr _ ys=>ys=[]
 | .e0,.arr _ ys=>ys=[]
 |x,y=>x=y
theorem nl_int (k:IntKind) (n:Int) (y:AV):nl (.val (.int k n)) y=(.val (.int k n)=y):=by cases y<;>rfl
theorem nl_arr (sh:Sh) (xs:List AV) (y:AV):nl (.arr sh xs) y=(.arr sh xs=y):=by cases y<;>rfl
def nlL:List AV→List AV→Prop
 | [],ys=>[]=ys
 |x::xs,ys=>match ys with|y::ys=>nl x y∧nlL xs ys| []=>False
theorem nlL_nil:nlL [] []=True:=by simp [nlL]
theorem nlL_cons (x y:AV) (xs ys:List AV):nlL (x::xs) (y::ys)=(nl x y∧nlL xs ys):=rfl
def nlA (x y:AV):Prop:=match x,y with
 | .agg xs,.agg ys=>nlL xs ys
 |x,y=>nl x y
theorem nlA_nil (sh:Sh) (ys:List AV):nlA (.val (.slice none 0 0)) (.arr sh ys)=(ys=[]):=rfl
theorem nlA_int (k:IntKind) (n:Int) (y:AV):nlA (.val (.int k n)) y=(.val (.int k n)=y):=by cases y<;>rfl
theorem nlA_bool (b:Bool) (y:AV):nlA (.val (.bool b)) y=(.val (.bool b)=y):=by cases y<;>rfl
theorem nlA_arr (sh:Sh) (xs:List AV) (y:AV):nlA (.arr sh xs) y=(.arr sh xs=y):=by cases y<;>rfl
def nlAs:List AV→List AV→Prop
 | [],ys=>[]=ys
 |x::xs,ys=>match ys with|y::ys=>nlA x y∧nlAs xs ys| []=>False
theorem nlAs_nil:nlAs [] []=True:=by simp [nlAs]
theorem nlAs_cons (x y:AV) (xs ys:List AV):nlAs (x::xs) (y::ys)=(nlA x y∧nlAs xs ys):=rfl
def nlT (x y:AV):Prop:=match x,y with
 | .tup xs,.tup ys=>nlAs xs ys
 |x,y=>nlA x y
theorem nlT_tup (xs ys:List AV):nlT (.tup xs) (.tup ys)=nlAs xs ys:=rfl
theorem nlT_agg (xs ys:List AV):nlT (.agg xs) (.agg ys)=nlL xs ys:=rfl
theorem nlT_nil (sh:Sh) (ys:List AV):nlT (.val (.slice none 0 0)) (.arr sh ys)=(ys=[]):=rfl
theorem nlT_int (k:IntKind) (n:Int) (y:AV):nlT (.val (.int k n)) y=(.val (.int k n)=y):=by cases y<;>rfl
theorem nlT_bool (b:Bool) (y:AV):nlT (.val (.bool b)) y=(.val (.bool b)=y):=by cases y<;>rfl
theorem nlT_arr (sh:Sh) (xs:List AV) (y:AV):nlT (.arr sh xs) y=(.arr sh xs=y):=by cases y<;>rfl
section
variable {w:World} {S:Nat→Prop}
theorem nl_out {x y:AV} {v:Value} {fs:List Nat} (h:Own w S x v fs) (hn:nl x y):Own w S y v fs∧(leaf x→leaf y):=by
 unfold nl at hn
 split at hn
 · subst hn
   cases h with
   |rd _ _ h=>cases h with|val _ _=>exact ⟨.rd _ _ (.nil _ _),fun _=>trivial⟩
 · subst hn
   cases h with
   |rd _ _ h=>cases h with|e0 a=>exact ⟨.rd _ _ (.nil _ _),fun _=>trivial⟩
 · subst hn;exact ⟨h,id⟩
theorem nlL_out:∀(xs ys:List AV),nlL xs ys→xs.length=ys.length∧∀i (h:i<xs.length) (h':i<ys.length),nl xs[i] ys[i]
 | [],ys,h=>by
   have h:[]=ys:=h
   subst h;exact ⟨rfl,fun i h=>absurd h (q21 _)⟩
 |x::xs,[],h=>h.elim
 |x::xs,y::ys,h=>by
  obtain ⟨h1,h2⟩:=nlL_out xs ys h.2
  refine ⟨by simp [h1],fun i hi hi'=> ?_⟩
  cases i with
  |zero=>exact h.1
  |succ i=>exact h2 i (by simpa using hi) (by simpa using hi')
theorem nlAs_out:∀(xs ys:List AV),nlAs xs ys→xs.length=ys.length∧∀i (h:i<xs.length) (h':i<ys.length),nlA xs[i] ys[i]
 | [],ys,h=>by
   have h:[]=ys:=h
   subst h;exact ⟨rfl,fun i h=>absurd h (q21 _)⟩
 |x::xs,[],h=>h.elim
 |x::xs,y::ys,h=>by
  obtain ⟨h1,h2⟩:=nlAs_out xs ys h.2
  refine ⟨by simp [h1],fun i hi hi'=> ?_⟩
  cases i with
  |zero=>exact h.1
  |succ i=>exact h2 i (by simpa using hi) (by simpa using hi')
theorem nlA_out {x y:AV} {v:Value} {fs:List Nat} (h:Own w S x v fs) (hn:nlA x y):Own w S y v fs:=by
 unfold nlA at hn
 split at hn
 · rename_i xs ys
   obtain ⟨cs,fss,rfl,rfl,h1,h2,h3,h4⟩:=own_agg h
   obtain ⟨g1,g2⟩:=nlL_out xs ys hn
   refine .agg ys cs fss (h1.trans g1) (fun i hi=> ?_) (h3.trans g1) (fun i hi=> ?_)
   · exact (nl_out (h4 i (by omega)) (g2 i (by omega) hi)).2 (h2 i (by omega))
   · exact (nl_out (h4 i (by omega)) (g2 i (by omega) hi)).1
 · exact (nl_out h hn).1
theorem nlT_out {x y:AV} {v:Value} {fs:List Nat} (h:Own w S x v fs) (hn:nlT x y):Own w S y v fs:=by
 unfold nlT at hn
 split at hn
 · rename_i xs ys
   obtain ⟨cs,fss,rfl,rfl,h1,h3,h4⟩:=own_tup h
   obtain ⟨g1,g2⟩:=nlAs_out xs ys hn
   exact .tup ys cs fss (h1.trans g1) (h3.trans g1) fun i hi=>nlA_out (h4 i (by omega)) (g2 i (by omega) hi)
 · exact nlA_out h hn
end
theorem Fn.nil {P:Program} {f:FuncId} {args:List AV} {post:AV→Prop} (h:Fn P f args true (fun x=>∃r,nlT x r∧post r)):Fn P f args true post:=
 ⟨h.1,fun w S vs h1 hk h2 h3=>(h.2 w S vs h1 hk h2 h3).mono fun _ _ ⟨x,v,g1,⟨r,g2,g3⟩,g4,g5⟩=>by
   refine ⟨r,v,g1,g3,g4,?_⟩
   obtain ⟨fs,q1,q2⟩:=g5
   exact ⟨fs,nlT_out q1 g2,q2⟩⟩
theorem FnM.nil {P:Program} {f:FuncId} {io:List Blk} {args:List AV} {post:AV→List Blk→Prop} (h:FnM P f io args (fun x io'=>∃r,nlT x r∧post r io')):FnM P f io args post:=
 ⟨h.1,fun w φ fp S vs h1 h2=>(h.2 w φ fp S vs h1 h2).mono fun _ _ ⟨x,v,io',φ',fp',S',m',g1,⟨r,g2,g3⟩,g4,g5,fs,q1,q2⟩=>
   ⟨r,v,io',φ',fp',S',m',g1,g3,g4,g5,fs,nlT_out q1 g2,q2⟩⟩
theorem Fn.of_vcN {P:Program} {f:FuncId} {fn:Func} {c:Code} {args:List AV} {r:AV} (N:Nat) (rs:List ResultVar) (hf:P.funcs[f]? =some fn) (hN:fn.ntmps=N) (hr:fn.results.toList=rs) (hn:(fn.name== "runtime.NumGoroutine")=false)
 (hb:fn.body=some c) (hok:codeOk N c=true) (ha:args.length≤N) (hv:vc P N c (argsE 0 args) [] (fin P rs (fun x=>nlT x r))):Fn P f args true (· =r):=
 Fn.nil ((Fn.of_vc N rs hf hN hr hn hb hok ha hv).mono fun x hx=>⟨r,hx,rfl⟩)
theorem FnM.of_vcN {P:Program} {f:FuncId} {fn:Func} {c:Code} {io io1:List Blk} {args:List AV} {r:AV} (N:Nat) (rs:List ResultVar) (hf:P.funcs[f]? =some fn) (hN:fn.ntmps=N) (hr:fn.results.toList=rs)
 (hn:(fn.name== "runtime.NumGoroutine")=false) (hb:fn.body=some c) (hok:codeOk N c=true) (ha:args.length≤N) (hv:vc P N c (argsE 0 args) (ioM 0 io) (finM P rs (io.map Blk.ver) (fun x io'=>nlT x r∧io'=io1))):
 FnM P f io args (fun x io'=>x=r∧io'=io1):=
 FnM.nil ((FnM.of_vc N rs hf hN hr hn hb hok ha hv).mono fun x io' hx=>⟨r,hx.1,rfl,hx.2⟩)
theorem ver_row (v:Nat) (sh:Sh) (d:Bool) (xs:List AV):(Blk.row v sh d xs).ver=v:=rfl
theorem ver_box (v:Nat) (xs:List AV):(Blk.box v xs).ver=v:=rfl
end Go.Vc
namespace Go.Vc
def rl (l l' x:Nat):Nat:=if x=l then l' else if x=l' then l else x
theorem rl_rl (l l' x:Nat):rl l l' (rl l l' x)=x:=by
 unfold rl
 split
 · rename_i h;split
   · rename_i h2;omega
   · rw [if_pos rfl];exact h.symm
 · split
   · rename_i h1 h2;rw [if_pos rfl];exact h2.symm
   · rfl
theorem rl_inj {l l' x y:Nat} (h:rl l l' x=rl l l' y):x=y:=by rw [←rl_rl l l' x,h,rl_rl]
theorem rl_hi {l l' x:Nat} (h:l<ioL) (h':l'<ioL) (hx:ioL≤x):rl l l' x=x:=by unfold rl;rw [if_neg (by omega),if_neg (by omega)]
theorem rl_lo {l l' x:Nat} (h:l<ioL) (h':l'<ioL) (hx:x<ioL):rl l l' x<ioL:=by unfold rl;split<;>(try split)<;>omega
theorem rl_eq (l l' x:Nat):rl l l' x=if x=l then l' else if x=l' then l else x:=rfl
mutual
def rnA (l l':Nat):AV→AV
 | .ref k v i n=>.ref (rl l l' k) v i n
 | .ptr k v i j=>.ptr (rl l l' k) v i j
 | .agg xs=>.agg (rnL l l' xs)
 | .tup xs=>.tup (rnL l l' xs)
 | .clo f xs=>.clo f (rnL l l' xs)
 |x=>x
def rnL (l l':Nat):List AV→List AV
 | []=>[]
 |x::r=>rnA l l' x::rnL l l' r
end
theorem rnA_ref (l l' k v i n:Nat):rnA l l' (.ref k v i n)= .ref (rl l l' k) v i n:=by simp [rnA]
theorem rnA_ptr (l l' k v i j:Nat):rnA l l' (.ptr k v i j)= .ptr (rl l l' k) v i j:=by simp [rnA]
theorem rnA_agg (l l':Nat) (xs:List AV):rnA l l' (.agg xs)= .agg (rnL l l' xs):=by simp [rnA]
theorem rnA_tup (l l':Nat) (xs:List AV):rnA l l' (.tup xs)= .tup (rnL l l' xs):=by simp [rnA]
theorem rnA_clo (l l':Nat) (f:FuncId) (xs:List AV):rnA l l' (.clo f xs)= .clo f (rnL l l' xs):=by simp [rnA]
theorem rnA_undef (l l':Nat):rnA l l' .undef= .undef:=by simp [rnA]
theorem rnA_val (l l':Nat) (v:Value):rnA l l' (.val v)= .val v:=by simp [rnA]
theorem rnA_e0 (l l':Nat):rnA l l' .e0= .e0:=by simp [rnA]
theorem rnA_arr (l l':Nat) (sh:Sh) (xs:List AV):rnA l l' (.arr sh xs)= .arr sh xs:=by simp [rnA]
theorem rnA_eptr (l l':Nat) (sh:Sh) (xs:List AV) (i j:Nat):rnA l l' (.eptr sh xs i j)= .eptr sh xs i j:=by simp [rnA]
theorem rnL_nil (l l':Nat):rnL l l' []=[]:=by simp [rnL]
theorem rnL_cons (l l':Nat) (x:AV) (r:List AV):rnL l l' (x::r)=rnA l l' x::rnL l l' r:=by simp [rnL]
theorem rnL_length (l l':Nat):∀xs:List AV,(rnL l l' xs).length=xs.length
 | []=>rfl
 |x::r=>by rw [rnL_cons,List.length_cons,List.length_cons,rnL_length l l' r]
theorem rnL_get (l l':Nat):∀(xs:List AV) (i:Nat) (h:i<xs.length) (h':i<(rnL l l' xs).length),(rnL l l' xs)[i]=rnA l l' xs[i]
 |x::r,0,_,_=>rfl
 |x::r,i+1,h,h'=>by
  have:=rnL_get l l' r i (by simpa using h) (by rw [rnL_length];simpa using h)
  simpa [rnL] using this
theorem rnA_leaf {l l':Nat} {x:AV} (h:leaf x):leaf (rnA l l' x):=by
 cases x<;>first|exact h.elim|(simp [rnA];trivial)|trivial
def rnB (l l':Nat):Blk→Blk
 | .box v xs=>.box v (rnL l l' xs)
 |b=>b
theorem rnB_box (l l' v:Nat) (xs:List AV):rnB l l' (.box v xs)= .box v (rnL l l' xs):=rfl
theorem rnB_row (l l' v:Nat) (sh:Sh) (d:Bool) (xs:List AV):rnB l l' (.row v sh d xs)= .row v sh d xs:=rfl
theorem rnB_gone (l l' v:Nat):rnB l l' (.gone v)= .gone v:=rfl
theorem rnB_ver (l l':Nat) (b:Blk):(rnB l l' b).ver=b.ver:=by cases b<;>rfl
def rnE (l l':Nat):Env→Env
 | []=>[]
 |(t,x)::r=>(t,rnA l l' x)::rnE l l' r
theorem rnE_nil (l l':Nat):rnE l l' []=[]:=rfl
theorem rnE_cons (l l' t:Nat) (x:AV) (r:Env):rnE l l' ((t,x)::r)=(t,rnA l l' x)::rnE l l' r:=rfl
def rnM (l l':Nat):Mem→Mem
 | []=>[]
 |(k,b)::r=>(rl l l' k,rnB l l' b)::rnM l l' r
theorem rnM_nil (l l':Nat):rnM l l' []=[]:=rfl
theorem rnM_cons (l l' k:Nat) (b:Blk) (r:Mem):rnM l l' ((k,b)::r)=(rl l l' k,rnB l l' b)::rnM l l' r:=rfl
theorem look_rnE (l l':Nat):∀(ts:Env) (t:Nat),look (rnE l l' ts) t=rnA l l' (look ts t)
 | [],t=>(rnA_undef l l').symm
 |(k,x)::r,t=>by
  rw [rnE_cons,look_cons,look_cons,look_rnE l l' r t]
  split<;>rfl
theorem lookB_rnM (l l':Nat):∀(m:Mem) (k:Nat),lookB (rnM l l' m) k=(lookB m (rl l l' k)).map (rnB l l')
 | [],k=>rfl
 |(k0,b)::r,k=>by
  rw [rnM_cons,lookB_cons,lookB_cons,lookB_rnM l l' r k]
  by_cases h:rl l l' k0=k
  · have:k0=rl l l' k:=by rw [←h,rl_rl]
    rw [if_pos h,if_pos this];rfl
  · have:k0≠rl l l' k:=fun e=>h (by rw [e,rl_rl])
    rw [if_neg h,if_neg this]
mutual
theorem labs_rnA (l l':Nat):∀(x:AV),labs (rnA l l' x)=(labs x).map fun p=>(rl l l' p.1,p.2)
 | .ref k v i n=>by simp [rnA,labs]
 | .ptr k v i j=>by simp [rnA,labs]
 | .agg xs=>by rw [rnA_agg];simp only [labs];exact labs_rnL l l' xs
 | .tup xs=>by rw [rnA_tup];simp only [labs];exact labs_rnL l l' xs
 | .clo f xs=>by rw [rnA_clo];simp only [labs];exact labs_rnL l l' xs
 | .undef=>by simp [rnA,labs]
 | .val v=>by simp [rnA,labs]
 | .e0=>by simp [rnA,labs]
 | .arr sh xs=>by simp [rnA,labs]
 | .eptr sh xs i j=>by simp [rnA,labs]
theorem labs_rnL (l l':Nat):∀(xs:List AV),labsL (rnL l l' xs)=(labsL xs).map fun p=>(rl l l' p.1,p.2)
 | []=>by simp [rnL,labsL]
 |x::r=>by rw [rnL_cons];simp only [labsL];rw [labs_rnA l l' x,labs_rnL l l' r,List.map_append]
end
theorem rnA_rd {w:World} {S:Nat→Prop} {x:AV} {v:Value} (l l':Nat) (h:Rd w S x v):rnA l l' x=x:=by
 have key:∀(xs:List AV),(∀i (hi:i<xs.length),rnA l l' xs[i]=xs[i])→rnL l l' xs=xs:=by
  intro xs hx
  refine List.ext_getElem (rnL_length l l' xs) fun i h1 h2=> ?_
  rw [rnL_get l l' xs i h2 h1];exact hx i h2
 induction h with
 |undef v=>exact rnA_undef _ _
 |val v h=>exact rnA_val _ _ _
 |e0 a=>exact rnA_e0 _ _
 |nil sh a=>exact rnA_arr _ _ _ _
 |arr=>exact rnA_arr _ _ _ _
 |agg xs cs hl hf hv ih=>rw [rnA_agg,key xs ih]
 |tup xs cs hl hv ih=>rw [rnA_tup,key xs ih]
 |eptr=>exact rnA_eptr _ _ _ _ _ _
 |clo f xs cs hl hv ih=>rw [rnA_clo,key xs ih]
section
variable {B:Base} {N:Nat} {φ:Nat→LS} {fp:Nat→List Nat} {S:Nat→Prop} {ts:Env} {m:Mem} {a:Act} {w:World}
theorem RV.ren (l l':Nat) {x:AV} {v:Value} (h:RV w S φ x v):RV w S (fun k=>φ (rl l l' k)) (rnA l l' x) v:=by
 induction h with
 |rd x v h=>rw [rnA_rd l l' h];exact .rd x v h
 |agg xs cs hl hf _ ih=>
  rw [rnA_agg]
  refine .agg _ cs (hl.trans (rnL_length l l' xs).symm) (fun i hi=> ?_) fun i hi=> ?_
  · have h':i<xs.length:=by rw [rnL_length] at hi;exact hi
    rw [rnL_get l l' xs i h' hi];exact rnA_leaf (hf i h')
  · have h':i<xs.length:=by rw [rnL_length] at hi;exact hi
    rw [rnL_get l l' xs i h' hi];exact ih i h'
 |tup xs cs hl _ ih=>
  rw [rnA_tup]
  refine .tup _ cs (hl.trans (rnL_length l l' xs).symm) fun i hi=> ?_
  have h':i<xs.length:=by rw [rnL_length] at hi;exact hi
  rw [rnL_get l l' xs i h' hi];exact ih i h'
 |clo f xs cs hl _ ih=>
  rw [rnA_clo]
  refine .clo f _ cs (hl.trans (rnL_length l l' xs).symm) fun i hi=> ?_
  have h':i<xs.length:=by rw [rnL_length] at hi;exact hi
  rw [rnL_get l l' xs i h' hi];exact ih i h'
 |ref k ver i n v h1 h2 h3=>
  rw [rnA_ref]
  refine .ref _ _ _ _ _ (fun b sh hb=>h1 b sh ?_) (fun hb=>h2 ?_) h3
  · rwa [rl_rl] at hb
  · rwa [rl_rl] at hb
 |ptr k ver i j v h1 h2 h3=>
  rw [rnA_ptr]
  refine .ptr _ _ _ _ _ (fun b sh hb=>h1 b sh ?_) (fun hb=>h2 ?_) h3
  · rwa [rl_rl] at hb
  · rwa [rl_rl] at hb
theorem RS.ren (h:RS B N φ fp S ts m a w) {l l':Nat} (hl:l<ioL) (hl':l'<ioL):RS B N (fun k=>φ (rl l l' k)) (fun k=>fp (rl l l' k)) S (rnE l l' ts) (rnM l l' m) a w:=by
 have kn:∀k ver,known m k ver→known (rnM l l' m) (rl l l' k) ver:=by
  rintro k ver ⟨b,h1,h2⟩
  exact ⟨rnB l l' b,by rw [lookB_rnM,rl_rl,h1];rfl,by rw [rnB_ver];exact h2⟩
 have labs_in:∀(x:AV) k ver,(k,ver)∈labs (rnA l l' x)→∃k0,k=rl l l' k0∧(k0,ver)∈labs x:=by
  intro x k ver hk
  rw [labs_rnA] at hk
  obtain ⟨⟨k0,v0⟩,h1,h2⟩:=q15.1 hk
  simp only [Prod.mk.injEq] at h2
  obtain ⟨rfl,rfl⟩:=h2
  exact ⟨k0,rfl,h1⟩
 refine {tm:=fun t=> ?_,tl:=fun t k ver hk=> ?_,mNone:=fun k hk=> ?_,mSome:=fun k b hb=> ?_,bl:=fun k v xs hb k' ver hk=> ?_,nod:=fun k=>h.nod _,dis:=fun k k' b h1 h2=>rl_inj (h.dis _ _ b h1 h2),
         notS:=fun k b hb=>h.notS _ b hb,fpB:=fun k b hb=> ?_,sB:=h.sB,base:=h.base,out:=h.out,szs:=h.szs,kn:=fun k ver hk hv=> ?_,fix:=fun k ver hk hv=> ?_,size:=h.size,defers:=h.defers,tsz:=h.tsz,kon:=h.kon}
 · rw [look_rnE];exact (h.tm t).ren l l'
 · rw [look_rnE] at hk
   obtain ⟨k0,rfl,h1⟩:=labs_in _ k ver hk
   exact kn k0 ver (h.tl t k0 ver h1)
 · rw [lookB_rnM] at hk
   exact h.mNone _ (by simpa using hk)
 · rw [lookB_rnM] at hb
   obtain ⟨b0,hb0,rfl⟩:=Option.map_eq_some_iff.1 hb
   have hB:=h.mSome _ b0 hb0
   cases b0 with
   |gone v=>exact hB
   |row v sh d xs=>exact hB
   |lent v xs i u=>exact hB
   |sub v sh xs u=>exact hB
   |box v xs=>
    obtain ⟨b,cs,e,sh,h1,h2,h3,h4,h5,h6⟩:=hB
    refine ⟨b,cs,e,sh,h1,h2,h3,q20 (Nat.le_of_eq (rnL_length l l' xs)) h4,fun i hi=> ?_,fun i hi=> ?_⟩
    · have h':i<xs.length:=by rw [rnL_length] at hi;exact hi
      rw [rnL_get l l' xs i h' hi];exact rnA_leaf (h5 i h')
    · have h':i<xs.length:=by rw [rnL_length] at hi;exact hi
      rw [rnL_get l l' xs i h' hi];exact (h6 i h').ren l l'
 · rw [lookB_rnM] at hb
   obtain ⟨b0,hb0,e⟩:=Option.map_eq_some_iff.1 hb
   cases b0 with
   |gone v=>cases e
   |row v sh d xs=>cases e
   |lent v xs i u=>cases e
   |sub v sh xs u=>cases e
   |box v0 xs0=>
    cases e
    rw [labs_rnL] at hk
    obtain ⟨⟨k0,v1⟩,h1,h2⟩:=q15.1 hk
    simp only [Prod.mk.injEq] at h2
    obtain ⟨rfl,rfl⟩:=h2
    exact kn k0 v1 (h.bl _ _ _ hb0 k0 v1 h1)
 · have:=h.fpB _ b hb
   refine ⟨this.1,this.2.imp id fun ⟨l0,h1,h2,h3⟩=> ?_⟩
   by_cases hk:ioL≤k
   · rw [rl_hi hl hl' hk] at h3;exact ⟨l0,h1,hk,h3⟩
   · have:=rl_lo hl hl' (Nat.lt_of_not_le hk);omega
 · have:=kn k ver (h.kn k ver hk hv)
   rwa [rl_hi hl hl' hk] at this
 · show LS.le (φ (rl l l' k)) _ _
   rw [rl_hi hl hl' hk];exact h.fix k ver hk hv
inductive RefR:Env→Mem→Env→Mem→Prop
 |here {ts:Env} {m:Mem} {ts2:Env} {m2:Mem} (h:refS ts m ts2 m2):RefR ts m ts2 m2
 |mv {ts:Env} {m:Mem} {ts2:Env} {m2:Mem} (l l':Nat) (hl:l<ioL) (hl':l'<ioL) (h:RefR (rnE l l' ts) (rnM l l' m) ts2 m2):RefR ts m ts2 m2
theorem RS.refineR {ts2:Env} {m2:Mem} (hr:RefR ts m ts2 m2):∀{φ:Nat→LS} {fp:Nat→List Nat},RS B N φ fp S ts m a w→∃φ' fp' S',RS B N φ' fp' S' ts2 m2 a w:=by
 induction hr with
 |here h=>intro φ fp hR;exact ⟨_,_,_,hR.refine h⟩
 |mv l l' hl hl' _ ih=>intro φ fp hR;exact ih (hR.ren hl hl')
variable {P:Program}
theorem Ok.loopR {body:Code} {ι:Type} (I:ι→Prop) (σ:ι→Env × Mem) (μ:ι→Nat) {Q:Post} (x0:ι) (h0:I x0) (hr:RefR ts m (σ x0).1 (σ x0).2)
 (step:∀x,I x→Ok P N body (σ x).1 (σ x).2 (thn Q fun ts' m'=>∃y,I y∧μ y<μ x∧RefR ts' m' (σ y).1 (σ y).2)):Ok P N (.loop body) ts m Q:=by
 intro B φ fp S a w hRS
 obtain ⟨φ1,fp1,S1,hR1⟩:=RS.refineR hr hRS
 refine wp_loop_ghost (fun n a w=>∃x φ fp S,I x∧μ x=n∧RS B N φ fp S (σ x).1 (σ x).2 a w) (μ x0) ⟨x0,_,_,_,h0,rfl,hR1⟩ ?_
 rintro n a w ⟨x,φ,fp,S,hx,rfl,hRS⟩
 refine wp_mono (step x hx B φ fp S a w hRS) fun e a' w' hq=> ?_
 obtain ⟨φ',fp',S',ts',m',h1,h2⟩:=hq
 cases e with
 |normal=>
  obtain ⟨y,hy,hlt,href⟩:=h2
  obtain ⟨φ2,fp2,S2,hR2⟩:=RS.refineR href h1
  exact ⟨μ y,hlt,y,_,_,_,hy,rfl,hR2⟩
 |_=>exact ⟨φ',fp',S',ts',m',h1,h2⟩
end
end Go.Vc
namespace Go.Vc
section
variable {P:Program} {B:Base} {N:Nat} {φ:Nat→LS} {fp:Nat→List Nat} {S:Nat→Prop} {ts:Env} {m:Mem} {a:Act} {w:World}
theorem RS.ren3 (h:RS B N φ fp S ts m a w) {l l':Nat} (hl:l<ioL) (h0:lookB B.m0 l'=none) (hfp:∀b,b∈fp l'→B.w0.heap.size≤b):
 RS B N (fun k=>φ (rl l l' k)) (fun k=>fp (rl l l' k)) S (rnE l l' ts) (rnM l l' m) a w:=by
 have kn:∀k ver,known m k ver→known (rnM l l' m) (rl l l' k) ver:=by
  rintro k ver ⟨b,h1,h2⟩
  exact ⟨rnB l l' b,by rw [lookB_rnM,rl_rl,h1];rfl,by rw [rnB_ver];exact h2⟩
 have labs_in:∀(x:AV) k ver,(k,ver)∈labs (rnA l l' x)→∃k0,k=rl l l' k0∧(k0,ver)∈labs x:=by
  intro x k ver hk
  rw [labs_rnA] at hk
  obtain ⟨⟨k0,v0⟩,h1,h2⟩:=q15.1 hk
  simp only [Prod.mk.injEq] at h2
  obtain ⟨rfl,rfl⟩:=h2
  exact ⟨k0,rfl,h1⟩
 have hi:∀k ver,ioL≤k→known B.m0 k ver→rl l l' k=k:=by
  rintro k ver hk ⟨b,h1,_⟩
  unfold rl
  rw [if_neg (by omega),if_neg (fun e=>by subst e;rw [h0] at h1;cases h1)]
 refine {tm:=fun t=> ?_,tl:=fun t k ver hk=> ?_,mNone:=fun k hk=> ?_,mSome:=fun k b hb=> ?_,bl:=fun k v xs hb k' ver hk=> ?_,nod:=fun k=>h.nod _,dis:=fun k k' b h1 h2=>rl_inj (h.dis _ _ b h1 h2),
         notS:=fun k b hb=>h.notS _ b hb,fpB:=fun k b hb=> ?_,sB:=h.sB,base:=h.base,out:=h.out,szs:=h.szs,kn:=fun k ver hk hv=> ?_,fix:=fun k ver hk hv=> ?_,size:=h.size,defers:=h.defers,tsz:=h.tsz,kon:=h.kon}
 · rw [look_rnE];exact (h.tm t).ren l l'
 · rw [look_rnE] at hk
   obtain ⟨k0,rfl,h1⟩:=labs_in _ k ver hk
   exact kn k0 ver (h.tl t k0 ver h1)
 · rw [lookB_rnM] at hk
   exact h.mNone _ (by simpa using hk)
 · rw [lookB_rnM] at hb
   obtain ⟨b0,hb0,rfl⟩:=Option.map_eq_some_iff.1 hb
   have hB:=h.mSome _ b0 hb0
   cases b0 with
   |gone v=>exact hB
   |row v sh d xs=>exact hB
   |lent v xs i u=>exact hB
   |sub v sh xs u=>exact hB
   |box v xs=>
    obtain ⟨b,cs,e,sh,h1,h2,h3,h4,h5,h6⟩:=hB
    refine ⟨b,cs,e,sh,h1,h2,h3,q20 (Nat.le_of_eq (rnL_length l l' xs)) h4,fun i hi=> ?_,fun i hi=> ?_⟩
    · have h':i<xs.length:=by rw [rnL_length] at hi;exact hi
      rw [rnL_get l l' xs i h' hi];exact rnA_leaf (h5 i h')
    · have h':i<xs.length:=by rw [rnL_length] at hi;exact hi
      rw [rnL_get l l' xs i h' hi];exact (h6 i h').ren l l'
 · rw [lookB_rnM] at hb
   obtain ⟨b0,hb0,e⟩:=Option.map_eq_some_iff.1 hb
   cases b0 with
   |gone v=>cases e
   |row v sh d xs=>cases e
   |lent v xs i u=>cases e
   |sub v sh xs u=>cases e
   |box v0 xs0=>
    cases e
    rw [labs_rnL] at hk
    obtain ⟨⟨k0,v1⟩,h1,h2⟩:=q15.1 hk
    simp only [Prod.mk.injEq] at h2
    obtain ⟨rfl,rfl⟩:=h2
    exact kn k0 v1 (h.bl _ _ _ hb0 k0 v1 h1)
 · have hb:=hb
   unfold rl at hb
   split at hb
   · refine ⟨(h.fpB _ b hb).1,.inl (hfp b hb)⟩
   · split at hb
     · refine ⟨(h.fpB _ b hb).1,?_⟩
       rcases (h.fpB _ b hb).2 with hh|⟨_,_,hh,_⟩
       · exact .inl hh
       · omega
     · exact h.fpB _ b hb
 · have:=kn k ver (h.kn k ver hk hv)
   rwa [hi k ver hk hv] at this
 · show LS.le (φ (rl l l' k)) _ _
   rw [hi k ver hk hv];exact h.fix k ver hk hv
theorem RS.back {N':Nat} {φ':Nat→LS} {fp':Nat→List Nat} {S':Nat→Prop} {ts':Env} {m':Mem} {a':Act} {w':World} (h:RS B N φ fp S ts m a w) (hi:∀l,lookB m l≠none→ioL≤l)
 (h':RS ⟨w,fun l b=>b∈fp l,S,φ,m⟩ N' φ' fp' S' ts' m' a' w'):RS B N φ' fp' (fun b=>S b∨(S' b∧w.heap.size≤b)) ts m' a w':=by
 have hkn:∀l ver,known m l ver→ioL≤l:=fun l ver ⟨k,h1,_⟩=>hi l (by rw [h1];exact fun e=>by cases e)
 have hS:∀b,S b→w'.heap[b]? =w.heap[b]? :=fun b hb=>h'.base b (h.sB b hb).1 fun l hl=>h.notS l b hl hb
 have hz:Sized φ w w':=fun l b sh ver cs e _ hb=>h'.szs b cs e hb
 have hST:∀b,S' b→S b∨(S' b∧w.heap.size≤b):=fun b hb=>by
  rcases (h'.sB b hb).2 with hh|hh
  · exact .inr ⟨hb,hh⟩
  · exact .inl hh
 refine {tm:=fun t=>(h.tm t).mono hS (fun b hb=>.inl hb) hz fun l ver hl=>h'.fix l ver (hkn l ver (h.tl t l ver hl)) (h.tl t l ver hl),
         tl:=fun t l ver hl=>h'.kn l ver (hkn l ver (h.tl t l ver hl)) (h.tl t l ver hl),mNone:=h'.mNone,
         mSome:=fun l k hk=>(h'.mSome l k hk).mono (fun _ _=>rfl) hST (fun l b sh ver cs e _ hb=>⟨cs,e,hb,rfl⟩) (fun _ _=>rfl) rfl (fun _ _ _ _ _ _=>LS.le_refl _ _),
         bl:=h'.bl,nod:=h'.nod,dis:=h'.dis,notS:=fun l b hb=> ?_,fpB:=fun l b hb=> ?_,sB:=fun b hb=> ?_,base:=fun b hb hio=> ?_,out:=h.out.trans h'.out,szs:=h.szs.trans h'.szs,
         kn:=fun l ver hl hk=>h'.kn l ver hl (h.kn l ver hl hk),fix:=fun l ver hl hk=>LS.le_trans (h'.fix l ver hl (h.kn l ver hl hk)) (h.fix l ver hl hk),size:=q20 h.size h'.size,defers:=h.defers,tsz:=h.tsz,kon:=h.kon.mono hS fun b hb=>.inl hb}
 · rintro (hs|hs)
   · rcases (h'.fpB l b hb).2 with hh|⟨l0,hh,_⟩
     · exact absurd (h.sB b hs).1 (Nat.not_lt.2 hh)
     · exact h.notS l0 b hh hs
   · exact h'.notS l b hb hs.1
 · refine ⟨(h'.fpB l b hb).1,?_⟩
   rcases (h'.fpB l b hb).2 with hh|⟨l0,hh,hl,h3⟩
   · exact .inl (q20 h.size hh)
   · rcases (h.fpB l0 b hh).2 with h4|⟨l1,h4,h5,h6⟩
     · exact .inl h4
     · refine .inr ⟨l1,h4,hl,?_⟩
       rcases h3 with h3|h3
       · rw [h3] at h6;exact h6
       · refine .inr ?_
         cases he:lookB B.m0 l with
         |none=>rfl
         |some k=>
          obtain ⟨k2,h7,_⟩:=h.kn l k.ver hl ⟨k,he,Nat.le_refl _⟩
          have h3':lookB m l=none:=h3
          rw [h3'] at h7;cases h7
 · rcases hb with hs|hs
   · exact ⟨Nat.lt_of_lt_of_le (h.sB b hs).1 h'.size,(h.sB b hs).2⟩
   · exact ⟨(h'.sB b hs.1).1,.inl (q20 h.size hs.2)⟩
 · refine (h'.base b (Nat.lt_of_lt_of_le hb h.size) fun l hl=> ?_).trans (h.base b hb hio)
   rcases (h.fpB l b hl).2 with hh|⟨l1,hh,_⟩
   · exact absurd hb (Nat.not_lt.2 hh)
   · exact hio l1 hh
end
def finI (P:Program) (rs:List ResultVar) (k:AV→Mem→Prop):Post
 | .normal=>fun ts m=>sResults P (fun xs=>k (mkRes xs) m) rs ts m []
 | .ret=>fun ts m=>sResults P (fun xs=>k (mkRes xs) m) rs ts m []
 |_=>fun _ _=>False
theorem finI_normal (P:Program) (rs:List ResultVar) (k:AV→Mem→Prop) (ts:Env) (m:Mem):finI P rs k .normal ts m=sResults P (fun xs=>k (mkRes xs) m) rs ts m []:=rfl
theorem finI_ret (P:Program) (rs:List ResultVar) (k:AV→Mem→Prop) (ts:Env) (m:Mem):finI P rs k .ret ts m=sResults P (fun xs=>k (mkRes xs) m) rs ts m []:=rfl
def allHi:Mem→Prop
 | []=>True
 |(l,_)::r=>ioL≤l∧allHi r
theorem allHi_nil:allHi []=True:=rfl
theorem allHi_cons (l:Nat) (b:Blk) (r:Mem):allHi ((l,b)::r)=(1000000000≤l∧allHi r):=rfl
theorem allHi_get:∀{m:Mem},allHi m→∀l,lookB m l≠none→ioL≤l
 | [],_,l,h=>absurd rfl h
 |(k,b)::r,⟨h1,h2⟩,l,h=>by
  rw [lookB_cons] at h
  split at h
  · rename_i e;subst e;exact h1
  · exact allHi_get h2 l h
def rnsM:List (Nat × Nat)→Mem→Mem
 | [],m=>m
 |(l,l')::r,m=>rnsM r (rnM l l' m)
def rnsA:List (Nat × Nat)→AV→AV
 | [],x=>x
 |(l,l')::r,x=>rnsA r (rnA l l' x)
def rnsL (ρ:List (Nat × Nat)) (xs:List AV):List AV:=xs.map (rnsA ρ)
def rnsMb:List (Nat × Nat)→Mem→Mem
 | [],m=>m
 |(l,l')::r,m=>rnM l l' (rnsMb r m)
def rnsAb:List (Nat × Nat)→AV→AV
 | [],x=>x
 |(l,l')::r,x=>rnA l l' (rnsAb r x)
def hasB (b:Option Blk):Prop:=b≠none
theorem hasB_some (b:Blk):hasB (some b)=True:=by simp [hasB]
def freeB (b:Option Blk):Prop:=b=none
theorem freeB_none:freeB none=True:=by simp [freeB]
def renOk:List (Nat × Nat)→Mem→Prop
 | [],_=>True
 |(l,l')::r,m=>((l<ioL∧ioL≤l')∧hasB (lookB m l)∧freeB (lookB m l'))∧renOk r (rnM l l' m)
theorem rnsM_nil (m:Mem):rnsM [] m=m:=rfl
theorem rnsM_cons (l l':Nat) (r:List (Nat × Nat)) (m:Mem):rnsM ((l,l')::r) m=rnsM r (rnM l l' m):=rfl
theorem rnsA_nil (x:AV):rnsA [] x=x:=rfl
theorem rnsA_cons (l l':Nat) (r:List (Nat × Nat)) (x:AV):rnsA ((l,l')::r) x=rnsA r (rnA l l' x):=rfl
theorem rnsL_nil (ρ:List (Nat × Nat)):rnsL ρ []=[]:=rfl
theorem rnsL_cons (ρ:List (Nat × Nat)) (x:AV) (r:List AV):rnsL ρ (x::r)=rnsA ρ x::rnsL ρ r:=rfl
theorem rnsMb_nil (m:Mem):rnsMb [] m=m:=rfl
theorem rnsMb_cons (l l':Nat) (r:List (Nat × Nat)) (m:Mem):rnsMb ((l,l')::r) m=rnM l l' (rnsMb r m):=rfl
theorem rnsAb_nil (x:AV):rnsAb [] x=x:=rfl
theorem rnsAb_cons (l l':Nat) (r:List (Nat × Nat)) (x:AV):rnsAb ((l,l')::r) x=rnA l l' (rnsAb r x):=rfl
theorem renOk_nil (m:Mem):renOk [] m=True:=rfl
theorem renOk_cons (l l':Nat) (r:List (Nat × Nat)) (m:Mem):renOk ((l,l')::r) m=(((l<1000000000∧1000000000≤l')∧hasB (lookB m l)∧freeB (lookB m l'))∧renOk r (rnM l l' m)):=rfl
def lowOk:List (Nat × Nat)→Prop
 | []=>True
 |(l,l')::r=>(l<ioL∧l'<ioL)∧lowOk r
theorem lowOk_nil:lowOk []=True:=rfl
theorem lowOk_cons (l l':Nat) (r:List (Nat × Nat)):lowOk ((l,l')::r)=((l<1000000000∧l'<1000000000)∧lowOk r):=rfl
def inF:List Nat→Nat→Bool
 | [],_=>false
 |d::D,l=>l==d||inF D l
theorem inF_nil (l:Nat):inF [] l=false:=rfl
theorem inF_cons (d:Nat) (D:List Nat) (l:Nat):inF (d::D) l=(l==d||inF D l):=rfl
def lowP (J:Nat):List Nat→Mem→List (Nat × Nat)
 |_,[]=>[]
 |E,(l,_)::r=>if (decide (l<1000000000)&& !inF E l)=true then (l,l+J)::lowP J (l::E) r else lowP J E r
theorem lowP_nil (J:Nat) (E:List Nat):lowP J E []=[]:=rfl
theorem lowP_cons (J:Nat) (E:List Nat) (l:Nat) (b:Blk) (r:Mem):lowP J E ((l,b)::r)=if (decide (l<1000000000)&& !inF E l)=true then (l,l+J)::lowP J (l::E) r else lowP J E r:=rfl
mutual
theorem rnA_rnA (l l':Nat):∀x:AV,rnA l l' (rnA l l' x)=x
 | .ref k v i n=>by simp [rnA,rl_rl]
 | .ptr k v i j=>by simp [rnA,rl_rl]
 | .agg xs=>by rw [rnA_agg,rnA_agg,rnL_rnL l l' xs]
 | .tup xs=>by rw [rnA_tup,rnA_tup,rnL_rnL l l' xs]
 | .clo f xs=>by rw [rnA_clo,rnA_clo,rnL_rnL l l' xs]
 | .undef=>by simp [rnA]
 | .val v=>by simp [rnA]
 | .e0=>by simp [rnA]
 | .arr sh xs=>by simp [rnA]
 | .eptr sh xs i j=>by simp [rnA]
theorem rnL_rnL (l l':Nat):∀xs:List AV,rnL l l' (rnL l l' xs)=xs
 | []=>by simp [rnL]
 |x::r=>by rw [rnL_cons,rnL_cons,rnA_rnA l l' x,rnL_rnL l l' r]
end
section
variable {P:Program} {B:Base} {N:Nat} {φ:Nat→LS} {fp:Nat→List Nat} {S:Nat→Prop} {ts:Env} {m:Mem} {a:Act} {w:World}
theorem known_snoc {m:Mem} {acc:List AV} {x:AV} (h:∀i (h:i<acc.reverse.length) l ver,(l,ver)∈labs acc.reverse[i]→known m l ver) (hx:∀l ver,(l,ver)∈labs x→known m l ver):
 ∀i (h:i<(x::acc).reverse.length) l ver,(l,ver)∈labs (x::acc).reverse[i]→known m l ver:=by
 intro i hi l ver hl
 simp only [q19] at hi hl
 rw [List.getElem_append] at hl
 split at hl
 · exact h i _ l ver hl
 · simp at hl;exact hx l ver hl
theorem results_out' (h:RS B N φ fp S ts m a w) {Q:List AV→Prop}:∀(rs:List ResultVar) (acc:List AV) (va:List Value),RdL (RV w S φ) acc.reverse va→(∀i (h:i<acc.reverse.length) l ver,(l,ver)∈labs acc.reverse[i]→known m l ver)→sResults P Q rs ts m acc→
 ∃xs vs,Q xs∧(rs.mapM (resOne a.tmps)).run P w= .ok vs w∧RdL (RV w S φ) xs (va++vs)∧∀i (h:i<xs.length) l ver,(l,ver)∈labs xs[i]→known m l ver
 | [],acc,va,ha,hl,hk=>⟨_,[],hk,by simp,by simpa using ha,hl⟩
 | .tmp t::r,acc,va,ha,hl,hk=>by
   obtain ⟨xs,vs,h1,h2,h3,h4⟩:=results_out' h r (look ts t::acc) (va++[a.tmps.getD t Go.undef]) (by rw [q19];exact ha.snoc (h.tm t)) (known_snoc hl (fun l ver hl'=>h.tl t l ver hl')) hk
   refine ⟨xs,a.tmps.getD t Go.undef::vs,h1,?_,by simpa using h3,h4⟩
   rw [List.mapM_cons]
   simp only [resOne,Sem.run_bind,Sem.run_pure,Result.andThen_ok,h2]
 | .cell p t::r,acc,va,ha,hl,hk=>by
   obtain ⟨ti,ht,hk⟩:=sTI_out hk
   obtain ⟨ad,u,y,hv,hr,hy,hyl,hk⟩:=run_cellR ht h (h.tm p) hk
   obtain ⟨xs,vs,h1,h2,h3,h4⟩:=results_out' h r (y::acc) (va++[u]) (by rw [q19];exact ha.snoc hy) (known_snoc hl hyl) hk
   refine ⟨xs,u::vs,h1,?_,by simpa using h3,h4⟩
   rw [List.mapM_cons]
   simp only [resOne,hv,asAddr,Sem.run_bind,Sem.run_pure,Result.andThen_ok,hr,h2]
theorem mkRes_rv {ys:List AV} {vs:List Value} (hl:vs.length=ys.length) (hv:∀i (h:i<ys.length),RV w S φ ys[i] (vs.getD i Go.undef)):
 RV w S φ (mkRes ys) (if h:vs.toArray.size=1 then vs.toArray[0] else .tuple vs.toArray):=by
 match ys,vs,hl,hv with
 | [],[],_,_=>exact .rd _ _ (.tup [] #[] rfl fun i hi=>absurd hi (q21 _))
 | [y],[v],_,hv=>simpa [mkRes] using hv 0 (by simp)
 |y::y'::r,v::v'::r',hl,hv=>
  have:¬((v::v'::r').toArray.size=1):=by simp
  rw [dif_neg this]
  exact .tup _ _ (by simpa using hl) (by simpa using hv)
theorem mkRes_labs {ys:List AV} (h:∀i (h:i<ys.length) l ver,(l,ver)∈labs ys[i]→known m l ver):∀l ver,(l,ver)∈labs (mkRes ys)→known m l ver:=by
 intro l ver hl
 match ys,h,hl with
 | [],_,hl=>simp [mkRes,labs,labsL] at hl
 | [y],h,hl=>exact h 0 (by simp) l ver (by simpa [mkRes] using hl)
 |y::y'::r,h,hl=>
  rw [mkRes_two] at hl
  simp only [labs] at hl
  obtain ⟨i,hi,hl2⟩:=of_mem_labsL hl
  exact h i hi l ver hl2
theorem RS.renLow:∀(σ:List (Nat × Nat)) {φ:Nat→LS} {fp:Nat→List Nat} {ts:Env} {m:Mem},lowOk σ→RS B N φ fp S ts m a w→∃φ' fp' ts',RS B N φ' fp' S ts' (rnsM σ m) a w∧(∀x v,RV w S φ x v→RV w S φ' (rnsA σ x) v)∧
 (∀x,(∀l ver,(l,ver)∈labs x→known m l ver)→∀l ver,(l,ver)∈labs (rnsA σ x)→known (rnsM σ m) l ver)∧∀l,ioL≤l→fp' l=fp l
 | [],φ,fp,ts,m,_,h=>⟨φ,fp,ts,h,fun _ _ h=>h,fun _ h=>h,fun _ _=>rfl⟩
 |(l,l')::r,φ,fp,ts,m,⟨⟨h1,h2⟩,h3⟩,h=>by
  obtain ⟨φ',fp',ts',g1,g2,g3,g4⟩:=RS.renLow r h3 (h.ren h1 h2)
  refine ⟨φ',fp',ts',g1,fun x v hx=>g2 _ _ (hx.ren l l'),fun x hx=>g3 _ fun k ver hk=> ?_,fun k hk=> ?_⟩
  · rw [labs_rnA] at hk
    obtain ⟨⟨k0,v0⟩,q1,q2⟩:=q15.1 hk
    simp only [Prod.mk.injEq] at q2
    obtain ⟨rfl,rfl⟩:=q2
    obtain ⟨b0,q3,q4⟩:=hx k0 v0 q1
    exact ⟨rnB l l' b0,by rw [lookB_rnM,rl_rl,q3];rfl,by rw [rnB_ver];exact q4⟩
  · rw [g4 k hk]
    show fp (rl l l' k)=fp k
    rw [rl_hi h1 h2 hk]
theorem inl_sound (J:Nat) {f:FuncId} {fn:Func} {c:Code} (hf:P.funcs[f]? =some fn) (hb:fn.body=some c) (hok:codeOk fn.ntmps c=true):
 ∀(ρ:List (Nat × Nat)) {φ:Nat→LS} {fp:Nat→List Nat} {ts:Env} {m:Mem} {xs:List AV} {vs:Array Value} {k:AV→Mem→Prop},RS B N φ fp S ts m a w→renOk ρ m→allHi (rnsM ρ m)→xs.length≤fn.ntmps→
  vs.size=xs.length→(∀i (h:i<xs.length),RV w S φ xs[i] (vs.toList.getD i Go.undef))→(∀i (h:i<xs.length) l ver,(l,ver)∈labs xs[i]→known m l ver)→
  vc P fn.ntmps c (argsE 0 (rnsL ρ xs)) (rnsM ρ m) (finI P fn.results.toList fun x m'=>lowOk (lowP J [] m')∧k (rnsAb ρ (rnsA (lowP J [] m') x)) (rnsMb ρ (rnsM (lowP J [] m') m')))→
  Calls P f vs w fun e w'=>∃v,e= .returned v∧∃φ' fp' S' m' x,RS B N φ' fp' S' ts m' a w'∧RV w' S' φ' x v∧(∀l ver,(l,ver)∈labs x→known m' l ver)∧k x m'∧
   ∀l,lookB m l≠none→ioL≤l→∀b,b∈fp' l→w.heap.size≤b∨b∈fp l
 | [],φ,fp,ts,m,xs,vs,k,h,_,hhi,ha,hsz,hx,hxl,hv=>by
   have hhi:=allHi_get hhi
   simp only [rnsM,rnsL] at hhi hv
   rw [show xs.map (rnsA [])=xs from by rw [show rnsA []=id from rfl,List.map_id]] at hv
   refine calls_of_wp hf hb ?_
   have hRS:RS ⟨w,fun l b=>b∈fp l,S,φ,m⟩ fn.ntmps φ fp S (argsE 0 xs) m {tmps:=vs++Array.replicate (fn.ntmps-vs.size) undef,defers:=[]} w:=by
    refine {tm:=fun t=> ?_,tl:=fun t l ver hl=> ?_,mNone:=h.mNone,mSome:=h.mSome,bl:=h.bl,nod:=h.nod,dis:=h.dis,notS:=h.notS,fpB:=fun l b hb=>⟨(h.fpB l b hb).1,.inr ⟨l,hb,?_,.inl rfl⟩⟩,
            sB:=fun b hb=>⟨(h.sB b hb).1,.inr hb⟩,base:=fun b hb _=>rfl,out:=SameOut.refl _,szs:=Szs.refl _,kn:=fun _ _ _ hk=>hk,fix:=fun _ _ _ _=>LS.le_refl _ _,size:=Nat.le_refl _,defers:=rfl,tsz:=by simp;omega,kon:=h.kon}
    · rw [look_argsE]
      by_cases ht:t<xs.length
      · have h1:=hx t ht
        have e1:vs.toList.getD t Go.undef=(vs++Array.replicate (fn.ntmps-vs.size) undef).getD t Go.undef:=by
         have h2:t<vs.size:=by omega
         simp only [q0,q4,q2]
         rw [Array.getElem?_append_left h2]
        rw [←e1]
        simpa [ht] using h1
      · have:(if 0≤t then (xs[t-0]?).getD AV.undef else .undef)= .undef:=by simp [q6 (show xs.length≤t by omega)]
        rw [this];exact .rd _ _ (.undef _)
    · rw [look_argsE] at hl
      by_cases ht:t<xs.length
      · exact hxl t ht l ver (by simpa [ht] using hl)
      · have:(if 0≤t then (xs[t-0]?).getD AV.undef else .undef)= .undef:=by simp [q6 (show xs.length≤t by omega)]
        rw [this] at hl;cases hl
    · refine hhi l fun e=> ?_
      rw [(h.mNone l e).2] at hb;cases hb
   have hend:∀a' w',Done ⟨w,fun l b=>b∈fp l,S,φ,m⟩ fn.ntmps (fun ts m'=>sResults P (fun xs=>lowOk (lowP J [] m')∧k (rnsA (lowP J [] m') (mkRes xs)) (rnsM (lowP J [] m') m')) fn.results.toList ts m' []) a' w'→
    a'.defers=[]∧∃v,(results fn a'.tmps).run P w'= .ok v w'∧∃v',Ending.returned v= .returned v'∧∃φ' fp' S' m' x,RS B N φ' fp' S' ts m' a w'∧RV w' S' φ' x v'∧(∀l ver,(l,ver)∈labs x→known m' l ver)∧k x m'∧
     ∀l,lookB m l≠none→ioL≤l→∀b,b∈fp' l→w.heap.size≤b∨b∈fp l:=by
    rintro a' w' ⟨φ',fp',S',ts',m',h',hk⟩
    refine ⟨h'.defers,?_⟩
    obtain ⟨ys,us,⟨hlow,h1⟩,h2,h3,h4⟩:=results_out' h' fn.results.toList [] [] ⟨rfl,fun i hi=>absurd hi (q21 _)⟩ (fun i hi=>absurd hi (q21 _)) hk
    obtain ⟨h3a,h3b⟩:=h3
    simp only [q17] at h3a h3b
    obtain ⟨φ2,fp2,ts2,r1,r2,r3,r4⟩:=RS.renLow (lowP J [] m') hlow h'
    have hback:=h.back hhi r1
    have hST:∀b,S' b→S b∨(S' b∧w.heap.size≤b):=fun b hb=>by
     rcases (h'.sB b hb).2 with hh|hh
     · exact .inr ⟨hb,hh⟩
     · exact .inl hh
    refine ⟨if h:us.toArray.size=1 then us.toArray[0] else .tuple us.toArray,?_,_,rfl,φ2,fp2,_,_,_,hback,?_,?_,h1,fun l hl hl2 b hb=> ?_⟩
    · have hm:results fn a'.tmps=(do let vs ←fn.results.mapM (resOne a'.tmps);pure (if h:vs.size=1 then vs[0] else .tuple vs)):=by
       unfold results
       congr 1
      rw [hm,Sem.run_bind,Array.mapM_eq_mapM_toList]
      have:(List.toArray <$> fn.results.toList.mapM (resOne a'.tmps):Sem (Array Value)).run P w'= .ok us.toArray w':=by
       rw [map_eq_pure_bind,Sem.run_bind,h2];rfl
      rw [this];rfl
    · refine (r2 _ _ (mkRes_rv h3a h3b)).mono (fun _ _=>rfl) hST (fun l b sh ver cs e _ hb=>⟨cs,e,hb,rfl⟩) fun _ _ _=>LS.le_refl _ _
    · exact r3 _ (mkRes_labs h4)
    · rw [r4 l hl2] at hb
      rcases (h'.fpB l b hb).2 with hh|⟨l0,hh,_,h5⟩
      · exact .inl hh
      · rcases h5 with h5|h5
        · subst h5;exact .inr hh
        · exact absurd h5 hl
   refine wp_mono (vc_sound c _ _ _ hok hv _ _ _ _ _ _ hRS) ?_
   intro e a' w' hq
   cases e with
   |normal=>exact hend a' w' hq
   |ret=>exact hend a' w' hq
   |_=>obtain ⟨_,_,_,_,_,_,hh⟩:=hq;exact hh.elim
 |(l,l')::r,φ,fp,ts,m,xs,vs,k,h,⟨⟨⟨hl,hio⟩,hh,hl'⟩,hok2⟩,hhi,ha,hsz,hx,hxl,hv=>by
  have hm0:lookB B.m0 l'=none:=by
   cases he:lookB B.m0 l' with
   |none=>rfl
   |some k0=>
    obtain ⟨k2,h7,_⟩:=h.kn l' k0.ver hio ⟨k0,he,Nat.le_refl _⟩
    rw [show lookB m l'=none from hl'] at h7;cases h7
  have hfp0:fp l'=[]:=(h.mNone l' hl').2
  have h1:=h.ren3 hl hm0 (fun b hb=>by rw [hfp0] at hb;cases hb)
  have hne:l≠l':=by unfold ioL at*;omega
  have e1:rl l l' l=l':=by simp [rl]
  have e2:rl l l' l'=l:=by unfold rl;rw [if_neg (Ne.symm hne),if_pos rfl]
  have hlk:∀x,lookB (rnM l l' m) x≠none↔lookB m (rl l l' x)≠none:=fun x=>by rw [lookB_rnM];cases lookB m (rl l l' x)<;>simp
  have hlen:(rnL l l' xs).length=xs.length:=rnL_length l l' xs
  have:=inl_sound J hf hb hok r (k:=fun x m'=>k (rnA l l' x) (rnM l l' m')) (xs:=rnL l l' xs) (vs:=vs) h1 hok2 hhi (by rw [hlen];exact ha) (by rw [hlen];exact hsz) (fun i hi=> ?_) (fun i hi l0 ver hl0=> ?_) ?_
  · refine this.mono ?_
    rintro e w' ⟨v,rfl,φ',fp',S',m',x,g1,g2,g3,g4,g5⟩
    have hb5:∀b,b∈fp' l'→B.w0.heap.size≤b:=by
     intro b hb'
     rcases g5 l' ((hlk l').2 (by rw [e2];exact hh)) hio b hb' with h5|h5
     · exact q20 h.size h5
     · have h5:b∈fp (rl l l' l'):=h5
       rw [e2] at h5
       rcases (h.fpB l b h5).2 with h6|⟨_,_,h6,_⟩
       · exact h6
       · exact absurd hl (Nat.not_lt.2 h6)
    have g6:=g1.ren3 hl hm0 hb5
    refine ⟨v,rfl,fun k=>φ' (rl l l' k),fun k=>fp' (rl l l' k),S',rnM l l' m',rnA l l' x,?_,g2.ren l l',fun l0 ver hl0=> ?_,g4,fun l0 h0 h2 b hb'=> ?_⟩
    · have ets:∀t,look (rnE l l' (rnE l l' ts)) t=look ts t:=fun t=>by rw [look_rnE,look_rnE,rnA_rnA]
      exact {g6 with tm:=fun t=>by rw [←ets];exact g6.tm t,tl:=fun t l ver hl=>g6.tl t l ver (by rw [ets];exact hl)}
    · rw [labs_rnA] at hl0
      obtain ⟨⟨k0,v0⟩,q1,q2⟩:=q15.1 hl0
      simp only [Prod.mk.injEq] at q2
      obtain ⟨rfl,rfl⟩:=q2
      obtain ⟨b0,q3,q4⟩:=g3 k0 v0 q1
      exact ⟨rnB l l' b0,by rw [lookB_rnM,rl_rl,q3];rfl,by rw [rnB_ver];exact q4⟩
    · have n1:l0≠l:=fun e=>by subst e;exact absurd hl (Nat.not_lt.2 h2)
      have n2:l0≠l':=fun e=>by subst e;exact h0 hl'
      have e3:rl l l' l0=l0:=by unfold rl;rw [if_neg n1,if_neg n2]
      have hb':b∈fp' (rl l l' l0):=hb'
      rw [e3] at hb'
      have:=g5 l0 ((hlk l0).2 (by rw [e3];exact h0)) h2 b hb'
      rcases this with h5|h5
      · exact .inl h5
      · have h5:b∈fp (rl l l' l0):=h5
        rw [e3] at h5;exact .inr h5
  · have h':i<xs.length:=by rw [hlen] at hi;exact hi
    rw [rnL_get l l' xs i h' hi];exact (hx i h').ren l l'
  · have h':i<xs.length:=by rw [hlen] at hi;exact hi
    rw [rnL_get l l' xs i h' hi,labs_rnA] at hl0
    obtain ⟨⟨k0,v0⟩,q1,q2⟩:=q15.1 hl0
    simp only [Prod.mk.injEq] at q2
    obtain ⟨rfl,rfl⟩:=q2
    obtain ⟨b0,q3,q4⟩:=hxl i h' k0 v0 q1
    exact ⟨rnB l l' b0,by rw [lookB_rnM,rl_rl,q3];rfl,by rw [rnB_ver];exact q4⟩
  · have:rnsL r (rnL l l' xs)=rnsL ((l,l')::r) xs:=by
     refine List.ext_getElem (by simp [rnsL,hlen]) fun i h1 h2=> ?_
     simp only [rnsL,q9]
     rw [rnL_get l l' xs i (by simpa [rnsL] using h2)];rfl
    rw [this];exact hv
theorem sCallT_inl {f:FuncId} {d:Nat} {xs xt:List AV} {m:Mem} {k:AV→Mem→Prop} {q:Pack k} {fn:Func} {c:Code} (J:Nat) (N:Nat) (rs:List ResultVar) (hf:P.funcs[f]? =some fn) (hN:fn.ntmps=N) (hr:fn.results.toList=rs)
 (hn:(fn.name== "runtime.NumGoroutine")=false) (hb:fn.body=some c) (hok:codeOk N c=true) (ha:xs.length≤N)
 (hv:(renOk (lowP 1500000000 [] m) m∧allHi (rnsM (lowP 1500000000 [] m) m))∧vc P N c (argsE 0 (rnsL (lowP 1500000000 [] m) xs)) (rnsM (lowP 1500000000 [] m) m)
   (finI P rs fun x m'=>lowOk (lowP J [] m')∧k (rnsAb (lowP 1500000000 [] m) (rnsA (lowP J [] m') x)) (rnsMb (lowP 1500000000 [] m) (rnsM (lowP J [] m') m')))):sCallT P f d xs xt m k q:=by
 subst hN;subst hr
 refine .inl fun B N φ fp S ts a w vs hRS hsz hx hxl=>⟨⟨fn,c,hf,hn,hb⟩,?_⟩
 refine (inl_sound J hf hb hok _ hRS hv.1.1 hv.1.2 ha hsz hx hxl hv.2).mono ?_
 rintro e w' ⟨v,rfl,φ',fp',S',m',x,g1,g2,g3,g4,_⟩
 exact ⟨v,rfl,φ',fp',S',ts,m',x,g1,g2,g3,rfl,g4⟩
end
end Go.Vc
namespace Go.Vc
def D1 {α:Type} (G:(α→Prop)→Prop):Prop:=∀k,G k→∃x,k x∧∀k',k' x→G k'
theorem D1.pure {α:Type} (x:α):D1 fun k=>k x:=fun _ h=>⟨x,h,fun _ h=>h⟩
theorem D1.no {α:Type}:D1 fun _:α→Prop=>False:=fun _ h=>h.elim
theorem D1.and {α:Type} {G:(α→Prop)→Prop} (p:Prop) (h:D1 G):D1 fun k=>p∧G k:=fun k hk=>
 have ⟨x,h1,h2⟩:=h k hk.2
 ⟨x,h1,fun k' hk'=>⟨hk.1,h2 k' hk'⟩⟩
theorem D1.bind {α β:Type} {G:(α→Prop)→Prop} {H:α→(β→Prop)→Prop} (h:D1 G) (h':∀x,D1 (H x)):D1 fun k=>G fun x=>H x k:=fun k hk=>
 have ⟨x,h1,h2⟩:=h _ hk
 have ⟨y,g1,g2⟩:=h' x k h1
 ⟨y,g1,fun k' hk'=>h2 _ (g2 k' hk')⟩
theorem D1.opt (o:Option AV):D1 (sOpt o):=by
 cases o with
 |none=>exact D1.no
 |some x=>exact D1.pure x
theorem D1.fld (o:Option (Nat × Nat × Bool)):D1 (sFld o):=by
 cases o with
 |none=>exact D1.no
 |some x=>exact D1.pure x
theorem D1.ti (o:Option TI):D1 (sTI o):=by
 cases o with
 |none=>exact D1.no
 |some x=>exact D1.pure x
theorem D1.ifs {α:Type} (c:Bool) (x y:α):D1 fun k:α→Prop=>(c=true→k x)∧(c=false→k y):=by
 intro k hk
 cases c with
 |true=>exact ⟨x,hk.1 rfl,fun k' hk'=>⟨fun _=>hk',fun h=>(by cases h)⟩⟩
 |false=>exact ⟨y,hk.2 rfl,fun k' hk'=>⟨fun h=>(by cases h),fun _=>hk'⟩⟩
theorem D1.pick (c a b:AV):D1 (sPick c a b):=by
 unfold sPick;split
 · exact D1.ifs _ _ _
 · exact D1.no
theorem D1.wrap (i:IntKind) (n:Int):D1 (sWrap i n):=by
 unfold sWrap;split
 · exact D1.and _ (D1.pure _)
 · exact D1.pure _
theorem D1.intBin (op:BinOp) (i:IntKind) (x y:Int):D1 (intBin op i x y):=by
 unfold Go.Vc.intBin
 split<;>first
  |exact D1.wrap _ _
  |exact D1.pure _
  |exact D1.and _ (D1.wrap _ _)
  |exact D1.and _ (D1.pure _)
  |exact D1.no
theorem D1.strBin (op:BinOp) (x y:ByteArray):D1 (strBin op x y):=by
 unfold Go.Vc.strBin
 split<;>first
  |exact D1.pure _
  |exact D1.and _ (D1.pure _)
  |exact D1.no
theorem D1.bin (op:BinOp) (kd:TK) (a b:AV):D1 (sBin op kd a b):=by
 unfold sBin
 split
 · exact D1.and _ (D1.intBin _ _ _ _)
 · exact D1.strBin _ _ _
 · split<;>first|exact D1.pure _|exact D1.no
 · exact D1.no
theorem D1.not (a:AV):D1 (sNot a):=by
 unfold sNot;split<;>first|exact D1.pure _|exact D1.no
theorem D1.neg (a:AV):D1 (sNeg a):=by
 unfold sNeg;split<;>first|exact D1.wrap _ _|exact D1.no
theorem D1.conv (d:TK) (a:AV):D1 (sConv d a):=by
 unfold sConv;split<;>first|exact D1.wrap _ _|exact D1.pure _|exact D1.no
theorem D1.max (a b:AV):D1 (sMax a b):=by
 unfold sMax;split<;>first|exact D1.pure _|exact D1.no
theorem D1.min (a b:AV):D1 (sMin a b):=by
 unfold sMin;split<;>first|exact D1.pure _|exact D1.no
theorem D1.tup (i:Nat) (a:AV):D1 (sTup i a):=by
 unfold sTup;split<;>first|exact D1.opt _|exact D1.no
theorem D1.part (ag:Bool) (n j:Nat) (x:AV):D1 (sPart ag n j x):=by
 unfold sPart
 split<;>first|exact D1.opt _|exact D1.and _ (D1.pure _)|exact D1.no
theorem D1.partA (ag:Bool) (n j:Nat) (x:AV):D1 (sPartA ag n j x):=by
 unfold sPartA;split<;>first|exact D1.part _ _ _ _|exact D1.no
theorem D1.index (x i:AV):D1 (sIndex x i):=by
 unfold sIndex;split<;>first|exact D1.and _ (D1.pure _)|exact D1.no
theorem D1.cells (x:AV):D1 (sCells x):=by
 unfold sCells;split<;>first|exact D1.pure _|exact D1.no
theorem D1.fill (fs:List (Nat × Nat × Bool)):∀(ps:List (Nat × AV)) (cells:List AV),D1 fun k=>sFill fs cells k ps
 | [],cells=>D1.pure cells
 |(i,x)::r,cells=>D1.bind (H:=fun (fd:Nat × Nat × Bool) k=>sCells x fun ys=>ys.length=fd.2.1∧fd.1+ys.length≤cells.length∧sFill fs (setL cells fd.1 ys) k r) (D1.fld _) fun fd=>
    D1.bind (H:=fun (ys:List AV) k=>ys.length=fd.2.1∧fd.1+ys.length≤cells.length∧sFill fs (setL cells fd.1 ys) k r) (D1.cells x) fun ys=>D1.and _ (D1.and _ (D1.fill fs r _))
theorem D1.build (ti:TI) (ps:List (Nat × AV)):D1 (sBuild ti ps):=
 D1.bind (H:=fun (zs:List AV) k=>sFill ti.fields zs (fun cs=>k (AV.agg cs)) ps) (D1.cells _) fun zs=>D1.bind (G:=fun k=>sFill ti.fields zs k ps) (H:=fun (cs:List AV) k=>k (AV.agg cs)) (D1.fill _ _ _) fun cs=>D1.pure (AV.agg cs)
theorem D1.fillR (sh:Sh):∀(ps:List (Nat × AV)) (xs:List AV),D1 fun k=>sFillR sh xs k ps
 | [],xs=>D1.pure xs
 |(i,x)::r,xs=>D1.and _ (D1.and _ (D1.and _ (D1.fillR sh r _)))
theorem D1.live (v:Nat) (b:Option Blk) (x:AV):D1 fun k:AV→Prop=>sLive v b (k x):=by
 unfold sLive;split<;>first|exact D1.and _ (D1.pure _)|exact D1.no
theorem D1.nil (m:Mem) (x:AV):D1 (sNil m x):=by
 unfold sNil;split<;>first|exact D1.live _ _ _|exact D1.pure _|exact D1.no
theorem D1.field (j:Nat) (m:Mem) (x:AV):D1 (sField j m x):=by
 unfold sField;split<;>first|exact D1.live _ _ _|exact D1.pure _|exact D1.no
theorem D1.len (kd:TK) (m:Mem) (x:AV):D1 (sLen kd m x):=by
 unfold sLen;split<;>first|exact D1.live _ _ _|exact D1.pure _|exact D1.no
theorem D1.rsh {α:Type} (sh:Sh) (v:Nat) (b:Option Blk) {G:(α→Prop)→Prop} (h:D1 G):D1 fun k=>sRSh sh v b (G k):=by
 unfold sRSh;split<;>first|exact D1.and _ (D1.and _ h)|exact D1.no
theorem D1.bnd (x:Option AV) (d:Int):D1 (sBnd x d):=by
 unfold sBnd;split<;>first|exact D1.pure _|exact D1.no
theorem D1.idxB (sh:Sh) (l v i0 n:Nat) (i:Int) (b:Option Blk):D1 (sIdxB sh l v i0 n i b):=by
 unfold sIdxB;split<;>first|exact D1.and _ (D1.and _ (D1.and _ (D1.pure _)))|exact D1.and _ (D1.and _ (D1.and _ (D1.and _ (D1.pure _))))|exact D1.no
theorem D1.idx (sh:Sh) (m:Mem) (x i:AV):D1 (sIdx sh m x i):=by
 unfold sIdx;split<;>first|exact D1.and _ (D1.and _ (D1.pure _))|exact D1.idxB _ _ _ _ _ _ _|exact D1.no
theorem D1.slice (sh:Sh) (x:AV) (lo hi:Option AV) (m:Mem):D1 (sSlice sh x lo hi m):=by
 unfold sSlice
 split
 · exact D1.bind (D1.bnd _ _) fun l=>D1.bind (D1.bnd _ _) fun h=>D1.and _ (D1.pure _)
 · exact D1.bind (D1.bnd _ _) fun l=>D1.bind (D1.bnd _ _) fun h=>D1.and _ (D1.and _ (D1.pure _))
 · exact D1.rsh _ _ _ (D1.bind (D1.bnd _ _) fun l=>D1.bind (D1.bnd _ _) fun h=>D1.and _ (D1.pure _))
 · exact D1.no
theorem D1.slice0 (m:Mem) (x:AV):D1 (sSlice0 m x):=by
 unfold sSlice0;split<;>first|exact D1.pure _|exact D1.live _ _ _|exact D1.and _ (D1.pure _)
theorem D1.bytesL:∀(xs:List AV) (acc:List UInt8),D1 fun k=>sBytesL k acc xs
 | [],_=>D1.pure _
 |x::r,acc=>by
  cases x<;>try exact D1.no
  rename_i v
  cases v<;>try exact D1.no
  rename_i i z
  cases i<;>try exact D1.no
  exact D1.and _ (D1.bytesL r _)
theorem D1.bytes (y:AV):D1 (sBytes y):=by
 unfold sBytes;split<;>first|exact D1.bytesL _ _|exact D1.no
theorem D1.chr (y:AV):D1 (sChr y):=by
 unfold sChr;split<;>first|exact D1.and _ (D1.pure _)|exact D1.no
theorem D1.isU8 {α:Type} (kd:TK) {G:(α→Prop)→Prop} (h:D1 G):D1 fun k=>Vc.isU8 kd (G k):=by
 unfold Vc.isU8;split<;>first|exact h|exact D1.no
theorem D1.slK (P:Program) (tt:TI) (x:AV) (lo hi:Option AV) (m:Mem):D1 (sSlK P tt x lo hi m):=by
 unfold sSlK
 split
 · exact D1.and _ (D1.slice _ _ _ _ _)
 · exact D1.and _ (D1.bind (D1.ti _) fun ti=>D1.slice _ _ _ _ _)
 · exact D1.no
theorem D1.srcB (sh:Sh) (v i n:Nat) (b:Option Blk):D1 (sSrcB sh v i n b):=by
 unfold sSrcB;split<;>first|exact D1.and _ (D1.and _ (D1.and _ (D1.pure _)))|exact D1.no
theorem D1.src (sh:Sh) (y:AV) (m:Mem):D1 (sSrc sh y m):=by
 unfold sSrc;split<;>first|exact D1.and _ (D1.pure _)|exact D1.srcB _ _ _ _ _
def NL (x:AV) (l:Nat):Prop:=∃ver,(l,ver)∈labs x
theorem NL.ref (l v i n:Nat):NL (.ref l v i n) l:=⟨v,by simp [labs]⟩
theorem NL.ptr (l v i j:Nat):NL (.ptr l v i j) l:=⟨v,by simp [labs]⟩
def Like (R:Nat→Prop) (m m':Mem):Prop:=∀l,R l→lookB m' l=lookB m l
theorem like_nil {m m':Mem} {x:AV} (h:Like (NL x) m m'):sNil m' x=sNil m x:=by
 funext k
 unfold sNil
 split<;>first|rfl|exact congrArg (fun b=>sLive _ b _) (h _ (NL.ptr _ _ _ _))|rw [h _ (NL.ref _ _ _ _)]
theorem like_field {m m':Mem} {x:AV} (j:Nat) (h:Like (NL x) m m'):sField j m' x=sField j m x:=by
 funext k
 unfold sField
 split<;>first|rfl|exact congrArg (fun b=>sLive _ b _) (h _ (NL.ptr _ _ _ _))|rw [h _ (NL.ref _ _ _ _)]
theorem like_len {m m':Mem} {x:AV} (kd:TK) (h:Like (NL x) m m'):sLen kd m' x=sLen kd m x:=by
 funext k
 unfold sLen
 split<;>first|rfl|exact congrArg (fun b=>sLive _ b _) (h _ (NL.ptr _ _ _ _))|rw [h _ (NL.ref _ _ _ _)]
theorem like_idx {m m':Mem} {x:AV} (sh:Sh) (i:AV) (h:Like (NL x) m m'):sIdx sh m' x i=sIdx sh m x i:=by
 funext k
 unfold sIdx
 split<;>first|rfl|exact congrArg (fun b=>sLive _ b _) (h _ (NL.ptr _ _ _ _))|rw [h _ (NL.ref _ _ _ _)]
theorem like_slice {m m':Mem} {x:AV} (sh:Sh) (lo hi:Option AV) (h:Like (NL x) m m'):sSlice sh x lo hi m'=sSlice sh x lo hi m:=by
 funext k
 unfold sSlice
 split<;>first|rfl|exact congrArg (fun b=>sLive _ b _) (h _ (NL.ptr _ _ _ _))|rw [h _ (NL.ref _ _ _ _)]
theorem like_slice0 {m m':Mem} {x:AV} (h:Like (NL x) m m'):sSlice0 m' x=sSlice0 m x:=by
 funext k
 unfold sSlice0
 split<;>first|rfl|exact congrArg (fun b=>sLive _ b _) (h _ (NL.ptr _ _ _ _))|rw [h _ (NL.ref _ _ _ _)]
theorem like_slK {P:Program} {tt:TI} {m m':Mem} {x:AV} (lo hi:Option AV) (h:Like (NL x) m m'):sSlK P tt x lo hi m'=sSlK P tt x lo hi m:=by
 funext k
 unfold sSlK
 simp only [like_slice _ _ _ h]
theorem like_src {m m':Mem} {x:AV} (sh:Sh) (h:Like (NL x) m m'):sSrc sh x m'=sSrc sh x m:=by
 funext k
 unfold sSrc
 split<;>first|rfl|exact congrArg (fun b=>sLive _ b _) (h _ (NL.ptr _ _ _ _))|rw [h _ (NL.ref _ _ _ _)]
theorem like_leafT {m m':Mem} {x:AV} (h:Like (NL x) m m'):sLeafT m' x=sLeafT m x:=by
 funext k
 unfold sLeafT
 split<;>first|rfl|exact congrArg (fun b=>sLive _ b _) (h _ (NL.ptr _ _ _ _))|rw [h _ (NL.ref _ _ _ _)]
theorem like_leavesT {m m':Mem} (k:List AV→Prop):∀(xs acc:List AV),(∀x,x∈xs→Like (NL x) m m')→sLeavesT m' k acc xs=sLeavesT m k acc xs
 | [],acc,_=>rfl
 |x::r,acc,h=>by
  simp only [sLeavesT]
  rw [like_leafT (h x (q14 ..))]
  congr 1
  funext y
  exact like_leavesT k r _ fun z hz=>h z (q13 _ hz)
theorem like_tree {m m':Mem} {x:AV} (h:Like (NL x) m m'):sTree m' x=sTree m x:=by
 funext k
 cases x with
 |agg xs=>
  simp only [sTree]
  refine like_leavesT _ xs [] fun y hy l hl=>h l ?_
  obtain ⟨ver,hv⟩:=hl
  obtain ⟨i,hi,rfl⟩:=q10 hy
  exact ⟨ver,by simp only [labs];exact mem_labsL hi hv⟩
 |ref l v i n=>simp only [sTree];rw [like_leafT h]
 |_=>rfl
theorem like_trees {m m':Mem} (k:List AV→Prop):∀(xs acc:List AV),(∀x,x∈xs→Like (NL x) m m')→sTrees m' k acc xs=sTrees m k acc xs
 | [],acc,_=>rfl
 |x::r,acc,h=>by
  simp only [sTrees]
  rw [like_tree (h x (q14 ..))]
  congr 1
  funext y
  exact like_trees k r _ fun z hz=>h z (q13 _ hz)
theorem lookB_append (a b:Mem) (l:Nat):lookB (a++b) l=match lookB a l with|some x=>some x|none=>lookB b l:=by
 induction a with
 |nil=>rfl
 |cons p r ih=>
  obtain ⟨k,v⟩:=p
  simp only [List.cons_append,lookB_cons]
  by_cases h:k=l
  · simp [h]
  · simp [h,ih]
def DM {α:Type} (F:Mem→(α→Mem→Prop)→Prop) (R:Nat→Prop) (m:Mem):Prop:=
 ∀k,F m k→∃x new,k x (new++m)∧∀m',Like R m m'→Like (fun l=>lookB new l≠none) m m'→∀k',k' x (new++m')→F m' k'
theorem DM.still {α:Type} {R:Nat→Prop} {m:Mem} {G:Mem→(α→Prop)→Prop} (h:D1 (G m)) (hl:∀m',Like R m m'→G m'=G m):DM (fun m k=>G m fun v=>k v m) R m:=fun k hk=>
 have ⟨x,h1,h2⟩:=h _ hk
 ⟨x,[],h1,fun m' hm _ k' hk'=>by show G m' _;rw [hl m' hm];exact h2 _ hk'⟩
theorem DM.no {α:Type} (R:Nat→Prop) (m:Mem):DM (fun _ (_:α→Mem→Prop)=>False) R m:=fun _ h=>h.elim
theorem DM.and {α:Type} {F:Mem→(α→Mem→Prop)→Prop} {R:Nat→Prop} {m:Mem} (p:Prop) (h:DM F R m):DM (fun m k=>p∧F m k) R m:=fun k hk=>
 have ⟨x,new,h1,h2⟩:=h k hk.2
 ⟨x,new,h1,fun m' hm hm' k' hk'=>⟨hk.1,h2 m' hm hm' k' hk'⟩⟩
theorem DM.pre {α β:Type} {F:α→Mem→(β→Mem→Prop)→Prop} {G:Mem→(α→Prop)→Prop} {R:Nat→Prop} {m:Mem} (hg:D1 (G m)) (hl:∀m',Like R m m'→G m'=G m) (h:∀x,DM (F x) R m):
 DM (fun m k=>G m fun x=>F x m k) R m:=fun k hk=>
 have ⟨x,h1,h2⟩:=hg _ hk
 have ⟨y,new,g1,g2⟩:=h x k h1
 ⟨y,new,g1,fun m' hm hm' k' hk'=>by show G m' _;rw [hl m' hm];exact h2 _ (g2 m' hm hm' k' hk')⟩
theorem DM.pre' {α β:Type} {F:α→Mem→(β→Mem→Prop)→Prop} {G:(α→Prop)→Prop} {R:Nat→Prop} {m:Mem} (hg:D1 G) (h:∀x,DM (F x) R m):DM (fun m k=>G fun x=>F x m k) R m:=
 DM.pre (G:=fun _=>G) hg (fun _ _=>rfl) h
theorem DM.bind {α β:Type} {one:Mem→(α→Mem→Prop)→Prop} {rest:α→Mem→(β→Mem→Prop)→Prop} {R:Nat→Prop} {m:Mem} (h:DM one R m) (h':∀y new,DM (rest y) R (new++m)):
 DM (fun m k=>one m fun y m1=>rest y m1 k) R m:=fun k hk=>by
 obtain ⟨y,n1,h1,h2⟩:=h _ hk
 obtain ⟨z,n2,g1,g2⟩:=h' y n1 k h1
 refine ⟨z,n2++n1,by rw [List.append_assoc];exact g1,fun m' hm hm' k' hk'=>h2 m' hm (fun l hl=>hm' l ?_) _ (g2 (n1++m') (fun l hl=> ?_) (fun l hl=> ?_) k' (by rw [←List.append_assoc];exact hk'))⟩
 · show lookB (n2++n1) l≠none
   have hl:lookB n1 l≠none:=hl
   rw [lookB_append];split<;>simp_all
 · rw [lookB_append,lookB_append,hm l hl]
 · rw [lookB_append,lookB_append]
   have hl:lookB n2 l≠none:=hl
   cases hn:lookB n1 l with
   |some x=>rfl
   |none=>exact hm' l (by show lookB (n2++n1) l≠none;rw [lookB_append];split<;>simp_all)
theorem DM.put {α:Type} {R:Nat→Prop} {m:Mem} {x:Mem→α} (l:Nat) (b:Mem→Blk) (hx:∀m',lookB m' l=lookB m l→x m'=x m∧b m'=b m):DM (fun m k=>k (x m) ((l,b m)::m)) R m:=fun k hk=>
 ⟨x m,[(l,b m)],hk,fun m' _ hm' k' hk'=>by
   obtain ⟨h1,h2⟩:=hx m' (hm' l (by simp [lookB_cons]))
   rw [h1,h2];exact hk'⟩
theorem DM.ret {α:Type} {R:Nat→Prop} {m:Mem} (x:α):DM (fun m (k:α→Mem→Prop)=>k x m) R m:=fun k hk=>⟨x,[],hk,fun _ _ _ _ hk'=>hk'⟩
theorem newVer_like {m m':Mem} {l:Nat} (h:lookB m' l=lookB m l):newVer m' l=newVer m l:=by simp [newVer,h]
variable {R:Nat→Prop}
theorem DM.box (d:Nat) (y:AV) (m:Mem):DM (sBox d y) R m:=
 DM.pre' (F:=fun ys m k=>k (AV.ptr d (newVer m d) 0 0) ((d,Blk.box (newVer m d) ys)::m)) (D1.cells y) fun ys=>DM.put (x:=fun m=>AV.ptr d (newVer m d) 0 0) d (fun m=>Blk.box (newVer m d) ys) fun m' h=>by rw [newVer_like h];exact ⟨rfl,rfl⟩
theorem DM.make (ti:TI) (d:Nat) (x y:AV) (m:Mem):DM (sMake ti d x y) R m:=by
 unfold sMake
 split
 · exact DM.and _ (DM.and _ (DM.and _ (DM.put d _ fun m' h=>by rw [newVer_like h];exact ⟨rfl,rfl⟩)))
 · exact DM.no _ _
theorem DM.buildSlice (ti:TI) (d n:Nat) (ps:List (Nat × AV)) (m:Mem):DM (sBuildSlice ti d n ps) R m:=
 DM.and _ (DM.pre' (G:=fun k=>sFillR ti.sh (List.replicate n ti.zero) k ps) (F:=fun xs m k=>k (AV.ref d (newVer m d) 0 n) ((d,Blk.row (newVer m d) ti.sh (isFlatL xs) xs)::m)) (D1.fillR _ _ _) fun xs=>
  DM.put (x:=fun m=>AV.ref d (newVer m d) 0 n) d (fun m=>Blk.row (newVer m d) ti.sh (isFlatL xs) xs) fun m' h=>by rw [newVer_like h];exact ⟨rfl,rfl⟩)
theorem DM.load (ag:Bool) (n:Nat) (p:AV) (m:Mem):DM (sLoad ag n p) (NL p) m:=by
 intro k hk
 unfold sLoad at hk
 split at hk
 · rename_i l ver i j
   cases hb:lookB m l with
   |none=>rw [hb] at hk;exact hk.elim
   |some b=>
    rw [hb] at hk
    have hh:∀m',Like (NL (.ptr l ver i j)) m m'→lookB m' l=some b:=fun m' hm=>(hm l (NL.ptr _ _ _ _)).trans hb
    cases b with
    |gone v=>exact hk.elim
    |box v xs=>
     obtain ⟨h1,h2,hk⟩:=hk
     have hd:D1 fun q:AV→Prop=>if ag then j+n≤xs.length∧q (.agg ((xs.drop j).take n)) else sOpt xs[j]? q:=by
      cases ag with
      |true=>exact D1.and _ (D1.pure _)
      |false=>exact D1.opt _
     obtain ⟨x,g1,g2⟩:=hd (fun y=>k y m) hk
     exact ⟨x,[],g1,fun m' hm _ k' hk'=>by
      show sLoadB ag n l ver i j (lookB m' l) m' k'
      rw [hh m' hm]
      exact ⟨h1,h2,g2 (fun y=>k' y m') hk'⟩⟩
    |lent v xs i u=>exact hk.elim
    |sub v sh xs u=>
     obtain ⟨h1,hk⟩:=hk
     obtain ⟨x,hx,g1⟩:=D1.opt _ _ hk
     obtain ⟨y,hy,g2⟩:=D1.part _ _ _ _ _ hx.2
     refine ⟨y,[],hy,fun m' hm _ k' hk'=> ?_⟩
     show sLoadB ag n l ver i j (lookB m' l) m' k'
     rw [hh m' hm]
     exact ⟨h1,g1 _ ⟨hx.1,g2 (fun y=>k' y m') hk'⟩⟩
    |row v sh deep xs=>
     obtain ⟨h1,hk⟩:=hk
     obtain ⟨x,hx,g1⟩:=D1.opt _ _ hk
     obtain ⟨y,hy,g2⟩:=D1.part _ _ _ _ _ hx
     by_cases hu:deep=true∧isFlat x=false
     · unfold sUndeep at hy
       rw [if_pos hu] at hy
       refine ⟨y,[(l,.row v sh false xs)],hy.2,fun m' hm _ k' hk'=> ?_⟩
       show sLoadB ag n l ver i j (lookB m' l) m' k'
       rw [hh m' hm]
       refine ⟨h1,g1 _ (g2 _ ?_)⟩
       unfold sUndeep
       rw [if_pos hu]
       exact ⟨hy.1,hk'⟩
     · unfold sUndeep at hy
       rw [if_neg hu] at hy
       refine ⟨y,[],hy,fun m' hm _ k' hk'=> ?_⟩
       show sLoadB ag n l ver i j (lookB m' l) m' k'
       rw [hh m' hm]
       refine ⟨h1,g1 _ (g2 _ ?_)⟩
       unfold sUndeep
       rw [if_neg hu]
       exact hk'
 · rename_i sh xs i j
   obtain ⟨x,hx,g1⟩:=D1.opt _ _ hk
   obtain ⟨y,hy,g2⟩:=D1.part _ _ _ _ _ hx
   exact ⟨y,[],hy,fun m' _ _ k' hk'=>g1 _ (g2 (fun y=>k' y m') hk')⟩
 · exact hk.elim
theorem D1.put (j:Nat) (x y:AV):D1 (sPut j x y):=by
 unfold sPut;split<;>first|exact D1.and _ (D1.pure _)|exact D1.no
theorem DM.store (n:Nat) (p y:AV) (m:Mem):DM (fun m k=>sStore n p y m fun m'=>k AV.undef m') (NL p) m:=by
 intro k hk
 unfold sStore at hk
 split at hk
 · rename_i l ver i j
   cases hb:lookB m l with
   |none=>rw [hb] at hk;exact hk.elim
   |some b=>
    rw [hb] at hk
    have hh:∀m',Like (NL (.ptr l ver i j)) m m'→lookB m' l=some b:=fun m' hm=>(hm l (NL.ptr _ _ _ _)).trans hb
    cases b with
    |gone v=>exact hk.elim
    |box v xs=>
     obtain ⟨h1,h2,hk⟩:=hk
     obtain ⟨ys,g1,g2⟩:=D1.cells _ _ hk
     refine ⟨.undef,[(l,.box v (setL xs j ys))],g1.2.2,fun m' hm _ k' hk'=> ?_⟩
     show sStoreB l ver i j (lookB m' l) y m' n _
     rw [hh m' hm]
     exact ⟨h1,h2,g2 _ ⟨g1.1,g1.2.1,hk'⟩⟩
    |lent v xs i0 u0=>exact hk.elim
    |sub v sh xs u0=>
     obtain ⟨h1,h2,hk⟩:=hk
     obtain ⟨x,hx,g1⟩:=D1.opt _ _ hk
     obtain ⟨h3,h4,hx⟩:=hx
     obtain ⟨x',hx',g2⟩:=D1.put _ _ _ _ hx
     refine ⟨.undef,[(l,.sub v sh (xs.set i x') u0)],hx',fun m' hm _ k' hk'=> ?_⟩
     show sStoreB l ver i j (lookB m' l) y m' n _
     rw [hh m' hm]
     exact ⟨h1,h2,g1 _ ⟨h3,h4,g2 _ hk'⟩⟩
    |row v sh deep xs=>
     obtain ⟨h1,h2,hk⟩:=hk
     obtain ⟨x,hx,g1⟩:=D1.opt _ _ hk
     obtain ⟨h3,h4,hx⟩:=hx
     obtain ⟨x',hx',g2⟩:=D1.put _ _ _ _ hx
     refine ⟨.undef,[(l,.row v sh deep (xs.set i x'))],hx',fun m' hm _ k' hk'=> ?_⟩
     show sStoreB l ver i j (lookB m' l) y m' n _
     rw [hh m' hm]
     exact ⟨h1,h2,g1 _ ⟨h3,h4,g2 _ hk'⟩⟩
 · exact hk.elim
theorem DM.app1 (ti:TI) (d:Nat) (x:AV) (ys:List AV) (m:Mem):DM (sApp1 ti d x ys) (NL x) m:=by
 unfold sApp1
 split
 · rename_i l v i n
   intro k hk
   cases hb:lookB m l with
   |none=>simp only [hb] at hk;exact hk.elim
   |some b=>
    simp only [hb] at hk
    cases b with
    |row v' sh deep xs=>
     obtain ⟨h1,h2,h3,h4,h5,hk⟩:=hk
     refine ⟨.ref l (v+1) 0 (n+ys.length),[(l,.row (v+1) ti.sh deep (xs.take n++ys))],hk,fun m' hm _ k' hk'=> ?_⟩
     show sAppB ti l v i n (lookB m' l) ys m' k'
     rw [(hm l (NL.ref _ _ _ _)).trans hb]
     exact ⟨h1,h2,h3,h4,h5,hk'⟩
    |_=>exact hk.elim
 · exact DM.and _ (DM.and _ (DM.put d _ fun m' h=>by rw [newVer_like h];exact ⟨rfl,rfl⟩))
theorem DM.mono {α:Type} {F:Mem→(α→Mem→Prop)→Prop} {R R':Nat→Prop} {m:Mem} (h:DM F R m) (hr:∀l,R l→R' l):DM F R' m:=fun k hk=>
 have ⟨x,new,h1,h2⟩:=h k hk
 ⟨x,new,h1,fun m' hm hm' k' hk'=>h2 m' (fun l hl=>hm l (hr l hl)) hm' k' hk'⟩
theorem DM.app (ti:TI) (d:Nat) (x y:AV) (m:Mem):DM (sApp ti d x y) (fun l=>NL x l∨NL y l) m:=
 DM.and _ (DM.and _ (DM.and _ (DM.pre (G:=sSrc ti.sh y) (F:=fun ys m k=>isFlatL ys=true∧sApp1 ti d x ys m k) (D1.src _ _ _) (fun m' hm=>like_src _ fun l hl=>hm l (.inr hl)) fun ys=>
  DM.and _ ((DM.app1 ti d x ys m).mono fun l hl=>.inl hl))))
theorem DM.matL (l:Nat) (x:AV) (m:Mem):DM (sMatL l x) (fun _=>False) m:=by
 unfold sMatL
 split
 · exact DM.put l _ fun m' h=>by rw [newVer_like h];exact ⟨rfl,rfl⟩
 · exact DM.ret _
theorem DM.mats:∀(xs:List AV) (l:Nat) (acc:List AV) (m:Mem),DM (fun m k=>sMats k l acc m xs) (fun _=>False) m
 | [],l,acc,m=>DM.ret acc.reverse
 |x::r,l,acc,m=>DM.bind (rest:=fun y m k=>sMats k (l+1) (y::acc) m r) (DM.matL l x m) fun y new=>DM.mats r (l+1) (y::acc) (new++m)
theorem DM.matA (l:Nat) (x:AV) (m:Mem):DM (sMatA l x) (fun _=>False) m:=by
 unfold sMatA
 split
 · rename_i xs
   exact DM.bind (one:=fun m k=>sMats k l [] m xs) (rest:=fun ys m k=>k (AV.agg ys) m) (DM.mats xs l [] m) fun ys new=>DM.ret (AV.agg ys)
 · exact DM.no _ _
 · exact DM.matL l _ m
theorem DM.matTs:∀(xs:List AV) (l:Nat) (acc:List AV) (m:Mem),DM (fun m k=>sMatTs k l acc m xs) (fun _=>False) m
 | [],l,acc,m=>DM.ret acc.reverse
 |x::r,l,acc,m=>DM.bind (rest:=fun y m k=>sMatTs k (l+16) (y::acc) m r) (DM.matA l x m) fun y new=>DM.matTs r (l+16) (y::acc) (new++m)
theorem DM.mat (l:Nat) (x:AV) (m:Mem):DM (sMat l x) (fun _=>False) m:=by
 unfold sMat
 split
 · rename_i xs
   exact DM.bind (one:=fun m k=>sMatTs k l [] m xs) (rest:=fun ys m k=>k (AV.tup ys) m) (DM.matTs xs l [] m) fun ys new=>DM.ret (AV.tup ys)
 · exact DM.matA l _ m
end Go.Vc
namespace Go.Vc
def sCallMX (P:Program) (f:FuncId) (d:Nat) (ρ:List Nat) (io:List Blk) (args:List AV) (m:Mem) (k:AV→Mem→Prop) (_:Pack k):Prop:=
 ∃r io1,FnM P f io args (fun x io'=>x=r∧io'=io1)∧sMat (1000*(d+1)) r (putIo ρ io1 m) k
@[congr] theorem sCallMX_congr {P:Program} {f:FuncId} {d:Nat} {ρ:List Nat} {io io':List Blk} {args args':List AV} {m:Mem} {k:AV→Mem→Prop} {q:Pack k} (h:io=io') (h':args=args'):sCallMX P f d ρ io args m k q=sCallMX P f d ρ io' args' m k q:=by rw [h,h']
theorem sCallMX_one {P:Program} {f:FuncId} {d:Nat} {ρ:List Nat} {io io1:List Blk} {args:List AV} {m:Mem} {k:AV→Mem→Prop} {r:AV} (h:FnM P f io args (fun x io'=>x=r∧io'=io1)) (hk:sMat (1000*(d+1)) r (putIo ρ io1 m) k) {q:Pack k}:sCallMX P f d ρ io args m k q:=
 ⟨r,io1,h,hk⟩
def sCallXio (P:Program) (f:FuncId) (xs:List AV) (m:Mem) (k:AV→Mem→Prop):Prop:=
 ∃r new,k r (new++m)∧∀m',Like (fun l=>∃x,x∈xs∧NL x l) m m'→Like (fun l=>lookB new l≠none) m m'→∀k',k' r (new++m')→sCallIo P f xs m' k'
def sCallX (P:Program) (f:FuncId) (d:Nat) (xs ts:List AV) (m:Mem) (k:AV→Mem→Prop) (_:Pack k):Prop:=(∃own r,Fn P f ts own (· =r)∧(own=false→noLabs xs)∧sRes own d m r k)∨
 (∃ρ,(∀l,l∈ρ→∃x,x∈xs∧NL x l)∧sSel m (fun io=>sRens ρ (fun args=>sCallMX P f d ρ io args m k ⟨⟩) [] xs) [] ρ)∨sCallXio P f xs m k
@[congr] theorem sCallX_congr {P:Program} {f:FuncId} {d:Nat} {xs ts ts':List AV} {m:Mem} {k:AV→Mem→Prop} {q:Pack k} (h:ts=ts'):sCallX P f d xs ts m k q=sCallX P f d xs ts' m k q:=by rw [h]
theorem sCallX_one {P:Program} {f:FuncId} {d:Nat} {xs ts:List AV} {m:Mem} {k:AV→Mem→Prop} {r:AV} (h:Fn P f ts true (· =r)) (hk:sMat (1000*(d+1)) r m k) {q:Pack k}:sCallX P f d xs ts m k q:=
 .inl ⟨true,r,h,fun h=>(by cases h),hk⟩
theorem sCallXS_one {P:Program} {f:FuncId} {d:Nat} {xs ts:List AV} {m:Mem} {k:AV→Mem→Prop} {r:AV} (h:Fn P f ts false (· =r)) (hl:noLabs xs) (hk:k r m) {q:Pack k}:sCallX P f d xs ts m k q:=
 .inl ⟨false,r,h,fun _=>hl,hk⟩
theorem sCallX_io {P:Program} {f:FuncId} {d:Nat} {xs ts:List AV} {m:Mem} {k:AV→Mem→Prop} {q:Pack k} (ρ:List Nat) (hρ:(ρ.all fun l=>(labsL xs).any fun p=>p.1==l)=true) (h:sSel m (fun io=>sRens ρ (fun args=>sCallMX P f d ρ io args m k ⟨⟩) [] xs) [] ρ):sCallX P f d xs ts m k q:=by
 refine .inr (.inl ⟨ρ,fun l hl=> ?_,h⟩)
 rw [List.all_eq_true] at hρ
 obtain ⟨p,hp,he⟩:=List.any_eq_true.1 (hρ l hl)
 obtain ⟨i,hi,hpi⟩:=of_mem_labsL hp
 rw [beq_iff_eq] at he
 subst he
 exact ⟨xs[i],List.getElem_mem hi,p.2,hpi⟩
def sCallD (P:Program) (f:FuncId) (d:Nat) (xs:List AV) (m:Mem) (k:AV→Mem→Prop):Prop:=sTrees m (fun ts=>sCallX P f d xs ts m k ⟨⟩) [] xs
@[congr] theorem sCallD_congr {P:Program} {f:FuncId} {d:Nat} {xs xs':List AV} {m:Mem} {k:AV→Mem→Prop} (h:xs=xs'):sCallD P f d xs m k=sCallD P f d xs' m k:=by rw [h]
theorem sCallD_eq (P:Program) (f:FuncId) (d:Nat) (x:AV) (xs:List AV) (m:Mem) (k:AV→Mem→Prop):sCallD P f d (x::xs) m k=sTrees m (fun ts=>sCallX P f d (x::xs) ts m k ⟨⟩) [] (x::xs):=rfl
theorem D1.leafT (m:Mem) (x:AV):D1 (sLeafT m x):=by
 unfold sLeafT
 split<;>first
  |exact D1.pure _
  |exact D1.no
  |(unfold sRowT;split<;>first|exact D1.and _ (D1.and _ (D1.pure _))|exact D1.no)
theorem D1.convX (P:Program) (si ti:TI) (m:Mem) (x:AV):D1 (sConvX P si ti x m):=by
 unfold sConvX
 split
 · exact D1.bind (D1.ti _) fun ei=>D1.isU8 _ (D1.bind (D1.leafT m x) fun y=>D1.bytes y)
 · exact D1.chr _
 · exact D1.conv _ _
theorem like_convX {P:Program} {si ti:TI} {m m':Mem} {x:AV} (h:Like (NL x) m m'):sConvX P si ti x m'=sConvX P si ti x m:=by
 funext k
 unfold sConvX
 simp only [like_leafT h]
theorem D1.leavesT (m:Mem):∀(xs acc:List AV),D1 fun k=>sLeavesT m k acc xs
 | [],acc=>D1.pure acc.reverse
 |x::r,acc=>D1.bind (H:=fun y k=>sLeavesT m k (y::acc) r) (D1.leafT m x) fun y=>D1.leavesT m r (y::acc)
theorem D1.tree (m:Mem) (x:AV):D1 (sTree m x):=by
 unfold sTree
 split
 · rename_i xs
   exact D1.bind (G:=fun k=>sLeavesT m k [] xs) (H:=fun ys k=>k (AV.agg ys)) (D1.leavesT m xs []) fun ys=>D1.pure (AV.agg ys)
 · exact D1.pure _
 · exact D1.pure _
 · exact D1.leafT m _
theorem D1.trees (m:Mem):∀(xs acc:List AV),D1 fun k=>sTrees m k acc xs
 | [],acc=>D1.pure acc.reverse
 |x::r,acc=>D1.bind (H:=fun y k=>sTrees m k (y::acc) r) (D1.tree m x) fun y=>D1.trees m r (y::acc)
theorem DM.res (own:Bool) (d:Nat) (r:AV) (m:Mem):DM (fun m k=>sRes own d m r k) (fun _=>False) m:=by
 cases own with
 |true=>exact DM.mat _ r m
 |false=>exact DM.ret r
theorem D1.sel1 {α:Type} (b:Option Blk) {G:Blk→(α→Prop)→Prop} (h:∀b,D1 (G b)):D1 fun k=>sSel1 b fun b=>G b k:=by
 unfold sSel1
 split<;>first|exact h _|exact D1.and _ (h _)|exact D1.no
theorem D1.sel (m:Mem):∀(ρ:List Nat) (acc:List Blk),D1 fun k=>sSel m k acc ρ
 | [],acc=>D1.pure acc.reverse
 |l::r,acc=>D1.and _ (D1.sel1 (lookB m l) (G:=fun b k=>sSel m k (b::acc) r) fun b=>D1.sel m r (b::acc))
theorem like_sel {m m':Mem} (k:List Blk→Prop):∀(ρ:List Nat) (acc:List Blk),(∀l,l∈ρ→lookB m' l=lookB m l)→sSel m' k acc ρ=sSel m k acc ρ
 | [],acc,_=>rfl
 |l::r,acc,h=>by
  rw [sSel_cons,sSel_cons,h l (q14 ..)]
  have:(fun b=>sSel m' k (b::acc) r)=fun b=>sSel m k (b::acc) r:=funext fun b=>like_sel k r (b::acc) fun l' hl=>h l' (q13 _ hl)
  rw [this]
theorem D1.pos (l:Nat):∀(ρ:List Nat) (i:Nat),D1 fun k=>sPos l k i ρ
 | [],_=>D1.no
 |l0::r,i=>by
  have h1:=D1.pos l r (i+1)
  intro k hk
  have hk:sPos l k i (l0::r):=hk
  rw [sPos_cons] at hk
  split at hk
  · rename_i e
    exact ⟨i,hk,fun k' h'=>by show sPos l k' i (l0::r);rw [sPos_cons,if_pos e];exact h'⟩
  · rename_i e
    obtain ⟨x,h2,h3⟩:=h1 k hk
    exact ⟨x,h2,fun k' h'=>by show sPos l k' i (l0::r);rw [sPos_cons,if_neg e];exact h3 k' h'⟩
theorem D1.ren (ρ:List Nat) (x:AV):D1 (sRen ρ x):=by
 unfold sRen
 split<;>first
  |exact D1.pure _
  |exact D1.no
  |exact D1.bind (H:=fun j k=>k _) (D1.pos _ ρ 0) fun j=>D1.pure _
theorem D1.renL (ρ:List Nat):∀(xs acc:List AV),D1 fun k=>sRenL ρ k acc xs
 | [],acc=>D1.pure acc.reverse
 |x::r,acc=>D1.bind (H:=fun y k=>sRenL ρ k (y::acc) r) (D1.ren ρ x) fun y=>D1.renL ρ r (y::acc)
theorem D1.renA (ρ:List Nat) (x:AV):D1 (sRenA ρ x):=by
 unfold sRenA
 split
 · rename_i xs
   exact D1.bind (G:=fun k=>sRenL ρ k [] xs) (H:=fun ys k=>k (AV.agg ys)) (D1.renL ρ xs []) fun ys=>D1.pure (AV.agg ys)
 · exact D1.ren ρ _
theorem D1.rens (ρ:List Nat):∀(xs acc:List AV),D1 fun k=>sRens ρ k acc xs
 | [],acc=>D1.pure acc.reverse
 |x::r,acc=>D1.bind (H:=fun y k=>sRens ρ k (y::acc) r) (D1.renA ρ x) fun y=>D1.rens ρ r (y::acc)
theorem putIo_app:∀(ρ:List Nat) (io:List Blk) (m:Mem),putIo ρ io m=putIo ρ io []++m
 | [],io,m=>by cases io<;>rfl
 |_::_,[],m=>rfl
 |l::ρ,b::io,m=>by rw [putIo_cons,putIo_cons,putIo_app ρ io m,List.cons_append]
theorem DM.callX (P:Program) (f:FuncId) (d:Nat) (xs ts:List AV) (m:Mem):DM (fun m k=>sCallX P f d xs ts m k ⟨⟩) (fun l=>∃x,x∈xs∧NL x l) m:=by
 rintro k (⟨own,r,h1,h2,h3⟩|⟨ρ,hρ,h⟩|⟨r,new,h1,h2⟩)
 rotate_left 2
 · exact ⟨r,new,h1,fun m' a b k' hk'=>.inr (.inr ⟨r,new,hk',fun m2 c d k2 hk2=>h2 m2 (fun l hl=>(c l hl).trans (a l hl)) (fun l hl=>(d l hl).trans (b l hl)) k2 hk2⟩)⟩
 · obtain ⟨x,new,g1,g2⟩:=DM.res own d r m k h3
   exact ⟨x,new,g1,fun m' _ hm' k' hk'=>.inl ⟨own,r,h1,h2,g2 m' (fun _ hl=>hl.elim) hm' k' hk'⟩⟩
 obtain ⟨io,h1,h2⟩:=D1.sel m ρ [] _ h
 obtain ⟨args,h3,h4⟩:=D1.rens ρ xs [] _ h1
 obtain ⟨r,io1,hF,hm⟩:=h3
 obtain ⟨x,new,g1,g2⟩:=DM.mat _ r (putIo ρ io1 m) k hm
 refine ⟨x,new++putIo ρ io1 [],by rw [List.append_assoc,←putIo_app];exact g1,fun m' hm1 hm' k' hk'=>.inr (.inl ⟨ρ,hρ,?_⟩)⟩
 rw [like_sel _ ρ [] fun l hl=>hm1 l (hρ l hl)]
 refine h2 _ (h4 _ ⟨r,io1,hF,g2 (putIo ρ io1 m') (fun _ hl=>hl.elim) (fun l hl=> ?_) k' (by rw [putIo_app ρ io1 m',←List.append_assoc];exact hk')⟩)
 have hl:lookB new l≠none:=hl
 rw [putIo_app ρ io1 m',putIo_app ρ io1 m,lookB_append,lookB_append]
 have:=hm' l (by show lookB (new++putIo ρ io1 []) l≠none;rw [lookB_append];split<;>simp_all)
 rw [this]
theorem DM.callD (P:Program) (f:FuncId) (d:Nat) (xs:List AV) (m:Mem):DM (sCallD P f d xs) (fun l=>∃x,x∈xs∧NL x l) m:=
 DM.pre (G:=fun m k=>sTrees m k [] xs) (F:=fun ts m k=>sCallX P f d xs ts m k ⟨⟩) (D1.trees m xs []) (fun m' hm=>funext fun k=>like_trees k xs [] fun x hx l hl=>hm l ⟨x,hx,hl⟩) fun ts=>DM.callX P f d xs ts m
theorem sBinS_mono {P:Program} {t:TypeId} {op:BinOp} {a b:AV} {k:AV→Prop} {r r':Prop} (hr:r→r') (h:sBinS P t op a b k r):sBinS P t op a b k r':=by
 unfold sBinS at h ⊢
 split at h
 · exact h
 · exact h
 · exact hr h
theorem D1.cellE (f:FK) (x y:AV):D1 (sCellE f x y):=by
 unfold sCellE;split<;>first|exact D1.and _ (D1.pure _)|exact D1.pure _|exact D1.no
theorem D1.aggE:∀(fs:List FK) (xs ys:List AV) (acc:Bool),D1 fun k=>sAggE k acc fs xs ys
 | [],xs,ys,acc=>by cases xs<;>cases ys<;>first|exact D1.pure _|exact D1.no
 |f::fs,xs,ys,acc=>by
  cases xs with
  |nil=>cases ys<;>exact D1.no
  |cons x xs=>
   cases ys with
   |nil=>exact D1.no
   |cons y ys=>exact D1.bind (D1.cellE f x y) fun b=>D1.aggE fs xs ys _
theorem D1.eqR (op:BinOp) (c:Bool):D1 (sEqR op c):=by
 unfold sEqR;split<;>first|exact D1.pure _|exact D1.no
theorem D1.fk (o:Option (List FK)):D1 (sFK o):=by
 cases o with
 |none=>exact D1.no
 |some x=>exact D1.pure x
theorem D1.binS (P:Program) (t:TypeId) (op:BinOp) (kd:TK) (a b:AV):D1 fun k=>sBinS P t op a b k (sBin op kd a b k):=by
 unfold sBinS
 split
 · exact D1.bind (D1.fk _) fun ks=>D1.bind (D1.aggE ks _ _ true) fun c=>D1.eqR op c
 · cases fnRes P t op with
   |none=>exact D1.no
   |some c=>exact D1.pure _
 · exact D1.bin _ _ _ _
def sCallDV (P:Program) (c:AV) (d:Nat) (xs:List AV) (m:Mem) (k:AV→Mem→Prop):Prop:=match c with
 | .clo f ys=>sCallD P f d (xs++ys) m k
 |_=>False
@[congr] theorem sCallDV_congr {P:Program} {c c':AV} {d:Nat} {xs xs':List AV} {m:Mem} {k:AV→Mem→Prop} (h:c=c') (h':xs=xs'):sCallDV P c d xs m k=sCallDV P c' d xs' m k:=by rw [h,h']
theorem sCallDV_clo (P:Program) (f:FuncId) (ys:List AV) (d:Nat) (xs:List AV) (m:Mem) (k:AV→Mem→Prop):sCallDV P (.clo f ys) d xs m k=sCallD P f d (xs++ys) m k:=rfl
theorem DM.callDV (P:Program) (c:AV) (d:Nat) (xs:List AV) (m:Mem):DM (sCallDV P c d xs) (fun l=>(∃x,x∈xs∧NL x l)∨NL c l) m:=by
 cases c with
 |clo f ys=>
  refine (DM.callD P f d (xs++ys) m).mono fun l hl=> ?_
  obtain ⟨x,hx,ver,hv⟩:=hl
  rcases q12.1 hx with hx|hx
  · exact .inl ⟨x,hx,ver,hv⟩
  · obtain ⟨i,hi,rfl⟩:=q10 hx
    exact .inr ⟨ver,by simp only [labs];exact mem_labsL hi hv⟩
 |_=>exact DM.no _ _
def sOpD (P:Program) (d:Nat) (op:Op) (ts:Env) (m:Mem) (k:AV→Mem→Prop):Prop:=
 match op with
 | .call c=>match c.callee,c.args.toList with
   | .value (.func f),xs=>sCallD P f d (xs.map (ev ts)) m k
   | .value (.tmp t),xs=>sCallDV P (look ts t) d (xs.map (ev ts)) m k
   | .builtin .append,[x,y]=>sAppTX P c.argTypes.toList d (ev ts x) (ev ts y) m k
   |_,_=>sOp P d (.call c) ts m k
 | .binOp op t x y _=>sTI (tiOf P t) fun ti=>sBinS P t op (ev ts x) (ev ts y) (fun v=>k v m) (sBin op ti.kind (ev ts x) (ev ts y) fun v=>k v m)
 | .load t x=>sTI (tiOf P t) fun ti=>sLoad ti.agg ti.size (ev ts x) m k
 | .store t p y=>sTI (tiOf P t) fun ti=>sStore ti.size (ev ts p) (ev ts y) m fun m'=>k .undef m'
 | .indexAddr t x i=>sTI (tiOf P t) fun tt=>sSl tt.kind (sTI (tiOf P tt.elem) fun ti=>sIdx ti.sh m (ev ts x) (ev ts i) fun v=>k v m)
 |op=>sOp P d op ts m k
theorem sPart_mono {ag:Bool} {n j:Nat} {x:AV} {k k':AV→Prop} (h:∀y,k y→k' y) (hk:sPart ag n j x k):sPart ag n j x k':=by
 obtain ⟨y,h1,h2⟩:=D1.part _ _ _ _ _ hk
 exact h2 _ (h y h1)
theorem sLoadX_of {ag:Bool} {n:Nat} {p:AV} {m:Mem} {k:AV→Mem→Prop} (h:sLoad ag n p m k):sLoadX ag n p m k:=by
 cases p with
 |ptr l ver i j=>
  have h0:sLoadB ag n l ver i j (lookB m l) m k:=h
  show if l<ioL then sLoadB ag n l ver i j (lookB m l) m k else sLoadI ag n l ver i j (lookB m l) m k
  split
  · exact h0
  · rename_i hl
    generalize lookB m l=b at h0
    unfold sLoadI
    split
    · obtain ⟨h1,h2⟩:=h0
      refine ⟨h1,?_⟩
      rename_i xs
      cases hx:xs[i]? with
      |none=>rw [hx] at h2;exact h2.elim
      |some x=>
       rw [hx] at h2
       rw [sOpt_some] at h2 ⊢
       refine sPart_mono (fun y hy=> ?_) h2
       unfold sUndeep at hy
       unfold sLend
       split
       · rename_i hc;rw [if_pos hc] at hy;exact absurd hy.1 hl
       · rename_i hc;rw [if_neg hc] at hy;exact hy
    · exact h0
 |eptr=>exact h
 |_=>exact h.elim
theorem sStoreX_of {n:Nat} {p y:AV} {m:Mem} {k:Mem→Prop} (h:sStore n p y m k):sStoreX n p y m k:=by
 unfold sStoreX
 split
 · rename_i l ver i j l2 v2 i2 n2
   have h:sStoreB l ver i j (lookB m l) (.ref l2 v2 i2 n2) m n k:=h
   unfold sStoreR
   split
   · rename_i v xs hb
     rw [hb] at h
     have:=h.2.1
     cases this
   · exact h
 · exact h
theorem sCall_of_D {P:Program} {f:FuncId} {d:Nat} {xs:List AV} {m:Mem} {k:AV→Mem→Prop} (h:sCallD P f d xs m k):sCall P f d xs m k:=by
 have key:∀(xs acc:List AV) (G G':List AV→Prop),(∀ts,G ts→G' ts)→sTrees m G acc xs→sTrees m G' acc xs:=by
  intro xs acc G G' hg h
  obtain ⟨x,h1,h2⟩:=D1.trees m xs acc G h
  exact h2 G' (hg x h1)
 exact key _ _ _ _ (fun ts hx=>by
  rcases hx with ⟨own,r,h1,h2,h3⟩|⟨ρ,_,h⟩|⟨r,new,h1,h2⟩
  rotate_left 2
  · exact .inl (h2 m (fun _ _=>rfl) (fun _ _=>rfl) k h1)
  · exact .inr ⟨own,_,h1,h2,fun _ e=>e▸h3⟩
  · refine sCallT_io ρ ?_
    obtain ⟨io,h1,h2⟩:=D1.sel m ρ [] _ h
    obtain ⟨args,h3,h4⟩:=D1.rens ρ _ [] _ h1
    obtain ⟨r,io1,hF,hm⟩:=h3
    exact h2 _ (h4 _ ⟨_,hF,fun r io' ⟨e,e'⟩=>by subst e;subst e';exact hm⟩)) h
theorem sCallV_of_D {P:Program} {c:AV} {d:Nat} {xs:List AV} {m:Mem} {k:AV→Mem→Prop} (h:sCallDV P c d xs m k):sCallV P c d xs m k:=by
 cases c with
 |clo f ys=>exact sCall_of_D h
 |_=>exact h.elim
theorem sOp_of_D {P:Program} {d:Nat} {op:Op} {ts:Env} {m:Mem} {k:AV→Mem→Prop} (h:sOpD P d op ts m k):sOp P d op ts m k:=by
 unfold sOpD at h
 split at h
 · rename_i c
   split at h
   · rename_i f hc
     have:=sCall_of_D h
     unfold sOp
     simp only [hc]
     exact this
   · rename_i t hc
     have:=sCallV_of_D h
     unfold sOp
     simp only [hc]
     exact this
   · rename_i x y hc hx
     have:=h
     unfold sOp
     simp only [hc,hx]
     exact this
   · exact h
 · obtain ⟨ti,ht,h⟩:=sTI_out h
   show sTI _ _
   rw [ht]
   exact sBinS_mono (fun h=>sBinN_of h) h
 · obtain ⟨ti,ht,h⟩:=sTI_out h
   show sTI _ _
   rw [ht]
   exact sLoadX_of h
 · obtain ⟨ti,ht,h⟩:=sTI_out h
   show sTI _ _
   rw [ht]
   exact sStoreY_of (sStoreX_of h)
 · obtain ⟨tt,htt,h⟩:=sTI_out h
   obtain ⟨hks,h⟩:=sSl_out h
   obtain ⟨ti,ht,h⟩:=sTI_out h
   show sTI _ _
   rw [htt,sTI_some,hks]
   show sTI _ _
   rw [ht]
   exact sIdxX_of h
 · exact h
def rdO (op:Op):List Operand:=match op with
 | .move _=>[]
 | .assign _=>[]
 | .pick _ _ _=>[]
 | .box _ _=>[]
 | .build _ _=>[]
 | .binOp _ _ _ _ _=>[]
 | .extract _ _=>[]
 | .field _ _ _=>[]
 | .store _ p _=>[p]
 |op=>op.operands.toList
theorem rdO_sub {op:Op} {o:Operand} (h:o∈rdO op):o∈op.operands.toList:=by
 unfold rdO at h
 split at h<;>first
  |exact h
  |exact absurd h List.not_mem_nil
  |(rw [q16] at h;subst h;simp [Op.operands])
def Reads (op:Op) (ts:Env) (l:Nat):Prop:=∃o,o∈rdO op∧NL (ev ts o) l
theorem DM.sl {F:Mem→(AV→Mem→Prop)→Prop} {R:Nat→Prop} {m:Mem} (kd:TK) (h:DM F R m):DM (fun m k=>sSl kd (F m k)) R m:=by
 cases kd<;>first|exact h|exact DM.no _ _
theorem DM.st {F:Mem→(AV→Mem→Prop)→Prop} {R:Nat→Prop} {m:Mem} (kd:TK) (h:DM F R m):DM (fun m k=>sSt kd (F m k)) R m:=by
 cases kd<;>first|exact h|exact DM.no _ _
theorem DM.ti {F:TI→Mem→(AV→Mem→Prop)→Prop} {R:Nat→Prop} {m:Mem} (o:Option TI) (h:∀ti,DM (F ti) R m):DM (fun m k=>sTI o fun ti=>F ti m k) R m:=DM.pre' (D1.ti o) h
theorem DM.convB {R:Nat→Prop} (d:Nat) (x:AV) (m:Mem):DM (sConvB d x) R m:=by
 unfold sConvB
 split
 · exact DM.and _ (DM.put d _ fun m' h=>by rw [newVer_like h];exact ⟨rfl,rfl⟩)
 · exact DM.no _ _
theorem DM.convY {R:Nat→Prop} (P:Program) (si ti:TI) (d:Nat) (x:AV) (m:Mem) (h:∀m',Like R m m'→sConvX P si ti x m'=sConvX P si ti x m):DM (sConvY P si ti d x) R m:=by
 unfold sConvY
 split
 · refine DM.ti _ fun ei=> ?_
   unfold isU8
   split
   · exact DM.convB d x m
   · exact DM.no _ _
 · exact DM.still (G:=fun m k=>sConvX P si ti x m k) (D1.convX P si ti m _) fun m' hm=>h m' hm
theorem DM.or {α:Type} {F G:Mem→(α→Mem→Prop)→Prop} {R:Nat→Prop} {m:Mem} (h:DM F R m) (h':DM G R m):DM (fun m k=>F m k∨G m k) R m:=fun k hk=>by
 rcases hk with hk|hk
 · obtain ⟨x,new,h1,h2⟩:=h k hk
   exact ⟨x,new,h1,fun m' a b k' hk'=>.inl (h2 m' a b k' hk')⟩
 · obtain ⟨x,new,h1,h2⟩:=h' k hk
   exact ⟨x,new,h1,fun m' a b k' hk'=>.inr (h2 m' a b k' hk')⟩
theorem DM.appS (ti:TI) (d:Nat) (x:AV) (ys:List AV) (m:Mem):DM (sAppS ti d x ys) (NL x) m:=by
 unfold sAppS
 split
 · rename_i l v i n
   intro k hk
   cases hb:lookB m l with
   |none=>simp only [hb] at hk;exact hk.elim
   |some b=>
    simp only [hb] at hk
    cases b with
    |row v' sh deep xs=>
     obtain ⟨h1,h2,h3,h4,h5,h6,hk⟩:=hk
     refine ⟨.ref l (v+1) 0 (n+ys.length),[(l,.row (v+1) ti.sh false (xs.take n++ys))],hk,fun m' hm _ k' hk'=> ?_⟩
     show sAppSB ti l v i n (lookB m' l) ys m' k'
     rw [(hm l (NL.ref _ _ _ _)).trans hb]
     exact ⟨h1,h2,h3,h4,h5,h6,hk'⟩
    |_=>exact hk.elim
 · exact DM.and _ (DM.and _ (DM.put d _ fun m' h=>by rw [newVer_like h];exact ⟨rfl,rfl⟩))
theorem DM.appX (ti:TI) (d:Nat) (x y:AV) (m:Mem):DM (sAppX ti d x y) (fun l=>NL x l∨NL y l) m:=by
 cases y with
 |ref l v i n=>
  intro k hk
  have hk1:sAppXB ti d x l v i n (lookB m l) m k:=hk
  have go:∀m',Like (fun l'=>NL x l'∨NL (.ref l v i n) l') m m'→lookB m' l=lookB m l:=fun m' hm=>hm l (.inr (NL.ref _ _ _ _))
  unfold sAppXB at hk1
  split at hk1
  · rename_i v' sh' zs hb
    obtain ⟨z,new,h1,h2⟩:=DM.or (DM.app ti d x (.ref l v i n) m) (DM.and (v'=v) (DM.and (sh'=ti.sh) (DM.and (i+n≤zs.length) (DM.and (ti.bytes≤65536∧0<ti.size∧fits ti.sh ti.zero) ((DM.appS ti d x ((zs.drop i).take n) m).mono fun l hl=>.inl hl))))) k hk1
    refine ⟨z,new,h1,fun m' a b k' hk'=> ?_⟩
    show sAppXB ti d x l v i n (lookB m' l) m' k'
    rw [go m' a,hb]
    exact h2 m' a b k' hk'
  · rename_i hb
    obtain ⟨z,new,h1,h2⟩:=DM.app ti d x (.ref l v i n) m k hk1
    refine ⟨z,new,h1,fun m' a b k' hk'=> ?_⟩
    show sAppXB ti d x l v i n (lookB m' l) m' k'
    rw [go m' a]
    have:=h2 m' a b k' hk'
    unfold sAppXB
    split
    · rename_i hb2;exact absurd hb2 (hb _ _ _)
    · exact this
 |arr sh xs=>
  cases hb:isFlatL xs with
  |true=>
   have e:sAppX ti d x (.arr sh xs)=sApp ti d x (.arr sh xs):=by funext m k;show sAppZ ti d x sh xs (isFlatL xs) m k=_;rw [hb];rfl
   rw [e];exact DM.app ti d x _ m
  |false=>
   have e:sAppX ti d x (.arr sh xs)=fun m k=>sh=ti.sh∧(ti.bytes≤65536∧0<ti.size∧fits ti.sh ti.zero)∧sAppS ti d x xs m k:=by funext m k;show sAppZ ti d x sh xs (isFlatL xs) m k=_;rw [hb];rfl
   rw [e];exact DM.and _ (DM.and _ ((DM.appS ti d x xs m).mono fun l hl=>.inl hl))
 |_=>exact DM.app ti d x _ m
theorem DM.appTX (P:Program) (tys:List TypeId) (d:Nat) (x y:AV) (m:Mem):DM (sAppTX P tys d x y) (fun l=>NL x l∨NL y l) m:=by
 unfold sAppTX
 split
 · refine DM.pre' (F:=fun tt m k=>sSl tt.kind (sTI (tiOf P _) fun tt'=>sSl tt'.kind (sTI (tiOf P tt.elem) fun ti=>sAppX ti d x y m k))) (D1.ti _) fun tt=> ?_
   have hsl:∀(kd:TK) {F:Mem→(AV→Mem→Prop)→Prop} {R:Nat→Prop},DM F R m→DM (fun m k=>sSl kd (F m k)) R m:=by
    intro kd F R h
    cases kd<;>first|exact h|exact DM.no _ _
   refine hsl _ (DM.pre' (F:=fun tt' m k=>sSl tt'.kind (sTI (tiOf P tt.elem) fun ti=>sAppX ti d x y m k)) (D1.ti _) fun tt'=> ?_)
   exact hsl _ (DM.pre' (F:=fun ti m k=>sAppX ti d x y m k) (D1.ti _) fun ti=>DM.appX ti d x y m)
 · exact DM.no _ _
theorem DM.givL {R:Nat→Prop} (x:AV) (m:Mem) (hR:∀l,NL x l→R l):DM (sGivL x) R m:=by
 unfold sGivL
 split
 · rename_i l v i n
   intro k hk
   cases hb:lookB m l with
   |none=>rw [hb] at hk;exact hk.elim
   |some b=>
    rw [hb] at hk
    cases b with
    |row v' sh d ys=>
     obtain ⟨h1,h2,h3,h4⟩:=hk
     refine ⟨.arr sh ((ys.drop i).take n),[(l,.gone v)],h4,fun m' hm _ k' hk'=> ?_⟩
     show sGivB l v i n (lookB m' l) m' k'
     rw [hm l (hR l (NL.ref _ _ _ _)),hb]
     exact ⟨h1,h2,h3,hk'⟩
    |_=>exact hk.elim
 · exact DM.ret _
theorem DM.map {α β:Type} {F:Mem→(α→Mem→Prop)→Prop} {R:Nat→Prop} {m:Mem} (f:α→β) (h:DM F R m):DM (fun m k=>F m fun x m'=>k (f x) m') R m:=fun k hk=>
 have ⟨x,new,h1,h2⟩:=h _ hk
 ⟨f x,new,h1,fun m' hm hm' k' hk'=>h2 m' hm hm' _ hk'⟩
theorem DM.givLs {R:Nat→Prop}:∀(xs acc:List AV) (m:Mem),(∀x,x∈xs→∀l,NL x l→R l)→DM (fun m k=>sGivLs k acc m xs) R m
 | [],acc,m,_=>DM.ret acc.reverse
 |x::r,acc,m,hR=>DM.bind (one:=sGivL x) (rest:=fun y m k=>sGivLs k (y::acc) m r) (DM.givL x m (hR x (q14 ..))) fun y new=>DM.givLs r (y::acc) (new++m) fun x hx=>hR x (q13 _ hx)
theorem DM.givA {R:Nat→Prop} (x:AV) (m:Mem) (hR:∀l,NL x l→R l):DM (sGivA x) R m:=by
 cases x with
 |agg xs=>exact DM.map AV.agg (DM.givLs xs [] m fun x hx l ⟨ver,hl⟩=>hR l ⟨ver,by
   obtain ⟨i,hi,rfl⟩:=q10 hx
   simp only [labs];exact mem_labsL hi hl⟩)
 |_=>exact DM.givL _ m hR
theorem DM.givs {R:Nat→Prop}:∀(ps acc:List (Nat × AV)) (m:Mem),(∀p,p∈ps→∀l,NL p.2 l→R l)→DM (fun m k=>sGivs k acc m ps) R m
 | [],acc,m,_=>DM.ret acc.reverse
 |(i,x)::r,acc,m,hR=>DM.bind (one:=sGivA x) (rest:=fun y m k=>sGivs k ((i,y)::acc) m r) (DM.givA x m (hR (i,x) (q14 ..))) fun y new=>DM.givs r ((i,y)::acc) (new++m) fun p hp=>hR p (q13 _ hp)
theorem DM.buildSliceX {R:Nat→Prop} (ti:TI) (d n:Nat) (ps:List (Nat × AV)) (m:Mem) (hR:∀p,p∈ps→∀l,NL p.2 l→R l):DM (sBuildSliceX ti d n ps) R m:=
 DM.bind (one:=fun m k=>sGivs k [] m ps) (rest:=fun ps m k=>sBuildSlice ti d n ps m k) (DM.givs ps [] m hR) fun ps new=>DM.buildSlice ti d n ps (new++m)
theorem sOpD_det (P:Program) (d:Nat) (op:Op) (ts:Env) (m:Mem):DM (sOpD P d op ts) (Reads op ts) m:=by
 have rd:∀(o:Operand),o∈rdO op→∀l,NL (ev ts o) l→Reads op ts l:=fun o h l hl=>⟨o,h,hl⟩
 have lk:∀(o:Operand),o∈rdO op→∀m',Like (Reads op ts) m m'→Like (NL (ev ts o)) m m':=fun o h m' hm l hl=>hm l (rd o h l hl)
 have nomem:∀{G:(AV→Prop)→Prop},D1 G→DM (fun m k=>G fun v=>k v m) (Reads op ts) m:=fun {G} h=>DM.still (G:=fun _=>G) h fun _ _=>rfl
 have other:(∀t x i,op≠ .indexAddr t x i)→(∀c f,op= .call c→c.callee≠ .value (.func f))→(∀c t,op= .call c→c.callee≠ .value (.tmp t))→(∀o t x y t2,op≠ .binOp o t x y t2)→(∀t x,op≠ .load t x)→(∀t p y,op≠ .store t p y)→(∀c x y,op= .call c→c.callee= .builtin .append→c.args.toList=[x,y]→False)→DM (sOp P d op ts) (Reads op ts) m:=by
  intro hni hno hnt hnb hnl hns hna
  cases op with
  |move x=>exact DM.ret _
  |makeFunc fn first caps=>cases fn<;>first|exact DM.and _ (DM.ret _)|exact DM.no _ _
  |assign x=>exact DM.ret _
  |pick c a b=>exact nomem (D1.pick _ _ _)
  |alloc t=>exact DM.ti _ fun ti=>DM.box d ti.zero m
  |box t x=>exact DM.box d _ m
  |build t parts=>exact DM.ti _ fun ti=>DM.st _ (nomem (D1.build ti _))
  |buildSlice t n parts=>
   refine DM.ti _ fun tt=>DM.sl _ (DM.ti _ fun ti=>DM.buildSliceX ti d n _ m fun p hp l hl=> ?_)
   obtain ⟨q,hq,rfl⟩:=q15.1 hp
   exact ⟨q.2,by show q.2∈(Op.buildSlice t n parts).operands.toList;simp only [Op.operands,Array.toList_map];exact q15.2 ⟨q,hq,rfl⟩,hl⟩
  |load t x=>exact absurd rfl (hnl _ _)
  |store t p y=>exact absurd rfl (hns _ _ _)
  |nilCheck x=>exact DM.still (D1.nil m _) fun m' hm=>like_nil (lk x (by simp [rdO,Op.operands]) m' hm)
  |binOp op t x y t2=>exact absurd rfl (hnb _ _ _ _ _)
  |unOp op t x=>cases op<;>first|exact nomem (D1.not _)|exact nomem (D1.neg _)|exact DM.no _ _
  |convert s t x=>exact DM.ti _ fun si=>DM.ti _ fun ti=>DM.convY P si ti d _ m fun m' hm=>like_convX (lk x (by simp [rdO,Op.operands]) m' hm)
  |makeSlice t l c=>exact DM.ti _ fun tt=>DM.sl _ (DM.ti _ fun ti=>DM.make ti d _ _ m)
  |fieldAddr t x f=>exact DM.ti _ fun ti=>DM.pre' (F:=fun fd m k=>0<fd.2.1∧sField fd.1 m (ev ts x) fun v=>k v m) (D1.fld _) fun fd=>DM.and _ (DM.still (D1.field _ m _) fun m' hm=>like_field _ (lk x (by simp [rdO,Op.operands]) m' hm))
  |field t x f=>exact DM.ti _ fun ti=>DM.pre' (F:=fun fd m k=>sPartA fd.2.2 fd.2.1 fd.1 (ev ts x) fun v=>k v m) (D1.fld _) fun fd=>nomem (D1.partA _ _ _ _)
  |indexAddr t x i=>exact absurd rfl (hni _ _ _)
  |index t x i=>exact DM.ti _ fun tt=>DM.and _ (nomem (D1.index _ _))
  |extract x i=>exact nomem (D1.tup _ _)
  |slice t x lo hi mx=>
   cases mx with
   |none=>exact DM.ti _ fun tt=>DM.still (G:=fun m k=>sSlK P tt (ev ts x) (lo.map (ev ts)) (hi.map (ev ts)) m k) (D1.slK _ _ _ _ _ m) fun m' hm=>like_slK _ _ (lk x (by simp [rdO,Op.operands]) m' hm)
   |some mx=>
    cases lo with
    |none=>exact DM.and _ (DM.ti _ fun tt=>DM.sl _ (DM.ti _ fun _=>DM.still (G:=fun m k=>sSlice0 m (ev ts x) k) (D1.slice0 m _) fun m' hm=>like_slice0 (lk x (by simp [rdO,Op.operands]) m' hm)))
    |some lo=>exact DM.no _ _
  |call c=>
   obtain ⟨callee,args,tys⟩:=c
   have hin:∀o,o∈args.toList→o∈rdO (Op.call ⟨callee,args,tys⟩):=fun o ho=>by show o∈(Op.call ⟨callee,args,tys⟩).operands.toList;simp only [Op.operands,Call.operands,Array.toList_append,q12];exact .inr ho
   show DM (fun m k=>match callee,args.toList with
    | .builtin .len,[x]=>match tys.toList with|t::_=>sTI (tiOf P t) fun ti=>sLen ti.kind m (ev ts x) fun v=>k v m| []=>False
    | .builtin .max,[x,y]=>sMax (ev ts x) (ev ts y) fun v=>k v m
    | .builtin .min,[x,y]=>sMin (ev ts x) (ev ts y) fun v=>k v m
    | .builtin .min,[x,y,z]=>sMin (ev ts x) (ev ts y) fun u=>sMin u (ev ts z) fun v=>k v m
    | .builtin .append,[x,y]=>sAppTX P tys.toList d (ev ts x) (ev ts y) m k
    | .value (.func f),xs=>sCall P f d (xs.map (ev ts)) m k
    | .value (.tmp t),xs=>sCallV P (look ts t) d (xs.map (ev ts)) m k
    |_,_=>False) (Reads (.call ⟨callee,args,tys⟩) ts) m
   generalize hl0:args.toList=l at hin
   split
   · rename_i x
     split
     · exact DM.ti _ fun ti=>DM.still (G:=fun m k=>sLen ti.kind m (ev ts x) k) (D1.len _ m _) fun m' hm=>like_len _ (lk x (hin x (by simp)) m' hm)
     · exact DM.no _ _
   · exact nomem (D1.max _ _)
   · exact nomem (D1.min _ _)
   · exact nomem (D1.bind (D1.min _ _) fun u=>D1.min u _)
   · rename_i x y
     exact (hna _ x y rfl rfl hl0).elim
   · exact absurd rfl (hno _ _ rfl)
   · exact absurd rfl (hnt _ _ rfl)
   · exact DM.no _ _
  |_=>exact DM.no _ _
 cases op with
 |call c=>
  by_cases hf:∃f,c.callee= .value (.func f)
  · obtain ⟨f,hf⟩:=hf
    have:sOpD P d (.call c) ts=sCallD P f d (c.args.toList.map (ev ts)):=by
     funext m k
     simp only [sOpD,hf]
    rw [this]
    refine (DM.callD P f d _ m).mono fun l hl=> ?_
    obtain ⟨x,hx,hl⟩:=hl
    obtain ⟨o,ho,rfl⟩:=q15.1 hx
    exact ⟨o,by show o∈(Op.call c).operands.toList;simp only [Op.operands,Call.operands,Array.toList_append,q12];exact .inr ho,hl⟩
  · by_cases hft:∃t,c.callee= .value (.tmp t)
    · obtain ⟨t,hft⟩:=hft
      have:sOpD P d (.call c) ts=sCallDV P (look ts t) d (c.args.toList.map (ev ts)):=by
       funext m k
       simp only [sOpD,hft]
      rw [this]
      refine (DM.callDV P (look ts t) d _ m).mono fun l hl=> ?_
      rcases hl with ⟨x,hx,hl⟩|hl
      · obtain ⟨o,ho,rfl⟩:=q15.1 hx
        exact ⟨o,by show o∈(Op.call c).operands.toList;simp only [Op.operands,Call.operands,Array.toList_append,q12];exact .inr ho,hl⟩
      · exact ⟨.tmp t,by show Operand.tmp t∈(Op.call c).operands.toList;simp [Op.operands,Call.operands,hft],hl⟩
    by_cases hfa:∃x y,c.callee= .builtin .append∧c.args.toList=[x,y]
    · obtain ⟨x,y,hc,hx⟩:=hfa
      have:sOpD P d (.call c) ts=sAppTX P c.argTypes.toList d (ev ts x) (ev ts y):=by
       funext m k
       simp only [sOpD,hc,hx]
      rw [this]
      have hin:∀o,o∈c.args.toList→o∈rdO (Op.call c):=fun o ho=>by show o∈(Op.call c).operands.toList;simp only [Op.operands,Call.operands,Array.toList_append,q12];exact .inr ho
      exact (DM.appTX P _ d _ _ m).mono fun l hl=>hl.elim (fun hl=>⟨x,hin x (by rw [hx];simp),hl⟩) fun hl=>⟨y,hin y (by rw [hx];simp),hl⟩
    have:sOpD P d (.call c) ts=sOp P d (.call c) ts:=by
     funext m k
     simp only [sOpD]
     split
     · rename_i f hc;exact absurd ⟨f,hc⟩ hf
     · rename_i f hc;exact absurd ⟨f,hc⟩ hft
     · rename_i x y hc hx;exact absurd ⟨x,y,hc,hx⟩ hfa
     · rfl
    rw [this]
    exact other (fun _ _ _ e=>(by cases e)) (fun c' f e hc=>hf ⟨f,by injection e with e;rw [e];exact hc⟩) (fun c' f e hc=>hft ⟨f,by injection e with e;rw [e];exact hc⟩) (fun _ _ _ _ _ e=>(by cases e)) (fun _ _ e=>(by cases e)) (fun _ _ _ e=>(by cases e)) (fun c' x y e hc hx=>hfa ⟨x,y,by injection e with e;rw [e];exact hc,by injection e with e;rw [e];exact hx⟩)
 |binOp op t x y t2=>exact DM.ti _ fun ti=>nomem (G:=fun k=>sBinS P t op (ev ts x) (ev ts y) k (sBin op ti.kind (ev ts x) (ev ts y) k)) (D1.binS P t op ti.kind (ev ts x) (ev ts y))
 |load t x=>exact DM.ti _ fun ti=>(DM.load ti.agg ti.size (ev ts x) m).mono (rd x (by simp [rdO,Op.operands]))
 |store t p y=>exact DM.ti _ fun ti=>(DM.store ti.size (ev ts p) (ev ts y) m).mono (rd p (by simp [rdO,Op.operands]))
 |indexAddr t x i=>exact DM.ti _ fun tt=>DM.sl _ (DM.ti _ fun ti=>DM.still (G:=fun m k=>sIdx ti.sh m (ev ts x) (ev ts i) k) (D1.idx _ m _ _) fun m' hm=>like_idx _ _ (lk x (by simp [rdO,Op.operands]) m' hm))
 |_=>exact other (fun _ _ _ e=>(by cases e)) (fun _ _ e=>(by cases e)) (fun _ _ e=>(by cases e)) (fun _ _ _ _ _ e=>(by cases e)) (fun _ _ e=>(by cases e)) (fun _ _ _ e=>(by cases e)) (fun _ _ _ e=>(by cases e))
theorem sOpD_ts {P:Program} {d:Nat} {op:Op} {ts ts':Env} (h:∀o,o∈op.operands.toList→ev ts' o=ev ts o) (m:Mem) (k:AV→Mem→Prop):sOpD P d op ts' m k=sOpD P d op ts m k:=by
 have parts:∀(ps:Array (Nat × Operand)),(∀o,o∈(ps.toList.map (·.2))→ev ts' o=ev ts o)→(ps.toList.map fun p=>(p.1,ev ts' p.2))=ps.toList.map fun p=>(p.1,ev ts p.2):=by
  intro ps hp
  refine List.map_congr_left fun p hpp=> ?_
  rw [hp p.2 (q15.2 ⟨p,hpp,rfl⟩)]
 have optm:∀(lo:Option Operand),(∀o,o∈lo.toList→ev ts' o=ev ts o)→lo.map (ev ts')=lo.map (ev ts):=by
  intro lo hp
  cases lo with
  |none=>rfl
  |some o=>simp [hp o (by simp)]
 cases op with
 |call c=>
  obtain ⟨callee,args,tys⟩:=c
  have hin:∀o,o∈args.toList→ev ts' o=ev ts o:=fun o ho=>h o (by simp only [Op.operands,Call.operands,Array.toList_append,q12];exact .inr ho)
  have hcl:∀t,callee= .value (.tmp t)→look ts' t=look ts t:=fun t e=>h (.tmp t) (by subst e;simp [Op.operands,Call.operands])
  simp only [sOpD,sOp]
  generalize args.toList=l at hin
  split
  · rename_i f xs
    rw [List.map_congr_left hin]
  · rw [List.map_congr_left hin,hcl _ rfl]
  · simp only [hin _ (q14 ..),hin _ (q13 _ (q14 ..))]
  · split<;>first
     |rfl
     |(rename_i hx;exact (hx _ rfl).elim)
     |(rename_i hx _;exact (hx _ rfl).elim)
     |(rename_i hx _ _;exact (hx _ rfl).elim)
     |simp only [hin _ (q14 ..),hin _ (q13 _ (q14 ..)),hin _ (q13 _ (q13 _ (q14 ..)))]
     |simp only [hin _ (q14 ..),hin _ (q13 _ (q14 ..))]
     |simp only [hin _ (q14 ..)]
     |rw [List.map_congr_left hin]
 |makeFunc fn first caps=>
  cases fn<;>first
   |rfl
   |(simp only [sOpD,sOp];rw [List.map_congr_left (fun o ho=>h o (by simp [Op.operands];exact .inr (by simpa using ho)))])
 |build t ps=>simp only [sOpD,sOp];rw [parts ps fun o ho=>h o (by simpa [Op.operands] using ho)]
 |buildSlice t n ps=>simp only [sOpD,sOp];rw [parts ps fun o ho=>h o (by simpa [Op.operands] using ho)]
 |slice t x lo hi mx=>
  cases mx with
  |none=>simp only [sOpD,sOp];rw [h x (by simp [Op.operands]),optm lo fun o ho=>h o (by simp only [Op.operands];simp at ho ⊢;simp [ho]),optm hi fun o ho=>h o (by simp only [Op.operands];simp at ho ⊢;simp [ho])]
  |some mx=>
   cases lo with
   |none=>simp only [sOpD,sOp];rw [h x (by simp [Op.operands])]
   |some lo=>rfl
 |unOp op t x=>cases op<;>simp only [sOpD,sOp]<;>rw [h x (by simp [Op.operands])]
 |pick c x y=>simp only [sOpD,sOp];rw [h c (by simp [Op.operands]),h x (by simp [Op.operands]),h y (by simp [Op.operands])]
 |store t x y=>simp only [sOpD,sOp];rw [h x (by simp [Op.operands]),h y (by simp [Op.operands])]
 |binOp op t x y t2=>simp only [sOpD,sOp];rw [h x (by simp [Op.operands]),h y (by simp [Op.operands])]
 |makeSlice t x y=>simp only [sOpD,sOp];rw [h x (by simp [Op.operands]),h y (by simp [Op.operands])]
 |indexAddr t x y=>simp only [sOpD,sOp];rw [h x (by simp [Op.operands]),h y (by simp [Op.operands])]
 |index t x y=>simp only [sOpD,sOp];rw [h x (by simp [Op.operands]),h y (by simp [Op.operands])]
 |move x=>simp only [sOpD,sOp];rw [h x (by simp [Op.operands])]
 |assign x=>simp only [sOpD,sOp];rw [h x (by simp [Op.operands])]
 |box t x=>simp only [sOpD,sOp];rw [h x (by simp [Op.operands])]
 |load t x=>simp only [sOpD,sOp];rw [h x (by simp [Op.operands])]
 |nilCheck x=>simp only [sOpD,sOp];rw [h x (by simp [Op.operands])]
 |convert s t x=>simp only [sOpD,sOp];rw [h x (by simp [Op.operands])]
 |fieldAddr t x f=>simp only [sOpD,sOp];rw [h x (by simp [Op.operands])]
 |field t x f=>simp only [sOpD,sOp];rw [h x (by simp [Op.operands])]
 |extract x i=>simp only [sOpD,sOp];rw [h x (by simp [Op.operands])]
 |_=>rfl
end Go.Vc
namespace Go.Vc
structure Rec where
 x:AV
 new:Mem
def want1 (ops:List Oper) (o:Oper) (ts:Env):Option Bool:=match o.guard with
 |none=>some true
 |some (j,w)=>match look ts (dstOf ops j) with
  | .val (.bool c)=>some (c==w)
  | .tup []=>some false
  |_=>none
def tR (ops:List Oper) (o:Oper):List Nat:=(o.op.operands.toList.filterMap fun| .tmp t=>some t|_=>none)++(match o.guard with|some (j,_)=>[dstOf ops j]|none=>[])
def rdL (op:Op) (ts:Env):List Nat:=(rdO op).flatMap fun o=>(labs (ev ts o)).map (·.1)
def YA (P:Program) (ops:List Oper) (o:Oper) (q:Rec) (rd:List Nat) (ts:Env) (m:Mem):Prop:=
 (want1 ops o ts=some true∧(∀l,l∈rdL o.op ts→l∈rd)∧∀m',(∀l,l∈rdL o.op ts→lookB m' l=lookB m l)→(∀l,l∈q.new.map (·.1)→lookB m' l=lookB m l)→∀k,k q.x (q.new++m')→sOpD P (o.dst.getD 0) o.op ts m' k)∨
 (want1 ops o ts=some false∧q.x= .tup []∧q.new=[])
theorem ev_of_look {ts ts':Env} {o:Operand} (h:∀t,o= .tmp t→look ts' t=look ts t):ev ts' o=ev ts o:=by
 cases o with
 |tmp t=>exact h t rfl
 |_=>rfl
theorem evs_of_tR {ops:List Oper} {o:Oper} {ts ts':Env} (h:∀t,t∈tR ops o→look ts' t=look ts t):∀x,x∈o.op.operands.toList→ev ts' x=ev ts x:=fun x hx=>
 ev_of_look fun t ht=>h t (by
  subst ht
  unfold tR
  exact List.mem_append_left _ (List.mem_filterMap.2 ⟨_,hx,rfl⟩))
theorem want1_of_tR {ops:List Oper} {o:Oper} {ts ts':Env} (h:∀t,t∈tR ops o→look ts' t=look ts t):want1 ops o ts'=want1 ops o ts:=by
 unfold want1
 split
 · rfl
 · rename_i j w hg
   rw [h (dstOf ops j) (by unfold tR;rw [hg];exact List.mem_append_right _ (q16.2 rfl))]
theorem YA.local {P:Program} {ops:List Oper} {o:Oper} {q:Rec} {rd:List Nat} {ts ts':Env} {m m':Mem} (h:YA P ops o q rd ts m) (ht:∀t,t∈tR ops o→look ts' t=look ts t)
 (hr:∀l,l∈rd→lookB m' l=lookB m l) (hn:∀l,l∈q.new.map (·.1)→lookB m' l=lookB m l):YA P ops o q rd ts' m':=by
 have hev:=evs_of_tR ht
 have hrd:rdL o.op ts'=rdL o.op ts:=by
  unfold rdL
  rw [List.flatMap_def,List.flatMap_def,List.map_congr_left fun x hx=>by rw [hev x (rdO_sub hx)]]
 rcases h with ⟨h1,h2,h3⟩|⟨h1,h2,h3⟩
 · refine .inl ⟨(want1_of_tR ht).trans h1,fun l hl=>h2 l (hrd▸hl),fun m'' hm hm' k hk=> ?_⟩
   rw [sOpD_ts hev]
   exact h3 m'' (fun l hl=>(hm l (hrd▸hl)).trans (hr l (h2 l hl))) (fun l hl=>(hm' l hl).trans (hn l hl)) k hk
 · exact .inr ⟨(want1_of_tR ht).trans h1,h2,h3⟩
def Stt (os:Nat→Oper) (qs:Nat→Rec) (D:Nat→Bool) (ts:Env) (m:Mem):Nat→Env × Mem
 |0=>(ts,m)
 |i+1=>if D i then (putE (os i).dst (qs i).x (Stt os qs D ts m i).1,(qs i).new++(Stt os qs D ts m i).2) else Stt os qs D ts m i
section
variable {os:Nat→Oper} {qs:Nat→Rec} {D D':Nat→Bool} {ts:Env} {m:Mem}
theorem look_putE (d:Option Nat) (x:AV) (ts:Env) (t:Nat):look (putE d x ts) t=if d=some t then x else look ts t:=by
 cases d with
 |none=>simp [putE]
 |some d=>simp [putE,look_cons]
theorem lookB_new {new m:Mem} {l:Nat} (h:l∉new.map (·.1)):lookB (new++m) l=lookB m l:=by
 induction new with
 |nil=>rfl
 |cons p r ih=>
  obtain ⟨k,v⟩:=p
  simp only [List.map_cons,List.mem_cons,not_or] at h
  rw [List.cons_append,lookB_cons,if_neg (fun e=>h.1 e.symm),ih h.2]
theorem lookB_new_of {new m m':Mem} {l:Nat} (h:l∈new.map (·.1)):lookB (new++m) l=lookB (new++m') l:=by
 induction new with
 |nil=>cases h
 |cons p r ih=>
  obtain ⟨k,v⟩:=p
  simp only [List.cons_append,lookB_cons]
  by_cases e:k=l
  · simp [e]
  · simp only [if_neg e]
    exact ih (by simp only [List.map_cons,List.mem_cons] at h;exact h.resolve_left fun hh=>e hh.symm)
theorem Stt_look {t:Nat}:∀(hi:Nat) (lo:Nat),lo≤hi→(∀i,lo≤i→i<hi→D i≠D' i→(os i).dst≠some t)→look (Stt os qs D ts m lo).1 t=look (Stt os qs D' ts m lo).1 t→
 look (Stt os qs D ts m hi).1 t=look (Stt os qs D' ts m hi).1 t
 |0,lo,hl,_,h=>by rw [show lo=0 by omega] at h;exact h
 |hi+1,lo,hl,hd,h=>by
  by_cases e:lo=hi+1
  · subst e;exact h
  · have ih:=Stt_look hi lo (by omega) (fun i h1 h2=>hd i h1 (by omega)) h
    have hne:=hd hi (by omega) (by omega)
    simp only [Stt]
    cases h1:D hi<;>cases h2:D' hi<;>simp only [q3,if_true,if_false]<;>(try simp only [look_putE])
    · exact ih
    · rw [if_neg (hne (by simp [h1,h2]))];exact ih
    · rw [if_neg (hne (by simp [h1,h2]))];exact ih
    · rw [ih]
theorem Stt_lookB {l:Nat}:∀(hi:Nat) (lo:Nat),lo≤hi→(∀i,lo≤i→i<hi→D i≠D' i→l∉(qs i).new.map (·.1))→lookB (Stt os qs D ts m lo).2 l=lookB (Stt os qs D' ts m lo).2 l→
 lookB (Stt os qs D ts m hi).2 l=lookB (Stt os qs D' ts m hi).2 l
 |0,lo,hl,_,h=>by rw [show lo=0 by omega] at h;exact h
 |hi+1,lo,hl,hd,h=>by
  by_cases e:lo=hi+1
  · subst e;exact h
  · have ih:=Stt_lookB hi lo (by omega) (fun i h1 h2=>hd i h1 (by omega)) h
    have hne:=hd hi (by omega) (by omega)
    simp only [Stt]
    cases h1:D hi<;>cases h2:D' hi<;>simp only [q3,if_true,if_false]
    · exact ih
    · rw [lookB_new (hne (by simp [h1,h2]))];exact ih
    · rw [lookB_new (hne (by simp [h1,h2]))];exact ih
    · by_cases hl:l∈(qs hi).new.map (·.1)
      · exact lookB_new_of hl
      · rw [lookB_new hl,lookB_new hl];exact ih
theorem Stt_prefix {j:Nat}:∀(i:Nat),i≤j→(∀q,q<j→D q=D' q)→Stt os qs D ts m i=Stt os qs D' ts m i
 |0,_,_=>rfl
 |i+1,hi,h=>by simp only [Stt];rw [Stt_prefix i (by omega) h,h i (by omega)]
theorem Stt_stop {j:Nat} (h:∀q,j≤q→D q=false):∀(i:Nat),j≤i→Stt os qs D ts m i=Stt os qs D ts m j
 |0,hi=>by rw [show j=0 by omega]
 |i+1,hi=>by
  by_cases e:j=i+1
  · rw [e]
  · simp only [Stt]
    rw [h i (by omega)]
    simpa using Stt_stop h i (by omega)
end
def ins (a xs:List Nat):List Nat:=xs.foldl (fun a x=>if a.contains x then a else x::a) a
theorem mem_ins {x:Nat}:∀(xs a:List Nat),x∈ins a xs→x∈a∨x∈xs
 | [],a,h=>.inl h
 |y::r,a,h=>by
  simp only [ins,List.foldl_cons] at h
  rcases mem_ins r _ h with h|h
  · split at h
    · exact .inl h
    · rcases List.mem_cons.1 h with rfl|h
      · exact .inr (q14 ..)
      · exact .inl h
  · exact .inr (q13 _ h)
def preds (o:Oper):List Nat:=(o.after.toList.filter (Region.binds .any)).map (·.on)
def ancOf (acc:List (List Nat)) (o:Oper):List Nat:=(preds o).foldl (fun a i=>ins a (i::acc.getD i [])) []
theorem mem_ancOf {x:Nat} {acc:List (List Nat)}:∀(ps a:List Nat),x∈ps.foldl (fun a i=>ins a (i::acc.getD i [])) a→x∈a∨∃i,i∈ps∧(x=i∨x∈acc.getD i [])
 | [],a,h=>.inl h
 |p::r,a,h=>by
  rw [List.foldl_cons] at h
  rcases mem_ancOf r _ h with h|⟨i,hi,h⟩
  · rcases mem_ins _ _ h with h|h
    · exact .inl h
    · exact .inr ⟨p,q14 ..,List.mem_cons.1 h⟩
  · exact .inr ⟨i,q13 _ hi,h⟩
def ancsGo:List Oper→List (List Nat)→List (List Nat)
 | [],acc=>acc
 |o::r,acc=>ancsGo r (acc++[ancOf acc o])
def Closed (ops:List Oper) (D:Nat→Bool):Prop:=∀j o,ops[j]? =some o→D j=true→∀i,i∈preds o→D i=true
theorem ancsGo_closed {ops:List Oper} {D:Nat→Bool} (hD:Closed ops D):∀(l:List Oper) (acc:List (List Nat)),ops.drop acc.length=l→(∀j x,x∈acc.getD j []→D j=true→D x=true)→
 ∀j x,x∈(ancsGo l acc).getD j []→D j=true→D x=true
 | [],acc,_,h=>h
 |o::r,acc,hl,h=>by
  have hoi:ops[acc.length]? =some o:=by
   have:=congrArg (·[0]?) hl
   simpa using this
  refine ancsGo_closed hD r (acc++[ancOf acc o]) ?_ ?_
  · have:=congrArg List.tail hl
    simpa using this
  · intro j x hx hj
    by_cases e:j<acc.length
    · refine h j x ?_ hj
      rwa [q4,List.getElem?_append_left e,←q4] at hx
    · by_cases e2:j=acc.length
      · subst e2
        rw [q4,List.getElem?_append_right (Nat.le_refl _)] at hx
        simp only [Nat.sub_self,List.getElem?_cons_zero,Option.getD_some] at hx
        rcases mem_ancOf _ _ hx with hx|⟨i,hi,hx⟩
        · cases hx
        · have h1:=hD _ o hoi hj i hi
          rcases hx with rfl|hx
          · exact h1
          · exact h i x hx h1
      · rw [q4,q6 (by simp;omega)] at hx
        cases hx
def apartP (ops:List Oper) (oi oj:Oper) (ti tj:List Nat × List Nat):Bool:=
 (match oi.dst with|some d=> !(tR ops oj).contains d&&oj.dst != some d|none=>true)&&(match oj.dst with|some d=> !(tR ops oi).contains d|none=>true)&&
 ti.2.all (fun l=> !tj.1.contains l&& !tj.2.contains l)&&tj.2.all (fun l=> !ti.1.contains l)
def backB (ops:List Oper):Bool:=(List.range ops.length).all fun i=>match ops[i]? with|some o=>(preds o).all fun p=>decide (p<i)|none=>true
def drawB (ops:List Oper) (tr:List (List Nat × List Nat)):Bool:=
 backB ops&&(List.range ops.length).all fun j=>(List.range j).all fun i=>((ancsGo ops []).getD j []).contains i||
  match ops[i]?,ops[j]?,tr[i]?,tr[j]? with
  |some oi,some oj,some ti,some tj=>apartP ops oi oj ti tj
  |_,_,_,_=>false
structure ApartI (ops:List Oper) (oi oj:Oper) (ri rj wi wj:List Nat):Prop where
 t1:∀d,oi.dst=some d→d∉tR ops oj
 t2:∀d,oj.dst=some d→d∉tR ops oi
 t3:∀d,oi.dst=some d→oj.dst≠some d
 l1:∀l,l∈wi→l∉rj
 l2:∀l,l∈wj→l∉ri
 l3:∀l,l∈wi→l∉wj
theorem apartP_out {ops:List Oper} {oi oj:Oper} {ti tj:List Nat × List Nat} (h:apartP ops oi oj ti tj=true):ApartI ops oi oj ti.1 tj.1 ti.2 tj.2:=by
 simp only [apartP,Bool.and_eq_true,List.all_eq_true,Bool.not_eq_true',List.contains_eq_mem,decide_eq_false_iff_not] at h
 obtain ⟨⟨⟨h1,h2⟩,h3⟩,h4⟩:=h
 refine ⟨fun d hd=> ?_,fun d hd=> ?_,fun d hd=> ?_,fun l hl=>(h3 l hl).1,fun l hl=>h4 l hl,fun l hl=>(h3 l hl).2⟩
 · rw [hd] at h1;simp at h1;exact h1.1
 · rw [hd] at h2;simp at h2;exact h2
 · rw [hd] at h1;simp at h1;exact h1.2
theorem drawB_out {ops:List Oper} {tr:List (List Nat × List Nat)} (h:drawB ops tr=true) {D:Nat→Bool} (hD:Closed ops D) {i j:Nat} (hij:i<j) {oi oj:Oper} {ti tj:List Nat × List Nat}
 (hi:ops[i]? =some oi) (hj:ops[j]? =some oj) (h1:tr[i]? =some ti) (h2:tr[j]? =some tj) (hd:¬(D j=true→D i=true)):ApartI ops oi oj ti.1 tj.1 ti.2 tj.2:=by
 have hjl:j<ops.length:=(q7.1 hj).1
 simp only [drawB,Bool.and_eq_true,List.all_eq_true,List.mem_range,Bool.or_eq_true,List.contains_eq_mem,decide_eq_true_eq] at h
 rcases h.2 j hjl i hij with hh|hh
 · exact absurd (ancsGo_closed hD ops [] rfl (fun j x hx=>by simp at hx) j i hh) hd
 · rw [hi,hj,h1,h2] at hh
   exact apartP_out hh
end Go.Vc
