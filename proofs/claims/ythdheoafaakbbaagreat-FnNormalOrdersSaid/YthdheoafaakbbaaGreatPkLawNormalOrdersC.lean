import Derived.StillTail
import Derived.ProofKit
import Derived.OpenShut
import Derived.ChangeOld
import Derived.Below
import Derived.Carry
import Derived.Deep.Slices
import Derived.Sort.Grow
import Derived.Laws.IdiomCopy
import Derived.Deep.Draws
import Derived.Shelf.SlGeneric
import Derived.Ground.SlgnProg
import Derived.Shelf.SortG.Plain
import Derived.Shelf.SlicesG.CompactI
import Derived.Shelf.SortG.SortNone
import Derived.Test.YthdheoafaakbbaaGreatProg
import Derived.Test.YthdheoafaakbbaaGreatPkLawNormalOrdersB
set_option linter.unusedVariables false
set_option linter.unusedSimpArgs false
set_option linter.unnecessarySimpa false
set_option maxRecDepth 1000000
set_option maxHeartbeats 16000000
open Array renaming getElem?_eq_some_iff→q0
open Bool renaming and_eq_true→q1,false_eq_true→q2
open List renaming all_eq_true→q3,eq_nil_of_length_eq_zero→q4,getD_eq_getElem?_getD→q5,getElem?_eq_getElem→q6,getElem?_eq_some_iff→q7,getElem_mem→q8,getElem_of_mem→q9,mem_filter→q10,mem_map→q11,mem_of_getElem? →q12,mem_range→q13,nil_append→q14,range_succ→q15,reverse_nil→q16,take_length→q17
open Nat renaming le_refl→q18,le_trans→q19,lt_or_ge→q20,mul_one→q21,not_lt_zero→q22,zero_le→q23
namespace Go.Vc
section
variable {P:Program} {B:Base} {N:Nat} {φ:Nat→LS} {fp:Nat→List Nat} {S:Nat→Prop} {ts:Env} {m:Mem} {a:Act} {w:World}
theorem RS.ext (h:RS B N φ fp S ts m a w) {ts':Env} {m':Mem} (ht:∀t,look ts' t=look ts t) (hm:∀l,lookB m' l=lookB m l):RS B N φ fp S ts' m' a w:=by
 have hk:∀l ver,known m l ver→known m' l ver:=fun l ver ⟨k,h1,h2⟩=>⟨k,(hm l).trans h1,h2⟩
 exact {h with
  kn:=fun l ver hl hk=>by obtain ⟨k,h1,h2⟩:=h.kn l ver hl hk;exact ⟨k,(hm l).trans h1,h2⟩
  tm:=fun t=>by rw [ht t];exact h.tm t
  tl:=fun t l ver hl=>hk l ver (h.tl t l ver (by rw [←ht t];exact hl))
  mNone:=fun l hl=>h.mNone l ((hm l).symm.trans hl)
  mSome:=fun l k hl=>h.mSome l k ((hm l).symm.trans hl)
  bl:=fun l v xs hl l' ver hlv=>hk l' ver (h.bl l v xs ((hm l).symm.trans hl) l' ver hlv)}
variable {os:Nat→Oper} {qs:Nat→Rec} {D D':Nat→Bool} {ops:List Oper} {tr:List (List Nat × List Nat)}
theorem Stt_keep {lo:Nat} {t:Nat}:∀(hi:Nat),lo≤hi→(∀i,lo≤i→i<hi→D i=true→(os i).dst≠some t)→look (Stt os qs D ts m hi).1 t=look (Stt os qs D ts m lo).1 t
 |0,hl,_=>by rw [show lo=0 by omega]
 |hi+1,hl,h=>by
  by_cases e:lo=hi+1
  · rw [e]
  · have ih:=Stt_keep hi (by omega) fun i h1 h2=>h i h1 (by omega)
    simp only [Stt]
    cases hd:D hi with
    |false=>simpa using ih
    |true=>
     simp only [if_true,look_putE]
     rw [if_neg (h hi (by omega) (by omega) hd)]
     exact ih
theorem Stt_keepB {lo:Nat} {l:Nat}:∀(hi:Nat),lo≤hi→(∀i,lo≤i→i<hi→D i=true→l∉(qs i).new.map (·.1))→lookB (Stt os qs D ts m hi).2 l=lookB (Stt os qs D ts m lo).2 l
 |0,hl,_=>by rw [show lo=0 by omega]
 |hi+1,hl,h=>by
  by_cases e:lo=hi+1
  · rw [e]
  · have ih:=Stt_keepB hi (by omega) fun i h1 h2=>h i h1 (by omega)
    simp only [Stt]
    cases hd:D hi with
    |false=>simpa using ih
    |true=>
     simp only [if_true]
     rw [lookB_new (h hi (by omega) (by omega) hd)]
     exact ih
structure Ran (P:Program) (sk:Nat) (ops:List Oper) (os:Nat→Oper) (qs:Nat→Rec) (tr:List (List Nat × List Nat)) (ts:Env) (m:Mem):Prop where
 oe:∀i o,sk≤i→ops[i]? =some o→os i=o
 ya:∀i o,sk≤i→ops[i]? =some o→∃t,tr[i]? =some t∧YA P ops o (qs i) t.1 (Stt os qs (fun _=>true) ts m i).1 (Stt os qs (fun _=>true) ts m i).2∧∀l,l∈(qs i).new.map (·.1)→l∈t.2
def addD (D:Nat→Bool) (j:Nat):Nat→Bool:=fun i=>D i||i==j
theorem Closed.add {j:Nat} {o:Oper} (h:Closed ops D) (ho:ops[j]? =some o) (hp:∀i,i∈preds o→D i=true):Closed ops (addD D j):=by
 intro k o' hk hd i hi
 simp only [addD,Bool.or_eq_true,beq_iff_eq] at hd ⊢
 rcases hd with hd|rfl
 · exact .inl (h k o' hk hd i hi)
 · rw [ho] at hk;injection hk with hk;subst hk;exact .inl (hp i hi)
theorem Ran.turn {sk:Nat} (hR:Ran P sk ops os qs tr ts m) (hB:drawB ops tr=true) (hD:Closed ops D) (hn:∀i,D i=true→i<ops.length) (hsk:∀i,i<sk→D i=true) {j:Nat} {o:Oper} (ho:ops[j]? =some o) (hj:D j=false)
 (hp:∀i,i∈preds o→D i=true):
 (∃rd,YA P ops o (qs j) rd (Stt os qs D ts m ops.length).1 (Stt os qs D ts m ops.length).2)∧
 (∀t,look (Stt os qs (addD D j) ts m ops.length).1 t=look (putE o.dst (qs j).x (Stt os qs D ts m ops.length).1) t)∧
 (∀l,lookB (Stt os qs (addD D j) ts m ops.length).2 l=lookB ((qs j).new++(Stt os qs D ts m ops.length).2) l):=by
 have hjn:j<ops.length:=(q7.1 ho).1
 have hskj:sk≤j:=by
  rcases q20 j sk with h|h
  · rw [hsk j h] at hj;cases hj
  · exact h
 obtain ⟨t,ht,hya,hnew⟩:=hR.ya j o hskj ho
 have hoj:=hR.oe j o hskj ho
 have hget:∀i,sk≤i→i<ops.length→∃(oi:Oper) (ti:List Nat × List Nat),ops[i]? =some oi∧os i=oi∧tr[i]? =some ti∧∀l,l∈(qs i).new.map (·.1)→l∈ti.2:=by
  intro i hsi hi
  have h1:ops[i]? =some ops[i]:=q6 hi
  obtain ⟨ti,h2,_,h3⟩:=hR.ya i _ hsi h1
  exact ⟨_,ti,h1,hR.oe i _ hsi h1,h2,h3⟩
 have early:∀i,i<j→D i=false→∃(oi:Oper) (ti:List Nat × List Nat),os i=oi∧(∀l,l∈(qs i).new.map (·.1)→l∈ti.2)∧ApartI ops oi o ti.1 t.1 ti.2 t.2:=by
  intro i hi hdi
  have hsi:sk≤i:=by
   rcases q20 i sk with h|h
   · rw [hsk i h] at hdi;cases hdi
   · exact h
  obtain ⟨oi,ti,h1,h2,h3,h4⟩:=hget i hsi (by omega)
  refine ⟨oi,ti,h2,h4,drawB_out hB (hD.add ho hp) hi h1 ho h3 ht fun hh=> ?_⟩
  have:=hh (by simp [addD])
  simp only [addD,hdi,Bool.false_or,beq_iff_eq] at this
  omega
 have late:∀i,j<i→D i=true→∃(oi:Oper) (ti:List Nat × List Nat),os i=oi∧(∀l,l∈(qs i).new.map (·.1)→l∈ti.2)∧ApartI ops o oi t.1 ti.1 t.2 ti.2:=by
  intro i hi hdi
  obtain ⟨oi,ti,h1,h2,h3,h4⟩:=hget i (by omega) (hn i hdi)
  refine ⟨oi,ti,h2,h4,drawB_out hB hD hi ho h1 ht h3 fun hh=> ?_⟩
  have:=hh hdi
  rw [hj] at this;cases this
 have hpre:Stt os qs (fun _=>true) ts m j=Stt os qs (fun i=>decide (i<j)) ts m ops.length:=by
  rw [Stt_stop (j:=j) (fun q hq=>by simp;omega) ops.length (by omega)]
  exact Stt_prefix j (q18 _) fun q hq=>by simp [hq]
 rw [hpre] at hya
 refine ⟨⟨t.1,hya.local (fun u hu=> ?_) (fun l hl=> ?_) (fun l hl=> ?_)⟩,fun u=> ?_,fun l=> ?_⟩
 · refine Stt_look ops.length 0 (q23 _) (fun i _ hi hne=> ?_) rfl
   rcases Nat.lt_trichotomy i j with h|h|h
   · simp only [h,decide_true] at hne
     obtain ⟨oi,ti,h1,h2,h3⟩:=early i h (by simpa using hne)
     rw [h1]
     exact fun hd=>h3.t1 _ hd hu
   · subst h;simp [hj] at hne
   · have:decide (i<j)=false:=by simp;omega
     rw [this] at hne
     obtain ⟨oi,ti,h1,h2,h3⟩:=late i h (by simpa using hne)
     rw [h1]
     exact fun hd=>h3.t2 _ hd hu
 · refine Stt_lookB ops.length 0 (q23 _) (fun i _ hi hne=> ?_) rfl
   rcases Nat.lt_trichotomy i j with h|h|h
   · simp only [h,decide_true] at hne
     obtain ⟨oi,ti,h1,h2,h3⟩:=early i h (by simpa using hne)
     exact fun hd=>h3.l1 _ (h2 l hd) hl
   · subst h;simp [hj] at hne
   · have:decide (i<j)=false:=by simp;omega
     rw [this] at hne
     obtain ⟨oi,ti,h1,h2,h3⟩:=late i h (by simpa using hne)
     exact fun hd=>h3.l2 _ (h2 l hd) hl
 · refine Stt_lookB ops.length 0 (q23 _) (fun i _ hi hne=> ?_) rfl
   rcases Nat.lt_trichotomy i j with h|h|h
   · simp only [h,decide_true] at hne
     obtain ⟨oi,ti,h1,h2,h3⟩:=early i h (by simpa using hne)
     exact fun hd=>h3.l3 _ (h2 l hd) (hnew l hl)
   · subst h;simp [hj] at hne
   · have:decide (i<j)=false:=by simp;omega
     rw [this] at hne
     obtain ⟨oi,ti,h1,h2,h3⟩:=late i h (by simpa using hne)
     exact fun hd=>h3.l3 _ (hnew l hl) (h2 l hd)
 · rw [look_putE]
   by_cases hd:o.dst=some u
   · rw [if_pos hd]
     rw [Stt_keep (lo:=j+1) ops.length hjn fun i h1 h2 h3=>by
      have hdi:D i=true:=by
       simp only [addD,Bool.or_eq_true,beq_iff_eq] at h3
       exact h3.resolve_right (by omega)
      obtain ⟨oi,ti,g1,_,g3⟩:=late i h1 hdi
      rw [g1]
      exact g3.t3 u hd]
     simp only [Stt,addD,beq_self_eq_true,Bool.or_true,if_true,look_putE,hoj,hd]
   · rw [if_neg hd]
     refine Stt_look ops.length 0 (q23 _) (fun i _ hi hne=> ?_) rfl
     have:i=j:=by
      by_cases e:i=j
      · exact e
      · have:(i==j)=false:=by simpa using e
        simp [addD,this] at hne
     subst this
     rw [hoj];exact hd
 · by_cases hd:l∈(qs j).new.map (·.1)
   · rw [Stt_keepB (lo:=j+1) ops.length hjn fun i h1 h2 h3=>by
      have hdi:D i=true:=by
       simp only [addD,Bool.or_eq_true,beq_iff_eq] at h3
       exact h3.resolve_right (by omega)
      obtain ⟨oi,ti,g1,g2,g3⟩:=late i h1 hdi
      exact fun hl=>g3.l3 l (hnew l hd) (g2 l hl)]
     simp only [Stt,addD,beq_self_eq_true,Bool.or_true,if_true]
     exact lookB_new_of hd
   · rw [lookB_new hd]
     refine Stt_lookB ops.length 0 (q23 _) (fun i _ hi hne=> ?_) rfl
     have:i=j:=by
      by_cases e:i=j
      · exact e
      · have:(i==j)=false:=by simpa using e
        simp [addD,this] at hne
     subst this
     exact hd
theorem wanted_of (h:RS B N φ fp S ts m a w) (hgs:guardsOk N ops=true) {j:Nat} {o:Oper} (ho:ops[j]? =some o) {b:Bool} (hw:want1 ops o ts=some b):Region.wanted o (yielded ops.toArray a.tmps)=b:=by
 unfold want1 at hw
 unfold Region.wanted
 split at hw
 · rename_i hg;rw [hg];injection hw
 · rename_i i v hg
   rw [hg]
   split at hw
   · rename_i c hl
     have hgo:=q3.1 hgs o (q12 ho)
     rw [hg] at hgo
     have hj:∃d,((ops[i]?).bind (·.dst))=some d∧d<N:=by
      simp only at hgo
      split at hgo
      · rename_i d hd;exact ⟨d,hd,by simpa using hgo⟩
      · cases hgo
     have hy:=yield_of h hl hj
     simp only [hy]
     injection hw
   · rename_i hl
     have hgo:=q3.1 hgs o (q12 ho)
     rw [hg] at hgo
     have hj:∃d,((ops[i]?).bind (·.dst))=some d∧d<N:=by
      simp only at hgo
      split at hgo
      · rename_i d hd;exact ⟨d,hd,by simpa using hgo⟩
      · cases hgo
     have hy:=yield_none h hl hj
     simp only [hy]
     injection hw with hw
   · cases hw
theorem countP_lt {f g:Nat→Bool}:∀(l:List Nat) (j:Nat),j∈l→f j=true→g j=false→(∀i,g i=true→f i=true)→l.countP g<l.countP f
 |x::r,j,hj,hf,hg,h=>by
  have hle:∀l:List Nat,l.countP g≤l.countP f:=fun l=>List.countP_mono_left fun i _ hi=>h i hi
  rw [List.countP_cons,List.countP_cons]
  rcases List.mem_cons.1 hj with rfl|hj
  · have:=hle r
    simp [hf,hg];omega
  · have:=countP_lt r j hj hf hg h
    have h1:=h x
    cases hgx:g x<;>cases hfx:f x<;>simp_all<;>(try omega)
def unl (n:Nat) (listed:Array Bool):Nat:=(List.range n).countP fun i=> !listed.getD i false
theorem any_sound {sk:Nat} {ts0:Env} {m0:Mem} (hR:Ran P sk ops os qs tr ts0 m0) (hB:drawB ops tr=true) (hok:opsOk N ops=true) (hgs:guardsOk N ops=true) {Q:Exit→Act→World→Prop} {K:St}
 (hK:K (Stt os qs (fun _=>true) ts0 m0 ops.length).1 (Stt os qs (fun _=>true) ts0 m0 ops.length).2) (hQ:∀a w,Done B N K a w→Q .normal a w):
 ∀(fuel:Nat) (listed:Array Bool) (φ:Nat→LS) (fp:Nat→List Nat) (S:Nat→Prop) (a:Act) (w:World),listed.size=ops.length→Closed ops (fun i=>listed.getD i false)→(∀i,i<sk→listed.getD i false=true)→unl ops.length listed≤fuel→
  RS B N φ fp S (Stt os qs (fun i=>listed.getD i false) ts0 m0 ops.length).1 (Stt os qs (fun i=>listed.getD i false) ts0 m0 ops.length).2 a w→wpAny P .any ops.toArray Q fuel listed a w:=by
 have hback:∀i o,ops[i]? =some o→∀p,p∈preds o→p<i:=by
  intro i o ho p hp
  simp only [drawB,backB,q1,q3,q13] at hB
  have:=hB.1 i (q7.1 ho).1
  rw [ho] at this
  simpa using q3.1 this p hp
 have hall:∀(listed:Array Bool),listed.size=ops.length→Region.ready .any ops.toArray listed=[]→∀i,i<ops.length→listed.getD i false=true:=by
  intro listed hs hr i
  induction i using Nat.strongRecOn with
  |ind i ih=>
   intro hi
   cases hl:listed.getD i false with
   |true=>rfl
   |false=>
    have ho:ops[i]? =some ops[i]:=q6 hi
    have:i∈Region.ready .any ops.toArray listed:=mem_ready.2 ⟨getD_in (by omega) hl,ops[i],by simpa using ho,fun e he hb=>by
     have hp:e.on∈preds ops[i]:=q11.2 ⟨e,q10.2 ⟨by simpa using he,hb⟩,rfl⟩
     have hlt:=hback i _ ho _ hp
     exact ih e.on hlt (by omega)⟩
    rw [hr] at this;cases this
 have hfin:∀(listed:Array Bool) (φ:Nat→LS) (fp:Nat→List Nat) (S:Nat→Prop) (a:Act) (w:World),(∀i,i<ops.length→listed.getD i false=true)→
  RS B N φ fp S (Stt os qs (fun i=>listed.getD i false) ts0 m0 ops.length).1 (Stt os qs (fun i=>listed.getD i false) ts0 m0 ops.length).2 a w→Q .normal a w:=by
  intro listed φ fp S a w hl h
  have e:Stt os qs (fun i=>listed.getD i false) ts0 m0 ops.length=Stt os qs (fun _=>true) ts0 m0 ops.length:=Stt_prefix ops.length (q18 _) fun q hq=>hl q hq
  rw [e] at h
  exact hQ a w ⟨φ,fp,S,_,_,h,hK⟩
 intro fuel
 induction fuel with
 |zero=>
  intro listed φ fp S a w hs hc hsk hf h
  have hl:∀i,i<ops.length→listed.getD i false=true:=by
   intro i hi
   cases hl:listed.getD i false with
   |true=>rfl
   |false=>
    have h0:unl ops.length listed=0:=Nat.le_zero.1 hf
    have:=List.countP_eq_zero.1 h0 i (q13.2 hi)
    rw [hl] at this;exact absurd rfl this
  refine ⟨?_,hfin listed φ fp S a w hl h⟩
  cases hr:Region.ready .any ops.toArray listed with
  |nil=>rfl
  |cons j r=>
   have hj:j∈Region.ready .any ops.toArray listed:=by rw [hr];exact List.mem_cons_self ..
   obtain ⟨h0,o,ho,_⟩:=mem_ready.1 hj
   have hjn:j<ops.length:=by simpa using (q0.1 ho).1
   have:=hl j hjn
   rw [getD_both h0] at this;cases this
 |succ fuel ih=>
  intro listed φ fp S a w hs hc hsk hf h
  refine ⟨fun hr=>hfin listed φ fp S a w (hall listed hs hr) h,fun j hj=> ?_⟩
  obtain ⟨h0,o,ho,hpre⟩:=mem_ready.1 hj
  have hdj:listed.getD j false=false:=getD_both h0
  have ho':ops[j]? =some o:=by simpa using ho
  have hjn:j<ops.length:=(q7.1 ho').1
  have hp:∀i,i∈preds o→listed.getD i false=true:=by
   intro i hi
   obtain ⟨e,he,rfl⟩:=q11.1 hi
   obtain ⟨he1,he2⟩:=q10.1 he
   exact hpre e (by simpa using he1) he2
  obtain ⟨⟨rd,hya⟩,hlk,hlb⟩:=hR.turn (D:=fun i=>listed.getD i false) hB hc (fun i hi=>by
   rcases q20 i listed.size with h'|h'
   · omega
   · rw [Array.getD_eq_getD_getElem?,Array.getElem?_eq_none h'] at hi;cases hi) hsk ho' hdj hp
  have hD':(fun i=>(listed.setIfInBounds j true).getD i false)=addD (fun i=>listed.getD i false) j:=by
   funext i
   by_cases e:i=j
   · subst e
     simp [addD,hs,hjn]
   · have e2:(i==j)=false:=by simpa using e
     rw [getD_set_ne false (Ne.symm e)]
     simp [addD,e2]
  have hf':unl ops.length (listed.setIfInBounds j true)≤fuel:=by
   have:unl ops.length (listed.setIfInBounds j true)<unl ops.length listed:=by
    refine countP_lt _ j (q13.2 hjn) (by simp only [hdj];rfl) (by simp [hs,hjn]) fun i hi=> ?_
    by_cases e:i=j
    · subst e;rw [hdj];rfl
    · rw [getD_set_ne false (Ne.symm e)] at hi;exact hi
   omega
  have next:∀a' w',Done B N (fun ts m=>ts=putE o.dst (qs j).x (Stt os qs (fun i=>listed.getD i false) ts0 m0 ops.length).1∧m=(qs j).new++(Stt os qs (fun i=>listed.getD i false) ts0 m0 ops.length).2) a' w'→
   wpAny P .any ops.toArray Q fuel (listed.setIfInBounds j true) a' w':=by
   rintro a' w' ⟨φ',fp',S',ts',m',h',rfl,rfl⟩
   refine ih _ φ' fp' S' a' w' (by simp [hs]) (by rw [hD'];exact hc.add ho' hp) (fun i hi=>by
    by_cases e:i=j
    · subst e;simp [hs,hjn]
    · rw [getD_set_ne false (Ne.symm e)];exact hsk i hi) hf' ?_
   rw [hD']
   exact h'.ext hlk hlb
  have hdo:∀d,o.dst=some d→d<N:=by
   intro d hd
   have:=q3.1 hok o (q12 ho')
   rw [hd] at this;simpa using this
  unfold wpOp
  simp only [ho]
  rcases hya with ⟨hw,_,hrun⟩|⟨hw,hx,hnew⟩
  · rw [wanted_of h hgs ho' hw]
    simp only [if_true]
    refine .inl (op_sound h (sOp_of_D (hrun _ (fun _ _=>rfl) (fun _ _=>rfl) (fun x m'=>x=(qs j).x∧m'=(qs j).new++(Stt os qs (fun i=>listed.getD i false) ts0 m0 ops.length).2) ⟨rfl,rfl⟩)) fun v w' hg=> ?_)
    exact next _ _ (step_done hdo hg fun x m' ⟨h1,h2⟩=>⟨by rw [h1],h2⟩)
  · rw [wanted_of h hgs ho' hw]
    simp only [q2,if_false]
    refine next _ _ (step_done (k:=fun x m'=>x= .tup []∧m'=(Stt os qs (fun i=>listed.getD i false) ts0 m0 ops.length).2) hdo (h.gives (x:=.tup []) (.rd _ _ (.tup [] #[] rfl fun i hi=>absurd hi (q22 _))) (fun _ _ hl=>by cases hl) ⟨rfl,rfl,rfl⟩) fun x m' ⟨h1,h2⟩=>⟨by rw [h1,hx],by rw [h2,hnew];rfl⟩)
end
def wrL (m' m:Mem):List Nat:=(m'.take (m'.length-m.length)).map (·.1)
theorem wrL_new (new m:Mem):wrL (new++m) m=new.map (·.1):=by
 unfold wrL
 rw [List.length_append,Nat.add_sub_cancel,List.take_left']
 rfl
def sD (P:Program) (ops:List Oper):List Oper→Env→Mem→List (List Nat × List Nat)→St→Prop
 | [],ts,m,tr,k=>drawB ops tr.reverse=true∧k ts m
 |o::r,ts,m,tr,k=>match o.guard with
  |none=>sOpD P (o.dst.getD 0) o.op ts m fun x m'=>sD P ops r (putE o.dst x ts) m' ((rdL o.op ts,wrL m' m)::tr) k
  |some (j,want)=>sGuard want (look ts (dstOf ops j)) (sOpD P (o.dst.getD 0) o.op ts m fun x m'=>sD P ops r (putE o.dst x ts) m' ((rdL o.op ts,wrL m' m)::tr) k)
    (sD P ops r (putE o.dst (.tup []) ts) m (([],[])::tr) k)
theorem mem_keys {new:Mem} {l:Nat} (h:lookB new l≠none):l∈new.map (·.1):=by
 induction new with
 |nil=>exact absurd rfl h
 |cons p r ih=>
  obtain ⟨k,v⟩:=p
  rw [lookB_cons] at h
  by_cases e:k=l
  · simp [e]
  · rw [if_neg e] at h
    exact List.mem_cons_of_mem _ (ih h)
theorem Stt_qs {os:Nat→Oper} {qs qs':Nat→Rec} {D:Nat→Bool} {ts:Env} {m:Mem}:∀(i:Nat),(∀j,j<i→qs j=qs' j)→Stt os qs D ts m i=Stt os qs' D ts m i
 |0,_=>rfl
 |i+1,h=>by simp only [Stt];rw [Stt_qs i fun j hj=>h j (by omega),h i (by omega)]
def Upto (P:Program) (sk:Nat) (ops:List Oper) (os:Nat→Oper) (qs:Nat→Rec) (tr:List (List Nat × List Nat)) (ts:Env) (m:Mem) (n:Nat):Prop:=
 ∀i o,sk≤i→i<n→ops[i]? =some o→∃t,tr[i]? =some t∧YA P ops o (qs i) t.1 (Stt os qs (fun _=>true) ts m i).1 (Stt os qs (fun _=>true) ts m i).2∧∀l,l∈(qs i).new.map (·.1)→l∈t.2
theorem sD_out {P:Program} {sk:Nat} {ops:List Oper} {os:Nat→Oper} (hos:∀i o,sk≤i→ops[i]? =some o→os i=o) {ts0:Env} {m0:Mem} {K:St}:
 ∀(r:List Oper) (i:Nat) (qs:Nat→Rec) (tr:List (List Nat × List Nat)) (ts:Env) (m:Mem),ops.drop i=r→sk≤i→i≤ops.length→tr.length=i→Stt os qs (fun _=>true) ts0 m0 i=(ts,m)→Upto P sk ops os qs tr.reverse ts0 m0 i→sD P ops r ts m tr K→
  ∃qs' tr,Ran P sk ops os qs' tr ts0 m0∧drawB ops tr=true∧K (Stt os qs' (fun _=>true) ts0 m0 ops.length).1 (Stt os qs' (fun _=>true) ts0 m0 ops.length).2∧∀j,j<i→qs' j=qs j
 | [],i,qs,tr,ts,m,hl,hski,hin,ht,hs,hu,hk=>by
   have hn:ops.length≤i:=by
    have:=congrArg List.length hl;simp at this;omega
   have e:i=ops.length:=by omega
   subst e
   exact ⟨qs,tr.reverse,⟨hos,fun j o hsj ho=>hu j o hsj (q7.1 ho).1 ho⟩,hk.1,by rw [hs];exact hk.2,fun _ _=>rfl⟩
 |o::r,i,qs,tr,ts,m,hl,hski,hin,ht,hs,hu,hk=>by
  have hi:i<ops.length:=by
   have:=congrArg List.length hl;simp at this;omega
  have hoi:ops[i]? =some o:=by
   have:=congrArg (·[0]?) hl
   simpa using this
  have hr:ops.drop (i+1)=r:=by
   have:=congrArg List.tail hl
   simpa using this
  have go:∀(q:Rec) (t:List Nat × List Nat),YA P ops o q t.1 ts m→(∀l,l∈q.new.map (·.1)→l∈t.2)→sD P ops r (putE o.dst q.x ts) (q.new++m) (t::tr) K→
   ∃qs' tr,Ran P sk ops os qs' tr ts0 m0∧drawB ops tr=true∧K (Stt os qs' (fun _=>true) ts0 m0 ops.length).1 (Stt os qs' (fun _=>true) ts0 m0 ops.length).2∧∀j,j<i→qs' j=qs j:=by
   intro q t hya hnew hk
   have hq:∀j,j<i→qs j=(fun k=>if k=i then q else qs k) j:=fun j hj=>by simp;intro e;omega
   have hst:∀j,j≤i→Stt os (fun k=>if k=i then q else qs k) (fun _=>true) ts0 m0 j=Stt os qs (fun _=>true) ts0 m0 j:=fun j hj=>(Stt_qs j fun k hk=>hq k (by omega)).symm
   suffices hh:∃qs' tr,Ran P sk ops os qs' tr ts0 m0∧drawB ops tr=true∧K (Stt os qs' (fun _=>true) ts0 m0 ops.length).1 (Stt os qs' (fun _=>true) ts0 m0 ops.length).2∧∀j,j<i+1→qs' j=(fun k=>if k=i then q else qs k) j by
    obtain ⟨qs',tr',g1,g2,g3,g4⟩:=hh
    exact ⟨qs',tr',g1,g2,g3,fun j hj=>(g4 j (by omega)).trans (hq j hj).symm⟩
   refine sD_out hos r (i+1) (fun k=>if k=i then q else qs k) (t::tr) _ _ hr (by omega) hi (by simp [ht]) ?_ ?_ hk
   · simp only [Stt,if_true,hst i (q18 _),hs,hos i o hski hoi]
   · intro j oj hsj hj hoj
     rw [hst j (by omega)]
     rw [List.reverse_cons]
     by_cases e:j=i
     · subst e
       rw [hoi] at hoj;injection hoj with hoj;subst hoj
       refine ⟨t,by rw [List.getElem?_append_right (by simp [ht])];simp [ht],?_,by simpa using hnew⟩
       rw [hs]
       simpa using hya
     · obtain ⟨t',h1,h2,h3⟩:=hu j oj hsj (by omega) hoj
       refine ⟨t',by rw [List.getElem?_append_left (by simp [ht];omega)];exact h1,?_,?_⟩
       · simpa [e] using h2
       · simpa [e] using h3
  have run:want1 ops o ts=some true→sOpD P (o.dst.getD 0) o.op ts m (fun x m'=>sD P ops r (putE o.dst x ts) m' ((rdL o.op ts,wrL m' m)::tr) K)→
   ∃qs' tr,Ran P sk ops os qs' tr ts0 m0∧drawB ops tr=true∧K (Stt os qs' (fun _=>true) ts0 m0 ops.length).1 (Stt os qs' (fun _=>true) ts0 m0 ops.length).2∧∀j,j<i→qs' j=qs j:=by
   intro hw hk
   obtain ⟨x,new,h1,h2⟩:=sOpD_det P _ _ _ _ _ hk
   refine go ⟨x,new⟩ (rdL o.op ts,wrL (new++m) m) (.inl ⟨hw,fun _ h=>h,fun m' hm hm' k' hk'=>h2 m' (fun l hl=>hm l ?_) (fun l hl=>hm' l (mem_keys hl)) k' hk'⟩) (fun l hl=>by rw [wrL_new];exact hl) h1
   obtain ⟨y,hy,ver,hv⟩:=hl
   exact List.mem_flatMap.2 ⟨y,hy,q11.2 ⟨(l,ver),hv,rfl⟩⟩
  cases hg:o.guard with
  |none=>
   simp only [sD,hg] at hk
   exact run (by simp [want1,hg]) hk
  |some jw=>
   obtain ⟨j,want⟩:=jw
   simp only [sD,hg] at hk
   unfold sGuard at hk
   split at hk
   · rename_i c hy
     by_cases hc:c=want
     · subst hc
       exact run (by simp [want1,hg,hy]) (hk.1 rfl)
     · exact go ⟨.tup [],[]⟩ ([],[]) (.inr ⟨by simp [want1,hg,hy,hc],rfl,rfl⟩) (fun l hl=>by simp at hl) (hk.2 hc)
   · rename_i hy
     exact go ⟨.tup [],[]⟩ ([],[]) (.inr ⟨by simp [want1,hg,hy],rfl,rfl⟩) (fun l hl=>by simp at hl) hk
   · exact hk.elim
theorem Later.draw {P:Program} {N i:Nat} {ops:List Oper} {ts:Env} {m:Mem} {Q:Post} {q:Pack (Code.region i ⟨ops⟩ true,Q)} (hm:P.follows .mixedOrders=true) (hok:(opsOk N ops&&guardsOk N ops)=true)
 (h:sD P ops ops ts m [] (Q .normal)):Later P N (.region i ⟨ops⟩ true) ts m Q q:=by
 refine ⟨fun B φ fp S a w hRS=> ?_⟩
 simp only [q1] at hok
 obtain ⟨qs,tr,hR,hB,hK,_⟩:=sD_out (os:=fun i=>(ops[i]?).getD default) (ts0:=ts) (m0:=m) (sk:=0) (fun i o _ ho=>by simp [ho]) ops 0 (fun _=>⟨.undef,[]⟩) [] ts m rfl (q18 _) (q23 _) rfl rfl (fun i o _ hi=>absurd hi (q22 _)) h
 refine wp_region_any hm ?_
 refine any_sound (B:=B) (N:=N) hR hB hok.1 hok.2 hK (fun a w hd=>hd) _ _ φ fp S a _ (by simp) ?_ (fun i hi=>absurd hi (q22 _)) ?_ ?_
 · intro j o _ hd
   have hd:(Array.replicate (List.toArray ops).size false).getD j false=true:=hd
   rw [getD_replicate_false] at hd;cases hd
 · exact q19 List.countP_le_length (by simp)
 · have e:(fun i=>(Array.replicate (List.toArray ops).size false).getD i false)=fun _=>false:=funext fun i=>getD_replicate_false _ _
   have e2:=Stt_stop (os:=fun i=>(ops[i]?).getD default) (qs:=qs) (D:=fun _=>false) (ts:=ts) (m:=m) (j:=0) (fun _ _=>rfl) ops.length (q23 _)
   show RS B N φ fp S (Stt _ qs (fun i=>(Array.replicate (List.toArray ops).size false).getD i false) ts m ops.length).1 (Stt _ qs (fun i=>(Array.replicate (List.toArray ops).size false).getD i false) ts m ops.length).2 a {w with drawn:=w.drawn+1}
   rw [e,e2]
   exact hRS.sameHeap rfl ⟨rfl,rfl,rfl⟩
end Go.Vc
namespace Go.Vc
section
variable (P:Program) (d:Nat) (ts:Env) (m:Mem) (k:AV→Mem→Prop)
theorem sOp_move (x:Operand):sOp P d (.move x) ts m k=k (ev ts x) m:=rfl
theorem sOp_assign (x:Operand):sOp P d (.assign x) ts m k=k (ev ts x) m:=rfl
theorem sOp_pick (c a b:Operand):sOp P d (.pick c a b) ts m k=sPick (ev ts c) (ev ts a) (ev ts b) fun v=>k v m:=rfl
theorem sOp_alloc (t:TypeId):sOp P d (.alloc t) ts m k=sTI (tiOf P t) fun ti=>sBox d ti.zero m k:=rfl
theorem sOp_box (t:TypeId) (x:Operand):sOp P d (.box t x) ts m k=sBox d (ev ts x) m k:=rfl
theorem sOp_build (t:TypeId) (l:List (Nat × Operand)):sOp P d (.build t ⟨l⟩) ts m k=sTI (tiOf P t) fun ti=>sSt ti.kind (sBuild ti (l.map fun p=>(p.1,ev ts p.2)) fun v=>k v m):=rfl
theorem sOp_buildSlice (t:TypeId) (n:Nat) (l:List (Nat × Operand)):sOp P d (.buildSlice t n ⟨l⟩) ts m k=sTI (tiOf P t) fun tt=>sSl tt.kind (sTI (tiOf P tt.elem) fun ti=>sBuildSliceX ti d n (l.map fun p=>(p.1,ev ts p.2)) m k):=rfl
theorem sOp_load (t:TypeId) (x:Operand):sOp P d (.load t x) ts m k=sTI (tiOf P t) fun ti=>sLoadX ti.agg ti.size (ev ts x) m k:=rfl
theorem sOp_store (t:TypeId) (p y:Operand):sOp P d (.store t p y) ts m k=sTI (tiOf P t) fun ti=>sStoreY ti.size (ev ts p) (ev ts y) m fun m'=>k .undef m':=rfl
theorem sOp_nilCheck (x:Operand):sOp P d (.nilCheck x) ts m k=sNil m (ev ts x) fun v=>k v m:=rfl
theorem sOp_binOp (op:BinOp) (t t2:TypeId) (x y:Operand):sOp P d (.binOp op t x y t2) ts m k=sTI (tiOf P t) fun ti=>sBinS P t op (ev ts x) (ev ts y) (fun v=>k v m) (sBinN op ti.kind (ev ts x) (ev ts y) (cst y) m fun v=>k v m):=rfl
theorem sOp_not (t:TypeId) (x:Operand):sOp P d (.unOp .not t x) ts m k=sNot (ev ts x) fun v=>k v m:=rfl
theorem sOp_neg (t:TypeId) (x:Operand):sOp P d (.unOp .neg t x) ts m k=sNeg (ev ts x) fun v=>k v m:=rfl
theorem sOp_convert (s t:TypeId) (x:Operand):sOp P d (.convert s t x) ts m k=sTI (tiOf P s) fun si=>sTI (tiOf P t) fun ti=>sConvY P si ti d (ev ts x) m k:=rfl
theorem sOp_makeSlice (t:TypeId) (l c:Operand):sOp P d (.makeSlice t l c) ts m k=sTI (tiOf P t) fun tt=>sSl tt.kind (sTI (tiOf P tt.elem) fun ti=>sMake ti d (ev ts l) (ev ts c) m k):=rfl
theorem sOp_slice (t:TypeId) (x:Operand) (lo hi:Option Operand):sOp P d (.slice t x lo hi none) ts m k=sTI (tiOf P t) fun tt=>sSlK P tt (ev ts x) (lo.map (ev ts)) (hi.map (ev ts)) m fun v=>k v m:=rfl
theorem sOp_fieldAddr (t:TypeId) (x:Operand) (f:Nat):sOp P d (.fieldAddr t x f) ts m k=sTI (tiOf P t) fun ti=>sFld ti.fields[f]? fun fd=>0<fd.2.1∧sField fd.1 m (ev ts x) fun v=>k v m:=rfl
theorem sOp_indexAddr (t:TypeId) (x i:Operand):sOp P d (.indexAddr t x i) ts m k=sTI (tiOf P t) fun tt=>sSl tt.kind (sTI (tiOf P tt.elem) fun ti=>sIdxX ti.sh m (ev ts x) (ev ts i) fun v=>k v m):=rfl
theorem sOp_extract (x:Operand) (i:Nat):sOp P d (.extract x i) ts m k=sTup i (ev ts x) fun v=>k v m:=rfl
theorem sOp_len (t:TypeId) (r:List TypeId) (x:Operand):sOp P d (.call ⟨.builtin .len,⟨[x]⟩,⟨t::r⟩⟩) ts m k=sTI (tiOf P t) fun ti=>sLen ti.kind m (ev ts x) fun v=>k v m:=rfl
theorem sOp_max (tys:Array TypeId) (x y:Operand):sOp P d (.call ⟨.builtin .max,⟨[x,y]⟩,tys⟩) ts m k=sMax (ev ts x) (ev ts y) fun v=>k v m:=rfl
theorem sOp_min (tys:Array TypeId) (x y:Operand):sOp P d (.call ⟨.builtin .min,⟨[x,y]⟩,tys⟩) ts m k=sMin (ev ts x) (ev ts y) fun v=>k v m:=rfl
theorem sOp_min3 (tys:Array TypeId) (x y z:Operand):sOp P d (.call ⟨.builtin .min,⟨[x,y,z]⟩,tys⟩) ts m k=sMin (ev ts x) (ev ts y) fun u=>sMin u (ev ts z) fun v=>k v m:=rfl
theorem sOp_append (tys:List TypeId) (x y:Operand):sOp P d (.call ⟨.builtin .append,⟨[x,y]⟩,⟨tys⟩⟩) ts m k=sAppTX P tys d (ev ts x) (ev ts y) m k:=rfl
theorem sOp_call (f:FuncId) (xs:List Operand) (tys:Array TypeId):sOp P d (.call ⟨.value (.func f),⟨xs⟩,tys⟩) ts m k=sCall P f d (xs.map (ev ts)) m k:=rfl
theorem sOp_callv (t:Nat) (xs:List Operand) (tys:Array TypeId):sOp P d (.call ⟨.value (.tmp t),⟨xs⟩,tys⟩) ts m k=sCallV P (look ts t) d (xs.map (ev ts)) m k:=rfl
theorem sOp_makeFunc (f:FuncId) (l:List Operand):sOp P d (.makeFunc (.func f) ⟨[]⟩ ⟨l⟩) ts m k=(([]:List Operand)=[]∧k (.clo f (l.map (ev ts))) m):=rfl
theorem sOpD_move (x:Operand):sOpD P d (.move x) ts m k=k (ev ts x) m:=rfl
theorem sOpD_assign (x:Operand):sOpD P d (.assign x) ts m k=k (ev ts x) m:=rfl
theorem sOpD_pick (c a b:Operand):sOpD P d (.pick c a b) ts m k=sPick (ev ts c) (ev ts a) (ev ts b) fun v=>k v m:=rfl
theorem sOpD_build (t:TypeId) (l:List (Nat × Operand)):sOpD P d (.build t ⟨l⟩) ts m k=sTI (tiOf P t) fun ti=>sSt ti.kind (sBuild ti (l.map fun p=>(p.1,ev ts p.2)) fun v=>k v m):=rfl
theorem sOpD_buildSlice (t:TypeId) (n:Nat) (l:List (Nat × Operand)):sOpD P d (.buildSlice t n ⟨l⟩) ts m k=sTI (tiOf P t) fun tt=>sSl tt.kind (sTI (tiOf P tt.elem) fun ti=>sBuildSliceX ti d n (l.map fun p=>(p.1,ev ts p.2)) m k):=rfl
theorem sOpD_load (t:TypeId) (x:Operand):sOpD P d (.load t x) ts m k=sTI (tiOf P t) fun ti=>sLoad ti.agg ti.size (ev ts x) m k:=rfl
theorem sOpD_store (t:TypeId) (p y:Operand):sOpD P d (.store t p y) ts m k=sTI (tiOf P t) fun ti=>sStore ti.size (ev ts p) (ev ts y) m fun m'=>k .undef m':=rfl
theorem sOpD_nilCheck (x:Operand):sOpD P d (.nilCheck x) ts m k=sNil m (ev ts x) fun v=>k v m:=rfl
theorem sOpD_binOp (op:BinOp) (t t2:TypeId) (x y:Operand):sOpD P d (.binOp op t x y t2) ts m k=sTI (tiOf P t) fun ti=>sBinS P t op (ev ts x) (ev ts y) (fun v=>k v m) (sBin op ti.kind (ev ts x) (ev ts y) fun v=>k v m):=rfl
theorem sOpD_not (t:TypeId) (x:Operand):sOpD P d (.unOp .not t x) ts m k=sNot (ev ts x) fun v=>k v m:=rfl
theorem sOpD_convert (s t:TypeId) (x:Operand):sOpD P d (.convert s t x) ts m k=sTI (tiOf P s) fun si=>sTI (tiOf P t) fun ti=>sConvY P si ti d (ev ts x) m k:=rfl
theorem sOpD_makeSlice (t:TypeId) (l c:Operand):sOpD P d (.makeSlice t l c) ts m k=sTI (tiOf P t) fun tt=>sSl tt.kind (sTI (tiOf P tt.elem) fun ti=>sMake ti d (ev ts l) (ev ts c) m k):=rfl
theorem sOpD_slice (t:TypeId) (x:Operand) (lo hi:Option Operand):sOpD P d (.slice t x lo hi none) ts m k=sTI (tiOf P t) fun tt=>sSlK P tt (ev ts x) (lo.map (ev ts)) (hi.map (ev ts)) m fun v=>k v m:=rfl
theorem sOpD_fieldAddr (t:TypeId) (x:Operand) (f:Nat):sOpD P d (.fieldAddr t x f) ts m k=sTI (tiOf P t) fun ti=>sFld ti.fields[f]? fun fd=>0<fd.2.1∧sField fd.1 m (ev ts x) fun v=>k v m:=rfl
theorem sOpD_indexAddr (t:TypeId) (x i:Operand):sOpD P d (.indexAddr t x i) ts m k=sTI (tiOf P t) fun tt=>sSl tt.kind (sTI (tiOf P tt.elem) fun ti=>sIdx ti.sh m (ev ts x) (ev ts i) fun v=>k v m):=rfl
theorem sOpD_extract (x:Operand) (i:Nat):sOpD P d (.extract x i) ts m k=sTup i (ev ts x) fun v=>k v m:=rfl
theorem sOpD_len (t:TypeId) (r:List TypeId) (x:Operand):sOpD P d (.call ⟨.builtin .len,⟨[x]⟩,⟨t::r⟩⟩) ts m k=sTI (tiOf P t) fun ti=>sLen ti.kind m (ev ts x) fun v=>k v m:=rfl
theorem sOpD_max (tys:Array TypeId) (x y:Operand):sOpD P d (.call ⟨.builtin .max,⟨[x,y]⟩,tys⟩) ts m k=sMax (ev ts x) (ev ts y) fun v=>k v m:=rfl
theorem sOpD_append (tys:List TypeId) (x y:Operand):sOpD P d (.call ⟨.builtin .append,⟨[x,y]⟩,⟨tys⟩⟩) ts m k=sAppTX P tys d (ev ts x) (ev ts y) m k:=rfl
theorem sOpD_call (f:FuncId) (xs:List Operand) (tys:Array TypeId):sOpD P d (.call ⟨.value (.func f),⟨xs⟩,tys⟩) ts m k=sCallD P f d (xs.map (ev ts)) m k:=rfl
theorem sOpD_callv (t:Nat) (xs:List Operand) (tys:Array TypeId):sOpD P d (.call ⟨.value (.tmp t),⟨xs⟩,tys⟩) ts m k=sCallDV P (look ts t) d (xs.map (ev ts)) m k:=rfl
def Br (c:Bool) (a b:Prop) (_:Pack (a,b)):Prop:=(c=true→a)∧(c=false→b)
theorem Br_true (a b:Prop) {q:Pack (a,b)}:Br true a b q=a:=by simp [Br]
theorem Br_false (a b:Prop) {q:Pack (a,b)}:Br false a b q=b:=by simp [Br]
theorem Br.intro {c:Bool} {a b:Prop} {q:Pack (a,b)} (ha:c=true→a) (hb:c=false→b):Br c a b q:=⟨ha,hb⟩
theorem sIf_eq' (c:Bool) (a b:Prop):sIf (.val (.bool c)) a b=Br c a b ⟨⟩:=rfl
theorem sPick_eq' (c:Bool) (a b:AV) (k:AV→Prop):sPick (.val (.bool c)) a b k=Br c (k a) (k b) ⟨⟩:=rfl
theorem sGuard_t' (c:Bool) (a b:Prop):sGuard true (.val (.bool c)) a b=Br c a b ⟨⟩:=by simp [sGuard,Br]
theorem sGuard_f' (c:Bool) (a b:Prop):sGuard false (.val (.bool c)) a b=Br c b a ⟨⟩:=by simp only [sGuard_f,Br];exact propext and_comm
variable (ops:List Oper) (tr:List (List Nat × List Nat)) (K:St)
def goOn (r:List Oper) (_:Pack (P,ops,r,d,ts,K)) (x:AV) (m':Mem):Prop:=sL P ops r ((d,x)::ts) m' K
def goQ (r:List Oper) (_:Pack (P,ops,r,ts,K)) (_:AV) (m':Mem):Prop:=sL P ops r ts m' K
def goD (op:Op) (r:List Oper) (_:Pack (P,ops,r,d,op,ts,m,tr,K)) (x:AV) (m':Mem):Prop:=sD P ops r ((d,x)::ts) m' ((rdL op ts,wrL m' m)::tr) K
def goDQ (op:Op) (r:List Oper) (_:Pack (P,ops,r,op,ts,m,tr,K)) (_:AV) (m':Mem):Prop:=sD P ops r ts m' ((rdL op ts,wrL m' m)::tr) K
theorem sL_nil':sL P ops [] ts m K=K ts m:=rfl
theorem sL_plain' (op:Op) (ty:TypeId) (p:String) (e:Array Edge) (r:List Oper):sL P ops (⟨some d,op,ty,p,e,none⟩::r) ts m K=sOp P d op ts m (goOn P d ts ops K r ⟨⟩):=rfl
theorem sL_quiet' (op:Op) (ty:TypeId) (p:String) (e:Array Edge) (r:List Oper):sL P ops (⟨none,op,ty,p,e,none⟩::r) ts m K=sOp P 0 op ts m (goQ P ts ops K r ⟨⟩):=rfl
theorem sL_guard' (op:Op) (ty:TypeId) (p:String) (e:Array Edge) (j:Nat) (w:Bool) (r:List Oper):
 sL P ops (⟨some d,op,ty,p,e,some (j,w)⟩::r) ts m K=sGuard w (look ts (dstOf ops j)) (sOp P d op ts m (goOn P d ts ops K r ⟨⟩)) (sL P ops r ((d,.tup [])::ts) m K):=rfl
theorem sD_nil:sD P ops [] ts m tr K=(drawB ops tr.reverse=true∧K ts m):=rfl
theorem sD_plain (op:Op) (ty:TypeId) (p:String) (e:Array Edge) (r:List Oper):
 sD P ops (⟨some d,op,ty,p,e,none⟩::r) ts m tr K=sOpD P d op ts m (goD P d ts m ops tr K op r ⟨⟩):=rfl
theorem sD_quiet (op:Op) (ty:TypeId) (p:String) (e:Array Edge) (r:List Oper):
 sD P ops (⟨none,op,ty,p,e,none⟩::r) ts m tr K=sOpD P 0 op ts m (goDQ P ts m ops tr K op r ⟨⟩):=rfl
theorem sD_guard (op:Op) (ty:TypeId) (p:String) (e:Array Edge) (j:Nat) (w:Bool) (r:List Oper):
 sD P ops (⟨some d,op,ty,p,e,some (j,w)⟩::r) ts m tr K=sGuard w (look ts (dstOf ops j)) (sOpD P d op ts m (goD P d ts m ops tr K op r ⟨⟩))
  (sD P ops r ((d,.tup [])::ts) m (([],[])::tr) K):=rfl
theorem goQ_undef1 (g:Nat × Blk) (m':Mem) (r:List Oper) {q:Pack (P,ops,r,ts,K)}:goQ P ts ops K r q (.undef) (g::m')=sL P ops r ts (g::m') K:=rfl
theorem goDQ_undef1 (g:Nat × Blk) (m':Mem) (r:List Oper) (op:Op) {q:Pack (P,ops,r,op,ts,m,tr,K)}:goDQ P ts m ops tr K op r q (.undef) (g::m')=sD P ops r ts (g::m') ((rdL op ts,wrL (g::m') m)::tr) K:=rfl
theorem goOn_val0 (v:Value) (r:List Oper) {q:Pack (P,ops,r,d,ts,K)}:goOn P d ts ops K r q (.val v) []=sL P ops r ((d,.val v)::ts) [] K:=rfl
theorem goD_val0 (v:Value) (r:List Oper) (op:Op) {q:Pack (P,ops,r,d,op,ts,m,tr,K)}:goD P d ts m ops tr K op r q (.val v) []=sD P ops r ((d,.val v)::ts) [] ((rdL op ts,wrL [] m)::tr) K:=rfl
theorem goOn_val1 (v:Value) (g:Nat × Blk) (m':Mem) (r:List Oper) {q:Pack (P,ops,r,d,ts,K)}:goOn P d ts ops K r q (.val v) (g::m')=sL P ops r ((d,.val v)::ts) (g::m') K:=rfl
theorem goD_val1 (v:Value) (g:Nat × Blk) (m':Mem) (r:List Oper) (op:Op) {q:Pack (P,ops,r,d,op,ts,m,tr,K)}:goD P d ts m ops tr K op r q (.val v) (g::m')=sD P ops r ((d,.val v)::ts) (g::m') ((rdL op ts,wrL (g::m') m)::tr) K:=rfl
theorem goOn_arr0 (sh:Sh) (xs:List AV) (r:List Oper) {q:Pack (P,ops,r,d,ts,K)}:goOn P d ts ops K r q (.arr sh xs) []=sL P ops r ((d,.arr sh xs)::ts) [] K:=rfl
theorem goD_arr0 (sh:Sh) (xs:List AV) (r:List Oper) (op:Op) {q:Pack (P,ops,r,d,op,ts,m,tr,K)}:goD P d ts m ops tr K op r q (.arr sh xs) []=sD P ops r ((d,.arr sh xs)::ts) [] ((rdL op ts,wrL [] m)::tr) K:=rfl
theorem goOn_arr1 (sh:Sh) (xs:List AV) (g:Nat × Blk) (m':Mem) (r:List Oper) {q:Pack (P,ops,r,d,ts,K)}:goOn P d ts ops K r q (.arr sh xs) (g::m')=sL P ops r ((d,.arr sh xs)::ts) (g::m') K:=rfl
theorem goD_arr1 (sh:Sh) (xs:List AV) (g:Nat × Blk) (m':Mem) (r:List Oper) (op:Op) {q:Pack (P,ops,r,d,op,ts,m,tr,K)}:goD P d ts m ops tr K op r q (.arr sh xs) (g::m')=sD P ops r ((d,.arr sh xs)::ts) (g::m') ((rdL op ts,wrL (g::m') m)::tr) K:=rfl
theorem goOn_agg0 (xs:List AV) (r:List Oper) {q:Pack (P,ops,r,d,ts,K)}:goOn P d ts ops K r q (.agg xs) []=sL P ops r ((d,.agg xs)::ts) [] K:=rfl
theorem goD_agg0 (xs:List AV) (r:List Oper) (op:Op) {q:Pack (P,ops,r,d,op,ts,m,tr,K)}:goD P d ts m ops tr K op r q (.agg xs) []=sD P ops r ((d,.agg xs)::ts) [] ((rdL op ts,wrL [] m)::tr) K:=rfl
theorem goOn_agg1 (xs:List AV) (g:Nat × Blk) (m':Mem) (r:List Oper) {q:Pack (P,ops,r,d,ts,K)}:goOn P d ts ops K r q (.agg xs) (g::m')=sL P ops r ((d,.agg xs)::ts) (g::m') K:=rfl
theorem goD_agg1 (xs:List AV) (g:Nat × Blk) (m':Mem) (r:List Oper) (op:Op) {q:Pack (P,ops,r,d,op,ts,m,tr,K)}:goD P d ts m ops tr K op r q (.agg xs) (g::m')=sD P ops r ((d,.agg xs)::ts) (g::m') ((rdL op ts,wrL (g::m') m)::tr) K:=rfl
theorem goOn_tup0 (xs:List AV) (r:List Oper) {q:Pack (P,ops,r,d,ts,K)}:goOn P d ts ops K r q (.tup xs) []=sL P ops r ((d,.tup xs)::ts) [] K:=rfl
theorem goOn_tup1 (xs:List AV) (g:Nat × Blk) (m':Mem) (r:List Oper) {q:Pack (P,ops,r,d,ts,K)}:goOn P d ts ops K r q (.tup xs) (g::m')=sL P ops r ((d,.tup xs)::ts) (g::m') K:=rfl
theorem goD_tup1 (xs:List AV) (g:Nat × Blk) (m':Mem) (r:List Oper) (op:Op) {q:Pack (P,ops,r,d,op,ts,m,tr,K)}:goD P d ts m ops tr K op r q (.tup xs) (g::m')=sD P ops r ((d,.tup xs)::ts) (g::m') ((rdL op ts,wrL (g::m') m)::tr) K:=rfl
theorem goOn_ref1 (l v i n:Nat) (g:Nat × Blk) (m':Mem) (r:List Oper) {q:Pack (P,ops,r,d,ts,K)}:goOn P d ts ops K r q (.ref l v i n) (g::m')=sL P ops r ((d,.ref l v i n)::ts) (g::m') K:=rfl
theorem goD_ref1 (l v i n:Nat) (g:Nat × Blk) (m':Mem) (r:List Oper) (op:Op) {q:Pack (P,ops,r,d,op,ts,m,tr,K)}:goD P d ts m ops tr K op r q (.ref l v i n) (g::m')=sD P ops r ((d,.ref l v i n)::ts) (g::m') ((rdL op ts,wrL (g::m') m)::tr) K:=rfl
theorem goOn_ptr1 (l v i j:Nat) (g:Nat × Blk) (m':Mem) (r:List Oper) {q:Pack (P,ops,r,d,ts,K)}:goOn P d ts ops K r q (.ptr l v i j) (g::m')=sL P ops r ((d,.ptr l v i j)::ts) (g::m') K:=rfl
theorem goD_ptr1 (l v i j:Nat) (g:Nat × Blk) (m':Mem) (r:List Oper) (op:Op) {q:Pack (P,ops,r,d,op,ts,m,tr,K)}:goD P d ts m ops tr K op r q (.ptr l v i j) (g::m')=sD P ops r ((d,.ptr l v i j)::ts) (g::m') ((rdL op ts,wrL (g::m') m)::tr) K:=rfl
theorem goOn_eptr0 (sh:Sh) (xs:List AV) (i j:Nat) (r:List Oper) {q:Pack (P,ops,r,d,ts,K)}:goOn P d ts ops K r q (.eptr sh xs i j) []=sL P ops r ((d,.eptr sh xs i j)::ts) [] K:=rfl
theorem goD_eptr0 (sh:Sh) (xs:List AV) (i j:Nat) (r:List Oper) (op:Op) {q:Pack (P,ops,r,d,op,ts,m,tr,K)}:goD P d ts m ops tr K op r q (.eptr sh xs i j) []=sD P ops r ((d,.eptr sh xs i j)::ts) [] ((rdL op ts,wrL [] m)::tr) K:=rfl
theorem goOn_eptr1 (sh:Sh) (xs:List AV) (i j:Nat) (g:Nat × Blk) (m':Mem) (r:List Oper) {q:Pack (P,ops,r,d,ts,K)}:goOn P d ts ops K r q (.eptr sh xs i j) (g::m')=sL P ops r ((d,.eptr sh xs i j)::ts) (g::m') K:=rfl
theorem goD_eptr1 (sh:Sh) (xs:List AV) (i j:Nat) (g:Nat × Blk) (m':Mem) (r:List Oper) (op:Op) {q:Pack (P,ops,r,d,op,ts,m,tr,K)}:goD P d ts m ops tr K op r q (.eptr sh xs i j) (g::m')=sD P ops r ((d,.eptr sh xs i j)::ts) (g::m') ((rdL op ts,wrL (g::m') m)::tr) K:=rfl
theorem goOn_clo0 (f:FuncId) (xs:List AV) (r:List Oper) {q:Pack (P,ops,r,d,ts,K)}:goOn P d ts ops K r q (.clo f xs) []=sL P ops r ((d,.clo f xs)::ts) [] K:=rfl
theorem goOn_clo1 (f:FuncId) (xs:List AV) (g:Nat × Blk) (m':Mem) (r:List Oper) {q:Pack (P,ops,r,d,ts,K)}:goOn P d ts ops K r q (.clo f xs) (g::m')=sL P ops r ((d,.clo f xs)::ts) (g::m') K:=rfl
theorem goD_clo1 (f:FuncId) (xs:List AV) (g:Nat × Blk) (m':Mem) (r:List Oper) (op:Op) {q:Pack (P,ops,r,d,op,ts,m,tr,K)}:goD P d ts m ops tr K op r q (.clo f xs) (g::m')=sD P ops r ((d,.clo f xs)::ts) (g::m') ((rdL op ts,wrL (g::m') m)::tr) K:=rfl
end
attribute [go_sem ↓] vc_skip vc_region vc_draw vc_seq vc_cond vc_block vc_loop vc_exit vc_ret sL_nil' sL_plain' sL_quiet'
attribute [go_sem ↓] sL_guard' sOp_move sOp_assign sOp_pick sOp_alloc sOp_box sOp_build sOp_buildSlice sOp_load sOp_store sOp_nilCheck sOp_binOp
attribute [go_sem ↓] sOp_not sOp_neg sOp_convert sOp_makeSlice sOp_slice sOp_fieldAddr sOp_indexAddr sOp_extract sOp_len
attribute [go_sem ↓] sOp_max sOp_min sOp_min3 sOp_append sOp_call sOp_callv sOp_makeFunc sOpD_move sOpD_assign sOpD_pick
attribute [go_sem ↓] sOpD_build sOpD_buildSlice sOpD_load sOpD_store sOpD_nilCheck sOpD_binOp sOpD_not sOpD_convert sOpD_makeSlice sOpD_slice
attribute [go_sem ↓] sOpD_fieldAddr sOpD_indexAddr sOpD_extract sOpD_len sOpD_max sOpD_append sOpD_callv
attribute [go_sem ↓] sOpD_call sD_nil sD_plain sD_quiet sD_guard
attribute [go_sem] goQ_undef1 goDQ_undef1 goOn_val0 goD_val0
attribute [go_sem] goOn_val1 goD_val1
attribute [go_sem] goOn_arr0 goD_arr0 goOn_arr1 goD_arr1 goOn_agg0 goD_agg0
attribute [go_sem] goOn_agg1 goD_agg1 goOn_tup0 goOn_tup1 goD_tup1
attribute [go_sem] goOn_ref1 goD_ref1
attribute [go_sem] goOn_ptr1 goD_ptr1 goOn_eptr0 goD_eptr0 goOn_eptr1 goD_eptr1
attribute [go_sem] goOn_clo0 goOn_clo1 goD_clo1
attribute [go_sem] Br_true Br_false sIf_eq' sPick_eq' sGuard_t' sGuard_f'
attribute [go_sem ↓] look_nil look_cons lookB_nil lookB_cons TI.sh_eq cAV_int cAV_bool cAV_slice cAV_pointer
attribute [go_sem ↓] ev_tmp ev_const ev_func sTI_some sOpt_some sWrap_i64 sWrap_u64 sBin_int
attribute [go_sem ↓] sBin_beq sBin_bne iB_add iB_sub iB_mul iB_quo iB_rem iB_eql iB_neq iB_lss iB_leq iB_gtr
attribute [go_sem ↓] iB_geq iB_shr sNot_eq sNeg_eq sConv_int sMax_eq sMin_eq
attribute [go_sem ↓] sTup_eq sPart_agg sPart_cell sPart_val sPart_arr isFlat_val isFlat_agg isFlat_arr
attribute [go_sem ↓] isFlatL_nil isFlatL_cons sUndeep_flat sUndeep_no sLoadB_boxA sLoadB_box sLoadB_row sLoad_ptr sLoad_eptr
attribute [go_sem ↓] sLend_flat sLoadI_lend sLoadI_box sLoadX_ptr sLoadX_eptr sLive_box sLive_row sField_ptr
attribute [go_sem ↓] sField_eptr sLen_arr sLen_nil sLen_ref sFld_some sCells_agg sCells_val sCells_arr
attribute [go_sem ↓] sCells_ref setL_nil setL_cons sPut_agg sPut_cell sPut_val sStoreB_box sStoreB_rowV sStoreB_subV
attribute [go_sem ↓] sStoreB_rowA sStore_ptr sStoreR_box sStoreX_ref sStoreX_val sStoreX_agg
attribute [go_sem ↓] sFK_some sCellE_int sCellE_bool sAggE_nil sAggE_cons sEqR_neq sBinS_agg
attribute [go_sem ↓] sBinS_int sBinS_bool sBinS_arr sBox_eq
attribute [go_sem ↓] newVer_eq verOf_none sStoreYR2_row sStoreYR_box sStoreYR_flat
attribute [go_sem ↓] sStoreY_ref sStoreY_int sStoreY_bool sStoreY_agg
attribute [go_sem ↓] fits_agg fits_val fits_arr sMake_eq sSrcB_row sSrc_arr sSrc_ref
attribute [go_sem ↓] sAppB_row sApp1_ref sApp1_nil sAppSB_row sAppS_ref sAppS_nil sAppXB_deep sAppXB_flat
attribute [go_sem ↓] sAppX_ref sAppX_arr sAppZ_true sAppZ_false sBnd_none sBnd_some sSlice_arr
attribute [go_sem ↓] sFill_nil sFill_cons sBuild_eq sFillR_nil sFillR_cons sBuildSlice_eq sRowT_row sLeafT_ref sLeafT_val
attribute [go_sem ↓] sLeafT_arr sLeavesT_nil sLeavesT_cons sTree_clo sTree_ptr sTree_agg sTree_ref sTree_val sTree_arr sTrees_nil sTrees_cons
attribute [go_sem ↓] sMatL_arr sMatL_val sMats_nil sMats_cons sMatA_arr sMatA_val sMatTs_nil sMatTs_cons sMat_tup
attribute [go_sem ↓] sMat_agg sMat_arr sMat_val sCall_eq sGivB_row sGivL_ref
attribute [go_sem ↓] sGivL_val sGivL_arr sGivLs_nil sGivLs_cons sGivA_agg sGivA_ref sGivA_val sGivA_arr sGivs_nil sGivs_cons
attribute [go_sem ↓] sGivAs_nil sGivAs_cons sBuildSliceX_eq sSl_slice sSt_struct sNil_ptr sSlK_arr sIdxB_row
attribute [go_sem ↓] sIdxB_box sIdx_arr sIdx_ref sSubI_sub sSubI_row sSubI_box sIdxX_val sIdxX_arr sIdxX_ref
attribute [go_sem ↓] sAppTX_eq sApp_eq sNilB_arr cst_const cst_tmp
attribute [go_sem ↓] sBinN_eql sBinN_int sBinN_bool sCallV_clo sBytesL_nil
attribute [go_sem ↓] sConvX_int sConvY_int
attribute [go_sem ↓] sGuard_u putE_some dstOf_cons dstOf_zero thn_normal thn_ret thn_exit blk_normal blk_ret blk_exit verIs_row
attribute [go_sem ↓] verIs_box noBlk_none refV_val refV_arr refV_ref
attribute [go_sem ↓] refV_nilRef refV_ptr refC_nil refC_cons refV1_val refV1_arr refV1_ref
attribute [go_sem ↓] refL_nil refL_cons leaf_val leaf_arr leaf_ref leaf_ptr refA_clo refA_undef
attribute [go_sem ↓] refA_val refA_arr refA_ref refA_ptr refE_nil refE_cons refB_row refB_box refB_none refM_nil
attribute [go_sem ↓] refM_cons sameVer_rr sameVer_bb keepIo_eq refK_nil refK_cons refS_eq sCellRB_agg sCellR_ptr sResults_nil sResults_tmp
attribute [go_sem ↓] sResults_cell sOwnB_row sOwnL_val sOwnL_ref sOwnLs_nil sOwnLs_cons sOwnA_agg sOwnA_val sOwnA_ref sOwnAs_nil
attribute [go_sem ↓] sOwnAs_cons mkRes_one mkRes_nil mkRes_two fin_ret argsE_nil argsE_cons ioM_nil ioM_cons lookB_ioM sIo1_row
attribute [go_sem ↓] sIo1_box sIoB_nil sIoB_cons finM_ret sPos_cons sRen_ref sRen_val sRen_arr
attribute [go_sem ↓] sRenL_nil sRenL_cons sRenA_agg sRenA_ref sRenA_ptr sRenA_val sRenA_arr sRens_nil sRens_cons notIn_nil
attribute [go_sem ↓] notIn_cons sSel1_row sSel1_box sSel_nil sSel_cons putIo_cons putIo_nil lookB_putIo finI_normal finI_ret allHi_nil allHi_cons
attribute [go_sem ↓] hasB_some freeB_none rnsM_nil rnsM_cons rnsA_nil rnsA_cons rnsL_nil rnsL_cons rnsMb_nil rnsMb_cons rnsAb_nil rnsAb_cons
attribute [go_sem ↓] renOk_nil renOk_cons lowOk_nil lowOk_cons inF_nil inF_cons lowP_nil lowP_cons nl_int
attribute [go_sem ↓] nl_arr nlL_nil nlL_cons nlA_nil nlA_int nlA_bool nlA_arr
attribute [go_sem ↓] nlAs_nil nlAs_cons nlT_tup nlT_agg nlT_nil nlT_int nlT_bool nlT_arr ver_row ver_box
attribute [go_sem ↓] sCallD_eq sCallDV_clo
attribute [go_sem] sTI_some sOpt_some sWrap_i64 sWrap_u64 sBin_int sBin_beq sBin_bne
attribute [go_sem] sNot_eq sNeg_eq sConv_int sMax_eq sMin_eq sTup_eq sPart_agg sPart_cell sPart_val sPart_arr
attribute [go_sem] sUndeep_flat sUndeep_no sLoadB_boxA sLoadB_box sLoadB_row sLoad_ptr sLoad_eptr
attribute [go_sem] sLend_flat sLoadI_lend sLoadI_box sLoadX_ptr sLoadX_eptr sLive_box sLive_row sField_ptr
attribute [go_sem] sField_eptr sLen_arr sLen_nil sLen_ref sFld_some sCells_agg sCells_val sCells_arr
attribute [go_sem] sCells_ref sPut_agg sPut_cell sPut_val sStoreB_box sStoreB_rowV sStoreB_subV sStoreB_rowA sStore_ptr
attribute [go_sem] sStoreR_box sStoreX_ref sStoreX_val sStoreX_agg sFK_some
attribute [go_sem] sCellE_int sCellE_bool sAggE_nil sAggE_cons sEqR_neq sBinS_agg sBinS_int sBinS_bool
attribute [go_sem] sBinS_arr sBox_eq
attribute [go_sem] sStoreYR2_row sStoreYR_box sStoreYR_flat sStoreY_ref sStoreY_int sStoreY_bool
attribute [go_sem] sStoreY_agg sMake_eq sSrcB_row sSrc_arr sSrc_ref
attribute [go_sem] sAppB_row sApp1_ref sApp1_nil sAppSB_row sAppS_ref sAppS_nil sAppXB_deep sAppXB_flat
attribute [go_sem] sAppX_ref sAppX_arr sAppZ_true sAppZ_false sBnd_none sBnd_some sSlice_arr
attribute [go_sem] sFill_nil sFill_cons sBuild_eq sFillR_nil sFillR_cons sBuildSlice_eq labs_val labs_arr
attribute [go_sem] labs_agg labsL_nil labsL_cons sRowT_row sLeafT_ref sLeafT_val sLeafT_arr sLeavesT_nil sLeavesT_cons
attribute [go_sem] sTree_clo sTree_ptr sTree_agg sTree_ref sTree_val sTree_arr sTrees_nil sTrees_cons sMatL_arr sMatL_val
attribute [go_sem] sMats_nil sMats_cons sMatA_arr sMatA_val sMatTs_nil sMatTs_cons sMat_tup sMat_agg sMat_arr sMat_val
attribute [go_sem] sCall_eq sGivB_row sGivL_ref sGivL_val sGivL_arr sGivLs_nil sGivLs_cons
attribute [go_sem] sGivA_agg sGivA_ref sGivA_val sGivA_arr sGivs_nil sGivs_cons sGivAs_nil sGivAs_cons sBuildSliceX_eq sSl_slice sSt_struct
attribute [go_sem] sNil_ptr sSlK_arr sIdxB_row sIdxB_box sIdx_arr sIdx_ref sSubI_sub sSubI_row
attribute [go_sem] sSubI_box sIdxX_val sIdxX_arr sIdxX_ref sAppTX_eq sApp_eq sNilB_arr
attribute [go_sem] sBinN_eql sBinN_int sBinN_bool
attribute [go_sem] sCallV_clo sBytesL_nil sConvX_int
attribute [go_sem] sConvY_int sGuard_u sCellRB_agg sCellR_ptr sResults_nil sResults_tmp sResults_cell sOwnB_row
attribute [go_sem] sOwnL_val sOwnL_ref sOwnLs_nil sOwnLs_cons sOwnA_agg sOwnA_val sOwnA_ref sOwnAs_nil sOwnAs_cons sIo1_row
attribute [go_sem] sIo1_box sIoB_nil sIoB_cons sPos_cons sRen_ref sRen_val sRen_arr sRenL_nil sRenL_cons
attribute [go_sem] sRenA_agg sRenA_ref sRenA_ptr sRenA_val sRenA_arr sRens_nil sRens_cons sSel1_row sSel1_box sSel_nil
attribute [go_sem] sSel_cons sCallD_eq sCallDV_clo
attribute [go_sem] List.getElem?_cons_zero List.getElem?_cons_succ List.getElem?_nil List.map_cons List.map_nil List.length_cons List.length_nil List.drop_zero List.drop_succ_cons List.take_zero List.take_succ_cons List.take_nil List.drop_nil List.set_cons_zero List.set_cons_succ Nat.zero_add Nat.add_zero
attribute [go_sem] List.length_map List.getElem?_map Option.map_some Bool.true_and Bool.false_and
attribute [go_sem] is0 List.reverse_cons q16 q14 List.cons_append Bool.true_eq_false q2 false_implies implies_true and_true true_and forall_const true_implies
attribute [go_sem ↓] reduceIte
attribute [go_sem] Nat.reduceEqDiff Nat.reduceLT Nat.reduceAdd Nat.reduceMul Nat.reduceLeDiff Int.reduceToNat
attribute [go_sem] q18 Int.natCast_zero Int.toNat_natCast
end Go.Vc
namespace Go.Vc
def pick (L:List Nat) (ts:Env):Env:=L.map fun t=>(t,look ts t)
theorem pick_nil (ts:Env):pick [] ts=[]:=rfl
theorem pick_cons (t:Nat) (L:List Nat) (ts:Env):pick (t::L) ts=(t,look ts t)::pick L ts:=rfl
def inD:List Nat→Nat→Bool
 | [],_=>false
 |d::D,l=>l==d||(l / 1000==d+1||inD D l)
theorem inD_nil (l:Nat):inD [] l=false:=rfl
theorem inD_cons (d:Nat) (D:List Nat) (l:Nat):inD (d::D) l=(l==d||(l / 1000==d+1||inD D l)):=rfl
def inE:List Nat→Nat→Bool
 | [],_=>false
 |d::D,l=>l==d||inE D l
theorem inE_nil (l:Nat):inE [] l=false:=rfl
theorem inE_cons (d:Nat) (D:List Nat) (l:Nat):inE (d::D) l=(l==d||inE D l):=rfl
def dropB (D E:List Nat):Mem→Mem
 | []=>[]
 |(l,b)::r=>if (inD D l||inE E l)=true then dropB D E r else (l,b)::dropB D (l::E) r
theorem dropB_nil (D E:List Nat):dropB D E []=[]:=rfl
theorem dropB_cons (D E:List Nat) (l:Nat) (b:Blk) (r:Mem):dropB D E ((l,b)::r)=if (inD D l||inE E l)=true then dropB D E r else (l,b)::dropB D (l::E) r:=rfl
theorem or_t_l (b:Bool):(true||b)=true:=rfl
theorem or_f_l (b:Bool):(false||b)=b:=rfl
section
variable {P:Program} {N:Nat} {ts:Env} {m:Mem}
theorem Later.up {body:Code} (L D E:List Nat) (n:Nat) (I:Nat→Prop) (up:Nat→Env) (um:Nat→Mem) {Q:Post} {q:Pack (Code.loop body,Q)} (h0:I 0)
 (hr:refS ts m (up 0++pick L ts) (um 0++dropB D E m)) (hok:codeOk N body=true)
 (step:∀i,i<n→I i→vc P N body (up i++pick L ts) (um i++dropB D E m) (thn Q fun ts' m'=>I (i+1)∧refS ts' m' (up (i+1)++pick L ts) (um (i+1)++dropB D E m)))
 (stop:I n→vc P N body (up n++pick L ts) (um n++dropB D E m) (thn Q fun _ _=>False)):Later P N (.loop body) ts m Q q:=
 Later.upto n I (fun i=>(up i++pick L ts,um i++dropB D E m)) h0 hr hok step stop
theorem Later.upR {body:Code} (L D E:List Nat) (n:Nat) (I:Nat→Prop) (up:Nat→Env) (um:Nat→Mem) {Q:Post} {q:Pack (Code.loop body,Q)} (h0:I 0)
 (hr:RefR ts m (up 0++pick L ts) (um 0++dropB D E m)) (hok:codeOk N body=true)
 (step:∀i,i<n→I i→vc P N body (up i++pick L ts) (um i++dropB D E m) (thn Q fun ts' m'=>I (i+1)∧RefR ts' m' (up (i+1)++pick L ts) (um (i+1)++dropB D E m)))
 (stop:I n→vc P N body (up n++pick L ts) (um n++dropB D E m) (thn Q fun _ _=>False)):Later P N (.loop body) ts m Q q:=by
 refine ⟨Ok.loopR (fun i=>i≤n∧I i) (fun i=>(up i++pick L ts,um i++dropB D E m)) (fun i=>n-i) 0 ⟨q23 _,h0⟩ hr fun i ⟨hi,hI⟩=> ?_⟩
 rcases q20 i n with h|h
 · refine (vc_sound body _ _ _ hok (step i h hI)).mono fun e ts' m' hq=> ?_
   cases e with
   |normal=>exact ⟨i+1,⟨h,hq.1⟩,by omega,hq.2⟩
   |_=>exact hq
 · have e:i=n:=Nat.le_antisymm hi h
   subst e
   refine (vc_sound body _ _ _ hok (stop hI)).mono fun e ts' m' hq=> ?_
   cases e with
   |normal=>exact hq.elim
   |_=>exact hq
theorem RefR.one {ts:Env} {m:Mem} {ts2:Env} {m2:Mem} (l l':Nat) (hl:l<ioL) (hl':l'<ioL) (h:refS (rnE l l' ts) (rnM l l' m) ts2 m2):RefR ts m ts2 m2:=.mv l l' hl hl' (.here h)
theorem Later.lp {body:Code} {ι:Type} (L D E:List Nat) (I:ι→Prop) (up:ι→Env) (um:ι→Mem) (μ:ι→Nat) {Q:Post} {q:Pack (Code.loop body,Q)} (x0:ι) (h0:I x0)
 (hr:refS ts m (up x0++pick L ts) (um x0++dropB D E m)) (hok:codeOk N body=true)
 (step:∀x,I x→vc P N body (up x++pick L ts) (um x++dropB D E m) (thn Q fun ts' m'=>∃y,I y∧μ y<μ x∧refS ts' m' (up y++pick L ts) (um y++dropB D E m))):Later P N (.loop body) ts m Q q:=
 Later.loop I (fun i=>(up i++pick L ts,um i++dropB D E m)) μ x0 h0 hr hok step
end
attribute [go_sem] rl_eq rnA_ref rnA_ptr rnA_agg rnA_tup rnA_clo rnA_undef rnA_val rnA_e0 rnA_arr rnA_eptr rnL_nil rnL_cons rnB_box rnB_row rnB_gone rnE_nil rnE_cons rnM_nil rnM_cons
attribute [go_sem] Nat.reduceLT true_or or_true or_false false_or pick_nil pick_cons inD_nil inD_cons inE_nil inE_cons dropB_nil dropB_cons or_t_l or_f_l Nat.reduceBEq Nat.reduceDiv beq_self_eq_true q2
end Go.Vc
namespace Go.Vc
theorem cz (a:Nat × AV) (x y:Env):a::x++y=a::(x++y):=rfl
theorem dz (x:Env):[]++x=x:=rfl
theorem ez (a:Nat × Blk) (x y:Mem):a::x++y=a::(x++y):=rfl
theorem fz (x:Mem):[]++x=x:=rfl
theorem bz (a:Nat):(a==a)=true:=beq_self_eq_true a
theorem ai {a b:Prop} (x:a) (y:b):a∧b:=⟨x,y⟩
theorem pz:type_of%(And.intro @pick_nil (And.intro @pick_cons (And.intro @look_nil (And.intro @look_cons (And.intro @dropB_nil (And.intro @dropB_cons (And.intro @inD_nil (And.intro @inD_cons (And.intro @inE_nil (And.intro @inE_cons (And.intro @or_f_l (And.intro @or_t_l (And.intro @bz (And.intro @Bool.or_false (And.intro @Bool.false_eq_true (And.intro @cz (And.intro @dz (And.intro @ez (@fz))))))))))))))))))):=And.intro @pick_nil (And.intro @pick_cons (And.intro @look_nil (And.intro @look_cons (And.intro @dropB_nil (And.intro @dropB_cons (And.intro @inD_nil (And.intro @inD_cons (And.intro @inE_nil (And.intro @inE_cons (And.intro @or_f_l (And.intro @or_t_l (And.intro @bz (And.intro @Bool.or_false (And.intro @Bool.false_eq_true (And.intro @cz (And.intro @dz (And.intro @ez (@fz))))))))))))))))))
end Go.Vc
namespace Go.Vc
open Go.RowKit (Below)
open Go.ChangeShapes Go.WideShapes Go.ChangeAt Go.Deep
theorem Grown.below {w w':World} (h:Grown w w'):Below w.heap.size w w':=⟨h.out.os,h.out.tape,h.out.output,h.size,h.same⟩
def CellsRd (w:World) (xs:List AV) (cs:List Value):Prop:=cs.length=xs.length∧∀i (h:i<xs.length),leaf xs[i]∧Rd w (Now w) xs[i] (cs.getD i Go.undef)
def Dec (P:Program) (t:TypeId) {α:Type} (ok:α→Prop) (f:α→List AV):Prop:=
 ∀(H:Type) (enc:TypeId × Value→H) (w:World) (base:Nat) (held:Bool) (fuel:Nat) (cs:List Value) (x:DataW H × List MemPlace),
  DataW.trod enc P w base (fun _=>true) held fuel t cs=some x→∃a,ok a∧CellsRd w (f a) cs
theorem CellsRd.one {w:World} {x:AV} {v:Value} (hl:leaf x) (h:Rd w (Now w) x v):CellsRd w [x] [v]:=⟨rfl,fun i hi=>by
 have:i=0:=by simpa using hi
 subst this;exact ⟨hl,h⟩⟩
theorem Dec.u8 {P:Program} {t:TypeId} (ht:P.underlying t=some (.int .u8)):Dec P t (fun _=>True) (fun n:UInt8=>[.val (.int .u8 n.toNat)]):=fun H enc w base held fuel cs x h=>by
 obtain ⟨n,rfl,_,hw⟩:=DataW.trod_int ht h
 have hb:=bounds_u8 hw
 refine ⟨UInt8.ofNat n.toNat,trivial,.one trivial ?_⟩
 have:((UInt8.ofNat n.toNat).toNat:Int)=n:=by simp;omega
 rw [this];exact .val _ rfl
theorem list_of {α:Type} (g:Nat→Option α):∀(len:Nat),(∀i,i<len→∃b,g i=some b)→∃xs:List α,xs.length=len∧∀i (hi:i<xs.length),g i=some xs[i]
 |0,_=>⟨[],rfl,fun i hi=>absurd hi (q22 _)⟩
 |k+1,hg=>by
  obtain ⟨xs,h1,h2⟩:=list_of g k fun i hi=>hg i (by omega)
  obtain ⟨b,hb⟩:=hg k (by omega)
  refine ⟨xs++[b],by simp [h1],fun i hi=> ?_⟩
  by_cases hik:i<xs.length
  · rw [List.getElem_append_left hik];exact h2 i hik
  · have:i=k:=by simp at hi;omega
    subst this
    rw [List.getElem_append_right (by omega)];simp [h1,hb]
theorem add_block (a:Addr) (k:Nat):(a.add k).block=a.block:=by unfold Addr.add;split<;>rfl
theorem add_off (a:Addr) (k:Nat):(a.add k).off=a.off+k:=by
 unfold Addr.add;split
 · rename_i h;rw [h];rfl
 · rfl
theorem cell_out {w:World} {a:Addr} {v:Value} (h:w.cell? a=some v):∃cs e fr,w.heap[a.block]? =some (.cells cs e fr)∧cs[a.off]? =some v:=by
 unfold World.cell? at h
 split at h
 · split at h
   · cases h
   · exact ⟨_,_,_,‹_›,h⟩
 · cases h
def elOf (ag:Bool) (xs:List AV):AV:=if ag then .agg xs else xs.getD 0 .undef
theorem Dec.slice {P:Program} {t e:TypeId} {α:Type} {ok:α→Prop} {f:α→List AV} (ag:Bool) (n:Nat) (ht:P.underlying t=some (.slice e)) (hn:P.cellsOf e=n) (h0:0<n) (hag:ag=false→n=1)
 (hlen:∀a,(f a).length=n) (hd:Dec P e ok f):Dec P t (fun xs:List α=>xs.length≤maxLen∧∀a∈xs,ok a) (fun xs=>[.arr ⟨n,ag⟩ (xs.map fun a=>elOf ag (f a))]):=fun H enc w base held fuel cs x h=>by
 rcases open_slice ht h with ⟨rfl,_⟩|⟨a,len,cap,m,n',D,Pl,rfl,hb,hl,hm,hmm,_,hel⟩
 · exact ⟨[],⟨q23 _,by simp⟩,.one trivial (.nil _ _)⟩
 · simp only [if_true] at hmm
   rw [hn,hmm] at hel
   clear hmm
   by_cases hc:cap=0
   · subst hc
     have:len=0:=by omega
     subst this
     exact ⟨[],⟨q23 _,by simp⟩,.one trivial (.nil _ _)⟩
   ·
    have cellAt:∀i,i<cap→∀j,j<n→∃v,w.cell? (a.add (i*n+j))=some v:=by
     intro i hi j hj
     obtain ⟨cs',h1,_⟩:=hel i hi
     obtain ⟨_,h2,h3⟩:=World.cells?_some h1
     have:=h3 j hj
     rw [add_add] at this
     exact ⟨cs'[j]'(by omega),by rw [this];exact q6 (by omega)⟩
    obtain ⟨v00,h00⟩:=cellAt 0 (by omega) 0 h0
    have hsp:a.spot=none:=by simpa [Addr.add] using World.cell?_spot h00
    obtain ⟨bcs,be,bfr,hheap,hoff0⟩:=cell_out h00
    have hheap:w.heap[a.block]? =some (.cells bcs be bfr):=by simpa [add_block] using hheap
    have hoff0:bcs[a.off]? =some v00:=by simpa [add_off] using hoff0
    have cells:∀i,i<cap→∀j,j<n→∀v,w.cell? (a.add (i*n+j))=some v→bcs[a.off+(i*n+j)]? =some v:=by
     intro i hi j hj v hv
     obtain ⟨cs2,e2,fr2,g1,g2⟩:=cell_out hv
     have g1:w.heap[a.block]? =some (.cells cs2 e2 fr2):=by simpa [add_block] using g1
     rw [hheap] at g1;cases g1
     simpa [add_off] using g2
    have size:∀i,i<cap→a.off+(i+1)*n≤bcs.size:=by
     intro i hi
     obtain ⟨v,hv⟩:=cellAt i hi (n-1) (by omega)
     have:=cells i hi (n-1) (by omega) v hv
     have:=(q0.1 this).1
     rw [Nat.add_mul];omega
    obtain ⟨g,hg⟩:∃g:Nat→Option α,∀i,i<len→∃b,g i=some b∧ok b∧∃cs',w.cells? base (a.add (i*n)) n=some cs'∧CellsRd w (f b) cs':=by
     refine choose_lt (p:=fun i (o:Option α)=>∃b,o=some b∧ok b∧∃cs',w.cells? base (a.add (i*n)) n=some cs'∧CellsRd w (f b) cs') fun i hi=> ?_
     obtain ⟨cs',h1,h2⟩:=hel i (by omega)
     obtain ⟨b,h3,h4⟩:=hd H enc w base held n' cs' _ h2
     exact ⟨some b,b,rfl,h3,cs',h1,h4⟩
    have hxs:∃xs:List α,xs.length=len∧∀i (hi:i<xs.length),g i=some xs[i]:=by
     exact list_of g len fun i hi=>by obtain ⟨b,hb,_⟩:=hg i hi;exact ⟨b,hb⟩
    obtain ⟨xs,hxl,hxs⟩:=hxs
    have hel2:∀i (hi:i<xs.length),ok xs[i]∧∃cs',w.cells? base (a.add (i*n)) n=some cs'∧CellsRd w (f xs[i]) cs':=by
     intro i hi
     obtain ⟨b,h1,h2,h3⟩:=hg i (by omega)
     rw [hxs i hi] at h1;cases h1
     exact ⟨h2,h3⟩
    refine ⟨xs,⟨by omega,fun b hb=> ?_⟩,.one trivial ?_⟩
    · obtain ⟨i,hi,rfl⟩:=q9 hb
      exact (hel2 i hi).1
    · have ea:a=⟨a.block,a.off,none⟩:=by cases a;simp at hsp;subst hsp;rfl
      have hlen2:(xs.map fun b=>elOf ag (f b)).length=len:=by simp [hxl]
      rw [ea,←hlen2]
      refine .arr ⟨n,ag⟩ _ a.block a.off cap bcs be bfr (q0.1 hheap).1 hheap (by omega) ?_ ?_ ?_
      · rw [hlen2]
        show a.off+len*n≤bcs.size
        by_cases h0l:len=0
        · subst h0l
          have:=size 0 (by omega)
          omega
        · have:=size (len-1) (by omega)
          rwa [show len-1+1=len by omega] at this
      · intro i hi
        rw [List.getElem_map]
        cases ag with
        |true=>exact ⟨rfl,hlen _⟩
        |false=>
         have hi':i<xs.length:=by simpa using hi
         obtain ⟨_,cs',_,h2⟩:=hel2 i hi'
         have h1:=hlen xs[i]
         have:=(h2.2 0 (by omega)).1
         have e1:elOf false (f xs[i])=(f xs[i])[0]'(by omega):=by simp [elOf,q5,q6 (show 0<(f xs[i]).length by omega)]
         rw [e1]
         have hn1:=hag rfl
         unfold fits
         split<;>first|(rename_i hh;rw [hh] at this;exact this.elim)|exact ⟨rfl,hn1⟩
      · intro i hi
        have hi':i<xs.length:=by simpa using hi
        rw [List.getElem_map]
        obtain ⟨_,cs',h1,h2⟩:=hel2 i hi'
        obtain ⟨_,h3,h4⟩:=World.cells?_some h1
        have hcell:∀j,j<n→bcs[a.off+(i*n+j)]? =cs'[j]? :=by
         intro j hj
         have:=h4 j hj
         rw [add_add] at this
         rw [q6 (by omega)] at this ⊢
         exact cells i (by omega) j hj _ this
        have hsz:=size i (by omega)
        cases ag with
        |true=>
         have e2:elemV bcs.toList (a.off+i*n) ⟨n,true⟩= .agg cs'.toArray:=by
          simp only [elemV,if_true]
          congr 2
          apply List.ext_getElem?
          intro j
          by_cases hj:j<n
          · rw [List.getElem?_take,if_pos hj,List.getElem?_drop,←hcell j hj];simp [Nat.add_assoc]
          · rw [List.getElem?_take,if_neg hj,List.getElem?_eq_none (by omega)]
         show Rd w (Now w) (elOf true (f xs[i])) (elemV bcs.toList (a.off+i*n) ⟨n,true⟩)
         rw [e2]
         exact .agg _ _ (by simpa using h2.1) (fun j hj=>(h2.2 j hj).1) (fun j hj=>(h2.2 j hj).2)
        |false=>
         have hn1:=hag rfl
         subst hn1
         have hl1:=hlen xs[i]
         have e2:elemV bcs.toList (a.off+i*1) ⟨1,false⟩=cs'.getD 0 Go.undef:=by
          simp only [elemV,q2,if_false,q5]
          have:=hcell 0 (by omega)
          rw [Nat.add_zero] at this
          rw [←this];simp
         show Rd w (Now w) (elOf false (f xs[i])) (elemV bcs.toList (a.off+i*1) ⟨1,false⟩)
         rw [e2]
         have e1:elOf false (f xs[i])=(f xs[i])[0]'(by omega):=by simp [elOf,q5,q6 (show 0<(f xs[i]).length by omega)]
         rw [e1]
         exact (h2.2 0 (by omega)).2
inductive Flds (P:Program):List Field→Nat→{α:Type}→(α→Prop)→(α→List AV)→Prop
 |nil (o:Nat):Flds P [] o (fun _:Unit=>True) (fun _=>[])
 |cons {α β:Type} {f:Field} {r:List Field} {o n:Nat} {ok:α→Prop} {g:α→List AV} {ok':β→Prop} {g':β→List AV} (ho:f.offset=o) (hn:P.cellsOf f.type=n) (hl:∀a,(g a).length=n) (hd:Dec P f.type ok g) (hr:Flds P r (o+n) ok' g'):
   Flds P (f::r) o (fun p:α × β=>ok p.1∧ok' p.2) (fun p=>g p.1++g' p.2)
theorem Dec.arg {P:Program} {t:TypeId} {α:Type} {ok:α→Prop} {f:α→List AV} (h:Dec P t ok f) (ag:Bool) (hf:∀a,if ag then True else (f a).length=1) {H:Type} {enc:TypeId × Value→H} {w:World} {base:Nat} {held:Bool} {v:Value} {d:DataW H} {ps:List MemPlace}
 (ht:DataW.Trod enc P w base (fun _=>true) held t v d ps) (hv:if ag then ∃cs,v= .agg cs else v.cells= #[v]):∃a,ok a∧Rd w (Now w) (elOf ag (f a)) v:=by
 obtain ⟨fuel,hx⟩:=ht
 obtain ⟨a,h1,h2,h3⟩:=h H enc w base held fuel _ _ hx
 refine ⟨a,h1,?_⟩
 cases ag with
 |true=>
  obtain ⟨cs,rfl⟩:=hv
  have e:(Value.agg cs).cells=cs:=rfl
  rw [e] at h2 h3
  exact .agg _ _ (by simpa using h2) (fun i hi=>(h3 i hi).1) (fun i hi=>(h3 i hi).2)
 |false=>
  have hl:(f a).length=1:=by simpa using hf a
  have hv:v.cells= #[v]:=hv
  rw [hv] at h3
  have:=(h3 0 (by omega)).2
  have e1:elOf false (f a)=(f a)[0]'(by omega):=by simp [elOf,q5,q6 (show 0<(f a).length by omega)]
  rw [e1];exact this
theorem Fn.law {P:Program} {f:FuncId} {args:List AV} {b:Bool} (h:Fn P f args true (· = .val (.bool b))) (W:World) (hkon:Kon W (Now W)) (vs:Array Value) (hs:vs.size=args.length)
 (hr:∀i (h:i<args.length),Rd W (Now W) args[i] (vs.toList.getD i Go.undef)):Calls P f vs W fun e W'=>e= .returned (.bool b)∧Below W.heap.size W W':=by
 refine (h.2 W (Now W) vs (fun _ hb=>hb) hkon hs hr).mono fun e W' ⟨r,v,he,hx,hg,hres⟩=> ?_
 subst hx
 obtain ⟨fs,hown,_⟩:=hres
 have hv:v= .bool b:=by
  cases hown with
  |rd _ _ h=>cases h with|val _ _=>rfl
 subst hv
 exact ⟨he,hg.below⟩
end Go.Vc
namespace Go.Vc
def soloB (ops:List Oper) (n:Nat):Bool:=backB ops&&(List.range ops.length).all fun j=>decide (j<n)||(List.range j).all fun i=>((ancsGo ops []).getD j []).contains i
section
variable {P:Program} {B:Base} {N:Nat} {φ:Nat→LS} {fp:Nat→List Nat} {S:Nat→Prop} {ts:Env} {m:Mem} {a:Act} {w:World}
variable {os:Nat→Oper} {qs:Nat→Rec} {D D':Nat→Bool} {ops:List Oper} {tr:List (List Nat × List Nat)}
theorem solo_out {n:Nat} (h:soloB ops n=true) (hD:Closed ops D) {j:Nat} (hj:j<ops.length) (hn:n≤j) (hd:D j=true):∀i,i<j→D i=true:=by
 intro i hi
 simp only [soloB,q1,q3,q13,Bool.or_eq_true,decide_eq_true_eq,List.contains_eq_mem] at h
 rcases h.2 j hj with h1|h1
 · omega
 · exact ancsGo_closed hD ops [] rfl (fun j x hx=>by simp at hx) j i (h1 i hi) hd
theorem back_of {n:Nat} (h:soloB ops n=true):∀i o,ops[i]? =some o→∀p,p∈preds o→p<i:=by
 intro i o ho p hp
 simp only [soloB,backB,q1,q3,q13] at h
 have:=h.1 i (q7.1 ho).1
 rw [ho] at this
 simpa using q3.1 this p hp
def Upk (ops:List Oper) (k:Nat) (listed:Array Bool):Prop:=listed.size=ops.length∧∀i,i<ops.length→listed.getD i false=decide (i<k)
theorem tail_sound {n:Nat} (hs:soloB ops n=true) (hok:opsOk N ops=true) (hgs:guardsOk N ops=true) {Q:Exit→Act→World→Prop} {K:St} (hQ:∀a w,Done B N K a w→Q .normal a w):
 ∀(c k fuel:Nat) (listed:Array Bool) (φ:Nat→LS) (fp:Nat→List Nat) (S:Nat→Prop) (ts:Env) (m:Mem) (a:Act) (w:World),c=ops.length-k→n≤k→k≤ops.length→Upk ops k listed→ops.length-k≤fuel→
  RS B N φ fp S ts m a w→sL P ops (ops.drop k) ts m K→wpAny P .any ops.toArray Q fuel listed a w:=by
 intro c
 induction c with
 |zero=>
  intro k fuel listed φ fp S ts m a w hc hnk hk hu hf h hsl
  have hkl:k=ops.length:=by omega
  subst hkl
  rw [List.drop_length] at hsl
  have hfin:Q .normal a w:=hQ a w ⟨φ,fp,S,ts,m,h,hsl⟩
  have hr:Region.ready .any ops.toArray listed=[]:=by
   cases hr:Region.ready .any ops.toArray listed with
   |nil=>rfl
   |cons j r=>
    have hj:j∈Region.ready .any ops.toArray listed:=by rw [hr];exact List.mem_cons_self ..
    obtain ⟨h0,o,ho,_⟩:=mem_ready.1 hj
    have hjn:j<ops.length:=by simpa using (q0.1 ho).1
    have:=hu.2 j hjn
    rw [getD_both h0] at this
    simp at this;omega
  cases fuel with
  |zero=>exact ⟨hr,hfin⟩
  |succ fuel=>exact ⟨fun _=>hfin,fun i hi=>by rw [hr] at hi;cases hi⟩
 |succ c ih=>
  intro k fuel listed φ fp S ts m a w hc hnk hk hu hf h hsl
  have hkl:k<ops.length:=by omega
  have hok1:ops[k]? =some ops[k]:=q6 hkl
  rw [List.drop_eq_getElem_cons hkl] at hsl
  generalize ops[k]=o at hok1 hsl
  obtain ⟨fuel,rfl⟩:∃f,fuel=f+1:=⟨fuel-1,by omega⟩
  have hclosed:Closed ops (fun i=>listed.getD i false):=by
   intro j oj hoj hdj i hi
   have hjn:=(q7.1 hoj).1
   have h1:=hu.2 j hjn
   have h2:=back_of hs j oj hoj i hi
   have h3:=hu.2 i (by omega)
   simp only at hdj ⊢
   rw [h1] at hdj
   rw [h3]
   simp at hdj ⊢;omega
  have hready:k∈Region.ready .any ops.toArray listed:=by
   refine mem_ready.2 ⟨?_,o,by simpa using hok1,fun e he hb=> ?_⟩
   · have h5:listed.getD k false=false:=by rw [hu.2 k hkl];exact decide_eq_false (Nat.lt_irrefl k)
     exact getD_in (by rw [hu.1];exact hkl) h5
   · have hp:e.on∈preds o:=q11.2 ⟨e,q10.2 ⟨by simpa using he,hb⟩,rfl⟩
     have hlt:=back_of hs k o hok1 _ hp
     rw [hu.2 e.on (by omega)];simpa using hlt
  refine ⟨fun hr=>(by rw [hr] at hready;exact absurd hready List.not_mem_nil),fun j hj=> ?_⟩
  obtain ⟨h0,oj,hoj,hpre⟩:=mem_ready.1 hj
  have hdj:listed.getD j false=false:=getD_both h0
  have hoj':ops[j]? =some oj:=by simpa using hoj
  have hjn:j<ops.length:=(q7.1 hoj').1
  have hjk:k≤j:=by
   have:=hu.2 j hjn
   rw [hdj] at this;simp at this;omega
  have hp:∀i,i∈preds oj→listed.getD i false=true:=by
   intro i hi
   obtain ⟨e,he,rfl⟩:=q11.1 hi
   obtain ⟨he1,he2⟩:=q10.1 he
   exact hpre e (by simpa using he1) he2
  have e:j=k:=by
   rcases q20 k j with hlt|hge
   · have hadd:=hclosed.add hoj' hp
     have:=solo_out hs hadd hjn (by omega) (by simp [addD]) k hlt
     simp only [addD,hu.2 k hkl,Bool.or_eq_true,beq_iff_eq] at this
     simp at this;omega
   · omega
  subst e
  rw [hok1] at hoj'
  injection hoj' with hoj'
  subst hoj'
  have hup:Upk ops (j+1) (listed.setIfInBounds j true):=by
   refine ⟨by simp [hu.1],fun i hi=> ?_⟩
   by_cases e:i=j
   · subst e;simp [hu.1,hi]
   · rw [getD_set_ne false (Ne.symm e),hu.2 i hi]
     simp;omega
  have hdo:∀d,o.dst=some d→d<N:=by
   intro d hd
   have:=q3.1 hok o (q12 hok1)
   rw [hd] at this;simpa using this
  have next:∀a' w',Done B N (fun ts m=>sL P ops (ops.drop (j+1)) ts m K) a' w'→wpAny P .any ops.toArray Q fuel (listed.setIfInBounds j true) a' w':=by
   rintro a' w' ⟨φ',fp',S',ts',m',h',hk'⟩
   exact ih (j+1) fuel _ φ' fp' S' ts' m' a' w' (by omega) (by omega) (by omega) hup (by omega) h' hk'
  unfold wpOp
  have hoA:ops.toArray[j]? =some o:=by simpa using hok1
  simp only [hoA]
  simp only [sL] at hsl
  cases hg:o.guard with
  |none=>
   rw [hg] at hsl
   rw [wanted_of h hgs hok1 (show want1 ops o ts=some true by simp [want1,hg])]
   simp only [if_true]
   exact .inl (op_sound h hsl fun v w' hgv=>next _ _ (step_done hdo hgv fun x m' hx=>hx))
  |some jw=>
   obtain ⟨g,want⟩:=jw
   rw [hg] at hsl
   simp only at hsl
   unfold sGuard at hsl
   split at hsl
   · rename_i c hy
     by_cases hcw:c=want
     · subst hcw
       rw [wanted_of h hgs hok1 (show want1 ops o ts=some true by simp [want1,hg,hy])]
       simp only [if_true]
       exact .inl (op_sound h (hsl.1 rfl) fun v w' hgv=>next _ _ (step_done hdo hgv fun x m' hx=>hx))
     · rw [wanted_of h hgs hok1 (show want1 ops o ts=some false by simp [want1,hg,hy,hcw])]
       simp only [q2,if_false]
       have hk2:=hsl.2 hcw
       refine next _ _ (step_done (k:=fun x m'=>x= .tup []∧m'=m) hdo (h.gives (x:=.tup []) (.rd _ _ (.tup [] #[] rfl fun i hi=>absurd hi (q22 _))) (fun _ _ hl=>by cases hl) ⟨rfl,rfl,rfl⟩) fun x m' ⟨h1,h2⟩=> ?_)
       rw [h1,h2];exact hk2
   · rename_i hy
     rw [wanted_of h hgs hok1 (show want1 ops o ts=some false by simp [want1,hg,hy])]
     simp only [q2,if_false]
     refine next _ _ (step_done (k:=fun x m'=>x= .tup []∧m'=m) hdo (h.gives (x:=.tup []) (.rd _ _ (.tup [] #[] rfl fun i hi=>absurd hi (q22 _))) (fun _ _ hl=>by cases hl) ⟨rfl,rfl,rfl⟩) fun x m' ⟨h1,h2⟩=> ?_)
     rw [h1,h2];exact hsl
   · exact hsl.elim
theorem count_ge {f:Nat→Bool} {n:Nat}:∀N,(∀i,n≤i→i<N→f i=true)→N-n≤(List.range N).countP f
 |0,_=>by omega
 |N+1,h=>by
  rw [q15,List.countP_append]
  have:=count_ge (f:=f) (n:=n) N fun i h1 h2=>h i h1 (by omega)
  by_cases e:n≤N
  · have h1:=h N e (by omega)
    have h2:List.countP f [N]=1:=by simp [h1]
    omega
  · omega
theorem take_get {n i:Nat} (h:i<n):(ops.take n)[i]? =ops[i]? :=by rw [List.getElem?_take];simp [h]
def gLow (n:Nat) (ops:List Oper):Bool:=(ops.take n).all fun o=>match o.guard with|some (j,_)=>decide (j<n)|none=>true
theorem want1_take {n j:Nat} {o:Oper} (hg:gLow n ops=true) (ho:(ops.take n)[j]? =some o) (ts:Env):want1 (ops.take n) o ts=want1 ops o ts:=by
 have:=q3.1 hg o (q12 ho)
 unfold want1
 cases hg:o.guard with
 |none=>rfl
 |some iv=>
  obtain ⟨i,v⟩:=iv
  rw [hg] at this
  simp only [decide_eq_true_eq] at this
  simp only [dstOf]
  rw [take_get this]
theorem solo_sound {n:Nat} (hn:n≤ops.length) (hs:soloB ops n=true) (hgl:gLow n ops=true) {ts0:Env} {m0:Mem} (hR:Ran P 0 (ops.take n) os qs tr ts0 m0) (hB:drawB (ops.take n) tr=true) (hok:opsOk N ops=true) (hgs:guardsOk N ops=true) {Q:Exit→Act→World→Prop} {K:St}
 (hK:sL P ops (ops.drop n) (Stt os qs (fun _=>true) ts0 m0 n).1 (Stt os qs (fun _=>true) ts0 m0 n).2 K) (hQ:∀a w,Done B N K a w→Q .normal a w):
 ∀(fuel:Nat) (listed:Array Bool) (φ:Nat→LS) (fp:Nat→List Nat) (S:Nat→Prop) (a:Act) (w:World),listed.size=ops.length→Closed ops (fun i=>listed.getD i false)→(∀i,n≤i→listed.getD i false=false)→unl ops.length listed≤fuel→
  RS B N φ fp S (Stt os qs (fun i=>listed.getD i false) ts0 m0 n).1 (Stt os qs (fun i=>listed.getD i false) ts0 m0 n).2 a w→wpAny P .any ops.toArray Q fuel listed a w:=by
 have hlen:(ops.take n).length=n:=by simp;omega
 have hback:=back_of hs
 have full:∀(fuel:Nat) (listed:Array Bool) (φ:Nat→LS) (fp:Nat→List Nat) (S:Nat→Prop) (a:Act) (w:World),listed.size=ops.length→(∀i,n≤i→listed.getD i false=false)→unl ops.length listed≤fuel→
  (∀i,i<n→listed.getD i false=true)→RS B N φ fp S (Stt os qs (fun i=>listed.getD i false) ts0 m0 n).1 (Stt os qs (fun i=>listed.getD i false) ts0 m0 n).2 a w→wpAny P .any ops.toArray Q fuel listed a w:=by
  intro fuel listed φ fp S a w hsz hlo hf hall h
  have e:Stt os qs (fun i=>listed.getD i false) ts0 m0 n=Stt os qs (fun _=>true) ts0 m0 n:=Stt_prefix n (q18 _) fun q hq=>hall q hq
  rw [e] at h
  refine tail_sound hs hok hgs hQ _ n fuel listed φ fp S _ _ a w rfl (q18 _) hn ⟨hsz,fun i _=> ?_⟩ ?_ h hK
  · by_cases hi:i<n
    · rw [hall i hi];simp [hi]
    · rw [hlo i (by omega)];simp [hi]
  · refine q19 (count_ge _ fun i h1 _=> ?_) hf
    rw [hlo i h1];rfl
 intro fuel
 induction fuel with
 |zero=>
  intro listed φ fp S a w hsz hc hlo hf h
  refine full 0 listed φ fp S a w hsz hlo hf (fun i hi=> ?_) h
  cases hl:listed.getD i false with
  |true=>rfl
  |false=>
   have h0:unl ops.length listed=0:=Nat.le_zero.1 hf
   have:=List.countP_eq_zero.1 h0 i (q13.2 (by omega))
   rw [hl] at this;exact absurd rfl this
 |succ fuel ih=>
  intro listed φ fp S a w hsz hc hlo hf h
  by_cases hall:∀i,i<n→listed.getD i false=true
  · exact full _ listed φ fp S a w hsz hlo hf hall h
  · obtain ⟨i0,hi0⟩:=Classical.not_forall.1 hall
    obtain ⟨hi0n,hi0⟩:=Classical.not_imp.1 hi0
    have hi0:listed.getD i0 false=false:=by simpa using hi0
    refine ⟨fun hr=> ?_,fun j hj=> ?_⟩
    · exfalso
      have:∀i,i<ops.length→listed.getD i false=true:=by
       intro i
       induction i using Nat.strongRecOn with
       |ind i ih=>
        intro hi
        cases hl:listed.getD i false with
        |true=>rfl
        |false=>
         have ho:ops[i]? =some ops[i]:=q6 hi
         have:i∈Region.ready .any ops.toArray listed:=mem_ready.2 ⟨getD_in (by omega) hl,ops[i],by simpa using ho,fun e he hb=>by
          have hp:e.on∈preds ops[i]:=q11.2 ⟨e,q10.2 ⟨by simpa using he,hb⟩,rfl⟩
          have hlt:=hback i _ ho _ hp
          exact ih e.on hlt (by omega)⟩
         rw [hr] at this;cases this
      rw [this i0 (by omega)] at hi0;cases hi0
    · obtain ⟨h0,o,ho,hpre⟩:=mem_ready.1 hj
      have hdj:listed.getD j false=false:=getD_both h0
      have ho':ops[j]? =some o:=by simpa using ho
      have hjn:j<ops.length:=(q7.1 ho').1
      have hp:∀i,i∈preds o→listed.getD i false=true:=by
       intro i hi
       obtain ⟨e,he,rfl⟩:=q11.1 hi
       obtain ⟨he1,he2⟩:=q10.1 he
       exact hpre e (by simpa using he1) he2
      have hjn':j<n:=by
       rcases q20 j n with hlt|hge
       · exact hlt
       · have:=solo_out hs (hc.add ho' hp) hjn hge (by simp [addD]) i0 (by omega)
         simp only [addD,hi0,Bool.false_or,beq_iff_eq] at this
         omega
      have hot:(ops.take n)[j]? =some o:=(take_get hjn').trans ho'
      have hct:Closed (ops.take n) (fun i=>listed.getD i false):=fun k ok hk=>by
       have hkn:=(q7.1 hk).1
       rw [hlen] at hkn
       exact hc k ok ((take_get hkn).symm.trans hk)
      obtain ⟨⟨rd,hya⟩,hlk,hlb⟩:=hR.turn (D:=fun i=>listed.getD i false) hB hct (fun i hi=>by
       rw [hlen]
       rcases q20 i n with h'|h'
       · exact h'
       · rw [hlo i h'] at hi;cases hi) (fun i hi=>absurd hi (q22 _)) hot hdj hp
      rw [hlen] at hya hlk hlb
      have hD':(fun i=>(listed.setIfInBounds j true).getD i false)=addD (fun i=>listed.getD i false) j:=by
       funext i
       by_cases e:i=j
       · subst e
         simp [addD,hsz,hjn]
       · have e2:(i==j)=false:=by simpa using e
         rw [getD_set_ne false (Ne.symm e)]
         simp [addD,e2]
      have hf':unl ops.length (listed.setIfInBounds j true)≤fuel:=by
       have:unl ops.length (listed.setIfInBounds j true)<unl ops.length listed:=by
        refine countP_lt _ j (q13.2 hjn) (by simp only [hdj];rfl) (by simp [hsz,hjn]) fun i hi=> ?_
        by_cases e:i=j
        · subst e;rw [hdj];rfl
        · rw [getD_set_ne false (Ne.symm e)] at hi;exact hi
       omega
      have next:∀a' w',Done B N (fun ts m=>ts=putE o.dst (qs j).x (Stt os qs (fun i=>listed.getD i false) ts0 m0 n).1∧m=(qs j).new++(Stt os qs (fun i=>listed.getD i false) ts0 m0 n).2) a' w'→
       wpAny P .any ops.toArray Q fuel (listed.setIfInBounds j true) a' w':=by
       rintro a' w' ⟨φ',fp',S',ts',m',h',rfl,rfl⟩
       refine ih _ φ' fp' S' a' w' (by simp [hsz]) (by rw [hD'];exact hc.add ho' hp) (fun i hi=> ?_) hf' ?_
       · rw [getD_set_ne false (by omega)];exact hlo i hi
       · rw [hD']
         exact h'.ext hlk hlb
      have hdo:∀d,o.dst=some d→d<N:=by
       intro d hd
       have:=q3.1 hok o (q12 ho')
       rw [hd] at this;simpa using this
      have hwt:=want1_take hgl hot
      unfold wpOp
      simp only [ho]
      rcases hya with ⟨hw,_,hrun⟩|⟨hw,hx,hnew⟩
      · rw [hwt] at hw
        rw [wanted_of h hgs ho' hw]
        simp only [if_true]
        refine .inl (op_sound h (sOp_of_D (hrun _ (fun _ _=>rfl) (fun _ _=>rfl) (fun x m'=>x=(qs j).x∧m'=(qs j).new++(Stt os qs (fun i=>listed.getD i false) ts0 m0 n).2) ⟨rfl,rfl⟩)) fun v w' hg=> ?_)
        exact next _ _ (step_done hdo hg fun x m' ⟨h1,h2⟩=>⟨by rw [h1],h2⟩)
      · rw [hwt] at hw
        rw [wanted_of h hgs ho' hw]
        simp only [q2,if_false]
        refine next _ _ (step_done (k:=fun x m'=>x= .tup []∧m'=(Stt os qs (fun i=>listed.getD i false) ts0 m0 n).2) hdo (h.gives (x:=.tup []) (.rd _ _ (.tup [] #[] rfl fun i hi=>absurd hi (q22 _))) (fun _ _ hl=>by cases hl) ⟨rfl,rfl,rfl⟩) fun x m' ⟨h1,h2⟩=>⟨by rw [h1,hx],by rw [h2,hnew];rfl⟩)
end
theorem Later.solo (n:Nat) {P:Program} {N i:Nat} {ops:List Oper} {ts:Env} {m:Mem} {Q:Post} {q:Pack (Code.region i ⟨ops⟩ true,Q)} (hm:P.follows .mixedOrders=true) (hok:(opsOk N ops&&guardsOk N ops&&(gLow n ops&&(soloB ops n&&decide (n≤ops.length))))=true)
 (h:sD P (ops.take n) (ops.take n) ts m [] fun ts' m'=>sL P ops (ops.drop n) ts' m' (Q .normal)):Later P N (.region i ⟨ops⟩ true) ts m Q q:=by
 refine ⟨fun B φ fp S a w hRS=> ?_⟩
 simp only [q1,decide_eq_true_eq] at hok
 have hlen:(ops.take n).length=n:=by simp;omega
 obtain ⟨qs,tr,hR,hB,hK,_⟩:=sD_out (os:=fun i=>(ops[i]?).getD default) (ts0:=ts) (m0:=m) (sk:=0) (fun i o _ ho=>by
  have hi:=(q7.1 ho).1
  rw [hlen] at hi
  rw [take_get hi] at ho
  simp [ho]) (ops.take n) 0 (fun _=>⟨.undef,[]⟩) [] ts m rfl (q18 _) (q23 _) rfl rfl (fun i o _ hi=>absurd hi (q22 _)) h
 rw [hlen] at hK
 refine wp_region_any hm ?_
 refine solo_sound (B:=B) (N:=N) hok.2.2.2 hok.2.2.1 hok.2.1 hR hB hok.1.1 hok.1.2 hK (fun a w hd=>hd) _ _ φ fp S a _ (by simp) ?_ ?_ ?_ ?_
 · intro j o _ hd
   have hd:(Array.replicate (List.toArray ops).size false).getD j false=true:=hd
   rw [getD_replicate_false] at hd;cases hd
 · exact fun i _=>getD_replicate_false _ _
 · exact q19 List.countP_le_length (by simp)
 · have e:(fun i=>(Array.replicate (List.toArray ops).size false).getD i false)=fun _=>false:=funext fun i=>getD_replicate_false _ _
   have e2:=Stt_stop (os:=fun i=>(ops[i]?).getD default) (qs:=qs) (D:=fun _=>false) (ts:=ts) (m:=m) (j:=0) (fun _ _=>rfl) n (q23 _)
   show RS B N φ fp S (Stt _ qs (fun i=>(Array.replicate (List.toArray ops).size false).getD i false) ts m n).1 (Stt _ qs (fun i=>(Array.replicate (List.toArray ops).size false).getD i false) ts m n).2 a {w with drawn:=w.drawn+1}
   rw [e,e2]
   exact hRS.sameHeap rfl ⟨rfl,rfl,rfl⟩
end Go.Vc
namespace Go.Vc
def waitB (ops:List Oper) (n:Nat):Bool:=backB ops&&(List.range ops.length).all fun j=>decide (j<n)||(List.range n).all fun i=>((ancsGo ops []).getD j []).contains i
section
variable {P:Program} {B:Base} {N:Nat} {φ:Nat→LS} {fp:Nat→List Nat} {S:Nat→Prop} {ts:Env} {m:Mem} {a:Act} {w:World}
variable {os:Nat→Oper} {qs:Nat→Rec} {D D':Nat→Bool} {ops:List Oper} {tr:List (List Nat × List Nat)}
theorem wait_out {n:Nat} (h:waitB ops n=true) (hD:Closed ops D) {j:Nat} (hj:j<ops.length) (hn:n≤j) (hd:D j=true):∀i,i<n→D i=true:=by
 intro i hi
 simp only [waitB,q1,q3,q13,Bool.or_eq_true,decide_eq_true_eq,List.contains_eq_mem] at h
 rcases h.2 j hj with h1|h1
 · omega
 · exact ancsGo_closed hD ops [] rfl (fun j x hx=>by simp at hx) j i (h1 i hi) hd
theorem wait_back {n:Nat} (h:waitB ops n=true):∀i o,ops[i]? =some o→∀p,p∈preds o→p<i:=by
 intro i o ho p hp
 simp only [waitB,backB,q1,q3,q13] at h
 have:=h.1 i (q7.1 ho).1
 rw [ho] at this
 simpa using q3.1 this p hp
theorem pre_sound {n:Nat} (hn:n≤ops.length) (hs:waitB ops n=true) (hgl:gLow n ops=true) {ts0:Env} {m0:Mem} (hR:Ran P 0 (ops.take n) os qs tr ts0 m0) (hB:drawB (ops.take n) tr=true) (hok:opsOk N ops=true) (hgs:guardsOk N ops=true)
 {Q:Exit→Act→World→Prop} {KN:St} (hK:KN (Stt os qs (fun _=>true) ts0 m0 n).1 (Stt os qs (fun _=>true) ts0 m0 n).2)
 (hfull:∀(fuel:Nat) (listed:Array Bool) (φ:Nat→LS) (fp:Nat→List Nat) (S:Nat→Prop) (ts:Env) (m:Mem) (a:Act) (w:World),Upk ops n listed→ops.length-n≤fuel→RS B N φ fp S ts m a w→KN ts m→wpAny P .any ops.toArray Q fuel listed a w):
 ∀(fuel:Nat) (listed:Array Bool) (φ:Nat→LS) (fp:Nat→List Nat) (S:Nat→Prop) (a:Act) (w:World),listed.size=ops.length→Closed ops (fun i=>listed.getD i false)→(∀i,n≤i→listed.getD i false=false)→unl ops.length listed≤fuel→
  RS B N φ fp S (Stt os qs (fun i=>listed.getD i false) ts0 m0 n).1 (Stt os qs (fun i=>listed.getD i false) ts0 m0 n).2 a w→wpAny P .any ops.toArray Q fuel listed a w:=by
 have hlen:(ops.take n).length=n:=by simp;omega
 have hback:=wait_back hs
 have full:∀(fuel:Nat) (listed:Array Bool) (φ:Nat→LS) (fp:Nat→List Nat) (S:Nat→Prop) (a:Act) (w:World),listed.size=ops.length→(∀i,n≤i→listed.getD i false=false)→unl ops.length listed≤fuel→
  (∀i,i<n→listed.getD i false=true)→RS B N φ fp S (Stt os qs (fun i=>listed.getD i false) ts0 m0 n).1 (Stt os qs (fun i=>listed.getD i false) ts0 m0 n).2 a w→wpAny P .any ops.toArray Q fuel listed a w:=by
  intro fuel listed φ fp S a w hsz hlo hf hall h
  have e:Stt os qs (fun i=>listed.getD i false) ts0 m0 n=Stt os qs (fun _=>true) ts0 m0 n:=Stt_prefix n (q18 _) fun q hq=>hall q hq
  rw [e] at h
  refine hfull fuel listed φ fp S _ _ a w ⟨hsz,fun i _=> ?_⟩ ?_ h hK
  · by_cases hi:i<n
    · rw [hall i hi];simp [hi]
    · rw [hlo i (by omega)];simp [hi]
  · refine q19 (count_ge _ fun i h1 _=> ?_) hf
    rw [hlo i h1];rfl
 intro fuel
 induction fuel with
 |zero=>
  intro listed φ fp S a w hsz hc hlo hf h
  refine full 0 listed φ fp S a w hsz hlo hf (fun i hi=> ?_) h
  cases hl:listed.getD i false with
  |true=>rfl
  |false=>
   have h0:unl ops.length listed=0:=Nat.le_zero.1 hf
   have:=List.countP_eq_zero.1 h0 i (q13.2 (by omega))
   rw [hl] at this;exact absurd rfl this
 |succ fuel ih=>
  intro listed φ fp S a w hsz hc hlo hf h
  by_cases hall:∀i,i<n→listed.getD i false=true
  · exact full _ listed φ fp S a w hsz hlo hf hall h
  · obtain ⟨i0,hi0⟩:=Classical.not_forall.1 hall
    obtain ⟨hi0n,hi0⟩:=Classical.not_imp.1 hi0
    have hi0:listed.getD i0 false=false:=by simpa using hi0
    refine ⟨fun hr=> ?_,fun j hj=> ?_⟩
    · exfalso
      have:∀i,i<ops.length→listed.getD i false=true:=by
       intro i
       induction i using Nat.strongRecOn with
       |ind i ih=>
        intro hi
        cases hl:listed.getD i false with
        |true=>rfl
        |false=>
         have ho:ops[i]? =some ops[i]:=q6 hi
         have:i∈Region.ready .any ops.toArray listed:=mem_ready.2 ⟨getD_in (by omega) hl,ops[i],by simpa using ho,fun e he hb=>by
          have hp:e.on∈preds ops[i]:=q11.2 ⟨e,q10.2 ⟨by simpa using he,hb⟩,rfl⟩
          have hlt:=hback i _ ho _ hp
          exact ih e.on hlt (by omega)⟩
         rw [hr] at this;cases this
      rw [this i0 (by omega)] at hi0;cases hi0
    · obtain ⟨h0,o,ho,hpre⟩:=mem_ready.1 hj
      have hdj:listed.getD j false=false:=getD_both h0
      have ho':ops[j]? =some o:=by simpa using ho
      have hjn:j<ops.length:=(q7.1 ho').1
      have hp:∀i,i∈preds o→listed.getD i false=true:=by
       intro i hi
       obtain ⟨e,he,rfl⟩:=q11.1 hi
       obtain ⟨he1,he2⟩:=q10.1 he
       exact hpre e (by simpa using he1) he2
      have hjn':j<n:=by
       rcases q20 j n with hlt|hge
       · exact hlt
       · have:=wait_out hs (hc.add ho' hp) hjn hge (by simp [addD]) i0 hi0n
         simp only [addD,hi0,Bool.false_or,beq_iff_eq] at this
         omega
      have hot:(ops.take n)[j]? =some o:=(take_get hjn').trans ho'
      have hct:Closed (ops.take n) (fun i=>listed.getD i false):=fun k ok hk=>by
       have hkn:=(q7.1 hk).1
       rw [hlen] at hkn
       exact hc k ok ((take_get hkn).symm.trans hk)
      obtain ⟨⟨rd,hya⟩,hlk,hlb⟩:=hR.turn (D:=fun i=>listed.getD i false) hB hct (fun i hi=>by
       rw [hlen]
       rcases q20 i n with h'|h'
       · exact h'
       · rw [hlo i h'] at hi;cases hi) (fun i hi=>absurd hi (q22 _)) hot hdj hp
      rw [hlen] at hya hlk hlb
      have hD':(fun i=>(listed.setIfInBounds j true).getD i false)=addD (fun i=>listed.getD i false) j:=by
       funext i
       by_cases e:i=j
       · subst e
         simp [addD,hsz,hjn]
       · have e2:(i==j)=false:=by simpa using e
         rw [getD_set_ne false (Ne.symm e)]
         simp [addD,e2]
      have hf':unl ops.length (listed.setIfInBounds j true)≤fuel:=by
       have:unl ops.length (listed.setIfInBounds j true)<unl ops.length listed:=by
        refine countP_lt _ j (q13.2 hjn) (by simp only [hdj];rfl) (by simp [hsz,hjn]) fun i hi=> ?_
        by_cases e:i=j
        · subst e;rw [hdj];rfl
        · rw [getD_set_ne false (Ne.symm e)] at hi;exact hi
       omega
      have next:∀a' w',Done B N (fun ts m=>ts=putE o.dst (qs j).x (Stt os qs (fun i=>listed.getD i false) ts0 m0 n).1∧m=(qs j).new++(Stt os qs (fun i=>listed.getD i false) ts0 m0 n).2) a' w'→
       wpAny P .any ops.toArray Q fuel (listed.setIfInBounds j true) a' w':=by
       rintro a' w' ⟨φ',fp',S',ts',m',h',rfl,rfl⟩
       refine ih _ φ' fp' S' a' w' (by simp [hsz]) (by rw [hD'];exact hc.add ho' hp) (fun i hi=> ?_) hf' ?_
       · rw [getD_set_ne false (by omega)];exact hlo i hi
       · rw [hD']
         exact h'.ext hlk hlb
      have hdo:∀d,o.dst=some d→d<N:=by
       intro d hd
       have:=q3.1 hok o (q12 ho')
       rw [hd] at this;simpa using this
      have hwt:=want1_take hgl hot
      unfold wpOp
      simp only [ho]
      rcases hya with ⟨hw,_,hrun⟩|⟨hw,hx,hnew⟩
      · rw [hwt] at hw
        rw [wanted_of h hgs ho' hw]
        simp only [if_true]
        refine .inl (op_sound h (sOp_of_D (hrun _ (fun _ _=>rfl) (fun _ _=>rfl) (fun x m'=>x=(qs j).x∧m'=(qs j).new++(Stt os qs (fun i=>listed.getD i false) ts0 m0 n).2) ⟨rfl,rfl⟩)) fun v w' hg=> ?_)
        exact next _ _ (step_done hdo hg fun x m' ⟨h1,h2⟩=>⟨by rw [h1],h2⟩)
      · rw [hwt] at hw
        rw [wanted_of h hgs ho' hw]
        simp only [q2,if_false]
        refine next _ _ (step_done (k:=fun x m'=>x= .tup []∧m'=(Stt os qs (fun i=>listed.getD i false) ts0 m0 n).2) hdo (h.gives (x:=.tup []) (.rd _ _ (.tup [] #[] rfl fun i hi=>absurd hi (q22 _))) (fun _ _ hl=>by cases hl) ⟨rfl,rfl,rfl⟩) fun x m' ⟨h1,h2⟩=>⟨by rw [h1,hx],by rw [h2,hnew];rfl⟩)
theorem one_sound {n:Nat} (hw:waitB ops (n+1)=true) (hok:opsOk N ops=true) (hgs:guardsOk N ops=true) {o:Oper} (hon:ops[n]? =some o) {KC:St} {Q:Exit→Act→World→Prop} {fuel:Nat} {listed:Array Bool}
 (hu:Upk ops n listed) (h:RS B N φ fp S ts m a w) (hsl:sL P ops [o] ts m KC)
 (hcont:∀(φ:Nat→LS) (fp:Nat→List Nat) (S:Nat→Prop) (ts:Env) (m:Mem) (a:Act) (w:World),RS B N φ fp S ts m a w→KC ts m→wpAny P .any ops.toArray Q fuel (listed.setIfInBounds n true) a w):
 wpAny P .any ops.toArray Q (fuel+1) listed a w:=by
 have hnl:n<ops.length:=(q7.1 hon).1
 have hback:=wait_back hw
 have hclosed:Closed ops (fun i=>listed.getD i false):=by
  intro j oj hoj hdj i hi
  have hjn:=(q7.1 hoj).1
  have h1:=hu.2 j hjn
  have h2:=hback j oj hoj i hi
  have h3:=hu.2 i (by omega)
  simp only at hdj ⊢
  rw [h1] at hdj
  rw [h3]
  simp at hdj ⊢;omega
 have hready:n∈Region.ready .any ops.toArray listed:=by
  refine mem_ready.2 ⟨?_,o,by simpa using hon,fun e he hb=> ?_⟩
  · have h5:listed.getD n false=false:=by rw [hu.2 n hnl];exact decide_eq_false (Nat.lt_irrefl n)
    exact getD_in (by rw [hu.1];exact hnl) h5
  · have hp:e.on∈preds o:=q11.2 ⟨e,q10.2 ⟨by simpa using he,hb⟩,rfl⟩
    have hlt:=hback n o hon _ hp
    rw [hu.2 e.on (by omega)];simpa using hlt
 refine ⟨fun hr=>(by rw [hr] at hready;exact absurd hready List.not_mem_nil),fun j hj=> ?_⟩
 obtain ⟨h0,oj,hoj,hpre⟩:=mem_ready.1 hj
 have hdj:listed.getD j false=false:=getD_both h0
 have hoj':ops[j]? =some oj:=by simpa using hoj
 have hjn:j<ops.length:=(q7.1 hoj').1
 have hjk:n≤j:=by
  have:=hu.2 j hjn
  rw [hdj] at this;simp at this;omega
 have hp:∀i,i∈preds oj→listed.getD i false=true:=by
  intro i hi
  obtain ⟨e,he,rfl⟩:=q11.1 hi
  obtain ⟨he1,he2⟩:=q10.1 he
  exact hpre e (by simpa using he1) he2
 have e:j=n:=by
  rcases q20 n j with hlt|hge
  · have hadd:=hclosed.add hoj' hp
    have:=wait_out hw hadd hjn (by omega) (by simp [addD]) n (by omega)
    simp only [addD,hu.2 n hnl,Bool.or_eq_true,beq_iff_eq] at this
    simp at this;omega
  · omega
 subst e
 rw [hon] at hoj'
 injection hoj' with hoj'
 subst hoj'
 have hdo:∀d,o.dst=some d→d<N:=by
  intro d hd
  have:=q3.1 hok o (q12 hon)
  rw [hd] at this;simpa using this
 have next:∀a' w',Done B N KC a' w'→wpAny P .any ops.toArray Q fuel (listed.setIfInBounds j true) a' w':=by
  rintro a' w' ⟨φ',fp',S',ts',m',h',hk'⟩
  exact hcont φ' fp' S' ts' m' a' w' h' hk'
 unfold wpOp
 have hoA:ops.toArray[j]? =some o:=by simpa using hon
 simp only [hoA]
 simp only [sL] at hsl
 cases hg:o.guard with
 |none=>
  rw [hg] at hsl
  rw [wanted_of h hgs hon (show want1 ops o ts=some true by simp [want1,hg])]
  simp only [if_true]
  exact .inl (op_sound h hsl fun v w' hgv=>next _ _ (step_done hdo hgv fun x m' hx=>hx))
 |some jw=>
  obtain ⟨g,want⟩:=jw
  rw [hg] at hsl
  simp only at hsl
  unfold sGuard at hsl
  split at hsl
  · rename_i c hy
    by_cases hcw:c=want
    · subst hcw
      rw [wanted_of h hgs hon (show want1 ops o ts=some true by simp [want1,hg,hy])]
      simp only [if_true]
      exact .inl (op_sound h (hsl.1 rfl) fun v w' hgv=>next _ _ (step_done hdo hgv fun x m' hx=>hx))
    · rw [wanted_of h hgs hon (show want1 ops o ts=some false by simp [want1,hg,hy,hcw])]
      simp only [q2,if_false]
      have hk2:=hsl.2 hcw
      refine next _ _ (step_done (k:=fun x m'=>x= .tup []∧m'=m) hdo (h.gives (x:=.tup []) (.rd _ _ (.tup [] #[] rfl fun i hi=>absurd hi (q22 _))) (fun _ _ hl=>by cases hl) ⟨rfl,rfl,rfl⟩) fun x m' ⟨h1,h2⟩=> ?_)
      rw [h1,h2];exact hk2
  · rename_i hy
    rw [wanted_of h hgs hon (show want1 ops o ts=some false by simp [want1,hg,hy])]
    simp only [q2,if_false]
    refine next _ _ (step_done (k:=fun x m'=>x= .tup []∧m'=m) hdo (h.gives (x:=.tup []) (.rd _ _ (.tup [] #[] rfl fun i hi=>absurd hi (q22 _))) (fun _ _ hl=>by cases hl) ⟨rfl,rfl,rfl⟩) fun x m' ⟨h1,h2⟩=> ?_)
    rw [h1,h2];exact hsl
  · exact hsl.elim
theorem Stt_idle {n:Nat} {x:AV} {ts:Env} {m:Mem} (f:Nat→Oper) (hd:∀i,i<n→(f i).dst=none):∀i,i≤n→Stt f (fun _=>⟨x,[]⟩) (fun _=>true) ts m i=(ts,m)
 |0,_=>rfl
 |i+1,hi=>by
  simp only [Stt,if_true]
  rw [Stt_idle f hd i (by omega),hd i (by omega)]
  rfl
end
def idleOp:Oper:={(default:Oper) with dst:=none}
theorem Later.duo (n:Nat) {P:Program} {N i:Nat} {ops:List Oper} {ts:Env} {m:Mem} {Q:Post} {q:Pack (Code.region i ⟨ops⟩ true,Q)} (hm:P.follows .mixedOrders=true)
 (hok:(opsOk N ops&&guardsOk N ops&&(gLow n ops&&(waitB ops n&&(waitB ops (n+1)&&decide (n<ops.length)))))=true)
 (h:sD P (ops.take n) (ops.take n) ts m [] fun ts' m'=>sL P ops ((ops.drop n).take 1) ts' m' fun ts'' m''=>sD P ops (ops.drop (n+1)) ts'' m'' (List.replicate (n+1) ([],[])) (Q .normal)):Later P N (.region i ⟨ops⟩ true) ts m Q q:=by
 refine ⟨fun B φ fp S a w hRS=> ?_⟩
 simp only [q1,decide_eq_true_eq] at hok
 obtain ⟨⟨hok1,hok2⟩,hgl,hw,hw1,hn⟩:=hok
 have hlen:(ops.take n).length=n:=by simp;omega
 obtain ⟨qs,tr,hR,hB,hK,_⟩:=sD_out (os:=fun i=>(ops[i]?).getD default) (ts0:=ts) (m0:=m) (sk:=0) (fun i o _ ho=>by
  have hi:=(q7.1 ho).1
  rw [hlen] at hi
  rw [take_get hi] at ho
  simp [ho]) (ops.take n) 0 (fun _=>⟨.undef,[]⟩) [] ts m rfl (q18 _) (q23 _) rfl rfl (fun i o _ hi=>absurd hi (q22 _)) h
 rw [hlen] at hK
 have hon:ops[n]? =some ops[n]:=q6 hn
 have hdt:(ops.drop n).take 1=[ops[n]]:=by rw [List.drop_eq_getElem_cons hn];rfl
 rw [hdt] at hK
 refine wp_region_any hm ?_
 refine pre_sound (B:=B) (N:=N) (KN:=fun ts' m'=>sL P ops [ops[n]] ts' m' fun ts'' m''=>sD P ops (ops.drop (n+1)) ts'' m'' (List.replicate (n+1) ([],[])) (Q .normal)) (by omega) hw hgl hR hB hok1 hok2 hK ?_ _ _ φ fp S a _ (by simp) ?_ ?_ ?_ ?_
 · intro fuel listed φ fp S ts m a w hu hf h1 hsl
   obtain ⟨fuel,rfl⟩:∃f,fuel=f+1:=⟨fuel-1,by omega⟩
   refine one_sound hw1 hok1 hok2 hon hu h1 hsl fun φ fp S ts m a w h2 hsd=> ?_
   have hsz:(listed.setIfInBounds n true).size=ops.length:=by simp [hu.1]
   have hup:∀i,i<ops.length→(listed.setIfInBounds n true).getD i false=decide (i<n+1):=by
    intro i hi
    by_cases e:i=n
    · subst e;simp [hu.1,hi]
    · rw [getD_set_ne false (Ne.symm e),hu.2 i hi]
      simp;omega
   have hid:∀i,i≤n+1→Stt (fun i=>if i<n+1 then idleOp else (ops[i]?).getD default) (fun _=>⟨.undef,[]⟩) (fun _=>true) ts m i=(ts,m):=Stt_idle (n:=n+1) _ fun i hi=>by simp only [hi,if_true];rfl
   obtain ⟨qs2,tr2,hR2,hB2,hK2,hq2⟩:=sD_out (os:=fun i=>if i<n+1 then idleOp else (ops[i]?).getD default) (ts0:=ts) (m0:=m) (sk:=n+1) (fun i o hi ho=>by simp only [Nat.not_lt.2 hi,if_false];simp [ho]) (ops.drop (n+1)) (n+1)
    (fun _=>⟨.undef,[]⟩) (List.replicate (n+1) ([],[])) ts m rfl (q18 _) hn (by simp) (hid _ (q18 _)) (fun i o h1 h2=>absurd h2 (Nat.not_lt.2 h1)) hsd
   have hst:Stt (fun i=>if i<n+1 then idleOp else (ops[i]?).getD default) qs2 (fun i=>(listed.setIfInBounds n true).getD i false) ts m ops.length=(ts,m):=by
    rw [Stt_stop (j:=n+1) (fun q hq=>by
     rcases q20 q ops.length with hql|hql
     · rw [hup q hql];simp;omega
     · rw [Array.getD_eq_getD_getElem?,Array.getElem?_eq_none (by omega)];rfl) ops.length hn]
    rw [Stt_qs (qs':=fun _=>⟨.undef,[]⟩) (n+1) hq2]
    have hidle:∀(D:Nat→Bool) i,i≤n+1→Stt (fun i=>if i<n+1 then idleOp else (ops[i]?).getD default) (fun _=>⟨.undef,[]⟩) D ts m i=(ts,m):=by
     intro D i
     induction i with
     |zero=>intro _;rfl
     |succ i ih=>
      intro hi
      simp only [Stt]
      rw [ih (by omega)]
      cases D i with
      |false=>rfl
      |true=>simp only [if_true,show i<n+1 by omega];rfl
    exact hidle _ _ (q18 _)
   refine any_sound (B:=B) (N:=N) hR2 hB2 hok1 hok2 hK2 (fun a w hd=>hd) _ _ φ fp S a w hsz ?_ (fun i hi=>by rw [hup i (by omega)];simpa using hi) ?_ (by rw [hst];exact h2)
   · intro j oj hoj hdj i hi
     have hjn:=(q7.1 hoj).1
     have h3:=wait_back hw1 j oj hoj i hi
     have hdj:(listed.setIfInBounds n true).getD j false=true:=hdj
     show (listed.setIfInBounds n true).getD i false=true
     rw [hup j hjn] at hdj
     rw [hup i (by omega)]
     simp at hdj ⊢;omega
   · have hc:unl ops.length (listed.setIfInBounds n true)≤ops.length-(n+1):=by
      unfold unl
      have:∀N,(∀i,i<N→i<ops.length)→(List.range N).countP (fun i=> !(listed.setIfInBounds n true).getD i false)≤N-(n+1):=by
       intro N hN
       induction N with
       |zero=>simp
       |succ N ih=>
        have ih:=ih fun i hi=>hN i (by omega)
        rw [q15,List.countP_append,List.countP_cons,List.countP_nil,hup N (hN N (by omega))]
        by_cases e:N<n+1
        · simp only [decide_eq_true e,Bool.not_true,q2,if_false];omega
        · simp only [decide_eq_false e,Bool.not_false,if_true];omega
      exact this _ fun i hi=>hi
     omega
 · intro j o _ hd
   have hd:(Array.replicate (List.toArray ops).size false).getD j false=true:=hd
   rw [getD_replicate_false] at hd;cases hd
 · exact fun i _=>getD_replicate_false _ _
 · exact q19 List.countP_le_length (by simp)
 · have e:(fun i=>(Array.replicate (List.toArray ops).size false).getD i false)=fun _=>false:=funext fun i=>getD_replicate_false _ _
   have e2:=Stt_stop (os:=fun i=>(ops[i]?).getD default) (qs:=qs) (D:=fun _=>false) (ts:=ts) (m:=m) (j:=0) (fun _ _=>rfl) n (q23 _)
   show RS B N φ fp S (Stt _ qs (fun i=>(Array.replicate (List.toArray ops).size false).getD i false) ts m n).1 (Stt _ qs (fun i=>(Array.replicate (List.toArray ops).size false).getD i false) ts m n).2 a {w with drawn:=w.drawn+1}
   rw [e,e2]
   exact hRS.sameHeap rfl ⟨rfl,rfl,rfl⟩
end Go.Vc
namespace Go.Vc
def keys (m:Mem):List Nat:=m.map (·.1)
section
variable {P:Program} {B:Base} {N:Nat} {φ:Nat→LS} {fp:Nat→List Nat} {S:Nat→Prop} {ts:Env} {m:Mem} {a:Act} {w:World}
end
theorem labs_mkRes {ys:List AV} (h:labsL ys=[]):labs (mkRes ys)=[]:=by
 match ys,h with
 | [],_=>simp [mkRes,labs,labsL]
 | [y],h=>simpa [mkRes,labsL] using h
 |y::y'::r,h=>rw [mkRes_two];simpa [labs] using h
end Go.Vc
namespace Go.Vc
section
variable {P:Program} {B:Base} {N:Nat} {φ:Nat→LS} {fp:Nat→List Nat} {S:Nat→Prop} {ts:Env} {m:Mem} {a:Act} {w:World}
end
def frzOk (l v:Nat) (sh:Sh) (ys:List AV):List AV→List AV→Prop
 | [],[]=>True
 |x::xs,t::r=>((∃i n,x= .ref l v i n∧i+n≤ys.length∧t= .arr sh ((ys.drop i).take n))∨(labs x=[]∧isClo x=false∧t=x))∧frzOk l v sh ys xs r
 |_,_=>False
theorem frzOk_ref {l v:Nat} {sh:Sh} {ys xs r:List AV} (i n:Nat) (h:i+n≤ys.length) (hr:frzOk l v sh ys xs r):frzOk l v sh ys (.ref l v i n::xs) (.arr sh ((ys.drop i).take n)::r):=⟨.inl ⟨i,n,rfl,h,rfl⟩,hr⟩
theorem frzOk_no {l v:Nat} {sh:Sh} {ys xs r:List AV} {x:AV} (h:labs x=[]) (h2:isClo x=false) (hr:frzOk l v sh ys xs r):frzOk l v sh ys (x::xs) (x::r):=⟨.inr ⟨h,h2,rfl⟩,hr⟩
theorem sCallT_frz {P:Program} {f:FuncId} {d:Nat} {xs trs xt:List AV} {m:Mem} {k:AV→Mem→Prop} {q:Pack k} {post:AV→Prop} (l v:Nat) (sh:Sh) (dp:Bool) (ys:List AV) (hfn:Fn P f trs false post) (hl:l<ioL)
 (hm:lookB m l=some (.row v sh dp ys)) (hx:frzOk l v sh ys xs trs) (hk:∀r,post r→k r ((l,.gone v)::m)):sCallT P f d xs xt m k q:=by
 refine .inl fun B N φ fp S ts a w vs h hsz hrv hxl=>⟨hfn.1,?_⟩
 have hf:=h.frz hl hm (v:=v) rfl
 have hlen:∀(xs trs:List AV),frzOk l v sh ys xs trs→trs.length=xs.length∧∀i (h1:i<xs.length) (h2:i<trs.length),
  (∃j n,xs[i]= .ref l v j n∧j+n≤ys.length∧trs[i]= .arr sh ((ys.drop j).take n))∨(labs xs[i]=[]∧isClo xs[i]=false∧trs[i]=xs[i]):=by
  intro xs
  induction xs with
  |nil=>intro trs hx;cases trs with
   |nil=>exact ⟨rfl,fun i h1=>absurd h1 (q22 _)⟩
   |cons=>exact hx.elim
  |cons x xs ih=>intro trs hx;cases trs with
   |nil=>exact hx.elim
   |cons t r=>
    obtain ⟨g1,g2⟩:=ih r hx.2
    refine ⟨by simp [g1],fun i h1 h2=> ?_⟩
    cases i with
    |zero=>exact hx.1
    |succ i=>exact g2 i (by simpa using h1) (by simpa using h2)
 obtain ⟨hlen,helt⟩:=hlen xs trs hx
 refine (hfn.2 w (fun b=>S b∨b∈fp l) vs (fun b hb=>(hf.sB b hb).1) hf.kon (hsz.trans hlen.symm) fun i hi=> ?_).mono ?_
 · have hi2:i<xs.length:=by omega
   rcases helt i hi2 hi with ⟨j,n,e1,e2,e3⟩|⟨e1,e2,e3⟩
   · rw [e3]
     have:=hrv i hi2
     rw [e1] at this
     exact frz_rd h hl hm e2 this
   · rw [e3]
     exact (rd_of_rv (hrv i hi2) e1).mono (fun _ _=>rfl) fun _ h=>.inl h
 · rintro e w' ⟨r,v',rfl,hr,hg,hres⟩
   simp only [FnRes,q2,if_false] at hres
   have hRS:=(hf.grown hg).hold (fun b=>w.heap.size≤b∧b<w'.heap.size) (fun b hb=>⟨hb.2,q19 hf.size hb.1,fun k hk=>by have:=(hf.fpB k b hk).1;omega⟩)
   exact ⟨v',rfl,_,_,_,ts,_,r,hRS,.rd _ _ hres,fun k ver hk=>(by rw [labs_rd hres] at hk;cases hk),rfl,hk r hr⟩
def finS (P:Program) (rs:List ResultVar) (post:AV→Prop):Post
 | .normal=>fun ts m=>sResults P (fun xs=>sGivAs (fun ys _=>labsL ys=[]∧post (mkRes ys)) [] m xs) rs ts m []
 | .ret=>fun ts m=>sResults P (fun xs=>sGivAs (fun ys _=>labsL ys=[]∧post (mkRes ys)) [] m xs) rs ts m []
 |_=>fun _ _=>False
theorem finS_ret (P:Program) (rs:List ResultVar) (post:AV→Prop) (ts:Env) (m:Mem):finS P rs post .ret ts m=sResults P (fun xs=>sGivAs (fun ys _=>labsL ys=[]∧post (mkRes ys)) [] m xs) rs ts m []:=rfl
theorem Fn.of_vcS' {P:Program} {f:FuncId} {fn:Func} {c:Code} {args:List AV} {post:AV→Prop} (hf:P.funcs[f]? =some fn) (hn:(fn.name== "runtime.NumGoroutine")=false) (hb:fn.body=some c)
 (hok:codeOk fn.ntmps c=true) (ha:args.length≤fn.ntmps) (hv:vc P fn.ntmps c (argsE 0 args) [] (finS P fn.results.toList post)):Fn P f args false post:=by
 refine ⟨⟨fn,c,hf,hn,hb⟩,fun w S vs hS hkon hsz hrd=> ?_⟩
 refine calls_of_wp hf hb ?_
 have hRS:RS ⟨w,fun _ _=>False,S,fun _=>.dead,[]⟩ fn.ntmps (fun _=>.dead) (fun _=>[]) S (argsE 0 args) [] {tmps:=vs++Array.replicate (fn.ntmps-vs.size) undef,defers:=[]} w:=by
  have hlook:∀t,(look (argsE 0 args) t= .undef∨∃h:t<args.length,look (argsE 0 args) t=args[t]):=by
   intro t
   rw [look_argsE]
   by_cases h:t<args.length
   · exact .inr ⟨h,by simp [h]⟩
   · exact .inl (by simp [h])
  refine {tm:=fun t=> ?_,tl:=fun t l ver hl=> ?_,mNone:=fun _ _=>⟨rfl,rfl⟩,mSome:=fun l k hk=>(by cases hk),bl:=fun l v xs hk=>(by cases hk),nod:=fun _=>List.nodup_nil,
          dis:=fun _ _ _ h=>(by cases h),notS:=fun _ _ h=>(by cases h),fpB:=fun _ _ h=>(by cases h),sB:=fun b hb=>⟨hS b hb,.inr hb⟩,base:=fun b hb _=>rfl,out:=SameOut.refl _,szs:=Szs.refl _,kn:=fun _ _ _ hk=>hk,fix:=fun _ _ _ _=>LS.le_refl _ _,
          size:=q18 _,defers:=rfl,tsz:=by simp;omega,kon:=hkon}
  · rcases hlook t with e|⟨h,e⟩
    · rw [e];exact .rd _ _ (.undef _)
    · rw [e]
      have h1:=hrd t h
      have:vs.toList.getD t Go.undef=(vs++Array.replicate (fn.ntmps-vs.size) undef).getD t Go.undef:=by
       have h2:t<vs.size:=by omega
       simp only [Array.getD_eq_getD_getElem?,q5,Array.getElem?_toList]
       rw [Array.getElem?_append_left h2]
      rw [←this]
      exact .rd _ _ h1
  · rcases hlook t with e|⟨h,e⟩
    · rw [e] at hl;cases hl
    · rw [e,labs_rd (hrd t h)] at hl;cases hl
 have hend:∀a' w',Done ⟨w,fun _ _=>False,S,fun _=>.dead,[]⟩ fn.ntmps (fun ts m=>sResults P (fun xs=>sGivAs (fun ys _=>labsL ys=[]∧post (mkRes ys)) [] m xs) fn.results.toList ts m []) a' w'→
  a'.defers=[]∧∃v,(results fn a'.tmps).run P w'= .ok v w'∧∃r v',Ending.returned v= .returned v'∧post r∧Grown w w'∧FnRes w w' S false r v':=by
  rintro a' w' ⟨φ0,fp0,S0,ts',m0,h0,hk⟩
  refine ⟨h0.defers,?_⟩
  obtain ⟨ys0,us,h1,h2,h3,h4⟩:=results_out' h0 fn.results.toList [] [] ⟨rfl,fun i hi=>absurd hi (q22 _)⟩ (fun i hi=>absurd hi (q22 _)) hk
  obtain ⟨φ',fp',S',m',ys,hgv,h3,hlab,hpost⟩:=givAs_out ys0 us [] [] h0 (by simpa using h3) ⟨rfl,fun i hi=>absurd hi (q22 _)⟩ h1
  have h':=hgv.rs
  obtain ⟨h3a,h3b⟩:=h3
  simp only [q14] at h3a h3b
  refine ⟨if h:us.toArray.size=1 then us.toArray[0] else .tuple us.toArray,?_,mkRes ys,_,rfl,hpost,⟨h'.size,fun b hb=>h'.base b hb (fun _ h=>h),h'.out⟩,?_⟩
  · have hm:results fn a'.tmps=(do let vs ←fn.results.mapM (resOne a'.tmps);pure (if h:vs.size=1 then vs[0] else .tuple vs)):=by
     unfold results
     congr 1
    rw [hm,Sem.run_bind,Array.mapM_eq_mapM_toList]
    have:(List.toArray <$> fn.results.toList.mapM (resOne a'.tmps):Sem (Array Value)).run P w'= .ok us.toArray w':=by
     rw [map_eq_pure_bind,Sem.run_bind,h2];rfl
    rw [this];rfl
  · show Rd w' _ _ _
    refine (rd_of_rv (mkRes_rv h3a h3b) (labs_mkRes hlab)).mono (fun _ _=>rfl) fun b hb=> ?_
    rcases (h'.sB b hb).2 with hh|hh
    · exact .inr ⟨hh,(h'.sB b hb).1⟩
    · exact .inl hh
 refine wp_mono (vc_sound c _ _ _ hok hv _ _ _ _ _ _ hRS) ?_
 intro e a' w' hq
 cases e with
 |normal=>exact hend a' w' hq
 |ret=>exact hend a' w' hq
 |_=>obtain ⟨_,_,_,_,_,_,hh⟩:=hq;exact hh.elim
theorem Fn.of_vcS {P:Program} {f:FuncId} {fn:Func} {c:Code} {args:List AV} {post:AV→Prop} (N:Nat) (rs:List ResultVar) (hf:P.funcs[f]? =some fn) (hN:fn.ntmps=N) (hr:fn.results.toList=rs) (hn:(fn.name== "runtime.NumGoroutine")=false)
 (hb:fn.body=some c) (hok:codeOk N c=true) (ha:args.length≤N) (hv:vc P N c (argsE 0 args) [] (finS P rs post)):Fn P f args false post:=by
 subst hN;subst hr;exact Fn.of_vcS' hf hn hb hok ha hv
attribute [go_sem] finS_ret labs_val labs_arr labsL_nil labsL_cons
end Go.Vc
namespace Go.Vc
def FnMR (P:Program) (f:FuncId) (io:List Blk) (args:List AV) (post:AV→List Blk→Prop):Prop:=
 Enters P f∧∀(w:World) (φ:Nat→LS) (fp:Nat→List Nat) (S:Nat→Prop) (vs:Array Value),vs.size=args.length→
  RS (ioB w φ fp S io) vs.size φ fp S (argsE 0 args) (ioM 0 io) {tmps:=vs,defers:=[]} w→
  Calls P f vs w fun e w'=>∃r v io' φ' fp' S' m',e= .returned v∧post r io'∧RS (ioB w φ fp S io) 0 φ' fp' S' [] m' {tmps:= #[],defers:=[]} w'∧IoOk io io' m'∧Rd w' S' r v
def finMR (P:Program) (rs:List ResultVar) (vers:List Nat) (post:AV→List Blk→Prop):Post
 | .normal=>fun ts m=>sResults P (fun xs=>sGivAs (fun ys m'=>labsL ys=[]∧sIoB m' (fun io'=>post (mkRes ys) io') 0 vers []) [] m xs) rs ts m []
 | .ret=>fun ts m=>sResults P (fun xs=>sGivAs (fun ys m'=>labsL ys=[]∧sIoB m' (fun io'=>post (mkRes ys) io') 0 vers []) [] m xs) rs ts m []
 |_=>fun _ _=>False
theorem finMR_ret (P:Program) (rs:List ResultVar) (vers:List Nat) (post:AV→List Blk→Prop) (ts:Env) (m:Mem):
 finMR P rs vers post .ret ts m=sResults P (fun xs=>sGivAs (fun ys m'=>labsL ys=[]∧sIoB m' (fun io'=>post (mkRes ys) io') 0 vers []) [] m xs) rs ts m []:=rfl
theorem FnMR.of_vc' {P:Program} {f:FuncId} {fn:Func} {c:Code} {io:List Blk} {args:List AV} {post:AV→List Blk→Prop} (hf:P.funcs[f]? =some fn) (hn:(fn.name== "runtime.NumGoroutine")=false) (hb:fn.body=some c)
 (hok:codeOk fn.ntmps c=true) (ha:args.length≤fn.ntmps) (hv:vc P fn.ntmps c (argsE 0 args) (ioM 0 io) (finMR P fn.results.toList (io.map Blk.ver) post)):FnMR P f io args post:=by
 refine ⟨⟨fn,c,hf,hn,hb⟩,fun w φ fp S vs hsz hR0=> ?_⟩
 refine calls_of_wp hf hb ?_
 have hRS:RS (ioB w φ fp S io) fn.ntmps φ fp S (argsE 0 args) (ioM 0 io) {tmps:=vs++Array.replicate (fn.ntmps-vs.size) undef,defers:=[]} w:=by
  refine {hR0 with tm:=fun t=> ?_,defers:=rfl,tsz:=by simp;omega}
  by_cases h:t<args.length
  · have h1:=hR0.tm t
    have:vs.getD t Go.undef=(vs++Array.replicate (fn.ntmps-vs.size) undef).getD t Go.undef:=by
     have h2:t<vs.size:=by omega
     simp only [Array.getD_eq_getD_getElem?]
     rw [Array.getElem?_append_left h2]
    rw [←this];exact h1
  · rw [look_argsE]
    have:(if 0≤t then (args[t-0]?).getD AV.undef else .undef)= .undef:=by simp [List.getElem?_eq_none (show args.length≤t by omega)]
    rw [this];exact .rd _ _ (.undef _)
 have hend:∀a' w',Done (ioB w φ fp S io) fn.ntmps (fun ts m=>sResults P (fun xs=>sGivAs (fun ys m'=>labsL ys=[]∧sIoB m' (fun io'=>post (mkRes ys) io') 0 (io.map Blk.ver) []) [] m xs) fn.results.toList ts m []) a' w'→
  a'.defers=[]∧∃v,(results fn a'.tmps).run P w'= .ok v w'∧∃r v' io' φ' fp' S' m',Ending.returned v= .returned v'∧post r io'∧RS (ioB w φ fp S io) 0 φ' fp' S' [] m' {tmps:= #[],defers:=[]} w'∧IoOk io io' m'∧
   Rd w' S' r v':=by
  rintro a' w' ⟨φ0,fp0,S0,ts',m0,h0,hk⟩
  refine ⟨h0.defers,?_⟩
  obtain ⟨ys0,us,h1,h2,h3,h4⟩:=results_out' h0 fn.results.toList [] [] ⟨rfl,fun i hi=>absurd hi (q22 _)⟩ (fun i hi=>absurd hi (q22 _)) hk
  obtain ⟨φ',fp',S',m',ys,hgv,h3,hlab,h1⟩:=givAs_out ys0 us [] [] h0 (by simpa using h3) ⟨rfl,fun i hi=>absurd hi (q22 _)⟩ h1
  have h':=hgv.rs
  obtain ⟨h3a,h3b⟩:=h3
  simp only [q14] at h3a h3b
  obtain ⟨io',q1,q2,q3⟩:=sIo_out _ _ _ h1
  rw [q16,q14] at q1
  refine ⟨if h:us.toArray.size=1 then us.toArray[0] else .tuple us.toArray,?_,mkRes ys,_,io',φ',fp',S',m',rfl,q1,?_,⟨by simpa using q2,fun k hk hk'=> ?_⟩,rd_of_rv (mkRes_rv h3a h3b) (labs_mkRes hlab)⟩
  · have hm:results fn a'.tmps=(do let vs ←fn.results.mapM (resOne a'.tmps);pure (if h:vs.size=1 then vs[0] else .tuple vs)):=by
     unfold results
     congr 1
    rw [hm,Sem.run_bind,Array.mapM_eq_mapM_toList]
    have:(List.toArray <$> fn.results.toList.mapM (resOne a'.tmps):Sem (Array Value)).run P w'= .ok us.toArray w':=by
     rw [map_eq_pure_bind,Sem.run_bind,h2];rfl
    rw [this];rfl
  · exact {h' with tm:=fun t=>by rw [look_nil];exact .rd _ _ (.undef _),tl:=fun t l ver hl=>(by rw [look_nil] at hl;cases hl),defers:=rfl,tsz:=rfl}
  · have:=q3 k hk (by simpa using hk')
    rw [Nat.zero_add] at this
    refine ⟨this.1,?_,this.2.2⟩
    rw [this.2.1,List.getElem_map]
 refine wp_mono (vc_sound c _ _ _ hok hv _ _ _ _ _ _ hRS) ?_
 intro e a' w' hq
 cases e with
 |normal=>exact hend a' w' hq
 |ret=>exact hend a' w' hq
 |_=>obtain ⟨_,_,_,_,_,_,hh⟩:=hq;exact hh.elim
theorem FnMR.of_vc {P:Program} {f:FuncId} {fn:Func} {c:Code} {io:List Blk} {args:List AV} {post:AV→List Blk→Prop} (N:Nat) (rs:List ResultVar) (hf:P.funcs[f]? =some fn) (hN:fn.ntmps=N) (hr:fn.results.toList=rs)
 (hn:(fn.name== "runtime.NumGoroutine")=false) (hb:fn.body=some c) (hok:codeOk N c=true) (ha:args.length≤N) (hv:vc P N c (argsE 0 args) (ioM 0 io) (finMR P rs (io.map Blk.ver) post)):FnMR P f io args post:=by
 subst hN;subst hr;exact FnMR.of_vc' hf hn hb hok ha hv
section
variable {P:Program} {B:Base} {N:Nat} {φ:Nat→LS} {fp:Nat→List Nat} {S:Nat→Prop} {ts:Env} {m:Mem} {a:Act} {w:World}
theorem callMR_core {f:FuncId} {ρ:List Nat} {io:List Blk} {args xs:List AV} (hnd:ρ.Nodup) (hio:io.length=ρ.length)
 (hlk:∀j (h:j<ρ.length) (h':j<io.length),lookB m ρ[j]=some io[j]∧labFree io[j]) {vs:Array Value} (h:RS B N φ fp S ts m a w) (hvl:vs.size=args.length)
 (hx:∀i (h:i<args.length),RV w S (φio φ ρ) args[i] (vs.toList.getD i Go.undef)∧∀l ver,(l,ver)∈labs args[i]→known (ioM 0 io) l ver) {post:AV→List Blk→Prop} (hf:FnMR P f io args post):
 Calls P f vs w fun e w'=>∃v r io' fp2 T,e= .returned v∧post r io'∧RS B N φ fp2 T ts (putIo ρ io' m) a w'∧Rd w' T r v:=by
 have inj:∀i j (hi:i<ρ.length) (hj:j<ρ.length),ρ[i]=ρ[j]→i=j:=fun i j hi hj e=>(List.getElem_inj hnd).1 e
 have look0:∀l,lookB (ioM 0 io) l=if ioL≤l then io[l-ioL]? else none:=fun l=>by rw [lookB_ioM];rfl
 have at_:∀l b,lookB (ioM 0 io) l=some b→∃j,∃hj:j<ρ.length,∃hj':j<io.length,l=ioL+j∧b=io[j]:=by
  intro l b hb
  rw [look0] at hb
  split at hb
  · rename_i hl
    obtain ⟨hj,e⟩:=q7.1 hb
    exact ⟨l-ioL,by omega,hj,by omega,e.symm⟩
  · cases hb
 have hR0:RS (ioB w (φio φ ρ) (fpio fp ρ) S io) vs.size (φio φ ρ) (fpio fp ρ) S (argsE 0 args) (ioM 0 io) {tmps:=vs,defers:=[]} w:=by
  refine {tm:=fun t=> ?_,tl:=fun t l ver hl=> ?_,mNone:=fun l hl=> ?_,mSome:=fun l b hb=> ?_,bl:=fun l v xs hb l' ver hl=> ?_,nod:=fun l=> ?_,dis:=fun l l' b h1 h2=> ?_,
          notS:=fun l b hb=> ?_,fpB:=fun l b hb=> ?_,sB:=fun b hb=>⟨(h.sB b hb).1,.inr hb⟩,base:=fun b _ _=>rfl,out:=SameOut.refl _,szs:=Szs.refl _,kn:=fun _ _ _ hk=>hk,fix:=fun _ _ _ _=>LS.le_refl _ _,
          size:=q18 _,defers:=rfl,tsz:=rfl,kon:=h.kon}
  · rw [look_argsE]
    by_cases ht:t<args.length
    · have e:(if 0≤t then (args[t-0]?).getD AV.undef else .undef)=args[t]:=by simp [ht]
      rw [e]
      have:=(hx t ht).1
      have e2:vs.toList.getD t Go.undef=vs.getD t Go.undef:=by
       simp [q5,Array.getD_eq_getD_getElem?]
      rw [←e2];exact this
    · have e:(if 0≤t then (args[t-0]?).getD AV.undef else .undef)= .undef:=by simp [List.getElem?_eq_none (show args.length≤t by omega)]
      rw [e];exact .rd _ _ (.undef _)
  · rw [look_argsE] at hl
    by_cases ht:t<args.length
    · have e:(if 0≤t then (args[t-0]?).getD AV.undef else .undef)=args[t]:=by simp [ht]
      rw [e] at hl
      exact (hx t ht).2 l ver hl
    · have e:(if 0≤t then (args[t-0]?).getD AV.undef else .undef)= .undef:=by simp [List.getElem?_eq_none (show args.length≤t by omega)]
      rw [e] at hl;cases hl
  · rw [look0] at hl
    unfold φio fpio
    split at hl
    · rename_i hl'
      have:ρ[l-ioL]? =none:=List.getElem?_eq_none (by have:=List.getElem?_eq_none_iff.1 hl;omega)
      rw [if_pos hl',if_pos hl',this];exact ⟨rfl,rfl⟩
    · rename_i hl'
      rw [if_neg hl',if_neg hl'];exact ⟨rfl,rfl⟩
  · obtain ⟨j,hj,hj',rfl,rfl⟩:=at_ l b hb
    have hb0:=h.mSome ρ[j] _ (hlk j hj hj').1
    have hfr:=(hlk j hj hj').2
    rw [fpio_at fp hj]
    generalize io[j]=b at hb0 hfr
    cases b with
    |gone v=>exact ⟨by rw [φio_at φ hj];exact hb0.1,hb0.2⟩
    |row v sh dp xs=>
     rcases hb0 with ⟨q1,q2,q3⟩|⟨b,cap,q1,q2⟩
     · exact .inl ⟨by rw [φio_at φ hj];exact q1,q2,q3⟩
     · exact .inr ⟨b,cap,by rw [φio_at φ hj];exact q1,q2⟩
    |lent v xs i u=>exact hfr.elim
    |sub v sh xs u=>exact hfr.elim
    |box v xs=>
     obtain ⟨b,cs,e,sh,q1,q2,q3,q4,q5,q6⟩:=hb0
     exact ⟨b,cs,e,sh,by rw [φio_at φ hj];exact q1,q2,q3,q4,q5,fun i hi=>.rd _ _ (rd_of_rv (q6 i hi) (labs_nil_get hfr i hi))⟩
  · obtain ⟨j,hj,hj',rfl,e⟩:=at_ l _ hb
    have hfr:=(hlk j hj hj').2
    rw [←e] at hfr
    have hfr:labsL xs=[]:=hfr
    rw [hfr] at hl;cases hl
  · unfold fpio
    split
    · split
      · exact h.nod _
      · exact List.nodup_nil
    · exact List.nodup_nil
  · obtain ⟨i,hi,rfl,b1⟩:=fpio_mem h1
    obtain ⟨j,hj,rfl,b2⟩:=fpio_mem h2
    have:=inj i j hi hj (h.dis _ _ b b1 b2)
    subst this;rfl
  · obtain ⟨i,hi,rfl,b1⟩:=fpio_mem hb
    exact h.notS _ b b1
  · obtain ⟨i,hi,rfl,b1⟩:=fpio_mem hb
    exact ⟨(h.fpB _ b b1).1,.inr ⟨_,hb,by omega,.inl rfl⟩⟩
 refine (hf.2 w (φio φ ρ) (fpio fp ρ) S vs hvl hR0).mono ?_
 rintro e w' ⟨r,v,io',φ',fp',S',m',rfl,hpost,hR,⟨hl',hok⟩,hrd⟩
 have hl2:io'.length=ρ.length:=hl'.trans hio
 have hsame:∀b:Nat,b<w.heap.size→(∀j (hj:j<ρ.length),b∉fp ρ[j])→w'.heap[b]? =w.heap[b]? :=fun b hb hn=>hR.base b hb fun l hb'=>by
  obtain ⟨j,hj,rfl,hb2⟩:=fpio_mem hb'
  exact hn j hj hb2
 have hSsame:∀b,S b→w'.heap[b]? =w.heap[b]? :=fun b hb=>hsame b (h.sB b hb).1 fun j hj hb'=>h.notS _ b hb' hb
 have hz:Sized φ w w':=fun l b sh ver cs e _ hb=>hR.szs b cs e hb
 have hm2:=fun l=>lookB_putIo (m:=m) ρ io' hl2 hnd l
 have hkn:∀l ver,known m l ver→known (putIo ρ io' m) l ver:=by
  rintro l ver ⟨k',h1,h2⟩
  by_cases hl:l∈ρ
  · obtain ⟨j,hj,rfl⟩:=q9 hl
    have e:=(hm2 ρ[j]).1 j hj rfl
    rw [q6 (by omega)] at e
    rw [(hlk j hj (by omega)).1] at h1
    have h1:=Option.some.inj h1
    exact ⟨_,e,by rw [(hok j (by omega) (by omega)).2.1,h1];exact h2⟩
  · exact ⟨k',((hm2 l).2 hl).trans h1,h2⟩
 let T:Nat→Prop:=fun b=>S b∨(S' b∧w.heap.size≤b)
 have hST:∀b,S' b→T b:=fun b hb=>by
  rcases (hR.sB b hb).2 with hh|hh
  · exact .inr ⟨hb,hh⟩
  · exact .inl hh
 let fp2:Nat→List Nat:=fun l=>match ρ.idxOf? l with|some j=>fp' (ioL+j)|none=>fp l
 have fp2in:∀j (hj:j<ρ.length),fp2 ρ[j]=fp' (ioL+j):=by
  intro j hj
  have:ρ.idxOf? ρ[j]=some j:=by
   rw [List.idxOf?,List.findIdx?_eq_some_iff_getElem]
   refine ⟨hj,by simp,fun i hi=> ?_⟩
   simp only [beq_iff_eq,Bool.not_eq_true,beq_eq_false_iff_ne,ne_eq]
   intro e2
   have:=inj i j (by omega) hj e2
   omega
  show (match ρ.idxOf? ρ[j] with|some j=>fp' (ioL+j)|none=>fp ρ[j])=_
  rw [this]
 have fp2out:∀l,l∉ρ→fp2 l=fp l:=by
  intro l hl
  have:ρ.idxOf? l=none:=by simpa [List.idxOf?_eq_none_iff] using hl
  show (match ρ.idxOf? l with|some j=>fp' (ioL+j)|none=>fp l)=_
  rw [this]
 have fpnew:∀j (hj:j<ρ.length) b,b∈fp' (ioL+j)→b<w'.heap.size∧(w.heap.size≤b∨b∈fp ρ[j]):=by
  intro j hj b hb
  have:=hR.fpB _ b hb
  refine ⟨this.1,this.2.imp id fun hh=> ?_⟩
  obtain ⟨l',hb2,_,hl3⟩:=hh
  have hl3:l'=ioL+j:=hl3.resolve_right fun e=>by
   have e:lookB (ioM 0 io) (ioL+j)=none:=e
   rw [look0,if_pos (by omega),List.getElem?_eq_none_iff] at e;omega
  subst hl3
  have hh:b∈fpio fp ρ (ioL+j):=hb2
  rwa [fpio_at fp hj] at hh
 have hRS:RS B N φ fp2 T ts (putIo ρ io' m) a w':=by
  refine {tm:=fun t=>(h.tm t).mono hSsame (fun b hb=>.inl hb) hz fun l ver _=>LS.le_refl _ _,tl:=fun t l ver hl=>hkn l ver (h.tl t l ver hl),mNone:=fun l hl=> ?_,mSome:=fun l b hb=> ?_,
          bl:=fun l v xs hb l' ver hl=> ?_,nod:=fun l=> ?_,dis:=fun l l' b h1 h2=> ?_,notS:=fun l b hb=> ?_,fpB:=fun l b hb=> ?_,sB:=fun b hb=> ?_,base:=fun b hb hio=> ?_,
          out:=h.out.trans hR.out,szs:=h.szs.trans hR.szs,kn:=fun l ver hl hk=>hkn l ver (h.kn l ver hl hk),fix:=h.fix,size:=q19 h.size hR.size,defers:=h.defers,tsz:=h.tsz,kon:=h.kon.mono hSsame fun b hb=>.inl hb}
  · by_cases hm:l∈ρ
    · obtain ⟨j,hj,rfl⟩:=q9 hm
      rw [(hm2 ρ[j]).1 j hj rfl,q6 (by omega)] at hl;cases hl
    · rw [(hm2 l).2 hm] at hl
      rw [fp2out l hm];exact h.mNone l hl
  · by_cases hm:l∈ρ
    · obtain ⟨j,hj,rfl⟩:=q9 hm
      rw [(hm2 ρ[j]).1 j hj rfl,q6 (by omega)] at hb
      have hb:=Option.some.inj hb
      subst hb
      obtain ⟨g1,g2,g3⟩:=hok j (by omega) (by omega)
      have hB:=hR.mSome _ _ g1
      have hkn0:known (ioM 0 io) (ioL+j) (io[j]'(by omega)).ver:=⟨io[j]'(by omega),by rw [look0,if_pos (by omega)];simp<;>omega,q18 _⟩
      have hfix:=hR.fix (ioL+j) _ (by omega) hkn0
      have hfix:LS.le (φ' (ioL+j)) (φ ρ[j]) (io[j]'(by omega)).ver:=by rw [←φio_at φ hj];exact hfix
      rw [fp2in j hj]
      rw [←g2] at hfix
      generalize io'[j]=b at hB hfix g3
      cases b with
      |gone v=>exact g3.elim
      |row v sh dp xs=>
       rcases hB with ⟨q1,q2,q3⟩|⟨b,cap,q1,q2,q3,q4⟩
       · exact .inl ⟨hfix.2 q1,q2,q3⟩
       · refine .inr ⟨b,cap,hfix.1 _ _ q1,q2,q3,?_⟩
         cases dp with
         |true=>exact q4
         |false=>exact q4.mono (fun _ _=>rfl) hST (fun _ _=>rfl)
      |lent v xs i u=>exact g3.elim
      |sub v sh xs u=>exact g3.elim
      |box v xs=>
       obtain ⟨b,cs,e,sh,q1,q2,q3,q4,q5,q6⟩:=hB
       exact ⟨b,cs,e,sh,hfix.1 _ _ q1,q2,q3,q4,q5,fun i hi=>.rd _ _ ((rd_of_rv (q6 i hi) (labs_nil_get g3 i hi)).mono (fun _ _=>rfl) hST)⟩
    · rw [(hm2 l).2 hm] at hb
      rw [fp2out l hm]
      refine (h.mSome l b hb).mono hSsame (fun b hb=>.inl hb) hz (fun c hc=>hsame c (h.fpB l c hc).1 fun j hj hc'=>hm ?_) rfl fun _ _ _ _ _ _=>LS.le_refl _ _
      rw [h.dis _ _ c hc hc'];exact q8 hj
  · by_cases hm:l∈ρ
    · obtain ⟨j,hj,rfl⟩:=q9 hm
      rw [(hm2 ρ[j]).1 j hj rfl,q6 (by omega)] at hb
      have hb:=Option.some.inj hb
      have g3:=(hok j (by omega) (by omega)).2.2
      rw [hb] at g3
      have g3:labsL xs=[]:=g3
      rw [g3] at hl;cases hl
    · rw [(hm2 l).2 hm] at hb
      exact hkn l' ver (h.bl l v xs hb l' ver hl)
  · by_cases hm:l∈ρ
    · obtain ⟨j,hj,rfl⟩:=q9 hm
      rw [fp2in j hj];exact hR.nod _
    · rw [fp2out l hm];exact h.nod l
  · have mixed:∀j (hj:j<ρ.length) l,l∉ρ→b∈fp' (ioL+j)→b∈fp l→False:=by
     intro j hj l hm b1 b2
     rcases (fpnew j hj b b1).2 with hh|hh
     · have:=(h.fpB l b b2).1;omega
     · exact hm (by rw [h.dis _ _ b b2 hh];exact q8 hj)
    by_cases m1:l∈ρ
    · obtain ⟨j,hj,rfl⟩:=q9 m1
      rw [fp2in j hj] at h1
      by_cases m2:l'∈ρ
      · obtain ⟨j',hj',rfl⟩:=q9 m2
        rw [fp2in j' hj'] at h2
        have:=hR.dis _ _ b h1 h2
        have:j=j':=by omega
        subst this;rfl
      · rw [fp2out l' m2] at h2
        exact (mixed j hj l' m2 h1 h2).elim
    · rw [fp2out l m1] at h1
      by_cases m2:l'∈ρ
      · obtain ⟨j',hj',rfl⟩:=q9 m2
        rw [fp2in j' hj'] at h2
        exact (mixed j' hj' l m1 h2 h1).elim
      · rw [fp2out l' m2] at h2
        exact h.dis l l' b h1 h2
  · by_cases hm:l∈ρ
    · obtain ⟨j,hj,rfl⟩:=q9 hm
      rw [fp2in j hj] at hb
      rintro (hs|hs)
      · rcases (fpnew j hj b hb).2 with hh|hh
        · have:=(h.sB b hs).1;omega
        · exact h.notS _ b hh hs
      · exact hR.notS _ b hb hs.1
    · rw [fp2out l hm] at hb
      rintro (hs|hs)
      · exact h.notS l b hb hs
      · have:=(h.fpB l b hb).1;omega
  · by_cases hm:l∈ρ
    · obtain ⟨j,hj,rfl⟩:=q9 hm
      rw [fp2in j hj] at hb
      have:=fpnew j hj b hb
      refine ⟨this.1,?_⟩
      rcases this.2 with hh|hh
      · exact .inl (q19 h.size hh)
      · exact (h.fpB _ b hh).2
    · rw [fp2out l hm] at hb
      have:=h.fpB l b hb
      exact ⟨Nat.lt_of_lt_of_le this.1 hR.size,this.2⟩
  · rcases hb with hs|hs
    · have:=h.sB b hs
      exact ⟨Nat.lt_of_lt_of_le this.1 hR.size,this.2⟩
    · exact ⟨(hR.sB b hs.1).1,.inl (q19 h.size hs.2)⟩
  · refine (hsame b (Nat.lt_of_lt_of_le hb h.size) fun j hj hb'=> ?_).trans (h.base b hb hio)
    rcases (h.fpB _ b hb').2 with hh|hh
    · omega
    · exact hio _ hh.choose_spec.1
 exact ⟨v,r,io',fp2,T,rfl,hpost,hRS,hrd.mono (fun _ _=>rfl) hST⟩
end
def sCallMR (P:Program) (f:FuncId) (ρ:List Nat) (io:List Blk) (args:List AV) (m:Mem) (k:AV→Mem→Prop) (_:Pack k):Prop:=
 ∃post,FnMR P f io args post∧∀r io',post r io'→k r (putIo ρ io' m)
@[congr] theorem sCallMR_congr {P:Program} {f:FuncId} {ρ:List Nat} {io io':List Blk} {args args':List AV} {m:Mem} {k:AV→Mem→Prop} {q:Pack k} (h:io=io') (h':args=args'):sCallMR P f ρ io args m k q=sCallMR P f ρ io' args' m k q:=by rw [h,h']
theorem sCallMR_any {P:Program} {f:FuncId} {ρ:List Nat} {io:List Blk} {args:List AV} {post:AV→List Blk→Prop} {m:Mem} {k:AV→Mem→Prop} (h:FnMR P f io args post) (hk:∀r io',post r io'→k r (putIo ρ io' m)) {q:Pack k}:sCallMR P f ρ io args m k q:=
 ⟨_,h,hk⟩
theorem sCallIo_ioR {P:Program} {f:FuncId} {xs:List AV} {m:Mem} {k:AV→Mem→Prop} (ρ:List Nat) (h:sSel m (fun io=>sRens ρ (fun args=>sCallMR P f ρ io args m k ⟨⟩) [] xs) [] ρ):sCallIo P f xs m k:=by
 refine fun B N φ fp S ts a w vs hRS hsz hx hxl=> ?_
 obtain ⟨hnd,io,h1,h2,h3⟩:=sSel_out ρ [] h
 rw [q16,q14] at h1
 obtain ⟨args,g1,g2,g3⟩:=rens_out (w:=w) (S:=S) (φ:=φ) h2 h3 xs vs.toList [] (by simpa using hsz) hx hxl h1
 rw [q16,q14] at g1
 obtain ⟨post,hf,hk⟩:=g1
 refine ⟨hf.1,(callMR_core hnd h2 h3 hRS (hsz.trans g2.symm) g3 hf (xs:=xs)).mono ?_⟩
 rintro e w' ⟨v,r,io',fp2,T,rfl,hpost,hR,hrd⟩
 exact ⟨v,rfl,φ,fp2,T,ts,_,r,hR,.rd _ _ hrd,fun l ver hl=>(by rw [labs_rd hrd] at hl;cases hl),rfl,hk r io' hpost⟩
theorem sCallT_ioR {P:Program} {f:FuncId} {d:Nat} {xs ts:List AV} {m:Mem} {k:AV→Mem→Prop} (ρ:List Nat) (h:sSel m (fun io=>sRens ρ (fun args=>sCallMR P f ρ io args m k ⟨⟩) [] xs) [] ρ) {q:Pack k}:sCallT P f d xs ts m k q:=
 .inl (sCallIo_ioR ρ h)
def sCallMRX (P:Program) (f:FuncId) (ρ:List Nat) (io:List Blk) (args:List AV) (m:Mem) (k:AV→Mem→Prop) (_:Pack k):Prop:=
 ∃r io1,FnMR P f io args (fun x io'=>x=r∧io'=io1)∧k r (putIo ρ io1 m)
@[congr] theorem sCallMRX_congr {P:Program} {f:FuncId} {ρ:List Nat} {io io':List Blk} {args args':List AV} {m:Mem} {k:AV→Mem→Prop} {q:Pack k} (h:io=io') (h':args=args'):sCallMRX P f ρ io args m k q=sCallMRX P f ρ io' args' m k q:=by rw [h,h']
theorem sCallMRX_one {P:Program} {f:FuncId} {ρ:List Nat} {io io1:List Blk} {args:List AV} {r:AV} {m:Mem} {k:AV→Mem→Prop} (h:FnMR P f io args (fun x io'=>x=r∧io'=io1)) (hk:k r (putIo ρ io1 m)) {q:Pack k}:sCallMRX P f ρ io args m k q:=
 ⟨_,_,h,hk⟩
theorem sCallX_ioR {P:Program} {f:FuncId} {d:Nat} {xs ts:List AV} {m:Mem} {k:AV→Mem→Prop} {q:Pack k} (ρ:List Nat) (hρ:(ρ.all fun l=>(labsL xs).any fun p=>p.1==l)=true) (h:sSel m (fun io=>sRens ρ (fun args=>sCallMRX P f ρ io args m k ⟨⟩) [] xs) [] ρ):sCallX P f d xs ts m k q:=by
 have hρ':∀l,l∈ρ→∃x,x∈xs∧NL x l:=fun l hl=>by
  rw [q3] at hρ
  obtain ⟨p,hp,he⟩:=List.any_eq_true.1 (hρ l hl)
  obtain ⟨i,hi,hpi⟩:=of_mem_labsL hp
  rw [beq_iff_eq] at he
  subst he
  exact ⟨xs[i],q8 hi,p.2,hpi⟩
 obtain ⟨io,h1,h2⟩:=D1.sel m ρ [] _ h
 obtain ⟨args,h3,h4⟩:=D1.rens ρ xs [] _ h1
 obtain ⟨r,io1,hF,hm⟩:=h3
 refine .inr (.inr ⟨r,putIo ρ io1 [],by rw [←putIo_app];exact hm,fun m' a b k' hk'=>sCallIo_ioR ρ ?_⟩)
 rw [like_sel _ ρ [] fun l hl=>a l (hρ' l hl)]
 refine h2 _ (h4 _ ⟨_,hF,?_⟩)
 rintro _ _ ⟨rfl,rfl⟩
 rw [putIo_app]
 exact hk'
attribute [go_sem] finMR_ret
end Go.Vc
namespace Go.Vc
section
variable {P:Program} {N:Nat} {ts:Env} {m:Mem}
theorem RS.frzB {B:Base} {φ:Nat→LS} {fp:Nat→List Nat} {S:Nat→Prop} {a:Act} {w:World} (hRS:RS B N φ fp S ts m a w) (lb vb j l v i n:Nat) (sh:Sh) (d:Bool) (xs ys:List AV) (hl:l<ioL) (hb:lookB m lb=some (.box vb xs)) (hx:xs[j]? =some (.ref l v i n))
 (hm:lookB m l=some (.row v sh d ys)) (hn:i+n≤ys.length):
 RS B N (offφ l φ) (offF l fp) (fun b=>S b∨b∈fp l) ts ((lb,.box vb (xs.set j (.arr sh ((ys.drop i).take n))))::(l,.gone v)::m) a w:=by
 have hf:=hRS.frz hl hm (v:=v) rfl
 have hne:lb≠l:=by rintro rfl;rw [hb] at hm;cases hm
 obtain ⟨hj,hx'⟩:=q7.1 hx
 obtain ⟨b,cs,e,sh2,h1,h2,h3,h4,h5,h6⟩:=hRS.mSome lb _ hb
 have hrd:=frz_rd hRS hl hm hn (hx'▸h6 j hj)
 have hb2:lookB ((l,Blk.gone v)::m) lb=some (.box vb xs):=by rw [lookB_cons,if_neg (Ne.symm hne)];exact hb
 have hkn:∀k ver,known ((l,Blk.gone v)::m) k ver→known ((lb,.box vb (xs.set j (.arr sh ((ys.drop i).take n))))::(l,.gone v)::m) k ver:=by
  rintro k ver ⟨b0,g1,g2⟩
  by_cases e:lb=k
  · subst e
    rw [hb2] at g1;injection g1 with g1;subst g1
    exact ⟨.box vb (xs.set j (.arr sh ((ys.drop i).take n))),by rw [lookB_cons,if_pos rfl],g2⟩
  · exact ⟨b0,by rw [lookB_cons,if_neg e];exact g1,g2⟩
 refine {hf with tl:=fun t k ver hk=>hkn k ver (hf.tl t k ver hk),mNone:=fun k hk=> ?_,mSome:=fun k b0 hk=> ?_,bl:=fun k v' zs hk k' ver hl'=> ?_,kn:=fun k ver hk hk2=>hkn k ver (hf.kn k ver hk hk2)}
 · rw [lookB_cons] at hk
   split at hk
   · cases hk
   · exact hf.mNone k hk
 · rw [lookB_cons] at hk
   split at hk
   · rename_i e0
     subst e0
     injection hk with hk
     subst hk
     obtain ⟨b',cs',e',sh',g1,g2,g3,g4,g5,g6⟩:=hf.mSome lb _ hb2
     refine ⟨b',cs',e',sh',g1,g2,g3,by simpa using g4,fun q hq=> ?_,fun q hq=> ?_⟩
     · rw [List.getElem_set]
       split
       · trivial
       · exact g5 q (by simpa using hq)
     · rw [List.getElem_set]
       split
       · rename_i e2
         subst e2
         refine .rd _ _ ?_
         have hbb:b'=b:=by
          have:offφ l φ lb=φ lb:=offφ_ne hne
          rw [this,h1] at g1;cases g1;rfl
         subst hbb
         rw [h3] at g3;injection g3 with g3;injection g3 with g3 _ _
         subst g3
         exact hrd
       · exact g6 q (by simpa using hq)
   · exact hf.mSome k b0 hk
 · rw [lookB_cons] at hk
   split at hk
   · rename_i e0
     injection hk with hk
     injection hk with _ hk
     subst hk
     obtain ⟨q,hq,hlq⟩:=of_mem_labsL hl'
     rw [List.getElem_set] at hlq
     split at hlq
     · cases hlq
     · have hq2:q<xs.length:=by simpa using hq
       exact hkn k' ver (hf.bl lb vb xs hb2 k' ver (mem_labsL hq2 hlq))
   · exact hkn k' ver (hf.bl k v' zs hk k' ver hl')
theorem Later.frzB {code:Code} {Q:Post} {q:Pack (code,Q)} (lb vb j l v i n:Nat) (sh:Sh) (d:Bool) (xs ys:List AV) (hl:l<ioL) (hb:lookB m lb=some (.box vb xs)) (hx:xs[j]? =some (.ref l v i n))
 (hm:lookB m l=some (.row v sh d ys)) (hn:i+n≤ys.length)
 (h:Later P N code ts ((lb,.box vb (xs.set j (.arr sh ((ys.drop i).take n))))::(l,.gone v)::m) Q q):Later P N code ts m Q q:=
 ⟨fun B φ fp S a w hRS=>h.ok B _ _ _ a w (hRS.frzB lb vb j l v i n sh d xs ys hl hb hx hm hn)⟩
end
section
variable {P:Program} {B:Base} {N:Nat} {φ:Nat→LS} {fp:Nat→List Nat} {S:Nat→Prop} {ts:Env} {m:Mem} {a:Act} {w:World}
end
inductive GivB (m:Mem):Mem→Prop
 |refl:GivB m m
 |box (lb vb j l v i n:Nat) (sh:Sh) (d:Bool) (xs ys:List AV) (hl:l<ioL) (hb:lookB m lb=some (.box vb xs)) (hx:xs[j]? =some (.ref l v i n)) (hm:lookB m l=some (.row v sh d ys)) (hn:i+n≤ys.length):
   GivB m ((lb,.box vb (xs.set j (.arr sh ((ys.drop i).take n))))::(l,.gone v)::m)
end Go.Vc
namespace Go.Vc
section
variable {P:Program} {B:Base} {N:Nat} {φ:Nat→LS} {fp:Nat→List Nat} {S:Nat→Prop} {ts:Env} {m:Mem} {a:Act} {w:World}
theorem RS.takeOut (h:RS B N φ fp S ts m a w) {l v i l2:Nat} {xs ys:List AV} {sh2:Sh} (hl:l<ioL) (hlk:lookB m l=some (.row v ⟨1,false⟩ true xs)) (hx:xs[i]? =some (.arr sh2 ys)) (hy:0<ys.length) (hl2n:lookB m l2=none):
 ∃φ2 fp2 u,RS B N φ2 fp2 S ts ((l2,.sub 0 sh2 ys u)::(l,.row v ⟨1,false⟩ true (xs.set i (.val u)))::m) a w:=by
 obtain ⟨hi,hxi⟩:=q7.1 hx
 have hne:l2≠l:=fun e=>by rw [e,hlk] at hl2n;cases hl2n
 rcases h.mSome l _ hlk with ⟨_,h0,_⟩|⟨b,cap,hφ,hbm,_,hown⟩
 · rw [h0] at hi;exact absurd hi (q22 _)
 simp only [if_true] at hown
 rcases own_arr hown with ⟨h0,_⟩|⟨b',cap',cs,e',fss,q1,hfp,hheap,hc,hl',hm,hf,hs,hv⟩
 · rw [h0] at hi;exact absurd hi (q22 _)
 simp only [Value.slice.injEq,Option.some.injEq,Addr.mk.injEq] at q1
 obtain ⟨⟨rfl,_⟩,_,rfl⟩:=q1
 have hvi:=hv i hi
 rw [hxi,elemV_cell,q21] at hvi
 generalize hu:cs.toList.getD i Go.undef=u at hvi
 have hlf:i<fss.length:=by omega
 have huo:u.oneCell'=true:=hvi.leaf_oneCell trivial
 have hset:(fss.set i []).set i (fss.getD i [])=fss:=by
  rw [List.set_set]
  refine List.ext_getElem (by simp) fun j h1 h2=> ?_
  rw [List.getElem_set]
  split
  · rename_i e;subst e;rw [q5,q6 hlf];rfl
  · rfl
 have hperm:fss.flatten.Perm (fss.getD i []++(fss.set i []).flatten):=by
  have:=set_flatten_perm (fss.getD i []) (fss.set i []) i (by simpa using hlf) (by simp [q5,hlf])
  rwa [hset] at this
 have hpm:(fp l).Perm (fss.getD i []++(b::(fss.set i []).flatten)):=by
  rw [hfp]
  exact (hperm.cons b).trans List.perm_middle.symm
 have hnod:=hpm.nodup_iff.1 (h.nod l)
 have hnod:=List.nodup_append.1 hnod
 have hin:∀c,c∈b::(fss.set i []).flatten→c∈fp l:=fun c hc=>hpm.mem_iff.2 (List.mem_append_right _ hc)
 have hin2:∀c,c∈fss.getD i []→c∈fp l:=fun c hc=>hpm.mem_iff.2 (List.mem_append_left _ hc)
 have R1:RS B N (upd φ l (φ l)) (upd fp l (b::(fss.set i []).flatten)) S ts ((l,.row v ⟨1,false⟩ true (xs.set i (.val u)))::m) a w:=by
  refine h.next l (φ l) _ S _ (q18 _) (SameOut.refl _) (Szs.refl _) (fun _ _ _=>rfl) (fun c hc=>⟨hc,rfl⟩) (fun c h1 h2=>absurd h1 h2) (fun l b sh ver cs e _ hb=>⟨cs,e,hb,rfl⟩)
   (fun _ _ _ _=>rfl) (fun ver _=>LS.le_refl _ _) ?_ ?_ (fun _ _ hk=>by cases hk) hnod.2.1 ?_
  · rintro ver ⟨k',h1,h2⟩
    rw [hlk] at h1;cases h1;exact h2
  · refine .inr ⟨b,cap,by rw [upd_same];exact hφ,List.mem_cons_self ..,fun h=>(by cases h),?_⟩
    refine .arr ⟨1,false⟩ (xs.set i (.val u)) b cap cs e' (fss.set i []) hheap hc (by simpa using hl') hm (fun j hj=> ?_) (by simpa using hs) fun j hj=> ?_
    · rw [List.getElem_set]
      split
      · exact ⟨rfl,rfl⟩
      · exact hf j (by simpa using hj)
    · have hj':j<xs.length:=by simpa using hj
      by_cases e:i=j
      · subst e
        have e1:(fss.set i []).getD i []=[]:=by simp [q5,hlf]
        rw [List.getElem_set_self,e1,elemV_cell,q21,hu]
        exact .rd _ _ (.val _ huo)
      · have e1:(fss.set i []).getD j []=fss.getD j []:=by simp [q5,List.getElem?_set,e]
        rw [List.getElem_set_ne e,e1];exact hv j hj'
  · intro c hc
    have:=h.fpB l c (hin c hc)
    exact ⟨h.notS l c (hin c hc),fun l' hl' hc'=>hl' (h.dis l' l c hc' (hin c hc)),this.1,this.2⟩
 rcases own_arr hvi with ⟨g1,g2,g3⟩|⟨b2,cap2,cs2,e2,fss2,g1,g2,g3,g4,g5,g6,g7,g8,g9⟩
 · rw [g1] at hy;exact absurd hy (q22 _)
 have hno:lookB ((l,Blk.row v ⟨1,false⟩ true (xs.set i (.val u)))::m) l2=none:=by rw [lookB_cons,if_neg (Ne.symm hne)];exact hl2n
 refine ⟨_,_,u,R1.next l2 (.at b2 sh2 0) (fss.getD i []) S _ (q18 _) (SameOut.refl _) (Szs.refl _) (fun _ _ _=>rfl) (fun c hc=>⟨hc,rfl⟩) (fun c h1 h2=>absurd h1 h2) (fun l b sh ver cs e _ hb=>⟨cs,e,hb,rfl⟩)
  (fun _ _ _ _=>rfl) ?_ ?_ ?_ (fun _ _ hk=>by cases hk) hnod.1 ?_⟩
 · rintro ver ⟨k',h1,_⟩;rw [hno] at h1;cases h1
 · rintro ver ⟨k',h1,_⟩;rw [hno] at h1;cases h1
 · exact ⟨b2,cap2,upd_same _ _ _,by rw [g2];simp,g1,hvi⟩
 · intro c hc
   have:=h.fpB l c (hin2 c hc)
   refine ⟨h.notS l c (hin2 c hc),fun l' hl' hc'=> ?_,this.1,.inl (this.2.resolve_right fun hh=>Nat.lt_irrefl _ (Nat.lt_of_lt_of_le hl hh.choose_spec.2.1))⟩
   by_cases e:l'=l
   · subst e
     rw [upd_same] at hc'
     exact hnod.2.2 c hc c hc' rfl
   · rw [upd_other _ _ _ _ e] at hc'
     exact e (h.dis l' l c hc' (hin2 c hc))
theorem RS.putBack (h:RS B N φ fp S ts m a w) {l v i l2 v2:Nat} {xs ys:List AV} {sh2:Sh} {u:Value} (hl2:l2<ioL) (hlk:lookB m l=some (.row v ⟨1,false⟩ true xs)) (hx:xs[i]? =some (.val u)) (hlk2:lookB m l2=some (.sub v2 sh2 ys u)):
 ∃φ2 fp2,RS B N φ2 fp2 S ts ((l,.row v ⟨1,false⟩ true (xs.set i (.arr sh2 ys)))::(l2,.gone v2)::m) a w:=by
 obtain ⟨hi,hxi⟩:=q7.1 hx
 have hne:l2≠l:=fun e=>by rw [e,hlk] at hlk2;cases hlk2
 rcases h.mSome l _ hlk with ⟨_,h0,_⟩|⟨b,cap,hφ,hbm,_,hown⟩
 · rw [h0] at hi;exact absurd hi (q22 _)
 simp only [if_true] at hown
 rcases own_arr hown with ⟨h0,_⟩|⟨b',cap',cs,e',fss,q1,hfp,hheap,hc,hl',hm,hf,hs,hv⟩
 · rw [h0] at hi;exact absurd hi (q22 _)
 simp only [Value.slice.injEq,Option.some.injEq,Addr.mk.injEq] at q1
 obtain ⟨⟨rfl,_⟩,_,rfl⟩:=q1
 obtain ⟨b2,cap2,hφ2,hbm2,hu2,hown2⟩:=h.mSome l2 _ hlk2
 have hlf:i<fss.length:=by omega
 have hvi:=hv i hi
 rw [hxi,elemV_cell,q21] at hvi
 obtain ⟨hu,hfe,huo⟩:=own_val hvi
 have hR1:=h.give l2 _ hlk2 S (fun _ h=>h) (fun b h1 h2=>absurd h1 h2)
 have hperm:=set_flatten_perm (fp l2) fss i hlf hfe
 have hpm:(b::(fss.set i (fp l2)).flatten).Perm (fp l2++fp l):=by
  rw [hfp]
  exact (hperm.cons b).trans List.perm_middle.symm
 have hmem:∀c,c∈b::(fss.set i (fp l2)).flatten→c∈fp l2∨c∈fp l:=fun c hc=>List.mem_append.1 (hpm.mem_iff.1 hc)
 have hnl:l≠l2:=Ne.symm hne
 have hφ1:upd φ l2 .dead l=φ l:=upd_other _ _ _ _ hnl
 refine ⟨_,_,hR1.next l (φ l) (b::(fss.set i (fp l2)).flatten) S _ (q18 _) (SameOut.refl _) (Szs.refl _) (fun _ _ _=>rfl) (fun c hc=>⟨hc,rfl⟩) (fun c h1 h2=>absurd h1 h2) (fun l b sh ver cs e _ hb=>⟨cs,e,hb,rfl⟩)
  (fun _ _ _ _=>rfl) (fun ver _=>by rw [hφ1];exact LS.le_refl _ _) ?_ ?_ (fun _ _ hk=>by cases hk) ?_ ?_⟩
 · rintro ver ⟨k',h1,h2⟩
   rw [lookB_cons,if_neg hne,hlk] at h1;cases h1;exact h2
 · refine .inr ⟨b,cap,by rw [upd_same];exact hφ,List.mem_cons_self ..,fun h=>(by cases h),?_⟩
   refine .arr ⟨1,false⟩ (xs.set i (.arr sh2 ys)) b cap cs e' (fss.set i (fp l2)) hheap hc (by simpa using hl') hm (fun j hj=> ?_) (by simpa using hs) fun j hj=> ?_
   · rw [List.getElem_set]
     split
     · exact ⟨rfl,rfl⟩
     · exact hf j (by simpa using hj)
   · have hj':j<xs.length:=by simpa using hj
     by_cases ej:i=j
     · subst ej
       have e1:(fss.set i (fp l2)).getD i []=fp l2:=by simp [q5,hlf]
       rw [List.getElem_set_self,e1,elemV_cell,q21,hu];exact hown2
     · have e1:(fss.set i (fp l2)).getD j []=fss.getD j []:=by simp [q5,List.getElem?_set,ej]
       rw [List.getElem_set_ne ej,e1];exact hv j hj'
 · refine hpm.nodup_iff.2 (List.nodup_append.2 ⟨h.nod l2,h.nod l,fun c h1 c' h2 e=> ?_⟩)
   subst e
   exact hne (h.dis l2 l c h1 h2)
 · intro c hc
   have hoff:∀l',l'≠l→c∈upd fp l2 [] l'→c∈fp l'∧l'≠l2:=fun l' hl' hc'=>by
    by_cases e2:l'=l2
    · subst e2;rw [upd_same] at hc';cases hc'
    · rw [upd_other _ _ _ _ e2] at hc';exact ⟨hc',e2⟩
   rcases hmem c hc with hcl|hcl
   · have:=h.fpB l2 c hcl
     refine ⟨h.notS l2 c hcl,fun l' hl' hc'=> ?_,this.1,.inl (this.2.resolve_right fun hh=>Nat.lt_irrefl _ (Nat.lt_of_lt_of_le hl2 hh.choose_spec.2.1))⟩
     obtain ⟨h1,h2⟩:=hoff l' hl' hc'
     exact h2 (h.dis l' l2 c h1 hcl)
   · have:=h.fpB l c hcl
     refine ⟨h.notS l c hcl,fun l' hl' hc'=> ?_,this.1,this.2⟩
     obtain ⟨h1,h2⟩:=hoff l' hl' hc'
     exact hl' (h.dis l' l c h1 hcl)
theorem Later.takeOut {code:Code} {Q:Post} {q:Pack (code,Q)} (l v i l2:Nat) (xs ys:List AV) (sh2:Sh) (hl:l<ioL) (hlk:lookB m l=some (.row v ⟨1,false⟩ true xs)) (hx:xs[i]? =some (.arr sh2 ys)) (hy:0<ys.length) (hl2n:lookB m l2=none)
 (h:∀u,Later P N code ts ((l2,.sub 0 sh2 ys u)::(l,.row v ⟨1,false⟩ true (xs.set i (.val u)))::m) Q q):Later P N code ts m Q q:=
 ⟨fun B φ fp S a w hRS=>have ⟨_,_,u,hR⟩:=hRS.takeOut hl hlk hx hy hl2n;(h u).ok B _ _ _ a w hR⟩
theorem RS.boxed (h:RS B N φ fp S ts m a w) {l v:Nat} {sh:Sh} {xs:List AV} (hlk:lookB m l=some (.row v sh true xs)) (h1:sh.sz=1∧sh.ag=false) (h0:0<xs.length) (hfl:∀x,x∈xs→isFlat x=true):∃φ2 fp2,RS B N φ2 fp2 S ts ((l,.box v xs)::m) a w:=by
 obtain ⟨z1,z2⟩:=h1
 have hsh:sh=⟨1,false⟩:=by cases sh;simp only at z1 z2;subst z1;subst z2;rfl
 subst hsh
 rcases h.mSome l _ hlk with ⟨_,e0,_⟩|⟨b,cap,hφ,hbm,_,hown⟩
 · rw [e0] at h0;exact absurd h0 (q22 _)
 simp only [if_true] at hown
 rcases own_arr hown with ⟨e0,_⟩|⟨b',cap',cs,e',fss,q1,hfp,hheap,hc,hl',hm,hf,hs,hv⟩
 · rw [e0] at h0;exact absurd h0 (q22 _)
 simp only [Value.slice.injEq,Option.some.injEq,Addr.mk.injEq] at q1
 obtain ⟨⟨rfl,_⟩,_,rfl⟩:=q1
 have hlx:∀i (hi:i<xs.length),leaf xs[i]:=fun i hi=>by
  have h1:=hf i hi
  generalize xs[i]=x at h1
  cases x<;>first|trivial|exact h1.elim|(have:=h1.1;cases this)
 have hvr:∀i (hi:i<xs.length),Rd w S xs[i] (cs.toList.getD i Go.undef):=fun i hi=>by
  have:=(flat_rd (S':=S) (hv i hi) (hfl _ (q8 hi))).1
  rwa [elemV_cell,q21] at this
 refine ⟨_,_,h.next l (φ l) [b] S (.box v xs) (q18 _) (SameOut.refl _) (Szs.refl _) (fun _ _ _=>rfl) (fun c hc=>⟨hc,rfl⟩) (fun c h1 h2=>absurd h1 h2) (fun l b sh ver cs e _ hb=>⟨cs,e,hb,rfl⟩)
  (fun _ _ _ _=>rfl) (fun ver _=>LS.le_refl _ _) ?_ ?_ ?_ (by simp) ?_⟩
 · rintro ver ⟨k',h1,h2⟩
   rw [hlk] at h1;cases h1;exact h2
 · exact ⟨b,cs,e',⟨1,false⟩,by rw [upd_same];exact hφ,rfl,hheap,(by rw [hc];simpa using hl'),hlx,fun i hi=>.rd _ _ (hvr i hi)⟩
 · intro v' ys hb l' ver hl
   cases hb
   obtain ⟨i,hi,hl⟩:=of_mem_labsL hl
   rw [labs_rd (hvr i hi)] at hl;cases hl
 · intro c hc
   simp only [List.mem_singleton] at hc
   subst hc
   have:=h.fpB l c hbm
   exact ⟨h.notS l c hbm,fun l' hl' hc'=>hl' (h.dis l' l c hc' hbm),this.1,this.2⟩
theorem Later.boxed {code:Code} {Q:Post} {q:Pack (code,Q)} (l v:Nat) (xs:List AV) (hlk:lookB m l=some (.row v ⟨1,false⟩ true xs)) (h0:0<xs.length) (hfl:∀x,x∈xs→isFlat x=true)
 (h:Later P N code ts ((l,.box v xs)::m) Q q):Later P N code ts m Q q:=
 ⟨fun B φ fp S a w hRS=>have ⟨_,_,hR⟩:=hRS.boxed hlk ⟨rfl,rfl⟩ h0 hfl;h.ok B _ _ _ a w hR⟩
theorem RS.known (h:RS B N φ fp S ts m a w) {t l v n:Nat} {sh:Sh} {ys:List AV} (ht:look ts t= .ref l v 0 n) (htN:t<N) (hlk:lookB m l=some (.row v sh true ys)) (hn:n=ys.length) (h0:0<n) (hsz:0<sh.sz):
 ∃φ2 fp2 u,RS B N φ2 fp2 S ((t,.val u)::ts) ((l,.sub v sh ys u)::m) a w:=by
 subst hn
 rcases h.mSome l _ hlk with ⟨_,e0,_⟩|⟨b,cap,hφ,hbm,_,hown⟩
 · rw [e0] at h0;exact absurd h0 (Nat.lt_irrefl _)
 simp only [if_true] at hown
 have htm:=h.tm t
 rw [ht] at htm
 have hr:=rv_ref htm
 obtain ⟨ad,cp,hv,hnc,hcp⟩:=hr.1 b sh hφ
 obtain ⟨rfl,cs,e,g1,g2⟩:=hcp.resolve_left (by omega)
 rw [Nat.zero_mul] at hv
 have hown0:=hown
 rcases own_arr hown with ⟨e0,_⟩|⟨b',cap',cs',e',fss,q1,hfp,hheap,hc,hl',hm,hf,hs,hvv⟩
 · rw [e0] at h0;exact absurd h0 (Nat.lt_irrefl _)
 simp only [Value.slice.injEq,Option.some.injEq,Addr.mk.injEq] at q1
 obtain ⟨⟨rfl,_⟩,_,rfl⟩:=q1
 obtain rfl:=celO_inj (hheap.symm.trans g1)
 have hcc:cp=cap:=by
  have:cp*sh.sz=cap*sh.sz:=by rw [←hc,g2,Nat.zero_add]
  exact Nat.eq_of_mul_eq_mul_right hsz this
 subst hcc
 have R1:RS B N (upd φ l (φ l)) (upd fp l (fp l)) S ts ((l,.sub v sh ys (.slice (some ⟨b,0,none⟩) ys.length cp))::m) a w:=by
  refine h.next l (φ l) (fp l) S _ (q18 _) (SameOut.refl _) (Szs.refl _) (fun _ _ _=>rfl) (fun c hc=>⟨hc,rfl⟩) (fun c h1 h2=>absurd h1 h2) (fun l b sh ver cs e _ hb=>⟨cs,e,hb,rfl⟩)
   (fun _ _ _ _=>rfl) (fun ver _=>LS.le_refl _ _) ?_ ?_ (fun _ _ hk=>by cases hk) (h.nod l) ?_
  · rintro ver ⟨k',h1,h2⟩
    rw [hlk] at h1;cases h1;exact h2
  · exact ⟨b,cp,by rw [upd_same];exact hφ,hbm,rfl,hown0⟩
  · intro c hc
    have:=h.fpB l c hc
    exact ⟨h.notS l c hc,fun l' hl' hc'=>hl' (h.dis l' l c hc' hc),this.1,this.2⟩
 refine ⟨_,_,_,{R1 with tm:=fun t'=> ?_,tl:=fun t' l' ver hl'=> ?_}⟩
 · rw [look_cons]
   split
   · rename_i e;subst e
     rw [hv]
     exact .rd _ _ (.val _ rfl)
   · exact R1.tm t'
 · rw [look_cons] at hl'
   split at hl'
   · cases hl'
   · exact R1.tl t' l' ver hl'
theorem Later.known {code:Code} {Q:Post} {q:Pack (code,Q)} (t l v n:Nat) (sh:Sh) (ys:List AV) (ht:look ts t= .ref l v 0 n) (htN:t<N) (hlk:lookB m l=some (.row v sh true ys)) (hn:n=ys.length) (h0:0<n) (hsz:0<sh.sz)
 (h:∀u,Later P N code ((t,.val u)::ts) ((l,.sub v sh ys u)::m) Q q):Later P N code ts m Q q:=
 ⟨fun B φ fp S a w hRS=>have ⟨_,_,u,hR⟩:=hRS.known ht htN hlk hn h0 hsz;(h u).ok B _ _ _ a w hR⟩
theorem Later.vc {code:Code} {Q:Post} {q:Pack (code,Q)} (hok:codeOk N code=true) (h:vc P N code ts m Q):Later P N code ts m Q q:=⟨vc_sound code _ _ _ hok h⟩
end
section
variable {P:Program} {B:Base} {N:Nat} {φ:Nat→LS} {fp:Nat→List Nat} {S:Nat→Prop} {ts:Env} {m:Mem} {a:Act} {w:World}
theorem RS.undeepL2 (h:RS B N φ fp S ts m a w) {l v:Nat} {sh:Sh} {xs:List AV} (hio:l<ioL) (hlk:lookB m l=some (.row v sh true xs)):∃fp2 S2,RS B N φ fp2 S2 ts ((l,.row v sh false xs)::m) a w∧∀c,S c→S2 c:=by
 have hφφ:upd φ l (φ l)=φ:=funext fun k=>by unfold upd;split<;>simp_all
 rcases h.mSome l _ hlk with ⟨h1,h2,h3⟩|⟨b,cap,hφ,hbm,_,hown⟩
 · have hR:=h.next l (φ l) [] S (.row v sh false xs) (q18 _) (SameOut.refl _) (Szs.refl _) (fun _ _ _=>rfl) (fun c hc=>⟨hc,rfl⟩) (fun c h1 h2=>absurd h1 h2) (fun l b sh ver cs e _ hb=>⟨cs,e,hb,rfl⟩)
    (fun _ _ _ _=>rfl) (fun ver _=>LS.le_refl _ _) (by
      rintro ver ⟨k',g1,g2⟩
      rw [hlk] at g1;cases g1;exact g2) (.inl ⟨by rw [upd_same];exact h1,h2,rfl⟩) (fun _ _ hk=>by cases hk) List.nodup_nil (fun c hc=>by cases hc)
   rw [hφφ] at hR
   exact ⟨_,_,hR,fun _ h=>h⟩
 simp only [if_true] at hown
 obtain ⟨cs,e,fss,hgf,hheap,hcs,hcap,hmx,hff,hfl,hvv⟩:=row_inv hown hbm
 obtain ⟨S',hR,hS,_⟩:=h.undeep hlk hφ hgf hheap hcs hcap hmx hff hfl hvv hio
 rw [hφφ] at hR
 exact ⟨_,_,hR,hS⟩
theorem sCallT_ioU {f:FuncId} {d:Nat} {xs trs:List AV} {k:AV→Mem→Prop} (l v:Nat) (sh:Sh) (ys:List AV) (hio:l<ioL) (hlk:lookB m l=some (.row v sh true ys)) (ρ:List Nat)
 (h:sSel ((l,.row v sh false ys)::m) (fun io=>sRens ρ (fun args=>sCallM P f d ρ io args ((l,.row v sh false ys)::m) k ⟨⟩) [] xs) [] ρ) {q:Pack k}:sCallT P f d xs trs m k q:=by
 refine .inl fun B N φ fp S ts a w vs hRS hsz hx hxl=> ?_
 obtain ⟨fp2,S2,hR2,hS⟩:=hRS.undeepL2 hio hlk
 obtain ⟨hnd,io,h1,h2,h3⟩:=sSel_out ρ [] h
 rw [q16,q14] at h1
 have hx2:∀i (h:i<xs.length),RV w S2 φ xs[i] (vs.toList.getD i Go.undef):=fun i hi=>(hx i hi).mono (fun _ _=>rfl) hS (fun l b sh ver cs e _ hh=>⟨cs,e,hh,rfl⟩) fun l ver _=>LS.le_refl _ _
 have hxl2:∀i (h:i<xs.length) l' ver,(l',ver)∈labs xs[i]→known ((l,.row v sh false ys)::m) l' ver:=fun i hi l' ver hl=>by
  obtain ⟨k',g1,g2⟩:=hxl i hi l' ver hl
  unfold known
  rw [lookB_cons]
  split
  · rename_i e;subst e
    rw [hlk] at g1;cases g1
    exact ⟨_,rfl,g2⟩
  · exact ⟨_,g1,g2⟩
 obtain ⟨args,g1,g2,g3⟩:=rens_out (w:=w) (S:=S2) (φ:=φ) h2 h3 xs vs.toList [] (by simpa using hsz) hx2 hxl2 h1
 rw [q16,q14] at g1
 obtain ⟨post,hf,hk⟩:=g1
 exact ⟨hf.1,callM_sound hnd h2 h3 hR2 (hsz.trans g2.symm) g3 hf hk (xs:=xs)⟩
end
def hk (P:Program) (n:St):St:=fun ts m=>∀(B:Base) (N:Nat) (φ:Nat→LS) (fp:Nat→List Nat) (S:Nat→Prop) (a:Act) (w:World),RS B N φ fp S ts m a w→∃φ2 fp2 S2 ts2 m2,RS B N φ2 fp2 S2 ts2 m2 a w∧n ts2 m2
@[congr] theorem hk_congr {P:Program} {n:St} {ts ts':Env} {m m':Mem} (h:ts=ts') (h2:m=m'):hk P n ts m=hk P n ts' m':=by rw [h,h2]
theorem hk.go {P:Program} {n:St} {ts:Env} {m:Mem} (h:n ts m):hk P n ts m:=fun _ _ _ _ _ _ _ hR=>⟨_,_,_,_,_,hR,h⟩
theorem hk.back {P:Program} {n:St} {ts:Env} {m:Mem} (l v i l2 v2:Nat) (xs ys:List AV) (sh2:Sh) (u:Value) (hl2:l2<ioL) (hlk:lookB m l=some (.row v ⟨1,false⟩ true xs)) (hx:xs[i]? =some (.val u)) (hlk2:lookB m l2=some (.sub v2 sh2 ys u))
 (h:hk P n ts ((l,.row v ⟨1,false⟩ true (xs.set i (.arr sh2 ys)))::(l2,.gone v2)::m)):hk P n ts m:=fun B N _ _ _ a w hR=>
 have ⟨_,_,hR2⟩:=hR.putBack hl2 hlk hx hlk2
 h B N _ _ _ a w hR2
theorem Later.hook {P:Program} {N:Nat} {ts:Env} {m:Mem} {code:Code} {Q:Post} {q:Pack (code,Q)} (h:Later P N code ts m (thn Q (hk P (Q .normal))) ⟨⟩):Later P N code ts m Q q:=by
 refine ⟨fun B φ fp S a w hRS=>wp_mono (h.ok B φ fp S a w hRS) fun e a' w' hq=> ?_⟩
 obtain ⟨φ',fp',S',ts',m',h1,h2⟩:=hq
 cases e with
 |normal=>
  obtain ⟨φ2,fp2,S2,ts2,m2,hR,hn⟩:=h2 B N φ' fp' S' a' w' h1
  exact ⟨φ2,fp2,S2,ts2,m2,hR,hn⟩
 |_=>exact ⟨φ',fp',S',ts',m',h1,h2⟩
inductive RefP:Env→Mem→Env→Mem→Prop
 |here {ts:Env} {m:Mem} {ts2:Env} {m2:Mem} (h:refS ts m ts2 m2):RefP ts m ts2 m2
 |mv {ts:Env} {m:Mem} {ts2:Env} {m2:Mem} (l l':Nat) (hl:l<ioL) (hl':l'<ioL) (h:RefP (rnE l l' ts) (rnM l l' m) ts2 m2):RefP ts m ts2 m2
 |back {ts:Env} {m:Mem} {ts2:Env} {m2:Mem} (l v i l2 v2:Nat) (xs ys:List AV) (sh2:Sh) (u:Value) (hl2:l2<ioL) (hlk:lookB m l=some (.row v ⟨1,false⟩ true xs)) (hx:xs[i]? =some (.val u)) (hlk2:lookB m l2=some (.sub v2 sh2 ys u))
   (h:RefP ts ((l,.row v ⟨1,false⟩ true (xs.set i (.arr sh2 ys)))::(l2,.gone v2)::m) ts2 m2):RefP ts m ts2 m2
section
variable {B:Base} {N:Nat} {S:Nat→Prop} {ts:Env} {m:Mem} {a:Act} {w:World} {P:Program}
theorem RS.refineP {ts2:Env} {m2:Mem} (hr:RefP ts m ts2 m2):∀{φ:Nat→LS} {fp:Nat→List Nat},RS B N φ fp S ts m a w→∃φ' fp' S',RS B N φ' fp' S' ts2 m2 a w:=by
 induction hr with
 |here h=>intro φ fp hR;exact ⟨_,_,_,hR.refine h⟩
 |mv l l' hl hl' _ ih=>intro φ fp hR;exact ih (hR.ren hl hl')
 |back l v i l2 v2 xs ys sh2 u hl2 hlk hx hlk2 _ ih=>
  intro φ fp hR
  obtain ⟨_,_,hR2⟩:=hR.putBack hl2 hlk hx hlk2
  exact ih hR2
theorem Ok.loopP {body:Code} {ι:Type} (I:ι→Prop) (σ:ι→Env × Mem) (μ:ι→Nat) {Q:Post} (x0:ι) (h0:I x0) (hr:RefP ts m (σ x0).1 (σ x0).2)
 (step:∀x,I x→Ok P N body (σ x).1 (σ x).2 (thn Q fun ts' m'=>∃y,I y∧μ y<μ x∧RefP ts' m' (σ y).1 (σ y).2)):Ok P N (.loop body) ts m Q:=by
 intro B φ fp S a w hRS
 obtain ⟨φ0,fp0,S0,hR0⟩:=hRS.refineP hr
 refine wp_loop_ghost (fun n a w=>∃x φ fp S,I x∧μ x=n∧RS B N φ fp S (σ x).1 (σ x).2 a w) (μ x0) ⟨x0,_,_,_,h0,rfl,hR0⟩ ?_
 rintro n a w ⟨x,φ,fp,S,hx,rfl,hRS⟩
 refine wp_mono (step x hx B φ fp S a w hRS) fun e a' w' hq=> ?_
 obtain ⟨φ',fp',S',ts',m',h1,h2⟩:=hq
 cases e with
 |normal=>
  obtain ⟨y,hy,hlt,href⟩:=h2
  obtain ⟨φ3,fp3,S3,hR3⟩:=h1.refineP href
  exact ⟨μ y,hlt,y,_,_,_,hy,rfl,hR3⟩
 |_=>exact ⟨φ',fp',S',ts',m',h1,h2⟩
theorem Later.upP {body:Code} (L D E:List Nat) (n:Nat) (I:Nat→Prop) (up:Nat→Env) (um:Nat→Mem) {Q:Post} {q:Pack (Code.loop body,Q)} (h0:I 0)
 (hr:RefP ts m (up 0++pick L ts) (um 0++dropB D E m)) (hok:codeOk N body=true)
 (step:∀i,i<n→I i→Later P N body (up i++pick L ts) (um i++dropB D E m) (thn Q fun ts' m'=>I (i+1)∧RefP ts' m' (up (i+1)++pick L ts) (um (i+1)++dropB D E m)) ⟨⟩)
 (stop:I n→Later P N body (up n++pick L ts) (um n++dropB D E m) (thn Q fun _ _=>False) ⟨⟩):Later P N (.loop body) ts m Q q:=by
 refine ⟨Ok.loopP (fun i=>i≤n∧I i) (fun i=>(up i++pick L ts,um i++dropB D E m)) (fun i=>n-i) 0 ⟨q23 _,h0⟩ hr fun i ⟨hi,hI⟩=> ?_⟩
 rcases q20 i n with h|h
 · refine Ok.mono (step i h hI).ok fun e ts' m' hq=> ?_
   cases e with
   |normal=>exact ⟨i+1,⟨h,hq.1⟩,by omega,hq.2⟩
   |_=>exact hq
 · have e:i=n:=Nat.le_antisymm hi h
   subst e
   refine Ok.mono (stop hI).ok fun e ts' m' hq=> ?_
   cases e with
   |normal=>exact hq.elim
   |_=>exact hq
end
theorem FnMR.nil0 {P:Program} {f:FuncId} {io:List Blk} {args:List AV} {post:AV→List Blk→Prop} (h:FnMR P f io args (fun x io'=>∃r,(x=r∨(x= .val (.slice none 0 0)∧∃sh,r= .arr sh []))∧post r io')):FnMR P f io args post:=
 ⟨h.1,fun w φ fp S vs h1 h2=>(h.2 w φ fp S vs h1 h2).mono fun _ _ ⟨x,v,io',φ',fp',S',m',g1,⟨r,g2,g3⟩,g4,g5,q1⟩=>
   ⟨r,v,io',φ',fp',S',m',g1,g3,g4,g5,by
     rcases g2 with rfl|⟨rfl,sh,rfl⟩
     · exact q1
     · cases q1 with
       |val _ h=>exact .nil _ _⟩⟩
end Go.Vc
namespace Go.Vc
section
variable {P:Program} {B:Base} {N:Nat} {φ:Nat→LS} {fp:Nat→List Nat} {S:Nat→Prop} {ts:Env} {m:Mem} {a:Act} {w:World}
theorem known_look {m m':Mem} (he:∀l,lookB m' l=lookB m l) {l ver:Nat} (h:known m l ver):known m' l ver:=by
 obtain ⟨k,h1,h2⟩:=h
 exact ⟨k,(he l).trans h1,h2⟩
theorem RS.look (h:RS B N φ fp S ts m a w) {m':Mem} (he:∀l,lookB m' l=lookB m l):RS B N φ fp S ts m' a w:=
 {h with
  tl:=fun t l ver hl=>known_look he (h.tl t l ver hl)
  mNone:=fun l hl=>h.mNone l ((he l).symm.trans hl)
  mSome:=fun l k hl=>h.mSome l k ((he l).symm.trans hl)
  bl:=fun l v xs hl l' ver hx=>known_look he (h.bl l v xs ((he l).symm.trans hl) l' ver hx)
  kn:=fun l ver h1 h2=>known_look he (h.kn l ver h1 h2)}
theorem look_head {m:Mem} {l:Nat} {k:Blk} (hk:lookB m l=some k):∀l',lookB ((l,k)::m) l'=lookB m l':=fun l'=>by
 rw [lookB_cons]
 split
 · rename_i e;subst e;exact hk.symm
 · rfl
theorem sCallT_ioH {f:FuncId} {d:Nat} {xs trs:List AV} {k:AV→Mem→Prop} (l:Nat) (b:Blk) (hb:lookB m l=some b) (ρ:List Nat)
 (h:sSel ((l,b)::m) (fun io=>sRens ρ (fun args=>sCallM P f d ρ io args ((l,b)::m) k ⟨⟩) [] xs) [] ρ) {q:Pack k}:sCallT P f d xs trs m k q:=by
 refine .inl fun B N φ fp S ts a w vs hRS hsz hx hxl=> ?_
 have hR2:=hRS.look (look_head hb)
 obtain ⟨hnd,io,h1,h2,h3⟩:=sSel_out ρ [] h
 rw [q16,q14] at h1
 obtain ⟨args,g1,g2,g3⟩:=rens_out (w:=w) (S:=S) (φ:=φ) h2 h3 xs vs.toList [] (by simpa using hsz) hx (fun i hi l' ver hl=>known_look (look_head hb) (hxl i hi l' ver hl)) h1
 rw [q16,q14] at g1
 obtain ⟨post,hf,hk⟩:=g1
 exact ⟨hf.1,callM_sound hnd h2 h3 hR2 (hsz.trans g2.symm) g3 hf hk (xs:=xs)⟩
end
end Go.Vc
namespace Go.Vc
theorem FnM.row {P:Program} {f:FuncId} (v:Nat) (xs ys:List AV) (hlen:ys.length=xs.length) (hflat:isFlatL xs=true) (hfy:∀i (h:i<ys.length),fits ⟨1,false⟩ ys[i]) (hE:Enters P f)
 (hc:∀(w:World) (b cap:Nat) (cs:Array Value) (e:El),w.heap[b]? =some (celO cs e)→cs.size=cap→xs.length≤cap→(∀i (h:i<xs.length),Rd w (fun _=>False) xs[i] (cs.toList.getD i Go.undef))→
   Calls P f #[.slice (some ⟨b,0,none⟩) xs.length cap] w fun e' w'=>e'= .returned (.tuple #[])∧∃cs':Array Value,cs'.size=cs.size∧(∀i (h:i<ys.length),Rd w' (fun _=>False) ys[i] (cs'.toList.getD i Go.undef))∧
    w'.heap[b]? =some (celO cs' e)∧(∀c:Nat,c≠b→c<w.heap.size→w'.heap[c]? =w.heap[c]?)∧w.heap.size≤w'.heap.size∧SameOut w w')
 (h0:xs=[]→∀(a:Option Addr) (w:World),Calls P f #[.slice a 0 0] w fun e' w'=>e'= .returned (.tuple #[])∧Grown w w'):
 FnM P f [.row v ⟨1,false⟩ true xs] [.ref 1000000000 v 0 xs.length] (fun r io=>r= .tup []∧io=[.row v ⟨1,false⟩ true ys]):=by
 refine ⟨hE,fun w φ fp S vs hsz hR=> ?_⟩
 have hv0:=hR.tm 0
 have hlk:lookB (ioM 0 [Blk.row v ⟨1,false⟩ true xs]) ioL=some (.row v ⟨1,false⟩ true xs):=rfl
 obtain ⟨u,rfl⟩:∃u,vs= #[u]:=by
  have:vs.size=1:=hsz
  exact ⟨vs[0],by apply Array.ext<;>simp_all⟩
 have hx:RV w S φ (.ref 1000000000 v 0 xs.length) u:=hv0
 obtain ⟨r1,r2⟩:=rv_ref hx
 have fin:∀(w':World) (fp':Nat→List Nat) (k:Blk),k= .row v ⟨1,false⟩ true ys→RS (ioB w φ fp S [.row v ⟨1,false⟩ true xs]) (#[u]:Array Value).size φ fp' S (argsE 0 [.ref 1000000000 v 0 xs.length]) ((ioL,k)::ioM 0 [.row v ⟨1,false⟩ true xs]) {tmps:= #[u],defers:=[]} w'→
  ∃r v' io' φ' fp' S' m',Ending.returned (Value.tuple #[])= .returned v'∧(r= .tup []∧io'=[Blk.row v ⟨1,false⟩ true ys])∧RS (ioB w φ fp S [.row v ⟨1,false⟩ true xs]) 0 φ' fp' S' [] m' {tmps:= #[],defers:=[]} w'∧IoOk [.row v ⟨1,false⟩ true xs] io' m'∧
   ∃fs,Own w' (fun _=>False) r v' fs∧fs.Nodup∧∀b,b∈fs→w.heap.size≤b∧¬S' b∧∀l,ioL≤l→b∉fp' l:=by
  rintro w' fp' k rfl h
  refine ⟨.tup [],.tuple #[],_,φ,fp',S,_,rfl,⟨rfl,rfl⟩,{h with tm:=fun t=>by rw [look_nil];exact .rd _ _ (.undef _),tl:=fun t l ver hl=>(by rw [look_nil] at hl;cases hl),defers:=rfl,tsz:=rfl},⟨rfl,fun j hj hj'=> ?_⟩,[],.rd _ _ (.tup [] #[] rfl fun i hi=>absurd hi (q22 _)),List.nodup_nil,fun b hb=>by cases hb⟩
  have:j=0:=by simpa using hj
  subst this
  exact ⟨by simp [lookB_cons],rfl,trivial⟩
 have nilCase:xs=[]→(∃a,u= .slice a 0 0)→Calls P f #[u] w fun e' w'=>∃r v' io' φ' fp' S' m',e'= .returned v'∧(r= .tup []∧io'=[Blk.row v ⟨1,false⟩ true ys])∧RS (ioB w φ fp S [.row v ⟨1,false⟩ true xs]) 0 φ' fp' S' [] m' {tmps:= #[],defers:=[]} w'∧IoOk [.row v ⟨1,false⟩ true xs] io' m'∧
       ∃fs,Own w' (fun _=>False) r v' fs∧fs.Nodup∧∀b,b∈fs→w.heap.size≤b∧¬S' b∧∀l,ioL≤l→b∉fp' l:=by
  rintro h1 ⟨a,rfl⟩
  have hy:ys=[]:=q4 (by rw [hlen,h1];rfl)
  refine (h0 h1 a w).mono ?_
  rintro e' w' ⟨rfl,hg⟩
  have hR2:=hR.grown hg
  refine fin w' fp (.row v ⟨1,false⟩ true ys) rfl ?_
  have e1:lookB (ioM 0 [Blk.row v ⟨1,false⟩ true xs])=lookB ((ioL,.row v ⟨1,false⟩ true ys)::ioM 0 [.row v ⟨1,false⟩ true xs]):=by
   funext l
   rw [lookB_cons]
   split
   · rename_i e;subst e;rw [hlk,h1,hy]
   · rfl
  have kn:∀l ver,known (ioM 0 [Blk.row v ⟨1,false⟩ true xs]) l ver→known ((ioL,.row v ⟨1,false⟩ true ys)::ioM 0 [.row v ⟨1,false⟩ true xs]) l ver:=by
   rintro l ver ⟨k',q1,q2⟩
   exact ⟨k',by rw [←e1];exact q1,q2⟩
  exact {hR2 with tl:=fun t l ver hl=>kn l ver (hR2.tl t l ver hl),mNone:=fun l hl=>hR2.mNone l (by rw [e1];exact hl),mSome:=fun l k hk=>hR2.mSome l k (by rw [e1];exact hk),bl:=fun l v xs hb l' ver hl=>kn l' ver (hR2.bl l v xs (by rw [e1];exact hb) l' ver hl),kn:=fun l ver h1 h2=>kn l ver (hR2.kn l ver h1 h2)}
 rcases hR.mSome ioL _ hlk with ⟨hφ,hxs,_⟩|⟨b,cap,hφ,hbm,_,hown⟩
 · exact nilCase hxs (r2 hφ).2
 · simp only [if_true] at hown
   obtain ⟨a,cap',rfl,hn,hcp⟩:=r1 b _ hφ
   rcases hcp with rfl|⟨rfl,cs0,e0,hh0,hs0⟩
   · have hx0:xs=[]:=q4 (by omega)
     exact nilCase hx0 ⟨a,by rw [hx0];rfl⟩
   · rcases own_arr hown with ⟨hx0,hf0,_⟩|⟨b',cap2,cs,e,fss,q1,hgf,hheap,hcs,hcap,hmx,hff,hfl,hvv⟩
     · rw [hf0] at hbm;cases hbm
     · simp only [Value.slice.injEq,Option.some.injEq,Addr.mk.injEq] at q1
       obtain ⟨⟨rfl,_⟩,_,rfl⟩:=q1
       rw [hheap] at hh0
       simp only [Option.some.injEq,Obj.cells.injEq] at hh0
       obtain ⟨rfl, -, -⟩:=hh0
       simp only [q21,Nat.zero_add] at hs0 hcs
       have hfe:∀i (h:i<xs.length),Rd w (fun _=>False) xs[i] (cs.toList.getD i Go.undef)∧fss.getD i []=[]:=by
        intro i hi
        have:=flat_rd (S':=fun _=>False) (hvv i hi) (isFlatL_get hflat i hi)
        rw [elemV_cell,q21] at this
        exact this
       have hfs:fss.flatten=[]:=List.flatten_eq_nil_iff.2 fun l hl=>by
        obtain ⟨i,hi,rfl⟩:=q9 hl
        have:=(hfe i (hfl▸hi)).2
        rwa [q5,q6 hi] at this
       rw [hfs] at hgf
       refine (hc w b cap' cs e hheap hs0 hn fun i hi=>(hfe i hi).1).mono ?_
       rintro e' w' ⟨rfl,cs',hs',hr',hb',hoth,hsize,hout⟩
       have hbl:=(hR.fpB ioL b (by rw [hgf];simp)).1
       have hnx:=hR.next (w':=w') ioL (φ ioL) (fp ioL) S (.row v ⟨1,false⟩ true ys) hsize hout ?_ ?_ ?_ (fun c h1 h2=>absurd h1 h2) ?_ ?_ (fun ver _=>LS.le_refl _ _) ?_ ?_ (fun _ _ hk=>by cases hk) (hR.nod ioL) ?_
       · have e1:upd φ ioL (φ ioL)=φ:=by funext l;by_cases e:l=ioL<;>simp [upd,e]
         rw [e1] at hnx
         exact fin w' _ _ rfl hnx
       · intro c cs2 e2 hc2
         by_cases ec:c=b
         · subst ec;obtain rfl:=celO_inj (hheap.symm.trans hc2);exact ⟨cs',e,hb',hs'⟩
         · exact ⟨cs2,e2,by rw [hoth c ec (q0.1 hc2).1];exact hc2,rfl⟩
       · intro c hcl hio
         exact hoth c (fun ec=>hio ioL (by subst ec;show c∈fp ioL;rw [hgf];simp)) hcl
       · intro c hcS
         exact ⟨hcS,hoth c (fun ec=>hR.notS ioL b (by rw [hgf];simp) (ec▸hcS)) (hR.sB c hcS).1⟩
       · intro l c sh ver cs2 e2 _ hc2
         by_cases ec:c=b
         · subst ec;obtain rfl:=celO_inj (hheap.symm.trans hc2);exact ⟨cs',e,hb',hs'⟩
         · exact ⟨cs2,e2,by rw [hoth c ec (q0.1 hc2).1];exact hc2,rfl⟩
       · intro l' hl' c hcl
         exact hoth c (fun ec=>hl' (hR.dis l' ioL c hcl (by rw [ec,hgf];simp))) (hR.fpB l' c hcl).1
       · rintro ver ⟨k',q1,q2⟩
         rw [hlk] at q1;cases q1;exact q2
       · refine .inr ⟨b,cap,by rw [upd_same];exact hφ,by rw [hgf];simp,fun h=>(by cases h),?_⟩
         rw [hgf]
         have e2:[b]=b::(List.replicate ys.length ([]:List Nat)).flatten:=by
          congr 1
          exact (List.flatten_eq_nil_iff.2 fun l hl=>(List.mem_replicate.1 hl).2).symm
         show Own w' (fun _=>False) _ _ [b]
         rw [e2]
         refine .arr ⟨1,false⟩ ys b cap cs' e _ hb' (by rw [hs',hcs];simp) (by omega) hmx hfy (by simp) fun i hi=> ?_
         have e3:(List.replicate ys.length ([]:List Nat)).getD i []=[]:=by simp [q5,hi]
         rw [e3,elemV_cell,q21]
         exact .rd _ _ (hr' i hi)
       · intro c hc2
         have:=hR.fpB ioL c hc2
         exact ⟨hR.notS ioL c hc2,fun l' hl' hc'=>hl' (hR.dis l' ioL c hc' hc2),Nat.lt_of_lt_of_le this.1 hsize,this.2⟩
end Go.Vc
namespace Go.Vc
open Go.Sort
theorem flatInts:∀zs:List Int,isFlatL (zs.map fun n=>AV.val (.int .i64 n))=true
 | []=>rfl
 |_::r=>by rw [List.map_cons,isFlatL_cons,flatInts r];rfl
theorem holds_rd {w:World} {b:Nat} {cs:Array Value} {e:El} {zs:List Int} (hb:w.heap[b]? =some (celO cs e)) (hcap:zs.length≤cs.size)
 (hrd:∀i (h:i<(zs.map fun n=>AV.val (.int .i64 n)).length),Rd w (fun _=>False) (zs.map fun n=>AV.val (.int .i64 n))[i] (cs.toList.getD i Go.undef)):Holds (Value.int .i64) w b 0 zs.toArray:=by
 intro j hj
 have hj':j<zs.length:=by simpa using hj
 have h1:=hrd j (by simpa using hj')
 rw [List.getElem_map] at h1
 have h2:cs.toList.getD j Go.undef= .int .i64 zs[j]:=by generalize cs.toList.getD j Go.undef=u at h1;cases h1;rfl
 have h3:j<cs.size:=by omega
 have h5:cs[j]? =some (.int .i64 zs[j]):=by
  rw [q5,Array.getElem?_toList,Array.getElem?_eq_getElem h3] at h2
  rw [Array.getElem?_eq_getElem h3]
  exact congrArg some h2
 have h6:zs.toArray[j]! =zs[j]:=by rw [getElem!_pos zs.toArray j hj];simp
 refine ⟨?_,?_⟩
 · simp only [World.cell?,hb,Nat.zero_add,Option.isSome_none,q2,↓reduceIte,h5,h6]
 · have:=celO_free hb h3
   simpa using this
theorem put_facts {w:World} {b n:Nat} {cs:Array Value} {e:El} {ys:List Int} {os:Array Obj} (hb:w.heap[b]? =some (celO cs e)) (hcs:ys.length≤cs.size):
 ∃cs':Array Value,cs'.size=cs.size∧(∀i (h:i<(ys.map fun n=>AV.val (.int .i64 n)).length),Rd (grow (putRow (Value.int .i64) (Sort.ahead w n) b 0 ys.toArray) os) (fun _=>False) (ys.map fun n=>AV.val (.int .i64 n))[i] (cs'.toList.getD i Go.undef))∧
  (grow (putRow (Value.int .i64) (Sort.ahead w n) b 0 ys.toArray) os).heap[b]? =some (celO cs' e)∧(∀c:Nat,c≠b→c<w.heap.size→(grow (putRow (Value.int .i64) (Sort.ahead w n) b 0 ys.toArray) os).heap[c]? =w.heap[c]?)∧
  w.heap.size≤(grow (putRow (Value.int .i64) (Sort.ahead w n) b 0 ys.toArray) os).heap.size∧SameOut w (grow (putRow (Value.int .i64) (Sort.ahead w n) b 0 ys.toArray) os):=by
 have hbl:b<w.heap.size:=(q0.1 hb).1
 have hheap:∀c:Nat,c<w.heap.size→(grow (putRow (Value.int .i64) (Sort.ahead w n) b 0 ys.toArray) os).heap[c]? =if b=c then w.heap[c]?.map (onCells (putCells (Value.int .i64) 0 ys.toArray)) else w.heap[c]? :=by
  intro c hc
  rw [heap_grow_old _ _ (by simpa using hc)]
  simp only [putRow,mapBlock,Sort.heap_ahead,Array.getElem?_modify]
 refine ⟨putCells (Value.int .i64) 0 ys.toArray cs,by simp [putCells],?_,?_,?_,?_,⟨rfl,rfl,rfl⟩⟩
 · intro i hi
   have hi':i<ys.length:=by simpa using hi
   have hi2:i<cs.size:=by omega
   have e1:(putCells (Value.int .i64) 0 ys.toArray cs).toList.getD i Go.undef= .int .i64 ys[i]:=by
    rw [q5,Array.getElem?_toList]
    simp [putCells,hi2,hi']
   rw [e1,List.getElem_map]
   exact .val _ rfl
 · have hs:(putCells (Value.int .i64) 0 ys.toArray cs).size=cs.size:=by simp [putCells]
   rw [hheap b hbl,if_pos rfl,hb]
   show some (Obj.cells (putCells (Value.int .i64) 0 ys.toArray cs) e.1 (frOf e cs.size))=some (Obj.cells (putCells (Value.int .i64) 0 ys.toArray cs) e.1 (frOf e (putCells (Value.int .i64) 0 ys.toArray cs).size))
   rw [hs]
 · intro c hcb hc
   rw [hheap c hc,if_neg (Ne.symm hcb)]
 · simp
theorem FnM.sortRow {P:Program} {f:FuncId} (hE:Enters P f) (g:List Int→List Int) (hg:∀zs,(g zs).length=zs.length)
 (hs:∀(blk cap:Nat) (zs:List Int) (w:World),Holds (Value.int .i64) w blk 0 zs.toArray→blk<w.heap.size→zs.length<4611686018427387904→
   Calls P f #[.slice (some ⟨blk,0,none⟩) zs.length cap] w fun e w'=>e= .returned (.tuple #[])∧∃n os,w'=grow (putRow (Value.int .i64) (Sort.ahead w n) blk 0 (g zs).toArray) os)
 (h0:∀(a:Option Addr) (w:World),Calls P f #[.slice a 0 0] w fun e w'=>e= .returned (.tuple #[])∧w'=w)
 (v:Nat) (zs:List Int) (hz:zs.length≤1048576):
 FnM P f [.row v ⟨1,false⟩ true (zs.map fun n=>.val (.int .i64 n))] [.ref 1000000000 v 0 zs.length] (fun r io=>r= .tup []∧io=[.row v ⟨1,false⟩ true ((g zs).map fun n=>.val (.int .i64 n))]):=by
 have:=FnM.row (P:=P) (f:=f) v (zs.map fun n=>AV.val (.int .i64 n)) ((g zs).map fun n=>AV.val (.int .i64 n)) (by simp [hg])
  (flatInts zs) (by intro i hi;simp [fits]) hE ?_ ?_
 · simpa using this
 · intro w b cap cs e hb hcs hcap hrd
   have h4:(zs.map fun n=>AV.val (.int .i64 n)).length=zs.length:=List.length_map _
   have h1:=hs b cap zs w (holds_rd hb (by omega) hrd) (q0.1 hb).1 (by omega)
   rw [List.length_map]
   refine h1.mono ?_
   rintro e' w' ⟨rfl,n,os,rfl⟩
   exact ⟨rfl,put_facts hb (by rw [hg];omega)⟩
 · intro hx a w
   refine (h0 a w).mono ?_
   rintro e' w' ⟨rfl,rfl⟩
   exact ⟨rfl,Grown.refl _⟩
section
variable {P:Program} {m:Mem}
theorem sCallIo_row {f:FuncId} {l ver j:Nat} {xs ys:List AV} {k:AV→Mem→Prop} (hE:Enters P f) (hlk:lookB m l=some (.row ver ⟨1,false⟩ true xs)) (hflat:isFlatL xs=true) (hlen:ys.length=xs.length) (hj:j≤xs.length)
 (hfy:∀i (h:i<ys.length),fits ⟨1,false⟩ ys[i])
 (hc:∀(w:World) (b cap:Nat) (cs:Array Value) (e:El),w.heap[b]? =some (celO cs e)→cs.size=cap→xs.length≤cap→(∀i (h:i<xs.length),Rd w (fun _=>False) xs[i] (cs.toList.getD i Go.undef))→
   Calls P f #[.slice (some ⟨b,0,none⟩) xs.length cap] w fun e' w'=>e'= .returned (.slice (some ⟨b,0,none⟩) j cap)∧∃cs':Array Value,cs'.size=cs.size∧(∀i (h:i<ys.length),Rd w' (fun _=>False) ys[i] (cs'.toList.getD i Go.undef))∧
    w'.heap[b]? =some (celO cs' e)∧(∀c:Nat,c≠b→c<w.heap.size→w'.heap[c]? =w.heap[c]?)∧w.heap.size≤w'.heap.size∧SameOut w w')
 (h0:xs=[]→∀(a:Option Addr) (w:World),Calls P f #[.slice a 0 0] w fun e' w'=>e'= .returned (.slice a 0 0)∧Grown w w')
 (hk:k (.ref l (ver+1) 0 j) ((l,.row (ver+1) ⟨1,false⟩ true ys)::m)):sCallIo P f [.ref l ver 0 xs.length] m k:=by
 refine fun B N φ fp S ts a w vs hR hsz hx hxl=>⟨hE,?_⟩
 obtain ⟨u,rfl⟩:∃u,vs= #[u]:=by
  have:vs.size=1:=hsz
  exact ⟨vs[0],by apply Array.ext<;>simp_all⟩
 have hx0:RV w S φ (.ref l ver 0 xs.length) u:=hx 0 (by simp)
 obtain ⟨r1,r2⟩:=rv_ref hx0
 have hver:∀v',known m l v'→v'<ver+1:=by
  rintro v' ⟨k',h1,h2⟩
  rw [hlk] at h1;cases h1;exact Nat.lt_succ_of_le h2
 have nilCase:xs=[]→(∃a',u= .slice a' 0 0)→Calls P f #[u] w fun e' w'=>∃v,e'= .returned v∧Gives B N a (fun x ts' m'=>ts'=ts∧k x m') v w':=by
  rintro h1 ⟨a',rfl⟩
  have hy:ys=[]:=q4 (by rw [hlen,h1];rfl)
  have hj0:j=0:=by rw [h1] at hj;simpa using hj
  refine (h0 h1 a' w).mono ?_
  rintro e' w' ⟨rfl,hg⟩
  refine ⟨_,rfl,(hR.grown hg).nilNext hver (nv:=ver+1) (sh:=⟨1,false⟩) (deep:=true) ⟨rfl,?_⟩⟩
  rw [hy,hj0] at hk;exact hk
 rcases hR.mSome l _ hlk with ⟨hφ,hxs,_⟩|⟨b,cap,hφ,hbm,_,hown⟩
 · exact nilCase hxs (r2 hφ).2
 · simp only [if_true] at hown
   obtain ⟨ad,cap',rfl,hn,hcp⟩:=r1 b _ hφ
   rcases hcp with rfl|⟨rfl,cs0,e0,hh0,hs0⟩
   · have hx1:xs=[]:=q4 (by omega)
     exact nilCase hx1 ⟨ad,by rw [hx1];rfl⟩
   · rcases own_arr hown with ⟨hx1,hf0,_⟩|⟨b',cap2,cs,e,fss,q1,hgf,hheap,hcs,hcap,hmx,hff,hfl,hvv⟩
     · rw [hf0] at hbm;cases hbm
     · simp only [Value.slice.injEq,Option.some.injEq,Addr.mk.injEq] at q1
       obtain ⟨⟨rfl,_⟩,_,rfl⟩:=q1
       rw [hheap] at hh0
       simp only [Option.some.injEq,Obj.cells.injEq] at hh0
       obtain ⟨rfl, -, -⟩:=hh0
       simp only [q21,Nat.zero_add] at hs0 hcs
       have hfe:∀i (h:i<xs.length),Rd w (fun _=>False) xs[i] (cs.toList.getD i Go.undef)∧fss.getD i []=[]:=by
        intro i hi
        have:=flat_rd (S':=fun _=>False) (hvv i hi) (isFlatL_get hflat i hi)
        rw [elemV_cell,q21] at this
        exact this
       have hfs:fss.flatten=[]:=List.flatten_eq_nil_iff.2 fun l hl=>by
        obtain ⟨i,hi,rfl⟩:=q9 hl
        have:=(hfe i (hfl▸hi)).2
        rwa [q5,q6 hi] at this
       rw [hfs] at hgf
       rw [show (0:Nat)*(1:Nat)=0 from rfl]
       refine (hc w b cap' cs e hheap hs0 hn fun i hi=>(hfe i hi).1).mono ?_
       rintro e' w' ⟨rfl,cs',hs',hr',hb',hoth,hsize,hout⟩
       have hbl:b<w.heap.size:=(q0.1 hheap).1
       have hszs:Szs w w':=by
        intro c cs2 e2 hc2
        by_cases ec:c=b
        · subst ec;obtain rfl:=celO_inj (hheap.symm.trans hc2);exact ⟨cs',e,hb',hs'⟩
        · exact ⟨cs2,e2,by rw [hoth c ec (q0.1 hc2).1];exact hc2,rfl⟩
       refine ⟨_,rfl,hR.rowNext (b:=b) (cap:=cap) (n:=j) (nv:=ver+1) (sh:=⟨1,false⟩) (deep:=true) (xs:=ys) (fs:=[b]) hsize hout hszs hoth
        (fun l b sh ver cs e _ hb=>hszs b cs e hb) (.inl hbm) hver (fun c hc=>.inl (by simpa using hc)) (by simp) (fun h=>(by cases h)) (by simp) ?_ ?_ ⟨rfl,hk⟩⟩
       · have e2:[b]=b::(List.replicate ys.length ([]:List Nat)).flatten:=by
          congr 1
          exact (List.flatten_eq_nil_iff.2 fun l hl=>(List.mem_replicate.1 hl).2).symm
         show Own w' (fun _=>False) _ _ [b]
         rw [e2]
         refine .arr ⟨1,false⟩ ys b cap cs' e _ hb' (by rw [hs',hcs];simp) (by omega) hmx hfy (by simp) fun i hi=> ?_
         have e3:(List.replicate ys.length ([]:List Nat)).getD i []=[]:=by simp [q5,hi]
         rw [e3,elemV_cell,q21]
         exact .rd _ _ (hr' i hi)
       · exact ⟨some ⟨b,0,none⟩,cap',rfl,by omega,.inr ⟨rfl,cs',e,hb',by rw [hs',hs0];simp⟩⟩
theorem sCallIo_ints {f:FuncId} {l ver n:Nat} {zs ys:List Int} {k:AV→Mem→Prop} (j:Nat) (hE:Enters P f) (hlk:lookB m l=some (.row ver ⟨1,false⟩ true (zs.map fun n=>.val (.int .i64 n)))) (hn:n=zs.length) (hlen:ys.length=zs.length) (hj:j≤zs.length)
 (hz:zs.length≤1048576)
 (hc:∀(blk cap:Nat) (w:World),Holds (Value.int .i64) w blk 0 zs.toArray→zs.length≤cap→
   Calls P f #[.slice (some ⟨blk,0,none⟩) zs.length cap] w fun e' w'=>e'= .returned (.slice (some ⟨blk,0,none⟩) j cap)∧∃q,w'=putRow (Value.int .i64) (Sort.ahead w q) blk 0 ys.toArray)
 (h0:∀(a:Option Addr) (w:World),Calls P f #[.slice a 0 0] w fun e' w'=>e'= .returned (.slice a 0 0)∧w'=w)
 (hk:k (.ref l (ver+1) 0 j) ((l,.row (ver+1) ⟨1,false⟩ true (ys.map fun n=>.val (.int .i64 n)))::m)):sCallIo P f [.ref l ver 0 n] m k:=by
 have h4:(zs.map fun n=>AV.val (.int .i64 n)).length=zs.length:=List.length_map _
 rw [hn,←h4]
 refine sCallIo_row hE hlk (flatInts zs) (ys:=ys.map fun n=>.val (.int .i64 n)) (j:=j) (by simp [hlen]) (by omega) (by intro i hi;simp [fits]) ?_ ?_ hk
 · intro w b cap cs e hb hcs hcap hrd
   have h1:=hc b cap w (holds_rd hb (by omega) hrd) (by omega)
   rw [h4]
   refine h1.mono ?_
   rintro e' w' ⟨rfl,n,rfl⟩
   refine ⟨rfl,?_⟩
   have:=put_facts (os:= #[]) (n:=n) (ys:=ys) hb (by omega)
   simpa only [grow_empty] using this
 · intro hx a w
   refine (h0 a w).mono ?_
   rintro e' w' ⟨rfl,rfl⟩
   exact ⟨rfl,Grown.refl _⟩
theorem sCallT_ints {f:FuncId} {d l ver n:Nat} {zs ys:List Int} {xt:List AV} {k:AV→Mem→Prop} {q:Pack k} (j:Nat) (hE:Enters P f) (hlk:lookB m l=some (.row ver ⟨1,false⟩ true (zs.map fun n=>.val (.int .i64 n)))) (hn:n=zs.length) (hlen:ys.length=zs.length) (hj:j≤zs.length)
 (hz:zs.length≤1048576)
 (hc:∀(blk cap:Nat) (w:World),Holds (Value.int .i64) w blk 0 zs.toArray→zs.length≤cap→
   Calls P f #[.slice (some ⟨blk,0,none⟩) zs.length cap] w fun e' w'=>e'= .returned (.slice (some ⟨blk,0,none⟩) j cap)∧∃q,w'=putRow (Value.int .i64) (Sort.ahead w q) blk 0 ys.toArray)
 (h0:∀(a:Option Addr) (w:World),Calls P f #[.slice a 0 0] w fun e' w'=>e'= .returned (.slice a 0 0)∧w'=w)
 (hk:k (.ref l (ver+1) 0 j) ((l,.row (ver+1) ⟨1,false⟩ true (ys.map fun n=>.val (.int .i64 n)))::m)):sCallT P f d [.ref l ver 0 n] xt m k q:=
 .inl (sCallIo_ints j hE hlk hn hlen hj hz hc h0 hk)
theorem sCallX_ints {f:FuncId} {d l ver n:Nat} {zs ys:List Int} {xt:List AV} {k:AV→Mem→Prop} {q:Pack k} (j:Nat) (hE:Enters P f) (hlk:lookB m l=some (.row ver ⟨1,false⟩ true (zs.map fun n=>.val (.int .i64 n)))) (hn:n=zs.length) (hlen:ys.length=zs.length) (hj:j≤zs.length)
 (hz:zs.length≤1048576)
 (hc:∀(blk cap:Nat) (w:World),Holds (Value.int .i64) w blk 0 zs.toArray→zs.length≤cap→
   Calls P f #[.slice (some ⟨blk,0,none⟩) zs.length cap] w fun e' w'=>e'= .returned (.slice (some ⟨blk,0,none⟩) j cap)∧∃q,w'=putRow (Value.int .i64) (Sort.ahead w q) blk 0 ys.toArray)
 (h0:∀(a:Option Addr) (w:World),Calls P f #[.slice a 0 0] w fun e' w'=>e'= .returned (.slice a 0 0)∧w'=w)
 (hk:k (.ref l (ver+1) 0 j) ((l,.row (ver+1) ⟨1,false⟩ true (ys.map fun n=>.val (.int .i64 n)))::m)):sCallX P f d [.ref l ver 0 n] xt m k q:=
 .inr (.inr ⟨_,[_],hk,fun m' a _ k' hk'=>sCallIo_ints j hE ((a l ⟨_,List.mem_singleton.2 rfl,NL.ref _ _ _ _⟩).trans hlk) hn hlen hj hz hc h0 hk'⟩)
end
end Go.Vc
namespace Go.Vc
theorem setCells_row {P:Program} {w:World} {b o:Nat} {cs:Array Value} {e:El} {vs:List Value} (hb:w.heap[b]? =some (celO cs e)) (h1:∀u,u∈vs→u.oneCell'=true) (hfit:o+vs.length≤cs.size):
 w.setCells b o vs=w.setRow b (cs.toList.take o++vs++cs.toList.drop (o+vs.length)).toArray:=by
 have e1:=storeCells_cel P (e:=e) (o:=o) vs 0 cs w hb (by simpa using hfit) h1
 have e2:=run_storeCells_cells (P:=P) b o vs 0 w (fun j hj=>by
  have hlt:o+0+j<cs.size:=by omega
  simp [World.cell?,hb];omega) (fun j hj=>by
   have hlt:o+j<cs.size:=by omega
   have:=celO_free hb hlt
   simpa using this) h1
 simp only [Nat.add_zero] at e1 e2
 rw [e2] at e1
 injection e1
theorem own_one {w:World} {S:Nat→Prop} {x:AV} {l:List Value} {o:Nat} {sh:Sh} {fs:List Nat} (h:Own w S x (elemV l o sh) fs) (hf:fits sh x) (hl:o+sh.sz≤l.length) (c:Nat) (hc:c<sh.sz):(l.getD (o+c) Go.undef).oneCell'=true:=by
 cases sh with
 |mk sz ag=>
 simp only at hc hl
 have one:leaf x→ag=false∧sz=1→(l.getD (o+c) Go.undef).oneCell'=true:=by
  rintro hlf ⟨rfl,rfl⟩
  have:=h.leaf_oneCell hlf
  rw [elemV_cell] at this
  rw [show o+c=o by omega];exact this
 cases x with
 |agg zs=>
  obtain ⟨rfl,hzl⟩:=hf
  obtain ⟨cs,fss,hcs,_,h1,h2,_,h3⟩:=own_agg h
  rw [elemV_agg] at hcs
  cases hcs
  have h4:=(h3 c (by rw [hzl];exact hc)).leaf_oneCell (h2 _ (by rw [hzl];exact hc))
  rw [show (((l.drop o).take sz).toArray.toList)=(l.drop o).take sz from rfl,getD_drop_take _ _ _ _ hc] at h4
  exact h4
 |undef=>exact hf.elim
 |tup xs=>exact hf.elim
 |_=>exact one trivial hf
def skp (i p:Nat):Nat:=if p<i then p else p+1
theorem erase_get {α:Type} (xs:List α) (i p:Nat):(xs.eraseIdx i)[p]? =xs[skp i p]? :=by
 rw [List.getElem?_eraseIdx];unfold skp;split<;>rfl
section
variable {P:Program} {m:Mem}
theorem sCallT_del {f:FuncId} {d l ver i n:Nat} {sh:Sh} {xs xt:List AV} {zs:List Value} {k:AV→Mem→Prop} {q:Pack k} (hE:Enters P f) (hlk:lookB m l=some (.row ver sh true xs)) (hn:n=xs.length) (hi:i<xs.length) (hsz:0<sh.sz)
 (hzl:zs.length=sh.sz) (hz1:∀u,u∈zs→u.oneCell'=true)
 (hc:∀(w:World) (b cap:Nat) (cs:Array Value) (e:El),w.heap[b]? =some (celO cs e)→cs.size=cap*sh.sz→cap≤9223372036854775807→xs.length≤cap→(∀v,v∈(cs.toList.drop ((i+1)*sh.sz)).take ((xs.length-(i+1))*sh.sz)→v.oneCell'=true)→
   Calls P f #[.slice (some ⟨b,0,none⟩) xs.length cap,.int .i64 i,.int .i64 ((i+1:Nat):Int)] w fun e' w'=>e'= .returned (.slice (some ⟨b,0,none⟩) (xs.length-1) cap)∧
    ∃q,w'=((w.drewN q).setCells b (i*sh.sz) ((cs.toList.drop ((i+1)*sh.sz)).take ((xs.length-(i+1))*sh.sz))).setCells b ((xs.length-1)*sh.sz) zs)
 (hk:k (.ref l (ver+1) 0 (xs.length-1)) ((l,.row (ver+1) sh true (xs.eraseIdx i))::m)):sCallT P f d [.ref l ver 0 n,.val (.int .i64 i),.val (.int .i64 ((i:Int)+1))] xt m k q:=by
 subst hn
 refine .inl fun B N φ fp S ts a w vs hR hvsz hx hxl=>⟨hE,?_⟩
 obtain ⟨u,u1,u2,rfl⟩:∃u u1 u2,vs= #[u,u1,u2]:=by
  have:vs.size=3:=hvsz
  exact ⟨vs[0],vs[1],vs[2],by
   apply Array.ext
   · simpa using this
   · intro j h1 h2
     have:j=0∨j=1∨j=2:=by omega
     rcases this with rfl|rfl|rfl<;>rfl⟩
 have hx0:RV w S φ (.ref l ver 0 xs.length) u:=hx 0 (by simp)
 have hx1:RV w S φ (.val (.int .i64 i)) u1:=hx 1 (by simp)
 have hx2:RV w S φ (.val (.int .i64 ((i:Int)+1))) u2:=hx 2 (by simp)
 obtain ⟨rfl,_⟩:=rv_val hx1
 obtain ⟨rfl,_⟩:=rv_val hx2
 obtain ⟨r1,r2⟩:=rv_ref hx0
 have hver:∀v',known m l v'→v'<ver+1:=by
  rintro v' ⟨k',h1,h2⟩
  rw [hlk] at h1;cases h1;exact Nat.lt_succ_of_le h2
 rcases hR.mSome l _ hlk with ⟨hφ,hxs,_⟩|⟨b,cap,hφ,hbm,_,hown⟩
 · rw [hxs] at hi;exact absurd hi (q22 _)
 · simp only [if_true] at hown
   obtain ⟨ad,cap',rfl,hn,hcp⟩:=r1 b _ hφ
   rcases hcp with rfl|⟨rfl,cs0,e0,hh0,hs0⟩
   · omega
   · rcases own_arr hown with ⟨hx1,hf0,_⟩|⟨b',cap2,cs,e,fss,q1,hgf,hheap,hcs,hcap,hmx,hff,hfl,hvv⟩
     · rw [hf0] at hbm;cases hbm
     · simp only [Value.slice.injEq,Option.some.injEq,Addr.mk.injEq] at q1
       obtain ⟨⟨rfl,_⟩,_,rfl⟩:=q1
       rw [hheap] at hh0
       simp only [Option.some.injEq,Obj.cells.injEq] at hh0
       obtain ⟨rfl, -, -⟩:=hh0
       rw [Nat.zero_add] at hs0
       have hcc:cap'=cap:=Nat.eq_of_mul_eq_mul_right hsz (by rw [←hs0,hcs])
       subst hcc
       have hfit:xs.length*sh.sz≤cs.size:=by rw [hcs];exact Nat.mul_le_mul_right _ hcap
       have cell1:∀p,p<xs.length→∀c,c<sh.sz→(cs.toList.getD (p*sh.sz+c) Go.undef).oneCell'=true:=by
        intro p hp c hcl
        have h1:=mul_le_of_lt (s:=sh.sz) hp
        exact own_one (hvv p hp) (hff p hp) (by rw [Array.length_toList];omega) c hcl
       have hmul:∀p,(p+1)*sh.sz=p*sh.sz+sh.sz:=fun p=>Nat.succ_mul p _
       obtain ⟨g1,hg1⟩:∃g1,g1=(xs.length-(i+1))*sh.sz:=⟨_,rfl⟩
       have hg2:(i+1)*sh.sz+g1=xs.length*sh.sz:=by rw [hg1,←Nat.add_mul];congr 1;omega
       have hg3:(xs.length-1)*sh.sz+sh.sz=xs.length*sh.sz:=by rw [←hmul];congr 1;omega
       have hg4:i*sh.sz+g1=(xs.length-1)*sh.sz:=by rw [hmul] at hg2;omega
       obtain ⟨news,hnews⟩:∃news,news=(cs.toList.drop ((i+1)*sh.sz)).take ((xs.length-(i+1))*sh.sz):=⟨_,rfl⟩
       have hnl:news.length=g1:=by rw [hnews,hg1];simp;omega
       have hnget:∀c,c<g1→news.getD c Go.undef=cs.toList.getD ((i+1)*sh.sz+c) Go.undef:=by
        intro c hcl
        rw [hnews,getD_drop_take _ _ _ _ (by rw [←hg1];exact hcl)]
       have hn1:∀u,u∈news→u.oneCell'=true:=by
        intro u hu
        obtain ⟨t,ht,rfl⟩:=q9 hu
        have h2:=hnget t (by omega)
        rw [q5,q6 ht] at h2
        simp only [Option.getD_some] at h2
        rw [h2]
        have h3:((i+1)*sh.sz+t) / sh.sz<xs.length:=by rw [Nat.div_lt_iff_lt_mul hsz];omega
        have h4:=Nat.div_add_mod ((i+1)*sh.sz+t) sh.sz
        have h5:=cell1 _ h3 _ (Nat.mod_lt ((i+1)*sh.sz+t) hsz)
        rw [Nat.mul_comm] at h4
        rw [h4] at h5
        exact h5
       have hcr:=hc w b cap' cs e hheap hcs (by unfold maxLen at hmx;omega) hcap (by rw [←hnews];exact hn1)
       rw [←hnews] at hcr
       rw [show (0:Nat)*sh.sz=0 from Nat.zero_mul _]
       refine hcr.mono ?_
       rintro e' w' ⟨rfl,q',hw'⟩
       have hheapq:(w.drewN q').heap[b]? =some (celO cs e):=hheap
       have hf1:i*sh.sz+news.length≤cs.size:=by rw [hnl];omega
       rw [setCells_row (P:=P) hheapq hn1 hf1] at hw'
       have hs1:=size_splice (cs:=cs) hf1
       have hh1:=heap_setRow hheapq hs1
       have hget1:∀c,c<(xs.length-1)*sh.sz→(cs.toList.take (i*sh.sz)++news++cs.toList.drop (i*sh.sz+news.length)).toArray.toList.getD c Go.undef=if c<i*sh.sz then cs.toList.getD c Go.undef else cs.toList.getD (c+sh.sz) Go.undef:=by
        intro c hcl
        show (cs.toList.take (i*sh.sz)++news++cs.toList.drop (i*sh.sz+news.length)).getD c Go.undef=_
        rw [splice_getD _ _ _ _ (by rw [Array.length_toList];exact hf1)]
        by_cases h1:c<i*sh.sz
        · rw [if_neg (by omega),if_pos h1]
        · rw [if_pos (by omega),if_neg h1,hnget _ (by omega),hmul]
          congr 1;omega
       generalize (cs.toList.take (i*sh.sz)++news++cs.toList.drop (i*sh.sz+news.length)).toArray=cs1 at hw' hs1 hh1 hget1
       have hf2:(xs.length-1)*sh.sz+zs.length≤cs1.size:=by rw [hzl,hs1];omega
       rw [setCells_row (P:=P) hh1 hz1 hf2] at hw'
       have hs2:=size_splice (cs:=cs1) hf2
       have hh2:=heap_setRow hh1 hs2
       have hget2:∀c,c<(xs.length-1)*sh.sz→(cs1.toList.take ((xs.length-1)*sh.sz)++zs++cs1.toList.drop ((xs.length-1)*sh.sz+zs.length)).toArray.toList.getD c Go.undef=if c<i*sh.sz then cs.toList.getD c Go.undef else cs.toList.getD (c+sh.sz) Go.undef:=by
        intro c hcl
        rw [←hget1 c hcl]
        show (cs1.toList.take ((xs.length-1)*sh.sz)++zs++cs1.toList.drop ((xs.length-1)*sh.sz+zs.length)).getD c Go.undef=_
        rw [splice_getD _ _ _ _ (by rw [Array.length_toList];exact hf2),if_neg (by omega)]
       have hoth:∀c,c≠b→w'.heap[c]? =w.heap[c]? :=by
        intro c hcb
        rw [hw',heap_setRow_other _ hcb,heap_setRow_other _ hcb];rfl
       have hwsz:w'.heap.size=w.heap.size:=by rw [hw'];simp
       have hso:SameOut w w':=by rw [hw'];exact ⟨rfl,rfl,rfl⟩
       rw [←hw'] at hh2
       clear hw'
       generalize (cs1.toList.take ((xs.length-1)*sh.sz)++zs++cs1.toList.drop ((xs.length-1)*sh.sz+zs.length)).toArray=cs2 at hs2 hh2 hget2
       have hsz2:cs2.size=cs.size:=hs2.trans hs1
       have hszs:Szs w w':=by
        intro c cs3 e3 hc3
        by_cases ec:c=b
        · subst ec;obtain rfl:=celO_inj (hheap.symm.trans hc3);exact ⟨cs2,e,hh2,hsz2⟩
        · exact ⟨cs3,e3,by rw [hoth c ec];exact hc3,rfl⟩
       have hnod:=hR.nod l
       rw [hgf] at hnod
       have hnod':=List.nodup_cons.1 hnod
       have hel:(xs.eraseIdx i).length=xs.length-1:=by rw [List.length_eraseIdx,if_pos hi]
       have hpre:((fss.eraseIdx i).flatten).Sublist fss.flatten:=by
        rw [List.eraseIdx_eq_take_drop_succ,List.flatten_append]
        have e1:fss.flatten=(fss.take i).flatten++((fss.drop i).take 1).flatten++(fss.drop (i+1)).flatten:=by
         rw [List.append_assoc,←List.flatten_append,←List.flatten_append]
         congr 1
         rw [show fss.drop (i+1)=(fss.drop i).drop 1 by rw [List.drop_drop],List.take_append_drop,List.take_append_drop]
        rw [e1]
        exact List.Sublist.append (List.sublist_append_left ..) (List.Sublist.refl _)
       have hfin:∀c,c∈(fss.eraseIdx i).flatten→c∈fp l:=fun c hc=>by rw [hgf];exact List.mem_cons_of_mem _ (hpre.subset hc)
       refine ⟨_,rfl,hR.rowNext (b:=b) (cap:=cap') (n:=xs.length-1) (nv:=ver+1) (sh:=sh) (deep:=true) (xs:=xs.eraseIdx i) (fs:=b::(fss.eraseIdx i).flatten) (by omega) hso hszs (fun c hcb _=>hoth c hcb)
        (fun l b sh ver cs e _ hb=>hszs b cs e hb) (.inl hbm) hver (fun c hc=> ?_) (List.mem_cons_self ..) (fun h=>(by cases h)) (List.nodup_cons.2 ⟨fun hc=>hnod'.1 (hpre.subset hc),hnod'.2.sublist hpre⟩) ?_ ?_ ⟨rfl,hk⟩⟩
       · rcases List.mem_cons.1 hc with rfl|hc
         · exact .inl rfl
         · exact .inr (hfin c hc)
       · show Own w' (fun _=>False) _ _ _
         refine .arr sh (xs.eraseIdx i) b cap' cs2 e (fss.eraseIdx i) hh2 (by rw [hsz2,hcs]) (by omega) hmx (fun p hp=> ?_) (by rw [hel,List.length_eraseIdx,if_pos (by omega)];omega) fun p hp=> ?_
         · have hp1:skp i p<xs.length:=by unfold skp;split<;>omega
           have:(xs.eraseIdx i)[p]=xs[skp i p]:=by
            have h1:=erase_get xs i p
            rw [q6 hp,q6 hp1] at h1
            exact Option.some.inj h1
           rw [this];exact hff _ hp1
         · have hp1:skp i p<xs.length:=by unfold skp;split<;>omega
           have hp2:p<xs.length-1:=by omega
           have e1:(xs.eraseIdx i)[p]=xs[skp i p]:=by
            have h1:=erase_get xs i p
            rw [q6 hp,q6 hp1] at h1
            exact Option.some.inj h1
           have e2:(fss.eraseIdx i).getD p []=fss.getD (skp i p) []:=by
            rw [q5,q5,erase_get]
           have m1:=mul_le_of_lt (s:=sh.sz) hp2
           have m2:=mul_le_of_lt (s:=sh.sz) hp1
           have e3:elemV cs2.toList (p*sh.sz) sh=elemV cs.toList (skp i p*sh.sz) sh:=by
            refine elemV_ext (by rw [Array.length_toList,hsz2];omega) (by rw [Array.length_toList];omega) (fits_sz (hff _ hp1)) fun c hcl=> ?_
            rw [hget2 _ (by omega)]
            unfold skp
            by_cases h1:p<i
            · have:=mul_le_of_lt (s:=sh.sz) h1
              rw [if_pos (by omega),if_pos h1]
            · have:i*sh.sz≤p*sh.sz:=Nat.mul_le_mul_right _ (by omega)
              rw [if_neg (by omega),if_neg h1,hmul]
              congr 1;omega
           rw [e1,e2,e3]
           exact (hvv _ hp1).mono (fun _ h=>h.elim) (fun _ h=>h) fun c hc2=>hoth c fun e=>hnod'.1 (by rw [←e];exact mem_flatten_getD (by omega) hc2)
       · exact ⟨some ⟨b,0,none⟩,cap',rfl,by omega,.inr ⟨rfl,cs2,e,hh2,by rw [hsz2,hcs]⟩⟩
end
end Go.Vc
namespace Go.Proofs
open Go.Shelf
def Tryz.laySort_ren:Go.Shelf.Ren:=⟨fun|53=>103|64=>131|63=>130|78=>154|79=>155|70=>145|71=>146|72=>147|73=>148|74=>149|75=>150|59=>151|76=>152|77=>153|88=>164|89=>165|90=>166|91=>167|92=>168|68=>118|96=>177|n=>n,fun|22=>31|23=>2|3=>3|51=>97|0=>0|67=>156|69=>158|4=>4|61=>149|60=>148|44=>69|5=>5|9=>9|75=>168|79=>172|83=>181|84=>182|n=>n,fun|n=>n⟩
theorem Tryz.laySort:Go.Proofs.SlLaysN.n53 Tryz.prog Tryz.laySort_ren:={
 mixed:=by kernel_rfl
 f53:=⟨Tryz.f103.name,by decide,Tryz.func103.trans (congrArg some (by kernel_rfl))⟩
 f59:=⟨Tryz.f151.name,by decide,Tryz.func151.trans (congrArg some (by kernel_rfl))⟩
 f63:=⟨Tryz.f130.name,by decide,Tryz.func130.trans (congrArg some (by kernel_rfl))⟩
 f64:=Tryz.func131.trans (congrArg some (by kernel_rfl))
 f68:=⟨Tryz.f118.name,by decide,Tryz.func118.trans (congrArg some (by kernel_rfl))⟩
 f70:=⟨Tryz.f145.name,by decide,Tryz.func145.trans (congrArg some (by kernel_rfl))⟩
 f71:=⟨Tryz.f146.name,by decide,Tryz.func146.trans (congrArg some (by kernel_rfl))⟩
 f72:=⟨Tryz.f147.name,by decide,Tryz.func147.trans (congrArg some (by kernel_rfl))⟩
 f73:=⟨Tryz.f148.name,by decide,Tryz.func148.trans (congrArg some (by kernel_rfl))⟩
 f74:=⟨Tryz.f149.name,by decide,Tryz.func149.trans (congrArg some (by kernel_rfl))⟩
 f75:=⟨Tryz.f150.name,by decide,Tryz.func150.trans (congrArg some (by kernel_rfl))⟩
 f76:=⟨Tryz.f152.name,by decide,Tryz.func152.trans (congrArg some (by kernel_rfl))⟩
 f77:=⟨Tryz.f153.name,by decide,Tryz.func153.trans (congrArg some (by kernel_rfl))⟩
 f78:=Tryz.func154.trans (congrArg some (by kernel_rfl))
 f79:=Tryz.func155.trans (congrArg some (by kernel_rfl))
 f88:=⟨Tryz.f164.name,by decide,Tryz.func164.trans (congrArg some (by kernel_rfl))⟩
 f89:=Tryz.func165.trans (congrArg some (by kernel_rfl))
 f90:=Tryz.func166.trans (congrArg some (by kernel_rfl))
 f91:=⟨Tryz.f167.name,by decide,Tryz.func167.trans (congrArg some (by kernel_rfl))⟩
 f92:=⟨Tryz.f168.name,by decide,Tryz.func168.trans (congrArg some (by kernel_rfl))⟩
 f96:=⟨Tryz.f177.name,by decide,Tryz.func177.trans (congrArg some (by kernel_rfl))⟩
 t0:=Tryz.underlying0
 a0:=Tryz.isAgg0
 z0:=Tryz.sizeOf0
 v0:=Tryz.zeroValue0
 t3:=Tryz.underlying3
 a3:=Tryz.isAgg3
 z3:=Tryz.sizeOf3
 v3:=Tryz.zeroValue3
 t4:=Tryz.underlying4
 a4:=Tryz.isAgg4
 z4:=Tryz.sizeOf4
 v4:=Tryz.zeroValue4
 t5:=Tryz.underlying5
 a5:=Tryz.isAgg5
 z5:=Tryz.sizeOf5
 v5:=Tryz.zeroValue5
 t9:=Tryz.underlying9
 a9:=Tryz.isAgg9
 z9:=Tryz.sizeOf9
 v9:=Tryz.zeroValue9
 t22:=Tryz.underlying31
 a22:=Tryz.isAgg31
 z22:=Tryz.sizeOf31
 v22:=Tryz.zeroValue31
 t23:=Tryz.underlying2
 a23:=Tryz.isAgg2
 z23:=Tryz.sizeOf2
 v23:=Tryz.zeroValue2
 t44:=Tryz.underlying69
 a44:=Tryz.isAgg69
 z44:=Tryz.sizeOf69
 v44:=Tryz.zeroValue69
 t51:=Tryz.underlying97
 a51:=Tryz.isAgg97
 z51:=Tryz.sizeOf97
 v51:=Tryz.zeroValue97
 t60:=Tryz.underlying148
 a60:=Tryz.isAgg148
 z60:=Tryz.sizeOf148
 v60:=Tryz.zeroValue148
 t61:=Tryz.underlying149
 a61:=Tryz.isAgg149
 z61:=Tryz.sizeOf149
 v61:=Tryz.zeroValue149
 t67:=Tryz.underlying156
 a67:=Tryz.isAgg156
 z67:=Tryz.sizeOf156
 v67:=Tryz.zeroValue156
 t69:=Tryz.underlying158
 a69:=Tryz.isAgg158
 z69:=Tryz.sizeOf158
 v69:=Tryz.zeroValue158
 t75:=Tryz.underlying168
 a75:=Tryz.isAgg168
 z75:=Tryz.sizeOf168
 v75:=Tryz.zeroValue168
 t79:=Tryz.underlying172
 a79:=Tryz.isAgg172
 z79:=Tryz.sizeOf172
 v79:=Tryz.zeroValue172
 t83:=Tryz.underlying181
 a83:=Tryz.isAgg181
 z83:=Tryz.sizeOf181
 v83:=Tryz.zeroValue181
 t84:=Tryz.underlying182
 a84:=Tryz.isAgg182
 z84:=Tryz.sizeOf182
 v84:=Tryz.zeroValue182}
def Tryz.layCompact_ren:Go.Shelf.Ren:=⟨fun|43=>104|n=>n,fun|22=>31|23=>2|3=>3|4=>4|0=>0|n=>n,fun|n=>n⟩
theorem Tryz.layCompact:Go.Proofs.SlLaysN.n43 Tryz.prog Tryz.layCompact_ren:={
 mixed:=by kernel_rfl
 f43:=⟨Tryz.f104.name,by decide,Tryz.func104.trans (congrArg some (by kernel_rfl))⟩
 t0:=Tryz.underlying0
 a0:=Tryz.isAgg0
 z0:=Tryz.sizeOf0
 v0:=Tryz.zeroValue0
 t3:=Tryz.underlying3
 a3:=Tryz.isAgg3
 z3:=Tryz.sizeOf3
 v3:=Tryz.zeroValue3
 t4:=Tryz.underlying4
 a4:=Tryz.isAgg4
 z4:=Tryz.sizeOf4
 v4:=Tryz.zeroValue4
 t22:=Tryz.underlying31
 a22:=Tryz.isAgg31
 z22:=Tryz.sizeOf31
 v22:=Tryz.zeroValue31
 t23:=Tryz.underlying2
 a23:=Tryz.isAgg2
 z23:=Tryz.sizeOf2
 v23:=Tryz.zeroValue2
 i23:=by kernel_rfl}
end Go.Proofs
namespace Go.Vc
section
variable {P:Program} {B:Base} {N:Nat} {φ:Nat→LS} {fp:Nat→List Nat} {S:Nat→Prop} {ts:Env} {m:Mem} {a:Act} {w:World}
theorem Later.seqV {x y:Code} {Q:Post} {q:Pack (Code.seq x y,Q)} (hok:codeOk N x=true) (h:Go.Vc.vc P N x ts m (thn Q fun ts' m'=>Later P N y ts' m' Q ⟨⟩)):Later P N (.seq x y) ts m Q q:=⟨fun B φ fp S ac w hRS=>by
 refine wp_seq (wp_mono (vc_sound x ts m _ hok h B φ fp S ac w hRS) fun e a' w' hq=> ?_)
 obtain ⟨φ',fp',S',ts',m',h1,h2⟩:=hq
 cases e with
 |normal=>exact h2.ok B φ' fp' S' a' w' h1
 |_=>exact ⟨φ',fp',S',ts',m',h1,h2⟩⟩
theorem Later.seqL {x y:Code} {Q:Post} {q:Pack (Code.seq x y,Q)} (h:Later P N x ts m (thn Q fun ts' m'=>Later P N y ts' m' Q ⟨⟩) ⟨⟩):Later P N (.seq x y) ts m Q q:=⟨fun B φ fp S ac w hRS=>by
 refine wp_seq (wp_mono (h.ok B φ fp S ac w hRS) fun e a' w' hq=> ?_)
 obtain ⟨φ',fp',S',ts',m',h1,h2⟩:=hq
 cases e with
 |normal=>exact h2.ok B φ' fp' S' a' w' h1
 |_=>exact ⟨φ',fp',S',ts',m',h1,h2⟩⟩
theorem Later.condL {c:Operand} {x y:Code} {Q:Post} {q:Pack (Code.cond c x y,Q)} (b:Bool) (hv:Vc.ev ts c= .val (.bool b)) (ht:b=true→Later P N x ts m Q ⟨⟩) (hf:b=false→Later P N y ts m Q ⟨⟩):Later P N (.cond c x y) ts m Q q:=⟨fun B φ fp S ac w hRS=>by
 have hc:=hRS.ev c
 rw [hv] at hc
 obtain ⟨hb,_⟩:=rv_val hc
 exact wp_cond_split hb.symm (fun h=>(ht h).ok B φ fp S ac w hRS) (fun h=>(hf h).ok B φ fp S ac w hRS)⟩
theorem Later.blockL {id:Nat} {x:Code} {Q:Post} {q:Pack (Code.block id x,Q)} (h:Later P N x ts m (blk Q id) ⟨⟩):Later P N (.block id x) ts m Q q:=⟨fun B φ fp S ac w hRS=>by
 refine wp_block (wp_mono (h.ok B φ fp S ac w hRS) fun e a' w' hq=> ?_)
 obtain ⟨φ',fp',S',ts',m',h1,h2⟩:=hq
 cases e with
 |exit j=>
  simp only [blk] at h2
  simp only [Exit.inBlock]
  split
  · rename_i hj;rw [if_pos hj] at h2;exact ⟨φ',fp',S',ts',m',h1,h2⟩
  · rename_i hj;rw [if_neg hj] at h2;exact ⟨φ',fp',S',ts',m',h1,h2⟩
 |_=>exact ⟨φ',fp',S',ts',m',h1,h2⟩⟩
def hkN (P:Program) (N:Nat) (n:St):St:=fun ts m=>∀(B:Base) (φ:Nat→LS) (fp:Nat→List Nat) (S:Nat→Prop) (a:Act) (w:World),RS B N φ fp S ts m a w→∃φ2 fp2 S2 ts2 m2,RS B N φ2 fp2 S2 ts2 m2 a w∧n ts2 m2
@[congr] theorem hkN_congr {P:Program} {N:Nat} {n:St} {ts ts':Env} {m m':Mem} (h:ts=ts') (h2:m=m'):hkN P N n ts m=hkN P N n ts' m':=by rw [h,h2]
theorem hkN.known {n:St} (t l v k:Nat) (sh:Sh) (ys:List AV) (ht:look ts t= .ref l v 0 k) (htN:t<N) (hlk:lookB m l=some (.row v sh true ys)) (hn:k=ys.length) (h0:0<k) (hsz:0<sh.sz)
 (h:∀u,n ((t,.val u)::ts) ((l,.sub v sh ys u)::m)):hkN P N n ts m:=fun _ _ _ _ _ _ hRS=>have ⟨_,_,u,hR⟩:=hRS.known ht htN hlk hn h0 hsz;⟨_,_,_,_,_,hR,h u⟩
theorem sCallT_clo3 {f g:FuncId} {d:Nat} {x y tx ty:AV} {trs:List AV} {k:AV→Mem→Prop} {r:AV} {q:Pack k} (hf:Fn P f [tx,ty,.clo g []] true (· =r)) (hx:sTree m x (· =tx)) (hy:sTree m y (· =ty)) (hk:sMat (1000*(d+1)) r m k):
 sCallT P f d [x,y,.clo g []] trs m k q:=by
 refine .inl fun B N φ fp S ts a w vs hRS hsz hv hl=>⟨hf.1,?_⟩
 have hS:∀b,S b→Now w b:=fun b hb=>(hRS.sB b hb).1
 have r0:Rd w (Now w) tx (vs.toList.getD 0 Go.undef):=by
  obtain ⟨_,rfl,h⟩:=tree_out hRS (hv 0 (by simp)) hx
  exact h
 have r1:Rd w (Now w) ty (vs.toList.getD 1 Go.undef):=by
  obtain ⟨_,rfl,h⟩:=tree_out hRS (hv 1 (by simp)) hy
  exact h
 have r2:Rd w (Now w) (.clo g []) (vs.toList.getD 2 Go.undef):=(rd_of_rv (hv 2 (by simp)) rfl).mono (fun _ _=>rfl) hS
 refine (hf.2 w (Now w) vs (fun b hb=>hb) (hRS.kon.mono (fun _ _=>rfl) fun b hb=>(hRS.sB b hb).1) hsz fun i hi=> ?_).mono ?_
 · match i,hi with
   |0,_=>exact r0
   |1,_=>exact r1
   |2,_=>exact r2
 · rintro e w' ⟨r',v,rfl,rfl,hg,hres⟩
   simp only [FnRes,if_true] at hres
   obtain ⟨fs,hown,hnd,hfr⟩:=hres
   have hR2:=hRS.grown hg
   obtain ⟨φ',fp',y,m',g1,g2,g3,g4⟩:=mat_out hR2 hown hnd (fun b hb=>⟨q19 hRS.size (hfr b hb),fun hs=>by have:=(hRS.sB b hs).1;have:=hfr b hb;omega,fun l hl=>by have:=(hRS.fpB l b hl).1;have:=hfr b hb;omega⟩) _ hk
   exact ⟨v,rfl,φ',fp',S,ts,m',y,g1.rs,g3,g4,rfl,g2⟩
structure InsOut (w w':World) (b' c' n i:Nat) (old:Nat→Value) (x:Value):Prop where
 lt:b'<w'.heap.size
 room:n+1≤c'
 max:c'≤maxLen
 row:∃(cs':Array Value) (e':El),w'.heap[b']? =some (celO cs' e')∧cs'.size=c'∧∀p,p<n+1→cs'.toList.getD p Go.undef=if p<i then old p else if p=i then x else old (p-1)
 oth:∀c:Nat,c≠b'→c<w.heap.size→w'.heap[c]? =w.heap[c]?
 grows:w.heap.size≤w'.heap.size
 out:SameOut w w'
structure InsRuns (P:Program) (f:FuncId):Prop where
 enters:Enters P f
 at_:∀(w:World) (b vb c vc i n:Nat) (cs cv:Array Value) (e:El) (ev:TypeId) (x:Value),w.heap[b]? =some (celO cs e)→cs.size=c→n≤c→i≤n→n+1≤1073741824→c≤maxLen→vb≠b→w.heap[vb]? =some (.cells cv ev (0,0))→cv[0]? =some x→x.oneCell'=true→
  (∀v,v∈cs.toList.take n→v.oneCell'=true)→0<n→
  Calls P f #[.slice (some ⟨b,0,none⟩) n c,.int .i64 i,.slice (some ⟨vb,0,none⟩) 1 vc] w fun e' w'=>∃b' c',e'= .returned (.slice (some ⟨b',0,none⟩) (n+1) c')∧InsOut w w' b' c' n i (fun p=>cs.toList.getD p Go.undef) x∧(b'=b∧c'=c∨b'=w.heap.size)
 nil_:∀(w:World) (ad:Option Addr) (vb c vc:Nat) (cv:Array Value) (ev:TypeId) (x:Value),w.heap[vb]? =some (.cells cv ev (0,0))→cv[0]? =some x→x.oneCell'=true→c=0→
  Calls P f #[.slice ad 0 c,.int .i64 0,.slice (some ⟨vb,0,none⟩) 1 vc] w fun e' w'=>∃b' c',e'= .returned (.slice (some ⟨b',0,none⟩) 1 c')∧InsOut w w' b' c' 0 0 (fun _=>Go.undef) x∧b'=w.heap.size
 room_:∀(w:World) (b vb c vc:Nat) (cs cv:Array Value) (e:El) (ev:TypeId) (x:Value),w.heap[b]? =some (celO cs e)→cs.size=c→1≤c→c≤maxLen→vb≠b→w.heap[vb]? =some (.cells cv ev (0,0))→cv[0]? =some x→x.oneCell'=true→
  Calls P f #[.slice (some ⟨b,0,none⟩) 0 c,.int .i64 0,.slice (some ⟨vb,0,none⟩) 1 vc] w fun e' w'=>∃b' c',e'= .returned (.slice (some ⟨b',0,none⟩) 1 c')∧InsOut w w' b' c' 0 0 (fun _=>Go.undef) x∧(b'=b∧c'=c)
theorem build_shape {t:TypeId} {tt ti:TI} (htt:tiOf P t=some tt) (hks:tt.kind= .slice) (ht:tiOf P tt.elem=some ti) {n:Nat} {parts:Array (Nat × Value)} {v:Value} {w':World} (h:(Instr.buildSlice t n parts).run P w= .ok v w'):
 v= .slice (some ⟨w.heap.size,0,none⟩) n n∧∃cs el,w'.heap[w.heap.size]? =some (.cells cs el (0,0)):=by
 obtain ⟨inf,dd,z,hi,hd,hz,hag,hsz,hby,hzz,_⟩:=kind_of ht
 have hsl:=kind_slice htt hks
 by_cases hb:n*inf.size>2^24
 · simp [Instr.buildSlice,run_underlying hsl,sizeOf,typeInfo,hi,hb] at h
 · by_cases h0:n*inf.size=0
   · simp [Instr.buildSlice,run_underlying hsl,sizeOf,typeInfo,hi,h0,newRow] at h
     split at h
     · simp at h
       obtain ⟨rfl,rfl⟩:=h
       exact ⟨rfl,_,_,new_cel w _ _⟩
     · simp at h
   · simp [Instr.buildSlice,run_underlying hsl,sizeOf,typeInfo,hi,h0,hb,newRow,zeroValue,hz] at h
     split at h
     · simp at h
       obtain ⟨rfl,rfl⟩:=h
       exact ⟨rfl,_,_,new_cel w _ _⟩
     · simp at h
theorem ins_get {α:Type} (xs:List α) (x:α) (i p:Nat) (hi:i≤xs.length):(xs.take i++x::xs.drop i)[p]? =if p<i then xs[p]? else if p=i then some x else xs[p-1]? :=by
 have h1:(xs.take i).length=i:=by simp;omega
 rw [List.getElem?_append,h1,List.getElem?_take]
 split
 · rename_i h;rfl
 · rename_i h
   by_cases hp:p=i
   · subst hp;simp
   · rw [if_neg hp,show p-i=(p-i-1)+1 by omega,List.getElem?_cons_succ,List.getElem?_drop]
     congr 1;omega
theorem ins_flat {α:Type} (fss:List (List α)) (i:Nat):(fss.take i++[]::fss.drop i).flatten=fss.flatten:=by
 rw [List.flatten_append,List.flatten_cons,q14,←List.flatten_append,List.take_append_drop]
theorem ins_core {f:FuncId} {l ver d v2 i:Nat} {x:AV} {deep deep2 deep':Bool} {xs:List AV} {vb vc:Nat} {cv:Array Value} {ev:TypeId} {vr:Value} (hI:InsRuns P f) (h:RS B N φ fp S ts m a w)
 (hlk:lookB m l=some (.row ver ⟨1,false⟩ deep xs)) (hr:RV w S φ (.ref l ver 0 xs.length) vr) (hi:i≤xs.length) (hbig:xs.length+1≤1073741824)
 (hlk2:lookB m d=some (.row v2 ⟨1,false⟩ deep2 [x])) (hr2:RV w S φ (.ref d v2 0 1) (.slice (some ⟨vb,0,none⟩) 1 vc)) (hcv:w.heap[vb]? =some (.cells cv ev (0,0))) (hne:d≠l)
 (hx:isFlat x=true∧deep'=deep∨deep'=false∧deep2=false∧(deep=false∨xs=[]))
 {k:AV→Env→Mem→Prop} (hk:k (.ref l (ver+1) 0 (xs.length+1)) ts ((l,.row (ver+1) ⟨1,false⟩ deep' (xs.take i++x::xs.drop i))::m)):
 Calls P f #[vr,.int .i64 i,.slice (some ⟨vb,0,none⟩) 1 vc] w fun e w'=>∃v,e= .returned v∧Gives B N a k v w':=by
 have hver:∀v',known m l v'→v'<ver+1:=by
  rintro v' ⟨k',h1,h2⟩
  rw [hlk] at h1;cases h1;exact Nat.lt_succ_of_le h2
 obtain ⟨x0,hx0,h1x,hxr,hfx,hvbne⟩:∃x0,cv[0]? =some x0∧x0.oneCell'=true∧Rd w (if deep' then fun _=>False else S) x x0∧fits ⟨1,false⟩ x∧(∀b,b∈fp l→vb≠b):=by
  rcases h.mSome d _ hlk2 with ⟨_,hxs,_⟩|⟨b2,cap2,hφ2,hbm2,hdp2,hown2⟩
  · cases hxs
  · obtain ⟨ad,cap',e1,hn,hcp⟩:=(rv_ref hr2).1 b2 _ hφ2
    simp only [Value.slice.injEq] at e1
    obtain ⟨rfl,_,rfl⟩:=e1
    rcases hcp with rfl|⟨e1,_⟩
    · omega
    · simp only [Option.some.injEq,Addr.mk.injEq] at e1
      obtain ⟨rfl,_⟩:=e1
      obtain ⟨cs,e,fss,hgf,hheap,hcs,hcap,hmx,hff,hfl,hvv⟩:=row_inv hown2 hbm2
      rw [hheap] at hcv
      simp only [Option.some.injEq,Obj.cells.injEq] at hcv
      obtain ⟨rfl, -, -⟩:=hcv
      have hv0:=hvv 0 (by simp)
      have hf0:=hff 0 (by simp)
      simp only [List.getElem_cons_zero,Nat.zero_mul] at hv0 hf0
      have hcl:0<cs.size:=by rw [hcs,q21];exact hcap
      have h1:=own_one hv0 hf0 (by rw [Array.length_toList];exact hcl) 0 (by simp)
      rw [elemV_cell] at hv0
      simp only [Nat.add_zero] at h1
      have e0:cs[0]? =some (cs.toList.getD 0 Go.undef):=by
       rw [q5,Array.getElem?_toList,Array.getElem?_eq_getElem hcl];rfl
      refine ⟨_,e0,h1,?_,hf0,fun b hb e=> ?_⟩
      · rcases hx with ⟨hfx,_⟩|⟨rfl,rfl,_⟩
        · exact (flat_rd hv0 hfx).1
        · have hd:=hdp2 rfl
          rw [hgf] at hd
          have hf:fss.flatten=[]:=by simpa using hd
          have hf1:fss.getD 0 []=[]:=by
           cases fss with
           |nil=>rfl
           |cons y r=>
            rw [List.flatten_cons,List.append_eq_nil_iff] at hf
            simpa using hf.1
          rw [hf1] at hv0
          exact hv0.rd_of (fun c hc=>hc) fun c hc=>by cases hc
      · subst e
        exact hne (h.dis d l _ hbm2 hb)
 have fin:∀(w':World) (b' c':Nat) (fss:List (List Nat)) (old:Nat→Value),InsOut w w' b' c' xs.length i old x0→(b'∈fp l∨b'=w.heap.size)→fss.length=xs.length→(∀b,b∈fss.flatten→b∈fp l∧b≠b')→fss.flatten.Nodup→
  (deep'=false→fss.flatten=[])→(∀p (hp:p<xs.length),fits ⟨1,false⟩ xs[p])→(∀p (hp:p<xs.length),Own w (if deep' then fun _=>False else S) xs[p] (old p) (fss.getD p []))→Szs w w'→
  Gives B N a k (.slice (some ⟨b',0,none⟩) (xs.length+1) c') w':=by
  intro w' b' c' fss old hO hb' hfl hin hnd hdp hff hown hszs
  obtain ⟨hlt,hroom,hmax,⟨cs',e',hheap,hsz,hget⟩,hoth,hgr,hout⟩:=hO
  have hSb:∀c,S c→c≠b':=by
   rintro c hc rfl
   rcases hb' with hb|hb
   · exact h.notS l _ hb hc
   · have:=(h.sB _ hc).1;omega
  have hkeep:∀c,(if deep' then fun _=>False else S) c→w'.heap[c]? =w.heap[c]? :=by
   intro c hc
   cases deep' with
   |true=>exact hc.elim
   |false=>exact hoth c (hSb c hc) (h.sB c hc).1
  have hlen:(xs.take i++x::xs.drop i).length=xs.length+1:=by simp;omega
  have hfl':(fss.take i++[]::fss.drop i).length=xs.length+1:=by simp;omega
  refine h.rowNext (b:=b') (cap:=c') (n:=xs.length+1) (nv:=ver+1) (sh:=⟨1,false⟩) (deep:=deep') (xs:=xs.take i++x::xs.drop i) (fs:=b'::(fss.take i++[]::fss.drop i).flatten) hgr hout hszs (fun c hc hcl=>hoth c hc hcl)
   (fun l b sh ver cs e _ hb=>hszs b cs e hb) (hb'.imp id fun e=>⟨e,hlt⟩) hver (fun c hc=> ?_) (List.mem_cons_self ..) (fun hd=>by rw [ins_flat,hdp hd]) (by
     rw [ins_flat]
     exact List.nodup_cons.2 ⟨fun hc=>(hin _ hc).2 rfl,hnd⟩) ?_ ⟨_,c',rfl,hroom,.inr ⟨rfl,cs',e',hheap,by simpa using hsz⟩⟩ hk
  · rcases List.mem_cons.1 hc with rfl|hc
    · exact .inl rfl
    · rw [ins_flat] at hc
      exact .inr (hin c hc).1
  · refine .arr ⟨1,false⟩ (xs.take i++x::xs.drop i) b' c' cs' e' (fss.take i++[]::fss.drop i) hheap (by simpa using hsz) (by rw [hlen];exact hroom) hmax (fun p hp=> ?_) (by rw [hlen,hfl']) fun p hp=> ?_
    · have g:=ins_get xs x i p hi
      rw [q6 hp] at g
      rw [hlen] at hp
      split at g
      · rename_i h1
        rw [q6 (by omega)] at g
        rw [Option.some.inj g];exact hff _ _
      · split at g
        · rw [Option.some.inj g];exact hfx
        · rw [q6 (by omega)] at g
          rw [Option.some.inj g];exact hff _ _
    · have g:=ins_get xs x i p hi
      have gf:=ins_get fss [] i p (by omega)
      rw [q6 hp] at g
      rw [hlen] at hp
      have hc:=hget p hp
      rw [elemV_cell,q21,hc]
      rw [q5,gf]
      split at g
      · rename_i h1
        rw [q6 (by omega)] at g
        rw [Option.some.inj g,if_pos h1,if_pos h1,←q5]
        exact (hown p (by omega)).mono hkeep (fun _ h=>h) fun c hc2=>by
         have:=hin c (mem_flatten_getD (by omega) hc2)
         exact hoth c this.2 (h.fpB l c this.1).1
      · rename_i h1
        split at g
        · rename_i h2
          rw [Option.some.inj g,if_neg h1,if_pos h2,if_neg h1,if_pos h2]
          exact .rd _ _ (hxr.mono hkeep (fun _ h=>h))
        · rename_i h2
          rw [q6 (by omega)] at g
          rw [Option.some.inj g,if_neg h1,if_neg h2,if_neg h1,if_neg h2,←q5]
          exact (hown (p-1) (by omega)).mono hkeep (fun _ h=>h) fun c hc2=>by
           have:=hin c (mem_flatten_getD (by omega) hc2)
           exact hoth c this.2 (h.fpB l c this.1).1
 have szNew:∀(w':World) (b':Nat),b'=w.heap.size→(∀c:Nat,c≠b'→c<w.heap.size→w'.heap[c]? =w.heap[c]?)→Szs w w':=by
  rintro w' b' rfl ho
  exact Szs.of_same fun c hc=>ho c (by omega) hc
 have hz:∀(ad:Option Addr) (c:Nat),xs=[]→vr= .slice ad 0 c→c=0→Calls P f #[vr,.int .i64 i,.slice (some ⟨vb,0,none⟩) 1 vc] w fun e w'=>∃v,e= .returned v∧Gives B N a k v w':=by
  rintro ad c rfl rfl hc
  have hi0:i=0:=by simpa using hi
  subst hi0
  refine (hI.nil_ w ad vb c vc cv ev x0 hcv hx0 h1x hc).mono ?_
  rintro e' w' ⟨b',c',rfl,hO,hb'⟩
  refine ⟨_,rfl,fin w' b' c' [] (fun _=>Go.undef) hO (.inr hb') rfl (fun b hb=>by cases hb) List.nodup_nil (fun _=>rfl) (fun p hp=>absurd hp (q22 _)) (fun p hp=>absurd hp (q22 _)) (szNew w' b' hb' hO.oth)⟩
 rcases h.mSome l _ hlk with ⟨hφ,hxs,_⟩|⟨b,cap0,hφ,hbm,hdp,hown⟩
 · obtain ⟨h0,ad,e⟩:=(rv_ref hr).2 hφ
   exact hz ad 0 hxs e rfl
 · obtain ⟨ad,cap,e,hn,hcp⟩:=(rv_ref hr).1 b _ hφ
   by_cases hc0:cap=0
   · have hx0:xs=[]:=q4 (by omega)
     exact hz ad cap hx0 (by rw [e,hx0];rfl) hc0
   · obtain ⟨rfl,cs1,e1,g1,g2⟩:=hcp.resolve_left hc0
     obtain ⟨cs,el,fss,hgf,hheap,hcs,hcap,hmx,hff,hfl,hvv⟩:=row_inv hown hbm
     obtain rfl:=celO_inj (hheap.symm.trans g1)
     rw [Nat.zero_add,q21] at g2
     rw [q21] at hcs
     have hcc:cap0=cap:=by omega
     subst hcc
     subst e
     rw [show (0:Nat)*1=0 from rfl]
     have hnod:=h.nod l
     rw [hgf] at hnod
     have hnod':=List.nodup_cons.1 hnod
     have hfn:deep'=false→fss.flatten=[]:=by
      intro hd'
      have hd0:deep=false→fss.flatten=[]:=fun hd=>by have:=hdp hd;rw [hgf] at this;simpa using this
      rcases hx with ⟨_,rfl⟩|⟨_,_,hd|hd⟩
      · exact hd0 hd'
      · exact hd0 hd
      · have:fss=[]:=q4 (by rw [hfl,hd];rfl)
        rw [this];rfl
     have hown':∀p (hp:p<xs.length),Own w (if deep' then fun _=>False else S) xs[p] (cs.toList.getD p Go.undef) (fss.getD p []):=by
      intro p hp
      have h1:=hvv p hp
      rw [elemV_cell,q21] at h1
      rcases hx with ⟨_,rfl⟩|⟨rfl,_,rfl|rfl⟩
      · exact h1
      · exact h1
      · exact absurd hp (q22 _)
     have hin:∀c,c∈fss.flatten→c∈fp l∧c≠b:=fun c hc=>⟨by rw [hgf];exact List.mem_cons_of_mem _ hc,fun e=>hnod'.1 (e▸hc)⟩
     have cell1:∀v,v∈cs.toList.take xs.length→v.oneCell'=true:=by
      intro v hv
      obtain ⟨t,ht,rfl⟩:=q9 hv
      have ht':t<xs.length:=by simp at ht;omega
      have:=own_one (hvv t ht') (hff t ht') (by simp;omega) 0 (by simp)
      simp only [q21,Nat.add_zero] at this
      rw [List.getElem_take]
      rw [q5,q6 (by simp at ht ⊢;omega)] at this
      exact this
     have szOld:∀(w':World),InsOut w w' b cap0 xs.length i (fun p=>cs.toList.getD p Go.undef) x0→Szs w w':=by
      rintro w' ⟨_,_,_,⟨cs',e',hh,hsz,_⟩,ho,_,_⟩ c cs3 e3 hc3
      by_cases ec:c=b
      · subst ec
        obtain rfl:=celO_inj (hheap.symm.trans hc3)
        exact ⟨cs',e',hh,by rw [hsz,hcs]⟩
      · have hcl:c<w.heap.size:=(q0.1 hc3).1
        exact ⟨cs3,e3,(ho c ec hcl).trans hc3,rfl⟩
     by_cases hn0:xs.length=0
     · have hxs:xs=[]:=q4 hn0
       subst hxs
       have hi0:i=0:=by simpa using hi
       subst hi0
       refine (hI.room_ w b vb cap0 vc cs cv el ev x0 hheap hcs (by omega) hmx (hvbne b hbm) hcv hx0 h1x).mono ?_
       rintro e' w' ⟨b',c',rfl,hO,rfl,rfl⟩
       have hO':InsOut w w' b' c' ([]:List AV).length 0 (fun p=>cs.toList.getD p Go.undef) x0:=by
        obtain ⟨q1,q2,q3,⟨cs',e',q4,q5,q6⟩,q7,q8,q9⟩:=hO
        refine ⟨q1,q2,q3,⟨cs',e',q4,q5,fun p hp=> ?_⟩,q7,q8,q9⟩
        have hp0:p=0:=by simp at hp;omega
        subst hp0
        have:=q6 0 (by simp)
        simpa using this
       exact ⟨_,rfl,fin w' b' c' fss _ hO' (.inl hbm) hfl hin hnod'.2 hfn hff hown' (szOld w' hO')⟩
     · refine (hI.at_ w b vb cap0 vc i xs.length cs cv el ev x0 hheap hcs hn hi hbig hmx (hvbne b hbm) hcv hx0 h1x cell1 (by omega)).mono ?_
       rintro e' w' ⟨b',c',rfl,hO,hb'⟩
       rcases hb' with ⟨rfl,rfl⟩|hb'
       · exact ⟨_,rfl,fin w' b' c' fss _ hO (.inl hbm) hfl hin hnod'.2 hfn hff hown' (szOld w' hO)⟩
       · refine ⟨_,rfl,fin w' b' c' fss _ hO (.inr hb') hfl (fun c hc=>⟨(hin c hc).1,fun e=> ?_⟩) hnod'.2 hfn hff hown' (szNew w' b' hb' hO.oth)⟩
         have:=(h.fpB l c (hin c hc).1).1
         omega
theorem range_from {n j:Nat} (h:j<n):(List.range (n-j)).map (· +j)=j::(List.range (n-(j+1))).map (· +(j+1)):=by
 rw [show n-j=(n-(j+1))+1 by omega,List.range_succ_eq_map]
 simp [List.map_map,Function.comp_def];intro q hq;omega
theorem insPre_sound {ops:List Oper} {n:Nat} (hok:opsOk N ops=true) (hpre:((ops.take n).all fun o=>o.guard.isNone)=true) (hn:n≤ops.length) {Q:Exit→Act→World→Prop} {K:St}
 (hQ:∀φ fp S ts m a w,RS B N φ fp S ts m a w→K ts m→wpOps P ops.toArray Q ((List.range (ops.length-n)).map (· +n)) a w):
 ∀(l:List Oper) (i:Nat),(ops.take n).drop i=l→i≤n→∀(φ:Nat→LS) (fp:Nat→List Nat) (S:Nat→Prop) (ts:Env) (m:Mem) (a:Act) (w:World),RS B N φ fp S ts m a w→sL P ops l ts m K→
  wpOps P ops.toArray Q ((List.range (ops.length-i)).map (· +i)) a w
 | [],i,hl,hin,φ,fp,S,ts,m,a,w,h,hk=>by
   have:i=n:=by
    have:=congrArg List.length hl;simp at this;omega
   subst this
   exact hQ φ fp S ts m a w h hk
 |o::r,i,hl,hin,φ,fp,S,ts,m,a,w,h,hk=>by
  have hi':i<n:=by
   have:=congrArg List.length hl;simp at this;omega
  have hi:i<ops.length:=by omega
  have hoi0:(ops.take n)[i]? =some o:=by
   have:=congrArg (·[0]?) hl
   simpa using this
  have hoi:ops[i]? =some o:=by
   rw [List.getElem?_take,if_pos hi'] at hoi0
   exact hoi0
  have hg:o.guard=none:=by
   have:=q3.1 hpre o (q12 hoi0)
   simpa using this
  have hr:(ops.take n).drop (i+1)=r:=by
   have:=congrArg List.tail hl
   simpa using this
  rw [range_from hi]
  have hoo:ops.toArray[i]? =some o:=by simpa using hoi
  simp only [wpOps,hoo]
  have hdo:∀d,o.dst=some d→d<N:=by
   intro d hd
   have:=q3.1 hok o (q12 hoi)
   rw [hd] at this;simpa using this
  simp only [sL,hg] at hk
  simp only [Region.wanted,hg,if_true]
  refine .inl (op_sound h hk fun v w' hgv=> ?_)
  obtain ⟨φ',fp',S',ts',m',h1,h2⟩:=step_done (o:=o) (K:=fun ts m=>sL P ops r ts m K) hdo hgv (fun x m' h=>h)
  exact insPre_sound hok hpre hn hQ r (i+1) hr (by omega) φ' fp' S' ts' m' _ w' h1 h2
def insC (P:Program) (N:Nat) (ops:List Oper) (j d:Nat) (Q:Post) (ts:Env) (x:AV) (m:Mem):Prop:=
 ∀(B:Base) (φ:Nat→LS) (fp:Nat→List Nat) (S:Nat→Prop) (a:Act) (w:World) (v:Value),RS B N φ fp S ts m a w→RV w S φ x v→(∀l ver,(l,ver)∈labs x→known m l ver)→
  (∃b cs el,v= .slice (some ⟨b,0,none⟩) 1 1∧w.heap[b]? =some (.cells cs el (0,0)))→wpOps P ops.toArray (fun e a' w'=>Done B N (Q e) a' w') ((List.range (ops.length-j)).map (· +j)) (a.put (some d) v) w
@[congr] theorem insC_congr {N:Nat} {ops:List Oper} {j d:Nat} {Q:Post} {ts ts':Env} {x x':AV} {m m':Mem} (h:ts=ts') (h2:x=x') (h3:m=m'):insC P N ops j d Q ts x m=insC P N ops j d Q ts' x' m':=by rw [h,h2,h3]
theorem Later.ins (n:Nat) {i:Nat} {ops:List Oper} {Q:Post} {q:Pack (Code.region i ⟨ops⟩ false,Q)} {d:Nat} {t ty:TypeId} {parts:Array (Nat × Operand)} {p:String} {e:Array Edge} (hok:opsOk N ops=true) (hpre:((ops.take n).all fun o=>o.guard.isNone)=true)
 (hB:ops[n]? =some ⟨some d,.buildSlice t 1 parts,ty,p,e,none⟩) (h:sL P ops (ops.take n) ts m fun ts m=>sOp P d (.buildSlice t 1 parts) ts m (insC P N ops (n+1) d Q ts)):Later P N (.region i ⟨ops⟩ false) ts m Q q:=⟨fun B φ fp S a w hRS=>by
 have hn:n<ops.length:=(q7.1 hB).1
 refine wp_region ?_
 have:=insPre_sound (P:=P) (B:=B) (Q:=fun e a' w'=>Done B N (Q e) a' w') hok hpre (Nat.le_of_lt hn) (K:=fun ts m=>sOp P d (.buildSlice t 1 parts) ts m (insC P N ops (n+1) d Q ts)) (fun φ fp S ts m a w h hk=> ?_) (ops.take n) 0 (by simp) (q23 _) φ fp S ts m a w hRS h
 · simpa using this
 · rw [range_from hn]
   have hoo:ops.toArray[n]? =some ⟨some d,.buildSlice t 1 parts,ty,p,e,none⟩:=by simpa using hB
   simp only [wpOps,hoo]
   simp only [Region.wanted,if_true]
   refine .inl ?_
   have hk:sTI (tiOf P t) fun tt=>sSl tt.kind (sTI (tiOf P tt.elem) fun ti=>sBuildSliceX ti d 1 (parts.toList.map fun p=>(p.1,Vc.ev ts p.2)) m (insC P N ops (n+1) d Q ts)):=hk
   obtain ⟨tt,htt,hk⟩:=sTI_out hk
   obtain ⟨hks,hk⟩:=sSl_out hk
   obtain ⟨ti,ht,hk⟩:=sTI_out hk
   obtain ⟨v,w',hr,hg⟩:=run_buildSliceX htt hks ht h (PR_map h parts.toList) _ 1 hk
   obtain ⟨rfl,cs,el,hcs⟩:=build_shape htt hks ht hr
   unfold Oper.wp
   have hex:execOp a.eval (⟨some d,.buildSlice t 1 parts,ty,p,e,none⟩:Oper)=(do pure (.value (←Instr.buildSlice t 1 ((parts.toList.map fun p=>(p.1,a.eval p.2)).toArray))):Sem Next):=by simp only [execOp,parts_toArray]
   rw [hex]
   simp only [Sem.run_bind,hr,Result.andThen_ok,Sem.run_pure]
   obtain ⟨φ',fp',S',ts',m',x,h1,h2,h3,rfl,h4⟩:=hg
   exact h4 B φ' fp' S' a w' _ h1 h2 h3 ⟨_,cs,el,rfl,hcs⟩⟩
theorem Later.insK (n:Nat) {i:Nat} {ops:List Oper} {Q:Post} {q:Pack (Code.region i ⟨ops⟩ false,Q)} {d:Nat} {t ty:TypeId} {parts:Array (Nat × Operand)} {p:String} {e:Array Edge} (hok:opsOk N ops=true) (hpre:((ops.take n).all fun o=>o.guard.isNone)=true)
 (hB:ops[n]? =some ⟨some d,.buildSlice t 1 parts,ty,p,e,none⟩) (h:sL P ops (ops.take n) ts m (hkN P N fun ts m=>sOp P d (.buildSlice t 1 parts) ts m (insC P N ops (n+1) d Q ts))):Later P N (.region i ⟨ops⟩ false) ts m Q q:=⟨fun B φ fp S a w hRS=>by
 have hn:n<ops.length:=(q7.1 hB).1
 refine wp_region ?_
 have:=insPre_sound (P:=P) (B:=B) (Q:=fun e a' w'=>Done B N (Q e) a' w') hok hpre (Nat.le_of_lt hn) (K:=hkN P N fun ts m=>sOp P d (.buildSlice t 1 parts) ts m (insC P N ops (n+1) d Q ts)) (fun φ0 fp0 S0 ts0 m0 a w h0 hk0=> ?_) (ops.take n) 0 (by simp) (q23 _) φ fp S ts m a w hRS h
 · simpa using this
 · rw [range_from hn]
   have hoo:ops.toArray[n]? =some ⟨some d,.buildSlice t 1 parts,ty,p,e,none⟩:=by simpa using hB
   simp only [wpOps,hoo]
   simp only [Region.wanted,if_true]
   refine .inl ?_
   obtain ⟨φ,fp,S,ts,m,h,hk⟩:=hk0 B φ0 fp0 S0 a w h0
   have hk:sTI (tiOf P t) fun tt=>sSl tt.kind (sTI (tiOf P tt.elem) fun ti=>sBuildSliceX ti d 1 (parts.toList.map fun p=>(p.1,Vc.ev ts p.2)) m (insC P N ops (n+1) d Q ts)):=hk
   obtain ⟨tt,htt,hk⟩:=sTI_out hk
   obtain ⟨hks,hk⟩:=sSl_out hk
   obtain ⟨ti,ht,hk⟩:=sTI_out hk
   obtain ⟨v,w',hr,hg⟩:=run_buildSliceX htt hks ht h (PR_map h parts.toList) _ 1 hk
   obtain ⟨rfl,cs,el,hcs⟩:=build_shape htt hks ht hr
   unfold Oper.wp
   have hex:execOp a.eval (⟨some d,.buildSlice t 1 parts,ty,p,e,none⟩:Oper)=(do pure (.value (←Instr.buildSlice t 1 ((parts.toList.map fun p=>(p.1,a.eval p.2)).toArray))):Sem Next):=by simp only [execOp,parts_toArray]
   rw [hex]
   simp only [Sem.run_bind,hr,Result.andThen_ok,Sem.run_pure]
   obtain ⟨φ',fp',S',ts',m',x,h1,h2,h3,rfl,h4⟩:=hg
   exact h4 B φ' fp' S' a w' _ h1 h2 h3 ⟨_,cs,el,rfl,hcs⟩⟩
theorem insC.go {ops:List Oper} {j d d2:Nat} {Q:Post} {x y:AV} {f:FuncId} {c:Call} {ty:TypeId} {p:String} {e:Array Edge} {A1 A2:Operand} {l ver v2 i:Nat} {deep deep2:Bool} (deep':Bool) {xs:List AV}
 (hok:(opsOk N ops&&guardsOk N ops&&decide (d<N))=true) (hC:ops[j]? =some ⟨some d2,.call c,ty,p,e,none⟩) (hcal:c.callee= .value (.func f)) (hargs:c.args.toList=[A1,A2,.tmp d]) (hI:InsRuns P f)
 (h1:Vc.ev ((d,x)::ts) A1= .ref l ver 0 xs.length) (h2:Vc.ev ((d,x)::ts) A2= .val (.int .i64 i)) (hx:x= .ref d v2 0 1) (hlk:lookB m l=some (.row ver ⟨1,false⟩ deep xs)) (hlk2:lookB m d=some (.row v2 ⟨1,false⟩ deep2 [y]))
 (hi:i≤xs.length) (hbig:xs.length+1≤1073741824) (hne:d≠l) (hfl:isFlat y=true∧deep'=deep∨deep'=false∧deep2=false∧(deep=false∨xs=[]))
 (hk:sL P ops (ops.drop (j+1)) ((d2,.ref l (ver+1) 0 (xs.length+1))::(d,x)::ts) ((l,.row (ver+1) ⟨1,false⟩ deep' (xs.take i++y::xs.drop i))::m) (Q .normal)):insC P N ops j d Q ts x m:=by
 rintro B φ fp S a w v hR hxv hxl ⟨b,cs,el,rfl,hcs⟩
 simp only [q1,decide_eq_true_eq] at hok
 obtain ⟨⟨hok,hgs⟩,hdN⟩:=hok
 have hj:j<ops.length:=(q7.1 hC).1
 have hR':=hR.put d x _ hdN hxv hxl
 rw [range_from hj]
 have hoo:ops.toArray[j]? =some ⟨some d2,.call c,ty,p,e,none⟩:=by simpa using hC
 simp only [wpOps,hoo]
 simp only [Region.wanted,if_true]
 refine .inl ?_
 have e1:=hR'.ev A1
 have e2:=hR'.ev A2
 rw [h1] at e1
 rw [h2] at e2
 obtain ⟨e2,_⟩:=rv_val e2
 have e3:=hR'.ev (.tmp d)
 have hd3:(a.put (some d) (.slice (some ⟨b,0,none⟩) 1 1)).eval (.tmp d)= .slice (some ⟨b,0,none⟩) 1 1:=by
  have hsz:d<a.tmps.size:=by rw [hR.tsz];exact hdN
  simp [Act.eval,Act.put,hsz]
 have ha:c.args.map (a.put (some d) (.slice (some ⟨b,0,none⟩) 1 1)).eval= #[(a.put (some d) (.slice (some ⟨b,0,none⟩) 1 1)).eval A1,.int .i64 i,.slice (some ⟨b,0,none⟩) 1 1]:=by
  apply Array.ext'
  rw [Array.toList_map,hargs]
  simp only [List.map_cons,List.map_nil]
  rw [e2,hd3]
 obtain ⟨fn,cd,hf,hnm,hbd⟩:=hI.enters
 generalize hA:a.put (some d) (.slice (some ⟨b,0,none⟩) 1 1)=A at*
 have hex:(execOp A.eval (⟨some d2,.call c,ty,p,e,none⟩:Oper)).run P w= .ok (.enter f (c.args.map A.eval)) w:=by
  have hnm':¬fn.name= "runtime.NumGoroutine" :=by simpa using hnm
  simp [execOp,resolve,hcal,Act.eval,Deferred.ofValue,invoke,callFunc,hf,hnm',hbd]
 unfold Oper.wp
 rw [hex,Oper.upon_enter,ha]
 have hxv2:RV w S φ (.ref d v2 0 1) (.slice (some ⟨b,0,none⟩) 1 1):=by rw [←hx];exact hxv
 refine (ins_core (k:=fun z ts' m'=>ts'=(d,x)::ts∧z= .ref l (ver+1) 0 (xs.length+1)∧m'=(l,.row (ver+1) ⟨1,false⟩ deep' (xs.take i++y::xs.drop i))::m) hI hR' hlk e1 hi hbig hlk2 hxv2 hcs hne hfl ⟨rfl,rfl,rfl⟩).mono ?_
 rintro e' w' ⟨v',rfl,hg⟩
 have hdo:∀d',(some d2:Option Nat)=some d'→d'<N:=by
  intro d' hd
  have:=q3.1 hok _ (q12 hC)
  simp only at this hd
  cases hd
  simpa using this
 obtain ⟨φ',fp',S',ts',m',g1,g2⟩:=step_done (o:=⟨some d2,.call c,ty,p,e,none⟩) (K:=fun ts m=>sL P ops (ops.drop (j+1)) ts m (Q .normal)) (ts:=(d,x)::ts) (k:=fun z m'=>z= .ref l (ver+1) 0 (xs.length+1)∧m'=(l,.row (ver+1) ⟨1,false⟩ deep' (xs.take i++y::xs.drop i))::m) hdo hg (fun z m' ⟨q1,q2⟩=>by
  rw [q1,q2];exact hk)
 exact region_sound hok hgs (fun a w h=>h) (ops.drop (j+1)) (j+1) rfl φ' fp' S' ts' m' _ w' g1 g2
end
end Go.Vc
namespace Go.Vc
abbrev eI (n:Int):AV:=.val (.int .i64 n)
abbrev eB (b:Bool):AV:=.val (.bool b)
abbrev eIs (xs:List Int):AV:=.arr ⟨1,false⟩ (xs.map eI)
theorem all_take {α:Type} (p:α→Bool) (xs:List α) (i:Nat) (h:i<xs.length):(xs.take (i+1)).all p=((xs.take i).all p&&p xs[i]):=by
 rw [List.take_succ_eq_append_getElem h,List.all_append];simp
theorem all_no {α:Type} {p:α→Bool} {xs:List α} {i:Nat} (h:i<xs.length) (hp:p xs[i]=false):xs.all p=false:=by
 rw [List.all_eq_false];exact ⟨xs[i],q8 h,by simp [hp]⟩
def fill {α β:Type} (f:α→β) (z:β) (xs:List α) (i:Nat):List β:=(xs.take i).map f++List.replicate (xs.length-i) z
theorem take_map_len {α β:Type} (f:α→β) (xs:List α):(xs.map f).take xs.length=xs.map f:=by rw [←List.map_take,q17]
attribute [go_sem] take_map_len
theorem lt_len {i n:Nat} (h:i<n):decide ((i:Int)<(n:Int))=true:=decide_eq_true (by omega)
theorem nlt_len (n:Nat):decide ((n:Int)<(n:Int))=false:=decide_eq_false (by omega)
theorem get_some {α:Type} {xs:List α} {i:Nat} (h:i<xs.length):xs[i]? =some xs[i]:=q6 h
theorem isFlatL_map {α:Type} {f:α→AV} (xs:List α) (h:∀x,isFlat (f x)=true):isFlatL (xs.map f)=true:=by
 induction xs with
 |nil=>rfl
 |cons x r ih=>rw [List.map_cons,isFlatL_cons,h,ih];rfl
theorem rep0 {α:Type} (z:α):List.replicate 0 z=[]:=rfl
theorem rep1 {α:Type} (z:α):List.replicate 1 z=[z]:=rfl
theorem rep2 {α:Type} (z:α):List.replicate 2 z=[z,z]:=rfl
theorem rep3 {α:Type} (z:α):List.replicate 3 z=[z,z,z]:=rfl
theorem rep4 {α:Type} (z:α):List.replicate 4 z=[z,z,z,z]:=rfl
theorem rep5 {α:Type} (z:α):List.replicate 5 z=[z,z,z,z,z]:=rfl
theorem rep7 {α:Type} (z:α):List.replicate 7 z=[z,z,z,z,z,z,z]:=rfl
theorem rep9 {α:Type} (z:α):List.replicate 9 z=[z,z,z,z,z,z,z,z,z]:=rfl
attribute [go_sem] isFlatL_map List.take_take Nat.min_self List.map_take List.append_nil List.length_append List.length_take rep0 rep1 rep2 rep3 rep4 rep5 rep7 rep9
theorem ioL_eq:ioL=1000000000:=rfl
attribute [go_sem] ne_eq not_false_eq_true ioL_eq decide_true decide_false Bool.not_true Bool.not_false bne_self_eq_false
theorem take_set_len {α β:Type} (f:α→β) (xs:List α) (i:Nat) (y:β):((xs.map f).set i y).take xs.length=(xs.map f).set i y:=List.take_of_length_le (by simp)
attribute [go_sem] take_set_len List.length_set
theorem eq_no {α:Type} [DecidableEq α] {xs ys:List α} {i:Nat} (hi:i<xs.length) (hy:i<ys.length) (h:xs[i]≠ys[i]):decide (xs=ys)=false:=
 decide_eq_false fun e=>h (by subst e;rfl)
theorem eq_yes {α:Type} {xs ys:List α} {i:Nat} (hi:i<xs.length) (hy:i<ys.length) (hI:xs.take i=ys.take i) (h:xs[i]=ys[i]):xs.take (i+1)=ys.take (i+1):=by
 rw [List.take_succ_eq_append_getElem hi,List.take_succ_eq_append_getElem hy,hI,h]
end Go.Vc
namespace Go.Vc
open Go.Proofs
theorem ti2:tiOf Tryz.prog 2=some ⟨false,1,8,.val (.int .i64 0),[],0,.int .i64⟩:=by kernel_rfl
theorem ti3:tiOf Tryz.prog 3=some ⟨false,1,8,.val (.int .i64 0),[],0,.int .i64⟩:=by kernel_rfl
theorem ti4:tiOf Tryz.prog 4=some ⟨false,1,1,.val (.bool false),[],0,.bool⟩:=by kernel_rfl
theorem ti5:tiOf Tryz.prog 5=some ⟨false,1,1,.val (.int .u8 0),[],0,.int .u8⟩:=by kernel_rfl
theorem ti24:tiOf Tryz.prog 24=some ⟨false,1,24,.val (.slice none 0 0),[],31,.slice⟩:=by kernel_rfl
theorem ti31:tiOf Tryz.prog 31=some ⟨false,1,24,.val (.slice none 0 0),[],2,.slice⟩:=by kernel_rfl
theorem ti34:tiOf Tryz.prog 34=some ⟨true,5,40,.agg [.val (.int .i64 0),.val (.int .i64 0),.val (.int .i64 0),.val (.int .i64 0),.val (.int .i64 0)],[(0,1,false),(1,1,false),(2,1,false),(3,1,false),(4,1,false)],0,.struct⟩:=by kernel_rfl
theorem ti36:tiOf Tryz.prog 36=some ⟨true,6,64,.agg [.val (.int .i64 0),.val (.int .i64 0),.val (.int .i64 0),.val (.int .i64 0),.val (.int .i64 0),.val (.slice none 0 0)],[(0,5,true),(5,1,false)],0,.struct⟩:=by kernel_rfl
theorem ti39:tiOf Tryz.prog 39=some ⟨false,1,24,.val (.slice none 0 0),[],64,.slice⟩:=by kernel_rfl
theorem ti49:tiOf Tryz.prog 49=some ⟨false,1,24,.val (.slice none 0 0),[],5,.slice⟩:=by kernel_rfl
theorem ti64:tiOf Tryz.prog 64=some ⟨true,3,24,.agg [.val (.bool false),.val (.int .i64 0),.val (.int .i64 0)],[(0,1,false),(1,1,false),(2,1,false)],0,.struct⟩:=by kernel_rfl
theorem ti79:tiOf Tryz.prog 79=some ⟨false,1,24,.val (.slice none 0 0),[],83,.slice⟩:=by kernel_rfl
theorem ti83:tiOf Tryz.prog 83=some ⟨true,1,24,.agg [.val (.slice none 0 0)],[(0,1,false)],0,.struct⟩:=by kernel_rfl
theorem ti97:tiOf Tryz.prog 97=some ⟨false,1,8,.val (.int .u64 0),[],0,.int .u64⟩:=by kernel_rfl
theorem ti104:tiOf Tryz.prog 104=some ⟨true,3,40,.agg [.val (.slice none 0 0),.val (.int .i64 0),.val (.int .i64 0)],[(0,1,false),(1,1,false),(2,1,false)],0,.struct⟩:=by kernel_rfl
theorem ti143:tiOf Tryz.prog 143=some ⟨false,1,24,.val (.slice none 0 0),[],24,.slice⟩:=by kernel_rfl
theorem ti145:tiOf Tryz.prog 145=some ⟨true,11,120,.agg [.val (.int .i64 0),.val (.int .i64 0),.val (.int .i64 0),.val (.int .i64 0),.val (.int .i64 0),.val (.slice none 0 0),.val (.int .i64 0),.val (.int .i64 0),.val (.int .i64 0),.val (.bool false),.val (.slice none 0 0)],[(0,6,true),(6,1,false),(7,1,false),(8,1,false),(9,1,false),(10,1,false)],0,.struct⟩:=by kernel_rfl
theorem ti162:tiOf Tryz.prog 162=some ⟨false,1,24,.val (.slice none 0 0),[],4,.slice⟩:=by kernel_rfl
theorem ti164:tiOf Tryz.prog 164=some ⟨true,2,48,.agg [.val (.slice none 0 0),.val (.slice none 0 0)],[(0,1,false),(1,1,false)],0,.struct⟩:=by kernel_rfl
theorem ti166:tiOf Tryz.prog 166=some ⟨true,3,72,.agg [.val (.slice none 0 0),.val (.slice none 0 0),.val (.slice none 0 0)],[(0,2,true),(2,1,false)],0,.struct⟩:=by kernel_rfl
attribute [go_sem] ti2 ti3 ti4 ti5
attribute [go_sem] ti24 ti31 ti34 ti36 ti39
attribute [go_sem] ti49
attribute [go_sem] ti64 ti79
attribute [go_sem] ti83 ti97
attribute [go_sem] ti104
attribute [go_sem] ti143 ti145
attribute [go_sem] ti162 ti164 ti166
end Go.Vc
namespace Go.Vc
open Go.Proofs
def isIn (a b c:Int):Bool:=decide (a≥b)&&decide (a≤c)
theorem range_all_succ (p:Nat→Bool) (i:Nat):(List.range (i+1)).all p=((List.range i).all p&&p i):=by
 rw [q15,List.all_append];simp
theorem range_all_no {p:Nat→Bool} {i n:Nat} (h:i<n) (hp:p i=false):(List.range n).all p=false:=by
 rw [List.all_eq_false];exact ⟨i,q13.2 h,by simp [hp]⟩
def flt (p:Nat→Bool) (i:Nat):List Int:=List.map (fun j:Nat=>(j:Int)) ((List.range i).filter p)
theorem flt_zero (p:Nat→Bool):flt p 0=[]:=rfl
theorem flt_succ (p:Nat→Bool) (i:Nat):flt p (i+1)=if p i then flt p i++[(i:Int)] else flt p i:=by
 simp only [flt,q15,List.filter_append,List.map_append]
 rw [List.filter_cons]
 split<;>simp
theorem flt_len (p:Nat→Bool) (i:Nat):(flt p i).length≤i:=by
 rw [flt,List.length_map]
 exact q19 (List.length_filter_le _ _) (by simp)
theorem flt_mem {p:Nat→Bool} {i:Nat} {x:Int} (h:x∈flt p i):∃j:Nat,j<i∧x=j∧p j=true:=by
 simp only [flt,q11,q10,q13] at h
 obtain ⟨j,⟨h1,h2⟩,h3⟩:=h
 exact ⟨j,h1,h3.symm,h2⟩
attribute [irreducible] flt
theorem pred_toNat {i:Nat} (h:0<i):((i:Int)-1).toNat=i-1:=by omega
theorem c_l01In (a b c:Int):Fn Tryz.prog 67 [eI a,eI b,eI c] true (· =eB (isIn a b c)):=by
 refine Fn.of_vcN 15 [.tmp 6] Tryz.func67 rfl rfl rfl rfl rfl (of_decide_eq_true rfl) ?_
 simp -dsimp -implicitDefEqProofs only [go_sem]
 repeat' (refine Br.intro (fun _=> ?_) (fun _=> ?_)<;>try simp -dsimp -implicitDefEqProofs only [go_sem, *])
 all_goals first
  |(simp_all [isIn];done)
  |(simp_all [isIn];omega)
theorem c_within (a b c:Int):Fn Tryz.prog 65 [eI a,eI b,eI c] true (· =eB (isIn a b c)):=by
 refine Fn.of_vcN 15 [.tmp 6] Tryz.func65 rfl rfl rfl rfl rfl (of_decide_eq_true rfl) ?_
 simp -dsimp -implicitDefEqProofs only [go_sem]
 repeat' (refine Br.intro (fun _=> ?_) (fun _=> ?_)<;>try simp -dsimp -implicitDefEqProofs only [go_sem, *])
 all_goals first
  |(simp_all [isIn];done)
  |(simp_all [isIn];omega)
theorem c_allWithin (xs:List Int) (a b:Int) (h:xs.length≤9223372036854775807):Fn Tryz.prog 133 [eIs xs,eI a,eI b] true (· =eB (xs.all fun x=>isIn x a b)):=by
 refine Fn.of_vcN 21 [.tmp 6] Tryz.func133 rfl rfl rfl rfl rfl (of_decide_eq_true rfl) ?_
 simp -dsimp -implicitDefEqProofs only [go_sem]
 refine Later.up [1,2,9,10] [18] [] xs.length (fun i=>(xs.take i).all fun x=>isIn x a b) (fun i=>[(11,eI i)]) (fun _=>[]) (by simp) ?_ rfl (fun i hi hI=> ?_) (fun hI=> ?_)
 · simp -dsimp -implicitDefEqProofs only [go_sem]
 · simp -dsimp -implicitDefEqProofs only [pz,Nat.reduceBEq,Nat.reduceDiv,Nat.reduceAdd,↓reduceIte,Nat.reduceEqDiff]
   have no:isIn xs[i] a b=false→(xs.all fun x=>isIn x a b)=false:=fun h=>all_no (p:=fun x=>isIn x a b) hi h
   have yes:isIn xs[i] a b=true→((xs.take (i+1)).all fun x=>isIn x a b)=true:=fun h=>by rw [all_take _ _ _ hi,hI,h];rfl
   simp -dsimp -implicitDefEqProofs only [go_sem,lt_len hi,get_some hi]
   repeat' first
    |(refine Br.intro (fun _=> ?_) (fun _=> ?_)<;>try simp -dsimp -implicitDefEqProofs only [go_sem, *])
    |(with_reducible refine ai ?_ ?_)
    |(refine sCallT_one (c_within _ _ _) ?_;try simp -dsimp -implicitDefEqProofs only [go_sem, *])
   all_goals first|omega|(refine ⟨?_,?_⟩<;>omega)|(simp;done)|(rw [no];clear no yes;simp_all [];done)|(rw [no];clear no yes;simp_all [];omega)|(refine yes ?_;clear no yes;simp_all [];done)|(refine yes ?_;clear no yes;simp_all [];omega)|(simp_all [I64];done)|(simp_all [I64];omega)|skip
 · simp -dsimp -implicitDefEqProofs only [pz,Nat.reduceBEq,Nat.reduceDiv,Nat.reduceAdd,↓reduceIte,Nat.reduceEqDiff]
   simp -dsimp -implicitDefEqProofs only [go_sem,nlt_len]
   rw [q17] at hI
   rw [hI]
theorem mixed:Tryz.prog.follows .mixedOrders=true:=by kernel_rfl
theorem c_l01Own (xs:List Int) (h:xs.length≤1048576):Fn Tryz.prog 72 [eIs xs] true (· =eIs xs):=by
 refine Fn.of_vcN 6 [.tmp 2] Tryz.func72 rfl rfl rfl rfl rfl (of_decide_eq_true rfl) ?_
 simp -dsimp -implicitDefEqProofs only [go_sem]
 repeat' (with_reducible refine ai ?_ ?_)
 all_goals first|omega|(refine ⟨?_,?_⟩<;>omega)|(simp;done)|(simp;omega)|skip
theorem c_CloneI (xs:List Int) (h:xs.length≤1048576):Fn Tryz.prog 47 [eIs xs] true (· =eIs xs):=by
 refine Fn.of_vcN 8 [.tmp 2] Tryz.func47 rfl rfl rfl rfl rfl (of_decide_eq_true rfl) ?_
 simp -dsimp -implicitDefEqProofs only [go_sem]
 intro c hc
 repeat' first
  |(refine Br.intro (fun _=> ?_) (fun _=> ?_)<;>try simp -dsimp -implicitDefEqProofs only [go_sem, *])
  |(with_reducible refine ai ?_ ?_)
 all_goals first|(simp_all;done)|omega|(refine ⟨?_,?_⟩<;>omega)|(simp;done)|(simp;omega)|skip
end Go.Vc
namespace Go.Vc
open Go.Proofs
abbrev eIss (xs:List (List Int)):AV:=.arr ⟨1,false⟩ (xs.map eIs)
abbrev eLk (l:List (List Int)):AV:=.agg [eIss l]
structure MkM where
 chambers:Int
 depths:Int
 step:Int
 same:Int
 least:Int
 deriving DecidableEq
abbrev eMk (m:MkM):AV:=.agg [eI m.chambers,eI m.depths,eI m.step,eI m.same,eI m.least]
end Go.Vc
namespace Go.Vc
open Go.Proofs
def isMk (m:MkM):Bool:=isIn m.chambers 2 6&&isIn m.depths 2 8&&isIn m.step 1 (m.depths-1)&&isIn m.same 1 m.chambers&&isIn m.least 1 (if m.depths<m.chambers then m.depths else m.chambers)
theorem isMk_num {m:MkM} (h:isMk m=true):(2≤m.chambers∧m.chambers≤6)∧2≤m.depths∧m.depths≤8:=by
 simp [isMk,isIn] at h;omega
theorem c_sIsMaker (m:MkM):Fn Tryz.prog 85 [eMk m] true (· =eB (isMk m)):=by
 refine Fn.of_vcN 36 [.tmp 2] Tryz.func85 rfl rfl rfl rfl rfl (of_decide_eq_true rfl) ?_
 simp -dsimp -implicitDefEqProofs only [go_sem]
 repeat' first
  |(refine Br.intro (fun _=> ?_) (fun _=> ?_)<;>try simp -dsimp -implicitDefEqProofs only [go_sem, *])
  |(with_reducible refine ai ?_ ?_)
  |(refine sCallT_one (c_l01In _ _ _) ?_;try simp -dsimp -implicitDefEqProofs only [go_sem, *])
 all_goals first
  |(simp_all [isMk,isIn,I64];done)
  |(simp_all [isMk,isIn,I64];omega)
  |skip
theorem c_iIsMaker (m:MkM):Fn Tryz.prog 105 [eMk m] true (· =eB (isMk m)):=by
 refine Fn.of_vcN 36 [.tmp 2] Tryz.func105 rfl rfl rfl rfl rfl (of_decide_eq_true rfl) ?_
 simp -dsimp -implicitDefEqProofs only [go_sem]
 repeat' first
  |(refine Br.intro (fun _=> ?_) (fun _=> ?_)<;>try simp -dsimp -implicitDefEqProofs only [go_sem, *])
  |(with_reducible refine ai ?_ ?_)
  |(refine sCallT_one (c_within _ _ _) ?_;try simp -dsimp -implicitDefEqProofs only [go_sem, *])
 all_goals first
  |(simp_all [isMk,isIn,I64];done)
  |(simp_all [isMk,isIn,I64];omega)
  |skip
def riseAt (xs:List Int) (n:Int) (i:Nat):Bool:=decide (0≤xs.getD i 0)&&decide (xs.getD i 0<n)&&(i==0||decide (xs.getD (i-1) 0<xs.getD i 0))
def rises (xs:List Int) (n:Int):Bool:=(List.range xs.length).all (riseAt xs n)
theorem c_l01Rises (xs:List Int) (n:Int) (h:xs.length≤9223372036854775807):Fn Tryz.prog 108 [eIs xs,eI n] true (· =eB (rises xs n)):=by
 refine Fn.of_vcN 41 [.tmp 4] Tryz.func108 rfl rfl rfl rfl rfl (of_decide_eq_true rfl) ?_
 simp -dsimp -implicitDefEqProofs only [go_sem]
 refine Later.up [0,1] [8] [] xs.length (fun i=>(List.range i).all (riseAt xs n)) (fun i=>[(5,eI i)]) (fun _=>[]) (by simp) ?_ rfl (fun i hi hI=> ?_) (fun hI=> ?_)
 · simp -dsimp -implicitDefEqProofs only [go_sem]
 · have no:riseAt xs n i=false→rises xs n=false:=range_all_no hi
   have yes:riseAt xs n i=true→(List.range (i+1)).all (riseAt xs n)=true:=fun h=>by rw [range_all_succ,hI,h];rfl
   have hi':i-1<xs.length:=by omega
   have gi:=get_some hi
   have li:=lt_len hi
   by_cases hi0:0<i
   rotate_left
   · have g3:decide ((i:Int)>0)=false:=by simp;omega
     simp -dsimp -implicitDefEqProofs only [pz,Nat.reduceBEq,Nat.reduceDiv,Nat.reduceAdd,↓reduceIte,Nat.reduceEqDiff]
     simp -dsimp -implicitDefEqProofs only [go_sem,lt_len hi,get_some hi,g3]
     repeat' first
      |(refine Br.intro (fun _=> ?_) (fun _=> ?_)<;>try simp -dsimp -implicitDefEqProofs only [go_sem, *])
      |(with_reducible refine ai ?_ ?_)
      |(refine Later.draw mixed rfl ?_;simp -dsimp -implicitDefEqProofs only [go_sem,lt_len hi,get_some hi,g3])
     all_goals first
      |omega
      |(refine ⟨?_,?_⟩<;>omega)
      |(simp;done)
      |rfl
      |(rw [no];clear no yes;simp_all [riseAt];done)|(rw [no];clear no yes;simp_all [riseAt];omega)|(refine yes ?_;clear no yes;simp_all [riseAt];done)|(refine yes ?_;clear no yes;simp_all [riseAt];omega)
      |(rw [←q15];refine yes ?_;clear no yes;simp_all [riseAt];done)
      |(rw [←q15];refine yes ?_;clear no yes;simp_all [riseAt];omega)
      |(have e0:i=0:=by omega
        clear hi0;subst e0;first|(rw [no];clear no yes;simp_all [riseAt];done)|(rw [no];clear no yes;simp_all [riseAt];omega)|(refine yes ?_;clear no yes;simp_all [riseAt];done)|(refine yes ?_;clear no yes;simp_all [riseAt];omega))
      |skip
   · have g2:xs[((i:Int)-1).toNat]? =some xs[i-1]:=by rw [pred_toNat hi0];exact get_some hi'
     have g3:decide ((i:Int)>0)=true:=by simp;omega
     simp -dsimp -implicitDefEqProofs only [pz,Nat.reduceBEq,Nat.reduceDiv,Nat.reduceAdd,↓reduceIte,Nat.reduceEqDiff]
     simp -dsimp -implicitDefEqProofs only [go_sem,lt_len hi,get_some hi,g2,g3]
     repeat' first
      |(refine Br.intro (fun _=> ?_) (fun _=> ?_)<;>try simp -dsimp -implicitDefEqProofs only [go_sem, *])
      |(with_reducible refine ai ?_ ?_)
      |(refine Later.draw mixed rfl ?_;simp -dsimp -implicitDefEqProofs only [go_sem,lt_len hi,get_some hi,g2,g3])
     all_goals first
      |omega
      |(refine ⟨?_,?_⟩<;>omega)
      |(simp;done)
      |rfl
      |(rw [no];clear no yes;simp_all [riseAt];done)|(rw [no];clear no yes;simp_all [riseAt];omega)|(refine yes ?_;clear no yes;simp_all [riseAt];done)|(refine yes ?_;clear no yes;simp_all [riseAt];omega)
      |(rw [←q15];refine yes ?_;clear no yes;simp_all [riseAt];done)
      |(rw [←q15];refine yes ?_;clear no yes;simp_all [riseAt];omega)
      |(have e0:i=0:=by omega
        clear hi0;subst e0;first|(rw [no];clear no yes;simp_all [riseAt];done)|(rw [no];clear no yes;simp_all [riseAt];omega)|(refine yes ?_;clear no yes;simp_all [riseAt];done)|(refine yes ?_;clear no yes;simp_all [riseAt];omega))
      |skip
 · simp -dsimp -implicitDefEqProofs only [pz,Nat.reduceBEq,Nat.reduceDiv,Nat.reduceAdd,↓reduceIte,Nat.reduceEqDiff]
   simp -dsimp -implicitDefEqProofs only [go_sem,nlt_len]
   rw [rises,hI]
theorem c_IsRising (xs:List Int) (n:Int) (h:xs.length≤9223372036854775807):Fn Tryz.prog 132 [eIs xs,eI n] true (· =eB (rises xs n)):=by
 refine Fn.of_vcN 35 [.tmp 4] Tryz.func132 rfl rfl rfl rfl rfl (of_decide_eq_true rfl) ?_
 simp -dsimp -implicitDefEqProofs only [go_sem]
 refine Later.up [0,1,7,8] [] [] xs.length (fun i=>(List.range i).all (riseAt xs n)) (fun i=>[(9,eI i)]) (fun _=>[]) (by simp) ?_ rfl (fun i hi hI=> ?_) (fun hI=> ?_)
 · simp -dsimp -implicitDefEqProofs only [go_sem]
 · have no:riseAt xs n i=false→rises xs n=false:=range_all_no hi
   have yes:riseAt xs n i=true→(List.range (i+1)).all (riseAt xs n)=true:=fun h=>by rw [range_all_succ,hI,h];rfl
   have hi':i-1<xs.length:=by omega
   have gi:=get_some hi
   have li:=lt_len hi
   by_cases hi0:0<i
   rotate_left
   · have g3:decide ((i:Int)>0)=false:=by simp;omega
     simp -dsimp -implicitDefEqProofs only [pz,Nat.reduceBEq,Nat.reduceDiv,Nat.reduceAdd,↓reduceIte,Nat.reduceEqDiff]
     simp -dsimp -implicitDefEqProofs only [go_sem,lt_len hi,get_some hi,g3]
     repeat' first
      |(refine Br.intro (fun _=> ?_) (fun _=> ?_)<;>try simp -dsimp -implicitDefEqProofs only [go_sem, *])
      |(with_reducible refine ai ?_ ?_)
      |(refine Later.draw mixed rfl ?_;simp -dsimp -implicitDefEqProofs only [go_sem,lt_len hi,get_some hi,g3])
     all_goals first
      |omega
      |(refine ⟨?_,?_⟩<;>omega)
      |(simp;done)
      |rfl
      |(rw [no];clear no yes;simp_all [riseAt];done)|(rw [no];clear no yes;simp_all [riseAt];omega)|(refine yes ?_;clear no yes;simp_all [riseAt];done)|(refine yes ?_;clear no yes;simp_all [riseAt];omega)
      |(rw [←q15];refine yes ?_;clear no yes;simp_all [riseAt];done)
      |(rw [←q15];refine yes ?_;clear no yes;simp_all [riseAt];omega)
      |(have e0:i=0:=by omega
        clear hi0;subst e0;first|(rw [no];clear no yes;simp_all [riseAt];done)|(rw [no];clear no yes;simp_all [riseAt];omega)|(refine yes ?_;clear no yes;simp_all [riseAt];done)|(refine yes ?_;clear no yes;simp_all [riseAt];omega))
      |skip
   · have g2:xs[((i:Int)-1).toNat]? =some xs[i-1]:=by rw [pred_toNat hi0];exact get_some hi'
     have g3:decide ((i:Int)>0)=true:=by simp;omega
     simp -dsimp -implicitDefEqProofs only [pz,Nat.reduceBEq,Nat.reduceDiv,Nat.reduceAdd,↓reduceIte,Nat.reduceEqDiff]
     simp -dsimp -implicitDefEqProofs only [go_sem,lt_len hi,get_some hi,g2,g3]
     repeat' first
      |(refine Br.intro (fun _=> ?_) (fun _=> ?_)<;>try simp -dsimp -implicitDefEqProofs only [go_sem, *])
      |(with_reducible refine ai ?_ ?_)
      |(refine Later.draw mixed rfl ?_;simp -dsimp -implicitDefEqProofs only [go_sem,lt_len hi,get_some hi,g2,g3])
     all_goals first
      |omega
      |(refine ⟨?_,?_⟩<;>omega)
      |(simp;done)
      |rfl
      |(rw [no];clear no yes;simp_all [riseAt];done)|(rw [no];clear no yes;simp_all [riseAt];omega)|(refine yes ?_;clear no yes;simp_all [riseAt];done)|(refine yes ?_;clear no yes;simp_all [riseAt];omega)
      |(rw [←q15];refine yes ?_;clear no yes;simp_all [riseAt];done)
      |(rw [←q15];refine yes ?_;clear no yes;simp_all [riseAt];omega)
      |(have e0:i=0:=by omega
        clear hi0;subst e0;first|(rw [no];clear no yes;simp_all [riseAt];done)|(rw [no];clear no yes;simp_all [riseAt];omega)|(refine yes ?_;clear no yes;simp_all [riseAt];done)|(refine yes ?_;clear no yes;simp_all [riseAt];omega))
      |skip
 · simp -dsimp -implicitDefEqProofs only [pz,Nat.reduceBEq,Nat.reduceDiv,Nat.reduceAdd,↓reduceIte,Nat.reduceEqDiff]
   simp -dsimp -implicitDefEqProofs only [go_sem,nlt_len]
   rw [rises,hI]
def has (xs:List Int) (x:Int):Bool:= !(xs.all fun y=> !(y==x))
theorem c_l01Has (xs:List Int) (x:Int) (h:xs.length≤1048576):Fn Tryz.prog 94 [eIs xs,eI x] true (· =eB (has xs x)):=by
 refine Fn.of_vcN 18 [.tmp 4] Tryz.func94 rfl rfl rfl rfl rfl (of_decide_eq_true rfl) ?_
 simp -dsimp -implicitDefEqProofs only [go_sem]
 refine Later.up [0,1] [8] [] xs.length (fun i=>(xs.take i).all (fun y=> !(y==x))) (fun i=>[(5,eI i)]) (fun _=>[]) (by simp) ?_ rfl (fun i hi hI=> ?_) (fun hI=> ?_)
 · simp -dsimp -implicitDefEqProofs only [go_sem]
 · simp -dsimp -implicitDefEqProofs only [pz,Nat.reduceBEq,Nat.reduceDiv,Nat.reduceAdd,↓reduceIte,Nat.reduceEqDiff]
   have gi:=get_some hi
   have li:=lt_len hi
   have no:(!(xs[i]==x))=false→(xs.all fun y=> !(y==x))=false:=fun h=>by simp [has,all_no (p:=fun y=> !(y==x)) hi h]
   have yes:(!(xs[i]==x))=true→((xs.take (i+1)).all (fun y=> !(y==x)))=true:=fun h=>by rw [all_take _ _ _ hi,hI];simpa using h
   simp -dsimp -implicitDefEqProofs only [go_sem,li,gi]
   repeat' first
    |(refine Br.intro (fun _=> ?_) (fun _=> ?_)<;>try simp -dsimp -implicitDefEqProofs only [go_sem, *])
    |(with_reducible refine ai ?_ ?_)
    |(refine Later.draw mixed rfl ?_;try simp -dsimp -implicitDefEqProofs only [go_sem, *])
   all_goals first
    |omega
    |(refine ⟨?_,?_⟩<;>omega)
    |(simp;done)
    |rfl
    |(rw [has,no (by rw [‹(xs[i]==x)=true›];rfl)];rfl)|(refine yes ?_;clear no yes;simp_all;done)
    |skip
 · simp -dsimp -implicitDefEqProofs only [pz,Nat.reduceBEq,Nat.reduceDiv,Nat.reduceAdd,↓reduceIte,Nat.reduceEqDiff]
   simp -dsimp -implicitDefEqProofs only [go_sem,nlt_len]
   rw [q17] at hI
   first
    |(simp_all [has];done)
    |skip
theorem c_Index (xs:List Int) (x:Int) (h:xs.length≤1048576):Fn Tryz.prog 172 [eIs xs,eI x] true (fun r=>∃n:Int,r=eI n∧decide (n≥0)=has xs x):=by
 refine Fn.of_vc 19 [.tmp 4] Tryz.func172 rfl rfl rfl rfl rfl (of_decide_eq_true rfl) ?_
 simp -dsimp -implicitDefEqProofs only [go_sem]
 refine Later.up [0,1,7] [] [] xs.length (fun i=>(xs.take i).all (fun y=> !(y==x))) (fun i=>[(8,eI i)]) (fun _=>[]) (by simp) ?_ rfl (fun i hi hI=> ?_) (fun hI=> ?_)
 · simp -dsimp -implicitDefEqProofs only [go_sem]
 · simp -dsimp -implicitDefEqProofs only [pz,Nat.reduceBEq,Nat.reduceDiv,Nat.reduceAdd,↓reduceIte,Nat.reduceEqDiff]
   have no:(!(xs[i]==x))=false→has xs x=true:=fun h=>by simp [has,all_no (p:=fun y=> !(y==x)) hi h]
   have yes:(!(xs[i]==x))=true→((xs.take (i+1)).all (fun y=> !(y==x)))=true:=fun h=>by rw [all_take _ _ _ hi,hI];simpa using h
   have gi:=get_some hi
   simp -dsimp -implicitDefEqProofs only [go_sem,lt_len hi,get_some hi]
   repeat' first
    |(refine Br.intro (fun _=> ?_) (fun _=> ?_)<;>try simp -dsimp -implicitDefEqProofs only [go_sem, *])
    |(with_reducible refine ai ?_ ?_)
    |(refine Later.draw mixed rfl ?_;try simp -dsimp -implicitDefEqProofs only [go_sem, *])
   all_goals first
    |omega
    |(refine ⟨?_,?_⟩<;>omega)
    |rfl
    |(refine ⟨_,rfl,?_⟩;rw [no];· simp
      · clear no yes;simp_all)
    |(refine yes ?_;rw [BEq.comm,‹(x==xs[i])=false›];rfl)
    |skip
 · simp -dsimp -implicitDefEqProofs only [pz,Nat.reduceBEq,Nat.reduceDiv,Nat.reduceAdd,↓reduceIte,Nat.reduceEqDiff]
   simp -dsimp -implicitDefEqProofs only [go_sem,nlt_len]
   rw [q17] at hI
   exact ⟨_,rfl,by rw [has,hI];rfl⟩
theorem c_Contains (xs:List Int) (x:Int) (h:xs.length≤1048576):Fn Tryz.prog 161 [eIs xs,eI x] true (· =eB (has xs x)):=by
 refine Fn.of_vcN 9 [.tmp 4] Tryz.func161 rfl rfl rfl rfl rfl (of_decide_eq_true rfl) ?_
 simp -dsimp -implicitDefEqProofs only [go_sem]
 refine sCallT_any (c_Index xs x h) ?_
 rintro _ ⟨n,rfl,hn⟩
 simp -dsimp -implicitDefEqProofs only [go_sem]
 rw [←hn]
end Go.Vc
namespace Go.Vc
open Go.Proofs
abbrev eSy (m:MkM) (t:List (List Int)):AV:=.agg [eI m.chambers,eI m.depths,eI m.step,eI m.same,eI m.least,eIss t]
def rowOk (n:Nat) (r:List Int):Bool:=(r.length==n)&&decide (1≤r.length)&&decide (r.length≤12)&&r.all fun x=>isIn x 0 1
def isTb (t:List (List Int)):Bool:=decide (1≤t.length)&&decide (t.length≤10)&&t.all (rowOk (t.getD 0 []).length)
theorem isTb_no {t:List (List Int)} {i:Nat} (hi:i<t.length) (h:rowOk (t.getD 0 []).length t[i]=false):isTb t=false:=by
 rw [isTb,all_no hi h];simp
theorem isTb_num {t:List (List Int)} (h:isTb t=true):1≤t.length∧t.length≤10∧1≤(t.getD 0 []).length∧(t.getD 0 []).length≤12∧∀i (hi:i<t.length),t[i].length=(t.getD 0 []).length:=by
 simp only [isTb,q1,decide_eq_true_eq] at h
 have hr:∀i (hi:i<t.length),rowOk (t.getD 0 []).length t[i]=true:=fun i hi=>q3.1 h.2 _ (q8 hi)
 have h0:=hr 0 (by omega)
 have e:t.getD 0 []=t[0]'(by omega):=by simp [q5,show 0<t.length by omega]
 simp only [rowOk,q1,decide_eq_true_eq,beq_iff_eq] at h0 hr
 rw [←e] at h0
 exact ⟨h.1.1,h.1.2,h0.1.1.2,h0.1.2,fun i hi=>(hr i hi).1.1.1⟩
theorem c_iIsTable (t:List (List Int)) (h:t.length≤1048576) (h2:∀x∈t,x.length≤1048576):Fn Tryz.prog 110 [eIss t] true (· =eB (isTb t)):=by
 refine Fn.of_vcN 42 [.tmp 2] Tryz.func110 rfl rfl rfl rfl rfl (of_decide_eq_true rfl) ?_
 simp -dsimp -implicitDefEqProofs only [go_sem]
 refine Later.up [0,5,6] [12,16,20,25,30] [] t.length (fun i=>(t.take i).all (rowOk (t.getD 0 []).length)) (fun i=>[(7,eI i)]) (fun _=>[]) (by simp) ?_ rfl (fun i hi hI=> ?_) (fun hI=> ?_)
 · simp -dsimp -implicitDefEqProofs only [go_sem]
 · have h00:0<t.length:=by omega
   have g0:=get_some h00
   have gd:t.getD 0 []=t[0]:=by simp [q5,h00]
   have hx:=h2 t[i] (q8 hi)
   have hx0:=h2 t[0] (q8 h00)
   have gi:=get_some hi
   have li:=lt_len hi
   have no:rowOk t[0].length t[i]=false→isTb t=false:=fun h=>isTb_no hi (by rw [gd];exact h)
   have yes:rowOk t[0].length t[i]=true→(t.take (i+1)).all (rowOk (t.getD 0 []).length)=true:=fun h=>by rw [all_take _ _ _ hi,hI,gd,h];rfl
   clear gd
   simp -dsimp -implicitDefEqProofs only [pz,Nat.reduceBEq,Nat.reduceDiv,Nat.reduceAdd,↓reduceIte,Nat.reduceEqDiff]
   simp -dsimp -implicitDefEqProofs only [go_sem,li,gi,g0]
   repeat' first
    |(refine Br.intro (fun _=> ?_) (fun _=> ?_)<;>try simp -dsimp -implicitDefEqProofs only [go_sem, *])
    |(with_reducible refine ai ?_ ?_)
    |(refine sCallT_one (c_allWithin t[i] 0 1 (by omega)) ?_;try simp -dsimp -implicitDefEqProofs only [go_sem, *])
   all_goals first
    |omega
    |(refine ⟨?_,?_⟩<;>omega)
    |rfl
    |(simp;done)
    |(rw [no];clear no yes;simp_all [rowOk];done)|(rw [no];clear no yes;simp_all [rowOk];omega)|(refine yes ?_;clear no yes;simp_all [rowOk];done)|(refine yes ?_;clear no yes;simp_all [rowOk];omega)
    |skip
 · simp -dsimp -implicitDefEqProofs only [pz,Nat.reduceBEq,Nat.reduceDiv,Nat.reduceAdd,↓reduceIte,Nat.reduceEqDiff]
   simp -dsimp -implicitDefEqProofs only [go_sem,nlt_len]
   rw [q17] at hI
   repeat' first
    |(refine Br.intro (fun _=> ?_) (fun _=> ?_)<;>try simp -dsimp -implicitDefEqProofs only [go_sem, *])
    |(with_reducible refine ai ?_ ?_)
   all_goals first
    |omega
    |(simp_all [isTb];done)
    |(rename_i hx
      have h3:1≤t.length:=by have:=of_decide_eq_true hx;omega
      have h4:decide ((t.length:Int)≤10)=decide (t.length≤10):=by rw [decide_eq_decide];omega
      rw [isTb,hI,decide_eq_true h3,h4,Bool.true_and,Bool.and_true])
    |(rename_i hx
      have h3:¬1≤t.length:=by have:=of_decide_eq_false hx;omega
      rw [isTb,decide_eq_false h3];rfl)
    |skip
theorem c_sIsTable (t:List (List Int)) (h:t.length≤1048576) (h2:∀x∈t,x.length≤1048576):Fn Tryz.prog 113 [eIss t] true (· =eB (isTb t)):=by
 refine Fn.of_vcN 52 [.tmp 2] Tryz.func113 rfl rfl rfl rfl rfl (of_decide_eq_true rfl) ?_
 simp -dsimp -implicitDefEqProofs only [go_sem]
 repeat' first
  |(refine Br.intro (fun _=> ?_) (fun _=> ?_)<;>try simp -dsimp -implicitDefEqProofs only [go_sem, *])
  |(with_reducible refine ai ?_ ?_)
  |(refine sCallT_one (c_l01In _ _ _) ?_;try simp -dsimp -implicitDefEqProofs only [go_sem, *])
 all_goals try (first|omega|(simp_all [isTb,isIn];omega))
 rename_i hl
 refine Later.up [0] [11,19,23,30,31,39,50] [] t.length (fun i=>(t.take i).all (rowOk (t.getD 0 []).length)) (fun i=>[(3,eI i)]) (fun _=>[]) (by simp) ?_ rfl (fun i hi hI=> ?_) (fun hI=> ?_)
 · simp -dsimp -implicitDefEqProofs only [go_sem]
 · have h00:0<t.length:=by omega
   have g0:=get_some h00
   have gd:t.getD 0 []=t[0]:=by simp [q5,h00]
   have hx:=h2 t[i] (q8 hi)
   have hx0:=h2 t[0] (q8 h00)
   have gi:=get_some hi
   have li:=lt_len hi
   have no:rowOk t[0].length t[i]=false→isTb t=false:=fun h=>isTb_no hi (by rw [gd];exact h)
   have yes:rowOk t[0].length t[i]=true→(t.take (i+1)).all (rowOk (t.getD 0 []).length)=true:=fun h=>by rw [all_take _ _ _ hi,hI,gd,h];rfl
   clear gd hI
   simp -dsimp -implicitDefEqProofs only [pz,Nat.reduceBEq,Nat.reduceDiv,Nat.reduceAdd,↓reduceIte,Nat.reduceEqDiff]
   simp -dsimp -implicitDefEqProofs only [go_sem,li,gi,g0]
   repeat' first
    |(refine Br.intro (fun _=> ?_) (fun _=> ?_)<;>try simp -dsimp -implicitDefEqProofs only [go_sem, *])
    |(with_reducible refine ai ?_ ?_)
    |(refine Later.draw mixed rfl ?_;try simp -dsimp -implicitDefEqProofs only [go_sem, *])
    |(refine sCallT_one (c_l01In _ _ _) ?_;try simp -dsimp -implicitDefEqProofs only [go_sem, *])
    |(refine sCallX_one (c_l01In _ _ _) ?_;try simp -dsimp -implicitDefEqProofs only [go_sem, *])
   all_goals try (first|omega|(refine ⟨?_,?_⟩<;>omega)|rfl|(simp;done)|(rw [no];clear no yes;simp_all [rowOk,isIn];done)|(rw [no];clear no yes;simp_all [rowOk,isIn];omega)|(refine yes ?_;clear no yes;simp_all [rowOk,isIn];done)|(refine yes ?_;clear no yes;simp_all [rowOk,isIn];omega))
   refine Later.up [0,3] [39,50] [] t[i].length (fun j=>(t[i].take j).all (fun x=>isIn x 0 1)) (fun j=>[(4,eI j)]) (fun _=>[]) (by simp) ?_ rfl (fun j hj hJ=> ?_) (fun hJ=> ?_)
   · simp -dsimp -implicitDefEqProofs only [go_sem]
   · have gj:=get_some hj
     have lj:=lt_len hj
     have no1:isIn t[i][j] 0 1=false→isTb t=false:=fun h=>no (by rw [rowOk,all_no (p:=fun x=>isIn x 0 1) hj h];simp)
     have yes1:isIn t[i][j] 0 1=true→(t[i].take (j+1)).all (fun x=>isIn x 0 1)=true:=fun h=>by rw [all_take _ _ _ hj,hJ,h];rfl
     clear no yes
     simp -dsimp -implicitDefEqProofs only [pz,Nat.reduceBEq,Nat.reduceDiv,Nat.reduceAdd,↓reduceIte,Nat.reduceEqDiff]
     simp -dsimp -implicitDefEqProofs only [go_sem,li,gi,gj,lj]
     repeat' first
      |(refine Br.intro (fun _=> ?_) (fun _=> ?_)<;>try simp -dsimp -implicitDefEqProofs only [go_sem, *])
      |(with_reducible refine ai ?_ ?_)
      |(refine sCallT_one (c_l01In _ _ _) ?_;try simp -dsimp -implicitDefEqProofs only [go_sem, *])
     all_goals first
      |omega
      |(refine ⟨?_,?_⟩<;>omega)
      |rfl
      |(simp;done)
      |(rw [no1];clear no1 yes1;simp_all;done)
      |(refine yes1 ?_;clear no1 yes1;simp_all;done)
      |skip
   · simp -dsimp -implicitDefEqProofs only [pz,Nat.reduceBEq,Nat.reduceDiv,Nat.reduceAdd,↓reduceIte,Nat.reduceEqDiff]
     rw [q17] at hJ
     simp -dsimp -implicitDefEqProofs only [go_sem,li,gi,nlt_len]
     repeat' first
      |(refine Br.intro (fun _=> ?_) (fun _=> ?_)<;>try simp -dsimp -implicitDefEqProofs only [go_sem, *])
      |(with_reducible refine ai ?_ ?_)
     all_goals first
      |omega
      |(refine ⟨?_,?_⟩<;>omega)
      |rfl
      |(simp;done)
      |(refine yes ?_;clear no yes;simp_all [rowOk,isIn];done)
      |(refine yes ?_;clear no yes;simp_all [rowOk,isIn];omega)
      |skip
 · simp -dsimp -implicitDefEqProofs only [pz,Nat.reduceBEq,Nat.reduceDiv,Nat.reduceAdd,↓reduceIte,Nat.reduceEqDiff]
   simp -dsimp -implicitDefEqProofs only [go_sem,nlt_len]
   rw [q17] at hI
   first
    |(simp_all [isTb,isIn];done)
    |(simp_all [isTb,isIn];omega)
    |skip
def doorOpen (t:List (List Int)) (k:Nat):Bool:=t.any fun r=>r.getD k 0==1
def doorsOpen (t:List (List Int)):Bool:=(List.range (t.getD 0 []).length).all (doorOpen t)
def isSy (m:MkM) (t:List (List Int)):Bool:=isMk m&&isTb t&&doorsOpen t
theorem isSy_num {m:MkM} {t:List (List Int)} (h:isSy m t=true):1≤t.length∧t.length≤10∧1≤(t.getD 0 []).length∧(t.getD 0 []).length≤12∧∀i (hi:i<t.length),t[i].length=(t.getD 0 []).length:=by
 simp only [isSy,q1] at h
 exact isTb_num h.1.2
theorem any_take {α:Type} (p:α→Bool) (xs:List α) (i:Nat) (h:i<xs.length):(xs.take (i+1)).any p=((xs.take i).any p||p xs[i]):=by
 rw [List.take_succ_eq_append_getElem h,List.any_append];simp
def rowsOn (t:List (List Int)) (k:Nat):List Int:=flt (fun i=>(t.getD i []).getD k 0==1) t.length
theorem rowsOn_nil (t:List (List Int)) (k:Nat):decide (((rowsOn t k).length:Int)=0)= !doorOpen t k:=by
 have key:∀n,n≤t.length→((flt (fun i=>(t.getD i []).getD k 0==1) n)=[]↔(t.take n).any (fun r=>r.getD k 0==1)=false):=by
  intro n
  induction n with
  |zero=>intro _;simp [flt_zero]
  |succ n ih=>
   intro hn
   have h1:=ih (by omega)
   have e:t.getD n []=t[n]:=by simp [q5,show n<t.length by omega]
   rw [flt_succ,any_take _ _ _ (show n<t.length by omega),Bool.or_eq_false_iff,←h1,e]
   cases hc:(t[n].getD k 0==1)<;>simp
 have h1:=key t.length (q18 _)
 rw [q17] at h1
 have h2:(((rowsOn t k).length:Int)=0)↔rowsOn t k=[]:=by rw [←List.length_eq_zero_iff];omega
 cases hd:doorOpen t k with
 |true=>
  rw [Bool.not_true]
  refine decide_eq_false fun e=> ?_
  have:=h1.1 (h2.1 e)
  rw [show doorOpen t k=t.any fun r=>r.getD k 0==1 from rfl,this] at hd;cases hd
 |false=>
  rw [Bool.not_false]
  exact decide_eq_true (h2.2 (h1.2 hd))
theorem c_rowsFor (m:MkM) (t:List (List Int)) (k:Nat) (h:t.length≤1048576) (hk:∀i (hi:i<t.length),k<t[i].length):Fn Tryz.prog 81 [eSy m t,eI k] true (· =eIs (rowsOn t k)):=by
 refine Fn.of_vcN 28 [.tmp 4] Tryz.func81 rfl rfl rfl rfl rfl (of_decide_eq_true rfl) ?_
 simp -dsimp -implicitDefEqProofs only [go_sem]
 repeat' (with_reducible refine ai ?_ ?_)
 all_goals try omega
 refine Later.up [1,10,11] [24,25] [8] t.length (fun _=>True) (fun i=>[(12,eI i),(5,.ref 8 0 0 (flt (fun i=>(t.getD i []).getD k 0==1) i).length)]) (fun i=>[(8,.row 0 ⟨1,false⟩ true ((flt (fun i=>(t.getD i []).getD k 0==1) i).map eI))]) trivial ?_ rfl (fun i hi _=> ?_) (fun _=> ?_)
 · simp -dsimp -implicitDefEqProofs only [go_sem,flt_zero]
   all_goals simp
 · have hl:=flt_len (fun i=>(t.getD i []).getD k 0==1) i
   have hs:=flt_succ (fun i=>(t.getD i []).getD k 0==1) i
   have hki:=hk i hi
   have hp:(t.getD i []).getD k 0=t[i][k]:=by simp [q5,hi,hki]
   rw [hp] at hs
   clear hp
   have gi:=get_some hi
   have gk:=get_some hki
   have li:=lt_len hi
   simp -dsimp -implicitDefEqProofs only [pz,Nat.reduceBEq,Nat.reduceDiv,Nat.reduceAdd,↓reduceIte,Nat.reduceEqDiff]
   rw [hs]
   clear hs
   simp -dsimp -implicitDefEqProofs only [go_sem,li,gi,gk]
   repeat' first
    |(refine Br.intro (fun _=> ?_) (fun _=> ?_)<;>try simp -dsimp -implicitDefEqProofs only [go_sem, *])
    |(with_reducible refine ai ?_ ?_)
    |(refine Later.draw mixed rfl ?_;try simp -dsimp -implicitDefEqProofs only [go_sem, *])
   all_goals first
    |omega|(refine ⟨?_,?_⟩<;>omega)|(simp;done)|(simp;omega)
    |rfl
    |(simp_all;done)
    |(simp_all;omega)
    |skip
 · have hl:=flt_len (fun i=>(t.getD i []).getD k 0==1) t.length
   simp -dsimp -implicitDefEqProofs only [pz,Nat.reduceBEq,Nat.reduceDiv,Nat.reduceAdd,↓reduceIte,Nat.reduceEqDiff]
   simp -dsimp -implicitDefEqProofs only [go_sem,nlt_len]
   repeat' (with_reducible refine ai ?_ ?_)
   all_goals first
    |omega|(refine ⟨?_,?_⟩<;>omega)|(simp;done)|(simp;omega)
    |rfl
    |(simp [rowsOn];done)
    |skip
theorem c_iIsSystem (m:MkM) (t:List (List Int)) (h:t.length≤1048576) (h2:∀x∈t,x.length≤1048576):Fn Tryz.prog 89 [eSy m t] true (· =eB (isSy m t)):=by
 refine Fn.of_vcN 28 [.tmp 2] Tryz.func89 rfl rfl rfl rfl rfl (of_decide_eq_true rfl) ?_
 rcases hb:(isMk m&&isTb t) with _|_
 · simp -dsimp -implicitDefEqProofs only [go_sem]
   repeat' first
    |(refine Br.intro (fun _=> ?_) (fun _=> ?_)<;>try simp -dsimp -implicitDefEqProofs only [go_sem, *])
    |(with_reducible refine ai ?_ ?_)
    |(refine sCallT_one (c_iIsMaker m) ?_;try simp -dsimp -implicitDefEqProofs only [go_sem, *])
    |(refine sCallT_one (c_iIsTable t h h2) ?_;try simp -dsimp -implicitDefEqProofs only [go_sem, *])
   all_goals first
    |omega
    |(simp_all [isSy];done)
    |skip
 obtain ⟨hb1,hb2⟩:=Bool.and_eq_true_iff.1 hb
 obtain ⟨n1,n2,n3,n4,n5⟩:=isTb_num hb2
 have h00:0<t.length:=by omega
 have g0:=get_some h00
 have gd:t.getD 0 []=t[0]:=by simp [q5,h00]
 rw [gd] at n3 n4 n5
 simp -dsimp -implicitDefEqProofs only [go_sem,g0]
 repeat' first
  |(refine Br.intro (fun _=> ?_) (fun _=> ?_)<;>try simp -dsimp -implicitDefEqProofs only [go_sem, *])
  |(with_reducible refine ai ?_ ?_)
  |(refine sCallT_one (c_iIsMaker m) ?_;try simp -dsimp -implicitDefEqProofs only [go_sem, *])
  |(refine sCallT_one (c_iIsTable t h h2) ?_;try simp -dsimp -implicitDefEqProofs only [go_sem, *])
 all_goals try (first|omega|(simp_all;done))
 refine Later.up [1,18] [24,25] [] t[0].length (fun i=>(List.range i).all (doorOpen t)) (fun i=>[(19,eI i)]) (fun _=>[]) (by simp) ?_ rfl (fun i hi hI=> ?_) (fun hI=> ?_)
 · simp -dsimp -implicitDefEqProofs only [go_sem,g0]
 · have no:doorOpen t i=false→isSy m t=false:=fun h=>by
    have:doorsOpen t=false:=by rw [doorsOpen,gd];exact range_all_no hi h
    simp [isSy,this]
   have yes:doorOpen t i=true→(List.range (i+1)).all (doorOpen t)=true:=fun h=>by rw [range_all_succ,hI,h];rfl
   have hr:=rowsOn_nil t i
   clear hI gd
   simp -dsimp -implicitDefEqProofs only [pz,Nat.reduceBEq,Nat.reduceDiv,Nat.reduceAdd,↓reduceIte,Nat.reduceEqDiff]
   simp -dsimp -implicitDefEqProofs only [go_sem,lt_len hi,hr]
   repeat' first
    |(refine Br.intro (fun _=> ?_) (fun _=> ?_)<;>try simp -dsimp -implicitDefEqProofs only [go_sem, *])
    |(with_reducible refine ai ?_ ?_)
    |(refine sCallT_one (c_rowsFor m t i h (fun j hj=>by rw [n5 j hj];exact hi)) ?_;try simp -dsimp -implicitDefEqProofs only [go_sem,lt_len hi,hr])
   all_goals first
    |omega
    |(refine ⟨?_,?_⟩<;>omega)
    |rfl
    |(simp;done)
    |(rw [no];clear no yes;simp_all;done)
    |(rw [←q15];refine yes ?_;clear no yes;simp_all;done)
    |skip
 · simp -dsimp -implicitDefEqProofs only [pz,Nat.reduceBEq,Nat.reduceDiv,Nat.reduceAdd,↓reduceIte,Nat.reduceEqDiff]
   simp -dsimp -implicitDefEqProofs only [go_sem,nlt_len]
   first
    |(rw [isSy,hb1,hb2,doorsOpen,gd,hI];rfl)
    |skip
theorem c_sIsSystem (m:MkM) (t:List (List Int)) (h:t.length≤1048576) (h2:∀x∈t,x.length≤1048576):Fn Tryz.prog 91 [eSy m t] true (· =eB (isSy m t)):=by
 refine Fn.of_vcN 46 [.tmp 2] Tryz.func91 rfl rfl rfl rfl rfl (of_decide_eq_true rfl) ?_
 rcases hb:(isMk m&&isTb t) with _|_
 · simp -dsimp -implicitDefEqProofs only [go_sem]
   repeat' first
    |(refine Br.intro (fun _=> ?_) (fun _=> ?_)<;>try simp -dsimp -implicitDefEqProofs only [go_sem, *])
    |(with_reducible refine ai ?_ ?_)
    |(refine sCallT_one (c_sIsMaker m) ?_;try simp -dsimp -implicitDefEqProofs only [go_sem, *])
    |(refine sCallT_one (c_sIsTable t h h2) ?_;try simp -dsimp -implicitDefEqProofs only [go_sem, *])
   all_goals first
    |omega
    |(simp_all [isSy];done)
    |skip
 obtain ⟨hb1,hb2⟩:=Bool.and_eq_true_iff.1 hb
 obtain ⟨n1,n2,n3,n4,n5⟩:=isTb_num hb2
 have h00:0<t.length:=by omega
 have g0:=get_some h00
 have gd:t.getD 0 []=t[0]:=by simp [q5,h00]
 rw [gd] at n3 n4 n5
 simp -dsimp -implicitDefEqProofs only [go_sem,g0]
 repeat' first
  |(refine Br.intro (fun _=> ?_) (fun _=> ?_)<;>try simp -dsimp -implicitDefEqProofs only [go_sem, *])
  |(with_reducible refine ai ?_ ?_)
  |(refine sCallT_one (c_sIsMaker m) ?_;try simp -dsimp -implicitDefEqProofs only [go_sem, *])
  |(refine sCallT_one (c_sIsTable t h h2) ?_;try simp -dsimp -implicitDefEqProofs only [go_sem, *])
 all_goals try (first|omega|(simp_all;done))
 refine Later.up [1] [21,28] [] t[0].length (fun i=>(List.range i).all (doorOpen t)) (fun i=>[(3,eI i)]) (fun _=>[]) (by simp) ?_ rfl (fun i hi hI=> ?_) (fun hI=> ?_)
 · simp -dsimp -implicitDefEqProofs only [go_sem,g0]
 · have no:doorOpen t i=false→isSy m t=false:=fun h=>by
    have:doorsOpen t=false:=by rw [doorsOpen,gd];exact range_all_no hi h
    simp [isSy,this]
   have yes:doorOpen t i=true→(List.range (i+1)).all (doorOpen t)=true:=fun h=>by rw [range_all_succ,hI,h];rfl
   clear hI gd
   simp -dsimp -implicitDefEqProofs only [pz,Nat.reduceBEq,Nat.reduceDiv,Nat.reduceAdd,↓reduceIte,Nat.reduceEqDiff]
   simp -dsimp -implicitDefEqProofs only [go_sem,lt_len hi,g0]
   repeat' first
    |(refine Br.intro (fun _=> ?_) (fun _=> ?_)<;>try simp -dsimp -implicitDefEqProofs only [go_sem, *])
    |(with_reducible refine ai ?_ ?_)
   all_goals try (first|omega|rfl|(simp;done))
   refine Later.up [1,3] [28] [] t.length (fun _=>True) (fun j=>[(5,eI j),(4,eB ((t.take j).any fun r=>r.getD i 0==1))]) (fun _=>[]) trivial ?_ rfl (fun j hj _=> ?_) (fun _=> ?_)
   · simp -dsimp -implicitDefEqProofs only [go_sem,List.take_zero,List.any_nil]
   · have gj:=get_some hj
     have lj:=lt_len hj
     have hij:i<t[j].length:=by rw [n5 j hj];exact hi
     have gij:=get_some hij
     have ha:=any_take (fun r=>r.getD i 0==1) t j hj
     have he:t[j].getD i 0=t[j][i]:=by simp [q5,hij]
     rw [he] at ha
     clear he no yes
     simp -dsimp -implicitDefEqProofs only [pz,Nat.reduceBEq,Nat.reduceDiv,Nat.reduceAdd,↓reduceIte,Nat.reduceEqDiff]
     rw [ha]
     clear ha
     simp -dsimp -implicitDefEqProofs only [go_sem,gj,lj,gij]
     repeat' first
      |(refine Br.intro (fun _=> ?_) (fun _=> ?_)<;>try simp -dsimp -implicitDefEqProofs only [go_sem, *])
      |(with_reducible refine ai ?_ ?_)
      |(refine Later.draw mixed rfl ?_;try simp -dsimp -implicitDefEqProofs only [go_sem, *])
     all_goals first
      |omega
      |(refine ⟨?_,?_⟩<;>omega)
      |rfl
      |(simp;done)
      |(simp_all;done)
      |skip
   · simp -dsimp -implicitDefEqProofs only [pz,Nat.reduceBEq,Nat.reduceDiv,Nat.reduceAdd,↓reduceIte,Nat.reduceEqDiff]
     simp -dsimp -implicitDefEqProofs only [go_sem,nlt_len]
     rw [q17]
     have hd:(t.any fun r=>r.getD i 0==1)=doorOpen t i:=rfl
     rw [hd]
     repeat' first
      |(refine Br.intro (fun _=> ?_) (fun _=> ?_)<;>try simp -dsimp -implicitDefEqProofs only [go_sem, *])
      |(with_reducible refine ai ?_ ?_)
     all_goals first
      |omega
      |(refine ⟨?_,?_⟩<;>omega)
      |rfl
      |(simp;done)
      |(rw [no];clear no yes;simp_all;done)
      |(rw [←q15];refine yes ?_;clear no yes;simp_all;done)
      |skip
 · simp -dsimp -implicitDefEqProofs only [pz,Nat.reduceBEq,Nat.reduceDiv,Nat.reduceAdd,↓reduceIte,Nat.reduceEqDiff]
   simp -dsimp -implicitDefEqProofs only [go_sem,nlt_len,g0]
   repeat' (with_reducible refine ai ?_ ?_)
   all_goals first
    |omega
    |(rw [isSy,hb1,hb2,doorsOpen,gd,hI];rfl)
    |skip
end Go.Vc
namespace Go.Vc
open Go.Proofs
def Sub (x y:AV):Prop:=∀(w:World) (S:Nat→Prop) (v:Value),Rd w S x v→Rd w S y v
inductive SubL:List AV→List AV→Prop
 |nil:SubL [] []
 |cons {x y:AV} {xs ys:List AV} (h:Sub x y) (hs:SubL xs ys):SubL (x::xs) (y::ys)
theorem Sub.refl (x:AV):Sub x x:=fun _ _ _ h=>h
theorem Sub.nil (sh:Sh):Sub (.val (.slice none 0 0)) (.arr sh []):=fun _ _ _ h=>by cases h;exact .nil sh none
theorem SubL.get {xs ys:List AV} (h:SubL xs ys):xs.length=ys.length∧∀i (h1:i<xs.length) (h2:i<ys.length),Sub xs[i] ys[i]:=by
 induction h with
 |nil=>exact ⟨rfl,fun i h1=>absurd h1 (q22 _)⟩
 |cons h hs ih=>
  refine ⟨by simp [ih.1],fun i h1 h2=> ?_⟩
  cases i with
  |zero=>exact h
  |succ i=>exact ih.2 i (by simpa using h1) (by simpa using h2)
theorem Fn.subs {P:Program} {f:FuncId} {args args':List AV} {own:Bool} {post:AV→Prop} (h:Fn P f args own post) (hs:SubL args' args):Fn P f args' own post:=
 ⟨h.1,fun w S vs h1 h0 h2 h3=>h.2 w S vs h1 h0 (h2.trans hs.get.1) fun i hi=>hs.get.2 i (by rw [hs.get.1];exact hi) hi _ _ _ (h3 i _)⟩
abbrev eNil:AV:=.val (.slice none 0 0)
end Go.Vc
