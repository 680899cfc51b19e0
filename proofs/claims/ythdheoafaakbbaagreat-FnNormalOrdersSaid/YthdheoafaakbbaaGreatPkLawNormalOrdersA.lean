import Derived.WalkKit
set_option linter.unusedVariables false
set_option linter.unusedSimpArgs false
set_option linter.unnecessarySimpa false
set_option maxRecDepth 1000000
set_option maxHeartbeats 16000000
open Array renaming length_toList→q0
open List renaming eq_nil_of_length_eq_zero→q1,flatten_append→q2,flatten_eq_nil_iff→q3,getD_eq_getElem?_getD→q4,getElem?_eq_getElem→q5,getElem?_eq_some_iff→q6,getElem_drop→q7,getElem_set→q8,getElem_take→q9,length_append→q10,length_drop→q11,length_set→q12,length_take→q13,mem_cons_of_mem→q14,mem_cons_self→q15,mem_singleton→q16,nodup_cons→q17,sublist_append_left→q18,take_append_drop→q19,take_zero→q20
open Nat renaming add_mul→q21,le_refl→q22,lt_irrefl→q23,lt_of_lt_of_le→q24,mul_le_mul_right→q25,mul_one→q26,not_lt_zero→q27,zero_add→q28
namespace Go.Vc
structure Sh where
 sz:Nat
 ag:Bool
inductive AV where
 |undef
 |val (v:Value)
 |e0
 |arr (sh:Sh) (xs:List AV)
 |agg (xs:List AV)
 |tup (xs:List AV)
 |ref (l ver i n:Nat)
 |ptr (l ver i j:Nat)
 |eptr (sh:Sh) (xs:List AV) (i j:Nat)
 |clo (f:FuncId) (caps:List AV)
def leaf:AV→Prop
 | .undef| .agg _| .tup _=>False
 |_=>True
def fits (sh:Sh):AV→Prop
 | .agg ys=>sh.ag=true∧ys.length=sh.sz
 | .undef| .tup _=>False
 |_=>sh.ag=false∧sh.sz=1
def elemV (cs:List Value) (o:Nat) (sh:Sh):Value:=
 if sh.ag then .agg ((cs.drop o).take sh.sz).toArray else cs.getD o Go.undef
inductive Rd (w:World) (S:Nat→Prop):AV→Value→Prop
 |undef (v:Value):Rd w S .undef v
 |val (v:Value) (h:v.oneCell'=true):Rd w S (.val v) v
 |e0 (a:Option Addr):Rd w S .e0 (.slice a 0 0)
 |nil (sh:Sh) (a:Option Addr):Rd w S (.arr sh []) (.slice a 0 0)
 |arr (sh:Sh) (xs:List AV) (b off cap:Nat) (cs:Array Value) (e:TypeId) (fr:Nat × Nat) (hS:S b) (hb:w.heap[b]? =some (.cells cs e fr)) (hcap:xs.length≤cap)
   (hl:off+xs.length*sh.sz≤cs.size) (hf:∀i (h:i<xs.length),fits sh xs[i])
   (hv:∀i (h:i<xs.length),Rd w S xs[i] (elemV cs.toList (off+i*sh.sz) sh)):Rd w S (.arr sh xs) (.slice (some ⟨b,off,none⟩) xs.length cap)
 |agg (xs:List AV) (cs:Array Value) (hl:cs.size=xs.length) (hf:∀i (h:i<xs.length),leaf xs[i])
   (hv:∀i (h:i<xs.length),Rd w S xs[i] (cs.toList.getD i Go.undef)):Rd w S (.agg xs) (.agg cs)
 |tup (xs:List AV) (cs:Array Value) (hl:cs.size=xs.length)
   (hv:∀i (h:i<xs.length),Rd w S xs[i] (cs.toList.getD i Go.undef)):Rd w S (.tup xs) (.tuple cs)
 |eptr (sh:Sh) (xs:List AV) (i j b off:Nat) (cs:Array Value) (e:TypeId) (fr:Nat × Nat) (hS:S b) (hb:w.heap[b]? =some (.cells cs e fr))
   (hl:off+xs.length*sh.sz≤cs.size) (hf:∀i (h:i<xs.length),fits sh xs[i])
   (hv:∀i (h:i<xs.length),Rd w S xs[i] (elemV cs.toList (off+i*sh.sz) sh)):Rd w S (.eptr sh xs i j) (.pointer (some ⟨b,off+i*sh.sz+j,none⟩))
 |clo (f:FuncId) (xs:List AV) (cs:Array Value) (hl:cs.size=xs.length)
   (hv:∀i (h:i<xs.length),Rd w S xs[i] (cs.toList.getD i Go.undef)):Rd w S (.clo f xs) (.func (.func f) #[] cs)
theorem Rd.mono {w w':World} {S S':Nat→Prop} (hw:∀b,S b→w'.heap[b]? =w.heap[b]?) (hS:∀b,S b→S' b) {x:AV} {v:Value} (h:Rd w S x v):Rd w' S' x v:=by
 induction h with
 |undef v=>exact .undef v
 |val v h=>exact .val v h
 |e0 a=>exact .e0 a
 |nil sh a=>exact .nil sh a
 |arr sh xs b off cap cs e fr hb hh hcap hl hf _ ih=>exact .arr sh xs b off cap cs e fr (hS b hb) ((hw b hb).trans hh) hcap hl hf ih
 |agg xs cs hl hf _ ih=>exact .agg xs cs hl hf ih
 |tup xs cs hl _ ih=>exact .tup xs cs hl ih
 |eptr sh xs i j b off cs e fr hb hh hl hf _ ih=>exact .eptr sh xs i j b off cs e fr (hS b hb) ((hw b hb).trans hh) hl hf ih
 |clo f xs cs hl _ ih=>exact .clo f xs cs hl ih
theorem Rd.leaf_oneCell {w:World} {S:Nat→Prop} {x:AV} {v:Value} (h:Rd w S x v) (hx:leaf x):v.oneCell'=true:=by
 cases h<;>first|rfl|assumption|exact hx.elim
abbrev El:=TypeId × Bool
def frOf (e:El) (n:Nat):Nat × Nat:=match e with
 |(_,true)=>(n,n+1)
 |(_,false)=>(0,0)
abbrev celO (cs:Array Value) (e:El):Obj:=.cells cs e.1 (frOf e cs.size)
theorem frOf_free (e:El) {n o:Nat} (h:o<n):(decide ((frOf e n).1≤o)&&decide (o<(frOf e n).2))=false:=by
 obtain ⟨e,b⟩:=e
 cases b
 · simp [frOf]
 · refine Bool.and_eq_false_iff.2 (.inl (decide_eq_false ?_))
   show ¬n≤o
   omega
theorem celO_cell {w:World} {b o:Nat} {cs:Array Value} {e:El} (hb:w.heap[b]? =some (celO cs e)):w.cell? ⟨b,o,none⟩=cs[o]? :=by simp [World.cell?,hb]
theorem celO_free {w:World} {b o:Nat} {cs:Array Value} {e:El} (hb:w.heap[b]? =some (celO cs e)) (h:o<cs.size):w.frozen? ⟨b,o,none⟩=false:=by
 simp only [World.frozen?,hb]
 exact frOf_free e h
inductive Own (w:World) (S:Nat→Prop):AV→Value→List Nat→Prop
 |rd (x:AV) (v:Value) (h:Rd w S x v):Own w S x v []
 |arr (sh:Sh) (xs:List AV) (b cap:Nat) (cs:Array Value) (e:El) (fss:List (List Nat)) (hb:w.heap[b]? =some (celO cs e))
   (hc:cs.size=cap*sh.sz) (hl:xs.length≤cap) (hm:cap≤maxLen) (hf:∀i (h:i<xs.length),fits sh xs[i]) (hs:fss.length=xs.length)
   (hv:∀i (h:i<xs.length),Own w S xs[i] (elemV cs.toList (i*sh.sz) sh) (fss.getD i [])):Own w S (.arr sh xs) (.slice (some ⟨b,0,none⟩) xs.length cap) (b::fss.flatten)
 |agg (xs:List AV) (cs:Array Value) (fss:List (List Nat)) (hl:cs.size=xs.length) (hf:∀i (h:i<xs.length),leaf xs[i]) (hs:fss.length=xs.length)
   (hv:∀i (h:i<xs.length),Own w S xs[i] (cs.toList.getD i Go.undef) (fss.getD i [])):Own w S (.agg xs) (.agg cs) fss.flatten
 |tup (xs:List AV) (cs:Array Value) (fss:List (List Nat)) (hl:cs.size=xs.length) (hs:fss.length=xs.length)
   (hv:∀i (h:i<xs.length),Own w S xs[i] (cs.toList.getD i Go.undef) (fss.getD i [])):Own w S (.tup xs) (.tuple cs) fss.flatten
theorem mem_flatten_getD {fss:List (List Nat)} {i b:Nat} (h:i<fss.length) (hb:b∈fss.getD i []):b∈fss.flatten:=by
 rw [List.mem_flatten]
 refine ⟨fss.getD i [],?_,hb⟩
 rw [q4,q5 h]
 exact List.getElem_mem h
theorem Own.mono {w w':World} {S S':Nat→Prop} (hw:∀b,S b→w'.heap[b]? =w.heap[b]?) (hS:∀b,S b→S' b) {x:AV} {v:Value} {fs:List Nat} (h:Own w S x v fs)
 (hfs:∀b,b∈fs→w'.heap[b]? =w.heap[b]?):Own w' S' x v fs:=by
 induction h with
 |rd x v h=>exact .rd x v (h.mono hw hS)
 |arr sh xs b cap cs e fss hb hc hl hm hf hs _ ih=>
  exact .arr sh xs b cap cs e fss ((hfs b (q15 ..)).trans hb) hc hl hm hf hs
   fun i h=>ih i h fun b' hb'=>hfs b' (q14 _ (mem_flatten_getD (hs▸h) hb'))
 |agg xs cs fss hl hf hs _ ih=>exact .agg xs cs fss hl hf hs fun i h=>ih i h fun b' hb'=>hfs b' (mem_flatten_getD (hs▸h) hb')
 |tup xs cs fss hl hs _ ih=>exact .tup xs cs fss hl hs fun i h=>ih i h fun b' hb'=>hfs b' (mem_flatten_getD (hs▸h) hb')
theorem Own.rd_of {w:World} {S S':Nat→Prop} (hS:∀b,S b→S' b) {x:AV} {v:Value} {fs:List Nat} (h:Own w S x v fs) (hfs:∀b,b∈fs→S' b):Rd w S' x v:=by
 induction h with
 |rd x v h=>exact h.mono (fun _ _=>rfl) hS
 |arr sh xs b cap cs e fss hb hc hl hm hf hs _ ih=>
  refine .arr sh xs b 0 cap cs e.1 (frOf e cs.size) (hfs b (q15 ..)) hb hl ?_ hf ?_
  · rw [hc,q28];exact q25 _ hl
  · intro i h
    rw [q28]
    exact ih i h fun b' hb'=>hfs b' (q14 _ (mem_flatten_getD (hs▸h) hb'))
 |agg xs cs fss hl hf hs _ ih=>exact .agg xs cs hl hf fun i h=>ih i h fun b' hb'=>hfs b' (mem_flatten_getD (hs▸h) hb')
 |tup xs cs fss hl hs _ ih=>exact .tup xs cs hl fun i h=>ih i h fun b' hb'=>hfs b' (mem_flatten_getD (hs▸h) hb')
theorem Own.leaf_oneCell {w:World} {S:Nat→Prop} {x:AV} {v:Value} {fs:List Nat} (h:Own w S x v fs) (hx:leaf x):v.oneCell'=true:=by
 cases h with
 |rd _ _ h=>exact h.leaf_oneCell hx
 |arr=>rfl
 |agg=>exact hx.elim
 |tup=>exact hx.elim
theorem Own.lt {w:World} {S:Nat→Prop} {x:AV} {v:Value} {fs:List Nat} (h:Own w S x v fs):∀b,b∈fs→b<w.heap.size:=by
 have key:∀(fss:List (List Nat)) (n:Nat),fss.length=n→(∀i,i<n→∀b,b∈fss.getD i []→b<w.heap.size)→∀b,b∈fss.flatten→b<w.heap.size:=by
  intro fss n hn hh b hb
  obtain ⟨l,hl,hbl⟩:=List.mem_flatten.1 hb
  obtain ⟨i,hi,rfl⟩:=List.getElem_of_mem hl
  refine hh i (hn▸hi) b ?_
  rw [q4,q5 hi];exact hbl
 induction h with
 |rd x v h=>intro b hb;cases hb
 |arr sh xs b cap cs e fss hb hc hl hm hf hs _ ih=>
  intro b' hb'
  rcases List.mem_cons.1 hb' with rfl|hb'
  · exact (Array.getElem?_eq_some_iff.1 hb).1
  · exact key fss xs.length hs ih b' hb'
 |agg xs cs fss hl hf hs _ ih=>exact key fss xs.length hs ih
 |tup xs cs fss hl hs _ ih=>exact key fss xs.length hs ih
structure SameOut (w w':World):Prop where
 os:w'.os=w.os
 tape:w'.tape=w.tape
 output:w'.output=w.output
theorem SameOut.refl (w:World):SameOut w w:=⟨rfl,rfl,rfl⟩
theorem SameOut.trans {a b c:World} (h:SameOut a b) (h':SameOut b c):SameOut a c:=⟨h'.os.trans h.os,h'.tape.trans h.tape,h'.output.trans h.output⟩
def Szs (w w':World):Prop:=∀(b:Nat) (cs:Array Value) (e:El),w.heap[b]? =some (celO cs e)→∃(cs':Array Value) (e':El),w'.heap[b]? =some (celO cs' e')∧cs'.size=cs.size
theorem Szs.refl (w:World):Szs w w:=fun _ cs e h=>⟨cs,e,h,rfl⟩
theorem Szs.trans {a b c:World} (h:Szs a b) (h':Szs b c):Szs a c:=fun x cs e hx=>by
 obtain ⟨cs',e',h1,h2⟩:=h x cs e hx
 obtain ⟨cs2,e2,h3,h4⟩:=h' x cs' e' h1
 exact ⟨cs2,e2,h3,h4.trans h2⟩
theorem Szs.of_same {w w':World} (h:∀b:Nat,b<w.heap.size→w'.heap[b]? =w.heap[b]?):Szs w w':=fun b cs e hb=>
 ⟨cs,e,(h b (Array.getElem?_eq_some_iff.1 hb).1).trans hb,rfl⟩
structure Grown (w w':World):Prop where
 size:w.heap.size≤w'.heap.size
 same:∀b,b<w.heap.size→w'.heap[b]? =w.heap[b]?
 out:SameOut w w'
theorem Grown.refl (w:World):Grown w w:=⟨q22 _,fun _ _=>rfl,SameOut.refl w⟩
def kons:List (Nat × (Array Value→Prop)):=[]
def Kon (w:World) (S:Nat→Prop):Prop:=∀g p,(g,p)∈kons→S g∧∃cs e fr,w.heap[g]? =some (.cells cs e fr)∧p cs
theorem Kon.mono {w w':World} {S S':Nat→Prop} (h:Kon w S) (hw:∀b,S b→w'.heap[b]? =w.heap[b]?) (hS:∀b,S b→S' b):Kon w' S':=fun g p hg=>by
 obtain ⟨h1,cs,e,fr,h2,h3⟩:=h g p hg
 exact ⟨hS g h1,cs,e,fr,(hw g h1).trans h2,h3⟩
theorem Kon.of_nil (hk:kons=[]) (w:World) (S:Nat→Prop):Kon w S:=fun g p hg=>by rw [hk] at hg;cases hg
end Go.Vc
namespace Go.Vc
inductive Blk where
 |gone (ver:Nat)
 |box (ver:Nat) (xs:List AV)
 |row (ver:Nat) (sh:Sh) (deep:Bool) (xs:List AV)
 |lent (ver:Nat) (xs:List AV) (i:Nat) (u:Value)
 |sub (ver:Nat) (sh:Sh) (xs:List AV) (u:Value)
def Blk.ver:Blk→Nat
 | .gone v=>v
 | .box v _=>v
 | .row v _ _ _=>v
 | .lent v _ _ _=>v
 | .sub v _ _ _=>v
abbrev Env:=List (Nat × AV)
abbrev Mem:=List (Nat × Blk)
def look:Env→Nat→AV
 | [],_=>.undef
 |(k,v)::r,t=>if k=t then v else look r t
def lookB:Mem→Nat→Option Blk
 | [],_=>none
 |(k,v)::r,t=>if k=t then some v else lookB r t
theorem look_nil (t:Nat):look [] t= .undef:=rfl
theorem look_cons (k:Nat) (v:AV) (r:Env) (t:Nat):look ((k,v)::r) t=if k=t then v else look r t:=rfl
theorem lookB_nil (t:Nat):lookB [] t=none:=rfl
theorem lookB_cons (k:Nat) (v:Blk) (r:Mem) (t:Nat):lookB ((k,v)::r) t=if k=t then some v else lookB r t:=rfl
mutual
def labs:AV→List (Nat × Nat)
 | .ref l ver _ _=>[(l,ver)]
 | .ptr l ver _ _=>[(l,ver)]
 | .agg xs=>labsL xs
 | .tup xs=>labsL xs
 | .clo _ xs=>labsL xs
 |_=>[]
def labsL:List AV→List (Nat × Nat)
 | []=>[]
 |x::r=>labs x++labsL r
end
theorem mem_labsL {xs:List AV} {l:Nat × Nat} {i:Nat} (h:i<xs.length) (hl:l∈labs xs[i]):l∈labsL xs:=by
 induction xs generalizing i with
 |nil=>exact absurd h (q27 _)
 |cons x r ih=>
  simp only [labsL,List.mem_append]
  cases i with
  |zero=>exact .inl hl
  |succ i=>exact .inr (ih (i:=i) (by simpa using h) (by simpa using hl))
theorem of_mem_labsL {xs:List AV} {l:Nat × Nat} (hl:l∈labsL xs):∃i,∃h:i<xs.length,l∈labs xs[i]:=by
 induction xs with
 |nil=>exact absurd hl List.not_mem_nil
 |cons x r ih=>
  simp only [labsL,List.mem_append] at hl
  rcases hl with hl|hl
  · exact ⟨0,by simp,hl⟩
  · obtain ⟨i,hi,h⟩:=ih hl
    exact ⟨i+1,by simpa using hi,by simpa using h⟩
inductive LS where
 |dead
 |nil (ver:Nat)
 |at (b:Nat) (sh:Sh) (ver:Nat)
inductive RV (w:World) (S:Nat→Prop) (φ:Nat→LS):AV→Value→Prop
 |rd (x:AV) (v:Value) (h:Rd w S x v):RV w S φ x v
 |agg (xs:List AV) (cs:Array Value) (hl:cs.size=xs.length) (hf:∀i (h:i<xs.length),leaf xs[i])
   (hv:∀i (h:i<xs.length),RV w S φ xs[i] (cs.toList.getD i Go.undef)):RV w S φ (.agg xs) (.agg cs)
 |tup (xs:List AV) (cs:Array Value) (hl:cs.size=xs.length)
   (hv:∀i (h:i<xs.length),RV w S φ xs[i] (cs.toList.getD i Go.undef)):RV w S φ (.tup xs) (.tuple cs)
 |clo (f:FuncId) (xs:List AV) (cs:Array Value) (hl:cs.size=xs.length)
   (hv:∀i (h:i<xs.length),RV w S φ xs[i] (cs.toList.getD i Go.undef)):RV w S φ (.clo f xs) (.func (.func f) #[] cs)
 |ref (l ver i n:Nat) (v:Value)
   (h1:∀b sh,φ l= .at b sh ver→∃a cap,v= .slice a n cap∧n≤cap∧(cap=0∨(a=some ⟨b,i*sh.sz,none⟩∧∃cs e,w.heap[b]? =some (celO cs e)∧cs.size=(i+cap)*sh.sz)))
   (h2:φ l= .nil ver→n=0∧∃a,v= .slice a 0 0) (h3:v.oneCell'=true):RV w S φ (.ref l ver i n) v
 |ptr (l ver i j:Nat) (v:Value) (h1:∀b sh,φ l= .at b sh ver→v= .pointer (some ⟨b,i*sh.sz+j,none⟩)) (h2:φ l≠ .nil ver) (h3:v.oneCell'=true):RV w S φ (.ptr l ver i j) v
theorem RV.leaf_oneCell {w:World} {S:Nat→Prop} {φ:Nat→LS} {x:AV} {v:Value} (h:RV w S φ x v) (hx:leaf x):v.oneCell'=true:=by
 cases h with
 |rd _ _ h=>exact h.leaf_oneCell hx
 |agg=>exact hx.elim
 |tup=>exact hx.elim
 |clo=>rfl
 |ref _ _ _ _ _ _ _ h=>exact h
 |ptr _ _ _ _ _ _ _ h=>exact h
def Sized (φ:Nat→LS) (w w':World):Prop:=
 ∀l b sh ver cs e,φ l= .at b sh ver→w.heap[b]? =some (celO cs e)→∃cs' e',w'.heap[b]? =some (celO cs' e')∧cs'.size=cs.size
def LS.le (x' x:LS) (ver:Nat):Prop:=(∀b sh,x'= .at b sh ver→x= .at b sh ver)∧(x'= .nil ver→x= .nil ver)
theorem LS.le_refl (x:LS) (ver:Nat):LS.le x x ver:=⟨fun _ _ h=>h,fun h=>h⟩
theorem LS.le_trans {x y z:LS} {ver:Nat} (h:LS.le x y ver) (h':LS.le y z ver):LS.le x z ver:=⟨fun b sh e=>h'.1 b sh (h.1 b sh e),fun e=>h'.2 (h.2 e)⟩
theorem LS.le_dead (x:LS) (ver:Nat):LS.le .dead x ver:=⟨fun _ _ h=>(by cases h),fun h=>(by cases h)⟩
theorem LS.le_newer (x:LS) (b:Nat) (sh:Sh) (v ver:Nat) (h:ver<v):LS.le (.at b sh v) x ver:=
 ⟨fun _ _ h'=>(by cases h';exact absurd h (q23 _)),fun h=>(by cases h)⟩
theorem RV.mono {w w':World} {S S':Nat→Prop} {φ φ':Nat→LS} (hw:∀b,S b→w'.heap[b]? =w.heap[b]?) (hS:∀b,S b→S' b) (hz:Sized φ w w')
 {x:AV} {v:Value} (h:RV w S φ x v) (hφ:∀l ver,(l,ver)∈labs x→LS.le (φ' l) (φ l) ver):RV w' S' φ' x v:=by
 induction h with
 |rd x v h=>exact .rd x v (h.mono hw hS)
 |agg xs cs hl hf _ ih=>exact .agg xs cs hl hf fun i h=>ih i h fun l ver hl=>hφ l ver (by simp only [labs];exact mem_labsL h hl)
 |tup xs cs hl _ ih=>exact .tup xs cs hl fun i h=>ih i h fun l ver hl=>hφ l ver (by simp only [labs];exact mem_labsL h hl)
 |clo f xs cs hl _ ih=>exact .clo f xs cs hl fun i h=>ih i h fun l ver hl=>hφ l ver (by simp only [labs];exact mem_labsL h hl)
 |ref l ver i n v h1 h2 h3=>
  have hp:=hφ l ver (by simp [labs])
  refine .ref l ver i n v ?_ (fun h=>h2 (hp.2 h)) h3
  intro b sh hb
  obtain ⟨a,cap,hv,hn,hc⟩:=h1 b sh (hp.1 _ _ hb)
  refine ⟨a,cap,hv,hn,hc.imp id ?_⟩
  rintro ⟨ha,cs,e,hh,hs⟩
  obtain ⟨cs',e',hh',hs'⟩:=hz l b sh ver cs e (hp.1 _ _ hb) hh
  exact ⟨ha,cs',e',hh',hs'.trans hs⟩
 |ptr l ver i j v h1 h2 h3=>
  have hp:=hφ l ver (by simp [labs])
  exact .ptr l ver i j v (fun b sh h=>h1 b sh (hp.1 _ _ h)) (fun h=>h2 (hp.2 h)) h3
def BR (w:World) (S:Nat→Prop) (φ:Nat→LS) (l:Nat) (fs:List Nat):Blk→Prop
 | .gone _=>φ l= .dead∧fs=[]
 | .row ver sh deep xs=>(φ l= .nil ver∧xs=[]∧fs=[])∨
    ∃b cap,φ l= .at b sh ver∧b∈fs∧(deep=false→fs=[b])∧Own w (if deep then fun _=>False else S) (.arr sh xs) (.slice (some ⟨b,0,none⟩) xs.length cap) fs
 | .box ver xs=>∃b cs e sh,φ l= .at b sh ver∧fs=[b]∧w.heap[b]? =some (celO cs e)∧xs.length≤cs.size∧(∀i (h:i<xs.length),leaf xs[i])∧
    ∀i (h:i<xs.length),RV w S φ xs[i] (cs.toList.getD i Go.undef)
 | .lent ver xs i u=>∃b cap cs e fr,φ l= .at b ⟨1,false⟩ ver∧b∈fs∧Own w (fun _=>False) (.arr ⟨1,false⟩ xs) (.slice (some ⟨b,0,none⟩) xs.length cap) fs∧
    w.heap[b]? =some (.cells cs e fr)∧i<xs.length∧cs.toList.getD i Go.undef=u
 | .sub ver sh xs u=>∃b cap,φ l= .at b sh ver∧b∈fs∧u= .slice (some ⟨b,0,none⟩) xs.length cap∧Own w (fun _=>False) (.arr sh xs) u fs
theorem BR.mono {w w':World} {S S':Nat→Prop} {φ φ':Nat→LS} {l:Nat} {fs:List Nat} {k:Blk} (hw:∀b,S b→w'.heap[b]? =w.heap[b]?) (hS:∀b,S b→S' b)
 (hz:Sized φ w w') (h:BR w S φ l fs k) (hfs:∀b,b∈fs→w'.heap[b]? =w.heap[b]?) (hl:φ' l=φ l)
 (hφ:∀v xs,k= .box v xs→∀l ver,(l,ver)∈labsL xs→LS.le (φ' l) (φ l) ver):BR w' S' φ' l fs k:=by
 cases k with
 |gone=>exact ⟨hl.trans h.1,h.2⟩
 |row ver sh deep xs=>
  rcases h with ⟨h1,h2,h3⟩|⟨b,cap,h1,h2,h4,h3⟩
  · exact .inl ⟨hl.trans h1,h2,h3⟩
  · refine .inr ⟨b,cap,hl.trans h1,h2,h4,?_⟩
    cases deep with
    |true=>exact h3.mono (fun _ h=>False.elim h) (fun _ h=>h) hfs
    |false=>exact h3.mono hw hS hfs
 |box ver xs=>
  obtain ⟨b,cs,e,sh,h1,h2,h3,h4,h5,h6⟩:=h
  refine ⟨b,cs,e,sh,hl.trans h1,h2,(hfs b (by simp [h2])).trans h3,h4,h5,fun i hi=> ?_⟩
  exact (h6 i hi).mono hw hS hz fun l' ver' hl'=>hφ ver xs rfl l' ver' (mem_labsL hi hl')
 |lent ver xs i u=>
  obtain ⟨b,cap,cs,e,fr,h1,h2,h3,h4,h5,h6⟩:=h
  exact ⟨b,cap,cs,e,fr,hl.trans h1,h2,h3.mono (fun _ h=>False.elim h) (fun _ h=>h) hfs,(hfs b h2).trans h4,h5,h6⟩
 |sub ver sh xs u=>
  obtain ⟨b,cap,h1,h2,h3,h4⟩:=h
  exact ⟨b,cap,hl.trans h1,h2,h3,h4.mono (fun _ h=>False.elim h) (fun _ h=>h) hfs⟩
structure Base where
 w0:World
 io:Nat→Nat→Prop
 ro:Nat→Prop
 φ0:Nat→LS
 m0:Mem
def ioL:Nat:=1000000000
def known (m:Mem) (l ver:Nat):Prop:=∃k,lookB m l=some k∧ver≤k.ver
structure RS (B:Base) (N:Nat) (φ:Nat→LS) (fp:Nat→List Nat) (S:Nat→Prop) (ts:Env) (m:Mem) (a:Act) (w:World):Prop where
 tm:∀t,RV w S φ (look ts t) (a.tmps.getD t Go.undef)
 tl:∀t l ver,(l,ver)∈labs (look ts t)→known m l ver
 mNone:∀l,lookB m l=none→φ l= .dead∧fp l=[]
 mSome:∀l k,lookB m l=some k→BR w S φ l (fp l) k
 bl:∀l v xs,lookB m l=some (.box v xs)→∀l' ver,(l',ver)∈labsL xs→known m l' ver
 nod:∀l,(fp l).Nodup
 dis:∀l l' b,b∈fp l→b∈fp l'→l=l'
 notS:∀l b,b∈fp l→¬S b
 fpB:∀l b,b∈fp l→b<w.heap.size∧(B.w0.heap.size≤b∨(∃l',B.io l' b∧ioL≤l∧(l'=l∨lookB B.m0 l=none)))
 sB:∀b,S b→b<w.heap.size∧(B.w0.heap.size≤b∨B.ro b)
 base:∀b,b<B.w0.heap.size→(∀l,¬B.io l b)→w.heap[b]? =B.w0.heap[b]?
 out:SameOut B.w0 w
 szs:Szs B.w0 w
 kn:∀l ver,ioL≤l→known B.m0 l ver→known m l ver
 fix:∀l ver,ioL≤l→known B.m0 l ver→LS.le (φ l) (B.φ0 l) ver
 size:B.w0.heap.size≤w.heap.size
 defers:a.defers=[]
 tsz:a.tmps.size=N
 kon:Kon w S
section
variable {B:Base} {N:Nat} {φ:Nat→LS} {fp:Nat→List Nat} {S:Nat→Prop} {ts:Env} {m:Mem} {a:Act} {w:World}
theorem RS.lookB_ne (h:RS B N φ fp S ts m a w) {l b:Nat} {sh:Sh} {ver:Nat} (hl:φ l= .at b sh ver):∃k,lookB m l=some k∧k.ver=ver:=by
 cases hk:lookB m l with
 |none=>have:=(h.mNone l hk).1;rw [hl] at this;cases this
 |some k=>
  refine ⟨k,rfl,?_⟩
  have hb:=h.mSome l k hk
  cases k with
  |gone=>have:=hb.1;rw [hl] at this;cases this
  |row ver' sh' deep xs=>
   rcases hb with ⟨h1,_,_⟩|⟨b',cap,h1,h2,_⟩
   · rw [hl] at h1;cases h1
   · rw [hl] at h1;cases h1;rfl
  |box ver' xs=>
   obtain ⟨b',cs,e,sh',h1,h2,_⟩:=hb
   rw [hl] at h1;cases h1;rfl
  |lent ver' xs i u=>
   obtain ⟨b',cap,cs,e,fr,h1,h2,_⟩:=hb
   rw [hl] at h1;cases h1;rfl
  |sub ver' sh' xs u=>
   obtain ⟨b',cap,h1,h2,_⟩:=hb
   rw [hl] at h1;cases h1;rfl
theorem RS.at_mem (h:RS B N φ fp S ts m a w) {l b:Nat} {sh:Sh} {ver:Nat} (hl:φ l= .at b sh ver):b∈fp l:=by
 obtain ⟨k,hk,_⟩:=h.lookB_ne hl
 have hb:=h.mSome l k hk
 cases k with
 |gone=>have:=hb.1;rw [hl] at this;cases this
 |row ver' sh' deep xs=>
  rcases hb with ⟨h1,_,_⟩|⟨b',cap,h1,h2,_⟩
  · rw [hl] at h1;cases h1
  · rw [hl] at h1;cases h1;exact h2
 |box ver' xs=>
  obtain ⟨b',cs,e,sh',h1,h2,_⟩:=hb
  rw [hl] at h1;cases h1;rw [h2];simp
 |lent ver' xs i u=>
  obtain ⟨b',cap,cs,e,fr,h1,h2,_⟩:=hb
  rw [hl] at h1;cases h1;exact h2
 |sub ver' sh' xs u=>
  obtain ⟨b',cap,h1,h2,_⟩:=hb
  rw [hl] at h1;cases h1;exact h2
end
theorem getD_setIfInBounds_same {α:Type} (xs:Array α) (d:Nat) (v u:α) (h:d<xs.size):(xs.setIfInBounds d v).getD d u=v:=by
 simp [Array.getD_eq_getD_getElem?,h]
theorem getD_setIfInBounds_other {α:Type} (xs:Array α) (d t:Nat) (v u:α) (h:d≠t):(xs.setIfInBounds d v).getD t u=xs.getD t u:=by
 simp [Array.getD_eq_getD_getElem?,h]
theorem RS.put {B:Base} {N:Nat} {φ:Nat→LS} {fp:Nat→List Nat} {S:Nat→Prop} {ts:Env} {m:Mem} {a:Act} {w:World}
 (h:RS B N φ fp S ts m a w) (d:Nat) (x:AV) (v:Value) (hd:d<N) (hx:RV w S φ x v) (hl:∀l ver,(l,ver)∈labs x→known m l ver):
 RS B N φ fp S ((d,x)::ts) m (a.put (some d) v) w:=by
 refine {h with tm:= ?_,tl:= ?_,defers:=h.defers,tsz:=by simp [Act.put,h.tsz]}
 · intro t
   rw [look_cons]
   split
   · rename_i e;subst e
     simp only [Act.put]
     rw [getD_setIfInBounds_same _ _ _ _ (by rw [h.tsz];exact hd)]
     exact hx
   · rename_i e
     simp only [Act.put]
     rw [getD_setIfInBounds_other _ _ _ _ _ e]
     exact h.tm t
 · intro t l ver hl'
   rw [look_cons] at hl'
   split at hl'
   · exact hl l ver hl'
   · exact h.tl t l ver hl'
end Go.Vc
namespace Go.Vc
theorem old (w:World) (o:Obj) (b:Nat) (h:b<w.heap.size):(w.alloc o).heap[b]? =w.heap[b]? :=by
 simp only [World.alloc,Array.getElem?_push];rw [if_neg (Nat.ne_of_lt h)]
theorem new_at (w:World) (o:Obj):(w.alloc o).heap[w.heap.size]? =some o:=by
 simp only [World.alloc,Array.getElem?_push,if_true]
def upd {α:Type} (f:Nat→α) (l:Nat) (x:α):Nat→α:=fun k=>if k=l then x else f k
theorem upd_same {α:Type} (f:Nat→α) (l:Nat) (x:α):upd f l x l=x:=by simp [upd]
theorem upd_other {α:Type} (f:Nat→α) (l k:Nat) (x:α) (h:k≠l):upd f l x k=f k:=by simp [upd,h]
def newVer (m:Mem) (l:Nat):Nat:=match lookB m l with|none=>0|some k=>k.ver+1
section
variable {B:Base} {N:Nat} {φ:Nat→LS} {fp:Nat→List Nat} {S:Nat→Prop} {ts:Env} {m:Mem} {a:Act} {w:World}
theorem known_lt {l ver:Nat} (h:known m l ver):ver<newVer m l:=by
 obtain ⟨k,hk,hv⟩:=h
 simp only [newVer,hk];omega
theorem RS.next (h:RS B N φ fp S ts m a w) {w':World} (l:Nat) (x:LS) (fs:List Nat) (S':Nat→Prop) (k:Blk)
 (hsize:w.heap.size≤w'.heap.size) (hout:SameOut w w') (hszs:Szs w w') (hK:∀b,b<B.w0.heap.size→(∀l,¬B.io l b)→w'.heap[b]? =w.heap[b]?)
 (hS:∀b,S b→S' b∧w'.heap[b]? =w.heap[b]?)
 (hS':∀b,S' b→¬S b→b<w'.heap.size∧(B.w0.heap.size≤b∨B.ro b)∧∀l',l'≠l→b∉fp l')
 (hz:Sized φ w w')
 (hfp:∀l',l'≠l→∀b,b∈fp l'→w'.heap[b]? =w.heap[b]?)
 (hle:∀ver,known m l ver→LS.le x (φ l) ver)
 (hver:∀ver,known m l ver→ver≤k.ver)
 (hbr:BR w' S' (upd φ l x) l fs k)
 (hbl:∀v xs,k= .box v xs→∀l' ver,(l',ver)∈labsL xs→known ((l,k)::m) l' ver)
 (hnod:fs.Nodup) (hdis:∀b,b∈fs→¬S' b∧(∀l',l'≠l→b∉fp l')∧b<w'.heap.size∧(B.w0.heap.size≤b∨(∃l',B.io l' b∧ioL≤l∧(l'=l∨lookB B.m0 l=none)))):
 RS B N (upd φ l x) (upd fp l fs) S' ts ((l,k)::m) a w':=by
 have hknown:∀l' ver,known m l' ver→known ((l,k)::m) l' ver:=by
  intro l' ver hk
  by_cases e:l=l'
  · subst e;exact ⟨k,by simp [lookB_cons],hver ver hk⟩
  · obtain ⟨k',h1,h2⟩:=hk
    exact ⟨k',by simp [lookB_cons,e,h1],h2⟩
 have hall:∀l' ver,known m l' ver→LS.le (upd φ l x l') (φ l') ver:=by
  intro l' ver hk
  by_cases e:l'=l
  · subst e;rw [upd_same];exact hle ver hk
  · rw [upd_other _ _ _ _ e];exact LS.le_refl _ _
 refine ⟨?_,?_,?_,?_,?_,?_,?_,?_,?_,?_,fun b hb hio=>(hK b hb hio).trans (h.base b hb hio),h.out.trans hout,h.szs.trans hszs,fun l' ver hl hk=>hknown l' ver (h.kn l' ver hl hk),
  fun l2 ver hl hk=>LS.le_trans (hall l2 ver (h.kn l2 ver hl hk)) (h.fix l2 ver hl hk),Nat.le_trans h.size hsize,h.defers,h.tsz,h.kon.mono (fun b hb=>(hS b hb).2) fun b hb=>(hS b hb).1⟩
 · exact fun t=>(h.tm t).mono (fun b hb=>(hS b hb).2) (fun b hb=>(hS b hb).1) hz fun l' ver hl=>hall l' ver (h.tl t l' ver hl)
 · exact fun t l' ver hl=>hknown l' ver (h.tl t l' ver hl)
 · intro l' hl'
   rw [lookB_cons] at hl'
   split at hl'
   · cases hl'
   · rename_i e
     rw [upd_other _ _ _ _ (Ne.symm e),upd_other _ _ _ _ (Ne.symm e)]
     exact h.mNone l' hl'
 · intro l' k' hl'
   rw [lookB_cons] at hl'
   split at hl'
   · rename_i e;subst e;cases hl';rw [upd_same];exact hbr
   · rename_i e
     rw [upd_other _ _ _ _ (Ne.symm e)]
     refine (h.mSome l' k' hl').mono (fun b hb=>(hS b hb).2) (fun b hb=>(hS b hb).1) hz (hfp l' (Ne.symm e)) (upd_other _ _ _ _ (Ne.symm e)) ?_
     intro v xs hk l2 ver hl2
     subst hk
     exact hall l2 ver (h.bl l' v xs hl' l2 ver hl2)
 · intro l' v xs hl' l2 ver hl2
   rw [lookB_cons] at hl'
   split at hl'
   · cases hl';exact hbl v xs rfl l2 ver hl2
   · exact hknown l2 ver (h.bl l' v xs hl' l2 ver hl2)
 · intro l'
   by_cases e:l'=l
   · subst e;rw [upd_same];exact hnod
   · rw [upd_other _ _ _ _ e];exact h.nod l'
 · intro l1 l2 b h1 h2
   by_cases e1:l1=l
   · by_cases e2:l2=l
     · rw [e1,e2]
     · subst e1
       rw [upd_same] at h1;rw [upd_other _ _ _ _ e2] at h2
       exact absurd h2 ((hdis b h1).2.1 l2 e2)
   · rw [upd_other _ _ _ _ e1] at h1
     by_cases e2:l2=l
     · subst e2;rw [upd_same] at h2
       exact absurd h1 ((hdis b h2).2.1 l1 e1)
     · rw [upd_other _ _ _ _ e2] at h2
       exact h.dis l1 l2 b h1 h2
 · intro l' b hb
   by_cases e:l'=l
   · subst e;rw [upd_same] at hb;exact (hdis b hb).1
   · rw [upd_other _ _ _ _ e] at hb
     intro hs'
     by_cases hs:S b
     · exact h.notS l' b hb hs
     · exact (hS' b hs' hs).2.2 l' e hb
 · intro l' b hb
   by_cases e:l'=l
   · subst e;rw [upd_same] at hb;exact ⟨(hdis b hb).2.2.1,(hdis b hb).2.2.2⟩
   · rw [upd_other _ _ _ _ e] at hb
     have:=h.fpB l' b hb
     exact ⟨q24 this.1 hsize,this.2⟩
 · intro b hb
   by_cases hs:S b
   · have:=h.sB b hs
     exact ⟨q24 this.1 hsize,this.2⟩
   · exact ⟨(hS' b hb hs).1,(hS' b hb hs).2.1⟩
theorem RS.sameHeap (h:RS B N φ fp S ts m a w) {w':World} (hh:w'.heap=w.heap) (ho:SameOut w w'):RS B N φ fp S ts m a w':=by
 have hz:Sized φ w w':=fun l b sh ver cs e _ hb=>⟨cs,e,by rw [hh];exact hb,rfl⟩
 have hs:∀b:Nat,w'.heap[b]? =w.heap[b]? :=fun b=>by rw [hh]
 exact {h with
  tm:=fun t=>(h.tm t).mono (fun b _=>hs b) (fun _ h=>h) hz fun l ver _=>LS.le_refl _ _
  mSome:=fun l k hk=>(h.mSome l k hk).mono (fun b _=>hs b) (fun _ h=>h) hz (fun b _=>hs b) rfl fun _ _ _ _ _ _=>LS.le_refl _ _
  fpB:=fun l b hb=>by rw [hh];exact h.fpB l b hb
  sB:=fun b hb=>by rw [hh];exact h.sB b hb
  base:=fun b hb hio=>by rw [hs];exact h.base b hb hio
  out:=h.out.trans ho
  szs:=h.szs.trans (Szs.of_same fun b _=>hs b)
  kon:=h.kon.mono (fun b _=>hs b) fun _ h=>h
  size:=by rw [hh];exact h.size}
theorem Sized.alloc (h:RS B N φ fp S ts m a w) (o:Obj):Sized φ w (w.alloc o):=by
 intro l b sh ver cs e hl hb
 have hlt:=(h.fpB l b (h.at_mem hl)).1
 exact ⟨cs,e,by rw [old w o b hlt];exact hb,rfl⟩
theorem RS.alloc (h:RS B N φ fp S ts m a w) (l:Nat) (sh:Sh) (k:Blk) (cs:Array Value) (e:TypeId)
 (hk:k.ver=newVer m l)
 (hbr:BR (w.alloc (.cells cs e)) S (upd φ l (.at w.heap.size sh (newVer m l))) l [w.heap.size] k)
 (hbl:∀v xs,k= .box v xs→∀l' ver,(l',ver)∈labsL xs→known m l' ver):
 RS B N (upd φ l (.at w.heap.size sh (newVer m l))) (upd fp l [w.heap.size]) S ts ((l,k)::m) a (w.alloc (.cells cs e)):=by
 have hlt:∀b,S b→b<w.heap.size:=fun b hb=>(h.sB b hb).1
 refine h.next l _ [w.heap.size] S k (by simp) ⟨rfl,rfl,rfl⟩ (Szs.of_same fun b hb=>old w _ b hb) (fun b hb _=>old w _ b (q24 hb h.size)) (fun b hb=>⟨hb,old w _ b (hlt b hb)⟩) (fun b h1 h2=>absurd h1 h2) (Sized.alloc h _)
  (fun l' _ b hb=>old w _ b (h.fpB l' b hb).1) (fun ver hv=>LS.le_newer _ _ _ _ _ (known_lt hv)) (fun ver hv=>by rw [hk];exact Nat.le_of_lt (known_lt hv)) hbr ?_ (by simp) ?_
 · intro v xs hkx l' ver hl'
   have:=hbl v xs hkx l' ver hl'
   by_cases e:l=l'
   · subst e;exact ⟨k,by simp [lookB_cons],by rw [hk];exact Nat.le_of_lt (known_lt this)⟩
   · obtain ⟨k',h1,h2⟩:=this
     exact ⟨k',by simp [lookB_cons,e,h1],h2⟩
 · intro b hb
   have hb':b=w.heap.size:=by simpa using hb
   subst hb'
   refine ⟨fun hs=>q23 _ (hlt _ hs),fun l' _ hb=>q23 _ (h.fpB l' _ hb).1,by simp,.inl h.size⟩
theorem RV.alloc (h:RS B N φ fp S ts m a w) (l:Nat) (sh:Sh) (o:Obj) {x:AV} {v:Value} (hx:RV w S φ x v) (hl:∀l' ver,(l',ver)∈labs x→known m l' ver):
 RV (w.alloc o) S (upd φ l (.at w.heap.size sh (newVer m l))) x v:=by
 refine hx.mono (fun b hb=>old w _ b (h.sB b hb).1) (fun _ h=>h) (Sized.alloc h o) fun l' ver hl'=> ?_
 by_cases e:l'=l
 · subst e;rw [upd_same];exact LS.le_newer _ _ _ _ _ (known_lt (hl l' ver hl'))
 · rw [upd_other _ _ _ _ e];exact LS.le_refl _ _
theorem RS.give (h:RS B N φ fp S ts m a w) (l:Nat) (k:Blk) (hk:lookB m l=some k) (S':Nat→Prop) (hS:∀b,S b→S' b)
 (hS':∀b,S' b→¬S b→b∈fp l∧l<ioL):RS B N (upd φ l .dead) (upd fp l []) S' ts ((l,.gone k.ver)::m) a w:=by
 refine h.next l .dead [] S' (.gone k.ver) (q22 _) (SameOut.refl _) (Szs.refl _) (fun _ _ _=>rfl) (fun b hb=>⟨hS b hb,rfl⟩) ?_ (fun l b sh ver cs e _ hb=>⟨cs,e,hb,rfl⟩) (fun _ _ _ _=>rfl)
  (fun ver _=>LS.le_dead _ _) ?_ ⟨upd_same _ _ _,rfl⟩ (fun v xs hk=>by cases hk) (by simp) (by simp)
 · intro b h1 h2
   obtain ⟨h3,h4⟩:=hS' b h1 h2
   have:=h.fpB l b h3
   refine ⟨this.1,.inl (this.2.resolve_right fun h=>q23 _ (q24 h4 h.choose_spec.2.1)),fun l' hl' hb=>hl' (h.dis l' l b hb h3)⟩
 · rintro ver ⟨k',h1,h2⟩
   rw [hk] at h1;cases h1;exact h2
end
end Go.Vc
namespace Go.Vc
inductive TK where
 |int (k:IntKind)
 |bool
 |string
 |slice
 |struct
 |iface
 |other
structure TI where
 agg:Bool
 size:Nat
 bytes:Nat
 zero:AV
 fields:List (Nat × Nat × Bool)
 elem:Nat
 kind:TK
def TI.sh (t:TI):Sh:=⟨t.size,t.agg⟩
theorem TI.sh_eq (a:Bool) (s b:Nat) (z:AV) (f:List (Nat × Nat × Bool)) (e:Nat) (k:TK):TI.sh ⟨a,s,b,z,f,e,k⟩=⟨s,a⟩:=rfl
def cAV:Value→AV
 | .agg cs=>if cs.toList.all Value.oneCell' then .agg (cs.toList.map .val) else .undef
 | .tuple _=>.undef
 |v=>.val v
theorem cAV_int (k:IntKind) (n:Int):cAV (.int k n)= .val (.int k n):=rfl
theorem cAV_bool (b:Bool):cAV (.bool b)= .val (.bool b):=rfl
theorem cAV_slice (a:Option Addr) (n c:Nat):cAV (.slice a n c)= .val (.slice a n c):=rfl
theorem cAV_pointer (a:Option Addr):cAV (.pointer a)= .val (.pointer a):=rfl
def aggOf (P:Program) (t:TypeId):Bool:=match P.underlying t with|some (.struct _)|some (.array _ _)=>true|_=>false
def sizeOf' (P:Program) (t:TypeId):Nat:=match P.info? t with|some i=>i.size|none=>0
def fieldsOkB (P:Program) (d:TypeDesc):Bool:=match d with| .struct fs=>fs.toList.all fun f=>(P.info? f.type).isSome&&(P.underlying f.type).isSome|_=>true
def tiOf (P:Program) (t:TypeId):Option TI:=
 match P.info? t,P.underlying t with
 |some i,some d=>
  match i.zero with
  |some z=>if fieldsOkB P d=false then none else some {
    agg:=aggOf P t,size:=i.size,bytes:=i.bytes,zero:=cAV z,
    fields:=(match d with| .struct fs=>fs.toList.map fun f=>(f.offset,sizeOf' P f.type,aggOf P f.type)|_=>[]),
    elem:=(match d with| .slice e=>e|_=>0),
    kind:=(match d with| .int k=>.int k| .bool=>.bool| .string=>.string| .slice _=>.slice| .struct _=>.struct| .interface _=>.iface|_=>.other)}
  |none=>none
 |_,_=>none
def ev (ts:Env):Operand→AV
 | .tmp t=>look ts t
 | .const v=>cAV v
 | .global _=>.undef
 | .func f=>.clo f []
theorem ev_tmp (ts:Env) (t:Nat):ev ts (.tmp t)=look ts t:=rfl
theorem ev_const (ts:Env) (v:Value):ev ts (.const v)=cAV v:=rfl
theorem ev_func (ts:Env) (f:FuncId):ev ts (.func f)= .clo f []:=rfl
def I64 (n:Int):Prop:= -9223372036854775808≤n∧n≤9223372036854775807
def sTI (x:Option TI) (k:TI→Prop):Prop:=match x with|some t=>k t|none=>False
@[congr] theorem sTI_congr {x x':Option TI} {k:TI→Prop} (h:x=x'):sTI x k=sTI x' k:=by rw [h]
theorem sTI_some (t:TI) (k:TI→Prop):sTI (some t) k=k t:=rfl
def sOpt (x:Option AV) (k:AV→Prop):Prop:=match x with|some v=>k v|none=>False
@[congr] theorem sOpt_congr {x x':Option AV} {k:AV→Prop} (h:x=x'):sOpt x k=sOpt x' k:=by rw [h]
theorem sOpt_some (v:AV) (k:AV→Prop):sOpt (some v) k=k v:=rfl
def sIf (c:AV) (a b:Prop):Prop:=match c with| .val (.bool c)=>(c=true→a)∧(c=false→b)|_=>False
@[congr] theorem sIf_congr {c c':AV} {a b:Prop} (h:c=c'):sIf c a b=sIf c' a b:=by rw [h]
def sPick (c a b:AV) (k:AV→Prop):Prop:=match c with| .val (.bool c)=>(c=true→k a)∧(c=false→k b)|_=>False
@[congr] theorem sPick_congr {c c' a b:AV} {k:AV→Prop} (h:c=c'):sPick c a b k=sPick c' a b k:=by rw [h]
def sWrap (k:IntKind) (n:Int) (c:AV→Prop):Prop:=match k with| .i64=>I64 n∧c (.val (.int .i64 n))|k=>c (.val (.int k (k.wrap n)))
theorem sWrap_i64 (n:Int) (c:AV→Prop):sWrap .i64 n c=(I64 n∧c (.val (.int .i64 n))):=rfl
theorem sWrap_u64 (n:Int) (c:AV→Prop):sWrap .u64 n c=c (.val (.int .u64 (IntKind.u64.wrap n))):=rfl
def intBin (op:BinOp) (i:IntKind) (x y:Int) (k:AV→Prop):Prop:=
 match op with
 | .add=>sWrap i (x+y) k
 | .sub=>sWrap i (x-y) k
 | .mul=>sWrap i (x*y) k
 | .quo=>y≠0∧sWrap i (x.tdiv y) k
 | .rem=>y≠0∧k (.val (.int i (x.tmod y)))
 | .eql=>k (.val (.bool (x==y)))
 | .neq=>k (.val (.bool (x != y)))
 | .lss=>k (.val (.bool (decide (x<y))))
 | .leq=>k (.val (.bool (decide (x≤y))))
 | .gtr=>k (.val (.bool (decide (x>y))))
 | .geq=>k (.val (.bool (decide (x≥y))))
 | .shr=>0≤y∧k (.val (.int i (x.fdiv (2^(min y.toNat i.bits)))))
 | .and=>k (.val (.int i (i.wrap (BitVec.ofInt i.bits x &&& BitVec.ofInt i.bits y).toNat)))
 |_=>False
def strBin (op:BinOp) (x y:ByteArray) (k:AV→Prop):Prop:=
 match op with
 | .add=>x.size+y.size≤9223372036854775807∧k (.val (.string (x++y)))
 | .eql=>k (.val (.bool (x.toList==y.toList)))
 | .neq=>k (.val (.bool (!(x.toList==y.toList))))
 |_=>False
def sBin (op:BinOp) (kd:TK) (a b:AV) (k:AV→Prop):Prop:=
 match a,b with
 | .val (.int i x),.val (.int j y)=>i=j∧intBin op i x y k
 | .val (.string x),.val (.string y)=>strBin op x y k
 | .val (.bool x),.val (.bool y)=>match op,kd with| .eql,.bool=>k (.val (.bool (x==y)))| .neq,.bool=>k (.val (.bool (!(x==y))))|_,_=>False
 |_,_=>False
@[congr] theorem sBin_congr {op:BinOp} {kd:TK} {a b a' b':AV} {k:AV→Prop} (h:a=a') (h':b=b'):sBin op kd a b k=sBin op kd a' b' k:=by rw [h,h']
theorem sBin_int (op:BinOp) (kd:TK) (i:IntKind) (x y:Int) (k:AV→Prop):sBin op kd (.val (.int i x)) (.val (.int i y)) k=intBin op i x y k:=by simp [sBin]
theorem sBin_beq (x y:Bool) (k:AV→Prop):sBin .eql .bool (.val (.bool x)) (.val (.bool y)) k=k (.val (.bool (x==y))):=rfl
theorem sBin_bne (x y:Bool) (k:AV→Prop):sBin .neq .bool (.val (.bool x)) (.val (.bool y)) k=k (.val (.bool (!(x==y)))):=rfl
section
variable (i:IntKind) (x y:Int) (k:AV→Prop)
theorem iB_add:intBin .add i x y k=sWrap i (x+y) k:=rfl
theorem iB_sub:intBin .sub i x y k=sWrap i (x-y) k:=rfl
theorem iB_mul:intBin .mul i x y k=sWrap i (x*y) k:=rfl
theorem iB_quo:intBin .quo i x y k=(y≠0∧sWrap i (x.tdiv y) k):=rfl
theorem iB_rem:intBin .rem i x y k=(y≠0∧k (.val (.int i (x.tmod y)))):=rfl
theorem iB_eql:intBin .eql i x y k=k (.val (.bool (x==y))):=rfl
theorem iB_neq:intBin .neq i x y k=k (.val (.bool (x != y))):=rfl
theorem iB_lss:intBin .lss i x y k=k (.val (.bool (decide (x<y)))):=rfl
theorem iB_leq:intBin .leq i x y k=k (.val (.bool (decide (x≤y)))):=rfl
theorem iB_gtr:intBin .gtr i x y k=k (.val (.bool (decide (x>y)))):=rfl
theorem iB_geq:intBin .geq i x y k=k (.val (.bool (decide (x≥y)))):=rfl
theorem iB_shr:intBin .shr i x y k=(0≤y∧k (.val (.int i (x.fdiv (2^(min y.toNat i.bits)))))):=rfl
end
def sNot (a:AV) (k:AV→Prop):Prop:=match a with| .val (.bool b)=>k (.val (.bool (!b)))|_=>False
@[congr] theorem sNot_congr {a a':AV} {k:AV→Prop} (h:a=a'):sNot a k=sNot a' k:=by rw [h]
theorem sNot_eq (b:Bool) (k:AV→Prop):sNot (.val (.bool b)) k=k (.val (.bool (!b))):=rfl
def sNeg (a:AV) (k:AV→Prop):Prop:=match a with| .val (.int i n)=>sWrap i (0-n) k|_=>False
@[congr] theorem sNeg_congr {a a':AV} {k:AV→Prop} (h:a=a'):sNeg a k=sNeg a' k:=by rw [h]
theorem sNeg_eq (i:IntKind) (n:Int) (k:AV→Prop):sNeg (.val (.int i n)) k=sWrap i (0-n) k:=rfl
def sConv (dst:TK) (x:AV) (k:AV→Prop):Prop:=
 match dst,x with
 | .int i,.val (.int _ n)=>sWrap i n k
 | .string,.val (.string s)=>k (.val (.string s))
 |_,_=>False
@[congr] theorem sConv_congr {d:TK} {x x':AV} {k:AV→Prop} (h:x=x'):sConv d x k=sConv d x' k:=by rw [h]
theorem sConv_int (i j:IntKind) (n:Int) (k:AV→Prop):sConv (.int i) (.val (.int j n)) k=sWrap i n k:=rfl
def sMax (a b:AV) (k:AV→Prop):Prop:=match a,b with| .val (.int i x),.val (.int _ y)=>k (.val (.int i (if y>x then y else x)))|_,_=>False
@[congr] theorem sMax_congr {a b a' b':AV} {k:AV→Prop} (h:a=a') (h':b=b'):sMax a b k=sMax a' b' k:=by rw [h,h']
theorem sMax_eq (i j:IntKind) (x y:Int) (k:AV→Prop):sMax (.val (.int i x)) (.val (.int j y)) k=k (.val (.int i (if y>x then y else x))):=rfl
def sMin (a b:AV) (k:AV→Prop):Prop:=match a,b with| .val (.int i x),.val (.int _ y)=>k (.val (.int i (if y<x then y else x)))|_,_=>False
@[congr] theorem sMin_congr {a b a' b':AV} {k:AV→Prop} (h:a=a') (h':b=b'):sMin a b k=sMin a' b' k:=by rw [h,h']
theorem sMin_eq (i j:IntKind) (x y:Int) (k:AV→Prop):sMin (.val (.int i x)) (.val (.int j y)) k=k (.val (.int i (if y<x then y else x))):=rfl
def sTup (i:Nat) (x:AV) (k:AV→Prop):Prop:=match x with| .tup xs=>sOpt xs[i]? k|_=>False
@[congr] theorem sTup_congr {i:Nat} {x x':AV} {k:AV→Prop} (h:x=x'):sTup i x k=sTup i x' k:=by rw [h]
theorem sTup_eq (i:Nat) (xs:List AV) (k:AV→Prop):sTup i (.tup xs) k=sOpt xs[i]? k:=rfl
def sPart (ag:Bool) (n j:Nat) (x:AV) (k:AV→Prop):Prop:=
 match ag,x with
 |true,.agg ys=>j+n≤ys.length∧k (.agg ((ys.drop j).take n))
 |false,.agg ys=>sOpt ys[j]? k
 |false,.undef=>False
 |false,.tup _=>False
 |false,y=>j=0∧k y
 |_,_=>False
@[congr] theorem sPart_congr {ag:Bool} {n j:Nat} {x x':AV} {k:AV→Prop} (h:x=x'):sPart ag n j x k=sPart ag n j x' k:=by rw [h]
theorem sPart_agg (n j:Nat) (ys:List AV) (k:AV→Prop):sPart true n j (.agg ys) k=(j+n≤ys.length∧k (.agg ((ys.drop j).take n))):=rfl
theorem sPart_cell (n j:Nat) (ys:List AV) (k:AV→Prop):sPart false n j (.agg ys) k=sOpt ys[j]? k:=rfl
theorem sPart_val (n:Nat) (v:Value) (k:AV→Prop):sPart false n 0 (.val v) k=k (.val v):=by simp [sPart]
theorem sPart_arr (n:Nat) (sh:Sh) (xs:List AV) (k:AV→Prop):sPart false n 0 (.arr sh xs) k=k (.arr sh xs):=by simp [sPart]
mutual
def isFlat:AV→Bool
 | .val _=>true
 | .e0=>true
 | .agg xs=>isFlatL xs
 |_=>false
def isFlatL:List AV→Bool
 | []=>true
 |x::r=>isFlat x&&isFlatL r
end
theorem isFlat_val (v:Value):isFlat (.val v)=true:=rfl
theorem isFlat_agg (xs:List AV):isFlat (.agg xs)=isFlatL xs:=rfl
theorem isFlat_arr (sh:Sh) (xs:List AV):isFlat (.arr sh xs)=false:=rfl
theorem isFlatL_nil:isFlatL []=true:=rfl
theorem isFlatL_cons (x:AV) (r:List AV):isFlatL (x::r)=(isFlat x&&isFlatL r):=rfl
def sUndeep (deep fl:Bool) (l:Nat) (b:Blk) (m:Mem) (k:Mem→Prop):Prop:=if deep=true∧fl=false then l<ioL∧k ((l,b)::m) else k m
@[congr] theorem sUndeep_congr {deep fl fl':Bool} {l:Nat} {b:Blk} {m:Mem} {k:Mem→Prop} (h:fl=fl'):sUndeep deep fl l b m k=sUndeep deep fl' l b m k:=by rw [h]
theorem sUndeep_flat (deep:Bool) (l:Nat) (b:Blk) (m:Mem) (k:Mem→Prop):sUndeep deep true l b m k=k m:=by simp [sUndeep]
theorem sUndeep_no (fl:Bool) (l:Nat) (b:Blk) (m:Mem) (k:Mem→Prop):sUndeep false fl l b m k=k m:=by simp [sUndeep]
def sLoadB (ag:Bool) (n:Nat) (l ver i j:Nat) (b:Option Blk) (m:Mem) (k:AV→Mem→Prop):Prop:=
 match b with
 |some (.box v xs)=>v=ver∧i=0∧(if ag then j+n≤xs.length∧k (.agg ((xs.drop j).take n)) m else sOpt xs[j]? fun y=>k y m)
 |some (.row v sh deep xs)=>v=ver∧sOpt xs[i]? fun x=>sPart ag n j x fun y=>sUndeep deep (isFlat x) l (.row v sh false xs) m fun m'=>k y m'
 |some (.sub v sh xs u)=>v=ver∧sOpt xs[i]? fun x=>isFlat x=true∧sPart ag n j x fun y=>k y m
 |_=>False
@[congr] theorem sLoadB_congr {ag:Bool} {n l ver i j:Nat} {b b':Option Blk} {m:Mem} {k:AV→Mem→Prop} (h:b=b'):sLoadB ag n l ver i j b m k=sLoadB ag n l ver i j b' m k:=by rw [h]
theorem sLoadB_boxA (n l v j:Nat) (xs:List AV) (m:Mem) (k:AV→Mem→Prop):
 sLoadB true n l v 0 j (some (.box v xs)) m k=(j+n≤xs.length∧k (.agg ((xs.drop j).take n)) m):=by simp [sLoadB]
theorem sLoadB_box (n l v j:Nat) (xs:List AV) (m:Mem) (k:AV→Mem→Prop):
 sLoadB false n l v 0 j (some (.box v xs)) m k=sOpt xs[j]? fun y=>k y m:=by simp [sLoadB]
theorem sLoadB_row (ag:Bool) (n l v i j:Nat) (sh:Sh) (deep:Bool) (xs:List AV) (m:Mem) (k:AV→Mem→Prop):
 sLoadB ag n l v i j (some (.row v sh deep xs)) m k=sOpt xs[i]? fun x=>sPart ag n j x fun y=>sUndeep deep (isFlat x) l (.row v sh false xs) m fun m'=>k y m':=by simp [sLoadB]
def sLoad (ag:Bool) (n:Nat) (p:AV) (m:Mem) (k:AV→Mem→Prop):Prop:=
 match p with
 | .ptr l ver i j=>sLoadB ag n l ver i j (lookB m l) m k
 | .eptr _ xs i j=>sOpt xs[i]? fun x=>sPart ag n j x fun y=>k y m
 |_=>False
@[congr] theorem sLoad_congr {ag:Bool} {n:Nat} {p p':AV} {m:Mem} {k:AV→Mem→Prop} (h:p=p'):sLoad ag n p m k=sLoad ag n p' m k:=by rw [h]
theorem sLoad_ptr (ag:Bool) (n l ver i j:Nat) (m:Mem) (k:AV→Mem→Prop):sLoad ag n (.ptr l ver i j) m k=sLoadB ag n l ver i j (lookB m l) m k:=rfl
theorem sLoad_eptr (ag:Bool) (n:Nat) (sh:Sh) (xs:List AV) (i j:Nat) (m:Mem) (k:AV→Mem→Prop):
 sLoad ag n (.eptr sh xs i j) m k=sOpt xs[i]? fun x=>sPart ag n j x fun y=>k y m:=rfl
def sLend (dp fl:Bool) (x:AV) (l v:Nat) (xs:List AV) (i:Nat) (m:Mem) (k:AV→Mem→Prop):Prop:=
 if dp=true∧fl=false then ∀u,k (.val u) ((l,.lent v xs i u)::m) else k x m
@[congr] theorem sLend_congr {dp fl fl':Bool} {x:AV} {l v:Nat} {xs:List AV} {i:Nat} {m:Mem} {k:AV→Mem→Prop} (h:fl=fl'):sLend dp fl x l v xs i m k=sLend dp fl' x l v xs i m k:=by rw [h]
theorem sLend_flat (dp:Bool) (x:AV) (l v:Nat) (xs:List AV) (i:Nat) (m:Mem) (k:AV→Mem→Prop):sLend dp true x l v xs i m k=k x m:=by simp [sLend]
def sLoadI (ag:Bool) (n l ver i j:Nat) (b:Option Blk) (m:Mem) (k:AV→Mem→Prop):Prop:=
 match ag,b with
 |false,some (.row v ⟨1,false⟩ dp xs)=>v=ver∧sOpt xs[i]? fun x=>sPart false n j x fun y=>sLend dp (isFlat x) y l v xs i m k
 |ag,b=>sLoadB ag n l ver i j b m k
@[congr] theorem sLoadI_congr {ag:Bool} {n l ver i j:Nat} {b b':Option Blk} {m:Mem} {k:AV→Mem→Prop} (h:b=b'):sLoadI ag n l ver i j b m k=sLoadI ag n l ver i j b' m k:=by rw [h]
theorem sLoadI_lend (n l v i j:Nat) (dp:Bool) (xs:List AV) (m:Mem) (k:AV→Mem→Prop):
 sLoadI false n l v i j (some (.row v ⟨1,false⟩ dp xs)) m k=sOpt xs[i]? fun x=>sPart false n j x fun y=>sLend dp (isFlat x) y l v xs i m k:=by simp [sLoadI]
theorem sLoadI_box (ag:Bool) (n l v i j v':Nat) (xs:List AV) (m:Mem) (k:AV→Mem→Prop):sLoadI ag n l v i j (some (.box v' xs)) m k=sLoadB ag n l v i j (some (.box v' xs)) m k:=by cases ag<;>rfl
def sLoadX (ag:Bool) (n:Nat) (p:AV) (m:Mem) (k:AV→Mem→Prop):Prop:=
 match p with
 | .ptr l ver i j=>if l<ioL then sLoadB ag n l ver i j (lookB m l) m k else sLoadI ag n l ver i j (lookB m l) m k
 | .eptr _ xs i j=>sOpt xs[i]? fun x=>sPart ag n j x fun y=>k y m
 |_=>False
@[congr] theorem sLoadX_congr {ag:Bool} {n:Nat} {p p':AV} {m:Mem} {k:AV→Mem→Prop} (h:p=p'):sLoadX ag n p m k=sLoadX ag n p' m k:=by rw [h]
theorem sLoadX_ptr (ag:Bool) (n l ver i j:Nat) (m:Mem) (k:AV→Mem→Prop):sLoadX ag n (.ptr l ver i j) m k=if l<ioL then sLoadB ag n l ver i j (lookB m l) m k else sLoadI ag n l ver i j (lookB m l) m k:=rfl
theorem sLoadX_eptr (ag:Bool) (n:Nat) (sh:Sh) (xs:List AV) (i j:Nat) (m:Mem) (k:AV→Mem→Prop):
 sLoadX ag n (.eptr sh xs i j) m k=sOpt xs[i]? fun x=>sPart ag n j x fun y=>k y m:=rfl
def sLive (v:Nat) (b:Option Blk) (k:Prop):Prop:=match b with
 |some (.box v' _)=>v'=v∧k
 |some (.row v' _ _ _)=>v'=v∧k
 |_=>False
@[congr] theorem sLive_congr {v:Nat} {b b':Option Blk} {k:Prop} (h:b=b'):sLive v b k=sLive v b' k:=by rw [h]
theorem sLive_box (v:Nat) (xs:List AV) (k:Prop):sLive v (some (.box v xs)) k=k:=by simp [sLive]
theorem sLive_row (v:Nat) (sh:Sh) (d:Bool) (xs:List AV) (k:Prop):sLive v (some (.row v sh d xs)) k=k:=by simp [sLive]
def sField (j:Nat) (m:Mem) (p:AV) (k:AV→Prop):Prop:=match p with
 | .ptr l v i j'=>sLive v (lookB m l) (k (.ptr l v i (j'+j)))
 | .eptr sh xs i j'=>k (.eptr sh xs i (j'+j))
 |_=>False
@[congr] theorem sField_congr {j:Nat} {m:Mem} {p p':AV} {k:AV→Prop} (h:p=p'):sField j m p k=sField j m p' k:=by rw [h]
theorem sField_ptr (j:Nat) (m:Mem) (l v i j':Nat) (k:AV→Prop):sField j m (.ptr l v i j') k=sLive v (lookB m l) (k (.ptr l v i (j'+j))):=rfl
theorem sField_eptr (j:Nat) (m:Mem) (sh:Sh) (xs:List AV) (i j':Nat) (k:AV→Prop):sField j m (.eptr sh xs i j') k=k (.eptr sh xs i (j'+j)):=rfl
def sLen (kd:TK) (m:Mem) (x:AV) (k:AV→Prop):Prop:=match kd,x with
 | .slice,.arr _ xs=>k (.val (.int .i64 xs.length))
 | .slice,.ref l v _ n=>sLive v (lookB m l) (k (.val (.int .i64 n)))
 | .slice,.e0=>k (.val (.int .i64 0))
 | .slice,.val (.slice _ n _)=>k (.val (.int .i64 n))
 | .string,.val (.string s)=>k (.val (.int .i64 s.size))
 |_,_=>False
@[congr] theorem sLen_congr {kd:TK} {m:Mem} {x x':AV} {k:AV→Prop} (h:x=x'):sLen kd m x k=sLen kd m x' k:=by rw [h]
theorem sLen_arr (m:Mem) (sh:Sh) (xs:List AV) (k:AV→Prop):sLen .slice m (.arr sh xs) k=k (.val (.int .i64 xs.length)):=rfl
theorem sLen_nil (m:Mem) (a:Option Addr) (n c:Nat) (k:AV→Prop):sLen .slice m (.val (.slice a n c)) k=k (.val (.int .i64 n)):=rfl
theorem sLen_ref (m:Mem) (l v i n:Nat) (k:AV→Prop):sLen .slice m (.ref l v i n) k=sLive v (lookB m l) (k (.val (.int .i64 n))):=rfl
def sFld (f:Option (Nat × Nat × Bool)) (k:Nat × Nat × Bool→Prop):Prop:=match f with|some f=>k f|none=>False
@[congr] theorem sFld_congr {f f':Option (Nat × Nat × Bool)} {k:Nat × Nat × Bool→Prop} (h:f=f'):sFld f k=sFld f' k:=by rw [h]
theorem sFld_some (f:Nat × Nat × Bool) (k:Nat × Nat × Bool→Prop):sFld (some f) k=k f:=rfl
def sIndex (x i:AV) (k:AV→Prop):Prop:=match x,i with
 | .val (.string s),.val (.int _ i)=>(0≤i∧i<s.size)∧k (.val (.int .u8 (s.data.toList.getD i.toNat 0).toNat))
 |_,_=>False
@[congr] theorem sIndex_congr {x x' i i':AV} {k:AV→Prop} (h:x=x') (h':i=i'):sIndex x i k=sIndex x' i' k:=by rw [h,h']
def sCells (x:AV) (k:List AV→Prop):Prop:=match x with
 | .agg xs=>k xs
 | .undef=>False
 | .tup _=>False
 |y=>k [y]
@[congr] theorem sCells_congr {x x':AV} {k:List AV→Prop} (h:x=x'):sCells x k=sCells x' k:=by rw [h]
theorem sCells_agg (xs:List AV) (k:List AV→Prop):sCells (.agg xs) k=k xs:=rfl
theorem sCells_val (v:Value) (k:List AV→Prop):sCells (.val v) k=k [.val v]:=rfl
theorem sCells_arr (sh:Sh) (xs:List AV) (k:List AV→Prop):sCells (.arr sh xs) k=k [.arr sh xs]:=rfl
theorem sCells_ref (l v i n:Nat) (k:List AV→Prop):sCells (.ref l v i n) k=k [.ref l v i n]:=rfl
def setL (xs:List AV) (j:Nat):List AV→List AV
 | []=>xs
 |y::ys=>setL (xs.set j y) (j+1) ys
theorem setL_nil (xs:List AV) (j:Nat):setL xs j []=xs:=rfl
theorem setL_cons (xs:List AV) (j:Nat) (y:AV) (ys:List AV):setL xs j (y::ys)=setL (xs.set j y) (j+1) ys:=rfl
def sPut (j:Nat) (x y:AV) (k:AV→Prop):Prop:=match x,y with
 | .agg zs,.agg ys=>j+ys.length≤zs.length∧k (.agg (setL zs j ys))
 | .agg zs,y=>j<zs.length∧k (.agg (zs.set j y))
 |_,.agg _=>False
 |_,y=>j=0∧k y
@[congr] theorem sPut_congr {j:Nat} {x x' y y':AV} {k:AV→Prop} (h:x=x') (h':y=y'):sPut j x y k=sPut j x' y' k:=by rw [h,h']
theorem sPut_agg (j:Nat) (zs ys:List AV) (k:AV→Prop):sPut j (.agg zs) (.agg ys) k=(j+ys.length≤zs.length∧k (.agg (setL zs j ys))):=rfl
theorem sPut_cell (j:Nat) (zs:List AV) (v:Value) (k:AV→Prop):sPut j (.agg zs) (.val v) k=(j<zs.length∧k (.agg (zs.set j (.val v)))):=rfl
theorem sPut_val (u v:Value) (k:AV→Prop):sPut 0 (.val u) (.val v) k=k (.val v):=by simp [sPut]
def sStoreB (l ver i j:Nat) (b:Option Blk) (y:AV) (m:Mem) (n:Nat) (k:Mem→Prop):Prop:=
 match b with
 |some (.box v xs)=>v=ver∧i=0∧sCells y fun ys=>ys.length=n∧j+ys.length≤xs.length∧k ((l,.box v (setL xs j ys))::m)
 |some (.row v sh deep xs)=>v=ver∧isFlat y=true∧sOpt xs[i]? fun x=>isFlat x=true∧(match y with| .agg ys=>ys.length=n|_=>n=1)∧sPut j x y fun x'=>k ((l,.row v sh deep (xs.set i x'))::m)
 |some (.sub v sh xs u)=>v=ver∧isFlat y=true∧sOpt xs[i]? fun x=>isFlat x=true∧(match y with| .agg ys=>ys.length=n|_=>n=1)∧sPut j x y fun x'=>k ((l,.sub v sh (xs.set i x') u)::m)
 |_=>False
@[congr] theorem sStoreB_congr {l ver i j n:Nat} {b b':Option Blk} {y y':AV} {m:Mem} {k:Mem→Prop} (h:b=b') (h':y=y'):sStoreB l ver i j b y m n k=sStoreB l ver i j b' y' m n k:=by rw [h,h']
theorem sStoreB_box (l v j:Nat) (xs:List AV) (y:AV) (m:Mem) (n:Nat) (k:Mem→Prop):
 sStoreB l v 0 j (some (.box v xs)) y m n k=sCells y fun ys=>ys.length=n∧j+ys.length≤xs.length∧k ((l,.box v (setL xs j ys))::m):=by simp [sStoreB]
theorem sStoreB_rowV (l v i j:Nat) (sh:Sh) (deep:Bool) (xs:List AV) (u:Value) (m:Mem) (k:Mem→Prop):
 sStoreB l v i j (some (.row v sh deep xs)) (.val u) m 1 k=sOpt xs[i]? fun x=>isFlat x=true∧sPut j x (.val u) fun x'=>k ((l,.row v sh deep (xs.set i x'))::m):=by simp [sStoreB,isFlat]
theorem sStoreB_subV (l v i j:Nat) (sh:Sh) (xs:List AV) (u0 u:Value) (m:Mem) (k:Mem→Prop):
 sStoreB l v i j (some (.sub v sh xs u0)) (.val u) m 1 k=sOpt xs[i]? fun x=>isFlat x=true∧sPut j x (.val u) fun x'=>k ((l,.sub v sh (xs.set i x') u0)::m):=by simp [sStoreB,isFlat]
theorem sStoreB_rowA (l v i j:Nat) (sh:Sh) (deep:Bool) (xs ys:List AV) (m:Mem) (n:Nat) (k:Mem→Prop):
 sStoreB l v i j (some (.row v sh deep xs)) (.agg ys) m n k=(isFlatL ys=true∧sOpt xs[i]? fun x=>isFlat x=true∧ys.length=n∧sPut j x (.agg ys) fun x'=>k ((l,.row v sh deep (xs.set i x'))::m)):=by simp [sStoreB,isFlat]
def sStore (n:Nat) (p y:AV) (m:Mem) (k:Mem→Prop):Prop:=match p with
 | .ptr l ver i j=>sStoreB l ver i j (lookB m l) y m n k
 |_=>False
@[congr] theorem sStore_congr {n:Nat} {p p' y:AV} {m:Mem} {k:Mem→Prop} (h:p=p'):sStore n p y m k=sStore n p' y m k:=by rw [h]
theorem sStore_ptr (n l ver i j:Nat) (y:AV) (m:Mem) (k:Mem→Prop):sStore n (.ptr l ver i j) y m k=sStoreB l ver i j (lookB m l) y m n k:=rfl
def sMvB (v2 n2:Nat) (b:Option Blk) (k:AV→Prop):Prop:=match b with
 |some (.row v sh2 true ys)=>v=v2∧0<sh2.sz∧n2≤ys.length∧k (.arr sh2 (ys.take n2))
 |_=>False
@[congr] theorem sMvB_congr {v2 n2:Nat} {b b':Option Blk} {k:AV→Prop} (h:b=b'):sMvB v2 n2 b k=sMvB v2 n2 b' k:=by rw [h]
def sStoreR (l ver i j:Nat) (b:Option Blk) (l2 v2 i2 n2:Nat) (m:Mem) (n:Nat) (k:Mem→Prop):Prop:=match b with
 |some (.row v ⟨1,false⟩ true xs)=>v=ver∧(n=1∧j=0∧i2=0∧i<xs.length∧l2≠l∧l2<ioL)∧sMvB v2 n2 (lookB m l2) fun arr=>k ((l,.row v ⟨1,false⟩ true (xs.set i arr))::(l2,.gone v2)::m)
 |b=>sStoreB l ver i j b (.ref l2 v2 i2 n2) m n k
@[congr] theorem sStoreR_congr {l ver i j:Nat} {b b':Option Blk} {l2 v2 i2 n2:Nat} {m:Mem} {n:Nat} {k:Mem→Prop} (h:b=b'):sStoreR l ver i j b l2 v2 i2 n2 m n k=sStoreR l ver i j b' l2 v2 i2 n2 m n k:=by rw [h]
theorem sStoreR_box (l ver i j v:Nat) (xs:List AV) (l2 v2 i2 n2:Nat) (m:Mem) (n:Nat) (k:Mem→Prop):sStoreR l ver i j (some (.box v xs)) l2 v2 i2 n2 m n k=sStoreB l ver i j (some (.box v xs)) (.ref l2 v2 i2 n2) m n k:=rfl
def sStoreX (n:Nat) (p y:AV) (m:Mem) (k:Mem→Prop):Prop:=match p,y with
 | .ptr l ver i j,.ref l2 v2 i2 n2=>sStoreR l ver i j (lookB m l) l2 v2 i2 n2 m n k
 |p,y=>sStore n p y m k
@[congr] theorem sStoreX_congr {n:Nat} {p p' y y':AV} {m:Mem} {k:Mem→Prop} (h:p=p') (h':y=y'):sStoreX n p y m k=sStoreX n p' y' m k:=by rw [h,h']
theorem sStoreX_ref (n l ver i j l2 v2 i2 n2:Nat) (m:Mem) (k:Mem→Prop):sStoreX n (.ptr l ver i j) (.ref l2 v2 i2 n2) m k=sStoreR l ver i j (lookB m l) l2 v2 i2 n2 m n k:=rfl
theorem sStoreX_val (n l ver i j:Nat) (v:Value) (m:Mem) (k:Mem→Prop):sStoreX n (.ptr l ver i j) (.val v) m k=sStoreB l ver i j (lookB m l) (.val v) m n k:=rfl
theorem sStoreX_agg (n l ver i j:Nat) (ys:List AV) (m:Mem) (k:Mem→Prop):sStoreX n (.ptr l ver i j) (.agg ys) m k=sStoreB l ver i j (lookB m l) (.agg ys) m n k:=rfl
end Go.Vc
namespace Go.Vc
section inv
variable {w:World} {S:Nat→Prop} {φ:Nat→LS}
theorem rv_val {u v:Value} (h:RV w S φ (.val u) v):u=v∧v.oneCell'=true:=by
 cases h with
 |rd _ _ h=>cases h with|val _ h=>exact ⟨rfl,h⟩
theorem rv_e0 {v:Value} (h:RV w S φ .e0 v):∃a,v= .slice a 0 0:=by
 cases h with
 |rd _ _ h=>cases h with|e0 a=>exact ⟨a,rfl⟩
theorem rv_arr {sh:Sh} {xs:List AV} {v:Value} (h:RV w S φ (.arr sh xs) v):Rd w S (.arr sh xs) v:=by
 cases h with
 |rd _ _ h=>exact h
theorem rv_eptr {sh:Sh} {xs:List AV} {i j:Nat} {v:Value} (h:RV w S φ (.eptr sh xs i j) v):Rd w S (.eptr sh xs i j) v:=by
 cases h with
 |rd _ _ h=>exact h
theorem rv_tup {xs:List AV} {v:Value} (h:RV w S φ (.tup xs) v):∃cs:Array Value,v= .tuple cs∧cs.size=xs.length∧∀i (h:i<xs.length),RV w S φ xs[i] (cs.toList.getD i Go.undef):=by
 cases h with
 |rd _ _ h=>cases h with|tup _ cs hl hv=>exact ⟨cs,rfl,hl,fun i h=>.rd _ _ (hv i h)⟩
 |tup _ cs hl hv=>exact ⟨cs,rfl,hl,hv⟩
theorem rv_agg {xs:List AV} {v:Value} (h:RV w S φ (.agg xs) v):∃cs:Array Value,v= .agg cs∧cs.size=xs.length∧(∀i (h:i<xs.length),leaf xs[i])∧∀i (h:i<xs.length),RV w S φ xs[i] (cs.toList.getD i Go.undef):=by
 cases h with
 |rd _ _ h=>cases h with|agg _ cs hl hf hv=>exact ⟨cs,rfl,hl,hf,fun i h=>.rd _ _ (hv i h)⟩
 |agg _ cs hl hf hv=>exact ⟨cs,rfl,hl,hf,hv⟩
theorem rv_clo {f:FuncId} {xs:List AV} {v:Value} (h:RV w S φ (.clo f xs) v):∃cs:Array Value,v= .func (.func f) #[] cs∧cs.size=xs.length∧∀i (h:i<xs.length),RV w S φ xs[i] (cs.toList.getD i Go.undef):=by
 cases h with
 |rd _ _ h=>cases h with|clo _ _ cs hl hv=>exact ⟨cs,rfl,hl,fun i h=>.rd _ _ (hv i h)⟩
 |clo _ _ cs hl hv=>exact ⟨cs,rfl,hl,hv⟩
theorem rv_ref {l ver i n:Nat} {v:Value} (h:RV w S φ (.ref l ver i n) v):(∀b sh,φ l= .at b sh ver→∃a cap,v= .slice a n cap∧n≤cap∧(cap=0∨(a=some ⟨b,i*sh.sz,none⟩∧∃cs e,w.heap[b]? =some (celO cs e)∧cs.size=(i+cap)*sh.sz)))∧(φ l= .nil ver→n=0∧∃a,v= .slice a 0 0):=by
 cases h with
 |rd _ _ h=>cases h
 |ref _ _ _ _ _ h1 h2 _=>exact ⟨h1,h2⟩
theorem rv_ptr {l ver i j:Nat} {v:Value} (h:RV w S φ (.ptr l ver i j) v):∀b sh,φ l= .at b sh ver→v= .pointer (some ⟨b,i*sh.sz+j,none⟩):=by
 cases h with
 |rd _ _ h=>cases h
 |ptr _ _ _ _ _ h1 _ _=>exact h1
theorem rv_ptr2 {l ver i j:Nat} {v:Value} (h:RV w S φ (.ptr l ver i j) v):φ l≠ .nil ver∧v.oneCell'=true:=by
 cases h with
 |rd _ _ h=>cases h
 |ptr _ _ _ _ _ _ h2 h3=>exact ⟨h2,h3⟩
theorem rv_scalar {v:Value} (h:v.oneCell'=true):RV w S φ (.val v) v:=.rd _ _ (.val v h)
theorem rd_cAV (v:Value):Rd w S (cAV v) v:=by
 cases v with
 |agg cs=>
  simp only [cAV]
  split
  · rename_i h
    refine .agg _ cs (by simp) (fun i hi=>by simp [leaf]) fun i hi=> ?_
    have hi':i<cs.toList.length:=by simpa using hi
    have he:cs.toList.getD i Go.undef=cs.toList[i]:=by rw [q4,q5 hi'];rfl
    rw [he]
    simp only [List.getElem_map]
    exact .val _ (List.all_eq_true.1 h _ (List.getElem_mem hi'))
  · exact .undef _
 |tuple vs=>exact .undef _
 |_=>exact .val _ rfl
theorem labs_cAV (v:Value):labs (cAV v)=[]:=by
 cases v with
 |agg cs=>
  simp only [cAV]
  split
  · simp only [labs]
    generalize cs.toList=l
    induction l with
    |nil=>rfl
    |cons x r ih=>simpa [labsL,labs] using ih
  · rfl
 |_=>rfl
end inv
section
variable {B:Base} {N:Nat} {φ:Nat→LS} {fp:Nat→List Nat} {S:Nat→Prop} {ts:Env} {m:Mem} {a:Act} {w:World}
theorem RS.ev (h:RS B N φ fp S ts m a w) (x:Operand):RV w S φ (ev ts x) (a.eval x):=by
 cases x with
 |tmp t=>exact h.tm t
 |const v=>exact .rd _ _ (rd_cAV v)
 |global g=>exact .rd _ _ (.undef _)
 |func f=>exact .clo f [] #[] rfl fun i h=>absurd h (q27 _)
theorem RS.evL (h:RS B N φ fp S ts m a w) (x:Operand):∀l ver,(l,ver)∈labs (Vc.ev ts x)→known m l ver:=by
 cases x with
 |tmp t=>exact h.tl t
 |const v=>intro l ver hl;rw [show Vc.ev ts (.const v)=cAV v from rfl,labs_cAV] at hl;cases hl
 |global g=>intro l ver hl;cases hl
 |func f=>intro l ver hl;simp [Vc.ev,labs,labsL] at hl
def Done (B:Base) (N:Nat) (K:Env→Mem→Prop) (a:Act) (w:World):Prop:=
 ∃φ fp S ts m,RS B N φ fp S ts m a w∧K ts m
def Gives (B:Base) (N:Nat) (a:Act) (k:AV→Env→Mem→Prop) (v:Value) (w:World):Prop:=
 ∃φ fp S ts m x,RS B N φ fp S ts m a w∧RV w S φ x v∧(∀l ver,(l,ver)∈labs x→known m l ver)∧k x ts m
theorem Gives.done {k:AV→Env→Mem→Prop} {v:Value} {d:Nat} (hd:d<N) (h:Gives B N a k v w) {K:Env→Mem→Prop} (hK:∀x ts m,k x ts m→K ((d,x)::ts) m):
 Done B N K (a.put (some d) v) w:=by
 obtain ⟨φ,fp,S,ts,m,x,h1,h2,h3,h4⟩:=h
 exact ⟨φ,fp,S,_,m,h1.put d x v hd h2 h3,hK _ _ _ h4⟩
theorem Gives.skip {k:AV→Env→Mem→Prop} {v:Value} (h:Gives B N a k v w) {K:Env→Mem→Prop} (hK:∀x ts m,k x ts m→K ts m):
 Done B N K (a.put none v) w:=by
 obtain ⟨φ,fp,S,ts,m,x,h1,h2,h3,h4⟩:=h
 exact ⟨φ,fp,S,_,m,h1,hK _ _ _ h4⟩
def Runs (B:Base) (N:Nat) (a:Act) (k:AV→Env→Mem→Prop) (r:Result Value):Prop:=
 ∃v w',r= .ok v w'∧Gives B N a k v w'
theorem RS.gives (h:RS B N φ fp S ts m a w) {k:AV→Env→Mem→Prop} {x:AV} {v:Value} (hx:RV w S φ x v) (hl:∀l ver,(l,ver)∈labs x→known m l ver) (hk:k x ts m):Gives B N a k v w:=
 ⟨φ,fp,S,ts,m,x,h,hx,hl,hk⟩
theorem RS.givesV (h:RS B N φ fp S ts m a w) {k:AV→Env→Mem→Prop} {v:Value} (hv:v.oneCell'=true) (hk:k (.val v) ts m):Gives B N a k v w:=
 h.gives (rv_scalar hv) (fun _ _ hl=>by cases hl) hk
def Scal (k:AV→Prop) (v:Value):Prop:=v.oneCell'=true∧k (.val v)
theorem sWrap_out {i:IntKind} {n:Int} {c:AV→Prop} (h:sWrap i n c):c (.val (.int i (i.wrap n))):=by
 cases i<;>first|exact h|(obtain ⟨h1,h2⟩:=h;rw [IntWalk.i64_in n h1];exact h2)
variable {P:Program}
theorem run_eqGuard_int (op:BinOp) (t:TypeId) (x y:Operand) (i j:IntKind) (p q:Int) (w:World):(eqGuard op t x y (.int i p) (.int j q)).run P w= .ok () w:=by
 cases op<;>simp [eqGuard]
theorem run_eqGuard_str (op:BinOp) (t:TypeId) (x y:Operand) (p q:ByteArray) (w:World):(eqGuard op t x y (.string p) (.string q)).run P w= .ok () w:=by
 cases op<;>simp [eqGuard]
theorem run_eqGuard_bool (op:BinOp) (t:TypeId) (x y:Operand) (p q:Bool) (w:World):(eqGuard op t x y (.bool p) (.bool q)).run P w= .ok () w:=by
 cases op<;>simp [eqGuard]
theorem run_bin_int {op:BinOp} {t:TypeId} {i:IntKind} {p q:Int} {k:AV→Prop} (h:intBin op i p q k) (w:World):
 ∃v,(binOp op t (.int i p) (.int i q)).run P w= .ok v w∧Scal k v:=by
 cases op
 case shr=>
  have h:0≤q∧k (.val (.int i (p.fdiv (2^(min q.toNat i.bits))))):=h
  refine ⟨.int i (p.fdiv (2^(min q.toNat i.bits))),?_,rfl,h.2⟩
  show (Op.shift .shr i p i q).run P w=_
  unfold Op.shift
  rw [if_neg (Int.not_lt.2 h.1)]
  rfl
 case and=>
  have h:k (.val (.int i (i.wrap (BitVec.ofInt i.bits p &&& BitVec.ofInt i.bits q).toNat))):=h
  refine ⟨.int i (i.wrap (BitVec.ofInt i.bits p &&& BitVec.ofInt i.bits q).toNat),?_,rfl,h⟩
  simp only [binOp,ne_eq,not_true_eq_false,if_false,Op.intBits]
  rfl
 all_goals simp only [intBin] at h<;>first
  |exact h.elim
  |(exact ⟨_,(by simp [binOp,Op.intArith];try rfl),rfl,sWrap_out h⟩)
  |(exact ⟨_,(by simp [binOp,Op.intDiv,h.1];try rfl),rfl,sWrap_out h.2⟩)
  |(exact ⟨_,(by simp [binOp,Op.intDiv,h.1];try rfl),rfl,h.2⟩)
  |(exact ⟨_,(by simp [binOp,Op.intCmp];try rfl),rfl,h⟩)
theorem run_bin_str {op:BinOp} {t:TypeId} {p q:ByteArray} {k:AV→Prop} (h:strBin op p q k) (w:World):
 ∃v,(binOp op t (.string p) (.string q)).run P w= .ok v w∧Scal k v:=by
 cases op<;>simp only [strBin] at h<;>first
  |exact h.elim
  |(refine ⟨.string (p++q),?_,rfl,h.2⟩
    have h1:¬(((p.size+q.size:Nat):Int)>IntKind.i64.max):=by
     have:=h.1
     have:IntKind.i64.max=9223372036854775807:=by decide
     omega
    simp only [binOp,Op.stringOp,h1,if_false]
    rfl)
  |(exact ⟨_,(by simp [binOp,Op.stringOp];try rfl),rfl,h⟩)
theorem kind_of {t:TypeId} {ti:TI} (h:tiOf P t=some ti):∃i d z,P.info? t=some i∧P.underlying t=some d∧i.zero=some z∧ti.agg=aggOf P t∧ti.size=i.size∧ti.bytes=i.bytes∧ti.zero=cAV z∧
 ti.fields=(match d with| .struct fs=>fs.toList.map fun f=>(f.offset,sizeOf' P f.type,aggOf P f.type)|_=>[])∧ti.elem=(match d with| .slice e=>e|_=>0)∧
 ti.kind=(match d with| .int k=>.int k| .bool=>.bool| .string=>.string| .slice _=>.slice| .struct _=>.struct| .interface _=>.iface|_=>.other):=by
 unfold tiOf at h
 split at h
 · rename_i i d hi hd
   split at h
   · rename_i z hz
     split at h
     · cases h
     · cases h
       exact ⟨i,d,z,hi,hd,hz,rfl,rfl,rfl,rfl,rfl,rfl,rfl⟩
   · cases h
 · cases h
theorem fields_of {t:TypeId} {ti:TI} (h:tiOf P t=some ti):∀fs,P.underlying t=some (.struct fs)→∀f,f∈fs.toList→(P.info? f.type).isSome=true∧(P.underlying f.type).isSome=true:=by
 intro fs hfs f hf
 unfold tiOf at h
 split at h
 · rename_i i d hi hd
   rw [hfs] at hd;cases hd
   split at h
   · split at h
     · cases h
     · rename_i hn
       have hn':fs.toList.all (fun f=>(P.info? f.type).isSome&&(P.underlying f.type).isSome)=true:=(Bool.not_eq_false _).mp hn
       simpa using List.all_eq_true.1 hn' f hf
   · cases h
 · cases h
theorem kind_bool {t:TypeId} {ti:TI} (h:tiOf P t=some ti) (hk:ti.kind= .bool):P.underlying t=some .bool:=by
 obtain ⟨i,d,z,hi,hd,hz,_,_,_,_,_,_,hkk⟩:=kind_of h
 rw [hd];rw [hk] at hkk
 cases d<;>simp at hkk<;>rfl
theorem kind_int {t:TypeId} {ti:TI} {k:IntKind} (h:tiOf P t=some ti) (hk:ti.kind= .int k):P.underlying t=some (.int k):=by
 obtain ⟨i,d,z,hi,hd,hz,_,_,_,_,_,_,hkk⟩:=kind_of h
 rw [hd];rw [hk] at hkk
 cases d<;>simp at hkk
 rw [hkk]
theorem kind_string {t:TypeId} {ti:TI} (h:tiOf P t=some ti) (hk:ti.kind= .string):P.underlying t=some .string:=by
 obtain ⟨i,d,z,hi,hd,hz,_,_,_,_,_,_,hkk⟩:=kind_of h
 rw [hd];rw [hk] at hkk
 cases d<;>simp at hkk<;>rfl
theorem kind_iface {t:TypeId} {ti:TI} (h:tiOf P t=some ti) (hk:ti.kind= .iface):∃ms,P.underlying t=some (.interface ms):=by
 obtain ⟨i,d,z,hi,hd,hz,_,_,_,_,_,_,hkk⟩:=kind_of h
 rw [hd];rw [hk] at hkk
 cases d<;>simp at hkk
 exact ⟨_,rfl⟩
theorem kind_slice {t:TypeId} {ti:TI} (h:tiOf P t=some ti) (hk:ti.kind= .slice):P.underlying t=some (.slice ti.elem):=by
 obtain ⟨i,d,z,hi,hd,hz,_,_,_,_,_,he,hkk⟩:=kind_of h
 rw [hd];rw [hk] at hkk
 cases d<;>simp at hkk
 rw [he]
theorem run_bin {op:BinOp} {t:TypeId} {ti:TI} (ht:tiOf P t=some ti) {x y:AV} {u v:Value} (hx:RV w S φ x u) (hy:RV w S φ y v) {ox oy:Operand} {k:AV→Prop}
 (h:sBin op ti.kind x y k):∃r,(do eqGuard op t ox oy u v;binOp op t u v:Sem Value).run P w= .ok r w∧Scal k r:=by
 unfold sBin at h
 split at h
 · obtain ⟨rfl,_⟩:=rv_val hx
   obtain ⟨rfl,_⟩:=rv_val hy
   obtain ⟨rfl,h⟩:=h
   obtain ⟨r,h1,h2⟩:=run_bin_int (P:=P) (t:=t) h w
   exact ⟨r,by simp [run_eqGuard_int,h1],h2⟩
 · obtain ⟨rfl,_⟩:=rv_val hx
   obtain ⟨rfl,_⟩:=rv_val hy
   obtain ⟨r,h1,h2⟩:=run_bin_str (P:=P) (t:=t) h w
   exact ⟨r,by simp [run_eqGuard_str,h1],h2⟩
 · obtain ⟨rfl,_⟩:=rv_val hx
   obtain ⟨rfl,_⟩:=rv_val hy
   split at h
   · rename_i hk
     exact ⟨_,(by simp [run_eqGuard_bool,binOp,Op.equal,Op.maxDepth,run_equalIn_bool' w 9999 t _ _ (kind_bool ht (by assumption))];try rfl),rfl,h⟩
   · rename_i hk
     exact ⟨_,(by simp [run_eqGuard_bool,binOp,Op.equal,Op.maxDepth,run_equalIn_bool' w 9999 t _ _ (kind_bool ht (by assumption))];try rfl),rfl,h⟩
   · exact h.elim
 · exact h.elim
inductive FK where
 |int (k:IntKind)
 |bool
 |string
def fkOf (P:Program):Nat→List Field→Option (List FK)
 |_,[]=>some []
 |o,f::r=>if f.name≠ "_" ∧f.offset=o then match P.underlying f.type with
   |some (.int k)=>(fkOf P (o+1) r).map (FK.int k:: ·)
   |some .bool=>(fkOf P (o+1) r).map (FK.bool:: ·)
   |some .string=>(fkOf P (o+1) r).map (FK.string:: ·)
   |_=>none
  else none
def flatK (P:Program) (t:TypeId):Option (List FK):=
 if P.stoodInHeld t=false∧P.eqGuardType P.depth t=false then match P.underlying t with
  |some (.struct fs)=>fkOf P 0 fs.toList
  |_=>none
 else none
def sFK (x:Option (List FK)) (k:List FK→Prop):Prop:=match x with|some l=>k l|none=>False
@[congr] theorem sFK_congr {x x':Option (List FK)} {k:List FK→Prop} (h:x=x'):sFK x k=sFK x' k:=by rw [h]
theorem sFK_some (l:List FK) (k:List FK→Prop):sFK (some l) k=k l:=rfl
def sCellE (f:FK) (x y:AV) (k:Bool→Prop):Prop:=match f,x,y with
 | .int i,.val (.int j a),.val (.int j' b)=>(j=i∧j'=i)∧k (a==b)
 | .bool,.val (.bool a),.val (.bool b)=>k (a==b)
 | .string,.val (.string a),.val (.string b)=>k (a.toList==b.toList)
 |_,_,_=>False
theorem sCellE_int (i:IntKind) (a b:Int) (k:Bool→Prop):sCellE (.int i) (.val (.int i a)) (.val (.int i b)) k=k (a==b):=by simp [sCellE]
theorem sCellE_bool (a b:Bool) (k:Bool→Prop):sCellE .bool (.val (.bool a)) (.val (.bool b)) k=k (a==b):=rfl
def sAggE (k:Bool→Prop):Bool→List FK→List AV→List AV→Prop
 |acc,[],[],[]=>k acc
 |acc,f::fs,x::xs,y::ys=>sCellE f x y fun b=>sAggE k (acc&&b) fs xs ys
 |_,_,_,_=>False
theorem sAggE_nil (k:Bool→Prop) (acc:Bool):sAggE k acc [] [] []=k acc:=rfl
theorem sAggE_cons (k:Bool→Prop) (acc:Bool) (f:FK) (fs:List FK) (x y:AV) (xs ys:List AV):sAggE k acc (f::fs) (x::xs) (y::ys)=sCellE f x y fun b=>sAggE k (acc&&b) fs xs ys:=rfl
def sEqR (op:BinOp) (c:Bool) (k:AV→Prop):Prop:=match op with| .eql=>k (.val (.bool c))| .neq=>k (.val (.bool (!c)))|_=>False
theorem sEqR_neq (c:Bool) (k:AV→Prop):sEqR .neq c k=k (.val (.bool (!c))):=rfl
def fnRes (P:Program) (t:TypeId) (op:BinOp):Option Bool:=match P.underlying t,op with
 |some (.func _ _ _),.eql=>some true
 |some (.func _ _ _),.neq=>some false
 |_,_=>none
def sOptB (x:Option Bool) (k:Bool→Prop):Prop:=match x with|some b=>k b|none=>False
@[congr] theorem sOptB_congr {x x':Option Bool} {k:Bool→Prop} (h:x=x'):sOptB x k=sOptB x' k:=by rw [h]
def sBinS (P:Program) (t:TypeId) (op:BinOp) (a b:AV) (k:AV→Prop) (rest:Prop):Prop:=match a,b with
 | .agg xs,.agg ys=>sFK (flatK P t) fun ks=>sAggE (fun c=>sEqR op c k) true ks xs ys
 | .val .nilFunc,.val .nilFunc=>sOptB (fnRes P t op) fun c=>k (.val (.bool c))
 |_,_=>rest
@[congr] theorem sBinS_congr {P:Program} {t:TypeId} {op:BinOp} {a b a' b':AV} {k:AV→Prop} {rest:Prop} (h:a=a') (h':b=b'):sBinS P t op a b k rest=sBinS P t op a' b' k rest:=by rw [h,h']
theorem sBinS_agg (P:Program) (t:TypeId) (op:BinOp) (xs ys:List AV) (k:AV→Prop) (rest:Prop):sBinS P t op (.agg xs) (.agg ys) k rest=sFK (flatK P t) fun ks=>sAggE (fun c=>sEqR op c k) true ks xs ys:=rfl
theorem sBinS_int (P:Program) (t:TypeId) (op:BinOp) (i:IntKind) (n:Int) (b:AV) (k:AV→Prop) (rest:Prop):sBinS P t op (.val (.int i n)) b k rest=rest:=by cases b<;>rfl
theorem sBinS_bool (P:Program) (t:TypeId) (op:BinOp) (n:Bool) (b:AV) (k:AV→Prop) (rest:Prop):sBinS P t op (.val (.bool n)) b k rest=rest:=by cases b<;>rfl
theorem sBinS_arr (P:Program) (t:TypeId) (op:BinOp) (sh:Sh) (xs:List AV) (b:AV) (k:AV→Prop) (rest:Prop):sBinS P t op (.arr sh xs) b k rest=rest:=by cases b<;>rfl
theorem part_cell {t:TypeId} {cs:Array Value} {o:Nat} {v:Value} (ht:aggOf P t=false) (hu:(P.underlying t).isSome=true) (hv:cs[o]? =some v) (w:World):(part t cs o).run P w= .ok v w:=by
 unfold part
 rw [Sem.run_bind]
 have:(isAgg t).run P w= .ok false w:=by
  unfold isAgg
  cases hd:P.underlying t with
  |none=>rw [hd] at hu;cases hu
  |some d=>
   simp only [Sem.run_bind,run_underlying hd,Result.andThen_ok]
   unfold aggOf at ht
   rw [hd] at ht
   cases d<;>first|rfl|(exact absurd ht (by decide))|simp_all
 rw [this]
 simp [hv]
theorem agg_run {d:Nat} {cs ds:Array Value}:∀(fs:List Field) (o:Nat) (ks:List FK) (xs ys:List AV) (acc:Bool) (k:Bool→Prop),fkOf P o fs=some ks→sAggE k acc ks xs ys→
 (∀i (h:i<xs.length),RV w S φ xs[i] (cs.toList.getD (o+i) Go.undef))→(∀i (h:i<ys.length),RV w S φ ys[i] (ds.toList.getD (o+i) Go.undef))→
 o+xs.length≤cs.size→o+ys.length≤ds.size→∃c:Bool,(Op.eqFields (d+1) cs ds fs).run P w= .ok c w∧k (acc&&c)
 | [],o,ks,xs,ys,acc,k,hf,hk,hx,hy,hc,hd=>by
   simp only [fkOf,Option.some.injEq] at hf
   subst hf
   cases xs with
   |cons=>cases ys<;>exact hk.elim
   |nil=>
    cases ys with
    |cons=>exact hk.elim
    |nil=>exact ⟨true,rfl,by rw [Bool.and_true];exact hk⟩
 |f::fs,o,ks,xs,ys,acc,k,hf,hk,hx,hy,hc,hd=>by
  unfold fkOf at hf
  split at hf
  · rename_i hn
    have key:∀(fk:FK) (r:List FK),fkOf P (o+1) fs=some r→ks=fk::r→aggOf P f.type=false→(P.underlying f.type).isSome=true→
     (∀(x y:AV) (u v:Value) (k':Bool→Prop),RV w S φ x u→RV w S φ y v→sCellE fk x y k'→∃b,(Op.equalIn (d+1) f.type u v).run P w= .ok b w∧k' b)→
     ∃c:Bool,(Op.eqFields (d+1) cs ds (f::fs)).run P w= .ok c w∧k (acc&&c):=by
     rintro fk r hr rfl ha hu hcell
     cases xs with
     |nil=>cases ys<;>exact hk.elim
     |cons x xs=>
      cases ys with
      |nil=>exact hk.elim
      |cons y ys=>
       have hk:sCellE fk x y fun b=>sAggE k (acc&&b) r xs ys:=hk
       have hx0:=hx 0 (by simp)
       have hy0:=hy 0 (by simp)
       simp only [List.length_cons] at hc hd
       have gx:cs[o]? =some (cs.toList.getD (o+0) Go.undef):=by
        have:o<cs.size:=by omega
        simp [q4,this]
       have gy:ds[o]? =some (ds.toList.getD (o+0) Go.undef):=by
        have:o<ds.size:=by omega
        simp [q4,this]
       obtain ⟨b,hb,hk2⟩:=hcell _ _ _ _ _ hx0 hy0 hk
       simp only [Op.eqFields]
       rw [if_pos hn.1,hn.2]
       simp only [Sem.run_bind,part_cell ha hu gx,part_cell ha hu gy,Result.andThen_ok]
       rw [hb]
       simp only [Result.andThen_ok]
       cases b with
       |false=>
        simp only [Bool.not_false,if_true]
        have:∀(fs:List FK) (xs ys:List AV) (k:Bool→Prop),sAggE k false fs xs ys→k false:=by
         intro fs
         induction fs with
         |nil=>intro xs ys k h;cases xs<;>cases ys<;>first|exact h|exact h.elim
         |cons f fs ih=>
          intro xs ys k h
          cases xs with
          |nil=>cases ys<;>exact h.elim
          |cons x xs=>
           cases ys with
           |nil=>exact h.elim
           |cons y ys=>
            have h:sCellE f x y fun b=>sAggE k (false&&b) fs xs ys:=h
            have:∃b,sAggE k (false&&b) fs xs ys:=by
             unfold sCellE at h
             split at h
             · exact ⟨_,h.2⟩
             · exact ⟨_,h⟩
             · exact ⟨_,h⟩
             · exact h.elim
            obtain ⟨b,hb⟩:=this
            rw [Bool.false_and] at hb
            exact ih _ _ _ hb
        refine ⟨false,rfl,?_⟩
        rw [Bool.and_false] at hk2 ⊢
        exact this _ _ _ _ hk2
       |true=>
        simp only [Bool.not_true,Bool.false_eq_true,if_false]
        rw [Bool.and_true] at hk2
        refine agg_run fs (o+1) r xs ys acc k hr hk2 (fun i hi=> ?_) (fun i hi=> ?_) (by omega) (by omega)
        · have:=hx (i+1) (by simpa using hi)
          rw [show o+1+i=o+(i+1) by omega];simpa using this
        · have:=hy (i+1) (by simpa using hi)
          rw [show o+1+i=o+(i+1) by omega];simpa using this
    split at hf
    · rename_i i hu
      obtain ⟨r,hr,rfl⟩:=Option.map_eq_some_iff.1 hf
      refine key _ r hr rfl (by simp [aggOf,hu]) (by simp [hu]) fun x y u v k' hx hy hk'=> ?_
      unfold sCellE at hk'
      split at hk'
      · rename_i e;cases e
        obtain ⟨rfl,_⟩:=rv_val hx
        obtain ⟨rfl,_⟩:=rv_val hy
        obtain ⟨⟨rfl,rfl⟩,hk2⟩:=hk'
        exact ⟨_,run_equalIn_int w d f.type _ _ _ _ hu,hk2⟩
      · rename_i e;cases e
      · rename_i e;cases e
      · exact hk'.elim
    · rename_i hu
      obtain ⟨r,hr,rfl⟩:=Option.map_eq_some_iff.1 hf
      refine key _ r hr rfl (by simp [aggOf,hu]) (by simp [hu]) fun x y u v k' hx hy hk'=> ?_
      unfold sCellE at hk'
      split at hk'
      · rename_i e;cases e
      · obtain ⟨rfl,_⟩:=rv_val hx
        obtain ⟨rfl,_⟩:=rv_val hy
        exact ⟨_,run_equalIn_bool' w d f.type _ _ hu,hk'⟩
      · rename_i e;cases e
      · exact hk'.elim
    · rename_i hu
      obtain ⟨r,hr,rfl⟩:=Option.map_eq_some_iff.1 hf
      refine key _ r hr rfl (by simp [aggOf,hu]) (by simp [hu]) fun x y u v k' hx hy hk'=> ?_
      unfold sCellE at hk'
      split at hk'
      · rename_i e;cases e
      · rename_i e;cases e
      · obtain ⟨rfl,_⟩:=rv_val hx
        obtain ⟨rfl,_⟩:=rv_val hy
        exact ⟨_,run_equalIn_string w d f.type _ _ hu,hk'⟩
      · exact hk'.elim
    · cases hf
  · cases hf
theorem run_binS {op:BinOp} {t:TypeId} {x y:AV} {u v:Value} (hx:RV w S φ x u) (hy:RV w S φ y v) {ox oy:Operand} {k:AV→Prop} {rest:Prop} (h:sBinS P t op x y k rest)
 (hr:rest→∃r,(do eqGuard op t ox oy u v;binOp op t u v:Sem Value).run P w= .ok r w∧Scal k r):∃r,(do eqGuard op t ox oy u v;binOp op t u v:Sem Value).run P w= .ok r w∧Scal k r:=by
 unfold sBinS at h
 split at h
 · rename_i xs ys
   unfold sFK at h
   split at h
   · rename_i ks hks
     unfold flatK at hks
     split at hks
     · rename_i hst
       split at hks
       · rename_i fs hfs
         obtain ⟨cs,rfl,hc1,_,hc2⟩:=rv_agg hx
         obtain ⟨ds,rfl,hd1,_,hd2⟩:=rv_agg hy
         have hfo:P.fieldsOf t=fs:=by simp [Program.fieldsOf,hfs]
         obtain ⟨c,h1,h2⟩:=agg_run (d:=9998) (cs:=cs) (ds:=ds) fs.toList 0 ks xs ys true _ hks h (fun i hi=>by rw [q28];exact hc2 i hi) (fun i hi=>by rw [q28];exact hd2 i hi) (by omega) (by omega)
         have he:(Op.equalIn 10000 t (.agg cs) (.agg ds)).run P w= .ok c w:=by
          rw [run_equalIn_agg w 9999 t cs ds (by rw [hfo];exact hfs) hst.1,hfo];exact h1
         rw [Bool.true_and] at h2
         unfold sEqR at h2
         split at h2
         · exact ⟨.bool c,by simp only [Sem.run_bind,run_eqGuard_agg w _ t ox oy cs ds hst.2,Result.andThen_ok,run_eql_struct,he],rfl,h2⟩
         · exact ⟨.bool (!c),by simp only [Sem.run_bind,run_eqGuard_agg w _ t ox oy cs ds hst.2,Result.andThen_ok,run_neq_struct,he],rfl,h2⟩
         · exact h2.elim
       · cases hks
     · cases hks
   · exact h.elim
 · obtain ⟨rfl,_⟩:=rv_val hx
   obtain ⟨rfl,_⟩:=rv_val hy
   have hg:(eqGuard op t ox oy .nilFunc .nilFunc).run P w= .ok () w:=by cases op<;>simp [eqGuard]
   unfold sOptB at h
   split at h
   · rename_i c hc
     unfold fnRes at hc
     split at hc
     · rename_i hu
       injection hc with hc
       subst hc
       have e2:∀(d:Nat),(Op.equalIn (d+1) t .nilFunc .nilFunc).run P w= .ok true w:=fun d=>by rw [Op.equalIn];simp [run_underlying hu]
       exact ⟨_,(by simp only [Sem.run_bind,hg,Result.andThen_ok,binOp,Op.equal,Op.maxDepth];simp [e2]),rfl,h⟩
     · rename_i hu
       injection hc with hc
       subst hc
       have e2:∀(d:Nat),(Op.equalIn (d+1) t .nilFunc .nilFunc).run P w= .ok true w:=fun d=>by rw [Op.equalIn];simp [run_underlying hu]
       exact ⟨_,(by simp only [Sem.run_bind,hg,Result.andThen_ok,binOp,Op.equal,Op.maxDepth];simp [e2]),rfl,h⟩
     · cases hc
   · exact h.elim
 · exact hr h
end
end Go.Vc
namespace Go.Vc
theorem Addr.add_none (b o n:Nat):(⟨b,o,none⟩:Addr).add n=⟨b,o+n,none⟩:=by
 unfold Addr.add;split<;>simp_all
theorem cell_at {w:World} {b:Nat} {cs:Array Value} {e:TypeId} {fr:Nat × Nat} (hb:w.heap[b]? =some (.cells cs e fr)) (o:Nat) (ho:o<cs.size):
 w.cell? ⟨b,o,none⟩=some (cs.toList.getD o Go.undef):=by
 have h1:cs[o]? =some cs[o]:=Array.getElem?_eq_getElem ho
 have h2:cs.toList.getD o Go.undef=cs[o]:=by
  rw [q4,Array.getElem?_toList,h1];rfl
 rw [h2]
 simp [World.cell?,hb,h1]
theorem list_take_getD {l:List Value} {o n:Nat} (h:o+n≤l.length):(List.range n).map (fun j=>l.getD (o+j) Go.undef)=(l.drop o).take n:=by
 apply List.ext_getElem
 · simp;omega
 · intro i h1 h2
   simp only [List.length_map,List.length_range] at h1
   simp only [List.getElem_map,List.getElem_range,q9,q7]
   rw [q4,q5 (by omega)]
   rfl
theorem run_loadCells_at {P:Program} {w:World} {b:Nat} {cs:Array Value} {e:TypeId} {fr:Nat × Nat} (hb:w.heap[b]? =some (.cells cs e fr)) (o n:Nat) (ho:o+n≤cs.size):
 (loadCells ⟨b,o,none⟩ n).run P w= .ok ((cs.toList.drop o).take n).toArray w:=by
 have h:=run_loadCells (P:=P) w ⟨b,o,none⟩ n (fun j=>cs.toList.getD (o+j) Go.undef) (by
  intro j hj
  rw [Addr.add_none]
  exact cell_at hb (o+j) (by omega))
 rw [h,list_take_getD (by simpa using ho)]
theorem isAgg_run {P:Program} {t:TypeId} {ti:TI} (ht:tiOf P t=some ti) (w:World):(isAgg t).run P w= .ok ti.agg w:=by
 obtain ⟨i,d,z,hi,hd,hz,ha,_⟩:=kind_of ht
 rw [ha]
 unfold isAgg aggOf
 simp only [Sem.run_bind,run_underlying hd,Result.andThen_ok,hd]
 cases d<;>rfl
theorem sizeOf_run {P:Program} {t:TypeId} {ti:TI} (ht:tiOf P t=some ti) (w:World):(sizeOf t).run P w= .ok ti.size w:=by
 obtain ⟨i,d,z,hi,hd,hz,ha,hs,_⟩:=kind_of ht
 simp [sizeOf,typeInfo,hi,hs]
theorem run_loadVar_at {P:Program} {w:World} {t:TypeId} {ti:TI} (ht:tiOf P t=some ti) {b:Nat} {cs:Array Value} {e:TypeId} {fr:Nat × Nat}
 (hb:w.heap[b]? =some (.cells cs e fr)) (o:Nat) (h1:ti.agg=true→o+ti.size≤cs.size) (h2:ti.agg=false→o<cs.size):
 (loadVar t ⟨b,o,none⟩).run P w= .ok (elemV cs.toList o ti.sh) w:=by
 unfold loadVar
 simp only [Sem.run_bind,isAgg_run ht,Result.andThen_ok]
 cases hag:ti.agg with
 |true=>
  simp [sizeOf_run ht,run_loadCells_at (P:=P) hb o ti.size (h1 hag),elemV,TI.sh,hag]
 |false=>
  simp [cell_at hb o (h2 hag),elemV,TI.sh,hag]
theorem sPart_out {ag:Bool} {n j:Nat} {x:AV} {k:AV→Prop} (h:sPart ag n j x k):∃y,k y∧∀k':AV→Prop,k' y→sPart ag n j x k':=by
 cases ag with
 |true=>
  cases x with
  |agg ys=>exact ⟨_,h.2,fun k' hk=>⟨h.1,hk⟩⟩
  |_=>exact h.elim
 |false=>
  cases x with
  |agg ys=>
   simp only [sPart] at h ⊢
   cases hy:ys[j]? with
   |none=>rw [hy] at h;exact h.elim
   |some y=>rw [hy] at h;exact ⟨y,h,fun k' hk=>hk⟩
  |undef=>exact h.elim
  |tup xs=>exact h.elim
  |_=>exact ⟨_,h.2,fun k' hk=>⟨h.1,hk⟩⟩
section
variable {w:World} {S:Nat→Prop} {φ:Nat→LS}
theorem elemV_agg (l:List Value) (o n:Nat):elemV l o ⟨n,true⟩= .agg ((l.drop o).take n).toArray:=rfl
theorem elemV_cell (l:List Value) (o n:Nat):elemV l o ⟨n,false⟩=l.getD o Go.undef:=rfl
theorem getD_drop_take (l:List Value) (o n i:Nat) (h:i<n):((l.drop o).take n).getD i Go.undef=l.getD (o+i) Go.undef:=by
 simp only [q4,List.getElem?_take,List.getElem?_drop,h,if_true]
theorem part_rv {R:AV→Value→Prop} (hagg:∀xs v,R (.agg xs) v→∃cs:Array Value,v= .agg cs∧cs.size=xs.length∧(∀i (h:i<xs.length),leaf xs[i])∧∀i (h:i<xs.length),R xs[i] (cs.toList.getD i Go.undef))
 (hmk:∀(xs:List AV) (cs:Array Value),cs.size=xs.length→(∀i (h:i<xs.length),leaf xs[i])→(∀i (h:i<xs.length),R xs[i] (cs.toList.getD i Go.undef))→R (.agg xs) (.agg cs))
 {sh:Sh} {x:AV} {l:List Value} {o:Nat} (hx:R x (elemV l o sh)) (hf:fits sh x) (hlen:o+sh.sz≤l.length) {ag:Bool} {n j:Nat} {k:AV→Prop} (h:sPart ag n j x k):
 (ag=true→o+j+n≤l.length)∧(ag=false→o+j<l.length)∧∃y,R y (elemV l (o+j) ⟨n,ag⟩)∧k y:=by
 cases x with
 |agg ys=>
  obtain ⟨hag,hsz⟩:=hf
  cases sh with
  |mk sz ag'=>
  simp only at hag hsz hlen
  subst hag
  obtain ⟨cs,hcs,hl,hlf,hr⟩:=hagg ys _ hx
  rw [elemV_agg] at hcs
  cases hcs
  cases ag with
  |true=>
   obtain ⟨h1,h2⟩:=h
   refine ⟨fun _=>(by omega),fun h=>(by cases h),_,?_,h2⟩
   rw [elemV_agg]
   refine hmk _ _ (by simp;omega) (fun i hi=> ?_) fun i hi=> ?_
   · simp only [q13,q11] at hi
     simp only [q9,q7]
     exact hlf _ (by omega)
   · simp only [q13,q11] at hi
     simp only [q9,q7]
     have:=hr (j+i) (by omega)
     rw [getD_drop_take _ _ _ _ (by omega),Nat.add_assoc]
     rwa [getD_drop_take _ _ _ _ (by omega)] at this
  |false=>
   simp only [sPart] at h
   cases hj:ys[j]? with
   |none=>rw [hj] at h;exact h.elim
   |some y=>
    rw [hj] at h
    obtain ⟨hj1,hj2⟩:=q6.1 hj
    refine ⟨fun h=>(by cases h),fun _=>(by omega),y,?_,h⟩
    have:=hr j hj1
    rw [hj2] at this
    rw [elemV_cell]
    rwa [getD_drop_take _ _ _ _ (by omega)] at this
 |undef=>exact hf.elim
 |tup xs=>exact hf.elim
 |_=>
  obtain ⟨hag,hsz⟩:=hf
  cases sh with
  |mk sz ag'=>
  simp only at hag hsz hlen
  subst hag
  cases ag with
  |true=>exact h.elim
  |false=>
   obtain ⟨rfl,h2⟩:=h
   exact ⟨fun h=>(by cases h),fun _=>(by omega),_,hx,h2⟩
theorem rd_agg {xs:List AV} {v:Value} (h:Rd w S (.agg xs) v):∃cs:Array Value,v= .agg cs∧cs.size=xs.length∧(∀i (h:i<xs.length),leaf xs[i])∧∀i (h:i<xs.length),Rd w S xs[i] (cs.toList.getD i Go.undef):=by
 cases h with|agg _ cs hl hf hv=>exact ⟨cs,rfl,hl,hf,hv⟩
theorem part_rd {sh:Sh} {x:AV} {l:List Value} {o:Nat} (hx:Rd w S x (elemV l o sh)) (hf:fits sh x) (hlen:o+sh.sz≤l.length) {ag:Bool} {n j:Nat} {k:AV→Prop} (h:sPart ag n j x k):
 (ag=true→o+j+n≤l.length)∧(ag=false→o+j<l.length)∧∃y,Rd w S y (elemV l (o+j) ⟨n,ag⟩)∧k y:=
 part_rv (R:=Rd w S) (fun _ _ h=>rd_agg h) (fun xs cs h1 h2 h3=>.agg xs cs h1 h2 h3) hx hf hlen h
theorem labs_rd {x:AV} {v:Value} (h:Rd w S x v):labs x=[]:=by
 have key:∀xs:List AV,(∀i (h:i<xs.length),labs xs[i]=[])→labsL xs=[]:=by
  intro xs
  induction xs with
  |nil=>intro _;rfl
  |cons x r ih=>
   intro h
   simp only [labsL]
   rw [show labs x=[] from h 0 (by simp),ih fun i hi=>h (i+1) (by simpa using hi)]
   rfl
 induction h with
 |agg xs cs hl hf _ ih=>simp only [labs];exact key xs ih
 |tup xs cs hl _ ih=>simp only [labs];exact key xs ih
 |clo f xs cs hl _ ih=>simp only [labs];exact key xs ih
 |_=>rfl
end
section
variable {P:Program} {B:Base} {N:Nat} {φ:Nat→LS} {fp:Nat→List Nat} {S:Nat→Prop} {ts:Env} {m:Mem} {a:Act} {w:World}
theorem mul_le_of_lt {i n s:Nat} (h:i<n):i*s+s≤n*s:=by
 have:=q25 s (show i+1≤n from h)
 rw [q21,Nat.one_mul] at this;exact this
theorem flat_rd {S S':Nat→Prop} {x:AV} {v:Value} {fs:List Nat} (h:Own w S x v fs) (hf:isFlat x=true):Rd w S' x v∧fs=[]:=by
 have rdc:∀(x:AV) (v:Value),Rd w S x v→isFlat x=true→Rd w S' x v:=by
  intro x v h
  induction h with
  |val v h=>exact fun _=>.val v h
  |e0 a=>exact fun _=>.e0 a
  |agg xs cs hl hf' _ ih=>
   intro hf
   have hall:∀(xs:List AV),isFlatL xs=true→∀i (h:i<xs.length),isFlat xs[i]=true:=by
    intro xs
    induction xs with
    |nil=>intro _ i h;exact absurd h (q27 _)
    |cons x r ih2=>
     intro hh i hi
     simp only [isFlatL,Bool.and_eq_true] at hh
     cases i with
     |zero=>exact hh.1
     |succ i=>exact ih2 hh.2 i (by simpa using hi)
   exact .agg xs cs hl hf' fun i hi=>ih i hi (hall xs hf i hi)
  |_=>intro hf;cases hf
 induction h with
 |rd x v h=>exact ⟨rdc x v h hf,rfl⟩
 |agg xs cs fss hl hlf hs _ ih=>
  have hall:∀(xs:List AV),isFlatL xs=true→∀i (h:i<xs.length),isFlat xs[i]=true:=by
   intro xs
   induction xs with
   |nil=>intro _ i h;exact absurd h (q27 _)
   |cons x r ih2=>
    intro hh i hi
    simp only [isFlatL,Bool.and_eq_true] at hh
    cases i with
    |zero=>exact hh.1
    |succ i=>exact ih2 hh.2 i (by simpa using hi)
  refine ⟨.agg xs cs hl hlf fun i hi=>(ih i hi (hall xs hf i hi)).1,?_⟩
  have:∀l,l∈fss→l=[]:=by
   intro l hl
   obtain ⟨i,hi,rfl⟩:=List.getElem_of_mem hl
   have:=(ih i (hs▸hi) (hall xs hf i (hs▸hi))).2
   rwa [q4,q5 hi] at this
  exact q3.2 this
 |arr=>cases hf
 |tup=>cases hf
theorem RS.undeep (h:RS B N φ fp S ts m a w) {l v b cap:Nat} {sh:Sh} {xs:List AV} (hlk:lookB m l=some (.row v sh true xs)) (hφ:φ l= .at b sh v) {cs:Array Value} {e:El} {fss:List (List Nat)}
 (hgf:fp l=b::fss.flatten) (hheap:w.heap[b]? =some (celO cs e)) (hcs:cs.size=cap*sh.sz) (hcap:xs.length≤cap) (hmx:cap≤maxLen) (hff:∀i (h:i<xs.length),fits sh xs[i])
 (hfl:fss.length=xs.length) (hvv:∀i (h:i<xs.length),Own w (fun _=>False) xs[i] (elemV cs.toList (i*sh.sz) sh) (fss.getD i [])) (hio:l<ioL):
 ∃S',RS B N (upd φ l (φ l)) (upd fp l [b]) S' ts ((l,.row v sh false xs)::m) a w∧(∀c,S c→S' c)∧∀c,c∈fss.flatten→S' c:=by
 refine ⟨fun c=>S c∨c∈fss.flatten,?_,fun _ h=>.inl h,fun _ h=>.inr h⟩
 have hnod:=h.nod l
 rw [hgf] at hnod
 have hb1:b∉fss.flatten:=(q17.1 hnod).1
 have hin:∀c,c∈fss.flatten→c∈fp l:=fun c hc=>by rw [hgf];exact q14 _ hc
 have hbin:b∈fp l:=by rw [hgf];exact q15 ..
 refine h.next l (φ l) [b] _ (.row v sh false xs) (q22 _) (SameOut.refl _) (Szs.refl _) (fun _ _ _=>rfl) (fun c hc=>⟨.inl hc,rfl⟩) ?_ (fun l b sh ver cs e _ hb=>⟨cs,e,hb,rfl⟩) (fun _ _ _ _=>rfl) (fun ver _=>LS.le_refl _ _) ?_ ?_ (fun _ _ hk=>by cases hk) (by simp) ?_
 · intro c h1 h2
   rcases h1 with h1|h1
   · exact absurd h1 h2
   · have:=h.fpB l c (hin c h1)
     exact ⟨this.1,.inl (this.2.resolve_right fun hh=>q23 _ (q24 hio hh.choose_spec.2.1)),fun l' hl' hc=>hl' (h.dis l' l c hc (hin c h1))⟩
 · rintro ver ⟨k',h1,h2⟩
   rw [hlk] at h1;cases h1;exact h2
 · refine .inr ⟨b,cap,by rw [upd_same];exact hφ,by simp,fun _=>rfl,?_⟩
   have:[b]=b::(List.replicate xs.length ([]:List Nat)).flatten:=by
    congr 1
    exact (q3.2 fun l hl=>(List.mem_replicate.1 hl).2).symm
   rw [this]
   refine .arr sh xs b cap cs e _ hheap hcs hcap hmx hff (by simp) fun i hi=> ?_
   have e1:(List.replicate xs.length ([]:List Nat)).getD i []=[]:=by simp [q4,hi]
   rw [e1]
   exact .rd _ _ ((hvv i hi).rd_of (fun _ h=>h.elim) fun c hc=>.inr (mem_flatten_getD (hfl▸hi) hc))
 · intro c hc
   have hcb:c=b:=by simpa using hc
   subst hcb
   have:=h.fpB l c hbin
   refine ⟨fun hs=> ?_,fun l' hl' hc=>hl' (h.dis l' l c hc hbin),this.1,this.2⟩
   rcases hs with hs|hs
   · exact h.notS l c hbin hs
   · exact hb1 hs
theorem run_load {t:TypeId} {ti:TI} (ht:tiOf P t=some ti) (h:RS B N φ fp S ts m a w) {p:AV} {v:Value} (hp:RV w S φ p v) (hpl:∀l ver,(l,ver)∈labs p→known m l ver) {k:AV→Mem→Prop}
 (hk:sLoad ti.agg ti.size p m k):Runs B N a (fun x ts' m'=>ts'=ts∧k x m') ((Instr.loadAt t v).run P w):=by
 have hsure:∀(b o:Nat) (r:Value),(loadVar t ⟨b,o,none⟩).run P w= .ok r w→(Instr.loadAt t (.pointer (some ⟨b,o,none⟩))).run P w= .ok r w:=by
  intro b o r hr
  simp [Instr.loadAt,Instr.sureAddr,hr]
 unfold sLoad at hk
 split at hk
 · rename_i l ver i j
   have hp1:=rv_ptr hp
   unfold sLoadB at hk
   split at hk
   · rename_i v' xs hlk
     obtain ⟨rfl,rfl,hk⟩:=hk
     have hb:=h.mSome l _ hlk
     obtain ⟨b,cs,e,sh,hφ,hfs,hheap,hsz,hlf,hr⟩:=hb
     have hpv:=hp1 b sh hφ
     rw [Nat.zero_mul,q28] at hpv
     subst hpv
     cases hag:ti.agg with
     |true=>
      simp only [hag,if_true] at hk
      obtain ⟨hlen,hk⟩:=hk
      refine ⟨_,w,hsure _ _ _ (run_loadVar_at ht hheap j (fun _=>by omega) (fun h=>by rw [hag] at h;cases h)),?_⟩
      refine h.gives (x:=.agg ((xs.drop j).take ti.size)) ?_ ?_ ⟨rfl,hk⟩
      · rw [show ti.sh=⟨ti.size,true⟩ by simp [TI.sh,hag],elemV_agg]
        refine .agg _ _ (by simp;omega) (fun i hi=> ?_) fun i hi=> ?_
        · simp only [q13,q11] at hi
          simp only [q9,q7]
          exact hlf _ (by omega)
        · simp only [q13,q11] at hi
          simp only [q9,q7]
          rw [getD_drop_take _ _ _ _ (by omega)]
          exact hr (j+i) (by omega)
      · intro l' ver' hl'
        simp only [labs] at hl'
        obtain ⟨i,hi,hl2⟩:=of_mem_labsL hl'
        simp only [q13,q11] at hi
        simp only [q9,q7] at hl2
        exact h.bl l v' xs hlk l' ver' (mem_labsL (by omega) hl2)
     |false=>
      simp only [hag,if_false,Bool.false_eq_true] at hk
      cases hj:xs[j]? with
      |none=>rw [hj] at hk;exact hk.elim
      |some y=>
       rw [hj] at hk
       obtain ⟨hj1,hj2⟩:=q6.1 hj
       refine ⟨_,w,hsure _ _ _ (run_loadVar_at ht hheap j (fun h=>by rw [hag] at h;cases h) (fun _=>by omega)),?_⟩
       refine h.gives (x:=y) ?_ ?_ ⟨rfl,hk⟩
       · rw [show ti.sh=⟨ti.size,false⟩ by simp [TI.sh,hag],elemV_cell]
         have:=hr j hj1
         rwa [hj2] at this
       · intro l' ver' hl'
         exact h.bl l v' xs hlk l' ver' (mem_labsL hj1 (by rw [hj2];exact hl'))
   · rename_i v' sh deep xs hlk
     obtain ⟨rfl,hk⟩:=hk
     cases hx:xs[i]? with
     |none=>rw [hx] at hk;exact hk.elim
     |some x=>
      rw [hx] at hk
      obtain ⟨y0,hk0,hput⟩:=sPart_out (k:=fun y=>sUndeep deep (isFlat x) l (.row v' sh false xs) m fun m'=>k y m') hk
      obtain ⟨hi1,hi2⟩:=q6.1 hx
      have hb:=h.mSome l _ hlk
      rcases hb with ⟨_,hnil,_⟩|⟨b,cap,hφ,hbm,hdp,hown⟩
      · subst hnil;exact absurd hi1 (q27 _)
      · have hpv:=hp1 b sh hφ
        subst hpv
        generalize hgf:fp l=fs at hown hbm hdp
        cases hown with
        |rd _ _ hrd=>
         exact absurd hbm (by simp)
        |arr _ _ _ _ cs e fss hheap hcs hcap hmx hff hfl hvv=>
         have hxo:=hvv i hi1
         have hxf:=hff i hi1
         rw [hi2] at hxo hxf
         have hroom:i*sh.sz+sh.sz≤cs.toList.length:=by
          have h1:=mul_le_of_lt (s:=sh.sz) (q24 hi1 hcap)
          simp only [q0];omega
         have main:∀(S':Nat→Prop) (m':Mem) (φ':Nat→LS) (fp':Nat→List Nat),RS B N φ' fp' S' ts m' a w→Rd w S' x (elemV cs.toList (i*sh.sz) sh)→
          sPart ti.agg ti.size j x (fun y=>k y m')→
          Runs B N a (fun x ts' m'=>ts'=ts∧k x m') ((Instr.loadAt t (.pointer (some ⟨b,i*sh.sz+j,none⟩))).run P w):=by
          intro S' m' φ' fp' hRS hrd hpt
          obtain ⟨g1,g2,y,hy,hky⟩:=part_rd hrd hxf hroom hpt
          refine ⟨_,w,hsure _ _ _ (run_loadVar_at ht hheap (i*sh.sz+j) (fun h=>by simpa using g1 h) (fun h=>by simpa using g2 h)),?_⟩
          exact hRS.gives (x:=y) (.rd _ _ hy) (fun l' ver' hl'=>by rw [labs_rd hy] at hl';cases hl') ⟨rfl,hky⟩
         cases hdeep:deep with
         |false=>
          subst hdeep
          have hfs:=hdp rfl
          have hfl0:fss.getD i []=[]:=by
           have h1:fss.flatten=[]:=by simpa using hfs
           have h2:=q3.1 h1
           rw [q4,q5 (hfl▸hi1)]
           exact h2 _ (List.getElem_mem _)
          rw [hfl0] at hxo
          exact main S m φ fp h (hxo.rd_of (fun _ h=>h) (by simp)) (hput _ (by simpa [sUndeep] using hk0))
         |true=>
          subst hdeep
          cases hflat:isFlat x with
          |true=>exact main S m φ fp h (flat_rd hxo hflat).1 (hput _ (by simpa [sUndeep,hflat] using hk0))
          |false=>
           simp only [hflat,sUndeep,and_self,if_true] at hk0
           obtain ⟨S',hRS,hS1,hS2⟩:=h.undeep hlk hφ hgf hheap hcs hcap hmx hff hfl hvv hk0.1
           exact main S' _ _ _ hRS (hxo.rd_of (fun _ h=>h.elim) fun c hc=>hS2 c (mem_flatten_getD (hfl▸hi1) hc)) (hput _ hk0.2)
   · rename_i v' sh xs u0 hlk
     obtain ⟨rfl,hk⟩:=hk
     cases hx:xs[i]? with
     |none=>rw [hx] at hk;exact hk.elim
     |some x=>
      rw [hx] at hk
      obtain ⟨hflat,hk⟩:=hk
      obtain ⟨hi1,hi2⟩:=q6.1 hx
      obtain ⟨b,cap,hφ,hbm,hu,hown⟩:=h.mSome l _ hlk
      have hpv:=hp1 b sh hφ
      subst hpv
      subst hu
      generalize hgf:fp l=fs at hown hbm
      cases hown with
      |rd _ _ hrd=>exact absurd hbm (by simp)
      |arr _ _ _ _ cs e fss hheap hcs hcap hmx hff hfl hvv=>
       have hxo:=hvv i hi1
       have hxf:=hff i hi1
       rw [hi2] at hxo hxf
       have hroom:i*sh.sz+sh.sz≤cs.toList.length:=by
        have h1:=mul_le_of_lt (s:=sh.sz) (q24 hi1 hcap)
        simp only [q0];omega
       obtain ⟨g1,g2,y,hy,hky⟩:=part_rd (k:=fun y=>k y m) (flat_rd (S':=S) hxo hflat).1 hxf hroom hk
       refine ⟨_,w,hsure _ _ _ (run_loadVar_at ht hheap (i*sh.sz+j) (fun h=>by simpa using g1 h) (fun h=>by simpa using g2 h)),?_⟩
       exact h.gives (x:=y) (.rd _ _ hy) (fun l' ver' hl'=>by rw [labs_rd hy] at hl';cases hl') ⟨rfl,hky⟩
   · exact hk.elim
 · rename_i sh xs i j
   have hrd:=rv_eptr hp
   cases hx:xs[i]? with
   |none=>rw [hx] at hk;exact hk.elim
   |some x=>
    rw [hx] at hk
    obtain ⟨hi1,hi2⟩:=q6.1 hx
    cases hrd with
    |eptr _ _ _ _ b off cs e fr hSb hheap hlen hff hvv=>
     have hxo:=hvv i hi1
     have hxf:=hff i hi1
     rw [hi2] at hxo hxf
     have hroom:off+i*sh.sz+sh.sz≤cs.toList.length:=by
      have h1:=mul_le_of_lt (s:=sh.sz) hi1
      simp only [q0];omega
     obtain ⟨g1,g2,y,hy,hky⟩:=part_rd (k:=fun y=>k y m) hxo hxf hroom hk
     refine ⟨_,w,hsure _ _ _ (run_loadVar_at ht hheap (off+i*sh.sz+j) (fun h=>by simpa using g1 h) (fun h=>by simpa using g2 h)),?_⟩
     exact h.gives (x:=y) (.rd _ _ hy) (fun l' ver' hl'=>by rw [labs_rd hy] at hl';cases hl') ⟨rfl,hky⟩
 · exact hk.elim
theorem part_fits {x:AV} {sh:Sh} (hs:sh.ag=false) (hx:fits sh x) {n j:Nat} {k:AV→Prop} (hk:sPart false n j x k):j=0∧k x:=by
 cases x<;>first|exact hk|exact hx.elim|(have:=hx.1;rw [hs] at this;cases this)
theorem run_loadX {t:TypeId} {ti:TI} (ht:tiOf P t=some ti) (h:RS B N φ fp S ts m a w) {p:AV} {v:Value} (hp:RV w S φ p v) (hpl:∀l ver,(l,ver)∈labs p→known m l ver) {k:AV→Mem→Prop}
 (hk:sLoadX ti.agg ti.size p m k):Runs B N a (fun x ts' m'=>ts'=ts∧k x m') ((Instr.loadAt t v).run P w):=by
 cases p with
 |eptr sh xs i j=>exact run_load ht h hp hpl hk
 |ptr l ver i j=>
  have hk1:if l<ioL then sLoadB ti.agg ti.size l ver i j (lookB m l) m k else sLoadI ti.agg ti.size l ver i j (lookB m l) m k:=hk
  split at hk1
  · exact run_load ht h hp hpl hk1
  · unfold sLoadI at hk1
    split at hk1
    · rename_i v' dp xs hag hlk
      obtain ⟨rfl,hk2⟩:=hk1
      cases hx:xs[i]? with
      |none=>rw [hx] at hk2;exact hk2.elim
      |some x=>
       rw [hx] at hk2
       have hk2:sPart false ti.size j x fun y=>sLend dp (isFlat x) y l v' xs i m k:=hk2
       obtain ⟨hi1,hi2⟩:=q6.1 hx
       have hb:=h.mSome l _ hlk
       rcases hb with ⟨_,hnil,_⟩|⟨b,cap,hφ,hbm,hdp,hown⟩
       · subst hnil;exact absurd hi1 (q27 _)
       · have hown0:=hown
         generalize hgf:fp l=fs at hown hbm hdp
         cases hown with
         |rd _ _ hrd=>exact absurd hbm (by simp)
         |arr _ _ _ _ cs e fss hheap hcs hcap hmx hff hfl hvv=>
          have hxf:=hff i hi1
          rw [hi2] at hxf
          by_cases hc:dp=true∧isFlat x=false
          · obtain ⟨hj0,hk3⟩:=part_fits (sh:=⟨1,false⟩) rfl hxf hk2
            subst hj0
            unfold sLend at hk3
            rw [if_pos hc] at hk3
            obtain ⟨rfl,hfl2⟩:=hc
            have hpv:=rv_ptr hp b _ hφ
            simp only [q26,Nat.add_zero] at hpv
            subst hpv
            have hi3:i<cs.toList.length:=by
             simp only [q0];rw [hcs];simp only [q26];exact q24 hi1 hcap
            have hRS:RS B N (upd φ l (φ l)) (upd fp l (fp l)) S ts ((l,.lent v' xs i (cs.toList.getD i Go.undef))::m) a w:=by
             refine h.next l (φ l) (fp l) S _ (q22 _) (SameOut.refl _) (Szs.refl _) (fun _ _ _=>rfl) (fun c hc=>⟨hc,rfl⟩) (fun c h1 h2=>absurd h1 h2) (fun l b sh ver cs e _ hb=>⟨cs,e,hb,rfl⟩)
              (fun _ _ _ _=>rfl) (fun ver _=>LS.le_refl _ _) ?_ ?_ (fun _ _ hk=>by cases hk) (h.nod l) ?_
             · rintro ver ⟨k',h1,h2⟩
               rw [hlk] at h1;cases h1;exact h2
             · exact ⟨b,cap,cs,e.1,frOf e cs.size,by rw [upd_same];exact hφ,by rw [hgf];exact hbm,hown0,hheap,hi1,rfl⟩
             · intro c hc
               have:=h.fpB l c hc
               exact ⟨h.notS l c hc,fun l' hl' hc'=>hl' (h.dis l' l c hc' hc),this.1,this.2⟩
            have hsure:∀(b o:Nat) (r:Value),(loadVar t ⟨b,o,none⟩).run P w= .ok r w→(Instr.loadAt t (.pointer (some ⟨b,o,none⟩))).run P w= .ok r w:=by
             intro b o r hr
             simp [Instr.loadAt,Instr.sureAddr,hr]
            have hxo:=hvv i hi1
            rw [hi2,elemV_cell] at hxo
            have e0:(cs.toList.getD (i*1) Go.undef)=cs.toList.getD i Go.undef:=by rw [q26]
            rw [e0] at hxo
            have hlx:leaf x:=by
             cases x<;>first|trivial|exact hxf.elim|(have:=hxf.1;cases this)
            refine ⟨_,w,hsure _ _ _ (run_loadVar_at ht hheap i (fun h=>by rw [hag] at h;cases h) (fun _=>hi3)),?_⟩
            rw [show ti.sh=⟨ti.size,false⟩ by simp [TI.sh,hag],elemV_cell]
            exact hRS.gives (x:=.val (cs.toList.getD i Go.undef)) (.rd _ _ (.val _ (hxo.leaf_oneCell hlx))) (fun l' ver' hl'=>by cases hl') ⟨rfl,hk3 _⟩
          · unfold sLend at hk2
            simp only [if_neg hc] at hk2
            refine run_load ht h hp hpl (k:=k) ?_
            show sLoadB ti.agg ti.size l v' i j (lookB m l) m k
            rw [hlk,hag]
            refine ⟨rfl,?_⟩
            rw [hx]
            show sPart false ti.size j x fun y=>sUndeep dp (isFlat x) l (.row v' ⟨1,false⟩ false xs) m fun m'=>k y m'
            unfold sUndeep
            simp only [if_neg hc];exact hk2
    · exact run_load ht h hp hpl hk1
 |_=>exact hk.elim
end
end Go.Vc
namespace Go.Vc
theorem splice_getD (l vs:List Value) (o k:Nat) (h:o+vs.length≤l.length):
 (l.take o++vs++l.drop (o+vs.length)).getD k Go.undef=if o≤k∧k<o+vs.length then vs.getD (k-o) Go.undef else l.getD k Go.undef:=by
 simp only [q4,List.append_assoc,List.getElem?_append,q13,List.getElem?_take,List.getElem?_drop]
 have h1:min o l.length=o:=by omega
 rw [h1]
 by_cases ha:k<o
 · simp [ha,show ¬(o≤k) by omega]
 · by_cases hb:k<o+vs.length
   · simp [ha,hb,show o≤k by omega,show k-o<vs.length by omega]
   · simp only [ha,hb,if_false,and_false,show ¬(k-o<vs.length) by omega]
     rw [show o+vs.length+(k-o-vs.length)=k by omega]
theorem splice_length (l vs:List Value) (o:Nat) (h:o+vs.length≤l.length):(l.take o++vs++l.drop (o+vs.length)).length=l.length:=by
 simp;omega
theorem setL_length (ys:List AV):∀(xs:List AV) (j:Nat),(setL xs j ys).length=xs.length:=by
 induction ys with
 |nil=>intro xs j;rfl
 |cons y r ih=>intro xs j;rw [setL_cons,ih,q12]
theorem setL_getElem? (ys:List AV):∀(xs:List AV) (j i:Nat),j+ys.length≤xs.length→(setL xs j ys)[i]? =if j≤i∧i<j+ys.length then ys[i-j]? else xs[i]? :=by
 induction ys with
 |nil=>
  intro xs j i _
  rw [setL_nil,if_neg (by simp only [List.length_nil];omega)]
 |cons y r ih=>
  intro xs j i h
  simp only [List.length_cons] at h ⊢
  rw [setL_cons,ih _ _ _ (by rw [q12];omega),List.getElem?_set]
  by_cases h1:i=j
  · subst h1
    simp [show ¬(i+1≤i) by omega,show i<xs.length by omega]
  · by_cases h2:j+1≤i∧i<j+1+r.length
    · rw [if_pos h2,if_pos (by omega),show i-j=(i-(j+1))+1 by omega,List.getElem?_cons_succ]
    · rw [if_neg h2,if_neg (Ne.symm h1),if_neg (by omega)]
def RL (R:AV→Value→Prop) (xs:List AV) (cs:List Value):Prop:=cs.length=xs.length∧(∀i (h:i<xs.length),leaf xs[i])∧∀i (h:i<xs.length),R xs[i] (cs.getD i Go.undef)
def RLe (R:AV→Value→Prop) (xs:List AV) (cs:List Value):Prop:=xs.length≤cs.length∧(∀i (h:i<xs.length),leaf xs[i])∧∀i (h:i<xs.length),R xs[i] (cs.getD i Go.undef)
theorem RL.splice {R:AV→Value→Prop} {xs ys:List AV} {cs vs:List Value} (h:RL R xs cs) (h':RL R ys vs) (j:Nat) (hj:j+ys.length≤xs.length):
 RL R (setL xs j ys) (cs.take j++vs++cs.drop (j+vs.length)):=by
 have e1:=h.1
 have e2:=h'.1
 have get:∀i (hi:i<(setL xs j ys).length),leaf (setL xs j ys)[i]∧R (setL xs j ys)[i] ((cs.take j++vs++cs.drop (j+vs.length)).getD i Go.undef):=by
  intro i hi
  rw [setL_length] at hi
  have hg:=setL_getElem? ys xs j i hj
  rw [splice_getD _ _ _ _ (by omega)]
  by_cases hc:j≤i∧i<j+ys.length
  · rw [if_pos hc,q5 (by rw [setL_length];exact hi),q5 (by omega)] at hg
    rw [if_pos (by omega),Option.some.inj hg]
    exact ⟨h'.2.1 _ _,h'.2.2 _ _⟩
  · rw [if_neg hc,q5 (by rw [setL_length];exact hi),q5 hi] at hg
    rw [if_neg (by omega),Option.some.inj hg]
    exact ⟨h.2.1 _ _,h.2.2 _ _⟩
 refine ⟨by rw [splice_length _ _ _ (by omega),setL_length];exact e1,fun i hi=>(get i hi).1,fun i hi=>(get i hi).2⟩
theorem RLe.splice {R:AV→Value→Prop} {xs ys:List AV} {cs vs:List Value} (h:RLe R xs cs) (h':RL R ys vs) (j:Nat) (hj:j+ys.length≤xs.length):
 RLe R (setL xs j ys) (cs.take j++vs++cs.drop (j+vs.length)):=by
 have e1:=h.1
 have e2:=h'.1
 have get:∀i (hi:i<(setL xs j ys).length),leaf (setL xs j ys)[i]∧R (setL xs j ys)[i] ((cs.take j++vs++cs.drop (j+vs.length)).getD i Go.undef):=by
  intro i hi
  rw [setL_length] at hi
  have hg:=setL_getElem? ys xs j i hj
  rw [splice_getD _ _ _ _ (by omega)]
  by_cases hc:j≤i∧i<j+ys.length
  · rw [if_pos hc,q5 (by rw [setL_length];exact hi),q5 (by omega)] at hg
    rw [if_pos (by omega),Option.some.inj hg]
    exact ⟨h'.2.1 _ _,h'.2.2 _ _⟩
  · rw [if_neg hc,q5 (by rw [setL_length];exact hi),q5 hi] at hg
    rw [if_neg (by omega),Option.some.inj hg]
    exact ⟨h.2.1 _ _,h.2.2 _ _⟩
 refine ⟨by rw [splice_length _ _ _ (by omega),setL_length];exact e1,fun i hi=>(get i hi).1,fun i hi=>(get i hi).2⟩
theorem heap_setRow {w:World} {b:Nat} {cs:Array Value} {e:El} (hb:w.heap[b]? =some (celO cs e)) {cs':Array Value} (hs:cs'.size=cs.size):(w.setRow b cs').heap[b]? =some (celO cs' e):=by
 have:=setRow_heap w b cs cs' e.1 (frOf e cs.size) hb
 rw [this,←hs]
theorem new_cel (w:World) (cs:Array Value) (e:TypeId):(w.alloc (.cells cs e)).heap[w.heap.size]? =some (celO cs (e,false)):=new_at w _
theorem celO_inj {cs cs0:Array Value} {e e0:El} (h:some (celO cs e)=some (celO cs0 e0)):cs=cs0:=by
 have h:=Option.some.inj h
 injection h
theorem storeCells_cel (P:Program) {b o:Nat} {e:El}:∀(vs:List Value) (i:Nat) (cs:Array Value) (w:World),w.heap[b]? =some (celO cs e)→o+i+vs.length≤cs.size→(∀u,u∈vs→u.oneCell'=true)→
 (storeCells ⟨b,o,none⟩ vs i).run P w= .ok () (w.setRow b (cs.toList.take (o+i)++vs++cs.toList.drop (o+i+vs.length)).toArray)
 | [],i,cs,w,hb,_,_=>by
   simp only [storeCells,List.append_nil,List.length_nil,Nat.add_zero,q19,Array.toArray_toList]
   rw [setRow_self w b cs e.1 (frOf e cs.size) hb]
   rfl
 |v::r,i,cs,w,hb,hl,h1=>by
  have hi:o+i<cs.size:=by simp at hl;omega
  have hadd:(⟨b,o,none⟩:Addr).add i=⟨b,o+i,none⟩:=by unfold Addr.add;split<;>simp_all
  have hcell:w.cell? ⟨b,o+i,none⟩=some cs[o+i]:=by rw [celO_cell hb];exact Array.getElem?_eq_getElem hi
  have hst:(store ((⟨b,o,none⟩:Addr).add i) v).run P w= .ok () (w.setRow b (cs.setIfInBounds (o+i) v)):=by
   rw [hadd,run_store P w _ v _ (h1 v (by simp)),hcell]
   simp [celO_free hb hi,setCell_eq_setRow w b (o+i) cs e.1 (frOf e cs.size) v hb]
  have hsz:(cs.setIfInBounds (o+i) v).size=cs.size:=by simp
  have ih:=storeCells_cel P (e:=e) (o:=o) r (i+1) (cs.setIfInBounds (o+i) v) (w.setRow b (cs.setIfInBounds (o+i) v)) (heap_setRow hb hsz) (by simp at hl ⊢;omega) (fun x hx=>h1 x (by simp [hx]))
  simp only [storeCells,Sem.run_bind,hst,Result.andThen_ok,ih,setRow_setRow]
  congr 3
  have g:=list_seg_step cs.toList (o+i) v r (by simp at hl ⊢;omega)
  simpa [Array.toList_setIfInBounds,Nat.add_assoc] using g
theorem heap_setRow_other {w:World} {b c:Nat} (cs':Array Value) (h:c≠b):(w.setRow b cs').heap[c]? =w.heap[c]? :=setRow_other w b c cs' h
section
variable {P:Program} {B:Base} {N:Nat} {φ:Nat→LS} {fp:Nat→List Nat} {S:Nat→Prop} {ts:Env} {m:Mem} {a:Act} {w:World}
theorem cells_single {v:Value} (h:v.oneCell'=true):v.cells= #[v]:=by
 cases v<;>first|rfl|cases h
theorem sCells_out {R:AV→Value→Prop} (hagg:∀xs v,R (.agg xs) v→∃cs:Array Value,v= .agg cs∧cs.size=xs.length∧(∀i (h:i<xs.length),leaf xs[i])∧∀i (h:i<xs.length),R xs[i] (cs.toList.getD i Go.undef))
 (hleaf:∀x v,R x v→leaf x→v.oneCell'=true) {y:AV} {v:Value} (hy:R y v) {k:List AV→Prop} (h:sCells y k):
 ∃ys,k ys∧RL R ys v.cells.toList∧(∀l,l∈labsL ys→l∈labs y)∧(∀u,u∈v.cells.toList→u.oneCell'=true):=by
 have one:leaf y→∃ys,ys=[y]∧RL R ys v.cells.toList∧(∀l,l∈labsL ys→l∈labs y)∧(∀u,u∈v.cells.toList→u.oneCell'=true):=by
  intro hl
  have h1:=hleaf y v hy hl
  rw [cells_single h1]
  refine ⟨_,rfl,⟨rfl,?_,?_⟩,?_,?_⟩
  · intro i hi;have:i=0:=by simpa using hi
    subst this;exact hl
  · intro i hi;have:i=0:=by simpa using hi
    subst this;exact hy
  · intro l hl;simpa [labsL] using hl
  · intro u hu;have:u=v:=by simpa using hu
    rw [this];exact h1
 cases y with
 |agg xs=>
  obtain ⟨cs,rfl,h1,h2,h3⟩:=hagg xs v hy
  refine ⟨xs,h,⟨by simpa [Value.cells] using h1,h2,h3⟩,fun l hl=>by simpa [labs] using hl,?_⟩
  intro u hu
  obtain ⟨i,hi,rfl⟩:=List.getElem_of_mem hu
  simp only [Value.cells,q0] at hi
  have:=h3 i (h1▸hi)
  rw [q4,q5 (by simpa using hi)] at this
  exact hleaf _ _ this (h2 i (h1▸hi))
 |undef=>exact h.elim
 |tup xs=>exact h.elim
 |_=>obtain ⟨ys,rfl,h1⟩:=one trivial;exact ⟨_,h,h1⟩
theorem RV.cells {y:AV} {v:Value} (hy:RV w S φ y v) {k:List AV→Prop} (h:sCells y k):
 ∃ys,k ys∧RL (RV w S φ) ys v.cells.toList∧(∀l,l∈labsL ys→l∈labs y)∧(∀u,u∈v.cells.toList→u.oneCell'=true):=
 sCells_out (fun _ _ h=>rv_agg h) (fun _ _ h hl=>h.leaf_oneCell hl) hy h
def sBox (d:Nat) (y:AV) (m:Mem) (k:AV→Mem→Prop):Prop:=sCells y fun ys=>k (.ptr d (newVer m d) 0 0) ((d,.box (newVer m d) ys)::m)
theorem sBox_eq (d:Nat) (y:AV) (m:Mem) (k:AV→Mem→Prop):sBox d y m k=sCells y fun ys=>k (.ptr d (newVer m d) 0 0) ((d,.box (newVer m d) ys)::m):=rfl
def verOf:Option Blk→Nat|none=>0|some k=>k.ver+1
theorem newVer_eq (m:Mem) (l:Nat):newVer m l=verOf (lookB m l):=by unfold newVer verOf;cases lookB m l<;>rfl
theorem verOf_none:verOf none=0:=rfl
theorem run_box (h:RS B N φ fp S ts m a w) {y:AV} {v:Value} (hy:RV w S φ y v) (hyl:∀l ver,(l,ver)∈labs y→known m l ver) (t:TypeId) (d:Nat) {k:AV→Mem→Prop}
 (hk:sBox d y m k):Runs B N a (fun x ts' m'=>ts'=ts∧k x m') ((Instr.box t v).run P w):=by
 obtain ⟨ys,hk,hrl,hlab,hone⟩:=hy.cells hk
 have hrun:(Instr.box t v).run P w= .ok (.pointer (some ⟨w.heap.size,0,none⟩)) (w.alloc (.cells v.cells t)):=by
  simp [Instr.box,newVar,newRow]
 refine ⟨_,_,hrun,?_⟩
 have hRS:=h.alloc d ⟨1,false⟩ (.box (newVer m d) ys) v.cells t rfl
  ⟨w.heap.size,v.cells,(t,false),⟨1,false⟩,upd_same _ _ _,rfl,new_at w _,by have:=hrl.1;simp at this;omega,hrl.2.1,fun i hi=>by
    have:=RV.alloc h d ⟨1,false⟩ (.cells v.cells t) (hrl.2.2 i hi) fun l' ver hl=>hyl l' ver (hlab _ (mem_labsL hi hl))
    exact this⟩
  (fun v xs hx l' ver hl=>by cases hx;exact hyl l' ver (hlab _ hl))
 refine hRS.gives (x:=.ptr d (newVer m d) 0 0) ?_ ?_ ⟨rfl,hk⟩
 · refine .ptr _ _ _ _ _ (fun b sh hb=> ?_) (fun hb=> ?_) rfl
   · rw [upd_same] at hb;cases hb
     simp
   · rw [upd_same] at hb;cases hb
 · intro l ver hl
   simp only [labs,q16,Prod.mk.injEq] at hl
   obtain ⟨rfl,rfl⟩:=hl
   exact ⟨_,by simp [lookB_cons];rfl,q22 _⟩
theorem run_alloc (h:RS B N φ fp S ts m a w) {t:TypeId} {ti:TI} (ht:tiOf P t=some ti) (d:Nat) {k:AV→Mem→Prop} (hk:sBox d ti.zero m k):
 Runs B N a (fun x ts' m'=>ts'=ts∧k x m') ((Instr.alloc t true (.tuple #[])).run P w):=by
 obtain ⟨i,dd,z,hi,hd,hz,_,_,_,hzz,_⟩:=kind_of ht
 rw [hzz] at hk
 have:=run_box (P:=P) h (.rd _ _ (rd_cAV z)) (fun l ver hl=>by rw [labs_cAV] at hl;cases hl) t d hk
 have e:(Instr.alloc t true (.tuple #[])).run P w=(Instr.box t z).run P w:=by
  simp [Instr.alloc,Instr.box,zeroValue,typeInfo,hi,hz,newVar,newRow]
 rw [e];exact this
def RunsU (B:Base) (N:Nat) (a:Act) (k:Env→Mem→Prop) (r:Result Unit):Prop:=
 ∃w',r= .ok () w'∧Done B N k a w'
theorem Sized.setRow (φ:Nat→LS) {w:World} {b:Nat} {cs:Array Value} {e:El} (hb:w.heap[b]? =some (celO cs e)) {cs':Array Value} (hs:cs'.size=cs.size):Sized φ w (w.setRow b cs'):=by
 intro l c sh ver cs0 e0 _ hc
 by_cases hcb:c=b
 · subst hcb
   obtain rfl:=celO_inj (hb.symm.trans hc)
   exact ⟨cs',e,heap_setRow hb hs,hs⟩
 · exact ⟨cs0,e0,by rw [heap_setRow_other _ hcb];exact hc,rfl⟩
theorem Szs.setRow {w:World} {b:Nat} {cs:Array Value} {e:El} (hb:w.heap[b]? =some (celO cs e)) {cs':Array Value} (hs:cs'.size=cs.size):Szs w (w.setRow b cs'):=by
 intro c cs0 e0 hc
 by_cases hcb:c=b
 · subst hcb
   obtain rfl:=celO_inj (hb.symm.trans hc)
   exact ⟨cs',e,heap_setRow hb hs,hs⟩
 · exact ⟨cs0,e0,by rw [heap_setRow_other _ hcb];exact hc,rfl⟩
theorem RS.write (h:RS B N φ fp S ts m a w) {l b:Nat} {sh:Sh} {ver:Nat} (hφ:φ l= .at b sh ver) {cs:Array Value} {e:El} (hb:w.heap[b]? =some (celO cs e)) {cs':Array Value}
 (hs:cs'.size=cs.size) (k:Blk) (hkv:k.ver=ver) (hbr:BR (w.setRow b cs') S (upd φ l (φ l)) l (fp l) k)
 (hbl:∀v xs,k= .box v xs→∀l' ver,(l',ver)∈labsL xs→known m l' ver):
 RS B N (upd φ l (φ l)) (upd fp l (fp l)) S ts ((l,k)::m) a (w.setRow b cs'):=by
 have hbl':=h.at_mem hφ
 obtain ⟨k0,hk0,hk0v⟩:=h.lookB_ne hφ
 have hkn:∀ver',known m l ver'→ver'≤k.ver:=by
  rintro ver' ⟨k',h1,h2⟩
  rw [hk0] at h1;cases h1;rw [hkv,←hk0v];exact h2
 refine h.next l (φ l) (fp l) S k (by simp) ⟨rfl,rfl,rfl⟩ (fun c cs0 e0 hc=> ?_) (fun c hc hio=>heap_setRow_other _ fun e=> ?_) (fun c hc=>⟨hc,heap_setRow_other _ fun e=>h.notS l b hbl' (e▸hc)⟩) (fun c h1 h2=>absurd h1 h2) (Sized.setRow φ hb hs)
  (fun l' hl' c hc=>heap_setRow_other _ fun e=>hl' (h.dis l' l b (e▸hc) hbl')) (fun ver _=>LS.le_refl _ _) hkn hbr ?_ (h.nod l) ?_
 · by_cases hcb:c=b
   · subst hcb
     obtain rfl:=celO_inj (hb.symm.trans hc)
     exact ⟨cs',e,heap_setRow hb hs,hs⟩
   · exact ⟨cs0,e0,by rw [heap_setRow_other _ hcb];exact hc,rfl⟩
 · subst e
   rcases (h.fpB l c hbl').2 with hh|hh
   · exact q23 _ (q24 hc hh)
   · exact hio _ hh.choose_spec.1
 · intro v xs hx l' ver' hl'
   have:=hbl v xs hx l' ver' hl'
   by_cases e:l=l'
   · subst e;exact ⟨k,by simp [lookB_cons],hkn ver' this⟩
   · obtain ⟨k',h1,h2⟩:=this
     exact ⟨k',by simp [lookB_cons,e,h1],h2⟩
 · intro c hc
   have:=h.fpB l c hc
   exact ⟨h.notS l c hc,fun l' hl' hc'=>hl' (h.dis l' l c hc' hc),by simpa using this.1,this.2⟩
theorem size_splice {cs:Array Value} {o:Nat} {vs:List Value} (h:o+vs.length≤cs.size):(cs.toList.take o++vs++cs.toList.drop (o+vs.length)).toArray.size=cs.size:=by
 rw [List.size_toArray,splice_length _ _ _ (by simpa using h)];simp
theorem run_storeVar_at {t:TypeId} {ti:TI} (ht:tiOf P t=some ti) {b o:Nat} {cs:Array Value} {e:El} (hb:w.heap[b]? =some (celO cs e)) {v:Value} (hn:v.cells.toList.length=ti.size)
 (ho:o+v.cells.toList.length≤cs.size) (hone:∀u,u∈v.cells.toList→u.oneCell'=true):
 (Instr.storeAt t (.pointer (some ⟨b,o,none⟩)) v).run P w= .ok () (w.setRow b (cs.toList.take o++v.cells.toList++cs.toList.drop (o+v.cells.toList.length)).toArray):=by
 have h1:=storeCells_cel P (e:=e) (o:=o) v.cells.toList 0 cs w hb (by simpa using ho) hone
 simp only [Nat.add_zero] at h1
 have h2:v.cells.size=ti.size:=by simpa using hn
 simp only [Instr.storeAt,Instr.sureAddr,storeVar,pure_bind,Sem.run_bind,sizeOf_run ht,Result.andThen_ok,h2,ne_eq,not_true_eq_false,if_false,h1]
theorem elemV_splice_other {l vs:List Value} {sh:Sh} {i i' j:Nat} (hi:i'≠i) (hj:j+vs.length≤sh.sz) (hl:i*sh.sz+sh.sz≤l.length) (hsz:sh.ag=false→sh.sz=1):
 elemV (l.take (i*sh.sz+j)++vs++l.drop (i*sh.sz+j+vs.length)) (i'*sh.sz) sh=elemV l (i'*sh.sz) sh:=by
 have far:∀c,c<sh.sz→¬(i*sh.sz+j≤i'*sh.sz+c∧i'*sh.sz+c<i*sh.sz+j+vs.length):=by
  intro c hc
  rcases Nat.lt_or_gt_of_ne hi with hlt|hgt
  · have:=mul_le_of_lt (s:=sh.sz) hlt;omega
  · have:=mul_le_of_lt (s:=sh.sz) hgt;omega
 cases sh with
 |mk sz ag=>
 simp only at*
 cases ag with
 |false=>
  rw [elemV_cell,elemV_cell,splice_getD _ _ _ _ (by omega)]
  have hs:=hsz rfl
  subst hs
  rw [if_neg (by simpa using far 0 (by omega))]
 |true=>
  rw [elemV_agg,elemV_agg]
  congr 2
  apply List.ext_getElem
  · simp;omega
  · intro c h1 h2
    simp only [q13,q11] at h1 h2
    have e1:∀(l:List Value) (h:c<((l.drop (i'*sz)).take sz).length),((l.drop (i'*sz)).take sz)[c]=l.getD (i'*sz+c) Go.undef:=by
     intro l h
     simp only [q13,q11] at h
     simp only [q9,q7]
     rw [q4,q5 (by omega)];rfl
    rw [e1,e1,splice_getD _ _ _ _ (by omega),if_neg (far c (by omega))]
theorem put_rd {S:Nat→Prop} {sh:Sh} {x y:AV} {l:List Value} {i j n:Nat} {v:Value} (hx:Rd w S x (elemV l (i*sh.sz) sh)) (hfx:fits sh x) (hy:Rd w S y v) (hl:i*sh.sz+sh.sz≤l.length)
 {k:AV→Prop} (hn:match (generalizing:=false) y with| .agg ys=>ys.length=n|_=>n=1) (hk:sPut j x y k) (hfy:isFlat y=true):
 v.cells.toList.length=n∧j+v.cells.toList.length≤sh.sz∧(∀u,u∈v.cells.toList→u.oneCell'=true)∧
  ∃x',k x'∧fits sh x'∧Rd w S x' (elemV (l.take (i*sh.sz+j)++v.cells.toList++l.drop (i*sh.sz+j+v.cells.toList.length)) (i*sh.sz) sh):=by
 have hyc:leaf y∨∃ys,y= .agg ys:=by cases y<;>first|exact .inl trivial|exact .inr ⟨_,rfl⟩|cases hfy
 have cellsY:∃ys,RL (Rd w S) ys v.cells.toList∧(∀u,u∈v.cells.toList→u.oneCell'=true)∧((leaf y∧ys=[y])∨y= .agg ys):=by
  rcases hyc with hleaf|⟨ys,rfl⟩
  · have h1:=hy.leaf_oneCell hleaf
    refine ⟨[y],?_,?_,.inl ⟨hleaf,rfl⟩⟩
    · rw [cells_single h1]
      refine ⟨rfl,?_,?_⟩<;>intro c hc<;>(have:c=0:=by simpa using hc)<;>subst this
      · exact hleaf
      · exact hy
    · rw [cells_single h1];intro u hu;have:u=v:=by simpa using hu
      rw [this];exact h1
  · obtain ⟨cs,rfl,h1,h2,h3⟩:=rd_agg hy
    refine ⟨ys,⟨by simpa [Value.cells] using h1,h2,h3⟩,?_,.inr rfl⟩
    intro u hu
    obtain ⟨c,hc,rfl⟩:=List.getElem_of_mem hu
    simp only [Value.cells,q0] at hc
    have:=h3 c (h1▸hc)
    rw [q4,q5 (by simpa using hc)] at this
    exact this.leaf_oneCell (h2 c (h1▸hc))
 obtain ⟨ys,hrl,hone,hy'⟩:=cellsY
 have hlen:v.cells.toList.length=ys.length:=hrl.1
 have hn':ys.length=n:=by
  rcases hy' with ⟨hleaf,rfl⟩|rfl
  · cases y<;>first|exact hn.symm|exact hleaf.elim
  · exact hn
 have agg:∀zs,x= .agg zs→j+ys.length≤zs.length→k (.agg (setL zs j ys))→
  v.cells.toList.length=n∧j+v.cells.toList.length≤sh.sz∧(∀u,u∈v.cells.toList→u.oneCell'=true)∧
  ∃x',k x'∧fits sh x'∧Rd w S x' (elemV (l.take (i*sh.sz+j)++v.cells.toList++l.drop (i*sh.sz+j+v.cells.toList.length)) (i*sh.sz) sh):=by
  intro zs hzs hjl hkk
  subst hzs
  cases sh with
  |mk sz ag=>
  obtain ⟨hag,hsz⟩:=hfx
  simp only at hag hsz hl
  subst hag
  obtain ⟨cs,hcs,h1,h2,h3⟩:=rd_agg hx
  rw [elemV_agg] at hcs
  cases hcs
  refine ⟨by omega,by show j+_≤sz;omega,hone,_,hkk,⟨rfl,by rw [setL_length];exact hsz⟩,?_⟩
  have h3':RL (Rd w S) zs ((l.drop (i*sz)).take sz):=⟨by simp;omega,h2,fun c hc=>by simpa using h3 c hc⟩
  have h4:=h3'.splice hrl j hjl
  rw [elemV_agg]
  have e:(List.drop (i*sz) (l.take (i*sz+j)++v.cells.toList++l.drop (i*sz+j+v.cells.toList.length))).take sz=
   ((l.drop (i*sz)).take sz).take j++v.cells.toList++((l.drop (i*sz)).take sz).drop (j+v.cells.toList.length):=by
   have hvl:v.cells.size=ys.length:=by simpa using hlen
   have hll:((l.drop (i*sz)).take sz).length=sz:=by simp;omega
   apply List.ext_getElem
   · rw [q13,q11,splice_length _ _ _ (by omega),splice_length _ _ _ (by omega),hll]
     omega
   · intro c g1 g2
     rw [splice_length _ _ _ (by omega),hll] at g2
     have q1:∀(L:List Value) (h:c<L.length),L[c]=L.getD c Go.undef:=fun L h=>by
      rw [q4,q5 h];rfl
     rw [q1,q1,getD_drop_take _ _ _ _ (by omega),splice_getD _ _ _ _ (by omega),splice_getD _ _ _ _ (by omega),getD_drop_take _ _ _ _ (by omega)]
     by_cases hc:j≤c∧c<j+v.cells.toList.length
     · rw [if_pos (by omega),if_pos hc,show i*sz+c-(i*sz+j)=c-j by omega]
     · rw [if_neg (by omega),if_neg hc]
  rw [e]
  exact .agg _ _ (by simpa using h4.1) h4.2.1 fun c hc=>by simpa using h4.2.2 c hc
 cases x with
 |agg zs=>
  rcases hy' with ⟨hleaf,rfl⟩|rfl
  · have hk':j<zs.length∧k (.agg (zs.set j y)):=by
     cases y<;>first|exact hk|exact hleaf.elim
    exact agg zs rfl (Nat.succ_le_of_lt hk'.1) hk'.2
  · exact agg zs rfl hk.1 hk.2
 |undef=>exact hfx.elim
 |tup xs=>exact hfx.elim
 |_=>
  rcases hy' with ⟨hleaf,rfl⟩|rfl
  · obtain ⟨hag,hsz⟩:=hfx
    have hk':j=0∧k y:=by cases y<;>first|exact hk|exact hleaf.elim
    obtain ⟨rfl,hkk⟩:=hk'
    cases sh with
    |mk sz ag=>
    simp only at hag hsz hl
    subst hag;subst hsz
    have hl1:v.cells.toList.length=1:=by simpa using hlen
    simp only [q26,Nat.add_zero,q28] at hl ⊢
    refine ⟨by simpa using hlen.trans hn',by omega,hone,y,hkk,?_,?_⟩
    · cases y<;>first|exact ⟨rfl,rfl⟩|exact hleaf.elim
    · rw [elemV_cell,splice_getD _ _ _ _ (by omega),if_pos (by omega)]
      have h1:=hy.leaf_oneCell hleaf
      rw [cells_single h1]
      simpa using hy
  · exact hk.elim
theorem run_store {t:TypeId} {ti:TI} (ht:tiOf P t=some ti) (h:RS B N φ fp S ts m a w) {p y:AV} {u v:Value} (hp:RV w S φ p u) (hy:RV w S φ y v) (hyl:∀l ver,(l,ver)∈labs y→known m l ver)
 {k:Mem→Prop} (hk:sStore ti.size p y m k):RunsU B N a (fun ts' m'=>ts'=ts∧k m') ((Instr.storeAt t u v).run P w):=by
 unfold sStore at hk
 split at hk
 · rename_i l ver i j
   have hp1:=rv_ptr hp
   unfold sStoreB at hk
   split at hk
   · rename_i v' xs hlk
     obtain ⟨rfl,rfl,hk⟩:=hk
     obtain ⟨b,cs,e,sh,hφ,hfs,hheap,hsz,hlf,hr⟩:=h.mSome l _ hlk
     have hpv:=hp1 b sh hφ
     rw [Nat.zero_mul,q28] at hpv
     subst hpv
     obtain ⟨ys,⟨h1,h2,h3⟩,hrl,hlab,hone⟩:=hy.cells hk
     have hlen:v.cells.toList.length=ys.length:=hrl.1
     refine ⟨_,run_storeVar_at ht hheap (by omega) (by omega) hone,?_⟩
     have hxs:RLe (RV w S φ) xs cs.toList:=⟨by simpa using hsz,hlf,hr⟩
     have hnew:=hxs.splice hrl j h2
     have hsp:j+v.cells.toList.length≤cs.size:=by omega
     have hz:=Sized.setRow φ hheap (size_splice hsp)
     have hbm:=h.at_mem hφ
     have hbl:∀l' ver,(l',ver)∈labsL (setL xs j ys)→known m l' ver:=by
      intro l' ver hl'
      obtain ⟨i,hi,hl2⟩:=of_mem_labsL hl'
      have hg:=setL_getElem? ys xs j i h2
      rw [q5 hi] at hg
      split at hg
      · obtain ⟨g1,g2⟩:=q6.1 hg.symm
        exact hyl l' ver (hlab _ (mem_labsL g1 (g2▸hl2)))
      · obtain ⟨g1,g2⟩:=q6.1 hg.symm
        exact h.bl l v' xs hlk l' ver (mem_labsL g1 (g2▸hl2))
     have hRS:=h.write hφ hheap (size_splice hsp) (.box v' (setL xs j ys)) rfl
      ⟨b,_,e,sh,by rw [upd_same];exact hφ,hfs,heap_setRow hheap (size_splice hsp),by rw [size_splice hsp,setL_length];exact hsz,hnew.2.1,fun i hi=>by
        have:=hnew.2.2 i hi
        refine (this.mono (fun c hc=>heap_setRow_other (b:=b) _ fun e=>h.notS l b hbm (by rw [←e];exact hc)) (fun _ h=>h) hz fun l' ver _=> ?_)
        by_cases e:l'=l
        · subst e;rw [upd_same];exact LS.le_refl _ _
        · rw [upd_other _ _ _ _ e];exact LS.le_refl _ _⟩
      (fun v xs hx l' ver hl'=>by cases hx;exact hbl l' ver hl')
     exact ⟨_,_,_,_,_,hRS,rfl,h3⟩
   · rename_i v' sh deep xs hlk
     obtain ⟨rfl,hfy,hk⟩:=hk
     cases hx:xs[i]? with
     |none=>rw [hx] at hk;exact hk.elim
     |some x=>
      rw [hx] at hk
      obtain ⟨hfx,hn,hk⟩:=hk
      obtain ⟨hi1,hi2⟩:=q6.1 hx
      have hb:=h.mSome l _ hlk
      rcases hb with ⟨_,hnil,_⟩|⟨b,cap,hφ,hbm,hdp,hown⟩
      · subst hnil;exact absurd hi1 (q27 _)
      · have hpv:=hp1 b sh hφ
        subst hpv
        generalize hgf:fp l=fs at hown hbm hdp
        cases hown with
        |rd _ _ hrd=>exact absurd hbm (by simp)
        |arr _ _ _ _ cs e fss hheap hcs hcap hmx hff hfl hvv=>
         have hxo:=hvv i hi1
         have hxf:=hff i hi1
         rw [hi2] at hxo hxf
         have hroom:i*sh.sz+sh.sz≤cs.toList.length:=by
          have h1:=mul_le_of_lt (s:=sh.sz) (q24 hi1 hcap)
          simp only [q0];omega
         have hy0:Rd w (fun _=>False) y v:=by
          cases hy with
          |rd _ _ hy=>exact (flat_rd (fs:=[]) (.rd _ _ hy) hfy).1
          |agg ys cs' g1 g2 g3=>
           have hall:∀(xs:List AV),isFlatL xs=true→∀i (h:i<xs.length),isFlat xs[i]=true:=by
            intro xs
            induction xs with
            |nil=>intro _ i h;exact absurd h (q27 _)
            |cons x r ih2=>
             intro hh i hi
             simp only [isFlatL,Bool.and_eq_true] at hh
             cases i with
             |zero=>exact hh.1
             |succ i=>exact ih2 hh.2 i (by simpa using hi)
           refine .agg ys cs' g1 g2 fun c hc=> ?_
           have q1:=g3 c hc
           have q2:=hall ys hfy c hc
           have q3:=g2 c hc
           generalize ys[c]=z at q1 q2 q3 ⊢
           generalize cs'.toList.getD c Go.undef=u' at q1 ⊢
           cases q1 with
           |rd _ _ hz=>exact (flat_rd (fs:=[]) (.rd _ _ hz) q2).1
           |agg=>exact q3.elim
           |tup=>exact q3.elim
           |clo=>cases q2
           |ref=>cases q2
           |ptr=>cases q2
          |tup=>cases hfy
          |clo=>cases hfy
          |ref=>cases hfy
          |ptr=>cases hfy
         obtain ⟨g1,g2,g3,x',hkx,hfx',hrd'⟩:=put_rd (S:=fun _=>False) (flat_rd hxo hfx).1 hxf hy0 hroom (n:=ti.size) (by cases y<;>exact hn) hk hfy
         have hsp:i*sh.sz+j+v.cells.toList.length≤cs.size:=by
          simp only [q0] at hroom;omega
         refine ⟨_,run_storeVar_at ht hheap g1 hsp g3,?_⟩
         have hfss:∀c,c∈fss.flatten→c≠b:=by
          have:=h.nod l
          rw [hgf] at this
          exact fun c hc e=>(q17.1 this).1 (e▸hc)
         have hRS:=h.write hφ hheap (size_splice hsp) (.row v' sh deep (xs.set i x')) rfl
          (.inr ⟨b,cap,by rw [upd_same];exact hφ,by rw [hgf];exact hbm,by rw [hgf];exact hdp,by
            rw [hgf]
            have hmk:=Own.arr (w:=w.setRow b (cs.toList.take (i*sh.sz+j)++v.cells.toList++cs.toList.drop (i*sh.sz+j+v.cells.toList.length)).toArray) (S:=if deep=true then fun _=>False else S)
             sh (xs.set i x') b cap _ e fss (heap_setRow hheap (size_splice hsp)) (by rw [size_splice hsp];exact hcs) (by rw [q12];exact hcap) hmx ?_ (by rw [q12];exact hfl) ?_
            · exact hmk
            · intro c hc
              rw [q12] at hc
              rw [q8]
              split
              · exact hfx'
              · exact hff c hc
            · intro c hc
              rw [q12] at hc
              rw [q8]
              by_cases hic:i=c
              · subst hic
                rw [if_pos rfl]
                have:=(flat_rd (S':=fun _=>False) hxo hfx).2
                rw [this]
                exact .rd _ _ (hrd'.mono (fun _ h=>h.elim) (fun _ h=>h.elim))
              · rw [if_neg hic]
                rw [elemV_splice_other (Ne.symm hic) g2 hroom (fun hag=>by
                 cases x<;>first|exact hxf.2|exact hxf.elim|(have:=hxf.1;rw [hag] at this;cases this))]
                refine (hvv c hc).mono (fun q hq=> ?_) (fun _ h=>h) fun q hq=>heap_setRow_other _ (hfss q (mem_flatten_getD (hfl▸hc) hq))
                cases deep with
                |true=>exact hq.elim
                |false=>exact heap_setRow_other _ fun e=>h.notS l b (h.at_mem hφ) (e▸hq)⟩)
          (fun _ _ hx=>by cases hx)
         exact ⟨_,_,_,_,_,hRS,rfl,hkx⟩
   · rename_i v' sh xs u0 hlk
     obtain ⟨rfl,hfy,hk⟩:=hk
     cases hx:xs[i]? with
     |none=>rw [hx] at hk;exact hk.elim
     |some x=>
      rw [hx] at hk
      obtain ⟨hfx,hn,hk⟩:=hk
      obtain ⟨hi1,hi2⟩:=q6.1 hx
      obtain ⟨b,cap,hφ,hbm,hu,hown⟩:=h.mSome l _ hlk
      · have hpv:=hp1 b sh hφ
        subst hpv
        subst hu
        generalize hgf:fp l=fs at hown hbm
        cases hown with
        |rd _ _ hrd=>exact absurd hbm (by simp)
        |arr _ _ _ _ cs e fss hheap hcs hcap hmx hff hfl hvv=>
         have hxo:=hvv i hi1
         have hxf:=hff i hi1
         rw [hi2] at hxo hxf
         have hroom:i*sh.sz+sh.sz≤cs.toList.length:=by
          have h1:=mul_le_of_lt (s:=sh.sz) (q24 hi1 hcap)
          simp only [q0];omega
         have hy0:Rd w (fun _=>False) y v:=by
          cases hy with
          |rd _ _ hy=>exact (flat_rd (fs:=[]) (.rd _ _ hy) hfy).1
          |agg ys cs' g1 g2 g3=>
           have hall:∀(xs:List AV),isFlatL xs=true→∀i (h:i<xs.length),isFlat xs[i]=true:=by
            intro xs
            induction xs with
            |nil=>intro _ i h;exact absurd h (q27 _)
            |cons x r ih2=>
             intro hh i hi
             simp only [isFlatL,Bool.and_eq_true] at hh
             cases i with
             |zero=>exact hh.1
             |succ i=>exact ih2 hh.2 i (by simpa using hi)
           refine .agg ys cs' g1 g2 fun c hc=> ?_
           have q1:=g3 c hc
           have q2:=hall ys hfy c hc
           have q3:=g2 c hc
           generalize ys[c]=z at q1 q2 q3 ⊢
           generalize cs'.toList.getD c Go.undef=u' at q1 ⊢
           cases q1 with
           |rd _ _ hz=>exact (flat_rd (fs:=[]) (.rd _ _ hz) q2).1
           |agg=>exact q3.elim
           |tup=>exact q3.elim
           |clo=>cases q2
           |ref=>cases q2
           |ptr=>cases q2
          |tup=>cases hfy
          |clo=>cases hfy
          |ref=>cases hfy
          |ptr=>cases hfy
         obtain ⟨g1,g2,g3,x',hkx,hfx',hrd'⟩:=put_rd (S:=fun _=>False) (flat_rd hxo hfx).1 hxf hy0 hroom (n:=ti.size) (by cases y<;>exact hn) hk hfy
         have hsp:i*sh.sz+j+v.cells.toList.length≤cs.size:=by
          simp only [q0] at hroom;omega
         refine ⟨_,run_storeVar_at ht hheap g1 hsp g3,?_⟩
         have hfss:∀c,c∈fss.flatten→c≠b:=by
          have:=h.nod l
          rw [hgf] at this
          exact fun c hc e=>(q17.1 this).1 (e▸hc)
         have hRS:=h.write hφ hheap (size_splice hsp) (.sub v' sh (xs.set i x') (.slice (some ⟨b,0,none⟩) xs.length cap)) rfl
          (⟨b,cap,by rw [upd_same];exact hφ,by rw [hgf];exact hbm,by rw [q12],by
            rw [hgf]
            have hmk:=Own.arr (w:=w.setRow b (cs.toList.take (i*sh.sz+j)++v.cells.toList++cs.toList.drop (i*sh.sz+j+v.cells.toList.length)).toArray) (S:=fun _=>False)
             sh (xs.set i x') b cap _ e fss (heap_setRow hheap (size_splice hsp)) (by rw [size_splice hsp];exact hcs) (by rw [q12];exact hcap) hmx ?_ (by rw [q12];exact hfl) ?_
            · simpa using hmk
            · intro c hc
              rw [q12] at hc
              rw [q8]
              split
              · exact hfx'
              · exact hff c hc
            · intro c hc
              rw [q12] at hc
              rw [q8]
              by_cases hic:i=c
              · subst hic
                rw [if_pos rfl]
                have:=(flat_rd (S':=fun _=>False) hxo hfx).2
                rw [this]
                exact .rd _ _ (hrd'.mono (fun _ h=>h.elim) (fun _ h=>h.elim))
              · rw [if_neg hic]
                rw [elemV_splice_other (Ne.symm hic) g2 hroom (fun hag=>by
                 cases x<;>first|exact hxf.2|exact hxf.elim|(have:=hxf.1;rw [hag] at this;cases this))]
                exact (hvv c hc).mono (fun q hq=>hq.elim) (fun _ h=>h) fun q hq=>heap_setRow_other _ (hfss q (mem_flatten_getD (hfl▸hc) hq))⟩)
          (fun _ _ hx=>by cases hx)
         exact ⟨_,_,_,_,_,hRS,rfl,hkx⟩
   · exact hk.elim
 · exact hk.elim
theorem set_flatten_perm (fs:List Nat):∀(fss:List (List Nat)) (i:Nat),i<fss.length→fss.getD i []=[]→(fss.set i fs).flatten.Perm (fs++fss.flatten)
 |x::r,0,_,h=>by
  have h:x=[]:=h
  subst h;simp
 |x::r,i+1,hi,h=>by
  have ih:=set_flatten_perm fs r i (by simpa using hi) (by simpa using h)
  simp only [List.set_cons_succ,List.flatten_cons]
  refine (ih.append_left x).trans ?_
  rw [←List.append_assoc,←List.append_assoc]
  exact List.perm_append_comm.append_right _
theorem own_arr {sh:Sh} {ys:List AV} {u:Value} {fs:List Nat} (h:Own w (fun _=>False) (.arr sh ys) u fs):
 (ys=[]∧fs=[]∧∃a,u= .slice a 0 0)∨∃(b cap:Nat) (cs:Array Value) (e:El) (fss:List (List Nat)),u= .slice (some ⟨b,0,none⟩) ys.length cap∧fs=b::fss.flatten∧w.heap[b]? =some (celO cs e)∧cs.size=cap*sh.sz∧ys.length≤cap∧cap≤maxLen∧
   (∀i (h:i<ys.length),fits sh ys[i])∧fss.length=ys.length∧∀i (h:i<ys.length),Own w (fun _=>False) ys[i] (elemV cs.toList (i*sh.sz) sh) (fss.getD i []):=by
 cases h with
 |rd _ _ h=>
  cases h with
  |nil _ a=>exact .inl ⟨rfl,rfl,a,rfl⟩
  |arr _ _ _ _ _ _ _ _ hS=>exact hS.elim
 |arr _ _ b cap cs e fss hb hc hl hm hf hs hv=>exact .inr ⟨b,cap,cs,e,fss,rfl,rfl,hb,hc,hl,hm,hf,hs,hv⟩
theorem own_val {u v:Value} {S0:Nat→Prop} {fs:List Nat} (h:Own w S0 (.val u) v fs):v=u∧fs=[]∧u.oneCell'=true:=by
 cases h with
 |rd _ _ h=>cases h with|val _ h=>exact ⟨rfl,rfl,h⟩
theorem own_take {sh:Sh} {xs:List AV} {b cap:Nat} {fs:List Nat} {S:Nat→Prop} (h:Own w S (.arr sh xs) (.slice (some ⟨b,0,none⟩) xs.length cap) fs) (hb:b∈fs) (n:Nat) (hn:n≤xs.length):
 ∃gs,Own w S (.arr sh (xs.take n)) (.slice (some ⟨b,0,none⟩) n cap) gs∧gs.Sublist fs∧∃cs e,w.heap[b]? =some (celO cs e)∧cs.size=cap*sh.sz:=by
 cases h with
 |rd=>cases hb
 |arr _ _ _ _ cs e fss hheap hc hl hm hf hs hv=>
  have hlen:(xs.take n).length=n:=by simp;omega
  refine ⟨b::(fss.take n).flatten,?_,?_,cs,e,hheap,hc⟩
  · have:=Own.arr (w:=w) (S:=S) sh (xs.take n) b cap cs e (fss.take n) hheap hc (by omega) hm (fun i hi=>by rw [q9];exact hf i (by omega)) (by simp;omega) (fun i hi=>by
     rw [q9,show (fss.take n).getD i []=fss.getD i [] by
      rw [q4,q4,List.getElem?_take,if_pos (by omega)]]
     exact hv i (by omega))
    rwa [hlen] at this
  · refine List.Sublist.cons_cons b ?_
    conv=>rhs;rw [←q19 n fss,q2]
    exact q18 _ _
theorem own_of_ref (h:RS B N φ fp S ts m a w) {l v n:Nat} {sh:Sh} {xs:List AV} {u:Value} (hlk:lookB m l=some (.row v sh true xs)) (hx:RV w S φ (.ref l v 0 n) u) (h0:0<sh.sz) (hn:n≤xs.length):
 ∃fs,Own w (fun _=>False) (.arr sh (xs.take n)) u fs∧fs.Sublist (fp l):=by
 obtain ⟨r1,r2⟩:=rv_ref hx
 have hnil:n=0→(∃ad,u= .slice ad 0 0)→∃fs,Own w (fun _=>False) (.arr sh (xs.take n)) u fs∧fs.Sublist (fp l):=by
  rintro rfl ⟨ad,rfl⟩
  exact ⟨[],by rw [q20];exact .rd _ _ (.nil sh ad),List.nil_sublist _⟩
 rcases h.mSome l _ hlk with ⟨hφ,hxs,_⟩|⟨b,cap,hφ,hbm,_,hown⟩
 · exact hnil (r2 hφ).1 (r2 hφ).2
 · obtain ⟨ad,cap',rfl,hcap,hc⟩:=r1 b sh hφ
   rcases hc with rfl|⟨rfl,cs',e',hh',hs'⟩
   · have:n=0:=by omega
     subst this
     exact hnil rfl ⟨_,rfl⟩
   · simp only [if_true] at hown
     obtain ⟨gs,g1,g2,cs,e,g3,g4⟩:=own_take hown hbm n hn
     rw [g3] at hh'
     injection hh' with hh';injection hh' with e1
     subst e1
     rw [g4,q28] at hs'
     have:cap=cap':=Nat.eq_of_mul_eq_mul_right h0 hs'
     subst this
     exact ⟨gs,by simpa using g1,g2⟩
theorem run_storeX {t:TypeId} {ti:TI} (ht:tiOf P t=some ti) (h:RS B N φ fp S ts m a w) {p y:AV} {u v:Value} (hp:RV w S φ p u) (hy:RV w S φ y v) (hyl:∀l ver,(l,ver)∈labs y→known m l ver)
 {k:Mem→Prop} (hk:sStoreX ti.size p y m k):RunsU B N a (fun ts' m'=>ts'=ts∧k m') ((Instr.storeAt t u v).run P w):=by
 unfold sStoreX at hk
 split at hk
 · rename_i l ver i j l2 v2 i2 n2
   unfold sStoreR at hk
   split at hk
   · rename_i v' xs hlk
     obtain ⟨rfl,⟨hn,rfl,rfl,hi,hne,hio⟩,hk⟩:=hk
     unfold sMvB at hk
     split at hk
     · rename_i v2' sh2 ys hlk2
       obtain ⟨rfl,h0,hn2,hk⟩:=hk
       obtain ⟨fsY,hoY,hsub⟩:=own_of_ref h hlk2 hy h0 hn2
       rcases h.mSome l _ hlk with ⟨_,hnil,_⟩|⟨b,cap,hφ,hbm,_,hown⟩
       · subst hnil;exact absurd hi (q27 _)
       · have hpv:=rv_ptr hp b _ hφ
         simp only [q26,Nat.add_zero] at hpv
         subst hpv
         simp only [if_true] at hown
         rcases own_arr hown with ⟨hx0,_⟩|⟨b',cap',cs,e,fss,q1,hgf,hheap,hcs,hcap,hmx,hff,hfl,hvv⟩
         · subst hx0;exact absurd hi (q27 _)
         simp only [Value.slice.injEq,Option.some.injEq,Addr.mk.injEq] at q1
         obtain ⟨⟨rfl,_⟩,_,rfl⟩:=q1
         have hv1:v.oneCell'=true:=hy.leaf_oneCell trivial
         have hvc:v.cells.toList=[v]:=by rw [cells_single hv1]
         have hil:i<cs.toList.length:=by
          simp only [q0];rw [hcs];simp only [q26];exact q24 hi hcap
         have hrun:=run_storeVar_at (P:=P) ht hheap (o:=i) (v:=v) (by rw [hvc];exact hn.symm) (by rw [hvc];simp at hil ⊢;omega) (by rw [hvc];intro u hu;simp at hu;subst hu;exact hv1)
         rw [hvc] at hrun
         refine ⟨_,hrun,?_⟩
         have hsp:(cs.toList.take i++[v]++cs.toList.drop (i+[v].length)).toArray.size=cs.size:=size_splice (cs:=cs) (o:=i) (vs:=[v]) (by simp at hil ⊢;omega)
         have hR1:=h.give l2 _ hlk2 S (fun _ h=>h) (fun b h1 h2=>absurd h1 h2)
         have hnl:l≠l2:=Ne.symm hne
         have hφ1:upd φ l2 .dead l=φ l:=upd_other _ _ _ _ hnl
         have hY1:∀c,c∈fsY→c∈fp l2:=fun c hc=>hsub.subset hc
         have hYb:∀c,c∈fsY→c≠b:=fun c hc e=>hne (h.dis l2 l c (hY1 c hc) (e▸hbm))
         have hnodl:=h.nod l
         rw [hgf] at hnodl
         have hbf:∀c,c∈fss.flatten→c≠b:=fun c hc e=>(q17.1 hnodl).1 (e▸hc)
         have hlf:i<fss.length:=by omega
         have hpiece:∀c,c∈(fss.set i fsY).flatten→c∈fsY∨c∈fss.flatten:=by
          intro c hc
          obtain ⟨q,hq,hcq⟩:=List.mem_flatten.1 hc
          rcases List.mem_or_eq_of_mem_set hq with hq|rfl
          · exact .inr (List.mem_flatten.2 ⟨q,hq,hcq⟩)
          · exact .inl hcq
         have hnodS:(fss.set i []).flatten.Nodup:=by
          have hsl:∀(fss:List (List Nat)) (i:Nat),((fss.set i []).flatten).Sublist fss.flatten:=by
           intro fss
           induction fss with
           |nil=>intro i;simp
           |cons x r ih=>
            intro i
            cases i with
            |zero=>simp
            |succ i=>simpa using (List.Sublist.refl x).append (ih i)
          exact (q17.1 hnodl).2.sublist (hsl fss i)
         have hperm:(fss.set i fsY).flatten.Perm (fsY++(fss.set i []).flatten):=by
          have:=set_flatten_perm fsY (fss.set i []) i (by simpa using hlf) (by simp [q4,hlf])
          rwa [List.set_set] at this
         have hpS:∀c,c∈(fss.set i []).flatten→c∈fss.flatten:=by
          intro c hc
          obtain ⟨q,hq,hcq⟩:=List.mem_flatten.1 hc
          rcases List.mem_or_eq_of_mem_set hq with hq|rfl
          · exact List.mem_flatten.2 ⟨q,hq,hcq⟩
          · cases hcq
         have hnod2:(b::(fss.set i fsY).flatten).Nodup:=by
          refine q17.2 ⟨fun hc=> ?_,hperm.nodup_iff.2 (List.nodup_append.2 ⟨hsub.nodup (h.nod l2),hnodS,?_⟩)⟩
          · rcases hpiece b hc with hc|hc
            · exact hYb b hc rfl
            · exact hbf b hc rfl
          · rintro c hc c' hc' rfl
            exact hne (h.dis l2 l c (hY1 c hc) (by rw [hgf];exact q14 _ (hpS c hc')))
         have hfin:∀c,c∈b::(fss.set i fsY).flatten→c∈fp l∨c∈fp l2:=by
          intro c hc
          rcases List.mem_cons.1 hc with rfl|hc
          · exact .inl hbm
          · rcases hpiece c hc with hc|hc
            · exact .inr (hY1 c hc)
            · exact .inl (by rw [hgf];exact q14 _ hc)
         refine ⟨_,_,_,_,_,hR1.next l (φ l) (b::(fss.set i fsY).flatten) S (.row v' ⟨1,false⟩ true (xs.set i (.arr sh2 (ys.take n2)))) (by simp) ⟨rfl,rfl,rfl⟩ (Szs.setRow hheap hsp) ?_ (fun c hc=>⟨hc,heap_setRow_other _ fun e=>h.notS l b hbm (e▸hc)⟩) (fun c h1 h2=>absurd h1 h2)
          (Sized.setRow _ hheap hsp) ?_ (fun ver _=>by rw [hφ1];exact LS.le_refl _ _) ?_ ?_ (fun _ _ hx=>by cases hx) hnod2 ?_,rfl,hk⟩
         · intro c hc hio'
           refine heap_setRow_other _ fun e=> ?_
           subst e
           rcases (h.fpB l c hbm).2 with hh|hh
           · exact q23 _ (q24 hc hh)
           · exact hio' _ hh.choose_spec.1
         · intro l' hl' c hc
           refine heap_setRow_other _ fun e=> ?_
           subst e
           by_cases e2:l'=l2
           · subst e2;rw [upd_same] at hc;cases hc
           · rw [upd_other _ _ _ _ e2] at hc;exact hl' (h.dis l' l c hc hbm)
         · rintro ver ⟨k',h1,h2⟩
           rw [lookB_cons,if_neg hne,hlk] at h1;cases h1;exact h2
         · refine .inr ⟨b,cap,by rw [upd_same];exact hφ,q15 ..,fun h=>(by cases h),?_⟩
           refine .arr ⟨1,false⟩ _ b cap _ e (fss.set i fsY) (heap_setRow hheap hsp) (by rw [hsp];exact hcs) (by rw [q12];exact hcap) hmx (fun c hc=> ?_) (by simpa using hfl) (fun c hc=> ?_)
           · rw [q8]
             split
             · exact ⟨rfl,rfl⟩
             · exact hff c (by simpa using hc)
           · have hc':c<xs.length:=by simpa using hc
             by_cases hic:i=c
             · subst hic
               rw [List.getElem_set_self]
               have e1:(fss.set i fsY).getD i []=fsY:=by simp [q4,hlf]
               have hlt:(cs.toList.take i).length=i:=by simp only [q13];omega
               have e2:elemV (cs.toList.take i++[v]++cs.toList.drop (i+[v].length)) (i*1) ⟨1,false⟩=v:=by
                rw [elemV_cell,q26,q4,List.getElem?_append_left (by rw [q10,hlt];simp),List.getElem?_append_right (by omega),hlt];simp
               rw [e1]
               show Own _ _ _ (elemV (cs.toList.take i++[v]++cs.toList.drop (i+[v].length)) (i*1) ⟨1,false⟩) _
               rw [e2]
               exact hoY.mono (fun _ h=>h.elim) (fun _ h=>h) fun c hc=>heap_setRow_other _ (hYb c hc)
             · rw [List.getElem_set_ne hic]
               have e1:(fss.set i fsY).getD c []=fss.getD c []:=by simp [q4,List.getElem?_set,hic]
               have e2:=elemV_splice_other (l:=cs.toList) (vs:=[v]) (sh:=⟨1,false⟩) (i:=i) (i':=c) (j:=0) (Ne.symm hic) (by simp) (by simp at hil ⊢;omega) (fun _=>rfl)
               simp only [q26,Nat.add_zero] at e2
               rw [e1]
               show Own _ _ _ (elemV (cs.toList.take i++[v]++cs.toList.drop (i+[v].length)) (c*1) ⟨1,false⟩) _
               rw [q26,e2]
               have:=hvv c hc'
               rw [q26] at this
               exact this.mono (fun _ h=>h.elim) (fun _ h=>h) fun q hq=>heap_setRow_other _ (hbf q (mem_flatten_getD (hfl▸hc') hq))
         · intro c hc
           have hw:(w.setRow b (cs.toList.take i++[v]++cs.toList.drop (i+[v].length)).toArray).heap.size=w.heap.size:=by simp
           rcases hfin c hc with hcl|hcl
           · have:=h.fpB l c hcl
             refine ⟨h.notS l c hcl,fun l' hl' hc'=> ?_,by rw [hw];exact this.1,this.2⟩
             by_cases e2:l'=l2
             · subst e2;rw [upd_same] at hc';cases hc'
             · rw [upd_other _ _ _ _ e2] at hc';exact hl' (h.dis l' l c hc' hcl)
           · have:=h.fpB l2 c hcl
             refine ⟨h.notS l2 c hcl,fun l' hl' hc'=> ?_,by rw [hw];exact this.1,.inl (this.2.resolve_right fun hh=>q23 _ (q24 hio hh.choose_spec.2.1))⟩
             by_cases e2:l'=l2
             · subst e2;rw [upd_same] at hc';cases hc'
             · rw [upd_other _ _ _ _ e2] at hc';exact e2 (h.dis l' l2 c hc' hcl)
     · exact hk.elim
   · exact run_store ht h hp hy hyl hk
 · exact run_store ht h hp hy hyl hk
end
end Go.Vc
namespace Go.Vc
section
variable {P:Program} {B:Base} {N:Nat} {φ:Nat→LS} {fp:Nat→List Nat} {S:Nat→Prop} {ts:Env} {m:Mem} {a:Act} {w:World}
theorem run_storeSh {t:TypeId} {ti:TI} (ht:tiOf P t=some ti) (h:RS B N φ fp S ts m a w) {l ver i:Nat} {xs:List AV} {y:AV} {u v:Value} (hp:RV w S φ (.ptr l ver i 0) u) (hlk:lookB m l=some (.row ver ⟨1,false⟩ false xs)) (hi:i<xs.length)
 (hy:Rd w S y v) (hyl:leaf y) (hf:fits ⟨1,false⟩ y) (hn:ti.size=1) {k:Mem→Prop} (hk:k ((l,.row ver ⟨1,false⟩ false (xs.set i y))::m)):RunsU B N a (fun ts' m'=>ts'=ts∧k m') ((Instr.storeAt t u v).run P w):=by
 have hp1:=rv_ptr hp
 have hv1:v.oneCell'=true:=hy.leaf_oneCell hyl
 have hvc:v.cells.toList=[v]:=by rw [cells_single hv1]
 rcases h.mSome l _ hlk with ⟨_,hnil,_⟩|⟨b,cap,hφ,hbm,hdp,hown⟩
 · subst hnil;exact absurd hi (q27 _)
 · have hpv:=hp1 b _ hφ
   simp only [q26,Nat.add_zero] at hpv
   subst hpv
   simp only [Bool.false_eq_true,if_false] at hown
   generalize hgf:fp l=fs at hown hbm hdp
   cases hown with
   |rd _ _ hrd=>exact absurd hbm (by simp)
   |arr _ _ _ _ cs e fss hheap hcs hcap hmx hff hfl hvv=>
    have hcs1:cs.size=cap:=by simpa using hcs
    have hroom:i<cs.toList.length:=by simp only [q0];omega
    have hrun:=run_storeVar_at (P:=P) ht hheap (o:=i) (v:=v) (by rw [hvc];exact hn.symm) (by rw [hvc];simp at hroom ⊢;omega) (by rw [hvc];intro u hu;simp at hu;subst hu;exact hv1)
    rw [hvc] at hrun
    refine ⟨_,hrun,?_⟩
    have hsp:(cs.toList.take i++[v]++cs.toList.drop (i+[v].length)).toArray.size=cs.size:=size_splice (cs:=cs) (o:=i) (vs:=[v]) (by simp at hroom ⊢;omega)
    have hf0:fss.flatten=[]:=by
     have:=hdp rfl
     simpa using this
    have hfs:∀c,c<fss.length→fss.getD c []=[]:=fun c hc=>by
     have:=q3.1 hf0 (fss.getD c []) (by rw [q4,q5 hc];exact List.getElem_mem hc)
     exact this
    have hget:∀c,(cs.toList.take i++[v]++cs.toList.drop (i+[v].length)).getD c Go.undef=if c=i then v else cs.toList.getD c Go.undef:=by
     intro c
     have e:cs.toList.take i++[v]++cs.toList.drop (i+[v].length)=cs.toList.set i v:=by
      rw [List.set_eq_take_append_cons_drop,if_pos hroom];simp
     rw [e,q4,List.getElem?_set]
     by_cases hc:c=i
     · subst hc;rw [if_pos rfl,if_pos rfl,if_pos hroom];rfl
     · rw [if_neg hc,if_neg (Ne.symm hc),q4]
    have hsame:∀c,S c→(w.setRow b (cs.toList.take i++[v]++cs.toList.drop (i+[v].length)).toArray).heap[c]? =w.heap[c]? :=fun c hc=>heap_setRow_other _ fun e=>h.notS l b (h.at_mem hφ) (e▸hc)
    have hRS:=h.write hφ hheap hsp (.row ver ⟨1,false⟩ false (xs.set i y)) rfl
     (.inr ⟨b,cap,by rw [upd_same];exact hφ,by rw [hgf];exact hbm,by rw [hgf];exact hdp,by
       rw [hgf]
       have hmk:=Own.arr (w:=w.setRow b (cs.toList.take i++[v]++cs.toList.drop (i+[v].length)).toArray) (S:=S)
        ⟨1,false⟩ (xs.set i y) b cap _ e fss (heap_setRow hheap hsp) (by rw [hsp];exact hcs) (by rw [q12];exact hcap) hmx ?_ (by rw [q12];exact hfl) ?_
       · simpa using hmk
       · intro c hc
         rw [q12] at hc
         rw [q8]
         split
         · exact hf
         · exact hff c hc
       · intro c hc
         rw [q12] at hc
         rw [q8,elemV_cell,q26]
         show Own _ S _ ((cs.toList.take i++[v]++cs.toList.drop (i+[v].length)).getD c Go.undef) _
         rw [hget c,hfs c (by omega)]
         by_cases hic:i=c
         · subst hic
           rw [if_pos rfl,if_pos rfl]
           exact .rd _ _ (hy.mono hsame fun _ h=>h)
         · rw [if_neg hic,if_neg (Ne.symm hic)]
           have:=hvv c hc
           rw [hfs c (by omega),elemV_cell,q26] at this
           exact this.mono hsame (fun _ h=>h) fun q hq=>by cases hq⟩)
     (fun _ _ hx=>by cases hx)
    exact ⟨_,_,_,_,_,hRS,rfl,hk⟩
theorem run_storeShR {t:TypeId} {ti:TI} (ht:tiOf P t=some ti) (h:RS B N φ fp S ts m a w) {l ver i l2 v2 n2:Nat} {xs ys:List AV} {sh2:Sh} {u v:Value} (hp:RV w S φ (.ptr l ver i 0) u) (hlk:lookB m l=some (.row ver ⟨1,false⟩ false xs)) (hi:i<xs.length)
 (hlk2:lookB m l2=some (.row v2 sh2 true ys)) (hl2:l2<ioL) (hne:l2≠l) (h0:0<sh2.sz) (hn2:n2≤ys.length) (hy:RV w S φ (.ref l2 v2 0 n2) v) (hn:ti.size=1) {k:Mem→Prop}
 (hk:k ((l,.row ver ⟨1,false⟩ false (xs.set i (.arr sh2 (ys.take n2))))::(l2,.gone v2)::m)):RunsU B N a (fun ts' m'=>ts'=ts∧k m') ((Instr.storeAt t u v).run P w):=by
 obtain ⟨fs,hown,hsub⟩:=own_of_ref h hlk2 hy h0 hn2
 have hR:=h.give l2 _ hlk2 (fun b=>S b∨b∈fp l2) (fun _ h=>.inl h) (fun b h1 h2=>⟨h1.resolve_left h2,hl2⟩)
 have hrd:Rd w (fun b=>S b∨b∈fp l2) (.arr sh2 (ys.take n2)) v:=hown.rd_of (fun _ h=>h.elim) fun c hc=>.inr (hsub.subset hc)
 have hp':RV w (fun b=>S b∨b∈fp l2) (upd φ l2 .dead) (.ptr l ver i 0) u:=by
  refine hp.mono (fun _ _=>rfl) (fun _ h=>.inl h) (fun l b sh ver cs e _ hb=>⟨cs,e,hb,rfl⟩) fun l' ver' hl'=> ?_
  by_cases e:l'=l2
  · subst e;rw [upd_same];exact LS.le_dead _ _
  · rw [upd_other _ _ _ _ e];exact LS.le_refl _ _
 exact run_storeSh ht hR hp' (by rw [lookB_cons,if_neg hne];exact hlk) hi hrd trivial ⟨rfl,rfl⟩ hn hk
def sStoreYA (n l ver i j:Nat) (b:Option Blk) (y:AV) (m:Mem) (k:Mem→Prop):Prop:=match b with
 |some (.row v ⟨1,false⟩ false xs)=>sStoreX n (.ptr l ver i j) y m k∨((v=ver∧n=1∧j=0∧i<xs.length)∧k ((l,.row ver ⟨1,false⟩ false (xs.set i y))::m))
 |_=>sStoreX n (.ptr l ver i j) y m k
@[congr] theorem sStoreYA_congr {n l ver i j:Nat} {b b':Option Blk} {y:AV} {m:Mem} {k:Mem→Prop} (h:b=b'):sStoreYA n l ver i j b y m k=sStoreYA n l ver i j b' y m k:=by rw [h]
def sStoreYR2 (l ver i:Nat) (xs:List AV) (l2 v2 n2:Nat) (b:Option Blk) (m:Mem) (k:Mem→Prop):Prop:=match b with
 |some (.row v sh2 true ys)=>(v=v2∧0<sh2.sz∧n2≤ys.length)∧k ((l,.row ver ⟨1,false⟩ false (xs.set i (.arr sh2 (ys.take n2))))::(l2,.gone v2)::m)
 |_=>False
@[congr] theorem sStoreYR2_congr {l ver i:Nat} {xs:List AV} {l2 v2 n2:Nat} {b b':Option Blk} {m:Mem} {k:Mem→Prop} (h:b=b'):sStoreYR2 l ver i xs l2 v2 n2 b m k=sStoreYR2 l ver i xs l2 v2 n2 b' m k:=by rw [h]
theorem sStoreYR2_row (l ver i:Nat) (xs:List AV) (l2 v2 n2 v:Nat) (sh2:Sh) (ys:List AV) (m:Mem) (k:Mem→Prop):sStoreYR2 l ver i xs l2 v2 n2 (some (.row v sh2 true ys)) m k=
 ((v=v2∧0<sh2.sz∧n2≤ys.length)∧k ((l,.row ver ⟨1,false⟩ false (xs.set i (.arr sh2 (ys.take n2))))::(l2,.gone v2)::m)):=rfl
def sStoreYR (n l ver i j:Nat) (b:Option Blk) (l2 v2 i2 n2:Nat) (m:Mem) (k:Mem→Prop):Prop:=match b with
 |some (.row v ⟨1,false⟩ false xs)=>sStoreX n (.ptr l ver i j) (.ref l2 v2 i2 n2) m k∨((v=ver∧n=1∧j=0∧i2=0∧i<xs.length∧l2≠l∧l2<ioL)∧sStoreYR2 l ver i xs l2 v2 n2 (lookB m l2) m k)
 |_=>sStoreX n (.ptr l ver i j) (.ref l2 v2 i2 n2) m k
@[congr] theorem sStoreYR_congr {n l ver i j:Nat} {b b':Option Blk} {l2 v2 i2 n2:Nat} {m:Mem} {k:Mem→Prop} (h:b=b'):sStoreYR n l ver i j b l2 v2 i2 n2 m k=sStoreYR n l ver i j b' l2 v2 i2 n2 m k:=by rw [h]
theorem sStoreYR_box (n l ver i j v:Nat) (xs:List AV) (l2 v2 i2 n2:Nat) (m:Mem) (k:Mem→Prop):sStoreYR n l ver i j (some (.box v xs)) l2 v2 i2 n2 m k=sStoreX n (.ptr l ver i j) (.ref l2 v2 i2 n2) m k:=rfl
theorem sStoreYR_flat (n l ver i j v:Nat) (xs:List AV) (l2 v2 i2 n2:Nat) (m:Mem) (k:Mem→Prop):sStoreYR n l ver i j (some (.row v ⟨1,false⟩ false xs)) l2 v2 i2 n2 m k=
 (sStoreX n (.ptr l ver i j) (.ref l2 v2 i2 n2) m k∨((v=ver∧n=1∧j=0∧i2=0∧i<xs.length∧l2≠l∧l2<ioL)∧sStoreYR2 l ver i xs l2 v2 n2 (lookB m l2) m k)):=rfl
def sStoreY (n:Nat) (p y:AV) (m:Mem) (k:Mem→Prop):Prop:=match p,y with
 | .ptr l ver i j,.arr sh ys=>sStoreYA n l ver i j (lookB m l) (.arr sh ys) m k
 | .ptr l ver i j,.val (.slice none 0 0)=>sStoreYA n l ver i j (lookB m l) (.val (.slice none 0 0)) m k
 | .ptr l ver i j,.ref l2 v2 i2 n2=>sStoreYR n l ver i j (lookB m l) l2 v2 i2 n2 m k
 |p,y=>sStoreX n p y m k
@[congr] theorem sStoreY_congr {n:Nat} {p p' y y':AV} {m:Mem} {k:Mem→Prop} (h:p=p') (h':y=y'):sStoreY n p y m k=sStoreY n p' y' m k:=by rw [h,h']
section
variable (n l ver i j:Nat) (m:Mem) (k:Mem→Prop)
theorem sStoreY_ref (l2 v2 i2 n2:Nat):sStoreY n (.ptr l ver i j) (.ref l2 v2 i2 n2) m k=sStoreYR n l ver i j (lookB m l) l2 v2 i2 n2 m k:=rfl
theorem sStoreY_int (t:IntKind) (x:Int):sStoreY n (.ptr l ver i j) (.val (.int t x)) m k=sStoreX n (.ptr l ver i j) (.val (.int t x)) m k:=rfl
theorem sStoreY_bool (x:Bool):sStoreY n (.ptr l ver i j) (.val (.bool x)) m k=sStoreX n (.ptr l ver i j) (.val (.bool x)) m k:=rfl
theorem sStoreY_agg (ys:List AV):sStoreY n (.ptr l ver i j) (.agg ys) m k=sStoreX n (.ptr l ver i j) (.agg ys) m k:=rfl
end
theorem sStoreY_of {n:Nat} {p y:AV} {m:Mem} {k:Mem→Prop} (h:sStoreX n p y m k):sStoreY n p y m k:=by
 unfold sStoreY
 split
 · unfold sStoreYA;split
   · exact .inl h
   · exact h
 · unfold sStoreYA;split
   · exact .inl h
   · exact h
 · unfold sStoreYR;split
   · exact .inl h
   · exact h
 · exact h
theorem run_storeY {t:TypeId} {ti:TI} (ht:tiOf P t=some ti) (h:RS B N φ fp S ts m a w) {p y:AV} {u v:Value} (hp:RV w S φ p u) (hy:RV w S φ y v) (hyl:∀l ver,(l,ver)∈labs y→known m l ver)
 {k:Mem→Prop} (hk:sStoreY ti.size p y m k):RunsU B N a (fun ts' m'=>ts'=ts∧k m') ((Instr.storeAt t u v).run P w):=by
 unfold sStoreY at hk
 split at hk
 · unfold sStoreYA at hk
   split at hk
   · rename_i hlk
     rcases hk with hk|⟨⟨rfl,hn,rfl,hi⟩,hk⟩
     · exact run_storeX ht h hp hy hyl hk
     · exact run_storeSh ht h hp hlk hi (rv_arr hy) trivial ⟨rfl,rfl⟩ hn hk
   · exact run_storeX ht h hp hy hyl hk
 · unfold sStoreYA at hk
   split at hk
   · rename_i hlk
     rcases hk with hk|⟨⟨rfl,hn,rfl,hi⟩,hk⟩
     · exact run_storeX ht h hp hy hyl hk
     · obtain ⟨rfl,h1⟩:=rv_val hy
       exact run_storeSh ht h hp hlk hi (.val _ h1) trivial ⟨rfl,rfl⟩ hn hk
   · exact run_storeX ht h hp hy hyl hk
 · unfold sStoreYR at hk
   split at hk
   · rename_i hlk
     rcases hk with hk|⟨⟨rfl,hn,rfl,rfl,hi,hne,hl2⟩,hk⟩
     · exact run_storeX ht h hp hy hyl hk
     · unfold sStoreYR2 at hk
       split at hk
       · rename_i hlk2
         obtain ⟨⟨rfl,h0,hn2⟩,hk⟩:=hk
         exact run_storeShR ht h hp hlk hi hlk2 hl2 hne h0 hn2 hy hn hk
       · exact hk.elim
   · exact run_storeX ht h hp hy hyl hk
 · exact run_storeX ht h hp hy hyl hk
end
end Go.Vc
namespace Go.Vc
theorem fits_agg (n:Nat) (ag:Bool) (ys:List AV):fits ⟨n,ag⟩ (.agg ys)=(ag=true∧ys.length=n):=rfl
theorem fits_val (n:Nat) (ag:Bool) (v:Value):fits ⟨n,ag⟩ (.val v)=(ag=false∧n=1):=rfl
theorem fits_arr (n:Nat) (ag:Bool) (sh:Sh) (xs:List AV):fits ⟨n,ag⟩ (.arr sh xs)=(ag=false∧n=1):=rfl
def sMake (ti:TI) (d:Nat) (x y:AV) (m:Mem) (k:AV→Mem→Prop):Prop:=match x,y with
 | .val (.int _ l),.val (.int _ c)=>(0≤l∧l≤c∧c≤1073741824)∧ti.bytes≤65536∧fits ti.sh ti.zero∧
    k (.ref d (newVer m d) 0 l.toNat) ((d,.row (newVer m d) ti.sh true (List.replicate l.toNat ti.zero))::m)
 |_,_=>False
@[congr] theorem sMake_congr {ti:TI} {d:Nat} {x x' y y':AV} {m:Mem} {k:AV→Mem→Prop} (h:x=x') (h':y=y'):sMake ti d x y m k=sMake ti d x' y' m k:=by rw [h,h']
theorem sMake_eq (ti:TI) (d:Nat) (i j:IntKind) (l c:Int) (m:Mem) (k:AV→Mem→Prop):sMake ti d (.val (.int i l)) (.val (.int j c)) m k=((0≤l∧l≤c∧c≤1073741824)∧ti.bytes≤65536∧fits ti.sh ti.zero∧
 k (.ref d (newVer m d) 0 l.toNat) ((d,.row (newVer m d) ti.sh true (List.replicate l.toNat ti.zero))::m)):=rfl
section
variable {P:Program} {B:Base} {N:Nat} {φ:Nat→LS} {fp:Nat→List Nat} {S:Nat→Prop} {ts:Env} {m:Mem} {a:Act} {w:World}
theorem zero_cells {ti:TI} {z:Value} (hz:ti.zero=cAV z) (hf:fits ti.sh ti.zero):z.cells.size=ti.size∧(∀(w:World) (S:Nat→Prop),Rd w S ti.zero (elemV z.cells.toList 0 ti.sh))∧isFlat ti.zero=true:=by
 rw [hz] at hf ⊢
 have one:∀v:Value,v.oneCell'=true→fits ti.sh (.val v)→v.cells.size=ti.size∧(∀(w:World) (S:Nat→Prop),Rd w S (.val v) (elemV v.cells.toList 0 ti.sh))∧isFlat (.val v)=true:=by
  intro v hv hf
  obtain ⟨h1,h2⟩:=hf
  rw [cells_single hv]
  refine ⟨h2.symm,fun w S=> ?_,rfl⟩
  simp only [elemV,h1,Bool.false_eq_true,if_false]
  exact .val v hv
 cases z with
 |agg cs=>
  simp only [cAV] at hf ⊢
  split at hf
  · rename_i hall
    rw [if_pos hall]
    obtain ⟨h1,h2⟩:=hf
    have h3:cs.size=ti.size:=by
     show cs.size=ti.sh.sz
     simpa using h2
    refine ⟨h3,fun w S=> ?_,?_⟩
    · have h4:=rd_cAV (w:=w) (S:=S) (.agg cs)
      simp only [cAV,if_pos hall] at h4
      simp only [elemV,h1,if_true,List.drop_zero,Value.cells]
      rw [show ti.sh.sz=cs.toList.length by simpa [TI.sh] using h3.symm,List.take_length]
      exact h4
    · simp only [isFlat]
      generalize cs.toList=l
      induction l with
      |nil=>rfl
      |cons x r ih=>simpa [isFlatL,isFlat] using ih
  · exact hf.elim
 |tuple vs=>exact hf.elim
 |_=>exact one _ rfl hf
theorem madeCells_getD (z:Array Value) (n k c s:Nat) (hs:z.size=s) (hc:c<s) (hk:k<n):(madeCells z (n*s)).toList.getD (k*s+c) Go.undef=z.toList.getD c Go.undef:=by
 have h1:k*s+c<n*s:=by have:=mul_le_of_lt (s:=s) hk;omega
 have h2:(k*s+c)%s=c:=by rw [Nat.mul_comm,Nat.mul_add_mod];exact Nat.mod_eq_of_lt hc
 simp only [q4,Array.getElem?_toList,madeCells,Array.getElem?_map,Array.getElem?_range,h1,if_true,Option.map_some,Option.getD_some,hs,h2]
 rw [getElem!_pos z c (by omega),Array.getElem?_eq_getElem (by omega)]
 rfl
theorem elemV_ext {l l':List Value} {o o':Nat} {sh:Sh} (h1:o+sh.sz≤l.length) (h2:o'+sh.sz≤l'.length) (h0:sh.ag=false→sh.sz=1)
 (h:∀c,c<sh.sz→l.getD (o+c) Go.undef=l'.getD (o'+c) Go.undef):elemV l o sh=elemV l' o' sh:=by
 cases sh with
 |mk sz ag=>
 simp only at*
 cases ag with
 |false=>have:=h0 rfl;subst this;rw [elemV_cell,elemV_cell];simpa using h 0 (by omega)
 |true=>
  rw [elemV_agg,elemV_agg]
  congr 2
  apply List.ext_getElem
  · simp;omega
  · intro c h3 h4
    simp only [q13,q11] at h3
    have e:∀(l:List Value) (o:Nat) (h:c<((l.drop o).take sz).length),((l.drop o).take sz)[c]=l.getD (o+c) Go.undef:=by
     intro l o h
     simp only [q13,q11] at h
     simp only [q9,q7]
     rw [q4,q5 (by omega)];rfl
    rw [e,e];exact h c (by omega)
theorem fits_sz {sh:Sh} {x:AV} (h:fits sh x) (hag:sh.ag=false):sh.sz=1:=by
 cases x<;>first|exact h.2|exact h.elim|(have:=h.1;rw [hag] at this;cases this)
theorem run_make' {t:TypeId} {tt ti:TI} (htt:tiOf P t=some tt) (hks:tt.kind= .slice) (ht:tiOf P tt.elem=some ti) (h:RS B N φ fp S ts m a w) {x y:AV} {u v:Value} (hx:RV w S φ x u) (hy:RV w S φ y v) (d:Nat)
 {k:AV→Mem→Prop} (hk:sMake ti d x y m k):Runs B N a (fun x ts' m'=>ts'=ts∧k x m') ((Instr.makeSlice t u v).run P w):=by
 unfold sMake at hk
 split at hk
 · rename_i i l j c
   obtain ⟨rfl,_⟩:=rv_val hx
   obtain ⟨rfl,_⟩:=rv_val hy
   obtain ⟨⟨h0,hlc,hc⟩,hb,hf,hk⟩:=hk
   obtain ⟨inf,dd,z,hi,hd,hz,hag,hsz,hby,hzz,_⟩:=kind_of ht
   obtain ⟨hzs,hzr,hzf⟩:=zero_cells hzz hf
   have hsl:=kind_slice htt hks
   have hbytes:(inf.bytes:Int)*c≤281474976710656:=by
    rw [←hby]
    have h1:(ti.bytes:Int)≤65536:=by omega
    have h2:(ti.bytes:Int)*c≤65536*c:=Int.mul_le_mul_of_nonneg_right h1 (by omega)
    omega
   have hrun:=run_make (P:=P) w t tt.elem inf z hsl hi hz i j l c h0 hlc hbytes (by omega)
   refine ⟨_,_,hrun,?_⟩
   rw [←hsz]
   have hcc:l.toNat≤c.toNat:=by omega
   have hRS:=h.alloc d ti.sh (.row (newVer m d) ti.sh true (List.replicate l.toNat ti.zero)) (madeCells z.cells (c.toNat*ti.size)) tt.elem rfl
    (.inr ⟨w.heap.size,c.toNat,upd_same _ _ _,by simp,by simp,by
      have e:[w.heap.size]=w.heap.size::(List.replicate (List.replicate l.toNat ti.zero).length ([]:List Nat)).flatten:=by
       congr 1
       exact (q3.2 fun l hl=>(List.mem_replicate.1 hl).2).symm
      rw [e]
      refine .arr _ _ _ _ (madeCells z.cells (c.toNat*ti.size)) (tt.elem,false) _ (new_cel w _ _) (by rw [size_madeCells];rfl) (by simpa using hcc) (by unfold maxLen;omega) ?_ (by simp) ?_
      · intro q hq;simp only [List.getElem_replicate];exact hf
      · intro q hq
        simp only [List.length_replicate] at hq
        simp only [List.getElem_replicate]
        have e1:(List.replicate (List.replicate l.toNat ti.zero).length ([]:List Nat)).getD q []=[]:=by simp [q4,hq]
        rw [e1]
        have e2:elemV (madeCells z.cells (c.toNat*ti.size)).toList (q*ti.sh.sz) ti.sh=elemV z.cells.toList 0 ti.sh:=by
         have hq':q<c.toNat:=by omega
         refine elemV_ext ?_ ?_ (fits_sz hf) fun cc hcc=> ?_
         · simp only [q0,size_madeCells];exact mul_le_of_lt (s:=ti.size) hq'
         · simp only [q0,hzs];show 0+ti.size≤ti.size;omega
         · rw [q28];exact madeCells_getD z.cells c.toNat q cc ti.size hzs hcc hq'
        rw [e2]
        exact .rd _ _ (hzr _ _)⟩)
    (fun _ _ hx=>by cases hx)
   refine hRS.gives (x:=.ref d (newVer m d) 0 l.toNat) ?_ ?_ ⟨rfl,hk⟩
   · refine .ref _ _ _ _ _ (fun b sh hb=> ?_) (fun hb=> ?_) rfl
     · rw [upd_same] at hb;cases hb
       refine ⟨_,c.toNat,rfl,by omega,.inr ⟨by simp,_,_,new_cel w _ _,by rw [size_madeCells,q28];rfl⟩⟩
     · rw [upd_same] at hb;cases hb
   · intro l' ver hl
     simp only [labs,q16,Prod.mk.injEq] at hl
     obtain ⟨rfl,rfl⟩:=hl
     exact ⟨_,by simp [lookB_cons];rfl,q22 _⟩
 · exact hk.elim
def isNil:AV→Bool
 | .e0=>true
 | .val (.slice none 0 0)=>true
 |_=>false
def sSrcB (sh:Sh) (v i n:Nat) (b:Option Blk) (k:List AV→Prop):Prop:=match b with
 |some (.row v' sh' _ xs)=>v'=v∧sh'=sh∧i+n≤xs.length∧k ((xs.drop i).take n)
 |_=>False
@[congr] theorem sSrcB_congr {sh:Sh} {v i n:Nat} {b b':Option Blk} {k:List AV→Prop} (h:b=b'):sSrcB sh v i n b k=sSrcB sh v i n b' k:=by rw [h]
theorem sSrcB_row (sh:Sh) (v i n:Nat) (d:Bool) (xs:List AV) (k:List AV→Prop):sSrcB sh v i n (some (.row v sh d xs)) k=(i+n≤xs.length∧k ((xs.drop i).take n)):=by simp [sSrcB]
def sSrc (sh:Sh) (y:AV) (m:Mem) (k:List AV→Prop):Prop:=match y with
 | .arr sh' ys=>sh'=sh∧k ys
 | .ref l v i n=>sSrcB sh v i n (lookB m l) k
 |y=>isNil y=true∧k []
@[congr] theorem sSrc_congr {sh:Sh} {y y':AV} {m:Mem} {k:List AV→Prop} (h:y=y'):sSrc sh y m k=sSrc sh y' m k:=by rw [h]
theorem sSrc_arr (sh:Sh) (ys:List AV) (m:Mem) (k:List AV→Prop):sSrc sh (.arr sh ys) m k=k ys:=by simp [sSrc]
theorem sSrc_ref (sh:Sh) (l v i n:Nat) (m:Mem) (k:List AV→Prop):sSrc sh (.ref l v i n) m k=sSrcB sh v i n (lookB m l) k:=rfl
def sAppB (ti:TI) (l v i n:Nat) (b:Option Blk) (ys:List AV) (m:Mem) (k:AV→Mem→Prop):Prop:=match b with
 |some (.row v' sh' deep xs)=>v'=v∧i=0∧sh'=ti.sh∧n≤xs.length∧n+ys.length≤1073741824∧k (.ref l (v+1) 0 (n+ys.length)) ((l,.row (v+1) ti.sh deep (xs.take n++ys))::m)
 |_=>False
@[congr] theorem sAppB_congr {ti:TI} {l v i n:Nat} {b b':Option Blk} {ys:List AV} {m:Mem} {k:AV→Mem→Prop} (h:b=b'):sAppB ti l v i n b ys m k=sAppB ti l v i n b' ys m k:=by rw [h]
theorem sAppB_row (ag:Bool) (sz by':Nat) (z:AV) (f:List (Nat × Nat × Bool)) (e:Nat) (kd:TK) (l v n:Nat) (deep:Bool) (xs ys:List AV) (m:Mem) (k:AV→Mem→Prop):
 sAppB ⟨ag,sz,by',z,f,e,kd⟩ l v 0 n (some (.row v ⟨sz,ag⟩ deep xs)) ys m k=
  (n≤xs.length∧n+ys.length≤1073741824∧k (.ref l (v+1) 0 (n+ys.length)) ((l,.row (v+1) ⟨sz,ag⟩ deep (xs.take n++ys))::m)):=by simp [sAppB,TI.sh]
def sApp1 (ti:TI) (d:Nat) (x:AV) (ys:List AV) (m:Mem) (k:AV→Mem→Prop):Prop:=match x with
 | .ref l v i n=>sAppB ti l v i n (lookB m l) ys m k
 |x=>isNil x=true∧ys.length≤1073741824∧k (.ref d (newVer m d) 0 ys.length) ((d,.row (newVer m d) ti.sh true ys)::m)
@[congr] theorem sApp1_congr {ti:TI} {d:Nat} {x x':AV} {ys:List AV} {m:Mem} {k:AV→Mem→Prop} (h:x=x'):sApp1 ti d x ys m k=sApp1 ti d x' ys m k:=by rw [h]
theorem sApp1_ref (ti:TI) (d l v i n:Nat) (ys:List AV) (m:Mem) (k:AV→Mem→Prop):sApp1 ti d (.ref l v i n) ys m k=sAppB ti l v i n (lookB m l) ys m k:=rfl
theorem sApp1_nil (ti:TI) (d:Nat) (ys:List AV) (m:Mem) (k:AV→Mem→Prop):sApp1 ti d (.val (.slice none 0 0)) ys m k=(ys.length≤1073741824∧k (.ref d (newVer m d) 0 ys.length) ((d,.row (newVer m d) ti.sh true ys)::m)):=by simp [sApp1,isNil]
def sApp (ti:TI) (d:Nat) (x y:AV) (m:Mem) (k:AV→Mem→Prop):Prop:=
 ti.bytes≤65536∧0<ti.size∧fits ti.sh ti.zero∧sSrc ti.sh y m fun ys=>isFlatL ys=true∧sApp1 ti d x ys m k
theorem isFlatL_get {xs:List AV} (h:isFlatL xs=true):∀i (hi:i<xs.length),isFlat xs[i]=true:=by
 induction xs with
 |nil=>intro i hi;exact absurd hi (q27 _)
 |cons x r ih=>
  intro i hi
  simp only [isFlatL,Bool.and_eq_true] at h
  cases i with
  |zero=>exact h.1
  |succ i=>exact ih h.2 i (by simpa using hi)
def FC (P:Program) (w:World) (sz n:Nat) (v:Value) (l:List Value):Prop:=l.length=n*sz∧∀w':World,w'.heap=w.heap→(Builtin.firstCells sz n v).run P w'= .ok l.toArray w'
theorem fc_zero (sz:Nat) (a:Option Addr) (n c:Nat):FC P w sz 0 (.slice a n c) []:=by
 refine ⟨by simp,fun w' _=> ?_⟩
 cases a<;>simp [Builtin.firstCells,loadCells,loadCellsFrom]
theorem fc_at {b off n' c sz n:Nat} {cs:Array Value} {e:TypeId} {fr:Nat × Nat} (hb:w.heap[b]? =some (.cells cs e fr)) (h:off+n*sz≤cs.size):
 FC P w sz n (.slice (some ⟨b,off,none⟩) n' c) ((cs.toList.drop off).take (n*sz)):=by
 refine ⟨by simp;omega,fun w' hw=> ?_⟩
 simp only [Builtin.firstCells]
 exact run_loadCells_at (by rw [hw];exact hb) off (n*sz) h
theorem elemV_seg {l:List Value} {off n i:Nat} {sh:Sh} (hi:i<n) (h:off+n*sh.sz≤l.length) (h0:sh.ag=false→sh.sz=1):
 elemV ((l.drop off).take (n*sh.sz)) (i*sh.sz) sh=elemV l (off+i*sh.sz) sh:=by
 have h1:=mul_le_of_lt (s:=sh.sz) hi
 refine elemV_ext (by simp;omega) (by omega) h0 fun c hc=> ?_
 rw [getD_drop_take _ _ _ _ (by omega),Nat.add_assoc]
theorem elemV_left {l l':List Value} {o:Nat} {sh:Sh} (h:o+sh.sz≤l.length) (h0:sh.ag=false→sh.sz=1):elemV (l++l') o sh=elemV l o sh:=by
 refine elemV_ext (by simp;omega) h h0 fun c hc=> ?_
 simp only [q4]
 rw [List.getElem?_append_left (by omega)]
theorem elemV_right {l l':List Value} {o:Nat} {sh:Sh} (h:o+sh.sz≤l'.length) (h0:sh.ag=false→sh.sz=1):elemV (l++l') (l.length+o) sh=elemV l' o sh:=by
 refine elemV_ext (by simp;omega) h h0 fun c hc=> ?_
 simp only [q4]
 rw [List.getElem?_append_right (by omega)]
 congr 2;omega
theorem row_inv {S:Nat→Prop} {sh:Sh} {xs:List AV} {b n cap:Nat} {fs:List Nat} (h:Own w S (.arr sh xs) (.slice (some ⟨b,0,none⟩) n cap) fs) (hb:b∈fs):
 ∃(cs:Array Value) (e:El) (fss:List (List Nat)),fs=b::fss.flatten∧w.heap[b]? =some (celO cs e)∧cs.size=cap*sh.sz∧xs.length≤cap∧cap≤maxLen∧(∀i (h:i<xs.length),fits sh xs[i])∧fss.length=xs.length∧
  ∀i (h:i<xs.length),Own w S xs[i] (elemV cs.toList (i*sh.sz) sh) (fss.getD i []):=by
 cases h with
 |rd _ _ h=>cases hb
 |arr _ _ _ _ cs e fss h1 h2 h3 h4 h5 h6 h7=>exact ⟨cs,e,fss,rfl,h1,h2,h3,h4,h5,h6,h7⟩
theorem sSrc_out (h:RS B N φ fp S ts m a w) {sh:Sh} {y:AV} {v:Value} (hy:RV w S φ y v) {k:List AV→Prop} (hk:sSrc sh y m k):
 ∃ys,k ys∧∃ad c l,v= .slice ad ys.length c∧FC P w sh.sz ys.length v l∧(∀i (hi:i<ys.length),fits sh ys[i])∧
  (isFlatL ys=true→∀i (hi:i<ys.length),Rd w (fun _=>False) ys[i] (elemV l (i*sh.sz) sh)):=by
 have nil:∀v:Value,(∃ad,v= .slice ad 0 0)→k []→∃ys,k ys∧∃ad c l,v= .slice ad ys.length c∧FC P w sh.sz ys.length v l∧(∀i (hi:i<ys.length),fits sh ys[i])∧
  (isFlatL ys=true→∀i (hi:i<ys.length),Rd w (fun _=>False) ys[i] (elemV l (i*sh.sz) sh)):=by
  rintro v ⟨ad,rfl⟩ hk
  exact ⟨[],hk,ad,0,[],rfl,fc_zero _ _ _ _,fun i hi=>absurd hi (q27 _),fun _ i hi=>absurd hi (q27 _)⟩
 cases y with
 |arr sh' ys=>
  obtain ⟨rfl,hk⟩:=hk
  cases rv_arr hy with
  |nil _ ad=>exact nil _ ⟨ad,rfl⟩ hk
  |arr _ _ b off cap cs e fr hS hb hcap hl hf hv=>
   refine ⟨ys,hk,_,cap,_,rfl,fc_at hb hl,hf,fun hfl i hi=> ?_⟩
   rw [elemV_seg hi (by simpa using hl) (fits_sz (hf i hi))]
   exact (flat_rd (fs:=[]) (.rd _ _ (hv i hi)) (isFlatL_get hfl i hi)).1
 |ref l ver i n=>
  have hr:=rv_ref hy
  simp only [sSrc] at hk
  unfold sSrcB at hk
  split at hk
  · rename_i v' sh' deep xs hlk
    obtain ⟨rfl,rfl,hin,hk⟩:=hk
    have hlen:((xs.drop i).take n).length=n:=by simp;omega
    rcases h.mSome l _ hlk with ⟨h1,h2,h3⟩|⟨b,cap,hφ,hbm,hdp,hown⟩
    · obtain ⟨rfl,ad,rfl⟩:=hr.2 h1
      simp only [q20] at hk
      exact nil _ ⟨ad,rfl⟩ hk
    · obtain ⟨ad,cp,rfl,hnc,hcp⟩:=hr.1 b sh' hφ
      by_cases hn0:n=0
      · subst hn0
        simp only [q20] at hk
        exact ⟨[],hk,ad,cp,[],rfl,fc_zero _ _ _ _,fun i hi=>absurd hi (q27 _),fun _ i hi=>absurd hi (q27 _)⟩
      · obtain ⟨rfl,_⟩:=hcp.resolve_left (by omega)
        obtain ⟨cs,e,fss,hgf,hheap,hcs,hcap,hmx,hff,hfl,hvv⟩:=row_inv hown hbm
        have hroom:i*sh'.sz+n*sh'.sz≤cs.size:=by
         rw [hcs,←q21];exact q25 _ (by omega)
        refine ⟨_,hk,_,cp,_,by rw [hlen],by rw [hlen];exact fc_at hheap hroom,fun q hq=> ?_,fun hfl q hq=> ?_⟩
        · rw [hlen] at hq
          simp only [q9,q7]
          exact hff _ (by omega)
        · have hfq:=isFlatL_get hfl q hq
          rw [hlen] at hq
          simp only [q9,q7] at hfq ⊢
          have hq2:i+q<xs.length:=by omega
          rw [elemV_seg hq (by simpa using hroom) (fits_sz (hff (i+q) hq2)),←q21]
          exact (flat_rd (hvv (i+q) hq2) hfq).1
  · exact hk.elim
 |e0=>obtain ⟨ad,rfl⟩:=rv_e0 hy;exact nil _ ⟨ad,rfl⟩ hk.2
 |val u=>
  obtain ⟨h1,hk⟩:=hk
  obtain ⟨rfl,_⟩:=rv_val hy
  refine nil _ ?_ hk
  unfold isNil at h1
  split at h1
  · rename_i he;cases he
  · rename_i he;cases he;exact ⟨_,rfl⟩
  · cases h1
 |undef=>exact absurd hk.1 (by simp [isNil])
 |agg xs=>exact absurd hk.1 (by simp [isNil])
 |tup xs=>exact absurd hk.1 (by simp [isNil])
 |ptr l v i j=>exact absurd hk.1 (by simp [isNil])
 |eptr sh xs i j=>exact absurd hk.1 (by simp [isNil])
 |clo f xs=>exact absurd hk.1 (by simp [isNil])
theorem app_grow {t t' ty e e2:TypeId} {i:TypeInfo} {z:Value} (ht:P.underlying t=some (.slice e)) (ht':P.underlying t'=some (.slice e2)) (hi:P.info? e=some i) (hz:i.zero=some z)
 {ad ad':Option Addr} {n cap n' c:Nat} {olds news:List Value} (ho:FC P w i.size n (.slice ad n cap) olds) (hn:FC P w i.size n' (.slice ad' n' c) news)
 (hg:cap<n+n') (h63:n+n'≤1073741824) (hb:i.bytes≤65536):
 (Builtin.append_ #[t,t'] ty #[.slice ad n cap,.slice ad' n' c]).run P w=
   .ok (.slice (some ⟨w.heap.size,0,none⟩) (n+n') (grownCap w (n+n') cap e)) (w.drew.alloc (.cells (olds++news++(Builtin.zeroCells z.cells (grownCap w (n+n') cap e-(n+n'))).toList).toArray e)):=by
 have h1:¬(n+n'≤cap):=by omega
 have h63':¬(9223372036854775807<((n:Int)+(n':Int))):=by omega
 have hfit:Builtin.nextslicecap (n+n') cap*i.bytes≤281474976710656:=by
  refine growslice_fits hg ?_
  calc (n+n')*i.bytes≤1073741824*65536:=Nat.mul_le_mul h63 hb
   _≤140737488355328:=by decide
 have h48':¬(281474976710656<Builtin.nextslicecap (n+n') cap*i.bytes):=by omega
 have hfo:=ho.2 w.drew rfl
 have hfn:=hn.2 w.drew rfl
 simp [Builtin.append_,run_underlying ht,run_underlying ht',sizeOf,typeInfo,zeroValue,hi,hz,Builtin.lenOf,h1,h63',h48',Question.forced,hfo,hfn,newRow,grownCap]
 congr 2
 apply Array.ext'
 simp
theorem app_room {t t' ty e e2:TypeId} {e':El} {i:TypeInfo} (ht:P.underlying t=some (.slice e)) (ht':P.underlying t'=some (.slice e2)) (hi:P.info? e=some i)
 {g n cap n' c:Nat} {ad':Option Addr} {news:List Value} {cur:Array Value} (hg:w.heap[g]? =some (celO cur e')) (hn:FC P w i.size n' (.slice ad' n' c) news)
 (h1:∀u,u∈news→u.oneCell'=true) (hroom:n+n'≤cap) (hfit:n*i.size+news.length≤cur.size):
 (Builtin.append_ #[t,t'] ty #[.slice (some ⟨g,0,none⟩) n cap,.slice ad' n' c]).run P w=
   .ok (.slice (some ⟨g,0,none⟩) (n+n') cap) (w.setRow g (cur.toList.take (n*i.size)++news++cur.toList.drop (n*i.size+news.length)).toArray):=by
 have hf:=hn.2 w rfl
 have hst:=storeCells_cel P (e:=e') (o:=n*i.size) news 0 cur w hg (by simpa using hfit) h1
 simp only [Nat.add_zero] at hst
 simp [Builtin.append_,run_underlying ht,run_underlying ht',sizeOf,typeInfo,hi,Builtin.lenOf,hroom,hf,Addr.add_none,hst]
theorem app_same {t t' ty e e2:TypeId} {i:TypeInfo} (ht:P.underlying t=some (.slice e)) (ht':P.underlying t'=some (.slice e2)) (hi:P.info? e=some i) {n cap c:Nat} {ad ad':Option Addr} (hn:n≤cap):
 (Builtin.append_ #[t,t'] ty #[.slice ad n cap,.slice ad' 0 c]).run P w= .ok (.slice ad n cap) w:=by
 have hf:=(fc_zero (P:=P) (w:=w) i.size ad' 0 c).2 w rfl
 cases ad<;>simp [Builtin.append_,run_underlying ht,run_underlying ht',sizeOf,typeInfo,hi,Builtin.lenOf,hn,hf,storeCells]
theorem rd_oneCells {sh:Sh} {ys:List AV} {l:List Value} (hl:l.length=ys.length*sh.sz) (hf:∀i (hi:i<ys.length),fits sh ys[i])
 (h:∀i (hi:i<ys.length),Rd w (fun _=>False) ys[i] (elemV l (i*sh.sz) sh)) (hsz:0<sh.sz):∀u,u∈l→u.oneCell'=true:=by
 intro u hu
 obtain ⟨k,hk,rfl⟩:=List.getElem_of_mem hu
 have hk':k / sh.sz<ys.length:=by rw [Nat.div_lt_iff_lt_mul hsz];omega
 have hr:=h (k / sh.sz) hk'
 have hft:=hf (k / sh.sz) hk'
 have hdm:=Nat.div_add_mod k sh.sz
 have hmod:=Nat.mod_lt k hsz
 have hle:=mul_le_of_lt (s:=sh.sz) hk'
 generalize ys[k / sh.sz]=x at hr hft
 cases sh with
 |mk sz ag=>
 simp only at*
 have one:leaf x→ag=false∧sz=1→l[k].oneCell'=true:=by
  rintro hlf ⟨rfl,rfl⟩
  have:=hr.leaf_oneCell hlf
  rw [elemV_cell,q4,q5 (by omega)] at this
  simpa using this
 cases x with
 |agg zs=>
  obtain ⟨rfl,hzl⟩:=hft
  obtain ⟨cs,hcs,h1,h2,h3⟩:=rd_agg hr
  rw [elemV_agg] at hcs
  cases hcs
  have h4:=h3 (k%sz) (by rw [hzl];exact hmod)
  have h5:=h4.leaf_oneCell (h2 _ (by rw [hzl];exact hmod))
  rw [show (((l.drop (k / sz*sz)).take sz).toArray.toList)=(l.drop (k / sz*sz)).take sz from rfl,getD_drop_take _ _ _ _ hmod] at h5
  rw [show k / sz*sz+k%sz=k by rw [Nat.mul_comm];omega,q4,q5 hk] at h5
  simpa using h5
 |undef=>exact hft.elim
 |tup xs=>exact hft.elim
 |_=>exact one trivial hft
theorem zeroCells_length (z:Array Value) (n:Nat):(Builtin.zeroCells z n).toList.length=n*z.size:=by simp [Builtin.zeroCells]
theorem fcs (xs ys:List AV) (fss:List (List Nat)) (n:Nat) (hn:n≤xs.length) (hfl:fss.length=xs.length):
 ((fss.take n++List.replicate ys.length ([]:List Nat)).length=(xs.take n++ys).length)∧(fss.take n++List.replicate ys.length ([]:List Nat)).flatten=(fss.take n).flatten∧
 (∀i,i<n→(fss.take n++List.replicate ys.length ([]:List Nat)).getD i []=fss.getD i [])∧(∀i,n≤i→(fss.take n++List.replicate ys.length ([]:List Nat)).getD i []=[]):=by
 refine ⟨by simp;omega,?_,fun i hi=> ?_,fun i hi=> ?_⟩
 · rw [q2,(q3 (L:=List.replicate ys.length [])).2 fun l hl=>(List.mem_replicate.1 hl).2,List.append_nil]
 · simp only [q4]
   rw [List.getElem?_append_left (by simp;omega),List.getElem?_take,if_pos hi]
 · simp only [q4]
   rw [List.getElem?_append_right (by simp;omega),List.getElem?_replicate]
   split<;>rfl
theorem app_own {S:Nat→Prop} {sh:Sh} {xs ys:List AV} {b cap n:Nat} {w':World} {cs':Array Value} {e':El} {fss:List (List Nat)} {lo ln lr:List Value} (hb:w'.heap[b]? =some (celO cs' e')) (hcs:cs'.size=cap*sh.sz)
 (hn:n≤xs.length) (hcap:n+ys.length≤cap) (hmx:cap≤maxLen) (hfl:fss.length=xs.length) (hff:∀i (h:i<xs.length),fits sh xs[i]) (hfy:∀i (h:i<ys.length),fits sh ys[i])
 (hl:cs'.toList=lo++ln++lr) (hlo:lo.length=n*sh.sz) (hln:ln.length=ys.length*sh.sz)
 (hx:∀i (h:i<xs.length),i<n→Own w' S xs[i] (elemV lo (i*sh.sz) sh) (fss.getD i []))
 (hy:∀i (h:i<ys.length),Rd w' S ys[i] (elemV ln (i*sh.sz) sh)):
 Own w' S (.arr sh (xs.take n++ys)) (.slice (some ⟨b,0,none⟩) (n+ys.length) cap) (b::(fss.take n).flatten):=by
 obtain ⟨f1,f2,f3,f4⟩:=fcs xs ys fss n hn hfl
 have hlen:(xs.take n++ys).length=n+ys.length:=by simp;omega
 rw [←f2,←hlen]
 refine .arr sh _ b cap cs' e' _ hb hcs (by omega) hmx ?_ f1 ?_
 · intro i hi
   rw [List.getElem_append]
   split
   · simp only [q9];exact hff _ _
   · exact hfy _ _
 · intro i hi
   rw [hlen] at hi
   rw [List.getElem_append,hl]
   by_cases hin:i<n
   · have h1:=mul_le_of_lt (s:=sh.sz) hin
     have hg:i<(xs.take n).length:=by simp;omega
     rw [dif_pos hg,f3 i hin,List.append_assoc,elemV_left (by omega) (fits_sz (hff i (by omega)))]
     simp only [q9]
     exact hx i (by omega) hin
   · have hg:¬i<(xs.take n).length:=by simp;omega
     have hq:i-n<ys.length:=by omega
     have h1:=mul_le_of_lt (s:=sh.sz) hq
     have e1:i*sh.sz=lo.length+(i-n)*sh.sz:=by rw [hlo,←q21];congr 1;omega
     rw [dif_neg hg,f4 i (by omega),elemV_left (by rw [q10];omega) (fits_sz (hfy (i-n) hq)),e1,elemV_right (by omega) (fits_sz (hfy (i-n) hq))]
     have e2:(xs.take n).length=n:=by simp;omega
     have hq':i-(xs.take n).length<ys.length:=by omega
     have e3:ys[i-(xs.take n).length]=ys[i-n]:=by congr 1;omega
     rw [e3]
     exact .rd _ _ (hy (i-n) hq)
theorem RS.rowNext (h:RS B N φ fp S ts m a w) {w':World} {l0 nv b cap n:Nat} {sh:Sh} {deep:Bool} {xs:List AV} {fs:List Nat} {v:Value} {k:AV→Env→Mem→Prop}
 (hsize:w.heap.size≤w'.heap.size) (hout:SameOut w w') (hszs:Szs w w') (hold:∀c,c≠b→c<w.heap.size→w'.heap[c]? =w.heap[c]?) (hz:Sized φ w w') (hb:b∈fp l0∨b=w.heap.size∧b<w'.heap.size)
 (hver:∀ver,known m l0 ver→ver<nv) (hin:∀c,c∈fs→c=b∨c∈fp l0) (hbm:b∈fs) (hdp:deep=false→fs=[b]) (hnd:fs.Nodup)
 (hown:Own w' (if deep then fun _=>False else S) (.arr sh xs) (.slice (some ⟨b,0,none⟩) xs.length cap) fs)
 (hv:∃ad c,v= .slice ad n c∧n≤c∧(c=0∨(ad=some ⟨b,0,none⟩∧∃cs e,w'.heap[b]? =some (celO cs e)∧cs.size=c*sh.sz)))
 (hk:k (.ref l0 nv 0 n) ts ((l0,.row nv sh deep xs)::m)):Gives B N a k v w':=by
 have hbS:¬S b:=by
  rcases hb with hb|⟨hb,_⟩
  · exact h.notS l0 b hb
  · intro hs;have:=(h.sB b hs).1;omega
 have hbo:∀l',l'≠l0→b∉fp l':=by
  intro l' hl' hc
  rcases hb with hb|⟨hb,_⟩
  · exact hl' (h.dis l' l0 b hc hb)
  · have:=(h.fpB l' b hc).1;omega
 have hRS:=h.next l0 (.at b sh nv) fs S (.row nv sh deep xs) hsize hout hszs (fun c hc hio=>hold c (fun e=>by
  subst e
  rcases hb with hb|hb
  · rcases (h.fpB l0 c hb).2 with hh|hh
    · exact q23 _ (q24 hc hh)
    · exact hio _ hh.choose_spec.1
  · rw [hb.1] at hc;exact q23 _ (q24 hc h.size)) (q24 hc h.size)) (fun c hc=>⟨hc,hold c (fun e=>hbS (e▸hc)) (h.sB c hc).1⟩) (fun c h1 h2=>absurd h1 h2) hz
  (fun l' hl' c hc=>hold c (fun e=>hbo l' hl' (e▸hc)) (h.fpB l' c hc).1) (fun ver hk=>LS.le_newer _ _ _ _ _ (hver ver hk)) (fun ver hk=>Nat.le_of_lt (hver ver hk))
  (.inr ⟨b,cap,upd_same _ _ _,hbm,hdp,hown⟩) (fun _ _ hx=>by cases hx) hnd (by
    intro c hc
    rcases hin c hc with rfl|hc'
    · refine ⟨hbS,hbo,?_,?_⟩
      · rcases hb with hb|hb
        · exact q24 (h.fpB l0 c hb).1 hsize
        · exact hb.2
      · rcases hb with hb|hb
        · exact (h.fpB l0 c hb).2
        · left;rw [hb.1];exact h.size
    · have:=h.fpB l0 c hc'
      exact ⟨h.notS l0 c hc',fun l' hl' hc2=>hl' (h.dis l' l0 c hc2 hc'),q24 this.1 hsize,this.2⟩)
 refine hRS.gives (x:=.ref l0 nv 0 n) ?_ ?_ hk
 · obtain ⟨ad,c,rfl,hnc,hc⟩:=hv
   refine .ref _ _ _ _ _ (fun b' sh' hb'=> ?_) (fun hb'=> ?_) rfl
   · rw [upd_same] at hb';cases hb'
     refine ⟨ad,c,rfl,hnc,hc.imp id ?_⟩
     rintro ⟨rfl,cs,e,h1,h2⟩
     exact ⟨by rw [Nat.zero_mul],cs,e,h1,by rw [q28];exact h2⟩
   · rw [upd_same] at hb';cases hb'
 · intro l' ver hl
   simp only [labs,q16,Prod.mk.injEq] at hl
   obtain ⟨rfl,rfl⟩:=hl
   exact ⟨_,by simp [lookB_cons];rfl,q22 _⟩
theorem RS.nilNext (h:RS B N φ fp S ts m a w) {l0 nv:Nat} {sh:Sh} {deep:Bool} {ad:Option Addr} {k:AV→Env→Mem→Prop}
 (hver:∀ver,known m l0 ver→ver<nv) (hk:k (.ref l0 nv 0 0) ts ((l0,.row nv sh deep [])::m)):Gives B N a k (.slice ad 0 0) w:=by
 have hRS:=h.next l0 (.nil nv) [] S (.row nv sh deep []) (q22 _) (SameOut.refl _) (Szs.refl _) (fun _ _ _=>rfl) (fun c hc=>⟨hc,rfl⟩) (fun c h1 h2=>absurd h1 h2) (fun l b sh ver cs e _ hb=>⟨cs,e,hb,rfl⟩)
  (fun _ _ _ _=>rfl) (fun ver hk=>⟨fun _ _ h=>(by cases h),fun h=>(by cases h;exact absurd (hver _ hk) (q23 _))⟩) (fun ver hk=>Nat.le_of_lt (hver ver hk))
  (.inl ⟨upd_same _ _ _,rfl,rfl⟩) (fun _ _ hx=>by cases hx) (by simp) (by simp)
 refine hRS.gives (x:=.ref l0 nv 0 0) ?_ ?_ hk
 · refine .ref _ _ _ _ _ (fun b' sh' hb'=> ?_) (fun hb'=>⟨rfl,ad,rfl⟩) rfl
   rw [upd_same] at hb';cases hb'
 · intro l' ver hl
   simp only [labs,q16,Prod.mk.injEq] at hl
   obtain ⟨rfl,rfl⟩:=hl
   exact ⟨_,by simp [lookB_cons];rfl,q22 _⟩
theorem run_app {t t' ty:TypeId} {tt tt' ti:TI} (htt:tiOf P t=some tt) (hks:tt.kind= .slice) (htt':tiOf P t'=some tt') (hks':tt'.kind= .slice) (ht:tiOf P tt.elem=some ti) (h:RS B N φ fp S ts m a w) {x y:AV} {u v:Value}
 (hx:RV w S φ x u) (hy:RV w S φ y v) (hxl:∀l ver,(l,ver)∈labs x→known m l ver) (d:Nat) {k:AV→Mem→Prop} (hk:sApp ti d x y m k):
 Runs B N a (fun x ts' m'=>ts'=ts∧k x m') ((Builtin.append_ #[t,t'] ty #[u,v]).run P w):=by
 obtain ⟨hby,hsz0,hzf,hk⟩:=hk
 obtain ⟨ys,⟨hfl,hk⟩,ad',c',l,rfl,hfc,hfy,hry⟩:=sSrc_out (P:=P) h hy hk
 have hry:=hry hfl
 obtain ⟨inf,dd,z,hi,hd,hz,hag,hsz,hbb,hzz,_⟩:=kind_of ht
 obtain ⟨hzs,_,_⟩:=zero_cells hzz hzf
 have hsl:=kind_slice htt hks
 have hsl':=kind_slice htt' hks'
 have hfc':FC P w inf.size ys.length (.slice ad' ys.length c') l:=by rw [←hsz];exact hfc
 have hone:=rd_oneCells hfc.1 hfy hry hsz0
 have hb':inf.bytes≤65536:=by omega
 have grow:∀(l0 nv n cap:Nat) (ad:Option Addr) (olds:List Value) (xs:List AV) (fss:List (List Nat)) (deep:Bool),
  FC P w inf.size n (.slice ad n cap) olds→n≤xs.length→n+ys.length≤1073741824→cap<n+ys.length→fss.length=xs.length→(∀i (h:i<xs.length),fits ti.sh xs[i])→
  (∀i (h:i<xs.length),i<n→Own w (if deep then fun _=>False else S) xs[i] (elemV olds (i*ti.sh.sz) ti.sh) (fss.getD i []))→
  (∀ver,known m l0 ver→ver<nv)→(∀b,b∈fss.flatten→b∈fp l0)→(deep=false→fss.flatten=[])→(fss.flatten).Nodup→
  k (.ref l0 nv 0 (n+ys.length)) ((l0,.row nv ti.sh deep (xs.take n++ys))::m)→
  Runs B N a (fun x ts' m'=>ts'=ts∧k x m') ((Builtin.append_ #[t,t'] ty #[.slice ad n cap,.slice ad' ys.length c']).run P w):=by
  intro l0 nv n cap ad olds xs fss deep hfo hn hlim hcap hfsl hff hown hver hfin hdp hnd hk
  refine ⟨_,_,app_grow hsl hsl' hi hz hfo hfc' hcap hlim hb',?_⟩
  have hge:=grownCap_ge w (n+ys.length) cap tt.elem
  have hle:grownCap w (n+ys.length) cap tt.elem≤maxLen:=grownCap_le_maxLen w _ _ _ (by unfold maxLen;omega)
  generalize hgc:grownCap w (n+ys.length) cap tt.elem=gc at hge hle ⊢
  have hszc:(olds++l++(Builtin.zeroCells z.cells (gc-(n+ys.length))).toList).toArray.size=gc*ti.sh.sz:=by
   rw [List.size_toArray,q10,q10,zeroCells_length,hfo.1,hfc'.1,hzs,←hsz]
   show n*ti.size+ys.length*ti.size+(gc-(n+ys.length))*ti.size=gc*ti.size
   rw [←q21,←q21];congr 1;omega
  have hnew:=new_cel w.drew (olds++l++(Builtin.zeroCells z.cells (gc-(n+ys.length))).toList).toArray tt.elem
  rw [World.size_drew] at hnew
  have hold:∀b,b<w.heap.size→(w.drew.alloc (.cells (olds++l++(Builtin.zeroCells z.cells (gc-(n+ys.length))).toList).toArray tt.elem)).heap[b]? =w.heap[b]? :=fun b hb=>old w.drew _ b hb
  have hws:(w.drew.alloc (.cells (olds++l++(Builtin.zeroCells z.cells (gc-(n+ys.length))).toList).toArray tt.elem)).heap.size=w.heap.size+1:=by simp
  have hso:SameOut w (w.drew.alloc (.cells (olds++l++(Builtin.zeroCells z.cells (gc-(n+ys.length))).toList).toArray tt.elem)):=⟨rfl,rfl,rfl⟩
  generalize w.drew.alloc (.cells (olds++l++(Builtin.zeroCells z.cells (gc-(n+ys.length))).toList).toArray tt.elem)=w' at hnew hold hws hso ⊢
  have hpre:((fss.take n).flatten).Sublist fss.flatten:=by
   have:fss.flatten=(fss.take n).flatten++(fss.drop n).flatten:=by rw [←q2,q19]
   rw [this];exact q18 ..
  have hlen:(xs.take n++ys).length=n+ys.length:=by simp;omega
  have hown':=app_own (S:=if deep=true then fun _=>False else S) (fss:=fss) (xs:=xs) (ys:=ys) (n:=n) (cap:=gc) hnew hszc hn hge hle hfsl hff hfy rfl (by rw [hfo.1,←hsz];rfl) hfc.1
   (fun i hi hin=>by
     refine (hown i hi hin).mono (fun c hc=> ?_) (fun _ h=>h) (fun c hc=>hold c (h.fpB l0 c (hfin c (mem_flatten_getD (hfsl▸hi) hc))).1)
     cases deep with
     |true=>exact hc.elim
     |false=>exact hold c (h.sB c hc).1)
   (fun i hi=>(hry i hi).mono (fun _ h=>h.elim) (fun _ h=>h.elim))
  rw [←hlen] at hown'
  refine h.rowNext (b:=w.heap.size) (cap:=gc) (by omega) hso (Szs.of_same hold) (fun c _ hc=>hold c hc) (fun l b sh ver cs e hl hb=>⟨cs,e,by rw [hold b (h.fpB l b (h.at_mem hl)).1];exact hb,rfl⟩) (.inr ⟨rfl,by omega⟩) hver ?_ (q15 ..) ?_ ?_ hown' ?_ ⟨rfl,hk⟩
  · intro c hc
    rcases List.mem_cons.1 hc with rfl|hc
    · exact .inl rfl
    · exact .inr (hfin c (hpre.subset hc))
  · intro hd
    have:=hdp hd
    rw [this] at hpre
    rw [List.sublist_nil.1 hpre]
  · refine q17.2 ⟨fun hc=> ?_,hnd.sublist hpre⟩
    have:=(h.fpB l0 _ (hfin _ (hpre.subset hc))).1
    omega
  · exact ⟨_,gc,rfl,hge,.inr ⟨rfl,_,_,hnew,hszc⟩⟩
 have nilCase:∀ad,(u= .slice ad 0 0)→ys.length≤1073741824∧k (.ref d (newVer m d) 0 ys.length) ((d,.row (newVer m d) ti.sh true ys)::m)→
  Runs B N a (fun x ts' m'=>ts'=ts∧k x m') ((Builtin.append_ #[t,t'] ty #[u,.slice ad' ys.length c']).run P w):=by
  rintro ad rfl ⟨hlim,hk⟩
  cases ys with
  |nil=>exact ⟨_,_,app_same hsl hsl' hi (q22 _),h.nilNext (fun ver hv=>known_lt hv) ⟨rfl,hk⟩⟩
  |cons y0 yr=>
   have:=grow d (newVer m d) 0 0 ad [] [] [] true (fc_zero _ _ _ _) (q22 _) (by omega) (by simp) rfl (fun i hi=>absurd hi (q27 _)) (fun i hi=>absurd hi (q27 _))
    (fun ver hv=>known_lt hv) (by simp) (by simp) (by simp) (by simpa using hk)
   exact this
 cases x with
 |ref l0 ver i n=>
  simp only [sApp1] at hk
  unfold sAppB at hk
  split at hk
  · rename_i v' sh' deep xs hlk
    obtain ⟨rfl,rfl,rfl,hn,hlim,hk⟩:=hk
    have hr:=rv_ref hx
    have hver:∀ver,known m l0 ver→ver<v'+1:=by
     rintro ver ⟨k',h1,h2⟩
     rw [hlk] at h1;cases h1;exact Nat.lt_succ_of_le h2
    rcases h.mSome l0 _ hlk with ⟨h1,h2,h3⟩|⟨b,cap0,hφ,hbm,hdp,hown⟩
    ·
     subst h2
     obtain ⟨hn0,ad,rfl⟩:=hr.2 h1
     subst hn0
     cases ys with
     |nil=>exact ⟨_,_,app_same hsl hsl' hi (q22 _),h.nilNext hver ⟨rfl,by simpa using hk⟩⟩
     |cons y0 yr=>
      exact grow l0 (v'+1) 0 0 ad [] [] [] deep (fc_zero _ _ _ _) (q22 _) (by omega) (by simp) rfl (fun i hi=>absurd hi (q27 _)) (fun i hi=>absurd hi (q27 _))
       hver (by simp) (by simp) (by simp) (by simpa using hk)
    · obtain ⟨ad,cap,rfl,hnc,hcp⟩:=hr.1 b ti.sh hφ
      obtain ⟨cs,e,fss,hgf,hheap,hcs,hcap,hmx,hff,hfsl,hvv⟩:=row_inv hown hbm
      have hnod:=h.nod l0
      rw [hgf] at hnod
      have hnod':=q17.1 hnod
      have hbin:b∈fp l0:=hbm
      have hfin:∀c,c∈fss.flatten→c∈fp l0:=fun c hc=>by rw [hgf];exact q14 _ hc
      have hdp':deep=false→fss.flatten=[]:=fun hd=>by have:=hdp hd;rw [hgf] at this;simpa using this
      have hpre:((fss.take n).flatten).Sublist fss.flatten:=by
       have:fss.flatten=(fss.take n).flatten++(fss.drop n).flatten:=by rw [←q2,q19]
       rw [this];exact q18 ..
      have hszr:n*ti.sh.sz≤cs.size:=by rw [hcs];exact q25 _ (by omega)
      have seg:∀i,i<n→∀(hi:i<xs.length),elemV (cs.toList.take (n*ti.sh.sz)) (i*ti.sh.sz) ti.sh=elemV cs.toList (i*ti.sh.sz) ti.sh:=by
       intro i hin hi
       have:=elemV_seg (l:=cs.toList) (off:=0) hin (by simpa using hszr) (fits_sz (hff i hi))
       simpa using this
      by_cases hroom:n+ys.length≤cap
      · by_cases hy0:ys.length=0
        ·
         have hys:ys=[]:=q1 hy0
         subst hys
         refine ⟨_,_,app_same hsl hsl' hi hnc,?_⟩
         have hown':=app_own (w':=w) (S:=if deep=true then fun _=>False else S) (fss:=fss) (xs:=xs) (ys:=[]) (n:=n) (cap:=cap0) (lo:=cs.toList.take (n*ti.sh.sz)) (ln:=[]) (lr:=cs.toList.drop (n*ti.sh.sz)) hheap hcs hn (by simpa using Nat.le_trans hn hcap) hmx hfsl hff (fun i hi=>absurd hi (q27 _))
          (by simp) (by simp;omega) (by simp) (fun i hi hin=>by rw [seg i hin hi];exact hvv i hi) (fun i hi=>absurd hi (q27 _))
         have hlen:(xs.take n++[]).length=n+([]:List AV).length:=by simp;omega
         rw [←hlen] at hown'
         refine h.rowNext (b:=b) (cap:=cap0) (q22 _) (SameOut.refl _) (Szs.refl _) (fun _ _ _=>rfl) (fun l b sh ver cs e _ hb=>⟨cs,e,hb,rfl⟩) (.inl hbin) hver ?_ (q15 ..) ?_ ?_ hown' ?_ ⟨rfl,hk⟩
         · intro c hc
           rcases List.mem_cons.1 hc with rfl|hc
           · exact .inl rfl
           · exact .inr (hfin c (hpre.subset hc))
         · intro hd
           rw [hdp' hd] at hpre
           rw [List.sublist_nil.1 hpre]
         · exact q17.2 ⟨fun hc=>hnod'.1 (hpre.subset hc),hnod'.2.sublist hpre⟩
         · refine ⟨ad,cap,rfl,hnc,hcp.imp id ?_⟩
           rintro ⟨rfl,cs',e',g1,g2⟩
           exact ⟨by rw [Nat.zero_mul],cs',e',g1,by rw [q28] at g2;exact g2⟩
        · obtain ⟨rfl,cs',e',g1,g2⟩:=hcp.resolve_left (by omega)
          obtain rfl:=celO_inj (hheap.symm.trans g1)
          rw [q28] at g2
          rw [Nat.zero_mul] at hx ⊢
          have hfit:n*inf.size+l.length≤cs.size:=by
           rw [hfc'.1,g2,←hsz,←q21];exact q25 _ hroom
          refine ⟨_,_,app_room hsl hsl' hi hheap hfc' hone hroom hfit,?_⟩
          have hin':n*inf.size=n*ti.sh.sz:=by rw [←hsz];rfl
          rw [hin'] at hfit ⊢
          have hsp:=size_splice (cs:=cs) (o:=n*ti.sh.sz) (vs:=l) hfit
          have hcapm:cap=cap0:=by
           have:cap*ti.sh.sz=cap0*ti.sh.sz:=by rw [←g2,hcs]
           exact Nat.eq_of_mul_eq_mul_right hsz0 this
          subst hcapm
          have hown':=app_own (w':=w.setRow b _) (S:=if deep=true then fun _=>False else S) (fss:=fss) (xs:=xs) (ys:=ys) (n:=n) (cap:=cap) (heap_setRow hheap hsp) (by rw [hsp];exact hcs) hn hroom hmx hfsl hff hfy
           rfl (by simp;omega) hfc.1 (fun i hi hin=>by
            rw [seg i hin hi]
            refine (hvv i hi).mono (fun c hc=> ?_) (fun _ h=>h) (fun c hc=>heap_setRow_other (b:=b) _ fun e=>hnod'.1 (by rw [←e];exact mem_flatten_getD (hfsl▸hi) hc))
            cases deep with
            |true=>exact hc.elim
            |false=>exact heap_setRow_other (b:=b) _ fun e=>h.notS l0 b hbin (by rw [←e];exact hc))
           (fun i hi=>(hry i hi).mono (fun _ h=>h.elim) (fun _ h=>h.elim))
          have hlen:(xs.take n++ys).length=n+ys.length:=by simp;omega
          rw [←hlen] at hown'
          refine h.rowNext (b:=b) (cap:=cap) (by simp) ⟨rfl,rfl,rfl⟩ (Szs.setRow hheap hsp) (fun c hc _=>heap_setRow_other _ hc) (Sized.setRow φ hheap hsp) (.inl hbin) hver ?_ (q15 ..) ?_ ?_ hown' ?_ ⟨rfl,hk⟩
          · intro c hc
            rcases List.mem_cons.1 hc with rfl|hc
            · exact .inl rfl
            · exact .inr (hfin c (hpre.subset hc))
          · intro hd
            rw [hdp' hd] at hpre
            rw [List.sublist_nil.1 hpre]
          · exact q17.2 ⟨fun hc=>hnod'.1 (hpre.subset hc),hnod'.2.sublist hpre⟩
          · exact ⟨_,cap,rfl,hroom,.inr ⟨rfl,_,_,heap_setRow hheap hsp,by rw [hsp];exact hcs⟩⟩
      ·
       have hfo:∃olds,FC P w inf.size n (.slice ad n cap) olds∧∀i (h:i<xs.length),i<n→Own w (if deep then fun _=>False else S) xs[i] (elemV olds (i*ti.sh.sz) ti.sh) (fss.getD i []):=by
        by_cases hn0:n=0
        · subst hn0
          exact ⟨[],fc_zero _ _ _ _,fun i _ hi=>absurd hi (q27 _)⟩
        · obtain ⟨rfl,cs',e',g1,g2⟩:=hcp.resolve_left (by omega)
          rw [Nat.zero_mul]
          refine ⟨_,fc_at hheap (by rw [q28,←hsz];exact hszr),fun i hi hin=> ?_⟩
          rw [List.drop_zero,←hsz]
          have:=seg i hin hi
          simp only [TI.sh] at this ⊢
          rw [this]
          exact hvv i hi
       obtain ⟨olds,hfo,hoo⟩:=hfo
       exact grow l0 (v'+1) n cap ad olds xs fss deep hfo hn hlim (by omega) hfsl hff hoo hver hfin hdp' hnod'.2 hk
  · exact hk.elim
 |e0=>obtain ⟨ad,rfl⟩:=rv_e0 hx;exact nilCase ad rfl hk.2
 |val u'=>
  obtain ⟨h1,hk2⟩:=hk
  obtain ⟨rfl,_⟩:=rv_val hx
  unfold isNil at h1
  split at h1
  · rename_i he;cases he
  · rename_i he;cases he;exact nilCase _ rfl hk2
  · cases h1
 |undef=>exact absurd hk.1 (by simp [isNil])
 |arr sh xs=>exact absurd hk.1 (by simp [isNil])
 |agg xs=>exact absurd hk.1 (by simp [isNil])
 |tup xs=>exact absurd hk.1 (by simp [isNil])
 |ptr l v i j=>exact absurd hk.1 (by simp [isNil])
 |eptr sh xs i j=>exact absurd hk.1 (by simp [isNil])
 |clo f xs=>exact absurd hk.1 (by simp [isNil])
end
end Go.Vc
namespace Go.Vc
def sAppSB (ti:TI) (l v i n:Nat) (b:Option Blk) (ys:List AV) (m:Mem) (k:AV→Mem→Prop):Prop:=match b with
 |some (.row v' sh' deep xs)=>v'=v∧i=0∧sh'=ti.sh∧n≤xs.length∧n+ys.length≤1073741824∧(deep=false∨n=0)∧k (.ref l (v+1) 0 (n+ys.length)) ((l,.row (v+1) ti.sh false (xs.take n++ys))::m)
 |_=>False
@[congr] theorem sAppSB_congr {ti:TI} {l v i n:Nat} {b b':Option Blk} {ys:List AV} {m:Mem} {k:AV→Mem→Prop} (h:b=b'):sAppSB ti l v i n b ys m k=sAppSB ti l v i n b' ys m k:=by rw [h]
theorem sAppSB_row (ag:Bool) (sz by':Nat) (z:AV) (f:List (Nat × Nat × Bool)) (e:Nat) (kd:TK) (l v n:Nat) (deep:Bool) (xs ys:List AV) (m:Mem) (k:AV→Mem→Prop):
 sAppSB ⟨ag,sz,by',z,f,e,kd⟩ l v 0 n (some (.row v ⟨sz,ag⟩ deep xs)) ys m k=
  (n≤xs.length∧n+ys.length≤1073741824∧(deep=false∨n=0)∧k (.ref l (v+1) 0 (n+ys.length)) ((l,.row (v+1) ⟨sz,ag⟩ false (xs.take n++ys))::m)):=by simp [sAppSB,TI.sh]
def sAppS (ti:TI) (d:Nat) (x:AV) (ys:List AV) (m:Mem) (k:AV→Mem→Prop):Prop:=match x with
 | .ref l v i n=>sAppSB ti l v i n (lookB m l) ys m k
 |x=>isNil x=true∧ys.length≤1073741824∧k (.ref d (newVer m d) 0 ys.length) ((d,.row (newVer m d) ti.sh false ys)::m)
@[congr] theorem sAppS_congr {ti:TI} {d:Nat} {x x':AV} {ys:List AV} {m:Mem} {k:AV→Mem→Prop} (h:x=x'):sAppS ti d x ys m k=sAppS ti d x' ys m k:=by rw [h]
theorem sAppS_ref (ti:TI) (d l v i n:Nat) (ys:List AV) (m:Mem) (k:AV→Mem→Prop):sAppS ti d (.ref l v i n) ys m k=sAppSB ti l v i n (lookB m l) ys m k:=rfl
theorem sAppS_nil (ti:TI) (d:Nat) (ys:List AV) (m:Mem) (k:AV→Mem→Prop):sAppS ti d (.val (.slice none 0 0)) ys m k=(ys.length≤1073741824∧k (.ref d (newVer m d) 0 ys.length) ((d,.row (newVer m d) ti.sh false ys)::m)):=by simp [sAppS,isNil]
def sAppXB (ti:TI) (d:Nat) (x:AV) (l v i n:Nat) (b:Option Blk) (m:Mem) (k:AV→Mem→Prop):Prop:=match b with
 |some (.row v' sh' false zs)=>sApp ti d x (.ref l v i n) m k∨(v'=v∧sh'=ti.sh∧i+n≤zs.length∧(ti.bytes≤65536∧0<ti.size∧fits ti.sh ti.zero)∧sAppS ti d x ((zs.drop i).take n) m k)
 |_=>sApp ti d x (.ref l v i n) m k
@[congr] theorem sAppXB_congr {ti:TI} {d:Nat} {x:AV} {l v i n:Nat} {b b':Option Blk} {m:Mem} {k:AV→Mem→Prop} (h:b=b'):sAppXB ti d x l v i n b m k=sAppXB ti d x l v i n b' m k:=by rw [h]
theorem sAppXB_deep (ti:TI) (d:Nat) (x:AV) (l v i n v':Nat) (sh:Sh) (xs:List AV) (m:Mem) (k:AV→Mem→Prop):sAppXB ti d x l v i n (some (.row v' sh true xs)) m k=sApp ti d x (.ref l v i n) m k:=rfl
theorem sAppXB_flat (ag:Bool) (sz by':Nat) (z:AV) (f:List (Nat × Nat × Bool)) (e:Nat) (kd:TK) (d:Nat) (x:AV) (l v i n:Nat) (zs:List AV) (m:Mem) (k:AV→Mem→Prop):
 sAppXB ⟨ag,sz,by',z,f,e,kd⟩ d x l v i n (some (.row v ⟨sz,ag⟩ false zs)) m k=(sApp ⟨ag,sz,by',z,f,e,kd⟩ d x (.ref l v i n) m k∨(i+n≤zs.length∧(by'≤65536∧0<sz∧fits ⟨sz,ag⟩ z)∧sAppS ⟨ag,sz,by',z,f,e,kd⟩ d x ((zs.drop i).take n) m k)):=by
 simp [sAppXB,TI.sh]
def sAppZ (ti:TI) (d:Nat) (x:AV) (sh:Sh) (xs:List AV) (b:Bool) (m:Mem) (k:AV→Mem→Prop):Prop:=match b with
 |true=>sApp ti d x (.arr sh xs) m k
 |false=>sh=ti.sh∧(ti.bytes≤65536∧0<ti.size∧fits ti.sh ti.zero)∧sAppS ti d x xs m k
@[congr] theorem sAppZ_congr {ti:TI} {d:Nat} {x x':AV} {sh:Sh} {xs xs':List AV} {b b':Bool} {m:Mem} {k:AV→Mem→Prop} (h:x=x') (h2:xs=xs') (h3:b=b'):sAppZ ti d x sh xs b m k=sAppZ ti d x' sh xs' b' m k:=by rw [h,h2,h3]
theorem sAppZ_true (ti:TI) (d:Nat) (x:AV) (sh:Sh) (xs:List AV) (m:Mem) (k:AV→Mem→Prop):sAppZ ti d x sh xs true m k=sApp ti d x (.arr sh xs) m k:=rfl
theorem sAppZ_false (ag:Bool) (sz by':Nat) (z:AV) (f:List (Nat × Nat × Bool)) (e:Nat) (kd:TK) (d:Nat) (x:AV) (xs:List AV) (m:Mem) (k:AV→Mem→Prop):
 sAppZ ⟨ag,sz,by',z,f,e,kd⟩ d x ⟨sz,ag⟩ xs false m k=((by'≤65536∧0<sz∧fits ⟨sz,ag⟩ z)∧sAppS ⟨ag,sz,by',z,f,e,kd⟩ d x xs m k):=by
 simp [sAppZ,TI.sh]
def sAppX (ti:TI) (d:Nat) (x y:AV) (m:Mem) (k:AV→Mem→Prop):Prop:=match y with
 | .ref l v i n=>sAppXB ti d x l v i n (lookB m l) m k
 | .arr sh xs=>sAppZ ti d x sh xs (isFlatL xs) m k
 |y=>sApp ti d x y m k
@[congr] theorem sAppX_congr {ti:TI} {d:Nat} {x x' y y':AV} {m:Mem} {k:AV→Mem→Prop} (h:x=x') (h':y=y'):sAppX ti d x y m k=sAppX ti d x' y' m k:=by rw [h,h']
theorem sAppX_ref (ti:TI) (d:Nat) (x:AV) (l v i n:Nat) (m:Mem) (k:AV→Mem→Prop):sAppX ti d x (.ref l v i n) m k=sAppXB ti d x l v i n (lookB m l) m k:=rfl
theorem sAppX_arr (ti:TI) (d:Nat) (x:AV) (sh:Sh) (xs:List AV) (m:Mem) (k:AV→Mem→Prop):sAppX ti d x (.arr sh xs) m k=sAppZ ti d x sh xs (isFlatL xs) m k:=rfl
section
variable {P:Program} {B:Base} {N:Nat} {φ:Nat→LS} {fp:Nat→List Nat} {S:Nat→Prop} {ts:Env} {m:Mem} {a:Act} {w:World}
theorem rd_oneCellsS {sh:Sh} {ys:List AV} {l:List Value} {S:Nat→Prop} (hl:l.length=ys.length*sh.sz) (hf:∀i (hi:i<ys.length),fits sh ys[i])
 (h:∀i (hi:i<ys.length),Rd w S ys[i] (elemV l (i*sh.sz) sh)) (hsz:0<sh.sz):∀u,u∈l→u.oneCell'=true:=by
 intro u hu
 obtain ⟨k,hk,rfl⟩:=List.getElem_of_mem hu
 have hk':k / sh.sz<ys.length:=by rw [Nat.div_lt_iff_lt_mul hsz];omega
 have hr:=h (k / sh.sz) hk'
 have hft:=hf (k / sh.sz) hk'
 have hdm:=Nat.div_add_mod k sh.sz
 have hmod:=Nat.mod_lt k hsz
 have hle:=mul_le_of_lt (s:=sh.sz) hk'
 generalize ys[k / sh.sz]=x at hr hft
 cases sh with
 |mk sz ag=>
 simp only at*
 have one:leaf x→ag=false∧sz=1→l[k].oneCell'=true:=by
  rintro hlf ⟨rfl,rfl⟩
  have:=hr.leaf_oneCell hlf
  rw [elemV_cell,q4,q5 (by omega)] at this
  simpa using this
 cases x with
 |agg zs=>
  obtain ⟨rfl,hzl⟩:=hft
  obtain ⟨cs,hcs,h1,h2,h3⟩:=rd_agg hr
  rw [elemV_agg] at hcs
  cases hcs
  have h4:=h3 (k%sz) (by rw [hzl];exact hmod)
  have h5:=h4.leaf_oneCell (h2 _ (by rw [hzl];exact hmod))
  rw [show (((l.drop (k / sz*sz)).take sz).toArray.toList)=(l.drop (k / sz*sz)).take sz from rfl,getD_drop_take _ _ _ _ hmod] at h5
  rw [show k / sz*sz+k%sz=k by rw [Nat.mul_comm];omega,q4,q5 hk] at h5
  simpa using h5
 |undef=>exact hft.elim
 |tup xs=>exact hft.elim
 |_=>exact one trivial hft
theorem srcS_out (h:RS B N φ fp S ts m a w) {sh:Sh} {l v i n:Nat} {u:Value} {xs:List AV} (hy:RV w S φ (.ref l v i n) u) (hlk:lookB m l=some (.row v sh false xs)) (hin:i+n≤xs.length):
 ∃ad c cells,u= .slice ad ((xs.drop i).take n).length c∧FC P w sh.sz ((xs.drop i).take n).length u cells∧(∀q (hq:q<((xs.drop i).take n).length),fits sh ((xs.drop i).take n)[q])∧
  ∀q (hq:q<((xs.drop i).take n).length),Rd w S ((xs.drop i).take n)[q] (elemV cells (q*sh.sz) sh):=by
 have hr:=rv_ref hy
 have hlen:((xs.drop i).take n).length=n:=by simp;omega
 rcases h.mSome l _ hlk with ⟨h1,h2,h3⟩|⟨b,cap,hφ,hbm,hdp,hown⟩
 · obtain ⟨rfl,ad,rfl⟩:=hr.2 h1
   simp only [q20]
   exact ⟨ad,0,[],rfl,fc_zero _ _ _ _,fun q hq=>absurd hq (q27 _),fun q hq=>absurd hq (q27 _)⟩
 · obtain ⟨ad,cp,rfl,hnc,hcp⟩:=hr.1 b sh hφ
   by_cases hn0:n=0
   · subst hn0
     simp only [q20]
     exact ⟨ad,cp,[],rfl,fc_zero _ _ _ _,fun q hq=>absurd hq (q27 _),fun q hq=>absurd hq (q27 _)⟩
   · obtain ⟨rfl,_⟩:=hcp.resolve_left (by omega)
     obtain ⟨cs,e,fss,hgf,hheap,hcs,hcap,hmx,hff,hfl,hvv⟩:=row_inv hown hbm
     have hroom:i*sh.sz+n*sh.sz≤cs.size:=by
      rw [hcs,←q21];exact q25 _ (by omega)
     have hf0:fss.flatten=[]:=by
      have:=hdp rfl
      rw [hgf] at this
      simpa using this
     refine ⟨_,cp,_,by rw [hlen],by rw [hlen];exact fc_at hheap hroom,fun q hq=> ?_,fun q hq=> ?_⟩
     · rw [hlen] at hq
       simp only [q9,q7]
       exact hff _ (by omega)
     · rw [hlen] at hq
       simp only [q9,q7]
       have hq2:i+q<xs.length:=by omega
       rw [elemV_seg hq (by simpa using hroom) (fits_sz (hff (i+q) hq2)),←q21]
       exact (hvv (i+q) hq2).rd_of (fun c hc=>hc) fun c hc=>by
        have:=mem_flatten_getD (by omega) hc
        rw [hf0] at this;cases this
theorem arrS_out {sh:Sh} {u:Value} {ys:List AV} (hy:RV w S φ (.arr sh ys) u):
 ∃ad c cells,u= .slice ad ys.length c∧FC P w sh.sz ys.length u cells∧(∀q (hq:q<ys.length),fits sh ys[q])∧
  ∀q (hq:q<ys.length),Rd w S ys[q] (elemV cells (q*sh.sz) sh):=by
 cases rv_arr hy with
 |nil _ ad=>exact ⟨ad,0,[],rfl,fc_zero _ _ _ _,fun q hq=>absurd hq (q27 _),fun q hq=>absurd hq (q27 _)⟩
 |arr _ _ b off cap cs e fr hS hb hcap hl hf hv=>
  refine ⟨_,cap,_,rfl,fc_at hb hl,hf,fun q hq=> ?_⟩
  rw [elemV_seg hq (by simpa using hl) (fits_sz (hf q hq))]
  exact hv q hq
theorem run_appS {t t' ty:TypeId} {tt tt' ti:TI} (htt:tiOf P t=some tt) (hks:tt.kind= .slice) (htt':tiOf P t'=some tt') (hks':tt'.kind= .slice) (ht:tiOf P tt.elem=some ti) (h:RS B N φ fp S ts m a w) {x:AV} {u v:Value}
 (hx:RV w S φ x u) (hxl:∀l ver,(l,ver)∈labs x→known m l ver) (d:Nat) {k:AV→Mem→Prop} {ys:List AV}
 (hsrc:∃ad c cells,v= .slice ad ys.length c∧FC P w ti.sh.sz ys.length v cells∧(∀q (hq:q<ys.length),fits ti.sh ys[q])∧∀q (hq:q<ys.length),Rd w S ys[q] (elemV cells (q*ti.sh.sz) ti.sh))
 (hbase:ti.bytes≤65536∧0<ti.size∧fits ti.sh ti.zero) (hk:sAppS ti d x ys m k):
 Runs B N a (fun x ts' m'=>ts'=ts∧k x m') ((Builtin.append_ #[t,t'] ty #[u,v]).run P w):=by
 obtain ⟨hby,hsz0,hzf⟩:=hbase
 obtain ⟨ad',c',l,rfl,hfc,hfy,hry⟩:=hsrc
 obtain ⟨inf,dd,z,hi,hd,hz,hag,hsz,hbb,hzz,_⟩:=kind_of ht
 obtain ⟨hzs,_,_⟩:=zero_cells hzz hzf
 have hsl:=kind_slice htt hks
 have hsl':=kind_slice htt' hks'
 have hfc':FC P w inf.size ys.length (.slice ad' ys.length c') l:=by rw [←hsz];exact hfc
 have hone:=rd_oneCellsS hfc.1 hfy hry hsz0
 have hb':inf.bytes≤65536:=by omega
 have grow:∀(l0 nv n cap:Nat) (ad:Option Addr) (olds:List Value) (xs:List AV) (fss:List (List Nat)),
  FC P w inf.size n (.slice ad n cap) olds→n≤xs.length→n+ys.length≤1073741824→cap<n+ys.length→fss.length=xs.length→(∀i (h:i<xs.length),fits ti.sh xs[i])→
  (∀i (h:i<xs.length),i<n→Own w S xs[i] (elemV olds (i*ti.sh.sz) ti.sh) (fss.getD i []))→
  (∀ver,known m l0 ver→ver<nv)→(∀b,b∈fss.flatten→b∈fp l0)→(fss.take n).flatten=[]→(fss.flatten).Nodup→
  k (.ref l0 nv 0 (n+ys.length)) ((l0,.row nv ti.sh false (xs.take n++ys))::m)→
  Runs B N a (fun x ts' m'=>ts'=ts∧k x m') ((Builtin.append_ #[t,t'] ty #[.slice ad n cap,.slice ad' ys.length c']).run P w):=by
  intro l0 nv n cap ad olds xs fss hfo hn hlim hcap hfsl hff hown hver hfin hdp hnd hk
  refine ⟨_,_,app_grow hsl hsl' hi hz hfo hfc' hcap hlim hb',?_⟩
  have hge:=grownCap_ge w (n+ys.length) cap tt.elem
  have hle:grownCap w (n+ys.length) cap tt.elem≤maxLen:=grownCap_le_maxLen w _ _ _ (by unfold maxLen;omega)
  generalize hgc:grownCap w (n+ys.length) cap tt.elem=gc at hge hle ⊢
  have hszc:(olds++l++(Builtin.zeroCells z.cells (gc-(n+ys.length))).toList).toArray.size=gc*ti.sh.sz:=by
   rw [List.size_toArray,q10,q10,zeroCells_length,hfo.1,hfc'.1,hzs,←hsz]
   show n*ti.size+ys.length*ti.size+(gc-(n+ys.length))*ti.size=gc*ti.size
   rw [←q21,←q21];congr 1;omega
  have hnew:=new_cel w.drew (olds++l++(Builtin.zeroCells z.cells (gc-(n+ys.length))).toList).toArray tt.elem
  rw [World.size_drew] at hnew
  have hold:∀b,b<w.heap.size→(w.drew.alloc (.cells (olds++l++(Builtin.zeroCells z.cells (gc-(n+ys.length))).toList).toArray tt.elem)).heap[b]? =w.heap[b]? :=fun b hb=>old w.drew _ b hb
  have hws:(w.drew.alloc (.cells (olds++l++(Builtin.zeroCells z.cells (gc-(n+ys.length))).toList).toArray tt.elem)).heap.size=w.heap.size+1:=by simp
  have hso:SameOut w (w.drew.alloc (.cells (olds++l++(Builtin.zeroCells z.cells (gc-(n+ys.length))).toList).toArray tt.elem)):=⟨rfl,rfl,rfl⟩
  generalize w.drew.alloc (.cells (olds++l++(Builtin.zeroCells z.cells (gc-(n+ys.length))).toList).toArray tt.elem)=w' at hnew hold hws hso ⊢
  have hpre:((fss.take n).flatten).Sublist fss.flatten:=by
   have:fss.flatten=(fss.take n).flatten++(fss.drop n).flatten:=by rw [←q2,q19]
   rw [this];exact q18 ..
  have hlen:(xs.take n++ys).length=n+ys.length:=by simp;omega
  have hown':=app_own (S:=S) (fss:=fss) (xs:=xs) (ys:=ys) (n:=n) (cap:=gc) hnew hszc hn hge hle hfsl hff hfy rfl (by rw [hfo.1,←hsz];rfl) hfc.1
   (fun i hi hin=>by
     refine (hown i hi hin).mono (fun c hc=> ?_) (fun _ h=>h) (fun c hc=>hold c (h.fpB l0 c (hfin c (mem_flatten_getD (hfsl▸hi) hc))).1)
     exact hold c (h.sB c hc).1)
   (fun i hi=>(hry i hi).mono (fun c hc=>hold c (h.sB c hc).1) (fun _ h=>h))
  rw [←hlen] at hown'
  refine h.rowNext (deep:=false) (b:=w.heap.size) (cap:=gc) (by omega) hso (Szs.of_same hold) (fun c _ hc=>hold c hc) (fun l b sh ver cs e hl hb=>⟨cs,e,by rw [hold b (h.fpB l b (h.at_mem hl)).1];exact hb,rfl⟩) (.inr ⟨rfl,by omega⟩) hver ?_ (q15 ..) ?_ ?_ hown' ?_ ⟨rfl,hk⟩
  · intro c hc
    rcases List.mem_cons.1 hc with rfl|hc
    · exact .inl rfl
    · exact .inr (hfin c (hpre.subset hc))
  · intro _
    rw [hdp]
  · refine q17.2 ⟨fun hc=> ?_,hnd.sublist hpre⟩
    have:=(h.fpB l0 _ (hfin _ (hpre.subset hc))).1
    omega
  · exact ⟨_,gc,rfl,hge,.inr ⟨rfl,_,_,hnew,hszc⟩⟩
 have nilCase:∀ad,(u= .slice ad 0 0)→ys.length≤1073741824∧k (.ref d (newVer m d) 0 ys.length) ((d,.row (newVer m d) ti.sh false ys)::m)→
  Runs B N a (fun x ts' m'=>ts'=ts∧k x m') ((Builtin.append_ #[t,t'] ty #[u,.slice ad' ys.length c']).run P w):=by
  rintro ad rfl ⟨hlim,hk⟩
  cases ys with
  |nil=>exact ⟨_,_,app_same hsl hsl' hi (q22 _),h.nilNext (fun ver hv=>known_lt hv) ⟨rfl,hk⟩⟩
  |cons y0 yr=>
   have:=grow d (newVer m d) 0 0 ad [] [] [] (fc_zero _ _ _ _) (q22 _) (by omega) (by simp) rfl (fun i hi=>absurd hi (q27 _)) (fun i hi=>absurd hi (q27 _))
    (fun ver hv=>known_lt hv) (by simp) (by simp) (by simp) (by simpa using hk)
   exact this
 cases x with
 |ref l0 ver i n=>
  simp only [sAppS] at hk
  unfold sAppSB at hk
  split at hk
  · rename_i v' sh' deep xs hlk
    obtain ⟨rfl,rfl,rfl,hn,hlim,hdn,hk⟩:=hk
    have hr:=rv_ref hx
    have hver:∀ver,known m l0 ver→ver<v'+1:=by
     rintro ver ⟨k',h1,h2⟩
     rw [hlk] at h1;cases h1;exact Nat.lt_succ_of_le h2
    rcases h.mSome l0 _ hlk with ⟨h1,h2,h3⟩|⟨b,cap0,hφ,hbm,hdp,hown⟩
    ·
     subst h2
     obtain ⟨hn0,ad,rfl⟩:=hr.2 h1
     subst hn0
     cases ys with
     |nil=>exact ⟨_,_,app_same hsl hsl' hi (q22 _),h.nilNext hver ⟨rfl,by simpa using hk⟩⟩
     |cons y0 yr=>
      exact grow l0 (v'+1) 0 0 ad [] [] [] (fc_zero _ _ _ _) (q22 _) (by omega) (by simp) rfl (fun i hi=>absurd hi (q27 _)) (fun i hi=>absurd hi (q27 _))
       hver (by simp) (by simp) (by simp) (by simpa using hk)
    · obtain ⟨ad,cap,rfl,hnc,hcp⟩:=hr.1 b ti.sh hφ
      obtain ⟨cs,e,fss,hgf,hheap,hcs,hcap,hmx,hff,hfsl,hvv⟩:=row_inv hown hbm
      have hnod:=h.nod l0
      rw [hgf] at hnod
      have hnod':=q17.1 hnod
      have hbin:b∈fp l0:=hbm
      have hfin:∀c,c∈fss.flatten→c∈fp l0:=fun c hc=>by rw [hgf];exact q14 _ hc
      have hdp':(fss.take n).flatten=[]:=by
       rcases hdn with hd|hd
       · have:=hdp hd
         rw [hgf] at this
         have hf0:fss.flatten=[]:=by simpa using this
         have hsub:((fss.take n).flatten).Sublist fss.flatten:=by
          have:fss.flatten=(fss.take n).flatten++(fss.drop n).flatten:=by rw [←q2,q19]
          rw [this];exact q18 ..
         rw [hf0] at hsub
         exact List.sublist_nil.1 hsub
       · rw [hd];rfl
      have hvvS:∀i (hi:i<xs.length),i<n→Own w S xs[i] (elemV cs.toList (i*ti.sh.sz) ti.sh) (fss.getD i []):=fun i hi hin=>by
       rcases hdn with hd|hd
       · have:=hvv i hi
         rw [hd] at this
         exact this
       · omega
      have hpre:((fss.take n).flatten).Sublist fss.flatten:=by
       have:fss.flatten=(fss.take n).flatten++(fss.drop n).flatten:=by rw [←q2,q19]
       rw [this];exact q18 ..
      have hszr:n*ti.sh.sz≤cs.size:=by rw [hcs];exact q25 _ (by omega)
      have seg:∀i,i<n→∀(hi:i<xs.length),elemV (cs.toList.take (n*ti.sh.sz)) (i*ti.sh.sz) ti.sh=elemV cs.toList (i*ti.sh.sz) ti.sh:=by
       intro i hin hi
       have:=elemV_seg (l:=cs.toList) (off:=0) hin (by simpa using hszr) (fits_sz (hff i hi))
       simpa using this
      by_cases hroom:n+ys.length≤cap
      · by_cases hy0:ys.length=0
        ·
         have hys:ys=[]:=q1 hy0
         subst hys
         refine ⟨_,_,app_same hsl hsl' hi hnc,?_⟩
         have hown':=app_own (w':=w) (S:=S) (fss:=fss) (xs:=xs) (ys:=[]) (n:=n) (cap:=cap0) (lo:=cs.toList.take (n*ti.sh.sz)) (ln:=[]) (lr:=cs.toList.drop (n*ti.sh.sz)) hheap hcs hn (by simpa using Nat.le_trans hn hcap) hmx hfsl hff (fun i hi=>absurd hi (q27 _))
          (by simp) (by simp;omega) (by simp) (fun i hi hin=>by rw [seg i hin hi];exact hvvS i hi hin) (fun i hi=>absurd hi (q27 _))
         have hlen:(xs.take n++[]).length=n+([]:List AV).length:=by simp;omega
         rw [←hlen] at hown'
         refine h.rowNext (deep:=false) (b:=b) (cap:=cap0) (q22 _) (SameOut.refl _) (Szs.refl _) (fun _ _ _=>rfl) (fun l b sh ver cs e _ hb=>⟨cs,e,hb,rfl⟩) (.inl hbin) hver ?_ (q15 ..) ?_ ?_ hown' ?_ ⟨rfl,hk⟩
         · intro c hc
           rcases List.mem_cons.1 hc with rfl|hc
           · exact .inl rfl
           · exact .inr (hfin c (hpre.subset hc))
         · intro _
           rw [hdp']
         · exact q17.2 ⟨fun hc=>hnod'.1 (hpre.subset hc),hnod'.2.sublist hpre⟩
         · refine ⟨ad,cap,rfl,hnc,hcp.imp id ?_⟩
           rintro ⟨rfl,cs',e',g1,g2⟩
           exact ⟨by rw [Nat.zero_mul],cs',e',g1,by rw [q28] at g2;exact g2⟩
        · obtain ⟨rfl,cs',e',g1,g2⟩:=hcp.resolve_left (by omega)
          obtain rfl:=celO_inj (hheap.symm.trans g1)
          rw [q28] at g2
          rw [Nat.zero_mul] at hx ⊢
          have hfit:n*inf.size+l.length≤cs.size:=by
           rw [hfc'.1,g2,←hsz,←q21];exact q25 _ hroom
          refine ⟨_,_,app_room hsl hsl' hi hheap hfc' hone hroom hfit,?_⟩
          have hin':n*inf.size=n*ti.sh.sz:=by rw [←hsz];rfl
          rw [hin'] at hfit ⊢
          have hsp:=size_splice (cs:=cs) (o:=n*ti.sh.sz) (vs:=l) hfit
          have hcapm:cap=cap0:=by
           have:cap*ti.sh.sz=cap0*ti.sh.sz:=by rw [←g2,hcs]
           exact Nat.eq_of_mul_eq_mul_right hsz0 this
          subst hcapm
          have hown':=app_own (w':=w.setRow b _) (S:=S) (fss:=fss) (xs:=xs) (ys:=ys) (n:=n) (cap:=cap) (heap_setRow hheap hsp) (by rw [hsp];exact hcs) hn hroom hmx hfsl hff hfy
           rfl (by simp;omega) hfc.1 (fun i hi hin=>by
            rw [seg i hin hi]
            refine (hvvS i hi hin).mono (fun c hc=> ?_) (fun _ h=>h) (fun c hc=>heap_setRow_other (b:=b) _ fun e=>hnod'.1 (by rw [←e];exact mem_flatten_getD (hfsl▸hi) hc))
            exact heap_setRow_other (b:=b) _ fun e=>h.notS l0 b hbin (by rw [←e];exact hc))
           (fun i hi=>(hry i hi).mono (fun c hc=>heap_setRow_other (b:=b) _ fun e=>h.notS l0 b hbin (by rw [←e];exact hc)) (fun _ h=>h))
          have hlen:(xs.take n++ys).length=n+ys.length:=by simp;omega
          rw [←hlen] at hown'
          refine h.rowNext (deep:=false) (b:=b) (cap:=cap) (by simp) ⟨rfl,rfl,rfl⟩ (Szs.setRow hheap hsp) (fun c hc _=>heap_setRow_other _ hc) (Sized.setRow φ hheap hsp) (.inl hbin) hver ?_ (q15 ..) ?_ ?_ hown' ?_ ⟨rfl,hk⟩
          · intro c hc
            rcases List.mem_cons.1 hc with rfl|hc
            · exact .inl rfl
            · exact .inr (hfin c (hpre.subset hc))
          · intro _
            rw [hdp']
          · exact q17.2 ⟨fun hc=>hnod'.1 (hpre.subset hc),hnod'.2.sublist hpre⟩
          · exact ⟨_,cap,rfl,hroom,.inr ⟨rfl,_,_,heap_setRow hheap hsp,by rw [hsp];exact hcs⟩⟩
      ·
       have hfo:∃olds,FC P w inf.size n (.slice ad n cap) olds∧∀i (h:i<xs.length),i<n→Own w S xs[i] (elemV olds (i*ti.sh.sz) ti.sh) (fss.getD i []):=by
        by_cases hn0:n=0
        · subst hn0
          exact ⟨[],fc_zero _ _ _ _,fun i _ hi=>absurd hi (q27 _)⟩
        · obtain ⟨rfl,cs',e',g1,g2⟩:=hcp.resolve_left (by omega)
          rw [Nat.zero_mul]
          refine ⟨_,fc_at hheap (by rw [q28,←hsz];exact hszr),fun i hi hin=> ?_⟩
          rw [List.drop_zero,←hsz]
          have:=seg i hin hi
          simp only [TI.sh] at this ⊢
          rw [this]
          exact hvvS i hi hin
       obtain ⟨olds,hfo,hoo⟩:=hfo
       exact grow l0 (v'+1) n cap ad olds xs fss hfo hn hlim (by omega) hfsl hff hoo hver hfin hdp' hnod'.2 hk
  · exact hk.elim
 |e0=>obtain ⟨ad,rfl⟩:=rv_e0 hx;exact nilCase ad rfl hk.2
 |val u'=>
  obtain ⟨h1,hk2⟩:=hk
  obtain ⟨rfl,_⟩:=rv_val hx
  unfold isNil at h1
  split at h1
  · rename_i he;cases he
  · rename_i he;cases he;exact nilCase _ rfl hk2
  · cases h1
 |undef=>exact absurd hk.1 (by simp [isNil])
 |arr sh xs=>exact absurd hk.1 (by simp [isNil])
 |agg xs=>exact absurd hk.1 (by simp [isNil])
 |tup xs=>exact absurd hk.1 (by simp [isNil])
 |ptr l v i j=>exact absurd hk.1 (by simp [isNil])
 |eptr sh xs i j=>exact absurd hk.1 (by simp [isNil])
 |clo f xs=>exact absurd hk.1 (by simp [isNil])
theorem run_appX {t t' ty:TypeId} {tt tt' ti:TI} (htt:tiOf P t=some tt) (hks:tt.kind= .slice) (htt':tiOf P t'=some tt') (hks':tt'.kind= .slice) (ht:tiOf P tt.elem=some ti) (h:RS B N φ fp S ts m a w) {x y:AV} {u v:Value}
 (hx:RV w S φ x u) (hy:RV w S φ y v) (hxl:∀l ver,(l,ver)∈labs x→known m l ver) (d:Nat) {k:AV→Mem→Prop} (hk:sAppX ti d x y m k):
 Runs B N a (fun x ts' m'=>ts'=ts∧k x m') ((Builtin.append_ #[t,t'] ty #[u,v]).run P w):=by
 unfold sAppX at hk
 split at hk
 · unfold sAppXB at hk
   split at hk
   · rename_i hlk
     rcases hk with hk|⟨rfl,rfl,hin,hbase,hk⟩
     · exact run_app htt hks htt' hks' ht h hx hy hxl d hk
     · exact run_appS htt hks htt' hks' ht h hx hxl d (srcS_out (P:=P) h hy hlk hin) hbase hk
   · exact run_app htt hks htt' hks' ht h hx hy hxl d hk
 · rename_i sh xs
   cases hb:isFlatL xs with
   |true=>
    rw [hb] at hk
    exact run_app htt hks htt' hks' ht h hx hy hxl d hk
   |false=>
    rw [hb] at hk
    obtain ⟨rfl,hbase,hk⟩:=hk
    exact run_appS htt hks htt' hks' ht h hx hxl d (arrS_out (P:=P) hy) hbase hk
 · exact run_app htt hks htt' hks' ht h hx hy hxl d hk
end
end Go.Vc
namespace Go.Vc
def sBnd (x:Option AV) (d:Int) (k:Int→Prop):Prop:=match x with
 |none=>k d
 |some (.val (.int _ i))=>k i
 |_=>False
@[congr] theorem sBnd_congr {x x':Option AV} {d:Int} {k:Int→Prop} (h:x=x'):sBnd x d k=sBnd x' d k:=by rw [h]
theorem sBnd_none (d:Int) (k:Int→Prop):sBnd none d k=k d:=rfl
theorem sBnd_some (j:IntKind) (i d:Int) (k:Int→Prop):sBnd (some (.val (.int j i))) d k=k i:=rfl
def sRSh (sh:Sh) (v:Nat) (b:Option Blk) (k:Prop):Prop:=match b with|some (.row v' sh' _ _)=>v'=v∧sh'=sh∧k|_=>False
@[congr] theorem sRSh_congr {sh:Sh} {v:Nat} {b b':Option Blk} {k:Prop} (h:b=b'):sRSh sh v b k=sRSh sh v b' k:=by rw [h]
def sSlice (sh:Sh) (x:AV) (lo hi:Option AV) (m:Mem) (k:AV→Prop):Prop:=match x with
 | .val (.string s)=>sBnd lo 0 fun l=>sBnd hi s.size fun h=>(0≤l∧l≤h∧h≤s.size)∧k (.val (.string (s.extract l.toNat h.toNat)))
 | .arr sh' xs=>sBnd lo 0 fun l=>sBnd hi xs.length fun h=>(0≤l∧l≤h∧h≤xs.length)∧sh'=sh∧k (.arr sh ((xs.drop l.toNat).take (h.toNat-l.toNat)))
 | .ref r v i n=>sRSh sh v (lookB m r) (sBnd lo 0 fun l=>sBnd hi n fun h=>(0≤l∧l≤h∧h≤n)∧k (.ref r v (i+l.toNat) (h.toNat-l.toNat)))
 |_=>False
@[congr] theorem sSlice_congr {sh:Sh} {x x':AV} {lo hi lo' hi':Option AV} {m:Mem} {k:AV→Prop} (h:x=x') (h1:lo=lo') (h2:hi=hi'):sSlice sh x lo hi m k=sSlice sh x' lo' hi' m k:=by rw [h,h1,h2]
theorem sSlice_arr (sh:Sh) (xs:List AV) (lo hi:Option AV) (m:Mem) (k:AV→Prop):
 sSlice sh (.arr sh xs) lo hi m k=sBnd lo 0 fun l=>sBnd hi xs.length fun h=>(0≤l∧l≤h∧h≤xs.length)∧k (.arr sh ((xs.drop l.toNat).take (h.toNat-l.toNat))):=by simp [sSlice]
def sSlice0 (m:Mem) (x:AV) (k:AV→Prop):Prop:=match x with
 | .arr _ _=>k .e0
 | .ref l v _ _=>sLive v (lookB m l) (k .e0)
 |x=>isNil x=true∧k .e0
@[congr] theorem sSlice0_congr {m:Mem} {x x':AV} {k:AV→Prop} (h:x=x'):sSlice0 m x k=sSlice0 m x' k:=by rw [h]
section
variable {P:Program} {B:Base} {N:Nat} {φ:Nat→LS} {fp:Nat→List Nat} {S:Nat→Prop} {ts:Env} {m:Mem} {a:Act} {w:World}
def BV (w:World) (S:Nat→Prop) (φ:Nat→LS) (x:Option AV) (v:Option Value):Prop:=match x,v with
 |none,none=>True
 |some x,some v=>RV w S φ x v
 |_,_=>False
theorem sBnd_out {x:Option AV} {v:Option Value} (hx:BV w S φ x v) {d:Int} {k:Int→Prop} (h:sBnd x d k):∃i,k i∧((v=none∧i=d)∨∃j,v=some (.int j i)):=by
 unfold sBnd at h
 split at h
 · cases v with
   |none=>exact ⟨d,h,.inl ⟨rfl,rfl⟩⟩
   |some v=>exact hx.elim
 · cases v with
   |none=>exact hx.elim
   |some v=>obtain ⟨rfl,_⟩:=rv_val hx;exact ⟨_,h,.inr ⟨_,rfl⟩⟩
 · exact h.elim
theorem run_slice_str {t:TypeId} (ht:P.underlying t=some .string) {s:ByteArray} {lo hi:Option Value} {l h:Int} (hl:(lo=none∧l=0)∨∃j,lo=some (.int j l)) (hh:(hi=none∧h=s.size)∨∃j,hi=some (.int j h))
 (h0:0≤l) (h1:l≤h) (h2:h≤s.size) (w:World):(Instr.slice t (.string s) lo hi none).run P w= .ok (.string (s.extract l.toNat h.toNat)) w:=by
 have eh:(h.toNat:Int)=h:=Int.toNat_of_nonneg (by omega)
 have hh0:0≤h:=by omega
 rcases hl with ⟨rfl,rfl⟩|⟨j,rfl⟩<;>rcases hh with ⟨rfl,rfl⟩|⟨j',rfl⟩<;>
  simp [Instr.slice,run_underlying ht,Instr.sliceBounds,run_sliceBound, *]
theorem run_slice_row {t e:TypeId} {ti:TI} (ht:P.underlying t=some (.slice e)) (he:tiOf P e=some ti) {ad:Option Addr} {len cap:Nat} {lo hi:Option Value} {l h:Int} (hl:(lo=none∧l=0)∨∃j,lo=some (.int j l))
 (hh:(hi=none∧h=len)∨∃j,hi=some (.int j h)) (h0:0≤l) (h1:l≤h) (h2:h≤cap) (w:World):
 (Instr.slice t (.slice ad len cap) lo hi none).run P w= .ok (.slice (if cap=l.toNat then ad else ad.map (·.add (l.toNat*ti.size))) (h.toNat-l.toNat) (cap-l.toNat)) w:=by
 have eh:(h.toNat:Int)=h:=Int.toNat_of_nonneg (by omega)
 have hh0:0≤h:=by omega
 have hs:=sizeOf_run he w
 rcases hl with ⟨rfl,rfl⟩|⟨j,rfl⟩<;>rcases hh with ⟨rfl,rfl⟩|⟨j',rfl⟩<;>
  simp [Instr.slice,run_underlying ht,Instr.sliceBounds,run_sliceBound, *]
theorem run_slice' {t:TypeId} {tt:TI} (htt:tiOf P t=some tt) (sh:Sh) (he:tt.kind= .slice→∃ti,tiOf P tt.elem=some ti∧ti.sh=sh) (hkd:tt.kind= .slice∨tt.kind= .string) (h:RS B N φ fp S ts m a w)
 {x:AV} {u:Value} {lo hi:Option AV} {vl vh:Option Value} (hx:RV w S φ x u) (hxl:∀l ver,(l,ver)∈labs x→known m l ver) (hlo:BV w S φ lo vl) (hhi:BV w S φ hi vh)
 (hm:tt.kind= .slice↔∀s,x≠ .val (.string s)) {k:AV→Prop} (hk:sSlice sh x lo hi m k):
 Runs B N a (fun x ts' m'=>ts'=ts∧m'=m∧k x) ((Instr.sliceAt t u vl vh none).run P w):=by
 have harr:∀n e,P.underlying t≠some (.array n e):=by
  intro n e hc
  rcases hkd with hk|hk
  · rw [kind_slice htt hk] at hc;cases hc
  · rw [kind_string htt hk] at hc;cases hc
 have hsa:(Instr.sliceAt t u vl vh none).run P w=(Instr.slice t u vl vh none).run P w:=by
  unfold Instr.sliceAt
  rcases hkd with hk|hk
  · simp [run_underlying (kind_slice htt hk)]
  · simp [run_underlying (kind_string htt hk)]
 rw [hsa]
 unfold sSlice at hk
 split at hk
 · rename_i s
   obtain ⟨l,hk,hvl⟩:=sBnd_out hlo hk
   obtain ⟨hh,⟨⟨h0,h1,h2⟩,hk⟩,hvh⟩:=sBnd_out hhi hk
   obtain ⟨rfl,_⟩:=rv_val hx
   have hks:tt.kind= .string:=hkd.resolve_left fun hc=>hm.1 hc s rfl
   exact ⟨_,w,run_slice_str (kind_string htt hks) hvl hvh h0 h1 h2 w,h.givesV rfl ⟨rfl,rfl,hk⟩⟩
 · rename_i sh' xs
   obtain ⟨l,hk,hvl⟩:=sBnd_out hlo hk
   obtain ⟨hh,⟨⟨h0,h1,h2⟩,rfl,hk⟩,hvh⟩:=sBnd_out hhi hk
   have hks:tt.kind= .slice:=hm.2 (fun s hc=>by cases hc)
   obtain ⟨ti,hti,hts⟩:=he hks
   subst hts
   cases rv_arr hx with
   |nil _ ad=>
    have e1:l=0:=by simp at h2;omega
    have e2:hh=0:=by simp at h2;omega
    subst e1;subst e2
    refine ⟨_,w,run_slice_row (kind_slice htt hks) hti hvl hvh (by omega) (by omega) (by simp) w,h.gives (x:=.arr ti.sh []) ?_ (fun _ _ hl=>by cases hl) ⟨rfl,rfl,by simpa using hk⟩⟩
    simp
    exact .rd _ _ (.nil _ _)
   |arr _ _ b off cap cs e fr hSb hb hcap hl hf hv=>
    refine ⟨_,w,run_slice_row (kind_slice htt hks) hti hvl hvh h0 h1 (by omega) w,h.gives ?_ (fun _ _ hl=>by cases hl) ⟨rfl,rfl,hk⟩⟩
    refine .rd _ _ ?_
    have hlen:((xs.drop l.toNat).take (hh.toNat-l.toNat)).length=hh.toNat-l.toNat:=by simp;omega
    by_cases hc:cap=l.toNat
    · rw [if_pos hc]
      have e0:hh.toNat-l.toNat=0:=by omega
      rw [e0,q20,hc,Nat.sub_self]
      exact .nil _ _
    · rw [if_neg hc]
      have hmul:l.toNat*ti.sh.sz+(hh.toNat-l.toNat)*ti.sh.sz≤xs.length*ti.sh.sz:=by
       rw [←q21];exact q25 _ (by omega)
      have:=Rd.arr (w:=w) (S:=S) ti.sh ((xs.drop l.toNat).take (hh.toNat-l.toNat)) b (off+l.toNat*ti.sh.sz) (cap-l.toNat) cs e fr hSb hb (by omega) (by rw [hlen];omega)
       (fun i hi=>by rw [hlen] at hi;simp only [q9,q7];exact hf _ (by omega))
       (fun i hi=>by
         rw [hlen] at hi
         simp only [q9,q7]
         have:=hv (l.toNat+i) (by omega)
         rwa [q21,←Nat.add_assoc] at this)
      rw [hlen] at this
      simpa [Addr.add_none,TI.sh] using this
 · rename_i r ver i n
   unfold sRSh at hk
   split at hk
   · rename_i v' sh' deep xs hlk
     obtain ⟨rfl,rfl,hk⟩:=hk
     obtain ⟨l,hk,hvl⟩:=sBnd_out hlo hk
     obtain ⟨hh,⟨⟨h0,h1,h2⟩,hk⟩,hvh⟩:=sBnd_out hhi hk
     have hks:tt.kind= .slice:=hm.2 (fun s hc=>by cases hc)
     obtain ⟨ti,hti,hts⟩:=he hks
     subst hts
     have hr:=rv_ref hx
     have hkn:=hxl r v' (by simp [labs])
     have hlab:∀l' ver,(l',ver)∈labs (.ref r v' (i+l.toNat) (hh.toNat-l.toNat))→known m l' ver:=by
      intro l' ver hl'
      simp only [labs,q16,Prod.mk.injEq] at hl'
      obtain ⟨rfl,rfl⟩:=hl'
      exact hkn
     rcases h.mSome r _ hlk with ⟨g1,g2,g3⟩|⟨b,cap0,hφ,hbm,hdp,hown⟩
     · obtain ⟨rfl,ad,rfl⟩:=hr.2 g1
       have e1:l=0:=by omega
       have e2:hh=0:=by omega
       subst e1;subst e2
       refine ⟨_,w,run_slice_row (kind_slice htt hks) hti hvl hvh (by omega) (by omega) (by simp) w,h.gives ?_ hlab ⟨rfl,rfl,hk⟩⟩
       refine .ref _ _ _ _ _ (fun b sh hb=>by rw [g1] at hb;cases hb) (fun _=>⟨by simp,ad,by simp⟩) rfl
     · obtain ⟨ad,cap,rfl,hnc,hcp⟩:=hr.1 b _ hφ
       refine ⟨_,w,run_slice_row (kind_slice htt hks) hti hvl hvh h0 h1 (by omega) w,h.gives ?_ hlab ⟨rfl,rfl,hk⟩⟩
       refine .ref _ _ _ _ _ (fun b' sh' hb'=> ?_) (fun hb'=>by rw [hφ] at hb';cases hb') rfl
       rw [hφ] at hb';cases hb'
       refine ⟨_,cap-l.toNat,rfl,by omega,?_⟩
       by_cases hc:cap=l.toNat
       · exact .inl (by omega)
       · right
         obtain ⟨rfl,cs,e,q1,q2⟩:=hcp.resolve_left (by omega)
         refine ⟨?_,cs,e,q1,by rw [q2];congr 1;omega⟩
         rw [if_neg hc]
         simp only [Option.map_some,Addr.add_none,q21]
         rfl
   · exact hk.elim
 · exact hk.elim
end
end Go.Vc
namespace Go.Vc
def setV (cs:List Value) (j:Nat):List Value→List Value
 | []=>cs
 |v::vs=>setV (cs.set j v) (j+1) vs
theorem setV_length (vs:List Value):∀(cs:List Value) (j:Nat),(setV cs j vs).length=cs.length:=by
 induction vs with
 |nil=>intro cs j;rfl
 |cons v r ih=>intro cs j;simp only [setV];rw [ih,q12]
theorem RL.set {R:AV→Value→Prop} {xs:List AV} {cs:List Value} (h:RL R xs cs) (j:Nat) {y:AV} {v:Value} (hy:leaf y) (hv:R y v):RL R (xs.set j y) (cs.set j v):=by
 refine ⟨by rw [q12,q12];exact h.1,fun i hi=> ?_,fun i hi=> ?_⟩
 · rw [q12] at hi
   rw [q8]
   split
   · exact hy
   · exact h.2.1 i hi
 · rw [q12] at hi
   have hi':i<cs.length:=by rw [h.1];exact hi
   rw [q8,q4,List.getElem?_set]
   split
   · rename_i e;subst e;simpa [hi'] using hv
   · simpa [q4] using h.2.2 i hi
theorem RL.setV {R:AV→Value→Prop}:∀(ys:List AV) (vs:List Value) (xs:List AV) (cs:List Value) (j:Nat),RL R xs cs→RL R ys vs→RL R (setL xs j ys) (Vc.setV cs j vs)
 | [],vs,xs,cs,j,h,h'=>by
   have:vs=[]:=q1 h'.1
   subst this;exact h
 |y::ys,vs,xs,cs,j,h,h'=>by
  cases vs with
  |nil=>have:=h'.1;simp at this
  |cons v vs=>
   refine RL.setV ys vs _ _ (j+1) (h.set j (h'.2.1 0 (by simp)) (by have:=h'.2.2 0 (by simp);exact this)) ⟨by simpa using h'.1,fun i hi=> ?_,fun i hi=> ?_⟩
   · have:=h'.2.1 (i+1) (by simpa using hi);exact this
   · have:=h'.2.2 (i+1) (by simpa using hi);exact this
theorem fold_set (l:List Value) (off:Nat):∀(k:Nat) (cs:Array Value),((l.zipIdx k).foldl (fun cs (c,j)=>cs.setIfInBounds (off+j) c) cs).toList=setV cs.toList (off+k) l:=by
 induction l with
 |nil=>intro k cs;rfl
 |cons v r ih=>
  intro k cs
  simp only [List.zipIdx_cons,List.foldl_cons,setV]
  rw [ih,Array.toList_setIfInBounds,Nat.add_assoc]
theorem fold_setA (vs cs:Array Value) (off:Nat):(vs.zipIdx.foldl (fun cs (c,j)=>cs.setIfInBounds (off+j) c) cs).toList=setV cs.toList off vs.toList:=by
 have:=fold_set vs.toList off 0 cs
 rw [←Array.foldl_toList,Array.toList_zipIdx]
 simpa using this
def sFill (fs:List (Nat × Nat × Bool)) (cells:List AV) (k:List AV→Prop):List (Nat × AV)→Prop
 | []=>k cells
 |(i,x)::r=>sFld fs[i]? fun fd=>sCells x fun ys=>ys.length=fd.2.1∧fd.1+ys.length≤cells.length∧sFill fs (setL cells fd.1 ys) k r
theorem sFill_nil (fs:List (Nat × Nat × Bool)) (cells:List AV) (k:List AV→Prop):sFill fs cells k []=k cells:=rfl
theorem sFill_cons (fs:List (Nat × Nat × Bool)) (cells:List AV) (k:List AV→Prop) (i:Nat) (x:AV) (r:List (Nat × AV)):
 sFill fs cells k ((i,x)::r)=sFld fs[i]? fun fd=>sCells x fun ys=>ys.length=fd.2.1∧fd.1+ys.length≤cells.length∧sFill fs (setL cells fd.1 ys) k r:=rfl
def sBuild (ti:TI) (parts:List (Nat × AV)) (k:AV→Prop):Prop:=sCells ti.zero fun zs=>sFill ti.fields zs (fun cs=>k (.agg cs)) parts
theorem sBuild_eq (ti:TI) (parts:List (Nat × AV)) (k:AV→Prop):sBuild ti parts k=sCells ti.zero fun zs=>sFill ti.fields zs (fun cs=>k (.agg cs)) parts:=rfl
def sFillR (sh:Sh) (xs:List AV) (k:List AV→Prop):List (Nat × AV)→Prop
 | []=>k xs
 |(i,x)::r=>i<xs.length∧fits sh x∧labs x=[]∧sFillR sh (xs.set i x) k r
theorem sFillR_nil (sh:Sh) (xs:List AV) (k:List AV→Prop):sFillR sh xs k []=k xs:=rfl
theorem sFillR_cons (sh:Sh) (xs:List AV) (k:List AV→Prop) (i:Nat) (x:AV) (r:List (Nat × AV)):sFillR sh xs k ((i,x)::r)=(i<xs.length∧fits sh x∧labs x=[]∧sFillR sh (xs.set i x) k r):=rfl
def sBuildSlice (ti:TI) (d n:Nat) (parts:List (Nat × AV)) (m:Mem) (k:AV→Mem→Prop):Prop:=
 (n*ti.size≤16777216∧n≤16777216∧fits ti.sh ti.zero)∧sFillR ti.sh (List.replicate n ti.zero) (fun xs=>k (.ref d (newVer m d) 0 n) ((d,.row (newVer m d) ti.sh (isFlatL xs) xs)::m)) parts
theorem sBuildSlice_eq (ti:TI) (d n:Nat) (parts:List (Nat × AV)) (m:Mem) (k:AV→Mem→Prop):sBuildSlice ti d n parts m k=
 ((n*ti.size≤16777216∧n≤16777216∧fits ti.sh ti.zero)∧sFillR ti.sh (List.replicate n ti.zero) (fun xs=>k (.ref d (newVer m d) 0 n) ((d,.row (newVer m d) ti.sh (isFlatL xs) xs)::m)) parts):=rfl
theorem labs_val (v:Value):labs (.val v)=[]:=rfl
theorem labs_arr (sh:Sh) (xs:List AV):labs (.arr sh xs)=[]:=rfl
theorem labs_agg (xs:List AV):labs (.agg xs)=labsL xs:=rfl
theorem labsL_nil:labsL []=[]:=rfl
theorem labsL_cons (x:AV) (r:List AV):labsL (x::r)=labs x++labsL r:=rfl
section
variable {P:Program} {B:Base} {N:Nat} {φ:Nat→LS} {fp:Nat→List Nat} {S:Nat→Prop} {ts:Env} {m:Mem} {a:Act} {w:World}
theorem labs_nil_get {xs:List AV} (h:labsL xs=[]):∀i (hi:i<xs.length),labs xs[i]=[]:=by
 intro i hi
 apply List.eq_nil_iff_forall_not_mem.2
 intro l hl
 have:=mem_labsL hi hl
 rw [h] at this;cases this
theorem rd_of_rv {x:AV} {v:Value} (h:RV w S φ x v) (hl:labs x=[]):Rd w S x v:=by
 induction h with
 |rd x v h=>exact h
 |agg xs cs h1 h2 _ ih=>exact .agg xs cs h1 h2 fun i hi=>ih i hi (labs_nil_get (by simpa [labs] using hl) i hi)
 |tup xs cs h1 _ ih=>exact .tup xs cs h1 fun i hi=>ih i hi (labs_nil_get (by simpa [labs] using hl) i hi)
 |clo f xs cs h1 _ ih=>exact .clo f xs cs h1 fun i hi=>ih i hi (labs_nil_get (by simpa [labs] using hl) i hi)
 |ref=>simp [labs] at hl
 |ptr=>simp [labs] at hl
def PR (R:AV→Value→Prop):List (Nat × AV)→List (Nat × Value)→Prop
 | [],[]=>True
 |(i,x)::r,(j,v)::s=>i=j∧R x v∧PR R r s
 |_,_=>False
theorem PR_map (h:RS B N φ fp S ts m a w) (l:List (Nat × Operand)):PR (RV w S φ) (l.map fun p=>(p.1,Vc.ev ts p.2)) (l.map fun p=>(p.1,a.eval p.2)):=by
 induction l with
 |nil=>trivial
 |cons p r ih=>exact ⟨rfl,h.ev p.2,ih⟩
theorem sFill_out {fs:List Field} {Q:List AV→Prop}:∀(parts:List (Nat × AV)) (vparts:List (Nat × Value)) (cells:List AV) (cs:Array Value),PR (RV w S φ) parts vparts→RL (RV w S φ) cells cs.toList→
 (∀l,l∈labsL cells→known m l.1 l.2)→(∀p,p∈parts→∀l,l∈labs p.2→known m l.1 l.2)→
 sFill (fs.map fun f=>(f.offset,sizeOf' P f.type,aggOf P f.type)) cells Q parts→
 ∃cells' cs',Q cells'∧Instr.fill ((fs.map fun f=>(f.offset,sizeOf' P f.type)).toArray[·]?) cs vparts=some cs'∧RL (RV w S φ) cells' cs'.toList∧∀l,l∈labsL cells'→known m l.1 l.2
 | [],vparts,cells,cs,hp,hr,hl,_,hk=>by
   cases vparts with
   |nil=>exact ⟨cells,cs,hk,rfl,hr,hl⟩
   |cons=>exact hp.elim
 |(i,x)::r,vparts,cells,cs,hp,hr,hl,hpl,hk=>by
  cases vparts with
  |nil=>exact hp.elim
  |cons q s=>
   obtain ⟨j,v⟩:=q
   obtain ⟨rfl,hx,hp⟩:=hp
   simp only [sFill,List.getElem?_map] at hk
   cases hf:fs[i]? with
   |none=>rw [hf] at hk;exact hk.elim
   |some f=>
    rw [hf] at hk
    simp only [Option.map_some,sFld] at hk
    obtain ⟨ys,⟨h1,h2,hk⟩,hrl,hlab,hone⟩:=hx.cells hk
    have hsp:=RL.setV ys v.cells.toList cells cs.toList f.offset hr hrl
    have hnew:∀l,l∈labsL (setL cells f.offset ys)→known m l.1 l.2:=by
     intro l hl'
     obtain ⟨q,hq,hl2⟩:=of_mem_labsL hl'
     have hg:=setL_getElem? ys cells f.offset q h2
     rw [q5 hq] at hg
     split at hg
     · obtain ⟨g1,g2⟩:=q6.1 hg.symm
       exact hpl (i,x) (q15 ..) l (hlab _ (mem_labsL g1 (g2▸hl2)))
     · obtain ⟨g1,g2⟩:=q6.1 hg.symm
       exact hl l (mem_labsL g1 (g2▸hl2))
    have hvl:v.cells.size=ys.length:=by simpa using hrl.1
    obtain ⟨cells',cs',g1,g2,g3,g4⟩:=sFill_out r s _ (v.cells.zipIdx.foldl (fun cs (c,j)=>cs.setIfInBounds (f.offset+j) c) cs) hp (by rw [fold_setA];exact hsp) hnew (fun p hp=>hpl p (q14 _ hp)) hk
    refine ⟨cells',cs',g1,?_,g3,g4⟩
    have hcl:cs.size=cells.length:=by simpa using hr.1
    have e1:(fs.map fun f=>(f.offset,sizeOf' P f.type)).toArray[i]? =some (f.offset,sizeOf' P f.type):=by simp [hf]
    simp only [Instr.fill,e1]
    rw [if_neg (by simp;omega)]
    exact g2
theorem places_of {fs:List Field} (h:∀f,f∈fs→(P.info? f.type).isSome):fs.mapM (fun f=>(P.info? f.type).map fun i=>(f.offset,i.size))=some (fs.map fun f=>(f.offset,sizeOf' P f.type)):=by
 induction fs with
 |nil=>rfl
 |cons f r ih=>
  have h1:=h f (q15 ..)
  obtain ⟨i,hi⟩:=Option.isSome_iff_exists.1 h1
  simp [List.mapM_cons,hi,ih fun f hf=>h f (q14 _ hf),sizeOf']
def fieldsOk (P:Program) (t:TypeId):Prop:=∀fs,P.underlying t=some (.struct fs)→∀f,f∈fs.toList→(P.info? f.type).isSome
theorem run_build' {t:TypeId} {ti:TI} (ht:tiOf P t=some ti) (hks:ti.kind= .struct) (hfo:fieldsOk P t) (h:RS B N φ fp S ts m a w) {parts:List (Nat × AV)} {vparts:List (Nat × Value)} (hp:PR (RV w S φ) parts vparts)
 (hpl:∀p,p∈parts→∀l,l∈labs p.2→known m l.1 l.2) {k:AV→Prop} (hk:sBuild ti parts k):
 Runs B N a (fun x ts' m'=>ts'=ts∧m'=m∧k x) ((Instr.build t vparts.toArray).run P w):=by
 obtain ⟨inf,dd,z,hi,hd,hz,hag,hsz,hby,hzz,hff,_,hkk⟩:=kind_of ht
 rw [hks] at hkk
 obtain ⟨fs,rfl⟩:∃fs,dd= .struct fs:=by cases dd<;>simp at hkk<;>exact ⟨_,rfl⟩
 simp only at hff
 unfold sBuild at hk
 rw [hzz,hff] at hk
 obtain ⟨zs,hk,hrl,hlab,hone⟩:=RV.cells (φ:=φ) (S:=S) (w:=w) (.rd _ _ (rd_cAV z)) hk
 obtain ⟨cells',cs',g1,g2,g3,g4⟩:=sFill_out (P:=P) parts vparts zs z.cells hp hrl (fun l hl=>by have:=hlab l hl;rw [labs_cAV] at this;cases this) hpl hk
 have hb:P.built t vparts=some cs':=by
  unfold Program.built
  simp only [hi,hd,hz,places_of (hfo fs hd),g2]
 refine ⟨_,w,run_build w t vparts.toArray cs' (by simpa using hb),h.gives (x:=.agg cells') (.agg _ _ (by simpa using g3.1) g3.2.1 g3.2.2) (fun l ver hl=>g4 (l,ver) (by simpa [labs] using hl)) ⟨rfl,rfl,g1⟩⟩
theorem fill_row {sh:Sh} {Q:List AV→Prop}:∀(parts:List (Nat × AV)) (vparts:List (Nat × Value)) (xs:List AV) (cs:Array Value),PR (RV w S φ) parts vparts→cs.size=xs.length*sh.sz→
 (∀i (hi:i<xs.length),fits sh xs[i])→(∀i (hi:i<xs.length),Rd w S xs[i] (elemV cs.toList (i*sh.sz) sh))→sFillR sh xs Q parts→
 ∃xs' cs',Q xs'∧Instr.fill (fun i=>some (i*sh.sz,sh.sz)) cs vparts=some cs'∧cs'.size=xs'.length*sh.sz∧xs'.length=xs.length∧(∀i (hi:i<xs'.length),fits sh xs'[i])∧
  (∀i (hi:i<xs'.length),Rd w S xs'[i] (elemV cs'.toList (i*sh.sz) sh))
 | [],vparts,xs,cs,hp,hs,hf,hr,hk=>by
   cases vparts with
   |nil=>exact ⟨xs,cs,hk,rfl,hs,rfl,hf,hr⟩
   |cons=>exact hp.elim
 |(i,x)::r,vparts,xs,cs,hp,hs,hf,hr,hk=>by
  cases vparts with
  |nil=>exact hp.elim
  |cons q s=>
   obtain ⟨j,v⟩:=q
   obtain ⟨rfl,hx,hp⟩:=hp
   obtain ⟨hi,hfx,hlx,hk⟩:=hk
   have hrx:=rd_of_rv hx hlx
   have hroom:=mul_le_of_lt (s:=sh.sz) hi
   have hvc:v.cells.toList.length=sh.sz∧∀l:List Value,i*sh.sz+sh.sz≤l.length→elemV (setV l (i*sh.sz) v.cells.toList) (i*sh.sz) sh=v∧∀i',i'≠i→i'*sh.sz+sh.sz≤l.length→elemV (setV l (i*sh.sz) v.cells.toList) (i'*sh.sz) sh=elemV l (i'*sh.sz) sh:=by
    have sget:∀(vs l:List Value) (o k:Nat),o+vs.length≤l.length→(setV l o vs).getD k Go.undef=if o≤k∧k<o+vs.length then vs.getD (k-o) Go.undef else l.getD k Go.undef:=by
     intro vs
     induction vs with
     |nil=>intro l o k _;simp only [setV,List.length_nil];rw [if_neg (by omega)]
     |cons u us ih=>
      intro l o k h
      simp only [List.length_cons] at h ⊢
      simp only [setV]
      rw [ih _ _ _ (by rw [q12];omega)]
      by_cases hk:k=o
      · subst hk
        rw [if_neg (by omega),if_pos (by omega),Nat.sub_self]
        simp [q4,show k<l.length by omega]
      · by_cases hk2:o+1≤k∧k<o+1+us.length
        · rw [if_pos hk2,if_pos (by omega),show k-o=(k-(o+1))+1 by omega];simp [q4]
        · rw [if_neg hk2,if_neg (by omega)]
          simp [q4,Ne.symm hk]
    have hsz1:=fits_sz hfx
    have main:v.cells.toList.length=sh.sz→(∀l:List Value,l=v.cells.toList→elemV l 0 sh=v)→v.cells.toList.length=sh.sz∧∀l:List Value,i*sh.sz+sh.sz≤l.length→elemV (setV l (i*sh.sz) v.cells.toList) (i*sh.sz) sh=v∧∀i',i'≠i→i'*sh.sz+sh.sz≤l.length→elemV (setV l (i*sh.sz) v.cells.toList) (i'*sh.sz) sh=elemV l (i'*sh.sz) sh:=by
     intro hl hv
     refine ⟨hl,fun l hll=>⟨?_,fun i' hi' hll'=> ?_⟩⟩
     · refine (elemV_ext (l':=v.cells.toList) (o':=0) (by rw [setV_length];exact hll) (by omega) hsz1 fun c hc=> ?_).trans (hv _ rfl)
       rw [sget _ _ _ _ (by omega),if_pos (by omega)]
       congr 1;omega
     · refine elemV_ext (by rw [setV_length];exact hll') hll' hsz1 fun c hc=> ?_
       rw [sget _ _ _ _ (by omega),if_neg]
       rcases Nat.lt_or_gt_of_ne hi' with hlt|hgt
       · have:=mul_le_of_lt (s:=sh.sz) hlt;omega
       · have:=mul_le_of_lt (s:=sh.sz) hgt;omega
    have one:leaf x→sh.ag=false∧sh.sz=1→v.cells.toList.length=sh.sz∧∀l:List Value,i*sh.sz+sh.sz≤l.length→elemV (setV l (i*sh.sz) v.cells.toList) (i*sh.sz) sh=v∧∀i',i'≠i→i'*sh.sz+sh.sz≤l.length→elemV (setV l (i*sh.sz) v.cells.toList) (i'*sh.sz) sh=elemV l (i'*sh.sz) sh:=by
     rintro hlf ⟨hag,hs1⟩
     have h1:=hrx.leaf_oneCell hlf
     have hc1:=cells_single h1
     exact main (by rw [hc1,hs1];rfl) fun l hl=>by rw [hl,hc1];simp only [elemV,hag,Bool.false_eq_true,if_false];rfl
    cases x with
    |agg zs=>
     obtain ⟨hag,hzl⟩:=hfx
     obtain ⟨cz,rfl,h1,h2,h3⟩:=rd_agg hrx
     have hlen:(Value.agg cz).cells.toList.length=sh.sz:=by simpa [Value.cells] using h1.trans hzl
     refine main hlen fun l hl=> ?_
     rw [hl]
     simp only [elemV,hag,if_true,List.drop_zero,Value.cells]
     rw [List.take_of_length_le (by simp only [Value.cells] at hlen;omega)]
    |undef=>exact hfx.elim
    |tup xs=>exact hfx.elim
    |_=>exact one trivial hfx
   have hcl:i*sh.sz+sh.sz≤cs.toList.length:=by simp only [q0,hs];exact hroom
   obtain ⟨hv1,hv2⟩:=hvc.2 cs.toList hcl
   have e0:(v.cells.zipIdx.foldl (fun cs (c,j)=>cs.setIfInBounds (i*sh.sz+j) c) cs).toList=setV cs.toList (i*sh.sz) v.cells.toList:=fold_setA _ _ _
   obtain ⟨xs',cs',g1,g2,g3,g4,g5,g6⟩:=fill_row r s (xs.set i x) (v.cells.zipIdx.foldl (fun cs (c,j)=>cs.setIfInBounds (i*sh.sz+j) c) cs) hp
    (by rw [q12,←hs,←q0,e0,setV_length,q0])
    (fun q hq=>by
      rw [q12] at hq;rw [q8]
      split
      · exact hfx
      · exact hf q hq)
    (fun q hq=>by
      rw [q12] at hq;rw [q8,e0]
      by_cases hqi:i=q
      · subst hqi;rw [if_pos rfl,hv1];exact hrx
      · rw [if_neg hqi,hv2 q (Ne.symm hqi) (by simp only [q0,hs];exact mul_le_of_lt hq)];exact hr q hq) hk
   refine ⟨xs',cs',g1,?_,g3,by rw [g4,q12],g5,g6⟩
   have hsz:v.cells.size=sh.sz:=by simpa using hvc.1
   simp only [Instr.fill]
   rw [if_neg (by simp;omega)]
   exact g2
theorem run_buildSlice' {t:TypeId} {tt ti:TI} (htt:tiOf P t=some tt) (hks:tt.kind= .slice) (ht:tiOf P tt.elem=some ti) (h:RS B N φ fp S ts m a w) {parts:List (Nat × AV)} {vparts:List (Nat × Value)} (hp:PR (RV w S φ) parts vparts) (d n:Nat)
 {k:AV→Mem→Prop} (hk:sBuildSlice ti d n parts m k):Runs B N a (fun x ts' m'=>ts'=ts∧k x m') ((Instr.buildSlice t n vparts.toArray).run P w):=by
 obtain ⟨⟨hlim,hnl,hzf⟩,hk⟩:=hk
 obtain ⟨inf,dd,z,hi,hd,hz,hag,hsz,hby,hzz,_⟩:=kind_of ht
 obtain ⟨hzs,hzr,hzfl⟩:=zero_cells hzz hzf
 have hsl:=kind_slice htt hks
 obtain ⟨xs',cs',g1,g2,g3,g4,g5,g6⟩:=fill_row (w:=w) (S:=S) (φ:=φ) parts vparts (List.replicate n ti.zero) (madeCells z.cells (n*ti.size)) hp (by rw [size_madeCells,List.length_replicate];rfl)
  (fun i hi=>by simp only [List.getElem_replicate];exact hzf)
  (fun i hi=>by
    simp only [List.length_replicate] at hi
    simp only [List.getElem_replicate]
    have e2:elemV (madeCells z.cells (n*ti.size)).toList (i*ti.sh.sz) ti.sh=elemV z.cells.toList 0 ti.sh:=by
     refine elemV_ext ?_ ?_ (fits_sz hzf) fun cc hcc=> ?_
     · simp only [q0,size_madeCells];exact mul_le_of_lt (s:=ti.size) hi
     · simp only [q0,hzs];show 0+ti.size≤ti.size;omega
     · rw [q28];exact madeCells_getD z.cells n i cc ti.size hzs hcc hi
    rw [e2];exact hzr _ _) hk
 rw [List.length_replicate] at g4
 have hrun:(Instr.buildSlice t n vparts.toArray).run P w= .ok (.slice (some ⟨w.heap.size,0,none⟩) n n) (w.alloc (.cells cs' tt.elem)):=by
  have h1:¬(n*inf.size>2^24):=by rw [←hsz];omega
  have g2':Instr.fill (fun i=>some (i*inf.size,inf.size)) (madeCells z.cells (n*ti.size)) vparts=some cs':=by rw [←hsz];exact g2
  rw [hsz] at g2'
  by_cases h0:n*inf.size=0
  · have e0:madeCells z.cells (n*inf.size)= #[]:=by rw [h0];simp [madeCells]
    rw [e0] at g2'
    have er:(Array.range 0).map (fun _=>(default:Value))= #[]:=by simp
    simp [Instr.buildSlice,run_underlying hsl,sizeOf,typeInfo,hi,h0,newRow]
    rw [er,g2']
    simp
  · have e0:(Array.range (n*inf.size)).map (fun x=>z.cells[x%z.cells.size]!)=madeCells z.cells (n*inf.size):=rfl
    simp [Instr.buildSlice,run_underlying hsl,sizeOf,typeInfo,hi,h0,newRow,zeroValue,hz,e0,g2']
    omega
 refine ⟨_,_,hrun,?_⟩
 have hRS:=h.alloc d ti.sh (.row (newVer m d) ti.sh (isFlatL xs') xs') cs' tt.elem rfl
  (.inr ⟨w.heap.size,n,upd_same _ _ _,by simp,fun _=>rfl,by
    have e:[w.heap.size]=w.heap.size::(List.replicate xs'.length ([]:List Nat)).flatten:=by
     congr 1
     exact (q3.2 fun l hl=>(List.mem_replicate.1 hl).2).symm
    rw [e]
    have hnm:n≤maxLen:=by unfold maxLen;omega
    refine .arr _ _ _ _ cs' (tt.elem,false) _ (new_cel w _ _) (by rw [g3,g4]) (by omega) hnm g5 (by simp) fun q hq=> ?_
    have e1:(List.replicate xs'.length ([]:List Nat)).getD q []=[]:=by simp [q4,hq]
    rw [e1]
    have hq6:=(g6 q hq).mono (w':=w.alloc (.cells cs' tt.elem)) (fun c hc=>old w _ c (h.sB c hc).1) (fun _ h=>h)
    cases hfl:isFlatL xs' with
    |true=>exact .rd _ _ (flat_rd (fs:=[]) (.rd _ _ hq6) (isFlatL_get hfl q hq)).1
    |false=>exact .rd _ _ hq6⟩)
  (fun _ _ hx=>by cases hx)
 refine hRS.gives (x:=.ref d (newVer m d) 0 n) ?_ ?_ ⟨rfl,g1⟩
 · refine .ref _ _ _ _ _ (fun b sh hb=> ?_) (fun hb=> ?_) rfl
   · rw [upd_same] at hb;cases hb
     refine ⟨_,n,rfl,q22 _,.inr ⟨by simp,_,_,new_cel w _ _,by rw [g3,g4,q28]⟩⟩
   · rw [upd_same] at hb;cases hb
 · intro l' ver hl
   simp only [labs,q16,Prod.mk.injEq] at hl
   obtain ⟨rfl,rfl⟩:=hl
   exact ⟨_,by simp [lookB_cons];rfl,q22 _⟩
end
end Go.Vc
namespace Go.Vc
def FnRes (w w':World) (S:Nat→Prop) (own:Bool) (r:AV) (v:Value):Prop:=
 if own then ∃fs,Own w' (fun _=>False) r v fs∧fs.Nodup∧∀b,b∈fs→w.heap.size≤b
 else Rd w' (fun b=>S b∨(w.heap.size≤b∧b<w'.heap.size)) r v
def Enters (P:Program) (f:FuncId):Prop:=∃fn c,P.funcs[f]? =some fn∧(fn.name== "runtime.NumGoroutine")=false∧fn.body=some c
def Fn (P:Program) (f:FuncId) (args:List AV) (own:Bool) (post:AV→Prop):Prop:=
 Enters P f∧∀(w:World) (S:Nat→Prop) (vs:Array Value),(∀b,S b→b<w.heap.size)→Kon w S→vs.size=args.length→(∀i (h:i<args.length),Rd w S args[i] (vs.toList.getD i Go.undef))→
  Calls P f vs w fun e w'=>∃r v,e= .returned v∧post r∧Grown w w'∧FnRes w w' S own r v
theorem Fn.mono {P:Program} {f:FuncId} {args:List AV} {own:Bool} {post post':AV→Prop} (h:Fn P f args own post) (hp:∀r,post r→post' r):Fn P f args own post':=
 ⟨h.1,fun w S vs h1 hk h2 h3=>(h.2 w S vs h1 hk h2 h3).mono fun _ _ ⟨r,v,g1,g2,g3⟩=>⟨r,v,g1,hp r g2,g3⟩⟩
def sRowT (v i n:Nat) (b:Option Blk) (k:AV→Prop):Prop:=match b with
 |some (.row v' sh _ xs)=>v'=v∧i+n≤xs.length∧k (.arr sh ((xs.drop i).take n))
 |_=>False
@[congr] theorem sRowT_congr {v i n:Nat} {b b':Option Blk} {k:AV→Prop} (h:b=b'):sRowT v i n b k=sRowT v i n b' k:=by rw [h]
theorem sRowT_row (v i n:Nat) (sh:Sh) (d:Bool) (xs:List AV) (k:AV→Prop):sRowT v i n (some (.row v sh d xs)) k=(i+n≤xs.length∧k (.arr sh ((xs.drop i).take n))):=by simp [sRowT]
def sLeafT (m:Mem) (x:AV) (k:AV→Prop):Prop:=match x with
 | .ref l v i n=>sRowT v i n (lookB m l) k
 | .val v=>k (.val v)
 | .e0=>k .e0
 | .arr sh xs=>k (.arr sh xs)
 | .eptr sh xs i j=>k (.eptr sh xs i j)
 |_=>False
@[congr] theorem sLeafT_congr {m:Mem} {x x':AV} {k:AV→Prop} (h:x=x'):sLeafT m x k=sLeafT m x' k:=by rw [h]
theorem sLeafT_ref (m:Mem) (l v i n:Nat) (k:AV→Prop):sLeafT m (.ref l v i n) k=sRowT v i n (lookB m l) k:=rfl
theorem sLeafT_val (m:Mem) (v:Value) (k:AV→Prop):sLeafT m (.val v) k=k (.val v):=rfl
theorem sLeafT_arr (m:Mem) (sh:Sh) (xs:List AV) (k:AV→Prop):sLeafT m (.arr sh xs) k=k (.arr sh xs):=rfl
def sLeavesT (m:Mem) (k:List AV→Prop):List AV→List AV→Prop
 |acc,[]=>k acc.reverse
 |acc,x::r=>sLeafT m x fun y=>sLeavesT m k (y::acc) r
theorem sLeavesT_nil (m:Mem) (k:List AV→Prop) (acc:List AV):sLeavesT m k acc []=k acc.reverse:=rfl
theorem sLeavesT_cons (m:Mem) (k:List AV→Prop) (acc:List AV) (x:AV) (r:List AV):sLeavesT m k acc (x::r)=sLeafT m x fun y=>sLeavesT m k (y::acc) r:=rfl
def sTree (m:Mem) (x:AV) (k:AV→Prop):Prop:=match x with
 | .agg xs=>sLeavesT m (fun ys=>k (.agg ys)) [] xs
 | .ptr _ _ _ _=>k .undef
 | .clo _ _=>k .undef
 |x=>sLeafT m x k
theorem sTree_clo (m:Mem) (f:FuncId) (xs:List AV) (k:AV→Prop):sTree m (.clo f xs) k=k .undef:=rfl
theorem sTree_ptr (m:Mem) (l v i j:Nat) (k:AV→Prop):sTree m (.ptr l v i j) k=k .undef:=rfl
@[congr] theorem sTree_congr {m:Mem} {x x':AV} {k:AV→Prop} (h:x=x'):sTree m x k=sTree m x' k:=by rw [h]
theorem sTree_agg (m:Mem) (xs:List AV) (k:AV→Prop):sTree m (.agg xs) k=sLeavesT m (fun ys=>k (.agg ys)) [] xs:=rfl
theorem sTree_ref (m:Mem) (l v i n:Nat) (k:AV→Prop):sTree m (.ref l v i n) k=sRowT v i n (lookB m l) k:=rfl
theorem sTree_val (m:Mem) (v:Value) (k:AV→Prop):sTree m (.val v) k=k (.val v):=rfl
theorem sTree_arr (m:Mem) (sh:Sh) (xs:List AV) (k:AV→Prop):sTree m (.arr sh xs) k=k (.arr sh xs):=rfl
def sTrees (m:Mem) (k:List AV→Prop):List AV→List AV→Prop
 |acc,[]=>k acc.reverse
 |acc,x::r=>sTree m x fun y=>sTrees m k (y::acc) r
theorem sTrees_nil (m:Mem) (k:List AV→Prop) (acc:List AV):sTrees m k acc []=k acc.reverse:=rfl
theorem sTrees_cons (m:Mem) (k:List AV→Prop) (acc:List AV) (x:AV) (r:List AV):sTrees m k acc (x::r)=sTree m x fun y=>sTrees m k (y::acc) r:=rfl
def sMatL (l:Nat) (x:AV) (m:Mem) (k:AV→Mem→Prop):Prop:=match x with
 | .arr sh xs=>k (.ref l (newVer m l) 0 xs.length) ((l,.row (newVer m l) sh true xs)::m)
 |x=>k x m
@[congr] theorem sMatL_congr {l:Nat} {x x':AV} {m:Mem} {k:AV→Mem→Prop} (h:x=x'):sMatL l x m k=sMatL l x' m k:=by rw [h]
theorem sMatL_arr (l:Nat) (sh:Sh) (xs:List AV) (m:Mem) (k:AV→Mem→Prop):sMatL l (.arr sh xs) m k=k (.ref l (newVer m l) 0 xs.length) ((l,.row (newVer m l) sh true xs)::m):=rfl
theorem sMatL_val (l:Nat) (v:Value) (m:Mem) (k:AV→Mem→Prop):sMatL l (.val v) m k=k (.val v) m:=rfl
def sMats (k:List AV→Mem→Prop):Nat→List AV→Mem→List AV→Prop
 |_,acc,m,[]=>k acc.reverse m
 |l,acc,m,x::r=>sMatL l x m fun y m'=>sMats k (l+1) (y::acc) m' r
theorem sMats_nil (k:List AV→Mem→Prop) (l:Nat) (acc:List AV) (m:Mem):sMats k l acc m []=k acc.reverse m:=rfl
theorem sMats_cons (k:List AV→Mem→Prop) (l:Nat) (acc:List AV) (m:Mem) (x:AV) (r:List AV):sMats k l acc m (x::r)=sMatL l x m fun y m'=>sMats k (l+1) (y::acc) m' r:=rfl
def sMatA (l:Nat) (x:AV) (m:Mem) (k:AV→Mem→Prop):Prop:=match x with
 | .agg xs=>sMats (fun ys m'=>k (.agg ys) m') l [] m xs
 | .tup _=>False
 |x=>sMatL l x m k
@[congr] theorem sMatA_congr {l:Nat} {x x':AV} {m:Mem} {k:AV→Mem→Prop} (h:x=x'):sMatA l x m k=sMatA l x' m k:=by rw [h]
theorem sMatA_arr (l:Nat) (sh:Sh) (xs:List AV) (m:Mem) (k:AV→Mem→Prop):sMatA l (.arr sh xs) m k=k (.ref l (newVer m l) 0 xs.length) ((l,.row (newVer m l) sh true xs)::m):=rfl
theorem sMatA_val (l:Nat) (v:Value) (m:Mem) (k:AV→Mem→Prop):sMatA l (.val v) m k=k (.val v) m:=rfl
def sMatTs (k:List AV→Mem→Prop):Nat→List AV→Mem→List AV→Prop
 |_,acc,m,[]=>k acc.reverse m
 |l,acc,m,x::r=>sMatA l x m fun y m'=>sMatTs k (l+16) (y::acc) m' r
theorem sMatTs_nil (k:List AV→Mem→Prop) (l:Nat) (acc:List AV) (m:Mem):sMatTs k l acc m []=k acc.reverse m:=rfl
theorem sMatTs_cons (k:List AV→Mem→Prop) (l:Nat) (acc:List AV) (m:Mem) (x:AV) (r:List AV):sMatTs k l acc m (x::r)=sMatA l x m fun y m'=>sMatTs k (l+16) (y::acc) m' r:=rfl
def sMat (l:Nat) (x:AV) (m:Mem) (k:AV→Mem→Prop):Prop:=match x with
 | .tup xs=>sMatTs (fun ys m'=>k (.tup ys) m') l [] m xs
 |x=>sMatA l x m k
@[congr] theorem sMat_congr {l:Nat} {x x':AV} {m:Mem} {k:AV→Mem→Prop} (h:x=x'):sMat l x m k=sMat l x' m k:=by rw [h]
theorem sMat_tup (l:Nat) (xs:List AV) (m:Mem) (k:AV→Mem→Prop):sMat l (.tup xs) m k=sMatTs (fun ys m'=>k (.tup ys) m') l [] m xs:=rfl
theorem sMat_agg (l:Nat) (xs:List AV) (m:Mem) (k:AV→Mem→Prop):sMat l (.agg xs) m k=sMats (fun ys m'=>k (.agg ys) m') l [] m xs:=rfl
theorem sMat_arr (l:Nat) (sh:Sh) (xs:List AV) (m:Mem) (k:AV→Mem→Prop):sMat l (.arr sh xs) m k=k (.ref l (newVer m l) 0 xs.length) ((l,.row (newVer m l) sh true xs)::m):=rfl
theorem sMat_val (l:Nat) (v:Value) (m:Mem) (k:AV→Mem→Prop):sMat l (.val v) m k=k (.val v) m:=rfl
def isClo:AV→Bool| .clo _ _=>true|_=>false
def noLabs:List AV→Prop| []=>True|x::r=>(labs x=[]∧isClo x=false)∧noLabs r
def sRes (own:Bool) (d:Nat) (m:Mem) (r:AV) (k:AV→Mem→Prop):Prop:=if own then sMat (1000*(d+1)) r m k else k r m
structure Pack {α:Type} (k:α):Type where
def sCallIo (P:Program) (f:FuncId) (xs:List AV) (m:Mem) (k:AV→Mem→Prop):Prop:=
 ∀(B:Base) (N:Nat) (φ:Nat→LS) (fp:Nat→List Nat) (S:Nat→Prop) (ts:Env) (a:Act) (w:World) (vs:Array Value),RS B N φ fp S ts m a w→vs.size=xs.length→
  (∀i (h:i<xs.length),RV w S φ xs[i] (vs.toList.getD i Go.undef))→(∀i (h:i<xs.length) l ver,(l,ver)∈labs xs[i]→known m l ver)→
  Enters P f∧Calls P f vs w fun e w'=>∃v,e= .returned v∧Gives B N a (fun x ts' m'=>ts'=ts∧k x m') v w'
def sCallT (P:Program) (f:FuncId) (d:Nat) (xs ts:List AV) (m:Mem) (k:AV→Mem→Prop) (_:Pack k):Prop:=sCallIo P f xs m k∨∃own post,Fn P f ts own post∧(own=false→noLabs xs)∧∀r,post r→sRes own d m r k
def sCall (P:Program) (f:FuncId) (d:Nat) (xs:List AV) (m:Mem) (k:AV→Mem→Prop):Prop:=sTrees m (fun ts=>sCallT P f d xs ts m k ⟨⟩) [] xs
@[congr] theorem sCall_congr {P:Program} {f:FuncId} {d:Nat} {xs xs':List AV} {m:Mem} {k:AV→Mem→Prop} (h:xs=xs'):sCall P f d xs m k=sCall P f d xs' m k:=by rw [h]
theorem sCall_eq (P:Program) (f:FuncId) (d:Nat) (x:AV) (xs:List AV) (m:Mem) (k:AV→Mem→Prop):sCall P f d (x::xs) m k=sTrees m (fun ts=>sCallT P f d (x::xs) ts m k ⟨⟩) [] (x::xs):=rfl
@[congr] theorem sCallT_congr {P:Program} {f:FuncId} {d:Nat} {xs ts ts':List AV} {m:Mem} {k:AV→Mem→Prop} {q:Pack k} (h:ts=ts'):sCallT P f d xs ts m k q=sCallT P f d xs ts' m k q:=by rw [h]
theorem sCallT_one {P:Program} {f:FuncId} {d:Nat} {xs ts:List AV} {m:Mem} {k:AV→Mem→Prop} {r:AV} (h:Fn P f ts true (· =r)) (hk:sMat (1000*(d+1)) r m k) {q:Pack k}:sCallT P f d xs ts m k q:=
 .inr ⟨true,_,h,fun h=>(by cases h),fun _ e=>e▸hk⟩
theorem sCallT_any {P:Program} {f:FuncId} {d:Nat} {xs ts:List AV} {m:Mem} {k:AV→Mem→Prop} {post:AV→Prop} (h:Fn P f ts true post) (hk:∀r,post r→sMat (1000*(d+1)) r m k) {q:Pack k}:sCallT P f d xs ts m k q:=
 .inr ⟨true,_,h,fun h=>(by cases h),hk⟩
theorem sCallS_one {P:Program} {f:FuncId} {d:Nat} {xs ts:List AV} {m:Mem} {k:AV→Mem→Prop} {r:AV} (h:Fn P f ts false (· =r)) (hl:noLabs xs) (hk:k r m) {q:Pack k}:sCallT P f d xs ts m k q:=
 .inr ⟨false,_,h,fun _=>hl,fun _ e=>e▸hk⟩
section
variable {P:Program} {B:Base} {N:Nat} {φ:Nat→LS} {fp:Nat→List Nat} {S:Nat→Prop} {ts:Env} {m:Mem} {a:Act} {w:World}
def Now (w:World):Nat→Prop:=fun b=>b<w.heap.size
theorem Own.now {S:Nat→Prop} {x:AV} {v:Value} {fs:List Nat} (h:Own w S x v fs) (hS:∀b,S b→b<w.heap.size):Rd w (Now w) x v:=h.rd_of hS fun b hb=>h.lt b hb
theorem leafT_out (h:RS B N φ fp S ts m a w) {x:AV} {v:Value} (hx:RV w S φ x v) {k:AV→Prop} (hk:sLeafT m x k):∃y,k y∧Rd w (Now w) y v∧leaf y∧(labs x=[]→Rd w S y v):=by
 have hS:∀b,S b→Now w b:=fun b hb=>(h.sB b hb).1
 unfold sLeafT at hk
 split at hk
 · rename_i l ver i n
   have hr:=rv_ref hx
   unfold sRowT at hk
   split at hk
   · rename_i v' sh deep xs hlk
     obtain ⟨rfl,hin,hk⟩:=hk
     refine ⟨_,hk,?_,trivial,fun hl=>by simp [labs] at hl⟩
     have hlen:((xs.drop i).take n).length=n:=by simp;omega
     rcases h.mSome l _ hlk with ⟨h1,h2,h3⟩|⟨b,cap,hφ,hbm,hdp,hown⟩
     · obtain ⟨rfl,ad,rfl⟩:=hr.2 h1
       rw [q20];exact .nil _ _
     · obtain ⟨ad,cp,rfl,hnc,hcp⟩:=hr.1 b sh hφ
       obtain ⟨cs,e,fss,hgf,hheap,hcs,hcap,hmx,hff,hfl,hvv⟩:=row_inv hown hbm
       by_cases hc0:cp=0
       · have:n=0:=by omega
         subst this;subst hc0
         rw [q20];exact .nil _ _
       · obtain ⟨rfl,cs',e',g1,g2⟩:=hcp.resolve_left hc0
         obtain rfl:=celO_inj (hheap.symm.trans g1)
         have hroom:i*sh.sz+n*sh.sz≤cs.size:=by
          rw [g2,←q21];exact q25 _ (by omega)
         have hb:Now w b:=(h.fpB l b hbm).1
         have:=Rd.arr (w:=w) (S:=Now w) sh ((xs.drop i).take n) b (i*sh.sz) cp cs e.1 (frOf e cs.size) hb hheap (by rw [hlen];exact hnc) (by rw [hlen];exact hroom)
          (fun q hq=>by rw [hlen] at hq;simp only [q9,q7];exact hff _ (by omega))
          (fun q hq=>by
            rw [hlen] at hq
            simp only [q9,q7]
            have:=(hvv (i+q) (by omega)).now (fun c hc=>by
             cases deep with
             |true=>exact hc.elim
             |false=>exact (h.sB c hc).1)
            rwa [q21] at this)
         rw [hlen] at this
         exact this
   · exact hk.elim
 · obtain ⟨rfl,h1⟩:=rv_val hx
   exact ⟨_,hk,.val _ h1,trivial,fun _=>.val _ h1⟩
 · obtain ⟨ad,rfl⟩:=rv_e0 hx
   exact ⟨_,hk,.e0 _,trivial,fun _=>.e0 _⟩
 · exact ⟨_,hk,(rv_arr hx).mono (fun _ _=>rfl) hS,trivial,fun _=>rv_arr hx⟩
 · exact ⟨_,hk,(rv_eptr hx).mono (fun _ _=>rfl) hS,trivial,fun _=>rv_eptr hx⟩
 · exact hk.elim
def RdL (R:AV→Value→Prop) (xs:List AV) (vs:List Value):Prop:=vs.length=xs.length∧∀i (h:i<xs.length),R xs[i] (vs.getD i Go.undef)
theorem RdL.snoc {R:AV→Value→Prop} {xs:List AV} {vs:List Value} (h:RdL R xs vs) {x:AV} {v:Value} (hx:R x v):RdL R (xs++[x]) (vs++[v]):=by
 refine ⟨by simp [h.1],fun i hi=> ?_⟩
 simp only [q10,List.length_singleton] at hi
 rw [List.getElem_append]
 split
 · rename_i hlt
   have:=h.2 i hlt
   rwa [q4,List.getElem?_append_left (by rw [h.1];exact hlt),←q4]
 · rename_i hge
   have e:i=xs.length:=by omega
   subst e
   simp [q4,←h.1,hx]
theorem leavesT_out (h:RS B N φ fp S ts m a w) {Q:List AV→Prop}:∀(xs:List AV) (vs:List Value) (acc:List AV) (va:List Value),RdL (RV w S φ) xs vs→RdL (fun x v=>Rd w (Now w) x v∧leaf x) acc.reverse va→
 sLeavesT m Q acc xs→∃ys,Q ys∧RdL (fun x v=>Rd w (Now w) x v∧leaf x) ys (va++vs)
 | [],vs,acc,va,hx,ha,hk=>by
   have:vs=[]:=q1 hx.1
   subst this
   exact ⟨_,hk,by simpa using ha⟩
 |x::xs,vs,acc,va,hx,ha,hk=>by
  cases vs with
  |nil=>have:=hx.1;simp at this
  |cons v vs=>
   have hx0:=hx.2 0 (by simp)
   obtain ⟨y,hk,h1,h2,_⟩:=leafT_out h (show RV w S φ x v from hx0) hk
   obtain ⟨ys,g1,g2⟩:=leavesT_out h xs vs (y::acc) (va++[v]) ⟨by simpa using hx.1,fun i hi=>by have:=hx.2 (i+1) (by simpa using hi);exact this⟩ (by
    rw [List.reverse_cons];exact ha.snoc ⟨h1,h2⟩) hk
   exact ⟨ys,g1,by simpa using g2⟩
theorem tree_out (h:RS B N φ fp S ts m a w) {x:AV} {v:Value} (hx:RV w S φ x v) {k:AV→Prop} (hk:sTree m x k):∃y,k y∧Rd w (Now w) y v:=by
 unfold sTree at hk
 split at hk
 · rename_i xs
   obtain ⟨cs,rfl,h1,h2,h3⟩:=rv_agg hx
   obtain ⟨ys,g1,g2⟩:=leavesT_out h xs cs.toList [] [] ⟨by simpa using h1,h3⟩ ⟨rfl,fun i hi=>absurd hi (q27 _)⟩ hk
   refine ⟨_,g1,.agg ys cs (by simpa using g2.1) (fun i hi=>(g2.2 i hi).2) fun i hi=>(g2.2 i hi).1⟩
 · exact ⟨_,hk,.undef _⟩
 · exact ⟨_,hk,.undef _⟩
 · obtain ⟨y,h1,h2,_⟩:=leafT_out h hx hk
   exact ⟨y,h1,h2⟩
theorem trees_out (h:RS B N φ fp S ts m a w) {Q:List AV→Prop}:∀(xs:List AV) (vs:List Value) (acc:List AV) (va:List Value),RdL (RV w S φ) xs vs→RdL (Rd w (Now w)) acc.reverse va→
 sTrees m Q acc xs→∃ys,Q ys∧RdL (Rd w (Now w)) ys (va++vs)
 | [],vs,acc,va,hx,ha,hk=>by
   have:vs=[]:=q1 hx.1
   subst this
   exact ⟨_,hk,by simpa using ha⟩
 |x::xs,vs,acc,va,hx,ha,hk=>by
  cases vs with
  |nil=>have:=hx.1;simp at this
  |cons v vs=>
   have hx0:=hx.2 0 (by simp)
   obtain ⟨y,hk,h1⟩:=tree_out h (show RV w S φ x v from hx0) hk
   obtain ⟨ys,g1,g2⟩:=trees_out h xs vs (y::acc) (va++[v]) ⟨by simpa using hx.1,fun i hi=>by have:=hx.2 (i+1) (by simpa using hi);exact this⟩ (by
    rw [List.reverse_cons];exact ha.snoc h1) hk
   exact ⟨ys,g1,by simpa using g2⟩
theorem leaves_S {Q:List AV→Prop}:∀(xs acc:List AV),(∀i (hi:i<xs.length),labs xs[i]=[])→sLeavesT m Q acc xs→Q (acc.reverse++xs)
 | [],acc,_,hk=>by simpa [sLeavesT] using hk
 |x::xs,acc,hl,hk=>by
  have h0:labs x=[]:=hl 0 (by simp)
  have:sLeavesT m Q (x::acc) xs:=by
   simp only [sLeavesT] at hk
   unfold sLeafT at hk
   split at hk<;>first|exact hk|(simp [labs] at h0;done)|exact hk.elim
  have:=leaves_S xs (x::acc) (fun i hi=>by have:=hl (i+1) (by simpa using hi);exact this) this
  simpa using this
theorem trees_S {Q:List AV→Prop}:∀(xs acc:List AV),noLabs xs→sTrees m Q acc xs→Q (acc.reverse++xs)
 | [],acc,_,hk=>by simpa [sTrees] using hk
 |x::xs,acc,hl,hk=>by
  have h0:labs x=[]:=hl.1.1
  have h0':isClo x=false:=hl.1.2
  have:sTrees m Q (x::acc) xs:=by
   simp only [sTrees] at hk
   unfold sTree at hk
   split at hk
   · rename_i zs
     have:=leaves_S zs [] (labs_nil_get (by simpa [labs] using h0)) hk
     simpa using this
   · simp [labs] at h0
   · cases h0'
   · unfold sLeafT at hk
     split at hk<;>first|exact hk|(simp [labs] at h0;done)|exact hk.elim
  have:=trees_S xs (x::acc) hl.2 this
  simpa using this
theorem RS.grown (h:RS B N φ fp S ts m a w) {w':World} (hg:Grown w w'):RS B N φ fp S ts m a w':=by
 have hs:∀l b,b∈fp l→w'.heap[b]? =w.heap[b]? :=fun l b hb=>hg.same b (h.fpB l b hb).1
 have hS:∀b,S b→w'.heap[b]? =w.heap[b]? :=fun b hb=>hg.same b (h.sB b hb).1
 have hz:Sized φ w w':=fun l b sh ver cs e hl hb=>⟨cs,e,(hs l b (h.at_mem hl)).trans hb,rfl⟩
 exact {h with
  tm:=fun t=>(h.tm t).mono hS (fun _ h=>h) hz fun l ver _=>LS.le_refl _ _
  mSome:=fun l k hk=>(h.mSome l k hk).mono hS (fun _ h=>h) hz (hs l) rfl fun _ _ _ _ _ _=>LS.le_refl _ _
  fpB:=fun l b hb=>⟨q24 (h.fpB l b hb).1 hg.size,(h.fpB l b hb).2⟩
  sB:=fun b hb=>⟨q24 (h.sB b hb).1 hg.size,(h.sB b hb).2⟩
  base:=fun b hb hio=>(hg.same b (q24 hb h.size)).trans (h.base b hb hio)
  out:=h.out.trans hg.out
  szs:=h.szs.trans (Szs.of_same hg.same)
  kon:=h.kon.mono hS fun _ h=>h
  size:=Nat.le_trans h.size hg.size}
theorem RS.hold (h:RS B N φ fp S ts m a w) (T:Nat→Prop) (hT:∀b,T b→b<w.heap.size∧B.w0.heap.size≤b∧∀l,b∉fp l):RS B N φ fp (fun b=>S b∨T b) ts m a w:=by
 have hz:Sized φ w w:=fun l b sh ver cs e _ hb=>⟨cs,e,hb,rfl⟩
 exact {h with
  tm:=fun t=>(h.tm t).mono (fun _ _=>rfl) (fun _ h=>.inl h) hz fun l ver _=>LS.le_refl _ _
  mSome:=fun l k hk=>(h.mSome l k hk).mono (fun _ _=>rfl) (fun _ h=>.inl h) hz (fun _ _=>rfl) rfl fun _ _ _ _ _ _=>LS.le_refl _ _
  notS:=fun l b hb hs=>hs.elim (h.notS l b hb) fun ht=>(hT b ht).2.2 l hb
  sB:=fun b hb=>hb.elim (h.sB b) fun ht=>⟨(hT b ht).1,.inl (hT b ht).2.1⟩
  kon:=h.kon.mono (fun _ _=>rfl) fun _ h=>.inl h
  }
structure MatOk (B:Base) (N:Nat) (φ φ':Nat→LS) (fp fp':Nat→List Nat) (S:Nat→Prop) (ts:Env) (m m':Mem) (a:Act) (w:World) (fs:List Nat):Prop where
 rs:RS B N φ' fp' S ts m' a w
 fps:∀l b,b∈fp' l→b∈fp l∨b∈fs
 rv:∀z u,RV w S φ z u→(∀l ver,(l,ver)∈labs z→known m l ver)→RV w S φ' z u
 kn:∀l ver,known m l ver→known m' l ver
theorem MatOk.refl (h:RS B N φ fp S ts m a w) (fs:List Nat):MatOk B N φ φ fp fp S ts m m a w fs:=⟨h,fun _ _ h=>.inl h,fun _ _ h _=>h,fun _ _ h=>h⟩
theorem matL_out (h:RS B N φ fp S ts m a w) {x:AV} {v:Value} {fs:List Nat} (hx:Own w (fun _=>False) x v fs) (hlf:leaf x) (hnd:fs.Nodup) (hfr:∀b,b∈fs→B.w0.heap.size≤b∧¬S b∧∀l,b∉fp l)
 (l:Nat) {k:AV→Mem→Prop} (hk:sMatL l x m k):
 ∃φ' fp' y m',MatOk B N φ φ' fp fp' S ts m m' a w fs∧k y m'∧leaf y∧RV w S φ' y v∧∀l ver,(l,ver)∈labs y→known m' l ver:=by
 have other:(∀sh xs,x≠ .arr sh xs)→k x m→∃φ' fp' y m',MatOk B N φ φ' fp fp' S ts m m' a w fs∧k y m'∧leaf y∧RV w S φ' y v∧∀l ver,(l,ver)∈labs y→known m' l ver:=by
  intro hna hk
  have hrd:Rd w (fun _=>False) x v:=by
   cases hx with
   |rd _ _ h=>exact h
   |arr=>exact absurd rfl (hna _ _)
   |agg=>exact hlf.elim
   |tup=>exact hlf.elim
  exact ⟨φ,fp,x,m,MatOk.refl h fs,hk,hlf,.rd _ _ (hrd.mono (fun _ _=>rfl) fun _ h=>h.elim),fun l ver hl=>by rw [labs_rd hrd] at hl;cases hl⟩
 cases x with
 |arr sh xs=>
  have hres:∀(x':LS) (fs':List Nat),(∀b,b∈fs'→b∈fs)→(∀ver,known m l ver→LS.le x' (φ l) ver)→fs'.Nodup→
   BR w S (upd φ l x') l fs' (.row (newVer m l) sh true xs)→RV w S (upd φ l x') (.ref l (newVer m l) 0 xs.length) v→
   ∃φ' fp' y m',MatOk B N φ φ' fp fp' S ts m m' a w fs∧k y m'∧leaf y∧RV w S φ' y v∧∀l ver,(l,ver)∈labs y→known m' l ver:=by
   intro x' fs' hsub hle hnd' hbr hrv
   have hRS:=h.next l x' fs' S (.row (newVer m l) sh true xs) (q22 _) (SameOut.refl _) (Szs.refl _) (fun _ _ _=>rfl) (fun b hb=>⟨hb,rfl⟩) (fun b h1 h2=>absurd h1 h2) (fun l b sh ver cs e _ hb=>⟨cs,e,hb,rfl⟩) (fun _ _ _ _=>rfl)
    hle (fun ver hv=>Nat.le_of_lt (known_lt hv)) hbr (fun _ _ hx=>by cases hx) hnd' (fun b hb=>⟨(hfr b (hsub b hb)).2.1,fun l' _=>(hfr b (hsub b hb)).2.2 l',hx.lt b (hsub b hb),.inl (hfr b (hsub b hb)).1⟩)
   have hkn:∀l' ver,known m l' ver→known ((l,.row (newVer m l) sh true xs)::m) l' ver:=by
    intro l' ver hkk
    by_cases e:l=l'
    · subst e;exact ⟨.row (newVer m l) sh true xs,by simp [lookB_cons],Nat.le_of_lt (known_lt hkk)⟩
    · obtain ⟨k',h1,h2⟩:=hkk
      exact ⟨k',by simp [lookB_cons,e,h1],h2⟩
   refine ⟨_,_,.ref l (newVer m l) 0 xs.length,_,⟨hRS,?_,?_,hkn⟩,hk,trivial,hrv,?_⟩
   · intro l' b hb
     by_cases e:l'=l
     · subst e;rw [upd_same] at hb;exact .inr (hsub b hb)
     · rw [upd_other _ _ _ _ e] at hb;exact .inl hb
   · intro z u hz hl
     refine hz.mono (fun _ _=>rfl) (fun _ h=>h) (fun l b sh ver cs e _ hb=>⟨cs,e,hb,rfl⟩) fun l' ver hl'=> ?_
     by_cases e:l'=l
     · subst e;rw [upd_same];exact hle ver (hl _ ver hl')
     · rw [upd_other _ _ _ _ e];exact LS.le_refl _ _
   · intro l' ver hl
     simp only [labs,q16,Prod.mk.injEq] at hl
     obtain ⟨rfl,rfl⟩:=hl
     exact ⟨_,by simp [lookB_cons];rfl,q22 _⟩
  cases hx with
  |rd _ _ hrd=>
   cases hrd with
   |nil _ ad=>
    refine hres (.nil (newVer m l)) [] (by simp) (fun ver hv=>⟨fun _ _ h=>(by cases h),fun hh=> ?_⟩) (by simp) (.inl ⟨upd_same _ _ _,rfl,rfl⟩) ?_
    · injection hh with hh;exact absurd (known_lt hv) (by omega)
    · refine .ref _ _ _ _ _ (fun b' sh' hb'=> ?_) (fun _=>⟨rfl,ad,rfl⟩) rfl
      rw [upd_same] at hb';cases hb'
   |arr _ _ b off cap cs e fr hS=>exact hS.elim
  |arr _ _ b cap cs e fss hb hc hl hm hf hs hv=>
   refine hres (.at b sh (newVer m l)) (b::fss.flatten) (fun _ h=>h) (fun ver hkk=>LS.le_newer _ _ _ _ _ (known_lt hkk)) hnd (.inr ⟨b,cap,upd_same _ _ _,q15 ..,by simp,.arr sh xs b cap cs e fss hb hc hl hm hf hs hv⟩) ?_
   refine .ref _ _ _ _ _ (fun b' sh' hb'=> ?_) (fun hb'=> ?_) rfl
   · rw [upd_same] at hb';cases hb'
     exact ⟨_,cap,rfl,hl,.inr ⟨by simp,cs,e,hb,by rw [hc,q28]⟩⟩
   · rw [upd_same] at hb';cases hb'
 |_=>exact other (fun _ _ e=>by cases e) hk
theorem fss_cons {fss:List (List Nat)} {f:List Nat} (h:(f::fss).flatten.Nodup):f.Nodup∧fss.flatten.Nodup∧∀b,b∈f→b∉fss.flatten:=by
 rw [List.flatten_cons] at h
 exact ⟨(List.nodup_append.1 h).1,(List.nodup_append.1 h).2.1,fun b h1 h2=>(List.nodup_append.1 h).2.2 b h1 b h2 rfl⟩
theorem mats_gen {one:Nat→AV→Mem→(AV→Mem→Prop)→Prop} {ok:AV→Prop} {step:Nat}
 (hone:∀(φ:Nat→LS) (fp:Nat→List Nat) (m:Mem),RS B N φ fp S ts m a w→∀(x:AV) (v:Value) (fs:List Nat),Own w (fun _=>False) x v fs→ok x→fs.Nodup→(∀b,b∈fs→B.w0.heap.size≤b∧¬S b∧∀l,b∉fp l)→
   ∀(l:Nat) (k:AV→Mem→Prop),one l x m k→∃φ' fp' y m',MatOk B N φ φ' fp fp' S ts m m' a w fs∧k y m'∧ok y∧RV w S φ' y v∧∀l ver,(l,ver)∈labs y→known m' l ver)
 {Q:List AV→Mem→Prop} {many:Nat→List AV→Mem→List AV→Prop} (hnil:∀l acc m,many l acc m []→Q acc.reverse m) (hcons:∀l acc m x r,many l acc m (x::r)→one l x m fun y m'=>many (l+step) (y::acc) m' r):
 ∀(xs:List AV) (vs:List Value) (fss:List (List Nat)) (l:Nat) (acc:List AV) (va:List Value) (φ:Nat→LS) (fp:Nat→List Nat) (m:Mem),RS B N φ fp S ts m a w→
  vs.length=xs.length→fss.length=xs.length→(∀i (h:i<xs.length),Own w (fun _=>False) xs[i] (vs.getD i Go.undef) (fss.getD i []))→(∀i (h:i<xs.length),ok xs[i])→
  fss.flatten.Nodup→(∀b,b∈fss.flatten→B.w0.heap.size≤b∧¬S b∧∀l,b∉fp l)→
  RdL (fun x v=>ok x∧RV w S φ x v∧∀l ver,(l,ver)∈labs x→known m l ver) acc.reverse va→many l acc m xs→
  ∃φ' fp' m' ys,RS B N φ' fp' S ts m' a w∧(∀l b,b∈fp' l→b∈fp l∨b∈fss.flatten)∧(∀z u,RV w S φ z u→(∀l ver,(l,ver)∈labs z→known m l ver)→RV w S φ' z u)∧(∀l ver,known m l ver→known m' l ver)∧
   Q ys m'∧RdL (fun x v=>ok x∧RV w S φ' x v∧∀l ver,(l,ver)∈labs x→known m' l ver) ys (va++vs)
 | [],vs,fss,l,acc,va,φ,fp,m,h,hv,_,_,_,_,_,ha,hk=>by
   have:vs=[]:=q1 hv
   subst this
   exact ⟨φ,fp,m,_,h,fun _ _ h=>.inl h,fun _ _ h _=>h,fun _ _ h=>h,hnil l acc m hk,by simpa using ha⟩
 |x::xs,vs,fss,l,acc,va,φ,fp,m,h,hv,hf,ho,hok,hnd,hfr,ha,hk=>by
  cases vs with
  |nil=>simp at hv
  |cons v vs=>
   cases fss with
   |nil=>simp at hf
   |cons f fss=>
    obtain ⟨n1,n2,n3⟩:=fss_cons hnd
    have ho0:=ho 0 (by simp)
    obtain ⟨φ1,fp1,y,m1,hm,hk1,hy1,hy2,hy3⟩:=hone φ fp m h x v f ho0 (hok 0 (by simp)) n1 (fun b hb=>hfr b (by simp [hb])) l _ (hcons l acc m x xs hk)
    have ha1:RdL (fun x v=>ok x∧RV w S φ1 x v∧∀l ver,(l,ver)∈labs x→known m1 l ver) (y::acc).reverse (va++[v]):=by
     rw [List.reverse_cons]
     refine RdL.snoc ⟨ha.1,fun i hi=> ?_⟩ ⟨hy1,hy2,hy3⟩
     obtain ⟨q1,q2,q3⟩:=ha.2 i hi
     exact ⟨q1,hm.rv _ _ q2 q3,fun l ver hl=>hm.kn l ver (q3 l ver hl)⟩
    obtain ⟨φ2,fp2,m2,ys,g1,g2,g3,g4,g5,g6⟩:=mats_gen hone hnil hcons xs vs fss (l+step) (y::acc) (va++[v]) φ1 fp1 m1 hm.rs (by simpa using hv) (by simpa using hf)
     (fun i hi=>by have:=ho (i+1) (by simpa using hi);exact this) (fun i hi=>by have:=hok (i+1) (by simpa using hi);exact this) n2
     (fun b hb=>by
       obtain ⟨q1,q2,q3⟩:=hfr b (by simp only [List.flatten_cons,List.mem_append];exact .inr hb)
       refine ⟨q1,q2,fun l hl=> ?_⟩
       rcases hm.fps l b hl with hh|hh
       · exact q3 l hh
       · exact n3 b hh hb) ha1 hk1
    refine ⟨φ2,fp2,m2,ys,g1,fun l b hb=> ?_,fun z u hz hl=>g3 z u (hm.rv z u hz hl) fun l ver h=>hm.kn l ver (hl l ver h),fun l ver h=>g4 l ver (hm.kn l ver h),g5,by simpa using g6⟩
    rcases g2 l b hb with hh|hh
    · rcases hm.fps l b hh with h3|h3
      · exact .inl h3
      · exact .inr (by simp [h3])
    · exact .inr (by simp only [List.flatten_cons,List.mem_append];exact .inr hh)
theorem own_agg {S:Nat→Prop} {xs:List AV} {v:Value} {fs:List Nat} (h:Own w S (.agg xs) v fs):∃(cs:Array Value) (fss:List (List Nat)),v= .agg cs∧fs=fss.flatten∧cs.size=xs.length∧(∀i (h:i<xs.length),leaf xs[i])∧fss.length=xs.length∧
 ∀i (h:i<xs.length),Own w S xs[i] (cs.toList.getD i Go.undef) (fss.getD i []):=by
 cases h with
 |rd _ _ h=>
  obtain ⟨cs,rfl,h1,h2,h3⟩:=rd_agg h
  refine ⟨cs,List.replicate xs.length [],rfl,(q3.2 fun l hl=>(List.mem_replicate.1 hl).2).symm,h1,h2,by simp,fun i hi=> ?_⟩
  rw [show (List.replicate xs.length ([]:List Nat)).getD i []=[] by simp [q4,hi]]
  exact .rd _ _ (h3 i hi)
 |agg _ cs fss h1 h2 h3 h4=>exact ⟨cs,fss,rfl,rfl,h1,h2,h3,h4⟩
theorem own_tup {S:Nat→Prop} {xs:List AV} {v:Value} {fs:List Nat} (h:Own w S (.tup xs) v fs):∃(cs:Array Value) (fss:List (List Nat)),v= .tuple cs∧fs=fss.flatten∧cs.size=xs.length∧fss.length=xs.length∧
 ∀i (h:i<xs.length),Own w S xs[i] (cs.toList.getD i Go.undef) (fss.getD i []):=by
 cases h with
 |rd _ _ h=>
  cases h with
  |tup _ cs h1 h3=>
  refine ⟨cs,List.replicate xs.length [],rfl,(q3.2 fun l hl=>(List.mem_replicate.1 hl).2).symm,h1,by simp,fun i hi=> ?_⟩
  rw [show (List.replicate xs.length ([]:List Nat)).getD i []=[] by simp [q4,hi]]
  exact .rd _ _ (h3 i hi)
 |tup _ cs fss h1 h3 h4=>exact ⟨cs,fss,rfl,rfl,h1,h3,h4⟩
theorem matA_out (h:RS B N φ fp S ts m a w) {x:AV} {v:Value} {fs:List Nat} (hx:Own w (fun _=>False) x v fs) (hnd:fs.Nodup) (hfr:∀b,b∈fs→B.w0.heap.size≤b∧¬S b∧∀l,b∉fp l)
 (l:Nat) {k:AV→Mem→Prop} (hk:sMatA l x m k) (hnt:∀xs,x≠ .tup xs):
 ∃φ' fp' y m',MatOk B N φ φ' fp fp' S ts m m' a w fs∧k y m'∧RV w S φ' y v∧∀l ver,(l,ver)∈labs y→known m' l ver:=by
 have fin:leaf x→sMatL l x m k→∃φ' fp' y m',MatOk B N φ φ' fp fp' S ts m m' a w fs∧k y m'∧RV w S φ' y v∧∀l ver,(l,ver)∈labs y→known m' l ver:=by
  intro hlf hk
  obtain ⟨φ',fp',y,m',g1,g2,_,g3,g4⟩:=matL_out h hx hlf hnd hfr l hk
  exact ⟨φ',fp',y,m',g1,g2,g3,g4⟩
 cases x with
 |agg xs=>
  obtain ⟨cs,fss,rfl,rfl,h1,h2,h3,h4⟩:=own_agg hx
  obtain ⟨φ',fp',m',ys,g1,g2,g3,g4,g5,g6⟩:=mats_gen (one:=sMatL) (ok:=leaf) (step:=1) (Q:=fun ys m'=>k (.agg ys) m') (many:=fun l acc m xs=>sMats (fun ys m'=>k (.agg ys) m') l acc m xs)
   (fun φ fp m hRS x v fs ho hlf hn hf l k hk=>matL_out hRS ho hlf hn hf l hk) (fun _ _ _ h=>h) (fun _ _ _ _ _ h=>h) xs cs.toList fss l [] [] φ fp m h (by simpa using h1) h3 h4 h2 hnd hfr ⟨rfl,fun i hi=>absurd hi (q27 _)⟩ hk
  refine ⟨φ',fp',.agg ys,m',⟨g1,g2,g3,g4⟩,g5,.agg ys cs (by simpa using g6.1) (fun i hi=>(g6.2 i hi).1) (fun i hi=>(g6.2 i hi).2.1),?_⟩
  intro l ver hl
  obtain ⟨i,hi,hl'⟩:=of_mem_labsL (by simpa [labs] using hl)
  exact (g6.2 i hi).2.2 l ver hl'
 |tup xs=>exact absurd rfl (hnt xs)
 |undef=>
  cases hx with
  |rd _ _ hr=>exact ⟨φ,fp,.undef,m,MatOk.refl h _,hk,.rd _ _ (.undef _),fun _ _ hl=>by cases hl⟩
 |_=>exact fin trivial hk
theorem mat_out (h:RS B N φ fp S ts m a w) {x:AV} {v:Value} {fs:List Nat} (hx:Own w (fun _=>False) x v fs) (hnd:fs.Nodup) (hfr:∀b,b∈fs→B.w0.heap.size≤b∧¬S b∧∀l,b∉fp l)
 (l:Nat) {k:AV→Mem→Prop} (hk:sMat l x m k):
 ∃φ' fp' y m',MatOk B N φ φ' fp fp' S ts m m' a w fs∧k y m'∧RV w S φ' y v∧∀l ver,(l,ver)∈labs y→known m' l ver:=by
 cases x with
 |tup xs=>
  obtain ⟨cs,fss,rfl,rfl,h1,h3,h4⟩:=own_tup hx
  simp only [sMat] at hk
  obtain ⟨φ',fp',m',ys,g1,g2,g3,g4,g5,g6⟩:=mats_gen (one:=sMatA) (ok:=fun _=>True) (step:=16) (Q:=fun ys m'=>k (.tup ys) m') (many:=fun l acc m xs=>sMatTs (fun ys m'=>k (.tup ys) m') l acc m xs)
   (fun φ fp m hRS x v fs ho _ hn hf l k hk=>by
     by_cases hnt:∃zs,x= .tup zs
     · obtain ⟨zs,rfl⟩:=hnt
       exact hk.elim
     · obtain ⟨φ',fp',y,m',q1,q2,q3,q4⟩:=matA_out hRS ho hn hf l hk fun zs e=>hnt ⟨zs,e⟩
       exact ⟨φ',fp',y,m',q1,q2,trivial,q3,q4⟩) (fun _ _ _ h=>h) (fun _ _ _ _ _ h=>h) xs cs.toList fss l [] [] φ fp m h (by simpa using h1) h3 h4 (fun _ _=>trivial) hnd hfr ⟨rfl,fun i hi=>absurd hi (q27 _)⟩ hk
  refine ⟨φ',fp',.tup ys,m',⟨g1,g2,g3,g4⟩,g5,.tup ys cs (by simpa using g6.1) (fun i hi=>(g6.2 i hi).2.1),?_⟩
  intro l ver hl
  obtain ⟨i,hi,hl'⟩:=of_mem_labsL (by simpa [labs] using hl)
  exact (g6.2 i hi).2.2 l ver hl'
 |_=>exact matA_out h hx hnd hfr l hk (fun _ e=>by cases e)
end
end Go.Vc
