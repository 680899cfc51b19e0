import Derived.WalkKit
open Go renaming undef → uD
set_option linter.unusedVariables false
set_option linter.unusedSimpArgs false
set_option linter.unnecessarySimpa false
set_option maxRecDepth 1000000
set_option maxHeartbeats 16000000
open Array renaming length_toList->q0
open List renaming flatten_append->q1,flatten_eq_nil_iff->q2,getD_eq_getElem?_getD->q3,getElem?_eq_getElem->q4,getElem?_eq_some_iff->q5,getElem_drop->q6,getElem_set->q7,getElem_take->q8,length_drop->q9,length_set->q10,length_take->q11,mem_cons_of_mem->q12,mem_cons_self->q13,nodup_cons->q14,replicate->q15,sublist_append_left->q16,take_append_drop->q17,take_zero->q18
open Nat renaming add_mul->q19,le_refl->q20,lt_irrefl->q21,lt_of_lt_of_le->q22,mul_le_mul_right->q23,mul_one->q24,not_lt_zero->q25,zero_add->q26,zero_mul->q27
namespace Go.Vc
abbrev lO:=List Operand
abbrev lV:=List Value
abbrev nP:=Nat->Prop
abbrev nN:=Nat->List Nat
abbrev pR:=Program
abbrev fI:=FuncId
abbrev lL:=List (List Int)
abbrev lI:=List Int
abbrev lN:=List Nat
abbrev lU:=List UInt8
abbrev aV:=Array Value
theorem dF {p:Prop}[Decidable p](h:¬p):decide p=false:=@decide_eq_false p _ h
theorem dT {p:Prop}[Decidable p](h:p):decide p=true:=@decide_eq_true p _ h
theorem oT {p:Prop}[Decidable p](h:decide p=true):p:=@of_decide_eq_true p _ h
structure Sh where
 sz:Nat
 ag:Bool
inductive AV where
 |undef
 |val (v:Value)
 |e0
 |arr (sh:Sh) (xs:List AV)
 |agg (xs:List AV)
 |aX (xs:List AV)
 |ref (l af i n:Nat)
 |ptr (l af i j:Nat)
 |bo (sh:Sh) (xs:List AV) (i j:Nat)
 |cn (f:FuncId) (caps:List AV)
abbrev lA:=List AV
def leaf:AV->Prop
 | .undef| .agg _| .aX _=>False
 |_=>True
def fits (sh:Sh):AV->Prop
 | .agg ys=>sh.ag=true/\ys.length=sh.sz
 | .undef| .aX _=>False
 |_=>sh.ag=false/\sh.sz=1
def elemV (cs:lV)(o:Nat)(sh:Sh):Value:=
 if sh.ag then .agg ((cs.drop o).take sh.sz).toArray else cs.getD o uD
inductive Rd (w:World) (S:Nat->Prop):AV->Value->Prop
 |undef (v:Value):Rd w S .undef v
 |val (v:Value) (h:v.oneCell'=true):Rd w S (.val v) v
 |e0 (a:Option Addr):Rd w S .e0 (.slice a 0 0)
 |nil (sh:Sh) (a:Option Addr):Rd w S (.arr sh []) (.slice a 0 0)
 |arr (sh:Sh) (xs:List AV) (b off cap:Nat) (cs:Array Value) (e:TypeId) (fr:Nat × Nat) (hS:S b) (hb:w.heap[b]? =some (.cells cs e fr)) (b_:xs.length<=cap)
   (hl:off+xs.length*sh.sz<=cs.size) (hf:∀i (h:i<xs.length),fits sh xs[i])
   (hv:∀i (h:i<xs.length),Rd w S xs[i] (elemV cs.toList (off+i*sh.sz) sh)):Rd w S (.arr sh xs) (.slice (some ⟨b,off,none⟩) xs.length cap)
 |agg (xs:List AV) (cs:Array Value) (hl:cs.size=xs.length) (hf:∀i (h:i<xs.length),leaf xs[i])
   (hv:∀i (h:i<xs.length),Rd w S xs[i] (cs.toList.getD i uD)):Rd w S (.agg xs) (.agg cs)
 |aX (xs:List AV) (cs:Array Value) (hl:cs.size=xs.length)
   (hv:∀i (h:i<xs.length),Rd w S xs[i] (cs.toList.getD i uD)):Rd w S (.aX xs) (.tuple cs)
 |bo (sh:Sh) (xs:List AV) (i j b off:Nat) (cs:Array Value) (e:TypeId) (fr:Nat × Nat) (hS:S b) (hb:w.heap[b]? =some (.cells cs e fr))
   (hl:off+xs.length*sh.sz<=cs.size) (hf:∀i (h:i<xs.length),fits sh xs[i])
   (hv:∀i (h:i<xs.length),Rd w S xs[i] (elemV cs.toList (off+i*sh.sz) sh)):Rd w S (.bo sh xs i j) (.pointer (some ⟨b,off+i*sh.sz+j,none⟩))
 |cn (f:FuncId) (xs:List AV) (cs:Array Value) (hl:cs.size=xs.length)
   (hv:∀i (h:i<xs.length),Rd w S xs[i] (cs.toList.getD i uD)):Rd w S (.cn f xs) (.func (.func f) #[] cs)
theorem Rd.mono {w w':World}{S S':nP}(hw:∀b,S b->w'.heap[b]? =w.heap[b]?)(hS:∀b,S b->S' b){x:AV}{v:Value}(h:Rd w S x v):Rd w' S' x v:=by
 induction h with
 |undef v=>exact .undef v
 |val v h=>exact .val v h
 |e0 a=>exact .e0 a
 |nil sh a=>exact .nil sh a
 |arr sh xs b off cap cs e fr hb hh b_ hl hf _ ih=>exact .arr sh xs b off cap cs e fr (hS b hb) ((hw b hb).trans hh) b_ hl hf ih
 |agg xs cs hl hf _ ih=>exact .agg xs cs hl hf ih
 |aX xs cs hl _ ih=>exact .aX xs cs hl ih
 |bo sh xs i j b off cs e fr hb hh hl hf _ ih=>exact .bo sh xs i j b off cs e fr (hS b hb) ((hw b hb).trans hh) hl hf ih
 |cn f xs cs hl _ ih=>exact .cn f xs cs hl ih
theorem Rd.aW {w:World}{S:nP}{x:AV}{v:Value}(h:Rd w S x v)(hx:leaf x):v.oneCell'=true:=by cases h<;>first|rfl|assumption|exact hx.elim
abbrev El:=TypeId × Bool
def ou (e:El)(n:Nat):Nat × Nat:=match e with
 |(_,true)=>(n,n+1)
 |(_,false)=>(0,0)
abbrev eA (cs:aV)(e:El):Obj:=.cells cs e.1 (ou e cs.size)
theorem Ky (e:El){n o:Nat}(h:o<n):(decide ((ou e n).1<=o)&&decide (o<(ou e n).2))=false:=by
 obtain ⟨e,b⟩:=e;cases b
 . simp[ou]
 refine Bool.and_eq_false_iff.2 (.inl (decide_eq_false ?_));show ¬n<=o;omega
theorem Kz {w:World}{b o:Nat}{cs:aV}{e:El}(hb:w.heap[b]? =some (eA cs e)):w.cell? ⟨b,o,none⟩=cs[o]? :=by simp[World.cell?,hb]
theorem ml {w:World}{b o:Nat}{cs:aV}{e:El}(hb:w.heap[b]? =some (eA cs e))(h:o<cs.size):w.frozen? ⟨b,o,none⟩=false:=by simp only[World.frozen?,hb];exact Ky e h
inductive Own (w:World) (S:Nat->Prop):AV->Value->List Nat->Prop
 |rd (x:AV) (v:Value) (h:Rd w S x v):Own w S x v []
 |arr (sh:Sh) (xs:List AV) (b cap:Nat) (cs:Array Value) (e:El) (fss:List (List Nat)) (hb:w.heap[b]? =some (eA cs e))
   (hc:cs.size=cap*sh.sz) (hl:xs.length<=cap) (hm:cap<=maxLen) (hf:∀i (h:i<xs.length),fits sh xs[i]) (hs:fss.length=xs.length)
   (hv:∀i (h:i<xs.length),Own w S xs[i] (elemV cs.toList (i*sh.sz) sh) (fss.getD i [])):Own w S (.arr sh xs) (.slice (some ⟨b,0,none⟩) xs.length cap) (b::fss.flatten)
 |agg (xs:List AV) (cs:Array Value) (fss:List (List Nat)) (hl:cs.size=xs.length) (hf:∀i (h:i<xs.length),leaf xs[i]) (hs:fss.length=xs.length)
   (hv:∀i (h:i<xs.length),Own w S xs[i] (cs.toList.getD i uD) (fss.getD i [])):Own w S (.agg xs) (.agg cs) fss.flatten
 |aX (xs:List AV) (cs:Array Value) (fss:List (List Nat)) (hl:cs.size=xs.length) (hs:fss.length=xs.length)
   (hv:∀i (h:i<xs.length),Own w S xs[i] (cs.toList.getD i uD) (fss.getD i [])):Own w S (.aX xs) (.tuple cs) fss.flatten
theorem aK {fss:List lN}{i b:Nat}(h:i<fss.length)(hb:b∈fss.getD i []):b∈fss.flatten:=by rw[List.mem_flatten];refine ⟨fss.getD i [],?_,hb⟩;rw[q3,q4 h];exact List.getElem_mem h
theorem Own.mono {w w':World}{S S':nP}(hw:∀b,S b->w'.heap[b]? =w.heap[b]?)(hS:∀b,S b->S' b){x:AV}{v:Value}{fs:lN}(h:Own w S x v fs)
 (hfs:∀b,b∈fs->w'.heap[b]? =w.heap[b]?):Own w' S' x v fs:=by
 induction h with
 |rd x v h=>exact .rd x v (h.mono hw hS)
 |arr sh xs b cap cs e fss hb hc hl hm hf hs _ ih=>
  exact .arr sh xs b cap cs e fss ((hfs b (q13 ..)).trans hb) hc hl hm hf hs
   λi h=>ih i h λb' hb'=>hfs b' (q12 _ (aK (hs▸h) hb'))
 |agg xs cs fss hl hf hs _ ih=>exact .agg xs cs fss hl hf hs λi h=>ih i h λb' hb'=>hfs b' (aK (hs▸h) hb')
 |aX xs cs fss hl hs _ ih=>exact .aX xs cs fss hl hs λi h=>ih i h λb' hb'=>hfs b' (aK (hs▸h) hb')
theorem Own.mm {w:World}{S S':nP}(hS:∀b,S b->S' b){x:AV}{v:Value}{fs:lN}(h:Own w S x v fs)(hfs:∀b,b∈fs->S' b):Rd w S' x v:=by
 induction h with
 |rd x v h=>exact h.mono (λ_ _=>rfl) hS
 |arr sh xs b cap cs e fss hb hc hl hm hf hs _ ih=>
  refine .arr sh xs b 0 cap cs e.1 (ou e cs.size) (hfs b (q13 ..)) hb hl ?_ hf ?_
  . rw[hc,q26];exact q23 _ hl
  intro i h;rw[q26];exact ih i h λb' hb'=>hfs b' (q12 _ (aK (hs▸h) hb'))
 |agg xs cs fss hl hf hs _ ih=>exact .agg xs cs hl hf λi h=>ih i h λb' hb'=>hfs b' (aK (hs▸h) hb')
 |aX xs cs fss hl hs _ ih=>exact .aX xs cs hl λi h=>ih i h λb' hb'=>hfs b' (aK (hs▸h) hb')
theorem Own.aW {w:World}{S:nP}{x:AV}{v:Value}{fs:lN}(h:Own w S x v fs)(hx:leaf x):v.oneCell'=true:=by
 cases h with
 |rd _ _ h=>exact h.aW hx
 |arr=>rfl
 |agg=>exact hx.elim
 |aX=>exact hx.elim
theorem Own.lt {w:World}{S:nP}{x:AV}{v:Value}{fs:lN}(h:Own w S x v fs):∀b,b∈fs->b<w.heap.size:=by
 have key:∀(fss:List lN)(n:Nat),fss.length=n->(∀i,i<n->∀b,b∈fss.getD i []->b<w.heap.size)->∀b,b∈fss.flatten->b<w.heap.size:=by intro fss n hn hh b hb;obtain ⟨l,hl,hbl⟩:=List.mem_flatten.1 hb;obtain ⟨i,hi,rfl⟩:=List.getElem_of_mem hl;refine hh i (hn▸hi) b ?_;rw[q3,q4 hi];exact hbl
 induction h with
 |rd x v h=>intro b hb;cases hb
 |arr sh xs b cap cs e fss hb hc hl hm hf hs _ ih=>
  intro b' hb';rcases List.mem_cons.1 hb' with rfl|hb'
  . exact (Array.getElem?_eq_some_iff.1 hb).1
  exact key fss xs.length hs ih b' hb'
 |agg xs cs fss hl hf hs _ ih=>exact key fss xs.length hs ih
 |aX xs cs fss hl hs _ ih=>exact key fss xs.length hs ih
structure a7 (w w':World):Prop where
 os:w'.os=w.os
 tape:w'.tape=w.tape
 output:w'.output=w.output
theorem a7.refl (w:World):a7 w w:=⟨rfl,rfl,rfl⟩
theorem a7.trans {a b c:World}(h:a7 a b)(h':a7 b c):a7 a c:=⟨h'.os.trans h.os,h'.tape.trans h.tape,h'.output.trans h.output⟩
def jI (w w':World):Prop:=∀(b:Nat)(cs:aV)(e:El),w.heap[b]? =some (eA cs e)->∃(cs':aV) (e':El),w'.heap[b]? =some (eA cs' e')/\cs'.size=cs.size
theorem jI.refl (w:World):jI w w:=λ_ cs e h=>⟨cs,e,h,rfl⟩
theorem jI.trans {a b c:World}(h:jI a b)(h':jI b c):jI a c:=λx cs e hx=>by obtain ⟨cs',e',h1,h2⟩:=h x cs e hx;obtain ⟨cs2,e2,h3,h4⟩:=h' x cs' e' h1;exact ⟨cs2,e2,h3,h4.trans h2⟩
theorem jI.of_same {w w':World}(h:∀b:Nat,b<w.heap.size->w'.heap[b]? =w.heap[b]?):jI w w':=λb cs e hb=>
 ⟨cs,e,(h b (Array.getElem?_eq_some_iff.1 hb).1).trans hb,rfl⟩
structure Grown (w w':World):Prop where
 size:w.heap.size<=w'.heap.size
 same:∀b,b<w.heap.size->w'.heap[b]? =w.heap[b]?
 out:a7 w w'
theorem Grown.refl (w:World):Grown w w:=⟨q20 _,λ_ _=>rfl,a7.refl w⟩
def Rr (cs:aV):Prop:=∃m,cs= #[.int .i64 m]
def Rs (cs:aV):Prop:=cs=((List.range 20).map λi=>Value.int .u64 ((10^i:Nat):Int)).toArray
def NA (cs:aV):Prop:=∃t p,cs= #[.iface t p]
def DZ:List (Nat × (aV->Prop)):=[(0,Rr),(5,Rs),(1,NA),(2,NA)]
def KA (w:World)(S:nP):Prop:=∀g p,(g,p)∈DZ->S g/\∃cs e fr,w.heap[g]? =some (.cells cs e fr)/\p cs
theorem KA.mono {w w':World}{S S':nP}(h:KA w S)(hw:∀b,S b->w'.heap[b]? =w.heap[b]?)(hS:∀b,S b->S' b):KA w' S':=λg p hg=>by obtain ⟨h1,cs,e,fr,h2,h3⟩:=h g p hg;exact ⟨hS g h1,cs,e,fr,(hw g h1).trans h2,h3⟩
inductive bf where
 |gone (af:Nat)
 |box (af:Nat) (xs:List AV)
 |row (af:Nat) (sh:Sh) (deep:Bool) (xs:List AV)
 |ke (af:Nat) (xs:List AV) (i:Nat) (u:Value)
 |sub (af:Nat) (sh:Sh) (xs:List AV) (u:Value)
def bf.af:bf->Nat
 | .gone v=>v
 | .box v _=>v
 | .row v _ _ _=>v
 | .ke v _ _ _=>v
 | .sub v _ _ _=>v
abbrev Env:=List (Nat × AV)
abbrev Mem:=List (Nat × bf)
def look:Env->Nat->AV
 | [],_=>.undef
 |(k,v)::r,t=>if k=t then v else look r t
def ah:Mem->Nat->Option bf
 | [],_=>none
 |(k,v)::r,t=>if k=t then some v else ah r t
theorem look_nil (t:Nat):look [] t= .undef:=rfl
theorem cN (k:Nat)(v:AV)(r:Env)(t:Nat):look ((k,v)::r) t=if k=t then v else look r t:=rfl
theorem tn (t:Nat):ah [] t=none:=rfl
theorem aw (k:Nat)(v:bf)(r:Mem)(t:Nat):ah ((k,v)::r) t=if k=t then some v else ah r t:=rfl
mutual
def ao:AV->List (Nat × Nat)
 | .ref l af _ _=>[(l,af)]
 | .ptr l af _ _=>[(l,af)]
 | .agg xs=>aq xs
 | .aX xs=>aq xs
 | .cn _ xs=>aq xs
 |_=>[]
def aq:lA->List (Nat × Nat)
 | []=>[]
 |x::r=>ao x++aq r
end
theorem bq {xs:lA}{l:Nat × Nat}{i:Nat}(h:i<xs.length)(hl:l∈ao xs[i]):l∈aq xs:=by
 induction xs generalizing i with
 |nil=>exact absurd h (q25 _)
 |cons x r ih=>
  simp only[aq,List.mem_append];cases i with
  |zero=>exact .inl hl
  |succ i=>exact .inr (ih (i:=i) (by simpa using h) (by simpa using hl))
theorem bM {xs:lA}{l:Nat × Nat}(hl:l∈aq xs):∃i,∃h:i<xs.length,l∈ao xs[i]:=by
 induction xs with
 |nil=>exact absurd hl List.not_mem_nil
 |cons x r ih=>
  simp only[aq,List.mem_append] at hl;rcases hl with hl|hl
  . exact ⟨0,by simp,hl⟩
  obtain ⟨i,hi,h⟩:=ih hl;exact ⟨i+1,by simpa using hi,by simpa using h⟩
inductive LS where
 |dead
 |nil (af:Nat)
 |at (b:Nat) (sh:Sh) (af:Nat)
inductive RV (w:World) (S:Nat->Prop) (φ:Nat->LS):AV->Value->Prop
 |rd (x:AV) (v:Value) (h:Rd w S x v):RV w S φ x v
 |agg (xs:List AV) (cs:Array Value) (hl:cs.size=xs.length) (hf:∀i (h:i<xs.length),leaf xs[i])
   (hv:∀i (h:i<xs.length),RV w S φ xs[i] (cs.toList.getD i uD)):RV w S φ (.agg xs) (.agg cs)
 |aX (xs:List AV) (cs:Array Value) (hl:cs.size=xs.length)
   (hv:∀i (h:i<xs.length),RV w S φ xs[i] (cs.toList.getD i uD)):RV w S φ (.aX xs) (.tuple cs)
 |cn (f:FuncId) (xs:List AV) (cs:Array Value) (hl:cs.size=xs.length)
   (hv:∀i (h:i<xs.length),RV w S φ xs[i] (cs.toList.getD i uD)):RV w S φ (.cn f xs) (.func (.func f) #[] cs)
 |ref (l af i n:Nat) (v:Value)
   (h1:∀b sh,φ l= .at b sh af->∃a cap,v= .slice a n cap/\n<=cap/\(cap=0\/(a=some ⟨b,i*sh.sz,none⟩/\∃cs e,w.heap[b]? =some (eA cs e)/\cs.size=(i+cap)*sh.sz)))
   (h2:φ l= .nil af->n=0/\∃a,v= .slice a 0 0) (h3:v.oneCell'=true):RV w S φ (.ref l af i n) v
 |ptr (l af i j:Nat) (v:Value) (h1:∀b sh,φ l= .at b sh af->v= .pointer (some ⟨b,i*sh.sz+j,none⟩)) (h2:φ l≠ .nil af) (h3:v.oneCell'=true):RV w S φ (.ptr l af i j) v
theorem RV.aW {w:World}{S:nP}{φ:Nat->LS}{x:AV}{v:Value}(h:RV w S φ x v)(hx:leaf x):v.oneCell'=true:=by
 cases h with
 |rd _ _ h=>exact h.aW hx
 |agg=>exact hx.elim
 |aX=>exact hx.elim
 |cn=>rfl
 |ref _ _ _ _ _ _ _ h=>exact h
 |ptr _ _ _ _ _ _ _ h=>exact h
def fX (φ:Nat->LS)(w w':World):Prop:=
 ∀l b sh af cs e,φ l= .at b sh af->w.heap[b]? =some (eA cs e)->∃cs' e',w'.heap[b]? =some (eA cs' e')/\cs'.size=cs.size
def LS.le (x' x:LS)(af:Nat):Prop:=(∀b sh,x'= .at b sh af->x= .at b sh af)/\(x'= .nil af->x= .nil af)
theorem LS.le_refl (x:LS)(af:Nat):LS.le x x af:=⟨λ_ _ h=>h,λh=>h⟩
theorem LS.le_trans {x y z:LS}{af:Nat}(h:LS.le x y af)(h':LS.le y z af):LS.le x z af:=⟨λb sh e=>h'.1 b sh (h.1 b sh e),λe=>h'.2 (h.2 e)⟩
theorem LS.rK (x:LS)(af:Nat):LS.le .dead x af:=⟨λ_ _ h=>(by cases h),λh=>(by cases h)⟩
theorem LS.kJ (x:LS)(b:Nat)(sh:Sh)(v af:Nat)(h:af<v):LS.le (.at b sh v) x af:=
 ⟨λ_ _ h'=>(by cases h';exact absurd h (q21 _)),λh=>(by cases h)⟩
theorem RV.mono {w w':World}{S S':nP}{φ φ':Nat->LS}(hw:∀b,S b->w'.heap[b]? =w.heap[b]?)(hS:∀b,S b->S' b)(hz:fX φ w w')
 {x:AV} {v:Value} (h:RV w S φ x v) (hφ:∀l af,(l,af)∈ao x->LS.le (φ' l) (φ l) af):RV w' S' φ' x v:=by
 induction h with
 |rd x v h=>exact .rd x v (h.mono hw hS)
 |agg xs cs hl hf _ ih=>exact .agg xs cs hl hf λi h=>ih i h λl af hl=>hφ l af (by simp only[ao];exact bq h hl)
 |aX xs cs hl _ ih=>exact .aX xs cs hl λi h=>ih i h λl af hl=>hφ l af (by simp only[ao];exact bq h hl)
 |cn f xs cs hl _ ih=>exact .cn f xs cs hl λi h=>ih i h λl af hl=>hφ l af (by simp only[ao];exact bq h hl)
 |ref l af i n v h1 h2 h3=>
  have hp:=hφ l af (by simp[ao]);refine .ref l af i n v ?_ (λh=>h2 (hp.2 h)) h3;intro b sh hb;obtain ⟨a,cap,hv,hn,hc⟩:=h1 b sh (hp.1 _ _ hb);refine ⟨a,cap,hv,hn,hc.imp id ?_⟩;rintro ⟨ha,cs,e,hh,hs⟩;obtain ⟨cs',e',hh',hs'⟩:=hz l b sh af cs e (hp.1 _ _ hb) hh;exact ⟨ha,cs',e',hh',hs'.trans hs⟩
 |ptr l af i j v h1 h2 h3=>
  have hp:=hφ l af (by simp[ao]);exact .ptr l af i j v (λb sh h=>h1 b sh (hp.1 _ _ h)) (λh=>h2 (hp.2 h)) h3
def BR (w:World)(S:nP)(φ:Nat->LS)(l:Nat)(fs:lN):bf->Prop
 | .gone _=>φ l= .dead/\fs=[]
 | .row af sh deep xs=>(φ l= .nil af/\xs=[]/\fs=[])∨
    ∃b cap,φ l= .at b sh af/\b∈fs/\(deep=false->fs=[b])/\Own w (if deep then λ_=>False else S) (.arr sh xs) (.slice (some ⟨b,0,none⟩) xs.length cap) fs
 | .box af xs=>∃b cs e sh,φ l= .at b sh af/\fs=[b]/\w.heap[b]? =some (eA cs e)/\xs.length<=cs.size/\(∀i (h:i<xs.length),leaf xs[i])∧
    ∀i (h:i<xs.length),RV w S φ xs[i] (cs.toList.getD i uD)
 | .ke af xs i u=>∃b cap cs e fr,φ l= .at b ⟨1,false⟩ af/\b∈fs/\Own w (λ_=>False) (.arr ⟨1,false⟩ xs) (.slice (some ⟨b,0,none⟩) xs.length cap) fs∧
    w.heap[b]? =some (.cells cs e fr)/\i<xs.length/\cs.toList.getD i uD=u
 | .sub af sh xs u=>∃b cap,φ l= .at b sh af/\b∈fs/\u= .slice (some ⟨b,0,none⟩) xs.length cap/\Own w (λ_=>False) (.arr sh xs) u fs
theorem BR.mono {w w':World}{S S':nP}{φ φ':Nat->LS}{l:Nat}{fs:lN}{k:bf}(hw:∀b,S b->w'.heap[b]? =w.heap[b]?)(hS:∀b,S b->S' b)
 (hz:fX φ w w') (h:BR w S φ l fs k) (hfs:∀b,b∈fs->w'.heap[b]? =w.heap[b]?) (hl:φ' l=φ l)
 (hφ:∀v xs,k= .box v xs->∀l af,(l,af)∈aq xs->LS.le (φ' l) (φ l) af):BR w' S' φ' l fs k:=by
 cases k with
 |gone=>exact ⟨hl.trans h.1,h.2⟩
 |row af sh deep xs=>
  rcases h with ⟨h1,h2,h3⟩|⟨b,cap,h1,h2,h4,h3⟩
  . exact .inl ⟨hl.trans h1,h2,h3⟩
  refine .inr ⟨b,cap,hl.trans h1,h2,h4,?_⟩;cases deep with
  |true=>exact h3.mono (λ_ h=>False.elim h) (λ_ h=>h) hfs
  |false=>exact h3.mono hw hS hfs
 |box af xs=>
  obtain ⟨b,cs,e,sh,h1,h2,h3,h4,h5,h6⟩:=h;refine ⟨b,cs,e,sh,hl.trans h1,h2,(hfs b (by simp[h2])).trans h3,h4,h5,λi hi=>?_⟩;exact (h6 i hi).mono hw hS hz λl' ver' hl'=>hφ af xs rfl l' ver' (bq hi hl')
 |ke af xs i u=>
  obtain ⟨b,cap,cs,e,fr,h1,h2,h3,h4,h5,h6⟩:=h;exact ⟨b,cap,cs,e,fr,hl.trans h1,h2,h3.mono (λ_ h=>False.elim h) (λ_ h=>h) hfs,(hfs b h2).trans h4,h5,h6⟩
 |sub af sh xs u=>
  obtain ⟨b,cap,h1,h2,h3,h4⟩:=h;exact ⟨b,cap,hl.trans h1,h2,h3,h4.mono (λ_ h=>False.elim h) (λ_ h=>h) hfs⟩
structure eC where
 w0:World
 io:Nat->Nat->Prop
 ro:Nat->Prop
 DT:Nat->LS
 m0:Mem
def bE:Nat:=1000000000
def known (m:Mem)(l af:Nat):Prop:=∃k,ah m l=some k/\af<=k.af
structure RS (B:eC) (N:Nat) (φ:Nat->LS) (fp:Nat->lN) (S:nP) (ts:Env) (m:Mem) (a:Act) (w:World):Prop where
 tm:∀t,RV w S φ (look ts t) (a.tmps.getD t uD)
 tl:∀t l af,(l,af)∈ao (look ts t)->known m l af
 ca:∀l,ah m l=none->φ l= .dead/\fp l=[]
 aG:∀l k,ah m l=some k->BR w S φ l (fp l) k
 bl:∀l v xs,ah m l=some (.box v xs)->∀l' af,(l',af)∈aq xs->known m l' af
 hZ:∀l,(fp l).Nodup
 fL:∀l l' b,b∈fp l->b∈fp l'->l=l'
 bS:∀l b,b∈fp l→¬S b
 cu:∀l b,b∈fp l->b<w.heap.size/\(B.w0.heap.size<=b\/(∃l',B.io l' b/\bE<=l/\(l'=l\/ah B.m0 l=none)))
 sB:∀b,S b->b<w.heap.size/\(B.w0.heap.size<=b\/B.ro b)
 base:∀b,b<B.w0.heap.size->(∀l,¬B.io l b)->w.heap[b]? =B.w0.heap[b]?
 out:a7 B.w0 w
 ky:jI B.w0 w
 kn:∀l af,bE<=l->known B.m0 l af->known m l af
 fix:∀l af,bE<=l->known B.m0 l af->LS.le (φ l) (B.DT l) af
 size:B.w0.heap.size<=w.heap.size
 defers:a.defers=[]
 ly:a.tmps.size=N
 jx:KA w S
section
variable {B:eC} {N:Nat} {φ:Nat->LS} {fp:nN} {S:nP} {ts:Env} {m:Mem} {a:Act} {w:World}
theorem RS.rL (h:RS B N φ fp S ts m a w){l b:Nat}{sh:Sh}{af:Nat}(hl:φ l= .at b sh af):∃k,ah m l=some k/\k.af=af:=by
 cases hk:ah m l with
 |none=>have:=(h.ca l hk).1;rw[hl] at this;cases this
 |some k=>
  refine ⟨k,rfl,?_⟩;have hb:=h.aG l k hk;cases k with
  |gone=>have:=hb.1;rw[hl] at this;cases this
  |row ver' sh' deep xs=>
   rcases hb with ⟨h1,_,_⟩|⟨b',cap,h1,h2,_⟩
   . rw[hl] at h1;cases h1
   rw[hl] at h1;cases h1;rfl
  |box ver' xs=>
   obtain ⟨b',cs,e,sh',h1,h2,_⟩:=hb;rw[hl] at h1;cases h1;rfl
  |ke ver' xs i u=>
   obtain ⟨b',cap,cs,e,fr,h1,h2,_⟩:=hb;rw[hl] at h1;cases h1;rfl
  |sub ver' sh' xs u=>
   obtain ⟨b',cap,h1,h2,_⟩:=hb;rw[hl] at h1;cases h1;rfl
theorem RS.at_mem (h:RS B N φ fp S ts m a w){l b:Nat}{sh:Sh}{af:Nat}(hl:φ l= .at b sh af):b∈fp l:=by
 obtain ⟨k,hk,_⟩:=h.rL hl;have hb:=h.aG l k hk;cases k with
 |gone=>have:=hb.1;rw[hl] at this;cases this
 |row ver' sh' deep xs=>
  rcases hb with ⟨h1,_,_⟩|⟨b',cap,h1,h2,_⟩
  . rw[hl] at h1;cases h1
  rw[hl] at h1;cases h1;exact h2
 |box ver' xs=>
  obtain ⟨b',cs,e,sh',h1,h2,_⟩:=hb;rw[hl] at h1;cases h1;rw[h2];simp
 |ke ver' xs i u=>
  obtain ⟨b',cap,cs,e,fr,h1,h2,_⟩:=hb;rw[hl] at h1;cases h1;exact h2
 |sub ver' sh' xs u=>
  obtain ⟨b',cap,h1,h2,_⟩:=hb;rw[hl] at h1;cases h1;exact h2
theorem mn {α:Type}(xs:Array α)(d:Nat)(v u:α)(h:d<xs.size):(xs.setIfInBounds d v).getD d u=v:=by simp[Array.getD_eq_getD_getElem?,h]
theorem l9 {α:Type}(xs:Array α)(d t:Nat)(v u:α)(h:d≠t):(xs.setIfInBounds d v).getD t u=xs.getD t u:=by simp[Array.getD_eq_getD_getElem?,h]
theorem RS.put {B:eC}{N:Nat}{φ:Nat->LS}{fp:nN}{S:nP}{ts:Env}{m:Mem}{a:Act}{w:World}
 (h:RS B N φ fp S ts m a w) (d:Nat) (x:AV) (v:Value) (hd:d<N) (hx:RV w S φ x v) (hl:∀l af,(l,af)∈ao x->known m l af):
 RS B N φ fp S ((d,x)::ts) m (a.put (some d) v) w:=by
 refine {h with tm:=?_,tl:=?_,defers:=h.defers,ly:=by simp[Act.put,h.ly]}
 . intro t;rw [cN];split
   . rename_i e;subst e;simp only[Act.put];rw[mn _ _ _ _ (by rw[h.ly];exact hd)];exact hx
   rename_i e;simp only[Act.put];rw[l9 _ _ _ _ _ e];exact h.tm t
 intro t l af hl';rw[cN] at hl';split at hl'
 . exact hl l af hl'
 exact h.tl t l af hl'
theorem JA (w:World)(o:Obj)(b:Nat)(h:b<w.heap.size):(w.alloc o).heap[b]? =w.heap[b]? :=by simp only[World.alloc,Array.getElem?_push];rw[if_neg (Nat.ne_of_lt h)]
theorem Hg (w:World)(o:Obj):(w.alloc o).heap[w.heap.size]? =some o:=by simp only[World.alloc,Array.getElem?_push,if_true]
def nX {α:Type}(f:Nat->α)(l:Nat)(x:α):Nat->α:=λk=>if k=l then x else f k
theorem aB {α:Type}(f:Nat->α)(l:Nat)(x:α):nX f l x l=x:=by simp[nX]
theorem bB {α:Type}(f:Nat->α)(l k:Nat)(x:α)(h:k≠l):nX f l x k=f k:=by simp[nX,h]
def az (m:Mem)(l:Nat):Nat:=match ah m l with|none=>0|some k=>k.af+1
theorem ff {l af:Nat}(h:known m l af):af<az m l:=by obtain ⟨k,hk,hv⟩:=h;simp only[az,hk];omega
theorem RS.next (h:RS B N φ fp S ts m a w){w':World}(l:Nat)(x:LS)(fs:lN)(S':nP)(k:bf)
 (ot:w.heap.size<=w'.heap.size) (z6:a7 w w') (DJ:jI w w') (hK:∀b,b<B.w0.heap.size->(∀l,¬B.io l b)->w'.heap[b]? =w.heap[b]?)
 (hS:∀b,S b->S' b/\w'.heap[b]? =w.heap[b]?)
 (hS':∀b,S' b→¬S b->b<w'.heap.size/\(B.w0.heap.size<=b\/B.ro b)/\∀l',l'≠l->b∉fp l')
 (hz:fX φ w w')
 (hfp:∀l',l'≠l->∀b,b∈fp l'->w'.heap[b]? =w.heap[b]?)
 (hle:∀af,known m l af->LS.le x (φ l) af)
 (fK:∀af,known m l af->af<=k.af)
 (hbr:BR w' S' (nX φ l x) l fs k)
 (hbl:∀v xs,k= .box v xs->∀l' af,(l',af)∈aq xs->known ((l,k)::m) l' af)
 (nW:fs.Nodup) (QU:∀b,b∈fs→¬S' b/\(∀l',l'≠l->b∉fp l')/\b<w'.heap.size/\(B.w0.heap.size<=b\/(∃l',B.io l' b/\bE<=l/\(l'=l\/ah B.m0 l=none)))):
 RS B N (nX φ l x) (nX fp l fs) S' ts ((l,k)::m) a w':=by
 have Ju:∀l' af,known m l' af->known ((l,k)::m) l' af:=by
  intro l' af hk;by_cases e:l=l'
  . subst e;exact ⟨k,by simp[aw],fK af hk⟩
  obtain ⟨k',h1,h2⟩:=hk;exact ⟨k',by simp[aw,e,h1],h2⟩
 have cP:∀l' af,known m l' af->LS.le (nX φ l x l') (φ l') af:=by
  intro l' af hk;by_cases e:l'=l
  . subst e;rw[aB];exact hle af hk
  rw[bB _ _ _ _ e];exact LS.le_refl _ _
 refine ⟨?_,?_,?_,?_,?_,?_,?_,?_,?_,?_,λb hb hio=>(hK b hb hio).trans (h.base b hb hio),h.out.trans z6,h.ky.trans DJ,λl' af hl hk=>Ju l' af (h.kn l' af hl hk),
  λl2 af hl hk=>LS.le_trans (cP l2 af (h.kn l2 af hl hk)) (h.fix l2 af hl hk),Nat.le_trans h.size ot,h.defers,h.ly,h.jx.mono (λb hb=>(hS b hb).2) λb hb=>(hS b hb).1⟩
 . exact λt=>(h.tm t).mono (λb hb=>(hS b hb).2) (λb hb=>(hS b hb).1) hz λl' af hl=>cP l' af (h.tl t l' af hl)
 . exact λt l' af hl=>Ju l' af (h.tl t l' af hl)
 . intro l' hl';rw [aw] at hl';split at hl'
   . cases hl'
   rename_i e;rw[bB _ _ _ _ (Ne.symm e),bB _ _ _ _ (Ne.symm e)];exact h.ca l' hl'
 . intro l' k' hl';rw [aw] at hl';split at hl'
   . rename_i e;subst e;cases hl';rw[aB];exact hbr
   rename_i e;rw[bB _ _ _ _ (Ne.symm e)];refine (h.aG l' k' hl').mono (λb hb=>(hS b hb).2) (λb hb=>(hS b hb).1) hz (hfp l' (Ne.symm e)) (bB _ _ _ _ (Ne.symm e)) ?_;intro v xs hk l2 af hl2;subst hk;exact cP l2 af (h.bl l' v xs hl' l2 af hl2)
 . intro l' v xs hl' l2 af hl2;rw [aw] at hl';split at hl'
   . cases hl';exact hbl v xs rfl l2 af hl2
   exact Ju l2 af (h.bl l' v xs hl' l2 af hl2)
 . intro l';by_cases e:l'=l
   . subst e;rw[aB];exact nW
   rw[bB _ _ _ _ e];exact h.hZ l'
 . intro l1 l2 b h1 h2;by_cases e1:l1=l
   . by_cases e2:l2=l
     . rw[e1,e2]
     subst e1;rw[aB] at h1;rw[bB _ _ _ _ e2] at h2;exact absurd h2 ((QU b h1).2.1 l2 e2)
   rw[bB _ _ _ _ e1] at h1;by_cases e2:l2=l
   . subst e2;rw[aB] at h2;exact absurd h1 ((QU b h2).2.1 l1 e1)
   rw[bB _ _ _ _ e2] at h2;exact h.fL l1 l2 b h1 h2
 . intro l' b hb;by_cases e:l'=l
   . subst e;rw[aB] at hb;exact (QU b hb).1
   rw[bB _ _ _ _ e] at hb;intro hs';by_cases hs:S b
   . exact h.bS l' b hb hs
   exact (hS' b hs' hs).2.2 l' e hb
 . intro l' b hb;by_cases e:l'=l
   . subst e;rw[aB] at hb;exact ⟨(QU b hb).2.2.1,(QU b hb).2.2.2⟩
   rw[bB _ _ _ _ e] at hb;have:=h.cu l' b hb;exact ⟨q22 this.1 ot,this.2⟩
 intro b hb;by_cases hs:S b
 . have:=h.sB b hs;exact ⟨q22 this.1 ot,this.2⟩
 exact ⟨(hS' b hb hs).1,(hS' b hb hs).2.1⟩
theorem RS.rM (h:RS B N φ fp S ts m a w){w':World}(hh:w'.heap=w.heap)(ho:a7 w w'):RS B N φ fp S ts m a w':=by
 have hz:fX φ w w':=λl b sh af cs e _ hb=>⟨cs,e,by rw[hh];exact hb,rfl⟩;have hs:∀b:Nat,w'.heap[b]? =w.heap[b]? :=λb=>by rw[hh]
 exact {h with
  tm:=λt=>(h.tm t).mono (λb _=>hs b) (λ_ h=>h) hz λl af _=>LS.le_refl _ _
  aG:=λl k hk=>(h.aG l k hk).mono (λb _=>hs b) (λ_ h=>h) hz (λb _=>hs b) rfl λ_ _ _ _ _ _=>LS.le_refl _ _
  cu:=λl b hb=>by rw[hh];exact h.cu l b hb
  sB:=λb hb=>by rw[hh];exact h.sB b hb
  base:=λb hb hio=>by rw[hs];exact h.base b hb hio
  out:=h.out.trans ho
  ky:=h.ky.trans (jI.of_same λb _=>hs b)
  jx:=h.jx.mono (λb _=>hs b) λ_ h=>h
  size:=by rw[hh];exact h.size}
theorem fX.alloc (h:RS B N φ fp S ts m a w)(o:Obj):fX φ w (w.alloc o):=by intro l b sh af cs e hl hb;have hlt:=(h.cu l b (h.at_mem hl)).1;exact ⟨cs,e,by rw[JA w o b hlt];exact hb,rfl⟩
theorem RS.alloc (h:RS B N φ fp S ts m a w)(l:Nat)(sh:Sh)(k:bf)(cs:aV)(e:TypeId)
 (hk:k.af=az m l)
 (hbr:BR (w.alloc (.cells cs e)) S (nX φ l (.at w.heap.size sh (az m l))) l [w.heap.size] k)
 (hbl:∀v xs,k= .box v xs->∀l' af,(l',af)∈aq xs->known m l' af):
 RS B N (nX φ l (.at w.heap.size sh (az m l))) (nX fp l [w.heap.size]) S ts ((l,k)::m) a (w.alloc (.cells cs e)):=by
 have hlt:∀b,S b->b<w.heap.size:=λb hb=>(h.sB b hb).1
 refine h.next l _ [w.heap.size] S k (by simp) ⟨rfl,rfl,rfl⟩ (jI.of_same λb hb=>JA w _ b hb) (λb hb _=>JA w _ b (q22 hb h.size)) (λb hb=>⟨hb,JA w _ b (hlt b hb)⟩) (λb h1 h2=>absurd h1 h2) (fX.alloc h _)
  (λl' _ b hb=>JA w _ b (h.cu l' b hb).1) (λaf hv=>LS.kJ _ _ _ _ _ (ff hv)) (λaf hv=>by rw[hk];exact Nat.le_of_lt (ff hv)) hbr ?_ (by simp) ?_
 . intro v xs hkx l' af hl';have:=hbl v xs hkx l' af hl';by_cases e:l=l'
   . subst e;exact ⟨k,by simp[aw],by rw[hk];exact Nat.le_of_lt (ff this)⟩
   obtain ⟨k',h1,h2⟩:=this;exact ⟨k',by simp[aw,e,h1],h2⟩
 intro b hb;have hb':b=w.heap.size:=by simpa using hb
 subst hb';refine ⟨λhs=>q21 _ (hlt _ hs),λl' _ hb=>q21 _ (h.cu l' _ hb).1,by simp,.inl h.size⟩
theorem RV.alloc (h:RS B N φ fp S ts m a w)(l:Nat)(sh:Sh)(o:Obj){x:AV}{v:Value}(hx:RV w S φ x v)(hl:∀l' af,(l',af)∈ao x->known m l' af):
 RV (w.alloc o) S (nX φ l (.at w.heap.size sh (az m l))) x v:=by
 refine hx.mono (λb hb=>JA w _ b (h.sB b hb).1) (λ_ h=>h) (fX.alloc h o) λl' af hl'=>?_;by_cases e:l'=l
 . subst e;rw[aB];exact LS.kJ _ _ _ _ _ (ff (hl l' af hl'))
 rw[bB _ _ _ _ e];exact LS.le_refl _ _
theorem RS.Rt (h:RS B N φ fp S ts m a w)(l:Nat)(k:bf)(hk:ah m l=some k)(S':nP)(hS:∀b,S b->S' b)
 (hS':∀b,S' b→¬S b->b∈fp l/\l<bE):RS B N (nX φ l .dead) (nX fp l []) S' ts ((l,.gone k.af)::m) a w:=by
 refine h.next l .dead [] S' (.gone k.af) (q20 _) (a7.refl _) (jI.refl _) (λ_ _ _=>rfl) (λb hb=>⟨hS b hb,rfl⟩) ?_ (λl b sh af cs e _ hb=>⟨cs,e,hb,rfl⟩) (λ_ _ _ _=>rfl)
  (λaf _=>LS.rK _ _) ?_ ⟨aB _ _ _,rfl⟩ (λv xs hk=>by cases hk) (by simp) (by simp)
 . intro b h1 h2;obtain ⟨h3,h4⟩:=hS' b h1 h2;have:=h.cu l b h3;refine ⟨this.1,.inl (this.2.resolve_right λh=>q21 _ (q22 h4 h.choose_spec.2.1)),λl' hl' hb=>hl' (h.fL l' l b hb h3)⟩
 rintro af ⟨k',h1,h2⟩;rw[hk] at h1;cases h1;exact h2
end
inductive TK where
 |int (k:IntKind)
 |bool
 |string
 |slice
 |struct
 |iface
 |other
structure TI where
 agg:Bool
 size:Nat
 bytes:Nat
 zero:AV
 fields:List (Nat × Nat × Bool)
 elem:Nat
 kind:TK
def TI.sh (t:TI):Sh:=⟨t.size,t.agg⟩
theorem TI.WA (a:Bool)(s b:Nat)(z:AV)(f:List (Nat × Nat × Bool))(e:Nat)(k:TK):TI.sh ⟨a,s,b,z,f,e,k⟩=⟨s,a⟩:=rfl
def CA:Value->AV
 | .agg cs=>if cs.toList.all Value.oneCell' then .agg (cs.toList.map .val) else .undef
 | .tuple _=>.undef
 |v=>.val v
theorem Ru (k:IntKind)(n:Int):CA (.int k n)= .val (.int k n):=rfl
theorem NB (b:Bool):CA (.bool b)= .val (.bool b):=rfl
theorem Hh (s:ByteArray):CA (.string s)= .val (.string s):=rfl
theorem KB (a:Option Addr)(n c:Nat):CA (.slice a n c)= .val (.slice a n c):=rfl
theorem D0 (a:Option Addr):CA (.pointer a)= .val (.pointer a):=rfl
theorem D3:CA .nilFunc= .val .nilFunc:=rfl
theorem CB:CA .nilIface= .val .nilIface:=rfl
def ka (P:pR)(t:TypeId):Bool:=match P.underlying t with|some (.struct _)|some (.array _ _)=>true|_=>false
def gG (P:pR)(t:TypeId):Nat:=match P.info? t with|some i=>i.size|none=>0
def KD (P:pR)(d:TypeDesc):Bool:=match d with| .struct fs=>fs.toList.all λf=>(P.info? f.type).isSome&&(P.underlying f.type).isSome|_=>true
def aL (P:pR)(t:TypeId):Option TI:=
 match P.info? t,P.underlying t with
 |some i,some d=>
  match i.zero with
  |some z=>if KD P d=false then none else some {
    agg:=ka P t,size:=i.size,bytes:=i.bytes,zero:=CA z,
    fields:=(match d with| .struct fs=>fs.toList.map λf=>(f.offset,gG P f.type,ka P f.type)|_=>[]),
    elem:=(match d with| .slice e=>e|_=>0),
    kind:=(match d with| .int k=>.int k| .bool=>.bool| .string=>.string| .slice _=>.slice| .struct _=>.struct| .interface _=>.iface|_=>.other)}
  |none=>none
 |_,_=>none
def ev (ts:Env):Operand->AV
 | .tmp t=>look ts t
 | .const v=>CA v
 | .global _=>.undef
 | .func f=>.cn f []
theorem UA (ts:Env)(t:Nat):ev ts (.tmp t)=look ts t:=rfl
theorem NC (ts:Env)(v:Value):ev ts (.const v)=CA v:=rfl
def jy (n:Int):Prop:= -9223372036854775808<=n/\n<=9223372036854775807
def ew (x:Option TI)(k:TI->Prop):Prop:=match x with|some t=>k t|none=>False
@[congr] theorem Wm {x x':Option TI} {k:TI->Prop} (h:x=x'):ew x k=ew x' k:=by rw[h]
theorem wy (t:TI)(k:TI->Prop):ew (some t) k=k t:=rfl
def kf (x:Option AV)(k:AV->Prop):Prop:=match x with|some v=>k v|none=>False
@[congr] theorem UB {x x':Option AV} {k:AV->Prop} (h:x=x'):kf x k=kf x' k:=by rw[h]
theorem tq (v:AV)(k:AV->Prop):kf (some v) k=k v:=rfl
def UC (c:AV)(a b:Prop):Prop:=match c with| .val (.bool c)=>(c=true->a)/\(c=false->b)|_=>False
@[congr] theorem Wn {c c':AV} {a b:Prop} (h:c=c'):UC c a b=UC c' a b:=by rw[h]
def qm (c a b:AV)(k:AV->Prop):Prop:=match c with| .val (.bool c)=>(c=true->k a)/\(c=false->k b)|_=>False
@[congr] theorem TD {c c' a b:AV} {k:AV->Prop} (h:c=c'):qm c a b k=qm c' a b k:=by rw[h]
def ja (k:IntKind)(n:Int)(c:AV->Prop):Prop:=match k with| .i64=>jy n/\c (.val (.int .i64 n))|k=>c (.val (.int k (k.wrap n)))
theorem z8 (n:Int)(c:AV->Prop):ja .i64 n c=(jy n/\c (.val (.int .i64 n))):=rfl
theorem D4 (n:Int)(c:AV->Prop):ja .u8 n c=c (.val (.int .u8 (IntKind.u8.wrap n))):=rfl
theorem z_ (n:Int)(c:AV->Prop):ja .i32 n c=c (.val (.int .i32 (IntKind.i32.wrap n))):=rfl
def fx (op:BinOp)(i:IntKind)(x y:Int)(k:AV->Prop):Prop:=
 match op with
 | .add=>ja i (x+y) k
 | .sub=>ja i (x-y) k
 | .mul=>ja i (x*y) k
 | .quo=>y≠0/\ja i (x.tdiv y) k
 | .rem=>y≠0/\k (.val (.int i (x.tmod y)))
 | .eql=>k (.val (.bool (x==y)))
 | .neq=>k (.val (.bool (x != y)))
 | .lss=>k (.val (.bool (decide (x<y))))
 | .leq=>k (.val (.bool (decide (x<=y))))
 | .gtr=>k (.val (.bool (decide (x>y))))
 | .geq=>k (.val (.bool (decide (x≥y))))
 | .shr=>0<=y/\k (.val (.int i (x.fdiv (2^(min y.toNat i.bits)))))
 | .and=>k (.val (.int i (i.wrap (BitVec.ofInt i.bits x &&& BitVec.ofInt i.bits y).toNat)))
 |_=>False
def l_ (op:BinOp)(x y:ByteArray)(k:AV->Prop):Prop:=
 match op with
 | .add=>x.size+y.size<=9223372036854775807/\k (.val (.string (x++y)))
 | .eql=>k (.val (.bool (x.toList==y.toList)))
 | .neq=>k (.val (.bool (!(x.toList==y.toList))))
 |_=>False
def kL (op:BinOp)(kd:TK)(a b:AV)(k:AV->Prop):Prop:=
 match a,b with
 | .val (.int i x),.val (.int j y)=>i=j/\fx op i x y k
 | .val (.string x),.val (.string y)=>l_ op x y k
 | .val (.bool x),.val (.bool y)=>match op,kd with| .eql,.bool=>k (.val (.bool (x==y)))| .neq,.bool=>k (.val (.bool (!(x==y))))|_,_=>False
 |_,_=>False
@[congr] theorem UD {op:BinOp} {kd:TK} {a b a' b':AV} {k:AV->Prop} (h:a=a') (h':b=b'):kL op kd a b k=kL op kd a' b' k:=by rw[h,h']
theorem D5 (op:BinOp)(kd:TK)(i:IntKind)(x y:Int)(k:AV->Prop):kL op kd (.val (.int i x)) (.val (.int i y)) k=fx op i x y k:=by simp[kL]
theorem D6 (op:BinOp)(kd:TK)(x y:ByteArray)(k:AV->Prop):kL op kd (.val (.string x)) (.val (.string y)) k=l_ op x y k:=rfl
theorem D7 (x y:Bool)(k:AV->Prop):kL .eql .bool (.val (.bool x)) (.val (.bool y)) k=k (.val (.bool (x==y))):=rfl
theorem D8 (x y:Bool)(k:AV->Prop):kL .neq .bool (.val (.bool x)) (.val (.bool y)) k=k (.val (.bool (!(x==y)))):=rfl
section
variable (i:IntKind) (x y:Int) (k:AV->Prop)
theorem UE:fx .add i x y k=ja i (x+y) k:=rfl
theorem UF:fx .sub i x y k=ja i (x-y) k:=rfl
theorem UG:fx .mul i x y k=ja i (x*y) k:=rfl
theorem UH:fx .quo i x y k=(y≠0/\ja i (x.tdiv y) k):=rfl
theorem UI:fx .rem i x y k=(y≠0/\k (.val (.int i (x.tmod y)))):=rfl
theorem UJ:fx .eql i x y k=k (.val (.bool (x==y))):=rfl
theorem UK:fx .neq i x y k=k (.val (.bool (x != y))):=rfl
theorem UL:fx .lss i x y k=k (.val (.bool (decide (x<y)))):=rfl
theorem UM:fx .leq i x y k=k (.val (.bool (decide (x<=y)))):=rfl
theorem UN:fx .gtr i x y k=k (.val (.bool (decide (x>y)))):=rfl
theorem UO:fx .geq i x y k=k (.val (.bool (decide (x≥y)))):=rfl
theorem ND (x y:ByteArray):l_ .add x y k=(x.size+y.size<=9223372036854775807/\k (.val (.string (x++y)))):=rfl
theorem NF (x y:ByteArray):l_ .eql x y k=k (.val (.bool (x.toList==y.toList))):=rfl
end
def zB (a:AV)(k:AV->Prop):Prop:=match a with| .val (.bool b)=>k (.val (.bool (!b)))|_=>False
@[congr] theorem UP {a a':AV} {k:AV->Prop} (h:a=a'):zB a k=zB a' k:=by rw[h]
theorem JB (b:Bool)(k:AV->Prop):zB (.val (.bool b)) k=k (.val (.bool (!b))):=rfl
def CC (a:AV)(k:AV->Prop):Prop:=match a with| .val (.int i n)=>ja i (0-n) k|_=>False
@[congr] theorem UQ {a a':AV} {k:AV->Prop} (h:a=a'):CC a k=CC a' k:=by rw[h]
theorem JC (i:IntKind)(n:Int)(k:AV->Prop):CC (.val (.int i n)) k=ja i (0-n) k:=rfl
def uz (dst:TK)(x:AV)(k:AV->Prop):Prop:=
 match dst,x with
 | .int i,.val (.int _ n)=>ja i n k
 | .string,.val (.string s)=>k (.val (.string s))
 |_,_=>False
@[congr] theorem TE {d:TK} {x x':AV} {k:AV->Prop} (h:x=x'):uz d x k=uz d x' k:=by rw[h]
theorem Aa (i j:IntKind)(n:Int)(k:AV->Prop):uz (.int i) (.val (.int j n)) k=ja i n k:=rfl
def wz (a b:AV)(k:AV->Prop):Prop:=match a,b with| .val (.int i x),.val (.int _ y)=>k (.val (.int i (if y>x then y else x)))|_,_=>False
@[congr] theorem UR {a b a' b':AV} {k:AV->Prop} (h:a=a') (h':b=b'):wz a b k=wz a' b' k:=by rw[h,h']
theorem JD (i j:IntKind)(x y:Int)(k:AV->Prop):wz (.val (.int i x)) (.val (.int j y)) k=k (.val (.int i (if y>x then y else x))):=rfl
def mY (a b:AV)(k:AV->Prop):Prop:=match a,b with| .val (.int i x),.val (.int _ y)=>k (.val (.int i (if y<x then y else x)))|_,_=>False
@[congr] theorem US {a b a' b':AV} {k:AV->Prop} (h:a=a') (h':b=b'):mY a b k=mY a' b' k:=by rw[h,h']
theorem JE (i j:IntKind)(x y:Int)(k:AV->Prop):mY (.val (.int i x)) (.val (.int j y)) k=k (.val (.int i (if y<x then y else x))):=rfl
def zC (i:Nat)(x:AV)(k:AV->Prop):Prop:=match x with| .aX xs=>kf xs[i]? k|_=>False
@[congr] theorem UT {i:Nat} {x x':AV} {k:AV->Prop} (h:x=x'):zC i x k=zC i x' k:=by rw[h]
theorem JF (i:Nat)(xs:lA)(k:AV->Prop):zC i (.aX xs) k=kf xs[i]? k:=rfl
def dj (ag:Bool)(n j:Nat)(x:AV)(k:AV->Prop):Prop:=
 match ag,x with
 |true,.agg ys=>j+n<=ys.length/\k (.agg ((ys.drop j).take n))
 |false,.agg ys=>kf ys[j]? k
 |false,.undef=>False
 |false,.aX _=>False
 |false,y=>j=0/\k y
 |_,_=>False
@[congr] theorem TF {ag:Bool} {n j:Nat} {x x':AV} {k:AV->Prop} (h:x=x'):dj ag n j x k=dj ag n j x' k:=by rw[h]
theorem Ab (n j:Nat)(ys:lA)(k:AV->Prop):dj true n j (.agg ys) k=(j+n<=ys.length/\k (.agg ((ys.drop j).take n))):=rfl
theorem wA (n j:Nat)(ys:lA)(k:AV->Prop):dj false n j (.agg ys) k=kf ys[j]? k:=rfl
theorem Ac (n:Nat)(v:Value)(k:AV->Prop):dj false n 0 (.val v) k=k (.val v):=by simp[dj]
theorem Ad (n:Nat)(sh:Sh)(xs:lA)(k:AV->Prop):dj false n 0 (.arr sh xs) k=k (.arr sh xs):=by simp[dj]
mutual
def cg:AV->Bool
 | .val _=>true
 | .e0=>true
 | .agg xs=>bm xs
 |_=>false
def bm:lA->Bool
 | []=>true
 |x::r=>cg x&&bm r
end
theorem Hi (v:Value):cg (.val v)=true:=rfl
theorem Hj (xs:lA):cg (.agg xs)=bm xs:=rfl
theorem Hk (sh:Sh)(xs:lA):cg (.arr sh xs)=false:=rfl
theorem D9:bm []=true:=rfl
theorem mZ (x:AV)(r:lA):bm (x::r)=(cg x&&bm r):=rfl
def dG (deep fl:Bool)(l:Nat)(b:bf)(m:Mem)(k:Mem->Prop):Prop:=if deep=true/\fl=false then l<bE/\k ((l,b)::m) else k m
@[congr] theorem Rf {deep fl fl':Bool} {l:Nat} {b:bf} {m:Mem} {k:Mem->Prop} (h:fl=fl'):dG deep fl l b m k=dG deep fl' l b m k:=by rw[h]
theorem rN (deep:Bool)(l:Nat)(b:bf)(m:Mem)(k:Mem->Prop):dG deep true l b m k=k m:=by simp[dG]
theorem wB (fl:Bool)(l:Nat)(b:bf)(m:Mem)(k:Mem->Prop):dG false fl l b m k=k m:=by simp[dG]
def dV (ag:Bool)(n:Nat)(l af i j:Nat)(b:Option bf)(m:Mem)(k:AV->Mem->Prop):Prop:=
 match b with
 |some (.box v xs)=>v=af/\i=0/\(if ag then j+n<=xs.length/\k (.agg ((xs.drop j).take n)) m else kf xs[j]? λy=>k y m)
 |some (.row v sh deep xs)=>v=af/\kf xs[i]? λx=>dj ag n j x λy=>dG deep (cg x) l (.row v sh false xs) m λm'=>k y m'
 |some (.sub v sh xs u)=>v=af/\kf xs[i]? λx=>cg x=true/\dj ag n j x λy=>k y m
 |_=>False
@[congr] theorem Rv {ag:Bool} {n l af i j:Nat} {b b':Option bf} {m:Mem} {k:AV->Mem->Prop} (h:b=b'):dV ag n l af i j b m k=dV ag n l af i j b' m k:=by rw[h]
theorem uA (n l v j:Nat)(xs:lA)(m:Mem)(k:AV->Mem->Prop):
 dV true n l v 0 j (some (.box v xs)) m k=(j+n<=xs.length/\k (.agg ((xs.drop j).take n)) m):=by simp[dV]
theorem wC (n l v j:Nat)(xs:lA)(m:Mem)(k:AV->Mem->Prop):
 dV false n l v 0 j (some (.box v xs)) m k=kf xs[j]? λy=>k y m:=by simp[dV]
theorem wD (ag:Bool)(n l v i j:Nat)(sh:Sh)(deep:Bool)(xs:lA)(m:Mem)(k:AV->Mem->Prop):
 dV ag n l v i j (some (.row v sh deep xs)) m k=kf xs[i]? λx=>dj ag n j x λy=>dG deep (cg x) l (.row v sh false xs) m λm'=>k y m':=by simp[dV]
def oG (ag:Bool)(n:Nat)(p:AV)(m:Mem)(k:AV->Mem->Prop):Prop:=
 match p with
 | .ptr l af i j=>dV ag n l af i j (ah m l) m k
 | .bo _ xs i j=>kf xs[i]? λx=>dj ag n j x λy=>k y m
 |_=>False
@[congr] theorem TG {ag:Bool} {n:Nat} {p p':AV} {m:Mem} {k:AV->Mem->Prop} (h:p=p'):oG ag n p m k=oG ag n p' m k:=by rw[h]
theorem Ae (ag:Bool)(n l af i j:Nat)(m:Mem)(k:AV->Mem->Prop):oG ag n (.ptr l af i j) m k=dV ag n l af i j (ah m l) m k:=rfl
theorem wE (ag:Bool)(n:Nat)(sh:Sh)(xs:lA)(i j:Nat)(m:Mem)(k:AV->Mem->Prop):
 oG ag n (.bo sh xs i j) m k=kf xs[i]? λx=>dj ag n j x λy=>k y m:=rfl
def qn (dp fl:Bool)(x:AV)(l v:Nat)(xs:lA)(i:Nat)(m:Mem)(k:AV->Mem->Prop):Prop:=
 if dp=true/\fl=false then ∀u,k (.val u) ((l,.ke v xs i u)::m) else k x m
@[congr] theorem TH {dp fl fl':Bool} {x:AV} {l v:Nat} {xs:lA} {i:Nat} {m:Mem} {k:AV->Mem->Prop} (h:fl=fl'):qn dp fl x l v xs i m k=qn dp fl' x l v xs i m k:=by rw[h]
theorem wF (dp:Bool)(x:AV)(l v:Nat)(xs:lA)(i:Nat)(m:Mem)(k:AV->Mem->Prop):qn dp true x l v xs i m k=k x m:=by simp[qn]
def kM (ag:Bool)(n l af i j:Nat)(b:Option bf)(m:Mem)(k:AV->Mem->Prop):Prop:=
 match ag,b with
 |false,some (.row v ⟨1,false⟩ dp xs)=>v=af/\kf xs[i]? λx=>dj false n j x λy=>qn dp (cg x) y l v xs i m k
 |ag,b=>dV ag n l af i j b m k
@[congr] theorem Rw {ag:Bool} {n l af i j:Nat} {b b':Option bf} {m:Mem} {k:AV->Mem->Prop} (h:b=b'):kM ag n l af i j b m k=kM ag n l af i j b' m k:=by rw[h]
theorem uB (n l v i j:Nat)(dp:Bool)(xs:lA)(m:Mem)(k:AV->Mem->Prop):
 kM false n l v i j (some (.row v ⟨1,false⟩ dp xs)) m k=kf xs[i]? λx=>dj false n j x λy=>qn dp (cg x) y l v xs i m k:=by simp[kM]
theorem wG (ag:Bool)(n l v i j v':Nat)(xs:lA)(m:Mem)(k:AV->Mem->Prop):kM ag n l v i j (some (.box v' xs)) m k=dV ag n l v i j (some (.box v' xs)) m k:=by cases ag<;>rfl
def oH (ag:Bool)(n:Nat)(p:AV)(m:Mem)(k:AV->Mem->Prop):Prop:=
 match p with
 | .ptr l af i j=>if l<bE then dV ag n l af i j (ah m l) m k else kM ag n l af i j (ah m l) m k
 | .bo _ xs i j=>kf xs[i]? λx=>dj ag n j x λy=>k y m
 |_=>False
@[congr] theorem Rx {ag:Bool} {n:Nat} {p p':AV} {m:Mem} {k:AV->Mem->Prop} (h:p=p'):oH ag n p m k=oH ag n p' m k:=by rw[h]
theorem wH (ag:Bool)(n l af i j:Nat)(m:Mem)(k:AV->Mem->Prop):oH ag n (.ptr l af i j) m k=if l<bE then dV ag n l af i j (ah m l) m k else kM ag n l af i j (ah m l) m k:=rfl
theorem uC (ag:Bool)(n:Nat)(sh:Sh)(xs:lA)(i j:Nat)(m:Mem)(k:AV->Mem->Prop):
 oH ag n (.bo sh xs i j) m k=kf xs[i]? λx=>dj ag n j x λy=>k y m:=rfl
def gm (v:Nat)(b:Option bf)(k:Prop):Prop:=match b with
 |some (.box v' _)=>v'=v/\k
 |some (.row v' _ _ _)=>v'=v/\k
 |_=>False
@[congr] theorem TJ {v:Nat} {b b':Option bf} {k:Prop} (h:b=b'):gm v b k=gm v b' k:=by rw[h]
theorem Af (v:Nat)(xs:lA)(k:Prop):gm v (some (.box v xs)) k=k:=by simp[gm]
theorem Ag (v:Nat)(sh:Sh)(d:Bool)(xs:lA)(k:Prop):gm v (some (.row v sh d xs)) k=k:=by simp[gm]
def h_ (j:Nat)(m:Mem)(p:AV)(k:AV->Prop):Prop:=match p with
 | .ptr l v i j'=>gm v (ah m l) (k (.ptr l v i (j'+j)))
 | .bo sh xs i j'=>k (.bo sh xs i (j'+j))
 |_=>False
@[congr] theorem Ry {j:Nat} {m:Mem} {p p':AV} {k:AV->Prop} (h:p=p'):h_ j m p k=h_ j m p' k:=by rw[h]
theorem wI (j:Nat)(m:Mem)(l v i j':Nat)(k:AV->Prop):h_ j m (.ptr l v i j') k=gm v (ah m l) (k (.ptr l v i (j'+j))):=rfl
theorem uE (j:Nat)(m:Mem)(sh:Sh)(xs:lA)(i j':Nat)(k:AV->Prop):h_ j m (.bo sh xs i j') k=k (.bo sh xs i (j'+j)):=rfl
def m_ (kd:TK)(m:Mem)(x:AV)(k:AV->Prop):Prop:=match kd,x with
 | .slice,.arr _ xs=>k (.val (.int .i64 xs.length))
 | .slice,.ref l v _ n=>gm v (ah m l) (k (.val (.int .i64 n)))
 | .slice,.e0=>k (.val (.int .i64 0))
 | .slice,.val (.slice _ n _)=>k (.val (.int .i64 n))
 | .string,.val (.string s)=>k (.val (.int .i64 s.size))
 |_,_=>False
@[congr] theorem UU {kd:TK} {m:Mem} {x x':AV} {k:AV->Prop} (h:x=x'):m_ kd m x k=m_ kd m x' k:=by rw[h]
theorem D_ (m:Mem)(sh:Sh)(xs:lA)(k:AV->Prop):m_ .slice m (.arr sh xs) k=k (.val (.int .i64 xs.length)):=rfl
theorem Ea (m:Mem)(a:Option Addr)(n c:Nat)(k:AV->Prop):m_ .slice m (.val (.slice a n c)) k=k (.val (.int .i64 n)):=rfl
theorem Eb (m:Mem)(s:ByteArray)(k:AV->Prop):m_ .string m (.val (.string s)) k=k (.val (.int .i64 s.size)):=rfl
theorem Ec (m:Mem)(l v i n:Nat)(k:AV->Prop):m_ .slice m (.ref l v i n) k=gm v (ah m l) (k (.val (.int .i64 n))):=rfl
def vO (f:Option (Nat × Nat × Bool))(k:Nat × Nat × Bool->Prop):Prop:=match f with|some f=>k f|none=>False
@[congr] theorem UW {f f':Option (Nat × Nat × Bool)} {k:Nat × Nat × Bool->Prop} (h:f=f'):vO f k=vO f' k:=by rw[h]
theorem Ah (f:Nat × Nat × Bool)(k:Nat × Nat × Bool->Prop):vO (some f) k=k f:=rfl
def na (x i:AV)(k:AV->Prop):Prop:=match x,i with
 | .val (.string s),.val (.int _ i)=>(0<=i/\i<s.size)/\k (.val (.int .u8 (s.data.toList.getD i.toNat 0).toNat))
 |_,_=>False
@[congr] theorem Rz {x x' i i':AV} {k:AV->Prop} (h:x=x') (h':i=i'):na x i k=na x' i' k:=by rw[h,h']
theorem Ai (s:ByteArray)(j:IntKind)(i:Int)(k:AV->Prop):
 na (.val (.string s)) (.val (.int j i)) k=((0<=i/\i<s.size)/\k (.val (.int .u8 (s.data.toList.getD i.toNat 0).toNat))):=rfl
def eU (x:AV)(k:lA->Prop):Prop:=match x with
 | .agg xs=>k xs
 | .undef=>False
 | .aX _=>False
 |y=>k [y]
@[congr] theorem RA {x x':AV} {k:lA->Prop} (h:x=x'):eU x k=eU x' k:=by rw[h]
theorem wJ (xs:lA)(k:lA->Prop):eU (.agg xs) k=k xs:=rfl
theorem wK (v:Value)(k:lA->Prop):eU (.val v) k=k [.val v]:=rfl
theorem wL (sh:Sh)(xs:lA)(k:lA->Prop):eU (.arr sh xs) k=k [.arr sh xs]:=rfl
theorem wM (l v i n:Nat)(k:lA->Prop):eU (.ref l v i n) k=k [.ref l v i n]:=rfl
theorem wN (l v i n:Nat)(k:lA->Prop):eU (.ptr l v i n) k=k [.ptr l v i n]:=rfl
theorem wO (f:fI)(xs:lA)(k:lA->Prop):eU (.cn f xs) k=k [.cn f xs]:=rfl
def jf (xs:lA)(j:Nat):lA->lA
 | []=>xs
 |y::ys=>jf (xs.set j y) (j+1) ys
theorem Ed (xs:lA)(j:Nat):jf xs j []=xs:=rfl
theorem tu (xs:lA)(j:Nat)(y:AV)(ys:lA):jf xs j (y::ys)=jf (xs.set j y) (j+1) ys:=rfl
def zD (j:Nat)(x y:AV)(k:AV->Prop):Prop:=match x,y with
 | .agg zs,.agg ys=>j+ys.length<=zs.length/\k (.agg (jf zs j ys))
 | .agg zs,y=>j<zs.length/\k (.agg (zs.set j y))
 |_,.agg _=>False
 |_,y=>j=0/\k y
@[congr] theorem UX {j:Nat} {x x' y y':AV} {k:AV->Prop} (h:x=x') (h':y=y'):zD j x y k=zD j x' y' k:=by rw[h,h']
theorem Ee (u v:Value)(k:AV->Prop):zD 0 (.val u) (.val v) k=k (.val v):=by simp[zD]
def dH (l af i j:Nat)(b:Option bf)(y:AV)(m:Mem)(n:Nat)(k:Mem->Prop):Prop:=
 match b with
 |some (.box v xs)=>v=af/\i=0/\eU y λys=>ys.length=n/\j+ys.length<=xs.length/\k ((l,.box v (jf xs j ys))::m)
 |some (.row v sh deep xs)=>v=af/\cg y=true/\kf xs[i]? λx=>cg x=true/\(match y with| .agg ys=>ys.length=n|_=>n=1)/\zD j x y λx'=>k ((l,.row v sh deep (xs.set i x'))::m)
 |some (.sub v sh xs u)=>v=af/\cg y=true/\kf xs[i]? λx=>cg x=true/\(match y with| .agg ys=>ys.length=n|_=>n=1)/\zD j x y λx'=>k ((l,.sub v sh (xs.set i x') u)::m)
 |_=>False
@[congr] theorem Rg {l af i j n:Nat} {b b':Option bf} {y y':AV} {m:Mem} {k:Mem->Prop} (h:b=b') (h':y=y'):dH l af i j b y m n k=dH l af i j b' y' m n k:=by rw[h,h']
theorem uF (l v j:Nat)(xs:lA)(y:AV)(m:Mem)(n:Nat)(k:Mem->Prop):
 dH l v 0 j (some (.box v xs)) y m n k=eU y λys=>ys.length=n/\j+ys.length<=xs.length/\k ((l,.box v (jf xs j ys))::m):=by simp[dH]
theorem rO (l v i j:Nat)(sh:Sh)(deep:Bool)(xs:lA)(u:Value)(m:Mem)(k:Mem->Prop):
 dH l v i j (some (.row v sh deep xs)) (.val u) m 1 k=kf xs[i]? λx=>cg x=true/\zD j x (.val u) λx'=>k ((l,.row v sh deep (xs.set i x'))::m):=by simp[dH,cg]
def kN (n:Nat)(p y:AV)(m:Mem)(k:Mem->Prop):Prop:=match p with
 | .ptr l af i j=>dH l af i j (ah m l) y m n k
 |_=>False
@[congr] theorem RB {n:Nat} {p p' y:AV} {m:Mem} {k:Mem->Prop} (h:p=p'):kN n p y m k=kN n p' y m k:=by rw[h]
theorem wP (n l af i j:Nat)(y:AV)(m:Mem)(k:Mem->Prop):kN n (.ptr l af i j) y m k=dH l af i j (ah m l) y m n k:=rfl
def RC (v2 n2:Nat)(b:Option bf)(k:AV->Prop):Prop:=match b with
 |some (.row v sh2 true ys)=>v=v2/\0<sh2.sz/\n2<=ys.length/\k (.arr sh2 (ys.take n2))
 |_=>False
@[congr] theorem UY {v2 n2:Nat} {b b':Option bf} {k:AV->Prop} (h:b=b'):RC v2 n2 b k=RC v2 n2 b' k:=by rw[h]
def nb (l af i j:Nat)(b:Option bf)(l2 v2 i2 n2:Nat)(m:Mem)(n:Nat)(k:Mem->Prop):Prop:=match b with
 |some (.row v ⟨1,false⟩ true xs)=>v=af/\(n=1/\j=0/\i2=0/\i<xs.length/\l2≠l/\l2<bE)/\RC v2 n2 (ah m l2) λarr=>k ((l,.row v ⟨1,false⟩ true (xs.set i arr))::(l2,.gone v2)::m)
 |b=>dH l af i j b (.ref l2 v2 i2 n2) m n k
@[congr] theorem Rh {l af i j:Nat} {b b':Option bf} {l2 v2 i2 n2:Nat} {m:Mem} {n:Nat} {k:Mem->Prop} (h:b=b'):nb l af i j b l2 v2 i2 n2 m n k=nb l af i j b' l2 v2 i2 n2 m n k:=by rw[h]
theorem uG (l af i j v:Nat)(xs:lA)(l2 v2 i2 n2:Nat)(m:Mem)(n:Nat)(k:Mem->Prop):nb l af i j (some (.box v xs)) l2 v2 i2 n2 m n k=dH l af i j (some (.box v xs)) (.ref l2 v2 i2 n2) m n k:=rfl
def cF (n:Nat)(p y:AV)(m:Mem)(k:Mem->Prop):Prop:=match p,y with
 | .ptr l af i j,.ref l2 v2 i2 n2=>nb l af i j (ah m l) l2 v2 i2 n2 m n k
 |p,y=>kN n p y m k
@[congr] theorem Ri {n:Nat} {p p' y y':AV} {m:Mem} {k:Mem->Prop} (h:p=p') (h':y=y'):cF n p y m k=cF n p' y' m k:=by rw[h,h']
theorem uH (n l af i j l2 v2 i2 n2:Nat)(m:Mem)(k:Mem->Prop):cF n (.ptr l af i j) (.ref l2 v2 i2 n2) m k=nb l af i j (ah m l) l2 v2 i2 n2 m n k:=rfl
theorem uI (n l af i j:Nat)(v:Value)(m:Mem)(k:Mem->Prop):cF n (.ptr l af i j) (.val v) m k=dH l af i j (ah m l) (.val v) m n k:=rfl
theorem uJ (n l af i j:Nat)(ys:lA)(m:Mem)(k:Mem->Prop):cF n (.ptr l af i j) (.agg ys) m k=dH l af i j (ah m l) (.agg ys) m n k:=rfl
theorem uK (n l af i j:Nat)(sh:Sh)(ys:lA)(m:Mem)(k:Mem->Prop):cF n (.ptr l af i j) (.arr sh ys) m k=dH l af i j (ah m l) (.arr sh ys) m n k:=rfl
theorem uL (n l af i j:Nat)(f:fI)(xs:lA)(m:Mem)(k:Mem->Prop):cF n (.ptr l af i j) (.cn f xs) m k=dH l af i j (ah m l) (.cn f xs) m n k:=rfl
section inv
variable {w:World} {S:nP} {φ:Nat->LS}
theorem aS {u v:Value}(h:RV w S φ (.val u) v):u=v/\v.oneCell'=true:=by
 cases h with
 |rd _ _ h=>cases h with|val _ h=>exact ⟨rfl,h⟩
theorem rP {v:Value}(h:RV w S φ .e0 v):∃a,v= .slice a 0 0:=by
 cases h with
 |rd _ _ h=>cases h with|e0 a=>exact ⟨a,rfl⟩
theorem ma {sh:Sh}{xs:lA}{v:Value}(h:RV w S φ (.arr sh xs) v):Rd w S (.arr sh xs) v:=by
 cases h with
 |rd _ _ h=>exact h
theorem pI {sh:Sh}{xs:lA}{i j:Nat}{v:Value}(h:RV w S φ (.bo sh xs i j) v):Rd w S (.bo sh xs i j) v:=by
 cases h with
 |rd _ _ h=>exact h
theorem UZ {xs:lA}{v:Value}(h:RV w S φ (.aX xs) v):∃cs:aV,v= .tuple cs/\cs.size=xs.length/\∀i (h:i<xs.length),RV w S φ xs[i] (cs.toList.getD i uD):=by
 cases h with
 |rd _ _ h=>cases h with|aX _ cs hl hv=>exact ⟨cs,rfl,hl,λi h=>.rd _ _ (hv i h)⟩
 |aX _ cs hl hv=>exact ⟨cs,rfl,hl,hv⟩
theorem nc {xs:lA}{v:Value}(h:RV w S φ (.agg xs) v):∃cs:aV,v= .agg cs/\cs.size=xs.length/\(∀i (h:i<xs.length),leaf xs[i])/\∀i (h:i<xs.length),RV w S φ xs[i] (cs.toList.getD i uD):=by
 cases h with
 |rd _ _ h=>cases h with|agg _ cs hl hf hv=>exact ⟨cs,rfl,hl,hf,λi h=>.rd _ _ (hv i h)⟩
 |agg _ cs hl hf hv=>exact ⟨cs,rfl,hl,hf,hv⟩
theorem CD {f:fI}{xs:lA}{v:Value}(h:RV w S φ (.cn f xs) v):∃cs:aV,v= .func (.func f) #[] cs/\cs.size=xs.length/\∀i (h:i<xs.length),RV w S φ xs[i] (cs.toList.getD i uD):=by
 cases h with
 |rd _ _ h=>cases h with|cn _ _ cs hl hv=>exact ⟨cs,rfl,hl,λi h=>.rd _ _ (hv i h)⟩
 |cn _ _ cs hl hv=>exact ⟨cs,rfl,hl,hv⟩
theorem dt {l af i n:Nat}{v:Value}(h:RV w S φ (.ref l af i n) v):(∀b sh,φ l= .at b sh af->∃a cap,v= .slice a n cap/\n<=cap/\(cap=0\/(a=some ⟨b,i*sh.sz,none⟩/\∃cs e,w.heap[b]? =some (eA cs e)/\cs.size=(i+cap)*sh.sz)))/\(φ l= .nil af->n=0/\∃a,v= .slice a 0 0):=by
 cases h with
 |rd _ _ h=>cases h
 |ref _ _ _ _ _ h1 h2 _=>exact ⟨h1,h2⟩
theorem j0 {l af i j:Nat}{v:Value}(h:RV w S φ (.ptr l af i j) v):∀b sh,φ l= .at b sh af->v= .pointer (some ⟨b,i*sh.sz+j,none⟩):=by
 cases h with
 |rd _ _ h=>cases h
 |ptr _ _ _ _ _ h1 _ _=>exact h1
theorem wk {l af i j:Nat}{v:Value}(h:RV w S φ (.ptr l af i j) v):φ l≠ .nil af/\v.oneCell'=true:=by
 cases h with
 |rd _ _ h=>cases h
 |ptr _ _ _ _ _ _ h2 h3=>exact ⟨h2,h3⟩
theorem KE {v:Value}(h:v.oneCell'=true):RV w S φ (.val v) v:=.rd _ _ (.val v h)
theorem CE (v:Value):Rd w S (CA v) v:=by
 cases v with
 |agg cs=>
  simp only[CA];split
  . rename_i h;refine .agg _ cs (by simp) (λi hi=>by simp[leaf]) λi hi=>?_;have hi':i<cs.toList.length:=(by simpa using hi);have he:cs.toList.getD i uD=cs.toList[i]:=(by rw[q3,q4 hi'];rfl);rw[he];simp only[List.getElem_map];exact .val _ (List.all_eq_true.1 h _ (List.getElem_mem hi'))
  exact .undef _
 |tuple vs=>exact .undef _
 |_=>exact .val _ rfl
theorem wQ (v:Value):ao (CA v)=[]:=by
 cases v with
 |agg cs=>
  simp only[CA];split
  . simp only [ao];generalize cs.toList=l;induction l with
    |nil=>rfl
    |cons x r ih=>simpa [aq,ao] using ih
  rfl
 |_=>rfl
end inv
section
variable {B:eC} {N:Nat} {φ:Nat->LS} {fp:nN} {S:nP} {ts:Env} {m:Mem} {a:Act} {w:World}
theorem RS.ev (h:RS B N φ fp S ts m a w)(x:Operand):RV w S φ (ev ts x) (a.eval x):=by
 cases x with
 |tmp t=>exact h.tm t
 |const v=>exact .rd _ _ (CE v)
 |global g=>exact .rd _ _ (.undef _)
 |func f=>exact .cn f [] #[] rfl λi h=>absurd h (q25 _)
theorem RS.DU (h:RS B N φ fp S ts m a w)(x:Operand):∀l af,(l,af)∈ao (Vc.ev ts x)->known m l af:=by
 cases x with
 |tmp t=>exact h.tl t
 |const v=>intro l af hl;rw[show Vc.ev ts (.const v)=CA v from rfl,wQ] at hl;cases hl
 |global g=>intro l af hl;cases hl
 |func f=>intro l af hl;simp[Vc.ev,ao,aq] at hl
def ia (B:eC)(N:Nat)(K:Env->Mem->Prop)(a:Act)(w:World):Prop:=
 ∃φ fp S ts m,RS B N φ fp S ts m a w/\K ts m
def ir (B:eC)(N:Nat)(a:Act)(k:AV->Env->Mem->Prop)(v:Value)(w:World):Prop:=
 ∃φ fp S ts m x,RS B N φ fp S ts m a w/\RV w S φ x v/\(∀l af,(l,af)∈ao x->known m l af)/\k x ts m
theorem ir.done {k:AV->Env->Mem->Prop}{v:Value}{d:Nat}(hd:d<N)(h:ir B N a k v w){K:Env->Mem->Prop}(hK:∀x ts m,k x ts m->K ((d,x)::ts) m):
 ia B N K (a.put (some d) v) w:=by
 obtain ⟨φ,fp,S,ts,m,x,h1,h2,h3,h4⟩:=h;exact ⟨φ,fp,S,_,m,h1.put d x v hd h2 h3,hK _ _ _ h4⟩
theorem ir.skip {k:AV->Env->Mem->Prop}{v:Value}(h:ir B N a k v w){K:Env->Mem->Prop}(hK:∀x ts m,k x ts m->K ts m):
 ia B N K (a.put none v) w:=by
 obtain ⟨φ,fp,S,ts,m,x,h1,h2,h3,h4⟩:=h;exact ⟨φ,fp,S,_,m,h1,hK _ _ _ h4⟩
def iI (B:eC)(N:Nat)(a:Act)(k:AV->Env->Mem->Prop)(r:Result Value):Prop:=
 ∃v w',r= .ok v w'/\ir B N a k v w'
theorem RS.gives (h:RS B N φ fp S ts m a w){k:AV->Env->Mem->Prop}{x:AV}{v:Value}(hx:RV w S φ x v)(hl:∀l af,(l,af)∈ao x->known m l af)(hk:k x ts m):ir B N a k v w:=
 ⟨φ,fp,S,ts,m,x,h,hx,hl,hk⟩
theorem RS.fg (h:RS B N φ fp S ts m a w){k:AV->Env->Mem->Prop}{v:Value}(hv:v.oneCell'=true)(hk:k (.val v) ts m):ir B N a k v w:=
 h.gives (KE hv) (λ_ _ hl=>by cases hl) hk
def KF (k:AV->Prop)(v:Value):Prop:=v.oneCell'=true/\k (.val v)
theorem pJ {i:IntKind}{n:Int}{c:AV->Prop}(h:ja i n c):c (.val (.int i (i.wrap n))):=by cases i<;>first|exact h|(obtain ⟨h1,h2⟩:=h;rw[IntWalk.i64_in n h1];exact h2)
variable {P:pR}
theorem vP (op:BinOp)(t:TypeId)(x y:Operand)(i j:IntKind)(p q:Int)(w:World):(eqGuard op t x y (.int i p) (.int j q)).run P w= .ok () w:=by cases op<;>simp[eqGuard]
theorem vQ (op:BinOp)(t:TypeId)(x y:Operand)(p q:ByteArray)(w:World):(eqGuard op t x y (.string p) (.string q)).run P w= .ok () w:=by cases op<;>simp[eqGuard]
theorem mo (op:BinOp)(t:TypeId)(x y:Operand)(p q:Bool)(w:World):(eqGuard op t x y (.bool p) (.bool q)).run P w= .ok () w:=by cases op<;>simp[eqGuard]
theorem Ef {op:BinOp}{t:TypeId}{i:IntKind}{p q:Int}{k:AV->Prop}(h:fx op i p q k)(w:World):
 ∃v,(binOp op t (.int i p) (.int i q)).run P w= .ok v w/\KF k v:=by
 cases op
 case shr=>
  have h:0<=q/\k (.val (.int i (p.fdiv (2^(min q.toNat i.bits))))):=h;refine ⟨.int i (p.fdiv (2^(min q.toNat i.bits))),?_,rfl,h.2⟩;show (Op.shift .shr i p i q).run P w=_;unfold Op.shift;rw[if_neg (Int.not_lt.2 h.1)];rfl
 case and=>
  have h:k (.val (.int i (i.wrap (BitVec.ofInt i.bits p &&& BitVec.ofInt i.bits q).toNat))):=h;refine ⟨.int i (i.wrap (BitVec.ofInt i.bits p &&& BitVec.ofInt i.bits q).toNat),?_,rfl,h⟩;simp only[binOp,ne_eq,not_true_eq_false,if_false,Op.intBits];rfl
 all_goals simp only [fx] at h<;>first
  |(exact ⟨_,(by simp[binOp,Op.intArith]),rfl,pJ h⟩)
  |(exact ⟨_,(by simp[binOp,Op.intDiv,h.1]),rfl,pJ h.2⟩)
  |(exact ⟨_,(by simp[binOp,Op.intDiv,h.1]),rfl,h.2⟩)
  |(exact ⟨_,(by simp[binOp,Op.intCmp]),rfl,h⟩)
theorem Eg {op:BinOp}{t:TypeId}{p q:ByteArray}{k:AV->Prop}(h:l_ op p q k)(w:World):
 ∃v,(binOp op t (.string p) (.string q)).run P w= .ok v w/\KF k v:=by
 cases op<;>simp only [l_] at h<;>first
  |(refine ⟨.string (p++q),?_,rfl,h.2⟩
    have h1:¬(((p.size+q.size:Nat):Int)>IntKind.i64.max):=by have:=h.1;have:IntKind.i64.max=9223372036854775807:=(by decide);omega
    simp only[binOp,Op.stringOp,h1,if_false]
    rfl)
  |(exact ⟨_,(by simp[binOp,Op.stringOp]),rfl,h⟩)
theorem fy {t:TypeId}{ti:TI}(h:aL P t=some ti):∃i d z,P.info? t=some i/\P.underlying t=some d/\i.zero=some z/\ti.agg=ka P t/\ti.size=i.size/\ti.bytes=i.bytes/\ti.zero=CA z∧
 ti.fields=(match d with| .struct fs=>fs.toList.map λf=>(f.offset,gG P f.type,ka P f.type)|_=>[])/\ti.elem=(match d with| .slice e=>e|_=>0)∧
 ti.kind=(match d with| .int k=>.int k| .bool=>.bool| .string=>.string| .slice _=>.slice| .struct _=>.struct| .interface _=>.iface|_=>.other):=by
 unfold aL at h;split at h
 . rename_i i d hi hd;split at h
   . rename_i z hz;split at h
     . cases h
     cases h;exact ⟨i,d,z,hi,hd,hz,rfl,rfl,rfl,rfl,rfl,rfl,rfl⟩
   cases h
 cases h
theorem tv {t:TypeId}{ti:TI}(h:aL P t=some ti):∀fs,P.underlying t=some (.struct fs)->∀f,f∈fs.toList->(P.info? f.type).isSome=true/\(P.underlying f.type).isSome=true:=by
 intro fs hfs f hf;unfold aL at h;split at h
 . rename_i i d hi hd;rw [hfs] at hd;cases hd;split at h
   . split at h
     . cases h
     rename_i hn;have hn':fs.toList.all (λf=>(P.info? f.type).isSome&&(P.underlying f.type).isSome)=true:=(Bool.not_eq_false _).mp hn;simpa using List.all_eq_true.1 hn' f hf
   cases h
 cases h
theorem Aj {t:TypeId}{ti:TI}(h:aL P t=some ti)(hk:ti.kind= .bool):P.underlying t=some .bool:=by obtain ⟨i,d,z,hi,hd,hz,_,_,_,_,_,_,hkk⟩:=fy h;rw[hd];rw[hk] at hkk;cases d<;>simp at hkk<;>rfl
theorem rQ {t:TypeId}{ti:TI}{k:IntKind}(h:aL P t=some ti)(hk:ti.kind= .int k):P.underlying t=some (.int k):=by obtain ⟨i,d,z,hi,hd,hz,_,_,_,_,_,_,hkk⟩:=fy h;rw[hd];rw[hk] at hkk;cases d<;>simp at hkk;rw[hkk]
theorem eE {t:TypeId}{ti:TI}(h:aL P t=some ti)(hk:ti.kind= .string):P.underlying t=some .string:=by obtain ⟨i,d,z,hi,hd,hz,_,_,_,_,_,_,hkk⟩:=fy h;rw[hd];rw[hk] at hkk;cases d<;>simp at hkk<;>rfl
theorem Hl {t:TypeId}{ti:TI}(h:aL P t=some ti)(hk:ti.kind= .iface):∃ms,P.underlying t=some (.interface ms):=by obtain ⟨i,d,z,hi,hd,hz,_,_,_,_,_,_,hkk⟩:=fy h;rw[hd];rw[hk] at hkk;cases d<;>simp at hkk;exact ⟨_,rfl⟩
theorem bN {t:TypeId}{ti:TI}(h:aL P t=some ti)(hk:ti.kind= .slice):P.underlying t=some (.slice ti.elem):=by obtain ⟨i,d,z,hi,hd,hz,_,_,_,_,_,he,hkk⟩:=fy h;rw[hd];rw[hk] at hkk;cases d<;>simp at hkk;rw[he]
theorem RD {op:BinOp}{t:TypeId}{ti:TI}(ht:aL P t=some ti){x y:AV}{u v:Value}(hx:RV w S φ x u)(hy:RV w S φ y v){ox oy:Operand}{k:AV->Prop}
 (h:kL op ti.kind x y k):∃r,(do eqGuard op t ox oy u v;binOp op t u v:Sem Value).run P w= .ok r w/\KF k r:=by
 unfold kL at h;split at h
 . obtain ⟨rfl,_⟩:=aS hx;obtain ⟨rfl,_⟩:=aS hy;obtain ⟨rfl,h⟩:=h;obtain ⟨r,h1,h2⟩:=Ef (P:=P) (t:=t) h w;exact ⟨r,by simp[vP,h1],h2⟩
 . obtain ⟨rfl,_⟩:=aS hx;obtain ⟨rfl,_⟩:=aS hy;obtain ⟨r,h1,h2⟩:=Eg (P:=P) (t:=t) h w;exact ⟨r,by simp[vQ,h1],h2⟩
 . obtain ⟨rfl,_⟩:=aS hx;obtain ⟨rfl,_⟩:=aS hy;split at h
   . rename_i hk;exact ⟨_,(by simp[mo,binOp,Op.equal,Op.maxDepth,run_equalIn_bool' w 9999 t _ _ (Aj ht (by assumption))]),rfl,h⟩
   . rename_i hk;exact ⟨_,(by simp[mo,binOp,Op.equal,Op.maxDepth,run_equalIn_bool' w 9999 t _ _ (Aj ht (by assumption))]),rfl,h⟩
   exact h.elim
 exact h.elim
inductive FK where
 |int (k:IntKind)
 |bool
 |string
def Eh (P:pR):Nat->List Field->Option (List FK)
 |_,[]=>some []
 |o,f::r=>if f.name≠ "_" ∧f.offset=o then match P.underlying f.type with
   |some (.int k)=>(Eh P (o+1) r).map (FK.int k:: ·)
   |some .bool=>(Eh P (o+1) r).map (FK.bool:: ·)
   |some .string=>(Eh P (o+1) r).map (FK.string:: ·)
   |_=>none
  else none
def JG (P:pR)(t:TypeId):Option (List FK):=
 if P.stoodInHeld t=false/\P.eqGuardType P.depth t=false then match P.underlying t with
  |some (.struct fs)=>Eh P 0 fs.toList
  |_=>none
 else none
def U0 (x:Option (List FK))(k:List FK->Prop):Prop:=match x with|some l=>k l|none=>False
@[congr] theorem Wo {x x':Option (List FK)} {k:List FK->Prop} (h:x=x'):U0 x k=U0 x' k:=by rw[h]
theorem Ei (l:List FK)(k:List FK->Prop):U0 (some l) k=k l:=rfl
def jg (f:FK)(x y:AV)(k:Bool->Prop):Prop:=match f,x,y with
 | .int i,.val (.int j a),.val (.int j' b)=>(j=i/\j'=i)/\k (a==b)
 | .bool,.val (.bool a),.val (.bool b)=>k (a==b)
 | .string,.val (.string a),.val (.string b)=>k (a.toList==b.toList)
 |_,_,_=>False
theorem wR (i:IntKind)(a b:Int)(k:Bool->Prop):jg (.int i) (.val (.int i a)) (.val (.int i b)) k=k (a==b):=by simp[jg]
def nY (k:Bool->Prop):Bool->List FK->lA->lA->Prop
 |acc,[],[],[]=>k acc
 |acc,f::fs,x::xs,y::ys=>jg f x y λb=>nY k (acc&&b) fs xs ys
 |_,_,_,_=>False
theorem Ak (k:Bool->Prop)(acc:Bool):nY k acc [] [] []=k acc:=rfl
theorem wS (k:Bool->Prop)(acc:Bool)(f:FK)(fs:List FK)(x y:AV)(xs ys:lA):nY k acc (f::fs) (x::xs) (y::ys)=jg f x y λb=>nY k (acc&&b) fs xs ys:=rfl
def KG (op:BinOp)(c:Bool)(k:AV->Prop):Prop:=match op with| .eql=>k (.val (.bool c))| .neq=>k (.val (.bool (!c)))|_=>False
theorem Ej (c:Bool)(k:AV->Prop):KG .neq c k=k (.val (.bool (!c))):=rfl
def rR (P:pR)(t:TypeId)(op:BinOp):Option Bool:=match P.underlying t,op with
 |some (.func _ _ _),.eql=>some true
 |some (.func _ _ _),.neq=>some false
 |_,_=>none
def Al (x:Option Bool)(k:Bool->Prop):Prop:=match x with|some b=>k b|none=>False
@[congr] theorem TL {x x':Option Bool} {k:Bool->Prop} (h:x=x'):Al x k=Al x' k:=by rw[h]
theorem wT (b:Bool)(k:Bool->Prop):Al (some b) k=k b:=rfl
def gq (P:pR)(t:TypeId)(op:BinOp)(a b:AV)(k:AV->Prop)(rest:Prop):Prop:=match a,b with
 | .agg xs,.agg ys=>U0 (JG P t) λks=>nY (λc=>KG op c k) true ks xs ys
 | .val .nilFunc,.val .nilFunc=>Al (rR P t op) λc=>k (.val (.bool c))
 |_,_=>rest
@[congr] theorem TM {P:pR} {t:TypeId} {op:BinOp} {a b a' b':AV} {k:AV->Prop} {rest:Prop} (h:a=a') (h':b=b'):gq P t op a b k rest=gq P t op a' b' k rest:=by rw[h,h']
theorem Am (P:pR)(t:TypeId)(op:BinOp)(xs ys:lA)(k:AV->Prop)(rest:Prop):gq P t op (.agg xs) (.agg ys) k rest=U0 (JG P t) λks=>nY (λc=>KG op c k) true ks xs ys:=rfl
theorem Ek (P:pR)(t:TypeId)(op:BinOp)(k:AV->Prop)(rest:Prop):gq P t op (.val .nilFunc) (.val .nilFunc) k rest=Al (rR P t op) λc=>k (.val (.bool c)):=rfl
theorem An (P:pR)(t:TypeId)(op:BinOp)(i:IntKind)(n:Int)(b:AV)(k:AV->Prop)(rest:Prop):gq P t op (.val (.int i n)) b k rest=rest:=by cases b<;>rfl
theorem wU (P:pR)(t:TypeId)(op:BinOp)(n:Bool)(b:AV)(k:AV->Prop)(rest:Prop):gq P t op (.val (.bool n)) b k rest=rest:=by cases b<;>rfl
theorem rS (P:pR)(t:TypeId)(op:BinOp)(n:ByteArray)(b:AV)(k:AV->Prop)(rest:Prop):gq P t op (.val (.string n)) b k rest=rest:=by cases b<;>rfl
theorem uM (P:pR)(t:TypeId)(op:BinOp)(x:Option Addr)(n c:Nat)(b:AV)(k:AV->Prop)(rest:Prop):gq P t op (.val (.slice x n c)) b k rest=rest:=by cases b<;>rfl
theorem oI (P:pR)(t:TypeId)(op:BinOp)(b:AV)(k:AV->Prop)(rest:Prop):gq P t op (.val .nilIface) b k rest=rest:=by cases b<;>rfl
theorem uN (P:pR)(t:TypeId)(op:BinOp)(t2:TypeId)(v:Value)(b:AV)(k:AV->Prop)(rest:Prop):gq P t op (.val (.iface t2 v)) b k rest=rest:=by cases b<;>rfl
theorem Ao (P:pR)(t:TypeId)(op:BinOp)(sh:Sh)(xs:lA)(b:AV)(k:AV->Prop)(rest:Prop):gq P t op (.arr sh xs) b k rest=rest:=by cases b<;>rfl
theorem Ap {t:TypeId}{cs:aV}{o:Nat}{v:Value}(ht:ka P t=false)(hu:(P.underlying t).isSome=true)(hv:cs[o]? =some v)(w:World):(part t cs o).run P w= .ok v w:=by
 unfold part;rw [Sem.run_bind];have:(isAgg t).run P w= .ok false w:=by
  unfold isAgg;cases hd:P.underlying t with
  |none=>rw[hd] at hu;cases hu
  |some d=>
   simp only[Sem.run_bind,run_underlying hd,Result.andThen_ok];unfold ka at ht;rw[hd] at ht;cases d<;>first|rfl|simp_all
 rw[this];simp[hv]
theorem JH {d:Nat}{cs ds:aV}:∀(fs:List Field) (o:Nat) (ks:List FK) (xs ys:lA) (acc:Bool) (k:Bool->Prop),Eh P o fs=some ks->nY k acc ks xs ys→
 (∀i (h:i<xs.length),RV w S φ xs[i] (cs.toList.getD (o+i) uD))->(∀i (h:i<ys.length),RV w S φ ys[i] (ds.toList.getD (o+i) uD))→
 o+xs.length<=cs.size->o+ys.length<=ds.size->∃c:Bool,(Op.eqFields (d+1) cs ds fs).run P w= .ok c w/\k (acc&&c)
 | [],o,ks,xs,ys,acc,k,hf,hk,hx,hy,hc,hd=>by
   simp only[Eh,Option.some.injEq] at hf;subst hf;cases xs with
   |cons=>cases ys<;>exact hk.elim
   |nil=>
    cases ys with
    |cons=>exact hk.elim
    |nil=>exact ⟨true,rfl,by rw[Bool.and_true];exact hk⟩
 |f::fs,o,ks,xs,ys,acc,k,hf,hk,hx,hy,hc,hd=>by
  unfold Eh at hf;split at hf
  . rename_i hn
    have key:∀(fk:FK) (r:List FK),Eh P (o+1) fs=some r->ks=fk::r->ka P f.type=false->(P.underlying f.type).isSome=true→
     (∀(x y:AV)(u v:Value)(k':Bool->Prop),RV w S φ x u->RV w S φ y v->jg fk x y k'->∃b,(Op.equalIn (d+1) f.type u v).run P w= .ok b w/\k' b)→
     ∃c:Bool,(Op.eqFields (d+1) cs ds (f::fs)).run P w= .ok c w/\k (acc&&c):=by
     rintro fk r hr rfl ha hu vN;cases xs with
     |nil=>cases ys<;>exact hk.elim
     |cons x xs=>
      cases ys with
      |nil=>exact hk.elim
      |cons y ys=>
       have hk:jg fk x y λb=>nY k (acc&&b) r xs ys:=hk;have hx0:=hx 0 (by simp);have hy0:=hy 0 (by simp);simp only[List.length_cons] at hc hd;have gx:cs[o]? =some (cs.toList.getD (o+0) uD):=by have:o<cs.size:=(by omega);simp[q3,this]
       have gy:ds[o]? =some (ds.toList.getD (o+0) uD):=by have:o<ds.size:=(by omega);simp[q3,this]
       obtain ⟨b,hb,hk2⟩:=vN _ _ _ _ _ hx0 hy0 hk;simp only[Op.eqFields];rw[if_pos hn.1,hn.2];simp only[Sem.run_bind,Ap ha hu gx,Ap ha hu gy,Result.andThen_ok];rw[hb];simp only[Result.andThen_ok];cases b with
       |false=>
        simp only [Bool.not_false,if_true];have:∀(fs:List FK) (xs ys:lA) (k:Bool->Prop),nY k false fs xs ys->k false:=by
         intro fs;induction fs with
         |nil=>intro xs ys k h;cases xs<;>cases ys<;>first|exact h|exact h.elim
         |cons f fs ih=>
          intro xs ys k h;cases xs with
          |nil=>cases ys<;>exact h.elim
          |cons x xs=>
           cases ys with
           |nil=>exact h.elim
           |cons y ys=>
            have h:jg f x y λb=>nY k (false&&b) fs xs ys:=h;have:∃b,nY k (false&&b) fs xs ys:=by
             unfold jg at h;split at h
             . exact ⟨_,h.2⟩
             . exact ⟨_,h⟩
             . exact ⟨_,h⟩
             exact h.elim
            obtain ⟨b,hb⟩:=this;rw[Bool.false_and] at hb;exact ih _ _ _ hb
        refine ⟨false,rfl,?_⟩;rw[Bool.and_false] at hk2 ⊢;exact this _ _ _ _ hk2
       |true=>
        simp only[Bool.not_true,Bool.false_eq_true,if_false];rw[Bool.and_true] at hk2;refine JH fs (o+1) r xs ys acc k hr hk2 (λi hi=>?_) (λi hi=>?_) (by omega) (by omega)
        . have:=hx (i+1) (by simpa using hi);rw[show o+1+i=o+(i+1) by omega];simpa using this
        have:=hy (i+1) (by simpa using hi);rw[show o+1+i=o+(i+1) by omega];simpa using this
    split at hf
    . rename_i i hu;obtain ⟨r,hr,rfl⟩:=Option.map_eq_some_iff.1 hf;refine key _ r hr rfl (by simp [ka,hu]) (by simp [hu]) λx y u v k' hx hy hk'=> ?_;unfold jg at hk';split at hk'
      . rename_i e;cases e;obtain ⟨rfl,_⟩:=aS hx;obtain ⟨rfl,_⟩:=aS hy;obtain ⟨⟨rfl,rfl⟩,hk2⟩:=hk';exact ⟨_,run_equalIn_int w d f.type _ _ _ _ hu,hk2⟩
      . rename_i e;cases e
      . rename_i e;cases e
      exact hk'.elim
    . rename_i hu;obtain ⟨r,hr,rfl⟩:=Option.map_eq_some_iff.1 hf;refine key _ r hr rfl (by simp [ka,hu]) (by simp [hu]) λx y u v k' hx hy hk'=> ?_;unfold jg at hk';split at hk'
      . rename_i e;cases e
      . obtain ⟨rfl,_⟩:=aS hx;obtain ⟨rfl,_⟩:=aS hy;exact ⟨_,run_equalIn_bool' w d f.type _ _ hu,hk'⟩
      . rename_i e;cases e
      exact hk'.elim
    . rename_i hu;obtain ⟨r,hr,rfl⟩:=Option.map_eq_some_iff.1 hf;refine key _ r hr rfl (by simp [ka,hu]) (by simp [hu]) λx y u v k' hx hy hk'=> ?_;unfold jg at hk';split at hk'
      . rename_i e;cases e
      . rename_i e;cases e
      . obtain ⟨rfl,_⟩:=aS hx;obtain ⟨rfl,_⟩:=aS hy;exact ⟨_,run_equalIn_string w d f.type _ _ hu,hk'⟩
      exact hk'.elim
    cases hf
  cases hf
theorem NG {op:BinOp}{t:TypeId}{x y:AV}{u v:Value}(hx:RV w S φ x u)(hy:RV w S φ y v){ox oy:Operand}{k:AV->Prop}{rest:Prop}(h:gq P t op x y k rest)
 (hr:rest->∃r,(do eqGuard op t ox oy u v;binOp op t u v:Sem Value).run P w= .ok r w/\KF k r):∃r,(do eqGuard op t ox oy u v;binOp op t u v:Sem Value).run P w= .ok r w/\KF k r:=by
 unfold gq at h;split at h
 . rename_i xs ys;unfold U0 at h;split at h
   . rename_i ks hks;unfold JG at hks;split at hks
     . rename_i hst;split at hks
       . rename_i fs hfs;obtain ⟨cs,rfl,hc1,_,hc2⟩:=nc hx;obtain ⟨ds,rfl,hd1,_,hd2⟩:=nc hy;have hfo:P.fieldsOf t=fs:=(by simp [Program.fieldsOf,hfs]);obtain ⟨c,h1,h2⟩:=JH (d:=9998) (cs:=cs) (ds:=ds) fs.toList 0 ks xs ys true _ hks h (λi hi=>by rw [q26];exact hc2 i hi) (λi hi=>by rw [q26];exact hd2 i hi) (by omega) (by omega);have he:(Op.equalIn 10000 t (.agg cs) (.agg ds)).run P w= .ok c w:=by
          rw[run_equalIn_agg w 9999 t cs ds (by rw[hfo];exact hfs) hst.1,hfo];exact h1
         rw[Bool.true_and] at h2;unfold KG at h2;split at h2
         . exact ⟨.bool c,by simp only[Sem.run_bind,run_eqGuard_agg w _ t ox oy cs ds hst.2,Result.andThen_ok,run_eql_struct,he],rfl,h2⟩
         . exact ⟨.bool (!c),by simp only[Sem.run_bind,run_eqGuard_agg w _ t ox oy cs ds hst.2,Result.andThen_ok,run_neq_struct,he],rfl,h2⟩
         exact h2.elim
       cases hks
     cases hks
   exact h.elim
 . obtain ⟨rfl,_⟩:=aS hx;obtain ⟨rfl,_⟩:=aS hy;have hg:(eqGuard op t ox oy .nilFunc .nilFunc).run P w= .ok () w:=(by cases op<;>simp [eqGuard]);unfold Al at h;split at h
   . rename_i c hc;unfold rR at hc;split at hc
     . rename_i hu;injection hc with hc
       subst hc;have e2:∀(d:Nat),(Op.equalIn (d+1) t .nilFunc .nilFunc).run P w= .ok true w:=λd=>by rw[Op.equalIn];simp[run_underlying hu]
       exact ⟨_,(by simp only[Sem.run_bind,hg,Result.andThen_ok,binOp,Op.equal,Op.maxDepth];simp[e2]),rfl,h⟩
     . rename_i hu;injection hc with hc
       subst hc;have e2:∀(d:Nat),(Op.equalIn (d+1) t .nilFunc .nilFunc).run P w= .ok true w:=λd=>by rw[Op.equalIn];simp[run_underlying hu]
       exact ⟨_,(by simp only[Sem.run_bind,hg,Result.andThen_ok,binOp,Op.equal,Op.maxDepth];simp[e2]),rfl,h⟩
     cases hc
   exact h.elim
 exact hr h
end
theorem Addr.kO (b o n:Nat):(⟨b,o,none⟩:Addr).add n=⟨b,o+n,none⟩:=by unfold Addr.add;split<;>simp_all
theorem JI {w:World}{b:Nat}{cs:aV}{e:TypeId}{fr:Nat × Nat}(hb:w.heap[b]? =some (.cells cs e fr))(o:Nat)(ho:o<cs.size):
 w.cell? ⟨b,o,none⟩=some (cs.toList.getD o uD):=by
 have h1:cs[o]? =some cs[o]:=Array.getElem?_eq_getElem ho;have h2:cs.toList.getD o uD=cs[o]:=by rw[q3,Array.getElem?_toList,h1];rfl
 rw[h2];simp[World.cell?,hb,h1]
theorem wV {l:lV}{o n:Nat}(h:o+n<=l.length):(List.range n).map (λj=>l.getD (o+j) uD)=(l.drop o).take n:=by
 apply List.ext_getElem
 . simp;omega
 intro i h1 h2;simp only[List.length_map,List.length_range] at h1;simp only[List.getElem_map,List.getElem_range,q8,q6];rw[q3,q4 (by omega)];rfl
theorem mq {P:pR}{w:World}{b:Nat}{cs:aV}{e:TypeId}{fr:Nat × Nat}(hb:w.heap[b]? =some (.cells cs e fr))(o n:Nat)(ho:o+n<=cs.size):
 (loadCells ⟨b,o,none⟩ n).run P w= .ok ((cs.toList.drop o).take n).toArray w:=by
 have h:=run_loadCells (P:=P) w ⟨b,o,none⟩ n (λj=>cs.toList.getD (o+j) uD) (by
  intro j hj;rw[Addr.kO]
  exact JI hb (o+j) (by omega))
 rw[h,wV (by simpa using ho)]
theorem KH {P:pR}{t:TypeId}{ti:TI}(ht:aL P t=some ti)(w:World):(isAgg t).run P w= .ok ti.agg w:=by obtain ⟨i,d,z,hi,hd,hz,ha,_⟩:=fy ht;rw[ha];unfold isAgg ka;simp only[Sem.run_bind,run_underlying hd,Result.andThen_ok,hd];cases d<;>rfl
theorem ji {P:pR}{t:TypeId}{ti:TI}(ht:aL P t=some ti)(w:World):(sizeOf t).run P w= .ok ti.size w:=by obtain ⟨i,d,z,hi,hd,hz,ha,hs,_⟩:=fy ht;simp[sizeOf,typeInfo,hi,hs]
theorem db {P:pR}{w:World}{t:TypeId}{ti:TI}(ht:aL P t=some ti){b:Nat}{cs:aV}{e:TypeId}{fr:Nat × Nat}
 (hb:w.heap[b]? =some (.cells cs e fr)) (o:Nat) (h1:ti.agg=true->o+ti.size<=cs.size) (h2:ti.agg=false->o<cs.size):
 (loadVar t ⟨b,o,none⟩).run P w= .ok (elemV cs.toList o ti.sh) w:=by
 unfold loadVar;simp only[Sem.run_bind,KH ht,Result.andThen_ok];cases hag:ti.agg with
 |true=>
  simp[ji ht,mq (P:=P) hb o ti.size (h1 hag),elemV,TI.sh,hag]
 |false=>
  simp[JI hb o (h2 hag),elemV,TI.sh,hag]
theorem KI {ag:Bool}{n j:Nat}{x:AV}{k:AV->Prop}(h:dj ag n j x k):∃y,k y/\∀k':AV->Prop,k' y->dj ag n j x k':=by
 cases ag with
 |true=>
  cases x with
  |agg ys=>exact ⟨_,h.2,λk' hk=>⟨h.1,hk⟩⟩
  |_=>exact h.elim
 |false=>
  cases x with
  |agg ys=>
   simp only[dj] at h ⊢;cases hy:ys[j]? with
   |none=>rw[hy] at h;exact h.elim
   |some y=>rw[hy] at h;exact ⟨y,h,λk' hk=>hk⟩
  |undef=>exact h.elim
  |aX xs=>exact h.elim
  |_=>exact ⟨_,h.2,λk' hk=>⟨h.1,hk⟩⟩
section
variable {w:World} {S:nP} {φ:Nat->LS}
theorem cV (l:lV)(o n:Nat):elemV l o ⟨n,true⟩= .agg ((l.drop o).take n).toArray:=rfl
theorem bd (l:lV)(o n:Nat):elemV l o ⟨n,false⟩=l.getD o uD:=rfl
theorem bT (l:lV)(o n i:Nat)(h:i<n):((l.drop o).take n).getD i uD=l.getD (o+i) uD:=by simp only[q3,List.getElem?_take,List.getElem?_drop,h,if_true]
theorem RE {R:AV->Value->Prop}(QV:∀xs v,R (.agg xs) v->∃cs:aV,v= .agg cs/\cs.size=xs.length/\(∀i (h:i<xs.length),leaf xs[i])/\∀i (h:i<xs.length),R xs[i] (cs.toList.getD i uD))
 (lz:∀(xs:lA)(cs:aV),cs.size=xs.length->(∀i (h:i<xs.length),leaf xs[i])->(∀i (h:i<xs.length),R xs[i] (cs.toList.getD i uD))->R (.agg xs) (.agg cs))
 {sh:Sh} {x:AV} {l:lV} {o:Nat} (hx:R x (elemV l o sh)) (hf:fits sh x) (hlen:o+sh.sz<=l.length) {ag:Bool} {n j:Nat} {k:AV->Prop} (h:dj ag n j x k):
 (ag=true->o+j+n<=l.length)/\(ag=false->o+j<l.length)/\∃y,R y (elemV l (o+j) ⟨n,ag⟩)/\k y:=by
 cases x with
 |agg ys=>
  obtain ⟨hag,hsz⟩:=hf;cases sh with
  |mk sz ag'=>
  simp only at hag hsz hlen;subst hag;obtain ⟨cs,hcs,hl,hlf,hr⟩:=QV ys _ hx;rw[cV] at hcs;cases hcs;cases ag with
  |true=>
   obtain ⟨h1,h2⟩:=h;refine ⟨λ_=>(by omega),λh=>(by cases h),_,?_,h2⟩;rw[cV];refine lz _ _ (by simp;omega) (λi hi=>?_) λi hi=>?_
   . simp only[q11,q9] at hi;simp only[q8,q6];exact hlf _ (by omega)
   simp only[q11,q9] at hi;simp only[q8,q6];have:=hr (j+i) (by omega);rw[bT _ _ _ _ (by omega),Nat.add_assoc]
   rwa [bT _ _ _ _ (by omega)] at this
  |false=>
   simp only[dj] at h;cases hj:ys[j]? with
   |none=>rw[hj] at h;exact h.elim
   |some y=>
    rw[hj] at h;obtain ⟨hj1,hj2⟩:=q5.1 hj;refine ⟨λh=>(by cases h),λ_=>(by omega),y,?_,h⟩;have:=hr j hj1;rw[hj2] at this;rw[bd]
    rwa [bT _ _ _ _ (by omega)] at this
 |undef=>exact hf.elim
 |aX xs=>exact hf.elim
 |_=>
  obtain ⟨hag,hsz⟩:=hf;cases sh with
  |mk sz ag'=>
  simp only at hag hsz hlen;subst hag;cases ag with
  |true=>exact h.elim
  |false=>
   obtain ⟨rfl,h2⟩:=h;exact ⟨λh=>(by cases h),λ_=>(by omega),_,hx,h2⟩
theorem oJ {xs:lA}{v:Value}(h:Rd w S (.agg xs) v):∃cs:aV,v= .agg cs/\cs.size=xs.length/\(∀i (h:i<xs.length),leaf xs[i])/\∀i (h:i<xs.length),Rd w S xs[i] (cs.toList.getD i uD):=by cases h with|agg _ cs hl hf hv=>exact ⟨cs,rfl,hl,hf,hv⟩
theorem CF {sh:Sh}{x:AV}{l:lV}{o:Nat}(hx:Rd w S x (elemV l o sh))(hf:fits sh x)(hlen:o+sh.sz<=l.length){ag:Bool}{n j:Nat}{k:AV->Prop}(h:dj ag n j x k):
 (ag=true->o+j+n<=l.length)/\(ag=false->o+j<l.length)/\∃y,Rd w S y (elemV l (o+j) ⟨n,ag⟩)/\k y:=
 RE (R:=Rd w S) (λ_ _ h=>oJ h) (λxs cs h1 h2 h3=>.agg xs cs h1 h2 h3) hx hf hlen h
theorem fY {x:AV}{v:Value}(h:Rd w S x v):ao x=[]:=by
 have key:∀xs:lA,(∀i (h:i<xs.length),ao xs[i]=[])->aq xs=[]:=by
  intro xs;induction xs with
  |nil=>intro _;rfl
  |cons x r ih=>
   intro h;simp only[aq];rw[show ao x=[] from h 0 (by simp),ih λi hi=>h (i+1) (by simpa using hi)];rfl
 induction h with
 |agg xs cs hl hf _ ih=>simp only[ao];exact key xs ih
 |aX xs cs hl _ ih=>simp only[ao];exact key xs ih
 |cn f xs cs hl _ ih=>simp only[ao];exact key xs ih
 |_=>rfl
end
section
variable {P:pR} {B:eC} {N:Nat} {φ:Nat->LS} {fp:nN} {S:nP} {ts:Env} {m:Mem} {a:Act} {w:World}
theorem a8 {i n s:Nat}(h:i<n):i*s+s<=n*s:=by have:=q23 s (show i+1<=n from h);rw[q19,Nat.one_mul] at this;exact this
theorem fA {S S':nP}{x:AV}{v:Value}{fs:lN}(h:Own w S x v fs)(hf:cg x=true):Rd w S' x v/\fs=[]:=by
 have rdc:∀(x:AV) (v:Value),Rd w S x v->cg x=true->Rd w S' x v:=by
  intro x v h;induction h with
  |val v h=>exact λ_=>.val v h
  |e0 a=>exact λ_=>.e0 a
  |agg xs cs hl hf' _ ih=>
   intro hf;have cP:∀(xs:lA),bm xs=true->∀i (h:i<xs.length),cg xs[i]=true:=by
    intro xs;induction xs with
    |nil=>intro _ i h;exact absurd h (q25 _)
    |cons x r ih2=>
     intro hh i hi;simp only[bm,Bool.and_eq_true] at hh;cases i with
     |zero=>exact hh.1
     |succ i=>exact ih2 hh.2 i (by simpa using hi)
   exact .agg xs cs hl hf' λi hi=>ih i hi (cP xs hf i hi)
  |_=>intro hf;cases hf
 induction h with
 |rd x v h=>exact ⟨rdc x v h hf,rfl⟩
 |agg xs cs fss hl hlf hs _ ih=>
  have cP:∀(xs:lA),bm xs=true->∀i (h:i<xs.length),cg xs[i]=true:=by
   intro xs;induction xs with
   |nil=>intro _ i h;exact absurd h (q25 _)
   |cons x r ih2=>
    intro hh i hi;simp only[bm,Bool.and_eq_true] at hh;cases i with
    |zero=>exact hh.1
    |succ i=>exact ih2 hh.2 i (by simpa using hi)
  refine ⟨.agg xs cs hl hlf λi hi=>(ih i hi (cP xs hf i hi)).1,?_⟩;have:∀l,l∈fss->l=[]:=by
   intro l hl;obtain ⟨i,hi,rfl⟩:=List.getElem_of_mem hl;have:=(ih i (hs▸hi) (cP xs hf i (hs▸hi))).2
   rwa [q3,q4 hi] at this
  exact q2.2 this
 |arr=>cases hf
 |aX=>cases hf
theorem RS.CG (h:RS B N φ fp S ts m a w){l v b cap:Nat}{sh:Sh}{xs:lA}(hlk:ah m l=some (.row v sh true xs))(hφ:φ l= .at b sh v){cs:aV}{e:El}{fss:List lN}
 (hgf:fp l=b::fss.flatten) (aD:w.heap[b]? =some (eA cs e)) (hcs:cs.size=cap*sh.sz) (b_:xs.length<=cap) (hmx:cap<=maxLen) (hff:∀i (h:i<xs.length),fits sh xs[i])
 (hfl:fss.length=xs.length) (hvv:∀i (h:i<xs.length),Own w (λ_=>False) xs[i] (elemV cs.toList (i*sh.sz) sh) (fss.getD i [])) (hio:l<bE):
 ∃S',RS B N (nX φ l (φ l)) (nX fp l [b]) S' ts ((l,.row v sh false xs)::m) a w/\(∀c,S c->S' c)/\∀c,c∈fss.flatten->S' c:=by
 refine ⟨λc=>S c\/c∈fss.flatten,?_,λ_ h=>.inl h,λ_ h=>.inr h⟩;have nW:=h.hZ l;rw[hgf] at nW;have hb1:b∉fss.flatten:=(q14.1 nW).1;have hin:∀c,c∈fss.flatten->c∈fp l:=λc hc=>by rw[hgf];exact q12 _ hc
 have wc:b∈fp l:=by rw[hgf];exact q13 ..
 refine h.next l (φ l) [b] _ (.row v sh false xs) (q20 _) (a7.refl _) (jI.refl _) (λ_ _ _=>rfl) (λc hc=>⟨.inl hc,rfl⟩) ?_ (λl b sh af cs e _ hb=>⟨cs,e,hb,rfl⟩) (λ_ _ _ _=>rfl) (λaf _=>LS.le_refl _ _) ?_ ?_ (λ_ _ hk=>by cases hk) (by simp) ?_
 . intro c h1 h2;rcases h1 with h1|h1
   . exact absurd h1 h2
   have:=h.cu l c (hin c h1);exact ⟨this.1,.inl (this.2.resolve_right λhh=>q21 _ (q22 hio hh.choose_spec.2.1)),λl' hl' hc=>hl' (h.fL l' l c hc (hin c h1))⟩
 . rintro af ⟨k',h1,h2⟩;rw[hlk] at h1;cases h1;exact h2
 . refine .inr ⟨b,cap,by rw [aB];exact hφ,by simp,λ_=>rfl,?_⟩;have:[b]=b::(q15 xs.length ([]:lN)).flatten:=by
    congr 1;exact (q2.2 λl hl=>(List.mem_replicate.1 hl).2).symm
   rw[this];refine .arr sh xs b cap cs e _ aD hcs b_ hmx hff (by simp) λi hi=>?_;have e1:(q15 xs.length ([]:lN)).getD i []=[]:=(by simp[q3,hi]);rw[e1];exact .rd _ _ ((hvv i hi).mm (λ_ h=>h.elim) λc hc=>.inr (aK (hfl▸hi) hc))
 intro c hc;have hcb:c=b:=by simpa using hc
 subst hcb;have:=h.cu l c wc;refine ⟨λhs=>?_,λl' hl' hc=>hl' (h.fL l' l c hc wc),this.1,this.2⟩;rcases hs with hs|hs
 . exact h.bS l c wc hs
 exact hb1 hs
theorem run_load {t:TypeId}{ti:TI}(ht:aL P t=some ti)(h:RS B N φ fp S ts m a w){p:AV}{v:Value}(hp:RV w S φ p v)(hpl:∀l af,(l,af)∈ao p->known m l af){k:AV->Mem->Prop}
 (hk:oG ti.agg ti.size p m k):iI B N a (λx ts' m'=>ts'=ts/\k x m') ((Instr.loadAt t v).run P w):=by
 have zt:∀(b o:Nat)(r:Value),(loadVar t ⟨b,o,none⟩).run P w= .ok r w->(Instr.loadAt t (.pointer (some ⟨b,o,none⟩))).run P w= .ok r w:=by intro b o r hr;simp[Instr.loadAt,Instr.sureAddr,hr]
 unfold oG at hk;split at hk
 . rename_i l af i j;have hp1:=j0 hp;unfold dV at hk;split at hk
   . rename_i v' xs hlk;obtain ⟨rfl,rfl,hk⟩:=hk;have hb:=h.aG l _ hlk;obtain ⟨b,cs,e,sh,hφ,hfs,aD,hsz,hlf,hr⟩:=hb;have hpv:=hp1 b sh hφ;rw [q27,q26] at hpv;subst hpv;cases hag:ti.agg with
     |true=>
      simp only[hag,if_true] at hk;obtain ⟨hlen,hk⟩:=hk;refine ⟨_,w,zt _ _ _ (db ht aD j (λ_=>by omega) (λh=>by rw[hag] at h;cases h)),?_⟩;refine h.gives (x:=.agg ((xs.drop j).take ti.size)) ?_ ?_ ⟨rfl,hk⟩
      . rw [show ti.sh=⟨ti.size,true⟩ by simp [TI.sh,hag],cV];refine .agg _ _ (by simp;omega) (λi hi=> ?_) λi hi=> ?_
        . simp only[q11,q9] at hi;simp only[q8,q6];exact hlf _ (by omega)
        simp only[q11,q9] at hi;simp only[q8,q6];rw[bT _ _ _ _ (by omega)];exact hr (j+i) (by omega)
      intro l' ver' hl';simp only[ao] at hl';obtain ⟨i,hi,hl2⟩:=bM hl';simp only[q11,q9] at hi;simp only[q8,q6] at hl2;exact h.bl l v' xs hlk l' ver' (bq (by omega) hl2)
     |false=>
      simp only[hag,if_false,Bool.false_eq_true] at hk;cases hj:xs[j]? with
      |none=>rw[hj] at hk;exact hk.elim
      |some y=>
       rw[hj] at hk;obtain ⟨hj1,hj2⟩:=q5.1 hj;refine ⟨_,w,zt _ _ _ (db ht aD j (λh=>by rw[hag] at h;cases h) (λ_=>by omega)),?_⟩;refine h.gives (x:=y) ?_ ?_ ⟨rfl,hk⟩
       . rw [show ti.sh=⟨ti.size,false⟩ by simp [TI.sh,hag],bd];have:=hr j hj1
         rwa [hj2] at this
       intro l' ver' hl';exact h.bl l v' xs hlk l' ver' (bq hj1 (by rw[hj2];exact hl'))
   . rename_i v' sh deep xs hlk;obtain ⟨rfl,hk⟩:=hk;cases hx:xs[i]? with
     |none=>rw[hx] at hk;exact hk.elim
     |some x=>
      rw[hx] at hk;obtain ⟨y0,hk0,DK⟩:=KI (k:=λy=>dG deep (cg x) l (.row v' sh false xs) m λm'=>k y m') hk;obtain ⟨hi1,hi2⟩:=q5.1 hx;have hb:=h.aG l _ hlk;rcases hb with ⟨_,ju,_⟩|⟨b,cap,hφ,hbm,hdp,bc⟩
      . subst ju;exact absurd hi1 (q25 _)
      have hpv:=hp1 b sh hφ;subst hpv;generalize hgf:fp l=fs at bc hbm hdp;cases bc with
      |rd _ _ hrd=>
       exact absurd hbm (by simp)
      |arr _ _ _ _ cs e fss aD hcs b_ hmx hff hfl hvv=>
       have hxo:=hvv i hi1;have hxf:=hff i hi1;rw[hi2] at hxo hxf;have cf:i*sh.sz+sh.sz<=cs.toList.length:=by have h1:=a8 (s:=sh.sz) (q22 hi1 b_);simp only[q0];omega
       have main:∀(S':nP) (m':Mem) (φ':Nat->LS) (fp':nN),RS B N φ' fp' S' ts m' a w->Rd w S' x (elemV cs.toList (i*sh.sz) sh)→
        dj ti.agg ti.size j x (λy=>k y m')→
        iI B N a (λx ts' m'=>ts'=ts/\k x m') ((Instr.loadAt t (.pointer (some ⟨b,i*sh.sz+j,none⟩))).run P w):=by
        intro S' m' φ' fp' hRS hrd hpt;obtain ⟨g1,g2,y,hy,hky⟩:=CF hrd hxf cf hpt;refine ⟨_,w,zt _ _ _ (db ht aD (i*sh.sz+j) (λh=>by simpa using g1 h) (λh=>by simpa using g2 h)),?_⟩;exact hRS.gives (x:=y) (.rd _ _ hy) (λl' ver' hl'=>by rw[fY hy] at hl';cases hl') ⟨rfl,hky⟩
       cases Um:deep with
       |false=>
        subst Um;have hfs:=hdp rfl;have YL:fss.getD i []=[]:=by have h1:fss.flatten=[]:=(by simpa using hfs);have h2:=q2.1 h1;rw[q3,q4 (hfl▸hi1)];exact h2 _ (List.getElem_mem _)
        rw[YL] at hxo;exact main S m φ fp h (hxo.mm (λ_ h=>h) (by simp)) (DK _ (by simpa [dG] using hk0))
       |true=>
        subst Um;cases td:cg x with
        |true=>exact main S m φ fp h (fA hxo td).1 (DK _ (by simpa [dG,td] using hk0))
        |false=>
         simp only[td,dG,and_self,if_true] at hk0;obtain ⟨S',hRS,hS1,hS2⟩:=h.CG hlk hφ hgf aD hcs b_ hmx hff hfl hvv hk0.1;exact main S' _ _ _ hRS (hxo.mm (λ_ h=>h.elim) λc hc=>hS2 c (aK (hfl▸hi1) hc)) (DK _ hk0.2)
   . rename_i v' sh xs u0 hlk;obtain ⟨rfl,hk⟩:=hk;cases hx:xs[i]? with
     |none=>rw[hx] at hk;exact hk.elim
     |some x=>
      rw[hx] at hk;obtain ⟨td,hk⟩:=hk;obtain ⟨hi1,hi2⟩:=q5.1 hx;obtain ⟨b,cap,hφ,hbm,hu,bc⟩:=h.aG l _ hlk;have hpv:=hp1 b sh hφ;subst hpv;subst hu;generalize hgf:fp l=fs at bc hbm;cases bc with
      |rd _ _ hrd=>exact absurd hbm (by simp)
      |arr _ _ _ _ cs e fss aD hcs b_ hmx hff hfl hvv=>
       have hxo:=hvv i hi1;have hxf:=hff i hi1;rw[hi2] at hxo hxf;have cf:i*sh.sz+sh.sz<=cs.toList.length:=by have h1:=a8 (s:=sh.sz) (q22 hi1 b_);simp only[q0];omega
       obtain ⟨g1,g2,y,hy,hky⟩:=CF (k:=λy=>k y m) (fA (S':=S) hxo td).1 hxf cf hk;refine ⟨_,w,zt _ _ _ (db ht aD (i*sh.sz+j) (λh=>by simpa using g1 h) (λh=>by simpa using g2 h)),?_⟩;exact h.gives (x:=y) (.rd _ _ hy) (λl' ver' hl'=>by rw[fY hy] at hl';cases hl') ⟨rfl,hky⟩
   exact hk.elim
 . rename_i sh xs i j;have hrd:=pI hp;cases hx:xs[i]? with
   |none=>rw[hx] at hk;exact hk.elim
   |some x=>
    rw[hx] at hk;obtain ⟨hi1,hi2⟩:=q5.1 hx;cases hrd with
    |bo _ _ _ _ b off cs e fr hSb aD hlen hff hvv=>
     have hxo:=hvv i hi1;have hxf:=hff i hi1;rw[hi2] at hxo hxf;have cf:off+i*sh.sz+sh.sz<=cs.toList.length:=by have h1:=a8 (s:=sh.sz) hi1;simp only[q0];omega
     obtain ⟨g1,g2,y,hy,hky⟩:=CF (k:=λy=>k y m) hxo hxf cf hk;refine ⟨_,w,zt _ _ _ (db ht aD (off+i*sh.sz+j) (λh=>by simpa using g1 h) (λh=>by simpa using g2 h)),?_⟩;exact h.gives (x:=y) (.rd _ _ hy) (λl' ver' hl'=>by rw[fY hy] at hl';cases hl') ⟨rfl,hky⟩
 exact hk.elim
theorem KJ {x:AV}{sh:Sh}(hs:sh.ag=false)(hx:fits sh x){n j:Nat}{k:AV->Prop}(hk:dj false n j x k):j=0/\k x:=by cases x<;>first|exact hk|exact hx.elim|(have:=hx.1;rw[hs] at this;cases this)
theorem KK {t:TypeId}{ti:TI}(ht:aL P t=some ti)(h:RS B N φ fp S ts m a w){p:AV}{v:Value}(hp:RV w S φ p v)(hpl:∀l af,(l,af)∈ao p->known m l af){k:AV->Mem->Prop}
 (hk:oH ti.agg ti.size p m k):iI B N a (λx ts' m'=>ts'=ts/\k x m') ((Instr.loadAt t v).run P w):=by
 cases p with
 |bo sh xs i j=>exact run_load ht h hp hpl hk
 |ptr l af i j=>
  have hk1:if l<bE then dV ti.agg ti.size l af i j (ah m l) m k else kM ti.agg ti.size l af i j (ah m l) m k:=hk
  split at hk1
  . exact run_load ht h hp hpl hk1
  unfold kM at hk1;split at hk1
  . rename_i v' dp xs hag hlk;obtain ⟨rfl,hk2⟩:=hk1;cases hx:xs[i]? with
    |none=>rw[hx] at hk2;exact hk2.elim
    |some x=>
     rw[hx] at hk2;have hk2:dj false ti.size j x λy=>qn dp (cg x) y l v' xs i m k:=hk2;obtain ⟨hi1,hi2⟩:=q5.1 hx;have hb:=h.aG l _ hlk;rcases hb with ⟨_,ju,_⟩|⟨b,cap,hφ,hbm,hdp,bc⟩
     . subst ju;exact absurd hi1 (q25 _)
     have QW:=bc;generalize hgf:fp l=fs at bc hbm hdp;cases bc with
     |rd _ _ hrd=>exact absurd hbm (by simp)
     |arr _ _ _ _ cs e fss aD hcs b_ hmx hff hfl hvv=>
      have hxf:=hff i hi1;rw[hi2] at hxf;by_cases hc:dp=true/\cg x=false
      . obtain ⟨hj0,hk3⟩:=KJ (sh:=⟨1,false⟩) rfl hxf hk2;subst hj0;unfold qn at hk3;rw [if_pos hc] at hk3;obtain ⟨rfl,ZE⟩:=hc;have hpv:=j0 hp b _ hφ;simp only [q24,Nat.add_zero] at hpv;subst hpv;have hi3:i<cs.toList.length:=by
         simp only[q0];rw[hcs];simp only[q24];exact q22 hi1 b_
        have hRS:RS B N (nX φ l (φ l)) (nX fp l (fp l)) S ts ((l,.ke v' xs i (cs.toList.getD i uD))::m) a w:=by
         refine h.next l (φ l) (fp l) S _ (q20 _) (a7.refl _) (jI.refl _) (λ_ _ _=>rfl) (λc hc=>⟨hc,rfl⟩) (λc h1 h2=>absurd h1 h2) (λl b sh af cs e _ hb=>⟨cs,e,hb,rfl⟩)
          (λ_ _ _ _=>rfl) (λaf _=>LS.le_refl _ _) ?_ ?_ (λ_ _ hk=>by cases hk) (h.hZ l) ?_
         . rintro af ⟨k',h1,h2⟩;rw[hlk] at h1;cases h1;exact h2
         . exact ⟨b,cap,cs,e.1,ou e cs.size,by rw[aB];exact hφ,by rw[hgf];exact hbm,QW,aD,hi1,rfl⟩
         intro c hc;have:=h.cu l c hc;exact ⟨h.bS l c hc,λl' hl' hc'=>hl' (h.fL l' l c hc' hc),this.1,this.2⟩
        have zt:∀(b o:Nat)(r:Value),(loadVar t ⟨b,o,none⟩).run P w= .ok r w->(Instr.loadAt t (.pointer (some ⟨b,o,none⟩))).run P w= .ok r w:=by intro b o r hr;simp[Instr.loadAt,Instr.sureAddr,hr]
        have hxo:=hvv i hi1;rw[hi2,bd] at hxo;have e0:(cs.toList.getD (i*1) uD)=cs.toList.getD i uD:=(by rw[q24]);rw[e0] at hxo;have hlx:leaf x:=by cases x<;>first|trivial|(have:=hxf.1;cases this)
        refine ⟨_,w,zt _ _ _ (db ht aD i (λh=>by rw[hag] at h;cases h) (λ_=>hi3)),?_⟩;rw[show ti.sh=⟨ti.size,false⟩ by simp[TI.sh,hag],bd];exact hRS.gives (x:=.val (cs.toList.getD i uD)) (.rd _ _ (.val _ (hxo.aW hlx))) (λl' ver' hl'=>by cases hl') ⟨rfl,hk3 _⟩
      unfold qn at hk2;simp only[if_neg hc] at hk2;refine run_load ht h hp hpl (k:=k) ?_;show dV ti.agg ti.size l v' i j (ah m l) m k;rw[hlk,hag];refine ⟨rfl,?_⟩;rw[hx];show dj false ti.size j x λy=>dG dp (cg x) l (.row v' ⟨1,false⟩ false xs) m λm'=>k y m';unfold dG;simp only[if_neg hc];exact hk2
  exact run_load ht h hp hpl hk1
 |_=>exact hk.elim
theorem eH (l vs:lV)(o k:Nat)(h:o+vs.length<=l.length):
 (l.take o++vs++l.drop (o+vs.length)).getD k uD=if o<=k/\k<o+vs.length then vs.getD (k-o) uD else l.getD k uD:=by
 simp only[q3,List.append_assoc,List.getElem?_append,q11,List.getElem?_take,List.getElem?_drop];have h1:min o l.length=o:=by omega
 rw[h1];by_cases ha:k<o
 . simp[ha,show ¬(o<=k) by omega]
 by_cases hb:k<o+vs.length
 . simp[ha,hb,show o<=k by omega,show k-o<vs.length by omega]
 simp only[ha,hb,if_false,and_false,show ¬(k-o<vs.length) by omega];rw[show o+vs.length+(k-o-vs.length)=k by omega]
theorem fM (l vs:lV)(o:Nat)(h:o+vs.length<=l.length):(l.take o++vs++l.drop (o+vs.length)).length=l.length:=by simp;omega
theorem dN (ys:lA):∀(xs:lA) (j:Nat),(jf xs j ys).length=xs.length:=by
 induction ys with
 |nil=>intro xs j;rfl
 |cons y r ih=>intro xs j;rw[tu,ih,q10]
theorem jz (ys:lA):∀(xs:lA) (j i:Nat),j+ys.length<=xs.length->(jf xs j ys)[i]? =if j<=i/\i<j+ys.length then ys[i-j]? else xs[i]? :=by
 induction ys with
 |nil=>
  intro xs j i _;rw[Ed,if_neg (by simp only[List.length_nil];omega)]
 |cons y r ih=>
  intro xs j i h;simp only[List.length_cons] at h ⊢;rw[tu,ih _ _ _ (by rw[q10];omega),List.getElem?_set];by_cases h1:i=j
  . subst h1;simp[show ¬(i+1<=i) by omega,show i<xs.length by omega]
  by_cases h2:j+1<=i/\i<j+1+r.length
  . rw[if_pos h2,if_pos (by omega),show i-j=(i-(j+1))+1 by omega,List.getElem?_cons_succ]
  rw[if_neg h2,if_neg (Ne.symm h1),if_neg (by omega)]
def RL (R:AV->Value->Prop)(xs:lA)(cs:lV):Prop:=cs.length=xs.length/\(∀i (h:i<xs.length),leaf xs[i])/\∀i (h:i<xs.length),R xs[i] (cs.getD i uD)
def X2 (R:AV->Value->Prop)(xs:lA)(cs:lV):Prop:=xs.length<=cs.length/\(∀i (h:i<xs.length),leaf xs[i])/\∀i (h:i<xs.length),R xs[i] (cs.getD i uD)
theorem RL.Hm {R:AV->Value->Prop}{xs ys:lA}{cs vs:lV}(h:RL R xs cs)(h':RL R ys vs)(j:Nat)(hj:j+ys.length<=xs.length):
 RL R (jf xs j ys) (cs.take j++vs++cs.drop (j+vs.length)):=by
 have e1:=h.1;have e2:=h'.1;have get:∀i (hi:i<(jf xs j ys).length),leaf (jf xs j ys)[i]/\R (jf xs j ys)[i] ((cs.take j++vs++cs.drop (j+vs.length)).getD i uD):=by
  intro i hi;rw[dN] at hi;have hg:=jz ys xs j i hj;rw[eH _ _ _ _ (by omega)];by_cases hc:j<=i/\i<j+ys.length
  . rw[if_pos hc,q4 (by rw[dN];exact hi),q4 (by omega)] at hg;rw[if_pos (by omega),Option.some.inj hg];exact ⟨h'.2.1 _ _,h'.2.2 _ _⟩
  rw[if_neg hc,q4 (by rw[dN];exact hi),q4 hi] at hg;rw[if_neg (by omega),Option.some.inj hg];exact ⟨h.2.1 _ _,h.2.2 _ _⟩
 refine ⟨by rw[fM _ _ _ (by omega),dN];exact e1,λi hi=>(get i hi).1,λi hi=>(get i hi).2⟩
theorem X2.Hm {R:AV->Value->Prop}{xs ys:lA}{cs vs:lV}(h:X2 R xs cs)(h':RL R ys vs)(j:Nat)(hj:j+ys.length<=xs.length):
 X2 R (jf xs j ys) (cs.take j++vs++cs.drop (j+vs.length)):=by
 have e1:=h.1;have e2:=h'.1;have get:∀i (hi:i<(jf xs j ys).length),leaf (jf xs j ys)[i]/\R (jf xs j ys)[i] ((cs.take j++vs++cs.drop (j+vs.length)).getD i uD):=by
  intro i hi;rw[dN] at hi;have hg:=jz ys xs j i hj;rw[eH _ _ _ _ (by omega)];by_cases hc:j<=i/\i<j+ys.length
  . rw[if_pos hc,q4 (by rw[dN];exact hi),q4 (by omega)] at hg;rw[if_pos (by omega),Option.some.inj hg];exact ⟨h'.2.1 _ _,h'.2.2 _ _⟩
  rw[if_neg hc,q4 (by rw[dN];exact hi),q4 hi] at hg;rw[if_neg (by omega),Option.some.inj hg];exact ⟨h.2.1 _ _,h.2.2 _ _⟩
 refine ⟨by rw[fM _ _ _ (by omega),dN];exact e1,λi hi=>(get i hi).1,λi hi=>(get i hi).2⟩
theorem bW {w:World}{b:Nat}{cs:aV}{e:El}(hb:w.heap[b]? =some (eA cs e)){cs':aV}(hs:cs'.size=cs.size):(w.setRow b cs').heap[b]? =some (eA cs' e):=by have:=setRow_heap w b cs cs' e.1 (ou e cs.size) hb;rw[this,←hs]
theorem nd (w:World)(cs:aV)(e:TypeId):(w.alloc (.cells cs e)).heap[w.heap.size]? =some (eA cs (e,false)):=Hg w _
theorem dc {cs cs0:aV}{e e0:El}(h:some (eA cs e)=some (eA cs0 e0)):cs=cs0:=by have h:=Option.some.inj h;injection h
theorem iM (P:pR){b o:Nat}{e:El}:∀(vs:lV) (i:Nat) (cs:aV) (w:World),w.heap[b]? =some (eA cs e)->o+i+vs.length<=cs.size->(∀u,u∈vs->u.oneCell'=true)→
 (storeCells ⟨b,o,none⟩ vs i).run P w= .ok () (w.setRow b (cs.toList.take (o+i)++vs++cs.toList.drop (o+i+vs.length)).toArray)
 | [],i,cs,w,hb,_,_=>by
   simp only[storeCells,List.append_nil,List.length_nil,Nat.add_zero,q17,Array.toArray_toList];rw[setRow_self w b cs e.1 (ou e cs.size) hb];rfl
 |v::r,i,cs,w,hb,hl,h1=>by
  have hi:o+i<cs.size:=by simp at hl;omega
  have QX:(⟨b,o,none⟩:Addr).add i=⟨b,o+i,none⟩:=by unfold Addr.add;split<;>simp_all
  have vN:w.cell? ⟨b,o+i,none⟩=some cs[o+i]:=by rw[Kz hb];exact Array.getElem?_eq_getElem hi
  have hst:(store ((⟨b,o,none⟩:Addr).add i) v).run P w= .ok () (w.setRow b (cs.setIfInBounds (o+i) v)):=by rw[QX,run_store P w _ v _ (h1 v (by simp)),vN];simp[ml hb hi,setCell_eq_setRow w b (o+i) cs e.1 (ou e cs.size) v hb]
  have hsz:(cs.setIfInBounds (o+i) v).size=cs.size:=by simp
  have ih:=iM P (e:=e) (o:=o) r (i+1) (cs.setIfInBounds (o+i) v) (w.setRow b (cs.setIfInBounds (o+i) v)) (bW hb hsz) (by simp at hl ⊢;omega) (λx hx=>h1 x (by simp[hx]));simp only[storeCells,Sem.run_bind,hst,Result.andThen_ok,ih,setRow_setRow];congr 3;have g:=list_seg_step cs.toList (o+i) v r (by simp at hl ⊢;omega);simpa [Array.toList_setIfInBounds,Nat.add_assoc] using g
theorem aC {w:World}{b c:Nat}(cs':aV)(h:c≠b):(w.setRow b cs').heap[c]? =w.heap[c]? :=setRow_other w b c cs' h
theorem eJ {v:Value}(h:v.oneCell'=true):v.cells= #[v]:=by cases v<;>first|rfl|cases h
theorem Hn {R:AV->Value->Prop}(QV:∀xs v,R (.agg xs) v->∃cs:aV,v= .agg cs/\cs.size=xs.length/\(∀i (h:i<xs.length),leaf xs[i])/\∀i (h:i<xs.length),R xs[i] (cs.toList.getD i uD))
 (l6:∀x v,R x v->leaf x->v.oneCell'=true) {y:AV} {v:Value} (hy:R y v) {k:lA->Prop} (h:eU y k):
 ∃ys,k ys/\RL R ys v.cells.toList/\(∀l,l∈aq ys->l∈ao y)/\(∀u,u∈v.cells.toList->u.oneCell'=true):=by
 have one:leaf y->∃ys,ys=[y]/\RL R ys v.cells.toList/\(∀l,l∈aq ys->l∈ao y)/\(∀u,u∈v.cells.toList->u.oneCell'=true):=by
  intro hl;have h1:=l6 y v hy hl;rw[eJ h1];refine ⟨_,rfl,⟨rfl,?_,?_⟩,?_,?_⟩
  . intro i hi;have:i=0:=by simpa using hi
    subst this;exact hl
  . intro i hi;have:i=0:=by simpa using hi
    subst this;exact hy
  . intro l hl;simpa [aq] using hl
  intro u hu;have:u=v:=by simpa using hu
  rw[this];exact h1
 cases y with
 |agg xs=>
  obtain ⟨cs,rfl,h1,h2,h3⟩:=QV xs v hy;refine ⟨xs,h,⟨by simpa [Value.cells] using h1,h2,h3⟩,λl hl=>by simpa [ao] using hl,?_⟩;intro u hu;obtain ⟨i,hi,rfl⟩:=List.getElem_of_mem hu;simp only[Value.cells,q0] at hi;have:=h3 i (h1▸hi);rw[q3,q4 (by simpa using hi)] at this;exact l6 _ _ this (h2 i (h1▸hi))
 |undef=>exact h.elim
 |aX xs=>exact h.elim
 |_=>obtain ⟨ys,rfl,h1⟩:=one trivial;exact ⟨_,h,h1⟩
theorem RV.cells {y:AV}{v:Value}(hy:RV w S φ y v){k:lA->Prop}(h:eU y k):
 ∃ys,k ys/\RL (RV w S φ) ys v.cells.toList/\(∀l,l∈aq ys->l∈ao y)/\(∀u,u∈v.cells.toList->u.oneCell'=true):=
 Hn (λ_ _ h=>nc h) (λ_ _ h hl=>h.aW hl) hy h
def CH (d:Nat)(y:AV)(m:Mem)(k:AV->Mem->Prop):Prop:=eU y λys=>k (.ptr d (az m d) 0 0) ((d,.box (az m d) ys)::m)
theorem JJ (d:Nat)(y:AV)(m:Mem)(k:AV->Mem->Prop):CH d y m k=eU y λys=>k (.ptr d (az m d) 0 0) ((d,.box (az m d) ys)::m):=rfl
def NH:Option bf->Nat|none=>0|some k=>k.af+1
theorem KL (m:Mem)(l:Nat):az m l=NH (ah m l):=by unfold az NH;cases ah m l<;>rfl
theorem Ho:NH none=0:=rfl
theorem JK (h:RS B N φ fp S ts m a w){y:AV}{v:Value}(hy:RV w S φ y v)(hyl:∀l af,(l,af)∈ao y->known m l af)(t:TypeId)(d:Nat){k:AV->Mem->Prop}
 (hk:CH d y m k):iI B N a (λx ts' m'=>ts'=ts/\k x m') ((Instr.box t v).run P w):=by
 obtain ⟨ys,hk,hrl,gZ,lC⟩:=hy.cells hk;have cH:(Instr.box t v).run P w= .ok (.pointer (some ⟨w.heap.size,0,none⟩)) (w.alloc (.cells v.cells t)):=by simp[Instr.box,newVar,newRow]
 refine ⟨_,_,cH,?_⟩
 have hRS:=h.alloc d ⟨1,false⟩ (.box (az m d) ys) v.cells t rfl
  ⟨w.heap.size,v.cells,(t,false),⟨1,false⟩,aB _ _ _,rfl,Hg w _,by have:=hrl.1;simp at this;omega,hrl.2.1,λi hi=>by
    have:=RV.alloc h d ⟨1,false⟩ (.cells v.cells t) (hrl.2.2 i hi) λl' af hl=>hyl l' af (gZ _ (bq hi hl))
    exact this⟩
  (λv xs hx l' af hl=>by cases hx;exact hyl l' af (gZ _ hl))
 refine hRS.gives (x:=.ptr d (az m d) 0 0) ?_ ?_ ⟨rfl,hk⟩
 . refine .ptr _ _ _ _ _ (λb sh hb=> ?_) (λhb=> ?_) rfl
   . rw[aB] at hb;cases hb;simp
   rw[aB] at hb;cases hb
 intro l af hl;simp only[ao,List.mem_singleton,Prod.mk.injEq] at hl;obtain ⟨rfl,rfl⟩:=hl;exact ⟨_,by simp[aw];rfl,q20 _⟩
theorem KM (h:RS B N φ fp S ts m a w){t:TypeId}{ti:TI}(ht:aL P t=some ti)(d:Nat){k:AV->Mem->Prop}(hk:CH d ti.zero m k):
 iI B N a (λx ts' m'=>ts'=ts/\k x m') ((Instr.alloc t true (.tuple #[])).run P w):=by
 obtain ⟨i,dd,z,hi,hd,hz,_,_,_,hzz,_⟩:=fy ht;rw[hzz] at hk;have:=JK (P:=P) h (.rd _ _ (CE z)) (λl af hl=>by rw[wQ] at hl;cases hl) t d hk;have e:(Instr.alloc t true (.tuple #[])).run P w=(Instr.box t z).run P w:=by simp[Instr.alloc,Instr.box,zeroValue,typeInfo,hi,hz,newVar,newRow]
 rw[e];exact this
def Aq (B:eC)(N:Nat)(a:Act)(k:Env->Mem->Prop)(r:Result Unit):Prop:=
 ∃w',r= .ok () w'/\ia B N k a w'
theorem fX.setRow (φ:Nat->LS){w:World}{b:Nat}{cs:aV}{e:El}(hb:w.heap[b]? =some (eA cs e)){cs':aV}(hs:cs'.size=cs.size):fX φ w (w.setRow b cs'):=by
 intro l c sh af cs0 e0 _ hc;by_cases hcb:c=b
 . subst hcb;obtain rfl:=dc (hb.symm.trans hc);exact ⟨cs',e,bW hb hs,hs⟩
 exact ⟨cs0,e0,by rw[aC _ hcb];exact hc,rfl⟩
theorem jI.setRow {w:World}{b:Nat}{cs:aV}{e:El}(hb:w.heap[b]? =some (eA cs e)){cs':aV}(hs:cs'.size=cs.size):jI w (w.setRow b cs'):=by
 intro c cs0 e0 hc;by_cases hcb:c=b
 . subst hcb;obtain rfl:=dc (hb.symm.trans hc);exact ⟨cs',e,bW hb hs,hs⟩
 exact ⟨cs0,e0,by rw[aC _ hcb];exact hc,rfl⟩
theorem RS.write (h:RS B N φ fp S ts m a w){l b:Nat}{sh:Sh}{af:Nat}(hφ:φ l= .at b sh af){cs:aV}{e:El}(hb:w.heap[b]? =some (eA cs e)){cs':aV}
 (hs:cs'.size=cs.size) (k:bf) (hkv:k.af=af) (hbr:BR (w.setRow b cs') S (nX φ l (φ l)) l (fp l) k)
 (hbl:∀v xs,k= .box v xs->∀l' af,(l',af)∈aq xs->known m l' af):
 RS B N (nX φ l (φ l)) (nX fp l (fp l)) S ts ((l,k)::m) a (w.setRow b cs'):=by
 have V2:=h.at_mem hφ;obtain ⟨k0,hk0,QY⟩:=h.rL hφ;have hkn:∀ver',known m l ver'->ver'<=k.af:=by rintro ver' ⟨k',h1,h2⟩;rw[hk0] at h1;cases h1;rw[hkv,←QY];exact h2
 refine h.next l (φ l) (fp l) S k (by simp) ⟨rfl,rfl,rfl⟩ (λc cs0 e0 hc=> ?_) (λc hc hio=>aC _ λe=> ?_) (λc hc=>⟨hc,aC _ λe=>h.bS l b V2 (e▸hc)⟩) (λc h1 h2=>absurd h1 h2) (fX.setRow φ hb hs)
  (λl' hl' c hc=>aC _ λe=>hl' (h.fL l' l b (e▸hc) V2)) (λaf _=>LS.le_refl _ _) hkn hbr ?_ (h.hZ l) ?_
 . by_cases hcb:c=b
   . subst hcb;obtain rfl:=dc (hb.symm.trans hc);exact ⟨cs',e,bW hb hs,hs⟩
   exact ⟨cs0,e0,by rw[aC _ hcb];exact hc,rfl⟩
 . subst e;rcases (h.cu l c V2).2 with hh|hh
   . exact q21 _ (q22 hc hh)
   exact hio _ hh.choose_spec.1
 . intro v xs hx l' ver' hl';have:=hbl v xs hx l' ver' hl';by_cases e:l=l'
   . subst e;exact ⟨k,by simp[aw],hkn ver' this⟩
   obtain ⟨k',h1,h2⟩:=this;exact ⟨k',by simp[aw,e,h1],h2⟩
 intro c hc;have:=h.cu l c hc;exact ⟨h.bS l c hc,λl' hl' hc'=>hl' (h.fL l' l c hc' hc),by simpa using this.1,this.2⟩
theorem bX {cs:aV}{o:Nat}{vs:lV}(h:o+vs.length<=cs.size):(cs.toList.take o++vs++cs.toList.drop (o+vs.length)).toArray.size=cs.size:=by rw[List.size_toArray,fM _ _ _ (by simpa using h)];simp
theorem fF {t:TypeId}{ti:TI}(ht:aL P t=some ti){b o:Nat}{cs:aV}{e:El}(hb:w.heap[b]? =some (eA cs e)){v:Value}(hn:v.cells.toList.length=ti.size)
 (ho:o+v.cells.toList.length<=cs.size) (lC:∀u,u∈v.cells.toList->u.oneCell'=true):
 (Instr.storeAt t (.pointer (some ⟨b,o,none⟩)) v).run P w= .ok () (w.setRow b (cs.toList.take o++v.cells.toList++cs.toList.drop (o+v.cells.toList.length)).toArray):=by
 have h1:=iM P (e:=e) (o:=o) v.cells.toList 0 cs w hb (by simpa using ho) lC;simp only[Nat.add_zero] at h1;have h2:v.cells.size=ti.size:=by simpa using hn
 simp only[Instr.storeAt,Instr.sureAddr,storeVar,pure_bind,Sem.run_bind,ji ht,Result.andThen_ok,h2,ne_eq,not_true_eq_false,if_false,h1]
theorem ib {l vs:lV}{sh:Sh}{i i' j:Nat}(hi:i'≠i)(hj:j+vs.length<=sh.sz)(hl:i*sh.sz+sh.sz<=l.length)(hsz:sh.ag=false->sh.sz=1):
 elemV (l.take (i*sh.sz+j)++vs++l.drop (i*sh.sz+j+vs.length)) (i'*sh.sz) sh=elemV l (i'*sh.sz) sh:=by
 have far:∀c,c<sh.sz→¬(i*sh.sz+j<=i'*sh.sz+c/\i'*sh.sz+c<i*sh.sz+j+vs.length):=by
  intro c hc;rcases Nat.lt_or_gt_of_ne hi with hlt|hgt
  . have:=a8 (s:=sh.sz) hlt;omega
  have:=a8 (s:=sh.sz) hgt;omega
 cases sh with
 |mk sz ag=>
 simp only at*;cases ag with
 |false=>
  rw[bd,bd,eH _ _ _ _ (by omega)];have hs:=hsz rfl;subst hs;rw[if_neg (by simpa using far 0 (by omega))]
 |true=>
  rw[cV,cV];congr 2;apply List.ext_getElem
  . simp;omega
  intro c h1 h2;simp only[q11,q9] at h1 h2;have e1:∀(l:lV)(h:c<((l.drop (i'*sz)).take sz).length),((l.drop (i'*sz)).take sz)[c]=l.getD (i'*sz+c) uD:=by intro l h;simp only[q11,q9] at h;simp only[q8,q6];rw[q3,q4 (by omega)];rfl
  rw[e1,e1,eH _ _ _ _ (by omega),if_neg (far c (by omega))]
theorem NI {S:nP}{sh:Sh}{x y:AV}{l:lV}{i j n:Nat}{v:Value}(hx:Rd w S x (elemV l (i*sh.sz) sh))(hfx:fits sh x)(hy:Rd w S y v)(hl:i*sh.sz+sh.sz<=l.length)
 {k:AV->Prop} (hn:match (generalizing:=false) y with| .agg ys=>ys.length=n|_=>n=1) (hk:zD j x y k) (hfy:cg y=true):
 v.cells.toList.length=n/\j+v.cells.toList.length<=sh.sz/\(∀u,u∈v.cells.toList->u.oneCell'=true)∧
  ∃x',k x'/\fits sh x'/\Rd w S x' (elemV (l.take (i*sh.sz+j)++v.cells.toList++l.drop (i*sh.sz+j+v.cells.toList.length)) (i*sh.sz) sh):=by
 have hyc:leaf y\/∃ys,y= .agg ys:=by cases y<;>first|exact .inl trivial|exact .inr ⟨_,rfl⟩|cases hfy
 have cellsY:∃ys,RL (Rd w S) ys v.cells.toList/\(∀u,u∈v.cells.toList->u.oneCell'=true)/\((leaf y/\ys=[y])\/y= .agg ys):=by
  rcases hyc with l6|⟨ys,rfl⟩
  . have h1:=hy.aW l6;refine ⟨[y],?_,?_,.inl ⟨l6,rfl⟩⟩
    . rw [eJ h1];refine ⟨rfl,?_,?_⟩<;>intro c hc<;>(have:c=0:=by simpa using hc)<;>subst this
      . exact l6
      exact hy
    rw[eJ h1];intro u hu;have:u=v:=by simpa using hu
    rw[this];exact h1
  obtain ⟨cs,rfl,h1,h2,h3⟩:=oJ hy;refine ⟨ys,⟨by simpa [Value.cells] using h1,h2,h3⟩,?_,.inr rfl⟩;intro u hu;obtain ⟨c,hc,rfl⟩:=List.getElem_of_mem hu;simp only[Value.cells,q0] at hc;have:=h3 c (h1▸hc);rw[q3,q4 (by simpa using hc)] at this;exact this.aW (h2 c (h1▸hc))
 obtain ⟨ys,hrl,lC,hy'⟩:=cellsY;have hlen:v.cells.toList.length=ys.length:=hrl.1;have hn':ys.length=n:=by
  rcases hy' with ⟨l6,rfl⟩|rfl
  . cases y<;>first|exact hn.symm|exact l6.elim
  exact hn
 have agg:∀zs,x= .agg zs->j+ys.length<=zs.length->k (.agg (jf zs j ys))→
  v.cells.toList.length=n/\j+v.cells.toList.length<=sh.sz/\(∀u,u∈v.cells.toList->u.oneCell'=true)∧
  ∃x',k x'/\fits sh x'/\Rd w S x' (elemV (l.take (i*sh.sz+j)++v.cells.toList++l.drop (i*sh.sz+j+v.cells.toList.length)) (i*sh.sz) sh):=by
  intro zs hzs hjl hkk;subst hzs;cases sh with
  |mk sz ag=>
  obtain ⟨hag,hsz⟩:=hfx;simp only at hag hsz hl;subst hag;obtain ⟨cs,hcs,h1,h2,h3⟩:=oJ hx;rw[cV] at hcs;cases hcs;refine ⟨by omega,by show j+_<=sz;omega,lC,_,hkk,⟨rfl,by rw[dN];exact hsz⟩,?_⟩;have h3':RL (Rd w S) zs ((l.drop (i*sz)).take sz):=⟨by simp;omega,h2,λc hc=>by simpa using h3 c hc⟩;have h4:=h3'.Hm hrl j hjl;rw[cV]
  have e:(List.drop (i*sz) (l.take (i*sz+j)++v.cells.toList++l.drop (i*sz+j+v.cells.toList.length))).take sz=
   ((l.drop (i*sz)).take sz).take j++v.cells.toList++((l.drop (i*sz)).take sz).drop (j+v.cells.toList.length):=by
   have hvl:v.cells.size=ys.length:=(by simpa using hlen);have hll:((l.drop (i*sz)).take sz).length=sz:=(by simp;omega);apply List.ext_getElem
   . rw[q11,q9,fM _ _ _ (by omega),fM _ _ _ (by omega),hll];omega
   intro c g1 g2;rw[fM _ _ _ (by omega),hll] at g2;have q1:∀(L:lV)(h:c<L.length),L[c]=L.getD c uD:=λL h=>by rw[q3,q4 h];rfl
   rw[q1,q1,bT _ _ _ _ (by omega),eH _ _ _ _ (by omega),eH _ _ _ _ (by omega),bT _ _ _ _ (by omega)];by_cases hc:j<=c/\c<j+v.cells.toList.length
   . rw[if_pos (by omega),if_pos hc,show i*sz+c-(i*sz+j)=c-j by omega]
   rw[if_neg (by omega),if_neg hc]
  rw[e];exact .agg _ _ (by simpa using h4.1) h4.2.1 λc hc=>by simpa using h4.2.2 c hc
 cases x with
 |agg zs=>
  rcases hy' with ⟨l6,rfl⟩|rfl
  . have hk':j<zs.length/\k (.agg (zs.set j y)):=by
     cases y<;>first|exact hk|exact l6.elim
    exact agg zs rfl (Nat.succ_le_of_lt hk'.1) hk'.2
  exact agg zs rfl hk.1 hk.2
 |undef=>exact hfx.elim
 |aX xs=>exact hfx.elim
 |_=>
  rcases hy' with ⟨l6,rfl⟩|rfl
  . obtain ⟨hag,hsz⟩:=hfx;have hk':j=0/\k y:=by cases y<;>first|exact hk|exact l6.elim
    obtain ⟨rfl,hkk⟩:=hk';cases sh with
    |mk sz ag=>
    simp only at hag hsz hl;subst hag;subst hsz;have hl1:v.cells.toList.length=1:=(by simpa using hlen);simp only[q24,Nat.add_zero,q26] at hl ⊢;refine ⟨by simpa using hlen.trans hn',by omega,lC,y,hkk,?_,?_⟩
    . cases y<;>first|exact ⟨rfl,rfl⟩|exact l6.elim
    rw[bd,eH _ _ _ _ (by omega),if_pos (by omega)];have h1:=hy.aW l6;rw[eJ h1];simpa using hy
  exact hk.elim
theorem run_store {t:TypeId}{ti:TI}(ht:aL P t=some ti)(h:RS B N φ fp S ts m a w){p y:AV}{u v:Value}(hp:RV w S φ p u)(hy:RV w S φ y v)(hyl:∀l af,(l,af)∈ao y->known m l af)
 {k:Mem->Prop} (hk:kN ti.size p y m k):Aq B N a (λts' m'=>ts'=ts/\k m') ((Instr.storeAt t u v).run P w):=by
 unfold kN at hk;split at hk
 . rename_i l af i j;have hp1:=j0 hp;unfold dH at hk;split at hk
   . rename_i v' xs hlk;obtain ⟨rfl,rfl,hk⟩:=hk;obtain ⟨b,cs,e,sh,hφ,hfs,aD,hsz,hlf,hr⟩:=h.aG l _ hlk;have hpv:=hp1 b sh hφ;rw [q27,q26] at hpv;subst hpv;obtain ⟨ys,⟨h1,h2,h3⟩,hrl,gZ,lC⟩:=hy.cells hk;have hlen:v.cells.toList.length=ys.length:=hrl.1;refine ⟨_,fF ht aD (by omega) (by omega) lC,?_⟩;have hxs:X2 (RV w S φ) xs cs.toList:=⟨by simpa using hsz,hlf,hr⟩;have iq:=hxs.Hm hrl j h2;have hsp:j+v.cells.toList.length<=cs.size:=(by omega);have hz:=fX.setRow φ aD (bX hsp);have hbm:=h.at_mem hφ;have hbl:∀l' af,(l',af)∈aq (jf xs j ys)->known m l' af:=by
      intro l' af hl';obtain ⟨i,hi,hl2⟩:=bM hl';have hg:=jz ys xs j i h2;rw[q4 hi] at hg;split at hg
      . obtain ⟨g1,g2⟩:=q5.1 hg.symm;exact hyl l' af (gZ _ (bq g1 (g2▸hl2)))
      obtain ⟨g1,g2⟩:=q5.1 hg.symm;exact h.bl l v' xs hlk l' af (bq g1 (g2▸hl2))
     have hRS:=h.write hφ aD (bX hsp) (.box v' (jf xs j ys)) rfl
      ⟨b,_,e,sh,by rw [aB];exact hφ,hfs,bW aD (bX hsp),by rw [bX hsp,dN];exact hsz,iq.2.1,λi hi=>by
        have:=iq.2.2 i hi;refine (this.mono (λc hc=>aC (b:=b) _ λe=>h.bS l b hbm (by rw[←e];exact hc)) (λ_ h=>h) hz λl' af _=>?_);by_cases e:l'=l
        . subst e;rw[aB];exact LS.le_refl _ _
        rw[bB _ _ _ _ e];exact LS.le_refl _ _⟩
      (λv xs hx l' af hl'=>by cases hx;exact hbl l' af hl')
     exact ⟨_,_,_,_,_,hRS,rfl,h3⟩
   . rename_i v' sh deep xs hlk;obtain ⟨rfl,hfy,hk⟩:=hk;cases hx:xs[i]? with
     |none=>rw[hx] at hk;exact hk.elim
     |some x=>
      rw[hx] at hk;obtain ⟨hfx,hn,hk⟩:=hk;obtain ⟨hi1,hi2⟩:=q5.1 hx;have hb:=h.aG l _ hlk;rcases hb with ⟨_,ju,_⟩|⟨b,cap,hφ,hbm,hdp,bc⟩
      . subst ju;exact absurd hi1 (q25 _)
      have hpv:=hp1 b sh hφ;subst hpv;generalize hgf:fp l=fs at bc hbm hdp;cases bc with
      |rd _ _ hrd=>exact absurd hbm (by simp)
      |arr _ _ _ _ cs e fss aD hcs b_ hmx hff hfl hvv=>
       have hxo:=hvv i hi1;have hxf:=hff i hi1;rw[hi2] at hxo hxf;have cf:i*sh.sz+sh.sz<=cs.toList.length:=by have h1:=a8 (s:=sh.sz) (q22 hi1 b_);simp only[q0];omega
       have hy0:Rd w (λ_=>False) y v:=by
        cases hy with
        |rd _ _ hy=>exact (fA (fs:=[]) (.rd _ _ hy) hfy).1
        |agg ys cs' g1 g2 g3=>
         have cP:∀(xs:lA),bm xs=true->∀i (h:i<xs.length),cg xs[i]=true:=by
          intro xs;induction xs with
          |nil=>intro _ i h;exact absurd h (q25 _)
          |cons x r ih2=>
           intro hh i hi;simp only[bm,Bool.and_eq_true] at hh;cases i with
           |zero=>exact hh.1
           |succ i=>exact ih2 hh.2 i (by simpa using hi)
         refine .agg ys cs' g1 g2 λc hc=>?_;have q1:=g3 c hc;have q2:=cP ys hfy c hc;have q3:=g2 c hc;generalize ys[c]=z at q1 q2 q3 ⊢;generalize cs'.toList.getD c uD=u' at q1 ⊢;cases q1 with
         |rd _ _ hz=>exact (fA (fs:=[]) (.rd _ _ hz) q2).1
         |agg=>exact q3.elim
         |aX=>exact q3.elim
         |cn=>cases q2
         |ref=>cases q2
         |ptr=>cases q2
        |aX=>cases hfy
        |cn=>cases hfy
        |ref=>cases hfy
        |ptr=>cases hfy
       obtain ⟨g1,g2,g3,x',hkx,V3,V4⟩:=NI (S:=λ_=>False) (fA hxo hfx).1 hxf hy0 cf (n:=ti.size) (by cases y<;>exact hn) hk hfy;have hsp:i*sh.sz+j+v.cells.toList.length<=cs.size:=by simp only[q0] at cf;omega
       refine ⟨_,fF ht aD g1 hsp g3,?_⟩;have V5:∀c,c∈fss.flatten->c≠b:=by have:=h.hZ l;rw[hgf] at this;exact λc hc e=>(q14.1 this).1 (e▸hc)
       have hRS:=h.write hφ aD (bX hsp) (.row v' sh deep (xs.set i x')) rfl
        (.inr ⟨b,cap,by rw [aB];exact hφ,by rw [hgf];exact hbm,by rw [hgf];exact hdp,by
          rw[hgf]
          have lz:=Own.arr (w:=w.setRow b (cs.toList.take (i*sh.sz+j)++v.cells.toList++cs.toList.drop (i*sh.sz+j+v.cells.toList.length)).toArray) (S:=if deep=true then λ_=>False else S)
           sh (xs.set i x') b cap _ e fss (bW aD (bX hsp)) (by rw[bX hsp];exact hcs) (by rw[q10];exact b_) hmx ?_ (by rw[q10];exact hfl) ?_
          . exact lz
          . intro c hc;rw [q10] at hc;rw [q7];split
            . exact V3
            exact hff c hc
          intro c hc;rw[q10] at hc;rw[q7];by_cases hic:i=c
          . subst hic;rw[if_pos rfl];have:=(fA (S':=λ_=>False) hxo hfx).2;rw[this];exact .rd _ _ (V4.mono (λ_ h=>h.elim) (λ_ h=>h.elim))
          rw[if_neg hic]
          rw[ib (Ne.symm hic) g2 cf (λhag=>by cases x<;>first|exact hxf.2|exact hxf.elim|(have:=hxf.1;rw[hag] at this;cases this))]
          refine (hvv c hc).mono (λq hq=>?_) (λ_ h=>h) λq hq=>aC _ (V5 q (aK (hfl▸hc) hq));cases deep with
          |true=>exact hq.elim
          |false=>exact aC _ λe=>h.bS l b (h.at_mem hφ) (e▸hq)⟩)
        (λ_ _ hx=>by cases hx)
       exact ⟨_,_,_,_,_,hRS,rfl,hkx⟩
   . rename_i v' sh xs u0 hlk;obtain ⟨rfl,hfy,hk⟩:=hk;cases hx:xs[i]? with
     |none=>rw[hx] at hk;exact hk.elim
     |some x=>
      rw[hx] at hk;obtain ⟨hfx,hn,hk⟩:=hk;obtain ⟨hi1,hi2⟩:=q5.1 hx;obtain ⟨b,cap,hφ,hbm,hu,bc⟩:=h.aG l _ hlk;have hpv:=hp1 b sh hφ;subst hpv;subst hu;generalize hgf:fp l=fs at bc hbm;cases bc with
      |rd _ _ hrd=>exact absurd hbm (by simp)
      |arr _ _ _ _ cs e fss aD hcs b_ hmx hff hfl hvv=>
       have hxo:=hvv i hi1;have hxf:=hff i hi1;rw[hi2] at hxo hxf;have cf:i*sh.sz+sh.sz<=cs.toList.length:=by have h1:=a8 (s:=sh.sz) (q22 hi1 b_);simp only[q0];omega
       have hy0:Rd w (λ_=>False) y v:=by
        cases hy with
        |rd _ _ hy=>exact (fA (fs:=[]) (.rd _ _ hy) hfy).1
        |agg ys cs' g1 g2 g3=>
         have cP:∀(xs:lA),bm xs=true->∀i (h:i<xs.length),cg xs[i]=true:=by
          intro xs;induction xs with
          |nil=>intro _ i h;exact absurd h (q25 _)
          |cons x r ih2=>
           intro hh i hi;simp only[bm,Bool.and_eq_true] at hh;cases i with
           |zero=>exact hh.1
           |succ i=>exact ih2 hh.2 i (by simpa using hi)
         refine .agg ys cs' g1 g2 λc hc=>?_;have q1:=g3 c hc;have q2:=cP ys hfy c hc;have q3:=g2 c hc;generalize ys[c]=z at q1 q2 q3 ⊢;generalize cs'.toList.getD c uD=u' at q1 ⊢;cases q1 with
         |rd _ _ hz=>exact (fA (fs:=[]) (.rd _ _ hz) q2).1
         |agg=>exact q3.elim
         |aX=>exact q3.elim
         |cn=>cases q2
         |ref=>cases q2
         |ptr=>cases q2
        |aX=>cases hfy
        |cn=>cases hfy
        |ref=>cases hfy
        |ptr=>cases hfy
       obtain ⟨g1,g2,g3,x',hkx,V3,V4⟩:=NI (S:=λ_=>False) (fA hxo hfx).1 hxf hy0 cf (n:=ti.size) (by cases y<;>exact hn) hk hfy;have hsp:i*sh.sz+j+v.cells.toList.length<=cs.size:=by simp only[q0] at cf;omega
       refine ⟨_,fF ht aD g1 hsp g3,?_⟩;have V5:∀c,c∈fss.flatten->c≠b:=by have:=h.hZ l;rw[hgf] at this;exact λc hc e=>(q14.1 this).1 (e▸hc)
       have hRS:=h.write hφ aD (bX hsp) (.sub v' sh (xs.set i x') (.slice (some ⟨b,0,none⟩) xs.length cap)) rfl
        (⟨b,cap,by rw [aB];exact hφ,by rw [hgf];exact hbm,by rw [q10],by
          rw[hgf]
          have lz:=Own.arr (w:=w.setRow b (cs.toList.take (i*sh.sz+j)++v.cells.toList++cs.toList.drop (i*sh.sz+j+v.cells.toList.length)).toArray) (S:=λ_=>False)
           sh (xs.set i x') b cap _ e fss (bW aD (bX hsp)) (by rw[bX hsp];exact hcs) (by rw[q10];exact b_) hmx ?_ (by rw[q10];exact hfl) ?_
          . simpa using lz
          . intro c hc;rw [q10] at hc;rw [q7];split
            . exact V3
            exact hff c hc
          intro c hc;rw[q10] at hc;rw[q7];by_cases hic:i=c
          . subst hic;rw[if_pos rfl];have:=(fA (S':=λ_=>False) hxo hfx).2;rw[this];exact .rd _ _ (V4.mono (λ_ h=>h.elim) (λ_ h=>h.elim))
          rw[if_neg hic]
          rw[ib (Ne.symm hic) g2 cf (λhag=>by cases x<;>first|exact hxf.2|exact hxf.elim|(have:=hxf.1;rw[hag] at this;cases this))]
          exact (hvv c hc).mono (λq hq=>hq.elim) (λ_ h=>h) λq hq=>aC _ (V5 q (aK (hfl▸hc) hq))⟩)
        (λ_ _ hx=>by cases hx)
       exact ⟨_,_,_,_,_,hRS,rfl,hkx⟩
   exact hk.elim
 exact hk.elim
theorem gH (fs:lN):∀(fss:List lN) (i:Nat),i<fss.length->fss.getD i []=[]->(fss.set i fs).flatten.Perm (fs++fss.flatten)
 |x::r,0,_,h=>by
  have h:x=[]:=h;subst h;simp
 |x::r,i+1,hi,h=>by have ih:=gH fs r i (by simpa using hi) (by simpa using h);simp only[List.set_cons_succ,List.flatten_cons];refine (ih.append_left x).trans ?_;rw[←List.append_assoc,←List.append_assoc];exact List.perm_append_comm.append_right _
theorem kg {sh:Sh}{ys:lA}{u:Value}{fs:lN}(h:Own w (λ_=>False) (.arr sh ys) u fs):
 (ys=[]/\fs=[]/\∃a,u= .slice a 0 0)\/∃(b cap:Nat) (cs:aV) (e:El) (fss:List lN),u= .slice (some ⟨b,0,none⟩) ys.length cap/\fs=b::fss.flatten/\w.heap[b]? =some (eA cs e)/\cs.size=cap*sh.sz/\ys.length<=cap/\cap<=maxLen∧
   (∀i (h:i<ys.length),fits sh ys[i])/\fss.length=ys.length/\∀i (h:i<ys.length),Own w (λ_=>False) ys[i] (elemV cs.toList (i*sh.sz) sh) (fss.getD i []):=by
 cases h with
 |rd _ _ h=>
  cases h with
  |nil _ a=>exact .inl ⟨rfl,rfl,a,rfl⟩
  |arr _ _ _ _ _ _ _ _ hS=>exact hS.elim
 |arr _ _ b cap cs e fss hb hc hl hm hf hs hv=>exact .inr ⟨b,cap,cs,e,fss,rfl,rfl,hb,hc,hl,hm,hf,hs,hv⟩
theorem RF {u v:Value}{S0:nP}{fs:lN}(h:Own w S0 (.val u) v fs):v=u/\fs=[]/\u.oneCell'=true:=by
 cases h with
 |rd _ _ h=>cases h with|val _ h=>exact ⟨rfl,rfl,h⟩
theorem Em {sh:Sh}{xs:lA}{b cap:Nat}{fs:lN}{S:nP}(h:Own w S (.arr sh xs) (.slice (some ⟨b,0,none⟩) xs.length cap) fs)(hb:b∈fs)(n:Nat)(hn:n<=xs.length):
 ∃gs,Own w S (.arr sh (xs.take n)) (.slice (some ⟨b,0,none⟩) n cap) gs/\gs.Sublist fs/\∃cs e,w.heap[b]? =some (eA cs e)/\cs.size=cap*sh.sz:=by
 cases h with
 |rd=>cases hb
 |arr _ _ _ _ cs e fss aD hc hl hm hf hs hv=>
  have hlen:(xs.take n).length=n:=by simp;omega
  refine ⟨b::(fss.take n).flatten,?_,?_,cs,e,aD,hc⟩
  . have:=Own.arr (w:=w) (S:=S) sh (xs.take n) b cap cs e (fss.take n) aD hc (by omega) hm (λi hi=>by rw [q8];exact hf i (by omega)) (by simp;omega) (λi hi=>by
     rw[q8,show (fss.take n).getD i []=fss.getD i [] by rw[q3,q3,List.getElem?_take,if_pos (by omega)]]
     exact hv i (by omega))
    rwa [hlen] at this
  refine List.Sublist.cons_cons b ?_;conv=>rhs;rw[←q17 n fss,q1]
  exact q16 _ _
theorem wW (h:RS B N φ fp S ts m a w){l v n:Nat}{sh:Sh}{xs:lA}{u:Value}(hlk:ah m l=some (.row v sh true xs))(hx:RV w S φ (.ref l v 0 n) u)(h0:0<sh.sz)(hn:n<=xs.length):
 ∃fs,Own w (λ_=>False) (.arr sh (xs.take n)) u fs/\fs.Sublist (fp l):=by
 obtain ⟨r1,r2⟩:=dt hx;have ju:n=0->(∃ad,u= .slice ad 0 0)->∃fs,Own w (λ_=>False) (.arr sh (xs.take n)) u fs/\fs.Sublist (fp l):=by rintro rfl ⟨ad,rfl⟩;exact ⟨[],by rw[q18];exact .rd _ _ (.nil sh ad),List.nil_sublist _⟩
 rcases h.aG l _ hlk with ⟨hφ,hxs,_⟩|⟨b,cap,hφ,hbm,_,bc⟩
 . exact ju (r2 hφ).1 (r2 hφ).2
 obtain ⟨ad,cap',rfl,b_,hc⟩:=r1 b sh hφ;rcases hc with rfl|⟨rfl,cs',e',hh',hs'⟩
 . have:n=0:=(by omega);subst this;exact ju rfl ⟨_,rfl⟩
 simp only[if_true] at bc;obtain ⟨gs,g1,g2,cs,e,g3,g4⟩:=Em bc hbm n hn;rw[g3] at hh';injection hh' with hh';injection hh' with e1
 subst e1;rw[g4,q26] at hs';have:cap=cap':=Nat.eq_of_mul_eq_mul_right h0 hs';subst this;exact ⟨gs,by simpa using g1,g2⟩
theorem ic {t:TypeId}{ti:TI}(ht:aL P t=some ti)(h:RS B N φ fp S ts m a w){p y:AV}{u v:Value}(hp:RV w S φ p u)(hy:RV w S φ y v)(hyl:∀l af,(l,af)∈ao y->known m l af)
 {k:Mem->Prop} (hk:cF ti.size p y m k):Aq B N a (λts' m'=>ts'=ts/\k m') ((Instr.storeAt t u v).run P w):=by
 unfold cF at hk;split at hk
 . rename_i l af i j l2 v2 i2 n2;unfold nb at hk;split at hk
   . rename_i v' xs hlk;obtain ⟨rfl,⟨hn,rfl,rfl,hi,hne,hio⟩,hk⟩:=hk;unfold RC at hk;split at hk
     . rename_i v2' sh2 ys kv;obtain ⟨rfl,h0,hn2,hk⟩:=hk;obtain ⟨fsY,hoY,ux⟩:=wW h kv hy h0 hn2;rcases h.aG l _ hlk with ⟨_,ju,_⟩|⟨b,cap,hφ,hbm,_,bc⟩
       . subst ju;exact absurd hi (q25 _)
       have hpv:=j0 hp b _ hφ;simp only[q24,Nat.add_zero] at hpv;subst hpv;simp only[if_true] at bc;rcases kg bc with ⟨hx0,_⟩|⟨b',cap',cs,e,fss,q1,hgf,aD,hcs,b_,hmx,hff,hfl,hvv⟩
       . subst hx0;exact absurd hi (q25 _)
       simp only[Value.slice.injEq,Option.some.injEq,Addr.mk.injEq] at q1;obtain ⟨⟨rfl,_⟩,_,rfl⟩:=q1;have hv1:v.oneCell'=true:=hy.aW trivial;have hvc:v.cells.toList=[v]:=(by rw[eJ hv1]);have hil:i<cs.toList.length:=by simp only[q0];rw[hcs];simp only[q24];exact q22 hi b_
       have cH:=fF (P:=P) ht aD (o:=i) (v:=v) (by rw [hvc];exact hn.symm) (by rw [hvc];simp at hil ⊢;omega) (by rw [hvc];intro u hu;simp at hu;subst hu;exact hv1);rw [hvc] at cH;refine ⟨_,cH,?_⟩;have hsp:(cs.toList.take i++[v]++cs.toList.drop (i+[v].length)).toArray.size=cs.size:=bX (cs:=cs) (o:=i) (vs:=[v]) (by simp at hil ⊢;omega);have hR1:=h.Rt l2 _ kv S (λ_ h=>h) (λb h1 h2=>absurd h1 h2);have hnl:l≠l2:=Ne.symm hne;have V6:nX φ l2 .dead l=φ l:=bB _ _ _ _ hnl;have hY1:∀c,c∈fsY->c∈fp l2:=λc hc=>ux.subset hc;have hYb:∀c,c∈fsY->c≠b:=λc hc e=>hne (h.fL l2 l c (hY1 c hc) (e▸hbm));have QZ:=h.hZ l;rw [hgf] at QZ;have hbf:∀c,c∈fss.flatten->c≠b:=λc hc e=>(q14.1 QZ).1 (e▸hc);have hlf:i<fss.length:=(by omega);have Q1:∀c,c∈(fss.set i fsY).flatten->c∈fsY\/c∈fss.flatten:=by
        intro c hc;obtain ⟨q,hq,hcq⟩:=List.mem_flatten.1 hc;rcases List.mem_or_eq_of_mem_set hq with hq|rfl
        . exact .inr (List.mem_flatten.2 ⟨q,hq,hcq⟩)
        exact .inl hcq
       have XE:(fss.set i []).flatten.Nodup:=by
        have hsl:∀(fss:List lN) (i:Nat),((fss.set i []).flatten).Sublist fss.flatten:=by
         intro fss;induction fss with
         |nil=>intro i;simp
         |cons x r ih=>
          intro i;cases i with
          |zero=>simp
          |succ i=>simpa using (List.Sublist.refl x).append (ih i)
        exact (q14.1 QZ).2.sublist (hsl fss i)
       have G8:(fss.set i fsY).flatten.Perm (fsY++(fss.set i []).flatten):=by
        have:=gH fsY (fss.set i []) i (by simpa using hlf) (by simp[q3,hlf])
        rwa [List.set_set] at this
       have hpS:∀c,c∈(fss.set i []).flatten->c∈fss.flatten:=by
        intro c hc;obtain ⟨q,hq,hcq⟩:=List.mem_flatten.1 hc;rcases List.mem_or_eq_of_mem_set hq with hq|rfl
        . exact List.mem_flatten.2 ⟨q,hq,hcq⟩
        cases hcq
       have XF:(b::(fss.set i fsY).flatten).Nodup:=by
        refine q14.2 ⟨λhc=>?_,G8.nodup_iff.2 (List.nodup_append.2 ⟨ux.nodup (h.hZ l2),XE,?_⟩)⟩
        . rcases Q1 b hc with hc|hc
          . exact hYb b hc rfl
          exact hbf b hc rfl
        rintro c hc c' hc' rfl;exact hne (h.fL l2 l c (hY1 c hc) (by rw[hgf];exact q12 _ (hpS c hc')))
       have cy:∀c,c∈b::(fss.set i fsY).flatten->c∈fp l\/c∈fp l2:=by
        intro c hc;rcases List.mem_cons.1 hc with rfl|hc
        . exact .inl hbm
        rcases Q1 c hc with hc|hc
        . exact .inr (hY1 c hc)
        exact .inl (by rw[hgf];exact q12 _ hc)
       refine ⟨_,_,_,_,_,hR1.next l (φ l) (b::(fss.set i fsY).flatten) S (.row v' ⟨1,false⟩ true (xs.set i (.arr sh2 (ys.take n2)))) (by simp) ⟨rfl,rfl,rfl⟩ (jI.setRow aD hsp) ?_ (λc hc=>⟨hc,aC _ λe=>h.bS l b hbm (e▸hc)⟩) (λc h1 h2=>absurd h1 h2)
        (fX.setRow _ aD hsp) ?_ (λaf _=>by rw[V6];exact LS.le_refl _ _) ?_ ?_ (λ_ _ hx=>by cases hx) XF ?_,rfl,hk⟩
       . intro c hc YM;refine aC _ λe=> ?_;subst e;rcases (h.cu l c hbm).2 with hh|hh
         . exact q21 _ (q22 hc hh)
         exact YM _ hh.choose_spec.1
       . intro l' hl' c hc;refine aC _ λe=> ?_;subst e;by_cases e2:l'=l2
         . subst e2;rw[aB] at hc;cases hc
         rw[bB _ _ _ _ e2] at hc;exact hl' (h.fL l' l c hc hbm)
       . rintro af ⟨k',h1,h2⟩;rw[aw,if_neg hne,hlk] at h1;cases h1;exact h2
       . refine .inr ⟨b,cap,by rw [aB];exact hφ,q13 ..,λh=>(by cases h),?_⟩;refine .arr ⟨1,false⟩ _ b cap _ e (fss.set i fsY) (bW aD hsp) (by rw [hsp];exact hcs) (by rw [q10];exact b_) hmx (λc hc=> ?_) (by simpa using hfl) (λc hc=> ?_)
         . rw [q7];split
           . exact ⟨rfl,rfl⟩
           exact hff c (by simpa using hc)
         have hc':c<xs.length:=(by simpa using hc);by_cases hic:i=c
         . subst hic;rw [List.getElem_set_self];have e1:(fss.set i fsY).getD i []=fsY:=(by simp [q3,hlf]);have hlt:(cs.toList.take i).length=i:=(by simp only [q11];omega);have e2:elemV (cs.toList.take i++[v]++cs.toList.drop (i+[v].length)) (i*1) ⟨1,false⟩=v:=by
            rw[bd,q24,q3,List.getElem?_append_left (by rw[List.length_append,hlt];simp),List.getElem?_append_right (by omega),hlt];simp
           rw[e1];show Own _ _ _ (elemV (cs.toList.take i++[v]++cs.toList.drop (i+[v].length)) (i*1) ⟨1,false⟩) _;rw[e2];exact hoY.mono (λ_ h=>h.elim) (λ_ h=>h) λc hc=>aC _ (hYb c hc)
         rw[List.getElem_set_ne hic];have e1:(fss.set i fsY).getD c []=fss.getD c []:=(by simp[q3,hic]);have e2:=ib (l:=cs.toList) (vs:=[v]) (sh:=⟨1,false⟩) (i:=i) (i':=c) (j:=0) (Ne.symm hic) (by simp) (by simp at hil ⊢;omega) (λ_=>rfl);simp only[q24,Nat.add_zero] at e2;rw[e1];show Own _ _ _ (elemV (cs.toList.take i++[v]++cs.toList.drop (i+[v].length)) (c*1) ⟨1,false⟩) _;rw[q24,e2];have:=hvv c hc';rw[q24] at this;exact this.mono (λ_ h=>h.elim) (λ_ h=>h) λq hq=>aC _ (hbf q (aK (hfl▸hc') hq))
       intro c hc;have hw:(w.setRow b (cs.toList.take i++[v]++cs.toList.drop (i+[v].length)).toArray).heap.size=w.heap.size:=(by simp);rcases cy c hc with hcl|hcl
       . have:=h.cu l c hcl;refine ⟨h.bS l c hcl,λl' hl' hc'=> ?_,by rw [hw];exact this.1,this.2⟩;by_cases e2:l'=l2
         . subst e2;rw[aB] at hc';cases hc'
         rw[bB _ _ _ _ e2] at hc';exact hl' (h.fL l' l c hc' hcl)
       have:=h.cu l2 c hcl;refine ⟨h.bS l2 c hcl,λl' hl' hc'=>?_,by rw[hw];exact this.1,.inl (this.2.resolve_right λhh=>q21 _ (q22 hio hh.choose_spec.2.1))⟩;by_cases e2:l'=l2
       . subst e2;rw[aB] at hc';cases hc'
       rw[bB _ _ _ _ e2] at hc';exact e2 (h.fL l' l2 c hc' hcl)
     exact hk.elim
   exact run_store ht h hp hy hyl hk
 exact run_store ht h hp hy hyl hk
theorem lE {t:TypeId}{ti:TI}(ht:aL P t=some ti)(h:RS B N φ fp S ts m a w){l af i:Nat}{xs:lA}{y:AV}{u v:Value}(hp:RV w S φ (.ptr l af i 0) u)(hlk:ah m l=some (.row af ⟨1,false⟩ false xs))(hi:i<xs.length)
 (hy:Rd w S y v) (hyl:leaf y) (hf:fits ⟨1,false⟩ y) (hn:ti.size=1) {k:Mem->Prop} (hk:k ((l,.row af ⟨1,false⟩ false (xs.set i y))::m)):Aq B N a (λts' m'=>ts'=ts/\k m') ((Instr.storeAt t u v).run P w):=by
 have hp1:=j0 hp;have hv1:v.oneCell'=true:=hy.aW hyl;have hvc:v.cells.toList=[v]:=by rw[eJ hv1]
 rcases h.aG l _ hlk with ⟨_,ju,_⟩|⟨b,cap,hφ,hbm,hdp,bc⟩
 . subst ju;exact absurd hi (q25 _)
 have hpv:=hp1 b _ hφ;simp only[q24,Nat.add_zero] at hpv;subst hpv;simp only[Bool.false_eq_true,if_false] at bc;generalize hgf:fp l=fs at bc hbm hdp;cases bc with
 |rd _ _ hrd=>exact absurd hbm (by simp)
 |arr _ _ _ _ cs e fss aD hcs b_ hmx hff hfl hvv=>
  have ZF:cs.size=cap:=by simpa using hcs
  have cf:i<cs.toList.length:=by simp only[q0];omega
  have cH:=fF (P:=P) ht aD (o:=i) (v:=v) (by rw[hvc];exact hn.symm) (by rw[hvc];simp at cf ⊢;omega) (by rw[hvc];intro u hu;simp at hu;subst hu;exact hv1);rw[hvc] at cH;refine ⟨_,cH,?_⟩;have hsp:(cs.toList.take i++[v]++cs.toList.drop (i+[v].length)).toArray.size=cs.size:=bX (cs:=cs) (o:=i) (vs:=[v]) (by simp at cf ⊢;omega);have hf0:fss.flatten=[]:=by have:=hdp rfl;simpa using this
  have hfs:∀c,c<fss.length->fss.getD c []=[]:=λc hc=>by have:=q2.1 hf0 (fss.getD c []) (by rw[q3,q4 hc];exact List.getElem_mem hc);exact this
  have Nq:∀c,(cs.toList.take i++[v]++cs.toList.drop (i+[v].length)).getD c uD=if c=i then v else cs.toList.getD c uD:=by
   intro c;have e:cs.toList.take i++[v]++cs.toList.drop (i+[v].length)=cs.toList.set i v:=by rw[List.set_eq_take_append_cons_drop,if_pos cf];simp
   rw[e,q3,List.getElem?_set];by_cases hc:c=i
   . subst hc;rw[if_pos rfl,if_pos rfl,if_pos cf];rfl
   rw[if_neg hc,if_neg (Ne.symm hc),q3]
  have i_:∀c,S c->(w.setRow b (cs.toList.take i++[v]++cs.toList.drop (i+[v].length)).toArray).heap[c]? =w.heap[c]? :=λc hc=>aC _ λe=>h.bS l b (h.at_mem hφ) (e▸hc)
  have hRS:=h.write hφ aD hsp (.row af ⟨1,false⟩ false (xs.set i y)) rfl
   (.inr ⟨b,cap,by rw [aB];exact hφ,by rw [hgf];exact hbm,by rw [hgf];exact hdp,by
     rw[hgf]
     have lz:=Own.arr (w:=w.setRow b (cs.toList.take i++[v]++cs.toList.drop (i+[v].length)).toArray) (S:=S)
      ⟨1,false⟩ (xs.set i y) b cap _ e fss (bW aD hsp) (by rw[hsp];exact hcs) (by rw[q10];exact b_) hmx ?_ (by rw[q10];exact hfl) ?_
     . simpa using lz
     . intro c hc;rw [q10] at hc;rw [q7];split
       . exact hf
       exact hff c hc
     intro c hc;rw[q10] at hc;rw[q7,bd,q24];show Own _ S _ ((cs.toList.take i++[v]++cs.toList.drop (i+[v].length)).getD c uD) _;rw[Nq c,hfs c (by omega)];by_cases hic:i=c
     . subst hic;rw[if_pos rfl,if_pos rfl];exact .rd _ _ (hy.mono i_ λ_ h=>h)
     rw[if_neg hic,if_neg (Ne.symm hic)];have:=hvv c hc;rw[hfs c (by omega),bd,q24] at this
     exact this.mono i_ (λ_ h=>h) λq hq=>by cases hq⟩)
   (λ_ _ hx=>by cases hx)
  exact ⟨_,_,_,_,_,hRS,rfl,hk⟩
theorem CI {t:TypeId}{ti:TI}(ht:aL P t=some ti)(h:RS B N φ fp S ts m a w){l af i l2 v2 n2:Nat}{xs ys:lA}{sh2:Sh}{u v:Value}(hp:RV w S φ (.ptr l af i 0) u)(hlk:ah m l=some (.row af ⟨1,false⟩ false xs))(hi:i<xs.length)
 (kv:ah m l2=some (.row v2 sh2 true ys)) (hl2:l2<bE) (hne:l2≠l) (h0:0<sh2.sz) (hn2:n2<=ys.length) (hy:RV w S φ (.ref l2 v2 0 n2) v) (hn:ti.size=1) {k:Mem->Prop}
 (hk:k ((l,.row af ⟨1,false⟩ false (xs.set i (.arr sh2 (ys.take n2))))::(l2,.gone v2)::m)):Aq B N a (λts' m'=>ts'=ts/\k m') ((Instr.storeAt t u v).run P w):=by
 obtain ⟨fs,bc,ux⟩:=wW h kv hy h0 hn2;have hR:=h.Rt l2 _ kv (λb=>S b\/b∈fp l2) (λ_ h=>.inl h) (λb h1 h2=>⟨h1.resolve_left h2,hl2⟩);have hrd:Rd w (λb=>S b\/b∈fp l2) (.arr sh2 (ys.take n2)) v:=bc.mm (λ_ h=>h.elim) λc hc=>.inr (ux.subset hc);have hp':RV w (λb=>S b\/b∈fp l2) (nX φ l2 .dead) (.ptr l af i 0) u:=by
  refine hp.mono (λ_ _=>rfl) (λ_ h=>.inl h) (λl b sh af cs e _ hb=>⟨cs,e,hb,rfl⟩) λl' ver' hl'=>?_;by_cases e:l'=l2
  . subst e;rw[aB];exact LS.rK _ _
  rw[bB _ _ _ _ e];exact LS.le_refl _ _
 exact lE ht hR hp' (by rw[aw,if_neg hne];exact hlk) hi hrd trivial ⟨rfl,rfl⟩ hn hk
theorem gI {S:nP}{sh:Sh}{xs:lA}{b n cap:Nat}{fs:lN}(h:Own w S (.arr sh xs) (.slice (some ⟨b,0,none⟩) n cap) fs)(hb:b∈fs):
 ∃(cs:aV) (e:El) (fss:List lN),fs=b::fss.flatten/\w.heap[b]? =some (eA cs e)/\cs.size=cap*sh.sz/\xs.length<=cap/\cap<=maxLen/\(∀i (h:i<xs.length),fits sh xs[i])/\fss.length=xs.length∧
  ∀i (h:i<xs.length),Own w S xs[i] (elemV cs.toList (i*sh.sz) sh) (fss.getD i []):=by
 cases h with
 |rd _ _ h=>cases hb
 |arr _ _ _ _ cs e fss h1 h2 h3 h4 h5 h6 h7=>exact ⟨cs,e,fss,rfl,h1,h2,h3,h4,h5,h6,h7⟩
theorem CJ {t:TypeId}{ti:TI}(ht:aL P t=some ti)(h:RS B N φ fp S ts m a w){l af i l2 v2 n2:Nat}{xs ys:lA}{sh2:Sh}{u v:Value}(hp:RV w S φ (.ptr l af i 0) u)(hlk:ah m l=some (.row af ⟨1,false⟩ false xs))(hi:i<xs.length)
 (kv:ah m l2=some (.row v2 sh2 false ys)) (hl2:l2<bE) (hne:l2≠l) (hn2:n2<=ys.length) (hy:RV w S φ (.ref l2 v2 0 n2) v) (hn:ti.size=1) {k:Mem->Prop}
 (hk:k ((l,.row af ⟨1,false⟩ false (xs.set i (.arr sh2 (ys.take n2))))::(l2,.gone v2)::m)):Aq B N a (λts' m'=>ts'=ts/\k m') ((Instr.storeAt t u v).run P w):=by
 have hR:=h.Rt l2 _ kv (λb=>S b\/b∈fp l2) (λ_ h=>.inl h) (λb h1 h2=>⟨h1.resolve_left h2,hl2⟩);have hrd:Rd w (λb=>S b\/b∈fp l2) (.arr sh2 (ys.take n2)) v:=by
  have hr:=dt hy;have hlen:(ys.take n2).length=n2:=by simp;omega
  rcases h.aG l2 _ kv with ⟨h1,h2,h3⟩|⟨b,cap,hφ,hbm,hdp,bc⟩
  . obtain ⟨rfl,ad,rfl⟩:=hr.2 h1;rw[q18];exact .nil _ _
  obtain ⟨ad,cp,rfl,hnc,hcp⟩:=hr.1 b sh2 hφ;obtain ⟨cs,e,fss,hgf,aD,hcs,b_,hmx,hff,hfl,hvv⟩:=gI bc hbm;by_cases hc0:cp=0
  . have:n2=0:=(by omega);subst this;subst hc0;rw[q18];exact .nil _ _
  obtain ⟨rfl,cs',e',g1,g2⟩:=hcp.resolve_left hc0;obtain rfl:=dc (aD.symm.trans g1);have cf:0*sh2.sz+n2*sh2.sz<=cs.size:=by rw[g2,←q19];exact q23 _ (by omega)
  have:=Rd.arr (w:=w) (S:=λb=>S b\/b∈fp l2) sh2 (ys.take n2) b (0*sh2.sz) cp cs e.1 (ou e cs.size) (.inr hbm) aD (by rw [hlen];exact hnc) (by rw [hlen];exact cf)
   (λq hq=>by rw[hlen] at hq;simp only[q8];exact hff _ (by omega))
   (λq hq=>by
     rw[hlen] at hq;simp only[q8];have:=(hvv q (by omega)).mm (S':=λb=>S b\/b∈fp l2) (λc hc=>.inl hc) (λc hc=>.inr (by rw[hgf];exact q12 _ (aK (by omega) hc)))
     rwa [q27,q26])
  rw[hlen] at this;exact this
 have hp':RV w (λb=>S b\/b∈fp l2) (nX φ l2 .dead) (.ptr l af i 0) u:=by
  refine hp.mono (λ_ _=>rfl) (λ_ h=>.inl h) (λl b sh af cs e _ hb=>⟨cs,e,hb,rfl⟩) λl' ver' hl'=>?_;by_cases e:l'=l2
  . subst e;rw[aB];exact LS.rK _ _
  rw[bB _ _ _ _ e];exact LS.le_refl _ _
 exact lE ht hR hp' (by rw[aw,if_neg hne];exact hlk) hi hrd trivial ⟨rfl,rfl⟩ hn hk
def gV (n l af i j:Nat)(b:Option bf)(y:AV)(m:Mem)(k:Mem->Prop):Prop:=match b with
 |some (.row v ⟨1,false⟩ false xs)=>cF n (.ptr l af i j) y m k\/((v=af/\n=1/\j=0/\i<xs.length)/\k ((l,.row af ⟨1,false⟩ false (xs.set i y))::m))
 |_=>cF n (.ptr l af i j) y m k
@[congr] theorem NJ {n l af i j:Nat} {b b':Option bf} {y:AV} {m:Mem} {k:Mem->Prop} (h:b=b'):gV n l af i j b y m k=gV n l af i j b' y m k:=by rw[h]
theorem rT (n l af i j v:Nat)(xs:lA)(y:AV)(m:Mem)(k:Mem->Prop):gV n l af i j (some (.box v xs)) y m k=cF n (.ptr l af i j) y m k:=rfl
def jj (l af i:Nat)(xs:lA)(l2 v2 n2:Nat)(b:Option bf)(m:Mem)(k:Mem->Prop):Prop:=match b with
 |some (.row v sh2 true ys)=>(v=v2/\0<sh2.sz/\n2<=ys.length)/\k ((l,.row af ⟨1,false⟩ false (xs.set i (.arr sh2 (ys.take n2))))::(l2,.gone v2)::m)
 |some (.row v sh2 false ys)=>(v=v2/\n2<=ys.length)/\k ((l,.row af ⟨1,false⟩ false (xs.set i (.arr sh2 (ys.take n2))))::(l2,.gone v2)::m)
 |_=>False
@[congr] theorem Nu {l af i:Nat} {xs:lA} {l2 v2 n2:Nat} {b b':Option bf} {m:Mem} {k:Mem->Prop} (h:b=b'):jj l af i xs l2 v2 n2 b m k=jj l af i xs l2 v2 n2 b' m k:=by rw[h]
theorem qo (l af i:Nat)(xs:lA)(l2 v2 n2 v:Nat)(sh2:Sh)(ys:lA)(m:Mem)(k:Mem->Prop):jj l af i xs l2 v2 n2 (some (.row v sh2 true ys)) m k=
 ((v=v2/\0<sh2.sz/\n2<=ys.length)/\k ((l,.row af ⟨1,false⟩ false (xs.set i (.arr sh2 (ys.take n2))))::(l2,.gone v2)::m)):=rfl
theorem wX (l af i:Nat)(xs:lA)(l2 v2 n2 v:Nat)(sh2:Sh)(ys:lA)(m:Mem)(k:Mem->Prop):jj l af i xs l2 v2 n2 (some (.row v sh2 false ys)) m k=
 ((v=v2/\n2<=ys.length)/\k ((l,.row af ⟨1,false⟩ false (xs.set i (.arr sh2 (ys.take n2))))::(l2,.gone v2)::m)):=rfl
def jJ (n l af i j:Nat)(b:Option bf)(l2 v2 i2 n2:Nat)(m:Mem)(k:Mem->Prop):Prop:=match b with
 |some (.row v ⟨1,false⟩ false xs)=>cF n (.ptr l af i j) (.ref l2 v2 i2 n2) m k\/((v=af/\n=1/\j=0/\i2=0/\i<xs.length/\l2≠l/\l2<bE)/\jj l af i xs l2 v2 n2 (ah m l2) m k)
 |_=>cF n (.ptr l af i j) (.ref l2 v2 i2 n2) m k
@[congr] theorem NK {n l af i j:Nat} {b b':Option bf} {l2 v2 i2 n2:Nat} {m:Mem} {k:Mem->Prop} (h:b=b'):jJ n l af i j b l2 v2 i2 n2 m k=jJ n l af i j b' l2 v2 i2 n2 m k:=by rw[h]
theorem rU (n l af i j v:Nat)(xs:lA)(l2 v2 i2 n2:Nat)(m:Mem)(k:Mem->Prop):jJ n l af i j (some (.box v xs)) l2 v2 i2 n2 m k=cF n (.ptr l af i j) (.ref l2 v2 i2 n2) m k:=rfl
theorem qq (n l af i j v:Nat)(xs:lA)(l2 v2 i2 n2:Nat)(m:Mem)(k:Mem->Prop):jJ n l af i j (some (.row v ⟨1,false⟩ false xs)) l2 v2 i2 n2 m k=
 (cF n (.ptr l af i j) (.ref l2 v2 i2 n2) m k\/((v=af/\n=1/\j=0/\i2=0/\i<xs.length/\l2≠l/\l2<bE)/\jj l af i xs l2 v2 n2 (ah m l2) m k)):=rfl
def fZ (n:Nat)(p y:AV)(m:Mem)(k:Mem->Prop):Prop:=match p,y with
 | .ptr l af i j,.arr sh ys=>gV n l af i j (ah m l) (.arr sh ys) m k
 | .ptr l af i j,.val (.slice none 0 0)=>gV n l af i j (ah m l) (.val (.slice none 0 0)) m k
 | .ptr l af i j,.ref l2 v2 i2 n2=>jJ n l af i j (ah m l) l2 v2 i2 n2 m k
 |p,y=>cF n p y m k
@[congr] theorem Rj {n:Nat} {p p' y y':AV} {m:Mem} {k:Mem->Prop} (h:p=p') (h':y=y'):fZ n p y m k=fZ n p' y' m k:=by rw[h,h']
section
variable (n l af i j:Nat) (m:Mem) (k:Mem->Prop)
theorem uO (sh:Sh)(ys:lA):fZ n (.ptr l af i j) (.arr sh ys) m k=gV n l af i j (ah m l) (.arr sh ys) m k:=rfl
theorem uP (l2 v2 i2 n2:Nat):fZ n (.ptr l af i j) (.ref l2 v2 i2 n2) m k=jJ n l af i j (ah m l) l2 v2 i2 n2 m k:=rfl
theorem uQ (t:IntKind)(x:Int):fZ n (.ptr l af i j) (.val (.int t x)) m k=cF n (.ptr l af i j) (.val (.int t x)) m k:=rfl
theorem rV (x:Bool):fZ n (.ptr l af i j) (.val (.bool x)) m k=cF n (.ptr l af i j) (.val (.bool x)) m k:=rfl
theorem uR (ys:lA):fZ n (.ptr l af i j) (.agg ys) m k=cF n (.ptr l af i j) (.agg ys) m k:=rfl
theorem uS (f:fI)(xs:lA):fZ n (.ptr l af i j) (.cn f xs) m k=cF n (.ptr l af i j) (.cn f xs) m k:=rfl
end
theorem Hp {n:Nat}{p y:AV}{m:Mem}{k:Mem->Prop}(h:cF n p y m k):fZ n p y m k:=by
 unfold fZ;split
 . unfold gV;split
   . exact .inl h
   exact h
 . unfold gV;split
   . exact .inl h
   exact h
 . unfold jJ;split
   . exact .inl h
   exact h
 exact h
theorem Hq {t:TypeId}{ti:TI}(ht:aL P t=some ti)(h:RS B N φ fp S ts m a w){p y:AV}{u v:Value}(hp:RV w S φ p u)(hy:RV w S φ y v)(hyl:∀l af,(l,af)∈ao y->known m l af)
 {k:Mem->Prop} (hk:fZ ti.size p y m k):Aq B N a (λts' m'=>ts'=ts/\k m') ((Instr.storeAt t u v).run P w):=by
 unfold fZ at hk;split at hk
 . unfold gV at hk;split at hk
   . rename_i hlk;rcases hk with hk|⟨⟨rfl,hn,rfl,hi⟩,hk⟩
     . exact ic ht h hp hy hyl hk
     exact lE ht h hp hlk hi (ma hy) trivial ⟨rfl,rfl⟩ hn hk
   exact ic ht h hp hy hyl hk
 . unfold gV at hk;split at hk
   . rename_i hlk;rcases hk with hk|⟨⟨rfl,hn,rfl,hi⟩,hk⟩
     . exact ic ht h hp hy hyl hk
     obtain ⟨rfl,h1⟩:=aS hy;exact lE ht h hp hlk hi (.val _ h1) trivial ⟨rfl,rfl⟩ hn hk
   exact ic ht h hp hy hyl hk
 . unfold jJ at hk;split at hk
   . rename_i hlk;rcases hk with hk|⟨⟨rfl,hn,rfl,rfl,hi,hne,hl2⟩,hk⟩
     . exact ic ht h hp hy hyl hk
     unfold jj at hk;split at hk
     . rename_i kv;obtain ⟨⟨rfl,h0,hn2⟩,hk⟩:=hk;exact CI ht h hp hlk hi kv hl2 hne h0 hn2 hy hn hk
     . rename_i kv;obtain ⟨⟨rfl,hn2⟩,hk⟩:=hk;exact CJ ht h hp hlk hi kv hl2 hne hn2 hy hn hk
     exact hk.elim
   exact ic ht h hp hy hyl hk
 exact ic ht h hp hy hyl hk
theorem NM (n:Nat)(ag:Bool)(ys:lA):fits ⟨n,ag⟩ (.agg ys)=(ag=true/\ys.length=n):=rfl
theorem NN (n:Nat)(ag:Bool)(v:Value):fits ⟨n,ag⟩ (.val v)=(ag=false/\n=1):=rfl
theorem NO (n:Nat)(ag:Bool)(sh:Sh)(xs:lA):fits ⟨n,ag⟩ (.arr sh xs)=(ag=false/\n=1):=rfl
def rW (ti:TI)(d:Nat)(x y:AV)(m:Mem)(k:AV->Mem->Prop):Prop:=match x,y with
 | .val (.int _ l),.val (.int _ c)=>(0<=l/\l<=c/\c<=1073741824)/\ti.bytes<=65536/\fits ti.sh ti.zero∧
    k (.ref d (az m d) 0 l.toNat) ((d,.row (az m d) ti.sh true (q15 l.toNat ti.zero))::m)
 |_,_=>False
@[congr] theorem TN {ti:TI} {d:Nat} {x x' y y':AV} {m:Mem} {k:AV->Mem->Prop} (h:x=x') (h':y=y'):rW ti d x y m k=rW ti d x' y' m k:=by rw[h,h']
theorem En (ti:TI)(d:Nat)(i j:IntKind)(l c:Int)(m:Mem)(k:AV->Mem->Prop):rW ti d (.val (.int i l)) (.val (.int j c)) m k=((0<=l/\l<=c/\c<=1073741824)/\ti.bytes<=65536/\fits ti.sh ti.zero∧
 k (.ref d (az m d) 0 l.toNat) ((d,.row (az m d) ti.sh true (q15 l.toNat ti.zero))::m)):=rfl
theorem nf {ti:TI}{z:Value}(hz:ti.zero=CA z)(hf:fits ti.sh ti.zero):z.cells.size=ti.size/\(∀(w:World) (S:nP),Rd w S ti.zero (elemV z.cells.toList 0 ti.sh))/\cg ti.zero=true:=by
 rw[hz] at hf ⊢;have one:∀v:Value,v.oneCell'=true->fits ti.sh (.val v)->v.cells.size=ti.size/\(∀(w:World)(S:nP),Rd w S (.val v) (elemV v.cells.toList 0 ti.sh))/\cg (.val v)=true:=by intro v hv hf;obtain ⟨h1,h2⟩:=hf;rw[eJ hv];refine ⟨h2.symm,λw S=>?_,rfl⟩;simp only[elemV,h1,Bool.false_eq_true,if_false];exact .val v hv
 cases z with
 |agg cs=>
  simp only[CA] at hf ⊢;split at hf
  . rename_i cP;rw [if_pos cP];obtain ⟨h1,h2⟩:=hf;have h3:cs.size=ti.size:=by
     show cs.size=ti.sh.sz;simpa using h2
    refine ⟨h3,λw S=>?_,?_⟩
    . have h4:=CE (w:=w) (S:=S) (.agg cs);simp only[CA,if_pos cP] at h4;simp only[elemV,h1,if_true,List.drop_zero,Value.cells];rw[show ti.sh.sz=cs.toList.length by simpa [TI.sh] using h3.symm,List.take_length];exact h4
    simp only[cg];generalize cs.toList=l;induction l with
    |nil=>rfl
    |cons x r ih=>simpa [bm,cg] using ih
  exact hf.elim
 |tuple vs=>exact hf.elim
 |_=>exact one _ rfl hf
theorem oK (z:aV)(n k c s:Nat)(hs:z.size=s)(hc:c<s)(hk:k<n):(madeCells z (n*s)).toList.getD (k*s+c) uD=z.toList.getD c uD:=by
 have h1:k*s+c<n*s:=by have:=a8 (s:=s) hk;omega
 have h2:(k*s+c)%s=c:=by rw[Nat.mul_comm,Nat.mul_add_mod];exact Nat.mod_eq_of_lt hc
 simp only[q3,Array.getElem?_toList,madeCells,Array.getElem?_map,Array.getElem?_range,h1,if_true,Option.map_some,Option.getD_some,hs,h2];rw[getElem!_pos z c (by omega),Array.getElem?_eq_getElem (by omega)];rfl
theorem iu {l l':lV}{o o':Nat}{sh:Sh}(h1:o+sh.sz<=l.length)(h2:o'+sh.sz<=l'.length)(h0:sh.ag=false->sh.sz=1)
 (h:∀c,c<sh.sz->l.getD (o+c) uD=l'.getD (o'+c) uD):elemV l o sh=elemV l' o' sh:=by
 cases sh with
 |mk sz ag=>
 simp only at*;cases ag with
 |false=>have:=h0 rfl;subst this;rw[bd,bd];simpa using h 0 (by omega)
 |true=>
  rw[cV,cV];congr 2;apply List.ext_getElem
  . simp;omega
  intro c h3 h4;simp only[q11,q9] at h3;have e:∀(l:lV)(o:Nat)(h:c<((l.drop o).take sz).length),((l.drop o).take sz)[c]=l.getD (o+c) uD:=by intro l o h;simp only[q11,q9] at h;simp only[q8,q6];rw[q3,q4 (by omega)];rfl
  rw[e,e];exact h c (by omega)
theorem gJ {sh:Sh}{x:AV}(h:fits sh x)(hag:sh.ag=false):sh.sz=1:=by cases x<;>first|exact h.2|exact h.elim|(have:=h.1;rw[hag] at this;cases this)
theorem KO {t:TypeId}{tt ti:TI}(htt:aL P t=some tt)(hks:tt.kind= .slice)(ht:aL P tt.elem=some ti)(h:RS B N φ fp S ts m a w){x y:AV}{u v:Value}(hx:RV w S φ x u)(hy:RV w S φ y v)(d:Nat)
 {k:AV->Mem->Prop} (hk:rW ti d x y m k):iI B N a (λx ts' m'=>ts'=ts/\k x m') ((Instr.makeSlice t u v).run P w):=by
 unfold rW at hk;split at hk
 . rename_i i l j c;obtain ⟨rfl,_⟩:=aS hx;obtain ⟨rfl,_⟩:=aS hy;obtain ⟨⟨h0,hlc,hc⟩,hb,hf,hk⟩:=hk;obtain ⟨inf,dd,z,hi,hd,hz,hag,hsz,hby,hzz,_⟩:=fy ht;obtain ⟨hzs,hzr,hzf⟩:=nf hzz hf;have hsl:=bN htt hks;have V7:(inf.bytes:Int)*c<=281474976710656:=by
    rw[←hby];have h1:(ti.bytes:Int)<=65536:=(by omega);have h2:(ti.bytes:Int)*c<=65536*c:=Int.mul_le_mul_of_nonneg_right h1 (by omega);omega
   have cH:=run_make (P:=P) w t tt.elem inf z hsl hi hz i j l c h0 hlc V7 (by omega);refine ⟨_,_,cH,?_⟩;rw[←hsz];have hcc:l.toNat<=c.toNat:=(by omega)
   have hRS:=h.alloc d ti.sh (.row (az m d) ti.sh true (q15 l.toNat ti.zero)) (madeCells z.cells (c.toNat*ti.size)) tt.elem rfl
    (.inr ⟨w.heap.size,c.toNat,aB _ _ _,by simp,by simp,by
      have e:[w.heap.size]=w.heap.size::(q15 (q15 l.toNat ti.zero).length ([]:lN)).flatten:=by congr 1;exact (q2.2 λl hl=>(List.mem_replicate.1 hl).2).symm
      rw[e];refine .arr _ _ _ _ (madeCells z.cells (c.toNat*ti.size)) (tt.elem,false) _ (nd w _ _) (by rw[size_madeCells];rfl) (by simpa using hcc) (by unfold maxLen;omega) ?_ (by simp) ?_
      . intro q hq;simp only[List.getElem_replicate];exact hf
      intro q hq;simp only [List.length_replicate] at hq;simp only [List.getElem_replicate];have e1:(q15 (q15 l.toNat ti.zero).length ([]:lN)).getD q []=[]:=(by simp [q3,hq]);rw [e1];have e2:elemV (madeCells z.cells (c.toNat*ti.size)).toList (q*ti.sh.sz) ti.sh=elemV z.cells.toList 0 ti.sh:=by
       have hq':q<c.toNat:=(by omega);refine iu ?_ ?_ (gJ hf) λcc hcc=>?_
       . simp only[q0,size_madeCells];exact a8 (s:=ti.size) hq'
       . simp only[q0,hzs];show 0+ti.size<=ti.size;omega
       rw[q26];exact oK z.cells c.toNat q cc ti.size hzs hcc hq'
      rw[e2]
      exact .rd _ _ (hzr _ _)⟩)
    (λ_ _ hx=>by cases hx)
   refine hRS.gives (x:=.ref d (az m d) 0 l.toNat) ?_ ?_ ⟨rfl,hk⟩
   . refine .ref _ _ _ _ _ (λb sh hb=> ?_) (λhb=> ?_) rfl
     . rw[aB] at hb;cases hb;refine ⟨_,c.toNat,rfl,by omega,.inr ⟨by simp,_,_,nd w _ _,by rw[size_madeCells,q26];rfl⟩⟩
     rw[aB] at hb;cases hb
   intro l' af hl;simp only[ao,List.mem_singleton,Prod.mk.injEq] at hl;obtain ⟨rfl,rfl⟩:=hl;exact ⟨_,by simp[aw];rfl,q20 _⟩
 exact hk.elim
def isNil:AV->Bool
 | .e0=>true
 | .val (.slice none 0 0)=>true
 |_=>false
def rX (sh:Sh)(v i n:Nat)(b:Option bf)(k:lA->Prop):Prop:=match b with
 |some (.row v' sh' _ xs)=>v'=v/\sh'=sh/\i+n<=xs.length/\k ((xs.drop i).take n)
 |_=>False
@[congr] theorem TO {sh:Sh} {v i n:Nat} {b b':Option bf} {k:lA->Prop} (h:b=b'):rX sh v i n b k=rX sh v i n b' k:=by rw[h]
theorem Ar (sh:Sh)(v i n:Nat)(d:Bool)(xs:lA)(k:lA->Prop):rX sh v i n (some (.row v sh d xs)) k=(i+n<=xs.length/\k ((xs.drop i).take n)):=by simp[rX]
def qN (sh:Sh)(y:AV)(m:Mem)(k:lA->Prop):Prop:=match y with
 | .arr sh' ys=>sh'=sh/\k ys
 | .ref l v i n=>rX sh v i n (ah m l) k
 |y=>isNil y=true/\k []
@[congr] theorem U1 {sh:Sh} {y y':AV} {m:Mem} {k:lA->Prop} (h:y=y'):qN sh y m k=qN sh y' m k:=by rw[h]
theorem Eo (sh:Sh)(ys:lA)(m:Mem)(k:lA->Prop):qN sh (.arr sh ys) m k=k ys:=by simp[qN]
theorem Ep (sh:Sh)(l v i n:Nat)(m:Mem)(k:lA->Prop):qN sh (.ref l v i n) m k=rX sh v i n (ah m l) k:=rfl
def uT (ti:TI)(l v i n:Nat)(b:Option bf)(ys:lA)(m:Mem)(k:AV->Mem->Prop):Prop:=match b with
 |some (.row v' sh' deep xs)=>v'=v/\i=0/\sh'=ti.sh/\n<=xs.length/\n+ys.length<=1073741824/\k (.ref l (v+1) 0 (n+ys.length)) ((l,.row (v+1) ti.sh deep (xs.take n++ys))::m)
 |_=>False
@[congr] theorem TP {ti:TI} {l v i n:Nat} {b b':Option bf} {ys:lA} {m:Mem} {k:AV->Mem->Prop} (h:b=b'):uT ti l v i n b ys m k=uT ti l v i n b' ys m k:=by rw[h]
theorem As (ag:Bool)(sz by':Nat)(z:AV)(f:List (Nat × Nat × Bool))(e:Nat)(kd:TK)(l v n:Nat)(deep:Bool)(xs ys:lA)(m:Mem)(k:AV->Mem->Prop):
 uT ⟨ag,sz,by',z,f,e,kd⟩ l v 0 n (some (.row v ⟨sz,ag⟩ deep xs)) ys m k=
  (n<=xs.length/\n+ys.length<=1073741824/\k (.ref l (v+1) 0 (n+ys.length)) ((l,.row (v+1) ⟨sz,ag⟩ deep (xs.take n++ys))::m)):=by simp[uT,TI.sh]
def oL (ti:TI)(d:Nat)(x:AV)(ys:lA)(m:Mem)(k:AV->Mem->Prop):Prop:=match x with
 | .ref l v i n=>uT ti l v i n (ah m l) ys m k
 |x=>isNil x=true/\ys.length<=1073741824/\k (.ref d (az m d) 0 ys.length) ((d,.row (az m d) ti.sh true ys)::m)
@[congr] theorem TQ {ti:TI} {d:Nat} {x x':AV} {ys:lA} {m:Mem} {k:AV->Mem->Prop} (h:x=x'):oL ti d x ys m k=oL ti d x' ys m k:=by rw[h]
theorem Au (ti:TI)(d l v i n:Nat)(ys:lA)(m:Mem)(k:AV->Mem->Prop):oL ti d (.ref l v i n) ys m k=uT ti l v i n (ah m l) ys m k:=rfl
theorem Av (ti:TI)(d:Nat)(ys:lA)(m:Mem)(k:AV->Mem->Prop):oL ti d (.val (.slice none 0 0)) ys m k=(ys.length<=1073741824/\k (.ref d (az m d) 0 ys.length) ((d,.row (az m d) ti.sh true ys)::m)):=by simp[oL,isNil]
def vR (ti:TI)(d:Nat)(x y:AV)(m:Mem)(k:AV->Mem->Prop):Prop:=
 ti.bytes<=65536/\0<ti.size/\fits ti.sh ti.zero/\qN ti.sh y m λys=>bm ys=true/\oL ti d x ys m k
theorem jK {xs:lA}(h:bm xs=true):∀i (hi:i<xs.length),cg xs[i]=true:=by
 induction xs with
 |nil=>intro i hi;exact absurd hi (q25 _)
 |cons x r ih=>
  intro i hi;simp only[bm,Bool.and_eq_true] at h;cases i with
  |zero=>exact h.1
  |succ i=>exact ih h.2 i (by simpa using hi)
def FC (P:pR)(w:World)(sz n:Nat)(v:Value)(l:lV):Prop:=l.length=n*sz/\∀w':World,w'.heap=w.heap->(Builtin.firstCells sz n v).run P w'= .ok l.toArray w'
theorem g_ (sz:Nat)(a:Option Addr)(n c:Nat):FC P w sz 0 (.slice a n c) []:=by refine ⟨by simp,λw' _=>?_⟩;cases a<;>simp[Builtin.firstCells,loadCells,loadCellsFrom]
theorem Aw {b off n' c sz n:Nat}{cs:aV}{e:TypeId}{fr:Nat × Nat}(hb:w.heap[b]? =some (.cells cs e fr))(h:off+n*sz<=cs.size):
 FC P w sz n (.slice (some ⟨b,off,none⟩) n' c) ((cs.toList.drop off).take (n*sz)):=by
 refine ⟨by simp;omega,λw' hw=>?_⟩;simp only[Builtin.firstCells];exact mq (by rw[hw];exact hb) off (n*sz) h
theorem kz {l:lV}{off n i:Nat}{sh:Sh}(hi:i<n)(h:off+n*sh.sz<=l.length)(h0:sh.ag=false->sh.sz=1):
 elemV ((l.drop off).take (n*sh.sz)) (i*sh.sz) sh=elemV l (off+i*sh.sz) sh:=by
 have h1:=a8 (s:=sh.sz) hi;refine iu (by simp;omega) (by omega) h0 λc hc=>?_;rw[bT _ _ _ _ (by omega),Nat.add_assoc]
theorem wY {l l':lV}{o:Nat}{sh:Sh}(h:o+sh.sz<=l.length)(h0:sh.ag=false->sh.sz=1):elemV (l++l') o sh=elemV l o sh:=by refine iu (by simp;omega) h h0 λc hc=>?_;simp only[q3];rw[List.getElem?_append_left (by omega)]
theorem Er {l l':lV}{o:Nat}{sh:Sh}(h:o+sh.sz<=l'.length)(h0:sh.ag=false->sh.sz=1):elemV (l++l') (l.length+o) sh=elemV l' o sh:=by refine iu (by simp;omega) h h0 λc hc=>?_;simp only[q3];rw[List.getElem?_append_right (by omega)];congr 2;omega
theorem NP (h:RS B N φ fp S ts m a w){sh:Sh}{y:AV}{v:Value}(hy:RV w S φ y v){k:lA->Prop}(hk:qN sh y m k):
 ∃ys,k ys/\∃ad c l,v= .slice ad ys.length c/\FC P w sh.sz ys.length v l/\(∀i (hi:i<ys.length),fits sh ys[i])∧
  (bm ys=true->∀i (hi:i<ys.length),Rd w (λ_=>False) ys[i] (elemV l (i*sh.sz) sh)):=by
 have nil:∀v:Value,(∃ad,v= .slice ad 0 0)->k []->∃ys,k ys/\∃ad c l,v= .slice ad ys.length c/\FC P w sh.sz ys.length v l/\(∀i (hi:i<ys.length),fits sh ys[i])∧
  (bm ys=true->∀i (hi:i<ys.length),Rd w (λ_=>False) ys[i] (elemV l (i*sh.sz) sh)):=by
  rintro v ⟨ad,rfl⟩ hk;exact ⟨[],hk,ad,0,[],rfl,g_ _ _ _ _,λi hi=>absurd hi (q25 _),λ_ i hi=>absurd hi (q25 _)⟩
 cases y with
 |arr sh' ys=>
  obtain ⟨rfl,hk⟩:=hk;cases ma hy with
  |nil _ ad=>exact nil _ ⟨ad,rfl⟩ hk
  |arr _ _ b off cap cs e fr hS hb b_ hl hf hv=>
   refine ⟨ys,hk,_,cap,_,rfl,Aw hb hl,hf,λhfl i hi=>?_⟩;rw[kz hi (by simpa using hl) (gJ (hf i hi))];exact (fA (fs:=[]) (.rd _ _ (hv i hi)) (jK hfl i hi)).1
 |ref l af i n=>
  have hr:=dt hy;simp only[qN] at hk;unfold rX at hk;split at hk
  . rename_i v' sh' deep xs hlk;obtain ⟨rfl,rfl,hin,hk⟩:=hk;have hlen:((xs.drop i).take n).length=n:=(by simp;omega);rcases h.aG l _ hlk with ⟨h1,h2,h3⟩|⟨b,cap,hφ,hbm,hdp,bc⟩
    . obtain ⟨rfl,ad,rfl⟩:=hr.2 h1;simp only[q18] at hk;exact nil _ ⟨ad,rfl⟩ hk
    obtain ⟨ad,cp,rfl,hnc,hcp⟩:=hr.1 b sh' hφ;by_cases hn0:n=0
    . subst hn0;simp only[q18] at hk;exact ⟨[],hk,ad,cp,[],rfl,g_ _ _ _ _,λi hi=>absurd hi (q25 _),λ_ i hi=>absurd hi (q25 _)⟩
    obtain ⟨rfl,_⟩:=hcp.resolve_left (by omega);obtain ⟨cs,e,fss,hgf,aD,hcs,b_,hmx,hff,hfl,hvv⟩:=gI bc hbm;have cf:i*sh'.sz+n*sh'.sz<=cs.size:=by rw[hcs,←q19];exact q23 _ (by omega)
    refine ⟨_,hk,_,cp,_,by rw[hlen],by rw[hlen];exact Aw aD cf,λq hq=>?_,λhfl q hq=>?_⟩
    . rw[hlen] at hq;simp only[q8,q6];exact hff _ (by omega)
    have hfq:=jK hfl q hq;rw[hlen] at hq;simp only[q8,q6] at hfq ⊢;have hq2:i+q<xs.length:=(by omega);rw[kz hq (by simpa using cf) (gJ (hff (i+q) hq2)),←q19];exact (fA (hvv (i+q) hq2) hfq).1
  exact hk.elim
 |e0=>obtain ⟨ad,rfl⟩:=rP hy;exact nil _ ⟨ad,rfl⟩ hk.2
 |val u=>
  obtain ⟨h1,hk⟩:=hk;obtain ⟨rfl,_⟩:=aS hy;refine nil _ ?_ hk;unfold isNil at h1;split at h1
  . rename_i he;cases he
  . rename_i he;cases he;exact ⟨_,rfl⟩
  cases h1
 |undef=>exact absurd hk.1 (by simp[isNil])
 |agg xs=>exact absurd hk.1 (by simp[isNil])
 |aX xs=>exact absurd hk.1 (by simp[isNil])
 |ptr l v i j=>exact absurd hk.1 (by simp[isNil])
 |bo sh xs i j=>exact absurd hk.1 (by simp[isNil])
 |cn f xs=>exact absurd hk.1 (by simp[isNil])
theorem Es {t t' ty e e2:TypeId}{i:TypeInfo}{z:Value}(ht:P.underlying t=some (.slice e))(ht':P.underlying t'=some (.slice e2))(hi:P.info? e=some i)(hz:i.zero=some z)
 {ad ad':Option Addr} {n cap n' c:Nat} {olds news:lV} (ho:FC P w i.size n (.slice ad n cap) olds) (hn:FC P w i.size n' (.slice ad' n' c) news)
 (hg:cap<n+n') (h63:n+n'<=1073741824) (hb:i.bytes<=65536):
 (Builtin.append_ #[t,t'] ty #[.slice ad n cap,.slice ad' n' c]).run P w=
   .ok (.slice (some ⟨w.heap.size,0,none⟩) (n+n') (grownCap w (n+n') cap e)) (w.drew.alloc (.cells (olds++news++(Builtin.zeroCells z.cells (grownCap w (n+n') cap e-(n+n'))).toList).toArray e)):=by
 have h1:¬(n+n'<=cap):=by omega
 have YN:¬(9223372036854775807<((n:Int)+(n':Int))):=by omega
 have mh:Builtin.nextslicecap (n+n') cap*i.bytes<=281474976710656:=by
  refine growslice_fits hg ?_
  calc (n+n')*i.bytes<=1073741824*65536:=Nat.mul_le_mul h63 hb
   _<=140737488355328:=by decide
 have YO:¬(281474976710656<Builtin.nextslicecap (n+n') cap*i.bytes):=by omega
 have hfo:=ho.2 w.drew rfl;have hfn:=hn.2 w.drew rfl;simp[Builtin.append_,run_underlying ht,run_underlying ht',sizeOf,typeInfo,zeroValue,hi,hz,Builtin.lenOf,h1,YN,YO,Question.forced,hfo,hfn,newRow,grownCap];congr 2;apply Array.ext';simp
theorem Et {t t' ty e e2:TypeId}{e':El}{i:TypeInfo}(ht:P.underlying t=some (.slice e))(ht':P.underlying t'=some (.slice e2))(hi:P.info? e=some i)
 {g n cap n' c:Nat} {ad':Option Addr} {news:lV} {cur:aV} (hg:w.heap[g]? =some (eA cur e')) (hn:FC P w i.size n' (.slice ad' n' c) news)
 (h1:∀u,u∈news->u.oneCell'=true) (cf:n+n'<=cap) (mh:n*i.size+news.length<=cur.size):
 (Builtin.append_ #[t,t'] ty #[.slice (some ⟨g,0,none⟩) n cap,.slice ad' n' c]).run P w=
   .ok (.slice (some ⟨g,0,none⟩) (n+n') cap) (w.setRow g (cur.toList.take (n*i.size)++news++cur.toList.drop (n*i.size+news.length)).toArray):=by
 have hf:=hn.2 w rfl;have hst:=iM P (e:=e') (o:=n*i.size) news 0 cur w hg (by simpa using mh) h1;simp only[Nat.add_zero] at hst;simp[Builtin.append_,run_underlying ht,run_underlying ht',sizeOf,typeInfo,hi,Builtin.lenOf,cf,hf,Addr.kO,hst]
theorem mr {t t' ty e e2:TypeId}{i:TypeInfo}(ht:P.underlying t=some (.slice e))(ht':P.underlying t'=some (.slice e2))(hi:P.info? e=some i){n cap c:Nat}{ad ad':Option Addr}(hn:n<=cap):
 (Builtin.append_ #[t,t'] ty #[.slice ad n cap,.slice ad' 0 c]).run P w= .ok (.slice ad n cap) w:=by
 have hf:=(g_ (P:=P) (w:=w) i.size ad' 0 c).2 w rfl;cases ad<;>simp[Builtin.append_,run_underlying ht,run_underlying ht',sizeOf,typeInfo,hi,Builtin.lenOf,hn,hf,storeCells]
theorem Eu {sh:Sh}{ys:lA}{l:lV}(hl:l.length=ys.length*sh.sz)(hf:∀i (hi:i<ys.length),fits sh ys[i])
 (h:∀i (hi:i<ys.length),Rd w (λ_=>False) ys[i] (elemV l (i*sh.sz) sh)) (hsz:0<sh.sz):∀u,u∈l->u.oneCell'=true:=by
 intro u hu;obtain ⟨k,hk,rfl⟩:=List.getElem_of_mem hu;have hk':k / sh.sz<ys.length:=by rw[Nat.div_lt_iff_lt_mul hsz];omega
 have hr:=h (k / sh.sz) hk';have hft:=hf (k / sh.sz) hk';have hdm:=Nat.div_add_mod k sh.sz;have Jv:=Nat.mod_lt k hsz;have hle:=a8 (s:=sh.sz) hk';generalize ys[k / sh.sz]=x at hr hft;cases sh with
 |mk sz ag=>
 simp only at*;have one:leaf x->ag=false/\sz=1->l[k].oneCell'=true:=by rintro hlf ⟨rfl,rfl⟩;have:=hr.aW hlf;rw[bd,q3,q4 (by omega)] at this;simpa using this
 cases x with
 |agg zs=>
  obtain ⟨rfl,hzl⟩:=hft;obtain ⟨cs,hcs,h1,h2,h3⟩:=oJ hr;rw[cV] at hcs;cases hcs;have h4:=h3 (k%sz) (by rw[hzl];exact Jv);have h5:=h4.aW (h2 _ (by rw[hzl];exact Jv));rw[show (((l.drop (k / sz*sz)).take sz).toArray.toList)=(l.drop (k / sz*sz)).take sz from rfl,bT _ _ _ _ Jv] at h5;rw[show k / sz*sz+k%sz=k by rw[Nat.mul_comm];omega,q3,q4 hk] at h5;simpa using h5
 |undef=>exact hft.elim
 |aX xs=>exact hft.elim
 |_=>exact one trivial hft
theorem mu (z:aV)(n:Nat):(Builtin.zeroCells z n).toList.length=n*z.size:=by simp[Builtin.zeroCells]
theorem Zq (xs ys:lA)(fss:List lN)(n:Nat)(hn:n<=xs.length)(hfl:fss.length=xs.length):
 ((fss.take n++q15 ys.length ([]:lN)).length=(xs.take n++ys).length)/\(fss.take n++q15 ys.length ([]:lN)).flatten=(fss.take n).flatten∧
 (∀i,i<n->(fss.take n++q15 ys.length ([]:lN)).getD i []=fss.getD i [])/\(∀i,n<=i->(fss.take n++q15 ys.length ([]:lN)).getD i []=[]):=by
 refine ⟨by simp;omega,?_,λi hi=>?_,λi hi=>?_⟩
 . rw[q1,(q2 (L:=q15 ys.length [])).2 λl hl=>(List.mem_replicate.1 hl).2,List.append_nil]
 . simp only[q3];rw[List.getElem?_append_left (by simp;omega),List.getElem?_take,if_pos hi]
 simp only[q3];rw[List.getElem?_append_right (by simp;omega),List.getElem?_replicate];split<;>rfl
theorem pK {S:nP}{sh:Sh}{xs ys:lA}{b cap n:Nat}{w':World}{cs':aV}{e':El}{fss:List lN}{lo ln lr:lV}(hb:w'.heap[b]? =some (eA cs' e'))(hcs:cs'.size=cap*sh.sz)
 (hn:n<=xs.length) (b_:n+ys.length<=cap) (hmx:cap<=maxLen) (hfl:fss.length=xs.length) (hff:∀i (h:i<xs.length),fits sh xs[i]) (hfy:∀i (h:i<ys.length),fits sh ys[i])
 (hl:cs'.toList=lo++ln++lr) (hlo:lo.length=n*sh.sz) (hln:ln.length=ys.length*sh.sz)
 (hx:∀i (h:i<xs.length),i<n->Own w' S xs[i] (elemV lo (i*sh.sz) sh) (fss.getD i []))
 (hy:∀i (h:i<ys.length),Rd w' S ys[i] (elemV ln (i*sh.sz) sh)):
 Own w' S (.arr sh (xs.take n++ys)) (.slice (some ⟨b,0,none⟩) (n+ys.length) cap) (b::(fss.take n).flatten):=by
 obtain ⟨f1,f2,f3,f4⟩:=Zq xs ys fss n hn hfl;have hlen:(xs.take n++ys).length=n+ys.length:=by simp;omega
 rw[←f2,←hlen];refine .arr sh _ b cap cs' e' _ hb hcs (by omega) hmx ?_ f1 ?_
 . intro i hi;rw [List.getElem_append];split
   . simp only[q8];exact hff _ _
   exact hfy _ _
 intro i hi;rw[hlen] at hi;rw[List.getElem_append,hl];by_cases hin:i<n
 . have h1:=a8 (s:=sh.sz) hin;have hg:i<(xs.take n).length:=(by simp;omega);rw[dif_pos hg,f3 i hin,List.append_assoc,wY (by omega) (gJ (hff i (by omega)))];simp only[q8];exact hx i (by omega) hin
 have hg:¬i<(xs.take n).length:=by simp;omega
 have hq:i-n<ys.length:=by omega
 have h1:=a8 (s:=sh.sz) hq;have e1:i*sh.sz=lo.length+(i-n)*sh.sz:=by rw[hlo,←q19];congr 1;omega
 rw[dif_neg hg,f4 i (by omega),wY (by rw[List.length_append];omega) (gJ (hfy (i-n) hq)),e1,Er (by omega) (gJ (hfy (i-n) hq))];have e2:(xs.take n).length=n:=by simp;omega
 have hq':i-(xs.take n).length<ys.length:=by omega
 have e3:ys[i-(xs.take n).length]=ys[i-n]:=by congr 1;omega
 rw[e3];exact .rd _ _ (hy (i-n) hq)
theorem RS.kh (h:RS B N φ fp S ts m a w){w':World}{l0 nv b cap n:Nat}{sh:Sh}{deep:Bool}{xs:lA}{fs:lN}{v:Value}{k:AV->Env->Mem->Prop}
 (ot:w.heap.size<=w'.heap.size) (z6:a7 w w') (DJ:jI w w') (hold:∀c,c≠b->c<w.heap.size->w'.heap[c]? =w.heap[c]?) (hz:fX φ w w') (hb:b∈fp l0\/b=w.heap.size/\b<w'.heap.size)
 (fK:∀af,known m l0 af->af<nv) (hin:∀c,c∈fs->c=b\/c∈fp l0) (hbm:b∈fs) (hdp:deep=false->fs=[b]) (hnd:fs.Nodup)
 (bc:Own w' (if deep then λ_=>False else S) (.arr sh xs) (.slice (some ⟨b,0,none⟩) xs.length cap) fs)
 (hv:∃ad c,v= .slice ad n c/\n<=c/\(c=0\/(ad=some ⟨b,0,none⟩/\∃cs e,w'.heap[b]? =some (eA cs e)/\cs.size=c*sh.sz)))
 (hk:k (.ref l0 nv 0 n) ts ((l0,.row nv sh deep xs)::m)):ir B N a k v w':=by
 have hbS:¬S b:=by
  rcases hb with hb|⟨hb,_⟩
  . exact h.bS l0 b hb
  intro hs;have:=(h.sB b hs).1;omega
 have hbo:∀l',l'≠l0->b∉fp l':=by
  intro l' hl' hc;rcases hb with hb|⟨hb,_⟩
  . exact hl' (h.fL l' l0 b hc hb)
  have:=(h.cu l' b hc).1;omega
 have hRS:=h.next l0 (.at b sh nv) fs S (.row nv sh deep xs) ot z6 DJ (λc hc hio=>hold c (λe=>by
  subst e;rcases hb with hb|hb
  . rcases (h.cu l0 c hb).2 with hh|hh
    . exact q21 _ (q22 hc hh)
    exact hio _ hh.choose_spec.1
  . rw[hb.1] at hc;exact q21 _ (q22 hc h.size)) (q22 hc h.size)) (λc hc=>⟨hc,hold c (λe=>hbS (e▸hc)) (h.sB c hc).1⟩) (λc h1 h2=>absurd h1 h2) hz
  (λl' hl' c hc=>hold c (λe=>hbo l' hl' (e▸hc)) (h.cu l' c hc).1) (λaf hk=>LS.kJ _ _ _ _ _ (fK af hk)) (λaf hk=>Nat.le_of_lt (fK af hk))
  (.inr ⟨b,cap,aB _ _ _,hbm,hdp,bc⟩) (λ_ _ hx=>by cases hx) hnd (by
    intro c hc;rcases hin c hc with rfl|hc'
    . refine ⟨hbS,hbo,?_,?_⟩
      . rcases hb with hb|hb
        . exact q22 (h.cu l0 c hb).1 ot
        exact hb.2
      rcases hb with hb|hb
      . exact (h.cu l0 c hb).2
      left;rw[hb.1];exact h.size
    have:=h.cu l0 c hc'
    exact ⟨h.bS l0 c hc',λl' hl' hc2=>hl' (h.fL l' l0 c hc2 hc'),q22 this.1 ot,this.2⟩)
 refine hRS.gives (x:=.ref l0 nv 0 n) ?_ ?_ hk
 . obtain ⟨ad,c,rfl,hnc,hc⟩:=hv;refine .ref _ _ _ _ _ (λb' sh' hb'=> ?_) (λhb'=> ?_) rfl
   . rw[aB] at hb';cases hb';refine ⟨ad,c,rfl,hnc,hc.imp id ?_⟩;rintro ⟨rfl,cs,e,h1,h2⟩;exact ⟨by rw[q27],cs,e,h1,by rw[q26];exact h2⟩
   rw[aB] at hb';cases hb'
 intro l' af hl;simp only[ao,List.mem_singleton,Prod.mk.injEq] at hl;obtain ⟨rfl,rfl⟩:=hl;exact ⟨_,by simp[aw];rfl,q20 _⟩
theorem RS.rY (h:RS B N φ fp S ts m a w){l0 nv:Nat}{sh:Sh}{deep:Bool}{ad:Option Addr}{k:AV->Env->Mem->Prop}
 (fK:∀af,known m l0 af->af<nv) (hk:k (.ref l0 nv 0 0) ts ((l0,.row nv sh deep [])::m)):ir B N a k (.slice ad 0 0) w:=by
 have hRS:=h.next l0 (.nil nv) [] S (.row nv sh deep []) (q20 _) (a7.refl _) (jI.refl _) (λ_ _ _=>rfl) (λc hc=>⟨hc,rfl⟩) (λc h1 h2=>absurd h1 h2) (λl b sh af cs e _ hb=>⟨cs,e,hb,rfl⟩)
  (λ_ _ _ _=>rfl) (λaf hk=>⟨λ_ _ h=>(by cases h),λh=>(by cases h;exact absurd (fK _ hk) (q21 _))⟩) (λaf hk=>Nat.le_of_lt (fK af hk))
  (.inl ⟨aB _ _ _,rfl,rfl⟩) (λ_ _ hx=>by cases hx) (by simp) (by simp)
 refine hRS.gives (x:=.ref l0 nv 0 0) ?_ ?_ hk
 . refine .ref _ _ _ _ _ (λb' sh' hb'=>?_) (λhb'=>⟨rfl,ad,rfl⟩) rfl;rw[aB] at hb';cases hb'
 intro l' af hl;simp only[ao,List.mem_singleton,Prod.mk.injEq] at hl;obtain ⟨rfl,rfl⟩:=hl;exact ⟨_,by simp[aw];rfl,q20 _⟩
theorem wm {t t' ty:TypeId}{tt tt' ti:TI}(htt:aL P t=some tt)(hks:tt.kind= .slice)(we:aL P t'=some tt')(wg:tt'.kind= .slice)(ht:aL P tt.elem=some ti)(h:RS B N φ fp S ts m a w){x y:AV}{u v:Value}
 (hx:RV w S φ x u) (hy:RV w S φ y v) (hxl:∀l af,(l,af)∈ao x->known m l af) (d:Nat) {k:AV->Mem->Prop} (hk:vR ti d x y m k):
 iI B N a (λx ts' m'=>ts'=ts/\k x m') ((Builtin.append_ #[t,t'] ty #[u,v]).run P w):=by
 obtain ⟨hby,Q2,hzf,hk⟩:=hk;obtain ⟨ys,⟨hfl,hk⟩,ad',c',l,rfl,hfc,hfy,hry⟩:=NP (P:=P) h hy hk;have hry:=hry hfl;obtain ⟨inf,dd,z,hi,hd,hz,hag,hsz,hbb,hzz,_⟩:=fy ht;obtain ⟨hzs,_,_⟩:=nf hzz hzf;have hsl:=bN htt hks;have zu:=bN we wg;have DL:FC P w inf.size ys.length (.slice ad' ys.length c') l:=by rw[←hsz];exact hfc
 have lC:=Eu hfc.1 hfy hry Q2;have hb':inf.bytes<=65536:=by omega
 have grow:∀(l0 nv n cap:Nat) (ad:Option Addr) (olds:lV) (xs:lA) (fss:List lN) (deep:Bool),
  FC P w inf.size n (.slice ad n cap) olds->n<=xs.length->n+ys.length<=1073741824->cap<n+ys.length->fss.length=xs.length->(∀i (h:i<xs.length),fits ti.sh xs[i])→
  (∀i (h:i<xs.length),i<n->Own w (if deep then λ_=>False else S) xs[i] (elemV olds (i*ti.sh.sz) ti.sh) (fss.getD i []))→
  (∀af,known m l0 af->af<nv)->(∀b,b∈fss.flatten->b∈fp l0)->(deep=false->fss.flatten=[])->(fss.flatten).Nodup→
  k (.ref l0 nv 0 (n+ys.length)) ((l0,.row nv ti.sh deep (xs.take n++ys))::m)→
  iI B N a (λx ts' m'=>ts'=ts/\k x m') ((Builtin.append_ #[t,t'] ty #[.slice ad n cap,.slice ad' ys.length c']).run P w):=by
  intro l0 nv n cap ad olds xs fss deep hfo hn te b_ rH hff bc fK cy hdp hnd hk;refine ⟨_,_,Es hsl zu hi hz hfo DL b_ te hb',?_⟩;have hge:=grownCap_ge w (n+ys.length) cap tt.elem;have hle:grownCap w (n+ys.length) cap tt.elem<=maxLen:=grownCap_le_maxLen w _ _ _ (by unfold maxLen;omega);generalize hgc:grownCap w (n+ys.length) cap tt.elem=gc at hge hle ⊢;have Q3:(olds++l++(Builtin.zeroCells z.cells (gc-(n+ys.length))).toList).toArray.size=gc*ti.sh.sz:=by rw[List.size_toArray,List.length_append,List.length_append,mu,hfo.1,DL.1,hzs,←hsz];show n*ti.size+ys.length*ti.size+(gc-(n+ys.length))*ti.size=gc*ti.size;rw[←q19,←q19];congr 1;omega
  have iq:=nd w.drew (olds++l++(Builtin.zeroCells z.cells (gc-(n+ys.length))).toList).toArray tt.elem;rw[World.size_drew] at iq;have hold:∀b,b<w.heap.size->(w.drew.alloc (.cells (olds++l++(Builtin.zeroCells z.cells (gc-(n+ys.length))).toList).toArray tt.elem)).heap[b]? =w.heap[b]? :=λb hb=>JA w.drew _ b hb;have hws:(w.drew.alloc (.cells (olds++l++(Builtin.zeroCells z.cells (gc-(n+ys.length))).toList).toArray tt.elem)).heap.size=w.heap.size+1:=by simp
  have hso:a7 w (w.drew.alloc (.cells (olds++l++(Builtin.zeroCells z.cells (gc-(n+ys.length))).toList).toArray tt.elem)):=⟨rfl,rfl,rfl⟩;generalize w.drew.alloc (.cells (olds++l++(Builtin.zeroCells z.cells (gc-(n+ys.length))).toList).toArray tt.elem)=w' at iq hold hws hso ⊢;have dD:((fss.take n).flatten).Sublist fss.flatten:=by have:fss.flatten=(fss.take n).flatten++(fss.drop n).flatten:=(by rw[←q1,q17]);rw[this];exact q16 ..
  have hlen:(xs.take n++ys).length=n+ys.length:=by simp;omega
  have jY:=pK (S:=if deep=true then λ_=>False else S) (fss:=fss) (xs:=xs) (ys:=ys) (n:=n) (cap:=gc) iq Q3 hn hge hle rH hff hfy rfl (by rw [hfo.1,←hsz];rfl) hfc.1
   (λi hi hin=>by
     refine (bc i hi hin).mono (λc hc=>?_) (λ_ h=>h) (λc hc=>hold c (h.cu l0 c (cy c (aK (rH▸hi) hc))).1);cases deep with
     |true=>exact hc.elim
     |false=>exact hold c (h.sB c hc).1)
   (λi hi=>(hry i hi).mono (λ_ h=>h.elim) (λ_ h=>h.elim))
  rw[←hlen] at jY;refine h.kh (b:=w.heap.size) (cap:=gc) (by omega) hso (jI.of_same hold) (λc _ hc=>hold c hc) (λl b sh af cs e hl hb=>⟨cs,e,by rw[hold b (h.cu l b (h.at_mem hl)).1];exact hb,rfl⟩) (.inr ⟨rfl,by omega⟩) fK ?_ (q13 ..) ?_ ?_ jY ?_ ⟨rfl,hk⟩
  . intro c hc;rcases List.mem_cons.1 hc with rfl|hc
    . exact .inl rfl
    exact .inr (cy c (dD.subset hc))
  . intro hd;have:=hdp hd;rw[this] at dD;rw[List.sublist_nil.1 dD]
  . refine q14.2 ⟨λhc=>?_,hnd.sublist dD⟩;have:=(h.cu l0 _ (cy _ (dD.subset hc))).1;omega
  exact ⟨_,gc,rfl,hge,.inr ⟨rfl,_,_,iq,Q3⟩⟩
 have nilCase:∀ad,(u= .slice ad 0 0)->ys.length<=1073741824/\k (.ref d (az m d) 0 ys.length) ((d,.row (az m d) ti.sh true ys)::m)→
  iI B N a (λx ts' m'=>ts'=ts/\k x m') ((Builtin.append_ #[t,t'] ty #[u,.slice ad' ys.length c']).run P w):=by
  rintro ad rfl ⟨te,hk⟩;cases ys with
  |nil=>exact ⟨_,_,mr hsl zu hi (q20 _),h.rY (λaf hv=>ff hv) ⟨rfl,hk⟩⟩
  |cons y0 yr=>
   have:=grow d (az m d) 0 0 ad [] [] [] true (g_ _ _ _ _) (q20 _) (by omega) (by simp) rfl (λi hi=>absurd hi (q25 _)) (λi hi=>absurd hi (q25 _))
    (λaf hv=>ff hv) (by simp) (by simp) (by simp) (by simpa using hk)
   exact this
 cases x with
 |ref l0 af i n=>
  simp only[oL] at hk;unfold uT at hk;split at hk
  . rename_i v' sh' deep xs hlk;obtain ⟨rfl,rfl,rfl,hn,te,hk⟩:=hk;have hr:=dt hx;have fK:∀af,known m l0 af->af<v'+1:=by
     rintro af ⟨k',h1,h2⟩;rw[hlk] at h1;cases h1;exact Nat.lt_succ_of_le h2
    rcases h.aG l0 _ hlk with ⟨h1,h2,h3⟩|⟨b,cap0,hφ,hbm,hdp,bc⟩
    ·
     subst h2;obtain ⟨hn0,ad,rfl⟩:=hr.2 h1;subst hn0;cases ys with
     |nil=>exact ⟨_,_,mr hsl zu hi (q20 _),h.rY fK ⟨rfl,by simpa using hk⟩⟩
     |cons y0 yr=>
      exact grow l0 (v'+1) 0 0 ad [] [] [] deep (g_ _ _ _ _) (q20 _) (by omega) (by simp) rfl (λi hi=>absurd hi (q25 _)) (λi hi=>absurd hi (q25 _))
       fK (by simp) (by simp) (by simp) (by simpa using hk)
    obtain ⟨ad,cap,rfl,hnc,hcp⟩:=hr.1 b ti.sh hφ;obtain ⟨cs,e,fss,hgf,aD,hcs,b_,hmx,hff,rH,hvv⟩:=gI bc hbm;have nW:=h.hZ l0;rw[hgf] at nW;have jZ:=q14.1 nW;have wc:b∈fp l0:=hbm;have cy:∀c,c∈fss.flatten->c∈fp l0:=λc hc=>by rw[hgf];exact q12 _ hc
    have Jw:deep=false->fss.flatten=[]:=λhd=>by have:=hdp hd;rw[hgf] at this;simpa using this
    have dD:((fss.take n).flatten).Sublist fss.flatten:=by have:fss.flatten=(fss.take n).flatten++(fss.drop n).flatten:=(by rw[←q1,q17]);rw[this];exact q16 ..
    have Q4:n*ti.sh.sz<=cs.size:=(by rw[hcs];exact q23 _ (by omega));have seg:∀i,i<n->∀(hi:i<xs.length),elemV (cs.toList.take (n*ti.sh.sz)) (i*ti.sh.sz) ti.sh=elemV cs.toList (i*ti.sh.sz) ti.sh:=by intro i hin hi;have:=kz (l:=cs.toList) (off:=0) hin (by simpa using Q4) (gJ (hff i hi));simpa using this
    by_cases cf:n+ys.length<=cap
    . by_cases hy0:ys.length=0
      ·
       have hys:ys=[]:=List.eq_nil_of_length_eq_zero hy0;subst hys;refine ⟨_,_,mr hsl zu hi hnc,?_⟩
       have jY:=pK (w':=w) (S:=if deep=true then λ_=>False else S) (fss:=fss) (xs:=xs) (ys:=[]) (n:=n) (cap:=cap0) (lo:=cs.toList.take (n*ti.sh.sz)) (ln:=[]) (lr:=cs.toList.drop (n*ti.sh.sz)) aD hcs hn (by simpa using Nat.le_trans hn b_) hmx rH hff (λi hi=>absurd hi (q25 _))
        (by simp) (by simp;omega) (by simp) (λi hi hin=>by rw[seg i hin hi];exact hvv i hi) (λi hi=>absurd hi (q25 _))
       have hlen:(xs.take n++[]).length=n+([]:lA).length:=(by simp;omega);rw[←hlen] at jY;refine h.kh (b:=b) (cap:=cap0) (q20 _) (a7.refl _) (jI.refl _) (λ_ _ _=>rfl) (λl b sh af cs e _ hb=>⟨cs,e,hb,rfl⟩) (.inl wc) fK ?_ (q13 ..) ?_ ?_ jY ?_ ⟨rfl,hk⟩
       . intro c hc;rcases List.mem_cons.1 hc with rfl|hc
         . exact .inl rfl
         exact .inr (cy c (dD.subset hc))
       . intro hd;rw[Jw hd] at dD;rw[List.sublist_nil.1 dD]
       . exact q14.2 ⟨λhc=>jZ.1 (dD.subset hc),jZ.2.sublist dD⟩
       refine ⟨ad,cap,rfl,hnc,hcp.imp id ?_⟩;rintro ⟨rfl,cs',e',g1,g2⟩;exact ⟨by rw[q27],cs',e',g1,by rw[q26] at g2;exact g2⟩
      obtain ⟨rfl,cs',e',g1,g2⟩:=hcp.resolve_left (by omega);obtain rfl:=dc (aD.symm.trans g1);rw[q26] at g2;rw[q27] at hx ⊢;have mh:n*inf.size+l.length<=cs.size:=by rw[DL.1,g2,←hsz,←q19];exact q23 _ cf
      refine ⟨_,_,Et hsl zu hi aD DL lC cf mh,?_⟩;have V8:n*inf.size=n*ti.sh.sz:=(by rw[←hsz];rfl);rw[V8] at mh ⊢;have hsp:=bX (cs:=cs) (o:=n*ti.sh.sz) (vs:=l) mh;have Q5:cap=cap0:=by have:cap*ti.sh.sz=cap0*ti.sh.sz:=(by rw[←g2,hcs]);exact Nat.eq_of_mul_eq_mul_right Q2 this
      subst Q5
      have jY:=pK (w':=w.setRow b _) (S:=if deep=true then λ_=>False else S) (fss:=fss) (xs:=xs) (ys:=ys) (n:=n) (cap:=cap) (bW aD hsp) (by rw [hsp];exact hcs) hn cf hmx rH hff hfy
       rfl (by simp;omega) hfc.1 (λi hi hin=>by
        rw[seg i hin hi];refine (hvv i hi).mono (λc hc=>?_) (λ_ h=>h) (λc hc=>aC (b:=b) _ λe=>jZ.1 (by rw[←e];exact aK (rH▸hi) hc));cases deep with
        |true=>exact hc.elim
        |false=>exact aC (b:=b) _ λe=>h.bS l0 b wc (by rw[←e];exact hc))
       (λi hi=>(hry i hi).mono (λ_ h=>h.elim) (λ_ h=>h.elim))
      have hlen:(xs.take n++ys).length=n+ys.length:=(by simp;omega);rw[←hlen] at jY;refine h.kh (b:=b) (cap:=cap) (by simp) ⟨rfl,rfl,rfl⟩ (jI.setRow aD hsp) (λc hc _=>aC _ hc) (fX.setRow φ aD hsp) (.inl wc) fK ?_ (q13 ..) ?_ ?_ jY ?_ ⟨rfl,hk⟩
      . intro c hc;rcases List.mem_cons.1 hc with rfl|hc
        . exact .inl rfl
        exact .inr (cy c (dD.subset hc))
      . intro hd;rw[Jw hd] at dD;rw[List.sublist_nil.1 dD]
      . exact q14.2 ⟨λhc=>jZ.1 (dD.subset hc),jZ.2.sublist dD⟩
      exact ⟨_,cap,rfl,cf,.inr ⟨rfl,_,_,bW aD hsp,by rw[hsp];exact hcs⟩⟩
    ·
     have hfo:∃olds,FC P w inf.size n (.slice ad n cap) olds/\∀i (h:i<xs.length),i<n->Own w (if deep then λ_=>False else S) xs[i] (elemV olds (i*ti.sh.sz) ti.sh) (fss.getD i []):=by
      by_cases hn0:n=0
      . subst hn0;exact ⟨[],g_ _ _ _ _,λi _ hi=>absurd hi (q25 _)⟩
      obtain ⟨rfl,cs',e',g1,g2⟩:=hcp.resolve_left (by omega);rw[q27];refine ⟨_,Aw aD (by rw[q26,←hsz];exact Q4),λi hi hin=>?_⟩;rw[List.drop_zero,←hsz];have:=seg i hin hi;simp only[TI.sh] at this ⊢;rw[this];exact hvv i hi
     obtain ⟨olds,hfo,hoo⟩:=hfo;exact grow l0 (v'+1) n cap ad olds xs fss deep hfo hn te (by omega) rH hff hoo fK cy Jw jZ.2 hk
  exact hk.elim
 |e0=>obtain ⟨ad,rfl⟩:=rP hx;exact nilCase ad rfl hk.2
 |val u'=>
  obtain ⟨h1,hk2⟩:=hk;obtain ⟨rfl,_⟩:=aS hx;unfold isNil at h1;split at h1
  . rename_i he;cases he
  . rename_i he;cases he;exact nilCase _ rfl hk2
  cases h1
 |undef=>exact absurd hk.1 (by simp[isNil])
 |arr sh xs=>exact absurd hk.1 (by simp[isNil])
 |agg xs=>exact absurd hk.1 (by simp[isNil])
 |aX xs=>exact absurd hk.1 (by simp[isNil])
 |ptr l v i j=>exact absurd hk.1 (by simp[isNil])
 |bo sh xs i j=>exact absurd hk.1 (by simp[isNil])
 |cn f xs=>exact absurd hk.1 (by simp[isNil])
def oM (ti:TI)(l v i n:Nat)(b:Option bf)(ys:lA)(m:Mem)(k:AV->Mem->Prop):Prop:=match b with
 |some (.row v' sh' deep xs)=>v'=v/\i=0/\sh'=ti.sh/\n<=xs.length/\n+ys.length<=1073741824/\(deep=false\/n=0)/\k (.ref l (v+1) 0 (n+ys.length)) ((l,.row (v+1) ti.sh false (xs.take n++ys))::m)
 |_=>False
@[congr] theorem RG {ti:TI} {l v i n:Nat} {b b':Option bf} {ys:lA} {m:Mem} {k:AV->Mem->Prop} (h:b=b'):oM ti l v i n b ys m k=oM ti l v i n b' ys m k:=by rw[h]
theorem wZ (ag:Bool)(sz by':Nat)(z:AV)(f:List (Nat × Nat × Bool))(e:Nat)(kd:TK)(l v n:Nat)(deep:Bool)(xs ys:lA)(m:Mem)(k:AV->Mem->Prop):
 oM ⟨ag,sz,by',z,f,e,kd⟩ l v 0 n (some (.row v ⟨sz,ag⟩ deep xs)) ys m k=
  (n<=xs.length/\n+ys.length<=1073741824/\(deep=false\/n=0)/\k (.ref l (v+1) 0 (n+ys.length)) ((l,.row (v+1) ⟨sz,ag⟩ false (xs.take n++ys))::m)):=by simp[oM,TI.sh]
def lF (ti:TI)(d:Nat)(x:AV)(ys:lA)(m:Mem)(k:AV->Mem->Prop):Prop:=match x with
 | .ref l v i n=>oM ti l v i n (ah m l) ys m k
 |x=>isNil x=true/\ys.length<=1073741824/\k (.ref d (az m d) 0 ys.length) ((d,.row (az m d) ti.sh false ys)::m)
@[congr] theorem TR {ti:TI} {d:Nat} {x x':AV} {ys:lA} {m:Mem} {k:AV->Mem->Prop} (h:x=x'):lF ti d x ys m k=lF ti d x' ys m k:=by rw[h]
theorem Ax (ti:TI)(d l v i n:Nat)(ys:lA)(m:Mem)(k:AV->Mem->Prop):lF ti d (.ref l v i n) ys m k=oM ti l v i n (ah m l) ys m k:=rfl
theorem Ay (ti:TI)(d:Nat)(ys:lA)(m:Mem)(k:AV->Mem->Prop):lF ti d (.val (.slice none 0 0)) ys m k=(ys.length<=1073741824/\k (.ref d (az m d) 0 ys.length) ((d,.row (az m d) ti.sh false ys)::m)):=by simp[lF,isNil]
def jk (ti:TI)(d:Nat)(x:AV)(l v i n:Nat)(b:Option bf)(m:Mem)(k:AV->Mem->Prop):Prop:=match b with
 |some (.row v' sh' false zs)=>vR ti d x (.ref l v i n) m k\/(v'=v/\sh'=ti.sh/\i+n<=zs.length/\(ti.bytes<=65536/\0<ti.size/\fits ti.sh ti.zero)/\lF ti d x ((zs.drop i).take n) m k)
 |_=>vR ti d x (.ref l v i n) m k
@[congr] theorem RH {ti:TI} {d:Nat} {x:AV} {l v i n:Nat} {b b':Option bf} {m:Mem} {k:AV->Mem->Prop} (h:b=b'):jk ti d x l v i n b m k=jk ti d x l v i n b' m k:=by rw[h]
theorem uU (ti:TI)(d:Nat)(x:AV)(l v i n v':Nat)(sh:Sh)(xs:lA)(m:Mem)(k:AV->Mem->Prop):jk ti d x l v i n (some (.row v' sh true xs)) m k=vR ti d x (.ref l v i n) m k:=rfl
theorem uV (ag:Bool)(sz by':Nat)(z:AV)(f:List (Nat × Nat × Bool))(e:Nat)(kd:TK)(d:Nat)(x:AV)(l v i n:Nat)(zs:lA)(m:Mem)(k:AV->Mem->Prop):
 jk ⟨ag,sz,by',z,f,e,kd⟩ d x l v i n (some (.row v ⟨sz,ag⟩ false zs)) m k=(vR ⟨ag,sz,by',z,f,e,kd⟩ d x (.ref l v i n) m k\/(i+n<=zs.length/\(by'<=65536/\0<sz/\fits ⟨sz,ag⟩ z)/\lF ⟨ag,sz,by',z,f,e,kd⟩ d x ((zs.drop i).take n) m k)):=by
 simp[jk,TI.sh]
def rZ (ti:TI)(d:Nat)(x:AV)(sh:Sh)(xs:lA)(b:Bool)(m:Mem)(k:AV->Mem->Prop):Prop:=match b with
 |true=>vR ti d x (.arr sh xs) m k
 |false=>sh=ti.sh/\(ti.bytes<=65536/\0<ti.size/\fits ti.sh ti.zero)/\lF ti d x xs m k
@[congr] theorem TS {ti:TI} {d:Nat} {x x':AV} {sh:Sh} {xs xs':lA} {b b':Bool} {m:Mem} {k:AV->Mem->Prop} (h:x=x') (h2:xs=xs') (h3:b=b'):rZ ti d x sh xs b m k=rZ ti d x' sh xs' b' m k:=by rw[h,h2,h3]
theorem w8 (ti:TI)(d:Nat)(x:AV)(sh:Sh)(xs:lA)(m:Mem)(k:AV->Mem->Prop):rZ ti d x sh xs true m k=vR ti d x (.arr sh xs) m k:=rfl
theorem uW (ag:Bool)(sz by':Nat)(z:AV)(f:List (Nat × Nat × Bool))(e:Nat)(kd:TK)(d:Nat)(x:AV)(xs:lA)(m:Mem)(k:AV->Mem->Prop):
 rZ ⟨ag,sz,by',z,f,e,kd⟩ d x ⟨sz,ag⟩ xs false m k=((by'<=65536/\0<sz/\fits ⟨sz,ag⟩ z)/\lF ⟨ag,sz,by',z,f,e,kd⟩ d x xs m k):=by
 simp[rZ,TI.sh]
def lG (ti:TI)(d:Nat)(x y:AV)(m:Mem)(k:AV->Mem->Prop):Prop:=match y with
 | .ref l v i n=>jk ti d x l v i n (ah m l) m k
 | .arr sh xs=>rZ ti d x sh xs (bm xs) m k
 |y=>vR ti d x y m k
@[congr] theorem TT {ti:TI} {d:Nat} {x x' y y':AV} {m:Mem} {k:AV->Mem->Prop} (h:x=x') (h':y=y'):lG ti d x y m k=lG ti d x' y' m k:=by rw[h,h']
theorem Az (ti:TI)(d:Nat)(x:AV)(l v i n:Nat)(m:Mem)(k:AV->Mem->Prop):lG ti d x (.ref l v i n) m k=jk ti d x l v i n (ah m l) m k:=rfl
theorem AA (ti:TI)(d:Nat)(x:AV)(sh:Sh)(xs:lA)(m:Mem)(k:AV->Mem->Prop):lG ti d x (.arr sh xs) m k=rZ ti d x sh xs (bm xs) m k:=rfl
theorem CK {sh:Sh}{ys:lA}{l:lV}{S:nP}(hl:l.length=ys.length*sh.sz)(hf:∀i (hi:i<ys.length),fits sh ys[i])
 (h:∀i (hi:i<ys.length),Rd w S ys[i] (elemV l (i*sh.sz) sh)) (hsz:0<sh.sz):∀u,u∈l->u.oneCell'=true:=by
 intro u hu;obtain ⟨k,hk,rfl⟩:=List.getElem_of_mem hu;have hk':k / sh.sz<ys.length:=by rw[Nat.div_lt_iff_lt_mul hsz];omega
 have hr:=h (k / sh.sz) hk';have hft:=hf (k / sh.sz) hk';have hdm:=Nat.div_add_mod k sh.sz;have Jv:=Nat.mod_lt k hsz;have hle:=a8 (s:=sh.sz) hk';generalize ys[k / sh.sz]=x at hr hft;cases sh with
 |mk sz ag=>
 simp only at*;have one:leaf x->ag=false/\sz=1->l[k].oneCell'=true:=by rintro hlf ⟨rfl,rfl⟩;have:=hr.aW hlf;rw[bd,q3,q4 (by omega)] at this;simpa using this
 cases x with
 |agg zs=>
  obtain ⟨rfl,hzl⟩:=hft;obtain ⟨cs,hcs,h1,h2,h3⟩:=oJ hr;rw[cV] at hcs;cases hcs;have h4:=h3 (k%sz) (by rw[hzl];exact Jv);have h5:=h4.aW (h2 _ (by rw[hzl];exact Jv));rw[show (((l.drop (k / sz*sz)).take sz).toArray.toList)=(l.drop (k / sz*sz)).take sz from rfl,bT _ _ _ _ Jv] at h5;rw[show k / sz*sz+k%sz=k by rw[Nat.mul_comm];omega,q3,q4 hk] at h5;simpa using h5
 |undef=>exact hft.elim
 |aX xs=>exact hft.elim
 |_=>exact one trivial hft
theorem NQ (h:RS B N φ fp S ts m a w){sh:Sh}{l v i n:Nat}{u:Value}{xs:lA}(hy:RV w S φ (.ref l v i n) u)(hlk:ah m l=some (.row v sh false xs))(hin:i+n<=xs.length):
 ∃ad c cells,u= .slice ad ((xs.drop i).take n).length c/\FC P w sh.sz ((xs.drop i).take n).length u cells/\(∀q (hq:q<((xs.drop i).take n).length),fits sh ((xs.drop i).take n)[q])∧
  ∀q (hq:q<((xs.drop i).take n).length),Rd w S ((xs.drop i).take n)[q] (elemV cells (q*sh.sz) sh):=by
 have hr:=dt hy;have hlen:((xs.drop i).take n).length=n:=by simp;omega
 rcases h.aG l _ hlk with ⟨h1,h2,h3⟩|⟨b,cap,hφ,hbm,hdp,bc⟩
 . obtain ⟨rfl,ad,rfl⟩:=hr.2 h1;simp only[q18];exact ⟨ad,0,[],rfl,g_ _ _ _ _,λq hq=>absurd hq (q25 _),λq hq=>absurd hq (q25 _)⟩
 obtain ⟨ad,cp,rfl,hnc,hcp⟩:=hr.1 b sh hφ;by_cases hn0:n=0
 . subst hn0;simp only[q18];exact ⟨ad,cp,[],rfl,g_ _ _ _ _,λq hq=>absurd hq (q25 _),λq hq=>absurd hq (q25 _)⟩
 obtain ⟨rfl,_⟩:=hcp.resolve_left (by omega);obtain ⟨cs,e,fss,hgf,aD,hcs,b_,hmx,hff,hfl,hvv⟩:=gI bc hbm;have cf:i*sh.sz+n*sh.sz<=cs.size:=by rw[hcs,←q19];exact q23 _ (by omega)
 have hf0:fss.flatten=[]:=by have:=hdp rfl;rw[hgf] at this;simpa using this
 refine ⟨_,cp,_,by rw[hlen],by rw[hlen];exact Aw aD cf,λq hq=>?_,λq hq=>?_⟩
 . rw[hlen] at hq;simp only[q8,q6];exact hff _ (by omega)
 rw[hlen] at hq;simp only[q8,q6];have hq2:i+q<xs.length:=by omega
 rw[kz hq (by simpa using cf) (gJ (hff (i+q) hq2)),←q19];exact (hvv (i+q) hq2).mm (λc hc=>hc) λc hc=>by have:=aK (by omega) hc;rw[hf0] at this;cases this
theorem NR {sh:Sh}{u:Value}{ys:lA}(hy:RV w S φ (.arr sh ys) u):
 ∃ad c cells,u= .slice ad ys.length c/\FC P w sh.sz ys.length u cells/\(∀q (hq:q<ys.length),fits sh ys[q])∧
  ∀q (hq:q<ys.length),Rd w S ys[q] (elemV cells (q*sh.sz) sh):=by
 cases ma hy with
 |nil _ ad=>exact ⟨ad,0,[],rfl,g_ _ _ _ _,λq hq=>absurd hq (q25 _),λq hq=>absurd hq (q25 _)⟩
 |arr _ _ b off cap cs e fr hS hb b_ hl hf hv=>
  refine ⟨_,cap,_,rfl,Aw hb hl,hf,λq hq=>?_⟩;rw[kz hq (by simpa using hl) (gJ (hf q hq))];exact hv q hq
theorem Ev {t t' ty:TypeId}{tt tt' ti:TI}(htt:aL P t=some tt)(hks:tt.kind= .slice)(we:aL P t'=some tt')(wg:tt'.kind= .slice)(ht:aL P tt.elem=some ti)(h:RS B N φ fp S ts m a w){x:AV}{u v:Value}
 (hx:RV w S φ x u) (hxl:∀l af,(l,af)∈ao x->known m l af) (d:Nat) {k:AV->Mem->Prop} {ys:lA}
 (V9:∃ad c cells,v= .slice ad ys.length c/\FC P w ti.sh.sz ys.length v cells/\(∀q (hq:q<ys.length),fits ti.sh ys[q])/\∀q (hq:q<ys.length),Rd w S ys[q] (elemV cells (q*ti.sh.sz) ti.sh))
 (qK:ti.bytes<=65536/\0<ti.size/\fits ti.sh ti.zero) (hk:lF ti d x ys m k):
 iI B N a (λx ts' m'=>ts'=ts/\k x m') ((Builtin.append_ #[t,t'] ty #[u,v]).run P w):=by
 obtain ⟨hby,Q2,hzf⟩:=qK;obtain ⟨ad',c',l,rfl,hfc,hfy,hry⟩:=V9;obtain ⟨inf,dd,z,hi,hd,hz,hag,hsz,hbb,hzz,_⟩:=fy ht;obtain ⟨hzs,_,_⟩:=nf hzz hzf;have hsl:=bN htt hks;have zu:=bN we wg;have DL:FC P w inf.size ys.length (.slice ad' ys.length c') l:=by rw[←hsz];exact hfc
 have lC:=CK hfc.1 hfy hry Q2;have hb':inf.bytes<=65536:=by omega
 have grow:∀(l0 nv n cap:Nat) (ad:Option Addr) (olds:lV) (xs:lA) (fss:List lN),
  FC P w inf.size n (.slice ad n cap) olds->n<=xs.length->n+ys.length<=1073741824->cap<n+ys.length->fss.length=xs.length->(∀i (h:i<xs.length),fits ti.sh xs[i])→
  (∀i (h:i<xs.length),i<n->Own w S xs[i] (elemV olds (i*ti.sh.sz) ti.sh) (fss.getD i []))→
  (∀af,known m l0 af->af<nv)->(∀b,b∈fss.flatten->b∈fp l0)->(fss.take n).flatten=[]->(fss.flatten).Nodup→
  k (.ref l0 nv 0 (n+ys.length)) ((l0,.row nv ti.sh false (xs.take n++ys))::m)→
  iI B N a (λx ts' m'=>ts'=ts/\k x m') ((Builtin.append_ #[t,t'] ty #[.slice ad n cap,.slice ad' ys.length c']).run P w):=by
  intro l0 nv n cap ad olds xs fss hfo hn te b_ rH hff bc fK cy hdp hnd hk;refine ⟨_,_,Es hsl zu hi hz hfo DL b_ te hb',?_⟩;have hge:=grownCap_ge w (n+ys.length) cap tt.elem;have hle:grownCap w (n+ys.length) cap tt.elem<=maxLen:=grownCap_le_maxLen w _ _ _ (by unfold maxLen;omega);generalize hgc:grownCap w (n+ys.length) cap tt.elem=gc at hge hle ⊢;have Q3:(olds++l++(Builtin.zeroCells z.cells (gc-(n+ys.length))).toList).toArray.size=gc*ti.sh.sz:=by rw[List.size_toArray,List.length_append,List.length_append,mu,hfo.1,DL.1,hzs,←hsz];show n*ti.size+ys.length*ti.size+(gc-(n+ys.length))*ti.size=gc*ti.size;rw[←q19,←q19];congr 1;omega
  have iq:=nd w.drew (olds++l++(Builtin.zeroCells z.cells (gc-(n+ys.length))).toList).toArray tt.elem;rw[World.size_drew] at iq;have hold:∀b,b<w.heap.size->(w.drew.alloc (.cells (olds++l++(Builtin.zeroCells z.cells (gc-(n+ys.length))).toList).toArray tt.elem)).heap[b]? =w.heap[b]? :=λb hb=>JA w.drew _ b hb;have hws:(w.drew.alloc (.cells (olds++l++(Builtin.zeroCells z.cells (gc-(n+ys.length))).toList).toArray tt.elem)).heap.size=w.heap.size+1:=by simp
  have hso:a7 w (w.drew.alloc (.cells (olds++l++(Builtin.zeroCells z.cells (gc-(n+ys.length))).toList).toArray tt.elem)):=⟨rfl,rfl,rfl⟩;generalize w.drew.alloc (.cells (olds++l++(Builtin.zeroCells z.cells (gc-(n+ys.length))).toList).toArray tt.elem)=w' at iq hold hws hso ⊢;have dD:((fss.take n).flatten).Sublist fss.flatten:=by have:fss.flatten=(fss.take n).flatten++(fss.drop n).flatten:=(by rw[←q1,q17]);rw[this];exact q16 ..
  have hlen:(xs.take n++ys).length=n+ys.length:=by simp;omega
  have jY:=pK (S:=S) (fss:=fss) (xs:=xs) (ys:=ys) (n:=n) (cap:=gc) iq Q3 hn hge hle rH hff hfy rfl (by rw [hfo.1,←hsz];rfl) hfc.1
   (λi hi hin=>by
     refine (bc i hi hin).mono (λc hc=>?_) (λ_ h=>h) (λc hc=>hold c (h.cu l0 c (cy c (aK (rH▸hi) hc))).1)
     exact hold c (h.sB c hc).1)
   (λi hi=>(hry i hi).mono (λc hc=>hold c (h.sB c hc).1) (λ_ h=>h))
  rw[←hlen] at jY;refine h.kh (deep:=false) (b:=w.heap.size) (cap:=gc) (by omega) hso (jI.of_same hold) (λc _ hc=>hold c hc) (λl b sh af cs e hl hb=>⟨cs,e,by rw[hold b (h.cu l b (h.at_mem hl)).1];exact hb,rfl⟩) (.inr ⟨rfl,by omega⟩) fK ?_ (q13 ..) ?_ ?_ jY ?_ ⟨rfl,hk⟩
  . intro c hc;rcases List.mem_cons.1 hc with rfl|hc
    . exact .inl rfl
    exact .inr (cy c (dD.subset hc))
  . intro _;rw[hdp]
  . refine q14.2 ⟨λhc=>?_,hnd.sublist dD⟩;have:=(h.cu l0 _ (cy _ (dD.subset hc))).1;omega
  exact ⟨_,gc,rfl,hge,.inr ⟨rfl,_,_,iq,Q3⟩⟩
 have nilCase:∀ad,(u= .slice ad 0 0)->ys.length<=1073741824/\k (.ref d (az m d) 0 ys.length) ((d,.row (az m d) ti.sh false ys)::m)→
  iI B N a (λx ts' m'=>ts'=ts/\k x m') ((Builtin.append_ #[t,t'] ty #[u,.slice ad' ys.length c']).run P w):=by
  rintro ad rfl ⟨te,hk⟩;cases ys with
  |nil=>exact ⟨_,_,mr hsl zu hi (q20 _),h.rY (λaf hv=>ff hv) ⟨rfl,hk⟩⟩
  |cons y0 yr=>
   have:=grow d (az m d) 0 0 ad [] [] [] (g_ _ _ _ _) (q20 _) (by omega) (by simp) rfl (λi hi=>absurd hi (q25 _)) (λi hi=>absurd hi (q25 _))
    (λaf hv=>ff hv) (by simp) (by simp) (by simp) (by simpa using hk)
   exact this
 cases x with
 |ref l0 af i n=>
  simp only[lF] at hk;unfold oM at hk;split at hk
  . rename_i v' sh' deep xs hlk;obtain ⟨rfl,rfl,rfl,hn,te,hdn,hk⟩:=hk;have hr:=dt hx;have fK:∀af,known m l0 af->af<v'+1:=by
     rintro af ⟨k',h1,h2⟩;rw[hlk] at h1;cases h1;exact Nat.lt_succ_of_le h2
    rcases h.aG l0 _ hlk with ⟨h1,h2,h3⟩|⟨b,cap0,hφ,hbm,hdp,bc⟩
    ·
     subst h2;obtain ⟨hn0,ad,rfl⟩:=hr.2 h1;subst hn0;cases ys with
     |nil=>exact ⟨_,_,mr hsl zu hi (q20 _),h.rY fK ⟨rfl,by simpa using hk⟩⟩
     |cons y0 yr=>
      exact grow l0 (v'+1) 0 0 ad [] [] [] (g_ _ _ _ _) (q20 _) (by omega) (by simp) rfl (λi hi=>absurd hi (q25 _)) (λi hi=>absurd hi (q25 _))
       fK (by simp) (by simp) (by simp) (by simpa using hk)
    obtain ⟨ad,cap,rfl,hnc,hcp⟩:=hr.1 b ti.sh hφ;obtain ⟨cs,e,fss,hgf,aD,hcs,b_,hmx,hff,rH,hvv⟩:=gI bc hbm;have nW:=h.hZ l0;rw[hgf] at nW;have jZ:=q14.1 nW;have wc:b∈fp l0:=hbm;have cy:∀c,c∈fss.flatten->c∈fp l0:=λc hc=>by rw[hgf];exact q12 _ hc
    have Jw:(fss.take n).flatten=[]:=by
     rcases hdn with hd|hd
     . have:=hdp hd;rw [hgf] at this;have hf0:fss.flatten=[]:=(by simpa using this);have ux:((fss.take n).flatten).Sublist fss.flatten:=by
        have:fss.flatten=(fss.take n).flatten++(fss.drop n).flatten:=(by rw[←q1,q17]);rw[this];exact q16 ..
       rw[hf0] at ux;exact List.sublist_nil.1 ux
     rw[hd];rfl
    have V_:∀i (hi:i<xs.length),i<n->Own w S xs[i] (elemV cs.toList (i*ti.sh.sz) ti.sh) (fss.getD i []):=λi hi hin=>by
     rcases hdn with hd|hd
     . have:=hvv i hi;rw[hd] at this;exact this
     omega
    have dD:((fss.take n).flatten).Sublist fss.flatten:=by have:fss.flatten=(fss.take n).flatten++(fss.drop n).flatten:=(by rw[←q1,q17]);rw[this];exact q16 ..
    have Q4:n*ti.sh.sz<=cs.size:=(by rw[hcs];exact q23 _ (by omega));have seg:∀i,i<n->∀(hi:i<xs.length),elemV (cs.toList.take (n*ti.sh.sz)) (i*ti.sh.sz) ti.sh=elemV cs.toList (i*ti.sh.sz) ti.sh:=by intro i hin hi;have:=kz (l:=cs.toList) (off:=0) hin (by simpa using Q4) (gJ (hff i hi));simpa using this
    by_cases cf:n+ys.length<=cap
    . by_cases hy0:ys.length=0
      ·
       have hys:ys=[]:=List.eq_nil_of_length_eq_zero hy0;subst hys;refine ⟨_,_,mr hsl zu hi hnc,?_⟩
       have jY:=pK (w':=w) (S:=S) (fss:=fss) (xs:=xs) (ys:=[]) (n:=n) (cap:=cap0) (lo:=cs.toList.take (n*ti.sh.sz)) (ln:=[]) (lr:=cs.toList.drop (n*ti.sh.sz)) aD hcs hn (by simpa using Nat.le_trans hn b_) hmx rH hff (λi hi=>absurd hi (q25 _))
        (by simp) (by simp;omega) (by simp) (λi hi hin=>by rw[seg i hin hi];exact V_ i hi hin) (λi hi=>absurd hi (q25 _))
       have hlen:(xs.take n++[]).length=n+([]:lA).length:=(by simp;omega);rw[←hlen] at jY;refine h.kh (deep:=false) (b:=b) (cap:=cap0) (q20 _) (a7.refl _) (jI.refl _) (λ_ _ _=>rfl) (λl b sh af cs e _ hb=>⟨cs,e,hb,rfl⟩) (.inl wc) fK ?_ (q13 ..) ?_ ?_ jY ?_ ⟨rfl,hk⟩
       . intro c hc;rcases List.mem_cons.1 hc with rfl|hc
         . exact .inl rfl
         exact .inr (cy c (dD.subset hc))
       . intro _;rw[Jw]
       . exact q14.2 ⟨λhc=>jZ.1 (dD.subset hc),jZ.2.sublist dD⟩
       refine ⟨ad,cap,rfl,hnc,hcp.imp id ?_⟩;rintro ⟨rfl,cs',e',g1,g2⟩;exact ⟨by rw[q27],cs',e',g1,by rw[q26] at g2;exact g2⟩
      obtain ⟨rfl,cs',e',g1,g2⟩:=hcp.resolve_left (by omega);obtain rfl:=dc (aD.symm.trans g1);rw[q26] at g2;rw[q27] at hx ⊢;have mh:n*inf.size+l.length<=cs.size:=by rw[DL.1,g2,←hsz,←q19];exact q23 _ cf
      refine ⟨_,_,Et hsl zu hi aD DL lC cf mh,?_⟩;have V8:n*inf.size=n*ti.sh.sz:=(by rw[←hsz];rfl);rw[V8] at mh ⊢;have hsp:=bX (cs:=cs) (o:=n*ti.sh.sz) (vs:=l) mh;have Q5:cap=cap0:=by have:cap*ti.sh.sz=cap0*ti.sh.sz:=(by rw[←g2,hcs]);exact Nat.eq_of_mul_eq_mul_right Q2 this
      subst Q5
      have jY:=pK (w':=w.setRow b _) (S:=S) (fss:=fss) (xs:=xs) (ys:=ys) (n:=n) (cap:=cap) (bW aD hsp) (by rw [hsp];exact hcs) hn cf hmx rH hff hfy
       rfl (by simp;omega) hfc.1 (λi hi hin=>by
        rw[seg i hin hi];refine (V_ i hi hin).mono (λc hc=>?_) (λ_ h=>h) (λc hc=>aC (b:=b) _ λe=>jZ.1 (by rw[←e];exact aK (rH▸hi) hc))
        exact aC (b:=b) _ λe=>h.bS l0 b wc (by rw[←e];exact hc))
       (λi hi=>(hry i hi).mono (λc hc=>aC (b:=b) _ λe=>h.bS l0 b wc (by rw[←e];exact hc)) (λ_ h=>h))
      have hlen:(xs.take n++ys).length=n+ys.length:=(by simp;omega);rw[←hlen] at jY;refine h.kh (deep:=false) (b:=b) (cap:=cap) (by simp) ⟨rfl,rfl,rfl⟩ (jI.setRow aD hsp) (λc hc _=>aC _ hc) (fX.setRow φ aD hsp) (.inl wc) fK ?_ (q13 ..) ?_ ?_ jY ?_ ⟨rfl,hk⟩
      . intro c hc;rcases List.mem_cons.1 hc with rfl|hc
        . exact .inl rfl
        exact .inr (cy c (dD.subset hc))
      . intro _;rw[Jw]
      . exact q14.2 ⟨λhc=>jZ.1 (dD.subset hc),jZ.2.sublist dD⟩
      exact ⟨_,cap,rfl,cf,.inr ⟨rfl,_,_,bW aD hsp,by rw[hsp];exact hcs⟩⟩
    ·
     have hfo:∃olds,FC P w inf.size n (.slice ad n cap) olds/\∀i (h:i<xs.length),i<n->Own w S xs[i] (elemV olds (i*ti.sh.sz) ti.sh) (fss.getD i []):=by
      by_cases hn0:n=0
      . subst hn0;exact ⟨[],g_ _ _ _ _,λi _ hi=>absurd hi (q25 _)⟩
      obtain ⟨rfl,cs',e',g1,g2⟩:=hcp.resolve_left (by omega);rw[q27];refine ⟨_,Aw aD (by rw[q26,←hsz];exact Q4),λi hi hin=>?_⟩;rw[List.drop_zero,←hsz];have:=seg i hin hi;simp only[TI.sh] at this ⊢;rw[this];exact V_ i hi hin
     obtain ⟨olds,hfo,hoo⟩:=hfo;exact grow l0 (v'+1) n cap ad olds xs fss hfo hn te (by omega) rH hff hoo fK cy Jw jZ.2 hk
  exact hk.elim
 |e0=>obtain ⟨ad,rfl⟩:=rP hx;exact nilCase ad rfl hk.2
 |val u'=>
  obtain ⟨h1,hk2⟩:=hk;obtain ⟨rfl,_⟩:=aS hx;unfold isNil at h1;split at h1
  . rename_i he;cases he
  . rename_i he;cases he;exact nilCase _ rfl hk2
  cases h1
 |undef=>exact absurd hk.1 (by simp[isNil])
 |arr sh xs=>exact absurd hk.1 (by simp[isNil])
 |agg xs=>exact absurd hk.1 (by simp[isNil])
 |aX xs=>exact absurd hk.1 (by simp[isNil])
 |ptr l v i j=>exact absurd hk.1 (by simp[isNil])
 |bo sh xs i j=>exact absurd hk.1 (by simp[isNil])
 |cn f xs=>exact absurd hk.1 (by simp[isNil])
theorem NS {t t' ty:TypeId}{tt tt' ti:TI}(htt:aL P t=some tt)(hks:tt.kind= .slice)(we:aL P t'=some tt')(wg:tt'.kind= .slice)(ht:aL P tt.elem=some ti)(h:RS B N φ fp S ts m a w){x y:AV}{u v:Value}
 (hx:RV w S φ x u) (hy:RV w S φ y v) (hxl:∀l af,(l,af)∈ao x->known m l af) (d:Nat) {k:AV->Mem->Prop} (hk:lG ti d x y m k):
 iI B N a (λx ts' m'=>ts'=ts/\k x m') ((Builtin.append_ #[t,t'] ty #[u,v]).run P w):=by
 unfold lG at hk;split at hk
 . unfold jk at hk;split at hk
   . rename_i hlk;rcases hk with hk|⟨rfl,rfl,hin,qK,hk⟩
     . exact wm htt hks we wg ht h hx hy hxl d hk
     exact Ev htt hks we wg ht h hx hxl d (NQ (P:=P) h hy hlk hin) qK hk
   exact wm htt hks we wg ht h hx hy hxl d hk
 . rename_i sh xs;cases hb:bm xs with
   |true=>
    rw[hb] at hk;exact wm htt hks we wg ht h hx hy hxl d hk
   |false=>
    rw[hb] at hk;obtain ⟨rfl,qK,hk⟩:=hk;exact Ev htt hks we wg ht h hx hxl d (NR (P:=P) hy) qK hk
 exact wm htt hks we wg ht h hx hy hxl d hk
def mw (x:Option AV)(d:Int)(k:Int->Prop):Prop:=match x with
 |none=>k d
 |some (.val (.int _ i))=>k i
 |_=>False
@[congr] theorem U2 {x x':Option AV} {d:Int} {k:Int->Prop} (h:x=x'):mw x d k=mw x' d k:=by rw[h]
theorem AB (d:Int)(k:Int->Prop):mw none d k=k d:=rfl
theorem AD (j:IntKind)(i d:Int)(k:Int->Prop):mw (some (.val (.int j i))) d k=k i:=rfl
def CL (sh:Sh)(v:Nat)(b:Option bf)(k:Prop):Prop:=match b with|some (.row v' sh' _ _)=>v'=v/\sh'=sh/\k|_=>False
@[congr] theorem U3 {sh:Sh} {v:Nat} {b b':Option bf} {k:Prop} (h:b=b'):CL sh v b k=CL sh v b' k:=by rw[h]
theorem Ew (sh:Sh)(v:Nat)(d:Bool)(xs:lA)(k:Prop):CL sh v (some (.row v sh d xs)) k=k:=by simp[CL]
def fQ (sh:Sh)(x:AV)(lo hi:Option AV)(m:Mem)(k:AV->Prop):Prop:=match x with
 | .val (.string s)=>mw lo 0 λl=>mw hi s.size λh=>(0<=l/\l<=h/\h<=s.size)/\k (.val (.string (s.extract l.toNat h.toNat)))
 | .arr sh' xs=>mw lo 0 λl=>mw hi xs.length λh=>(0<=l/\l<=h/\h<=xs.length)/\sh'=sh/\k (.arr sh ((xs.drop l.toNat).take (h.toNat-l.toNat)))
 | .ref r v i n=>CL sh v (ah m r) (mw lo 0 λl=>mw hi n λh=>(0<=l/\l<=h/\h<=n)/\k (.ref r v (i+l.toNat) (h.toNat-l.toNat)))
 |_=>False
@[congr] theorem RI {sh:Sh} {x x':AV} {lo hi lo' hi':Option AV} {m:Mem} {k:AV->Prop} (h:x=x') (h1:lo=lo') (h2:hi=hi'):fQ sh x lo hi m k=fQ sh x' lo' hi' m k:=by rw[h,h1,h2]
theorem w9 (sh:Sh)(s:ByteArray)(lo hi:Option AV)(m:Mem)(k:AV->Prop):
 fQ sh (.val (.string s)) lo hi m k=mw lo 0 λl=>mw hi s.size λh=>(0<=l/\l<=h/\h<=s.size)/\k (.val (.string (s.extract l.toNat h.toNat))):=rfl
theorem w_ (sh:Sh)(xs:lA)(lo hi:Option AV)(m:Mem)(k:AV->Prop):
 fQ sh (.arr sh xs) lo hi m k=mw lo 0 λl=>mw hi xs.length λh=>(0<=l/\l<=h/\h<=xs.length)/\k (.arr sh ((xs.drop l.toNat).take (h.toNat-l.toNat))):=by simp[fQ]
theorem xb (sh:Sh)(r v i n:Nat)(lo hi:Option AV)(m:Mem)(k:AV->Prop):
 fQ sh (.ref r v i n) lo hi m k=CL sh v (ah m r) (mw lo 0 λl=>mw hi n λh=>(0<=l/\l<=h/\h<=n)/\k (.ref r v (i+l.toNat) (h.toNat-l.toNat))):=rfl
def jA (m:Mem)(x:AV)(k:AV->Prop):Prop:=match x with
 | .arr _ _=>k .e0
 | .ref l v _ _=>gm v (ah m l) (k .e0)
 |x=>isNil x=true/\k .e0
@[congr] theorem Rk {m:Mem} {x x':AV} {k:AV->Prop} (h:x=x'):jA m x k=jA m x' k:=by rw[h]
def BV (w:World)(S:nP)(φ:Nat->LS)(x:Option AV)(v:Option Value):Prop:=match x,v with
 |none,none=>True
 |some x,some v=>RV w S φ x v
 |_,_=>False
theorem my {x:Option AV}{v:Option Value}(hx:BV w S φ x v){d:Int}{k:Int->Prop}(h:mw x d k):∃i,k i/\((v=none/\i=d)\/∃j,v=some (.int j i)):=by
 unfold mw at h;split at h
 . cases v with
   |none=>exact ⟨d,h,.inl ⟨rfl,rfl⟩⟩
   |some v=>exact hx.elim
 . cases v with
   |none=>exact hx.elim
   |some v=>obtain ⟨rfl,_⟩:=aS hx;exact ⟨_,h,.inr ⟨_,rfl⟩⟩
 exact h.elim
theorem zE {t:TypeId}(ht:P.underlying t=some .string){s:ByteArray}{lo hi:Option Value}{l h:Int}(hl:(lo=none/\l=0)\/∃j,lo=some (.int j l))(hh:(hi=none/\h=s.size)\/∃j,hi=some (.int j h))
 (h0:0<=l) (h1:l<=h) (h2:h<=s.size) (w:World):(Instr.slice t (.string s) lo hi none).run P w= .ok (.string (s.extract l.toNat h.toNat)) w:=by
 have eh:(h.toNat:Int)=h:=Int.toNat_of_nonneg (by omega);have hh0:0<=h:=by omega
 rcases hl with ⟨rfl,rfl⟩|⟨j,rfl⟩<;>rcases hh with ⟨rfl,rfl⟩|⟨j',rfl⟩<;>
  simp[Instr.slice,run_underlying ht,Instr.sliceBounds,run_sliceBound, *]
theorem jB {t e:TypeId}{ti:TI}(ht:P.underlying t=some (.slice e))(he:aL P e=some ti){ad:Option Addr}{len cap:Nat}{lo hi:Option Value}{l h:Int}(hl:(lo=none/\l=0)\/∃j,lo=some (.int j l))
 (hh:(hi=none/\h=len)\/∃j,hi=some (.int j h)) (h0:0<=l) (h1:l<=h) (h2:h<=cap) (w:World):
 (Instr.slice t (.slice ad len cap) lo hi none).run P w= .ok (.slice (if cap=l.toNat then ad else ad.map (·.add (l.toNat*ti.size))) (h.toNat-l.toNat) (cap-l.toNat)) w:=by
 have eh:(h.toNat:Int)=h:=Int.toNat_of_nonneg (by omega);have hh0:0<=h:=by omega
 have hs:=ji he w
 rcases hl with ⟨rfl,rfl⟩|⟨j,rfl⟩<;>rcases hh with ⟨rfl,rfl⟩|⟨j',rfl⟩<;>
  simp[Instr.slice,run_underlying ht,Instr.sliceBounds,run_sliceBound, *]
theorem xd {t:TypeId}{tt:TI}(htt:aL P t=some tt)(sh:Sh)(he:tt.kind= .slice->∃ti,aL P tt.elem=some ti/\ti.sh=sh)(hkd:tt.kind= .slice\/tt.kind= .string)(h:RS B N φ fp S ts m a w)
 {x:AV} {u:Value} {lo hi:Option AV} {vl vh:Option Value} (hx:RV w S φ x u) (hxl:∀l af,(l,af)∈ao x->known m l af) (hlo:BV w S φ lo vl) (hhi:BV w S φ hi vh)
 (hm:tt.kind= .slice↔∀s,x≠ .val (.string s)) {k:AV->Prop} (hk:fQ sh x lo hi m k):
 iI B N a (λx ts' m'=>ts'=ts/\m'=m/\k x) ((Instr.sliceAt t u vl vh none).run P w):=by
 have ZG:∀n e,P.underlying t≠some (.array n e):=by
  intro n e hc;rcases hkd with hk|hk
  . rw[bN htt hk] at hc;cases hc
  rw[eE htt hk] at hc;cases hc
 have hsa:(Instr.sliceAt t u vl vh none).run P w=(Instr.slice t u vl vh none).run P w:=by
  unfold Instr.sliceAt;rcases hkd with hk|hk
  . simp[run_underlying (bN htt hk)]
  simp[run_underlying (eE htt hk)]
 rw[hsa];unfold fQ at hk;split at hk
 . rename_i s;obtain ⟨l,hk,hvl⟩:=my hlo hk;obtain ⟨hh,⟨⟨h0,h1,h2⟩,hk⟩,hvh⟩:=my hhi hk;obtain ⟨rfl,_⟩:=aS hx;have hks:tt.kind= .string:=hkd.resolve_left λhc=>hm.1 hc s rfl;exact ⟨_,w,zE (eE htt hks) hvl hvh h0 h1 h2 w,h.fg rfl ⟨rfl,rfl,hk⟩⟩
 . rename_i sh' xs;obtain ⟨l,hk,hvl⟩:=my hlo hk;obtain ⟨hh,⟨⟨h0,h1,h2⟩,rfl,hk⟩,hvh⟩:=my hhi hk;have hks:tt.kind= .slice:=hm.2 (λs hc=>by cases hc);obtain ⟨ti,hti,hts⟩:=he hks;subst hts;cases ma hx with
   |nil _ ad=>
    have e1:l=0:=(by simp at h2;omega);have e2:hh=0:=(by simp at h2;omega);subst e1;subst e2;refine ⟨_,w,jB (bN htt hks) hti hvl hvh (by omega) (by omega) (by simp) w,h.gives (x:=.arr ti.sh []) ?_ (λ_ _ hl=>by cases hl) ⟨rfl,rfl,by simpa using hk⟩⟩;simp;exact .rd _ _ (.nil _ _)
   |arr _ _ b off cap cs e fr hSb hb b_ hl hf hv=>
    refine ⟨_,w,jB (bN htt hks) hti hvl hvh h0 h1 (by omega) w,h.gives ?_ (λ_ _ hl=>by cases hl) ⟨rfl,rfl,hk⟩⟩;refine .rd _ _ ?_;have hlen:((xs.drop l.toNat).take (hh.toNat-l.toNat)).length=hh.toNat-l.toNat:=(by simp;omega);by_cases hc:cap=l.toNat
    . rw[if_pos hc];have e0:hh.toNat-l.toNat=0:=(by omega);rw[e0,q18,hc,Nat.sub_self];exact .nil _ _
    rw[if_neg hc];have hmul:l.toNat*ti.sh.sz+(hh.toNat-l.toNat)*ti.sh.sz<=xs.length*ti.sh.sz:=by rw[←q19];exact q23 _ (by omega)
    have:=Rd.arr (w:=w) (S:=S) ti.sh ((xs.drop l.toNat).take (hh.toNat-l.toNat)) b (off+l.toNat*ti.sh.sz) (cap-l.toNat) cs e fr hSb hb (by omega) (by rw [hlen];omega)
     (λi hi=>by rw[hlen] at hi;simp only[q8,q6];exact hf _ (by omega))
     (λi hi=>by
       rw[hlen] at hi;simp only[q8,q6];have:=hv (l.toNat+i) (by omega)
       rwa [q19,←Nat.add_assoc] at this)
    rw[hlen] at this;simpa [Addr.kO,TI.sh] using this
 . rename_i r af i n;unfold CL at hk;split at hk
   . rename_i v' sh' deep xs hlk;obtain ⟨rfl,rfl,hk⟩:=hk;obtain ⟨l,hk,hvl⟩:=my hlo hk;obtain ⟨hh,⟨⟨h0,h1,h2⟩,hk⟩,hvh⟩:=my hhi hk;have hks:tt.kind= .slice:=hm.2 (λs hc=>by cases hc);obtain ⟨ti,hti,hts⟩:=he hks;subst hts;have hr:=dt hx;have hkn:=hxl r v' (by simp [ao]);have gZ:∀l' af,(l',af)∈ao (.ref r v' (i+l.toNat) (hh.toNat-l.toNat))->known m l' af:=by
      intro l' af hl';simp only[ao,List.mem_singleton,Prod.mk.injEq] at hl';obtain ⟨rfl,rfl⟩:=hl';exact hkn
     rcases h.aG r _ hlk with ⟨g1,g2,g3⟩|⟨b,cap0,hφ,hbm,hdp,bc⟩
     . obtain ⟨rfl,ad,rfl⟩:=hr.2 g1;have e1:l=0:=(by omega);have e2:hh=0:=(by omega);subst e1;subst e2;refine ⟨_,w,jB (bN htt hks) hti hvl hvh (by omega) (by omega) (by simp) w,h.gives ?_ gZ ⟨rfl,rfl,hk⟩⟩;refine .ref _ _ _ _ _ (λb sh hb=>by rw[g1] at hb;cases hb) (λ_=>⟨by simp,ad,by simp⟩) rfl
     obtain ⟨ad,cap,rfl,hnc,hcp⟩:=hr.1 b _ hφ;refine ⟨_,w,jB (bN htt hks) hti hvl hvh h0 h1 (by omega) w,h.gives ?_ gZ ⟨rfl,rfl,hk⟩⟩;refine .ref _ _ _ _ _ (λb' sh' hb'=>?_) (λhb'=>by rw[hφ] at hb';cases hb') rfl;rw[hφ] at hb';cases hb';refine ⟨_,cap-l.toNat,rfl,by omega,?_⟩;by_cases hc:cap=l.toNat
     . exact .inl (by omega)
     right;obtain ⟨rfl,cs,e,q1,q2⟩:=hcp.resolve_left (by omega);refine ⟨?_,cs,e,q1,by rw[q2];congr 1;omega⟩;rw[if_neg hc];simp only[Option.map_some,Addr.kO,q19];rfl
   exact hk.elim
 exact hk.elim
def mz (cs:lV)(j:Nat):lV->lV
 | []=>cs
 |v::vs=>mz (cs.set j v) (j+1) vs
theorem oO (vs:lV):∀(cs:lV) (j:Nat),(mz cs j vs).length=cs.length:=by
 induction vs with
 |nil=>intro cs j;rfl
 |cons v r ih=>intro cs j;simp only[mz];rw[ih,q10]
theorem RL.set {R:AV->Value->Prop}{xs:lA}{cs:lV}(h:RL R xs cs)(j:Nat){y:AV}{v:Value}(hy:leaf y)(hv:R y v):RL R (xs.set j y) (cs.set j v):=by
 refine ⟨by rw[q10,q10];exact h.1,λi hi=>?_,λi hi=>?_⟩
 . rw [q10] at hi;rw [q7];split
   . exact hy
   exact h.2.1 i hi
 rw[q10] at hi;have hi':i<cs.length:=by rw[h.1];exact hi
 rw[q7,q3,List.getElem?_set];split
 . rename_i e;subst e;simpa [hi'] using hv
 simpa [q3] using h.2.2 i hi
theorem RL.mz {R:AV->Value->Prop}:∀(ys:lA) (vs:lV) (xs:lA) (cs:lV) (j:Nat),RL R xs cs->RL R ys vs->RL R (jf xs j ys) (Vc.mz cs j vs)
 | [],vs,xs,cs,j,h,h'=>by
   have:vs=[]:=List.eq_nil_of_length_eq_zero h'.1;subst this;exact h
 |y::ys,vs,xs,cs,j,h,h'=>by
  cases vs with
  |nil=>have:=h'.1;simp at this
  |cons v vs=>
   refine RL.mz ys vs _ _ (j+1) (h.set j (h'.2.1 0 (by simp)) (by have:=h'.2.2 0 (by simp);exact this)) ⟨by simpa using h'.1,λi hi=>?_,λi hi=>?_⟩
   . have:=h'.2.1 (i+1) (by simpa using hi);exact this
   have:=h'.2.2 (i+1) (by simpa using hi);exact this
theorem NT (l:lV)(off:Nat):∀(k:Nat) (cs:aV),((l.zipIdx k).foldl (λcs (c,j)=>cs.setIfInBounds (off+j) c) cs).toList=mz cs.toList (off+k) l:=by
 induction l with
 |nil=>intro k cs;rfl
 |cons v r ih=>
  intro k cs;simp only[List.zipIdx_cons,List.foldl_cons,mz];rw[ih,Array.toList_setIfInBounds,Nat.add_assoc]
theorem AE (vs cs:aV)(off:Nat):(vs.zipIdx.foldl (λcs (c,j)=>cs.setIfInBounds (off+j) c) cs).toList=mz cs.toList off vs.toList:=by have:=NT vs.toList off 0 cs;rw[←Array.foldl_toList,Array.toList_zipIdx];simpa using this
def mA (fs:List (Nat × Nat × Bool))(cells:lA)(k:lA->Prop):List (Nat × AV)->Prop
 | []=>k cells
 |(i,x)::r=>vO fs[i]? λfd=>eU x λys=>ys.length=fd.2.1/\fd.1+ys.length<=cells.length/\mA fs (jf cells fd.1 ys) k r
theorem AF (fs:List (Nat × Nat × Bool))(cells:lA)(k:lA->Prop):mA fs cells k []=k cells:=rfl
theorem xe (fs:List (Nat × Nat × Bool))(cells:lA)(k:lA->Prop)(i:Nat)(x:AV)(r:List (Nat × AV)):
 mA fs cells k ((i,x)::r)=vO fs[i]? λfd=>eU x λys=>ys.length=fd.2.1/\fd.1+ys.length<=cells.length/\mA fs (jf cells fd.1 ys) k r:=rfl
def qO (ti:TI)(parts:List (Nat × AV))(k:AV->Prop):Prop:=eU ti.zero λzs=>mA ti.fields zs (λcs=>k (.agg cs)) parts
theorem AG (ti:TI)(parts:List (Nat × AV))(k:AV->Prop):qO ti parts k=eU ti.zero λzs=>mA ti.fields zs (λcs=>k (.agg cs)) parts:=rfl
def ng (sh:Sh)(xs:lA)(k:lA->Prop):List (Nat × AV)->Prop
 | []=>k xs
 |(i,x)::r=>i<xs.length/\fits sh x/\ao x=[]/\ng sh (xs.set i x) k r
theorem xf (sh:Sh)(xs:lA)(k:lA->Prop):ng sh xs k []=k xs:=rfl
theorem uX (sh:Sh)(xs:lA)(k:lA->Prop)(i:Nat)(x:AV)(r:List (Nat × AV)):ng sh xs k ((i,x)::r)=(i<xs.length/\fits sh x/\ao x=[]/\ng sh (xs.set i x) k r):=rfl
def iw (ti:TI)(d n:Nat)(parts:List (Nat × AV))(m:Mem)(k:AV->Mem->Prop):Prop:=
 (n*ti.size<=16777216/\n<=16777216/\fits ti.sh ti.zero)/\ng ti.sh (q15 n ti.zero) (λxs=>k (.ref d (az m d) 0 n) ((d,.row (az m d) ti.sh (bm xs) xs)::m)) parts
theorem oP (ti:TI)(d n:Nat)(parts:List (Nat × AV))(m:Mem)(k:AV->Mem->Prop):iw ti d n parts m k=
 ((n*ti.size<=16777216/\n<=16777216/\fits ti.sh ti.zero)/\ng ti.sh (q15 n ti.zero) (λxs=>k (.ref d (az m d) 0 n) ((d,.row (az m d) ti.sh (bm xs) xs)::m)) parts):=rfl
theorem Ex (v:Value):ao (.val v)=[]:=rfl
theorem Ey (sh:Sh)(xs:lA):ao (.arr sh xs)=[]:=rfl
theorem NU (xs:lA):ao (.agg xs)=aq xs:=rfl
theorem NV (l v i n:Nat):ao (.ref l v i n)=[(l,v)]:=rfl
theorem NW (l v i n:Nat):ao (.ptr l v i n)=[(l,v)]:=rfl
theorem AH:aq []=[]:=rfl
theorem xg (x:AV)(r:lA):aq (x::r)=ao x++aq r:=rfl
theorem bO {xs:lA}(h:aq xs=[]):∀i (hi:i<xs.length),ao xs[i]=[]:=by intro i hi;apply List.eq_nil_iff_forall_not_mem.2;intro l hl;have:=bq hi hl;rw[h] at this;cases this
theorem cR {x:AV}{v:Value}(h:RV w S φ x v)(hl:ao x=[]):Rd w S x v:=by
 induction h with
 |rd x v h=>exact h
 |agg xs cs h1 h2 _ ih=>exact .agg xs cs h1 h2 λi hi=>ih i hi (bO (by simpa [ao] using hl) i hi)
 |aX xs cs h1 _ ih=>exact .aX xs cs h1 λi hi=>ih i hi (bO (by simpa [ao] using hl) i hi)
 |cn f xs cs h1 _ ih=>exact .cn f xs cs h1 λi hi=>ih i hi (bO (by simpa [ao] using hl) i hi)
 |ref=>simp[ao] at hl
 |ptr=>simp[ao] at hl
def PR (R:AV->Value->Prop):List (Nat × AV)->List (Nat × Value)->Prop
 | [],[]=>True
 |(i,x)::r,(j,v)::s=>i=j/\R x v/\PR R r s
 |_,_=>False
theorem NX (h:RS B N φ fp S ts m a w)(l:List (Nat × Operand)):PR (RV w S φ) (l.map λp=>(p.1,Vc.ev ts p.2)) (l.map λp=>(p.1,a.eval p.2)):=by
 induction l with
 |nil=>trivial
 |cons p r ih=>exact ⟨rfl,h.ev p.2,ih⟩
theorem AI {fs:List Field}{Q:lA->Prop}:∀(parts:List (Nat × AV)) (vparts:List (Nat × Value)) (cells:lA) (cs:aV),PR (RV w S φ) parts vparts->RL (RV w S φ) cells cs.toList→
 (∀l,l∈aq cells->known m l.1 l.2)->(∀p,p∈parts->∀l,l∈ao p.2->known m l.1 l.2)→
 mA (fs.map λf=>(f.offset,gG P f.type,ka P f.type)) cells Q parts→
 ∃cells' cs',Q cells'/\Instr.fill ((fs.map λf=>(f.offset,gG P f.type)).toArray[·]?) cs vparts=some cs'/\RL (RV w S φ) cells' cs'.toList/\∀l,l∈aq cells'->known m l.1 l.2
 | [],vparts,cells,cs,hp,hr,hl,_,hk=>by
   cases vparts with
   |nil=>exact ⟨cells,cs,hk,rfl,hr,hl⟩
   |cons=>exact hp.elim
 |(i,x)::r,vparts,cells,cs,hp,hr,hl,hpl,hk=>by
  cases vparts with
  |nil=>exact hp.elim
  |cons q s=>
   obtain ⟨j,v⟩:=q;obtain ⟨rfl,hx,hp⟩:=hp;simp only[mA,List.getElem?_map] at hk;cases hf:fs[i]? with
   |none=>rw[hf] at hk;exact hk.elim
   |some f=>
    rw [hf] at hk;simp only [Option.map_some,vO] at hk;obtain ⟨ys,⟨h1,h2,hk⟩,hrl,gZ,lC⟩:=hx.cells hk;have hsp:=RL.mz ys v.cells.toList cells cs.toList f.offset hr hrl;have iq:∀l,l∈aq (jf cells f.offset ys)->known m l.1 l.2:=by
     intro l hl';obtain ⟨q,hq,hl2⟩:=bM hl';have hg:=jz ys cells f.offset q h2;rw[q4 hq] at hg;split at hg
     . obtain ⟨g1,g2⟩:=q5.1 hg.symm;exact hpl (i,x) (q13 ..) l (gZ _ (bq g1 (g2▸hl2)))
     obtain ⟨g1,g2⟩:=q5.1 hg.symm;exact hl l (bq g1 (g2▸hl2))
    have hvl:v.cells.size=ys.length:=(by simpa using hrl.1);obtain ⟨cells',cs',g1,g2,g3,g4⟩:=AI r s _ (v.cells.zipIdx.foldl (λcs (c,j)=>cs.setIfInBounds (f.offset+j) c) cs) hp (by rw[AE];exact hsp) iq (λp hp=>hpl p (q12 _ hp)) hk;refine ⟨cells',cs',g1,?_,g3,g4⟩;have hcl:cs.size=cells.length:=(by simpa using hr.1);have e1:(fs.map λf=>(f.offset,gG P f.type)).toArray[i]? =some (f.offset,gG P f.type):=(by simp[hf]);simp only[Instr.fill,e1];rw[if_neg (by simp;omega)];exact g2
theorem KP {fs:List Field}(h:∀f,f∈fs->(P.info? f.type).isSome):fs.mapM (λf=>(P.info? f.type).map λi=>(f.offset,i.size))=some (fs.map λf=>(f.offset,gG P f.type)):=by
 induction fs with
 |nil=>rfl
 |cons f r ih=>
  have h1:=h f (q13 ..);obtain ⟨i,hi⟩:=Option.isSome_iff_exists.1 h1;simp[List.mapM_cons,hi,ih λf hf=>h f (q12 _ hf),gG]
def NY (P:pR)(t:TypeId):Prop:=∀fs,P.underlying t=some (.struct fs)->∀f,f∈fs.toList->(P.info? f.type).isSome
theorem Hr {t:TypeId}{ti:TI}(ht:aL P t=some ti)(hks:ti.kind= .struct)(hfo:NY P t)(h:RS B N φ fp S ts m a w){parts:List (Nat × AV)}{vparts:List (Nat × Value)}(hp:PR (RV w S φ) parts vparts)
 (hpl:∀p,p∈parts->∀l,l∈ao p.2->known m l.1 l.2) {k:AV->Prop} (hk:qO ti parts k):
 iI B N a (λx ts' m'=>ts'=ts/\m'=m/\k x) ((Instr.build t vparts.toArray).run P w):=by
 obtain ⟨inf,dd,z,hi,hd,hz,hag,hsz,hby,hzz,hff,_,hkk⟩:=fy ht;rw[hks] at hkk;obtain ⟨fs,rfl⟩:∃fs,dd= .struct fs:=by cases dd<;>simp at hkk<;>exact ⟨_,rfl⟩
 simp only at hff;unfold qO at hk;rw[hzz,hff] at hk;obtain ⟨zs,hk,hrl,gZ,lC⟩:=RV.cells (φ:=φ) (S:=S) (w:=w) (.rd _ _ (CE z)) hk;obtain ⟨cells',cs',g1,g2,g3,g4⟩:=AI (P:=P) parts vparts zs z.cells hp hrl (λl hl=>by have:=gZ l hl;rw[wQ] at this;cases this) hpl hk;have hb:P.built t vparts=some cs':=by unfold Program.built;simp only[hi,hd,hz,KP (hfo fs hd),g2]
 refine ⟨_,w,run_build w t vparts.toArray cs' (by simpa using hb),h.gives (x:=.agg cells') (.agg _ _ (by simpa using g3.1) g3.2.1 g3.2.2) (λl af hl=>g4 (l,af) (by simpa [ao] using hl)) ⟨rfl,rfl,g1⟩⟩
theorem Ez {sh:Sh}{Q:lA->Prop}:∀(parts:List (Nat × AV)) (vparts:List (Nat × Value)) (xs:lA) (cs:aV),PR (RV w S φ) parts vparts->cs.size=xs.length*sh.sz→
 (∀i (hi:i<xs.length),fits sh xs[i])->(∀i (hi:i<xs.length),Rd w S xs[i] (elemV cs.toList (i*sh.sz) sh))->ng sh xs Q parts→
 ∃xs' cs',Q xs'/\Instr.fill (λi=>some (i*sh.sz,sh.sz)) cs vparts=some cs'/\cs'.size=xs'.length*sh.sz/\xs'.length=xs.length/\(∀i (hi:i<xs'.length),fits sh xs'[i])∧
  (∀i (hi:i<xs'.length),Rd w S xs'[i] (elemV cs'.toList (i*sh.sz) sh))
 | [],vparts,xs,cs,hp,hs,hf,hr,hk=>by
   cases vparts with
   |nil=>exact ⟨xs,cs,hk,rfl,hs,rfl,hf,hr⟩
   |cons=>exact hp.elim
 |(i,x)::r,vparts,xs,cs,hp,hs,hf,hr,hk=>by
  cases vparts with
  |nil=>exact hp.elim
  |cons q s=>
   obtain ⟨j,v⟩:=q;obtain ⟨rfl,hx,hp⟩:=hp;obtain ⟨hi,hfx,hlx,hk⟩:=hk;have hrx:=cR hx hlx;have cf:=a8 (s:=sh.sz) hi;have hvc:v.cells.toList.length=sh.sz/\∀l:lV,i*sh.sz+sh.sz<=l.length->elemV (mz l (i*sh.sz) v.cells.toList) (i*sh.sz) sh=v/\∀i',i'≠i->i'*sh.sz+sh.sz<=l.length->elemV (mz l (i*sh.sz) v.cells.toList) (i'*sh.sz) sh=elemV l (i'*sh.sz) sh:=by
    have sget:∀(vs l:lV) (o k:Nat),o+vs.length<=l.length->(mz l o vs).getD k uD=if o<=k/\k<o+vs.length then vs.getD (k-o) uD else l.getD k uD:=by
     intro vs;induction vs with
     |nil=>intro l o k _;simp only[mz,List.length_nil];rw[if_neg (by omega)]
     |cons u us ih=>
      intro l o k h;simp only[List.length_cons] at h ⊢;simp only[mz];rw[ih _ _ _ (by rw[q10];omega)];by_cases hk:k=o
      . subst hk;rw[if_neg (by omega),if_pos (by omega),Nat.sub_self];simp[q3,show k<l.length by omega]
      by_cases hk2:o+1<=k/\k<o+1+us.length
      . rw[if_pos hk2,if_pos (by omega),show k-o=(k-(o+1))+1 by omega];simp[q3]
      rw[if_neg hk2,if_neg (by omega)];simp[q3,Ne.symm hk]
    have Ts:=gJ hfx;have main:v.cells.toList.length=sh.sz->(∀l:lV,l=v.cells.toList->elemV l 0 sh=v)->v.cells.toList.length=sh.sz/\∀l:lV,i*sh.sz+sh.sz<=l.length->elemV (mz l (i*sh.sz) v.cells.toList) (i*sh.sz) sh=v/\∀i',i'≠i->i'*sh.sz+sh.sz<=l.length->elemV (mz l (i*sh.sz) v.cells.toList) (i'*sh.sz) sh=elemV l (i'*sh.sz) sh:=by
     intro hl hv;refine ⟨hl,λl hll=>⟨?_,λi' hi' XG=>?_⟩⟩
     . refine (iu (l':=v.cells.toList) (o':=0) (by rw[oO];exact hll) (by omega) Ts λc hc=>?_).trans (hv _ rfl);rw[sget _ _ _ _ (by omega),if_pos (by omega)];congr 1;omega
     refine iu (by rw[oO];exact XG) XG Ts λc hc=>?_;rw[sget _ _ _ _ (by omega),if_neg];rcases Nat.lt_or_gt_of_ne hi' with hlt|hgt
     . have:=a8 (s:=sh.sz) hlt;omega
     have:=a8 (s:=sh.sz) hgt;omega
    have one:leaf x->sh.ag=false/\sh.sz=1->v.cells.toList.length=sh.sz/\∀l:lV,i*sh.sz+sh.sz<=l.length->elemV (mz l (i*sh.sz) v.cells.toList) (i*sh.sz) sh=v/\∀i',i'≠i->i'*sh.sz+sh.sz<=l.length->elemV (mz l (i*sh.sz) v.cells.toList) (i'*sh.sz) sh=elemV l (i'*sh.sz) sh:=by rintro hlf ⟨hag,hs1⟩;have h1:=hrx.aW hlf;have hc1:=eJ h1;exact main (by rw[hc1,hs1];rfl) λl hl=>by rw[hl,hc1];simp only[elemV,hag,Bool.false_eq_true,if_false];rfl
    cases x with
    |agg zs=>
     obtain ⟨hag,hzl⟩:=hfx;obtain ⟨cz,rfl,h1,h2,h3⟩:=oJ hrx;have hlen:(Value.agg cz).cells.toList.length=sh.sz:=(by simpa [Value.cells] using h1.trans hzl);refine main hlen λl hl=>?_;rw[hl];simp only[elemV,hag,if_true,List.drop_zero,Value.cells];rw[List.take_of_length_le (by simp only[Value.cells] at hlen;omega)]
    |undef=>exact hfx.elim
    |aX xs=>exact hfx.elim
    |_=>exact one trivial hfx
   have hcl:i*sh.sz+sh.sz<=cs.toList.length:=(by simp only[q0,hs];exact cf);obtain ⟨hv1,hv2⟩:=hvc.2 cs.toList hcl;have e0:(v.cells.zipIdx.foldl (λcs (c,j)=>cs.setIfInBounds (i*sh.sz+j) c) cs).toList=mz cs.toList (i*sh.sz) v.cells.toList:=AE _ _ _
   obtain ⟨xs',cs',g1,g2,g3,g4,g5,g6⟩:=Ez r s (xs.set i x) (v.cells.zipIdx.foldl (λcs (c,j)=>cs.setIfInBounds (i*sh.sz+j) c) cs) hp
    (by rw[q10,←hs,←q0,e0,oO,q0])
    (λq hq=>by
      rw[q10] at hq;rw[q7];split
      . exact hfx
      exact hf q hq)
    (λq hq=>by
      rw[q10] at hq;rw[q7,e0];by_cases hqi:i=q
      . subst hqi;rw[if_pos rfl,hv1];exact hrx
      rw[if_neg hqi,hv2 q (Ne.symm hqi) (by simp only[q0,hs];exact a8 hq)];exact hr q hq) hk
   refine ⟨xs',cs',g1,?_,g3,by rw[g4,q10],g5,g6⟩;have hsz:v.cells.size=sh.sz:=(by simpa using hvc.1);simp only[Instr.fill];rw[if_neg (by simp;omega)];exact g2
theorem vS {t:TypeId}{tt ti:TI}(htt:aL P t=some tt)(hks:tt.kind= .slice)(ht:aL P tt.elem=some ti)(h:RS B N φ fp S ts m a w){parts:List (Nat × AV)}{vparts:List (Nat × Value)}(hp:PR (RV w S φ) parts vparts)(d n:Nat)
 {k:AV->Mem->Prop} (hk:iw ti d n parts m k):iI B N a (λx ts' m'=>ts'=ts/\k x m') ((Instr.buildSlice t n vparts.toArray).run P w):=by
 obtain ⟨⟨te,hnl,hzf⟩,hk⟩:=hk;obtain ⟨inf,dd,z,hi,hd,hz,hag,hsz,hby,hzz,_⟩:=fy ht;obtain ⟨hzs,hzr,ZH⟩:=nf hzz hzf;have hsl:=bN htt hks
 obtain ⟨xs',cs',g1,g2,g3,g4,g5,g6⟩:=Ez (w:=w) (S:=S) (φ:=φ) parts vparts (q15 n ti.zero) (madeCells z.cells (n*ti.size)) hp (by rw [size_madeCells,List.length_replicate];rfl)
  (λi hi=>by simp only[List.getElem_replicate];exact hzf)
  (λi hi=>by
    simp only [List.length_replicate] at hi;simp only [List.getElem_replicate];have e2:elemV (madeCells z.cells (n*ti.size)).toList (i*ti.sh.sz) ti.sh=elemV z.cells.toList 0 ti.sh:=by
     refine iu ?_ ?_ (gJ hzf) λcc hcc=>?_
     . simp only[q0,size_madeCells];exact a8 (s:=ti.size) hi
     . simp only[q0,hzs];show 0+ti.size<=ti.size;omega
     rw[q26];exact oK z.cells n i cc ti.size hzs hcc hi
    rw[e2];exact hzr _ _) hk
 rw [List.length_replicate] at g4;have cH:(Instr.buildSlice t n vparts.toArray).run P w= .ok (.slice (some ⟨w.heap.size,0,none⟩) n n) (w.alloc (.cells cs' tt.elem)):=by
  have h1:¬(n*inf.size>2^24):=by rw[←hsz];omega
  have g2':Instr.fill (λi=>some (i*inf.size,inf.size)) (madeCells z.cells (n*ti.size)) vparts=some cs':=by rw[←hsz];exact g2
  rw[hsz] at g2';by_cases h0:n*inf.size=0
  . have e0:madeCells z.cells (n*inf.size)= #[]:=(by rw[h0];simp[madeCells]);rw[e0] at g2';have er:(Array.range 0).map (λ_=>(default:Value))= #[]:=(by simp);simp[Instr.buildSlice,run_underlying hsl,sizeOf,typeInfo,hi,h0,newRow];rw[er,g2'];simp
  have e0:(Array.range (n*inf.size)).map (λx=>z.cells[x%z.cells.size]!)=madeCells z.cells (n*inf.size):=rfl;simp[Instr.buildSlice,run_underlying hsl,sizeOf,typeInfo,hi,h0,newRow,zeroValue,hz,e0,g2'];omega
 refine ⟨_,_,cH,?_⟩
 have hRS:=h.alloc d ti.sh (.row (az m d) ti.sh (bm xs') xs') cs' tt.elem rfl
  (.inr ⟨w.heap.size,n,aB _ _ _,by simp,λ_=>rfl,by
    have e:[w.heap.size]=w.heap.size::(q15 xs'.length ([]:lN)).flatten:=by congr 1;exact (q2.2 λl hl=>(List.mem_replicate.1 hl).2).symm
    rw[e];have hnm:n<=maxLen:=(by unfold maxLen;omega);refine .arr _ _ _ _ cs' (tt.elem,false) _ (nd w _ _) (by rw[g3,g4]) (by omega) hnm g5 (by simp) λq hq=>?_;have e1:(q15 xs'.length ([]:lN)).getD q []=[]:=(by simp[q3,hq]);rw[e1];have hq6:=(g6 q hq).mono (w':=w.alloc (.cells cs' tt.elem)) (λc hc=>JA w _ c (h.sB c hc).1) (λ_ h=>h);cases hfl:bm xs' with
    |true=>exact .rd _ _ (fA (fs:=[]) (.rd _ _ hq6) (jK hfl q hq)).1
    |false=>exact .rd _ _ hq6⟩)
  (λ_ _ hx=>by cases hx)
 refine hRS.gives (x:=.ref d (az m d) 0 n) ?_ ?_ ⟨rfl,g1⟩
 . refine .ref _ _ _ _ _ (λb sh hb=> ?_) (λhb=> ?_) rfl
   . rw[aB] at hb;cases hb;refine ⟨_,n,rfl,q20 _,.inr ⟨by simp,_,_,nd w _ _,by rw[g3,g4,q26]⟩⟩
   rw[aB] at hb;cases hb
 intro l' af hl;simp only[ao,List.mem_singleton,Prod.mk.injEq] at hl;obtain ⟨rfl,rfl⟩:=hl;exact ⟨_,by simp[aw];rfl,q20 _⟩
end
end Go.Vc
