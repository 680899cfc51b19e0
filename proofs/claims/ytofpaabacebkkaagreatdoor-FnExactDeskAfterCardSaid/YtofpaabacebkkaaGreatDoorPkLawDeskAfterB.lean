import Derived.Laws.IdiomStrings
import Derived.Deep.LoopGhost
import Derived.Test.YtofpaabacebkkaaGreatDoorPkLawDeskAfterA
set_option linter.unusedVariables false
set_option linter.unusedSimpArgs false
set_option linter.unnecessarySimpa false
set_option maxRecDepth 1000000
set_option maxHeartbeats 16000000
open Array renaming getElem?_eq_getElem->q0,getElem?_toList->q1
open List renaming eq_nil_of_length_eq_zero->q2,getD_eq_getElem?_getD->q3,getElem?_eq_getElem->q4,getElem?_eq_some_iff->q5,getElem_drop->q6,getElem_of_mem->q7,getElem_take->q8,mem_singleton->q9,nodup_nil->q10,reverse_cons->q11
open Nat renaming lt_of_lt_of_le->q12,not_lt_zero->q13
namespace Go.Vc
def iN (w w':World) (S:Nat->Prop) (own:Bool) (r:AV) (v:Value):Prop:=
 if own then ∃fs,Own w' (fun _=>False) r v fs/\fs.Nodup/\∀b,b∈fs->w.heap.size<=b
 else Rd w' (fun b=>S b\/(w.heap.size<=b/\b<w'.heap.size)) r v
def Enters (P:Program) (f:FuncId):Prop:=∃fn c,P.funcs[f]? =some fn∧(fn.name== "runtime.NumGoroutine")=false∧fn.body=some c
def Fn (P:Program) (f:FuncId) (args:lA) (own:Bool) (post:AV->Prop):Prop:=
 Enters P f/\∀(w:World) (S:Nat->Prop) (vs:aV),(∀b,S b->b<w.heap.size)->KF w S->vs.size=args.length->(∀i (h:i<args.length),Rd w S args[i] (vs.toList.getD i Go.undef))→
  Calls P f vs w fun e w'=>∃r v,e= .returned v/\post r/\Grown w w'/\iN w w' S own r v
theorem Fn.mono {P:Program} {f:FuncId} {args:lA} {own:Bool} {post post':AV->Prop} (h:Fn P f args own post) (hp:∀r,post r->post' r):Fn P f args own post':=
 ⟨h.1,fun w S vs h1 hk h2 h3=>(h.2 w S vs h1 hk h2 h3).mono fun _ _ ⟨r,v,g1,g2,g3⟩=>⟨r,v,g1,hp r g2,g3⟩⟩
def nU (v i n:Nat) (b:Option bh) (k:AV->Prop):Prop:=match b with
 |some (.row v' sh _ xs)=>v'=v/\i+n<=xs.length/\k (.arr sh ((xs.drop i).take n))
 |_=>False
@[congr] theorem T4 {v i n:Nat} {b b':Option bh} {k:AV->Prop} (h:b=b'):nU v i n b k=nU v i n b' k:=by rw [h]
theorem Ax (v i n:Nat) (sh:Sh) (d:Bool) (xs:lA) (k:AV->Prop):nU v i n (some (.row v sh d xs)) k=(i+n<=xs.length/\k (.arr sh ((xs.drop i).take n))):=by simp [nU]
def fB (m:Mem) (x:AV) (k:AV->Prop):Prop:=match x with
 | .ref l v i n=>nU v i n (aj m l) k
 | .val v=>k (.val v)
 | .e0=>k .e0
 | .arr sh xs=>k (.arr sh xs)
 | .bu sh xs i j=>k (.bu sh xs i j)
 |_=>False
@[congr] theorem RT {m:Mem} {x x':AV} {k:AV->Prop} (h:x=x'):fB m x k=fB m x' k:=by rw [h]
theorem wQ (m:Mem) (l v i n:Nat) (k:AV->Prop):fB m (.ref l v i n) k=nU v i n (aj m l) k:=rfl
theorem wR (m:Mem) (v:Value) (k:AV->Prop):fB m (.val v) k=k (.val v):=rfl
theorem wS (m:Mem) (sh:Sh) (xs:lA) (k:AV->Prop):fB m (.arr sh xs) k=k (.arr sh xs):=rfl
def c6 (m:Mem) (k:lA->Prop):lA->lA->Prop
 |acc,[]=>k acc.reverse
 |acc,x::r=>fB m x fun y=>c6 m k (y::acc) r
theorem rI (m:Mem) (k:lA->Prop) (acc:lA):c6 m k acc []=k acc.reverse:=rfl
theorem p9 (m:Mem) (k:lA->Prop) (acc:lA) (x:AV) (r:lA):c6 m k acc (x::r)=fB m x fun y=>c6 m k (y::acc) r:=rfl
def iz (m:Mem) (x:AV) (k:AV->Prop):Prop:=match x with
 | .agg xs=>c6 m (fun ys=>k (.agg ys)) [] xs
 | .ptr _ _ _ _=>k .undef
 | .cy _ _=>k .undef
 |x=>fB m x k
theorem Ay (m:Mem) (f:FuncId) (xs:lA) (k:AV->Prop):iz m (.cy f xs) k=k .undef:=rfl
theorem Az (m:Mem) (l v i j:Nat) (k:AV->Prop):iz m (.ptr l v i j) k=k .undef:=rfl
@[congr] theorem T5 {m:Mem} {x x':AV} {k:AV->Prop} (h:x=x'):iz m x k=iz m x' k:=by rw [h]
theorem AA (m:Mem) (xs:lA) (k:AV->Prop):iz m (.agg xs) k=c6 m (fun ys=>k (.agg ys)) [] xs:=rfl
theorem AB (m:Mem) (l v i n:Nat) (k:AV->Prop):iz m (.ref l v i n) k=nU v i n (aj m l) k:=rfl
theorem AD (m:Mem) (v:Value) (k:AV->Prop):iz m (.val v) k=k (.val v):=rfl
theorem AE (m:Mem) (sh:Sh) (xs:lA) (k:AV->Prop):iz m (.arr sh xs) k=k (.arr sh xs):=rfl
def dH (m:Mem) (k:lA->Prop):lA->lA->Prop
 |acc,[]=>k acc.reverse
 |acc,x::r=>iz m x fun y=>dH m k (y::acc) r
theorem wT (m:Mem) (k:lA->Prop) (acc:lA):dH m k acc []=k acc.reverse:=rfl
theorem uG (m:Mem) (k:lA->Prop) (acc:lA) (x:AV) (r:lA):dH m k acc (x::r)=iz m x fun y=>dH m k (y::acc) r:=rfl
def nV (l:Nat) (x:AV) (m:Mem) (k:AV->Mem->Prop):Prop:=match x with
 | .arr sh xs=>k (.ref l (aB m l) 0 xs.length) ((l,.row (aB m l) sh true xs)::m)
 |x=>k x m
@[congr] theorem T6 {l:Nat} {x x':AV} {m:Mem} {k:AV->Mem->Prop} (h:x=x'):nV l x m k=nV l x' m k:=by rw [h]
theorem AF (l:Nat) (sh:Sh) (xs:lA) (m:Mem) (k:AV->Mem->Prop):nV l (.arr sh xs) m k=k (.ref l (aB m l) 0 xs.length) ((l,.row (aB m l) sh true xs)::m):=rfl
theorem AG (l:Nat) (v:Value) (m:Mem) (k:AV->Mem->Prop):nV l (.val v) m k=k (.val v) m:=rfl
def qa (k:lA->Mem->Prop):Nat->lA->Mem->lA->Prop
 |_,acc,m,[]=>k acc.reverse m
 |l,acc,m,x::r=>nV l x m fun y m'=>qa k (l+1) (y::acc) m' r
theorem AH (k:lA->Mem->Prop) (l:Nat) (acc:lA) (m:Mem):qa k l acc m []=k acc.reverse m:=rfl
theorem wU (k:lA->Mem->Prop) (l:Nat) (acc:lA) (m:Mem) (x:AV) (r:lA):qa k l acc m (x::r)=nV l x m fun y m'=>qa k (l+1) (y::acc) m' r:=rfl
def nW (l:Nat) (x:AV) (m:Mem) (k:AV->Mem->Prop):Prop:=match x with
 | .agg xs=>qa (fun ys m'=>k (.agg ys) m') l [] m xs
 | .aZ _=>False
 |x=>nV l x m k
@[congr] theorem T7 {l:Nat} {x x':AV} {m:Mem} {k:AV->Mem->Prop} (h:x=x'):nW l x m k=nW l x' m k:=by rw [h]
theorem AI (l:Nat) (xs:lA) (m:Mem) (k:AV->Mem->Prop):nW l (.agg xs) m k=qa (fun ys m'=>k (.agg ys) m') l [] m xs:=rfl
theorem AJ (l:Nat) (sh:Sh) (xs:lA) (m:Mem) (k:AV->Mem->Prop):nW l (.arr sh xs) m k=k (.ref l (aB m l) 0 xs.length) ((l,.row (aB m l) sh true xs)::m):=rfl
theorem AK (l:Nat) (v:Value) (m:Mem) (k:AV->Mem->Prop):nW l (.val v) m k=k (.val v) m:=rfl
def l9 (k:lA->Mem->Prop):Nat->lA->Mem->lA->Prop
 |_,acc,m,[]=>k acc.reverse m
 |l,acc,m,x::r=>nW l x m fun y m'=>l9 k (l+16) (y::acc) m' r
theorem wV (k:lA->Mem->Prop) (l:Nat) (acc:lA) (m:Mem):l9 k l acc m []=k acc.reverse m:=rfl
theorem uH (k:lA->Mem->Prop) (l:Nat) (acc:lA) (m:Mem) (x:AV) (r:lA):l9 k l acc m (x::r)=nW l x m fun y m'=>l9 k (l+16) (y::acc) m' r:=rfl
def nf (l:Nat) (x:AV) (m:Mem) (k:AV->Mem->Prop):Prop:=match x with
 | .aZ xs=>l9 (fun ys m'=>k (.aZ ys) m') l [] m xs
 |x=>nW l x m k
@[congr] theorem Vg {l:Nat} {x x':AV} {m:Mem} {k:AV->Mem->Prop} (h:x=x'):nf l x m k=nf l x' m k:=by rw [h]
theorem Eu (l:Nat) (xs:lA) (m:Mem) (k:AV->Mem->Prop):nf l (.aZ xs) m k=l9 (fun ys m'=>k (.aZ ys) m') l [] m xs:=rfl
theorem Ev (l:Nat) (sh:Sh) (xs:lA) (m:Mem) (k:AV->Mem->Prop):nf l (.arr sh xs) m k=k (.ref l (aB m l) 0 xs.length) ((l,.row (aB m l) sh true xs)::m):=rfl
theorem Ew (l:Nat) (v:Value) (m:Mem) (k:AV->Mem->Prop):nf l (.val v) m k=k (.val v) m:=rfl
def aH:AV->Bool| .cy _ _=>true|_=>false
def ay:lA->Prop| []=>True|x::r=>(ao x=[]/\aH x=false)/\ay r
def Vh (own:Bool) (d:Nat) (m:Mem) (r:AV) (k:AV->Mem->Prop):Prop:=if own then nf (1000*(d+1)) r m k else k r m
structure Pack {α:Type} (k:α):Type where
def ib (P:Program) (f:FuncId) (xs:lA) (m:Mem) (k:AV->Mem->Prop):Prop:=
 ∀(B:eO) (N:Nat) (φ:Nat->LS) (fp:Nat->lN) (S:Nat->Prop) (ts:Env) (a:Act) (w:World) (vs:aV),RS B N φ fp S ts m a w->vs.size=xs.length→
  (∀i (h:i<xs.length),RV w S φ xs[i] (vs.toList.getD i Go.undef))->(∀i (h:i<xs.length) l af,(l,af)∈ao xs[i]->known m l af)→
  Enters P f/\Calls P f vs w fun e w'=>∃v,e= .returned v/\iw B N a (fun x ts' m'=>ts'=ts/\k x m') v w'
def eQ (P:Program) (f:FuncId) (d:Nat) (xs ts:lA) (m:Mem) (k:AV->Mem->Prop) (_:Pack k):Prop:=ib P f xs m k\/∃own post,Fn P f ts own post/\(own=false->ay xs)/\∀r,post r->Vh own d m r k
def nX (P:Program) (f:FuncId) (d:Nat) (xs:lA) (m:Mem) (k:AV->Mem->Prop):Prop:=dH m (fun ts=>eQ P f d xs ts m k ⟨⟩) [] xs
@[congr] theorem T8 {P:Program} {f:FuncId} {d:Nat} {xs xs':lA} {m:Mem} {k:AV->Mem->Prop} (h:xs=xs'):nX P f d xs m k=nX P f d xs' m k:=by rw [h]
theorem Ex (P:Program) (f:FuncId) (d:Nat) (x:AV) (xs:lA) (m:Mem) (k:AV->Mem->Prop):nX P f d (x::xs) m k=dH m (fun ts=>eQ P f d (x::xs) ts m k ⟨⟩) [] (x::xs):=rfl
theorem AL (P:Program) (f:FuncId) (d:Nat) (m:Mem) (k:AV->Mem->Prop):nX P f d [] m k=eQ P f d [] [] m k ⟨⟩:=rfl
@[congr] theorem RU {P:Program} {f:FuncId} {d:Nat} {xs ts ts':lA} {m:Mem} {k:AV->Mem->Prop} {q:Pack k} (h:ts=ts'):eQ P f d xs ts m k q=eQ P f d xs ts' m k q:=by rw [h]
theorem ab {P:Program} {f:FuncId} {d:Nat} {xs ts:lA} {m:Mem} {k:AV->Mem->Prop} {r:AV} (h:Fn P f ts true (· =r)) (hk:nf (1000*(d+1)) r m k) {q:Pack k}:eQ P f d xs ts m k q:=
 .inr ⟨true,_,h,fun h=>(by cases h),fun _ e=>e▸hk⟩
theorem wW {P:Program} {f:FuncId} {d:Nat} {xs ts:lA} {m:Mem} {k:AV->Mem->Prop} {post:AV->Prop} (h:Fn P f ts true post) (hk:∀r,post r->nf (1000*(d+1)) r m k) {q:Pack k}:eQ P f d xs ts m k q:=
 .inr ⟨true,_,h,fun h=>(by cases h),hk⟩
theorem ax {P:Program} {f:FuncId} {d:Nat} {xs ts:lA} {m:Mem} {k:AV->Mem->Prop} {r:AV} (h:Fn P f ts false (· =r)) (hl:ay xs) (hk:k r m) {q:Pack k}:eQ P f d xs ts m k q:=
 .inr ⟨false,_,h,fun _=>hl,fun _ e=>e▸hk⟩
section
variable {P:Program} {B:eO} {N:Nat} {φ:Nat->LS} {fp:Nat->lN} {S:Nat->Prop} {ts:Env} {m:Mem} {a:Act} {w:World}
def pn (w:World):Nat->Prop:=fun b=>b<w.heap.size
theorem Own.now {S:Nat->Prop} {x:AV} {v:Value} {fs:lN} (h:Own w S x v fs) (hS:∀b,S b->b<w.heap.size):Rd w (pn w) x v:=h.mh hS fun b hb=>h.lt b hb
theorem sY (h:RS B N φ fp S ts m a w) {x:AV} {v:Value} (hx:RV w S φ x v) {k:AV->Prop} (hk:fB m x k):∃y,k y/\Rd w (pn w) y v/\leaf y/\(ao x=[]->Rd w S y v):=by
 have hS:∀b,S b->pn w b:=fun b hb=>(h.sB b hb).1;unfold fB at hk;split at hk
 . rename_i l af i n;have hr:=dt hx;unfold nU at hk;split at hk
   . rename_i v' sh deep xs hlk;obtain ⟨rfl,hin,hk⟩:=hk;refine ⟨_,hk,?_,trivial,fun hl=>by simp [ao] at hl⟩;have hlen:((xs.drop i).take n).length=n:=by simp;omega
     rcases h.aF l _ hlk with ⟨h1,h2,h3⟩|⟨b,cap,hφ,hbm,hdp,bd⟩
     . obtain ⟨rfl,ad,rfl⟩:=hr.2 h1;rw [List.take_zero];exact .nil _ _
     obtain ⟨ad,cp,rfl,hnc,hcp⟩:=hr.1 b sh hφ;obtain ⟨cs,e,fss,hgf,aE,hcs,cj,hmx,hff,hfl,hvv⟩:=gG bd hbm;by_cases hc0:cp=0
     . have:n=0:=by omega
       subst this;subst hc0;rw [List.take_zero];exact .nil _ _
     obtain ⟨rfl,cs',e',g1,g2⟩:=hcp.resolve_left hc0;obtain rfl:=df (aE.symm.trans g1);have ck:i*sh.sz+n*sh.sz<=cs.size:=by rw [g2,←Nat.add_mul];exact Nat.mul_le_mul_right _ (by omega)
     have hb:pn w b:=(h.cw l b hbm).1
     have:=Rd.arr (w:=w) (S:=pn w) sh ((xs.drop i).take n) b (i*sh.sz) cp cs e.1 (n9 e cs.size) hb aE (by rw [hlen];exact hnc) (by rw [hlen];exact ck)
      (fun q hq=>by rw [hlen] at hq;simp only [q8,q6];exact hff _ (by omega))
      (fun q hq=>by
        rw [hlen] at hq;simp only [q8,q6]
        have:=(hvv (i+q) (by omega)).now (fun c hc=>by
         cases deep with
         |true=>exact hc.elim
         |false=>exact (h.sB c hc).1)
        rwa [Nat.add_mul] at this)
     rw [hlen] at this;exact this
   exact hk.elim
 . obtain ⟨rfl,h1⟩:=aS hx;exact ⟨_,hk,.val _ h1,trivial,fun _=>.val _ h1⟩
 . obtain ⟨ad,rfl⟩:=ru hx;exact ⟨_,hk,.e0 _,trivial,fun _=>.e0 _⟩
 . exact ⟨_,hk,(l7 hx).mono (fun _ _=>rfl) hS,trivial,fun _=>l7 hx⟩
 . exact ⟨_,hk,(pg hx).mono (fun _ _=>rfl) hS,trivial,fun _=>pg hx⟩
 exact hk.elim
def pq (R:AV->Value->Prop) (xs:lA) (vs:List Value):Prop:=vs.length=xs.length/\∀i (h:i<xs.length),R xs[i] (vs.getD i Go.undef)
theorem pq.snoc {R:AV->Value->Prop} {xs:lA} {vs:List Value} (h:pq R xs vs) {x:AV} {v:Value} (hx:R x v):pq R (xs++[x]) (vs++[v]):=by
 refine ⟨by simp [h.1],fun i hi=> ?_⟩;simp only [List.length_append,List.length_singleton] at hi;rw [List.getElem_append];split
 . rename_i hlt;have:=h.2 i hlt
   rwa [q3,List.getElem?_append_left (by rw [h.1];exact hlt),←q3]
 rename_i hge;have e:i=xs.length:=by omega
 subst e;simp [q3,←h.1,hx]
theorem oG (h:RS B N φ fp S ts m a w) {Q:lA->Prop}:∀(xs:lA) (vs:List Value) (acc:lA) (va:List Value),pq (RV w S φ) xs vs->pq (fun x v=>Rd w (pn w) x v/\leaf x) acc.reverse va→
 c6 m Q acc xs->∃ys,Q ys/\pq (fun x v=>Rd w (pn w) x v/\leaf x) ys (va++vs)
 | [],vs,acc,va,hx,ha,hk=>by
   have:vs=[]:=q2 hx.1;subst this;exact ⟨_,hk,by simpa using ha⟩
 |x::xs,vs,acc,va,hx,ha,hk=>by
  cases vs with
  |nil=>have:=hx.1;simp at this
  |cons v vs=>
   have hx0:=hx.2 0 (by simp);obtain ⟨y,hk,h1,h2,_⟩:=sY h (show RV w S φ x v from hx0) hk
   obtain ⟨ys,g1,g2⟩:=oG h xs vs (y::acc) (va++[v]) ⟨by simpa using hx.1,fun i hi=>by have:=hx.2 (i+1) (by simpa using hi);exact this⟩ (by rw [q11];exact ha.snoc ⟨h1,h2⟩) hk
   exact ⟨ys,g1,by simpa using g2⟩
theorem N6 (h:RS B N φ fp S ts m a w) {x:AV} {v:Value} (hx:RV w S φ x v) {k:AV->Prop} (hk:iz m x k):∃y,k y/\Rd w (pn w) y v:=by
 unfold iz at hk;split at hk
 . rename_i xs;obtain ⟨cs,rfl,h1,h2,h3⟩:=na hx;obtain ⟨ys,g1,g2⟩:=oG h xs cs.toList [] [] ⟨by simpa using h1,h3⟩ ⟨rfl,fun i hi=>absurd hi (q13 _)⟩ hk;refine ⟨_,g1,.agg ys cs (by simpa using g2.1) (fun i hi=>(g2.2 i hi).2) fun i hi=>(g2.2 i hi).1⟩
 . exact ⟨_,hk,.undef _⟩
 . exact ⟨_,hk,.undef _⟩
 obtain ⟨y,h1,h2,_⟩:=sY h hx hk;exact ⟨y,h1,h2⟩
theorem sZ (h:RS B N φ fp S ts m a w) {Q:lA->Prop}:∀(xs:lA) (vs:List Value) (acc:lA) (va:List Value),pq (RV w S φ) xs vs->pq (Rd w (pn w)) acc.reverse va→
 dH m Q acc xs->∃ys,Q ys/\pq (Rd w (pn w)) ys (va++vs)
 | [],vs,acc,va,hx,ha,hk=>by
   have:vs=[]:=q2 hx.1;subst this;exact ⟨_,hk,by simpa using ha⟩
 |x::xs,vs,acc,va,hx,ha,hk=>by
  cases vs with
  |nil=>have:=hx.1;simp at this
  |cons v vs=>
   have hx0:=hx.2 0 (by simp);obtain ⟨y,hk,h1⟩:=N6 h (show RV w S φ x v from hx0) hk
   obtain ⟨ys,g1,g2⟩:=sZ h xs vs (y::acc) (va++[v]) ⟨by simpa using hx.1,fun i hi=>by have:=hx.2 (i+1) (by simpa using hi);exact this⟩ (by rw [q11];exact ha.snoc h1) hk
   exact ⟨ys,g1,by simpa using g2⟩
theorem Ey {Q:lA->Prop}:∀(xs acc:lA),(∀i (hi:i<xs.length),ao xs[i]=[])->c6 m Q acc xs->Q (acc.reverse++xs)
 | [],acc,_,hk=>by simpa [c6] using hk
 |x::xs,acc,hl,hk=>by
  have h0:ao x=[]:=hl 0 (by simp);have:c6 m Q (x::acc) xs:=by simp only [c6] at hk;unfold fB at hk;split at hk<;>first|exact hk|(simp [ao] at h0;done)|exact hk.elim
  have:=Ey xs (x::acc) (fun i hi=>by have:=hl (i+1) (by simpa using hi);exact this) this;simpa using this
theorem JL {Q:lA->Prop}:∀(xs acc:lA),ay xs->dH m Q acc xs->Q (acc.reverse++xs)
 | [],acc,_,hk=>by simpa [dH] using hk
 |x::xs,acc,hl,hk=>by
  have h0:ao x=[]:=hl.1.1;have h0':aH x=false:=hl.1.2;have:dH m Q (x::acc) xs:=by
   simp only [dH] at hk;unfold iz at hk;split at hk
   . rename_i zs;have:=Ey zs [] (bK (by simpa [ao] using h0)) hk;simpa using this
   . simp [ao] at h0
   . cases h0'
   unfold fB at hk;split at hk<;>first|exact hk|(simp [ao] at h0;done)|exact hk.elim
  have:=JL xs (x::acc) hl.2 this;simpa using this
theorem RS.grown (h:RS B N φ fp S ts m a w) {w':World} (hg:Grown w w'):RS B N φ fp S ts m a w':=by
 have hs:∀l b,b∈fp l->w'.heap[b]? =w.heap[b]? :=fun l b hb=>hg.same b (h.cw l b hb).1;have hS:∀b,S b->w'.heap[b]? =w.heap[b]? :=fun b hb=>hg.same b (h.sB b hb).1;have hz:fH φ w w':=fun l b sh af cs e hl hb=>⟨cs,e,(hs l b (h.at_mem hl)).trans hb,rfl⟩
 exact {h with
  tm:=fun t=>(h.tm t).mono hS (fun _ h=>h) hz fun l af _=>LS.le_refl _ _
  aF:=fun l k hk=>(h.aF l k hk).mono hS (fun _ h=>h) hz (hs l) rfl fun _ _ _ _ _ _=>LS.le_refl _ _
  cw:=fun l b hb=>⟨q12 (h.cw l b hb).1 hg.size,(h.cw l b hb).2⟩
  sB:=fun b hb=>⟨q12 (h.sB b hb).1 hg.size,(h.sB b hb).2⟩
  base:=fun b hb hio=>(hg.same b (q12 hb h.size)).trans (h.base b hb hio)
  out:=h.out.trans hg.out
  ke:=h.ke.trans (je.of_same hg.same)
  jf:=h.jf.mono hS fun _ h=>h
  size:=Nat.le_trans h.size hg.size}
theorem RS.hold (h:RS B N φ fp S ts m a w) (T:Nat->Prop) (hT:∀b,T b->b<w.heap.size/\B.w0.heap.size<=b/\∀l,b∉fp l):RS B N φ fp (fun b=>S b\/T b) ts m a w:=by
 have hz:fH φ w w:=fun l b sh af cs e _ hb=>⟨cs,e,hb,rfl⟩
 exact {h with
  tm:=fun t=>(h.tm t).mono (fun _ _=>rfl) (fun _ h=>.inl h) hz fun l af _=>LS.le_refl _ _
  aF:=fun l k hk=>(h.aF l k hk).mono (fun _ _=>rfl) (fun _ h=>.inl h) hz (fun _ _=>rfl) rfl fun _ _ _ _ _ _=>LS.le_refl _ _
  bJ:=fun l b hb hs=>hs.elim (h.bJ l b hb) fun ht=>(hT b ht).2.2 l hb
  sB:=fun b hb=>hb.elim (h.sB b) fun ht=>⟨(hT b ht).1,.inl (hT b ht).2.1⟩
  jf:=h.jf.mono (fun _ _=>rfl) fun _ h=>.inl h
  }
structure oH (B:eO) (N:Nat) (φ φ':Nat->LS) (fp fp':Nat->lN) (S:Nat->Prop) (ts:Env) (m m':Mem) (a:Act) (w:World) (fs:lN):Prop where
 rs:RS B N φ' fp' S ts m' a w
 Vi:∀l b,b∈fp' l->b∈fp l\/b∈fs
 rv:∀z u,RV w S φ z u->(∀l af,(l,af)∈ao z->known m l af)->RV w S φ' z u
 kn:∀l af,known m l af->known m' l af
theorem oH.refl (h:RS B N φ fp S ts m a w) (fs:lN):oH B N φ φ fp fp S ts m m a w fs:=⟨h,fun _ _ h=>.inl h,fun _ _ h _=>h,fun _ _ h=>h⟩
theorem Ez (h:RS B N φ fp S ts m a w) {x:AV} {v:Value} {fs:lN} (hx:Own w (fun _=>False) x v fs) (hlf:leaf x) (hnd:fs.Nodup) (hfr:∀b,b∈fs->B.w0.heap.size<=b/\¬S b/\∀l,b∉fp l)
 (l:Nat) {k:AV->Mem->Prop} (hk:nV l x m k):
 ∃φ' fp' y m',oH B N φ φ' fp fp' S ts m m' a w fs/\k y m'/\leaf y/\RV w S φ' y v/\∀l af,(l,af)∈ao y->known m' l af:=by
 have other:(∀sh xs,x≠ .arr sh xs)->k x m->∃φ' fp' y m',oH B N φ φ' fp fp' S ts m m' a w fs/\k y m'/\leaf y/\RV w S φ' y v/\∀l af,(l,af)∈ao y->known m' l af:=by
  intro hna hk;have hrd:Rd w (fun _=>False) x v:=by
   cases hx with
   |rd _ _ h=>exact h
   |arr=>exact absurd rfl (hna _ _)
   |agg=>exact hlf.elim
   |aZ=>exact hlf.elim
  exact ⟨φ,fp,x,m,oH.refl h fs,hk,hlf,.rd _ _ (hrd.mono (fun _ _=>rfl) fun _ h=>h.elim),fun l af hl=>by rw [fX hrd] at hl;cases hl⟩
 cases x with
 |arr sh xs=>
  have kc:∀(x':LS) (fs':lN),(∀b,b∈fs'->b∈fs)->(∀af,known m l af->LS.le x' (φ l) af)->fs'.Nodup→
   BR w S (j1 φ l x') l fs' (.row (aB m l) sh true xs)->RV w S (j1 φ l x') (.ref l (aB m l) 0 xs.length) v→
   ∃φ' fp' y m',oH B N φ φ' fp fp' S ts m m' a w fs/\k y m'/\leaf y/\RV w S φ' y v/\∀l af,(l,af)∈ao y->known m' l af:=by
   intro x' fs' oo hle YZ hbr hrv
   have hRS:=h.next l x' fs' S (.row (aB m l) sh true xs) (Nat.le_refl _) (a7.refl _) (je.refl _) (fun _ _ _=>rfl) (fun b hb=>⟨hb,rfl⟩) (fun b h1 h2=>absurd h1 h2) (fun l b sh af cs e _ hb=>⟨cs,e,hb,rfl⟩) (fun _ _ _ _=>rfl)
    hle (fun af hv=>Nat.le_of_lt (e8 hv)) hbr (fun _ _ hx=>by cases hx) YZ (fun b hb=>⟨(hfr b (oo b hb)).2.1,fun l' _=>(hfr b (oo b hb)).2.2 l',hx.lt b (oo b hb),.inl (hfr b (oo b hb)).1⟩)
   have hkn:∀l' af,known m l' af->known ((l,.row (aB m l) sh true xs)::m) l' af:=by
    intro l' af hkk;by_cases e:l=l'
    . subst e;exact ⟨.row (aB m l) sh true xs,by simp [aw],Nat.le_of_lt (e8 hkk)⟩
    obtain ⟨k',h1,h2⟩:=hkk;exact ⟨k',by simp [aw,e,h1],h2⟩
   refine ⟨_,_,.ref l (aB m l) 0 xs.length,_,⟨hRS,?_,?_,hkn⟩,hk,trivial,hrv,?_⟩
   . intro l' b hb;by_cases e:l'=l
     . subst e;rw [az] at hb;exact .inr (oo b hb)
     rw [bp _ _ _ _ e] at hb;exact .inl hb
   . intro z u hz hl;refine hz.mono (fun _ _=>rfl) (fun _ h=>h) (fun l b sh af cs e _ hb=>⟨cs,e,hb,rfl⟩) fun l' af hl'=> ?_;by_cases e:l'=l
     . subst e;rw [az];exact hle af (hl _ af hl')
     rw [bp _ _ _ _ e];exact LS.le_refl _ _
   intro l' af hl;simp only [ao,q9,Prod.mk.injEq] at hl;obtain ⟨rfl,rfl⟩:=hl;exact ⟨_,by simp [aw];rfl,Nat.le_refl _⟩
  cases hx with
  |rd _ _ hrd=>
   cases hrd with
   |nil _ ad=>
    refine kc (.nil (aB m l)) [] (by simp) (fun af hv=>⟨fun _ _ h=>(by cases h),fun hh=> ?_⟩) (by simp) (.inl ⟨az _ _ _,rfl,rfl⟩) ?_
    . injection hh with hh;exact absurd (e8 hv) (by omega)
    refine .ref _ _ _ _ _ (fun b' sh' hb'=> ?_) (fun _=>⟨rfl,ad,rfl⟩) rfl;rw [az] at hb';cases hb'
   |arr _ _ b off cap cs e fr hS=>exact hS.elim
  |arr _ _ b cap cs e fss hb hc hl hm hf hs hv=>
   refine kc (.at b sh (aB m l)) (b::fss.flatten) (fun _ h=>h) (fun af hkk=>LS.kG _ _ _ _ _ (e8 hkk)) hnd (.inr ⟨b,cap,az _ _ _,List.mem_cons_self ..,by simp,.arr sh xs b cap cs e fss hb hc hl hm hf hs hv⟩) ?_;refine .ref _ _ _ _ _ (fun b' sh' hb'=> ?_) (fun hb'=> ?_) rfl
   . rw [az] at hb';cases hb';exact ⟨_,cap,rfl,hl,.inr ⟨by simp,cs,e,hb,by rw [hc,Nat.zero_add]⟩⟩
   rw [az] at hb';cases hb'
 |_=>exact other (fun _ _ e=>by cases e) hk
theorem N7 {fss:List lN} {f:lN} (h:(f::fss).flatten.Nodup):f.Nodup/\fss.flatten.Nodup/\∀b,b∈f->b∉fss.flatten:=by rw [List.flatten_cons] at h;exact ⟨(List.nodup_append.1 h).1,(List.nodup_append.1 h).2.1,fun b h1 h2=>(List.nodup_append.1 h).2.2 b h1 b h2 rfl⟩
theorem wX {one:Nat->AV->Mem->(AV->Mem->Prop)->Prop} {ok:AV->Prop} {step:Nat}
 (lB:∀(φ:Nat->LS) (fp:Nat->lN) (m:Mem),RS B N φ fp S ts m a w->∀(x:AV) (v:Value) (fs:lN),Own w (fun _=>False) x v fs->ok x->fs.Nodup->(∀b,b∈fs->B.w0.heap.size<=b/\¬S b/\∀l,b∉fp l)→
   ∀(l:Nat) (k:AV->Mem->Prop),one l x m k->∃φ' fp' y m',oH B N φ φ' fp fp' S ts m m' a w fs/\k y m'/\ok y/\RV w S φ' y v/\∀l af,(l,af)∈ao y->known m' l af)
 {Q:lA->Mem->Prop} {many:Nat->lA->Mem->lA->Prop} (jy:∀l acc m,many l acc m []->Q acc.reverse m) (G6:∀l acc m x r,many l acc m (x::r)->one l x m fun y m'=>many (l+step) (y::acc) m' r):
 ∀(xs:lA) (vs:List Value) (fss:List lN) (l:Nat) (acc:lA) (va:List Value) (φ:Nat->LS) (fp:Nat->lN) (m:Mem),RS B N φ fp S ts m a w→
  vs.length=xs.length->fss.length=xs.length->(∀i (h:i<xs.length),Own w (fun _=>False) xs[i] (vs.getD i Go.undef) (fss.getD i []))->(∀i (h:i<xs.length),ok xs[i])→
  fss.flatten.Nodup->(∀b,b∈fss.flatten->B.w0.heap.size<=b/\¬S b/\∀l,b∉fp l)→
  pq (fun x v=>ok x/\RV w S φ x v/\∀l af,(l,af)∈ao x->known m l af) acc.reverse va->many l acc m xs→
  ∃φ' fp' m' ys,RS B N φ' fp' S ts m' a w/\(∀l b,b∈fp' l->b∈fp l\/b∈fss.flatten)/\(∀z u,RV w S φ z u->(∀l af,(l,af)∈ao z->known m l af)->RV w S φ' z u)/\(∀l af,known m l af->known m' l af)∧
   Q ys m'/\pq (fun x v=>ok x/\RV w S φ' x v/\∀l af,(l,af)∈ao x->known m' l af) ys (va++vs)
 | [],vs,fss,l,acc,va,φ,fp,m,h,hv,_,_,_,_,_,ha,hk=>by
   have:vs=[]:=q2 hv;subst this;exact ⟨φ,fp,m,_,h,fun _ _ h=>.inl h,fun _ _ h _=>h,fun _ _ h=>h,jy l acc m hk,by simpa using ha⟩
 |x::xs,vs,fss,l,acc,va,φ,fp,m,h,hv,hf,ho,hok,hnd,hfr,ha,hk=>by
  cases vs with
  |nil=>simp at hv
  |cons v vs=>
   cases fss with
   |nil=>simp at hf
   |cons f fss=>
    obtain ⟨n1,n2,n3⟩:=N7 hnd;have ho0:=ho 0 (by simp);obtain ⟨φ1,fp1,y,m1,hm,hk1,hy1,hy2,hy3⟩:=lB φ fp m h x v f ho0 (hok 0 (by simp)) n1 (fun b hb=>hfr b (by simp [hb])) l _ (G6 l acc m x xs hk);have ha1:pq (fun x v=>ok x/\RV w S φ1 x v/\∀l af,(l,af)∈ao x->known m1 l af) (y::acc).reverse (va++[v]):=by rw [q11];refine pq.snoc ⟨ha.1,fun i hi=> ?_⟩ ⟨hy1,hy2,hy3⟩;obtain ⟨q1,q2,q3⟩:=ha.2 i hi;exact ⟨q1,hm.rv _ _ q2 q3,fun l af hl=>hm.kn l af (q3 l af hl)⟩
    obtain ⟨φ2,fp2,m2,ys,g1,g2,g3,g4,g5,g6⟩:=wX lB jy G6 xs vs fss (l+step) (y::acc) (va++[v]) φ1 fp1 m1 hm.rs (by simpa using hv) (by simpa using hf)
     (fun i hi=>by have:=ho (i+1) (by simpa using hi);exact this) (fun i hi=>by have:=hok (i+1) (by simpa using hi);exact this) n2
     (fun b hb=>by
       obtain ⟨q1,q2,q3⟩:=hfr b (by simp only [List.flatten_cons,List.mem_append];exact .inr hb);refine ⟨q1,q2,fun l hl=> ?_⟩;rcases hm.Vi l b hl with hh|hh
       . exact q3 l hh
       exact n3 b hh hb) ha1 hk1
    refine ⟨φ2,fp2,m2,ys,g1,fun l b hb=> ?_,fun z u hz hl=>g3 z u (hm.rv z u hz hl) fun l af h=>hm.kn l af (hl l af h),fun l af h=>g4 l af (hm.kn l af h),g5,by simpa using g6⟩;rcases g2 l b hb with hh|hh
    . rcases hm.Vi l b hh with h3|h3
      . exact .inl h3
      exact .inr (by simp [h3])
    exact .inr (by simp only [List.flatten_cons,List.mem_append];exact .inr hh)
theorem CD {S:Nat->Prop} {xs:lA} {v:Value} {fs:lN} (h:Own w S (.agg xs) v fs):∃(cs:aV) (fss:List lN),v= .agg cs/\fs=fss.flatten/\cs.size=xs.length/\(∀i (h:i<xs.length),leaf xs[i])/\fss.length=xs.length∧
 ∀i (h:i<xs.length),Own w S xs[i] (cs.toList.getD i Go.undef) (fss.getD i []):=by
 cases h with
 |rd _ _ h=>
  obtain ⟨cs,rfl,h1,h2,h3⟩:=oz h;refine ⟨cs,List.replicate xs.length [],rfl,(List.flatten_eq_nil_iff.2 fun l hl=>(List.mem_replicate.1 hl).2).symm,h1,h2,by simp,fun i hi=> ?_⟩;rw [show (List.replicate xs.length ([]:lN)).getD i []=[] by simp [q3,hi]];exact .rd _ _ (h3 i hi)
 |agg _ cs fss h1 h2 h3 h4=>exact ⟨cs,fss,rfl,rfl,h1,h2,h3,h4⟩
theorem JM {S:Nat->Prop} {xs:lA} {v:Value} {fs:lN} (h:Own w S (.aZ xs) v fs):∃(cs:aV) (fss:List lN),v= .tuple cs/\fs=fss.flatten/\cs.size=xs.length/\fss.length=xs.length∧
 ∀i (h:i<xs.length),Own w S xs[i] (cs.toList.getD i Go.undef) (fss.getD i []):=by
 cases h with
 |rd _ _ h=>
  cases h with
  |aZ _ cs h1 h3=>
  refine ⟨cs,List.replicate xs.length [],rfl,(List.flatten_eq_nil_iff.2 fun l hl=>(List.mem_replicate.1 hl).2).symm,h1,by simp,fun i hi=> ?_⟩;rw [show (List.replicate xs.length ([]:lN)).getD i []=[] by simp [q3,hi]];exact .rd _ _ (h3 i hi)
 |aZ _ cs fss h1 h3 h4=>exact ⟨cs,fss,rfl,rfl,h1,h3,h4⟩
theorem EA (h:RS B N φ fp S ts m a w) {x:AV} {v:Value} {fs:lN} (hx:Own w (fun _=>False) x v fs) (hnd:fs.Nodup) (hfr:∀b,b∈fs->B.w0.heap.size<=b/\¬S b/\∀l,b∉fp l)
 (l:Nat) {k:AV->Mem->Prop} (hk:nW l x m k) (hnt:∀xs,x≠ .aZ xs):
 ∃φ' fp' y m',oH B N φ φ' fp fp' S ts m m' a w fs/\k y m'/\RV w S φ' y v/\∀l af,(l,af)∈ao y->known m' l af:=by
 have fin:leaf x->nV l x m k->∃φ' fp' y m',oH B N φ φ' fp fp' S ts m m' a w fs/\k y m'/\RV w S φ' y v/\∀l af,(l,af)∈ao y->known m' l af:=by intro hlf hk;obtain ⟨φ',fp',y,m',g1,g2,_,g3,g4⟩:=Ez h hx hlf hnd hfr l hk;exact ⟨φ',fp',y,m',g1,g2,g3,g4⟩
 cases x with
 |agg xs=>
  obtain ⟨cs,fss,rfl,rfl,h1,h2,h3,h4⟩:=CD hx
  obtain ⟨φ',fp',m',ys,g1,g2,g3,g4,g5,g6⟩:=wX (one:=nV) (ok:=leaf) (step:=1) (Q:=fun ys m'=>k (.agg ys) m') (many:=fun l acc m xs=>qa (fun ys m'=>k (.agg ys) m') l acc m xs)
   (fun φ fp m hRS x v fs ho hlf hn hf l k hk=>Ez hRS ho hlf hn hf l hk) (fun _ _ _ h=>h) (fun _ _ _ _ _ h=>h) xs cs.toList fss l [] [] φ fp m h (by simpa using h1) h3 h4 h2 hnd hfr ⟨rfl,fun i hi=>absurd hi (q13 _)⟩ hk
  refine ⟨φ',fp',.agg ys,m',⟨g1,g2,g3,g4⟩,g5,.agg ys cs (by simpa using g6.1) (fun i hi=>(g6.2 i hi).1) (fun i hi=>(g6.2 i hi).2.1),?_⟩;intro l af hl;obtain ⟨i,hi,hl'⟩:=b8 (by simpa [ao] using hl);exact (g6.2 i hi).2.2 l af hl'
 |aZ xs=>exact absurd rfl (hnt xs)
 |undef=>
  cases hx with
  |rd _ _ hr=>exact ⟨φ,fp,.undef,m,oH.refl h _,hk,.rd _ _ (.undef _),fun _ _ hl=>by cases hl⟩
 |_=>exact fin trivial hk
theorem CE (h:RS B N φ fp S ts m a w) {x:AV} {v:Value} {fs:lN} (hx:Own w (fun _=>False) x v fs) (hnd:fs.Nodup) (hfr:∀b,b∈fs->B.w0.heap.size<=b/\¬S b/\∀l,b∉fp l)
 (l:Nat) {k:AV->Mem->Prop} (hk:nf l x m k):
 ∃φ' fp' y m',oH B N φ φ' fp fp' S ts m m' a w fs/\k y m'/\RV w S φ' y v/\∀l af,(l,af)∈ao y->known m' l af:=by
 cases x with
 |aZ xs=>
  obtain ⟨cs,fss,rfl,rfl,h1,h3,h4⟩:=JM hx;simp only [nf] at hk
  obtain ⟨φ',fp',m',ys,g1,g2,g3,g4,g5,g6⟩:=wX (one:=nW) (ok:=fun _=>True) (step:=16) (Q:=fun ys m'=>k (.aZ ys) m') (many:=fun l acc m xs=>l9 (fun ys m'=>k (.aZ ys) m') l acc m xs)
   (fun φ fp m hRS x v fs ho _ hn hf l k hk=>by
     by_cases hnt:∃zs,x= .aZ zs
     . obtain ⟨zs,rfl⟩:=hnt;exact hk.elim
     obtain ⟨φ',fp',y,m',q1,q2,q3,q4⟩:=EA hRS ho hn hf l hk fun zs e=>hnt ⟨zs,e⟩
     exact ⟨φ',fp',y,m',q1,q2,trivial,q3,q4⟩) (fun _ _ _ h=>h) (fun _ _ _ _ _ h=>h) xs cs.toList fss l [] [] φ fp m h (by simpa using h1) h3 h4 (fun _ _=>trivial) hnd hfr ⟨rfl,fun i hi=>absurd hi (q13 _)⟩ hk
  refine ⟨φ',fp',.aZ ys,m',⟨g1,g2,g3,g4⟩,g5,.aZ ys cs (by simpa using g6.1) (fun i hi=>(g6.2 i hi).2.1),?_⟩;intro l af hl;obtain ⟨i,hi,hl'⟩:=b8 (by simpa [ao] using hl);exact (g6.2 i hi).2.2 l af hl'
 |_=>exact EA h hx hnd hfr l hk (fun _ e=>by cases e)
def uI (l:Nat) (φ:Nat->LS) (k:Nat):LS:=if k=l then .dead else φ k
def Hp (l:Nat) (fp:Nat->lN) (k:Nat):lN:=if k=l then [] else fp k
theorem rJ {l k:Nat} {φ:Nat->LS} (h:k≠l):uI l φ k=φ k:=if_neg h
theorem JN {l k:Nat} {fp:Nat->lN} (h:k≠l):Hp l fp k=fp k:=if_neg h
theorem rK {l k b:Nat} {fp:Nat->lN} (h:b∈Hp l fp k):k≠l/\b∈fp k:=by
 unfold Hp at h;split at h
 . cases h
 exact ⟨‹_›,h⟩
theorem RS.Yh (h:RS B N φ fp S ts m a w) {l v:Nat} {b0:bh} (hl:l<bG) (hm:aj m l=some b0) (hv:b0.af=v):
 RS B N (uI l φ) (Hp l fp) (fun b=>S b\/b∈fp l) ts ((l,.gone v)::m) a w:=by
 have hz:fH φ w w:=fun l b sh af cs e _ hb=>⟨cs,e,hb,rfl⟩;have hle:∀k af,LS.le (uI l φ k) (φ k) af:=fun k af=>by
  unfold uI;split
  . exact LS.pf _ _
  exact LS.le_refl _ _
 have hkn:∀k af,known m k af->known ((l,.gone v)::m) k af:=by
  rintro k af ⟨b,h1,h2⟩;by_cases e:k=l
  . subst e;rw [hm] at h1;injection h1 with h1;subst h1
    exact ⟨.gone v,by rw [aw,if_pos rfl],by show af<=v;omega⟩
  exact ⟨b,by rw [aw,if_neg (Ne.symm e)];exact h1,h2⟩
 refine {tm:=fun t=>(h.tm t).mono (fun _ _=>rfl) (fun _ h=>.inl h) hz fun k af _=>hle k af,tl:=fun t k af hk=>hkn k af (h.tl t k af hk),bU:=fun k hk=> ?_,aF:=fun k b hb=> ?_,bl:=fun k v' xs hb k' af hk=> ?_,
         gK:=fun k=> ?_,e7:=fun k k' b h1 h2=>h.e7 k k' b (rK h1).2 (rK h2).2,bJ:=fun k b hb=> ?_,cw:=fun k b hb=>h.cw k b (rK hb).2,sB:=fun b hb=> ?_,base:=h.base,out:=h.out,ke:=h.ke,
         kn:=fun k af hk hk2=>hkn k af (h.kn k af hk hk2),fix:=fun k af hk hk2=>LS.le_trans (hle k af) (h.fix k af hk hk2),size:=h.size,defers:=h.defers,kv:=h.kv,jf:=h.jf.mono (fun _ _=>rfl) fun _ h=>.inl h}
 . rw [aw] at hk;split at hk
   . cases hk
   rename_i e;rw [rJ (Ne.symm e),JN (Ne.symm e)];exact h.bU k hk
 . rw [aw] at hb;split at hb
   . rename_i e;subst e;injection hb with hb
     subst hb;exact ⟨by unfold uI;rw [if_pos rfl],by unfold Hp;rw [if_pos rfl]⟩
   rename_i e;rw [JN (Ne.symm e)];exact (h.aF k b hb).mono (fun _ _=>rfl) (fun _ h=>.inl h) hz (fun _ _=>rfl) (rJ (Ne.symm e)) fun v' xs _ k' af _=>hle k' af
 . rw [aw] at hb;split at hb
   . cases hb
   exact hkn k' af (h.bl k v' xs hb k' af hk)
 . unfold Hp;split
   . exact q10
   exact h.gK k
 . obtain ⟨h1,h2⟩:=rK hb;rintro (hs|hs)
   . exact h.bJ k b h2 hs
   exact h1 (h.e7 k l b h2 hs)
 rcases hb with hb|hb
 . exact h.sB b hb
 refine ⟨(h.cw l b hb).1,?_⟩;rcases (h.cw l b hb).2 with hh|⟨_,_,hh,_⟩
 . exact .inl hh
 exact absurd hl (Nat.not_lt.2 hh)
theorem CF (h:RS B N φ fp S ts m a w) {l v i n:Nat} {sh:Sh} {d:Bool} {xs:lA} {u:Value} (hl:l<bG) (hm:aj m l=some (.row v sh d xs)) (hn:i+n<=xs.length) (hu:RV w S φ (.ref l v i n) u):
 Rd w (fun b=>S b\/b∈fp l) (.arr sh ((xs.drop i).take n)) u:=by
 have hr:=dt hu;have hlen:((xs.drop i).take n).length=n:=by simp;omega
 rcases h.aF l _ hm with ⟨h1,h2,h3⟩|⟨b,cap,hφ,hbm,hdp,bd⟩
 . obtain ⟨rfl,ad,rfl⟩:=hr.2 h1;rw [List.take_zero];exact .nil _ _
 obtain ⟨ad,cp,rfl,hnc,hcp⟩:=hr.1 b sh hφ;obtain ⟨cs,e,fss,hgf,aE,hcs,cj,hmx,hff,hfl,hvv⟩:=gG bd hbm;by_cases hc0:cp=0
 . have:n=0:=by omega
   subst this;subst hc0;rw [List.take_zero];exact .nil _ _
 obtain ⟨rfl,cs',e',g1,g2⟩:=hcp.resolve_left hc0;obtain rfl:=df (aE.symm.trans g1);have ck:i*sh.sz+n*sh.sz<=cs.size:=by rw [g2,←Nat.add_mul];exact Nat.mul_le_mul_right _ (by omega)
 have:=Rd.arr (w:=w) (S:=fun b=>S b\/b∈fp l) sh ((xs.drop i).take n) b (i*sh.sz) cp cs e.1 (n9 e cs.size) (.inr hbm) aE (by rw [hlen];exact hnc) (by rw [hlen];exact ck)
  (fun q hq=>by rw [hlen] at hq;simp only [q8,q6];exact hff _ (by omega))
  (fun q hq=>by
    rw [hlen] at hq;simp only [q8,q6]
    have:=(hvv (i+q) (by omega)).mh (S':=fun b=>S b\/b∈fp l) (fun c hc=>by
     cases d with
     |true=>exact hc.elim
     |false=>exact .inl hc) (fun c hc=>.inr (by rw [hgf];exact List.mem_cons_of_mem _ (aJ (by omega) hc)))
    rwa [Nat.add_mul] at this)
 rw [hlen] at this;exact this
def rL (l v i n:Nat) (b:Option bh) (m:Mem) (k:AV->Mem->Prop):Prop:=match b with
 |some (.row v' sh _ ys)=>v'=v/\l<bG/\i+n<=ys.length/\k (.arr sh ((ys.drop i).take n)) ((l,.gone v)::m)
 |_=>False
@[congr] theorem T9 {l v i n:Nat} {b b':Option bh} {m:Mem} {k:AV->Mem->Prop} (h:b=b'):rL l v i n b m k=rL l v i n b' m k:=by rw [h]
theorem AM (l v i n:Nat) (sh:Sh) (d:Bool) (ys:lA) (m:Mem) (k:AV->Mem->Prop):rL l v i n (some (.row v sh d ys)) m k=(l<1000000000/\i+n<=ys.length/\k (.arr sh ((ys.drop i).take n)) ((l,.gone v)::m)):=by simp [rL,bG]
def mw (x:AV) (m:Mem) (k:AV->Mem->Prop):Prop:=match x with
 | .ref l v i n=>rL l v i n (aj m l) m k
 |x=>k x m
@[congr] theorem Ua {x x':AV} {m:Mem} {k:AV->Mem->Prop} (h:x=x'):mw x m k=mw x' m k:=by rw [h]
theorem AN (l v i n:Nat) (m:Mem) (k:AV->Mem->Prop):mw (.ref l v i n) m k=rL l v i n (aj m l) m k:=rfl
theorem AO (v:Value) (m:Mem) (k:AV->Mem->Prop):mw (.val v) m k=k (.val v) m:=rfl
theorem AP (sh:Sh) (xs:lA) (m:Mem) (k:AV->Mem->Prop):mw (.arr sh xs) m k=k (.arr sh xs) m:=rfl
def ng (k:lA->Mem->Prop):lA->Mem->lA->Prop
 |acc,m,[]=>k acc.reverse m
 |acc,m,x::r=>mw x m fun y m'=>ng k (y::acc) m' r
theorem wY (k:lA->Mem->Prop) (acc:lA) (m:Mem):ng k acc m []=k acc.reverse m:=rfl
theorem uJ (k:lA->Mem->Prop) (acc:lA) (m:Mem) (x:AV) (r:lA):ng k acc m (x::r)=mw x m fun y m'=>ng k (y::acc) m' r:=rfl
def lG (x:AV) (m:Mem) (k:AV->Mem->Prop):Prop:=match x with
 | .agg xs=>ng (fun ys m'=>k (.agg ys) m') [] m xs
 |x=>mw x m k
@[congr] theorem Ub {x x':AV} {m:Mem} {k:AV->Mem->Prop} (h:x=x'):lG x m k=lG x' m k:=by rw [h]
theorem AQ (xs:lA) (m:Mem) (k:AV->Mem->Prop):lG (.agg xs) m k=ng (fun ys m'=>k (.agg ys) m') [] m xs:=rfl
theorem AR (l v i n:Nat) (m:Mem) (k:AV->Mem->Prop):lG (.ref l v i n) m k=rL l v i n (aj m l) m k:=rfl
theorem AS (v:Value) (m:Mem) (k:AV->Mem->Prop):lG (.val v) m k=k (.val v) m:=rfl
theorem AT (sh:Sh) (xs:lA) (m:Mem) (k:AV->Mem->Prop):lG (.arr sh xs) m k=k (.arr sh xs) m:=rfl
def qb (k:List (Nat × AV)->Mem->Prop):List (Nat × AV)->Mem->List (Nat × AV)->Prop
 |acc,m,[]=>k acc.reverse m
 |acc,m,(i,x)::r=>lG x m fun y m'=>qb k ((i,y)::acc) m' r
theorem AU (k:List (Nat × AV)->Mem->Prop) (acc:List (Nat × AV)) (m:Mem):qb k acc m []=k acc.reverse m:=rfl
theorem wZ (k:List (Nat × AV)->Mem->Prop) (acc:List (Nat × AV)) (m:Mem) (i:Nat) (x:AV) (r:List (Nat × AV)):qb k acc m ((i,x)::r)=lG x m fun y m'=>qb k ((i,y)::acc) m' r:=rfl
def iO (k:lA->Mem->Prop):lA->Mem->lA->Prop
 |acc,m,[]=>k acc.reverse m
 |acc,m,x::r=>lG x m fun y m'=>iO k (y::acc) m' r
theorem w8 (k:lA->Mem->Prop) (acc:lA) (m:Mem):iO k acc m []=k acc.reverse m:=rfl
theorem uK (k:lA->Mem->Prop) (acc:lA) (m:Mem) (x:AV) (r:lA):iO k acc m (x::r)=lG x m fun y m'=>iO k (y::acc) m' r:=rfl
def gI (ti:TI) (d n:Nat) (parts:List (Nat × AV)) (m:Mem) (k:AV->Mem->Prop):Prop:=qb (fun ps m'=>iy ti d n ps m' k) [] m parts
theorem nY (ti:TI) (d n:Nat) (parts:List (Nat × AV)) (m:Mem) (k:AV->Mem->Prop):gI ti d n parts m k=qb (fun ps m'=>iy ti d n ps m' k) [] m parts:=rfl
structure EB (B:eO) (N:Nat) (φ φ':Nat->LS) (S S':Nat->Prop) (fp':Nat->lN) (ts:Env) (m':Mem) (a:Act) (w:World):Prop where
 rs:RS B N φ' fp' S' ts m' a w
 rv:∀z u,RV w S φ z u->RV w S' φ' z u
theorem EC (h:RS B N φ fp S ts m a w) {x:AV} {u:Value} (hu:RV w S φ x u) {k:AV->Mem->Prop} (hk:mw x m k):∃φ' fp' S' m' y,EB B N φ φ' S S' fp' ts m' a w/\RV w S' φ' y u/\(leaf x->leaf y)/\k y m':=by
 unfold mw at hk;split at hk
 . rename_i l v i n;unfold rL at hk;split at hk
   . rename_i v' sh d ys hlk;obtain ⟨rfl,hl,hn,hk⟩:=hk;refine ⟨_,_,_,_,_,⟨h.Yh hl hlk (v:=v') rfl,fun z u hz=>hz.mono (fun _ _=>rfl) (fun _ h=>.inl h) (fun l b sh af cs e _ hb=>⟨cs,e,hb,rfl⟩) fun k af _=> ?_⟩,.rd _ _ (CF h hl hlk hn hu),fun _=>trivial,hk⟩;unfold uI;split
     . exact LS.pf _ _
     exact LS.le_refl _ _
   exact hk.elim
 exact ⟨φ,fp,S,m,x,⟨h,fun _ _ h=>h⟩,hu,id,hk⟩
theorem AW {Q:lA->Mem->Prop}:∀(xs:lA) (vs:List Value) (acc:lA) (va:List Value) {φ:Nat->LS} {fp:Nat->lN} {S:Nat->Prop} {m:Mem},RS B N φ fp S ts m a w->vs.length=xs.length->(∀i (h:i<xs.length),leaf xs[i]/\RV w S φ xs[i] (vs.getD i Go.undef))→
 pq (fun x v=>RV w S φ x v/\leaf x) acc.reverse va->ng Q acc m xs->∃φ' fp' S' m' ys,EB B N φ φ' S S' fp' ts m' a w/\pq (fun x v=>RV w S' φ' x v/\leaf x) ys (va++vs)/\Q ys m'
 | [],vs,acc,va,φ,fp,S,m,h,hl,_,ha,hk=>by
   have:vs=[]:=q2 hl;subst this;exact ⟨φ,fp,S,m,_,⟨h,fun _ _ h=>h⟩,by simpa using ha,hk⟩
 |x::xs,vs,acc,va,φ,fp,S,m,h,hl,hx,ha,hk=>by
  cases vs with
  |nil=>simp at hl
  |cons v vs=>
   obtain ⟨hx1,hx2⟩:=hx 0 (by simp);obtain ⟨φ1,fp1,S1,m1,y,g1,g2,g3,g4⟩:=EC h (show RV w S φ x v from hx2) hk
   obtain ⟨φ2,fp2,S2,m2,ys,q1,q2,q3⟩:=AW xs vs (y::acc) (va++[v]) g1.rs (by simpa using hl) (fun i hi=>by
    have:=hx (i+1) (by simpa using hi)
    exact ⟨this.1,g1.rv _ _ this.2⟩) (by
    rw [q11]
    exact pq.snoc ⟨ha.1,fun i hi=>⟨g1.rv _ _ (ha.2 i hi).1,(ha.2 i hi).2⟩⟩ ⟨g2,g3 hx1⟩) g4
   exact ⟨φ2,fp2,S2,m2,ys,⟨q1.rs,fun z u hz=>q1.rv _ _ (g1.rv _ _ hz)⟩,by simpa using q2,q3⟩
theorem ED (h:RS B N φ fp S ts m a w) {x:AV} {u:Value} (hu:RV w S φ x u) {k:AV->Mem->Prop} (hk:lG x m k):∃φ' fp' S' m' y,EB B N φ φ' S S' fp' ts m' a w/\RV w S' φ' y u/\k y m':=by
 unfold lG at hk;split at hk
 . rename_i xs;obtain ⟨cs,rfl,h1,h2,h3⟩:=na hu;obtain ⟨φ',fp',S',m',ys,g1,g2,g3⟩:=AW xs cs.toList [] [] h (by simpa using h1) (fun i hi=>⟨h2 i hi,h3 i hi⟩) ⟨rfl,fun i hi=>absurd hi (q13 _)⟩ hk;refine ⟨φ',fp',S',m',_,g1,.agg ys cs (by simpa using g2.1) (fun i hi=>(g2.2 i hi).2) (fun i hi=>(g2.2 i hi).1),g3⟩
 obtain ⟨φ',fp',S',m',y,g1,g2,_,g3⟩:=EC h hu hk;exact ⟨φ',fp',S',m',y,g1,g2,g3⟩
theorem pr {Q:lA->Mem->Prop}:∀(xs:lA) (vs:List Value) (acc:lA) (va:List Value) {φ:Nat->LS} {fp:Nat->lN} {S:Nat->Prop} {m:Mem},RS B N φ fp S ts m a w->pq (RV w S φ) xs vs→
 pq (RV w S φ) acc.reverse va->iO Q acc m xs->∃φ' fp' S' m' ys,EB B N φ φ' S S' fp' ts m' a w/\pq (RV w S' φ') ys (va++vs)/\Q ys m'
 | [],vs,acc,va,φ,fp,S,m,h,hx,ha,hk=>by
   have:vs=[]:=q2 hx.1;subst this;exact ⟨φ,fp,S,m,_,⟨h,fun _ _ h=>h⟩,by simpa using ha,hk⟩
 |x::xs,vs,acc,va,φ,fp,S,m,h,hx,ha,hk=>by
  cases vs with
  |nil=>have:=hx.1;simp at this
  |cons v vs=>
   have hx2:=hx.2 0 (by simp);obtain ⟨φ1,fp1,S1,m1,y,g1,g2,g4⟩:=ED h (show RV w S φ x v from hx2) hk
   obtain ⟨φ2,fp2,S2,m2,ys,q1,q2,q3⟩:=pr xs vs (y::acc) (va++[v]) g1.rs ⟨by simpa using hx.1,fun i hi=>by
    have:=hx.2 (i+1) (by simpa using hi)
    exact g1.rv _ _ this⟩ (by
    rw [q11]
    exact pq.snoc ⟨ha.1,fun i hi=>g1.rv _ _ (ha.2 i hi)⟩ g2) g4
   exact ⟨φ2,fp2,S2,m2,ys,⟨q1.rs,fun z u hz=>q1.rv _ _ (g1.rv _ _ hz)⟩,by simpa using q2,q3⟩
theorem JO {R:AV->Value->Prop} {i:Nat} {x:AV} {v:Value} (hx:R x v):∀(ps:List (Nat × AV)) (vs:List (Nat × Value)),PR R ps vs->PR R (ps++[(i,x)]) (vs++[(i,v)])
 | [],[],_=>⟨rfl,hx,trivial⟩
 |(j,y)::r,(j',u)::s,⟨h1,h2,h3⟩=>⟨h1,h2,JO hx r s h3⟩
 | [],_::_,h=>h.elim
 |_::_,[],h=>h.elim
theorem CG {R R':AV->Value->Prop} (hR:∀x v,R x v->R' x v):∀(ps:List (Nat × AV)) (vs:List (Nat × Value)),PR R ps vs->PR R' ps vs
 | [],[],_=>trivial
 |(j,y)::r,(j',u)::s,⟨h1,h2,h3⟩=>⟨h1,hR _ _ h2,CG hR r s h3⟩
 | [],_::_,h=>h.elim
 |_::_,[],h=>h.elim
theorem EE {Q:List (Nat × AV)->Mem->Prop}:∀(ps:List (Nat × AV)) (vs:List (Nat × Value)) (acc:List (Nat × AV)) (va:List (Nat × Value)) {φ:Nat->LS} {fp:Nat->lN} {S:Nat->Prop} {m:Mem},RS B N φ fp S ts m a w->PR (RV w S φ) ps vs→
 PR (RV w S φ) acc.reverse va->qb Q acc m ps->∃φ' fp' S' m' qs,EB B N φ φ' S S' fp' ts m' a w/\PR (RV w S' φ') qs (va++vs)/\Q qs m'
 | [],[],acc,va,φ,fp,S,m,h,_,ha,hk=>⟨φ,fp,S,m,_,⟨h,fun _ _ h=>h⟩,by simpa using ha,hk⟩
 |(i,x)::r,(j,v)::s,acc,va,φ,fp,S,m,h,⟨e,hx,hr⟩,ha,hk=>by
  subst e;obtain ⟨φ1,fp1,S1,m1,y,g1,g2,g4⟩:=ED h hx hk
  obtain ⟨φ2,fp2,S2,m2,qs,q1,q2,q3⟩:=EE r s ((i,y)::acc) (va++[(i,v)]) g1.rs (CG g1.rv _ _ hr) (by
   rw [q11]
   exact JO g2 _ _ (CG g1.rv _ _ ha)) g4
  exact ⟨φ2,fp2,S2,m2,qs,⟨q1.rs,fun z u hz=>q1.rv _ _ (g1.rv _ _ hz)⟩,by simpa using q2,q3⟩
 | [],_::_,_,_,_,_,_,_,_,h,_,_=>h.elim
 |_::_,[],_,_,_,_,_,_,_,h,_,_=>h.elim
theorem vD {t:TypeId} {tt ti:TI} (htt:aK P t=some tt) (hks:tt.kind= .slice) (ht:aK P tt.elem=some ti) (h:RS B N φ fp S ts m a w) {parts:List (Nat × AV)} {vparts:List (Nat × Value)} (hp:PR (RV w S φ) parts vparts) (d n:Nat)
 {k:AV->Mem->Prop} (hk:gI ti d n parts m k):iI B N a (fun x ts' m'=>ts'=ts/\k x m') ((Instr.buildSlice t n vparts.toArray).run P w):=by
 obtain ⟨φ',fp',S',m',qs,g1,g2,g3⟩:=EE parts vparts [] [] h hp trivial hk;exact vC htt hks ht g1.rs g2 d n g3
def s0 (d:Nat) (x:AV) (m:Mem) (k:AV->Mem->Prop):Prop:=match x with
 | .val (.string s)=>s.data.size<=1048576/\k (.ref d (aB m d) 0 s.data.size) ((d,.row (aB m d) ⟨1,false⟩ true (s.data.toList.map fun b=>.val (.int .u8 b.toNat)))::m)
 |_=>False
@[congr] theorem RW {d:Nat} {x x':AV} {m:Mem} {k:AV->Mem->Prop} (h:x=x'):s0 d x m k=s0 d x' m k:=by rw [h]
theorem KU (h:RS B N φ fp S ts m a w) {src t e:TypeId} (hs:P.underlying src=some .string) (hd:P.underlying t=some (.slice e)) (he:P.underlying e=some (.int .u8)) {s:ByteArray} (hl:s.data.size<=1048576) (d:Nat)
 {k:AV->Mem->Prop} (hk:k (.ref d (aB m d) 0 s.data.size) ((d,.row (aB m d) ⟨1,false⟩ true (s.data.toList.map fun b=>.val (.int .u8 b.toNat)))::m)):
 iI B N a (fun x ts' m'=>ts'=ts/\k x m') ((convert src t (.string s)).run P w):=by
 refine ⟨_,_,run_bytes_of_string w src t e s hs hd he,?_⟩;have hsz:s.size=s.data.size:=rfl;have hge:=grownCap_ge w s.size 0 e;have hle:grownCap w s.size 0 e<=maxLen:=grownCap_le_maxLen w _ _ _ (by unfold maxLen;omega);generalize grownCap w s.size 0 e=gc at hge hle ⊢;have hC:(bytesRow s gc).size=gc:=by simp [bytesRow];omega
 have hg:∀i (hi:i<s.data.size),(bytesRow s gc).toList.getD i Go.undef= .int .u8 (s.data.toList[i]'(by simpa using hi)).toNat:=by intro i hi;rw [q3,q1];unfold bytesRow;rw [Array.getElem?_append_left (by simpa using hi)];have hi2:i<s.data.size:=hi;simp only [Array.getElem?_map,q0 hi2,Option.map_some,Option.getD_some,Array.getElem_toList]
 have iu:(w.drew.alloc (.cells (bytesRow s gc) e ((bytesRow s gc).size,(bytesRow s gc).size+1))).heap[w.heap.size]? =some (eo (bytesRow s gc) (e,true)):=Hd w.drew _;have hold:∀b,b<w.heap.size->(w.drew.alloc (.cells (bytesRow s gc) e ((bytesRow s gc).size,(bytesRow s gc).size+1))).heap[b]? =w.heap[b]? :=fun b hb=>JB w.drew _ b hb;have hws:(w.drew.alloc (.cells (bytesRow s gc) e ((bytesRow s gc).size,(bytesRow s gc).size+1))).heap.size=w.heap.size+1:=by simp
 have hso:a7 w (w.drew.alloc (.cells (bytesRow s gc) e ((bytesRow s gc).size,(bytesRow s gc).size+1))):=⟨rfl,rfl,rfl⟩;generalize w.drew.alloc (.cells (bytesRow s gc) e ((bytesRow s gc).size,(bytesRow s gc).size+1))=w' at iu hold hws hso ⊢;generalize bytesRow s gc=C at iu hC hg;have hlen:(s.data.toList.map fun b=>AV.val (.int .u8 b.toNat)).length=s.data.size:=by simp
 have bd:Own w' (if true=true then fun _=>False else S) (.arr ⟨1,false⟩ (s.data.toList.map fun b=>AV.val (.int .u8 b.toNat))) (.slice (some ⟨w.heap.size,0,none⟩) (s.data.toList.map fun b=>AV.val (.int .u8 b.toNat)).length gc) [w.heap.size]:=by
  have e1:[w.heap.size]=w.heap.size::(List.replicate (s.data.toList.map fun b=>AV.val (.int .u8 b.toNat)).length ([]:lN)).flatten:=by congr 1;exact (List.flatten_eq_nil_iff.2 fun l hl=>(List.mem_replicate.1 hl).2).symm
  rw [e1];refine .arr ⟨1,false⟩ _ w.heap.size gc C (e,true) _ iu (by rw [hC,Nat.mul_one]) (by rw [hlen];omega) hle (fun i hi=> ?_) (by simp) fun i hi=> ?_
  . rw [List.getElem_map];exact ⟨rfl,rfl⟩
  rw [hlen] at hi;rw [aW,Nat.mul_one,hg i hi,List.getElem_map];have e2:(List.replicate (s.data.toList.map fun b=>AV.val (.int .u8 b.toNat)).length ([]:lN)).getD i []=[]:=by rw [q3,List.getElem?_replicate];split<;>rfl
  rw [e2];exact .rd _ _ (.val _ rfl)
 refine h.kj (b:=w.heap.size) (cap:=gc) (by omega) hso (je.of_same hold) (fun c _ hc=>hold c hc) (fun l b sh af cs e hl hb=>⟨cs,e,by rw [hold b (h.cw l b (h.at_mem hl)).1];exact hb,rfl⟩) (.inr ⟨rfl,by omega⟩) (fun af hv=>e8 hv)
  (fun c hc=>.inl (q9.1 hc)) (q9.2 rfl) (fun h=>by cases h) (List.nodup_cons.2 ⟨List.not_mem_nil,q10⟩) bd ?_ ⟨rfl,hk⟩
 exact ⟨_,gc,by rw [hsz],by omega,.inr ⟨rfl,_,_,iu,by rw [hC,Nat.mul_one]⟩⟩
end
def w9 (kd:TK) (k:Prop):Prop:=match kd with| .slice=>k|_=>False
theorem AX (k:Prop):w9 .slice k=k:=rfl
def WG (kd:TK) (k:Prop):Prop:=match kd with| .struct=>k|_=>False
theorem xb (k:Prop):WG .struct k=k:=rfl
def rM (m:Mem) (x:AV) (k:AV->Prop):Prop:=match x with
 | .ptr l v i j=>gh v (aj m l) (k (.ptr l v i j))
 | .bu sh xs i j=>k (.bu sh xs i j)
 | .cy f xs=>k (.cy f xs)
 |_=>False
@[congr] theorem Vj {m:Mem} {x x':AV} {k:AV->Prop} (h:x=x'):rM m x k=rM m x' k:=by rw [h]
theorem EF (m:Mem) (l v i j:Nat) (k:AV->Prop):rM m (.ptr l v i j) k=gh v (aj m l) (k (.ptr l v i j)):=rfl
theorem AY (m:Mem) (sh:Sh) (xs:lA) (i j:Nat) (k:AV->Prop):rM m (.bu sh xs i j) k=k (.bu sh xs i j):=rfl
def nh (P:Program) (tt:TI) (x:AV) (lo hi:Option AV) (m:Mem) (k:AV->Prop):Prop:=match tt.kind with
 | .string=>(match x with| .val (.string _)=>True|_=>False)/\fQ ⟨0,false⟩ x lo hi m k
 | .slice=>(match x with| .arr _ _=>True| .ref _ _ _ _=>True|_=>False)/\ew (aK P tt.elem) fun ti=>fQ ti.sh x lo hi m k
 |_=>False
@[congr] theorem Vk {P:Program} {tt:TI} {x x':AV} {lo hi lo' hi':Option AV} {m:Mem} {k:AV->Prop} (h:x=x') (h1:lo=lo') (h2:hi=hi'):nh P tt x lo hi m k=nh P tt x' lo' hi' m k:=by rw [h,h1,h2]
theorem EG (P:Program) (ag:Bool) (s b:Nat) (z:AV) (f:List (Nat × Nat × Bool)) (e:Nat) (u:ByteArray) (lo hi:Option AV) (m:Mem) (k:AV->Prop):
 nh P ⟨ag,s,b,z,f,e,.string⟩ (.val (.string u)) lo hi m k=fQ ⟨0,false⟩ (.val (.string u)) lo hi m k:=by simp [nh]
theorem EH (P:Program) (ag:Bool) (s b:Nat) (z:AV) (f:List (Nat × Nat × Bool)) (e:Nat) (sh:Sh) (xs:lA) (lo hi:Option AV) (m:Mem) (k:AV->Prop):
 nh P ⟨ag,s,b,z,f,e,.slice⟩ (.arr sh xs) lo hi m k=ew (aK P e) fun ti=>fQ ti.sh (.arr sh xs) lo hi m k:=by simp [nh]
theorem EI (P:Program) (ag:Bool) (s b:Nat) (z:AV) (f:List (Nat × Nat × Bool)) (e:Nat) (l v i n:Nat) (lo hi:Option AV) (m:Mem) (k:AV->Prop):
 nh P ⟨ag,s,b,z,f,e,.slice⟩ (.ref l v i n) lo hi m k=ew (aK P e) fun ti=>fQ ti.sh (.ref l v i n) lo hi m k:=by simp [nh]
def qc (sh:Sh) (l v i0 n:Nat) (i:Int) (b:Option bh) (k:AV->Prop):Prop:=match b with
 |some (.row v' sh' _ _)=>v'=v/\sh'=sh/\((0<=i/\i<n)/\k (.ptr l v (i0+i.toNat) 0))
 |some (.box v' _)=>v'=v/\i0=0/\sh.sz=1/\((0<=i/\i<n)/\k (.ptr l v 0 i.toNat))
 |_=>False
@[congr] theorem Uc {sh:Sh} {l v i0 n:Nat} {i:Int} {b b':Option bh} {k:AV->Prop} (h:b=b'):qc sh l v i0 n i b k=qc sh l v i0 n i b' k:=by rw [h]
theorem AZ (sh:Sh) (l v i0 n:Nat) (i:Int) (d:Bool) (xs:lA) (k:AV->Prop):qc sh l v i0 n i (some (.row v sh d xs)) k=((0<=i/\i<n)/\k (.ptr l v (i0+i.toNat) 0)):=by simp [qc]
def oI (sh:Sh) (m:Mem) (x i:AV) (k:AV->Prop):Prop:=match x,i with
 | .arr sh' xs,.val (.int _ i)=>sh'=sh/\(0<=i/\i<xs.length)/\k (.bu sh xs i.toNat 0)
 | .ref l v i0 n,.val (.int _ i)=>qc sh l v i0 n i (aj m l) k
 |_,_=>False
@[congr] theorem Vl {sh:Sh} {m:Mem} {x x' i i':AV} {k:AV->Prop} (h:x=x') (h':i=i'):oI sh m x i k=oI sh m x' i' k:=by rw [h,h']
theorem xd (sh:Sh) (m:Mem) (xs:lA) (j:IntKind) (i:Int) (k:AV->Prop):oI sh m (.arr sh xs) (.val (.int j i)) k=((0<=i/\i<xs.length)/\k (.bu sh xs i.toNat 0)):=by simp [oI]
theorem EJ (sh:Sh) (m:Mem) (l v i0 n:Nat) (j:IntKind) (i:Int) (k:AV->Prop):oI sh m (.ref l v i0 n) (.val (.int j i)) k=qc sh l v i0 n i (aj m l) k:=rfl
def N8 (sh:Sh) (u:Value) (i:AV) (m0:Mem) (k:AV->Prop):Mem->Prop
 | []=>False
 |(l,.sub v sh' xs u')::_=>(aj m0 l=some (.sub v sh' xs u')/\u'=u/\sh'=sh)/\(match i with| .val (.int _ n)=>(0<=n/\n<xs.length)/\k (.ptr l v n.toNat 0)|_=>False)
 |_::r=>N8 sh u i m0 k r
section
variable (sh:Sh) (u:Value) (j:IntKind) (n:Int) (m0:Mem) (k:AV->Prop) (l:Nat) (r:Mem)
end
def uL (sh:Sh) (m:Mem) (x i:AV) (k:AV->Prop):Prop:=match x with
 | .val u=>N8 sh u i m k m
 |x=>oI sh m x i k
@[congr] theorem Ud {sh:Sh} {m:Mem} {x x' i i':AV} {k:AV->Prop} (h:x=x') (h':i=i'):uL sh m x i k=uL sh m x' i' k:=by rw [h,h']
theorem A0 (sh:Sh) (m:Mem) (xs:lA) (j:IntKind) (i:Int) (k:AV->Prop):uL sh m (.arr sh xs) (.val (.int j i)) k=((0<=i/\i<xs.length)/\k (.bu sh xs i.toNat 0)):=xd sh m xs j i k
theorem A1 (sh:Sh) (m:Mem) (l v i0 n:Nat) (j:IntKind) (i:Int) (k:AV->Prop):uL sh m (.ref l v i0 n) (.val (.int j i)) k=qc sh l v i0 n i (aj m l) k:=rfl
theorem N9 {sh:Sh} {m:Mem} {x i:AV} {k:AV->Prop} (h:oI sh m x i k):uL sh m x i k:=by
 cases x with
 |val u=>cases i<;>exact h.elim
 |_=>exact h
def Zp (P:Program) (tys:List TypeId) (d:Nat) (x y:AV) (m:Mem) (k:AV->Mem->Prop):Prop:=match tys with
 | [t,t']=>ew (aK P t) fun tt=>w9 tt.kind (ew (aK P t') fun tt'=>w9 tt'.kind (ew (aK P tt.elem) fun ti=>vB ti d x y m k))
 |_=>False
def kK (P:Program) (tys:List TypeId) (d:Nat) (x y:AV) (m:Mem) (k:AV->Mem->Prop):Prop:=match tys with
 | [t,t']=>ew (aK P t) fun tt=>w9 tt.kind (ew (aK P t') fun tt'=>w9 tt'.kind (ew (aK P tt.elem) fun ti=>lF ti d x y m k))
 |_=>False
theorem A2 (P:Program) (t t':TypeId) (d:Nat) (x y:AV) (m:Mem) (k:AV->Mem->Prop):
 kK P [t,t'] d x y m k=ew (aK P t) fun tt=>w9 tt.kind (ew (aK P t') fun tt'=>w9 tt'.kind (ew (aK P tt.elem) fun ti=>lF ti d x y m k)):=rfl
theorem JP (ti:TI) (d:Nat) (x y:AV) (m:Mem) (k:AV->Mem->Prop):
 vB ti d x y m k=(ti.bytes<=65536/\0<ti.size/\fits ti.sh ti.zero/\qx ti.sh y m fun ys=>bo ys=true/\oB ti d x ys m k):=rfl
def WS:Option Operand->Bool
 |some (.const (.int _ n))=>n==0
 |_=>false
def qz (ag:Bool) (n j:Nat) (x:AV) (k:AV->Prop):Prop:=match x with| .agg ys=>dm ag n j (.agg ys) k|_=>False
@[congr] theorem RX {ag:Bool} {n j:Nat} {x x':AV} {k:AV->Prop} (h:x=x'):qz ag n j x k=qz ag n j x' k:=by rw [h]
def qd (a:AV) (m:Mem) (k:Bool->Prop):Prop:=match a with
 | .arr _ xs=>∀c,(c=true->xs=[])->k c
 | .ref l v _ n=>gh v (aj m l) (∀c,(c=true->n=0)->k c)
 | .e0=>∀c,k c
 | .val (.slice none 0 0)=>k true
 |_=>False
@[congr] theorem Ue {a a':AV} {m:Mem} {k:Bool->Prop} (h:a=a'):qd a m k=qd a' m k:=by rw [h]
theorem A3 (sh:Sh) (xs:lA) (m:Mem) (k:Bool->Prop):qd (.arr sh xs) m k=∀c,(c=true->xs=[])->k c:=rfl
theorem A4 (m:Mem) (k:Bool->Prop):qd (.val (.slice none 0 0)) m k=k true:=rfl
def Vn:Operand->Bool| .const _=>true|_=>false
theorem KV (v:Value):Vn (.const v)=true:=rfl
theorem RY (t:Nat):Vn (.tmp t)=false:=rfl
def Hq (op:BinOp) (a:AV) (c:Bool) (k:AV->Prop):Prop:=match op,a with
 | .eql,.val .nilIface=>c=true/\k (.val (.bool true))
 | .neq,.val .nilIface=>c=true/\k (.val (.bool false))
 | .eql,.val (.iface _ _)=>k (.val (.bool false))
 | .neq,.val (.iface _ _)=>k (.val (.bool true))
 |_,_=>False
@[congr] theorem Vo {op:BinOp} {a a':AV} {c:Bool} {k:AV->Prop} (h:a=a'):Hq op a c k=Hq op a' c k:=by rw [h]
theorem JQ (c:Bool) (k:AV->Prop):Hq .eql (.val .nilIface) c k=(c=true/\k (.val (.bool true))):=rfl
theorem JR (t:TypeId) (v:Value) (c:Bool) (k:AV->Prop):Hq .eql (.val (.iface t v)) c k=k (.val (.bool false)):=rfl
def lH (op:BinOp) (kd:TK) (a b:AV) (c:Bool) (m:Mem) (k:AV->Prop):Prop:=match kd,op,b with
 | .slice,.eql,.val (.slice none 0 0)=>qd a m fun c=>k (.val (.bool c))
 | .slice,.neq,.val (.slice none 0 0)=>qd a m fun c=>k (.val (.bool (!c)))
 | .iface,op,.val .nilIface=>Hq op a c k
 |kd,op,b=>lx op kd a b k
@[congr] theorem Uf {op:BinOp} {kd:TK} {a b a' b':AV} {c:Bool} {m:Mem} {k:AV->Prop} (h:a=a') (h':b=b'):lH op kd a b c m k=lH op kd a' b' c m k:=by rw [h,h']
theorem A5 (a:AV) (c:Bool) (m:Mem) (k:AV->Prop):lH .eql .slice a (.val (.slice none 0 0)) c m k=qd a m fun c=>k (.val (.bool c)):=rfl
theorem A6 (a:AV) (c:Bool) (m:Mem) (k:AV->Prop):lH .neq .slice a (.val (.slice none 0 0)) c m k=qd a m fun c=>k (.val (.bool (!c))):=rfl
theorem uM (op:BinOp) (a:AV) (c:Bool) (m:Mem) (k:AV->Prop):lH op .iface a (.val .nilIface) c m k=Hq op a c k:=by cases op<;>rfl
theorem A7 (op:BinOp) (i:IntKind) (a b:AV) (c:Bool) (m:Mem) (k:AV->Prop):lH op (.int i) a b c m k=lx op (.int i) a b k:=rfl
theorem xe (op:BinOp) (a b:AV) (c:Bool) (m:Mem) (k:AV->Prop):lH op .bool a b c m k=lx op .bool a b k:=rfl
theorem rN (op:BinOp) (a b:AV) (c:Bool) (m:Mem) (k:AV->Prop):lH op .string a b c m k=lx op .string a b k:=rfl
theorem Oa {op:BinOp} {kd:TK} {a b:AV} {c:Bool} {m:Mem} {k:AV->Prop} (h:lx op kd a b k):lH op kd a b c m k:=by
 unfold lH;split
 . unfold lx at h;split at h<;>first|exact h.elim|(rename_i e;cases e)
 . unfold lx at h;split at h<;>first|exact h.elim|(rename_i e;cases e)
 . unfold lx at h;split at h<;>first|exact h.elim|(rename_i e;cases e)
 exact h
def ni (P:Program) (c:AV) (d:Nat) (xs:lA) (m:Mem) (k:AV->Mem->Prop):Prop:=match c with
 | .cy f ys=>nX P f d (xs++ys) m k
 |_=>False
@[congr] theorem RZ {P:Program} {c c':AV} {d:Nat} {xs xs':lA} {m:Mem} {k:AV->Mem->Prop} (h:c=c') (h':xs=xs'):ni P c d xs m k=ni P c' d xs' m k:=by rw [h,h']
theorem xf (P:Program) (f:FuncId) (ys:lA) (d:Nat) (xs:lA) (m:Mem) (k:AV->Mem->Prop):ni P (.cy f ys) d xs m k=nX P f d (xs++ys) m k:=rfl
def jD (k:AV->Prop):lU->lA->Prop
 |acc,[]=>k (.val (.string ⟨acc.reverse.toArray⟩))
 |acc,.val (.int .u8 z)::r=>(0<=z/\z<256)/\jD k (UInt8.ofNat z.toNat::acc) r
 |_,_=>False
theorem oJ (k:AV->Prop) (acc:lU):jD k acc []=k (.val (.string ⟨acc.reverse.toArray⟩)):=rfl
theorem nj (k:AV->Prop) (acc:lU) (z:Int) (r:lA):jD k acc (.val (.int .u8 z)::r)=((0<=z/\z<256)/\jD k (UInt8.ofNat z.toNat::acc) r):=rfl
theorem Ob (b:UInt8):(0<=((b.toNat:Nat):Int)/\((b.toNat:Nat):Int)<256)/\UInt8.ofNat ((b.toNat:Nat):Int).toNat=b:=by have:=b.toNat_lt;refine ⟨⟨by omega,by omega⟩,?_⟩;simp
theorem oK (k:AV->Prop):∀(bs acc:lU),jD k acc (bs.map fun b=>.val (.int .u8 b.toNat))=k (.val (.string ⟨(acc.reverse++bs).toArray⟩))
 | [],acc=>by simp [jD]
 |b::r,acc=>by rw [List.map_cons,nj,(Ob b).2,oK k r (b::acc)];simp [(Ob b).1]
theorem uN {k:AV->Prop}:∀{xs:lA} {acc:lU},jD k acc xs->∃bs:lU,xs=bs.map (fun b=>.val (.int .u8 b.toNat))/\k (.val (.string ⟨(acc.reverse++bs).toArray⟩))
 | [],acc,h=>⟨[],rfl,by rw [oJ] at h;simpa using h⟩
 | .val (.int .u8 z)::r,acc,h=>by
   obtain ⟨⟨h0,h1⟩,h⟩:=h;obtain ⟨bs,rfl,hk⟩:=uN h;refine ⟨UInt8.ofNat z.toNat::bs,?_,by simpa using hk⟩;have:((UInt8.ofNat z.toNat).toNat:Int)=z:=by rw [UInt8.toNat_ofNat_of_lt' (by show z.toNat<256;omega)];omega
   rw [List.map_cons,this]
def oL (y:AV) (k:AV->Prop):Prop:=match y with| .arr _ xs=>jD k [] xs|_=>False
@[congr] theorem R0 {y y':AV} {k:AV->Prop} (h:y=y'):oL y k=oL y' k:=by rw [h]
theorem xg (sh:Sh) (xs:lA) (k:AV->Prop):oL (.arr sh xs) k=jD k [] xs:=rfl
def xh (kd:TK) (k:Prop):Prop:=match kd with| .int .u8=>k|_=>False
theorem R3 (k:Prop):xh (.int .u8) k=k:=rfl
def EK (x:AV) (k:AV->Prop):Prop:=match x with| .val (.int _ n)=>(0<=n/\n<128)/\k (.val (.string ⟨#[UInt8.ofNat n.toNat]⟩))|_=>False
@[congr] theorem Vp {y y':AV} {k:AV->Prop} (h:y=y'):EK y k=EK y' k:=by rw [h]
theorem EL (i:IntKind) (n:Int) (k:AV->Prop):EK (.val (.int i n)) k=((0<=n/\n<128)/\k (.val (.string ⟨#[UInt8.ofNat n.toNat]⟩))):=rfl
def fR (P:Program) (si ti:TI) (x:AV) (m:Mem) (k:AV->Prop):Prop:=match si.kind,ti.kind with
 | .slice,.string=>ew (aK P si.elem) fun ei=>xh ei.kind (fB m x fun y=>oL y k)
 | .int _,.string=>EK x k
 |_,d=>ub d x k
@[congr] theorem R4 {P:Program} {si ti:TI} {x x':AV} {m:Mem} {k:AV->Prop} (h:x=x'):fR P si ti x m k=fR P si ti x' m k:=by rw [h]
section
variable (P:Program) (ag ag':Bool) (s b s' b':Nat) (z z':AV) (f f':List (Nat × Nat × Bool)) (e e':Nat) (x:AV) (m:Mem) (k:AV->Prop)
theorem rO:fR P ⟨ag,s,b,z,f,e,.slice⟩ ⟨ag',s',b',z',f',e',.string⟩ x m k=ew (aK P e) fun ei=>xh ei.kind (fB m x fun y=>oL y k):=rfl
theorem xi (i:IntKind):fR P ⟨ag,s,b,z,f,e,.int i⟩ ⟨ag',s',b',z',f',e',.string⟩ x m k=EK x k:=rfl
theorem xj (kd:TK) (i:IntKind):fR P ⟨ag,s,b,z,f,e,kd⟩ ⟨ag',s',b',z',f',e',.int i⟩ x m k=ub (.int i) x k:=by cases kd<;>rfl
end
def kL (P:Program) (si ti:TI) (d:Nat) (x:AV) (m:Mem) (k:AV->Mem->Prop):Prop:=match si.kind,ti.kind with
 | .string,.slice=>ew (aK P ti.elem) fun ei=>xh ei.kind (s0 d x m k)
 |_,_=>fR P si ti x m fun v=>k v m
@[congr] theorem R5 {P:Program} {si ti:TI} {d:Nat} {x x':AV} {m:Mem} {k:AV->Mem->Prop} (h:x=x'):kL P si ti d x m k=kL P si ti d x' m k:=by rw [h]
section
variable (P:Program) (ag ag':Bool) (s b s' b':Nat) (z z':AV) (f f':List (Nat × Nat × Bool)) (e e' d:Nat) (x:AV) (m:Mem) (k:AV->Mem->Prop)
theorem rP:kL P ⟨ag,s,b,z,f,e,.slice⟩ ⟨ag',s',b',z',f',e',.string⟩ d x m k=fR P ⟨ag,s,b,z,f,e,.slice⟩ ⟨ag',s',b',z',f',e',.string⟩ x m fun v=>k v m:=rfl
theorem xk (i:IntKind):kL P ⟨ag,s,b,z,f,e,.int i⟩ ⟨ag',s',b',z',f',e',.string⟩ d x m k=fR P ⟨ag,s,b,z,f,e,.int i⟩ ⟨ag',s',b',z',f',e',.string⟩ x m fun v=>k v m:=rfl
theorem xl (kd:TK) (i:IntKind):kL P ⟨ag,s,b,z,f,e,kd⟩ ⟨ag',s',b',z',f',e',.int i⟩ d x m k=fR P ⟨ag,s,b,z,f,e,kd⟩ ⟨ag',s',b',z',f',e',.int i⟩ x m fun v=>k v m:=by cases kd<;>rfl
end
def iL (P:Program) (d:Nat) (op:Op) (ts:Env) (m:Mem) (k:AV->Mem->Prop):Prop:=
 match op with
 | .move x=>k (ev ts x) m
 | .assign x=>k (ev ts x) m
 | .pick c a b=>p6 (ev ts c) (ev ts a) (ev ts b) fun v=>k v m
 | .alloc t=>ew (aK P t) fun ti=>Cx d ti.zero m k
 | .box _ x=>Cx d (ev ts x) m k
 | .build t parts=>ew (aK P t) fun ti=>WG ti.kind (qy ti (parts.toList.map fun p=>(p.1,ev ts p.2)) fun v=>k v m)
 | .buildSlice t n parts=>ew (aK P t) fun tt=>w9 tt.kind (ew (aK P tt.elem) fun ti=>gI ti d n (parts.toList.map fun p=>(p.1,ev ts p.2)) m k)
 | .load t x=>ew (aK P t) fun ti=>ov ti.agg ti.size (ev ts x) m k
 | .store t p y=>ew (aK P t) fun ti=>fY ti.size (ev ts p) (ev ts y) m fun m'=>k .undef m'
 | .nilCheck x=>rM m (ev ts x) fun v=>k v m
 | .binOp op t x y _=>ew (aK P t) fun ti=>gL P t op (ev ts x) (ev ts y) (fun v=>k v m) (lH op ti.kind (ev ts x) (ev ts y) (Vn y) m fun v=>k v m)
 | .unOp .not _ x=>zn (ev ts x) fun v=>k v m
 | .unOp .neg _ x=>Cs (ev ts x) fun v=>k v m
 | .convert s t x=>ew (aK P s) fun si=>ew (aK P t) fun ti=>kL P si ti d (ev ts x) m k
 | .makeSlice t l c=>ew (aK P t) fun tt=>w9 tt.kind (ew (aK P tt.elem) fun ti=>rE ti d (ev ts l) (ev ts c) m k)
 | .slice t x lo hi none=>ew (aK P t) fun tt=>nh P tt (ev ts x) (lo.map (ev ts)) (hi.map (ev ts)) m fun v=>k v m
 | .slice t x none hi mx=>(WS hi=true/\WS mx=true)/\ew (aK P t) fun tt=>w9 tt.kind (ew (aK P tt.elem) fun _=>jB m (ev ts x) fun v=>k v m)
 | .fieldAddr t x f=>ew (aK P t) fun ti=>vy ti.fields[f]? fun fd=>0<fd.2.1/\ic fd.1 m (ev ts x) fun v=>k v m
 | .field t x f=>ew (aK P t) fun ti=>vy ti.fields[f]? fun fd=>qz fd.2.2 fd.2.1 fd.1 (ev ts x) fun v=>k v m
 | .indexAddr t x i=>ew (aK P t) fun tt=>w9 tt.kind (ew (aK P tt.elem) fun ti=>uL ti.sh m (ev ts x) (ev ts i) fun v=>k v m)
 | .index t x i=>ew (aK P t) fun tt=>(match tt.kind with| .string=>True|_=>False)/\mY (ev ts x) (ev ts i) fun v=>k v m
 | .extract x i=>zp i (ev ts x) fun v=>k v m
 | .call c=>match c.callee,c.args.toList with
   | .builtin .len,[x]=>match c.argTypes.toList with|t::_=>ew (aK P t) fun ti=>mX ti.kind m (ev ts x) fun v=>k v m| []=>False
   | .builtin .max,[x,y]=>zo (ev ts x) (ev ts y) fun v=>k v m
   | .builtin .min,[x,y]=>mV (ev ts x) (ev ts y) fun v=>k v m
   | .builtin .min,[x,y,z]=>mV (ev ts x) (ev ts y) fun u=>mV u (ev ts z) fun v=>k v m
   | .builtin .append,[x,y]=>kK P c.argTypes.toList d (ev ts x) (ev ts y) m k
   | .value (.func f),xs=>nX P f d (xs.map (ev ts)) m k
   | .value (.tmp t),xs=>ni P (look ts t) d (xs.map (ev ts)) m k
   |_,_=>False
 | .makeFunc (.func f) first caps=>first.toList=[]/\k (.cy f (caps.toList.map (ev ts))) m
 |_=>False
section
variable {P:Program} {B:eO} {N:Nat} {φ:Nat->LS} {fp:Nat->lN} {S:Nat->Prop} {ts:Env} {m:Mem} {a:Act} {w:World}
theorem bL {x:Option TI} {k:TI->Prop} (h:ew x k):∃t,x=some t/\k t:=by
 cases x with
 |none=>exact h.elim
 |some t=>exact ⟨t,rfl,h⟩
theorem nk {kd:TK} {k:Prop} (h:w9 kd k):kd= .slice/\k:=by cases kd<;>first|exact h.elim|exact ⟨rfl,h⟩
theorem R6 {kd:TK} {k:Prop} (h:WG kd k):kd= .struct/\k:=by cases kd<;>first|exact h.elim|exact ⟨rfl,h⟩
theorem EM {f:Option (Nat × Nat × Bool)} {k:Nat × Nat × Bool->Prop} (h:vy f k):∃fd,f=some fd/\k fd:=by
 cases f with
 |none=>exact h.elim
 |some t=>exact ⟨t,rfl,h⟩
theorem EN {t:TypeId} {ti:TI} (ht:aK P t=some ti) {f:Nat} {fd:Nat × Nat × Bool} (hf:ti.fields[f]? =some fd):
 ∃fs g,P.underlying t=some (.struct fs)/\fs[f]? =some g/\fd=(g.offset,gC P g.type,kf P g.type)/\∃i d,P.info? g.type=some i/\P.underlying g.type=some d:=by
 obtain ⟨i,d,z,hi,hd,hz,_,_,_,_,hff,_⟩:=fy ht;rw [hff] at hf;cases d with
 |struct fs=>
  simp only [List.getElem?_map] at hf;cases hg:fs.toList[f]? with
  |none=>rw [hg] at hf;cases hf
  |some g=>
   rw [hg] at hf;simp only [Option.map_some,Option.some.injEq] at hf;obtain ⟨i',hi'⟩:=Option.isSome_iff_exists.1 (sX ht fs hd g (List.mem_of_getElem? hg)).1;obtain ⟨d',hd'⟩:=Option.isSome_iff_exists.1 (sX ht fs hd g (List.mem_of_getElem? hg)).2;exact ⟨fs,g,hd,by simpa using hg,hf.symm,i',d',hi',hd'⟩
 |_=>simp at hf
theorem EO (h:RS B N φ fp S ts m a w) {l v:Nat} (hn:φ l≠ .nil v) {k:Prop} (hk:gh v (aj m l) k):(∃b sh,φ l= .at b sh v)/\k:=by
 unfold gh at hk;split at hk
 . rename_i v' xs hlk;obtain ⟨rfl,hk⟩:=hk;obtain ⟨b,cs,e,sh,hφ,_⟩:=h.aF l _ hlk;exact ⟨⟨b,sh,hφ⟩,hk⟩
 . rename_i v' sh d xs hlk;obtain ⟨rfl,hk⟩:=hk;rcases h.aF l _ hlk with ⟨h1,_⟩|⟨b,cap,hφ,_⟩
   . exact absurd h1 hn
   exact ⟨⟨b,sh,hφ⟩,hk⟩
 exact hk.elim
theorem KW {t:TypeId} {ti:TI} (ht:aK P t=some ti) (h:RS B N φ fp S ts m a w) {p:AV} {v:Value} (hp:RV w S φ p v) (hpl:∀l af,(l,af)∈ao p->known m l af) {f:Nat} {fd:Nat × Nat × Bool} (hf:ti.fields[f]? =some fd) (hsz:0<fd.2.1)
 {k:AV->Prop} (hk:ic fd.1 m p k):iI B N a (fun x ts' m'=>ts'=ts/\m'=m/\k x) ((Instr.fieldAt t v f).run P w):=by
 obtain ⟨fs,g,hu,hg,rfl,i,d,hi,hd⟩:=EN ht hf;simp only at hsz;have hs:gC P g.type=i.size:=by simp [gC,hi]
 have cO:∀b o,(Instr.fieldAt t (.pointer (some ⟨b,o,none⟩)) f).run P w= .ok (.pointer (some ⟨b,o+g.offset,none⟩)) w:=by
  intro b o;have h0:i.size≠0:=by omega
  simp [Instr.fieldAt,run_underlying hu,hg,Instr.sureAddr,fieldPlace,sizeOf,typeInfo,hi,h0,Addr.kJ]
 unfold ic at hk;split at hk
 . rename_i l af i' j';obtain ⟨⟨b,sh,hφ⟩,hk⟩:=EO h (vT hp).1 hk;have hv:=j3 hp b sh hφ;subst hv;refine ⟨_,w,cO _ _,h.gives (x:=.ptr l af i' (j'+g.offset)) ?_ (fun l' ver' hl=>hpl l' ver' (by simpa [ao] using hl)) ⟨rfl,rfl,hk⟩⟩;refine .ptr _ _ _ _ _ (fun b' sh' hb'=> ?_) (vT hp).1 rfl;rw [hφ] at hb';cases hb';rw [Nat.add_assoc]
 . rename_i sh xs i' j';cases pg hp with
   |bu _ _ _ _ b off cs e fr hS hb hl hff hv=>
    refine ⟨_,w,cO _ _,h.gives ?_ (fun l' ver' hl=>by cases hl) ⟨rfl,rfl,hk⟩⟩;have:=Rd.bu (w:=w) (S:=S) sh xs i' (j'+g.offset) b off cs e fr hS hb hl hff hv;rw [←Nat.add_assoc] at this;exact .rd _ _ this
 exact hk.elim
theorem R7 {t:TypeId} {tt ti:TI} (htt:aK P t=some tt) (hks:tt.kind= .slice) (ht:aK P tt.elem=some ti) (h:RS B N φ fp S ts m a w) {x i:AV} {u v:Value} (hx:RV w S φ x u) (hxl:∀l af,(l,af)∈ao x->known m l af) (hi:RV w S φ i v)
 {k:AV->Prop} (hk:oI ti.sh m x i k):iI B N a (fun x ts' m'=>ts'=ts/\m'=m/\k x) ((Instr.indexAt t u v).run P w):=by
 have hsl:=bS htt hks;have hs:=jn ht w;have cO:∀(b o len cap:Nat) (q:IntKind) (n:Int),0<=n->n<len->(Instr.indexAt t (.slice (some ⟨b,o,none⟩) len cap) (.int q n)).run P w= .ok (.pointer (some ⟨b,o+n.toNat*ti.size,none⟩)) w:=by intro b o len cap q n h0 h1;simp [Instr.indexAt,asIntOf,run_underlying hsl,h0,h1,hs,Addr.kJ]
 unfold oI at hk;split at hk
 . rename_i sh' xs q n;obtain ⟨rfl,⟨h0,h1⟩,hk⟩:=hk;obtain ⟨rfl,_⟩:=aS hi;cases l7 hx with
   |nil=>simp at h1;omega
   |arr _ _ b off cap cs e fr hS hb cj hl hf hv=>
    refine ⟨_,w,cO b off _ cap q n h0 h1,h.gives ?_ (fun l' ver' hl=>by cases hl) ⟨rfl,rfl,hk⟩⟩;have:=Rd.bu (w:=w) (S:=S) ti.sh xs n.toNat 0 b off cs e fr hS hb hl hf hv;exact .rd _ _ this
 . rename_i l af i0 n0 q n;unfold qc at hk;split at hk
   . rename_i v' sh' deep xs hlk;obtain ⟨rfl,rfl,⟨h0,h1⟩,hk⟩:=hk;obtain ⟨rfl,_⟩:=aS hi;have hr:=dt hx;have hkn:=hxl l v' (by simp [ao]);rcases h.aF l _ hlk with ⟨g1,g2,g3⟩|⟨b,cap0,hφ,hbm,hdp,bd⟩
     . have:=(hr.2 g1).1;omega
     obtain ⟨ad,cap,rfl,hnc,hcp⟩:=hr.1 b _ hφ;obtain ⟨rfl,cs,e,q1,q2⟩:=hcp.resolve_left (by omega);refine ⟨_,w,cO b _ _ cap q n h0 h1,h.gives (x:=.ptr l v' (i0+n.toNat) 0) ?_ (fun l' ver' hl=> ?_) ⟨rfl,rfl,hk⟩⟩
     . refine .ptr _ _ _ _ _ (fun b' sh' hb'=> ?_) (fun hb'=>by rw [hφ] at hb';cases hb') rfl;rw [hφ] at hb';cases hb';rw [Nat.add_zero,Nat.add_mul];rfl
     simp only [ao,q9,Prod.mk.injEq] at hl;obtain ⟨rfl,rfl⟩:=hl;exact hkn
   . rename_i v' xs hlk;obtain ⟨rfl,rfl,TC,⟨h0,h1⟩,hk⟩:=hk;obtain ⟨rfl,_⟩:=aS hi;have hr:=dt hx;have hkn:=hxl l v' (by simp [ao]);obtain ⟨b,cs,e,sh2,hφ,_⟩:=h.aF l _ hlk;obtain ⟨ad,cap,rfl,hnc,hcp⟩:=hr.1 b _ hφ;obtain ⟨rfl,cs,e,q1,q2⟩:=hcp.resolve_left (by omega);refine ⟨_,w,cO b _ _ cap q n h0 h1,h.gives (x:=.ptr l v' 0 n.toNat) ?_ (fun l' ver' hl=> ?_) ⟨rfl,rfl,hk⟩⟩
     . refine .ptr _ _ _ _ _ (fun b' sh' hb'=> ?_) (fun hb'=>by rw [hφ] at hb';cases hb') rfl;rw [hφ] at hb';cases hb';have:ti.size=1:=TC;rw [this,Nat.mul_one]
     simp only [ao,q9,Prod.mk.injEq] at hl;obtain ⟨rfl,rfl⟩:=hl;exact hkn
   exact hk.elim
 exact hk.elim
theorem my {sh:Sh} {u:Value} {i:AV} {m0:Mem} {k:AV->Prop}:∀{r:Mem},N8 sh u i m0 k r->∃l v xs j n,aj m0 l=some (.sub v sh xs u)/\i= .val (.int j n)/\(0<=n/\n<xs.length)/\k (.ptr l v n.toNat 0)
 |(l,.sub v sh' xs u')::r,h=>by
  obtain ⟨⟨h1,rfl,rfl⟩,h2⟩:=h;split at h2
  . rename_i j n;exact ⟨l,v,xs,j,n,h1,rfl,h2.1,h2.2⟩
  exact h2.elim
 |(l,.row v sh' d xs)::r,h=>my (r:=r) h
 |(l,.box v xs)::r,h=>my (r:=r) h
 |(l,.gone v)::r,h=>my (r:=r) h
 |(l,.jc v xs i0 u0)::r,h=>my (r:=r) h
theorem Oc {t:TypeId} {tt ti:TI} (htt:aK P t=some tt) (hks:tt.kind= .slice) (ht:aK P tt.elem=some ti) (h:RS B N φ fp S ts m a w) {x i:AV} {u v:Value} (hx:RV w S φ x u) (hxl:∀l af,(l,af)∈ao x->known m l af) (hi:RV w S φ i v)
 {k:AV->Prop} (hk:uL ti.sh m x i k):iI B N a (fun x ts' m'=>ts'=ts/\m'=m/\k x) ((Instr.indexAt t u v).run P w):=by
 cases x with
 |val u0=>
  obtain ⟨l,v',xs,j,n,hlk,rfl,⟨h0,h1⟩,hk'⟩:=my hk;obtain ⟨rfl,_⟩:=aS hx;obtain ⟨rfl,_⟩:=aS hi;obtain ⟨b,cap,hφ,hbm,rfl,bd⟩:=h.aF l _ hlk;have hsl:=bS htt hks;have hs:=jn ht w;have cO:(Instr.indexAt t (.slice (some ⟨b,0,none⟩) xs.length cap) (.int j n)).run P w= .ok (.pointer (some ⟨b,0+n.toNat*ti.size,none⟩)) w:=by simp [Instr.indexAt,asIntOf,run_underlying hsl,h0,h1,hs,Addr.kJ]
  refine ⟨_,w,cO,h.gives (x:=.ptr l v' n.toNat 0) ?_ (fun l' ver' hl=> ?_) ⟨rfl,rfl,hk'⟩⟩
  . refine .ptr _ _ _ _ _ (fun b' sh' hb'=> ?_) (fun hb'=>by rw [hφ] at hb';cases hb') rfl;rw [hφ] at hb';cases hb';rw [Nat.add_zero,Nat.zero_add];rfl
  simp only [ao,q9,Prod.mk.injEq] at hl;obtain ⟨rfl,rfl⟩:=hl;exact ⟨_,hlk,Nat.le_refl _⟩
 |_=>exact R7 htt hks ht h hx hxl hi hk
theorem KX {t:TypeId} (ht:P.underlying t=some .string) (h:RS B N φ fp S ts m a w) {x i:AV} {u v:Value} (hx:RV w S φ x u) (hi:RV w S φ i v)
 {k:AV->Prop} (hk:mY x i k):iI B N a (fun x ts' m'=>ts'=ts/\m'=m/\k x) ((Instr.index t u v).run P w):=by
 unfold mY at hk;split at hk
 . rename_i s q n;obtain ⟨⟨h0,h1⟩,hk⟩:=hk;obtain ⟨rfl,_⟩:=aS hx;obtain ⟨rfl,_⟩:=aS hi;have hlt:n.toNat<s.size:=by omega
   have Y0:n.toNat<s.data.toList.length:=by simpa using hlt
   have e:s[n.toNat]? =some (s.data.toList.getD n.toNat 0):=by rw [q3,q4 Y0,getElem?_pos s n.toNat hlt];rfl
   refine ⟨.int .u8 (s.data.toList.getD n.toNat 0).toNat,w,?_,h.fe rfl ⟨rfl,rfl,hk⟩⟩;simp only [Instr.index,asIntOf,pure_bind,Sem.run_bind,run_underlying ht,Result.andThen_ok,h0,if_true,e];rfl
 exact hk.elim
theorem R8 {t ty:TypeId} {ti:TI} (ht:aK P t=some ti) (h:RS B N φ fp S ts m a w) {x:AV} {u:Value} (hx:RV w S φ x u)
 {k:AV->Prop} (hk:mX ti.kind m x k):iI B N a (fun x ts' m'=>ts'=ts/\m'=m/\k x) ((Builtin.len_ #[t] ty #[u]).run P w):=by
 unfold mX at hk;have sl:∀(ad:Option Addr) (n c:Nat),ti.kind= .slice->(Builtin.len_ #[t] ty #[.slice ad n c]).run P w= .ok (.int .i64 n) w:=by intro ad n c hkd;simp [Builtin.len_,run_underlying (bS ht hkd),goInt]
 split at hk
 . rename_i sh xs hkd;cases l7 hx with
   |nil _ ad=>exact ⟨_,w,sl ad 0 0 hkd,h.fe rfl ⟨rfl,rfl,hk⟩⟩
   |arr _ _ b off cap cs e fr hS hb cj hl hf hv=>exact ⟨_,w,sl _ _ _ hkd,h.fe rfl ⟨rfl,rfl,hk⟩⟩
 . rename_i l v i n hkd;have hr:=dt hx;unfold gh at hk;split at hk
   . rename_i v' xs hlk;obtain ⟨rfl,hk⟩:=hk;obtain ⟨b,cs,e,sh,hφ,_⟩:=h.aF l _ hlk;obtain ⟨ad,c,rfl,_⟩:=hr.1 b sh hφ;exact ⟨_,w,sl _ _ _ hkd,h.fe rfl ⟨rfl,rfl,hk⟩⟩
   . rename_i v' sh d xs hlk;obtain ⟨rfl,hk⟩:=hk;rcases h.aF l _ hlk with ⟨h1,_⟩|⟨b,cap,hφ,_⟩
     . obtain ⟨rfl,ad,rfl⟩:=hr.2 h1;exact ⟨_,w,sl _ _ _ hkd,h.fe rfl ⟨rfl,rfl,hk⟩⟩
     obtain ⟨ad,c,rfl,_⟩:=hr.1 b sh hφ;exact ⟨_,w,sl _ _ _ hkd,h.fe rfl ⟨rfl,rfl,hk⟩⟩
   exact hk.elim
 . rename_i hkd;obtain ⟨ad,rfl⟩:=ru hx;exact ⟨_,w,sl ad 0 0 hkd,h.fe rfl ⟨rfl,rfl,hk⟩⟩
 . rename_i ad n c hkd;obtain ⟨rfl,_⟩:=aS hx;exact ⟨_,w,sl ad n c hkd,h.fe rfl ⟨rfl,rfl,hk⟩⟩
 . rename_i s hkd;obtain ⟨rfl,_⟩:=aS hx;refine ⟨.int .i64 s.size,w,?_,h.fe rfl ⟨rfl,rfl,hk⟩⟩;simp [Builtin.len_,run_underlying (eA ht hkd),goInt]
 exact hk.elim
theorem Hr (h:RS B N φ fp S ts m a w) {x:AV} {u:Value} (hx:RV w S φ x u) (hxl:∀l af,(l,af)∈ao x->known m l af) {t:TypeId} {ti:TI} (ht:aK P t=some ti) {f:Nat} {fd:Nat × Nat × Bool} (hf:ti.fields[f]? =some fd)
 {k:AV->Prop} (hk:dm fd.2.2 fd.2.1 fd.1 x k) (QZ:∃xs,x= .agg xs):iI B N a (fun x ts' m'=>ts'=ts/\m'=m/\k x) ((Instr.field t u f).run P w):=by
 obtain ⟨xs,rfl⟩:=QZ;obtain ⟨fs,g,hu,hg,rfl,i,d,hi,hd⟩:=EN ht hf;obtain ⟨cs,rfl,h1,h2,h3⟩:=na hx;have hs:gC P g.type=i.size:=by simp [gC,hi]
 have hag:(isAgg g.type).run P w= .ok (kf P g.type) w:=by unfold isAgg kf;simp only [Sem.run_bind,run_underlying hd,Result.andThen_ok,hd];cases d<;>rfl
 simp only at hk;rw [hs] at hk;cases hb:kf P g.type with
 |true=>
  rw [hb] at hk hag;obtain ⟨hlen,hk⟩:=hk;refine ⟨.agg (cs.extract g.offset (g.offset+i.size)),w,?_,h.gives (x:=.agg ((xs.drop g.offset).take i.size)) (.agg _ _ (by simp;omega) (fun q hq=> ?_) fun q hq=> ?_) (fun l af hl=> ?_) ⟨rfl,rfl,hk⟩⟩
  . simp [Instr.field,run_underlying hu,hg,asAgg,part,hag,sizeOf,typeInfo,hi]
  . simp only [List.length_take,List.length_drop] at hq;simp only [q8,q6];exact h2 _ (by omega)
  . simp only [List.length_take,List.length_drop] at hq;simp only [q8,q6];have:=h3 (g.offset+q) (by omega);have e:(cs.extract g.offset (g.offset+i.size)).toList.getD q Go.undef=cs.toList.getD (g.offset+q) Go.undef:=by
     simp only [q3,q1,Array.getElem?_extract];rw [if_pos (by omega)]
    rw [e];exact this
  simp only [ao] at hl;obtain ⟨q,hq,hl2⟩:=b8 hl;simp only [List.length_take,List.length_drop] at hq;simp only [q8,q6] at hl2;exact hxl l af (by simp only [ao];exact bw (by omega) hl2)
 |false=>
  rw [hb] at hk hag;simp only [dm] at hk;cases hj:xs[g.offset]? with
  |none=>rw [hj] at hk;exact hk.elim
  |some y=>
   rw [hj] at hk;obtain ⟨hj1,hj2⟩:=q5.1 hj;have hlt:g.offset<cs.size:=by omega
   refine ⟨cs.toList.getD g.offset Go.undef,w,?_,h.gives (x:=y) ?_ (fun l af hl=> ?_) ⟨rfl,rfl,hk⟩⟩
   . have e:cs[g.offset]? =some (cs.toList.getD g.offset Go.undef):=by
      rw [q3,q1,q0 hlt];rfl
     simp only [Instr.field,run_underlying hu,Sem.run_bind,Result.andThen_ok,hg,asAgg,pure_bind,part,hag,e,Bool.false_eq_true,if_false];rfl
   . have:=h3 g.offset hj1
     rwa [hj2] at this
   exact hxl l af (by simp only [ao];exact bw hj1 (by rw [hj2];exact hl))
theorem iw.mono {k k':AV->Env->Mem->Prop} {v:Value} {w:World} (h:iw B N a k v w) (hk:∀x ts m,k x ts m->k' x ts m):iw B N a k' v w:=by obtain ⟨φ,fp,S,ts,m,x,h1,h2,h3,h4⟩:=h;exact ⟨φ,fp,S,ts,m,x,h1,h2,h3,hk _ _ _ h4⟩
theorem iI.mono {k k':AV->Env->Mem->Prop} {r:Result Value} (h:iI B N a k r) (hk:∀x ts m,k x ts m->k' x ts m):iI B N a k' r:=by obtain ⟨v,w',h1,h2⟩:=h;exact ⟨v,w',h1,h2.mono hk⟩
theorem KY (h:RS B N φ fp S ts m a w) (l:List (Nat × Operand)):∀p,p∈l.map (fun p=>(p.1,Vc.ev ts p.2))->∀q,q∈ao p.2->known m q.1 q.2:=by intro p hp q hq;obtain ⟨p0,_,rfl⟩:=List.mem_map.1 hp;exact h.DQ p0.2 q.1 q.2 hq
theorem xm {f:FuncId} {d:Nat} {xs:lA} {vs:aV} (h:RS B N φ fp S ts m a w) (hxs:pq (RV w S φ) xs vs.toList) (hxl:∀i (hi:i<xs.length) l af,(l,af)∈ao xs[i]->known m l af) {k:AV->Mem->Prop} (hk:nX P f d xs m k):
 Enters P f/\Calls P f vs w fun e w'=>∃v,e= .returned v/\iw B N a (fun x ts' m'=>ts'=ts/\k x m') v w':=by
 have hk':dH m (fun ts=>eQ P f d xs ts m k ⟨⟩) [] xs:=by
  cases xs with
  |nil=>exact hk
  |cons x r=>exact hk
 have owned:∀(trs:lA) (post:AV->Prop),pq (Rd w (pn w)) trs vs.toList->Fn P f trs true post->(∀r,post r->nf (1000*(d+1)) r m k)→
  Calls P f vs w fun e w'=>∃v,e= .returned v/\iw B N a (fun x ts' m'=>ts'=ts/\k x m') v w':=by
  intro trs post hrd hfn gP;refine (hfn.2 w (pn w) vs (fun b hb=>hb) (h.jf.mono (fun _ _=>rfl) fun b hb=>(h.sB b hb).1) (by simpa using hrd.1) hrd.2).mono ?_;rintro e w' ⟨r,v,rfl,hr,hg,kc⟩;simp only [iN,if_true] at kc;obtain ⟨fs,bd,hnd,hfr⟩:=kc;have hRS:=h.grown hg;obtain ⟨φ',fp',y,m',g1,g2,g3,g4⟩:=CE hRS bd hnd (fun b hb=>⟨Nat.le_trans h.size (hfr b hb),fun hs=>by have:=(h.sB b hs).1;have:=hfr b hb;omega,fun l hl=>by have:=(h.cw l b hl).1;have:=hfr b hb;omega⟩) _ (gP r hr);exact ⟨v,rfl,φ',fp',S,ts,m',y,g1.rs,g3,g4,rfl,g2⟩
 have io:ib P f xs m k->Enters P f/\Calls P f vs w fun e w'=>∃v,e= .returned v/\iw B N a (fun x ts' m'=>ts'=ts/\k x m') v w':=
  fun hi=>hi B N φ fp S ts a w vs h (by simpa using hxs.1) hxs.2 hxl
 by_cases hU:ay xs
 . have hct:=JL xs [] hU hk';rcases hct with hct|hct
   . exact io hct
   obtain ⟨own,post,hfn,Ra,gP⟩:=hct;rw [List.reverse_nil,List.nil_append] at hfn;have lab:∀(xs:lA),ay xs->∀i (hi:i<xs.length),ao xs[i]=[]:=by
    intro xs;induction xs with
    |nil=>intro _ i hi;exact absurd hi (q13 _)
    |cons x r ih=>
     intro hl i hi;cases i with
     |zero=>exact hl.1.1
     |succ i=>exact ih hl.2 i (by simpa using hi)
   have hrd:∀i (hi:i<xs.length),Rd w S xs[i] (vs.toList.getD i Go.undef):=fun i hi=>cQ (hxs.2 i hi) (lab xs hU i hi);refine ⟨hfn.1,?_⟩;cases own with
   |true=>exact owned xs post ⟨hxs.1,fun i hi=>(hrd i hi).mono (fun _ _=>rfl) fun b hb=>(h.sB b hb).1⟩ hfn gP
   |false=>
    refine (hfn.2 w S vs (fun b hb=>(h.sB b hb).1) h.jf (by simpa using hxs.1) hrd).mono ?_;rintro e w' ⟨r,v,rfl,hr,hg,kc⟩;simp only [iN,Bool.false_eq_true,if_false] at kc;have hRS:=(h.grown hg).hold (fun b=>w.heap.size<=b/\b<w'.heap.size) (fun b hb=>⟨hb.2,Nat.le_trans h.size hb.1,fun l hl=>by have:=(h.cw l b hl).1;omega⟩);exact ⟨v,rfl,φ,fp,_,ts,m,r,hRS,.rd _ _ kc,fun l af hl=>(by rw [fX kc] at hl;cases hl),rfl,gP r hr⟩
 obtain ⟨trs,hct,hrd⟩:=sZ h xs vs.toList [] [] hxs ⟨rfl,fun i hi=>absurd hi (q13 _)⟩ hk';rw [List.nil_append] at hrd;rcases hct with hct|hct
 . exact io hct
 obtain ⟨own,post,hfn,Ra,gP⟩:=hct;refine ⟨hfn.1,?_⟩;cases own with
 |true=>exact owned trs post hrd hfn gP
 |false=>exact absurd (Ra rfl) hU
theorem CH (h:RS B N φ fp S ts m a w) (l:List Operand):pq (RV w S φ) (l.map (Vc.ev ts)) (l.map a.eval):=by refine ⟨by simp,fun i hi=> ?_⟩;simp only [List.length_map] at hi;simp only [List.getElem_map,q3,List.getElem?_map,q4 hi,Option.map_some,Option.getD_some];exact h.ev _
theorem qe (l:Array (Nat × Operand)) (a:Act):(l.map fun (i,x)=>(i,a.eval x))=((l.toList.map fun p=>(p.1,a.eval p.2)).toArray):=by apply Array.ext';simp
theorem JS {t:TypeId} {ti:TI} (ht:aK P t=some ti) (hks:ti.kind= .slice) (a:Option Addr) (n c:Nat) (w:World):(Op.equal t (.slice a n c) (.slice none 0 0)).run P w= .ok a.isNone w:=by
 have hu:=bS ht hks;show (Op.equalIn (9999+1) t (.slice a n c) (.slice none 0 0)).run P w=_;have:(underlying t).run P w= .ok (.slice ti.elem) w:=by simp [underlying,hu]
 rw [Op.equalIn,Sem.run_bind,this];cases a<;>rfl
theorem EP (h:RS B N φ fp S ts m a w) {x:AV} {u:Value} (hx:RV w S φ x u) {k:Bool->Prop} (hk:qd x m k):∃ad n c,u= .slice ad n c/\k ad.isNone:=by
 unfold qd at hk;split at hk
 . rename_i sh xs;cases hx with
   |rd _ _ hr=>cases hr with
    |nil _ ad=>exact ⟨ad,0,0,rfl,hk _ fun _=>rfl⟩
    |arr _ _ b off cap cs e fr _ _ _ _ _ _=>exact ⟨_,_,_,rfl,hk _ fun e=>by simp at e⟩
 . rename_i l v i n;obtain ⟨r1,r2⟩:=dt hx;unfold gh at hk;split at hk
   . rename_i v' xs hlk;obtain ⟨rfl,hk⟩:=hk;obtain ⟨b,cs,e,sh,hφ,_⟩:=h.aF l _ hlk;obtain ⟨ad,cap,rfl,hn,hc⟩:=r1 b sh hφ;refine ⟨ad,n,cap,rfl,hk _ fun e=> ?_⟩;rcases hc with rfl|⟨rfl,_⟩
     . omega
     simp at e
   . rename_i v' sh d xs hlk;obtain ⟨rfl,hk⟩:=hk;rcases h.aF l _ hlk with ⟨h1,_⟩|⟨b,cap,hφ,_⟩
     . obtain ⟨rfl,ad,rfl⟩:=r2 h1;exact ⟨ad,0,0,rfl,hk _ fun _=>rfl⟩
     obtain ⟨ad,cap,rfl,hn,hc⟩:=r1 b sh hφ;refine ⟨ad,n,cap,rfl,hk _ fun e=> ?_⟩;rcases hc with rfl|⟨rfl,_⟩
     . omega
     simp at e
   exact hk.elim
 . cases hx with
   |rd _ _ hr=>cases hr with
    |e0 ad=>exact ⟨ad,0,0,rfl,hk _⟩
 . obtain ⟨rfl,_⟩:=aS hx;exact ⟨none,0,0,rfl,hk⟩
 exact hk.elim
theorem Od {op:BinOp} {t:TypeId} {ti:TI} (h:RS B N φ fp S ts m a w) (ht:aK P t=some ti) {x y:AV} {u v:Value} (hx:RV w S φ x u) (hy:RV w S φ y v) {ox oy:Operand} {k:AV->Prop}
 (hk:lH op ti.kind x y (Vn oy) m k):∃r,(do eqGuard op t ox oy u v;binOp op t u v:Sem Value).run P w= .ok r w/\KJ k r:=by
 unfold lH at hk;split at hk
 . rename_i hks;obtain ⟨ad,n,c,rfl,hk⟩:=EP h hx hk;obtain ⟨rfl,_⟩:=aS hy;refine ⟨.bool ad.isNone,?_,rfl,hk⟩;have:(binOp .eql t (.slice ad n c) (.slice none 0 0)).run P w= .ok (.bool ad.isNone) w:=by
    simp only [binOp,Sem.run_bind,JS ht hks];rfl
   simp only [Sem.run_bind];have hg:(eqGuard .eql t ox oy (.slice ad n c) (.slice none 0 0)).run P w= .ok () w:=by simp [eqGuard]
   rw [hg];exact this
 . rename_i hks;obtain ⟨ad,n,c,rfl,hk⟩:=EP h hx hk;obtain ⟨rfl,_⟩:=aS hy;refine ⟨.bool (!ad.isNone),?_,rfl,hk⟩;have:(binOp .neq t (.slice ad n c) (.slice none 0 0)).run P w= .ok (.bool (!ad.isNone)) w:=by
    simp only [binOp,Sem.run_bind,JS ht hks];rfl
   simp only [Sem.run_bind];have hg:(eqGuard .neq t ox oy (.slice ad n c) (.slice none 0 0)).run P w= .ok () w:=by simp [eqGuard]
   rw [hg];exact this
 . rename_i hks;obtain ⟨ms,hu⟩:=Hi ht hks;obtain ⟨rfl,_⟩:=aS hy;have e1:∀(d:Nat) u x,(Op.equalIn (d+1) t (.iface u x) .nilIface).run P w= .ok false w:=fun d u x=>by rw [Op.equalIn];simp [run_underlying hu]
   have e2:∀(d:Nat),(Op.equalIn (d+1) t .nilIface .nilIface).run P w= .ok true w:=fun d=>by rw [Op.equalIn];simp [run_underlying hu]
   have g1:∀op u x,(eqGuard op t ox oy (.iface u x) .nilIface).run P w= .ok () w:=fun op u x=>by cases op<;>simp [eqGuard]
   have g2:∀op,Vn oy=true->(eqGuard op t ox oy .nilIface .nilIface).run P w= .ok () w:=fun op hc=>by cases oy<;>simp [Vn] at hc;cases op<;>simp [eqGuard]
   unfold Hq at hk;split at hk
   . obtain ⟨rfl,_⟩:=aS hx;exact ⟨_,(by simp only [Sem.run_bind,g2 _ hk.1,Result.andThen_ok,binOp,Op.equal,Op.maxDepth];simp [e2]),rfl,hk.2⟩
   . obtain ⟨rfl,_⟩:=aS hx;exact ⟨_,(by simp only [Sem.run_bind,g2 _ hk.1,Result.andThen_ok,binOp,Op.equal,Op.maxDepth];simp [e2]),rfl,hk.2⟩
   . obtain ⟨rfl,_⟩:=aS hx;exact ⟨_,(by simp only [Sem.run_bind,g1,Result.andThen_ok,binOp,Op.equal,Op.maxDepth];simp [e1]),rfl,hk⟩
   . obtain ⟨rfl,_⟩:=aS hx;exact ⟨_,(by simp only [Sem.run_bind,g1,Result.andThen_ok,binOp,Op.equal,Op.maxDepth];simp [e1]),rfl,hk⟩
   exact hk.elim
 exact RJ ht hx hy hk
theorem xn {src t e:TypeId} {sh:Sh} {bs:lU} {v:Value} (hs:P.underlying src=some (.slice e)) (he:P.underlying e=some (.int .u8)) (ht:P.underlying t=some .string)
 (h:Rd w (pn w) (.arr sh (bs.map fun b=>.val (.int .u8 b.toNat))) v):(convert src t v).run P w= .ok (.string ⟨bs.toArray⟩) w:=by
 have jy:∀(ad:Option Addr),(convert src t (.slice ad 0 0)).run P w= .ok (.string ⟨#[]⟩) w:=by
  intro ad;cases ad with
  |none=>simp only [convert,Sem.run_bind,run_underlying hs,run_underlying ht,run_underlying he,Result.andThen_ok];rfl
  |some ad=>
   have:=run_convert_bytes_back (P:=P) w src t e ad 0 [] hs he ht (fun j hj=>absurd hj (q13 _));simpa using this
 generalize hxs:bs.map (fun b=>AV.val (.int .u8 b.toNat))=xs at h;have hlen:xs.length=bs.length:=by rw [←hxs];simp
 cases h with
 |nil sh ad=>
  have:bs=[]:=q2 (by rw [←hlen];rfl);subst this;exact jy ad
 |arr sh xs b off cap cs e2 fr hS hb cj hl hf hv=>
  rw [hlen];refine run_convert_bytes_back (P:=P) w src t e ⟨b,off,none⟩ cap bs hs he ht fun j hj=> ?_;have hj2:j<xs.length:=by omega
  have h1:=hf j hj2;have h2:=hv j hj2;have hx:xs[j]= .val (.int .u8 bs[j].toNat):=by simp [←hxs]
  rw [hx] at h1 h2;obtain ⟨ha,hz⟩:=h1;have e1:sh=⟨1,false⟩:=by cases sh;simp_all
  subst e1;have h4:elemV cs.toList (off+j*1) ⟨1,false⟩= .int .u8 bs[j].toNat:=by generalize elemV cs.toList (off+j*1) ⟨1,false⟩=u at h2;cases h2;rfl
  rw [aW,Nat.mul_one] at h4;have h5:off+j<cs.size:=by simp only [Nat.mul_one] at hl;omega
  rw [q3,q1,q0 h5] at h4;have e3:(⟨b,off,none⟩:Addr).add j=⟨b,off+j,none⟩:=by unfold Addr.add;split<;>simp_all
  rw [e3];simp only [World.cell?,hb,Option.isSome_none,Bool.false_eq_true,↓reduceIte,q0 h5];exact congrArg some h4
theorem R9 {n:Int} (h0:0<=n) (h1:n<128):(Conv.intToString n).run P w= .ok (.string ⟨#[UInt8.ofNat n.toNat]⟩) w:=by
 have hv:Utf8.valid n=true:=by unfold Utf8.valid;simp;omega
 have:Utf8.encode n=⟨#[UInt8.ofNat n.toNat]⟩:=by unfold Utf8.encode;simp only [hv,if_true];rw [if_pos (by omega)]
 simp only [Conv.intToString,this];rfl
theorem gm {o:Oper} {next:Act->World->Prop} {Q:Exit->Act->World->Prop} (h:RS B N φ fp S ts m a w) {k:AV->Mem->Prop} (hk:iL P (o.dst.getD 0) o.op ts m k)
 (G7:∀v w',iw B N a (fun x ts' m'=>ts'=ts/\k x m') v w'->next (a.put o.dst v) w'):o.wp P a w next Q:=by
 have V:∀s:Sem Value,execOp a.eval o=(do pure (.value (←s)):Sem Next)->iI B N a (fun x ts' m'=>ts'=ts/\k x m') (s.run P w)->o.wp P a w next Q:=by intro s hs ⟨v,w',h1,h2⟩;unfold Oper.wp;rw [hs];simp only [Sem.run_bind,h1,Result.andThen_ok,Sem.run_pure];exact G7 v w' h2
 have Vm:∀s:Sem Value,∀k':AV->Prop,execOp a.eval o=(do pure (.value (←s)):Sem Next)->iI B N a (fun x ts' m'=>ts'=ts/\m'=m/\k' x) (s.run P w)->(∀x,k' x->k x m)->o.wp P a w next Q:=by intro s k' hs hr hkk;exact V s hs (hr.mono fun x ts m ⟨h1,h2,h3⟩=>⟨h1,by rw [h2];exact hkk x h3⟩)
 have V0:∀(x:AV) (v:Value),execOp a.eval o=(pure (.value v):Sem Next)->RV w S φ x v->(∀l af,(l,af)∈ao x->known m l af)->k x m->o.wp P a w next Q:=by intro x v hs hx hl hkx;unfold Oper.wp;rw [hs];exact G7 v w (h.gives hx hl ⟨rfl,hkx⟩)
 cases hop:o.op with
 |move x=>
  rw [hop] at hk;exact V0 _ (a.eval x) (by simp only [execOp,hop]) (h.ev x) (h.DQ x) hk
 |assign x=>
  rw [hop] at hk;exact V0 _ (a.eval x) (by simp only [execOp,hop]) (h.ev x) (h.DQ x) hk
 |pick c x y=>
  rw [hop] at hk;have hk:p6 (Vc.ev ts c) (Vc.ev ts x) (Vc.ev ts y) fun v=>k v m:=hk;have hc:=h.ev c;unfold p6 at hk;split at hk
  . rename_i cb hcv;rw [hcv] at hc;obtain ⟨hcc,_⟩:=aS hc;cases cb with
    |true=>exact V0 _ (a.eval x) (by simp [execOp,hop,←hcc,asBool]) (h.ev x) (h.DQ x) (hk.1 rfl)
    |false=>exact V0 _ (a.eval y) (by simp [execOp,hop,←hcc,asBool]) (h.ev y) (h.DQ y) (hk.2 rfl)
  exact hk.elim
 |alloc t=>
  rw [hop] at hk;obtain ⟨ti,ht,hk⟩:=bL hk;exact V _ (by simp only [execOp,hop]) (KQ h ht _ hk)
 |box t x=>
  rw [hop] at hk;exact V _ (by simp only [execOp,hop]) (JK h (h.ev x) (h.DQ x) t _ hk)
 |build t parts=>
  rw [hop] at hk;obtain ⟨ti,ht,hk⟩:=bL hk;obtain ⟨hks,hk⟩:=R6 hk;refine Vm (Instr.build t ((parts.toList.map fun p=>(p.1,a.eval p.2)).toArray)) (fun x=>k x m) (by simp only [execOp,hop,qe]) ?_ (fun _ h=>h);exact Ho ht hks (fun fs hfs f hf=>(sX ht fs hfs f hf).1) h (N4 h parts.toList) (KY h parts.toList) hk
 |buildSlice t n parts=>
  rw [hop] at hk;obtain ⟨tt,htt,hk⟩:=bL hk;obtain ⟨hks,hk⟩:=nk hk;obtain ⟨ti,ht,hk⟩:=bL hk;refine V (Instr.buildSlice t n ((parts.toList.map fun p=>(p.1,a.eval p.2)).toArray)) (by simp only [execOp,hop,qe]) ?_;exact vD htt hks ht h (N4 h parts.toList) _ n hk
 |load t x=>
  rw [hop] at hk;obtain ⟨ti,ht,hk⟩:=bL hk;exact V _ (by simp only [execOp,hop]) (KO ht h (h.ev x) (h.DQ x) hk)
 |store t p y=>
  rw [hop] at hk;obtain ⟨ti,ht,hk⟩:=bL hk;obtain ⟨w',hr,φ',fp',S',ts',m',hRS,rfl,hkk⟩:=Hn ht h (h.ev p) (h.ev y) (h.DQ y) hk;unfold Oper.wp;simp only [execOp,hop,Sem.run_bind,hr,Result.andThen_ok,Sem.run_pure];exact G7 _ w' (hRS.gives (x:=.undef) (.rd _ _ (.undef _)) (fun _ _ hl=>by cases hl) ⟨rfl,hkk⟩)
 |nilCheck x=>
  rw [hop] at hk;have hk:rM m (Vc.ev ts x) fun v=>k v m:=hk;have hx:=h.ev x;have hxl:=h.DQ x;unfold rM at hk;split at hk
  . rename_i l v i j hv;rw [hv] at hx hxl;obtain ⟨⟨b,sh,hφ⟩,hk⟩:=EO h (vT hx).1 hk;have:=j3 hx b sh hφ;exact V0 _ (a.eval x) (by simp only [execOp,hop,this]) hx hxl hk
  . rename_i sh xs i j hv;rw [hv] at hx hxl;have hx':=pg hx;cases hq:a.eval x with
    |pointer ad=>
     rw [hq] at hx';cases hx';exact V0 _ _ (by simp only [execOp,hop,hq]) (hq▸hx) hxl hk
    |_=>rw [hq] at hx';cases hx'
  . rename_i f xs hv;rw [hv] at hx hxl;obtain ⟨cs,hcs,_⟩:=Ct hx;exact V0 _ (a.eval x) (by simp only [execOp,hop,hcs]) hx hxl hk
  exact hk.elim
 |binOp op t x y ty=>
  rw [hop] at hk;obtain ⟨ti,ht,hk⟩:=bL hk;obtain ⟨r,hr,h1,h2⟩:=NO (h.ev x) (h.ev y) (ox:=x) (oy:=y) hk fun hk=>Od h ht (h.ev x) (h.ev y) (ox:=x) (oy:=y) hk;exact V _ (by simp only [execOp,hop]) ⟨r,w,hr,h.fe h1 ⟨rfl,h2⟩⟩
 |unOp op t x=>
  rw [hop] at hk;have hx:=h.ev x;cases op with
  |not=>
   have hk:zn (Vc.ev ts x) fun v=>k v m:=hk;unfold zn at hk;split at hk
   . rename_i b hv;rw [hv] at hx;obtain ⟨hb,_⟩:=aS hx;exact V (Op.unary .not (a.eval x)) (by simp only [execOp,hop]) ⟨.bool (!b),w,by rw [←hb];rfl,h.fe rfl ⟨rfl,hk⟩⟩
   exact hk.elim
  |neg=>
   have hk:Cs (Vc.ev ts x) fun v=>k v m:=hk;unfold Cs at hk;split at hk
   . rename_i i n hv;rw [hv] at hx;obtain ⟨hb,_⟩:=aS hx;exact V (Op.unary .neg (a.eval x)) (by simp only [execOp,hop]) ⟨.int i (i.wrap (0-n)),w,by rw [←hb];rfl,h.fe rfl ⟨rfl,ph (c:=fun v=>k v m) hk⟩⟩
   exact hk.elim
  |_=>exact hk.elim
 |convert src t x=>
  rw [hop] at hk;obtain ⟨si,hsi,hk⟩:=bL hk;obtain ⟨ti,ht,hk⟩:=bL hk;have hx:=h.ev x;obtain ⟨_,sd,_,_,hsd,_⟩:=fy hsi;unfold kL at hk;split at hk
  . rename_i hks hkd;obtain ⟨ei,hei,hk⟩:=bL hk;unfold xh at hk;split at hk
    . rename_i hke;unfold s0 at hk;split at hk
      . rename_i s hv;rw [hv] at hx;obtain ⟨hb,_⟩:=aS hx;obtain ⟨hl,hk⟩:=hk;refine V (convert src t (a.eval x)) (by simp only [execOp,hop]) ?_;rw [←hb];exact KU h (eA hsi hks) (bS ht hkd) (ry hei hke) hl _ hk
      exact hk.elim
    exact hk.elim
  unfold fR at hk;split at hk
  . rename_i hks hkd;obtain ⟨ei,hei,hk⟩:=bL hk;unfold xh at hk;split at hk
    . rename_i hke;obtain ⟨y,hk,hrd,_,_⟩:=sY h hx hk;unfold oL at hk;split at hk
      . rename_i sh xs;obtain ⟨bs,rfl,hk2⟩:=uN hk;refine V (convert src t (a.eval x)) (by simp only [execOp,hop]) ⟨.string ⟨bs.toArray⟩,w,?_,h.fe rfl ⟨rfl,hk2⟩⟩;exact xn (bS hsi hks) (ry hei hke) (eA ht hkd) hrd
      exact hk.elim
    exact hk.elim
  . rename_i i hks hkd;unfold EK at hk;split at hk
    . rename_i j n hv;rw [hv] at hx;obtain ⟨hb,_⟩:=aS hx;obtain ⟨⟨h0,h1⟩,hk⟩:=hk;refine V (convert src t (a.eval x)) (by simp only [execOp,hop]) ⟨.string ⟨#[UInt8.ofNat n.toNat]⟩,w,?_,h.fe rfl ⟨rfl,hk⟩⟩;rw [←hb];simp only [convert,Sem.run_bind,run_underlying (ry hsi hks),run_underlying (eA ht hkd),Result.andThen_ok];exact R9 h0 h1
    exact hk.elim
  unfold ub at hk;split at hk
  . rename_i i j n hkd hv;rw [hv] at hx;obtain ⟨hb,_⟩:=aS hx;refine V (convert src t (a.eval x)) (by simp only [execOp,hop]) ⟨.int i (i.wrap n),w,?_,h.fe rfl ⟨rfl,ph (c:=fun v=>k v m) hk⟩⟩;rw [←hb];simp only [convert,Sem.run_bind,run_underlying hsd,run_underlying (ry ht hkd),Result.andThen_ok];cases sd<;>rfl
  . rename_i s hkd hv;rw [hv] at hx;obtain ⟨hb,_⟩:=aS hx;refine V (convert src t (a.eval x)) (by simp only [execOp,hop]) ⟨.string s,w,?_,h.fe rfl ⟨rfl,hk⟩⟩;rw [←hb];simp only [convert,Sem.run_bind,run_underlying hsd,run_underlying (eA ht hkd),Result.andThen_ok];cases sd<;>rfl
  exact hk.elim
 |makeSlice t l c=>
  rw [hop] at hk;obtain ⟨tt,htt,hk⟩:=bL hk;obtain ⟨hks,hk⟩:=nk hk;obtain ⟨ti,ht,hk⟩:=bL hk;exact V _ (by simp only [execOp,hop]) (KR htt hks ht h (h.ev l) (h.ev c) _ hk)
 |slice t x lo hi mx=>
  rw [hop] at hk;have BVm:∀q:Option Operand,BV w S φ (q.map (Vc.ev ts)) (q.map a.eval):=by
   intro q;cases q with
   |none=>trivial
   |some q=>exact h.ev q
  cases mx with
  |none=>
   have hk:ew (aK P t) fun tt=>nh P tt (Vc.ev ts x) (lo.map (Vc.ev ts)) (hi.map (Vc.ev ts)) m fun v=>k v m:=by cases lo<;>exact hk
   obtain ⟨tt,htt,hk⟩:=bL hk;have hx:=h.ev x;have hxl:=h.DQ x;generalize Vc.ev ts x=xv at hx hxl hk;unfold nh at hk;split at hk
   . rename_i hkd;obtain ⟨hs,hk⟩:=hk;refine Vm (Instr.sliceAt t (a.eval x) (lo.map a.eval) (hi.map a.eval) none) (fun x=>k x m) (by simp only [execOp,hop];rfl) ?_ (fun _ h=>h);refine wM htt ⟨0,false⟩ (fun hc=>by rw [hkd] at hc;cases hc) (.inr hkd) h hx hxl (BVm lo) (BVm hi) ⟨fun hc=>(by rw [hkd] at hc;cases hc),fun hc=> ?_⟩ hk;split at hs
     . exact absurd rfl (hc _)
     exact hs.elim
   . rename_i hkd;obtain ⟨hs,hk⟩:=hk;obtain ⟨ti,ht,hk⟩:=bL hk;refine Vm (Instr.sliceAt t (a.eval x) (lo.map a.eval) (hi.map a.eval) none) (fun x=>k x m) (by simp only [execOp,hop];rfl) ?_ (fun _ h=>h);refine wM htt ti.sh (fun _=>⟨ti,ht,rfl⟩) (.inl hkd) h hx hxl (BVm lo) (BVm hi) ⟨fun _ s hc=> ?_,fun _=>hkd⟩ hk;rw [hc] at hs;exact hs
   exact hk.elim
  |some mv=>
   cases lo with
   |some lv=>exact hk.elim
   |none=>
    obtain ⟨⟨h0,hm0⟩,hk⟩:=hk;obtain ⟨tt,htt,hk⟩:=bL hk;obtain ⟨hks,hk⟩:=nk hk;obtain ⟨ti,ht,hk⟩:=bL hk;have hx:=h.ev x;have hsl:(∃ad n c,a.eval x= .slice ad n c)/\k .e0 m:=by
     generalize a.eval x=u at hx;generalize Vc.ev ts x=xv at hx hk;unfold jB at hk;split at hk
     . cases l7 hx with
       |nil _ ad=>exact ⟨⟨_,_,_,rfl⟩,hk⟩
       |arr=>exact ⟨⟨_,_,_,rfl⟩,hk⟩
     . rename_i l v i n;have hr:=dt hx;unfold gh at hk;split at hk
       . rename_i v' xs hlk;obtain ⟨rfl,hk⟩:=hk;obtain ⟨b,cs,e,sh,hφ,_⟩:=h.aF l _ hlk;obtain ⟨ad,c,rfl,_⟩:=hr.1 b sh hφ;exact ⟨⟨_,_,_,rfl⟩,hk⟩
       . rename_i v' sh d xs hlk;obtain ⟨rfl,hk⟩:=hk;rcases h.aF l _ hlk with ⟨h1,_⟩|⟨b,cap,hφ,_⟩
         . obtain ⟨rfl,ad,rfl⟩:=hr.2 h1;exact ⟨⟨_,_,_,rfl⟩,hk⟩
         obtain ⟨ad,c,rfl,_⟩:=hr.1 b sh hφ;exact ⟨⟨_,_,_,rfl⟩,hk⟩
       exact hk.elim
     obtain ⟨h1,hk⟩:=hk;unfold isNil at h1;split at h1
     . obtain ⟨ad,rfl⟩:=ru hx;exact ⟨⟨_,_,_,rfl⟩,hk⟩
     . obtain ⟨rfl,_⟩:=aS hx;exact ⟨⟨_,_,_,rfl⟩,hk⟩
     cases h1
    obtain ⟨⟨ad,n,c,hu⟩,hk⟩:=hsl;have z0:∀q:Option Operand,WS q=true->∃j,q.map a.eval=some (.int j 0):=by
     intro q hq;unfold WS at hq;split at hq
     . rename_i j n;have:n=0:=by simpa using hq
       subst this;exact ⟨j,rfl⟩
     cases hq
    obtain ⟨jh,ejh⟩:=z0 hi h0;obtain ⟨jm,ejm⟩:=z0 (some mv) hm0;refine V (Instr.sliceAt t (a.eval x) none (hi.map a.eval) ((some mv).map a.eval)) (by simp only [execOp,hop,Option.map_none]) ⟨.slice ad 0 0,w,?_,h.gives (x:=.e0) (.rd _ _ (.e0 _)) (fun _ _ hl=>by cases hl) ⟨rfl,hk⟩⟩;rw [hu,ejh,ejm];have Y1:=bS htt hks;unfold Instr.sliceAt;simp [run_underlying Y1,Instr.slice,Instr.sliceBounds,run_sliceBound,jn ht]
 |fieldAddr t x f=>
  rw [hop] at hk;obtain ⟨ti,ht,hk⟩:=bL hk;obtain ⟨fd,hf,hsz,hk⟩:=EM hk;exact Vm _ (fun x=>k x m) (by simp only [execOp,hop]) (KW ht h (h.ev x) (h.DQ x) hf hsz hk) (fun _ h=>h)
 |field t x f=>
  rw [hop] at hk;obtain ⟨ti,ht,hk⟩:=bL hk;obtain ⟨fd,hf,hk⟩:=EM hk;have hx:=h.ev x;have hxl:=h.DQ x;unfold qz at hk;split at hk
  . rename_i ys hv;rw [hv] at hx hxl;exact Vm _ (fun x=>k x m) (by simp only [execOp,hop]) (Hr h hx hxl ht hf hk ⟨_,rfl⟩) (fun _ h=>h)
  exact hk.elim
 |indexAddr t x i=>
  rw [hop] at hk;obtain ⟨tt,htt,hk⟩:=bL hk;obtain ⟨hks,hk⟩:=nk hk;obtain ⟨ti,ht,hk⟩:=bL hk;exact Vm _ (fun x=>k x m) (by simp only [execOp,hop]) (Oc htt hks ht h (h.ev x) (h.DQ x) (h.ev i) hk) (fun _ h=>h)
 |index t x i=>
  rw [hop] at hk;obtain ⟨tt,htt,hkd,hk⟩:=bL hk;have hks:tt.kind= .string:=by generalize tt.kind=kk at hkd;cases kk<;>first|rfl|exact hkd.elim
  exact Vm _ (fun x=>k x m) (by simp only [execOp,hop]) (KX (eA htt hks) h (h.ev x) (h.ev i) hk) (fun _ h=>h)
 |extract x i=>
  rw [hop] at hk;have hk:zp i (Vc.ev ts x) fun v=>k v m:=hk;have hx:=h.ev x;have hxl:=h.DQ x;unfold zp at hk;split at hk
  . rename_i xs hv;rw [hv] at hx hxl;cases hi:xs[i]? with
    |none=>rw [hi] at hk;exact hk.elim
    |some y=>
     rw [hi] at hk;obtain ⟨hi1,hi2⟩:=q5.1 hi;obtain ⟨cs,hcs,h1,h2⟩:=Vb hx;have hlt:i<cs.size:=by omega
     have e:cs[i]? =some (cs.toList.getD i Go.undef):=by rw [q3,q1,q0 hlt];rfl
     refine V (Instr.extract (a.eval x) i) (by simp only [execOp,hop]) ⟨cs.toList.getD i Go.undef,w,?_,h.gives (x:=y) ?_ (fun l af hl=> ?_) ⟨rfl,hk⟩⟩
     . rw [hcs];simp only [Instr.extract,e,Sem.run_pure]
     . have:=h2 i hi1
       rwa [hi2] at this
     exact hxl l af (by simp only [ao];exact bw hi1 (by rw [hi2];exact hl))
  exact hk.elim
 |call c=>
  rw [hop] at hk;have BI:∀(b:Builtin) (s:Sem Value),c.callee= .builtin b->(∀cs,builtin b c.argTypes o.type cs (c.args.map a.eval)=(do pure (.value (←s)):Sem Next))->iI B N a (fun x ts' m'=>ts'=ts/\k x m') (s.run P w)->o.wp P a w next Q:=by intro b s hc hb hr;refine V s ?_ hr;simp only [execOp,hop,resolve,hc,pure_bind,invoke,hb]
  have ha:∀l,c.args.toList=l->c.args.map a.eval=(l.map a.eval).toArray:=by intro l hl;apply Array.ext';simp [←hl]
  have hk:(match c.callee,c.args.toList with
   | .builtin .len,[x]=>match c.argTypes.toList with|t::_=>ew (aK P t) fun ti=>mX ti.kind m (Vc.ev ts x) fun v=>k v m| []=>False
   | .builtin .max,[x,y]=>zo (Vc.ev ts x) (Vc.ev ts y) fun v=>k v m
   | .builtin .min,[x,y]=>mV (Vc.ev ts x) (Vc.ev ts y) fun v=>k v m
   | .builtin .min,[x,y,z]=>mV (Vc.ev ts x) (Vc.ev ts y) fun u=>mV u (Vc.ev ts z) fun v=>k v m
   | .builtin .append,[x,y]=>kK P c.argTypes.toList (o.dst.getD 0) (Vc.ev ts x) (Vc.ev ts y) m k
   | .value (.func f),xs=>nX P f (o.dst.getD 0) (xs.map (Vc.ev ts)) m k
   | .value (.tmp t),xs=>ni P (look ts t) (o.dst.getD 0) (xs.map (Vc.ev ts)) m k
   |_,_=>False):=hk
  split at hk
  . rename_i x hc hx;split at hk
    . rename_i t r hty;obtain ⟨ti,ht,hk⟩:=bL hk;have hr:=R8 (ty:=o.type) ht h (h.ev x) hk;refine BI _ (Builtin.len_ c.argTypes o.type (c.args.map a.eval)) hc (fun _=>rfl) ?_;have e0:c.argTypes=(t::r).toArray:=by apply Array.ext';simpa using hty
      have el:(Builtin.len_ c.argTypes o.type (c.args.map a.eval)).run P w=(Builtin.len_ #[t] o.type #[a.eval x]).run P w:=by rw [ha _ hx,e0];simp [Builtin.len_]
      rw [el];exact hr.mono fun x ts m ⟨h1,h2,h3⟩=>⟨h1,by rw [h2];exact h3⟩
    exact hk.elim
  . rename_i x y hc hx;have h1:=h.ev x;have h2:=h.ev y;unfold zo at hk;split at hk
    . rename_i i p j q e1 e2;rw [e1] at h1;rw [e2] at h2;obtain ⟨g1,_⟩:=aS h1;obtain ⟨g2,_⟩:=aS h2;refine BI _ (Builtin.max_ c.argTypes o.type (c.args.map a.eval)) hc (fun _=>rfl) ⟨_,w,?_,h.fe rfl ⟨rfl,hk⟩⟩;rw [ha _ hx];simp [Builtin.max_,←g1,←g2,Builtin.max2]
    exact hk.elim
  . rename_i x y hc hx;have h1:=h.ev x;have h2:=h.ev y;unfold mV at hk;split at hk
    . rename_i i p j q e1 e2;rw [e1] at h1;rw [e2] at h2;obtain ⟨g1,_⟩:=aS h1;obtain ⟨g2,_⟩:=aS h2;refine BI _ (Builtin.min_ c.argTypes o.type (c.args.map a.eval)) hc (fun _=>rfl) ⟨_,w,?_,h.fe rfl ⟨rfl,hk⟩⟩;rw [ha _ hx];simp [Builtin.min_,←g1,←g2,Builtin.min2]
    exact hk.elim
  . rename_i x y z hc hx;have h1:=h.ev x;have h2:=h.ev y;have h3:=h.ev z;have hk:mV (Vc.ev ts x) (Vc.ev ts y) fun u=>mV u (Vc.ev ts z) fun v=>k v m:=hk;generalize e1:Vc.ev ts x=X at hk h1;generalize e2:Vc.ev ts y=Y at hk h2;generalize e3:Vc.ev ts z=Z at hk h3;cases X with
    |val X=>
     cases X with
     |int i p=>
      cases Y with
      |val Y=>
       cases Y with
       |int j q=>
        cases Z with
        |val Z=>
         cases Z with
         |int j2 r=>
          obtain ⟨g1,_⟩:=aS h1;obtain ⟨g2,_⟩:=aS h2;obtain ⟨g3,_⟩:=aS h3;refine BI _ (Builtin.min_ c.argTypes o.type (c.args.map a.eval)) hc (fun _=>rfl) ⟨_,w,?_,h.fe rfl ⟨rfl,hk⟩⟩;rw [ha _ hx];simp [Builtin.min_,←g1,←g2,←g3,Builtin.min2]
         |_=>exact hk.elim
        |_=>exact hk.elim
       |_=>exact hk.elim
      |_=>exact hk.elim
     |_=>exact hk.elim
    |_=>exact hk.elim
  . rename_i x y hc hx;unfold kK at hk;split at hk
    . rename_i t t' Y2;obtain ⟨tt,htt,hk⟩:=bL hk;obtain ⟨hks,hk⟩:=nk hk;obtain ⟨tt',vP,hk⟩:=bL hk;obtain ⟨vQ,hk⟩:=nk hk;obtain ⟨ti,ht,hk⟩:=bL hk;have et:c.argTypes= #[t,t']:=by apply Array.ext';simpa using Y2
      refine BI _ (Builtin.append_ c.argTypes o.type (c.args.map a.eval)) hc (fun _=>rfl) ?_;rw [ha _ hx,et];exact NZ htt hks vP vQ ht h (h.ev x) (h.ev y) (h.DQ x) _ hk
    exact hk.elim
  . rename_i f hc
    obtain ⟨⟨fn,cd,hf,hnm,hbd⟩,Jz⟩:=xm (vs:=c.args.map a.eval) h (by simpa using CH h c.args.toList) (fun i hi l af hl=>by rw [List.getElem_map] at hl;exact h.DQ _ l af hl) hk
    have hex:(execOp a.eval o).run P w= .ok (.enter f (c.args.map a.eval)) w:=by
     have Wp:¬fn.name= "runtime.NumGoroutine" :=by simpa using hnm
     simp [execOp,hop,resolve,hc,Act.eval,Deferred.ofValue,invoke,callFunc,hf,Wp,hbd]
    unfold Oper.wp;rw [hex,Oper.upon_enter];refine Jz.mono ?_;rintro e w' ⟨v,rfl,hg⟩;exact G7 v w' hg
  . rename_i t hc;unfold ni at hk;split at hk
    . rename_i f ys hf0;have hx:=h.tm t;rw [hf0] at hx;obtain ⟨cs,hcs,hl,hy⟩:=Ct hx;have hap:pq (RV w S φ) (c.args.toList.map (Vc.ev ts)++ys) (c.args.map a.eval++cs).toList:=by
       have h1:=CH h c.args.toList;refine ⟨by simp [hl],fun i hi=> ?_⟩;rw [Array.toList_append,Array.toList_map,List.getElem_append];split
       . rename_i hi1;have:=h1.2 i hi1;rw [q3] at this ⊢;rw [List.getElem?_append_left (by simpa using hi1)];exact this
       rename_i hi1;have hi2:i-(c.args.toList.map (Vc.ev ts)).length<ys.length:=by rw [List.length_append] at hi;omega
       have:=hy _ hi2;rw [q3] at this ⊢;rw [List.getElem?_append_right (by simpa using hi1)];simpa using this
      obtain ⟨⟨fn,cd,hf,hnm,hbd⟩,Jz⟩:=xm (vs:=c.args.map a.eval++cs) h hap (fun i hi l af hl=>by
       rw [List.getElem_append] at hl;split at hl
       . rw [List.getElem_map] at hl;exact h.DQ _ l af hl
       exact h.tl t l af (by rw [hf0];simp only [ao];exact bw (by rw [List.length_append] at hi;omega) hl)) hk
      have hex:(execOp a.eval o).run P w= .ok (.enter f (c.args.map a.eval++cs)) w:=by
       have Wp:¬fn.name= "runtime.NumGoroutine" :=by simpa using hnm
       have Y3:a.tmps.getD t Go.undef= .func (.func f) #[] cs:=hcs;simp [execOp,hop,resolve,hc,Act.eval,Y3,Deferred.ofValue,invoke,callFunc,hf,Wp,hbd]
      unfold Oper.wp;rw [hex,Oper.upon_enter];refine Jz.mono ?_;rintro e w' ⟨v,rfl,hg⟩;exact G7 v w' hg
    exact hk.elim
  exact hk.elim
 |makeFunc fn first caps=>
  rw [hop] at hk;cases fn with
  |func f=>
   obtain ⟨h1,hk⟩:first.toList=[]/\k (.cy f (caps.toList.map (Vc.ev ts))) m:=hk
   have h1':first= #[]:=by apply Array.ext';simpa using h1
   subst h1';have hr:=CH h caps.toList;refine V (Instr.makeFunc (.func f) (Array.map a.eval #[]) (caps.map a.eval)) (by simp only [execOp,hop]) ⟨.func (.func f) #[] (caps.map a.eval),w,by simp [Instr.makeFunc],h.gives (x:=.cy f (caps.toList.map (Vc.ev ts))) ?_ (fun l af hl=> ?_) ⟨rfl,hk⟩⟩
   . exact .cy f _ _ (by simp) (by simpa using hr.2)
   simp only [ao] at hl;obtain ⟨i,hi,hl2⟩:=b8 hl;rw [List.getElem_map] at hl2;exact h.DQ _ l af hl2
  |_=>exact False.elim hk
 |_=>rw [hop] at hk;exact hk.elim
abbrev St:=Env->Mem->Prop
abbrev dh:=Exit->Env->Mem->Prop
def gp (want:Bool) (y:AV) (a b:Prop):Prop:=match y with
 | .val (.bool c)=>(c=want->a)/\(c≠want->b)
 | .aZ []=>b
 |_=>False
@[congr] theorem Sa {w:Bool} {y y':AV} {a b:Prop} (h:y=y'):gp w y a b=gp w y' a b:=by rw [h]
theorem ER (w:Bool) (a b:Prop):gp w (.aZ []) a b=b:=rfl
theorem Oe (c:Bool) (a b:Prop):gp false (.val (.bool c)) a b=((c=false->a)/\(c=true->b)):=by simp [gp]
def jL (ops:List Oper) (j:Nat):Nat:=match (ops[j]?).bind (·.dst) with|some d=>d|none=>0
def mz (d:Option Nat) (x:AV) (ts:Env):Env:=match d with|some d=>(d,x)::ts|none=>ts
theorem KZ (d:Nat) (x:AV) (ts:Env):mz (some d) x ts=(d,x)::ts:=rfl
def sL (P:Program) (ops:List Oper):List Oper->Env->Mem->St->Prop
 | [],ts,m,k=>k ts m
 |o::r,ts,m,k=>match o.guard with
  |none=>iL P (o.dst.getD 0) o.op ts m fun x m'=>sL P ops r (mz o.dst x ts) m' k
  |some (j,want)=>gp want (look ts (jL ops j)) (iL P (o.dst.getD 0) o.op ts m fun x m'=>sL P ops r (mz o.dst x ts) m' k) (sL P ops r (mz o.dst (.aZ []) ts) m k)
theorem Hs (o:Oper) (l:List Oper) (j:Nat):jL (o::l) (j+1)=jL l j:=rfl
theorem Ht (d:Nat) (op:Op) (ty:TypeId) (p:String) (e:Array Edge) (g:Option (Nat × Bool)) (l:List Oper):jL (⟨some d,op,ty,p,e,g⟩::l) 0=d:=rfl
def jM (N:Nat) (ops:List Oper):Bool:=ops.all fun o=>match o.dst with|some d=>decide (d<N)|none=>true
theorem step_done {o:Oper} (hd:∀d,o.dst=some d->d<N) {k:AV->Mem->Prop} {v:Value} (hg:iw B N a (fun x ts' m'=>ts'=ts/\k x m') v w) {K:St} (hK:∀x m',k x m'->K (mz o.dst x ts) m'):ie B N K (a.put o.dst v) w:=by
 cases Wq:o.dst with
 |none=>
  refine hg.skip fun x ts' m' ⟨h1,h2⟩=> ?_;have:=hK x m' h2;rw [Wq] at this;rw [h1];exact this
 |some d=>
  refine hg.done (hd d Wq) fun x ts' m' ⟨h1,h2⟩=> ?_;have:=hK x m' h2;rw [Wq] at this;rw [h1];exact this
theorem ES (h:RS B N φ fp S ts m a w) {ops:List Oper} {j:Nat} {c:Bool} (hl:look ts (jL ops j)= .val (.bool c)) (hj:∃d,((ops[j]?).bind (·.dst))=some d/\d<N):yielded ops.toArray a.tmps j=some c:=by
 obtain ⟨d,hd,hdN⟩:=hj;have h0:jL ops j=d:=by unfold jL;rw [hd]
 rw [h0] at hl;have ht:=h.tm d;rw [hl] at ht;obtain ⟨hv,_⟩:=aS ht;have hsz:d<a.tmps.size:=by rw [h.kv];exact hdN
 have e1:a.tmps[d]? =some (.bool c):=by rw [hv];simp [Array.getD_eq_getD_getElem?,q0 hsz]
 unfold yielded;simp only [List.getElem?_toArray,hd,Option.bind_some,e1]
theorem xo (h:RS B N φ fp S ts m a w) {ops:List Oper} {j:Nat} (hl:look ts (jL ops j)= .aZ []) (hj:∃d,((ops[j]?).bind (·.dst))=some d/\d<N):yielded ops.toArray a.tmps j=none:=by
 obtain ⟨d,hd,hdN⟩:=hj;have h0:jL ops j=d:=by unfold jL;rw [hd]
 rw [h0] at hl;have ht:=h.tm d;rw [hl] at ht;have hsz:d<a.tmps.size:=by rw [h.kv];exact hdN
 have hv:a.tmps.getD d Go.undef= .tuple #[]:=by
  generalize a.tmps.getD d Go.undef=v at ht;cases ht with
  |rd _ _ h=>cases h with
   |aZ _ cs hl _=>rw [Array.eq_empty_of_size_eq_zero hl]
  |aZ _ cs hl _=>rw [Array.eq_empty_of_size_eq_zero hl]
 have e1:a.tmps[d]? =some (.tuple #[]):=by rw [←hv];simp [Array.getD_eq_getD_getElem?,q0 hsz]
 unfold yielded;simp only [List.getElem?_toArray,hd,Option.bind_some,e1]
def di (N:Nat) (ops:List Oper):Bool:=ops.all fun o=>match o.guard with
 |none=>true
 |some (j,_)=>match (ops[j]?).bind (·.dst) with|some d=>decide (d<N)|none=>false
theorem iP {ops:List Oper} (hok:jM N ops=true) (hgs:di N ops=true) {Q:Exit->Act->World->Prop} {K:St} (hQ:∀a w,ie B N K a w->Q .normal a w):
 ∀(l:List Oper) (i:Nat),ops.drop i=l->∀(φ:Nat->LS) (fp:Nat->lN) (S:Nat->Prop) (ts:Env) (m:Mem) (a:Act) (w:World),RS B N φ fp S ts m a w->sL P ops l ts m K→
  wpOps P ops.toArray Q ((List.range (ops.length-i)).map (· +i)) a w
 | [],i,hl,φ,fp,S,ts,m,a,w,h,hk=>by
   have:ops.length-i=0:=by have:=congrArg List.length hl;simpa using this
   rw [this];exact hQ a w ⟨φ,fp,S,ts,m,h,hk⟩
 |o::r,i,hl,φ,fp,S,ts,m,a,w,h,hk=>by
  have hi:i<ops.length:=by have:=congrArg List.length hl;simp at this;omega
  have hoi:ops[i]? =some o:=by have:=congrArg (·[0]?) hl;simpa using this
  have hr:ops.drop (i+1)=r:=by have:=congrArg List.tail hl;simpa using this
  have e:(List.range (ops.length-i)).map (· +i)=i::(List.range (ops.length-(i+1))).map (· +(i+1)):=by rw [show ops.length-i=(ops.length-(i+1))+1 by omega,List.range_succ_eq_map];simp [List.map_map,Function.comp_def];intro q hq;omega
  rw [e];have hoo:ops.toArray[i]? =some o:=by simpa using hoi
  simp only [wpOps,hoo];have hdo:∀d,o.dst=some d->d<N:=by intro d hd;have:=List.all_eq_true.1 hok o (List.mem_of_getElem? hoi);rw [hd] at this;simpa using this
  have run:iL P (o.dst.getD 0) o.op ts m (fun x m'=>sL P ops r (mz o.dst x ts) m' K)->o.wp P a w (wpOps P ops.toArray Q ((List.range (ops.length-(i+1))).map (· +(i+1)))) Q:=by intro hk;refine gm h hk fun v w' hg=> ?_;obtain ⟨φ',fp',S',ts',m',h1,h2⟩:=step_done (o:=o) (K:=fun ts m=>sL P ops r ts m K) hdo hg (fun x m' h=>h);exact iP hok hgs hQ r (i+1) hr φ' fp' S' ts' m' _ w' h1 h2
  have skip:sL P ops r (mz o.dst (.aZ []) ts) m K->wpOps P ops.toArray Q ((List.range (ops.length-(i+1))).map (· +(i+1))) (a.put o.dst Go.undef) w:=by
   intro hk
   obtain ⟨φ',fp',S',ts',m',h1,h2⟩:=step_done (o:=o) (a:=a) (w:=w) (v:=Go.undef) (K:=fun ts m=>sL P ops r ts m K) (k:=fun x m'=>x= .aZ []/\m'=m) hdo
    (h.gives (x:=.aZ []) (.rd _ _ (.aZ [] #[] rfl fun i hi=>absurd hi (q13 _))) (fun _ _ hl=>by cases hl) ⟨rfl,rfl,rfl⟩) (fun x m' ⟨h1,h2⟩=>by rw [h1,h2];exact hk)
   exact iP hok hgs hQ r (i+1) hr φ' fp' S' ts' m' _ w h1 h2
  cases hg:o.guard with
  |none=>
   simp only [sL,hg] at hk;simp only [Region.wanted,hg,if_true];exact .inl (run hk)
  |some jw=>
   obtain ⟨j,want⟩:=jw;simp only [sL,hg] at hk;have hgo:=List.all_eq_true.1 hgs o (List.mem_of_getElem? hoi);rw [hg] at hgo;unfold gp at hk;split at hk
   . rename_i c hy;have hj:∃d,((ops[j]?).bind (·.dst))=some d/\d<N:=by
      simp only at hgo;split at hgo
      . rename_i d hd;exact ⟨d,hd,by simpa using hgo⟩
      cases hgo
     have hyy:=ES h hy hj;simp only [Region.wanted,hg,hyy];by_cases hc:c=want
     . subst hc;simp only [beq_self_eq_true,if_true];exact .inl (run (hk.1 rfl))
     have:(some c==some want)=false:=by simpa using hc
     simp only [this,Bool.false_eq_true,if_false];exact skip (hk.2 hc)
   . rename_i hy;have hj:∃d,((ops[j]?).bind (·.dst))=some d/\d<N:=by
      simp only at hgo;split at hgo
      . rename_i d hd;exact ⟨d,hd,by simpa using hgo⟩
      cases hgo
     have hyy:=xo h hy hj;simp only [Region.wanted,hg,hyy];have:((none:Option Bool)==some want)=false:=by simp
     simp only [this,Bool.false_eq_true,if_false];exact skip hk
   exact hk.elim
def Ok (P:Program) (N:Nat) (c:Code) (ts:Env) (m:Mem) (Q:dh):Prop:=
 ∀(B:eO) (φ:Nat->LS) (fp:Nat->lN) (S:Nat->Prop) (a:Act) (w:World),RS B N φ fp S ts m a w->c.wp P (fun e a' w'=>ie B N (Q e) a' w') a w
structure ak (P:Program) (N:Nat) (c:Code) (ts:Env) (m:Mem) (Q:dh) (_:Pack (c,Q)):Prop where
 ok:Ok P N c ts m Q
def zt (Q:dh) (n:St):dh
 | .normal=>n
 | .exit i=>Q (.exit i)
 | .ret=>Q .ret
 |e=>Q e
theorem Hu (Q:dh) (n:St):zt Q n .normal=n:=rfl
theorem Sb (Q:dh) (n:St):zt Q n .ret=Q .ret:=rfl
theorem Of (Q:dh) (n:St) (i:Nat):zt Q n (.exit i)=Q (.exit i):=rfl
def pt (Q:dh) (id:Nat):dh
 | .exit j=>if j=id then Q .normal else Q (.exit j)
 | .normal=>Q .normal
 | .ret=>Q .ret
 |e=>Q e
theorem Hv (Q:dh) (i:Nat):pt Q i .normal=Q .normal:=rfl
theorem Sc (Q:dh) (i:Nat):pt Q i .ret=Q .ret:=rfl
theorem Og (Q:dh) (i j:Nat):pt Q i (.exit j)=if j=i then Q .normal else Q (.exit j):=rfl
def vc (P:Program) (N:Nat):Code->Env->Mem->dh->Prop
 | .skip,ts,m,Q=>Q .normal ts m
 | .region i ops false,ts,m,Q=>sL P ops.toList ops.toList ts m (Q .normal)
 | .region i ops true,ts,m,Q=>Ok P N (.region i ops true) ts m Q
 | .seq a b,ts,m,Q=>vc P N a ts m (zt Q fun ts' m'=>vc P N b ts' m' Q)
 | .cond c a b,ts,m,Q=>UO (ev ts c) (vc P N a ts m Q) (vc P N b ts m Q)
 | .block id b,ts,m,Q=>vc P N b ts m (pt Q id)
 | .loop b,ts,m,Q=>Ok P N (.loop b) ts m Q
 | .exit id,ts,m,Q=>Q (.exit id) ts m
 | .ret,ts,m,Q=>Q .ret ts m
 |_,_,_,_=>False
theorem Sd (N:Nat) (ts:Env) (m:Mem) (Q:dh):vc P N .skip ts m Q=Q .normal ts m:=rfl
theorem K0 (N i:Nat) (l:List Oper) (ts:Env) (m:Mem) (Q:dh):vc P N (.region i ⟨l⟩ false) ts m Q=sL P l l ts m (Q .normal):=rfl
theorem Se (N i:Nat) (l:List Oper) (ts:Env) (m:Mem) (Q:dh):vc P N (.region i ⟨l⟩ true) ts m Q=ak P N (.region i ⟨l⟩ true) ts m Q ⟨⟩:=propext ⟨fun h=>⟨h⟩,fun h=>h.ok⟩
theorem Vq (N:Nat) (a b:Code) (ts:Env) (m:Mem) (Q:dh):vc P N (.seq a b) ts m Q=vc P N a ts m (zt Q fun ts' m'=>vc P N b ts' m' Q):=rfl
theorem Sf (N:Nat) (c:Operand) (a b:Code) (ts:Env) (m:Mem) (Q:dh):vc P N (.cond c a b) ts m Q=UO (ev ts c) (vc P N a ts m Q) (vc P N b ts m Q):=rfl
theorem Oh (N i:Nat) (b:Code) (ts:Env) (m:Mem) (Q:dh):vc P N (.block i b) ts m Q=vc P N b ts m (pt Q i):=rfl
theorem Sg (N:Nat) (b:Code) (ts:Env) (m:Mem) (Q:dh):vc P N (.loop b) ts m Q=ak P N (.loop b) ts m Q ⟨⟩:=propext ⟨fun h=>⟨h⟩,fun h=>h.ok⟩
theorem Si (N i:Nat) (ts:Env) (m:Mem) (Q:dh):vc P N (.exit i) ts m Q=Q (.exit i) ts m:=rfl
theorem Vr (N:Nat) (ts:Env) (m:Mem) (Q:dh):vc P N .ret ts m Q=Q .ret ts m:=rfl
def codeOk (N:Nat):Code->Bool
 | .region _ ops false=>jM N ops.toList&&di N ops.toList
 | .seq a b=>codeOk N a&&codeOk N b
 | .cond _ a b=>codeOk N a&&codeOk N b
 | .block _ b=>codeOk N b
 |_=>true
theorem cI:∀(c:Code) (ts:Env) (m:Mem) (Q:dh),codeOk N c=true->vc P N c ts m Q->Ok P N c ts m Q
 | .skip,ts,m,Q,_,h=>fun B φ fp S a w hRS=>wp_skip ⟨φ,fp,S,ts,m,hRS,h⟩
 | .region i ops false,ts,m,Q,hok,h=>fun B φ fp S a w hRS=>by
   simp only [codeOk,Bool.and_eq_true] at hok;refine wp_region ?_;have:=iP (P:=P) (B:=B) (Q:=fun e a' w'=>ie B N (Q e) a' w') hok.1 hok.2 (K:=Q .normal) (fun a w h=>h) ops.toList 0 (by simp) φ fp S ts m a w hRS h;simpa using this
 | .region i ops true,ts,m,Q,_,h=>h
 | .seq a b,ts,m,Q,hok,h=>fun B φ fp S ac w hRS=>by
   simp only [codeOk,Bool.and_eq_true] at hok;refine wp_seq (wp_mono (cI a ts m _ hok.1 h B φ fp S ac w hRS) fun e a' w' hq=> ?_);obtain ⟨φ',fp',S',ts',m',h1,h2⟩:=hq;cases e with
   |normal=>exact cI b ts' m' Q hok.2 h2 B φ' fp' S' a' w' h1
   |_=>exact ⟨φ',fp',S',ts',m',h1,h2⟩
 | .cond c x y,ts,m,Q,hok,h=>fun B φ fp S ac w hRS=>by
   simp only [codeOk,Bool.and_eq_true] at hok;have h:UO (ev ts c) (vc P N x ts m Q) (vc P N y ts m Q):=h;have hc:=hRS.ev c;unfold UO at h;split at h
   . rename_i b hv;rw [hv] at hc;obtain ⟨hb,_⟩:=aS hc;refine wp_cond_split hb.symm (fun ht=>cI x ts m Q hok.1 (h.1 ht) B φ fp S ac w hRS) (fun hf=>cI y ts m Q hok.2 (h.2 hf) B φ fp S ac w hRS)
   exact h.elim
 | .block id b,ts,m,Q,hok,h=>fun B φ fp S ac w hRS=>by
   refine wp_block (wp_mono (cI b ts m _ hok h B φ fp S ac w hRS) fun e a' w' hq=> ?_);obtain ⟨φ',fp',S',ts',m',h1,h2⟩:=hq;cases e with
   |exit j=>
    simp only [pt] at h2;simp only [Exit.inBlock];split
    . rename_i hj;rw [if_pos hj] at h2;exact ⟨φ',fp',S',ts',m',h1,h2⟩
    rename_i hj;rw [if_neg hj] at h2;exact ⟨φ',fp',S',ts',m',h1,h2⟩
   |_=>exact ⟨φ',fp',S',ts',m',h1,h2⟩
 | .loop b,ts,m,Q,_,h=>h
 | .exit id,ts,m,Q,_,h=>fun B φ fp S a w hRS=>wp_exit ⟨φ,fp,S,ts,m,hRS,h⟩
 | .ret,ts,m,Q,_,h=>fun B φ fp S a w hRS=>wp_ret ⟨φ,fp,S,ts,m,hRS,h⟩
 | .rangeFunc ..,_,_,_,_,h=>h.elim
 | .scope ..,_,_,_,_,h=>h.elim
 | .label ..,_,_,_,_,h=>h.elim
 | .goto ..,_,_,_,_,h=>h.elim
 | .refuse ..,_,_,_,_,h=>h.elim
end
def ji (b:Option bh) (v:Nat):Prop:=match b with|some (.gone _)=>False|some k=>k.af=v|none=>False
theorem K1 (u v:Nat) (sh:Sh) (d:Bool) (xs:lA):ji (some (.row u sh d xs)) v=(u=v):=rfl
theorem K3 (u v:Nat) (xs:lA):ji (some (.box u xs)) v=(u=v):=rfl
def A8 (b:Option bh):Prop:=match b with|none=>True|some (.gone _)=>True|_=>False
theorem Hw:A8 none=True:=rfl
def Oi (b b2:Option bh) (l af i n:Nat) (sh:Sh) (ys:lA):Prop:=match b,b2 with
 |some (.row v sh' _ xs),none=>v=af/\sh'=sh/\i+n<=xs.length/\(xs.drop i).take n=ys/\l<bG
 |_,_=>False
def jN (m m2:Mem):AV->AV->Prop
 |_,.undef=>True
 | .val u,.val v=>u=v
 | .e0,.e0=>True
 | .arr sh xs,.arr sh' ys=>sh=sh'/\xs=ys
 | .ref l af i n,.arr sh ys=>Oi (aj m l) (aj m2 l) l af i n sh ys
 | .e0,.arr _ ys=>ys=[]
 | .val (.slice none 0 0),.arr _ ys=>ys=[]
 | .ref l af i n,.ref l' ver' i' n'=>(l=l'/\i=i'/\n=n')/\ji (aj m l) af/\ji (aj m2 l) ver'
 | .e0,.ref l' ver' i' n'=>(i'=0/\n'=0)/\A8 (aj m l')/\ji (aj m2 l') ver'
 | .val (.slice none 0 0),.ref l' ver' i' n'=>(i'=0/\n'=0)/\A8 (aj m l')/\ji (aj m2 l') ver'
 | .ptr l af i j,.ptr l' ver' i' j'=>(l=l'/\i=i'/\j=j')/\ji (aj m l) af/\ji (aj m2 l) ver'
 | .bu sh xs i j,.bu sh' ys i' j'=>sh=sh'/\xs=ys/\i=i'/\j=j'
 |_,_=>False
section
variable (m m2:Mem)
theorem Oj (u v:Value):jN m m2 (.val u) (.val v)=(u=v):=by cases u<;>rfl
theorem Ol (sh:Sh) (xs ys:lA):jN m m2 (.arr sh xs) (.arr sh ys)=(xs=ys):=by simp [jN]
theorem Om (l af i n ver' i' n':Nat):jN m m2 (.ref l af i n) (.ref l ver' i' n')=((i=i'/\n=n')/\ji (aj m l) af/\ji (aj m2 l) ver'):=by simp [jN]
theorem ET (l' ver' i' n':Nat):jN m m2 (.val (.slice none 0 0)) (.ref l' ver' i' n')=((i'=0/\n'=0)/\A8 (aj m l')/\ji (aj m2 l') ver'):=rfl
theorem On (l af i j ver' i' j':Nat):jN m m2 (.ptr l af i j) (.ptr l ver' i' j')=((i=i'/\j=j')/\ji (aj m l) af/\ji (aj m2 l) ver'):=by simp [jN]
def xp (m m2:Mem):lA->lA->Prop
 | [],[]=>True
 |x::xs,y::ys=>(jN m m2 x y/\leaf y)/\xp m m2 xs ys
 |_,_=>False
theorem Oo (m m2:Mem):xp m m2 [] []=True:=rfl
theorem K4 (m m2:Mem) (x y:AV) (xs ys:lA):xp m m2 (x::xs) (y::ys)=((jN m m2 x y/\leaf y)/\xp m m2 xs ys):=rfl
def rQ (m m2:Mem):AV->AV->Prop
 | .cy f xs,.cy g ys=>f=g/\xp m m2 xs ys
 |x,y=>jN m m2 x y
theorem K5 (m m2:Mem) (f g:FuncId) (xs ys:lA):rQ m m2 (.cy f xs) (.cy g ys)=(f=g/\xp m m2 xs ys):=rfl
theorem K6 (m m2:Mem) (x:AV) (v:Value):rQ m m2 x (.val v)=jN m m2 x (.val v):=by cases x<;>rfl
theorem K7 (m m2:Mem) (x:AV) (sh:Sh) (ys:lA):rQ m m2 x (.arr sh ys)=jN m m2 x (.arr sh ys):=by cases x<;>rfl
theorem K8 (m m2:Mem) (x:AV) (l v i n:Nat):rQ m m2 x (.ref l v i n)=jN m m2 x (.ref l v i n):=by cases x<;>rfl
theorem K9 (m m2:Mem) (x:AV) (l v i n:Nat):rQ m m2 x (.ptr l v i n)=jN m m2 x (.ptr l v i n):=by cases x<;>rfl
def EU (m m2:Mem):lA->lA->Prop
 | [],[]=>True
 |x::xs,y::ys=>(rQ m m2 x y/\leaf y)/\EU m m2 xs ys
 |_,_=>False
theorem Oq (m m2:Mem):EU m m2 [] []=True:=rfl
theorem Ld (m m2:Mem) (x y:AV) (xs ys:lA):EU m m2 (x::xs) (y::ys)=((rQ m m2 x y/\leaf y)/\EU m m2 xs ys):=rfl
theorem Ot (v:Value):leaf (.val v)=True:=rfl
theorem Ou (sh:Sh) (xs:lA):leaf (.arr sh xs)=True:=rfl
theorem Ov (l v i n:Nat):leaf (.ref l v i n)=True:=rfl
theorem Ow (f:FuncId) (xs:lA):leaf (.cy f xs)=True:=rfl
theorem Ox (l v i n:Nat):leaf (.ptr l v i n)=True:=rfl
def vE (m m2:Mem):AV->AV->Prop
 | .agg xs,.agg ys=>EU m m2 xs ys
 | .cy f xs,.cy g ys=>f=g/\xp m m2 xs ys
 |x,y=>jN m m2 x y
theorem Oy (m m2:Mem) (f g:FuncId) (xs ys:lA):vE m m2 (.cy f xs) (.cy g ys)=(f=g/\xp m m2 xs ys):=rfl
theorem xq (m m2:Mem) (x:AV):vE m m2 x .undef=True:=by cases x<;>rfl
theorem Oz (m m2:Mem) (x:AV) (v:Value):vE m m2 x (.val v)=jN m m2 x (.val v):=by cases x<;>rfl
theorem OA (m m2:Mem) (x:AV) (sh:Sh) (ys:lA):vE m m2 x (.arr sh ys)=jN m m2 x (.arr sh ys):=by cases x<;>rfl
theorem OB (m m2:Mem) (x:AV) (l v i n:Nat):vE m m2 x (.ref l v i n)=jN m m2 x (.ref l v i n):=by cases x<;>rfl
theorem OC (m m2:Mem) (x:AV) (l v i n:Nat):vE m m2 x (.ptr l v i n)=jN m m2 x (.ptr l v i n):=by cases x<;>rfl
def Hx (ts:Env) (m m2:Mem):Env->Prop
 | []=>True
 |(t,v)::r=>vE m m2 (look ts t) v/\Hx ts m m2 r
theorem OD (ts:Env) (m m2:Mem):Hx ts m m2 []=True:=rfl
theorem Le (ts:Env) (m m2:Mem) (t:Nat) (v:AV) (r:Env):Hx ts m m2 ((t,v)::r)=(vE m m2 (look ts t) v/\Hx ts m m2 r):=rfl
def xr (m m2:Mem) (b:Option bh) (b2:bh):Prop:=match b,b2 with
 |some (.row _ sh d xs),.row _ sh2 d2 xs2=>sh=sh2/\d=d2/\xs=xs2
 |some (.box _ xs),.box _ ys=>EU m m2 xs ys
 |none,.row _ _ _ xs=>xs=[]
 |some (.gone _),.row _ _ _ xs=>xs=[]
 |_,_=>False
theorem OE (v v2:Nat) (sh:Sh) (d:Bool) (xs xs2:lA):xr m m2 (some (.row v sh d xs)) (.row v2 sh d xs2)=(xs=xs2):=by simp [xr]
theorem OF (v v2:Nat) (xs xs2:lA):xr m m2 (some (.box v xs)) (.box v2 xs2)=EU m m2 xs xs2:=rfl
theorem Lf (v2:Nat) (sh:Sh) (d:Bool) (xs2:lA):xr m m2 none (.row v2 sh d xs2)=(xs2=[]):=rfl
end
def Hy (m m2:Mem):Mem->Prop
 | []=>True
 |(l,b)::r=>xr m m2 (aj m l) b/\Hy m m2 r
theorem OG (m m2:Mem):Hy m m2 []=True:=rfl
theorem Lg (m m2:Mem) (l:Nat) (b:bh) (r:Mem):Hy m m2 ((l,b)::r)=(xr m m2 (aj m l) b/\Hy m m2 r):=rfl
def rR (b b2:Option bh):Prop:=match b,b2 with
 |some (.row v _ _ _),some (.row v2 _ _ _)=>v=v2
 |some (.box v _),some (.box v2 _)=>v=v2
 |_,_=>False
theorem Hz (v v2:Nat) (sh sh2:Sh) (d d2:Bool) (xs xs2:lA):rR (some (.row v sh d xs)) (some (.row v2 sh2 d2 xs2))=(v=v2):=rfl
theorem HA (v v2:Nat) (xs xs2:lA):rR (some (.box v xs)) (some (.box v2 xs2))=(v=v2):=rfl
def CI (l:Nat) (b b2:Option bh):Prop:=l<bG\/rR b b2
theorem Lh (l:Nat) (b b2:Option bh):CI l b b2=(l<1000000000\/rR b b2):=rfl
def HB (m m2:Mem):Mem->Prop
 | []=>True
 |(l,_)::r=>CI l (aj m l) (aj m2 l)/\HB m m2 r
theorem OH (m m2:Mem):HB m m2 []=True:=rfl
theorem Li (m m2:Mem) (l:Nat) (b:bh) (r:Mem):HB m m2 ((l,b)::r)=(CI l (aj m l) (aj m2 l)/\HB m m2 r):=rfl
theorem EV {m m2:Mem}:∀{r:Mem},HB m m2 r->∀{l:Nat} {b:bh},aj r l=some b->CI l (aj m l) (aj m2 l)
 | [],_,l,b,hb=>by rw [sU] at hb;cases hb
 |(l0,b0)::r,h,l,b,hb=>by
  rw [aw] at hb;split at hb
  . rename_i e;subst e;exact h.1
  exact EV h.2 hb
def rS (ts:Env) (m:Mem) (ts2:Env) (m2:Mem):Prop:=Hx ts m m2 ts2/\Hy m m2 m2/\HB m m2 m
theorem Sj (ts:Env) (m:Mem) (ts2:Env) (m2:Mem):rS ts m ts2 m2=(Hx ts m m2 ts2/\Hy m m2 m2/\HB m m2 m):=rfl
section
variable {P:Program} {B:eO} {N:Nat} {φ:Nat->LS} {fp:Nat->lN} {S:Nat->Prop} {ts:Env} {m:Mem} {a:Act} {w:World}
theorem xu {m m2:Mem}:∀{r:Mem},Hy m m2 r->∀{l:Nat} {b:bh},aj r l=some b->xr m m2 (aj m l) b
 | [],_,l,b,h=>by cases h
 |(l0,b0)::r,h,l,b,hb=>by
  rw [aw] at hb;split at hb
  . rename_i e;subst e;cases hb;exact h.1
  exact xu h.2 hb
theorem xw {ts:Env} {m m2:Mem}:∀{r:Env},Hx ts m m2 r->∀t,vE m m2 (look ts t) (look r t)
 | [],_,t=>by rw [look_nil,xq];trivial
 |(t0,v)::r,h,t=>by
  rw [cV];split
  . rename_i e;subst e;exact h.1
  exact xw h.2 t
def gM (φ:Nat->LS) (m2:Mem):Nat->LS:=fun l=>match aj m2 l with
 |none=>.dead
 |some k=>match φ l with
  | .at b sh _=>.at b sh k.af
  |_=>.nil k.af
def xx (fp:Nat->lN) (m2:Mem):Nat->lN:=fun l=>match aj m2 l with|none=>[]|some _=>fp l
def vF (S:Nat->Prop) (fp:Nat->lN) (m2:Mem):Nat->Prop:=fun b=>S b\/∃l,aj m2 l=none/\l<bG/\b∈fp l
theorem kM {m2:Mem} {l v:Nat} (h:ji (aj m2 l) v):known m2 l v:=by
 unfold ji at h;split at h
 . exact h.elim
 . rename_i k hn hk;exact ⟨k,hk,Nat.le_of_eq h.symm⟩
 exact h.elim
theorem xy (h:RS B N φ fp S ts m a w) {m2:Mem} {x y:AV} {v:Value} (hx:RV w S φ x v) (hr:jN m m2 x y):
 RV w (vF S fp m2) (gM φ m2) y v/\∀l af,(l,af)∈ao y->known m2 l af:=by
 have hS:∀b,S b->vF S fp m2 b:=fun b hb=>.inl hb;have nolab:∀{y:AV} {v:Value},Rd w S y v->RV w (vF S fp m2) (gM φ m2) y v/\∀l af,(l,af)∈ao y->known m2 l af:=by intro y v hy;exact ⟨.rd _ _ (hy.mono (fun _ _=>rfl) hS),fun l af hl=>by rw [fX hy] at hl;cases hl⟩
 have nilref:∀{v:Value} {l' ver' i' n':Nat},(∃ad,v= .slice ad 0 0)->(i'=0/\n'=0)/\A8 (aj m l')/\ji (aj m2 l') ver'→
  RV w (vF S fp m2) (gM φ m2) (.ref l' ver' i' n') v/\∀l af,(l,af)∈ao (.ref l' ver' i' n')->known m2 l af:=by
  rintro v l' ver' i' n' ⟨ad,rfl⟩ ⟨⟨rfl,rfl⟩,hnb,hv⟩;refine ⟨.ref _ _ _ _ _ (fun b sh hb=> ?_) (fun _=>⟨rfl,ad,rfl⟩) rfl,fun l af hl=> ?_⟩
  . have hd:φ l'= .dead:=by
     unfold A8 at hnb;split at hnb
     . rename_i hk;exact (h.bU l' hk).1
     . rename_i v hk;exact (h.aF l' _ hk).1
     exact hnb.elim
    unfold gM at hb;split at hb
    . cases hb
    rw [hd] at hb;cases hb
  simp only [ao,q9,Prod.mk.injEq] at hl;obtain ⟨rfl,rfl⟩:=hl;exact kM hv
 unfold jN at hr;split at hr
 . exact ⟨.rd _ _ (.undef _),fun _ _ hl=>by cases hl⟩
 . subst hr;obtain ⟨rfl,h1⟩:=aS hx;exact nolab (.val _ h1)
 . obtain ⟨ad,rfl⟩:=ru hx;exact nolab (.e0 _)
 . obtain ⟨rfl,rfl⟩:=hr;exact nolab (l7 hx)
 . rename_i l af i n sh ys;unfold Oi at hr;split at hr
   . rename_i v' sh' d xs hlk kt;obtain ⟨rfl,rfl,hin,rfl,hio⟩:=hr;refine ⟨.rd _ _ ?_,fun _ _ hl=>by cases hl⟩;have hlen:((xs.drop i).take n).length=n:=by simp;omega
     have hrr:=dt hx;rcases h.aF l _ hlk with ⟨h1,h2,h3⟩|⟨b,cap,hφ,hbm,hdp,bd⟩
     . obtain ⟨rfl,ad,rfl⟩:=hrr.2 h1;rw [List.take_zero];exact .nil _ _
     obtain ⟨ad,cp,rfl,hnc,hcp⟩:=hrr.1 b sh' hφ;obtain ⟨cs,e,fss,hgf,aE,hcs,cj,hmx,hff,hfl,hvv⟩:=gG bd hbm;by_cases hc0:cp=0
     . have:n=0:=by omega
       subst this;subst hc0;rw [List.take_zero];exact .nil _ _
     obtain ⟨rfl,cs',e',g1,g2⟩:=hcp.resolve_left hc0;obtain rfl:=df (aE.symm.trans g1);have ck:i*sh'.sz+n*sh'.sz<=cs.size:=by rw [g2,←Nat.add_mul];exact Nat.mul_le_mul_right _ (by omega)
     have zh:∀c,c∈fp l->vF S fp m2 c:=fun c hc=>.inr ⟨l,kt,hio,hc⟩
     have:=Rd.arr (w:=w) (S:=vF S fp m2) sh' ((xs.drop i).take n) b (i*sh'.sz) cp cs e.1 (n9 e cs.size) (zh b hbm) aE (by rw [hlen];exact hnc) (by rw [hlen];exact ck)
      (fun q hq=>by rw [hlen] at hq;simp only [q8,q6];exact hff _ (by omega))
      (fun q hq=>by
        rw [hlen] at hq;simp only [q8,q6]
        have:=(hvv (i+q) (by omega)).mh (S':=vF S fp m2) (fun c hc=>by
         cases d with
         |true=>exact hc.elim
         |false=>exact hS c hc) (fun c hc=>zh c (by rw [hgf];exact List.mem_cons_of_mem _ (aJ (by omega) hc)))
        rwa [Nat.add_mul] at this)
     rw [hlen] at this;exact this
   exact hr.elim
 . obtain ⟨ad,rfl⟩:=ru hx;subst hr;exact nolab (.nil _ _)
 . obtain ⟨rfl,_⟩:=aS hx;subst hr;exact nolab (.nil _ _)
 . rename_i l af i n l' ver' i' n';obtain ⟨⟨rfl,rfl,rfl⟩,hv1,hv2⟩:=hr;have hrr:=dt hx;have hU:∀l' v',(l',v')∈ao (.ref l ver' i n)->known m2 l' v':=by
    intro l' v' hl;simp only [ao,q9,Prod.mk.injEq] at hl;obtain ⟨rfl,rfl⟩:=hl;exact kM hv2
   have lB:v.oneCell'=true:=hx.aU trivial;refine ⟨.ref _ _ _ _ _ (fun b sh hb=> ?_) (fun hb=> ?_) lB,hU⟩
   . unfold gM at hb;split at hb
     . cases hb
     rename_i k hk;split at hb
     . rename_i b' sh' v' hφ;cases hb;obtain ⟨k0,hk0,Q3⟩:=h.rm hφ;have hvv:v'=af:=by
        rw [hk0] at hv1;cases k0<;>first|exact hv1.elim|exact Q3.symm.trans hv1
       subst hvv;exact hrr.1 _ _ hφ
     cases hb
   unfold gM at hb;split at hb
   . cases hb
   rename_i k hk;split at hb
   . cases hb
   rename_i hne;unfold ji at hv1;split at hv1
   . exact hv1.elim
   . rename_i k0 hng hk0;have hb0:=h.aF l k0 hk0;cases k0 with
     |gone=>exact absurd rfl (hng _)
     |row v0 sh d xs=>
      rcases hb0 with ⟨h1,_⟩|⟨b,cap,hφ,_⟩
      . have hv1:v0=af:=hv1;subst hv1;exact hrr.2 h1
      exact absurd hφ (hne _ _ _)
     |box v0 xs=>obtain ⟨b,cs,e,sh,hφ,_⟩:=hb0;exact absurd hφ (hne _ _ _)
     |jc v0 xs i0 u0=>obtain ⟨b,cap,cs,e,fr,hφ,_⟩:=hb0;exact absurd hφ (hne _ _ _)
     |sub v0 sh xs u0=>obtain ⟨b,cap,hφ,_⟩:=hb0;exact absurd hφ (hne _ _ _)
   exact hv1.elim
 . exact nilref (ru hx) hr
 . obtain ⟨rfl,_⟩:=aS hx;exact nilref ⟨_,rfl⟩ hr
 . rename_i l af i j l' ver' i' j';obtain ⟨⟨rfl,rfl,rfl⟩,hv1,hv2⟩:=hr;have hrr:=j3 hx;have hr2:=vT hx;refine ⟨.ptr _ _ _ _ _ (fun b sh hb=> ?_) (fun hb=> ?_) hr2.2,fun l' v' hl=> ?_⟩
   . unfold gM at hb;split at hb
     . cases hb
     split at hb
     . rename_i b' sh' v' hφ;cases hb;obtain ⟨k0,hk0,Q3⟩:=h.rm hφ;have hvv:v'=af:=by
        rw [hk0] at hv1;cases k0<;>first|exact hv1.elim|exact Q3.symm.trans hv1
       subst hvv;exact hrr _ _ hφ
     cases hb
   . unfold gM at hb;split at hb
     . cases hb
     split at hb
     . cases hb
     rename_i hne;unfold ji at hv1;split at hv1
     . exact hv1.elim
     . rename_i k0 hng hk0;have hb0:=h.aF l k0 hk0;cases k0 with
       |gone=>exact absurd rfl (hng _)
       |row v0 sh d xs=>
        rcases hb0 with ⟨h1,_⟩|⟨b,cap,hφ,_⟩
        . have hv1:v0=af:=hv1;subst hv1;exact hr2.1 h1
        exact absurd hφ (hne _ _ _)
       |box v0 xs=>obtain ⟨b,cs,e,sh,hφ,_⟩:=hb0;exact absurd hφ (hne _ _ _)
       |jc v0 xs i0 u0=>obtain ⟨b,cap,cs,e,fr,hφ,_⟩:=hb0;exact absurd hφ (hne _ _ _)
       |sub v0 sh xs u0=>obtain ⟨b,cap,hφ,_⟩:=hb0;exact absurd hφ (hne _ _ _)
     exact hv1.elim
   simp only [ao,q9,Prod.mk.injEq] at hl;obtain ⟨rfl,rfl⟩:=hl;exact kM hv2
 . obtain ⟨rfl,rfl,rfl,rfl⟩:=hr;exact nolab (pg hx)
 exact hr.elim
theorem qA {l:List Value} {n i:Nat} (h:i<n):(l.take n).getD i Go.undef=l.getD i Go.undef:=by simp [q3,h]
theorem xz (h:RS B N φ fp S ts m a w) {m2:Mem}:∀(xs ys:lA) (vs:List Value),xp m m2 xs ys->vs.length=xs.length->(∀i (hi:i<xs.length),RV w S φ xs[i] (vs.getD i Go.undef))→
 ys.length=xs.length/\(∀i (hi:i<ys.length),leaf ys[i])/\(∀i (hi:i<ys.length),RV w (vF S fp m2) (gM φ m2) ys[i] (vs.getD i Go.undef))/\∀l af,(l,af)∈au ys->known m2 l af
 | [],[],vs,_,_,_=>⟨rfl,fun i hi=>absurd hi (q13 _),fun i hi=>absurd hi (q13 _),fun _ _ hl=>by cases hl⟩
 |x::xs,y::ys,vs,hr,hv,hx=>by
  cases vs with
  |nil=>simp at hv
  |cons v vs=>
   obtain ⟨⟨h1,h2⟩,h3⟩:=hr;obtain ⟨g1,g2⟩:=xy h (hx 0 (by simp)) h1;obtain ⟨q1,q2,q3,q4⟩:=xz h xs ys vs h3 (by simpa using hv) (fun i hi=>by have:=hx (i+1) (by simpa using hi);exact this);refine ⟨by simp [q1],fun i hi=> ?_,fun i hi=> ?_,fun l af hl=> ?_⟩
   . cases i with
     |zero=>exact h2
     |succ i=>exact q2 i (by simpa using hi)
   . cases i with
     |zero=>exact g1
     |succ i=>exact q3 i (by simpa using hi)
   simp only [au,List.mem_append] at hl;rcases hl with hl|hl
   . exact g2 l af hl
   exact q4 l af hl
 | [],_::_,_,hr,_,_=>hr.elim
 |_::_,[],_,hr,_,_=>hr.elim
theorem Lj (h:RS B N φ fp S ts m a w) {m2:Mem} {x y:AV} {v:Value} (hx:RV w S φ x v) (hr:rQ m m2 x y):
 RV w (vF S fp m2) (gM φ m2) y v/\∀l af,(l,af)∈ao y->known m2 l af:=by
 unfold rQ at hr;split at hr
 . rename_i f xs g ys;obtain ⟨rfl,hr⟩:=hr;obtain ⟨cs,rfl,h1,h3⟩:=Ct hx;obtain ⟨q1,q2,q3,q4⟩:=xz h xs ys cs.toList hr (by simpa using h1) h3;exact ⟨.cy _ _ _ (by omega) q3,fun l af hl=>q4 l af (by simpa [ao] using hl)⟩
 exact xy h hx hr
theorem rT (h:RS B N φ fp S ts m a w) {m2:Mem}:∀(xs ys:lA) (vs:List Value),EU m m2 xs ys->vs.length=xs.length->(∀i (hi:i<xs.length),RV w S φ xs[i] (vs.getD i Go.undef))→
 ys.length=xs.length/\(∀i (hi:i<ys.length),leaf ys[i])/\(∀i (hi:i<ys.length),RV w (vF S fp m2) (gM φ m2) ys[i] (vs.getD i Go.undef))/\∀l af,(l,af)∈au ys->known m2 l af
 | [],[],vs,_,_,_=>⟨rfl,fun i hi=>absurd hi (q13 _),fun i hi=>absurd hi (q13 _),fun _ _ hl=>by cases hl⟩
 |x::xs,y::ys,vs,hr,hv,hx=>by
  cases vs with
  |nil=>simp at hv
  |cons v vs=>
   obtain ⟨⟨h1,h2⟩,h3⟩:=hr;obtain ⟨g1,g2⟩:=Lj h (hx 0 (by simp)) h1;obtain ⟨q1,q2,q3,q4⟩:=rT h xs ys vs h3 (by simpa using hv) (fun i hi=>by have:=hx (i+1) (by simpa using hi);exact this);refine ⟨by simp [q1],fun i hi=> ?_,fun i hi=> ?_,fun l af hl=> ?_⟩
   . cases i with
     |zero=>exact h2
     |succ i=>exact q2 i (by simpa using hi)
   . cases i with
     |zero=>exact g1
     |succ i=>exact q3 i (by simpa using hi)
   simp only [au,List.mem_append] at hl;rcases hl with hl|hl
   . exact g2 l af hl
   exact q4 l af hl
 | [],_::_,_,hr,_,_=>hr.elim
 |_::_,[],_,hr,_,_=>hr.elim
theorem EW (h:RS B N φ fp S ts m a w) {m2:Mem} {x y:AV} {v:Value} (hx:RV w S φ x v) (hr:vE m m2 x y):
 RV w (vF S fp m2) (gM φ m2) y v/\∀l af,(l,af)∈ao y->known m2 l af:=by
 unfold vE at hr;split at hr
 . rename_i xs ys;obtain ⟨cs,rfl,h1,h2,h3⟩:=na hx;obtain ⟨q1,q2,q3,q4⟩:=rT h xs ys cs.toList hr (by simpa using h1) h3;exact ⟨.agg _ _ (by omega) q2 q3,fun l af hl=>q4 l af (by simpa [ao] using hl)⟩
 . rename_i f xs g ys;obtain ⟨rfl,hr⟩:=hr;obtain ⟨cs,rfl,h1,h3⟩:=Ct hx;obtain ⟨q1,q2,q3,q4⟩:=xz h xs ys cs.toList hr (by simpa using h1) h3;exact ⟨.cy _ _ _ (by omega) q3,fun l af hl=>q4 l af (by simpa [ao] using hl)⟩
 exact xy h hx hr
theorem RS.refine (h:RS B N φ fp S ts m a w) {ts2:Env} {m2:Mem} (hr:rS ts m ts2 m2):RS B N (gM φ m2) (xx fp m2) (vF S fp m2) ts2 m2 a w:=by
 obtain ⟨hE,hM,hK⟩:=hr;have keeps:∀l af,bG<=l->known m l af->∃k k2,aj m l=some k/\aj m2 l=some k2/\k.af=k2.af/\af<=k.af/\∀v,k≠ .gone v:=by
  rintro l af hl ⟨k,hk,hv⟩;rcases EV hK hk with hh|hh
  . exact absurd hh (Nat.not_lt.2 hl)
  rw [hk] at hh;unfold rR at hh;split at hh
  . rename_i h1 h2;cases h1;exact ⟨_,_,hk,h2,hh,hv,fun _ e=>by cases e⟩
  . rename_i h1 h2;cases h1;exact ⟨_,_,hk,h2,hh,hv,fun _ e=>by cases e⟩
  exact hh.elim
 have Vi:∀l b,b∈xx fp m2 l->b∈fp l/\∃k,aj m2 l=some k:=by
  intro l b hb;unfold xx at hb;split at hb
  . cases hb
  rename_i k hk;exact ⟨hb,k,hk⟩
 refine ⟨fun t=>(EW h (h.tm t) (xw hE t)).1,fun t=>(EW h (h.tm t) (xw hE t)).2,?_,?_,?_,?_,?_,?_,?_,?_,h.base,h.out,h.ke,?_,?_,h.size,h.defers,h.kv,h.jf.mono (fun _ _=>rfl) fun b hb=>.inl hb⟩
 . intro l hl;simp [gM,xx,hl]
 . intro l k hk;have hb:=xu hM hk;have hfp:xx fp m2 l=fp l:=by simp [xx,hk]
   have Rb:(aj m l=none\/∃v,aj m l=some (.gone v))->φ l= .dead/\fp l=[]:=by
    rintro (hl|⟨v,hl⟩)
    . exact h.bU l hl
    exact h.aF l _ hl
   rw [hfp];unfold xr at hb;split at hb
   . rename_i v sh d xs v2 sh2 d2 xs2 hlk;obtain ⟨rfl,rfl,rfl⟩:=hb;rcases h.aF l _ hlk with ⟨h1,h2,h3⟩|⟨b,cap,hφ,hbm,hdp,bd⟩
     . exact .inl ⟨by simp [gM,hk,h1,bh.af],h2,h3⟩
     refine .inr ⟨b,cap,by simp [gM,hk,hφ,bh.af],hbm,hdp,?_⟩;cases d with
     |true=>exact bd
     |false=>exact bd.mono (fun _ _=>rfl) (fun _ h=>.inl h) (fun _ _=>rfl)
   . rename_i v xs v2 ys hlk;obtain ⟨b,cs,e,sh,hφ,hfs,aE,hsz,hlf,hrv⟩:=h.aF l _ hlk;obtain ⟨q1,q2,q3,q4⟩:=rT h xs ys (cs.toList.take xs.length) hb (by simp;omega) (fun i hi=>by rw [qA hi];exact hrv i hi);exact ⟨b,cs,e,sh,by simp [gM,hk,hφ,bh.af],hfs,aE,by omega,q2,fun i hi=>by have:=q3 i hi;rwa [qA (by omega)] at this⟩
   . rename_i v2 sh2 d2 xs2 hlk;obtain ⟨h1,h2⟩:=Rb (.inl hlk);exact .inl ⟨by simp [gM,hk,h1,bh.af],hb,h2⟩
   . rename_i v v2 sh2 d2 xs2 hlk;obtain ⟨h1,h2⟩:=Rb (.inr ⟨v,hlk⟩);exact .inl ⟨by simp [gM,hk,h1,bh.af],hb,h2⟩
   exact hb.elim
 . intro l v xs hk l' af hl;have hb:=xu hM hk;unfold xr at hb;split at hb
   . cases ‹bh.box v xs=_›
   . rename_i v' xs' v2 ys hlk hbx;cases hbx;obtain ⟨b,cs,e,sh,hφ,hfs,aE,hsz,hlf,hrv⟩:=h.aF l _ hlk;exact (rT h xs' xs (cs.toList.take xs'.length) hb (by simp;omega) (fun i hi=>by rw [qA hi];exact hrv i hi)).2.2.2 l' af hl
   . cases ‹bh.box v xs=_›
   . cases ‹bh.box v xs=_›
   exact hb.elim
 . intro l;unfold xx;split
   . simp
   exact h.gK l
 . intro l l' b h1 h2;exact h.e7 l l' b (Vi l b h1).1 (Vi l' b h2).1
 . intro l b hb hs;obtain ⟨h1,k,hk⟩:=Vi l b hb;rcases hs with hs|⟨l',hl',_,hb'⟩
   . exact h.bJ l b h1 hs
   have:=h.e7 l l' b h1 hb';subst this;rw [hk] at hl';cases hl'
 . intro l b hb;exact h.cw l b (Vi l b hb).1
 . intro b hb;rcases hb with hb|⟨l,_,hio,hb⟩
   . exact h.sB b hb
   have:=h.cw l b hb;exact ⟨this.1,.inl (this.2.resolve_right fun hh=>Nat.lt_irrefl _ (q12 hio hh.choose_spec.2.1))⟩
 . intro l af hl hk;obtain ⟨k,k2,h1,h2,h3,h4,_⟩:=keeps l af hl (h.kn l af hl hk);exact ⟨k2,h2,h3▸h4⟩
 intro l af hl hk;obtain ⟨k,k2,h1,h2,h3,h4,hng⟩:=keeps l af hl (h.kn l af hl hk);have hle:=h.fix l af hl hk;have hb:=h.aF l k h1;have hx2:gM φ m2 l=match φ l with| .at b sh _=>.at b sh k2.af|_=>.nil k2.af:=by unfold gM;rw [h2]
 have e:gM φ m2 l=φ l:=by
  rw [hx2];cases k with
  |gone v=>exact absurd rfl (hng v)
  |row v sh d xs=>
   rcases hb with ⟨q1,_,_⟩|⟨b,cap,q1,_⟩
   . rw [q1,←h3];rfl
   rw [q1,←h3];rfl
  |box v xs=>
   obtain ⟨b,cs,e,sh,q1,_⟩:=hb;rw [q1,←h3];rfl
  |jc v xs i u=>
   obtain ⟨b,cap,cs,e,fr,q1,_⟩:=hb;rw [q1,←h3];rfl
  |sub v sh xs u=>
   obtain ⟨b,cap,q1,_⟩:=hb;rw [q1,←h3];rfl
 rw [e];exact hle
theorem Ok.mono {c:Code} {Q Q':dh} (h:Ok P N c ts m Q) (hq:∀e ts m,Q e ts m->Q' e ts m):Ok P N c ts m Q':=fun B φ fp S a w hRS=>
 wp_mono (h B φ fp S a w hRS) fun e _ _ ⟨φ',fp',S',ts',m',h1,h2⟩=>⟨φ',fp',S',ts',m',h1,hq e ts' m' h2⟩
theorem Ok.loop {body:Code} {ι:Type} (I:ι->Prop) (σ:ι->Env × Mem) (μ:ι->Nat) {Q:dh} (x0:ι) (h0:I x0) (hr:rS ts m (σ x0).1 (σ x0).2)
 (step:∀x,I x->Ok P N body (σ x).1 (σ x).2 (zt Q fun ts' m'=>∃y,I y/\μ y<μ x/\rS ts' m' (σ y).1 (σ y).2)):Ok P N (.loop body) ts m Q:=by
 intro B φ fp S a w hRS;refine wp_loop_ghost (fun n a w=>∃x φ fp S,I x/\μ x=n/\RS B N φ fp S (σ x).1 (σ x).2 a w) (μ x0) ⟨x0,_,_,_,h0,rfl,hRS.refine hr⟩ ?_;rintro n a w ⟨x,φ,fp,S,hx,rfl,hRS⟩;refine wp_mono (step x hx B φ fp S a w hRS) fun e a' w' hq=> ?_;obtain ⟨φ',fp',S',ts',m',h1,h2⟩:=hq;cases e with
 |normal=>
  obtain ⟨y,hy,hlt,Wr⟩:=h2;exact ⟨μ y,hlt,y,_,_,_,hy,rfl,h1.refine Wr⟩
 |_=>exact ⟨φ',fp',S',ts',m',h1,h2⟩
theorem ak.loop {body:Code} {ι:Type} (I:ι->Prop) (σ:ι->Env × Mem) (μ:ι->Nat) {Q:dh} {q:Pack (Code.loop body,Q)} (x0:ι) (h0:I x0) (hr:rS ts m (σ x0).1 (σ x0).2) (hok:codeOk N body=true)
 (step:∀x,I x->vc P N body (σ x).1 (σ x).2 (zt Q fun ts' m'=>∃y,I y/\μ y<μ x/\rS ts' m' (σ y).1 (σ y).2)):ak P N (.loop body) ts m Q q:=
 ⟨Ok.loop I σ μ x0 h0 hr fun x hx=>cI body _ _ _ hok (step x hx)⟩
theorem ak.upto {body:Code} (n:Nat) (I:Nat->Prop) (σ:Nat->Env × Mem) {Q:dh} {q:Pack (Code.loop body,Q)} (h0:I 0) (hr:rS ts m (σ 0).1 (σ 0).2) (hok:codeOk N body=true)
 (step:∀i,i<n->I i->vc P N body (σ i).1 (σ i).2 (zt Q fun ts' m'=>I (i+1)/\rS ts' m' (σ (i+1)).1 (σ (i+1)).2))
 (stop:I n->vc P N body (σ n).1 (σ n).2 (zt Q fun _ _=>False)):ak P N (.loop body) ts m Q q:=by
 refine ⟨Ok.loop (fun i=>i<=n/\I i) σ (fun i=>n-i) 0 ⟨Nat.zero_le _,h0⟩ hr fun i ⟨hi,hI⟩=> ?_⟩;rcases Nat.lt_or_ge i n with h|h
 . refine (cI body _ _ _ hok (step i h hI)).mono fun e ts' m' hq=> ?_;cases e with
   |normal=>exact ⟨i+1,⟨h,hq.1⟩,by omega,hq.2⟩
   |_=>exact hq
 have e:i=n:=Nat.le_antisymm hi h;subst e;refine (cI body _ _ _ hok (stop hI)).mono fun e ts' m' hq=> ?_;cases e with
 |normal=>exact hq.elim
 |_=>exact hq
end
def nn (ag:Bool) (n j v:Nat) (b:Option bh) (k:AV->Prop):Prop:=match b with
 |some (.box v' xs)=>v'=v/\(if ag then j+n<=xs.length/\k (.agg ((xs.drop j).take n)) else ki xs[j]? k)
 |_=>False
@[congr] theorem Rp {ag:Bool} {n j v:Nat} {b b':Option bh} {k:AV->Prop} (h:b=b'):nn ag n j v b k=nn ag n j v b' k:=by rw [h]
theorem uO (n j v:Nat) (xs:lA) (k:AV->Prop):nn true n j v (some (.box v xs)) k=(j+n<=xs.length/\k (.agg ((xs.drop j).take n))):=by simp [nn]
def oM (ag:Bool) (n:Nat) (p:AV) (m:Mem) (k:AV->Prop):Prop:=match p with
 | .ptr l v i j=>i=0/\nn ag n j v (aj m l) k
 |_=>False
@[congr] theorem Sk {ag:Bool} {n:Nat} {p p':AV} {m:Mem} {k:AV->Prop} (h:p=p'):oM ag n p m k=oM ag n p' m k:=by rw [h]
theorem xA (ag:Bool) (n l v j:Nat) (m:Mem) (k:AV->Prop):oM ag n (.ptr l v 0 j) m k=nn ag n j v (aj m l) k:=by simp [oM]
def aQ (P:Program) (k:lA->Prop):List ResultVar->Env->Mem->lA->Prop
 | [],_,_,acc=>k acc.reverse
 | .tmp t::r,ts,m,acc=>aQ P k r ts m (look ts t::acc)
 | .cell p t::r,ts,m,acc=>ew (aK P t) fun ti=>oM ti.agg ti.size (look ts p) m fun y=>aQ P k r ts m (y::acc)
section
variable (P:Program) (k:lA->Prop) (r:List ResultVar) (ts:Env) (m:Mem) (acc:lA)
theorem rU:aQ P k [] ts m acc=k acc.reverse:=rfl
theorem rV (t:Nat):aQ P k (.tmp t::r) ts m acc=aQ P k r ts m (look ts t::acc):=rfl
theorem qf (p t:Nat):aQ P k (.cell p t::r) ts m acc=ew (aK P t) fun ti=>oM ti.agg ti.size (look ts p) m fun y=>aQ P k r ts m (y::acc):=rfl
end
def uP (l v i n:Nat) (used:lN) (b:Option bh) (k:AV->lN->Prop):Prop:=match b with
 |some (.row v' sh deep xs)=>v'=v/\deep=true/\i=0/\(0<sh.sz/\n<=xs.length/\l<bG/\l∉used)/\k (.arr sh (xs.take n)) (l::used)
 |_=>False
@[congr] theorem Ug {l v i n:Nat} {used:lN} {b b':Option bh} {k:AV->lN->Prop} (h:b=b'):uP l v i n used b k=uP l v i n used b' k:=by rw [h]
theorem A9 (l v n:Nat) (used:lN) (sh:Sh) (xs:lA) (k:AV->lN->Prop):
 uP l v 0 n used (some (.row v sh true xs)) k=((0<sh.sz/\n<=xs.length/\l<bG/\l∉used)/\k (.arr sh (xs.take n)) (l::used)):=by simp [uP]
def qg (m:Mem) (used:lN) (x:AV) (k:AV->lN->Prop):Prop:=match x with
 | .val v=>k (.val v) used
 | .e0=>k .e0 used
 | .ref l v i n=>uP l v i n used (aj m l) k
 |_=>False
@[congr] theorem Uh {m:Mem} {used:lN} {x x':AV} {k:AV->lN->Prop} (h:x=x'):qg m used x k=qg m used x' k:=by rw [h]
theorem Ba (m:Mem) (used:lN) (v:Value) (k:AV->lN->Prop):qg m used (.val v) k=k (.val v) used:=rfl
theorem Bb (m:Mem) (used:lN) (l v i n:Nat) (k:AV->lN->Prop):qg m used (.ref l v i n) k=uP l v i n used (aj m l) k:=rfl
def qB (m:Mem) (k:lA->lN->Prop):lN->lA->lA->Prop
 |used,acc,[]=>k acc.reverse used
 |used,acc,x::r=>qg m used x fun y used'=>qB m k used' (y::acc) r
theorem xB (m:Mem) (k:lA->lN->Prop) (used:lN) (acc:lA):qB m k used acc []=k acc.reverse used:=rfl
theorem uQ (m:Mem) (k:lA->lN->Prop) (used:lN) (acc:lA) (x:AV) (r:lA):qB m k used acc (x::r)=qg m used x fun y used'=>qB m k used' (y::acc) r:=rfl
def rW (m:Mem) (used:lN) (x:AV) (k:AV->lN->Prop):Prop:=match x with
 | .agg xs=>qB m (fun ys u=>k (.agg ys) u) used [] xs
 |x=>qg m used x k
@[congr] theorem Ui {m:Mem} {used:lN} {x x':AV} {k:AV->lN->Prop} (h:x=x'):rW m used x k=rW m used x' k:=by rw [h]
theorem Bc (m:Mem) (used:lN) (xs:lA) (k:AV->lN->Prop):rW m used (.agg xs) k=qB m (fun ys u=>k (.agg ys) u) used [] xs:=rfl
theorem Bd (m:Mem) (used:lN) (v:Value) (k:AV->lN->Prop):rW m used (.val v) k=k (.val v) used:=rfl
theorem Be (m:Mem) (used:lN) (l v i n:Nat) (k:AV->lN->Prop):rW m used (.ref l v i n) k=uP l v i n used (aj m l) k:=rfl
def iQ (m:Mem) (k:lA->Prop):lN->lA->lA->Prop
 |_,acc,[]=>k acc.reverse
 |used,acc,x::r=>rW m used x fun y used'=>iQ m k used' (y::acc) r
theorem xC (m:Mem) (k:lA->Prop) (used:lN) (acc:lA):iQ m k used acc []=k acc.reverse:=rfl
theorem uR (m:Mem) (k:lA->Prop) (used:lN) (acc:lA) (x:AV) (r:lA):iQ m k used acc (x::r)=rW m used x fun y used'=>iQ m k used' (y::acc) r:=rfl
def bM:lA->AV| [x]=>x|xs=>.aZ xs
theorem Lk (x:AV):bM [x]=x:=rfl
theorem Ll:bM []= .aZ []:=rfl
theorem s4 (x y:AV) (r:lA):bM (x::y::r)= .aZ (x::y::r):=rfl
def fin (P:Program) (rs:List ResultVar) (post:AV->Prop):dh
 | .normal=>fun ts m=>aQ P (fun xs=>iQ m (fun ys=>post (bM ys)) [] [] xs) rs ts m []
 | .ret=>fun ts m=>aQ P (fun xs=>iQ m (fun ys=>post (bM ys)) [] [] xs) rs ts m []
 |_=>fun _ _=>False
theorem Sl (P:Program) (rs:List ResultVar) (post:AV->Prop) (ts:Env) (m:Mem):fin P rs post .ret ts m=aQ P (fun xs=>iQ m (fun ys=>post (bM ys)) [] [] xs) rs ts m []:=rfl
def bN:Nat->lA->Env
 |_,[]=>[]
 |i,x::r=>(i,x)::bN (i+1) r
theorem Lm (i:Nat):bN i []=[]:=rfl
theorem HC (i:Nat) (x:AV) (r:lA):bN i (x::r)=(i,x)::bN (i+1) r:=rfl
section
variable {P:Program} {B:eO} {N:Nat} {φ:Nat->LS} {fp:Nat->lN} {S:Nat->Prop} {ts:Env} {m:Mem} {a:Act} {w:World}
theorem Bf {t:TypeId} {ti:TI} (ht:aK P t=some ti) (h:RS B N φ fp S ts m a w) {p:AV} {v:Value} (hp:RV w S φ p v) {k:AV->Prop} (hk:oM ti.agg ti.size p m k):
 ∃ad u y,v= .pointer (some ad)/\(loadVar t ad).run P w= .ok u w/\RV w S φ y u/\(∀l af,(l,af)∈ao y->known m l af)/\k y:=by
 unfold oM at hk;split at hk
 . rename_i l af i j;obtain ⟨rfl,hk⟩:=hk;have hp1:=j3 hp;unfold nn at hk;split at hk
   . rename_i v' xs hlk;obtain ⟨rfl,hk⟩:=hk;obtain ⟨b,cs,e,sh,hφ,hfs,aE,hsz,hlf,hr⟩:=h.aF l _ hlk;have hpv:=hp1 b sh hφ;rw [Nat.zero_mul,Nat.zero_add] at hpv;subst hpv;cases hag:ti.agg with
     |true=>
      simp only [hag,if_true] at hk;obtain ⟨hlen,hk⟩:=hk;refine ⟨_,_,.agg ((xs.drop j).take ti.size),rfl,de ht aE j (fun _=>by omega) (fun h=>by rw [hag] at h;cases h),?_,?_,hk⟩
      . rw [show ti.sh=⟨ti.size,true⟩ by simp [TI.sh,hag],c8];refine .agg _ _ (by simp;omega) (fun i hi=> ?_) fun i hi=> ?_
        . simp only [List.length_take,List.length_drop] at hi;simp only [q8,q6];exact hlf _ (by omega)
        simp only [List.length_take,List.length_drop] at hi;simp only [q8,q6];rw [bX _ _ _ _ (by omega)];exact hr (j+i) (by omega)
      intro l' ver' hl';simp only [ao] at hl';obtain ⟨i,hi,hl2⟩:=b8 hl';simp only [List.length_take,List.length_drop] at hi;simp only [q8,q6] at hl2;exact h.bl l v' xs hlk l' ver' (bw (by omega) hl2)
     |false=>
      simp only [hag,if_false,Bool.false_eq_true] at hk;cases hj:xs[j]? with
      |none=>rw [hj] at hk;exact hk.elim
      |some y=>
       rw [hj] at hk;obtain ⟨hj1,hj2⟩:=q5.1 hj;refine ⟨_,_,y,rfl,de ht aE j (fun h=>by rw [hag] at h;cases h) (fun _=>by omega),?_,?_,hk⟩
       . rw [show ti.sh=⟨ti.size,false⟩ by simp [TI.sh,hag],aW];have:=hr j hj1
         rwa [hj2] at this
       intro l' ver' hl';exact h.bl l v' xs hlk l' ver' (bw hj1 (by rw [hj2];exact hl'))
   exact hk.elim
 exact hk.elim
def da (tmps:aV):ResultVar->Sem Value
 | .tmp t=>pure (tmps.getD t Go.undef)
 | .cell p t=>do loadVar t (←asAddr (tmps.getD p Go.undef))
theorem lJ (h:RS B N φ fp S ts m a w) {Q:lA->Prop}:∀(rs:List ResultVar) (acc:lA) (va:List Value),pq (RV w S φ) acc.reverse va->aQ P Q rs ts m acc→
 ∃xs vs,Q xs/\(rs.mapM (da a.tmps)).run P w= .ok vs w/\pq (RV w S φ) xs (va++vs)/\vs.length=rs.length
 | [],acc,va,ha,hk=>⟨_,[],hk,by simp,by simpa using ha,rfl⟩
 | .tmp t::r,acc,va,ha,hk=>by
   obtain ⟨xs,vs,h1,h2,h3,h4⟩:=lJ h r (look ts t::acc) (va++[a.tmps.getD t Go.undef]) (by rw [q11];exact ha.snoc (h.tm t)) hk;refine ⟨xs,a.tmps.getD t Go.undef::vs,h1,?_,by simpa using h3,by simp [h4]⟩;rw [List.mapM_cons];simp only [da,Sem.run_bind,Sem.run_pure,Result.andThen_ok,h2]
 | .cell p t::r,acc,va,ha,hk=>by obtain ⟨ti,ht,hk⟩:=bL hk;obtain ⟨ad,u,y,hv,hr,hy,_,hk⟩:=Bf ht h (h.tm p) hk;obtain ⟨xs,vs,h1,h2,h3,h4⟩:=lJ h r (y::acc) (va++[u]) (by rw [q11];exact ha.snoc hy) hk;refine ⟨xs,u::vs,h1,?_,by simpa using h3,by simp [h4]⟩;rw [List.mapM_cons];simp only [da,hv,asAddr,Sem.run_bind,Sem.run_pure,Result.andThen_ok,hr,h2]
structure lM (fp:Nat->lN) (used used':lN) (fs:lN):Prop where
 gK:fs.Nodup
 mem:∀b,b∈fs->∃l,l∈used'/\b∈fp l
 e7:∀b,b∈fs->∀l,l∈used->b∉fp l
 sub:∀l,l∈used->l∈used'
 lo:∀l,l∈used'->l∈used\/l<bG
theorem lM.nil (used:lN):lM fp used used []:=⟨q10,fun _ h=>(by cases h),fun _ h=>(by cases h),fun _ h=>h,fun _ h=>.inl h⟩
theorem lM.app {u1 u2 u3 fs gs:lN} (h:lM fp u1 u2 fs) (g:lM fp u2 u3 gs):lM fp u1 u3 (fs++gs):=by
 refine ⟨List.nodup_append.2 ⟨h.gK,g.gK,?_⟩,?_,?_,fun l hl=>g.sub l (h.sub l hl),?_⟩
 . rintro b hb c hc rfl;obtain ⟨l,hl,hbl⟩:=h.mem b hb;exact g.e7 b hc l hl hbl
 . intro b hb;rcases List.mem_append.1 hb with hb|hb
   . obtain ⟨l,hl,hbl⟩:=h.mem b hb;exact ⟨l,g.sub l hl,hbl⟩
   exact g.mem b hb
 . intro b hb l hl;rcases List.mem_append.1 hb with hb|hb
   . exact h.e7 b hb l hl
   exact g.e7 b hb l (h.sub l hl)
 intro l hl;rcases g.lo l hl with hl|hl
 . exact h.lo l hl
 exact .inr hl
theorem EX (h:RS B N φ fp S ts m a w) {used:lN} {x:AV} {v:Value} (hx:RV w S φ x v) {k:AV->lN->Prop} (hk:qg m used x k):
 ∃y used' fs,k y used'/\leaf y/\Own w (fun _=>False) y v fs/\lM fp used used' fs:=by
 unfold qg at hk;split at hk
 . rename_i u;have:=aS hx;obtain ⟨rfl,hu⟩:=this;exact ⟨_,_,[],hk,trivial,.rd _ _ (.val _ hu),lM.nil used⟩
 . cases hx with
   |rd _ _ hr=>cases hr with
    |e0 ad=>exact ⟨_,_,[],hk,trivial,.rd _ _ (.e0 ad),lM.nil used⟩
 . rename_i l af i n;obtain ⟨r1,r2⟩:=dt hx;unfold uP at hk;split at hk
   . rename_i v' sh deep xs hlk;obtain ⟨rfl,rfl,rfl,⟨h0,hn,hio,hnu⟩,hk⟩:=hk;have jy:n=0->(∃ad,v= .slice ad 0 0)->∃y used' fs,k y used'/\leaf y/\Own w (fun _=>False) y v fs/\lM fp used used' fs:=by
      rintro rfl ⟨ad,rfl⟩
      exact ⟨_,_,[],hk,trivial,by rw [List.take_zero];exact .rd _ _ (.nil sh ad),q10,fun _ hh=>(by cases hh),fun _ hh=>(by cases hh),fun _ hh=>List.mem_cons_of_mem _ hh,fun l' hl'=>by
       rcases List.mem_cons.1 hl' with rfl|hl'
       . exact .inr hio
       exact .inl hl'⟩
     rcases h.aF l _ hlk with ⟨hφ,hxs,_⟩|⟨b,cap,hφ,hbm,_,bd⟩
     . exact jy (r2 hφ).1 (r2 hφ).2
     obtain ⟨ad,cap',rfl,cj,hc⟩:=r1 b sh hφ;rcases hc with rfl|⟨rfl,cs',e',hh',hs'⟩
     . have:n=0:=by omega
       subst this;exact jy rfl ⟨_,rfl⟩
     simp only [if_true] at bd;obtain ⟨gs,g1,g2,cs,e,g3,g4⟩:=Ef bd hbm n hn;rw [g3] at hh';injection hh' with hh';injection hh' with e1
     subst e1;rw [g4,Nat.zero_add] at hs';have:cap=cap':=Nat.eq_of_mul_eq_mul_right h0 hs';subst this;refine ⟨_,_,gs,hk,trivial,by simpa using g1,g2.nodup (h.gK l),fun c hc=>⟨l,List.mem_cons_self ..,g2.subset hc⟩,fun c hc l' hl' hcl=> ?_,fun _ hh=>List.mem_cons_of_mem _ hh,fun l' hl'=> ?_⟩
     . have:=h.e7 l l' c (g2.subset hc) hcl;subst this;exact hnu hl'
     rcases List.mem_cons.1 hl' with rfl|hl'
     . exact .inr hio
     exact .inl hl'
   exact hk.elim
 exact hk.elim
theorem xD {one:lN->AV->(AV->lN->Prop)->Prop} {ok:AV->Prop}
 (lB:∀(used:lN) (x:AV) (v:Value) (k:AV->lN->Prop),RV w S φ x v->one used x k->∃y used' fs,k y used'/\ok y/\Own w (fun _=>False) y v fs/\lM fp used used' fs)
 {Q:lA->lN->Prop} {many:lN->lA->lA->Prop} (jy:∀used acc,many used acc []->Q acc.reverse used) (G6:∀used acc x r,many used acc (x::r)->one used x fun y used'=>many used' (y::acc) r):
 ∀(xs:lA) (vs:List Value) (used:lN) (acc:lA),vs.length=xs.length->(∀i (h:i<xs.length),RV w S φ xs[i] (vs.getD i Go.undef))->many used acc xs→
  ∃(ys:lA) (used':lN) (fss:List lN),Q (acc.reverse++ys) used'/\ys.length=xs.length/\fss.length=ys.length/\(∀i (h:i<ys.length),ok ys[i]/\Own w (fun _=>False) ys[i] (vs.getD i Go.undef) (fss.getD i []))/\lM fp used used' fss.flatten
 | [],vs,used,acc,hv,_,hk=>⟨[],used,[],by simpa using jy _ _ hk,rfl,rfl,fun i hi=>absurd hi (q13 _),lM.nil used⟩
 |x::xs,vs,used,acc,hv,hr,hk=>by
  cases vs with
  |nil=>simp at hv
  |cons v vs=>
   obtain ⟨y,used1,fs,h1,h2,h3,h4⟩:=lB used x v _ (hr 0 (by simp)) (G6 _ _ _ _ hk);obtain ⟨ys,used2,fss,g1,g2,g3,g4,g5⟩:=xD lB jy G6 xs vs used1 (y::acc) (by simpa using hv) (fun i hi=>by have:=hr (i+1) (by simpa using hi);exact this) h1;refine ⟨y::ys,used2,fs::fss,by simpa using g1,by simp [g2],by simp [g3],fun i hi=> ?_,?_⟩
   . cases i with
     |zero=>exact ⟨h2,h3⟩
     |succ i=>exact g4 i (by simpa using hi)
   rw [List.flatten_cons];exact h4.app g5
theorem OI (h:RS B N φ fp S ts m a w) {used:lN} {x:AV} {v:Value} (hx:RV w S φ x v) {k:AV->lN->Prop} (hk:rW m used x k):
 ∃y used' fs,k y used'/\True/\Own w (fun _=>False) y v fs/\lM fp used used' fs:=by
 cases x with
 |agg xs=>
  obtain ⟨cs,rfl,h1,h2,h3⟩:=na hx
  obtain ⟨ys,used',fss,g1,g2,g3,g4,g5⟩:=xD (one:=fun used x k=>qg m used x k) (ok:=leaf) (Q:=fun ys u=>k (.agg ys) u) (many:=fun used acc xs=>qB m (fun ys u=>k (.agg ys) u) used acc xs)
   (fun used x v k hx hk=>EX h hx hk) (fun _ _ h=>h) (fun _ _ _ _ h=>h) xs cs.toList used [] (by simpa using h1) h3 hk
  exact ⟨.agg ys,used',fss.flatten,by simpa using g1,trivial,.agg ys cs fss (h1.trans g2.symm) (fun i hi=>(g4 i hi).1) g3 (fun i hi=>(g4 i hi).2),g5⟩
 |_=>
  obtain ⟨y,used',fs,g1,_,g3,g4⟩:=EX h hx hk;exact ⟨y,used',fs,g1,trivial,g3,g4⟩
theorem Bg (h:RS B N φ fp S ts m a w) {xs:lA} {vs:List Value} (hl:vs.length=xs.length) (hx:∀i (h:i<xs.length),RV w S φ xs[i] (vs.getD i Go.undef)) {k:lA->Prop} (hk:iQ m k [] [] xs):
 ∃(ys:lA) (fss:List lN),k ys/\ys.length=xs.length/\fss.length=ys.length/\(∀i (h:i<ys.length),Own w (fun _=>False) ys[i] (vs.getD i Go.undef) (fss.getD i []))/\fss.flatten.Nodup/\∀b,b∈fss.flatten->∃l,l<bG/\b∈fp l:=by
 obtain ⟨ys,used',fss,g1,g2,g3,g4,g5⟩:=xD (one:=fun used x k=>rW m used x k) (ok:=fun _=>True) (Q:=fun ys _=>k ys) (many:=fun used acc xs=>iQ m k used acc xs)
  (fun used x v k hx hk=>OI h hx hk) (fun _ _ h=>h) (fun _ _ _ _ h=>h) xs vs [] [] hl hx hk
 refine ⟨ys,fss,by simpa using g1,g2,g3,fun i hi=>(g4 i hi).2,g5.gK,fun b hb=> ?_⟩;obtain ⟨l,hl,hbl⟩:=g5.mem b hb;rcases g5.lo l hl with hh|hh
 . cases hh
 exact ⟨l,hh,hbl⟩
theorem Bh {ys:lA} {vs:List Value} {fss:List lN} (hl:vs.length=ys.length) (hf:fss.length=ys.length) (hv:∀i (h:i<ys.length),Own w (fun _=>False) ys[i] (vs.getD i Go.undef) (fss.getD i [])):
 Own w (fun _=>False) (bM ys) (if h:vs.toArray.size=1 then vs.toArray[0] else .tuple vs.toArray) fss.flatten:=by
 match ys,vs,fss,hl,hf,hv with
 | [],[],[],_,_,_=>exact .rd _ _ (.aZ [] #[] rfl fun i hi=>absurd hi (q13 _))
 | [y],[v],[f],_,_,hv=>simpa [bM] using hv 0 (by simp)
 |y::y'::r,v::v'::r',f::f'::r'',hl,hf,hv=>
  have:¬((v::v'::r').toArray.size=1):=by simp
  rw [dif_neg this];exact .aZ _ _ _ (by simpa using hl) hf (by simpa using hv)
theorem bO:∀(xs:lA) (i t:Nat),look (bN i xs) t=if i<=t then (xs[t-i]?).getD .undef else .undef
 | [],i,t=>by simp [bN,look]
 |x::r,i,t=>by
  rw [bN,cV,bO r (i+1) t];by_cases h:i=t
  . subst h;simp
  by_cases h2:i<=t
  . have h3:i+1<=t:=by omega
    rw [if_neg h,if_pos h3,if_pos h2,show t-i=(t-(i+1))+1 by omega,List.getElem?_cons_succ]
  rw [if_neg h,if_neg (by omega),if_neg h2]
theorem Fn.np {P:Program} {f:FuncId} {fn:Func} {c:Code} {args:List AV} {post:AV→Prop} (hf:P.funcs[f]? =some fn) (hn:(fn.name== "runtime.NumGoroutine")=false) (hb:fn.body=some c)
 (hok:codeOk fn.ntmps c=true) (ha:args.length<=fn.ntmps) (hv:vc P fn.ntmps c (bN 0 args) [] (fin P fn.results.toList post)):Fn P f args true post:=by
 refine ⟨⟨fn,c,hf,hn,hb⟩,fun w S vs hS zi hsz hrd=> ?_⟩;refine calls_of_wp hf hb ?_;have hRS:RS ⟨w,fun _ _=>False,fun _=>True,fun _=>.dead,[]⟩ fn.ntmps (fun _=>.dead) (fun _=>[]) (fun b=>b<w.heap.size) (bN 0 args) [] {tmps:=vs++Array.replicate (fn.ntmps-vs.size) undef,defers:=[]} w:=by
  have hx:∀i (h:i<args.length),Rd w (fun b=>b<w.heap.size) args[i] (vs.toList.getD i Go.undef):=fun i h=>(hrd i h).mono (fun _ _=>rfl) hS;have j0:∀t,(look (bN 0 args) t= .undef\/∃h:t<args.length,look (bN 0 args) t=args[t]):=by
   intro t;rw [bO];by_cases h:t<args.length
   . exact .inr ⟨h,by simp [h]⟩
   exact .inl (by simp [h])
  refine {tm:=fun t=> ?_,tl:=fun t l af hl=> ?_,bU:=fun _ _=>⟨rfl,rfl⟩,aF:=fun l k hk=>(by cases hk),bl:=fun l v xs hk=>(by cases hk),gK:=fun _=>q10,
          e7:=fun _ _ _ h=>(by cases h),bJ:=fun _ _ h=>(by cases h),cw:=fun _ _ h=>(by cases h),sB:=fun b hb=>⟨hb,.inr trivial⟩,base:=fun b hb _=>rfl,out:=a7.refl _,ke:=je.refl _,kn:=fun _ _ _ hk=>hk,fix:=fun _ _ _ _=>LS.le_refl _ _,
          size:=Nat.le_refl _,defers:=rfl,kv:=by simp;omega,jf:=zi.mono (fun _ _=>rfl) hS}
  . rcases j0 t with e|⟨h,e⟩
    . rw [e];exact .rd _ _ (.undef _)
    rw [e];have h1:=hx t h;have:vs.toList.getD t Go.undef=(vs++Array.replicate (fn.ntmps-vs.size) undef).getD t Go.undef:=by
     have h2:t<vs.size:=by omega
     simp only [Array.getD_eq_getD_getElem?,q3,q1];rw [Array.getElem?_append_left h2]
    rw [←this];exact .rd _ _ h1
  rcases j0 t with e|⟨h,e⟩
  . rw [e] at hl;cases hl
  rw [e,fX (hx t h)] at hl;cases hl
 have fU:∀a' w',ie ⟨w,fun _ _=>False,fun _=>True,fun _=>.dead,[]⟩ fn.ntmps (fun ts m=>aQ P (fun xs=>iQ m (fun ys=>post (bM ys)) [] [] xs) fn.results.toList ts m []) a' w'→
  a'.defers=[]/\∃v,(results fn a'.tmps).run P w'= .ok v w'/\∃r v',Ending.returned v= .returned v'/\post r/\Grown w w'/\iN w w' S true r v':=by
  rintro a' w' ⟨φ',fp',S',ts',m',h',hk⟩;refine ⟨h'.defers,?_⟩;obtain ⟨xs,us,h1,h2,h3,_⟩:=lJ h' fn.results.toList [] [] ⟨rfl,fun i hi=>absurd hi (q13 _)⟩ hk;obtain ⟨h3a,h3b⟩:=h3;simp only [List.nil_append] at h3a h3b;obtain ⟨ys,fss,g1,g2,g3,g4,g5,g6⟩:=Bg h' h3a h3b h1;refine ⟨if h:us.toArray.size=1 then us.toArray[0] else .tuple us.toArray,?_,bM ys,_,rfl,g1,⟨h'.size,fun b hb=>h'.base b hb (fun _ h=>h),h'.out⟩,?_⟩
  . have hm:results fn a'.tmps=(do let vs ←fn.results.mapM (da a'.tmps);pure (if h:vs.size=1 then vs[0] else .tuple vs)):=by
     unfold results;congr 1
    rw [hm,Sem.run_bind,Array.mapM_eq_mapM_toList];have:(List.toArray <$> fn.results.toList.mapM (da a'.tmps):Sem aV).run P w'= .ok us.toArray w':=by rw [map_eq_pure_bind,Sem.run_bind,h2];rfl
    rw [this];rfl
  refine ⟨fss.flatten,Bh (h3a.trans g2.symm) g3 g4,g5,fun b hb=> ?_⟩;obtain ⟨l,hl,hbl⟩:=g6 b hb;rcases (h'.cw l b hbl).2 with hh|⟨_,hh,_⟩
  . exact hh
  exact hh.elim
 refine wp_mono (cI c _ _ _ hok hv _ _ _ _ _ _ hRS) ?_;intro e a' w' hq;cases e with
 |normal=>exact fU a' w' hq
 |ret=>exact fU a' w' hq
 |_=>obtain ⟨_,_,_,_,_,_,hh⟩:=hq;exact hh.elim
theorem Fn.dM {P:Program} {f:FuncId} {fn:Func} {c:Code} {args:List AV} {post:AV→Prop} (N:Nat) (rs:List ResultVar) (hf:P.funcs[f]? =some fn) (hN:fn.ntmps=N:=by exact rfl) (hr:fn.results.toList=rs:=by exact rfl) (hn:(fn.name== "runtime.NumGoroutine")=false:=by exact rfl)
 (hb:fn.body=some c:=by exact rfl) (hok:codeOk N c=true:=by exact rfl) (ha:args.length<=N:=by exact oT rfl) (hv:vc P N c (bN 0 args) [] (fin P rs post)):Fn P f args true post:=by
 subst hN;subst hr;exact Fn.np hf hn hb hok ha hv
def mf:Nat->List bh->Mem
 |_,[]=>[]
 |k,b::r=>(bG+k,b)::mf (k+1) r
theorem Sm (k:Nat):mf k []=[]:=rfl
theorem OJ (k:Nat) (b:bh) (r:List bh):mf k (b::r)=(1000000000+k,b)::mf (k+1) r:=rfl
theorem mB:∀(io:List bh) (k l:Nat),aj (mf k io) l=if bG+k<=l then io[l-(bG+k)]? else none
 | [],k,l=>by simp [mf,aj]
 |b::r,k,l=>by
  rw [mf,aw,mB r (k+1) l];by_cases h:bG+k=l
  . subst h;simp
  by_cases h2:bG+k<=l
  . rw [if_neg h,if_pos (by omega),if_pos h2,show l-(bG+k)=(l-(bG+(k+1)))+1 by omega,List.getElem?_cons_succ]
  rw [if_neg h,if_neg (by omega),if_neg h2]
def fZ:bh->Prop
 | .box _ xs=>au xs=[]
 | .row _ _ _ _=>True
 | .gone _=>False
 | .jc _ _ _ _=>False
 | .sub _ _ _ _=>False
def Ln (io io':List bh) (m:Mem):Prop:=io'.length=io.length/\∀k (h:k<io'.length) (h':k<io.length),aj m (bG+k)=some io'[k]/\io'[k].af=io[k].af/\fZ io'[k]
def HE (w:World) (φ:Nat->LS) (fp:Nat->lN) (S:Nat->Prop) (io:List bh):eO:=⟨w,fun l b=>b∈fp l,S,φ,mf 0 io⟩
def pw (P:Program) (f:FuncId) (io:List bh) (args:lA) (post:AV->List bh->Prop):Prop:=
 Enters P f/\∀(w:World) (φ:Nat->LS) (fp:Nat->lN) (S:Nat->Prop) (vs:aV),vs.size=args.length→
  RS (HE w φ fp S io) vs.size φ fp S (bN 0 args) (mf 0 io) {tmps:=vs,defers:=[]} w→
  Calls P f vs w fun e w'=>∃r v io' φ' fp' S' m',e= .returned v/\post r io'/\RS (HE w φ fp S io) 0 φ' fp' S' [] m' {tmps:= #[],defers:=[]} w'/\Ln io io' m'∧
   ∃fs,Own w' (fun _=>False) r v fs/\fs.Nodup/\∀b,b∈fs->w.heap.size<=b/\¬S' b/\∀l,bG<=l->b∉fp' l
def zu (v:Nat) (b:Option bh) (k:bh->Prop):Prop:=match b with
 |some (.row v' sh d xs)=>v'=v/\k (.row v' sh d xs)
 |some (.box v' xs)=>v'=v/\au xs=[]/\k (.box v' xs)
 |_=>False
@[congr] theorem Vs {v:Nat} {b b':Option bh} {k:bh->Prop} (h:b=b'):zu v b k=zu v b' k:=by rw [h]
theorem EY (v:Nat) (sh:Sh) (d:Bool) (xs:lA) (k:bh->Prop):zu v (some (.row v sh d xs)) k=k (.row v sh d xs):=by simp [zu]
theorem EZ (v:Nat) (xs:lA) (k:bh->Prop):zu v (some (.box v xs)) k=(au xs=[]/\k (.box v xs)):=by simp [zu]
def qC (m:Mem) (k:List bh->Prop):Nat->lN->List bh->Prop
 |_,[],acc=>k acc.reverse
 |i,v::r,acc=>zu v (aj m (bG+i)) fun b=>qC m k (i+1) r (b::acc)
theorem E0 (m:Mem) (k:List bh->Prop) (i:Nat) (acc:List bh):qC m k i [] acc=k acc.reverse:=rfl
theorem Bi (m:Mem) (k:List bh->Prop) (i v:Nat) (r:lN) (acc:List bh):qC m k i (v::r) acc=zu v (aj m (1000000000+i)) fun b=>qC m k (i+1) r (b::acc):=rfl
theorem CJ {m:Mem} {k:List bh->Prop}:∀(vers:lN) (i:Nat) (acc:List bh),qC m k i vers acc->∃io',k (acc.reverse++io')/\io'.length=vers.length∧
 ∀j (h:j<io'.length) (h':j<vers.length),aj m (bG+(i+j))=some io'[j]/\io'[j].af=vers[j]/\fZ io'[j]
 | [],i,acc,hk=>by
   have hk1:k acc.reverse:=hk;exact ⟨[],by simpa using hk1,rfl,fun j h=>absurd h (q13 _)⟩
 |v::r,i,acc,hk0=>by
  have hk1:zu v (aj m (bG+i)) fun b=>qC m k (i+1) r (b::acc):=hk0;clear hk0
  have main:∀b,aj m (bG+i)=some b->b.af=v->fZ b->qC m k (i+1) r (b::acc)->∃io',k (acc.reverse++io')/\io'.length=(v::r).length∧
   ∀j (h:j<io'.length) (h':j<(v::r).length),aj m (bG+(i+j))=some io'[j]/\io'[j].af=(v::r)[j]/\fZ io'[j]:=by
   intro b hb hv hf hk;obtain ⟨io',h1,h2,h3⟩:=CJ r (i+1) (b::acc) hk;refine ⟨b::io',by simpa using h1,by simp [h2],fun j hj hj'=> ?_⟩;cases j with
   |zero=>exact ⟨hb,hv,hf⟩
   |succ j=>
    have:=h3 j (by simpa using hj) (by simpa using hj');rw [show i+1+j=i+(j+1) by omega] at this;exact this
  unfold zu at hk1;split at hk1
  . rename_i hb;exact main _ hb hk1.1 trivial hk1.2
  . rename_i hb;exact main _ hb hk1.1 hk1.2.1 hk1.2.2
  exact hk1.elim
def Sn (P:Program) (rs:List ResultVar) (vers:lN) (post:AV->List bh->Prop):dh
 | .normal=>fun ts m=>aQ P (fun xs=>iQ m (fun ys=>qC m (fun io'=>post (bM ys) io') 0 vers []) [] [] xs) rs ts m []
 | .ret=>fun ts m=>aQ P (fun xs=>iQ m (fun ys=>qC m (fun io'=>post (bM ys) io') 0 vers []) [] [] xs) rs ts m []
 |_=>fun _ _=>False
theorem OK (P:Program) (rs:List ResultVar) (vers:lN) (post:AV->List bh->Prop) (ts:Env) (m:Mem):
 Sn P rs vers post .ret ts m=aQ P (fun xs=>iQ m (fun ys=>qC m (fun io'=>post (bM ys) io') 0 vers []) [] [] xs) rs ts m []:=rfl
theorem pw.np {P:Program} {f:FuncId} {fn:Func} {c:Code} {io:List bh} {args:List AV} {post:AV→List bh→Prop} (hf:P.funcs[f]? =some fn) (hn:(fn.name== "runtime.NumGoroutine")=false) (hb:fn.body=some c)
 (hok:codeOk fn.ntmps c=true) (ha:args.length<=fn.ntmps) (hv:vc P fn.ntmps c (bN 0 args) (mf 0 io) (Sn P fn.results.toList (io.map bh.af) post)):pw P f io args post:=by
 refine ⟨⟨fn,c,hf,hn,hb⟩,fun w φ fp S vs hsz hR0=> ?_⟩;refine calls_of_wp hf hb ?_;have hRS:RS (HE w φ fp S io) fn.ntmps φ fp S (bN 0 args) (mf 0 io) {tmps:=vs++Array.replicate (fn.ntmps-vs.size) undef,defers:=[]} w:=by
  refine {hR0 with tm:=fun t=> ?_,defers:=rfl,kv:=by simp;omega};by_cases h:t<args.length
  . have h1:=hR0.tm t;have:vs.getD t Go.undef=(vs++Array.replicate (fn.ntmps-vs.size) undef).getD t Go.undef:=by
     have h2:t<vs.size:=by omega
     simp only [Array.getD_eq_getD_getElem?];rw [Array.getElem?_append_left h2]
    rw [←this];exact h1
  rw [bO];have:(if 0<=t then (args[t-0]?).getD AV.undef else .undef)= .undef:=by simp [List.getElem?_eq_none (show args.length<=t by omega)]
  rw [this];exact .rd _ _ (.undef _)
 have fU:∀a' w',ie (HE w φ fp S io) fn.ntmps (fun ts m=>aQ P (fun xs=>iQ m (fun ys=>qC m (fun io'=>post (bM ys) io') 0 (io.map bh.af) []) [] [] xs) fn.results.toList ts m []) a' w'→
  a'.defers=[]/\∃v,(results fn a'.tmps).run P w'= .ok v w'/\∃r v' io' φ' fp' S' m',Ending.returned v= .returned v'/\post r io'/\RS (HE w φ fp S io) 0 φ' fp' S' [] m' {tmps:= #[],defers:=[]} w'/\Ln io io' m'∧
   ∃fs,Own w' (fun _=>False) r v' fs/\fs.Nodup/\∀b,b∈fs->w.heap.size<=b/\¬S' b/\∀l,bG<=l->b∉fp' l:=by
  rintro a' w' ⟨φ',fp',S',ts',m',h',hk⟩;refine ⟨h'.defers,?_⟩;obtain ⟨xs,us,h1,h2,h3,_⟩:=lJ h' fn.results.toList [] [] ⟨rfl,fun i hi=>absurd hi (q13 _)⟩ hk;obtain ⟨h3a,h3b⟩:=h3;simp only [List.nil_append] at h3a h3b;obtain ⟨ys,fss,g1,g2,g3,g4,g5,g6⟩:=Bg h' h3a h3b h1;obtain ⟨io',q1,q2,q3⟩:=CJ _ _ _ g1;rw [List.reverse_nil,List.nil_append] at q1;refine ⟨if h:us.toArray.size=1 then us.toArray[0] else .tuple us.toArray,?_,bM ys,_,io',φ',fp',S',m',rfl,q1,?_,⟨by simpa using q2,fun k hk hk'=> ?_⟩,fss.flatten,Bh (h3a.trans g2.symm) g3 g4,g5,fun b hb=> ?_⟩
  . have hm:results fn a'.tmps=(do let vs ←fn.results.mapM (da a'.tmps);pure (if h:vs.size=1 then vs[0] else .tuple vs)):=by
     unfold results;congr 1
    rw [hm,Sem.run_bind,Array.mapM_eq_mapM_toList];have:(List.toArray <$> fn.results.toList.mapM (da a'.tmps):Sem aV).run P w'= .ok us.toArray w':=by rw [map_eq_pure_bind,Sem.run_bind,h2];rfl
    rw [this];rfl
  . exact {h' with tm:=fun t=>by rw [look_nil];exact .rd _ _ (.undef _),tl:=fun t l af hl=>(by rw [look_nil] at hl;cases hl),defers:=rfl,kv:=rfl}
  . have:=q3 k hk (by simpa using hk');rw [Nat.zero_add] at this;refine ⟨this.1,?_,this.2.2⟩;rw [this.2.1,List.getElem_map]
  obtain ⟨l,hl,hbl⟩:=g6 b hb;refine ⟨?_,h'.bJ l b hbl,fun l' hl' hb'=> ?_⟩
  . rcases (h'.cw l b hbl).2 with hh|⟨_,_,hh,_⟩
    . exact hh
    exact absurd hl (Nat.not_lt.2 hh)
  have:=h'.e7 l l' b hbl hb';subst this;exact absurd hl (Nat.not_lt.2 hl')
 refine wp_mono (cI c _ _ _ hok hv _ _ _ _ _ _ hRS) ?_;intro e a' w' hq;cases e with
 |normal=>exact fU a' w' hq
 |ret=>exact fU a' w' hq
 |_=>obtain ⟨_,_,_,_,_,_,hh⟩:=hq;exact hh.elim
theorem pw.dM {P:Program} {f:FuncId} {fn:Func} {c:Code} {io:List bh} {args:lA} {post:AV->List bh->Prop} (N:Nat) (rs:List ResultVar) (hf:P.funcs[f]? =some fn) (hN:fn.ntmps=N:=by exact rfl) (hr:fn.results.toList=rs:=by exact rfl)
 (hn:(fn.name== "runtime.NumGoroutine")=false:=by exact rfl) (hb:fn.body=some c:=by exact rfl) (hok:codeOk N c=true:=by exact rfl) (ha:args.length≤N:=by exact oT rfl) (hv:vc P N c (bN 0 args) (mf 0 io) (Sn P rs (io.map bh.af) post)):pw P f io args post:=by
 subst hN;subst hr;exact pw.np hf hn hb hok ha hv
theorem pw.mono {P:Program} {f:FuncId} {io:List bh} {args:lA} {post post':AV->List bh->Prop} (h:pw P f io args post) (hp:∀r io',post r io'->post' r io'):pw P f io args post':=
 ⟨h.1,fun w φ fp S vs h1 h2=>(h.2 w φ fp S vs h1 h2).mono fun _ _ ⟨r,v,io',φ',fp',S',m',g1,g2,g3⟩=>⟨r,v,io',φ',fp',S',m',g1,hp _ _ g2,g3⟩⟩
def s5 (l:Nat) (k:Nat->Prop):Nat->lN->Prop
 |_,[]=>False
 |j,l0::r=>if l0=l then k j else s5 l k (j+1) r
theorem kA (l:Nat) (k:Nat->Prop) (j l0:Nat) (r:lN):s5 l k j (l0::r)=if l0=l then k j else s5 l k (j+1) r:=rfl
def xE (ρ:lN) (x:AV) (k:AV->Prop):Prop:=match x with
 | .ref l v i n=>s5 l (fun j=>k (.ref (1000000000+j) v i n)) 0 ρ
 | .ptr l v i n=>s5 l (fun j=>k (.ptr (1000000000+j) v i n)) 0 ρ
 | .val v=>k (.val v)
 | .e0=>k .e0
 | .arr sh xs=>k (.arr sh xs)
 | .bu sh xs i j=>k (.bu sh xs i j)
 |_=>False
@[congr] theorem Vt {ρ:lN} {x x':AV} {k:AV->Prop} (h:x=x'):xE ρ x k=xE ρ x' k:=by rw [h]
theorem E1 (ρ:lN) (l v i n:Nat) (k:AV->Prop):xE ρ (.ref l v i n) k=s5 l (fun j=>k (.ref (1000000000+j) v i n)) 0 ρ:=rfl
theorem E2 (ρ:lN) (v:Value) (k:AV->Prop):xE ρ (.val v) k=k (.val v):=rfl
def qh (ρ:lN) (k:lA->Prop):lA->lA->Prop
 |acc,[]=>k acc.reverse
 |acc,x::r=>xE ρ x fun y=>qh ρ k (y::acc) r
theorem Bj (ρ:lN) (k:lA->Prop) (acc:lA):qh ρ k acc []=k acc.reverse:=rfl
theorem xF (ρ:lN) (k:lA->Prop) (acc:lA) (x:AV) (r:lA):qh ρ k acc (x::r)=xE ρ x fun y=>qh ρ k (y::acc) r:=rfl
def mC (ρ:lN) (x:AV) (k:AV->Prop):Prop:=match x with
 | .agg xs=>qh ρ (fun ys=>k (.agg ys)) [] xs
 |x=>xE ρ x k
@[congr] theorem Uj {ρ:lN} {x x':AV} {k:AV->Prop} (h:x=x'):mC ρ x k=mC ρ x' k:=by rw [h]
theorem Bk (ρ:lN) (xs:lA) (k:AV->Prop):mC ρ (.agg xs) k=qh ρ (fun ys=>k (.agg ys)) [] xs:=rfl
theorem Bl (ρ:lN) (l v i n:Nat) (k:AV->Prop):mC ρ (.ref l v i n) k=s5 l (fun j=>k (.ref (1000000000+j) v i n)) 0 ρ:=rfl
theorem Bm (ρ:lN) (l v i n:Nat) (k:AV->Prop):mC ρ (.ptr l v i n) k=s5 l (fun j=>k (.ptr (1000000000+j) v i n)) 0 ρ:=rfl
theorem Bo (ρ:lN) (v:Value) (k:AV->Prop):mC ρ (.val v) k=k (.val v):=rfl
theorem Bp (ρ:lN) (sh:Sh) (xs:lA) (k:AV->Prop):mC ρ (.arr sh xs) k=k (.arr sh xs):=rfl
def oO (ρ:lN) (k:lA->Prop):lA->lA->Prop
 |acc,[]=>k acc.reverse
 |acc,x::r=>mC ρ x fun y=>oO ρ k (y::acc) r
theorem Bq (ρ:lN) (k:lA->Prop) (acc:lA):oO ρ k acc []=k acc.reverse:=rfl
theorem xG (ρ:lN) (k:lA->Prop) (acc:lA) (x:AV) (r:lA):oO ρ k acc (x::r)=mC ρ x fun y=>oO ρ k (y::acc) r:=rfl
def xH (l:Nat):lN->Prop
 | []=>True
 |x::r=>l≠x/\xH l r
theorem Lo (l:Nat):xH l []=True:=rfl
theorem HF (l x:Nat) (r:lN):xH l (x::r)=(l≠x/\xH l r):=rfl
theorem Bt {l:Nat}:∀{r:lN},xH l r->l∉r
 | [],_,h=>by cases h
 |_::_,h,hm=>by
  rcases List.mem_cons.1 hm with e|hm
  . exact h.1 e
  exact Bt h.2 hm
def rX (b:Option bh) (k:bh->Prop):Prop:=match b with
 |some (.row v sh d xs)=>k (.row v sh d xs)
 |some (.box v xs)=>au xs=[]/\k (.box v xs)
 |_=>False
@[congr] theorem Uk {b b':Option bh} {k:bh->Prop} (h:b=b'):rX b k=rX b' k:=by rw [h]
theorem Bu (v:Nat) (sh:Sh) (d:Bool) (xs:lA) (k:bh->Prop):rX (some (.row v sh d xs)) k=k (.row v sh d xs):=rfl
theorem Bv (v:Nat) (xs:lA) (k:bh->Prop):rX (some (.box v xs)) k=(au xs=[]/\k (.box v xs)):=rfl
def pT (m:Mem) (k:List bh->Prop):List bh->lN->Prop
 |acc,[]=>k acc.reverse
 |acc,l::r=>xH l r/\rX (aj m l) fun b=>pT m k (b::acc) r
theorem E3 (m:Mem) (k:List bh->Prop) (acc:List bh):pT m k acc []=k acc.reverse:=rfl
theorem py (m:Mem) (k:List bh->Prop) (acc:List bh) (l:Nat) (r:lN):pT m k acc (l::r)=(xH l r/\rX (aj m l) fun b=>pT m k (b::acc) r):=rfl
def ga:lN->List bh->Mem->Mem
 |l::ρ,b::io,m=>(l,b)::ga ρ io m
 |_,_,m=>m
theorem kN (l:Nat) (ρ:lN) (b:bh) (io:List bh) (m:Mem):ga (l::ρ) (b::io) m=(l,b)::ga ρ io m:=rfl
theorem Bw (io:List bh) (m:Mem):ga [] io m=m:=rfl
def CK (P:Program) (f:FuncId) (d:Nat) (ρ:lN) (io:List bh) (args:lA) (m:Mem) (k:AV->Mem->Prop) (_:Pack k):Prop:=
 ∃post,pw P f io args post/\∀r io',post r io'->nf (1000*(d+1)) r (ga ρ io' m) k
@[congr] theorem Sp {P:Program} {f:FuncId} {d:Nat} {ρ:lN} {io io':List bh} {args args':lA} {m:Mem} {k:AV->Mem->Prop} {q:Pack k} (h:io=io') (h':args=args'):CK P f d ρ io args m k q=CK P f d ρ io' args' m k q:=by rw [h,h']
theorem nq {P:Program} {f:FuncId} {d:Nat} {ρ:lN} {io io1:List bh} {args:lA} {m:Mem} {k:AV->Mem->Prop} {r:AV} (h:pw P f io args (fun x io'=>x=r/\io'=io1)) (hk:nf (1000*(d+1)) r (ga ρ io1 m) k) {q:Pack k}:CK P f d ρ io args m k q:=
 ⟨_,h,fun _ _ ⟨e,e'⟩=>by subst e;subst e';exact hk⟩
theorem xI {k:List bh->Prop}:∀(ρ:lN) (acc:List bh),pT m k acc ρ->ρ.Nodup/\∃io,k (acc.reverse++io)/\io.length=ρ.length/\∀j (h:j<ρ.length) (h':j<io.length),aj m ρ[j]=some io[j]/\fZ io[j]
 | [],acc,hk=>by
   have hk1:k acc.reverse:=hk;exact ⟨q10,[],by simpa using hk1,rfl,fun j h=>absurd h (q13 _)⟩
 |l::r,acc,hk=>by
  obtain ⟨hn,hk⟩:=hk;have main:∀b,aj m l=some b->fZ b->pT m k (b::acc) r->(l::r).Nodup/\∃io,k (acc.reverse++io)/\io.length=(l::r).length/\∀j (h:j<(l::r).length) (h':j<io.length),aj m (l::r)[j]=some io[j]/\fZ io[j]:=by
   intro b hb hf hk;obtain ⟨h0,io,h1,h2,h3⟩:=xI r (b::acc) hk;refine ⟨List.nodup_cons.2 ⟨Bt hn,h0⟩,b::io,by simpa using h1,by simp [h2],fun j hj hj'=> ?_⟩;cases j with
   |zero=>exact ⟨hb,hf⟩
   |succ j=>exact h3 j (by simpa using hj) (by simpa using hj')
  unfold rX at hk;split at hk
  . rename_i hb;exact main _ hb trivial hk
  . rename_i hb;exact main _ hb hk.1 hk.2
  exact hk.elim
theorem xJ {l:Nat} {k:Nat->Prop}:∀(ρ:lN) (i:Nat),s5 l k i ρ->∃j,∃h:j<ρ.length,ρ[j]=l/\k (i+j)
 | [],_,hk=>hk.elim
 |l0::r,i,hk=>by
  rw [kA] at hk;split at hk
  . rename_i e;exact ⟨0,by simp,e,hk⟩
  obtain ⟨j,h1,h2,h3⟩:=xJ r (i+1) hk;exact ⟨j+1,by simpa using h1,by simpa using h2,by rw [show i+(j+1)=i+1+j by omega];exact h3⟩
def mD (φ:Nat->LS) (ρ:lN):Nat->LS:=fun l=>if bG<=l then (match ρ[l-bG]? with|some l'=>φ l'|none=>.dead) else .dead
def pU (fp:Nat->lN) (ρ:lN):Nat->lN:=fun l=>if bG<=l then (match ρ[l-bG]? with|some l'=>fp l'|none=>[]) else []
theorem fC (φ:Nat->LS) {ρ:lN} {j:Nat} (h:j<ρ.length):mD φ ρ (bG+j)=φ ρ[j]:=by simp [mD,h]
theorem vV (fp:Nat->lN) {ρ:lN} {j:Nat} (h:j<ρ.length):pU fp ρ (bG+j)=fp ρ[j]:=by simp [pU,h]
theorem gX {fp:Nat->lN} {ρ:lN} {l b:Nat} (h:b∈pU fp ρ l):∃j,∃hj:j<ρ.length,l=bG+j/\b∈fp ρ[j]:=by
 unfold pU at h;split at h
 . rename_i hl;split at h
   . rename_i l' hl';obtain ⟨hj,e⟩:=q5.1 hl';exact ⟨l-bG,hj,by omega,by rw [e];exact h⟩
   cases h
 cases h
theorem JT {io:List bh} {ρ:lN} (hio:io.length=ρ.length) (hlk:∀j (h:j<ρ.length) (h':j<io.length),aj m ρ[j]=some io[j]/\fZ io[j]) {x:AV} {v:Value} (hx:RV w S φ x v) (hxl:∀l af,(l,af)∈ao x->known m l af)
 {k:AV->Prop} (hk:xE ρ x k):∃y,k y/\RV w S (mD φ ρ) y v/\leaf y/\∀l af,(l,af)∈ao y->known (mf 0 io) l af:=by
 have kn:∀j (hj:j<ρ.length) af,known m ρ[j] af->known (mf 0 io) (bG+j) af:=by rintro j hj af ⟨k',h1,h2⟩;rw [(hlk j hj (by omega)).1] at h1;have h1:=Option.some.inj h1;refine ⟨io[j]'(by omega),?_,by rw [h1];exact h2⟩;rw [mB,if_pos (by omega)];simp<;>omega
 have flat:∀y,ao y=[]->leaf y->k y->RV w S φ y v->∃y,k y/\RV w S (mD φ ρ) y v/\leaf y/\∀l af,(l,af)∈ao y->known (mf 0 io) l af:=by intro y hl hlf hk hv;exact ⟨y,hk,.rd _ _ (cQ hv hl),hlf,fun l af h=>by rw [hl] at h;cases h⟩
 unfold xE at hk;split at hk
 . rename_i l af i n;obtain ⟨j,hj,rfl,hk1⟩:=xJ ρ 0 hk;simp only [Nat.zero_add] at hk1;obtain ⟨r1,r2⟩:=dt hx;have h3:v.oneCell'=true:=hx.aU trivial;refine ⟨_,hk1,.ref _ _ _ _ _ (fun b sh hb=> ?_) (fun hb=> ?_) h3,trivial,fun l' ver' hl'=> ?_⟩
   . rw [show (1000000000+j)=bG+j from rfl,fC φ hj] at hb;exact r1 b sh hb
   . rw [show (1000000000+j)=bG+j from rfl,fC φ hj] at hb;exact r2 hb
   simp only [ao,q9,Prod.mk.injEq] at hl';obtain ⟨rfl,rfl⟩:=hl';exact kn j hj _ (hxl _ _ (by simp [ao]))
 . rename_i l af i n;obtain ⟨j,hj,rfl,hk1⟩:=xJ ρ 0 hk;simp only [Nat.zero_add] at hk1;have h3:v.oneCell'=true:=hx.aU trivial;refine ⟨_,hk1,?_,trivial,fun l' ver' hl'=> ?_⟩
   . cases hx with
     |rd _ _ h=>cases h
     |ptr _ _ _ _ _ h1 h2 _=>
      refine .ptr _ _ _ _ _ (fun b sh hb=> ?_) (fun hb=> ?_) h3
      . rw [show (1000000000+j)=bG+j from rfl,fC φ hj] at hb;exact h1 b sh hb
      rw [show (1000000000+j)=bG+j from rfl,fC φ hj] at hb;exact h2 hb
   simp only [ao,q9,Prod.mk.injEq] at hl';obtain ⟨rfl,rfl⟩:=hl';exact kn j hj _ (hxl _ _ (by simp [ao]))
 . rename_i u;exact flat (.val u) rfl trivial hk hx
 . exact flat .e0 rfl trivial hk hx
 . rename_i sh xs;exact flat (.arr sh xs) rfl trivial hk hx
 . rename_i sh xs i j;exact flat (.bu sh xs i j) rfl trivial hk hx
 exact hk.elim
theorem E4 {io:List bh} {ρ:lN} (hio:io.length=ρ.length) (hlk:∀j (h:j<ρ.length) (h':j<io.length),aj m ρ[j]=some io[j]/\fZ io[j]) {Q:lA->Prop}:
 ∀(xs:lA) (vs:List Value) (acc:lA),vs.length=xs.length->(∀i (h:i<xs.length),RV w S φ xs[i] (vs.getD i Go.undef))->(∀i (h:i<xs.length) l af,(l,af)∈ao xs[i]->known m l af)->qh ρ Q acc xs→
  ∃ys,Q (acc.reverse++ys)/\ys.length=xs.length/\∀i (h:i<ys.length),RV w S (mD φ ρ) ys[i] (vs.getD i Go.undef)/\leaf ys[i]/\∀l af,(l,af)∈ao ys[i]->known (mf 0 io) l af
 | [],vs,acc,_,_,_,hk=>by
   have hk1:Q acc.reverse:=hk;exact ⟨[],by simpa using hk1,rfl,fun i h=>absurd h (q13 _)⟩
 |x::xs,vs,acc,hl,hx,hxl,hk=>by
  cases vs with
  |nil=>simp at hl
  |cons v vs=>
   obtain ⟨y,h1,h2,h3,h4⟩:=JT hio hlk (hx 0 (by simp)) (hxl 0 (by simp)) hk;obtain ⟨ys,g1,g2,g3⟩:=E4 hio hlk xs vs (y::acc) (by simpa using hl) (fun i hi=>hx (i+1) (by simpa using hi)) (fun i hi=>hxl (i+1) (by simpa using hi)) h1;refine ⟨y::ys,by simpa using g1,by simp [g2],fun i hi=> ?_⟩;cases i with
   |zero=>exact ⟨h2,h3,h4⟩
   |succ i=>exact g3 i (by simpa using hi)
theorem OL {io:List bh} {ρ:lN} (hio:io.length=ρ.length) (hlk:∀j (h:j<ρ.length) (h':j<io.length),aj m ρ[j]=some io[j]/\fZ io[j]) {x:AV} {v:Value} (hx:RV w S φ x v) (hxl:∀l af,(l,af)∈ao x->known m l af)
 {k:AV->Prop} (hk:mC ρ x k):∃y,k y/\RV w S (mD φ ρ) y v/\∀l af,(l,af)∈ao y->known (mf 0 io) l af:=by
 unfold mC at hk;split at hk
 . rename_i xs;obtain ⟨cs,rfl,h1,h2,h3⟩:=na hx;obtain ⟨ys,g1,g2,g3⟩:=E4 hio hlk xs cs.toList [] (by simpa using h1) h3 (fun i hi l af hl=>hxl l af (by simp only [ao];exact bw hi hl)) hk;refine ⟨.agg ys,by simpa using g1,.agg ys cs (h1.trans g2.symm) (fun i hi=>(g3 i hi).2.1) (fun i hi=>(g3 i hi).1),fun l af hl=> ?_⟩;simp only [ao] at hl;obtain ⟨i,hi,hl⟩:=b8 hl;exact (g3 i hi).2.2 l af hl
 obtain ⟨y,h1,h2,_,h4⟩:=JT hio hlk hx hxl hk;exact ⟨y,h1,h2,h4⟩
theorem xK {io:List bh} {ρ:lN} (hio:io.length=ρ.length) (hlk:∀j (h:j<ρ.length) (h':j<io.length),aj m ρ[j]=some io[j]/\fZ io[j]) {Q:lA->Prop}:
 ∀(xs:lA) (vs:List Value) (acc:lA),vs.length=xs.length->(∀i (h:i<xs.length),RV w S φ xs[i] (vs.getD i Go.undef))->(∀i (h:i<xs.length) l af,(l,af)∈ao xs[i]->known m l af)->oO ρ Q acc xs→
  ∃ys,Q (acc.reverse++ys)/\ys.length=xs.length/\∀i (h:i<ys.length),RV w S (mD φ ρ) ys[i] (vs.getD i Go.undef)/\∀l af,(l,af)∈ao ys[i]->known (mf 0 io) l af
 | [],vs,acc,_,_,_,hk=>by
   have hk1:Q acc.reverse:=hk;exact ⟨[],by simpa using hk1,rfl,fun i h=>absurd h (q13 _)⟩
 |x::xs,vs,acc,hl,hx,hxl,hk=>by
  cases vs with
  |nil=>simp at hl
  |cons v vs=>
   obtain ⟨y,h1,h2,h4⟩:=OL hio hlk (hx 0 (by simp)) (hxl 0 (by simp)) hk;obtain ⟨ys,g1,g2,g3⟩:=xK hio hlk xs vs (y::acc) (by simpa using hl) (fun i hi=>hx (i+1) (by simpa using hi)) (fun i hi=>hxl (i+1) (by simpa using hi)) h1;refine ⟨y::ys,by simpa using g1,by simp [g2],fun i hi=> ?_⟩;cases i with
   |zero=>exact ⟨h2,h4⟩
   |succ i=>exact g3 i (by simpa using hi)
theorem lO:∀(ρ:lN) (io:List bh),io.length=ρ.length->ρ.Nodup->∀l,(∀j (h:j<ρ.length),ρ[j]=l->aj (ga ρ io m) l=io[j]?)/\(l∉ρ->aj (ga ρ io m) l=aj m l)
 | [],io,_,_,l=>⟨fun j h=>absurd h (q13 _),fun _=>by rw [Bw]⟩
 |l0::ρ,[],h,_,_=>by simp at h
 |l0::ρ,b::io,h,hn,l=>by
  obtain ⟨hn1,hn2⟩:=List.nodup_cons.1 hn;obtain ⟨ih1,ih2⟩:=lO ρ io (by simpa using h) hn2 l;refine ⟨fun j hj e=> ?_,fun hl=> ?_⟩
  . rw [kN,aw];cases j with
    |zero=>rw [if_pos (by simpa using e)];rfl
    |succ j=>
     have e':ρ[j]'(by simpa using hj)=l:=by simpa using e
     rw [if_neg (fun e2=>hn1 (by rw [e2,←e'];exact List.getElem_mem _))];rw [ih1 j (by simpa using hj) e'];rfl
  rw [kN,aw,if_neg (fun e=>hl (by rw [←e];exact List.mem_cons_self ..))];exact ih2 fun hm=>hl (List.mem_cons_of_mem _ hm)
theorem xL {f:FuncId} {ρ:lN} {io:List bh} {args xs:lA} (hnd:ρ.Nodup) (hio:io.length=ρ.length)
 (hlk:∀j (h:j<ρ.length) (h':j<io.length),aj m ρ[j]=some io[j]/\fZ io[j]) {vs:aV} (h:RS B N φ fp S ts m a w) (hvl:vs.size=args.length)
 (hx:∀i (h:i<args.length),RV w S (mD φ ρ) args[i] (vs.toList.getD i Go.undef)/\∀l af,(l,af)∈ao args[i]->known (mf 0 io) l af) {post:AV->List bh->Prop} (hf:pw P f io args post):
 Calls P f vs w fun e w'=>∃v r io' fp2 T fs,e= .returned v/\post r io'/\RS B N φ fp2 T ts (ga ρ io' m) a w'/\je w w'/\io'.length=ρ.length∧
  Own w' (fun _=>False) r v fs/\(∀j (h:j<ρ.length) b,b∈fp2 ρ[j]->w.heap.size<=b\/b∈fp ρ[j])/\fs.Nodup/\∀b,b∈fs->w.heap.size<=b/\¬T b/\∀l,b∉fp2 l:=by
 have inj:∀i j (hi:i<ρ.length) (hj:j<ρ.length),ρ[i]=ρ[j]->i=j:=fun i j hi hj e=>(List.getElem_inj hnd).1 e;have look0:∀l,aj (mf 0 io) l=if bG<=l then io[l-bG]? else none:=fun l=>by rw [mB];rfl
 have at_:∀l b,aj (mf 0 io) l=some b->∃j,∃hj:j<ρ.length,∃hj':j<io.length,l=bG+j/\b=io[j]:=by
  intro l b hb;rw [look0] at hb;split at hb
  . rename_i hl;obtain ⟨hj,e⟩:=q5.1 hb;exact ⟨l-bG,by omega,hj,by omega,e.symm⟩
  cases hb
 have hR0:RS (HE w (mD φ ρ) (pU fp ρ) S io) vs.size (mD φ ρ) (pU fp ρ) S (bN 0 args) (mf 0 io) {tmps:=vs,defers:=[]} w:=by
  refine {tm:=fun t=> ?_,tl:=fun t l af hl=> ?_,bU:=fun l hl=> ?_,aF:=fun l b hb=> ?_,bl:=fun l v xs hb l' af hl=> ?_,gK:=fun l=> ?_,e7:=fun l l' b h1 h2=> ?_,
          bJ:=fun l b hb=> ?_,cw:=fun l b hb=> ?_,sB:=fun b hb=>⟨(h.sB b hb).1,.inr hb⟩,base:=fun b _ _=>rfl,out:=a7.refl _,ke:=je.refl _,kn:=fun _ _ _ hk=>hk,fix:=fun _ _ _ _=>LS.le_refl _ _,
          size:=Nat.le_refl _,defers:=rfl,kv:=rfl,jf:=h.jf}
  . rw [bO];by_cases ht:t<args.length
    . have e:(if 0<=t then (args[t-0]?).getD AV.undef else .undef)=args[t]:=by simp [ht]
      rw [e];have:=(hx t ht).1;have e2:vs.toList.getD t Go.undef=vs.getD t Go.undef:=by simp [q3,Array.getD_eq_getD_getElem?]
      rw [←e2];exact this
    have e:(if 0<=t then (args[t-0]?).getD AV.undef else .undef)= .undef:=by simp [List.getElem?_eq_none (show args.length<=t by omega)]
    rw [e];exact .rd _ _ (.undef _)
  . rw [bO] at hl;by_cases ht:t<args.length
    . have e:(if 0<=t then (args[t-0]?).getD AV.undef else .undef)=args[t]:=by simp [ht]
      rw [e] at hl;exact (hx t ht).2 l af hl
    have e:(if 0<=t then (args[t-0]?).getD AV.undef else .undef)= .undef:=by simp [List.getElem?_eq_none (show args.length<=t by omega)]
    rw [e] at hl;cases hl
  . rw [look0] at hl;unfold mD pU;split at hl
    . rename_i hl';have:ρ[l-bG]? =none:=List.getElem?_eq_none (by have:=List.getElem?_eq_none_iff.1 hl;omega);rw [if_pos hl',if_pos hl',this];exact ⟨rfl,rfl⟩
    rename_i hl';rw [if_neg hl',if_neg hl'];exact ⟨rfl,rfl⟩
  . obtain ⟨j,hj,hj',rfl,rfl⟩:=at_ l b hb;have hb0:=h.aF ρ[j] _ (hlk j hj hj').1;have hfr:=(hlk j hj hj').2;rw [vV fp hj];generalize io[j]=b at hb0 hfr;cases b with
    |gone v=>exact ⟨by rw [fC φ hj];exact hb0.1,hb0.2⟩
    |row v sh dp xs=>
     rcases hb0 with ⟨q1,q2,q3⟩|⟨b,cap,q1,q2⟩
     . exact .inl ⟨by rw [fC φ hj];exact q1,q2,q3⟩
     exact .inr ⟨b,cap,by rw [fC φ hj];exact q1,q2⟩
    |jc v xs i u=>exact hfr.elim
    |sub v sh xs u=>exact hfr.elim
    |box v xs=>
     obtain ⟨b,cs,e,sh,q1,q2,q3,q4,q5,q6⟩:=hb0;exact ⟨b,cs,e,sh,by rw [fC φ hj];exact q1,q2,q3,q4,q5,fun i hi=>.rd _ _ (cQ (q6 i hi) (bK hfr i hi))⟩
  . obtain ⟨j,hj,hj',rfl,e⟩:=at_ l _ hb;have hfr:=(hlk j hj hj').2;rw [←e] at hfr;have hfr:au xs=[]:=hfr;rw [hfr] at hl;cases hl
  . unfold pU;split
    . split
      . exact h.gK _
      exact q10
    exact q10
  . obtain ⟨i,hi,rfl,b1⟩:=gX h1;obtain ⟨j,hj,rfl,b2⟩:=gX h2;have:=inj i j hi hj (h.e7 _ _ b b1 b2);subst this;rfl
  . obtain ⟨i,hi,rfl,b1⟩:=gX hb;exact h.bJ _ b b1
  obtain ⟨i,hi,rfl,b1⟩:=gX hb;exact ⟨(h.cw _ b b1).1,.inr ⟨_,hb,by omega,.inl rfl⟩⟩
 refine (hf.2 w (mD φ ρ) (pU fp ρ) S vs hvl hR0).mono ?_;rintro e w' ⟨r,v,io',φ',fp',S',m',rfl,gP,hR,⟨hl',hok⟩,fs,bd,Ws,hfr⟩;have hl2:io'.length=ρ.length:=hl'.trans hio;have jb:∀b:Nat,b<w.heap.size->(∀j (hj:j<ρ.length),b∉fp ρ[j])->w'.heap[b]? =w.heap[b]? :=fun b hb hn=>hR.base b hb fun l hb'=>by obtain ⟨j,hj,rfl,hb2⟩:=gX hb';exact hn j hj hb2
 have lq:∀b,S b->w'.heap[b]? =w.heap[b]? :=fun b hb=>jb b (h.sB b hb).1 fun j hj hb'=>h.bJ _ b hb' hb;have hz:fH φ w w':=fun l b sh af cs e _ hb=>hR.ke b cs e hb;have hm2:=fun l=>lO (m:=m) ρ io' hl2 hnd l;have hkn:∀l af,known m l af->known (ga ρ io' m) l af:=by
  rintro l af ⟨k',h1,h2⟩;by_cases hl:l∈ρ
  . obtain ⟨j,hj,rfl⟩:=q7 hl;have e:=(hm2 ρ[j]).1 j hj rfl;rw [q4 (by omega)] at e;rw [(hlk j hj (by omega)).1] at h1;have h1:=Option.some.inj h1;exact ⟨_,e,by rw [(hok j (by omega) (by omega)).2.1,h1];exact h2⟩
  exact ⟨k',((hm2 l).2 hl).trans h1,h2⟩
 let T:Nat->Prop:=fun b=>S b\/(S' b/\w.heap.size<=b);have hST:∀b,S' b->T b:=fun b hb=>by
  rcases (hR.sB b hb).2 with hh|hh
  . exact .inr ⟨hb,hh⟩
  exact .inl hh
 let fp2:Nat->lN:=fun l=>match ρ.idxOf? l with|some j=>fp' (bG+j)|none=>fp l
 have fp2in:∀j (hj:j<ρ.length),fp2 ρ[j]=fp' (bG+j):=by
  intro j hj;have:ρ.idxOf? ρ[j]=some j:=by rw [List.idxOf?,List.findIdx?_eq_some_iff_getElem];refine ⟨hj,by simp,fun i hi=> ?_⟩;simp only [beq_iff_eq];intro e2;have:=inj i j (by omega) hj e2;omega
  show (match ρ.idxOf? ρ[j] with|some j=>fp' (bG+j)|none=>fp ρ[j])=_;rw [this]
 have fp2out:∀l,l∉ρ->fp2 l=fp l:=by
  intro l hl;have:ρ.idxOf? l=none:=by simpa [List.idxOf?_eq_none_iff] using hl
  show (match ρ.idxOf? l with|some j=>fp' (bG+j)|none=>fp l)=_;rw [this]
 have fpnew:∀j (hj:j<ρ.length) b,b∈fp' (bG+j)->b<w'.heap.size/\(w.heap.size<=b\/b∈fp ρ[j]):=by
  intro j hj b hb;have:=hR.cw _ b hb;refine ⟨this.1,this.2.imp id fun hh=> ?_⟩;obtain ⟨l',hb2,_,hl3⟩:=hh;have hl3:l'=bG+j:=hl3.resolve_right fun e=>by have e:aj (mf 0 io) (bG+j)=none:=e;rw [look0,if_pos (by omega),List.getElem?_eq_none_iff] at e;omega
  subst hl3;have hh:b∈pU fp ρ (bG+j):=hb2
  rwa [vV fp hj] at hh
 have hRS:RS B N φ fp2 T ts (ga ρ io' m) a w':=by
  refine {tm:=fun t=>(h.tm t).mono lq (fun b hb=>.inl hb) hz fun l af _=>LS.le_refl _ _,tl:=fun t l af hl=>hkn l af (h.tl t l af hl),bU:=fun l hl=> ?_,aF:=fun l b hb=> ?_,
          bl:=fun l v xs hb l' af hl=> ?_,gK:=fun l=> ?_,e7:=fun l l' b h1 h2=> ?_,bJ:=fun l b hb=> ?_,cw:=fun l b hb=> ?_,sB:=fun b hb=> ?_,base:=fun b hb hio=> ?_,
          out:=h.out.trans hR.out,ke:=h.ke.trans hR.ke,kn:=fun l af hl hk=>hkn l af (h.kn l af hl hk),fix:=h.fix,size:=Nat.le_trans h.size hR.size,defers:=h.defers,kv:=h.kv,jf:=h.jf.mono lq fun b hb=>.inl hb}
  . by_cases hm:l∈ρ
    . obtain ⟨j,hj,rfl⟩:=q7 hm;rw [(hm2 ρ[j]).1 j hj rfl,q4 (by omega)] at hl;cases hl
    rw [(hm2 l).2 hm] at hl;rw [fp2out l hm];exact h.bU l hl
  . by_cases hm:l∈ρ
    . obtain ⟨j,hj,rfl⟩:=q7 hm;rw [(hm2 ρ[j]).1 j hj rfl,q4 (by omega)] at hb;have hb:=Option.some.inj hb;subst hb;obtain ⟨g1,g2,g3⟩:=hok j (by omega) (by omega);have hB:=hR.aF _ _ g1;have Wt:known (mf 0 io) (bG+j) (io[j]'(by omega)).af:=⟨io[j]'(by omega),by rw [look0,if_pos (by omega)];simp<;>omega,Nat.le_refl _⟩;have rh:=hR.fix (bG+j) _ (by omega) Wt;have rh:LS.le (φ' (bG+j)) (φ ρ[j]) (io[j]'(by omega)).af:=by rw [←fC φ hj];exact rh
      rw [fp2in j hj];rw [←g2] at rh;generalize io'[j]=b at hB rh g3;cases b with
      |gone v=>exact g3.elim
      |row v sh dp xs=>
       rcases hB with ⟨q1,q2,q3⟩|⟨b,cap,q1,q2,q3,q4⟩
       . exact .inl ⟨rh.2 q1,q2,q3⟩
       refine .inr ⟨b,cap,rh.1 _ _ q1,q2,q3,?_⟩;cases dp with
       |true=>exact q4
       |false=>exact q4.mono (fun _ _=>rfl) hST (fun _ _=>rfl)
      |jc v xs i u=>exact g3.elim
      |sub v sh xs u=>exact g3.elim
      |box v xs=>
       obtain ⟨b,cs,e,sh,q1,q2,q3,q4,q5,q6⟩:=hB;exact ⟨b,cs,e,sh,rh.1 _ _ q1,q2,q3,q4,q5,fun i hi=>.rd _ _ ((cQ (q6 i hi) (bK g3 i hi)).mono (fun _ _=>rfl) hST)⟩
    rw [(hm2 l).2 hm] at hb;rw [fp2out l hm];refine (h.aF l b hb).mono lq (fun b hb=>.inl hb) hz (fun c hc=>jb c (h.cw l c hc).1 fun j hj hc'=>hm ?_) rfl fun _ _ _ _ _ _=>LS.le_refl _ _;rw [h.e7 _ _ c hc hc'];exact List.getElem_mem hj
  . by_cases hm:l∈ρ
    . obtain ⟨j,hj,rfl⟩:=q7 hm;rw [(hm2 ρ[j]).1 j hj rfl,q4 (by omega)] at hb;have hb:=Option.some.inj hb;have g3:=(hok j (by omega) (by omega)).2.2;rw [hb] at g3;have g3:au xs=[]:=g3;rw [g3] at hl;cases hl
    rw [(hm2 l).2 hm] at hb;exact hkn l' af (h.bl l v xs hb l' af hl)
  . by_cases hm:l∈ρ
    . obtain ⟨j,hj,rfl⟩:=q7 hm;rw [fp2in j hj];exact hR.gK _
    rw [fp2out l hm];exact h.gK l
  . have mixed:∀j (hj:j<ρ.length) l,l∉ρ->b∈fp' (bG+j)->b∈fp l->False:=by
     intro j hj l hm b1 b2;rcases (fpnew j hj b b1).2 with hh|hh
     . have:=(h.cw l b b2).1;omega
     exact hm (by rw [h.e7 _ _ b b2 hh];exact List.getElem_mem hj)
    by_cases m1:l∈ρ
    . obtain ⟨j,hj,rfl⟩:=q7 m1;rw [fp2in j hj] at h1;by_cases m2:l'∈ρ
      . obtain ⟨j',hj',rfl⟩:=q7 m2;rw [fp2in j' hj'] at h2;have:=hR.e7 _ _ b h1 h2;have:j=j':=by omega
        subst this;rfl
      rw [fp2out l' m2] at h2;exact (mixed j hj l' m2 h1 h2).elim
    rw [fp2out l m1] at h1;by_cases m2:l'∈ρ
    . obtain ⟨j',hj',rfl⟩:=q7 m2;rw [fp2in j' hj'] at h2;exact (mixed j' hj' l m1 h2 h1).elim
    rw [fp2out l' m2] at h2;exact h.e7 l l' b h1 h2
  . by_cases hm:l∈ρ
    . obtain ⟨j,hj,rfl⟩:=q7 hm;rw [fp2in j hj] at hb;rintro (hs|hs)
      . rcases (fpnew j hj b hb).2 with hh|hh
        . have:=(h.sB b hs).1;omega
        exact h.bJ _ b hh hs
      exact hR.bJ _ b hb hs.1
    rw [fp2out l hm] at hb;rintro (hs|hs)
    . exact h.bJ l b hb hs
    have:=(h.cw l b hb).1;omega
  . by_cases hm:l∈ρ
    . obtain ⟨j,hj,rfl⟩:=q7 hm;rw [fp2in j hj] at hb;have:=fpnew j hj b hb;refine ⟨this.1,?_⟩;rcases this.2 with hh|hh
      . exact .inl (Nat.le_trans h.size hh)
      exact (h.cw _ b hh).2
    rw [fp2out l hm] at hb;have:=h.cw l b hb;exact ⟨q12 this.1 hR.size,this.2⟩
  . rcases hb with hs|hs
    . have:=h.sB b hs;exact ⟨q12 this.1 hR.size,this.2⟩
    exact ⟨(hR.sB b hs.1).1,.inl (Nat.le_trans h.size hs.2)⟩
  refine (jb b (q12 hb h.size) fun j hj hb'=> ?_).trans (h.base b hb hio);rcases (h.cw _ b hb').2 with hh|hh
  . omega
  exact hio _ hh.choose_spec.1
 refine ⟨v,r,io',fp2,T,fs,rfl,gP,hRS,hR.ke,hl2,bd,fun j hj b hb=>(fpnew j hj b (by rw [←fp2in j hj];exact hb)).2,Ws,fun b hb=> ?_⟩;obtain ⟨q1,q2,q3⟩:=hfr b hb;refine ⟨q1,?_,fun l hl=> ?_⟩
 . rintro (hs|hs)
   . have:=(h.sB b hs).1;omega
   exact q2 hs.1
 by_cases hm:l∈ρ
 . obtain ⟨j,hj,rfl⟩:=q7 hm;rw [fp2in j hj] at hl;exact q3 _ (by omega) hl
 rw [fp2out l hm] at hl;have:=(h.cw l b hl).1;omega
theorem E5 {f:FuncId} {d:Nat} {ρ:lN} {io:List bh} {args xs:lA} {k:AV->Mem->Prop} (hnd:ρ.Nodup) (hio:io.length=ρ.length)
 (hlk:∀j (h:j<ρ.length) (h':j<io.length),aj m ρ[j]=some io[j]/\fZ io[j]) {vs:aV} (h:RS B N φ fp S ts m a w) (hvl:vs.size=args.length)
 (hx:∀i (h:i<args.length),RV w S (mD φ ρ) args[i] (vs.toList.getD i Go.undef)/\∀l af,(l,af)∈ao args[i]->known (mf 0 io) l af) {post:AV->List bh->Prop} (hf:pw P f io args post)
 (hk:∀r io',post r io'->nf (1000*(d+1)) r (ga ρ io' m) k):
 Calls P f vs w fun e w'=>∃v,e= .returned v/\iw B N a (fun x ts' m'=>ts'=ts/\k x m') v w':=by
 refine (xL hnd hio hlk h hvl hx hf (xs:=xs)).mono ?_;rintro e w' ⟨v,r,io',fp2,T,fs,rfl,gP,hRS,_,_,bd,_,Ws,hfr⟩;obtain ⟨φ3,fp3,y,m3,g1,g2,g3,g4⟩:=CE hRS bd Ws (fun b hb=>⟨Nat.le_trans h.size (hfr b hb).1,(hfr b hb).2.1,(hfr b hb).2.2⟩) _ (hk r io' gP);exact ⟨v,rfl,φ3,fp3,T,ts,m3,y,g1.rs,g3,g4,rfl,g2⟩
theorem mE {f:FuncId} {d:Nat} {xs ts:lA} {m:Mem} {k:AV->Mem->Prop} (ρ:lN) (h:pT m (fun io=>oO ρ (fun args=>CK P f d ρ io args m k ⟨⟩) [] xs) [] ρ) {q:Pack k}:eQ P f d xs ts m k q:=by refine .inl fun B N φ fp S ts a w vs hRS hsz hx hxl=> ?_;obtain ⟨hnd,io,h1,h2,h3⟩:=xI ρ [] h;rw [List.reverse_nil,List.nil_append] at h1;obtain ⟨args,g1,g2,g3⟩:=xK (w:=w) (S:=S) (φ:=φ) h2 h3 xs vs.toList [] (by simpa using hsz) hx hxl h1;rw [List.reverse_nil,List.nil_append] at g1;obtain ⟨post,hf,hk⟩:=g1;exact ⟨hf.1,E5 hnd h2 h3 hRS (hsz.trans g2.symm) g3 hf hk (xs:=xs)⟩
theorem E6 (m:Mem) (n:Nat):∃l,n<=l/\aj m l=none:=by
 have key:∀(m:Mem) (l:Nat),(∀p,p∈m->p.1≠l)->aj m l=none:=by
  intro m l h;induction m with
  |nil=>rfl
  |cons p r ih=>
   obtain ⟨k,b⟩:=p;rw [aw,if_neg (h (k,b) (List.mem_cons_self ..))];exact ih fun p hp=>h p (List.mem_cons_of_mem _ hp)
 have big:∀(m:Mem),∃n,∀p,p∈m->p.1<n:=by
  intro m;induction m with
  |nil=>exact ⟨0,fun p hp=>by cases hp⟩
  |cons p r ih=>
   obtain ⟨n,hn⟩:=ih;refine ⟨max n (p.1+1),fun q hq=> ?_⟩;rcases List.mem_cons.1 hq with rfl|hq
   . omega
   have:=hn q hq;omega
 obtain ⟨n2,h2⟩:=big m;exact ⟨max n n2,by omega,key m _ fun p hp=>by have:=h2 p hp;omega⟩
theorem RS.split (h:RS B N φ fp S ts m a w) {l v i l2:Nat} {xs ys:lA} {sh2:Sh} {u:Value} (hlk:aj m l=some (.jc v xs i u)) (hx:xs[i]? =some (.arr sh2 ys)) (hl2:bG<=l2) (oq:aj m l2=none):
 ∃φ2 fp2 b,φ l= .at b ⟨1,false⟩ v/\(∀l',l'≠l2->φ2 l'=φ l')/\(∀c,c∈fp2 l2->c∈fp l)/\RS B N φ2 fp2 S ts ((l2,.row 0 sh2 true ys)::(l,.row v ⟨1,false⟩ true (xs.set i (.val u)))::m) a w∧
  ((φ2 l2= .nil 0/\ys=[]/\∃a,u= .slice a 0 0)∨
    ∃b2 cap2 cs2 e2,φ2 l2= .at b2 sh2 0/\u= .slice (some ⟨b2,0,none⟩) ys.length cap2/\w.heap[b2]? =some (eo cs2 e2)/\cs2.size=cap2*sh2.sz/\ys.length<=cap2/\cap2<=maxLen):=by
 obtain ⟨hi,hxi⟩:=q5.1 hx;have hne:l2≠l:=fun e=>by rw [e,hlk] at oq;cases oq
 obtain ⟨b,cap,cs,e,fr,hφ,hbm,bd,aE,hi',hu⟩:=h.aF l _ hlk;rcases gE bd with ⟨h0,_⟩|⟨b',cap',cs',e',fss,q1,hfp,zj,hc,hl,hm,hf,hs,hv⟩
 . rw [h0] at hi;exact absurd hi (q13 _)
 simp only [Value.slice.injEq,Option.some.injEq,Addr.mk.injEq] at q1;obtain ⟨⟨rfl,_⟩,_,rfl⟩:=q1;rw [aE] at zj;simp only [Option.some.injEq,Obj.cells.injEq] at zj;obtain ⟨rfl,rfl,rfl⟩:=zj;have hvi:=hv i hi;rw [hxi,aW,Nat.mul_one,hu] at hvi;have hlf:i<fss.length:=by omega
 have huo:u.oneCell'=true:=hvi.aU trivial;have Nz:(fss.set i []).set i (fss.getD i [])=fss:=by
  rw [List.set_set];refine List.ext_getElem (by simp) fun j h1 h2=> ?_;rw [List.getElem_set];split
  . rename_i e;subst e;rw [q3,q4 hlf];rfl
  rfl
 have sP:fss.flatten.Perm (fss.getD i []++(fss.set i []).flatten):=by
  have:=dR (fss.getD i []) (fss.set i []) i (by simpa using hlf) (by simp [q3,hlf])
  rwa [Nz] at this
 have hpm:(fp l).Perm (fss.getD i []++(b::(fss.set i []).flatten)):=by rw [hfp];exact (sP.cons b).trans List.perm_middle.symm
 have kb:=hpm.nodup_iff.1 (h.gK l);have kb:=List.nodup_append.1 kb;have hin:∀c,c∈b::(fss.set i []).flatten->c∈fp l:=fun c hc=>hpm.mem_iff.2 (List.mem_append_right _ hc);have zh:∀c,c∈fss.getD i []->c∈fp l:=fun c hc=>hpm.mem_iff.2 (List.mem_append_left _ hc);have R1:RS B N (j1 φ l (φ l)) (j1 fp l (b::(fss.set i []).flatten)) S ts ((l,.row v ⟨1,false⟩ true (xs.set i (.val u)))::m) a w:=by
  refine h.next l (φ l) _ S _ (Nat.le_refl _) (a7.refl _) (je.refl _) (fun _ _ _=>rfl) (fun c hc=>⟨hc,rfl⟩) (fun c h1 h2=>absurd h1 h2) (fun l b sh af cs e _ hb=>⟨cs,e,hb,rfl⟩)
   (fun _ _ _ _=>rfl) (fun af _=>LS.le_refl _ _) ?_ ?_ (fun _ _ hk=>by cases hk) kb.2.1 ?_
  . rintro af ⟨k',h1,h2⟩;rw [hlk] at h1;cases h1;exact h2
  . refine .inr ⟨b,cap,by rw [az];exact hφ,List.mem_cons_self ..,fun h=>(by cases h),?_⟩;refine .arr ⟨1,false⟩ (xs.set i (.val u)) b cap cs e' (fss.set i []) aE hc (by simpa using hl) hm (fun j hj=> ?_) (by simpa using hs) fun j hj=> ?_
    . rw [List.getElem_set];split
      . exact ⟨rfl,rfl⟩
      exact hf j (by simpa using hj)
    have hj':j<xs.length:=by simpa using hj
    by_cases e:i=j
    . subst e;have e1:(fss.set i []).getD i []=[]:=by simp [q3,hlf]
      rw [List.getElem_set_self,e1,aW,Nat.mul_one,hu];exact .rd _ _ (.val _ huo)
    have e1:(fss.set i []).getD j []=fss.getD j []:=by simp [q3,e]
    rw [List.getElem_set_ne e,e1];exact hv j hj'
  intro c hc;have:=h.cw l c (hin c hc);exact ⟨h.bJ l c (hin c hc),fun l' hl' hc'=>hl' (h.e7 l' l c hc' (hin c hc)),this.1,this.2⟩
 have step2:∀X,(∀(w:World),BR w S (j1 (j1 φ l (φ l)) l2 X) l2 (fss.getD i []) (.row 0 sh2 true ys)->w=w->True)->BR w S (j1 (j1 φ l (φ l)) l2 X) l2 (fss.getD i []) (.row 0 sh2 true ys)→
  RS B N (j1 (j1 φ l (φ l)) l2 X) (j1 (j1 fp l (b::(fss.set i []).flatten)) l2 (fss.getD i [])) S ts ((l2,.row 0 sh2 true ys)::(l,.row v ⟨1,false⟩ true (xs.set i (.val u)))::m) a w:=by
  intro X _ hbr;have hno:aj ((l,bh.row v ⟨1,false⟩ true (xs.set i (.val u)))::m) l2=none:=by rw [aw,if_neg (Ne.symm hne)];exact oq
  refine R1.next l2 X _ S _ (Nat.le_refl _) (a7.refl _) (je.refl _) (fun _ _ _=>rfl) (fun c hc=>⟨hc,rfl⟩) (fun c h1 h2=>absurd h1 h2) (fun l b sh af cs e _ hb=>⟨cs,e,hb,rfl⟩)
   (fun _ _ _ _=>rfl) ?_ ?_ hbr (fun _ _ hk=>by cases hk) kb.1 ?_
  . rintro af ⟨k',h1,_⟩;rw [hno] at h1;cases h1
  . rintro af ⟨k',h1,_⟩;rw [hno] at h1;cases h1
  intro c hc;have:=h.cw l c (zh c hc);refine ⟨h.bJ l c (zh c hc),fun l' hl' hc'=> ?_,this.1,this.2.imp id fun ⟨l0,hh,_⟩=>⟨l0,hh,hl2,.inr ?_⟩⟩;by_cases e:l'=l
  . subst e;rw [az] at hc';exact kb.2.2 c hc c hc' rfl
  . rw [bp _ _ _ _ e] at hc';exact e (h.e7 l' l c hc' (zh c hc))
  cases hk0:aj B.m0 l2 with
  |none=>rfl
  |some k0=>
   obtain ⟨k1,h1,_⟩:=h.kn l2 k0.af hl2 ⟨k0,hk0,Nat.le_refl _⟩;rw [oq] at h1;cases h1
 have oo:∀c,c∈j1 (j1 fp l (b::(fss.set i []).flatten)) l2 (fss.getD i []) l2->c∈fp l:=fun c hc=>by rw [az] at hc;exact zh c hc
 have zN:∀X l',l'≠l2->j1 (j1 φ l (φ l)) l2 X l'=φ l':=by
  intro X l' hl';rw [bp _ _ _ _ hl'];by_cases e:l'=l
  . subst e;rw [az]
  rw [bp _ _ _ _ e]
 rcases gE hvi with ⟨g1,g2,g3⟩|⟨b2,cap2,cs2,e2,fss2,g1,g2,g3,g4,g5,g6,g7,g8,g9⟩
 . refine ⟨_,_,b,hφ,zN (.nil 0),oo,step2 (.nil 0) (fun _ _ _=>trivial) ?_,.inl ⟨az _ _ _,g1,g3⟩⟩;exact .inl ⟨az _ _ _,g1,g2⟩
 refine ⟨_,_,b,hφ,zN (.at b2 sh2 0),oo,step2 (.at b2 sh2 0) (fun _ _ _=>trivial) ?_,.inr ⟨b2,cap2,cs2,e2,az _ _ _,g1,g3,g4,g5,g6⟩⟩;refine .inr ⟨b2,cap2,az _ _ _,by rw [g2];simp,fun h=>(by cases h),?_⟩;rw [g1] at hvi;exact hvi
theorem RS.join (h:RS B N φ fp S ts m a w) {l v i l2:Nat} {xs ys ys':lA} {sh2:Sh} {u:Value} (hlk:aj m l=some (.jc v xs i u)) (hi:i<xs.length) (oq:aj m l2=none)
 {φ2:Nat->LS} (zN:∀l',l'≠l2->φ2 l'=φ l') {b:Nat} (hφ:φ l= .at b ⟨1,false⟩ v)
 (hX:(φ2 l2= .nil 0/\ys=[]/\∃a,u= .slice a 0 0)∨
    ∃b2 cap2 cs2 e2,φ2 l2= .at b2 sh2 0/\u= .slice (some ⟨b2,0,none⟩) ys.length cap2/\w.heap[b2]? =some (eo cs2 e2)/\cs2.size=cap2*sh2.sz/\ys.length<=cap2/\cap2<=maxLen)
 (hlen:ys'.length=ys.length) {w':World} {fp2 fpC:Nat->lN} {T:Nat->Prop}
 (hC:RS B N φ2 fpC T ts ((l2,.row 0 sh2 true ys')::(l2,.row 0 sh2 true ys)::(l,.row v ⟨1,false⟩ true (xs.set i (.val u)))::m) a w') (hz:je w w') (hold:∀c,c∈fpC l2->w.heap.size<=c\/c∈fp2 l2) (XU:∀c,c∈fp2 l2->c∈fp l):
 ∃fp4,RS B N φ fp4 T ts ((l,.row v ⟨1,false⟩ true (xs.set i (.arr sh2 ys')))::m) a w':=by
 have hne:l2≠l:=fun e=>by rw [e,hlk] at oq;cases oq
 have XV:φ l2= .dead:=(h.bU l2 oq).1;have hBl:=hC.aF l (.row v ⟨1,false⟩ true (xs.set i (.val u))) (by rw [aw,if_neg hne,aw,if_neg hne,aw,if_pos rfl]);have Y4:=hC.aF l2 (.row 0 sh2 true ys') (by rw [aw,if_pos rfl]);rcases hBl with ⟨g1,_⟩|⟨b',cap,g1,g2,_,g4⟩
 . rw [zN l (Ne.symm hne),hφ] at g1;cases g1
 rw [zN l (Ne.symm hne),hφ] at g1;simp only [LS.at.injEq] at g1;obtain ⟨rfl,_,_⟩:=g1;rcases gE g4 with ⟨h0,_⟩|⟨b',cap',cs',e',fss,q1,hfp,zj,hc,hl,hm,hf,hs,hv⟩
 . have:=congrArg List.length h0;simp at this;rw [this] at hi;exact absurd hi (q13 _)
 simp only [Value.slice.injEq,Option.some.injEq,Addr.mk.injEq] at q1;obtain ⟨⟨rfl,_⟩,_,rfl⟩:=q1;have hls:(xs.set i (.val u)).length=xs.length:=List.length_set ..;have hlf:i<fss.length:=by omega
 have hvi:=hv i (by omega);rw [List.getElem_set_self,aW,Nat.mul_one] at hvi;obtain ⟨hu,hfe,huo⟩:=Cy hvi;have hO2:Own w' (fun _=>False) (.arr sh2 ys') u (fpC l2):=by
  rcases Y4 with ⟨p1,p2,p3⟩|⟨b3,cap3,p1,p2,_,p4⟩
  . rcases hX with ⟨x1,x2,aa,x3⟩|⟨b2,cap2,cs2,e2,x1,_⟩
    . rw [p2,p3,x3];exact .rd _ _ (.nil _ _)
    rw [x1] at p1;cases p1
  rcases hX with ⟨x1,x2,aa,x3⟩|⟨b2,cap2,cs2,e2,x1,x2,x3,x4,x5,x6⟩
  . rw [x1] at p1;cases p1
  rw [x1] at p1;simp only [LS.at.injEq] at p1;obtain ⟨rfl,_,_⟩:=p1;rcases gE p4 with ⟨r0,r1,_⟩|⟨b4,cap4,cs4,e4,fss4,r1,r2,r3,r4,r5,r6,r7,r8,r9⟩
  . rw [r1] at p2;cases p2
  simp only [Value.slice.injEq,Option.some.injEq,Addr.mk.injEq] at r1;obtain ⟨⟨rfl,_⟩,_,rfl⟩:=r1;obtain ⟨cs5,e5,y1,y2⟩:=hz _ _ _ x3;rw [r3] at y1;simp only [Option.some.injEq,Obj.cells.injEq] at y1;obtain ⟨rfl, -, -⟩:=y1;rw [x2,←hlen,r2];exact .arr sh2 ys' _ cap2 cs4 e4 fss4 r3 (y2.trans x4) (by omega) x6 r7 r8 r9
 have sP:=dR (fpC l2) fss i hlf hfe;have hpm:(b::(fss.set i (fpC l2)).flatten).Perm (fpC l2++fpC l):=by rw [hfp];exact (sP.cons b).trans List.perm_middle.symm
 have Rc:∀c,c∈b::(fss.set i (fpC l2)).flatten->c∈fpC l2\/c∈fpC l:=fun c hc=>List.mem_append.1 (hpm.mem_iff.1 hc);have j0:∀l',l'≠l->l'≠l2->aj ((l2,bh.row 0 sh2 true ys')::(l2,.row 0 sh2 true ys)::(l,.row v ⟨1,false⟩ true (xs.set i (.val u)))::m) l'=aj m l':=by intro l' h1 h2;rw [aw,if_neg (Ne.symm h2),aw,if_neg (Ne.symm h2),aw,if_neg (Ne.symm h1)]
 have hn2:∀l' k',aj m l'=some k'->l'≠l2:=fun l' k' hk e=>by rw [e,oq] at hk;cases hk
 have hkn:∀l' af,known m l' af->known ((l,.row v ⟨1,false⟩ true (xs.set i (.arr sh2 ys')))::m) l' af:=by
  rintro l' af ⟨k',h1,h2⟩;by_cases e:l=l'
  . subst e;rw [hlk] at h1;cases h1;exact ⟨.row v ⟨1,false⟩ true (xs.set i (.arr sh2 ys')),by rw [aw,if_pos rfl],h2⟩
  exact ⟨k',by rw [aw,if_neg e];exact h1,h2⟩
 have UA:∀l' af,LS.le (φ l') (φ2 l') af:=by
  intro l' af;by_cases e:l'=l2
  . subst e;rw [XV];exact LS.pf _ _
  rw [zN l' e];exact LS.le_refl _ _
 have hz0:fH φ2 w' w':=fun l b sh af cs e _ hb=>⟨cs,e,hb,rfl⟩;refine ⟨fun l'=>if l'=l then b::(fss.set i (fpC l2)).flatten else if l'=l2 then [] else fpC l',?_⟩
 refine {tm:=fun t=>(hC.tm t).mono (fun _ _=>rfl) (fun _ h=>h) hz0 fun l' af _=>UA l' af,tl:=fun t l' af hl'=>hkn l' af (h.tl t l' af hl'),bU:=fun l' hl'=> ?_,aF:=fun l' k' hk'=> ?_,
         bl:=fun l' v' xs' hb' l'' af Y5=> ?_,gK:=fun l'=> ?_,e7:=fun l1 l3 c h1 h2=> ?_,bJ:=fun l' c hc'=> ?_,cw:=fun l' c hc'=> ?_,sB:=hC.sB,base:=hC.base,out:=hC.out,ke:=hC.ke,
         kn:=fun l' af hl' hk'=>hkn l' af (h.kn l' af hl' hk'),fix:=h.fix,size:=hC.size,defers:=hC.defers,kv:=hC.kv,jf:=hC.jf}
 . rw [aw] at hl';split at hl'
   . cases hl'
   rename_i e;rw [if_neg (Ne.symm e)];refine ⟨(h.bU l' hl').1,?_⟩;split
   . rfl
   rename_i e2;exact (hC.bU l' (by rw [j0 l' (Ne.symm e) e2];exact hl')).2
 . rw [aw] at hk';split at hk'
   . rename_i e;subst e;cases hk';rw [if_pos rfl];refine .inr ⟨b,cap,hφ,List.mem_cons_self ..,fun h=>(by cases h),?_⟩;refine .arr ⟨1,false⟩ (xs.set i (.arr sh2 ys')) b cap cs' e' (fss.set i (fpC l2)) zj hc (by simpa using hl) hm (fun j hj=> ?_) (by simpa using hs) fun j hj=> ?_
     . rw [List.getElem_set];split
       . exact ⟨rfl,rfl⟩
       rename_i ej;have:=hf j (by simpa using hj)
       rwa [List.getElem_set_ne ej] at this
     have hj':j<xs.length:=by simpa using hj
     by_cases ej:i=j
     . subst ej;have e1:(fss.set i (fpC l2)).getD i []=fpC l2:=by simp [q3,hlf]
       rw [List.getElem_set_self,e1,aW,Nat.mul_one,hu];exact hO2
     have e1:(fss.set i (fpC l2)).getD j []=fss.getD j []:=by simp [q3,ej]
     rw [List.getElem_set_ne ej,e1];have:=hv j (by simpa using hj)
     rwa [List.getElem_set_ne ej] at this
   rename_i e;have e2:=hn2 l' k' hk';rw [if_neg (Ne.symm e),if_neg e2];refine (hC.aF l' k' (by rw [j0 l' (Ne.symm e) e2];exact hk')).mono (fun _ _=>rfl) (fun _ h=>h) hz0 (fun _ _=>rfl) (zN l' e2).symm fun _ _ _ l'' af _=>UA l'' af
 . rw [aw] at hb';split at hb'
   . cases hb'
   exact hkn l'' af (h.bl l' v' xs' hb' l'' af Y5)
 . split
   . refine hpm.nodup_iff.2 (List.nodup_append.2 ⟨hC.gK l2,hC.gK l,fun c h1 c' h2 e=> ?_⟩);subst e;exact hne (hC.e7 l2 l c h1 h2)
   split
   . exact q10
   exact hC.gK l'
 . have cl:∀l',l'≠l->l'≠l2->c∈b::(fss.set i (fpC l2)).flatten->c∈fpC l'->False:=by
    intro l' n1 n2 hc1 hc2;rcases Rc c hc1 with hh|hh
    . exact n2 (hC.e7 l' l2 c hc2 hh)
    exact n1 (hC.e7 l' l c hc2 hh)
   split at h1
   . rename_i e1;split at h2
     . rename_i e2;rw [e1,e2]
     rename_i e2;split at h2
     . cases h2
     rename_i e3;exact (cl l3 e2 e3 h1 h2).elim
   rename_i e1;split at h1
   . cases h1
   rename_i e1';split at h2
   . exact (cl l1 e1 e1' h2 h1).elim
   split at h2
   . cases h2
   exact hC.e7 l1 l3 c h1 h2
 . split at hc'
   . rcases Rc c hc' with hh|hh
     . exact hC.bJ _ c hh
     exact hC.bJ _ c hh
   split at hc'
   . cases hc'
   exact hC.bJ _ c hc'
 split at hc'
 . rename_i e;subst e;rcases Rc c hc' with hh|hh
   . have:=hC.cw _ c hh;refine ⟨this.1,?_⟩;rcases hold c hh with h1|h1
     . exact .inl (Nat.le_trans h.size h1)
     exact (h.cw _ c (XU c h1)).2
   exact hC.cw _ c hh
 split at hc'
 . cases hc'
 exact hC.cw _ c hc'
theorem Lp {f:FuncId} {d:Nat} {u:Value} {rest ts:lA} {m:Mem} {k:AV->Mem->Prop} (l:Nat) {v i:Nat} {xs ys ys':lA} {sh2:Sh} {r:Value} {n:Nat} {q:Pack k}
 (hlk:aj m l=some (.jc v xs i u)) (hx:xs[i]? =some (.arr sh2 ys)) (hr:au rest=[])
 (hf:pw P f [.row 0 sh2 true ys] (.ref 1000000000 0 0 n::rest) (fun x io'=>x= .val r/\io'=[.row 0 sh2 true ys'])) (hn:ys.length=n) (hlen:ys'.length=ys.length)
 (hk:k (.val r) ((l,.row v ⟨1,false⟩ true (xs.set i (.arr sh2 ys')))::m)):eQ P f d (.val u::rest) ts m k q:=by
 subst hn;refine .inl fun B N φ fp S ts a w vs hRS hsz hxv hxl=>⟨hf.1,?_⟩;obtain ⟨l2,hl2,oq⟩:=E6 m bG;obtain ⟨φ2,fp2,b,hφ,zN,oo,hR2,hX⟩:=hRS.split hlk hx hl2 oq;have hu:vs.toList.getD 0 Go.undef=u/\u.oneCell'=true:=by have:=aS (hxv 0 (by simp));exact ⟨this.1.symm,by rw [this.1];exact this.2⟩
 refine (xL (ρ:=[l2]) (io:=[.row 0 sh2 true ys]) (args:=.ref 1000000000 0 0 ys.length::rest) (xs:=[]) (by simp) rfl ?_ hR2 (by simpa using hsz) ?_ hf).mono ?_
 . intro j hj _;have:j=0:=by simpa using hj
   subst this;exact ⟨by simp [aw],trivial⟩
 . intro j hj;cases j with
   |zero=>
    refine ⟨?_,?_⟩
    . show RV w S (mD φ2 [l2]) (.ref 1000000000 0 0 ys.length) (vs.toList.getD 0 Go.undef);rw [hu.1];have e:mD φ2 [l2] 1000000000=φ2 l2:=fC φ2 (ρ:=[l2]) (j:=0) (by simp);refine .ref _ _ _ _ _ (fun b' sh hb=> ?_) (fun hb=> ?_) hu.2
      . rw [e] at hb;rcases hX with ⟨x1,_⟩|⟨b2,cap2,cs2,e2,x1,x2,x3,x4,x5,x6⟩
        . rw [x1] at hb;cases hb
        rw [x1] at hb;simp only [LS.at.injEq] at hb;obtain ⟨rfl,rfl,_⟩:=hb;exact ⟨_,cap2,x2,x5,.inr ⟨by simp,cs2,e2,x3,by simpa using x4⟩⟩
      rw [e] at hb;rcases hX with ⟨x1,x2,aa,x3⟩|⟨b2,cap2,cs2,e2,x1,_⟩
      . exact ⟨by rw [x2];rfl,aa,x3⟩
      rw [x1] at hb;cases hb
    intro l' af hl';simp only [List.getElem_cons_zero,ao,q9,Prod.mk.injEq] at hl';obtain ⟨rfl,rfl⟩:=hl';exact ⟨_,rfl,Nat.le_refl _⟩
   |succ j=>
    have hj':j<rest.length:=by simpa using hj
    have hn:ao rest[j]=[]:=bK hr j hj';have:=hxv (j+1) (by simpa using hj);simp only [List.getElem_cons_succ] at this ⊢;exact ⟨.rd _ _ (cQ this hn),fun l' af hl'=>by rw [hn] at hl';cases hl'⟩
 rintro e w' ⟨v',r',io',fpC,T,fs,rfl,⟨rfl,rfl⟩,hC,hz,_,bd,hold,_⟩;obtain ⟨hv,_,ho⟩:=Cy bd;subst hv;obtain ⟨hi,_⟩:=q5.1 hx;have hC':RS B N φ2 fpC T ts ((l2,.row 0 sh2 true ys')::(l2,.row 0 sh2 true ys)::(l,.row v ⟨1,false⟩ true (xs.set i (.val u)))::m) a w':=hC;obtain ⟨fp4,hJ⟩:=hRS.join hlk hi oq zN hφ hX hlen hC' hz (fun c hc=>hold 0 (by simp) c hc) oo;exact ⟨_,rfl,φ,fp4,T,ts,_,.val _,hJ,.rd _ _ (.val _ ho),fun l' af hl'=>(by cases hl'),rfl,hk⟩
end
def nl (x y:AV):Prop:=match x,y with
 | .val (.slice none 0 0),.arr _ ys=>ys=[]
 | .e0,.arr _ ys=>ys=[]
 |x,y=>x=y
theorem Vu (sh:Sh) (ys:lA):nl (.val (.slice none 0 0)) (.arr sh ys)=(ys=[]):=rfl
theorem Vv (k:IntKind) (n:Int) (y:AV):nl (.val (.int k n)) y=(.val (.int k n)=y):=by cases y<;>rfl
theorem Vw (sh:Sh) (xs:lA) (y:AV):nl (.arr sh xs) y=(.arr sh xs=y):=by cases y<;>rfl
def Sq:lA->lA->Prop
 | [],ys=>[]=ys
 |x::xs,ys=>match ys with|y::ys=>nl x y/\Sq xs ys| []=>False
theorem Sr:Sq [] []=True:=by simp [Sq]
theorem OM (x y:AV) (xs ys:lA):Sq (x::xs) (y::ys)=(nl x y/\Sq xs ys):=rfl
def ND (x y:AV):Prop:=match x,y with
 | .agg xs,.agg ys=>Sq xs ys
 |x,y=>nl x y
theorem Ss (xs ys:lA):ND (.agg xs) (.agg ys)=Sq xs ys:=rfl
theorem Su (sh:Sh) (ys:lA):ND (.val (.slice none 0 0)) (.arr sh ys)=(ys=[]):=rfl
theorem Sv (k:IntKind) (n:Int) (y:AV):ND (.val (.int k n)) y=(.val (.int k n)=y):=by cases y<;>rfl
theorem ON (b:Bool) (y:AV):ND (.val (.bool b)) y=(.val (.bool b)=y):=by cases y<;>rfl
theorem HG (s:ByteArray) (y:AV):ND (.val (.string s)) y=(.val (.string s)=y):=by cases y<;>rfl
theorem Sw (sh:Sh) (xs:lA) (y:AV):ND (.arr sh xs) y=(.arr sh xs=y):=by cases y<;>rfl
def E7:lA->lA->Prop
 | [],ys=>[]=ys
 |x::xs,ys=>match ys with|y::ys=>ND x y/\E7 xs ys| []=>False
theorem OO:E7 [] []=True:=by simp [E7]
theorem Lq (x y:AV) (xs ys:lA):E7 (x::xs) (y::ys)=(ND x y/\E7 xs ys):=rfl
def sS (x y:AV):Prop:=match x,y with
 | .aZ xs,.aZ ys=>E7 xs ys
 |x,y=>ND x y
theorem Sx (xs ys:lA):sS (.aZ xs) (.aZ ys)=E7 xs ys:=rfl
theorem Sy (xs ys:lA):sS (.agg xs) (.agg ys)=Sq xs ys:=rfl
theorem Sz (sh:Sh) (ys:lA):sS (.val (.slice none 0 0)) (.arr sh ys)=(ys=[]):=rfl
theorem SA (k:IntKind) (n:Int) (y:AV):sS (.val (.int k n)) y=(.val (.int k n)=y):=by cases y<;>rfl
theorem OP (b:Bool) (y:AV):sS (.val (.bool b)) y=(.val (.bool b)=y):=by cases y<;>rfl
theorem HH (s:ByteArray) (y:AV):sS (.val (.string s)) y=(.val (.string s)=y):=by cases y<;>rfl
theorem SB (sh:Sh) (xs:lA) (y:AV):sS (.arr sh xs) y=(.arr sh xs=y):=by cases y<;>rfl
section
variable {w:World} {S:Nat->Prop}
theorem HI {x y:AV} {v:Value} {fs:lN} (h:Own w S x v fs) (hn:nl x y):Own w S y v fs/\(leaf x->leaf y):=by
 unfold nl at hn;split at hn
 . subst hn;cases h with
   |rd _ _ h=>cases h with|val _ _=>exact ⟨.rd _ _ (.nil _ _),fun _=>trivial⟩
 . subst hn;cases h with
   |rd _ _ h=>cases h with|e0 a=>exact ⟨.rd _ _ (.nil _ _),fun _=>trivial⟩
 subst hn;exact ⟨h,id⟩
theorem JU:∀(xs ys:lA),Sq xs ys->xs.length=ys.length/\∀i (h:i<xs.length) (h':i<ys.length),nl xs[i] ys[i]
 | [],ys,h=>by
   have h:[]=ys:=h;subst h;exact ⟨rfl,fun i h=>absurd h (q13 _)⟩
 |x::xs,[],h=>h.elim
 |x::xs,y::ys,h=>by
  obtain ⟨h1,h2⟩:=JU xs ys h.2;refine ⟨by simp [h1],fun i hi hi'=> ?_⟩;cases i with
  |zero=>exact h.1
  |succ i=>exact h2 i (by simpa using hi) (by simpa using hi')
theorem E8:∀(xs ys:lA),E7 xs ys->xs.length=ys.length/\∀i (h:i<xs.length) (h':i<ys.length),ND xs[i] ys[i]
 | [],ys,h=>by
   have h:[]=ys:=h;subst h;exact ⟨rfl,fun i h=>absurd h (q13 _)⟩
 |x::xs,[],h=>h.elim
 |x::xs,y::ys,h=>by
  obtain ⟨h1,h2⟩:=E8 xs ys h.2;refine ⟨by simp [h1],fun i hi hi'=> ?_⟩;cases i with
  |zero=>exact h.1
  |succ i=>exact h2 i (by simpa using hi) (by simpa using hi')
theorem JV {x y:AV} {v:Value} {fs:lN} (h:Own w S x v fs) (hn:ND x y):Own w S y v fs:=by
 unfold ND at hn;split at hn
 . rename_i xs ys;obtain ⟨cs,fss,rfl,rfl,h1,h2,h3,h4⟩:=CD h;obtain ⟨g1,g2⟩:=JU xs ys hn;refine .agg ys cs fss (h1.trans g1) (fun i hi=> ?_) (h3.trans g1) (fun i hi=> ?_)
   . exact (HI (h4 i (by omega)) (g2 i (by omega) hi)).2 (h2 i (by omega))
   exact (HI (h4 i (by omega)) (g2 i (by omega) hi)).1
 exact (HI h hn).1
theorem CL {x y:AV} {v:Value} {fs:lN} (h:Own w S x v fs) (hn:sS x y):Own w S y v fs:=by
 unfold sS at hn;split at hn
 . rename_i xs ys;obtain ⟨cs,fss,rfl,rfl,h1,h3,h4⟩:=JM h;obtain ⟨g1,g2⟩:=E8 xs ys hn;exact .aZ ys cs fss (h1.trans g1) (h3.trans g1) fun i hi=>JV (h4 i (by omega)) (g2 i (by omega) hi)
 exact JV h hn
end
theorem Fn.nil {P:Program} {f:FuncId} {args:lA} {post:AV->Prop} (h:Fn P f args true (fun x=>∃r,sS x r/\post r)):Fn P f args true post:=
 ⟨h.1,fun w S vs h1 hk h2 h3=>(h.2 w S vs h1 hk h2 h3).mono fun _ _ ⟨x,v,g1,⟨r,g2,g3⟩,g4,g5⟩=>by
   refine ⟨r,v,g1,g3,g4,?_⟩;obtain ⟨fs,q1,q2⟩:=g5
   exact ⟨fs,CL q1 g2,q2⟩⟩
theorem pw.nil {P:Program} {f:FuncId} {io:List bh} {args:lA} {post:AV->List bh->Prop} (h:pw P f io args (fun x io'=>∃r,sS x r/\post r io')):pw P f io args post:=
 ⟨h.1,fun w φ fp S vs h1 h2=>(h.2 w φ fp S vs h1 h2).mono fun _ _ ⟨x,v,io',φ',fp',S',m',g1,⟨r,g2,g3⟩,g4,g5,fs,q1,q2⟩=>
   ⟨r,v,io',φ',fp',S',m',g1,g3,g4,g5,fs,CL q1 g2,q2⟩⟩
theorem Fn.av {P:Program} {f:FuncId} {fn:Func} {c:Code} {args:List AV} {r:AV} (N:Nat) (rs:List ResultVar) (hf:P.funcs[f]? =some fn) (hN:fn.ntmps=N:=by exact rfl) (hr:fn.results.toList=rs:=by exact rfl) (hn:(fn.name== "runtime.NumGoroutine")=false:=by exact rfl)
 (hb:fn.body=some c:=by exact rfl) (hok:codeOk N c=true:=by exact rfl) (ha:args.length<=N:=by exact oT rfl) (hv:vc P N c (bN 0 args) [] (fin P rs (fun x=>sS x r))):Fn P f args true (· =r):=
 Fn.nil ((Fn.dM N rs hf hN hr hn hb hok ha hv).mono fun x hx=>⟨r,hx,rfl⟩)
theorem pw.av {P:Program} {f:FuncId} {fn:Func} {c:Code} {io io1:List bh} {args:lA} {r:AV} (N:Nat) (rs:List ResultVar) (hf:P.funcs[f]? =some fn) (hN:fn.ntmps=N:=by exact rfl) (hr:fn.results.toList=rs:=by exact rfl)
 (hn:(fn.name== "runtime.NumGoroutine")=false:=by exact rfl) (hb:fn.body=some c:=by exact rfl) (hok:codeOk N c=true:=by exact rfl) (ha:args.length≤N:=by exact oT rfl) (hv:vc P N c (bN 0 args) (mf 0 io) (Sn P rs (io.map bh.af) (fun x io'=>sS x r∧io'=io1))):
 pw P f io args (fun x io'=>x=r/\io'=io1):=
 pw.nil ((pw.dM N rs hf hN hr hn hb hok ha hv).mono fun x io' hx=>⟨r,hx.1,rfl,hx.2⟩)
theorem SC (v:Nat) (sh:Sh) (d:Bool) (xs:lA):(bh.row v sh d xs).af=v:=rfl
theorem SD (v:Nat) (xs:lA):(bh.box v xs).af=v:=rfl
def rl (l l' x:Nat):Nat:=if x=l then l' else if x=l' then l else x
theorem jO (l l' x:Nat):rl l l' (rl l l' x)=x:=by
 unfold rl;split
 . rename_i h;split
   . rename_i h2;omega
   rw [if_pos rfl];exact h.symm
 split
 . rename_i h1 h2;rw [if_pos rfl];exact h2.symm
 rfl
theorem OQ {l l' x y:Nat} (h:rl l l' x=rl l l' y):x=y:=by rw [←jO l l' x,h,jO]
theorem JW {l l' x:Nat} (h:l<bG) (h':l'<bG) (hx:bG<=x):rl l l' x=x:=by unfold rl;rw [if_neg (by omega),if_neg (by omega)]
theorem WT {l l' x:Nat} (h:l<bG) (h':l'<bG) (hx:x<bG):rl l l' x<bG:=by unfold rl;split<;>(try split)<;>omega
theorem WU (l l' x:Nat):rl l l' x=if x=l then l' else if x=l' then l else x:=rfl
mutual
def iR (l l':Nat):AV->AV
 | .ref k v i n=>.ref (rl l l' k) v i n
 | .ptr k v i j=>.ptr (rl l l' k) v i j
 | .agg xs=>.agg (qi l l' xs)
 | .aZ xs=>.aZ (qi l l' xs)
 | .cy f xs=>.cy f (qi l l' xs)
 |x=>x
def qi (l l':Nat):lA->lA
 | []=>[]
 |x::r=>iR l l' x::qi l l' r
end
theorem JX (l l' k v i n:Nat):iR l l' (.ref k v i n)= .ref (rl l l' k) v i n:=by simp [iR]
theorem JY (l l' k v i j:Nat):iR l l' (.ptr k v i j)= .ptr (rl l l' k) v i j:=by simp [iR]
theorem pA (l l':Nat) (xs:lA):iR l l' (.agg xs)= .agg (qi l l' xs):=by simp [iR]
theorem pB (l l':Nat) (xs:lA):iR l l' (.aZ xs)= .aZ (qi l l' xs):=by simp [iR]
theorem pC (l l':Nat) (f:FuncId) (xs:lA):iR l l' (.cy f xs)= .cy f (qi l l' xs):=by simp [iR]
theorem s6 (l l':Nat):iR l l' .undef= .undef:=by simp [iR]
theorem JZ (l l':Nat) (v:Value):iR l l' (.val v)= .val v:=by simp [iR]
theorem OR (l l':Nat):iR l l' .e0= .e0:=by simp [iR]
theorem CM (l l':Nat) (sh:Sh) (xs:lA):iR l l' (.arr sh xs)= .arr sh xs:=by simp [iR]
theorem E9 (l l':Nat) (sh:Sh) (xs:lA) (i j:Nat):iR l l' (.bu sh xs i j)= .bu sh xs i j:=by simp [iR]
theorem SE (l l':Nat):qi l l' []=[]:=by simp [qi]
theorem oP (l l':Nat) (x:AV) (r:lA):qi l l' (x::r)=iR l l' x::qi l l' r:=by simp [qi]
theorem b7 (l l':Nat):∀xs:lA,(qi l l' xs).length=xs.length
 | []=>rfl
 |x::r=>by rw [oP,List.length_cons,List.length_cons,b7 l l' r]
theorem eZ (l l':Nat):∀(xs:lA) (i:Nat) (h:i<xs.length) (h':i<(qi l l' xs).length),(qi l l' xs)[i]=iR l l' xs[i]
 |x::r,0,_,_=>rfl
 |x::r,i+1,h,h'=>by have:=eZ l l' r i (by simpa using h) (by rw [b7];simpa using h);simpa [qi] using this
theorem xM {l l':Nat} {x:AV} (h:leaf x):leaf (iR l l' x):=by cases x<;>first|exact h.elim|(simp [iR];trivial)
def J0 (l l':Nat):bh->bh
 | .box v xs=>.box v (qi l l' xs)
 |b=>b
theorem SF (l l' v:Nat) (xs:lA):J0 l l' (.box v xs)= .box v (qi l l' xs):=rfl
theorem SG (l l' v:Nat) (sh:Sh) (d:Bool) (xs:lA):J0 l l' (.row v sh d xs)= .row v sh d xs:=rfl
theorem OS (l l' v:Nat):J0 l l' (.gone v)= .gone v:=rfl
theorem nr (l l':Nat) (b:bh):(J0 l l' b).af=b.af:=by cases b<;>rfl
def HJ (l l':Nat):Env->Env
 | []=>[]
 |(t,x)::r=>(t,iR l l' x)::HJ l l' r
theorem SH (l l':Nat):HJ l l' []=[]:=rfl
theorem Fa (l l' t:Nat) (x:AV) (r:Env):HJ l l' ((t,x)::r)=(t,iR l l' x)::HJ l l' r:=rfl
def xN (l l':Nat):Mem->Mem
 | []=>[]
 |(k,b)::r=>(rl l l' k,J0 l l' b)::xN l l' r
theorem SI (l l':Nat):xN l l' []=[]:=rfl
theorem Fb (l l' k:Nat) (b:bh) (r:Mem):xN l l' ((k,b)::r)=(rl l l' k,J0 l l' b)::xN l l' r:=rfl
theorem iS (l l':Nat):∀(ts:Env) (t:Nat),look (HJ l l' ts) t=iR l l' (look ts t)
 | [],t=>(s6 l l').symm
 |(k,x)::r,t=>by rw [Fa,cV,cV,iS l l' r t];split<;>rfl
theorem cW (l l':Nat):∀(m:Mem) (k:Nat),aj (xN l l' m) k=(aj m (rl l l' k)).map (J0 l l')
 | [],k=>rfl
 |(k0,b)::r,k=>by
  rw [Fb,aw,aw,cW l l' r k];by_cases h:rl l l' k0=k
  . have:k0=rl l l' k:=by rw [←h,jO]
    rw [if_pos h,if_pos this];rfl
  have:k0≠rl l l' k:=fun e=>h (by rw [e,jO]);rw [if_neg h,if_neg this]
mutual
theorem jP (l l':Nat):∀(x:AV),ao (iR l l' x)=(ao x).map fun p=>(rl l l' p.1,p.2)
 | .ref k v i n=>by simp [iR,ao]
 | .ptr k v i j=>by simp [iR,ao]
 | .agg xs=>by rw [pA];simp only [ao];exact mF l l' xs
 | .aZ xs=>by rw [pB];simp only [ao];exact mF l l' xs
 | .cy f xs=>by rw [pC];simp only [ao];exact mF l l' xs
 | .undef=>by simp [iR,ao]
 | .val v=>by simp [iR,ao]
 | .e0=>by simp [iR,ao]
 | .arr sh xs=>by simp [iR,ao]
 | .bu sh xs i j=>by simp [iR,ao]
theorem mF (l l':Nat):∀(xs:lA),au (qi l l' xs)=(au xs).map fun p=>(rl l l' p.1,p.2)
 | []=>by simp [qi,au]
 |x::r=>by rw [oP];simp only [au];rw [jP l l' x,mF l l' r,List.map_append]
end
theorem Vx {w:World} {S:Nat->Prop} {x:AV} {v:Value} (l l':Nat) (h:Rd w S x v):iR l l' x=x:=by
 have key:∀(xs:lA),(∀i (hi:i<xs.length),iR l l' xs[i]=xs[i])->qi l l' xs=xs:=by intro xs hx;refine List.ext_getElem (b7 l l' xs) fun i h1 h2=> ?_;rw [eZ l l' xs i h2 h1];exact hx i h2
 induction h with
 |undef v=>exact s6 _ _
 |val v h=>exact JZ _ _ _
 |e0 a=>exact OR _ _
 |nil sh a=>exact CM _ _ _ _
 |arr=>exact CM _ _ _ _
 |agg xs cs hl hf hv ih=>rw [pA,key xs ih]
 |aZ xs cs hl hv ih=>rw [pB,key xs ih]
 |bu=>exact E9 _ _ _ _ _ _
 |cy f xs cs hl hv ih=>rw [pC,key xs ih]
section
variable {B:eO} {N:Nat} {φ:Nat->LS} {fp:Nat->lN} {S:Nat->Prop} {ts:Env} {m:Mem} {a:Act} {w:World}
theorem RV.DR (l l':Nat) {x:AV} {v:Value} (h:RV w S φ x v):RV w S (fun k=>φ (rl l l' k)) (iR l l' x) v:=by
 induction h with
 |rd x v h=>rw [Vx l l' h];exact .rd x v h
 |agg xs cs hl hf _ ih=>
  rw [pA];refine .agg _ cs (hl.trans (b7 l l' xs).symm) (fun i hi=> ?_) fun i hi=> ?_
  . have h':i<xs.length:=by rw [b7] at hi;exact hi
    rw [eZ l l' xs i h' hi];exact xM (hf i h')
  have h':i<xs.length:=by rw [b7] at hi;exact hi
  rw [eZ l l' xs i h' hi];exact ih i h'
 |aZ xs cs hl _ ih=>
  rw [pB];refine .aZ _ cs (hl.trans (b7 l l' xs).symm) fun i hi=> ?_;have h':i<xs.length:=by rw [b7] at hi;exact hi
  rw [eZ l l' xs i h' hi];exact ih i h'
 |cy f xs cs hl _ ih=>
  rw [pC];refine .cy f _ cs (hl.trans (b7 l l' xs).symm) fun i hi=> ?_;have h':i<xs.length:=by rw [b7] at hi;exact hi
  rw [eZ l l' xs i h' hi];exact ih i h'
 |ref k af i n v h1 h2 h3=>
  rw [JX];refine .ref _ _ _ _ _ (fun b sh hb=>h1 b sh ?_) (fun hb=>h2 ?_) h3
  . rwa [jO] at hb
  rwa [jO] at hb
 |ptr k af i j v h1 h2 h3=>
  rw [JY];refine .ptr _ _ _ _ _ (fun b sh hb=>h1 b sh ?_) (fun hb=>h2 ?_) h3
  . rwa [jO] at hb
  rwa [jO] at hb
theorem RS.DR (h:RS B N φ fp S ts m a w) {l l':Nat} (hl:l<bG) (hl':l'<bG):RS B N (fun k=>φ (rl l l' k)) (fun k=>fp (rl l l' k)) S (HJ l l' ts) (xN l l' m) a w:=by
 have kn:∀k af,known m k af->known (xN l l' m) (rl l l' k) af:=by rintro k af ⟨b,h1,h2⟩;exact ⟨J0 l l' b,by rw [cW,jO,h1];rfl,by rw [nr];exact h2⟩
 have labs_in:∀(x:AV) k af,(k,af)∈ao (iR l l' x)->∃k0,k=rl l l' k0/\(k0,af)∈ao x:=by intro x k af hk;rw [jP] at hk;obtain ⟨⟨k0,v0⟩,h1,h2⟩:=List.mem_map.1 hk;simp only [Prod.mk.injEq] at h2;obtain ⟨rfl,rfl⟩:=h2;exact ⟨k0,rfl,h1⟩
 refine {tm:=fun t=> ?_,tl:=fun t k af hk=> ?_,bU:=fun k hk=> ?_,aF:=fun k b hb=> ?_,bl:=fun k v xs hb k' af hk=> ?_,gK:=fun k=>h.gK _,e7:=fun k k' b h1 h2=>OQ (h.e7 _ _ b h1 h2),
         bJ:=fun k b hb=>h.bJ _ b hb,cw:=fun k b hb=> ?_,sB:=h.sB,base:=h.base,out:=h.out,ke:=h.ke,kn:=fun k af hk hv=> ?_,fix:=fun k af hk hv=> ?_,size:=h.size,defers:=h.defers,kv:=h.kv,jf:=h.jf}
 . rw [iS];exact (h.tm t).DR l l'
 . rw [iS] at hk;obtain ⟨k0,rfl,h1⟩:=labs_in _ k af hk;exact kn k0 af (h.tl t k0 af h1)
 . rw [cW] at hk;exact h.bU _ (by simpa using hk)
 . rw [cW] at hb;obtain ⟨b0,hb0,rfl⟩:=Option.map_eq_some_iff.1 hb;have hB:=h.aF _ b0 hb0;cases b0 with
   |gone v=>exact hB
   |row v sh d xs=>exact hB
   |jc v xs i u=>exact hB
   |sub v sh xs u=>exact hB
   |box v xs=>
    obtain ⟨b,cs,e,sh,h1,h2,h3,h4,h5,h6⟩:=hB;refine ⟨b,cs,e,sh,h1,h2,h3,Nat.le_trans (Nat.le_of_eq (b7 l l' xs)) h4,fun i hi=> ?_,fun i hi=> ?_⟩
    . have h':i<xs.length:=by rw [b7] at hi;exact hi
      rw [eZ l l' xs i h' hi];exact xM (h5 i h')
    have h':i<xs.length:=by rw [b7] at hi;exact hi
    rw [eZ l l' xs i h' hi];exact (h6 i h').DR l l'
 . rw [cW] at hb;obtain ⟨b0,hb0,e⟩:=Option.map_eq_some_iff.1 hb;cases b0 with
   |gone v=>cases e
   |row v sh d xs=>cases e
   |jc v xs i u=>cases e
   |sub v sh xs u=>cases e
   |box v0 xs0=>
    cases e;rw [mF] at hk;obtain ⟨⟨k0,v1⟩,h1,h2⟩:=List.mem_map.1 hk;simp only [Prod.mk.injEq] at h2;obtain ⟨rfl,rfl⟩:=h2;exact kn k0 v1 (h.bl _ _ _ hb0 k0 v1 h1)
 . have:=h.cw _ b hb;refine ⟨this.1,this.2.imp id fun ⟨l0,h1,h2,h3⟩=> ?_⟩;by_cases hk:bG<=k
   . rw [JW hl hl' hk] at h3;exact ⟨l0,h1,hk,h3⟩
   have:=WT hl hl' (Nat.lt_of_not_le hk);omega
 . have:=kn k af (h.kn k af hk hv)
   rwa [JW hl hl' hk] at this
 rw [JW hl hl' hk];exact h.fix k af hk hv
inductive Vy:Env->Mem->Env->Mem->Prop
 |here {ts:Env} {m:Mem} {ts2:Env} {m2:Mem} (h:rS ts m ts2 m2):Vy ts m ts2 m2
 |mv {ts:Env} {m:Mem} {ts2:Env} {m2:Mem} (l l':Nat) (hl:l<bG) (hl':l'<bG) (h:Vy (HJ l l' ts) (xN l l' m) ts2 m2):Vy ts m ts2 m2
variable {P:Program}
end
end Go.Vc
