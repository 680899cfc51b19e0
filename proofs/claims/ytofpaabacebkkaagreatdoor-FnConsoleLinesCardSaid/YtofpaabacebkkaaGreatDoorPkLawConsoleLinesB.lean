import Derived.Laws.IdiomStrings
import Derived.Deep.LoopGhost
import Derived.Test.YtofpaabacebkkaaGreatDoorPkLawConsoleLinesA
open Go renaming undef → uD
set_option linter.unusedVariables false
set_option linter.unusedSimpArgs false
set_option linter.unnecessarySimpa false
set_option maxRecDepth 1000000
set_option maxHeartbeats 16000000
open Array renaming getD_eq_getD_getElem? ->q0,getElem?_eq_getElem->q1,getElem?_toList->q2
open List renaming eq_nil_of_length_eq_zero->q3,getD_eq_getElem?_getD->q4,getElem?_eq_getElem->q5,getElem_drop->q6,getElem_map->q7,getElem_of_mem->q8,getElem_take->q9,mem_singleton->q10,nil_append->q11,nodup_nil->q12,reverse_cons->q13
open Nat renaming le_trans->q14,lt_of_lt_of_le->q15,not_lt_zero->q16
namespace Go.Vc
def iO (w w':World) (S:nP) (own:Bool) (r:AV) (v:Value):Prop:=
 if own then ∃fs,Own w' (λ_=>False) r v fs/\fs.Nodup/\∀b,b∈fs->w.heap.size<=b
 else Rd w' (λb=>S b\/(w.heap.size<=b/\b<w'.heap.size)) r v
def Enters (P:Program) (f:FuncId):Prop:=∃fn c,P.funcs[f]? =some fn∧(fn.name== "runtime.NumGoroutine")=false∧fn.body=some c
def Fn (P:Program) (f:FuncId) (args:lA) (own:Bool) (post:AV->Prop):Prop:=
 Enters P f/\∀(w:World) (S:nP) (vs:aV),(∀b,S b->b<w.heap.size)->Kh w S->vs.size=args.length->(∀i (h:i<args.length),Rd w S args[i] (vs.toList.getD i uD))→
  Calls P f vs w λe w'=>∃r v,e= .returned v/\post r/\Grown w w'/\iO w w' S own r v
theorem Fn.mono {P:Program} {f:FuncId} {args:lA} {own:Bool} {post post':AV->Prop} (h:Fn P f args own post) (hp:∀r,post r->post' r):Fn P f args own post':=
 ⟨h.1,λw S vs h1 hk h2 h3=>(h.2 w S vs h1 hk h2 h3).mono λ_ _ ⟨r,v,g1,g2,g3⟩=>⟨r,v,g1,hp r g2,g3⟩⟩
def nV (v i n:Nat) (b:Option bc) (k:AV->Prop):Prop:=match b with
 |some (.row v' sh _ xs)=>v'=v/\i+n<=xs.length/\k (.arr sh ((xs.drop i).take n))
 |_=>False
@[congr] theorem TA {v i n:Nat} {b b':Option bc} {k:AV->Prop} (h:b=b'):nV v i n b k=nV v i n b' k:=by rw [h]
theorem AD (v i n:Nat) (sh:Sh) (d:Bool) (xs:lA) (k:AV->Prop):nV v i n (some (.row v sh d xs)) k=(i+n<=xs.length/\k (.arr sh ((xs.drop i).take n))):=by simp [nV]
def fA (m:Mem) (x:AV) (k:AV->Prop):Prop:=match x with
 | .ref l v i n=>nV v i n (ah m l) k
 | .val v=>k (.val v)
 | .e0=>k .e0
 | .arr sh xs=>k (.arr sh xs)
 | .bo sh xs i j=>k (.bo sh xs i j)
 |_=>False
@[congr] theorem Rq {m:Mem} {x x':AV} {k:AV->Prop} (h:x=x'):fA m x k=fA m x' k:=by rw [h]
theorem xd (m:Mem) (l v i n:Nat) (k:AV->Prop):fA m (.ref l v i n) k=nV v i n (ah m l) k:=rfl
theorem xe (m:Mem) (v:Value) (k:AV->Prop):fA m (.val v) k=k (.val v):=rfl
theorem xf (m:Mem) (sh:Sh) (xs:lA) (k:AV->Prop):fA m (.arr sh xs) k=k (.arr sh xs):=rfl
def cV (m:Mem) (k:lA->Prop):lA->lA->Prop
 |acc,[]=>k acc.reverse
 |acc,x::r=>fA m x λy=>cV m k (y::acc) r
theorem rV (m:Mem) (k:lA->Prop) (acc:lA):cV m k acc []=k acc.reverse:=rfl
theorem qi (m:Mem) (k:lA->Prop) (acc:lA) (x:AV) (r:lA):cV m k acc (x::r)=fA m x λy=>cV m k (y::acc) r:=rfl
def iA (m:Mem) (x:AV) (k:AV->Prop):Prop:=match x with
 | .agg xs=>cV m (λys=>k (.agg ys)) [] xs
 | .ptr _ _ _ _=>k .undef
 | .cn _ _=>k .undef
 |x=>fA m x k
theorem AE (m:Mem) (f:FuncId) (xs:lA) (k:AV->Prop):iA m (.cn f xs) k=k .undef:=rfl
theorem AF (m:Mem) (l v i j:Nat) (k:AV->Prop):iA m (.ptr l v i j) k=k .undef:=rfl
@[congr] theorem TB {m:Mem} {x x':AV} {k:AV->Prop} (h:x=x'):iA m x k=iA m x' k:=by rw [h]
theorem AG (m:Mem) (xs:lA) (k:AV->Prop):iA m (.agg xs) k=cV m (λys=>k (.agg ys)) [] xs:=rfl
theorem AH (m:Mem) (l v i n:Nat) (k:AV->Prop):iA m (.ref l v i n) k=nV v i n (ah m l) k:=rfl
theorem AI (m:Mem) (v:Value) (k:AV->Prop):iA m (.val v) k=k (.val v):=rfl
theorem AJ (m:Mem) (sh:Sh) (xs:lA) (k:AV->Prop):iA m (.arr sh xs) k=k (.arr sh xs):=rfl
def dH (m:Mem) (k:lA->Prop):lA->lA->Prop
 |acc,[]=>k acc.reverse
 |acc,x::r=>iA m x λy=>dH m k (y::acc) r
theorem xg (m:Mem) (k:lA->Prop) (acc:lA):dH m k acc []=k acc.reverse:=rfl
theorem uT (m:Mem) (k:lA->Prop) (acc:lA) (x:AV) (r:lA):dH m k acc (x::r)=iA m x λy=>dH m k (y::acc) r:=rfl
def nW (l:Nat) (x:AV) (m:Mem) (k:AV->Mem->Prop):Prop:=match x with
 | .arr sh xs=>k (.ref l (aA m l) 0 xs.length) ((l,.row (aA m l) sh true xs)::m)
 |x=>k x m
@[congr] theorem TC {l:Nat} {x x':AV} {m:Mem} {k:AV->Mem->Prop} (h:x=x'):nW l x m k=nW l x' m k:=by rw [h]
theorem AK (l:Nat) (sh:Sh) (xs:lA) (m:Mem) (k:AV->Mem->Prop):nW l (.arr sh xs) m k=k (.ref l (aA m l) 0 xs.length) ((l,.row (aA m l) sh true xs)::m):=rfl
theorem AL (l:Nat) (v:Value) (m:Mem) (k:AV->Mem->Prop):nW l (.val v) m k=k (.val v) m:=rfl
def qj (k:lA->Mem->Prop):Nat->lA->Mem->lA->Prop
 |_,acc,m,[]=>k acc.reverse m
 |l,acc,m,x::r=>nW l x m λy m'=>qj k (l+1) (y::acc) m' r
theorem AM (k:lA->Mem->Prop) (l:Nat) (acc:lA) (m:Mem):qj k l acc m []=k acc.reverse m:=rfl
theorem xh (k:lA->Mem->Prop) (l:Nat) (acc:lA) (m:Mem) (x:AV) (r:lA):qj k l acc m (x::r)=nW l x m λy m'=>qj k (l+1) (y::acc) m' r:=rfl
def nX (l:Nat) (x:AV) (m:Mem) (k:AV->Mem->Prop):Prop:=match x with
 | .agg xs=>qj (λys m'=>k (.agg ys) m') l [] m xs
 | .aX _=>False
 |x=>nW l x m k
@[congr] theorem TD {l:Nat} {x x':AV} {m:Mem} {k:AV->Mem->Prop} (h:x=x'):nX l x m k=nX l x' m k:=by rw [h]
theorem AN (l:Nat) (xs:lA) (m:Mem) (k:AV->Mem->Prop):nX l (.agg xs) m k=qj (λys m'=>k (.agg ys) m') l [] m xs:=rfl
theorem AO (l:Nat) (sh:Sh) (xs:lA) (m:Mem) (k:AV->Mem->Prop):nX l (.arr sh xs) m k=k (.ref l (aA m l) 0 xs.length) ((l,.row (aA m l) sh true xs)::m):=rfl
theorem AP (l:Nat) (v:Value) (m:Mem) (k:AV->Mem->Prop):nX l (.val v) m k=k (.val v) m:=rfl
def ma (k:lA->Mem->Prop):Nat->lA->Mem->lA->Prop
 |_,acc,m,[]=>k acc.reverse m
 |l,acc,m,x::r=>nX l x m λy m'=>ma k (l+16) (y::acc) m' r
theorem xi (k:lA->Mem->Prop) (l:Nat) (acc:lA) (m:Mem):ma k l acc m []=k acc.reverse m:=rfl
theorem uU (k:lA->Mem->Prop) (l:Nat) (acc:lA) (m:Mem) (x:AV) (r:lA):ma k l acc m (x::r)=nX l x m λy m'=>ma k (l+16) (y::acc) m' r:=rfl
def my (l:Nat) (x:AV) (m:Mem) (k:AV->Mem->Prop):Prop:=match x with
 | .aX xs=>ma (λys m'=>k (.aX ys) m') l [] m xs
 |x=>nX l x m k
@[congr] theorem UL {l:Nat} {x x':AV} {m:Mem} {k:AV->Mem->Prop} (h:x=x'):my l x m k=my l x' m k:=by rw [h]
theorem Eo (l:Nat) (xs:lA) (m:Mem) (k:AV->Mem->Prop):my l (.aX xs) m k=ma (λys m'=>k (.aX ys) m') l [] m xs:=rfl
theorem Ep (l:Nat) (sh:Sh) (xs:lA) (m:Mem) (k:AV->Mem->Prop):my l (.arr sh xs) m k=k (.ref l (aA m l) 0 xs.length) ((l,.row (aA m l) sh true xs)::m):=rfl
theorem Er (l:Nat) (v:Value) (m:Mem) (k:AV->Mem->Prop):my l (.val v) m k=k (.val v) m:=rfl
def aF:AV->Bool| .cn _ _=>true|_=>false
def ax:lA->Prop| []=>True|x::r=>(ao x=[]/\aF x=false)/\ax r
def UM (own:Bool) (d:Nat) (m:Mem) (r:AV) (k:AV->Mem->Prop):Prop:=if own then my (1000*(d+1)) r m k else k r m
structure Pack {α:Type} (k:α):Type where
def h_ (P:Program) (f:FuncId) (xs:lA) (m:Mem) (k:AV->Mem->Prop):Prop:=
 ∀(B:eC) (N:Nat) (φ:Nat->LS) (fp:Nat->lN) (S:nP) (ts:Env) (a:Act) (w:World) (vs:aV),RS B N φ fp S ts m a w->vs.size=xs.length→
  (∀i (h:i<xs.length),RV w S φ xs[i] (vs.toList.getD i uD))->(∀i (h:i<xs.length) l af,(l,af)∈ao xs[i]->known m l af)→
  Enters P f/\Calls P f vs w λe w'=>∃v,e= .returned v/\iw B N a (λx ts' m'=>ts'=ts/\k x m') v w'
def eR (P:Program) (f:FuncId) (d:Nat) (xs ts:lA) (m:Mem) (k:AV->Mem->Prop) (_:Pack k):Prop:=h_ P f xs m k\/∃own post,Fn P f ts own post/\(own=false->ax xs)/\∀r,post r->UM own d m r k
def nY (P:Program) (f:FuncId) (d:Nat) (xs:lA) (m:Mem) (k:AV->Mem->Prop):Prop:=dH m (λts=>eR P f d xs ts m k ⟨⟩) [] xs
@[congr] theorem TE {P:Program} {f:FuncId} {d:Nat} {xs xs':lA} {m:Mem} {k:AV->Mem->Prop} (h:xs=xs'):nY P f d xs m k=nY P f d xs' m k:=by rw [h]
theorem Es (P:Program) (f:FuncId) (d:Nat) (x:AV) (xs:lA) (m:Mem) (k:AV->Mem->Prop):nY P f d (x::xs) m k=dH m (λts=>eR P f d (x::xs) ts m k ⟨⟩) [] (x::xs):=rfl
theorem AQ (P:Program) (f:FuncId) (d:Nat) (m:Mem) (k:AV->Mem->Prop):nY P f d [] m k=eR P f d [] [] m k ⟨⟩:=rfl
@[congr] theorem Rr {P:Program} {f:FuncId} {d:Nat} {xs ts ts':lA} {m:Mem} {k:AV->Mem->Prop} {q:Pack k} (h:ts=ts'):eR P f d xs ts m k q=eR P f d xs ts' m k q:=by rw [h]
theorem aa {P:Program} {f:FuncId} {d:Nat} {xs ts:lA} {m:Mem} {k:AV->Mem->Prop} {r:AV} (h:Fn P f ts true (· =r)) (hk:my (1000*(d+1)) r m k) {q:Pack k}:eR P f d xs ts m k q:=
 .inr ⟨true,_,h,λh=>(by cases h),λ_ e=>e▸hk⟩
theorem qJ {P:Program} {f:FuncId} {d:Nat} {xs ts:lA} {m:Mem} {k:AV->Mem->Prop} {post:AV->Prop} (h:Fn P f ts true post) (hk:∀r,post r->my (1000*(d+1)) r m k) {q:Pack k}:eR P f d xs ts m k q:=
 .inr ⟨true,_,h,λh=>(by cases h),hk⟩
theorem au {P:Program} {f:FuncId} {d:Nat} {xs ts:lA} {m:Mem} {k:AV->Mem->Prop} {r:AV} (h:Fn P f ts false (· =r)) (hl:ax xs) (hk:k r m) {q:Pack k}:eR P f d xs ts m k q:=
 .inr ⟨false,_,h,λ_=>hl,λ_ e=>e▸hk⟩
section
variable {P:Program} {B:eC} {N:Nat} {φ:Nat->LS} {fp:Nat->lN} {S:nP} {ts:Env} {m:Mem} {a:Act} {w:World}
def ov (w:World):Nat->Prop:=λb=>b<w.heap.size
theorem Own.now {S:nP} {x:AV} {v:Value} {fs:lN} (h:Own w S x v fs) (hS:∀b,S b->b<w.heap.size):Rd w (ov w) x v:=h.mi hS λb hb=>h.lt b hb
theorem th (h:RS B N φ fp S ts m a w) {x:AV} {v:Value} (hx:RV w S φ x v) {k:AV->Prop} (hk:fA m x k):∃y,k y/\Rd w (ov w) y v/\leaf y/\(ao x=[]->Rd w S y v):=by
 have hS:∀b,S b->ov w b:=λb hb=>(h.sB b hb).1;unfold fA at hk;split at hk
 . rename_i l af i n;have hr:=dq hx;unfold nV at hk;split at hk
   . rename_i v' sh deep xs hlk;obtain ⟨rfl,hin,hk⟩:=hk;refine ⟨_,hk,?_,trivial,λhl=>by simp [ao] at hl⟩;have hlen:((xs.drop i).take n).length=n:=(by simp;omega);rcases h.aG l _ hlk with ⟨h1,h2,h3⟩|⟨b,cap,hφ,hbm,hdp,a_⟩
     . obtain ⟨rfl,ad,rfl⟩:=hr.2 h1;rw [List.take_zero];exact .nil _ _
     obtain ⟨ad,cp,rfl,hnc,hcp⟩:=hr.1 b sh hφ;obtain ⟨cs,e,fss,hgf,aD,hcs,b9,hmx,hff,hfl,hvv⟩:=gG a_ hbm;by_cases hc0:cp=0
     . have:n=0:=(by omega);subst this;subst hc0;rw [List.take_zero];exact .nil _ _
     obtain ⟨rfl,cs',e',g1,g2⟩:=hcp.resolve_left hc0;obtain rfl:=dh (aD.symm.trans g1);have ca:i*sh.sz+n*sh.sz<=cs.size:=by rw [g2,←Nat.add_mul];exact Nat.mul_le_mul_right _ (by omega)
     have hb:ov w b:=(h.cu l b hbm).1
     have:=Rd.arr (w:=w) (S:=ov w) sh ((xs.drop i).take n) b (i*sh.sz) cp cs e.1 (oh e cs.size) hb aD (by rw [hlen];exact hnc) (by rw [hlen];exact ca)
      (λq hq=>by rw [hlen] at hq;simp only [q9,q6];exact hff _ (by omega))
      (λq hq=>by
        rw [hlen] at hq;simp only [q9,q6]
        have:=(hvv (i+q) (by omega)).now (λc hc=>by
         cases deep with
         |true=>exact hc.elim
         |false=>exact (h.sB c hc).1)
        rwa [Nat.add_mul] at this)
     rw [hlen] at this;exact this
   exact hk.elim
 . obtain ⟨rfl,h1⟩:=aR hx;exact ⟨_,hk,.val _ h1,trivial,λ_=>.val _ h1⟩
 . obtain ⟨ad,rfl⟩:=rK hx;exact ⟨_,hk,.e0 _,trivial,λ_=>.e0 _⟩
 . exact ⟨_,hk,(l9 hx).mono (λ_ _=>rfl) hS,trivial,λ_=>l9 hx⟩
 . exact ⟨_,hk,(pt hx).mono (λ_ _=>rfl) hS,trivial,λ_=>pt hx⟩
 exact hk.elim
def pA (R:AV->Value->Prop) (xs:lA) (vs:lV):Prop:=vs.length=xs.length/\∀i (h:i<xs.length),R xs[i] (vs.getD i uD)
theorem pA.snoc {R:AV->Value->Prop} {xs:lA} {vs:lV} (h:pA R xs vs) {x:AV} {v:Value} (hx:R x v):pA R (xs++[x]) (vs++[v]):=by
 refine ⟨by simp [h.1],λi hi=> ?_⟩;simp only [List.length_append,List.length_singleton] at hi;rw [List.getElem_append];split
 . rename_i hlt;have:=h.2 i hlt
   rwa [q4,List.getElem?_append_left (by rw [h.1];exact hlt),←q4]
 rename_i hge;have e:i=xs.length:=by omega
 subst e;simp [q4,←h.1,hx]
theorem oI (h:RS B N φ fp S ts m a w) {Q:lA->Prop}:∀(xs:lA) (vs:lV) (acc:lA) (va:lV),pA (RV w S φ) xs vs->pA (λx v=>Rd w (ov w) x v/\leaf x) acc.reverse va→
 cV m Q acc xs->∃ys,Q ys/\pA (λx v=>Rd w (ov w) x v/\leaf x) ys (va++vs)
 | [],vs,acc,va,hx,ha,hk=>by
   have:vs=[]:=q3 hx.1;subst this;exact ⟨_,hk,by simpa using ha⟩
 |x::xs,vs,acc,va,hx,ha,hk=>by
  cases vs with
  |nil=>have:=hx.1;simp at this
  |cons v vs=>
   have hx0:=hx.2 0 (by simp);obtain ⟨y,hk,h1,h2,_⟩:=th h (show RV w S φ x v from hx0) hk
   obtain ⟨ys,g1,g2⟩:=oI h xs vs (y::acc) (va++[v]) ⟨by simpa using hx.1,λi hi=>by have:=hx.2 (i+1) (by simpa using hi);exact this⟩ (by rw [q13];exact ha.snoc ⟨h1,h2⟩) hk
   exact ⟨ys,g1,by simpa using g2⟩
theorem NJ (h:RS B N φ fp S ts m a w) {x:AV} {v:Value} (hx:RV w S φ x v) {k:AV->Prop} (hk:iA m x k):∃y,k y/\Rd w (ov w) y v:=by
 unfold iA at hk;split at hk
 . rename_i xs;obtain ⟨cs,rfl,h1,h2,h3⟩:=na hx;obtain ⟨ys,g1,g2⟩:=oI h xs cs.toList [] [] ⟨by simpa using h1,h3⟩ ⟨rfl,λi hi=>absurd hi (q16 _)⟩ hk;refine ⟨_,g1,.agg ys cs (by simpa using g2.1) (λi hi=>(g2.2 i hi).2) λi hi=>(g2.2 i hi).1⟩
 . exact ⟨_,hk,.undef _⟩
 . exact ⟨_,hk,.undef _⟩
 obtain ⟨y,h1,h2,_⟩:=th h hx hk;exact ⟨y,h1,h2⟩
theorem tn (h:RS B N φ fp S ts m a w) {Q:lA->Prop}:∀(xs:lA) (vs:lV) (acc:lA) (va:lV),pA (RV w S φ) xs vs->pA (Rd w (ov w)) acc.reverse va→
 dH m Q acc xs->∃ys,Q ys/\pA (Rd w (ov w)) ys (va++vs)
 | [],vs,acc,va,hx,ha,hk=>by
   have:vs=[]:=q3 hx.1;subst this;exact ⟨_,hk,by simpa using ha⟩
 |x::xs,vs,acc,va,hx,ha,hk=>by
  cases vs with
  |nil=>have:=hx.1;simp at this
  |cons v vs=>
   have hx0:=hx.2 0 (by simp);obtain ⟨y,hk,h1⟩:=NJ h (show RV w S φ x v from hx0) hk
   obtain ⟨ys,g1,g2⟩:=tn h xs vs (y::acc) (va++[v]) ⟨by simpa using hx.1,λi hi=>by have:=hx.2 (i+1) (by simpa using hi);exact this⟩ (by rw [q13];exact ha.snoc h1) hk
   exact ⟨ys,g1,by simpa using g2⟩
theorem Et {Q:lA->Prop}:∀(xs acc:lA),(∀i (hi:i<xs.length),ao xs[i]=[])->cV m Q acc xs->Q (acc.reverse++xs)
 | [],acc,_,hk=>by simpa [cV] using hk
 |x::xs,acc,hl,hk=>by
  have h0:ao x=[]:=hl 0 (by simp);have:cV m Q (x::acc) xs:=by simp only [cV] at hk;unfold fA at hk;split at hk<;>first|exact hk|(simp [ao] at h0;done)|exact hk.elim
  have:=Et xs (x::acc) (λi hi=>by have:=hl (i+1) (by simpa using hi);exact this) this;simpa using this
theorem Jp {Q:lA->Prop}:∀(xs acc:lA),ax xs->dH m Q acc xs->Q (acc.reverse++xs)
 | [],acc,_,hk=>by simpa [dH] using hk
 |x::xs,acc,hl,hk=>by
  have h0:ao x=[]:=hl.1.1;have h0':aF x=false:=hl.1.2;have:dH m Q (x::acc) xs:=by
   simp only [dH] at hk;unfold iA at hk;split at hk
   . rename_i zs;have:=Et zs [] (bM (by simpa [ao] using h0)) hk;simpa using this
   . simp [ao] at h0
   . cases h0'
   unfold fA at hk;split at hk<;>first|exact hk|(simp [ao] at h0;done)|exact hk.elim
  have:=Jp xs (x::acc) hl.2 this;simpa using this
theorem RS.grown (h:RS B N φ fp S ts m a w) {w':World} (hg:Grown w w'):RS B N φ fp S ts m a w':=by
 have hs:∀l b,b∈fp l->w'.heap[b]? =w.heap[b]? :=λl b hb=>hg.same b (h.cu l b hb).1;have hS:∀b,S b->w'.heap[b]? =w.heap[b]? :=λb hb=>hg.same b (h.sB b hb).1;have hz:fT φ w w':=λl b sh af cs e hl hb=>⟨cs,e,(hs l b (h.at_mem hl)).trans hb,rfl⟩
 exact {h with
  tm:=λt=>(h.tm t).mono hS (λ_ h=>h) hz λl af _=>LS.le_refl _ _
  aG:=λl k hk=>(h.aG l k hk).mono hS (λ_ h=>h) hz (hs l) rfl λ_ _ _ _ _ _=>LS.le_refl _ _
  cu:=λl b hb=>⟨q15 (h.cu l b hb).1 hg.size,(h.cu l b hb).2⟩
  sB:=λb hb=>⟨q15 (h.sB b hb).1 hg.size,(h.sB b hb).2⟩
  base:=λb hb hio=>(hg.same b (q15 hb h.size)).trans (h.base b hb hio)
  out:=h.out.trans hg.out
  kq:=h.kq.trans (jH.of_same hg.same)
  jv:=h.jv.mono hS λ_ h=>h
  size:=q14 h.size hg.size}
theorem RS.hold (h:RS B N φ fp S ts m a w) (T:nP) (hT:∀b,T b->b<w.heap.size/\B.w0.heap.size<=b/\∀l,b∉fp l):RS B N φ fp (λb=>S b\/T b) ts m a w:=by
 have hz:fT φ w w:=λl b sh af cs e _ hb=>⟨cs,e,hb,rfl⟩
 exact {h with
  tm:=λt=>(h.tm t).mono (λ_ _=>rfl) (λ_ h=>.inl h) hz λl af _=>LS.le_refl _ _
  aG:=λl k hk=>(h.aG l k hk).mono (λ_ _=>rfl) (λ_ h=>.inl h) hz (λ_ _=>rfl) rfl λ_ _ _ _ _ _=>LS.le_refl _ _
  bQ:=λl b hb hs=>hs.elim (h.bQ l b hb) λht=>(hT b ht).2.2 l hb
  sB:=λb hb=>hb.elim (h.sB b) λht=>⟨(hT b ht).1,.inl (hT b ht).2.1⟩
  jv:=h.jv.mono (λ_ _=>rfl) λ_ h=>.inl h
  }
structure oJ (B:eC) (N:Nat) (φ φ':Nat->LS) (fp fp':Nat->lN) (S:nP) (ts:Env) (m m':Mem) (a:Act) (w:World) (fs:lN):Prop where
 rs:RS B N φ' fp' S ts m' a w
 UN:∀l b,b∈fp' l->b∈fp l\/b∈fs
 rv:∀z u,RV w S φ z u->(∀l af,(l,af)∈ao z->known m l af)->RV w S φ' z u
 kn:∀l af,known m l af->known m' l af
theorem oJ.refl (h:RS B N φ fp S ts m a w) (fs:lN):oJ B N φ φ fp fp S ts m m a w fs:=⟨h,λ_ _ h=>.inl h,λ_ _ h _=>h,λ_ _ h=>h⟩
theorem Eu (h:RS B N φ fp S ts m a w) {x:AV} {v:Value} {fs:lN} (hx:Own w (λ_=>False) x v fs) (hlf:leaf x) (hnd:fs.Nodup) (hfr:∀b,b∈fs->B.w0.heap.size<=b/\¬S b/\∀l,b∉fp l)
 (l:Nat) {k:AV->Mem->Prop} (hk:nW l x m k):
 ∃φ' fp' y m',oJ B N φ φ' fp fp' S ts m m' a w fs/\k y m'/\leaf y/\RV w S φ' y v/\∀l af,(l,af)∈ao y->known m' l af:=by
 have other:(∀sh xs,x≠ .arr sh xs)->k x m->∃φ' fp' y m',oJ B N φ φ' fp fp' S ts m m' a w fs/\k y m'/\leaf y/\RV w S φ' y v/\∀l af,(l,af)∈ao y->known m' l af:=by
  intro hna hk;have hrd:Rd w (λ_=>False) x v:=by
   cases hx with
   |rd _ _ h=>exact h
   |arr=>exact absurd rfl (hna _ _)
   |agg=>exact hlf.elim
   |aX=>exact hlf.elim
  exact ⟨φ,fp,x,m,oJ.refl h fs,hk,hlf,.rd _ _ (hrd.mono (λ_ _=>rfl) λ_ h=>h.elim),λl af hl=>by rw [fU hrd] at hl;cases hl⟩
 cases x with
 |arr sh xs=>
  have j8:∀(x':LS) (fs':lN),(∀b,b∈fs'->b∈fs)->(∀af,known m l af->LS.le x' (φ l) af)->fs'.Nodup→
   BR w S (nU φ l x') l fs' (.row (aA m l) sh true xs)->RV w S (nU φ l x') (.ref l (aA m l) 0 xs.length) v→
   ∃φ' fp' y m',oJ B N φ φ' fp fp' S ts m m' a w fs/\k y m'/\leaf y/\RV w S φ' y v/\∀l af,(l,af)∈ao y->known m' l af:=by
   intro x' fs' uo hle Yv hbr hrv
   have hRS:=h.next l x' fs' S (.row (aA m l) sh true xs) (Nat.le_refl _) (a7.refl _) (jH.refl _) (λ_ _ _=>rfl) (λb hb=>⟨hb,rfl⟩) (λb h1 h2=>absurd h1 h2) (λl b sh af cs e _ hb=>⟨cs,e,hb,rfl⟩) (λ_ _ _ _=>rfl)
    hle (λaf hv=>Nat.le_of_lt (fe hv)) hbr (λ_ _ hx=>by cases hx) Yv (λb hb=>⟨(hfr b (uo b hb)).2.1,λl' _=>(hfr b (uo b hb)).2.2 l',hx.lt b (uo b hb),.inl (hfr b (uo b hb)).1⟩)
   have hkn:∀l' af,known m l' af->known ((l,.row (aA m l) sh true xs)::m) l' af:=by
    intro l' af hkk;by_cases e:l=l'
    . subst e;exact ⟨.row (aA m l) sh true xs,by simp [aw],Nat.le_of_lt (fe hkk)⟩
    obtain ⟨k',h1,h2⟩:=hkk;exact ⟨k',by simp [aw,e,h1],h2⟩
   refine ⟨_,_,.ref l (aA m l) 0 xs.length,_,⟨hRS,?_,?_,hkn⟩,hk,trivial,hrv,?_⟩
   . intro l' b hb;by_cases e:l'=l
     . subst e;rw [aB] at hb;exact .inr (uo b hb)
     rw [bw _ _ _ _ e] at hb;exact .inl hb
   . intro z u hz hl;refine hz.mono (λ_ _=>rfl) (λ_ h=>h) (λl b sh af cs e _ hb=>⟨cs,e,hb,rfl⟩) λl' af hl'=> ?_;by_cases e:l'=l
     . subst e;rw [aB];exact hle af (hl _ af hl')
     rw [bw _ _ _ _ e];exact LS.le_refl _ _
   intro l' af hl;simp only [ao,q10,Prod.mk.injEq] at hl;obtain ⟨rfl,rfl⟩:=hl;exact ⟨_,by simp [aw];rfl,Nat.le_refl _⟩
  cases hx with
  |rd _ _ hrd=>
   cases hrd with
   |nil _ ad=>
    refine j8 (.nil (aA m l)) [] (by simp) (λaf hv=>⟨λ_ _ h=>(by cases h),λhh=> ?_⟩) (by simp) (.inl ⟨aB _ _ _,rfl,rfl⟩) ?_
    . injection hh with hh;exact absurd (fe hv) (by omega)
    refine .ref _ _ _ _ _ (λb' sh' hb'=> ?_) (λ_=>⟨rfl,ad,rfl⟩) rfl;rw [aB] at hb';cases hb'
   |arr _ _ b off cap cs e fr hS=>exact hS.elim
  |arr _ _ b cap cs e fss hb hc hl hm hf hs hv=>
   refine j8 (.at b sh (aA m l)) (b::fss.flatten) (λ_ h=>h) (λaf hkk=>LS.kD _ _ _ _ _ (fe hkk)) hnd (.inr ⟨b,cap,aB _ _ _,List.mem_cons_self ..,by simp,.arr sh xs b cap cs e fss hb hc hl hm hf hs hv⟩) ?_;refine .ref _ _ _ _ _ (λb' sh' hb'=> ?_) (λhb'=> ?_) rfl
   . rw [aB] at hb';cases hb';exact ⟨_,cap,rfl,hl,.inr ⟨by simp,cs,e,hb,by rw [hc,Nat.zero_add]⟩⟩
   rw [aB] at hb';cases hb'
 |_=>exact other (λ_ _ e=>by cases e) hk
theorem NK {fss:List lN} {f:lN} (h:(f::fss).flatten.Nodup):f.Nodup/\fss.flatten.Nodup/\∀b,b∈f->b∉fss.flatten:=by rw [List.flatten_cons] at h;exact ⟨(List.nodup_append.1 h).1,(List.nodup_append.1 h).2.1,λb h1 h2=>(List.nodup_append.1 h).2.2 b h1 b h2 rfl⟩
theorem xj {one:Nat->AV->Mem->(AV->Mem->Prop)->Prop} {ok:AV->Prop} {step:Nat}
 (lz:∀(φ:Nat->LS) (fp:Nat->lN) (m:Mem),RS B N φ fp S ts m a w->∀(x:AV) (v:Value) (fs:lN),Own w (λ_=>False) x v fs->ok x->fs.Nodup->(∀b,b∈fs->B.w0.heap.size<=b/\¬S b/\∀l,b∉fp l)→
   ∀(l:Nat) (k:AV->Mem->Prop),one l x m k->∃φ' fp' y m',oJ B N φ φ' fp fp' S ts m m' a w fs/\k y m'/\ok y/\RV w S φ' y v/\∀l af,(l,af)∈ao y->known m' l af)
 {Q:lA->Mem->Prop} {many:Nat->lA->Mem->lA->Prop} (jt:∀l acc m,many l acc m []->Q acc.reverse m) (GU:∀l acc m x r,many l acc m (x::r)->one l x m λy m'=>many (l+step) (y::acc) m' r):
 ∀(xs:lA) (vs:lV) (fss:List lN) (l:Nat) (acc:lA) (va:lV) (φ:Nat->LS) (fp:Nat->lN) (m:Mem),RS B N φ fp S ts m a w→
  vs.length=xs.length->fss.length=xs.length->(∀i (h:i<xs.length),Own w (λ_=>False) xs[i] (vs.getD i uD) (fss.getD i []))->(∀i (h:i<xs.length),ok xs[i])→
  fss.flatten.Nodup->(∀b,b∈fss.flatten->B.w0.heap.size<=b/\¬S b/\∀l,b∉fp l)→
  pA (λx v=>ok x/\RV w S φ x v/\∀l af,(l,af)∈ao x->known m l af) acc.reverse va->many l acc m xs→
  ∃φ' fp' m' ys,RS B N φ' fp' S ts m' a w/\(∀l b,b∈fp' l->b∈fp l\/b∈fss.flatten)/\(∀z u,RV w S φ z u->(∀l af,(l,af)∈ao z->known m l af)->RV w S φ' z u)/\(∀l af,known m l af->known m' l af)∧
   Q ys m'/\pA (λx v=>ok x/\RV w S φ' x v/\∀l af,(l,af)∈ao x->known m' l af) ys (va++vs)
 | [],vs,fss,l,acc,va,φ,fp,m,h,hv,_,_,_,_,_,ha,hk=>by
   have:vs=[]:=q3 hv;subst this;exact ⟨φ,fp,m,_,h,λ_ _ h=>.inl h,λ_ _ h _=>h,λ_ _ h=>h,jt l acc m hk,by simpa using ha⟩
 |x::xs,vs,fss,l,acc,va,φ,fp,m,h,hv,hf,ho,hok,hnd,hfr,ha,hk=>by
  cases vs with
  |nil=>simp at hv
  |cons v vs=>
   cases fss with
   |nil=>simp at hf
   |cons f fss=>
    obtain ⟨n1,n2,n3⟩:=NK hnd;have ho0:=ho 0 (by simp);obtain ⟨φ1,fp1,y,m1,hm,hk1,hy1,hy2,hy3⟩:=lz φ fp m h x v f ho0 (hok 0 (by simp)) n1 (λb hb=>hfr b (by simp [hb])) l _ (GU l acc m x xs hk);have ha1:pA (λx v=>ok x/\RV w S φ1 x v/\∀l af,(l,af)∈ao x->known m1 l af) (y::acc).reverse (va++[v]):=by rw [q13];refine pA.snoc ⟨ha.1,λi hi=> ?_⟩ ⟨hy1,hy2,hy3⟩;obtain ⟨q1,q2,q3⟩:=ha.2 i hi;exact ⟨q1,hm.rv _ _ q2 q3,λl af hl=>hm.kn l af (q3 l af hl)⟩
    obtain ⟨φ2,fp2,m2,ys,g1,g2,g3,g4,g5,g6⟩:=xj lz jt GU xs vs fss (l+step) (y::acc) (va++[v]) φ1 fp1 m1 hm.rs (by simpa using hv) (by simpa using hf)
     (λi hi=>by have:=ho (i+1) (by simpa using hi);exact this) (λi hi=>by have:=hok (i+1) (by simpa using hi);exact this) n2
     (λb hb=>by
       obtain ⟨q1,q2,q3⟩:=hfr b (by simp only [List.flatten_cons,List.mem_append];exact .inr hb);refine ⟨q1,q2,λl hl=> ?_⟩;rcases hm.UN l b hl with hh|hh
       . exact q3 l hh
       exact n3 b hh hb) ha1 hk1
    refine ⟨φ2,fp2,m2,ys,g1,λl b hb=> ?_,λz u hz hl=>g3 z u (hm.rv z u hz hl) λl af h=>hm.kn l af (hl l af h),λl af h=>g4 l af (hm.kn l af h),g5,by simpa using g6⟩;rcases g2 l b hb with hh|hh
    . rcases hm.UN l b hh with h3|h3
      . exact .inl h3
      exact .inr (by simp [h3])
    exact .inr (by simp only [List.flatten_cons,List.mem_append];exact .inr hh)
theorem CH {S:nP} {xs:lA} {v:Value} {fs:lN} (h:Own w S (.agg xs) v fs):∃(cs:aV) (fss:List lN),v= .agg cs/\fs=fss.flatten/\cs.size=xs.length/\(∀i (h:i<xs.length),leaf xs[i])/\fss.length=xs.length∧
 ∀i (h:i<xs.length),Own w S xs[i] (cs.toList.getD i uD) (fss.getD i []):=by
 cases h with
 |rd _ _ h=>
  obtain ⟨cs,rfl,h1,h2,h3⟩:=oB h;refine ⟨cs,List.replicate xs.length [],rfl,(List.flatten_eq_nil_iff.2 λl hl=>(List.mem_replicate.1 hl).2).symm,h1,h2,by simp,λi hi=> ?_⟩;rw [show (List.replicate xs.length ([]:lN)).getD i []=[] by simp [q4,hi]];exact .rd _ _ (h3 i hi)
 |agg _ cs fss h1 h2 h3 h4=>exact ⟨cs,fss,rfl,rfl,h1,h2,h3,h4⟩
theorem Jq {S:nP} {xs:lA} {v:Value} {fs:lN} (h:Own w S (.aX xs) v fs):∃(cs:aV) (fss:List lN),v= .tuple cs/\fs=fss.flatten/\cs.size=xs.length/\fss.length=xs.length∧
 ∀i (h:i<xs.length),Own w S xs[i] (cs.toList.getD i uD) (fss.getD i []):=by
 cases h with
 |rd _ _ h=>
  cases h with
  |aX _ cs h1 h3=>
  refine ⟨cs,List.replicate xs.length [],rfl,(List.flatten_eq_nil_iff.2 λl hl=>(List.mem_replicate.1 hl).2).symm,h1,by simp,λi hi=> ?_⟩;rw [show (List.replicate xs.length ([]:lN)).getD i []=[] by simp [q4,hi]];exact .rd _ _ (h3 i hi)
 |aX _ cs fss h1 h3 h4=>exact ⟨cs,fss,rfl,rfl,h1,h3,h4⟩
theorem Ev (h:RS B N φ fp S ts m a w) {x:AV} {v:Value} {fs:lN} (hx:Own w (λ_=>False) x v fs) (hnd:fs.Nodup) (hfr:∀b,b∈fs->B.w0.heap.size<=b/\¬S b/\∀l,b∉fp l)
 (l:Nat) {k:AV->Mem->Prop} (hk:nX l x m k) (hnt:∀xs,x≠ .aX xs):
 ∃φ' fp' y m',oJ B N φ φ' fp fp' S ts m m' a w fs/\k y m'/\RV w S φ' y v/\∀l af,(l,af)∈ao y->known m' l af:=by
 have fin:leaf x->nW l x m k->∃φ' fp' y m',oJ B N φ φ' fp fp' S ts m m' a w fs/\k y m'/\RV w S φ' y v/\∀l af,(l,af)∈ao y->known m' l af:=by intro hlf hk;obtain ⟨φ',fp',y,m',g1,g2,_,g3,g4⟩:=Eu h hx hlf hnd hfr l hk;exact ⟨φ',fp',y,m',g1,g2,g3,g4⟩
 cases x with
 |agg xs=>
  obtain ⟨cs,fss,rfl,rfl,h1,h2,h3,h4⟩:=CH hx
  obtain ⟨φ',fp',m',ys,g1,g2,g3,g4,g5,g6⟩:=xj (one:=nW) (ok:=leaf) (step:=1) (Q:=λys m'=>k (.agg ys) m') (many:=λl acc m xs=>qj (λys m'=>k (.agg ys) m') l acc m xs)
   (λφ fp m hRS x v fs ho hlf hn hf l k hk=>Eu hRS ho hlf hn hf l hk) (λ_ _ _ h=>h) (λ_ _ _ _ _ h=>h) xs cs.toList fss l [] [] φ fp m h (by simpa using h1) h3 h4 h2 hnd hfr ⟨rfl,λi hi=>absurd hi (q16 _)⟩ hk
  refine ⟨φ',fp',.agg ys,m',⟨g1,g2,g3,g4⟩,g5,.agg ys cs (by simpa using g6.1) (λi hi=>(g6.2 i hi).1) (λi hi=>(g6.2 i hi).2.1),?_⟩;intro l af hl;obtain ⟨i,hi,hl'⟩:=bK (by simpa [ao] using hl);exact (g6.2 i hi).2.2 l af hl'
 |aX xs=>exact absurd rfl (hnt xs)
 |undef=>
  cases hx with
  |rd _ _ hr=>exact ⟨φ,fp,.undef,m,oJ.refl h _,hk,.rd _ _ (.undef _),λ_ _ hl=>by cases hl⟩
 |_=>exact fin trivial hk
theorem CI (h:RS B N φ fp S ts m a w) {x:AV} {v:Value} {fs:lN} (hx:Own w (λ_=>False) x v fs) (hnd:fs.Nodup) (hfr:∀b,b∈fs->B.w0.heap.size<=b/\¬S b/\∀l,b∉fp l)
 (l:Nat) {k:AV->Mem->Prop} (hk:my l x m k):
 ∃φ' fp' y m',oJ B N φ φ' fp fp' S ts m m' a w fs/\k y m'/\RV w S φ' y v/\∀l af,(l,af)∈ao y->known m' l af:=by
 cases x with
 |aX xs=>
  obtain ⟨cs,fss,rfl,rfl,h1,h3,h4⟩:=Jq hx;simp only [my] at hk
  obtain ⟨φ',fp',m',ys,g1,g2,g3,g4,g5,g6⟩:=xj (one:=nX) (ok:=λ_=>True) (step:=16) (Q:=λys m'=>k (.aX ys) m') (many:=λl acc m xs=>ma (λys m'=>k (.aX ys) m') l acc m xs)
   (λφ fp m hRS x v fs ho _ hn hf l k hk=>by
     by_cases hnt:∃zs,x= .aX zs
     . obtain ⟨zs,rfl⟩:=hnt;exact hk.elim
     obtain ⟨φ',fp',y,m',q1,q2,q3,q4⟩:=Ev hRS ho hn hf l hk λzs e=>hnt ⟨zs,e⟩
     exact ⟨φ',fp',y,m',q1,q2,trivial,q3,q4⟩) (λ_ _ _ h=>h) (λ_ _ _ _ _ h=>h) xs cs.toList fss l [] [] φ fp m h (by simpa using h1) h3 h4 (λ_ _=>trivial) hnd hfr ⟨rfl,λi hi=>absurd hi (q16 _)⟩ hk
  refine ⟨φ',fp',.aX ys,m',⟨g1,g2,g3,g4⟩,g5,.aX ys cs (by simpa using g6.1) (λi hi=>(g6.2 i hi).2.1),?_⟩;intro l af hl;obtain ⟨i,hi,hl'⟩:=bK (by simpa [ao] using hl);exact (g6.2 i hi).2.2 l af hl'
 |_=>exact Ev h hx hnd hfr l hk (λ_ e=>by cases e)
def uV (l:Nat) (φ:Nat->LS) (k:Nat):LS:=if k=l then .dead else φ k
def Hd (l:Nat) (fp:Nat->lN) (k:Nat):lN:=if k=l then [] else fp k
theorem rW {l k:Nat} {φ:Nat->LS} (h:k≠l):uV l φ k=φ k:=if_neg h
theorem Jr {l k:Nat} {fp:Nat->lN} (h:k≠l):Hd l fp k=fp k:=if_neg h
theorem rX {l k b:Nat} {fp:Nat->lN} (h:b∈Hd l fp k):k≠l/\b∈fp k:=by
 unfold Hd at h;split at h
 . cases h
 exact ⟨‹_›,h⟩
theorem RS.XK (h:RS B N φ fp S ts m a w) {l v:Nat} {b0:bc} (hl:l<bC) (hm:ah m l=some b0) (hv:b0.af=v):
 RS B N (uV l φ) (Hd l fp) (λb=>S b\/b∈fp l) ts ((l,.gone v)::m) a w:=by
 have hz:fT φ w w:=λl b sh af cs e _ hb=>⟨cs,e,hb,rfl⟩;have hle:∀k af,LS.le (uV l φ k) (φ k) af:=λk af=>by
  unfold uV;split
  . exact LS.rF _ _
  exact LS.le_refl _ _
 have hkn:∀k af,known m k af->known ((l,.gone v)::m) k af:=by
  rintro k af ⟨b,h1,h2⟩;by_cases e:k=l
  . subst e;rw [hm] at h1;injection h1 with h1;subst h1
    exact ⟨.gone v,by rw [aw,if_pos rfl],by show af<=v;omega⟩
  exact ⟨b,by rw [aw,if_neg (Ne.symm e)];exact h1,h2⟩
 refine {tm:=λt=>(h.tm t).mono (λ_ _=>rfl) (λ_ h=>.inl h) hz λk af _=>hle k af,tl:=λt k af hk=>hkn k af (h.tl t k af hk),b_:=λk hk=> ?_,aG:=λk b hb=> ?_,bl:=λk v' xs hb k' af hk=> ?_,
         ia:=λk=> ?_,fJ:=λk k' b h1 h2=>h.fJ k k' b (rX h1).2 (rX h2).2,bQ:=λk b hb=> ?_,cu:=λk b hb=>h.cu k b (rX hb).2,sB:=λb hb=> ?_,base:=h.base,out:=h.out,kq:=h.kq,
         kn:=λk af hk hk2=>hkn k af (h.kn k af hk hk2),fix:=λk af hk hk2=>LS.le_trans (hle k af) (h.fix k af hk hk2),size:=h.size,defers:=h.defers,lq:=h.lq,jv:=h.jv.mono (λ_ _=>rfl) λ_ h=>.inl h}
 . rw [aw] at hk;split at hk
   . cases hk
   rename_i e;rw [rW (Ne.symm e),Jr (Ne.symm e)];exact h.b_ k hk
 . rw [aw] at hb;split at hb
   . rename_i e;subst e;injection hb with hb
     subst hb;exact ⟨by unfold uV;rw [if_pos rfl],by unfold Hd;rw [if_pos rfl]⟩
   rename_i e;rw [Jr (Ne.symm e)];exact (h.aG k b hb).mono (λ_ _=>rfl) (λ_ h=>.inl h) hz (λ_ _=>rfl) (rW (Ne.symm e)) λv' xs _ k' af _=>hle k' af
 . rw [aw] at hb;split at hb
   . cases hb
   exact hkn k' af (h.bl k v' xs hb k' af hk)
 . unfold Hd;split
   . exact q12
   exact h.ia k
 . obtain ⟨h1,h2⟩:=rX hb;rintro (hs|hs)
   . exact h.bQ k b h2 hs
   exact h1 (h.fJ k l b h2 hs)
 rcases hb with hb|hb
 . exact h.sB b hb
 refine ⟨(h.cu l b hb).1,?_⟩;rcases (h.cu l b hb).2 with hh|⟨_,_,hh,_⟩
 . exact .inl hh
 exact absurd hl (Nat.not_lt.2 hh)
theorem CJ (h:RS B N φ fp S ts m a w) {l v i n:Nat} {sh:Sh} {d:Bool} {xs:lA} {u:Value} (hl:l<bC) (hm:ah m l=some (.row v sh d xs)) (hn:i+n<=xs.length) (hu:RV w S φ (.ref l v i n) u):
 Rd w (λb=>S b\/b∈fp l) (.arr sh ((xs.drop i).take n)) u:=by
 have hr:=dq hu;have hlen:((xs.drop i).take n).length=n:=by simp;omega
 rcases h.aG l _ hm with ⟨h1,h2,h3⟩|⟨b,cap,hφ,hbm,hdp,a_⟩
 . obtain ⟨rfl,ad,rfl⟩:=hr.2 h1;rw [List.take_zero];exact .nil _ _
 obtain ⟨ad,cp,rfl,hnc,hcp⟩:=hr.1 b sh hφ;obtain ⟨cs,e,fss,hgf,aD,hcs,b9,hmx,hff,hfl,hvv⟩:=gG a_ hbm;by_cases hc0:cp=0
 . have:n=0:=(by omega);subst this;subst hc0;rw [List.take_zero];exact .nil _ _
 obtain ⟨rfl,cs',e',g1,g2⟩:=hcp.resolve_left hc0;obtain rfl:=dh (aD.symm.trans g1);have ca:i*sh.sz+n*sh.sz<=cs.size:=by rw [g2,←Nat.add_mul];exact Nat.mul_le_mul_right _ (by omega)
 have:=Rd.arr (w:=w) (S:=λb=>S b\/b∈fp l) sh ((xs.drop i).take n) b (i*sh.sz) cp cs e.1 (oh e cs.size) (.inr hbm) aD (by rw [hlen];exact hnc) (by rw [hlen];exact ca)
  (λq hq=>by rw [hlen] at hq;simp only [q9,q6];exact hff _ (by omega))
  (λq hq=>by
    rw [hlen] at hq;simp only [q9,q6]
    have:=(hvv (i+q) (by omega)).mi (S':=λb=>S b\/b∈fp l) (λc hc=>by
     cases d with
     |true=>exact hc.elim
     |false=>exact .inl hc) (λc hc=>.inr (by rw [hgf];exact List.mem_cons_of_mem _ (aJ (by omega) hc)))
    rwa [Nat.add_mul] at this)
 rw [hlen] at this;exact this
def rY (l v i n:Nat) (b:Option bc) (m:Mem) (k:AV->Mem->Prop):Prop:=match b with
 |some (.row v' sh _ ys)=>v'=v/\l<bC/\i+n<=ys.length/\k (.arr sh ((ys.drop i).take n)) ((l,.gone v)::m)
 |_=>False
@[congr] theorem TF {l v i n:Nat} {b b':Option bc} {m:Mem} {k:AV->Mem->Prop} (h:b=b'):rY l v i n b m k=rY l v i n b' m k:=by rw [h]
theorem AR (l v i n:Nat) (sh:Sh) (d:Bool) (ys:lA) (m:Mem) (k:AV->Mem->Prop):rY l v i n (some (.row v sh d ys)) m k=(l<1000000000/\i+n<=ys.length/\k (.arr sh ((ys.drop i).take n)) ((l,.gone v)::m)):=by simp [rY,bC]
def mz (x:AV) (m:Mem) (k:AV->Mem->Prop):Prop:=match x with
 | .ref l v i n=>rY l v i n (ah m l) m k
 |x=>k x m
@[congr] theorem TG {x x':AV} {m:Mem} {k:AV->Mem->Prop} (h:x=x'):mz x m k=mz x' m k:=by rw [h]
theorem AS (l v i n:Nat) (m:Mem) (k:AV->Mem->Prop):mz (.ref l v i n) m k=rY l v i n (ah m l) m k:=rfl
theorem AT (v:Value) (m:Mem) (k:AV->Mem->Prop):mz (.val v) m k=k (.val v) m:=rfl
theorem AU (sh:Sh) (xs:lA) (m:Mem) (k:AV->Mem->Prop):mz (.arr sh xs) m k=k (.arr sh xs) m:=rfl
def nf (k:lA->Mem->Prop):lA->Mem->lA->Prop
 |acc,m,[]=>k acc.reverse m
 |acc,m,x::r=>mz x m λy m'=>nf k (y::acc) m' r
theorem xk (k:lA->Mem->Prop) (acc:lA) (m:Mem):nf k acc m []=k acc.reverse m:=rfl
theorem uW (k:lA->Mem->Prop) (acc:lA) (m:Mem) (x:AV) (r:lA):nf k acc m (x::r)=mz x m λy m'=>nf k (y::acc) m' r:=rfl
def lG (x:AV) (m:Mem) (k:AV->Mem->Prop):Prop:=match x with
 | .agg xs=>nf (λys m'=>k (.agg ys) m') [] m xs
 |x=>mz x m k
@[congr] theorem TH {x x':AV} {m:Mem} {k:AV->Mem->Prop} (h:x=x'):lG x m k=lG x' m k:=by rw [h]
theorem AW (xs:lA) (m:Mem) (k:AV->Mem->Prop):lG (.agg xs) m k=nf (λys m'=>k (.agg ys) m') [] m xs:=rfl
theorem AX (l v i n:Nat) (m:Mem) (k:AV->Mem->Prop):lG (.ref l v i n) m k=rY l v i n (ah m l) m k:=rfl
theorem AY (v:Value) (m:Mem) (k:AV->Mem->Prop):lG (.val v) m k=k (.val v) m:=rfl
theorem AZ (sh:Sh) (xs:lA) (m:Mem) (k:AV->Mem->Prop):lG (.arr sh xs) m k=k (.arr sh xs) m:=rfl
def qk (k:List (Nat × AV)->Mem->Prop):List (Nat × AV)->Mem->List (Nat × AV)->Prop
 |acc,m,[]=>k acc.reverse m
 |acc,m,(i,x)::r=>lG x m λy m'=>qk k ((i,y)::acc) m' r
theorem A0 (k:List (Nat × AV)->Mem->Prop) (acc:List (Nat × AV)) (m:Mem):qk k acc m []=k acc.reverse m:=rfl
theorem xl (k:List (Nat × AV)->Mem->Prop) (acc:List (Nat × AV)) (m:Mem) (i:Nat) (x:AV) (r:List (Nat × AV)):qk k acc m ((i,x)::r)=lG x m λy m'=>qk k ((i,y)::acc) m' r:=rfl
def iP (k:lA->Mem->Prop):lA->Mem->lA->Prop
 |acc,m,[]=>k acc.reverse m
 |acc,m,x::r=>lG x m λy m'=>iP k (y::acc) m' r
theorem xm (k:lA->Mem->Prop) (acc:lA) (m:Mem):iP k acc m []=k acc.reverse m:=rfl
theorem uX (k:lA->Mem->Prop) (acc:lA) (m:Mem) (x:AV) (r:lA):iP k acc m (x::r)=lG x m λy m'=>iP k (y::acc) m' r:=rfl
def gI (ti:TI) (d n:Nat) (parts:List (Nat × AV)) (m:Mem) (k:AV->Mem->Prop):Prop:=qk (λps m'=>iz ti d n ps m' k) [] m parts
theorem nZ (ti:TI) (d n:Nat) (parts:List (Nat × AV)) (m:Mem) (k:AV->Mem->Prop):gI ti d n parts m k=qk (λps m'=>iz ti d n ps m' k) [] m parts:=rfl
structure Ew (B:eC) (N:Nat) (φ φ':Nat->LS) (S S':nP) (fp':Nat->lN) (ts:Env) (m':Mem) (a:Act) (w:World):Prop where
 rs:RS B N φ' fp' S' ts m' a w
 rv:∀z u,RV w S φ z u->RV w S' φ' z u
theorem Ex (h:RS B N φ fp S ts m a w) {x:AV} {u:Value} (hu:RV w S φ x u) {k:AV->Mem->Prop} (hk:mz x m k):∃φ' fp' S' m' y,Ew B N φ φ' S S' fp' ts m' a w/\RV w S' φ' y u/\(leaf x->leaf y)/\k y m':=by
 unfold mz at hk;split at hk
 . rename_i l v i n;unfold rY at hk;split at hk
   . rename_i v' sh d ys hlk;obtain ⟨rfl,hl,hn,hk⟩:=hk;refine ⟨_,_,_,_,_,⟨h.XK hl hlk (v:=v') rfl,λz u hz=>hz.mono (λ_ _=>rfl) (λ_ h=>.inl h) (λl b sh af cs e _ hb=>⟨cs,e,hb,rfl⟩) λk af _=> ?_⟩,.rd _ _ (CJ h hl hlk hn hu),λ_=>trivial,hk⟩;unfold uV;split
     . exact LS.rF _ _
     exact LS.le_refl _ _
   exact hk.elim
 exact ⟨φ,fp,S,m,x,⟨h,λ_ _ h=>h⟩,hu,id,hk⟩
theorem A1 {Q:lA->Mem->Prop}:∀(xs:lA) (vs:lV) (acc:lA) (va:lV) {φ:Nat->LS} {fp:Nat->lN} {S:nP} {m:Mem},RS B N φ fp S ts m a w->vs.length=xs.length->(∀i (h:i<xs.length),leaf xs[i]/\RV w S φ xs[i] (vs.getD i uD))→
 pA (λx v=>RV w S φ x v/\leaf x) acc.reverse va->nf Q acc m xs->∃φ' fp' S' m' ys,Ew B N φ φ' S S' fp' ts m' a w/\pA (λx v=>RV w S' φ' x v/\leaf x) ys (va++vs)/\Q ys m'
 | [],vs,acc,va,φ,fp,S,m,h,hl,_,ha,hk=>by
   have:vs=[]:=q3 hl;subst this;exact ⟨φ,fp,S,m,_,⟨h,λ_ _ h=>h⟩,by simpa using ha,hk⟩
 |x::xs,vs,acc,va,φ,fp,S,m,h,hl,hx,ha,hk=>by
  cases vs with
  |nil=>simp at hl
  |cons v vs=>
   obtain ⟨hx1,hx2⟩:=hx 0 (by simp);obtain ⟨φ1,fp1,S1,m1,y,g1,g2,g3,g4⟩:=Ex h (show RV w S φ x v from hx2) hk
   obtain ⟨φ2,fp2,S2,m2,ys,q1,q2,q3⟩:=A1 xs vs (y::acc) (va++[v]) g1.rs (by simpa using hl) (λi hi=>by
    have:=hx (i+1) (by simpa using hi)
    exact ⟨this.1,g1.rv _ _ this.2⟩) (by
    rw [q13]
    exact pA.snoc ⟨ha.1,λi hi=>⟨g1.rv _ _ (ha.2 i hi).1,(ha.2 i hi).2⟩⟩ ⟨g2,g3 hx1⟩) g4
   exact ⟨φ2,fp2,S2,m2,ys,⟨q1.rs,λz u hz=>q1.rv _ _ (g1.rv _ _ hz)⟩,by simpa using q2,q3⟩
theorem Ey (h:RS B N φ fp S ts m a w) {x:AV} {u:Value} (hu:RV w S φ x u) {k:AV->Mem->Prop} (hk:lG x m k):∃φ' fp' S' m' y,Ew B N φ φ' S S' fp' ts m' a w/\RV w S' φ' y u/\k y m':=by
 unfold lG at hk;split at hk
 . rename_i xs;obtain ⟨cs,rfl,h1,h2,h3⟩:=na hu;obtain ⟨φ',fp',S',m',ys,g1,g2,g3⟩:=A1 xs cs.toList [] [] h (by simpa using h1) (λi hi=>⟨h2 i hi,h3 i hi⟩) ⟨rfl,λi hi=>absurd hi (q16 _)⟩ hk;refine ⟨φ',fp',S',m',_,g1,.agg ys cs (by simpa using g2.1) (λi hi=>(g2.2 i hi).2) (λi hi=>(g2.2 i hi).1),g3⟩
 obtain ⟨φ',fp',S',m',y,g1,g2,_,g3⟩:=Ex h hu hk;exact ⟨φ',fp',S',m',y,g1,g2,g3⟩
theorem pB {Q:lA->Mem->Prop}:∀(xs:lA) (vs:lV) (acc:lA) (va:lV) {φ:Nat->LS} {fp:Nat->lN} {S:nP} {m:Mem},RS B N φ fp S ts m a w->pA (RV w S φ) xs vs→
 pA (RV w S φ) acc.reverse va->iP Q acc m xs->∃φ' fp' S' m' ys,Ew B N φ φ' S S' fp' ts m' a w/\pA (RV w S' φ') ys (va++vs)/\Q ys m'
 | [],vs,acc,va,φ,fp,S,m,h,hx,ha,hk=>by
   have:vs=[]:=q3 hx.1;subst this;exact ⟨φ,fp,S,m,_,⟨h,λ_ _ h=>h⟩,by simpa using ha,hk⟩
 |x::xs,vs,acc,va,φ,fp,S,m,h,hx,ha,hk=>by
  cases vs with
  |nil=>have:=hx.1;simp at this
  |cons v vs=>
   have hx2:=hx.2 0 (by simp);obtain ⟨φ1,fp1,S1,m1,y,g1,g2,g4⟩:=Ey h (show RV w S φ x v from hx2) hk
   obtain ⟨φ2,fp2,S2,m2,ys,q1,q2,q3⟩:=pB xs vs (y::acc) (va++[v]) g1.rs ⟨by simpa using hx.1,λi hi=>by
    have:=hx.2 (i+1) (by simpa using hi)
    exact g1.rv _ _ this⟩ (by
    rw [q13]
    exact pA.snoc ⟨ha.1,λi hi=>g1.rv _ _ (ha.2 i hi)⟩ g2) g4
   exact ⟨φ2,fp2,S2,m2,ys,⟨q1.rs,λz u hz=>q1.rv _ _ (g1.rv _ _ hz)⟩,by simpa using q2,q3⟩
theorem Js {R:AV->Value->Prop} {i:Nat} {x:AV} {v:Value} (hx:R x v):∀(ps:List (Nat × AV)) (vs:List (Nat × Value)),PR R ps vs->PR R (ps++[(i,x)]) (vs++[(i,v)])
 | [],[],_=>⟨rfl,hx,trivial⟩
 |(j,y)::r,(j',u)::s,⟨h1,h2,h3⟩=>⟨h1,h2,Js hx r s h3⟩
 | [],_::_,h=>h.elim
 |_::_,[],h=>h.elim
theorem CK {R R':AV->Value->Prop} (hR:∀x v,R x v->R' x v):∀(ps:List (Nat × AV)) (vs:List (Nat × Value)),PR R ps vs->PR R' ps vs
 | [],[],_=>trivial
 |(j,y)::r,(j',u)::s,⟨h1,h2,h3⟩=>⟨h1,hR _ _ h2,CK hR r s h3⟩
 | [],_::_,h=>h.elim
 |_::_,[],h=>h.elim
theorem Ez {Q:List (Nat × AV)->Mem->Prop}:∀(ps:List (Nat × AV)) (vs:List (Nat × Value)) (acc:List (Nat × AV)) (va:List (Nat × Value)) {φ:Nat->LS} {fp:Nat->lN} {S:nP} {m:Mem},RS B N φ fp S ts m a w->PR (RV w S φ) ps vs→
 PR (RV w S φ) acc.reverse va->qk Q acc m ps->∃φ' fp' S' m' qs,Ew B N φ φ' S S' fp' ts m' a w/\PR (RV w S' φ') qs (va++vs)/\Q qs m'
 | [],[],acc,va,φ,fp,S,m,h,_,ha,hk=>⟨φ,fp,S,m,_,⟨h,λ_ _ h=>h⟩,by simpa using ha,hk⟩
 |(i,x)::r,(j,v)::s,acc,va,φ,fp,S,m,h,⟨e,hx,hr⟩,ha,hk=>by
  subst e;obtain ⟨φ1,fp1,S1,m1,y,g1,g2,g4⟩:=Ey h hx hk
  obtain ⟨φ2,fp2,S2,m2,qs,q1,q2,q3⟩:=Ez r s ((i,y)::acc) (va++[(i,v)]) g1.rs (CK g1.rv _ _ hr) (by
   rw [q13]
   exact Js g2 _ _ (CK g1.rv _ _ ha)) g4
  exact ⟨φ2,fp2,S2,m2,qs,⟨q1.rs,λz u hz=>q1.rv _ _ (g1.rv _ _ hz)⟩,by simpa using q2,q3⟩
 | [],_::_,_,_,_,_,_,_,_,h,_,_=>h.elim
 |_::_,[],_,_,_,_,_,_,_,h,_,_=>h.elim
theorem vS {t:TypeId} {tt ti:TI} (htt:aK P t=some tt) (hks:tt.kind= .slice) (ht:aK P tt.elem=some ti) (h:RS B N φ fp S ts m a w) {parts:List (Nat × AV)} {vparts:List (Nat × Value)} (hp:PR (RV w S φ) parts vparts) (d n:Nat)
 {k:AV->Mem->Prop} (hk:gI ti d n parts m k):iJ B N a (λx ts' m'=>ts'=ts/\k x m') ((Instr.buildSlice t n vparts.toArray).run P w):=by
 obtain ⟨φ',fp',S',m',qs,g1,g2,g3⟩:=Ez parts vparts [] [] h hp trivial hk;exact vR htt hks ht g1.rs g2 d n g3
def tq (d:Nat) (x:AV) (m:Mem) (k:AV->Mem->Prop):Prop:=match x with
 | .val (.string s)=>s.data.size<=1048576/\k (.ref d (aA m d) 0 s.data.size) ((d,.row (aA m d) ⟨1,false⟩ true (s.data.toList.map λb=>.val (.int .u8 b.toNat)))::m)
 |_=>False
@[congr] theorem Rs {d:Nat} {x x':AV} {m:Mem} {k:AV->Mem->Prop} (h:x=x'):tq d x m k=tq d x' m k:=by rw [h]
theorem Ku (h:RS B N φ fp S ts m a w) {src t e:TypeId} (hs:P.underlying src=some .string) (hd:P.underlying t=some (.slice e)) (he:P.underlying e=some (.int .u8)) {s:ByteArray} (hl:s.data.size<=1048576) (d:Nat)
 {k:AV->Mem->Prop} (hk:k (.ref d (aA m d) 0 s.data.size) ((d,.row (aA m d) ⟨1,false⟩ true (s.data.toList.map λb=>.val (.int .u8 b.toNat)))::m)):
 iJ B N a (λx ts' m'=>ts'=ts/\k x m') ((convert src t (.string s)).run P w):=by
 refine ⟨_,_,run_bytes_of_string w src t e s hs hd he,?_⟩;have hsz:s.size=s.data.size:=rfl;have hge:=grownCap_ge w s.size 0 e;have hle:grownCap w s.size 0 e<=maxLen:=grownCap_le_maxLen w _ _ _ (by unfold maxLen;omega);generalize grownCap w s.size 0 e=gc at hge hle ⊢;have hC:(bytesRow s gc).size=gc:=by simp [bytesRow];omega
 have hg:∀i (hi:i<s.data.size),(bytesRow s gc).toList.getD i uD= .int .u8 (s.data.toList[i]'(by simpa using hi)).toNat:=by intro i hi;rw [q4,q2];unfold bytesRow;rw [Array.getElem?_append_left (by simpa using hi)];have hi2:i<s.data.size:=hi;simp only [Array.getElem?_map,q1 hi2,Option.map_some,Option.getD_some,Array.getElem_toList]
 have iu:(w.drew.alloc (.cells (bytesRow s gc) e ((bytesRow s gc).size,(bytesRow s gc).size+1))).heap[w.heap.size]? =some (eA (bytesRow s gc) (e,true)):=G2 w.drew _;have hold:∀b,b<w.heap.size->(w.drew.alloc (.cells (bytesRow s gc) e ((bytesRow s gc).size,(bytesRow s gc).size+1))).heap[b]? =w.heap[b]? :=λb hb=>Jf w.drew _ b hb;have hws:(w.drew.alloc (.cells (bytesRow s gc) e ((bytesRow s gc).size,(bytesRow s gc).size+1))).heap.size=w.heap.size+1:=by simp
 have hso:a7 w (w.drew.alloc (.cells (bytesRow s gc) e ((bytesRow s gc).size,(bytesRow s gc).size+1))):=⟨rfl,rfl,rfl⟩;generalize w.drew.alloc (.cells (bytesRow s gc) e ((bytesRow s gc).size,(bytesRow s gc).size+1))=w' at iu hold hws hso ⊢;generalize bytesRow s gc=C at iu hC hg;have hlen:(s.data.toList.map λb=>AV.val (.int .u8 b.toNat)).length=s.data.size:=by simp
 have a_:Own w' (if true=true then λ_=>False else S) (.arr ⟨1,false⟩ (s.data.toList.map λb=>AV.val (.int .u8 b.toNat))) (.slice (some ⟨w.heap.size,0,none⟩) (s.data.toList.map λb=>AV.val (.int .u8 b.toNat)).length gc) [w.heap.size]:=by
  have e1:[w.heap.size]=w.heap.size::(List.replicate (s.data.toList.map λb=>AV.val (.int .u8 b.toNat)).length ([]:lN)).flatten:=by congr 1;exact (List.flatten_eq_nil_iff.2 λl hl=>(List.mem_replicate.1 hl).2).symm
  rw [e1];refine .arr ⟨1,false⟩ _ w.heap.size gc C (e,true) _ iu (by rw [hC,Nat.mul_one]) (by rw [hlen];omega) hle (λi hi=> ?_) (by simp) λi hi=> ?_
  . rw [q7];exact ⟨rfl,rfl⟩
  rw [hlen] at hi;rw [ba,Nat.mul_one,hg i hi,q7];have e2:(List.replicate (s.data.toList.map λb=>AV.val (.int .u8 b.toNat)).length ([]:lN)).getD i []=[]:=by rw [q4,List.getElem?_replicate];split<;>rfl
  rw [e2];exact .rd _ _ (.val _ rfl)
 refine h.kf (b:=w.heap.size) (cap:=gc) (by omega) hso (jH.of_same hold) (λc _ hc=>hold c hc) (λl b sh af cs e hl hb=>⟨cs,e,by rw [hold b (h.cu l b (h.at_mem hl)).1];exact hb,rfl⟩) (.inr ⟨rfl,by omega⟩) (λaf hv=>fe hv)
  (λc hc=>.inl (q10.1 hc)) (q10.2 rfl) (λh=>by cases h) (List.nodup_cons.2 ⟨List.not_mem_nil,q12⟩) a_ ?_ ⟨rfl,hk⟩
 exact ⟨_,gc,by rw [hsz],by omega,.inr ⟨rfl,_,_,iu,by rw [hC,Nat.mul_one]⟩⟩
end
def xn (kd:TK) (k:Prop):Prop:=match kd with| .slice=>k|_=>False
theorem A2 (k:Prop):xn .slice k=k:=rfl
def V8 (kd:TK) (k:Prop):Prop:=match kd with| .struct=>k|_=>False
theorem xo (k:Prop):V8 .struct k=k:=rfl
def rZ (m:Mem) (x:AV) (k:AV->Prop):Prop:=match x with
 | .ptr l v i j=>ga v (ah m l) (k (.ptr l v i j))
 | .bo sh xs i j=>k (.bo sh xs i j)
 | .cn f xs=>k (.cn f xs)
 |_=>False
@[congr] theorem UO {m:Mem} {x x':AV} {k:AV->Prop} (h:x=x'):rZ m x k=rZ m x' k:=by rw [h]
theorem EA (m:Mem) (l v i j:Nat) (k:AV->Prop):rZ m (.ptr l v i j) k=ga v (ah m l) (k (.ptr l v i j)):=rfl
theorem A3 (m:Mem) (sh:Sh) (xs:lA) (i j:Nat) (k:AV->Prop):rZ m (.bo sh xs i j) k=k (.bo sh xs i j):=rfl
def ng (P:Program) (tt:TI) (x:AV) (lo hi:Option AV) (m:Mem) (k:AV->Prop):Prop:=match tt.kind with
 | .string=>(match x with| .val (.string _)=>True|_=>False)/\fO ⟨0,false⟩ x lo hi m k
 | .slice=>(match x with| .arr _ _=>True| .ref _ _ _ _=>True|_=>False)/\eo (aK P tt.elem) λti=>fO ti.sh x lo hi m k
 |_=>False
@[congr] theorem UP {P:Program} {tt:TI} {x x':AV} {lo hi lo' hi':Option AV} {m:Mem} {k:AV->Prop} (h:x=x') (h1:lo=lo') (h2:hi=hi'):ng P tt x lo hi m k=ng P tt x' lo' hi' m k:=by rw [h,h1,h2]
theorem EB (P:Program) (ag:Bool) (s b:Nat) (z:AV) (f:List (Nat × Nat × Bool)) (e:Nat) (u:ByteArray) (lo hi:Option AV) (m:Mem) (k:AV->Prop):
 ng P ⟨ag,s,b,z,f,e,.string⟩ (.val (.string u)) lo hi m k=fO ⟨0,false⟩ (.val (.string u)) lo hi m k:=by simp [ng]
theorem EC (P:Program) (ag:Bool) (s b:Nat) (z:AV) (f:List (Nat × Nat × Bool)) (e:Nat) (sh:Sh) (xs:lA) (lo hi:Option AV) (m:Mem) (k:AV->Prop):
 ng P ⟨ag,s,b,z,f,e,.slice⟩ (.arr sh xs) lo hi m k=eo (aK P e) λti=>fO ti.sh (.arr sh xs) lo hi m k:=by simp [ng]
theorem ED (P:Program) (ag:Bool) (s b:Nat) (z:AV) (f:List (Nat × Nat × Bool)) (e:Nat) (l v i n:Nat) (lo hi:Option AV) (m:Mem) (k:AV->Prop):
 ng P ⟨ag,s,b,z,f,e,.slice⟩ (.ref l v i n) lo hi m k=eo (aK P e) λti=>fO ti.sh (.ref l v i n) lo hi m k:=by simp [ng]
def ql (sh:Sh) (l v i0 n:Nat) (i:Int) (b:Option bc) (k:AV->Prop):Prop:=match b with
 |some (.row v' sh' _ _)=>v'=v/\sh'=sh/\((0<=i/\i<n)/\k (.ptr l v (i0+i.toNat) 0))
 |some (.box v' _)=>v'=v/\i0=0/\sh.sz=1/\((0<=i/\i<n)/\k (.ptr l v 0 i.toNat))
 |_=>False
@[congr] theorem TJ {sh:Sh} {l v i0 n:Nat} {i:Int} {b b':Option bc} {k:AV->Prop} (h:b=b'):ql sh l v i0 n i b k=ql sh l v i0 n i b' k:=by rw [h]
theorem A4 (sh:Sh) (l v i0 n:Nat) (i:Int) (d:Bool) (xs:lA) (k:AV->Prop):ql sh l v i0 n i (some (.row v sh d xs)) k=((0<=i/\i<n)/\k (.ptr l v (i0+i.toNat) 0)):=by simp [ql]
def oK (sh:Sh) (m:Mem) (x i:AV) (k:AV->Prop):Prop:=match x,i with
 | .arr sh' xs,.val (.int _ i)=>sh'=sh/\(0<=i/\i<xs.length)/\k (.bo sh xs i.toNat 0)
 | .ref l v i0 n,.val (.int _ i)=>ql sh l v i0 n i (ah m l) k
 |_,_=>False
@[congr] theorem UQ {sh:Sh} {m:Mem} {x x' i i':AV} {k:AV->Prop} (h:x=x') (h':i=i'):oK sh m x i k=oK sh m x' i' k:=by rw [h,h']
theorem xp (sh:Sh) (m:Mem) (xs:lA) (j:IntKind) (i:Int) (k:AV->Prop):oK sh m (.arr sh xs) (.val (.int j i)) k=((0<=i/\i<xs.length)/\k (.bo sh xs i.toNat 0)):=by simp [oK]
theorem EE (sh:Sh) (m:Mem) (l v i0 n:Nat) (j:IntKind) (i:Int) (k:AV->Prop):oK sh m (.ref l v i0 n) (.val (.int j i)) k=ql sh l v i0 n i (ah m l) k:=rfl
def NM (sh:Sh) (u:Value) (i:AV) (m0:Mem) (k:AV->Prop):Mem->Prop
 | []=>False
 |(l,.sub v sh' xs u')::_=>(ah m0 l=some (.sub v sh' xs u')/\u'=u/\sh'=sh)/\(match i with| .val (.int _ n)=>(0<=n/\n<xs.length)/\k (.ptr l v n.toNat 0)|_=>False)
 |_::r=>NM sh u i m0 k r
section
variable (sh:Sh) (u:Value) (j:IntKind) (n:Int) (m0:Mem) (k:AV->Prop) (l:Nat) (r:Mem)
end
def uY (sh:Sh) (m:Mem) (x i:AV) (k:AV->Prop):Prop:=match x with
 | .val u=>NM sh u i m k m
 |x=>oK sh m x i k
@[congr] theorem TL {sh:Sh} {m:Mem} {x x' i i':AV} {k:AV->Prop} (h:x=x') (h':i=i'):uY sh m x i k=uY sh m x' i' k:=by rw [h,h']
theorem A5 (sh:Sh) (m:Mem) (xs:lA) (j:IntKind) (i:Int) (k:AV->Prop):uY sh m (.arr sh xs) (.val (.int j i)) k=((0<=i/\i<xs.length)/\k (.bo sh xs i.toNat 0)):=xp sh m xs j i k
theorem A6 (sh:Sh) (m:Mem) (l v i0 n:Nat) (j:IntKind) (i:Int) (k:AV->Prop):uY sh m (.ref l v i0 n) (.val (.int j i)) k=ql sh l v i0 n i (ah m l) k:=rfl
theorem NN {sh:Sh} {m:Mem} {x i:AV} {k:AV->Prop} (h:oK sh m x i k):uY sh m x i k:=by
 cases x with
 |val u=>cases i<;>exact h.elim
 |_=>exact h
def YV (P:Program) (tys:List TypeId) (d:Nat) (x y:AV) (m:Mem) (k:AV->Mem->Prop):Prop:=match tys with
 | [t,t']=>eo (aK P t) λtt=>xn tt.kind (eo (aK P t') λtt'=>xn tt'.kind (eo (aK P tt.elem) λti=>vQ ti d x y m k))
 |_=>False
def kJ (P:Program) (tys:List TypeId) (d:Nat) (x y:AV) (m:Mem) (k:AV->Mem->Prop):Prop:=match tys with
 | [t,t']=>eo (aK P t) λtt=>xn tt.kind (eo (aK P t') λtt'=>xn tt'.kind (eo (aK P tt.elem) λti=>lF ti d x y m k))
 |_=>False
theorem A7 (P:Program) (t t':TypeId) (d:Nat) (x y:AV) (m:Mem) (k:AV->Mem->Prop):
 kJ P [t,t'] d x y m k=eo (aK P t) λtt=>xn tt.kind (eo (aK P t') λtt'=>xn tt'.kind (eo (aK P tt.elem) λti=>lF ti d x y m k)):=rfl
theorem Jt (ti:TI) (d:Nat) (x y:AV) (m:Mem) (k:AV->Mem->Prop):
 vQ ti d x y m k=(ti.bytes<=65536/\0<ti.size/\fits ti.sh ti.zero/\qH ti.sh y m λys=>bk ys=true/\oD ti d x ys m k):=rfl
def Wi:Option Operand->Bool
 |some (.const (.int _ n))=>n==0
 |_=>false
def nh (ag:Bool) (n j:Nat) (x:AV) (k:AV->Prop):Prop:=match x with| .agg ys=>de ag n j (.agg ys) k|_=>False
@[congr] theorem Rt {ag:Bool} {n j:Nat} {x x':AV} {k:AV->Prop} (h:x=x'):nh ag n j x k=nh ag n j x' k:=by rw [h]
theorem xq (ag:Bool) (n j:Nat) (ys:lA) (k:AV->Prop):nh ag n j (.agg ys) k=de ag n j (.agg ys) k:=rfl
def qm (a:AV) (m:Mem) (k:Bool->Prop):Prop:=match a with
 | .arr _ xs=>∀c,(c=true->xs=[])->k c
 | .ref l v _ n=>ga v (ah m l) (∀c,(c=true->n=0)->k c)
 | .e0=>∀c,k c
 | .val (.slice none 0 0)=>k true
 |_=>False
@[congr] theorem TM {a a':AV} {m:Mem} {k:Bool->Prop} (h:a=a'):qm a m k=qm a' m k:=by rw [h]
theorem A8 (sh:Sh) (xs:lA) (m:Mem) (k:Bool->Prop):qm (.arr sh xs) m k=∀c,(c=true->xs=[])->k c:=rfl
theorem A9 (m:Mem) (k:Bool->Prop):qm (.val (.slice none 0 0)) m k=k true:=rfl
def UR:Operand->Bool| .const _=>true|_=>false
theorem Kv (v:Value):UR (.const v)=true:=rfl
theorem Ru (t:Nat):UR (.tmp t)=false:=rfl
def He (op:BinOp) (a:AV) (c:Bool) (k:AV->Prop):Prop:=match op,a with
 | .eql,.val .nilIface=>c=true/\k (.val (.bool true))
 | .neq,.val .nilIface=>c=true/\k (.val (.bool false))
 | .eql,.val (.iface _ _)=>k (.val (.bool false))
 | .neq,.val (.iface _ _)=>k (.val (.bool true))
 |_,_=>False
@[congr] theorem US {op:BinOp} {a a':AV} {c:Bool} {k:AV->Prop} (h:a=a'):He op a c k=He op a' c k:=by rw [h]
theorem Ju (c:Bool) (k:AV->Prop):He .eql (.val .nilIface) c k=(c=true/\k (.val (.bool true))):=rfl
theorem Jv (t:TypeId) (v:Value) (c:Bool) (k:AV->Prop):He .eql (.val (.iface t v)) c k=k (.val (.bool false)):=rfl
def lH (op:BinOp) (kd:TK) (a b:AV) (c:Bool) (m:Mem) (k:AV->Prop):Prop:=match kd,op,b with
 | .slice,.eql,.val (.slice none 0 0)=>qm a m λc=>k (.val (.bool c))
 | .slice,.neq,.val (.slice none 0 0)=>qm a m λc=>k (.val (.bool (!c)))
 | .iface,op,.val .nilIface=>He op a c k
 |kd,op,b=>kF op kd a b k
@[congr] theorem TN {op:BinOp} {kd:TK} {a b a' b':AV} {c:Bool} {m:Mem} {k:AV->Prop} (h:a=a') (h':b=b'):lH op kd a b c m k=lH op kd a' b' c m k:=by rw [h,h']
theorem A_ (a:AV) (c:Bool) (m:Mem) (k:AV->Prop):lH .eql .slice a (.val (.slice none 0 0)) c m k=qm a m λc=>k (.val (.bool c)):=rfl
theorem A' (a:AV) (c:Bool) (m:Mem) (k:AV->Prop):lH .neq .slice a (.val (.slice none 0 0)) c m k=qm a m λc=>k (.val (.bool (!c))):=rfl
theorem uZ (op:BinOp) (a:AV) (c:Bool) (m:Mem) (k:AV->Prop):lH op .iface a (.val .nilIface) c m k=He op a c k:=by cases op<;>rfl
theorem Ba (op:BinOp) (i:IntKind) (a b:AV) (c:Bool) (m:Mem) (k:AV->Prop):lH op (.int i) a b c m k=kF op (.int i) a b k:=rfl
theorem xr (op:BinOp) (a b:AV) (c:Bool) (m:Mem) (k:AV->Prop):lH op .bool a b c m k=kF op .bool a b k:=rfl
theorem r6 (op:BinOp) (a b:AV) (c:Bool) (m:Mem) (k:AV->Prop):lH op .string a b c m k=kF op .string a b k:=rfl
theorem NO {op:BinOp} {kd:TK} {a b:AV} {c:Bool} {m:Mem} {k:AV->Prop} (h:kF op kd a b k):lH op kd a b c m k:=by
 unfold lH;split
 . unfold kF at h;split at h<;>first|exact h.elim|(rename_i e;cases e)
 . unfold kF at h;split at h<;>first|exact h.elim|(rename_i e;cases e)
 . unfold kF at h;split at h<;>first|exact h.elim|(rename_i e;cases e)
 exact h
def ni (P:Program) (c:AV) (d:Nat) (xs:lA) (m:Mem) (k:AV->Mem->Prop):Prop:=match c with
 | .cn f ys=>nY P f d (xs++ys) m k
 |_=>False
@[congr] theorem Rv {P:Program} {c c':AV} {d:Nat} {xs xs':lA} {m:Mem} {k:AV->Mem->Prop} (h:c=c') (h':xs=xs'):ni P c d xs m k=ni P c' d xs' m k:=by rw [h,h']
theorem xu (P:Program) (f:FuncId) (ys:lA) (d:Nat) (xs:lA) (m:Mem) (k:AV->Mem->Prop):ni P (.cn f ys) d xs m k=nY P f d (xs++ys) m k:=rfl
def jB (k:AV->Prop):lU->lA->Prop
 |acc,[]=>k (.val (.string ⟨acc.reverse.toArray⟩))
 |acc,.val (.int .u8 z)::r=>(0<=z/\z<256)/\jB k (UInt8.ofNat z.toNat::acc) r
 |_,_=>False
theorem oL (k:AV->Prop) (acc:lU):jB k acc []=k (.val (.string ⟨acc.reverse.toArray⟩)):=rfl
theorem nj (k:AV->Prop) (acc:lU) (z:Int) (r:lA):jB k acc (.val (.int .u8 z)::r)=((0<=z/\z<256)/\jB k (UInt8.ofNat z.toNat::acc) r):=rfl
theorem NP (b:UInt8):(0<=((b.toNat:Nat):Int)/\((b.toNat:Nat):Int)<256)/\UInt8.ofNat ((b.toNat:Nat):Int).toNat=b:=by have:=b.toNat_lt;refine ⟨⟨by omega,by omega⟩,?_⟩;simp
theorem oM (k:AV->Prop):∀(bs acc:lU),jB k acc (bs.map λb=>.val (.int .u8 b.toNat))=k (.val (.string ⟨(acc.reverse++bs).toArray⟩))
 | [],acc=>by simp [jB]
 |b::r,acc=>by rw [List.map_cons,nj,(NP b).2,oM k r (b::acc)];simp [(NP b).1]
theorem u7 {k:AV->Prop}:∀{xs:lA} {acc:lU},jB k acc xs->∃bs:lU,xs=bs.map (λb=>.val (.int .u8 b.toNat))/\k (.val (.string ⟨(acc.reverse++bs).toArray⟩))
 | [],acc,h=>⟨[],rfl,by rw [oL] at h;simpa using h⟩
 | .val (.int .u8 z)::r,acc,h=>by
   obtain ⟨⟨h0,h1⟩,h⟩:=h;obtain ⟨bs,rfl,hk⟩:=u7 h;refine ⟨UInt8.ofNat z.toNat::bs,?_,by simpa using hk⟩;have:((UInt8.ofNat z.toNat).toNat:Int)=z:=by rw [UInt8.toNat_ofNat_of_lt' (by show z.toNat<256;omega)];omega
   rw [List.map_cons,this]
def oO (y:AV) (k:AV->Prop):Prop:=match y with| .arr _ xs=>jB k [] xs|_=>False
@[congr] theorem Rw {y y':AV} {k:AV->Prop} (h:y=y'):oO y k=oO y' k:=by rw [h]
theorem xw (sh:Sh) (xs:lA) (k:AV->Prop):oO (.arr sh xs) k=jB k [] xs:=rfl
def xx (kd:TK) (k:Prop):Prop:=match kd with| .int .u8=>k|_=>False
theorem Rx (k:Prop):xx (.int .u8) k=k:=rfl
def EF (x:AV) (k:AV->Prop):Prop:=match x with| .val (.int _ n)=>(0<=n/\n<128)/\k (.val (.string ⟨#[UInt8.ofNat n.toNat]⟩))|_=>False
@[congr] theorem UT {y y':AV} {k:AV->Prop} (h:y=y'):EF y k=EF y' k:=by rw [h]
theorem EG (i:IntKind) (n:Int) (k:AV->Prop):EF (.val (.int i n)) k=((0<=n/\n<128)/\k (.val (.string ⟨#[UInt8.ofNat n.toNat]⟩))):=rfl
def fP (P:Program) (si ti:TI) (x:AV) (m:Mem) (k:AV->Prop):Prop:=match si.kind,ti.kind with
 | .slice,.string=>eo (aK P si.elem) λei=>xx ei.kind (fA m x λy=>oO y k)
 | .int _,.string=>EF x k
 |_,d=>ur d x k
@[congr] theorem Ry {P:Program} {si ti:TI} {x x':AV} {m:Mem} {k:AV->Prop} (h:x=x'):fP P si ti x m k=fP P si ti x' m k:=by rw [h]
section
variable (P:Program) (ag ag':Bool) (s b s' b':Nat) (z z':AV) (f f':List (Nat × Nat × Bool)) (e e':Nat) (x:AV) (m:Mem) (k:AV->Prop)
theorem r7:fP P ⟨ag,s,b,z,f,e,.slice⟩ ⟨ag',s',b',z',f',e',.string⟩ x m k=eo (aK P e) λei=>xx ei.kind (fA m x λy=>oO y k):=rfl
theorem xy (i:IntKind):fP P ⟨ag,s,b,z,f,e,.int i⟩ ⟨ag',s',b',z',f',e',.string⟩ x m k=EF x k:=rfl
theorem xz (kd:TK) (i:IntKind):fP P ⟨ag,s,b,z,f,e,kd⟩ ⟨ag',s',b',z',f',e',.int i⟩ x m k=ur (.int i) x k:=by cases kd<;>rfl
end
def kK (P:Program) (si ti:TI) (d:Nat) (x:AV) (m:Mem) (k:AV->Mem->Prop):Prop:=match si.kind,ti.kind with
 | .string,.slice=>eo (aK P ti.elem) λei=>xx ei.kind (tq d x m k)
 |_,_=>fP P si ti x m λv=>k v m
@[congr] theorem Rz {P:Program} {si ti:TI} {d:Nat} {x x':AV} {m:Mem} {k:AV->Mem->Prop} (h:x=x'):kK P si ti d x m k=kK P si ti d x' m k:=by rw [h]
section
variable (P:Program) (ag ag':Bool) (s b s' b':Nat) (z z':AV) (f f':List (Nat × Nat × Bool)) (e e' d:Nat) (x:AV) (m:Mem) (k:AV->Mem->Prop)
theorem r8:kK P ⟨ag,s,b,z,f,e,.slice⟩ ⟨ag',s',b',z',f',e',.string⟩ d x m k=fP P ⟨ag,s,b,z,f,e,.slice⟩ ⟨ag',s',b',z',f',e',.string⟩ x m λv=>k v m:=rfl
theorem xA (i:IntKind):kK P ⟨ag,s,b,z,f,e,.int i⟩ ⟨ag',s',b',z',f',e',.string⟩ d x m k=fP P ⟨ag,s,b,z,f,e,.int i⟩ ⟨ag',s',b',z',f',e',.string⟩ x m λv=>k v m:=rfl
theorem xB (kd:TK) (i:IntKind):kK P ⟨ag,s,b,z,f,e,kd⟩ ⟨ag',s',b',z',f',e',.int i⟩ d x m k=fP P ⟨ag,s,b,z,f,e,kd⟩ ⟨ag',s',b',z',f',e',.int i⟩ x m λv=>k v m:=by cases kd<;>rfl
end
def iK (P:Program) (d:Nat) (op:Op) (ts:Env) (m:Mem) (k:AV->Mem->Prop):Prop:=
 match op with
 | .move x=>k (ev ts x) m
 | .assign x=>k (ev ts x) m
 | .pick c a b=>qe (ev ts c) (ev ts a) (ev ts b) λv=>k v m
 | .alloc t=>eo (aK P t) λti=>CC d ti.zero m k
 | .box _ x=>CC d (ev ts x) m k
 | .build t parts=>eo (aK P t) λti=>V8 ti.kind (qI ti (parts.toList.map λp=>(p.1,ev ts p.2)) λv=>k v m)
 | .buildSlice t n parts=>eo (aK P t) λtt=>xn tt.kind (eo (aK P tt.elem) λti=>gI ti d n (parts.toList.map λp=>(p.1,ev ts p.2)) m k)
 | .load t x=>eo (aK P t) λti=>oz ti.agg ti.size (ev ts x) m k
 | .store t p y=>eo (aK P t) λti=>fW ti.size (ev ts p) (ev ts y) m λm'=>k .undef m'
 | .nilCheck x=>rZ m (ev ts x) λv=>k v m
 | .binOp op t x y _=>eo (aK P t) λti=>gK P t op (ev ts x) (ev ts y) (λv=>k v m) (lH op ti.kind (ev ts x) (ev ts y) (UR y) m λv=>k v m)
 | .unOp .not _ x=>zx (ev ts x) λv=>k v m
 | .unOp .neg _ x=>Cx (ev ts x) λv=>k v m
 | .convert s t x=>eo (aK P s) λsi=>eo (aK P t) λti=>kK P si ti d (ev ts x) m k
 | .makeSlice t l c=>eo (aK P t) λtt=>xn tt.kind (eo (aK P tt.elem) λti=>rR ti d (ev ts l) (ev ts c) m k)
 | .slice t x lo hi none=>eo (aK P t) λtt=>ng P tt (ev ts x) (lo.map (ev ts)) (hi.map (ev ts)) m λv=>k v m
 | .slice t x none hi mx=>(Wi hi=true/\Wi mx=true)/\eo (aK P t) λtt=>xn tt.kind (eo (aK P tt.elem) λ_=>jz m (ev ts x) λv=>k v m)
 | .fieldAddr t x f=>eo (aK P t) λti=>te ti.fields[f]? λfd=>0<fd.2.1/\ib fd.1 m (ev ts x) λv=>k v m
 | .field t x f=>eo (aK P t) λti=>te ti.fields[f]? λfd=>nh fd.2.2 fd.2.1 fd.1 (ev ts x) λv=>k v m
 | .indexAddr t x i=>eo (aK P t) λtt=>xn tt.kind (eo (aK P tt.elem) λti=>uY ti.sh m (ev ts x) (ev ts i) λv=>k v m)
 | .index t x i=>eo (aK P t) λtt=>(match tt.kind with| .string=>True|_=>False)/\mZ (ev ts x) (ev ts i) λv=>k v m
 | .extract x i=>zz i (ev ts x) λv=>k v m
 | .call c=>match c.callee,c.args.toList with
   | .builtin .len,[x]=>match c.argTypes.toList with|t::_=>eo (aK P t) λti=>mY ti.kind m (ev ts x) λv=>k v m| []=>False
   | .builtin .max,[x,y]=>zy (ev ts x) (ev ts y) λv=>k v m
   | .builtin .min,[x,y]=>mW (ev ts x) (ev ts y) λv=>k v m
   | .builtin .min,[x,y,z]=>mW (ev ts x) (ev ts y) λu=>mW u (ev ts z) λv=>k v m
   | .builtin .append,[x,y]=>kJ P c.argTypes.toList d (ev ts x) (ev ts y) m k
   | .value (.func f),xs=>nY P f d (xs.map (ev ts)) m k
   | .value (.tmp t),xs=>ni P (look ts t) d (xs.map (ev ts)) m k
   |_,_=>False
 | .makeFunc (.func f) first caps=>first.toList=[]/\k (.cn f (caps.toList.map (ev ts))) m
 |_=>False
section
variable {P:Program} {B:eC} {N:Nat} {φ:Nat->LS} {fp:Nat->lN} {S:nP} {ts:Env} {m:Mem} {a:Act} {w:World}
theorem bD {x:Option TI} {k:TI->Prop} (h:eo x k):∃t,x=some t/\k t:=by
 cases x with
 |none=>exact h.elim
 |some t=>exact ⟨t,rfl,h⟩
theorem nk {kd:TK} {k:Prop} (h:xn kd k):kd= .slice/\k:=by cases kd<;>first|exact h.elim|exact ⟨rfl,h⟩
theorem RA {kd:TK} {k:Prop} (h:V8 kd k):kd= .struct/\k:=by cases kd<;>first|exact h.elim|exact ⟨rfl,h⟩
theorem EH {f:Option (Nat × Nat × Bool)} {k:Nat × Nat × Bool->Prop} (h:te f k):∃fd,f=some fd/\k fd:=by
 cases f with
 |none=>exact h.elim
 |some t=>exact ⟨t,rfl,h⟩
theorem EI {t:TypeId} {ti:TI} (ht:aK P t=some ti) {f:Nat} {fd:Nat × Nat × Bool} (hf:ti.fields[f]? =some fd):
 ∃fs g,P.underlying t=some (.struct fs)/\fs[f]? =some g/\fd=(g.offset,gB P g.type,j9 P g.type)/\∃i d,P.info? g.type=some i/\P.underlying g.type=some d:=by
 obtain ⟨i,d,z,hi,hd,hz,_,_,_,_,hff,_⟩:=fx ht;rw [hff] at hf;cases d with
 |struct fs=>
  simp only [List.getElem?_map] at hf;cases hg:fs.toList[f]? with
  |none=>rw [hg] at hf;cases hf
  |some g=>
   rw [hg] at hf;simp only [Option.map_some,Option.some.injEq] at hf;obtain ⟨i',hi'⟩:=Option.isSome_iff_exists.1 (tg ht fs hd g (List.mem_of_getElem? hg)).1;obtain ⟨d',hd'⟩:=Option.isSome_iff_exists.1 (tg ht fs hd g (List.mem_of_getElem? hg)).2;exact ⟨fs,g,hd,by simpa using hg,hf.symm,i',d',hi',hd'⟩
 |_=>simp at hf
theorem EJ (h:RS B N φ fp S ts m a w) {l v:Nat} (hn:φ l≠ .nil v) {k:Prop} (hk:ga v (ah m l) k):(∃b sh,φ l= .at b sh v)/\k:=by
 unfold ga at hk;split at hk
 . rename_i v' xs hlk;obtain ⟨rfl,hk⟩:=hk;obtain ⟨b,cs,e,sh,hφ,_⟩:=h.aG l _ hlk;exact ⟨⟨b,sh,hφ⟩,hk⟩
 . rename_i v' sh d xs hlk;obtain ⟨rfl,hk⟩:=hk;rcases h.aG l _ hlk with ⟨h1,_⟩|⟨b,cap,hφ,_⟩
   . exact absurd h1 hn
   exact ⟨⟨b,sh,hφ⟩,hk⟩
 exact hk.elim
theorem Kw {t:TypeId} {ti:TI} (ht:aK P t=some ti) (h:RS B N φ fp S ts m a w) {p:AV} {v:Value} (hp:RV w S φ p v) (hpl:∀l af,(l,af)∈ao p->known m l af) {f:Nat} {fd:Nat × Nat × Bool} (hf:ti.fields[f]? =some fd) (hsz:0<fd.2.1)
 {k:AV->Prop} (hk:ib fd.1 m p k):iJ B N a (λx ts' m'=>ts'=ts/\m'=m/\k x) ((Instr.fieldAt t v f).run P w):=by
 obtain ⟨fs,g,hu,hg,rfl,i,d,hi,hd⟩:=EI ht hf;simp only at hsz;have hs:gB P g.type=i.size:=by simp [gB,hi]
 have cG:∀b o,(Instr.fieldAt t (.pointer (some ⟨b,o,none⟩)) f).run P w= .ok (.pointer (some ⟨b,o+g.offset,none⟩)) w:=by
  intro b o;have h0:i.size≠0:=by omega
  simp [Instr.fieldAt,run_underlying hu,hg,Instr.sureAddr,fieldPlace,sizeOf,typeInfo,hi,h0,Addr.kI]
 unfold ib at hk;split at hk
 . rename_i l af i' j';obtain ⟨⟨b,sh,hφ⟩,hk⟩:=EJ h (wg hp).1 hk;have hv:=jZ hp b sh hφ;subst hv;refine ⟨_,w,cG _ _,h.gives (x:=.ptr l af i' (j'+g.offset)) ?_ (λl' ver' hl=>hpl l' ver' (by simpa [ao] using hl)) ⟨rfl,rfl,hk⟩⟩;refine .ptr _ _ _ _ _ (λb' sh' hb'=> ?_) (wg hp).1 rfl;rw [hφ] at hb';cases hb';rw [Nat.add_assoc]
 . rename_i sh xs i' j';cases pt hp with
   |bo _ _ _ _ b off cs e fr hS hb hl hff hv=>
    refine ⟨_,w,cG _ _,h.gives ?_ (λl' ver' hl=>by cases hl) ⟨rfl,rfl,hk⟩⟩;have:=Rd.bo (w:=w) (S:=S) sh xs i' (j'+g.offset) b off cs e fr hS hb hl hff hv;rw [←Nat.add_assoc] at this;exact .rd _ _ this
 exact hk.elim
theorem RB {t:TypeId} {tt ti:TI} (htt:aK P t=some tt) (hks:tt.kind= .slice) (ht:aK P tt.elem=some ti) (h:RS B N φ fp S ts m a w) {x i:AV} {u v:Value} (hx:RV w S φ x u) (hxl:∀l af,(l,af)∈ao x->known m l af) (hi:RV w S φ i v)
 {k:AV->Prop} (hk:oK ti.sh m x i k):iJ B N a (λx ts' m'=>ts'=ts/\m'=m/\k x) ((Instr.indexAt t u v).run P w):=by
 have hsl:=bL htt hks;have hs:=jg ht w;have cG:∀(b o len cap:Nat) (q:IntKind) (n:Int),0<=n->n<len->(Instr.indexAt t (.slice (some ⟨b,o,none⟩) len cap) (.int q n)).run P w= .ok (.pointer (some ⟨b,o+n.toNat*ti.size,none⟩)) w:=by intro b o len cap q n h0 h1;simp [Instr.indexAt,asIntOf,run_underlying hsl,h0,h1,hs,Addr.kI]
 unfold oK at hk;split at hk
 . rename_i sh' xs q n;obtain ⟨rfl,⟨h0,h1⟩,hk⟩:=hk;obtain ⟨rfl,_⟩:=aR hi;cases l9 hx with
   |nil=>simp at h1;omega
   |arr _ _ b off cap cs e fr hS hb b9 hl hf hv=>
    refine ⟨_,w,cG b off _ cap q n h0 h1,h.gives ?_ (λl' ver' hl=>by cases hl) ⟨rfl,rfl,hk⟩⟩;have:=Rd.bo (w:=w) (S:=S) ti.sh xs n.toNat 0 b off cs e fr hS hb hl hf hv;exact .rd _ _ this
 . rename_i l af i0 n0 q n;unfold ql at hk;split at hk
   . rename_i v' sh' deep xs hlk;obtain ⟨rfl,rfl,⟨h0,h1⟩,hk⟩:=hk;obtain ⟨rfl,_⟩:=aR hi;have hr:=dq hx;have hkn:=hxl l v' (by simp [ao]);rcases h.aG l _ hlk with ⟨g1,g2,g3⟩|⟨b,cap0,hφ,hbm,hdp,a_⟩
     . have:=(hr.2 g1).1;omega
     obtain ⟨ad,cap,rfl,hnc,hcp⟩:=hr.1 b _ hφ;obtain ⟨rfl,cs,e,q1,q2⟩:=hcp.resolve_left (by omega);refine ⟨_,w,cG b _ _ cap q n h0 h1,h.gives (x:=.ptr l v' (i0+n.toNat) 0) ?_ (λl' ver' hl=> ?_) ⟨rfl,rfl,hk⟩⟩
     . refine .ptr _ _ _ _ _ (λb' sh' hb'=> ?_) (λhb'=>by rw [hφ] at hb';cases hb') rfl;rw [hφ] at hb';cases hb';rw [Nat.add_zero,Nat.add_mul];rfl
     simp only [ao,q10,Prod.mk.injEq] at hl;obtain ⟨rfl,rfl⟩:=hl;exact hkn
   . rename_i v' xs hlk;obtain ⟨rfl,rfl,S_,⟨h0,h1⟩,hk⟩:=hk;obtain ⟨rfl,_⟩:=aR hi;have hr:=dq hx;have hkn:=hxl l v' (by simp [ao]);obtain ⟨b,cs,e,sh2,hφ,_⟩:=h.aG l _ hlk;obtain ⟨ad,cap,rfl,hnc,hcp⟩:=hr.1 b _ hφ;obtain ⟨rfl,cs,e,q1,q2⟩:=hcp.resolve_left (by omega);refine ⟨_,w,cG b _ _ cap q n h0 h1,h.gives (x:=.ptr l v' 0 n.toNat) ?_ (λl' ver' hl=> ?_) ⟨rfl,rfl,hk⟩⟩
     . refine .ptr _ _ _ _ _ (λb' sh' hb'=> ?_) (λhb'=>by rw [hφ] at hb';cases hb') rfl;rw [hφ] at hb';cases hb';have:ti.size=1:=S_;rw [this,Nat.mul_one]
     simp only [ao,q10,Prod.mk.injEq] at hl;obtain ⟨rfl,rfl⟩:=hl;exact hkn
   exact hk.elim
 exact hk.elim
theorem mA {sh:Sh} {u:Value} {i:AV} {m0:Mem} {k:AV->Prop}:∀{r:Mem},NM sh u i m0 k r->∃l v xs j n,ah m0 l=some (.sub v sh xs u)/\i= .val (.int j n)/\(0<=n/\n<xs.length)/\k (.ptr l v n.toNat 0)
 |(l,.sub v sh' xs u')::r,h=>by
  obtain ⟨⟨h1,rfl,rfl⟩,h2⟩:=h;split at h2
  . rename_i j n;exact ⟨l,v,xs,j,n,h1,rfl,h2.1,h2.2⟩
  exact h2.elim
 |(l,.row v sh' d xs)::r,h=>mA (r:=r) h
 |(l,.box v xs)::r,h=>mA (r:=r) h
 |(l,.gone v)::r,h=>mA (r:=r) h
 |(l,.kb v xs i0 u0)::r,h=>mA (r:=r) h
theorem NQ {t:TypeId} {tt ti:TI} (htt:aK P t=some tt) (hks:tt.kind= .slice) (ht:aK P tt.elem=some ti) (h:RS B N φ fp S ts m a w) {x i:AV} {u v:Value} (hx:RV w S φ x u) (hxl:∀l af,(l,af)∈ao x->known m l af) (hi:RV w S φ i v)
 {k:AV->Prop} (hk:uY ti.sh m x i k):iJ B N a (λx ts' m'=>ts'=ts/\m'=m/\k x) ((Instr.indexAt t u v).run P w):=by
 cases x with
 |val u0=>
  obtain ⟨l,v',xs,j,n,hlk,rfl,⟨h0,h1⟩,hk'⟩:=mA hk;obtain ⟨rfl,_⟩:=aR hx;obtain ⟨rfl,_⟩:=aR hi;obtain ⟨b,cap,hφ,hbm,rfl,a_⟩:=h.aG l _ hlk;have hsl:=bL htt hks;have hs:=jg ht w;have cG:(Instr.indexAt t (.slice (some ⟨b,0,none⟩) xs.length cap) (.int j n)).run P w= .ok (.pointer (some ⟨b,0+n.toNat*ti.size,none⟩)) w:=by simp [Instr.indexAt,asIntOf,run_underlying hsl,h0,h1,hs,Addr.kI]
  refine ⟨_,w,cG,h.gives (x:=.ptr l v' n.toNat 0) ?_ (λl' ver' hl=> ?_) ⟨rfl,rfl,hk'⟩⟩
  . refine .ptr _ _ _ _ _ (λb' sh' hb'=> ?_) (λhb'=>by rw [hφ] at hb';cases hb') rfl;rw [hφ] at hb';cases hb';rw [Nat.add_zero,Nat.zero_add];rfl
  simp only [ao,q10,Prod.mk.injEq] at hl;obtain ⟨rfl,rfl⟩:=hl;exact ⟨_,hlk,Nat.le_refl _⟩
 |_=>exact RB htt hks ht h hx hxl hi hk
theorem Kx {t:TypeId} (ht:P.underlying t=some .string) (h:RS B N φ fp S ts m a w) {x i:AV} {u v:Value} (hx:RV w S φ x u) (hi:RV w S φ i v)
 {k:AV->Prop} (hk:mZ x i k):iJ B N a (λx ts' m'=>ts'=ts/\m'=m/\k x) ((Instr.index t u v).run P w):=by
 unfold mZ at hk;split at hk
 . rename_i s q n;obtain ⟨⟨h0,h1⟩,hk⟩:=hk;obtain ⟨rfl,_⟩:=aR hx;obtain ⟨rfl,_⟩:=aR hi;have hlt:n.toNat<s.size:=(by omega);have Yw:n.toNat<s.data.toList.length:=(by simpa using hlt);have e:s[n.toNat]? =some (s.data.toList.getD n.toNat 0):=by
    rw [q4,q5 Yw,getElem?_pos s n.toNat hlt];rfl
   refine ⟨.int .u8 (s.data.toList.getD n.toNat 0).toNat,w,?_,h.ff rfl ⟨rfl,rfl,hk⟩⟩;simp only [Instr.index,asIntOf,pure_bind,Sem.run_bind,run_underlying ht,Result.andThen_ok,h0,if_true,e];rfl
 exact hk.elim
theorem RC {t ty:TypeId} {ti:TI} (ht:aK P t=some ti) (h:RS B N φ fp S ts m a w) {x:AV} {u:Value} (hx:RV w S φ x u)
 {k:AV->Prop} (hk:mY ti.kind m x k):iJ B N a (λx ts' m'=>ts'=ts/\m'=m/\k x) ((Builtin.len_ #[t] ty #[u]).run P w):=by
 unfold mY at hk;have sl:∀(ad:Option Addr) (n c:Nat),ti.kind= .slice->(Builtin.len_ #[t] ty #[.slice ad n c]).run P w= .ok (.int .i64 n) w:=by intro ad n c hkd;simp [Builtin.len_,run_underlying (bL ht hkd),goInt]
 split at hk
 . rename_i sh xs hkd;cases l9 hx with
   |nil _ ad=>exact ⟨_,w,sl ad 0 0 hkd,h.ff rfl ⟨rfl,rfl,hk⟩⟩
   |arr _ _ b off cap cs e fr hS hb b9 hl hf hv=>exact ⟨_,w,sl _ _ _ hkd,h.ff rfl ⟨rfl,rfl,hk⟩⟩
 . rename_i l v i n hkd;have hr:=dq hx;unfold ga at hk;split at hk
   . rename_i v' xs hlk;obtain ⟨rfl,hk⟩:=hk;obtain ⟨b,cs,e,sh,hφ,_⟩:=h.aG l _ hlk;obtain ⟨ad,c,rfl,_⟩:=hr.1 b sh hφ;exact ⟨_,w,sl _ _ _ hkd,h.ff rfl ⟨rfl,rfl,hk⟩⟩
   . rename_i v' sh d xs hlk;obtain ⟨rfl,hk⟩:=hk;rcases h.aG l _ hlk with ⟨h1,_⟩|⟨b,cap,hφ,_⟩
     . obtain ⟨rfl,ad,rfl⟩:=hr.2 h1;exact ⟨_,w,sl _ _ _ hkd,h.ff rfl ⟨rfl,rfl,hk⟩⟩
     obtain ⟨ad,c,rfl,_⟩:=hr.1 b sh hφ;exact ⟨_,w,sl _ _ _ hkd,h.ff rfl ⟨rfl,rfl,hk⟩⟩
   exact hk.elim
 . rename_i hkd;obtain ⟨ad,rfl⟩:=rK hx;exact ⟨_,w,sl ad 0 0 hkd,h.ff rfl ⟨rfl,rfl,hk⟩⟩
 . rename_i ad n c hkd;obtain ⟨rfl,_⟩:=aR hx;exact ⟨_,w,sl ad n c hkd,h.ff rfl ⟨rfl,rfl,hk⟩⟩
 . rename_i s hkd;obtain ⟨rfl,_⟩:=aR hx;refine ⟨.int .i64 s.size,w,?_,h.ff rfl ⟨rfl,rfl,hk⟩⟩;simp [Builtin.len_,run_underlying (eE ht hkd),goInt]
 exact hk.elim
theorem Hf (h:RS B N φ fp S ts m a w) {x:AV} {u:Value} (hx:RV w S φ x u) (hxl:∀l af,(l,af)∈ao x->known m l af) {t:TypeId} {ti:TI} (ht:aK P t=some ti) {f:Nat} {fd:Nat × Nat × Bool} (hf:ti.fields[f]? =some fd)
 {k:AV->Prop} (hk:de fd.2.2 fd.2.1 fd.1 x k) (QC:∃xs,x= .agg xs):iJ B N a (λx ts' m'=>ts'=ts/\m'=m/\k x) ((Instr.field t u f).run P w):=by
 obtain ⟨xs,rfl⟩:=QC;obtain ⟨fs,g,hu,hg,rfl,i,d,hi,hd⟩:=EI ht hf;obtain ⟨cs,rfl,h1,h2,h3⟩:=na hx;have hs:gB P g.type=i.size:=by simp [gB,hi]
 have hag:(isAgg g.type).run P w= .ok (j9 P g.type) w:=by unfold isAgg j9;simp only [Sem.run_bind,run_underlying hd,Result.andThen_ok,hd];cases d<;>rfl
 simp only at hk;rw [hs] at hk;cases hb:j9 P g.type with
 |true=>
  rw [hb] at hk hag;obtain ⟨hlen,hk⟩:=hk;refine ⟨.agg (cs.extract g.offset (g.offset+i.size)),w,?_,h.gives (x:=.agg ((xs.drop g.offset).take i.size)) (.agg _ _ (by simp;omega) (λq hq=> ?_) λq hq=> ?_) (λl af hl=> ?_) ⟨rfl,rfl,hk⟩⟩
  . simp [Instr.field,run_underlying hu,hg,asAgg,part,hag,sizeOf,typeInfo,hi]
  . simp only [List.length_take,List.length_drop] at hq;simp only [q9,q6];exact h2 _ (by omega)
  . simp only [List.length_take,List.length_drop] at hq;simp only [q9,q6];have:=h3 (g.offset+q) (by omega);have e:(cs.extract g.offset (g.offset+i.size)).toList.getD q uD=cs.toList.getD (g.offset+q) uD:=by
     simp only [q4,q2,Array.getElem?_extract];rw [if_pos (by omega)]
    rw [e];exact this
  simp only [ao] at hl;obtain ⟨q,hq,hl2⟩:=bK hl;simp only [List.length_take,List.length_drop] at hq;simp only [q9,q6] at hl2;exact hxl l af (by simp only [ao];exact bp (by omega) hl2)
 |false=>
  rw [hb] at hk hag;simp only [de] at hk;cases hj:xs[g.offset]? with
  |none=>rw [hj] at hk;exact hk.elim
  |some y=>
   rw [hj] at hk;obtain ⟨hj1,hj2⟩:=List.getElem?_eq_some_iff.1 hj;have hlt:g.offset<cs.size:=(by omega);refine ⟨cs.toList.getD g.offset uD,w,?_,h.gives (x:=y) ?_ (λl af hl=> ?_) ⟨rfl,rfl,hk⟩⟩
   . have e:cs[g.offset]? =some (cs.toList.getD g.offset uD):=by
      rw [q4,q2,q1 hlt];rfl
     simp only [Instr.field,run_underlying hu,Sem.run_bind,Result.andThen_ok,hg,asAgg,pure_bind,part,hag,e,Bool.false_eq_true,if_false];rfl
   . have:=h3 g.offset hj1
     rwa [hj2] at this
   exact hxl l af (by simp only [ao];exact bp hj1 (by rw [hj2];exact hl))
theorem iw.mono {k k':AV->Env->Mem->Prop} {v:Value} {w:World} (h:iw B N a k v w) (hk:∀x ts m,k x ts m->k' x ts m):iw B N a k' v w:=by obtain ⟨φ,fp,S,ts,m,x,h1,h2,h3,h4⟩:=h;exact ⟨φ,fp,S,ts,m,x,h1,h2,h3,hk _ _ _ h4⟩
theorem iJ.mono {k k':AV->Env->Mem->Prop} {r:Result Value} (h:iJ B N a k r) (hk:∀x ts m,k x ts m->k' x ts m):iJ B N a k' r:=by obtain ⟨v,w',h1,h2⟩:=h;exact ⟨v,w',h1,h2.mono hk⟩
theorem Ky (h:RS B N φ fp S ts m a w) (l:List (Nat × Operand)):∀p,p∈l.map (λp=>(p.1,Vc.ev ts p.2))->∀q,q∈ao p.2->known m q.1 q.2:=by intro p hp q hq;obtain ⟨p0,_,rfl⟩:=List.mem_map.1 hp;exact h.DK p0.2 q.1 q.2 hq
theorem xC {f:FuncId} {d:Nat} {xs:lA} {vs:aV} (h:RS B N φ fp S ts m a w) (hxs:pA (RV w S φ) xs vs.toList) (hxl:∀i (hi:i<xs.length) l af,(l,af)∈ao xs[i]->known m l af) {k:AV->Mem->Prop} (hk:nY P f d xs m k):
 Enters P f/\Calls P f vs w λe w'=>∃v,e= .returned v/\iw B N a (λx ts' m'=>ts'=ts/\k x m') v w':=by
 have hk':dH m (λts=>eR P f d xs ts m k ⟨⟩) [] xs:=by
  cases xs with
  |nil=>exact hk
  |cons x r=>exact hk
 have owned:∀(trs:lA) (post:AV->Prop),pA (Rd w (ov w)) trs vs.toList->Fn P f trs true post->(∀r,post r->my (1000*(d+1)) r m k)→
  Calls P f vs w λe w'=>∃v,e= .returned v/\iw B N a (λx ts' m'=>ts'=ts/\k x m') v w':=by
  intro trs post hrd hfn gO;refine (hfn.2 w (ov w) vs (λb hb=>hb) (h.jv.mono (λ_ _=>rfl) λb hb=>(h.sB b hb).1) (by simpa using hrd.1) hrd.2).mono ?_;rintro e w' ⟨r,v,rfl,hr,hg,j8⟩;simp only [iO,if_true] at j8;obtain ⟨fs,a_,hnd,hfr⟩:=j8;have hRS:=h.grown hg;obtain ⟨φ',fp',y,m',g1,g2,g3,g4⟩:=CI hRS a_ hnd (λb hb=>⟨q14 h.size (hfr b hb),λhs=>by have:=(h.sB b hs).1;have:=hfr b hb;omega,λl hl=>by have:=(h.cu l b hl).1;have:=hfr b hb;omega⟩) _ (gO r hr);exact ⟨v,rfl,φ',fp',S,ts,m',y,g1.rs,g3,g4,rfl,g2⟩
 have io:h_ P f xs m k->Enters P f/\Calls P f vs w λe w'=>∃v,e= .returned v/\iw B N a (λx ts' m'=>ts'=ts/\k x m') v w':=
  λhi=>hi B N φ fp S ts a w vs h (by simpa using hxs.1) hxs.2 hxl
 by_cases hU:ax xs
 . have hct:=Jp xs [] hU hk';rcases hct with hct|hct
   . exact io hct
   obtain ⟨own,post,hfn,QM,gO⟩:=hct;rw [List.reverse_nil,q11] at hfn;have lab:∀(xs:lA),ax xs->∀i (hi:i<xs.length),ao xs[i]=[]:=by
    intro xs;induction xs with
    |nil=>intro _ i hi;exact absurd hi (q16 _)
    |cons x r ih=>
     intro hl i hi;cases i with
     |zero=>exact hl.1.1
     |succ i=>exact ih hl.2 i (by simpa using hi)
   have hrd:∀i (hi:i<xs.length),Rd w S xs[i] (vs.toList.getD i uD):=λi hi=>cU (hxs.2 i hi) (lab xs hU i hi);refine ⟨hfn.1,?_⟩;cases own with
   |true=>exact owned xs post ⟨hxs.1,λi hi=>(hrd i hi).mono (λ_ _=>rfl) λb hb=>(h.sB b hb).1⟩ hfn gO
   |false=>
    refine (hfn.2 w S vs (λb hb=>(h.sB b hb).1) h.jv (by simpa using hxs.1) hrd).mono ?_;rintro e w' ⟨r,v,rfl,hr,hg,j8⟩;simp only [iO,Bool.false_eq_true,if_false] at j8;have hRS:=(h.grown hg).hold (λb=>w.heap.size<=b/\b<w'.heap.size) (λb hb=>⟨hb.2,q14 h.size hb.1,λl hl=>by have:=(h.cu l b hl).1;omega⟩);exact ⟨v,rfl,φ,fp,_,ts,m,r,hRS,.rd _ _ j8,λl af hl=>(by rw [fU j8] at hl;cases hl),rfl,gO r hr⟩
 obtain ⟨trs,hct,hrd⟩:=tn h xs vs.toList [] [] hxs ⟨rfl,λi hi=>absurd hi (q16 _)⟩ hk';rw [q11] at hrd;rcases hct with hct|hct
 . exact io hct
 obtain ⟨own,post,hfn,QM,gO⟩:=hct;refine ⟨hfn.1,?_⟩;cases own with
 |true=>exact owned trs post hrd hfn gO
 |false=>exact absurd (QM rfl) hU
theorem CL (h:RS B N φ fp S ts m a w) (l:lO):pA (RV w S φ) (l.map (Vc.ev ts)) (l.map a.eval):=by refine ⟨by simp,λi hi=> ?_⟩;simp only [List.length_map] at hi;simp only [q7,q4,List.getElem?_map,q5 hi,Option.map_some,Option.getD_some];exact h.ev _
theorem qn (l:Array (Nat × Operand)) (a:Act):(l.map λ(i,x)=>(i,a.eval x))=((l.toList.map λp=>(p.1,a.eval p.2)).toArray):=by apply Array.ext';simp
theorem Jw {t:TypeId} {ti:TI} (ht:aK P t=some ti) (hks:ti.kind= .slice) (a:Option Addr) (n c:Nat) (w:World):(Op.equal t (.slice a n c) (.slice none 0 0)).run P w= .ok a.isNone w:=by
 have hu:=bL ht hks;show (Op.equalIn (9999+1) t (.slice a n c) (.slice none 0 0)).run P w=_;have:(underlying t).run P w= .ok (.slice ti.elem) w:=by simp [underlying,hu]
 rw [Op.equalIn,Sem.run_bind,this];cases a<;>rfl
theorem EK (h:RS B N φ fp S ts m a w) {x:AV} {u:Value} (hx:RV w S φ x u) {k:Bool->Prop} (hk:qm x m k):∃ad n c,u= .slice ad n c/\k ad.isNone:=by
 unfold qm at hk;split at hk
 . rename_i sh xs;cases hx with
   |rd _ _ hr=>cases hr with
    |nil _ ad=>exact ⟨ad,0,0,rfl,hk _ λ_=>rfl⟩
    |arr _ _ b off cap cs e fr _ _ _ _ _ _=>exact ⟨_,_,_,rfl,hk _ λe=>by simp at e⟩
 . rename_i l v i n;obtain ⟨r1,r2⟩:=dq hx;unfold ga at hk;split at hk
   . rename_i v' xs hlk;obtain ⟨rfl,hk⟩:=hk;obtain ⟨b,cs,e,sh,hφ,_⟩:=h.aG l _ hlk;obtain ⟨ad,cap,rfl,hn,hc⟩:=r1 b sh hφ;refine ⟨ad,n,cap,rfl,hk _ λe=> ?_⟩;rcases hc with rfl|⟨rfl,_⟩
     . omega
     simp at e
   . rename_i v' sh d xs hlk;obtain ⟨rfl,hk⟩:=hk;rcases h.aG l _ hlk with ⟨h1,_⟩|⟨b,cap,hφ,_⟩
     . obtain ⟨rfl,ad,rfl⟩:=r2 h1;exact ⟨ad,0,0,rfl,hk _ λ_=>rfl⟩
     obtain ⟨ad,cap,rfl,hn,hc⟩:=r1 b sh hφ;refine ⟨ad,n,cap,rfl,hk _ λe=> ?_⟩;rcases hc with rfl|⟨rfl,_⟩
     . omega
     simp at e
   exact hk.elim
 . cases hx with
   |rd _ _ hr=>cases hr with
    |e0 ad=>exact ⟨ad,0,0,rfl,hk _⟩
 . obtain ⟨rfl,_⟩:=aR hx;exact ⟨none,0,0,rfl,hk⟩
 exact hk.elim
theorem NR {op:BinOp} {t:TypeId} {ti:TI} (h:RS B N φ fp S ts m a w) (ht:aK P t=some ti) {x y:AV} {u v:Value} (hx:RV w S φ x u) (hy:RV w S φ y v) {ox oy:Operand} {k:AV->Prop}
 (hk:lH op ti.kind x y (UR oy) m k):∃r,(do eqGuard op t ox oy u v;binOp op t u v:Sem Value).run P w= .ok r w/\Kl k r:=by
 unfold lH at hk;split at hk
 . rename_i hks;obtain ⟨ad,n,c,rfl,hk⟩:=EK h hx hk;obtain ⟨rfl,_⟩:=aR hy;refine ⟨.bool ad.isNone,?_,rfl,hk⟩;have:(binOp .eql t (.slice ad n c) (.slice none 0 0)).run P w= .ok (.bool ad.isNone) w:=by
    simp only [binOp,Sem.run_bind,Jw ht hks];rfl
   simp only [Sem.run_bind];have hg:(eqGuard .eql t ox oy (.slice ad n c) (.slice none 0 0)).run P w= .ok () w:=(by simp [eqGuard]);rw [hg];exact this
 . rename_i hks;obtain ⟨ad,n,c,rfl,hk⟩:=EK h hx hk;obtain ⟨rfl,_⟩:=aR hy;refine ⟨.bool (!ad.isNone),?_,rfl,hk⟩;have:(binOp .neq t (.slice ad n c) (.slice none 0 0)).run P w= .ok (.bool (!ad.isNone)) w:=by
    simp only [binOp,Sem.run_bind,Jw ht hks];rfl
   simp only [Sem.run_bind];have hg:(eqGuard .neq t ox oy (.slice ad n c) (.slice none 0 0)).run P w= .ok () w:=(by simp [eqGuard]);rw [hg];exact this
 . rename_i hks;obtain ⟨ms,hu⟩:=G7 ht hks;obtain ⟨rfl,_⟩:=aR hy;have e1:∀(d:Nat) u x,(Op.equalIn (d+1) t (.iface u x) .nilIface).run P w= .ok false w:=λd u x=>by rw [Op.equalIn];simp [run_underlying hu]
   have e2:∀(d:Nat),(Op.equalIn (d+1) t .nilIface .nilIface).run P w= .ok true w:=λd=>by rw [Op.equalIn];simp [run_underlying hu]
   have g1:∀op u x,(eqGuard op t ox oy (.iface u x) .nilIface).run P w= .ok () w:=λop u x=>by cases op<;>simp [eqGuard]
   have g2:∀op,UR oy=true->(eqGuard op t ox oy .nilIface .nilIface).run P w= .ok () w:=λop hc=>by cases oy<;>simp [UR] at hc;cases op<;>simp [eqGuard]
   unfold He at hk;split at hk
   . obtain ⟨rfl,_⟩:=aR hx;exact ⟨_,(by simp only [Sem.run_bind,g2 _ hk.1,Result.andThen_ok,binOp,Op.equal,Op.maxDepth];simp [e2]),rfl,hk.2⟩
   . obtain ⟨rfl,_⟩:=aR hx;exact ⟨_,(by simp only [Sem.run_bind,g2 _ hk.1,Result.andThen_ok,binOp,Op.equal,Op.maxDepth];simp [e2]),rfl,hk.2⟩
   . obtain ⟨rfl,_⟩:=aR hx;exact ⟨_,(by simp only [Sem.run_bind,g1,Result.andThen_ok,binOp,Op.equal,Op.maxDepth];simp [e1]),rfl,hk⟩
   . obtain ⟨rfl,_⟩:=aR hx;exact ⟨_,(by simp only [Sem.run_bind,g1,Result.andThen_ok,binOp,Op.equal,Op.maxDepth];simp [e1]),rfl,hk⟩
   exact hk.elim
 exact Rj ht hx hy hk
theorem xD {src t e:TypeId} {sh:Sh} {bs:lU} {v:Value} (hs:P.underlying src=some (.slice e)) (he:P.underlying e=some (.int .u8)) (ht:P.underlying t=some .string)
 (h:Rd w (ov w) (.arr sh (bs.map λb=>.val (.int .u8 b.toNat))) v):(convert src t v).run P w= .ok (.string ⟨bs.toArray⟩) w:=by
 have jt:∀(ad:Option Addr),(convert src t (.slice ad 0 0)).run P w= .ok (.string ⟨#[]⟩) w:=by
  intro ad;cases ad with
  |none=>simp only [convert,Sem.run_bind,run_underlying hs,run_underlying ht,run_underlying he,Result.andThen_ok];rfl
  |some ad=>
   have:=run_convert_bytes_back (P:=P) w src t e ad 0 [] hs he ht (λj hj=>absurd hj (q16 _));simpa using this
 generalize hxs:bs.map (λb=>AV.val (.int .u8 b.toNat))=xs at h;have hlen:xs.length=bs.length:=by rw [←hxs];simp
 cases h with
 |nil sh ad=>
  have:bs=[]:=q3 (by rw [←hlen];rfl);subst this;exact jt ad
 |arr sh xs b off cap cs e2 fr hS hb b9 hl hf hv=>
  rw [hlen];refine run_convert_bytes_back (P:=P) w src t e ⟨b,off,none⟩ cap bs hs he ht λj hj=> ?_;have hj2:j<xs.length:=by omega
  have h1:=hf j hj2;have h2:=hv j hj2;have hx:xs[j]= .val (.int .u8 bs[j].toNat):=by simp [←hxs]
  rw [hx] at h1 h2;obtain ⟨ha,hz⟩:=h1;have e1:sh=⟨1,false⟩:=by cases sh;simp_all
  subst e1;have h4:elemV cs.toList (off+j*1) ⟨1,false⟩= .int .u8 bs[j].toNat:=by generalize elemV cs.toList (off+j*1) ⟨1,false⟩=u at h2;cases h2;rfl
  rw [ba,Nat.mul_one] at h4;have h5:off+j<cs.size:=by simp only [Nat.mul_one] at hl;omega
  rw [q4,q2,q1 h5] at h4;have e3:(⟨b,off,none⟩:Addr).add j=⟨b,off+j,none⟩:=by unfold Addr.add;split<;>simp_all
  rw [e3];simp only [World.cell?,hb,Option.isSome_none,Bool.false_eq_true,↓reduceIte,q1 h5];exact congrArg some h4
theorem RD {n:Int} (h0:0<=n) (h1:n<128):(Conv.intToString n).run P w= .ok (.string ⟨#[UInt8.ofNat n.toNat]⟩) w:=by
 have hv:Utf8.valid n=true:=by unfold Utf8.valid;simp;omega
 have:Utf8.encode n=⟨#[UInt8.ofNat n.toNat]⟩:=by unfold Utf8.encode;simp only [hv,if_true];rw [if_pos (by omega)]
 simp only [Conv.intToString,this];rfl
theorem gb {o:Oper} {next:Act->World->Prop} {Q:Exit->Act->World->Prop} (h:RS B N φ fp S ts m a w) {k:AV->Mem->Prop} (hk:iK P (o.dst.getD 0) o.op ts m k)
 (GV:∀v w',iw B N a (λx ts' m'=>ts'=ts/\k x m') v w'->next (a.put o.dst v) w'):o.wp P a w next Q:=by
 have V:∀s:Sem Value,execOp a.eval o=(do pure (.value (←s)):Sem Next)->iJ B N a (λx ts' m'=>ts'=ts/\k x m') (s.run P w)->o.wp P a w next Q:=by intro s hs ⟨v,w',h1,h2⟩;unfold Oper.wp;rw [hs];simp only [Sem.run_bind,h1,Result.andThen_ok,Sem.run_pure];exact GV v w' h2
 have Vm:∀s:Sem Value,∀k':AV->Prop,execOp a.eval o=(do pure (.value (←s)):Sem Next)->iJ B N a (λx ts' m'=>ts'=ts/\m'=m/\k' x) (s.run P w)->(∀x,k' x->k x m)->o.wp P a w next Q:=by intro s k' hs hr hkk;exact V s hs (hr.mono λx ts m ⟨h1,h2,h3⟩=>⟨h1,by rw [h2];exact hkk x h3⟩)
 have V0:∀(x:AV) (v:Value),execOp a.eval o=(pure (.value v):Sem Next)->RV w S φ x v->(∀l af,(l,af)∈ao x->known m l af)->k x m->o.wp P a w next Q:=by intro x v hs hx hl hkx;unfold Oper.wp;rw [hs];exact GV v w (h.gives hx hl ⟨rfl,hkx⟩)
 cases hop:o.op with
 |move x=>
  rw [hop] at hk;exact V0 _ (a.eval x) (by simp only [execOp,hop]) (h.ev x) (h.DK x) hk
 |assign x=>
  rw [hop] at hk;exact V0 _ (a.eval x) (by simp only [execOp,hop]) (h.ev x) (h.DK x) hk
 |pick c x y=>
  rw [hop] at hk;have hk:qe (Vc.ev ts c) (Vc.ev ts x) (Vc.ev ts y) λv=>k v m:=hk;have hc:=h.ev c;unfold qe at hk;split at hk
  . rename_i cb hcv;rw [hcv] at hc;obtain ⟨hcc,_⟩:=aR hc;cases cb with
    |true=>exact V0 _ (a.eval x) (by simp [execOp,hop,←hcc,asBool]) (h.ev x) (h.DK x) (hk.1 rfl)
    |false=>exact V0 _ (a.eval y) (by simp [execOp,hop,←hcc,asBool]) (h.ev y) (h.DK y) (hk.2 rfl)
  exact hk.elim
 |alloc t=>
  rw [hop] at hk;obtain ⟨ti,ht,hk⟩:=bD hk;exact V _ (by simp only [execOp,hop]) (Kr h ht _ hk)
 |box t x=>
  rw [hop] at hk;exact V _ (by simp only [execOp,hop]) (Jo h (h.ev x) (h.DK x) t _ hk)
 |build t parts=>
  rw [hop] at hk;obtain ⟨ti,ht,hk⟩:=bD hk;obtain ⟨hks,hk⟩:=RA hk;refine Vm (Instr.build t ((parts.toList.map λp=>(p.1,a.eval p.2)).toArray)) (λx=>k x m) (by simp only [execOp,hop,qn]) ?_ (λ_ h=>h);exact Hc ht hks (λfs hfs f hf=>(tg ht fs hfs f hf).1) h (NH h parts.toList) (Ky h parts.toList) hk
 |buildSlice t n parts=>
  rw [hop] at hk;obtain ⟨tt,htt,hk⟩:=bD hk;obtain ⟨hks,hk⟩:=nk hk;obtain ⟨ti,ht,hk⟩:=bD hk;refine V (Instr.buildSlice t n ((parts.toList.map λp=>(p.1,a.eval p.2)).toArray)) (by simp only [execOp,hop,qn]) ?_;exact vS htt hks ht h (NH h parts.toList) _ n hk
 |load t x=>
  rw [hop] at hk;obtain ⟨ti,ht,hk⟩:=bD hk;exact V _ (by simp only [execOp,hop]) (Kp ht h (h.ev x) (h.DK x) hk)
 |store t p y=>
  rw [hop] at hk;obtain ⟨ti,ht,hk⟩:=bD hk;obtain ⟨w',hr,φ',fp',S',ts',m',hRS,rfl,hkk⟩:=Hb ht h (h.ev p) (h.ev y) (h.DK y) hk;unfold Oper.wp;simp only [execOp,hop,Sem.run_bind,hr,Result.andThen_ok,Sem.run_pure];exact GV _ w' (hRS.gives (x:=.undef) (.rd _ _ (.undef _)) (λ_ _ hl=>by cases hl) ⟨rfl,hkk⟩)
 |nilCheck x=>
  rw [hop] at hk;have hk:rZ m (Vc.ev ts x) λv=>k v m:=hk;have hx:=h.ev x;have hxl:=h.DK x;unfold rZ at hk;split at hk
  . rename_i l v i j hv;rw [hv] at hx hxl;obtain ⟨⟨b,sh,hφ⟩,hk⟩:=EJ h (wg hx).1 hk;have:=jZ hx b sh hφ;exact V0 _ (a.eval x) (by simp only [execOp,hop,this]) hx hxl hk
  . rename_i sh xs i j hv;rw [hv] at hx hxl;have hx':=pt hx;cases hq:a.eval x with
    |pointer ad=>
     rw [hq] at hx';cases hx';exact V0 _ _ (by simp only [execOp,hop,hq]) (hq▸hx) hxl hk
    |_=>rw [hq] at hx';cases hx'
  . rename_i f xs hv;rw [hv] at hx hxl;obtain ⟨cs,hcs,_⟩:=Cy hx;exact V0 _ (a.eval x) (by simp only [execOp,hop,hcs]) hx hxl hk
  exact hk.elim
 |binOp op t x y ty=>
  rw [hop] at hk;obtain ⟨ti,ht,hk⟩:=bD hk;obtain ⟨r,hr,h1,h2⟩:=Nq (h.ev x) (h.ev y) (ox:=x) (oy:=y) hk λhk=>NR h ht (h.ev x) (h.ev y) (ox:=x) (oy:=y) hk;exact V _ (by simp only [execOp,hop]) ⟨r,w,hr,h.ff h1 ⟨rfl,h2⟩⟩
 |unOp op t x=>
  rw [hop] at hk;have hx:=h.ev x;cases op with
  |not=>
   have hk:zx (Vc.ev ts x) λv=>k v m:=hk;unfold zx at hk;split at hk
   . rename_i b hv;rw [hv] at hx;obtain ⟨hb,_⟩:=aR hx;exact V (Op.unary .not (a.eval x)) (by simp only [execOp,hop]) ⟨.bool (!b),w,by rw [←hb];rfl,h.ff rfl ⟨rfl,hk⟩⟩
   exact hk.elim
  |neg=>
   have hk:Cx (Vc.ev ts x) λv=>k v m:=hk;unfold Cx at hk;split at hk
   . rename_i i n hv;rw [hv] at hx;obtain ⟨hb,_⟩:=aR hx;exact V (Op.unary .neg (a.eval x)) (by simp only [execOp,hop]) ⟨.int i (i.wrap (0-n)),w,by rw [←hb];rfl,h.ff rfl ⟨rfl,pw (c:=λv=>k v m) hk⟩⟩
   exact hk.elim
  |_=>exact hk.elim
 |convert src t x=>
  rw [hop] at hk;obtain ⟨si,hsi,hk⟩:=bD hk;obtain ⟨ti,ht,hk⟩:=bD hk;have hx:=h.ev x;obtain ⟨_,sd,_,_,hsd,_⟩:=fx hsi;unfold kK at hk;split at hk
  . rename_i hks hkd;obtain ⟨ei,hei,hk⟩:=bD hk;unfold xx at hk;split at hk
    . rename_i hke;unfold tq at hk;split at hk
      . rename_i s hv;rw [hv] at hx;obtain ⟨hb,_⟩:=aR hx;obtain ⟨hl,hk⟩:=hk;refine V (convert src t (a.eval x)) (by simp only [execOp,hop]) ?_;rw [←hb];exact Ku h (eE hsi hks) (bL ht hkd) (rL hei hke) hl _ hk
      exact hk.elim
    exact hk.elim
  unfold fP at hk;split at hk
  . rename_i hks hkd;obtain ⟨ei,hei,hk⟩:=bD hk;unfold xx at hk;split at hk
    . rename_i hke;obtain ⟨y,hk,hrd,_,_⟩:=th h hx hk;unfold oO at hk;split at hk
      . rename_i sh xs;obtain ⟨bs,rfl,hk2⟩:=u7 hk;refine V (convert src t (a.eval x)) (by simp only [execOp,hop]) ⟨.string ⟨bs.toArray⟩,w,?_,h.ff rfl ⟨rfl,hk2⟩⟩;exact xD (bL hsi hks) (rL hei hke) (eE ht hkd) hrd
      exact hk.elim
    exact hk.elim
  . rename_i i hks hkd;unfold EF at hk;split at hk
    . rename_i j n hv;rw [hv] at hx;obtain ⟨hb,_⟩:=aR hx;obtain ⟨⟨h0,h1⟩,hk⟩:=hk;refine V (convert src t (a.eval x)) (by simp only [execOp,hop]) ⟨.string ⟨#[UInt8.ofNat n.toNat]⟩,w,?_,h.ff rfl ⟨rfl,hk⟩⟩;rw [←hb];simp only [convert,Sem.run_bind,run_underlying (rL hsi hks),run_underlying (eE ht hkd),Result.andThen_ok];exact RD h0 h1
    exact hk.elim
  unfold ur at hk;split at hk
  . rename_i i j n hkd hv;rw [hv] at hx;obtain ⟨hb,_⟩:=aR hx;refine V (convert src t (a.eval x)) (by simp only [execOp,hop]) ⟨.int i (i.wrap n),w,?_,h.ff rfl ⟨rfl,pw (c:=λv=>k v m) hk⟩⟩;rw [←hb];simp only [convert,Sem.run_bind,run_underlying hsd,run_underlying (rL ht hkd),Result.andThen_ok];cases sd<;>rfl
  . rename_i s hkd hv;rw [hv] at hx;obtain ⟨hb,_⟩:=aR hx;refine V (convert src t (a.eval x)) (by simp only [execOp,hop]) ⟨.string s,w,?_,h.ff rfl ⟨rfl,hk⟩⟩;rw [←hb];simp only [convert,Sem.run_bind,run_underlying hsd,run_underlying (eE ht hkd),Result.andThen_ok];cases sd<;>rfl
  exact hk.elim
 |makeSlice t l c=>
  rw [hop] at hk;obtain ⟨tt,htt,hk⟩:=bD hk;obtain ⟨hks,hk⟩:=nk hk;obtain ⟨ti,ht,hk⟩:=bD hk;exact V _ (by simp only [execOp,hop]) (Ks htt hks ht h (h.ev l) (h.ev c) _ hk)
 |slice t x lo hi mx=>
  rw [hop] at hk;have BVm:∀q:Option Operand,BV w S φ (q.map (Vc.ev ts)) (q.map a.eval):=by
   intro q;cases q with
   |none=>trivial
   |some q=>exact h.ev q
  cases mx with
  |none=>
   have hk:eo (aK P t) λtt=>ng P tt (Vc.ev ts x) (lo.map (Vc.ev ts)) (hi.map (Vc.ev ts)) m λv=>k v m:=by cases lo<;>exact hk
   obtain ⟨tt,htt,hk⟩:=bD hk;have hx:=h.ev x;have hxl:=h.DK x;generalize Vc.ev ts x=xv at hx hxl hk;unfold ng at hk;split at hk
   . rename_i hkd;obtain ⟨hs,hk⟩:=hk;refine Vm (Instr.sliceAt t (a.eval x) (lo.map a.eval) (hi.map a.eval) none) (λx=>k x m) (by simp only [execOp,hop];rfl) ?_ (λ_ h=>h);refine w8 htt ⟨0,false⟩ (λhc=>by rw [hkd] at hc;cases hc) (.inr hkd) h hx hxl (BVm lo) (BVm hi) ⟨λhc=>(by rw [hkd] at hc;cases hc),λhc=> ?_⟩ hk;split at hs
     . exact absurd rfl (hc _)
     exact hs.elim
   . rename_i hkd;obtain ⟨hs,hk⟩:=hk;obtain ⟨ti,ht,hk⟩:=bD hk;refine Vm (Instr.sliceAt t (a.eval x) (lo.map a.eval) (hi.map a.eval) none) (λx=>k x m) (by simp only [execOp,hop];rfl) ?_ (λ_ h=>h);refine w8 htt ti.sh (λ_=>⟨ti,ht,rfl⟩) (.inl hkd) h hx hxl (BVm lo) (BVm hi) ⟨λ_ s hc=> ?_,λ_=>hkd⟩ hk;rw [hc] at hs;exact hs
   exact hk.elim
  |some mv=>
   cases lo with
   |some lv=>exact hk.elim
   |none=>
    obtain ⟨⟨h0,hm0⟩,hk⟩:=hk;obtain ⟨tt,htt,hk⟩:=bD hk;obtain ⟨hks,hk⟩:=nk hk;obtain ⟨ti,ht,hk⟩:=bD hk;have hx:=h.ev x;have hsl:(∃ad n c,a.eval x= .slice ad n c)/\k .e0 m:=by
     generalize a.eval x=u at hx;generalize Vc.ev ts x=xv at hx hk;unfold jz at hk;split at hk
     . cases l9 hx with
       |nil _ ad=>exact ⟨⟨_,_,_,rfl⟩,hk⟩
       |arr=>exact ⟨⟨_,_,_,rfl⟩,hk⟩
     . rename_i l v i n;have hr:=dq hx;unfold ga at hk;split at hk
       . rename_i v' xs hlk;obtain ⟨rfl,hk⟩:=hk;obtain ⟨b,cs,e,sh,hφ,_⟩:=h.aG l _ hlk;obtain ⟨ad,c,rfl,_⟩:=hr.1 b sh hφ;exact ⟨⟨_,_,_,rfl⟩,hk⟩
       . rename_i v' sh d xs hlk;obtain ⟨rfl,hk⟩:=hk;rcases h.aG l _ hlk with ⟨h1,_⟩|⟨b,cap,hφ,_⟩
         . obtain ⟨rfl,ad,rfl⟩:=hr.2 h1;exact ⟨⟨_,_,_,rfl⟩,hk⟩
         obtain ⟨ad,c,rfl,_⟩:=hr.1 b sh hφ;exact ⟨⟨_,_,_,rfl⟩,hk⟩
       exact hk.elim
     obtain ⟨h1,hk⟩:=hk;unfold isNil at h1;split at h1
     . obtain ⟨ad,rfl⟩:=rK hx;exact ⟨⟨_,_,_,rfl⟩,hk⟩
     . obtain ⟨rfl,_⟩:=aR hx;exact ⟨⟨_,_,_,rfl⟩,hk⟩
     cases h1
    obtain ⟨⟨ad,n,c,hu⟩,hk⟩:=hsl;have z0:∀q:Option Operand,Wi q=true->∃j,q.map a.eval=some (.int j 0):=by
     intro q hq;unfold Wi at hq;split at hq
     . rename_i j n;have:n=0:=(by simpa using hq);subst this;exact ⟨j,rfl⟩
     cases hq
    obtain ⟨jh,ejh⟩:=z0 hi h0;obtain ⟨jm,ejm⟩:=z0 (some mv) hm0;refine V (Instr.sliceAt t (a.eval x) none (hi.map a.eval) ((some mv).map a.eval)) (by simp only [execOp,hop,Option.map_none]) ⟨.slice ad 0 0,w,?_,h.gives (x:=.e0) (.rd _ _ (.e0 _)) (λ_ _ hl=>by cases hl) ⟨rfl,hk⟩⟩;rw [hu,ejh,ejm];have Yx:=bL htt hks;unfold Instr.sliceAt;simp [run_underlying Yx,Instr.slice,Instr.sliceBounds,run_sliceBound,jg ht]
 |fieldAddr t x f=>
  rw [hop] at hk;obtain ⟨ti,ht,hk⟩:=bD hk;obtain ⟨fd,hf,hsz,hk⟩:=EH hk;exact Vm _ (λx=>k x m) (by simp only [execOp,hop]) (Kw ht h (h.ev x) (h.DK x) hf hsz hk) (λ_ h=>h)
 |field t x f=>
  rw [hop] at hk;obtain ⟨ti,ht,hk⟩:=bD hk;obtain ⟨fd,hf,hk⟩:=EH hk;have hx:=h.ev x;have hxl:=h.DK x;unfold nh at hk;split at hk
  . rename_i ys hv;rw [hv] at hx hxl;exact Vm _ (λx=>k x m) (by simp only [execOp,hop]) (Hf h hx hxl ht hf hk ⟨_,rfl⟩) (λ_ h=>h)
  exact hk.elim
 |indexAddr t x i=>
  rw [hop] at hk;obtain ⟨tt,htt,hk⟩:=bD hk;obtain ⟨hks,hk⟩:=nk hk;obtain ⟨ti,ht,hk⟩:=bD hk;exact Vm _ (λx=>k x m) (by simp only [execOp,hop]) (NQ htt hks ht h (h.ev x) (h.DK x) (h.ev i) hk) (λ_ h=>h)
 |index t x i=>
  rw [hop] at hk;obtain ⟨tt,htt,hkd,hk⟩:=bD hk;have hks:tt.kind= .string:=by generalize tt.kind=kk at hkd;cases kk<;>first|rfl|exact hkd.elim
  exact Vm _ (λx=>k x m) (by simp only [execOp,hop]) (Kx (eE htt hks) h (h.ev x) (h.ev i) hk) (λ_ h=>h)
 |extract x i=>
  rw [hop] at hk;have hk:zz i (Vc.ev ts x) λv=>k v m:=hk;have hx:=h.ev x;have hxl:=h.DK x;unfold zz at hk;split at hk
  . rename_i xs hv;rw [hv] at hx hxl;cases hi:xs[i]? with
    |none=>rw [hi] at hk;exact hk.elim
    |some y=>
     rw [hi] at hk;obtain ⟨hi1,hi2⟩:=List.getElem?_eq_some_iff.1 hi;obtain ⟨cs,hcs,h1,h2⟩:=UH hx;have hlt:i<cs.size:=(by omega);have e:cs[i]? =some (cs.toList.getD i uD):=by rw [q4,q2,q1 hlt];rfl
     refine V (Instr.extract (a.eval x) i) (by simp only [execOp,hop]) ⟨cs.toList.getD i uD,w,?_,h.gives (x:=y) ?_ (λl af hl=> ?_) ⟨rfl,hk⟩⟩
     . rw [hcs];simp only [Instr.extract,e,Sem.run_pure]
     . have:=h2 i hi1
       rwa [hi2] at this
     exact hxl l af (by simp only [ao];exact bp hi1 (by rw [hi2];exact hl))
  exact hk.elim
 |call c=>
  rw [hop] at hk;have BI:∀(b:Builtin) (s:Sem Value),c.callee= .builtin b->(∀cs,builtin b c.argTypes o.type cs (c.args.map a.eval)=(do pure (.value (←s)):Sem Next))->iJ B N a (λx ts' m'=>ts'=ts/\k x m') (s.run P w)->o.wp P a w next Q:=by intro b s hc hb hr;refine V s ?_ hr;simp only [execOp,hop,resolve,hc,pure_bind,invoke,hb]
  have ha:∀l,c.args.toList=l->c.args.map a.eval=(l.map a.eval).toArray:=by intro l hl;apply Array.ext';simp [←hl]
  have hk:(match c.callee,c.args.toList with
   | .builtin .len,[x]=>match c.argTypes.toList with|t::_=>eo (aK P t) λti=>mY ti.kind m (Vc.ev ts x) λv=>k v m| []=>False
   | .builtin .max,[x,y]=>zy (Vc.ev ts x) (Vc.ev ts y) λv=>k v m
   | .builtin .min,[x,y]=>mW (Vc.ev ts x) (Vc.ev ts y) λv=>k v m
   | .builtin .min,[x,y,z]=>mW (Vc.ev ts x) (Vc.ev ts y) λu=>mW u (Vc.ev ts z) λv=>k v m
   | .builtin .append,[x,y]=>kJ P c.argTypes.toList (o.dst.getD 0) (Vc.ev ts x) (Vc.ev ts y) m k
   | .value (.func f),xs=>nY P f (o.dst.getD 0) (xs.map (Vc.ev ts)) m k
   | .value (.tmp t),xs=>ni P (look ts t) (o.dst.getD 0) (xs.map (Vc.ev ts)) m k
   |_,_=>False):=hk
  split at hk
  . rename_i x hc hx;split at hk
    . rename_i t r hty;obtain ⟨ti,ht,hk⟩:=bD hk;have hr:=RC (ty:=o.type) ht h (h.ev x) hk;refine BI _ (Builtin.len_ c.argTypes o.type (c.args.map a.eval)) hc (λ_=>rfl) ?_;have e0:c.argTypes=(t::r).toArray:=(by apply Array.ext';simpa using hty);have el:(Builtin.len_ c.argTypes o.type (c.args.map a.eval)).run P w=(Builtin.len_ #[t] o.type #[a.eval x]).run P w:=by
       rw [ha _ hx,e0];simp [Builtin.len_]
      rw [el];exact hr.mono λx ts m ⟨h1,h2,h3⟩=>⟨h1,by rw [h2];exact h3⟩
    exact hk.elim
  . rename_i x y hc hx;have h1:=h.ev x;have h2:=h.ev y;unfold zy at hk;split at hk
    . rename_i i p j q e1 e2;rw [e1] at h1;rw [e2] at h2;obtain ⟨g1,_⟩:=aR h1;obtain ⟨g2,_⟩:=aR h2;refine BI _ (Builtin.max_ c.argTypes o.type (c.args.map a.eval)) hc (λ_=>rfl) ⟨_,w,?_,h.ff rfl ⟨rfl,hk⟩⟩;rw [ha _ hx];simp [Builtin.max_,←g1,←g2,Builtin.max2]
    exact hk.elim
  . rename_i x y hc hx;have h1:=h.ev x;have h2:=h.ev y;unfold mW at hk;split at hk
    . rename_i i p j q e1 e2;rw [e1] at h1;rw [e2] at h2;obtain ⟨g1,_⟩:=aR h1;obtain ⟨g2,_⟩:=aR h2;refine BI _ (Builtin.min_ c.argTypes o.type (c.args.map a.eval)) hc (λ_=>rfl) ⟨_,w,?_,h.ff rfl ⟨rfl,hk⟩⟩;rw [ha _ hx];simp [Builtin.min_,←g1,←g2,Builtin.min2]
    exact hk.elim
  . rename_i x y z hc hx;have h1:=h.ev x;have h2:=h.ev y;have h3:=h.ev z;have hk:mW (Vc.ev ts x) (Vc.ev ts y) λu=>mW u (Vc.ev ts z) λv=>k v m:=hk;generalize e1:Vc.ev ts x=X at hk h1;generalize e2:Vc.ev ts y=Y at hk h2;generalize e3:Vc.ev ts z=Z at hk h3;cases X with
    |val X=>
     cases X with
     |int i p=>
      cases Y with
      |val Y=>
       cases Y with
       |int j q=>
        cases Z with
        |val Z=>
         cases Z with
         |int j2 r=>
          obtain ⟨g1,_⟩:=aR h1;obtain ⟨g2,_⟩:=aR h2;obtain ⟨g3,_⟩:=aR h3;refine BI _ (Builtin.min_ c.argTypes o.type (c.args.map a.eval)) hc (λ_=>rfl) ⟨_,w,?_,h.ff rfl ⟨rfl,hk⟩⟩;rw [ha _ hx];simp [Builtin.min_,←g1,←g2,←g3,Builtin.min2]
         |_=>exact hk.elim
        |_=>exact hk.elim
       |_=>exact hk.elim
      |_=>exact hk.elim
     |_=>exact hk.elim
    |_=>exact hk.elim
  . rename_i x y hc hx;unfold kJ at hk;split at hk
    . rename_i t t' Yy;obtain ⟨tt,htt,hk⟩:=bD hk;obtain ⟨hks,hk⟩:=nk hk;obtain ⟨tt',wb,hk⟩:=bD hk;obtain ⟨wc,hk⟩:=nk hk;obtain ⟨ti,ht,hk⟩:=bD hk;have et:c.argTypes= #[t,t']:=(by apply Array.ext';simpa using Yy);refine BI _ (Builtin.append_ c.argTypes o.type (c.args.map a.eval)) hc (λ_=>rfl) ?_;rw [ha _ hx,et];exact NB htt hks wb wc ht h (h.ev x) (h.ev y) (h.DK x) _ hk
    exact hk.elim
  . rename_i f hc
    obtain ⟨⟨fn,cd,hf,hnm,hbd⟩,Jd⟩:=xC (vs:=c.args.map a.eval) h (by simpa using CL h c.args.toList) (λi hi l af hl=>by rw [q7] at hl;exact h.DK _ l af hl) hk
    have hex:(execOp a.eval o).run P w= .ok (.enter f (c.args.map a.eval)) w:=by have VR:¬fn.name= "runtime.NumGoroutine" :=(by simpa using hnm);simp [execOp,hop,resolve,hc,Act.eval,Deferred.ofValue,invoke,callFunc,hf,VR,hbd]
    unfold Oper.wp;rw [hex,Oper.upon_enter];refine Jd.mono ?_;rintro e w' ⟨v,rfl,hg⟩;exact GV v w' hg
  . rename_i t hc;unfold ni at hk;split at hk
    . rename_i f ys hf0;have hx:=h.tm t;rw [hf0] at hx;obtain ⟨cs,hcs,hl,hy⟩:=Cy hx;have hap:pA (RV w S φ) (c.args.toList.map (Vc.ev ts)++ys) (c.args.map a.eval++cs).toList:=by
       have h1:=CL h c.args.toList;refine ⟨by simp [hl],λi hi=> ?_⟩;rw [Array.toList_append,Array.toList_map,List.getElem_append];split
       . rename_i hi1;have:=h1.2 i hi1;rw [q4] at this ⊢;rw [List.getElem?_append_left (by simpa using hi1)];exact this
       rename_i hi1;have hi2:i-(c.args.toList.map (Vc.ev ts)).length<ys.length:=(by rw [List.length_append] at hi;omega);have:=hy _ hi2;rw [q4] at this ⊢;rw [List.getElem?_append_right (by simpa using hi1)];simpa using this
      obtain ⟨⟨fn,cd,hf,hnm,hbd⟩,Jd⟩:=xC (vs:=c.args.map a.eval++cs) h hap (λi hi l af hl=>by
       rw [List.getElem_append] at hl;split at hl
       . rw [q7] at hl;exact h.DK _ l af hl
       exact h.tl t l af (by rw [hf0];simp only [ao];exact bp (by rw [List.length_append] at hi;omega) hl)) hk
      have hex:(execOp a.eval o).run P w= .ok (.enter f (c.args.map a.eval++cs)) w:=by have VR:¬fn.name= "runtime.NumGoroutine" :=(by simpa using hnm);have Yz:a.tmps.getD t uD= .func (.func f) #[] cs:=hcs;simp [execOp,hop,resolve,hc,Act.eval,Yz,Deferred.ofValue,invoke,callFunc,hf,VR,hbd]
      unfold Oper.wp;rw [hex,Oper.upon_enter];refine Jd.mono ?_;rintro e w' ⟨v,rfl,hg⟩;exact GV v w' hg
    exact hk.elim
  exact hk.elim
 |makeFunc fn first caps=>
  rw [hop] at hk;cases fn with
  |func f=>
   obtain ⟨h1,hk⟩:first.toList=[]/\k (.cn f (caps.toList.map (Vc.ev ts))) m:=hk
   have h1':first= #[]:=by apply Array.ext';simpa using h1
   subst h1';have hr:=CL h caps.toList;refine V (Instr.makeFunc (.func f) (Array.map a.eval #[]) (caps.map a.eval)) (by simp only [execOp,hop]) ⟨.func (.func f) #[] (caps.map a.eval),w,by simp [Instr.makeFunc],h.gives (x:=.cn f (caps.toList.map (Vc.ev ts))) ?_ (λl af hl=> ?_) ⟨rfl,hk⟩⟩
   . exact .cn f _ _ (by simp) (by simpa using hr.2)
   simp only [ao] at hl;obtain ⟨i,hi,hl2⟩:=bK hl;rw [q7] at hl2;exact h.DK _ l af hl2
  |_=>exact False.elim hk
 |_=>rw [hop] at hk;exact hk.elim
abbrev St:=Env->Mem->Prop
abbrev di:=Exit->Env->Mem->Prop
def gg (want:Bool) (y:AV) (a b:Prop):Prop:=match y with
 | .val (.bool c)=>(c=want->a)/\(c≠want->b)
 | .aX []=>b
 |_=>False
@[congr] theorem RE {w:Bool} {y y':AV} {a b:Prop} (h:y=y'):gg w y a b=gg w y' a b:=by rw [h]
theorem EL (w:Bool) (a b:Prop):gg w (.aX []) a b=b:=rfl
theorem NS (c:Bool) (a b:Prop):gg false (.val (.bool c)) a b=((c=false->a)/\(c=true->b)):=by simp [gg]
def jK (ops:List Oper) (j:Nat):Nat:=match (ops[j]?).bind (·.dst) with|some d=>d|none=>0
def mB (d:Option Nat) (x:AV) (ts:Env):Env:=match d with|some d=>(d,x)::ts|none=>ts
theorem Kz (d:Nat) (x:AV) (ts:Env):mB (some d) x ts=(d,x)::ts:=rfl
def sL (P:Program) (ops:List Oper):List Oper->Env->Mem->St->Prop
 | [],ts,m,k=>k ts m
 |o::r,ts,m,k=>match o.guard with
  |none=>iK P (o.dst.getD 0) o.op ts m λx m'=>sL P ops r (mB o.dst x ts) m' k
  |some (j,want)=>gg want (look ts (jK ops j)) (iK P (o.dst.getD 0) o.op ts m λx m'=>sL P ops r (mB o.dst x ts) m' k) (sL P ops r (mB o.dst (.aX []) ts) m k)
theorem Hg (o:Oper) (l:List Oper) (j:Nat):jK (o::l) (j+1)=jK l j:=rfl
theorem Hh (d:Nat) (op:Op) (ty:TypeId) (p:String) (e:Array Edge) (g:Option (Nat × Bool)) (l:List Oper):jK (⟨some d,op,ty,p,e,g⟩::l) 0=d:=rfl
def jL (N:Nat) (ops:List Oper):Bool:=ops.all λo=>match o.dst with|some d=>decide (d<N)|none=>true
theorem step_done {o:Oper} (hd:∀d,o.dst=some d->d<N) {k:AV->Mem->Prop} {v:Value} (hg:iw B N a (λx ts' m'=>ts'=ts/\k x m') v w) {K:St} (hK:∀x m',k x m'->K (mB o.dst x ts) m'):ic B N K (a.put o.dst v) w:=by
 cases VS:o.dst with
 |none=>
  refine hg.skip λx ts' m' ⟨h1,h2⟩=> ?_;have:=hK x m' h2;rw [VS] at this;rw [h1];exact this
 |some d=>
  refine hg.done (hd d VS) λx ts' m' ⟨h1,h2⟩=> ?_;have:=hK x m' h2;rw [VS] at this;rw [h1];exact this
theorem EM (h:RS B N φ fp S ts m a w) {ops:List Oper} {j:Nat} {c:Bool} (hl:look ts (jK ops j)= .val (.bool c)) (hj:∃d,((ops[j]?).bind (·.dst))=some d/\d<N):yielded ops.toArray a.tmps j=some c:=by
 obtain ⟨d,hd,hdN⟩:=hj;have h0:jK ops j=d:=by unfold jK;rw [hd]
 rw [h0] at hl;have ht:=h.tm d;rw [hl] at ht;obtain ⟨hv,_⟩:=aR ht;have hsz:d<a.tmps.size:=by rw [h.lq];exact hdN
 have e1:a.tmps[d]? =some (.bool c):=by rw [hv];simp [q0,q1 hsz]
 unfold yielded;simp only [List.getElem?_toArray,hd,Option.bind_some,e1]
theorem xE (h:RS B N φ fp S ts m a w) {ops:List Oper} {j:Nat} (hl:look ts (jK ops j)= .aX []) (hj:∃d,((ops[j]?).bind (·.dst))=some d/\d<N):yielded ops.toArray a.tmps j=none:=by
 obtain ⟨d,hd,hdN⟩:=hj;have h0:jK ops j=d:=by unfold jK;rw [hd]
 rw [h0] at hl;have ht:=h.tm d;rw [hl] at ht;have hsz:d<a.tmps.size:=by rw [h.lq];exact hdN
 have hv:a.tmps.getD d uD= .tuple #[]:=by
  generalize a.tmps.getD d uD=v at ht;cases ht with
  |rd _ _ h=>cases h with
   |aX _ cs hl _=>rw [Array.eq_empty_of_size_eq_zero hl]
  |aX _ cs hl _=>rw [Array.eq_empty_of_size_eq_zero hl]
 have e1:a.tmps[d]? =some (.tuple #[]):=by rw [←hv];simp [q0,q1 hsz]
 unfold yielded;simp only [List.getElem?_toArray,hd,Option.bind_some,e1]
def dj (N:Nat) (ops:List Oper):Bool:=ops.all λo=>match o.guard with
 |none=>true
 |some (j,_)=>match (ops[j]?).bind (·.dst) with|some d=>decide (d<N)|none=>false
theorem iQ {ops:List Oper} (hok:jL N ops=true) (hgs:dj N ops=true) {Q:Exit->Act->World->Prop} {K:St} (hQ:∀a w,ic B N K a w->Q .normal a w):
 ∀(l:List Oper) (i:Nat),ops.drop i=l->∀(φ:Nat->LS) (fp:Nat->lN) (S:nP) (ts:Env) (m:Mem) (a:Act) (w:World),RS B N φ fp S ts m a w->sL P ops l ts m K→
  wpOps P ops.toArray Q ((List.range (ops.length-i)).map (· +i)) a w
 | [],i,hl,φ,fp,S,ts,m,a,w,h,hk=>by
   have:ops.length-i=0:=by have:=congrArg List.length hl;simpa using this
   rw [this];exact hQ a w ⟨φ,fp,S,ts,m,h,hk⟩
 |o::r,i,hl,φ,fp,S,ts,m,a,w,h,hk=>by
  have hi:i<ops.length:=by have:=congrArg List.length hl;simp at this;omega
  have hoi:ops[i]? =some o:=by have:=congrArg (·[0]?) hl;simpa using this
  have hr:ops.drop (i+1)=r:=by have:=congrArg List.tail hl;simpa using this
  have e:(List.range (ops.length-i)).map (· +i)=i::(List.range (ops.length-(i+1))).map (· +(i+1)):=by rw [show ops.length-i=(ops.length-(i+1))+1 by omega,List.range_succ_eq_map];simp [List.map_map,Function.comp_def];intro q hq;omega
  rw [e];have hoo:ops.toArray[i]? =some o:=by simpa using hoi
  simp only [wpOps,hoo];have hdo:∀d,o.dst=some d->d<N:=by intro d hd;have:=List.all_eq_true.1 hok o (List.mem_of_getElem? hoi);rw [hd] at this;simpa using this
  have run:iK P (o.dst.getD 0) o.op ts m (λx m'=>sL P ops r (mB o.dst x ts) m' K)->o.wp P a w (wpOps P ops.toArray Q ((List.range (ops.length-(i+1))).map (· +(i+1)))) Q:=by intro hk;refine gb h hk λv w' hg=> ?_;obtain ⟨φ',fp',S',ts',m',h1,h2⟩:=step_done (o:=o) (K:=λts m=>sL P ops r ts m K) hdo hg (λx m' h=>h);exact iQ hok hgs hQ r (i+1) hr φ' fp' S' ts' m' _ w' h1 h2
  have skip:sL P ops r (mB o.dst (.aX []) ts) m K->wpOps P ops.toArray Q ((List.range (ops.length-(i+1))).map (· +(i+1))) (a.put o.dst uD) w:=by
   intro hk
   obtain ⟨φ',fp',S',ts',m',h1,h2⟩:=step_done (o:=o) (a:=a) (w:=w) (v:=uD) (K:=λts m=>sL P ops r ts m K) (k:=λx m'=>x= .aX []/\m'=m) hdo
    (h.gives (x:=.aX []) (.rd _ _ (.aX [] #[] rfl λi hi=>absurd hi (q16 _))) (λ_ _ hl=>by cases hl) ⟨rfl,rfl,rfl⟩) (λx m' ⟨h1,h2⟩=>by rw [h1,h2];exact hk)
   exact iQ hok hgs hQ r (i+1) hr φ' fp' S' ts' m' _ w h1 h2
  cases hg:o.guard with
  |none=>
   simp only [sL,hg] at hk;simp only [Region.wanted,hg,if_true];exact .inl (run hk)
  |some jw=>
   obtain ⟨j,want⟩:=jw;simp only [sL,hg] at hk;have hgo:=List.all_eq_true.1 hgs o (List.mem_of_getElem? hoi);rw [hg] at hgo;unfold gg at hk;split at hk
   . rename_i c hy;have hj:∃d,((ops[j]?).bind (·.dst))=some d/\d<N:=by
      simp only at hgo;split at hgo
      . rename_i d hd;exact ⟨d,hd,by simpa using hgo⟩
      cases hgo
     have hyy:=EM h hy hj;simp only [Region.wanted,hg,hyy];by_cases hc:c=want
     . subst hc;simp only [beq_self_eq_true,if_true];exact .inl (run (hk.1 rfl))
     have:(some c==some want)=false:=(by simpa using hc);simp only [this,Bool.false_eq_true,if_false];exact skip (hk.2 hc)
   . rename_i hy;have hj:∃d,((ops[j]?).bind (·.dst))=some d/\d<N:=by
      simp only at hgo;split at hgo
      . rename_i d hd;exact ⟨d,hd,by simpa using hgo⟩
      cases hgo
     have hyy:=xE h hy hj;simp only [Region.wanted,hg,hyy];have:((none:Option Bool)==some want)=false:=(by simp);simp only [this,Bool.false_eq_true,if_false];exact skip hk
   exact hk.elim
def Ok (P:Program) (N:Nat) (c:Code) (ts:Env) (m:Mem) (Q:di):Prop:=
 ∀(B:eC) (φ:Nat->LS) (fp:Nat->lN) (S:nP) (a:Act) (w:World),RS B N φ fp S ts m a w->c.wp P (λe a' w'=>ic B N (Q e) a' w') a w
structure aj (P:Program) (N:Nat) (c:Code) (ts:Env) (m:Mem) (Q:di) (_:Pack (c,Q)):Prop where
 ok:Ok P N c ts m Q
def zC (Q:di) (n:St):di
 | .normal=>n
 | .exit i=>Q (.exit i)
 | .ret=>Q .ret
 |e=>Q e
theorem Hi (Q:di) (n:St):zC Q n .normal=n:=rfl
theorem RF (Q:di) (n:St):zC Q n .ret=Q .ret:=rfl
theorem NT (Q:di) (n:St) (i:Nat):zC Q n (.exit i)=Q (.exit i):=rfl
def pC (Q:di) (id:Nat):di
 | .exit j=>if j=id then Q .normal else Q (.exit j)
 | .normal=>Q .normal
 | .ret=>Q .ret
 |e=>Q e
theorem Hj (Q:di) (i:Nat):pC Q i .normal=Q .normal:=rfl
theorem RG (Q:di) (i:Nat):pC Q i .ret=Q .ret:=rfl
theorem NU (Q:di) (i j:Nat):pC Q i (.exit j)=if j=i then Q .normal else Q (.exit j):=rfl
def vc (P:Program) (N:Nat):Code->Env->Mem->di->Prop
 | .skip,ts,m,Q=>Q .normal ts m
 | .region i ops false,ts,m,Q=>sL P ops.toList ops.toList ts m (Q .normal)
 | .region i ops true,ts,m,Q=>Ok P N (.region i ops true) ts m Q
 | .seq a b,ts,m,Q=>vc P N a ts m (zC Q λts' m'=>vc P N b ts' m' Q)
 | .cond c a b,ts,m,Q=>Ul (ev ts c) (vc P N a ts m Q) (vc P N b ts m Q)
 | .block id b,ts,m,Q=>vc P N b ts m (pC Q id)
 | .loop b,ts,m,Q=>Ok P N (.loop b) ts m Q
 | .exit id,ts,m,Q=>Q (.exit id) ts m
 | .ret,ts,m,Q=>Q .ret ts m
 |_,_,_,_=>False
theorem RH (N:Nat) (ts:Env) (m:Mem) (Q:di):vc P N .skip ts m Q=Q .normal ts m:=rfl
theorem KA (N i:Nat) (l:List Oper) (ts:Env) (m:Mem) (Q:di):vc P N (.region i ⟨l⟩ false) ts m Q=sL P l l ts m (Q .normal):=rfl
theorem RI (N i:Nat) (l:List Oper) (ts:Env) (m:Mem) (Q:di):vc P N (.region i ⟨l⟩ true) ts m Q=aj P N (.region i ⟨l⟩ true) ts m Q ⟨⟩:=propext ⟨λh=>⟨h⟩,λh=>h.ok⟩
theorem UU (N:Nat) (a b:Code) (ts:Env) (m:Mem) (Q:di):vc P N (.seq a b) ts m Q=vc P N a ts m (zC Q λts' m'=>vc P N b ts' m' Q):=rfl
theorem RJ (N:Nat) (c:Operand) (a b:Code) (ts:Env) (m:Mem) (Q:di):vc P N (.cond c a b) ts m Q=Ul (ev ts c) (vc P N a ts m Q) (vc P N b ts m Q):=rfl
theorem NV (N i:Nat) (b:Code) (ts:Env) (m:Mem) (Q:di):vc P N (.block i b) ts m Q=vc P N b ts m (pC Q i):=rfl
theorem RM (N:Nat) (b:Code) (ts:Env) (m:Mem) (Q:di):vc P N (.loop b) ts m Q=aj P N (.loop b) ts m Q ⟨⟩:=propext ⟨λh=>⟨h⟩,λh=>h.ok⟩
theorem RN (N i:Nat) (ts:Env) (m:Mem) (Q:di):vc P N (.exit i) ts m Q=Q (.exit i) ts m:=rfl
theorem UW (N:Nat) (ts:Env) (m:Mem) (Q:di):vc P N .ret ts m Q=Q .ret ts m:=rfl
def codeOk (N:Nat):Code->Bool
 | .region _ ops false=>jL N ops.toList&&dj N ops.toList
 | .seq a b=>codeOk N a&&codeOk N b
 | .cond _ a b=>codeOk N a&&codeOk N b
 | .block _ b=>codeOk N b
 |_=>true
theorem cB:∀(c:Code) (ts:Env) (m:Mem) (Q:di),codeOk N c=true->vc P N c ts m Q->Ok P N c ts m Q
 | .skip,ts,m,Q,_,h=>λB φ fp S a w hRS=>wp_skip ⟨φ,fp,S,ts,m,hRS,h⟩
 | .region i ops false,ts,m,Q,hok,h=>λB φ fp S a w hRS=>by
   simp only [codeOk,Bool.and_eq_true] at hok;refine wp_region ?_;have:=iQ (P:=P) (B:=B) (Q:=λe a' w'=>ic B N (Q e) a' w') hok.1 hok.2 (K:=Q .normal) (λa w h=>h) ops.toList 0 (by simp) φ fp S ts m a w hRS h;simpa using this
 | .region i ops true,ts,m,Q,_,h=>h
 | .seq a b,ts,m,Q,hok,h=>λB φ fp S ac w hRS=>by
   simp only [codeOk,Bool.and_eq_true] at hok;refine wp_seq (wp_mono (cB a ts m _ hok.1 h B φ fp S ac w hRS) λe a' w' hq=> ?_);obtain ⟨φ',fp',S',ts',m',h1,h2⟩:=hq;cases e with
   |normal=>exact cB b ts' m' Q hok.2 h2 B φ' fp' S' a' w' h1
   |_=>exact ⟨φ',fp',S',ts',m',h1,h2⟩
 | .cond c x y,ts,m,Q,hok,h=>λB φ fp S ac w hRS=>by
   simp only [codeOk,Bool.and_eq_true] at hok;have h:Ul (ev ts c) (vc P N x ts m Q) (vc P N y ts m Q):=h;have hc:=hRS.ev c;unfold Ul at h;split at h
   . rename_i b hv;rw [hv] at hc;obtain ⟨hb,_⟩:=aR hc;refine wp_cond_split hb.symm (λht=>cB x ts m Q hok.1 (h.1 ht) B φ fp S ac w hRS) (λhf=>cB y ts m Q hok.2 (h.2 hf) B φ fp S ac w hRS)
   exact h.elim
 | .block id b,ts,m,Q,hok,h=>λB φ fp S ac w hRS=>by
   refine wp_block (wp_mono (cB b ts m _ hok h B φ fp S ac w hRS) λe a' w' hq=> ?_);obtain ⟨φ',fp',S',ts',m',h1,h2⟩:=hq;cases e with
   |exit j=>
    simp only [pC] at h2;simp only [Exit.inBlock];split
    . rename_i hj;rw [if_pos hj] at h2;exact ⟨φ',fp',S',ts',m',h1,h2⟩
    rename_i hj;rw [if_neg hj] at h2;exact ⟨φ',fp',S',ts',m',h1,h2⟩
   |_=>exact ⟨φ',fp',S',ts',m',h1,h2⟩
 | .loop b,ts,m,Q,_,h=>h
 | .exit id,ts,m,Q,_,h=>λB φ fp S a w hRS=>wp_exit ⟨φ,fp,S,ts,m,hRS,h⟩
 | .ret,ts,m,Q,_,h=>λB φ fp S a w hRS=>wp_ret ⟨φ,fp,S,ts,m,hRS,h⟩
 | .rangeFunc ..,_,_,_,_,h=>h.elim
 | .scope ..,_,_,_,_,h=>h.elim
 | .label ..,_,_,_,_,h=>h.elim
 | .goto ..,_,_,_,_,h=>h.elim
 | .refuse ..,_,_,_,_,h=>h.elim
end
def jc (b:Option bc) (v:Nat):Prop:=match b with|some (.gone _)=>False|some k=>k.af=v|none=>False
theorem KB (u v:Nat) (sh:Sh) (d:Bool) (xs:lA):jc (some (.row u sh d xs)) v=(u=v):=rfl
theorem KD (u v:Nat) (xs:lA):jc (some (.box u xs)) v=(u=v):=rfl
def Bb (b:Option bc):Prop:=match b with|none=>True|some (.gone _)=>True|_=>False
theorem Hk:Bb none=True:=rfl
def NW (b b2:Option bc) (l af i n:Nat) (sh:Sh) (ys:lA):Prop:=match b,b2 with
 |some (.row v sh' _ xs),none=>v=af/\sh'=sh/\i+n<=xs.length/\(xs.drop i).take n=ys/\l<bC
 |_,_=>False
def jM (m m2:Mem):AV->AV->Prop
 |_,.undef=>True
 | .val u,.val v=>u=v
 | .e0,.e0=>True
 | .arr sh xs,.arr sh' ys=>sh=sh'/\xs=ys
 | .ref l af i n,.arr sh ys=>NW (ah m l) (ah m2 l) l af i n sh ys
 | .e0,.arr _ ys=>ys=[]
 | .val (.slice none 0 0),.arr _ ys=>ys=[]
 | .ref l af i n,.ref l' ver' i' n'=>(l=l'/\i=i'/\n=n')/\jc (ah m l) af/\jc (ah m2 l) ver'
 | .e0,.ref l' ver' i' n'=>(i'=0/\n'=0)/\Bb (ah m l')/\jc (ah m2 l') ver'
 | .val (.slice none 0 0),.ref l' ver' i' n'=>(i'=0/\n'=0)/\Bb (ah m l')/\jc (ah m2 l') ver'
 | .ptr l af i j,.ptr l' ver' i' j'=>(l=l'/\i=i'/\j=j')/\jc (ah m l) af/\jc (ah m2 l) ver'
 | .bo sh xs i j,.bo sh' ys i' j'=>sh=sh'/\xs=ys/\i=i'/\j=j'
 |_,_=>False
section
variable (m m2:Mem)
theorem NX (u v:Value):jM m m2 (.val u) (.val v)=(u=v):=by cases u<;>rfl
theorem NY (sh:Sh) (xs ys:lA):jM m m2 (.arr sh xs) (.arr sh ys)=(xs=ys):=by simp [jM]
theorem NZ (l af i n ver' i' n':Nat):jM m m2 (.ref l af i n) (.ref l ver' i' n')=((i=i'/\n=n')/\jc (ah m l) af/\jc (ah m2 l) ver'):=by simp [jM]
theorem EN (l' ver' i' n':Nat):jM m m2 (.val (.slice none 0 0)) (.ref l' ver' i' n')=((i'=0/\n'=0)/\Bb (ah m l')/\jc (ah m2 l') ver'):=rfl
theorem N0 (l af i j ver' i' j':Nat):jM m m2 (.ptr l af i j) (.ptr l ver' i' j')=((i=i'/\j=j')/\jc (ah m l) af/\jc (ah m2 l) ver'):=by simp [jM]
def xF (m m2:Mem):lA->lA->Prop
 | [],[]=>True
 |x::xs,y::ys=>(jM m m2 x y/\leaf y)/\xF m m2 xs ys
 |_,_=>False
theorem N1 (m m2:Mem):xF m m2 [] []=True:=rfl
theorem KE (m m2:Mem) (x y:AV) (xs ys:lA):xF m m2 (x::xs) (y::ys)=((jM m m2 x y/\leaf y)/\xF m m2 xs ys):=rfl
def r9 (m m2:Mem):AV->AV->Prop
 | .cn f xs,.cn g ys=>f=g/\xF m m2 xs ys
 |x,y=>jM m m2 x y
theorem KF (m m2:Mem) (f g:FuncId) (xs ys:lA):r9 m m2 (.cn f xs) (.cn g ys)=(f=g/\xF m m2 xs ys):=rfl
theorem KG (m m2:Mem) (x:AV) (v:Value):r9 m m2 x (.val v)=jM m m2 x (.val v):=by cases x<;>rfl
theorem KH (m m2:Mem) (x:AV) (sh:Sh) (ys:lA):r9 m m2 x (.arr sh ys)=jM m m2 x (.arr sh ys):=by cases x<;>rfl
theorem KI (m m2:Mem) (x:AV) (l v i n:Nat):r9 m m2 x (.ref l v i n)=jM m m2 x (.ref l v i n):=by cases x<;>rfl
theorem KJ (m m2:Mem) (x:AV) (l v i n:Nat):r9 m m2 x (.ptr l v i n)=jM m m2 x (.ptr l v i n):=by cases x<;>rfl
def EO (m m2:Mem):lA->lA->Prop
 | [],[]=>True
 |x::xs,y::ys=>(r9 m m2 x y/\leaf y)/\EO m m2 xs ys
 |_,_=>False
theorem N2 (m m2:Mem):EO m m2 [] []=True:=rfl
theorem KK (m m2:Mem) (x y:AV) (xs ys:lA):EO m m2 (x::xs) (y::ys)=((r9 m m2 x y/\leaf y)/\EO m m2 xs ys):=rfl
theorem N3 (v:Value):leaf (.val v)=True:=rfl
theorem N4 (sh:Sh) (xs:lA):leaf (.arr sh xs)=True:=rfl
theorem N5 (l v i n:Nat):leaf (.ref l v i n)=True:=rfl
theorem N6 (f:FuncId) (xs:lA):leaf (.cn f xs)=True:=rfl
theorem N7 (l v i n:Nat):leaf (.ptr l v i n)=True:=rfl
def vT (m m2:Mem):AV->AV->Prop
 | .agg xs,.agg ys=>EO m m2 xs ys
 | .cn f xs,.cn g ys=>f=g/\xF m m2 xs ys
 |x,y=>jM m m2 x y
theorem N8 (m m2:Mem) (f g:FuncId) (xs ys:lA):vT m m2 (.cn f xs) (.cn g ys)=(f=g/\xF m m2 xs ys):=rfl
theorem xG (m m2:Mem) (x:AV):vT m m2 x .undef=True:=by cases x<;>rfl
theorem N9 (m m2:Mem) (x:AV) (v:Value):vT m m2 x (.val v)=jM m m2 x (.val v):=by cases x<;>rfl
theorem N_ (m m2:Mem) (x:AV) (sh:Sh) (ys:lA):vT m m2 x (.arr sh ys)=jM m m2 x (.arr sh ys):=by cases x<;>rfl
theorem Oa (m m2:Mem) (x:AV) (l v i n:Nat):vT m m2 x (.ref l v i n)=jM m m2 x (.ref l v i n):=by cases x<;>rfl
theorem Ob (m m2:Mem) (x:AV) (l v i n:Nat):vT m m2 x (.ptr l v i n)=jM m m2 x (.ptr l v i n):=by cases x<;>rfl
def Hl (ts:Env) (m m2:Mem):Env->Prop
 | []=>True
 |(t,v)::r=>vT m m2 (look ts t) v/\Hl ts m m2 r
theorem Oc (ts:Env) (m m2:Mem):Hl ts m m2 []=True:=rfl
theorem KL (ts:Env) (m m2:Mem) (t:Nat) (v:AV) (r:Env):Hl ts m m2 ((t,v)::r)=(vT m m2 (look ts t) v/\Hl ts m m2 r):=rfl
def xH (m m2:Mem) (b:Option bc) (b2:bc):Prop:=match b,b2 with
 |some (.row _ sh d xs),.row _ sh2 d2 xs2=>sh=sh2/\d=d2/\xs=xs2
 |some (.box _ xs),.box _ ys=>EO m m2 xs ys
 |none,.row _ _ _ xs=>xs=[]
 |some (.gone _),.row _ _ _ xs=>xs=[]
 |_,_=>False
theorem Od (v v2:Nat) (sh:Sh) (d:Bool) (xs xs2:lA):xH m m2 (some (.row v sh d xs)) (.row v2 sh d xs2)=(xs=xs2):=by simp [xH]
theorem Oe (v v2:Nat) (xs xs2:lA):xH m m2 (some (.box v xs)) (.box v2 xs2)=EO m m2 xs xs2:=rfl
theorem KM (v2:Nat) (sh:Sh) (d:Bool) (xs2:lA):xH m m2 none (.row v2 sh d xs2)=(xs2=[]):=rfl
end
def Hm (m m2:Mem):Mem->Prop
 | []=>True
 |(l,b)::r=>xH m m2 (ah m l) b/\Hm m m2 r
theorem Of (m m2:Mem):Hm m m2 []=True:=rfl
theorem KO (m m2:Mem) (l:Nat) (b:bc) (r:Mem):Hm m m2 ((l,b)::r)=(xH m m2 (ah m l) b/\Hm m m2 r):=rfl
def r_ (b b2:Option bc):Prop:=match b,b2 with
 |some (.row v _ _ _),some (.row v2 _ _ _)=>v=v2
 |some (.box v _),some (.box v2 _)=>v=v2
 |_,_=>False
theorem Hn (v v2:Nat) (sh sh2:Sh) (d d2:Bool) (xs xs2:lA):r_ (some (.row v sh d xs)) (some (.row v2 sh2 d2 xs2))=(v=v2):=rfl
theorem Ho (v v2:Nat) (xs xs2:lA):r_ (some (.box v xs)) (some (.box v2 xs2))=(v=v2):=rfl
def CM (l:Nat) (b b2:Option bc):Prop:=l<bC\/r_ b b2
theorem KP (l:Nat) (b b2:Option bc):CM l b b2=(l<1000000000\/r_ b b2):=rfl
def Hp (m m2:Mem):Mem->Prop
 | []=>True
 |(l,_)::r=>CM l (ah m l) (ah m2 l)/\Hp m m2 r
theorem Og (m m2:Mem):Hp m m2 []=True:=rfl
theorem KQ (m m2:Mem) (l:Nat) (b:bc) (r:Mem):Hp m m2 ((l,b)::r)=(CM l (ah m l) (ah m2 l)/\Hp m m2 r):=rfl
theorem EP {m m2:Mem}:∀{r:Mem},Hp m m2 r->∀{l:Nat} {b:bc},ah r l=some b->CM l (ah m l) (ah m2 l)
 | [],_,l,b,hb=>by rw [s_] at hb;cases hb
 |(l0,b0)::r,h,l,b,hb=>by
  rw [aw] at hb;split at hb
  . rename_i e;subst e;exact h.1
  exact EP h.2 hb
def sa (ts:Env) (m:Mem) (ts2:Env) (m2:Mem):Prop:=Hl ts m m2 ts2/\Hm m m2 m2/\Hp m m2 m
theorem RO (ts:Env) (m:Mem) (ts2:Env) (m2:Mem):sa ts m ts2 m2=(Hl ts m m2 ts2/\Hm m m2 m2/\Hp m m2 m):=rfl
section
variable {P:Program} {B:eC} {N:Nat} {φ:Nat->LS} {fp:Nat->lN} {S:nP} {ts:Env} {m:Mem} {a:Act} {w:World}
theorem xI {m m2:Mem}:∀{r:Mem},Hm m m2 r->∀{l:Nat} {b:bc},ah r l=some b->xH m m2 (ah m l) b
 | [],_,l,b,h=>by cases h
 |(l0,b0)::r,h,l,b,hb=>by
  rw [aw] at hb;split at hb
  . rename_i e;subst e;cases hb;exact h.1
  exact xI h.2 hb
theorem xJ {ts:Env} {m m2:Mem}:∀{r:Env},Hl ts m m2 r->∀t,vT m m2 (look ts t) (look r t)
 | [],_,t=>by rw [look_nil,xG];trivial
 |(t0,v)::r,h,t=>by
  rw [cM];split
  . rename_i e;subst e;exact h.1
  exact xJ h.2 t
def gL (φ:Nat->LS) (m2:Mem):Nat->LS:=λl=>match ah m2 l with
 |none=>.dead
 |some k=>match φ l with
  | .at b sh _=>.at b sh k.af
  |_=>.nil k.af
def xK (fp:Nat->lN) (m2:Mem):Nat->lN:=λl=>match ah m2 l with|none=>[]|some _=>fp l
def vU (S:nP) (fp:Nat->lN) (m2:Mem):Nat->Prop:=λb=>S b\/∃l,ah m2 l=none/\l<bC/\b∈fp l
theorem kL {m2:Mem} {l v:Nat} (h:jc (ah m2 l) v):known m2 l v:=by
 unfold jc at h;split at h
 . exact h.elim
 . rename_i k hn hk;exact ⟨k,hk,Nat.le_of_eq h.symm⟩
 exact h.elim
theorem xL (h:RS B N φ fp S ts m a w) {m2:Mem} {x y:AV} {v:Value} (hx:RV w S φ x v) (hr:jM m m2 x y):
 RV w (vU S fp m2) (gL φ m2) y v/\∀l af,(l,af)∈ao y->known m2 l af:=by
 have hS:∀b,S b->vU S fp m2 b:=λb hb=>.inl hb;have nolab:∀{y:AV} {v:Value},Rd w S y v->RV w (vU S fp m2) (gL φ m2) y v/\∀l af,(l,af)∈ao y->known m2 l af:=by intro y v hy;exact ⟨.rd _ _ (hy.mono (λ_ _=>rfl) hS),λl af hl=>by rw [fU hy] at hl;cases hl⟩
 have nilref:∀{v:Value} {l' ver' i' n':Nat},(∃ad,v= .slice ad 0 0)->(i'=0/\n'=0)/\Bb (ah m l')/\jc (ah m2 l') ver'→
  RV w (vU S fp m2) (gL φ m2) (.ref l' ver' i' n') v/\∀l af,(l,af)∈ao (.ref l' ver' i' n')->known m2 l af:=by
  rintro v l' ver' i' n' ⟨ad,rfl⟩ ⟨⟨rfl,rfl⟩,hnb,hv⟩;refine ⟨.ref _ _ _ _ _ (λb sh hb=> ?_) (λ_=>⟨rfl,ad,rfl⟩) rfl,λl af hl=> ?_⟩
  . have hd:φ l'= .dead:=by
     unfold Bb at hnb;split at hnb
     . rename_i hk;exact (h.b_ l' hk).1
     . rename_i v hk;exact (h.aG l' _ hk).1
     exact hnb.elim
    unfold gL at hb;split at hb
    . cases hb
    rw [hd] at hb;cases hb
  simp only [ao,q10,Prod.mk.injEq] at hl;obtain ⟨rfl,rfl⟩:=hl;exact kL hv
 unfold jM at hr;split at hr
 . exact ⟨.rd _ _ (.undef _),λ_ _ hl=>by cases hl⟩
 . subst hr;obtain ⟨rfl,h1⟩:=aR hx;exact nolab (.val _ h1)
 . obtain ⟨ad,rfl⟩:=rK hx;exact nolab (.e0 _)
 . obtain ⟨rfl,rfl⟩:=hr;exact nolab (l9 hx)
 . rename_i l af i n sh ys;unfold NW at hr;split at hr
   . rename_i v' sh' d xs hlk km;obtain ⟨rfl,rfl,hin,rfl,hio⟩:=hr;refine ⟨.rd _ _ ?_,λ_ _ hl=>by cases hl⟩;have hlen:((xs.drop i).take n).length=n:=(by simp;omega);have hrr:=dq hx;rcases h.aG l _ hlk with ⟨h1,h2,h3⟩|⟨b,cap,hφ,hbm,hdp,a_⟩
     . obtain ⟨rfl,ad,rfl⟩:=hrr.2 h1;rw [List.take_zero];exact .nil _ _
     obtain ⟨ad,cp,rfl,hnc,hcp⟩:=hrr.1 b sh' hφ;obtain ⟨cs,e,fss,hgf,aD,hcs,b9,hmx,hff,hfl,hvv⟩:=gG a_ hbm;by_cases hc0:cp=0
     . have:n=0:=(by omega);subst this;subst hc0;rw [List.take_zero];exact .nil _ _
     obtain ⟨rfl,cs',e',g1,g2⟩:=hcp.resolve_left hc0;obtain rfl:=dh (aD.symm.trans g1);have ca:i*sh'.sz+n*sh'.sz<=cs.size:=by rw [g2,←Nat.add_mul];exact Nat.mul_le_mul_right _ (by omega)
     have M_:∀c,c∈fp l->vU S fp m2 c:=λc hc=>.inr ⟨l,km,hio,hc⟩
     have:=Rd.arr (w:=w) (S:=vU S fp m2) sh' ((xs.drop i).take n) b (i*sh'.sz) cp cs e.1 (oh e cs.size) (M_ b hbm) aD (by rw [hlen];exact hnc) (by rw [hlen];exact ca)
      (λq hq=>by rw [hlen] at hq;simp only [q9,q6];exact hff _ (by omega))
      (λq hq=>by
        rw [hlen] at hq;simp only [q9,q6]
        have:=(hvv (i+q) (by omega)).mi (S':=vU S fp m2) (λc hc=>by
         cases d with
         |true=>exact hc.elim
         |false=>exact hS c hc) (λc hc=>M_ c (by rw [hgf];exact List.mem_cons_of_mem _ (aJ (by omega) hc)))
        rwa [Nat.add_mul] at this)
     rw [hlen] at this;exact this
   exact hr.elim
 . obtain ⟨ad,rfl⟩:=rK hx;subst hr;exact nolab (.nil _ _)
 . obtain ⟨rfl,_⟩:=aR hx;subst hr;exact nolab (.nil _ _)
 . rename_i l af i n l' ver' i' n';obtain ⟨⟨rfl,rfl,rfl⟩,hv1,hv2⟩:=hr;have hrr:=dq hx;have hU:∀l' v',(l',v')∈ao (.ref l ver' i n)->known m2 l' v':=by
    intro l' v' hl;simp only [ao,q10,Prod.mk.injEq] at hl;obtain ⟨rfl,rfl⟩:=hl;exact kL hv2
   have lz:v.oneCell'=true:=hx.aT trivial;refine ⟨.ref _ _ _ _ _ (λb sh hb=> ?_) (λhb=> ?_) lz,hU⟩
   . unfold gL at hb;split at hb
     . cases hb
     rename_i k hk;split at hb
     . rename_i b' sh' v' hφ;cases hb;obtain ⟨k0,hk0,QF⟩:=h.rG hφ;have hvv:v'=af:=by
        rw [hk0] at hv1;cases k0<;>first|exact hv1.elim|exact QF.symm.trans hv1
       subst hvv;exact hrr.1 _ _ hφ
     cases hb
   unfold gL at hb;split at hb
   . cases hb
   rename_i k hk;split at hb
   . cases hb
   rename_i hne;unfold jc at hv1;split at hv1
   . exact hv1.elim
   . rename_i k0 hng hk0;have hb0:=h.aG l k0 hk0;cases k0 with
     |gone=>exact absurd rfl (hng _)
     |row v0 sh d xs=>
      rcases hb0 with ⟨h1,_⟩|⟨b,cap,hφ,_⟩
      . have hv1:v0=af:=hv1;subst hv1;exact hrr.2 h1
      exact absurd hφ (hne _ _ _)
     |box v0 xs=>obtain ⟨b,cs,e,sh,hφ,_⟩:=hb0;exact absurd hφ (hne _ _ _)
     |kb v0 xs i0 u0=>obtain ⟨b,cap,cs,e,fr,hφ,_⟩:=hb0;exact absurd hφ (hne _ _ _)
     |sub v0 sh xs u0=>obtain ⟨b,cap,hφ,_⟩:=hb0;exact absurd hφ (hne _ _ _)
   exact hv1.elim
 . exact nilref (rK hx) hr
 . obtain ⟨rfl,_⟩:=aR hx;exact nilref ⟨_,rfl⟩ hr
 . rename_i l af i j l' ver' i' j';obtain ⟨⟨rfl,rfl,rfl⟩,hv1,hv2⟩:=hr;have hrr:=jZ hx;have hr2:=wg hx;refine ⟨.ptr _ _ _ _ _ (λb sh hb=> ?_) (λhb=> ?_) hr2.2,λl' v' hl=> ?_⟩
   . unfold gL at hb;split at hb
     . cases hb
     split at hb
     . rename_i b' sh' v' hφ;cases hb;obtain ⟨k0,hk0,QF⟩:=h.rG hφ;have hvv:v'=af:=by
        rw [hk0] at hv1;cases k0<;>first|exact hv1.elim|exact QF.symm.trans hv1
       subst hvv;exact hrr _ _ hφ
     cases hb
   . unfold gL at hb;split at hb
     . cases hb
     split at hb
     . cases hb
     rename_i hne;unfold jc at hv1;split at hv1
     . exact hv1.elim
     . rename_i k0 hng hk0;have hb0:=h.aG l k0 hk0;cases k0 with
       |gone=>exact absurd rfl (hng _)
       |row v0 sh d xs=>
        rcases hb0 with ⟨h1,_⟩|⟨b,cap,hφ,_⟩
        . have hv1:v0=af:=hv1;subst hv1;exact hr2.1 h1
        exact absurd hφ (hne _ _ _)
       |box v0 xs=>obtain ⟨b,cs,e,sh,hφ,_⟩:=hb0;exact absurd hφ (hne _ _ _)
       |kb v0 xs i0 u0=>obtain ⟨b,cap,cs,e,fr,hφ,_⟩:=hb0;exact absurd hφ (hne _ _ _)
       |sub v0 sh xs u0=>obtain ⟨b,cap,hφ,_⟩:=hb0;exact absurd hφ (hne _ _ _)
     exact hv1.elim
   simp only [ao,q10,Prod.mk.injEq] at hl;obtain ⟨rfl,rfl⟩:=hl;exact kL hv2
 . obtain ⟨rfl,rfl,rfl,rfl⟩:=hr;exact nolab (pt hx)
 exact hr.elim
theorem qK {l:lV} {n i:Nat} (h:i<n):(l.take n).getD i uD=l.getD i uD:=by simp [q4,h]
theorem xM (h:RS B N φ fp S ts m a w) {m2:Mem}:∀(xs ys:lA) (vs:lV),xF m m2 xs ys->vs.length=xs.length->(∀i (hi:i<xs.length),RV w S φ xs[i] (vs.getD i uD))→
 ys.length=xs.length/\(∀i (hi:i<ys.length),leaf ys[i])/\(∀i (hi:i<ys.length),RV w (vU S fp m2) (gL φ m2) ys[i] (vs.getD i uD))/\∀l af,(l,af)∈aq ys->known m2 l af
 | [],[],vs,_,_,_=>⟨rfl,λi hi=>absurd hi (q16 _),λi hi=>absurd hi (q16 _),λ_ _ hl=>by cases hl⟩
 |x::xs,y::ys,vs,hr,hv,hx=>by
  cases vs with
  |nil=>simp at hv
  |cons v vs=>
   obtain ⟨⟨h1,h2⟩,h3⟩:=hr;obtain ⟨g1,g2⟩:=xL h (hx 0 (by simp)) h1;obtain ⟨q1,q2,q3,q4⟩:=xM h xs ys vs h3 (by simpa using hv) (λi hi=>by have:=hx (i+1) (by simpa using hi);exact this);refine ⟨by simp [q1],λi hi=> ?_,λi hi=> ?_,λl af hl=> ?_⟩
   . cases i with
     |zero=>exact h2
     |succ i=>exact q2 i (by simpa using hi)
   . cases i with
     |zero=>exact g1
     |succ i=>exact q3 i (by simpa using hi)
   simp only [aq,List.mem_append] at hl;rcases hl with hl|hl
   . exact g2 l af hl
   exact q4 l af hl
 | [],_::_,_,hr,_,_=>hr.elim
 |_::_,[],_,hr,_,_=>hr.elim
theorem KR (h:RS B N φ fp S ts m a w) {m2:Mem} {x y:AV} {v:Value} (hx:RV w S φ x v) (hr:r9 m m2 x y):
 RV w (vU S fp m2) (gL φ m2) y v/\∀l af,(l,af)∈ao y->known m2 l af:=by
 unfold r9 at hr;split at hr
 . rename_i f xs g ys;obtain ⟨rfl,hr⟩:=hr;obtain ⟨cs,rfl,h1,h3⟩:=Cy hx;obtain ⟨q1,q2,q3,q4⟩:=xM h xs ys cs.toList hr (by simpa using h1) h3;exact ⟨.cn _ _ _ (by omega) q3,λl af hl=>q4 l af (by simpa [ao] using hl)⟩
 exact xL h hx hr
theorem sb (h:RS B N φ fp S ts m a w) {m2:Mem}:∀(xs ys:lA) (vs:lV),EO m m2 xs ys->vs.length=xs.length->(∀i (hi:i<xs.length),RV w S φ xs[i] (vs.getD i uD))→
 ys.length=xs.length/\(∀i (hi:i<ys.length),leaf ys[i])/\(∀i (hi:i<ys.length),RV w (vU S fp m2) (gL φ m2) ys[i] (vs.getD i uD))/\∀l af,(l,af)∈aq ys->known m2 l af
 | [],[],vs,_,_,_=>⟨rfl,λi hi=>absurd hi (q16 _),λi hi=>absurd hi (q16 _),λ_ _ hl=>by cases hl⟩
 |x::xs,y::ys,vs,hr,hv,hx=>by
  cases vs with
  |nil=>simp at hv
  |cons v vs=>
   obtain ⟨⟨h1,h2⟩,h3⟩:=hr;obtain ⟨g1,g2⟩:=KR h (hx 0 (by simp)) h1;obtain ⟨q1,q2,q3,q4⟩:=sb h xs ys vs h3 (by simpa using hv) (λi hi=>by have:=hx (i+1) (by simpa using hi);exact this);refine ⟨by simp [q1],λi hi=> ?_,λi hi=> ?_,λl af hl=> ?_⟩
   . cases i with
     |zero=>exact h2
     |succ i=>exact q2 i (by simpa using hi)
   . cases i with
     |zero=>exact g1
     |succ i=>exact q3 i (by simpa using hi)
   simp only [aq,List.mem_append] at hl;rcases hl with hl|hl
   . exact g2 l af hl
   exact q4 l af hl
 | [],_::_,_,hr,_,_=>hr.elim
 |_::_,[],_,hr,_,_=>hr.elim
theorem ER (h:RS B N φ fp S ts m a w) {m2:Mem} {x y:AV} {v:Value} (hx:RV w S φ x v) (hr:vT m m2 x y):
 RV w (vU S fp m2) (gL φ m2) y v/\∀l af,(l,af)∈ao y->known m2 l af:=by
 unfold vT at hr;split at hr
 . rename_i xs ys;obtain ⟨cs,rfl,h1,h2,h3⟩:=na hx;obtain ⟨q1,q2,q3,q4⟩:=sb h xs ys cs.toList hr (by simpa using h1) h3;exact ⟨.agg _ _ (by omega) q2 q3,λl af hl=>q4 l af (by simpa [ao] using hl)⟩
 . rename_i f xs g ys;obtain ⟨rfl,hr⟩:=hr;obtain ⟨cs,rfl,h1,h3⟩:=Cy hx;obtain ⟨q1,q2,q3,q4⟩:=xM h xs ys cs.toList hr (by simpa using h1) h3;exact ⟨.cn _ _ _ (by omega) q3,λl af hl=>q4 l af (by simpa [ao] using hl)⟩
 exact xL h hx hr
theorem RS.refine (h:RS B N φ fp S ts m a w) {ts2:Env} {m2:Mem} (hr:sa ts m ts2 m2):RS B N (gL φ m2) (xK fp m2) (vU S fp m2) ts2 m2 a w:=by
 obtain ⟨hE,hM,hK⟩:=hr;have keeps:∀l af,bC<=l->known m l af->∃k k2,ah m l=some k/\ah m2 l=some k2/\k.af=k2.af/\af<=k.af/\∀v,k≠ .gone v:=by
  rintro l af hl ⟨k,hk,hv⟩;rcases EP hK hk with hh|hh
  . exact absurd hh (Nat.not_lt.2 hl)
  rw [hk] at hh;unfold r_ at hh;split at hh
  . rename_i h1 h2;cases h1;exact ⟨_,_,hk,h2,hh,hv,λ_ e=>by cases e⟩
  . rename_i h1 h2;cases h1;exact ⟨_,_,hk,h2,hh,hv,λ_ e=>by cases e⟩
  exact hh.elim
 have UN:∀l b,b∈xK fp m2 l->b∈fp l/\∃k,ah m2 l=some k:=by
  intro l b hb;unfold xK at hb;split at hb
  . cases hb
  rename_i k hk;exact ⟨hb,k,hk⟩
 refine ⟨λt=>(ER h (h.tm t) (xJ hE t)).1,λt=>(ER h (h.tm t) (xJ hE t)).2,?_,?_,?_,?_,?_,?_,?_,?_,h.base,h.out,h.kq,?_,?_,h.size,h.defers,h.lq,h.jv.mono (λ_ _=>rfl) λb hb=>.inl hb⟩
 . intro l hl;simp [gL,xK,hl]
 . intro l k hk;have hb:=xI hM hk;have hfp:xK fp m2 l=fp l:=(by simp [xK,hk]);have QN:(ah m l=none\/∃v,ah m l=some (.gone v))->φ l= .dead/\fp l=[]:=by
    rintro (hl|⟨v,hl⟩)
    . exact h.b_ l hl
    exact h.aG l _ hl
   rw [hfp];unfold xH at hb;split at hb
   . rename_i v sh d xs v2 sh2 d2 xs2 hlk;obtain ⟨rfl,rfl,rfl⟩:=hb;rcases h.aG l _ hlk with ⟨h1,h2,h3⟩|⟨b,cap,hφ,hbm,hdp,a_⟩
     . exact .inl ⟨by simp [gL,hk,h1,bc.af],h2,h3⟩
     refine .inr ⟨b,cap,by simp [gL,hk,hφ,bc.af],hbm,hdp,?_⟩;cases d with
     |true=>exact a_
     |false=>exact a_.mono (λ_ _=>rfl) (λ_ h=>.inl h) (λ_ _=>rfl)
   . rename_i v xs v2 ys hlk;obtain ⟨b,cs,e,sh,hφ,hfs,aD,hsz,hlf,hrv⟩:=h.aG l _ hlk;obtain ⟨q1,q2,q3,q4⟩:=sb h xs ys (cs.toList.take xs.length) hb (by simp;omega) (λi hi=>by rw [qK hi];exact hrv i hi);exact ⟨b,cs,e,sh,by simp [gL,hk,hφ,bc.af],hfs,aD,by omega,q2,λi hi=>by have:=q3 i hi;rwa [qK (by omega)] at this⟩
   . rename_i v2 sh2 d2 xs2 hlk;obtain ⟨h1,h2⟩:=QN (.inl hlk);exact .inl ⟨by simp [gL,hk,h1,bc.af],hb,h2⟩
   . rename_i v v2 sh2 d2 xs2 hlk;obtain ⟨h1,h2⟩:=QN (.inr ⟨v,hlk⟩);exact .inl ⟨by simp [gL,hk,h1,bc.af],hb,h2⟩
   exact hb.elim
 . intro l v xs hk l' af hl;have hb:=xI hM hk;unfold xH at hb;split at hb
   . cases ‹bc.box v xs=_›
   . rename_i v' xs' v2 ys hlk hbx;cases hbx;obtain ⟨b,cs,e,sh,hφ,hfs,aD,hsz,hlf,hrv⟩:=h.aG l _ hlk;exact (sb h xs' xs (cs.toList.take xs'.length) hb (by simp;omega) (λi hi=>by rw [qK hi];exact hrv i hi)).2.2.2 l' af hl
   . cases ‹bc.box v xs=_›
   . cases ‹bc.box v xs=_›
   exact hb.elim
 . intro l;unfold xK;split
   . simp
   exact h.ia l
 . intro l l' b h1 h2;exact h.fJ l l' b (UN l b h1).1 (UN l' b h2).1
 . intro l b hb hs;obtain ⟨h1,k,hk⟩:=UN l b hb;rcases hs with hs|⟨l',hl',_,hb'⟩
   . exact h.bQ l b h1 hs
   have:=h.fJ l l' b h1 hb';subst this;rw [hk] at hl';cases hl'
 . intro l b hb;exact h.cu l b (UN l b hb).1
 . intro b hb;rcases hb with hb|⟨l,_,hio,hb⟩
   . exact h.sB b hb
   have:=h.cu l b hb;exact ⟨this.1,.inl (this.2.resolve_right λhh=>Nat.lt_irrefl _ (q15 hio hh.choose_spec.2.1))⟩
 . intro l af hl hk;obtain ⟨k,k2,h1,h2,h3,h4,_⟩:=keeps l af hl (h.kn l af hl hk);exact ⟨k2,h2,h3▸h4⟩
 intro l af hl hk;obtain ⟨k,k2,h1,h2,h3,h4,hng⟩:=keeps l af hl (h.kn l af hl hk);have hle:=h.fix l af hl hk;have hb:=h.aG l k h1;have hx2:gL φ m2 l=match φ l with| .at b sh _=>.at b sh k2.af|_=>.nil k2.af:=by unfold gL;rw [h2]
 have e:gL φ m2 l=φ l:=by
  rw [hx2];cases k with
  |gone v=>exact absurd rfl (hng v)
  |row v sh d xs=>
   rcases hb with ⟨q1,_,_⟩|⟨b,cap,q1,_⟩
   . rw [q1,←h3];rfl
   rw [q1,←h3];rfl
  |box v xs=>
   obtain ⟨b,cs,e,sh,q1,_⟩:=hb;rw [q1,←h3];rfl
  |kb v xs i u=>
   obtain ⟨b,cap,cs,e,fr,q1,_⟩:=hb;rw [q1,←h3];rfl
  |sub v sh xs u=>
   obtain ⟨b,cap,q1,_⟩:=hb;rw [q1,←h3];rfl
 rw [e];exact hle
theorem Ok.mono {c:Code} {Q Q':di} (h:Ok P N c ts m Q) (hq:∀e ts m,Q e ts m->Q' e ts m):Ok P N c ts m Q':=λB φ fp S a w hRS=>
 wp_mono (h B φ fp S a w hRS) λe _ _ ⟨φ',fp',S',ts',m',h1,h2⟩=>⟨φ',fp',S',ts',m',h1,hq e ts' m' h2⟩
theorem Ok.loop {body:Code} {ι:Type} (I:ι->Prop) (σ:ι->Env × Mem) (μ:ι->Nat) {Q:di} (x0:ι) (h0:I x0) (hr:sa ts m (σ x0).1 (σ x0).2)
 (step:∀x,I x->Ok P N body (σ x).1 (σ x).2 (zC Q λts' m'=>∃y,I y/\μ y<μ x/\sa ts' m' (σ y).1 (σ y).2)):Ok P N (.loop body) ts m Q:=by
 intro B φ fp S a w hRS;refine wp_loop_ghost (λn a w=>∃x φ fp S,I x/\μ x=n/\RS B N φ fp S (σ x).1 (σ x).2 a w) (μ x0) ⟨x0,_,_,_,h0,rfl,hRS.refine hr⟩ ?_;rintro n a w ⟨x,φ,fp,S,hx,rfl,hRS⟩;refine wp_mono (step x hx B φ fp S a w hRS) λe a' w' hq=> ?_;obtain ⟨φ',fp',S',ts',m',h1,h2⟩:=hq;cases e with
 |normal=>
  obtain ⟨y,hy,hlt,VT⟩:=h2;exact ⟨μ y,hlt,y,_,_,_,hy,rfl,h1.refine VT⟩
 |_=>exact ⟨φ',fp',S',ts',m',h1,h2⟩
theorem aj.loop {body:Code} {ι:Type} (I:ι->Prop) (σ:ι->Env × Mem) (μ:ι->Nat) {Q:di} {q:Pack (Code.loop body,Q)} (x0:ι) (h0:I x0) (hr:sa ts m (σ x0).1 (σ x0).2) (hok:codeOk N body=true)
 (step:∀x,I x->vc P N body (σ x).1 (σ x).2 (zC Q λts' m'=>∃y,I y/\μ y<μ x/\sa ts' m' (σ y).1 (σ y).2)):aj P N (.loop body) ts m Q q:=
 ⟨Ok.loop I σ μ x0 h0 hr λx hx=>cB body _ _ _ hok (step x hx)⟩
theorem aj.upto {body:Code} (n:Nat) (I:nP) (σ:Nat->Env × Mem) {Q:di} {q:Pack (Code.loop body,Q)} (h0:I 0) (hr:sa ts m (σ 0).1 (σ 0).2) (hok:codeOk N body=true)
 (step:∀i,i<n->I i->vc P N body (σ i).1 (σ i).2 (zC Q λts' m'=>I (i+1)/\sa ts' m' (σ (i+1)).1 (σ (i+1)).2))
 (stop:I n->vc P N body (σ n).1 (σ n).2 (zC Q λ_ _=>False)):aj P N (.loop body) ts m Q q:=by
 refine ⟨Ok.loop (λi=>i<=n/\I i) σ (λi=>n-i) 0 ⟨Nat.zero_le _,h0⟩ hr λi ⟨hi,hI⟩=> ?_⟩;rcases Nat.lt_or_ge i n with h|h
 . refine (cB body _ _ _ hok (step i h hI)).mono λe ts' m' hq=> ?_;cases e with
   |normal=>exact ⟨i+1,⟨h,hq.1⟩,by omega,hq.2⟩
   |_=>exact hq
 have e:i=n:=Nat.le_antisymm hi h;subst e;refine (cB body _ _ _ hok (stop hI)).mono λe ts' m' hq=> ?_;cases e with
 |normal=>exact hq.elim
 |_=>exact hq
end
def nn (ag:Bool) (n j v:Nat) (b:Option bc) (k:AV->Prop):Prop:=match b with
 |some (.box v' xs)=>v'=v/\(if ag then j+n<=xs.length/\k (.agg ((xs.drop j).take n)) else kc xs[j]? k)
 |_=>False
@[congr] theorem Q2 {ag:Bool} {n j v:Nat} {b b':Option bc} {k:AV->Prop} (h:b=b'):nn ag n j v b k=nn ag n j v b' k:=by rw [h]
theorem u9 (n j v:Nat) (xs:lA) (k:AV->Prop):nn true n j v (some (.box v xs)) k=(j+n<=xs.length/\k (.agg ((xs.drop j).take n))):=by simp [nn]
def oP (ag:Bool) (n:Nat) (p:AV) (m:Mem) (k:AV->Prop):Prop:=match p with
 | .ptr l v i j=>i=0/\nn ag n j v (ah m l) k
 |_=>False
@[congr] theorem RP {ag:Bool} {n:Nat} {p p':AV} {m:Mem} {k:AV->Prop} (h:p=p'):oP ag n p m k=oP ag n p' m k:=by rw [h]
theorem xN (ag:Bool) (n l v j:Nat) (m:Mem) (k:AV->Prop):oP ag n (.ptr l v 0 j) m k=nn ag n j v (ah m l) k:=by simp [oP]
def aN (P:Program) (k:lA->Prop):List ResultVar->Env->Mem->lA->Prop
 | [],_,_,acc=>k acc.reverse
 | .tmp t::r,ts,m,acc=>aN P k r ts m (look ts t::acc)
 | .cell p t::r,ts,m,acc=>eo (aK P t) λti=>oP ti.agg ti.size (look ts p) m λy=>aN P k r ts m (y::acc)
section
variable (P:Program) (k:lA->Prop) (r:List ResultVar) (ts:Env) (m:Mem) (acc:lA)
theorem sc:aN P k [] ts m acc=k acc.reverse:=rfl
theorem sf (t:Nat):aN P k (.tmp t::r) ts m acc=aN P k r ts m (look ts t::acc):=rfl
theorem qo (p t:Nat):aN P k (.cell p t::r) ts m acc=eo (aK P t) λti=>oP ti.agg ti.size (look ts p) m λy=>aN P k r ts m (y::acc):=rfl
end
def u_ (l v i n:Nat) (used:lN) (b:Option bc) (k:AV->lN->Prop):Prop:=match b with
 |some (.row v' sh deep xs)=>v'=v/\deep=true/\i=0/\(0<sh.sz/\n<=xs.length/\l<bC/\l∉used)/\k (.arr sh (xs.take n)) (l::used)
 |_=>False
@[congr] theorem TO {l v i n:Nat} {used:lN} {b b':Option bc} {k:AV->lN->Prop} (h:b=b'):u_ l v i n used b k=u_ l v i n used b' k:=by rw [h]
theorem Bc (l v n:Nat) (used:lN) (sh:Sh) (xs:lA) (k:AV->lN->Prop):
 u_ l v 0 n used (some (.row v sh true xs)) k=((0<sh.sz/\n<=xs.length/\l<bC/\l∉used)/\k (.arr sh (xs.take n)) (l::used)):=by simp [u_]
def qq (m:Mem) (used:lN) (x:AV) (k:AV->lN->Prop):Prop:=match x with
 | .val v=>k (.val v) used
 | .e0=>k .e0 used
 | .ref l v i n=>u_ l v i n used (ah m l) k
 |_=>False
@[congr] theorem TP {m:Mem} {used:lN} {x x':AV} {k:AV->lN->Prop} (h:x=x'):qq m used x k=qq m used x' k:=by rw [h]
theorem Bd (m:Mem) (used:lN) (v:Value) (k:AV->lN->Prop):qq m used (.val v) k=k (.val v) used:=rfl
theorem Be (m:Mem) (used:lN) (l v i n:Nat) (k:AV->lN->Prop):qq m used (.ref l v i n) k=u_ l v i n used (ah m l) k:=rfl
def qL (m:Mem) (k:lA->lN->Prop):lN->lA->lA->Prop
 |used,acc,[]=>k acc.reverse used
 |used,acc,x::r=>qq m used x λy used'=>qL m k used' (y::acc) r
theorem xO (m:Mem) (k:lA->lN->Prop) (used:lN) (acc:lA):qL m k used acc []=k acc.reverse used:=rfl
theorem vd (m:Mem) (k:lA->lN->Prop) (used:lN) (acc:lA) (x:AV) (r:lA):qL m k used acc (x::r)=qq m used x λy used'=>qL m k used' (y::acc) r:=rfl
def sg (m:Mem) (used:lN) (x:AV) (k:AV->lN->Prop):Prop:=match x with
 | .agg xs=>qL m (λys u=>k (.agg ys) u) used [] xs
 |x=>qq m used x k
@[congr] theorem TQ {m:Mem} {used:lN} {x x':AV} {k:AV->lN->Prop} (h:x=x'):sg m used x k=sg m used x' k:=by rw [h]
theorem Bf (m:Mem) (used:lN) (xs:lA) (k:AV->lN->Prop):sg m used (.agg xs) k=qL m (λys u=>k (.agg ys) u) used [] xs:=rfl
theorem Bg (m:Mem) (used:lN) (v:Value) (k:AV->lN->Prop):sg m used (.val v) k=k (.val v) used:=rfl
theorem Bh (m:Mem) (used:lN) (l v i n:Nat) (k:AV->lN->Prop):sg m used (.ref l v i n) k=u_ l v i n used (ah m l) k:=rfl
def iR (m:Mem) (k:lA->Prop):lN->lA->lA->Prop
 |_,acc,[]=>k acc.reverse
 |used,acc,x::r=>sg m used x λy used'=>iR m k used' (y::acc) r
theorem xP (m:Mem) (k:lA->Prop) (used:lN) (acc:lA):iR m k used acc []=k acc.reverse:=rfl
theorem ve (m:Mem) (k:lA->Prop) (used:lN) (acc:lA) (x:AV) (r:lA):iR m k used acc (x::r)=sg m used x λy used'=>iR m k used' (y::acc) r:=rfl
def bE:lA->AV| [x]=>x|xs=>.aX xs
theorem KT (x:AV):bE [x]=x:=rfl
theorem KU:bE []= .aX []:=rfl
theorem tu (x y:AV) (r:lA):bE (x::y::r)= .aX (x::y::r):=rfl
def fin (P:Program) (rs:List ResultVar) (post:AV->Prop):di
 | .normal=>λts m=>aN P (λxs=>iR m (λys=>post (bE ys)) [] [] xs) rs ts m []
 | .ret=>λts m=>aN P (λxs=>iR m (λys=>post (bE ys)) [] [] xs) rs ts m []
 |_=>λ_ _=>False
theorem RQ (P:Program) (rs:List ResultVar) (post:AV->Prop) (ts:Env) (m:Mem):fin P rs post .ret ts m=aN P (λxs=>iR m (λys=>post (bE ys)) [] [] xs) rs ts m []:=rfl
def bF:Nat->lA->Env
 |_,[]=>[]
 |i,x::r=>(i,x)::bF (i+1) r
theorem KV (i:Nat):bF i []=[]:=rfl
theorem Hq (i:Nat) (x:AV) (r:lA):bF i (x::r)=(i,x)::bF (i+1) r:=rfl
section
variable {P:Program} {B:eC} {N:Nat} {φ:Nat->LS} {fp:Nat->lN} {S:nP} {ts:Env} {m:Mem} {a:Act} {w:World}
theorem Bi {t:TypeId} {ti:TI} (ht:aK P t=some ti) (h:RS B N φ fp S ts m a w) {p:AV} {v:Value} (hp:RV w S φ p v) {k:AV->Prop} (hk:oP ti.agg ti.size p m k):
 ∃ad u y,v= .pointer (some ad)/\(loadVar t ad).run P w= .ok u w/\RV w S φ y u/\(∀l af,(l,af)∈ao y->known m l af)/\k y:=by
 unfold oP at hk;split at hk
 . rename_i l af i j;obtain ⟨rfl,hk⟩:=hk;have hp1:=jZ hp;unfold nn at hk;split at hk
   . rename_i v' xs hlk;obtain ⟨rfl,hk⟩:=hk;obtain ⟨b,cs,e,sh,hφ,hfs,aD,hsz,hlf,hr⟩:=h.aG l _ hlk;have hpv:=hp1 b sh hφ;rw [Nat.zero_mul,Nat.zero_add] at hpv;subst hpv;cases hag:ti.agg with
     |true=>
      simp only [hag,if_true] at hk;obtain ⟨hlen,hk⟩:=hk;refine ⟨_,_,.agg ((xs.drop j).take ti.size),rfl,df ht aD j (λ_=>by omega) (λh=>by rw [hag] at h;cases h),?_,?_,hk⟩
      . rw [show ti.sh=⟨ti.size,true⟩ by simp [TI.sh,hag],cY];refine .agg _ _ (by simp;omega) (λi hi=> ?_) λi hi=> ?_
        . simp only [List.length_take,List.length_drop] at hi;simp only [q9,q6];exact hlf _ (by omega)
        simp only [List.length_take,List.length_drop] at hi;simp only [q9,q6];rw [bR _ _ _ _ (by omega)];exact hr (j+i) (by omega)
      intro l' ver' hl';simp only [ao] at hl';obtain ⟨i,hi,hl2⟩:=bK hl';simp only [List.length_take,List.length_drop] at hi;simp only [q9,q6] at hl2;exact h.bl l v' xs hlk l' ver' (bp (by omega) hl2)
     |false=>
      simp only [hag,if_false,Bool.false_eq_true] at hk;cases hj:xs[j]? with
      |none=>rw [hj] at hk;exact hk.elim
      |some y=>
       rw [hj] at hk;obtain ⟨hj1,hj2⟩:=List.getElem?_eq_some_iff.1 hj;refine ⟨_,_,y,rfl,df ht aD j (λh=>by rw [hag] at h;cases h) (λ_=>by omega),?_,?_,hk⟩
       . rw [show ti.sh=⟨ti.size,false⟩ by simp [TI.sh,hag],ba];have:=hr j hj1
         rwa [hj2] at this
       intro l' ver' hl';exact h.bl l v' xs hlk l' ver' (bp hj1 (by rw [hj2];exact hl'))
   exact hk.elim
 exact hk.elim
def cZ (tmps:aV):ResultVar->Sem Value
 | .tmp t=>pure (tmps.getD t uD)
 | .cell p t=>do loadVar t (←asAddr (tmps.getD p uD))
theorem lJ (h:RS B N φ fp S ts m a w) {Q:lA->Prop}:∀(rs:List ResultVar) (acc:lA) (va:lV),pA (RV w S φ) acc.reverse va->aN P Q rs ts m acc→
 ∃xs vs,Q xs/\(rs.mapM (cZ a.tmps)).run P w= .ok vs w/\pA (RV w S φ) xs (va++vs)/\vs.length=rs.length
 | [],acc,va,ha,hk=>⟨_,[],hk,by simp,by simpa using ha,rfl⟩
 | .tmp t::r,acc,va,ha,hk=>by
   obtain ⟨xs,vs,h1,h2,h3,h4⟩:=lJ h r (look ts t::acc) (va++[a.tmps.getD t uD]) (by rw [q13];exact ha.snoc (h.tm t)) hk;refine ⟨xs,a.tmps.getD t uD::vs,h1,?_,by simpa using h3,by simp [h4]⟩;rw [List.mapM_cons];simp only [cZ,Sem.run_bind,Sem.run_pure,Result.andThen_ok,h2]
 | .cell p t::r,acc,va,ha,hk=>by obtain ⟨ti,ht,hk⟩:=bD hk;obtain ⟨ad,u,y,hv,hr,hy,_,hk⟩:=Bi ht h (h.tm p) hk;obtain ⟨xs,vs,h1,h2,h3,h4⟩:=lJ h r (y::acc) (va++[u]) (by rw [q13];exact ha.snoc hy) hk;refine ⟨xs,u::vs,h1,?_,by simpa using h3,by simp [h4]⟩;rw [List.mapM_cons];simp only [cZ,hv,asAddr,Sem.run_bind,Sem.run_pure,Result.andThen_ok,hr,h2]
structure lK (fp:Nat->lN) (used used':lN) (fs:lN):Prop where
 ia:fs.Nodup
 mem:∀b,b∈fs->∃l,l∈used'/\b∈fp l
 fJ:∀b,b∈fs->∀l,l∈used->b∉fp l
 sub:∀l,l∈used->l∈used'
 lo:∀l,l∈used'->l∈used\/l<bC
theorem lK.nil (used:lN):lK fp used used []:=⟨q12,λ_ h=>(by cases h),λ_ h=>(by cases h),λ_ h=>h,λ_ h=>.inl h⟩
theorem lK.app {u1 u2 u3 fs gs:lN} (h:lK fp u1 u2 fs) (g:lK fp u2 u3 gs):lK fp u1 u3 (fs++gs):=by
 refine ⟨List.nodup_append.2 ⟨h.ia,g.ia,?_⟩,?_,?_,λl hl=>g.sub l (h.sub l hl),?_⟩
 . rintro b hb c hc rfl;obtain ⟨l,hl,hbl⟩:=h.mem b hb;exact g.fJ b hc l hl hbl
 . intro b hb;rcases List.mem_append.1 hb with hb|hb
   . obtain ⟨l,hl,hbl⟩:=h.mem b hb;exact ⟨l,g.sub l hl,hbl⟩
   exact g.mem b hb
 . intro b hb l hl;rcases List.mem_append.1 hb with hb|hb
   . exact h.fJ b hb l hl
   exact g.fJ b hb l (h.sub l hl)
 intro l hl;rcases g.lo l hl with hl|hl
 . exact h.lo l hl
 exact .inr hl
theorem ES (h:RS B N φ fp S ts m a w) {used:lN} {x:AV} {v:Value} (hx:RV w S φ x v) {k:AV->lN->Prop} (hk:qq m used x k):
 ∃y used' fs,k y used'/\leaf y/\Own w (λ_=>False) y v fs/\lK fp used used' fs:=by
 unfold qq at hk;split at hk
 . rename_i u;have:=aR hx;obtain ⟨rfl,hu⟩:=this;exact ⟨_,_,[],hk,trivial,.rd _ _ (.val _ hu),lK.nil used⟩
 . cases hx with
   |rd _ _ hr=>cases hr with
    |e0 ad=>exact ⟨_,_,[],hk,trivial,.rd _ _ (.e0 ad),lK.nil used⟩
 . rename_i l af i n;obtain ⟨r1,r2⟩:=dq hx;unfold u_ at hk;split at hk
   . rename_i v' sh deep xs hlk;obtain ⟨rfl,rfl,rfl,⟨h0,hn,hio,hnu⟩,hk⟩:=hk;have jt:n=0->(∃ad,v= .slice ad 0 0)->∃y used' fs,k y used'/\leaf y/\Own w (λ_=>False) y v fs/\lK fp used used' fs:=by
      rintro rfl ⟨ad,rfl⟩
      exact ⟨_,_,[],hk,trivial,by rw [List.take_zero];exact .rd _ _ (.nil sh ad),q12,λ_ hh=>(by cases hh),λ_ hh=>(by cases hh),λ_ hh=>List.mem_cons_of_mem _ hh,λl' hl'=>by
       rcases List.mem_cons.1 hl' with rfl|hl'
       . exact .inr hio
       exact .inl hl'⟩
     rcases h.aG l _ hlk with ⟨hφ,hxs,_⟩|⟨b,cap,hφ,hbm,_,a_⟩
     . exact jt (r2 hφ).1 (r2 hφ).2
     obtain ⟨ad,cap',rfl,b9,hc⟩:=r1 b sh hφ;rcases hc with rfl|⟨rfl,cs',e',hh',hs'⟩
     . have:n=0:=(by omega);subst this;exact jt rfl ⟨_,rfl⟩
     simp only [if_true] at a_;obtain ⟨gs,g1,g2,cs,e,g3,g4⟩:=Ea a_ hbm n hn;rw [g3] at hh';injection hh' with hh';injection hh' with e1
     subst e1;rw [g4,Nat.zero_add] at hs';have:cap=cap':=Nat.eq_of_mul_eq_mul_right h0 hs';subst this;refine ⟨_,_,gs,hk,trivial,by simpa using g1,g2.nodup (h.ia l),λc hc=>⟨l,List.mem_cons_self ..,g2.subset hc⟩,λc hc l' hl' hcl=> ?_,λ_ hh=>List.mem_cons_of_mem _ hh,λl' hl'=> ?_⟩
     . have:=h.fJ l l' c (g2.subset hc) hcl;subst this;exact hnu hl'
     rcases List.mem_cons.1 hl' with rfl|hl'
     . exact .inr hio
     exact .inl hl'
   exact hk.elim
 exact hk.elim
theorem xQ {one:lN->AV->(AV->lN->Prop)->Prop} {ok:AV->Prop}
 (lz:∀(used:lN) (x:AV) (v:Value) (k:AV->lN->Prop),RV w S φ x v->one used x k->∃y used' fs,k y used'/\ok y/\Own w (λ_=>False) y v fs/\lK fp used used' fs)
 {Q:lA->lN->Prop} {many:lN->lA->lA->Prop} (jt:∀used acc,many used acc []->Q acc.reverse used) (GU:∀used acc x r,many used acc (x::r)->one used x λy used'=>many used' (y::acc) r):
 ∀(xs:lA) (vs:lV) (used:lN) (acc:lA),vs.length=xs.length->(∀i (h:i<xs.length),RV w S φ xs[i] (vs.getD i uD))->many used acc xs→
  ∃(ys:lA) (used':lN) (fss:List lN),Q (acc.reverse++ys) used'/\ys.length=xs.length/\fss.length=ys.length/\(∀i (h:i<ys.length),ok ys[i]/\Own w (λ_=>False) ys[i] (vs.getD i uD) (fss.getD i []))/\lK fp used used' fss.flatten
 | [],vs,used,acc,hv,_,hk=>⟨[],used,[],by simpa using jt _ _ hk,rfl,rfl,λi hi=>absurd hi (q16 _),lK.nil used⟩
 |x::xs,vs,used,acc,hv,hr,hk=>by
  cases vs with
  |nil=>simp at hv
  |cons v vs=>
   obtain ⟨y,used1,fs,h1,h2,h3,h4⟩:=lz used x v _ (hr 0 (by simp)) (GU _ _ _ _ hk);obtain ⟨ys,used2,fss,g1,g2,g3,g4,g5⟩:=xQ lz jt GU xs vs used1 (y::acc) (by simpa using hv) (λi hi=>by have:=hr (i+1) (by simpa using hi);exact this) h1;refine ⟨y::ys,used2,fs::fss,by simpa using g1,by simp [g2],by simp [g3],λi hi=> ?_,?_⟩
   . cases i with
     |zero=>exact ⟨h2,h3⟩
     |succ i=>exact g4 i (by simpa using hi)
   rw [List.flatten_cons];exact h4.app g5
theorem Oh (h:RS B N φ fp S ts m a w) {used:lN} {x:AV} {v:Value} (hx:RV w S φ x v) {k:AV->lN->Prop} (hk:sg m used x k):
 ∃y used' fs,k y used'/\True/\Own w (λ_=>False) y v fs/\lK fp used used' fs:=by
 cases x with
 |agg xs=>
  obtain ⟨cs,rfl,h1,h2,h3⟩:=na hx
  obtain ⟨ys,used',fss,g1,g2,g3,g4,g5⟩:=xQ (one:=λused x k=>qq m used x k) (ok:=leaf) (Q:=λys u=>k (.agg ys) u) (many:=λused acc xs=>qL m (λys u=>k (.agg ys) u) used acc xs)
   (λused x v k hx hk=>ES h hx hk) (λ_ _ h=>h) (λ_ _ _ _ h=>h) xs cs.toList used [] (by simpa using h1) h3 hk
  exact ⟨.agg ys,used',fss.flatten,by simpa using g1,trivial,.agg ys cs fss (h1.trans g2.symm) (λi hi=>(g4 i hi).1) g3 (λi hi=>(g4 i hi).2),g5⟩
 |_=>
  obtain ⟨y,used',fs,g1,_,g3,g4⟩:=ES h hx hk;exact ⟨y,used',fs,g1,trivial,g3,g4⟩
theorem Bj (h:RS B N φ fp S ts m a w) {xs:lA} {vs:lV} (hl:vs.length=xs.length) (hx:∀i (h:i<xs.length),RV w S φ xs[i] (vs.getD i uD)) {k:lA->Prop} (hk:iR m k [] [] xs):
 ∃(ys:lA) (fss:List lN),k ys/\ys.length=xs.length/\fss.length=ys.length/\(∀i (h:i<ys.length),Own w (λ_=>False) ys[i] (vs.getD i uD) (fss.getD i []))/\fss.flatten.Nodup/\∀b,b∈fss.flatten->∃l,l<bC/\b∈fp l:=by
 obtain ⟨ys,used',fss,g1,g2,g3,g4,g5⟩:=xQ (one:=λused x k=>sg m used x k) (ok:=λ_=>True) (Q:=λys _=>k ys) (many:=λused acc xs=>iR m k used acc xs)
  (λused x v k hx hk=>Oh h hx hk) (λ_ _ h=>h) (λ_ _ _ _ h=>h) xs vs [] [] hl hx hk
 refine ⟨ys,fss,by simpa using g1,g2,g3,λi hi=>(g4 i hi).2,g5.ia,λb hb=> ?_⟩;obtain ⟨l,hl,hbl⟩:=g5.mem b hb;rcases g5.lo l hl with hh|hh
 . cases hh
 exact ⟨l,hh,hbl⟩
theorem Bk {ys:lA} {vs:lV} {fss:List lN} (hl:vs.length=ys.length) (hf:fss.length=ys.length) (hv:∀i (h:i<ys.length),Own w (λ_=>False) ys[i] (vs.getD i uD) (fss.getD i [])):
 Own w (λ_=>False) (bE ys) (if h:vs.toArray.size=1 then vs.toArray[0] else .tuple vs.toArray) fss.flatten:=by
 match ys,vs,fss,hl,hf,hv with
 | [],[],[],_,_,_=>exact .rd _ _ (.aX [] #[] rfl λi hi=>absurd hi (q16 _))
 | [y],[v],[f],_,_,hv=>simpa [bE] using hv 0 (by simp)
 |y::y'::r,v::v'::r',f::f'::r'',hl,hf,hv=>
  have:¬((v::v'::r').toArray.size=1):=by simp
  rw [dif_neg this];exact .aX _ _ _ (by simpa using hl) hf (by simpa using hv)
theorem bG:∀(xs:lA) (i t:Nat),look (bF i xs) t=if i<=t then (xs[t-i]?).getD .undef else .undef
 | [],i,t=>by simp [bF,look]
 |x::r,i,t=>by
  rw [bF,cM,bG r (i+1) t];by_cases h:i=t
  . subst h;simp
  by_cases h2:i<=t
  . have h3:i+1<=t:=(by omega);rw [if_neg h,if_pos h3,if_pos h2,show t-i=(t-(i+1))+1 by omega,List.getElem?_cons_succ]
  rw [if_neg h,if_neg (by omega),if_neg h2]
theorem Fn.np {P:Program} {f:FuncId} {fn:Func} {c:Code} {args:List AV} {post:AV→Prop} (hf:P.funcs[f]? =some fn) (hn:(fn.name== "runtime.NumGoroutine")=false) (hb:fn.body=some c)
 (hok:codeOk fn.ntmps c=true) (ha:args.length<=fn.ntmps) (hv:vc P fn.ntmps c (bF 0 args) [] (fin P fn.results.toList post)):Fn P f args true post:=by
 refine ⟨⟨fn,c,hf,hn,hb⟩,λw S vs hS zq hsz hrd=> ?_⟩;refine calls_of_wp hf hb ?_;have hRS:RS ⟨w,λ_ _=>False,λ_=>True,λ_=>.dead,[]⟩ fn.ntmps (λ_=>.dead) (λ_=>[]) (λb=>b<w.heap.size) (bF 0 args) [] {tmps:=vs++Array.replicate (fn.ntmps-vs.size) undef,defers:=[]} w:=by
  have hx:∀i (h:i<args.length),Rd w (λb=>b<w.heap.size) args[i] (vs.toList.getD i uD):=λi h=>(hrd i h).mono (λ_ _=>rfl) hS;have l6:∀t,(look (bF 0 args) t= .undef\/∃h:t<args.length,look (bF 0 args) t=args[t]):=by
   intro t;rw [bG];by_cases h:t<args.length
   . exact .inr ⟨h,by simp [h]⟩
   exact .inl (by simp [h])
  refine {tm:=λt=> ?_,tl:=λt l af hl=> ?_,b_:=λ_ _=>⟨rfl,rfl⟩,aG:=λl k hk=>(by cases hk),bl:=λl v xs hk=>(by cases hk),ia:=λ_=>q12,
          fJ:=λ_ _ _ h=>(by cases h),bQ:=λ_ _ h=>(by cases h),cu:=λ_ _ h=>(by cases h),sB:=λb hb=>⟨hb,.inr trivial⟩,base:=λb hb _=>rfl,out:=a7.refl _,kq:=jH.refl _,kn:=λ_ _ _ hk=>hk,fix:=λ_ _ _ _=>LS.le_refl _ _,
          size:=Nat.le_refl _,defers:=rfl,lq:=by simp;omega,jv:=zq.mono (λ_ _=>rfl) hS}
  . rcases l6 t with e|⟨h,e⟩
    . rw [e];exact .rd _ _ (.undef _)
    rw [e];have h1:=hx t h;have:vs.toList.getD t uD=(vs++Array.replicate (fn.ntmps-vs.size) undef).getD t uD:=by have h2:t<vs.size:=(by omega);simp only [q0,q4,q2];rw [Array.getElem?_append_left h2]
    rw [←this];exact .rd _ _ h1
  rcases l6 t with e|⟨h,e⟩
  . rw [e] at hl;cases hl
  rw [e,fU (hx t h)] at hl;cases hl
 have fS:∀a' w',ic ⟨w,λ_ _=>False,λ_=>True,λ_=>.dead,[]⟩ fn.ntmps (λts m=>aN P (λxs=>iR m (λys=>post (bE ys)) [] [] xs) fn.results.toList ts m []) a' w'→
  a'.defers=[]/\∃v,(results fn a'.tmps).run P w'= .ok v w'/\∃r v',Ending.returned v= .returned v'/\post r/\Grown w w'/\iO w w' S true r v':=by
  rintro a' w' ⟨φ',fp',S',ts',m',h',hk⟩;refine ⟨h'.defers,?_⟩;obtain ⟨xs,us,h1,h2,h3,_⟩:=lJ h' fn.results.toList [] [] ⟨rfl,λi hi=>absurd hi (q16 _)⟩ hk;obtain ⟨h3a,h3b⟩:=h3;simp only [q11] at h3a h3b;obtain ⟨ys,fss,g1,g2,g3,g4,g5,g6⟩:=Bj h' h3a h3b h1;refine ⟨if h:us.toArray.size=1 then us.toArray[0] else .tuple us.toArray,?_,bE ys,_,rfl,g1,⟨h'.size,λb hb=>h'.base b hb (λ_ h=>h),h'.out⟩,?_⟩
  . have hm:results fn a'.tmps=(do let vs ←fn.results.mapM (cZ a'.tmps);pure (if h:vs.size=1 then vs[0] else .tuple vs)):=by
     unfold results;congr 1
    rw [hm,Sem.run_bind,Array.mapM_eq_mapM_toList];have:(List.toArray <$> fn.results.toList.mapM (cZ a'.tmps):Sem aV).run P w'= .ok us.toArray w':=by rw [map_eq_pure_bind,Sem.run_bind,h2];rfl
    rw [this];rfl
  refine ⟨fss.flatten,Bk (h3a.trans g2.symm) g3 g4,g5,λb hb=> ?_⟩;obtain ⟨l,hl,hbl⟩:=g6 b hb;rcases (h'.cu l b hbl).2 with hh|⟨_,hh,_⟩
  . exact hh
  exact hh.elim
 refine wp_mono (cB c _ _ _ hok hv _ _ _ _ _ _ hRS) ?_;intro e a' w' hq;cases e with
 |normal=>exact fS a' w' hq
 |ret=>exact fS a' w' hq
 |_=>obtain ⟨_,_,_,_,_,_,hh⟩:=hq;exact hh.elim
theorem Fn.cW {P:Program} {f:FuncId} {fn:Func} {c:Code} {args:List AV} {post:AV→Prop} (N:Nat) (rs:List ResultVar) (hf:P.funcs[f]? =some fn) (hN:fn.ntmps=N:=by exact rfl) (hr:fn.results.toList=rs:=by exact rfl) (hn:(fn.name== "runtime.NumGoroutine")=false:=by exact rfl)
 (hb:fn.body=some c:=by exact rfl) (hok:codeOk N c=true:=by exact rfl) (ha:args.length<=N:=by exact oT rfl) (hv:vc P N c (bF 0 args) [] (fin P rs post)):Fn P f args true post:=by
 subst hN;subst hr;exact Fn.np hf hn hb hok ha hv
def mg:Nat->List bc->Mem
 |_,[]=>[]
 |k,b::r=>(bC+k,b)::mg (k+1) r
theorem RT (k:Nat):mg k []=[]:=rfl
theorem Oi (k:Nat) (b:bc) (r:List bc):mg k (b::r)=(1000000000+k,b)::mg (k+1) r:=rfl
theorem mC:∀(io:List bc) (k l:Nat),ah (mg k io) l=if bC+k<=l then io[l-(bC+k)]? else none
 | [],k,l=>by simp [mg,ah]
 |b::r,k,l=>by
  rw [mg,aw,mC r (k+1) l];by_cases h:bC+k=l
  . subst h;simp
  by_cases h2:bC+k<=l
  . rw [if_neg h,if_pos (by omega),if_pos h2,show l-(bC+k)=(l-(bC+(k+1)))+1 by omega,List.getElem?_cons_succ]
  rw [if_neg h,if_neg (by omega),if_neg h2]
def fX:bc->Prop
 | .box _ xs=>aq xs=[]
 | .row _ _ _ _=>True
 | .gone _=>False
 | .kb _ _ _ _=>False
 | .sub _ _ _ _=>False
def KW (io io':List bc) (m:Mem):Prop:=io'.length=io.length/\∀k (h:k<io'.length) (h':k<io.length),ah m (bC+k)=some io'[k]/\io'[k].af=io[k].af/\fX io'[k]
def Hr (w:World) (φ:Nat->LS) (fp:Nat->lN) (S:nP) (io:List bc):eC:=⟨w,λl b=>b∈fp l,S,φ,mg 0 io⟩
def pD (P:Program) (f:FuncId) (io:List bc) (args:lA) (post:AV->List bc->Prop):Prop:=
 Enters P f/\∀(w:World) (φ:Nat->LS) (fp:Nat->lN) (S:nP) (vs:aV),vs.size=args.length→
  RS (Hr w φ fp S io) vs.size φ fp S (bF 0 args) (mg 0 io) {tmps:=vs,defers:=[]} w→
  Calls P f vs w λe w'=>∃r v io' φ' fp' S' m',e= .returned v/\post r io'/\RS (Hr w φ fp S io) 0 φ' fp' S' [] m' {tmps:= #[],defers:=[]} w'/\KW io io' m'∧
   ∃fs,Own w' (λ_=>False) r v fs/\fs.Nodup/\∀b,b∈fs->w.heap.size<=b/\¬S' b/\∀l,bC<=l->b∉fp' l
def zD (v:Nat) (b:Option bc) (k:bc->Prop):Prop:=match b with
 |some (.row v' sh d xs)=>v'=v/\k (.row v' sh d xs)
 |some (.box v' xs)=>v'=v/\aq xs=[]/\k (.box v' xs)
 |_=>False
@[congr] theorem UX {v:Nat} {b b':Option bc} {k:bc->Prop} (h:b=b'):zD v b k=zD v b' k:=by rw [h]
theorem ET (v:Nat) (sh:Sh) (d:Bool) (xs:lA) (k:bc->Prop):zD v (some (.row v sh d xs)) k=k (.row v sh d xs):=by simp [zD]
theorem EU (v:Nat) (xs:lA) (k:bc->Prop):zD v (some (.box v xs)) k=(aq xs=[]/\k (.box v xs)):=by simp [zD]
def qM (m:Mem) (k:List bc->Prop):Nat->lN->List bc->Prop
 |_,[],acc=>k acc.reverse
 |i,v::r,acc=>zD v (ah m (bC+i)) λb=>qM m k (i+1) r (b::acc)
theorem EV (m:Mem) (k:List bc->Prop) (i:Nat) (acc:List bc):qM m k i [] acc=k acc.reverse:=rfl
theorem Bl (m:Mem) (k:List bc->Prop) (i v:Nat) (r:lN) (acc:List bc):qM m k i (v::r) acc=zD v (ah m (1000000000+i)) λb=>qM m k (i+1) r (b::acc):=rfl
theorem CN {m:Mem} {k:List bc->Prop}:∀(vers:lN) (i:Nat) (acc:List bc),qM m k i vers acc->∃io',k (acc.reverse++io')/\io'.length=vers.length∧
 ∀j (h:j<io'.length) (h':j<vers.length),ah m (bC+(i+j))=some io'[j]/\io'[j].af=vers[j]/\fX io'[j]
 | [],i,acc,hk=>by
   have hk1:k acc.reverse:=hk;exact ⟨[],by simpa using hk1,rfl,λj h=>absurd h (q16 _)⟩
 |v::r,i,acc,hk0=>by
  have hk1:zD v (ah m (bC+i)) λb=>qM m k (i+1) r (b::acc):=hk0;clear hk0
  have main:∀b,ah m (bC+i)=some b->b.af=v->fX b->qM m k (i+1) r (b::acc)->∃io',k (acc.reverse++io')/\io'.length=(v::r).length∧
   ∀j (h:j<io'.length) (h':j<(v::r).length),ah m (bC+(i+j))=some io'[j]/\io'[j].af=(v::r)[j]/\fX io'[j]:=by
   intro b hb hv hf hk;obtain ⟨io',h1,h2,h3⟩:=CN r (i+1) (b::acc) hk;refine ⟨b::io',by simpa using h1,by simp [h2],λj hj hj'=> ?_⟩;cases j with
   |zero=>exact ⟨hb,hv,hf⟩
   |succ j=>
    have:=h3 j (by simpa using hj) (by simpa using hj');rw [show i+1+j=i+(j+1) by omega] at this;exact this
  unfold zD at hk1;split at hk1
  . rename_i hb;exact main _ hb hk1.1 trivial hk1.2
  . rename_i hb;exact main _ hb hk1.1 hk1.2.1 hk1.2.2
  exact hk1.elim
def RU (P:Program) (rs:List ResultVar) (vers:lN) (post:AV->List bc->Prop):di
 | .normal=>λts m=>aN P (λxs=>iR m (λys=>qM m (λio'=>post (bE ys) io') 0 vers []) [] [] xs) rs ts m []
 | .ret=>λts m=>aN P (λxs=>iR m (λys=>qM m (λio'=>post (bE ys) io') 0 vers []) [] [] xs) rs ts m []
 |_=>λ_ _=>False
theorem Oj (P:Program) (rs:List ResultVar) (vers:lN) (post:AV->List bc->Prop) (ts:Env) (m:Mem):
 RU P rs vers post .ret ts m=aN P (λxs=>iR m (λys=>qM m (λio'=>post (bE ys) io') 0 vers []) [] [] xs) rs ts m []:=rfl
theorem pD.np {P:Program} {f:FuncId} {fn:Func} {c:Code} {io:List bc} {args:List AV} {post:AV→List bc→Prop} (hf:P.funcs[f]? =some fn) (hn:(fn.name== "runtime.NumGoroutine")=false) (hb:fn.body=some c)
 (hok:codeOk fn.ntmps c=true) (ha:args.length<=fn.ntmps) (hv:vc P fn.ntmps c (bF 0 args) (mg 0 io) (RU P fn.results.toList (io.map bc.af) post)):pD P f io args post:=by
 refine ⟨⟨fn,c,hf,hn,hb⟩,λw φ fp S vs hsz hR0=> ?_⟩;refine calls_of_wp hf hb ?_;have hRS:RS (Hr w φ fp S io) fn.ntmps φ fp S (bF 0 args) (mg 0 io) {tmps:=vs++Array.replicate (fn.ntmps-vs.size) undef,defers:=[]} w:=by
  refine {hR0 with tm:=λt=> ?_,defers:=rfl,lq:=by simp;omega};by_cases h:t<args.length
  . have h1:=hR0.tm t;have:vs.getD t uD=(vs++Array.replicate (fn.ntmps-vs.size) undef).getD t uD:=by
     have h2:t<vs.size:=(by omega);simp only [q0];rw [Array.getElem?_append_left h2]
    rw [←this];exact h1
  rw [bG];have:(if 0<=t then (args[t-0]?).getD AV.undef else .undef)= .undef:=by simp [List.getElem?_eq_none (show args.length<=t by omega)]
  rw [this];exact .rd _ _ (.undef _)
 have fS:∀a' w',ic (Hr w φ fp S io) fn.ntmps (λts m=>aN P (λxs=>iR m (λys=>qM m (λio'=>post (bE ys) io') 0 (io.map bc.af) []) [] [] xs) fn.results.toList ts m []) a' w'→
  a'.defers=[]/\∃v,(results fn a'.tmps).run P w'= .ok v w'/\∃r v' io' φ' fp' S' m',Ending.returned v= .returned v'/\post r io'/\RS (Hr w φ fp S io) 0 φ' fp' S' [] m' {tmps:= #[],defers:=[]} w'/\KW io io' m'∧
   ∃fs,Own w' (λ_=>False) r v' fs/\fs.Nodup/\∀b,b∈fs->w.heap.size<=b/\¬S' b/\∀l,bC<=l->b∉fp' l:=by
  rintro a' w' ⟨φ',fp',S',ts',m',h',hk⟩;refine ⟨h'.defers,?_⟩;obtain ⟨xs,us,h1,h2,h3,_⟩:=lJ h' fn.results.toList [] [] ⟨rfl,λi hi=>absurd hi (q16 _)⟩ hk;obtain ⟨h3a,h3b⟩:=h3;simp only [q11] at h3a h3b;obtain ⟨ys,fss,g1,g2,g3,g4,g5,g6⟩:=Bj h' h3a h3b h1;obtain ⟨io',q1,q2,q3⟩:=CN _ _ _ g1;rw [List.reverse_nil,q11] at q1;refine ⟨if h:us.toArray.size=1 then us.toArray[0] else .tuple us.toArray,?_,bE ys,_,io',φ',fp',S',m',rfl,q1,?_,⟨by simpa using q2,λk hk hk'=> ?_⟩,fss.flatten,Bk (h3a.trans g2.symm) g3 g4,g5,λb hb=> ?_⟩
  . have hm:results fn a'.tmps=(do let vs ←fn.results.mapM (cZ a'.tmps);pure (if h:vs.size=1 then vs[0] else .tuple vs)):=by
     unfold results;congr 1
    rw [hm,Sem.run_bind,Array.mapM_eq_mapM_toList];have:(List.toArray <$> fn.results.toList.mapM (cZ a'.tmps):Sem aV).run P w'= .ok us.toArray w':=by rw [map_eq_pure_bind,Sem.run_bind,h2];rfl
    rw [this];rfl
  . exact {h' with tm:=λt=>by rw [look_nil];exact .rd _ _ (.undef _),tl:=λt l af hl=>(by rw [look_nil] at hl;cases hl),defers:=rfl,lq:=rfl}
  . have:=q3 k hk (by simpa using hk');rw [Nat.zero_add] at this;refine ⟨this.1,?_,this.2.2⟩;rw [this.2.1,q7]
  obtain ⟨l,hl,hbl⟩:=g6 b hb;refine ⟨?_,h'.bQ l b hbl,λl' hl' hb'=> ?_⟩
  . rcases (h'.cu l b hbl).2 with hh|⟨_,_,hh,_⟩
    . exact hh
    exact absurd hl (Nat.not_lt.2 hh)
  have:=h'.fJ l l' b hbl hb';subst this;exact absurd hl (Nat.not_lt.2 hl')
 refine wp_mono (cB c _ _ _ hok hv _ _ _ _ _ _ hRS) ?_;intro e a' w' hq;cases e with
 |normal=>exact fS a' w' hq
 |ret=>exact fS a' w' hq
 |_=>obtain ⟨_,_,_,_,_,_,hh⟩:=hq;exact hh.elim
theorem pD.cW {P:Program} {f:FuncId} {fn:Func} {c:Code} {io:List bc} {args:lA} {post:AV->List bc->Prop} (N:Nat) (rs:List ResultVar) (hf:P.funcs[f]? =some fn) (hN:fn.ntmps=N:=by exact rfl) (hr:fn.results.toList=rs:=by exact rfl)
 (hn:(fn.name== "runtime.NumGoroutine")=false:=by exact rfl) (hb:fn.body=some c:=by exact rfl) (hok:codeOk N c=true:=by exact rfl) (ha:args.length≤N:=by exact oT rfl) (hv:vc P N c (bF 0 args) (mg 0 io) (RU P rs (io.map bc.af) post)):pD P f io args post:=by
 subst hN;subst hr;exact pD.np hf hn hb hok ha hv
theorem pD.mono {P:Program} {f:FuncId} {io:List bc} {args:lA} {post post':AV->List bc->Prop} (h:pD P f io args post) (hp:∀r io',post r io'->post' r io'):pD P f io args post':=
 ⟨h.1,λw φ fp S vs h1 h2=>(h.2 w φ fp S vs h1 h2).mono λ_ _ ⟨r,v,io',φ',fp',S',m',g1,g2,g3⟩=>⟨r,v,io',φ',fp',S',m',g1,hp _ _ g2,g3⟩⟩
def vV (l:Nat) (k:nP):Nat->lN->Prop
 |_,[]=>False
 |j,l0::r=>if l0=l then k j else vV l k (j+1) r
theorem ku (l:Nat) (k:nP) (j l0:Nat) (r:lN):vV l k j (l0::r)=if l0=l then k j else vV l k (j+1) r:=rfl
def zE (ρ:lN) (x:AV) (k:AV->Prop):Prop:=match x with
 | .ref l v i n=>vV l (λj=>k (.ref (1000000000+j) v i n)) 0 ρ
 | .ptr l v i n=>vV l (λj=>k (.ptr (1000000000+j) v i n)) 0 ρ
 | .val v=>k (.val v)
 | .e0=>k .e0
 | .arr sh xs=>k (.arr sh xs)
 | .bo sh xs i j=>k (.bo sh xs i j)
 |_=>False
@[congr] theorem UY {ρ:lN} {x x':AV} {k:AV->Prop} (h:x=x'):zE ρ x k=zE ρ x' k:=by rw [h]
theorem EW (ρ:lN) (v:Value) (k:AV->Prop):zE ρ (.val v) k=k (.val v):=rfl
def qt (ρ:lN) (k:lA->Prop):lA->lA->Prop
 |acc,[]=>k acc.reverse
 |acc,x::r=>zE ρ x λy=>qt ρ k (y::acc) r
theorem Bm (ρ:lN) (k:lA->Prop) (acc:lA):qt ρ k acc []=k acc.reverse:=rfl
theorem xR (ρ:lN) (k:lA->Prop) (acc:lA) (x:AV) (r:lA):qt ρ k acc (x::r)=zE ρ x λy=>qt ρ k (y::acc) r:=rfl
def mD (ρ:lN) (x:AV) (k:AV->Prop):Prop:=match x with
 | .agg xs=>qt ρ (λys=>k (.agg ys)) [] xs
 |x=>zE ρ x k
@[congr] theorem TR {ρ:lN} {x x':AV} {k:AV->Prop} (h:x=x'):mD ρ x k=mD ρ x' k:=by rw [h]
theorem Bo (ρ:lN) (xs:lA) (k:AV->Prop):mD ρ (.agg xs) k=qt ρ (λys=>k (.agg ys)) [] xs:=rfl
theorem Bp (ρ:lN) (l v i n:Nat) (k:AV->Prop):mD ρ (.ref l v i n) k=vV l (λj=>k (.ref (1000000000+j) v i n)) 0 ρ:=rfl
theorem Bq (ρ:lN) (l v i n:Nat) (k:AV->Prop):mD ρ (.ptr l v i n) k=vV l (λj=>k (.ptr (1000000000+j) v i n)) 0 ρ:=rfl
theorem Bt (ρ:lN) (v:Value) (k:AV->Prop):mD ρ (.val v) k=k (.val v):=rfl
theorem Bu (ρ:lN) (sh:Sh) (xs:lA) (k:AV->Prop):mD ρ (.arr sh xs) k=k (.arr sh xs):=rfl
def n7 (ρ:lN) (k:lA->Prop):lA->lA->Prop
 |acc,[]=>k acc.reverse
 |acc,x::r=>mD ρ x λy=>n7 ρ k (y::acc) r
theorem Bv (ρ:lN) (k:lA->Prop) (acc:lA):n7 ρ k acc []=k acc.reverse:=rfl
theorem xS (ρ:lN) (k:lA->Prop) (acc:lA) (x:AV) (r:lA):n7 ρ k acc (x::r)=mD ρ x λy=>n7 ρ k (y::acc) r:=rfl
def xT (l:Nat):lN->Prop
 | []=>True
 |x::r=>l≠x/\xT l r
theorem KX (l:Nat):xT l []=True:=rfl
theorem Hs (l x:Nat) (r:lN):xT l (x::r)=(l≠x/\xT l r):=rfl
theorem Bw {l:Nat}:∀{r:lN},xT l r->l∉r
 | [],_,h=>by cases h
 |_::_,h,hm=>by
  rcases List.mem_cons.1 hm with e|hm
  . exact h.1 e
  exact Bw h.2 hm
def sj (b:Option bc) (k:bc->Prop):Prop:=match b with
 |some (.row v sh d xs)=>k (.row v sh d xs)
 |some (.box v xs)=>aq xs=[]/\k (.box v xs)
 |_=>False
@[congr] theorem TS {b b':Option bc} {k:bc->Prop} (h:b=b'):sj b k=sj b' k:=by rw [h]
theorem Bx (v:Nat) (sh:Sh) (d:Bool) (xs:lA) (k:bc->Prop):sj (some (.row v sh d xs)) k=k (.row v sh d xs):=rfl
theorem By (v:Nat) (xs:lA) (k:bc->Prop):sj (some (.box v xs)) k=(aq xs=[]/\k (.box v xs)):=rfl
def oQ (m:Mem) (k:List bc->Prop):List bc->lN->Prop
 |acc,[]=>k acc.reverse
 |acc,l::r=>xT l r/\sj (ah m l) λb=>oQ m k (b::acc) r
theorem EX (m:Mem) (k:List bc->Prop) (acc:List bc):oQ m k acc []=k acc.reverse:=rfl
theorem pE (m:Mem) (k:List bc->Prop) (acc:List bc) (l:Nat) (r:lN):oQ m k acc (l::r)=(xT l r/\sj (ah m l) λb=>oQ m k (b::acc) r):=rfl
def fF:lN->List bc->Mem->Mem
 |l::ρ,b::io,m=>(l,b)::fF ρ io m
 |_,_,m=>m
theorem kM (l:Nat) (ρ:lN) (b:bc) (io:List bc) (m:Mem):fF (l::ρ) (b::io) m=(l,b)::fF ρ io m:=rfl
theorem Bz (io:List bc) (m:Mem):fF [] io m=m:=rfl
def CO (P:Program) (f:FuncId) (d:Nat) (ρ:lN) (io:List bc) (args:lA) (m:Mem) (k:AV->Mem->Prop) (_:Pack k):Prop:=
 ∃post,pD P f io args post/\∀r io',post r io'->my (1000*(d+1)) r (fF ρ io' m) k
@[congr] theorem RW {P:Program} {f:FuncId} {d:Nat} {ρ:lN} {io io':List bc} {args args':lA} {m:Mem} {k:AV->Mem->Prop} {q:Pack k} (h:io=io') (h':args=args'):CO P f d ρ io args m k q=CO P f d ρ io' args' m k q:=by rw [h,h']
theorem aO {P:Program} {f:FuncId} {d:Nat} {ρ:lN} {io io1:List bc} {args:lA} {m:Mem} {k:AV->Mem->Prop} {r:AV} (h:pD P f io args (λx io'=>x=r/\io'=io1)) (hk:my (1000*(d+1)) r (fF ρ io1 m) k) {q:Pack k}:CO P f d ρ io args m k q:=
 ⟨_,h,λ_ _ ⟨e,e'⟩=>by subst e;subst e';exact hk⟩
theorem xU {k:List bc->Prop}:∀(ρ:lN) (acc:List bc),oQ m k acc ρ->ρ.Nodup/\∃io,k (acc.reverse++io)/\io.length=ρ.length/\∀j (h:j<ρ.length) (h':j<io.length),ah m ρ[j]=some io[j]/\fX io[j]
 | [],acc,hk=>by
   have hk1:k acc.reverse:=hk;exact ⟨q12,[],by simpa using hk1,rfl,λj h=>absurd h (q16 _)⟩
 |l::r,acc,hk=>by
  obtain ⟨hn,hk⟩:=hk;have main:∀b,ah m l=some b->fX b->oQ m k (b::acc) r->(l::r).Nodup/\∃io,k (acc.reverse++io)/\io.length=(l::r).length/\∀j (h:j<(l::r).length) (h':j<io.length),ah m (l::r)[j]=some io[j]/\fX io[j]:=by
   intro b hb hf hk;obtain ⟨h0,io,h1,h2,h3⟩:=xU r (b::acc) hk;refine ⟨List.nodup_cons.2 ⟨Bw hn,h0⟩,b::io,by simpa using h1,by simp [h2],λj hj hj'=> ?_⟩;cases j with
   |zero=>exact ⟨hb,hf⟩
   |succ j=>exact h3 j (by simpa using hj) (by simpa using hj')
  unfold sj at hk;split at hk
  . rename_i hb;exact main _ hb trivial hk
  . rename_i hb;exact main _ hb hk.1 hk.2
  exact hk.elim
theorem xV {l:Nat} {k:nP}:∀(ρ:lN) (i:Nat),vV l k i ρ->∃j,∃h:j<ρ.length,ρ[j]=l/\k (i+j)
 | [],_,hk=>hk.elim
 |l0::r,i,hk=>by
  rw [ku] at hk;split at hk
  . rename_i e;exact ⟨0,by simp,e,hk⟩
  obtain ⟨j,h1,h2,h3⟩:=xV r (i+1) hk;exact ⟨j+1,by simpa using h1,by simpa using h2,by rw [show i+(j+1)=i+1+j by omega];exact h3⟩
def om (φ:Nat->LS) (ρ:lN):Nat->LS:=λl=>if bC<=l then (match ρ[l-bC]? with|some l'=>φ l'|none=>.dead) else .dead
def p6 (fp:Nat->lN) (ρ:lN):Nat->lN:=λl=>if bC<=l then (match ρ[l-bC]? with|some l'=>fp l'|none=>[]) else []
theorem fY (φ:Nat->LS) {ρ:lN} {j:Nat} (h:j<ρ.length):om φ ρ (bC+j)=φ ρ[j]:=by simp [om,h]
theorem wk (fp:Nat->lN) {ρ:lN} {j:Nat} (h:j<ρ.length):p6 fp ρ (bC+j)=fp ρ[j]:=by simp [p6,h]
theorem gY {fp:Nat->lN} {ρ:lN} {l b:Nat} (h:b∈p6 fp ρ l):∃j,∃hj:j<ρ.length,l=bC+j/\b∈fp ρ[j]:=by
 unfold p6 at h;split at h
 . rename_i hl;split at h
   . rename_i l' hl';obtain ⟨hj,e⟩:=List.getElem?_eq_some_iff.1 hl';exact ⟨l-bC,hj,by omega,by rw [e];exact h⟩
   cases h
 cases h
theorem Jy {io:List bc} {ρ:lN} (hio:io.length=ρ.length) (hlk:∀j (h:j<ρ.length) (h':j<io.length),ah m ρ[j]=some io[j]/\fX io[j]) {x:AV} {v:Value} (hx:RV w S φ x v) (hxl:∀l af,(l,af)∈ao x->known m l af)
 {k:AV->Prop} (hk:zE ρ x k):∃y,k y/\RV w S (om φ ρ) y v/\leaf y/\∀l af,(l,af)∈ao y->known (mg 0 io) l af:=by
 have kn:∀j (hj:j<ρ.length) af,known m ρ[j] af->known (mg 0 io) (bC+j) af:=by rintro j hj af ⟨k',h1,h2⟩;rw [(hlk j hj (by omega)).1] at h1;have h1:=Option.some.inj h1;refine ⟨io[j]'(by omega),?_,by rw [h1];exact h2⟩;rw [mC,if_pos (by omega)];simp<;>omega
 have flat:∀y,ao y=[]->leaf y->k y->RV w S φ y v->∃y,k y/\RV w S (om φ ρ) y v/\leaf y/\∀l af,(l,af)∈ao y->known (mg 0 io) l af:=by intro y hl hlf hk hv;exact ⟨y,hk,.rd _ _ (cU hv hl),hlf,λl af h=>by rw [hl] at h;cases h⟩
 unfold zE at hk;split at hk
 . rename_i l af i n;obtain ⟨j,hj,rfl,hk1⟩:=xV ρ 0 hk;simp only [Nat.zero_add] at hk1;obtain ⟨r1,r2⟩:=dq hx;have h3:v.oneCell'=true:=hx.aT trivial;refine ⟨_,hk1,.ref _ _ _ _ _ (λb sh hb=> ?_) (λhb=> ?_) h3,trivial,λl' ver' hl'=> ?_⟩
   . rw [show (1000000000+j)=bC+j from rfl,fY φ hj] at hb;exact r1 b sh hb
   . rw [show (1000000000+j)=bC+j from rfl,fY φ hj] at hb;exact r2 hb
   simp only [ao,q10,Prod.mk.injEq] at hl';obtain ⟨rfl,rfl⟩:=hl';exact kn j hj _ (hxl _ _ (by simp [ao]))
 . rename_i l af i n;obtain ⟨j,hj,rfl,hk1⟩:=xV ρ 0 hk;simp only [Nat.zero_add] at hk1;have h3:v.oneCell'=true:=hx.aT trivial;refine ⟨_,hk1,?_,trivial,λl' ver' hl'=> ?_⟩
   . cases hx with
     |rd _ _ h=>cases h
     |ptr _ _ _ _ _ h1 h2 _=>
      refine .ptr _ _ _ _ _ (λb sh hb=> ?_) (λhb=> ?_) h3
      . rw [show (1000000000+j)=bC+j from rfl,fY φ hj] at hb;exact h1 b sh hb
      rw [show (1000000000+j)=bC+j from rfl,fY φ hj] at hb;exact h2 hb
   simp only [ao,q10,Prod.mk.injEq] at hl';obtain ⟨rfl,rfl⟩:=hl';exact kn j hj _ (hxl _ _ (by simp [ao]))
 . rename_i u;exact flat (.val u) rfl trivial hk hx
 . exact flat .e0 rfl trivial hk hx
 . rename_i sh xs;exact flat (.arr sh xs) rfl trivial hk hx
 . rename_i sh xs i j;exact flat (.bo sh xs i j) rfl trivial hk hx
 exact hk.elim
theorem EY {io:List bc} {ρ:lN} (hio:io.length=ρ.length) (hlk:∀j (h:j<ρ.length) (h':j<io.length),ah m ρ[j]=some io[j]/\fX io[j]) {Q:lA->Prop}:
 ∀(xs:lA) (vs:lV) (acc:lA),vs.length=xs.length->(∀i (h:i<xs.length),RV w S φ xs[i] (vs.getD i uD))->(∀i (h:i<xs.length) l af,(l,af)∈ao xs[i]->known m l af)->qt ρ Q acc xs→
  ∃ys,Q (acc.reverse++ys)/\ys.length=xs.length/\∀i (h:i<ys.length),RV w S (om φ ρ) ys[i] (vs.getD i uD)/\leaf ys[i]/\∀l af,(l,af)∈ao ys[i]->known (mg 0 io) l af
 | [],vs,acc,_,_,_,hk=>by
   have hk1:Q acc.reverse:=hk;exact ⟨[],by simpa using hk1,rfl,λi h=>absurd h (q16 _)⟩
 |x::xs,vs,acc,hl,hx,hxl,hk=>by
  cases vs with
  |nil=>simp at hl
  |cons v vs=>
   obtain ⟨y,h1,h2,h3,h4⟩:=Jy hio hlk (hx 0 (by simp)) (hxl 0 (by simp)) hk;obtain ⟨ys,g1,g2,g3⟩:=EY hio hlk xs vs (y::acc) (by simpa using hl) (λi hi=>hx (i+1) (by simpa using hi)) (λi hi=>hxl (i+1) (by simpa using hi)) h1;refine ⟨y::ys,by simpa using g1,by simp [g2],λi hi=> ?_⟩;cases i with
   |zero=>exact ⟨h2,h3,h4⟩
   |succ i=>exact g3 i (by simpa using hi)
theorem Ol {io:List bc} {ρ:lN} (hio:io.length=ρ.length) (hlk:∀j (h:j<ρ.length) (h':j<io.length),ah m ρ[j]=some io[j]/\fX io[j]) {x:AV} {v:Value} (hx:RV w S φ x v) (hxl:∀l af,(l,af)∈ao x->known m l af)
 {k:AV->Prop} (hk:mD ρ x k):∃y,k y/\RV w S (om φ ρ) y v/\∀l af,(l,af)∈ao y->known (mg 0 io) l af:=by
 unfold mD at hk;split at hk
 . rename_i xs;obtain ⟨cs,rfl,h1,h2,h3⟩:=na hx;obtain ⟨ys,g1,g2,g3⟩:=EY hio hlk xs cs.toList [] (by simpa using h1) h3 (λi hi l af hl=>hxl l af (by simp only [ao];exact bp hi hl)) hk;refine ⟨.agg ys,by simpa using g1,.agg ys cs (h1.trans g2.symm) (λi hi=>(g3 i hi).2.1) (λi hi=>(g3 i hi).1),λl af hl=> ?_⟩;simp only [ao] at hl;obtain ⟨i,hi,hl⟩:=bK hl;exact (g3 i hi).2.2 l af hl
 obtain ⟨y,h1,h2,_,h4⟩:=Jy hio hlk hx hxl hk;exact ⟨y,h1,h2,h4⟩
theorem xW {io:List bc} {ρ:lN} (hio:io.length=ρ.length) (hlk:∀j (h:j<ρ.length) (h':j<io.length),ah m ρ[j]=some io[j]/\fX io[j]) {Q:lA->Prop}:
 ∀(xs:lA) (vs:lV) (acc:lA),vs.length=xs.length->(∀i (h:i<xs.length),RV w S φ xs[i] (vs.getD i uD))->(∀i (h:i<xs.length) l af,(l,af)∈ao xs[i]->known m l af)->n7 ρ Q acc xs→
  ∃ys,Q (acc.reverse++ys)/\ys.length=xs.length/\∀i (h:i<ys.length),RV w S (om φ ρ) ys[i] (vs.getD i uD)/\∀l af,(l,af)∈ao ys[i]->known (mg 0 io) l af
 | [],vs,acc,_,_,_,hk=>by
   have hk1:Q acc.reverse:=hk;exact ⟨[],by simpa using hk1,rfl,λi h=>absurd h (q16 _)⟩
 |x::xs,vs,acc,hl,hx,hxl,hk=>by
  cases vs with
  |nil=>simp at hl
  |cons v vs=>
   obtain ⟨y,h1,h2,h4⟩:=Ol hio hlk (hx 0 (by simp)) (hxl 0 (by simp)) hk;obtain ⟨ys,g1,g2,g3⟩:=xW hio hlk xs vs (y::acc) (by simpa using hl) (λi hi=>hx (i+1) (by simpa using hi)) (λi hi=>hxl (i+1) (by simpa using hi)) h1;refine ⟨y::ys,by simpa using g1,by simp [g2],λi hi=> ?_⟩;cases i with
   |zero=>exact ⟨h2,h4⟩
   |succ i=>exact g3 i (by simpa using hi)
theorem lM:∀(ρ:lN) (io:List bc),io.length=ρ.length->ρ.Nodup->∀l,(∀j (h:j<ρ.length),ρ[j]=l->ah (fF ρ io m) l=io[j]?)/\(l∉ρ->ah (fF ρ io m) l=ah m l)
 | [],io,_,_,l=>⟨λj h=>absurd h (q16 _),λ_=>by rw [Bz]⟩
 |l0::ρ,[],h,_,_=>by simp at h
 |l0::ρ,b::io,h,hn,l=>by
  obtain ⟨hn1,hn2⟩:=List.nodup_cons.1 hn;obtain ⟨ih1,ih2⟩:=lM ρ io (by simpa using h) hn2 l;refine ⟨λj hj e=> ?_,λhl=> ?_⟩
  . rw [kM,aw];cases j with
    |zero=>rw [if_pos (by simpa using e)];rfl
    |succ j=>
     have e':ρ[j]'(by simpa using hj)=l:=(by simpa using e);rw [if_neg (λe2=>hn1 (by rw [e2,←e'];exact List.getElem_mem _))];rw [ih1 j (by simpa using hj) e'];rfl
  rw [kM,aw,if_neg (λe=>hl (by rw [←e];exact List.mem_cons_self ..))];exact ih2 λhm=>hl (List.mem_cons_of_mem _ hm)
theorem Ht {f:FuncId} {ρ:lN} {io:List bc} {args xs:lA} (hnd:ρ.Nodup) (hio:io.length=ρ.length)
 (hlk:∀j (h:j<ρ.length) (h':j<io.length),ah m ρ[j]=some io[j]/\fX io[j]) {vs:aV} (h:RS B N φ fp S ts m a w) (hvl:vs.size=args.length)
 (hx:∀i (h:i<args.length),RV w S (om φ ρ) args[i] (vs.toList.getD i uD)/\∀l af,(l,af)∈ao args[i]->known (mg 0 io) l af) {post:AV->List bc->Prop} (hf:pD P f io args post):
 Calls P f vs w λe w'=>∃v r io' fp2 T fs,e= .returned v/\post r io'/\RS B N φ fp2 T ts (fF ρ io' m) a w'/\jH w w'/\io'.length=ρ.length∧
  Own w' (λ_=>False) r v fs/\(∀j (h:j<ρ.length) b,b∈fp2 ρ[j]->w.heap.size<=b\/b∈fp ρ[j])/\fs.Nodup/\∀b,b∈fs->w.heap.size<=b/\¬T b/\∀l,b∉fp2 l:=by
 have inj:∀i j (hi:i<ρ.length) (hj:j<ρ.length),ρ[i]=ρ[j]->i=j:=λi j hi hj e=>(List.getElem_inj hnd).1 e;have look0:∀l,ah (mg 0 io) l=if bC<=l then io[l-bC]? else none:=λl=>by rw [mC];rfl
 have at_:∀l b,ah (mg 0 io) l=some b->∃j,∃hj:j<ρ.length,∃hj':j<io.length,l=bC+j/\b=io[j]:=by
  intro l b hb;rw [look0] at hb;split at hb
  . rename_i hl;obtain ⟨hj,e⟩:=List.getElem?_eq_some_iff.1 hb;exact ⟨l-bC,by omega,hj,by omega,e.symm⟩
  cases hb
 have hR0:RS (Hr w (om φ ρ) (p6 fp ρ) S io) vs.size (om φ ρ) (p6 fp ρ) S (bF 0 args) (mg 0 io) {tmps:=vs,defers:=[]} w:=by
  refine {tm:=λt=> ?_,tl:=λt l af hl=> ?_,b_:=λl hl=> ?_,aG:=λl b hb=> ?_,bl:=λl v xs hb l' af hl=> ?_,ia:=λl=> ?_,fJ:=λl l' b h1 h2=> ?_,
          bQ:=λl b hb=> ?_,cu:=λl b hb=> ?_,sB:=λb hb=>⟨(h.sB b hb).1,.inr hb⟩,base:=λb _ _=>rfl,out:=a7.refl _,kq:=jH.refl _,kn:=λ_ _ _ hk=>hk,fix:=λ_ _ _ _=>LS.le_refl _ _,
          size:=Nat.le_refl _,defers:=rfl,lq:=rfl,jv:=h.jv}
  . rw [bG];by_cases ht:t<args.length
    . have e:(if 0<=t then (args[t-0]?).getD AV.undef else .undef)=args[t]:=(by simp [ht]);rw [e];have:=(hx t ht).1;have e2:vs.toList.getD t uD=vs.getD t uD:=by
       simp [q4,q0]
      rw [←e2];exact this
    have e:(if 0<=t then (args[t-0]?).getD AV.undef else .undef)= .undef:=(by simp [List.getElem?_eq_none (show args.length<=t by omega)]);rw [e];exact .rd _ _ (.undef _)
  . rw [bG] at hl;by_cases ht:t<args.length
    . have e:(if 0<=t then (args[t-0]?).getD AV.undef else .undef)=args[t]:=(by simp [ht]);rw [e] at hl;exact (hx t ht).2 l af hl
    have e:(if 0<=t then (args[t-0]?).getD AV.undef else .undef)= .undef:=(by simp [List.getElem?_eq_none (show args.length<=t by omega)]);rw [e] at hl;cases hl
  . rw [look0] at hl;unfold om p6;split at hl
    . rename_i hl';have:ρ[l-bC]? =none:=List.getElem?_eq_none (by have:=List.getElem?_eq_none_iff.1 hl;omega);rw [if_pos hl',if_pos hl',this];exact ⟨rfl,rfl⟩
    rename_i hl';rw [if_neg hl',if_neg hl'];exact ⟨rfl,rfl⟩
  . obtain ⟨j,hj,hj',rfl,rfl⟩:=at_ l b hb;have hb0:=h.aG ρ[j] _ (hlk j hj hj').1;have hfr:=(hlk j hj hj').2;rw [wk fp hj];generalize io[j]=b at hb0 hfr;cases b with
    |gone v=>exact ⟨by rw [fY φ hj];exact hb0.1,hb0.2⟩
    |row v sh dp xs=>
     rcases hb0 with ⟨q1,q2,q3⟩|⟨b,cap,q1,q2⟩
     . exact .inl ⟨by rw [fY φ hj];exact q1,q2,q3⟩
     exact .inr ⟨b,cap,by rw [fY φ hj];exact q1,q2⟩
    |kb v xs i u=>exact hfr.elim
    |sub v sh xs u=>exact hfr.elim
    |box v xs=>
     obtain ⟨b,cs,e,sh,q1,q2,q3,q4,q5,q6⟩:=hb0;exact ⟨b,cs,e,sh,by rw [fY φ hj];exact q1,q2,q3,q4,q5,λi hi=>.rd _ _ (cU (q6 i hi) (bM hfr i hi))⟩
  . obtain ⟨j,hj,hj',rfl,e⟩:=at_ l _ hb;have hfr:=(hlk j hj hj').2;rw [←e] at hfr;have hfr:aq xs=[]:=hfr;rw [hfr] at hl;cases hl
  . unfold p6;split
    . split
      . exact h.ia _
      exact q12
    exact q12
  . obtain ⟨i,hi,rfl,b1⟩:=gY h1;obtain ⟨j,hj,rfl,b2⟩:=gY h2;have:=inj i j hi hj (h.fJ _ _ b b1 b2);subst this;rfl
  . obtain ⟨i,hi,rfl,b1⟩:=gY hb;exact h.bQ _ b b1
  obtain ⟨i,hi,rfl,b1⟩:=gY hb;exact ⟨(h.cu _ b b1).1,.inr ⟨_,hb,by omega,.inl rfl⟩⟩
 refine (hf.2 w (om φ ρ) (p6 fp ρ) S vs hvl hR0).mono ?_;rintro e w' ⟨r,v,io',φ',fp',S',m',rfl,gO,hR,⟨hl',hok⟩,fs,a_,VU,hfr⟩;have hl2:io'.length=ρ.length:=hl'.trans hio;have ja:∀b:Nat,b<w.heap.size->(∀j (hj:j<ρ.length),b∉fp ρ[j])->w'.heap[b]? =w.heap[b]? :=λb hb hn=>hR.base b hb λl hb'=>by obtain ⟨j,hj,rfl,hb2⟩:=gY hb';exact hn j hj hb2
 have lf:∀b,S b->w'.heap[b]? =w.heap[b]? :=λb hb=>ja b (h.sB b hb).1 λj hj hb'=>h.bQ _ b hb' hb;have hz:fT φ w w':=λl b sh af cs e _ hb=>hR.kq b cs e hb;have hm2:=λl=>lM (m:=m) ρ io' hl2 hnd l;have hkn:∀l af,known m l af->known (fF ρ io' m) l af:=by
  rintro l af ⟨k',h1,h2⟩;by_cases hl:l∈ρ
  . obtain ⟨j,hj,rfl⟩:=q8 hl;have e:=(hm2 ρ[j]).1 j hj rfl;rw [q5 (by omega)] at e;rw [(hlk j hj (by omega)).1] at h1;have h1:=Option.some.inj h1;exact ⟨_,e,by rw [(hok j (by omega) (by omega)).2.1,h1];exact h2⟩
  exact ⟨k',((hm2 l).2 hl).trans h1,h2⟩
 let T:Nat->Prop:=λb=>S b\/(S' b/\w.heap.size<=b);have hST:∀b,S' b->T b:=λb hb=>by
  rcases (hR.sB b hb).2 with hh|hh
  . exact .inr ⟨hb,hh⟩
  exact .inl hh
 let fp2:Nat->lN:=λl=>match ρ.idxOf? l with|some j=>fp' (bC+j)|none=>fp l
 have fp2in:∀j (hj:j<ρ.length),fp2 ρ[j]=fp' (bC+j):=by
  intro j hj;have:ρ.idxOf? ρ[j]=some j:=by rw [List.idxOf?,List.findIdx?_eq_some_iff_getElem];refine ⟨hj,by simp,λi hi=> ?_⟩;simp only [beq_iff_eq];intro e2;have:=inj i j (by omega) hj e2;omega
  show (match ρ.idxOf? ρ[j] with|some j=>fp' (bC+j)|none=>fp ρ[j])=_;rw [this]
 have fp2out:∀l,l∉ρ->fp2 l=fp l:=by
  intro l hl;have:ρ.idxOf? l=none:=by simpa [List.idxOf?_eq_none_iff] using hl
  show (match ρ.idxOf? l with|some j=>fp' (bC+j)|none=>fp l)=_;rw [this]
 have fpnew:∀j (hj:j<ρ.length) b,b∈fp' (bC+j)->b<w'.heap.size/\(w.heap.size<=b\/b∈fp ρ[j]):=by
  intro j hj b hb;have:=hR.cu _ b hb;refine ⟨this.1,this.2.imp id λhh=> ?_⟩;obtain ⟨l',hb2,_,hl3⟩:=hh;have hl3:l'=bC+j:=hl3.resolve_right λe=>by have e:ah (mg 0 io) (bC+j)=none:=e;rw [look0,if_pos (by omega),List.getElem?_eq_none_iff] at e;omega
  subst hl3;have hh:b∈p6 fp ρ (bC+j):=hb2
  rwa [wk fp hj] at hh
 have hRS:RS B N φ fp2 T ts (fF ρ io' m) a w':=by
  refine {tm:=λt=>(h.tm t).mono lf (λb hb=>.inl hb) hz λl af _=>LS.le_refl _ _,tl:=λt l af hl=>hkn l af (h.tl t l af hl),b_:=λl hl=> ?_,aG:=λl b hb=> ?_,
          bl:=λl v xs hb l' af hl=> ?_,ia:=λl=> ?_,fJ:=λl l' b h1 h2=> ?_,bQ:=λl b hb=> ?_,cu:=λl b hb=> ?_,sB:=λb hb=> ?_,base:=λb hb hio=> ?_,
          out:=h.out.trans hR.out,kq:=h.kq.trans hR.kq,kn:=λl af hl hk=>hkn l af (h.kn l af hl hk),fix:=h.fix,size:=q14 h.size hR.size,defers:=h.defers,lq:=h.lq,jv:=h.jv.mono lf λb hb=>.inl hb}
  . by_cases hm:l∈ρ
    . obtain ⟨j,hj,rfl⟩:=q8 hm;rw [(hm2 ρ[j]).1 j hj rfl,q5 (by omega)] at hl;cases hl
    rw [(hm2 l).2 hm] at hl;rw [fp2out l hm];exact h.b_ l hl
  . by_cases hm:l∈ρ
    . obtain ⟨j,hj,rfl⟩:=q8 hm;rw [(hm2 ρ[j]).1 j hj rfl,q5 (by omega)] at hb;have hb:=Option.some.inj hb;subst hb;obtain ⟨g1,g2,g3⟩:=hok j (by omega) (by omega);have hB:=hR.aG _ _ g1;have VV:known (mg 0 io) (bC+j) (io[j]'(by omega)).af:=⟨io[j]'(by omega),by rw [look0,if_pos (by omega)];simp<;>omega,Nat.le_refl _⟩;have rD:=hR.fix (bC+j) _ (by omega) VV;have rD:LS.le (φ' (bC+j)) (φ ρ[j]) (io[j]'(by omega)).af:=(by rw [←fY φ hj];exact rD);rw [fp2in j hj];rw [←g2] at rD;generalize io'[j]=b at hB rD g3;cases b with
      |gone v=>exact g3.elim
      |row v sh dp xs=>
       rcases hB with ⟨q1,q2,q3⟩|⟨b,cap,q1,q2,q3,q4⟩
       . exact .inl ⟨rD.2 q1,q2,q3⟩
       refine .inr ⟨b,cap,rD.1 _ _ q1,q2,q3,?_⟩;cases dp with
       |true=>exact q4
       |false=>exact q4.mono (λ_ _=>rfl) hST (λ_ _=>rfl)
      |kb v xs i u=>exact g3.elim
      |sub v sh xs u=>exact g3.elim
      |box v xs=>
       obtain ⟨b,cs,e,sh,q1,q2,q3,q4,q5,q6⟩:=hB;exact ⟨b,cs,e,sh,rD.1 _ _ q1,q2,q3,q4,q5,λi hi=>.rd _ _ ((cU (q6 i hi) (bM g3 i hi)).mono (λ_ _=>rfl) hST)⟩
    rw [(hm2 l).2 hm] at hb;rw [fp2out l hm];refine (h.aG l b hb).mono lf (λb hb=>.inl hb) hz (λc hc=>ja c (h.cu l c hc).1 λj hj hc'=>hm ?_) rfl λ_ _ _ _ _ _=>LS.le_refl _ _;rw [h.fJ _ _ c hc hc'];exact List.getElem_mem hj
  . by_cases hm:l∈ρ
    . obtain ⟨j,hj,rfl⟩:=q8 hm;rw [(hm2 ρ[j]).1 j hj rfl,q5 (by omega)] at hb;have hb:=Option.some.inj hb;have g3:=(hok j (by omega) (by omega)).2.2;rw [hb] at g3;have g3:aq xs=[]:=g3;rw [g3] at hl;cases hl
    rw [(hm2 l).2 hm] at hb;exact hkn l' af (h.bl l v xs hb l' af hl)
  . by_cases hm:l∈ρ
    . obtain ⟨j,hj,rfl⟩:=q8 hm;rw [fp2in j hj];exact hR.ia _
    rw [fp2out l hm];exact h.ia l
  . have mixed:∀j (hj:j<ρ.length) l,l∉ρ->b∈fp' (bC+j)->b∈fp l->False:=by
     intro j hj l hm b1 b2;rcases (fpnew j hj b b1).2 with hh|hh
     . have:=(h.cu l b b2).1;omega
     exact hm (by rw [h.fJ _ _ b b2 hh];exact List.getElem_mem hj)
    by_cases m1:l∈ρ
    . obtain ⟨j,hj,rfl⟩:=q8 m1;rw [fp2in j hj] at h1;by_cases m2:l'∈ρ
      . obtain ⟨j',hj',rfl⟩:=q8 m2;rw [fp2in j' hj'] at h2;have:=hR.fJ _ _ b h1 h2;have:j=j':=(by omega);subst this;rfl
      rw [fp2out l' m2] at h2;exact (mixed j hj l' m2 h1 h2).elim
    rw [fp2out l m1] at h1;by_cases m2:l'∈ρ
    . obtain ⟨j',hj',rfl⟩:=q8 m2;rw [fp2in j' hj'] at h2;exact (mixed j' hj' l m1 h2 h1).elim
    rw [fp2out l' m2] at h2;exact h.fJ l l' b h1 h2
  . by_cases hm:l∈ρ
    . obtain ⟨j,hj,rfl⟩:=q8 hm;rw [fp2in j hj] at hb;rintro (hs|hs)
      . rcases (fpnew j hj b hb).2 with hh|hh
        . have:=(h.sB b hs).1;omega
        exact h.bQ _ b hh hs
      exact hR.bQ _ b hb hs.1
    rw [fp2out l hm] at hb;rintro (hs|hs)
    . exact h.bQ l b hb hs
    have:=(h.cu l b hb).1;omega
  . by_cases hm:l∈ρ
    . obtain ⟨j,hj,rfl⟩:=q8 hm;rw [fp2in j hj] at hb;have:=fpnew j hj b hb;refine ⟨this.1,?_⟩;rcases this.2 with hh|hh
      . exact .inl (q14 h.size hh)
      exact (h.cu _ b hh).2
    rw [fp2out l hm] at hb;have:=h.cu l b hb;exact ⟨q15 this.1 hR.size,this.2⟩
  . rcases hb with hs|hs
    . have:=h.sB b hs;exact ⟨q15 this.1 hR.size,this.2⟩
    exact ⟨(hR.sB b hs.1).1,.inl (q14 h.size hs.2)⟩
  refine (ja b (q15 hb h.size) λj hj hb'=> ?_).trans (h.base b hb hio);rcases (h.cu _ b hb').2 with hh|hh
  . omega
  exact hio _ hh.choose_spec.1
 refine ⟨v,r,io',fp2,T,fs,rfl,gO,hRS,hR.kq,hl2,a_,λj hj b hb=>(fpnew j hj b (by rw [←fp2in j hj];exact hb)).2,VU,λb hb=> ?_⟩;obtain ⟨q1,q2,q3⟩:=hfr b hb;refine ⟨q1,?_,λl hl=> ?_⟩
 . rintro (hs|hs)
   . have:=(h.sB b hs).1;omega
   exact q2 hs.1
 by_cases hm:l∈ρ
 . obtain ⟨j,hj,rfl⟩:=q8 hm;rw [fp2in j hj] at hl;exact q3 _ (by omega) hl
 rw [fp2out l hm] at hl;have:=(h.cu l b hl).1;omega
theorem EZ {f:FuncId} {d:Nat} {ρ:lN} {io:List bc} {args xs:lA} {k:AV->Mem->Prop} (hnd:ρ.Nodup) (hio:io.length=ρ.length)
 (hlk:∀j (h:j<ρ.length) (h':j<io.length),ah m ρ[j]=some io[j]/\fX io[j]) {vs:aV} (h:RS B N φ fp S ts m a w) (hvl:vs.size=args.length)
 (hx:∀i (h:i<args.length),RV w S (om φ ρ) args[i] (vs.toList.getD i uD)/\∀l af,(l,af)∈ao args[i]->known (mg 0 io) l af) {post:AV->List bc->Prop} (hf:pD P f io args post)
 (hk:∀r io',post r io'->my (1000*(d+1)) r (fF ρ io' m) k):
 Calls P f vs w λe w'=>∃v,e= .returned v/\iw B N a (λx ts' m'=>ts'=ts/\k x m') v w':=by
 refine (Ht hnd hio hlk h hvl hx hf (xs:=xs)).mono ?_;rintro e w' ⟨v,r,io',fp2,T,fs,rfl,gO,hRS,_,_,a_,_,VU,hfr⟩;obtain ⟨φ3,fp3,y,m3,g1,g2,g3,g4⟩:=CI hRS a_ VU (λb hb=>⟨q14 h.size (hfr b hb).1,(hfr b hb).2.1,(hfr b hb).2.2⟩) _ (hk r io' gO);exact ⟨v,rfl,φ3,fp3,T,ts,m3,y,g1.rs,g3,g4,rfl,g2⟩
theorem aU {f:FuncId} {d:Nat} {xs ts:lA} {m:Mem} {k:AV->Mem->Prop} (ρ:lN) (h:oQ m (λio=>n7 ρ (λargs=>CO P f d ρ io args m k ⟨⟩) [] xs) [] ρ) {q:Pack k}:eR P f d xs ts m k q:=by refine .inl λB N φ fp S ts a w vs hRS hsz hx hxl=> ?_;obtain ⟨hnd,io,h1,h2,h3⟩:=xU ρ [] h;rw [List.reverse_nil,q11] at h1;obtain ⟨args,g1,g2,g3⟩:=xW (w:=w) (S:=S) (φ:=φ) h2 h3 xs vs.toList [] (by simpa using hsz) hx hxl h1;rw [List.reverse_nil,q11] at g1;obtain ⟨post,hf,hk⟩:=g1;exact ⟨hf.1,EZ hnd h2 h3 hRS (hsz.trans g2.symm) g3 hf hk (xs:=xs)⟩
end
def nl (x y:AV):Prop:=match x,y with
 | .val (.slice none 0 0),.arr _ ys=>ys=[]
 | .e0,.arr _ ys=>ys=[]
 |x,y=>x=y
theorem UZ (sh:Sh) (ys:lA):nl (.val (.slice none 0 0)) (.arr sh ys)=(ys=[]):=rfl
theorem U0 (k:IntKind) (n:Int) (y:AV):nl (.val (.int k n)) y=(.val (.int k n)=y):=by cases y<;>rfl
theorem U1 (sh:Sh) (xs:lA) (y:AV):nl (.arr sh xs) y=(.arr sh xs=y):=by cases y<;>rfl
def RX:lA->lA->Prop
 | [],ys=>[]=ys
 |x::xs,ys=>match ys with|y::ys=>nl x y/\RX xs ys| []=>False
theorem RY:RX [] []=True:=by simp [RX]
theorem Om (x y:AV) (xs ys:lA):RX (x::xs) (y::ys)=(nl x y/\RX xs ys):=rfl
def Nd (x y:AV):Prop:=match x,y with
 | .agg xs,.agg ys=>RX xs ys
 |x,y=>nl x y
theorem RZ (xs ys:lA):Nd (.agg xs) (.agg ys)=RX xs ys:=rfl
theorem R0 (sh:Sh) (ys:lA):Nd (.val (.slice none 0 0)) (.arr sh ys)=(ys=[]):=rfl
theorem R3 (k:IntKind) (n:Int) (y:AV):Nd (.val (.int k n)) y=(.val (.int k n)=y):=by cases y<;>rfl
theorem On (b:Bool) (y:AV):Nd (.val (.bool b)) y=(.val (.bool b)=y):=by cases y<;>rfl
theorem Hu (s:ByteArray) (y:AV):Nd (.val (.string s)) y=(.val (.string s)=y):=by cases y<;>rfl
theorem R4 (sh:Sh) (xs:lA) (y:AV):Nd (.arr sh xs) y=(.arr sh xs=y):=by cases y<;>rfl
def E0:lA->lA->Prop
 | [],ys=>[]=ys
 |x::xs,ys=>match ys with|y::ys=>Nd x y/\E0 xs ys| []=>False
theorem Oo:E0 [] []=True:=by simp [E0]
theorem KY (x y:AV) (xs ys:lA):E0 (x::xs) (y::ys)=(Nd x y/\E0 xs ys):=rfl
def tv (x y:AV):Prop:=match x,y with
 | .aX xs,.aX ys=>E0 xs ys
 |x,y=>Nd x y
theorem R5 (xs ys:lA):tv (.aX xs) (.aX ys)=E0 xs ys:=rfl
theorem R6 (xs ys:lA):tv (.agg xs) (.agg ys)=RX xs ys:=rfl
theorem R7 (sh:Sh) (ys:lA):tv (.val (.slice none 0 0)) (.arr sh ys)=(ys=[]):=rfl
theorem R8 (k:IntKind) (n:Int) (y:AV):tv (.val (.int k n)) y=(.val (.int k n)=y):=by cases y<;>rfl
theorem Oq (b:Bool) (y:AV):tv (.val (.bool b)) y=(.val (.bool b)=y):=by cases y<;>rfl
theorem Hv (s:ByteArray) (y:AV):tv (.val (.string s)) y=(.val (.string s)=y):=by cases y<;>rfl
theorem R9 (sh:Sh) (xs:lA) (y:AV):tv (.arr sh xs) y=(.arr sh xs=y):=by cases y<;>rfl
section
variable {w:World} {S:nP}
theorem Hw {x y:AV} {v:Value} {fs:lN} (h:Own w S x v fs) (hn:nl x y):Own w S y v fs/\(leaf x->leaf y):=by
 unfold nl at hn;split at hn
 . subst hn;cases h with
   |rd _ _ h=>cases h with|val _ _=>exact ⟨.rd _ _ (.nil _ _),λ_=>trivial⟩
 . subst hn;cases h with
   |rd _ _ h=>cases h with|e0 a=>exact ⟨.rd _ _ (.nil _ _),λ_=>trivial⟩
 subst hn;exact ⟨h,id⟩
theorem Jz:∀(xs ys:lA),RX xs ys->xs.length=ys.length/\∀i (h:i<xs.length) (h':i<ys.length),nl xs[i] ys[i]
 | [],ys,h=>by
   have h:[]=ys:=h;subst h;exact ⟨rfl,λi h=>absurd h (q16 _)⟩
 |x::xs,[],h=>h.elim
 |x::xs,y::ys,h=>by
  obtain ⟨h1,h2⟩:=Jz xs ys h.2;refine ⟨by simp [h1],λi hi hi'=> ?_⟩;cases i with
  |zero=>exact h.1
  |succ i=>exact h2 i (by simpa using hi) (by simpa using hi')
theorem E1:∀(xs ys:lA),E0 xs ys->xs.length=ys.length/\∀i (h:i<xs.length) (h':i<ys.length),Nd xs[i] ys[i]
 | [],ys,h=>by
   have h:[]=ys:=h;subst h;exact ⟨rfl,λi h=>absurd h (q16 _)⟩
 |x::xs,[],h=>h.elim
 |x::xs,y::ys,h=>by
  obtain ⟨h1,h2⟩:=E1 xs ys h.2;refine ⟨by simp [h1],λi hi hi'=> ?_⟩;cases i with
  |zero=>exact h.1
  |succ i=>exact h2 i (by simpa using hi) (by simpa using hi')
theorem JA {x y:AV} {v:Value} {fs:lN} (h:Own w S x v fs) (hn:Nd x y):Own w S y v fs:=by
 unfold Nd at hn;split at hn
 . rename_i xs ys;obtain ⟨cs,fss,rfl,rfl,h1,h2,h3,h4⟩:=CH h;obtain ⟨g1,g2⟩:=Jz xs ys hn;refine .agg ys cs fss (h1.trans g1) (λi hi=> ?_) (h3.trans g1) (λi hi=> ?_)
   . exact (Hw (h4 i (by omega)) (g2 i (by omega) hi)).2 (h2 i (by omega))
   exact (Hw (h4 i (by omega)) (g2 i (by omega) hi)).1
 exact (Hw h hn).1
theorem CP {x y:AV} {v:Value} {fs:lN} (h:Own w S x v fs) (hn:tv x y):Own w S y v fs:=by
 unfold tv at hn;split at hn
 . rename_i xs ys;obtain ⟨cs,fss,rfl,rfl,h1,h3,h4⟩:=Jq h;obtain ⟨g1,g2⟩:=E1 xs ys hn;exact .aX ys cs fss (h1.trans g1) (h3.trans g1) λi hi=>JA (h4 i (by omega)) (g2 i (by omega) hi)
 exact JA h hn
end
theorem Fn.nil {P:Program} {f:FuncId} {args:lA} {post:AV->Prop} (h:Fn P f args true (λx=>∃r,tv x r/\post r)):Fn P f args true post:=
 ⟨h.1,λw S vs h1 hk h2 h3=>(h.2 w S vs h1 hk h2 h3).mono λ_ _ ⟨x,v,g1,⟨r,g2,g3⟩,g4,g5⟩=>by
   refine ⟨r,v,g1,g3,g4,?_⟩;obtain ⟨fs,q1,q2⟩:=g5
   exact ⟨fs,CP q1 g2,q2⟩⟩
theorem pD.nil {P:Program} {f:FuncId} {io:List bc} {args:lA} {post:AV->List bc->Prop} (h:pD P f io args (λx io'=>∃r,tv x r/\post r io')):pD P f io args post:=
 ⟨h.1,λw φ fp S vs h1 h2=>(h.2 w φ fp S vs h1 h2).mono λ_ _ ⟨x,v,io',φ',fp',S',m',g1,⟨r,g2,g3⟩,g4,g5,fs,q1,q2⟩=>
   ⟨r,v,io',φ',fp',S',m',g1,g3,g4,g5,fs,CP q1 g2,q2⟩⟩
theorem Fn.av {P:Program} {f:FuncId} {fn:Func} {c:Code} {args:List AV} {r:AV} (N:Nat) (rs:List ResultVar) (hf:P.funcs[f]? =some fn) (hN:fn.ntmps=N:=by exact rfl) (hr:fn.results.toList=rs:=by exact rfl) (hn:(fn.name== "runtime.NumGoroutine")=false:=by exact rfl)
 (hb:fn.body=some c:=by exact rfl) (hok:codeOk N c=true:=by exact rfl) (ha:args.length<=N:=by exact oT rfl) (hv:vc P N c (bF 0 args) [] (fin P rs (λx=>tv x r))):Fn P f args true (· =r):=
 Fn.nil ((Fn.cW N rs hf hN hr hn hb hok ha hv).mono λx hx=>⟨r,hx,rfl⟩)
theorem pD.av {P:Program} {f:FuncId} {fn:Func} {c:Code} {io io1:List bc} {args:lA} {r:AV} (N:Nat) (rs:List ResultVar) (hf:P.funcs[f]? =some fn) (hN:fn.ntmps=N:=by exact rfl) (hr:fn.results.toList=rs:=by exact rfl)
 (hn:(fn.name== "runtime.NumGoroutine")=false:=by exact rfl) (hb:fn.body=some c:=by exact rfl) (hok:codeOk N c=true:=by exact rfl) (ha:args.length≤N:=by exact oT rfl) (hv:vc P N c (bF 0 args) (mg 0 io) (RU P rs (io.map bc.af) (fun x io'=>tv x r∧io'=io1))):
 pD P f io args (λx io'=>x=r/\io'=io1):=
 pD.nil ((pD.cW N rs hf hN hr hn hb hok ha hv).mono λx io' hx=>⟨r,hx.1,rfl,hx.2⟩)
theorem R_ (v:Nat) (sh:Sh) (d:Bool) (xs:lA):(bc.row v sh d xs).af=v:=rfl
theorem Sa (v:Nat) (xs:lA):(bc.box v xs).af=v:=rfl
def rl (l l' x:Nat):Nat:=if x=l then l' else if x=l' then l else x
theorem jN (l l' x:Nat):rl l l' (rl l l' x)=x:=by
 unfold rl;split
 . rename_i h;split
   . rename_i h2;omega
   rw [if_pos rfl];exact h.symm
 split
 . rename_i h1 h2;rw [if_pos rfl];exact h2.symm
 rfl
theorem Ot {l l' x y:Nat} (h:rl l l' x=rl l l' y):x=y:=by rw [←jN l l' x,h,jN]
theorem JB {l l' x:Nat} (h:l<bC) (h':l'<bC) (hx:bC<=x):rl l l' x=x:=by unfold rl;rw [if_neg (by omega),if_neg (by omega)]
theorem Wj {l l' x:Nat} (h:l<bC) (h':l'<bC) (hx:x<bC):rl l l' x<bC:=by unfold rl;split<;>(try split)<;>omega
theorem Wk (l l' x:Nat):rl l l' x=if x=l then l' else if x=l' then l else x:=rfl
mutual
def iS (l l':Nat):AV->AV
 | .ref k v i n=>.ref (rl l l' k) v i n
 | .ptr k v i j=>.ptr (rl l l' k) v i j
 | .agg xs=>.agg (qu l l' xs)
 | .aX xs=>.aX (qu l l' xs)
 | .cn f xs=>.cn f (qu l l' xs)
 |x=>x
def qu (l l':Nat):lA->lA
 | []=>[]
 |x::r=>iS l l' x::qu l l' r
end
theorem JC (l l' k v i n:Nat):iS l l' (.ref k v i n)= .ref (rl l l' k) v i n:=by simp [iS]
theorem JD (l l' k v i j:Nat):iS l l' (.ptr k v i j)= .ptr (rl l l' k) v i j:=by simp [iS]
theorem pF (l l':Nat) (xs:lA):iS l l' (.agg xs)= .agg (qu l l' xs):=by simp [iS]
theorem pH (l l':Nat) (xs:lA):iS l l' (.aX xs)= .aX (qu l l' xs):=by simp [iS]
theorem pI (l l':Nat) (f:FuncId) (xs:lA):iS l l' (.cn f xs)= .cn f (qu l l' xs):=by simp [iS]
theorem tx (l l':Nat):iS l l' .undef= .undef:=by simp [iS]
theorem JE (l l':Nat) (v:Value):iS l l' (.val v)= .val v:=by simp [iS]
theorem Ou (l l':Nat):iS l l' .e0= .e0:=by simp [iS]
theorem CQ (l l':Nat) (sh:Sh) (xs:lA):iS l l' (.arr sh xs)= .arr sh xs:=by simp [iS]
theorem E2 (l l':Nat) (sh:Sh) (xs:lA) (i j:Nat):iS l l' (.bo sh xs i j)= .bo sh xs i j:=by simp [iS]
theorem Sb (l l':Nat):qu l l' []=[]:=by simp [qu]
theorem oR (l l':Nat) (x:AV) (r:lA):qu l l' (x::r)=iS l l' x::qu l l' r:=by simp [qu]
theorem bX (l l':Nat):∀xs:lA,(qu l l' xs).length=xs.length
 | []=>rfl
 |x::r=>by rw [oR,List.length_cons,List.length_cons,bX l l' r]
theorem e8 (l l':Nat):∀(xs:lA) (i:Nat) (h:i<xs.length) (h':i<(qu l l' xs).length),(qu l l' xs)[i]=iS l l' xs[i]
 |x::r,0,_,_=>rfl
 |x::r,i+1,h,h'=>by have:=e8 l l' r i (by simpa using h) (by rw [bX];simpa using h);simpa [qu] using this
theorem xX {l l':Nat} {x:AV} (h:leaf x):leaf (iS l l' x):=by cases x<;>first|exact h.elim|(simp [iS];trivial)
def JF (l l':Nat):bc->bc
 | .box v xs=>.box v (qu l l' xs)
 |b=>b
theorem Sc (l l' v:Nat) (xs:lA):JF l l' (.box v xs)= .box v (qu l l' xs):=rfl
theorem Sd (l l' v:Nat) (sh:Sh) (d:Bool) (xs:lA):JF l l' (.row v sh d xs)= .row v sh d xs:=rfl
theorem Ov (l l' v:Nat):JF l l' (.gone v)= .gone v:=rfl
theorem nq (l l':Nat) (b:bc):(JF l l' b).af=b.af:=by cases b<;>rfl
def Hx (l l':Nat):Env->Env
 | []=>[]
 |(t,x)::r=>(t,iS l l' x)::Hx l l' r
theorem Se (l l':Nat):Hx l l' []=[]:=rfl
theorem E3 (l l' t:Nat) (x:AV) (r:Env):Hx l l' ((t,x)::r)=(t,iS l l' x)::Hx l l' r:=rfl
def xY (l l':Nat):Mem->Mem
 | []=>[]
 |(k,b)::r=>(rl l l' k,JF l l' b)::xY l l' r
theorem Sf (l l':Nat):xY l l' []=[]:=rfl
theorem E4 (l l' k:Nat) (b:bc) (r:Mem):xY l l' ((k,b)::r)=(rl l l' k,JF l l' b)::xY l l' r:=rfl
theorem iT (l l':Nat):∀(ts:Env) (t:Nat),look (Hx l l' ts) t=iS l l' (look ts t)
 | [],t=>(tx l l').symm
 |(k,x)::r,t=>by rw [E3,cM,cM,iT l l' r t];split<;>rfl
theorem cN (l l':Nat):∀(m:Mem) (k:Nat),ah (xY l l' m) k=(ah m (rl l l' k)).map (JF l l')
 | [],k=>rfl
 |(k0,b)::r,k=>by
  rw [E4,aw,aw,cN l l' r k];by_cases h:rl l l' k0=k
  . have:k0=rl l l' k:=(by rw [←h,jN]);rw [if_pos h,if_pos this];rfl
  have:k0≠rl l l' k:=λe=>h (by rw [e,jN]);rw [if_neg h,if_neg this]
mutual
theorem jO (l l':Nat):∀(x:AV),ao (iS l l' x)=(ao x).map λp=>(rl l l' p.1,p.2)
 | .ref k v i n=>by simp [iS,ao]
 | .ptr k v i j=>by simp [iS,ao]
 | .agg xs=>by rw [pF];simp only [ao];exact mE l l' xs
 | .aX xs=>by rw [pH];simp only [ao];exact mE l l' xs
 | .cn f xs=>by rw [pI];simp only [ao];exact mE l l' xs
 | .undef=>by simp [iS,ao]
 | .val v=>by simp [iS,ao]
 | .e0=>by simp [iS,ao]
 | .arr sh xs=>by simp [iS,ao]
 | .bo sh xs i j=>by simp [iS,ao]
theorem mE (l l':Nat):∀(xs:lA),aq (qu l l' xs)=(aq xs).map λp=>(rl l l' p.1,p.2)
 | []=>by simp [qu,aq]
 |x::r=>by rw [oR];simp only [aq];rw [jO l l' x,mE l l' r,List.map_append]
end
theorem U2 {w:World} {S:nP} {x:AV} {v:Value} (l l':Nat) (h:Rd w S x v):iS l l' x=x:=by
 have key:∀(xs:lA),(∀i (hi:i<xs.length),iS l l' xs[i]=xs[i])->qu l l' xs=xs:=by intro xs hx;refine List.ext_getElem (bX l l' xs) λi h1 h2=> ?_;rw [e8 l l' xs i h2 h1];exact hx i h2
 induction h with
 |undef v=>exact tx _ _
 |val v h=>exact JE _ _ _
 |e0 a=>exact Ou _ _
 |nil sh a=>exact CQ _ _ _ _
 |arr=>exact CQ _ _ _ _
 |agg xs cs hl hf hv ih=>rw [pF,key xs ih]
 |aX xs cs hl hv ih=>rw [pH,key xs ih]
 |bo=>exact E2 _ _ _ _ _ _
 |cn f xs cs hl hv ih=>rw [pI,key xs ih]
section
variable {B:eC} {N:Nat} {φ:Nat->LS} {fp:Nat->lN} {S:nP} {ts:Env} {m:Mem} {a:Act} {w:World}
theorem RV.DL (l l':Nat) {x:AV} {v:Value} (h:RV w S φ x v):RV w S (λk=>φ (rl l l' k)) (iS l l' x) v:=by
 induction h with
 |rd x v h=>rw [U2 l l' h];exact .rd x v h
 |agg xs cs hl hf _ ih=>
  rw [pF];refine .agg _ cs (hl.trans (bX l l' xs).symm) (λi hi=> ?_) λi hi=> ?_
  . have h':i<xs.length:=(by rw [bX] at hi;exact hi);rw [e8 l l' xs i h' hi];exact xX (hf i h')
  have h':i<xs.length:=by rw [bX] at hi;exact hi
  rw [e8 l l' xs i h' hi];exact ih i h'
 |aX xs cs hl _ ih=>
  rw [pH];refine .aX _ cs (hl.trans (bX l l' xs).symm) λi hi=> ?_;have h':i<xs.length:=by rw [bX] at hi;exact hi
  rw [e8 l l' xs i h' hi];exact ih i h'
 |cn f xs cs hl _ ih=>
  rw [pI];refine .cn f _ cs (hl.trans (bX l l' xs).symm) λi hi=> ?_;have h':i<xs.length:=by rw [bX] at hi;exact hi
  rw [e8 l l' xs i h' hi];exact ih i h'
 |ref k af i n v h1 h2 h3=>
  rw [JC];refine .ref _ _ _ _ _ (λb sh hb=>h1 b sh ?_) (λhb=>h2 ?_) h3
  . rwa [jN] at hb
  rwa [jN] at hb
 |ptr k af i j v h1 h2 h3=>
  rw [JD];refine .ptr _ _ _ _ _ (λb sh hb=>h1 b sh ?_) (λhb=>h2 ?_) h3
  . rwa [jN] at hb
  rwa [jN] at hb
theorem RS.DL (h:RS B N φ fp S ts m a w) {l l':Nat} (hl:l<bC) (hl':l'<bC):RS B N (λk=>φ (rl l l' k)) (λk=>fp (rl l l' k)) S (Hx l l' ts) (xY l l' m) a w:=by
 have kn:∀k af,known m k af->known (xY l l' m) (rl l l' k) af:=by rintro k af ⟨b,h1,h2⟩;exact ⟨JF l l' b,by rw [cN,jN,h1];rfl,by rw [nq];exact h2⟩
 have labs_in:∀(x:AV) k af,(k,af)∈ao (iS l l' x)->∃k0,k=rl l l' k0/\(k0,af)∈ao x:=by intro x k af hk;rw [jO] at hk;obtain ⟨⟨k0,v0⟩,h1,h2⟩:=List.mem_map.1 hk;simp only [Prod.mk.injEq] at h2;obtain ⟨rfl,rfl⟩:=h2;exact ⟨k0,rfl,h1⟩
 refine {tm:=λt=> ?_,tl:=λt k af hk=> ?_,b_:=λk hk=> ?_,aG:=λk b hb=> ?_,bl:=λk v xs hb k' af hk=> ?_,ia:=λk=>h.ia _,fJ:=λk k' b h1 h2=>Ot (h.fJ _ _ b h1 h2),
         bQ:=λk b hb=>h.bQ _ b hb,cu:=λk b hb=> ?_,sB:=h.sB,base:=h.base,out:=h.out,kq:=h.kq,kn:=λk af hk hv=> ?_,fix:=λk af hk hv=> ?_,size:=h.size,defers:=h.defers,lq:=h.lq,jv:=h.jv}
 . rw [iT];exact (h.tm t).DL l l'
 . rw [iT] at hk;obtain ⟨k0,rfl,h1⟩:=labs_in _ k af hk;exact kn k0 af (h.tl t k0 af h1)
 . rw [cN] at hk;exact h.b_ _ (by simpa using hk)
 . rw [cN] at hb;obtain ⟨b0,hb0,rfl⟩:=Option.map_eq_some_iff.1 hb;have hB:=h.aG _ b0 hb0;cases b0 with
   |gone v=>exact hB
   |row v sh d xs=>exact hB
   |kb v xs i u=>exact hB
   |sub v sh xs u=>exact hB
   |box v xs=>
    obtain ⟨b,cs,e,sh,h1,h2,h3,h4,h5,h6⟩:=hB;refine ⟨b,cs,e,sh,h1,h2,h3,q14 (Nat.le_of_eq (bX l l' xs)) h4,λi hi=> ?_,λi hi=> ?_⟩
    . have h':i<xs.length:=(by rw [bX] at hi;exact hi);rw [e8 l l' xs i h' hi];exact xX (h5 i h')
    have h':i<xs.length:=(by rw [bX] at hi;exact hi);rw [e8 l l' xs i h' hi];exact (h6 i h').DL l l'
 . rw [cN] at hb;obtain ⟨b0,hb0,e⟩:=Option.map_eq_some_iff.1 hb;cases b0 with
   |gone v=>cases e
   |row v sh d xs=>cases e
   |kb v xs i u=>cases e
   |sub v sh xs u=>cases e
   |box v0 xs0=>
    cases e;rw [mE] at hk;obtain ⟨⟨k0,v1⟩,h1,h2⟩:=List.mem_map.1 hk;simp only [Prod.mk.injEq] at h2;obtain ⟨rfl,rfl⟩:=h2;exact kn k0 v1 (h.bl _ _ _ hb0 k0 v1 h1)
 . have:=h.cu _ b hb;refine ⟨this.1,this.2.imp id λ⟨l0,h1,h2,h3⟩=> ?_⟩;by_cases hk:bC<=k
   . rw [JB hl hl' hk] at h3;exact ⟨l0,h1,hk,h3⟩
   have:=Wj hl hl' (Nat.lt_of_not_le hk);omega
 . have:=kn k af (h.kn k af hk hv)
   rwa [JB hl hl' hk] at this
 rw [JB hl hl' hk];exact h.fix k af hk hv
inductive U3:Env->Mem->Env->Mem->Prop
 |here {ts:Env} {m:Mem} {ts2:Env} {m2:Mem} (h:sa ts m ts2 m2):U3 ts m ts2 m2
 |mv {ts:Env} {m:Mem} {ts2:Env} {m2:Mem} (l l':Nat) (hl:l<bC) (hl':l'<bC) (h:U3 (Hx l l' ts) (xY l l' m) ts2 m2):U3 ts m ts2 m2
variable {P:Program}
end
section
variable {P:Program} {B:eC} {N:Nat} {φ:Nat->LS} {fp:Nat->lN} {S:nP} {ts:Env} {m:Mem} {a:Act} {w:World}
theorem RS.Ow (h:RS B N φ fp S ts m a w) {l l':Nat} (hl:l<bC) (h0:ah B.m0 l'=none) (hfp:∀b,b∈fp l'->B.w0.heap.size<=b):
 RS B N (λk=>φ (rl l l' k)) (λk=>fp (rl l l' k)) S (Hx l l' ts) (xY l l' m) a w:=by
 have kn:∀k af,known m k af->known (xY l l' m) (rl l l' k) af:=by rintro k af ⟨b,h1,h2⟩;exact ⟨JF l l' b,by rw [cN,jN,h1];rfl,by rw [nq];exact h2⟩
 have labs_in:∀(x:AV) k af,(k,af)∈ao (iS l l' x)->∃k0,k=rl l l' k0/\(k0,af)∈ao x:=by intro x k af hk;rw [jO] at hk;obtain ⟨⟨k0,v0⟩,h1,h2⟩:=List.mem_map.1 hk;simp only [Prod.mk.injEq] at h2;obtain ⟨rfl,rfl⟩:=h2;exact ⟨k0,rfl,h1⟩
 have hi:∀k af,bC<=k->known B.m0 k af->rl l l' k=k:=by rintro k af hk ⟨b,h1,_⟩;unfold rl;rw [if_neg (by omega),if_neg (λe=>by subst e;rw [h0] at h1;cases h1)]
 refine {tm:=λt=> ?_,tl:=λt k af hk=> ?_,b_:=λk hk=> ?_,aG:=λk b hb=> ?_,bl:=λk v xs hb k' af hk=> ?_,ia:=λk=>h.ia _,fJ:=λk k' b h1 h2=>Ot (h.fJ _ _ b h1 h2),
         bQ:=λk b hb=>h.bQ _ b hb,cu:=λk b hb=> ?_,sB:=h.sB,base:=h.base,out:=h.out,kq:=h.kq,kn:=λk af hk hv=> ?_,fix:=λk af hk hv=> ?_,size:=h.size,defers:=h.defers,lq:=h.lq,jv:=h.jv}
 . rw [iT];exact (h.tm t).DL l l'
 . rw [iT] at hk;obtain ⟨k0,rfl,h1⟩:=labs_in _ k af hk;exact kn k0 af (h.tl t k0 af h1)
 . rw [cN] at hk;exact h.b_ _ (by simpa using hk)
 . rw [cN] at hb;obtain ⟨b0,hb0,rfl⟩:=Option.map_eq_some_iff.1 hb;have hB:=h.aG _ b0 hb0;cases b0 with
   |gone v=>exact hB
   |row v sh d xs=>exact hB
   |kb v xs i u=>exact hB
   |sub v sh xs u=>exact hB
   |box v xs=>
    obtain ⟨b,cs,e,sh,h1,h2,h3,h4,h5,h6⟩:=hB;refine ⟨b,cs,e,sh,h1,h2,h3,q14 (Nat.le_of_eq (bX l l' xs)) h4,λi hi=> ?_,λi hi=> ?_⟩
    . have h':i<xs.length:=(by rw [bX] at hi;exact hi);rw [e8 l l' xs i h' hi];exact xX (h5 i h')
    have h':i<xs.length:=(by rw [bX] at hi;exact hi);rw [e8 l l' xs i h' hi];exact (h6 i h').DL l l'
 . rw [cN] at hb;obtain ⟨b0,hb0,e⟩:=Option.map_eq_some_iff.1 hb;cases b0 with
   |gone v=>cases e
   |row v sh d xs=>cases e
   |kb v xs i u=>cases e
   |sub v sh xs u=>cases e
   |box v0 xs0=>
    cases e;rw [mE] at hk;obtain ⟨⟨k0,v1⟩,h1,h2⟩:=List.mem_map.1 hk;simp only [Prod.mk.injEq] at h2;obtain ⟨rfl,rfl⟩:=h2;exact kn k0 v1 (h.bl _ _ _ hb0 k0 v1 h1)
 . have hb:=hb;unfold rl at hb;split at hb
   . refine ⟨(h.cu _ b hb).1,.inl (hfp b hb)⟩
   split at hb
   . refine ⟨(h.cu _ b hb).1,?_⟩;rcases (h.cu _ b hb).2 with hh|⟨_,_,hh,_⟩
     . exact .inl hh
     omega
   exact h.cu _ b hb
 . have:=kn k af (h.kn k af hk hv)
   rwa [hi k af hk hv] at this
 rw [hi k af hk hv];exact h.fix k af hk hv
theorem RS.back {N':Nat} {φ':Nat->LS} {fp':Nat->lN} {S':nP} {ts':Env} {m':Mem} {a':Act} {w':World} (h:RS B N φ fp S ts m a w) (hi:∀l,ah m l≠none->bC<=l)
 (h':RS ⟨w,λl b=>b∈fp l,S,φ,m⟩ N' φ' fp' S' ts' m' a' w'):RS B N φ' fp' (λb=>S b\/(S' b/\w.heap.size<=b)) ts m' a w':=by
 have hkn:∀l af,known m l af->bC<=l:=λl af ⟨k,h1,_⟩=>hi l (by rw [h1];exact λe=>by cases e);have hS:∀b,S b->w'.heap[b]? =w.heap[b]? :=λb hb=>h'.base b (h.sB b hb).1 λl hl=>h.bQ l b hl hb;have hz:fT φ w w':=λl b sh af cs e _ hb=>h'.kq b cs e hb;have hST:∀b,S' b->S b\/(S' b/\w.heap.size<=b):=λb hb=>by
  rcases (h'.sB b hb).2 with hh|hh
  . exact .inr ⟨hb,hh⟩
  exact .inl hh
 refine {tm:=λt=>(h.tm t).mono hS (λb hb=>.inl hb) hz λl af hl=>h'.fix l af (hkn l af (h.tl t l af hl)) (h.tl t l af hl),
         tl:=λt l af hl=>h'.kn l af (hkn l af (h.tl t l af hl)) (h.tl t l af hl),b_:=h'.b_,
         aG:=λl k hk=>(h'.aG l k hk).mono (λ_ _=>rfl) hST (λl b sh af cs e _ hb=>⟨cs,e,hb,rfl⟩) (λ_ _=>rfl) rfl (λ_ _ _ _ _ _=>LS.le_refl _ _),
         bl:=h'.bl,ia:=h'.ia,fJ:=h'.fJ,bQ:=λl b hb=> ?_,cu:=λl b hb=> ?_,sB:=λb hb=> ?_,base:=λb hb hio=> ?_,out:=h.out.trans h'.out,kq:=h.kq.trans h'.kq,
         kn:=λl af hl hk=>h'.kn l af hl (h.kn l af hl hk),fix:=λl af hl hk=>LS.le_trans (h'.fix l af hl (h.kn l af hl hk)) (h.fix l af hl hk),size:=q14 h.size h'.size,defers:=h.defers,lq:=h.lq,jv:=h.jv.mono hS λb hb=>.inl hb}
 . rintro (hs|hs)
   . rcases (h'.cu l b hb).2 with hh|⟨l0,hh,_⟩
     . exact absurd (h.sB b hs).1 (Nat.not_lt.2 hh)
     exact h.bQ l0 b hh hs
   exact h'.bQ l b hb hs.1
 . refine ⟨(h'.cu l b hb).1,?_⟩;rcases (h'.cu l b hb).2 with hh|⟨l0,hh,hl,h3⟩
   . exact .inl (q14 h.size hh)
   rcases (h.cu l0 b hh).2 with h4|⟨l1,h4,h5,h6⟩
   . exact .inl h4
   refine .inr ⟨l1,h4,hl,?_⟩;rcases h3 with h3|h3
   . rw [h3] at h6;exact h6
   refine .inr ?_;cases he:ah B.m0 l with
   |none=>rfl
   |some k=>
    obtain ⟨k2,h7,_⟩:=h.kn l k.af hl ⟨k,he,Nat.le_refl _⟩;have h3':ah m l=none:=h3;rw [h3'] at h7;cases h7
 . rcases hb with hs|hs
   . exact ⟨q15 (h.sB b hs).1 h'.size,(h.sB b hs).2⟩
   exact ⟨(h'.sB b hs.1).1,.inl (q14 h.size hs.2)⟩
 refine (h'.base b (q15 hb h.size) λl hl=> ?_).trans (h.base b hb hio);rcases (h.cu l b hl).2 with hh|⟨l1,hh,_⟩
 . exact absurd hb (Nat.not_lt.2 hh)
 exact hio l1 hh
end
def Ox (P:Program) (rs:List ResultVar) (k:AV->Mem->Prop):di
 | .normal=>λts m=>aN P (λxs=>k (bE xs) m) rs ts m []
 | .ret=>λts m=>aN P (λxs=>k (bE xs) m) rs ts m []
 |_=>λ_ _=>False
theorem E5 (P:Program) (rs:List ResultVar) (k:AV->Mem->Prop) (ts:Env) (m:Mem):Ox P rs k .normal ts m=aN P (λxs=>k (bE xs) m) rs ts m []:=rfl
theorem Oy (P:Program) (rs:List ResultVar) (k:AV->Mem->Prop) (ts:Env) (m:Mem):Ox P rs k .ret ts m=aN P (λxs=>k (bE xs) m) rs ts m []:=rfl
def qv:Mem->Prop
 | []=>True
 |(l,_)::r=>bC<=l/\qv r
theorem KZ:qv []=True:=rfl
theorem Hy (l:Nat) (b:bc) (r:Mem):qv ((l,b)::r)=(1000000000<=l/\qv r):=rfl
theorem pJ:∀{m:Mem},qv m->∀l,ah m l≠none->bC<=l
 | [],_,l,h=>absurd rfl h
 |(k,b)::r,⟨h1,h2⟩,l,h=>by
  rw [aw] at h;split at h
  . rename_i e;subst e;exact h1
  exact pJ h2 l h
def kN:List (Nat × Nat)->Mem->Mem
 | [],m=>m
 |(l,l')::r,m=>kN r (xY l l' m)
def p7:List (Nat × Nat)->AV->AV
 | [],x=>x
 |(l,l')::r,x=>p7 r (iS l l' x)
def mF (ρ:List (Nat × Nat)) (xs:lA):lA:=xs.map (p7 ρ)
def sn:List (Nat × Nat)->Mem->Mem
 | [],m=>m
 |(l,l')::r,m=>xY l l' (sn r m)
def so:List (Nat × Nat)->AV->AV
 | [],x=>x
 |(l,l')::r,x=>iS l l' (so r x)
def hasB (b:Option bc):Prop:=b≠none
theorem K0 (b:bc):hasB (some b)=True:=by simp [hasB]
def JG (b:Option bc):Prop:=b=none
theorem Hz:JG none=True:=by simp [JG]
def oS:List (Nat × Nat)->Mem->Prop
 | [],_=>True
 |(l,l')::r,m=>((l<bC/\bC<=l')/\hasB (ah m l)/\JG (ah m l'))/\oS r (xY l l' m)
theorem Oz (m:Mem):kN [] m=m:=rfl
theorem K1 (l l':Nat) (r:List (Nat × Nat)) (m:Mem):kN ((l,l')::r) m=kN r (xY l l' m):=rfl
theorem OA (x:AV):p7 [] x=x:=rfl
theorem K3 (l l':Nat) (r:List (Nat × Nat)) (x:AV):p7 ((l,l')::r) x=p7 r (iS l l' x):=rfl
theorem OB (ρ:List (Nat × Nat)):mF ρ []=[]:=rfl
theorem K4 (ρ:List (Nat × Nat)) (x:AV) (r:lA):mF ρ (x::r)=p7 ρ x::mF ρ r:=rfl
theorem K5 (m:Mem):sn [] m=m:=rfl
theorem HA (l l':Nat) (r:List (Nat × Nat)) (m:Mem):sn ((l,l')::r) m=xY l l' (sn r m):=rfl
theorem K6 (x:AV):so [] x=x:=rfl
theorem HB (l l':Nat) (r:List (Nat × Nat)) (x:AV):so ((l,l')::r) x=iS l l' (so r x):=rfl
theorem K7 (m:Mem):oS [] m=True:=rfl
theorem HC (l l':Nat) (r:List (Nat × Nat)) (m:Mem):oS ((l,l')::r) m=(((l<1000000000/\1000000000<=l')/\hasB (ah m l)/\JG (ah m l'))/\oS r (xY l l' m)):=rfl
def sq:List (Nat × Nat)->Prop
 | []=>True
 |(l,l')::r=>(l<bC/\l'<bC)/\sq r
theorem K8:sq []=True:=rfl
theorem HE (l l':Nat) (r:List (Nat × Nat)):sq ((l,l')::r)=((l<1000000000/\l'<1000000000)/\sq r):=rfl
def V9:lN->Nat->Bool
 | [],_=>false
 |d::D,l=>l==d||V9 D l
theorem Sg (l:Nat):V9 [] l=false:=rfl
theorem OC (d:Nat) (D:lN) (l:Nat):V9 (d::D) l=(l==d||V9 D l):=rfl
def e6 (J:Nat):lN->Mem->List (Nat × Nat)
 |_,[]=>[]
 |E,(l,_)::r=>if (decide (l<1000000000)&& !V9 E l)=true then (l,l+J)::e6 J (l::E) r else e6 J E r
theorem OD (J:Nat) (E:lN):e6 J E []=[]:=rfl
theorem K9 (J:Nat) (E:lN) (l:Nat) (b:bc) (r:Mem):e6 J E ((l,b)::r)=if (decide (l<1000000000)&& !V9 E l)=true then (l,l+J)::e6 J (l::E) r else e6 J E r:=rfl
mutual
theorem CR (l l':Nat):∀x:AV,iS l l' (iS l l' x)=x
 | .ref k v i n=>by simp [iS,jN]
 | .ptr k v i j=>by simp [iS,jN]
 | .agg xs=>by rw [pF,pF,wm l l' xs]
 | .aX xs=>by rw [pH,pH,wm l l' xs]
 | .cn f xs=>by rw [pI,pI,wm l l' xs]
 | .undef=>by simp [iS]
 | .val v=>by simp [iS]
 | .e0=>by simp [iS]
 | .arr sh xs=>by simp [iS]
 | .bo sh xs i j=>by simp [iS]
theorem wm (l l':Nat):∀xs:lA,qu l l' (qu l l' xs)=xs
 | []=>by simp [qu]
 |x::r=>by rw [oR,oR,CR l l' x,wm l l' r]
end
section
variable {P:Program} {B:eC} {N:Nat} {φ:Nat->LS} {fp:Nat->lN} {S:nP} {ts:Env} {m:Mem} {a:Act} {w:World}
theorem xZ {m:Mem} {acc:lA} {x:AV} (h:∀i (h:i<acc.reverse.length) l af,(l,af)∈ao acc.reverse[i]->known m l af) (hx:∀l af,(l,af)∈ao x->known m l af):
 ∀i (h:i<(x::acc).reverse.length) l af,(l,af)∈ao (x::acc).reverse[i]->known m l af:=by
 intro i hi l af hl;simp only [q13] at hi hl;rw [List.getElem_append] at hl;split at hl
 . exact h i _ l af hl
 simp at hl;exact hx l af hl
theorem cH (h:RS B N φ fp S ts m a w) {Q:lA->Prop}:∀(rs:List ResultVar) (acc:lA) (va:lV),pA (RV w S φ) acc.reverse va->(∀i (h:i<acc.reverse.length) l af,(l,af)∈ao acc.reverse[i]->known m l af)->aN P Q rs ts m acc→
 ∃xs vs,Q xs/\(rs.mapM (cZ a.tmps)).run P w= .ok vs w/\pA (RV w S φ) xs (va++vs)/\∀i (h:i<xs.length) l af,(l,af)∈ao xs[i]->known m l af
 | [],acc,va,ha,hl,hk=>⟨_,[],hk,by simp,by simpa using ha,hl⟩
 | .tmp t::r,acc,va,ha,hl,hk=>by
   obtain ⟨xs,vs,h1,h2,h3,h4⟩:=cH h r (look ts t::acc) (va++[a.tmps.getD t uD]) (by rw [q13];exact ha.snoc (h.tm t)) (xZ hl (λl af hl'=>h.tl t l af hl')) hk;refine ⟨xs,a.tmps.getD t uD::vs,h1,?_,by simpa using h3,h4⟩;rw [List.mapM_cons];simp only [cZ,Sem.run_bind,Sem.run_pure,Result.andThen_ok,h2]
 | .cell p t::r,acc,va,ha,hl,hk=>by obtain ⟨ti,ht,hk⟩:=bD hk;obtain ⟨ad,u,y,hv,hr,hy,hyl,hk⟩:=Bi ht h (h.tm p) hk;obtain ⟨xs,vs,h1,h2,h3,h4⟩:=cH h r (y::acc) (va++[u]) (by rw [q13];exact ha.snoc hy) (xZ hl hyl) hk;refine ⟨xs,u::vs,h1,?_,by simpa using h3,h4⟩;rw [List.mapM_cons];simp only [cZ,hv,asAddr,Sem.run_bind,Sem.run_pure,Result.andThen_ok,hr,h2]
theorem mG {ys:lA} {vs:lV} (hl:vs.length=ys.length) (hv:∀i (h:i<ys.length),RV w S φ ys[i] (vs.getD i uD)):
 RV w S φ (bE ys) (if h:vs.toArray.size=1 then vs.toArray[0] else .tuple vs.toArray):=by
 match ys,vs,hl,hv with
 | [],[],_,_=>exact .rd _ _ (.aX [] #[] rfl λi hi=>absurd hi (q16 _))
 | [y],[v],_,hv=>simpa [bE] using hv 0 (by simp)
 |y::y'::r,v::v'::r',hl,hv=>
  have:¬((v::v'::r').toArray.size=1):=by simp
  rw [dif_neg this];exact .aX _ _ (by simpa using hl) (by simpa using hv)
theorem HF {ys:lA} (h:∀i (h:i<ys.length) l af,(l,af)∈ao ys[i]->known m l af):∀l af,(l,af)∈ao (bE ys)->known m l af:=by
 intro l af hl;match ys,h,hl with
 | [],_,hl=>simp [bE,ao,aq] at hl
 | [y],h,hl=>exact h 0 (by simp) l af (by simpa [bE] using hl)
 |y::y'::r,h,hl=>
  rw [tu] at hl;simp only [ao] at hl;obtain ⟨i,hi,hl2⟩:=bK hl;exact h i hi l af hl2
theorem RS.OE:∀(σ:List (Nat × Nat)) {φ:Nat->LS} {fp:Nat->lN} {ts:Env} {m:Mem},sq σ->RS B N φ fp S ts m a w->∃φ' fp' ts',RS B N φ' fp' S ts' (kN σ m) a w/\(∀x v,RV w S φ x v->RV w S φ' (p7 σ x) v)∧
 (∀x,(∀l af,(l,af)∈ao x->known m l af)->∀l af,(l,af)∈ao (p7 σ x)->known (kN σ m) l af)/\∀l,bC<=l->fp' l=fp l
 | [],φ,fp,ts,m,_,h=>⟨φ,fp,ts,h,λ_ _ h=>h,λ_ h=>h,λ_ _=>rfl⟩
 |(l,l')::r,φ,fp,ts,m,⟨⟨h1,h2⟩,h3⟩,h=>by
  obtain ⟨φ',fp',ts',g1,g2,g3,g4⟩:=RS.OE r h3 (h.DL h1 h2);refine ⟨φ',fp',ts',g1,λx v hx=>g2 _ _ (hx.DL l l'),λx hx=>g3 _ λk af hk=> ?_,λk hk=> ?_⟩
  . rw [jO] at hk;obtain ⟨⟨k0,v0⟩,q1,q2⟩:=List.mem_map.1 hk;simp only [Prod.mk.injEq] at q2;obtain ⟨rfl,rfl⟩:=q2;obtain ⟨b0,q3,q4⟩:=hx k0 v0 q1;exact ⟨JF l l' b0,by rw [cN,jN,q3];rfl,by rw [nq];exact q4⟩
  rw [g4 k hk];rw [JB h1 h2 hk]
theorem tz (J:Nat) {f:FuncId} {fn:Func} {c:Code} (hf:P.funcs[f]? =some fn) (hb:fn.body=some c) (hok:codeOk fn.ntmps c=true):
 ∀(ρ:List (Nat × Nat)) {φ:Nat->LS} {fp:Nat->lN} {ts:Env} {m:Mem} {xs:lA} {vs:aV} {k:AV->Mem->Prop},RS B N φ fp S ts m a w->oS ρ m->qv (kN ρ m)->xs.length<=fn.ntmps→
  vs.size=xs.length->(∀i (h:i<xs.length),RV w S φ xs[i] (vs.toList.getD i uD))->(∀i (h:i<xs.length) l af,(l,af)∈ao xs[i]->known m l af)→
  vc P fn.ntmps c (bF 0 (mF ρ xs)) (kN ρ m) (Ox P fn.results.toList λx m'=>sq (e6 J [] m')/\k (so ρ (p7 (e6 J [] m') x)) (sn ρ (kN (e6 J [] m') m')))→
  Calls P f vs w λe w'=>∃v,e= .returned v/\∃φ' fp' S' m' x,RS B N φ' fp' S' ts m' a w'/\RV w' S' φ' x v/\(∀l af,(l,af)∈ao x->known m' l af)/\k x m'∧
   ∀l,ah m l≠none->bC<=l->∀b,b∈fp' l->w.heap.size<=b\/b∈fp l
 | [],φ,fp,ts,m,xs,vs,k,h,_,hhi,ha,hsz,hx,hxl,hv=>by
   have hhi:=pJ hhi;simp only [kN,mF] at hhi hv;rw [show xs.map (p7 [])=xs from by rw [show p7 []=id from rfl,List.map_id]] at hv;refine calls_of_wp hf hb ?_;have hRS:RS ⟨w,λl b=>b∈fp l,S,φ,m⟩ fn.ntmps φ fp S (bF 0 xs) m {tmps:=vs++Array.replicate (fn.ntmps-vs.size) undef,defers:=[]} w:=by
    refine {tm:=λt=> ?_,tl:=λt l af hl=> ?_,b_:=h.b_,aG:=h.aG,bl:=h.bl,ia:=h.ia,fJ:=h.fJ,bQ:=h.bQ,cu:=λl b hb=>⟨(h.cu l b hb).1,.inr ⟨l,hb,?_,.inl rfl⟩⟩,
            sB:=λb hb=>⟨(h.sB b hb).1,.inr hb⟩,base:=λb hb _=>rfl,out:=a7.refl _,kq:=jH.refl _,kn:=λ_ _ _ hk=>hk,fix:=λ_ _ _ _=>LS.le_refl _ _,size:=Nat.le_refl _,defers:=rfl,lq:=by simp;omega,jv:=h.jv}
    . rw [bG];by_cases ht:t<xs.length
      . have h1:=hx t ht;have e1:vs.toList.getD t uD=(vs++Array.replicate (fn.ntmps-vs.size) undef).getD t uD:=by
         have h2:t<vs.size:=(by omega);simp only [q0,q4,q2];rw [Array.getElem?_append_left h2]
        rw [←e1];simpa [ht] using h1
      have:(if 0<=t then (xs[t-0]?).getD AV.undef else .undef)= .undef:=(by simp [List.getElem?_eq_none (show xs.length<=t by omega)]);rw [this];exact .rd _ _ (.undef _)
    . rw [bG] at hl;by_cases ht:t<xs.length
      . exact hxl t ht l af (by simpa [ht] using hl)
      have:(if 0<=t then (xs[t-0]?).getD AV.undef else .undef)= .undef:=(by simp [List.getElem?_eq_none (show xs.length<=t by omega)]);rw [this] at hl;cases hl
    refine hhi l λe=> ?_;rw [(h.b_ l e).2] at hb;cases hb
   have fS:∀a' w',ic ⟨w,λl b=>b∈fp l,S,φ,m⟩ fn.ntmps (λts m'=>aN P (λxs=>sq (e6 J [] m')/\k (p7 (e6 J [] m') (bE xs)) (kN (e6 J [] m') m')) fn.results.toList ts m' []) a' w'→
    a'.defers=[]/\∃v,(results fn a'.tmps).run P w'= .ok v w'/\∃v',Ending.returned v= .returned v'/\∃φ' fp' S' m' x,RS B N φ' fp' S' ts m' a w'/\RV w' S' φ' x v'/\(∀l af,(l,af)∈ao x->known m' l af)/\k x m'∧
     ∀l,ah m l≠none->bC<=l->∀b,b∈fp' l->w.heap.size<=b\/b∈fp l:=by
    rintro a' w' ⟨φ',fp',S',ts',m',h',hk⟩;refine ⟨h'.defers,?_⟩;obtain ⟨ys,us,⟨YB,h1⟩,h2,h3,h4⟩:=cH h' fn.results.toList [] [] ⟨rfl,λi hi=>absurd hi (q16 _)⟩ (λi hi=>absurd hi (q16 _)) hk;obtain ⟨h3a,h3b⟩:=h3;simp only [q11] at h3a h3b;obtain ⟨φ2,fp2,ts2,r1,r2,r3,r4⟩:=RS.OE (e6 J [] m') YB h';have qF:=h.back hhi r1;have hST:∀b,S' b->S b\/(S' b/\w.heap.size<=b):=λb hb=>by
     rcases (h'.sB b hb).2 with hh|hh
     . exact .inr ⟨hb,hh⟩
     exact .inl hh
    refine ⟨if h:us.toArray.size=1 then us.toArray[0] else .tuple us.toArray,?_,_,rfl,φ2,fp2,_,_,_,qF,?_,?_,h1,λl hl hl2 b hb=> ?_⟩
    . have hm:results fn a'.tmps=(do let vs ←fn.results.mapM (cZ a'.tmps);pure (if h:vs.size=1 then vs[0] else .tuple vs)):=by
       unfold results;congr 1
      rw [hm,Sem.run_bind,Array.mapM_eq_mapM_toList];have:(List.toArray <$> fn.results.toList.mapM (cZ a'.tmps):Sem aV).run P w'= .ok us.toArray w':=by rw [map_eq_pure_bind,Sem.run_bind,h2];rfl
      rw [this];rfl
    . refine (r2 _ _ (mG h3a h3b)).mono (λ_ _=>rfl) hST (λl b sh af cs e _ hb=>⟨cs,e,hb,rfl⟩) λ_ _ _=>LS.le_refl _ _
    . exact r3 _ (HF h4)
    rw [r4 l hl2] at hb;rcases (h'.cu l b hb).2 with hh|⟨l0,hh,_,h5⟩
    . exact .inl hh
    rcases h5 with h5|h5
    . subst h5;exact .inr hh
    exact absurd h5 hl
   refine wp_mono (cB c _ _ _ hok hv _ _ _ _ _ _ hRS) ?_;intro e a' w' hq;cases e with
   |normal=>exact fS a' w' hq
   |ret=>exact fS a' w' hq
   |_=>obtain ⟨_,_,_,_,_,_,hh⟩:=hq;exact hh.elim
 |(l,l')::r,φ,fp,ts,m,xs,vs,k,h,⟨⟨⟨hl,hio⟩,hh,hl'⟩,rE⟩,hhi,ha,hsz,hx,hxl,hv=>by
  have hm0:ah B.m0 l'=none:=by
   cases he:ah B.m0 l' with
   |none=>rfl
   |some k0=>
    obtain ⟨k2,h7,_⟩:=h.kn l' k0.af hio ⟨k0,he,Nat.le_refl _⟩;rw [show ah m l'=none from hl'] at h7;cases h7
  have VW:fp l'=[]:=(h.b_ l' hl').2;have h1:=h.Ow hl hm0 (λb hb=>by rw [VW] at hb;cases hb);have hne:l≠l':=by unfold bC at*;omega
  have e1:rl l l' l=l':=by simp [rl]
  have e2:rl l l' l'=l:=by unfold rl;rw [if_neg (Ne.symm hne),if_pos rfl]
  have hlk:∀x,ah (xY l l' m) x≠none↔ah m (rl l l' x)≠none:=λx=>by rw [cN];cases ah m (rl l l' x)<;>simp
  have hlen:(qu l l' xs).length=xs.length:=bX l l' xs;have:=tz J hf hb hok r (k:=λx m'=>k (iS l l' x) (xY l l' m')) (xs:=qu l l' xs) (vs:=vs) h1 rE hhi (by rw [hlen];exact ha) (by rw [hlen];exact hsz) (λi hi=> ?_) (λi hi l0 af hl0=> ?_) ?_
  . refine this.mono ?_;rintro e w' ⟨v,rfl,φ',fp',S',m',x,g1,g2,g3,g4,g5⟩;have hb5:∀b,b∈fp' l'->B.w0.heap.size<=b:=by
     intro b hb';rcases g5 l' ((hlk l').2 (by rw [e2];exact hh)) hio b hb' with h5|h5
     . exact q14 h.size h5
     have h5:b∈fp (rl l l' l'):=h5;rw [e2] at h5;rcases (h.cu l b h5).2 with h6|⟨_,_,h6,_⟩
     . exact h6
     exact absurd hl (Nat.not_lt.2 h6)
    have g6:=g1.Ow hl hm0 hb5;refine ⟨v,rfl,λk=>φ' (rl l l' k),λk=>fp' (rl l l' k),S',xY l l' m',iS l l' x,?_,g2.DL l l',λl0 af hl0=> ?_,g4,λl0 h0 h2 b hb'=> ?_⟩
    . have ets:∀t,look (Hx l l' (Hx l l' ts)) t=look ts t:=λt=>by rw [iT,iT,CR]
      exact {g6 with tm:=λt=>by rw [←ets];exact g6.tm t,tl:=λt l af hl=>g6.tl t l af (by rw [ets];exact hl)}
    . rw [jO] at hl0;obtain ⟨⟨k0,v0⟩,q1,q2⟩:=List.mem_map.1 hl0;simp only [Prod.mk.injEq] at q2;obtain ⟨rfl,rfl⟩:=q2;obtain ⟨b0,q3,q4⟩:=g3 k0 v0 q1;exact ⟨JF l l' b0,by rw [cN,jN,q3];rfl,by rw [nq];exact q4⟩
    have n1:l0≠l:=λe=>by subst e;exact absurd hl (Nat.not_lt.2 h2)
    have n2:l0≠l':=λe=>by subst e;exact h0 hl'
    have e3:rl l l' l0=l0:=(by unfold rl;rw [if_neg n1,if_neg n2]);have hb':b∈fp' (rl l l' l0):=hb';rw [e3] at hb';have:=g5 l0 ((hlk l0).2 (by rw [e3];exact h0)) h2 b hb';rcases this with h5|h5
    . exact .inl h5
    have h5:b∈fp (rl l l' l0):=h5;rw [e3] at h5;exact .inr h5
  . have h':i<xs.length:=(by rw [hlen] at hi;exact hi);rw [e8 l l' xs i h' hi];exact (hx i h').DL l l'
  . have h':i<xs.length:=(by rw [hlen] at hi;exact hi);rw [e8 l l' xs i h' hi,jO] at hl0;obtain ⟨⟨k0,v0⟩,q1,q2⟩:=List.mem_map.1 hl0;simp only [Prod.mk.injEq] at q2;obtain ⟨rfl,rfl⟩:=q2;obtain ⟨b0,q3,q4⟩:=hxl i h' k0 v0 q1;exact ⟨JF l l' b0,by rw [cN,jN,q3];rfl,by rw [nq];exact q4⟩
  have:mF r (qu l l' xs)=mF ((l,l')::r) xs:=by refine List.ext_getElem (by simp [mF,hlen]) λi h1 h2=> ?_;simp only [mF,q7];rw [e8 l l' xs i (by simpa [mF] using h2)];rfl
  rw [this];exact hv
theorem bN {f:FuncId} {d:Nat} {xs xt:lA} {m:Mem} {k:AV->Mem->Prop} {q:Pack k} {fn:Func} {c:Code} (J:Nat) (N:Nat) (rs:List ResultVar) (hf:P.funcs[f]? =some fn) (hN:fn.ntmps=N) (hr:fn.results.toList=rs)
 (hn:(fn.name== "runtime.NumGoroutine")=false) (hb:fn.body=some c) (hok:codeOk N c=true) (ha:xs.length≤N)
 (hv:(oS (e6 1500000000 [] m) m/\qv (kN (e6 1500000000 [] m) m))/\vc P N c (bF 0 (mF (e6 1500000000 [] m) xs)) (kN (e6 1500000000 [] m) m)
   (Ox P rs λx m'=>sq (e6 J [] m')/\k (so (e6 1500000000 [] m) (p7 (e6 J [] m') x)) (sn (e6 1500000000 [] m) (kN (e6 J [] m') m')))):eR P f d xs xt m k q:=by
 subst hN;subst hr;refine .inl λB N φ fp S ts a w vs hRS hsz hx hxl=>⟨⟨fn,c,hf,hn,hb⟩,?_⟩;refine (tz J hf hb hok _ hRS hv.1.1 hv.1.2 ha hsz hx hxl hv.2).mono ?_;rintro e w' ⟨v,rfl,φ',fp',S',m',x,g1,g2,g3,g4,_⟩;exact ⟨v,rfl,φ',fp',S',ts,m',x,g1,g2,g3,rfl,g4⟩
end
end Go.Vc
