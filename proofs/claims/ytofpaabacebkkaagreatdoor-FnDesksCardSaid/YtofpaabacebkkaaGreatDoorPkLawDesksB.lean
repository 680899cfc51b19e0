import Derived.Laws.IdiomStrings
import Derived.Deep.LoopGhost
import Derived.Test.YtofpaabacebkkaaGreatDoorPkLawDesksA
open Go renaming undef → uD
set_option linter.unusedVariables false
set_option linter.unusedSimpArgs false
set_option linter.unnecessarySimpa false
set_option maxRecDepth 1000000
set_option maxHeartbeats 16000000
open Array renaming getD_eq_getD_getElem? ->q0,getElem?_eq_getElem->q1,getElem?_toList->q2
open List renaming eq_nil_of_length_eq_zero->q3,getD_eq_getElem?_getD->q4,getElem?_eq_getElem->q5,getElem_drop->q6,getElem_map->q7,getElem_of_mem->q8,getElem_take->q9,mem_singleton->q10,nil_append->q11,nodup_nil->q12,reverse_cons->q13
open Nat renaming le_trans->q14,lt_of_lt_of_le->q15,not_lt_zero->q16
namespace Go.Vc
def iN (w w':World)(S:nP)(own:Bool)(r:AV)(v:Value):Prop:=
 if own then ∃fs,Own w' (λ_=>False) r v fs/\fs.Nodup/\∀b,b∈fs->w.heap.size<=b
 else Rd w' (λb=>S b\/(w.heap.size<=b/\b<w'.heap.size)) r v
def Enters (P:pR) (f:fI):Prop:=∃fn c,P.funcs[f]? =some fn∧(fn.name== "runtime.NumGoroutine")=false∧fn.body=some c
def Fn (P:pR)(f:fI)(args:lA)(own:Bool)(post:AV->Prop):Prop:=
 Enters P f/\∀(w:World) (S:nP) (vs:aV),(∀b,S b->b<w.heap.size)->KA w S->vs.size=args.length->(∀i (h:i<args.length),Rd w S args[i] (vs.toList.getD i uD))→
  Calls P f vs w λe w'=>∃r v,e= .returned v/\post r/\Grown w w'/\iN w w' S own r v
theorem Fn.mono {P:pR}{f:fI}{args:lA}{own:Bool}{post post':AV->Prop}(h:Fn P f args own post)(hp:∀r,post r->post' r):Fn P f args own post':=
 ⟨h.1,λw S vs h1 hk h2 h3=>(h.2 w S vs h1 hk h2 h3).mono λ_ _ ⟨r,v,g1,g2,g3⟩=>⟨r,v,g1,hp r g2,g3⟩⟩
def nZ (v i n:Nat)(b:Option bf)(k:AV->Prop):Prop:=match b with
 |some (.row v' sh _ xs)=>v'=v/\i+n<=xs.length/\k (.arr sh ((xs.drop i).take n))
 |_=>False
@[congr] theorem TU {v i n:Nat} {b b':Option bf} {k:AV->Prop} (h:b=b'):nZ v i n b k=nZ v i n b' k:=by rw[h]
theorem AJ (v i n:Nat)(sh:Sh)(d:Bool)(xs:lA)(k:AV->Prop):nZ v i n (some (.row v sh d xs)) k=(i+n<=xs.length/\k (.arr sh ((xs.drop i).take n))):=by simp[nZ]
def fB (m:Mem)(x:AV)(k:AV->Prop):Prop:=match x with
 | .ref l v i n=>nZ v i n (ah m l) k
 | .val v=>k (.val v)
 | .e0=>k .e0
 | .arr sh xs=>k (.arr sh xs)
 | .bo sh xs i j=>k (.bo sh xs i j)
 |_=>False
@[congr] theorem RJ {m:Mem} {x x':AV} {k:AV->Prop} (h:x=x'):fB m x k=fB m x' k:=by rw[h]
theorem xh (m:Mem)(l v i n:Nat)(k:AV->Prop):fB m (.ref l v i n) k=nZ v i n (ah m l) k:=rfl
theorem xi (m:Mem)(v:Value)(k:AV->Prop):fB m (.val v) k=k (.val v):=rfl
theorem xj (m:Mem)(sh:Sh)(xs:lA)(k:AV->Prop):fB m (.arr sh xs) k=k (.arr sh xs):=rfl
def cS (m:Mem)(k:lA->Prop):lA->lA->Prop
 |acc,[]=>k acc.reverse
 |acc,x::r=>fB m x λy=>cS m k (y::acc) r
theorem r6 (m:Mem)(k:lA->Prop)(acc:lA):cS m k acc []=k acc.reverse:=rfl
theorem qt (m:Mem)(k:lA->Prop)(acc:lA)(x:AV)(r:lA):cS m k acc (x::r)=fB m x λy=>cS m k (y::acc) r:=rfl
def iy (m:Mem)(x:AV)(k:AV->Prop):Prop:=match x with
 | .agg xs=>cS m (λys=>k (.agg ys)) [] xs
 | .ptr _ _ _ _=>k .undef
 | .cn _ _=>k .undef
 |x=>fB m x k
theorem AK (m:Mem)(f:fI)(xs:lA)(k:AV->Prop):iy m (.cn f xs) k=k .undef:=rfl
theorem AL (m:Mem)(l v i j:Nat)(k:AV->Prop):iy m (.ptr l v i j) k=k .undef:=rfl
@[congr] theorem TV {m:Mem} {x x':AV} {k:AV->Prop} (h:x=x'):iy m x k=iy m x' k:=by rw[h]
theorem AM (m:Mem)(xs:lA)(k:AV->Prop):iy m (.agg xs) k=cS m (λys=>k (.agg ys)) [] xs:=rfl
theorem AN (m:Mem)(l v i n:Nat)(k:AV->Prop):iy m (.ref l v i n) k=nZ v i n (ah m l) k:=rfl
theorem AO (m:Mem)(v:Value)(k:AV->Prop):iy m (.val v) k=k (.val v):=rfl
theorem AP (m:Mem)(sh:Sh)(xs:lA)(k:AV->Prop):iy m (.arr sh xs) k=k (.arr sh xs):=rfl
def dI (m:Mem)(k:lA->Prop):lA->lA->Prop
 |acc,[]=>k acc.reverse
 |acc,x::r=>iy m x λy=>dI m k (y::acc) r
theorem xk (m:Mem)(k:lA->Prop)(acc:lA):dI m k acc []=k acc.reverse:=rfl
theorem uY (m:Mem)(k:lA->Prop)(acc:lA)(x:AV)(r:lA):dI m k acc (x::r)=iy m x λy=>dI m k (y::acc) r:=rfl
def n7 (l:Nat)(x:AV)(m:Mem)(k:AV->Mem->Prop):Prop:=match x with
 | .arr sh xs=>k (.ref l (az m l) 0 xs.length) ((l,.row (az m l) sh true xs)::m)
 |x=>k x m
@[congr] theorem TW {l:Nat} {x x':AV} {m:Mem} {k:AV->Mem->Prop} (h:x=x'):n7 l x m k=n7 l x' m k:=by rw[h]
theorem AQ (l:Nat)(sh:Sh)(xs:lA)(m:Mem)(k:AV->Mem->Prop):n7 l (.arr sh xs) m k=k (.ref l (az m l) 0 xs.length) ((l,.row (az m l) sh true xs)::m):=rfl
theorem AR (l:Nat)(v:Value)(m:Mem)(k:AV->Mem->Prop):n7 l (.val v) m k=k (.val v) m:=rfl
def qu (k:lA->Mem->Prop):Nat->lA->Mem->lA->Prop
 |_,acc,m,[]=>k acc.reverse m
 |l,acc,m,x::r=>n7 l x m λy m'=>qu k (l+1) (y::acc) m' r
theorem AS (k:lA->Mem->Prop)(l:Nat)(acc:lA)(m:Mem):qu k l acc m []=k acc.reverse m:=rfl
theorem xl (k:lA->Mem->Prop)(l:Nat)(acc:lA)(m:Mem)(x:AV)(r:lA):qu k l acc m (x::r)=n7 l x m λy m'=>qu k (l+1) (y::acc) m' r:=rfl
def n8 (l:Nat)(x:AV)(m:Mem)(k:AV->Mem->Prop):Prop:=match x with
 | .agg xs=>qu (λys m'=>k (.agg ys) m') l [] m xs
 | .aX _=>False
 |x=>n7 l x m k
@[congr] theorem TX {l:Nat} {x x':AV} {m:Mem} {k:AV->Mem->Prop} (h:x=x'):n8 l x m k=n8 l x' m k:=by rw[h]
theorem AT (l:Nat)(xs:lA)(m:Mem)(k:AV->Mem->Prop):n8 l (.agg xs) m k=qu (λys m'=>k (.agg ys) m') l [] m xs:=rfl
theorem AU (l:Nat)(sh:Sh)(xs:lA)(m:Mem)(k:AV->Mem->Prop):n8 l (.arr sh xs) m k=k (.ref l (az m l) 0 xs.length) ((l,.row (az m l) sh true xs)::m):=rfl
theorem AW (l:Nat)(v:Value)(m:Mem)(k:AV->Mem->Prop):n8 l (.val v) m k=k (.val v) m:=rfl
def mb (k:lA->Mem->Prop):Nat->lA->Mem->lA->Prop
 |_,acc,m,[]=>k acc.reverse m
 |l,acc,m,x::r=>n8 l x m λy m'=>mb k (l+16) (y::acc) m' r
theorem xm (k:lA->Mem->Prop)(l:Nat)(acc:lA)(m:Mem):mb k l acc m []=k acc.reverse m:=rfl
theorem uZ (k:lA->Mem->Prop)(l:Nat)(acc:lA)(m:Mem)(x:AV)(r:lA):mb k l acc m (x::r)=n8 l x m λy m'=>mb k (l+16) (y::acc) m' r:=rfl
def mB (l:Nat)(x:AV)(m:Mem)(k:AV->Mem->Prop):Prop:=match x with
 | .aX xs=>mb (λys m'=>k (.aX ys) m') l [] m xs
 |x=>n8 l x m k
@[congr] theorem U4 {l:Nat} {x x':AV} {m:Mem} {k:AV->Mem->Prop} (h:x=x'):mB l x m k=mB l x' m k:=by rw[h]
theorem EA (l:Nat)(xs:lA)(m:Mem)(k:AV->Mem->Prop):mB l (.aX xs) m k=mb (λys m'=>k (.aX ys) m') l [] m xs:=rfl
theorem EB (l:Nat)(sh:Sh)(xs:lA)(m:Mem)(k:AV->Mem->Prop):mB l (.arr sh xs) m k=k (.ref l (az m l) 0 xs.length) ((l,.row (az m l) sh true xs)::m):=rfl
theorem EC (l:Nat)(v:Value)(m:Mem)(k:AV->Mem->Prop):mB l (.val v) m k=k (.val v) m:=rfl
def aF:AV->Bool| .cn _ _=>true|_=>false
def ax:lA->Prop| []=>True|x::r=>(ao x=[]/\aF x=false)/\ax r
def U5 (own:Bool)(d:Nat)(m:Mem)(r:AV)(k:AV->Mem->Prop):Prop:=if own then mB (1000*(d+1)) r m k else k r m
structure Pack {α:Type} (k:α):Type where
def hU (P:pR)(f:fI)(xs:lA)(m:Mem)(k:AV->Mem->Prop):Prop:=
 ∀(B:eC) (N:Nat) (φ:Nat->LS) (fp:nN) (S:nP) (ts:Env) (a:Act) (w:World) (vs:aV),RS B N φ fp S ts m a w->vs.size=xs.length→
  (∀i (h:i<xs.length),RV w S φ xs[i] (vs.toList.getD i uD))->(∀i (h:i<xs.length) l af,(l,af)∈ao xs[i]->known m l af)→
  Enters P f/\Calls P f vs w λe w'=>∃v,e= .returned v/\ir B N a (λx ts' m'=>ts'=ts/\k x m') v w'
def eo (P:pR)(f:fI)(d:Nat)(xs ts:lA)(m:Mem)(k:AV->Mem->Prop)(_:Pack k):Prop:=hU P f xs m k\/∃own post,Fn P f ts own post/\(own=false->ax xs)/\∀r,post r->U5 own d m r k
def n9 (P:pR)(f:fI)(d:Nat)(xs:lA)(m:Mem)(k:AV->Mem->Prop):Prop:=dI m (λts=>eo P f d xs ts m k ⟨⟩) [] xs
@[congr] theorem TY {P:pR} {f:fI} {d:Nat} {xs xs':lA} {m:Mem} {k:AV->Mem->Prop} (h:xs=xs'):n9 P f d xs m k=n9 P f d xs' m k:=by rw[h]
theorem ED (P:pR)(f:fI)(d:Nat)(x:AV)(xs:lA)(m:Mem)(k:AV->Mem->Prop):n9 P f d (x::xs) m k=dI m (λts=>eo P f d (x::xs) ts m k ⟨⟩) [] (x::xs):=rfl
theorem AX (P:pR)(f:fI)(d:Nat)(m:Mem)(k:AV->Mem->Prop):n9 P f d [] m k=eo P f d [] [] m k ⟨⟩:=rfl
@[congr] theorem RM {P:pR} {f:fI} {d:Nat} {xs ts ts':lA} {m:Mem} {k:AV->Mem->Prop} {q:Pack k} (h:ts=ts'):eo P f d xs ts m k q=eo P f d xs ts' m k q:=by rw[h]
theorem aa {P:pR}{f:fI}{d:Nat}{xs ts:lA}{m:Mem}{k:AV->Mem->Prop}{r:AV}(h:Fn P f ts true (· =r))(hk:mB (1000*(d+1)) r m k){q:Pack k}:eo P f d xs ts m k q:=
 .inr ⟨true,_,h,λh=>(by cases h),λ_ e=>e▸hk⟩
theorem qP {P:pR}{f:fI}{d:Nat}{xs ts:lA}{m:Mem}{k:AV->Mem->Prop}{post:AV->Prop}(h:Fn P f ts true post)(hk:∀r,post r->mB (1000*(d+1)) r m k){q:Pack k}:eo P f d xs ts m k q:=
 .inr ⟨true,_,h,λh=>(by cases h),hk⟩
theorem av {P:pR}{f:fI}{d:Nat}{xs ts:lA}{m:Mem}{k:AV->Mem->Prop}{r:AV}(h:Fn P f ts false (· =r))(hl:ax xs)(hk:k r m){q:Pack k}:eo P f d xs ts m k q:=
 .inr ⟨false,_,h,λ_=>hl,λ_ e=>e▸hk⟩
section
variable {P:pR} {B:eC} {N:Nat} {φ:Nat->LS} {fp:nN} {S:nP} {ts:Env} {m:Mem} {a:Act} {w:World}
def oC (w:World):Nat->Prop:=λb=>b<w.heap.size
theorem Own.now {S:nP}{x:AV}{v:Value}{fs:lN}(h:Own w S x v fs)(hS:∀b,S b->b<w.heap.size):Rd w (oC w) x v:=h.mm hS λb hb=>h.lt b hb
theorem tx (h:RS B N φ fp S ts m a w){x:AV}{v:Value}(hx:RV w S φ x v){k:AV->Prop}(hk:fB m x k):∃y,k y/\Rd w (oC w) y v/\leaf y/\(ao x=[]->Rd w S y v):=by
 have hS:∀b,S b->oC w b:=λb hb=>(h.sB b hb).1;unfold fB at hk;split at hk
 . rename_i l af i n;have hr:=dt hx;unfold nZ at hk;split at hk
   . rename_i v' sh deep xs hlk;obtain ⟨rfl,hin,hk⟩:=hk;refine ⟨_,hk,?_,trivial,λhl=>by simp [ao] at hl⟩;have hlen:((xs.drop i).take n).length=n:=(by simp;omega);rcases h.aG l _ hlk with ⟨h1,h2,h3⟩|⟨b,cap,hφ,hbm,hdp,bc⟩
     . obtain ⟨rfl,ad,rfl⟩:=hr.2 h1;rw[List.take_zero];exact .nil _ _
     obtain ⟨ad,cp,rfl,hnc,hcp⟩:=hr.1 b sh hφ;obtain ⟨cs,e,fss,hgf,aD,hcs,b_,hmx,hff,hfl,hvv⟩:=gI bc hbm;by_cases hc0:cp=0
     . have:n=0:=(by omega);subst this;subst hc0;rw[List.take_zero];exact .nil _ _
     obtain ⟨rfl,cs',e',g1,g2⟩:=hcp.resolve_left hc0;obtain rfl:=dc (aD.symm.trans g1);have cf:i*sh.sz+n*sh.sz<=cs.size:=by rw[g2,←Nat.add_mul];exact Nat.mul_le_mul_right _ (by omega)
     have hb:oC w b:=(h.cu l b hbm).1
     have:=Rd.arr (w:=w) (S:=oC w) sh ((xs.drop i).take n) b (i*sh.sz) cp cs e.1 (ou e cs.size) hb aD (by rw [hlen];exact hnc) (by rw [hlen];exact cf)
      (λq hq=>by rw[hlen] at hq;simp only[q9,q6];exact hff _ (by omega))
      (λq hq=>by
        rw[hlen] at hq;simp only[q9,q6]
        have:=(hvv (i+q) (by omega)).now (λc hc=>by
         cases deep with
         |true=>exact hc.elim
         |false=>exact (h.sB c hc).1)
        rwa [Nat.add_mul] at this)
     rw[hlen] at this;exact this
   exact hk.elim
 . obtain ⟨rfl,h1⟩:=aS hx;exact ⟨_,hk,.val _ h1,trivial,λ_=>.val _ h1⟩
 . obtain ⟨ad,rfl⟩:=rP hx;exact ⟨_,hk,.e0 _,trivial,λ_=>.e0 _⟩
 . exact ⟨_,hk,(ma hx).mono (λ_ _=>rfl) hS,trivial,λ_=>ma hx⟩
 . exact ⟨_,hk,(pI hx).mono (λ_ _=>rfl) hS,trivial,λ_=>pI hx⟩
 exact hk.elim
def pL (R:AV->Value->Prop)(xs:lA)(vs:lV):Prop:=vs.length=xs.length/\∀i (h:i<xs.length),R xs[i] (vs.getD i uD)
theorem pL.snoc {R:AV->Value->Prop}{xs:lA}{vs:lV}(h:pL R xs vs){x:AV}{v:Value}(hx:R x v):pL R (xs++[x]) (vs++[v]):=by
 refine ⟨by simp[h.1],λi hi=>?_⟩;simp only[List.length_append,List.length_singleton] at hi;rw[List.getElem_append];split
 . rename_i hlt;have:=h.2 i hlt
   rwa [q4,List.getElem?_append_left (by rw[h.1];exact hlt),←q4]
 rename_i hge;have e:i=xs.length:=by omega
 subst e;simp[q4,←h.1,hx]
theorem oQ (h:RS B N φ fp S ts m a w){Q:lA->Prop}:∀(xs:lA) (vs:lV) (acc:lA) (va:lV),pL (RV w S φ) xs vs->pL (λx v=>Rd w (oC w) x v/\leaf x) acc.reverse va→
 cS m Q acc xs->∃ys,Q ys/\pL (λx v=>Rd w (oC w) x v/\leaf x) ys (va++vs)
 | [],vs,acc,va,hx,ha,hk=>by
   have:vs=[]:=q3 hx.1;subst this;exact ⟨_,hk,by simpa using ha⟩
 |x::xs,vs,acc,va,hx,ha,hk=>by
  cases vs with
  |nil=>have:=hx.1;simp at this
  |cons v vs=>
   have hx0:=hx.2 0 (by simp);obtain ⟨y,hk,h1,h2,_⟩:=tx h (show RV w S φ x v from hx0) hk
   obtain ⟨ys,g1,g2⟩:=oQ h xs vs (y::acc) (va++[v]) ⟨by simpa using hx.1,λi hi=>by have:=hx.2 (i+1) (by simpa using hi);exact this⟩ (by rw[q13];exact ha.snoc ⟨h1,h2⟩) hk
   exact ⟨ys,g1,by simpa using g2⟩
theorem NZ (h:RS B N φ fp S ts m a w){x:AV}{v:Value}(hx:RV w S φ x v){k:AV->Prop}(hk:iy m x k):∃y,k y/\Rd w (oC w) y v:=by
 unfold iy at hk;split at hk
 . rename_i xs;obtain ⟨cs,rfl,h1,h2,h3⟩:=nc hx;obtain ⟨ys,g1,g2⟩:=oQ h xs cs.toList [] [] ⟨by simpa using h1,h3⟩ ⟨rfl,λi hi=>absurd hi (q16 _)⟩ hk;refine ⟨_,g1,.agg ys cs (by simpa using g2.1) (λi hi=>(g2.2 i hi).2) λi hi=>(g2.2 i hi).1⟩
 . exact ⟨_,hk,.undef _⟩
 . exact ⟨_,hk,.undef _⟩
 obtain ⟨y,h1,h2,_⟩:=tx h hx hk;exact ⟨y,h1,h2⟩
theorem tz (h:RS B N φ fp S ts m a w){Q:lA->Prop}:∀(xs:lA) (vs:lV) (acc:lA) (va:lV),pL (RV w S φ) xs vs->pL (Rd w (oC w)) acc.reverse va→
 dI m Q acc xs->∃ys,Q ys/\pL (Rd w (oC w)) ys (va++vs)
 | [],vs,acc,va,hx,ha,hk=>by
   have:vs=[]:=q3 hx.1;subst this;exact ⟨_,hk,by simpa using ha⟩
 |x::xs,vs,acc,va,hx,ha,hk=>by
  cases vs with
  |nil=>have:=hx.1;simp at this
  |cons v vs=>
   have hx0:=hx.2 0 (by simp);obtain ⟨y,hk,h1⟩:=NZ h (show RV w S φ x v from hx0) hk
   obtain ⟨ys,g1,g2⟩:=tz h xs vs (y::acc) (va++[v]) ⟨by simpa using hx.1,λi hi=>by have:=hx.2 (i+1) (by simpa using hi);exact this⟩ (by rw[q13];exact ha.snoc h1) hk
   exact ⟨ys,g1,by simpa using g2⟩
theorem EE {Q:lA->Prop}:∀(xs acc:lA),(∀i (hi:i<xs.length),ao xs[i]=[])->cS m Q acc xs->Q (acc.reverse++xs)
 | [],acc,_,hk=>by simpa [cS] using hk
 |x::xs,acc,hl,hk=>by
  have h0:ao x=[]:=hl 0 (by simp);have:cS m Q (x::acc) xs:=by simp only[cS] at hk;unfold fB at hk;split at hk<;>first|exact hk|(simp[ao] at h0;done)|exact hk.elim
  have:=EE xs (x::acc) (λi hi=>by have:=hl (i+1) (by simpa using hi);exact this) this;simpa using this
theorem JL {Q:lA->Prop}:∀(xs acc:lA),ax xs->dI m Q acc xs->Q (acc.reverse++xs)
 | [],acc,_,hk=>by simpa [dI] using hk
 |x::xs,acc,hl,hk=>by
  have h0:ao x=[]:=hl.1.1;have h0':aF x=false:=hl.1.2;have:dI m Q (x::acc) xs:=by
   simp only[dI] at hk;unfold iy at hk;split at hk
   . rename_i zs;have:=EE zs [] (bO (by simpa [ao] using h0)) hk;simpa using this
   . simp[ao] at h0
   . cases h0'
   unfold fB at hk;split at hk<;>first|exact hk|(simp[ao] at h0;done)|exact hk.elim
  have:=JL xs (x::acc) hl.2 this;simpa using this
theorem RS.grown (h:RS B N φ fp S ts m a w){w':World}(hg:Grown w w'):RS B N φ fp S ts m a w':=by
 have hs:∀l b,b∈fp l->w'.heap[b]? =w.heap[b]? :=λl b hb=>hg.same b (h.cu l b hb).1;have hS:∀b,S b->w'.heap[b]? =w.heap[b]? :=λb hb=>hg.same b (h.sB b hb).1;have hz:fX φ w w':=λl b sh af cs e hl hb=>⟨cs,e,(hs l b (h.at_mem hl)).trans hb,rfl⟩
 exact {h with
  tm:=λt=>(h.tm t).mono hS (λ_ h=>h) hz λl af _=>LS.le_refl _ _
  aG:=λl k hk=>(h.aG l k hk).mono hS (λ_ h=>h) hz (hs l) rfl λ_ _ _ _ _ _=>LS.le_refl _ _
  cu:=λl b hb=>⟨q15 (h.cu l b hb).1 hg.size,(h.cu l b hb).2⟩
  sB:=λb hb=>⟨q15 (h.sB b hb).1 hg.size,(h.sB b hb).2⟩
  base:=λb hb hio=>(hg.same b (q15 hb h.size)).trans (h.base b hb hio)
  out:=h.out.trans hg.out
  ky:=h.ky.trans (jI.of_same hg.same)
  jx:=h.jx.mono hS λ_ h=>h
  size:=q14 h.size hg.size}
theorem RS.hold (h:RS B N φ fp S ts m a w)(T:nP)(hT:∀b,T b->b<w.heap.size/\B.w0.heap.size<=b/\∀l,b∉fp l):RS B N φ fp (λb=>S b\/T b) ts m a w:=by
 have hz:fX φ w w:=λl b sh af cs e _ hb=>⟨cs,e,hb,rfl⟩
 exact {h with
  tm:=λt=>(h.tm t).mono (λ_ _=>rfl) (λ_ h=>.inl h) hz λl af _=>LS.le_refl _ _
  aG:=λl k hk=>(h.aG l k hk).mono (λ_ _=>rfl) (λ_ h=>.inl h) hz (λ_ _=>rfl) rfl λ_ _ _ _ _ _=>LS.le_refl _ _
  bS:=λl b hb hs=>hs.elim (h.bS l b hb) λht=>(hT b ht).2.2 l hb
  sB:=λb hb=>hb.elim (h.sB b) λht=>⟨(hT b ht).1,.inl (hT b ht).2.1⟩
  jx:=h.jx.mono (λ_ _=>rfl) λ_ h=>.inl h
  }
structure oR (B:eC) (N:Nat) (φ φ':Nat->LS) (fp fp':Nat->lN) (S:nP) (ts:Env) (m m':Mem) (a:Act) (w:World) (fs:lN):Prop where
 rs:RS B N φ' fp' S ts m' a w
 U6:∀l b,b∈fp' l->b∈fp l\/b∈fs
 rv:∀z u,RV w S φ z u->(∀l af,(l,af)∈ao z->known m l af)->RV w S φ' z u
 kn:∀l af,known m l af->known m' l af
theorem oR.refl (h:RS B N φ fp S ts m a w)(fs:lN):oR B N φ φ fp fp S ts m m a w fs:=⟨h,λ_ _ h=>.inl h,λ_ _ h _=>h,λ_ _ h=>h⟩
theorem EF (h:RS B N φ fp S ts m a w){x:AV}{v:Value}{fs:lN}(hx:Own w (λ_=>False) x v fs)(hlf:leaf x)(hnd:fs.Nodup)(hfr:∀b,b∈fs->B.w0.heap.size<=b/\¬S b/\∀l,b∉fp l)
 (l:Nat) {k:AV->Mem->Prop} (hk:n7 l x m k):
 ∃φ' fp' y m',oR B N φ φ' fp fp' S ts m m' a w fs/\k y m'/\leaf y/\RV w S φ' y v/\∀l af,(l,af)∈ao y->known m' l af:=by
 have other:(∀sh xs,x≠ .arr sh xs)->k x m->∃φ' fp' y m',oR B N φ φ' fp fp' S ts m m' a w fs/\k y m'/\leaf y/\RV w S φ' y v/\∀l af,(l,af)∈ao y->known m' l af:=by
  intro hna hk;have hrd:Rd w (λ_=>False) x v:=by
   cases hx with
   |rd _ _ h=>exact h
   |arr=>exact absurd rfl (hna _ _)
   |agg=>exact hlf.elim
   |aX=>exact hlf.elim
  exact ⟨φ,fp,x,m,oR.refl h fs,hk,hlf,.rd _ _ (hrd.mono (λ_ _=>rfl) λ_ h=>h.elim),λl af hl=>by rw[fY hrd] at hl;cases hl⟩
 cases x with
 |arr sh xs=>
  have j9:∀(x':LS) (fs':lN),(∀b,b∈fs'->b∈fs)->(∀af,known m l af->LS.le x' (φ l) af)->fs'.Nodup→
   BR w S (nX φ l x') l fs' (.row (az m l) sh true xs)->RV w S (nX φ l x') (.ref l (az m l) 0 xs.length) v→
   ∃φ' fp' y m',oR B N φ φ' fp fp' S ts m m' a w fs/\k y m'/\leaf y/\RV w S φ' y v/\∀l af,(l,af)∈ao y->known m' l af:=by
   intro x' fs' ux hle YP hbr hrv
   have hRS:=h.next l x' fs' S (.row (az m l) sh true xs) (Nat.le_refl _) (a7.refl _) (jI.refl _) (λ_ _ _=>rfl) (λb hb=>⟨hb,rfl⟩) (λb h1 h2=>absurd h1 h2) (λl b sh af cs e _ hb=>⟨cs,e,hb,rfl⟩) (λ_ _ _ _=>rfl)
    hle (λaf hv=>Nat.le_of_lt (ff hv)) hbr (λ_ _ hx=>by cases hx) YP (λb hb=>⟨(hfr b (ux b hb)).2.1,λl' _=>(hfr b (ux b hb)).2.2 l',hx.lt b (ux b hb),.inl (hfr b (ux b hb)).1⟩)
   have hkn:∀l' af,known m l' af->known ((l,.row (az m l) sh true xs)::m) l' af:=by
    intro l' af hkk;by_cases e:l=l'
    . subst e;exact ⟨.row (az m l) sh true xs,by simp[aw],Nat.le_of_lt (ff hkk)⟩
    obtain ⟨k',h1,h2⟩:=hkk;exact ⟨k',by simp[aw,e,h1],h2⟩
   refine ⟨_,_,.ref l (az m l) 0 xs.length,_,⟨hRS,?_,?_,hkn⟩,hk,trivial,hrv,?_⟩
   . intro l' b hb;by_cases e:l'=l
     . subst e;rw[aB] at hb;exact .inr (ux b hb)
     rw[bB _ _ _ _ e] at hb;exact .inl hb
   . intro z u hz hl;refine hz.mono (λ_ _=>rfl) (λ_ h=>h) (λl b sh af cs e _ hb=>⟨cs,e,hb,rfl⟩) λl' af hl'=> ?_;by_cases e:l'=l
     . subst e;rw[aB];exact hle af (hl _ af hl')
     rw[bB _ _ _ _ e];exact LS.le_refl _ _
   intro l' af hl;simp only[ao,q10,Prod.mk.injEq] at hl;obtain ⟨rfl,rfl⟩:=hl;exact ⟨_,by simp[aw];rfl,Nat.le_refl _⟩
  cases hx with
  |rd _ _ hrd=>
   cases hrd with
   |nil _ ad=>
    refine j9 (.nil (az m l)) [] (by simp) (λaf hv=>⟨λ_ _ h=>(by cases h),λhh=>?_⟩) (by simp) (.inl ⟨aB _ _ _,rfl,rfl⟩) ?_
    . injection hh with hh;exact absurd (ff hv) (by omega)
    refine .ref _ _ _ _ _ (λb' sh' hb'=>?_) (λ_=>⟨rfl,ad,rfl⟩) rfl;rw[aB] at hb';cases hb'
   |arr _ _ b off cap cs e fr hS=>exact hS.elim
  |arr _ _ b cap cs e fss hb hc hl hm hf hs hv=>
   refine j9 (.at b sh (az m l)) (b::fss.flatten) (λ_ h=>h) (λaf hkk=>LS.kJ _ _ _ _ _ (ff hkk)) hnd (.inr ⟨b,cap,aB _ _ _,List.mem_cons_self ..,by simp,.arr sh xs b cap cs e fss hb hc hl hm hf hs hv⟩) ?_;refine .ref _ _ _ _ _ (λb' sh' hb'=>?_) (λhb'=>?_) rfl
   . rw[aB] at hb';cases hb';exact ⟨_,cap,rfl,hl,.inr ⟨by simp,cs,e,hb,by rw[hc,Nat.zero_add]⟩⟩
   rw[aB] at hb';cases hb'
 |_=>exact other (λ_ _ e=>by cases e) hk
theorem N0 {fss:List lN}{f:lN}(h:(f::fss).flatten.Nodup):f.Nodup/\fss.flatten.Nodup/\∀b,b∈f->b∉fss.flatten:=by rw[List.flatten_cons] at h;exact ⟨(List.nodup_append.1 h).1,(List.nodup_append.1 h).2.1,λb h1 h2=>(List.nodup_append.1 h).2.2 b h1 b h2 rfl⟩
theorem xn {one:Nat->AV->Mem->(AV->Mem->Prop)->Prop}{ok:AV->Prop}{step:Nat}
 (lC:∀(φ:Nat->LS) (fp:nN) (m:Mem),RS B N φ fp S ts m a w->∀(x:AV) (v:Value) (fs:lN),Own w (λ_=>False) x v fs->ok x->fs.Nodup->(∀b,b∈fs->B.w0.heap.size<=b/\¬S b/\∀l,b∉fp l)→
   ∀(l:Nat)(k:AV->Mem->Prop),one l x m k->∃φ' fp' y m',oR B N φ φ' fp fp' S ts m m' a w fs/\k y m'/\ok y/\RV w S φ' y v/\∀l af,(l,af)∈ao y->known m' l af)
 {Q:lA->Mem->Prop} {many:Nat->lA->Mem->lA->Prop} (ju:∀l acc m,many l acc m []->Q acc.reverse m) (G9:∀l acc m x r,many l acc m (x::r)->one l x m λy m'=>many (l+step) (y::acc) m' r):
 ∀(xs:lA) (vs:lV) (fss:List lN) (l:Nat) (acc:lA) (va:lV) (φ:Nat->LS) (fp:nN) (m:Mem),RS B N φ fp S ts m a w→
  vs.length=xs.length->fss.length=xs.length->(∀i (h:i<xs.length),Own w (λ_=>False) xs[i] (vs.getD i uD) (fss.getD i []))->(∀i (h:i<xs.length),ok xs[i])→
  fss.flatten.Nodup->(∀b,b∈fss.flatten->B.w0.heap.size<=b/\¬S b/\∀l,b∉fp l)→
  pL (λx v=>ok x/\RV w S φ x v/\∀l af,(l,af)∈ao x->known m l af) acc.reverse va->many l acc m xs→
  ∃φ' fp' m' ys,RS B N φ' fp' S ts m' a w/\(∀l b,b∈fp' l->b∈fp l\/b∈fss.flatten)/\(∀z u,RV w S φ z u->(∀l af,(l,af)∈ao z->known m l af)->RV w S φ' z u)/\(∀l af,known m l af->known m' l af)∧
   Q ys m'/\pL (λx v=>ok x/\RV w S φ' x v/\∀l af,(l,af)∈ao x->known m' l af) ys (va++vs)
 | [],vs,fss,l,acc,va,φ,fp,m,h,hv,_,_,_,_,_,ha,hk=>by
   have:vs=[]:=q3 hv;subst this;exact ⟨φ,fp,m,_,h,λ_ _ h=>.inl h,λ_ _ h _=>h,λ_ _ h=>h,ju l acc m hk,by simpa using ha⟩
 |x::xs,vs,fss,l,acc,va,φ,fp,m,h,hv,hf,ho,hok,hnd,hfr,ha,hk=>by
  cases vs with
  |nil=>simp at hv
  |cons v vs=>
   cases fss with
   |nil=>simp at hf
   |cons f fss=>
    obtain ⟨n1,n2,n3⟩:=N0 hnd;have ho0:=ho 0 (by simp);obtain ⟨φ1,fp1,y,m1,hm,hk1,hy1,hy2,hy3⟩:=lC φ fp m h x v f ho0 (hok 0 (by simp)) n1 (λb hb=>hfr b (by simp[hb])) l _ (G9 l acc m x xs hk);have ha1:pL (λx v=>ok x/\RV w S φ1 x v/\∀l af,(l,af)∈ao x->known m1 l af) (y::acc).reverse (va++[v]):=by rw[q13];refine pL.snoc ⟨ha.1,λi hi=>?_⟩ ⟨hy1,hy2,hy3⟩;obtain ⟨q1,q2,q3⟩:=ha.2 i hi;exact ⟨q1,hm.rv _ _ q2 q3,λl af hl=>hm.kn l af (q3 l af hl)⟩
    obtain ⟨φ2,fp2,m2,ys,g1,g2,g3,g4,g5,g6⟩:=xn lC ju G9 xs vs fss (l+step) (y::acc) (va++[v]) φ1 fp1 m1 hm.rs (by simpa using hv) (by simpa using hf)
     (λi hi=>by have:=ho (i+1) (by simpa using hi);exact this) (λi hi=>by have:=hok (i+1) (by simpa using hi);exact this) n2
     (λb hb=>by
       obtain ⟨q1,q2,q3⟩:=hfr b (by simp only[List.flatten_cons,List.mem_append];exact .inr hb);refine ⟨q1,q2,λl hl=>?_⟩;rcases hm.U6 l b hl with hh|hh
       . exact q3 l hh
       exact n3 b hh hb) ha1 hk1
    refine ⟨φ2,fp2,m2,ys,g1,λl b hb=>?_,λz u hz hl=>g3 z u (hm.rv z u hz hl) λl af h=>hm.kn l af (hl l af h),λl af h=>g4 l af (hm.kn l af h),g5,by simpa using g6⟩;rcases g2 l b hb with hh|hh
    . rcases hm.U6 l b hh with h3|h3
      . exact .inl h3
      exact .inr (by simp[h3])
    exact .inr (by simp only[List.flatten_cons,List.mem_append];exact .inr hh)
theorem CM {S:nP}{xs:lA}{v:Value}{fs:lN}(h:Own w S (.agg xs) v fs):∃(cs:aV) (fss:List lN),v= .agg cs/\fs=fss.flatten/\cs.size=xs.length/\(∀i (h:i<xs.length),leaf xs[i])/\fss.length=xs.length∧
 ∀i (h:i<xs.length),Own w S xs[i] (cs.toList.getD i uD) (fss.getD i []):=by
 cases h with
 |rd _ _ h=>
  obtain ⟨cs,rfl,h1,h2,h3⟩:=oJ h;refine ⟨cs,List.replicate xs.length [],rfl,(List.flatten_eq_nil_iff.2 λl hl=>(List.mem_replicate.1 hl).2).symm,h1,h2,by simp,λi hi=>?_⟩;rw[show (List.replicate xs.length ([]:lN)).getD i []=[] by simp[q4,hi]];exact .rd _ _ (h3 i hi)
 |agg _ cs fss h1 h2 h3 h4=>exact ⟨cs,fss,rfl,rfl,h1,h2,h3,h4⟩
theorem JM {S:nP}{xs:lA}{v:Value}{fs:lN}(h:Own w S (.aX xs) v fs):∃(cs:aV) (fss:List lN),v= .tuple cs/\fs=fss.flatten/\cs.size=xs.length/\fss.length=xs.length∧
 ∀i (h:i<xs.length),Own w S xs[i] (cs.toList.getD i uD) (fss.getD i []):=by
 cases h with
 |rd _ _ h=>
  cases h with
  |aX _ cs h1 h3=>
  refine ⟨cs,List.replicate xs.length [],rfl,(List.flatten_eq_nil_iff.2 λl hl=>(List.mem_replicate.1 hl).2).symm,h1,by simp,λi hi=>?_⟩;rw[show (List.replicate xs.length ([]:lN)).getD i []=[] by simp[q4,hi]];exact .rd _ _ (h3 i hi)
 |aX _ cs fss h1 h3 h4=>exact ⟨cs,fss,rfl,rfl,h1,h3,h4⟩
theorem EG (h:RS B N φ fp S ts m a w){x:AV}{v:Value}{fs:lN}(hx:Own w (λ_=>False) x v fs)(hnd:fs.Nodup)(hfr:∀b,b∈fs->B.w0.heap.size<=b/\¬S b/\∀l,b∉fp l)
 (l:Nat) {k:AV->Mem->Prop} (hk:n8 l x m k) (hnt:∀xs,x≠ .aX xs):
 ∃φ' fp' y m',oR B N φ φ' fp fp' S ts m m' a w fs/\k y m'/\RV w S φ' y v/\∀l af,(l,af)∈ao y->known m' l af:=by
 have fin:leaf x->n7 l x m k->∃φ' fp' y m',oR B N φ φ' fp fp' S ts m m' a w fs/\k y m'/\RV w S φ' y v/\∀l af,(l,af)∈ao y->known m' l af:=by intro hlf hk;obtain ⟨φ',fp',y,m',g1,g2,_,g3,g4⟩:=EF h hx hlf hnd hfr l hk;exact ⟨φ',fp',y,m',g1,g2,g3,g4⟩
 cases x with
 |agg xs=>
  obtain ⟨cs,fss,rfl,rfl,h1,h2,h3,h4⟩:=CM hx
  obtain ⟨φ',fp',m',ys,g1,g2,g3,g4,g5,g6⟩:=xn (one:=n7) (ok:=leaf) (step:=1) (Q:=λys m'=>k (.agg ys) m') (many:=λl acc m xs=>qu (λys m'=>k (.agg ys) m') l acc m xs)
   (λφ fp m hRS x v fs ho hlf hn hf l k hk=>EF hRS ho hlf hn hf l hk) (λ_ _ _ h=>h) (λ_ _ _ _ _ h=>h) xs cs.toList fss l [] [] φ fp m h (by simpa using h1) h3 h4 h2 hnd hfr ⟨rfl,λi hi=>absurd hi (q16 _)⟩ hk
  refine ⟨φ',fp',.agg ys,m',⟨g1,g2,g3,g4⟩,g5,.agg ys cs (by simpa using g6.1) (λi hi=>(g6.2 i hi).1) (λi hi=>(g6.2 i hi).2.1),?_⟩;intro l af hl;obtain ⟨i,hi,hl'⟩:=bM (by simpa [ao] using hl);exact (g6.2 i hi).2.2 l af hl'
 |aX xs=>exact absurd rfl (hnt xs)
 |undef=>
  cases hx with
  |rd _ _ hr=>exact ⟨φ,fp,.undef,m,oR.refl h _,hk,.rd _ _ (.undef _),λ_ _ hl=>by cases hl⟩
 |_=>exact fin trivial hk
theorem CN (h:RS B N φ fp S ts m a w){x:AV}{v:Value}{fs:lN}(hx:Own w (λ_=>False) x v fs)(hnd:fs.Nodup)(hfr:∀b,b∈fs->B.w0.heap.size<=b/\¬S b/\∀l,b∉fp l)
 (l:Nat) {k:AV->Mem->Prop} (hk:mB l x m k):
 ∃φ' fp' y m',oR B N φ φ' fp fp' S ts m m' a w fs/\k y m'/\RV w S φ' y v/\∀l af,(l,af)∈ao y->known m' l af:=by
 cases x with
 |aX xs=>
  obtain ⟨cs,fss,rfl,rfl,h1,h3,h4⟩:=JM hx;simp only[mB] at hk
  obtain ⟨φ',fp',m',ys,g1,g2,g3,g4,g5,g6⟩:=xn (one:=n8) (ok:=λ_=>True) (step:=16) (Q:=λys m'=>k (.aX ys) m') (many:=λl acc m xs=>mb (λys m'=>k (.aX ys) m') l acc m xs)
   (λφ fp m hRS x v fs ho _ hn hf l k hk=>by
     by_cases hnt:∃zs,x= .aX zs
     . obtain ⟨zs,rfl⟩:=hnt;exact hk.elim
     obtain ⟨φ',fp',y,m',q1,q2,q3,q4⟩:=EG hRS ho hn hf l hk λzs e=>hnt ⟨zs,e⟩
     exact ⟨φ',fp',y,m',q1,q2,trivial,q3,q4⟩) (λ_ _ _ h=>h) (λ_ _ _ _ _ h=>h) xs cs.toList fss l [] [] φ fp m h (by simpa using h1) h3 h4 (λ_ _=>trivial) hnd hfr ⟨rfl,λi hi=>absurd hi (q16 _)⟩ hk
  refine ⟨φ',fp',.aX ys,m',⟨g1,g2,g3,g4⟩,g5,.aX ys cs (by simpa using g6.1) (λi hi=>(g6.2 i hi).2.1),?_⟩;intro l af hl;obtain ⟨i,hi,hl'⟩:=bM (by simpa [ao] using hl);exact (g6.2 i hi).2.2 l af hl'
 |_=>exact EG h hx hnd hfr l hk (λ_ e=>by cases e)
def u7 (l:Nat)(φ:Nat->LS)(k:Nat):LS:=if k=l then .dead else φ k
def Hs (l:Nat)(fp:nN)(k:Nat):lN:=if k=l then [] else fp k
theorem r7 {l k:Nat}{φ:Nat->LS}(h:k≠l):u7 l φ k=φ k:=if_neg h
theorem JN {l k:Nat}{fp:nN}(h:k≠l):Hs l fp k=fp k:=if_neg h
theorem r8 {l k b:Nat}{fp:nN}(h:b∈Hs l fp k):k≠l/\b∈fp k:=by
 unfold Hs at h;split at h
 . cases h
 exact ⟨‹_›,h⟩
theorem RS.X3 (h:RS B N φ fp S ts m a w){l v:Nat}{b0:bf}(hl:l<bE)(hm:ah m l=some b0)(hv:b0.af=v):
 RS B N (u7 l φ) (Hs l fp) (λb=>S b\/b∈fp l) ts ((l,.gone v)::m) a w:=by
 have hz:fX φ w w:=λl b sh af cs e _ hb=>⟨cs,e,hb,rfl⟩;have hle:∀k af,LS.le (u7 l φ k) (φ k) af:=λk af=>by
  unfold u7;split
  . exact LS.rK _ _
  exact LS.le_refl _ _
 have hkn:∀k af,known m k af->known ((l,.gone v)::m) k af:=by
  rintro k af ⟨b,h1,h2⟩;by_cases e:k=l
  . subst e;rw [hm] at h1;injection h1 with h1;subst h1
    exact ⟨.gone v,by rw[aw,if_pos rfl],by show af<=v;omega⟩
  exact ⟨b,by rw[aw,if_neg (Ne.symm e)];exact h1,h2⟩
 refine {tm:=λt=>(h.tm t).mono (λ_ _=>rfl) (λ_ h=>.inl h) hz λk af _=>hle k af,tl:=λt k af hk=>hkn k af (h.tl t k af hk),ca:=λk hk=> ?_,aG:=λk b hb=> ?_,bl:=λk v' xs hb k' af hk=> ?_,
         hZ:=λk=>?_,fL:=λk k' b h1 h2=>h.fL k k' b (r8 h1).2 (r8 h2).2,bS:=λk b hb=>?_,cu:=λk b hb=>h.cu k b (r8 hb).2,sB:=λb hb=>?_,base:=h.base,out:=h.out,ky:=h.ky,
         kn:=λk af hk hk2=>hkn k af (h.kn k af hk hk2),fix:=λk af hk hk2=>LS.le_trans (hle k af) (h.fix k af hk hk2),size:=h.size,defers:=h.defers,ly:=h.ly,jx:=h.jx.mono (λ_ _=>rfl) λ_ h=>.inl h}
 . rw [aw] at hk;split at hk
   . cases hk
   rename_i e;rw[r7 (Ne.symm e),JN (Ne.symm e)];exact h.ca k hk
 . rw [aw] at hb;split at hb
   . rename_i e;subst e;injection hb with hb
     subst hb;exact ⟨by unfold u7;rw[if_pos rfl],by unfold Hs;rw[if_pos rfl]⟩
   rename_i e;rw[JN (Ne.symm e)];exact (h.aG k b hb).mono (λ_ _=>rfl) (λ_ h=>.inl h) hz (λ_ _=>rfl) (r7 (Ne.symm e)) λv' xs _ k' af _=>hle k' af
 . rw [aw] at hb;split at hb
   . cases hb
   exact hkn k' af (h.bl k v' xs hb k' af hk)
 . unfold Hs;split
   . exact q12
   exact h.hZ k
 . obtain ⟨h1,h2⟩:=r8 hb;rintro (hs|hs)
   . exact h.bS k b h2 hs
   exact h1 (h.fL k l b h2 hs)
 rcases hb with hb|hb
 . exact h.sB b hb
 refine ⟨(h.cu l b hb).1,?_⟩;rcases (h.cu l b hb).2 with hh|⟨_,_,hh,_⟩
 . exact .inl hh
 exact absurd hl (Nat.not_lt.2 hh)
theorem CO (h:RS B N φ fp S ts m a w){l v i n:Nat}{sh:Sh}{d:Bool}{xs:lA}{u:Value}(hl:l<bE)(hm:ah m l=some (.row v sh d xs))(hn:i+n<=xs.length)(hu:RV w S φ (.ref l v i n) u):
 Rd w (λb=>S b\/b∈fp l) (.arr sh ((xs.drop i).take n)) u:=by
 have hr:=dt hu;have hlen:((xs.drop i).take n).length=n:=by simp;omega
 rcases h.aG l _ hm with ⟨h1,h2,h3⟩|⟨b,cap,hφ,hbm,hdp,bc⟩
 . obtain ⟨rfl,ad,rfl⟩:=hr.2 h1;rw[List.take_zero];exact .nil _ _
 obtain ⟨ad,cp,rfl,hnc,hcp⟩:=hr.1 b sh hφ;obtain ⟨cs,e,fss,hgf,aD,hcs,b_,hmx,hff,hfl,hvv⟩:=gI bc hbm;by_cases hc0:cp=0
 . have:n=0:=(by omega);subst this;subst hc0;rw[List.take_zero];exact .nil _ _
 obtain ⟨rfl,cs',e',g1,g2⟩:=hcp.resolve_left hc0;obtain rfl:=dc (aD.symm.trans g1);have cf:i*sh.sz+n*sh.sz<=cs.size:=by rw[g2,←Nat.add_mul];exact Nat.mul_le_mul_right _ (by omega)
 have:=Rd.arr (w:=w) (S:=λb=>S b\/b∈fp l) sh ((xs.drop i).take n) b (i*sh.sz) cp cs e.1 (ou e cs.size) (.inr hbm) aD (by rw [hlen];exact hnc) (by rw [hlen];exact cf)
  (λq hq=>by rw[hlen] at hq;simp only[q9,q6];exact hff _ (by omega))
  (λq hq=>by
    rw[hlen] at hq;simp only[q9,q6]
    have:=(hvv (i+q) (by omega)).mm (S':=λb=>S b\/b∈fp l) (λc hc=>by
     cases d with
     |true=>exact hc.elim
     |false=>exact .inl hc) (λc hc=>.inr (by rw[hgf];exact List.mem_cons_of_mem _ (aK (by omega) hc)))
    rwa [Nat.add_mul] at this)
 rw[hlen] at this;exact this
def r9 (l v i n:Nat)(b:Option bf)(m:Mem)(k:AV->Mem->Prop):Prop:=match b with
 |some (.row v' sh _ ys)=>v'=v/\l<bE/\i+n<=ys.length/\k (.arr sh ((ys.drop i).take n)) ((l,.gone v)::m)
 |_=>False
@[congr] theorem TZ {l v i n:Nat} {b b':Option bf} {m:Mem} {k:AV->Mem->Prop} (h:b=b'):r9 l v i n b m k=r9 l v i n b' m k:=by rw[h]
theorem AY (l v i n:Nat)(sh:Sh)(d:Bool)(ys:lA)(m:Mem)(k:AV->Mem->Prop):r9 l v i n (some (.row v sh d ys)) m k=(l<1000000000/\i+n<=ys.length/\k (.arr sh ((ys.drop i).take n)) ((l,.gone v)::m)):=by simp[r9,bE]
def mC (x:AV)(m:Mem)(k:AV->Mem->Prop):Prop:=match x with
 | .ref l v i n=>r9 l v i n (ah m l) m k
 |x=>k x m
@[congr] theorem T0 {x x':AV} {m:Mem} {k:AV->Mem->Prop} (h:x=x'):mC x m k=mC x' m k:=by rw[h]
theorem AZ (l v i n:Nat)(m:Mem)(k:AV->Mem->Prop):mC (.ref l v i n) m k=r9 l v i n (ah m l) m k:=rfl
theorem A0 (v:Value)(m:Mem)(k:AV->Mem->Prop):mC (.val v) m k=k (.val v) m:=rfl
theorem A1 (sh:Sh)(xs:lA)(m:Mem)(k:AV->Mem->Prop):mC (.arr sh xs) m k=k (.arr sh xs) m:=rfl
def nh (k:lA->Mem->Prop):lA->Mem->lA->Prop
 |acc,m,[]=>k acc.reverse m
 |acc,m,x::r=>mC x m λy m'=>nh k (y::acc) m' r
theorem xo (k:lA->Mem->Prop)(acc:lA)(m:Mem):nh k acc m []=k acc.reverse m:=rfl
theorem u9 (k:lA->Mem->Prop)(acc:lA)(m:Mem)(x:AV)(r:lA):nh k acc m (x::r)=mC x m λy m'=>nh k (y::acc) m' r:=rfl
def lH (x:AV)(m:Mem)(k:AV->Mem->Prop):Prop:=match x with
 | .agg xs=>nh (λys m'=>k (.agg ys) m') [] m xs
 |x=>mC x m k
@[congr] theorem T1 {x x':AV} {m:Mem} {k:AV->Mem->Prop} (h:x=x'):lH x m k=lH x' m k:=by rw[h]
theorem A2 (xs:lA)(m:Mem)(k:AV->Mem->Prop):lH (.agg xs) m k=nh (λys m'=>k (.agg ys) m') [] m xs:=rfl
theorem A3 (l v i n:Nat)(m:Mem)(k:AV->Mem->Prop):lH (.ref l v i n) m k=r9 l v i n (ah m l) m k:=rfl
theorem A4 (v:Value)(m:Mem)(k:AV->Mem->Prop):lH (.val v) m k=k (.val v) m:=rfl
theorem A5 (sh:Sh)(xs:lA)(m:Mem)(k:AV->Mem->Prop):lH (.arr sh xs) m k=k (.arr sh xs) m:=rfl
def qv (k:List (Nat × AV)->Mem->Prop):List (Nat × AV)->Mem->List (Nat × AV)->Prop
 |acc,m,[]=>k acc.reverse m
 |acc,m,(i,x)::r=>lH x m λy m'=>qv k ((i,y)::acc) m' r
theorem A6 (k:List (Nat × AV)->Mem->Prop)(acc:List (Nat × AV))(m:Mem):qv k acc m []=k acc.reverse m:=rfl
theorem xp (k:List (Nat × AV)->Mem->Prop)(acc:List (Nat × AV))(m:Mem)(i:Nat)(x:AV)(r:List (Nat × AV)):qv k acc m ((i,x)::r)=lH x m λy m'=>qv k ((i,y)::acc) m' r:=rfl
def iO (k:lA->Mem->Prop):lA->Mem->lA->Prop
 |acc,m,[]=>k acc.reverse m
 |acc,m,x::r=>lH x m λy m'=>iO k (y::acc) m' r
theorem xq (k:lA->Mem->Prop)(acc:lA)(m:Mem):iO k acc m []=k acc.reverse m:=rfl
theorem u_ (k:lA->Mem->Prop)(acc:lA)(m:Mem)(x:AV)(r:lA):iO k acc m (x::r)=lH x m λy m'=>iO k (y::acc) m' r:=rfl
def gK (ti:TI)(d n:Nat)(parts:List (Nat × AV))(m:Mem)(k:AV->Mem->Prop):Prop:=qv (λps m'=>iw ti d n ps m' k) [] m parts
theorem n_ (ti:TI)(d n:Nat)(parts:List (Nat × AV))(m:Mem)(k:AV->Mem->Prop):gK ti d n parts m k=qv (λps m'=>iw ti d n ps m' k) [] m parts:=rfl
structure EH (B:eC) (N:Nat) (φ φ':Nat->LS) (S S':nP) (fp':Nat->lN) (ts:Env) (m':Mem) (a:Act) (w:World):Prop where
 rs:RS B N φ' fp' S' ts m' a w
 rv:∀z u,RV w S φ z u->RV w S' φ' z u
theorem EI (h:RS B N φ fp S ts m a w){x:AV}{u:Value}(hu:RV w S φ x u){k:AV->Mem->Prop}(hk:mC x m k):∃φ' fp' S' m' y,EH B N φ φ' S S' fp' ts m' a w/\RV w S' φ' y u/\(leaf x->leaf y)/\k y m':=by
 unfold mC at hk;split at hk
 . rename_i l v i n;unfold r9 at hk;split at hk
   . rename_i v' sh d ys hlk;obtain ⟨rfl,hl,hn,hk⟩:=hk;refine ⟨_,_,_,_,_,⟨h.X3 hl hlk (v:=v') rfl,λz u hz=>hz.mono (λ_ _=>rfl) (λ_ h=>.inl h) (λl b sh af cs e _ hb=>⟨cs,e,hb,rfl⟩) λk af _=> ?_⟩,.rd _ _ (CO h hl hlk hn hu),λ_=>trivial,hk⟩;unfold u7;split
     . exact LS.rK _ _
     exact LS.le_refl _ _
   exact hk.elim
 exact ⟨φ,fp,S,m,x,⟨h,λ_ _ h=>h⟩,hu,id,hk⟩
theorem A7 {Q:lA->Mem->Prop}:∀(xs:lA) (vs:lV) (acc:lA) (va:lV) {φ:Nat->LS} {fp:nN} {S:nP} {m:Mem},RS B N φ fp S ts m a w->vs.length=xs.length->(∀i (h:i<xs.length),leaf xs[i]/\RV w S φ xs[i] (vs.getD i uD))→
 pL (λx v=>RV w S φ x v/\leaf x) acc.reverse va->nh Q acc m xs->∃φ' fp' S' m' ys,EH B N φ φ' S S' fp' ts m' a w/\pL (λx v=>RV w S' φ' x v/\leaf x) ys (va++vs)/\Q ys m'
 | [],vs,acc,va,φ,fp,S,m,h,hl,_,ha,hk=>by
   have:vs=[]:=q3 hl;subst this;exact ⟨φ,fp,S,m,_,⟨h,λ_ _ h=>h⟩,by simpa using ha,hk⟩
 |x::xs,vs,acc,va,φ,fp,S,m,h,hl,hx,ha,hk=>by
  cases vs with
  |nil=>simp at hl
  |cons v vs=>
   obtain ⟨hx1,hx2⟩:=hx 0 (by simp);obtain ⟨φ1,fp1,S1,m1,y,g1,g2,g3,g4⟩:=EI h (show RV w S φ x v from hx2) hk
   obtain ⟨φ2,fp2,S2,m2,ys,q1,q2,q3⟩:=A7 xs vs (y::acc) (va++[v]) g1.rs (by simpa using hl) (λi hi=>by
    have:=hx (i+1) (by simpa using hi)
    exact ⟨this.1,g1.rv _ _ this.2⟩) (by
    rw[q13]
    exact pL.snoc ⟨ha.1,λi hi=>⟨g1.rv _ _ (ha.2 i hi).1,(ha.2 i hi).2⟩⟩ ⟨g2,g3 hx1⟩) g4
   exact ⟨φ2,fp2,S2,m2,ys,⟨q1.rs,λz u hz=>q1.rv _ _ (g1.rv _ _ hz)⟩,by simpa using q2,q3⟩
theorem EJ (h:RS B N φ fp S ts m a w){x:AV}{u:Value}(hu:RV w S φ x u){k:AV->Mem->Prop}(hk:lH x m k):∃φ' fp' S' m' y,EH B N φ φ' S S' fp' ts m' a w/\RV w S' φ' y u/\k y m':=by
 unfold lH at hk;split at hk
 . rename_i xs;obtain ⟨cs,rfl,h1,h2,h3⟩:=nc hu;obtain ⟨φ',fp',S',m',ys,g1,g2,g3⟩:=A7 xs cs.toList [] [] h (by simpa using h1) (λi hi=>⟨h2 i hi,h3 i hi⟩) ⟨rfl,λi hi=>absurd hi (q16 _)⟩ hk;refine ⟨φ',fp',S',m',_,g1,.agg ys cs (by simpa using g2.1) (λi hi=>(g2.2 i hi).2) (λi hi=>(g2.2 i hi).1),g3⟩
 obtain ⟨φ',fp',S',m',y,g1,g2,_,g3⟩:=EI h hu hk;exact ⟨φ',fp',S',m',y,g1,g2,g3⟩
theorem pM {Q:lA->Mem->Prop}:∀(xs:lA) (vs:lV) (acc:lA) (va:lV) {φ:Nat->LS} {fp:nN} {S:nP} {m:Mem},RS B N φ fp S ts m a w->pL (RV w S φ) xs vs→
 pL (RV w S φ) acc.reverse va->iO Q acc m xs->∃φ' fp' S' m' ys,EH B N φ φ' S S' fp' ts m' a w/\pL (RV w S' φ') ys (va++vs)/\Q ys m'
 | [],vs,acc,va,φ,fp,S,m,h,hx,ha,hk=>by
   have:vs=[]:=q3 hx.1;subst this;exact ⟨φ,fp,S,m,_,⟨h,λ_ _ h=>h⟩,by simpa using ha,hk⟩
 |x::xs,vs,acc,va,φ,fp,S,m,h,hx,ha,hk=>by
  cases vs with
  |nil=>have:=hx.1;simp at this
  |cons v vs=>
   have hx2:=hx.2 0 (by simp);obtain ⟨φ1,fp1,S1,m1,y,g1,g2,g4⟩:=EJ h (show RV w S φ x v from hx2) hk
   obtain ⟨φ2,fp2,S2,m2,ys,q1,q2,q3⟩:=pM xs vs (y::acc) (va++[v]) g1.rs ⟨by simpa using hx.1,λi hi=>by
    have:=hx.2 (i+1) (by simpa using hi)
    exact g1.rv _ _ this⟩ (by
    rw[q13]
    exact pL.snoc ⟨ha.1,λi hi=>g1.rv _ _ (ha.2 i hi)⟩ g2) g4
   exact ⟨φ2,fp2,S2,m2,ys,⟨q1.rs,λz u hz=>q1.rv _ _ (g1.rv _ _ hz)⟩,by simpa using q2,q3⟩
theorem JO {R:AV->Value->Prop}{i:Nat}{x:AV}{v:Value}(hx:R x v):∀(ps:List (Nat × AV)) (vs:List (Nat × Value)),PR R ps vs->PR R (ps++[(i,x)]) (vs++[(i,v)])
 | [],[],_=>⟨rfl,hx,trivial⟩
 |(j,y)::r,(j',u)::s,⟨h1,h2,h3⟩=>⟨h1,h2,JO hx r s h3⟩
 | [],_::_,h=>h.elim
 |_::_,[],h=>h.elim
theorem CP {R R':AV->Value->Prop}(hR:∀x v,R x v->R' x v):∀(ps:List (Nat × AV)) (vs:List (Nat × Value)),PR R ps vs->PR R' ps vs
 | [],[],_=>trivial
 |(j,y)::r,(j',u)::s,⟨h1,h2,h3⟩=>⟨h1,hR _ _ h2,CP hR r s h3⟩
 | [],_::_,h=>h.elim
 |_::_,[],h=>h.elim
theorem EK {Q:List (Nat × AV)->Mem->Prop}:∀(ps:List (Nat × AV)) (vs:List (Nat × Value)) (acc:List (Nat × AV)) (va:List (Nat × Value)) {φ:Nat->LS} {fp:nN} {S:nP} {m:Mem},RS B N φ fp S ts m a w->PR (RV w S φ) ps vs→
 PR (RV w S φ) acc.reverse va->qv Q acc m ps->∃φ' fp' S' m' qs,EH B N φ φ' S S' fp' ts m' a w/\PR (RV w S' φ') qs (va++vs)/\Q qs m'
 | [],[],acc,va,φ,fp,S,m,h,_,ha,hk=>⟨φ,fp,S,m,_,⟨h,λ_ _ h=>h⟩,by simpa using ha,hk⟩
 |(i,x)::r,(j,v)::s,acc,va,φ,fp,S,m,h,⟨e,hx,hr⟩,ha,hk=>by
  subst e;obtain ⟨φ1,fp1,S1,m1,y,g1,g2,g4⟩:=EJ h hx hk
  obtain ⟨φ2,fp2,S2,m2,qs,q1,q2,q3⟩:=EK r s ((i,y)::acc) (va++[(i,v)]) g1.rs (CP g1.rv _ _ hr) (by
   rw[q13]
   exact JO g2 _ _ (CP g1.rv _ _ ha)) g4
  exact ⟨φ2,fp2,S2,m2,qs,⟨q1.rs,λz u hz=>q1.rv _ _ (g1.rv _ _ hz)⟩,by simpa using q2,q3⟩
 | [],_::_,_,_,_,_,_,_,_,h,_,_=>h.elim
 |_::_,[],_,_,_,_,_,_,_,h,_,_=>h.elim
theorem vT {t:TypeId}{tt ti:TI}(htt:aL P t=some tt)(hks:tt.kind= .slice)(ht:aL P tt.elem=some ti)(h:RS B N φ fp S ts m a w){parts:List (Nat × AV)}{vparts:List (Nat × Value)}(hp:PR (RV w S φ) parts vparts)(d n:Nat)
 {k:AV->Mem->Prop} (hk:gK ti d n parts m k):iI B N a (λx ts' m'=>ts'=ts/\k x m') ((Instr.buildSlice t n vparts.toArray).run P w):=by
 obtain ⟨φ',fp',S',m',qs,g1,g2,g3⟩:=EK parts vparts [] [] h hp trivial hk;exact vS htt hks ht g1.rs g2 d n g3
def tB (d:Nat)(x:AV)(m:Mem)(k:AV->Mem->Prop):Prop:=match x with
 | .val (.string s)=>s.data.size<=1048576/\k (.ref d (az m d) 0 s.data.size) ((d,.row (az m d) ⟨1,false⟩ true (s.data.toList.map λb=>.val (.int .u8 b.toNat)))::m)
 |_=>False
@[congr] theorem RN {d:Nat} {x x':AV} {m:Mem} {k:AV->Mem->Prop} (h:x=x'):tB d x m k=tB d x' m k:=by rw[h]
theorem KQ (h:RS B N φ fp S ts m a w){src t e:TypeId}(hs:P.underlying src=some .string)(hd:P.underlying t=some (.slice e))(he:P.underlying e=some (.int .u8)){s:ByteArray}(hl:s.data.size<=1048576)(d:Nat)
 {k:AV->Mem->Prop} (hk:k (.ref d (az m d) 0 s.data.size) ((d,.row (az m d) ⟨1,false⟩ true (s.data.toList.map λb=>.val (.int .u8 b.toNat)))::m)):
 iI B N a (λx ts' m'=>ts'=ts/\k x m') ((convert src t (.string s)).run P w):=by
 refine ⟨_,_,run_bytes_of_string w src t e s hs hd he,?_⟩;have hsz:s.size=s.data.size:=rfl;have hge:=grownCap_ge w s.size 0 e;have hle:grownCap w s.size 0 e<=maxLen:=grownCap_le_maxLen w _ _ _ (by unfold maxLen;omega);generalize grownCap w s.size 0 e=gc at hge hle ⊢;have hC:(bytesRow s gc).size=gc:=by simp[bytesRow];omega
 have hg:∀i (hi:i<s.data.size),(bytesRow s gc).toList.getD i uD= .int .u8 (s.data.toList[i]'(by simpa using hi)).toNat:=by intro i hi;rw[q4,q2];unfold bytesRow;rw[Array.getElem?_append_left (by simpa using hi)];have hi2:i<s.data.size:=hi;simp only[Array.getElem?_map,q1 hi2,Option.map_some,Option.getD_some,Array.getElem_toList]
 have iq:(w.drew.alloc (.cells (bytesRow s gc) e ((bytesRow s gc).size,(bytesRow s gc).size+1))).heap[w.heap.size]? =some (eA (bytesRow s gc) (e,true)):=Hg w.drew _;have hold:∀b,b<w.heap.size->(w.drew.alloc (.cells (bytesRow s gc) e ((bytesRow s gc).size,(bytesRow s gc).size+1))).heap[b]? =w.heap[b]? :=λb hb=>JA w.drew _ b hb;have hws:(w.drew.alloc (.cells (bytesRow s gc) e ((bytesRow s gc).size,(bytesRow s gc).size+1))).heap.size=w.heap.size+1:=by simp
 have hso:a7 w (w.drew.alloc (.cells (bytesRow s gc) e ((bytesRow s gc).size,(bytesRow s gc).size+1))):=⟨rfl,rfl,rfl⟩;generalize w.drew.alloc (.cells (bytesRow s gc) e ((bytesRow s gc).size,(bytesRow s gc).size+1))=w' at iq hold hws hso ⊢;generalize bytesRow s gc=C at iq hC hg;have hlen:(s.data.toList.map λb=>AV.val (.int .u8 b.toNat)).length=s.data.size:=by simp
 have bc:Own w' (if true=true then λ_=>False else S) (.arr ⟨1,false⟩ (s.data.toList.map λb=>AV.val (.int .u8 b.toNat))) (.slice (some ⟨w.heap.size,0,none⟩) (s.data.toList.map λb=>AV.val (.int .u8 b.toNat)).length gc) [w.heap.size]:=by
  have e1:[w.heap.size]=w.heap.size::(List.replicate (s.data.toList.map λb=>AV.val (.int .u8 b.toNat)).length ([]:lN)).flatten:=by congr 1;exact (List.flatten_eq_nil_iff.2 λl hl=>(List.mem_replicate.1 hl).2).symm
  rw[e1];refine .arr ⟨1,false⟩ _ w.heap.size gc C (e,true) _ iq (by rw[hC,Nat.mul_one]) (by rw[hlen];omega) hle (λi hi=>?_) (by simp) λi hi=>?_
  . rw[q7];exact ⟨rfl,rfl⟩
  rw[hlen] at hi;rw[bd,Nat.mul_one,hg i hi,q7];have e2:(List.replicate (s.data.toList.map λb=>AV.val (.int .u8 b.toNat)).length ([]:lN)).getD i []=[]:=by rw[q4,List.getElem?_replicate];split<;>rfl
  rw[e2];exact .rd _ _ (.val _ rfl)
 refine h.kh (b:=w.heap.size) (cap:=gc) (by omega) hso (jI.of_same hold) (λc _ hc=>hold c hc) (λl b sh af cs e hl hb=>⟨cs,e,by rw [hold b (h.cu l b (h.at_mem hl)).1];exact hb,rfl⟩) (.inr ⟨rfl,by omega⟩) (λaf hv=>ff hv)
  (λc hc=>.inl (q10.1 hc)) (q10.2 rfl) (λh=>by cases h) (List.nodup_cons.2 ⟨List.not_mem_nil,q12⟩) bc ?_ ⟨rfl,hk⟩
 exact ⟨_,gc,by rw[hsz],by omega,.inr ⟨rfl,_,_,iq,by rw[hC,Nat.mul_one]⟩⟩
end
def xr (kd:TK)(k:Prop):Prop:=match kd with| .slice=>k|_=>False
theorem A8 (k:Prop):xr .slice k=k:=rfl
def Wp (kd:TK)(k:Prop):Prop:=match kd with| .struct=>k|_=>False
theorem xu (k:Prop):Wp .struct k=k:=rfl
def r_ (m:Mem)(x:AV)(k:AV->Prop):Prop:=match x with
 | .ptr l v i j=>gm v (ah m l) (k (.ptr l v i j))
 | .bo sh xs i j=>k (.bo sh xs i j)
 | .cn f xs=>k (.cn f xs)
 |_=>False
@[congr] theorem U7 {m:Mem} {x x':AV} {k:AV->Prop} (h:x=x'):r_ m x k=r_ m x' k:=by rw[h]
theorem EL (m:Mem)(l v i j:Nat)(k:AV->Prop):r_ m (.ptr l v i j) k=gm v (ah m l) (k (.ptr l v i j)):=rfl
theorem A9 (m:Mem)(sh:Sh)(xs:lA)(i j:Nat)(k:AV->Prop):r_ m (.bo sh xs i j) k=k (.bo sh xs i j):=rfl
def ni (P:pR)(tt:TI)(x:AV)(lo hi:Option AV)(m:Mem)(k:AV->Prop):Prop:=match tt.kind with
 | .string=>(match x with| .val (.string _)=>True|_=>False)/\fQ ⟨0,false⟩ x lo hi m k
 | .slice=>(match x with| .arr _ _=>True| .ref _ _ _ _=>True|_=>False)/\ew (aL P tt.elem) λti=>fQ ti.sh x lo hi m k
 |_=>False
@[congr] theorem U8 {P:pR} {tt:TI} {x x':AV} {lo hi lo' hi':Option AV} {m:Mem} {k:AV->Prop} (h:x=x') (h1:lo=lo') (h2:hi=hi'):ni P tt x lo hi m k=ni P tt x' lo' hi' m k:=by rw[h,h1,h2]
theorem EM (P:pR)(ag:Bool)(s b:Nat)(z:AV)(f:List (Nat × Nat × Bool))(e:Nat)(u:ByteArray)(lo hi:Option AV)(m:Mem)(k:AV->Prop):
 ni P ⟨ag,s,b,z,f,e,.string⟩ (.val (.string u)) lo hi m k=fQ ⟨0,false⟩ (.val (.string u)) lo hi m k:=by simp[ni]
theorem EN (P:pR)(ag:Bool)(s b:Nat)(z:AV)(f:List (Nat × Nat × Bool))(e:Nat)(sh:Sh)(xs:lA)(lo hi:Option AV)(m:Mem)(k:AV->Prop):
 ni P ⟨ag,s,b,z,f,e,.slice⟩ (.arr sh xs) lo hi m k=ew (aL P e) λti=>fQ ti.sh (.arr sh xs) lo hi m k:=by simp[ni]
theorem EO (P:pR)(ag:Bool)(s b:Nat)(z:AV)(f:List (Nat × Nat × Bool))(e:Nat)(l v i n:Nat)(lo hi:Option AV)(m:Mem)(k:AV->Prop):
 ni P ⟨ag,s,b,z,f,e,.slice⟩ (.ref l v i n) lo hi m k=ew (aL P e) λti=>fQ ti.sh (.ref l v i n) lo hi m k:=by simp[ni]
def qw (sh:Sh)(l v i0 n:Nat)(i:Int)(b:Option bf)(k:AV->Prop):Prop:=match b with
 |some (.row v' sh' _ _)=>v'=v/\sh'=sh/\((0<=i/\i<n)/\k (.ptr l v (i0+i.toNat) 0))
 |some (.box v' _)=>v'=v/\i0=0/\sh.sz=1/\((0<=i/\i<n)/\k (.ptr l v 0 i.toNat))
 |_=>False
@[congr] theorem T2 {sh:Sh} {l v i0 n:Nat} {i:Int} {b b':Option bf} {k:AV->Prop} (h:b=b'):qw sh l v i0 n i b k=qw sh l v i0 n i b' k:=by rw[h]
theorem A_ (sh:Sh)(l v i0 n:Nat)(i:Int)(d:Bool)(xs:lA)(k:AV->Prop):qw sh l v i0 n i (some (.row v sh d xs)) k=((0<=i/\i<n)/\k (.ptr l v (i0+i.toNat) 0)):=by simp[qw]
def oS (sh:Sh)(m:Mem)(x i:AV)(k:AV->Prop):Prop:=match x,i with
 | .arr sh' xs,.val (.int _ i)=>sh'=sh/\(0<=i/\i<xs.length)/\k (.bo sh xs i.toNat 0)
 | .ref l v i0 n,.val (.int _ i)=>qw sh l v i0 n i (ah m l) k
 |_,_=>False
@[congr] theorem U9 {sh:Sh} {m:Mem} {x x' i i':AV} {k:AV->Prop} (h:x=x') (h':i=i'):oS sh m x i k=oS sh m x' i' k:=by rw[h,h']
theorem xw (sh:Sh)(m:Mem)(xs:lA)(j:IntKind)(i:Int)(k:AV->Prop):oS sh m (.arr sh xs) (.val (.int j i)) k=((0<=i/\i<xs.length)/\k (.bo sh xs i.toNat 0)):=by simp[oS]
theorem EP (sh:Sh)(m:Mem)(l v i0 n:Nat)(j:IntKind)(i:Int)(k:AV->Prop):oS sh m (.ref l v i0 n) (.val (.int j i)) k=qw sh l v i0 n i (ah m l) k:=rfl
def N1 (sh:Sh)(u:Value)(i:AV)(m0:Mem)(k:AV->Prop):Mem->Prop
 | []=>False
 |(l,.sub v sh' xs u')::_=>(ah m0 l=some (.sub v sh' xs u')/\u'=u/\sh'=sh)/\(match i with| .val (.int _ n)=>(0<=n/\n<xs.length)/\k (.ptr l v n.toNat 0)|_=>False)
 |_::r=>N1 sh u i m0 k r
section
variable (sh:Sh) (u:Value) (j:IntKind) (n:Int) (m0:Mem) (k:AV->Prop) (l:Nat) (r:Mem)
end
def vd (sh:Sh)(m:Mem)(x i:AV)(k:AV->Prop):Prop:=match x with
 | .val u=>N1 sh u i m k m
 |x=>oS sh m x i k
@[congr] theorem T3 {sh:Sh} {m:Mem} {x x' i i':AV} {k:AV->Prop} (h:x=x') (h':i=i'):vd sh m x i k=vd sh m x' i' k:=by rw[h,h']
theorem A' (sh:Sh)(m:Mem)(xs:lA)(j:IntKind)(i:Int)(k:AV->Prop):vd sh m (.arr sh xs) (.val (.int j i)) k=((0<=i/\i<xs.length)/\k (.bo sh xs i.toNat 0)):=xw sh m xs j i k
theorem Ba (sh:Sh)(m:Mem)(l v i0 n:Nat)(j:IntKind)(i:Int)(k:AV->Prop):vd sh m (.ref l v i0 n) (.val (.int j i)) k=qw sh l v i0 n i (ah m l) k:=rfl
theorem N2 {sh:Sh}{m:Mem}{x i:AV}{k:AV->Prop}(h:oS sh m x i k):vd sh m x i k:=by
 cases x with
 |val u=>cases i<;>exact h.elim
 |_=>exact h
def Zc (P:pR)(tys:List TypeId)(d:Nat)(x y:AV)(m:Mem)(k:AV->Mem->Prop):Prop:=match tys with
 | [t,t']=>ew (aL P t) λtt=>xr tt.kind (ew (aL P t') λtt'=>xr tt'.kind (ew (aL P tt.elem) λti=>vR ti d x y m k))
 |_=>False
def kP (P:pR)(tys:List TypeId)(d:Nat)(x y:AV)(m:Mem)(k:AV->Mem->Prop):Prop:=match tys with
 | [t,t']=>ew (aL P t) λtt=>xr tt.kind (ew (aL P t') λtt'=>xr tt'.kind (ew (aL P tt.elem) λti=>lG ti d x y m k))
 |_=>False
theorem Bb (P:pR)(t t':TypeId)(d:Nat)(x y:AV)(m:Mem)(k:AV->Mem->Prop):
 kP P [t,t'] d x y m k=ew (aL P t) λtt=>xr tt.kind (ew (aL P t') λtt'=>xr tt'.kind (ew (aL P tt.elem) λti=>lG ti d x y m k)):=rfl
theorem JP (ti:TI)(d:Nat)(x y:AV)(m:Mem)(k:AV->Mem->Prop):
 vR ti d x y m k=(ti.bytes<=65536/\0<ti.size/\fits ti.sh ti.zero/\qN ti.sh y m λys=>bm ys=true/\oL ti d x ys m k):=rfl
def WB:Option Operand->Bool
 |some (.const (.int _ n))=>n==0
 |_=>false
def qQ (ag:Bool)(n j:Nat)(x:AV)(k:AV->Prop):Prop:=match x with| .agg ys=>dj ag n j (.agg ys) k|_=>False
@[congr] theorem RO {ag:Bool} {n j:Nat} {x x':AV} {k:AV->Prop} (h:x=x'):qQ ag n j x k=qQ ag n j x' k:=by rw[h]
def qx (a:AV)(m:Mem)(k:Bool->Prop):Prop:=match a with
 | .arr _ xs=>∀c,(c=true->xs=[])->k c
 | .ref l v _ n=>gm v (ah m l) (∀c,(c=true->n=0)->k c)
 | .e0=>∀c,k c
 | .val (.slice none 0 0)=>k true
 |_=>False
@[congr] theorem T4 {a a':AV} {m:Mem} {k:Bool->Prop} (h:a=a'):qx a m k=qx a' m k:=by rw[h]
theorem Bc (sh:Sh)(xs:lA)(m:Mem)(k:Bool->Prop):qx (.arr sh xs) m k=∀c,(c=true->xs=[])->k c:=rfl
theorem Bd (m:Mem)(k:Bool->Prop):qx (.val (.slice none 0 0)) m k=k true:=rfl
def U_:Operand->Bool| .const _=>true|_=>false
theorem KR (v:Value):U_ (.const v)=true:=rfl
theorem RP (t:Nat):U_ (.tmp t)=false:=rfl
def Ht (op:BinOp)(a:AV)(c:Bool)(k:AV->Prop):Prop:=match op,a with
 | .eql,.val .nilIface=>c=true/\k (.val (.bool true))
 | .neq,.val .nilIface=>c=true/\k (.val (.bool false))
 | .eql,.val (.iface _ _)=>k (.val (.bool false))
 | .neq,.val (.iface _ _)=>k (.val (.bool true))
 |_,_=>False
@[congr] theorem U' {op:BinOp} {a a':AV} {c:Bool} {k:AV->Prop} (h:a=a'):Ht op a c k=Ht op a' c k:=by rw[h]
theorem JQ (c:Bool)(k:AV->Prop):Ht .eql (.val .nilIface) c k=(c=true/\k (.val (.bool true))):=rfl
theorem JR (t:TypeId)(v:Value)(c:Bool)(k:AV->Prop):Ht .eql (.val (.iface t v)) c k=k (.val (.bool false)):=rfl
def lJ (op:BinOp)(kd:TK)(a b:AV)(c:Bool)(m:Mem)(k:AV->Prop):Prop:=match kd,op,b with
 | .slice,.eql,.val (.slice none 0 0)=>qx a m λc=>k (.val (.bool c))
 | .slice,.neq,.val (.slice none 0 0)=>qx a m λc=>k (.val (.bool (!c)))
 | .iface,op,.val .nilIface=>Ht op a c k
 |kd,op,b=>kL op kd a b k
@[congr] theorem T5 {op:BinOp} {kd:TK} {a b a' b':AV} {c:Bool} {m:Mem} {k:AV->Prop} (h:a=a') (h':b=b'):lJ op kd a b c m k=lJ op kd a' b' c m k:=by rw[h,h']
theorem Be (a:AV)(c:Bool)(m:Mem)(k:AV->Prop):lJ .eql .slice a (.val (.slice none 0 0)) c m k=qx a m λc=>k (.val (.bool c)):=rfl
theorem Bf (a:AV)(c:Bool)(m:Mem)(k:AV->Prop):lJ .neq .slice a (.val (.slice none 0 0)) c m k=qx a m λc=>k (.val (.bool (!c))):=rfl
theorem ve (op:BinOp)(a:AV)(c:Bool)(m:Mem)(k:AV->Prop):lJ op .iface a (.val .nilIface) c m k=Ht op a c k:=by cases op<;>rfl
theorem Bg (op:BinOp)(i:IntKind)(a b:AV)(c:Bool)(m:Mem)(k:AV->Prop):lJ op (.int i) a b c m k=kL op (.int i) a b k:=rfl
theorem xx (op:BinOp)(a b:AV)(c:Bool)(m:Mem)(k:AV->Prop):lJ op .bool a b c m k=kL op .bool a b k:=rfl
theorem sa (op:BinOp)(a b:AV)(c:Bool)(m:Mem)(k:AV->Prop):lJ op .string a b c m k=kL op .string a b k:=rfl
theorem N3 {op:BinOp}{kd:TK}{a b:AV}{c:Bool}{m:Mem}{k:AV->Prop}(h:kL op kd a b k):lJ op kd a b c m k:=by
 unfold lJ;split
 . unfold kL at h;split at h<;>first|exact h.elim|(rename_i e;cases e)
 . unfold kL at h;split at h<;>first|exact h.elim|(rename_i e;cases e)
 . unfold kL at h;split at h<;>first|exact h.elim|(rename_i e;cases e)
 exact h
def nj (P:pR)(c:AV)(d:Nat)(xs:lA)(m:Mem)(k:AV->Mem->Prop):Prop:=match c with
 | .cn f ys=>n9 P f d (xs++ys) m k
 |_=>False
@[congr] theorem RQ {P:pR} {c c':AV} {d:Nat} {xs xs':lA} {m:Mem} {k:AV->Mem->Prop} (h:c=c') (h':xs=xs'):nj P c d xs m k=nj P c' d xs' m k:=by rw[h,h']
theorem xy (P:pR)(f:fI)(ys:lA)(d:Nat)(xs:lA)(m:Mem)(k:AV->Mem->Prop):nj P (.cn f ys) d xs m k=n9 P f d (xs++ys) m k:=rfl
def jC (k:AV->Prop):lU->lA->Prop
 |acc,[]=>k (.val (.string ⟨acc.reverse.toArray⟩))
 |acc,.val (.int .u8 z)::r=>(0<=z/\z<256)/\jC k (UInt8.ofNat z.toNat::acc) r
 |_,_=>False
theorem oU (k:AV->Prop)(acc:lU):jC k acc []=k (.val (.string ⟨acc.reverse.toArray⟩)):=rfl
theorem nk (k:AV->Prop)(acc:lU)(z:Int)(r:lA):jC k acc (.val (.int .u8 z)::r)=((0<=z/\z<256)/\jC k (UInt8.ofNat z.toNat::acc) r):=rfl
theorem N4 (b:UInt8):(0<=((b.toNat:Nat):Int)/\((b.toNat:Nat):Int)<256)/\UInt8.ofNat ((b.toNat:Nat):Int).toNat=b:=by have:=b.toNat_lt;refine ⟨⟨by omega,by omega⟩,?_⟩;simp
theorem oV (k:AV->Prop):∀(bs acc:lU),jC k acc (bs.map λb=>.val (.int .u8 b.toNat))=k (.val (.string ⟨(acc.reverse++bs).toArray⟩))
 | [],acc=>by simp[jC]
 |b::r,acc=>by rw[List.map_cons,nk,(N4 b).2,oV k r (b::acc)];simp[(N4 b).1]
theorem vf {k:AV->Prop}:∀{xs:lA} {acc:lU},jC k acc xs->∃bs:lU,xs=bs.map (λb=>.val (.int .u8 b.toNat))/\k (.val (.string ⟨(acc.reverse++bs).toArray⟩))
 | [],acc,h=>⟨[],rfl,by rw[oU] at h;simpa using h⟩
 | .val (.int .u8 z)::r,acc,h=>by
   obtain ⟨⟨h0,h1⟩,h⟩:=h;obtain ⟨bs,rfl,hk⟩:=vf h;refine ⟨UInt8.ofNat z.toNat::bs,?_,by simpa using hk⟩;have:((UInt8.ofNat z.toNat).toNat:Int)=z:=by rw[UInt8.toNat_ofNat_of_lt' (by show z.toNat<256;omega)];omega
   rw[List.map_cons,this]
def oW (y:AV)(k:AV->Prop):Prop:=match y with| .arr _ xs=>jC k [] xs|_=>False
@[congr] theorem RT {y y':AV} {k:AV->Prop} (h:y=y'):oW y k=oW y' k:=by rw[h]
theorem xz (sh:Sh)(xs:lA)(k:AV->Prop):oW (.arr sh xs) k=jC k [] xs:=rfl
def xA (kd:TK)(k:Prop):Prop:=match kd with| .int .u8=>k|_=>False
theorem RU (k:Prop):xA (.int .u8) k=k:=rfl
def ER (x:AV)(k:AV->Prop):Prop:=match x with| .val (.int _ n)=>(0<=n/\n<128)/\k (.val (.string ⟨#[UInt8.ofNat n.toNat]⟩))|_=>False
@[congr] theorem Va {y y':AV} {k:AV->Prop} (h:y=y'):ER y k=ER y' k:=by rw[h]
theorem ES (i:IntKind)(n:Int)(k:AV->Prop):ER (.val (.int i n)) k=((0<=n/\n<128)/\k (.val (.string ⟨#[UInt8.ofNat n.toNat]⟩))):=rfl
def fR (P:pR)(si ti:TI)(x:AV)(m:Mem)(k:AV->Prop):Prop:=match si.kind,ti.kind with
 | .slice,.string=>ew (aL P si.elem) λei=>xA ei.kind (fB m x λy=>oW y k)
 | .int _,.string=>ER x k
 |_,d=>uz d x k
@[congr] theorem RW {P:pR} {si ti:TI} {x x':AV} {m:Mem} {k:AV->Prop} (h:x=x'):fR P si ti x m k=fR P si ti x' m k:=by rw[h]
section
variable (P:pR) (ag ag':Bool) (s b s' b':Nat) (z z':AV) (f f':List (Nat × Nat × Bool)) (e e':Nat) (x:AV) (m:Mem) (k:AV->Prop)
theorem sb:fR P ⟨ag,s,b,z,f,e,.slice⟩ ⟨ag',s',b',z',f',e',.string⟩ x m k=ew (aL P e) λei=>xA ei.kind (fB m x λy=>oW y k):=rfl
theorem xB (i:IntKind):fR P ⟨ag,s,b,z,f,e,.int i⟩ ⟨ag',s',b',z',f',e',.string⟩ x m k=ER x k:=rfl
theorem xC (kd:TK)(i:IntKind):fR P ⟨ag,s,b,z,f,e,kd⟩ ⟨ag',s',b',z',f',e',.int i⟩ x m k=uz (.int i) x k:=by cases kd<;>rfl
end
def kQ (P:pR)(si ti:TI)(d:Nat)(x:AV)(m:Mem)(k:AV->Mem->Prop):Prop:=match si.kind,ti.kind with
 | .string,.slice=>ew (aL P ti.elem) λei=>xA ei.kind (tB d x m k)
 |_,_=>fR P si ti x m λv=>k v m
@[congr] theorem RX {P:pR} {si ti:TI} {d:Nat} {x x':AV} {m:Mem} {k:AV->Mem->Prop} (h:x=x'):kQ P si ti d x m k=kQ P si ti d x' m k:=by rw[h]
section
variable (P:pR) (ag ag':Bool) (s b s' b':Nat) (z z':AV) (f f':List (Nat × Nat × Bool)) (e e' d:Nat) (x:AV) (m:Mem) (k:AV->Mem->Prop)
theorem sc:kQ P ⟨ag,s,b,z,f,e,.slice⟩ ⟨ag',s',b',z',f',e',.string⟩ d x m k=fR P ⟨ag,s,b,z,f,e,.slice⟩ ⟨ag',s',b',z',f',e',.string⟩ x m λv=>k v m:=rfl
theorem xD (i:IntKind):kQ P ⟨ag,s,b,z,f,e,.int i⟩ ⟨ag',s',b',z',f',e',.string⟩ d x m k=fR P ⟨ag,s,b,z,f,e,.int i⟩ ⟨ag',s',b',z',f',e',.string⟩ x m λv=>k v m:=rfl
theorem xE (kd:TK)(i:IntKind):kQ P ⟨ag,s,b,z,f,e,kd⟩ ⟨ag',s',b',z',f',e',.int i⟩ d x m k=fR P ⟨ag,s,b,z,f,e,kd⟩ ⟨ag',s',b',z',f',e',.int i⟩ x m λv=>k v m:=by cases kd<;>rfl
end
def iL (P:pR)(d:Nat)(op:Op)(ts:Env)(m:Mem)(k:AV->Mem->Prop):Prop:=
 match op with
 | .move x=>k (ev ts x) m
 | .assign x=>k (ev ts x) m
 | .pick c a b=>qm (ev ts c) (ev ts a) (ev ts b) λv=>k v m
 | .alloc t=>ew (aL P t) λti=>CH d ti.zero m k
 | .box _ x=>CH d (ev ts x) m k
 | .build t parts=>ew (aL P t) λti=>Wp ti.kind (qO ti (parts.toList.map λp=>(p.1,ev ts p.2)) λv=>k v m)
 | .buildSlice t n parts=>ew (aL P t) λtt=>xr tt.kind (ew (aL P tt.elem) λti=>gK ti d n (parts.toList.map λp=>(p.1,ev ts p.2)) m k)
 | .load t x=>ew (aL P t) λti=>oH ti.agg ti.size (ev ts x) m k
 | .store t p y=>ew (aL P t) λti=>fZ ti.size (ev ts p) (ev ts y) m λm'=>k .undef m'
 | .nilCheck x=>r_ m (ev ts x) λv=>k v m
 | .binOp op t x y _=>ew (aL P t) λti=>gq P t op (ev ts x) (ev ts y) (λv=>k v m) (lJ op ti.kind (ev ts x) (ev ts y) (U_ y) m λv=>k v m)
 | .unOp .not _ x=>zB (ev ts x) λv=>k v m
 | .unOp .neg _ x=>CC (ev ts x) λv=>k v m
 | .convert s t x=>ew (aL P s) λsi=>ew (aL P t) λti=>kQ P si ti d (ev ts x) m k
 | .makeSlice t l c=>ew (aL P t) λtt=>xr tt.kind (ew (aL P tt.elem) λti=>rW ti d (ev ts l) (ev ts c) m k)
 | .slice t x lo hi none=>ew (aL P t) λtt=>ni P tt (ev ts x) (lo.map (ev ts)) (hi.map (ev ts)) m λv=>k v m
 | .slice t x none hi mx=>(WB hi=true/\WB mx=true)/\ew (aL P t) λtt=>xr tt.kind (ew (aL P tt.elem) λ_=>jA m (ev ts x) λv=>k v m)
 | .fieldAddr t x f=>ew (aL P t) λti=>vO ti.fields[f]? λfd=>0<fd.2.1/\h_ fd.1 m (ev ts x) λv=>k v m
 | .field t x f=>ew (aL P t) λti=>vO ti.fields[f]? λfd=>qQ fd.2.2 fd.2.1 fd.1 (ev ts x) λv=>k v m
 | .indexAddr t x i=>ew (aL P t) λtt=>xr tt.kind (ew (aL P tt.elem) λti=>vd ti.sh m (ev ts x) (ev ts i) λv=>k v m)
 | .index t x i=>ew (aL P t) λtt=>(match tt.kind with| .string=>True|_=>False)/\na (ev ts x) (ev ts i) λv=>k v m
 | .extract x i=>zC i (ev ts x) λv=>k v m
 | .call c=>match c.callee,c.args.toList with
   | .builtin .len,[x]=>match c.argTypes.toList with|t::_=>ew (aL P t) λti=>m_ ti.kind m (ev ts x) λv=>k v m| []=>False
   | .builtin .max,[x,y]=>wz (ev ts x) (ev ts y) λv=>k v m
   | .builtin .min,[x,y]=>mY (ev ts x) (ev ts y) λv=>k v m
   | .builtin .min,[x,y,z]=>mY (ev ts x) (ev ts y) λu=>mY u (ev ts z) λv=>k v m
   | .builtin .append,[x,y]=>kP P c.argTypes.toList d (ev ts x) (ev ts y) m k
   | .value (.func f),xs=>n9 P f d (xs.map (ev ts)) m k
   | .value (.tmp t),xs=>nj P (look ts t) d (xs.map (ev ts)) m k
   |_,_=>False
 | .makeFunc (.func f) first caps=>first.toList=[]/\k (.cn f (caps.toList.map (ev ts))) m
 |_=>False
section
variable {P:pR} {B:eC} {N:Nat} {φ:Nat->LS} {fp:nN} {S:nP} {ts:Env} {m:Mem} {a:Act} {w:World}
theorem bF {x:Option TI}{k:TI->Prop}(h:ew x k):∃t,x=some t/\k t:=by
 cases x with
 |none=>exact h.elim
 |some t=>exact ⟨t,rfl,h⟩
theorem nn {kd:TK}{k:Prop}(h:xr kd k):kd= .slice/\k:=by cases kd<;>first|exact h.elim|exact ⟨rfl,h⟩
theorem RY {kd:TK}{k:Prop}(h:Wp kd k):kd= .struct/\k:=by cases kd<;>first|exact h.elim|exact ⟨rfl,h⟩
theorem ET {f:Option (Nat × Nat × Bool)}{k:Nat × Nat × Bool->Prop}(h:vO f k):∃fd,f=some fd/\k fd:=by
 cases f with
 |none=>exact h.elim
 |some t=>exact ⟨t,rfl,h⟩
theorem EU {t:TypeId}{ti:TI}(ht:aL P t=some ti){f:Nat}{fd:Nat × Nat × Bool}(hf:ti.fields[f]? =some fd):
 ∃fs g,P.underlying t=some (.struct fs)/\fs[f]? =some g/\fd=(g.offset,gG P g.type,ka P g.type)/\∃i d,P.info? g.type=some i/\P.underlying g.type=some d:=by
 obtain ⟨i,d,z,hi,hd,hz,_,_,_,_,hff,_⟩:=fy ht;rw[hff] at hf;cases d with
 |struct fs=>
  simp only[List.getElem?_map] at hf;cases hg:fs.toList[f]? with
  |none=>rw[hg] at hf;cases hf
  |some g=>
   rw[hg] at hf;simp only[Option.map_some,Option.some.injEq] at hf;obtain ⟨i',hi'⟩:=Option.isSome_iff_exists.1 (tv ht fs hd g (List.mem_of_getElem? hg)).1;obtain ⟨d',hd'⟩:=Option.isSome_iff_exists.1 (tv ht fs hd g (List.mem_of_getElem? hg)).2;exact ⟨fs,g,hd,by simpa using hg,hf.symm,i',d',hi',hd'⟩
 |_=>simp at hf
theorem EV (h:RS B N φ fp S ts m a w){l v:Nat}(hn:φ l≠ .nil v){k:Prop}(hk:gm v (ah m l) k):(∃b sh,φ l= .at b sh v)/\k:=by
 unfold gm at hk;split at hk
 . rename_i v' xs hlk;obtain ⟨rfl,hk⟩:=hk;obtain ⟨b,cs,e,sh,hφ,_⟩:=h.aG l _ hlk;exact ⟨⟨b,sh,hφ⟩,hk⟩
 . rename_i v' sh d xs hlk;obtain ⟨rfl,hk⟩:=hk;rcases h.aG l _ hlk with ⟨h1,_⟩|⟨b,cap,hφ,_⟩
   . exact absurd h1 hn
   exact ⟨⟨b,sh,hφ⟩,hk⟩
 exact hk.elim
theorem KT {t:TypeId}{ti:TI}(ht:aL P t=some ti)(h:RS B N φ fp S ts m a w){p:AV}{v:Value}(hp:RV w S φ p v)(hpl:∀l af,(l,af)∈ao p->known m l af){f:Nat}{fd:Nat × Nat × Bool}(hf:ti.fields[f]? =some fd)(hsz:0<fd.2.1)
 {k:AV->Prop} (hk:h_ fd.1 m p k):iI B N a (λx ts' m'=>ts'=ts/\m'=m/\k x) ((Instr.fieldAt t v f).run P w):=by
 obtain ⟨fs,g,hu,hg,rfl,i,d,hi,hd⟩:=EU ht hf;simp only at hsz;have hs:gG P g.type=i.size:=by simp[gG,hi]
 have cH:∀b o,(Instr.fieldAt t (.pointer (some ⟨b,o,none⟩)) f).run P w= .ok (.pointer (some ⟨b,o+g.offset,none⟩)) w:=by
  intro b o;have h0:i.size≠0:=by omega
  simp[Instr.fieldAt,run_underlying hu,hg,Instr.sureAddr,fieldPlace,sizeOf,typeInfo,hi,h0,Addr.kO]
 unfold h_ at hk;split at hk
 . rename_i l af i' j';obtain ⟨⟨b,sh,hφ⟩,hk⟩:=EV h (wk hp).1 hk;have hv:=j0 hp b sh hφ;subst hv;refine ⟨_,w,cH _ _,h.gives (x:=.ptr l af i' (j'+g.offset)) ?_ (λl' ver' hl=>hpl l' ver' (by simpa [ao] using hl)) ⟨rfl,rfl,hk⟩⟩;refine .ptr _ _ _ _ _ (λb' sh' hb'=>?_) (wk hp).1 rfl;rw[hφ] at hb';cases hb';rw[Nat.add_assoc]
 . rename_i sh xs i' j';cases pI hp with
   |bo _ _ _ _ b off cs e fr hS hb hl hff hv=>
    refine ⟨_,w,cH _ _,h.gives ?_ (λl' ver' hl=>by cases hl) ⟨rfl,rfl,hk⟩⟩;have:=Rd.bo (w:=w) (S:=S) sh xs i' (j'+g.offset) b off cs e fr hS hb hl hff hv;rw[←Nat.add_assoc] at this;exact .rd _ _ this
 exact hk.elim
theorem RZ {t:TypeId}{tt ti:TI}(htt:aL P t=some tt)(hks:tt.kind= .slice)(ht:aL P tt.elem=some ti)(h:RS B N φ fp S ts m a w){x i:AV}{u v:Value}(hx:RV w S φ x u)(hxl:∀l af,(l,af)∈ao x->known m l af)(hi:RV w S φ i v)
 {k:AV->Prop} (hk:oS ti.sh m x i k):iI B N a (λx ts' m'=>ts'=ts/\m'=m/\k x) ((Instr.indexAt t u v).run P w):=by
 have hsl:=bN htt hks;have hs:=ji ht w;have cH:∀(b o len cap:Nat)(q:IntKind)(n:Int),0<=n->n<len->(Instr.indexAt t (.slice (some ⟨b,o,none⟩) len cap) (.int q n)).run P w= .ok (.pointer (some ⟨b,o+n.toNat*ti.size,none⟩)) w:=by intro b o len cap q n h0 h1;simp[Instr.indexAt,asIntOf,run_underlying hsl,h0,h1,hs,Addr.kO]
 unfold oS at hk;split at hk
 . rename_i sh' xs q n;obtain ⟨rfl,⟨h0,h1⟩,hk⟩:=hk;obtain ⟨rfl,_⟩:=aS hi;cases ma hx with
   |nil=>simp at h1;omega
   |arr _ _ b off cap cs e fr hS hb b_ hl hf hv=>
    refine ⟨_,w,cH b off _ cap q n h0 h1,h.gives ?_ (λl' ver' hl=>by cases hl) ⟨rfl,rfl,hk⟩⟩;have:=Rd.bo (w:=w) (S:=S) ti.sh xs n.toNat 0 b off cs e fr hS hb hl hf hv;exact .rd _ _ this
 . rename_i l af i0 n0 q n;unfold qw at hk;split at hk
   . rename_i v' sh' deep xs hlk;obtain ⟨rfl,rfl,⟨h0,h1⟩,hk⟩:=hk;obtain ⟨rfl,_⟩:=aS hi;have hr:=dt hx;have hkn:=hxl l v' (by simp [ao]);rcases h.aG l _ hlk with ⟨g1,g2,g3⟩|⟨b,cap0,hφ,hbm,hdp,bc⟩
     . have:=(hr.2 g1).1;omega
     obtain ⟨ad,cap,rfl,hnc,hcp⟩:=hr.1 b _ hφ;obtain ⟨rfl,cs,e,q1,q2⟩:=hcp.resolve_left (by omega);refine ⟨_,w,cH b _ _ cap q n h0 h1,h.gives (x:=.ptr l v' (i0+n.toNat) 0) ?_ (λl' ver' hl=>?_) ⟨rfl,rfl,hk⟩⟩
     . refine .ptr _ _ _ _ _ (λb' sh' hb'=>?_) (λhb'=>by rw[hφ] at hb';cases hb') rfl;rw[hφ] at hb';cases hb';rw[Nat.add_zero,Nat.add_mul];rfl
     simp only[ao,q10,Prod.mk.injEq] at hl;obtain ⟨rfl,rfl⟩:=hl;exact hkn
   . rename_i v' xs hlk;obtain ⟨rfl,rfl,Ts,⟨h0,h1⟩,hk⟩:=hk;obtain ⟨rfl,_⟩:=aS hi;have hr:=dt hx;have hkn:=hxl l v' (by simp [ao]);obtain ⟨b,cs,e,sh2,hφ,_⟩:=h.aG l _ hlk;obtain ⟨ad,cap,rfl,hnc,hcp⟩:=hr.1 b _ hφ;obtain ⟨rfl,cs,e,q1,q2⟩:=hcp.resolve_left (by omega);refine ⟨_,w,cH b _ _ cap q n h0 h1,h.gives (x:=.ptr l v' 0 n.toNat) ?_ (λl' ver' hl=> ?_) ⟨rfl,rfl,hk⟩⟩
     . refine .ptr _ _ _ _ _ (λb' sh' hb'=>?_) (λhb'=>by rw[hφ] at hb';cases hb') rfl;rw[hφ] at hb';cases hb';have:ti.size=1:=Ts;rw[this,Nat.mul_one]
     simp only[ao,q10,Prod.mk.injEq] at hl;obtain ⟨rfl,rfl⟩:=hl;exact hkn
   exact hk.elim
 exact hk.elim
theorem mD {sh:Sh}{u:Value}{i:AV}{m0:Mem}{k:AV->Prop}:∀{r:Mem},N1 sh u i m0 k r->∃l v xs j n,ah m0 l=some (.sub v sh xs u)/\i= .val (.int j n)/\(0<=n/\n<xs.length)/\k (.ptr l v n.toNat 0)
 |(l,.sub v sh' xs u')::r,h=>by
  obtain ⟨⟨h1,rfl,rfl⟩,h2⟩:=h;split at h2
  . rename_i j n;exact ⟨l,v,xs,j,n,h1,rfl,h2.1,h2.2⟩
  exact h2.elim
 |(l,.row v sh' d xs)::r,h=>mD (r:=r) h
 |(l,.box v xs)::r,h=>mD (r:=r) h
 |(l,.gone v)::r,h=>mD (r:=r) h
 |(l,.ke v xs i0 u0)::r,h=>mD (r:=r) h
theorem N5 {t:TypeId}{tt ti:TI}(htt:aL P t=some tt)(hks:tt.kind= .slice)(ht:aL P tt.elem=some ti)(h:RS B N φ fp S ts m a w){x i:AV}{u v:Value}(hx:RV w S φ x u)(hxl:∀l af,(l,af)∈ao x->known m l af)(hi:RV w S φ i v)
 {k:AV->Prop} (hk:vd ti.sh m x i k):iI B N a (λx ts' m'=>ts'=ts/\m'=m/\k x) ((Instr.indexAt t u v).run P w):=by
 cases x with
 |val u0=>
  obtain ⟨l,v',xs,j,n,hlk,rfl,⟨h0,h1⟩,hk'⟩:=mD hk;obtain ⟨rfl,_⟩:=aS hx;obtain ⟨rfl,_⟩:=aS hi;obtain ⟨b,cap,hφ,hbm,rfl,bc⟩:=h.aG l _ hlk;have hsl:=bN htt hks;have hs:=ji ht w;have cH:(Instr.indexAt t (.slice (some ⟨b,0,none⟩) xs.length cap) (.int j n)).run P w= .ok (.pointer (some ⟨b,0+n.toNat*ti.size,none⟩)) w:=by simp[Instr.indexAt,asIntOf,run_underlying hsl,h0,h1,hs,Addr.kO]
  refine ⟨_,w,cH,h.gives (x:=.ptr l v' n.toNat 0) ?_ (λl' ver' hl=>?_) ⟨rfl,rfl,hk'⟩⟩
  . refine .ptr _ _ _ _ _ (λb' sh' hb'=>?_) (λhb'=>by rw[hφ] at hb';cases hb') rfl;rw[hφ] at hb';cases hb';rw[Nat.add_zero,Nat.zero_add];rfl
  simp only[ao,q10,Prod.mk.injEq] at hl;obtain ⟨rfl,rfl⟩:=hl;exact ⟨_,hlk,Nat.le_refl _⟩
 |_=>exact RZ htt hks ht h hx hxl hi hk
theorem KU {t:TypeId}(ht:P.underlying t=some .string)(h:RS B N φ fp S ts m a w){x i:AV}{u v:Value}(hx:RV w S φ x u)(hi:RV w S φ i v)
 {k:AV->Prop} (hk:na x i k):iI B N a (λx ts' m'=>ts'=ts/\m'=m/\k x) ((Instr.index t u v).run P w):=by
 unfold na at hk;split at hk
 . rename_i s q n;obtain ⟨⟨h0,h1⟩,hk⟩:=hk;obtain ⟨rfl,_⟩:=aS hx;obtain ⟨rfl,_⟩:=aS hi;have hlt:n.toNat<s.size:=(by omega);have YQ:n.toNat<s.data.toList.length:=(by simpa using hlt);have e:s[n.toNat]? =some (s.data.toList.getD n.toNat 0):=by
    rw[q4,q5 YQ,getElem?_pos s n.toNat hlt];rfl
   refine ⟨.int .u8 (s.data.toList.getD n.toNat 0).toNat,w,?_,h.fg rfl ⟨rfl,rfl,hk⟩⟩;simp only[Instr.index,asIntOf,pure_bind,Sem.run_bind,run_underlying ht,Result.andThen_ok,h0,if_true,e];rfl
 exact hk.elim
theorem R0 {t ty:TypeId}{ti:TI}(ht:aL P t=some ti)(h:RS B N φ fp S ts m a w){x:AV}{u:Value}(hx:RV w S φ x u)
 {k:AV->Prop} (hk:m_ ti.kind m x k):iI B N a (λx ts' m'=>ts'=ts/\m'=m/\k x) ((Builtin.len_ #[t] ty #[u]).run P w):=by
 unfold m_ at hk;have sl:∀(ad:Option Addr)(n c:Nat),ti.kind= .slice->(Builtin.len_ #[t] ty #[.slice ad n c]).run P w= .ok (.int .i64 n) w:=by intro ad n c hkd;simp[Builtin.len_,run_underlying (bN ht hkd),goInt]
 split at hk
 . rename_i sh xs hkd;cases ma hx with
   |nil _ ad=>exact ⟨_,w,sl ad 0 0 hkd,h.fg rfl ⟨rfl,rfl,hk⟩⟩
   |arr _ _ b off cap cs e fr hS hb b_ hl hf hv=>exact ⟨_,w,sl _ _ _ hkd,h.fg rfl ⟨rfl,rfl,hk⟩⟩
 . rename_i l v i n hkd;have hr:=dt hx;unfold gm at hk;split at hk
   . rename_i v' xs hlk;obtain ⟨rfl,hk⟩:=hk;obtain ⟨b,cs,e,sh,hφ,_⟩:=h.aG l _ hlk;obtain ⟨ad,c,rfl,_⟩:=hr.1 b sh hφ;exact ⟨_,w,sl _ _ _ hkd,h.fg rfl ⟨rfl,rfl,hk⟩⟩
   . rename_i v' sh d xs hlk;obtain ⟨rfl,hk⟩:=hk;rcases h.aG l _ hlk with ⟨h1,_⟩|⟨b,cap,hφ,_⟩
     . obtain ⟨rfl,ad,rfl⟩:=hr.2 h1;exact ⟨_,w,sl _ _ _ hkd,h.fg rfl ⟨rfl,rfl,hk⟩⟩
     obtain ⟨ad,c,rfl,_⟩:=hr.1 b sh hφ;exact ⟨_,w,sl _ _ _ hkd,h.fg rfl ⟨rfl,rfl,hk⟩⟩
   exact hk.elim
 . rename_i hkd;obtain ⟨ad,rfl⟩:=rP hx;exact ⟨_,w,sl ad 0 0 hkd,h.fg rfl ⟨rfl,rfl,hk⟩⟩
 . rename_i ad n c hkd;obtain ⟨rfl,_⟩:=aS hx;exact ⟨_,w,sl ad n c hkd,h.fg rfl ⟨rfl,rfl,hk⟩⟩
 . rename_i s hkd;obtain ⟨rfl,_⟩:=aS hx;refine ⟨.int .i64 s.size,w,?_,h.fg rfl ⟨rfl,rfl,hk⟩⟩;simp[Builtin.len_,run_underlying (eE ht hkd),goInt]
 exact hk.elim
theorem Hu (h:RS B N φ fp S ts m a w){x:AV}{u:Value}(hx:RV w S φ x u)(hxl:∀l af,(l,af)∈ao x->known m l af){t:TypeId}{ti:TI}(ht:aL P t=some ti){f:Nat}{fd:Nat × Nat × Bool}(hf:ti.fields[f]? =some fd)
 {k:AV->Prop} (hk:dj fd.2.2 fd.2.1 fd.1 x k) (QV:∃xs,x= .agg xs):iI B N a (λx ts' m'=>ts'=ts/\m'=m/\k x) ((Instr.field t u f).run P w):=by
 obtain ⟨xs,rfl⟩:=QV;obtain ⟨fs,g,hu,hg,rfl,i,d,hi,hd⟩:=EU ht hf;obtain ⟨cs,rfl,h1,h2,h3⟩:=nc hx;have hs:gG P g.type=i.size:=by simp[gG,hi]
 have hag:(isAgg g.type).run P w= .ok (ka P g.type) w:=by unfold isAgg ka;simp only[Sem.run_bind,run_underlying hd,Result.andThen_ok,hd];cases d<;>rfl
 simp only at hk;rw[hs] at hk;cases hb:ka P g.type with
 |true=>
  rw[hb] at hk hag;obtain ⟨hlen,hk⟩:=hk;refine ⟨.agg (cs.extract g.offset (g.offset+i.size)),w,?_,h.gives (x:=.agg ((xs.drop g.offset).take i.size)) (.agg _ _ (by simp;omega) (λq hq=>?_) λq hq=>?_) (λl af hl=>?_) ⟨rfl,rfl,hk⟩⟩
  . simp[Instr.field,run_underlying hu,hg,asAgg,part,hag,sizeOf,typeInfo,hi]
  . simp only[List.length_take,List.length_drop] at hq;simp only[q9,q6];exact h2 _ (by omega)
  . simp only [List.length_take,List.length_drop] at hq;simp only [q9,q6];have:=h3 (g.offset+q) (by omega);have e:(cs.extract g.offset (g.offset+i.size)).toList.getD q uD=cs.toList.getD (g.offset+q) uD:=by
     simp only[q4,q2,Array.getElem?_extract];rw[if_pos (by omega)]
    rw[e];exact this
  simp only[ao] at hl;obtain ⟨q,hq,hl2⟩:=bM hl;simp only[List.length_take,List.length_drop] at hq;simp only[q9,q6] at hl2;exact hxl l af (by simp only[ao];exact bq (by omega) hl2)
 |false=>
  rw[hb] at hk hag;simp only[dj] at hk;cases hj:xs[g.offset]? with
  |none=>rw[hj] at hk;exact hk.elim
  |some y=>
   rw[hj] at hk;obtain ⟨hj1,hj2⟩:=List.getElem?_eq_some_iff.1 hj;have hlt:g.offset<cs.size:=(by omega);refine ⟨cs.toList.getD g.offset uD,w,?_,h.gives (x:=y) ?_ (λl af hl=>?_) ⟨rfl,rfl,hk⟩⟩
   . have e:cs[g.offset]? =some (cs.toList.getD g.offset uD):=by
      rw[q4,q2,q1 hlt];rfl
     simp only[Instr.field,run_underlying hu,Sem.run_bind,Result.andThen_ok,hg,asAgg,pure_bind,part,hag,e,Bool.false_eq_true,if_false];rfl
   . have:=h3 g.offset hj1
     rwa [hj2] at this
   exact hxl l af (by simp only[ao];exact bq hj1 (by rw[hj2];exact hl))
theorem ir.mono {k k':AV->Env->Mem->Prop}{v:Value}{w:World}(h:ir B N a k v w)(hk:∀x ts m,k x ts m->k' x ts m):ir B N a k' v w:=by obtain ⟨φ,fp,S,ts,m,x,h1,h2,h3,h4⟩:=h;exact ⟨φ,fp,S,ts,m,x,h1,h2,h3,hk _ _ _ h4⟩
theorem iI.mono {k k':AV->Env->Mem->Prop}{r:Result Value}(h:iI B N a k r)(hk:∀x ts m,k x ts m->k' x ts m):iI B N a k' r:=by obtain ⟨v,w',h1,h2⟩:=h;exact ⟨v,w',h1,h2.mono hk⟩
theorem KV (h:RS B N φ fp S ts m a w)(l:List (Nat × Operand)):∀p,p∈l.map (λp=>(p.1,Vc.ev ts p.2))->∀q,q∈ao p.2->known m q.1 q.2:=by intro p hp q hq;obtain ⟨p0,_,rfl⟩:=List.mem_map.1 hp;exact h.DU p0.2 q.1 q.2 hq
theorem xF {f:fI}{d:Nat}{xs:lA}{vs:aV}(h:RS B N φ fp S ts m a w)(hxs:pL (RV w S φ) xs vs.toList)(hxl:∀i (hi:i<xs.length) l af,(l,af)∈ao xs[i]->known m l af){k:AV->Mem->Prop}(hk:n9 P f d xs m k):
 Enters P f/\Calls P f vs w λe w'=>∃v,e= .returned v/\ir B N a (λx ts' m'=>ts'=ts/\k x m') v w':=by
 have hk':dI m (λts=>eo P f d xs ts m k ⟨⟩) [] xs:=by
  cases xs with
  |nil=>exact hk
  |cons x r=>exact hk
 have owned:∀(trs:lA) (post:AV->Prop),pL (Rd w (oC w)) trs vs.toList->Fn P f trs true post->(∀r,post r->mB (1000*(d+1)) r m k)→
  Calls P f vs w λe w'=>∃v,e= .returned v/\ir B N a (λx ts' m'=>ts'=ts/\k x m') v w':=by
  intro trs post hrd hfn gP;refine (hfn.2 w (oC w) vs (λb hb=>hb) (h.jx.mono (λ_ _=>rfl) λb hb=>(h.sB b hb).1) (by simpa using hrd.1) hrd.2).mono ?_;rintro e w' ⟨r,v,rfl,hr,hg,j9⟩;simp only[iN,if_true] at j9;obtain ⟨fs,bc,hnd,hfr⟩:=j9;have hRS:=h.grown hg;obtain ⟨φ',fp',y,m',g1,g2,g3,g4⟩:=CN hRS bc hnd (λb hb=>⟨q14 h.size (hfr b hb),λhs=>by have:=(h.sB b hs).1;have:=hfr b hb;omega,λl hl=>by have:=(h.cu l b hl).1;have:=hfr b hb;omega⟩) _ (gP r hr);exact ⟨v,rfl,φ',fp',S,ts,m',y,g1.rs,g3,g4,rfl,g2⟩
 have io:hU P f xs m k->Enters P f/\Calls P f vs w λe w'=>∃v,e= .returned v/\ir B N a (λx ts' m'=>ts'=ts/\k x m') v w':=
  λhi=>hi B N φ fp S ts a w vs h (by simpa using hxs.1) hxs.2 hxl
 by_cases gZ:ax xs
 . have hct:=JL xs [] gZ hk';rcases hct with hct|hct
   . exact io hct
   obtain ⟨own,post,hfn,Q6,gP⟩:=hct;rw [List.reverse_nil,q11] at hfn;have lab:∀(xs:lA),ax xs->∀i (hi:i<xs.length),ao xs[i]=[]:=by
    intro xs;induction xs with
    |nil=>intro _ i hi;exact absurd hi (q16 _)
    |cons x r ih=>
     intro hl i hi;cases i with
     |zero=>exact hl.1.1
     |succ i=>exact ih hl.2 i (by simpa using hi)
   have hrd:∀i (hi:i<xs.length),Rd w S xs[i] (vs.toList.getD i uD):=λi hi=>cR (hxs.2 i hi) (lab xs gZ i hi);refine ⟨hfn.1,?_⟩;cases own with
   |true=>exact owned xs post ⟨hxs.1,λi hi=>(hrd i hi).mono (λ_ _=>rfl) λb hb=>(h.sB b hb).1⟩ hfn gP
   |false=>
    refine (hfn.2 w S vs (λb hb=>(h.sB b hb).1) h.jx (by simpa using hxs.1) hrd).mono ?_;rintro e w' ⟨r,v,rfl,hr,hg,j9⟩;simp only[iN,Bool.false_eq_true,if_false] at j9;have hRS:=(h.grown hg).hold (λb=>w.heap.size<=b/\b<w'.heap.size) (λb hb=>⟨hb.2,q14 h.size hb.1,λl hl=>by have:=(h.cu l b hl).1;omega⟩);exact ⟨v,rfl,φ,fp,_,ts,m,r,hRS,.rd _ _ j9,λl af hl=>(by rw[fY j9] at hl;cases hl),rfl,gP r hr⟩
 obtain ⟨trs,hct,hrd⟩:=tz h xs vs.toList [] [] hxs ⟨rfl,λi hi=>absurd hi (q16 _)⟩ hk';rw[q11] at hrd;rcases hct with hct|hct
 . exact io hct
 obtain ⟨own,post,hfn,Q6,gP⟩:=hct;refine ⟨hfn.1,?_⟩;cases own with
 |true=>exact owned trs post hrd hfn gP
 |false=>exact absurd (Q6 rfl) gZ
theorem CQ (h:RS B N φ fp S ts m a w)(l:lO):pL (RV w S φ) (l.map (Vc.ev ts)) (l.map a.eval):=by refine ⟨by simp,λi hi=>?_⟩;simp only[List.length_map] at hi;simp only[q7,q4,List.getElem?_map,q5 hi,Option.map_some,Option.getD_some];exact h.ev _
theorem qy (l:Array (Nat × Operand))(a:Act):(l.map λ(i,x)=>(i,a.eval x))=((l.toList.map λp=>(p.1,a.eval p.2)).toArray):=by apply Array.ext';simp
theorem JS {t:TypeId}{ti:TI}(ht:aL P t=some ti)(hks:ti.kind= .slice)(a:Option Addr)(n c:Nat)(w:World):(Op.equal t (.slice a n c) (.slice none 0 0)).run P w= .ok a.isNone w:=by
 have hu:=bN ht hks;show (Op.equalIn (9999+1) t (.slice a n c) (.slice none 0 0)).run P w=_;have:(underlying t).run P w= .ok (.slice ti.elem) w:=by simp[underlying,hu]
 rw[Op.equalIn,Sem.run_bind,this];cases a<;>rfl
theorem EW (h:RS B N φ fp S ts m a w){x:AV}{u:Value}(hx:RV w S φ x u){k:Bool->Prop}(hk:qx x m k):∃ad n c,u= .slice ad n c/\k ad.isNone:=by
 unfold qx at hk;split at hk
 . rename_i sh xs;cases hx with
   |rd _ _ hr=>cases hr with
    |nil _ ad=>exact ⟨ad,0,0,rfl,hk _ λ_=>rfl⟩
    |arr _ _ b off cap cs e fr _ _ _ _ _ _=>exact ⟨_,_,_,rfl,hk _ λe=>by simp at e⟩
 . rename_i l v i n;obtain ⟨r1,r2⟩:=dt hx;unfold gm at hk;split at hk
   . rename_i v' xs hlk;obtain ⟨rfl,hk⟩:=hk;obtain ⟨b,cs,e,sh,hφ,_⟩:=h.aG l _ hlk;obtain ⟨ad,cap,rfl,hn,hc⟩:=r1 b sh hφ;refine ⟨ad,n,cap,rfl,hk _ λe=> ?_⟩;rcases hc with rfl|⟨rfl,_⟩
     . omega
     simp at e
   . rename_i v' sh d xs hlk;obtain ⟨rfl,hk⟩:=hk;rcases h.aG l _ hlk with ⟨h1,_⟩|⟨b,cap,hφ,_⟩
     . obtain ⟨rfl,ad,rfl⟩:=r2 h1;exact ⟨ad,0,0,rfl,hk _ λ_=>rfl⟩
     obtain ⟨ad,cap,rfl,hn,hc⟩:=r1 b sh hφ;refine ⟨ad,n,cap,rfl,hk _ λe=>?_⟩;rcases hc with rfl|⟨rfl,_⟩
     . omega
     simp at e
   exact hk.elim
 . cases hx with
   |rd _ _ hr=>cases hr with
    |e0 ad=>exact ⟨ad,0,0,rfl,hk _⟩
 . obtain ⟨rfl,_⟩:=aS hx;exact ⟨none,0,0,rfl,hk⟩
 exact hk.elim
theorem N6 {op:BinOp}{t:TypeId}{ti:TI}(h:RS B N φ fp S ts m a w)(ht:aL P t=some ti){x y:AV}{u v:Value}(hx:RV w S φ x u)(hy:RV w S φ y v){ox oy:Operand}{k:AV->Prop}
 (hk:lJ op ti.kind x y (U_ oy) m k):∃r,(do eqGuard op t ox oy u v;binOp op t u v:Sem Value).run P w= .ok r w/\KF k r:=by
 unfold lJ at hk;split at hk
 . rename_i hks;obtain ⟨ad,n,c,rfl,hk⟩:=EW h hx hk;obtain ⟨rfl,_⟩:=aS hy;refine ⟨.bool ad.isNone,?_,rfl,hk⟩;have:(binOp .eql t (.slice ad n c) (.slice none 0 0)).run P w= .ok (.bool ad.isNone) w:=by
    simp only[binOp,Sem.run_bind,JS ht hks];rfl
   simp only[Sem.run_bind];have hg:(eqGuard .eql t ox oy (.slice ad n c) (.slice none 0 0)).run P w= .ok () w:=(by simp[eqGuard]);rw[hg];exact this
 . rename_i hks;obtain ⟨ad,n,c,rfl,hk⟩:=EW h hx hk;obtain ⟨rfl,_⟩:=aS hy;refine ⟨.bool (!ad.isNone),?_,rfl,hk⟩;have:(binOp .neq t (.slice ad n c) (.slice none 0 0)).run P w= .ok (.bool (!ad.isNone)) w:=by
    simp only[binOp,Sem.run_bind,JS ht hks];rfl
   simp only[Sem.run_bind];have hg:(eqGuard .neq t ox oy (.slice ad n c) (.slice none 0 0)).run P w= .ok () w:=(by simp[eqGuard]);rw[hg];exact this
 . rename_i hks;obtain ⟨ms,hu⟩:=Hl ht hks;obtain ⟨rfl,_⟩:=aS hy;have e1:∀(d:Nat) u x,(Op.equalIn (d+1) t (.iface u x) .nilIface).run P w= .ok false w:=λd u x=>by rw [Op.equalIn];simp [run_underlying hu]
   have e2:∀(d:Nat),(Op.equalIn (d+1) t .nilIface .nilIface).run P w= .ok true w:=λd=>by rw[Op.equalIn];simp[run_underlying hu]
   have g1:∀op u x,(eqGuard op t ox oy (.iface u x) .nilIface).run P w= .ok () w:=λop u x=>by cases op<;>simp[eqGuard]
   have g2:∀op,U_ oy=true->(eqGuard op t ox oy .nilIface .nilIface).run P w= .ok () w:=λop hc=>by cases oy<;>simp[U_] at hc;cases op<;>simp[eqGuard]
   unfold Ht at hk;split at hk
   . obtain ⟨rfl,_⟩:=aS hx;exact ⟨_,(by simp only[Sem.run_bind,g2 _ hk.1,Result.andThen_ok,binOp,Op.equal,Op.maxDepth];simp[e2]),rfl,hk.2⟩
   . obtain ⟨rfl,_⟩:=aS hx;exact ⟨_,(by simp only[Sem.run_bind,g2 _ hk.1,Result.andThen_ok,binOp,Op.equal,Op.maxDepth];simp[e2]),rfl,hk.2⟩
   . obtain ⟨rfl,_⟩:=aS hx;exact ⟨_,(by simp only[Sem.run_bind,g1,Result.andThen_ok,binOp,Op.equal,Op.maxDepth];simp[e1]),rfl,hk⟩
   . obtain ⟨rfl,_⟩:=aS hx;exact ⟨_,(by simp only[Sem.run_bind,g1,Result.andThen_ok,binOp,Op.equal,Op.maxDepth];simp[e1]),rfl,hk⟩
   exact hk.elim
 exact RD ht hx hy hk
theorem xG {src t e:TypeId}{sh:Sh}{bs:lU}{v:Value}(hs:P.underlying src=some (.slice e))(he:P.underlying e=some (.int .u8))(ht:P.underlying t=some .string)
 (h:Rd w (oC w) (.arr sh (bs.map λb=>.val (.int .u8 b.toNat))) v):(convert src t v).run P w= .ok (.string ⟨bs.toArray⟩) w:=by
 have ju:∀(ad:Option Addr),(convert src t (.slice ad 0 0)).run P w= .ok (.string ⟨#[]⟩) w:=by
  intro ad;cases ad with
  |none=>simp only[convert,Sem.run_bind,run_underlying hs,run_underlying ht,run_underlying he,Result.andThen_ok];rfl
  |some ad=>
   have:=run_convert_bytes_back (P:=P) w src t e ad 0 [] hs he ht (λj hj=>absurd hj (q16 _));simpa using this
 generalize hxs:bs.map (λb=>AV.val (.int .u8 b.toNat))=xs at h;have hlen:xs.length=bs.length:=by rw[←hxs];simp
 cases h with
 |nil sh ad=>
  have:bs=[]:=q3 (by rw[←hlen];rfl);subst this;exact ju ad
 |arr sh xs b off cap cs e2 fr hS hb b_ hl hf hv=>
  rw[hlen];refine run_convert_bytes_back (P:=P) w src t e ⟨b,off,none⟩ cap bs hs he ht λj hj=>?_;have hj2:j<xs.length:=by omega
  have h1:=hf j hj2;have h2:=hv j hj2;have hx:xs[j]= .val (.int .u8 bs[j].toNat):=by simp[←hxs]
  rw[hx] at h1 h2;obtain ⟨ha,hz⟩:=h1;have e1:sh=⟨1,false⟩:=by cases sh;simp_all
  subst e1;have h4:elemV cs.toList (off+j*1) ⟨1,false⟩= .int .u8 bs[j].toNat:=by generalize elemV cs.toList (off+j*1) ⟨1,false⟩=u at h2;cases h2;rfl
  rw[bd,Nat.mul_one] at h4;have h5:off+j<cs.size:=by simp only[Nat.mul_one] at hl;omega
  rw[q4,q2,q1 h5] at h4;have e3:(⟨b,off,none⟩:Addr).add j=⟨b,off+j,none⟩:=by unfold Addr.add;split<;>simp_all
  rw[e3];simp only[World.cell?,hb,Option.isSome_none,Bool.false_eq_true,↓reduceIte,q1 h5];exact congrArg some h4
theorem R3 {n:Int}(h0:0<=n)(h1:n<128):(Conv.intToString n).run P w= .ok (.string ⟨#[UInt8.ofNat n.toNat]⟩) w:=by
 have hv:Utf8.valid n=true:=by unfold Utf8.valid;simp;omega
 have:Utf8.encode n=⟨#[UInt8.ofNat n.toNat]⟩:=by unfold Utf8.encode;simp only[hv,if_true];rw[if_pos (by omega)]
 simp only[Conv.intToString,this];rfl
theorem gu {o:Oper}{next:Act->World->Prop}{Q:Exit->Act->World->Prop}(h:RS B N φ fp S ts m a w){k:AV->Mem->Prop}(hk:iL P (o.dst.getD 0) o.op ts m k)
 (G_:∀v w',ir B N a (λx ts' m'=>ts'=ts/\k x m') v w'->next (a.put o.dst v) w'):o.wp P a w next Q:=by
 have V:∀s:Sem Value,execOp a.eval o=(do pure (.value (←s)):Sem Next)->iI B N a (λx ts' m'=>ts'=ts/\k x m') (s.run P w)->o.wp P a w next Q:=by intro s hs ⟨v,w',h1,h2⟩;unfold Oper.wp;rw[hs];simp only[Sem.run_bind,h1,Result.andThen_ok,Sem.run_pure];exact G_ v w' h2
 have Vm:∀s:Sem Value,∀k':AV->Prop,execOp a.eval o=(do pure (.value (←s)):Sem Next)->iI B N a (λx ts' m'=>ts'=ts/\m'=m/\k' x) (s.run P w)->(∀x,k' x->k x m)->o.wp P a w next Q:=by intro s k' hs hr hkk;exact V s hs (hr.mono λx ts m ⟨h1,h2,h3⟩=>⟨h1,by rw[h2];exact hkk x h3⟩)
 have V0:∀(x:AV)(v:Value),execOp a.eval o=(pure (.value v):Sem Next)->RV w S φ x v->(∀l af,(l,af)∈ao x->known m l af)->k x m->o.wp P a w next Q:=by intro x v hs hx hl hkx;unfold Oper.wp;rw[hs];exact G_ v w (h.gives hx hl ⟨rfl,hkx⟩)
 cases hop:o.op with
 |move x=>
  rw[hop] at hk;exact V0 _ (a.eval x) (by simp only[execOp,hop]) (h.ev x) (h.DU x) hk
 |assign x=>
  rw[hop] at hk;exact V0 _ (a.eval x) (by simp only[execOp,hop]) (h.ev x) (h.DU x) hk
 |pick c x y=>
  rw[hop] at hk;have hk:qm (Vc.ev ts c) (Vc.ev ts x) (Vc.ev ts y) λv=>k v m:=hk;have hc:=h.ev c;unfold qm at hk;split at hk
  . rename_i cb hcv;rw [hcv] at hc;obtain ⟨hcc,_⟩:=aS hc;cases cb with
    |true=>exact V0 _ (a.eval x) (by simp[execOp,hop,←hcc,asBool]) (h.ev x) (h.DU x) (hk.1 rfl)
    |false=>exact V0 _ (a.eval y) (by simp[execOp,hop,←hcc,asBool]) (h.ev y) (h.DU y) (hk.2 rfl)
  exact hk.elim
 |alloc t=>
  rw[hop] at hk;obtain ⟨ti,ht,hk⟩:=bF hk;exact V _ (by simp only[execOp,hop]) (KM h ht _ hk)
 |box t x=>
  rw[hop] at hk;exact V _ (by simp only[execOp,hop]) (JK h (h.ev x) (h.DU x) t _ hk)
 |build t parts=>
  rw[hop] at hk;obtain ⟨ti,ht,hk⟩:=bF hk;obtain ⟨hks,hk⟩:=RY hk;refine Vm (Instr.build t ((parts.toList.map λp=>(p.1,a.eval p.2)).toArray)) (λx=>k x m) (by simp only[execOp,hop,qy]) ?_ (λ_ h=>h);exact Hr ht hks (λfs hfs f hf=>(tv ht fs hfs f hf).1) h (NX h parts.toList) (KV h parts.toList) hk
 |buildSlice t n parts=>
  rw[hop] at hk;obtain ⟨tt,htt,hk⟩:=bF hk;obtain ⟨hks,hk⟩:=nn hk;obtain ⟨ti,ht,hk⟩:=bF hk;refine V (Instr.buildSlice t n ((parts.toList.map λp=>(p.1,a.eval p.2)).toArray)) (by simp only[execOp,hop,qy]) ?_;exact vT htt hks ht h (NX h parts.toList) _ n hk
 |load t x=>
  rw[hop] at hk;obtain ⟨ti,ht,hk⟩:=bF hk;exact V _ (by simp only[execOp,hop]) (KK ht h (h.ev x) (h.DU x) hk)
 |store t p y=>
  rw[hop] at hk;obtain ⟨ti,ht,hk⟩:=bF hk;obtain ⟨w',hr,φ',fp',S',ts',m',hRS,rfl,hkk⟩:=Hq ht h (h.ev p) (h.ev y) (h.DU y) hk;unfold Oper.wp;simp only[execOp,hop,Sem.run_bind,hr,Result.andThen_ok,Sem.run_pure];exact G_ _ w' (hRS.gives (x:=.undef) (.rd _ _ (.undef _)) (λ_ _ hl=>by cases hl) ⟨rfl,hkk⟩)
 |nilCheck x=>
  rw[hop] at hk;have hk:r_ m (Vc.ev ts x) λv=>k v m:=hk;have hx:=h.ev x;have hxl:=h.DU x;unfold r_ at hk;split at hk
  . rename_i l v i j hv;rw[hv] at hx hxl;obtain ⟨⟨b,sh,hφ⟩,hk⟩:=EV h (wk hx).1 hk;have:=j0 hx b sh hφ;exact V0 _ (a.eval x) (by simp only[execOp,hop,this]) hx hxl hk
  . rename_i sh xs i j hv;rw [hv] at hx hxl;have hx':=pI hx;cases hq:a.eval x with
    |pointer ad=>
     rw[hq] at hx';cases hx';exact V0 _ _ (by simp only[execOp,hop,hq]) (hq▸hx) hxl hk
    |_=>rw[hq] at hx';cases hx'
  . rename_i f xs hv;rw[hv] at hx hxl;obtain ⟨cs,hcs,_⟩:=CD hx;exact V0 _ (a.eval x) (by simp only[execOp,hop,hcs]) hx hxl hk
  exact hk.elim
 |binOp op t x y ty=>
  rw[hop] at hk;obtain ⟨ti,ht,hk⟩:=bF hk;obtain ⟨r,hr,h1,h2⟩:=NG (h.ev x) (h.ev y) (ox:=x) (oy:=y) hk λhk=>N6 h ht (h.ev x) (h.ev y) (ox:=x) (oy:=y) hk;exact V _ (by simp only[execOp,hop]) ⟨r,w,hr,h.fg h1 ⟨rfl,h2⟩⟩
 |unOp op t x=>
  rw[hop] at hk;have hx:=h.ev x;cases op with
  |not=>
   have hk:zB (Vc.ev ts x) λv=>k v m:=hk;unfold zB at hk;split at hk
   . rename_i b hv;rw[hv] at hx;obtain ⟨hb,_⟩:=aS hx;exact V (Op.unary .not (a.eval x)) (by simp only[execOp,hop]) ⟨.bool (!b),w,by rw[←hb];rfl,h.fg rfl ⟨rfl,hk⟩⟩
   exact hk.elim
  |neg=>
   have hk:CC (Vc.ev ts x) λv=>k v m:=hk;unfold CC at hk;split at hk
   . rename_i i n hv;rw[hv] at hx;obtain ⟨hb,_⟩:=aS hx;exact V (Op.unary .neg (a.eval x)) (by simp only[execOp,hop]) ⟨.int i (i.wrap (0-n)),w,by rw[←hb];rfl,h.fg rfl ⟨rfl,pJ (c:=λv=>k v m) hk⟩⟩
   exact hk.elim
  |_=>exact hk.elim
 |convert src t x=>
  rw[hop] at hk;obtain ⟨si,hsi,hk⟩:=bF hk;obtain ⟨ti,ht,hk⟩:=bF hk;have hx:=h.ev x;obtain ⟨_,sd,_,_,hsd,_⟩:=fy hsi;unfold kQ at hk;split at hk
  . rename_i hks hkd;obtain ⟨ei,hei,hk⟩:=bF hk;unfold xA at hk;split at hk
    . rename_i hke;unfold tB at hk;split at hk
      . rename_i s hv;rw[hv] at hx;obtain ⟨hb,_⟩:=aS hx;obtain ⟨hl,hk⟩:=hk;refine V (convert src t (a.eval x)) (by simp only[execOp,hop]) ?_;rw[←hb];exact KQ h (eE hsi hks) (bN ht hkd) (rQ hei hke) hl _ hk
      exact hk.elim
    exact hk.elim
  unfold fR at hk;split at hk
  . rename_i hks hkd;obtain ⟨ei,hei,hk⟩:=bF hk;unfold xA at hk;split at hk
    . rename_i hke;obtain ⟨y,hk,hrd,_,_⟩:=tx h hx hk;unfold oW at hk;split at hk
      . rename_i sh xs;obtain ⟨bs,rfl,hk2⟩:=vf hk;refine V (convert src t (a.eval x)) (by simp only[execOp,hop]) ⟨.string ⟨bs.toArray⟩,w,?_,h.fg rfl ⟨rfl,hk2⟩⟩;exact xG (bN hsi hks) (rQ hei hke) (eE ht hkd) hrd
      exact hk.elim
    exact hk.elim
  . rename_i i hks hkd;unfold ER at hk;split at hk
    . rename_i j n hv;rw[hv] at hx;obtain ⟨hb,_⟩:=aS hx;obtain ⟨⟨h0,h1⟩,hk⟩:=hk;refine V (convert src t (a.eval x)) (by simp only[execOp,hop]) ⟨.string ⟨#[UInt8.ofNat n.toNat]⟩,w,?_,h.fg rfl ⟨rfl,hk⟩⟩;rw[←hb];simp only[convert,Sem.run_bind,run_underlying (rQ hsi hks),run_underlying (eE ht hkd),Result.andThen_ok];exact R3 h0 h1
    exact hk.elim
  unfold uz at hk;split at hk
  . rename_i i j n hkd hv;rw[hv] at hx;obtain ⟨hb,_⟩:=aS hx;refine V (convert src t (a.eval x)) (by simp only[execOp,hop]) ⟨.int i (i.wrap n),w,?_,h.fg rfl ⟨rfl,pJ (c:=λv=>k v m) hk⟩⟩;rw[←hb];simp only[convert,Sem.run_bind,run_underlying hsd,run_underlying (rQ ht hkd),Result.andThen_ok];cases sd<;>rfl
  . rename_i s hkd hv;rw[hv] at hx;obtain ⟨hb,_⟩:=aS hx;refine V (convert src t (a.eval x)) (by simp only[execOp,hop]) ⟨.string s,w,?_,h.fg rfl ⟨rfl,hk⟩⟩;rw[←hb];simp only[convert,Sem.run_bind,run_underlying hsd,run_underlying (eE ht hkd),Result.andThen_ok];cases sd<;>rfl
  exact hk.elim
 |makeSlice t l c=>
  rw[hop] at hk;obtain ⟨tt,htt,hk⟩:=bF hk;obtain ⟨hks,hk⟩:=nn hk;obtain ⟨ti,ht,hk⟩:=bF hk;exact V _ (by simp only[execOp,hop]) (KO htt hks ht h (h.ev l) (h.ev c) _ hk)
 |slice t x lo hi mx=>
  rw [hop] at hk;have BVm:∀q:Option Operand,BV w S φ (q.map (Vc.ev ts)) (q.map a.eval):=by
   intro q;cases q with
   |none=>trivial
   |some q=>exact h.ev q
  cases mx with
  |none=>
   have hk:ew (aL P t) λtt=>ni P tt (Vc.ev ts x) (lo.map (Vc.ev ts)) (hi.map (Vc.ev ts)) m λv=>k v m:=by cases lo<;>exact hk
   obtain ⟨tt,htt,hk⟩:=bF hk;have hx:=h.ev x;have hxl:=h.DU x;generalize Vc.ev ts x=xv at hx hxl hk;unfold ni at hk;split at hk
   . rename_i hkd;obtain ⟨hs,hk⟩:=hk;refine Vm (Instr.sliceAt t (a.eval x) (lo.map a.eval) (hi.map a.eval) none) (λx=>k x m) (by simp only [execOp,hop];rfl) ?_ (λ_ h=>h);refine xd htt ⟨0,false⟩ (λhc=>by rw [hkd] at hc;cases hc) (.inr hkd) h hx hxl (BVm lo) (BVm hi) ⟨λhc=>(by rw [hkd] at hc;cases hc),λhc=> ?_⟩ hk;split at hs
     . exact absurd rfl (hc _)
     exact hs.elim
   . rename_i hkd;obtain ⟨hs,hk⟩:=hk;obtain ⟨ti,ht,hk⟩:=bF hk;refine Vm (Instr.sliceAt t (a.eval x) (lo.map a.eval) (hi.map a.eval) none) (λx=>k x m) (by simp only[execOp,hop];rfl) ?_ (λ_ h=>h);refine xd htt ti.sh (λ_=>⟨ti,ht,rfl⟩) (.inl hkd) h hx hxl (BVm lo) (BVm hi) ⟨λ_ s hc=>?_,λ_=>hkd⟩ hk;rw[hc] at hs;exact hs
   exact hk.elim
  |some mv=>
   cases lo with
   |some lv=>exact hk.elim
   |none=>
    obtain ⟨⟨h0,hm0⟩,hk⟩:=hk;obtain ⟨tt,htt,hk⟩:=bF hk;obtain ⟨hks,hk⟩:=nn hk;obtain ⟨ti,ht,hk⟩:=bF hk;have hx:=h.ev x;have hsl:(∃ad n c,a.eval x= .slice ad n c)/\k .e0 m:=by
     generalize a.eval x=u at hx;generalize Vc.ev ts x=xv at hx hk;unfold jA at hk;split at hk
     . cases ma hx with
       |nil _ ad=>exact ⟨⟨_,_,_,rfl⟩,hk⟩
       |arr=>exact ⟨⟨_,_,_,rfl⟩,hk⟩
     . rename_i l v i n;have hr:=dt hx;unfold gm at hk;split at hk
       . rename_i v' xs hlk;obtain ⟨rfl,hk⟩:=hk;obtain ⟨b,cs,e,sh,hφ,_⟩:=h.aG l _ hlk;obtain ⟨ad,c,rfl,_⟩:=hr.1 b sh hφ;exact ⟨⟨_,_,_,rfl⟩,hk⟩
       . rename_i v' sh d xs hlk;obtain ⟨rfl,hk⟩:=hk;rcases h.aG l _ hlk with ⟨h1,_⟩|⟨b,cap,hφ,_⟩
         . obtain ⟨rfl,ad,rfl⟩:=hr.2 h1;exact ⟨⟨_,_,_,rfl⟩,hk⟩
         obtain ⟨ad,c,rfl,_⟩:=hr.1 b sh hφ;exact ⟨⟨_,_,_,rfl⟩,hk⟩
       exact hk.elim
     obtain ⟨h1,hk⟩:=hk;unfold isNil at h1;split at h1
     . obtain ⟨ad,rfl⟩:=rP hx;exact ⟨⟨_,_,_,rfl⟩,hk⟩
     . obtain ⟨rfl,_⟩:=aS hx;exact ⟨⟨_,_,_,rfl⟩,hk⟩
     cases h1
    obtain ⟨⟨ad,n,c,hu⟩,hk⟩:=hsl;have z0:∀q:Option Operand,WB q=true->∃j,q.map a.eval=some (.int j 0):=by
     intro q hq;unfold WB at hq;split at hq
     . rename_i j n;have:n=0:=(by simpa using hq);subst this;exact ⟨j,rfl⟩
     cases hq
    obtain ⟨jh,ejh⟩:=z0 hi h0;obtain ⟨jm,ejm⟩:=z0 (some mv) hm0;refine V (Instr.sliceAt t (a.eval x) none (hi.map a.eval) ((some mv).map a.eval)) (by simp only[execOp,hop,Option.map_none]) ⟨.slice ad 0 0,w,?_,h.gives (x:=.e0) (.rd _ _ (.e0 _)) (λ_ _ hl=>by cases hl) ⟨rfl,hk⟩⟩;rw[hu,ejh,ejm];have YR:=bN htt hks;unfold Instr.sliceAt;simp[run_underlying YR,Instr.slice,Instr.sliceBounds,run_sliceBound,ji ht]
 |fieldAddr t x f=>
  rw[hop] at hk;obtain ⟨ti,ht,hk⟩:=bF hk;obtain ⟨fd,hf,hsz,hk⟩:=ET hk;exact Vm _ (λx=>k x m) (by simp only[execOp,hop]) (KT ht h (h.ev x) (h.DU x) hf hsz hk) (λ_ h=>h)
 |field t x f=>
  rw[hop] at hk;obtain ⟨ti,ht,hk⟩:=bF hk;obtain ⟨fd,hf,hk⟩:=ET hk;have hx:=h.ev x;have hxl:=h.DU x;unfold qQ at hk;split at hk
  . rename_i ys hv;rw[hv] at hx hxl;exact Vm _ (λx=>k x m) (by simp only[execOp,hop]) (Hu h hx hxl ht hf hk ⟨_,rfl⟩) (λ_ h=>h)
  exact hk.elim
 |indexAddr t x i=>
  rw[hop] at hk;obtain ⟨tt,htt,hk⟩:=bF hk;obtain ⟨hks,hk⟩:=nn hk;obtain ⟨ti,ht,hk⟩:=bF hk;exact Vm _ (λx=>k x m) (by simp only[execOp,hop]) (N5 htt hks ht h (h.ev x) (h.DU x) (h.ev i) hk) (λ_ h=>h)
 |index t x i=>
  rw[hop] at hk;obtain ⟨tt,htt,hkd,hk⟩:=bF hk;have hks:tt.kind= .string:=by generalize tt.kind=kk at hkd;cases kk<;>first|rfl|exact hkd.elim
  exact Vm _ (λx=>k x m) (by simp only[execOp,hop]) (KU (eE htt hks) h (h.ev x) (h.ev i) hk) (λ_ h=>h)
 |extract x i=>
  rw[hop] at hk;have hk:zC i (Vc.ev ts x) λv=>k v m:=hk;have hx:=h.ev x;have hxl:=h.DU x;unfold zC at hk;split at hk
  . rename_i xs hv;rw [hv] at hx hxl;cases hi:xs[i]? with
    |none=>rw[hi] at hk;exact hk.elim
    |some y=>
     rw[hi] at hk;obtain ⟨hi1,hi2⟩:=List.getElem?_eq_some_iff.1 hi;obtain ⟨cs,hcs,h1,h2⟩:=UZ hx;have hlt:i<cs.size:=(by omega);have e:cs[i]? =some (cs.toList.getD i uD):=by rw[q4,q2,q1 hlt];rfl
     refine V (Instr.extract (a.eval x) i) (by simp only[execOp,hop]) ⟨cs.toList.getD i uD,w,?_,h.gives (x:=y) ?_ (λl af hl=>?_) ⟨rfl,hk⟩⟩
     . rw[hcs];simp only[Instr.extract,e,Sem.run_pure]
     . have:=h2 i hi1
       rwa [hi2] at this
     exact hxl l af (by simp only[ao];exact bq hi1 (by rw[hi2];exact hl))
  exact hk.elim
 |call c=>
  rw[hop] at hk;have BI:∀(b:Builtin)(s:Sem Value),c.callee= .builtin b->(∀cs,builtin b c.argTypes o.type cs (c.args.map a.eval)=(do pure (.value (←s)):Sem Next))->iI B N a (λx ts' m'=>ts'=ts/\k x m') (s.run P w)->o.wp P a w next Q:=by intro b s hc hb hr;refine V s ?_ hr;simp only[execOp,hop,resolve,hc,pure_bind,invoke,hb]
  have ha:∀l,c.args.toList=l->c.args.map a.eval=(l.map a.eval).toArray:=by intro l hl;apply Array.ext';simp[←hl]
  have hk:(match c.callee,c.args.toList with
   | .builtin .len,[x]=>match c.argTypes.toList with|t::_=>ew (aL P t) λti=>m_ ti.kind m (Vc.ev ts x) λv=>k v m| []=>False
   | .builtin .max,[x,y]=>wz (Vc.ev ts x) (Vc.ev ts y) λv=>k v m
   | .builtin .min,[x,y]=>mY (Vc.ev ts x) (Vc.ev ts y) λv=>k v m
   | .builtin .min,[x,y,z]=>mY (Vc.ev ts x) (Vc.ev ts y) λu=>mY u (Vc.ev ts z) λv=>k v m
   | .builtin .append,[x,y]=>kP P c.argTypes.toList (o.dst.getD 0) (Vc.ev ts x) (Vc.ev ts y) m k
   | .value (.func f),xs=>n9 P f (o.dst.getD 0) (xs.map (Vc.ev ts)) m k
   | .value (.tmp t),xs=>nj P (look ts t) (o.dst.getD 0) (xs.map (Vc.ev ts)) m k
   |_,_=>False):=hk
  split at hk
  . rename_i x hc hx;split at hk
    . rename_i t r hty;obtain ⟨ti,ht,hk⟩:=bF hk;have hr:=R0 (ty:=o.type) ht h (h.ev x) hk;refine BI _ (Builtin.len_ c.argTypes o.type (c.args.map a.eval)) hc (λ_=>rfl) ?_;have e0:c.argTypes=(t::r).toArray:=(by apply Array.ext';simpa using hty);have el:(Builtin.len_ c.argTypes o.type (c.args.map a.eval)).run P w=(Builtin.len_ #[t] o.type #[a.eval x]).run P w:=by
       rw[ha _ hx,e0];simp[Builtin.len_]
      rw[el];exact hr.mono λx ts m ⟨h1,h2,h3⟩=>⟨h1,by rw[h2];exact h3⟩
    exact hk.elim
  . rename_i x y hc hx;have h1:=h.ev x;have h2:=h.ev y;unfold wz at hk;split at hk
    . rename_i i p j q e1 e2;rw[e1] at h1;rw[e2] at h2;obtain ⟨g1,_⟩:=aS h1;obtain ⟨g2,_⟩:=aS h2;refine BI _ (Builtin.max_ c.argTypes o.type (c.args.map a.eval)) hc (λ_=>rfl) ⟨_,w,?_,h.fg rfl ⟨rfl,hk⟩⟩;rw[ha _ hx];simp[Builtin.max_,←g1,←g2,Builtin.max2]
    exact hk.elim
  . rename_i x y hc hx;have h1:=h.ev x;have h2:=h.ev y;unfold mY at hk;split at hk
    . rename_i i p j q e1 e2;rw[e1] at h1;rw[e2] at h2;obtain ⟨g1,_⟩:=aS h1;obtain ⟨g2,_⟩:=aS h2;refine BI _ (Builtin.min_ c.argTypes o.type (c.args.map a.eval)) hc (λ_=>rfl) ⟨_,w,?_,h.fg rfl ⟨rfl,hk⟩⟩;rw[ha _ hx];simp[Builtin.min_,←g1,←g2,Builtin.min2]
    exact hk.elim
  . rename_i x y z hc hx;have h1:=h.ev x;have h2:=h.ev y;have h3:=h.ev z;have hk:mY (Vc.ev ts x) (Vc.ev ts y) λu=>mY u (Vc.ev ts z) λv=>k v m:=hk;generalize e1:Vc.ev ts x=X at hk h1;generalize e2:Vc.ev ts y=Y at hk h2;generalize e3:Vc.ev ts z=Z at hk h3;cases X with
    |val X=>
     cases X with
     |int i p=>
      cases Y with
      |val Y=>
       cases Y with
       |int j q=>
        cases Z with
        |val Z=>
         cases Z with
         |int j2 r=>
          obtain ⟨g1,_⟩:=aS h1;obtain ⟨g2,_⟩:=aS h2;obtain ⟨g3,_⟩:=aS h3;refine BI _ (Builtin.min_ c.argTypes o.type (c.args.map a.eval)) hc (λ_=>rfl) ⟨_,w,?_,h.fg rfl ⟨rfl,hk⟩⟩;rw[ha _ hx];simp[Builtin.min_,←g1,←g2,←g3,Builtin.min2]
         |_=>exact hk.elim
        |_=>exact hk.elim
       |_=>exact hk.elim
      |_=>exact hk.elim
     |_=>exact hk.elim
    |_=>exact hk.elim
  . rename_i x y hc hx;unfold kP at hk;split at hk
    . rename_i t t' YS;obtain ⟨tt,htt,hk⟩:=bF hk;obtain ⟨hks,hk⟩:=nn hk;obtain ⟨tt',we,hk⟩:=bF hk;obtain ⟨wg,hk⟩:=nn hk;obtain ⟨ti,ht,hk⟩:=bF hk;have et:c.argTypes= #[t,t']:=(by apply Array.ext';simpa using YS);refine BI _ (Builtin.append_ c.argTypes o.type (c.args.map a.eval)) hc (λ_=>rfl) ?_;rw[ha _ hx,et];exact NS htt hks we wg ht h (h.ev x) (h.ev y) (h.DU x) _ hk
    exact hk.elim
  . rename_i f hc
    obtain ⟨⟨fn,cd,hf,hnm,hbd⟩,Jy⟩:=xF (vs:=c.args.map a.eval) h (by simpa using CQ h c.args.toList) (λi hi l af hl=>by rw[q7] at hl;exact h.DU _ l af hl) hk
    have hex:(execOp a.eval o).run P w= .ok (.enter f (c.args.map a.eval)) w:=by have V':¬fn.name= "runtime.NumGoroutine" :=(by simpa using hnm);simp [execOp,hop,resolve,hc,Act.eval,Deferred.ofValue,invoke,callFunc,hf,V',hbd]
    unfold Oper.wp;rw[hex,Oper.upon_enter];refine Jy.mono ?_;rintro e w' ⟨v,rfl,hg⟩;exact G_ v w' hg
  . rename_i t hc;unfold nj at hk;split at hk
    . rename_i f ys hf0;have hx:=h.tm t;rw [hf0] at hx;obtain ⟨cs,hcs,hl,hy⟩:=CD hx;have hap:pL (RV w S φ) (c.args.toList.map (Vc.ev ts)++ys) (c.args.map a.eval++cs).toList:=by
       have h1:=CQ h c.args.toList;refine ⟨by simp[hl],λi hi=>?_⟩;rw[Array.toList_append,Array.toList_map,List.getElem_append];split
       . rename_i hi1;have:=h1.2 i hi1;rw[q4] at this ⊢;rw[List.getElem?_append_left (by simpa using hi1)];exact this
       rename_i hi1;have hi2:i-(c.args.toList.map (Vc.ev ts)).length<ys.length:=(by rw[List.length_append] at hi;omega);have:=hy _ hi2;rw[q4] at this ⊢;rw[List.getElem?_append_right (by simpa using hi1)];simpa using this
      obtain ⟨⟨fn,cd,hf,hnm,hbd⟩,Jy⟩:=xF (vs:=c.args.map a.eval++cs) h hap (λi hi l af hl=>by
       rw[List.getElem_append] at hl;split at hl
       . rw[q7] at hl;exact h.DU _ l af hl
       exact h.tl t l af (by rw[hf0];simp only[ao];exact bq (by rw[List.length_append] at hi;omega) hl)) hk
      have hex:(execOp a.eval o).run P w= .ok (.enter f (c.args.map a.eval++cs)) w:=by have V':¬fn.name= "runtime.NumGoroutine" :=(by simpa using hnm);have YT:a.tmps.getD t uD= .func (.func f) #[] cs:=hcs;simp [execOp,hop,resolve,hc,Act.eval,YT,Deferred.ofValue,invoke,callFunc,hf,V',hbd]
      unfold Oper.wp;rw[hex,Oper.upon_enter];refine Jy.mono ?_;rintro e w' ⟨v,rfl,hg⟩;exact G_ v w' hg
    exact hk.elim
  exact hk.elim
 |makeFunc fn first caps=>
  rw[hop] at hk;cases fn with
  |func f=>
   obtain ⟨h1,hk⟩:first.toList=[]/\k (.cn f (caps.toList.map (Vc.ev ts))) m:=hk
   have h1':first= #[]:=by apply Array.ext';simpa using h1
   subst h1';have hr:=CQ h caps.toList;refine V (Instr.makeFunc (.func f) (Array.map a.eval #[]) (caps.map a.eval)) (by simp only[execOp,hop]) ⟨.func (.func f) #[] (caps.map a.eval),w,by simp[Instr.makeFunc],h.gives (x:=.cn f (caps.toList.map (Vc.ev ts))) ?_ (λl af hl=>?_) ⟨rfl,hk⟩⟩
   . exact .cn f _ _ (by simp) (by simpa using hr.2)
   simp only[ao] at hl;obtain ⟨i,hi,hl2⟩:=bM hl;rw[q7] at hl2;exact h.DU _ l af hl2
  |_=>exact False.elim hk
 |_=>rw[hop] at hk;exact hk.elim
abbrev St:=Env->Mem->Prop
abbrev de:=Exit->Env->Mem->Prop
def gv (want:Bool)(y:AV)(a b:Prop):Prop:=match y with
 | .val (.bool c)=>(c=want->a)/\(c≠want->b)
 | .aX []=>b
 |_=>False
@[congr] theorem R4 {w:Bool} {y y':AV} {a b:Prop} (h:y=y'):gv w y a b=gv w y' a b:=by rw[h]
theorem EX (w:Bool)(a b:Prop):gv w (.aX []) a b=b:=rfl
theorem N7 (c:Bool)(a b:Prop):gv false (.val (.bool c)) a b=((c=false->a)/\(c=true->b)):=by simp[gv]
def jL (ops:List Oper)(j:Nat):Nat:=match (ops[j]?).bind (·.dst) with|some d=>d|none=>0
def mE (d:Option Nat)(x:AV)(ts:Env):Env:=match d with|some d=>(d,x)::ts|none=>ts
theorem KW (d:Nat)(x:AV)(ts:Env):mE (some d) x ts=(d,x)::ts:=rfl
def sL (P:pR)(ops:List Oper):List Oper->Env->Mem->St->Prop
 | [],ts,m,k=>k ts m
 |o::r,ts,m,k=>match o.guard with
  |none=>iL P (o.dst.getD 0) o.op ts m λx m'=>sL P ops r (mE o.dst x ts) m' k
  |some (j,want)=>gv want (look ts (jL ops j)) (iL P (o.dst.getD 0) o.op ts m λx m'=>sL P ops r (mE o.dst x ts) m' k) (sL P ops r (mE o.dst (.aX []) ts) m k)
theorem Hv (o:Oper)(l:List Oper)(j:Nat):jL (o::l) (j+1)=jL l j:=rfl
theorem Hw (d:Nat)(op:Op)(ty:TypeId)(p:String)(e:Array Edge)(g:Option (Nat × Bool))(l:List Oper):jL (⟨some d,op,ty,p,e,g⟩::l) 0=d:=rfl
def jM (N:Nat)(ops:List Oper):Bool:=ops.all λo=>match o.dst with|some d=>decide (d<N)|none=>true
theorem step_done {o:Oper}(hd:∀d,o.dst=some d->d<N){k:AV->Mem->Prop}{v:Value}(hg:ir B N a (λx ts' m'=>ts'=ts/\k x m') v w){K:St}(hK:∀x m',k x m'->K (mE o.dst x ts) m'):ia B N K (a.put o.dst v) w:=by
 cases Wa:o.dst with
 |none=>
  refine hg.skip λx ts' m' ⟨h1,h2⟩=>?_;have:=hK x m' h2;rw[Wa] at this;rw[h1];exact this
 |some d=>
  refine hg.done (hd d Wa) λx ts' m' ⟨h1,h2⟩=>?_;have:=hK x m' h2;rw[Wa] at this;rw[h1];exact this
theorem EY (h:RS B N φ fp S ts m a w){ops:List Oper}{j:Nat}{c:Bool}(hl:look ts (jL ops j)= .val (.bool c))(hj:∃d,((ops[j]?).bind (·.dst))=some d/\d<N):yielded ops.toArray a.tmps j=some c:=by
 obtain ⟨d,hd,hdN⟩:=hj;have h0:jL ops j=d:=by unfold jL;rw[hd]
 rw[h0] at hl;have ht:=h.tm d;rw[hl] at ht;obtain ⟨hv,_⟩:=aS ht;have hsz:d<a.tmps.size:=by rw[h.ly];exact hdN
 have e1:a.tmps[d]? =some (.bool c):=by rw[hv];simp[q0,q1 hsz]
 unfold yielded;simp only[List.getElem?_toArray,hd,Option.bind_some,e1]
theorem xH (h:RS B N φ fp S ts m a w){ops:List Oper}{j:Nat}(hl:look ts (jL ops j)= .aX [])(hj:∃d,((ops[j]?).bind (·.dst))=some d/\d<N):yielded ops.toArray a.tmps j=none:=by
 obtain ⟨d,hd,hdN⟩:=hj;have h0:jL ops j=d:=by unfold jL;rw[hd]
 rw[h0] at hl;have ht:=h.tm d;rw[hl] at ht;have hsz:d<a.tmps.size:=by rw[h.ly];exact hdN
 have hv:a.tmps.getD d uD= .tuple #[]:=by
  generalize a.tmps.getD d uD=v at ht;cases ht with
  |rd _ _ h=>cases h with
   |aX _ cs hl _=>rw[Array.eq_empty_of_size_eq_zero hl]
  |aX _ cs hl _=>rw[Array.eq_empty_of_size_eq_zero hl]
 have e1:a.tmps[d]? =some (.tuple #[]):=by rw[←hv];simp[q0,q1 hsz]
 unfold yielded;simp only[List.getElem?_toArray,hd,Option.bind_some,e1]
def df (N:Nat)(ops:List Oper):Bool:=ops.all λo=>match o.guard with
 |none=>true
 |some (j,_)=>match (ops[j]?).bind (·.dst) with|some d=>decide (d<N)|none=>false
theorem iP {ops:List Oper}(hok:jM N ops=true)(hgs:df N ops=true){Q:Exit->Act->World->Prop}{K:St}(hQ:∀a w,ia B N K a w->Q .normal a w):
 ∀(l:List Oper) (i:Nat),ops.drop i=l->∀(φ:Nat->LS) (fp:nN) (S:nP) (ts:Env) (m:Mem) (a:Act) (w:World),RS B N φ fp S ts m a w->sL P ops l ts m K→
  wpOps P ops.toArray Q ((List.range (ops.length-i)).map (· +i)) a w
 | [],i,hl,φ,fp,S,ts,m,a,w,h,hk=>by
   have:ops.length-i=0:=by have:=congrArg List.length hl;simpa using this
   rw[this];exact hQ a w ⟨φ,fp,S,ts,m,h,hk⟩
 |o::r,i,hl,φ,fp,S,ts,m,a,w,h,hk=>by
  have hi:i<ops.length:=by have:=congrArg List.length hl;simp at this;omega
  have hoi:ops[i]? =some o:=by have:=congrArg (·[0]?) hl;simpa using this
  have hr:ops.drop (i+1)=r:=by have:=congrArg List.tail hl;simpa using this
  have e:(List.range (ops.length-i)).map (· +i)=i::(List.range (ops.length-(i+1))).map (· +(i+1)):=by rw[show ops.length-i=(ops.length-(i+1))+1 by omega,List.range_succ_eq_map];simp[List.map_map,Function.comp_def];intro q hq;omega
  rw[e];have hoo:ops.toArray[i]? =some o:=by simpa using hoi
  simp only[wpOps,hoo];have hdo:∀d,o.dst=some d->d<N:=by intro d hd;have:=List.all_eq_true.1 hok o (List.mem_of_getElem? hoi);rw[hd] at this;simpa using this
  have run:iL P (o.dst.getD 0) o.op ts m (λx m'=>sL P ops r (mE o.dst x ts) m' K)->o.wp P a w (wpOps P ops.toArray Q ((List.range (ops.length-(i+1))).map (· +(i+1)))) Q:=by intro hk;refine gu h hk λv w' hg=>?_;obtain ⟨φ',fp',S',ts',m',h1,h2⟩:=step_done (o:=o) (K:=λts m=>sL P ops r ts m K) hdo hg (λx m' h=>h);exact iP hok hgs hQ r (i+1) hr φ' fp' S' ts' m' _ w' h1 h2
  have skip:sL P ops r (mE o.dst (.aX []) ts) m K->wpOps P ops.toArray Q ((List.range (ops.length-(i+1))).map (· +(i+1))) (a.put o.dst uD) w:=by
   intro hk
   obtain ⟨φ',fp',S',ts',m',h1,h2⟩:=step_done (o:=o) (a:=a) (w:=w) (v:=uD) (K:=λts m=>sL P ops r ts m K) (k:=λx m'=>x= .aX []/\m'=m) hdo
    (h.gives (x:=.aX []) (.rd _ _ (.aX [] #[] rfl λi hi=>absurd hi (q16 _))) (λ_ _ hl=>by cases hl) ⟨rfl,rfl,rfl⟩) (λx m' ⟨h1,h2⟩=>by rw[h1,h2];exact hk)
   exact iP hok hgs hQ r (i+1) hr φ' fp' S' ts' m' _ w h1 h2
  cases hg:o.guard with
  |none=>
   simp only[sL,hg] at hk;simp only[Region.wanted,hg,if_true];exact .inl (run hk)
  |some jw=>
   obtain ⟨j,want⟩:=jw;simp only[sL,hg] at hk;have hgo:=List.all_eq_true.1 hgs o (List.mem_of_getElem? hoi);rw[hg] at hgo;unfold gv at hk;split at hk
   . rename_i c hy;have hj:∃d,((ops[j]?).bind (·.dst))=some d/\d<N:=by
      simp only at hgo;split at hgo
      . rename_i d hd;exact ⟨d,hd,by simpa using hgo⟩
      cases hgo
     have hyy:=EY h hy hj;simp only[Region.wanted,hg,hyy];by_cases hc:c=want
     . subst hc;simp only[beq_self_eq_true,if_true];exact .inl (run (hk.1 rfl))
     have:(some c==some want)=false:=(by simpa using hc);simp only[this,Bool.false_eq_true,if_false];exact skip (hk.2 hc)
   . rename_i hy;have hj:∃d,((ops[j]?).bind (·.dst))=some d/\d<N:=by
      simp only at hgo;split at hgo
      . rename_i d hd;exact ⟨d,hd,by simpa using hgo⟩
      cases hgo
     have hyy:=xH h hy hj;simp only[Region.wanted,hg,hyy];have:((none:Option Bool)==some want)=false:=(by simp);simp only[this,Bool.false_eq_true,if_false];exact skip hk
   exact hk.elim
def Ok (P:pR)(N:Nat)(c:Code)(ts:Env)(m:Mem)(Q:de):Prop:=
 ∀(B:eC)(φ:Nat->LS)(fp:nN)(S:nP)(a:Act)(w:World),RS B N φ fp S ts m a w->c.wp P (λe a' w'=>ia B N (Q e) a' w') a w
structure aj (P:Program) (N:Nat) (c:Code) (ts:Env) (m:Mem) (Q:de) (_:Pack (c,Q)):Prop where
 ok:Ok P N c ts m Q
def zF (Q:de)(n:St):de
 | .normal=>n
 | .exit i=>Q (.exit i)
 | .ret=>Q .ret
 |e=>Q e
theorem Hx (Q:de)(n:St):zF Q n .normal=n:=rfl
theorem R5 (Q:de)(n:St):zF Q n .ret=Q .ret:=rfl
theorem N8 (Q:de)(n:St)(i:Nat):zF Q n (.exit i)=Q (.exit i):=rfl
def pN (Q:de)(id:Nat):de
 | .exit j=>if j=id then Q .normal else Q (.exit j)
 | .normal=>Q .normal
 | .ret=>Q .ret
 |e=>Q e
theorem Hy (Q:de)(i:Nat):pN Q i .normal=Q .normal:=rfl
theorem R6 (Q:de)(i:Nat):pN Q i .ret=Q .ret:=rfl
theorem N9 (Q:de)(i j:Nat):pN Q i (.exit j)=if j=i then Q .normal else Q (.exit j):=rfl
def vc (P:pR)(N:Nat):Code->Env->Mem->de->Prop
 | .skip,ts,m,Q=>Q .normal ts m
 | .region i ops false,ts,m,Q=>sL P ops.toList ops.toList ts m (Q .normal)
 | .region i ops true,ts,m,Q=>Ok P N (.region i ops true) ts m Q
 | .seq a b,ts,m,Q=>vc P N a ts m (zF Q λts' m'=>vc P N b ts' m' Q)
 | .cond c a b,ts,m,Q=>UC (ev ts c) (vc P N a ts m Q) (vc P N b ts m Q)
 | .block id b,ts,m,Q=>vc P N b ts m (pN Q id)
 | .loop b,ts,m,Q=>Ok P N (.loop b) ts m Q
 | .exit id,ts,m,Q=>Q (.exit id) ts m
 | .ret,ts,m,Q=>Q .ret ts m
 |_,_,_,_=>False
theorem R7 (N:Nat)(ts:Env)(m:Mem)(Q:de):vc P N .skip ts m Q=Q .normal ts m:=rfl
theorem KX (N i:Nat)(l:List Oper)(ts:Env)(m:Mem)(Q:de):vc P N (.region i ⟨l⟩ false) ts m Q=sL P l l ts m (Q .normal):=rfl
theorem R8 (N i:Nat)(l:List Oper)(ts:Env)(m:Mem)(Q:de):vc P N (.region i ⟨l⟩ true) ts m Q=aj P N (.region i ⟨l⟩ true) ts m Q ⟨⟩:=propext ⟨λh=>⟨h⟩,λh=>h.ok⟩
theorem Vb (N:Nat)(a b:Code)(ts:Env)(m:Mem)(Q:de):vc P N (.seq a b) ts m Q=vc P N a ts m (zF Q λts' m'=>vc P N b ts' m' Q):=rfl
theorem R9 (N:Nat)(c:Operand)(a b:Code)(ts:Env)(m:Mem)(Q:de):vc P N (.cond c a b) ts m Q=UC (ev ts c) (vc P N a ts m Q) (vc P N b ts m Q):=rfl
theorem N_ (N i:Nat)(b:Code)(ts:Env)(m:Mem)(Q:de):vc P N (.block i b) ts m Q=vc P N b ts m (pN Q i):=rfl
theorem R_ (N:Nat)(b:Code)(ts:Env)(m:Mem)(Q:de):vc P N (.loop b) ts m Q=aj P N (.loop b) ts m Q ⟨⟩:=propext ⟨λh=>⟨h⟩,λh=>h.ok⟩
theorem Sa (N i:Nat)(ts:Env)(m:Mem)(Q:de):vc P N (.exit i) ts m Q=Q (.exit i) ts m:=rfl
theorem Vd (N:Nat)(ts:Env)(m:Mem)(Q:de):vc P N .ret ts m Q=Q .ret ts m:=rfl
def codeOk (N:Nat):Code->Bool
 | .region _ ops false=>jM N ops.toList&&df N ops.toList
 | .seq a b=>codeOk N a&&codeOk N b
 | .cond _ a b=>codeOk N a&&codeOk N b
 | .block _ b=>codeOk N b
 |_=>true
theorem cB:∀(c:Code) (ts:Env) (m:Mem) (Q:de),codeOk N c=true->vc P N c ts m Q->Ok P N c ts m Q
 | .skip,ts,m,Q,_,h=>λB φ fp S a w hRS=>wp_skip ⟨φ,fp,S,ts,m,hRS,h⟩
 | .region i ops false,ts,m,Q,hok,h=>λB φ fp S a w hRS=>by
   simp only[codeOk,Bool.and_eq_true] at hok;refine wp_region ?_;have:=iP (P:=P) (B:=B) (Q:=λe a' w'=>ia B N (Q e) a' w') hok.1 hok.2 (K:=Q .normal) (λa w h=>h) ops.toList 0 (by simp) φ fp S ts m a w hRS h;simpa using this
 | .region i ops true,ts,m,Q,_,h=>h
 | .seq a b,ts,m,Q,hok,h=>λB φ fp S ac w hRS=>by
   simp only[codeOk,Bool.and_eq_true] at hok;refine wp_seq (wp_mono (cB a ts m _ hok.1 h B φ fp S ac w hRS) λe a' w' hq=>?_);obtain ⟨φ',fp',S',ts',m',h1,h2⟩:=hq;cases e with
   |normal=>exact cB b ts' m' Q hok.2 h2 B φ' fp' S' a' w' h1
   |_=>exact ⟨φ',fp',S',ts',m',h1,h2⟩
 | .cond c x y,ts,m,Q,hok,h=>λB φ fp S ac w hRS=>by
   simp only[codeOk,Bool.and_eq_true] at hok;have h:UC (ev ts c) (vc P N x ts m Q) (vc P N y ts m Q):=h;have hc:=hRS.ev c;unfold UC at h;split at h
   . rename_i b hv;rw[hv] at hc;obtain ⟨hb,_⟩:=aS hc;refine wp_cond_split hb.symm (λht=>cB x ts m Q hok.1 (h.1 ht) B φ fp S ac w hRS) (λhf=>cB y ts m Q hok.2 (h.2 hf) B φ fp S ac w hRS)
   exact h.elim
 | .block id b,ts,m,Q,hok,h=>λB φ fp S ac w hRS=>by
   refine wp_block (wp_mono (cB b ts m _ hok h B φ fp S ac w hRS) λe a' w' hq=>?_);obtain ⟨φ',fp',S',ts',m',h1,h2⟩:=hq;cases e with
   |exit j=>
    simp only[pN] at h2;simp only[Exit.inBlock];split
    . rename_i hj;rw[if_pos hj] at h2;exact ⟨φ',fp',S',ts',m',h1,h2⟩
    rename_i hj;rw[if_neg hj] at h2;exact ⟨φ',fp',S',ts',m',h1,h2⟩
   |_=>exact ⟨φ',fp',S',ts',m',h1,h2⟩
 | .loop b,ts,m,Q,_,h=>h
 | .exit id,ts,m,Q,_,h=>λB φ fp S a w hRS=>wp_exit ⟨φ,fp,S,ts,m,hRS,h⟩
 | .ret,ts,m,Q,_,h=>λB φ fp S a w hRS=>wp_ret ⟨φ,fp,S,ts,m,hRS,h⟩
 | .rangeFunc ..,_,_,_,_,h=>h.elim
 | .scope ..,_,_,_,_,h=>h.elim
 | .label ..,_,_,_,_,h=>h.elim
 | .goto ..,_,_,_,_,h=>h.elim
 | .refuse ..,_,_,_,_,h=>h.elim
end
def jb (b:Option bf)(v:Nat):Prop:=match b with|some (.gone _)=>False|some k=>k.af=v|none=>False
theorem KY (u v:Nat)(sh:Sh)(d:Bool)(xs:lA):jb (some (.row u sh d xs)) v=(u=v):=rfl
theorem KZ (u v:Nat)(xs:lA):jb (some (.box u xs)) v=(u=v):=rfl
def Bh (b:Option bf):Prop:=match b with|none=>True|some (.gone _)=>True|_=>False
theorem Hz:Bh none=True:=rfl
def Oa (b b2:Option bf)(l af i n:Nat)(sh:Sh)(ys:lA):Prop:=match b,b2 with
 |some (.row v sh' _ xs),none=>v=af/\sh'=sh/\i+n<=xs.length/\(xs.drop i).take n=ys/\l<bE
 |_,_=>False
def jN (m m2:Mem):AV->AV->Prop
 |_,.undef=>True
 | .val u,.val v=>u=v
 | .e0,.e0=>True
 | .arr sh xs,.arr sh' ys=>sh=sh'/\xs=ys
 | .ref l af i n,.arr sh ys=>Oa (ah m l) (ah m2 l) l af i n sh ys
 | .e0,.arr _ ys=>ys=[]
 | .val (.slice none 0 0),.arr _ ys=>ys=[]
 | .ref l af i n,.ref l' ver' i' n'=>(l=l'/\i=i'/\n=n')/\jb (ah m l) af/\jb (ah m2 l) ver'
 | .e0,.ref l' ver' i' n'=>(i'=0/\n'=0)/\Bh (ah m l')/\jb (ah m2 l') ver'
 | .val (.slice none 0 0),.ref l' ver' i' n'=>(i'=0/\n'=0)/\Bh (ah m l')/\jb (ah m2 l') ver'
 | .ptr l af i j,.ptr l' ver' i' j'=>(l=l'/\i=i'/\j=j')/\jb (ah m l) af/\jb (ah m2 l) ver'
 | .bo sh xs i j,.bo sh' ys i' j'=>sh=sh'/\xs=ys/\i=i'/\j=j'
 |_,_=>False
section
variable (m m2:Mem)
theorem Ob (u v:Value):jN m m2 (.val u) (.val v)=(u=v):=by cases u<;>rfl
theorem Oc (sh:Sh)(xs ys:lA):jN m m2 (.arr sh xs) (.arr sh ys)=(xs=ys):=by simp[jN]
theorem Od (l af i n ver' i' n':Nat):jN m m2 (.ref l af i n) (.ref l ver' i' n')=((i=i'/\n=n')/\jb (ah m l) af/\jb (ah m2 l) ver'):=by simp[jN]
theorem EZ (l' ver' i' n':Nat):jN m m2 (.val (.slice none 0 0)) (.ref l' ver' i' n')=((i'=0/\n'=0)/\Bh (ah m l')/\jb (ah m2 l') ver'):=rfl
theorem Oe (l af i j ver' i' j':Nat):jN m m2 (.ptr l af i j) (.ptr l ver' i' j')=((i=i'/\j=j')/\jb (ah m l) af/\jb (ah m2 l) ver'):=by simp[jN]
def xI (m m2:Mem):lA->lA->Prop
 | [],[]=>True
 |x::xs,y::ys=>(jN m m2 x y/\leaf y)/\xI m m2 xs ys
 |_,_=>False
theorem Of (m m2:Mem):xI m m2 [] []=True:=rfl
theorem K0 (m m2:Mem)(x y:AV)(xs ys:lA):xI m m2 (x::xs) (y::ys)=((jN m m2 x y/\leaf y)/\xI m m2 xs ys):=rfl
def sf (m m2:Mem):AV->AV->Prop
 | .cn f xs,.cn g ys=>f=g/\xI m m2 xs ys
 |x,y=>jN m m2 x y
theorem K1 (m m2:Mem)(f g:fI)(xs ys:lA):sf m m2 (.cn f xs) (.cn g ys)=(f=g/\xI m m2 xs ys):=rfl
theorem K3 (m m2:Mem)(x:AV)(v:Value):sf m m2 x (.val v)=jN m m2 x (.val v):=by cases x<;>rfl
theorem K4 (m m2:Mem)(x:AV)(sh:Sh)(ys:lA):sf m m2 x (.arr sh ys)=jN m m2 x (.arr sh ys):=by cases x<;>rfl
theorem K5 (m m2:Mem)(x:AV)(l v i n:Nat):sf m m2 x (.ref l v i n)=jN m m2 x (.ref l v i n):=by cases x<;>rfl
theorem K6 (m m2:Mem)(x:AV)(l v i n:Nat):sf m m2 x (.ptr l v i n)=jN m m2 x (.ptr l v i n):=by cases x<;>rfl
def E0 (m m2:Mem):lA->lA->Prop
 | [],[]=>True
 |x::xs,y::ys=>(sf m m2 x y/\leaf y)/\E0 m m2 xs ys
 |_,_=>False
theorem Og (m m2:Mem):E0 m m2 [] []=True:=rfl
theorem K7 (m m2:Mem)(x y:AV)(xs ys:lA):E0 m m2 (x::xs) (y::ys)=((sf m m2 x y/\leaf y)/\E0 m m2 xs ys):=rfl
theorem Oh (v:Value):leaf (.val v)=True:=rfl
theorem Oi (sh:Sh)(xs:lA):leaf (.arr sh xs)=True:=rfl
theorem Oj (l v i n:Nat):leaf (.ref l v i n)=True:=rfl
theorem Ol (f:fI)(xs:lA):leaf (.cn f xs)=True:=rfl
theorem Om (l v i n:Nat):leaf (.ptr l v i n)=True:=rfl
def vU (m m2:Mem):AV->AV->Prop
 | .agg xs,.agg ys=>E0 m m2 xs ys
 | .cn f xs,.cn g ys=>f=g/\xI m m2 xs ys
 |x,y=>jN m m2 x y
theorem On (m m2:Mem)(f g:fI)(xs ys:lA):vU m m2 (.cn f xs) (.cn g ys)=(f=g/\xI m m2 xs ys):=rfl
theorem xJ (m m2:Mem)(x:AV):vU m m2 x .undef=True:=by cases x<;>rfl
theorem Oo (m m2:Mem)(x:AV)(v:Value):vU m m2 x (.val v)=jN m m2 x (.val v):=by cases x<;>rfl
theorem Oq (m m2:Mem)(x:AV)(sh:Sh)(ys:lA):vU m m2 x (.arr sh ys)=jN m m2 x (.arr sh ys):=by cases x<;>rfl
theorem Ot (m m2:Mem)(x:AV)(l v i n:Nat):vU m m2 x (.ref l v i n)=jN m m2 x (.ref l v i n):=by cases x<;>rfl
theorem Ou (m m2:Mem)(x:AV)(l v i n:Nat):vU m m2 x (.ptr l v i n)=jN m m2 x (.ptr l v i n):=by cases x<;>rfl
def HA (ts:Env)(m m2:Mem):Env->Prop
 | []=>True
 |(t,v)::r=>vU m m2 (look ts t) v/\HA ts m m2 r
theorem Ov (ts:Env)(m m2:Mem):HA ts m m2 []=True:=rfl
theorem K8 (ts:Env)(m m2:Mem)(t:Nat)(v:AV)(r:Env):HA ts m m2 ((t,v)::r)=(vU m m2 (look ts t) v/\HA ts m m2 r):=rfl
def xK (m m2:Mem)(b:Option bf)(b2:bf):Prop:=match b,b2 with
 |some (.row _ sh d xs),.row _ sh2 d2 xs2=>sh=sh2/\d=d2/\xs=xs2
 |some (.box _ xs),.box _ ys=>E0 m m2 xs ys
 |none,.row _ _ _ xs=>xs=[]
 |some (.gone _),.row _ _ _ xs=>xs=[]
 |_,_=>False
theorem Ow (v v2:Nat)(sh:Sh)(d:Bool)(xs xs2:lA):xK m m2 (some (.row v sh d xs)) (.row v2 sh d xs2)=(xs=xs2):=by simp[xK]
theorem Ox (v v2:Nat)(xs xs2:lA):xK m m2 (some (.box v xs)) (.box v2 xs2)=E0 m m2 xs xs2:=rfl
theorem K9 (v2:Nat)(sh:Sh)(d:Bool)(xs2:lA):xK m m2 none (.row v2 sh d xs2)=(xs2=[]):=rfl
end
def HB (m m2:Mem):Mem->Prop
 | []=>True
 |(l,b)::r=>xK m m2 (ah m l) b/\HB m m2 r
theorem Oy (m m2:Mem):HB m m2 []=True:=rfl
theorem K_ (m m2:Mem)(l:Nat)(b:bf)(r:Mem):HB m m2 ((l,b)::r)=(xK m m2 (ah m l) b/\HB m m2 r):=rfl
def sg (b b2:Option bf):Prop:=match b,b2 with
 |some (.row v _ _ _),some (.row v2 _ _ _)=>v=v2
 |some (.box v _),some (.box v2 _)=>v=v2
 |_,_=>False
theorem HC (v v2:Nat)(sh sh2:Sh)(d d2:Bool)(xs xs2:lA):sg (some (.row v sh d xs)) (some (.row v2 sh2 d2 xs2))=(v=v2):=rfl
theorem HE (v v2:Nat)(xs xs2:lA):sg (some (.box v xs)) (some (.box v2 xs2))=(v=v2):=rfl
def CR (l:Nat)(b b2:Option bf):Prop:=l<bE\/sg b b2
theorem Ld (l:Nat)(b b2:Option bf):CR l b b2=(l<1000000000\/sg b b2):=rfl
def HF (m m2:Mem):Mem->Prop
 | []=>True
 |(l,_)::r=>CR l (ah m l) (ah m2 l)/\HF m m2 r
theorem Oz (m m2:Mem):HF m m2 []=True:=rfl
theorem Le (m m2:Mem)(l:Nat)(b:bf)(r:Mem):HF m m2 ((l,b)::r)=(CR l (ah m l) (ah m2 l)/\HF m m2 r):=rfl
theorem E1 {m m2:Mem}:∀{r:Mem},HF m m2 r->∀{l:Nat} {b:bf},ah r l=some b->CR l (ah m l) (ah m2 l)
 | [],_,l,b,hb=>by rw[tn] at hb;cases hb
 |(l0,b0)::r,h,l,b,hb=>by
  rw[aw] at hb;split at hb
  . rename_i e;subst e;exact h.1
  exact E1 h.2 hb
def sj (ts:Env)(m:Mem)(ts2:Env)(m2:Mem):Prop:=HA ts m m2 ts2/\HB m m2 m2/\HF m m2 m
theorem Sb (ts:Env)(m:Mem)(ts2:Env)(m2:Mem):sj ts m ts2 m2=(HA ts m m2 ts2/\HB m m2 m2/\HF m m2 m):=rfl
section
variable {P:pR} {B:eC} {N:Nat} {φ:Nat->LS} {fp:nN} {S:nP} {ts:Env} {m:Mem} {a:Act} {w:World}
theorem xL {m m2:Mem}:∀{r:Mem},HB m m2 r->∀{l:Nat} {b:bf},ah r l=some b->xK m m2 (ah m l) b
 | [],_,l,b,h=>by cases h
 |(l0,b0)::r,h,l,b,hb=>by
  rw[aw] at hb;split at hb
  . rename_i e;subst e;cases hb;exact h.1
  exact xL h.2 hb
theorem xM {ts:Env}{m m2:Mem}:∀{r:Env},HA ts m m2 r->∀t,vU m m2 (look ts t) (look r t)
 | [],_,t=>by rw[look_nil,xJ];trivial
 |(t0,v)::r,h,t=>by
  rw[cN];split
  . rename_i e;subst e;exact h.1
  exact xM h.2 t
def gM (φ:Nat->LS)(m2:Mem):Nat->LS:=λl=>match ah m2 l with
 |none=>.dead
 |some k=>match φ l with
  | .at b sh _=>.at b sh k.af
  |_=>.nil k.af
def xN (fp:nN)(m2:Mem):Nat->lN:=λl=>match ah m2 l with|none=>[]|some _=>fp l
def vV (S:nP)(fp:nN)(m2:Mem):Nat->Prop:=λb=>S b\/∃l,ah m2 l=none/\l<bE/\b∈fp l
theorem kR {m2:Mem}{l v:Nat}(h:jb (ah m2 l) v):known m2 l v:=by
 unfold jb at h;split at h
 . exact h.elim
 . rename_i k hn hk;exact ⟨k,hk,Nat.le_of_eq h.symm⟩
 exact h.elim
theorem xO (h:RS B N φ fp S ts m a w){m2:Mem}{x y:AV}{v:Value}(hx:RV w S φ x v)(hr:jN m m2 x y):
 RV w (vV S fp m2) (gM φ m2) y v/\∀l af,(l,af)∈ao y->known m2 l af:=by
 have hS:∀b,S b->vV S fp m2 b:=λb hb=>.inl hb;have nolab:∀{y:AV} {v:Value},Rd w S y v->RV w (vV S fp m2) (gM φ m2) y v/\∀l af,(l,af)∈ao y->known m2 l af:=by intro y v hy;exact ⟨.rd _ _ (hy.mono (λ_ _=>rfl) hS),λl af hl=>by rw[fY hy] at hl;cases hl⟩
 have nilref:∀{v:Value} {l' ver' i' n':Nat},(∃ad,v= .slice ad 0 0)->(i'=0/\n'=0)/\Bh (ah m l')/\jb (ah m2 l') ver'→
  RV w (vV S fp m2) (gM φ m2) (.ref l' ver' i' n') v/\∀l af,(l,af)∈ao (.ref l' ver' i' n')->known m2 l af:=by
  rintro v l' ver' i' n' ⟨ad,rfl⟩ ⟨⟨rfl,rfl⟩,hnb,hv⟩;refine ⟨.ref _ _ _ _ _ (λb sh hb=>?_) (λ_=>⟨rfl,ad,rfl⟩) rfl,λl af hl=>?_⟩
  . have hd:φ l'= .dead:=by
     unfold Bh at hnb;split at hnb
     . rename_i hk;exact (h.ca l' hk).1
     . rename_i v hk;exact (h.aG l' _ hk).1
     exact hnb.elim
    unfold gM at hb;split at hb
    . cases hb
    rw[hd] at hb;cases hb
  simp only[ao,q10,Prod.mk.injEq] at hl;obtain ⟨rfl,rfl⟩:=hl;exact kR hv
 unfold jN at hr;split at hr
 . exact ⟨.rd _ _ (.undef _),λ_ _ hl=>by cases hl⟩
 . subst hr;obtain ⟨rfl,h1⟩:=aS hx;exact nolab (.val _ h1)
 . obtain ⟨ad,rfl⟩:=rP hx;exact nolab (.e0 _)
 . obtain ⟨rfl,rfl⟩:=hr;exact nolab (ma hx)
 . rename_i l af i n sh ys;unfold Oa at hr;split at hr
   . rename_i v' sh' d xs hlk kv;obtain ⟨rfl,rfl,hin,rfl,hio⟩:=hr;refine ⟨.rd _ _ ?_,λ_ _ hl=>by cases hl⟩;have hlen:((xs.drop i).take n).length=n:=(by simp;omega);have hrr:=dt hx;rcases h.aG l _ hlk with ⟨h1,h2,h3⟩|⟨b,cap,hφ,hbm,hdp,bc⟩
     . obtain ⟨rfl,ad,rfl⟩:=hrr.2 h1;rw[List.take_zero];exact .nil _ _
     obtain ⟨ad,cp,rfl,hnc,hcp⟩:=hrr.1 b sh' hφ;obtain ⟨cs,e,fss,hgf,aD,hcs,b_,hmx,hff,hfl,hvv⟩:=gI bc hbm;by_cases hc0:cp=0
     . have:n=0:=(by omega);subst this;subst hc0;rw[List.take_zero];exact .nil _ _
     obtain ⟨rfl,cs',e',g1,g2⟩:=hcp.resolve_left hc0;obtain rfl:=dc (aD.symm.trans g1);have cf:i*sh'.sz+n*sh'.sz<=cs.size:=by rw[g2,←Nat.add_mul];exact Nat.mul_le_mul_right _ (by omega)
     have Nr:∀c,c∈fp l->vV S fp m2 c:=λc hc=>.inr ⟨l,kv,hio,hc⟩
     have:=Rd.arr (w:=w) (S:=vV S fp m2) sh' ((xs.drop i).take n) b (i*sh'.sz) cp cs e.1 (ou e cs.size) (Nr b hbm) aD (by rw [hlen];exact hnc) (by rw [hlen];exact cf)
      (λq hq=>by rw[hlen] at hq;simp only[q9,q6];exact hff _ (by omega))
      (λq hq=>by
        rw[hlen] at hq;simp only[q9,q6]
        have:=(hvv (i+q) (by omega)).mm (S':=vV S fp m2) (λc hc=>by
         cases d with
         |true=>exact hc.elim
         |false=>exact hS c hc) (λc hc=>Nr c (by rw[hgf];exact List.mem_cons_of_mem _ (aK (by omega) hc)))
        rwa [Nat.add_mul] at this)
     rw[hlen] at this;exact this
   exact hr.elim
 . obtain ⟨ad,rfl⟩:=rP hx;subst hr;exact nolab (.nil _ _)
 . obtain ⟨rfl,_⟩:=aS hx;subst hr;exact nolab (.nil _ _)
 . rename_i l af i n l' ver' i' n';obtain ⟨⟨rfl,rfl,rfl⟩,hv1,hv2⟩:=hr;have hrr:=dt hx;have gZ:∀l' v',(l',v')∈ao (.ref l ver' i n)->known m2 l' v':=by
    intro l' v' hl;simp only[ao,q10,Prod.mk.injEq] at hl;obtain ⟨rfl,rfl⟩:=hl;exact kR hv2
   have lC:v.oneCell'=true:=hx.aW trivial;refine ⟨.ref _ _ _ _ _ (λb sh hb=>?_) (λhb=>?_) lC,gZ⟩
   . unfold gM at hb;split at hb
     . cases hb
     rename_i k hk;split at hb
     . rename_i b' sh' v' hφ;cases hb;obtain ⟨k0,hk0,QY⟩:=h.rL hφ;have hvv:v'=af:=by
        rw[hk0] at hv1;cases k0<;>first|exact hv1.elim|exact QY.symm.trans hv1
       subst hvv;exact hrr.1 _ _ hφ
     cases hb
   unfold gM at hb;split at hb
   . cases hb
   rename_i k hk;split at hb
   . cases hb
   rename_i hne;unfold jb at hv1;split at hv1
   . exact hv1.elim
   . rename_i k0 hng hk0;have hb0:=h.aG l k0 hk0;cases k0 with
     |gone=>exact absurd rfl (hng _)
     |row v0 sh d xs=>
      rcases hb0 with ⟨h1,_⟩|⟨b,cap,hφ,_⟩
      . have hv1:v0=af:=hv1;subst hv1;exact hrr.2 h1
      exact absurd hφ (hne _ _ _)
     |box v0 xs=>obtain ⟨b,cs,e,sh,hφ,_⟩:=hb0;exact absurd hφ (hne _ _ _)
     |ke v0 xs i0 u0=>obtain ⟨b,cap,cs,e,fr,hφ,_⟩:=hb0;exact absurd hφ (hne _ _ _)
     |sub v0 sh xs u0=>obtain ⟨b,cap,hφ,_⟩:=hb0;exact absurd hφ (hne _ _ _)
   exact hv1.elim
 . exact nilref (rP hx) hr
 . obtain ⟨rfl,_⟩:=aS hx;exact nilref ⟨_,rfl⟩ hr
 . rename_i l af i j l' ver' i' j';obtain ⟨⟨rfl,rfl,rfl⟩,hv1,hv2⟩:=hr;have hrr:=j0 hx;have hr2:=wk hx;refine ⟨.ptr _ _ _ _ _ (λb sh hb=> ?_) (λhb=> ?_) hr2.2,λl' v' hl=> ?_⟩
   . unfold gM at hb;split at hb
     . cases hb
     split at hb
     . rename_i b' sh' v' hφ;cases hb;obtain ⟨k0,hk0,QY⟩:=h.rL hφ;have hvv:v'=af:=by
        rw[hk0] at hv1;cases k0<;>first|exact hv1.elim|exact QY.symm.trans hv1
       subst hvv;exact hrr _ _ hφ
     cases hb
   . unfold gM at hb;split at hb
     . cases hb
     split at hb
     . cases hb
     rename_i hne;unfold jb at hv1;split at hv1
     . exact hv1.elim
     . rename_i k0 hng hk0;have hb0:=h.aG l k0 hk0;cases k0 with
       |gone=>exact absurd rfl (hng _)
       |row v0 sh d xs=>
        rcases hb0 with ⟨h1,_⟩|⟨b,cap,hφ,_⟩
        . have hv1:v0=af:=hv1;subst hv1;exact hr2.1 h1
        exact absurd hφ (hne _ _ _)
       |box v0 xs=>obtain ⟨b,cs,e,sh,hφ,_⟩:=hb0;exact absurd hφ (hne _ _ _)
       |ke v0 xs i0 u0=>obtain ⟨b,cap,cs,e,fr,hφ,_⟩:=hb0;exact absurd hφ (hne _ _ _)
       |sub v0 sh xs u0=>obtain ⟨b,cap,hφ,_⟩:=hb0;exact absurd hφ (hne _ _ _)
     exact hv1.elim
   simp only[ao,q10,Prod.mk.injEq] at hl;obtain ⟨rfl,rfl⟩:=hl;exact kR hv2
 . obtain ⟨rfl,rfl,rfl,rfl⟩:=hr;exact nolab (pI hx)
 exact hr.elim
theorem qR {l:lV}{n i:Nat}(h:i<n):(l.take n).getD i uD=l.getD i uD:=by simp[q4,h]
theorem xP (h:RS B N φ fp S ts m a w){m2:Mem}:∀(xs ys:lA) (vs:lV),xI m m2 xs ys->vs.length=xs.length->(∀i (hi:i<xs.length),RV w S φ xs[i] (vs.getD i uD))→
 ys.length=xs.length/\(∀i (hi:i<ys.length),leaf ys[i])/\(∀i (hi:i<ys.length),RV w (vV S fp m2) (gM φ m2) ys[i] (vs.getD i uD))/\∀l af,(l,af)∈aq ys->known m2 l af
 | [],[],vs,_,_,_=>⟨rfl,λi hi=>absurd hi (q16 _),λi hi=>absurd hi (q16 _),λ_ _ hl=>by cases hl⟩
 |x::xs,y::ys,vs,hr,hv,hx=>by
  cases vs with
  |nil=>simp at hv
  |cons v vs=>
   obtain ⟨⟨h1,h2⟩,h3⟩:=hr;obtain ⟨g1,g2⟩:=xO h (hx 0 (by simp)) h1;obtain ⟨q1,q2,q3,q4⟩:=xP h xs ys vs h3 (by simpa using hv) (λi hi=>by have:=hx (i+1) (by simpa using hi);exact this);refine ⟨by simp[q1],λi hi=>?_,λi hi=>?_,λl af hl=>?_⟩
   . cases i with
     |zero=>exact h2
     |succ i=>exact q2 i (by simpa using hi)
   . cases i with
     |zero=>exact g1
     |succ i=>exact q3 i (by simpa using hi)
   simp only[aq,List.mem_append] at hl;rcases hl with hl|hl
   . exact g2 l af hl
   exact q4 l af hl
 | [],_::_,_,hr,_,_=>hr.elim
 |_::_,[],_,hr,_,_=>hr.elim
theorem Lf (h:RS B N φ fp S ts m a w){m2:Mem}{x y:AV}{v:Value}(hx:RV w S φ x v)(hr:sf m m2 x y):
 RV w (vV S fp m2) (gM φ m2) y v/\∀l af,(l,af)∈ao y->known m2 l af:=by
 unfold sf at hr;split at hr
 . rename_i f xs g ys;obtain ⟨rfl,hr⟩:=hr;obtain ⟨cs,rfl,h1,h3⟩:=CD hx;obtain ⟨q1,q2,q3,q4⟩:=xP h xs ys cs.toList hr (by simpa using h1) h3;exact ⟨.cn _ _ _ (by omega) q3,λl af hl=>q4 l af (by simpa [ao] using hl)⟩
 exact xO h hx hr
theorem sn (h:RS B N φ fp S ts m a w){m2:Mem}:∀(xs ys:lA) (vs:lV),E0 m m2 xs ys->vs.length=xs.length->(∀i (hi:i<xs.length),RV w S φ xs[i] (vs.getD i uD))→
 ys.length=xs.length/\(∀i (hi:i<ys.length),leaf ys[i])/\(∀i (hi:i<ys.length),RV w (vV S fp m2) (gM φ m2) ys[i] (vs.getD i uD))/\∀l af,(l,af)∈aq ys->known m2 l af
 | [],[],vs,_,_,_=>⟨rfl,λi hi=>absurd hi (q16 _),λi hi=>absurd hi (q16 _),λ_ _ hl=>by cases hl⟩
 |x::xs,y::ys,vs,hr,hv,hx=>by
  cases vs with
  |nil=>simp at hv
  |cons v vs=>
   obtain ⟨⟨h1,h2⟩,h3⟩:=hr;obtain ⟨g1,g2⟩:=Lf h (hx 0 (by simp)) h1;obtain ⟨q1,q2,q3,q4⟩:=sn h xs ys vs h3 (by simpa using hv) (λi hi=>by have:=hx (i+1) (by simpa using hi);exact this);refine ⟨by simp[q1],λi hi=>?_,λi hi=>?_,λl af hl=>?_⟩
   . cases i with
     |zero=>exact h2
     |succ i=>exact q2 i (by simpa using hi)
   . cases i with
     |zero=>exact g1
     |succ i=>exact q3 i (by simpa using hi)
   simp only[aq,List.mem_append] at hl;rcases hl with hl|hl
   . exact g2 l af hl
   exact q4 l af hl
 | [],_::_,_,hr,_,_=>hr.elim
 |_::_,[],_,hr,_,_=>hr.elim
theorem E2 (h:RS B N φ fp S ts m a w){m2:Mem}{x y:AV}{v:Value}(hx:RV w S φ x v)(hr:vU m m2 x y):
 RV w (vV S fp m2) (gM φ m2) y v/\∀l af,(l,af)∈ao y->known m2 l af:=by
 unfold vU at hr;split at hr
 . rename_i xs ys;obtain ⟨cs,rfl,h1,h2,h3⟩:=nc hx;obtain ⟨q1,q2,q3,q4⟩:=sn h xs ys cs.toList hr (by simpa using h1) h3;exact ⟨.agg _ _ (by omega) q2 q3,λl af hl=>q4 l af (by simpa [ao] using hl)⟩
 . rename_i f xs g ys;obtain ⟨rfl,hr⟩:=hr;obtain ⟨cs,rfl,h1,h3⟩:=CD hx;obtain ⟨q1,q2,q3,q4⟩:=xP h xs ys cs.toList hr (by simpa using h1) h3;exact ⟨.cn _ _ _ (by omega) q3,λl af hl=>q4 l af (by simpa [ao] using hl)⟩
 exact xO h hx hr
theorem RS.refine (h:RS B N φ fp S ts m a w){ts2:Env}{m2:Mem}(hr:sj ts m ts2 m2):RS B N (gM φ m2) (xN fp m2) (vV S fp m2) ts2 m2 a w:=by
 obtain ⟨hE,hM,hK⟩:=hr;have keeps:∀l af,bE<=l->known m l af->∃k k2,ah m l=some k/\ah m2 l=some k2/\k.af=k2.af/\af<=k.af/\∀v,k≠ .gone v:=by
  rintro l af hl ⟨k,hk,hv⟩;rcases E1 hK hk with hh|hh
  . exact absurd hh (Nat.not_lt.2 hl)
  rw[hk] at hh;unfold sg at hh;split at hh
  . rename_i h1 h2;cases h1;exact ⟨_,_,hk,h2,hh,hv,λ_ e=>by cases e⟩
  . rename_i h1 h2;cases h1;exact ⟨_,_,hk,h2,hh,hv,λ_ e=>by cases e⟩
  exact hh.elim
 have U6:∀l b,b∈xN fp m2 l->b∈fp l/\∃k,ah m2 l=some k:=by
  intro l b hb;unfold xN at hb;split at hb
  . cases hb
  rename_i k hk;exact ⟨hb,k,hk⟩
 refine ⟨λt=>(E2 h (h.tm t) (xM hE t)).1,λt=>(E2 h (h.tm t) (xM hE t)).2,?_,?_,?_,?_,?_,?_,?_,?_,h.base,h.out,h.ky,?_,?_,h.size,h.defers,h.ly,h.jx.mono (λ_ _=>rfl) λb hb=>.inl hb⟩
 . intro l hl;simp[gM,xN,hl]
 . intro l k hk;have hb:=xL hM hk;have hfp:xN fp m2 l=fp l:=(by simp [xN,hk]);have Q7:(ah m l=none\/∃v,ah m l=some (.gone v))->φ l= .dead/\fp l=[]:=by
    rintro (hl|⟨v,hl⟩)
    . exact h.ca l hl
    exact h.aG l _ hl
   rw[hfp];unfold xK at hb;split at hb
   . rename_i v sh d xs v2 sh2 d2 xs2 hlk;obtain ⟨rfl,rfl,rfl⟩:=hb;rcases h.aG l _ hlk with ⟨h1,h2,h3⟩|⟨b,cap,hφ,hbm,hdp,bc⟩
     . exact .inl ⟨by simp[gM,hk,h1,bf.af],h2,h3⟩
     refine .inr ⟨b,cap,by simp[gM,hk,hφ,bf.af],hbm,hdp,?_⟩;cases d with
     |true=>exact bc
     |false=>exact bc.mono (λ_ _=>rfl) (λ_ h=>.inl h) (λ_ _=>rfl)
   . rename_i v xs v2 ys hlk;obtain ⟨b,cs,e,sh,hφ,hfs,aD,hsz,hlf,hrv⟩:=h.aG l _ hlk;obtain ⟨q1,q2,q3,q4⟩:=sn h xs ys (cs.toList.take xs.length) hb (by simp;omega) (λi hi=>by rw[qR hi];exact hrv i hi);exact ⟨b,cs,e,sh,by simp[gM,hk,hφ,bf.af],hfs,aD,by omega,q2,λi hi=>by have:=q3 i hi;rwa [qR (by omega)] at this⟩
   . rename_i v2 sh2 d2 xs2 hlk;obtain ⟨h1,h2⟩:=Q7 (.inl hlk);exact .inl ⟨by simp[gM,hk,h1,bf.af],hb,h2⟩
   . rename_i v v2 sh2 d2 xs2 hlk;obtain ⟨h1,h2⟩:=Q7 (.inr ⟨v,hlk⟩);exact .inl ⟨by simp[gM,hk,h1,bf.af],hb,h2⟩
   exact hb.elim
 . intro l v xs hk l' af hl;have hb:=xL hM hk;unfold xK at hb;split at hb
   . cases ‹bf.box v xs=_›
   . rename_i v' xs' v2 ys hlk hbx;cases hbx;obtain ⟨b,cs,e,sh,hφ,hfs,aD,hsz,hlf,hrv⟩:=h.aG l _ hlk;exact (sn h xs' xs (cs.toList.take xs'.length) hb (by simp;omega) (λi hi=>by rw[qR hi];exact hrv i hi)).2.2.2 l' af hl
   . cases ‹bf.box v xs=_›
   . cases ‹bf.box v xs=_›
   exact hb.elim
 . intro l;unfold xN;split
   . simp
   exact h.hZ l
 . intro l l' b h1 h2;exact h.fL l l' b (U6 l b h1).1 (U6 l' b h2).1
 . intro l b hb hs;obtain ⟨h1,k,hk⟩:=U6 l b hb;rcases hs with hs|⟨l',hl',_,hb'⟩
   . exact h.bS l b h1 hs
   have:=h.fL l l' b h1 hb';subst this;rw[hk] at hl';cases hl'
 . intro l b hb;exact h.cu l b (U6 l b hb).1
 . intro b hb;rcases hb with hb|⟨l,_,hio,hb⟩
   . exact h.sB b hb
   have:=h.cu l b hb;exact ⟨this.1,.inl (this.2.resolve_right λhh=>Nat.lt_irrefl _ (q15 hio hh.choose_spec.2.1))⟩
 . intro l af hl hk;obtain ⟨k,k2,h1,h2,h3,h4,_⟩:=keeps l af hl (h.kn l af hl hk);exact ⟨k2,h2,h3▸h4⟩
 intro l af hl hk;obtain ⟨k,k2,h1,h2,h3,h4,hng⟩:=keeps l af hl (h.kn l af hl hk);have hle:=h.fix l af hl hk;have hb:=h.aG l k h1;have hx2:gM φ m2 l=match φ l with| .at b sh _=>.at b sh k2.af|_=>.nil k2.af:=by unfold gM;rw[h2]
 have e:gM φ m2 l=φ l:=by
  rw[hx2];cases k with
  |gone v=>exact absurd rfl (hng v)
  |row v sh d xs=>
   rcases hb with ⟨q1,_,_⟩|⟨b,cap,q1,_⟩
   . rw[q1,←h3];rfl
   rw[q1,←h3];rfl
  |box v xs=>
   obtain ⟨b,cs,e,sh,q1,_⟩:=hb;rw[q1,←h3];rfl
  |ke v xs i u=>
   obtain ⟨b,cap,cs,e,fr,q1,_⟩:=hb;rw[q1,←h3];rfl
  |sub v sh xs u=>
   obtain ⟨b,cap,q1,_⟩:=hb;rw[q1,←h3];rfl
 rw[e];exact hle
theorem Ok.mono {c:Code}{Q Q':de}(h:Ok P N c ts m Q)(hq:∀e ts m,Q e ts m->Q' e ts m):Ok P N c ts m Q':=λB φ fp S a w hRS=>
 wp_mono (h B φ fp S a w hRS) λe _ _ ⟨φ',fp',S',ts',m',h1,h2⟩=>⟨φ',fp',S',ts',m',h1,hq e ts' m' h2⟩
theorem Ok.loop {body:Code}{ι:Type}(I:ι->Prop)(σ:ι->Env × Mem)(μ:ι->Nat){Q:de}(x0:ι)(h0:I x0)(hr:sj ts m (σ x0).1 (σ x0).2)
 (step:∀x,I x->Ok P N body (σ x).1 (σ x).2 (zF Q λts' m'=>∃y,I y/\μ y<μ x/\sj ts' m' (σ y).1 (σ y).2)):Ok P N (.loop body) ts m Q:=by
 intro B φ fp S a w hRS;refine wp_loop_ghost (λn a w=>∃x φ fp S,I x/\μ x=n/\RS B N φ fp S (σ x).1 (σ x).2 a w) (μ x0) ⟨x0,_,_,_,h0,rfl,hRS.refine hr⟩ ?_;rintro n a w ⟨x,φ,fp,S,hx,rfl,hRS⟩;refine wp_mono (step x hx B φ fp S a w hRS) λe a' w' hq=>?_;obtain ⟨φ',fp',S',ts',m',h1,h2⟩:=hq;cases e with
 |normal=>
  obtain ⟨y,hy,hlt,Wb⟩:=h2;exact ⟨μ y,hlt,y,_,_,_,hy,rfl,h1.refine Wb⟩
 |_=>exact ⟨φ',fp',S',ts',m',h1,h2⟩
theorem aj.loop {body:Code}{ι:Type}(I:ι->Prop)(σ:ι->Env × Mem)(μ:ι->Nat){Q:de}{q:Pack (Code.loop body,Q)}(x0:ι)(h0:I x0)(hr:sj ts m (σ x0).1 (σ x0).2)(hok:codeOk N body=true)
 (step:∀x,I x->vc P N body (σ x).1 (σ x).2 (zF Q λts' m'=>∃y,I y/\μ y<μ x/\sj ts' m' (σ y).1 (σ y).2)):aj P N (.loop body) ts m Q q:=
 ⟨Ok.loop I σ μ x0 h0 hr λx hx=>cB body _ _ _ hok (step x hx)⟩
theorem aj.upto {body:Code}(n:Nat)(I:nP)(σ:Nat->Env × Mem){Q:de}{q:Pack (Code.loop body,Q)}(h0:I 0)(hr:sj ts m (σ 0).1 (σ 0).2)(hok:codeOk N body=true)
 (step:∀i,i<n->I i->vc P N body (σ i).1 (σ i).2 (zF Q λts' m'=>I (i+1)/\sj ts' m' (σ (i+1)).1 (σ (i+1)).2))
 (stop:I n->vc P N body (σ n).1 (σ n).2 (zF Q λ_ _=>False)):aj P N (.loop body) ts m Q q:=by
 refine ⟨Ok.loop (λi=>i<=n/\I i) σ (λi=>n-i) 0 ⟨Nat.zero_le _,h0⟩ hr λi ⟨hi,hI⟩=>?_⟩;rcases Nat.lt_or_ge i n with h|h
 . refine (cB body _ _ _ hok (step i h hI)).mono λe ts' m' hq=> ?_;cases e with
   |normal=>exact ⟨i+1,⟨h,hq.1⟩,by omega,hq.2⟩
   |_=>exact hq
 have e:i=n:=Nat.le_antisymm hi h;subst e;refine (cB body _ _ _ hok (stop hI)).mono λe ts' m' hq=>?_;cases e with
 |normal=>exact hq.elim
 |_=>exact hq
end
def np (ag:Bool)(n j v:Nat)(b:Option bf)(k:AV->Prop):Prop:=match b with
 |some (.box v' xs)=>v'=v/\(if ag then j+n<=xs.length/\k (.agg ((xs.drop j).take n)) else kf xs[j]? k)
 |_=>False
@[congr] theorem Rl {ag:Bool} {n j v:Nat} {b b':Option bf} {k:AV->Prop} (h:b=b'):np ag n j v b k=np ag n j v b' k:=by rw[h]
theorem vg (n j v:Nat)(xs:lA)(k:AV->Prop):np true n j v (some (.box v xs)) k=(j+n<=xs.length/\k (.agg ((xs.drop j).take n))):=by simp[np]
def oX (ag:Bool)(n:Nat)(p:AV)(m:Mem)(k:AV->Prop):Prop:=match p with
 | .ptr l v i j=>i=0/\np ag n j v (ah m l) k
 |_=>False
@[congr] theorem Sc {ag:Bool} {n:Nat} {p p':AV} {m:Mem} {k:AV->Prop} (h:p=p'):oX ag n p m k=oX ag n p' m k:=by rw[h]
theorem xQ (ag:Bool)(n l v j:Nat)(m:Mem)(k:AV->Prop):oX ag n (.ptr l v 0 j) m k=np ag n j v (ah m l) k:=by simp[oX]
def aP (P:pR)(k:lA->Prop):List ResultVar->Env->Mem->lA->Prop
 | [],_,_,acc=>k acc.reverse
 | .tmp t::r,ts,m,acc=>aP P k r ts m (look ts t::acc)
 | .cell p t::r,ts,m,acc=>ew (aL P t) λti=>oX ti.agg ti.size (look ts p) m λy=>aP P k r ts m (y::acc)
section
variable (P:pR) (k:lA->Prop) (r:List ResultVar) (ts:Env) (m:Mem) (acc:lA)
theorem so:aP P k [] ts m acc=k acc.reverse:=rfl
theorem sq (t:Nat):aP P k (.tmp t::r) ts m acc=aP P k r ts m (look ts t::acc):=rfl
theorem qz (p t:Nat):aP P k (.cell p t::r) ts m acc=ew (aL P t) λti=>oX ti.agg ti.size (look ts p) m λy=>aP P k r ts m (y::acc):=rfl
end
def vi (l v i n:Nat)(used:lN)(b:Option bf)(k:AV->lN->Prop):Prop:=match b with
 |some (.row v' sh deep xs)=>v'=v/\deep=true/\i=0/\(0<sh.sz/\n<=xs.length/\l<bE/\l∉used)/\k (.arr sh (xs.take n)) (l::used)
 |_=>False
@[congr] theorem T6 {l v i n:Nat} {used:lN} {b b':Option bf} {k:AV->lN->Prop} (h:b=b'):vi l v i n used b k=vi l v i n used b' k:=by rw[h]
theorem Bi (l v n:Nat)(used:lN)(sh:Sh)(xs:lA)(k:AV->lN->Prop):
 vi l v 0 n used (some (.row v sh true xs)) k=((0<sh.sz/\n<=xs.length/\l<bE/\l∉used)/\k (.arr sh (xs.take n)) (l::used)):=by simp[vi]
def qA (m:Mem)(used:lN)(x:AV)(k:AV->lN->Prop):Prop:=match x with
 | .val v=>k (.val v) used
 | .e0=>k .e0 used
 | .ref l v i n=>vi l v i n used (ah m l) k
 |_=>False
@[congr] theorem T7 {m:Mem} {used:lN} {x x':AV} {k:AV->lN->Prop} (h:x=x'):qA m used x k=qA m used x' k:=by rw[h]
theorem Bj (m:Mem)(used:lN)(v:Value)(k:AV->lN->Prop):qA m used (.val v) k=k (.val v) used:=rfl
theorem Bk (m:Mem)(used:lN)(l v i n:Nat)(k:AV->lN->Prop):qA m used (.ref l v i n) k=vi l v i n used (ah m l) k:=rfl
def qS (m:Mem)(k:lA->lN->Prop):lN->lA->lA->Prop
 |used,acc,[]=>k acc.reverse used
 |used,acc,x::r=>qA m used x λy used'=>qS m k used' (y::acc) r
theorem xR (m:Mem)(k:lA->lN->Prop)(used:lN)(acc:lA):qS m k used acc []=k acc.reverse used:=rfl
theorem vj (m:Mem)(k:lA->lN->Prop)(used:lN)(acc:lA)(x:AV)(r:lA):qS m k used acc (x::r)=qA m used x λy used'=>qS m k used' (y::acc) r:=rfl
def sr (m:Mem)(used:lN)(x:AV)(k:AV->lN->Prop):Prop:=match x with
 | .agg xs=>qS m (λys u=>k (.agg ys) u) used [] xs
 |x=>qA m used x k
@[congr] theorem T8 {m:Mem} {used:lN} {x x':AV} {k:AV->lN->Prop} (h:x=x'):sr m used x k=sr m used x' k:=by rw[h]
theorem Bl (m:Mem)(used:lN)(xs:lA)(k:AV->lN->Prop):sr m used (.agg xs) k=qS m (λys u=>k (.agg ys) u) used [] xs:=rfl
theorem Bm (m:Mem)(used:lN)(v:Value)(k:AV->lN->Prop):sr m used (.val v) k=k (.val v) used:=rfl
theorem Bo (m:Mem)(used:lN)(l v i n:Nat)(k:AV->lN->Prop):sr m used (.ref l v i n) k=vi l v i n used (ah m l) k:=rfl
def iQ (m:Mem)(k:lA->Prop):lN->lA->lA->Prop
 |_,acc,[]=>k acc.reverse
 |used,acc,x::r=>sr m used x λy used'=>iQ m k used' (y::acc) r
theorem xS (m:Mem)(k:lA->Prop)(used:lN)(acc:lA):iQ m k used acc []=k acc.reverse:=rfl
theorem vm (m:Mem)(k:lA->Prop)(used:lN)(acc:lA)(x:AV)(r:lA):iQ m k used acc (x::r)=sr m used x λy used'=>iQ m k used' (y::acc) r:=rfl
def bG:lA->AV| [x]=>x|xs=>.aX xs
theorem Lg (x:AV):bG [x]=x:=rfl
theorem Lh:bG []= .aX []:=rfl
theorem tC (x y:AV)(r:lA):bG (x::y::r)= .aX (x::y::r):=rfl
def fin (P:pR)(rs:List ResultVar)(post:AV->Prop):de
 | .normal=>λts m=>aP P (λxs=>iQ m (λys=>post (bG ys)) [] [] xs) rs ts m []
 | .ret=>λts m=>aP P (λxs=>iQ m (λys=>post (bG ys)) [] [] xs) rs ts m []
 |_=>λ_ _=>False
theorem Sd (P:pR)(rs:List ResultVar)(post:AV->Prop)(ts:Env)(m:Mem):fin P rs post .ret ts m=aP P (λxs=>iQ m (λys=>post (bG ys)) [] [] xs) rs ts m []:=rfl
def bH:Nat->lA->Env
 |_,[]=>[]
 |i,x::r=>(i,x)::bH (i+1) r
theorem Li (i:Nat):bH i []=[]:=rfl
theorem HG (i:Nat)(x:AV)(r:lA):bH i (x::r)=(i,x)::bH (i+1) r:=rfl
section
variable {P:pR} {B:eC} {N:Nat} {φ:Nat->LS} {fp:nN} {S:nP} {ts:Env} {m:Mem} {a:Act} {w:World}
theorem Bp {t:TypeId}{ti:TI}(ht:aL P t=some ti)(h:RS B N φ fp S ts m a w){p:AV}{v:Value}(hp:RV w S φ p v){k:AV->Prop}(hk:oX ti.agg ti.size p m k):
 ∃ad u y,v= .pointer (some ad)/\(loadVar t ad).run P w= .ok u w/\RV w S φ y u/\(∀l af,(l,af)∈ao y->known m l af)/\k y:=by
 unfold oX at hk;split at hk
 . rename_i l af i j;obtain ⟨rfl,hk⟩:=hk;have hp1:=j0 hp;unfold np at hk;split at hk
   . rename_i v' xs hlk;obtain ⟨rfl,hk⟩:=hk;obtain ⟨b,cs,e,sh,hφ,hfs,aD,hsz,hlf,hr⟩:=h.aG l _ hlk;have hpv:=hp1 b sh hφ;rw [Nat.zero_mul,Nat.zero_add] at hpv;subst hpv;cases hag:ti.agg with
     |true=>
      simp only[hag,if_true] at hk;obtain ⟨hlen,hk⟩:=hk;refine ⟨_,_,.agg ((xs.drop j).take ti.size),rfl,db ht aD j (λ_=>by omega) (λh=>by rw[hag] at h;cases h),?_,?_,hk⟩
      . rw [show ti.sh=⟨ti.size,true⟩ by simp [TI.sh,hag],cV];refine .agg _ _ (by simp;omega) (λi hi=> ?_) λi hi=> ?_
        . simp only[List.length_take,List.length_drop] at hi;simp only[q9,q6];exact hlf _ (by omega)
        simp only[List.length_take,List.length_drop] at hi;simp only[q9,q6];rw[bT _ _ _ _ (by omega)];exact hr (j+i) (by omega)
      intro l' ver' hl';simp only[ao] at hl';obtain ⟨i,hi,hl2⟩:=bM hl';simp only[List.length_take,List.length_drop] at hi;simp only[q9,q6] at hl2;exact h.bl l v' xs hlk l' ver' (bq (by omega) hl2)
     |false=>
      simp only[hag,if_false,Bool.false_eq_true] at hk;cases hj:xs[j]? with
      |none=>rw[hj] at hk;exact hk.elim
      |some y=>
       rw[hj] at hk;obtain ⟨hj1,hj2⟩:=List.getElem?_eq_some_iff.1 hj;refine ⟨_,_,y,rfl,db ht aD j (λh=>by rw[hag] at h;cases h) (λ_=>by omega),?_,?_,hk⟩
       . rw [show ti.sh=⟨ti.size,false⟩ by simp [TI.sh,hag],bd];have:=hr j hj1
         rwa [hj2] at this
       intro l' ver' hl';exact h.bl l v' xs hlk l' ver' (bq hj1 (by rw[hj2];exact hl'))
   exact hk.elim
 exact hk.elim
def cW (tmps:aV):ResultVar->Sem Value
 | .tmp t=>pure (tmps.getD t uD)
 | .cell p t=>do loadVar t (←asAddr (tmps.getD p uD))
theorem lK (h:RS B N φ fp S ts m a w){Q:lA->Prop}:∀(rs:List ResultVar) (acc:lA) (va:lV),pL (RV w S φ) acc.reverse va->aP P Q rs ts m acc→
 ∃xs vs,Q xs/\(rs.mapM (cW a.tmps)).run P w= .ok vs w/\pL (RV w S φ) xs (va++vs)/\vs.length=rs.length
 | [],acc,va,ha,hk=>⟨_,[],hk,by simp,by simpa using ha,rfl⟩
 | .tmp t::r,acc,va,ha,hk=>by
   obtain ⟨xs,vs,h1,h2,h3,h4⟩:=lK h r (look ts t::acc) (va++[a.tmps.getD t uD]) (by rw[q13];exact ha.snoc (h.tm t)) hk;refine ⟨xs,a.tmps.getD t uD::vs,h1,?_,by simpa using h3,by simp[h4]⟩;rw[List.mapM_cons];simp only[cW,Sem.run_bind,Sem.run_pure,Result.andThen_ok,h2]
 | .cell p t::r,acc,va,ha,hk=>by obtain ⟨ti,ht,hk⟩:=bF hk;obtain ⟨ad,u,y,hv,hr,hy,_,hk⟩:=Bp ht h (h.tm p) hk;obtain ⟨xs,vs,h1,h2,h3,h4⟩:=lK h r (y::acc) (va++[u]) (by rw[q13];exact ha.snoc hy) hk;refine ⟨xs,u::vs,h1,?_,by simpa using h3,by simp[h4]⟩;rw[List.mapM_cons];simp only[cW,hv,asAddr,Sem.run_bind,Sem.run_pure,Result.andThen_ok,hr,h2]
structure lM (fp:Nat->lN) (used used':lN) (fs:lN):Prop where
 hZ:fs.Nodup
 mem:∀b,b∈fs->∃l,l∈used'/\b∈fp l
 fL:∀b,b∈fs->∀l,l∈used->b∉fp l
 sub:∀l,l∈used->l∈used'
 lo:∀l,l∈used'->l∈used\/l<bE
theorem lM.nil (used:lN):lM fp used used []:=⟨q12,λ_ h=>(by cases h),λ_ h=>(by cases h),λ_ h=>h,λ_ h=>.inl h⟩
theorem lM.app {u1 u2 u3 fs gs:lN}(h:lM fp u1 u2 fs)(g:lM fp u2 u3 gs):lM fp u1 u3 (fs++gs):=by
 refine ⟨List.nodup_append.2 ⟨h.hZ,g.hZ,?_⟩,?_,?_,λl hl=>g.sub l (h.sub l hl),?_⟩
 . rintro b hb c hc rfl;obtain ⟨l,hl,hbl⟩:=h.mem b hb;exact g.fL b hc l hl hbl
 . intro b hb;rcases List.mem_append.1 hb with hb|hb
   . obtain ⟨l,hl,hbl⟩:=h.mem b hb;exact ⟨l,g.sub l hl,hbl⟩
   exact g.mem b hb
 . intro b hb l hl;rcases List.mem_append.1 hb with hb|hb
   . exact h.fL b hb l hl
   exact g.fL b hb l (h.sub l hl)
 intro l hl;rcases g.lo l hl with hl|hl
 . exact h.lo l hl
 exact .inr hl
theorem E3 (h:RS B N φ fp S ts m a w){used:lN}{x:AV}{v:Value}(hx:RV w S φ x v){k:AV->lN->Prop}(hk:qA m used x k):
 ∃y used' fs,k y used'/\leaf y/\Own w (λ_=>False) y v fs/\lM fp used used' fs:=by
 unfold qA at hk;split at hk
 . rename_i u;have:=aS hx;obtain ⟨rfl,hu⟩:=this;exact ⟨_,_,[],hk,trivial,.rd _ _ (.val _ hu),lM.nil used⟩
 . cases hx with
   |rd _ _ hr=>cases hr with
    |e0 ad=>exact ⟨_,_,[],hk,trivial,.rd _ _ (.e0 ad),lM.nil used⟩
 . rename_i l af i n;obtain ⟨r1,r2⟩:=dt hx;unfold vi at hk;split at hk
   . rename_i v' sh deep xs hlk;obtain ⟨rfl,rfl,rfl,⟨h0,hn,hio,hnu⟩,hk⟩:=hk;have ju:n=0->(∃ad,v= .slice ad 0 0)->∃y used' fs,k y used'/\leaf y/\Own w (λ_=>False) y v fs/\lM fp used used' fs:=by
      rintro rfl ⟨ad,rfl⟩
      exact ⟨_,_,[],hk,trivial,by rw [List.take_zero];exact .rd _ _ (.nil sh ad),q12,λ_ hh=>(by cases hh),λ_ hh=>(by cases hh),λ_ hh=>List.mem_cons_of_mem _ hh,λl' hl'=>by
       rcases List.mem_cons.1 hl' with rfl|hl'
       . exact .inr hio
       exact .inl hl'⟩
     rcases h.aG l _ hlk with ⟨hφ,hxs,_⟩|⟨b,cap,hφ,hbm,_,bc⟩
     . exact ju (r2 hφ).1 (r2 hφ).2
     obtain ⟨ad,cap',rfl,b_,hc⟩:=r1 b sh hφ;rcases hc with rfl|⟨rfl,cs',e',hh',hs'⟩
     . have:n=0:=(by omega);subst this;exact ju rfl ⟨_,rfl⟩
     simp only[if_true] at bc;obtain ⟨gs,g1,g2,cs,e,g3,g4⟩:=Em bc hbm n hn;rw[g3] at hh';injection hh' with hh';injection hh' with e1
     subst e1;rw[g4,Nat.zero_add] at hs';have:cap=cap':=Nat.eq_of_mul_eq_mul_right h0 hs';subst this;refine ⟨_,_,gs,hk,trivial,by simpa using g1,g2.nodup (h.hZ l),λc hc=>⟨l,List.mem_cons_self ..,g2.subset hc⟩,λc hc l' hl' hcl=>?_,λ_ hh=>List.mem_cons_of_mem _ hh,λl' hl'=>?_⟩
     . have:=h.fL l l' c (g2.subset hc) hcl;subst this;exact hnu hl'
     rcases List.mem_cons.1 hl' with rfl|hl'
     . exact .inr hio
     exact .inl hl'
   exact hk.elim
 exact hk.elim
theorem xT {one:lN->AV->(AV->lN->Prop)->Prop}{ok:AV->Prop}
 (lC:∀(used:lN)(x:AV)(v:Value)(k:AV->lN->Prop),RV w S φ x v->one used x k->∃y used' fs,k y used'/\ok y/\Own w (λ_=>False) y v fs/\lM fp used used' fs)
 {Q:lA->lN->Prop} {many:lN->lA->lA->Prop} (ju:∀used acc,many used acc []->Q acc.reverse used) (G9:∀used acc x r,many used acc (x::r)->one used x λy used'=>many used' (y::acc) r):
 ∀(xs:lA) (vs:lV) (used:lN) (acc:lA),vs.length=xs.length->(∀i (h:i<xs.length),RV w S φ xs[i] (vs.getD i uD))->many used acc xs→
  ∃(ys:lA) (used':lN) (fss:List lN),Q (acc.reverse++ys) used'/\ys.length=xs.length/\fss.length=ys.length/\(∀i (h:i<ys.length),ok ys[i]/\Own w (λ_=>False) ys[i] (vs.getD i uD) (fss.getD i []))/\lM fp used used' fss.flatten
 | [],vs,used,acc,hv,_,hk=>⟨[],used,[],by simpa using ju _ _ hk,rfl,rfl,λi hi=>absurd hi (q16 _),lM.nil used⟩
 |x::xs,vs,used,acc,hv,hr,hk=>by
  cases vs with
  |nil=>simp at hv
  |cons v vs=>
   obtain ⟨y,used1,fs,h1,h2,h3,h4⟩:=lC used x v _ (hr 0 (by simp)) (G9 _ _ _ _ hk);obtain ⟨ys,used2,fss,g1,g2,g3,g4,g5⟩:=xT lC ju G9 xs vs used1 (y::acc) (by simpa using hv) (λi hi=>by have:=hr (i+1) (by simpa using hi);exact this) h1;refine ⟨y::ys,used2,fs::fss,by simpa using g1,by simp[g2],by simp[g3],λi hi=>?_,?_⟩
   . cases i with
     |zero=>exact ⟨h2,h3⟩
     |succ i=>exact g4 i (by simpa using hi)
   rw[List.flatten_cons];exact h4.app g5
theorem OA (h:RS B N φ fp S ts m a w){used:lN}{x:AV}{v:Value}(hx:RV w S φ x v){k:AV->lN->Prop}(hk:sr m used x k):
 ∃y used' fs,k y used'/\True/\Own w (λ_=>False) y v fs/\lM fp used used' fs:=by
 cases x with
 |agg xs=>
  obtain ⟨cs,rfl,h1,h2,h3⟩:=nc hx
  obtain ⟨ys,used',fss,g1,g2,g3,g4,g5⟩:=xT (one:=λused x k=>qA m used x k) (ok:=leaf) (Q:=λys u=>k (.agg ys) u) (many:=λused acc xs=>qS m (λys u=>k (.agg ys) u) used acc xs)
   (λused x v k hx hk=>E3 h hx hk) (λ_ _ h=>h) (λ_ _ _ _ h=>h) xs cs.toList used [] (by simpa using h1) h3 hk
  exact ⟨.agg ys,used',fss.flatten,by simpa using g1,trivial,.agg ys cs fss (h1.trans g2.symm) (λi hi=>(g4 i hi).1) g3 (λi hi=>(g4 i hi).2),g5⟩
 |_=>
  obtain ⟨y,used',fs,g1,_,g3,g4⟩:=E3 h hx hk;exact ⟨y,used',fs,g1,trivial,g3,g4⟩
theorem Bq (h:RS B N φ fp S ts m a w){xs:lA}{vs:lV}(hl:vs.length=xs.length)(hx:∀i (h:i<xs.length),RV w S φ xs[i] (vs.getD i uD)){k:lA->Prop}(hk:iQ m k [] [] xs):
 ∃(ys:lA) (fss:List lN),k ys/\ys.length=xs.length/\fss.length=ys.length/\(∀i (h:i<ys.length),Own w (λ_=>False) ys[i] (vs.getD i uD) (fss.getD i []))/\fss.flatten.Nodup/\∀b,b∈fss.flatten->∃l,l<bE/\b∈fp l:=by
 obtain ⟨ys,used',fss,g1,g2,g3,g4,g5⟩:=xT (one:=λused x k=>sr m used x k) (ok:=λ_=>True) (Q:=λys _=>k ys) (many:=λused acc xs=>iQ m k used acc xs)
  (λused x v k hx hk=>OA h hx hk) (λ_ _ h=>h) (λ_ _ _ _ h=>h) xs vs [] [] hl hx hk
 refine ⟨ys,fss,by simpa using g1,g2,g3,λi hi=>(g4 i hi).2,g5.hZ,λb hb=>?_⟩;obtain ⟨l,hl,hbl⟩:=g5.mem b hb;rcases g5.lo l hl with hh|hh
 . cases hh
 exact ⟨l,hh,hbl⟩
theorem Bt {ys:lA}{vs:lV}{fss:List lN}(hl:vs.length=ys.length)(hf:fss.length=ys.length)(hv:∀i (h:i<ys.length),Own w (λ_=>False) ys[i] (vs.getD i uD) (fss.getD i [])):
 Own w (λ_=>False) (bG ys) (if h:vs.toArray.size=1 then vs.toArray[0] else .tuple vs.toArray) fss.flatten:=by
 match ys,vs,fss,hl,hf,hv with
 | [],[],[],_,_,_=>exact .rd _ _ (.aX [] #[] rfl λi hi=>absurd hi (q16 _))
 | [y],[v],[f],_,_,hv=>simpa [bG] using hv 0 (by simp)
 |y::y'::r,v::v'::r',f::f'::r'',hl,hf,hv=>
  have:¬((v::v'::r').toArray.size=1):=by simp
  rw[dif_neg this];exact .aX _ _ _ (by simpa using hl) hf (by simpa using hv)
theorem bI:∀(xs:lA) (i t:Nat),look (bH i xs) t=if i<=t then (xs[t-i]?).getD .undef else .undef
 | [],i,t=>by simp[bH,look]
 |x::r,i,t=>by
  rw[bH,cN,bI r (i+1) t];by_cases h:i=t
  . subst h;simp
  by_cases h2:i<=t
  . have h3:i+1<=t:=(by omega);rw[if_neg h,if_pos h3,if_pos h2,show t-i=(t-(i+1))+1 by omega,List.getElem?_cons_succ]
  rw[if_neg h,if_neg (by omega),if_neg h2]
theorem Fn.nq {P:pR} {f:fI} {fn:Func} {c:Code} {args:List AV} {post:AV→Prop} (hf:P.funcs[f]? =some fn) (hn:(fn.name== "runtime.NumGoroutine")=false) (hb:fn.body=some c)
 (hok:codeOk fn.ntmps c=true) (ha:args.length<=fn.ntmps) (hv:vc P fn.ntmps c (bH 0 args) [] (fin P fn.results.toList post)):Fn P f args true post:=by
 refine ⟨⟨fn,c,hf,hn,hb⟩,λw S vs hS zv hsz hrd=> ?_⟩;refine calls_of_wp hf hb ?_;have hRS:RS ⟨w,λ_ _=>False,λ_=>True,λ_=>.dead,[]⟩ fn.ntmps (λ_=>.dead) (λ_=>[]) (λb=>b<w.heap.size) (bH 0 args) [] {tmps:=vs++Array.replicate (fn.ntmps-vs.size) undef,defers:=[]} w:=by
  have hx:∀i (h:i<args.length),Rd w (λb=>b<w.heap.size) args[i] (vs.toList.getD i uD):=λi h=>(hrd i h).mono (λ_ _=>rfl) hS;have l7:∀t,(look (bH 0 args) t= .undef\/∃h:t<args.length,look (bH 0 args) t=args[t]):=by
   intro t;rw[bI];by_cases h:t<args.length
   . exact .inr ⟨h,by simp[h]⟩
   exact .inl (by simp[h])
  refine {tm:=λt=> ?_,tl:=λt l af hl=> ?_,ca:=λ_ _=>⟨rfl,rfl⟩,aG:=λl k hk=>(by cases hk),bl:=λl v xs hk=>(by cases hk),hZ:=λ_=>q12,
          fL:=λ_ _ _ h=>(by cases h),bS:=λ_ _ h=>(by cases h),cu:=λ_ _ h=>(by cases h),sB:=λb hb=>⟨hb,.inr trivial⟩,base:=λb hb _=>rfl,out:=a7.refl _,ky:=jI.refl _,kn:=λ_ _ _ hk=>hk,fix:=λ_ _ _ _=>LS.le_refl _ _,
          size:=Nat.le_refl _,defers:=rfl,ly:=by simp;omega,jx:=zv.mono (λ_ _=>rfl) hS}
  . rcases l7 t with e|⟨h,e⟩
    . rw[e];exact .rd _ _ (.undef _)
    rw[e];have h1:=hx t h;have:vs.toList.getD t uD=(vs++Array.replicate (fn.ntmps-vs.size) undef).getD t uD:=by have h2:t<vs.size:=(by omega);simp only[q0,q4,q2];rw[Array.getElem?_append_left h2]
    rw[←this];exact .rd _ _ h1
  rcases l7 t with e|⟨h,e⟩
  . rw[e] at hl;cases hl
  rw[e,fY (hx t h)] at hl;cases hl
 have fW:∀a' w',ia ⟨w,λ_ _=>False,λ_=>True,λ_=>.dead,[]⟩ fn.ntmps (λts m=>aP P (λxs=>iQ m (λys=>post (bG ys)) [] [] xs) fn.results.toList ts m []) a' w'→
  a'.defers=[]/\∃v,(results fn a'.tmps).run P w'= .ok v w'/\∃r v',Ending.returned v= .returned v'/\post r/\Grown w w'/\iN w w' S true r v':=by
  rintro a' w' ⟨φ',fp',S',ts',m',h',hk⟩;refine ⟨h'.defers,?_⟩;obtain ⟨xs,us,h1,h2,h3,_⟩:=lK h' fn.results.toList [] [] ⟨rfl,λi hi=>absurd hi (q16 _)⟩ hk;obtain ⟨h3a,h3b⟩:=h3;simp only[q11] at h3a h3b;obtain ⟨ys,fss,g1,g2,g3,g4,g5,g6⟩:=Bq h' h3a h3b h1;refine ⟨if h:us.toArray.size=1 then us.toArray[0] else .tuple us.toArray,?_,bG ys,_,rfl,g1,⟨h'.size,λb hb=>h'.base b hb (λ_ h=>h),h'.out⟩,?_⟩
  . have hm:results fn a'.tmps=(do let vs ←fn.results.mapM (cW a'.tmps);pure (if h:vs.size=1 then vs[0] else .tuple vs)):=by
     unfold results;congr 1
    rw[hm,Sem.run_bind,Array.mapM_eq_mapM_toList];have:(List.toArray <$> fn.results.toList.mapM (cW a'.tmps):Sem aV).run P w'= .ok us.toArray w':=by rw[map_eq_pure_bind,Sem.run_bind,h2];rfl
    rw[this];rfl
  refine ⟨fss.flatten,Bt (h3a.trans g2.symm) g3 g4,g5,λb hb=>?_⟩;obtain ⟨l,hl,hbl⟩:=g6 b hb;rcases (h'.cu l b hbl).2 with hh|⟨_,hh,_⟩
  . exact hh
  exact hh.elim
 refine wp_mono (cB c _ _ _ hok hv _ _ _ _ _ _ hRS) ?_;intro e a' w' hq;cases e with
 |normal=>exact fW a' w' hq
 |ret=>exact fW a' w' hq
 |_=>obtain ⟨_,_,_,_,_,_,hh⟩:=hq;exact hh.elim
theorem Fn.cT {P:pR} {f:fI} {fn:Func} {c:Code} {args:List AV} {post:AV→Prop} (N:Nat) (rs:List ResultVar) (hf:P.funcs[f]? =some fn) (hN:fn.ntmps=N:=by exact rfl) (hr:fn.results.toList=rs:=by exact rfl) (hn:(fn.name== "runtime.NumGoroutine")=false:=by exact rfl)
 (hb:fn.body=some c:=by exact rfl) (hok:codeOk N c=true:=by exact rfl) (ha:args.length<=N:=by exact oT rfl) (hv:vc P N c (bH 0 args) [] (fin P rs post)):Fn P f args true post:=by
 subst hN;subst hr;exact Fn.nq hf hn hb hok ha hv
def mj:Nat->List bf->Mem
 |_,[]=>[]
 |k,b::r=>(bE+k,b)::mj (k+1) r
theorem Se (k:Nat):mj k []=[]:=rfl
theorem OB (k:Nat)(b:bf)(r:List bf):mj k (b::r)=(1000000000+k,b)::mj (k+1) r:=rfl
theorem mF:∀(io:List bf) (k l:Nat),ah (mj k io) l=if bE+k<=l then io[l-(bE+k)]? else none
 | [],k,l=>by simp[mj,ah]
 |b::r,k,l=>by
  rw[mj,aw,mF r (k+1) l];by_cases h:bE+k=l
  . subst h;simp
  by_cases h2:bE+k<=l
  . rw[if_neg h,if_pos (by omega),if_pos h2,show l-(bE+k)=(l-(bE+(k+1)))+1 by omega,List.getElem?_cons_succ]
  rw[if_neg h,if_neg (by omega),if_neg h2]
def f_:bf->Prop
 | .box _ xs=>aq xs=[]
 | .row _ _ _ _=>True
 | .gone _=>False
 | .ke _ _ _ _=>False
 | .sub _ _ _ _=>False
def Lj (io io':List bf)(m:Mem):Prop:=io'.length=io.length/\∀k (h:k<io'.length) (h':k<io.length),ah m (bE+k)=some io'[k]/\io'[k].af=io[k].af/\f_ io'[k]
def HH (w:World)(φ:Nat->LS)(fp:nN)(S:nP)(io:List bf):eC:=⟨w,λl b=>b∈fp l,S,φ,mj 0 io⟩
def oD (P:pR)(f:fI)(io:List bf)(args:lA)(post:AV->List bf->Prop):Prop:=
 Enters P f/\∀(w:World) (φ:Nat->LS) (fp:nN) (S:nP) (vs:aV),vs.size=args.length→
  RS (HH w φ fp S io) vs.size φ fp S (bH 0 args) (mj 0 io) {tmps:=vs,defers:=[]} w→
  Calls P f vs w λe w'=>∃r v io' φ' fp' S' m',e= .returned v/\post r io'/\RS (HH w φ fp S io) 0 φ' fp' S' [] m' {tmps:= #[],defers:=[]} w'/\Lj io io' m'∧
   ∃fs,Own w' (λ_=>False) r v fs/\fs.Nodup/\∀b,b∈fs->w.heap.size<=b/\¬S' b/\∀l,bE<=l->b∉fp' l
def zG (v:Nat)(b:Option bf)(k:bf->Prop):Prop:=match b with
 |some (.row v' sh d xs)=>v'=v/\k (.row v' sh d xs)
 |some (.box v' xs)=>v'=v/\aq xs=[]/\k (.box v' xs)
 |_=>False
@[congr] theorem Ve {v:Nat} {b b':Option bf} {k:bf->Prop} (h:b=b'):zG v b k=zG v b' k:=by rw[h]
theorem E4 (v:Nat)(sh:Sh)(d:Bool)(xs:lA)(k:bf->Prop):zG v (some (.row v sh d xs)) k=k (.row v sh d xs):=by simp[zG]
theorem E5 (v:Nat)(xs:lA)(k:bf->Prop):zG v (some (.box v xs)) k=(aq xs=[]/\k (.box v xs)):=by simp[zG]
def qT (m:Mem)(k:List bf->Prop):Nat->lN->List bf->Prop
 |_,[],acc=>k acc.reverse
 |i,v::r,acc=>zG v (ah m (bE+i)) λb=>qT m k (i+1) r (b::acc)
theorem E6 (m:Mem)(k:List bf->Prop)(i:Nat)(acc:List bf):qT m k i [] acc=k acc.reverse:=rfl
theorem Bu (m:Mem)(k:List bf->Prop)(i v:Nat)(r:lN)(acc:List bf):qT m k i (v::r) acc=zG v (ah m (1000000000+i)) λb=>qT m k (i+1) r (b::acc):=rfl
theorem CS {m:Mem}{k:List bf->Prop}:∀(vers:lN) (i:Nat) (acc:List bf),qT m k i vers acc->∃io',k (acc.reverse++io')/\io'.length=vers.length∧
 ∀j (h:j<io'.length) (h':j<vers.length),ah m (bE+(i+j))=some io'[j]/\io'[j].af=vers[j]/\f_ io'[j]
 | [],i,acc,hk=>by
   have hk1:k acc.reverse:=hk;exact ⟨[],by simpa using hk1,rfl,λj h=>absurd h (q16 _)⟩
 |v::r,i,acc,hk0=>by
  have hk1:zG v (ah m (bE+i)) λb=>qT m k (i+1) r (b::acc):=hk0;clear hk0
  have main:∀b,ah m (bE+i)=some b->b.af=v->f_ b->qT m k (i+1) r (b::acc)->∃io',k (acc.reverse++io')/\io'.length=(v::r).length∧
   ∀j (h:j<io'.length) (h':j<(v::r).length),ah m (bE+(i+j))=some io'[j]/\io'[j].af=(v::r)[j]/\f_ io'[j]:=by
   intro b hb hv hf hk;obtain ⟨io',h1,h2,h3⟩:=CS r (i+1) (b::acc) hk;refine ⟨b::io',by simpa using h1,by simp[h2],λj hj hj'=>?_⟩;cases j with
   |zero=>exact ⟨hb,hv,hf⟩
   |succ j=>
    have:=h3 j (by simpa using hj) (by simpa using hj');rw[show i+1+j=i+(j+1) by omega] at this;exact this
  unfold zG at hk1;split at hk1
  . rename_i hb;exact main _ hb hk1.1 trivial hk1.2
  . rename_i hb;exact main _ hb hk1.1 hk1.2.1 hk1.2.2
  exact hk1.elim
def Sf (P:pR)(rs:List ResultVar)(vers:lN)(post:AV->List bf->Prop):de
 | .normal=>λts m=>aP P (λxs=>iQ m (λys=>qT m (λio'=>post (bG ys) io') 0 vers []) [] [] xs) rs ts m []
 | .ret=>λts m=>aP P (λxs=>iQ m (λys=>qT m (λio'=>post (bG ys) io') 0 vers []) [] [] xs) rs ts m []
 |_=>λ_ _=>False
theorem OC (P:pR)(rs:List ResultVar)(vers:lN)(post:AV->List bf->Prop)(ts:Env)(m:Mem):
 Sf P rs vers post .ret ts m=aP P (λxs=>iQ m (λys=>qT m (λio'=>post (bG ys) io') 0 vers []) [] [] xs) rs ts m []:=rfl
theorem oD.nq {P:pR} {f:fI} {fn:Func} {c:Code} {io:List bf} {args:List AV} {post:AV→List bf→Prop} (hf:P.funcs[f]? =some fn) (hn:(fn.name== "runtime.NumGoroutine")=false) (hb:fn.body=some c)
 (hok:codeOk fn.ntmps c=true) (ha:args.length<=fn.ntmps) (hv:vc P fn.ntmps c (bH 0 args) (mj 0 io) (Sf P fn.results.toList (io.map bf.af) post)):oD P f io args post:=by
 refine ⟨⟨fn,c,hf,hn,hb⟩,λw φ fp S vs hsz hR0=> ?_⟩;refine calls_of_wp hf hb ?_;have hRS:RS (HH w φ fp S io) fn.ntmps φ fp S (bH 0 args) (mj 0 io) {tmps:=vs++Array.replicate (fn.ntmps-vs.size) undef,defers:=[]} w:=by
  refine {hR0 with tm:=λt=>?_,defers:=rfl,ly:=by simp;omega};by_cases h:t<args.length
  . have h1:=hR0.tm t;have:vs.getD t uD=(vs++Array.replicate (fn.ntmps-vs.size) undef).getD t uD:=by
     have h2:t<vs.size:=(by omega);simp only[q0];rw[Array.getElem?_append_left h2]
    rw[←this];exact h1
  rw[bI];have:(if 0<=t then (args[t-0]?).getD AV.undef else .undef)= .undef:=by simp[List.getElem?_eq_none (show args.length<=t by omega)]
  rw[this];exact .rd _ _ (.undef _)
 have fW:∀a' w',ia (HH w φ fp S io) fn.ntmps (λts m=>aP P (λxs=>iQ m (λys=>qT m (λio'=>post (bG ys) io') 0 (io.map bf.af) []) [] [] xs) fn.results.toList ts m []) a' w'→
  a'.defers=[]/\∃v,(results fn a'.tmps).run P w'= .ok v w'/\∃r v' io' φ' fp' S' m',Ending.returned v= .returned v'/\post r io'/\RS (HH w φ fp S io) 0 φ' fp' S' [] m' {tmps:= #[],defers:=[]} w'/\Lj io io' m'∧
   ∃fs,Own w' (λ_=>False) r v' fs/\fs.Nodup/\∀b,b∈fs->w.heap.size<=b/\¬S' b/\∀l,bE<=l->b∉fp' l:=by
  rintro a' w' ⟨φ',fp',S',ts',m',h',hk⟩;refine ⟨h'.defers,?_⟩;obtain ⟨xs,us,h1,h2,h3,_⟩:=lK h' fn.results.toList [] [] ⟨rfl,λi hi=>absurd hi (q16 _)⟩ hk;obtain ⟨h3a,h3b⟩:=h3;simp only[q11] at h3a h3b;obtain ⟨ys,fss,g1,g2,g3,g4,g5,g6⟩:=Bq h' h3a h3b h1;obtain ⟨io',q1,q2,q3⟩:=CS _ _ _ g1;rw[List.reverse_nil,q11] at q1;refine ⟨if h:us.toArray.size=1 then us.toArray[0] else .tuple us.toArray,?_,bG ys,_,io',φ',fp',S',m',rfl,q1,?_,⟨by simpa using q2,λk hk hk'=>?_⟩,fss.flatten,Bt (h3a.trans g2.symm) g3 g4,g5,λb hb=>?_⟩
  . have hm:results fn a'.tmps=(do let vs ←fn.results.mapM (cW a'.tmps);pure (if h:vs.size=1 then vs[0] else .tuple vs)):=by
     unfold results;congr 1
    rw[hm,Sem.run_bind,Array.mapM_eq_mapM_toList];have:(List.toArray <$> fn.results.toList.mapM (cW a'.tmps):Sem aV).run P w'= .ok us.toArray w':=by rw[map_eq_pure_bind,Sem.run_bind,h2];rfl
    rw[this];rfl
  . exact {h' with tm:=λt=>by rw[look_nil];exact .rd _ _ (.undef _),tl:=λt l af hl=>(by rw[look_nil] at hl;cases hl),defers:=rfl,ly:=rfl}
  . have:=q3 k hk (by simpa using hk');rw[Nat.zero_add] at this;refine ⟨this.1,?_,this.2.2⟩;rw[this.2.1,q7]
  obtain ⟨l,hl,hbl⟩:=g6 b hb;refine ⟨?_,h'.bS l b hbl,λl' hl' hb'=>?_⟩
  . rcases (h'.cu l b hbl).2 with hh|⟨_,_,hh,_⟩
    . exact hh
    exact absurd hl (Nat.not_lt.2 hh)
  have:=h'.fL l l' b hbl hb';subst this;exact absurd hl (Nat.not_lt.2 hl')
 refine wp_mono (cB c _ _ _ hok hv _ _ _ _ _ _ hRS) ?_;intro e a' w' hq;cases e with
 |normal=>exact fW a' w' hq
 |ret=>exact fW a' w' hq
 |_=>obtain ⟨_,_,_,_,_,_,hh⟩:=hq;exact hh.elim
theorem oD.cT {P:pR}{f:fI}{fn:Func}{c:Code}{io:List bf}{args:lA}{post:AV->List bf->Prop}(N:Nat)(rs:List ResultVar)(hf:P.funcs[f]? =some fn)(hN:fn.ntmps=N:=by exact rfl)(hr:fn.results.toList=rs:=by exact rfl)
 (hn:(fn.name== "runtime.NumGoroutine")=false:=by exact rfl) (hb:fn.body=some c:=by exact rfl) (hok:codeOk N c=true:=by exact rfl) (ha:args.length≤N:=by exact oT rfl) (hv:vc P N c (bH 0 args) (mj 0 io) (Sf P rs (io.map bf.af) post)):oD P f io args post:=by
 subst hN;subst hr;exact oD.nq hf hn hb hok ha hv
theorem oD.mono {P:pR}{f:fI}{io:List bf}{args:lA}{post post':AV->List bf->Prop}(h:oD P f io args post)(hp:∀r io',post r io'->post' r io'):oD P f io args post':=
 ⟨h.1,λw φ fp S vs h1 h2=>(h.2 w φ fp S vs h1 h2).mono λ_ _ ⟨r,v,io',φ',fp',S',m',g1,g2,g3⟩=>⟨r,v,io',φ',fp',S',m',g1,hp _ _ g2,g3⟩⟩
def vW (l:Nat)(k:nP):Nat->lN->Prop
 |_,[]=>False
 |j,l0::r=>if l0=l then k j else vW l k (j+1) r
theorem kB (l:Nat)(k:nP)(j l0:Nat)(r:lN):vW l k j (l0::r)=if l0=l then k j else vW l k (j+1) r:=rfl
def zH (ρ:lN)(x:AV)(k:AV->Prop):Prop:=match x with
 | .ref l v i n=>vW l (λj=>k (.ref (1000000000+j) v i n)) 0 ρ
 | .ptr l v i n=>vW l (λj=>k (.ptr (1000000000+j) v i n)) 0 ρ
 | .val v=>k (.val v)
 | .e0=>k .e0
 | .arr sh xs=>k (.arr sh xs)
 | .bo sh xs i j=>k (.bo sh xs i j)
 |_=>False
@[congr] theorem Vf {ρ:lN} {x x':AV} {k:AV->Prop} (h:x=x'):zH ρ x k=zH ρ x' k:=by rw[h]
theorem E7 (ρ:lN)(v:Value)(k:AV->Prop):zH ρ (.val v) k=k (.val v):=rfl
def qB (ρ:lN)(k:lA->Prop):lA->lA->Prop
 |acc,[]=>k acc.reverse
 |acc,x::r=>zH ρ x λy=>qB ρ k (y::acc) r
theorem Bv (ρ:lN)(k:lA->Prop)(acc:lA):qB ρ k acc []=k acc.reverse:=rfl
theorem xU (ρ:lN)(k:lA->Prop)(acc:lA)(x:AV)(r:lA):qB ρ k acc (x::r)=zH ρ x λy=>qB ρ k (y::acc) r:=rfl
def mG (ρ:lN)(x:AV)(k:AV->Prop):Prop:=match x with
 | .agg xs=>qB ρ (λys=>k (.agg ys)) [] xs
 |x=>zH ρ x k
@[congr] theorem T9 {ρ:lN} {x x':AV} {k:AV->Prop} (h:x=x'):mG ρ x k=mG ρ x' k:=by rw[h]
theorem Bw (ρ:lN)(xs:lA)(k:AV->Prop):mG ρ (.agg xs) k=qB ρ (λys=>k (.agg ys)) [] xs:=rfl
theorem Bx (ρ:lN)(l v i n:Nat)(k:AV->Prop):mG ρ (.ref l v i n) k=vW l (λj=>k (.ref (1000000000+j) v i n)) 0 ρ:=rfl
theorem By (ρ:lN)(l v i n:Nat)(k:AV->Prop):mG ρ (.ptr l v i n) k=vW l (λj=>k (.ptr (1000000000+j) v i n)) 0 ρ:=rfl
theorem Bz (ρ:lN)(v:Value)(k:AV->Prop):mG ρ (.val v) k=k (.val v):=rfl
theorem BA (ρ:lN)(sh:Sh)(xs:lA)(k:AV->Prop):mG ρ (.arr sh xs) k=k (.arr sh xs):=rfl
def og (ρ:lN)(k:lA->Prop):lA->lA->Prop
 |acc,[]=>k acc.reverse
 |acc,x::r=>mG ρ x λy=>og ρ k (y::acc) r
theorem BB (ρ:lN)(k:lA->Prop)(acc:lA):og ρ k acc []=k acc.reverse:=rfl
theorem xV (ρ:lN)(k:lA->Prop)(acc:lA)(x:AV)(r:lA):og ρ k acc (x::r)=mG ρ x λy=>og ρ k (y::acc) r:=rfl
def xW (l:Nat):lN->Prop
 | []=>True
 |x::r=>l≠x/\xW l r
theorem Lk (l:Nat):xW l []=True:=rfl
theorem HI (l x:Nat)(r:lN):xW l (x::r)=(l≠x/\xW l r):=rfl
theorem BC {l:Nat}:∀{r:lN},xW l r->l∉r
 | [],_,h=>by cases h
 |_::_,h,hm=>by
  rcases List.mem_cons.1 hm with e|hm
  . exact h.1 e
  exact BC h.2 hm
def ss (b:Option bf)(k:bf->Prop):Prop:=match b with
 |some (.row v sh d xs)=>k (.row v sh d xs)
 |some (.box v xs)=>aq xs=[]/\k (.box v xs)
 |_=>False
@[congr] theorem T_ {b b':Option bf} {k:bf->Prop} (h:b=b'):ss b k=ss b' k:=by rw[h]
theorem BD (v:Nat)(sh:Sh)(d:Bool)(xs:lA)(k:bf->Prop):ss (some (.row v sh d xs)) k=k (.row v sh d xs):=rfl
theorem BE (v:Nat)(xs:lA)(k:bf->Prop):ss (some (.box v xs)) k=(aq xs=[]/\k (.box v xs)):=rfl
def oY (m:Mem)(k:List bf->Prop):List bf->lN->Prop
 |acc,[]=>k acc.reverse
 |acc,l::r=>xW l r/\ss (ah m l) λb=>oY m k (b::acc) r
theorem E8 (m:Mem)(k:List bf->Prop)(acc:List bf):oY m k acc []=k acc.reverse:=rfl
theorem pO (m:Mem)(k:List bf->Prop)(acc:List bf)(l:Nat)(r:lN):oY m k acc (l::r)=(xW l r/\ss (ah m l) λb=>oY m k (b::acc) r):=rfl
def fG:lN->List bf->Mem->Mem
 |l::ρ,b::io,m=>(l,b)::fG ρ io m
 |_,_,m=>m
theorem kS (l:Nat)(ρ:lN)(b:bf)(io:List bf)(m:Mem):fG (l::ρ) (b::io) m=(l,b)::fG ρ io m:=rfl
theorem BF (io:List bf)(m:Mem):fG [] io m=m:=rfl
def CT (P:pR)(f:fI)(d:Nat)(ρ:lN)(io:List bf)(args:lA)(m:Mem)(k:AV->Mem->Prop)(_:Pack k):Prop:=
 ∃post,oD P f io args post/\∀r io',post r io'->mB (1000*(d+1)) r (fG ρ io' m) k
@[congr] theorem Sg {P:pR} {f:fI} {d:Nat} {ρ:lN} {io io':List bf} {args args':lA} {m:Mem} {k:AV->Mem->Prop} {q:Pack k} (h:io=io') (h':args=args'):CT P f d ρ io args m k q=CT P f d ρ io' args' m k q:=by rw[h,h']
theorem aN {P:pR}{f:fI}{d:Nat}{ρ:lN}{io io1:List bf}{args:lA}{m:Mem}{k:AV->Mem->Prop}{r:AV}(h:oD P f io args (λx io'=>x=r/\io'=io1))(hk:mB (1000*(d+1)) r (fG ρ io1 m) k){q:Pack k}:CT P f d ρ io args m k q:=
 ⟨_,h,λ_ _ ⟨e,e'⟩=>by subst e;subst e';exact hk⟩
theorem xX {k:List bf->Prop}:∀(ρ:lN) (acc:List bf),oY m k acc ρ->ρ.Nodup/\∃io,k (acc.reverse++io)/\io.length=ρ.length/\∀j (h:j<ρ.length) (h':j<io.length),ah m ρ[j]=some io[j]/\f_ io[j]
 | [],acc,hk=>by
   have hk1:k acc.reverse:=hk;exact ⟨q12,[],by simpa using hk1,rfl,λj h=>absurd h (q16 _)⟩
 |l::r,acc,hk=>by
  obtain ⟨hn,hk⟩:=hk;have main:∀b,ah m l=some b->f_ b->oY m k (b::acc) r->(l::r).Nodup/\∃io,k (acc.reverse++io)/\io.length=(l::r).length/\∀j (h:j<(l::r).length) (h':j<io.length),ah m (l::r)[j]=some io[j]/\f_ io[j]:=by
   intro b hb hf hk;obtain ⟨h0,io,h1,h2,h3⟩:=xX r (b::acc) hk;refine ⟨List.nodup_cons.2 ⟨BC hn,h0⟩,b::io,by simpa using h1,by simp[h2],λj hj hj'=>?_⟩;cases j with
   |zero=>exact ⟨hb,hf⟩
   |succ j=>exact h3 j (by simpa using hj) (by simpa using hj')
  unfold ss at hk;split at hk
  . rename_i hb;exact main _ hb trivial hk
  . rename_i hb;exact main _ hb hk.1 hk.2
  exact hk.elim
theorem xY {l:Nat}{k:nP}:∀(ρ:lN) (i:Nat),vW l k i ρ->∃j,∃h:j<ρ.length,ρ[j]=l/\k (i+j)
 | [],_,hk=>hk.elim
 |l0::r,i,hk=>by
  rw[kB] at hk;split at hk
  . rename_i e;exact ⟨0,by simp,e,hk⟩
  obtain ⟨j,h1,h2,h3⟩:=xY r (i+1) hk;exact ⟨j+1,by simpa using h1,by simpa using h2,by rw[show i+(j+1)=i+1+j by omega];exact h3⟩
def ov (φ:Nat->LS)(ρ:lN):Nat->LS:=λl=>if bE<=l then (match ρ[l-bE]? with|some l'=>φ l'|none=>.dead) else .dead
def qf (fp:nN)(ρ:lN):Nat->lN:=λl=>if bE<=l then (match ρ[l-bE]? with|some l'=>fp l'|none=>[]) else []
theorem ga (φ:Nat->LS){ρ:lN}{j:Nat}(h:j<ρ.length):ov φ ρ (bE+j)=φ ρ[j]:=by simp[ov,h]
theorem wo (fp:nN){ρ:lN}{j:Nat}(h:j<ρ.length):qf fp ρ (bE+j)=fp ρ[j]:=by simp[qf,h]
theorem gW {fp:nN}{ρ:lN}{l b:Nat}(h:b∈qf fp ρ l):∃j,∃hj:j<ρ.length,l=bE+j/\b∈fp ρ[j]:=by
 unfold qf at h;split at h
 . rename_i hl;split at h
   . rename_i l' hl';obtain ⟨hj,e⟩:=List.getElem?_eq_some_iff.1 hl';exact ⟨l-bE,hj,by omega,by rw[e];exact h⟩
   cases h
 cases h
theorem JT {io:List bf}{ρ:lN}(hio:io.length=ρ.length)(hlk:∀j (h:j<ρ.length) (h':j<io.length),ah m ρ[j]=some io[j]/\f_ io[j]){x:AV}{v:Value}(hx:RV w S φ x v)(hxl:∀l af,(l,af)∈ao x->known m l af)
 {k:AV->Prop} (hk:zH ρ x k):∃y,k y/\RV w S (ov φ ρ) y v/\leaf y/\∀l af,(l,af)∈ao y->known (mj 0 io) l af:=by
 have kn:∀j (hj:j<ρ.length) af,known m ρ[j] af->known (mj 0 io) (bE+j) af:=by rintro j hj af ⟨k',h1,h2⟩;rw[(hlk j hj (by omega)).1] at h1;have h1:=Option.some.inj h1;refine ⟨io[j]'(by omega),?_,by rw[h1];exact h2⟩;rw[mF,if_pos (by omega)];simp<;>omega
 have flat:∀y,ao y=[]->leaf y->k y->RV w S φ y v->∃y,k y/\RV w S (ov φ ρ) y v/\leaf y/\∀l af,(l,af)∈ao y->known (mj 0 io) l af:=by intro y hl hlf hk hv;exact ⟨y,hk,.rd _ _ (cR hv hl),hlf,λl af h=>by rw[hl] at h;cases h⟩
 unfold zH at hk;split at hk
 . rename_i l af i n;obtain ⟨j,hj,rfl,hk1⟩:=xY ρ 0 hk;simp only [Nat.zero_add] at hk1;obtain ⟨r1,r2⟩:=dt hx;have h3:v.oneCell'=true:=hx.aW trivial;refine ⟨_,hk1,.ref _ _ _ _ _ (λb sh hb=> ?_) (λhb=> ?_) h3,trivial,λl' ver' hl'=> ?_⟩
   . rw[show (1000000000+j)=bE+j from rfl,ga φ hj] at hb;exact r1 b sh hb
   . rw[show (1000000000+j)=bE+j from rfl,ga φ hj] at hb;exact r2 hb
   simp only[ao,q10,Prod.mk.injEq] at hl';obtain ⟨rfl,rfl⟩:=hl';exact kn j hj _ (hxl _ _ (by simp[ao]))
 . rename_i l af i n;obtain ⟨j,hj,rfl,hk1⟩:=xY ρ 0 hk;simp only [Nat.zero_add] at hk1;have h3:v.oneCell'=true:=hx.aW trivial;refine ⟨_,hk1,?_,trivial,λl' ver' hl'=> ?_⟩
   . cases hx with
     |rd _ _ h=>cases h
     |ptr _ _ _ _ _ h1 h2 _=>
      refine .ptr _ _ _ _ _ (λb sh hb=>?_) (λhb=>?_) h3
      . rw[show (1000000000+j)=bE+j from rfl,ga φ hj] at hb;exact h1 b sh hb
      rw[show (1000000000+j)=bE+j from rfl,ga φ hj] at hb;exact h2 hb
   simp only[ao,q10,Prod.mk.injEq] at hl';obtain ⟨rfl,rfl⟩:=hl';exact kn j hj _ (hxl _ _ (by simp[ao]))
 . rename_i u;exact flat (.val u) rfl trivial hk hx
 . exact flat .e0 rfl trivial hk hx
 . rename_i sh xs;exact flat (.arr sh xs) rfl trivial hk hx
 . rename_i sh xs i j;exact flat (.bo sh xs i j) rfl trivial hk hx
 exact hk.elim
theorem E9 {io:List bf}{ρ:lN}(hio:io.length=ρ.length)(hlk:∀j (h:j<ρ.length) (h':j<io.length),ah m ρ[j]=some io[j]/\f_ io[j]){Q:lA->Prop}:
 ∀(xs:lA) (vs:lV) (acc:lA),vs.length=xs.length->(∀i (h:i<xs.length),RV w S φ xs[i] (vs.getD i uD))->(∀i (h:i<xs.length) l af,(l,af)∈ao xs[i]->known m l af)->qB ρ Q acc xs→
  ∃ys,Q (acc.reverse++ys)/\ys.length=xs.length/\∀i (h:i<ys.length),RV w S (ov φ ρ) ys[i] (vs.getD i uD)/\leaf ys[i]/\∀l af,(l,af)∈ao ys[i]->known (mj 0 io) l af
 | [],vs,acc,_,_,_,hk=>by
   have hk1:Q acc.reverse:=hk;exact ⟨[],by simpa using hk1,rfl,λi h=>absurd h (q16 _)⟩
 |x::xs,vs,acc,hl,hx,hxl,hk=>by
  cases vs with
  |nil=>simp at hl
  |cons v vs=>
   obtain ⟨y,h1,h2,h3,h4⟩:=JT hio hlk (hx 0 (by simp)) (hxl 0 (by simp)) hk;obtain ⟨ys,g1,g2,g3⟩:=E9 hio hlk xs vs (y::acc) (by simpa using hl) (λi hi=>hx (i+1) (by simpa using hi)) (λi hi=>hxl (i+1) (by simpa using hi)) h1;refine ⟨y::ys,by simpa using g1,by simp[g2],λi hi=>?_⟩;cases i with
   |zero=>exact ⟨h2,h3,h4⟩
   |succ i=>exact g3 i (by simpa using hi)
theorem OD {io:List bf}{ρ:lN}(hio:io.length=ρ.length)(hlk:∀j (h:j<ρ.length) (h':j<io.length),ah m ρ[j]=some io[j]/\f_ io[j]){x:AV}{v:Value}(hx:RV w S φ x v)(hxl:∀l af,(l,af)∈ao x->known m l af)
 {k:AV->Prop} (hk:mG ρ x k):∃y,k y/\RV w S (ov φ ρ) y v/\∀l af,(l,af)∈ao y->known (mj 0 io) l af:=by
 unfold mG at hk;split at hk
 . rename_i xs;obtain ⟨cs,rfl,h1,h2,h3⟩:=nc hx;obtain ⟨ys,g1,g2,g3⟩:=E9 hio hlk xs cs.toList [] (by simpa using h1) h3 (λi hi l af hl=>hxl l af (by simp only[ao];exact bq hi hl)) hk;refine ⟨.agg ys,by simpa using g1,.agg ys cs (h1.trans g2.symm) (λi hi=>(g3 i hi).2.1) (λi hi=>(g3 i hi).1),λl af hl=>?_⟩;simp only[ao] at hl;obtain ⟨i,hi,hl⟩:=bM hl;exact (g3 i hi).2.2 l af hl
 obtain ⟨y,h1,h2,_,h4⟩:=JT hio hlk hx hxl hk;exact ⟨y,h1,h2,h4⟩
theorem xZ {io:List bf}{ρ:lN}(hio:io.length=ρ.length)(hlk:∀j (h:j<ρ.length) (h':j<io.length),ah m ρ[j]=some io[j]/\f_ io[j]){Q:lA->Prop}:
 ∀(xs:lA) (vs:lV) (acc:lA),vs.length=xs.length->(∀i (h:i<xs.length),RV w S φ xs[i] (vs.getD i uD))->(∀i (h:i<xs.length) l af,(l,af)∈ao xs[i]->known m l af)->og ρ Q acc xs→
  ∃ys,Q (acc.reverse++ys)/\ys.length=xs.length/\∀i (h:i<ys.length),RV w S (ov φ ρ) ys[i] (vs.getD i uD)/\∀l af,(l,af)∈ao ys[i]->known (mj 0 io) l af
 | [],vs,acc,_,_,_,hk=>by
   have hk1:Q acc.reverse:=hk;exact ⟨[],by simpa using hk1,rfl,λi h=>absurd h (q16 _)⟩
 |x::xs,vs,acc,hl,hx,hxl,hk=>by
  cases vs with
  |nil=>simp at hl
  |cons v vs=>
   obtain ⟨y,h1,h2,h4⟩:=OD hio hlk (hx 0 (by simp)) (hxl 0 (by simp)) hk;obtain ⟨ys,g1,g2,g3⟩:=xZ hio hlk xs vs (y::acc) (by simpa using hl) (λi hi=>hx (i+1) (by simpa using hi)) (λi hi=>hxl (i+1) (by simpa using hi)) h1;refine ⟨y::ys,by simpa using g1,by simp[g2],λi hi=>?_⟩;cases i with
   |zero=>exact ⟨h2,h4⟩
   |succ i=>exact g3 i (by simpa using hi)
theorem lP:∀(ρ:lN) (io:List bf),io.length=ρ.length->ρ.Nodup->∀l,(∀j (h:j<ρ.length),ρ[j]=l->ah (fG ρ io m) l=io[j]?)/\(l∉ρ->ah (fG ρ io m) l=ah m l)
 | [],io,_,_,l=>⟨λj h=>absurd h (q16 _),λ_=>by rw[BF]⟩
 |l0::ρ,[],h,_,_=>by simp at h
 |l0::ρ,b::io,h,hn,l=>by
  obtain ⟨hn1,hn2⟩:=List.nodup_cons.1 hn;obtain ⟨ih1,ih2⟩:=lP ρ io (by simpa using h) hn2 l;refine ⟨λj hj e=>?_,λhl=>?_⟩
  . rw [kS,aw];cases j with
    |zero=>rw[if_pos (by simpa using e)];rfl
    |succ j=>
     have e':ρ[j]'(by simpa using hj)=l:=(by simpa using e);rw[if_neg (λe2=>hn1 (by rw[e2,←e'];exact List.getElem_mem _))];rw[ih1 j (by simpa using hj) e'];rfl
  rw[kS,aw,if_neg (λe=>hl (by rw[←e];exact List.mem_cons_self ..))];exact ih2 λhm=>hl (List.mem_cons_of_mem _ hm)
theorem HJ {f:fI}{ρ:lN}{io:List bf}{args xs:lA}(hnd:ρ.Nodup)(hio:io.length=ρ.length)
 (hlk:∀j (h:j<ρ.length) (h':j<io.length),ah m ρ[j]=some io[j]/\f_ io[j]) {vs:aV} (h:RS B N φ fp S ts m a w) (hvl:vs.size=args.length)
 (hx:∀i (h:i<args.length),RV w S (ov φ ρ) args[i] (vs.toList.getD i uD)/\∀l af,(l,af)∈ao args[i]->known (mj 0 io) l af) {post:AV->List bf->Prop} (hf:oD P f io args post):
 Calls P f vs w λe w'=>∃v r io' fp2 T fs,e= .returned v/\post r io'/\RS B N φ fp2 T ts (fG ρ io' m) a w'/\jI w w'/\io'.length=ρ.length∧
  Own w' (λ_=>False) r v fs/\(∀j (h:j<ρ.length) b,b∈fp2 ρ[j]->w.heap.size<=b\/b∈fp ρ[j])/\fs.Nodup/\∀b,b∈fs->w.heap.size<=b/\¬T b/\∀l,b∉fp2 l:=by
 have inj:∀i j (hi:i<ρ.length) (hj:j<ρ.length),ρ[i]=ρ[j]->i=j:=λi j hi hj e=>(List.getElem_inj hnd).1 e;have look0:∀l,ah (mj 0 io) l=if bE<=l then io[l-bE]? else none:=λl=>by rw[mF];rfl
 have at_:∀l b,ah (mj 0 io) l=some b->∃j,∃hj:j<ρ.length,∃hj':j<io.length,l=bE+j/\b=io[j]:=by
  intro l b hb;rw[look0] at hb;split at hb
  . rename_i hl;obtain ⟨hj,e⟩:=List.getElem?_eq_some_iff.1 hb;exact ⟨l-bE,by omega,hj,by omega,e.symm⟩
  cases hb
 have hR0:RS (HH w (ov φ ρ) (qf fp ρ) S io) vs.size (ov φ ρ) (qf fp ρ) S (bH 0 args) (mj 0 io) {tmps:=vs,defers:=[]} w:=by
  refine {tm:=λt=> ?_,tl:=λt l af hl=> ?_,ca:=λl hl=> ?_,aG:=λl b hb=> ?_,bl:=λl v xs hb l' af hl=> ?_,hZ:=λl=> ?_,fL:=λl l' b h1 h2=> ?_,
          bS:=λl b hb=>?_,cu:=λl b hb=>?_,sB:=λb hb=>⟨(h.sB b hb).1,.inr hb⟩,base:=λb _ _=>rfl,out:=a7.refl _,ky:=jI.refl _,kn:=λ_ _ _ hk=>hk,fix:=λ_ _ _ _=>LS.le_refl _ _,
          size:=Nat.le_refl _,defers:=rfl,ly:=rfl,jx:=h.jx}
  . rw [bI];by_cases ht:t<args.length
    . have e:(if 0<=t then (args[t-0]?).getD AV.undef else .undef)=args[t]:=(by simp [ht]);rw [e];have:=(hx t ht).1;have e2:vs.toList.getD t uD=vs.getD t uD:=by
       simp[q4,q0]
      rw[←e2];exact this
    have e:(if 0<=t then (args[t-0]?).getD AV.undef else .undef)= .undef:=(by simp[List.getElem?_eq_none (show args.length<=t by omega)]);rw[e];exact .rd _ _ (.undef _)
  . rw [bI] at hl;by_cases ht:t<args.length
    . have e:(if 0<=t then (args[t-0]?).getD AV.undef else .undef)=args[t]:=(by simp[ht]);rw[e] at hl;exact (hx t ht).2 l af hl
    have e:(if 0<=t then (args[t-0]?).getD AV.undef else .undef)= .undef:=(by simp[List.getElem?_eq_none (show args.length<=t by omega)]);rw[e] at hl;cases hl
  . rw [look0] at hl;unfold ov qf;split at hl
    . rename_i hl';have:ρ[l-bE]? =none:=List.getElem?_eq_none (by have:=List.getElem?_eq_none_iff.1 hl;omega);rw[if_pos hl',if_pos hl',this];exact ⟨rfl,rfl⟩
    rename_i hl';rw[if_neg hl',if_neg hl'];exact ⟨rfl,rfl⟩
  . obtain ⟨j,hj,hj',rfl,rfl⟩:=at_ l b hb;have hb0:=h.aG ρ[j] _ (hlk j hj hj').1;have hfr:=(hlk j hj hj').2;rw [wo fp hj];generalize io[j]=b at hb0 hfr;cases b with
    |gone v=>exact ⟨by rw[ga φ hj];exact hb0.1,hb0.2⟩
    |row v sh dp xs=>
     rcases hb0 with ⟨q1,q2,q3⟩|⟨b,cap,q1,q2⟩
     . exact .inl ⟨by rw[ga φ hj];exact q1,q2,q3⟩
     exact .inr ⟨b,cap,by rw[ga φ hj];exact q1,q2⟩
    |ke v xs i u=>exact hfr.elim
    |sub v sh xs u=>exact hfr.elim
    |box v xs=>
     obtain ⟨b,cs,e,sh,q1,q2,q3,q4,q5,q6⟩:=hb0;exact ⟨b,cs,e,sh,by rw[ga φ hj];exact q1,q2,q3,q4,q5,λi hi=>.rd _ _ (cR (q6 i hi) (bO hfr i hi))⟩
  . obtain ⟨j,hj,hj',rfl,e⟩:=at_ l _ hb;have hfr:=(hlk j hj hj').2;rw[←e] at hfr;have hfr:aq xs=[]:=hfr;rw[hfr] at hl;cases hl
  . unfold qf;split
    . split
      . exact h.hZ _
      exact q12
    exact q12
  . obtain ⟨i,hi,rfl,b1⟩:=gW h1;obtain ⟨j,hj,rfl,b2⟩:=gW h2;have:=inj i j hi hj (h.fL _ _ b b1 b2);subst this;rfl
  . obtain ⟨i,hi,rfl,b1⟩:=gW hb;exact h.bS _ b b1
  obtain ⟨i,hi,rfl,b1⟩:=gW hb;exact ⟨(h.cu _ b b1).1,.inr ⟨_,hb,by omega,.inl rfl⟩⟩
 refine (hf.2 w (ov φ ρ) (qf fp ρ) S vs hvl hR0).mono ?_;rintro e w' ⟨r,v,io',φ',fp',S',m',rfl,gP,hR,⟨hl',hok⟩,fs,bc,Wc,hfr⟩;have hl2:io'.length=ρ.length:=hl'.trans hio;have i_:∀b:Nat,b<w.heap.size->(∀j (hj:j<ρ.length),b∉fp ρ[j])->w'.heap[b]? =w.heap[b]? :=λb hb hn=>hR.base b hb λl hb'=>by obtain ⟨j,hj,rfl,hb2⟩:=gW hb';exact hn j hj hb2
 have lu:∀b,S b->w'.heap[b]? =w.heap[b]? :=λb hb=>i_ b (h.sB b hb).1 λj hj hb'=>h.bS _ b hb' hb;have hz:fX φ w w':=λl b sh af cs e _ hb=>hR.ky b cs e hb;have hm2:=λl=>lP (m:=m) ρ io' hl2 hnd l;have hkn:∀l af,known m l af->known (fG ρ io' m) l af:=by
  rintro l af ⟨k',h1,h2⟩;by_cases hl:l∈ρ
  . obtain ⟨j,hj,rfl⟩:=q8 hl;have e:=(hm2 ρ[j]).1 j hj rfl;rw[q5 (by omega)] at e;rw[(hlk j hj (by omega)).1] at h1;have h1:=Option.some.inj h1;exact ⟨_,e,by rw[(hok j (by omega) (by omega)).2.1,h1];exact h2⟩
  exact ⟨k',((hm2 l).2 hl).trans h1,h2⟩
 let T:Nat->Prop:=λb=>S b\/(S' b/\w.heap.size<=b);have hST:∀b,S' b->T b:=λb hb=>by
  rcases (hR.sB b hb).2 with hh|hh
  . exact .inr ⟨hb,hh⟩
  exact .inl hh
 let fp2:Nat->lN:=λl=>match ρ.idxOf? l with|some j=>fp' (bE+j)|none=>fp l
 have fp2in:∀j (hj:j<ρ.length),fp2 ρ[j]=fp' (bE+j):=by
  intro j hj;have:ρ.idxOf? ρ[j]=some j:=by rw[List.idxOf?,List.findIdx?_eq_some_iff_getElem];refine ⟨hj,by simp,λi hi=>?_⟩;simp only[beq_iff_eq];intro e2;have:=inj i j (by omega) hj e2;omega
  show (match ρ.idxOf? ρ[j] with|some j=>fp' (bE+j)|none=>fp ρ[j])=_;rw[this]
 have fp2out:∀l,l∉ρ->fp2 l=fp l:=by
  intro l hl;have:ρ.idxOf? l=none:=by simpa [List.idxOf?_eq_none_iff] using hl
  show (match ρ.idxOf? l with|some j=>fp' (bE+j)|none=>fp l)=_;rw[this]
 have fpnew:∀j (hj:j<ρ.length) b,b∈fp' (bE+j)->b<w'.heap.size/\(w.heap.size<=b\/b∈fp ρ[j]):=by
  intro j hj b hb;have:=hR.cu _ b hb;refine ⟨this.1,this.2.imp id λhh=>?_⟩;obtain ⟨l',hb2,_,hl3⟩:=hh;have hl3:l'=bE+j:=hl3.resolve_right λe=>by have e:ah (mj 0 io) (bE+j)=none:=e;rw[look0,if_pos (by omega),List.getElem?_eq_none_iff] at e;omega
  subst hl3;have hh:b∈qf fp ρ (bE+j):=hb2
  rwa [wo fp hj] at hh
 have hRS:RS B N φ fp2 T ts (fG ρ io' m) a w':=by
  refine {tm:=λt=>(h.tm t).mono lu (λb hb=>.inl hb) hz λl af _=>LS.le_refl _ _,tl:=λt l af hl=>hkn l af (h.tl t l af hl),ca:=λl hl=> ?_,aG:=λl b hb=> ?_,
          bl:=λl v xs hb l' af hl=>?_,hZ:=λl=>?_,fL:=λl l' b h1 h2=>?_,bS:=λl b hb=>?_,cu:=λl b hb=>?_,sB:=λb hb=>?_,base:=λb hb hio=>?_,
          out:=h.out.trans hR.out,ky:=h.ky.trans hR.ky,kn:=λl af hl hk=>hkn l af (h.kn l af hl hk),fix:=h.fix,size:=q14 h.size hR.size,defers:=h.defers,ly:=h.ly,jx:=h.jx.mono lu λb hb=>.inl hb}
  . by_cases hm:l∈ρ
    . obtain ⟨j,hj,rfl⟩:=q8 hm;rw[(hm2 ρ[j]).1 j hj rfl,q5 (by omega)] at hl;cases hl
    rw[(hm2 l).2 hm] at hl;rw[fp2out l hm];exact h.ca l hl
  . by_cases hm:l∈ρ
    . obtain ⟨j,hj,rfl⟩:=q8 hm;rw [(hm2 ρ[j]).1 j hj rfl,q5 (by omega)] at hb;have hb:=Option.some.inj hb;subst hb;obtain ⟨g1,g2,g3⟩:=hok j (by omega) (by omega);have hB:=hR.aG _ _ g1;have Wd:known (mj 0 io) (bE+j) (io[j]'(by omega)).af:=⟨io[j]'(by omega),by rw [look0,if_pos (by omega)];simp<;>omega,Nat.le_refl _⟩;have rI:=hR.fix (bE+j) _ (by omega) Wd;have rI:LS.le (φ' (bE+j)) (φ ρ[j]) (io[j]'(by omega)).af:=(by rw [←ga φ hj];exact rI);rw [fp2in j hj];rw [←g2] at rI;generalize io'[j]=b at hB rI g3;cases b with
      |gone v=>exact g3.elim
      |row v sh dp xs=>
       rcases hB with ⟨q1,q2,q3⟩|⟨b,cap,q1,q2,q3,q4⟩
       . exact .inl ⟨rI.2 q1,q2,q3⟩
       refine .inr ⟨b,cap,rI.1 _ _ q1,q2,q3,?_⟩;cases dp with
       |true=>exact q4
       |false=>exact q4.mono (λ_ _=>rfl) hST (λ_ _=>rfl)
      |ke v xs i u=>exact g3.elim
      |sub v sh xs u=>exact g3.elim
      |box v xs=>
       obtain ⟨b,cs,e,sh,q1,q2,q3,q4,q5,q6⟩:=hB;exact ⟨b,cs,e,sh,rI.1 _ _ q1,q2,q3,q4,q5,λi hi=>.rd _ _ ((cR (q6 i hi) (bO g3 i hi)).mono (λ_ _=>rfl) hST)⟩
    rw[(hm2 l).2 hm] at hb;rw[fp2out l hm];refine (h.aG l b hb).mono lu (λb hb=>.inl hb) hz (λc hc=>i_ c (h.cu l c hc).1 λj hj hc'=>hm ?_) rfl λ_ _ _ _ _ _=>LS.le_refl _ _;rw[h.fL _ _ c hc hc'];exact List.getElem_mem hj
  . by_cases hm:l∈ρ
    . obtain ⟨j,hj,rfl⟩:=q8 hm;rw[(hm2 ρ[j]).1 j hj rfl,q5 (by omega)] at hb;have hb:=Option.some.inj hb;have g3:=(hok j (by omega) (by omega)).2.2;rw[hb] at g3;have g3:aq xs=[]:=g3;rw[g3] at hl;cases hl
    rw[(hm2 l).2 hm] at hb;exact hkn l' af (h.bl l v xs hb l' af hl)
  . by_cases hm:l∈ρ
    . obtain ⟨j,hj,rfl⟩:=q8 hm;rw[fp2in j hj];exact hR.hZ _
    rw[fp2out l hm];exact h.hZ l
  . have mixed:∀j (hj:j<ρ.length) l,l∉ρ->b∈fp' (bE+j)->b∈fp l->False:=by
     intro j hj l hm b1 b2;rcases (fpnew j hj b b1).2 with hh|hh
     . have:=(h.cu l b b2).1;omega
     exact hm (by rw[h.fL _ _ b b2 hh];exact List.getElem_mem hj)
    by_cases m1:l∈ρ
    . obtain ⟨j,hj,rfl⟩:=q8 m1;rw [fp2in j hj] at h1;by_cases m2:l'∈ρ
      . obtain ⟨j',hj',rfl⟩:=q8 m2;rw[fp2in j' hj'] at h2;have:=hR.fL _ _ b h1 h2;have:j=j':=(by omega);subst this;rfl
      rw[fp2out l' m2] at h2;exact (mixed j hj l' m2 h1 h2).elim
    rw[fp2out l m1] at h1;by_cases m2:l'∈ρ
    . obtain ⟨j',hj',rfl⟩:=q8 m2;rw[fp2in j' hj'] at h2;exact (mixed j' hj' l m1 h2 h1).elim
    rw[fp2out l' m2] at h2;exact h.fL l l' b h1 h2
  . by_cases hm:l∈ρ
    . obtain ⟨j,hj,rfl⟩:=q8 hm;rw [fp2in j hj] at hb;rintro (hs|hs)
      . rcases (fpnew j hj b hb).2 with hh|hh
        . have:=(h.sB b hs).1;omega
        exact h.bS _ b hh hs
      exact hR.bS _ b hb hs.1
    rw[fp2out l hm] at hb;rintro (hs|hs)
    . exact h.bS l b hb hs
    have:=(h.cu l b hb).1;omega
  . by_cases hm:l∈ρ
    . obtain ⟨j,hj,rfl⟩:=q8 hm;rw [fp2in j hj] at hb;have:=fpnew j hj b hb;refine ⟨this.1,?_⟩;rcases this.2 with hh|hh
      . exact .inl (q14 h.size hh)
      exact (h.cu _ b hh).2
    rw[fp2out l hm] at hb;have:=h.cu l b hb;exact ⟨q15 this.1 hR.size,this.2⟩
  . rcases hb with hs|hs
    . have:=h.sB b hs;exact ⟨q15 this.1 hR.size,this.2⟩
    exact ⟨(hR.sB b hs.1).1,.inl (q14 h.size hs.2)⟩
  refine (i_ b (q15 hb h.size) λj hj hb'=>?_).trans (h.base b hb hio);rcases (h.cu _ b hb').2 with hh|hh
  . omega
  exact hio _ hh.choose_spec.1
 refine ⟨v,r,io',fp2,T,fs,rfl,gP,hRS,hR.ky,hl2,bc,λj hj b hb=>(fpnew j hj b (by rw[←fp2in j hj];exact hb)).2,Wc,λb hb=>?_⟩;obtain ⟨q1,q2,q3⟩:=hfr b hb;refine ⟨q1,?_,λl hl=>?_⟩
 . rintro (hs|hs)
   . have:=(h.sB b hs).1;omega
   exact q2 hs.1
 by_cases hm:l∈ρ
 . obtain ⟨j,hj,rfl⟩:=q8 hm;rw[fp2in j hj] at hl;exact q3 _ (by omega) hl
 rw[fp2out l hm] at hl;have:=(h.cu l b hl).1;omega
theorem E_ {f:fI}{d:Nat}{ρ:lN}{io:List bf}{args xs:lA}{k:AV->Mem->Prop}(hnd:ρ.Nodup)(hio:io.length=ρ.length)
 (hlk:∀j (h:j<ρ.length) (h':j<io.length),ah m ρ[j]=some io[j]/\f_ io[j]) {vs:aV} (h:RS B N φ fp S ts m a w) (hvl:vs.size=args.length)
 (hx:∀i (h:i<args.length),RV w S (ov φ ρ) args[i] (vs.toList.getD i uD)/\∀l af,(l,af)∈ao args[i]->known (mj 0 io) l af) {post:AV->List bf->Prop} (hf:oD P f io args post)
 (hk:∀r io',post r io'->mB (1000*(d+1)) r (fG ρ io' m) k):
 Calls P f vs w λe w'=>∃v,e= .returned v/\ir B N a (λx ts' m'=>ts'=ts/\k x m') v w':=by
 refine (HJ hnd hio hlk h hvl hx hf (xs:=xs)).mono ?_;rintro e w' ⟨v,r,io',fp2,T,fs,rfl,gP,hRS,_,_,bc,_,Wc,hfr⟩;obtain ⟨φ3,fp3,y,m3,g1,g2,g3,g4⟩:=CN hRS bc Wc (λb hb=>⟨q14 h.size (hfr b hb).1,(hfr b hb).2.1,(hfr b hb).2.2⟩) _ (hk r io' gP);exact ⟨v,rfl,φ3,fp3,T,ts,m3,y,g1.rs,g3,g4,rfl,g2⟩
theorem aR {f:fI}{d:Nat}{xs ts:lA}{m:Mem}{k:AV->Mem->Prop}(ρ:lN)(h:oY m (λio=>og ρ (λargs=>CT P f d ρ io args m k ⟨⟩) [] xs) [] ρ){q:Pack k}:eo P f d xs ts m k q:=by refine .inl λB N φ fp S ts a w vs hRS hsz hx hxl=>?_;obtain ⟨hnd,io,h1,h2,h3⟩:=xX ρ [] h;rw[List.reverse_nil,q11] at h1;obtain ⟨args,g1,g2,g3⟩:=xZ (w:=w) (S:=S) (φ:=φ) h2 h3 xs vs.toList [] (by simpa using hsz) hx hxl h1;rw[List.reverse_nil,q11] at g1;obtain ⟨post,hf,hk⟩:=g1;exact ⟨hf.1,E_ hnd h2 h3 hRS (hsz.trans g2.symm) g3 hf hk (xs:=xs)⟩
end
def nl (x y:AV):Prop:=match x,y with
 | .val (.slice none 0 0),.arr _ ys=>ys=[]
 | .e0,.arr _ ys=>ys=[]
 |x,y=>x=y
theorem Vg (sh:Sh)(ys:lA):nl (.val (.slice none 0 0)) (.arr sh ys)=(ys=[]):=rfl
theorem Vh (k:IntKind)(n:Int)(y:AV):nl (.val (.int k n)) y=(.val (.int k n)=y):=by cases y<;>rfl
theorem Vi (sh:Sh)(xs:lA)(y:AV):nl (.arr sh xs) y=(.arr sh xs=y):=by cases y<;>rfl
def Si:lA->lA->Prop
 | [],ys=>[]=ys
 |x::xs,ys=>match ys with|y::ys=>nl x y/\Si xs ys| []=>False
theorem Sj:Si [] []=True:=by simp[Si]
theorem OE (x y:AV)(xs ys:lA):Si (x::xs) (y::ys)=(nl x y/\Si xs ys):=rfl
def Nv (x y:AV):Prop:=match x,y with
 | .agg xs,.agg ys=>Si xs ys
 |x,y=>nl x y
theorem Sk (xs ys:lA):Nv (.agg xs) (.agg ys)=Si xs ys:=rfl
theorem Sl (sh:Sh)(ys:lA):Nv (.val (.slice none 0 0)) (.arr sh ys)=(ys=[]):=rfl
theorem Sm (k:IntKind)(n:Int)(y:AV):Nv (.val (.int k n)) y=(.val (.int k n)=y):=by cases y<;>rfl
theorem OF (b:Bool)(y:AV):Nv (.val (.bool b)) y=(.val (.bool b)=y):=by cases y<;>rfl
theorem HK (s:ByteArray)(y:AV):Nv (.val (.string s)) y=(.val (.string s)=y):=by cases y<;>rfl
theorem Sn (sh:Sh)(xs:lA)(y:AV):Nv (.arr sh xs) y=(.arr sh xs=y):=by cases y<;>rfl
def E':lA->lA->Prop
 | [],ys=>[]=ys
 |x::xs,ys=>match ys with|y::ys=>Nv x y/\E' xs ys| []=>False
theorem OG:E' [] []=True:=by simp[E']
theorem Ll (x y:AV)(xs ys:lA):E' (x::xs) (y::ys)=(Nv x y/\E' xs ys):=rfl
def su (x y:AV):Prop:=match x,y with
 | .aX xs,.aX ys=>E' xs ys
 |x,y=>Nv x y
theorem Sp (xs ys:lA):su (.aX xs) (.aX ys)=E' xs ys:=rfl
theorem Sq (xs ys:lA):su (.agg xs) (.agg ys)=Si xs ys:=rfl
theorem Sr (sh:Sh)(ys:lA):su (.val (.slice none 0 0)) (.arr sh ys)=(ys=[]):=rfl
theorem Ss (k:IntKind)(n:Int)(y:AV):su (.val (.int k n)) y=(.val (.int k n)=y):=by cases y<;>rfl
theorem OH (b:Bool)(y:AV):su (.val (.bool b)) y=(.val (.bool b)=y):=by cases y<;>rfl
theorem HL (s:ByteArray)(y:AV):su (.val (.string s)) y=(.val (.string s)=y):=by cases y<;>rfl
theorem Su (sh:Sh)(xs:lA)(y:AV):su (.arr sh xs) y=(.arr sh xs=y):=by cases y<;>rfl
section
variable {w:World} {S:nP}
theorem HM {x y:AV}{v:Value}{fs:lN}(h:Own w S x v fs)(hn:nl x y):Own w S y v fs/\(leaf x->leaf y):=by
 unfold nl at hn;split at hn
 . subst hn;cases h with
   |rd _ _ h=>cases h with|val _ _=>exact ⟨.rd _ _ (.nil _ _),λ_=>trivial⟩
 . subst hn;cases h with
   |rd _ _ h=>cases h with|e0 a=>exact ⟨.rd _ _ (.nil _ _),λ_=>trivial⟩
 subst hn;exact ⟨h,id⟩
theorem JU:∀(xs ys:lA),Si xs ys->xs.length=ys.length/\∀i (h:i<xs.length) (h':i<ys.length),nl xs[i] ys[i]
 | [],ys,h=>by
   have h:[]=ys:=h;subst h;exact ⟨rfl,λi h=>absurd h (q16 _)⟩
 |x::xs,[],h=>h.elim
 |x::xs,y::ys,h=>by
  obtain ⟨h1,h2⟩:=JU xs ys h.2;refine ⟨by simp[h1],λi hi hi'=>?_⟩;cases i with
  |zero=>exact h.1
  |succ i=>exact h2 i (by simpa using hi) (by simpa using hi')
theorem Fa:∀(xs ys:lA),E' xs ys->xs.length=ys.length/\∀i (h:i<xs.length) (h':i<ys.length),Nv xs[i] ys[i]
 | [],ys,h=>by
   have h:[]=ys:=h;subst h;exact ⟨rfl,λi h=>absurd h (q16 _)⟩
 |x::xs,[],h=>h.elim
 |x::xs,y::ys,h=>by
  obtain ⟨h1,h2⟩:=Fa xs ys h.2;refine ⟨by simp[h1],λi hi hi'=>?_⟩;cases i with
  |zero=>exact h.1
  |succ i=>exact h2 i (by simpa using hi) (by simpa using hi')
theorem JV {x y:AV}{v:Value}{fs:lN}(h:Own w S x v fs)(hn:Nv x y):Own w S y v fs:=by
 unfold Nv at hn;split at hn
 . rename_i xs ys;obtain ⟨cs,fss,rfl,rfl,h1,h2,h3,h4⟩:=CM h;obtain ⟨g1,g2⟩:=JU xs ys hn;refine .agg ys cs fss (h1.trans g1) (λi hi=> ?_) (h3.trans g1) (λi hi=> ?_)
   . exact (HM (h4 i (by omega)) (g2 i (by omega) hi)).2 (h2 i (by omega))
   exact (HM (h4 i (by omega)) (g2 i (by omega) hi)).1
 exact (HM h hn).1
theorem CU {x y:AV}{v:Value}{fs:lN}(h:Own w S x v fs)(hn:su x y):Own w S y v fs:=by
 unfold su at hn;split at hn
 . rename_i xs ys;obtain ⟨cs,fss,rfl,rfl,h1,h3,h4⟩:=JM h;obtain ⟨g1,g2⟩:=Fa xs ys hn;exact .aX ys cs fss (h1.trans g1) (h3.trans g1) λi hi=>JV (h4 i (by omega)) (g2 i (by omega) hi)
 exact JV h hn
end
theorem Fn.nil {P:pR}{f:fI}{args:lA}{post:AV->Prop}(h:Fn P f args true (λx=>∃r,su x r/\post r)):Fn P f args true post:=
 ⟨h.1,λw S vs h1 hk h2 h3=>(h.2 w S vs h1 hk h2 h3).mono λ_ _ ⟨x,v,g1,⟨r,g2,g3⟩,g4,g5⟩=>by
   refine ⟨r,v,g1,g3,g4,?_⟩;obtain ⟨fs,q1,q2⟩:=g5
   exact ⟨fs,CU q1 g2,q2⟩⟩
theorem oD.nil {P:pR}{f:fI}{io:List bf}{args:lA}{post:AV->List bf->Prop}(h:oD P f io args (λx io'=>∃r,su x r/\post r io')):oD P f io args post:=
 ⟨h.1,λw φ fp S vs h1 h2=>(h.2 w φ fp S vs h1 h2).mono λ_ _ ⟨x,v,io',φ',fp',S',m',g1,⟨r,g2,g3⟩,g4,g5,fs,q1,q2⟩=>
   ⟨r,v,io',φ',fp',S',m',g1,g3,g4,g5,fs,CU q1 g2,q2⟩⟩
theorem Fn.au {P:pR} {f:fI} {fn:Func} {c:Code} {args:List AV} {r:AV} (N:Nat) (rs:List ResultVar) (hf:P.funcs[f]? =some fn) (hN:fn.ntmps=N:=by exact rfl) (hr:fn.results.toList=rs:=by exact rfl) (hn:(fn.name== "runtime.NumGoroutine")=false:=by exact rfl)
 (hb:fn.body=some c:=by exact rfl) (hok:codeOk N c=true:=by exact rfl) (ha:args.length<=N:=by exact oT rfl) (hv:vc P N c (bH 0 args) [] (fin P rs (λx=>su x r))):Fn P f args true (· =r):=
 Fn.nil ((Fn.cT N rs hf hN hr hn hb hok ha hv).mono λx hx=>⟨r,hx,rfl⟩)
theorem oD.au {P:pR}{f:fI}{fn:Func}{c:Code}{io io1:List bf}{args:lA}{r:AV}(N:Nat)(rs:List ResultVar)(hf:P.funcs[f]? =some fn)(hN:fn.ntmps=N:=by exact rfl)(hr:fn.results.toList=rs:=by exact rfl)
 (hn:(fn.name== "runtime.NumGoroutine")=false:=by exact rfl) (hb:fn.body=some c:=by exact rfl) (hok:codeOk N c=true:=by exact rfl) (ha:args.length≤N:=by exact oT rfl) (hv:vc P N c (bH 0 args) (mj 0 io) (Sf P rs (io.map bf.af) (fun x io'=>su x r∧io'=io1))):
 oD P f io args (λx io'=>x=r/\io'=io1):=
 oD.nil ((oD.cT N rs hf hN hr hn hb hok ha hv).mono λx io' hx=>⟨r,hx.1,rfl,hx.2⟩)
theorem Sv (v:Nat)(sh:Sh)(d:Bool)(xs:lA):(bf.row v sh d xs).af=v:=rfl
theorem Sw (v:Nat)(xs:lA):(bf.box v xs).af=v:=rfl
def rl (l l' x:Nat):Nat:=if x=l then l' else if x=l' then l else x
theorem jO (l l' x:Nat):rl l l' (rl l l' x)=x:=by
 unfold rl;split
 . rename_i h;split
   . rename_i h2;omega
   rw[if_pos rfl];exact h.symm
 split
 . rename_i h1 h2;rw[if_pos rfl];exact h2.symm
 rfl
theorem OI {l l' x y:Nat}(h:rl l l' x=rl l l' y):x=y:=by rw[←jO l l' x,h,jO]
theorem JW {l l' x:Nat}(h:l<bE)(h':l'<bE)(hx:bE<=x):rl l l' x=x:=by unfold rl;rw[if_neg (by omega),if_neg (by omega)]
theorem WC {l l' x:Nat}(h:l<bE)(h':l'<bE)(hx:x<bE):rl l l' x<bE:=by unfold rl;split<;>(try split)<;>omega
theorem WD (l l' x:Nat):rl l l' x=if x=l then l' else if x=l' then l else x:=rfl
mutual
def iR (l l':Nat):AV->AV
 | .ref k v i n=>.ref (rl l l' k) v i n
 | .ptr k v i j=>.ptr (rl l l' k) v i j
 | .agg xs=>.agg (qC l l' xs)
 | .aX xs=>.aX (qC l l' xs)
 | .cn f xs=>.cn f (qC l l' xs)
 |x=>x
def qC (l l':Nat):lA->lA
 | []=>[]
 |x::r=>iR l l' x::qC l l' r
end
theorem JX (l l' k v i n:Nat):iR l l' (.ref k v i n)= .ref (rl l l' k) v i n:=by simp[iR]
theorem JY (l l' k v i j:Nat):iR l l' (.ptr k v i j)= .ptr (rl l l' k) v i j:=by simp[iR]
theorem pP (l l':Nat)(xs:lA):iR l l' (.agg xs)= .agg (qC l l' xs):=by simp[iR]
theorem pQ (l l':Nat)(xs:lA):iR l l' (.aX xs)= .aX (qC l l' xs):=by simp[iR]
theorem pS (l l':Nat)(f:fI)(xs:lA):iR l l' (.cn f xs)= .cn f (qC l l' xs):=by simp[iR]
theorem tE (l l':Nat):iR l l' .undef= .undef:=by simp[iR]
theorem JZ (l l':Nat)(v:Value):iR l l' (.val v)= .val v:=by simp[iR]
theorem OJ (l l':Nat):iR l l' .e0= .e0:=by simp[iR]
theorem CV (l l':Nat)(sh:Sh)(xs:lA):iR l l' (.arr sh xs)= .arr sh xs:=by simp[iR]
theorem Fb (l l':Nat)(sh:Sh)(xs:lA)(i j:Nat):iR l l' (.bo sh xs i j)= .bo sh xs i j:=by simp[iR]
theorem Sx (l l':Nat):qC l l' []=[]:=by simp[qC]
theorem oZ (l l':Nat)(x:AV)(r:lA):qC l l' (x::r)=iR l l' x::qC l l' r:=by simp[qC]
theorem bZ (l l':Nat):∀xs:lA,(qC l l' xs).length=xs.length
 | []=>rfl
 |x::r=>by rw[oZ,List.length_cons,List.length_cons,bZ l l' r]
theorem e_ (l l':Nat):∀(xs:lA) (i:Nat) (h:i<xs.length) (h':i<(qC l l' xs).length),(qC l l' xs)[i]=iR l l' xs[i]
 |x::r,0,_,_=>rfl
 |x::r,i+1,h,h'=>by have:=e_ l l' r i (by simpa using h) (by rw[bZ];simpa using h);simpa [qC] using this
theorem x6 {l l':Nat}{x:AV}(h:leaf x):leaf (iR l l' x):=by cases x<;>first|exact h.elim|(simp[iR];trivial)
def J0 (l l':Nat):bf->bf
 | .box v xs=>.box v (qC l l' xs)
 |b=>b
theorem Sy (l l' v:Nat)(xs:lA):J0 l l' (.box v xs)= .box v (qC l l' xs):=rfl
theorem Sz (l l' v:Nat)(sh:Sh)(d:Bool)(xs:lA):J0 l l' (.row v sh d xs)= .row v sh d xs:=rfl
theorem OK (l l' v:Nat):J0 l l' (.gone v)= .gone v:=rfl
theorem nr (l l':Nat)(b:bf):(J0 l l' b).af=b.af:=by cases b<;>rfl
def HN (l l':Nat):Env->Env
 | []=>[]
 |(t,x)::r=>(t,iR l l' x)::HN l l' r
theorem SA (l l':Nat):HN l l' []=[]:=rfl
theorem Fc (l l' t:Nat)(x:AV)(r:Env):HN l l' ((t,x)::r)=(t,iR l l' x)::HN l l' r:=rfl
def x7 (l l':Nat):Mem->Mem
 | []=>[]
 |(k,b)::r=>(rl l l' k,J0 l l' b)::x7 l l' r
theorem SB (l l':Nat):x7 l l' []=[]:=rfl
theorem Fe (l l' k:Nat)(b:bf)(r:Mem):x7 l l' ((k,b)::r)=(rl l l' k,J0 l l' b)::x7 l l' r:=rfl
theorem iS (l l':Nat):∀(ts:Env) (t:Nat),look (HN l l' ts) t=iR l l' (look ts t)
 | [],t=>(tE l l').symm
 |(k,x)::r,t=>by rw[Fc,cN,cN,iS l l' r t];split<;>rfl
theorem cO (l l':Nat):∀(m:Mem) (k:Nat),ah (x7 l l' m) k=(ah m (rl l l' k)).map (J0 l l')
 | [],k=>rfl
 |(k0,b)::r,k=>by
  rw[Fe,aw,aw,cO l l' r k];by_cases h:rl l l' k0=k
  . have:k0=rl l l' k:=(by rw[←h,jO]);rw[if_pos h,if_pos this];rfl
  have:k0≠rl l l' k:=λe=>h (by rw[e,jO]);rw[if_neg h,if_neg this]
mutual
theorem jP (l l':Nat):∀(x:AV),ao (iR l l' x)=(ao x).map λp=>(rl l l' p.1,p.2)
 | .ref k v i n=>by simp[iR,ao]
 | .ptr k v i j=>by simp[iR,ao]
 | .agg xs=>by rw[pP];simp only[ao];exact mH l l' xs
 | .aX xs=>by rw[pQ];simp only[ao];exact mH l l' xs
 | .cn f xs=>by rw[pS];simp only[ao];exact mH l l' xs
 | .undef=>by simp[iR,ao]
 | .val v=>by simp[iR,ao]
 | .e0=>by simp[iR,ao]
 | .arr sh xs=>by simp[iR,ao]
 | .bo sh xs i j=>by simp[iR,ao]
theorem mH (l l':Nat):∀(xs:lA),aq (qC l l' xs)=(aq xs).map λp=>(rl l l' p.1,p.2)
 | []=>by simp[qC,aq]
 |x::r=>by rw[oZ];simp only[aq];rw[jP l l' x,mH l l' r,List.map_append]
end
theorem Vj {w:World}{S:nP}{x:AV}{v:Value}(l l':Nat)(h:Rd w S x v):iR l l' x=x:=by
 have key:∀(xs:lA),(∀i (hi:i<xs.length),iR l l' xs[i]=xs[i])->qC l l' xs=xs:=by intro xs hx;refine List.ext_getElem (bZ l l' xs) λi h1 h2=>?_;rw[e_ l l' xs i h2 h1];exact hx i h2
 induction h with
 |undef v=>exact tE _ _
 |val v h=>exact JZ _ _ _
 |e0 a=>exact OJ _ _
 |nil sh a=>exact CV _ _ _ _
 |arr=>exact CV _ _ _ _
 |agg xs cs hl hf hv ih=>rw[pP,key xs ih]
 |aX xs cs hl hv ih=>rw[pQ,key xs ih]
 |bo=>exact Fb _ _ _ _ _ _
 |cn f xs cs hl hv ih=>rw[pS,key xs ih]
section
variable {B:eC} {N:Nat} {φ:Nat->LS} {fp:nN} {S:nP} {ts:Env} {m:Mem} {a:Act} {w:World}
theorem RV.DV (l l':Nat){x:AV}{v:Value}(h:RV w S φ x v):RV w S (λk=>φ (rl l l' k)) (iR l l' x) v:=by
 induction h with
 |rd x v h=>rw[Vj l l' h];exact .rd x v h
 |agg xs cs hl hf _ ih=>
  rw[pP];refine .agg _ cs (hl.trans (bZ l l' xs).symm) (λi hi=>?_) λi hi=>?_
  . have h':i<xs.length:=(by rw[bZ] at hi;exact hi);rw[e_ l l' xs i h' hi];exact x6 (hf i h')
  have h':i<xs.length:=by rw[bZ] at hi;exact hi
  rw[e_ l l' xs i h' hi];exact ih i h'
 |aX xs cs hl _ ih=>
  rw[pQ];refine .aX _ cs (hl.trans (bZ l l' xs).symm) λi hi=>?_;have h':i<xs.length:=by rw[bZ] at hi;exact hi
  rw[e_ l l' xs i h' hi];exact ih i h'
 |cn f xs cs hl _ ih=>
  rw[pS];refine .cn f _ cs (hl.trans (bZ l l' xs).symm) λi hi=>?_;have h':i<xs.length:=by rw[bZ] at hi;exact hi
  rw[e_ l l' xs i h' hi];exact ih i h'
 |ref k af i n v h1 h2 h3=>
  rw[JX];refine .ref _ _ _ _ _ (λb sh hb=>h1 b sh ?_) (λhb=>h2 ?_) h3
  . rwa [jO] at hb
  rwa [jO] at hb
 |ptr k af i j v h1 h2 h3=>
  rw[JY];refine .ptr _ _ _ _ _ (λb sh hb=>h1 b sh ?_) (λhb=>h2 ?_) h3
  . rwa [jO] at hb
  rwa [jO] at hb
theorem RS.DV (h:RS B N φ fp S ts m a w){l l':Nat}(hl:l<bE)(hl':l'<bE):RS B N (λk=>φ (rl l l' k)) (λk=>fp (rl l l' k)) S (HN l l' ts) (x7 l l' m) a w:=by
 have kn:∀k af,known m k af->known (x7 l l' m) (rl l l' k) af:=by rintro k af ⟨b,h1,h2⟩;exact ⟨J0 l l' b,by rw[cO,jO,h1];rfl,by rw[nr];exact h2⟩
 have labs_in:∀(x:AV) k af,(k,af)∈ao (iR l l' x)->∃k0,k=rl l l' k0/\(k0,af)∈ao x:=by intro x k af hk;rw[jP] at hk;obtain ⟨⟨k0,v0⟩,h1,h2⟩:=List.mem_map.1 hk;simp only[Prod.mk.injEq] at h2;obtain ⟨rfl,rfl⟩:=h2;exact ⟨k0,rfl,h1⟩
 refine {tm:=λt=> ?_,tl:=λt k af hk=> ?_,ca:=λk hk=> ?_,aG:=λk b hb=> ?_,bl:=λk v xs hb k' af hk=> ?_,hZ:=λk=>h.hZ _,fL:=λk k' b h1 h2=>OI (h.fL _ _ b h1 h2),
         bS:=λk b hb=>h.bS _ b hb,cu:=λk b hb=>?_,sB:=h.sB,base:=h.base,out:=h.out,ky:=h.ky,kn:=λk af hk hv=>?_,fix:=λk af hk hv=>?_,size:=h.size,defers:=h.defers,ly:=h.ly,jx:=h.jx}
 . rw[iS];exact (h.tm t).DV l l'
 . rw[iS] at hk;obtain ⟨k0,rfl,h1⟩:=labs_in _ k af hk;exact kn k0 af (h.tl t k0 af h1)
 . rw[cO] at hk;exact h.ca _ (by simpa using hk)
 . rw [cO] at hb;obtain ⟨b0,hb0,rfl⟩:=Option.map_eq_some_iff.1 hb;have hB:=h.aG _ b0 hb0;cases b0 with
   |gone v=>exact hB
   |row v sh d xs=>exact hB
   |ke v xs i u=>exact hB
   |sub v sh xs u=>exact hB
   |box v xs=>
    obtain ⟨b,cs,e,sh,h1,h2,h3,h4,h5,h6⟩:=hB;refine ⟨b,cs,e,sh,h1,h2,h3,q14 (Nat.le_of_eq (bZ l l' xs)) h4,λi hi=>?_,λi hi=>?_⟩
    . have h':i<xs.length:=(by rw[bZ] at hi;exact hi);rw[e_ l l' xs i h' hi];exact x6 (h5 i h')
    have h':i<xs.length:=(by rw[bZ] at hi;exact hi);rw[e_ l l' xs i h' hi];exact (h6 i h').DV l l'
 . rw [cO] at hb;obtain ⟨b0,hb0,e⟩:=Option.map_eq_some_iff.1 hb;cases b0 with
   |gone v=>cases e
   |row v sh d xs=>cases e
   |ke v xs i u=>cases e
   |sub v sh xs u=>cases e
   |box v0 xs0=>
    cases e;rw[mH] at hk;obtain ⟨⟨k0,v1⟩,h1,h2⟩:=List.mem_map.1 hk;simp only[Prod.mk.injEq] at h2;obtain ⟨rfl,rfl⟩:=h2;exact kn k0 v1 (h.bl _ _ _ hb0 k0 v1 h1)
 . have:=h.cu _ b hb;refine ⟨this.1,this.2.imp id λ⟨l0,h1,h2,h3⟩=> ?_⟩;by_cases hk:bE<=k
   . rw[JW hl hl' hk] at h3;exact ⟨l0,h1,hk,h3⟩
   have:=WC hl hl' (Nat.lt_of_not_le hk);omega
 . have:=kn k af (h.kn k af hk hv)
   rwa [JW hl hl' hk] at this
 rw[JW hl hl' hk];exact h.fix k af hk hv
inductive Vk:Env->Mem->Env->Mem->Prop
 |here {ts:Env} {m:Mem} {ts2:Env} {m2:Mem} (h:sj ts m ts2 m2):Vk ts m ts2 m2
 |mv {ts:Env} {m:Mem} {ts2:Env} {m2:Mem} (l l':Nat) (hl:l<bE) (hl':l'<bE) (h:Vk (HN l l' ts) (x7 l l' m) ts2 m2):Vk ts m ts2 m2
variable {P:pR}
end
section
variable {P:pR} {B:eC} {N:Nat} {φ:Nat->LS} {fp:nN} {S:nP} {ts:Env} {m:Mem} {a:Act} {w:World}
theorem RS.OL (h:RS B N φ fp S ts m a w){l l':Nat}(hl:l<bE)(h0:ah B.m0 l'=none)(hfp:∀b,b∈fp l'->B.w0.heap.size<=b):
 RS B N (λk=>φ (rl l l' k)) (λk=>fp (rl l l' k)) S (HN l l' ts) (x7 l l' m) a w:=by
 have kn:∀k af,known m k af->known (x7 l l' m) (rl l l' k) af:=by rintro k af ⟨b,h1,h2⟩;exact ⟨J0 l l' b,by rw[cO,jO,h1];rfl,by rw[nr];exact h2⟩
 have labs_in:∀(x:AV) k af,(k,af)∈ao (iR l l' x)->∃k0,k=rl l l' k0/\(k0,af)∈ao x:=by intro x k af hk;rw[jP] at hk;obtain ⟨⟨k0,v0⟩,h1,h2⟩:=List.mem_map.1 hk;simp only[Prod.mk.injEq] at h2;obtain ⟨rfl,rfl⟩:=h2;exact ⟨k0,rfl,h1⟩
 have hi:∀k af,bE<=k->known B.m0 k af->rl l l' k=k:=by rintro k af hk ⟨b,h1,_⟩;unfold rl;rw[if_neg (by omega),if_neg (λe=>by subst e;rw[h0] at h1;cases h1)]
 refine {tm:=λt=> ?_,tl:=λt k af hk=> ?_,ca:=λk hk=> ?_,aG:=λk b hb=> ?_,bl:=λk v xs hb k' af hk=> ?_,hZ:=λk=>h.hZ _,fL:=λk k' b h1 h2=>OI (h.fL _ _ b h1 h2),
         bS:=λk b hb=>h.bS _ b hb,cu:=λk b hb=>?_,sB:=h.sB,base:=h.base,out:=h.out,ky:=h.ky,kn:=λk af hk hv=>?_,fix:=λk af hk hv=>?_,size:=h.size,defers:=h.defers,ly:=h.ly,jx:=h.jx}
 . rw[iS];exact (h.tm t).DV l l'
 . rw[iS] at hk;obtain ⟨k0,rfl,h1⟩:=labs_in _ k af hk;exact kn k0 af (h.tl t k0 af h1)
 . rw[cO] at hk;exact h.ca _ (by simpa using hk)
 . rw [cO] at hb;obtain ⟨b0,hb0,rfl⟩:=Option.map_eq_some_iff.1 hb;have hB:=h.aG _ b0 hb0;cases b0 with
   |gone v=>exact hB
   |row v sh d xs=>exact hB
   |ke v xs i u=>exact hB
   |sub v sh xs u=>exact hB
   |box v xs=>
    obtain ⟨b,cs,e,sh,h1,h2,h3,h4,h5,h6⟩:=hB;refine ⟨b,cs,e,sh,h1,h2,h3,q14 (Nat.le_of_eq (bZ l l' xs)) h4,λi hi=>?_,λi hi=>?_⟩
    . have h':i<xs.length:=(by rw[bZ] at hi;exact hi);rw[e_ l l' xs i h' hi];exact x6 (h5 i h')
    have h':i<xs.length:=(by rw[bZ] at hi;exact hi);rw[e_ l l' xs i h' hi];exact (h6 i h').DV l l'
 . rw [cO] at hb;obtain ⟨b0,hb0,e⟩:=Option.map_eq_some_iff.1 hb;cases b0 with
   |gone v=>cases e
   |row v sh d xs=>cases e
   |ke v xs i u=>cases e
   |sub v sh xs u=>cases e
   |box v0 xs0=>
    cases e;rw[mH] at hk;obtain ⟨⟨k0,v1⟩,h1,h2⟩:=List.mem_map.1 hk;simp only[Prod.mk.injEq] at h2;obtain ⟨rfl,rfl⟩:=h2;exact kn k0 v1 (h.bl _ _ _ hb0 k0 v1 h1)
 . have hb:=hb;unfold rl at hb;split at hb
   . refine ⟨(h.cu _ b hb).1,.inl (hfp b hb)⟩
   split at hb
   . refine ⟨(h.cu _ b hb).1,?_⟩;rcases (h.cu _ b hb).2 with hh|⟨_,_,hh,_⟩
     . exact .inl hh
     omega
   exact h.cu _ b hb
 . have:=kn k af (h.kn k af hk hv)
   rwa [hi k af hk hv] at this
 rw[hi k af hk hv];exact h.fix k af hk hv
theorem RS.back {N':Nat}{φ':Nat->LS}{fp':nN}{S':nP}{ts':Env}{m':Mem}{a':Act}{w':World}(h:RS B N φ fp S ts m a w)(hi:∀l,ah m l≠none->bE<=l)
 (h':RS ⟨w,λl b=>b∈fp l,S,φ,m⟩ N' φ' fp' S' ts' m' a' w'):RS B N φ' fp' (λb=>S b\/(S' b/\w.heap.size<=b)) ts m' a w':=by
 have hkn:∀l af,known m l af->bE<=l:=λl af ⟨k,h1,_⟩=>hi l (by rw [h1];exact λe=>by cases e);have hS:∀b,S b->w'.heap[b]? =w.heap[b]? :=λb hb=>h'.base b (h.sB b hb).1 λl hl=>h.bS l b hl hb;have hz:fX φ w w':=λl b sh af cs e _ hb=>h'.ky b cs e hb;have hST:∀b,S' b->S b\/(S' b/\w.heap.size<=b):=λb hb=>by
  rcases (h'.sB b hb).2 with hh|hh
  . exact .inr ⟨hb,hh⟩
  exact .inl hh
 refine {tm:=λt=>(h.tm t).mono hS (λb hb=>.inl hb) hz λl af hl=>h'.fix l af (hkn l af (h.tl t l af hl)) (h.tl t l af hl),
         tl:=λt l af hl=>h'.kn l af (hkn l af (h.tl t l af hl)) (h.tl t l af hl),ca:=h'.ca,
         aG:=λl k hk=>(h'.aG l k hk).mono (λ_ _=>rfl) hST (λl b sh af cs e _ hb=>⟨cs,e,hb,rfl⟩) (λ_ _=>rfl) rfl (λ_ _ _ _ _ _=>LS.le_refl _ _),
         bl:=h'.bl,hZ:=h'.hZ,fL:=h'.fL,bS:=λl b hb=>?_,cu:=λl b hb=>?_,sB:=λb hb=>?_,base:=λb hb hio=>?_,out:=h.out.trans h'.out,ky:=h.ky.trans h'.ky,
         kn:=λl af hl hk=>h'.kn l af hl (h.kn l af hl hk),fix:=λl af hl hk=>LS.le_trans (h'.fix l af hl (h.kn l af hl hk)) (h.fix l af hl hk),size:=q14 h.size h'.size,defers:=h.defers,ly:=h.ly,jx:=h.jx.mono hS λb hb=>.inl hb}
 . rintro (hs|hs)
   . rcases (h'.cu l b hb).2 with hh|⟨l0,hh,_⟩
     . exact absurd (h.sB b hs).1 (Nat.not_lt.2 hh)
     exact h.bS l0 b hh hs
   exact h'.bS l b hb hs.1
 . refine ⟨(h'.cu l b hb).1,?_⟩;rcases (h'.cu l b hb).2 with hh|⟨l0,hh,hl,h3⟩
   . exact .inl (q14 h.size hh)
   rcases (h.cu l0 b hh).2 with h4|⟨l1,h4,h5,h6⟩
   . exact .inl h4
   refine .inr ⟨l1,h4,hl,?_⟩;rcases h3 with h3|h3
   . rw[h3] at h6;exact h6
   refine .inr ?_;cases he:ah B.m0 l with
   |none=>rfl
   |some k=>
    obtain ⟨k2,h7,_⟩:=h.kn l k.af hl ⟨k,he,Nat.le_refl _⟩;have h3':ah m l=none:=h3;rw[h3'] at h7;cases h7
 . rcases hb with hs|hs
   . exact ⟨q15 (h.sB b hs).1 h'.size,(h.sB b hs).2⟩
   exact ⟨(h'.sB b hs.1).1,.inl (q14 h.size hs.2)⟩
 refine (h'.base b (q15 hb h.size) λl hl=>?_).trans (h.base b hb hio);rcases (h.cu l b hl).2 with hh|⟨l1,hh,_⟩
 . exact absurd hb (Nat.not_lt.2 hh)
 exact hio l1 hh
end
def OM (P:pR)(rs:List ResultVar)(k:AV->Mem->Prop):de
 | .normal=>λts m=>aP P (λxs=>k (bG xs) m) rs ts m []
 | .ret=>λts m=>aP P (λxs=>k (bG xs) m) rs ts m []
 |_=>λ_ _=>False
theorem Ff (P:pR)(rs:List ResultVar)(k:AV->Mem->Prop)(ts:Env)(m:Mem):OM P rs k .normal ts m=aP P (λxs=>k (bG xs) m) rs ts m []:=rfl
theorem ON (P:pR)(rs:List ResultVar)(k:AV->Mem->Prop)(ts:Env)(m:Mem):OM P rs k .ret ts m=aP P (λxs=>k (bG xs) m) rs ts m []:=rfl
def qD:Mem->Prop
 | []=>True
 |(l,_)::r=>bE<=l/\qD r
theorem Lm:qD []=True:=rfl
theorem HO (l:Nat)(b:bf)(r:Mem):qD ((l,b)::r)=(1000000000<=l/\qD r):=rfl
theorem pT:∀{m:Mem},qD m->∀l,ah m l≠none->bE<=l
 | [],_,l,h=>absurd rfl h
 |(k,b)::r,⟨h1,h2⟩,l,h=>by
  rw[aw] at h;split at h
  . rename_i e;subst e;exact h1
  exact pT h2 l h
def kT:List (Nat × Nat)->Mem->Mem
 | [],m=>m
 |(l,l')::r,m=>kT r (x7 l l' m)
def qg:List (Nat × Nat)->AV->AV
 | [],x=>x
 |(l,l')::r,x=>qg r (iR l l' x)
def mI (ρ:List (Nat × Nat))(xs:lA):lA:=xs.map (qg ρ)
def sv:List (Nat × Nat)->Mem->Mem
 | [],m=>m
 |(l,l')::r,m=>x7 l l' (sv r m)
def sw:List (Nat × Nat)->AV->AV
 | [],x=>x
 |(l,l')::r,x=>iR l l' (sw r x)
def hasB (b:Option bf):Prop:=b≠none
theorem Ln (b:bf):hasB (some b)=True:=by simp[hasB]
def J1 (b:Option bf):Prop:=b=none
theorem HP:J1 none=True:=by simp[J1]
def o4:List (Nat × Nat)->Mem->Prop
 | [],_=>True
 |(l,l')::r,m=>((l<bE/\bE<=l')/\hasB (ah m l)/\J1 (ah m l'))/\o4 r (x7 l l' m)
theorem OO (m:Mem):kT [] m=m:=rfl
theorem Lo (l l':Nat)(r:List (Nat × Nat))(m:Mem):kT ((l,l')::r) m=kT r (x7 l l' m):=rfl
theorem OP (x:AV):qg [] x=x:=rfl
theorem Lp (l l':Nat)(r:List (Nat × Nat))(x:AV):qg ((l,l')::r) x=qg r (iR l l' x):=rfl
theorem OQ (ρ:List (Nat × Nat)):mI ρ []=[]:=rfl
theorem Lq (ρ:List (Nat × Nat))(x:AV)(r:lA):mI ρ (x::r)=qg ρ x::mI ρ r:=rfl
theorem Lr (m:Mem):sv [] m=m:=rfl
theorem HQ (l l':Nat)(r:List (Nat × Nat))(m:Mem):sv ((l,l')::r) m=x7 l l' (sv r m):=rfl
theorem Ls (x:AV):sw [] x=x:=rfl
theorem HR (l l':Nat)(r:List (Nat × Nat))(x:AV):sw ((l,l')::r) x=iR l l' (sw r x):=rfl
theorem Lt (m:Mem):o4 [] m=True:=rfl
theorem HS (l l':Nat)(r:List (Nat × Nat))(m:Mem):o4 ((l,l')::r) m=(((l<1000000000/\1000000000<=l')/\hasB (ah m l)/\J1 (ah m l'))/\o4 r (x7 l l' m)):=rfl
def sy:List (Nat × Nat)->Prop
 | []=>True
 |(l,l')::r=>(l<bE/\l'<bE)/\sy r
theorem Lu:sy []=True:=rfl
theorem HT (l l':Nat)(r:List (Nat × Nat)):sy ((l,l')::r)=((l<1000000000/\l'<1000000000)/\sy r):=rfl
def Wq:lN->Nat->Bool
 | [],_=>false
 |d::D,l=>l==d||Wq D l
theorem SC (l:Nat):Wq [] l=false:=rfl
theorem OR (d:Nat)(D:lN)(l:Nat):Wq (d::D) l=(l==d||Wq D l):=rfl
def e7 (J:Nat):lN->Mem->List (Nat × Nat)
 |_,[]=>[]
 |E,(l,_)::r=>if (decide (l<1000000000)&& !Wq E l)=true then (l,l+J)::e7 J (l::E) r else e7 J E r
theorem OS (J:Nat)(E:lN):e7 J E []=[]:=rfl
theorem Lv (J:Nat)(E:lN)(l:Nat)(b:bf)(r:Mem):e7 J E ((l,b)::r)=if (decide (l<1000000000)&& !Wq E l)=true then (l,l+J)::e7 J (l::E) r else e7 J E r:=rfl
mutual
theorem CW (l l':Nat):∀x:AV,iR l l' (iR l l' x)=x
 | .ref k v i n=>by simp[iR,jO]
 | .ptr k v i j=>by simp[iR,jO]
 | .agg xs=>by rw[pP,pP,wq l l' xs]
 | .aX xs=>by rw[pQ,pQ,wq l l' xs]
 | .cn f xs=>by rw[pS,pS,wq l l' xs]
 | .undef=>by simp[iR]
 | .val v=>by simp[iR]
 | .e0=>by simp[iR]
 | .arr sh xs=>by simp[iR]
 | .bo sh xs i j=>by simp[iR]
theorem wq (l l':Nat):∀xs:lA,qC l l' (qC l l' xs)=xs
 | []=>by simp[qC]
 |x::r=>by rw[oZ,oZ,CW l l' x,wq l l' r]
end
section
variable {P:pR} {B:eC} {N:Nat} {φ:Nat->LS} {fp:nN} {S:nP} {ts:Env} {m:Mem} {a:Act} {w:World}
theorem x8 {m:Mem}{acc:lA}{x:AV}(h:∀i (h:i<acc.reverse.length) l af,(l,af)∈ao acc.reverse[i]->known m l af)(hx:∀l af,(l,af)∈ao x->known m l af):
 ∀i (h:i<(x::acc).reverse.length) l af,(l,af)∈ao (x::acc).reverse[i]->known m l af:=by
 intro i hi l af hl;simp only[q13] at hi hl;rw[List.getElem_append] at hl;split at hl
 . exact h i _ l af hl
 simp at hl;exact hx l af hl
theorem cI (h:RS B N φ fp S ts m a w){Q:lA->Prop}:∀(rs:List ResultVar) (acc:lA) (va:lV),pL (RV w S φ) acc.reverse va->(∀i (h:i<acc.reverse.length) l af,(l,af)∈ao acc.reverse[i]->known m l af)->aP P Q rs ts m acc→
 ∃xs vs,Q xs/\(rs.mapM (cW a.tmps)).run P w= .ok vs w/\pL (RV w S φ) xs (va++vs)/\∀i (h:i<xs.length) l af,(l,af)∈ao xs[i]->known m l af
 | [],acc,va,ha,hl,hk=>⟨_,[],hk,by simp,by simpa using ha,hl⟩
 | .tmp t::r,acc,va,ha,hl,hk=>by
   obtain ⟨xs,vs,h1,h2,h3,h4⟩:=cI h r (look ts t::acc) (va++[a.tmps.getD t uD]) (by rw[q13];exact ha.snoc (h.tm t)) (x8 hl (λl af hl'=>h.tl t l af hl')) hk;refine ⟨xs,a.tmps.getD t uD::vs,h1,?_,by simpa using h3,h4⟩;rw[List.mapM_cons];simp only[cW,Sem.run_bind,Sem.run_pure,Result.andThen_ok,h2]
 | .cell p t::r,acc,va,ha,hl,hk=>by obtain ⟨ti,ht,hk⟩:=bF hk;obtain ⟨ad,u,y,hv,hr,hy,hyl,hk⟩:=Bp ht h (h.tm p) hk;obtain ⟨xs,vs,h1,h2,h3,h4⟩:=cI h r (y::acc) (va++[u]) (by rw[q13];exact ha.snoc hy) (x8 hl hyl) hk;refine ⟨xs,u::vs,h1,?_,by simpa using h3,h4⟩;rw[List.mapM_cons];simp only[cW,hv,asAddr,Sem.run_bind,Sem.run_pure,Result.andThen_ok,hr,h2]
theorem mJ {ys:lA}{vs:lV}(hl:vs.length=ys.length)(hv:∀i (h:i<ys.length),RV w S φ ys[i] (vs.getD i uD)):
 RV w S φ (bG ys) (if h:vs.toArray.size=1 then vs.toArray[0] else .tuple vs.toArray):=by
 match ys,vs,hl,hv with
 | [],[],_,_=>exact .rd _ _ (.aX [] #[] rfl λi hi=>absurd hi (q16 _))
 | [y],[v],_,hv=>simpa [bG] using hv 0 (by simp)
 |y::y'::r,v::v'::r',hl,hv=>
  have:¬((v::v'::r').toArray.size=1):=by simp
  rw[dif_neg this];exact .aX _ _ (by simpa using hl) (by simpa using hv)
theorem HU {ys:lA}(h:∀i (h:i<ys.length) l af,(l,af)∈ao ys[i]->known m l af):∀l af,(l,af)∈ao (bG ys)->known m l af:=by
 intro l af hl;match ys,h,hl with
 | [],_,hl=>simp[bG,ao,aq] at hl
 | [y],h,hl=>exact h 0 (by simp) l af (by simpa [bG] using hl)
 |y::y'::r,h,hl=>
  rw[tC] at hl;simp only[ao] at hl;obtain ⟨i,hi,hl2⟩:=bM hl;exact h i hi l af hl2
theorem RS.OT:∀(σ:List (Nat × Nat)) {φ:Nat->LS} {fp:nN} {ts:Env} {m:Mem},sy σ->RS B N φ fp S ts m a w->∃φ' fp' ts',RS B N φ' fp' S ts' (kT σ m) a w/\(∀x v,RV w S φ x v->RV w S φ' (qg σ x) v)∧
 (∀x,(∀l af,(l,af)∈ao x->known m l af)->∀l af,(l,af)∈ao (qg σ x)->known (kT σ m) l af)/\∀l,bE<=l->fp' l=fp l
 | [],φ,fp,ts,m,_,h=>⟨φ,fp,ts,h,λ_ _ h=>h,λ_ h=>h,λ_ _=>rfl⟩
 |(l,l')::r,φ,fp,ts,m,⟨⟨h1,h2⟩,h3⟩,h=>by
  obtain ⟨φ',fp',ts',g1,g2,g3,g4⟩:=RS.OT r h3 (h.DV h1 h2);refine ⟨φ',fp',ts',g1,λx v hx=>g2 _ _ (hx.DV l l'),λx hx=>g3 _ λk af hk=>?_,λk hk=>?_⟩
  . rw[jP] at hk;obtain ⟨⟨k0,v0⟩,q1,q2⟩:=List.mem_map.1 hk;simp only[Prod.mk.injEq] at q2;obtain ⟨rfl,rfl⟩:=q2;obtain ⟨b0,q3,q4⟩:=hx k0 v0 q1;exact ⟨J0 l l' b0,by rw[cO,jO,q3];rfl,by rw[nr];exact q4⟩
  rw[g4 k hk];rw[JW h1 h2 hk]
theorem tG (J:Nat){f:fI}{fn:Func}{c:Code}(hf:P.funcs[f]? =some fn)(hb:fn.body=some c)(hok:codeOk fn.ntmps c=true):
 ∀(ρ:List (Nat × Nat)) {φ:Nat->LS} {fp:nN} {ts:Env} {m:Mem} {xs:lA} {vs:aV} {k:AV->Mem->Prop},RS B N φ fp S ts m a w->o4 ρ m->qD (kT ρ m)->xs.length<=fn.ntmps→
  vs.size=xs.length->(∀i (h:i<xs.length),RV w S φ xs[i] (vs.toList.getD i uD))->(∀i (h:i<xs.length) l af,(l,af)∈ao xs[i]->known m l af)→
  vc P fn.ntmps c (bH 0 (mI ρ xs)) (kT ρ m) (OM P fn.results.toList λx m'=>sy (e7 J [] m')/\k (sw ρ (qg (e7 J [] m') x)) (sv ρ (kT (e7 J [] m') m')))→
  Calls P f vs w λe w'=>∃v,e= .returned v/\∃φ' fp' S' m' x,RS B N φ' fp' S' ts m' a w'/\RV w' S' φ' x v/\(∀l af,(l,af)∈ao x->known m' l af)/\k x m'∧
   ∀l,ah m l≠none->bE<=l->∀b,b∈fp' l->w.heap.size<=b\/b∈fp l
 | [],φ,fp,ts,m,xs,vs,k,h,_,hhi,ha,hsz,hx,hxl,hv=>by
   have hhi:=pT hhi;simp only [kT,mI] at hhi hv;rw [show xs.map (qg [])=xs from by rw [show qg []=id from rfl,List.map_id]] at hv;refine calls_of_wp hf hb ?_;have hRS:RS ⟨w,λl b=>b∈fp l,S,φ,m⟩ fn.ntmps φ fp S (bH 0 xs) m {tmps:=vs++Array.replicate (fn.ntmps-vs.size) undef,defers:=[]} w:=by
    refine {tm:=λt=> ?_,tl:=λt l af hl=> ?_,ca:=h.ca,aG:=h.aG,bl:=h.bl,hZ:=h.hZ,fL:=h.fL,bS:=h.bS,cu:=λl b hb=>⟨(h.cu l b hb).1,.inr ⟨l,hb,?_,.inl rfl⟩⟩,
            sB:=λb hb=>⟨(h.sB b hb).1,.inr hb⟩,base:=λb hb _=>rfl,out:=a7.refl _,ky:=jI.refl _,kn:=λ_ _ _ hk=>hk,fix:=λ_ _ _ _=>LS.le_refl _ _,size:=Nat.le_refl _,defers:=rfl,ly:=by simp;omega,jx:=h.jx}
    . rw [bI];by_cases ht:t<xs.length
      . have h1:=hx t ht;have e1:vs.toList.getD t uD=(vs++Array.replicate (fn.ntmps-vs.size) undef).getD t uD:=by
         have h2:t<vs.size:=(by omega);simp only[q0,q4,q2];rw[Array.getElem?_append_left h2]
        rw[←e1];simpa [ht] using h1
      have:(if 0<=t then (xs[t-0]?).getD AV.undef else .undef)= .undef:=(by simp[List.getElem?_eq_none (show xs.length<=t by omega)]);rw[this];exact .rd _ _ (.undef _)
    . rw [bI] at hl;by_cases ht:t<xs.length
      . exact hxl t ht l af (by simpa [ht] using hl)
      have:(if 0<=t then (xs[t-0]?).getD AV.undef else .undef)= .undef:=(by simp[List.getElem?_eq_none (show xs.length<=t by omega)]);rw[this] at hl;cases hl
    refine hhi l λe=>?_;rw[(h.ca l e).2] at hb;cases hb
   have fW:∀a' w',ia ⟨w,λl b=>b∈fp l,S,φ,m⟩ fn.ntmps (λts m'=>aP P (λxs=>sy (e7 J [] m')/\k (qg (e7 J [] m') (bG xs)) (kT (e7 J [] m') m')) fn.results.toList ts m' []) a' w'→
    a'.defers=[]/\∃v,(results fn a'.tmps).run P w'= .ok v w'/\∃v',Ending.returned v= .returned v'/\∃φ' fp' S' m' x,RS B N φ' fp' S' ts m' a w'/\RV w' S' φ' x v'/\(∀l af,(l,af)∈ao x->known m' l af)/\k x m'∧
     ∀l,ah m l≠none->bE<=l->∀b,b∈fp' l->w.heap.size<=b\/b∈fp l:=by
    rintro a' w' ⟨φ',fp',S',ts',m',h',hk⟩;refine ⟨h'.defers,?_⟩;obtain ⟨ys,us,⟨YU,h1⟩,h2,h3,h4⟩:=cI h' fn.results.toList [] [] ⟨rfl,λi hi=>absurd hi (q16 _)⟩ (λi hi=>absurd hi (q16 _)) hk;obtain ⟨h3a,h3b⟩:=h3;simp only [q11] at h3a h3b;obtain ⟨φ2,fp2,ts2,r1,r2,r3,r4⟩:=RS.OT (e7 J [] m') YU h';have qL:=h.back hhi r1;have hST:∀b,S' b->S b\/(S' b/\w.heap.size<=b):=λb hb=>by
     rcases (h'.sB b hb).2 with hh|hh
     . exact .inr ⟨hb,hh⟩
     exact .inl hh
    refine ⟨if h:us.toArray.size=1 then us.toArray[0] else .tuple us.toArray,?_,_,rfl,φ2,fp2,_,_,_,qL,?_,?_,h1,λl hl hl2 b hb=>?_⟩
    . have hm:results fn a'.tmps=(do let vs ←fn.results.mapM (cW a'.tmps);pure (if h:vs.size=1 then vs[0] else .tuple vs)):=by
       unfold results;congr 1
      rw[hm,Sem.run_bind,Array.mapM_eq_mapM_toList];have:(List.toArray <$> fn.results.toList.mapM (cW a'.tmps):Sem aV).run P w'= .ok us.toArray w':=by rw[map_eq_pure_bind,Sem.run_bind,h2];rfl
      rw[this];rfl
    . refine (r2 _ _ (mJ h3a h3b)).mono (λ_ _=>rfl) hST (λl b sh af cs e _ hb=>⟨cs,e,hb,rfl⟩) λ_ _ _=>LS.le_refl _ _
    . exact r3 _ (HU h4)
    rw[r4 l hl2] at hb;rcases (h'.cu l b hb).2 with hh|⟨l0,hh,_,h5⟩
    . exact .inl hh
    rcases h5 with h5|h5
    . subst h5;exact .inr hh
    exact absurd h5 hl
   refine wp_mono (cB c _ _ _ hok hv _ _ _ _ _ _ hRS) ?_;intro e a' w' hq;cases e with
   |normal=>exact fW a' w' hq
   |ret=>exact fW a' w' hq
   |_=>obtain ⟨_,_,_,_,_,_,hh⟩:=hq;exact hh.elim
 |(l,l')::r,φ,fp,ts,m,xs,vs,k,h,⟨⟨⟨hl,hio⟩,hh,hl'⟩,rJ⟩,hhi,ha,hsz,hx,hxl,hv=>by
  have hm0:ah B.m0 l'=none:=by
   cases he:ah B.m0 l' with
   |none=>rfl
   |some k0=>
    obtain ⟨k2,h7,_⟩:=h.kn l' k0.af hio ⟨k0,he,Nat.le_refl _⟩;rw[show ah m l'=none from hl'] at h7;cases h7
  have We:fp l'=[]:=(h.ca l' hl').2;have h1:=h.OL hl hm0 (λb hb=>by rw[We] at hb;cases hb);have hne:l≠l':=by unfold bE at*;omega
  have e1:rl l l' l=l':=by simp[rl]
  have e2:rl l l' l'=l:=by unfold rl;rw[if_neg (Ne.symm hne),if_pos rfl]
  have hlk:∀x,ah (x7 l l' m) x≠none↔ah m (rl l l' x)≠none:=λx=>by rw[cO];cases ah m (rl l l' x)<;>simp
  have hlen:(qC l l' xs).length=xs.length:=bZ l l' xs;have:=tG J hf hb hok r (k:=λx m'=>k (iR l l' x) (x7 l l' m')) (xs:=qC l l' xs) (vs:=vs) h1 rJ hhi (by rw[hlen];exact ha) (by rw[hlen];exact hsz) (λi hi=>?_) (λi hi l0 af hl0=>?_) ?_
  . refine this.mono ?_;rintro e w' ⟨v,rfl,φ',fp',S',m',x,g1,g2,g3,g4,g5⟩;have hb5:∀b,b∈fp' l'->B.w0.heap.size<=b:=by
     intro b hb';rcases g5 l' ((hlk l').2 (by rw[e2];exact hh)) hio b hb' with h5|h5
     . exact q14 h.size h5
     have h5:b∈fp (rl l l' l'):=h5;rw[e2] at h5;rcases (h.cu l b h5).2 with h6|⟨_,_,h6,_⟩
     . exact h6
     exact absurd hl (Nat.not_lt.2 h6)
    have g6:=g1.OL hl hm0 hb5;refine ⟨v,rfl,λk=>φ' (rl l l' k),λk=>fp' (rl l l' k),S',x7 l l' m',iR l l' x,?_,g2.DV l l',λl0 af hl0=>?_,g4,λl0 h0 h2 b hb'=>?_⟩
    . have ets:∀t,look (HN l l' (HN l l' ts)) t=look ts t:=λt=>by rw [iS,iS,CW]
      exact {g6 with tm:=λt=>by rw[←ets];exact g6.tm t,tl:=λt l af hl=>g6.tl t l af (by rw[ets];exact hl)}
    . rw[jP] at hl0;obtain ⟨⟨k0,v0⟩,q1,q2⟩:=List.mem_map.1 hl0;simp only[Prod.mk.injEq] at q2;obtain ⟨rfl,rfl⟩:=q2;obtain ⟨b0,q3,q4⟩:=g3 k0 v0 q1;exact ⟨J0 l l' b0,by rw[cO,jO,q3];rfl,by rw[nr];exact q4⟩
    have n1:l0≠l:=λe=>by subst e;exact absurd hl (Nat.not_lt.2 h2)
    have n2:l0≠l':=λe=>by subst e;exact h0 hl'
    have e3:rl l l' l0=l0:=(by unfold rl;rw[if_neg n1,if_neg n2]);have hb':b∈fp' (rl l l' l0):=hb';rw[e3] at hb';have:=g5 l0 ((hlk l0).2 (by rw[e3];exact h0)) h2 b hb';rcases this with h5|h5
    . exact .inl h5
    have h5:b∈fp (rl l l' l0):=h5;rw[e3] at h5;exact .inr h5
  . have h':i<xs.length:=(by rw[hlen] at hi;exact hi);rw[e_ l l' xs i h' hi];exact (hx i h').DV l l'
  . have h':i<xs.length:=(by rw[hlen] at hi;exact hi);rw[e_ l l' xs i h' hi,jP] at hl0;obtain ⟨⟨k0,v0⟩,q1,q2⟩:=List.mem_map.1 hl0;simp only[Prod.mk.injEq] at q2;obtain ⟨rfl,rfl⟩:=q2;obtain ⟨b0,q3,q4⟩:=hxl i h' k0 v0 q1;exact ⟨J0 l l' b0,by rw[cO,jO,q3];rfl,by rw[nr];exact q4⟩
  have:mI r (qC l l' xs)=mI ((l,l')::r) xs:=by refine List.ext_getElem (by simp[mI,hlen]) λi h1 h2=>?_;simp only[mI,q7];rw[e_ l l' xs i (by simpa [mI] using h2)];rfl
  rw[this];exact hv
theorem bJ {f:fI}{d:Nat}{xs xt:lA}{m:Mem}{k:AV->Mem->Prop}{q:Pack k}{fn:Func}{c:Code}(J:Nat)(N:Nat)(rs:List ResultVar)(hf:P.funcs[f]? =some fn)(hN:fn.ntmps=N)(hr:fn.results.toList=rs)
 (hn:(fn.name== "runtime.NumGoroutine")=false) (hb:fn.body=some c) (hok:codeOk N c=true) (ha:xs.length≤N)
 (hv:(o4 (e7 1500000000 [] m) m/\qD (kT (e7 1500000000 [] m) m))/\vc P N c (bH 0 (mI (e7 1500000000 [] m) xs)) (kT (e7 1500000000 [] m) m)
   (OM P rs λx m'=>sy (e7 J [] m')/\k (sw (e7 1500000000 [] m) (qg (e7 J [] m') x)) (sv (e7 1500000000 [] m) (kT (e7 J [] m') m')))):eo P f d xs xt m k q:=by
 subst hN;subst hr;refine .inl λB N φ fp S ts a w vs hRS hsz hx hxl=>⟨⟨fn,c,hf,hn,hb⟩,?_⟩;refine (tG J hf hb hok _ hRS hv.1.1 hv.1.2 ha hsz hx hxl hv.2).mono ?_;rintro e w' ⟨v,rfl,φ',fp',S',m',x,g1,g2,g3,g4,_⟩;exact ⟨v,rfl,φ',fp',S',ts,m',x,g1,g2,g3,rfl,g4⟩
end
end Go.Vc
