import Derived.Laws.IdiomStrings
import Derived.Deep.LoopGhost
import Derived.Test.YtofpaabacebkkaaGreatDoorPkLawRunConsoleA
set_option linter.unusedVariables false
set_option linter.unusedSimpArgs false
set_option linter.unnecessarySimpa false
set_option maxRecDepth 1000000
set_option maxHeartbeats 16000000
open Array renaming getD_eq_getD_getElem? ->q0,getElem?_eq_getElem->q1,getElem?_toList->q2
open List renaming eq_nil_of_length_eq_zero->q3,getD_eq_getElem?_getD->q4,getElem?_eq_getElem->q5,getElem_drop->q6,getElem_map->q7,getElem_of_mem->q8,getElem_take->q9,mem_singleton->q10,nil_append->q11,nodup_nil->q12,reverse_cons->q13
open Nat renaming le_trans->q14,lt_of_lt_of_le->q15,not_lt_zero->q16
namespace Go.Vc
def iK (w w':World) (S:Nat->Prop) (own:Bool) (r:AV) (v:Value):Prop:=
 if own then ∃fs,Own w' (fun _=>False) r v fs/\fs.Nodup/\∀b,b∈fs->w.heap.size<=b
 else Rd w' (fun b=>S b\/(w.heap.size<=b/\b<w'.heap.size)) r v
def Enters (P:Program) (f:FuncId):Prop:=∃fn c,P.funcs[f]? =some fn∧(fn.name== "runtime.NumGoroutine")=false∧fn.body=some c
def Fn (P:Program) (f:FuncId) (args:lA) (own:Bool) (post:AV->Prop):Prop:=
 Enters P f/\∀(w:World) (S:Nat->Prop) (vs:aV),(∀b,S b->b<w.heap.size)->J4 w S->vs.size=args.length->(∀i (h:i<args.length),Rd w S args[i] (vs.toList.getD i Go.undef))→
  Calls P f vs w fun e w'=>∃r v,e= .returned v/\post r/\Grown w w'/\iK w w' S own r v
theorem Fn.mono {P:Program} {f:FuncId} {args:lA} {own:Bool} {post post':AV->Prop} (h:Fn P f args own post) (hp:∀r,post r->post' r):Fn P f args own post':=
 ⟨h.1,fun w S vs h1 hk h2 h3=>(h.2 w S vs h1 hk h2 h3).mono fun _ _ ⟨r,v,g1,g2,g3⟩=>⟨r,v,g1,hp r g2,g3⟩⟩
def nK (v i n:Nat) (b:Option bj) (k:AV->Prop):Prop:=match b with
 |some (.row v' sh _ xs)=>v'=v/\i+n<=xs.length/\k (.arr sh ((xs.drop i).take n))
 |_=>False
@[congr] theorem Tw {v i n:Nat} {b b':Option bj} {k:AV->Prop} (h:b=b'):nK v i n b k=nK v i n b' k:=by rw [h]
theorem Af (v i n:Nat) (sh:Sh) (d:Bool) (xs:lA) (k:AV->Prop):nK v i n (some (.row v sh d xs)) k=(i+n<=xs.length/\k (.arr sh ((xs.drop i).take n))):=by simp [nK]
def fy (m:Mem) (x:AV) (k:AV->Prop):Prop:=match x with
 | .ref l v i n=>nK v i n (ah m l) k
 | .val v=>k (.val v)
 | .e0=>k .e0
 | .arr sh xs=>k (.arr sh xs)
 | .bq sh xs i j=>k (.bq sh xs i j)
 |_=>False
@[congr] theorem Rg {m:Mem} {x x':AV} {k:AV->Prop} (h:x=x'):fy m x k=fy m x' k:=by rw [h]
theorem wB (m:Mem) (l v i n:Nat) (k:AV->Prop):fy m (.ref l v i n) k=nK v i n (ah m l) k:=rfl
theorem wC (m:Mem) (v:Value) (k:AV->Prop):fy m (.val v) k=k (.val v):=rfl
theorem wD (m:Mem) (sh:Sh) (xs:lA) (k:AV->Prop):fy m (.arr sh xs) k=k (.arr sh xs):=rfl
def cV (m:Mem) (k:lA->Prop):lA->lA->Prop
 |acc,[]=>k acc.reverse
 |acc,x::r=>fy m x fun y=>cV m k (y::acc) r
theorem rn (m:Mem) (k:lA->Prop) (acc:lA):cV m k acc []=k acc.reverse:=rfl
theorem pV (m:Mem) (k:lA->Prop) (acc:lA) (x:AV) (r:lA):cV m k acc (x::r)=fy m x fun y=>cV m k (y::acc) r:=rfl
def iu (m:Mem) (x:AV) (k:AV->Prop):Prop:=match x with
 | .agg xs=>cV m (fun ys=>k (.agg ys)) [] xs
 | .ptr _ _ _ _=>k .undef
 | .cm _ _=>k .undef
 |x=>fy m x k
theorem Ag (m:Mem) (f:FuncId) (xs:lA) (k:AV->Prop):iu m (.cm f xs) k=k .undef:=rfl
theorem Ah (m:Mem) (l v i j:Nat) (k:AV->Prop):iu m (.ptr l v i j) k=k .undef:=rfl
@[congr] theorem Tx {m:Mem} {x x':AV} {k:AV->Prop} (h:x=x'):iu m x k=iu m x' k:=by rw [h]
theorem Ai (m:Mem) (xs:lA) (k:AV->Prop):iu m (.agg xs) k=cV m (fun ys=>k (.agg ys)) [] xs:=rfl
theorem Aj (m:Mem) (l v i n:Nat) (k:AV->Prop):iu m (.ref l v i n) k=nK v i n (ah m l) k:=rfl
theorem Ak (m:Mem) (v:Value) (k:AV->Prop):iu m (.val v) k=k (.val v):=rfl
theorem Al (m:Mem) (sh:Sh) (xs:lA) (k:AV->Prop):iu m (.arr sh xs) k=k (.arr sh xs):=rfl
def dE (m:Mem) (k:lA->Prop):lA->lA->Prop
 |acc,[]=>k acc.reverse
 |acc,x::r=>iu m x fun y=>dE m k (y::acc) r
theorem wE (m:Mem) (k:lA->Prop) (acc:lA):dE m k acc []=k acc.reverse:=rfl
theorem uk (m:Mem) (k:lA->Prop) (acc:lA) (x:AV) (r:lA):dE m k acc (x::r)=iu m x fun y=>dE m k (y::acc) r:=rfl
def nL (l:Nat) (x:AV) (m:Mem) (k:AV->Mem->Prop):Prop:=match x with
 | .arr sh xs=>k (.ref l (az m l) 0 xs.length) ((l,.row (az m l) sh true xs)::m)
 |x=>k x m
@[congr] theorem Ty {l:Nat} {x x':AV} {m:Mem} {k:AV->Mem->Prop} (h:x=x'):nL l x m k=nL l x' m k:=by rw [h]
theorem Am (l:Nat) (sh:Sh) (xs:lA) (m:Mem) (k:AV->Mem->Prop):nL l (.arr sh xs) m k=k (.ref l (az m l) 0 xs.length) ((l,.row (az m l) sh true xs)::m):=rfl
theorem An (l:Nat) (v:Value) (m:Mem) (k:AV->Mem->Prop):nL l (.val v) m k=k (.val v) m:=rfl
def pW (k:lA->Mem->Prop):Nat->lA->Mem->lA->Prop
 |_,acc,m,[]=>k acc.reverse m
 |l,acc,m,x::r=>nL l x m fun y m'=>pW k (l+1) (y::acc) m' r
theorem Ao (k:lA->Mem->Prop) (l:Nat) (acc:lA) (m:Mem):pW k l acc m []=k acc.reverse m:=rfl
theorem wF (k:lA->Mem->Prop) (l:Nat) (acc:lA) (m:Mem) (x:AV) (r:lA):pW k l acc m (x::r)=nL l x m fun y m'=>pW k (l+1) (y::acc) m' r:=rfl
def nM (l:Nat) (x:AV) (m:Mem) (k:AV->Mem->Prop):Prop:=match x with
 | .agg xs=>pW (fun ys m'=>k (.agg ys) m') l [] m xs
 | .aX _=>False
 |x=>nL l x m k
@[congr] theorem Tz {l:Nat} {x x':AV} {m:Mem} {k:AV->Mem->Prop} (h:x=x'):nM l x m k=nM l x' m k:=by rw [h]
theorem Ap (l:Nat) (xs:lA) (m:Mem) (k:AV->Mem->Prop):nM l (.agg xs) m k=pW (fun ys m'=>k (.agg ys) m') l [] m xs:=rfl
theorem Aq (l:Nat) (sh:Sh) (xs:lA) (m:Mem) (k:AV->Mem->Prop):nM l (.arr sh xs) m k=k (.ref l (az m l) 0 xs.length) ((l,.row (az m l) sh true xs)::m):=rfl
theorem Ar (l:Nat) (v:Value) (m:Mem) (k:AV->Mem->Prop):nM l (.val v) m k=k (.val v) m:=rfl
def lY (k:lA->Mem->Prop):Nat->lA->Mem->lA->Prop
 |_,acc,m,[]=>k acc.reverse m
 |l,acc,m,x::r=>nM l x m fun y m'=>lY k (l+16) (y::acc) m' r
theorem wG (k:lA->Mem->Prop) (l:Nat) (acc:lA) (m:Mem):lY k l acc m []=k acc.reverse m:=rfl
theorem uo (k:lA->Mem->Prop) (l:Nat) (acc:lA) (m:Mem) (x:AV) (r:lA):lY k l acc m (x::r)=nM l x m fun y m'=>lY k (l+16) (y::acc) m' r:=rfl
def mU (l:Nat) (x:AV) (m:Mem) (k:AV->Mem->Prop):Prop:=match x with
 | .aX xs=>lY (fun ys m'=>k (.aX ys) m') l [] m xs
 |x=>nM l x m k
@[congr] theorem UH {l:Nat} {x x':AV} {m:Mem} {k:AV->Mem->Prop} (h:x=x'):mU l x m k=mU l x' m k:=by rw [h]
theorem D3 (l:Nat) (xs:lA) (m:Mem) (k:AV->Mem->Prop):mU l (.aX xs) m k=lY (fun ys m'=>k (.aX ys) m') l [] m xs:=rfl
theorem D4 (l:Nat) (sh:Sh) (xs:lA) (m:Mem) (k:AV->Mem->Prop):mU l (.arr sh xs) m k=k (.ref l (az m l) 0 xs.length) ((l,.row (az m l) sh true xs)::m):=rfl
theorem D5 (l:Nat) (v:Value) (m:Mem) (k:AV->Mem->Prop):mU l (.val v) m k=k (.val v) m:=rfl
def aG:AV->Bool| .cm _ _=>true|_=>false
def ax:lA->Prop| []=>True|x::r=>(an x=[]/\aG x=false)/\ax r
def UI (own:Bool) (d:Nat) (m:Mem) (r:AV) (k:AV->Mem->Prop):Prop:=if own then mU (1000*(d+1)) r m k else k r m
structure Pack {α:Type} (k:α):Type where
def gY (P:Program) (f:FuncId) (xs:lA) (m:Mem) (k:AV->Mem->Prop):Prop:=
 ∀(B:eE) (N:Nat) (φ:Nat->LS) (fp:Nat->lN) (S:Nat->Prop) (ts:Env) (a:Act) (w:World) (vs:aV),RS B N φ fp S ts m a w->vs.size=xs.length→
  (∀i (h:i<xs.length),RV w S φ xs[i] (vs.toList.getD i Go.undef))->(∀i (h:i<xs.length) l ae,(l,ae)∈an xs[i]->known m l ae)→
  Enters P f/\Calls P f vs w fun e w'=>∃v,e= .returned v/\im B N a (fun x ts' m'=>ts'=ts/\k x m') v w'
def e6 (P:Program) (f:FuncId) (d:Nat) (xs ts:lA) (m:Mem) (k:AV->Mem->Prop) (_:Pack k):Prop:=gY P f xs m k\/∃own post,Fn P f ts own post/\(own=false->ax xs)/\∀r,post r->UI own d m r k
def nN (P:Program) (f:FuncId) (d:Nat) (xs:lA) (m:Mem) (k:AV->Mem->Prop):Prop:=dE m (fun ts=>e6 P f d xs ts m k ⟨⟩) [] xs
@[congr] theorem TA {P:Program} {f:FuncId} {d:Nat} {xs xs':lA} {m:Mem} {k:AV->Mem->Prop} (h:xs=xs'):nN P f d xs m k=nN P f d xs' m k:=by rw [h]
theorem D6 (P:Program) (f:FuncId) (d:Nat) (x:AV) (xs:lA) (m:Mem) (k:AV->Mem->Prop):nN P f d (x::xs) m k=dE m (fun ts=>e6 P f d (x::xs) ts m k ⟨⟩) [] (x::xs):=rfl
theorem As (P:Program) (f:FuncId) (d:Nat) (m:Mem) (k:AV->Mem->Prop):nN P f d [] m k=e6 P f d [] [] m k ⟨⟩:=rfl
@[congr] theorem Rh {P:Program} {f:FuncId} {d:Nat} {xs ts ts':lA} {m:Mem} {k:AV->Mem->Prop} {q:Pack k} (h:ts=ts'):e6 P f d xs ts m k q=e6 P f d xs ts' m k q:=by rw [h]
theorem aa {P:Program} {f:FuncId} {d:Nat} {xs ts:lA} {m:Mem} {k:AV->Mem->Prop} {r:AV} (h:Fn P f ts true (· =r)) (hk:mU (1000*(d+1)) r m k) {q:Pack k}:e6 P f d xs ts m k q:=
 .inr ⟨true,_,h,fun h=>(by cases h),fun _ e=>e▸hk⟩
theorem wH {P:Program} {f:FuncId} {d:Nat} {xs ts:lA} {m:Mem} {k:AV->Mem->Prop} {post:AV->Prop} (h:Fn P f ts true post) (hk:∀r,post r->mU (1000*(d+1)) r m k) {q:Pack k}:e6 P f d xs ts m k q:=
 .inr ⟨true,_,h,fun h=>(by cases h),hk⟩
theorem av {P:Program} {f:FuncId} {d:Nat} {xs ts:lA} {m:Mem} {k:AV->Mem->Prop} {r:AV} (h:Fn P f ts false (· =r)) (hl:ax xs) (hk:k r m) {q:Pack k}:e6 P f d xs ts m k q:=
 .inr ⟨false,_,h,fun _=>hl,fun _ e=>e▸hk⟩
section
variable {P:Program} {B:eE} {N:Nat} {φ:Nat->LS} {fp:Nat->lN} {S:Nat->Prop} {ts:Env} {m:Mem} {a:Act} {w:World}
def o9 (w:World):Nat->Prop:=fun b=>b<w.heap.size
theorem Own.now {S:Nat->Prop} {x:AV} {v:Value} {fs:lN} (h:Own w S x v fs) (hS:∀b,S b->b<w.heap.size):Rd w (o9 w) x v:=h.l9 hS fun b hb=>h.lt b hb
theorem sE (h:RS B N φ fp S ts m a w) {x:AV} {v:Value} (hx:RV w S φ x v) {k:AV->Prop} (hk:fy m x k):∃y,k y/\Rd w (o9 w) y v/\leaf y/\(an x=[]->Rd w S y v):=by
 have hS:∀b,S b->o9 w b:=fun b hb=>(h.sB b hb).1;unfold fy at hk;split at hk
 . rename_i l ae i n;have hr:=dm hx;unfold nK at hk;split at hk
   . rename_i v' sh deep xs hlk;obtain ⟨rfl,hin,hk⟩:=hk;refine ⟨_,hk,?_,trivial,fun hl=>by simp [an] at hl⟩;have hlen:((xs.drop i).take n).length=n:=by simp;omega
     rcases h.aF l _ hlk with ⟨h1,h2,h3⟩|⟨b,cap,hφ,hbm,hdp,bc⟩
     . obtain ⟨rfl,ad,rfl⟩:=hr.2 h1;rw [List.take_zero];exact .nil _ _
     obtain ⟨ad,cp,rfl,hnc,hcp⟩:=hr.1 b sh hφ;obtain ⟨cs,e,fss,hgf,aD,hcs,b6,hmx,hff,hfl,hvv⟩:=gA bc hbm;by_cases hc0:cp=0
     . have:n=0:=by omega
       subst this;subst hc0;rw [List.take_zero];exact .nil _ _
     obtain ⟨rfl,cs',e',g1,g2⟩:=hcp.resolve_left hc0;obtain rfl:=db (aD.symm.trans g1);have b8:i*sh.sz+n*sh.sz<=cs.size:=by rw [g2,←Nat.add_mul];exact Nat.mul_le_mul_right _ (by omega)
     have hb:o9 w b:=(h.cw l b hbm).1
     have:=Rd.arr (w:=w) (S:=o9 w) sh ((xs.drop i).take n) b (i*sh.sz) cp cs e.1 (nU e cs.size) hb aD (by rw [hlen];exact hnc) (by rw [hlen];exact b8)
      (fun q hq=>by rw [hlen] at hq;simp only [q9,q6];exact hff _ (by omega))
      (fun q hq=>by
        rw [hlen] at hq;simp only [q9,q6]
        have:=(hvv (i+q) (by omega)).now (fun c hc=>by
         cases deep with
         |true=>exact hc.elim
         |false=>exact (h.sB c hc).1)
        rwa [Nat.add_mul] at this)
     rw [hlen] at this;exact this
   exact hk.elim
 . obtain ⟨rfl,h1⟩:=aS hx;exact ⟨_,hk,.val _ h1,trivial,fun _=>.val _ h1⟩
 . obtain ⟨ad,rfl⟩:=qW hx;exact ⟨_,hk,.e0 _,trivial,fun _=>.e0 _⟩
 . exact ⟨_,hk,(lW hx).mono (fun _ _=>rfl) hS,trivial,fun _=>lW hx⟩
 . exact ⟨_,hk,(o6 hx).mono (fun _ _=>rfl) hS,trivial,fun _=>o6 hx⟩
 exact hk.elim
def pa (R:AV->Value->Prop) (xs:lA) (vs:List Value):Prop:=vs.length=xs.length/\∀i (h:i<xs.length),R xs[i] (vs.getD i Go.undef)
theorem pa.snoc {R:AV->Value->Prop} {xs:lA} {vs:List Value} (h:pa R xs vs) {x:AV} {v:Value} (hx:R x v):pa R (xs++[x]) (vs++[v]):=by
 refine ⟨by simp [h.1],fun i hi=> ?_⟩;simp only [List.length_append,List.length_singleton] at hi;rw [List.getElem_append];split
 . rename_i hlt;have:=h.2 i hlt
   rwa [q4,List.getElem?_append_left (by rw [h.1];exact hlt),←q4]
 rename_i hge;have e:i=xs.length:=by omega
 subst e;simp [q4,←h.1,hx]
theorem ou (h:RS B N φ fp S ts m a w) {Q:lA->Prop}:∀(xs:lA) (vs:List Value) (acc:lA) (va:List Value),pa (RV w S φ) xs vs->pa (fun x v=>Rd w (o9 w) x v/\leaf x) acc.reverse va→
 cV m Q acc xs->∃ys,Q ys/\pa (fun x v=>Rd w (o9 w) x v/\leaf x) ys (va++vs)
 | [],vs,acc,va,hx,ha,hk=>by
   have:vs=[]:=q3 hx.1;subst this;exact ⟨_,hk,by simpa using ha⟩
 |x::xs,vs,acc,va,hx,ha,hk=>by
  cases vs with
  |nil=>have:=hx.1;simp at this
  |cons v vs=>
   have hx0:=hx.2 0 (by simp);obtain ⟨y,hk,h1,h2,_⟩:=sE h (show RV w S φ x v from hx0) hk
   obtain ⟨ys,g1,g2⟩:=ou h xs vs (y::acc) (va++[v]) ⟨by simpa using hx.1,fun i hi=>by have:=hx.2 (i+1) (by simpa using hi);exact this⟩ (by rw [q13];exact ha.snoc ⟨h1,h2⟩) hk
   exact ⟨ys,g1,by simpa using g2⟩
theorem Nt (h:RS B N φ fp S ts m a w) {x:AV} {v:Value} (hx:RV w S φ x v) {k:AV->Prop} (hk:iu m x k):∃y,k y/\Rd w (o9 w) y v:=by
 unfold iu at hk;split at hk
 . rename_i xs;obtain ⟨cs,rfl,h1,h2,h3⟩:=mQ hx;obtain ⟨ys,g1,g2⟩:=ou h xs cs.toList [] [] ⟨by simpa using h1,h3⟩ ⟨rfl,fun i hi=>absurd hi (q16 _)⟩ hk;refine ⟨_,g1,.agg ys cs (by simpa using g2.1) (fun i hi=>(g2.2 i hi).2) fun i hi=>(g2.2 i hi).1⟩
 . exact ⟨_,hk,.undef _⟩
 . exact ⟨_,hk,.undef _⟩
 obtain ⟨y,h1,h2,_⟩:=sE h hx hk;exact ⟨y,h1,h2⟩
theorem sF (h:RS B N φ fp S ts m a w) {Q:lA->Prop}:∀(xs:lA) (vs:List Value) (acc:lA) (va:List Value),pa (RV w S φ) xs vs->pa (Rd w (o9 w)) acc.reverse va→
 dE m Q acc xs->∃ys,Q ys/\pa (Rd w (o9 w)) ys (va++vs)
 | [],vs,acc,va,hx,ha,hk=>by
   have:vs=[]:=q3 hx.1;subst this;exact ⟨_,hk,by simpa using ha⟩
 |x::xs,vs,acc,va,hx,ha,hk=>by
  cases vs with
  |nil=>have:=hx.1;simp at this
  |cons v vs=>
   have hx0:=hx.2 0 (by simp);obtain ⟨y,hk,h1⟩:=Nt h (show RV w S φ x v from hx0) hk
   obtain ⟨ys,g1,g2⟩:=sF h xs vs (y::acc) (va++[v]) ⟨by simpa using hx.1,fun i hi=>by have:=hx.2 (i+1) (by simpa using hi);exact this⟩ (by rw [q13];exact ha.snoc h1) hk
   exact ⟨ys,g1,by simpa using g2⟩
theorem D7 {Q:lA->Prop}:∀(xs acc:lA),(∀i (hi:i<xs.length),an xs[i]=[])->cV m Q acc xs->Q (acc.reverse++xs)
 | [],acc,_,hk=>by simpa [cV] using hk
 |x::xs,acc,hl,hk=>by
  have h0:an x=[]:=hl 0 (by simp);have:cV m Q (x::acc) xs:=by simp only [cV] at hk;unfold fy at hk;split at hk<;>first|exact hk|(simp [an] at h0;done)|exact hk.elim
  have:=D7 xs (x::acc) (fun i hi=>by have:=hl (i+1) (by simpa using hi);exact this) this;simpa using this
theorem Je {Q:lA->Prop}:∀(xs acc:lA),ax xs->dE m Q acc xs->Q (acc.reverse++xs)
 | [],acc,_,hk=>by simpa [dE] using hk
 |x::xs,acc,hl,hk=>by
  have h0:an x=[]:=hl.1.1;have h0':aG x=false:=hl.1.2;have:dE m Q (x::acc) xs:=by
   simp only [dE] at hk;unfold iu at hk;split at hk
   . rename_i zs;have:=D7 zs [] (bM (by simpa [an] using h0)) hk;simpa using this
   . simp [an] at h0
   . cases h0'
   unfold fy at hk;split at hk<;>first|exact hk|(simp [an] at h0;done)|exact hk.elim
  have:=Je xs (x::acc) hl.2 this;simpa using this
theorem RS.grown (h:RS B N φ fp S ts m a w) {w':World} (hg:Grown w w'):RS B N φ fp S ts m a w':=by
 have hs:∀l b,b∈fp l->w'.heap[b]? =w.heap[b]? :=fun l b hb=>hg.same b (h.cw l b hb).1;have hS:∀b,S b->w'.heap[b]? =w.heap[b]? :=fun b hb=>hg.same b (h.sB b hb).1;have hz:fS φ w w':=fun l b sh ae cs e hl hb=>⟨cs,e,(hs l b (h.at_mem hl)).trans hb,rfl⟩
 exact {h with
  tm:=fun t=>(h.tm t).mono hS (fun _ h=>h) hz fun l ae _=>LS.le_refl _ _
  aF:=fun l k hk=>(h.aF l k hk).mono hS (fun _ h=>h) hz (hs l) rfl fun _ _ _ _ _ _=>LS.le_refl _ _
  cw:=fun l b hb=>⟨q15 (h.cw l b hb).1 hg.size,(h.cw l b hb).2⟩
  sB:=fun b hb=>⟨q15 (h.sB b hb).1 hg.size,(h.sB b hb).2⟩
  base:=fun b hb hio=>(hg.same b (q15 hb h.size)).trans (h.base b hb hio)
  out:=h.out.trans hg.out
  kj:=h.kj.trans (jD.of_same hg.same)
  js:=h.js.mono hS fun _ h=>h
  size:=q14 h.size hg.size}
theorem RS.hold (h:RS B N φ fp S ts m a w) (T:Nat->Prop) (hT:∀b,T b->b<w.heap.size/\B.w0.heap.size<=b/\∀l,b∉fp l):RS B N φ fp (fun b=>S b\/T b) ts m a w:=by
 have hz:fS φ w w:=fun l b sh ae cs e _ hb=>⟨cs,e,hb,rfl⟩
 exact {h with
  tm:=fun t=>(h.tm t).mono (fun _ _=>rfl) (fun _ h=>.inl h) hz fun l ae _=>LS.le_refl _ _
  aF:=fun l k hk=>(h.aF l k hk).mono (fun _ _=>rfl) (fun _ h=>.inl h) hz (fun _ _=>rfl) rfl fun _ _ _ _ _ _=>LS.le_refl _ _
  bQ:=fun l b hb hs=>hs.elim (h.bQ l b hb) fun ht=>(hT b ht).2.2 l hb
  sB:=fun b hb=>hb.elim (h.sB b) fun ht=>⟨(hT b ht).1,.inl (hT b ht).2.1⟩
  js:=h.js.mono (fun _ _=>rfl) fun _ h=>.inl h
  }
structure ov (B:eE) (N:Nat) (φ φ':Nat->LS) (fp fp':Nat->lN) (S:Nat->Prop) (ts:Env) (m m':Mem) (a:Act) (w:World) (fs:lN):Prop where
 rs:RS B N φ' fp' S ts m' a w
 UJ:∀l b,b∈fp' l->b∈fp l\/b∈fs
 rv:∀z u,RV w S φ z u->(∀l ae,(l,ae)∈an z->known m l ae)->RV w S φ' z u
 kn:∀l ae,known m l ae->known m' l ae
theorem ov.refl (h:RS B N φ fp S ts m a w) (fs:lN):ov B N φ φ fp fp S ts m m a w fs:=⟨h,fun _ _ h=>.inl h,fun _ _ h _=>h,fun _ _ h=>h⟩
theorem D8 (h:RS B N φ fp S ts m a w) {x:AV} {v:Value} {fs:lN} (hx:Own w (fun _=>False) x v fs) (hlf:leaf x) (hnd:fs.Nodup) (hfr:∀b,b∈fs->B.w0.heap.size<=b/\¬S b/\∀l,b∉fp l)
 (l:Nat) {k:AV->Mem->Prop} (hk:nL l x m k):
 ∃φ' fp' y m',ov B N φ φ' fp fp' S ts m m' a w fs/\k y m'/\leaf y/\RV w S φ' y v/\∀l ae,(l,ae)∈an y->known m' l ae:=by
 have other:(∀sh xs,x≠ .arr sh xs)->k x m->∃φ' fp' y m',ov B N φ φ' fp fp' S ts m m' a w fs/\k y m'/\leaf y/\RV w S φ' y v/\∀l ae,(l,ae)∈an y->known m' l ae:=by
  intro hna hk;have hrd:Rd w (fun _=>False) x v:=by
   cases hx with
   |rd _ _ h=>exact h
   |arr=>exact absurd rfl (hna _ _)
   |agg=>exact hlf.elim
   |aX=>exact hlf.elim
  exact ⟨φ,fp,x,m,ov.refl h fs,hk,hlf,.rd _ _ (hrd.mono (fun _ _=>rfl) fun _ h=>h.elim),fun l ae hl=>by rw [fT hrd] at hl;cases hl⟩
 cases x with
 |arr sh xs=>
  have j4:∀(x':LS) (fs':lN),(∀b,b∈fs'->b∈fs)->(∀ae,known m l ae->LS.le x' (φ l) ae)->fs'.Nodup→
   BR w S (nJ φ l x') l fs' (.row (az m l) sh true xs)->RV w S (nJ φ l x') (.ref l (az m l) 0 xs.length) v→
   ∃φ' fp' y m',ov B N φ φ' fp fp' S ts m m' a w fs/\k y m'/\leaf y/\RV w S φ' y v/\∀l ae,(l,ae)∈an y->known m' l ae:=by
   intro x' fs' tC hle Yp hbr hrv
   have hRS:=h.next l x' fs' S (.row (az m l) sh true xs) (Nat.le_refl _) (a8.refl _) (jD.refl _) (fun _ _ _=>rfl) (fun b hb=>⟨hb,rfl⟩) (fun b h1 h2=>absurd h1 h2) (fun l b sh ae cs e _ hb=>⟨cs,e,hb,rfl⟩) (fun _ _ _ _=>rfl)
    hle (fun ae hv=>Nat.le_of_lt (eX hv)) hbr (fun _ _ hx=>by cases hx) Yp (fun b hb=>⟨(hfr b (tC b hb)).2.1,fun l' _=>(hfr b (tC b hb)).2.2 l',hx.lt b (tC b hb),.inl (hfr b (tC b hb)).1⟩)
   have hkn:∀l' ae,known m l' ae->known ((l,.row (az m l) sh true xs)::m) l' ae:=by
    intro l' ae hkk;by_cases e:l=l'
    . subst e;exact ⟨.row (az m l) sh true xs,by simp [aw],Nat.le_of_lt (eX hkk)⟩
    obtain ⟨k',h1,h2⟩:=hkk;exact ⟨k',by simp [aw,e,h1],h2⟩
   refine ⟨_,_,.ref l (az m l) 0 xs.length,_,⟨hRS,?_,?_,hkn⟩,hk,trivial,hrv,?_⟩
   . intro l' b hb;by_cases e:l'=l
     . subst e;rw [aB] at hb;exact .inr (tC b hb)
     rw [bA _ _ _ _ e] at hb;exact .inl hb
   . intro z u hz hl;refine hz.mono (fun _ _=>rfl) (fun _ h=>h) (fun l b sh ae cs e _ hb=>⟨cs,e,hb,rfl⟩) fun l' ae hl'=> ?_;by_cases e:l'=l
     . subst e;rw [aB];exact hle ae (hl _ ae hl')
     rw [bA _ _ _ _ e];exact LS.le_refl _ _
   intro l' ae hl;simp only [an,q10,Prod.mk.injEq] at hl;obtain ⟨rfl,rfl⟩:=hl;exact ⟨_,by simp [aw];rfl,Nat.le_refl _⟩
  cases hx with
  |rd _ _ hrd=>
   cases hrd with
   |nil _ ad=>
    refine j4 (.nil (az m l)) [] (by simp) (fun ae hv=>⟨fun _ _ h=>(by cases h),fun hh=> ?_⟩) (by simp) (.inl ⟨aB _ _ _,rfl,rfl⟩) ?_
    . injection hh with hh;exact absurd (eX hv) (by omega)
    refine .ref _ _ _ _ _ (fun b' sh' hb'=> ?_) (fun _=>⟨rfl,ad,rfl⟩) rfl;rw [aB] at hb';cases hb'
   |arr _ _ b off cap cs e fr hS=>exact hS.elim
  |arr _ _ b cap cs e fss hb hc hl hm hf hs hv=>
   refine j4 (.at b sh (az m l)) (b::fss.flatten) (fun _ h=>h) (fun ae hkk=>LS.kz _ _ _ _ _ (eX hkk)) hnd (.inr ⟨b,cap,aB _ _ _,List.mem_cons_self ..,by simp,.arr sh xs b cap cs e fss hb hc hl hm hf hs hv⟩) ?_;refine .ref _ _ _ _ _ (fun b' sh' hb'=> ?_) (fun hb'=> ?_) rfl
   . rw [aB] at hb';cases hb';exact ⟨_,cap,rfl,hl,.inr ⟨by simp,cs,e,hb,by rw [hc,Nat.zero_add]⟩⟩
   rw [aB] at hb';cases hb'
 |_=>exact other (fun _ _ e=>by cases e) hk
theorem Nu {fss:List lN} {f:lN} (h:(f::fss).flatten.Nodup):f.Nodup/\fss.flatten.Nodup/\∀b,b∈f->b∉fss.flatten:=by rw [List.flatten_cons] at h;exact ⟨(List.nodup_append.1 h).1,(List.nodup_append.1 h).2.1,fun b h1 h2=>(List.nodup_append.1 h).2.2 b h1 b h2 rfl⟩
theorem wI {one:Nat->AV->Mem->(AV->Mem->Prop)->Prop} {ok:AV->Prop} {step:Nat}
 (lf:∀(φ:Nat->LS) (fp:Nat->lN) (m:Mem),RS B N φ fp S ts m a w->∀(x:AV) (v:Value) (fs:lN),Own w (fun _=>False) x v fs->ok x->fs.Nodup->(∀b,b∈fs->B.w0.heap.size<=b/\¬S b/\∀l,b∉fp l)→
   ∀(l:Nat) (k:AV->Mem->Prop),one l x m k->∃φ' fp' y m',ov B N φ φ' fp fp' S ts m m' a w fs/\k y m'/\ok y/\RV w S φ' y v/\∀l ae,(l,ae)∈an y->known m' l ae)
 {Q:lA->Mem->Prop} {many:Nat->lA->Mem->lA->Prop} (jq:∀l acc m,many l acc m []->Q acc.reverse m) (GC:∀l acc m x r,many l acc m (x::r)->one l x m fun y m'=>many (l+step) (y::acc) m' r):
 ∀(xs:lA) (vs:List Value) (fss:List lN) (l:Nat) (acc:lA) (va:List Value) (φ:Nat->LS) (fp:Nat->lN) (m:Mem),RS B N φ fp S ts m a w→
  vs.length=xs.length->fss.length=xs.length->(∀i (h:i<xs.length),Own w (fun _=>False) xs[i] (vs.getD i Go.undef) (fss.getD i []))->(∀i (h:i<xs.length),ok xs[i])→
  fss.flatten.Nodup->(∀b,b∈fss.flatten->B.w0.heap.size<=b/\¬S b/\∀l,b∉fp l)→
  pa (fun x v=>ok x/\RV w S φ x v/\∀l ae,(l,ae)∈an x->known m l ae) acc.reverse va->many l acc m xs→
  ∃φ' fp' m' ys,RS B N φ' fp' S ts m' a w/\(∀l b,b∈fp' l->b∈fp l\/b∈fss.flatten)/\(∀z u,RV w S φ z u->(∀l ae,(l,ae)∈an z->known m l ae)->RV w S φ' z u)/\(∀l ae,known m l ae->known m' l ae)∧
   Q ys m'/\pa (fun x v=>ok x/\RV w S φ' x v/\∀l ae,(l,ae)∈an x->known m' l ae) ys (va++vs)
 | [],vs,fss,l,acc,va,φ,fp,m,h,hv,_,_,_,_,_,ha,hk=>by
   have:vs=[]:=q3 hv;subst this;exact ⟨φ,fp,m,_,h,fun _ _ h=>.inl h,fun _ _ h _=>h,fun _ _ h=>h,jq l acc m hk,by simpa using ha⟩
 |x::xs,vs,fss,l,acc,va,φ,fp,m,h,hv,hf,ho,hok,hnd,hfr,ha,hk=>by
  cases vs with
  |nil=>simp at hv
  |cons v vs=>
   cases fss with
   |nil=>simp at hf
   |cons f fss=>
    obtain ⟨n1,n2,n3⟩:=Nu hnd;have ho0:=ho 0 (by simp);obtain ⟨φ1,fp1,y,m1,hm,hk1,hy1,hy2,hy3⟩:=lf φ fp m h x v f ho0 (hok 0 (by simp)) n1 (fun b hb=>hfr b (by simp [hb])) l _ (GC l acc m x xs hk);have ha1:pa (fun x v=>ok x/\RV w S φ1 x v/\∀l ae,(l,ae)∈an x->known m1 l ae) (y::acc).reverse (va++[v]):=by rw [q13];refine pa.snoc ⟨ha.1,fun i hi=> ?_⟩ ⟨hy1,hy2,hy3⟩;obtain ⟨q1,q2,q3⟩:=ha.2 i hi;exact ⟨q1,hm.rv _ _ q2 q3,fun l ae hl=>hm.kn l ae (q3 l ae hl)⟩
    obtain ⟨φ2,fp2,m2,ys,g1,g2,g3,g4,g5,g6⟩:=wI lf jq GC xs vs fss (l+step) (y::acc) (va++[v]) φ1 fp1 m1 hm.rs (by simpa using hv) (by simpa using hf)
     (fun i hi=>by have:=ho (i+1) (by simpa using hi);exact this) (fun i hi=>by have:=hok (i+1) (by simpa using hi);exact this) n2
     (fun b hb=>by
       obtain ⟨q1,q2,q3⟩:=hfr b (by simp only [List.flatten_cons,List.mem_append];exact .inr hb);refine ⟨q1,q2,fun l hl=> ?_⟩;rcases hm.UJ l b hl with hh|hh
       . exact q3 l hh
       exact n3 b hh hb) ha1 hk1
    refine ⟨φ2,fp2,m2,ys,g1,fun l b hb=> ?_,fun z u hz hl=>g3 z u (hm.rv z u hz hl) fun l ae h=>hm.kn l ae (hl l ae h),fun l ae h=>g4 l ae (hm.kn l ae h),g5,by simpa using g6⟩;rcases g2 l b hb with hh|hh
    . rcases hm.UJ l b hh with h3|h3
      . exact .inl h3
      exact .inr (by simp [h3])
    exact .inr (by simp only [List.flatten_cons,List.mem_append];exact .inr hh)
theorem Ci {S:Nat->Prop} {xs:lA} {v:Value} {fs:lN} (h:Own w S (.agg xs) v fs):∃(cs:aV) (fss:List lN),v= .agg cs/\fs=fss.flatten/\cs.size=xs.length/\(∀i (h:i<xs.length),leaf xs[i])/\fss.length=xs.length∧
 ∀i (h:i<xs.length),Own w S xs[i] (cs.toList.getD i Go.undef) (fss.getD i []):=by
 cases h with
 |rd _ _ h=>
  obtain ⟨cs,rfl,h1,h2,h3⟩:=od h;refine ⟨cs,List.replicate xs.length [],rfl,(List.flatten_eq_nil_iff.2 fun l hl=>(List.mem_replicate.1 hl).2).symm,h1,h2,by simp,fun i hi=> ?_⟩;rw [show (List.replicate xs.length ([]:lN)).getD i []=[] by simp [q4,hi]];exact .rd _ _ (h3 i hi)
 |agg _ cs fss h1 h2 h3 h4=>exact ⟨cs,fss,rfl,rfl,h1,h2,h3,h4⟩
theorem Jf {S:Nat->Prop} {xs:lA} {v:Value} {fs:lN} (h:Own w S (.aX xs) v fs):∃(cs:aV) (fss:List lN),v= .tuple cs/\fs=fss.flatten/\cs.size=xs.length/\fss.length=xs.length∧
 ∀i (h:i<xs.length),Own w S xs[i] (cs.toList.getD i Go.undef) (fss.getD i []):=by
 cases h with
 |rd _ _ h=>
  cases h with
  |aX _ cs h1 h3=>
  refine ⟨cs,List.replicate xs.length [],rfl,(List.flatten_eq_nil_iff.2 fun l hl=>(List.mem_replicate.1 hl).2).symm,h1,by simp,fun i hi=> ?_⟩;rw [show (List.replicate xs.length ([]:lN)).getD i []=[] by simp [q4,hi]];exact .rd _ _ (h3 i hi)
 |aX _ cs fss h1 h3 h4=>exact ⟨cs,fss,rfl,rfl,h1,h3,h4⟩
theorem D9 (h:RS B N φ fp S ts m a w) {x:AV} {v:Value} {fs:lN} (hx:Own w (fun _=>False) x v fs) (hnd:fs.Nodup) (hfr:∀b,b∈fs->B.w0.heap.size<=b/\¬S b/\∀l,b∉fp l)
 (l:Nat) {k:AV->Mem->Prop} (hk:nM l x m k) (hnt:∀xs,x≠ .aX xs):
 ∃φ' fp' y m',ov B N φ φ' fp fp' S ts m m' a w fs/\k y m'/\RV w S φ' y v/\∀l ae,(l,ae)∈an y->known m' l ae:=by
 have fin:leaf x->nL l x m k->∃φ' fp' y m',ov B N φ φ' fp fp' S ts m m' a w fs/\k y m'/\RV w S φ' y v/\∀l ae,(l,ae)∈an y->known m' l ae:=by intro hlf hk;obtain ⟨φ',fp',y,m',g1,g2,_,g3,g4⟩:=D8 h hx hlf hnd hfr l hk;exact ⟨φ',fp',y,m',g1,g2,g3,g4⟩
 cases x with
 |agg xs=>
  obtain ⟨cs,fss,rfl,rfl,h1,h2,h3,h4⟩:=Ci hx
  obtain ⟨φ',fp',m',ys,g1,g2,g3,g4,g5,g6⟩:=wI (one:=nL) (ok:=leaf) (step:=1) (Q:=fun ys m'=>k (.agg ys) m') (many:=fun l acc m xs=>pW (fun ys m'=>k (.agg ys) m') l acc m xs)
   (fun φ fp m hRS x v fs ho hlf hn hf l k hk=>D8 hRS ho hlf hn hf l hk) (fun _ _ _ h=>h) (fun _ _ _ _ _ h=>h) xs cs.toList fss l [] [] φ fp m h (by simpa using h1) h3 h4 h2 hnd hfr ⟨rfl,fun i hi=>absurd hi (q16 _)⟩ hk
  refine ⟨φ',fp',.agg ys,m',⟨g1,g2,g3,g4⟩,g5,.agg ys cs (by simpa using g6.1) (fun i hi=>(g6.2 i hi).1) (fun i hi=>(g6.2 i hi).2.1),?_⟩;intro l ae hl;obtain ⟨i,hi,hl'⟩:=bW (by simpa [an] using hl);exact (g6.2 i hi).2.2 l ae hl'
 |aX xs=>exact absurd rfl (hnt xs)
 |undef=>
  cases hx with
  |rd _ _ hr=>exact ⟨φ,fp,.undef,m,ov.refl h _,hk,.rd _ _ (.undef _),fun _ _ hl=>by cases hl⟩
 |_=>exact fin trivial hk
theorem Cj (h:RS B N φ fp S ts m a w) {x:AV} {v:Value} {fs:lN} (hx:Own w (fun _=>False) x v fs) (hnd:fs.Nodup) (hfr:∀b,b∈fs->B.w0.heap.size<=b/\¬S b/\∀l,b∉fp l)
 (l:Nat) {k:AV->Mem->Prop} (hk:mU l x m k):
 ∃φ' fp' y m',ov B N φ φ' fp fp' S ts m m' a w fs/\k y m'/\RV w S φ' y v/\∀l ae,(l,ae)∈an y->known m' l ae:=by
 cases x with
 |aX xs=>
  obtain ⟨cs,fss,rfl,rfl,h1,h3,h4⟩:=Jf hx;simp only [mU] at hk
  obtain ⟨φ',fp',m',ys,g1,g2,g3,g4,g5,g6⟩:=wI (one:=nM) (ok:=fun _=>True) (step:=16) (Q:=fun ys m'=>k (.aX ys) m') (many:=fun l acc m xs=>lY (fun ys m'=>k (.aX ys) m') l acc m xs)
   (fun φ fp m hRS x v fs ho _ hn hf l k hk=>by
     by_cases hnt:∃zs,x= .aX zs
     . obtain ⟨zs,rfl⟩:=hnt;exact hk.elim
     obtain ⟨φ',fp',y,m',q1,q2,q3,q4⟩:=D9 hRS ho hn hf l hk fun zs e=>hnt ⟨zs,e⟩
     exact ⟨φ',fp',y,m',q1,q2,trivial,q3,q4⟩) (fun _ _ _ h=>h) (fun _ _ _ _ _ h=>h) xs cs.toList fss l [] [] φ fp m h (by simpa using h1) h3 h4 (fun _ _=>trivial) hnd hfr ⟨rfl,fun i hi=>absurd hi (q16 _)⟩ hk
  refine ⟨φ',fp',.aX ys,m',⟨g1,g2,g3,g4⟩,g5,.aX ys cs (by simpa using g6.1) (fun i hi=>(g6.2 i hi).2.1),?_⟩;intro l ae hl;obtain ⟨i,hi,hl'⟩:=bW (by simpa [an] using hl);exact (g6.2 i hi).2.2 l ae hl'
 |_=>exact D9 h hx hnd hfr l hk (fun _ e=>by cases e)
def uq (l:Nat) (φ:Nat->LS) (k:Nat):LS:=if k=l then .dead else φ k
def GX (l:Nat) (fp:Nat->lN) (k:Nat):lN:=if k=l then [] else fp k
theorem rp {l k:Nat} {φ:Nat->LS} (h:k≠l):uq l φ k=φ k:=if_neg h
theorem Jg {l k:Nat} {fp:Nat->lN} (h:k≠l):GX l fp k=fp k:=if_neg h
theorem rq {l k b:Nat} {fp:Nat->lN} (h:b∈GX l fp k):k≠l/\b∈fp k:=by
 unfold GX at h;split at h
 . cases h
 exact ⟨‹_›,h⟩
theorem RS.XH (h:RS B N φ fp S ts m a w) {l v:Nat} {b0:bj} (hl:l<bE) (hm:ah m l=some b0) (hv:b0.ae=v):
 RS B N (uq l φ) (GX l fp) (fun b=>S b\/b∈fp l) ts ((l,.gone v)::m) a w:=by
 have hz:fS φ w w:=fun l b sh ae cs e _ hb=>⟨cs,e,hb,rfl⟩;have hle:∀k ae,LS.le (uq l φ k) (φ k) ae:=fun k ae=>by
  unfold uq;split
  . exact LS.qR _ _
  exact LS.le_refl _ _
 have hkn:∀k ae,known m k ae->known ((l,.gone v)::m) k ae:=by
  rintro k ae ⟨b,h1,h2⟩;by_cases e:k=l
  . subst e;rw [hm] at h1;injection h1 with h1;subst h1
    exact ⟨.gone v,by rw [aw,if_pos rfl],by show ae<=v;omega⟩
  exact ⟨b,by rw [aw,if_neg (Ne.symm e)];exact h1,h2⟩
 refine {tm:=fun t=>(h.tm t).mono (fun _ _=>rfl) (fun _ h=>.inl h) hz fun k ae _=>hle k ae,tl:=fun t k ae hk=>hkn k ae (h.tl t k ae hk),b7:=fun k hk=> ?_,aF:=fun k b hb=> ?_,bl:=fun k v' xs hb k' ae hk=> ?_,
         gZ:=fun k=> ?_,fI:=fun k k' b h1 h2=>h.fI k k' b (rq h1).2 (rq h2).2,bQ:=fun k b hb=> ?_,cw:=fun k b hb=>h.cw k b (rq hb).2,sB:=fun b hb=> ?_,base:=h.base,out:=h.out,kj:=h.kj,
         kn:=fun k ae hk hk2=>hkn k ae (h.kn k ae hk hk2),fix:=fun k ae hk hk2=>LS.le_trans (hle k ae) (h.fix k ae hk hk2),size:=h.size,defers:=h.defers,k6:=h.k6,js:=h.js.mono (fun _ _=>rfl) fun _ h=>.inl h}
 . rw [aw] at hk;split at hk
   . cases hk
   rename_i e;rw [rp (Ne.symm e),Jg (Ne.symm e)];exact h.b7 k hk
 . rw [aw] at hb;split at hb
   . rename_i e;subst e;injection hb with hb
     subst hb;exact ⟨by unfold uq;rw [if_pos rfl],by unfold GX;rw [if_pos rfl]⟩
   rename_i e;rw [Jg (Ne.symm e)];exact (h.aF k b hb).mono (fun _ _=>rfl) (fun _ h=>.inl h) hz (fun _ _=>rfl) (rp (Ne.symm e)) fun v' xs _ k' ae _=>hle k' ae
 . rw [aw] at hb;split at hb
   . cases hb
   exact hkn k' ae (h.bl k v' xs hb k' ae hk)
 . unfold GX;split
   . exact q12
   exact h.gZ k
 . obtain ⟨h1,h2⟩:=rq hb;rintro (hs|hs)
   . exact h.bQ k b h2 hs
   exact h1 (h.fI k l b h2 hs)
 rcases hb with hb|hb
 . exact h.sB b hb
 refine ⟨(h.cw l b hb).1,?_⟩;rcases (h.cw l b hb).2 with hh|⟨_,_,hh,_⟩
 . exact .inl hh
 exact absurd hl (Nat.not_lt.2 hh)
theorem Ck (h:RS B N φ fp S ts m a w) {l v i n:Nat} {sh:Sh} {d:Bool} {xs:lA} {u:Value} (hl:l<bE) (hm:ah m l=some (.row v sh d xs)) (hn:i+n<=xs.length) (hu:RV w S φ (.ref l v i n) u):
 Rd w (fun b=>S b\/b∈fp l) (.arr sh ((xs.drop i).take n)) u:=by
 have hr:=dm hu;have hlen:((xs.drop i).take n).length=n:=by simp;omega
 rcases h.aF l _ hm with ⟨h1,h2,h3⟩|⟨b,cap,hφ,hbm,hdp,bc⟩
 . obtain ⟨rfl,ad,rfl⟩:=hr.2 h1;rw [List.take_zero];exact .nil _ _
 obtain ⟨ad,cp,rfl,hnc,hcp⟩:=hr.1 b sh hφ;obtain ⟨cs,e,fss,hgf,aD,hcs,b6,hmx,hff,hfl,hvv⟩:=gA bc hbm;by_cases hc0:cp=0
 . have:n=0:=by omega
   subst this;subst hc0;rw [List.take_zero];exact .nil _ _
 obtain ⟨rfl,cs',e',g1,g2⟩:=hcp.resolve_left hc0;obtain rfl:=db (aD.symm.trans g1);have b8:i*sh.sz+n*sh.sz<=cs.size:=by rw [g2,←Nat.add_mul];exact Nat.mul_le_mul_right _ (by omega)
 have:=Rd.arr (w:=w) (S:=fun b=>S b\/b∈fp l) sh ((xs.drop i).take n) b (i*sh.sz) cp cs e.1 (nU e cs.size) (.inr hbm) aD (by rw [hlen];exact hnc) (by rw [hlen];exact b8)
  (fun q hq=>by rw [hlen] at hq;simp only [q9,q6];exact hff _ (by omega))
  (fun q hq=>by
    rw [hlen] at hq;simp only [q9,q6]
    have:=(hvv (i+q) (by omega)).l9 (S':=fun b=>S b\/b∈fp l) (fun c hc=>by
     cases d with
     |true=>exact hc.elim
     |false=>exact .inl hc) (fun c hc=>.inr (by rw [hgf];exact List.mem_cons_of_mem _ (aI (by omega) hc)))
    rwa [Nat.add_mul] at this)
 rw [hlen] at this;exact this
def ru (l v i n:Nat) (b:Option bj) (m:Mem) (k:AV->Mem->Prop):Prop:=match b with
 |some (.row v' sh _ ys)=>v'=v/\l<bE/\i+n<=ys.length/\k (.arr sh ((ys.drop i).take n)) ((l,.gone v)::m)
 |_=>False
@[congr] theorem TB {l v i n:Nat} {b b':Option bj} {m:Mem} {k:AV->Mem->Prop} (h:b=b'):ru l v i n b m k=ru l v i n b' m k:=by rw [h]
theorem Au (l v i n:Nat) (sh:Sh) (d:Bool) (ys:lA) (m:Mem) (k:AV->Mem->Prop):ru l v i n (some (.row v sh d ys)) m k=(l<1000000000/\i+n<=ys.length/\k (.arr sh ((ys.drop i).take n)) ((l,.gone v)::m)):=by simp [ru,bE]
def ml (x:AV) (m:Mem) (k:AV->Mem->Prop):Prop:=match x with
 | .ref l v i n=>ru l v i n (ah m l) m k
 |x=>k x m
@[congr] theorem TC {x x':AV} {m:Mem} {k:AV->Mem->Prop} (h:x=x'):ml x m k=ml x' m k:=by rw [h]
theorem Av (l v i n:Nat) (m:Mem) (k:AV->Mem->Prop):ml (.ref l v i n) m k=ru l v i n (ah m l) m k:=rfl
theorem Aw (v:Value) (m:Mem) (k:AV->Mem->Prop):ml (.val v) m k=k (.val v) m:=rfl
theorem Ax (sh:Sh) (xs:lA) (m:Mem) (k:AV->Mem->Prop):ml (.arr sh xs) m k=k (.arr sh xs) m:=rfl
def mV (k:lA->Mem->Prop):lA->Mem->lA->Prop
 |acc,m,[]=>k acc.reverse m
 |acc,m,x::r=>ml x m fun y m'=>mV k (y::acc) m' r
theorem wJ (k:lA->Mem->Prop) (acc:lA) (m:Mem):mV k acc m []=k acc.reverse m:=rfl
theorem ur (k:lA->Mem->Prop) (acc:lA) (m:Mem) (x:AV) (r:lA):mV k acc m (x::r)=ml x m fun y m'=>mV k (y::acc) m' r:=rfl
def lx (x:AV) (m:Mem) (k:AV->Mem->Prop):Prop:=match x with
 | .agg xs=>mV (fun ys m'=>k (.agg ys) m') [] m xs
 |x=>ml x m k
@[congr] theorem TD {x x':AV} {m:Mem} {k:AV->Mem->Prop} (h:x=x'):lx x m k=lx x' m k:=by rw [h]
theorem Ay (xs:lA) (m:Mem) (k:AV->Mem->Prop):lx (.agg xs) m k=mV (fun ys m'=>k (.agg ys) m') [] m xs:=rfl
theorem Az (l v i n:Nat) (m:Mem) (k:AV->Mem->Prop):lx (.ref l v i n) m k=ru l v i n (ah m l) m k:=rfl
theorem AA (v:Value) (m:Mem) (k:AV->Mem->Prop):lx (.val v) m k=k (.val v) m:=rfl
theorem AB (sh:Sh) (xs:lA) (m:Mem) (k:AV->Mem->Prop):lx (.arr sh xs) m k=k (.arr sh xs) m:=rfl
def pX (k:List (Nat × AV)->Mem->Prop):List (Nat × AV)->Mem->List (Nat × AV)->Prop
 |acc,m,[]=>k acc.reverse m
 |acc,m,(i,x)::r=>lx x m fun y m'=>pX k ((i,y)::acc) m' r
theorem AD (k:List (Nat × AV)->Mem->Prop) (acc:List (Nat × AV)) (m:Mem):pX k acc m []=k acc.reverse m:=rfl
theorem wK (k:List (Nat × AV)->Mem->Prop) (acc:List (Nat × AV)) (m:Mem) (i:Nat) (x:AV) (r:List (Nat × AV)):pX k acc m ((i,x)::r)=lx x m fun y m'=>pX k ((i,y)::acc) m' r:=rfl
def iL (k:lA->Mem->Prop):lA->Mem->lA->Prop
 |acc,m,[]=>k acc.reverse m
 |acc,m,x::r=>lx x m fun y m'=>iL k (y::acc) m' r
theorem wL (k:lA->Mem->Prop) (acc:lA) (m:Mem):iL k acc m []=k acc.reverse m:=rfl
theorem uu (k:lA->Mem->Prop) (acc:lA) (m:Mem) (x:AV) (r:lA):iL k acc m (x::r)=lx x m fun y m'=>iL k (y::acc) m' r:=rfl
def gC (ti:TI) (d n:Nat) (parts:List (Nat × AV)) (m:Mem) (k:AV->Mem->Prop):Prop:=pX (fun ps m'=>ir ti d n ps m' k) [] m parts
theorem nO (ti:TI) (d n:Nat) (parts:List (Nat × AV)) (m:Mem) (k:AV->Mem->Prop):gC ti d n parts m k=pX (fun ps m'=>ir ti d n ps m' k) [] m parts:=rfl
structure Ea (B:eE) (N:Nat) (φ φ':Nat->LS) (S S':Nat->Prop) (fp':Nat->lN) (ts:Env) (m':Mem) (a:Act) (w:World):Prop where
 rs:RS B N φ' fp' S' ts m' a w
 rv:∀z u,RV w S φ z u->RV w S' φ' z u
theorem Eb (h:RS B N φ fp S ts m a w) {x:AV} {u:Value} (hu:RV w S φ x u) {k:AV->Mem->Prop} (hk:ml x m k):∃φ' fp' S' m' y,Ea B N φ φ' S S' fp' ts m' a w/\RV w S' φ' y u/\(leaf x->leaf y)/\k y m':=by
 unfold ml at hk;split at hk
 . rename_i l v i n;unfold ru at hk;split at hk
   . rename_i v' sh d ys hlk;obtain ⟨rfl,hl,hn,hk⟩:=hk;refine ⟨_,_,_,_,_,⟨h.XH hl hlk (v:=v') rfl,fun z u hz=>hz.mono (fun _ _=>rfl) (fun _ h=>.inl h) (fun l b sh ae cs e _ hb=>⟨cs,e,hb,rfl⟩) fun k ae _=> ?_⟩,.rd _ _ (Ck h hl hlk hn hu),fun _=>trivial,hk⟩;unfold uq;split
     . exact LS.qR _ _
     exact LS.le_refl _ _
   exact hk.elim
 exact ⟨φ,fp,S,m,x,⟨h,fun _ _ h=>h⟩,hu,id,hk⟩
theorem AE {Q:lA->Mem->Prop}:∀(xs:lA) (vs:List Value) (acc:lA) (va:List Value) {φ:Nat->LS} {fp:Nat->lN} {S:Nat->Prop} {m:Mem},RS B N φ fp S ts m a w->vs.length=xs.length->(∀i (h:i<xs.length),leaf xs[i]/\RV w S φ xs[i] (vs.getD i Go.undef))→
 pa (fun x v=>RV w S φ x v/\leaf x) acc.reverse va->mV Q acc m xs->∃φ' fp' S' m' ys,Ea B N φ φ' S S' fp' ts m' a w/\pa (fun x v=>RV w S' φ' x v/\leaf x) ys (va++vs)/\Q ys m'
 | [],vs,acc,va,φ,fp,S,m,h,hl,_,ha,hk=>by
   have:vs=[]:=q3 hl;subst this;exact ⟨φ,fp,S,m,_,⟨h,fun _ _ h=>h⟩,by simpa using ha,hk⟩
 |x::xs,vs,acc,va,φ,fp,S,m,h,hl,hx,ha,hk=>by
  cases vs with
  |nil=>simp at hl
  |cons v vs=>
   obtain ⟨hx1,hx2⟩:=hx 0 (by simp);obtain ⟨φ1,fp1,S1,m1,y,g1,g2,g3,g4⟩:=Eb h (show RV w S φ x v from hx2) hk
   obtain ⟨φ2,fp2,S2,m2,ys,q1,q2,q3⟩:=AE xs vs (y::acc) (va++[v]) g1.rs (by simpa using hl) (fun i hi=>by
    have:=hx (i+1) (by simpa using hi)
    exact ⟨this.1,g1.rv _ _ this.2⟩) (by
    rw [q13]
    exact pa.snoc ⟨ha.1,fun i hi=>⟨g1.rv _ _ (ha.2 i hi).1,(ha.2 i hi).2⟩⟩ ⟨g2,g3 hx1⟩) g4
   exact ⟨φ2,fp2,S2,m2,ys,⟨q1.rs,fun z u hz=>q1.rv _ _ (g1.rv _ _ hz)⟩,by simpa using q2,q3⟩
theorem Ec (h:RS B N φ fp S ts m a w) {x:AV} {u:Value} (hu:RV w S φ x u) {k:AV->Mem->Prop} (hk:lx x m k):∃φ' fp' S' m' y,Ea B N φ φ' S S' fp' ts m' a w/\RV w S' φ' y u/\k y m':=by
 unfold lx at hk;split at hk
 . rename_i xs;obtain ⟨cs,rfl,h1,h2,h3⟩:=mQ hu;obtain ⟨φ',fp',S',m',ys,g1,g2,g3⟩:=AE xs cs.toList [] [] h (by simpa using h1) (fun i hi=>⟨h2 i hi,h3 i hi⟩) ⟨rfl,fun i hi=>absurd hi (q16 _)⟩ hk;refine ⟨φ',fp',S',m',_,g1,.agg ys cs (by simpa using g2.1) (fun i hi=>(g2.2 i hi).2) (fun i hi=>(g2.2 i hi).1),g3⟩
 obtain ⟨φ',fp',S',m',y,g1,g2,_,g3⟩:=Eb h hu hk;exact ⟨φ',fp',S',m',y,g1,g2,g3⟩
theorem pc {Q:lA->Mem->Prop}:∀(xs:lA) (vs:List Value) (acc:lA) (va:List Value) {φ:Nat->LS} {fp:Nat->lN} {S:Nat->Prop} {m:Mem},RS B N φ fp S ts m a w->pa (RV w S φ) xs vs→
 pa (RV w S φ) acc.reverse va->iL Q acc m xs->∃φ' fp' S' m' ys,Ea B N φ φ' S S' fp' ts m' a w/\pa (RV w S' φ') ys (va++vs)/\Q ys m'
 | [],vs,acc,va,φ,fp,S,m,h,hx,ha,hk=>by
   have:vs=[]:=q3 hx.1;subst this;exact ⟨φ,fp,S,m,_,⟨h,fun _ _ h=>h⟩,by simpa using ha,hk⟩
 |x::xs,vs,acc,va,φ,fp,S,m,h,hx,ha,hk=>by
  cases vs with
  |nil=>have:=hx.1;simp at this
  |cons v vs=>
   have hx2:=hx.2 0 (by simp);obtain ⟨φ1,fp1,S1,m1,y,g1,g2,g4⟩:=Ec h (show RV w S φ x v from hx2) hk
   obtain ⟨φ2,fp2,S2,m2,ys,q1,q2,q3⟩:=pc xs vs (y::acc) (va++[v]) g1.rs ⟨by simpa using hx.1,fun i hi=>by
    have:=hx.2 (i+1) (by simpa using hi)
    exact g1.rv _ _ this⟩ (by
    rw [q13]
    exact pa.snoc ⟨ha.1,fun i hi=>g1.rv _ _ (ha.2 i hi)⟩ g2) g4
   exact ⟨φ2,fp2,S2,m2,ys,⟨q1.rs,fun z u hz=>q1.rv _ _ (g1.rv _ _ hz)⟩,by simpa using q2,q3⟩
theorem Jh {R:AV->Value->Prop} {i:Nat} {x:AV} {v:Value} (hx:R x v):∀(ps:List (Nat × AV)) (vs:List (Nat × Value)),PR R ps vs->PR R (ps++[(i,x)]) (vs++[(i,v)])
 | [],[],_=>⟨rfl,hx,trivial⟩
 |(j,y)::r,(j',u)::s,⟨h1,h2,h3⟩=>⟨h1,h2,Jh hx r s h3⟩
 | [],_::_,h=>h.elim
 |_::_,[],h=>h.elim
theorem Cl {R R':AV->Value->Prop} (hR:∀x v,R x v->R' x v):∀(ps:List (Nat × AV)) (vs:List (Nat × Value)),PR R ps vs->PR R' ps vs
 | [],[],_=>trivial
 |(j,y)::r,(j',u)::s,⟨h1,h2,h3⟩=>⟨h1,hR _ _ h2,Cl hR r s h3⟩
 | [],_::_,h=>h.elim
 |_::_,[],h=>h.elim
theorem Ed {Q:List (Nat × AV)->Mem->Prop}:∀(ps:List (Nat × AV)) (vs:List (Nat × Value)) (acc:List (Nat × AV)) (va:List (Nat × Value)) {φ:Nat->LS} {fp:Nat->lN} {S:Nat->Prop} {m:Mem},RS B N φ fp S ts m a w->PR (RV w S φ) ps vs→
 PR (RV w S φ) acc.reverse va->pX Q acc m ps->∃φ' fp' S' m' qs,Ea B N φ φ' S S' fp' ts m' a w/\PR (RV w S' φ') qs (va++vs)/\Q qs m'
 | [],[],acc,va,φ,fp,S,m,h,_,ha,hk=>⟨φ,fp,S,m,_,⟨h,fun _ _ h=>h⟩,by simpa using ha,hk⟩
 |(i,x)::r,(j,v)::s,acc,va,φ,fp,S,m,h,⟨e,hx,hr⟩,ha,hk=>by
  subst e;obtain ⟨φ1,fp1,S1,m1,y,g1,g2,g4⟩:=Ec h hx hk
  obtain ⟨φ2,fp2,S2,m2,qs,q1,q2,q3⟩:=Ed r s ((i,y)::acc) (va++[(i,v)]) g1.rs (Cl g1.rv _ _ hr) (by
   rw [q13]
   exact Jh g2 _ _ (Cl g1.rv _ _ ha)) g4
  exact ⟨φ2,fp2,S2,m2,qs,⟨q1.rs,fun z u hz=>q1.rv _ _ (g1.rv _ _ hz)⟩,by simpa using q2,q3⟩
 | [],_::_,_,_,_,_,_,_,_,h,_,_=>h.elim
 |_::_,[],_,_,_,_,_,_,_,h,_,_=>h.elim
theorem vj {t:TypeId} {tt ti:TI} (htt:aJ P t=some tt) (hks:tt.kind= .slice) (ht:aJ P tt.elem=some ti) (h:RS B N φ fp S ts m a w) {parts:List (Nat × AV)} {vparts:List (Nat × Value)} (hp:PR (RV w S φ) parts vparts) (d n:Nat)
 {k:AV->Mem->Prop} (hk:gC ti d n parts m k):iE B N a (fun x ts' m'=>ts'=ts/\k x m') ((Instr.buildSlice t n vparts.toArray).run P w):=by
 obtain ⟨φ',fp',S',m',qs,g1,g2,g3⟩:=Ed parts vparts [] [] h hp trivial hk;exact vi htt hks ht g1.rs g2 d n g3
def sG (d:Nat) (x:AV) (m:Mem) (k:AV->Mem->Prop):Prop:=match x with
 | .val (.string s)=>s.data.size<=1048576/\k (.ref d (az m d) 0 s.data.size) ((d,.row (az m d) ⟨1,false⟩ true (s.data.toList.map fun b=>.val (.int .u8 b.toNat)))::m)
 |_=>False
@[congr] theorem Ri {d:Nat} {x x':AV} {m:Mem} {k:AV->Mem->Prop} (h:x=x'):sG d x m k=sG d x' m k:=by rw [h]
theorem Kh (h:RS B N φ fp S ts m a w) {src t e:TypeId} (hs:P.underlying src=some .string) (hd:P.underlying t=some (.slice e)) (he:P.underlying e=some (.int .u8)) {s:ByteArray} (hl:s.data.size<=1048576) (d:Nat)
 {k:AV->Mem->Prop} (hk:k (.ref d (az m d) 0 s.data.size) ((d,.row (az m d) ⟨1,false⟩ true (s.data.toList.map fun b=>.val (.int .u8 b.toNat)))::m)):
 iE B N a (fun x ts' m'=>ts'=ts/\k x m') ((convert src t (.string s)).run P w):=by
 refine ⟨_,_,run_bytes_of_string w src t e s hs hd he,?_⟩;have hsz:s.size=s.data.size:=rfl;have hge:=grownCap_ge w s.size 0 e;have hle:grownCap w s.size 0 e<=maxLen:=grownCap_le_maxLen w _ _ _ (by unfold maxLen;omega);generalize grownCap w s.size 0 e=gc at hge hle ⊢;have hC:(bytesRow s gc).size=gc:=by simp [bytesRow];omega
 have hg:∀i (hi:i<s.data.size),(bytesRow s gc).toList.getD i Go.undef= .int .u8 (s.data.toList[i]'(by simpa using hi)).toNat:=by intro i hi;rw [q4,q2];unfold bytesRow;rw [Array.getElem?_append_left (by simpa using hi)];have hi2:i<s.data.size:=hi;simp only [Array.getElem?_map,q1 hi2,Option.map_some,Option.getD_some,Array.getElem_toList]
 have il:(w.drew.alloc (.cells (bytesRow s gc) e ((bytesRow s gc).size,(bytesRow s gc).size+1))).heap[w.heap.size]? =some (eo (bytesRow s gc) (e,true)):=GK w.drew _;have hold:∀b,b<w.heap.size->(w.drew.alloc (.cells (bytesRow s gc) e ((bytesRow s gc).size,(bytesRow s gc).size+1))).heap[b]? =w.heap[b]? :=fun b hb=>I4 w.drew _ b hb;have hws:(w.drew.alloc (.cells (bytesRow s gc) e ((bytesRow s gc).size,(bytesRow s gc).size+1))).heap.size=w.heap.size+1:=by simp
 have hso:a8 w (w.drew.alloc (.cells (bytesRow s gc) e ((bytesRow s gc).size,(bytesRow s gc).size+1))):=⟨rfl,rfl,rfl⟩;generalize w.drew.alloc (.cells (bytesRow s gc) e ((bytesRow s gc).size,(bytesRow s gc).size+1))=w' at il hold hws hso ⊢;generalize bytesRow s gc=C at il hC hg;have hlen:(s.data.toList.map fun b=>AV.val (.int .u8 b.toNat)).length=s.data.size:=by simp
 have bc:Own w' (if true=true then fun _=>False else S) (.arr ⟨1,false⟩ (s.data.toList.map fun b=>AV.val (.int .u8 b.toNat))) (.slice (some ⟨w.heap.size,0,none⟩) (s.data.toList.map fun b=>AV.val (.int .u8 b.toNat)).length gc) [w.heap.size]:=by
  have e1:[w.heap.size]=w.heap.size::(List.replicate (s.data.toList.map fun b=>AV.val (.int .u8 b.toNat)).length ([]:lN)).flatten:=by congr 1;exact (List.flatten_eq_nil_iff.2 fun l hl=>(List.mem_replicate.1 hl).2).symm
  rw [e1];refine .arr ⟨1,false⟩ _ w.heap.size gc C (e,true) _ il (by rw [hC,Nat.mul_one]) (by rw [hlen];omega) hle (fun i hi=> ?_) (by simp) fun i hi=> ?_
  . rw [q7];exact ⟨rfl,rfl⟩
  rw [hlen] at hi;rw [bg,Nat.mul_one,hg i hi,q7];have e2:(List.replicate (s.data.toList.map fun b=>AV.val (.int .u8 b.toNat)).length ([]:lN)).getD i []=[]:=by rw [q4,List.getElem?_replicate];split<;>rfl
  rw [e2];exact .rd _ _ (.val _ rfl)
 refine h.kb (b:=w.heap.size) (cap:=gc) (by omega) hso (jD.of_same hold) (fun c _ hc=>hold c hc) (fun l b sh ae cs e hl hb=>⟨cs,e,by rw [hold b (h.cw l b (h.at_mem hl)).1];exact hb,rfl⟩) (.inr ⟨rfl,by omega⟩) (fun ae hv=>eX hv)
  (fun c hc=>.inl (q10.1 hc)) (q10.2 rfl) (fun h=>by cases h) (List.nodup_cons.2 ⟨List.not_mem_nil,q12⟩) bc ?_ ⟨rfl,hk⟩
 exact ⟨_,gc,by rw [hsz],by omega,.inr ⟨rfl,_,_,il,by rw [hC,Nat.mul_one]⟩⟩
end
def wM (kd:TK) (k:Prop):Prop:=match kd with| .slice=>k|_=>False
theorem AF (k:Prop):wM .slice k=k:=rfl
def V8 (kd:TK) (k:Prop):Prop:=match kd with| .struct=>k|_=>False
theorem wN (k:Prop):V8 .struct k=k:=rfl
def ry (m:Mem) (x:AV) (k:AV->Prop):Prop:=match x with
 | .ptr l v i j=>ga v (ah m l) (k (.ptr l v i j))
 | .bq sh xs i j=>k (.bq sh xs i j)
 | .cm f xs=>k (.cm f xs)
 |_=>False
@[congr] theorem UK {m:Mem} {x x':AV} {k:AV->Prop} (h:x=x'):ry m x k=ry m x' k:=by rw [h]
theorem Ee (m:Mem) (l v i j:Nat) (k:AV->Prop):ry m (.ptr l v i j) k=ga v (ah m l) (k (.ptr l v i j)):=rfl
theorem AG (m:Mem) (sh:Sh) (xs:lA) (i j:Nat) (k:AV->Prop):ry m (.bq sh xs i j) k=k (.bq sh xs i j):=rfl
def mW (P:Program) (tt:TI) (x:AV) (lo hi:Option AV) (m:Mem) (k:AV->Prop):Prop:=match tt.kind with
 | .string=>(match x with| .val (.string _)=>True|_=>False)/\fN ⟨0,false⟩ x lo hi m k
 | .slice=>(match x with| .arr _ _=>True| .ref _ _ _ _=>True|_=>False)/\dZ (aJ P tt.elem) fun ti=>fN ti.sh x lo hi m k
 |_=>False
@[congr] theorem UL {P:Program} {tt:TI} {x x':AV} {lo hi lo' hi':Option AV} {m:Mem} {k:AV->Prop} (h:x=x') (h1:lo=lo') (h2:hi=hi'):mW P tt x lo hi m k=mW P tt x' lo' hi' m k:=by rw [h,h1,h2]
theorem Ef (P:Program) (ag:Bool) (s b:Nat) (z:AV) (f:List (Nat × Nat × Bool)) (e:Nat) (u:ByteArray) (lo hi:Option AV) (m:Mem) (k:AV->Prop):
 mW P ⟨ag,s,b,z,f,e,.string⟩ (.val (.string u)) lo hi m k=fN ⟨0,false⟩ (.val (.string u)) lo hi m k:=by simp [mW]
theorem Eg (P:Program) (ag:Bool) (s b:Nat) (z:AV) (f:List (Nat × Nat × Bool)) (e:Nat) (sh:Sh) (xs:lA) (lo hi:Option AV) (m:Mem) (k:AV->Prop):
 mW P ⟨ag,s,b,z,f,e,.slice⟩ (.arr sh xs) lo hi m k=dZ (aJ P e) fun ti=>fN ti.sh (.arr sh xs) lo hi m k:=by simp [mW]
theorem Eh (P:Program) (ag:Bool) (s b:Nat) (z:AV) (f:List (Nat × Nat × Bool)) (e:Nat) (l v i n:Nat) (lo hi:Option AV) (m:Mem) (k:AV->Prop):
 mW P ⟨ag,s,b,z,f,e,.slice⟩ (.ref l v i n) lo hi m k=dZ (aJ P e) fun ti=>fN ti.sh (.ref l v i n) lo hi m k:=by simp [mW]
def pY (sh:Sh) (l v i0 n:Nat) (i:Int) (b:Option bj) (k:AV->Prop):Prop:=match b with
 |some (.row v' sh' _ _)=>v'=v/\sh'=sh/\((0<=i/\i<n)/\k (.ptr l v (i0+i.toNat) 0))
 |some (.box v' _)=>v'=v/\i0=0/\sh.sz=1/\((0<=i/\i<n)/\k (.ptr l v 0 i.toNat))
 |_=>False
@[congr] theorem TE {sh:Sh} {l v i0 n:Nat} {i:Int} {b b':Option bj} {k:AV->Prop} (h:b=b'):pY sh l v i0 n i b k=pY sh l v i0 n i b' k:=by rw [h]
theorem AH (sh:Sh) (l v i0 n:Nat) (i:Int) (d:Bool) (xs:lA) (k:AV->Prop):pY sh l v i0 n i (some (.row v sh d xs)) k=((0<=i/\i<n)/\k (.ptr l v (i0+i.toNat) 0)):=by simp [pY]
def ow (sh:Sh) (m:Mem) (x i:AV) (k:AV->Prop):Prop:=match x,i with
 | .arr sh' xs,.val (.int _ i)=>sh'=sh/\(0<=i/\i<xs.length)/\k (.bq sh xs i.toNat 0)
 | .ref l v i0 n,.val (.int _ i)=>pY sh l v i0 n i (ah m l) k
 |_,_=>False
@[congr] theorem UM {sh:Sh} {m:Mem} {x x' i i':AV} {k:AV->Prop} (h:x=x') (h':i=i'):ow sh m x i k=ow sh m x' i' k:=by rw [h,h']
theorem wO (sh:Sh) (m:Mem) (xs:lA) (j:IntKind) (i:Int) (k:AV->Prop):ow sh m (.arr sh xs) (.val (.int j i)) k=((0<=i/\i<xs.length)/\k (.bq sh xs i.toNat 0)):=by simp [ow]
theorem Ei (sh:Sh) (m:Mem) (l v i0 n:Nat) (j:IntKind) (i:Int) (k:AV->Prop):ow sh m (.ref l v i0 n) (.val (.int j i)) k=pY sh l v i0 n i (ah m l) k:=rfl
def Nv (sh:Sh) (u:Value) (i:AV) (m0:Mem) (k:AV->Prop):Mem->Prop
 | []=>False
 |(l,.sub v sh' xs u')::_=>(ah m0 l=some (.sub v sh' xs u')/\u'=u/\sh'=sh)/\(match i with| .val (.int _ n)=>(0<=n/\n<xs.length)/\k (.ptr l v n.toNat 0)|_=>False)
 |_::r=>Nv sh u i m0 k r
section
variable (sh:Sh) (u:Value) (j:IntKind) (n:Int) (m0:Mem) (k:AV->Prop) (l:Nat) (r:Mem)
end
def uv (sh:Sh) (m:Mem) (x i:AV) (k:AV->Prop):Prop:=match x with
 | .val u=>Nv sh u i m k m
 |x=>ow sh m x i k
@[congr] theorem TF {sh:Sh} {m:Mem} {x x' i i':AV} {k:AV->Prop} (h:x=x') (h':i=i'):uv sh m x i k=uv sh m x' i' k:=by rw [h,h']
theorem AI (sh:Sh) (m:Mem) (xs:lA) (j:IntKind) (i:Int) (k:AV->Prop):uv sh m (.arr sh xs) (.val (.int j i)) k=((0<=i/\i<xs.length)/\k (.bq sh xs i.toNat 0)):=wO sh m xs j i k
theorem AJ (sh:Sh) (m:Mem) (l v i0 n:Nat) (j:IntKind) (i:Int) (k:AV->Prop):uv sh m (.ref l v i0 n) (.val (.int j i)) k=pY sh l v i0 n i (ah m l) k:=rfl
theorem Nw {sh:Sh} {m:Mem} {x i:AV} {k:AV->Prop} (h:ow sh m x i k):uv sh m x i k:=by
 cases x with
 |val u=>cases i<;>exact h.elim
 |_=>exact h
def YQ (P:Program) (tys:List TypeId) (d:Nat) (x y:AV) (m:Mem) (k:AV->Mem->Prop):Prop:=match tys with
 | [t,t']=>dZ (aJ P t) fun tt=>wM tt.kind (dZ (aJ P t') fun tt'=>wM tt'.kind (dZ (aJ P tt.elem) fun ti=>vg ti d x y m k))
 |_=>False
def kE (P:Program) (tys:List TypeId) (d:Nat) (x y:AV) (m:Mem) (k:AV->Mem->Prop):Prop:=match tys with
 | [t,t']=>dZ (aJ P t) fun tt=>wM tt.kind (dZ (aJ P t') fun tt'=>wM tt'.kind (dZ (aJ P tt.elem) fun ti=>lu ti d x y m k))
 |_=>False
theorem AK (P:Program) (t t':TypeId) (d:Nat) (x y:AV) (m:Mem) (k:AV->Mem->Prop):
 kE P [t,t'] d x y m k=dZ (aJ P t) fun tt=>wM tt.kind (dZ (aJ P t') fun tt'=>wM tt'.kind (dZ (aJ P tt.elem) fun ti=>lu ti d x y m k)):=rfl
theorem Ji (ti:TI) (d:Nat) (x y:AV) (m:Mem) (k:AV->Mem->Prop):
 vg ti d x y m k=(ti.bytes<=65536/\0<ti.size/\fits ti.sh ti.zero/\qj ti.sh y m fun ys=>bn ys=true/\om ti d x ys m k):=rfl
def Wj:Option Operand->Bool
 |some (.const (.int _ n))=>n==0
 |_=>false
def ql (ag:Bool) (n j:Nat) (x:AV) (k:AV->Prop):Prop:=match x with| .agg ys=>dh ag n j (.agg ys) k|_=>False
@[congr] theorem Rj {ag:Bool} {n j:Nat} {x x':AV} {k:AV->Prop} (h:x=x'):ql ag n j x k=ql ag n j x' k:=by rw [h]
def pZ (a:AV) (m:Mem) (k:Bool->Prop):Prop:=match a with
 | .arr _ xs=>∀c,(c=true->xs=[])->k c
 | .ref l v _ n=>ga v (ah m l) (∀c,(c=true->n=0)->k c)
 | .e0=>∀c,k c
 | .val (.slice none 0 0)=>k true
 |_=>False
@[congr] theorem TG {a a':AV} {m:Mem} {k:Bool->Prop} (h:a=a'):pZ a m k=pZ a' m k:=by rw [h]
theorem AL (sh:Sh) (xs:lA) (m:Mem) (k:Bool->Prop):pZ (.arr sh xs) m k=∀c,(c=true->xs=[])->k c:=rfl
theorem AM (m:Mem) (k:Bool->Prop):pZ (.val (.slice none 0 0)) m k=k true:=rfl
def UN:Operand->Bool| .const _=>true|_=>false
theorem Ki (v:Value):UN (.const v)=true:=rfl
theorem Rk (t:Nat):UN (.tmp t)=false:=rfl
def GY (op:BinOp) (a:AV) (c:Bool) (k:AV->Prop):Prop:=match op,a with
 | .eql,.val .nilIface=>c=true/\k (.val (.bool true))
 | .neq,.val .nilIface=>c=true/\k (.val (.bool false))
 | .eql,.val (.iface _ _)=>k (.val (.bool false))
 | .neq,.val (.iface _ _)=>k (.val (.bool true))
 |_,_=>False
@[congr] theorem UO {op:BinOp} {a a':AV} {c:Bool} {k:AV->Prop} (h:a=a'):GY op a c k=GY op a' c k:=by rw [h]
theorem Jj (c:Bool) (k:AV->Prop):GY .eql (.val .nilIface) c k=(c=true/\k (.val (.bool true))):=rfl
theorem Jk (t:TypeId) (v:Value) (c:Bool) (k:AV->Prop):GY .eql (.val (.iface t v)) c k=k (.val (.bool false)):=rfl
def ly (op:BinOp) (kd:TK) (a b:AV) (c:Bool) (m:Mem) (k:AV->Prop):Prop:=match kd,op,b with
 | .slice,.eql,.val (.slice none 0 0)=>pZ a m fun c=>k (.val (.bool c))
 | .slice,.neq,.val (.slice none 0 0)=>pZ a m fun c=>k (.val (.bool (!c)))
 | .iface,op,.val .nilIface=>GY op a c k
 |kd,op,b=>k8 op kd a b k
@[congr] theorem TH {op:BinOp} {kd:TK} {a b a' b':AV} {c:Bool} {m:Mem} {k:AV->Prop} (h:a=a') (h':b=b'):ly op kd a b c m k=ly op kd a' b' c m k:=by rw [h,h']
theorem AN (a:AV) (c:Bool) (m:Mem) (k:AV->Prop):ly .eql .slice a (.val (.slice none 0 0)) c m k=pZ a m fun c=>k (.val (.bool c)):=rfl
theorem AO (a:AV) (c:Bool) (m:Mem) (k:AV->Prop):ly .neq .slice a (.val (.slice none 0 0)) c m k=pZ a m fun c=>k (.val (.bool (!c))):=rfl
theorem uw (op:BinOp) (a:AV) (c:Bool) (m:Mem) (k:AV->Prop):ly op .iface a (.val .nilIface) c m k=GY op a c k:=by cases op<;>rfl
theorem AP (op:BinOp) (i:IntKind) (a b:AV) (c:Bool) (m:Mem) (k:AV->Prop):ly op (.int i) a b c m k=k8 op (.int i) a b k:=rfl
theorem wP (op:BinOp) (a b:AV) (c:Bool) (m:Mem) (k:AV->Prop):ly op .bool a b c m k=k8 op .bool a b k:=rfl
theorem rz (op:BinOp) (a b:AV) (c:Bool) (m:Mem) (k:AV->Prop):ly op .string a b c m k=k8 op .string a b k:=rfl
theorem Nx {op:BinOp} {kd:TK} {a b:AV} {c:Bool} {m:Mem} {k:AV->Prop} (h:k8 op kd a b k):ly op kd a b c m k:=by
 unfold ly;split
 . unfold k8 at h;split at h<;>first|exact h.elim|(rename_i e;cases e)
 . unfold k8 at h;split at h<;>first|exact h.elim|(rename_i e;cases e)
 . unfold k8 at h;split at h<;>first|exact h.elim|(rename_i e;cases e)
 exact h
def mX (P:Program) (c:AV) (d:Nat) (xs:lA) (m:Mem) (k:AV->Mem->Prop):Prop:=match c with
 | .cm f ys=>nN P f d (xs++ys) m k
 |_=>False
@[congr] theorem Rl {P:Program} {c c':AV} {d:Nat} {xs xs':lA} {m:Mem} {k:AV->Mem->Prop} (h:c=c') (h':xs=xs'):mX P c d xs m k=mX P c' d xs' m k:=by rw [h,h']
theorem wQ (P:Program) (f:FuncId) (ys:lA) (d:Nat) (xs:lA) (m:Mem) (k:AV->Mem->Prop):mX P (.cm f ys) d xs m k=nN P f d (xs++ys) m k:=rfl
def jx (k:AV->Prop):lU->lA->Prop
 |acc,[]=>k (.val (.string ⟨acc.reverse.toArray⟩))
 |acc,.val (.int .u8 z)::r=>(0<=z/\z<256)/\jx k (UInt8.ofNat z.toNat::acc) r
 |_,_=>False
theorem oz (k:AV->Prop) (acc:lU):jx k acc []=k (.val (.string ⟨acc.reverse.toArray⟩)):=rfl
theorem mY (k:AV->Prop) (acc:lU) (z:Int) (r:lA):jx k acc (.val (.int .u8 z)::r)=((0<=z/\z<256)/\jx k (UInt8.ofNat z.toNat::acc) r):=rfl
theorem Ny (b:UInt8):(0<=((b.toNat:Nat):Int)/\((b.toNat:Nat):Int)<256)/\UInt8.ofNat ((b.toNat:Nat):Int).toNat=b:=by have:=b.toNat_lt;refine ⟨⟨by omega,by omega⟩,?_⟩;simp
theorem oA (k:AV->Prop):∀(bs acc:lU),jx k acc (bs.map fun b=>.val (.int .u8 b.toNat))=k (.val (.string ⟨(acc.reverse++bs).toArray⟩))
 | [],acc=>by simp [jx]
 |b::r,acc=>by rw [List.map_cons,mY,(Ny b).2,oA k r (b::acc)];simp [(Ny b).1]
theorem ux {k:AV->Prop}:∀{xs:lA} {acc:lU},jx k acc xs->∃bs:lU,xs=bs.map (fun b=>.val (.int .u8 b.toNat))/\k (.val (.string ⟨(acc.reverse++bs).toArray⟩))
 | [],acc,h=>⟨[],rfl,by rw [oz] at h;simpa using h⟩
 | .val (.int .u8 z)::r,acc,h=>by
   obtain ⟨⟨h0,h1⟩,h⟩:=h;obtain ⟨bs,rfl,hk⟩:=ux h;refine ⟨UInt8.ofNat z.toNat::bs,?_,by simpa using hk⟩;have:((UInt8.ofNat z.toNat).toNat:Int)=z:=by rw [UInt8.toNat_ofNat_of_lt' (by show z.toNat<256;omega)];omega
   rw [List.map_cons,this]
def oB (y:AV) (k:AV->Prop):Prop:=match y with| .arr _ xs=>jx k [] xs|_=>False
@[congr] theorem Rm {y y':AV} {k:AV->Prop} (h:y=y'):oB y k=oB y' k:=by rw [h]
theorem wR (sh:Sh) (xs:lA) (k:AV->Prop):oB (.arr sh xs) k=jx k [] xs:=rfl
def wS (kd:TK) (k:Prop):Prop:=match kd with| .int .u8=>k|_=>False
theorem Rn (k:Prop):wS (.int .u8) k=k:=rfl
def Ej (x:AV) (k:AV->Prop):Prop:=match x with| .val (.int _ n)=>(0<=n/\n<128)/\k (.val (.string ⟨#[UInt8.ofNat n.toNat]⟩))|_=>False
@[congr] theorem UP {y y':AV} {k:AV->Prop} (h:y=y'):Ej y k=Ej y' k:=by rw [h]
theorem Ek (i:IntKind) (n:Int) (k:AV->Prop):Ej (.val (.int i n)) k=((0<=n/\n<128)/\k (.val (.string ⟨#[UInt8.ofNat n.toNat]⟩))):=rfl
def fO (P:Program) (si ti:TI) (x:AV) (m:Mem) (k:AV->Prop):Prop:=match si.kind,ti.kind with
 | .slice,.string=>dZ (aJ P si.elem) fun ei=>wS ei.kind (fy m x fun y=>oB y k)
 | .int _,.string=>Ej x k
 |_,d=>tG d x k
@[congr] theorem Ro {P:Program} {si ti:TI} {x x':AV} {m:Mem} {k:AV->Prop} (h:x=x'):fO P si ti x m k=fO P si ti x' m k:=by rw [h]
section
variable (P:Program) (ag ag':Bool) (s b s' b':Nat) (z z':AV) (f f':List (Nat × Nat × Bool)) (e e':Nat) (x:AV) (m:Mem) (k:AV->Prop)
theorem rA:fO P ⟨ag,s,b,z,f,e,.slice⟩ ⟨ag',s',b',z',f',e',.string⟩ x m k=dZ (aJ P e) fun ei=>wS ei.kind (fy m x fun y=>oB y k):=rfl
theorem wT (i:IntKind):fO P ⟨ag,s,b,z,f,e,.int i⟩ ⟨ag',s',b',z',f',e',.string⟩ x m k=Ej x k:=rfl
theorem wU (kd:TK) (i:IntKind):fO P ⟨ag,s,b,z,f,e,kd⟩ ⟨ag',s',b',z',f',e',.int i⟩ x m k=tG (.int i) x k:=by cases kd<;>rfl
end
def kF (P:Program) (si ti:TI) (d:Nat) (x:AV) (m:Mem) (k:AV->Mem->Prop):Prop:=match si.kind,ti.kind with
 | .string,.slice=>dZ (aJ P ti.elem) fun ei=>wS ei.kind (sG d x m k)
 |_,_=>fO P si ti x m fun v=>k v m
@[congr] theorem Rp {P:Program} {si ti:TI} {d:Nat} {x x':AV} {m:Mem} {k:AV->Mem->Prop} (h:x=x'):kF P si ti d x m k=kF P si ti d x' m k:=by rw [h]
section
variable (P:Program) (ag ag':Bool) (s b s' b':Nat) (z z':AV) (f f':List (Nat × Nat × Bool)) (e e' d:Nat) (x:AV) (m:Mem) (k:AV->Mem->Prop)
theorem rB:kF P ⟨ag,s,b,z,f,e,.slice⟩ ⟨ag',s',b',z',f',e',.string⟩ d x m k=fO P ⟨ag,s,b,z,f,e,.slice⟩ ⟨ag',s',b',z',f',e',.string⟩ x m fun v=>k v m:=rfl
theorem wV (i:IntKind):kF P ⟨ag,s,b,z,f,e,.int i⟩ ⟨ag',s',b',z',f',e',.string⟩ d x m k=fO P ⟨ag,s,b,z,f,e,.int i⟩ ⟨ag',s',b',z',f',e',.string⟩ x m fun v=>k v m:=rfl
theorem wW (kd:TK) (i:IntKind):kF P ⟨ag,s,b,z,f,e,kd⟩ ⟨ag',s',b',z',f',e',.int i⟩ d x m k=fO P ⟨ag,s,b,z,f,e,kd⟩ ⟨ag',s',b',z',f',e',.int i⟩ x m fun v=>k v m:=by cases kd<;>rfl
end
def iI (P:Program) (d:Nat) (op:Op) (ts:Env) (m:Mem) (k:AV->Mem->Prop):Prop:=
 match op with
 | .move x=>k (ev ts x) m
 | .assign x=>k (ev ts x) m
 | .pick c a b=>pR (ev ts c) (ev ts a) (ev ts b) fun v=>k v m
 | .alloc t=>dZ (aJ P t) fun ti=>Cd d ti.zero m k
 | .box _ x=>Cd d (ev ts x) m k
 | .build t parts=>dZ (aJ P t) fun ti=>V8 ti.kind (qk ti (parts.toList.map fun p=>(p.1,ev ts p.2)) fun v=>k v m)
 | .buildSlice t n parts=>dZ (aJ P t) fun tt=>wM tt.kind (dZ (aJ P tt.elem) fun ti=>gC ti d n (parts.toList.map fun p=>(p.1,ev ts p.2)) m k)
 | .load t x=>dZ (aJ P t) fun ti=>n8 ti.agg ti.size (ev ts x) m k
 | .store t p y=>dZ (aJ P t) fun ti=>fx ti.size (ev ts p) (ev ts y) m fun m'=>k .undef m'
 | .nilCheck x=>ry m (ev ts x) fun v=>k v m
 | .binOp op t x y _=>dZ (aJ P t) fun ti=>gG P t op (ev ts x) (ev ts y) (fun v=>k v m) (ly op ti.kind (ev ts x) (ev ts y) (UN y) m fun v=>k v m)
 | .unOp .not _ x=>y4 (ev ts x) fun v=>k v m
 | .unOp .neg _ x=>B8 (ev ts x) fun v=>k v m
 | .convert s t x=>dZ (aJ P s) fun si=>dZ (aJ P t) fun ti=>kF P si ti d (ev ts x) m k
 | .makeSlice t l c=>dZ (aJ P t) fun tt=>wM tt.kind (dZ (aJ P tt.elem) fun ti=>rf ti d (ev ts l) (ev ts c) m k)
 | .slice t x lo hi none=>dZ (aJ P t) fun tt=>mW P tt (ev ts x) (lo.map (ev ts)) (hi.map (ev ts)) m fun v=>k v m
 | .slice t x none hi mx=>(Wj hi=true/\Wj mx=true)/\dZ (aJ P t) fun tt=>wM tt.kind (dZ (aJ P tt.elem) fun _=>ju m (ev ts x) fun v=>k v m)
 | .fieldAddr t x f=>dZ (aJ P t) fun ti=>vd ti.fields[f]? fun fd=>0<fd.2.1/\hU fd.1 m (ev ts x) fun v=>k v m
 | .field t x f=>dZ (aJ P t) fun ti=>vd ti.fields[f]? fun fd=>ql fd.2.2 fd.2.1 fd.1 (ev ts x) fun v=>k v m
 | .indexAddr t x i=>dZ (aJ P t) fun tt=>wM tt.kind (dZ (aJ P tt.elem) fun ti=>uv ti.sh m (ev ts x) (ev ts i) fun v=>k v m)
 | .index t x i=>dZ (aJ P t) fun tt=>(match tt.kind with| .string=>True|_=>False)/\mO (ev ts x) (ev ts i) fun v=>k v m
 | .extract x i=>y6 i (ev ts x) fun v=>k v m
 | .call c=>match c.callee,c.args.toList with
   | .builtin .len,[x]=>match c.argTypes.toList with|t::_=>dZ (aJ P t) fun ti=>mN ti.kind m (ev ts x) fun v=>k v m| []=>False
   | .builtin .max,[x,y]=>y5 (ev ts x) (ev ts y) fun v=>k v m
   | .builtin .min,[x,y]=>mL (ev ts x) (ev ts y) fun v=>k v m
   | .builtin .min,[x,y,z]=>mL (ev ts x) (ev ts y) fun u=>mL u (ev ts z) fun v=>k v m
   | .builtin .append,[x,y]=>kE P c.argTypes.toList d (ev ts x) (ev ts y) m k
   | .value (.func f),xs=>nN P f d (xs.map (ev ts)) m k
   | .value (.tmp t),xs=>mX P (look ts t) d (xs.map (ev ts)) m k
   |_,_=>False
 | .makeFunc (.func f) first caps=>first.toList=[]/\k (.cm f (caps.toList.map (ev ts))) m
 |_=>False
section
variable {P:Program} {B:eE} {N:Nat} {φ:Nat->LS} {fp:Nat->lN} {S:Nat->Prop} {ts:Env} {m:Mem} {a:Act} {w:World}
theorem bF {x:Option TI} {k:TI->Prop} (h:dZ x k):∃t,x=some t/\k t:=by
 cases x with
 |none=>exact h.elim
 |some t=>exact ⟨t,rfl,h⟩
theorem mZ {kd:TK} {k:Prop} (h:wM kd k):kd= .slice/\k:=by cases kd<;>first|exact h.elim|exact ⟨rfl,h⟩
theorem Rq {kd:TK} {k:Prop} (h:V8 kd k):kd= .struct/\k:=by cases kd<;>first|exact h.elim|exact ⟨rfl,h⟩
theorem Em {f:Option (Nat × Nat × Bool)} {k:Nat × Nat × Bool->Prop} (h:vd f k):∃fd,f=some fd/\k fd:=by
 cases f with
 |none=>exact h.elim
 |some t=>exact ⟨t,rfl,h⟩
theorem En {t:TypeId} {ti:TI} (ht:aJ P t=some ti) {f:Nat} {fd:Nat × Nat × Bool} (hf:ti.fields[f]? =some fd):
 ∃fs g,P.underlying t=some (.struct fs)/\fs[f]? =some g/\fd=(g.offset,gv P g.type,j5 P g.type)/\∃i d,P.info? g.type=some i/\P.underlying g.type=some d:=by
 obtain ⟨i,d,z,hi,hd,hz,_,_,_,_,hff,_⟩:=fv ht;rw [hff] at hf;cases d with
 |struct fs=>
  simp only [List.getElem?_map] at hf;cases hg:fs.toList[f]? with
  |none=>rw [hg] at hf;cases hf
  |some g=>
   rw [hg] at hf;simp only [Option.map_some,Option.some.injEq] at hf;obtain ⟨i',hi'⟩:=Option.isSome_iff_exists.1 (sC ht fs hd g (List.mem_of_getElem? hg)).1;obtain ⟨d',hd'⟩:=Option.isSome_iff_exists.1 (sC ht fs hd g (List.mem_of_getElem? hg)).2;exact ⟨fs,g,hd,by simpa using hg,hf.symm,i',d',hi',hd'⟩
 |_=>simp at hf
theorem Eo (h:RS B N φ fp S ts m a w) {l v:Nat} (hn:φ l≠ .nil v) {k:Prop} (hk:ga v (ah m l) k):(∃b sh,φ l= .at b sh v)/\k:=by
 unfold ga at hk;split at hk
 . rename_i v' xs hlk;obtain ⟨rfl,hk⟩:=hk;obtain ⟨b,cs,e,sh,hφ,_⟩:=h.aF l _ hlk;exact ⟨⟨b,sh,hφ⟩,hk⟩
 . rename_i v' sh d xs hlk;obtain ⟨rfl,hk⟩:=hk;rcases h.aF l _ hlk with ⟨h1,_⟩|⟨b,cap,hφ,_⟩
   . exact absurd h1 hn
   exact ⟨⟨b,sh,hφ⟩,hk⟩
 exact hk.elim
theorem Kj {t:TypeId} {ti:TI} (ht:aJ P t=some ti) (h:RS B N φ fp S ts m a w) {p:AV} {v:Value} (hp:RV w S φ p v) (hpl:∀l ae,(l,ae)∈an p->known m l ae) {f:Nat} {fd:Nat × Nat × Bool} (hf:ti.fields[f]? =some fd) (hsz:0<fd.2.1)
 {k:AV->Prop} (hk:hU fd.1 m p k):iE B N a (fun x ts' m'=>ts'=ts/\m'=m/\k x) ((Instr.fieldAt t v f).run P w):=by
 obtain ⟨fs,g,hu,hg,rfl,i,d,hi,hd⟩:=En ht hf;simp only at hsz;have hs:gv P g.type=i.size:=by simp [gv,hi]
 have cJ:∀b o,(Instr.fieldAt t (.pointer (some ⟨b,o,none⟩)) f).run P w= .ok (.pointer (some ⟨b,o+g.offset,none⟩)) w:=by
  intro b o;have h0:i.size≠0:=by omega
  simp [Instr.fieldAt,run_underlying hu,hg,Instr.sureAddr,fieldPlace,sizeOf,typeInfo,hi,h0,Addr.kD]
 unfold hU at hk;split at hk
 . rename_i l ae i' j';obtain ⟨⟨b,sh,hφ⟩,hk⟩:=Eo h (vD hp).1 hk;have hv:=jV hp b sh hφ;subst hv;refine ⟨_,w,cJ _ _,h.gives (x:=.ptr l ae i' (j'+g.offset)) ?_ (fun l' ver' hl=>hpl l' ver' (by simpa [an] using hl)) ⟨rfl,rfl,hk⟩⟩;refine .ptr _ _ _ _ _ (fun b' sh' hb'=> ?_) (vD hp).1 rfl;rw [hφ] at hb';cases hb';rw [Nat.add_assoc]
 . rename_i sh xs i' j';cases o6 hp with
   |bq _ _ _ _ b off cs e fr hS hb hl hff hv=>
    refine ⟨_,w,cJ _ _,h.gives ?_ (fun l' ver' hl=>by cases hl) ⟨rfl,rfl,hk⟩⟩;have:=Rd.bq (w:=w) (S:=S) sh xs i' (j'+g.offset) b off cs e fr hS hb hl hff hv;rw [←Nat.add_assoc] at this;exact .rd _ _ this
 exact hk.elim
theorem Rr {t:TypeId} {tt ti:TI} (htt:aJ P t=some tt) (hks:tt.kind= .slice) (ht:aJ P tt.elem=some ti) (h:RS B N φ fp S ts m a w) {x i:AV} {u v:Value} (hx:RV w S φ x u) (hxl:∀l ae,(l,ae)∈an x->known m l ae) (hi:RV w S φ i v)
 {k:AV->Prop} (hk:ow ti.sh m x i k):iE B N a (fun x ts' m'=>ts'=ts/\m'=m/\k x) ((Instr.indexAt t u v).run P w):=by
 have hsl:=bL htt hks;have hs:=je ht w;have cJ:∀(b o len cap:Nat) (q:IntKind) (n:Int),0<=n->n<len->(Instr.indexAt t (.slice (some ⟨b,o,none⟩) len cap) (.int q n)).run P w= .ok (.pointer (some ⟨b,o+n.toNat*ti.size,none⟩)) w:=by intro b o len cap q n h0 h1;simp [Instr.indexAt,asIntOf,run_underlying hsl,h0,h1,hs,Addr.kD]
 unfold ow at hk;split at hk
 . rename_i sh' xs q n;obtain ⟨rfl,⟨h0,h1⟩,hk⟩:=hk;obtain ⟨rfl,_⟩:=aS hi;cases lW hx with
   |nil=>simp at h1;omega
   |arr _ _ b off cap cs e fr hS hb b6 hl hf hv=>
    refine ⟨_,w,cJ b off _ cap q n h0 h1,h.gives ?_ (fun l' ver' hl=>by cases hl) ⟨rfl,rfl,hk⟩⟩;have:=Rd.bq (w:=w) (S:=S) ti.sh xs n.toNat 0 b off cs e fr hS hb hl hf hv;exact .rd _ _ this
 . rename_i l ae i0 n0 q n;unfold pY at hk;split at hk
   . rename_i v' sh' deep xs hlk;obtain ⟨rfl,rfl,⟨h0,h1⟩,hk⟩:=hk;obtain ⟨rfl,_⟩:=aS hi;have hr:=dm hx;have hkn:=hxl l v' (by simp [an]);rcases h.aF l _ hlk with ⟨g1,g2,g3⟩|⟨b,cap0,hφ,hbm,hdp,bc⟩
     . have:=(hr.2 g1).1;omega
     obtain ⟨ad,cap,rfl,hnc,hcp⟩:=hr.1 b _ hφ;obtain ⟨rfl,cs,e,q1,q2⟩:=hcp.resolve_left (by omega);refine ⟨_,w,cJ b _ _ cap q n h0 h1,h.gives (x:=.ptr l v' (i0+n.toNat) 0) ?_ (fun l' ver' hl=> ?_) ⟨rfl,rfl,hk⟩⟩
     . refine .ptr _ _ _ _ _ (fun b' sh' hb'=> ?_) (fun hb'=>by rw [hφ] at hb';cases hb') rfl;rw [hφ] at hb';cases hb';rw [Nat.add_zero,Nat.add_mul];rfl
     simp only [an,q10,Prod.mk.injEq] at hl;obtain ⟨rfl,rfl⟩:=hl;exact hkn
   . rename_i v' xs hlk;obtain ⟨rfl,rfl,S5,⟨h0,h1⟩,hk⟩:=hk;obtain ⟨rfl,_⟩:=aS hi;have hr:=dm hx;have hkn:=hxl l v' (by simp [an]);obtain ⟨b,cs,e,sh2,hφ,_⟩:=h.aF l _ hlk;obtain ⟨ad,cap,rfl,hnc,hcp⟩:=hr.1 b _ hφ;obtain ⟨rfl,cs,e,q1,q2⟩:=hcp.resolve_left (by omega);refine ⟨_,w,cJ b _ _ cap q n h0 h1,h.gives (x:=.ptr l v' 0 n.toNat) ?_ (fun l' ver' hl=> ?_) ⟨rfl,rfl,hk⟩⟩
     . refine .ptr _ _ _ _ _ (fun b' sh' hb'=> ?_) (fun hb'=>by rw [hφ] at hb';cases hb') rfl;rw [hφ] at hb';cases hb';have:ti.size=1:=S5;rw [this,Nat.mul_one]
     simp only [an,q10,Prod.mk.injEq] at hl;obtain ⟨rfl,rfl⟩:=hl;exact hkn
   exact hk.elim
 exact hk.elim
theorem mm {sh:Sh} {u:Value} {i:AV} {m0:Mem} {k:AV->Prop}:∀{r:Mem},Nv sh u i m0 k r->∃l v xs j n,ah m0 l=some (.sub v sh xs u)/\i= .val (.int j n)/\(0<=n/\n<xs.length)/\k (.ptr l v n.toNat 0)
 |(l,.sub v sh' xs u')::r,h=>by
  obtain ⟨⟨h1,rfl,rfl⟩,h2⟩:=h;split at h2
  . rename_i j n;exact ⟨l,v,xs,j,n,h1,rfl,h2.1,h2.2⟩
  exact h2.elim
 |(l,.row v sh' d xs)::r,h=>mm (r:=r) h
 |(l,.box v xs)::r,h=>mm (r:=r) h
 |(l,.gone v)::r,h=>mm (r:=r) h
 |(l,.j8 v xs i0 u0)::r,h=>mm (r:=r) h
theorem Nz {t:TypeId} {tt ti:TI} (htt:aJ P t=some tt) (hks:tt.kind= .slice) (ht:aJ P tt.elem=some ti) (h:RS B N φ fp S ts m a w) {x i:AV} {u v:Value} (hx:RV w S φ x u) (hxl:∀l ae,(l,ae)∈an x->known m l ae) (hi:RV w S φ i v)
 {k:AV->Prop} (hk:uv ti.sh m x i k):iE B N a (fun x ts' m'=>ts'=ts/\m'=m/\k x) ((Instr.indexAt t u v).run P w):=by
 cases x with
 |val u0=>
  obtain ⟨l,v',xs,j,n,hlk,rfl,⟨h0,h1⟩,hk'⟩:=mm hk;obtain ⟨rfl,_⟩:=aS hx;obtain ⟨rfl,_⟩:=aS hi;obtain ⟨b,cap,hφ,hbm,rfl,bc⟩:=h.aF l _ hlk;have hsl:=bL htt hks;have hs:=je ht w;have cJ:(Instr.indexAt t (.slice (some ⟨b,0,none⟩) xs.length cap) (.int j n)).run P w= .ok (.pointer (some ⟨b,0+n.toNat*ti.size,none⟩)) w:=by simp [Instr.indexAt,asIntOf,run_underlying hsl,h0,h1,hs,Addr.kD]
  refine ⟨_,w,cJ,h.gives (x:=.ptr l v' n.toNat 0) ?_ (fun l' ver' hl=> ?_) ⟨rfl,rfl,hk'⟩⟩
  . refine .ptr _ _ _ _ _ (fun b' sh' hb'=> ?_) (fun hb'=>by rw [hφ] at hb';cases hb') rfl;rw [hφ] at hb';cases hb';rw [Nat.add_zero,Nat.zero_add];rfl
  simp only [an,q10,Prod.mk.injEq] at hl;obtain ⟨rfl,rfl⟩:=hl;exact ⟨_,hlk,Nat.le_refl _⟩
 |_=>exact Rr htt hks ht h hx hxl hi hk
theorem Kk {t:TypeId} (ht:P.underlying t=some .string) (h:RS B N φ fp S ts m a w) {x i:AV} {u v:Value} (hx:RV w S φ x u) (hi:RV w S φ i v)
 {k:AV->Prop} (hk:mO x i k):iE B N a (fun x ts' m'=>ts'=ts/\m'=m/\k x) ((Instr.index t u v).run P w):=by
 unfold mO at hk;split at hk
 . rename_i s q n;obtain ⟨⟨h0,h1⟩,hk⟩:=hk;obtain ⟨rfl,_⟩:=aS hx;obtain ⟨rfl,_⟩:=aS hi;have hlt:n.toNat<s.size:=by omega
   have Yq:n.toNat<s.data.toList.length:=by simpa using hlt
   have e:s[n.toNat]? =some (s.data.toList.getD n.toNat 0):=by rw [q4,q5 Yq,getElem?_pos s n.toNat hlt];rfl
   refine ⟨.int .u8 (s.data.toList.getD n.toNat 0).toNat,w,?_,h.eZ rfl ⟨rfl,rfl,hk⟩⟩;simp only [Instr.index,asIntOf,pure_bind,Sem.run_bind,run_underlying ht,Result.andThen_ok,h0,if_true,e];rfl
 exact hk.elim
theorem Rs {t ty:TypeId} {ti:TI} (ht:aJ P t=some ti) (h:RS B N φ fp S ts m a w) {x:AV} {u:Value} (hx:RV w S φ x u)
 {k:AV->Prop} (hk:mN ti.kind m x k):iE B N a (fun x ts' m'=>ts'=ts/\m'=m/\k x) ((Builtin.len_ #[t] ty #[u]).run P w):=by
 unfold mN at hk;have sl:∀(ad:Option Addr) (n c:Nat),ti.kind= .slice->(Builtin.len_ #[t] ty #[.slice ad n c]).run P w= .ok (.int .i64 n) w:=by intro ad n c hkd;simp [Builtin.len_,run_underlying (bL ht hkd),goInt]
 split at hk
 . rename_i sh xs hkd;cases lW hx with
   |nil _ ad=>exact ⟨_,w,sl ad 0 0 hkd,h.eZ rfl ⟨rfl,rfl,hk⟩⟩
   |arr _ _ b off cap cs e fr hS hb b6 hl hf hv=>exact ⟨_,w,sl _ _ _ hkd,h.eZ rfl ⟨rfl,rfl,hk⟩⟩
 . rename_i l v i n hkd;have hr:=dm hx;unfold ga at hk;split at hk
   . rename_i v' xs hlk;obtain ⟨rfl,hk⟩:=hk;obtain ⟨b,cs,e,sh,hφ,_⟩:=h.aF l _ hlk;obtain ⟨ad,c,rfl,_⟩:=hr.1 b sh hφ;exact ⟨_,w,sl _ _ _ hkd,h.eZ rfl ⟨rfl,rfl,hk⟩⟩
   . rename_i v' sh d xs hlk;obtain ⟨rfl,hk⟩:=hk;rcases h.aF l _ hlk with ⟨h1,_⟩|⟨b,cap,hφ,_⟩
     . obtain ⟨rfl,ad,rfl⟩:=hr.2 h1;exact ⟨_,w,sl _ _ _ hkd,h.eZ rfl ⟨rfl,rfl,hk⟩⟩
     obtain ⟨ad,c,rfl,_⟩:=hr.1 b sh hφ;exact ⟨_,w,sl _ _ _ hkd,h.eZ rfl ⟨rfl,rfl,hk⟩⟩
   exact hk.elim
 . rename_i hkd;obtain ⟨ad,rfl⟩:=qW hx;exact ⟨_,w,sl ad 0 0 hkd,h.eZ rfl ⟨rfl,rfl,hk⟩⟩
 . rename_i ad n c hkd;obtain ⟨rfl,_⟩:=aS hx;exact ⟨_,w,sl ad n c hkd,h.eZ rfl ⟨rfl,rfl,hk⟩⟩
 . rename_i s hkd;obtain ⟨rfl,_⟩:=aS hx;refine ⟨.int .i64 s.size,w,?_,h.eZ rfl ⟨rfl,rfl,hk⟩⟩;simp [Builtin.len_,run_underlying (ep ht hkd),goInt]
 exact hk.elim
theorem GZ (h:RS B N φ fp S ts m a w) {x:AV} {u:Value} (hx:RV w S φ x u) (hxl:∀l ae,(l,ae)∈an x->known m l ae) {t:TypeId} {ti:TI} (ht:aJ P t=some ti) {f:Nat} {fd:Nat × Nat × Bool} (hf:ti.fields[f]? =some fd)
 {k:AV->Prop} (hk:dh fd.2.2 fd.2.1 fd.1 x k) (Qq:∃xs,x= .agg xs):iE B N a (fun x ts' m'=>ts'=ts/\m'=m/\k x) ((Instr.field t u f).run P w):=by
 obtain ⟨xs,rfl⟩:=Qq;obtain ⟨fs,g,hu,hg,rfl,i,d,hi,hd⟩:=En ht hf;obtain ⟨cs,rfl,h1,h2,h3⟩:=mQ hx;have hs:gv P g.type=i.size:=by simp [gv,hi]
 have hag:(isAgg g.type).run P w= .ok (j5 P g.type) w:=by unfold isAgg j5;simp only [Sem.run_bind,run_underlying hd,Result.andThen_ok,hd];cases d<;>rfl
 simp only at hk;rw [hs] at hk;cases hb:j5 P g.type with
 |true=>
  rw [hb] at hk hag;obtain ⟨hlen,hk⟩:=hk;refine ⟨.agg (cs.extract g.offset (g.offset+i.size)),w,?_,h.gives (x:=.agg ((xs.drop g.offset).take i.size)) (.agg _ _ (by simp;omega) (fun q hq=> ?_) fun q hq=> ?_) (fun l ae hl=> ?_) ⟨rfl,rfl,hk⟩⟩
  . simp [Instr.field,run_underlying hu,hg,asAgg,part,hag,sizeOf,typeInfo,hi]
  . simp only [List.length_take,List.length_drop] at hq;simp only [q9,q6];exact h2 _ (by omega)
  . simp only [List.length_take,List.length_drop] at hq;simp only [q9,q6];have:=h3 (g.offset+q) (by omega);have e:(cs.extract g.offset (g.offset+i.size)).toList.getD q Go.undef=cs.toList.getD (g.offset+q) Go.undef:=by
     simp only [q4,q2,Array.getElem?_extract];rw [if_pos (by omega)]
    rw [e];exact this
  simp only [an] at hl;obtain ⟨q,hq,hl2⟩:=bW hl;simp only [List.length_take,List.length_drop] at hq;simp only [q9,q6] at hl2;exact hxl l ae (by simp only [an];exact bt (by omega) hl2)
 |false=>
  rw [hb] at hk hag;simp only [dh] at hk;cases hj:xs[g.offset]? with
  |none=>rw [hj] at hk;exact hk.elim
  |some y=>
   rw [hj] at hk;obtain ⟨hj1,hj2⟩:=List.getElem?_eq_some_iff.1 hj;have hlt:g.offset<cs.size:=by omega
   refine ⟨cs.toList.getD g.offset Go.undef,w,?_,h.gives (x:=y) ?_ (fun l ae hl=> ?_) ⟨rfl,rfl,hk⟩⟩
   . have e:cs[g.offset]? =some (cs.toList.getD g.offset Go.undef):=by
      rw [q4,q2,q1 hlt];rfl
     simp only [Instr.field,run_underlying hu,Sem.run_bind,Result.andThen_ok,hg,asAgg,pure_bind,part,hag,e,Bool.false_eq_true,if_false];rfl
   . have:=h3 g.offset hj1
     rwa [hj2] at this
   exact hxl l ae (by simp only [an];exact bt hj1 (by rw [hj2];exact hl))
theorem im.mono {k k':AV->Env->Mem->Prop} {v:Value} {w:World} (h:im B N a k v w) (hk:∀x ts m,k x ts m->k' x ts m):im B N a k' v w:=by obtain ⟨φ,fp,S,ts,m,x,h1,h2,h3,h4⟩:=h;exact ⟨φ,fp,S,ts,m,x,h1,h2,h3,hk _ _ _ h4⟩
theorem iE.mono {k k':AV->Env->Mem->Prop} {r:Result Value} (h:iE B N a k r) (hk:∀x ts m,k x ts m->k' x ts m):iE B N a k' r:=by obtain ⟨v,w',h1,h2⟩:=h;exact ⟨v,w',h1,h2.mono hk⟩
theorem Kl (h:RS B N φ fp S ts m a w) (l:List (Nat × Operand)):∀p,p∈l.map (fun p=>(p.1,Vc.ev ts p.2))->∀q,q∈an p.2->known m q.1 q.2:=by intro p hp q hq;obtain ⟨p0,_,rfl⟩:=List.mem_map.1 hp;exact h.Dq p0.2 q.1 q.2 hq
theorem wX {f:FuncId} {d:Nat} {xs:lA} {vs:aV} (h:RS B N φ fp S ts m a w) (hxs:pa (RV w S φ) xs vs.toList) (hxl:∀i (hi:i<xs.length) l ae,(l,ae)∈an xs[i]->known m l ae) {k:AV->Mem->Prop} (hk:nN P f d xs m k):
 Enters P f/\Calls P f vs w fun e w'=>∃v,e= .returned v/\im B N a (fun x ts' m'=>ts'=ts/\k x m') v w':=by
 have hk':dE m (fun ts=>e6 P f d xs ts m k ⟨⟩) [] xs:=by
  cases xs with
  |nil=>exact hk
  |cons x r=>exact hk
 have owned:∀(trs:lA) (post:AV->Prop),pa (Rd w (o9 w)) trs vs.toList->Fn P f trs true post->(∀r,post r->mU (1000*(d+1)) r m k)→
  Calls P f vs w fun e w'=>∃v,e= .returned v/\im B N a (fun x ts' m'=>ts'=ts/\k x m') v w':=by
  intro trs post hrd hfn gK;refine (hfn.2 w (o9 w) vs (fun b hb=>hb) (h.js.mono (fun _ _=>rfl) fun b hb=>(h.sB b hb).1) (by simpa using hrd.1) hrd.2).mono ?_;rintro e w' ⟨r,v,rfl,hr,hg,j4⟩;simp only [iK,if_true] at j4;obtain ⟨fs,bc,hnd,hfr⟩:=j4;have hRS:=h.grown hg;obtain ⟨φ',fp',y,m',g1,g2,g3,g4⟩:=Cj hRS bc hnd (fun b hb=>⟨q14 h.size (hfr b hb),fun hs=>by have:=(h.sB b hs).1;have:=hfr b hb;omega,fun l hl=>by have:=(h.cw l b hl).1;have:=hfr b hb;omega⟩) _ (gK r hr);exact ⟨v,rfl,φ',fp',S,ts,m',y,g1.rs,g3,g4,rfl,g2⟩
 have io:gY P f xs m k->Enters P f/\Calls P f vs w fun e w'=>∃v,e= .returned v/\im B N a (fun x ts' m'=>ts'=ts/\k x m') v w':=
  fun hi=>hi B N φ fp S ts a w vs h (by simpa using hxs.1) hxs.2 hxl
 by_cases gV:ax xs
 . have hct:=Je xs [] gV hk';rcases hct with hct|hct
   . exact io hct
   obtain ⟨own,post,hfn,QA,gK⟩:=hct;rw [List.reverse_nil,q11] at hfn;have lab:∀(xs:lA),ax xs->∀i (hi:i<xs.length),an xs[i]=[]:=by
    intro xs;induction xs with
    |nil=>intro _ i hi;exact absurd hi (q16 _)
    |cons x r ih=>
     intro hl i hi;cases i with
     |zero=>exact hl.1.1
     |succ i=>exact ih hl.2 i (by simpa using hi)
   have hrd:∀i (hi:i<xs.length),Rd w S xs[i] (vs.toList.getD i Go.undef):=fun i hi=>cU (hxs.2 i hi) (lab xs gV i hi);refine ⟨hfn.1,?_⟩;cases own with
   |true=>exact owned xs post ⟨hxs.1,fun i hi=>(hrd i hi).mono (fun _ _=>rfl) fun b hb=>(h.sB b hb).1⟩ hfn gK
   |false=>
    refine (hfn.2 w S vs (fun b hb=>(h.sB b hb).1) h.js (by simpa using hxs.1) hrd).mono ?_;rintro e w' ⟨r,v,rfl,hr,hg,j4⟩;simp only [iK,Bool.false_eq_true,if_false] at j4;have hRS:=(h.grown hg).hold (fun b=>w.heap.size<=b/\b<w'.heap.size) (fun b hb=>⟨hb.2,q14 h.size hb.1,fun l hl=>by have:=(h.cw l b hl).1;omega⟩);exact ⟨v,rfl,φ,fp,_,ts,m,r,hRS,.rd _ _ j4,fun l ae hl=>(by rw [fT j4] at hl;cases hl),rfl,gK r hr⟩
 obtain ⟨trs,hct,hrd⟩:=sF h xs vs.toList [] [] hxs ⟨rfl,fun i hi=>absurd hi (q16 _)⟩ hk';rw [q11] at hrd;rcases hct with hct|hct
 . exact io hct
 obtain ⟨own,post,hfn,QA,gK⟩:=hct;refine ⟨hfn.1,?_⟩;cases own with
 |true=>exact owned trs post hrd hfn gK
 |false=>exact absurd (QA rfl) gV
theorem Cm (h:RS B N φ fp S ts m a w) (l:List Operand):pa (RV w S φ) (l.map (Vc.ev ts)) (l.map a.eval):=by refine ⟨by simp,fun i hi=> ?_⟩;simp only [List.length_map] at hi;simp only [q7,q4,List.getElem?_map,q5 hi,Option.map_some,Option.getD_some];exact h.ev _
theorem p5 (l:Array (Nat × Operand)) (a:Act):(l.map fun (i,x)=>(i,a.eval x))=((l.toList.map fun p=>(p.1,a.eval p.2)).toArray):=by apply Array.ext';simp
theorem Jl {t:TypeId} {ti:TI} (ht:aJ P t=some ti) (hks:ti.kind= .slice) (a:Option Addr) (n c:Nat) (w:World):(Op.equal t (.slice a n c) (.slice none 0 0)).run P w= .ok a.isNone w:=by
 have hu:=bL ht hks;show (Op.equalIn (9999+1) t (.slice a n c) (.slice none 0 0)).run P w=_;have:(underlying t).run P w= .ok (.slice ti.elem) w:=by simp [underlying,hu]
 rw [Op.equalIn,Sem.run_bind,this];cases a<;>rfl
theorem Ep (h:RS B N φ fp S ts m a w) {x:AV} {u:Value} (hx:RV w S φ x u) {k:Bool->Prop} (hk:pZ x m k):∃ad n c,u= .slice ad n c/\k ad.isNone:=by
 unfold pZ at hk;split at hk
 . rename_i sh xs;cases hx with
   |rd _ _ hr=>cases hr with
    |nil _ ad=>exact ⟨ad,0,0,rfl,hk _ fun _=>rfl⟩
    |arr _ _ b off cap cs e fr _ _ _ _ _ _=>exact ⟨_,_,_,rfl,hk _ fun e=>by simp at e⟩
 . rename_i l v i n;obtain ⟨r1,r2⟩:=dm hx;unfold ga at hk;split at hk
   . rename_i v' xs hlk;obtain ⟨rfl,hk⟩:=hk;obtain ⟨b,cs,e,sh,hφ,_⟩:=h.aF l _ hlk;obtain ⟨ad,cap,rfl,hn,hc⟩:=r1 b sh hφ;refine ⟨ad,n,cap,rfl,hk _ fun e=> ?_⟩;rcases hc with rfl|⟨rfl,_⟩
     . omega
     simp at e
   . rename_i v' sh d xs hlk;obtain ⟨rfl,hk⟩:=hk;rcases h.aF l _ hlk with ⟨h1,_⟩|⟨b,cap,hφ,_⟩
     . obtain ⟨rfl,ad,rfl⟩:=r2 h1;exact ⟨ad,0,0,rfl,hk _ fun _=>rfl⟩
     obtain ⟨ad,cap,rfl,hn,hc⟩:=r1 b sh hφ;refine ⟨ad,n,cap,rfl,hk _ fun e=> ?_⟩;rcases hc with rfl|⟨rfl,_⟩
     . omega
     simp at e
   exact hk.elim
 . cases hx with
   |rd _ _ hr=>cases hr with
    |e0 ad=>exact ⟨ad,0,0,rfl,hk _⟩
 . obtain ⟨rfl,_⟩:=aS hx;exact ⟨none,0,0,rfl,hk⟩
 exact hk.elim
theorem NA {op:BinOp} {t:TypeId} {ti:TI} (h:RS B N φ fp S ts m a w) (ht:aJ P t=some ti) {x y:AV} {u v:Value} (hx:RV w S φ x u) (hy:RV w S φ y v) {ox oy:Operand} {k:AV->Prop}
 (hk:ly op ti.kind x y (UN oy) m k):∃r,(do eqGuard op t ox oy u v;binOp op t u v:Sem Value).run P w= .ok r w/\J8 k r:=by
 unfold ly at hk;split at hk
 . rename_i hks;obtain ⟨ad,n,c,rfl,hk⟩:=Ep h hx hk;obtain ⟨rfl,_⟩:=aS hy;refine ⟨.bool ad.isNone,?_,rfl,hk⟩;have:(binOp .eql t (.slice ad n c) (.slice none 0 0)).run P w= .ok (.bool ad.isNone) w:=by
    simp only [binOp,Sem.run_bind,Jl ht hks];rfl
   simp only [Sem.run_bind];have hg:(eqGuard .eql t ox oy (.slice ad n c) (.slice none 0 0)).run P w= .ok () w:=by simp [eqGuard]
   rw [hg];exact this
 . rename_i hks;obtain ⟨ad,n,c,rfl,hk⟩:=Ep h hx hk;obtain ⟨rfl,_⟩:=aS hy;refine ⟨.bool (!ad.isNone),?_,rfl,hk⟩;have:(binOp .neq t (.slice ad n c) (.slice none 0 0)).run P w= .ok (.bool (!ad.isNone)) w:=by
    simp only [binOp,Sem.run_bind,Jl ht hks];rfl
   simp only [Sem.run_bind];have hg:(eqGuard .neq t ox oy (.slice ad n c) (.slice none 0 0)).run P w= .ok () w:=by simp [eqGuard]
   rw [hg];exact this
 . rename_i hks;obtain ⟨ms,hu⟩:=GP ht hks;obtain ⟨rfl,_⟩:=aS hy;have e1:∀(d:Nat) u x,(Op.equalIn (d+1) t (.iface u x) .nilIface).run P w= .ok false w:=fun d u x=>by rw [Op.equalIn];simp [run_underlying hu]
   have e2:∀(d:Nat),(Op.equalIn (d+1) t .nilIface .nilIface).run P w= .ok true w:=fun d=>by rw [Op.equalIn];simp [run_underlying hu]
   have g1:∀op u x,(eqGuard op t ox oy (.iface u x) .nilIface).run P w= .ok () w:=fun op u x=>by cases op<;>simp [eqGuard]
   have g2:∀op,UN oy=true->(eqGuard op t ox oy .nilIface .nilIface).run P w= .ok () w:=fun op hc=>by cases oy<;>simp [UN] at hc;cases op<;>simp [eqGuard]
   unfold GY at hk;split at hk
   . obtain ⟨rfl,_⟩:=aS hx;exact ⟨_,(by simp only [Sem.run_bind,g2 _ hk.1,Result.andThen_ok,binOp,Op.equal,Op.maxDepth];simp [e2]),rfl,hk.2⟩
   . obtain ⟨rfl,_⟩:=aS hx;exact ⟨_,(by simp only [Sem.run_bind,g2 _ hk.1,Result.andThen_ok,binOp,Op.equal,Op.maxDepth];simp [e2]),rfl,hk.2⟩
   . obtain ⟨rfl,_⟩:=aS hx;exact ⟨_,(by simp only [Sem.run_bind,g1,Result.andThen_ok,binOp,Op.equal,Op.maxDepth];simp [e1]),rfl,hk⟩
   . obtain ⟨rfl,_⟩:=aS hx;exact ⟨_,(by simp only [Sem.run_bind,g1,Result.andThen_ok,binOp,Op.equal,Op.maxDepth];simp [e1]),rfl,hk⟩
   exact hk.elim
 exact Q8 ht hx hy hk
theorem wY {src t e:TypeId} {sh:Sh} {bs:lU} {v:Value} (hs:P.underlying src=some (.slice e)) (he:P.underlying e=some (.int .u8)) (ht:P.underlying t=some .string)
 (h:Rd w (o9 w) (.arr sh (bs.map fun b=>.val (.int .u8 b.toNat))) v):(convert src t v).run P w= .ok (.string ⟨bs.toArray⟩) w:=by
 have jq:∀(ad:Option Addr),(convert src t (.slice ad 0 0)).run P w= .ok (.string ⟨#[]⟩) w:=by
  intro ad;cases ad with
  |none=>simp only [convert,Sem.run_bind,run_underlying hs,run_underlying ht,run_underlying he,Result.andThen_ok];rfl
  |some ad=>
   have:=run_convert_bytes_back (P:=P) w src t e ad 0 [] hs he ht (fun j hj=>absurd hj (q16 _));simpa using this
 generalize hxs:bs.map (fun b=>AV.val (.int .u8 b.toNat))=xs at h;have hlen:xs.length=bs.length:=by rw [←hxs];simp
 cases h with
 |nil sh ad=>
  have:bs=[]:=q3 (by rw [←hlen];rfl);subst this;exact jq ad
 |arr sh xs b off cap cs e2 fr hS hb b6 hl hf hv=>
  rw [hlen];refine run_convert_bytes_back (P:=P) w src t e ⟨b,off,none⟩ cap bs hs he ht fun j hj=> ?_;have hj2:j<xs.length:=by omega
  have h1:=hf j hj2;have h2:=hv j hj2;have hx:xs[j]= .val (.int .u8 bs[j].toNat):=by simp [←hxs]
  rw [hx] at h1 h2;obtain ⟨ha,hz⟩:=h1;have e1:sh=⟨1,false⟩:=by cases sh;simp_all
  subst e1;have h4:elemV cs.toList (off+j*1) ⟨1,false⟩= .int .u8 bs[j].toNat:=by generalize elemV cs.toList (off+j*1) ⟨1,false⟩=u at h2;cases h2;rfl
  rw [bg,Nat.mul_one] at h4;have h5:off+j<cs.size:=by simp only [Nat.mul_one] at hl;omega
  rw [q4,q2,q1 h5] at h4;have e3:(⟨b,off,none⟩:Addr).add j=⟨b,off+j,none⟩:=by unfold Addr.add;split<;>simp_all
  rw [e3];simp only [World.cell?,hb,Option.isSome_none,Bool.false_eq_true,↓reduceIte,q1 h5];exact congrArg some h4
theorem Rt {n:Int} (h0:0<=n) (h1:n<128):(Conv.intToString n).run P w= .ok (.string ⟨#[UInt8.ofNat n.toNat]⟩) w:=by
 have hv:Utf8.valid n=true:=by unfold Utf8.valid;simp;omega
 have:Utf8.encode n=⟨#[UInt8.ofNat n.toNat]⟩:=by unfold Utf8.encode;simp only [hv,if_true];rw [if_pos (by omega)]
 simp only [Conv.intToString,this];rfl
theorem gb {o:Oper} {next:Act->World->Prop} {Q:Exit->Act->World->Prop} (h:RS B N φ fp S ts m a w) {k:AV->Mem->Prop} (hk:iI P (o.dst.getD 0) o.op ts m k)
 (GD:∀v w',im B N a (fun x ts' m'=>ts'=ts/\k x m') v w'->next (a.put o.dst v) w'):o.wp P a w next Q:=by
 have V:∀s:Sem Value,execOp a.eval o=(do pure (.value (←s)):Sem Next)->iE B N a (fun x ts' m'=>ts'=ts/\k x m') (s.run P w)->o.wp P a w next Q:=by intro s hs ⟨v,w',h1,h2⟩;unfold Oper.wp;rw [hs];simp only [Sem.run_bind,h1,Result.andThen_ok,Sem.run_pure];exact GD v w' h2
 have Vm:∀s:Sem Value,∀k':AV->Prop,execOp a.eval o=(do pure (.value (←s)):Sem Next)->iE B N a (fun x ts' m'=>ts'=ts/\m'=m/\k' x) (s.run P w)->(∀x,k' x->k x m)->o.wp P a w next Q:=by intro s k' hs hr hkk;exact V s hs (hr.mono fun x ts m ⟨h1,h2,h3⟩=>⟨h1,by rw [h2];exact hkk x h3⟩)
 have V0:∀(x:AV) (v:Value),execOp a.eval o=(pure (.value v):Sem Next)->RV w S φ x v->(∀l ae,(l,ae)∈an x->known m l ae)->k x m->o.wp P a w next Q:=by intro x v hs hx hl hkx;unfold Oper.wp;rw [hs];exact GD v w (h.gives hx hl ⟨rfl,hkx⟩)
 cases hop:o.op with
 |move x=>
  rw [hop] at hk;exact V0 _ (a.eval x) (by simp only [execOp,hop]) (h.ev x) (h.Dq x) hk
 |assign x=>
  rw [hop] at hk;exact V0 _ (a.eval x) (by simp only [execOp,hop]) (h.ev x) (h.Dq x) hk
 |pick c x y=>
  rw [hop] at hk;have hk:pR (Vc.ev ts c) (Vc.ev ts x) (Vc.ev ts y) fun v=>k v m:=hk;have hc:=h.ev c;unfold pR at hk;split at hk
  . rename_i cb hcv;rw [hcv] at hc;obtain ⟨hcc,_⟩:=aS hc;cases cb with
    |true=>exact V0 _ (a.eval x) (by simp [execOp,hop,←hcc,asBool]) (h.ev x) (h.Dq x) (hk.1 rfl)
    |false=>exact V0 _ (a.eval y) (by simp [execOp,hop,←hcc,asBool]) (h.ev y) (h.Dq y) (hk.2 rfl)
  exact hk.elim
 |alloc t=>
  rw [hop] at hk;obtain ⟨ti,ht,hk⟩:=bF hk;exact V _ (by simp only [execOp,hop]) (Ke h ht _ hk)
 |box t x=>
  rw [hop] at hk;exact V _ (by simp only [execOp,hop]) (Jd h (h.ev x) (h.Dq x) t _ hk)
 |build t parts=>
  rw [hop] at hk;obtain ⟨ti,ht,hk⟩:=bF hk;obtain ⟨hks,hk⟩:=Rq hk;refine Vm (Instr.build t ((parts.toList.map fun p=>(p.1,a.eval p.2)).toArray)) (fun x=>k x m) (by simp only [execOp,hop,p5]) ?_ (fun _ h=>h);exact GW ht hks (fun fs hfs f hf=>(sC ht fs hfs f hf).1) h (Nr h parts.toList) (Kl h parts.toList) hk
 |buildSlice t n parts=>
  rw [hop] at hk;obtain ⟨tt,htt,hk⟩:=bF hk;obtain ⟨hks,hk⟩:=mZ hk;obtain ⟨ti,ht,hk⟩:=bF hk;refine V (Instr.buildSlice t n ((parts.toList.map fun p=>(p.1,a.eval p.2)).toArray)) (by simp only [execOp,hop,p5]) ?_;exact vj htt hks ht h (Nr h parts.toList) _ n hk
 |load t x=>
  rw [hop] at hk;obtain ⟨ti,ht,hk⟩:=bF hk;exact V _ (by simp only [execOp,hop]) (Kc ht h (h.ev x) (h.Dq x) hk)
 |store t p y=>
  rw [hop] at hk;obtain ⟨ti,ht,hk⟩:=bF hk;obtain ⟨w',hr,φ',fp',S',ts',m',hRS,rfl,hkk⟩:=GV ht h (h.ev p) (h.ev y) (h.Dq y) hk;unfold Oper.wp;simp only [execOp,hop,Sem.run_bind,hr,Result.andThen_ok,Sem.run_pure];exact GD _ w' (hRS.gives (x:=.undef) (.rd _ _ (.undef _)) (fun _ _ hl=>by cases hl) ⟨rfl,hkk⟩)
 |nilCheck x=>
  rw [hop] at hk;have hk:ry m (Vc.ev ts x) fun v=>k v m:=hk;have hx:=h.ev x;have hxl:=h.Dq x;unfold ry at hk;split at hk
  . rename_i l v i j hv;rw [hv] at hx hxl;obtain ⟨⟨b,sh,hφ⟩,hk⟩:=Eo h (vD hx).1 hk;have:=jV hx b sh hφ;exact V0 _ (a.eval x) (by simp only [execOp,hop,this]) hx hxl hk
  . rename_i sh xs i j hv;rw [hv] at hx hxl;have hx':=o6 hx;cases hq:a.eval x with
    |pointer ad=>
     rw [hq] at hx';cases hx';exact V0 _ _ (by simp only [execOp,hop,hq]) (hq▸hx) hxl hk
    |_=>rw [hq] at hx';cases hx'
  . rename_i f xs hv;rw [hv] at hx hxl;obtain ⟨cs,hcs,_⟩:=B9 hx;exact V0 _ (a.eval x) (by simp only [execOp,hop,hcs]) hx hxl hk
  exact hk.elim
 |binOp op t x y ty=>
  rw [hop] at hk;obtain ⟨ti,ht,hk⟩:=bF hk;obtain ⟨r,hr,h1,h2⟩:=M9 (h.ev x) (h.ev y) (ox:=x) (oy:=y) hk fun hk=>NA h ht (h.ev x) (h.ev y) (ox:=x) (oy:=y) hk;exact V _ (by simp only [execOp,hop]) ⟨r,w,hr,h.eZ h1 ⟨rfl,h2⟩⟩
 |unOp op t x=>
  rw [hop] at hk;have hx:=h.ev x;cases op with
  |not=>
   have hk:y4 (Vc.ev ts x) fun v=>k v m:=hk;unfold y4 at hk;split at hk
   . rename_i b hv;rw [hv] at hx;obtain ⟨hb,_⟩:=aS hx;exact V (Op.unary .not (a.eval x)) (by simp only [execOp,hop]) ⟨.bool (!b),w,by rw [←hb];rfl,h.eZ rfl ⟨rfl,hk⟩⟩
   exact hk.elim
  |neg=>
   have hk:B8 (Vc.ev ts x) fun v=>k v m:=hk;unfold B8 at hk;split at hk
   . rename_i i n hv;rw [hv] at hx;obtain ⟨hb,_⟩:=aS hx;exact V (Op.unary .neg (a.eval x)) (by simp only [execOp,hop]) ⟨.int i (i.wrap (0-n)),w,by rw [←hb];rfl,h.eZ rfl ⟨rfl,o7 (c:=fun v=>k v m) hk⟩⟩
   exact hk.elim
  |_=>exact hk.elim
 |convert src t x=>
  rw [hop] at hk;obtain ⟨si,hsi,hk⟩:=bF hk;obtain ⟨ti,ht,hk⟩:=bF hk;have hx:=h.ev x;obtain ⟨_,sd,_,_,hsd,_⟩:=fv hsi;unfold kF at hk;split at hk
  . rename_i hks hkd;obtain ⟨ei,hei,hk⟩:=bF hk;unfold wS at hk;split at hk
    . rename_i hke;unfold sG at hk;split at hk
      . rename_i s hv;rw [hv] at hx;obtain ⟨hb,_⟩:=aS hx;obtain ⟨hl,hk⟩:=hk;refine V (convert src t (a.eval x)) (by simp only [execOp,hop]) ?_;rw [←hb];exact Kh h (ep hsi hks) (bL ht hkd) (qX hei hke) hl _ hk
      exact hk.elim
    exact hk.elim
  unfold fO at hk;split at hk
  . rename_i hks hkd;obtain ⟨ei,hei,hk⟩:=bF hk;unfold wS at hk;split at hk
    . rename_i hke;obtain ⟨y,hk,hrd,_,_⟩:=sE h hx hk;unfold oB at hk;split at hk
      . rename_i sh xs;obtain ⟨bs,rfl,hk2⟩:=ux hk;refine V (convert src t (a.eval x)) (by simp only [execOp,hop]) ⟨.string ⟨bs.toArray⟩,w,?_,h.eZ rfl ⟨rfl,hk2⟩⟩;exact wY (bL hsi hks) (qX hei hke) (ep ht hkd) hrd
      exact hk.elim
    exact hk.elim
  . rename_i i hks hkd;unfold Ej at hk;split at hk
    . rename_i j n hv;rw [hv] at hx;obtain ⟨hb,_⟩:=aS hx;obtain ⟨⟨h0,h1⟩,hk⟩:=hk;refine V (convert src t (a.eval x)) (by simp only [execOp,hop]) ⟨.string ⟨#[UInt8.ofNat n.toNat]⟩,w,?_,h.eZ rfl ⟨rfl,hk⟩⟩;rw [←hb];simp only [convert,Sem.run_bind,run_underlying (qX hsi hks),run_underlying (ep ht hkd),Result.andThen_ok];exact Rt h0 h1
    exact hk.elim
  unfold tG at hk;split at hk
  . rename_i i j n hkd hv;rw [hv] at hx;obtain ⟨hb,_⟩:=aS hx;refine V (convert src t (a.eval x)) (by simp only [execOp,hop]) ⟨.int i (i.wrap n),w,?_,h.eZ rfl ⟨rfl,o7 (c:=fun v=>k v m) hk⟩⟩;rw [←hb];simp only [convert,Sem.run_bind,run_underlying hsd,run_underlying (qX ht hkd),Result.andThen_ok];cases sd<;>rfl
  . rename_i s hkd hv;rw [hv] at hx;obtain ⟨hb,_⟩:=aS hx;refine V (convert src t (a.eval x)) (by simp only [execOp,hop]) ⟨.string s,w,?_,h.eZ rfl ⟨rfl,hk⟩⟩;rw [←hb];simp only [convert,Sem.run_bind,run_underlying hsd,run_underlying (ep ht hkd),Result.andThen_ok];cases sd<;>rfl
  exact hk.elim
 |makeSlice t l c=>
  rw [hop] at hk;obtain ⟨tt,htt,hk⟩:=bF hk;obtain ⟨hks,hk⟩:=mZ hk;obtain ⟨ti,ht,hk⟩:=bF hk;exact V _ (by simp only [execOp,hop]) (Kf htt hks ht h (h.ev l) (h.ev c) _ hk)
 |slice t x lo hi mx=>
  rw [hop] at hk;have BVm:∀q:Option Operand,BV w S φ (q.map (Vc.ev ts)) (q.map a.eval):=by
   intro q;cases q with
   |none=>trivial
   |some q=>exact h.ev q
  cases mx with
  |none=>
   have hk:dZ (aJ P t) fun tt=>mW P tt (Vc.ev ts x) (lo.map (Vc.ev ts)) (hi.map (Vc.ev ts)) m fun v=>k v m:=by cases lo<;>exact hk
   obtain ⟨tt,htt,hk⟩:=bF hk;have hx:=h.ev x;have hxl:=h.Dq x;generalize Vc.ev ts x=xv at hx hxl hk;unfold mW at hk;split at hk
   . rename_i hkd;obtain ⟨hs,hk⟩:=hk;refine Vm (Instr.sliceAt t (a.eval x) (lo.map a.eval) (hi.map a.eval) none) (fun x=>k x m) (by simp only [execOp,hop];rfl) ?_ (fun _ h=>h);refine wx htt ⟨0,false⟩ (fun hc=>by rw [hkd] at hc;cases hc) (.inr hkd) h hx hxl (BVm lo) (BVm hi) ⟨fun hc=>(by rw [hkd] at hc;cases hc),fun hc=> ?_⟩ hk;split at hs
     . exact absurd rfl (hc _)
     exact hs.elim
   . rename_i hkd;obtain ⟨hs,hk⟩:=hk;obtain ⟨ti,ht,hk⟩:=bF hk;refine Vm (Instr.sliceAt t (a.eval x) (lo.map a.eval) (hi.map a.eval) none) (fun x=>k x m) (by simp only [execOp,hop];rfl) ?_ (fun _ h=>h);refine wx htt ti.sh (fun _=>⟨ti,ht,rfl⟩) (.inl hkd) h hx hxl (BVm lo) (BVm hi) ⟨fun _ s hc=> ?_,fun _=>hkd⟩ hk;rw [hc] at hs;exact hs
   exact hk.elim
  |some mv=>
   cases lo with
   |some lv=>exact hk.elim
   |none=>
    obtain ⟨⟨h0,hm0⟩,hk⟩:=hk;obtain ⟨tt,htt,hk⟩:=bF hk;obtain ⟨hks,hk⟩:=mZ hk;obtain ⟨ti,ht,hk⟩:=bF hk;have hx:=h.ev x;have hsl:(∃ad n c,a.eval x= .slice ad n c)/\k .e0 m:=by
     generalize a.eval x=u at hx;generalize Vc.ev ts x=xv at hx hk;unfold ju at hk;split at hk
     . cases lW hx with
       |nil _ ad=>exact ⟨⟨_,_,_,rfl⟩,hk⟩
       |arr=>exact ⟨⟨_,_,_,rfl⟩,hk⟩
     . rename_i l v i n;have hr:=dm hx;unfold ga at hk;split at hk
       . rename_i v' xs hlk;obtain ⟨rfl,hk⟩:=hk;obtain ⟨b,cs,e,sh,hφ,_⟩:=h.aF l _ hlk;obtain ⟨ad,c,rfl,_⟩:=hr.1 b sh hφ;exact ⟨⟨_,_,_,rfl⟩,hk⟩
       . rename_i v' sh d xs hlk;obtain ⟨rfl,hk⟩:=hk;rcases h.aF l _ hlk with ⟨h1,_⟩|⟨b,cap,hφ,_⟩
         . obtain ⟨rfl,ad,rfl⟩:=hr.2 h1;exact ⟨⟨_,_,_,rfl⟩,hk⟩
         obtain ⟨ad,c,rfl,_⟩:=hr.1 b sh hφ;exact ⟨⟨_,_,_,rfl⟩,hk⟩
       exact hk.elim
     obtain ⟨h1,hk⟩:=hk;unfold isNil at h1;split at h1
     . obtain ⟨ad,rfl⟩:=qW hx;exact ⟨⟨_,_,_,rfl⟩,hk⟩
     . obtain ⟨rfl,_⟩:=aS hx;exact ⟨⟨_,_,_,rfl⟩,hk⟩
     cases h1
    obtain ⟨⟨ad,n,c,hu⟩,hk⟩:=hsl;have z0:∀q:Option Operand,Wj q=true->∃j,q.map a.eval=some (.int j 0):=by
     intro q hq;unfold Wj at hq;split at hq
     . rename_i j n;have:n=0:=by simpa using hq
       subst this;exact ⟨j,rfl⟩
     cases hq
    obtain ⟨jh,ejh⟩:=z0 hi h0;obtain ⟨jm,ejm⟩:=z0 (some mv) hm0;refine V (Instr.sliceAt t (a.eval x) none (hi.map a.eval) ((some mv).map a.eval)) (by simp only [execOp,hop,Option.map_none]) ⟨.slice ad 0 0,w,?_,h.gives (x:=.e0) (.rd _ _ (.e0 _)) (fun _ _ hl=>by cases hl) ⟨rfl,hk⟩⟩;rw [hu,ejh,ejm];have Yr:=bL htt hks;unfold Instr.sliceAt;simp [run_underlying Yr,Instr.slice,Instr.sliceBounds,run_sliceBound,je ht]
 |fieldAddr t x f=>
  rw [hop] at hk;obtain ⟨ti,ht,hk⟩:=bF hk;obtain ⟨fd,hf,hsz,hk⟩:=Em hk;exact Vm _ (fun x=>k x m) (by simp only [execOp,hop]) (Kj ht h (h.ev x) (h.Dq x) hf hsz hk) (fun _ h=>h)
 |field t x f=>
  rw [hop] at hk;obtain ⟨ti,ht,hk⟩:=bF hk;obtain ⟨fd,hf,hk⟩:=Em hk;have hx:=h.ev x;have hxl:=h.Dq x;unfold ql at hk;split at hk
  . rename_i ys hv;rw [hv] at hx hxl;exact Vm _ (fun x=>k x m) (by simp only [execOp,hop]) (GZ h hx hxl ht hf hk ⟨_,rfl⟩) (fun _ h=>h)
  exact hk.elim
 |indexAddr t x i=>
  rw [hop] at hk;obtain ⟨tt,htt,hk⟩:=bF hk;obtain ⟨hks,hk⟩:=mZ hk;obtain ⟨ti,ht,hk⟩:=bF hk;exact Vm _ (fun x=>k x m) (by simp only [execOp,hop]) (Nz htt hks ht h (h.ev x) (h.Dq x) (h.ev i) hk) (fun _ h=>h)
 |index t x i=>
  rw [hop] at hk;obtain ⟨tt,htt,hkd,hk⟩:=bF hk;have hks:tt.kind= .string:=by generalize tt.kind=kk at hkd;cases kk<;>first|rfl|exact hkd.elim
  exact Vm _ (fun x=>k x m) (by simp only [execOp,hop]) (Kk (ep htt hks) h (h.ev x) (h.ev i) hk) (fun _ h=>h)
 |extract x i=>
  rw [hop] at hk;have hk:y6 i (Vc.ev ts x) fun v=>k v m:=hk;have hx:=h.ev x;have hxl:=h.Dq x;unfold y6 at hk;split at hk
  . rename_i xs hv;rw [hv] at hx hxl;cases hi:xs[i]? with
    |none=>rw [hi] at hk;exact hk.elim
    |some y=>
     rw [hi] at hk;obtain ⟨hi1,hi2⟩:=List.getElem?_eq_some_iff.1 hi;obtain ⟨cs,hcs,h1,h2⟩:=UD hx;have hlt:i<cs.size:=by omega
     have e:cs[i]? =some (cs.toList.getD i Go.undef):=by rw [q4,q2,q1 hlt];rfl
     refine V (Instr.extract (a.eval x) i) (by simp only [execOp,hop]) ⟨cs.toList.getD i Go.undef,w,?_,h.gives (x:=y) ?_ (fun l ae hl=> ?_) ⟨rfl,hk⟩⟩
     . rw [hcs];simp only [Instr.extract,e,Sem.run_pure]
     . have:=h2 i hi1
       rwa [hi2] at this
     exact hxl l ae (by simp only [an];exact bt hi1 (by rw [hi2];exact hl))
  exact hk.elim
 |call c=>
  rw [hop] at hk;have BI:∀(b:Builtin) (s:Sem Value),c.callee= .builtin b->(∀cs,builtin b c.argTypes o.type cs (c.args.map a.eval)=(do pure (.value (←s)):Sem Next))->iE B N a (fun x ts' m'=>ts'=ts/\k x m') (s.run P w)->o.wp P a w next Q:=by intro b s hc hb hr;refine V s ?_ hr;simp only [execOp,hop,resolve,hc,pure_bind,invoke,hb]
  have ha:∀l,c.args.toList=l->c.args.map a.eval=(l.map a.eval).toArray:=by intro l hl;apply Array.ext';simp [←hl]
  have hk:(match c.callee,c.args.toList with
   | .builtin .len,[x]=>match c.argTypes.toList with|t::_=>dZ (aJ P t) fun ti=>mN ti.kind m (Vc.ev ts x) fun v=>k v m| []=>False
   | .builtin .max,[x,y]=>y5 (Vc.ev ts x) (Vc.ev ts y) fun v=>k v m
   | .builtin .min,[x,y]=>mL (Vc.ev ts x) (Vc.ev ts y) fun v=>k v m
   | .builtin .min,[x,y,z]=>mL (Vc.ev ts x) (Vc.ev ts y) fun u=>mL u (Vc.ev ts z) fun v=>k v m
   | .builtin .append,[x,y]=>kE P c.argTypes.toList (o.dst.getD 0) (Vc.ev ts x) (Vc.ev ts y) m k
   | .value (.func f),xs=>nN P f (o.dst.getD 0) (xs.map (Vc.ev ts)) m k
   | .value (.tmp t),xs=>mX P (look ts t) (o.dst.getD 0) (xs.map (Vc.ev ts)) m k
   |_,_=>False):=hk
  split at hk
  . rename_i x hc hx;split at hk
    . rename_i t r hty;obtain ⟨ti,ht,hk⟩:=bF hk;have hr:=Rs (ty:=o.type) ht h (h.ev x) hk;refine BI _ (Builtin.len_ c.argTypes o.type (c.args.map a.eval)) hc (fun _=>rfl) ?_;have e0:c.argTypes=(t::r).toArray:=by apply Array.ext';simpa using hty
      have el:(Builtin.len_ c.argTypes o.type (c.args.map a.eval)).run P w=(Builtin.len_ #[t] o.type #[a.eval x]).run P w:=by rw [ha _ hx,e0];simp [Builtin.len_]
      rw [el];exact hr.mono fun x ts m ⟨h1,h2,h3⟩=>⟨h1,by rw [h2];exact h3⟩
    exact hk.elim
  . rename_i x y hc hx;have h1:=h.ev x;have h2:=h.ev y;unfold y5 at hk;split at hk
    . rename_i i p j q e1 e2;rw [e1] at h1;rw [e2] at h2;obtain ⟨g1,_⟩:=aS h1;obtain ⟨g2,_⟩:=aS h2;refine BI _ (Builtin.max_ c.argTypes o.type (c.args.map a.eval)) hc (fun _=>rfl) ⟨_,w,?_,h.eZ rfl ⟨rfl,hk⟩⟩;rw [ha _ hx];simp [Builtin.max_,←g1,←g2,Builtin.max2]
    exact hk.elim
  . rename_i x y hc hx;have h1:=h.ev x;have h2:=h.ev y;unfold mL at hk;split at hk
    . rename_i i p j q e1 e2;rw [e1] at h1;rw [e2] at h2;obtain ⟨g1,_⟩:=aS h1;obtain ⟨g2,_⟩:=aS h2;refine BI _ (Builtin.min_ c.argTypes o.type (c.args.map a.eval)) hc (fun _=>rfl) ⟨_,w,?_,h.eZ rfl ⟨rfl,hk⟩⟩;rw [ha _ hx];simp [Builtin.min_,←g1,←g2,Builtin.min2]
    exact hk.elim
  . rename_i x y z hc hx;have h1:=h.ev x;have h2:=h.ev y;have h3:=h.ev z;have hk:mL (Vc.ev ts x) (Vc.ev ts y) fun u=>mL u (Vc.ev ts z) fun v=>k v m:=hk;generalize e1:Vc.ev ts x=X at hk h1;generalize e2:Vc.ev ts y=Y at hk h2;generalize e3:Vc.ev ts z=Z at hk h3;cases X with
    |val X=>
     cases X with
     |int i p=>
      cases Y with
      |val Y=>
       cases Y with
       |int j q=>
        cases Z with
        |val Z=>
         cases Z with
         |int j2 r=>
          obtain ⟨g1,_⟩:=aS h1;obtain ⟨g2,_⟩:=aS h2;obtain ⟨g3,_⟩:=aS h3;refine BI _ (Builtin.min_ c.argTypes o.type (c.args.map a.eval)) hc (fun _=>rfl) ⟨_,w,?_,h.eZ rfl ⟨rfl,hk⟩⟩;rw [ha _ hx];simp [Builtin.min_,←g1,←g2,←g3,Builtin.min2]
         |_=>exact hk.elim
        |_=>exact hk.elim
       |_=>exact hk.elim
      |_=>exact hk.elim
     |_=>exact hk.elim
    |_=>exact hk.elim
  . rename_i x y hc hx;unfold kE at hk;split at hk
    . rename_i t t' Ys;obtain ⟨tt,htt,hk⟩:=bF hk;obtain ⟨hks,hk⟩:=mZ hk;obtain ⟨tt',vz,hk⟩:=bF hk;obtain ⟨vA,hk⟩:=mZ hk;obtain ⟨ti,ht,hk⟩:=bF hk;have et:c.argTypes= #[t,t']:=by apply Array.ext';simpa using Ys
      refine BI _ (Builtin.append_ c.argTypes o.type (c.args.map a.eval)) hc (fun _=>rfl) ?_;rw [ha _ hx,et];exact Nl htt hks vz vA ht h (h.ev x) (h.ev y) (h.Dq x) _ hk
    exact hk.elim
  . rename_i f hc
    obtain ⟨⟨fn,cd,hf,hnm,hbd⟩,I2⟩:=wX (vs:=c.args.map a.eval) h (by simpa using Cm h c.args.toList) (fun i hi l ae hl=>by rw [q7] at hl;exact h.Dq _ l ae hl) hk
    have hex:(execOp a.eval o).run P w= .ok (.enter f (c.args.map a.eval)) w:=by
     have VR:¬fn.name= "runtime.NumGoroutine" :=by simpa using hnm
     simp [execOp,hop,resolve,hc,Act.eval,Deferred.ofValue,invoke,callFunc,hf,VR,hbd]
    unfold Oper.wp;rw [hex,Oper.upon_enter];refine I2.mono ?_;rintro e w' ⟨v,rfl,hg⟩;exact GD v w' hg
  . rename_i t hc;unfold mX at hk;split at hk
    . rename_i f ys hf0;have hx:=h.tm t;rw [hf0] at hx;obtain ⟨cs,hcs,hl,hy⟩:=B9 hx;have hap:pa (RV w S φ) (c.args.toList.map (Vc.ev ts)++ys) (c.args.map a.eval++cs).toList:=by
       have h1:=Cm h c.args.toList;refine ⟨by simp [hl],fun i hi=> ?_⟩;rw [Array.toList_append,Array.toList_map,List.getElem_append];split
       . rename_i hi1;have:=h1.2 i hi1;rw [q4] at this ⊢;rw [List.getElem?_append_left (by simpa using hi1)];exact this
       rename_i hi1;have hi2:i-(c.args.toList.map (Vc.ev ts)).length<ys.length:=by rw [List.length_append] at hi;omega
       have:=hy _ hi2;rw [q4] at this ⊢;rw [List.getElem?_append_right (by simpa using hi1)];simpa using this
      obtain ⟨⟨fn,cd,hf,hnm,hbd⟩,I2⟩:=wX (vs:=c.args.map a.eval++cs) h hap (fun i hi l ae hl=>by
       rw [List.getElem_append] at hl;split at hl
       . rw [q7] at hl;exact h.Dq _ l ae hl
       exact h.tl t l ae (by rw [hf0];simp only [an];exact bt (by rw [List.length_append] at hi;omega) hl)) hk
      have hex:(execOp a.eval o).run P w= .ok (.enter f (c.args.map a.eval++cs)) w:=by
       have VR:¬fn.name= "runtime.NumGoroutine" :=by simpa using hnm
       have Yt:a.tmps.getD t Go.undef= .func (.func f) #[] cs:=hcs;simp [execOp,hop,resolve,hc,Act.eval,Yt,Deferred.ofValue,invoke,callFunc,hf,VR,hbd]
      unfold Oper.wp;rw [hex,Oper.upon_enter];refine I2.mono ?_;rintro e w' ⟨v,rfl,hg⟩;exact GD v w' hg
    exact hk.elim
  exact hk.elim
 |makeFunc fn first caps=>
  rw [hop] at hk;cases fn with
  |func f=>
   obtain ⟨h1,hk⟩:first.toList=[]/\k (.cm f (caps.toList.map (Vc.ev ts))) m:=hk
   have h1':first= #[]:=by apply Array.ext';simpa using h1
   subst h1';have hr:=Cm h caps.toList;refine V (Instr.makeFunc (.func f) (Array.map a.eval #[]) (caps.map a.eval)) (by simp only [execOp,hop]) ⟨.func (.func f) #[] (caps.map a.eval),w,by simp [Instr.makeFunc],h.gives (x:=.cm f (caps.toList.map (Vc.ev ts))) ?_ (fun l ae hl=> ?_) ⟨rfl,hk⟩⟩
   . exact .cm f _ _ (by simp) (by simpa using hr.2)
   simp only [an] at hl;obtain ⟨i,hi,hl2⟩:=bW hl;rw [q7] at hl2;exact h.Dq _ l ae hl2
  |_=>exact False.elim hk
 |_=>rw [hop] at hk;exact hk.elim
abbrev St:=Env->Mem->Prop
abbrev dc:=Exit->Env->Mem->Prop
def gg (want:Bool) (y:AV) (a b:Prop):Prop:=match y with
 | .val (.bool c)=>(c=want->a)/\(c≠want->b)
 | .aX []=>b
 |_=>False
@[congr] theorem Ru {w:Bool} {y y':AV} {a b:Prop} (h:y=y'):gg w y a b=gg w y' a b:=by rw [h]
theorem Er (w:Bool) (a b:Prop):gg w (.aX []) a b=b:=rfl
theorem NB (c:Bool) (a b:Prop):gg false (.val (.bool c)) a b=((c=false->a)/\(c=true->b)):=by simp [gg]
def jG (ops:List Oper) (j:Nat):Nat:=match (ops[j]?).bind (·.dst) with|some d=>d|none=>0
def mn (d:Option Nat) (x:AV) (ts:Env):Env:=match d with|some d=>(d,x)::ts|none=>ts
theorem Km (d:Nat) (x:AV) (ts:Env):mn (some d) x ts=(d,x)::ts:=rfl
def sL (P:Program) (ops:List Oper):List Oper->Env->Mem->St->Prop
 | [],ts,m,k=>k ts m
 |o::r,ts,m,k=>match o.guard with
  |none=>iI P (o.dst.getD 0) o.op ts m fun x m'=>sL P ops r (mn o.dst x ts) m' k
  |some (j,want)=>gg want (look ts (jG ops j)) (iI P (o.dst.getD 0) o.op ts m fun x m'=>sL P ops r (mn o.dst x ts) m' k) (sL P ops r (mn o.dst (.aX []) ts) m k)
theorem G0 (o:Oper) (l:List Oper) (j:Nat):jG (o::l) (j+1)=jG l j:=rfl
theorem G1 (d:Nat) (op:Op) (ty:TypeId) (p:String) (e:Array Edge) (g:Option (Nat × Bool)) (l:List Oper):jG (⟨some d,op,ty,p,e,g⟩::l) 0=d:=rfl
def jH (N:Nat) (ops:List Oper):Bool:=ops.all fun o=>match o.dst with|some d=>decide (d<N)|none=>true
theorem step_done {o:Oper} (hd:∀d,o.dst=some d->d<N) {k:AV->Mem->Prop} {v:Value} (hg:im B N a (fun x ts' m'=>ts'=ts/\k x m') v w) {K:St} (hK:∀x m',k x m'->K (mn o.dst x ts) m'):hZ B N K (a.put o.dst v) w:=by
 cases VS:o.dst with
 |none=>
  refine hg.skip fun x ts' m' ⟨h1,h2⟩=> ?_;have:=hK x m' h2;rw [VS] at this;rw [h1];exact this
 |some d=>
  refine hg.done (hd d VS) fun x ts' m' ⟨h1,h2⟩=> ?_;have:=hK x m' h2;rw [VS] at this;rw [h1];exact this
theorem Es (h:RS B N φ fp S ts m a w) {ops:List Oper} {j:Nat} {c:Bool} (hl:look ts (jG ops j)= .val (.bool c)) (hj:∃d,((ops[j]?).bind (·.dst))=some d/\d<N):yielded ops.toArray a.tmps j=some c:=by
 obtain ⟨d,hd,hdN⟩:=hj;have h0:jG ops j=d:=by unfold jG;rw [hd]
 rw [h0] at hl;have ht:=h.tm d;rw [hl] at ht;obtain ⟨hv,_⟩:=aS ht;have hsz:d<a.tmps.size:=by rw [h.k6];exact hdN
 have e1:a.tmps[d]? =some (.bool c):=by rw [hv];simp [q0,q1 hsz]
 unfold yielded;simp only [List.getElem?_toArray,hd,Option.bind_some,e1]
theorem wZ (h:RS B N φ fp S ts m a w) {ops:List Oper} {j:Nat} (hl:look ts (jG ops j)= .aX []) (hj:∃d,((ops[j]?).bind (·.dst))=some d/\d<N):yielded ops.toArray a.tmps j=none:=by
 obtain ⟨d,hd,hdN⟩:=hj;have h0:jG ops j=d:=by unfold jG;rw [hd]
 rw [h0] at hl;have ht:=h.tm d;rw [hl] at ht;have hsz:d<a.tmps.size:=by rw [h.k6];exact hdN
 have hv:a.tmps.getD d Go.undef= .tuple #[]:=by
  generalize a.tmps.getD d Go.undef=v at ht;cases ht with
  |rd _ _ h=>cases h with
   |aX _ cs hl _=>rw [Array.eq_empty_of_size_eq_zero hl]
  |aX _ cs hl _=>rw [Array.eq_empty_of_size_eq_zero hl]
 have e1:a.tmps[d]? =some (.tuple #[]):=by rw [←hv];simp [q0,q1 hsz]
 unfold yielded;simp only [List.getElem?_toArray,hd,Option.bind_some,e1]
def de (N:Nat) (ops:List Oper):Bool:=ops.all fun o=>match o.guard with
 |none=>true
 |some (j,_)=>match (ops[j]?).bind (·.dst) with|some d=>decide (d<N)|none=>false
theorem iM {ops:List Oper} (hok:jH N ops=true) (hgs:de N ops=true) {Q:Exit->Act->World->Prop} {K:St} (hQ:∀a w,hZ B N K a w->Q .normal a w):
 ∀(l:List Oper) (i:Nat),ops.drop i=l->∀(φ:Nat->LS) (fp:Nat->lN) (S:Nat->Prop) (ts:Env) (m:Mem) (a:Act) (w:World),RS B N φ fp S ts m a w->sL P ops l ts m K→
  wpOps P ops.toArray Q ((List.range (ops.length-i)).map (· +i)) a w
 | [],i,hl,φ,fp,S,ts,m,a,w,h,hk=>by
   have:ops.length-i=0:=by have:=congrArg List.length hl;simpa using this
   rw [this];exact hQ a w ⟨φ,fp,S,ts,m,h,hk⟩
 |o::r,i,hl,φ,fp,S,ts,m,a,w,h,hk=>by
  have hi:i<ops.length:=by have:=congrArg List.length hl;simp at this;omega
  have hoi:ops[i]? =some o:=by have:=congrArg (·[0]?) hl;simpa using this
  have hr:ops.drop (i+1)=r:=by have:=congrArg List.tail hl;simpa using this
  have e:(List.range (ops.length-i)).map (· +i)=i::(List.range (ops.length-(i+1))).map (· +(i+1)):=by rw [show ops.length-i=(ops.length-(i+1))+1 by omega,List.range_succ_eq_map];simp [List.map_map,Function.comp_def];intro q hq;omega
  rw [e];have hoo:ops.toArray[i]? =some o:=by simpa using hoi
  simp only [wpOps,hoo];have hdo:∀d,o.dst=some d->d<N:=by intro d hd;have:=List.all_eq_true.1 hok o (List.mem_of_getElem? hoi);rw [hd] at this;simpa using this
  have run:iI P (o.dst.getD 0) o.op ts m (fun x m'=>sL P ops r (mn o.dst x ts) m' K)->o.wp P a w (wpOps P ops.toArray Q ((List.range (ops.length-(i+1))).map (· +(i+1)))) Q:=by intro hk;refine gb h hk fun v w' hg=> ?_;obtain ⟨φ',fp',S',ts',m',h1,h2⟩:=step_done (o:=o) (K:=fun ts m=>sL P ops r ts m K) hdo hg (fun x m' h=>h);exact iM hok hgs hQ r (i+1) hr φ' fp' S' ts' m' _ w' h1 h2
  have skip:sL P ops r (mn o.dst (.aX []) ts) m K->wpOps P ops.toArray Q ((List.range (ops.length-(i+1))).map (· +(i+1))) (a.put o.dst Go.undef) w:=by
   intro hk
   obtain ⟨φ',fp',S',ts',m',h1,h2⟩:=step_done (o:=o) (a:=a) (w:=w) (v:=Go.undef) (K:=fun ts m=>sL P ops r ts m K) (k:=fun x m'=>x= .aX []/\m'=m) hdo
    (h.gives (x:=.aX []) (.rd _ _ (.aX [] #[] rfl fun i hi=>absurd hi (q16 _))) (fun _ _ hl=>by cases hl) ⟨rfl,rfl,rfl⟩) (fun x m' ⟨h1,h2⟩=>by rw [h1,h2];exact hk)
   exact iM hok hgs hQ r (i+1) hr φ' fp' S' ts' m' _ w h1 h2
  cases hg:o.guard with
  |none=>
   simp only [sL,hg] at hk;simp only [Region.wanted,hg,if_true];exact .inl (run hk)
  |some jw=>
   obtain ⟨j,want⟩:=jw;simp only [sL,hg] at hk;have hgo:=List.all_eq_true.1 hgs o (List.mem_of_getElem? hoi);rw [hg] at hgo;unfold gg at hk;split at hk
   . rename_i c hy;have hj:∃d,((ops[j]?).bind (·.dst))=some d/\d<N:=by
      simp only at hgo;split at hgo
      . rename_i d hd;exact ⟨d,hd,by simpa using hgo⟩
      cases hgo
     have hyy:=Es h hy hj;simp only [Region.wanted,hg,hyy];by_cases hc:c=want
     . subst hc;simp only [beq_self_eq_true,if_true];exact .inl (run (hk.1 rfl))
     have:(some c==some want)=false:=by simpa using hc
     simp only [this,Bool.false_eq_true,if_false];exact skip (hk.2 hc)
   . rename_i hy;have hj:∃d,((ops[j]?).bind (·.dst))=some d/\d<N:=by
      simp only at hgo;split at hgo
      . rename_i d hd;exact ⟨d,hd,by simpa using hgo⟩
      cases hgo
     have hyy:=wZ h hy hj;simp only [Region.wanted,hg,hyy];have:((none:Option Bool)==some want)=false:=by simp
     simp only [this,Bool.false_eq_true,if_false];exact skip hk
   exact hk.elim
def Ok (P:Program) (N:Nat) (c:Code) (ts:Env) (m:Mem) (Q:dc):Prop:=
 ∀(B:eE) (φ:Nat->LS) (fp:Nat->lN) (S:Nat->Prop) (a:Act) (w:World),RS B N φ fp S ts m a w->c.wp P (fun e a' w'=>hZ B N (Q e) a' w') a w
structure aj (P:Program) (N:Nat) (c:Code) (ts:Env) (m:Mem) (Q:dc) (_:Pack (c,Q)):Prop where
 ok:Ok P N c ts m Q
def y9 (Q:dc) (n:St):dc
 | .normal=>n
 | .exit i=>Q (.exit i)
 | .ret=>Q .ret
 |e=>Q e
theorem G2 (Q:dc) (n:St):y9 Q n .normal=n:=rfl
theorem Rv (Q:dc) (n:St):y9 Q n .ret=Q .ret:=rfl
theorem NC (Q:dc) (n:St) (i:Nat):y9 Q n (.exit i)=Q (.exit i):=rfl
def pd (Q:dc) (id:Nat):dc
 | .exit j=>if j=id then Q .normal else Q (.exit j)
 | .normal=>Q .normal
 | .ret=>Q .ret
 |e=>Q e
theorem G3 (Q:dc) (i:Nat):pd Q i .normal=Q .normal:=rfl
theorem Rw (Q:dc) (i:Nat):pd Q i .ret=Q .ret:=rfl
theorem ND (Q:dc) (i j:Nat):pd Q i (.exit j)=if j=i then Q .normal else Q (.exit j):=rfl
def vc (P:Program) (N:Nat):Code->Env->Mem->dc->Prop
 | .skip,ts,m,Q=>Q .normal ts m
 | .region i ops false,ts,m,Q=>sL P ops.toList ops.toList ts m (Q .normal)
 | .region i ops true,ts,m,Q=>Ok P N (.region i ops true) ts m Q
 | .seq a b,ts,m,Q=>vc P N a ts m (y9 Q fun ts' m'=>vc P N b ts' m' Q)
 | .cond c a b,ts,m,Q=>Uh (ev ts c) (vc P N a ts m Q) (vc P N b ts m Q)
 | .block id b,ts,m,Q=>vc P N b ts m (pd Q id)
 | .loop b,ts,m,Q=>Ok P N (.loop b) ts m Q
 | .exit id,ts,m,Q=>Q (.exit id) ts m
 | .ret,ts,m,Q=>Q .ret ts m
 |_,_,_,_=>False
theorem Rx (N:Nat) (ts:Env) (m:Mem) (Q:dc):vc P N .skip ts m Q=Q .normal ts m:=rfl
theorem Kn (N i:Nat) (l:List Oper) (ts:Env) (m:Mem) (Q:dc):vc P N (.region i ⟨l⟩ false) ts m Q=sL P l l ts m (Q .normal):=rfl
theorem Ry (N i:Nat) (l:List Oper) (ts:Env) (m:Mem) (Q:dc):vc P N (.region i ⟨l⟩ true) ts m Q=aj P N (.region i ⟨l⟩ true) ts m Q ⟨⟩:=propext ⟨fun h=>⟨h⟩,fun h=>h.ok⟩
theorem UQ (N:Nat) (a b:Code) (ts:Env) (m:Mem) (Q:dc):vc P N (.seq a b) ts m Q=vc P N a ts m (y9 Q fun ts' m'=>vc P N b ts' m' Q):=rfl
theorem Rz (N:Nat) (c:Operand) (a b:Code) (ts:Env) (m:Mem) (Q:dc):vc P N (.cond c a b) ts m Q=Uh (ev ts c) (vc P N a ts m Q) (vc P N b ts m Q):=rfl
theorem NF (N i:Nat) (b:Code) (ts:Env) (m:Mem) (Q:dc):vc P N (.block i b) ts m Q=vc P N b ts m (pd Q i):=rfl
theorem RA (N:Nat) (b:Code) (ts:Env) (m:Mem) (Q:dc):vc P N (.loop b) ts m Q=aj P N (.loop b) ts m Q ⟨⟩:=propext ⟨fun h=>⟨h⟩,fun h=>h.ok⟩
theorem RB (N i:Nat) (ts:Env) (m:Mem) (Q:dc):vc P N (.exit i) ts m Q=Q (.exit i) ts m:=rfl
theorem UR (N:Nat) (ts:Env) (m:Mem) (Q:dc):vc P N .ret ts m Q=Q .ret ts m:=rfl
def codeOk (N:Nat):Code->Bool
 | .region _ ops false=>jH N ops.toList&&de N ops.toList
 | .seq a b=>codeOk N a&&codeOk N b
 | .cond _ a b=>codeOk N a&&codeOk N b
 | .block _ b=>codeOk N b
 |_=>true
theorem cD:∀(c:Code) (ts:Env) (m:Mem) (Q:dc),codeOk N c=true->vc P N c ts m Q->Ok P N c ts m Q
 | .skip,ts,m,Q,_,h=>fun B φ fp S a w hRS=>wp_skip ⟨φ,fp,S,ts,m,hRS,h⟩
 | .region i ops false,ts,m,Q,hok,h=>fun B φ fp S a w hRS=>by
   simp only [codeOk,Bool.and_eq_true] at hok;refine wp_region ?_;have:=iM (P:=P) (B:=B) (Q:=fun e a' w'=>hZ B N (Q e) a' w') hok.1 hok.2 (K:=Q .normal) (fun a w h=>h) ops.toList 0 (by simp) φ fp S ts m a w hRS h;simpa using this
 | .region i ops true,ts,m,Q,_,h=>h
 | .seq a b,ts,m,Q,hok,h=>fun B φ fp S ac w hRS=>by
   simp only [codeOk,Bool.and_eq_true] at hok;refine wp_seq (wp_mono (cD a ts m _ hok.1 h B φ fp S ac w hRS) fun e a' w' hq=> ?_);obtain ⟨φ',fp',S',ts',m',h1,h2⟩:=hq;cases e with
   |normal=>exact cD b ts' m' Q hok.2 h2 B φ' fp' S' a' w' h1
   |_=>exact ⟨φ',fp',S',ts',m',h1,h2⟩
 | .cond c x y,ts,m,Q,hok,h=>fun B φ fp S ac w hRS=>by
   simp only [codeOk,Bool.and_eq_true] at hok;have h:Uh (ev ts c) (vc P N x ts m Q) (vc P N y ts m Q):=h;have hc:=hRS.ev c;unfold Uh at h;split at h
   . rename_i b hv;rw [hv] at hc;obtain ⟨hb,_⟩:=aS hc;refine wp_cond_split hb.symm (fun ht=>cD x ts m Q hok.1 (h.1 ht) B φ fp S ac w hRS) (fun hf=>cD y ts m Q hok.2 (h.2 hf) B φ fp S ac w hRS)
   exact h.elim
 | .block id b,ts,m,Q,hok,h=>fun B φ fp S ac w hRS=>by
   refine wp_block (wp_mono (cD b ts m _ hok h B φ fp S ac w hRS) fun e a' w' hq=> ?_);obtain ⟨φ',fp',S',ts',m',h1,h2⟩:=hq;cases e with
   |exit j=>
    simp only [pd] at h2;simp only [Exit.inBlock];split
    . rename_i hj;rw [if_pos hj] at h2;exact ⟨φ',fp',S',ts',m',h1,h2⟩
    rename_i hj;rw [if_neg hj] at h2;exact ⟨φ',fp',S',ts',m',h1,h2⟩
   |_=>exact ⟨φ',fp',S',ts',m',h1,h2⟩
 | .loop b,ts,m,Q,_,h=>h
 | .exit id,ts,m,Q,_,h=>fun B φ fp S a w hRS=>wp_exit ⟨φ,fp,S,ts,m,hRS,h⟩
 | .ret,ts,m,Q,_,h=>fun B φ fp S a w hRS=>wp_ret ⟨φ,fp,S,ts,m,hRS,h⟩
 | .rangeFunc ..,_,_,_,_,h=>h.elim
 | .scope ..,_,_,_,_,h=>h.elim
 | .label ..,_,_,_,_,h=>h.elim
 | .goto ..,_,_,_,_,h=>h.elim
 | .refuse ..,_,_,_,_,h=>h.elim
end
def ja (b:Option bj) (v:Nat):Prop:=match b with|some (.gone _)=>False|some k=>k.ae=v|none=>False
theorem Ko (u v:Nat) (sh:Sh) (d:Bool) (xs:lA):ja (some (.row u sh d xs)) v=(u=v):=rfl
theorem Kp (u v:Nat) (xs:lA):ja (some (.box u xs)) v=(u=v):=rfl
def AQ (b:Option bj):Prop:=match b with|none=>True|some (.gone _)=>True|_=>False
theorem G4:AQ none=True:=rfl
def NG (b b2:Option bj) (l ae i n:Nat) (sh:Sh) (ys:lA):Prop:=match b,b2 with
 |some (.row v sh' _ xs),none=>v=ae/\sh'=sh/\i+n<=xs.length/\(xs.drop i).take n=ys/\l<bE
 |_,_=>False
def jI (m m2:Mem):AV->AV->Prop
 |_,.undef=>True
 | .val u,.val v=>u=v
 | .e0,.e0=>True
 | .arr sh xs,.arr sh' ys=>sh=sh'/\xs=ys
 | .ref l ae i n,.arr sh ys=>NG (ah m l) (ah m2 l) l ae i n sh ys
 | .e0,.arr _ ys=>ys=[]
 | .val (.slice none 0 0),.arr _ ys=>ys=[]
 | .ref l ae i n,.ref l' ver' i' n'=>(l=l'/\i=i'/\n=n')/\ja (ah m l) ae/\ja (ah m2 l) ver'
 | .e0,.ref l' ver' i' n'=>(i'=0/\n'=0)/\AQ (ah m l')/\ja (ah m2 l') ver'
 | .val (.slice none 0 0),.ref l' ver' i' n'=>(i'=0/\n'=0)/\AQ (ah m l')/\ja (ah m2 l') ver'
 | .ptr l ae i j,.ptr l' ver' i' j'=>(l=l'/\i=i'/\j=j')/\ja (ah m l) ae/\ja (ah m2 l) ver'
 | .bq sh xs i j,.bq sh' ys i' j'=>sh=sh'/\xs=ys/\i=i'/\j=j'
 |_,_=>False
section
variable (m m2:Mem)
theorem NH (u v:Value):jI m m2 (.val u) (.val v)=(u=v):=by cases u<;>rfl
theorem NI (sh:Sh) (xs ys:lA):jI m m2 (.arr sh xs) (.arr sh ys)=(xs=ys):=by simp [jI]
theorem NJ (l ae i n ver' i' n':Nat):jI m m2 (.ref l ae i n) (.ref l ver' i' n')=((i=i'/\n=n')/\ja (ah m l) ae/\ja (ah m2 l) ver'):=by simp [jI]
theorem Et (l' ver' i' n':Nat):jI m m2 (.val (.slice none 0 0)) (.ref l' ver' i' n')=((i'=0/\n'=0)/\AQ (ah m l')/\ja (ah m2 l') ver'):=rfl
theorem NK (l ae i j ver' i' j':Nat):jI m m2 (.ptr l ae i j) (.ptr l ver' i' j')=((i=i'/\j=j')/\ja (ah m l) ae/\ja (ah m2 l) ver'):=by simp [jI]
def w8 (m m2:Mem):lA->lA->Prop
 | [],[]=>True
 |x::xs,y::ys=>(jI m m2 x y/\leaf y)/\w8 m m2 xs ys
 |_,_=>False
theorem NM (m m2:Mem):w8 m m2 [] []=True:=rfl
theorem Kq (m m2:Mem) (x y:AV) (xs ys:lA):w8 m m2 (x::xs) (y::ys)=((jI m m2 x y/\leaf y)/\w8 m m2 xs ys):=rfl
def rC (m m2:Mem):AV->AV->Prop
 | .cm f xs,.cm g ys=>f=g/\w8 m m2 xs ys
 |x,y=>jI m m2 x y
theorem Kr (m m2:Mem) (f g:FuncId) (xs ys:lA):rC m m2 (.cm f xs) (.cm g ys)=(f=g/\w8 m m2 xs ys):=rfl
theorem Ks (m m2:Mem) (x:AV) (v:Value):rC m m2 x (.val v)=jI m m2 x (.val v):=by cases x<;>rfl
theorem Kt (m m2:Mem) (x:AV) (sh:Sh) (ys:lA):rC m m2 x (.arr sh ys)=jI m m2 x (.arr sh ys):=by cases x<;>rfl
theorem Ku (m m2:Mem) (x:AV) (l v i n:Nat):rC m m2 x (.ref l v i n)=jI m m2 x (.ref l v i n):=by cases x<;>rfl
theorem Kv (m m2:Mem) (x:AV) (l v i n:Nat):rC m m2 x (.ptr l v i n)=jI m m2 x (.ptr l v i n):=by cases x<;>rfl
def Eu (m m2:Mem):lA->lA->Prop
 | [],[]=>True
 |x::xs,y::ys=>(rC m m2 x y/\leaf y)/\Eu m m2 xs ys
 |_,_=>False
theorem NN (m m2:Mem):Eu m m2 [] []=True:=rfl
theorem Kw (m m2:Mem) (x y:AV) (xs ys:lA):Eu m m2 (x::xs) (y::ys)=((rC m m2 x y/\leaf y)/\Eu m m2 xs ys):=rfl
theorem NO (v:Value):leaf (.val v)=True:=rfl
theorem NP (sh:Sh) (xs:lA):leaf (.arr sh xs)=True:=rfl
theorem NQ (l v i n:Nat):leaf (.ref l v i n)=True:=rfl
theorem NR (f:FuncId) (xs:lA):leaf (.cm f xs)=True:=rfl
theorem NS (l v i n:Nat):leaf (.ptr l v i n)=True:=rfl
def vm (m m2:Mem):AV->AV->Prop
 | .agg xs,.agg ys=>Eu m m2 xs ys
 | .cm f xs,.cm g ys=>f=g/\w8 m m2 xs ys
 |x,y=>jI m m2 x y
theorem NT (m m2:Mem) (f g:FuncId) (xs ys:lA):vm m m2 (.cm f xs) (.cm g ys)=(f=g/\w8 m m2 xs ys):=rfl
theorem w9 (m m2:Mem) (x:AV):vm m m2 x .undef=True:=by cases x<;>rfl
theorem NU (m m2:Mem) (x:AV) (v:Value):vm m m2 x (.val v)=jI m m2 x (.val v):=by cases x<;>rfl
theorem NV (m m2:Mem) (x:AV) (sh:Sh) (ys:lA):vm m m2 x (.arr sh ys)=jI m m2 x (.arr sh ys):=by cases x<;>rfl
theorem NW (m m2:Mem) (x:AV) (l v i n:Nat):vm m m2 x (.ref l v i n)=jI m m2 x (.ref l v i n):=by cases x<;>rfl
theorem NX (m m2:Mem) (x:AV) (l v i n:Nat):vm m m2 x (.ptr l v i n)=jI m m2 x (.ptr l v i n):=by cases x<;>rfl
def G5 (ts:Env) (m m2:Mem):Env->Prop
 | []=>True
 |(t,v)::r=>vm m m2 (look ts t) v/\G5 ts m m2 r
theorem NY (ts:Env) (m m2:Mem):G5 ts m m2 []=True:=rfl
theorem Kx (ts:Env) (m m2:Mem) (t:Nat) (v:AV) (r:Env):G5 ts m m2 ((t,v)::r)=(vm m m2 (look ts t) v/\G5 ts m m2 r):=rfl
def xb (m m2:Mem) (b:Option bj) (b2:bj):Prop:=match b,b2 with
 |some (.row _ sh d xs),.row _ sh2 d2 xs2=>sh=sh2/\d=d2/\xs=xs2
 |some (.box _ xs),.box _ ys=>Eu m m2 xs ys
 |none,.row _ _ _ xs=>xs=[]
 |some (.gone _),.row _ _ _ xs=>xs=[]
 |_,_=>False
theorem NZ (v v2:Nat) (sh:Sh) (d:Bool) (xs xs2:lA):xb m m2 (some (.row v sh d xs)) (.row v2 sh d xs2)=(xs=xs2):=by simp [xb]
theorem N0 (v v2:Nat) (xs xs2:lA):xb m m2 (some (.box v xs)) (.box v2 xs2)=Eu m m2 xs xs2:=rfl
theorem Ky (v2:Nat) (sh:Sh) (d:Bool) (xs2:lA):xb m m2 none (.row v2 sh d xs2)=(xs2=[]):=rfl
end
def G6 (m m2:Mem):Mem->Prop
 | []=>True
 |(l,b)::r=>xb m m2 (ah m l) b/\G6 m m2 r
theorem N1 (m m2:Mem):G6 m m2 []=True:=rfl
theorem Kz (m m2:Mem) (l:Nat) (b:bj) (r:Mem):G6 m m2 ((l,b)::r)=(xb m m2 (ah m l) b/\G6 m m2 r):=rfl
def rD (b b2:Option bj):Prop:=match b,b2 with
 |some (.row v _ _ _),some (.row v2 _ _ _)=>v=v2
 |some (.box v _),some (.box v2 _)=>v=v2
 |_,_=>False
theorem G7 (v v2:Nat) (sh sh2:Sh) (d d2:Bool) (xs xs2:lA):rD (some (.row v sh d xs)) (some (.row v2 sh2 d2 xs2))=(v=v2):=rfl
theorem G8 (v v2:Nat) (xs xs2:lA):rD (some (.box v xs)) (some (.box v2 xs2))=(v=v2):=rfl
def Cn (l:Nat) (b b2:Option bj):Prop:=l<bE\/rD b b2
theorem KA (l:Nat) (b b2:Option bj):Cn l b b2=(l<1000000000\/rD b b2):=rfl
def G9 (m m2:Mem):Mem->Prop
 | []=>True
 |(l,_)::r=>Cn l (ah m l) (ah m2 l)/\G9 m m2 r
theorem N2 (m m2:Mem):G9 m m2 []=True:=rfl
theorem KB (m m2:Mem) (l:Nat) (b:bj) (r:Mem):G9 m m2 ((l,b)::r)=(Cn l (ah m l) (ah m2 l)/\G9 m m2 r):=rfl
theorem Ev {m m2:Mem}:∀{r:Mem},G9 m m2 r->∀{l:Nat} {b:bj},ah r l=some b->Cn l (ah m l) (ah m2 l)
 | [],_,l,b,hb=>by rw [sx] at hb;cases hb
 |(l0,b0)::r,h,l,b,hb=>by
  rw [aw] at hb;split at hb
  . rename_i e;subst e;exact h.1
  exact Ev h.2 hb
def rE (ts:Env) (m:Mem) (ts2:Env) (m2:Mem):Prop:=G5 ts m m2 ts2/\G6 m m2 m2/\G9 m m2 m
theorem RC (ts:Env) (m:Mem) (ts2:Env) (m2:Mem):rE ts m ts2 m2=(G5 ts m m2 ts2/\G6 m m2 m2/\G9 m m2 m):=rfl
section
variable {P:Program} {B:eE} {N:Nat} {φ:Nat->LS} {fp:Nat->lN} {S:Nat->Prop} {ts:Env} {m:Mem} {a:Act} {w:World}
theorem xd {m m2:Mem}:∀{r:Mem},G6 m m2 r->∀{l:Nat} {b:bj},ah r l=some b->xb m m2 (ah m l) b
 | [],_,l,b,h=>by cases h
 |(l0,b0)::r,h,l,b,hb=>by
  rw [aw] at hb;split at hb
  . rename_i e;subst e;cases hb;exact h.1
  exact xd h.2 hb
theorem xe {ts:Env} {m m2:Mem}:∀{r:Env},G5 ts m m2 r->∀t,vm m m2 (look ts t) (look r t)
 | [],_,t=>by rw [look_nil,w9];trivial
 |(t0,v)::r,h,t=>by
  rw [cP];split
  . rename_i e;subst e;exact h.1
  exact xe h.2 t
def gH (φ:Nat->LS) (m2:Mem):Nat->LS:=fun l=>match ah m2 l with
 |none=>.dead
 |some k=>match φ l with
  | .at b sh _=>.at b sh k.ae
  |_=>.nil k.ae
def xf (fp:Nat->lN) (m2:Mem):Nat->lN:=fun l=>match ah m2 l with|none=>[]|some _=>fp l
def vn (S:Nat->Prop) (fp:Nat->lN) (m2:Mem):Nat->Prop:=fun b=>S b\/∃l,ah m2 l=none/\l<bE/\b∈fp l
theorem kG {m2:Mem} {l v:Nat} (h:ja (ah m2 l) v):known m2 l v:=by
 unfold ja at h;split at h
 . exact h.elim
 . rename_i k hn hk;exact ⟨k,hk,Nat.le_of_eq h.symm⟩
 exact h.elim
theorem xg (h:RS B N φ fp S ts m a w) {m2:Mem} {x y:AV} {v:Value} (hx:RV w S φ x v) (hr:jI m m2 x y):
 RV w (vn S fp m2) (gH φ m2) y v/\∀l ae,(l,ae)∈an y->known m2 l ae:=by
 have hS:∀b,S b->vn S fp m2 b:=fun b hb=>.inl hb;have nolab:∀{y:AV} {v:Value},Rd w S y v->RV w (vn S fp m2) (gH φ m2) y v/\∀l ae,(l,ae)∈an y->known m2 l ae:=by intro y v hy;exact ⟨.rd _ _ (hy.mono (fun _ _=>rfl) hS),fun l ae hl=>by rw [fT hy] at hl;cases hl⟩
 have nilref:∀{v:Value} {l' ver' i' n':Nat},(∃ad,v= .slice ad 0 0)->(i'=0/\n'=0)/\AQ (ah m l')/\ja (ah m2 l') ver'→
  RV w (vn S fp m2) (gH φ m2) (.ref l' ver' i' n') v/\∀l ae,(l,ae)∈an (.ref l' ver' i' n')->known m2 l ae:=by
  rintro v l' ver' i' n' ⟨ad,rfl⟩ ⟨⟨rfl,rfl⟩,hnb,hv⟩;refine ⟨.ref _ _ _ _ _ (fun b sh hb=> ?_) (fun _=>⟨rfl,ad,rfl⟩) rfl,fun l ae hl=> ?_⟩
  . have hd:φ l'= .dead:=by
     unfold AQ at hnb;split at hnb
     . rename_i hk;exact (h.b7 l' hk).1
     . rename_i v hk;exact (h.aF l' _ hk).1
     exact hnb.elim
    unfold gH at hb;split at hb
    . cases hb
    rw [hd] at hb;cases hb
  simp only [an,q10,Prod.mk.injEq] at hl;obtain ⟨rfl,rfl⟩:=hl;exact kG hv
 unfold jI at hr;split at hr
 . exact ⟨.rd _ _ (.undef _),fun _ _ hl=>by cases hl⟩
 . subst hr;obtain ⟨rfl,h1⟩:=aS hx;exact nolab (.val _ h1)
 . obtain ⟨ad,rfl⟩:=qW hx;exact nolab (.e0 _)
 . obtain ⟨rfl,rfl⟩:=hr;exact nolab (lW hx)
 . rename_i l ae i n sh ys;unfold NG at hr;split at hr
   . rename_i v' sh' d xs hlk kh;obtain ⟨rfl,rfl,hin,rfl,hio⟩:=hr;refine ⟨.rd _ _ ?_,fun _ _ hl=>by cases hl⟩;have hlen:((xs.drop i).take n).length=n:=by simp;omega
     have hrr:=dm hx;rcases h.aF l _ hlk with ⟨h1,h2,h3⟩|⟨b,cap,hφ,hbm,hdp,bc⟩
     . obtain ⟨rfl,ad,rfl⟩:=hrr.2 h1;rw [List.take_zero];exact .nil _ _
     obtain ⟨ad,cp,rfl,hnc,hcp⟩:=hrr.1 b sh' hφ;obtain ⟨cs,e,fss,hgf,aD,hcs,b6,hmx,hff,hfl,hvv⟩:=gA bc hbm;by_cases hc0:cp=0
     . have:n=0:=by omega
       subst this;subst hc0;rw [List.take_zero];exact .nil _ _
     obtain ⟨rfl,cs',e',g1,g2⟩:=hcp.resolve_left hc0;obtain rfl:=db (aD.symm.trans g1);have b8:i*sh'.sz+n*sh'.sz<=cs.size:=by rw [g2,←Nat.add_mul];exact Nat.mul_le_mul_right _ (by omega)
     have MU:∀c,c∈fp l->vn S fp m2 c:=fun c hc=>.inr ⟨l,kh,hio,hc⟩
     have:=Rd.arr (w:=w) (S:=vn S fp m2) sh' ((xs.drop i).take n) b (i*sh'.sz) cp cs e.1 (nU e cs.size) (MU b hbm) aD (by rw [hlen];exact hnc) (by rw [hlen];exact b8)
      (fun q hq=>by rw [hlen] at hq;simp only [q9,q6];exact hff _ (by omega))
      (fun q hq=>by
        rw [hlen] at hq;simp only [q9,q6]
        have:=(hvv (i+q) (by omega)).l9 (S':=vn S fp m2) (fun c hc=>by
         cases d with
         |true=>exact hc.elim
         |false=>exact hS c hc) (fun c hc=>MU c (by rw [hgf];exact List.mem_cons_of_mem _ (aI (by omega) hc)))
        rwa [Nat.add_mul] at this)
     rw [hlen] at this;exact this
   exact hr.elim
 . obtain ⟨ad,rfl⟩:=qW hx;subst hr;exact nolab (.nil _ _)
 . obtain ⟨rfl,_⟩:=aS hx;subst hr;exact nolab (.nil _ _)
 . rename_i l ae i n l' ver' i' n';obtain ⟨⟨rfl,rfl,rfl⟩,hv1,hv2⟩:=hr;have hrr:=dm hx;have gV:∀l' v',(l',v')∈an (.ref l ver' i n)->known m2 l' v':=by
    intro l' v' hl;simp only [an,q10,Prod.mk.injEq] at hl;obtain ⟨rfl,rfl⟩:=hl;exact kG hv2
   have lf:v.oneCell'=true:=hx.aU trivial;refine ⟨.ref _ _ _ _ _ (fun b sh hb=> ?_) (fun hb=> ?_) lf,gV⟩
   . unfold gH at hb;split at hb
     . cases hb
     rename_i k hk;split at hb
     . rename_i b' sh' v' hφ;cases hb;obtain ⟨k0,hk0,Qt⟩:=h.qS hφ;have hvv:v'=ae:=by
        rw [hk0] at hv1;cases k0<;>first|exact hv1.elim|exact Qt.symm.trans hv1
       subst hvv;exact hrr.1 _ _ hφ
     cases hb
   unfold gH at hb;split at hb
   . cases hb
   rename_i k hk;split at hb
   . cases hb
   rename_i hne;unfold ja at hv1;split at hv1
   . exact hv1.elim
   . rename_i k0 hng hk0;have hb0:=h.aF l k0 hk0;cases k0 with
     |gone=>exact absurd rfl (hng _)
     |row v0 sh d xs=>
      rcases hb0 with ⟨h1,_⟩|⟨b,cap,hφ,_⟩
      . have hv1:v0=ae:=hv1;subst hv1;exact hrr.2 h1
      exact absurd hφ (hne _ _ _)
     |box v0 xs=>obtain ⟨b,cs,e,sh,hφ,_⟩:=hb0;exact absurd hφ (hne _ _ _)
     |j8 v0 xs i0 u0=>obtain ⟨b,cap,cs,e,fr,hφ,_⟩:=hb0;exact absurd hφ (hne _ _ _)
     |sub v0 sh xs u0=>obtain ⟨b,cap,hφ,_⟩:=hb0;exact absurd hφ (hne _ _ _)
   exact hv1.elim
 . exact nilref (qW hx) hr
 . obtain ⟨rfl,_⟩:=aS hx;exact nilref ⟨_,rfl⟩ hr
 . rename_i l ae i j l' ver' i' j';obtain ⟨⟨rfl,rfl,rfl⟩,hv1,hv2⟩:=hr;have hrr:=jV hx;have hr2:=vD hx;refine ⟨.ptr _ _ _ _ _ (fun b sh hb=> ?_) (fun hb=> ?_) hr2.2,fun l' v' hl=> ?_⟩
   . unfold gH at hb;split at hb
     . cases hb
     split at hb
     . rename_i b' sh' v' hφ;cases hb;obtain ⟨k0,hk0,Qt⟩:=h.qS hφ;have hvv:v'=ae:=by
        rw [hk0] at hv1;cases k0<;>first|exact hv1.elim|exact Qt.symm.trans hv1
       subst hvv;exact hrr _ _ hφ
     cases hb
   . unfold gH at hb;split at hb
     . cases hb
     split at hb
     . cases hb
     rename_i hne;unfold ja at hv1;split at hv1
     . exact hv1.elim
     . rename_i k0 hng hk0;have hb0:=h.aF l k0 hk0;cases k0 with
       |gone=>exact absurd rfl (hng _)
       |row v0 sh d xs=>
        rcases hb0 with ⟨h1,_⟩|⟨b,cap,hφ,_⟩
        . have hv1:v0=ae:=hv1;subst hv1;exact hr2.1 h1
        exact absurd hφ (hne _ _ _)
       |box v0 xs=>obtain ⟨b,cs,e,sh,hφ,_⟩:=hb0;exact absurd hφ (hne _ _ _)
       |j8 v0 xs i0 u0=>obtain ⟨b,cap,cs,e,fr,hφ,_⟩:=hb0;exact absurd hφ (hne _ _ _)
       |sub v0 sh xs u0=>obtain ⟨b,cap,hφ,_⟩:=hb0;exact absurd hφ (hne _ _ _)
     exact hv1.elim
   simp only [an,q10,Prod.mk.injEq] at hl;obtain ⟨rfl,rfl⟩:=hl;exact kG hv2
 . obtain ⟨rfl,rfl,rfl,rfl⟩:=hr;exact nolab (o6 hx)
 exact hr.elim
theorem qm {l:List Value} {n i:Nat} (h:i<n):(l.take n).getD i Go.undef=l.getD i Go.undef:=by simp [q4,h]
theorem xh (h:RS B N φ fp S ts m a w) {m2:Mem}:∀(xs ys:lA) (vs:List Value),w8 m m2 xs ys->vs.length=xs.length->(∀i (hi:i<xs.length),RV w S φ xs[i] (vs.getD i Go.undef))→
 ys.length=xs.length/\(∀i (hi:i<ys.length),leaf ys[i])/\(∀i (hi:i<ys.length),RV w (vn S fp m2) (gH φ m2) ys[i] (vs.getD i Go.undef))/\∀l ae,(l,ae)∈aq ys->known m2 l ae
 | [],[],vs,_,_,_=>⟨rfl,fun i hi=>absurd hi (q16 _),fun i hi=>absurd hi (q16 _),fun _ _ hl=>by cases hl⟩
 |x::xs,y::ys,vs,hr,hv,hx=>by
  cases vs with
  |nil=>simp at hv
  |cons v vs=>
   obtain ⟨⟨h1,h2⟩,h3⟩:=hr;obtain ⟨g1,g2⟩:=xg h (hx 0 (by simp)) h1;obtain ⟨q1,q2,q3,q4⟩:=xh h xs ys vs h3 (by simpa using hv) (fun i hi=>by have:=hx (i+1) (by simpa using hi);exact this);refine ⟨by simp [q1],fun i hi=> ?_,fun i hi=> ?_,fun l ae hl=> ?_⟩
   . cases i with
     |zero=>exact h2
     |succ i=>exact q2 i (by simpa using hi)
   . cases i with
     |zero=>exact g1
     |succ i=>exact q3 i (by simpa using hi)
   simp only [aq,List.mem_append] at hl;rcases hl with hl|hl
   . exact g2 l ae hl
   exact q4 l ae hl
 | [],_::_,_,hr,_,_=>hr.elim
 |_::_,[],_,hr,_,_=>hr.elim
theorem KD (h:RS B N φ fp S ts m a w) {m2:Mem} {x y:AV} {v:Value} (hx:RV w S φ x v) (hr:rC m m2 x y):
 RV w (vn S fp m2) (gH φ m2) y v/\∀l ae,(l,ae)∈an y->known m2 l ae:=by
 unfold rC at hr;split at hr
 . rename_i f xs g ys;obtain ⟨rfl,hr⟩:=hr;obtain ⟨cs,rfl,h1,h3⟩:=B9 hx;obtain ⟨q1,q2,q3,q4⟩:=xh h xs ys cs.toList hr (by simpa using h1) h3;exact ⟨.cm _ _ _ (by omega) q3,fun l ae hl=>q4 l ae (by simpa [an] using hl)⟩
 exact xg h hx hr
theorem rF (h:RS B N φ fp S ts m a w) {m2:Mem}:∀(xs ys:lA) (vs:List Value),Eu m m2 xs ys->vs.length=xs.length->(∀i (hi:i<xs.length),RV w S φ xs[i] (vs.getD i Go.undef))→
 ys.length=xs.length/\(∀i (hi:i<ys.length),leaf ys[i])/\(∀i (hi:i<ys.length),RV w (vn S fp m2) (gH φ m2) ys[i] (vs.getD i Go.undef))/\∀l ae,(l,ae)∈aq ys->known m2 l ae
 | [],[],vs,_,_,_=>⟨rfl,fun i hi=>absurd hi (q16 _),fun i hi=>absurd hi (q16 _),fun _ _ hl=>by cases hl⟩
 |x::xs,y::ys,vs,hr,hv,hx=>by
  cases vs with
  |nil=>simp at hv
  |cons v vs=>
   obtain ⟨⟨h1,h2⟩,h3⟩:=hr;obtain ⟨g1,g2⟩:=KD h (hx 0 (by simp)) h1;obtain ⟨q1,q2,q3,q4⟩:=rF h xs ys vs h3 (by simpa using hv) (fun i hi=>by have:=hx (i+1) (by simpa using hi);exact this);refine ⟨by simp [q1],fun i hi=> ?_,fun i hi=> ?_,fun l ae hl=> ?_⟩
   . cases i with
     |zero=>exact h2
     |succ i=>exact q2 i (by simpa using hi)
   . cases i with
     |zero=>exact g1
     |succ i=>exact q3 i (by simpa using hi)
   simp only [aq,List.mem_append] at hl;rcases hl with hl|hl
   . exact g2 l ae hl
   exact q4 l ae hl
 | [],_::_,_,hr,_,_=>hr.elim
 |_::_,[],_,hr,_,_=>hr.elim
theorem Ew (h:RS B N φ fp S ts m a w) {m2:Mem} {x y:AV} {v:Value} (hx:RV w S φ x v) (hr:vm m m2 x y):
 RV w (vn S fp m2) (gH φ m2) y v/\∀l ae,(l,ae)∈an y->known m2 l ae:=by
 unfold vm at hr;split at hr
 . rename_i xs ys;obtain ⟨cs,rfl,h1,h2,h3⟩:=mQ hx;obtain ⟨q1,q2,q3,q4⟩:=rF h xs ys cs.toList hr (by simpa using h1) h3;exact ⟨.agg _ _ (by omega) q2 q3,fun l ae hl=>q4 l ae (by simpa [an] using hl)⟩
 . rename_i f xs g ys;obtain ⟨rfl,hr⟩:=hr;obtain ⟨cs,rfl,h1,h3⟩:=B9 hx;obtain ⟨q1,q2,q3,q4⟩:=xh h xs ys cs.toList hr (by simpa using h1) h3;exact ⟨.cm _ _ _ (by omega) q3,fun l ae hl=>q4 l ae (by simpa [an] using hl)⟩
 exact xg h hx hr
theorem RS.refine (h:RS B N φ fp S ts m a w) {ts2:Env} {m2:Mem} (hr:rE ts m ts2 m2):RS B N (gH φ m2) (xf fp m2) (vn S fp m2) ts2 m2 a w:=by
 obtain ⟨hE,hM,hK⟩:=hr;have keeps:∀l ae,bE<=l->known m l ae->∃k k2,ah m l=some k/\ah m2 l=some k2/\k.ae=k2.ae/\ae<=k.ae/\∀v,k≠ .gone v:=by
  rintro l ae hl ⟨k,hk,hv⟩;rcases Ev hK hk with hh|hh
  . exact absurd hh (Nat.not_lt.2 hl)
  rw [hk] at hh;unfold rD at hh;split at hh
  . rename_i h1 h2;cases h1;exact ⟨_,_,hk,h2,hh,hv,fun _ e=>by cases e⟩
  . rename_i h1 h2;cases h1;exact ⟨_,_,hk,h2,hh,hv,fun _ e=>by cases e⟩
  exact hh.elim
 have UJ:∀l b,b∈xf fp m2 l->b∈fp l/\∃k,ah m2 l=some k:=by
  intro l b hb;unfold xf at hb;split at hb
  . cases hb
  rename_i k hk;exact ⟨hb,k,hk⟩
 refine ⟨fun t=>(Ew h (h.tm t) (xe hE t)).1,fun t=>(Ew h (h.tm t) (xe hE t)).2,?_,?_,?_,?_,?_,?_,?_,?_,h.base,h.out,h.kj,?_,?_,h.size,h.defers,h.k6,h.js.mono (fun _ _=>rfl) fun b hb=>.inl hb⟩
 . intro l hl;simp [gH,xf,hl]
 . intro l k hk;have hb:=xd hM hk;have hfp:xf fp m2 l=fp l:=by simp [xf,hk]
   have QB:(ah m l=none\/∃v,ah m l=some (.gone v))->φ l= .dead/\fp l=[]:=by
    rintro (hl|⟨v,hl⟩)
    . exact h.b7 l hl
    exact h.aF l _ hl
   rw [hfp];unfold xb at hb;split at hb
   . rename_i v sh d xs v2 sh2 d2 xs2 hlk;obtain ⟨rfl,rfl,rfl⟩:=hb;rcases h.aF l _ hlk with ⟨h1,h2,h3⟩|⟨b,cap,hφ,hbm,hdp,bc⟩
     . exact .inl ⟨by simp [gH,hk,h1,bj.ae],h2,h3⟩
     refine .inr ⟨b,cap,by simp [gH,hk,hφ,bj.ae],hbm,hdp,?_⟩;cases d with
     |true=>exact bc
     |false=>exact bc.mono (fun _ _=>rfl) (fun _ h=>.inl h) (fun _ _=>rfl)
   . rename_i v xs v2 ys hlk;obtain ⟨b,cs,e,sh,hφ,hfs,aD,hsz,hlf,hrv⟩:=h.aF l _ hlk;obtain ⟨q1,q2,q3,q4⟩:=rF h xs ys (cs.toList.take xs.length) hb (by simp;omega) (fun i hi=>by rw [qm hi];exact hrv i hi);exact ⟨b,cs,e,sh,by simp [gH,hk,hφ,bj.ae],hfs,aD,by omega,q2,fun i hi=>by have:=q3 i hi;rwa [qm (by omega)] at this⟩
   . rename_i v2 sh2 d2 xs2 hlk;obtain ⟨h1,h2⟩:=QB (.inl hlk);exact .inl ⟨by simp [gH,hk,h1,bj.ae],hb,h2⟩
   . rename_i v v2 sh2 d2 xs2 hlk;obtain ⟨h1,h2⟩:=QB (.inr ⟨v,hlk⟩);exact .inl ⟨by simp [gH,hk,h1,bj.ae],hb,h2⟩
   exact hb.elim
 . intro l v xs hk l' ae hl;have hb:=xd hM hk;unfold xb at hb;split at hb
   . cases ‹bj.box v xs=_›
   . rename_i v' xs' v2 ys hlk hbx;cases hbx;obtain ⟨b,cs,e,sh,hφ,hfs,aD,hsz,hlf,hrv⟩:=h.aF l _ hlk;exact (rF h xs' xs (cs.toList.take xs'.length) hb (by simp;omega) (fun i hi=>by rw [qm hi];exact hrv i hi)).2.2.2 l' ae hl
   . cases ‹bj.box v xs=_›
   . cases ‹bj.box v xs=_›
   exact hb.elim
 . intro l;unfold xf;split
   . simp
   exact h.gZ l
 . intro l l' b h1 h2;exact h.fI l l' b (UJ l b h1).1 (UJ l' b h2).1
 . intro l b hb hs;obtain ⟨h1,k,hk⟩:=UJ l b hb;rcases hs with hs|⟨l',hl',_,hb'⟩
   . exact h.bQ l b h1 hs
   have:=h.fI l l' b h1 hb';subst this;rw [hk] at hl';cases hl'
 . intro l b hb;exact h.cw l b (UJ l b hb).1
 . intro b hb;rcases hb with hb|⟨l,_,hio,hb⟩
   . exact h.sB b hb
   have:=h.cw l b hb;exact ⟨this.1,.inl (this.2.resolve_right fun hh=>Nat.lt_irrefl _ (q15 hio hh.choose_spec.2.1))⟩
 . intro l ae hl hk;obtain ⟨k,k2,h1,h2,h3,h4,_⟩:=keeps l ae hl (h.kn l ae hl hk);exact ⟨k2,h2,h3▸h4⟩
 intro l ae hl hk;obtain ⟨k,k2,h1,h2,h3,h4,hng⟩:=keeps l ae hl (h.kn l ae hl hk);have hle:=h.fix l ae hl hk;have hb:=h.aF l k h1;have hx2:gH φ m2 l=match φ l with| .at b sh _=>.at b sh k2.ae|_=>.nil k2.ae:=by unfold gH;rw [h2]
 have e:gH φ m2 l=φ l:=by
  rw [hx2];cases k with
  |gone v=>exact absurd rfl (hng v)
  |row v sh d xs=>
   rcases hb with ⟨q1,_,_⟩|⟨b,cap,q1,_⟩
   . rw [q1,←h3];rfl
   rw [q1,←h3];rfl
  |box v xs=>
   obtain ⟨b,cs,e,sh,q1,_⟩:=hb;rw [q1,←h3];rfl
  |j8 v xs i u=>
   obtain ⟨b,cap,cs,e,fr,q1,_⟩:=hb;rw [q1,←h3];rfl
  |sub v sh xs u=>
   obtain ⟨b,cap,q1,_⟩:=hb;rw [q1,←h3];rfl
 rw [e];exact hle
theorem Ok.mono {c:Code} {Q Q':dc} (h:Ok P N c ts m Q) (hq:∀e ts m,Q e ts m->Q' e ts m):Ok P N c ts m Q':=fun B φ fp S a w hRS=>
 wp_mono (h B φ fp S a w hRS) fun e _ _ ⟨φ',fp',S',ts',m',h1,h2⟩=>⟨φ',fp',S',ts',m',h1,hq e ts' m' h2⟩
theorem Ok.loop {body:Code} {ι:Type} (I:ι->Prop) (σ:ι->Env × Mem) (μ:ι->Nat) {Q:dc} (x0:ι) (h0:I x0) (hr:rE ts m (σ x0).1 (σ x0).2)
 (step:∀x,I x->Ok P N body (σ x).1 (σ x).2 (y9 Q fun ts' m'=>∃y,I y/\μ y<μ x/\rE ts' m' (σ y).1 (σ y).2)):Ok P N (.loop body) ts m Q:=by
 intro B φ fp S a w hRS;refine wp_loop_ghost (fun n a w=>∃x φ fp S,I x/\μ x=n/\RS B N φ fp S (σ x).1 (σ x).2 a w) (μ x0) ⟨x0,_,_,_,h0,rfl,hRS.refine hr⟩ ?_;rintro n a w ⟨x,φ,fp,S,hx,rfl,hRS⟩;refine wp_mono (step x hx B φ fp S a w hRS) fun e a' w' hq=> ?_;obtain ⟨φ',fp',S',ts',m',h1,h2⟩:=hq;cases e with
 |normal=>
  obtain ⟨y,hy,hlt,VT⟩:=h2;exact ⟨μ y,hlt,y,_,_,_,hy,rfl,h1.refine VT⟩
 |_=>exact ⟨φ',fp',S',ts',m',h1,h2⟩
theorem aj.loop {body:Code} {ι:Type} (I:ι->Prop) (σ:ι->Env × Mem) (μ:ι->Nat) {Q:dc} {q:Pack (Code.loop body,Q)} (x0:ι) (h0:I x0) (hr:rE ts m (σ x0).1 (σ x0).2) (hok:codeOk N body=true)
 (step:∀x,I x->vc P N body (σ x).1 (σ x).2 (y9 Q fun ts' m'=>∃y,I y/\μ y<μ x/\rE ts' m' (σ y).1 (σ y).2)):aj P N (.loop body) ts m Q q:=
 ⟨Ok.loop I σ μ x0 h0 hr fun x hx=>cD body _ _ _ hok (step x hx)⟩
theorem aj.upto {body:Code} (n:Nat) (I:Nat->Prop) (σ:Nat->Env × Mem) {Q:dc} {q:Pack (Code.loop body,Q)} (h0:I 0) (hr:rE ts m (σ 0).1 (σ 0).2) (hok:codeOk N body=true)
 (step:∀i,i<n->I i->vc P N body (σ i).1 (σ i).2 (y9 Q fun ts' m'=>I (i+1)/\rE ts' m' (σ (i+1)).1 (σ (i+1)).2))
 (stop:I n->vc P N body (σ n).1 (σ n).2 (y9 Q fun _ _=>False)):aj P N (.loop body) ts m Q q:=by
 refine ⟨Ok.loop (fun i=>i<=n/\I i) σ (fun i=>n-i) 0 ⟨Nat.zero_le _,h0⟩ hr fun i ⟨hi,hI⟩=> ?_⟩;rcases Nat.lt_or_ge i n with h|h
 . refine (cD body _ _ _ hok (step i h hI)).mono fun e ts' m' hq=> ?_;cases e with
   |normal=>exact ⟨i+1,⟨h,hq.1⟩,by omega,hq.2⟩
   |_=>exact hq
 have e:i=n:=Nat.le_antisymm hi h;subst e;refine (cD body _ _ _ hok (stop hI)).mono fun e ts' m' hq=> ?_;cases e with
 |normal=>exact hq.elim
 |_=>exact hq
end
def na (ag:Bool) (n j v:Nat) (b:Option bj) (k:AV->Prop):Prop:=match b with
 |some (.box v' xs)=>v'=v/\(if ag then j+n<=xs.length/\k (.agg ((xs.drop j).take n)) else j9 xs[j]? k)
 |_=>False
@[congr] theorem QO {ag:Bool} {n j v:Nat} {b b':Option bj} {k:AV->Prop} (h:b=b'):na ag n j v b k=na ag n j v b' k:=by rw [h]
theorem uy (n j v:Nat) (xs:lA) (k:AV->Prop):na true n j v (some (.box v xs)) k=(j+n<=xs.length/\k (.agg ((xs.drop j).take n))):=by simp [na]
def oC (ag:Bool) (n:Nat) (p:AV) (m:Mem) (k:AV->Prop):Prop:=match p with
 | .ptr l v i j=>i=0/\na ag n j v (ah m l) k
 |_=>False
@[congr] theorem RD {ag:Bool} {n:Nat} {p p':AV} {m:Mem} {k:AV->Prop} (h:p=p'):oC ag n p m k=oC ag n p' m k:=by rw [h]
theorem xi (ag:Bool) (n l v j:Nat) (m:Mem) (k:AV->Prop):oC ag n (.ptr l v 0 j) m k=na ag n j v (ah m l) k:=by simp [oC]
def aN (P:Program) (k:lA->Prop):List ResultVar->Env->Mem->lA->Prop
 | [],_,_,acc=>k acc.reverse
 | .tmp t::r,ts,m,acc=>aN P k r ts m (look ts t::acc)
 | .cell p t::r,ts,m,acc=>dZ (aJ P t) fun ti=>oC ti.agg ti.size (look ts p) m fun y=>aN P k r ts m (y::acc)
section
variable (P:Program) (k:lA->Prop) (r:List ResultVar) (ts:Env) (m:Mem) (acc:lA)
theorem rG:aN P k [] ts m acc=k acc.reverse:=rfl
theorem rH (t:Nat):aN P k (.tmp t::r) ts m acc=aN P k r ts m (look ts t::acc):=rfl
theorem p6 (p t:Nat):aN P k (.cell p t::r) ts m acc=dZ (aJ P t) fun ti=>oC ti.agg ti.size (look ts p) m fun y=>aN P k r ts m (y::acc):=rfl
end
def uz (l v i n:Nat) (used:lN) (b:Option bj) (k:AV->lN->Prop):Prop:=match b with
 |some (.row v' sh deep xs)=>v'=v/\deep=true/\i=0/\(0<sh.sz/\n<=xs.length/\l<bE/\l∉used)/\k (.arr sh (xs.take n)) (l::used)
 |_=>False
@[congr] theorem TJ {l v i n:Nat} {used:lN} {b b':Option bj} {k:AV->lN->Prop} (h:b=b'):uz l v i n used b k=uz l v i n used b' k:=by rw [h]
theorem AR (l v n:Nat) (used:lN) (sh:Sh) (xs:lA) (k:AV->lN->Prop):
 uz l v 0 n used (some (.row v sh true xs)) k=((0<sh.sz/\n<=xs.length/\l<bE/\l∉used)/\k (.arr sh (xs.take n)) (l::used)):=by simp [uz]
def p7 (m:Mem) (used:lN) (x:AV) (k:AV->lN->Prop):Prop:=match x with
 | .val v=>k (.val v) used
 | .e0=>k .e0 used
 | .ref l v i n=>uz l v i n used (ah m l) k
 |_=>False
@[congr] theorem TL {m:Mem} {used:lN} {x x':AV} {k:AV->lN->Prop} (h:x=x'):p7 m used x k=p7 m used x' k:=by rw [h]
theorem AS (m:Mem) (used:lN) (v:Value) (k:AV->lN->Prop):p7 m used (.val v) k=k (.val v) used:=rfl
theorem AT (m:Mem) (used:lN) (l v i n:Nat) (k:AV->lN->Prop):p7 m used (.ref l v i n) k=uz l v i n used (ah m l) k:=rfl
def qn (m:Mem) (k:lA->lN->Prop):lN->lA->lA->Prop
 |used,acc,[]=>k acc.reverse used
 |used,acc,x::r=>p7 m used x fun y used'=>qn m k used' (y::acc) r
theorem xj (m:Mem) (k:lA->lN->Prop) (used:lN) (acc:lA):qn m k used acc []=k acc.reverse used:=rfl
theorem uA (m:Mem) (k:lA->lN->Prop) (used:lN) (acc:lA) (x:AV) (r:lA):qn m k used acc (x::r)=p7 m used x fun y used'=>qn m k used' (y::acc) r:=rfl
def rI (m:Mem) (used:lN) (x:AV) (k:AV->lN->Prop):Prop:=match x with
 | .agg xs=>qn m (fun ys u=>k (.agg ys) u) used [] xs
 |x=>p7 m used x k
@[congr] theorem TM {m:Mem} {used:lN} {x x':AV} {k:AV->lN->Prop} (h:x=x'):rI m used x k=rI m used x' k:=by rw [h]
theorem AU (m:Mem) (used:lN) (xs:lA) (k:AV->lN->Prop):rI m used (.agg xs) k=qn m (fun ys u=>k (.agg ys) u) used [] xs:=rfl
theorem AW (m:Mem) (used:lN) (v:Value) (k:AV->lN->Prop):rI m used (.val v) k=k (.val v) used:=rfl
theorem AX (m:Mem) (used:lN) (l v i n:Nat) (k:AV->lN->Prop):rI m used (.ref l v i n) k=uz l v i n used (ah m l) k:=rfl
def iN (m:Mem) (k:lA->Prop):lN->lA->lA->Prop
 |_,acc,[]=>k acc.reverse
 |used,acc,x::r=>rI m used x fun y used'=>iN m k used' (y::acc) r
theorem xk (m:Mem) (k:lA->Prop) (used:lN) (acc:lA):iN m k used acc []=k acc.reverse:=rfl
theorem uB (m:Mem) (k:lA->Prop) (used:lN) (acc:lA) (x:AV) (r:lA):iN m k used acc (x::r)=rI m used x fun y used'=>iN m k used' (y::acc) r:=rfl
def bG:lA->AV| [x]=>x|xs=>.aX xs
theorem KE (x:AV):bG [x]=x:=rfl
theorem KF:bG []= .aX []:=rfl
theorem sH (x y:AV) (r:lA):bG (x::y::r)= .aX (x::y::r):=rfl
def fin (P:Program) (rs:List ResultVar) (post:AV->Prop):dc
 | .normal=>fun ts m=>aN P (fun xs=>iN m (fun ys=>post (bG ys)) [] [] xs) rs ts m []
 | .ret=>fun ts m=>aN P (fun xs=>iN m (fun ys=>post (bG ys)) [] [] xs) rs ts m []
 |_=>fun _ _=>False
theorem RE (P:Program) (rs:List ResultVar) (post:AV->Prop) (ts:Env) (m:Mem):fin P rs post .ret ts m=aN P (fun xs=>iN m (fun ys=>post (bG ys)) [] [] xs) rs ts m []:=rfl
def bH:Nat->lA->Env
 |_,[]=>[]
 |i,x::r=>(i,x)::bH (i+1) r
theorem KG (i:Nat):bH i []=[]:=rfl
theorem Ha (i:Nat) (x:AV) (r:lA):bH i (x::r)=(i,x)::bH (i+1) r:=rfl
section
variable {P:Program} {B:eE} {N:Nat} {φ:Nat->LS} {fp:Nat->lN} {S:Nat->Prop} {ts:Env} {m:Mem} {a:Act} {w:World}
theorem AY {t:TypeId} {ti:TI} (ht:aJ P t=some ti) (h:RS B N φ fp S ts m a w) {p:AV} {v:Value} (hp:RV w S φ p v) {k:AV->Prop} (hk:oC ti.agg ti.size p m k):
 ∃ad u y,v= .pointer (some ad)/\(loadVar t ad).run P w= .ok u w/\RV w S φ y u/\(∀l ae,(l,ae)∈an y->known m l ae)/\k y:=by
 unfold oC at hk;split at hk
 . rename_i l ae i j;obtain ⟨rfl,hk⟩:=hk;have hp1:=jV hp;unfold na at hk;split at hk
   . rename_i v' xs hlk;obtain ⟨rfl,hk⟩:=hk;obtain ⟨b,cs,e,sh,hφ,hfs,aD,hsz,hlf,hr⟩:=h.aF l _ hlk;have hpv:=hp1 b sh hφ;rw [Nat.zero_mul,Nat.zero_add] at hpv;subst hpv;cases hag:ti.agg with
     |true=>
      simp only [hag,if_true] at hk;obtain ⟨hlen,hk⟩:=hk;refine ⟨_,_,.agg ((xs.drop j).take ti.size),rfl,da ht aD j (fun _=>by omega) (fun h=>by rw [hag] at h;cases h),?_,?_,hk⟩
      . rw [show ti.sh=⟨ti.size,true⟩ by simp [TI.sh,hag],cX];refine .agg _ _ (by simp;omega) (fun i hi=> ?_) fun i hi=> ?_
        . simp only [List.length_take,List.length_drop] at hi;simp only [q9,q6];exact hlf _ (by omega)
        simp only [List.length_take,List.length_drop] at hi;simp only [q9,q6];rw [bR _ _ _ _ (by omega)];exact hr (j+i) (by omega)
      intro l' ver' hl';simp only [an] at hl';obtain ⟨i,hi,hl2⟩:=bW hl';simp only [List.length_take,List.length_drop] at hi;simp only [q9,q6] at hl2;exact h.bl l v' xs hlk l' ver' (bt (by omega) hl2)
     |false=>
      simp only [hag,if_false,Bool.false_eq_true] at hk;cases hj:xs[j]? with
      |none=>rw [hj] at hk;exact hk.elim
      |some y=>
       rw [hj] at hk;obtain ⟨hj1,hj2⟩:=List.getElem?_eq_some_iff.1 hj;refine ⟨_,_,y,rfl,da ht aD j (fun h=>by rw [hag] at h;cases h) (fun _=>by omega),?_,?_,hk⟩
       . rw [show ti.sh=⟨ti.size,false⟩ by simp [TI.sh,hag],bg];have:=hr j hj1
         rwa [hj2] at this
       intro l' ver' hl';exact h.bl l v' xs hlk l' ver' (bt hj1 (by rw [hj2];exact hl'))
   exact hk.elim
 exact hk.elim
def cY (tmps:aV):ResultVar->Sem Value
 | .tmp t=>pure (tmps.getD t Go.undef)
 | .cell p t=>do loadVar t (←asAddr (tmps.getD p Go.undef))
theorem lz (h:RS B N φ fp S ts m a w) {Q:lA->Prop}:∀(rs:List ResultVar) (acc:lA) (va:List Value),pa (RV w S φ) acc.reverse va->aN P Q rs ts m acc→
 ∃xs vs,Q xs/\(rs.mapM (cY a.tmps)).run P w= .ok vs w/\pa (RV w S φ) xs (va++vs)/\vs.length=rs.length
 | [],acc,va,ha,hk=>⟨_,[],hk,by simp,by simpa using ha,rfl⟩
 | .tmp t::r,acc,va,ha,hk=>by
   obtain ⟨xs,vs,h1,h2,h3,h4⟩:=lz h r (look ts t::acc) (va++[a.tmps.getD t Go.undef]) (by rw [q13];exact ha.snoc (h.tm t)) hk;refine ⟨xs,a.tmps.getD t Go.undef::vs,h1,?_,by simpa using h3,by simp [h4]⟩;rw [List.mapM_cons];simp only [cY,Sem.run_bind,Sem.run_pure,Result.andThen_ok,h2]
 | .cell p t::r,acc,va,ha,hk=>by obtain ⟨ti,ht,hk⟩:=bF hk;obtain ⟨ad,u,y,hv,hr,hy,_,hk⟩:=AY ht h (h.tm p) hk;obtain ⟨xs,vs,h1,h2,h3,h4⟩:=lz h r (y::acc) (va++[u]) (by rw [q13];exact ha.snoc hy) hk;refine ⟨xs,u::vs,h1,?_,by simpa using h3,by simp [h4]⟩;rw [List.mapM_cons];simp only [cY,hv,asAddr,Sem.run_bind,Sem.run_pure,Result.andThen_ok,hr,h2]
structure lB (fp:Nat->lN) (used used':lN) (fs:lN):Prop where
 gZ:fs.Nodup
 mem:∀b,b∈fs->∃l,l∈used'/\b∈fp l
 fI:∀b,b∈fs->∀l,l∈used->b∉fp l
 sub:∀l,l∈used->l∈used'
 lo:∀l,l∈used'->l∈used\/l<bE
theorem lB.nil (used:lN):lB fp used used []:=⟨q12,fun _ h=>(by cases h),fun _ h=>(by cases h),fun _ h=>h,fun _ h=>.inl h⟩
theorem lB.app {u1 u2 u3 fs gs:lN} (h:lB fp u1 u2 fs) (g:lB fp u2 u3 gs):lB fp u1 u3 (fs++gs):=by
 refine ⟨List.nodup_append.2 ⟨h.gZ,g.gZ,?_⟩,?_,?_,fun l hl=>g.sub l (h.sub l hl),?_⟩
 . rintro b hb c hc rfl;obtain ⟨l,hl,hbl⟩:=h.mem b hb;exact g.fI b hc l hl hbl
 . intro b hb;rcases List.mem_append.1 hb with hb|hb
   . obtain ⟨l,hl,hbl⟩:=h.mem b hb;exact ⟨l,g.sub l hl,hbl⟩
   exact g.mem b hb
 . intro b hb l hl;rcases List.mem_append.1 hb with hb|hb
   . exact h.fI b hb l hl
   exact g.fI b hb l (h.sub l hl)
 intro l hl;rcases g.lo l hl with hl|hl
 . exact h.lo l hl
 exact .inr hl
theorem Ex (h:RS B N φ fp S ts m a w) {used:lN} {x:AV} {v:Value} (hx:RV w S φ x v) {k:AV->lN->Prop} (hk:p7 m used x k):
 ∃y used' fs,k y used'/\leaf y/\Own w (fun _=>False) y v fs/\lB fp used used' fs:=by
 unfold p7 at hk;split at hk
 . rename_i u;have:=aS hx;obtain ⟨rfl,hu⟩:=this;exact ⟨_,_,[],hk,trivial,.rd _ _ (.val _ hu),lB.nil used⟩
 . cases hx with
   |rd _ _ hr=>cases hr with
    |e0 ad=>exact ⟨_,_,[],hk,trivial,.rd _ _ (.e0 ad),lB.nil used⟩
 . rename_i l ae i n;obtain ⟨r1,r2⟩:=dm hx;unfold uz at hk;split at hk
   . rename_i v' sh deep xs hlk;obtain ⟨rfl,rfl,rfl,⟨h0,hn,hio,hnu⟩,hk⟩:=hk;have jq:n=0->(∃ad,v= .slice ad 0 0)->∃y used' fs,k y used'/\leaf y/\Own w (fun _=>False) y v fs/\lB fp used used' fs:=by
      rintro rfl ⟨ad,rfl⟩
      exact ⟨_,_,[],hk,trivial,by rw [List.take_zero];exact .rd _ _ (.nil sh ad),q12,fun _ hh=>(by cases hh),fun _ hh=>(by cases hh),fun _ hh=>List.mem_cons_of_mem _ hh,fun l' hl'=>by
       rcases List.mem_cons.1 hl' with rfl|hl'
       . exact .inr hio
       exact .inl hl'⟩
     rcases h.aF l _ hlk with ⟨hφ,hxs,_⟩|⟨b,cap,hφ,hbm,_,bc⟩
     . exact jq (r2 hφ).1 (r2 hφ).2
     obtain ⟨ad,cap',rfl,b6,hc⟩:=r1 b sh hφ;rcases hc with rfl|⟨rfl,cs',e',hh',hs'⟩
     . have:n=0:=by omega
       subst this;exact jq rfl ⟨_,rfl⟩
     simp only [if_true] at bc;obtain ⟨gs,g1,g2,cs,e,g3,g4⟩:=DO bc hbm n hn;rw [g3] at hh';injection hh' with hh';injection hh' with e1
     subst e1;rw [g4,Nat.zero_add] at hs';have:cap=cap':=Nat.eq_of_mul_eq_mul_right h0 hs';subst this;refine ⟨_,_,gs,hk,trivial,by simpa using g1,g2.nodup (h.gZ l),fun c hc=>⟨l,List.mem_cons_self ..,g2.subset hc⟩,fun c hc l' hl' hcl=> ?_,fun _ hh=>List.mem_cons_of_mem _ hh,fun l' hl'=> ?_⟩
     . have:=h.fI l l' c (g2.subset hc) hcl;subst this;exact hnu hl'
     rcases List.mem_cons.1 hl' with rfl|hl'
     . exact .inr hio
     exact .inl hl'
   exact hk.elim
 exact hk.elim
theorem xl {one:lN->AV->(AV->lN->Prop)->Prop} {ok:AV->Prop}
 (lf:∀(used:lN) (x:AV) (v:Value) (k:AV->lN->Prop),RV w S φ x v->one used x k->∃y used' fs,k y used'/\ok y/\Own w (fun _=>False) y v fs/\lB fp used used' fs)
 {Q:lA->lN->Prop} {many:lN->lA->lA->Prop} (jq:∀used acc,many used acc []->Q acc.reverse used) (GC:∀used acc x r,many used acc (x::r)->one used x fun y used'=>many used' (y::acc) r):
 ∀(xs:lA) (vs:List Value) (used:lN) (acc:lA),vs.length=xs.length->(∀i (h:i<xs.length),RV w S φ xs[i] (vs.getD i Go.undef))->many used acc xs→
  ∃(ys:lA) (used':lN) (fss:List lN),Q (acc.reverse++ys) used'/\ys.length=xs.length/\fss.length=ys.length/\(∀i (h:i<ys.length),ok ys[i]/\Own w (fun _=>False) ys[i] (vs.getD i Go.undef) (fss.getD i []))/\lB fp used used' fss.flatten
 | [],vs,used,acc,hv,_,hk=>⟨[],used,[],by simpa using jq _ _ hk,rfl,rfl,fun i hi=>absurd hi (q16 _),lB.nil used⟩
 |x::xs,vs,used,acc,hv,hr,hk=>by
  cases vs with
  |nil=>simp at hv
  |cons v vs=>
   obtain ⟨y,used1,fs,h1,h2,h3,h4⟩:=lf used x v _ (hr 0 (by simp)) (GC _ _ _ _ hk);obtain ⟨ys,used2,fss,g1,g2,g3,g4,g5⟩:=xl lf jq GC xs vs used1 (y::acc) (by simpa using hv) (fun i hi=>by have:=hr (i+1) (by simpa using hi);exact this) h1;refine ⟨y::ys,used2,fs::fss,by simpa using g1,by simp [g2],by simp [g3],fun i hi=> ?_,?_⟩
   . cases i with
     |zero=>exact ⟨h2,h3⟩
     |succ i=>exact g4 i (by simpa using hi)
   rw [List.flatten_cons];exact h4.app g5
theorem N3 (h:RS B N φ fp S ts m a w) {used:lN} {x:AV} {v:Value} (hx:RV w S φ x v) {k:AV->lN->Prop} (hk:rI m used x k):
 ∃y used' fs,k y used'/\True/\Own w (fun _=>False) y v fs/\lB fp used used' fs:=by
 cases x with
 |agg xs=>
  obtain ⟨cs,rfl,h1,h2,h3⟩:=mQ hx
  obtain ⟨ys,used',fss,g1,g2,g3,g4,g5⟩:=xl (one:=fun used x k=>p7 m used x k) (ok:=leaf) (Q:=fun ys u=>k (.agg ys) u) (many:=fun used acc xs=>qn m (fun ys u=>k (.agg ys) u) used acc xs)
   (fun used x v k hx hk=>Ex h hx hk) (fun _ _ h=>h) (fun _ _ _ _ h=>h) xs cs.toList used [] (by simpa using h1) h3 hk
  exact ⟨.agg ys,used',fss.flatten,by simpa using g1,trivial,.agg ys cs fss (h1.trans g2.symm) (fun i hi=>(g4 i hi).1) g3 (fun i hi=>(g4 i hi).2),g5⟩
 |_=>
  obtain ⟨y,used',fs,g1,_,g3,g4⟩:=Ex h hx hk;exact ⟨y,used',fs,g1,trivial,g3,g4⟩
theorem AZ (h:RS B N φ fp S ts m a w) {xs:lA} {vs:List Value} (hl:vs.length=xs.length) (hx:∀i (h:i<xs.length),RV w S φ xs[i] (vs.getD i Go.undef)) {k:lA->Prop} (hk:iN m k [] [] xs):
 ∃(ys:lA) (fss:List lN),k ys/\ys.length=xs.length/\fss.length=ys.length/\(∀i (h:i<ys.length),Own w (fun _=>False) ys[i] (vs.getD i Go.undef) (fss.getD i []))/\fss.flatten.Nodup/\∀b,b∈fss.flatten->∃l,l<bE/\b∈fp l:=by
 obtain ⟨ys,used',fss,g1,g2,g3,g4,g5⟩:=xl (one:=fun used x k=>rI m used x k) (ok:=fun _=>True) (Q:=fun ys _=>k ys) (many:=fun used acc xs=>iN m k used acc xs)
  (fun used x v k hx hk=>N3 h hx hk) (fun _ _ h=>h) (fun _ _ _ _ h=>h) xs vs [] [] hl hx hk
 refine ⟨ys,fss,by simpa using g1,g2,g3,fun i hi=>(g4 i hi).2,g5.gZ,fun b hb=> ?_⟩;obtain ⟨l,hl,hbl⟩:=g5.mem b hb;rcases g5.lo l hl with hh|hh
 . cases hh
 exact ⟨l,hh,hbl⟩
theorem A0 {ys:lA} {vs:List Value} {fss:List lN} (hl:vs.length=ys.length) (hf:fss.length=ys.length) (hv:∀i (h:i<ys.length),Own w (fun _=>False) ys[i] (vs.getD i Go.undef) (fss.getD i [])):
 Own w (fun _=>False) (bG ys) (if h:vs.toArray.size=1 then vs.toArray[0] else .tuple vs.toArray) fss.flatten:=by
 match ys,vs,fss,hl,hf,hv with
 | [],[],[],_,_,_=>exact .rd _ _ (.aX [] #[] rfl fun i hi=>absurd hi (q16 _))
 | [y],[v],[f],_,_,hv=>simpa [bG] using hv 0 (by simp)
 |y::y'::r,v::v'::r',f::f'::r'',hl,hf,hv=>
  have:¬((v::v'::r').toArray.size=1):=by simp
  rw [dif_neg this];exact .aX _ _ _ (by simpa using hl) hf (by simpa using hv)
theorem bI:∀(xs:lA) (i t:Nat),look (bH i xs) t=if i<=t then (xs[t-i]?).getD .undef else .undef
 | [],i,t=>by simp [bH,look]
 |x::r,i,t=>by
  rw [bH,cP,bI r (i+1) t];by_cases h:i=t
  . subst h;simp
  by_cases h2:i<=t
  . have h3:i+1<=t:=by omega
    rw [if_neg h,if_pos h3,if_pos h2,show t-i=(t-(i+1))+1 by omega,List.getElem?_cons_succ]
  rw [if_neg h,if_neg (by omega),if_neg h2]
theorem Fn.nb {P:Program} {f:FuncId} {fn:Func} {c:Code} {args:List AV} {post:AV→Prop} (hf:P.funcs[f]? =some fn) (hn:(fn.name== "runtime.NumGoroutine")=false) (hb:fn.body=some c)
 (hok:codeOk fn.ntmps c=true) (ha:args.length<=fn.ntmps) (hv:vc P fn.ntmps c (bH 0 args) [] (fin P fn.results.toList post)):Fn P f args true post:=by
 refine ⟨⟨fn,c,hf,hn,hb⟩,fun w S vs hS yZ hsz hrd=> ?_⟩;refine calls_of_wp hf hb ?_;have hRS:RS ⟨w,fun _ _=>False,fun _=>True,fun _=>.dead,[]⟩ fn.ntmps (fun _=>.dead) (fun _=>[]) (fun b=>b<w.heap.size) (bH 0 args) [] {tmps:=vs++Array.replicate (fn.ntmps-vs.size) undef,defers:=[]} w:=by
  have hx:∀i (h:i<args.length),Rd w (fun b=>b<w.heap.size) args[i] (vs.toList.getD i Go.undef):=fun i h=>(hrd i h).mono (fun _ _=>rfl) hS;have lS:∀t,(look (bH 0 args) t= .undef\/∃h:t<args.length,look (bH 0 args) t=args[t]):=by
   intro t;rw [bI];by_cases h:t<args.length
   . exact .inr ⟨h,by simp [h]⟩
   exact .inl (by simp [h])
  refine {tm:=fun t=> ?_,tl:=fun t l ae hl=> ?_,b7:=fun _ _=>⟨rfl,rfl⟩,aF:=fun l k hk=>(by cases hk),bl:=fun l v xs hk=>(by cases hk),gZ:=fun _=>q12,
          fI:=fun _ _ _ h=>(by cases h),bQ:=fun _ _ h=>(by cases h),cw:=fun _ _ h=>(by cases h),sB:=fun b hb=>⟨hb,.inr trivial⟩,base:=fun b hb _=>rfl,out:=a8.refl _,kj:=jD.refl _,kn:=fun _ _ _ hk=>hk,fix:=fun _ _ _ _=>LS.le_refl _ _,
          size:=Nat.le_refl _,defers:=rfl,k6:=by simp;omega,js:=yZ.mono (fun _ _=>rfl) hS}
  . rcases lS t with e|⟨h,e⟩
    . rw [e];exact .rd _ _ (.undef _)
    rw [e];have h1:=hx t h;have:vs.toList.getD t Go.undef=(vs++Array.replicate (fn.ntmps-vs.size) undef).getD t Go.undef:=by
     have h2:t<vs.size:=by omega
     simp only [q0,q4,q2];rw [Array.getElem?_append_left h2]
    rw [←this];exact .rd _ _ h1
  rcases lS t with e|⟨h,e⟩
  . rw [e] at hl;cases hl
  rw [e,fT (hx t h)] at hl;cases hl
 have fR:∀a' w',hZ ⟨w,fun _ _=>False,fun _=>True,fun _=>.dead,[]⟩ fn.ntmps (fun ts m=>aN P (fun xs=>iN m (fun ys=>post (bG ys)) [] [] xs) fn.results.toList ts m []) a' w'→
  a'.defers=[]/\∃v,(results fn a'.tmps).run P w'= .ok v w'/\∃r v',Ending.returned v= .returned v'/\post r/\Grown w w'/\iK w w' S true r v':=by
  rintro a' w' ⟨φ',fp',S',ts',m',h',hk⟩;refine ⟨h'.defers,?_⟩;obtain ⟨xs,us,h1,h2,h3,_⟩:=lz h' fn.results.toList [] [] ⟨rfl,fun i hi=>absurd hi (q16 _)⟩ hk;obtain ⟨h3a,h3b⟩:=h3;simp only [q11] at h3a h3b;obtain ⟨ys,fss,g1,g2,g3,g4,g5,g6⟩:=AZ h' h3a h3b h1;refine ⟨if h:us.toArray.size=1 then us.toArray[0] else .tuple us.toArray,?_,bG ys,_,rfl,g1,⟨h'.size,fun b hb=>h'.base b hb (fun _ h=>h),h'.out⟩,?_⟩
  . have hm:results fn a'.tmps=(do let vs ←fn.results.mapM (cY a'.tmps);pure (if h:vs.size=1 then vs[0] else .tuple vs)):=by
     unfold results;congr 1
    rw [hm,Sem.run_bind,Array.mapM_eq_mapM_toList];have:(List.toArray <$> fn.results.toList.mapM (cY a'.tmps):Sem aV).run P w'= .ok us.toArray w':=by rw [map_eq_pure_bind,Sem.run_bind,h2];rfl
    rw [this];rfl
  refine ⟨fss.flatten,A0 (h3a.trans g2.symm) g3 g4,g5,fun b hb=> ?_⟩;obtain ⟨l,hl,hbl⟩:=g6 b hb;rcases (h'.cw l b hbl).2 with hh|⟨_,hh,_⟩
  . exact hh
  exact hh.elim
 refine wp_mono (cD c _ _ _ hok hv _ _ _ _ _ _ hRS) ?_;intro e a' w' hq;cases e with
 |normal=>exact fR a' w' hq
 |ret=>exact fR a' w' hq
 |_=>obtain ⟨_,_,_,_,_,_,hh⟩:=hq;exact hh.elim
theorem Fn.dK {P:Program} {f:FuncId} {fn:Func} {c:Code} {args:List AV} {post:AV→Prop} (N:Nat) (rs:List ResultVar) (hf:P.funcs[f]? =some fn) (hN:fn.ntmps=N:=by exact rfl) (hr:fn.results.toList=rs:=by exact rfl) (hn:(fn.name== "runtime.NumGoroutine")=false:=by exact rfl)
 (hb:fn.body=some c:=by exact rfl) (hok:codeOk N c=true:=by exact rfl) (ha:args.length<=N:=by exact oT rfl) (hv:vc P N c (bH 0 args) [] (fin P rs post)):Fn P f args true post:=by
 subst hN;subst hr;exact Fn.nb hf hn hb hok ha hv
def l7:Nat->List bj->Mem
 |_,[]=>[]
 |k,b::r=>(bE+k,b)::l7 (k+1) r
theorem RF (k:Nat):l7 k []=[]:=rfl
theorem N4 (k:Nat) (b:bj) (r:List bj):l7 k (b::r)=(1000000000+k,b)::l7 (k+1) r:=rfl
theorem mo:∀(io:List bj) (k l:Nat),ah (l7 k io) l=if bE+k<=l then io[l-(bE+k)]? else none
 | [],k,l=>by simp [l7,ah]
 |b::r,k,l=>by
  rw [l7,aw,mo r (k+1) l];by_cases h:bE+k=l
  . subst h;simp
  by_cases h2:bE+k<=l
  . rw [if_neg h,if_pos (by omega),if_pos h2,show l-(bE+k)=(l-(bE+(k+1)))+1 by omega,List.getElem?_cons_succ]
  rw [if_neg h,if_neg (by omega),if_neg h2]
def fU:bj->Prop
 | .box _ xs=>aq xs=[]
 | .row _ _ _ _=>True
 | .gone _=>False
 | .j8 _ _ _ _=>False
 | .sub _ _ _ _=>False
def KH (io io':List bj) (m:Mem):Prop:=io'.length=io.length/\∀k (h:k<io'.length) (h':k<io.length),ah m (bE+k)=some io'[k]/\io'[k].ae=io[k].ae/\fU io'[k]
def Hb (w:World) (φ:Nat->LS) (fp:Nat->lN) (S:Nat->Prop) (io:List bj):eE:=⟨w,fun l b=>b∈fp l,S,φ,l7 0 io⟩
def rJ (P:Program) (f:FuncId) (io:List bj) (args:lA) (post:AV->List bj->Prop):Prop:=
 Enters P f/\∀(w:World) (φ:Nat->LS) (fp:Nat->lN) (S:Nat->Prop) (vs:aV),vs.size=args.length→
  RS (Hb w φ fp S io) vs.size φ fp S (bH 0 args) (l7 0 io) {tmps:=vs,defers:=[]} w→
  Calls P f vs w fun e w'=>∃r v io' φ' fp' S' m',e= .returned v/\post r io'/\RS (Hb w φ fp S io) 0 φ' fp' S' [] m' {tmps:= #[],defers:=[]} w'/\KH io io' m'∧
   ∃fs,Own w' (fun _=>False) r v fs/\fs.Nodup/\∀b,b∈fs->w.heap.size<=b/\¬S' b/\∀l,bE<=l->b∉fp' l
def za (v:Nat) (b:Option bj) (k:bj->Prop):Prop:=match b with
 |some (.row v' sh d xs)=>v'=v/\k (.row v' sh d xs)
 |some (.box v' xs)=>v'=v/\aq xs=[]/\k (.box v' xs)
 |_=>False
@[congr] theorem US {v:Nat} {b b':Option bj} {k:bj->Prop} (h:b=b'):za v b k=za v b' k:=by rw [h]
theorem Ey (v:Nat) (sh:Sh) (d:Bool) (xs:lA) (k:bj->Prop):za v (some (.row v sh d xs)) k=k (.row v sh d xs):=by simp [za]
theorem Ez (v:Nat) (xs:lA) (k:bj->Prop):za v (some (.box v xs)) k=(aq xs=[]/\k (.box v xs)):=by simp [za]
def qo (m:Mem) (k:List bj->Prop):Nat->lN->List bj->Prop
 |_,[],acc=>k acc.reverse
 |i,v::r,acc=>za v (ah m (bE+i)) fun b=>qo m k (i+1) r (b::acc)
theorem EA (m:Mem) (k:List bj->Prop) (i:Nat) (acc:List bj):qo m k i [] acc=k acc.reverse:=rfl
theorem A1 (m:Mem) (k:List bj->Prop) (i v:Nat) (r:lN) (acc:List bj):qo m k i (v::r) acc=za v (ah m (1000000000+i)) fun b=>qo m k (i+1) r (b::acc):=rfl
theorem Co {m:Mem} {k:List bj->Prop}:∀(vers:lN) (i:Nat) (acc:List bj),qo m k i vers acc->∃io',k (acc.reverse++io')/\io'.length=vers.length∧
 ∀j (h:j<io'.length) (h':j<vers.length),ah m (bE+(i+j))=some io'[j]/\io'[j].ae=vers[j]/\fU io'[j]
 | [],i,acc,hk=>by
   have hk1:k acc.reverse:=hk;exact ⟨[],by simpa using hk1,rfl,fun j h=>absurd h (q16 _)⟩
 |v::r,i,acc,hk0=>by
  have hk1:za v (ah m (bE+i)) fun b=>qo m k (i+1) r (b::acc):=hk0;clear hk0
  have main:∀b,ah m (bE+i)=some b->b.ae=v->fU b->qo m k (i+1) r (b::acc)->∃io',k (acc.reverse++io')/\io'.length=(v::r).length∧
   ∀j (h:j<io'.length) (h':j<(v::r).length),ah m (bE+(i+j))=some io'[j]/\io'[j].ae=(v::r)[j]/\fU io'[j]:=by
   intro b hb hv hf hk;obtain ⟨io',h1,h2,h3⟩:=Co r (i+1) (b::acc) hk;refine ⟨b::io',by simpa using h1,by simp [h2],fun j hj hj'=> ?_⟩;cases j with
   |zero=>exact ⟨hb,hv,hf⟩
   |succ j=>
    have:=h3 j (by simpa using hj) (by simpa using hj');rw [show i+1+j=i+(j+1) by omega] at this;exact this
  unfold za at hk1;split at hk1
  . rename_i hb;exact main _ hb hk1.1 trivial hk1.2
  . rename_i hb;exact main _ hb hk1.1 hk1.2.1 hk1.2.2
  exact hk1.elim
def RG (P:Program) (rs:List ResultVar) (vers:lN) (post:AV->List bj->Prop):dc
 | .normal=>fun ts m=>aN P (fun xs=>iN m (fun ys=>qo m (fun io'=>post (bG ys) io') 0 vers []) [] [] xs) rs ts m []
 | .ret=>fun ts m=>aN P (fun xs=>iN m (fun ys=>qo m (fun io'=>post (bG ys) io') 0 vers []) [] [] xs) rs ts m []
 |_=>fun _ _=>False
theorem N5 (P:Program) (rs:List ResultVar) (vers:lN) (post:AV->List bj->Prop) (ts:Env) (m:Mem):
 RG P rs vers post .ret ts m=aN P (fun xs=>iN m (fun ys=>qo m (fun io'=>post (bG ys) io') 0 vers []) [] [] xs) rs ts m []:=rfl
theorem rJ.nb {P:Program} {f:FuncId} {fn:Func} {c:Code} {io:List bj} {args:List AV} {post:AV→List bj→Prop} (hf:P.funcs[f]? =some fn) (hn:(fn.name== "runtime.NumGoroutine")=false) (hb:fn.body=some c)
 (hok:codeOk fn.ntmps c=true) (ha:args.length<=fn.ntmps) (hv:vc P fn.ntmps c (bH 0 args) (l7 0 io) (RG P fn.results.toList (io.map bj.ae) post)):rJ P f io args post:=by
 refine ⟨⟨fn,c,hf,hn,hb⟩,fun w φ fp S vs hsz hR0=> ?_⟩;refine calls_of_wp hf hb ?_;have hRS:RS (Hb w φ fp S io) fn.ntmps φ fp S (bH 0 args) (l7 0 io) {tmps:=vs++Array.replicate (fn.ntmps-vs.size) undef,defers:=[]} w:=by
  refine {hR0 with tm:=fun t=> ?_,defers:=rfl,k6:=by simp;omega};by_cases h:t<args.length
  . have h1:=hR0.tm t;have:vs.getD t Go.undef=(vs++Array.replicate (fn.ntmps-vs.size) undef).getD t Go.undef:=by
     have h2:t<vs.size:=by omega
     simp only [q0];rw [Array.getElem?_append_left h2]
    rw [←this];exact h1
  rw [bI];have:(if 0<=t then (args[t-0]?).getD AV.undef else .undef)= .undef:=by simp [List.getElem?_eq_none (show args.length<=t by omega)]
  rw [this];exact .rd _ _ (.undef _)
 have fR:∀a' w',hZ (Hb w φ fp S io) fn.ntmps (fun ts m=>aN P (fun xs=>iN m (fun ys=>qo m (fun io'=>post (bG ys) io') 0 (io.map bj.ae) []) [] [] xs) fn.results.toList ts m []) a' w'→
  a'.defers=[]/\∃v,(results fn a'.tmps).run P w'= .ok v w'/\∃r v' io' φ' fp' S' m',Ending.returned v= .returned v'/\post r io'/\RS (Hb w φ fp S io) 0 φ' fp' S' [] m' {tmps:= #[],defers:=[]} w'/\KH io io' m'∧
   ∃fs,Own w' (fun _=>False) r v' fs/\fs.Nodup/\∀b,b∈fs->w.heap.size<=b/\¬S' b/\∀l,bE<=l->b∉fp' l:=by
  rintro a' w' ⟨φ',fp',S',ts',m',h',hk⟩;refine ⟨h'.defers,?_⟩;obtain ⟨xs,us,h1,h2,h3,_⟩:=lz h' fn.results.toList [] [] ⟨rfl,fun i hi=>absurd hi (q16 _)⟩ hk;obtain ⟨h3a,h3b⟩:=h3;simp only [q11] at h3a h3b;obtain ⟨ys,fss,g1,g2,g3,g4,g5,g6⟩:=AZ h' h3a h3b h1;obtain ⟨io',q1,q2,q3⟩:=Co _ _ _ g1;rw [List.reverse_nil,q11] at q1;refine ⟨if h:us.toArray.size=1 then us.toArray[0] else .tuple us.toArray,?_,bG ys,_,io',φ',fp',S',m',rfl,q1,?_,⟨by simpa using q2,fun k hk hk'=> ?_⟩,fss.flatten,A0 (h3a.trans g2.symm) g3 g4,g5,fun b hb=> ?_⟩
  . have hm:results fn a'.tmps=(do let vs ←fn.results.mapM (cY a'.tmps);pure (if h:vs.size=1 then vs[0] else .tuple vs)):=by
     unfold results;congr 1
    rw [hm,Sem.run_bind,Array.mapM_eq_mapM_toList];have:(List.toArray <$> fn.results.toList.mapM (cY a'.tmps):Sem aV).run P w'= .ok us.toArray w':=by rw [map_eq_pure_bind,Sem.run_bind,h2];rfl
    rw [this];rfl
  . exact {h' with tm:=fun t=>by rw [look_nil];exact .rd _ _ (.undef _),tl:=fun t l ae hl=>(by rw [look_nil] at hl;cases hl),defers:=rfl,k6:=rfl}
  . have:=q3 k hk (by simpa using hk');rw [Nat.zero_add] at this;refine ⟨this.1,?_,this.2.2⟩;rw [this.2.1,q7]
  obtain ⟨l,hl,hbl⟩:=g6 b hb;refine ⟨?_,h'.bQ l b hbl,fun l' hl' hb'=> ?_⟩
  . rcases (h'.cw l b hbl).2 with hh|⟨_,_,hh,_⟩
    . exact hh
    exact absurd hl (Nat.not_lt.2 hh)
  have:=h'.fI l l' b hbl hb';subst this;exact absurd hl (Nat.not_lt.2 hl')
 refine wp_mono (cD c _ _ _ hok hv _ _ _ _ _ _ hRS) ?_;intro e a' w' hq;cases e with
 |normal=>exact fR a' w' hq
 |ret=>exact fR a' w' hq
 |_=>obtain ⟨_,_,_,_,_,_,hh⟩:=hq;exact hh.elim
theorem rJ.dK {P:Program} {f:FuncId} {fn:Func} {c:Code} {io:List bj} {args:lA} {post:AV->List bj->Prop} (N:Nat) (rs:List ResultVar) (hf:P.funcs[f]? =some fn) (hN:fn.ntmps=N:=by exact rfl) (hr:fn.results.toList=rs:=by exact rfl)
 (hn:(fn.name== "runtime.NumGoroutine")=false:=by exact rfl) (hb:fn.body=some c:=by exact rfl) (hok:codeOk N c=true:=by exact rfl) (ha:args.length≤N:=by exact oT rfl) (hv:vc P N c (bH 0 args) (l7 0 io) (RG P rs (io.map bj.ae) post)):rJ P f io args post:=by
 subst hN;subst hr;exact rJ.nb hf hn hb hok ha hv
theorem rJ.mono {P:Program} {f:FuncId} {io:List bj} {args:lA} {post post':AV->List bj->Prop} (h:rJ P f io args post) (hp:∀r io',post r io'->post' r io'):rJ P f io args post':=
 ⟨h.1,fun w φ fp S vs h1 h2=>(h.2 w φ fp S vs h1 h2).mono fun _ _ ⟨r,v,io',φ',fp',S',m',g1,g2,g3⟩=>⟨r,v,io',φ',fp',S',m',g1,hp _ _ g2,g3⟩⟩
def vo (l:Nat) (k:Nat->Prop):Nat->lN->Prop
 |_,[]=>False
 |j,l0::r=>if l0=l then k j else vo l k (j+1) r
theorem kq (l:Nat) (k:Nat->Prop) (j l0:Nat) (r:lN):vo l k j (l0::r)=if l0=l then k j else vo l k (j+1) r:=rfl
def EB (ρ:lN) (x:AV) (k:AV->Prop):Prop:=match x with
 | .ref l v i n=>vo l (fun j=>k (.ref (1000000000+j) v i n)) 0 ρ
 | .ptr l v i n=>vo l (fun j=>k (.ptr (1000000000+j) v i n)) 0 ρ
 | .val v=>k (.val v)
 | .e0=>k .e0
 | .arr sh xs=>k (.arr sh xs)
 | .bq sh xs i j=>k (.bq sh xs i j)
 |_=>False
@[congr] theorem UT {ρ:lN} {x x':AV} {k:AV->Prop} (h:x=x'):EB ρ x k=EB ρ x' k:=by rw [h]
def A2 (ρ:lN) (k:lA->Prop):lA->lA->Prop
 |acc,[]=>k acc.reverse
 |acc,x::r=>EB ρ x fun y=>A2 ρ k (y::acc) r
def nP (ρ:lN) (x:AV) (k:AV->Prop):Prop:=match x with
 | .agg xs=>A2 ρ (fun ys=>k (.agg ys)) [] xs
 |x=>EB ρ x k
@[congr] theorem TN {ρ:lN} {x x':AV} {k:AV->Prop} (h:x=x'):nP ρ x k=nP ρ x' k:=by rw [h]
theorem A3 (ρ:lN) (l v i n:Nat) (k:AV->Prop):nP ρ (.ref l v i n) k=vo l (fun j=>k (.ref (1000000000+j) v i n)) 0 ρ:=rfl
theorem A4 (ρ:lN) (l v i n:Nat) (k:AV->Prop):nP ρ (.ptr l v i n) k=vo l (fun j=>k (.ptr (1000000000+j) v i n)) 0 ρ:=rfl
theorem A5 (ρ:lN) (v:Value) (k:AV->Prop):nP ρ (.val v) k=k (.val v):=rfl
theorem A6 (ρ:lN) (sh:Sh) (xs:lA) (k:AV->Prop):nP ρ (.arr sh xs) k=k (.arr sh xs):=rfl
def oD (ρ:lN) (k:lA->Prop):lA->lA->Prop
 |acc,[]=>k acc.reverse
 |acc,x::r=>nP ρ x fun y=>oD ρ k (y::acc) r
theorem A7 (ρ:lN) (k:lA->Prop) (acc:lA):oD ρ k acc []=k acc.reverse:=rfl
theorem xm (ρ:lN) (k:lA->Prop) (acc:lA) (x:AV) (r:lA):oD ρ k acc (x::r)=nP ρ x fun y=>oD ρ k (y::acc) r:=rfl
def EC (l:Nat):lN->Prop
 | []=>True
 |x::r=>l≠x/\EC l r
theorem KI (l:Nat):EC l []=True:=rfl
theorem A8 {l:Nat}:∀{r:lN},EC l r->l∉r
 | [],_,h=>by cases h
 |_::_,h,hm=>by
  rcases List.mem_cons.1 hm with e|hm
  . exact h.1 e
  exact A8 h.2 hm
def rK (b:Option bj) (k:bj->Prop):Prop:=match b with
 |some (.row v sh d xs)=>k (.row v sh d xs)
 |some (.box v xs)=>aq xs=[]/\k (.box v xs)
 |_=>False
@[congr] theorem TO {b b':Option bj} {k:bj->Prop} (h:b=b'):rK b k=rK b' k:=by rw [h]
theorem A9 (v:Nat) (sh:Sh) (d:Bool) (xs:lA) (k:bj->Prop):rK (some (.row v sh d xs)) k=k (.row v sh d xs):=rfl
theorem Ba (v:Nat) (xs:lA) (k:bj->Prop):rK (some (.box v xs)) k=(aq xs=[]/\k (.box v xs)):=rfl
def pI (m:Mem) (k:List bj->Prop):List bj->lN->Prop
 |acc,[]=>k acc.reverse
 |acc,l::r=>EC l r/\rK (ah m l) fun b=>pI m k (b::acc) r
theorem ED (m:Mem) (k:List bj->Prop) (acc:List bj):pI m k acc []=k acc.reverse:=rfl
theorem pe (m:Mem) (k:List bj->Prop) (acc:List bj) (l:Nat) (r:lN):pI m k acc (l::r)=(EC l r/\rK (ah m l) fun b=>pI m k (b::acc) r):=rfl
def fW:lN->List bj->Mem->Mem
 |l::ρ,b::io,m=>(l,b)::fW ρ io m
 |_,_,m=>m
theorem kH (l:Nat) (ρ:lN) (b:bj) (io:List bj) (m:Mem):fW (l::ρ) (b::io) m=(l,b)::fW ρ io m:=rfl
theorem Bb (io:List bj) (m:Mem):fW [] io m=m:=rfl
def Cp (P:Program) (f:FuncId) (d:Nat) (ρ:lN) (io:List bj) (args:lA) (m:Mem) (k:AV->Mem->Prop) (_:Pack k):Prop:=
 ∃post,rJ P f io args post/\∀r io',post r io'->mU (1000*(d+1)) r (fW ρ io' m) k
@[congr] theorem RH {P:Program} {f:FuncId} {d:Nat} {ρ:lN} {io io':List bj} {args args':lA} {m:Mem} {k:AV->Mem->Prop} {q:Pack k} (h:io=io') (h':args=args'):Cp P f d ρ io args m k q=Cp P f d ρ io' args' m k q:=by rw [h,h']
theorem xn {P:Program} {f:FuncId} {d:Nat} {ρ:lN} {io io1:List bj} {args:lA} {m:Mem} {k:AV->Mem->Prop} {r:AV} (h:rJ P f io args (fun x io'=>x=r/\io'=io1)) (hk:mU (1000*(d+1)) r (fW ρ io1 m) k) {q:Pack k}:Cp P f d ρ io args m k q:=
 ⟨_,h,fun _ _ ⟨e,e'⟩=>by subst e;subst e';exact hk⟩
theorem xo {k:List bj->Prop}:∀(ρ:lN) (acc:List bj),pI m k acc ρ->ρ.Nodup/\∃io,k (acc.reverse++io)/\io.length=ρ.length/\∀j (h:j<ρ.length) (h':j<io.length),ah m ρ[j]=some io[j]/\fU io[j]
 | [],acc,hk=>by
   have hk1:k acc.reverse:=hk;exact ⟨q12,[],by simpa using hk1,rfl,fun j h=>absurd h (q16 _)⟩
 |l::r,acc,hk=>by
  obtain ⟨hn,hk⟩:=hk;have main:∀b,ah m l=some b->fU b->pI m k (b::acc) r->(l::r).Nodup/\∃io,k (acc.reverse++io)/\io.length=(l::r).length/\∀j (h:j<(l::r).length) (h':j<io.length),ah m (l::r)[j]=some io[j]/\fU io[j]:=by
   intro b hb hf hk;obtain ⟨h0,io,h1,h2,h3⟩:=xo r (b::acc) hk;refine ⟨List.nodup_cons.2 ⟨A8 hn,h0⟩,b::io,by simpa using h1,by simp [h2],fun j hj hj'=> ?_⟩;cases j with
   |zero=>exact ⟨hb,hf⟩
   |succ j=>exact h3 j (by simpa using hj) (by simpa using hj')
  unfold rK at hk;split at hk
  . rename_i hb;exact main _ hb trivial hk
  . rename_i hb;exact main _ hb hk.1 hk.2
  exact hk.elim
theorem xp {l:Nat} {k:Nat->Prop}:∀(ρ:lN) (i:Nat),vo l k i ρ->∃j,∃h:j<ρ.length,ρ[j]=l/\k (i+j)
 | [],_,hk=>hk.elim
 |l0::r,i,hk=>by
  rw [kq] at hk;split at hk
  . rename_i e;exact ⟨0,by simp,e,hk⟩
  obtain ⟨j,h1,h2,h3⟩:=xp r (i+1) hk;exact ⟨j+1,by simpa using h1,by simpa using h2,by rw [show i+(j+1)=i+1+j by omega];exact h3⟩
def nV (φ:Nat->LS) (ρ:lN):Nat->LS:=fun l=>if bE<=l then (match ρ[l-bE]? with|some l'=>φ l'|none=>.dead) else .dead
def pJ (fp:Nat->lN) (ρ:lN):Nat->lN:=fun l=>if bE<=l then (match ρ[l-bE]? with|some l'=>fp l'|none=>[]) else []
theorem fX (φ:Nat->LS) {ρ:lN} {j:Nat} (h:j<ρ.length):nV φ ρ (bE+j)=φ ρ[j]:=by simp [nV,h]
theorem vF (fp:Nat->lN) {ρ:lN} {j:Nat} (h:j<ρ.length):pJ fp ρ (bE+j)=fp ρ[j]:=by simp [pJ,h]
theorem gS {fp:Nat->lN} {ρ:lN} {l b:Nat} (h:b∈pJ fp ρ l):∃j,∃hj:j<ρ.length,l=bE+j/\b∈fp ρ[j]:=by
 unfold pJ at h;split at h
 . rename_i hl;split at h
   . rename_i l' hl';obtain ⟨hj,e⟩:=List.getElem?_eq_some_iff.1 hl';exact ⟨l-bE,hj,by omega,by rw [e];exact h⟩
   cases h
 cases h
theorem Jm {io:List bj} {ρ:lN} (hio:io.length=ρ.length) (hlk:∀j (h:j<ρ.length) (h':j<io.length),ah m ρ[j]=some io[j]/\fU io[j]) {x:AV} {v:Value} (hx:RV w S φ x v) (hxl:∀l ae,(l,ae)∈an x->known m l ae)
 {k:AV->Prop} (hk:EB ρ x k):∃y,k y/\RV w S (nV φ ρ) y v/\leaf y/\∀l ae,(l,ae)∈an y->known (l7 0 io) l ae:=by
 have kn:∀j (hj:j<ρ.length) ae,known m ρ[j] ae->known (l7 0 io) (bE+j) ae:=by rintro j hj ae ⟨k',h1,h2⟩;rw [(hlk j hj (by omega)).1] at h1;have h1:=Option.some.inj h1;refine ⟨io[j]'(by omega),?_,by rw [h1];exact h2⟩;rw [mo,if_pos (by omega)];simp<;>omega
 have flat:∀y,an y=[]->leaf y->k y->RV w S φ y v->∃y,k y/\RV w S (nV φ ρ) y v/\leaf y/\∀l ae,(l,ae)∈an y->known (l7 0 io) l ae:=by intro y hl hlf hk hv;exact ⟨y,hk,.rd _ _ (cU hv hl),hlf,fun l ae h=>by rw [hl] at h;cases h⟩
 unfold EB at hk;split at hk
 . rename_i l ae i n;obtain ⟨j,hj,rfl,hk1⟩:=xp ρ 0 hk;simp only [Nat.zero_add] at hk1;obtain ⟨r1,r2⟩:=dm hx;have h3:v.oneCell'=true:=hx.aU trivial;refine ⟨_,hk1,.ref _ _ _ _ _ (fun b sh hb=> ?_) (fun hb=> ?_) h3,trivial,fun l' ver' hl'=> ?_⟩
   . rw [show (1000000000+j)=bE+j from rfl,fX φ hj] at hb;exact r1 b sh hb
   . rw [show (1000000000+j)=bE+j from rfl,fX φ hj] at hb;exact r2 hb
   simp only [an,q10,Prod.mk.injEq] at hl';obtain ⟨rfl,rfl⟩:=hl';exact kn j hj _ (hxl _ _ (by simp [an]))
 . rename_i l ae i n;obtain ⟨j,hj,rfl,hk1⟩:=xp ρ 0 hk;simp only [Nat.zero_add] at hk1;have h3:v.oneCell'=true:=hx.aU trivial;refine ⟨_,hk1,?_,trivial,fun l' ver' hl'=> ?_⟩
   . cases hx with
     |rd _ _ h=>cases h
     |ptr _ _ _ _ _ h1 h2 _=>
      refine .ptr _ _ _ _ _ (fun b sh hb=> ?_) (fun hb=> ?_) h3
      . rw [show (1000000000+j)=bE+j from rfl,fX φ hj] at hb;exact h1 b sh hb
      rw [show (1000000000+j)=bE+j from rfl,fX φ hj] at hb;exact h2 hb
   simp only [an,q10,Prod.mk.injEq] at hl';obtain ⟨rfl,rfl⟩:=hl';exact kn j hj _ (hxl _ _ (by simp [an]))
 . rename_i u;exact flat (.val u) rfl trivial hk hx
 . exact flat .e0 rfl trivial hk hx
 . rename_i sh xs;exact flat (.arr sh xs) rfl trivial hk hx
 . rename_i sh xs i j;exact flat (.bq sh xs i j) rfl trivial hk hx
 exact hk.elim
theorem EE {io:List bj} {ρ:lN} (hio:io.length=ρ.length) (hlk:∀j (h:j<ρ.length) (h':j<io.length),ah m ρ[j]=some io[j]/\fU io[j]) {Q:lA->Prop}:
 ∀(xs:lA) (vs:List Value) (acc:lA),vs.length=xs.length->(∀i (h:i<xs.length),RV w S φ xs[i] (vs.getD i Go.undef))->(∀i (h:i<xs.length) l ae,(l,ae)∈an xs[i]->known m l ae)->A2 ρ Q acc xs→
  ∃ys,Q (acc.reverse++ys)/\ys.length=xs.length/\∀i (h:i<ys.length),RV w S (nV φ ρ) ys[i] (vs.getD i Go.undef)/\leaf ys[i]/\∀l ae,(l,ae)∈an ys[i]->known (l7 0 io) l ae
 | [],vs,acc,_,_,_,hk=>by
   have hk1:Q acc.reverse:=hk;exact ⟨[],by simpa using hk1,rfl,fun i h=>absurd h (q16 _)⟩
 |x::xs,vs,acc,hl,hx,hxl,hk=>by
  cases vs with
  |nil=>simp at hl
  |cons v vs=>
   obtain ⟨y,h1,h2,h3,h4⟩:=Jm hio hlk (hx 0 (by simp)) (hxl 0 (by simp)) hk;obtain ⟨ys,g1,g2,g3⟩:=EE hio hlk xs vs (y::acc) (by simpa using hl) (fun i hi=>hx (i+1) (by simpa using hi)) (fun i hi=>hxl (i+1) (by simpa using hi)) h1;refine ⟨y::ys,by simpa using g1,by simp [g2],fun i hi=> ?_⟩;cases i with
   |zero=>exact ⟨h2,h3,h4⟩
   |succ i=>exact g3 i (by simpa using hi)
theorem N6 {io:List bj} {ρ:lN} (hio:io.length=ρ.length) (hlk:∀j (h:j<ρ.length) (h':j<io.length),ah m ρ[j]=some io[j]/\fU io[j]) {x:AV} {v:Value} (hx:RV w S φ x v) (hxl:∀l ae,(l,ae)∈an x->known m l ae)
 {k:AV->Prop} (hk:nP ρ x k):∃y,k y/\RV w S (nV φ ρ) y v/\∀l ae,(l,ae)∈an y->known (l7 0 io) l ae:=by
 unfold nP at hk;split at hk
 . rename_i xs;obtain ⟨cs,rfl,h1,h2,h3⟩:=mQ hx;obtain ⟨ys,g1,g2,g3⟩:=EE hio hlk xs cs.toList [] (by simpa using h1) h3 (fun i hi l ae hl=>hxl l ae (by simp only [an];exact bt hi hl)) hk;refine ⟨.agg ys,by simpa using g1,.agg ys cs (h1.trans g2.symm) (fun i hi=>(g3 i hi).2.1) (fun i hi=>(g3 i hi).1),fun l ae hl=> ?_⟩;simp only [an] at hl;obtain ⟨i,hi,hl⟩:=bW hl;exact (g3 i hi).2.2 l ae hl
 obtain ⟨y,h1,h2,_,h4⟩:=Jm hio hlk hx hxl hk;exact ⟨y,h1,h2,h4⟩
theorem xq {io:List bj} {ρ:lN} (hio:io.length=ρ.length) (hlk:∀j (h:j<ρ.length) (h':j<io.length),ah m ρ[j]=some io[j]/\fU io[j]) {Q:lA->Prop}:
 ∀(xs:lA) (vs:List Value) (acc:lA),vs.length=xs.length->(∀i (h:i<xs.length),RV w S φ xs[i] (vs.getD i Go.undef))->(∀i (h:i<xs.length) l ae,(l,ae)∈an xs[i]->known m l ae)->oD ρ Q acc xs→
  ∃ys,Q (acc.reverse++ys)/\ys.length=xs.length/\∀i (h:i<ys.length),RV w S (nV φ ρ) ys[i] (vs.getD i Go.undef)/\∀l ae,(l,ae)∈an ys[i]->known (l7 0 io) l ae
 | [],vs,acc,_,_,_,hk=>by
   have hk1:Q acc.reverse:=hk;exact ⟨[],by simpa using hk1,rfl,fun i h=>absurd h (q16 _)⟩
 |x::xs,vs,acc,hl,hx,hxl,hk=>by
  cases vs with
  |nil=>simp at hl
  |cons v vs=>
   obtain ⟨y,h1,h2,h4⟩:=N6 hio hlk (hx 0 (by simp)) (hxl 0 (by simp)) hk;obtain ⟨ys,g1,g2,g3⟩:=xq hio hlk xs vs (y::acc) (by simpa using hl) (fun i hi=>hx (i+1) (by simpa using hi)) (fun i hi=>hxl (i+1) (by simpa using hi)) h1;refine ⟨y::ys,by simpa using g1,by simp [g2],fun i hi=> ?_⟩;cases i with
   |zero=>exact ⟨h2,h4⟩
   |succ i=>exact g3 i (by simpa using hi)
theorem lC:∀(ρ:lN) (io:List bj),io.length=ρ.length->ρ.Nodup->∀l,(∀j (h:j<ρ.length),ρ[j]=l->ah (fW ρ io m) l=io[j]?)/\(l∉ρ->ah (fW ρ io m) l=ah m l)
 | [],io,_,_,l=>⟨fun j h=>absurd h (q16 _),fun _=>by rw [Bb]⟩
 |l0::ρ,[],h,_,_=>by simp at h
 |l0::ρ,b::io,h,hn,l=>by
  obtain ⟨hn1,hn2⟩:=List.nodup_cons.1 hn;obtain ⟨ih1,ih2⟩:=lC ρ io (by simpa using h) hn2 l;refine ⟨fun j hj e=> ?_,fun hl=> ?_⟩
  . rw [kH,aw];cases j with
    |zero=>rw [if_pos (by simpa using e)];rfl
    |succ j=>
     have e':ρ[j]'(by simpa using hj)=l:=by simpa using e
     rw [if_neg (fun e2=>hn1 (by rw [e2,←e'];exact List.getElem_mem _))];rw [ih1 j (by simpa using hj) e'];rfl
  rw [kH,aw,if_neg (fun e=>hl (by rw [←e];exact List.mem_cons_self ..))];exact ih2 fun hm=>hl (List.mem_cons_of_mem _ hm)
theorem Hc {f:FuncId} {ρ:lN} {io:List bj} {args xs:lA} (hnd:ρ.Nodup) (hio:io.length=ρ.length)
 (hlk:∀j (h:j<ρ.length) (h':j<io.length),ah m ρ[j]=some io[j]/\fU io[j]) {vs:aV} (h:RS B N φ fp S ts m a w) (hvl:vs.size=args.length)
 (hx:∀i (h:i<args.length),RV w S (nV φ ρ) args[i] (vs.toList.getD i Go.undef)/\∀l ae,(l,ae)∈an args[i]->known (l7 0 io) l ae) {post:AV->List bj->Prop} (hf:rJ P f io args post):
 Calls P f vs w fun e w'=>∃v r io' fp2 T fs,e= .returned v/\post r io'/\RS B N φ fp2 T ts (fW ρ io' m) a w'/\jD w w'/\io'.length=ρ.length∧
  Own w' (fun _=>False) r v fs/\(∀j (h:j<ρ.length) b,b∈fp2 ρ[j]->w.heap.size<=b\/b∈fp ρ[j])/\fs.Nodup/\∀b,b∈fs->w.heap.size<=b/\¬T b/\∀l,b∉fp2 l:=by
 have inj:∀i j (hi:i<ρ.length) (hj:j<ρ.length),ρ[i]=ρ[j]->i=j:=fun i j hi hj e=>(List.getElem_inj hnd).1 e;have look0:∀l,ah (l7 0 io) l=if bE<=l then io[l-bE]? else none:=fun l=>by rw [mo];rfl
 have at_:∀l b,ah (l7 0 io) l=some b->∃j,∃hj:j<ρ.length,∃hj':j<io.length,l=bE+j/\b=io[j]:=by
  intro l b hb;rw [look0] at hb;split at hb
  . rename_i hl;obtain ⟨hj,e⟩:=List.getElem?_eq_some_iff.1 hb;exact ⟨l-bE,by omega,hj,by omega,e.symm⟩
  cases hb
 have hR0:RS (Hb w (nV φ ρ) (pJ fp ρ) S io) vs.size (nV φ ρ) (pJ fp ρ) S (bH 0 args) (l7 0 io) {tmps:=vs,defers:=[]} w:=by
  refine {tm:=fun t=> ?_,tl:=fun t l ae hl=> ?_,b7:=fun l hl=> ?_,aF:=fun l b hb=> ?_,bl:=fun l v xs hb l' ae hl=> ?_,gZ:=fun l=> ?_,fI:=fun l l' b h1 h2=> ?_,
          bQ:=fun l b hb=> ?_,cw:=fun l b hb=> ?_,sB:=fun b hb=>⟨(h.sB b hb).1,.inr hb⟩,base:=fun b _ _=>rfl,out:=a8.refl _,kj:=jD.refl _,kn:=fun _ _ _ hk=>hk,fix:=fun _ _ _ _=>LS.le_refl _ _,
          size:=Nat.le_refl _,defers:=rfl,k6:=rfl,js:=h.js}
  . rw [bI];by_cases ht:t<args.length
    . have e:(if 0<=t then (args[t-0]?).getD AV.undef else .undef)=args[t]:=by simp [ht]
      rw [e];have:=(hx t ht).1;have e2:vs.toList.getD t Go.undef=vs.getD t Go.undef:=by simp [q4,q0]
      rw [←e2];exact this
    have e:(if 0<=t then (args[t-0]?).getD AV.undef else .undef)= .undef:=by simp [List.getElem?_eq_none (show args.length<=t by omega)]
    rw [e];exact .rd _ _ (.undef _)
  . rw [bI] at hl;by_cases ht:t<args.length
    . have e:(if 0<=t then (args[t-0]?).getD AV.undef else .undef)=args[t]:=by simp [ht]
      rw [e] at hl;exact (hx t ht).2 l ae hl
    have e:(if 0<=t then (args[t-0]?).getD AV.undef else .undef)= .undef:=by simp [List.getElem?_eq_none (show args.length<=t by omega)]
    rw [e] at hl;cases hl
  . rw [look0] at hl;unfold nV pJ;split at hl
    . rename_i hl';have:ρ[l-bE]? =none:=List.getElem?_eq_none (by have:=List.getElem?_eq_none_iff.1 hl;omega);rw [if_pos hl',if_pos hl',this];exact ⟨rfl,rfl⟩
    rename_i hl';rw [if_neg hl',if_neg hl'];exact ⟨rfl,rfl⟩
  . obtain ⟨j,hj,hj',rfl,rfl⟩:=at_ l b hb;have hb0:=h.aF ρ[j] _ (hlk j hj hj').1;have hfr:=(hlk j hj hj').2;rw [vF fp hj];generalize io[j]=b at hb0 hfr;cases b with
    |gone v=>exact ⟨by rw [fX φ hj];exact hb0.1,hb0.2⟩
    |row v sh dp xs=>
     rcases hb0 with ⟨q1,q2,q3⟩|⟨b,cap,q1,q2⟩
     . exact .inl ⟨by rw [fX φ hj];exact q1,q2,q3⟩
     exact .inr ⟨b,cap,by rw [fX φ hj];exact q1,q2⟩
    |j8 v xs i u=>exact hfr.elim
    |sub v sh xs u=>exact hfr.elim
    |box v xs=>
     obtain ⟨b,cs,e,sh,q1,q2,q3,q4,q5,q6⟩:=hb0;exact ⟨b,cs,e,sh,by rw [fX φ hj];exact q1,q2,q3,q4,q5,fun i hi=>.rd _ _ (cU (q6 i hi) (bM hfr i hi))⟩
  . obtain ⟨j,hj,hj',rfl,e⟩:=at_ l _ hb;have hfr:=(hlk j hj hj').2;rw [←e] at hfr;have hfr:aq xs=[]:=hfr;rw [hfr] at hl;cases hl
  . unfold pJ;split
    . split
      . exact h.gZ _
      exact q12
    exact q12
  . obtain ⟨i,hi,rfl,b1⟩:=gS h1;obtain ⟨j,hj,rfl,b2⟩:=gS h2;have:=inj i j hi hj (h.fI _ _ b b1 b2);subst this;rfl
  . obtain ⟨i,hi,rfl,b1⟩:=gS hb;exact h.bQ _ b b1
  obtain ⟨i,hi,rfl,b1⟩:=gS hb;exact ⟨(h.cw _ b b1).1,.inr ⟨_,hb,by omega,.inl rfl⟩⟩
 refine (hf.2 w (nV φ ρ) (pJ fp ρ) S vs hvl hR0).mono ?_;rintro e w' ⟨r,v,io',φ',fp',S',m',rfl,gK,hR,⟨hl',hok⟩,fs,bc,VU,hfr⟩;have hl2:io'.length=ρ.length:=hl'.trans hio;have iY:∀b:Nat,b<w.heap.size->(∀j (hj:j<ρ.length),b∉fp ρ[j])->w'.heap[b]? =w.heap[b]? :=fun b hb hn=>hR.base b hb fun l hb'=>by obtain ⟨j,hj,rfl,hb2⟩:=gS hb';exact hn j hj hb2
 have kY:∀b,S b->w'.heap[b]? =w.heap[b]? :=fun b hb=>iY b (h.sB b hb).1 fun j hj hb'=>h.bQ _ b hb' hb;have hz:fS φ w w':=fun l b sh ae cs e _ hb=>hR.kj b cs e hb;have hm2:=fun l=>lC (m:=m) ρ io' hl2 hnd l;have hkn:∀l ae,known m l ae->known (fW ρ io' m) l ae:=by
  rintro l ae ⟨k',h1,h2⟩;by_cases hl:l∈ρ
  . obtain ⟨j,hj,rfl⟩:=q8 hl;have e:=(hm2 ρ[j]).1 j hj rfl;rw [q5 (by omega)] at e;rw [(hlk j hj (by omega)).1] at h1;have h1:=Option.some.inj h1;exact ⟨_,e,by rw [(hok j (by omega) (by omega)).2.1,h1];exact h2⟩
  exact ⟨k',((hm2 l).2 hl).trans h1,h2⟩
 let T:Nat->Prop:=fun b=>S b\/(S' b/\w.heap.size<=b);have hST:∀b,S' b->T b:=fun b hb=>by
  rcases (hR.sB b hb).2 with hh|hh
  . exact .inr ⟨hb,hh⟩
  exact .inl hh
 let fp2:Nat->lN:=fun l=>match ρ.idxOf? l with|some j=>fp' (bE+j)|none=>fp l
 have fp2in:∀j (hj:j<ρ.length),fp2 ρ[j]=fp' (bE+j):=by
  intro j hj;have:ρ.idxOf? ρ[j]=some j:=by rw [List.idxOf?,List.findIdx?_eq_some_iff_getElem];refine ⟨hj,by simp,fun i hi=> ?_⟩;simp only [beq_iff_eq];intro e2;have:=inj i j (by omega) hj e2;omega
  show (match ρ.idxOf? ρ[j] with|some j=>fp' (bE+j)|none=>fp ρ[j])=_;rw [this]
 have fp2out:∀l,l∉ρ->fp2 l=fp l:=by
  intro l hl;have:ρ.idxOf? l=none:=by simpa [List.idxOf?_eq_none_iff] using hl
  show (match ρ.idxOf? l with|some j=>fp' (bE+j)|none=>fp l)=_;rw [this]
 have fpnew:∀j (hj:j<ρ.length) b,b∈fp' (bE+j)->b<w'.heap.size/\(w.heap.size<=b\/b∈fp ρ[j]):=by
  intro j hj b hb;have:=hR.cw _ b hb;refine ⟨this.1,this.2.imp id fun hh=> ?_⟩;obtain ⟨l',hb2,_,hl3⟩:=hh;have hl3:l'=bE+j:=hl3.resolve_right fun e=>by have e:ah (l7 0 io) (bE+j)=none:=e;rw [look0,if_pos (by omega),List.getElem?_eq_none_iff] at e;omega
  subst hl3;have hh:b∈pJ fp ρ (bE+j):=hb2
  rwa [vF fp hj] at hh
 have hRS:RS B N φ fp2 T ts (fW ρ io' m) a w':=by
  refine {tm:=fun t=>(h.tm t).mono kY (fun b hb=>.inl hb) hz fun l ae _=>LS.le_refl _ _,tl:=fun t l ae hl=>hkn l ae (h.tl t l ae hl),b7:=fun l hl=> ?_,aF:=fun l b hb=> ?_,
          bl:=fun l v xs hb l' ae hl=> ?_,gZ:=fun l=> ?_,fI:=fun l l' b h1 h2=> ?_,bQ:=fun l b hb=> ?_,cw:=fun l b hb=> ?_,sB:=fun b hb=> ?_,base:=fun b hb hio=> ?_,
          out:=h.out.trans hR.out,kj:=h.kj.trans hR.kj,kn:=fun l ae hl hk=>hkn l ae (h.kn l ae hl hk),fix:=h.fix,size:=q14 h.size hR.size,defers:=h.defers,k6:=h.k6,js:=h.js.mono kY fun b hb=>.inl hb}
  . by_cases hm:l∈ρ
    . obtain ⟨j,hj,rfl⟩:=q8 hm;rw [(hm2 ρ[j]).1 j hj rfl,q5 (by omega)] at hl;cases hl
    rw [(hm2 l).2 hm] at hl;rw [fp2out l hm];exact h.b7 l hl
  . by_cases hm:l∈ρ
    . obtain ⟨j,hj,rfl⟩:=q8 hm;rw [(hm2 ρ[j]).1 j hj rfl,q5 (by omega)] at hb;have hb:=Option.some.inj hb;subst hb;obtain ⟨g1,g2,g3⟩:=hok j (by omega) (by omega);have hB:=hR.aF _ _ g1;have VV:known (l7 0 io) (bE+j) (io[j]'(by omega)).ae:=⟨io[j]'(by omega),by rw [look0,if_pos (by omega)];simp<;>omega,Nat.le_refl _⟩;have qP:=hR.fix (bE+j) _ (by omega) VV;have qP:LS.le (φ' (bE+j)) (φ ρ[j]) (io[j]'(by omega)).ae:=by rw [←fX φ hj];exact qP
      rw [fp2in j hj];rw [←g2] at qP;generalize io'[j]=b at hB qP g3;cases b with
      |gone v=>exact g3.elim
      |row v sh dp xs=>
       rcases hB with ⟨q1,q2,q3⟩|⟨b,cap,q1,q2,q3,q4⟩
       . exact .inl ⟨qP.2 q1,q2,q3⟩
       refine .inr ⟨b,cap,qP.1 _ _ q1,q2,q3,?_⟩;cases dp with
       |true=>exact q4
       |false=>exact q4.mono (fun _ _=>rfl) hST (fun _ _=>rfl)
      |j8 v xs i u=>exact g3.elim
      |sub v sh xs u=>exact g3.elim
      |box v xs=>
       obtain ⟨b,cs,e,sh,q1,q2,q3,q4,q5,q6⟩:=hB;exact ⟨b,cs,e,sh,qP.1 _ _ q1,q2,q3,q4,q5,fun i hi=>.rd _ _ ((cU (q6 i hi) (bM g3 i hi)).mono (fun _ _=>rfl) hST)⟩
    rw [(hm2 l).2 hm] at hb;rw [fp2out l hm];refine (h.aF l b hb).mono kY (fun b hb=>.inl hb) hz (fun c hc=>iY c (h.cw l c hc).1 fun j hj hc'=>hm ?_) rfl fun _ _ _ _ _ _=>LS.le_refl _ _;rw [h.fI _ _ c hc hc'];exact List.getElem_mem hj
  . by_cases hm:l∈ρ
    . obtain ⟨j,hj,rfl⟩:=q8 hm;rw [(hm2 ρ[j]).1 j hj rfl,q5 (by omega)] at hb;have hb:=Option.some.inj hb;have g3:=(hok j (by omega) (by omega)).2.2;rw [hb] at g3;have g3:aq xs=[]:=g3;rw [g3] at hl;cases hl
    rw [(hm2 l).2 hm] at hb;exact hkn l' ae (h.bl l v xs hb l' ae hl)
  . by_cases hm:l∈ρ
    . obtain ⟨j,hj,rfl⟩:=q8 hm;rw [fp2in j hj];exact hR.gZ _
    rw [fp2out l hm];exact h.gZ l
  . have mixed:∀j (hj:j<ρ.length) l,l∉ρ->b∈fp' (bE+j)->b∈fp l->False:=by
     intro j hj l hm b1 b2;rcases (fpnew j hj b b1).2 with hh|hh
     . have:=(h.cw l b b2).1;omega
     exact hm (by rw [h.fI _ _ b b2 hh];exact List.getElem_mem hj)
    by_cases m1:l∈ρ
    . obtain ⟨j,hj,rfl⟩:=q8 m1;rw [fp2in j hj] at h1;by_cases m2:l'∈ρ
      . obtain ⟨j',hj',rfl⟩:=q8 m2;rw [fp2in j' hj'] at h2;have:=hR.fI _ _ b h1 h2;have:j=j':=by omega
        subst this;rfl
      rw [fp2out l' m2] at h2;exact (mixed j hj l' m2 h1 h2).elim
    rw [fp2out l m1] at h1;by_cases m2:l'∈ρ
    . obtain ⟨j',hj',rfl⟩:=q8 m2;rw [fp2in j' hj'] at h2;exact (mixed j' hj' l m1 h2 h1).elim
    rw [fp2out l' m2] at h2;exact h.fI l l' b h1 h2
  . by_cases hm:l∈ρ
    . obtain ⟨j,hj,rfl⟩:=q8 hm;rw [fp2in j hj] at hb;rintro (hs|hs)
      . rcases (fpnew j hj b hb).2 with hh|hh
        . have:=(h.sB b hs).1;omega
        exact h.bQ _ b hh hs
      exact hR.bQ _ b hb hs.1
    rw [fp2out l hm] at hb;rintro (hs|hs)
    . exact h.bQ l b hb hs
    have:=(h.cw l b hb).1;omega
  . by_cases hm:l∈ρ
    . obtain ⟨j,hj,rfl⟩:=q8 hm;rw [fp2in j hj] at hb;have:=fpnew j hj b hb;refine ⟨this.1,?_⟩;rcases this.2 with hh|hh
      . exact .inl (q14 h.size hh)
      exact (h.cw _ b hh).2
    rw [fp2out l hm] at hb;have:=h.cw l b hb;exact ⟨q15 this.1 hR.size,this.2⟩
  . rcases hb with hs|hs
    . have:=h.sB b hs;exact ⟨q15 this.1 hR.size,this.2⟩
    exact ⟨(hR.sB b hs.1).1,.inl (q14 h.size hs.2)⟩
  refine (iY b (q15 hb h.size) fun j hj hb'=> ?_).trans (h.base b hb hio);rcases (h.cw _ b hb').2 with hh|hh
  . omega
  exact hio _ hh.choose_spec.1
 refine ⟨v,r,io',fp2,T,fs,rfl,gK,hRS,hR.kj,hl2,bc,fun j hj b hb=>(fpnew j hj b (by rw [←fp2in j hj];exact hb)).2,VU,fun b hb=> ?_⟩;obtain ⟨q1,q2,q3⟩:=hfr b hb;refine ⟨q1,?_,fun l hl=> ?_⟩
 . rintro (hs|hs)
   . have:=(h.sB b hs).1;omega
   exact q2 hs.1
 by_cases hm:l∈ρ
 . obtain ⟨j,hj,rfl⟩:=q8 hm;rw [fp2in j hj] at hl;exact q3 _ (by omega) hl
 rw [fp2out l hm] at hl;have:=(h.cw l b hl).1;omega
theorem EF {f:FuncId} {d:Nat} {ρ:lN} {io:List bj} {args xs:lA} {k:AV->Mem->Prop} (hnd:ρ.Nodup) (hio:io.length=ρ.length)
 (hlk:∀j (h:j<ρ.length) (h':j<io.length),ah m ρ[j]=some io[j]/\fU io[j]) {vs:aV} (h:RS B N φ fp S ts m a w) (hvl:vs.size=args.length)
 (hx:∀i (h:i<args.length),RV w S (nV φ ρ) args[i] (vs.toList.getD i Go.undef)/\∀l ae,(l,ae)∈an args[i]->known (l7 0 io) l ae) {post:AV->List bj->Prop} (hf:rJ P f io args post)
 (hk:∀r io',post r io'->mU (1000*(d+1)) r (fW ρ io' m) k):
 Calls P f vs w fun e w'=>∃v,e= .returned v/\im B N a (fun x ts' m'=>ts'=ts/\k x m') v w':=by
 refine (Hc hnd hio hlk h hvl hx hf (xs:=xs)).mono ?_;rintro e w' ⟨v,r,io',fp2,T,fs,rfl,gK,hRS,_,_,bc,_,VU,hfr⟩;obtain ⟨φ3,fp3,y,m3,g1,g2,g3,g4⟩:=Cj hRS bc VU (fun b hb=>⟨q14 h.size (hfr b hb).1,(hfr b hb).2.1,(hfr b hb).2.2⟩) _ (hk r io' gK);exact ⟨v,rfl,φ3,fp3,T,ts,m3,y,g1.rs,g3,g4,rfl,g2⟩
theorem sI {f:FuncId} {d:Nat} {xs ts:lA} {m:Mem} {k:AV->Mem->Prop} (ρ:lN) (h:pI m (fun io=>oD ρ (fun args=>Cp P f d ρ io args m k ⟨⟩) [] xs) [] ρ) {q:Pack k}:e6 P f d xs ts m k q:=by refine .inl fun B N φ fp S ts a w vs hRS hsz hx hxl=> ?_;obtain ⟨hnd,io,h1,h2,h3⟩:=xo ρ [] h;rw [List.reverse_nil,q11] at h1;obtain ⟨args,g1,g2,g3⟩:=xq (w:=w) (S:=S) (φ:=φ) h2 h3 xs vs.toList [] (by simpa using hsz) hx hxl h1;rw [List.reverse_nil,q11] at g1;obtain ⟨post,hf,hk⟩:=g1;exact ⟨hf.1,EF hnd h2 h3 hRS (hsz.trans g2.symm) g3 hf hk (xs:=xs)⟩
end
def nl (x y:AV):Prop:=match x,y with
 | .val (.slice none 0 0),.arr _ ys=>ys=[]
 | .e0,.arr _ ys=>ys=[]
 |x,y=>x=y
theorem UU (sh:Sh) (ys:lA):nl (.val (.slice none 0 0)) (.arr sh ys)=(ys=[]):=rfl
theorem UW (k:IntKind) (n:Int) (y:AV):nl (.val (.int k n)) y=(.val (.int k n)=y):=by cases y<;>rfl
theorem UX (sh:Sh) (xs:lA) (y:AV):nl (.arr sh xs) y=(.arr sh xs=y):=by cases y<;>rfl
def RI:lA->lA->Prop
 | [],ys=>[]=ys
 |x::xs,ys=>match ys with|y::ys=>nl x y/\RI xs ys| []=>False
theorem RJ:RI [] []=True:=by simp [RI]
theorem N7 (x y:AV) (xs ys:lA):RI (x::xs) (y::ys)=(nl x y/\RI xs ys):=rfl
def MY (x y:AV):Prop:=match x,y with
 | .agg xs,.agg ys=>RI xs ys
 |x,y=>nl x y
theorem RM (xs ys:lA):MY (.agg xs) (.agg ys)=RI xs ys:=rfl
theorem RN (sh:Sh) (ys:lA):MY (.val (.slice none 0 0)) (.arr sh ys)=(ys=[]):=rfl
theorem RO (k:IntKind) (n:Int) (y:AV):MY (.val (.int k n)) y=(.val (.int k n)=y):=by cases y<;>rfl
theorem N8 (b:Bool) (y:AV):MY (.val (.bool b)) y=(.val (.bool b)=y):=by cases y<;>rfl
theorem Hd (s:ByteArray) (y:AV):MY (.val (.string s)) y=(.val (.string s)=y):=by cases y<;>rfl
theorem RP (sh:Sh) (xs:lA) (y:AV):MY (.arr sh xs) y=(.arr sh xs=y):=by cases y<;>rfl
def EG:lA->lA->Prop
 | [],ys=>[]=ys
 |x::xs,ys=>match ys with|y::ys=>MY x y/\EG xs ys| []=>False
theorem N9:EG [] []=True:=by simp [EG]
theorem KJ (x y:AV) (xs ys:lA):EG (x::xs) (y::ys)=(MY x y/\EG xs ys):=rfl
def sJ (x y:AV):Prop:=match x,y with
 | .aX xs,.aX ys=>EG xs ys
 |x,y=>MY x y
theorem RQ (xs ys:lA):sJ (.aX xs) (.aX ys)=EG xs ys:=rfl
theorem RT (xs ys:lA):sJ (.agg xs) (.agg ys)=RI xs ys:=rfl
theorem RU (sh:Sh) (ys:lA):sJ (.val (.slice none 0 0)) (.arr sh ys)=(ys=[]):=rfl
theorem RW (k:IntKind) (n:Int) (y:AV):sJ (.val (.int k n)) y=(.val (.int k n)=y):=by cases y<;>rfl
theorem Oa (b:Bool) (y:AV):sJ (.val (.bool b)) y=(.val (.bool b)=y):=by cases y<;>rfl
theorem He (s:ByteArray) (y:AV):sJ (.val (.string s)) y=(.val (.string s)=y):=by cases y<;>rfl
theorem RX (sh:Sh) (xs:lA) (y:AV):sJ (.arr sh xs) y=(.arr sh xs=y):=by cases y<;>rfl
section
variable {w:World} {S:Nat->Prop}
theorem Hf {x y:AV} {v:Value} {fs:lN} (h:Own w S x v fs) (hn:nl x y):Own w S y v fs/\(leaf x->leaf y):=by
 unfold nl at hn;split at hn
 . subst hn;cases h with
   |rd _ _ h=>cases h with|val _ _=>exact ⟨.rd _ _ (.nil _ _),fun _=>trivial⟩
 . subst hn;cases h with
   |rd _ _ h=>cases h with|e0 a=>exact ⟨.rd _ _ (.nil _ _),fun _=>trivial⟩
 subst hn;exact ⟨h,id⟩
theorem Jn:∀(xs ys:lA),RI xs ys->xs.length=ys.length/\∀i (h:i<xs.length) (h':i<ys.length),nl xs[i] ys[i]
 | [],ys,h=>by
   have h:[]=ys:=h;subst h;exact ⟨rfl,fun i h=>absurd h (q16 _)⟩
 |x::xs,[],h=>h.elim
 |x::xs,y::ys,h=>by
  obtain ⟨h1,h2⟩:=Jn xs ys h.2;refine ⟨by simp [h1],fun i hi hi'=> ?_⟩;cases i with
  |zero=>exact h.1
  |succ i=>exact h2 i (by simpa using hi) (by simpa using hi')
theorem EH:∀(xs ys:lA),EG xs ys->xs.length=ys.length/\∀i (h:i<xs.length) (h':i<ys.length),MY xs[i] ys[i]
 | [],ys,h=>by
   have h:[]=ys:=h;subst h;exact ⟨rfl,fun i h=>absurd h (q16 _)⟩
 |x::xs,[],h=>h.elim
 |x::xs,y::ys,h=>by
  obtain ⟨h1,h2⟩:=EH xs ys h.2;refine ⟨by simp [h1],fun i hi hi'=> ?_⟩;cases i with
  |zero=>exact h.1
  |succ i=>exact h2 i (by simpa using hi) (by simpa using hi')
theorem Jo {x y:AV} {v:Value} {fs:lN} (h:Own w S x v fs) (hn:MY x y):Own w S y v fs:=by
 unfold MY at hn;split at hn
 . rename_i xs ys;obtain ⟨cs,fss,rfl,rfl,h1,h2,h3,h4⟩:=Ci h;obtain ⟨g1,g2⟩:=Jn xs ys hn;refine .agg ys cs fss (h1.trans g1) (fun i hi=> ?_) (h3.trans g1) (fun i hi=> ?_)
   . exact (Hf (h4 i (by omega)) (g2 i (by omega) hi)).2 (h2 i (by omega))
   exact (Hf (h4 i (by omega)) (g2 i (by omega) hi)).1
 exact (Hf h hn).1
theorem Cq {x y:AV} {v:Value} {fs:lN} (h:Own w S x v fs) (hn:sJ x y):Own w S y v fs:=by
 unfold sJ at hn;split at hn
 . rename_i xs ys;obtain ⟨cs,fss,rfl,rfl,h1,h3,h4⟩:=Jf h;obtain ⟨g1,g2⟩:=EH xs ys hn;exact .aX ys cs fss (h1.trans g1) (h3.trans g1) fun i hi=>Jo (h4 i (by omega)) (g2 i (by omega) hi)
 exact Jo h hn
end
theorem Fn.nil {P:Program} {f:FuncId} {args:lA} {post:AV->Prop} (h:Fn P f args true (fun x=>∃r,sJ x r/\post r)):Fn P f args true post:=
 ⟨h.1,fun w S vs h1 hk h2 h3=>(h.2 w S vs h1 hk h2 h3).mono fun _ _ ⟨x,v,g1,⟨r,g2,g3⟩,g4,g5⟩=>by
   refine ⟨r,v,g1,g3,g4,?_⟩;obtain ⟨fs,q1,q2⟩:=g5
   exact ⟨fs,Cq q1 g2,q2⟩⟩
theorem rJ.nil {P:Program} {f:FuncId} {io:List bj} {args:lA} {post:AV->List bj->Prop} (h:rJ P f io args (fun x io'=>∃r,sJ x r/\post r io')):rJ P f io args post:=
 ⟨h.1,fun w φ fp S vs h1 h2=>(h.2 w φ fp S vs h1 h2).mono fun _ _ ⟨x,v,io',φ',fp',S',m',g1,⟨r,g2,g3⟩,g4,g5,fs,q1,q2⟩=>
   ⟨r,v,io',φ',fp',S',m',g1,g3,g4,g5,fs,Cq q1 g2,q2⟩⟩
theorem Fn.au {P:Program} {f:FuncId} {fn:Func} {c:Code} {args:List AV} {r:AV} (N:Nat) (rs:List ResultVar) (hf:P.funcs[f]? =some fn) (hN:fn.ntmps=N:=by exact rfl) (hr:fn.results.toList=rs:=by exact rfl) (hn:(fn.name== "runtime.NumGoroutine")=false:=by exact rfl)
 (hb:fn.body=some c:=by exact rfl) (hok:codeOk N c=true:=by exact rfl) (ha:args.length<=N:=by exact oT rfl) (hv:vc P N c (bH 0 args) [] (fin P rs (fun x=>sJ x r))):Fn P f args true (· =r):=
 Fn.nil ((Fn.dK N rs hf hN hr hn hb hok ha hv).mono fun x hx=>⟨r,hx,rfl⟩)
theorem rJ.au {P:Program} {f:FuncId} {fn:Func} {c:Code} {io io1:List bj} {args:lA} {r:AV} (N:Nat) (rs:List ResultVar) (hf:P.funcs[f]? =some fn) (hN:fn.ntmps=N:=by exact rfl) (hr:fn.results.toList=rs:=by exact rfl)
 (hn:(fn.name== "runtime.NumGoroutine")=false:=by exact rfl) (hb:fn.body=some c:=by exact rfl) (hok:codeOk N c=true:=by exact rfl) (ha:args.length≤N:=by exact oT rfl) (hv:vc P N c (bH 0 args) (l7 0 io) (RG P rs (io.map bj.ae) (fun x io'=>sJ x r∧io'=io1))):
 rJ P f io args (fun x io'=>x=r/\io'=io1):=
 rJ.nil ((rJ.dK N rs hf hN hr hn hb hok ha hv).mono fun x io' hx=>⟨r,hx.1,rfl,hx.2⟩)
theorem RY (v:Nat) (sh:Sh) (d:Bool) (xs:lA):(bj.row v sh d xs).ae=v:=rfl
theorem RZ (v:Nat) (xs:lA):(bj.box v xs).ae=v:=rfl
def rl (l l' x:Nat):Nat:=if x=l then l' else if x=l' then l else x
theorem jJ (l l' x:Nat):rl l l' (rl l l' x)=x:=by
 unfold rl;split
 . rename_i h;split
   . rename_i h2;omega
   rw [if_pos rfl];exact h.symm
 split
 . rename_i h1 h2;rw [if_pos rfl];exact h2.symm
 rfl
theorem Ob {l l' x y:Nat} (h:rl l l' x=rl l l' y):x=y:=by rw [←jJ l l' x,h,jJ]
theorem Jp {l l' x:Nat} (h:l<bE) (h':l'<bE) (hx:bE<=x):rl l l' x=x:=by unfold rl;rw [if_neg (by omega),if_neg (by omega)]
theorem Wk {l l' x:Nat} (h:l<bE) (h':l'<bE) (hx:x<bE):rl l l' x<bE:=by unfold rl;split<;>(try split)<;>omega
theorem Wl (l l' x:Nat):rl l l' x=if x=l then l' else if x=l' then l else x:=rfl
mutual
def iO (l l':Nat):AV->AV
 | .ref k v i n=>.ref (rl l l' k) v i n
 | .ptr k v i j=>.ptr (rl l l' k) v i j
 | .agg xs=>.agg (p8 l l' xs)
 | .aX xs=>.aX (p8 l l' xs)
 | .cm f xs=>.cm f (p8 l l' xs)
 |x=>x
def p8 (l l':Nat):lA->lA
 | []=>[]
 |x::r=>iO l l' x::p8 l l' r
end
theorem Jq (l l' k v i n:Nat):iO l l' (.ref k v i n)= .ref (rl l l' k) v i n:=by simp [iO]
theorem Jr (l l' k v i j:Nat):iO l l' (.ptr k v i j)= .ptr (rl l l' k) v i j:=by simp [iO]
theorem pf (l l':Nat) (xs:lA):iO l l' (.agg xs)= .agg (p8 l l' xs):=by simp [iO]
theorem pg (l l':Nat) (xs:lA):iO l l' (.aX xs)= .aX (p8 l l' xs):=by simp [iO]
theorem ph (l l':Nat) (f:FuncId) (xs:lA):iO l l' (.cm f xs)= .cm f (p8 l l' xs):=by simp [iO]
theorem sK (l l':Nat):iO l l' .undef= .undef:=by simp [iO]
theorem Js (l l':Nat) (v:Value):iO l l' (.val v)= .val v:=by simp [iO]
theorem Oc (l l':Nat):iO l l' .e0= .e0:=by simp [iO]
theorem Cr (l l':Nat) (sh:Sh) (xs:lA):iO l l' (.arr sh xs)= .arr sh xs:=by simp [iO]
theorem EI (l l':Nat) (sh:Sh) (xs:lA) (i j:Nat):iO l l' (.bq sh xs i j)= .bq sh xs i j:=by simp [iO]
theorem R0 (l l':Nat):p8 l l' []=[]:=by simp [p8]
theorem oE (l l':Nat) (x:AV) (r:lA):p8 l l' (x::r)=iO l l' x::p8 l l' r:=by simp [p8]
theorem bV (l l':Nat):∀xs:lA,(p8 l l' xs).length=xs.length
 | []=>rfl
 |x::r=>by rw [oE,List.length_cons,List.length_cons,bV l l' r]
theorem eV (l l':Nat):∀(xs:lA) (i:Nat) (h:i<xs.length) (h':i<(p8 l l' xs).length),(p8 l l' xs)[i]=iO l l' xs[i]
 |x::r,0,_,_=>rfl
 |x::r,i+1,h,h'=>by have:=eV l l' r i (by simpa using h) (by rw [bV];simpa using h);simpa [p8] using this
theorem xr {l l':Nat} {x:AV} (h:leaf x):leaf (iO l l' x):=by cases x<;>first|exact h.elim|(simp [iO];trivial)
def Jt (l l':Nat):bj->bj
 | .box v xs=>.box v (p8 l l' xs)
 |b=>b
theorem R3 (l l' v:Nat) (xs:lA):Jt l l' (.box v xs)= .box v (p8 l l' xs):=rfl
theorem R4 (l l' v:Nat) (sh:Sh) (d:Bool) (xs:lA):Jt l l' (.row v sh d xs)= .row v sh d xs:=rfl
theorem Od (l l' v:Nat):Jt l l' (.gone v)= .gone v:=rfl
theorem nc (l l':Nat) (b:bj):(Jt l l' b).ae=b.ae:=by cases b<;>rfl
def Hg (l l':Nat):Env->Env
 | []=>[]
 |(t,x)::r=>(t,iO l l' x)::Hg l l' r
theorem R5 (l l':Nat):Hg l l' []=[]:=rfl
theorem EJ (l l' t:Nat) (x:AV) (r:Env):Hg l l' ((t,x)::r)=(t,iO l l' x)::Hg l l' r:=rfl
def xu (l l':Nat):Mem->Mem
 | []=>[]
 |(k,b)::r=>(rl l l' k,Jt l l' b)::xu l l' r
theorem R6 (l l':Nat):xu l l' []=[]:=rfl
theorem EK (l l' k:Nat) (b:bj) (r:Mem):xu l l' ((k,b)::r)=(rl l l' k,Jt l l' b)::xu l l' r:=rfl
theorem iP (l l':Nat):∀(ts:Env) (t:Nat),look (Hg l l' ts) t=iO l l' (look ts t)
 | [],t=>(sK l l').symm
 |(k,x)::r,t=>by rw [EJ,cP,cP,iP l l' r t];split<;>rfl
theorem cQ (l l':Nat):∀(m:Mem) (k:Nat),ah (xu l l' m) k=(ah m (rl l l' k)).map (Jt l l')
 | [],k=>rfl
 |(k0,b)::r,k=>by
  rw [EK,aw,aw,cQ l l' r k];by_cases h:rl l l' k0=k
  . have:k0=rl l l' k:=by rw [←h,jJ]
    rw [if_pos h,if_pos this];rfl
  have:k0≠rl l l' k:=fun e=>h (by rw [e,jJ]);rw [if_neg h,if_neg this]
mutual
theorem jK (l l':Nat):∀(x:AV),an (iO l l' x)=(an x).map fun p=>(rl l l' p.1,p.2)
 | .ref k v i n=>by simp [iO,an]
 | .ptr k v i j=>by simp [iO,an]
 | .agg xs=>by rw [pf];simp only [an];exact mq l l' xs
 | .aX xs=>by rw [pg];simp only [an];exact mq l l' xs
 | .cm f xs=>by rw [ph];simp only [an];exact mq l l' xs
 | .undef=>by simp [iO,an]
 | .val v=>by simp [iO,an]
 | .e0=>by simp [iO,an]
 | .arr sh xs=>by simp [iO,an]
 | .bq sh xs i j=>by simp [iO,an]
theorem mq (l l':Nat):∀(xs:lA),aq (p8 l l' xs)=(aq xs).map fun p=>(rl l l' p.1,p.2)
 | []=>by simp [p8,aq]
 |x::r=>by rw [oE];simp only [aq];rw [jK l l' x,mq l l' r,List.map_append]
end
theorem UY {w:World} {S:Nat->Prop} {x:AV} {v:Value} (l l':Nat) (h:Rd w S x v):iO l l' x=x:=by
 have key:∀(xs:lA),(∀i (hi:i<xs.length),iO l l' xs[i]=xs[i])->p8 l l' xs=xs:=by intro xs hx;refine List.ext_getElem (bV l l' xs) fun i h1 h2=> ?_;rw [eV l l' xs i h2 h1];exact hx i h2
 induction h with
 |undef v=>exact sK _ _
 |val v h=>exact Js _ _ _
 |e0 a=>exact Oc _ _
 |nil sh a=>exact Cr _ _ _ _
 |arr=>exact Cr _ _ _ _
 |agg xs cs hl hf hv ih=>rw [pf,key xs ih]
 |aX xs cs hl hv ih=>rw [pg,key xs ih]
 |bq=>exact EI _ _ _ _ _ _
 |cm f xs cs hl hv ih=>rw [ph,key xs ih]
section
variable {B:eE} {N:Nat} {φ:Nat->LS} {fp:Nat->lN} {S:Nat->Prop} {ts:Env} {m:Mem} {a:Act} {w:World}
theorem RV.Dr (l l':Nat) {x:AV} {v:Value} (h:RV w S φ x v):RV w S (fun k=>φ (rl l l' k)) (iO l l' x) v:=by
 induction h with
 |rd x v h=>rw [UY l l' h];exact .rd x v h
 |agg xs cs hl hf _ ih=>
  rw [pf];refine .agg _ cs (hl.trans (bV l l' xs).symm) (fun i hi=> ?_) fun i hi=> ?_
  . have h':i<xs.length:=by rw [bV] at hi;exact hi
    rw [eV l l' xs i h' hi];exact xr (hf i h')
  have h':i<xs.length:=by rw [bV] at hi;exact hi
  rw [eV l l' xs i h' hi];exact ih i h'
 |aX xs cs hl _ ih=>
  rw [pg];refine .aX _ cs (hl.trans (bV l l' xs).symm) fun i hi=> ?_;have h':i<xs.length:=by rw [bV] at hi;exact hi
  rw [eV l l' xs i h' hi];exact ih i h'
 |cm f xs cs hl _ ih=>
  rw [ph];refine .cm f _ cs (hl.trans (bV l l' xs).symm) fun i hi=> ?_;have h':i<xs.length:=by rw [bV] at hi;exact hi
  rw [eV l l' xs i h' hi];exact ih i h'
 |ref k ae i n v h1 h2 h3=>
  rw [Jq];refine .ref _ _ _ _ _ (fun b sh hb=>h1 b sh ?_) (fun hb=>h2 ?_) h3
  . rwa [jJ] at hb
  rwa [jJ] at hb
 |ptr k ae i j v h1 h2 h3=>
  rw [Jr];refine .ptr _ _ _ _ _ (fun b sh hb=>h1 b sh ?_) (fun hb=>h2 ?_) h3
  . rwa [jJ] at hb
  rwa [jJ] at hb
theorem RS.Dr (h:RS B N φ fp S ts m a w) {l l':Nat} (hl:l<bE) (hl':l'<bE):RS B N (fun k=>φ (rl l l' k)) (fun k=>fp (rl l l' k)) S (Hg l l' ts) (xu l l' m) a w:=by
 have kn:∀k ae,known m k ae->known (xu l l' m) (rl l l' k) ae:=by rintro k ae ⟨b,h1,h2⟩;exact ⟨Jt l l' b,by rw [cQ,jJ,h1];rfl,by rw [nc];exact h2⟩
 have labs_in:∀(x:AV) k ae,(k,ae)∈an (iO l l' x)->∃k0,k=rl l l' k0/\(k0,ae)∈an x:=by intro x k ae hk;rw [jK] at hk;obtain ⟨⟨k0,v0⟩,h1,h2⟩:=List.mem_map.1 hk;simp only [Prod.mk.injEq] at h2;obtain ⟨rfl,rfl⟩:=h2;exact ⟨k0,rfl,h1⟩
 refine {tm:=fun t=> ?_,tl:=fun t k ae hk=> ?_,b7:=fun k hk=> ?_,aF:=fun k b hb=> ?_,bl:=fun k v xs hb k' ae hk=> ?_,gZ:=fun k=>h.gZ _,fI:=fun k k' b h1 h2=>Ob (h.fI _ _ b h1 h2),
         bQ:=fun k b hb=>h.bQ _ b hb,cw:=fun k b hb=> ?_,sB:=h.sB,base:=h.base,out:=h.out,kj:=h.kj,kn:=fun k ae hk hv=> ?_,fix:=fun k ae hk hv=> ?_,size:=h.size,defers:=h.defers,k6:=h.k6,js:=h.js}
 . rw [iP];exact (h.tm t).Dr l l'
 . rw [iP] at hk;obtain ⟨k0,rfl,h1⟩:=labs_in _ k ae hk;exact kn k0 ae (h.tl t k0 ae h1)
 . rw [cQ] at hk;exact h.b7 _ (by simpa using hk)
 . rw [cQ] at hb;obtain ⟨b0,hb0,rfl⟩:=Option.map_eq_some_iff.1 hb;have hB:=h.aF _ b0 hb0;cases b0 with
   |gone v=>exact hB
   |row v sh d xs=>exact hB
   |j8 v xs i u=>exact hB
   |sub v sh xs u=>exact hB
   |box v xs=>
    obtain ⟨b,cs,e,sh,h1,h2,h3,h4,h5,h6⟩:=hB;refine ⟨b,cs,e,sh,h1,h2,h3,q14 (Nat.le_of_eq (bV l l' xs)) h4,fun i hi=> ?_,fun i hi=> ?_⟩
    . have h':i<xs.length:=by rw [bV] at hi;exact hi
      rw [eV l l' xs i h' hi];exact xr (h5 i h')
    have h':i<xs.length:=by rw [bV] at hi;exact hi
    rw [eV l l' xs i h' hi];exact (h6 i h').Dr l l'
 . rw [cQ] at hb;obtain ⟨b0,hb0,e⟩:=Option.map_eq_some_iff.1 hb;cases b0 with
   |gone v=>cases e
   |row v sh d xs=>cases e
   |j8 v xs i u=>cases e
   |sub v sh xs u=>cases e
   |box v0 xs0=>
    cases e;rw [mq] at hk;obtain ⟨⟨k0,v1⟩,h1,h2⟩:=List.mem_map.1 hk;simp only [Prod.mk.injEq] at h2;obtain ⟨rfl,rfl⟩:=h2;exact kn k0 v1 (h.bl _ _ _ hb0 k0 v1 h1)
 . have:=h.cw _ b hb;refine ⟨this.1,this.2.imp id fun ⟨l0,h1,h2,h3⟩=> ?_⟩;by_cases hk:bE<=k
   . rw [Jp hl hl' hk] at h3;exact ⟨l0,h1,hk,h3⟩
   have:=Wk hl hl' (Nat.lt_of_not_le hk);omega
 . have:=kn k ae (h.kn k ae hk hv)
   rwa [Jp hl hl' hk] at this
 rw [Jp hl hl' hk];exact h.fix k ae hk hv
inductive UZ:Env->Mem->Env->Mem->Prop
 |here {ts:Env} {m:Mem} {ts2:Env} {m2:Mem} (h:rE ts m ts2 m2):UZ ts m ts2 m2
 |mv {ts:Env} {m:Mem} {ts2:Env} {m2:Mem} (l l':Nat) (hl:l<bE) (hl':l'<bE) (h:UZ (Hg l l' ts) (xu l l' m) ts2 m2):UZ ts m ts2 m2
variable {P:Program}
end
section
variable {P:Program} {B:eE} {N:Nat} {φ:Nat->LS} {fp:Nat->lN} {S:Nat->Prop} {ts:Env} {m:Mem} {a:Act} {w:World}
theorem RS.Oe (h:RS B N φ fp S ts m a w) {l l':Nat} (hl:l<bE) (h0:ah B.m0 l'=none) (hfp:∀b,b∈fp l'->B.w0.heap.size<=b):
 RS B N (fun k=>φ (rl l l' k)) (fun k=>fp (rl l l' k)) S (Hg l l' ts) (xu l l' m) a w:=by
 have kn:∀k ae,known m k ae->known (xu l l' m) (rl l l' k) ae:=by rintro k ae ⟨b,h1,h2⟩;exact ⟨Jt l l' b,by rw [cQ,jJ,h1];rfl,by rw [nc];exact h2⟩
 have labs_in:∀(x:AV) k ae,(k,ae)∈an (iO l l' x)->∃k0,k=rl l l' k0/\(k0,ae)∈an x:=by intro x k ae hk;rw [jK] at hk;obtain ⟨⟨k0,v0⟩,h1,h2⟩:=List.mem_map.1 hk;simp only [Prod.mk.injEq] at h2;obtain ⟨rfl,rfl⟩:=h2;exact ⟨k0,rfl,h1⟩
 have hi:∀k ae,bE<=k->known B.m0 k ae->rl l l' k=k:=by rintro k ae hk ⟨b,h1,_⟩;unfold rl;rw [if_neg (by omega),if_neg (fun e=>by subst e;rw [h0] at h1;cases h1)]
 refine {tm:=fun t=> ?_,tl:=fun t k ae hk=> ?_,b7:=fun k hk=> ?_,aF:=fun k b hb=> ?_,bl:=fun k v xs hb k' ae hk=> ?_,gZ:=fun k=>h.gZ _,fI:=fun k k' b h1 h2=>Ob (h.fI _ _ b h1 h2),
         bQ:=fun k b hb=>h.bQ _ b hb,cw:=fun k b hb=> ?_,sB:=h.sB,base:=h.base,out:=h.out,kj:=h.kj,kn:=fun k ae hk hv=> ?_,fix:=fun k ae hk hv=> ?_,size:=h.size,defers:=h.defers,k6:=h.k6,js:=h.js}
 . rw [iP];exact (h.tm t).Dr l l'
 . rw [iP] at hk;obtain ⟨k0,rfl,h1⟩:=labs_in _ k ae hk;exact kn k0 ae (h.tl t k0 ae h1)
 . rw [cQ] at hk;exact h.b7 _ (by simpa using hk)
 . rw [cQ] at hb;obtain ⟨b0,hb0,rfl⟩:=Option.map_eq_some_iff.1 hb;have hB:=h.aF _ b0 hb0;cases b0 with
   |gone v=>exact hB
   |row v sh d xs=>exact hB
   |j8 v xs i u=>exact hB
   |sub v sh xs u=>exact hB
   |box v xs=>
    obtain ⟨b,cs,e,sh,h1,h2,h3,h4,h5,h6⟩:=hB;refine ⟨b,cs,e,sh,h1,h2,h3,q14 (Nat.le_of_eq (bV l l' xs)) h4,fun i hi=> ?_,fun i hi=> ?_⟩
    . have h':i<xs.length:=by rw [bV] at hi;exact hi
      rw [eV l l' xs i h' hi];exact xr (h5 i h')
    have h':i<xs.length:=by rw [bV] at hi;exact hi
    rw [eV l l' xs i h' hi];exact (h6 i h').Dr l l'
 . rw [cQ] at hb;obtain ⟨b0,hb0,e⟩:=Option.map_eq_some_iff.1 hb;cases b0 with
   |gone v=>cases e
   |row v sh d xs=>cases e
   |j8 v xs i u=>cases e
   |sub v sh xs u=>cases e
   |box v0 xs0=>
    cases e;rw [mq] at hk;obtain ⟨⟨k0,v1⟩,h1,h2⟩:=List.mem_map.1 hk;simp only [Prod.mk.injEq] at h2;obtain ⟨rfl,rfl⟩:=h2;exact kn k0 v1 (h.bl _ _ _ hb0 k0 v1 h1)
 . have hb:=hb;unfold rl at hb;split at hb
   . refine ⟨(h.cw _ b hb).1,.inl (hfp b hb)⟩
   split at hb
   . refine ⟨(h.cw _ b hb).1,?_⟩;rcases (h.cw _ b hb).2 with hh|⟨_,_,hh,_⟩
     . exact .inl hh
     omega
   exact h.cw _ b hb
 . have:=kn k ae (h.kn k ae hk hv)
   rwa [hi k ae hk hv] at this
 rw [hi k ae hk hv];exact h.fix k ae hk hv
theorem RS.back {N':Nat} {φ':Nat->LS} {fp':Nat->lN} {S':Nat->Prop} {ts':Env} {m':Mem} {a':Act} {w':World} (h:RS B N φ fp S ts m a w) (hi:∀l,ah m l≠none->bE<=l)
 (h':RS ⟨w,fun l b=>b∈fp l,S,φ,m⟩ N' φ' fp' S' ts' m' a' w'):RS B N φ' fp' (fun b=>S b\/(S' b/\w.heap.size<=b)) ts m' a w':=by
 have hkn:∀l ae,known m l ae->bE<=l:=fun l ae ⟨k,h1,_⟩=>hi l (by rw [h1];exact fun e=>by cases e);have hS:∀b,S b->w'.heap[b]? =w.heap[b]? :=fun b hb=>h'.base b (h.sB b hb).1 fun l hl=>h.bQ l b hl hb;have hz:fS φ w w':=fun l b sh ae cs e _ hb=>h'.kj b cs e hb;have hST:∀b,S' b->S b\/(S' b/\w.heap.size<=b):=fun b hb=>by
  rcases (h'.sB b hb).2 with hh|hh
  . exact .inr ⟨hb,hh⟩
  exact .inl hh
 refine {tm:=fun t=>(h.tm t).mono hS (fun b hb=>.inl hb) hz fun l ae hl=>h'.fix l ae (hkn l ae (h.tl t l ae hl)) (h.tl t l ae hl),
         tl:=fun t l ae hl=>h'.kn l ae (hkn l ae (h.tl t l ae hl)) (h.tl t l ae hl),b7:=h'.b7,
         aF:=fun l k hk=>(h'.aF l k hk).mono (fun _ _=>rfl) hST (fun l b sh ae cs e _ hb=>⟨cs,e,hb,rfl⟩) (fun _ _=>rfl) rfl (fun _ _ _ _ _ _=>LS.le_refl _ _),
         bl:=h'.bl,gZ:=h'.gZ,fI:=h'.fI,bQ:=fun l b hb=> ?_,cw:=fun l b hb=> ?_,sB:=fun b hb=> ?_,base:=fun b hb hio=> ?_,out:=h.out.trans h'.out,kj:=h.kj.trans h'.kj,
         kn:=fun l ae hl hk=>h'.kn l ae hl (h.kn l ae hl hk),fix:=fun l ae hl hk=>LS.le_trans (h'.fix l ae hl (h.kn l ae hl hk)) (h.fix l ae hl hk),size:=q14 h.size h'.size,defers:=h.defers,k6:=h.k6,js:=h.js.mono hS fun b hb=>.inl hb}
 . rintro (hs|hs)
   . rcases (h'.cw l b hb).2 with hh|⟨l0,hh,_⟩
     . exact absurd (h.sB b hs).1 (Nat.not_lt.2 hh)
     exact h.bQ l0 b hh hs
   exact h'.bQ l b hb hs.1
 . refine ⟨(h'.cw l b hb).1,?_⟩;rcases (h'.cw l b hb).2 with hh|⟨l0,hh,hl,h3⟩
   . exact .inl (q14 h.size hh)
   rcases (h.cw l0 b hh).2 with h4|⟨l1,h4,h5,h6⟩
   . exact .inl h4
   refine .inr ⟨l1,h4,hl,?_⟩;rcases h3 with h3|h3
   . rw [h3] at h6;exact h6
   refine .inr ?_;cases he:ah B.m0 l with
   |none=>rfl
   |some k=>
    obtain ⟨k2,h7,_⟩:=h.kn l k.ae hl ⟨k,he,Nat.le_refl _⟩;have h3':ah m l=none:=h3;rw [h3'] at h7;cases h7
 . rcases hb with hs|hs
   . exact ⟨q15 (h.sB b hs).1 h'.size,(h.sB b hs).2⟩
   exact ⟨(h'.sB b hs.1).1,.inl (q14 h.size hs.2)⟩
 refine (h'.base b (q15 hb h.size) fun l hl=> ?_).trans (h.base b hb hio);rcases (h.cw l b hl).2 with hh|⟨l1,hh,_⟩
 . exact absurd hb (Nat.not_lt.2 hh)
 exact hio l1 hh
end
def Of (P:Program) (rs:List ResultVar) (k:AV->Mem->Prop):dc
 | .normal=>fun ts m=>aN P (fun xs=>k (bG xs) m) rs ts m []
 | .ret=>fun ts m=>aN P (fun xs=>k (bG xs) m) rs ts m []
 |_=>fun _ _=>False
theorem EL (P:Program) (rs:List ResultVar) (k:AV->Mem->Prop) (ts:Env) (m:Mem):Of P rs k .normal ts m=aN P (fun xs=>k (bG xs) m) rs ts m []:=rfl
theorem Og (P:Program) (rs:List ResultVar) (k:AV->Mem->Prop) (ts:Env) (m:Mem):Of P rs k .ret ts m=aN P (fun xs=>k (bG xs) m) rs ts m []:=rfl
def p9:Mem->Prop
 | []=>True
 |(l,_)::r=>bE<=l/\p9 r
theorem KK:p9 []=True:=rfl
theorem Hh (l:Nat) (b:bj) (r:Mem):p9 ((l,b)::r)=(1000000000<=l/\p9 r):=rfl
theorem pj:∀{m:Mem},p9 m->∀l,ah m l≠none->bE<=l
 | [],_,l,h=>absurd rfl h
 |(k,b)::r,⟨h1,h2⟩,l,h=>by
  rw [aw] at h;split at h
  . rename_i e;subst e;exact h1
  exact pj h2 l h
def kI:List (Nat × Nat)->Mem->Mem
 | [],m=>m
 |(l,l')::r,m=>kI r (xu l l' m)
def pK:List (Nat × Nat)->AV->AV
 | [],x=>x
 |(l,l')::r,x=>pK r (iO l l' x)
def mr (ρ:List (Nat × Nat)) (xs:lA):lA:=xs.map (pK ρ)
def rL:List (Nat × Nat)->Mem->Mem
 | [],m=>m
 |(l,l')::r,m=>xu l l' (rL r m)
def rM:List (Nat × Nat)->AV->AV
 | [],x=>x
 |(l,l')::r,x=>iO l l' (rM r x)
def hasB (b:Option bj):Prop:=b≠none
theorem KL (b:bj):hasB (some b)=True:=by simp [hasB]
def Ju (b:Option bj):Prop:=b=none
theorem Hi:Ju none=True:=by simp [Ju]
def oG:List (Nat × Nat)->Mem->Prop
 | [],_=>True
 |(l,l')::r,m=>((l<bE/\bE<=l')/\hasB (ah m l)/\Ju (ah m l'))/\oG r (xu l l' m)
theorem Oh (m:Mem):kI [] m=m:=rfl
theorem KM (l l':Nat) (r:List (Nat × Nat)) (m:Mem):kI ((l,l')::r) m=kI r (xu l l' m):=rfl
theorem Oi (x:AV):pK [] x=x:=rfl
theorem KO (l l':Nat) (r:List (Nat × Nat)) (x:AV):pK ((l,l')::r) x=pK r (iO l l' x):=rfl
theorem Oj (ρ:List (Nat × Nat)):mr ρ []=[]:=rfl
theorem KP (ρ:List (Nat × Nat)) (x:AV) (r:lA):mr ρ (x::r)=pK ρ x::mr ρ r:=rfl
theorem KQ (m:Mem):rL [] m=m:=rfl
theorem Hj (l l':Nat) (r:List (Nat × Nat)) (m:Mem):rL ((l,l')::r) m=xu l l' (rL r m):=rfl
theorem KR (x:AV):rM [] x=x:=rfl
theorem Hk (l l':Nat) (r:List (Nat × Nat)) (x:AV):rM ((l,l')::r) x=iO l l' (rM r x):=rfl
theorem KT (m:Mem):oG [] m=True:=rfl
theorem Hl (l l':Nat) (r:List (Nat × Nat)) (m:Mem):oG ((l,l')::r) m=(((l<1000000000/\1000000000<=l')/\hasB (ah m l)/\Ju (ah m l'))/\oG r (xu l l' m)):=rfl
def rN:List (Nat × Nat)->Prop
 | []=>True
 |(l,l')::r=>(l<bE/\l'<bE)/\rN r
theorem KU:rN []=True:=rfl
theorem Hm (l l':Nat) (r:List (Nat × Nat)):rN ((l,l')::r)=((l<1000000000/\l'<1000000000)/\rN r):=rfl
def V9:lN->Nat->Bool
 | [],_=>false
 |d::D,l=>l==d||V9 D l
theorem R7 (l:Nat):V9 [] l=false:=rfl
theorem Ol (d:Nat) (D:lN) (l:Nat):V9 (d::D) l=(l==d||V9 D l):=rfl
def eR (J:Nat):lN->Mem->List (Nat × Nat)
 |_,[]=>[]
 |E,(l,_)::r=>if (decide (l<1000000000)&& !V9 E l)=true then (l,l+J)::eR J (l::E) r else eR J E r
theorem Om (J:Nat) (E:lN):eR J E []=[]:=rfl
theorem KV (J:Nat) (E:lN) (l:Nat) (b:bj) (r:Mem):eR J E ((l,b)::r)=if (decide (l<1000000000)&& !V9 E l)=true then (l,l+J)::eR J (l::E) r else eR J E r:=rfl
mutual
theorem Cs (l l':Nat):∀x:AV,iO l l' (iO l l' x)=x
 | .ref k v i n=>by simp [iO,jJ]
 | .ptr k v i j=>by simp [iO,jJ]
 | .agg xs=>by rw [pf,pf,vG l l' xs]
 | .aX xs=>by rw [pg,pg,vG l l' xs]
 | .cm f xs=>by rw [ph,ph,vG l l' xs]
 | .undef=>by simp [iO]
 | .val v=>by simp [iO]
 | .e0=>by simp [iO]
 | .arr sh xs=>by simp [iO]
 | .bq sh xs i j=>by simp [iO]
theorem vG (l l':Nat):∀xs:lA,p8 l l' (p8 l l' xs)=xs
 | []=>by simp [p8]
 |x::r=>by rw [oE,oE,Cs l l' x,vG l l' r]
end
section
variable {P:Program} {B:eE} {N:Nat} {φ:Nat->LS} {fp:Nat->lN} {S:Nat->Prop} {ts:Env} {m:Mem} {a:Act} {w:World}
theorem xw {m:Mem} {acc:lA} {x:AV} (h:∀i (h:i<acc.reverse.length) l ae,(l,ae)∈an acc.reverse[i]->known m l ae) (hx:∀l ae,(l,ae)∈an x->known m l ae):
 ∀i (h:i<(x::acc).reverse.length) l ae,(l,ae)∈an (x::acc).reverse[i]->known m l ae:=by
 intro i hi l ae hl;simp only [q13] at hi hl;rw [List.getElem_append] at hl;split at hl
 . exact h i _ l ae hl
 simp at hl;exact hx l ae hl
theorem cL (h:RS B N φ fp S ts m a w) {Q:lA->Prop}:∀(rs:List ResultVar) (acc:lA) (va:List Value),pa (RV w S φ) acc.reverse va->(∀i (h:i<acc.reverse.length) l ae,(l,ae)∈an acc.reverse[i]->known m l ae)->aN P Q rs ts m acc→
 ∃xs vs,Q xs/\(rs.mapM (cY a.tmps)).run P w= .ok vs w/\pa (RV w S φ) xs (va++vs)/\∀i (h:i<xs.length) l ae,(l,ae)∈an xs[i]->known m l ae
 | [],acc,va,ha,hl,hk=>⟨_,[],hk,by simp,by simpa using ha,hl⟩
 | .tmp t::r,acc,va,ha,hl,hk=>by
   obtain ⟨xs,vs,h1,h2,h3,h4⟩:=cL h r (look ts t::acc) (va++[a.tmps.getD t Go.undef]) (by rw [q13];exact ha.snoc (h.tm t)) (xw hl (fun l ae hl'=>h.tl t l ae hl')) hk;refine ⟨xs,a.tmps.getD t Go.undef::vs,h1,?_,by simpa using h3,h4⟩;rw [List.mapM_cons];simp only [cY,Sem.run_bind,Sem.run_pure,Result.andThen_ok,h2]
 | .cell p t::r,acc,va,ha,hl,hk=>by obtain ⟨ti,ht,hk⟩:=bF hk;obtain ⟨ad,u,y,hv,hr,hy,hyl,hk⟩:=AY ht h (h.tm p) hk;obtain ⟨xs,vs,h1,h2,h3,h4⟩:=cL h r (y::acc) (va++[u]) (by rw [q13];exact ha.snoc hy) (xw hl hyl) hk;refine ⟨xs,u::vs,h1,?_,by simpa using h3,h4⟩;rw [List.mapM_cons];simp only [cY,hv,asAddr,Sem.run_bind,Sem.run_pure,Result.andThen_ok,hr,h2]
theorem mu {ys:lA} {vs:List Value} (hl:vs.length=ys.length) (hv:∀i (h:i<ys.length),RV w S φ ys[i] (vs.getD i Go.undef)):
 RV w S φ (bG ys) (if h:vs.toArray.size=1 then vs.toArray[0] else .tuple vs.toArray):=by
 match ys,vs,hl,hv with
 | [],[],_,_=>exact .rd _ _ (.aX [] #[] rfl fun i hi=>absurd hi (q16 _))
 | [y],[v],_,hv=>simpa [bG] using hv 0 (by simp)
 |y::y'::r,v::v'::r',hl,hv=>
  have:¬((v::v'::r').toArray.size=1):=by simp
  rw [dif_neg this];exact .aX _ _ (by simpa using hl) (by simpa using hv)
theorem Hn {ys:lA} (h:∀i (h:i<ys.length) l ae,(l,ae)∈an ys[i]->known m l ae):∀l ae,(l,ae)∈an (bG ys)->known m l ae:=by
 intro l ae hl;match ys,h,hl with
 | [],_,hl=>simp [bG,an,aq] at hl
 | [y],h,hl=>exact h 0 (by simp) l ae (by simpa [bG] using hl)
 |y::y'::r,h,hl=>
  rw [sH] at hl;simp only [an] at hl;obtain ⟨i,hi,hl2⟩:=bW hl;exact h i hi l ae hl2
theorem RS.On:∀(σ:List (Nat × Nat)) {φ:Nat->LS} {fp:Nat->lN} {ts:Env} {m:Mem},rN σ->RS B N φ fp S ts m a w->∃φ' fp' ts',RS B N φ' fp' S ts' (kI σ m) a w/\(∀x v,RV w S φ x v->RV w S φ' (pK σ x) v)∧
 (∀x,(∀l ae,(l,ae)∈an x->known m l ae)->∀l ae,(l,ae)∈an (pK σ x)->known (kI σ m) l ae)/\∀l,bE<=l->fp' l=fp l
 | [],φ,fp,ts,m,_,h=>⟨φ,fp,ts,h,fun _ _ h=>h,fun _ h=>h,fun _ _=>rfl⟩
 |(l,l')::r,φ,fp,ts,m,⟨⟨h1,h2⟩,h3⟩,h=>by
  obtain ⟨φ',fp',ts',g1,g2,g3,g4⟩:=RS.On r h3 (h.Dr h1 h2);refine ⟨φ',fp',ts',g1,fun x v hx=>g2 _ _ (hx.Dr l l'),fun x hx=>g3 _ fun k ae hk=> ?_,fun k hk=> ?_⟩
  . rw [jK] at hk;obtain ⟨⟨k0,v0⟩,q1,q2⟩:=List.mem_map.1 hk;simp only [Prod.mk.injEq] at q2;obtain ⟨rfl,rfl⟩:=q2;obtain ⟨b0,q3,q4⟩:=hx k0 v0 q1;exact ⟨Jt l l' b0,by rw [cQ,jJ,q3];rfl,by rw [nc];exact q4⟩
  rw [g4 k hk];rw [Jp h1 h2 hk]
theorem sM (J:Nat) {f:FuncId} {fn:Func} {c:Code} (hf:P.funcs[f]? =some fn) (hb:fn.body=some c) (hok:codeOk fn.ntmps c=true):
 ∀(ρ:List (Nat × Nat)) {φ:Nat->LS} {fp:Nat->lN} {ts:Env} {m:Mem} {xs:lA} {vs:aV} {k:AV->Mem->Prop},RS B N φ fp S ts m a w->oG ρ m->p9 (kI ρ m)->xs.length<=fn.ntmps→
  vs.size=xs.length->(∀i (h:i<xs.length),RV w S φ xs[i] (vs.toList.getD i Go.undef))->(∀i (h:i<xs.length) l ae,(l,ae)∈an xs[i]->known m l ae)→
  vc P fn.ntmps c (bH 0 (mr ρ xs)) (kI ρ m) (Of P fn.results.toList fun x m'=>rN (eR J [] m')/\k (rM ρ (pK (eR J [] m') x)) (rL ρ (kI (eR J [] m') m')))→
  Calls P f vs w fun e w'=>∃v,e= .returned v/\∃φ' fp' S' m' x,RS B N φ' fp' S' ts m' a w'/\RV w' S' φ' x v/\(∀l ae,(l,ae)∈an x->known m' l ae)/\k x m'∧
   ∀l,ah m l≠none->bE<=l->∀b,b∈fp' l->w.heap.size<=b\/b∈fp l
 | [],φ,fp,ts,m,xs,vs,k,h,_,hhi,ha,hsz,hx,hxl,hv=>by
   have hhi:=pj hhi;simp only [kI,mr] at hhi hv;rw [show xs.map (pK [])=xs from by rw [show pK []=id from rfl,List.map_id]] at hv;refine calls_of_wp hf hb ?_;have hRS:RS ⟨w,fun l b=>b∈fp l,S,φ,m⟩ fn.ntmps φ fp S (bH 0 xs) m {tmps:=vs++Array.replicate (fn.ntmps-vs.size) undef,defers:=[]} w:=by
    refine {tm:=fun t=> ?_,tl:=fun t l ae hl=> ?_,b7:=h.b7,aF:=h.aF,bl:=h.bl,gZ:=h.gZ,fI:=h.fI,bQ:=h.bQ,cw:=fun l b hb=>⟨(h.cw l b hb).1,.inr ⟨l,hb,?_,.inl rfl⟩⟩,
            sB:=fun b hb=>⟨(h.sB b hb).1,.inr hb⟩,base:=fun b hb _=>rfl,out:=a8.refl _,kj:=jD.refl _,kn:=fun _ _ _ hk=>hk,fix:=fun _ _ _ _=>LS.le_refl _ _,size:=Nat.le_refl _,defers:=rfl,k6:=by simp;omega,js:=h.js}
    . rw [bI];by_cases ht:t<xs.length
      . have h1:=hx t ht;have e1:vs.toList.getD t Go.undef=(vs++Array.replicate (fn.ntmps-vs.size) undef).getD t Go.undef:=by
         have h2:t<vs.size:=by omega
         simp only [q0,q4,q2];rw [Array.getElem?_append_left h2]
        rw [←e1];simpa [ht] using h1
      have:(if 0<=t then (xs[t-0]?).getD AV.undef else .undef)= .undef:=by simp [List.getElem?_eq_none (show xs.length<=t by omega)]
      rw [this];exact .rd _ _ (.undef _)
    . rw [bI] at hl;by_cases ht:t<xs.length
      . exact hxl t ht l ae (by simpa [ht] using hl)
      have:(if 0<=t then (xs[t-0]?).getD AV.undef else .undef)= .undef:=by simp [List.getElem?_eq_none (show xs.length<=t by omega)]
      rw [this] at hl;cases hl
    refine hhi l fun e=> ?_;rw [(h.b7 l e).2] at hb;cases hb
   have fR:∀a' w',hZ ⟨w,fun l b=>b∈fp l,S,φ,m⟩ fn.ntmps (fun ts m'=>aN P (fun xs=>rN (eR J [] m')/\k (pK (eR J [] m') (bG xs)) (kI (eR J [] m') m')) fn.results.toList ts m' []) a' w'→
    a'.defers=[]/\∃v,(results fn a'.tmps).run P w'= .ok v w'/\∃v',Ending.returned v= .returned v'/\∃φ' fp' S' m' x,RS B N φ' fp' S' ts m' a w'/\RV w' S' φ' x v'/\(∀l ae,(l,ae)∈an x->known m' l ae)/\k x m'∧
     ∀l,ah m l≠none->bE<=l->∀b,b∈fp' l->w.heap.size<=b\/b∈fp l:=by
    rintro a' w' ⟨φ',fp',S',ts',m',h',hk⟩;refine ⟨h'.defers,?_⟩;obtain ⟨ys,us,⟨Yu,h1⟩,h2,h3,h4⟩:=cL h' fn.results.toList [] [] ⟨rfl,fun i hi=>absurd hi (q16 _)⟩ (fun i hi=>absurd hi (q16 _)) hk;obtain ⟨h3a,h3b⟩:=h3;simp only [q11] at h3a h3b;obtain ⟨φ2,fp2,ts2,r1,r2,r3,r4⟩:=RS.On (eR J [] m') Yu h';have qh:=h.back hhi r1;have hST:∀b,S' b->S b\/(S' b/\w.heap.size<=b):=fun b hb=>by
     rcases (h'.sB b hb).2 with hh|hh
     . exact .inr ⟨hb,hh⟩
     exact .inl hh
    refine ⟨if h:us.toArray.size=1 then us.toArray[0] else .tuple us.toArray,?_,_,rfl,φ2,fp2,_,_,_,qh,?_,?_,h1,fun l hl hl2 b hb=> ?_⟩
    . have hm:results fn a'.tmps=(do let vs ←fn.results.mapM (cY a'.tmps);pure (if h:vs.size=1 then vs[0] else .tuple vs)):=by
       unfold results;congr 1
      rw [hm,Sem.run_bind,Array.mapM_eq_mapM_toList];have:(List.toArray <$> fn.results.toList.mapM (cY a'.tmps):Sem aV).run P w'= .ok us.toArray w':=by rw [map_eq_pure_bind,Sem.run_bind,h2];rfl
      rw [this];rfl
    . refine (r2 _ _ (mu h3a h3b)).mono (fun _ _=>rfl) hST (fun l b sh ae cs e _ hb=>⟨cs,e,hb,rfl⟩) fun _ _ _=>LS.le_refl _ _
    . exact r3 _ (Hn h4)
    rw [r4 l hl2] at hb;rcases (h'.cw l b hb).2 with hh|⟨l0,hh,_,h5⟩
    . exact .inl hh
    rcases h5 with h5|h5
    . subst h5;exact .inr hh
    exact absurd h5 hl
   refine wp_mono (cD c _ _ _ hok hv _ _ _ _ _ _ hRS) ?_;intro e a' w' hq;cases e with
   |normal=>exact fR a' w' hq
   |ret=>exact fR a' w' hq
   |_=>obtain ⟨_,_,_,_,_,_,hh⟩:=hq;exact hh.elim
 |(l,l')::r,φ,fp,ts,m,xs,vs,k,h,⟨⟨⟨hl,hio⟩,hh,hl'⟩,qQ⟩,hhi,ha,hsz,hx,hxl,hv=>by
  have hm0:ah B.m0 l'=none:=by
   cases he:ah B.m0 l' with
   |none=>rfl
   |some k0=>
    obtain ⟨k2,h7,_⟩:=h.kn l' k0.ae hio ⟨k0,he,Nat.le_refl _⟩;rw [show ah m l'=none from hl'] at h7;cases h7
  have VW:fp l'=[]:=(h.b7 l' hl').2;have h1:=h.Oe hl hm0 (fun b hb=>by rw [VW] at hb;cases hb);have hne:l≠l':=by unfold bE at*;omega
  have e1:rl l l' l=l':=by simp [rl]
  have e2:rl l l' l'=l:=by unfold rl;rw [if_neg (Ne.symm hne),if_pos rfl]
  have hlk:∀x,ah (xu l l' m) x≠none↔ah m (rl l l' x)≠none:=fun x=>by rw [cQ];cases ah m (rl l l' x)<;>simp
  have hlen:(p8 l l' xs).length=xs.length:=bV l l' xs;have:=sM J hf hb hok r (k:=fun x m'=>k (iO l l' x) (xu l l' m')) (xs:=p8 l l' xs) (vs:=vs) h1 qQ hhi (by rw [hlen];exact ha) (by rw [hlen];exact hsz) (fun i hi=> ?_) (fun i hi l0 ae hl0=> ?_) ?_
  . refine this.mono ?_;rintro e w' ⟨v,rfl,φ',fp',S',m',x,g1,g2,g3,g4,g5⟩;have hb5:∀b,b∈fp' l'->B.w0.heap.size<=b:=by
     intro b hb';rcases g5 l' ((hlk l').2 (by rw [e2];exact hh)) hio b hb' with h5|h5
     . exact q14 h.size h5
     have h5:b∈fp (rl l l' l'):=h5;rw [e2] at h5;rcases (h.cw l b h5).2 with h6|⟨_,_,h6,_⟩
     . exact h6
     exact absurd hl (Nat.not_lt.2 h6)
    have g6:=g1.Oe hl hm0 hb5;refine ⟨v,rfl,fun k=>φ' (rl l l' k),fun k=>fp' (rl l l' k),S',xu l l' m',iO l l' x,?_,g2.Dr l l',fun l0 ae hl0=> ?_,g4,fun l0 h0 h2 b hb'=> ?_⟩
    . have ets:∀t,look (Hg l l' (Hg l l' ts)) t=look ts t:=fun t=>by rw [iP,iP,Cs]
      exact {g6 with tm:=fun t=>by rw [←ets];exact g6.tm t,tl:=fun t l ae hl=>g6.tl t l ae (by rw [ets];exact hl)}
    . rw [jK] at hl0;obtain ⟨⟨k0,v0⟩,q1,q2⟩:=List.mem_map.1 hl0;simp only [Prod.mk.injEq] at q2;obtain ⟨rfl,rfl⟩:=q2;obtain ⟨b0,q3,q4⟩:=g3 k0 v0 q1;exact ⟨Jt l l' b0,by rw [cQ,jJ,q3];rfl,by rw [nc];exact q4⟩
    have n1:l0≠l:=fun e=>by subst e;exact absurd hl (Nat.not_lt.2 h2)
    have n2:l0≠l':=fun e=>by subst e;exact h0 hl'
    have e3:rl l l' l0=l0:=by unfold rl;rw [if_neg n1,if_neg n2]
    have hb':b∈fp' (rl l l' l0):=hb';rw [e3] at hb';have:=g5 l0 ((hlk l0).2 (by rw [e3];exact h0)) h2 b hb';rcases this with h5|h5
    . exact .inl h5
    have h5:b∈fp (rl l l' l0):=h5;rw [e3] at h5;exact .inr h5
  . have h':i<xs.length:=by rw [hlen] at hi;exact hi
    rw [eV l l' xs i h' hi];exact (hx i h').Dr l l'
  . have h':i<xs.length:=by rw [hlen] at hi;exact hi
    rw [eV l l' xs i h' hi,jK] at hl0;obtain ⟨⟨k0,v0⟩,q1,q2⟩:=List.mem_map.1 hl0;simp only [Prod.mk.injEq] at q2;obtain ⟨rfl,rfl⟩:=q2;obtain ⟨b0,q3,q4⟩:=hxl i h' k0 v0 q1;exact ⟨Jt l l' b0,by rw [cQ,jJ,q3];rfl,by rw [nc];exact q4⟩
  have:mr r (p8 l l' xs)=mr ((l,l')::r) xs:=by refine List.ext_getElem (by simp [mr,hlen]) fun i h1 h2=> ?_;simp only [mr,q7];rw [eV l l' xs i (by simpa [mr] using h2)];rfl
  rw [this];exact hv
theorem ca {f:FuncId} {d:Nat} {xs xt:lA} {m:Mem} {k:AV->Mem->Prop} {q:Pack k} {fn:Func} {c:Code} (J:Nat) (N:Nat) (rs:List ResultVar) (hf:P.funcs[f]? =some fn) (hN:fn.ntmps=N) (hr:fn.results.toList=rs)
 (hn:(fn.name== "runtime.NumGoroutine")=false) (hb:fn.body=some c) (hok:codeOk N c=true) (ha:xs.length≤N)
 (hv:(oG (eR 1500000000 [] m) m/\p9 (kI (eR 1500000000 [] m) m))/\vc P N c (bH 0 (mr (eR 1500000000 [] m) xs)) (kI (eR 1500000000 [] m) m)
   (Of P rs fun x m'=>rN (eR J [] m')/\k (rM (eR 1500000000 [] m) (pK (eR J [] m') x)) (rL (eR 1500000000 [] m) (kI (eR J [] m') m')))):e6 P f d xs xt m k q:=by
 subst hN;subst hr;refine .inl fun B N φ fp S ts a w vs hRS hsz hx hxl=>⟨⟨fn,c,hf,hn,hb⟩,?_⟩;refine (sM J hf hb hok _ hRS hv.1.1 hv.1.2 ha hsz hx hxl hv.2).mono ?_;rintro e w' ⟨v,rfl,φ',fp',S',m',x,g1,g2,g3,g4,_⟩;exact ⟨v,rfl,φ',fp',S',ts,m',x,g1,g2,g3,rfl,g4⟩
end
end Go.Vc
