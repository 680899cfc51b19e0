import Derived.RangeFuncFrom
import Derived.RangeFuncLeaves
import Derived.OrdersIn
import Derived.Shelf.Strconv.Itoa4
import Derived.Shelf.Strconv.ParseIntPublic10
import Derived.Shelf.Strings.Split
import Derived.Shelf.Strings.Cut
import Derived.Shelf.Strings.OnBuilder
import Derived.Shelf.Strings.Repeat
import Derived.Ground.NamesProg
import Derived.Test.YtofpaabacebkkaaGreatDoorProg
import Derived.Shelf.SlGeneric
import Derived.Ground.SlgnProg
import Derived.Shelf.SortG.Plain
import Derived.Shelf.SlicesG.CompactI
import Derived.Shelf.SortG.SortNone
import Derived.Lib.ItoaLen
import Derived.Lib.ItoaMem
import Derived.Lib.ParseIntB
import Derived.Lib.Split
import Derived.Lib.CountLaws
import Derived.Lib.IndexBytes
import Derived.Lib.CutLaws
import Derived.Lib.Join
import Derived.Lib.SlicesCompact
import Derived.Sort.Grow
import Derived.Shelf.RegionOpenPlain
import Derived.Deep.LoopGhost
import Derived.Deep.RegionLaw
import Derived.Lib.Walk
import Derived.Lib.SliceRun
import Derived.Test.YtofpaabacebkkaaGreatDoorPkLawRunConsoleC
open Go.Proofs.Tryz
open Go.Proofs.Tryz renaming prog → pG
set_option linter.unusedVariables false
set_option linter.unusedSimpArgs false
set_option linter.unnecessarySimpa false
set_option maxRecDepth 1000000
set_option maxHeartbeats 16000000
open Array renaming getD_eq_getD_getElem? ->uq0,getElem?_eq_some_iff->uq1,replicate->uq2
open Bool renaming and_eq_true->uq3,false_eq_true->uq4
open List renaming all_eq_true->uq5,getD_eq_getElem?_getD->uq6,getElem?_eq_getElem->uq7,getElem?_eq_some_iff->uq8,getElem_mem->uq9,getElem_of_mem->cK,getElem_take->dB,mem_cons_of_mem->dt,mem_cons_self->bu,mem_filter->cF,mem_map->bf,mem_of_getElem? ->cj,mem_range->c7,mem_singleton->eP,nodup_nil->iH,range->cq,range_succ->bO,replicate->c8,take_length->aW,toArray->bd
open Nat renaming le_refl->aP,le_trans->aO,not_lt_zero->du,reduceAdd->cS,reduceBEq->fH,reduceDiv->gW,reduceEqDiff->bh
namespace Go.Vc
section
variable {P:Program} {B:eE} {N:Nat} {φ:Nat->LS} {fp:Nat->lN} {S:Nat->Prop} {ts:Env} {m:Mem} {a:Act} {w:World}
theorem aj.Va {x y:Code} {Q:dc} {q:Pack (Code.seq x y,Q)} (hok:codeOk N x=true) (h:Go.Vc.vc P N x ts m (y9 Q fun ts' m'=>aj P N y ts' m' Q ⟨⟩)):aj P N (.seq x y) ts m Q q:=⟨fun B φ fp S ac w hRS=>by
 refine wp_seq (wp_mono (cD x ts m _ hok h B φ fp S ac w hRS) fun e a' w' hq=> ?_);obtain ⟨φ',fp',S',ts',m',h1,h2⟩:=hq;cases e with
 |normal=>exact h2.ok B φ' fp' S' a' w' h1
 |_=>exact ⟨φ',fp',S',ts',m',h1,h2⟩⟩
theorem aj.XV {x y:Code} {Q:dc} {q:Pack (Code.seq x y,Q)} (h:aj P N x ts m (y9 Q fun ts' m'=>aj P N y ts' m' Q ⟨⟩) ⟨⟩):aj P N (.seq x y) ts m Q q:=⟨fun B φ fp S ac w hRS=>by
 refine wp_seq (wp_mono (h.ok B φ fp S ac w hRS) fun e a' w' hq=> ?_);obtain ⟨φ',fp',S',ts',m',h1,h2⟩:=hq;cases e with
 |normal=>exact h2.ok B φ' fp' S' a' w' h1
 |_=>exact ⟨φ',fp',S',ts',m',h1,h2⟩⟩
theorem aj.Vb {id:Nat} {x:Code} {Q:dc} {q:Pack (Code.block id x,Q)} (h:aj P N x ts m (pd Q id) ⟨⟩):aj P N (.block id x) ts m Q q:=⟨fun B φ fp S ac w hRS=>by
 refine wp_block (wp_mono (h.ok B φ fp S ac w hRS) fun e a' w' hq=> ?_);obtain ⟨φ',fp',S',ts',m',h1,h2⟩:=hq;cases e with
 |exit j=>
  simp only [pd] at h2;simp only [Exit.inBlock];split
  . rename_i hj;rw [if_pos hj] at h2;exact ⟨φ',fp',S',ts',m',h1,h2⟩
  rename_i hj;rw [if_neg hj] at h2;exact ⟨φ',fp',S',ts',m',h1,h2⟩
 |_=>exact ⟨φ',fp',S',ts',m',h1,h2⟩⟩
def ng (P:Program) (N:Nat) (n:St):St:=fun ts m=>∀(B:eE) (φ:Nat->LS) (fp:Nat->lN) (S:Nat->Prop) (a:Act) (w:World),RS B N φ fp S ts m a w->∃φ2 fp2 S2 ts2 m2,RS B N φ2 fp2 S2 ts2 m2 a w/\n ts2 m2
@[congr] theorem We {P:Program} {N:Nat} {n:St} {ts ts':Env} {m m':Mem} (h:ts=ts') (h2:m=m'):ng P N n ts m=ng P N n ts' m':=by rw [h,h2]
theorem ng.known {n:St} (t l v k:Nat) (sh:Sh) (ys:lA) (ht:look ts t= .ref l v 0 k) (htN:t<N) (hlk:ah m l=some (.row v sh true ys)) (hn:k=ys.length) (h0:0<k) (hsz:0<sh.sz)
 (h:∀u,n ((t,.val u)::ts) ((l,.sub v sh ys u)::m)):ng P N n ts m:=fun _ _ _ _ _ _ hRS=>have ⟨_,_,u,hR⟩:=hRS.known ht htN hlk hn h0 hsz;⟨_,_,_,_,_,hR,h u⟩
theorem Fn.shared {f:FuncId} {args:lA} {post:AV->Prop} (h:Fn P f args true post):Fn P f args false post:=
 ⟨h.1,fun w S vs h1 hk h2 h3=>(h.2 w S vs h1 hk h2 h3).mono fun _ _ ⟨r,v,g1,g2,g3,g4⟩=>⟨r,v,g1,g2,g3,by
   simp only [iK,if_true] at g4;obtain ⟨fs,hO,_,hge⟩:=g4;simp only [iK,uq4,if_false]
   exact hO.l9 (fun _ h=>h.elim) fun b hb=>.inr ⟨hge b hb,hO.lt b hb⟩⟩⟩
structure HU (w w':World) (b' c' n i:Nat) (I4:Nat->Value) (x:Value):Prop where
 lt:b'<w'.heap.size
 room:n+1<=c'
 max:c'<=maxLen
 row:∃(cs':aV) (e':El),w'.heap[b']? =some (eo cs' e')/\cs'.size=c'/\∀p,p<n+1->cs'.toList.getD p Go.undef=if p<i then I4 p else if p=i then x else I4 (p-1)
 Zt:∀c:Nat,c≠b'->c<w.heap.size->w'.heap[c]? =w.heap[c]?
 YT:w.heap.size<=w'.heap.size
 out:a8 w w'
structure XJ (P:Program) (f:FuncId):Prop where
 enters:Enters P f
 at_:∀(w:World) (b vb c vc i n:Nat) (cs cv:aV) (e:El) (ev:TypeId) (x:Value),w.heap[b]? =some (eo cs e)->cs.size=c->n<=c->i<=n->n+1<=1073741824->c<=maxLen->vb≠b->w.heap[vb]? =some (.cells cv ev (0,0))->cv[0]? =some x->x.oneCell'=true→
  (∀v,v∈cs.toList.take n->v.oneCell'=true)->0<n→
  Calls P f #[.slice (some ⟨b,0,none⟩) n c,.int .i64 i,.slice (some ⟨vb,0,none⟩) 1 vc] w fun e' w'=>∃b' c',e'= .returned (.slice (some ⟨b',0,none⟩) (n+1) c')/\HU w w' b' c' n i (fun p=>cs.toList.getD p Go.undef) x/\(b'=b/\c'=c\/b'=w.heap.size)
 Za:∀(w:World) (ad:Option Addr) (vb c vc:Nat) (cv:aV) (ev:TypeId) (x:Value),w.heap[vb]? =some (.cells cv ev (0,0))->cv[0]? =some x->x.oneCell'=true->c=0→
  Calls P f #[.slice ad 0 c,.int .i64 0,.slice (some ⟨vb,0,none⟩) 1 vc] w fun e' w'=>∃b' c',e'= .returned (.slice (some ⟨b',0,none⟩) 1 c')/\HU w w' b' c' 0 0 (fun _=>Go.undef) x/\b'=w.heap.size
 YU:∀(w:World) (b vb c vc:Nat) (cs cv:aV) (e:El) (ev:TypeId) (x:Value),w.heap[b]? =some (eo cs e)->cs.size=c->1<=c->c<=maxLen->vb≠b->w.heap[vb]? =some (.cells cv ev (0,0))->cv[0]? =some x->x.oneCell'=true→
  Calls P f #[.slice (some ⟨b,0,none⟩) 0 c,.int .i64 0,.slice (some ⟨vb,0,none⟩) 1 vc] w fun e' w'=>∃b' c',e'= .returned (.slice (some ⟨b',0,none⟩) 1 c')/\HU w w' b' c' 0 0 (fun _=>Go.undef) x/\(b'=b/\c'=c)
theorem HV {n j:Nat} (h:j<n):(cq (n-j)).map (· +j)=j::(cq (n-(j+1))).map (· +(j+1)):=by rw [show n-j=(n-(j+1))+1 by omega,List.range_succ_eq_map];simp [List.map_map,Function.comp_def];intro q hq;omega
theorem rW {ops:List Oper} {n:Nat} (hok:jH N ops=true) (dA:((ops.take n).all fun o=>o.guard.isNone)=true) (hn:n<=ops.length) {Q:Exit->Act->World->Prop} {K:St}
 (hQ:∀φ fp S ts m a w,RS B N φ fp S ts m a w->K ts m->wpOps P ops.toArray Q ((cq (ops.length-n)).map (· +n)) a w):
 ∀(l:List Oper) (i:Nat),(ops.take n).drop i=l->i<=n->∀(φ:Nat->LS) (fp:Nat->lN) (S:Nat->Prop) (ts:Env) (m:Mem) (a:Act) (w:World),RS B N φ fp S ts m a w->sL P ops l ts m K→
  wpOps P ops.toArray Q ((cq (ops.length-i)).map (· +i)) a w
 | [],i,hl,hin,φ,fp,S,ts,m,a,w,h,hk=>by
   have:i=n:=by have:=congrArg List.length hl;simp at this;omega
   subst this;exact hQ φ fp S ts m a w h hk
 |o::r,i,hl,hin,φ,fp,S,ts,m,a,w,h,hk=>by
  have hi':i<n:=by have:=congrArg List.length hl;simp at this;omega
  have hi:i<ops.length:=by omega
  have VY:(ops.take n)[i]? =some o:=by have:=congrArg (·[0]?) hl;simpa using this
  have hoi:ops[i]? =some o:=by rw [List.getElem?_take,if_pos hi'] at VY;exact VY
  have hg:o.guard=none:=by have:=uq5.1 dA o (cj VY);simpa using this
  have hr:(ops.take n).drop (i+1)=r:=by have:=congrArg List.tail hl;simpa using this
  rw [HV hi];have hoo:ops.toArray[i]? =some o:=by simpa using hoi
  simp only [wpOps,hoo];have hdo:∀d,o.dst=some d->d<N:=by intro d hd;have:=uq5.1 hok o (cj hoi);rw [hd] at this;simpa using this
  simp only [sL,hg] at hk;simp only [Region.wanted,hg,if_true];refine .inl (gb h hk fun v w' hgv=> ?_);obtain ⟨φ',fp',S',ts',m',h1,h2⟩:=step_done (o:=o) (K:=fun ts m=>sL P ops r ts m K) hdo hgv (fun x m' h=>h);exact rW hok dA hn hQ r (i+1) hr (by omega) φ' fp' S' ts' m' _ w' h1 h2
end
def xM (ops:List Oper) (n:Nat):Bool:=uD ops&&(cq ops.length).all fun j=>decide (j<n)||(cq j).all fun i=>((xA ops []).getD j []).contains i
section
variable {P:Program} {B:eE} {N:Nat} {φ:Nat->LS} {fp:Nat->lN} {S:Nat->Prop} {ts:Env} {m:Mem} {a:Act} {w:World}
variable {os:Nat->Oper} {qs:Nat->Rec} {D D':Nat->Bool} {ops:List Oper} {tr:List (lN × lN)}
theorem E9 {n:Nat} (h:xM ops n=true) (hD:ic ops D) {j:Nat} (hj:j<ops.length) (hn:n<=j) (hd:D j=true):∀i,i<j->D i=true:=by
 intro i hi;simp only [xM,uq3,uq5,c7,Bool.or_eq_true,decide_eq_true_eq,List.contains_eq_mem] at h;rcases h.2 j hj with h1|h1
 . omega
 exact jy hD ops [] rfl (fun j x hx=>by simp at hx) j i (h1 i hi) hd
theorem CJ {n:Nat} (h:xM ops n=true):∀i o,ops[i]? =some o->∀p,p∈iw o->p<i:=by intro i o ho p hp;simp only [xM,uD,uq3,uq5,c7] at h;have:=h.1 i (uq8.1 ho).1;rw [ho] at this;simpa using uq5.1 this p hp
def XK (ops:List Oper) (k:Nat) (listed:Array Bool):Prop:=listed.size=ops.length/\∀i,i<ops.length->listed.getD i false=decide (i<k)
theorem HW {n:Nat} (hs:xM ops n=true) (hok:jH N ops=true) (hgs:de N ops=true) {Q:Exit->Act->World->Prop} {K:St} (hQ:∀a w,hZ B N K a w->Q .normal a w):
 ∀(c k fuel:Nat) (listed:Array Bool) (φ:Nat->LS) (fp:Nat->lN) (S:Nat->Prop) (ts:Env) (m:Mem) (a:Act) (w:World),c=ops.length-k->n<=k->k<=ops.length->XK ops k listed->ops.length-k<=fuel→
  RS B N φ fp S ts m a w->sL P ops (ops.drop k) ts m K->wpAny P .any ops.toArray Q fuel listed a w:=by
 intro c;induction c with
 |zero=>
  intro k fuel listed φ fp S ts m a w hc hnk hk hu hf h hsl;have hkl:k=ops.length:=by omega
  subst hkl;rw [List.drop_length] at hsl;have cA:Q .normal a w:=hQ a w ⟨φ,fp,S,ts,m,h,hsl⟩;have hr:Region.ready .any ops.toArray listed=[]:=by
   cases hr:Region.ready .any ops.toArray listed with
   |nil=>rfl
   |cons j r=>
    have hj:j∈Region.ready .any ops.toArray listed:=by rw [hr];exact bu ..
    obtain ⟨h0,o,ho,_⟩:=mem_ready.1 hj;have hjn:j<ops.length:=by simpa using (uq1.1 ho).1
    have:=hu.2 j hjn;rw [getD_both h0] at this;simp at this;omega
  cases fuel with
  |zero=>exact ⟨hr,cA⟩
  |succ fuel=>exact ⟨fun _=>cA,fun i hi=>by rw [hr] at hi;cases hi⟩
 |succ c ih=>
  intro k fuel listed φ fp S ts m a w hc hnk hk hu hf h hsl;have hkl:k<ops.length:=by omega
  have l6:ops[k]? =some ops[k]:=uq7 hkl;rw [List.drop_eq_getElem_cons hkl] at hsl;generalize ops[k]=o at l6 hsl;obtain ⟨fuel,rfl⟩:∃f,fuel=f+1:=⟨fuel-1,by omega⟩;have Di:ic ops (fun i=>listed.getD i false):=by intro j oj hoj hdj i hi;have hjn:=(uq8.1 hoj).1;have h1:=hu.2 j hjn;have h2:=CJ hs j oj hoj i hi;have h3:=hu.2 i (by omega);simp only at hdj ⊢;rw [h1] at hdj;rw [h3];simp at hdj ⊢;omega
  have y1:k∈Region.ready .any ops.toArray listed:=by
   refine mem_ready.2 ⟨?_,o,by simpa using l6,fun e he hb=> ?_⟩
   . have h5:listed.getD k false=false:=by rw [hu.2 k hkl];exact dF (Nat.lt_irrefl k)
     exact getD_in (by rw [hu.1];exact hkl) h5
   have hp:e.on∈iw o:=bf.2 ⟨e,cF.2 ⟨by simpa using he,hb⟩,rfl⟩;have hlt:=CJ hs k o l6 _ hp;rw [hu.2 e.on (by omega)];simpa using hlt
  refine ⟨fun hr=>(by rw [hr] at y1;exact absurd y1 List.not_mem_nil),fun j hj=> ?_⟩;obtain ⟨h0,oj,hoj,dA⟩:=mem_ready.1 hj;have hdj:listed.getD j false=false:=getD_both h0;have tE:ops[j]? =some oj:=by simpa using hoj
  have hjn:j<ops.length:=(uq8.1 tE).1;have hjk:k<=j:=by have:=hu.2 j hjn;rw [hdj] at this;simp at this;omega
  have hp:∀i,i∈iw oj->listed.getD i false=true:=by intro i hi;obtain ⟨e,he,rfl⟩:=bf.1 hi;obtain ⟨he1,he2⟩:=cF.1 he;exact dA e (by simpa using he1) he2
  have e:j=k:=by
   rcases Nat.lt_or_ge k j with hlt|hge
   . have Qs:=Di.add tE hp;have:=E9 hs Qs hjn (by omega) (by simp [iR]) k hlt;simp only [iR,hu.2 k hkl,Bool.or_eq_true,beq_iff_eq] at this;simp at this;omega
   omega
  subst e;rw [l6] at tE;injection tE with tE
  subst tE;have hup:XK ops (j+1) (listed.setIfInBounds j true):=by
   refine ⟨by simp [hu.1],fun i hi=> ?_⟩;by_cases e:i=j
   . subst e;simp [hu.1,hi]
   rw [getD_set_ne false (Ne.symm e),hu.2 i hi];simp;omega
  have hdo:∀d,o.dst=some d->d<N:=by intro d hd;have:=uq5.1 hok o (cj l6);rw [hd] at this;simpa using this
  have next:∀a' w',hZ B N (fun ts m=>sL P ops (ops.drop (j+1)) ts m K) a' w'->wpAny P .any ops.toArray Q fuel (listed.setIfInBounds j true) a' w':=by rintro a' w' ⟨φ',fp',S',ts',m',h',hk'⟩;exact ih (j+1) fuel _ φ' fp' S' ts' m' a' w' (by omega) (by omega) (by omega) hup (by omega) h' hk'
  unfold wpOp;have hoA:ops.toArray[j]? =some o:=by simpa using l6
  simp only [hoA];simp only [sL] at hsl;cases hg:o.guard with
  |none=>
   rw [hg] at hsl;rw [ct h hgs l6 (show cM ops o ts=some true by simp [cM,hg])];simp only [if_true];exact .inl (gb h hsl fun v w' hgv=>next _ _ (step_done hdo hgv fun x m' hx=>hx))
  |some jw=>
   obtain ⟨g,want⟩:=jw;rw [hg] at hsl;simp only at hsl;unfold gg at hsl;split at hsl
   . rename_i c hy;by_cases hcw:c=want
     . subst hcw;rw [ct h hgs l6 (show cM ops o ts=some true by simp [cM,hg,hy])];simp only [if_true];exact .inl (gb h (hsl.1 rfl) fun v w' hgv=>next _ _ (step_done hdo hgv fun x m' hx=>hx))
     rw [ct h hgs l6 (show cM ops o ts=some false by simp [cM,hg,hy,hcw])];simp only [uq4,if_false];have hk2:=hsl.2 hcw;refine next _ _ (step_done (k:=fun x m'=>x= .aX []/\m'=m) hdo (h.gives (x:=.aX []) (.rd _ _ (.aX [] #[] rfl fun i hi=>absurd hi (du _))) (fun _ _ hl=>by cases hl) ⟨rfl,rfl,rfl⟩) fun x m' ⟨h1,h2⟩=> ?_)
     rw [h1,h2];exact hk2
   . rename_i hy;rw [ct h hgs l6 (show cM ops o ts=some false by simp [cM,hg,hy])];simp only [uq4,if_false];refine next _ _ (step_done (k:=fun x m'=>x= .aX []/\m'=m) hdo (h.gives (x:=.aX []) (.rd _ _ (.aX [] #[] rfl fun i hi=>absurd hi (du _))) (fun _ _ hl=>by cases hl) ⟨rfl,rfl,rfl⟩) fun x m' ⟨h1,h2⟩=> ?_)
     rw [h1,h2];exact hsl
   exact hsl.elim
theorem xN {f:Nat->Bool} {n:Nat}:∀N,(∀i,n<=i->i<N->f i=true)->N-n<=(cq N).countP f
 |0,_=>by omega
 |N+1,h=>by
  rw [bO,List.countP_append];have:=xN (f:=f) (n:=n) N fun i h1 h2=>h i h1 (by omega);by_cases e:n<=N
  . have h1:=h N e (by omega);have h2:List.countP f [N]=1:=by simp [h1]
    omega
  omega
theorem kM {n i:Nat} (h:i<n):(ops.take n)[i]? =ops[i]? :=by rw [List.getElem?_take];simp [h]
def HX (n:Nat) (ops:List Oper):Bool:=(ops.take n).all fun o=>match o.guard with|some (j,_)=>decide (j<n)|none=>true
theorem xO {n j:Nat} {o:Oper} (hg:HX n ops=true) (ho:(ops.take n)[j]? =some o) (ts:Env):cM (ops.take n) o ts=cM ops o ts:=by
 have:=uq5.1 hg o (cj ho);unfold cM;cases hg:o.guard with
 |none=>rfl
 |some iv=>
  obtain ⟨i,v⟩:=iv;rw [hg] at this;simp only [decide_eq_true_eq] at this;simp only [jG];rw [kM this]
theorem HY {n:Nat} (hn:n<=ops.length) (hs:xM ops n=true) (hgl:HX n ops=true) {ts0:Env} {m0:Mem} (hR:Sc P 0 (ops.take n) os qs tr ts0 m0) (hB:mz (ops.take n) tr=true) (hok:jH N ops=true) (hgs:de N ops=true) {Q:Exit->Act->World->Prop} {K:St}
 (hK:sL P ops (ops.drop n) (dv os qs (fun _=>true) ts0 m0 n).1 (dv os qs (fun _=>true) ts0 m0 n).2 K) (hQ:∀a w,hZ B N K a w->Q .normal a w):
 ∀(fuel:Nat) (listed:Array Bool) (φ:Nat->LS) (fp:Nat->lN) (S:Nat->Prop) (a:Act) (w:World),listed.size=ops.length->ic ops (fun i=>listed.getD i false)->(∀i,n<=i->listed.getD i false=false)->Cv ops.length listed<=fuel→
  RS B N φ fp S (dv os qs (fun i=>listed.getD i false) ts0 m0 n).1 (dv os qs (fun i=>listed.getD i false) ts0 m0 n).2 a w->wpAny P .any ops.toArray Q fuel listed a w:=by
 have hlen:(ops.take n).length=n:=by simp;omega
 have qh:=CJ hs
 have full:∀(fuel:Nat) (listed:Array Bool) (φ:Nat->LS) (fp:Nat->lN) (S:Nat->Prop) (a:Act) (w:World),listed.size=ops.length->(∀i,n<=i->listed.getD i false=false)->Cv ops.length listed<=fuel→
  (∀i,i<n->listed.getD i false=true)->RS B N φ fp S (dv os qs (fun i=>listed.getD i false) ts0 m0 n).1 (dv os qs (fun i=>listed.getD i false) ts0 m0 n).2 a w->wpAny P .any ops.toArray Q fuel listed a w:=by
  intro fuel listed φ fp S a w hsz hlo hf cR h;have e:dv os qs (fun i=>listed.getD i false) ts0 m0 n=dv os qs (fun _=>true) ts0 m0 n:=kJ n (aP _) fun q hq=>cR q hq;rw [e] at h;refine HW hs hok hgs hQ _ n fuel listed φ fp S _ _ a w rfl (aP _) hn ⟨hsz,fun i _=> ?_⟩ ?_ h hK
  . by_cases hi:i<n
    . rw [cR i hi];simp [hi]
    rw [hlo i (by omega)];simp [hi]
  refine aO (xN _ fun i h1 _=> ?_) hf;rw [hlo i h1];rfl
 intro fuel;induction fuel with
 |zero=>
  intro listed φ fp S a w hsz hc hlo hf h;refine full 0 listed φ fp S a w hsz hlo hf (fun i hi=> ?_) h;cases hl:listed.getD i false with
  |true=>rfl
  |false=>
   have h0:Cv ops.length listed=0:=Nat.le_zero.1 hf;have:=List.countP_eq_zero.1 h0 i (c7.2 (by omega));rw [hl] at this;exact absurd rfl this
 |succ fuel ih=>
  intro listed φ fp S a w hsz hc hlo hf h;by_cases cR:∀i,i<n->listed.getD i false=true
  . exact full _ listed φ fp S a w hsz hlo hf cR h
  obtain ⟨i0,hi0⟩:=Classical.not_forall.1 cR;obtain ⟨Xr,hi0⟩:=Classical.not_imp.1 hi0;have hi0:listed.getD i0 false=false:=by simpa using hi0
  refine ⟨fun hr=> ?_,fun j hj=> ?_⟩
  . exfalso;have:∀i,i<ops.length->listed.getD i false=true:=by
     intro i;induction i using Nat.strongRecOn with
     |ind i ih=>
      intro hi;cases hl:listed.getD i false with
      |true=>rfl
      |false=>
       have ho:ops[i]? =some ops[i]:=uq7 hi
       have:i∈Region.ready .any ops.toArray listed:=mem_ready.2 ⟨getD_in (by omega) hl,ops[i],by simpa using ho,fun e he hb=>by
        have hp:e.on∈iw ops[i]:=bf.2 ⟨e,cF.2 ⟨by simpa using he,hb⟩,rfl⟩;have hlt:=qh i _ ho _ hp
        exact ih e.on hlt (by omega)⟩
       rw [hr] at this;cases this
    rw [this i0 (by omega)] at hi0;cases hi0
  obtain ⟨h0,o,ho,dA⟩:=mem_ready.1 hj;have hdj:listed.getD j false=false:=getD_both h0;have ho':ops[j]? =some o:=by simpa using ho
  have hjn:j<ops.length:=(uq8.1 ho').1;have hp:∀i,i∈iw o->listed.getD i false=true:=by intro i hi;obtain ⟨e,he,rfl⟩:=bf.1 hi;obtain ⟨he1,he2⟩:=cF.1 he;exact dA e (by simpa using he1) he2
  have VZ:j<n:=by
   rcases Nat.lt_or_ge j n with hlt|hge
   . exact hlt
   have:=E9 hs (hc.add ho' hp) hjn hge (by simp [iR]) i0 (by omega);simp only [iR,hi0,Bool.false_or,beq_iff_eq] at this;omega
  have hot:(ops.take n)[j]? =some o:=(kM VZ).trans ho';have hct:ic (ops.take n) (fun i=>listed.getD i false):=fun k ok hk=>by have hkn:=(uq8.1 hk).1;rw [hlen] at hkn;exact hc k ok ((kM hkn).symm.trans hk)
  obtain ⟨⟨rd,hya⟩,hlk,hlb⟩:=hR.U3 (D:=fun i=>listed.getD i false) hB hct (fun i hi=>by
   rw [hlen];rcases Nat.lt_or_ge i n with h'|h'
   . exact h'
   rw [hlo i h'] at hi;cases hi) (fun i hi=>absurd hi (du _)) hot hdj hp
  rw [hlen] at hya hlk hlb;have hD':(fun i=>(listed.setIfInBounds j true).getD i false)=iR (fun i=>listed.getD i false) j:=by
   funext i;by_cases e:i=j
   . subst e;simp [iR,hsz,hjn]
   have e2:(i==j)=false:=by simpa using e
   rw [getD_set_ne false (Ne.symm e)];simp [iR,e2]
  have hf':Cv ops.length (listed.setIfInBounds j true)<=fuel:=by
   have:Cv ops.length (listed.setIfInBounds j true)<Cv ops.length listed:=by
    refine pt _ j (c7.2 hjn) (by simp only [hdj];rfl) (by simp [hsz,hjn]) fun i hi=> ?_;by_cases e:i=j
    . subst e;rw [hdj];rfl
    rw [getD_set_ne false (Ne.symm e)] at hi;exact hi
   omega
  have next:∀a' w',hZ B N (fun ts m=>ts=mn o.dst (qs j).x (dv os qs (fun i=>listed.getD i false) ts0 m0 n).1/\m=(qs j).new++(dv os qs (fun i=>listed.getD i false) ts0 m0 n).2) a' w'→
   wpAny P .any ops.toArray Q fuel (listed.setIfInBounds j true) a' w':=by
   rintro a' w' ⟨φ',fp',S',ts',m',h',rfl,rfl⟩;refine ih _ φ' fp' S' a' w' (by simp [hsz]) (by rw [hD'];exact hc.add ho' hp) (fun i hi=> ?_) hf' ?_
   . rw [getD_set_ne false (by omega)];exact hlo i hi
   rw [hD'];exact h'.ext hlk hlb
  have hdo:∀d,o.dst=some d->d<N:=by intro d hd;have:=uq5.1 hok o (cj ho');rw [hd] at this;simpa using this
  have hwt:=xO hgl hot;unfold wpOp;simp only [ho];rcases hya with ⟨hw,_,cJ⟩|⟨hw,hx,il⟩
  . rw [hwt] at hw;rw [ct h hgs ho' hw];simp only [if_true];refine .inl (gb h (xy (cJ _ (fun _ _=>rfl) (fun _ _=>rfl) (fun x m'=>x=(qs j).x/\m'=(qs j).new++(dv os qs (fun i=>listed.getD i false) ts0 m0 n).2) ⟨rfl,rfl⟩)) fun v w' hg=> ?_);exact next _ _ (step_done hdo hg fun x m' ⟨h1,h2⟩=>⟨by rw [h1],h2⟩)
  rw [hwt] at hw;rw [ct h hgs ho' hw];simp only [uq4,if_false];refine next _ _ (step_done (k:=fun x m'=>x= .aX []/\m'=(dv os qs (fun i=>listed.getD i false) ts0 m0 n).2) hdo (h.gives (x:=.aX []) (.rd _ _ (.aX [] #[] rfl fun i hi=>absurd hi (du _))) (fun _ _ hl=>by cases hl) ⟨rfl,rfl,rfl⟩) fun x m' ⟨h1,h2⟩=>⟨by rw [h1,hx],by rw [h2,il];rfl⟩)
end
theorem aj.k9 (n:Nat) {P:Program} {N i:Nat} {ops:List Oper} {ts:Env} {m:Mem} {Q:dc} {q:Pack (Code.region i ⟨ops⟩ true,Q)} (hm:P.follows .mixedOrders=true) (hok:(jH N ops&&de N ops&&(HX n ops&&(xM ops n&&decide (n<=ops.length))))=true)
 (h:sD P (ops.take n) (ops.take n) ts m [] fun ts' m'=>sL P ops (ops.drop n) ts' m' (Q .normal)):aj P N (.region i ⟨ops⟩ true) ts m Q q:=by
 refine ⟨fun B φ fp S a w hRS=> ?_⟩;simp only [uq3,decide_eq_true_eq] at hok;have hlen:(ops.take n).length=n:=by simp;omega
 obtain ⟨qs,tr,hR,hB,hK,_⟩:=xB (os:=fun i=>(ops[i]?).getD default) (ts0:=ts) (m0:=m) (sk:=0) (fun i o _ ho=>by
  have hi:=(uq8.1 ho).1;rw [hlen] at hi;rw [kM hi] at ho
  simp [ho]) (ops.take n) 0 (fun _=>⟨.undef,[]⟩) [] ts m rfl (aP _) (Nat.zero_le _) rfl rfl (fun i o _ hi=>absurd hi (du _)) h
 rw [hlen] at hK;refine wp_region_any hm ?_;refine HY (B:=B) (N:=N) hok.2.2.2 hok.2.2.1 hok.2.1 hR hB hok.1.1 hok.1.2 hK (fun a w hd=>hd) _ _ φ fp S a _ (by simp) ?_ ?_ ?_ ?_
 . intro j o _ hd;have hd:(uq2 (bd ops).size false).getD j false=true:=hd;rw [getD_replicate_false] at hd;cases hd
 . exact fun i _=>getD_replicate_false _ _
 . exact aO List.countP_le_length (by simp)
 have e:(fun i=>(uq2 (bd ops).size false).getD i false)=fun _=>false:=funext fun i=>getD_replicate_false _ _;have e2:=my (os:=fun i=>(ops[i]?).getD default) (qs:=qs) (D:=fun _=>false) (ts:=ts) (m:=m) (j:=0) (fun _ _=>rfl) n (Nat.zero_le _);show RS B N φ fp S (dv _ qs (fun i=>(uq2 (bd ops).size false).getD i false) ts m n).1 (dv _ qs (fun i=>(uq2 (bd ops).size false).getD i false) ts m n).2 a {w with drawn:=w.drawn+1};rw [e,e2];exact hRS.qT rfl ⟨rfl,rfl,rfl⟩
def nR (ops:List Oper) (n:Nat):Bool:=uD ops&&(cq ops.length).all fun j=>decide (j<n)||(cq n).all fun i=>((xA ops []).getD j []).contains i
section
variable {P:Program} {B:eE} {N:Nat} {φ:Nat->LS} {fp:Nat->lN} {S:Nat->Prop} {ts:Env} {m:Mem} {a:Act} {w:World}
variable {os:Nat->Oper} {qs:Nat->Rec} {D D':Nat->Bool} {ops:List Oper} {tr:List (lN × lN)}
theorem Fa {n:Nat} (h:nR ops n=true) (hD:ic ops D) {j:Nat} (hj:j<ops.length) (hn:n<=j) (hd:D j=true):∀i,i<n->D i=true:=by
 intro i hi;simp only [nR,uq3,uq5,c7,Bool.or_eq_true,decide_eq_true_eq,List.contains_eq_mem] at h;rcases h.2 j hj with h1|h1
 . omega
 exact jy hD ops [] rfl (fun j x hx=>by simp at hx) j i (h1 i hi) hd
theorem sR {n:Nat} (h:nR ops n=true):∀i o,ops[i]? =some o->∀p,p∈iw o->p<i:=by intro i o ho p hp;simp only [nR,uD,uq3,uq5,c7] at h;have:=h.1 i (uq8.1 ho).1;rw [ho] at this;simpa using uq5.1 this p hp
theorem LF {n:Nat} (hn:n<=ops.length) (hs:nR ops n=true) (hgl:HX n ops=true) {ts0:Env} {m0:Mem} (hR:Sc P 0 (ops.take n) os qs tr ts0 m0) (hB:mz (ops.take n) tr=true) (hok:jH N ops=true) (hgs:de N ops=true)
 {Q:Exit->Act->World->Prop} {KN:St} (hK:KN (dv os qs (fun _=>true) ts0 m0 n).1 (dv os qs (fun _=>true) ts0 m0 n).2)
 (Xs:∀(fuel:Nat) (listed:Array Bool) (φ:Nat->LS) (fp:Nat->lN) (S:Nat->Prop) (ts:Env) (m:Mem) (a:Act) (w:World),XK ops n listed->ops.length-n<=fuel->RS B N φ fp S ts m a w->KN ts m->wpAny P .any ops.toArray Q fuel listed a w):
 ∀(fuel:Nat) (listed:Array Bool) (φ:Nat->LS) (fp:Nat->lN) (S:Nat->Prop) (a:Act) (w:World),listed.size=ops.length->ic ops (fun i=>listed.getD i false)->(∀i,n<=i->listed.getD i false=false)->Cv ops.length listed<=fuel→
  RS B N φ fp S (dv os qs (fun i=>listed.getD i false) ts0 m0 n).1 (dv os qs (fun i=>listed.getD i false) ts0 m0 n).2 a w->wpAny P .any ops.toArray Q fuel listed a w:=by
 have hlen:(ops.take n).length=n:=by simp;omega
 have qh:=sR hs
 have full:∀(fuel:Nat) (listed:Array Bool) (φ:Nat->LS) (fp:Nat->lN) (S:Nat->Prop) (a:Act) (w:World),listed.size=ops.length->(∀i,n<=i->listed.getD i false=false)->Cv ops.length listed<=fuel→
  (∀i,i<n->listed.getD i false=true)->RS B N φ fp S (dv os qs (fun i=>listed.getD i false) ts0 m0 n).1 (dv os qs (fun i=>listed.getD i false) ts0 m0 n).2 a w->wpAny P .any ops.toArray Q fuel listed a w:=by
  intro fuel listed φ fp S a w hsz hlo hf cR h;have e:dv os qs (fun i=>listed.getD i false) ts0 m0 n=dv os qs (fun _=>true) ts0 m0 n:=kJ n (aP _) fun q hq=>cR q hq;rw [e] at h;refine Xs fuel listed φ fp S _ _ a w ⟨hsz,fun i _=> ?_⟩ ?_ h hK
  . by_cases hi:i<n
    . rw [cR i hi];simp [hi]
    rw [hlo i (by omega)];simp [hi]
  refine aO (xN _ fun i h1 _=> ?_) hf;rw [hlo i h1];rfl
 intro fuel;induction fuel with
 |zero=>
  intro listed φ fp S a w hsz hc hlo hf h;refine full 0 listed φ fp S a w hsz hlo hf (fun i hi=> ?_) h;cases hl:listed.getD i false with
  |true=>rfl
  |false=>
   have h0:Cv ops.length listed=0:=Nat.le_zero.1 hf;have:=List.countP_eq_zero.1 h0 i (c7.2 (by omega));rw [hl] at this;exact absurd rfl this
 |succ fuel ih=>
  intro listed φ fp S a w hsz hc hlo hf h;by_cases cR:∀i,i<n->listed.getD i false=true
  . exact full _ listed φ fp S a w hsz hlo hf cR h
  obtain ⟨i0,hi0⟩:=Classical.not_forall.1 cR;obtain ⟨Xr,hi0⟩:=Classical.not_imp.1 hi0;have hi0:listed.getD i0 false=false:=by simpa using hi0
  refine ⟨fun hr=> ?_,fun j hj=> ?_⟩
  . exfalso;have:∀i,i<ops.length->listed.getD i false=true:=by
     intro i;induction i using Nat.strongRecOn with
     |ind i ih=>
      intro hi;cases hl:listed.getD i false with
      |true=>rfl
      |false=>
       have ho:ops[i]? =some ops[i]:=uq7 hi
       have:i∈Region.ready .any ops.toArray listed:=mem_ready.2 ⟨getD_in (by omega) hl,ops[i],by simpa using ho,fun e he hb=>by
        have hp:e.on∈iw ops[i]:=bf.2 ⟨e,cF.2 ⟨by simpa using he,hb⟩,rfl⟩;have hlt:=qh i _ ho _ hp
        exact ih e.on hlt (by omega)⟩
       rw [hr] at this;cases this
    rw [this i0 (by omega)] at hi0;cases hi0
  obtain ⟨h0,o,ho,dA⟩:=mem_ready.1 hj;have hdj:listed.getD j false=false:=getD_both h0;have ho':ops[j]? =some o:=by simpa using ho
  have hjn:j<ops.length:=(uq8.1 ho').1;have hp:∀i,i∈iw o->listed.getD i false=true:=by intro i hi;obtain ⟨e,he,rfl⟩:=bf.1 hi;obtain ⟨he1,he2⟩:=cF.1 he;exact dA e (by simpa using he1) he2
  have VZ:j<n:=by
   rcases Nat.lt_or_ge j n with hlt|hge
   . exact hlt
   have:=Fa hs (hc.add ho' hp) hjn hge (by simp [iR]) i0 Xr;simp only [iR,hi0,Bool.false_or,beq_iff_eq] at this;omega
  have hot:(ops.take n)[j]? =some o:=(kM VZ).trans ho';have hct:ic (ops.take n) (fun i=>listed.getD i false):=fun k ok hk=>by have hkn:=(uq8.1 hk).1;rw [hlen] at hkn;exact hc k ok ((kM hkn).symm.trans hk)
  obtain ⟨⟨rd,hya⟩,hlk,hlb⟩:=hR.U3 (D:=fun i=>listed.getD i false) hB hct (fun i hi=>by
   rw [hlen];rcases Nat.lt_or_ge i n with h'|h'
   . exact h'
   rw [hlo i h'] at hi;cases hi) (fun i hi=>absurd hi (du _)) hot hdj hp
  rw [hlen] at hya hlk hlb;have hD':(fun i=>(listed.setIfInBounds j true).getD i false)=iR (fun i=>listed.getD i false) j:=by
   funext i;by_cases e:i=j
   . subst e;simp [iR,hsz,hjn]
   have e2:(i==j)=false:=by simpa using e
   rw [getD_set_ne false (Ne.symm e)];simp [iR,e2]
  have hf':Cv ops.length (listed.setIfInBounds j true)<=fuel:=by
   have:Cv ops.length (listed.setIfInBounds j true)<Cv ops.length listed:=by
    refine pt _ j (c7.2 hjn) (by simp only [hdj];rfl) (by simp [hsz,hjn]) fun i hi=> ?_;by_cases e:i=j
    . subst e;rw [hdj];rfl
    rw [getD_set_ne false (Ne.symm e)] at hi;exact hi
   omega
  have next:∀a' w',hZ B N (fun ts m=>ts=mn o.dst (qs j).x (dv os qs (fun i=>listed.getD i false) ts0 m0 n).1/\m=(qs j).new++(dv os qs (fun i=>listed.getD i false) ts0 m0 n).2) a' w'→
   wpAny P .any ops.toArray Q fuel (listed.setIfInBounds j true) a' w':=by
   rintro a' w' ⟨φ',fp',S',ts',m',h',rfl,rfl⟩;refine ih _ φ' fp' S' a' w' (by simp [hsz]) (by rw [hD'];exact hc.add ho' hp) (fun i hi=> ?_) hf' ?_
   . rw [getD_set_ne false (by omega)];exact hlo i hi
   rw [hD'];exact h'.ext hlk hlb
  have hdo:∀d,o.dst=some d->d<N:=by intro d hd;have:=uq5.1 hok o (cj ho');rw [hd] at this;simpa using this
  have hwt:=xO hgl hot;unfold wpOp;simp only [ho];rcases hya with ⟨hw,_,cJ⟩|⟨hw,hx,il⟩
  . rw [hwt] at hw;rw [ct h hgs ho' hw];simp only [if_true];refine .inl (gb h (xy (cJ _ (fun _ _=>rfl) (fun _ _=>rfl) (fun x m'=>x=(qs j).x/\m'=(qs j).new++(dv os qs (fun i=>listed.getD i false) ts0 m0 n).2) ⟨rfl,rfl⟩)) fun v w' hg=> ?_);exact next _ _ (step_done hdo hg fun x m' ⟨h1,h2⟩=>⟨by rw [h1],h2⟩)
  rw [hwt] at hw;rw [ct h hgs ho' hw];simp only [uq4,if_false];refine next _ _ (step_done (k:=fun x m'=>x= .aX []/\m'=(dv os qs (fun i=>listed.getD i false) ts0 m0 n).2) hdo (h.gives (x:=.aX []) (.rd _ _ (.aX [] #[] rfl fun i hi=>absurd hi (du _))) (fun _ _ hl=>by cases hl) ⟨rfl,rfl,rfl⟩) fun x m' ⟨h1,h2⟩=>⟨by rw [h1,hx],by rw [h2,il];rfl⟩)
theorem LG {n:Nat} (hw:nR ops (n+1)=true) (hok:jH N ops=true) (hgs:de N ops=true) {o:Oper} (hon:ops[n]? =some o) {KC:St} {Q:Exit->Act->World->Prop} {fuel:Nat} {listed:Array Bool}
 (hu:XK ops n listed) (h:RS B N φ fp S ts m a w) (hsl:sL P ops [o] ts m KC)
 (Xt:∀(φ:Nat->LS) (fp:Nat->lN) (S:Nat->Prop) (ts:Env) (m:Mem) (a:Act) (w:World),RS B N φ fp S ts m a w->KC ts m->wpAny P .any ops.toArray Q fuel (listed.setIfInBounds n true) a w):
 wpAny P .any ops.toArray Q (fuel+1) listed a w:=by
 have hnl:n<ops.length:=(uq8.1 hon).1;have qh:=sR hw;have Di:ic ops (fun i=>listed.getD i false):=by intro j oj hoj hdj i hi;have hjn:=(uq8.1 hoj).1;have h1:=hu.2 j hjn;have h2:=qh j oj hoj i hi;have h3:=hu.2 i (by omega);simp only at hdj ⊢;rw [h1] at hdj;rw [h3];simp at hdj ⊢;omega
 have y1:n∈Region.ready .any ops.toArray listed:=by
  refine mem_ready.2 ⟨?_,o,by simpa using hon,fun e he hb=> ?_⟩
  . have h5:listed.getD n false=false:=by rw [hu.2 n hnl];exact dF (Nat.lt_irrefl n)
    exact getD_in (by rw [hu.1];exact hnl) h5
  have hp:e.on∈iw o:=bf.2 ⟨e,cF.2 ⟨by simpa using he,hb⟩,rfl⟩;have hlt:=qh n o hon _ hp;rw [hu.2 e.on (by omega)];simpa using hlt
 refine ⟨fun hr=>(by rw [hr] at y1;exact absurd y1 List.not_mem_nil),fun j hj=> ?_⟩;obtain ⟨h0,oj,hoj,dA⟩:=mem_ready.1 hj;have hdj:listed.getD j false=false:=getD_both h0;have tE:ops[j]? =some oj:=by simpa using hoj
 have hjn:j<ops.length:=(uq8.1 tE).1;have hjk:n<=j:=by have:=hu.2 j hjn;rw [hdj] at this;simp at this;omega
 have hp:∀i,i∈iw oj->listed.getD i false=true:=by intro i hi;obtain ⟨e,he,rfl⟩:=bf.1 hi;obtain ⟨he1,he2⟩:=cF.1 he;exact dA e (by simpa using he1) he2
 have e:j=n:=by
  rcases Nat.lt_or_ge n j with hlt|hge
  . have Qs:=Di.add tE hp;have:=Fa hw Qs hjn (by omega) (by simp [iR]) n (by omega);simp only [iR,hu.2 n hnl,Bool.or_eq_true,beq_iff_eq] at this;simp at this;omega
  omega
 subst e;rw [hon] at tE;injection tE with tE
 subst tE;have hdo:∀d,o.dst=some d->d<N:=by intro d hd;have:=uq5.1 hok o (cj hon);rw [hd] at this;simpa using this
 have next:∀a' w',hZ B N KC a' w'->wpAny P .any ops.toArray Q fuel (listed.setIfInBounds j true) a' w':=by rintro a' w' ⟨φ',fp',S',ts',m',h',hk'⟩;exact Xt φ' fp' S' ts' m' a' w' h' hk'
 unfold wpOp;have hoA:ops.toArray[j]? =some o:=by simpa using hon
 simp only [hoA];simp only [sL] at hsl;cases hg:o.guard with
 |none=>
  rw [hg] at hsl;rw [ct h hgs hon (show cM ops o ts=some true by simp [cM,hg])];simp only [if_true];exact .inl (gb h hsl fun v w' hgv=>next _ _ (step_done hdo hgv fun x m' hx=>hx))
 |some jw=>
  obtain ⟨g,want⟩:=jw;rw [hg] at hsl;simp only at hsl;unfold gg at hsl;split at hsl
  . rename_i c hy;by_cases hcw:c=want
    . subst hcw;rw [ct h hgs hon (show cM ops o ts=some true by simp [cM,hg,hy])];simp only [if_true];exact .inl (gb h (hsl.1 rfl) fun v w' hgv=>next _ _ (step_done hdo hgv fun x m' hx=>hx))
    rw [ct h hgs hon (show cM ops o ts=some false by simp [cM,hg,hy,hcw])];simp only [uq4,if_false];have hk2:=hsl.2 hcw;refine next _ _ (step_done (k:=fun x m'=>x= .aX []/\m'=m) hdo (h.gives (x:=.aX []) (.rd _ _ (.aX [] #[] rfl fun i hi=>absurd hi (du _))) (fun _ _ hl=>by cases hl) ⟨rfl,rfl,rfl⟩) fun x m' ⟨h1,h2⟩=> ?_)
    rw [h1,h2];exact hk2
  . rename_i hy;rw [ct h hgs hon (show cM ops o ts=some false by simp [cM,hg,hy])];simp only [uq4,if_false];refine next _ _ (step_done (k:=fun x m'=>x= .aX []/\m'=m) hdo (h.gives (x:=.aX []) (.rd _ _ (.aX [] #[] rfl fun i hi=>absurd hi (du _))) (fun _ _ hl=>by cases hl) ⟨rfl,rfl,rfl⟩) fun x m' ⟨h1,h2⟩=> ?_)
    rw [h1,h2];exact hsl
  exact hsl.elim
theorem Fb {n:Nat} {x:AV} {ts:Env} {m:Mem} (f:Nat->Oper) (hd:∀i,i<n->(f i).dst=none):∀i,i<=n->dv f (fun _=>⟨x,[]⟩) (fun _=>true) ts m i=(ts,m)
 |0,_=>rfl
 |i+1,hi=>by simp only [dv,if_true];rw [Fb f hd i (by omega),hd i (by omega)];rfl
end
def CK:Oper:={(default:Oper) with dst:=none}
theorem JB (n:Nat) {P:Program} {N:Nat} {ops:List Oper} {ts:Env} {m:Mem} {K:St} {Q:Exit->Act->World->Prop}
 (hok:(jH N ops&&de N ops&&(HX n ops&&(nR ops n&&(nR ops (n+1)&&decide (n<ops.length)))))=true)
 (h:sD P (ops.take n) (ops.take n) ts m [] fun ts' m'=>sL P ops ((ops.drop n).take 1) ts' m' fun ts'' m''=>sD P ops (ops.drop (n+1)) ts'' m'' (c8 (n+1) ([],[])) K)
 {B:eE} {φ:Nat->LS} {fp:Nat->lN} {S:Nat->Prop} {a:Act} {w:World} (hRS:RS B N φ fp S ts m a w) (hQ:∀a w,hZ B N K a w->Q .normal a w):
 wpAny P .any ops.toArray Q ops.toArray.size (uq2 ops.toArray.size false) a {w with drawn:=w.drawn+1}:=by
 simp only [uq3,decide_eq_true_eq] at hok;obtain ⟨⟨l6,qQ⟩,hgl,hw,hw1,hn⟩:=hok;have hlen:(ops.take n).length=n:=by simp;omega
 obtain ⟨qs,tr,hR,hB,hK,_⟩:=xB (os:=fun i=>(ops[i]?).getD default) (ts0:=ts) (m0:=m) (sk:=0) (fun i o _ ho=>by
  have hi:=(uq8.1 ho).1;rw [hlen] at hi;rw [kM hi] at ho
  simp [ho]) (ops.take n) 0 (fun _=>⟨.undef,[]⟩) [] ts m rfl (aP _) (Nat.zero_le _) rfl rfl (fun i o _ hi=>absurd hi (du _)) h
 rw [hlen] at hK;have hon:ops[n]? =some ops[n]:=uq7 hn;have hdt:(ops.drop n).take 1=[ops[n]]:=by rw [List.drop_eq_getElem_cons hn];rfl
 rw [hdt] at hK;refine LF (B:=B) (N:=N) (KN:=fun ts' m'=>sL P ops [ops[n]] ts' m' fun ts'' m''=>sD P ops (ops.drop (n+1)) ts'' m'' (c8 (n+1) ([],[])) K) (by omega) hw hgl hR hB l6 qQ hK ?_ _ _ φ fp S a _ (by simp) ?_ ?_ ?_ ?_
 . intro fuel listed φ fp S ts m a w hu hf h1 hsl;obtain ⟨fuel,rfl⟩:∃f,fuel=f+1:=⟨fuel-1,by omega⟩;refine LG hw1 l6 qQ hon hu h1 hsl fun φ fp S ts m a w h2 hsd=> ?_;have hsz:(listed.setIfInBounds n true).size=ops.length:=by simp [hu.1]
   have hup:∀i,i<ops.length->(listed.setIfInBounds n true).getD i false=decide (i<n+1):=by
    intro i hi;by_cases e:i=n
    . subst e;simp [hu.1,hi]
    rw [getD_set_ne false (Ne.symm e),hu.2 i hi];simp;omega
   have hid:∀i,i<=n+1->dv (fun i=>if i<n+1 then CK else (ops[i]?).getD default) (fun _=>⟨.undef,[]⟩) (fun _=>true) ts m i=(ts,m):=Fb (n:=n+1) _ fun i hi=>by simp only [hi,if_true];rfl
   obtain ⟨qs2,tr2,hR2,hB2,hK2,hq2⟩:=xB (os:=fun i=>if i<n+1 then CK else (ops[i]?).getD default) (ts0:=ts) (m0:=m) (sk:=n+1) (fun i o hi ho=>by simp only [Nat.not_lt.2 hi,if_false];simp [ho]) (ops.drop (n+1)) (n+1)
    (fun _=>⟨.undef,[]⟩) (c8 (n+1) ([],[])) ts m rfl (aP _) hn (by simp) (hid _ (aP _)) (fun i o h1 h2=>absurd h2 (Nat.not_lt.2 h1)) hsd
   have hst:dv (fun i=>if i<n+1 then CK else (ops[i]?).getD default) qs2 (fun i=>(listed.setIfInBounds n true).getD i false) ts m ops.length=(ts,m):=by
    rw [my (j:=n+1) (fun q hq=>by
     rcases Nat.lt_or_ge q ops.length with hql|hql
     . rw [hup q hql];simp;omega
     rw [uq0,Array.getElem?_eq_none (by omega)];rfl) ops.length hn]
    rw [Hx (qs':=fun _=>⟨.undef,[]⟩) (n+1) hq2];have Xu:∀(D:Nat->Bool) i,i<=n+1->dv (fun i=>if i<n+1 then CK else (ops[i]?).getD default) (fun _=>⟨.undef,[]⟩) D ts m i=(ts,m):=by
     intro D i;induction i with
     |zero=>intro _;rfl
     |succ i ih=>
      intro hi;simp only [dv];rw [ih (by omega)];cases D i with
      |false=>rfl
      |true=>simp only [if_true,show i<n+1 by omega];rfl
    exact Xu _ _ (aP _)
   refine Bg (B:=B) (N:=N) hR2 hB2 l6 qQ hK2 hQ _ _ φ fp S a w hsz ?_ (fun i hi=>by rw [hup i (by omega)];simpa using hi) ?_ (by rw [hst];exact h2)
   . intro j oj hoj hdj i hi;have hjn:=(uq8.1 hoj).1;have h3:=sR hw1 j oj hoj i hi;have hdj:(listed.setIfInBounds n true).getD j false=true:=hdj;show (listed.setIfInBounds n true).getD i false=true;rw [hup j hjn] at hdj;rw [hup i (by omega)];simp at hdj ⊢;omega
   have hc:Cv ops.length (listed.setIfInBounds n true)<=ops.length-(n+1):=by
    unfold Cv;have:∀N,(∀i,i<N->i<ops.length)->(cq N).countP (fun i=> !(listed.setIfInBounds n true).getD i false)<=N-(n+1):=by
     intro N hN;induction N with
     |zero=>simp
     |succ N ih=>
      have ih:=ih fun i hi=>hN i (by omega);rw [bO,List.countP_append,List.countP_cons,List.countP_nil,hup N (hN N (by omega))];by_cases e:N<n+1
      . simp only [decide_eq_true e,Bool.not_true,uq4,if_false];omega
      simp only [decide_eq_false e,Bool.not_false,if_true];omega
    exact this _ fun i hi=>hi
   omega
 . intro j o _ hd;have hd:(uq2 (bd ops).size false).getD j false=true:=hd;rw [getD_replicate_false] at hd;cases hd
 . exact fun i _=>getD_replicate_false _ _
 . exact aO List.countP_le_length (by simp)
 have e:(fun i=>(uq2 (bd ops).size false).getD i false)=fun _=>false:=funext fun i=>getD_replicate_false _ _;have e2:=my (os:=fun i=>(ops[i]?).getD default) (qs:=qs) (D:=fun _=>false) (ts:=ts) (m:=m) (j:=0) (fun _ _=>rfl) n (Nat.zero_le _);show RS B N φ fp S (dv _ qs (fun i=>(uq2 (bd ops).size false).getD i false) ts m n).1 (dv _ qs (fun i=>(uq2 (bd ops).size false).getD i false) ts m n).2 a {w with drawn:=w.drawn+1};rw [e,e2];exact hRS.qT rfl ⟨rfl,rfl,rfl⟩
theorem aj.YV (n:Nat) {P:Program} {N i:Nat} {ops:List Oper} {ts:Env} {m:Mem} {Q:dc} {q:Pack (Code.region i ⟨ops⟩ true,Q)} (hm:P.follows .mixedOrders=true)
 (hok:(jH N ops&&de N ops&&(HX n ops&&(nR ops n&&(nR ops (n+1)&&decide (n<ops.length)))))=true)
 (h:sD P (ops.take n) (ops.take n) ts m [] fun ts' m'=>sL P ops ((ops.drop n).take 1) ts' m' fun ts'' m''=>sD P ops (ops.drop (n+1)) ts'' m'' (c8 (n+1) ([],[])) (Q .normal)):aj P N (.region i ⟨ops⟩ true) ts m Q q:=
 ⟨fun _ _ _ _ _ _ hRS=>wp_region_any hm (JB n hok h hRS fun _ _ hd=>hd)⟩
open Go.RowKit
def sw (w:World) (b:Nat):Prop:=∃o:Obj,w.heap[b]? =some o/\o.isCells=true
theorem sS {w:World} {b:Nat} {cs:aV} {e:TypeId} {fr:Nat × Nat} (h:w.heap[b]? =some (.cells cs e fr)):sw w b:=⟨_,h,rfl⟩
theorem Rd.cells {w:World} {S:Nat->Prop} {x:AV} {v:Value} (h:Rd w S x v):Rd w (fun b=>S b/\sw w b) x v:=by
 induction h with
 |undef v=>exact .undef v
 |val v h=>exact .val v h
 |e0 a=>exact .e0 a
 |nil sh a=>exact .nil sh a
 |arr sh xs b off cap cs e fr hb hh b6 hl hf _ ih=>exact .arr sh xs b off cap cs e fr ⟨hb,sS hh⟩ hh b6 hl hf ih
 |agg xs cs hl hf _ ih=>exact .agg xs cs hl hf ih
 |aX xs cs hl _ ih=>exact .aX xs cs hl ih
 |bq sh xs i j b off cs e fr hb hh hl hf _ ih=>exact .bq sh xs i j b off cs e fr ⟨hb,sS hh⟩ hh hl hf ih
 |cm f xs cs hl _ ih=>exact .cm f xs cs hl ih
theorem RV.TV {w:World} {S:Nat->Prop} {φ:Nat->LS} {x:AV} {v:Value} (h:RV w S φ x v):RV w (fun b=>S b/\sw w b) φ x v:=by
 induction h with
 |rd x v h=>exact .rd x v h.cells
 |agg xs cs hl hf _ ih=>exact .agg xs cs hl hf ih
 |aX xs cs hl _ ih=>exact .aX xs cs hl ih
 |cm f xs cs hl _ ih=>exact .cm f xs cs hl ih
 |ref l ae i n v h1 h2 h3=>exact .ref l ae i n v h1 h2 h3
 |ptr l ae i j v h1 h2 h3=>exact .ptr l ae i j v h1 h2 h3
theorem Own.cells {w:World} {S:Nat->Prop} {x:AV} {v:Value} {fs:lN} (h:Own w S x v fs):Own w (fun b=>S b/\sw w b) x v fs:=by
 induction h with
 |rd x v h=>exact .rd x v h.cells
 |arr sh xs b cap cs e fss hb hc hl hm hf hs _ ih=>exact .arr sh xs b cap cs e fss hb hc hl hm hf hs ih
 |agg xs cs fss hl hf hs _ ih=>exact .agg xs cs fss hl hf hs ih
 |aX xs cs fss hl hs _ ih=>exact .aX xs cs fss hl hs ih
theorem Own.sw {w:World} {S:Nat->Prop} {x:AV} {v:Value} {fs:lN} (h:Own w S x v fs):∀b,b∈fs->sw w b:=by
 have key:∀(fss:List lN) (n:Nat),fss.length=n->(∀i,i<n->∀b,b∈fss.getD i []->Vc.sw w b)->∀b,b∈fss.flatten->Vc.sw w b:=by intro fss n hn hh b hb;obtain ⟨l,hl,hbl⟩:=List.mem_flatten.1 hb;obtain ⟨i,hi,rfl⟩:=cK hl;refine hh i (hn▸hi) b ?_;rw [uq6,uq7 hi];exact hbl
 induction h with
 |rd x v h=>intro b hb;cases hb
 |arr sh xs b cap cs e fss hb hc hl hm hf hs _ ih=>
  intro b' hb';rcases List.mem_cons.1 hb' with rfl|hb'
  . exact sS hb
  exact key fss xs.length hs ih b' hb'
 |agg xs cs fss hl hf hs _ ih=>exact key fss xs.length hs ih
 |aX xs cs fss hl hs _ ih=>exact key fss xs.length hs ih
section
variable {P:Program} {B:eE} {N:Nat} {φ:Nat->LS} {fp:Nat->lN} {S:Nat->Prop} {ts:Env} {m:Mem} {a:Act} {w:World}
theorem BR.cells {l:Nat} {fs:lN} {k:bj} (h:BR w S φ l fs k):BR w (fun b=>S b/\sw w b) φ l fs k:=by
 cases k with
 |gone=>exact h
 |row ae sh deep xs=>
  rcases h with h|⟨b,cap,h1,h2,h4,h3⟩
  . exact .inl h
  refine .inr ⟨b,cap,h1,h2,h4,?_⟩;cases deep with
  |true=>exact h3
  |false=>exact h3.cells
 |box ae xs=>
  obtain ⟨b,cs,e,sh,h1,h2,h3,h4,h5,h6⟩:=h;exact ⟨b,cs,e,sh,h1,h2,h3,h4,h5,fun i hi=>(h6 i hi).TV⟩
 |j8 ae xs i u=>exact h
 |sub ae sh xs u=>exact h
theorem BR.sw {l:Nat} {fs:lN} {k:bj} (h:BR w S φ l fs k):∀b,b∈fs->sw w b:=by
 cases k with
 |gone=>intro b hb;rw [h.2] at hb;cases hb
 |row ae sh deep xs=>
  rcases h with ⟨_,_,h⟩|⟨b,cap,h1,h2,h4,h3⟩
  . intro b hb;rw [h] at hb;cases hb
  exact h3.sw
 |box ae xs=>
  obtain ⟨b,cs,e,sh,h1,h2,h3,_⟩:=h;intro c hc;rw [h2,eP] at hc;subst hc;exact sS h3
 |j8 ae xs i u=>
  obtain ⟨b,cap,cs,e,fr,h1,h2,h3,_⟩:=h;exact h3.sw
 |sub ae sh xs u=>
  obtain ⟨b,cap,h1,h2,h3,h4⟩:=h;exact h4.sw
theorem RS.sw (h:RS B N φ fp S ts m a w) {l b:Nat} (hb:b∈fp l):sw w b:=by
 cases hk:ah m l with
 |none=>rw [(h.b7 l hk).2] at hb;cases hb
 |some k=>exact (h.aF l k hk).sw b hb
theorem RS.cells (h:RS B N φ fp S ts m a w):RS B N φ fp (fun b=>S b/\Vc.sw w b) ts m a w:=
 {h with
  tm:=fun t=>(h.tm t).TV
  aF:=fun l k hk=>(h.aF l k hk).cells
  bQ:=fun l b hb hs=>h.bQ l b hb hs.1
  sB:=fun b hb=>h.sB b hb.1
  js:=fun g p hg=>by obtain ⟨h1,cs,e,fr,h2,h3⟩:=h.js g p hg;exact ⟨⟨h1,sS h2⟩,cs,e,fr,h2,h3⟩}
theorem xP {w':World} {row:Option Nat} (hg:w.grownBy w' row) (hr:∀r,row=some r->∃o:Obj,w.heap[r]? =some o/\o.isCells=false) {b:Nat} (h:sw w b):w'.heap[b]? =w.heap[b]? :=by obtain ⟨o,h1,h2⟩:=h;exact grownBy_keeps_cells hg hr h1 h2
theorem RS.O7 (h:RS B N φ fp S ts m a w) (hC:∀b,S b->Vc.sw w b) {w':World} {row:Option Nat} (hg:w.grownBy w' row)
 (hr:∀r,row=some r->B.w0.heap.size<=r/\∃o:Obj,w.heap[r]? =some o/\o.isCells=false):RS B N φ fp S ts m a w':=by
 have hk:∀b,Vc.sw w b->w'.heap[b]? =w.heap[b]? :=fun b hb=>xP hg (fun r e=>(hr r e).2) hb;have hs:∀l b,b∈fp l->w'.heap[b]? =w.heap[b]? :=fun l b hb=>hk b (h.sw hb);have hS:∀b,S b->w'.heap[b]? =w.heap[b]? :=fun b hb=>hk b (hC b hb);have hsz:jD w w':=fun b cs e hb=>⟨cs,e,(hk b (sS hb)).trans hb,rfl⟩;have hz:fS φ w w':=fun l b sh ae cs e _ hb=>hsz b cs e hb
 exact {h with
  tm:=fun t=>(h.tm t).mono hS (fun _ h=>h) hz fun l ae _=>LS.le_refl _ _
  aF:=fun l k hl=>(h.aF l k hl).mono hS (fun _ h=>h) hz (hs l) rfl fun _ _ _ _ _ _=>LS.le_refl _ _
  cw:=fun l b hb=>⟨Nat.lt_of_lt_of_le (h.cw l b hb).1 hg.size,(h.cw l b hb).2⟩
  sB:=fun b hb=>⟨Nat.lt_of_lt_of_le (h.sB b hb).1 hg.size,(h.sB b hb).2⟩
  base:=fun b hb hio=>(hg.block b (Nat.lt_of_lt_of_le hb h.size) fun e=>by have:=(hr b e.symm).1;omega).trans (h.base b hb hio)
  out:=h.out.trans ⟨hg.os,hg.tape,hg.output⟩
  kj:=h.kj.trans hsz
  size:=aO h.size hg.size
  js:=h.js.mono hS fun _ h=>h}
theorem RS.O8 (h:RS B N φ fp S ts m a w) (hi:∀l,ah m l≠none->bE<=l):RS ⟨w,fun l b=>b∈fp l,S,φ,m⟩ N φ fp S ts m a w:=
 {tm:=h.tm,tl:=h.tl,b7:=h.b7,aF:=h.aF,bl:=h.bl,gZ:=h.gZ,fI:=h.fI,bQ:=h.bQ,
  cw:=fun l b hb=>⟨(h.cw l b hb).1,.inr ⟨l,hb,hi l (fun e=>by rw [(h.b7 l e).2] at hb;cases hb),.inl rfl⟩⟩,
  sB:=fun b hb=>⟨(h.sB b hb).1,.inr hb⟩,base:=fun b hb _=>rfl,out:=a8.refl _,kj:=jD.refl _,kn:=fun _ _ _ hk=>hk,fix:=fun _ _ _ _=>LS.le_refl _ _,size:=aP _,defers:=h.defers,k6:=h.k6,js:=h.js}
theorem RS.Vd {N':Nat} {φ':Nat->LS} {fp':Nat->lN} {S':Nat->Prop} {ts':Env} {m':Mem} {a':Act} {w':World} (h:RS B N φ fp S ts m a w)
 (h':RS ⟨w,fun l b=>b∈fp l,S,φ,m⟩ N' φ' fp' S' ts' m' a' w'):RS B N' φ' fp' S' ts' m' a' w':=by
 refine {tm:=h'.tm,tl:=h'.tl,b7:=h'.b7,aF:=h'.aF,bl:=h'.bl,gZ:=h'.gZ,fI:=h'.fI,bQ:=h'.bQ,cw:=fun l b hb=> ?_,sB:=fun b hb=> ?_,base:=fun b hb hio=> ?_,
         out:=h.out.trans h'.out,kj:=h.kj.trans h'.kj,kn:=fun l ae hl hk=>h'.kn l ae hl (h.kn l ae hl hk),
         fix:=fun l ae hl hk=>LS.le_trans (h'.fix l ae hl (h.kn l ae hl hk)) (h.fix l ae hl hk),size:=aO h.size h'.size,defers:=h'.defers,k6:=h'.k6,js:=h'.js}
 . refine ⟨(h'.cw l b hb).1,?_⟩;rcases (h'.cw l b hb).2 with hh|⟨l0,hh,hl,h3⟩
   . exact .inl (aO h.size hh)
   rcases (h.cw l0 b hh).2 with h4|⟨l1,h4,h5,h6⟩
   . exact .inl h4
   refine .inr ⟨l1,h4,hl,?_⟩;rcases h3 with h3|h3
   . rw [h3] at h6;exact h6
   refine .inr ?_;cases he:ah B.m0 l with
   |none=>rfl
   |some k=>
    obtain ⟨k2,h7,_⟩:=h.kn l k.ae hl ⟨k,he,aP _⟩;have h3':ah m l=none:=h3;rw [h3'] at h7;cases h7
 . refine ⟨(h'.sB b hb).1,?_⟩;rcases (h'.sB b hb).2 with hh|hh
   . exact .inl (aO h.size hh)
   exact (h.sB b hh).2
 refine (h'.base b (Nat.lt_of_lt_of_le hb h.size) fun l hl=> ?_).trans (h.base b hb hio);rcases (h.cw l b hl).2 with hh|⟨l1,hh,_⟩
 . exact absurd hb (Nat.not_lt.2 hh)
 exact hio l1 hh
def HZ:List (Nat × Nat)->Env->Env
 | [],ts=>ts
 |(l,l')::r,ts=>HZ r (Hg l l' ts)
theorem O9 (ts:Env):HZ [] ts=ts:=rfl
theorem LH (l l':Nat) (r:List (Nat × Nat)) (ts:Env):HZ ((l,l')::r) ts=HZ r (Hg l l' ts):=rfl
theorem RS.TW (h0:B.m0=[]):∀(ρ:List (Nat × Nat)) {φ:Nat->LS} {fp:Nat->lN} {ts:Env} {m:Mem},oG ρ m->RS B N φ fp S ts m a w->∃φ' fp',RS B N φ' fp' S (HZ ρ ts) (kI ρ m) a w
 | [],φ,fp,ts,m,_,h=>⟨φ,fp,h⟩
 |(l,l')::r,φ,fp,ts,m,⟨⟨⟨hl,_⟩,_,hf⟩,h3⟩,h=>by have hfp:fp l'=[]:=(h.b7 l' hf).2;exact RS.TW h0 r h3 (h.Oe hl (by rw [h0];rfl) fun b hb=>by rw [hfp] at hb;cases hb)
theorem Fc {n l:Nat} {row:String} {args:aV} {R:Value->World->Prop} (h:Rows P row args w R):RowsIn (Fence.wide.inRound l) n P row args w R:=
 fun c cs _=>let ⟨v,w',r,s⟩:=h c cs;⟨v,w',r,stepsIn_wide.2 s⟩
theorem WH {n l:Nat} {o:Oper} (hnd:∀c,o.op≠ .defer c) {K:Act->World->Prop} {Q:Exit->Act->World->Prop} (h:o.wp P a w K Q):o.wpIn (Fence.wide.inRound l) n P a w K Q:=by
 refine ⟨fun _ _=>trivial,?_⟩;rw [Oper.semAt_eq _ _ _ hnd];unfold Oper.wp at h;generalize (execOp a.eval o).run P w=r at h ⊢;cases r with
 |ok x w'=>
  cases x with
  |enter f args=>exact ⟨fun hh=>(by simp [Fence.wide] at hh),callsIn_wide.2 h⟩
  |row r args=>exact ⟨fun hh=>(by simp [Fence.wide] at hh),Fc h⟩
  |value v=>exact h
  |skip=>exact h
  |defer d=>exact h
  |_=>exact h.elim
 |halt x w'=>cases x<;>simp only [Oper.upon,Oper.uponIn] at h ⊢ <;>exact h
theorem JC {n l:Nat} {md:Region.Mode} {ops:Array Oper} {Q:Exit->Act->World->Prop} (hnd:∀(i:Nat) (o:Oper),ops[i]? =some o->∀c,o.op≠ .defer c) (hQ:¬LetsOut Q):
 ∀(fuel:Nat) (listed:Array Bool) (a:Act) (w:World),wpAny P md ops Q fuel listed a w->wpAnyIn (Fence.wide.inRound l) n P md ops Q fuel listed a w
 |0,_,_,_,h=>h
 |fuel+1,listed,a,w,⟨h1,h2⟩=>by
  refine ⟨h1,fun i hi=> ?_⟩;have h3:=h2 i hi;unfold wpOp at h3;unfold wpOpIn;split
  . rename_i e;simp only [e] at h3;exact JC hnd hQ fuel _ _ _ h3
  rename_i o ho;simp only [ho] at h3;split
  . rename_i hw;simp only [hw,if_true] at h3;rcases h3 with h3|⟨_,h3⟩
    . exact Oper.wpIn_mono (fun a w hh=>JC hnd hQ fuel _ _ _ hh) (WH (hnd i o ho) h3)
    exact absurd h3 hQ
  rename_i hw;simp only [hw,uq4,if_false] at h3;exact ⟨fun _ _=>trivial,JC hnd hQ fuel _ _ _ h3⟩
theorem iy {ds:List Deferred} {ops:Array Oper} {Q:Exit->Act->World->Prop}:∀(l:lN) (a:Act) (w:World),wpOps P ops Q l a w→
 wpOps P ops (fun e a' w'=>∃a'',a'={a'' with defers:=a''.defers++ds}/\Q e a'' w') l {a with defers:=a.defers++ds} w
 | [],a,w,h=>⟨a,rfl,h⟩
 |i::r,a,w,h=>by
  simp only [wpOps] at h ⊢;cases ho:ops[i]? with
  |none=>simp only [ho] at h ⊢;exact iy r a w h
  |some o=>
   simp only [ho] at h ⊢;have Dg:∀v,({a with defers:=a.defers++ds}:Act).put o.dst v={(a.put o.dst v) with defers:=(a.put o.dst v).defers++ds}:=fun v=>by cases o.dst<;>rfl
   by_cases hw:Region.wanted o (yielded ops a.tmps)=true
   . simp only [hw,if_true] at h ⊢;have he:({a with defers:=a.defers++ds}:Act).eval=a.eval:=rfl;rcases h with h|⟨h1,b,w2,h2⟩
     . refine .inl ?_;unfold Oper.wp at h ⊢;rw [he];generalize (execOp a.eval o).run P w=rr at h ⊢;cases rr with
       |ok x w'=>
        cases x with
        |value v=>simp only [Oper.upon] at h ⊢;rw [Dg];exact iy r _ _ h
        |skip=>simp only [Oper.upon] at h ⊢;rw [Dg];exact iy r _ _ h
        |defer d=>
         simp only [Oper.upon] at h ⊢;have:=iy (ds:=ds) r _ _ h;have e:({a with defers:=d::(a.defers++ds)}:Act).put o.dst undef={(({a with defers:=d::a.defers}:Act).put o.dst undef) with defers:=(({a with defers:=d::a.defers}:Act).put o.dst undef).defers++ds}:=by cases o.dst<;>rfl
         rw [e];exact this
        |enter f args=>
         simp only [Oper.upon] at h ⊢;refine Calls.mono h fun e w'' he=> ?_;cases e with
         |returned v=>simp only at he ⊢;rw [Dg];exact iy r _ _ he
         |panicked ch=>exact ⟨_,rfl,he⟩
         |outgrown=>obtain ⟨b,w2,h2⟩:=he;exact ⟨_,w2,b,rfl,h2⟩
        |row row args=>simp only [Oper.upon] at h ⊢;exact Rows.mono h fun v w'' hh=>by rw [Dg];exact iy r _ _ hh
        |_=>exact h.elim
       |halt x w'=>cases x<;>first|exact h.elim|exact ⟨_,rfl,h⟩
     exact .inr ⟨h1,_,w2,b,rfl,h2⟩
   simp only [hw,uq4,if_false] at h ⊢;rw [Dg];exact iy r _ _ h
end
def Ve (w0:World) (S0:Nat->Prop) (post:AV->Prop) (e:Ending) (w':World):Prop:=∃r v,e= .returned v/\post r/\Grown w0 w'/\iK w0 w' S0 false r v
def Pa (P:Program) (fn:Func) (w0:World) (S0:Nat->Prop) (post:AV->Prop):Exit->Act->World->Prop:=bodyPostM Fence.wide 1 P fn (Ve w0 S0 post)
abbrev Bj (w0:World) (S0:Nat->Prop):eE:=⟨w0,fun _ _=>False,S0,fun _=>.dead,[]⟩
structure CL (P:Program) (fn:Func) (c:Code) (ts:Env) (m:Mem) (post:AV->Prop):Prop where
 ok:∀(w0:World) (S0:Nat->Prop) (φ:Nat->LS) (fp:Nat->lN) (S:Nat->Prop) (a:Act) (w:World),RS (Bj w0 S0) fn.ntmps φ fp S ts m a w->c.wpIn Fence.wide 1 P (Pa P fn w0 S0 post) a w
structure TX (P:Program) (fn:Func) (x y:Code) (ts:Env) (m:Mem) (post:AV->Prop):Prop where
 ok:∀(w0:World) (S0:Nat->Prop) (φ:Nat->LS) (fp:Nat->lN) (S:Nat->Prop) (a:Act) (w:World),RS (Bj w0 S0) fn.ntmps φ fp S ts m a w→
  x.wpIn Fence.wide 1 P (Exit.then (y.wpIn Fence.wide 1 P (Pa P fn w0 S0 post)) (Pa P fn w0 S0 post)) a w
theorem uF {P:Program} {fn:Func} {tmps:aV} {us:List Value} {w:World} (h:(fn.results.toList.mapM (cY tmps)).run P w= .ok us w):
 (results fn tmps).run P w= .ok (if h:us.toArray.size=1 then us.toArray[0] else .tuple us.toArray) w:=by
 have hm:results fn tmps=(do let vs ←fn.results.mapM (cY tmps);pure (if h:vs.size=1 then vs[0] else .tuple vs)):=by unfold results;congr 1
 rw [hm,Sem.run_bind,Array.mapM_eq_mapM_toList];have:(bd <$> fn.results.toList.mapM (cY tmps):Sem aV).run P w= .ok us.toArray w:=by rw [map_eq_pure_bind,Sem.run_bind,h];rfl
 rw [this];rfl
theorem Vf {P:Program} {fn:Func} {w0:World} {S0:Nat->Prop} {post:AV->Prop} {e:Exit} {a':Act} {w':World}
 (h:hZ (Bj w0 S0) fn.ntmps (HP P fn.results.toList post e) a' w'):Pa P fn w0 S0 post e a' w':=by
 obtain ⟨Dp,fp0,S0',ts',m0,h0,hk⟩:=h;have go:aN P (fun xs=>iL (fun ys _=>aq ys=[]/\post (bG ys)) [] m0 xs) fn.results.toList ts' m0 []->LeavesInM Fence.wide 1 P fn a'.tmps (Ve w0 S0 post) a'.defers .returning w':=by
  intro hk;rw [h0.defers];obtain ⟨ys0,us,h1,h2,h3,h4⟩:=cL h0 fn.results.toList [] [] ⟨rfl,fun i hi=>absurd hi (du _)⟩ (fun i hi=>absurd hi (du _)) hk;obtain ⟨φ',fp',S',m',ys,hgv,h3,gV,gK⟩:=pc ys0 us [] [] h0 (by simpa using h3) ⟨rfl,fun i hi=>absurd hi (du _)⟩ h1;have h':=hgv.rs;obtain ⟨h3a,h3b⟩:=h3;simp only [List.nil_append] at h3a h3b;refine ⟨_,uF h2,bG ys,_,rfl,gK,⟨h'.size,fun b hb=>h'.base b hb (fun _ h=>h),h'.out⟩,?_⟩;show Rd w' _ _ _;refine (cU (mu h3a h3b) (ie gV)).mono (fun _ _=>rfl) fun b hb=> ?_;rcases (h'.sB b hb).2 with hh|hh
  . exact .inr ⟨hh,(h'.sB b hb).1⟩
  exact .inl hh
 cases e with
 |normal=>exact go hk
 |ret=>exact go hk
 |_=>exact hk.elim
section
variable {P:Program} {fn:Func} {ts:Env} {m:Mem} {post:AV->Prop}
theorem Pb {c:Code} {K:St} (hok:codeOk fn.ntmps c=true) (hv:vc P fn.ntmps c ts m (y9 (HP P fn.results.toList post) K)) {w0:World} {S0:Nat->Prop} {φ:Nat->LS} {fp:Nat->lN} {S:Nat->Prop} {a:Act} {w:World}
 (h:RS (Bj w0 S0) fn.ntmps φ fp S ts m a w) {K':Act->World->Prop} (hK:∀a' w',hZ (Bj w0 S0) fn.ntmps K a' w'->K' a' w'):c.wpIn Fence.wide 1 P (Exit.then K' (Pa P fn w0 S0 post)) a w:=by
 refine wpIn_wide.2 (wp_mono (cD c _ _ _ hok hv _ _ _ _ _ _ h) ?_);intro e a' w' hq;cases e with
 |normal=>exact hK _ _ hq
 |ret=>exact Vf hq
 |_=>obtain ⟨_,_,_,_,_,_,hh⟩:=hq;exact hh.elim
theorem CL.seq {x y:Code} (hok:codeOk fn.ntmps x=true) (hv:vc P fn.ntmps x ts m (y9 (HP P fn.results.toList post) fun ts m=>CL P fn y ts m post)):CL P fn (.seq x y) ts m post:=
 ⟨fun _ _ _ _ _ _ _ h=>wpIn_seq (Pb hok hv h fun _ _ ⟨_,_,_,_,_,h1,h2⟩=>h2.ok _ _ _ _ _ _ _ h1)⟩
theorem CL.XW {x y z:Code} (hok:codeOk fn.ntmps x=true) (hv:vc P fn.ntmps x ts m (y9 (HP P fn.results.toList post) fun ts m=>TX P fn y z ts m post)):CL P fn (.seq (.seq x y) z) ts m post:=
 ⟨fun _ _ _ _ _ _ _ h=>wpIn_seq (wpIn_seq (wpIn_mono (Pb hok hv h fun _ _ ⟨_,_,_,_,_,h1,h2⟩=>h2.ok _ _ _ _ _ _ _ h1) fun e a w hq=>by cases e<;>exact hq))⟩
theorem CL.Cc {c:Code} (l v:Nat) (sh:Sh) (xs:lA) (hio:l<bE) (hlk:ah m l=some (.row v sh true xs)) (h:CL P fn c ts ((l,.row v sh false xs)::m) post):CL P fn c ts m post:=
 ⟨fun _ _ _ _ _ _ _ hR=>have ⟨_,_,_,hR2⟩:=hR.Sz hio hlk;h.ok _ _ _ _ _ _ _ hR2⟩
def H0 (ts:Env):Env->Prop
 | []=>True
 |(t,x)::r=>look ts t=x/\H0 ts r
theorem Pc (ts:Env):H0 ts []=True:=rfl
theorem LI (ts:Env) (t:Nat) (x:AV) (r:Env):H0 ts ((t,x)::r)=(look ts t=x/\H0 ts r):=rfl
attribute [go_sem] Pc LI
theorem sT {ts:Env}:∀{ts':Env},H0 ts ts'->∀t,look ts' t=look ts t\/look ts' t= .undef
 | [],_,t=>.inr rfl
 |(k,x)::r,⟨h1,h2⟩,t=>by
  rw [cP];split
  . rename_i e;subst e;exact .inl h1.symm
  exact sT h2 t
theorem RS.keep {B:eE} {N:Nat} {φ:Nat->LS} {fp:Nat->lN} {S:Nat->Prop} {a:Act} {w:World} (h:RS B N φ fp S ts m a w) {L:lN} {m':Mem} {ts':Env} (hk:oI L m m') (hb:∀l,ah B.m0 l≠none->l∈L) (ht:H0 ts ts')
 (hl:∀t p,p∈an (look ts' t)->p.1∈L):RS B N (rQ L φ) (sO L fp) S ts' m' a w:=by
 have h1:=h.sub hk hb;refine {h1 with tm:=fun t=> ?_,tl:=fun t l ae hlv=> ?_,defers:=h.defers,k6:=h.k6}
 . rcases sT ht t with e|e
   . rw [e];refine (h.tm t).mono (fun _ _=>rfl) (fun _ h=>h) (fun l b sh ae cs e _ hb=>⟨cs,e,hb,rfl⟩) fun l ae hlv=> ?_;rw [iS (hl t (l,ae) (by rw [e];exact hlv))];exact LS.le_refl _ _
   rw [e];exact .rd _ _ (.undef _)
 rcases sT ht t with e|e
 . obtain ⟨k,g1,g2⟩:=h.tl t l ae (by rw [←e];exact hlv);exact ⟨k,(hk.1 l (hl t (l,ae) hlv)).trans g1,g2⟩
 rw [e] at hlv;cases hlv
theorem TX.keep {x y:Code} (L:lN) (m':Mem) (ts':Env) (hk:oI L m m') (ht:H0 ts ts') (hl:∀q,q∈ts'->∀p,p∈an q.2->p.1∈L) (h:TX P fn x y ts' m' post):TX P fn x y ts m post:=
 ⟨fun _ _ _ _ _ _ _ hR=>h.ok _ _ _ _ _ _ _ (hR.keep hk (fun l hl=>absurd rfl hl) ht fun t p hp=>by
   have:∀(ts':Env),(∀q,q∈ts'->∀p,p∈an q.2->p.1∈L)->p∈an (look ts' t)->p.1∈L:=by
    intro ts';induction ts' with
    |nil=>intro _ hp;cases hp
    |cons q r ih=>
     obtain ⟨k,x⟩:=q;intro hl hp;rw [cP] at hp;split at hp
     . exact hl _ (bu ..) p hp
     exact ih (fun q hq=>hl q (dt _ hq)) hp
   exact this ts' hl hp)⟩
theorem Fn.XX {f:FuncId} {c:Code} {args:List AV} (hf:P.funcs[f]? =some fn) (hn:(fn.name== "runtime.NumGoroutine")=false) (hb:fn.body=some c) (ha:args.length≤fn.ntmps)
 (hv:CL P fn c (bH 0 args) [] post):Fn P f args false post:=by
 refine ⟨⟨fn,c,hf,hn,hb⟩,fun w S vs hS yZ hsz hrd=> ?_⟩;refine callsIn_wide.1 (callsIn_of_wp_marks (n:=1) hf hb trivial (hv.ok w S (fun _=>.dead) (fun _=>[]) S _ w ?_));have lS:∀t,(look (bH 0 args) t= .undef\/∃h:t<args.length,look (bH 0 args) t=args[t]):=by
  intro t;rw [bI];by_cases h:t<args.length
  . exact .inr ⟨h,by simp [h]⟩
  exact .inl (by simp [h])
 refine {tm:=fun t=> ?_,tl:=fun t l ae hl=> ?_,b7:=fun _ _=>⟨rfl,rfl⟩,aF:=fun l k hk=>(by cases hk),bl:=fun l v xs hk=>(by cases hk),gZ:=fun _=>iH,
         fI:=fun _ _ _ h=>(by cases h),bQ:=fun _ _ h=>(by cases h),cw:=fun _ _ h=>(by cases h),sB:=fun b hb=>⟨hS b hb,.inr hb⟩,base:=fun b hb _=>rfl,out:=a8.refl _,kj:=jD.refl _,kn:=fun _ _ _ hk=>hk,fix:=fun _ _ _ _=>LS.le_refl _ _,
         size:=aP _,defers:=rfl,k6:=by simp;omega,js:=yZ}
 . rcases lS t with e|⟨h,e⟩
   . rw [e];exact .rd _ _ (.undef _)
   rw [e];have h1:=hrd t h;have:vs.toList.getD t Go.undef=(vs++uq2 (fn.ntmps-vs.size) undef).getD t Go.undef:=by
    have h2:t<vs.size:=by omega
    simp only [uq0,uq6,Array.getElem?_toList];rw [Array.getElem?_append_left h2]
   rw [←this];exact .rd _ _ h1
 rcases lS t with e|⟨h,e⟩
 . rw [e] at hl;cases hl
 rw [e,fT (hrd t h)] at hl;cases hl
def TY (P:Program) (gf:FuncId) (xs:lA) (ys:List (AV × AV)):Prop:=
 (∀args w,(callFunc gf args).run P w= .ok (.enter gf args) w)/\∀(w:World) (S:Nat->Prop) (cs:aV),(∀b,S b->b<w.heap.size)->cs.size=xs.length->(∀i (h:i<xs.length),Rd w S xs[i] (cs.toList.getD i Go.undef))→
   ∃vs:Fin ys.length->Value × Value,(∀i,Rd w S ys[i].1 (vs i).1/\Rd w S ys[i].2 (vs i).2)∧
    SeqStopsK Fence.wide 0 P gf cs (fun i=> #[(vs i).1,(vs i).2]) (fun A B=>∀b,S b->B.heap[b]? =A.heap[b]?) (fun l=>l=List.finRange ys.length) (fun _=>True) ys.length w
def vr (m:Mem) (k:lA->Prop):lA->lA->Prop
 |acc,[]=>k acc.reverse
 |acc,.ref l v i n::r=>nK v i n (ah m l) fun y=>vr m k (y::acc) r
 |acc,.val v::r=>vr m k (.val v::acc) r
 |acc,.arr sh xs::r=>vr m k (.arr sh xs::acc) r
 |_,_=>False
theorem Pd (m:Mem) (k:lA->Prop) (acc:lA):vr m k acc []=k acc.reverse:=rfl
theorem Fe (m:Mem) (k:lA->Prop) (acc r:lA) (l v i n:Nat):vr m k acc (.ref l v i n::r)=nK v i n (ah m l) fun y=>vr m k (y::acc) r:=rfl
theorem Pe (m:Mem) (k:lA->Prop) (acc r:lA) (v:Value):vr m k acc (.val v::r)=vr m k (.val v::acc) r:=rfl
attribute [go_sem] Pd Fe Pe O9 LH
theorem Vg {B:eE} {N:Nat} {φ:Nat->LS} {fp:Nat->lN} {S:Nat->Prop} {a:Act} {w:World} (h:RS B N φ fp S ts m a w) {l v i n:Nat} {sh:Sh} {d:Bool} {xs:lA} {u:Value} (hm:ah m l=some (.row v sh d xs)) (hn:i+n<=xs.length) (hu:RV w S φ (.ref l v i n) u):
 Rd w (fun b=>S b\/b∈fp l) (.arr sh ((xs.drop i).take n)) u:=by
 have hr:=dm hu;have hlen:((xs.drop i).take n).length=n:=by simp;omega
 rcases h.aF l _ hm with ⟨h1,h2,h3⟩|⟨b,cap,hφ,hbm,hdp,bc⟩
 . obtain ⟨rfl,ad,rfl⟩:=hr.2 h1;rw [List.take_zero];exact .nil _ _
 obtain ⟨ad,cp,rfl,hnc,hcp⟩:=hr.1 b sh hφ;obtain ⟨cs,e,fss,hgf,aD,hcs,b6,hmx,hff,hfl,hvv⟩:=gA bc hbm;by_cases hc0:cp=0
 . have:n=0:=by omega
   subst this;subst hc0;rw [List.take_zero];exact .nil _ _
 obtain ⟨rfl,cs',e',g1,g2⟩:=hcp.resolve_left hc0;obtain rfl:=db (aD.symm.trans g1);have b8:i*sh.sz+n*sh.sz<=cs.size:=by rw [g2,←Nat.add_mul];exact Nat.mul_le_mul_right _ (by omega)
 have:=Rd.arr (w:=w) (S:=fun b=>S b\/b∈fp l) sh ((xs.drop i).take n) b (i*sh.sz) cp cs e.1 (nU e cs.size) (.inr hbm) aD (by rw [hlen];exact hnc) (by rw [hlen];exact b8)
  (fun q hq=>by rw [hlen] at hq;simp only [dB,List.getElem_drop];exact hff _ (by omega))
  (fun q hq=>by
    rw [hlen] at hq;simp only [dB,List.getElem_drop]
    have:=(hvv (i+q) (by omega)).l9 (S':=fun b=>S b\/b∈fp l) (fun c hc=>by
     cases d with
     |true=>exact hc.elim
     |false=>exact .inl hc) (fun c hc=>.inr (by rw [hgf];exact dt _ (aI (by omega) hc)))
    rwa [Nat.add_mul] at this)
 rw [hlen] at this;exact this
def JD (S:Nat->Prop) (fp:Nat->lN) (b:Nat):Prop:=S b\/∃l,b∈fp l
theorem Ff {B:eE} {N:Nat} {φ:Nat->LS} {fp:Nat->lN} {S:Nat->Prop} {a:Act} {w:World} (h:RS B N φ fp S ts m a w) {k:lA->Prop}:∀(xs:lA) (us:List Value) (acc:lA) (va:List Value),
 pa (RV w S φ) xs us->pa (Rd w (JD S fp)) acc.reverse va->vr m k acc xs->∃ys,k ys/\pa (Rd w (JD S fp)) ys (va++us)
 | [],us,acc,va,hx,ha,hk=>by
   have:us=[]:=List.eq_nil_of_length_eq_zero hx.1;subst this;exact ⟨_,hk,by simpa using ha⟩
 |x::r,[],acc,va,hx,ha,hk=>absurd hx.1 (by simp)
 |x::r,u::us,acc,va,hx,ha,hk=>by
  have hx0:RV w S φ x u:=hx.2 0 (by simp);have hr:pa (RV w S φ) r us:=⟨by simpa using hx.1,fun i hi=>by have:=hx.2 (i+1) (by simpa using hi);rwa [List.getElem_cons_succ,List.getD_cons_succ] at this⟩;have go:∀y,Rd w (JD S fp) y u->vr m k (y::acc) r->∃ys,k ys/\pa (Rd w (JD S fp)) ys (va++u::us):=by intro y hy hk;have:=Ff h r us (y::acc) (va++[u]) hr (by rw [List.reverse_cons];exact ha.snoc hy) hk;simpa using this
  cases x with
  |ref l v i n=>
   rw [Fe] at hk;unfold nK at hk;split at hk
   . rename_i v' sh d xs hb;obtain ⟨rfl,hn,hk⟩:=hk;exact go _ ((Vg h hb hn hx0).mono (fun _ _=>rfl) fun b hb=>hb.imp id fun hh=>⟨l,hh⟩) hk
   exact hk.elim
  |val v=>exact go _ ((cU hx0 rfl).mono (fun _ _=>rfl) fun b hb=>.inl hb) hk
  |arr sh xs=>exact go _ ((cU hx0 rfl).mono (fun _ _=>rfl) fun b hb=>.inl hb) hk
  |_=>exact hk.elim
theorem Pf {w:World} {S:Nat->Prop} {ys:lA} {vs:List Value} (h:pa (Rd w S) ys vs):Rd w S (bG ys) (if h:vs.toArray.size=1 then vs.toArray[0] else .tuple vs.toArray):=by
 obtain ⟨hl,hv⟩:=h;match ys,vs,hl,hv with
 | [],[],_,_=>exact .aX [] #[] rfl fun i hi=>absurd hi (du _)
 | [y],[v],_,hv=>simpa [bG] using hv 0 (by simp)
 |y::y'::r,v::v'::r',hl,hv=>
  have:¬((v::v'::r').toArray.size=1):=by simp
  rw [dif_neg this];exact .aX _ _ (by simpa using hl) (by simpa using hv)
def TZ (ops:List Oper):Bool:=ops.all fun o=>match o.op with| .defer _=>false|_=>true
theorem LJ {ops:List Oper} (h:TZ ops=true):∀(i:Nat) (o:Oper),ops.toArray[i]? =some o->∀c,o.op≠ .defer c:=by intro i o ho c hc;have:=uq5.1 h o (cj (by simpa using ho));rw [hc] at this;cases this
theorem TX.Vh {id0 g p1 p2 i1 d ty1 id2 i2 i3:Nat} {pos1:String} {af1:Array Edge} {ops tops:List Oper} {gf:FuncId} {xs:lA} {ys:List (AV × AV)} (k:Nat) (MM:List (Fin ys.length)->Mem->Prop) (ts1:Env) (hts:HZ (eR 1500000000 [] m) ts=ts1)
 (Yz:P.follows .mixedOrders=true) (hg:look ts g= .cm gf xs) (hxl:aq xs=[]) (YB:TY P gf xs ys) (YC:oG (eR 1500000000 [] m) m)
 (h0:∃m0,MM [] m0/\∀l,ah (kI (eR 1500000000 [] m) m) l=ah m0 l) (hhi:∀pre m,MM pre m->p9 m)
 (hok:(jH fn.ntmps ops&&de fn.ntmps ops&&(HX k ops&&(nR ops k&&(nR ops (k+1)&&decide (k<ops.length)))))=true)
 (qQ:(TZ ops&&(jH fn.ntmps tops&&de fn.ntmps tops)&&(decide (p1<fn.ntmps)&&decide (p2<fn.ntmps)&&decide (d<fn.ntmps)))=true)
 (QE:∀pre (x:Fin ys.length) m1,pre.length<ys.length->MM pre m1->sD P (ops.take k) (ops.take k) ((d,ys[x].2)::(p2,ys[x].2)::(p1,ys[x].1)::ts1) m1 [] fun ts' m'=>
   sL P ops ((ops.drop k).take 1) ts' m' fun ts'' m''=>sD P ops (ops.drop (k+1)) ts'' m'' (c8 (k+1) ([],[])) fun _ m3=>∃m2,MM (pre++[x]) m2/\∀l,ah m3 l=ah m2 l)
 (Xv:∀m1,MM (List.finRange ys.length) m1->sL P tops tops ts1 m1 fun ts' m'=>aN P (fun zs=>vr m' (fun zs=>post (bG zs)) [] zs) fn.results.toList ts' m' []):
 TX P fn (.block id0 (.rangeFunc (.tmp g) #[p1,p2] (.region i1 #[⟨some d,.assign (.tmp p2),ty1,pos1,af1,none⟩] false) (.block id2 (.region i2 ⟨ops⟩ true)))) (.seq (.region i3 ⟨tops⟩ false) .ret) ts m post:=by
 subst hts;refine ⟨fun w0 S0 φ fp S a w h=>wpIn_block ?_⟩;simp only [uq3,decide_eq_true_eq] at qQ;obtain ⟨⟨hnd,YD,YE⟩,⟨hp1,hp2⟩,hd⟩:=qQ;obtain ⟨φ1,fp1,h1⟩:=RS.TW rfl _ YC h;obtain ⟨m0,hm0,e0⟩:=h0;have h2:=(h1.ext (fun _=>rfl) fun l=>(e0 l).symm).cells;have had:a.defers=[]:=h.defers;have hv:=h.tm g;rw [hg] at hv;obtain ⟨cs,hcv,hcs,hrd⟩:∃cs,a.tmps.getD g Go.undef= .func (.func gf) #[] cs/\cs.size=xs.length/\∀i (h:i<xs.length),Rd w S xs[i] (cs.toList.getD i Go.undef):=by
  generalize a.tmps.getD g Go.undef=v at hv;cases hv with
  |rd _ _ h=>cases h with|cm _ _ cs h1 h2=>exact ⟨cs,rfl,h1,h2⟩
  |cm _ _ cs h1 h2=>exact ⟨cs,rfl,h1,fun i hi=>cU (h2 i hi) (bM hxl i hi)⟩
 obtain ⟨he,hit⟩:=YB;obtain ⟨vs,hvs,hst⟩:=hit w (fun b=>S b/\sw w b) cs (fun b hb=>(h.sB b hb.1).1) hcs (fun i hi=>(hrd i hi).cells)
 refine wpIn_rangeFunc_ownF (F:=Fence.wide) (n:=1) rfl (aP _) (gf:=gf) (lb:=cs) (by simpa [Act.eval] using hcv) trivial he hst (fun h k b hb=>(k b hb).trans (h b hb))
  (fun W l o o' hl _ _ _ b hb=>World.putObj_heap_other (by have:=(h.sB b hb.1).1;omega)) (Below.refl _ _) (fun _=>rfl)
  (fun pre W=>∃φ fp S2 m1,RS (Bj w0 S0) fn.ntmps φ fp S2 (HZ (eR 1500000000 [] m) ts) m1 a W/\MM pre m1/\(∀b,(S b/\sw w b)->S2 b/\W.heap[b]? =w.heap[b]?)/\∀b,S2 b->sw W b)
  (fun _ _ _=>False) ?hI (fun c s W W' row h=>h.elim) ?h0 (fun x=>{tmps:=((a.tmps.setIfInBounds p1 (vs x).1).setIfInBounds p2 (vs x).2).setIfInBounds d (vs x).2,defers:=[]}) ?S9 ?QE ?Xw
  (fun D c pre W _ _ h=>h.elim)
 case hI=>
  rintro s W W' row ⟨φ,fp,S2,m1,r,hm,hs,hc⟩ hgr hr;refine ⟨φ,fp,S2,m1,r.O7 hc hgr (fun q e=>⟨aO h.size (hr q e).1,(hr q e).2⟩),hm,fun b hb=>⟨(hs b hb).1,(xP hgr (fun r e=>(hr r e).2) (hc b (hs b hb).1)).trans (hs b hb).2⟩,fun b hb=> ?_⟩;obtain ⟨o,q1,q2⟩:=hc b hb;exact ⟨o,(xP hgr (fun r e=>(hr r e).2) ⟨o,q1,q2⟩).trans q1,q2⟩
 case h0=>exact ⟨φ1,fp1,_,m0,h2,hm0,fun b hb=>⟨hb,rfl⟩,fun b hb=>hb.2⟩
 case S9=>
  intro l x W K hK;have htz:=h.k6;refine wpIn_region_list ?_;simp only [wpListIn];rw [if_pos (show Region.wanted _ _=true from rfl)];refine WH (fun c e=>by cases e) ?_;unfold Oper.wp;simp only [execOp,Sem.run_pure,Oper.upon];have ez:Array.foldl (fun t (x:Nat × Value)=>t.setIfInBounds x.1 x.2) a.tmps (#[p1,p2].zip #[(vs x).1,(vs x).2])=(a.tmps.setIfInBounds p1 (vs x).1).setIfInBounds p2 (vs x).2:=by simp
  have e2:((a.tmps.setIfInBounds p1 (vs x).1).setIfInBounds p2 (vs x).2).getD p2 Go.undef=(vs x).2:=by
   have:p2<a.tmps.size:=by rw [htz];exact hp2
   simp [uq0,this]
  show K _ W;rw [ez];show K {tmps:=((a.tmps.setIfInBounds p1 (vs x).1).setIfInBounds p2 (vs x).2).setIfInBounds d (((a.tmps.setIfInBounds p1 (vs x).1).setIfInBounds p2 (vs x).2).getD p2 Go.undef),defers:=[]} W;rw [e2];exact hK
 case QE=>
  rintro l pre x W ⟨φ,fp,S2,m1,r,hm,hs,hc⟩ hlen;have Ta:=pj (hhi _ _ hm);have Xx:=(hvs x).1.mono (S':=S2) (w':=W) (fun b hb=>(hs b hb).2) (fun b hb=>(hs b hb).1);have Tb:=(hvs x).2.mono (S':=S2) (w':=W) (fun b hb=>(hs b hb).2) (fun b hb=>(hs b hb).1);have hno:∀{y:AV} {u:Value},Rd W S2 y u->∀l ae,(l,ae)∈an y->known m1 l ae:=fun hr l ae hl=>by rw [fT hr] at hl;cases hl
  have r2:=(((r.O8 Ta).put p1 _ _ hp1 (.rd _ _ Xx) (hno Xx)).put p2 _ _ hp2 (.rd _ _ Tb) (hno Tb)).put d _ _ hd (.rd _ _ Tb) (hno Tb);have ea:(((a.put (some p1) (vs x).1).put (some p2) (vs x).2).put (some d) (vs x).2)=({tmps:=((a.tmps.setIfInBounds p1 (vs x).1).setIfInBounds p2 (vs x).2).setIfInBounds d (vs x).2,defers:=[]}:Act):=by show ({tmps:=_,defers:=a.defers}:Act)=_;rw [had];rfl
  rw [ea] at r2;refine wpIn_block (wpIn_region_any Yz (JC (LJ hnd) (fun ⟨_,_,hh⟩=>hh) _ _ _ _ (JB k hok (QE pre x m1 hlen hm) r2 ?_)));rintro a' W' ⟨φ',fp',S',ts',m3,r3,m2,hm2,e2⟩;have r4:=r3.ext (fun _=>rfl) (m':=m2) (fun l=>(e2 l).symm);have r5:=(r.back Ta r4).cells;have hkp:∀b,(S b/\sw w b)->W'.heap[b]? =W.heap[b]? :=fun b hb=>r4.base b (r.sB b (hs b hb).1).1 fun l hl=>r.bQ l b hl (hs b hb).1;refine ⟨⟨r4.size,fun k o hk ho=> ?_⟩,hkp,φ',fp',_,m2,r5,hm2,fun b hb=>⟨⟨.inl (hs b hb).1,?_⟩,(hkp b hb).trans (hs b hb).2⟩,fun b hb=>hb.2⟩
  . refine (r4.base k (uq1.1 hk).1 fun l hl=> ?_).trans hk;obtain ⟨o',q1,q2⟩:=r.sw hl;rw [hk] at q1;cases q1;rw [ho] at q2;cases q2
  obtain ⟨o,q1,q2⟩:=hc b (hs b hb).1;exact ⟨o,(hkp b hb).trans q1,q2⟩
 case Xw=>
  rintro D xs' W hD rfl ⟨φ,fp,S2,m1,r,hm,hs,hc⟩ hK;have Ta:=pj (hhi _ _ hm);have r1:=r.O8 Ta
  have hp:=iM (P:=P) (B:=⟨W,fun l b=>b∈fp l,S2,φ,m1⟩) (N:=fn.ntmps) (ops:=tops) YD YE
   (Q:=fun e a' w'=>e= .normal/\hZ ⟨W,fun l b=>b∈fp l,S2,φ,m1⟩ fn.ntmps (fun ts' m'=>aN P (fun zs=>vr m' (fun zs=>post (bG zs)) [] zs) fn.results.toList ts' m' []) a' w')
   (fun a w h=>⟨rfl,h⟩) tops 0 (by simp) φ fp S2 _ m1 a W r1 (Xv m1 hm)
  have hp2:=iy (ds:=[{target:=.collected D,args:= #[]}]) _ _ _ hp;rw [had] at hp2;show (Code.seq (.region i3 ⟨tops⟩ false) .ret).wpIn _ _ _ _ _ _;rw [had];refine wpIn_seq (wpIn_wide.2 (wp_mono (wp_region (by simpa using hp2)) ?_));rintro e a' w' ⟨a'',rfl,rfl,φ',fp',S',ts',m',r',hk⟩;refine wpIn_ret ?_;have hnc:∀l,D∉fp l:=fun l hl=>by obtain ⟨o',q1,q2⟩:=r.sw hl;rw [hK] at q1;cases q1;cases q2
  have hK':w'.heap[D]? =some (.deferred (some [])):=(r'.base D (uq1.1 hK).1 fun l hl=>hnc l hl).trans hK;have YF:a''.defers=[]:=r'.defers;show LeavesInM Fence.wide 1 P fn a''.tmps (Ve w0 S0 post) (a''.defers++[{target:=.collected D,args:= #[]}]) .returning w';rw [YF];refine ⟨by simp,.inl ⟨D,_,rfl,run_takeDeferred hK',?_⟩⟩;have r3:=((r.Vd r').cells).O7 (fun b hb=>hb.2) (grownBy_putObj' w' D (.deferred none)) (fun q e=>by cases e;exact ⟨aO h.size hD,_,hK',rfl⟩);obtain ⟨zs,us,q1,q2,q3,q4⟩:=cL r3 fn.results.toList [] [] ⟨rfl,fun i hi=>absurd hi (du _)⟩ (fun i hi=>absurd hi (du _)) hk;obtain ⟨ys',hpo,hy⟩:=Ff r3 zs us [] [] (by simpa using q3) ⟨rfl,fun i hi=>absurd hi (du _)⟩ q1;refine ⟨_,uF q2,bG ys',_,rfl,hpo,⟨r3.size,fun b hb=>r3.base b hb (fun _ h=>h),r3.out⟩,?_⟩;show Rd _ _ _ _;refine (Pf (by simpa using hy)).mono (fun _ _=>rfl) fun b hb=> ?_;rcases hb with hb|⟨l,hb⟩
  . rcases (r3.sB b hb).2 with hh|hh
    . exact .inr ⟨hh,(r3.sB b hb).1⟩
    exact .inl hh
  rcases (r3.cw l b hb).2 with hh|⟨_,hh,_⟩
  . exact .inr ⟨hh,(r3.cw l b hb).1⟩
  exact hh.elim
end
end Go.Vc
namespace Go.Proofs
open Go.Shelf
def Tryz.zg:Go.Shelf.Ren:=⟨fun|173=>112|246=>158|283=>206|284=>207|285=>208|286=>209|129=>248|317=>247|318=>249|319=>250|320=>251|337=>268|338=>269|n=>n,fun|2=>2|3=>3|9=>9|4=>4|171=>194|0=>0|53=>174|37=>32|5=>5|173=>197|212=>232|51=>228|20=>20|213=>233|46=>177|232=>253|233=>254|n=>n,fun|17=>5|18=>6|19=>7|n=>n⟩
theorem Tryz.LK:Go.Proofs.LaysM.n173 pG Tryz.zg:={
 mixed:=by kernel_rfl
 f129:=Tryz.func248.trans (congrArg some (by kernel_rfl))
 f173:=Tryz.func112.trans (congrArg some (by kernel_rfl))
 f246:=Tryz.func158.trans (congrArg some (by kernel_rfl))
 f283:=Tryz.func206.trans (congrArg some (by kernel_rfl))
 f284:=Tryz.func207.trans (congrArg some (by kernel_rfl))
 f285:=Tryz.func208.trans (congrArg some (by kernel_rfl))
 f286:=Tryz.func209.trans (congrArg some (by kernel_rfl))
 f317:=Tryz.func247.trans (congrArg some (by kernel_rfl))
 f318:=Tryz.func249.trans (congrArg some (by kernel_rfl))
 f319:=Tryz.func250.trans (congrArg some (by kernel_rfl))
 f320:=Tryz.func251.trans (congrArg some (by kernel_rfl))
 f337:=Tryz.func268.trans (congrArg some (by kernel_rfl))
 f338:=Tryz.func269.trans (congrArg some (by kernel_rfl))
 t0:=underlying0
 a0:=isAgg0
 z0:=sizeOf0
 v0:=zeroValue0
 t2:=underlying2
 a2:=isAgg2
 z2:=sizeOf2
 v2:=zeroValue2
 t3:=underlying3
 a3:=isAgg3
 z3:=sizeOf3
 v3:=zeroValue3
 t4:=underlying4
 a4:=isAgg4
 z4:=sizeOf4
 v4:=zeroValue4
 t5:=underlying5
 a5:=isAgg5
 z5:=sizeOf5
 v5:=zeroValue5
 t9:=underlying9
 a9:=isAgg9
 z9:=sizeOf9
 v9:=zeroValue9
 t20:=underlying20
 a20:=isAgg20
 z20:=sizeOf20
 v20:=zeroValue20
 t37:=underlying32
 a37:=isAgg32
 z37:=sizeOf32
 v37:=zeroValue32
 t46:=underlying177
 a46:=isAgg177
 z46:=sizeOf177
 v46:=zeroValue177
 t51:=underlying228
 a51:=isAgg228
 z51:=sizeOf228
 v51:=zeroValue228
 t53:=underlying174
 a53:=isAgg174
 z53:=sizeOf174
 v53:=zeroValue174
 t171:=underlying194
 a171:=isAgg194
 z171:=sizeOf194
 v171:=zeroValue194
 t173:=underlying197
 a173:=isAgg197
 z173:=sizeOf197
 v173:=zeroValue197
 t212:=underlying232
 a212:=isAgg232
 z212:=sizeOf232
 v212:=zeroValue232
 t213:=underlying233
 a213:=isAgg233
 z213:=sizeOf233
 t232:=underlying253
 a232:=isAgg253
 z232:=sizeOf253
 v232:=zeroValue253
 t233:=underlying254
 a233:=isAgg254
 z233:=sizeOf254
 v233:=zeroValue254
 g17:=by kernel_rfl
 g18:=by kernel_rfl
 g19:=by kernel_rfl
 i0:=by kernel_rfl
 i2:=by kernel_rfl
 i3:=by kernel_rfl
 i4:=by kernel_rfl
 i5:=by kernel_rfl
 i9:=by kernel_rfl
 i20:=by kernel_rfl
 i37:=by kernel_rfl
 i46:=by kernel_rfl
 i51:=by kernel_rfl
 i53:=by kernel_rfl
 i171:=by kernel_rfl
 i173:=by kernel_rfl
 i212:=by kernel_rfl
 i232:=by kernel_rfl
 i233:=by kernel_rfl
 m17:=by kernel_rfl
 m18:=by kernel_rfl
 m19:=by kernel_rfl}
def Tryz.nh:Go.Shelf.Ren:=⟨fun|174=>88|247=>128|245=>129|287=>182|279=>183|280=>184|281=>185|282=>186|321=>235|322=>236|316=>237|171=>239|205=>238|243=>267|246=>158|283=>206|284=>207|285=>208|286=>209|129=>248|317=>247|318=>249|319=>250|320=>251|337=>268|338=>269|n=>n,fun|9=>9|3=>3|2=>2|75=>99|85=>100|4=>4|167=>173|5=>5|53=>174|175=>175|46=>177|168=>178|37=>32|0=>0|210=>220|21=>21|127=>238|145=>243|143=>241|171=>194|173=>197|212=>232|51=>228|20=>20|213=>233|232=>253|233=>254|80=>213|n=>n,fun|15=>1|16=>2|17=>5|18=>6|19=>7|n=>n⟩
theorem Tryz.xQ:Go.Proofs.LaysC.n174 pG Tryz.nh:={
 mixed:=by kernel_rfl
 f129:=Tryz.func248.trans (congrArg some (by kernel_rfl))
 f171:=Tryz.func239.trans (congrArg some (by kernel_rfl))
 f174:=Tryz.func88.trans (congrArg some (by kernel_rfl))
 f205:=Tryz.func238.trans (congrArg some (by kernel_rfl))
 f243:=Tryz.func267.trans (congrArg some (by kernel_rfl))
 f245:=Tryz.func129.trans (congrArg some (by kernel_rfl))
 f246:=Tryz.func158.trans (congrArg some (by kernel_rfl))
 f247:=Tryz.func128.trans (congrArg some (by kernel_rfl))
 f279:=Tryz.func183.trans (congrArg some (by kernel_rfl))
 f280:=Tryz.func184.trans (congrArg some (by kernel_rfl))
 f281:=Tryz.func185.trans (congrArg some (by kernel_rfl))
 f282:=Tryz.func186.trans (congrArg some (by kernel_rfl))
 f283:=Tryz.func206.trans (congrArg some (by kernel_rfl))
 f284:=Tryz.func207.trans (congrArg some (by kernel_rfl))
 f285:=Tryz.func208.trans (congrArg some (by kernel_rfl))
 f286:=Tryz.func209.trans (congrArg some (by kernel_rfl))
 f287:=Tryz.func182.trans (congrArg some (by kernel_rfl))
 f316:=Tryz.func237.trans (congrArg some (by kernel_rfl))
 f317:=Tryz.func247.trans (congrArg some (by kernel_rfl))
 f318:=Tryz.func249.trans (congrArg some (by kernel_rfl))
 f319:=Tryz.func250.trans (congrArg some (by kernel_rfl))
 f320:=Tryz.func251.trans (congrArg some (by kernel_rfl))
 f321:=Tryz.func235.trans (congrArg some (by kernel_rfl))
 f322:=Tryz.func236.trans (congrArg some (by kernel_rfl))
 f337:=Tryz.func268.trans (congrArg some (by kernel_rfl))
 f338:=Tryz.func269.trans (congrArg some (by kernel_rfl))
 t0:=underlying0
 a0:=isAgg0
 z0:=sizeOf0
 v0:=zeroValue0
 t2:=underlying2
 a2:=isAgg2
 z2:=sizeOf2
 v2:=zeroValue2
 t3:=underlying3
 a3:=isAgg3
 z3:=sizeOf3
 v3:=zeroValue3
 t4:=underlying4
 a4:=isAgg4
 z4:=sizeOf4
 v4:=zeroValue4
 t5:=underlying5
 a5:=isAgg5
 z5:=sizeOf5
 v5:=zeroValue5
 t9:=underlying9
 a9:=isAgg9
 z9:=sizeOf9
 v9:=zeroValue9
 t20:=underlying20
 a20:=isAgg20
 z20:=sizeOf20
 v20:=zeroValue20
 t21:=underlying21
 a21:=isAgg21
 z21:=sizeOf21
 v21:=zeroValue21
 t37:=underlying32
 a37:=isAgg32
 z37:=sizeOf32
 v37:=zeroValue32
 t46:=underlying177
 a46:=isAgg177
 z46:=sizeOf177
 v46:=zeroValue177
 t51:=underlying228
 a51:=isAgg228
 z51:=sizeOf228
 v51:=zeroValue228
 t53:=underlying174
 a53:=isAgg174
 z53:=sizeOf174
 v53:=zeroValue174
 t75:=underlying99
 a75:=isAgg99
 z75:=sizeOf99
 v75:=zeroValue99
 t85:=underlying100
 a85:=isAgg100
 z85:=sizeOf100
 v85:=zeroValue100
 t127:=underlying238
 a127:=isAgg238
 z127:=sizeOf238
 v127:=zeroValue238
 t143:=underlying241
 a143:=isAgg241
 z143:=sizeOf241
 v143:=zeroValue241
 t145:=underlying243
 a145:=isAgg243
 z145:=sizeOf243
 v145:=zeroValue243
 t167:=underlying173
 a167:=isAgg173
 z167:=sizeOf173
 v167:=zeroValue173
 t168:=underlying178
 a168:=isAgg178
 z168:=sizeOf178
 v168:=zeroValue178
 t171:=underlying194
 a171:=isAgg194
 z171:=sizeOf194
 v171:=zeroValue194
 t173:=underlying197
 a173:=isAgg197
 z173:=sizeOf197
 v173:=zeroValue197
 t175:=underlying175
 a175:=isAgg175
 z175:=sizeOf175
 v175:=zeroValue175
 t210:=underlying220
 a210:=isAgg220
 z210:=sizeOf220
 v210:=zeroValue220
 t212:=underlying232
 a212:=isAgg232
 z212:=sizeOf232
 v212:=zeroValue232
 t213:=underlying233
 a213:=isAgg233
 z213:=sizeOf233
 t232:=underlying253
 a232:=isAgg253
 z232:=sizeOf253
 v232:=zeroValue253
 t233:=underlying254
 a233:=isAgg254
 z233:=sizeOf254
 v233:=zeroValue254
 g15:=by kernel_rfl
 g16:=by kernel_rfl
 g17:=by kernel_rfl
 g18:=by kernel_rfl
 g19:=by kernel_rfl
 t80:=underlying213
 a80:=isAgg213
 z80:=sizeOf213
 v80:=zeroValue213
 i0:=by kernel_rfl
 i2:=by kernel_rfl
 i3:=by kernel_rfl
 i4:=by kernel_rfl
 i5:=by kernel_rfl
 i9:=by kernel_rfl
 i20:=by kernel_rfl
 i21:=by kernel_rfl
 i37:=by kernel_rfl
 i46:=by kernel_rfl
 i51:=by kernel_rfl
 i53:=by kernel_rfl
 i75:=by kernel_rfl
 i80:=by kernel_rfl
 i85:=by kernel_rfl
 i127:=by kernel_rfl
 i143:=by kernel_rfl
 i145:=by kernel_rfl
 i167:=by kernel_rfl
 i168:=by kernel_rfl
 i171:=by kernel_rfl
 i173:=by kernel_rfl
 i175:=by kernel_rfl
 i210:=by kernel_rfl
 i212:=by kernel_rfl
 i232:=by kernel_rfl
 i233:=by kernel_rfl
 m15:=by kernel_rfl
 m16:=by kernel_rfl
 m17:=by kernel_rfl
 m18:=by kernel_rfl
 m19:=by kernel_rfl
 c0:=by kernel_rfl
 c2:=by kernel_rfl
 c3:=by kernel_rfl
 c4:=by kernel_rfl
 c5:=by kernel_rfl
 c9:=by kernel_rfl
 c20:=by kernel_rfl
 c21:=by kernel_rfl
 c37:=by kernel_rfl
 c46:=by kernel_rfl
 c51:=by kernel_rfl
 c53:=by kernel_rfl
 c75:=by kernel_rfl
 c80:=by kernel_rfl
 c85:=by kernel_rfl
 c127:=by kernel_rfl
 c143:=by kernel_rfl
 c145:=by kernel_rfl
 c167:=by kernel_rfl
 c168:=by kernel_rfl
 c171:=by kernel_rfl
 c173:=by kernel_rfl
 c175:=by kernel_rfl
 c210:=by kernel_rfl
 c212:=by kernel_rfl
 c213:=by kernel_rfl
 c232:=by kernel_rfl
 c233:=by kernel_rfl}
def Tryz.ni:Go.Shelf.Ren:=⟨fun|146=>58|221=>81|268=>108|138=>109|143=>110|195=>154|197=>155|218=>156|219=>157|260=>201|217=>202|225=>203|224=>204|267=>205|266=>245|314=>246|n=>n,fun|9=>9|31=>35|3=>3|4=>4|0=>0|105=>155|21=>21|5=>5|46=>177|119=>224|139=>227|138=>226|146=>229|51=>228|n=>n,fun|1=>0|3=>3|4=>4|n=>n⟩
theorem Tryz.Pg:Go.Proofs.Lays.n146 pG Tryz.ni:={
 mixed:=by kernel_rfl
 f138:=Tryz.func109.trans (congrArg some (by kernel_rfl))
 f143:=Tryz.func110.trans (congrArg some (by kernel_rfl))
 f146:=Tryz.func58.trans (congrArg some (by kernel_rfl))
 f195:=Tryz.func154.trans (congrArg some (by kernel_rfl))
 f197:=Tryz.func155.trans (congrArg some (by kernel_rfl))
 f217:=Tryz.func202.trans (congrArg some (by kernel_rfl))
 f218:=Tryz.func156.trans (congrArg some (by kernel_rfl))
 f219:=Tryz.func157.trans (congrArg some (by kernel_rfl))
 f221:=Tryz.func81.trans (congrArg some (by kernel_rfl))
 f224:=Tryz.func204.trans (congrArg some (by kernel_rfl))
 f225:=Tryz.func203.trans (congrArg some (by kernel_rfl))
 f260:=Tryz.func201.trans (congrArg some (by kernel_rfl))
 f266:=Tryz.func245.trans (congrArg some (by kernel_rfl))
 f267:=Tryz.func205.trans (congrArg some (by kernel_rfl))
 f268:=Tryz.func108.trans (congrArg some (by kernel_rfl))
 f314:=Tryz.func246.trans (congrArg some (by kernel_rfl))
 t0:=underlying0
 a0:=isAgg0
 z0:=sizeOf0
 v0:=zeroValue0
 t3:=underlying3
 a3:=isAgg3
 z3:=sizeOf3
 v3:=zeroValue3
 t4:=underlying4
 a4:=isAgg4
 z4:=sizeOf4
 v4:=zeroValue4
 t5:=underlying5
 a5:=isAgg5
 z5:=sizeOf5
 v5:=zeroValue5
 t9:=underlying9
 a9:=isAgg9
 z9:=sizeOf9
 v9:=zeroValue9
 t21:=underlying21
 a21:=isAgg21
 z21:=sizeOf21
 v21:=zeroValue21
 t31:=underlying35
 a31:=isAgg35
 z31:=sizeOf35
 v31:=zeroValue35
 t46:=underlying177
 a46:=isAgg177
 z46:=sizeOf177
 v46:=zeroValue177
 t51:=underlying228
 a51:=isAgg228
 z51:=sizeOf228
 v51:=zeroValue228
 t105:=underlying155
 a105:=isAgg155
 z105:=sizeOf155
 v105:=zeroValue155
 t119:=underlying224
 a119:=isAgg224
 z119:=sizeOf224
 t138:=underlying226
 a138:=isAgg226
 z138:=sizeOf226
 v138:=zeroValue226
 t139:=underlying227
 a139:=isAgg227
 z139:=sizeOf227
 v139:=zeroValue227
 t146:=underlying229
 a146:=isAgg229
 z146:=sizeOf229
 v146:=zeroValue229
 g1:=by kernel_rfl
 g3:=by kernel_rfl
 g4:=by kernel_rfl}
def Tryz.uG:Go.Shelf.Ren:=⟨fun|156=>166|165=>217|166=>218|169=>219|240=>260|241=>261|276=>275|277=>276|n=>n,fun|31=>35|9=>9|3=>3|4=>4|0=>0|20=>20|72=>209|76=>211|70=>207|37=>32|75=>99|127=>238|164=>247|5=>5|80=>213|n=>n,fun|n=>n⟩
theorem Tryz.JE:Go.Proofs.Lays.n156 pG Tryz.uG:={
 mixed:=by kernel_rfl
 f156:=Tryz.func166.trans (congrArg some (by kernel_rfl))
 f165:=Tryz.func217.trans (congrArg some (by kernel_rfl))
 f166:=Tryz.func218.trans (congrArg some (by kernel_rfl))
 f169:=Tryz.func219.trans (congrArg some (by kernel_rfl))
 f240:=Tryz.func260.trans (congrArg some (by kernel_rfl))
 f241:=Tryz.func261.trans (congrArg some (by kernel_rfl))
 f276:=Tryz.func275.trans (congrArg some (by kernel_rfl))
 f277:=Tryz.func276.trans (congrArg some (by kernel_rfl))
 t0:=underlying0
 a0:=isAgg0
 z0:=sizeOf0
 v0:=zeroValue0
 t3:=underlying3
 a3:=isAgg3
 z3:=sizeOf3
 v3:=zeroValue3
 t4:=underlying4
 a4:=isAgg4
 z4:=sizeOf4
 v4:=zeroValue4
 t9:=underlying9
 a9:=isAgg9
 z9:=sizeOf9
 v9:=zeroValue9
 t20:=underlying20
 a20:=isAgg20
 z20:=sizeOf20
 v20:=zeroValue20
 t31:=underlying35
 a31:=isAgg35
 z31:=sizeOf35
 v31:=zeroValue35
 t37:=underlying32
 a37:=isAgg32
 z37:=sizeOf32
 v37:=zeroValue32
 t70:=underlying207
 a70:=isAgg207
 z70:=sizeOf207
 v70:=zeroValue207
 t72:=underlying209
 a72:=isAgg209
 z72:=sizeOf209
 v72:=zeroValue209
 t75:=underlying99
 a75:=isAgg99
 z75:=sizeOf99
 v75:=zeroValue99
 t76:=underlying211
 a76:=isAgg211
 z76:=sizeOf211
 v76:=zeroValue211
 t127:=underlying238
 a127:=isAgg238
 z127:=sizeOf238
 v127:=zeroValue238
 t164:=underlying247
 a164:=isAgg247
 z164:=sizeOf247
 v164:=zeroValue247}
def Tryz.qa:Go.Shelf.Ren:=⟨fun|105=>264|212=>277|99=>278|165=>217|166=>218|170=>279|169=>219|263=>292|264=>293|206=>294|240=>260|241=>261|276=>275|277=>276|n=>n,fun|9=>9|3=>3|4=>4|20=>20|0=>0|46=>177|109=>250|5=>5|72=>209|76=>211|51=>228|146=>229|53=>174|148=>266|70=>207|37=>32|75=>99|127=>238|164=>247|80=>213|n=>n,fun|n=>n⟩
theorem Tryz.LM:Go.Proofs.Lays.n105 pG Tryz.qa:={
 mixed:=by kernel_rfl
 f99:=Tryz.func278.trans (congrArg some (by kernel_rfl))
 f105:=Tryz.func264.trans (congrArg some (by kernel_rfl))
 f165:=Tryz.func217.trans (congrArg some (by kernel_rfl))
 f166:=Tryz.func218.trans (congrArg some (by kernel_rfl))
 f169:=Tryz.func219.trans (congrArg some (by kernel_rfl))
 f170:=Tryz.func279.trans (congrArg some (by kernel_rfl))
 f206:=Tryz.func294.trans (congrArg some (by kernel_rfl))
 f212:=Tryz.func277.trans (congrArg some (by kernel_rfl))
 f240:=Tryz.func260.trans (congrArg some (by kernel_rfl))
 f241:=Tryz.func261.trans (congrArg some (by kernel_rfl))
 f263:=Tryz.func292.trans (congrArg some (by kernel_rfl))
 f264:=Tryz.func293.trans (congrArg some (by kernel_rfl))
 f276:=Tryz.func275.trans (congrArg some (by kernel_rfl))
 f277:=Tryz.func276.trans (congrArg some (by kernel_rfl))
 t0:=underlying0
 a0:=isAgg0
 z0:=sizeOf0
 v0:=zeroValue0
 t3:=underlying3
 a3:=isAgg3
 z3:=sizeOf3
 v3:=zeroValue3
 t4:=underlying4
 a4:=isAgg4
 z4:=sizeOf4
 v4:=zeroValue4
 t5:=underlying5
 a5:=isAgg5
 z5:=sizeOf5
 v5:=zeroValue5
 t9:=underlying9
 a9:=isAgg9
 z9:=sizeOf9
 v9:=zeroValue9
 t20:=underlying20
 a20:=isAgg20
 z20:=sizeOf20
 v20:=zeroValue20
 t37:=underlying32
 a37:=isAgg32
 z37:=sizeOf32
 v37:=zeroValue32
 t46:=underlying177
 a46:=isAgg177
 z46:=sizeOf177
 v46:=zeroValue177
 t51:=underlying228
 a51:=isAgg228
 z51:=sizeOf228
 v51:=zeroValue228
 t53:=underlying174
 a53:=isAgg174
 z53:=sizeOf174
 v53:=zeroValue174
 t70:=underlying207
 a70:=isAgg207
 z70:=sizeOf207
 v70:=zeroValue207
 t72:=underlying209
 a72:=isAgg209
 z72:=sizeOf209
 v72:=zeroValue209
 t75:=underlying99
 a75:=isAgg99
 z75:=sizeOf99
 v75:=zeroValue99
 t76:=underlying211
 a76:=isAgg211
 z76:=sizeOf211
 v76:=zeroValue211
 t109:=underlying250
 a109:=isAgg250
 z109:=sizeOf250
 v109:=zeroValue250
 t127:=underlying238
 a127:=isAgg238
 z127:=sizeOf238
 v127:=zeroValue238
 t146:=underlying229
 a146:=isAgg229
 z146:=sizeOf229
 v146:=zeroValue229
 t148:=underlying266
 a148:=isAgg266
 z148:=sizeOf266
 v148:=zeroValue266
 t164:=underlying247
 a164:=isAgg247
 z164:=sizeOf247
 v164:=zeroValue247}
theorem Tryz.Bk:Builder.Extra pG Tryz.uG:={
 sizeBuilder:=by kernel_rfl
 liesBuilder:=by kernel_rfl
 t5:=underlying5
 a5:=isAgg5
 z5:=sizeOf5
 v5:=zeroValue5
 infoByte:=by kernel_rfl
 cellsByte:=by kernel_rfl
 sizeByte:=by kernel_rfl
 neB5:=by decide}
theorem Tryz.Fg:Builder.Extra pG Tryz.qa:={
 sizeBuilder:=by kernel_rfl
 liesBuilder:=by kernel_rfl
 t5:=underlying5
 a5:=isAgg5
 z5:=sizeOf5
 v5:=zeroValue5
 infoByte:=by kernel_rfl
 cellsByte:=by kernel_rfl
 sizeByte:=by kernel_rfl
 neB5:=by decide}
end Go.Proofs
namespace Go.Proofs
open Go.Shelf
def Tryz.Fh:Go.Shelf.Ren:=⟨fun|53=>257|64=>274|63=>273|78=>291|79=>248|70=>282|71=>283|72=>284|73=>285|74=>286|75=>287|59=>288|76=>289|77=>290|88=>295|89=>296|90=>297|91=>298|92=>299|68=>300|96=>301|n=>n,fun|22=>58|23=>2|3=>3|51=>177|0=>0|67=>228|69=>174|4=>4|61=>258|60=>257|44=>263|5=>5|9=>9|75=>268|79=>272|83=>274|84=>275|n=>n,fun|n=>n⟩
theorem Tryz.JF:Go.Proofs.SlLaysN.n53 pG Tryz.Fh:={
 mixed:=by kernel_rfl
 f53:=⟨Tryz.f257.name,by decide,Tryz.func257.trans (congrArg some (by kernel_rfl))⟩
 f59:=⟨Tryz.f288.name,by decide,Tryz.func288.trans (congrArg some (by kernel_rfl))⟩
 f63:=⟨Tryz.f273.name,by decide,Tryz.func273.trans (congrArg some (by kernel_rfl))⟩
 f64:=Tryz.func274.trans (congrArg some (by kernel_rfl))
 f68:=⟨Tryz.f300.name,by decide,Tryz.func300.trans (congrArg some (by kernel_rfl))⟩
 f70:=⟨Tryz.f282.name,by decide,Tryz.func282.trans (congrArg some (by kernel_rfl))⟩
 f71:=⟨Tryz.f283.name,by decide,Tryz.func283.trans (congrArg some (by kernel_rfl))⟩
 f72:=⟨Tryz.f284.name,by decide,Tryz.func284.trans (congrArg some (by kernel_rfl))⟩
 f73:=⟨Tryz.f285.name,by decide,Tryz.func285.trans (congrArg some (by kernel_rfl))⟩
 f74:=⟨Tryz.f286.name,by decide,Tryz.func286.trans (congrArg some (by kernel_rfl))⟩
 f75:=⟨Tryz.f287.name,by decide,Tryz.func287.trans (congrArg some (by kernel_rfl))⟩
 f76:=⟨Tryz.f289.name,by decide,Tryz.func289.trans (congrArg some (by kernel_rfl))⟩
 f77:=⟨Tryz.f290.name,by decide,Tryz.func290.trans (congrArg some (by kernel_rfl))⟩
 f78:=Tryz.func291.trans (congrArg some (by kernel_rfl))
 f79:=Tryz.func248.trans (congrArg some (by kernel_rfl))
 f88:=⟨Tryz.f295.name,by decide,Tryz.func295.trans (congrArg some (by kernel_rfl))⟩
 f89:=Tryz.func296.trans (congrArg some (by kernel_rfl))
 f90:=Tryz.func297.trans (congrArg some (by kernel_rfl))
 f91:=⟨Tryz.f298.name,by decide,Tryz.func298.trans (congrArg some (by kernel_rfl))⟩
 f92:=⟨Tryz.f299.name,by decide,Tryz.func299.trans (congrArg some (by kernel_rfl))⟩
 f96:=⟨Tryz.f301.name,by decide,Tryz.func301.trans (congrArg some (by kernel_rfl))⟩
 t0:=underlying0
 a0:=isAgg0
 z0:=sizeOf0
 v0:=zeroValue0
 t3:=underlying3
 a3:=isAgg3
 z3:=sizeOf3
 v3:=zeroValue3
 t4:=underlying4
 a4:=isAgg4
 z4:=sizeOf4
 v4:=zeroValue4
 t5:=underlying5
 a5:=isAgg5
 z5:=sizeOf5
 v5:=zeroValue5
 t9:=underlying9
 a9:=isAgg9
 z9:=sizeOf9
 v9:=zeroValue9
 t22:=underlying58
 a22:=isAgg58
 z22:=sizeOf58
 v22:=zeroValue58
 t23:=underlying2
 a23:=isAgg2
 z23:=sizeOf2
 v23:=zeroValue2
 t44:=underlying263
 a44:=isAgg263
 z44:=sizeOf263
 v44:=zeroValue263
 t51:=underlying177
 a51:=isAgg177
 z51:=sizeOf177
 v51:=zeroValue177
 t60:=underlying257
 a60:=isAgg257
 z60:=sizeOf257
 v60:=zeroValue257
 t61:=underlying258
 a61:=isAgg258
 z61:=sizeOf258
 v61:=zeroValue258
 t67:=underlying228
 a67:=isAgg228
 z67:=sizeOf228
 v67:=zeroValue228
 t69:=underlying174
 a69:=isAgg174
 z69:=sizeOf174
 v69:=zeroValue174
 t75:=underlying268
 a75:=isAgg268
 z75:=sizeOf268
 v75:=zeroValue268
 t79:=underlying272
 a79:=isAgg272
 z79:=sizeOf272
 v79:=zeroValue272
 t83:=underlying274
 a83:=isAgg274
 z83:=sizeOf274
 v83:=zeroValue274
 t84:=underlying275
 a84:=isAgg275
 z84:=sizeOf275
 v84:=zeroValue275}
def Tryz.xR:Go.Shelf.Ren:=⟨fun|43=>258|n=>n,fun|22=>58|23=>2|3=>3|4=>4|0=>0|n=>n,fun|n=>n⟩
theorem Tryz.nj:Go.Proofs.SlLaysN.n43 pG Tryz.xR:={
 mixed:=by kernel_rfl
 f43:=⟨Tryz.f258.name,by decide,Tryz.func258.trans (congrArg some (by kernel_rfl))⟩
 t0:=underlying0
 a0:=isAgg0
 z0:=sizeOf0
 v0:=zeroValue0
 t3:=underlying3
 a3:=isAgg3
 z3:=sizeOf3
 v3:=zeroValue3
 t4:=underlying4
 a4:=isAgg4
 z4:=sizeOf4
 v4:=zeroValue4
 t22:=underlying58
 a22:=isAgg58
 z22:=sizeOf58
 v22:=zeroValue58
 t23:=underlying2
 a23:=isAgg2
 z23:=sizeOf2
 v23:=zeroValue2
 i23:=by kernel_rfl}
end Go.Proofs
namespace Go.Vc
def uH (l v:Nat) (sh:Sh) (ys:lA):lA->lA->Prop
 | [],[]=>True
 |x::xs,t::r=>((∃i n,x= .ref l v i n/\i+n<=ys.length/\t= .arr sh ((ys.drop i).take n))\/((∀p,p∈an x->p.1≠l)/\t=x))/\uH l v sh ys xs r
 |_,_=>False
theorem LN {l v:Nat} {sh:Sh} {ys xs r:lA} {y:AV} (i n:Nat) (h:i+n<=ys.length) (e:y= .arr sh ((ys.drop i).take n)) (hr:uH l v sh ys xs r):uH l v sh ys (.ref l v i n::xs) (y::r):=⟨.inl ⟨i,n,rfl,h,e⟩,hr⟩
theorem Fi {l v:Nat} {sh:Sh} {ys xs r:lA} {x:AV} (h:∀p,p∈an x->p.1≠l) (hr:uH l v sh ys xs r):uH l v sh ys (x::xs) (x::r):=⟨.inr ⟨h,rfl⟩,hr⟩
theorem LO {l v:Nat} {sh:Sh} {ys:lA}:uH l v sh ys [] []:=trivial
theorem Bl {l v:Nat} {sh:Sh} {ys:lA}:∀{xs ts:lA},uH l v sh ys xs ts->ts.length=xs.length/\∀i (h1:i<xs.length) (h2:i<ts.length),
 (∃j n,xs[i]= .ref l v j n/\j+n<=ys.length/\ts[i]= .arr sh ((ys.drop j).take n))\/((∀p,p∈an xs[i]->p.1≠l)/\ts[i]=xs[i])
 | [],[],_=>⟨rfl,fun i h1=>absurd h1 (du _)⟩
 |x::xs,t::ts,⟨h1,h2⟩=>by
  obtain ⟨g1,g2⟩:=Bl h2;refine ⟨by simp [g1],fun i hi1 hi2=> ?_⟩;cases i with
  |zero=>exact h1
  |succ i=>exact g2 i (by simpa using hi1) (by simpa using hi2)
theorem H2 {P:Program} {f:FuncId} {d:Nat} {xs xt:lA} {m:Mem} {k:AV->Mem->Prop} {q:Pack k} (l v:Nat) (sh:Sh) (dp:Bool) (ys xs':lA) (hl:l<bE) (hm:ah m l=some (.row v sh dp ys)) (hx:uH l v sh ys xs xs')
 (h:gY P f xs' ((l,.gone v)::m) k):e6 P f d xs xt m k q:=by
 refine .inl fun B N φ fp S ts a w vs hR hsz hrv hxl=> ?_;have hf:=hR.XH hl hm (v:=v) rfl;obtain ⟨g1,g2⟩:=Bl hx;refine h B N _ _ _ ts a w vs hf (hsz.trans g1.symm) (fun i hi=> ?_) (fun i hi k ae hk=> ?_)
 . have hi':i<xs.length:=by omega
   rcases g2 i hi' hi with ⟨j,n,e1,e2,e3⟩|⟨e1,e2⟩
   . rw [e3];have:=hrv i hi';rw [e1] at this;exact .rd _ _ (Ck hR hl hm e2 this)
   rw [e2];refine (hrv i hi').mono (fun _ _=>rfl) (fun _ h=>.inl h) (fun l b sh ae cs e _ hb=>⟨cs,e,hb,rfl⟩) fun l' ae hl'=> ?_;rw [rp (e1 _ hl')];exact LS.le_refl _ _
 have hi':i<xs.length:=by omega
 rcases g2 i hi' hi with ⟨j,n,e1,e2,e3⟩|⟨e1,e2⟩
 . rw [e3] at hk;cases hk
 rw [e2] at hk;obtain ⟨b,h1,h2⟩:=hxl i hi' k ae hk;exact ⟨b,by rw [aw,if_neg (Ne.symm (e1 _ hk))];exact h1,h2⟩
theorem LP {P:Program} {f:FuncId} {m0:Mem} {xs:lA} {post:AV->Mem->Prop} {m:Mem} {k:AV->Mem->Prop} (hH:fK P f m0 xs post)
 (hc:(E1 (keys m0)/\okB (keys m0) m0)/\rR m m0 (keys m0)/\ck (keys m0) (aq xs)) (hk:∀r m',post r m'->k r (m'++m)):gY P f xs m k:=
 (fK.call hH (rS hc.1.1) (mC hc.2.1) (sP hc.1.2) (oK hc.2.2) hk).io
end Go.Vc
namespace Go.Vc
def Ph (ops:List Oper) (D:List Bool):lN:=(cq ops.length).filter fun i=> !D.getD i false&&(match ops[i]? with|some o=>(iw o).all fun p=>D.getD p false|none=>false)
def H3 (P:Program) (N:Nat) (ops:List Oper) (K:St):Nat->List Bool->St
 |0,_=>ng P N K
 |f+1,D=>fun ts m=>∀i,i∈Ph ops D->sL P ops ((ops.drop i).take 1) ts m (ng P N (H3 P N ops K f (D.set i true)))
def Vi (p:Nat->Prop):lN->Prop
 | []=>True
 |i::r=>p i/\Vi p r
theorem Fj {p:Nat->Prop}:∀{L:lN},Vi p L->∀i,i∈L->p i
 | [],_,i,h=>by cases h
 |_::_,⟨h1,h2⟩,i,h=>by
  rcases List.mem_cons.1 h with rfl|h
  . exact h1
  exact Fj h2 i h
theorem cu {P:Program} {N:Nat} {ops:List Oper} {K:St} {f:Nat} {D:List Bool} {ts:Env} {m:Mem} (L:lN) (h:Ph ops D=L) (hk:Vi (fun i=>sL P ops ((ops.drop i).take 1) ts m (ng P N (H3 P N ops K f (D.set i true)))) L):
 H3 P N ops K (f+1) D ts m:=fun i hi=>Fj hk i (h▸hi)
theorem rX {P:Program} {N:Nat} {ops:List Oper} {K:St} {D:List Bool} {ts:Env} {m:Mem} (h:ng P N K ts m):H3 P N ops K 0 D ts m:=h
theorem ng.go {P:Program} {N:Nat} {n:St} {ts:Env} {m:Mem} (h:n ts m):ng P N n ts m:=fun _ _ _ _ _ _ hR=>⟨_,_,_,_,_,hR,h⟩
theorem least (p:Nat->Bool):∀n,p n=false->∃i,i<=n/\p i=false/\∀j,j<i->p j=true:=by
 intro n;induction n using Nat.strongRecOn with
 |_ n ih=>
  intro h;by_cases hx:∃j,j<n/\p j=false
  . obtain ⟨j,hj,hp⟩:=hx;obtain ⟨i,h1,h2⟩:=ih j hj hp;exact ⟨i,by omega,h2⟩
  refine ⟨n,aP _,h,fun j hj=> ?_⟩;cases hp:p j with
  |true=>rfl
  |false=>exact absurd ⟨j,hj,hp⟩ hx
section
variable {P:Program} {B:eE} {N:Nat} {ops:List Oper}
theorem xS (hok:jH N ops=true) (hgs:de N ops=true) (hb:uD ops=true) {K:St} {Q:Exit->Act->World->Prop} (hQ:∀a w,hZ B N K a w->Q .normal a w):
 ∀(f:Nat) (D:List Bool) (listed:Array Bool),listed.size=ops.length->D.length=ops.length->(∀i,listed.getD i false=D.getD i false)->D.count false=f→
 ∀(φ:Nat->LS) (fp:Nat->lN) (S:Nat->Prop) (ts:Env) (m:Mem) (a:Act) (w:World),RS B N φ fp S ts m a w->H3 P N ops K f D ts m->wpAny P .any ops.toArray Q f listed a w
 |0,D,listed,hs,hl,he,hc,φ,fp,S,ts,m,a,w,h,hk=>by
  have cR:∀i,i<ops.length->D.getD i false=true:=by
   intro i hi;have hi':i<D.length:=by omega
   have hn:false∉D:=fun hm=>by have:=List.count_pos_iff.2 hm;omega
   have:D[i]≠false:=fun e=>hn (e▸uq9 hi');rw [uq6,uq7 hi'];simpa using this
  refine ⟨?_,?_⟩
  . cases hr:Region.ready .any ops.toArray listed with
    |nil=>rfl
    |cons j r=>
     have hj:j∈Region.ready .any ops.toArray listed:=by rw [hr];exact bu ..
     obtain ⟨h0,oj,hoj,_⟩:=mem_ready.1 hj;have hdj:listed.getD j false=false:=getD_both h0;have hjn:j<ops.length:=by simpa using (uq1.1 hoj).1
     rw [he,cR j hjn] at hdj;cases hdj
  obtain ⟨φ2,fp2,S2,ts2,m2,h2,hk2⟩:=hk B φ fp S a w h;exact hQ _ _ ⟨φ2,fp2,S2,ts2,m2,h2,hk2⟩
 |f+1,D,listed,hs,hl,he,hc,φ,fp,S,ts,m,a,w,h,hk=>by
  refine ⟨fun hr=> ?_,fun j hj=> ?_⟩
  . exfalso;have hm:false∈D:=List.count_pos_iff.1 (by omega);obtain ⟨n,hn,hn2⟩:=cK hm;obtain ⟨i,hi,hi2,hi3⟩:=least (fun i=>D.getD i false) n (by simp [uq6,hn,hn2]);have hil:i<ops.length:=by omega
    have hin:i∈Region.ready .any ops.toArray listed:=by
     refine mem_ready.2 ⟨getD_in (by omega) ((he i).trans hi2),ops[i],by simp [hil],fun e hee hbd=> ?_⟩;have hp:e.on∈iw ops[i]:=bf.2 ⟨e,cF.2 ⟨by simpa using hee,hbd⟩,rfl⟩;have hlt:e.on<i:=by have:=uq5.1 hb i (c7.2 hil);rw [uq7 hil] at this;have:=uq5.1 this _ hp;simpa using this
     rw [he];exact hi3 _ hlt
    rw [hr] at hin;cases hin
  obtain ⟨h0,o,hoj,dA⟩:=mem_ready.1 hj;have hdj:listed.getD j false=false:=getD_both h0;have hon:ops[j]? =some o:=by simpa using hoj
  have hjn:j<ops.length:=(uq8.1 hon).1;have hDj:D.getD j false=false:=(he j).symm.trans hdj;have hav:j∈Ph ops D:=by refine cF.2 ⟨c7.2 hjn,?_⟩;rw [hDj,hon];simp only [Bool.not_false,Bool.true_and,uq5];intro p hp;obtain ⟨e,he1,rfl⟩:=bf.1 hp;obtain ⟨he2,he3⟩:=cF.1 he1;rw [←he];exact dA e (by simpa using he2) he3
  have hsl:=hk j hav;have hdt:(ops.drop j).take 1=[o]:=by
   rw [List.drop_eq_getElem_cons hjn];rw [uq7 hjn] at hon;injection hon with hon
   rw [hon];rfl
  rw [hdt] at hsl;have hDl:D[j]'(by omega)=false:=by rw [uq6,uq7 (by omega)] at hDj;simpa using hDj
  have hc2:(D.set j true).count false=f:=by rw [List.count_set (by omega),hDl,hc];simp
  have he2:∀i,(listed.setIfInBounds j true).getD i false=(D.set j true).getD i false:=by
   intro i;by_cases e:j=i
   . subst e;simp [uq0,uq6,hs,hjn,hl]
   have:=he i;rw [uq0,uq6] at this ⊢;rw [Array.getElem?_setIfInBounds_ne e,List.getElem?_set_ne e];exact this
  have hdo:∀d,o.dst=some d->d<N:=by intro d hd;have:=uq5.1 hok o (cj hon);rw [hd] at this;simpa using this
  have next:∀a' w',hZ B N (ng P N (H3 P N ops K f (D.set j true))) a' w'->wpAny P .any ops.toArray Q f (listed.setIfInBounds j true) a' w':=by rintro a' w' ⟨φ',fp',S',ts',m',h',hk'⟩;obtain ⟨φ2,fp2,S2,ts2,m2,h2,hk2⟩:=hk' B φ' fp' S' a' w' h';exact xS hok hgs hb hQ f (D.set j true) _ (by simpa using hs) (by simpa using hl) he2 hc2 φ2 fp2 S2 ts2 m2 a' w' h2 hk2
  unfold wpOp;simp only [hoj];simp only [sL] at hsl;cases hg:o.guard with
  |none=>
   rw [hg] at hsl;rw [ct h hgs hon (show cM ops o ts=some true by simp [cM,hg])];simp only [if_true];exact .inl (gb h hsl fun v w' hgv=>next _ _ (step_done hdo hgv fun x m' hx=>hx))
  |some jw=>
   obtain ⟨g,want⟩:=jw;rw [hg] at hsl;simp only at hsl;unfold gg at hsl;split at hsl
   . rename_i c hy;by_cases hcw:c=want
     . subst hcw;rw [ct h hgs hon (show cM ops o ts=some true by simp [cM,hg,hy])];simp only [if_true];exact .inl (gb h (hsl.1 rfl) fun v w' hgv=>next _ _ (step_done hdo hgv fun x m' hx=>hx))
     rw [ct h hgs hon (show cM ops o ts=some false by simp [cM,hg,hy,hcw])];simp only [uq4,if_false];have hk2:=hsl.2 hcw;refine next _ _ (step_done (k:=fun x m'=>x= .aX []/\m'=m) hdo (h.gives (x:=.aX []) (.rd _ _ (.aX [] #[] rfl fun i hi=>absurd hi (du _))) (fun _ _ hl=>by cases hl) ⟨rfl,rfl,rfl⟩) fun x m' ⟨h1,h2⟩=> ?_)
     rw [h1,h2];exact hk2
   . rename_i hy;rw [ct h hgs hon (show cM ops o ts=some false by simp [cM,hg,hy])];simp only [uq4,if_false];refine next _ _ (step_done (k:=fun x m'=>x= .aX []/\m'=m) hdo (h.gives (x:=.aX []) (.rd _ _ (.aX [] #[] rfl fun i hi=>absurd hi (du _))) (fun _ _ hl=>by cases hl) ⟨rfl,rfl,rfl⟩) fun x m' ⟨h1,h2⟩=> ?_)
     rw [h1,h2];exact hsl
   exact hsl.elim
theorem aj.any {i:Nat} {ts:Env} {m:Mem} {Q:dc} {q:Pack (Code.region i ⟨ops⟩ true,Q)} (hm:P.follows .mixedOrders=true) (hok:(jH N ops&&de N ops&&uD ops)=true)
 (h:H3 P N ops (Q .normal) ops.length (c8 ops.length false) ts m):aj P N (.region i ⟨ops⟩ true) ts m Q q:=by
 simp only [uq3] at hok;refine ⟨fun B φ fp S a w hRS=>wp_region_any hm ?_⟩;refine xS (B:=B) hok.1.1 hok.1.2 hok.2 (fun a w hd=>hd) _ (c8 ops.length false) _ (by simp) (by simp) (fun i=> ?_) (by simp) φ fp S ts m a _ (hRS.qT rfl ⟨rfl,rfl,rfl⟩) h;rw [getD_replicate_false];rw [uq6,List.getElem?_replicate];split<;>rfl
end
theorem aj.cut (n:Nat) {P:Program} {N i:Nat} {ops:List Oper} {ts:Env} {m:Mem} {Q:dc} {q:Pack (Code.region i ⟨ops⟩ false,Q)} (hok:(jH N ops&&de N ops&&(((ops.take n).all fun o=>o.guard.isNone)&&decide (n<=ops.length)))=true)
 (h:sL P ops (ops.take n) ts m (ng P N fun ts m=>sL P ops (ops.drop n) ts m (Q .normal))):aj P N (.region i ⟨ops⟩ false) ts m Q q:=⟨fun B φ fp S a w hRS=>by
 simp only [uq3,decide_eq_true_eq] at hok;refine wp_region ?_;have:=rW (P:=P) (B:=B) (Q:=fun e a' w'=>hZ B N (Q e) a' w') hok.1.1 hok.2.1 hok.2.2 (K:=ng P N fun ts m=>sL P ops (ops.drop n) ts m (Q .normal)) (fun Dp fp0 S0 ts0 m0 a w h0 hk0=> ?_) (ops.take n) 0 (by simp) (Nat.zero_le _) φ fp S ts m a w hRS h
 . simpa using this
 obtain ⟨φ2,fp2,S2,ts2,m2,h2,hk2⟩:=hk0 B Dp fp0 S0 a w h0
 exact iM hok.1.1 hok.1.2 (fun a w hd=>hd) (ops.drop n) n rfl φ2 fp2 S2 ts2 m2 a w h2 hk2⟩
section
variable {P:Program} {B:eE} {N:Nat} {φ:Nat->LS} {fp:Nat->lN} {S:Nat->Prop} {ts:Env} {m:Mem} {a:Act} {w:World}
theorem RS.untold (h:RS B N φ fp S ts m a w) {t l v:Nat} {sh:Sh} {ys:lA} {u:Value} (ht:look ts t= .val u) (hlk:ah m l=some (.sub v sh ys u)):
 ∃φ2 fp2,RS B N φ2 fp2 S ((t,.ref l v 0 ys.length)::ts) ((l,.row v sh true ys)::m) a w:=by
 obtain ⟨b,cap,hφ,hbm,hu,bc⟩:=h.aF l _ hlk;have R1:RS B N (nJ φ l (φ l)) (nJ fp l (fp l)) S ts ((l,.row v sh true ys)::m) a w:=by
  refine h.next l (φ l) (fp l) S _ (aP _) (a8.refl _) (jD.refl _) (fun _ _ _=>rfl) (fun c hc=>⟨hc,rfl⟩) (fun c h1 h2=>absurd h1 h2) (fun l b sh ae cs e _ hb=>⟨cs,e,hb,rfl⟩)
   (fun _ _ _ _=>rfl) (fun ae _=>LS.le_refl _ _) ?_ ?_ (fun _ _ hk=>by cases hk) (h.gZ l) ?_
  . rintro ae ⟨k',h1,h2⟩;rw [hlk] at h1;cases h1;exact h2
  . exact .inr ⟨b,cap,by rw [aB];exact hφ,hbm,fun h=>(by cases h),by rw [←hu];exact bc⟩
  intro c hc;have:=h.cw l c hc;exact ⟨h.bQ l c hc,fun l' hl' hc'=>hl' (h.fI l' l c hc' hc),this.1,this.2⟩
 refine ⟨_,_,{R1 with tm:=fun t'=> ?_,tl:=fun t' l' ae hl'=> ?_}⟩
 . rw [cP];split
   . rename_i e;subst e;have htm:=h.tm t;rw [ht] at htm;obtain ⟨e1,_⟩:=aS htm;rw [←e1,hu];refine .ref _ _ _ _ _ (fun b' sh' e'=> ?_) (fun e'=> ?_) rfl
     . rw [aB,hφ] at e';simp only [LS.at.injEq] at e';obtain ⟨rfl,rfl,_⟩:=e';rw [hu] at bc;rcases ka bc with ⟨g1,g2,g3⟩|⟨b2,cap2,cs2,e2,fss2,g1,g2,g3,g4,g5,g6,g7,g8,g9⟩
       . rw [g2] at hbm;cases hbm
       simp only [Value.slice.injEq,Option.some.injEq,Addr.mk.injEq] at g1;obtain ⟨⟨rfl,_⟩,_,rfl⟩:=g1;exact ⟨_,cap,rfl,g5,.inr ⟨by rw [Nat.zero_mul],cs2,e2,g3,by rw [g4,Nat.zero_add]⟩⟩
     rw [aB,hφ] at e';cases e'
   exact R1.tm t'
 rw [cP] at hl';split at hl'
 . simp only [an,eP,Prod.mk.injEq] at hl';obtain ⟨rfl,rfl⟩:=hl';exact ⟨_,by rw [aw,if_pos rfl],aP _⟩
 exact R1.tl t' l' ae hl'
theorem hk.untold {n:St} (t l v:Nat) (sh:Sh) (ys:lA) (u:Value) (ht:look ts t= .val u) (hlk:ah m l=some (.sub v sh ys u)) (h:hk P n ((t,.ref l v 0 ys.length)::ts) ((l,.row v sh true ys)::m)):hk P n ts m:=fun B N _ _ _ a w hR=>
 have ⟨_,_,hR2⟩:=hR.untold ht hlk
 h B N _ _ _ a w hR2
theorem zh {P:Program} {f:FuncId} {l v j:Nat} {xs:lA} {m:Mem} {k:AV->Mem->Prop}
 (hf:∀us:List Value,us.length=xs.length->(∀u,u∈us->u.oneCell'=true)->Fn P f [.bq ⟨xs.length,true⟩ [.agg (us.map .val)] 0 0] false (· = .agg ((us.map .val).take j)))
 (hlk:ah m l=some (.box v xs)) (hk:k (.agg (xs.take j)) m):EO P f [.ptr l v 0 0] m k:=by
 refine ⟨.agg (xs.take j),[],hk,fun m' hm' _ k' hk' B N φ fp S ts a w vs hRS hsz hv hvl=> ?_⟩;have V1:ah m' l=some (.box v xs):=by rw [←hlk];exact hm' l ⟨.ptr l v 0 0,by simp,v,by simp [an]⟩
 obtain ⟨b,cs,e,sh,hφ,hfs,aD,hlen,hlf,hrv⟩:=hRS.aF l _ V1;have hbw:b<w.heap.size:=(uq1.1 aD).1;let us:=cs.toList.take xs.length;have hul:us.length=xs.length:=by simp [us];omega
 have hug:∀i,i<xs.length->us.getD i Go.undef=cs.toList.getD i Go.undef:=fun i hi=>by simp only [us];rw [uq6,List.getElem?_take_of_lt hi,←uq6]
 have hu1:∀u,u∈us->u.oneCell'=true:=by
  intro u hu;obtain ⟨i,hi,rfl⟩:=cK hu;have hi':i<xs.length:=by omega
  have:=(hrv i hi').aU (hlf i hi');rw [←hug i hi',uq6,uq7 hi] at this;exact this
 have hF:=hf us hul hu1;have h0:=jV (hv 0 (by simp)) b sh hφ;rw [Nat.zero_mul] at h0;have h0:vs.toList.getD 0 Go.undef= .pointer (some ⟨b,0,none⟩):=h0;refine ⟨hF.1,(hF.2 w (o9 w) vs (fun b hb=>hb) (hRS.js.mono (fun _ _=>rfl) fun b hb=>(hRS.sB b hb).1) (by simpa using hsz) fun i hi=> ?_).mono ?_⟩
 . simp only [List.length_singleton] at hi;obtain rfl:i=0:=by omega
   show Rd w (o9 w) (.bq ⟨xs.length,true⟩ [.agg (us.map .val)] 0 0) _;rw [h0]
   have:=Rd.bq (w:=w) (S:=o9 w) ⟨xs.length,true⟩ [.agg (us.map .val)] 0 0 b 0 cs e.1 (nU e cs.size) hbw aD (by simpa using hlen) (fun i hi=>by
    simp only [List.length_singleton] at hi;obtain rfl:i=0:=by omega
    exact ⟨rfl,by simpa using hul⟩) (fun i hi=>by
    simp only [List.length_singleton] at hi;obtain rfl:i=0:=by omega
    show Rd w (o9 w) (.agg (us.map .val)) _;rw [cX];refine .agg _ _ (by simp [us]) (fun i hi=>by simp [leaf]) fun i hi=> ?_;simp only [List.length_map] at hi;rw [List.getElem_map];have e1:(List.take xs.length (List.drop (0+0*xs.length) cs.toList)).toArray.toList.getD i Go.undef=us[i]:=by have h5:=hug i (by omega);rw [uq6,uq7 hi] at h5;simp only [Option.getD_some] at h5;rw [h5];show (List.take xs.length (List.drop (0+0*xs.length) cs.toList)).getD i Go.undef=_;rw [Nat.zero_mul,Nat.add_zero,List.drop_zero,uq6,List.getElem?_take_of_lt (by omega),←uq6]
    rw [e1]
    exact .val _ (hu1 _ (uq9 hi)))
   simpa using this
 rintro e' w' ⟨r,u,rfl,rfl,hg,j4⟩;simp only [iK,uq4,if_false] at j4;have hR2:=hRS.grown hg;refine ⟨u,rfl,φ,fp,S,ts,m',_,hR2,?_,fun l' ae hl'=> ?_,rfl,hk'⟩
 . obtain ⟨cs2,rfl,q1,q2,q3⟩:=od j4;obtain ⟨b2,cs3,e3,sh3,g1,g2,g3,g4,g5,g6⟩:=hR2.aF l _ V1;rw [hφ] at g1;simp only [LS.at.injEq] at g1;obtain ⟨rfl,rfl,_⟩:=g1;obtain rfl:=db (((hg.same b hbw).trans aD).symm.trans g3);have hln:((us.map AV.val).take j).length=(xs.take j).length:=by simp [hul]
   refine .agg _ _ (q1.trans hln) (fun i hi=> ?_) fun i hi=> ?_
   . rw [dB];exact g5 i _
   have hi2:i<xs.length:=by simp at hi;omega
   have:=q3 i (by rw [hln];exact hi);rw [dB,List.getElem_map] at this;have e1:cs2.toList.getD i Go.undef=us[i]'(by omega):=by have h5:=aS (RV.rd (φ:=φ) _ _ this);exact h5.1.symm
   rw [e1,dB];have:=g6 i hi2;rw [←hug i hi2,uq6,uq7 (by omega)] at this;exact this
 simp only [an] at hl';obtain ⟨i,hi,hl2⟩:=bW hl';rw [dB] at hl2;exact hRS.bl l v xs V1 l' ae (bt (by simp at hi;omega) hl2)
theorem uI {P:Program} {f:FuncId} {d l v:Nat} (j:Nat) {xs trs:lA} {m:Mem} {k:AV->Mem->Prop} {q:Pack k}
 (hf:∀us:List Value,us.length=xs.length->(∀u,u∈us->u.oneCell'=true)->Fn P f [.bq ⟨xs.length,true⟩ [.agg (us.map .val)] 0 0] false (· = .agg ((us.map .val).take j)))
 (hlk:ah m l=some (.box v xs)) (hk:k (.agg (xs.take j)) m):iQ P f d [.ptr l v 0 0] trs m k q:=.inr (.inr (zh hf hlk hk))
theorem xT {P:Program} {m:Mem} {f:FuncId} {d l ae i n:Nat} {sh:Sh} {xs xt:lA} {zs:List Value} {k:AV->Mem->Prop} {q:Pack k} (hE:Enters P f) (hlk:ah m l=some (.row ae sh true xs)) (hn:n=xs.length) (hi:i<xs.length) (hsz:0<sh.sz)
 (hzl:zs.length=sh.sz) (hz1:∀u,u∈zs->u.oneCell'=true)
 (hc:∀(w:World) (b cap:Nat) (cs:aV) (e:El),w.heap[b]? =some (eo cs e)->cs.size=cap*sh.sz->cap<=9223372036854775807->xs.length<=cap->(∀v,v∈(cs.toList.drop ((i+1)*sh.sz)).take ((xs.length-(i+1))*sh.sz)->v.oneCell'=true)→
   Calls P f #[.slice (some ⟨b,0,none⟩) xs.length cap,.int .i64 i,.int .i64 ((i+1:Nat):Int)] w fun e' w'=>e'= .returned (.slice (some ⟨b,0,none⟩) (xs.length-1) cap)∧
    ∃q,w'=((w.drewN q).setCells b (i*sh.sz) ((cs.toList.drop ((i+1)*sh.sz)).take ((xs.length-(i+1))*sh.sz))).setCells b ((xs.length-1)*sh.sz) zs)
 (hk:k (.ref l (ae+1) 0 (xs.length-1)) ((l,.row (ae+1) sh true (xs.eraseIdx i))::m)):iQ P f d [.ref l ae 0 n,.val (.int .i64 i),.val (.int .i64 ((i:Int)+1))] xt m k q:=by
 refine .inr (.inr ⟨.ref l (ae+1) 0 (xs.length-1),[(l,.row (ae+1) sh true (xs.eraseIdx i))],hk,fun m' hm' _ k' hk'=> ?_⟩);refine E6 hE ?_ hn hi hsz hzl hz1 hc hk';rw [←hlk];exact hm' l ⟨.ref l ae 0 n,by simp,ae,by simp [an]⟩
inductive dX (m:Mem):AV->List AV->Option Nat->Prop
 |ref (l v:Nat) (ys:List AV) (h:ah m l=some (.row v ⟨1,false⟩ true ys)):dX m (.ref l v 0 ys.length) ys (some l)
 |nil:dX m (.val (.slice none 0 0)) [] none
def uJ (Lb La Lc va vk:Nat) (cs ya yc:lA):Mem:=[(Lb,.box 0 (cs++[.ref La va 0 ya.length,.ref Lc vk 0 yc.length])),(La,.row va ⟨1,false⟩ true ya),(Lc,.row vk ⟨1,false⟩ true yc)]
def MZ (φ:Nat->LS) (o:Option Nat) (v:Nat):LS:=match o with
 |some l=>(match φ l with| .at b sh _=>.at b sh v|_=>.nil v)
 |none=>.nil v
def WI (fp:Nat->lN) (o:Option Nat):lN:=match o with|some l=>fp l|none=>[]
def Vj (Lb La Lc va vk:Nat) (φ:Nat->LS) (oa oc:Option Nat) (l:Nat):LS:=if l=Lb then φ Lb else if l=La then MZ φ oa va else if l=Lc then MZ φ oc vk else .dead
def QT (Lb La Lc:Nat) (fp:Nat->lN) (oa oc:Option Nat) (l:Nat):lN:=if l=Lb then fp Lb else if l=La then WI fp oa else if l=Lc then WI fp oc else []
theorem dX.br (h:RS B N φ fp S ts m a w) {x:AV} {ys:lA} {o:Option Nat} (hx:dX m x ys o) {φ':Nat->LS} {L v':Nat} (hφ:φ' L=MZ φ o v'):BR w S φ' L (WI fp o) (.row v' ⟨1,false⟩ true ys):=by
 cases hx with
 |nil=>exact .inl ⟨hφ,rfl,rfl⟩
 |ref l v _ hl=>
  rcases h.aF l _ hl with ⟨h1,h2,h3⟩|⟨b,cap,h1,h2,h3,h4⟩
  . refine .inl ⟨?_,h2,h3⟩;rw [hφ];unfold MZ;simp only [h1]
  refine .inr ⟨b,cap,?_,h2,h3,h4⟩;rw [hφ];unfold MZ;simp only [h1]
theorem dX.rv (h:RS B N φ fp S ts m a w) {x:AV} {ys:lA} {o:Option Nat} (hx:dX m x ys o) {φ':Nat->LS} {L v':Nat} (hφ:φ' L=MZ φ o v') {u:Value} (hu:RV w S φ x u):RV w S φ' (.ref L v' 0 ys.length) u:=by
 cases hx with
 |nil=>
  obtain ⟨rfl,_⟩:=aS hu;refine .ref _ _ _ _ _ (fun b sh e=> ?_) (fun _=>⟨rfl,none,rfl⟩) rfl;rw [hφ] at e;cases e
 |ref l v _ hl=>
  have hr:=dm hu;rcases h.aF l _ hl with ⟨h1,h2,h3⟩|⟨b,cap,h1,h2,h3,h4⟩
  . have e0:φ' L= .nil v':=by rw [hφ];unfold MZ;simp only [h1]
    refine .ref _ _ _ _ _ (fun b sh e=> ?_) (fun _=>hr.2 h1) (hu.aU trivial);rw [e0] at e;cases e
  have e0:φ' L= .at b ⟨1,false⟩ v':=by rw [hφ];unfold MZ;simp only [h1]
  refine .ref _ _ _ _ _ (fun b' sh' e=> ?_) (fun e=> ?_) (hu.aU trivial)
  . rw [e0] at e;simp only [LS.at.injEq] at e;obtain ⟨rfl,rfl,_⟩:=e;exact hr.1 b ⟨1,false⟩ h1
  rw [e0] at e;cases e
theorem RS.XY {w0:World} {Dp:Nat->LS} {fp0:Nat->lN} {S0:Nat->Prop} {Lb La Lc va vk:Nat} {cs0 ya0 yc0 cs ya yc:lA} {xa xc:AV} {oa oc:Option Nat}
 (h:RS (mB w0 Dp fp0 S0 (uJ Lb La Lc va vk cs0 ya0 yc0)) N φ fp S ts m a w) (hd:Lb≠La/\Lb≠Lc/\La≠Lc) (hb:ah m Lb=some (.box 0 (cs++[xa,xc]))) (hcs:aq cs=[]) (ha:dX m xa ya oa) (hc:dX m xc yc oc)
 (hne:∀l,oa=some l->oc≠some l) (hla:∀l,oa=some l->l=La\/l<bE) (hlc:∀l,oc=some l->l=Lc\/l<bE):
 RS (mB w0 Dp fp0 S0 (uJ Lb La Lc va vk cs0 ya0 yc0)) 0 (Vj Lb La Lc (va+1) (vk+1) φ oa oc) (QT Lb La Lc fp oa oc) S [] (uJ Lb La Lc (va+1) (vk+1) cs ya yc) {tmps:= #[],defers:=[]} w:=by
 obtain ⟨d1,d2,d3⟩:=hd;have eb:Vj Lb La Lc (va+1) (vk+1) φ oa oc Lb=φ Lb:=if_pos rfl;have ea:Vj Lb La Lc (va+1) (vk+1) φ oa oc La=MZ φ oa (va+1):=by unfold Vj;rw [if_neg (Ne.symm d1),if_pos rfl]
 have ec:Vj Lb La Lc (va+1) (vk+1) φ oa oc Lc=MZ φ oc (vk+1):=by unfold Vj;rw [if_neg (Ne.symm d2),if_neg (Ne.symm d3),if_pos rfl]
 have fb:QT Lb La Lc fp oa oc Lb=fp Lb:=if_pos rfl;have fa:QT Lb La Lc fp oa oc La=WI fp oa:=by unfold QT;rw [if_neg (Ne.symm d1),if_pos rfl]
 have fc:QT Lb La Lc fp oa oc Lc=WI fp oc:=by unfold QT;rw [if_neg (Ne.symm d2),if_neg (Ne.symm d3),if_pos rfl]
 have lk:∀l,ah (uJ Lb La Lc (va+1) (vk+1) cs ya yc) l=if Lb=l then some (.box 0 (cs++[.ref La (va+1) 0 ya.length,.ref Lc (vk+1) 0 yc.length])) else if La=l then some (.row (va+1) ⟨1,false⟩ true ya) else if Lc=l then some (.row (vk+1) ⟨1,false⟩ true yc) else none:=fun l=>rfl
 have own:∀l b,b∈QT Lb La Lc fp oa oc l->∃l0,b∈fp l0/\((l=Lb/\l0=Lb)\/(l=La/\oa=some l0)\/(l=Lc/\oc=some l0)):=by
  intro l b hbm;unfold QT at hbm;split at hbm
  . exact ⟨Lb,hbm,.inl ⟨‹_›,rfl⟩⟩
  split at hbm
  . cases oa with
    |none=>cases hbm
    |some l0=>exact ⟨l0,hbm,.inr (.inl ⟨‹_›,rfl⟩)⟩
  split at hbm
  . cases oc with
    |none=>cases hbm
    |some l0=>exact ⟨l0,hbm,.inr (.inr ⟨‹_›,rfl⟩)⟩
  cases hbm
 have hab:∀l,oa=some l->l≠Lb:=by
  rintro l rfl rfl;cases ha with
  |ref _ v _ hl=>rw [hb] at hl;cases hl
 have hcb:∀l,oc=some l->l≠Lb:=by
  rintro l rfl rfl;cases hc with
  |ref _ v _ hl=>rw [hb] at hl;cases hl
 have hbr:=h.aF Lb _ hb;obtain ⟨b,cz,e,sh,g1,g2,g3,g4,g5,g6⟩:=hbr;have leafs:∀x,x∈cs->leaf x:=fun x hx=>by
  obtain ⟨i,hi,rfl⟩:=cK hx;have:=g5 i (by simp;omega)
  rwa [List.getElem_append_left hi] at this
 refine {tm:=fun t=>by rw [look_nil];exact .rd _ _ (.undef _),tl:=fun t l ae hl=>(by rw [look_nil] at hl;cases hl),b7:=fun l hl=> ?_,aF:=fun l k hk=> ?_,bl:=fun l v xs hk l' ae hl=> ?_,
         gZ:=fun l=> ?_,fI:=fun l l' b h1 h2=> ?_,bQ:=fun l b hb=> ?_,cw:=fun l b hbm=> ?_,
         sB:=h.sB,base:=h.base,out:=h.out,kj:=h.kj,kn:=fun l ae hl hk=> ?_,fix:=fun l ae hl hk=> ?_,size:=h.size,defers:=rfl,k6:=rfl,js:=h.js}
 . rw [lk] at hl;split at hl
   . cases hl
   split at hl
   . cases hl
   split at hl
   . cases hl
   rename_i n1 n2 n3;exact ⟨by unfold Vj;rw [if_neg (Ne.symm n1),if_neg (Ne.symm n2),if_neg (Ne.symm n3)],by unfold QT;rw [if_neg (Ne.symm n1),if_neg (Ne.symm n2),if_neg (Ne.symm n3)]⟩
 . rw [lk] at hk;split at hk
   . rename_i el;subst el;cases hk;rw [fb];refine ⟨b,cz,e,sh,eb.trans g1,g2,g3,by simpa using g4,fun i hi=> ?_,fun i hi=> ?_⟩
     . have hm:(cs++[AV.ref La (va+1) 0 ya.length,AV.ref Lc (vk+1) 0 yc.length])[i]∈cs++[AV.ref La (va+1) 0 ya.length,AV.ref Lc (vk+1) 0 yc.length]:=uq9 hi;rcases List.mem_append.1 hm with q|q
       . exact leafs _ q
       simp only [List.mem_cons,List.not_mem_nil,or_false] at q;rcases q with q|q<;>(rw [q];trivial)
     simp only [List.length_append,List.length_cons,List.length_nil] at hi;by_cases hi1:i<cs.length
     . have q:=g6 i (by simp;omega);rw [List.getElem_append_left hi1] at q ⊢;exact .rd _ _ (cU q (bM hcs i hi1))
     by_cases hi2:i=cs.length
     . subst hi2;have q:=g6 cs.length (by simp);rw [List.getElem_append_right (aP _)] at q ⊢;simp only [Nat.sub_self,List.getElem_cons_zero] at q ⊢;exact ha.rv h ea q
     obtain rfl:i=cs.length+1:=by omega
     have q:=g6 (cs.length+1) (by simp);rw [List.getElem_append_right (by omega)] at q ⊢;simp only [Nat.add_sub_cancel_left,List.getElem_cons_succ,List.getElem_cons_zero] at q ⊢;exact hc.rv h ec q
   split at hk
   . rename_i el;subst el;cases hk;rw [fa];exact ha.br h ea
   split at hk
   . rename_i el;subst el;cases hk;rw [fc];exact hc.br h ec
   cases hk
 . rw [lk] at hk;split at hk
   . cases hk;obtain ⟨i,hi,hl⟩:=bW hl;have hm:=uq9 hi;rcases List.mem_append.1 hm with q|q
     . obtain ⟨j,hj,ej⟩:=cK q;rw [←ej,bM hcs j hj] at hl;cases hl
     simp only [List.mem_cons,List.not_mem_nil,or_false] at q;rcases q with q|q
     . rw [q] at hl;simp only [an,eP,Prod.mk.injEq] at hl;obtain ⟨rfl,rfl⟩:=hl;exact ⟨_,by rw [lk,if_neg d1,if_pos rfl],aP _⟩
     rw [q] at hl;simp only [an,eP,Prod.mk.injEq] at hl;obtain ⟨rfl,rfl⟩:=hl;exact ⟨_,by rw [lk,if_neg d2,if_neg d3,if_pos rfl],aP _⟩
   split at hk
   . cases hk
   split at hk<;>cases hk
 . unfold QT;split
   . exact h.gZ _
   split
   . cases oa with
     |none=>exact iH
     |some l0=>exact h.gZ _
   split
   . cases oc with
     |none=>exact iH
     |some l0=>exact h.gZ _
   exact iH
 . obtain ⟨p,hp,q⟩:=own l b h1;obtain ⟨p',hp',q'⟩:=own l' b h2;obtain rfl:=h.fI p p' b hp hp';rcases q with ⟨rfl,rfl⟩|⟨rfl,e1⟩|⟨rfl,e1⟩<;>rcases q' with ⟨rfl,e2⟩|⟨rfl,e2⟩|⟨rfl,e2⟩
   . rfl
   . exact absurd rfl (hab _ e2)
   . exact absurd rfl (hcb _ e2)
   . exact absurd e2 (hab _ e1)
   . rfl
   . exact absurd e2 (hne _ e1)
   . exact absurd e2 (hcb _ e1)
   . exact absurd e1 (hne _ e2)
   rfl
 . obtain ⟨p,hp,q⟩:=own l b hb;exact h.bQ p b hp
 . obtain ⟨p,hp,q⟩:=own l b hbm;obtain ⟨r1,r2⟩:=h.cw p b hp;refine ⟨r1,r2.imp id ?_⟩;rintro ⟨l',k1,k2,k3⟩;have same:p=l->∃l',(mB w0 Dp fp0 S0 (uJ Lb La Lc va vk cs0 ya0 yc0)).io l' b/\bE<=l/\(l'=l\/ah (mB w0 Dp fp0 S0 (uJ Lb La Lc va vk cs0 ya0 yc0)).m0 l=none):=by
    rintro rfl;exact ⟨l',k1,k2,k3⟩
   rcases q with ⟨rfl,rfl⟩|⟨rfl,e1⟩|⟨rfl,e1⟩
   . exact same rfl
   . rcases hla p e1 with e2|e2
     . exact same e2
     omega
   rcases hlc p e1 with e2|e2
   . exact same e2
   omega
 . obtain ⟨k,h01,h2⟩:=hk;have h1:ah (uJ Lb La Lc va vk cs0 ya0 yc0) l=some k:=h01;clear h01;unfold Go.Vc.known;rw [lk];have lk0:ah (uJ Lb La Lc va vk cs0 ya0 yc0) l=if Lb=l then some (.box 0 (cs0++[.ref La va 0 ya0.length,.ref Lc vk 0 yc0.length])) else if La=l then some (.row va ⟨1,false⟩ true ya0) else if Lc=l then some (.row vk ⟨1,false⟩ true yc0) else none:=rfl
   rw [lk0] at h1;split at h1
   . rename_i el;rw [if_pos el];cases h1;exact ⟨_,rfl,h2⟩
   rename_i el;rw [if_neg el];split at h1
   . rename_i el2;rw [if_pos el2];cases h1;exact ⟨_,rfl,Nat.le_succ_of_le h2⟩
   rename_i el2;rw [if_neg el2];split at h1
   . rename_i el3;rw [if_pos el3];cases h1;exact ⟨_,rfl,Nat.le_succ_of_le h2⟩
   cases h1
 have hk0:=hk;obtain ⟨k,h01,h2⟩:=hk;have h1:ah (uJ Lb La Lc va vk cs0 ya0 yc0) l=some k:=h01;clear h01;have lk0:ah (uJ Lb La Lc va vk cs0 ya0 yc0) l=if Lb=l then some (.box 0 (cs0++[.ref La va 0 ya0.length,.ref Lc vk 0 yc0.length])) else if La=l then some (.row va ⟨1,false⟩ true ya0) else if Lc=l then some (.row vk ⟨1,false⟩ true yc0) else none:=rfl
 have re_le:∀(o:Option Nat) (v:Nat) (x:LS),ae<v->LS.le (MZ φ o v) x ae:=by
  intro o v x hv;unfold MZ;split
  . split
    . exact LS.kz _ _ _ _ _ hv
    exact ⟨fun _ _ e=>(by cases e),fun e=>by cases e;exact absurd hv (Nat.lt_irrefl _)⟩
  exact ⟨fun _ _ e=>(by cases e),fun e=>by cases e;exact absurd hv (Nat.lt_irrefl _)⟩
 rw [lk0] at h1;split at h1
 . rename_i el;subst el;rw [eb];exact h.fix _ ae hl hk0
 split at h1
 . rename_i el2;subst el2;cases h1;rw [ea];exact re_le _ _ _ (Nat.lt_succ_of_le h2)
 split at h1
 . rename_i el3;subst el3;cases h1;rw [ec];exact re_le _ _ _ (Nat.lt_succ_of_le h2)
 cases h1
end
def WJ (Lb La Lc:Nat) (post:lA->lA->lA->Prop) (m:Mem):Prop:=
 ∃cs xa xc ya yc oa oc,ah m Lb=some (.box 0 (cs++[xa,xc]))/\aq cs=[]/\dX m xa ya oa/\dX m xc yc oc/\(∀l,oa=some l->oc≠some l)/\(∀l,oa=some l->l=La\/l<bE)/\(∀l,oc=some l->l=Lc\/l<bE)/\post cs ya yc
def Vk (P:Program) (rs:List ResultVar) (Lb La Lc:Nat) (post:AV->lA->lA->lA->Prop):dc
 | .normal=>fun ts m=>aN P (fun ys=>aq ys=[]/\WJ Lb La Lc (post (bG ys)) m) rs ts m []
 | .ret=>fun ts m=>aN P (fun ys=>aq ys=[]/\WJ Lb La Lc (post (bG ys)) m) rs ts m []
 |_=>fun _ _=>False
theorem Pj (P:Program) (rs:List ResultVar) (Lb La Lc:Nat) (post:AV->lA->lA->lA->Prop) (ts:Env) (m:Mem):
 Vk P rs Lb La Lc post .ret ts m=aN P (fun ys=>aq ys=[]/\WJ Lb La Lc (post (bG ys)) m) rs ts m []:=rfl
attribute [go_sem] Pj
theorem kN (Lb La Lc va vk:Nat) (cs ya yc:lA):keys (uJ Lb La Lc va vk cs ya yc)=[Lb,La,Lc]:=rfl
theorem fK.SA {P:Program} {f:FuncId} {fn:Func} {c:Code} {Lb La Lc va vk:Nat} {cs0 ya0 yc0:List AV} {xs:List AV} {post:AV→List AV→List AV→List AV→Prop} (hf:P.funcs[f]? =some fn) (hn:(fn.name== "runtime.NumGoroutine")=false) (hb:fn.body=some c)
 (hok:codeOk fn.ntmps c=true) (ha:xs.length<=fn.ntmps) (hd:Lb≠La/\Lb≠Lc/\La≠Lc) (hv:vc P fn.ntmps c (bH 0 xs) (uJ Lb La Lc va vk cs0 ya0 yc0) (Vk P fn.results.toList Lb La Lc post)):
 fK P f (uJ Lb La Lc va vk cs0 ya0 yc0) xs (fun r m'=>∃cs ya yc,aq cs=[]/\m'=uJ Lb La Lc (va+1) (vk+1) cs ya yc/\post r cs ya yc):=by
 refine ⟨⟨fn,c,hf,hn,hb⟩,fun w φ fp S vs hsz hR0=> ?_⟩;refine calls_of_wp hf hb ?_;have hRS:RS (mB w φ fp S (uJ Lb La Lc va vk cs0 ya0 yc0)) fn.ntmps φ fp S (bH 0 xs) (uJ Lb La Lc va vk cs0 ya0 yc0) {tmps:=vs++uq2 (fn.ntmps-vs.size) undef,defers:=[]} w:=by
  refine {hR0 with tm:=fun t=> ?_,defers:=rfl,k6:=by simp;omega};by_cases h:t<xs.length
  . have h1:=hR0.tm t;have:vs.getD t Go.undef=(vs++uq2 (fn.ntmps-vs.size) undef).getD t Go.undef:=by
     have h2:t<vs.size:=by omega
     simp only [uq0];rw [Array.getElem?_append_left h2]
    rw [←this];exact h1
  rw [bI];have:(if 0<=t then (xs[t-0]?).getD AV.undef else .undef)= .undef:=by simp [List.getElem?_eq_none (show xs.length<=t by omega)]
  rw [this];exact .rd _ _ (.undef _)
 have fR:∀a' w',hZ (mB w φ fp S (uJ Lb La Lc va vk cs0 ya0 yc0)) fn.ntmps (fun ts m=>aN P (fun ys=>aq ys=[]/\WJ Lb La Lc (post (bG ys)) m) fn.results.toList ts m []) a' w'→
  a'.defers=[]/\∃v,(results fn a'.tmps).run P w'= .ok v w'/\∃x v' m' φ' fp' S',Ending.returned v= .returned v'/\(∃cs ya yc,aq cs=[]/\m'=uJ Lb La Lc (va+1) (vk+1) cs ya yc/\post x cs ya yc)/\RV w' S' φ' x v'/\an x=[]/\Wd (keys (uJ Lb La Lc va vk cs0 ya0 yc0)) m'∧
   RS (mB w φ fp S (uJ Lb La Lc va vk cs0 ya0 yc0)) 0 φ' fp' S' [] m' {tmps:= #[],defers:=[]} w':=by
  rintro a' w' ⟨φ',fp',S',ts',m',h',hk⟩;refine ⟨h'.defers,?_⟩;obtain ⟨ys,us,⟨gV,hD⟩,h2,h3,h4⟩:=cL h' fn.results.toList [] [] ⟨rfl,fun i hi=>absurd hi (du _)⟩ (fun i hi=>absurd hi (du _)) hk;obtain ⟨h3a,h3b⟩:=h3;simp only [List.nil_append] at h3a h3b;obtain ⟨cs,xa,xc,ya,yc,oa,oc,q1,q2,q3,q4,q5,q6,q7,q8⟩:=hD;refine ⟨if h:us.toArray.size=1 then us.toArray[0] else .tuple us.toArray,?_,bG ys,_,_,_,_,S',rfl,⟨cs,ya,yc,q2,rfl,q8⟩,?_,ie gV,?_,h'.XY hd q1 q2 q3 q4 q5 q6 q7⟩
  . have hm:results fn a'.tmps=(do let vs ←fn.results.mapM (cY a'.tmps);pure (if h:vs.size=1 then vs[0] else .tuple vs)):=by
     unfold results;congr 1
    rw [hm,Sem.run_bind,Array.mapM_eq_mapM_toList];have:(bd <$> fn.results.toList.mapM (cY a'.tmps):Sem aV).run P w'= .ok us.toArray w':=by rw [map_eq_pure_bind,Sem.run_bind,h2];rfl
    rw [this];rfl
  . refine (mu h3a h3b).mono (fun _ _=>rfl) (fun _ h=>h) (fun l b sh ae cs e _ hb=>⟨cs,e,hb,rfl⟩) fun l ae hl=> ?_;rw [ie gV] at hl;cases hl
  refine sP ?_;rw [kN];refine ⟨⟨by simp,?_⟩,⟨by simp,trivial⟩,⟨by simp,trivial⟩,trivial⟩;have hin:∀(r:List (Nat × Nat)),(∀p,p∈r->p.1∈[Lb,La,Lc])->ck [Lb,La,Lc] r:=by
   intro r;induction r with
   |nil=>intro _;trivial
   |cons p r ih=>intro hp;exact ⟨hp p (by simp),ih fun p' h'=>hp p' (by simp [h'])⟩
  refine hin _ fun p hp=> ?_;obtain ⟨i,hi,hp⟩:=bW hp;have hm:=uq9 hi;rcases List.mem_append.1 hm with q|q
  . obtain ⟨j,hj,ej⟩:=cK q;rw [←ej,bM q2 j hj] at hp;cases hp
  simp only [List.mem_cons,List.not_mem_nil,or_false] at q;rcases q with q|q
  . rw [q] at hp;simp only [an,eP] at hp;subst hp;simp
  rw [q] at hp;simp only [an,eP] at hp;subst hp;simp
 refine wp_mono (cD c _ _ _ hok hv _ _ _ _ _ _ hRS) ?_;intro e a' w' hq;cases e with
 |normal=>exact fR a' w' hq
 |ret=>exact fR a' w' hq
 |_=>obtain ⟨_,_,_,_,_,_,hh⟩:=hq;exact hh.elim
theorem fK.sU {P:Program} {f:FuncId} {fn:Func} {c:Code} {Lb La Lc va vk:Nat} {cs0 ya0 yc0:lA} {xs:lA} {post:AV->lA->lA->lA->Prop} (N:Nat) (rs:List ResultVar) (hf:P.funcs[f]? =some fn) (hN:fn.ntmps=N:=by exact rfl) (hr:fn.results.toList=rs:=by exact rfl)
 (hn:(fn.name== "runtime.NumGoroutine")=false:=by exact rfl) (hb:fn.body=some c:=by exact rfl) (hok:codeOk N c=true:=by exact rfl) (ha:xs.length≤N:=by exact oT rfl) (hd:Lb≠La∧Lb≠Lc∧La≠Lc) (hv:vc P N c (bH 0 xs) (uJ Lb La Lc va vk cs0 ya0 yc0) (Vk P rs Lb La Lc post)):
 fK P f (uJ Lb La Lc va vk cs0 ya0 yc0) xs (fun r m'=>∃cs ya yc,aq cs=[]/\m'=uJ Lb La Lc (va+1) (vk+1) cs ya yc/\post r cs ya yc):=by
 subst hN;subst hr;exact fK.SA hf hn hb hok ha hd hv
theorem qv.Vl {w w':World} {S:Nat->Prop} {sh:Sh} {zs:lA} {v:Value} {fs:lN} (h:Own w' (fun _=>False) (.arr sh zs) v fs) (hnd:fs.Nodup) (hfr:∀b,b∈fs->w.heap.size<=b):qv w w' S sh zs v:=by
 have hlt:=h.lt;cases h with
 |rd _ _ h=>
  cases h with
  |nil _ a=>exact .inl ⟨rfl,a,rfl⟩
  |arr _ _ b _ _ _ _ _ hS=>exact hS.elim
 |arr _ _ b cap cs e fss hb hc hl hm hf hs hv=>
  refine .inr ⟨b,cap,rfl,hfr b (bu ..),?_⟩;have hn:=(List.nodup_cons.1 hnd).1;have:=Own.arr (w:=w') (S:=fun c=>S c\/(w.heap.size<=c/\c<w'.heap.size/\c≠b)) sh zs b cap cs e (c8 zs.length []) hb hc hl hm hf (by simp) fun i hi=>by rw [show (c8 zs.length ([]:lN)).getD i []=[] by simp [uq6,hi]];refine .rd _ _ ((hv i hi).l9 (fun _ h=>h.elim) fun c hc=> ?_);have hm2:c∈fss.flatten:=aI (by omega) hc;exact .inr ⟨hfr c (dt _ hm2),hlt c (dt _ hm2),fun e=>hn (e▸hm2)⟩
  have e0:(c8 zs.length ([]:lN)).flatten=[]:=List.flatten_eq_nil_iff.2 fun l hl=>(List.mem_replicate.1 hl).2;rw [e0] at this;exact this
theorem CM {P:Program} {f:FuncId} {xs trs:lA} {sh:Sh} {zs:lA} {m:Mem} (h0:0<sh.sz) (h:Fn P f trs true (· = .arr sh zs)) (hx:dE m (· =trs) [] xs) (l:Nat) (hio:l<bE) {k:AV->Mem->Prop}
 (hk:k (.ref l (az m l) 0 zs.length) ((l,.row (az m l) sh false zs)::m)):gY P f xs m k:=by
 intro B N φ fp S ts a w vs hR hsz hxv hxl;obtain ⟨ys,rfl,hrd⟩:=sF (Q:=(· =trs)) hR xs vs.toList [] [] ⟨by simpa using hsz,hxv⟩ ⟨rfl,fun i hi=>absurd hi (du _)⟩ hx;rw [List.nil_append] at hrd;refine ⟨h.1,(h.2 w (o9 w) vs (fun b hb=>hb) (hR.js.mono (fun _ _=>rfl) fun b hb=>(hR.sB b hb).1) (by simpa using hrd.1) hrd.2).mono ?_⟩;rintro e w' ⟨r,v,rfl,rfl,hg,T9⟩;simp only [iK,if_true] at T9;obtain ⟨fs,bc,hnd,hfr⟩:=T9;have j4:qv w w' S sh zs v:=qv.Vl bc hnd hfr;refine ⟨v,rfl,?_⟩;have hR1:=hR.grown hg;have fG:∀ae,known m l ae->ae<az m l:=by rintro ae ⟨k0,h1,h2⟩;unfold az;rw [h1];exact Nat.lt_succ_of_le h2
 have hkn:known ((l,.row (az m l) sh false zs)::m) l (az m l):=⟨_,by rw [aw,if_pos rfl],aP _⟩;rcases j4 with ⟨rfl,ad,rfl⟩|⟨b,cap,rfl,hb,bc⟩
 . have hR2:=hR1.next l (.nil (az m l)) [] S (.row (az m l) sh false []) (aP _) (a8.refl _) (jD.refl _) (fun _ _ _=>rfl) (fun c hc=>⟨hc,rfl⟩) (fun c h1 h2=>absurd h1 h2) (fun l b sh ae cs e _ hb=>⟨cs,e,hb,rfl⟩)
    (fun _ _ _ _=>rfl) (fun ae hk=>⟨fun _ _ e=>(by cases e),fun e=>by cases e;exact absurd (fG _ hk) (Nat.lt_irrefl _)⟩) (fun ae hk=>Nat.le_of_lt (fG ae hk)) (.inl ⟨by rw [aB],rfl,rfl⟩) (fun _ _ hk=>by cases hk) iH (fun c hc=>by cases hc)
   exact ⟨_,_,_,_,_,_,hR2,.ref l _ 0 0 _ (fun b sh e=>by rw [aB] at e;cases e) (fun _=>⟨rfl,ad,rfl⟩) rfl,fun l' ae hl'=>by simp only [an,eP,Prod.mk.injEq] at hl';obtain ⟨rfl,rfl⟩:=hl';exact hkn,rfl,hk⟩
 obtain ⟨cs,e,fss,hgf,aD,hcs,b6,hmx,hff,hfl,hvv⟩:=gA bc (by simp);have hbw:b<w'.heap.size:=(uq1.1 aD).1
 have hR2:=hR1.next l (.at b sh (az m l)) [b] (fun c=>S c\/(w.heap.size<=c/\c<w'.heap.size/\c≠b)) (.row (az m l) sh false zs) (aP _) (a8.refl _) (jD.refl _) (fun _ _ _=>rfl) (fun c hc=>⟨.inl hc,rfl⟩)
  (fun c h1 h2=>by
    rcases h1 with h1|⟨h1,h3,h4⟩
    . exact absurd h1 h2
    exact ⟨h3,.inl (aO hR.size h1),fun l' _ hc=>by have:=(hR.cw l' c hc).1;omega⟩)
  (fun l b sh ae cs e _ hb=>⟨cs,e,hb,rfl⟩) (fun _ _ _ _=>rfl)
  (fun ae hk=>LS.kz _ _ _ _ _ (fG ae hk)) (fun ae hk=>Nat.le_of_lt (fG ae hk))
  (.inr ⟨b,cap,by rw [aB],by simp,fun _=>rfl,bc⟩) (fun _ _ hk=>by cases hk) (by simp)
  (fun c hc=>by
    rw [eP] at hc;subst hc;refine ⟨?_,fun l' _ hc=> ?_,hbw,.inl (aO hR.size hb)⟩
    . rintro (h1|⟨_,_,h1⟩)
      . have:=(hR.sB c h1).1;omega
      exact h1 rfl
    have:=(hR.cw l' c hc).1;omega)
 refine ⟨_,_,_,_,_,_,hR2,.ref l _ 0 _ _ (fun b' sh' e'=> ?_) (fun e'=>by rw [aB] at e';cases e') rfl,fun l' ae hl'=>by simp only [an,eP,Prod.mk.injEq] at hl';obtain ⟨rfl,rfl⟩:=hl';exact hkn,rfl,hk⟩;rw [aB] at e';cases e';exact ⟨_,cap,rfl,b6,.inr ⟨by rw [Nat.zero_mul],cs,e,aD,by rw [hcs,Nat.zero_add]⟩⟩
theorem uK {P:Program} {f:FuncId} {d:Nat} {xs ts:lA} {m:Mem} {k:AV->Mem->Prop} {q:Pack k} {sh:Sh} {zs:lA} (h:Fn P f ts true (· = .arr sh zs)) (h0:0<sh.sz) (hx:dE m (· =ts) [] xs) (hio:1000*(d+1)<bE)
 (hk:k (.ref (1000*(d+1)) (az m (1000*(d+1))) 0 zs.length) ((1000*(d+1),.row (az m (1000*(d+1))) sh false zs)::m)):iQ P f d xs ts m k q:=by
 refine .inr (.inr ⟨.ref (1000*(d+1)) (az m (1000*(d+1))) 0 zs.length,[(1000*(d+1),.row (az m (1000*(d+1))) sh false zs)],hk,fun m' hm hm' k' hk'=> ?_⟩);have e:az m' (1000*(d+1))=az m (1000*(d+1)):=by unfold az;rw [hm' (1000*(d+1)) (by show ah [_] _≠none;rw [aw,if_pos rfl];exact fun e=>by cases e)]
 refine CM h0 h ?_ _ hio (by rw [e];exact hk');rw [qq (· =ts) xs [] fun x hx l hl=>hm l ⟨x,hx,hl⟩];exact hx
section
variable {P:Program} {m:Mem}
theorem xU {f:FuncId} {d l v:Nat} {xs rest trs cells:lA} {k:AV->Mem->Prop} {r:AV} {q:Pack k} (hf:Fn P f (.bq ⟨xs.length,true⟩ [.agg cells] 0 0::rest) true (· =r)) (hlk:ah m l=some (.box v xs))
 (hx:cV m (· =cells) [] xs) (hl:aq rest=[]) (hk:mU (1000*(d+1)) r m k):e6 P f d (.ptr l v 0 0::rest) trs m k q:=by
 refine .inl fun B N φ fp S ts a w vs hRS hsz hv hvl=>⟨hf.1,?_⟩;have hS:∀b,S b->o9 w b:=fun b hb=>(hRS.sB b hb).1;obtain ⟨b,cs,e,sh,hφ,hfs,aD,hlen,hlf,hrv⟩:=hRS.aF l _ hlk;have r0:Rd w (o9 w) (.bq ⟨xs.length,true⟩ [.agg cells] 0 0) (vs.toList.getD 0 Go.undef):=by
  have h0:=jV (hv 0 (by simp)) b sh hφ;rw [Nat.zero_mul] at h0;have h0:vs.toList.getD 0 Go.undef= .pointer (some ⟨b,0,none⟩):=h0;rw [h0]
  obtain ⟨ys,rfl,g1,g2⟩:=ou (Q:=(· =cells)) hRS xs (cs.toList.take xs.length) [] [] ⟨by simp;omega,fun i hi=>by
   have:=hrv i hi;have e1:(cs.toList.take xs.length).getD i Go.undef=cs.toList.getD i Go.undef:=by rw [uq6,List.getElem?_take_of_lt hi,←uq6]
   rw [e1];exact this⟩ ⟨rfl,fun i hi=>absurd hi (du _)⟩ hx
  rw [List.nil_append] at g1 g2;have hyl:ys.length=xs.length:=by rw [←g1];simp;omega
  have:=Rd.bq (w:=w) (S:=o9 w) ⟨xs.length,true⟩ [.agg ys] 0 0 b 0 cs e.1 (nU e cs.size) ?_ aD (by simpa using hlen) (fun i hi=> ?_) (fun i hi=> ?_)
  . simpa using this
  . exact (uq1.1 aD).1
  . simp only [List.length_singleton] at hi;obtain rfl:i=0:=by omega
    exact ⟨rfl,hyl⟩
  simp only [List.length_singleton] at hi;obtain rfl:i=0:=by omega
  show Rd w (o9 w) (.agg ys) _;rw [cX];refine .agg ys _ (by simp;omega) (fun i hi=>(g2 i hi).2) fun i hi=> ?_;have:=(g2 i hi).1;simpa using this
 refine (hf.2 w (o9 w) vs (fun b hb=>hb) (hRS.js.mono (fun _ _=>rfl) fun b hb=>(hRS.sB b hb).1) (by simpa using hsz) fun i hi=> ?_).mono ?_
 . cases i with
   |zero=>exact r0
   |succ i=>
    have hi':i+1<(AV.ptr l v 0 0::rest).length:=by simpa using hi
    exact (cU (hv (i+1) hi') (bM hl i (by simpa using hi))).mono (fun _ _=>rfl) hS
 rintro e w' ⟨r',v,rfl,rfl,hg,j4⟩;simp only [iK,if_true] at j4;obtain ⟨fs,bc,hnd,hfr⟩:=j4;have hR2:=hRS.grown hg;obtain ⟨φ',fp',y,m',g1,g2,g3,g4⟩:=Cj hR2 bc hnd (fun b hb=>⟨aO hRS.size (hfr b hb),fun hs=>by have:=(hRS.sB b hs).1;have:=hfr b hb;omega,fun l hl=>by have:=(hRS.cw l b hl).1;have:=hfr b hb;omega⟩) _ hk;exact ⟨v,rfl,φ',fp',S,ts,m',y,g1.rs,g3,g4,rfl,g2⟩
end
abbrev eI (n:Int):AV:=.val (.int .i64 n)
abbrev eB (b:Bool):AV:=.val (.bool b)
abbrev aQ (xs:lI):AV:=.arr ⟨1,false⟩ (xs.map eI)
theorem dw {α:Type} (p:α->Bool) (xs:List α) (i:Nat) (h:i<xs.length):(xs.take (i+1)).all p=((xs.take i).all p&&p xs[i]):=by rw [List.take_succ_eq_append_getElem h,List.all_append];simp
theorem gL {α:Type} {p:α->Bool} {xs:List α} {i:Nat} (h:i<xs.length) (hp:p xs[i]=false):xs.all p=false:=by rw [List.all_eq_false];exact ⟨xs[i],uq9 h,by simp [hp]⟩
def fill {α β:Type} (f:α->β) (z:β) (xs:List α) (i:Nat):List β:=(xs.take i).map f++c8 (xs.length-i) z
theorem nk {α β:Type} (f:α->β) (xs:List α):(xs.map f).take xs.length=xs.map f:=by rw [←List.map_take,aW]
attribute [go_sem] nk
theorem aE {i n:Nat} (h:i<n):decide ((i:Int)<(n:Int))=true:=dT (by omega)
theorem aA (n:Nat):decide ((n:Int)<(n:Int))=false:=dF (by omega)
theorem get_some {α:Type} {xs:List α} {i:Nat} (h:i<xs.length):xs[i]? =some xs[i]:=uq7 h
def JG {β:Type} (f:Nat->β) (zs:List β) (i:Nat):List β:=(cq i).map f++zs.drop i
theorem Pk {β:Type} (f:Nat->β) (zs:List β):JG f zs 0=zs:=by simp [JG]
theorem SB {β:Type} (f:Nat->β) (zs:List β) (n:Nat) (h:zs.length<=n):JG f zs n=(cq n).map f:=by simp [JG,List.drop_eq_nil_of_le h]
theorem SC {β:Type} (f:Nat->β) (zs:List β) (i:Nat) (h:i<=zs.length):(JG f zs i).length=zs.length:=by simp [JG];omega
theorem SD {β:Type} (f:Nat->β) (zs:List β) (i:Nat) (h:i<zs.length):(JG f zs i)[i]? =some zs[i]:=by rw [JG,List.getElem?_append_right (by simp)];simp [h]
theorem SE {β:Type} (f:Nat->β) (zs:List β) (i:Nat) (h:i<zs.length):(JG f zs i).set i (f i)=JG f zs (i+1):=by rw [JG,JG,List.set_append_right _ _ (by simp),bO,List.map_append];simp only [List.length_map,List.length_range,Nat.sub_self,List.map_cons,List.map_nil,List.append_assoc];rw [List.drop_eq_getElem_cons h];rfl
theorem Fk {α:Type} {f:α->AV} (xs:List α) (h:∀x,b9 (f x)=true):bn (xs.map f)=true:=by
 induction xs with
 |nil=>rfl
 |cons x r ih=>rw [List.map_cons,mM,h,ih];rfl
theorem XZ {α:Type} (z:α):c8 0 z=[]:=rfl
theorem X0 {α:Type} (z:α):c8 1 z=[z]:=rfl
theorem X1 {α:Type} (z:α):c8 2 z=[z,z]:=rfl
theorem X2 {α:Type} (z:α):c8 6 z=[z,z,z,z,z,z]:=rfl
theorem X3 {α:Type} (z:α):c8 7 z=[z,z,z,z,z,z,z]:=rfl
theorem X4 {α:Type} (z:α):c8 9 z=[z,z,z,z,z,z,z,z,z]:=rfl
theorem WK {α:Type} (z:α):c8 11 z=[z,z,z,z,z,z,z,z,z,z,z]:=rfl
attribute [go_sem] Fk List.take_take Nat.min_self List.map_take List.append_nil List.length_append List.length_take XZ X0 X1 X2 X3 X4 WK
theorem Vn:bE=1000000000:=rfl
attribute [go_sem] ne_eq not_false_eq_true Vn decide_true decide_false Bool.not_true Bool.not_false bne_self_eq_false
attribute [go_sem] List.length_set
theorem T0 {α:Type} [DecidableEq α] {xs ys:List α} {i:Nat} (hi:i<xs.length) (hy:i<ys.length) (h:xs[i]≠ys[i]):decide (xs=ys)=false:=
 dF fun e=>h (by subst e;rfl)
theorem Pl {α:Type} {xs ys:List α} {i:Nat} (hi:i<xs.length) (hy:i<ys.length) (hI:xs.take i=ys.take i) (h:xs[i]=ys[i]):xs.take (i+1)=ys.take (i+1):=by rw [List.take_succ_eq_append_getElem hi,List.take_succ_eq_append_getElem hy,hI,h]
open Go.Lib
abbrev eS (bs:lU):AV:=.val (.string ⟨bs.toArray⟩)
abbrev lZ (xs:List lU):AV:=.arr ⟨1,false⟩ (xs.map eS)
theorem LQ (a b:lU):(⟨a.toArray⟩:ByteArray)++⟨b.toArray⟩=⟨(a++b).toArray⟩:=by apply ByteArray.ext;rw [ByteArray.data_append];simp
theorem pw (a:lU):(⟨a.toArray⟩:ByteArray).size=a.length:=by show a.toArray.size=_;simp
theorem nn (a:lU):(⟨a.toArray⟩:ByteArray).data.toList=a:=rfl
theorem SF (a:lU):(⟨a.toArray⟩:ByteArray).toList=a:=by rw [ByteArray.toList_eq]
theorem np (a:lU) (i j:Nat):(⟨a.toArray⟩:ByteArray).extract i j=⟨((a.take j).drop i).toArray⟩:=by apply ByteArray.ext;rw [ByteArray.data_extract];simp;exact List.drop_take.symm
theorem py (u:Nat):∀c∈decDigits u,48<=c.toNat/\c.toNat<=57:=by
 induction u using Nat.strongRecOn with
 |_ u ih=>
  have one:∀k,k<10->48<=(UInt8.ofNat (48+k)).toNat/\(UInt8.ofNat (48+k)).toNat<=57:=by intro k hk;rw [UInt8.toNat_ofNat_of_lt' (by show 48+k<256;omega)];omega
  by_cases h:u<10
  . rw [decDigits,dif_pos h];intro c hc;rw [eP] at hc;subst hc;exact one u h
  rw [decDigits,dif_neg h];intro c hc;rcases List.mem_append.1 hc with hc|hc
  . exact ih (u / 10) (by omega) c hc
  rw [eP] at hc;subst hc;exact one (u%10) (by omega)
def jL (acc:Nat) (l:lU):Nat:=l.foldl (fun a c=>a*10+(c.toNat-48)) acc
theorem xV (acc:Nat):jL acc []=acc:=rfl
theorem mE (acc:Nat) (c:UInt8) (r:lU):jL acc (c::r)=jL (acc*10+(c.toNat-48)) r:=by simp only [jL,List.foldl_cons]
theorem Fl (acc:Nat) (a b:lU):jL acc (a++b)=jL (jL acc a) b:=List.foldl_append
theorem JH:∀(l:lU) (acc:Nat),acc<=jL acc l
 | [],acc=>aP _
 |c::r,acc=>by rw [mE];have:=JH r (acc*10+(c.toNat-48));omega
theorem rY:∀(l:lU) (acc:Nat),(∀c∈l,48<=c.toNat/\c.toNat<=57)->jL acc l+1<=(acc+1)*10^l.length
 | [],acc,_=>by simp [xV]
 |c::r,acc,h=>by rw [mE,List.length_cons,Nat.pow_succ];have h1:=h c (bu ..);refine aO (rY r _ fun x hx=>h x (dt _ hx)) ?_;rw [Nat.mul_comm (10^r.length) 10,←Nat.mul_assoc];exact Nat.mul_le_mul_right _ (by omega)
theorem Pm (u:Nat):∀acc,jL acc (decDigits u)=acc*10^nDigits u+u:=by
 induction u using Nat.strongRecOn with
 |_ u ih=>
  intro acc;have one:∀k,k<10->(UInt8.ofNat (48+k)).toNat-48=k:=by intro k hk;rw [UInt8.toNat_ofNat_of_lt' (by show 48+k<256;omega)];omega
  by_cases h:u<10
  . rw [decDigits,dif_pos h,nDigits_small h,mE,xV,one u h]
  rw [decDigits,dif_neg h,nDigits_big h,Fl,ih (u / 10) (by omega),mE,xV,one (u%10) (by omega),Nat.pow_succ,Nat.add_mul,Nat.mul_assoc];omega
theorem sV (u:Nat):jL 0 (decDigits u)=u:=by rw [Pm];simp
theorem Pn (u:Nat):decDigits u≠[]:=by intro h;have:=decDigits_length u;rw [h] at this;have:=nDigits_pos u;simp at*;omega
theorem Po (u:Nat):itoa (u:Int)=decDigits u:=by unfold itoa;rw [if_neg (by omega)];simp
theorem e7 {n:Int} (h:0<=n):itoa n=decDigits n.toNat:=by unfold itoa;rw [if_neg (by omega)]
theorem Bm (M:Nat) (hM:M<=18446744073709551615):∀(l:lU) (acc:Nat),(∀c∈l,48<=c.toNat/\c.toNat<=57)->jL acc l<=M->parseUintM M acc l= .ok (jL acc l)
 | [],acc,_,_=>rfl
 |c::r,acc,hd,hv=>by have h1:=hd c (bu ..);rw [mE] at hv ⊢;have h2:=JH r (acc*10+(c.toNat-48));rw [parseUintM,if_pos h1,if_neg (by omega),if_neg (by omega)];exact Bm M hM r _ (fun x hx=>hd x (dt _ hx)) hv
theorem xW (u:Nat) (h:u<=18446744073709551615):parseUintB 64 (decDigits u)= .ok u:=by rw [parseUintB,if_neg (Pn u),Bm _ (by decide) _ _ (py u) (by rw [sV];exact h),sV]
theorem qx {v:Int} (h:km v):parseIntB 64 (itoa v)= .ok v:=by
 obtain ⟨h0,h1⟩:=h;have e63:(2:Nat)^(64-1)=9223372036854775808:=by decide
 by_cases hn:v<0
 . rw [itoa,if_pos hn];simp only [parseIntB];rw [if_pos (.inr rfl),xW _ (by omega)];simp only [e63];rw [if_neg (by rintro ⟨q,_⟩;exact q rfl),if_neg (by rintro ⟨_,q⟩;omega),if_pos (show (45:UInt8).toNat=45 from rfl)];congr 1;omega
 rw [itoa,if_neg hn];have hd:=py v.toNat;have hp:=xW v.toNat (by omega);cases hl:decDigits v.toNat with
 |nil=>exact absurd hl (Pn _)
 |cons c r=>
  rw [hl] at hd hp;have hc:=hd c (bu ..);have n1:¬c.toNat=45:=by omega
  simp only [parseIntB,e63];rw [if_neg (by omega),hp];simp only [];rw [if_neg (by omega),if_neg (by omega),if_neg n1];congr 1;omega
theorem uL {l:lU} {v:Int} (h:parseIntB 64 l= .ok v):km v:=by
 have e63:(2:Nat)^(64-1)=9223372036854775808:=by decide
 unfold parseIntB at h;cases l with
 |nil=>cases h
 |cons c r=>
  simp only [e63] at h;split at h
  . cases h
  . cases h
  split at h
  . cases h
  split at h
  . cases h
  rename_i n1 n2;injection h with h
  subst h;unfold km;split<;>rename_i hc
  . have:¬9223372036854775808<_:=fun q=>n2 ⟨hc,q⟩;omega
  have:¬9223372036854775808<=_:=fun q=>n1 ⟨hc,q⟩;omega
theorem Pp {m n:Int} (hm:km m) (hn:km n) (h:itoa m=itoa n):m=n:=by have h1:=qx hm;rw [h,qx hn] at h1;injection h1 with h1;exact h1.symm
def pL (s:lU):Int × Bool:=match parseIntB 64 s with
 | .ok v=>(v,decide (itoa v=s))
 | .range=>(intSat 64 s,false)
 |_=>(0,false)
theorem LR {v:Int} (h:km v):pL (itoa v)=(v,true):=by rw [pL,qx h];simp
theorem Bo {s:lU} (h:(pL s).2=true):km (pL s).1/\s=itoa (pL s).1:=by
 unfold pL at*;split at h
 . rename_i v hv;exact ⟨uL hv,(oT h).symm⟩
 . cases h
 cases h
def dS (s:lU):Int × Bool:=
 if s.length<1\/13<s.length then (0,false) else
  if (s.all fun c=>decide (48<=c.toNat)&&decide (c.toNat<=57))=true then ((jL 0 s:Nat),decide (decDigits (jL 0 s)=s)) else (0,false)
theorem Pq {u:Nat} (h:nDigits u<=13):dS (decDigits u)=((u:Int),true):=by
 have h1:=nDigits_pos u;rw [dS,if_neg (by rw [decDigits_length];omega),if_pos,sV]
 . simp
 rw [uq5];intro c hc;have:=py u c hc;simp;omega
theorem sW {s:lU} (h:(dS s).2=true):0<=(dS s).1/\s=itoa (dS s).1:=by
 unfold dS at*;split at h
 . cases h
 split at h
 . rename_i h1 h2;rw [if_neg h1,if_pos h2];exact ⟨Int.natCast_nonneg _,by rw [Po];exact (oT h).symm⟩
 cases h
def di (c:UInt8):lU->List lU
 | []=>[[]]
 |b::l=>if b=c then []::di c l else match di c l with
  |h::t=>(b::h)::t
  | []=>[[b]]
theorem sX (c:UInt8):∀l,di c l≠[]
 | []=>by simp [di]
 |b::l=>by
  rw [di];split
  . simp
  split<;>simp
theorem rZ {c:UInt8}:∀{l:lU},c∉l->di c l=[l]
 | [],_=>rfl
 |b::l,h=>by rw [di,if_neg (fun e=>h (by rw [e];exact bu ..)),rZ (fun q=>h (dt _ q))]
theorem CN {c:UInt8}:∀{a:lU} (r:lU),c∉a->di c (a++c::r)=a::di c r
 | [],r,_=>by rw [List.nil_append,di,if_pos rfl]
 |b::l,r,h=>by rw [List.cons_append,di,if_neg (fun e=>h (by rw [e];exact bu ..)),CN r (fun q=>h (dt _ q))]
theorem Fm {c:UInt8} {l:lU} {i:Nat} (hi:l[i]? =some c) (hno:∀k,k<i->l[k]? ≠some c):di c l=l.take i::di c (l.drop (i+1)):=by
 obtain ⟨hlt,he⟩:=uq8.1 hi;have e:l=l.take i++c::l.drop (i+1):=by rw [←he,←List.drop_eq_getElem_cons hlt,List.take_append_drop]
 have hn:c∉l.take i:=by
  intro hc;obtain ⟨k,hk,hkc⟩:=cK hc;have hk2:k<i:=by simp at hk;omega
  refine hno k hk2 ?_;rw [dB] at hkc;rw [uq7 (by omega),hkc]
 conv=>lhs;rw [e]
 exact CN _ hn
theorem vH (l:lU) (c:UInt8):indexB ⟨l.toArray⟩ ⟨#[c]⟩=indexByte l c:=index_one l c
theorem H4 (c:UInt8):∀(k:Nat) (l:lU),countB ⟨l.toArray⟩ ⟨#[c]⟩=k->splitB ⟨#[c]⟩ 0 k ⟨l.toArray⟩=(di c l).map fun a=>⟨a.toArray⟩:=by
 intro k;induction k with
 |zero=>
  intro l hl;rcases indexB_cases ⟨l.toArray⟩ ⟨#[c]⟩ with h|⟨i,h,_⟩
  . rw [splitB_miss _ _ _ _ h];rw [vH] at h;have hn:c∉l:=by
     intro hc;obtain ⟨j,hj,e⟩:=cK hc;exact indexByte_none h j (by rw [uq7 hj,e])
    rw [rZ hn];rfl
  rw [countB_hit _ _ i (show 1<=(⟨#[c]⟩:ByteArray).size from aP 1) h] at hl;omega
 |succ k ih=>
  intro l hl;rcases indexB_cases ⟨l.toArray⟩ ⟨#[c]⟩ with h|⟨i,h,_⟩
  . rw [countB_miss _ _ h] at hl;omega
  rw [countB_hit _ _ i (show 1<=(⟨#[c]⟩:ByteArray).size from aP 1) h] at hl;rw [splitB_hit _ _ _ _ _ h];rw [vH] at h;obtain ⟨h1,h2⟩:=indexByte_some h;have e1:(⟨#[c]⟩:ByteArray).size=1:=rfl;have e2:(⟨l.toArray⟩:ByteArray).extract (i+1) (⟨l.toArray⟩:ByteArray).size=⟨(l.drop (i+1)).toArray⟩:=by rw [pw,np,aW]
  have e3:(⟨l.toArray⟩:ByteArray).extract 0 (i+0)=⟨(l.take i).toArray⟩:=by rw [np];simp
  rw [e1,e2] at hl;rw [e1,e2,e3,ih _ (by omega),Fm h1 h2];simp
theorem LU (c:UInt8):∀(k:Nat) (l:lU),countB ⟨l.toArray⟩ ⟨#[c]⟩=k->(di c l).length=k+1:=by
 intro k;induction k with
 |zero=>
  intro l hl;rcases indexB_cases ⟨l.toArray⟩ ⟨#[c]⟩ with h|⟨i,h,_⟩
  . rw [vH] at h;have hn:c∉l:=by
     intro hc;obtain ⟨j,hj,e⟩:=cK hc;exact indexByte_none h j (by rw [uq7 hj,e])
    rw [rZ hn];rfl
  rw [countB_hit _ _ i (show 1<=(⟨#[c]⟩:ByteArray).size from aP 1) h] at hl;omega
 |succ k ih=>
  intro l hl;rcases indexB_cases ⟨l.toArray⟩ ⟨#[c]⟩ with h|⟨i,h,_⟩
  . rw [countB_miss _ _ h] at hl;omega
  rw [countB_hit _ _ i (show 1<=(⟨#[c]⟩:ByteArray).size from aP 1) h] at hl;rw [vH] at h;obtain ⟨h1,h2⟩:=indexByte_some h;have e1:(⟨#[c]⟩:ByteArray).size=1:=rfl;have e2:(⟨l.toArray⟩:ByteArray).extract (i+1) (⟨l.toArray⟩:ByteArray).size=⟨(l.drop (i+1)).toArray⟩:=by rw [pw,np,aW]
  rw [e1,e2] at hl;rw [Fm h1 h2,List.length_cons,ih _ (by omega)]
open Go.Proofs
theorem SG:QR pG 9 (fun t:lU=>t.length<=maxLen) (fun t=>[eS t]):=
 (QR.string underlying9).map fun s h=>⟨s.data.toList,h,rfl⟩
theorem Zb:aJ pG 2=some ⟨false,1,8,.val (.int .i64 0),[],0,.int .i64⟩:=by kernel_rfl
theorem Zc:aJ pG 3=some ⟨false,1,8,.val (.int .i64 0),[],0,.int .i64⟩:=by kernel_rfl
theorem Zd:aJ pG 4=some ⟨false,1,1,.val (.bool false),[],0,.bool⟩:=by kernel_rfl
theorem Ze:aJ pG 5=some ⟨false,1,1,.val (.int .u8 0),[],0,.int .u8⟩:=by kernel_rfl
theorem Zf:aJ pG 9=some ⟨false,1,16,.val (.string ⟨#[]⟩),[],0,.string⟩:=by kernel_rfl
theorem X5:aJ pG 21=some ⟨false,1,4,.val (.int .i32 0),[],0,.int .i32⟩:=by kernel_rfl
theorem X6:aJ pG 23=some ⟨true,5,40,.agg [.val (.int .i64 0),.val (.int .i64 0),.val (.int .i64 0),.val (.int .i64 0),.val (.int .i64 0)],[(0,1,false),(1,1,false),(2,1,false),(3,1,false),(4,1,false)],0,.struct⟩:=by kernel_rfl
theorem X7:aJ pG 24=some ⟨false,1,24,.val (.slice none 0 0),[],58,.slice⟩:=by kernel_rfl
theorem X8:aJ pG 26=some ⟨true,7,88,.agg [.val (.int .i64 0),.val (.int .i64 0),.val (.int .i64 0),.val (.int .i64 0),.val (.int .i64 0),.val (.slice none 0 0),.val (.slice none 0 0)],[(0,5,true),(5,1,false),(6,1,false)],0,.struct⟩:=by kernel_rfl
theorem X9:aJ pG 32=some ⟨false,1,24,.val (.slice none 0 0),[],5,.slice⟩:=by kernel_rfl
theorem Ya:aJ pG 35=some ⟨false,1,24,.val (.slice none 0 0),[],9,.slice⟩:=by kernel_rfl
theorem Yb:aJ pG 58=some ⟨false,1,24,.val (.slice none 0 0),[],2,.slice⟩:=by kernel_rfl
theorem Yc:aJ pG 63=some ⟨false,1,8,.val .nilFunc,[],0,.other⟩:=by kernel_rfl
theorem Yd:aJ pG 65=some ⟨false,1,8,.val .nilFunc,[],0,.other⟩:=by kernel_rfl
theorem Ye:aJ pG 87=some ⟨false,1,8,.val .nilFunc,[],0,.other⟩:=by kernel_rfl
theorem Yf:aJ pG 99=some ⟨false,1,16,.val .nilIface,[],0,.iface⟩:=by kernel_rfl
theorem WL:aJ pG 110=some ⟨true,6,64,.agg [.val (.int .i64 0),.val (.int .i64 0),.val (.int .i64 0),.val (.int .i64 0),.val (.int .i64 0),.val (.slice none 0 0)],[(0,5,true),(5,1,false)],0,.struct⟩:=by kernel_rfl
theorem WM:aJ pG 116=some ⟨false,1,24,.val (.slice none 0 0),[],121,.slice⟩:=by kernel_rfl
theorem WN:aJ pG 121=some ⟨true,1,24,.agg [.val (.slice none 0 0)],[(0,1,false)],0,.struct⟩:=by kernel_rfl
theorem WO:aJ pG 164=some ⟨false,1,24,.val (.slice none 0 0),[],24,.slice⟩:=by kernel_rfl
theorem WQ:aJ pG 183=some ⟨true,11,120,.agg [.val (.int .i64 0),.val (.int .i64 0),.val (.int .i64 0),.val (.int .i64 0),.val (.int .i64 0),.val (.slice none 0 0),.val (.int .i64 0),.val (.int .i64 0),.val (.int .i64 0),.val (.bool false),.val (.slice none 0 0)],[(0,6,true),(6,1,false),(7,1,false),(8,1,false),(9,1,false),(10,1,false)],0,.struct⟩:=by kernel_rfl
theorem WR:aJ pG 200=some ⟨false,1,8,.val (.pointer none),[],0,.other⟩:=by kernel_rfl
theorem WS:aJ pG 204=some ⟨true,10,96,.agg [.val (.int .i64 0),.val (.int .i64 0),.val (.int .i64 0),.val (.int .i64 0),.val (.int .i64 0),.val (.slice none 0 0),.val (.int .i64 0),.val (.int .i64 0),.val (.bool false),.val .nilFunc],[(0,6,true),(6,1,false),(7,1,false),(8,1,false),(9,1,false)],0,.struct⟩:=by kernel_rfl
theorem WT:aJ pG 216=some ⟨false,1,8,.val .nilFunc,[],0,.other⟩:=by kernel_rfl
theorem WU:aJ pG 239=some ⟨false,1,8,.val .nilFunc,[],0,.other⟩:=by kernel_rfl
attribute [go_sem] Zb Zc Zd Ze Zf
attribute [go_sem] X5 X6 X7 X8 X9 Ya
attribute [go_sem] Yb
attribute [go_sem] Yc Yd
attribute [go_sem] Ye Yf
attribute [go_sem] WL WM
attribute [go_sem] WN
attribute [go_sem] WO
attribute [go_sem] WQ
attribute [go_sem] WR WS WT
attribute [go_sem] WU
def bB (a b c:Int):Bool:=decide (a≥b)&&decide (a<=c)
theorem bm (p:Nat->Bool) (i:Nat):(cq (i+1)).all p=((cq i).all p&&p i):=by rw [bO,List.all_append];simp
theorem bX {p:Nat->Bool} {i n:Nat} (h:i<n) (hp:p i=false):(cq n).all p=false:=by rw [List.all_eq_false];exact ⟨i,c7.2 h,by simp [hp]⟩
def vt (p:Nat->Bool) (i:Nat):lI:=List.map (fun j:Nat=>(j:Int)) ((cq i).filter p)
theorem oM (p:Nat->Bool):vt p 0=[]:=rfl
theorem mF (p:Nat->Bool) (i:Nat):vt p (i+1)=if p i then vt p i++[(i:Int)] else vt p i:=by simp only [vt,bO,List.filter_append,List.map_append];rw [List.filter_cons];split<;>simp
theorem pA (p:Nat->Bool) (i:Nat):(vt p i).length<=i:=by rw [vt,List.length_map];exact aO (List.length_filter_le _ _) (by simp)
theorem r6 {p:Nat->Bool} {i:Nat} {x:Int} (h:x∈vt p i):∃j:Nat,j<i/\x=j/\p j=true:=by simp only [vt,bf,cF,c7] at h;obtain ⟨j,⟨h1,h2⟩,h3⟩:=h;exact ⟨j,h1,h3.symm,h2⟩
attribute [irreducible] vt
theorem pred_toNat {i:Nat} (h:0<i):((i:Int)-1).toNat=i-1:=by omega
theorem jz (a b c:Int):Fn pG 77 [eI a,eI b,eI c] true (· =eB (bB a b c)):=by
 refine Fn.au 15 [.tmp 6] func77 (hv:= ?_);simp -dsimp -implicitDefEqProofs only [go_sem];repeat' (refine Br.intro (fun _=> ?_) (fun _=> ?_)<;>try simp -dsimp -implicitDefEqProofs only [go_sem, *])
 all_goals first
  |(simp_all [bB];done)
  |(simp_all [bB];omega)
theorem kO (a b c:Int):Fn pG 72 [eI a,eI b,eI c] true (· =eB (bB a b c)):=by
 refine Fn.au 15 [.tmp 6] func72 (hv:= ?_);simp -dsimp -implicitDefEqProofs only [go_sem];repeat' (refine Br.intro (fun _=> ?_) (fun _=> ?_)<;>try simp -dsimp -implicitDefEqProofs only [go_sem, *])
 all_goals first
  |(simp_all [bB];done)
  |(simp_all [bB];omega)
theorem oO (xs:lI) (a b:Int) (h:xs.length<=9223372036854775807):Fn pG 73 [aQ xs,eI a,eI b] true (· =eB (xs.all fun x=>bB x a b)):=by
 refine Fn.au 21 [.tmp 6] func73 (hv:= ?_);simp -dsimp -implicitDefEqProofs only [go_sem];refine aj.up [1,2,9,10] [18] [] xs.length (fun i=>(xs.take i).all fun x=>bB x a b) (fun i=>[(11,eI i)]) (fun _=>[]) (by simp) ?_ rfl (fun i hi hI=> ?_) (fun hI=> ?_)
 . simp -dsimp -implicitDefEqProofs only [go_sem]
 . simp -dsimp -implicitDefEqProofs only [pz,↓reduceIte,bh];have no:bB xs[i] a b=false->(xs.all fun x=>bB x a b)=false:=fun h=>gL (p:=fun x=>bB x a b) hi h;have yes:bB xs[i] a b=true->((xs.take (i+1)).all fun x=>bB x a b)=true:=fun h=>by rw [dw _ _ _ hi,hI,h];rfl
   simp -dsimp -implicitDefEqProofs only [go_sem,aE hi,get_some hi]
   repeat' first
    |(refine Br.intro (fun _=> ?_) (fun _=> ?_)<;>try simp -dsimp -implicitDefEqProofs only [go_sem, *])
    |(with_reducible refine ai ?_ ?_)
    |(refine aa (kO _ _ _) ?_;try simp -dsimp -implicitDefEqProofs only [go_sem, *])
   all_goals first|omega|(refine ⟨?_,?_⟩<;>omega)|(simp;done)|(rw [no];clear no yes;simp_all [];done)|(refine yes ?_;clear no yes;simp_all [];done)|skip
 simp -dsimp -implicitDefEqProofs only [pz,↓reduceIte,bh];simp -dsimp -implicitDefEqProofs only [go_sem,aA];rw [aW] at hI;rw [hI]
theorem mixed:Tryz.prog.follows .mixedOrders=true:=by kernel_rfl
theorem r7 (xs:lI) (h:xs.length<=1048576):Fn pG 57 [aQ xs] true (· =aQ xs):=by
 refine Fn.au 6 [.tmp 2] func57 (hv:= ?_);simp -dsimp -implicitDefEqProofs only [go_sem];with_reducible and_intros
 all_goals first|omega|(simp;done)|skip
theorem xX (xs:lI) (h:xs.length<=1048576):Fn pG 159 [aQ xs] true (· =aQ xs):=by
 refine Fn.au 8 [.tmp 2] func159 (hv:= ?_);simp -dsimp -implicitDefEqProofs only [go_sem];intro c hc
 repeat' first
  |(refine Br.intro (fun _=> ?_) (fun _=> ?_)<;>try simp -dsimp -implicitDefEqProofs only [go_sem, *])
  |(with_reducible refine ai ?_ ?_)
 all_goals first|(simp_all;done)|omega|skip
abbrev aR (xs:lL):AV:=.arr ⟨1,false⟩ (xs.map aQ)
abbrev r8 (l:lL):AV:=.agg [aR l]
structure aK where
 af:Int
 ao:Int
 step:Int
 same:Int
 least:Int
 deriving DecidableEq
abbrev la (m:aK):AV:=.agg [eI m.af,eI m.ao,eI m.step,eI m.same,eI m.least]
def aY (m:aK):Bool:=bB m.af 2 6&&bB m.ao 2 8&&bB m.step 1 (m.ao-1)&&bB m.same 1 m.af&&bB m.least 1 (if m.ao<m.af then m.ao else m.af)
theorem aM {m:aK} (h:aY m=true):(2<=m.af/\m.af<=6)/\2<=m.ao/\m.ao<=8:=by simp [aY,bB] at h;omega
theorem fA (m:aK):Fn pG 51 [la m] true (· =eB (aY m)):=by
 refine Fn.au 36 [.tmp 2] func51 (hv:= ?_);simp -dsimp -implicitDefEqProofs only [go_sem]
 repeat' first
  |(refine Br.intro (fun _=> ?_) (fun _=> ?_)<;>try simp -dsimp -implicitDefEqProofs only [go_sem, *])
  |(with_reducible refine ai ?_ ?_)
  |(refine aa (jz _ _ _) ?_;try simp -dsimp -implicitDefEqProofs only [go_sem, *])
 all_goals first
  |(simp_all [aY,bB,km];done)
  |(simp_all [aY,bB,km];omega)
  |skip
theorem eJ (m:aK):Fn pG 48 [la m] true (· =eB (aY m)):=by
 refine Fn.au 36 [.tmp 2] func48 (hv:= ?_);simp -dsimp -implicitDefEqProofs only [go_sem]
 repeat' first
  |(refine Br.intro (fun _=> ?_) (fun _=> ?_)<;>try simp -dsimp -implicitDefEqProofs only [go_sem, *])
  |(with_reducible refine ai ?_ ?_)
  |(refine aa (kO _ _ _) ?_;try simp -dsimp -implicitDefEqProofs only [go_sem, *])
 all_goals first
  |(simp_all [aY,bB,km];done)
  |(simp_all [aY,bB,km];omega)
  |skip
def eK (xs:lI) (n:Int) (i:Nat):Bool:=decide (0<=xs.getD i 0)&&decide (xs.getD i 0<n)&&(i==0||decide (xs.getD (i-1) 0<xs.getD i 0))
def lE (xs:lI) (n:Int):Bool:=(cq xs.length).all (eK xs n)
theorem H5 (xs:lI) (n:Int) (h:xs.length<=9223372036854775807):Fn pG 196 [aQ xs,eI n] true (· =eB (lE xs n)):=by
 refine Fn.au 41 [.tmp 4] func196 (hv:= ?_);simp -dsimp -implicitDefEqProofs only [go_sem];refine aj.up [0,1] [8] [] xs.length (fun i=>(cq i).all (eK xs n)) (fun i=>[(5,eI i)]) (fun _=>[]) (by simp) ?_ rfl (fun i hi hI=> ?_) (fun hI=> ?_)
 . simp -dsimp -implicitDefEqProofs only [go_sem]
 . have no:eK xs n i=false->lE xs n=false:=bX hi;have yes:eK xs n i=true->(cq (i+1)).all (eK xs n)=true:=fun h=>by rw [bm,hI,h];rfl
   have hi':i-1<xs.length:=by omega
   have gi:=get_some hi;have li:=aE hi;by_cases hi0:0<i
   rotate_left
   . have g3:decide ((i:Int)>0)=false:=by simp;omega
     simp -dsimp -implicitDefEqProofs only [pz,↓reduceIte,bh];simp -dsimp -implicitDefEqProofs only [go_sem,aE hi]
     repeat' first
      |(refine Br.intro (fun _=> ?_) (fun _=> ?_)<;>try simp -dsimp -implicitDefEqProofs only [go_sem, *])
      |(with_reducible refine ai ?_ ?_)
      |(refine aj.draw mixed rfl ?_;simp -dsimp -implicitDefEqProofs only [go_sem,get_some hi])
     all_goals first
      |omega
      |(refine ⟨?_,?_⟩<;>omega)
      |(simp;done)
      |rfl
      |(rw [no];clear no yes;simp_all [eK];done)|(rw [no];clear no yes;simp_all [eK];omega)
      |(rw [←bO];refine yes ?_;clear no yes;simp_all [eK];done)
      |skip
   have g2:xs[((i:Int)-1).toNat]? =some xs[i-1]:=by rw [pred_toNat hi0];exact get_some hi'
   have g3:decide ((i:Int)>0)=true:=by simp;omega
   simp -dsimp -implicitDefEqProofs only [pz,↓reduceIte,bh];simp -dsimp -implicitDefEqProofs only [go_sem,aE hi]
   repeat' first
    |(refine Br.intro (fun _=> ?_) (fun _=> ?_)<;>try simp -dsimp -implicitDefEqProofs only [go_sem, *])
    |(with_reducible refine ai ?_ ?_)
    |(refine aj.draw mixed rfl ?_;simp -dsimp -implicitDefEqProofs only [go_sem,get_some hi])
   all_goals first
    |omega
    |(refine ⟨?_,?_⟩<;>omega)
    |(simp;done)
    |rfl|(rw [no];clear no yes;simp_all [eK];omega)
    |(rw [←bO];refine yes ?_;clear no yes;simp_all [eK];done)
    |skip
 simp -dsimp -implicitDefEqProofs only [pz,↓reduceIte,bh];simp -dsimp -implicitDefEqProofs only [go_sem,aA];rw [lE,hI]
theorem H6 (xs:lI) (n:Int) (h:xs.length<=9223372036854775807):Fn pG 259 [aQ xs,eI n] true (· =eB (lE xs n)):=by
 refine Fn.au 35 [.tmp 4] func259 (hv:= ?_);simp -dsimp -implicitDefEqProofs only [go_sem];refine aj.up [0,1,7,8] [] [] xs.length (fun i=>(cq i).all (eK xs n)) (fun i=>[(9,eI i)]) (fun _=>[]) (by simp) ?_ rfl (fun i hi hI=> ?_) (fun hI=> ?_)
 . simp -dsimp -implicitDefEqProofs only [go_sem]
 . have no:eK xs n i=false->lE xs n=false:=bX hi;have yes:eK xs n i=true->(cq (i+1)).all (eK xs n)=true:=fun h=>by rw [bm,hI,h];rfl
   have hi':i-1<xs.length:=by omega
   have gi:=get_some hi;have li:=aE hi;by_cases hi0:0<i
   rotate_left
   . have g3:decide ((i:Int)>0)=false:=by simp;omega
     simp -dsimp -implicitDefEqProofs only [pz,↓reduceIte,bh];simp -dsimp -implicitDefEqProofs only [go_sem,aE hi,get_some hi]
     repeat' first
      |(refine Br.intro (fun _=> ?_) (fun _=> ?_)<;>try simp -dsimp -implicitDefEqProofs only [go_sem, *])
      |(with_reducible refine ai ?_ ?_)
     all_goals first
      |omega
      |(refine ⟨?_,?_⟩<;>omega)
      |(simp;done)
      |(rw [no];clear no yes;simp_all [eK];done)|(rw [no];clear no yes;simp_all [eK];omega)
      |(rw [←bO];refine yes ?_;clear no yes;simp_all [eK];done)
      |skip
   have g2:xs[((i:Int)-1).toNat]? =some xs[i-1]:=by rw [pred_toNat hi0];exact get_some hi'
   have g3:decide ((i:Int)>0)=true:=by simp;omega
   simp -dsimp -implicitDefEqProofs only [pz,↓reduceIte,bh];simp -dsimp -implicitDefEqProofs only [go_sem,aE hi,get_some hi]
   repeat' first
    |(refine Br.intro (fun _=> ?_) (fun _=> ?_)<;>try simp -dsimp -implicitDefEqProofs only [go_sem, *])
    |(with_reducible refine ai ?_ ?_)
   all_goals first
    |omega
    |(refine ⟨?_,?_⟩<;>omega)
    |(simp;done)|(rw [no];clear no yes;simp_all [eK];omega)
    |(rw [←bO];refine yes ?_;clear no yes;simp_all [eK];done)
    |skip
 simp -dsimp -implicitDefEqProofs only [pz,↓reduceIte,bh];simp -dsimp -implicitDefEqProofs only [go_sem,aA];rw [lE,hI]
def has (xs:lI) (x:Int):Bool:= !(xs.all fun y=> !(y==x))
theorem Fo (xs:lI) (x:Int) (h:xs.length<=1048576):Fn pG 134 [aQ xs,eI x] true (· =eB (has xs x)):=by
 refine Fn.au 18 [.tmp 4] func134 (hv:= ?_);simp -dsimp -implicitDefEqProofs only [go_sem];refine aj.up [0,1] [8] [] xs.length (fun i=>(xs.take i).all (fun y=> !(y==x))) (fun i=>[(5,eI i)]) (fun _=>[]) (by simp) ?_ rfl (fun i hi hI=> ?_) (fun hI=> ?_)
 . simp -dsimp -implicitDefEqProofs only [go_sem]
 . simp -dsimp -implicitDefEqProofs only [pz,↓reduceIte,bh];have gi:=get_some hi;have li:=aE hi;have no:(!(xs[i]==x))=false->(xs.all fun y=> !(y==x))=false:=fun h=>by simp [gL (p:=fun y=> !(y==x)) hi h]
   have yes:(!(xs[i]==x))=true->((xs.take (i+1)).all (fun y=> !(y==x)))=true:=fun h=>by rw [dw _ _ _ hi,hI];simpa using h
   simp -dsimp -implicitDefEqProofs only [go_sem,li,gi]
   repeat' first
    |(refine Br.intro (fun _=> ?_) (fun _=> ?_)<;>try simp -dsimp -implicitDefEqProofs only [go_sem, *])
    |(with_reducible refine ai ?_ ?_)
   all_goals first
    |omega
    |(refine ⟨?_,?_⟩<;>omega)
    |(simp;done)
    |(rw [has,no (by rw [‹(xs[i]==x)=true›];rfl)];rfl)
    |skip
 simp -dsimp -implicitDefEqProofs only [pz,↓reduceIte,bh];simp -dsimp -implicitDefEqProofs only [go_sem,aA];rw [aW] at hI;(simp_all [has];done)
theorem SH (xs:lI) (x:Int) (h:xs.length<=1048576):Fn pG 240 [aQ xs,eI x] true (fun r=>∃n:Int,r=eI n/\decide (n≥0)=has xs x):=by
 refine Fn.dK 19 [.tmp 4] func240 (hv:= ?_);simp -dsimp -implicitDefEqProofs only [go_sem];refine aj.up [0,1,7] [] [] xs.length (fun i=>(xs.take i).all (fun y=> !(y==x))) (fun i=>[(8,eI i)]) (fun _=>[]) (by simp) ?_ rfl (fun i hi hI=> ?_) (fun hI=> ?_)
 . simp -dsimp -implicitDefEqProofs only [go_sem]
 . simp -dsimp -implicitDefEqProofs only [pz,↓reduceIte,bh];have no:(!(xs[i]==x))=false->has xs x=true:=fun h=>by simp [has,gL (p:=fun y=> !(y==x)) hi h]
   have yes:(!(xs[i]==x))=true->((xs.take (i+1)).all (fun y=> !(y==x)))=true:=fun h=>by rw [dw _ _ _ hi,hI];simpa using h
   have gi:=get_some hi;simp -dsimp -implicitDefEqProofs only [go_sem,aE hi,get_some hi]
   repeat' first
    |(refine Br.intro (fun _=> ?_) (fun _=> ?_)<;>try simp -dsimp -implicitDefEqProofs only [go_sem, *])
    |(with_reducible refine ai ?_ ?_)
   all_goals first
    |omega
    |(refine ⟨?_,?_⟩<;>omega)
    |rfl
    |(refine ⟨_,rfl,?_⟩;rw [no];· simp
      clear no yes;simp_all)
    |(refine yes ?_;rw [BEq.comm,‹(x==xs[i])=false›];rfl)
    |skip
 simp -dsimp -implicitDefEqProofs only [pz,↓reduceIte,bh];simp -dsimp -implicitDefEqProofs only [go_sem,aA];rw [aW] at hI;exact ⟨_,rfl,by rw [has,hI];rfl⟩
theorem qy (xs:lI) (x:Int) (h:xs.length<=1048576):Fn pG 187 [aQ xs,eI x] true (· =eB (has xs x)):=by refine Fn.au 9 [.tmp 4] func187 (hv:= ?_);simp -dsimp -implicitDefEqProofs only [go_sem];refine wH (SH xs x h) ?_;rintro _ ⟨n,rfl,hn⟩;simp -dsimp -implicitDefEqProofs only [go_sem];rw [←hn]
abbrev jM (m:aK) (t:lL):AV:=.agg [eI m.af,eI m.ao,eI m.step,eI m.same,eI m.least,aR t]
def gm (n:Nat) (r:lI):Bool:=(r.length==n)&&decide (1<=r.length)&&decide (r.length<=12)&&r.all fun x=>bB x 0 1
def iF (t:lL):Bool:=decide (1<=t.length)&&decide (t.length<=10)&&t.all (gm (t.getD 0 []).length)
theorem JI {t:lL} {i:Nat} (hi:i<t.length) (h:gm (t.getD 0 []).length t[i]=false):iF t=false:=by rw [iF,gL hi h];simp
theorem mG {t:lL} (h:iF t=true):1<=t.length/\t.length<=10/\1<=(t.getD 0 []).length/\(t.getD 0 []).length<=12/\∀i (hi:i<t.length),t[i].length=(t.getD 0 []).length:=by
 simp only [iF,uq3,decide_eq_true_eq] at h;have hr:∀i (hi:i<t.length),gm (t.getD 0 []).length t[i]=true:=fun i hi=>uq5.1 h.2 _ (uq9 hi);have h0:=hr 0 (by omega);have e:t.getD 0 []=t[0]'(by omega):=by simp [uq6,show 0<t.length by omega]
 simp only [gm,uq3,decide_eq_true_eq,beq_iff_eq] at h0 hr;rw [←e] at h0;exact ⟨h.1.1,h.1.2,h0.1.1.2,h0.1.2,fun i hi=>(hr i hi).1.1.1⟩
theorem qz (t:lL) (h:t.length<=1048576) (h2:∀x∈t,x.length<=1048576):Fn pG 49 [aR t] true (· =eB (iF t)):=by
 refine Fn.au 42 [.tmp 2] func49 (hv:= ?_);simp -dsimp -implicitDefEqProofs only [go_sem];refine aj.up [0,5,6] [12,16,20,25,30] [] t.length (fun i=>(t.take i).all (gm (t.getD 0 []).length)) (fun i=>[(7,eI i)]) (fun _=>[]) (by simp) ?_ rfl (fun i hi hI=> ?_) (fun hI=> ?_)
 . simp -dsimp -implicitDefEqProofs only [go_sem]
 . have h00:0<t.length:=by omega
   have g0:=get_some h00;have gd:t.getD 0 []=t[0]:=by simp [uq6,h00]
   have hx:=h2 t[i] (uq9 hi);have hx0:=h2 t[0] (uq9 h00);have gi:=get_some hi;have li:=aE hi;have no:gm t[0].length t[i]=false->iF t=false:=fun h=>JI hi (by rw [gd];exact h);have yes:gm t[0].length t[i]=true->(t.take (i+1)).all (gm (t.getD 0 []).length)=true:=fun h=>by rw [dw _ _ _ hi,hI,gd,h];rfl
   clear gd;simp -dsimp -implicitDefEqProofs only [pz,↓reduceIte,bh];simp -dsimp -implicitDefEqProofs only [go_sem,li,gi,g0]
   repeat' first
    |(refine Br.intro (fun _=> ?_) (fun _=> ?_)<;>try simp -dsimp -implicitDefEqProofs only [go_sem, *])
    |(with_reducible refine ai ?_ ?_)
    |(refine aa (oO t[i] 0 1 (by omega)) ?_;try simp -dsimp -implicitDefEqProofs only [go_sem, *])
   all_goals first
    |omega
    |(refine ⟨?_,?_⟩<;>omega)
    |rfl
    |(rw [no];clear no yes;simp_all [gm];done)|(rw [no];clear no yes;simp_all [gm];omega)|(refine yes ?_;clear no yes;simp_all [gm];omega)
    |skip
 simp -dsimp -implicitDefEqProofs only [pz,↓reduceIte,bh];simp -dsimp -implicitDefEqProofs only [go_sem,aA];rw [aW] at hI;repeat' (refine Br.intro (fun _=> ?_) (fun _=> ?_)<;>try simp -dsimp -implicitDefEqProofs only [go_sem, *])
 all_goals first
  |(rename_i hx
    have h3:1<=t.length:=by have:=oT hx;omega
    have h4:decide ((t.length:Int)<=10)=decide (t.length<=10):=by rw [decide_eq_decide];omega
    rw [iF,hI,decide_eq_true h3,h4,Bool.true_and,Bool.and_true])
  |(rename_i hx
    have h3:¬1<=t.length:=by have:=of_decide_eq_false hx;omega
    rw [iF,decide_eq_false h3];rfl)
  |skip
theorem qA (t:lL) (h:t.length<=1048576) (h2:∀x∈t,x.length<=1048576):Fn pG 53 [aR t] true (· =eB (iF t)):=by
 refine Fn.au 52 [.tmp 2] func53 (hv:= ?_);simp -dsimp -implicitDefEqProofs only [go_sem]
 repeat' first
  |(refine Br.intro (fun _=> ?_) (fun _=> ?_)<;>try simp -dsimp -implicitDefEqProofs only [go_sem, *])
  |(refine aa (jz _ _ _) ?_;try simp -dsimp -implicitDefEqProofs only [go_sem, *])
 all_goals try ((simp_all [iF,bB];omega))
 rename_i hl;refine aj.up [0] [11,19,23,30,31,39,50] [] t.length (fun i=>(t.take i).all (gm (t.getD 0 []).length)) (fun i=>[(3,eI i)]) (fun _=>[]) (by simp) ?_ rfl (fun i hi hI=> ?_) (fun hI=> ?_)
 . simp -dsimp -implicitDefEqProofs only [go_sem]
 . have h00:0<t.length:=by omega
   have g0:=get_some h00;have gd:t.getD 0 []=t[0]:=by simp [uq6,h00]
   have hx:=h2 t[i] (uq9 hi);have hx0:=h2 t[0] (uq9 h00);have gi:=get_some hi;have li:=aE hi;have no:gm t[0].length t[i]=false->iF t=false:=fun h=>JI hi (by rw [gd];exact h);have yes:gm t[0].length t[i]=true->(t.take (i+1)).all (gm (t.getD 0 []).length)=true:=fun h=>by rw [dw _ _ _ hi,hI,gd,h];rfl
   clear gd hI;simp -dsimp -implicitDefEqProofs only [pz,↓reduceIte,bh];simp -dsimp -implicitDefEqProofs only [go_sem,li]
   repeat' first
    |(refine Br.intro (fun _=> ?_) (fun _=> ?_)<;>try simp -dsimp -implicitDefEqProofs only [go_sem, *])
    |(with_reducible refine ai ?_ ?_)
    |(refine aj.draw mixed rfl ?_;try simp -dsimp -implicitDefEqProofs only [go_sem, *])
    |(refine ak (jz _ _ _) ?_;try simp -dsimp -implicitDefEqProofs only [go_sem, *])
   all_goals try (first|omega|rfl|(rw [no];clear no yes;simp_all [gm,bB];omega))
   refine aj.up [0,3] [39,50] [] t[i].length (fun j=>(t[i].take j).all (fun x=>bB x 0 1)) (fun j=>[(4,eI j)]) (fun _=>[]) (by simp) ?_ rfl (fun j hj hJ=> ?_) (fun hJ=> ?_)
   . simp -dsimp -implicitDefEqProofs only [go_sem]
   . have gj:=get_some hj;have lj:=aE hj;have no1:bB t[i][j] 0 1=false->iF t=false:=fun h=>no (by rw [gm,gL (p:=fun x=>bB x 0 1) hj h];simp);have yes1:bB t[i][j] 0 1=true->(t[i].take (j+1)).all (fun x=>bB x 0 1)=true:=fun h=>by rw [dw _ _ _ hj,hJ,h];rfl
     clear no yes;simp -dsimp -implicitDefEqProofs only [pz,↓reduceIte,bh];simp -dsimp -implicitDefEqProofs only [go_sem,gi,gj,lj]
     repeat' first
      |(refine Br.intro (fun _=> ?_) (fun _=> ?_)<;>try simp -dsimp -implicitDefEqProofs only [go_sem, *])
      |(with_reducible refine ai ?_ ?_)
      |(refine aa (jz _ _ _) ?_;try simp -dsimp -implicitDefEqProofs only [go_sem, *])
     all_goals first
      |omega
      |(refine ⟨?_,?_⟩<;>omega)
      |rfl
      |(rw [no1];clear no1 yes1;simp_all;done)
      |(refine yes1 ?_;clear no1 yes1;simp_all;done)
      |skip
   simp -dsimp -implicitDefEqProofs only [pz,↓reduceIte,bh];rw [aW] at hJ;simp -dsimp -implicitDefEqProofs only [go_sem,gi,aA];with_reducible and_intros
   all_goals first
    |omega
    |(refine ⟨?_,?_⟩<;>omega)
    |rfl
    |(refine yes ?_;clear no yes;simp_all [gm,bB];omega)
    |skip
 simp -dsimp -implicitDefEqProofs only [pz,↓reduceIte,bh];simp -dsimp -implicitDefEqProofs only [go_sem,aA];rw [aW] at hI;(simp_all [iF,bB];omega)
def eA (t:lL) (k:Nat):Bool:=t.any fun r=>r.getD k 0==1
def iz (t:lL):Bool:=(cq (t.getD 0 []).length).all (eA t)
def eO (m:aK) (t:lL):Bool:=aY m&&iF t&&iz t
theorem iT {m:aK} {t:lL} (h:eO m t=true):1<=t.length/\t.length<=10/\1<=(t.getD 0 []).length/\(t.getD 0 []).length<=12/\∀i (hi:i<t.length),t[i].length=(t.getD 0 []).length:=by simp only [eO,uq3] at h;exact mG h.1.2
theorem xY {α:Type} (p:α->Bool) (xs:List α) (i:Nat) (h:i<xs.length):(xs.take (i+1)).any p=((xs.take i).any p||p xs[i]):=by rw [List.take_succ_eq_append_getElem h,List.any_append];simp
def jj (t:lL) (k:Nat):lI:=vt (fun i=>(t.getD i []).getD k 0==1) t.length
theorem H7 (t:lL) (k:Nat):decide (((jj t k).length:Int)=0)= !eA t k:=by
 have key:∀n,n<=t.length->((vt (fun i=>(t.getD i []).getD k 0==1) n)=[]↔(t.take n).any (fun r=>r.getD k 0==1)=false):=by
  intro n;induction n with
  |zero=>intro _;simp [oM]
  |succ n ih=>
   intro hn;have h1:=ih (by omega);have e:t.getD n []=t[n]:=by simp [uq6,show n<t.length by omega]
   rw [mF,xY _ _ _ (show n<t.length by omega),Bool.or_eq_false_iff,←h1,e];cases hc:(t[n].getD k 0==1)<;>simp
 have h1:=key t.length (aP _);rw [aW] at h1;have h2:(((jj t k).length:Int)=0)↔jj t k=[]:=by rw [←List.length_eq_zero_iff];omega
 cases hd:eA t k with
 |true=>
  rw [Bool.not_true];refine dF fun e=> ?_;have:=h1.1 (h2.1 e);rw [show eA t k=t.any fun r=>r.getD k 0==1 from rfl,this] at hd;cases hd
 |false=>
  rw [Bool.not_false];exact dT (h2.2 (h1.2 hd))
theorem Bp (m:aK) (t:lL) (k:Nat) (h:t.length<=1048576) (hk:∀i (hi:i<t.length),k<t[i].length):Fn pG 213 [jM m t,eI k] true (· =aQ (jj t k)):=by
 refine Fn.au 28 [.tmp 4] func213 (hv:= ?_);simp -dsimp -implicitDefEqProofs only [go_sem];refine aj.up [1,10,11] [24,25] [8] t.length (fun _=>True) (fun i=>[(12,eI i),(5,.ref 8 0 0 (vt (fun i=>(t.getD i []).getD k 0==1) i).length)]) (fun i=>[(8,.row 0 ⟨1,false⟩ true ((vt (fun i=>(t.getD i []).getD k 0==1) i).map eI))]) trivial ?_ rfl (fun i hi _=> ?_) (fun _=> ?_)
 . simp -dsimp -implicitDefEqProofs only [go_sem,oM];all_goals simp
 . have hl:=pA (fun i=>(t.getD i []).getD k 0==1) i;have hs:=mF (fun i=>(t.getD i []).getD k 0==1) i;have hki:=hk i hi;have hp:(t.getD i []).getD k 0=t[i][k]:=by simp [uq6,hi,hki]
   rw [hp] at hs;clear hp;have gi:=get_some hi;have gk:=get_some hki;have li:=aE hi;simp -dsimp -implicitDefEqProofs only [pz,fH,gW,cS,↓reduceIte,bh];rw [hs];clear hs;simp -dsimp -implicitDefEqProofs only [go_sem,li,gi,gk]
   repeat' first
    |(refine Br.intro (fun _=> ?_) (fun _=> ?_)<;>try simp -dsimp -implicitDefEqProofs only [go_sem, *])
    |(with_reducible refine ai ?_ ?_)
   all_goals first
    |omega|(refine ⟨?_,?_⟩<;>omega)|(simp;done)
    |skip
 have hl:=pA (fun i=>(t.getD i []).getD k 0==1) t.length;simp -dsimp -implicitDefEqProofs only [pz,fH,gW,cS,↓reduceIte,bh];simp -dsimp -implicitDefEqProofs only [go_sem,aA];with_reducible and_intros
 all_goals first
  |(simp;done)
  |rfl
  |skip
theorem uM (m:aK) (t:lL) (h:t.length<=1048576) (h2:∀x∈t,x.length<=1048576):Fn pG 212 [jM m t] true (· =eB (eO m t)):=by
 refine Fn.au 28 [.tmp 2] func212 (hv:= ?_);rcases hb:(aY m&&iF t) with _|_
 . simp -dsimp -implicitDefEqProofs only [go_sem]
   repeat' first
    |(refine Br.intro (fun _=> ?_) (fun _=> ?_)<;>try simp -dsimp -implicitDefEqProofs only [go_sem, *])
    |(with_reducible refine ai ?_ ?_)
    |(refine aa (eJ m) ?_;try simp -dsimp -implicitDefEqProofs only [go_sem, *])
    |(refine aa (qz t h h2) ?_;try simp -dsimp -implicitDefEqProofs only [go_sem, *])
   all_goals first
    |omega
    |(simp_all [eO];done)
    |skip
 obtain ⟨hb1,hb2⟩:=Bool.and_eq_true_iff.1 hb;obtain ⟨n1,n2,n3,n4,n5⟩:=mG hb2;have h00:0<t.length:=by omega
 have g0:=get_some h00;have gd:t.getD 0 []=t[0]:=by simp [uq6,h00]
 rw [gd] at n3 n4 n5;simp -dsimp -implicitDefEqProofs only [go_sem]
 repeat' first
  |(with_reducible refine ai ?_ ?_)
  |(refine aa (eJ m) ?_;try simp -dsimp -implicitDefEqProofs only [go_sem, *])
  |(refine aa (qz t h h2) ?_;try simp -dsimp -implicitDefEqProofs only [go_sem, *])
 all_goals try (first|omega|(simp_all;done))
 refine aj.up [1,18] [24,25] [] t[0].length (fun i=>(cq i).all (eA t)) (fun i=>[(19,eI i)]) (fun _=>[]) (by simp) ?_ rfl (fun i hi hI=> ?_) (fun hI=> ?_)
 . simp -dsimp -implicitDefEqProofs only [go_sem]
 . have no:eA t i=false->eO m t=false:=fun h=>by
    have:iz t=false:=by rw [iz,gd];exact bX hi h
    simp [eO,this]
   have yes:eA t i=true->(cq (i+1)).all (eA t)=true:=fun h=>by rw [bm,hI,h];rfl
   have hr:=H7 t i;clear hI gd;simp -dsimp -implicitDefEqProofs only [pz,fH,gW,cS,↓reduceIte,bh];simp -dsimp -implicitDefEqProofs only [go_sem,aE hi]
   repeat' first
    |(refine Br.intro (fun _=> ?_) (fun _=> ?_)<;>try simp -dsimp -implicitDefEqProofs only [go_sem, *])
    |(with_reducible refine ai ?_ ?_)
    |(refine aa (Bp m t i h (fun j hj=>by rw [n5 j hj];exact hi)) ?_;try simp -dsimp -implicitDefEqProofs only [go_sem])
   all_goals first
    |(refine ⟨?_,?_⟩<;>omega)
    |rfl
    |(rw [no];clear no yes;simp_all;done)
    |(rw [←bO];refine yes ?_;clear no yes;simp_all;done)
    |skip
 simp -dsimp -implicitDefEqProofs only [pz,fH,gW,cS,↓reduceIte,bh];simp -dsimp -implicitDefEqProofs only [go_sem,aA];(rw [eO,hb1,hb2,iz,gd,hI];rfl)
theorem uN (m:aK) (t:lL) (h:t.length<=1048576) (h2:∀x∈t,x.length<=1048576):Fn pG 188 [jM m t] true (· =eB (eO m t)):=by
 refine Fn.au 46 [.tmp 2] func188 (hv:= ?_);rcases hb:(aY m&&iF t) with _|_
 . simp -dsimp -implicitDefEqProofs only [go_sem]
   repeat' first
    |(refine Br.intro (fun _=> ?_) (fun _=> ?_)<;>try simp -dsimp -implicitDefEqProofs only [go_sem, *])
    |(refine aa (fA m) ?_;try simp -dsimp -implicitDefEqProofs only [go_sem, *])
    |(refine aa (qA t h h2) ?_;try simp -dsimp -implicitDefEqProofs only [go_sem, *])
   all_goals first
    |(simp_all [eO];done)
    |skip
 obtain ⟨hb1,hb2⟩:=Bool.and_eq_true_iff.1 hb;obtain ⟨n1,n2,n3,n4,n5⟩:=mG hb2;have h00:0<t.length:=by omega
 have g0:=get_some h00;have gd:t.getD 0 []=t[0]:=by simp [uq6,h00]
 rw [gd] at n3 n4 n5;simp -dsimp -implicitDefEqProofs only [go_sem]
 repeat' first
  |(refine aa (fA m) ?_;try simp -dsimp -implicitDefEqProofs only [go_sem, *])
  |(refine aa (qA t h h2) ?_;try simp -dsimp -implicitDefEqProofs only [go_sem, *])
 refine aj.up [1] [21,28] [] t[0].length (fun i=>(cq i).all (eA t)) (fun i=>[(3,eI i)]) (fun _=>[]) (by simp) ?_ rfl (fun i hi hI=> ?_) (fun hI=> ?_)
 . simp -dsimp -implicitDefEqProofs only [go_sem]
 . have no:eA t i=false->eO m t=false:=fun h=>by
    have:iz t=false:=by rw [iz,gd];exact bX hi h
    simp [eO,this]
   have yes:eA t i=true->(cq (i+1)).all (eA t)=true:=fun h=>by rw [bm,hI,h];rfl
   clear hI gd;simp -dsimp -implicitDefEqProofs only [pz,fH,gW,cS,↓reduceIte,bh];simp -dsimp -implicitDefEqProofs only [go_sem,aE hi,g0];with_reducible and_intros
   all_goals try (first|omega|(simp;done))
   refine aj.up [1,3] [28] [] t.length (fun _=>True) (fun j=>[(5,eI j),(4,eB ((t.take j).any fun r=>r.getD i 0==1))]) (fun _=>[]) trivial ?_ rfl (fun j hj _=> ?_) (fun _=> ?_)
   . simp -dsimp -implicitDefEqProofs only [go_sem,List.take_zero,List.any_nil]
   . have gj:=get_some hj;have lj:=aE hj;have hij:i<t[j].length:=by rw [n5 j hj];exact hi
     have gij:=get_some hij;have ha:=xY (fun r=>r.getD i 0==1) t j hj;have he:t[j].getD i 0=t[j][i]:=by simp [uq6,hij]
     rw [he] at ha;clear he no yes;simp -dsimp -implicitDefEqProofs only [pz,fH,gW,cS,↓reduceIte,bh];rw [ha];clear ha;simp -dsimp -implicitDefEqProofs only [go_sem,lj]
     repeat' first
      |(refine Br.intro (fun _=> ?_) (fun _=> ?_)<;>try simp -dsimp -implicitDefEqProofs only [go_sem, *])
      |(with_reducible refine ai ?_ ?_)
     all_goals first
      |omega
      |(refine ⟨?_,?_⟩<;>omega)
      |rfl
      |skip
   simp -dsimp -implicitDefEqProofs only [pz,fH,gW,cS,↓reduceIte,bh];simp -dsimp -implicitDefEqProofs only [go_sem,aA];rw [aW];have hd:(t.any fun r=>r.getD i 0==1)=eA t i:=rfl;rw [hd]
   repeat' first
    |(refine Br.intro (fun _=> ?_) (fun _=> ?_)<;>try simp -dsimp -implicitDefEqProofs only [go_sem, *])
    |(with_reducible refine ai ?_ ?_)
   all_goals first
    |(refine ⟨?_,?_⟩<;>omega)
    |rfl
    |(rw [no];clear no yes;simp_all;done)
    |(rw [←bO];refine yes ?_;clear no yes;simp_all;done)
    |skip
 simp -dsimp -implicitDefEqProofs only [pz,fH,gW,cS,↓reduceIte,bh];simp -dsimp -implicitDefEqProofs only [go_sem,aA,g0];with_reducible and_intros
 all_goals first
  |omega
  |(rw [eO,hb1,hb2,iz,gd,hI];rfl)
  |skip
def uO (xs:lI):lI:=Lib.compact (xs.mergeSort fun x y=>decide (x<=y))
theorem Fp (zs:lI) (x:Int):x∈Lib.compact zs↔x∈zs:=by
 unfold Lib.compact Lib.compactUpTo;have gi:∀i,i<zs.length->zs.toArray[i]! =zs.getD i 0:=fun i hi=>by simp [uq6,hi]
 constructor
 . intro h;obtain ⟨j,hj,rfl⟩:=bf.1 h;have hj':=c7.1 (cF.1 hj).1;simp [hj']
 intro h;obtain ⟨j,hj,rfl⟩:=cK h;induction j with
 |zero=>exact bf.2 ⟨0,cF.2 ⟨c7.2 hj,by simp [Lib.keeps]⟩,by simp [hj]⟩
 |succ j ih=>
  by_cases e:zs[j+1]=zs[j]
  . rw [e];exact ih (by omega) (uq9 _)
  refine bf.2 ⟨j+1,cF.2 ⟨c7.2 hj,?_⟩,by simp [hj]⟩;have h1:j<zs.length:=by omega
  simp [Lib.keeps,hj,h1,e]
theorem CO (zs:lI) (h:zs.Pairwise (· <= ·)):(Lib.compact zs).Pairwise (· < ·):=by
 unfold Lib.compact Lib.compactUpTo;rw [List.pairwise_map];have hs:=List.pairwise_iff_getElem.1 h;refine List.Pairwise.imp_of_mem ?_ ((List.pairwise_lt_range (n:=zs.length)).filter (Lib.keeps zs.toArray));intro i j hi hj hij;have hj':=c7.1 (cF.1 hj).1;have hk:=(cF.1 hj).2;have hi':i<zs.length:=by omega
 have hp:j-1<zs.length:=by omega
 have h1:zs[i]<=zs[j-1]:=by
  rcases Nat.lt_or_ge i (j-1) with hh|hh
  . exact hs i (j-1) _ _ hh
  have:i=j-1:=by omega
  subst this;exact Int.le_refl _
 have h2:=hs (j-1) j hp hj' (by omega);have h3:zs[j]≠zs[j-1]:=by
  have:j≠0:=by omega
  simpa [Lib.keeps,this,hj',hp] using hk
 have e1:zs.toArray[i]! =zs[i]:=by simp [hi']
 have e2:zs.toArray[j]! =zs[j]:=by simp [hj']
 rw [e1,e2];omega
theorem LV (xs:lI):(xs.mergeSort fun x y=>decide (x<=y)).Pairwise (· <= ·):=by have:=List.pairwise_mergeSort (le:=fun x y:Int=>decide (x<=y)) (by intro a b c h1 h2;simp at*;omega) (by intro a b;simp;omega) xs;exact this.imp fun h=>by simpa using h
theorem Pr (xs:lI) (x:Int):x∈(xs.mergeSort fun x y=>decide (x<=y))↔x∈xs:=List.mem_mergeSort
theorem LW (xs:lI) (x:Int):x∈uO xs↔x∈xs:=by rw [uO,Fp,Pr]
theorem H8 (xs:lI):(uO xs).Pairwise (· < ·):=CO _ (LV xs)
theorem Ps (xs:lI):uO xs=Lib.compact (xs.mergeSort fun x y=>decide (x<=y)):=rfl
attribute [irreducible] uO
theorem SI (v:Nat) (zs:lI) (h:zs.length<=1048576):rJ pG 257 [.row v ⟨1,false⟩ true (zs.map eI)] [.ref 1000000000 v 0 zs.length] (fun r io=>r= .aX []/\io=[.row v ⟨1,false⟩ true ((zs.mergeSort fun x y=>decide (x<=y)).map eI)]):=
 rJ.Sx ⟨_,_,func257,by rfl,rfl⟩ (fun zs=>zs.mergeSort fun x y=>decide (x<=y)) (fun zs=>List.length_mergeSort zs)
  (fun pd cap zs w hH hb hs=>AnyG.slices_Sort_int Tryz.JF pd 0 cap zs w hH hb hs) (fun a w=>AnyG.slices_Sort_int_none Tryz.JF a 0 w) v zs h
theorem jN (zs:lI):(Lib.compact zs).length<=zs.length:=by unfold Lib.compact Lib.compactUpTo;rw [List.length_map];exact aO (List.length_filter_le _ _) (by simp)
theorem Vo {d l ae n:Nat} {zs:lI} {xt:lA} {m:Mem} {k:AV->Mem->Prop} {q:Pack k} (hlk:ah m l=some (.row ae ⟨1,false⟩ true (zs.map eI))) (hn:n=zs.length) (hz:zs.length<=1048576)
 (hk:k (.ref l (ae+1) 0 (Lib.compact zs).length) ((l,.row (ae+1) ⟨1,false⟩ true ((Lib.compact zs++c8 (zs.length-(Lib.compact zs).length) 0).map eI))::m)):
 e6 pG 258 d [.ref l ae 0 n] xt m k q:=
 E4 (Lib.compact zs).length ⟨_,_,func258,by rfl,rfl⟩ hlk hn (ys:=Lib.compact zs++c8 (zs.length-(Lib.compact zs).length) 0) (by have:=jN zs;simp;omega) (jN zs) hz
  (fun pd cap w hH hc=>AnyG.slices_Compact_int Tryz.nj pd 0 cap zs w hH (by omega) hc) (fun a w=>AnyG.slices_Compact_int_empty Tryz.nj a 0 w) hk
theorem H9 {d l ae n:Nat} {zs:lI} {xt:lA} {m:Mem} {k:AV->Mem->Prop} {q:Pack k} (hlk:ah m l=some (.row ae ⟨1,false⟩ true (zs.map eI))) (hn:n=zs.length) (hz:zs.length<=1048576)
 (hk:k (.ref l (ae+1) 0 (Lib.compact zs).length) ((l,.row (ae+1) ⟨1,false⟩ true ((Lib.compact zs++c8 (zs.length-(Lib.compact zs).length) 0).map eI))::m)):
 iQ pG 258 d [.ref l ae 0 n] xt m k q:=
 E5 (Lib.compact zs).length ⟨_,_,func258,by rfl,rfl⟩ hlk hn (ys:=Lib.compact zs++c8 (zs.length-(Lib.compact zs).length) 0) (by have:=jN zs;simp;omega) (jN zs) hz
  (fun pd cap w hH hc=>AnyG.slices_Compact_int Tryz.nj pd 0 cap zs w hH (by omega) hc) (fun a w=>AnyG.slices_Compact_int_empty Tryz.nj a 0 w) hk
def cN (m:aK) (xs:lI):Bool:=decide (xs.length≠0)&&lE xs m.ao
def fq (m:aK) (l:lL):Bool:=((l.length:Int)==m.af)&&l.all (cN m)
def CP (m:aK) (l:lL):Bool:=aY m&&fq m l
theorem LX (m:aK) (l:lL) (h:l.length<=1048576) (h2:∀x∈l,x.length<=1048576):Fn pG 146 [la m,r8 l] true (· =eB (CP m l)):=by
 refine Fn.au 42 [.tmp 4] func146 (hv:= ?_);simp -dsimp -implicitDefEqProofs only [go_sem]
 repeat' first
  |(refine Br.intro (fun _=> ?_) (fun _=> ?_)<;>try simp -dsimp -implicitDefEqProofs only [go_sem, *])
  |(refine aa (fA _) ?_;try simp -dsimp -implicitDefEqProofs only [go_sem, *])
 all_goals try ((simp_all [CP,fq];done))
 refine aj.up [2,3] [20,29,39] [] l.length (fun i=>(l.take i).all (cN m)) (fun i=>[(5,eI i)]) (fun _=>[]) (by simp) ?_ rfl (fun i hi hI=> ?_) (fun hI=> ?_)
 . simp -dsimp -implicitDefEqProofs only [go_sem]
 . simp -dsimp -implicitDefEqProofs only [pz,fH,gW,cS,↓reduceIte,bh];have gi:=get_some hi;have li:=aE hi;have no:cN m l[i]=false->CP m l=false:=fun h=>by simp [CP,fq,gL (p:=cN m) hi h]
   have yes:cN m l[i]=true->((l.take (i+1)).all (cN m))=true:=fun h=>by rw [dw _ _ _ hi,hI];simpa using h
   simp -dsimp -implicitDefEqProofs only [go_sem,li]
   repeat' first
    |(refine Br.intro (fun _=> ?_) (fun _=> ?_)<;>try simp -dsimp -implicitDefEqProofs only [go_sem, *])
    |(with_reducible refine ai ?_ ?_)
    |(refine ak (H5 l[i] _ (by have:=h2 l[i] (uq9 hi);omega)) ?_;try simp -dsimp -implicitDefEqProofs only [go_sem, *])
    |(refine aj.draw mixed rfl ?_;try simp -dsimp -implicitDefEqProofs only [go_sem, *])
   all_goals first
    |omega
    |(refine ⟨?_,?_⟩<;>omega)
    |(simp;done)
    |rfl
    |(rw [no];clear no yes;simp_all [cN];done)|(refine yes ?_;clear no yes;simp_all [cN];done)
    |skip
 simp -dsimp -implicitDefEqProofs only [pz,fH,gW,cS,↓reduceIte,bh];simp -dsimp -implicitDefEqProofs only [go_sem,aA];rw [aW] at hI;(simp_all [CP,fq];done)
theorem Pt (m:aK) (l:lL) (h:l.length<=1048576) (h2:∀x∈l,x.length<=1048576):Fn pG 215 [la m,r8 l] true (· =eB (fq m l)):=by
 refine Fn.au 31 [.tmp 4] func215 (hv:= ?_);simp -dsimp -implicitDefEqProofs only [go_sem];refine aj.up [2,3,8,9] [15,21] [] l.length (fun i=>(l.take i).all (cN m)) (fun i=>[(10,eI i)]) (fun _=>[]) (by simp) ?_ rfl (fun i hi hI=> ?_) (fun hI=> ?_)
 . simp -dsimp -implicitDefEqProofs only [go_sem]
 . simp -dsimp -implicitDefEqProofs only [pz,fH,gW,cS,↓reduceIte,bh];have gi:=get_some hi;have li:=aE hi;have no:cN m l[i]=false->fq m l=false:=fun h=>by simp [fq,gL (p:=cN m) hi h]
   have yes:cN m l[i]=true->((l.take (i+1)).all (cN m))=true:=fun h=>by rw [dw _ _ _ hi,hI];simpa using h
   simp -dsimp -implicitDefEqProofs only [go_sem,li,gi]
   repeat' first
    |(refine Br.intro (fun _=> ?_) (fun _=> ?_)<;>try simp -dsimp -implicitDefEqProofs only [go_sem, *])
    |(with_reducible refine ai ?_ ?_)
    |(refine aa (H6 l[i] _ (by have:=h2 l[i] (uq9 hi);omega)) ?_;try simp -dsimp -implicitDefEqProofs only [go_sem, *])
   all_goals first
    |omega
    |(refine ⟨?_,?_⟩<;>omega)
    |(simp;done)
    |(rw [no];clear no yes;simp_all [cN];done)|(refine yes ?_;clear no yes;simp_all [cN];done)
    |skip
 simp -dsimp -implicitDefEqProofs only [pz,fH,gW,cS,↓reduceIte,bh];simp -dsimp -implicitDefEqProofs only [go_sem,aA];rw [aW] at hI;(simp_all [fq];done)
def nq (m:aK) (ls:List lL):Int:=if aY m&&ls.all (fq m) then 0 else 1
theorem Ia {m:aK} {ls:List lL} {i:Nat} (hi:i<ls.length) (h:fq m ls[i]=false):nq m ls=1:=by rw [nq,gL hi h];simp
theorem Fq (m:aK) (l:lL):nq m [l]=if CP m l then 0 else 1:=by simp [nq,CP]
theorem Fs (m:aK) (ls:List lL) (h0:ls.length<=1048576) (h:∀l∈ls,l.length<=1048576/\∀x∈l,x.length<=1048576):Fn pG 163 [la m,.arr ⟨1,true⟩ (ls.map r8)] true (· =eI (nq m ls)):=by
 refine Fn.au 21 [.tmp 4] func163 (hv:= ?_);simp -dsimp -implicitDefEqProofs only [go_sem]
 repeat' first
  |(refine Br.intro (fun _=> ?_) (fun _=> ?_)<;>try simp -dsimp -implicitDefEqProofs only [go_sem, *])
  |(refine aa (eJ _) ?_;try simp -dsimp -implicitDefEqProofs only [go_sem, *])
 all_goals try ((simp_all [nq];done))
 refine aj.up [2,10,11] [6,18] [] ls.length (fun i=>(ls.take i).all (fq m)) (fun i=>[(12,eI i)]) (fun _=>[]) (by simp) ?_ rfl (fun i hi hI=> ?_) (fun hI=> ?_)
 . simp -dsimp -implicitDefEqProofs only [go_sem]
 . have hx:=h ls[i] (uq9 hi);have no:=fun h=>Ia (m:=m) hi h;have yes:fq m ls[i]=true->((ls.take (i+1)).all (fq m))=true:=fun h=>by rw [dw _ _ _ hi,hI,h];rfl
   simp -dsimp -implicitDefEqProofs only [pz,fH,gW,cS,↓reduceIte,bh];simp -dsimp -implicitDefEqProofs only [go_sem,aE hi,get_some hi]
   repeat' first
    |(refine Br.intro (fun _=> ?_) (fun _=> ?_)<;>try simp -dsimp -implicitDefEqProofs only [go_sem, *])
    |(with_reducible refine ai ?_ ?_)
    |(refine aa (Pt m ls[i] hx.1 hx.2) ?_;try simp -dsimp -implicitDefEqProofs only [go_sem, *])
   all_goals first
    |omega
    |(refine ⟨?_,?_⟩<;>omega)
    |(simp;done)
    |(rw [no];clear no yes;simp_all [];done)|(refine yes ?_;clear no yes;simp_all [];done)
    |skip
 simp -dsimp -implicitDefEqProofs only [pz,fH,gW,cS,↓reduceIte,bh];simp -dsimp -implicitDefEqProofs only [go_sem,aA];rw [aW] at hI;(simp_all [nq];done)
structure Zu where
 key:Bool
 index:Int
 Yg:Int
 deriving DecidableEq,Inhabited
open Go.RowKit
theorem Grown.oP {w w':World} (h:Below w.heap.size w w'):Grown w w':=by obtain ⟨h1,h2,h3,h4,h5⟩:=h;exact ⟨h4,h5,⟨h1,h2,h3⟩⟩
theorem Grown.SJ (w:World) (k:Nat) (os:Array Obj):Grown w (Sort.grow (w.drewN k) os):=
 ⟨by simp [Sort.grow],fun b hb=>Sort.heap_grow_old _ _ (by simpa using hb),⟨rfl,rfl,rfl⟩⟩
theorem Fn.plain {P:Program} {f:FuncId} (us:List Value) {r:AV} (hE:Enters P f)
 (hc:∀(w:World) (S:Nat->Prop),J4 w S->Calls P f us.toArray w fun e w'=>∃v fs,e= .returned v/\Grown w w'/\Own w' (fun _=>False) r v fs/\fs.Nodup/\∀b,b∈fs->w.heap.size<=b):
 Fn P f (us.map .val) true (· =r):=by
 refine ⟨hE,fun w S vs _ hk hsz hr=> ?_⟩;have e:vs=us.toArray:=by
  rw [List.length_map] at hsz;apply Array.ext
  . simpa using hsz
  intro i h1 h2;have h3:i<(us.map AV.val).length:=by simpa using h2
  have:=hr i h3;rw [List.getElem_map] at this;generalize hu:vs.toList.getD i Go.undef=u at this;cases this;have h4:i<us.length:=by simpa using h2
  have h5:vs.toList.getD i Go.undef=vs[i]:=by simp [uq6,h1]
  rw [←h5,hu];simp
 subst e;refine (hc w S hk).mono ?_;rintro e w' ⟨v,fs,rfl,hg,ho,hn,hb⟩;exact ⟨r,v,rfl,rfl,hg,by simp only [iK,if_true];exact ⟨fs,ho,hn,hb⟩⟩
theorem Fn.Vp {P:Program} {f:FuncId} (us:List Value) {post:AV->Prop} (hE:Enters P f)
 (hc:∀(w:World) (S:Nat->Prop),J4 w S->Calls P f us.toArray w fun e w'=>∃r v fs,post r/\e= .returned v/\Grown w w'/\Own w' (fun _=>False) r v fs/\fs.Nodup/\∀b,b∈fs->w.heap.size<=b):
 Fn P f (us.map .val) true post:=by
 refine ⟨hE,fun w S vs _ hk hsz hr=> ?_⟩;have e:vs=us.toArray:=by
  rw [List.length_map] at hsz;apply Array.ext
  . simpa using hsz
  intro i h1 h2;have h3:i<(us.map AV.val).length:=by simpa using h2
  have:=hr i h3;rw [List.getElem_map] at this;generalize hu:vs.toList.getD i Go.undef=u at this;cases this;have h4:i<us.length:=by simpa using h2
  have h5:vs.toList.getD i Go.undef=vs[i]:=by simp [uq6,h1]
  rw [←h5,hu];simp
 subst e;refine (hc w S hk).mono ?_;rintro e w' ⟨r,v,fs,hp,rfl,hg,ho,hn,hb⟩;exact ⟨r,v,rfl,hp,hg,by simp only [iK,if_true];exact ⟨fs,ho,hn,hb⟩⟩
theorem qB {w:World} {v:Value} (h:v.oneCell'=true):Own w (fun _=>False) (.val v) v []:=.rd _ _ (.val _ h)
theorem cell_of {w:World} {g:Nat} {v:Value} {e:TypeId} {fr:Nat × Nat} (h:w.heap[g]? =some (.cells #[v] e fr)):w.cell? ⟨g,0,none⟩=some v:=by simp [World.cell?,h]
theorem Vq {w:World} (xs:lA) (vs:List Value) (hl:vs.length=xs.length) (h:∀i (h:i<xs.length),Own w (fun _=>False) xs[i] (vs.getD i Go.undef) []):Own w (fun _=>False) (.aX xs) (.tuple vs.toArray) []:=by
 have e:([]:lN)=(c8 xs.length ([]:lN)).flatten:=(List.flatten_eq_nil_iff.2 fun l hl=>(List.mem_replicate.1 hl).2).symm;rw [e];refine .aX xs _ _ (by simpa using hl) (by simp) fun i hi=> ?_;have e3:(c8 xs.length ([]:lN)).getD i []=[]:=by simp [uq6,hi]
 rw [e3];exact h i hi
theorem SK {w:World} {S:Nat→Prop} (h:J4 w S):Lib.TabIs pG w "internal/strconv.uint64pow10" .u64 Lib.pow10Tab:=by
 obtain ⟨_,cs,e,fr,h1,h2⟩:=h 5 QW (by simp [Dv]);unfold Lib.TabIs World.var?
 have hg:Tryz.prog.globalNamed "internal/strconv.uint64pow10" =some 5:=by kernel_rfl
 rw [hg,Option.bind_some,h1,show cs=_ from h2];simp [Lib.pow10Tab,Function.comp_def]
theorem Ft {n:Int} (h:km n):Fn pG 112 [eI n,eI 10] true (· =eS (Lib.itoa n)):=by refine Fn.plain [.int .i64 n,.int .i64 10] ⟨Tryz.f112,_,func112,by decide,rfl⟩ fun w S hk=> ?_;refine (Any.strconv_FormatInt_10 Tryz.LK n h.1 h.2 w (SK hk)).mono ?_;rintro e w' ⟨rfl,k,os,rfl⟩;exact ⟨_,[],rfl,Grown.SJ _ _ _,qB rfl,iH,fun b hb=>by cases hb⟩
theorem Grown.Pu (w:World) (e:TypeId) (s:ByteArray):Grown w (Lib.bytesWorld w e s):=Grown.oP (Lib.bytesWorld_below w e s)
theorem JJ {w:World} {S:Nat->Prop} (h:J4 w S) (g:Nat) (hg:(g,M3)∈Dv):∃t p,w.cell? ⟨g,0,none⟩=some (.iface t p):=by obtain ⟨_,cs,e,fr,h1,t,p,rfl⟩:=h g M3 hg;exact ⟨t,p,cell_of h1⟩
def l4 (s:lU):Int:=match Lib.parseIntB 64 s with
 | .ok v=>v
 | .range=>Lib.intSat 64 s
 |_=>0
def xZ (s:lU):Bool:=match Lib.parseIntB 64 s with
 | .ok _=>true
 |_=>false
theorem Ib (s:lU) (h:s.length<=1048576):Fn pG 88 [eS s,eI 10,eI 64] true
 (fun x=>∃e,x= .aX [eI (l4 s),.val e]/\if xZ s=true then e= .nilIface else ∃t p,e= .iface t p):=by
 refine Fn.Vp [.string ⟨s.toArray⟩,.int .i64 10,.int .i64 64] ⟨Tryz.f88,_,func88,by decide,rfl⟩ fun w S hk=> ?_;have hsz:(⟨s.toArray⟩:ByteArray).size=s.length:=pw s;have tw:∀(w':World) (n:Int) (e:Value),e.oneCell'=true->Own w' (fun _=>False) (.aX [eI n,.val e]) (.tuple #[.int .i64 n,e]) []:=fun w' n e he=>by
  refine Vq [eI n,.val e] [.int .i64 n,e] rfl fun i hi=> ?_;have:i=0\/i=1:=by simp at hi;omega
  rcases this with rfl|rfl
  . exact qB rfl
  exact qB he
 rcases hp:Lib.parseIntB 64 s with v|_|_
 . refine (Any.strconv_ParseInt_10_at64_ok Tryz.xQ ⟨s.toArray⟩ (by omega) v (by rw [nn];exact hp) w).mono ?_;rintro e w' ⟨rfl,hw⟩;refine ⟨.aX [eI v,.val .nilIface],_,[],⟨.nilIface,by simp only [l4,hp],by simp [xZ,hp]⟩,rfl,?_,tw _ _ _ rfl,iH,fun b hb=>by cases hb⟩;rcases hw with rfl|⟨t,rfl⟩
   . exact Grown.refl _
   exact Grown.Pu _ _ _
 . obtain ⟨tp,pv,hc⟩:=JJ hk 1 (by simp [Dv]);refine (Any.strconv_ParseInt_10_at64_syntax Tryz.xQ ⟨s.toArray⟩ (by omega) (by rw [nn];exact hp) _ w hc (.inr ⟨tp,pv,rfl⟩)).mono ?_;rintro e w' ⟨N,rfl,_,_,hb⟩;exact ⟨.aX [eI 0,.val _],_,[],⟨.iface (Tryz.nh.t 168) (.pointer (some ⟨N,0,none⟩)),by simp only [l4,hp],by simp only [xZ,hp];exact ⟨_,_,rfl⟩⟩,rfl,Grown.oP hb,tw _ _ _ rfl,iH,fun b hb=>by cases hb⟩
 obtain ⟨tp,pv,hc⟩:=JJ hk 2 (by simp [Dv]);refine (Any.strconv_ParseInt_10_at64_range Tryz.xQ ⟨s.toArray⟩ (by omega) (by rw [nn];exact hp) _ w hc (.inr ⟨tp,pv,rfl⟩)).mono ?_;rintro e w' ⟨N,rfl,_,_,hb⟩;exact ⟨.aX [eI (Lib.intSat 64 s),.val _],_,[],⟨.iface (Tryz.nh.t 168) (.pointer (some ⟨N,0,none⟩)),by simp only [l4,hp],by simp only [xZ,hp];exact ⟨_,_,rfl⟩⟩,rfl,Grown.oP hb,tw _ _ _ rfl,iH,fun b hb=>by cases hb⟩
theorem SL {w:World} {S:Nat->Prop} (h:J4 w S) (g:Nat) (hg:(g,QV)∈Dv):∃m,w.cell? ⟨g,0,none⟩=some (.int .i64 m):=by obtain ⟨_,cs,e,fr,h1,m,rfl⟩:=h g QV hg;exact ⟨m,cell_of h1⟩
theorem Pv:(Tryz.prog.info? (Tryz.ni.t 9)).map (fun i=>(i.zero,i.size,i.bytes))=some (some (.string ByteArray.empty),1,16):=by kernel_rfl
theorem jA (c:UInt8):∀(l:lU),(di c l).length<=l.length+1
 | []=>by simp [di]
 |b::l=>by
  have:=jA c l;rw [di];split
  . simp;omega
  split
  . rename_i h t he;rw [he] at this;simp at this ⊢;omega
  simp
theorem JK (s:lU) (c:UInt8) (h:s.length<=1048576):Fn pG 58 [eS s,eS [c]] true (· =lZ (di c s)):=by
 refine Fn.plain [.string ⟨s.toArray⟩,.string ⟨[c].toArray⟩] ⟨Tryz.f58,_,func58,by decide,rfl⟩ fun w S hk=> ?_;have hsz:(⟨s.toArray⟩:ByteArray).size=s.length:=pw s;obtain ⟨m,hm⟩:=SL hk 0 (by simp [Dv]);refine (Any.strings_Split Tryz.Pg Pv ⟨s.toArray⟩ ⟨[c].toArray⟩ m w (by omega) hm (by show 1<=1;omega)).mono ?_;rintro e w' ⟨rfl,rfl⟩;have hs:=H4 c _ s rfl;have hl:(di c s).length=Lib.countB ⟨s.toArray⟩ ⟨[c].toArray⟩+1:=LU c _ s rfl;have hle:=jA c s;refine ⟨_,[w.heap.size],rfl,⟨by simp,fun b hb=>I4 w _ b hb,⟨rfl,rfl,rfl⟩⟩,?_,by simp,fun b hb=>by simp at hb;omega⟩;rw [←hl,show (⟨#[c]⟩:ByteArray)=⟨[c].toArray⟩ from rfl] at*;have e2:[w.heap.size]=w.heap.size::(c8 ((di c s).map eS).length ([]:lN)).flatten:=by congr 1;exact (List.flatten_eq_nil_iff.2 fun l hl=>(List.mem_replicate.1 hl).2).symm
 rw [e2,hs]
 have:=Own.arr (w:=w.alloc (.cells (((di c s).map fun a=>(⟨a.toArray⟩:ByteArray)).map Value.string).toArray (Tryz.ni.t 9))) (S:=fun _=>False) ⟨1,false⟩ ((di c s).map eS) w.heap.size (di c s).length _ _ (c8 ((di c s).map eS).length []) (mR w _ _)
  (by simp) (by simp) (by unfold maxLen;omega) (by intro i hi;simp [fits]) (by simp) fun i hi=> ?_
 . simpa using this
 have e3:(c8 ((di c s).map eS).length ([]:lN)).getD i []=[]:=by rw [uq6,List.getElem?_replicate];split<;>rfl
 have hi2:i<(di c s).length:=by simpa using hi
 rw [e3,bg,Nat.mul_one,List.getElem_map];have e4:((((di c s).map fun a=>(⟨a.toArray⟩:ByteArray)).map Value.string).toArray).toList.getD i Go.undef= .string ⟨((di c s)[i]).toArray⟩:=by simp [uq6,hi2]
 rw [e4];exact qB rfl
theorem SM {w:World} {S:Nat->Prop} {xs:List lU} {v:Value} (h:Rd w S (lZ xs) v):
 (xs=[]/\∃a,v= .slice a 0 0)\/∃b off cap,v= .slice (some ⟨b,off,none⟩) xs.length cap/\b<w.heap.size/\xs.length<=cap/\∀(j:Nat) x,xs[j]? =some x->w.cell? ⟨b,off+j,none⟩=some (.string ⟨x.toArray⟩):=by
 unfold lZ at h;generalize hxs:xs.map eS=ys at h;have hlen:ys.length=xs.length:=by rw [←hxs];simp
 cases h with
 |nil sh a=>exact .inl ⟨List.eq_nil_of_length_eq_zero (by rw [←hlen];rfl),a,rfl⟩
 |arr sh ys b off cap cs e fr hS hb b6 hl hf hv=>
  refine .inr ⟨b,off,cap,by rw [hlen],(uq1.1 hb).1,by omega,fun j x hj=> ?_⟩;obtain ⟨hj1,hj2⟩:=uq8.1 hj;have hj3:j<ys.length:=by omega
  have h2:=hv j hj3;have hx:ys[j]=eS x:=by simp [←hxs,hj2]
  rw [hx] at h2;rw [bg,Nat.mul_one] at h2;have h4:cs.toList.getD (off+j) Go.undef= .string ⟨x.toArray⟩:=by generalize cs.toList.getD (off+j) Go.undef=u at h2;cases h2;rfl
  have h5:off+j<cs.size:=by simp only [Nat.mul_one] at hl;omega
  rw [uq6,Array.getElem?_toList,Array.getElem?_eq_getElem h5] at h4;simp only [World.cell?,hb,Option.isSome_none,uq4,↓reduceIte,Array.getElem?_eq_getElem h5];exact congrArg some h4
theorem Pw (xs:List lU) (sep:lU) (h1:xs.length<=1048576) (h2:(Lib.join xs sep).length<=140737488355328):Fn pG 166 [lZ xs,eS sep] true (· =eS (Lib.join xs sep)):=by
 refine ⟨⟨Tryz.f166,_,func166,by decide,rfl⟩,fun w S vs hS hk hsz hr=> ?_⟩;obtain ⟨u,v,rfl⟩:∃u v,vs= #[u,v]:=by
  have:vs.size=2:=hsz
  exact ⟨vs[0],vs[1],by apply Array.ext<;>simp_all;intro i h;have:i=0\/i=1:=by omega
                        rcases this with rfl|rfl<;>(intro _;rfl)⟩
 have r0:Rd w S (lZ xs) u:=hr 0 (by simp);have r1:Rd w S (eS sep) v:=hr 1 (by simp);obtain rfl:v= .string ⟨sep.toArray⟩:=by cases r1;rfl
 have hm:((xs.map fun a=>(⟨a.toArray⟩:ByteArray)).map (·.data.toList))=xs:=by simp [List.map_map,Function.comp_def]
 rcases SM r0 with ⟨rfl,a,rfl⟩|⟨b,off,cap,rfl,hb,b6,hc⟩
 . refine (Any.strings_Join_none Tryz.JE Tryz.Bk a 0 ⟨sep.toArray⟩ w).mono ?_;rintro e w' ⟨rfl,rfl⟩;exact ⟨_,_,rfl,rfl,Grown.refl _,by simp only [iK,if_true];exact ⟨[],qB rfl,iH,fun b hb=>by cases hb⟩⟩
 have:=Any.strings_Join Tryz.JE Tryz.Bk b off cap (xs.map fun a=>(⟨a.toArray⟩:ByteArray)) ⟨sep.toArray⟩ w (fun j x hj=>by
  rw [List.getElem?_map] at hj;obtain ⟨y,hy,rfl⟩:=Option.map_eq_some_iff.1 hj
  exact hc j y hy) hb (by simp;omega) (by simpa using b6) (by rw [hm,nn];exact h2)
 rw [hm,nn,List.length_map] at this;refine this.mono ?_;rintro e w' ⟨rfl,hbl⟩;exact ⟨_,_,rfl,rfl,Grown.oP hbl,by simp only [iK,if_true];exact ⟨[],qB rfl,iH,fun b hb=>by cases hb⟩⟩
theorem cO {v:Int} (h:km v):(itoa v).length<=21:=itoa_length_le v h.1 h.2
def Sub (x y:AV):Prop:=∀(w:World) (S:Nat->Prop) (v:Value),Rd w S x v->Rd w S y v
inductive LY:List AV->List AV->Prop
 |nil:LY [] []
 |cons {x y:AV} {xs ys:List AV} (h:Sub x y) (hs:LY xs ys):LY (x::xs) (y::ys)
theorem Sub.refl (x:AV):Sub x x:=fun _ _ _ h=>h
theorem Sub.nil (sh:Sh):Sub (.val (.slice none 0 0)) (.arr sh []):=fun _ _ _ h=>by cases h;exact .nil sh none
theorem LY.get {xs ys:lA} (h:LY xs ys):xs.length=ys.length/\∀i (h1:i<xs.length) (h2:i<ys.length),Sub xs[i] ys[i]:=by
 induction h with
 |nil=>exact ⟨rfl,fun i h1=>absurd h1 (du _)⟩
 |cons h hs ih=>
  refine ⟨by simp [ih.1],fun i h1 h2=> ?_⟩;cases i with
  |zero=>exact h
  |succ i=>exact ih.2 i (by simpa using h1) (by simpa using h2)
theorem Fn.Px {P:Program} {f:FuncId} {args args':lA} {own:Bool} {post:AV->Prop} (h:Fn P f args own post) (hs:LY args' args):Fn P f args' own post:=
 ⟨h.1,fun w S vs h1 h0 h2 h3=>h.2 w S vs h1 h0 (h2.trans hs.get.1) fun i hi=>hs.get.2 i (by rw [hs.get.1];exact hi) hi _ _ _ (h3 i _)⟩
abbrev Vr:AV:=.val (.slice none 0 0)
open Go.Shelf Go.Sort
set_option maxHeartbeats 4000000 in
theorem uP (w:World) (b cap i j n:Nat) (cs:aV) (e:El) (hb:w.heap[b]? =some (eo cs e)) (hcs:cs.size=cap*1) (b6:cap<=9223372036854775807) (hj:j=i+1) (hi:i<n) (hn:n<=cap) (h1:∀v,v∈(cs.toList.drop (j*1)).take ((n-j)*1)->v.oneCell'=true):
 Calls pG 114 #[.slice (some ⟨b,0,none⟩) n cap,.int .i64 i,.int .i64 j] w fun e' w'=>e'= .returned (.slice (some ⟨b,0,none⟩) (n-1) cap)∧
  ∃q,w'=((w.drewN q).setCells b (i*1) ((cs.toList.drop (j*1)).take ((n-j)*1))).setCells b (n-1) [.slice none 0 0]:=by
 obtain ⟨news,qi⟩:∃news,news=(cs.toList.drop (j*1)).take ((n-j)*1):=⟨_,rfl⟩;rw [←qi];have hlen:news.length=(n-j)*1:=by rw [qi];simp;omega
 obtain ⟨A,hA,VP⟩:∃A:Addr,(if cap=j then (some ⟨b,0,none⟩:Option Addr) else some ⟨b,j,none⟩)=some A/\Hid (∀t u,news[t]? =some u->w.drew.cell? (A.add t)=some u):=by
  by_cases h:cap=j
  . refine ⟨⟨b,0,none⟩,by simp [h],fun t u hu=> ?_⟩;have h0:news.length=0:=by rw [hlen];omega
    rw [List.length_eq_zero_iff.1 h0] at hu;simp at hu
  refine ⟨⟨b,j,none⟩,by simp [h],fun t u hu=> ?_⟩;have ht:t<(n-j)*1:=by
   have:=(uq8.1 hu).1
   rwa [hlen] at this
  rw [qi,List.getElem?_take,if_pos ht,List.getElem?_drop] at hu;rw [Addr.add_lit];show w.cell? _=_;simp only [World.cell?,hb,Option.isSome_none,uq4,↓reduceIte];simpa using hu
 have s1:Hid (news.length=(n-j)*1):=hlen;have s2:Hid (∀u∈news,u.oneCell'=true):=by intro u hu;rw [qi] at hu;exact h1 u hu
 have s3:Hid (∀t,t<news.length->(w.drew.cell? ⟨b,0+i*1+t,none⟩).isSome=true/\w.drew.frozen? ⟨b,0+i*1+t,none⟩=false):=by
  intro t ht;rw [hlen] at ht;have hlt:0+i*1+t<cs.size:=by omega
  refine ⟨?_,?_⟩
  . show (w.cell? _).isSome=true;simp [World.cell?,hb];omega
  show w.frozen? _=false;exact l8 hb hlt
 obtain ⟨W1,hW1⟩:∃W1,W1=w.drew.setCells b (0+i*1) news:=⟨_,rfl⟩;have hsz:((cs.toList.take (0+i*1)++news++cs.toList.drop (0+i*1+news.length)).toArray).size=cap*1:=by simp [hlen];omega
 have Tc:W1.heap[b]? =some (eo (cs.toList.take (0+i*1)++news++cs.toList.drop (0+i*1+news.length)).toArray e):=by rw [hW1,nf (P:=pG) (w:=w.drew) hb s2.out (by rw [hlen];omega)];exact bT (w:=w.drew) hb (by rw [hsz];exact hcs.symm)
 generalize (cs.toList.take (0+i*1)++news++cs.toList.drop (0+i*1+news.length)).toArray=cs1 at Tc hsz;have hcl:∀ty,(Builtin.clear_ #[24] ty #[.slice (some ⟨b,i+(n-j),none⟩) (n-(i+(n-j))) (cap-(i+(n-j)))]).run pG W1= .ok (.tuple #[]) (W1.setCells b (n-1) [.slice none 0 0]):=by
  intro ty;have e1:i+(n-j)=n-1:=by omega
  have e2:n-(n-1)=1:=by omega
  rw [e1,e2]
  have hst:=run_storeCells_cells (P:=pG) b (n-1) [.slice none 0 0] 0 W1 (fun j hj=>by
   have hj:j<1:=hj;have hlt:(n-1)+0+j<cs1.size:=by omega
   simp [World.cell?,Tc];omega) (fun j hj=>by
   have hj:j<1:=hj
   exact l8 Tc (by omega)) (by
   intro v hv;simp only [List.mem_cons,List.not_mem_nil,or_false] at hv
   subst hv;rfl)
  simp only [Nat.add_zero] at hst;have hz:(Builtin.zeroCells #[Value.slice none 0 0] 1).toList=[.slice none 0 0]:=by
   refine List.ext_getElem (by simp [Builtin.zeroCells]) fun t h1 h2=> ?_;have:t=0:=by simp at h2;omega
   subst this;simp [Builtin.zeroCells]
  simp [Builtin.clear_,run_underlying underlying24,zeroValue58,Value.cells,hz,hst]
 have hW:Hid (W1=w.drew.setCells b (0+i*1) news):=hW1;have X:Aside (W1=w.drew.setCells b (0+i*1) news):=hW1;have hj':Aside (j=i+1):=hj;have hij:(i==j)=false:=by simp;omega
 have hlt:i<j:=by omega
 have hjn:j<=n:=by omega
 have mixed:Tryz.prog.follows .mixedOrders=true:=mixed;have hic:i<=cap:=by omega
 have hjc:j<=cap:=by omega
 clear hW1 Tc hsz qi hlen hb hcs h1 hj
 go_enter func114,Tryz.ntmps114
 obtain ⟨i0,hi0⟩:∃i,Tryz.prog.info? 58=some i:=Option.isSome_iff_exists.1 (by kernel_rfl);have hz1:i0.size=1:=by
  have:(Tryz.prog.info? 58).map (fun i=>i.size)=some 1:=by kernel_rfl
  rw [hi0] at this;simpa using this
 go_wp2_with fail
 go_region_law_o (refine step_append_room rfl (.tmp 22) (.tmp 25) 24 rfl 58 i0 1 underlying24 hi0 hz1 b 0 i cap (by simp [Act.eval,Act.put]) A (n-j) (cap-j) news (by simp [Act.eval,Act.put]) s1.out VP.out s2.out (by omega) s3.out ?_;rw [←hW.out])
 go_wp2
 go_ret
 have hj:=hj'.out;refine ⟨by rw [show n-1=i+(n-j) by omega];rfl,1,?_⟩;rw [X.out,Nat.zero_add];rfl
attribute [go_sem] Option.map_none Nat.sub_zero
def e8 (x:Int):Int:=if x< -x then -x else x
def a6 (c:lI):Nat->Nat
 |0=>1
 |i+1=>if c.getD (i+1) 0=c.getD i 0 then a6 c i+1 else 1
theorem ij (c:lI) (i:Nat):1<=a6 c i/\a6 c i<=i+1/\(∀j,j<a6 c i->c.getD (i-j) 0=c.getD i 0)/\(a6 c i<i+1->c.getD (i-a6 c i) 0≠c.getD i 0):=by
 induction i with
 |zero=>exact ⟨aP _,aP _,fun j hj=>by simp [a6] at hj;subst hj;rfl,fun h=>by simp [a6] at h⟩
 |succ i ih=>
  obtain ⟨h1,h2,h3,h4⟩:=ih;simp only [a6];split
  . rename_i e;refine ⟨by omega,by omega,fun j hj=> ?_,fun hj=> ?_⟩
    . rw [e];cases j with
      |zero=>exact e
      |succ j=>rw [show i+1-(j+1)=i-j by omega];exact h3 j (by omega)
    rw [e,show i+1-(a6 c i+1)=i-a6 c i by omega];exact h4 (by omega)
  rename_i e;refine ⟨by omega,by omega,fun j hj=> ?_,fun _=> ?_⟩
  . have:j=0:=by omega
    subst this;rfl
  show c.getD i 0≠_;exact fun h=>e h.symm
theorem x6 (c:lI) (n i:Nat) (h:i<n):a6 (c.take n) i=a6 c i:=by
 have g:∀j,j<n->(c.take n).getD j 0=c.getD j 0:=fun j hj=>by simp [uq6,hj]
 induction i with
 |zero=>rfl
 |succ i ih=>simp only [a6];rw [g (i+1) h,g i (by omega),ih (by omega)]
def dx (c:lI) (i:Nat):Nat:=if i=0 then 0 else a6 c (i-1)
def dq (c:lI):Nat->Nat
 |0=>0
 |i+1=>if dq c i<a6 c i then a6 c i else dq c i
theorem LZ (c:lI) (s:Int) (hs:0<=s) (n:Nat):decide ((dq c n:Int)>s)= !((cq n).all fun i=>decide ((a6 c i:Int)<=s)):=by
 induction n with
 |zero=>simp [dq];omega
 |succ n ih=>
  rw [bm,Bool.not_and,←ih];simp only [dq];split
  . by_cases h:(a6 c n:Int)<=s
    . rw [decide_eq_true h,decide_eq_false (show ¬(dq c n:Int)>s by omega),decide_eq_false (show ¬(a6 c n:Int)>s by omega)];rfl
    rw [decide_eq_false h,decide_eq_true (show (a6 c n:Int)>s by omega)];simp
  by_cases h:(a6 c n:Int)<=s
  . rw [decide_eq_true h];simp
  rw [decide_eq_false h,decide_eq_true (show (dq c n:Int)>s by omega)];simp
def cy (m:aK) (c:lI) (i:Nat):Bool:=i==0||decide (e8 (c.getD i 0-c.getD (i-1) 0)<=m.step)
def bo (c:lI) (n:Nat):Nat:=((cq n).filter fun i=> !has (c.take i) (c.getD i 0)).length
theorem r9 (c:lI) (i:Nat) (h:i<c.length):(bo c (i+1):Int)=if (!has (c.take i) c[i])=true then (bo c i:Int)+1 else bo c i:=by
 have g:c.getD i 0=c[i]:=by simp [uq6,h]
 rw [bo,bO,List.filter_append,List.filter_cons,g];split<;>simp [bo]
theorem jk (c:lI) (i:Nat):bo c i<=i:=by rw [bo];exact aO (List.length_filter_le _ _) (by simp)
def fault (m:aK) (c:lI):Int:=
 if (c.length:Int)≠m.af then 1
 else if (c.all fun x=>bB x 0 (m.ao-1))=false then 2
 else if ((cq c.length).all (cy m c))=false then 3
 else if ((cq c.length).all fun i=>decide ((a6 c i:Int)<=m.same))=false then 4
 else if (bo c c.length:Int)<m.least then 5 else 0
attribute [irreducible] a6 dq bo
theorem Fu (x:Int) (h: -1000<=x/\x<=1000):Fn pG 92 [eI x] true (· =eI (e8 x)):=by
 refine Fn.au 7 [.tmp 2] func92 (hv:= ?_);simp -dsimp -implicitDefEqProofs only [go_sem];with_reducible and_intros
 all_goals first|(refine ⟨?_,?_⟩<;>omega)|(simp_all [e8];done)|skip
theorem jl (x:Int) (h: -1000<=x/\x<=1000):Fn pG 131 [eI x] true (· =eI (e8 x)):=by
 refine Fn.au 7 [.tmp 2] func131 (hv:= ?_);simp -dsimp -implicitDefEqProofs only [go_sem];with_reducible and_intros
 all_goals first|(refine ⟨?_,?_⟩<;>omega)|(simp_all [e8];done)|skip
theorem qC (c:lI) (h:c.length<=1048576):Fn pG 93 [aQ c] true (· =eI (bo c c.length)):=by
 refine Fn.au 23 [.tmp 2] func93 (hv:= ?_);simp -dsimp -implicitDefEqProofs only [go_sem];refine aj.up [0] [7,18] [] c.length (fun _=>True) (fun i=>[(4,eI i),(3,eI (bo c i))]) (fun _=>[]) trivial ?_ rfl (fun i hi _=> ?_) (fun _=> ?_)
 . simp -dsimp -implicitDefEqProofs only [go_sem];all_goals first|(simp [bo];done)|skip
 . have gi:=get_some hi;have li:=aE hi;have hs:=r9 c i hi;have hle:=jk c i;simp -dsimp -implicitDefEqProofs only [pz,↓reduceIte,bh];rw [hs];clear hs;simp -dsimp -implicitDefEqProofs only [go_sem,li]
   repeat' first
    |(refine Br.intro (fun _=> ?_) (fun _=> ?_)<;>try simp -dsimp -implicitDefEqProofs only [go_sem, *])
    |(with_reducible refine ai ?_ ?_)
    |(refine aj.draw mixed rfl ?_;try simp -dsimp -implicitDefEqProofs only [go_sem, *])
    |(rw [←List.map_take];refine ak (Fo (c.take i) c[i] (by simp;omega)) ?_;try simp -dsimp -implicitDefEqProofs only [go_sem, *])
   all_goals first
    |omega|(refine ⟨?_,?_⟩<;>omega)|(simp;done)
    |rfl
    |skip
 have hle:=jk c c.length;simp -dsimp -implicitDefEqProofs only [pz,↓reduceIte,bh];simp -dsimp -implicitDefEqProofs only [go_sem,aA]
theorem iA (c:lI) (h:c.length<=1048576):Fn pG 133 [aQ c] true (· =eI (bo c c.length)):=by
 refine Fn.au 23 [.tmp 2] func133 (hv:= ?_);simp -dsimp -implicitDefEqProofs only [go_sem];refine aj.up [0,6,7] [17] [] c.length (fun _=>True) (fun i=>[(8,eI i),(3,eI (bo c i))]) (fun _=>[]) trivial ?_ rfl (fun i hi _=> ?_) (fun _=> ?_)
 . simp -dsimp -implicitDefEqProofs only [go_sem];all_goals first|(simp [bo];done)|skip
 . have gi:=get_some hi;have li:=aE hi;have hs:=r9 c i hi;have hle:=jk c i;simp -dsimp -implicitDefEqProofs only [pz,↓reduceIte,bh];rw [hs];clear hs;simp -dsimp -implicitDefEqProofs only [go_sem,li,gi]
   repeat' first
    |(refine Br.intro (fun _=> ?_) (fun _=> ?_)<;>try simp -dsimp -implicitDefEqProofs only [go_sem, *])
    |(with_reducible refine ai ?_ ?_)
    |(rw [←List.map_take];refine aa (qy (c.take i) c[i] (by simp;omega)) ?_;try simp -dsimp -implicitDefEqProofs only [go_sem, *])
   all_goals first
    |omega|(refine ⟨?_,?_⟩<;>omega)|(simp;done)
    |skip
 have hle:=jk c c.length;simp -dsimp -implicitDefEqProofs only [pz,↓reduceIte,bh];simp -dsimp -implicitDefEqProofs only [go_sem,aA]
theorem ku (c:lI) (h0:0<c.length) (h:c.length<=1048576):Fn pG 132 [aQ c] true (· =eI (a6 c (c.length-1))):=by
 refine Fn.au 28 [.tmp 2] func132 (hv:= ?_);obtain ⟨p1,p2,p3,p4⟩:=ij c (c.length-1);generalize hR:a6 c (c.length-1)=R at p1 p2 p3 p4;have gl:c[c.length-1]? =some (c.getD (c.length-1) 0):=by simp [uq6,show c.length-1<c.length by omega]
 generalize c.getD (c.length-1) 0=z at gl p3 p4;have q3:∀j,j<R->c[c.length-1-j]? =some z:=fun j hj=>by rw [←p3 j hj];simp [uq6,show c.length-1-j<c.length by omega]
 have e1:((c.length:Int)-1).toNat=c.length-1:=by omega
 simp -dsimp -implicitDefEqProofs only [go_sem];refine aj.up [0] [6,11,19] [] (R-1) (fun _=>True) (fun i=>[(3,eI ((i+1:Nat):Int))]) (fun _=>[]) trivial ?_ rfl (fun i hi _=> ?_) (fun _=> ?_)
 . simp -dsimp -implicitDefEqProofs only [go_sem];all_goals first|(simp;done)|skip
 . have g:=q3 (i+1) (by omega);have li:decide (((i+1:Nat):Int)<(c.length:Int))=true:=dT (by omega);have e2:((c.length:Int)-1-((i+1:Nat):Int)).toNat=c.length-1-(i+1):=by omega
   clear q3 p3 p4;simp -dsimp -implicitDefEqProofs only [pz,↓reduceIte,bh];simp -dsimp -implicitDefEqProofs only [go_sem]
   repeat' first
    |(with_reducible refine ai ?_ ?_)
    |(refine aj.draw mixed rfl ?_;try simp -dsimp -implicitDefEqProofs only [go_sem,li,e1,e2,g,gl])
   all_goals first
    |omega|(refine ⟨?_,?_⟩<;>omega)|(simp;done)
    |rfl
    |skip
 have er:R-1+1=R:=by omega
 clear q3 p3;rw [er];simp -dsimp -implicitDefEqProofs only [pz,↓reduceIte,bh];by_cases hlt:R<c.length
 . have g:c[c.length-1-R]? =some (c.getD (c.length-1-R) 0):=by simp [uq6,show c.length-1-R<c.length by omega]
   have hz:(c.getD (c.length-1-R) 0==z)=false:=beq_eq_false_iff_ne.2 (p4 (by omega));have li:decide ((R:Int)<(c.length:Int))=true:=dT (by omega);have e2:((c.length:Int)-1-(R:Int)).toNat=c.length-1-R:=by omega
   generalize c.getD (c.length-1-R) 0=y at g hz;clear p4;simp -dsimp -implicitDefEqProofs only [go_sem]
   repeat' first
    |(with_reducible refine ai ?_ ?_)
    |(refine aj.draw mixed rfl ?_;try simp -dsimp -implicitDefEqProofs only [go_sem,li,e1,e2,g,gl,hz])
   all_goals first
    |omega|(refine ⟨?_,?_⟩<;>omega)
    |rfl
    |skip
 have li:decide ((R:Int)<(c.length:Int))=false:=dF (by omega);clear p4;simp -dsimp -implicitDefEqProofs only [go_sem];repeat' (refine aj.draw mixed rfl ?_;try simp -dsimp -implicitDefEqProofs only [go_sem,li])
 all_goals first
  |rfl
  |skip
theorem x7 (m:aK) (c:lI) (hm:aY m=true) (h:c.length<=1048576):Fn pG 91 [la m,aQ c] true (· =eB ((c.all fun x=>bB x 0 (m.ao-1))&&((c.length:Int)==m.af))):=by
 refine Fn.au 26 [.tmp 4] func91 (hv:= ?_);have hb:=aM hm;simp -dsimp -implicitDefEqProofs only [go_sem];refine aj.up [1,2] [8,19] [] c.length (fun i=>(c.take i).all (fun x=>bB x 0 (m.ao-1))) (fun i=>[(5,eI i)]) (fun _=>[]) (by simp) ?_ rfl (fun i hi hI=> ?_) (fun hI=> ?_)
 . simp -dsimp -implicitDefEqProofs only [go_sem]
 . have gi:=get_some hi;have li:=aE hi;have no:bB c[i] 0 (m.ao-1)=false->(c.all fun x=>bB x 0 (m.ao-1))=false:=fun h=>gL (p:=fun x=>bB x 0 (m.ao-1)) hi h;have yes:bB c[i] 0 (m.ao-1)=true->(c.take (i+1)).all (fun x=>bB x 0 (m.ao-1))=true:=fun h=>by rw [dw _ _ _ hi,hI,h];rfl
   simp -dsimp -implicitDefEqProofs only [pz,fH,gW,cS,↓reduceIte,bh];simp -dsimp -implicitDefEqProofs only [go_sem,li]
   repeat' first
    |(refine Br.intro (fun _=> ?_) (fun _=> ?_)<;>try simp -dsimp -implicitDefEqProofs only [go_sem, *])
    |(with_reducible refine ai ?_ ?_)
    |(refine aj.draw mixed rfl ?_;try simp -dsimp -implicitDefEqProofs only [go_sem, *])
    |(refine ak (jz _ _ _) ?_;try simp -dsimp -implicitDefEqProofs only [go_sem, *])
   all_goals first
    |omega
    |(refine ⟨?_,?_⟩<;>omega)
    |rfl
    |(rw [no (by simp_all)];rfl)
    |(refine yes ?_;simp_all;done)
    |skip
 simp -dsimp -implicitDefEqProofs only [pz,fH,gW,cS,↓reduceIte,bh];rw [aW] at hI;simp -dsimp -implicitDefEqProofs only [go_sem,aA];rw [hI];rfl
theorem Ic (m:aK) (c:lI) (hm:aY m=true) (h:c.length<=1048576):Fn pG 130 [la m,aQ c] true (· =eB (((c.length:Int)==m.af)&&(c.all fun x=>bB x 0 (m.ao-1)))):=by
 refine Fn.au 17 [.tmp 4] func130 (hv:= ?_);have hb:=aM hm;simp -dsimp -implicitDefEqProofs only [go_sem]
 repeat' first
  |(refine Br.intro (fun _=> ?_) (fun _=> ?_)<;>try simp -dsimp -implicitDefEqProofs only [go_sem, *])
  |(with_reducible refine ai ?_ ?_)
  |(refine aa (oO c 0 (m.ao-1) (by omega)) ?_;try simp -dsimp -implicitDefEqProofs only [go_sem, *])
 all_goals first
  |(refine ⟨?_,?_⟩<;>omega)
  |skip
theorem JL {m:aK} {c:lI} (hm:aY m=true) (ha:(c.all fun x=>bB x 0 (m.ao-1))=true) (i:Nat) (hi:i<c.length):0<=c[i]/\c[i]<=7:=by have:=aM hm;rw [uq5] at ha;have:=ha _ (uq9 hi);simp [bB] at this;omega
theorem mH {m:aK} (h:aY m=true):1<=m.same/\m.same<=6/\1<=m.least/\1<=m.step:=by simp only [aY,uq3,bB,decide_eq_true_eq] at h;omega
theorem nr (m:aK) (c:lI) (hm:aY m=true) (h:c.length<=1048576):Fn pG 78 [la m,aQ c] true (· =eI (fault m c)):=by
 refine Fn.au 71 [.tmp 4] func78 (hv:= ?_);rcases hl:((c.length:Int)==m.af) with _|_
 . have hF:fault m c=1:=by rw [fault,if_pos (by simpa using hl)]
   rw [hF];simp -dsimp -implicitDefEqProofs only [go_sem];repeat' (refine Br.intro (fun _=> ?_) (fun _=> ?_)<;>try simp -dsimp -implicitDefEqProofs only [go_sem, *])
   all_goals (first|(simp_all;done)|skip)
 have hle:¬(c.length:Int)≠m.af:=by simpa using hl
 rcases ha:(c.all fun x=>bB x 0 (m.ao-1)) with _|_
 . have hF:fault m c=2:=by rw [fault,if_neg hle,if_pos ha]
   have hc:=x7 m c hm h;rw [ha,hl] at hc;rw [hF];clear hF ha hle;simp -dsimp -implicitDefEqProofs only [go_sem]
   repeat' first
    |(refine Br.intro (fun _=> ?_) (fun _=> ?_)<;>try simp -dsimp -implicitDefEqProofs only [go_sem, *])
    |(refine aa (hc) ?_;try simp -dsimp -implicitDefEqProofs only [go_sem, *])
   all_goals (first|(simp_all;done)|skip)
 have hF:fault m c=if ((cq c.length).all (cy m c))=false then 3 else if ((cq c.length).all fun i=>decide ((a6 c i:Int)<=m.same))=false then 4 else if (bo c c.length:Int)<m.least then 5 else 0:=by rw [fault,if_neg hle,if_neg (by simp [ha])]
 have hc:=x7 m c hm h;rw [ha,hl] at hc;have hel:=JL hm ha;have hsm:=mH hm;have hkl:=jk c c.length;have hch:c.length<=6:=by have:=aM hm;omega
 clear ha hle;simp -dsimp -implicitDefEqProofs only [go_sem]
 repeat' first
  |(refine Br.intro (fun _=> ?_) (fun _=> ?_)<;>try simp -dsimp -implicitDefEqProofs only [go_sem, *])
  |(refine aa (hc) ?_;try simp -dsimp -implicitDefEqProofs only [go_sem, *])
 all_goals try ((simp_all;done))
 clear hl hc;refine aj.up [1,2] [19,36,59] [] c.length (fun i=>(cq i).all (cy m c)) (fun i=>[(7,eI i),(5,eI (dx c i)),(6,eI (dq c i))]) (fun _=>[]) (by simp) ?_ rfl (fun i hi hI=> ?_) (fun hI=> ?_)
 . have h0:dq c 0=0:=by unfold dq;rfl
   rw [show dx c 0=0 from rfl,h0];simp -dsimp -implicitDefEqProofs only [go_sem]
 . have no:cy m c i=false->fault m c=3:=fun h=>by rw [hF,if_pos (bX hi h)]
   have yes:cy m c i=true->(cq (i+1)).all (cy m c)=true:=fun h=>by rw [bm,hI,h];rfl
   have hM:((dq c (i+1):Nat):Int)=if ((dx c (i+1):Nat):Int)>(dq c i:Int) then ((dx c (i+1):Nat):Int) else (dq c i:Int):=by
    rw [show dx c (i+1)=a6 c i from rfl];rw [show dq c (i+1)=if dq c i<a6 c i then a6 c i else dq c i by rw [dq]];by_cases hlt:dq c i<a6 c i
    . rw [if_pos hlt,if_pos (by omega)]
    rw [if_neg hlt,if_neg (by omega)]
   have hrb:dx c i<=i/\dx c (i+1)<=i+1:=by
    refine ⟨?_,(ij c i).2.1⟩;rw [dx];split
    . omega
    have:=(ij c (i-1)).2.1;omega
   have hmb:dq c i<=c.length:=by
    have key:∀n,dq c n<=n:=fun n=>by
     induction n with
     |zero=>unfold dq;omega
     |succ n ih=>rw [dq];have:=(ij c n).2.1;split<;>omega
    have:=key i;omega
   have e1:=hel i hi;have gi:=get_some hi;have li:=aE hi;clear hF hI;generalize dq c i=M at hM hmb;generalize dq c (i+1)=M' at hM;by_cases hi0:0<i
   rotate_left
   . have g3:decide ((i:Int)>0)=false:=by simp;omega
     have hR:dx c i=0/\dx c (i+1)=1:=by
      have e0:i=0:=by omega
      subst e0;exact ⟨rfl,by show a6 c 0=1;unfold a6;rfl⟩
     have hs:cy m c i=true:=by
      have e0:i=0:=by omega
      subst e0;rfl
     rw [hR.1,hR.2];rw [hR.2] at hM;clear hR hrb no;have yes:=yes hs;simp -dsimp -implicitDefEqProofs only [pz,fH,gW,cS,↓reduceIte,bh];rw [hM];simp -dsimp -implicitDefEqProofs only [go_sem,li]
     repeat' first
      |(with_reducible refine ai ?_ ?_)
      |(refine aj.draw mixed rfl ?_;try simp -dsimp -implicitDefEqProofs only [go_sem,g3])
     all_goals (first|(refine ⟨?_,?_⟩<;>omega)|(simp;done)|rfl|(simp_all;done)|skip)
   have hi':i-1<c.length:=by omega
   have e2:=hel (i-1) hi';have g2:c[((i:Int)-1).toNat]? =some c[i-1]:=by rw [pred_toNat hi0];exact get_some hi'
   have g3:decide ((i:Int)>0)=true:=by simp;omega
   have hs:cy m c i=decide (e8 (c[i]-c[i-1])<=m.step):=by rw [cy,show (i==0)=false by simp;omega];simp [uq6,hi,hi']
   have hR:((dx c (i+1):Nat):Int)=if (c[i]==c[i-1])=true then (dx c i:Int)+1 else 0+1:=by
    obtain ⟨j,rfl⟩:∃j,i=j+1:=⟨i-1,by omega⟩;rw [show dx c (j+1+1)=a6 c (j+1) from rfl,show dx c (j+1)=a6 c j from rfl,a6];simp only [Nat.add_sub_cancel];have q1:c.getD (j+1) 0=c[j+1]:=by simp [uq6,hi]
    have q2:c.getD j 0=c[j]:=by simp [uq6,show j<c.length by omega]
    rw [q1,q2];by_cases hq:c[j+1]=c[j]
    . rw [if_pos hq,if_pos (by simpa using hq)];simp
    rw [if_neg hq,if_neg (by simpa using hq)];simp
   rw [hs] at no yes;have yes':decide (e8 (c[i]-c[i-1])>m.step)=false->(cq (i+1)).all (cy m c)=true:=fun h=>yes (dT (by have:=of_decide_eq_false h;omega));have no':decide (e8 (c[i]-c[i-1])>m.step)=true->fault m c=3:=fun h=>no (dF (by have:=oT h;omega));have hab:e8 (c[i]-c[i-1])<=7:=by unfold e8;split<;>omega
   have YG:0<=e8 (c[i]-c[i-1]):=by unfold e8;split<;>omega
   generalize dx c i=R at hR hrb;generalize dx c (i+1)=R' at hR hrb hM;clear hs;simp -dsimp -implicitDefEqProofs only [pz,fH,gW,cS,↓reduceIte,bh];rw [hM];clear hM;rw [hR];simp -dsimp -implicitDefEqProofs only [go_sem,li]
   repeat' first
    |(refine Br.intro (fun _=> ?_) (fun _=> ?_)<;>try simp -dsimp -implicitDefEqProofs only [go_sem, *])
    |(with_reducible refine ai ?_ ?_)
    |(refine aj.draw mixed rfl ?_;try simp -dsimp -implicitDefEqProofs only [go_sem,gi,g2,g3])
    |(refine ak (Fu _ (by omega)) ?_;try simp -dsimp -implicitDefEqProofs only [go_sem, *])
   all_goals first
    |(rw [←bO];exact yes' (by assumption))
    |(first|omega|(refine ⟨?_,?_⟩<;>omega)|(simp;done)|rfl|(simp_all;done)|skip)
 have hMl:=LZ c m.same (by omega) c.length;rw [hI,if_neg (by decide)] at hF;rw [hF];clear hF hel hI;rcases hq:((cq c.length).all fun i=>decide ((a6 c i:Int)<=m.same)) with _|_
 all_goals
  rw [hq] at hMl;clear hq;by_cases hk:(bo c c.length:Int)<m.least
 all_goals
  have hk':=hk;first|rw [if_pos hk]|rw [if_neg hk]
  (replace hk':=dT hk');clear hk;simp -dsimp -implicitDefEqProofs only [pz,fH,gW,cS,↓reduceIte,bh];simp -dsimp -implicitDefEqProofs only [go_sem,aA,hMl]
  repeat' first
   |(refine Br.intro (fun _=> ?_) (fun _=> ?_)<;>try simp -dsimp -implicitDefEqProofs only [go_sem, *])
   |(with_reducible refine ai ?_ ?_)
   |(refine aj.draw mixed rfl ?_;try simp -dsimp -implicitDefEqProofs only [go_sem])
   |(refine ak (qC c h) ?_;try simp -dsimp -implicitDefEqProofs only [go_sem, *])
  all_goals (first|rfl|(simp_all;omega)|skip)
theorem x8 (m:aK) (c:lI) (hm:aY m=true) (h:c.length<=1048576):Fn pG 90 [la m,aQ c] true (· =eI (fault m c)):=by
 refine Fn.au 55 [.tmp 4] func90 (hv:= ?_);rcases hl:((c.length:Int)==m.af) with _|_
 . have hF:fault m c=1:=by rw [fault,if_pos (by simpa using hl)]
   rw [hF];simp -dsimp -implicitDefEqProofs only [go_sem];repeat' (refine Br.intro (fun _=> ?_) (fun _=> ?_)<;>try simp -dsimp -implicitDefEqProofs only [go_sem, *])
   all_goals (first|(simp_all;done)|skip)
 have hle:¬(c.length:Int)≠m.af:=by simpa using hl
 have hc:=Ic m c hm h;rcases ha:(c.all fun x=>bB x 0 (m.ao-1)) with _|_
 . have hF:fault m c=2:=by rw [fault,if_neg hle,if_pos ha]
   rw [ha,hl] at hc;rw [hF];clear hF ha hle;simp -dsimp -implicitDefEqProofs only [go_sem]
   repeat' first
    |(refine Br.intro (fun _=> ?_) (fun _=> ?_)<;>try simp -dsimp -implicitDefEqProofs only [go_sem, *])
    |(refine aa (hc) ?_;try simp -dsimp -implicitDefEqProofs only [go_sem, *])
   all_goals (first|(simp_all;done)|skip)
 have hF:fault m c=if ((cq c.length).all (cy m c))=false then 3 else if ((cq c.length).all fun i=>decide ((a6 c i:Int)<=m.same))=false then 4 else if (bo c c.length:Int)<m.least then 5 else 0:=by rw [fault,if_neg hle,if_neg (by simp [ha])]
 rw [ha,hl] at hc;have hel:=JL hm ha;have hsm:=mH hm;have hkl:=jk c c.length;have hch:2<=c.length/\c.length<=6:=by have:=aM hm;omega
 clear ha hle;simp -dsimp -implicitDefEqProofs only [go_sem]
 repeat' first
  |(refine Br.intro (fun _=> ?_) (fun _=> ?_)<;>try simp -dsimp -implicitDefEqProofs only [go_sem, *])
  |(refine aa (hc) ?_;try simp -dsimp -implicitDefEqProofs only [go_sem, *])
 all_goals try ((simp_all;done))
 clear hl hc;refine aj.up [1,2] [18,32] [] (c.length-1) (fun i=>(cq (i+1)).all (cy m c)) (fun i=>[(5,eI ((i+1:Nat):Int))]) (fun _=>[]) (by simp [cy]) ?_ rfl (fun i hi hI=> ?_) (fun hI=> ?_)
 . simp -dsimp -implicitDefEqProofs only [go_sem];all_goals (first|(simp;done)|skip)
 . have hi1:i+1<c.length:=by omega
   have hi0:i<c.length:=by omega
   have no:cy m c (i+1)=false->fault m c=3:=fun h=>by rw [hF,if_pos (bX hi1 h)]
   have yes:cy m c (i+1)=true->(cq (i+1+1)).all (cy m c)=true:=fun h=>by rw [bm,hI,h];rfl
   have e1:=hel i hi0;have e2:=hel (i+1) hi1;have g1:=get_some hi1;have g2:c[(((i+1:Nat):Int)-1).toNat]? =some c[i]:=by rw [show (((i+1:Nat):Int)-1).toNat=i by omega];exact get_some hi0
   have li:=aE hi1;have hs:cy m c (i+1)=decide (e8 (c[i+1]-c[i])<=m.step):=by rw [cy,show (i+1==0)=false by simp];simp [uq6,hi0,hi1]
   rw [hs] at no yes;have yes':decide (e8 (c[i+1]-c[i])>m.step)=false->(cq (i+1+1)).all (cy m c)=true:=fun h=>yes (dT (by have:=of_decide_eq_false h;omega));have no':decide (e8 (c[i+1]-c[i])>m.step)=true->fault m c=3:=fun h=>no (dF (by have:=oT h;omega));have hab:e8 (c[i+1]-c[i])<=7:=by unfold e8;split<;>omega
   have YG:0<=e8 (c[i+1]-c[i]):=by unfold e8;split<;>omega
   clear hF hI hs;simp -dsimp -implicitDefEqProofs only [pz,fH,gW,cS,↓reduceIte,bh];simp -dsimp -implicitDefEqProofs only [go_sem,li]
   repeat' first
    |(refine Br.intro (fun _=> ?_) (fun _=> ?_)<;>try simp -dsimp -implicitDefEqProofs only [go_sem, *])
    |(with_reducible refine ai ?_ ?_)
    |(refine aj.draw mixed rfl ?_;try simp -dsimp -implicitDefEqProofs only [go_sem,g1,g2])
    |(refine ak (jl _ (by omega)) ?_;try simp -dsimp -implicitDefEqProofs only [go_sem, *])
   all_goals first
    |(simp only [bO] at yes' ⊢;exact yes' (by assumption))
    |(first|omega|(refine ⟨?_,?_⟩<;>omega)|(simp;done)|rfl|skip)
 have hcl:c.length-1+1=c.length:=by omega
 rw [hcl] at hI ⊢;rw [hI,if_neg (by decide)] at hF;clear hel hI hcl;simp -dsimp -implicitDefEqProofs only [pz,fH,gW,cS,↓reduceIte,bh];simp -dsimp -implicitDefEqProofs only [go_sem,aA];refine aj.up [1,2,37] [45] [] c.length (fun i=>(cq i).all fun i=>decide ((a6 c i:Int)<=m.same)) (fun i=>[(38,eI i)]) (fun _=>[]) (by simp) ?_ rfl (fun i hi hI=> ?_) (fun hI=> ?_)
 . simp -dsimp -implicitDefEqProofs only [go_sem]
 . have no:decide ((a6 c i:Int)<=m.same)=false->fault m c=4:=fun h=>by rw [hF,if_pos (bX (p:=fun i=>decide ((a6 c i:Int)<=m.same)) hi h)]
   have yes:decide ((a6 c i:Int)<=m.same)=true->((cq (i+1)).all fun i=>decide ((a6 c i:Int)<=m.same))=true:=fun h=>by rw [bm,hI,h];rfl
   have yes':decide ((a6 c i:Int)>m.same)=false->((cq (i+1)).all fun i=>decide ((a6 c i:Int)<=m.same))=true:=fun h=>yes (dT (by have:=of_decide_eq_false h;omega));have no':decide ((a6 c i:Int)>m.same)=true->fault m c=4:=fun h=>no (dF (by have:=oT h;omega));have hrl:=(ij c i).2.1;have hcr:=ku (c.take (i+1)) (by simp;omega) (by simp;omega);have hll:(c.take (i+1)).length-1=i:=by simp;omega
   rw [hll,x6 c (i+1) i (by omega)] at hcr;have li:=aE hi;have e3:((i:Int)+1).toNat=i+1:=by omega
   clear hF hI no yes hll;simp -dsimp -implicitDefEqProofs only [pz,fH,gW,cS,↓reduceIte,bh];simp -dsimp -implicitDefEqProofs only [go_sem,li]
   repeat' first
    |(refine Br.intro (fun _=> ?_) (fun _=> ?_)<;>try simp -dsimp -implicitDefEqProofs only [go_sem, *])
    |(with_reducible refine ai ?_ ?_)
    |(refine aj.draw mixed rfl ?_;try simp -dsimp -implicitDefEqProofs only [go_sem,e3])
    |(rw [←List.map_take];refine ak hcr ?_;try simp -dsimp -implicitDefEqProofs only [go_sem, *])
   all_goals first
    |(rw [←bO];exact yes' (by assumption))
    |(first|omega|(refine ⟨?_,?_⟩<;>omega)|(simp;done)|rfl|skip)
 rw [hI,if_neg (by decide)] at hF;rw [hF];clear hF hI;by_cases hk:(bo c c.length:Int)<m.least
 all_goals
  have hk':=hk;first|rw [if_pos hk]|rw [if_neg hk]
  (replace hk':=dT hk');clear hk;simp -dsimp -implicitDefEqProofs only [pz,fH,gW,cS,↓reduceIte,bh];simp -dsimp -implicitDefEqProofs only [go_sem,aA]
  repeat' first
   |(refine Br.intro (fun _=> ?_) (fun _=> ?_)<;>try simp -dsimp -implicitDefEqProofs only [go_sem, *])
   |(with_reducible refine ai ?_ ?_)
   |(refine aj.draw mixed rfl ?_;try simp -dsimp -implicitDefEqProofs only [go_sem])
   |(refine ak (iA c h) ?_;try simp -dsimp -implicitDefEqProofs only [go_sem, *])
  all_goals (first|rfl|(simp_all;omega)|skip)
end Go.Vc
