import Derived.Lib.SlicesCompact
import Derived.Shelf.RegionOpenPlain
import Derived.Deep.LoopGhost
import Derived.Deep.RegionLaw
import Derived.Lib.Walk
import Derived.Lib.SliceRun
import Derived.Shelf.Spec.SlicesInsertGrow
import Derived.Test.YthdheoafaakbbaaGreatPkLawNormalOrdersC
set_option linter.unusedVariables false
set_option linter.unusedSimpArgs false
set_option linter.unnecessarySimpa false
set_option maxRecDepth 1000000
set_option maxHeartbeats 16000000
open List renaming getD_eq_getElem?_getD→uq0,getElem?_drop→uq1,getElem?_eq_getElem→uq2,getElem?_take→uq3,getElem_mem→uq4,length_drop→uq5,length_singleton→uq6,mem_of_mem_drop→uq7,take_length→uq8,take_succ_eq_append_getElem→uq9,toList_toArray→uq10
open Nat renaming add_assoc→uq11,le_refl→uq12,zero_add→uq13
namespace Go.Vc
def rowsL (xs:List Int):List Int:=Lib.compact (xs.mergeSort fun x y=>decide (x≤y))
theorem mem_compact (zs:List Int) (x:Int):x∈Lib.compact zs↔x∈zs:=by
 unfold Lib.compact Lib.compactUpTo
 have gi:∀i,i<zs.length→zs.toArray[i]! =zs.getD i 0:=fun i hi=>by simp [uq0,hi]
 constructor
 · intro h
   obtain ⟨j,hj,rfl⟩:=List.mem_map.1 h
   have hj':=List.mem_range.1 (List.mem_filter.1 hj).1
   simp [hj']
 · intro h
   obtain ⟨j,hj,rfl⟩:=List.getElem_of_mem h
   induction j with
   |zero=>exact List.mem_map.2 ⟨0,List.mem_filter.2 ⟨List.mem_range.2 hj,by simp [Lib.keeps]⟩,by simp [hj]⟩
   |succ j ih=>
    by_cases e:zs[j+1]=zs[j]
    · rw [e];exact ih (by omega) (uq4 _)
    · refine List.mem_map.2 ⟨j+1,List.mem_filter.2 ⟨List.mem_range.2 hj,?_⟩,by simp [hj]⟩
      have h1:j<zs.length:=by omega
      simp [Lib.keeps,hj,h1,e]
theorem compact_pair (zs:List Int) (h:zs.Pairwise (· ≤ ·)):(Lib.compact zs).Pairwise (· < ·):=by
 unfold Lib.compact Lib.compactUpTo
 rw [List.pairwise_map]
 have hs:=List.pairwise_iff_getElem.1 h
 refine List.Pairwise.imp_of_mem ?_ ((List.pairwise_lt_range (n:=zs.length)).filter (Lib.keeps zs.toArray))
 intro i j hi hj hij
 have hj':=List.mem_range.1 (List.mem_filter.1 hj).1
 have hk:=(List.mem_filter.1 hj).2
 have hi':i<zs.length:=by omega
 have hp:j-1<zs.length:=by omega
 have h1:zs[i]≤zs[j-1]:=by
  rcases Nat.lt_or_ge i (j-1) with hh|hh
  · exact hs i (j-1) _ _ hh
  · have:i=j-1:=by omega
    subst this;exact Int.le_refl _
 have h2:=hs (j-1) j hp hj' (by omega)
 have h3:zs[j]≠zs[j-1]:=by
  have:j≠0:=by omega
  simpa [Lib.keeps,this,hj',hp] using hk
 have e1:zs.toArray[i]! =zs[i]:=by simp [hi']
 have e2:zs.toArray[j]! =zs[j]:=by simp [hj']
 rw [e1,e2];omega
theorem sort_pair (xs:List Int):(xs.mergeSort fun x y=>decide (x≤y)).Pairwise (· ≤ ·):=by
 have:=List.pairwise_mergeSort (le:=fun x y:Int=>decide (x≤y)) (by intro a b c h1 h2;simp at*;omega) (by intro a b;simp;omega) xs
 exact this.imp fun h=>by simpa using h
theorem mem_sort (xs:List Int) (x:Int):x∈(xs.mergeSort fun x y=>decide (x≤y))↔x∈xs:=List.mem_mergeSort
theorem rowsL_mem (xs:List Int) (x:Int):x∈rowsL xs↔x∈xs:=by rw [rowsL,mem_compact,mem_sort]
theorem rowsL_pair (xs:List Int):(rowsL xs).Pairwise (· < ·):=compact_pair _ (sort_pair xs)
theorem rowsL_eq (xs:List Int):rowsL xs=Lib.compact (xs.mergeSort fun x y=>decide (x≤y)):=rfl
attribute [irreducible] rowsL
end Go.Vc
namespace Go.Vc
open Go.Proofs
structure ItM where
 key:Bool
 index:Int
 copies:Int
 deriving DecidableEq,Inhabited
abbrev eIt (x:ItM):AV:=.agg [eB x.key,eI x.index,eI x.copies]
abbrev eIts (xs:List ItM):AV:=.arr ⟨3,true⟩ (xs.map eIt)
def itOk (d n:Nat) (x:ItM):Bool:=isIn x.index 0 ((if x.key then (n:Int) else d)-1)&&isIn x.copies 1 50
def isOrd (t:List (List Int)) (os:List ItM):Bool:=os.all (itOk (t.getD 0 []).length t.length)&&decide (os.length≤20)
theorem isOrd_no {t:List (List Int)} {os:List ItM} {i:Nat} (hi:i<os.length) (h:itOk (t.getD 0 []).length t.length os[i]=false):isOrd t os=false:=by
 rw [isOrd,all_no hi h];simp
def ordCode (m:MkM) (t:List (List Int)) (os:List ItM):Int:=if isSy m t then (if isOrd t os then 0 else 2) else 1
theorem le20 (n:Nat):decide ((n:Int)≤20)=decide (n≤20):=by rw [decide_eq_decide];omega
theorem c_iisOrder (m:MkM) (t:List (List Int)) (os:List ItM) (h0:0<t.length) (h:t.length≤1048576) (h2:∀x∈t,x.length≤1048576) (h3:os.length≤2097152):Fn Tryz.prog 61 [eSy m t,eIts os] true (· =eB (isOrd t os)):=by
 refine Fn.of_vcN 40 [.tmp 4] Tryz.func61 rfl rfl rfl rfl rfl (of_decide_eq_true rfl) ?_
 have g0:=get_some h0
 have gd:t.getD 0 []=t[0]:=by simp [uq0,h0]
 have hx0:=h2 t[0] (uq4 h0)
 simp -dsimp -implicitDefEqProofs only [go_sem]
 refine Later.up [1,2,8,9] [6,18,23,28,33] [] os.length (fun i=>(os.take i).all (itOk t[0].length t.length)) (fun i=>[(10,eI i)]) (fun _=>[]) (by simp) ?_ rfl (fun i hi hI=> ?_) (fun hI=> ?_)
 · simp -dsimp -implicitDefEqProofs only [go_sem]
 · have gi:=get_some hi
   have li:=lt_len hi
   have no:itOk t[0].length t.length os[i]=false→isOrd t os=false:=fun h=>isOrd_no hi (by rw [gd];exact h)
   have yes:itOk t[0].length t.length os[i]=true→(os.take (i+1)).all (itOk t[0].length t.length)=true:=fun h=>by rw [all_take _ _ _ hi,hI,h];rfl
   clear gd hI
   simp -dsimp -implicitDefEqProofs only [pz,Nat.reduceBEq,Nat.reduceDiv,Nat.reduceAdd,↓reduceIte,Nat.reduceEqDiff]
   simp -dsimp -implicitDefEqProofs only [go_sem,li,gi,g0]
   repeat' first
    |(refine Br.intro (fun _=> ?_) (fun _=> ?_)<;>try simp -dsimp -implicitDefEqProofs only [go_sem, *])
    |(with_reducible refine ai ?_ ?_)
    |(refine sCallT_one (c_within _ _ _) ?_;try simp -dsimp -implicitDefEqProofs only [go_sem, *])
   all_goals first
    |omega
    |(refine ⟨?_,?_⟩<;>omega)
    |rfl
    |(simp;done)
    |(rw [no];clear no yes;simp_all [itOk,isIn];done)|(rw [no];clear no yes;simp_all [itOk,isIn];omega)|(refine yes ?_;clear no yes;simp_all [itOk,isIn];done)|(refine yes ?_;clear no yes;simp_all [itOk,isIn];omega)
    |skip
 · simp -dsimp -implicitDefEqProofs only [pz,Nat.reduceBEq,Nat.reduceDiv,Nat.reduceAdd,↓reduceIte,Nat.reduceEqDiff]
   simp -dsimp -implicitDefEqProofs only [go_sem,nlt_len]
   rw [uq8] at hI
   repeat' (with_reducible refine ai ?_ ?_)
   all_goals first
    |omega
    |(rw [isOrd,gd,hI,le20];rfl)
    |skip
theorem c_l29Valid (m:MkM) (t:List (List Int)) (os:List ItM) (h0:0<t.length) (h:t.length≤1048576) (h2:∀x∈t,x.length≤1048576) (h3:os.length≤2097152):Fn Tryz.prog 69 [eSy m t,eIts os] true (· =eB (isOrd t os)):=by
 refine Fn.of_vcN 47 [.tmp 4] Tryz.func69 rfl rfl rfl rfl rfl (of_decide_eq_true rfl) ?_
 have g0:=get_some h0
 have gd:t.getD 0 []=t[0]:=by simp [uq0,h0]
 have hx0:=h2 t[0] (uq4 h0)
 simp -dsimp -implicitDefEqProofs only [go_sem]
 refine Later.up [1,2] [9,17,25,33,41] [] os.length (fun i=>(os.take i).all (itOk t[0].length t.length)) (fun i=>[(5,eI i)]) (fun _=>[]) (by simp) ?_ rfl (fun i hi hI=> ?_) (fun hI=> ?_)
 · simp -dsimp -implicitDefEqProofs only [go_sem]
 · have gi:=get_some hi
   have li:=lt_len hi
   have no:itOk t[0].length t.length os[i]=false→isOrd t os=false:=fun h=>isOrd_no hi (by rw [gd];exact h)
   have yes:itOk t[0].length t.length os[i]=true→(os.take (i+1)).all (itOk t[0].length t.length)=true:=fun h=>by rw [all_take _ _ _ hi,hI,h];rfl
   clear gd hI
   simp -dsimp -implicitDefEqProofs only [pz,Nat.reduceBEq,Nat.reduceDiv,Nat.reduceAdd,↓reduceIte,Nat.reduceEqDiff]
   simp -dsimp -implicitDefEqProofs only [go_sem,li,gi,g0]
   repeat' first
    |(refine Br.intro (fun _=> ?_) (fun _=> ?_)<;>try simp -dsimp -implicitDefEqProofs only [go_sem, *])
    |(with_reducible refine ai ?_ ?_)
    |(refine sCallT_one (c_l01In _ _ _) ?_;try simp -dsimp -implicitDefEqProofs only [go_sem, *])
   all_goals first
    |omega
    |(refine ⟨?_,?_⟩<;>omega)
    |rfl
    |(simp;done)
    |(rw [no];clear no yes;simp_all [itOk,isIn];done)|(rw [no];clear no yes;simp_all [itOk,isIn];omega)|(refine yes ?_;clear no yes;simp_all [itOk,isIn];done)|(refine yes ?_;clear no yes;simp_all [itOk,isIn];omega)
    |skip
 · simp -dsimp -implicitDefEqProofs only [pz,Nat.reduceBEq,Nat.reduceDiv,Nat.reduceAdd,↓reduceIte,Nat.reduceEqDiff]
   simp -dsimp -implicitDefEqProofs only [go_sem,nlt_len]
   rw [uq8] at hI
   repeat' (with_reducible refine ai ?_ ?_)
   all_goals first
    |omega
    |(rw [isOrd,gd,hI,le20];rfl)
    |skip
theorem c_orderCode (m:MkM) (t:List (List Int)) (os:List ItM) (h:t.length≤1048576) (h2:∀x∈t,x.length≤1048576) (h3:os.length≤1048576):Fn Tryz.prog 57 [eSy m t,eIts os] true (· =eI (ordCode m t os)):=by
 refine Fn.of_vcN 12 [.tmp 4] Tryz.func57 rfl rfl rfl rfl rfl (of_decide_eq_true rfl) ?_
 rcases hb:isSy m t with _|_
 · simp -dsimp -implicitDefEqProofs only [go_sem]
   repeat' first
    |(refine Br.intro (fun _=> ?_) (fun _=> ?_)<;>try simp -dsimp -implicitDefEqProofs only [go_sem, *])
    |(with_reducible refine ai ?_ ?_)
    |(refine sCallT_one (c_iIsSystem m t h h2) ?_;try simp -dsimp -implicitDefEqProofs only [go_sem, *])
   all_goals first
    |omega
    |(simp_all [ordCode];done)
    |skip
 have h0:0<t.length:=(isSy_num hb).1
 simp -dsimp -implicitDefEqProofs only [go_sem]
 repeat' first
  |(refine Br.intro (fun _=> ?_) (fun _=> ?_)<;>try simp -dsimp -implicitDefEqProofs only [go_sem, *])
  |(with_reducible refine ai ?_ ?_)
  |(refine sCallT_one (c_iIsSystem m t h h2) ?_;try simp -dsimp -implicitDefEqProofs only [go_sem, *])
  |(refine sCallT_one (c_iisOrder m t os h0 h h2 (by omega)) ?_;try simp -dsimp -implicitDefEqProofs only [go_sem, *])
 all_goals first
  |omega
  |(simp_all [ordCode];done)
  |skip
theorem c_l29System (m:MkM) (t:List (List Int)) (os:List ItM) (h:t.length≤1048576) (h2:∀x∈t,x.length≤1048576) (h3:os.length≤1048576):Fn Tryz.prog 62 [eSy m t,eIts os] true (· =eI (ordCode m t os)):=by
 refine Fn.of_vcN 12 [.tmp 4] Tryz.func62 rfl rfl rfl rfl rfl (of_decide_eq_true rfl) ?_
 rcases hb:isSy m t with _|_
 · simp -dsimp -implicitDefEqProofs only [go_sem]
   repeat' first
    |(refine Br.intro (fun _=> ?_) (fun _=> ?_)<;>try simp -dsimp -implicitDefEqProofs only [go_sem, *])
    |(with_reducible refine ai ?_ ?_)
    |(refine sCallT_one (c_sIsSystem m t h h2) ?_;try simp -dsimp -implicitDefEqProofs only [go_sem, *])
   all_goals first
    |omega
    |(simp_all [ordCode];done)
    |skip
 have h0:0<t.length:=(isSy_num hb).1
 simp -dsimp -implicitDefEqProofs only [go_sem]
 repeat' first
  |(refine Br.intro (fun _=> ?_) (fun _=> ?_)<;>try simp -dsimp -implicitDefEqProofs only [go_sem, *])
  |(with_reducible refine ai ?_ ?_)
  |(refine sCallT_one (c_sIsSystem m t h h2) ?_;try simp -dsimp -implicitDefEqProofs only [go_sem, *])
  |(refine sCallT_one (c_l29Valid m t os h0 h h2 (by omega)) ?_;try simp -dsimp -implicitDefEqProofs only [go_sem, *])
 all_goals first
  |omega
  |(simp_all [ordCode];done)
  |skip
end Go.Vc
namespace Go.Vc
open Go.Proofs Go.Shelf Go.RowKit Go.Lib Go.Sort
set_option maxHeartbeats 4000000 in
theorem delItems_run (w:World) (b cap i j n:Nat) (cs:Array Value) (e:El) (hb:w.heap[b]? =some (celO cs e)) (hcs:cs.size=cap*3) (hcap:cap≤9223372036854775807) (hj:j=i+1) (hi:i<n) (hn:n≤cap) (h1:∀v,v∈(cs.toList.drop (j*3)).take ((n-j)*3)→v.oneCell'=true):
 Calls Tryz.prog 66 #[.slice (some ⟨b,0,none⟩) n cap,.int .i64 i,.int .i64 j] w fun e' w'=>e'= .returned (.slice (some ⟨b,0,none⟩) (n-1) cap)∧
  ∃q,w'=((w.drewN q).setCells b (i*3) ((cs.toList.drop (j*3)).take ((n-j)*3))).setCells b ((n-1)*3) [.bool false,.int .i64 0,.int .i64 0]:=by
 obtain ⟨news,hnews⟩:∃news,news=(cs.toList.drop (j*3)).take ((n-j)*3):=⟨_,rfl⟩
 rw [←hnews]
 have hlen:news.length=(n-j)*3:=by rw [hnews];simp;omega
 obtain ⟨A,hA,hsrc⟩:∃A:Addr,(if cap=j then (some ⟨b,0,none⟩:Option Addr) else some ⟨b,j*3,none⟩)=some A∧Hid (∀t u,news[t]? =some u→w.drew.cell? (A.add t)=some u):=by
  by_cases h:cap=j
  · refine ⟨⟨b,0,none⟩,by simp [h],fun t u hu=> ?_⟩
    have h0:news.length=0:=by rw [hlen];omega
    rw [List.length_eq_zero_iff.1 h0] at hu
    simp at hu
  · refine ⟨⟨b,j*3,none⟩,by simp [h],fun t u hu=> ?_⟩
    have ht:t<(n-j)*3:=by
     have:=(List.getElem?_eq_some_iff.1 hu).1
     rwa [hlen] at this
    rw [hnews,uq3,if_pos ht,uq1] at hu
    rw [Addr.add_lit]
    show w.cell? _=_
    simp only [World.cell?,hb,Option.isSome_none,Bool.false_eq_true,↓reduceIte]
    simpa using hu
 have s1:Hid (news.length=(n-j)*3):=hlen
 have s2:Hid (∀u∈news,u.oneCell'=true):=by
  intro u hu
  rw [hnews] at hu
  exact h1 u hu
 have s3:Hid (∀t,t<news.length→(w.drew.cell? ⟨b,0+i*3+t,none⟩).isSome=true∧w.drew.frozen? ⟨b,0+i*3+t,none⟩=false):=by
  intro t ht
  rw [hlen] at ht
  have hlt:0+i*3+t<cs.size:=by omega
  refine ⟨?_,?_⟩
  · show (w.cell? _).isSome=true
    simp [World.cell?,hb];omega
  · show w.frozen? _=false
    exact celO_free hb hlt
 obtain ⟨W1,hW1⟩:∃W1,W1=w.drew.setCells b (0+i*3) news:=⟨_,rfl⟩
 have hsz:((cs.toList.take (0+i*3)++news++cs.toList.drop (0+i*3+news.length)).toArray).size=cap*3:=by
  simp [hlen];omega
 have hW1':W1.heap[b]? =some (celO (cs.toList.take (0+i*3)++news++cs.toList.drop (0+i*3+news.length)).toArray e):=by
  rw [hW1,setCells_row (P:=Tryz.prog) (w:=w.drew) hb s2.out (by rw [hlen];omega)]
  exact heap_setRow (w:=w.drew) hb (by rw [hsz];exact hcs.symm)
 generalize (cs.toList.take (0+i*3)++news++cs.toList.drop (0+i*3+news.length)).toArray=cs1 at hW1' hsz
 have hcl:∀ty,(Builtin.clear_ #[39] ty #[.slice (some ⟨b,(i+(n-j))*3,none⟩) (n-(i+(n-j))) (cap-(i+(n-j)))]).run Tryz.prog W1= .ok (.tuple #[]) (W1.setCells b ((n-1)*3) [.bool false,.int .i64 0,.int .i64 0]):=by
  intro ty
  have e1:i+(n-j)=n-1:=by omega
  have e2:n-(n-1)=1:=by omega
  rw [e1,e2]
  have hst:=run_storeCells_cells (P:=Tryz.prog) b ((n-1)*3) [.bool false,.int .i64 0,.int .i64 0] 0 W1 (fun j hj=>by
   have hj:j<3:=hj
   have hlt:(n-1)*3+0+j<cs1.size:=by omega
   simp [World.cell?,hW1'];omega) (fun j hj=>by
   have hj:j<3:=hj
   exact celO_free hW1' (by omega)) (by
   intro v hv
   simp only [List.mem_cons,List.not_mem_nil,or_false] at hv
   rcases hv with rfl|rfl|rfl<;>rfl)
  simp only [Nat.add_zero] at hst
  have hz:(Builtin.zeroCells #[Value.bool false,.int .i64 0,.int .i64 0] 1).toList=[.bool false,.int .i64 0,.int .i64 0]:=by
   refine List.ext_getElem (by simp [Builtin.zeroCells]) fun t h1 h2=> ?_
   have:t=0∨t=1∨t=2:=by simp at h2;omega
   rcases this with rfl|rfl|rfl<;>simp [Builtin.zeroCells]
  simp [Builtin.clear_,run_underlying Tryz.underlying39,Tryz.zeroValue64,Value.cells,hz,hst]
 have hW:Hid (W1=w.drew.setCells b (0+i*3) news):=hW1
 have X:Aside (W1=w.drew.setCells b (0+i*3) news):=hW1
 have hj':Aside (j=i+1):=hj
 have hij:(i==j)=false:=by simp;omega
 have hlt:i<j:=by omega
 have hjn:j≤n:=by omega
 have mixed:Tryz.prog.follows .mixedOrders=true:=mixed
 have hic:i≤cap:=by omega
 have hjc:j≤cap:=by omega
 clear hW1 hW1' hsz hnews hlen hb hcs h1 hj
 go_enter Tryz.func66,Tryz.ntmps66
 obtain ⟨i0,hi0⟩:∃i,Tryz.prog.info? 64=some i:=Option.isSome_iff_exists.1 (by kernel_rfl)
 have hz1:i0.size=3:=by
  have:(Tryz.prog.info? 64).map (fun i=>i.size)=some 3:=by kernel_rfl
  rw [hi0] at this
  simpa using this
 go_wp2_with fail
 go_region_law_o (refine step_append_room rfl (.tmp 22) (.tmp 25) 39 rfl 64 i0 3 Tryz.underlying39 hi0 hz1 b 0 i cap (by simp [Act.eval,Act.put]) A (n-j) (cap-j) news (by simp [Act.eval,Act.put]) s1.out hsrc.out s2.out (by omega) s3.out ?_;rw [←hW.out])
 go_wp2
 go_ret
 have hj:=hj'.out
 refine ⟨by rw [show n-1=i+(n-j) by omega];rfl,1,?_⟩
 rw [X.out,uq13]
 rfl
end Go.Vc
namespace Go.Vc
open Go.Proofs
def decIt (x:ItM):ItM:=⟨x.key,x.index,x.copies-1⟩
def takeAt (os:List ItM) (i:Nat):List ItM:=if (os.getD i default).copies-1=0 then os.eraseIdx i else os.set i (decIt (os.getD i default))
def takeItem (m:MkM) (t:List (List Int)) (os:List ItM) (k:Int):List ItM × Int:=
 if ordCode m t os=0 then (if isIn k 0 ((os.length:Int)-1) then (takeAt os k.toNat,0) else ([],2)) else ([],ordCode m t os)
def tkS (os:List ItM) (k:Int):Nat→List ItM
 |0=>[]
 |i+1=>if (if (i:Int)=k then decIt (os.getD i default) else os.getD i default).copies>0 then tkS os k i++[if (i:Int)=k then decIt (os.getD i default) else os.getD i default] else tkS os k i
theorem tkS_len (os:List ItM) (k:Int):∀i,(tkS os k i).length≤i
 |0=>uq12 _
 |i+1=>by
  have:=tkS_len os k i
  rw [tkS]
  generalize (if (i:Int)=k then decIt (os.getD i default) else os.getD i default)=x
  split
  · simp;omega
  · omega
theorem ord_copies {t:List (List Int)} {os:List ItM} (h:isOrd t os=true) {i:Nat} (hi:i<os.length):1≤os[i].copies∧os[i].copies≤50:=by
 simp only [isOrd,Bool.and_eq_true,List.all_eq_true] at h
 have:=h.1 _ (uq4 hi)
 simp only [itOk,isIn,Bool.and_eq_true,decide_eq_true_eq] at this
 omega
theorem getD_at {os:List ItM} {i:Nat} (hi:i<os.length):os.getD i default=os[i]:=by
 simp [uq0,hi]
theorem tkS_low {t:List (List Int)} {os:List ItM} (h:isOrd t os=true) (k:Nat):∀i,i≤k→i≤os.length→tkS os k i=os.take i
 |0,_,_=>by simp [tkS]
 |i+1,hk,hl=>by
  have hi:i<os.length:=by omega
  have hc:=ord_copies h hi
  have hne:¬((i:Int)=(k:Int)):=by omega
  rw [tkS,if_neg hne,getD_at hi,if_pos (by omega),tkS_low h k i (by omega) (by omega),uq9 hi]
theorem tkS_high {t:List (List Int)} {os:List ItM} (h:isOrd t os=true) (k:Nat) (hk:k<os.length):∀i,k<i→i≤os.length→tkS os k i=takeAt (os.take i) k
 |0,hki,_=>absurd hki (Nat.not_lt_zero _)
 |i+1,hki,hl=>by
  have hi:i<os.length:=by omega
  have hc:=ord_copies h hi
  have hg:(os.take (i+1)).getD k default=os[k]:=by
   rw [uq0,uq3,if_pos hki,uq2 hk];rfl
  by_cases e:i=k
  · subst e
    rw [tkS,if_pos rfl,tkS_low h i i (uq12 _) (by omega),takeAt,hg,getD_at hi]
    by_cases h0:os[i].copies-1=0
    · rw [if_neg (by simp only [decIt];omega),if_pos h0,uq9 hi]
      have hl:(os.take i).length=i:=by simp;omega
      rw [List.eraseIdx_append_of_length_le (by omega),hl,Nat.sub_self];simp
    · rw [if_pos (by simp only [decIt];omega),if_neg h0,uq9 hi]
      have hl:(os.take i).length=i:=by simp;omega
      rw [List.set_append_right _ _ (by omega),hl,Nat.sub_self];rfl
  · have hne:¬((i:Int)=(k:Int)):=by omega
    have hgi:(os.take i).getD k default=os[k]:=by
     rw [uq0,uq3,if_pos (by omega),uq2 hk];rfl
    rw [tkS,if_neg hne,getD_at hi,if_pos (by omega),tkS_high h k hk i (by omega) (by omega),takeAt,takeAt,hg,hgi,uq9 hi]
    have hl:(os.take i).length=i:=by simp;omega
    split
    · rw [List.eraseIdx_append_of_lt_length (by omega)]
    · rw [List.set_append_left _ _ (by omega)]
theorem tkS_all {t:List (List Int)} {os:List ItM} (h:isOrd t os=true) (k:Nat) (hk:k<os.length):tkS os k os.length=takeAt os k:=by
 rw [tkS_high h k hk _ hk (uq12 _),uq8]
theorem ordCode_zero {m:MkM} {t:List (List Int)} {os:List ItM} (h:ordCode m t os=0):isSy m t=true∧isOrd t os=true:=by
 unfold ordCode at h
 split at h
 · split at h
   · exact ⟨‹_›,‹_›⟩
   · cases h
 · cases h
theorem takeItem_no {m:MkM} {t:List (List Int)} {os:List ItM} {k:Int} (h:¬ordCode m t os=0):takeItem m t os k=([],ordCode m t os):=by rw [takeItem,if_neg h]
set_option maxHeartbeats 2000000 in
theorem c_sTakeItem (m:MkM) (t:List (List Int)) (os:List ItM) (h:t.length≤1048576) (h2:∀x∈t,x.length≤1048576) (h3:os.length≤1048576) (k:Int):Fn Tryz.prog 31 [eSy m t,eIts os,eI k] true (· = .tup [eIts (takeItem m t os k).1,eI (takeItem m t os k).2]):=by
 refine Fn.of_vcN 54 [.tmp 6,.tmp 7] Tryz.func31 rfl rfl rfl rfl rfl (of_decide_eq_true rfl) ?_
 have hcode:=c_l29System m t os h h2 h3
 rcases hb:(ordCode m t os==0) with _|_
 · have hF:=takeItem_no (k:=k) (m:=m) (t:=t) (os:=os) (by simpa using hb)
   have hb2:(ordCode m t os != 0)=true:=by simp [bne,hb]
   rw [hF]
   clear hF
   generalize ordCode m t os=c at*
   simp -dsimp -implicitDefEqProofs only [go_sem]
   (refine sCallT_one (hcode) ?_;try simp -dsimp -implicitDefEqProofs only [go_sem, *])
   all_goals try simp -dsimp -implicitDefEqProofs only [go_sem,hb,hb2]
   all_goals first|omega|(exact rfl)|(simp;done)|skip
 · have hb0:ordCode m t os=0:=by simpa using hb
   obtain ⟨k1,k2⟩:=ordCode_zero hb0
   have hF:takeItem m t os k=if isIn k 0 ((os.length:Int)-1) then (takeAt os k.toNat,0) else ([],2):=by rw [takeItem,if_pos hb0]
   rw [hF]
   clear hF
   rw [hb0] at hcode
   rcases hk:isIn k 0 ((os.length:Int)-1) with _|_
   · have hin:=c_l01In k 0 ((os.length:Int)-1)
     rw [hk] at hin
     simp -dsimp -implicitDefEqProofs only [go_sem]
     (refine sCallT_one (hcode) ?_;try simp -dsimp -implicitDefEqProofs only [go_sem, *])
     repeat' (with_reducible refine ai ?_ ?_)
     all_goals try (first|omega|(refine ⟨?_,?_⟩<;>omega))
     refine sCallT_one hin ?_
     have n2:((2:Int) != 0)=true:=rfl
     simp -dsimp -implicitDefEqProofs only [go_sem,n2]
     all_goals first|omega|(exact rfl)|(simp;done)|skip
   · have hin:=c_l01In k 0 ((os.length:Int)-1)
     rw [hk] at hin
     have hk2:0≤k∧k≤(os.length:Int)-1:=by simpa [isIn] using hk
     obtain ⟨n,rfl⟩:∃n:Nat,k=n:=⟨k.toNat,by omega⟩
     have hn:n<os.length:=by omega
     have hall:=tkS_all k2 n hn
     have hle:=tkS_len os n
     simp only [Int.toNat_natCast,if_true]
     rw [←hall]
     simp -dsimp -implicitDefEqProofs only [go_sem]
     (refine sCallT_one (hcode) ?_;try simp -dsimp -implicitDefEqProofs only [go_sem, *])
     repeat' (with_reducible refine ai ?_ ?_)
     all_goals try (first|omega|(refine ⟨?_,?_⟩<;>omega))
     refine sCallT_one hin ?_
     simp -dsimp -implicitDefEqProofs only [go_sem]
     refine Later.up [1,2] [11,31,51,52] [28] os.length (fun _=>True) (fun i=>[(9,.ref 28 0 0 (tkS os n i).length),(10,eI i)]) (fun i=>[(28,.row 0 ⟨3,true⟩ true ((tkS os n i).map eIt))]) trivial ?_ rfl (fun i hi _=> ?_) (fun _=> ?_)
     · simp -dsimp -implicitDefEqProofs only [go_sem]
       simp [tkS]
     · have gi:=get_some hi
       have hl:=hle i
       have hx:=ord_copies k2 hi
       have hs:tkS os n (i+1)=if (if (i:Int)=n then decIt os[i] else os[i]).copies>0 then tkS os n i++[if (i:Int)=n then decIt os[i] else os[i]] else tkS os n i:=by rw [tkS,getD_at hi]
       rw [hs]
       clear hs hall
       generalize os[i]=x at*
       generalize tkS os n i=q at*
       rcases hin:((i:Int)==(n:Int)) with _|_
       · have e1:¬(i:Int)=(n:Int):=by simpa using hin
         have hg:decide (x.copies>0)=true:=decide_eq_true (by omega)
         simp only [if_neg e1]
         rw [if_pos (by omega)]
         simp -dsimp -implicitDefEqProofs only [pz,Nat.reduceBEq,Nat.reduceDiv,Nat.reduceAdd,↓reduceIte,Nat.reduceEqDiff]
         simp -dsimp -implicitDefEqProofs only [go_sem,lt_len hi,gi,hin,hg]
         repeat' (with_reducible refine ai ?_ ?_)
         all_goals first|omega|(refine ⟨?_,?_⟩<;>omega)|(exact rfl)|(simp;done)|skip
       · have e1:(i:Int)=(n:Int):=by simpa using hin
         simp only [if_pos e1]
         rcases hg:decide (x.copies-1>0) with _|_
         · have hg2:=of_decide_eq_false hg
           rw [if_neg (by simp only [decIt];omega)]
           simp -dsimp -implicitDefEqProofs only [pz,Nat.reduceBEq,Nat.reduceDiv,Nat.reduceAdd,↓reduceIte,Nat.reduceEqDiff]
           simp -dsimp -implicitDefEqProofs only [go_sem,lt_len hi,gi,hin,hg]
           repeat' (with_reducible refine ai ?_ ?_)
           all_goals try simp -dsimp -implicitDefEqProofs only [go_sem,hg]
           repeat' (with_reducible refine ai ?_ ?_)
           all_goals first|omega|(refine ⟨?_,?_⟩<;>omega)|(exact rfl)|(simp;done)|skip
         · have hg2:=of_decide_eq_true hg
           rw [if_pos (by simp only [decIt];omega)]
           simp -dsimp -implicitDefEqProofs only [pz,Nat.reduceBEq,Nat.reduceDiv,Nat.reduceAdd,↓reduceIte,Nat.reduceEqDiff]
           simp -dsimp -implicitDefEqProofs only [go_sem,lt_len hi,gi,hin,hg]
           repeat' (with_reducible refine ai ?_ ?_)
           all_goals try (first|omega|(refine ⟨?_,?_⟩<;>omega))
           all_goals try simp -dsimp -implicitDefEqProofs only [go_sem,hg]
           repeat' (with_reducible refine ai ?_ ?_)
           all_goals first|omega|(refine ⟨?_,?_⟩<;>omega)|(exact rfl)|(simp [decIt];done)|skip
     · have hl:=hle os.length
       simp -dsimp -implicitDefEqProofs only [pz,Nat.reduceBEq,Nat.reduceDiv,Nat.reduceAdd,↓reduceIte,Nat.reduceEqDiff]
       simp -dsimp -implicitDefEqProofs only [go_sem,nlt_len]
       repeat' (with_reducible refine ai ?_ ?_)
       all_goals first|omega|(exact rfl)|(simp;done)|skip
theorem itZero:∀u,u∈([.bool false,.int .i64 0,.int .i64 0]:List Value)→u.oneCell'=true:=by
 intro v hv
 simp only [List.mem_cons,List.not_mem_nil,or_false] at hv
 rcases hv with rfl|rfl|rfl<;>rfl
theorem c_CloneIt (os:List ItM) (h:os.length≤1048576):Fn Tryz.prog 58 [eIts os] true (· =eIts os):=by
 refine Fn.of_vcN 8 [.tmp 2] Tryz.func58 rfl rfl rfl rfl rfl (of_decide_eq_true rfl) ?_
 simp -dsimp -implicitDefEqProofs only [go_sem]
 intro c hc
 repeat' first
  |(refine Br.intro (fun _=> ?_) (fun _=> ?_)<;>try simp -dsimp -implicitDefEqProofs only [go_sem, *])
  |(with_reducible refine ai ?_ ?_)
 all_goals first|(simp_all;done)|omega|(refine ⟨?_,?_⟩<;>omega)|(simp;done)|(simp;omega)|skip
set_option maxHeartbeats 2000000 in
theorem c_iTakeItem (m:MkM) (t:List (List Int)) (os:List ItM) (h:t.length≤1048576) (h2:∀x∈t,x.length≤1048576) (h3:os.length≤1048576) (k:Int):Fn Tryz.prog 30 [eSy m t,eIts os,eI k] true (· = .tup [eIts (takeItem m t os k).1,eI (takeItem m t os k).2]):=by
 refine Fn.of_vcN 46 [.tmp 6,.tmp 7] Tryz.func30 rfl rfl rfl rfl rfl (of_decide_eq_true rfl) ?_
 have hcode:=c_orderCode m t os h h2 h3
 rcases hb:(ordCode m t os==0) with _|_
 · have hF:=takeItem_no (k:=k) (m:=m) (t:=t) (os:=os) (by simpa using hb)
   have hb2:(ordCode m t os != 0)=true:=by simp [bne,hb]
   rw [hF]
   clear hF
   generalize ordCode m t os=c at*
   simp -dsimp -implicitDefEqProofs only [go_sem]
   (refine sCallT_one (hcode) ?_;try simp -dsimp -implicitDefEqProofs only [go_sem, *])
   all_goals try simp -dsimp -implicitDefEqProofs only [go_sem,hb,hb2]
   all_goals first|omega|(exact rfl)|(simp;done)|skip
 · have hb0:ordCode m t os=0:=by simpa using hb
   obtain ⟨k1,k2⟩:=ordCode_zero hb0
   have hF:takeItem m t os k=if isIn k 0 ((os.length:Int)-1) then (takeAt os k.toNat,0) else ([],2):=by rw [takeItem,if_pos hb0]
   rw [hF]
   clear hF
   rw [hb0] at hcode
   rcases hk:isIn k 0 ((os.length:Int)-1) with _|_
   · have hin:=c_within k 0 ((os.length:Int)-1)
     rw [hk] at hin
     simp -dsimp -implicitDefEqProofs only [go_sem]
     (refine sCallT_one (hcode) ?_;try simp -dsimp -implicitDefEqProofs only [go_sem, *])
     repeat' (with_reducible refine ai ?_ ?_)
     all_goals try (first|omega|(refine ⟨?_,?_⟩<;>omega))
     refine sCallT_one hin ?_
     simp -dsimp -implicitDefEqProofs only [go_sem]
     all_goals first|omega|(exact rfl)|(simp;done)|skip
   · have hin:=c_within k 0 ((os.length:Int)-1)
     rw [hk] at hin
     have hk2:0≤k∧k≤(os.length:Int)-1:=by simpa [isIn] using hk
     obtain ⟨n,rfl⟩:∃n:Nat,k=n:=⟨k.toNat,by omega⟩
     have hn:n<os.length:=by omega
     have gi:=get_some hn
     have gs:∀y,((os.map eIt).set n y)[n]? =some y:=fun y=>by simp [hn]
     have hx:=ord_copies k2 hn
     simp only [Int.toNat_natCast,if_true]
     rw [takeAt,getD_at hn]
     rcases hg:(os[n].copies-1==0) with _|_
     · rw [if_neg (by simpa using hg)]
       generalize os[n]=x at*
       simp -dsimp -implicitDefEqProofs only [go_sem]
       (refine sCallT_one (hcode) ?_;try simp -dsimp -implicitDefEqProofs only [go_sem, *])
       repeat' (with_reducible refine ai ?_ ?_)
       all_goals try (first|omega|(refine ⟨?_,?_⟩<;>omega))
       refine sCallT_one hin ?_
       simp -dsimp -implicitDefEqProofs only [go_sem]
       refine sCallT_one (c_CloneIt os h3) ?_
       simp -dsimp -implicitDefEqProofs only [go_sem,gi,hg]
       repeat' (with_reducible refine ai ?_ ?_)
       all_goals try (first|omega|(refine ⟨?_,?_⟩<;>omega)|(exact rfl)|(simp;done))
       simp -dsimp -implicitDefEqProofs only [go_sem,gs,hg]
       repeat' (with_reducible refine ai ?_ ?_)
       all_goals first|omega|(refine ⟨?_,?_⟩<;>omega)|(exact rfl)|(simp [decIt,List.map_set];done)|skip
     · rw [if_pos (by simpa using hg)]
       generalize os[n]=x at*
       simp -dsimp -implicitDefEqProofs only [go_sem]
       (refine sCallT_one (hcode) ?_;try simp -dsimp -implicitDefEqProofs only [go_sem, *])
       repeat' (with_reducible refine ai ?_ ?_)
       all_goals try (first|omega|(refine ⟨?_,?_⟩<;>omega))
       refine sCallT_one hin ?_
       simp -dsimp -implicitDefEqProofs only [go_sem]
       refine sCallT_one (c_CloneIt os h3) ?_
       simp -dsimp -implicitDefEqProofs only [go_sem,gi,hg]
       repeat' (with_reducible refine ai ?_ ?_)
       all_goals try (first|omega|(refine ⟨?_,?_⟩<;>omega)|(exact rfl)|(simp;done))
       simp -dsimp -implicitDefEqProofs only [go_sem,gs,hg]
       repeat' (with_reducible refine ai ?_ ?_)
       all_goals try (first|omega|(refine ⟨?_,?_⟩<;>omega)|(exact rfl)|(simp;done))
       refine sCallT_del (sh:=⟨3,true⟩) (zs:=[.bool false,.int .i64 0,.int .i64 0]) ⟨Tryz.f66,_,Tryz.func66,by decide,rfl⟩ rfl (by simp) (by simpa using hn) (by decide) rfl itZero (fun w b cap cs e hb hcs hcap hl h1=> ?_) ?_
       · exact delItems_run w b cap n (n+1) _ cs e hb hcs hcap rfl (by simpa using hn) hl h1
       · have he:((os.map eIt).set n (.agg [eB x.key,eI x.index,eI (x.copies-1)])).eraseIdx n=(os.eraseIdx n).map eIt:=by
          apply List.ext_getElem?
          intro p
          rw [List.getElem?_eraseIdx,List.getElem?_map,List.getElem?_eraseIdx]
          split
          · rw [List.getElem?_set_ne (by omega),List.getElem?_map]
          · rw [List.getElem?_set_ne (by omega),List.getElem?_map]
         have hel:(os.eraseIdx n).length=os.length-1:=by rw [List.length_eraseIdx,if_pos hn]
         rw [he,List.length_set,List.length_map]
         simp -dsimp -implicitDefEqProofs only [go_sem]
         repeat' (with_reducible refine ai ?_ ?_)
         all_goals first|omega|(refine ⟨?_,?_⟩<;>omega)|(exact rfl)|(simp [hel];done)|(rw [List.take_of_length_le (by simp [hel])];done)|skip
end Go.Vc
namespace Go.Vc
open Go.Proofs
def cmpIt (a b:ItM):Int:=if (a.key != b.key)=true then (if a.key=true then -1 else 1) else a.index-b.index
def rkIt (r:Int) (x:ItM):Int:=if x.key=true then x.index else r+x.index
def okIx (r:Int) (x:ItM):Prop:=(0≤x.index∧x.index≤1000)∧(x.key=true→x.index<r)
theorem cmp_rk {r:Int} {a b:ItM} (ha:okIx r a) (hb:okIx r b):(cmpIt a b<0↔rkIt r a<rkIt r b)∧(cmpIt a b=0↔rkIt r a=rkIt r b):=by
 obtain ⟨⟨a1,a2⟩,a3⟩:=ha
 obtain ⟨⟨b1,b2⟩,b3⟩:=hb
 unfold cmpIt rkIt
 rcases hk:a.key with _|_<;>rcases hl:b.key with _|_<;>simp
 · omega
 · have:=b3 hl;omega
 · have:=a3 hk;omega
 · omega
theorem c_compareItems {r:Int} {a b:ItM} (ha:okIx r a) (hb:okIx r b):Fn Tryz.prog 60 [eIt a,eIt b] true (· =eI (cmpIt a b)):=by
 obtain ⟨⟨a1,a2⟩,_⟩:=ha
 obtain ⟨⟨b1,b2⟩,_⟩:=hb
 refine Fn.of_vcN 17 [.tmp 4] Tryz.func60 rfl rfl rfl rfl rfl (of_decide_eq_true rfl) ?_
 unfold cmpIt
 rcases hk:a.key with _|_<;>rcases hl:b.key with _|_
 all_goals
  simp -dsimp -implicitDefEqProofs only [go_sem,hk,hl]
  repeat' first
   |(refine Br.intro (fun _=> ?_) (fun _=> ?_)<;>try simp -dsimp -implicitDefEqProofs only [go_sem, *])
   |(with_reducible refine ai ?_ ?_)
  all_goals first|(rename_i hx;exact absurd hx (by decide))|(first|omega|(refine ⟨?_,?_⟩<;>omega)|(exact rfl)|(simp;done)|skip)|(simp_all;done)
structure Same (os D:List ItM):Prop where
 len:D.length=os.length
 mem:∀x,x∈D→x∈os
 sum:∀f:ItM→Int,(D.map f).sum=(os.map f).sum
theorem Same.refl (os:List ItM):Same os os:=⟨rfl,fun _ h=>h,fun _=>rfl⟩
theorem sum_set (f:ItM→Int):∀(D:List ItM) (j:Nat) (y:ItM) (h:j<D.length),((D.set j y).map f).sum=(D.map f).sum-f D[j]+f y
 | [],j,_,h=>absurd h (Nat.not_lt_zero _)
 |x::D,0,y,h=>by simp;omega
 |x::D,j+1,y,h=>by
  have:=sum_set f D j y (by simpa using h)
  simp only [List.set_cons_succ,List.map_cons,List.sum_cons,List.getElem_cons_succ,this]
  omega
def swp (D:List ItM) (j:Nat):List ItM:=(D.set j (D.getD (j-1) default)).set (j-1) (D.getD j default)
theorem swp_len (D:List ItM) (j:Nat):(swp D j).length=D.length:=by simp [swp]
theorem getD_get {D:List ItM} {j:Nat} (h:j<D.length):D.getD j default=D[j]:=by simp [uq0,h]
theorem swp_get (D:List ItM) (j p:Nat) (h0:0<j) (hj:j<D.length):(swp D j).getD p default=if p=j-1 then D.getD j default else if p=j then D.getD (j-1) default else D.getD p default:=by
 simp only [swp,uq0,List.getElem?_set,List.length_set]
 by_cases h1:p=j-1
 · subst h1
   rw [if_pos rfl,if_pos rfl,if_pos (by omega)];rfl
 · rw [if_neg (by omega),if_neg h1]
   by_cases h2:p=j
   · subst h2
     rw [if_pos rfl,if_pos rfl,if_pos hj];rfl
   · rw [if_neg (by omega),if_neg h2]
theorem Same.swp {os D:List ItM} (h:Same os D) {j:Nat} (h0:0<j) (hj:j<D.length):Same os (swp D j):=by
 have e0:=getD_get hj
 have e1:=getD_get (D:=D) (j:=j-1) (by omega)
 refine ⟨(swp_len D j).trans h.len,fun x hx=> ?_,fun f=> ?_⟩
 · unfold Go.Vc.swp at hx
   rcases List.mem_or_eq_of_mem_set hx with hx|hx
   · rcases List.mem_or_eq_of_mem_set hx with hx|hx
     · exact h.mem x hx
     · rw [hx,e1];exact h.mem _ (uq4 _)
   · rw [hx,e0];exact h.mem _ (uq4 _)
 · rw [←h.sum f]
   unfold Go.Vc.swp
   rw [sum_set f _ (j-1) _ (by simp;omega),sum_set f D j _ hj]
   have:(D.set j (D.getD (j-1) default))[j-1]'(by simp;omega)=D[j-1]:=by rw [List.getElem_set_ne (by omega)]
   rw [this,e0,e1];omega
def srt (r:Int) (D:List ItM) (n:Nat):Prop:=∀p q,p<q→q<n→rkIt r (D.getD p default)≤rkIt r (D.getD q default)
def hol (r:Int) (D:List ItM) (i j:Nat):Prop:=(∀p q,p<q→q<i+1→p≠j→q≠j→rkIt r (D.getD p default)≤rkIt r (D.getD q default))∧∀q,j<q→q<i+1→rkIt r (D.getD j default)≤rkIt r (D.getD q default)
theorem hol_start {r:Int} {D:List ItM} {i:Nat} (h:srt r D i):hol r D i i:=
 ⟨fun p q h1 h2 h3 h4=>h p q h1 (by omega),fun q h1 h2=>absurd h1 (by omega)⟩
theorem hol_end0 {r:Int} {D:List ItM} {i:Nat} (h:hol r D i 0):srt r D (i+1):=by
 intro p q h1 h2
 by_cases e:p=0
 · subst e;exact h.2 q h1 h2
 · exact h.1 p q h1 h2 e (by omega)
theorem hol_end {r:Int} {D:List ItM} {i j:Nat} (h:hol r D i j) (h0:0<j) (hji:j≤i) (hc:rkIt r (D.getD (j-1) default)≤rkIt r (D.getD j default)):srt r D (i+1):=by
 intro p q h1 h2
 by_cases e:p=j
 · subst e;exact h.2 q h1 h2
 · by_cases e2:q=j
   · subst e2
     by_cases e3:p=q-1
     · subst e3;exact hc
     · exact Int.le_trans (h.1 p (q-1) (by omega) (by omega) e (by omega)) hc
   · exact h.1 p q h1 h2 e e2
theorem hol_step {r:Int} {D:List ItM} {i j:Nat} (h:hol r D i j) (h0:0<j) (hji:j≤i) (hi:i<D.length) (hc:rkIt r (D.getD j default)<rkIt r (D.getD (j-1) default)):hol r (swp D j) i (j-1):=by
 have g:=fun p=>swp_get D j p h0 (by omega)
 refine ⟨fun p q h1 h2 h3 h4=> ?_,fun q h1 h2=> ?_⟩
 · rw [g,g,if_neg h3,if_neg h4]
   by_cases e:p=j
   · rw [if_pos e,if_neg (by omega)]
     exact h.1 (j-1) q (by omega) h2 (by omega) (by omega)
   · rw [if_neg e]
     by_cases e2:q=j
     · rw [if_pos e2]
       exact h.1 p (j-1) (by omega) (by omega) e (by omega)
     · rw [if_neg e2]
       exact h.1 p q h1 h2 e e2
 · rw [g,g,if_pos rfl,if_neg (by omega)]
   by_cases e2:q=j
   · rw [if_pos e2];omega
   · rw [if_neg e2]
     exact h.2 q (by omega) h2
set_option maxHeartbeats 4000000 in
theorem vc_ins (m:MkM) (t:List (List Int)) (r:Int) (os:List ItM) (h20:os.length≤20) (hok:∀x,x∈os→okIx r x) (Q:Post)
 (hQ:∀D ts,Same os D→srt r D os.length→Q .normal ts [(1500020000,.row 0 ⟨3,true⟩ true (D.map eIt)),(1500000020,.row 0 ⟨3,true⟩ true []),(1500000002,.box 0 [eI m.chambers,eI m.depths,eI m.step,eI m.same,eI m.least,eIss t])]):
 ∀c,Tryz.f111.body=some c→vc Tryz.prog 53 c (argsE 0 [.ref 1500020000 0 0 os.length,eI 0,eI os.length,.clo 60 []])
  [(1500020000,.row 0 ⟨3,true⟩ true (os.map eIt)),(1500000020,.row 0 ⟨3,true⟩ true []),(1500000002,.box 0 [eI m.chambers,eI m.depths,eI m.step,eI m.same,eI m.least,eIss t])] Q:=by
 intro c hc
 obtain rfl:=(Option.some.inj hc).symm
 simp -dsimp -implicitDefEqProofs only [go_sem]
 repeat' (with_reducible refine ai ?_ ?_)
 all_goals try (first|omega|(refine ⟨?_,?_⟩<;>omega))
 refine Later.lp [0,1,2,3] [32] [1500020000] (fun x:Nat × List ItM=>1≤x.1∧x.1≤20∧Same os x.2∧srt r x.2 (min x.1 os.length)) (fun x=>[(8,eI x.1)]) (fun x=>[(1500020000,.row 0 ⟨3,true⟩ true (x.2.map eIt))]) (fun x=>20-x.1) (1,os) ⟨uq12 _,by omega,Same.refl os,?_⟩ ?_ rfl (fun x hI=> ?_)
 · intro p q h1 h2;exact absurd h1 (by omega)
 · simp -dsimp -implicitDefEqProofs only [go_sem]
   all_goals exact rfl
 · obtain ⟨i,D⟩:=x
   obtain ⟨i1,i2,hS,hs⟩:=hI
   dsimp only at i1 i2 hS hs ⊢
   have hDl:=hS.len
   rcases hi:decide ((i:Int)<os.length) with _|_
   · have hi':=of_decide_eq_false hi
     rw [Nat.min_eq_right (by omega)] at hs
     simp -dsimp -implicitDefEqProofs only [pz,Nat.reduceBEq,Nat.reduceDiv,Nat.reduceAdd,↓reduceIte,Nat.reduceEqDiff]
     simp -dsimp -implicitDefEqProofs only [go_sem,hi]
     exact hQ D _ hS hs
   · have hi':=of_decide_eq_true hi
     rw [Nat.min_eq_left (by omega)] at hs
     simp -dsimp -implicitDefEqProofs only [pz,Nat.reduceBEq,Nat.reduceDiv,Nat.reduceAdd,↓reduceIte,Nat.reduceEqDiff]
     simp -dsimp -implicitDefEqProofs only [go_sem,hi]
     refine Later.lp [0,1,2,3,8] [32] [1500020000] (fun x:Nat × List ItM=>x.1≤i∧Same os x.2∧hol r x.2 i x.1) (fun x=>[(9,eI x.1)]) (fun x=>[(1500020000,.row 0 ⟨3,true⟩ true (x.2.map eIt))]) (fun x=>x.1) (i,D) ⟨uq12 _,hS,hol_start hs⟩ ?_ rfl (fun x hJ=> ?_)
     · simp -dsimp -implicitDefEqProofs only [go_sem]
     · obtain ⟨j,E⟩:=x
       obtain ⟨j1,jS,jh⟩:=hJ
       dsimp only at j1 jS jh ⊢
       clear hS hs hDl
       have hEl:=jS.len
       rcases Nat.eq_zero_or_pos j with rfl|h0
       · have d0:decide ((0:Int)>0)=false:=rfl
         have hnew:=hol_end0 jh
         simp -dsimp -implicitDefEqProofs only [pz,Nat.reduceBEq,Nat.reduceDiv,Nat.reduceAdd,↓reduceIte,Nat.reduceEqDiff]
         simp -dsimp -implicitDefEqProofs only [go_sem,d0]
         refine Later.draw mixed rfl ?_
         simp -dsimp -implicitDefEqProofs only [go_sem,d0]
         ((repeat' (with_reducible refine ai ?_ ?_));all_goals try (first|omega|(refine ⟨?_,?_⟩<;>omega)|(exact rfl)))
         all_goals try (refine ⟨(i+1,E),⟨by omega,by omega,jS,by rw [Nat.min_eq_left (by omega)];exact hnew⟩,by dsimp only;omega,?_⟩;simp -dsimp -implicitDefEqProofs only [go_sem])
         all_goals (first|omega|(refine ⟨?_,?_⟩<;>omega)|(exact rfl)|(simp;done)|skip)
       · have d0:decide ((j:Int)>0)=true:=decide_eq_true (by omega)
         have hj:j<E.length:=by omega
         have hj2:j-1<E.length:=by omega
         have gj:=get_some hj
         have gj2:=get_some hj2
         have hp:=pred_toNat h0
         have m1:=hok _ (jS.mem _ (uq4 hj))
         have m2:=hok _ (jS.mem _ (uq4 hj2))
         have ccc:=c_compareItems m1 m2
         have hrk:=(cmp_rk m1 m2).1
         have e0:=getD_get hj
         have e1:=getD_get hj2
         have hend:=hol_end jh h0 j1
         have hstep:=hol_step jh h0 j1 (by omega)
         have hsw:swp E j=(E.set j E[j-1]).set (j-1) E[j]:=by rw [swp,e0,e1]
         rw [e0,e1] at hend hstep
         rw [hsw] at hstep
         have hsame:=jS.swp h0 hj
         rw [hsw] at hsame
         have hsl:((E.set j E[j-1]).set (j-1) E[j]).length=os.length:=hsame.len
         have hms:((E.set j E[j-1]).set (j-1) E[j]).map eIt=((E.map eIt).set j (eIt E[j-1])).set (j-1) (eIt E[j]):=by rw [List.map_set,List.map_set]
         have gj3:∀y,((E.map eIt).set j y)[j-1]? =some (eIt E[j-1]):=fun y=>by rw [List.getElem?_set_ne (by omega),List.getElem?_map,gj2];rfl
         clear e0 e1 hsw
         rcases hcm:decide (cmpIt E[j] E[j-1]<0) with _|_
         · have hnew:=hend (by have:=of_decide_eq_false hcm;omega)
           clear hstep hsame hms hsl gj3
           generalize E[j]=a at*
           generalize E[j-1]=b at*
           generalize cmpIt a b=z at*
           simp -dsimp -implicitDefEqProofs only [pz,Nat.reduceBEq,Nat.reduceDiv,Nat.reduceAdd,↓reduceIte,Nat.reduceEqDiff]
           simp -dsimp -implicitDefEqProofs only [go_sem,d0]
           refine Later.draw mixed rfl ?_
           simp -dsimp -implicitDefEqProofs only [go_sem,d0,gj,gj2,hp]
           ((repeat' (with_reducible refine ai ?_ ?_));all_goals try (first|omega|(refine ⟨?_,?_⟩<;>omega)|(exact rfl)))
           all_goals try simp -dsimp -implicitDefEqProofs only [go_sem,gj,gj2,hp]
           ((repeat' (with_reducible refine ai ?_ ?_));all_goals try (first|omega|(refine ⟨?_,?_⟩<;>omega)|(exact rfl)))
           refine sCallX_one ccc ?_
           simp -dsimp -implicitDefEqProofs only [go_sem,hcm]
           ((repeat' (with_reducible refine ai ?_ ?_));all_goals try (first|omega|(refine ⟨?_,?_⟩<;>omega)|(exact rfl)))
           all_goals try (refine ⟨(i+1,E),⟨by omega,by omega,jS,by rw [Nat.min_eq_left (by omega)];exact hnew⟩,by dsimp only;omega,?_⟩;simp -dsimp -implicitDefEqProofs only [go_sem])
           all_goals (first|omega|(refine ⟨?_,?_⟩<;>omega)|(exact rfl)|(simp;done)|skip)
         · have hnew:=hstep (hrk.1 (of_decide_eq_true hcm))
           clear hend
           generalize (E.set j E[j-1]).set (j-1) E[j]=F at*
           generalize E[j]=a at*
           generalize E[j-1]=b at*
           generalize cmpIt a b=z at*
           simp -dsimp -implicitDefEqProofs only [pz,Nat.reduceBEq,Nat.reduceDiv,Nat.reduceAdd,↓reduceIte,Nat.reduceEqDiff]
           simp -dsimp -implicitDefEqProofs only [go_sem,d0]
           refine Later.draw mixed rfl ?_
           simp -dsimp -implicitDefEqProofs only [go_sem,d0,gj,gj2,hp]
           ((repeat' (with_reducible refine ai ?_ ?_));all_goals try (first|omega|(refine ⟨?_,?_⟩<;>omega)|(exact rfl)))
           all_goals try simp -dsimp -implicitDefEqProofs only [go_sem,gj,gj2,hp]
           ((repeat' (with_reducible refine ai ?_ ?_));all_goals try (first|omega|(refine ⟨?_,?_⟩<;>omega)|(exact rfl)))
           refine sCallX_one ccc ?_
           simp -dsimp -implicitDefEqProofs only [go_sem,hcm]
           ((repeat' (with_reducible refine ai ?_ ?_));all_goals try (first|omega|(refine ⟨?_,?_⟩<;>omega)|(exact rfl)))
           refine Later.draw mixed rfl ?_
           simp -dsimp -implicitDefEqProofs only [go_sem,gj,gj2,hp,gj3]
           ((repeat' (with_reducible refine ai ?_ ?_));all_goals try (first|omega|(refine ⟨?_,?_⟩<;>omega)|(exact rfl)))
           all_goals try simp -dsimp -implicitDefEqProofs only [go_sem,gj,gj2,hp,gj3]
           ((repeat' (with_reducible refine ai ?_ ?_));all_goals try (first|omega|(refine ⟨?_,?_⟩<;>omega)|(exact rfl)))
           refine ⟨(j-1,F),⟨by dsimp only;omega,hsame,hnew⟩,by dsimp only;omega,?_⟩
           dsimp only
           rw [hms]
           have e3:((j-1:Nat):Int)=(j:Int)-1:=by omega
           rw [e3]
           simp -dsimp -implicitDefEqProofs only [go_sem]
           all_goals first|exact ⟨rfl,rfl⟩|(first|omega|(refine ⟨?_,?_⟩<;>omega)|(exact rfl)|(simp;done)|skip)
set_option maxHeartbeats 4000000 in
theorem vc_stable (m:MkM) (t:List (List Int)) (r:Int) (os:List ItM) (h20:os.length≤20) (hok:∀x,x∈os→okIx r x) (Q:Post)
 (hQ:∀D ts,Same os D→srt r D os.length→Q .normal ts [(1500020000,.row 0 ⟨3,true⟩ true (D.map eIt)),(1500000020,.row 0 ⟨3,true⟩ true []),(1500000002,.box 0 [eI m.chambers,eI m.depths,eI m.step,eI m.same,eI m.least,eIss t])]):
 ∀c,Tryz.f90.body=some c→vc Tryz.prog 63 c (argsE 0 [.ref 1500020000 0 0 os.length,eI os.length,.clo 60 []])
  [(1500000020,.row 0 ⟨3,true⟩ true []),(1500020000,.row 0 ⟨3,true⟩ true (os.map eIt)),(1500000002,.box 0 [eI m.chambers,eI m.depths,eI m.step,eI m.same,eI m.least,eIss t])] Q:=by
 intro c hc
 obtain rfl:=(Option.some.inj hc).symm
 have hins:=vc_ins m t r os h20 hok
 rcases hd:decide ((20:Int)≤os.length) with _|_
 · have dl:decide ((20:Int)<os.length)=false:=by have:=of_decide_eq_false hd;exact decide_eq_false (by omega)
   simp -dsimp -implicitDefEqProofs only [go_sem]
   refine Later.up [0,1,2,6] [18] [1500020000] 0 (fun _=>True) (fun i=>[(7,eI 0),(8,eI 20)]) (fun i=>[(1500020000,.row 0 ⟨3,true⟩ true (os.map eIt))]) trivial ?_ rfl (fun i hi _=>absurd hi (Nat.not_lt_zero _)) (fun _=> ?_)
   · simp -dsimp -implicitDefEqProofs only [go_sem]
   simp -dsimp -implicitDefEqProofs only [pz,Nat.reduceBEq,Nat.reduceDiv,Nat.reduceAdd,↓reduceIte,Nat.reduceEqDiff]
   simp -dsimp -implicitDefEqProofs only [go_sem,hd]
   refine sCallT_inl 620000 53 [] Tryz.func111 rfl rfl rfl rfl rfl (by exact of_decide_eq_true rfl) ⟨?_,?_⟩
   · simp -dsimp -implicitDefEqProofs only [go_sem]
   simp -dsimp -implicitDefEqProofs only [lowP_nil,lowP_cons,inF_nil,inF_cons,rnsM_nil,rnsM_cons,rnsL_nil,rnsL_cons,rnsA_nil,rnsA_cons,rl_eq,rnA_ref,rnA_ptr,rnA_agg,rnA_arr,rnA_val,rnA_e0,rnA_clo,rnL_nil,rnL_cons,rnB_box,rnB_row,rnB_gone,rnM_nil,rnM_cons,Nat.reduceLT,decide_true,decide_false,Bool.true_and,Bool.not_false,Bool.not_true,Bool.and_false,Nat.reduceBEq,Bool.or_false,beq_self_eq_true,Bool.true_or,↓reduceIte,Nat.reduceEqDiff,Nat.reduceAdd,Bool.and_true]
   refine hins _ ?_ _ rfl
   intro D ts hS hs
   simp -dsimp -implicitDefEqProofs only [go_sem]
   refine Later.up [0,1,2] [43,60] [] 0 (fun _=>True) (fun i=>[(6,eI 20)]) (fun i=>[]) trivial ?_ rfl (fun i hi _=>absurd hi (Nat.not_lt_zero _)) (fun _=> ?_)
   · simp -dsimp -implicitDefEqProofs only [go_sem]
   simp -dsimp -implicitDefEqProofs only [pz,Nat.reduceBEq,Nat.reduceDiv,Nat.reduceAdd,↓reduceIte,Nat.reduceEqDiff]
   simp -dsimp -implicitDefEqProofs only [go_sem,dl]
   exact hQ D _ hS hs
 · have he:os.length=20:=by have:=of_decide_eq_true hd;omega
   have hl:(os.length:Int)=20:=by omega
   have h20:Int.tdiv 20 1=20:=rfl
   simp -dsimp -implicitDefEqProofs only [go_sem]
   refine Later.lp [0,1,2,6] [18] [1500020000] (fun x:Nat × List ItM=>(x.1=0∧x.2=os)∨(x.1=1∧Same os x.2∧srt r x.2 os.length)) (fun x=>[(7,eI (20*x.1)),(8,eI (20+20*x.1))]) (fun x=>[(1500020000,.row 0 ⟨3,true⟩ true (x.2.map eIt))]) (fun x=>1-x.1) (0,os) (.inl ⟨rfl,rfl⟩) ?_ rfl (fun x hI=> ?_)
   · simp -dsimp -implicitDefEqProofs only [go_sem]
     all_goals first|exact rfl|exact ⟨rfl,rfl⟩
   · obtain ⟨k,D⟩:=x
     rcases hI with ⟨hk,hD⟩|⟨hk,hS,hs⟩
     · dsimp only at hk hD ⊢
       subst hk;subst hD
       simp -dsimp -implicitDefEqProofs only [pz,Nat.reduceBEq,Nat.reduceDiv,Nat.reduceAdd,↓reduceIte,Nat.reduceEqDiff]
       simp -dsimp -implicitDefEqProofs only [go_sem,Int.mul_zero,Int.add_zero,hd]
       refine sCallT_inl 620000 53 [] Tryz.func111 rfl rfl rfl rfl rfl (by exact of_decide_eq_true rfl) ⟨?_,?_⟩
       · simp -dsimp -implicitDefEqProofs only [go_sem]
       rw [←hl]
       simp -dsimp -implicitDefEqProofs only [lowP_nil,lowP_cons,inF_nil,inF_cons,rnsM_nil,rnsM_cons,rnsL_nil,rnsL_cons,rnsA_nil,rnsA_cons,rl_eq,rnA_ref,rnA_ptr,rnA_agg,rnA_arr,rnA_val,rnA_e0,rnA_clo,rnL_nil,rnL_cons,rnB_box,rnB_row,rnB_gone,rnM_nil,rnM_cons,Nat.reduceLT,decide_true,decide_false,Bool.true_and,Bool.not_false,Bool.not_true,Bool.and_false,Nat.reduceBEq,Bool.or_false,beq_self_eq_true,Bool.true_or,↓reduceIte,Nat.reduceEqDiff,Nat.reduceAdd,Bool.and_true]
       refine hins _ ?_ _ rfl
       intro E ts hS hs
       simp -dsimp -implicitDefEqProofs only [go_sem]
       ((repeat' (with_reducible refine ai ?_ ?_));all_goals try (first|omega|(refine ⟨?_,?_⟩<;>omega)|(exact rfl)))
       refine ⟨(1,E),.inr ⟨rfl,hS,hs⟩,by dsimp only;omega,?_⟩
       simp -dsimp -implicitDefEqProofs only [go_sem]
       all_goals first|exact rfl|exact ⟨rfl,rfl⟩|(simp [hl];done)|skip
     · dsimp only at hk hS hs ⊢
       subst hk
       have hDl:=hS.len
       have d40:decide ((20:Int)+20*1≤os.length)=false:=decide_eq_false (by omega)
       have d21:decide ((20:Int)*1+1<os.length)=false:=decide_eq_false (by omega)
       simp -dsimp -implicitDefEqProofs only [pz,Nat.reduceBEq,Nat.reduceDiv,Nat.reduceAdd,↓reduceIte,Nat.reduceEqDiff]
       simp -dsimp -implicitDefEqProofs only [go_sem,d40,Int.natCast_one]
       ((repeat' (with_reducible refine ai ?_ ?_));all_goals try (first|omega|(refine ⟨?_,?_⟩<;>omega)|(exact rfl)))
       refine sCallT_inl 620000 53 [] Tryz.func111 rfl rfl rfl rfl rfl (by exact of_decide_eq_true rfl) ?_
       simp -dsimp -implicitDefEqProofs only [go_sem]
       ((repeat' (with_reducible refine ai ?_ ?_));all_goals try (first|omega|(refine ⟨?_,?_⟩<;>omega)|(exact rfl)))
       refine Later.up [0,1,2,3] [32] [] 0 (fun _=>True) (fun i=>[(8,eI (20*1+1))]) (fun i=>[]) trivial ?_ rfl (fun i hi _=>absurd hi (Nat.not_lt_zero _)) (fun _=> ?_)
       · simp -dsimp -implicitDefEqProofs only [go_sem]
       simp -dsimp -implicitDefEqProofs only [pz,Nat.reduceBEq,Nat.reduceDiv,Nat.reduceAdd,↓reduceIte,Nat.reduceEqDiff]
       simp -dsimp -implicitDefEqProofs only [go_sem,d21]
       refine Later.up [0,1,2] [43,60] [] 0 (fun _=>True) (fun i=>[(6,eI 20)]) (fun i=>[]) trivial ?_ rfl (fun i hi _=>absurd hi (Nat.not_lt_zero _)) (fun _=> ?_)
       · simp -dsimp -implicitDefEqProofs only [go_sem]
       have d20:decide ((20:Int)<os.length)=false:=decide_eq_false (by omega)
       simp -dsimp -implicitDefEqProofs only [pz,Nat.reduceBEq,Nat.reduceDiv,Nat.reduceAdd,↓reduceIte,Nat.reduceEqDiff]
       simp -dsimp -implicitDefEqProofs only [go_sem,d20]
       exact hQ D _ hS hs
end Go.Vc
namespace Go.Vc
open Go.Proofs
def cpyF (r i:Int) (x:ItM):Int:=if rkIt r x=i then x.copies else 0
def cpy (r i:Int) (os:List ItM):Int:=(os.map (cpyF r i)).sum
def itAt (r:Nat) (i:Nat) (c:Int):ItM:=if i<r then ⟨true,i,c⟩ else ⟨false,(i:Int)-r,c⟩
def nrm (r:Nat) (os:List ItM):Nat→List ItM
 |0=>[]
 |n+1=>if cpy r n os>0 then nrm r os n++[itAt r n (cpy r n os)] else nrm r os n
theorem cpy_nil (r i:Int):cpy r i []=0:=rfl
theorem cpy_snoc (r i:Int) (os:List ItM) (x:ItM):cpy r i (os++[x])=cpy r i os+cpyF r i x:=by
 simp [cpy]
theorem cpy_cons (r i:Int) (os:List ItM) (x:ItM):cpy r i (x::os)=cpyF r i x+cpy r i os:=by
 simp [cpy]
def okCp (x:ItM):Prop:=1≤x.copies∧x.copies≤50
theorem cpyF_in {r i:Int} {x:ItM} (h:okCp x):0≤cpyF r i x∧cpyF r i x≤50:=by
 obtain ⟨h1,h2⟩:=h
 unfold cpyF
 split<;>omega
theorem cpy_in (r i:Int):∀(os:List ItM),(∀x,x∈os→okCp x)→0≤cpy r i os∧cpy r i os≤50*os.length
 | [],_=>by simp [cpy_nil]
 |x::r',h=>by
  have h1:=cpyF_in (r:=r) (i:=i) (h x (List.mem_cons_self ..))
  have h2:=cpy_in r i r' fun y hy=>h y (List.mem_cons_of_mem _ hy)
  rw [cpy_cons,List.length_cons]
  omega
theorem cpy_no {r i:Int}:∀{os:List ItM},(∀x,x∈os→rkIt r x≠i)→cpy r i os=0
 | [],_=>rfl
 |x::r',h=>by
  rw [cpy_cons,cpy_no fun y hy=>h y (List.mem_cons_of_mem _ hy),cpyF,if_neg (h x (List.mem_cons_self ..))];rfl
theorem nrm_congr {r:Nat} {A B:List ItM}:∀n,(∀i:Nat,i<n→cpy r i A=cpy r i B)→nrm r A n=nrm r B n
 |0,_=>rfl
 |n+1,h=>by
  rw [nrm,nrm,h n (Nat.lt_succ_self n),nrm_congr n fun i hi=>h i (by omega)]
theorem nrm_more {r:Nat} {A:List ItM} {k:Nat}:∀n,k≤n→(∀i:Nat,k≤i→i<n→cpy r i A=0)→nrm r A n=nrm r A k
 |0,h,_=>by rw [show k=0 by omega]
 |n+1,h,h0=>by
  by_cases e:k=n+1
  · rw [e]
  · rw [nrm,h0 n (by omega) (by omega),if_neg (by omega)]
    exact nrm_more n (by omega) fun i h1 h2=>h0 i h1 (by omega)
theorem itAt_rk (r i:Nat) (c:Int):rkIt r (itAt r i c)=i:=by
 unfold rkIt itAt
 split
 · rfl
 · show (if false=true then _ else (r:Int)+((i:Int)-r))=_
   rw [if_neg (by decide)];omega
theorem itAt_ix {r i:Nat} (c:Int) (h:i≤1000):okIx r (itAt r i c):=by
 unfold okIx itAt
 split<;>simp<;>omega
theorem itAt_of {r:Nat} {x:ItM} {i:Nat} (hx:okIx r x) (h:rkIt r x=i):x=itAt r i x.copies:=by
 obtain ⟨⟨h1,h2⟩,h3⟩:=hx
 unfold rkIt at h
 cases x with
 |mk k ix c=>
  cases k with
  |true=>
   have:=h3 rfl
   simp at h this h1
   unfold itAt
   rw [if_pos (by omega),←h]
  |false=>
   simp at h h1
   unfold itAt
   rw [if_neg (by omega)]
   have e:(i:Int)-r=ix:=by omega
   rw [e]
theorem nrm_mem {r:Nat} {A:List ItM}:∀{n:Nat} {y:ItM},y∈nrm r A n→∃i,i<n∧y=itAt r i (cpy r i A)∧0<cpy r i A
 |0,y,h=>by cases h
 |n+1,y,h=>by
  rw [nrm] at h
  split at h
  · rename_i hp
    rcases List.mem_append.1 h with h|h
    · obtain ⟨i,h1,h2⟩:=nrm_mem h
      exact ⟨i,by omega,h2⟩
    · rw [List.mem_singleton] at h
      exact ⟨n,Nat.lt_succ_self n,h,hp⟩
  · obtain ⟨i,h1,h2⟩:=nrm_mem h
    exact ⟨i,by omega,h2⟩
def mstep (out:List ItM) (x:ItM):List ItM:=
 if 0<out.length∧cmpIt (out.getD (out.length-1) default) x=0 then
  out.set (out.length-1) ⟨(out.getD (out.length-1) default).key,(out.getD (out.length-1) default).index,(out.getD (out.length-1) default).copies+x.copies⟩
 else out++[x]
def mrgS (D:List ItM):Nat→List ItM
 |0=>[]
 |i+1=>mstep (mrgS D i) (D.getD i default)
theorem mstep_len (out:List ItM) (x:ItM):(mstep out x).length≤out.length+1:=by
 unfold mstep
 split<;>simp
theorem mrgS_len (D:List ItM):∀i,(mrgS D i).length≤i
 |0=>uq12 _
 |i+1=>Nat.le_trans (mstep_len _ _) (by have:=mrgS_len D i;omega)
theorem mrg_step {r N:Nat} {A:List ItM} {x:ItM} {k:Nat} (hN:N≤1000) (hx:okIx r x) (hc:okCp x) (hk:rkIt r x=k) (hkN:k<N) (hA:∀y,y∈A→okIx r y∧okCp y∧rkIt r y≤k):mstep (nrm r A N) x=nrm r (A++[x]) N:=by
 have hxc:=hc.1
 have z1:∀i:Nat,k+1≤i→i<N→cpy r i A=0:=fun i h1 h2=>cpy_no fun y hy=>by have:=(hA y hy).2.2;omega
 have e1:nrm r A N=nrm r A (k+1):=nrm_more N (by omega) z1
 have hsame:∀i:Nat,i<k→cpy r i (A++[x])=cpy r i A:=fun i hi=>by
  rw [cpy_snoc,cpyF,if_neg (by omega)];omega
 have hkk:cpy r k (A++[x])=cpy r k A+x.copies:=by rw [cpy_snoc,cpyF,if_pos hk]
 have z2:∀i:Nat,k+1≤i→i<N→cpy r i (A++[x])=0:=fun i h1 h2=>by
  rw [cpy_snoc,z1 i h1 h2,cpyF,if_neg (by omega)];rfl
 have hge:=(cpy_in r k A fun y hy=>(hA y hy).2.1).1
 have e2:nrm r (A++[x]) N=nrm r A k++[itAt r k (cpy r k A+x.copies)]:=by
  rw [nrm_more N (show k+1≤N by omega) z2,nrm,hkk,if_pos (by omega),nrm_congr k hsame]
 rw [e1,e2,nrm]
 by_cases h0:cpy r k A>0
 · rw [if_pos h0]
   have hl:(nrm r A k++[itAt r k (cpy r k A)]).length-1=(nrm r A k).length:=by simp
   have hg:(nrm r A k++[itAt r k (cpy r k A)]).getD (nrm r A k).length default=itAt r k (cpy r k A):=by
    simp [uq0]
   unfold mstep
   rw [hl,hg,if_pos ⟨by simp,(cmp_rk (itAt_ix _ (by omega)) hx).2.2 (by rw [itAt_rk,hk])⟩,List.set_append_right _ _ (uq12 _),Nat.sub_self]
   congr 1
   unfold itAt
   split<;>rfl
 · rw [if_neg h0]
   have hc0:cpy r k A=0:=by omega
   rw [hc0,Int.zero_add,←itAt_of hx hk]
   unfold mstep
   rw [if_neg]
   rintro ⟨hl,hz⟩
   have hm:(nrm r A k).getD ((nrm r A k).length-1) default∈nrm r A k:=by
    rw [uq0,uq2 (by omega)]
    exact uq4 _
   obtain ⟨i,h1,h2,_⟩:=nrm_mem hm
   rw [h2] at hz
   have:=(cmp_rk (itAt_ix _ (by omega)) hx).2.1 hz
   rw [itAt_rk,hk] at this
   omega
theorem rk_in {r:Int} {x:ItM} (hx:okIx r x) (h:0≤r):0≤rkIt r x:=by
 obtain ⟨⟨h1,h2⟩,_⟩:=hx
 unfold rkIt
 split<;>omega
theorem mrg_all {r N:Nat} {D:List ItM} (hN:N≤1000) (hD:∀x,x∈D→okIx r x∧okCp x∧rkIt r x<N) (hs:srt r D D.length):∀i,i≤D.length→mrgS D i=nrm r (D.take i) N
 |0,_=>by
  have:∀n,nrm r [] n=[]:=by
   intro n
   induction n with
   |zero=>rfl
   |succ n ih=>rw [nrm,cpy_nil,if_neg (by omega),ih]
  simp [mrgS,this]
 |i+1,hi=>by
  have hi':i<D.length:=by omega
  have hm:=hD _ (uq4 hi')
  have hr0:=rk_in hm.1 (Int.natCast_nonneg r)
  obtain ⟨k,hk⟩:∃k:Nat,rkIt r D[i]=k:=⟨(rkIt r D[i]).toNat,by omega⟩
  rw [mrgS,mrg_all hN hD hs i (by omega),getD_get hi',uq9 hi']
  refine mrg_step hN hm.1 hm.2.1 hk (by omega) fun y hy=> ?_
  obtain ⟨p,hp,rfl⟩:=List.getElem_of_mem hy
  have hp2:p<i:=by rw [List.length_take] at hp;omega
  rw [List.getElem_take]
  have hy2:=hD _ (uq4 (show p<D.length by omega))
  refine ⟨hy2.1,hy2.2.1,?_⟩
  have:=hs p i hp2 hi'
  rw [getD_get hi',getD_get (show p<D.length by omega)] at this
  omega
def wide (t:List (List Int)):Nat:=t.length+(t.getD 0 []).length
def few (r:Nat) (os:List ItM) (n:Nat):Bool:=(List.range n).all fun i=>decide (cpy r (i:Int) os≤50)
def normalO (m:MkM) (t:List (List Int)) (os:List ItM):List ItM × Int:=
 if ordCode m t os=0 then (if few t.length os (wide t)=true then (nrm t.length os (wide t),0) else ([],3)) else ([],ordCode m t os)
theorem ord_facts {m:MkM} {t:List (List Int)} {os:List ItM} (h:ordCode m t os=0):wide t≤22∧os.length≤20∧∀x,x∈os→okIx t.length x∧okCp x∧rkIt t.length x<wide t:=by
 obtain ⟨k1,k2⟩:=ordCode_zero h
 obtain ⟨n1,n2,n3,n4,n5⟩:=isSy_num k1
 have k2':=k2
 simp only [isOrd,Bool.and_eq_true,List.all_eq_true,decide_eq_true_eq] at k2'
 refine ⟨by unfold wide;omega,k2'.2,fun x hx=> ?_⟩
 have hi:=k2'.1 x hx
 simp only [itOk,isIn,Bool.and_eq_true,decide_eq_true_eq] at hi
 unfold okIx okCp rkIt wide
 generalize (t.getD 0 []).length=dd at*
 rcases hk:x.key with _|_
 · rw [hk] at hi
   simp at hi ⊢
   omega
 · rw [hk] at hi
   simp at hi ⊢
   omega
theorem nrm_len {m:MkM} {t:List (List Int)} {os D:List ItM} (h:ordCode m t os=0) (hS:Same os D) (hs:srt t.length D os.length):mrgS D D.length=nrm t.length os (wide t)∧(nrm t.length os (wide t)).length≤20:=by
 obtain ⟨h1,h2,h3⟩:=ord_facts h
 have hl:=hS.len
 have e:=mrg_all (N:=wide t) (by omega) (fun x hx=>h3 x (hS.mem x hx)) (by rw [hl];exact hs) D.length (uq12 _)
 rw [uq8,nrm_congr (B:=os) (wide t) fun i _=>hS.sum _] at e
 refine ⟨e,?_⟩
 rw [←e]
 have:=mrgS_len D D.length
 omega
theorem isOrd_nrm {m:MkM} {t:List (List Int)} {os:List ItM} (h:ordCode m t os=0) (hl:(nrm t.length os (wide t)).length≤20):isOrd t (nrm t.length os (wide t))=few t.length os (wide t):=by
 obtain ⟨h1,h2,h3⟩:=ord_facts h
 rw [isOrd,decide_eq_true hl,Bool.and_true]
 rcases hf:few t.length os (wide t) with _|_
 · rw [List.all_eq_false]
   rw [few,List.all_eq_false] at hf
   obtain ⟨i,hi,hc⟩:=hf
   have hi':=List.mem_range.1 hi
   have hc':¬cpy t.length i os≤50:=by simpa using hc
   refine ⟨itAt t.length i (cpy t.length i os),?_,?_⟩
   · have key:∀n,i<n→itAt t.length i (cpy t.length i os)∈nrm t.length os n:=by
      intro n
      induction n with
      |zero=>intro h;omega
      |succ n ih=>
       intro hn
       rw [nrm]
       by_cases e:i=n
       · subst e
         rw [if_pos (by omega)];simp
       · have:=ih (by omega)
         split
         · exact List.mem_append_left _ this
         · exact this
     exact key _ hi'
   · simp only [itOk,isIn,Bool.and_eq_true,decide_eq_true_eq]
     unfold itAt
     split<;>simp<;>omega
 · rw [List.all_eq_true]
   rw [few,List.all_eq_true] at hf
   intro x hx
   obtain ⟨i,hi,rfl,hp⟩:=nrm_mem hx
   have hc:=hf i (List.mem_range.2 hi)
   have hc':cpy t.length i os≤50:=by simpa using hc
   simp only [itOk,isIn,Bool.and_eq_true,decide_eq_true_eq]
   unfold wide at hi
   generalize cpy t.length i os=cc at*
   generalize (t.getD 0 []).length=dd at*
   unfold itAt
   split<;>simp<;>omega
end Go.Vc
namespace Go.Vc
open Go.Proofs
def cpsF (b:Bool) (i:Int) (x:ItM):Int:=if (x.key==b)=true then (if (x.index==i)=true then x.copies else 0) else 0
def cps (b:Bool) (i:Int) (os:List ItM):Int:=(os.map (cpsF b i)).sum
theorem cps_take (b:Bool) (i:Int) (os:List ItM) (k:Nat) (hk:k<os.length):cps b i (os.take (k+1))=cps b i (os.take k)+cpsF b i os[k]:=by
 rw [uq9 hk,cps,List.map_append,List.sum_append,List.map_singleton]
 simp only [List.sum_cons,List.sum_nil,Int.add_zero];rfl
theorem cpsF_in {b:Bool} {i:Int} {x:ItM} (h:okCp x):0≤cpsF b i x∧cpsF b i x≤50:=by
 obtain ⟨h1,h2⟩:=h
 unfold cpsF
 split
 · split<;>omega
 · omega
theorem cps_in (b:Bool) (i:Int):∀(os:List ItM),(∀x,x∈os→okCp x)→0≤cps b i os∧cps b i os≤50*os.length
 | [],_=>by simp [cps]
 |x::r',h=>by
  have h1:=cpsF_in (b:=b) (i:=i) (h x (List.mem_cons_self ..))
  have h2:=cps_in b i r' fun y hy=>h y (List.mem_cons_of_mem _ hy)
  have e:cps b i (x::r')=cpsF b i x+cps b i r':=by simp [cps]
  rw [e,List.length_cons]
  omega
theorem cps_low {r i:Nat} (hi:i<r):∀{os:List ItM},(∀x,x∈os→okIx r x)→cps true i os=cpy r i os
 | [],_=>rfl
 |x::r',h=>by
  have ih:=cps_low hi (os:=r') fun y hy=>h y (List.mem_cons_of_mem _ hy)
  obtain ⟨⟨h1,h2⟩,h3⟩:=h x (List.mem_cons_self ..)
  have e:cps true i (x::r')=cpsF true i x+cps true i r':=by simp [cps]
  rw [e,cpy_cons,ih]
  congr 1
  unfold cpsF cpyF rkIt
  rcases hk:x.key with _|_
  · simp;omega
  · simp
theorem cps_high {r i:Nat} (hi:r≤i):∀{os:List ItM},(∀x,x∈os→okIx r x)→cps false ((i:Int)-r) os=cpy r i os
 | [],_=>rfl
 |x::r',h=>by
  have ih:=cps_high hi (os:=r') fun y hy=>h y (List.mem_cons_of_mem _ hy)
  obtain ⟨⟨h1,h2⟩,h3⟩:=h x (List.mem_cons_self ..)
  have e:cps false ((i:Int)-r) (x::r')=cpsF false ((i:Int)-r) x+cps false ((i:Int)-r) r':=by simp [cps]
  rw [e,cpy_cons,ih]
  congr 1
  unfold cpsF cpyF rkIt
  rcases hk:x.key with _|_
  · simp
    have:(x.index=(i:Int)-r)↔((r:Int)+x.index=i):=by omega
    by_cases hc:x.index=(i:Int)-r
    · rw [if_pos hc,if_pos (this.1 hc)]
    · rw [if_neg hc,if_neg fun q=>hc (this.2 q)]
  · have:=h3 hk
    simp;omega
theorem c_l29Copies (os:List ItM) (b:Bool) (i:Int) (h:os.length≤20) (hc:∀x,x∈os→okCp x):Fn Tryz.prog 63 [eIts os,eB b,eI i] true (· =eI (cps b i os)):=by
 refine Fn.of_vcN 39 [.tmp 6] Tryz.func63 rfl rfl rfl rfl rfl (of_decide_eq_true rfl) ?_
 have hb:=fun k=>cps_in b i (os.take k) fun x hx=>hc x (List.mem_of_mem_take hx)
 simp -dsimp -implicitDefEqProofs only [go_sem]
 refine Later.up [0,1,2] [11] [] os.length (fun _=>True) (fun k=>[(7,eI (cps b i (os.take k))),(8,eI k)]) (fun _=>[]) trivial ?_ rfl (fun k hk _=> ?_) (fun _=> ?_)
 · simp -dsimp -implicitDefEqProofs only [go_sem]
   exact rfl
 · have gk:=get_some hk
   have hx:=hc os[k] (uq4 hk)
   have hbk:=hb k
   have hl:(os.take k).length≤20:=by simp;omega
   obtain ⟨x1,x2⟩:=hx
   rw [cps_take b i os k hk]
   clear hb
   generalize os[k]=x at*
   generalize cps b i (os.take k)=z at*
   rcases e1:(x.key==b) with _|_
   · have hF:cpsF b i x=0:=by rw [cpsF,if_neg (by rw [e1];decide)]
     rw [hF,Int.add_zero]
     simp -dsimp -implicitDefEqProofs only [pz,Nat.reduceBEq,Nat.reduceDiv,Nat.reduceAdd,↓reduceIte,Nat.reduceEqDiff]
     simp -dsimp -implicitDefEqProofs only [go_sem,lt_len hk,gk,e1]
     ((repeat' (with_reducible refine ai ?_ ?_));all_goals try (first|omega|(refine ⟨?_,?_⟩<;>omega)|(exact rfl)))
     all_goals try simp -dsimp -implicitDefEqProofs only [go_sem,gk,e1]
     all_goals (first|omega|(refine ⟨?_,?_⟩<;>omega)|(exact rfl)|(simp;done)|skip)
   · rcases e2:(x.index==i) with _|_
     · have hF:cpsF b i x=0:=by rw [cpsF,if_pos e1,if_neg (by rw [e2];decide)]
       rw [hF,Int.add_zero]
       simp -dsimp -implicitDefEqProofs only [pz,Nat.reduceBEq,Nat.reduceDiv,Nat.reduceAdd,↓reduceIte,Nat.reduceEqDiff]
       simp -dsimp -implicitDefEqProofs only [go_sem,lt_len hk,gk,e1,e2]
       ((repeat' (with_reducible refine ai ?_ ?_));all_goals try (first|omega|(refine ⟨?_,?_⟩<;>omega)|(exact rfl)))
       all_goals try simp -dsimp -implicitDefEqProofs only [go_sem,gk,e1,e2]
       all_goals (first|omega|(refine ⟨?_,?_⟩<;>omega)|(exact rfl)|(simp;done)|skip)
     · have hF:cpsF b i x=x.copies:=by rw [cpsF,if_pos e1,if_pos e2]
       rw [hF]
       simp -dsimp -implicitDefEqProofs only [pz,Nat.reduceBEq,Nat.reduceDiv,Nat.reduceAdd,↓reduceIte,Nat.reduceEqDiff]
       simp -dsimp -implicitDefEqProofs only [go_sem,lt_len hk,gk,e1,e2]
       ((repeat' (with_reducible refine ai ?_ ?_));all_goals try (first|omega|(refine ⟨?_,?_⟩<;>omega)|(exact rfl)))
       all_goals try simp -dsimp -implicitDefEqProofs only [go_sem,gk,e1,e2]
       ((repeat' (with_reducible refine ai ?_ ?_));all_goals try (first|omega|(refine ⟨?_,?_⟩<;>omega)|(exact rfl)))
       all_goals (first|omega|(refine ⟨?_,?_⟩<;>omega)|(exact rfl)|(simp;done)|skip)
 · simp -dsimp -implicitDefEqProofs only [pz,Nat.reduceBEq,Nat.reduceDiv,Nat.reduceAdd,↓reduceIte,Nat.reduceEqDiff]
   simp -dsimp -implicitDefEqProofs only [go_sem,nlt_len,uq8]
theorem few_no {r n:Nat} {os:List ItM} {i:Nat} (hi:i<n) (h:cpy r i os>50):few r os n=false:=by
 rw [few,List.all_eq_false]
 exact ⟨i,List.mem_range.2 hi,by simp;omega⟩
theorem few_yes {r n:Nat} {os:List ItM} (h:few r os n=true) (h1:¬cpy r n os>50):few r os (n+1)=true:=by
 rw [few] at*
 rw [range_all_succ,h]
 simp;omega
set_option maxHeartbeats 4000000 in
theorem c_sNormal (m:MkM) (t:List (List Int)) (os:List ItM) (h:t.length≤1048576) (h2:∀x∈t,x.length≤1048576) (h3:os.length≤1048576):Fn Tryz.prog 28 [eSy m t,eIts os] true (· = .tup [eIts (normalO m t os).1,eI (normalO m t os).2]):=by
 refine Fn.of_vcN 64 [.tmp 4,.tmp 5] Tryz.func28 rfl rfl rfl rfl rfl (of_decide_eq_true rfl) ?_
 have hcode:=c_l29System m t os h h2 h3
 rcases hb:(ordCode m t os==0) with _|_
 · have hF:normalO m t os=([],ordCode m t os):=by rw [normalO,if_neg (by simpa using hb)]
   have hb2:(ordCode m t os != 0)=true:=by simp [bne,hb]
   rw [hF]
   generalize ordCode m t os=c at*
   simp -dsimp -implicitDefEqProofs only [go_sem]
   (refine sCallT_one (hcode) ?_;try simp -dsimp -implicitDefEqProofs only [go_sem, *])
   all_goals try simp -dsimp -implicitDefEqProofs only [go_sem,hb,hb2]
   all_goals (first|omega|(refine ⟨?_,?_⟩<;>omega)|(exact rfl)|(simp;done)|skip)
 · have hb0:ordCode m t os=0:=by simpa using hb
   obtain ⟨f1,f2,f3⟩:=ord_facts hb0
   have hnl:=(nrm_len hb0 (Same.refl os)) 
   obtain ⟨k1,k2⟩:=ordCode_zero hb0
   obtain ⟨n1,n2,n3,n4,n5⟩:=isSy_num k1
   have h00:0<t.length:=by omega
   have g0:=get_some h00
   have gd:t.getD 0 []=t[0]:=by simp [uq0,h00]
   have hF:normalO m t os=if few t.length os (wide t)=true then (nrm t.length os (wide t),0) else ([],3):=by rw [normalO,if_pos hb0]
   rw [hF]
   clear hF hnl
   rw [hb0] at hcode
   have hw:wide t=t.length+t[0].length:=by rw [wide,gd]
   have hci:=fun i=>cpy_in t.length i os fun x hx=>(f3 x hx).2.1
   have hcc:=fun b i=>c_l29Copies os b i f2 fun x hx=>(f3 x hx).2.1
   have hlow:=fun (i:Nat) (hi:i<t.length)=>cps_low hi fun x hx=>(f3 x hx).1
   have hhigh:=fun (i:Nat) (hi:t.length≤i)=>cps_high hi fun x hx=>(f3 x hx).1
   have hnml:∀n,(nrm t.length os n).length≤n:=by
    intro n
    induction n with
    |zero=>simp [nrm]
    |succ n ih=>
     rw [nrm]
     split
     · simp;omega
     · omega
   rw [gd] at n3 n4 n5
   clear gd
   simp -dsimp -implicitDefEqProofs only [go_sem,g0]
   (refine sCallT_one (hcode) ?_;try simp -dsimp -implicitDefEqProofs only [go_sem, *])
   refine Later.draw mixed rfl ?_
   simp -dsimp -implicitDefEqProofs only [go_sem,g0]
   ((repeat' (with_reducible refine ai ?_ ?_));all_goals try (first|omega|(refine ⟨?_,?_⟩<;>omega)|(exact rfl)))
   all_goals try simp -dsimp -implicitDefEqProofs only [go_sem,g0]
   ((repeat' (with_reducible refine ai ?_ ?_));all_goals try (first|omega|(refine ⟨?_,?_⟩<;>omega)|(exact rfl)))
   refine Later.up [1,8,9] [11,51,61,62] [18] (wide t) (fun i=>few t.length os i=true) (fun i=>[(7,.ref 18 0 0 (nrm t.length os i).length),(10,eI i)]) (fun i=>[(18,.row 0 ⟨3,true⟩ true ((nrm t.length os i).map eIt))]) rfl ?_ rfl (fun i hi hI=> ?_) (fun hI=> ?_)
   · simp -dsimp -implicitDefEqProofs only [go_sem]
     simp [nrm]
   · have dlt:decide ((i:Int)<(t.length:Int)+(t[0].length:Int))=true:=decide_eq_true (by omega)
     have hl:=hnml i
     have hcin:=hci i
     have hfn:=few_no (r:=t.length) (os:=os) hi
     have hfy:=few_yes hI
     have hs:nrm t.length os (i+1)=if cpy t.length i os>0 then nrm t.length os i++[itAt t.length i (cpy t.length i os)] else nrm t.length os i:=rfl
     rw [hs]
     clear hs hnml hci
     generalize nrm t.length os i=q at*
     rcases hir:decide ((i:Int)<(t.length:Int)) with _|_
     · have hir':t.length≤i:=by have:=of_decide_eq_false hir;omega
       have dge:decide ((i:Int)≥(t.length:Int))=true:=decide_eq_true (by omega)
       have hc:=hcc false ((i:Int)-t.length)
       rw [hhigh i hir'] at hc
       have hat:itAt t.length i (cpy t.length i os)=⟨false,(i:Int)-t.length,cpy t.length i os⟩:=by rw [itAt,if_neg (by omega)]
       rw [hat]
       clear hat hlow hhigh hcc
       generalize cpy t.length i os=c at*
       rcases h50:decide (c>50) with _|_
       · have h50':=of_decide_eq_false h50
         have hfy:=hfy h50'
         rcases hc0:decide (c>0) with _|_
         · rw [if_neg (of_decide_eq_false hc0)]
           simp -dsimp -implicitDefEqProofs only [pz,Nat.reduceBEq,Nat.reduceDiv,Nat.reduceAdd,↓reduceIte,Nat.reduceEqDiff]
           simp -dsimp -implicitDefEqProofs only [go_sem,dlt,hir,dge]
           ((repeat' (with_reducible refine ai ?_ ?_));all_goals try (first|omega|(refine ⟨?_,?_⟩<;>omega)|(exact rfl)))
           all_goals try simp -dsimp -implicitDefEqProofs only [go_sem,dge]
           refine sCallT_one hc ?_
           simp -dsimp -implicitDefEqProofs only [go_sem,h50,hc0]
           ((repeat' (with_reducible refine ai ?_ ?_));all_goals try (first|omega|(refine ⟨?_,?_⟩<;>omega)|(exact rfl)))
           all_goals (first|omega|(refine ⟨?_,?_⟩<;>omega)|(exact rfl)|(simp;done)|skip)
         · rw [if_pos (of_decide_eq_true hc0)]
           simp -dsimp -implicitDefEqProofs only [pz,Nat.reduceBEq,Nat.reduceDiv,Nat.reduceAdd,↓reduceIte,Nat.reduceEqDiff]
           simp -dsimp -implicitDefEqProofs only [go_sem,dlt,hir,dge]
           ((repeat' (with_reducible refine ai ?_ ?_));all_goals try (first|omega|(refine ⟨?_,?_⟩<;>omega)|(exact rfl)))
           all_goals try simp -dsimp -implicitDefEqProofs only [go_sem,dge]
           refine sCallT_one hc ?_
           simp -dsimp -implicitDefEqProofs only [go_sem,h50,hc0]
           ((repeat' (with_reducible refine ai ?_ ?_));all_goals try (first|omega|(refine ⟨?_,?_⟩<;>omega)|(exact rfl)))
           all_goals first|(first|omega|(refine ⟨?_,?_⟩<;>omega)|(exact rfl)|(simp;done)|skip)|(refine ⟨hfy,?_⟩;simp;done)
       · have hff:=hfn (of_decide_eq_true h50)
         rw [if_neg (by rw [hff];decide)]
         simp -dsimp -implicitDefEqProofs only [pz,Nat.reduceBEq,Nat.reduceDiv,Nat.reduceAdd,↓reduceIte,Nat.reduceEqDiff]
         simp -dsimp -implicitDefEqProofs only [go_sem,dlt,hir,dge]
         ((repeat' (with_reducible refine ai ?_ ?_));all_goals try (first|omega|(refine ⟨?_,?_⟩<;>omega)|(exact rfl)))
         all_goals try simp -dsimp -implicitDefEqProofs only [go_sem,dge]
         refine sCallT_one hc ?_
         simp -dsimp -implicitDefEqProofs only [go_sem,h50]
         ((repeat' (with_reducible refine ai ?_ ?_));all_goals try (first|omega|(refine ⟨?_,?_⟩<;>omega)|(exact rfl)))
         all_goals (first|omega|(refine ⟨?_,?_⟩<;>omega)|(exact rfl)|(simp;done)|skip)
     · have hir':i<t.length:=by have:=of_decide_eq_true hir;omega
       have dge:decide ((i:Int)≥(t.length:Int))=false:=decide_eq_false (by omega)
       have hc:=hcc true i
       rw [hlow i hir'] at hc
       have hat:itAt t.length i (cpy t.length i os)=⟨true,(i:Int),cpy t.length i os⟩:=by rw [itAt,if_pos hir']
       rw [hat]
       clear hat hlow hhigh hcc
       generalize cpy t.length i os=c at*
       rcases h50:decide (c>50) with _|_
       · have h50':=of_decide_eq_false h50
         have hfy:=hfy h50'
         rcases hc0:decide (c>0) with _|_
         · rw [if_neg (of_decide_eq_false hc0)]
           simp -dsimp -implicitDefEqProofs only [pz,Nat.reduceBEq,Nat.reduceDiv,Nat.reduceAdd,↓reduceIte,Nat.reduceEqDiff]
           simp -dsimp -implicitDefEqProofs only [go_sem,dlt,hir,dge]
           ((repeat' (with_reducible refine ai ?_ ?_));all_goals try (first|omega|(refine ⟨?_,?_⟩<;>omega)|(exact rfl)))
           all_goals try simp -dsimp -implicitDefEqProofs only [go_sem,dge]
           refine sCallT_one hc ?_
           simp -dsimp -implicitDefEqProofs only [go_sem,h50,hc0]
           ((repeat' (with_reducible refine ai ?_ ?_));all_goals try (first|omega|(refine ⟨?_,?_⟩<;>omega)|(exact rfl)))
           all_goals (first|omega|(refine ⟨?_,?_⟩<;>omega)|(exact rfl)|(simp;done)|skip)
         · rw [if_pos (of_decide_eq_true hc0)]
           simp -dsimp -implicitDefEqProofs only [pz,Nat.reduceBEq,Nat.reduceDiv,Nat.reduceAdd,↓reduceIte,Nat.reduceEqDiff]
           simp -dsimp -implicitDefEqProofs only [go_sem,dlt,hir,dge]
           ((repeat' (with_reducible refine ai ?_ ?_));all_goals try (first|omega|(refine ⟨?_,?_⟩<;>omega)|(exact rfl)))
           all_goals try simp -dsimp -implicitDefEqProofs only [go_sem,dge]
           refine sCallT_one hc ?_
           simp -dsimp -implicitDefEqProofs only [go_sem,h50,hc0]
           ((repeat' (with_reducible refine ai ?_ ?_));all_goals try (first|omega|(refine ⟨?_,?_⟩<;>omega)|(exact rfl)))
           all_goals first|(first|omega|(refine ⟨?_,?_⟩<;>omega)|(exact rfl)|(simp;done)|skip)|(refine ⟨hfy,?_⟩;simp;done)
       · have hff:=hfn (of_decide_eq_true h50)
         rw [if_neg (by rw [hff];decide)]
         simp -dsimp -implicitDefEqProofs only [pz,Nat.reduceBEq,Nat.reduceDiv,Nat.reduceAdd,↓reduceIte,Nat.reduceEqDiff]
         simp -dsimp -implicitDefEqProofs only [go_sem,dlt,hir,dge]
         ((repeat' (with_reducible refine ai ?_ ?_));all_goals try (first|omega|(refine ⟨?_,?_⟩<;>omega)|(exact rfl)))
         all_goals try simp -dsimp -implicitDefEqProofs only [go_sem,dge]
         refine sCallT_one hc ?_
         simp -dsimp -implicitDefEqProofs only [go_sem,h50]
         ((repeat' (with_reducible refine ai ?_ ?_));all_goals try (first|omega|(refine ⟨?_,?_⟩<;>omega)|(exact rfl)))
         all_goals (first|omega|(refine ⟨?_,?_⟩<;>omega)|(exact rfl)|(simp;done)|skip)
   · have dlt:decide (((wide t:Nat):Int)<(t.length:Int)+(t[0].length:Int))=false:=decide_eq_false (by omega)
     have hl:=hnml (wide t)
     rw [if_pos hI]
     simp -dsimp -implicitDefEqProofs only [pz,Nat.reduceBEq,Nat.reduceDiv,Nat.reduceAdd,↓reduceIte,Nat.reduceEqDiff]
     simp -dsimp -implicitDefEqProofs only [go_sem,dlt]
     ((repeat' (with_reducible refine ai ?_ ?_));all_goals try (first|omega|(refine ⟨?_,?_⟩<;>omega)|(exact rfl)))
     all_goals (first|omega|(refine ⟨?_,?_⟩<;>omega)|(exact rfl)|(simp;done)|skip)
end Go.Vc
namespace Go.Vc
open Go.Proofs
theorem nrm_facts {r n:Nat} {A:List ItM} (hn:n≤1000) (hA:∀x,x∈A→okCp x) (hl:A.length≤20):∀y,y∈nrm r A n→okIx r y∧0≤y.copies∧y.copies≤1000:=by
 intro y hy
 obtain ⟨i,h1,h2,h3⟩:=nrm_mem hy
 have hc:=cpy_in r i A hA
 have e:y.copies=cpy r i A:=by rw [h2];unfold itAt;split<;>rfl
 refine ⟨by rw [h2];exact itAt_ix _ (by omega),by omega,by omega⟩
theorem nrm_le (r:Nat) (os:List ItM):∀n,(nrm r os n).length≤n
 |0=>uq12 _
 |n+1=>by
  have:=nrm_le r os n
  rw [nrm]
  split
  · simp;omega
  · omega
theorem normalO_22 (m:MkM) (t:List (List Int)) (os:List ItM):(normalO m t os).1.length≤22:=by
 unfold normalO
 split
 · rename_i h
   have h1:=(ord_facts h).1
   split
   · exact Nat.le_trans (nrm_le _ _ _) h1
   · simp
 · simp
set_option maxHeartbeats 4000000 in
theorem c_iNormal (m:MkM) (t:List (List Int)) (os:List ItM) (h:t.length≤1048576) (h2:∀x∈t,x.length≤1048576) (h3:os.length≤1048576):Fn Tryz.prog 27 [eSy m t,eIts os] true (· = .tup [eIts (normalO m t os).1,eI (normalO m t os).2]):=by
 refine Fn.of_vcN 64 [.tmp 4,.tmp 5] Tryz.func27 rfl rfl rfl rfl rfl (of_decide_eq_true rfl) ?_
 have hcode:=c_orderCode m t os h h2 h3
 rcases hb:(ordCode m t os==0) with _|_
 · have hF:normalO m t os=([],ordCode m t os):=by rw [normalO,if_neg (by simpa using hb)]
   have hb2:(ordCode m t os != 0)=true:=by simp [bne,hb]
   rw [hF]
   generalize ordCode m t os=c at*
   simp -dsimp -implicitDefEqProofs only [go_sem]
   (refine sCallT_one (hcode) ?_;try simp -dsimp -implicitDefEqProofs only [go_sem, *])
   all_goals try simp -dsimp -implicitDefEqProofs only [go_sem,hb,hb2]
   all_goals (first|omega|(refine ⟨?_,?_⟩<;>omega)|(exact rfl)|(simp;done)|skip)
 have hb0:ordCode m t os=0:=by simpa using hb
 obtain ⟨f1,f2,f3⟩:=ord_facts hb0
 obtain ⟨k1,k2⟩:=ordCode_zero hb0
 obtain ⟨n1,n2,n3,n4,n5⟩:=isSy_num k1
 have hF:normalO m t os=if few t.length os (wide t)=true then (nrm t.length os (wide t),0) else ([],3):=by rw [normalO,if_pos hb0]
 rw [hF]
 clear hF
 rw [hb0] at hcode
 have hst:=vc_stable m t t.length os f2 fun x hx=>(f3 x hx).1
 have hio:=isOrd_nrm (m:=m) (t:=t) (os:=os) hb0
 have hord:=fun os' h'=>c_iisOrder m t os' (by omega) h h2 h'
 simp -dsimp -implicitDefEqProofs only [go_sem]
 (refine sCallT_one (hcode) ?_;try simp -dsimp -implicitDefEqProofs only [go_sem, *])
 refine sCallT_one (c_CloneIt os h3) ?_
 simp -dsimp -implicitDefEqProofs only [go_sem]
 refine sCallT_inl 600000 9 [] Tryz.func59 rfl rfl rfl rfl rfl (by exact of_decide_eq_true rfl) ?_
 simp -dsimp -implicitDefEqProofs only [go_sem]
 refine sCallT_inl 610000 63 [] Tryz.func90 rfl rfl rfl rfl rfl (by exact of_decide_eq_true rfl) ⟨?_,?_⟩
 · simp -dsimp -implicitDefEqProofs only [go_sem]
 simp -dsimp -implicitDefEqProofs only [lowP_nil,lowP_cons,inF_nil,inF_cons,rnsM_nil,rnsM_cons,rnsL_nil,rnsL_cons,rnsA_nil,rnsA_cons,rl_eq,rnA_ref,rnA_ptr,rnA_agg,rnA_arr,rnA_val,rnA_e0,rnA_clo,rnL_nil,rnL_cons,rnB_box,rnB_row,rnB_gone,rnM_nil,rnM_cons,Nat.reduceLT,decide_true,decide_false,Bool.true_and,Bool.not_false,Bool.not_true,Bool.and_false,Nat.reduceBEq,Bool.or_false,beq_self_eq_true,Bool.true_or,↓reduceIte,Nat.reduceEqDiff,Nat.reduceAdd,Bool.and_true]
 refine hst _ ?_ _ rfl
 intro D ts hS hs
 have hDl:=hS.len
 have hml:=mrgS_len D
 obtain ⟨hmrg,hnl⟩:=nrm_len hb0 hS hs
 have hall:=mrg_all (r:=t.length) (N:=wide t) (D:=D) (by omega) (fun x hx=>f3 x (hS.mem x hx)) (by rw [hDl];exact hs)
 have hio:=hio hnl
 have hord:=hord (nrm t.length os (wide t)) (by omega)
 rw [hio] at hord
 clear hst hio hs
 simp -dsimp -implicitDefEqProofs only [go_sem]
 refine Later.up [2,23,24] [10,30,40,56,57] [20] os.length (fun _=>True) (fun i=>[(8,.ref 20 0 0 (mrgS D i).length),(25,eI i)]) (fun i=>[(20,.row 0 ⟨3,true⟩ true ((mrgS D i).map eIt))]) trivial ?_ rfl (fun i hi _=> ?_) (fun _=> ?_)
 · simp -dsimp -implicitDefEqProofs only [go_sem]
   simp [mrgS]
 · have hi2:i<D.length:=by omega
   have gi:=get_some hi2
   have hx:=f3 _ (hS.mem _ (uq4 hi2))
   have hl:=hml i
   have hsucc:mrgS D (i+1)=mstep (mrgS D i) D[i]:=by rw [mrgS,getD_get hi2]
   have hfacts:∀y,y∈mrgS D i→okIx t.length y∧0≤y.copies∧y.copies≤1000:=by
    rw [hall i (by omega)]
    exact nrm_facts (by omega) (fun x hx=>(f3 x (hS.mem x (List.mem_of_mem_take hx))).2.1) (by simp;omega)
   rw [hsucc]
   clear hsucc hall hml hmrg
   generalize D[i]=x at*
   generalize mrgS D i=q at*
   obtain ⟨hx1,⟨hx2,hx3⟩,hx4⟩:=hx
   rcases hq:decide ((q.length:Int)>0) with _|_
   · have hq':¬0<q.length:=by have:=of_decide_eq_false hq;omega
     have hm:mstep q x=q++[x]:=by rw [mstep,if_neg fun c=>hq' c.1]
     rw [hm]
     simp -dsimp -implicitDefEqProofs only [pz,Nat.reduceBEq,Nat.reduceDiv,Nat.reduceAdd,↓reduceIte,Nat.reduceEqDiff]
     simp -dsimp -implicitDefEqProofs only [go_sem,lt_len hi,gi,hq]
     ((repeat' (with_reducible refine ai ?_ ?_));all_goals try (first|omega|(refine ⟨?_,?_⟩<;>omega)|(exact rfl)))
     all_goals try simp -dsimp -implicitDefEqProofs only [go_sem,gi,hq]
     ((repeat' (with_reducible refine ai ?_ ?_));all_goals try (first|omega|(refine ⟨?_,?_⟩<;>omega)|(exact rfl)))
     refine Later.draw mixed rfl ?_
     simp -dsimp -implicitDefEqProofs only [go_sem,hq]
     ((repeat' (with_reducible refine ai ?_ ?_));all_goals try (first|omega|(refine ⟨?_,?_⟩<;>omega)|(exact rfl)))
     all_goals (first|omega|(refine ⟨?_,?_⟩<;>omega)|(exact rfl)|(simp;done)|skip)
   · have hq':0<q.length:=by have:=of_decide_eq_true hq;omega
     have hq1:q.length-1<q.length:=by omega
     have gl:=get_some hq1
     have hp:((q.length:Int)-1).toNat=q.length-1:=by omega
     have hy:=hfacts _ (uq4 hq1)
     have hgd:q.getD (q.length-1) default=q[q.length-1]:=getD_get hq1
     have hcmp:=c_compareItems hy.1 hx1
     rcases hc:(cmpIt q[q.length-1] x==0) with _|_
     · have hm:mstep q x=q++[x]:=by rw [mstep,hgd,if_neg fun c=>by rw [c.2] at hc;cases hc]
       rw [hm]
       clear hm hgd
       generalize q[q.length-1]=y at*
       simp -dsimp -implicitDefEqProofs only [pz,Nat.reduceBEq,Nat.reduceDiv,Nat.reduceAdd,↓reduceIte,Nat.reduceEqDiff]
       simp -dsimp -implicitDefEqProofs only [go_sem,lt_len hi,gi,hq]
       ((repeat' (with_reducible refine ai ?_ ?_));all_goals try (first|omega|(refine ⟨?_,?_⟩<;>omega)|(exact rfl)))
       all_goals try simp -dsimp -implicitDefEqProofs only [go_sem,gi,hq]
       ((repeat' (with_reducible refine ai ?_ ?_));all_goals try (first|omega|(refine ⟨?_,?_⟩<;>omega)|(exact rfl)))
       refine Later.draw mixed rfl ?_
       simp -dsimp -implicitDefEqProofs only [go_sem,hq,hp,gl]
       ((repeat' (with_reducible refine ai ?_ ?_));all_goals try (first|omega|(refine ⟨?_,?_⟩<;>omega)|(exact rfl)))
       refine sCallX_one hcmp ?_
       simp -dsimp -implicitDefEqProofs only [go_sem,hc]
       ((repeat' (with_reducible refine ai ?_ ?_));all_goals try (first|omega|(refine ⟨?_,?_⟩<;>omega)|(exact rfl)))
       all_goals (first|omega|(refine ⟨?_,?_⟩<;>omega)|(exact rfl)|(simp;done)|skip)
     · have hm:mstep q x=q.set (q.length-1) ⟨q[q.length-1].key,q[q.length-1].index,q[q.length-1].copies+x.copies⟩:=by rw [mstep,hgd,if_pos ⟨hq',by simpa using hc⟩]
       rw [hm,List.length_set,List.map_set]
       clear hm hgd
       generalize q[q.length-1]=y at*
       obtain ⟨hy1,hy2,hy3⟩:=hy
       simp -dsimp -implicitDefEqProofs only [pz,Nat.reduceBEq,Nat.reduceDiv,Nat.reduceAdd,↓reduceIte,Nat.reduceEqDiff]
       simp -dsimp -implicitDefEqProofs only [go_sem,lt_len hi,gi,hq]
       ((repeat' (with_reducible refine ai ?_ ?_));all_goals try (first|omega|(refine ⟨?_,?_⟩<;>omega)|(exact rfl)))
       all_goals try simp -dsimp -implicitDefEqProofs only [go_sem,gi,hq]
       ((repeat' (with_reducible refine ai ?_ ?_));all_goals try (first|omega|(refine ⟨?_,?_⟩<;>omega)|(exact rfl)))
       refine Later.draw mixed rfl ?_
       simp -dsimp -implicitDefEqProofs only [go_sem,hq,hp,gl]
       ((repeat' (with_reducible refine ai ?_ ?_));all_goals try (first|omega|(refine ⟨?_,?_⟩<;>omega)|(exact rfl)))
       refine sCallX_one hcmp ?_
       simp -dsimp -implicitDefEqProofs only [go_sem,hc]
       ((repeat' (with_reducible refine ai ?_ ?_));all_goals try (first|omega|(refine ⟨?_,?_⟩<;>omega)|(exact rfl)))
       refine Later.draw mixed rfl ?_
       simp -dsimp -implicitDefEqProofs only [go_sem,hp,gl]
       ((repeat' (with_reducible refine ai ?_ ?_));all_goals try (first|omega|(refine ⟨?_,?_⟩<;>omega)|(exact rfl)))
       all_goals try simp -dsimp -implicitDefEqProofs only [go_sem,hp,gl]
       ((repeat' (with_reducible refine ai ?_ ?_));all_goals try (first|omega|(refine ⟨?_,?_⟩<;>omega)|(exact rfl)))
       all_goals (first|omega|(refine ⟨?_,?_⟩<;>omega)|(exact rfl)|(simp;done)|skip)
 · have hl:=hml D.length
   rw [←hDl,hmrg]
   clear hmrg hall hml hl hDl
   generalize nrm t.length os (wide t)=q at*
   rcases hf:few t.length os (wide t) with _|_
   · rw [hf] at hord
     rw [if_neg (by decide)]
     simp -dsimp -implicitDefEqProofs only [pz,Nat.reduceBEq,Nat.reduceDiv,Nat.reduceAdd,↓reduceIte,Nat.reduceEqDiff]
     simp -dsimp -implicitDefEqProofs only [go_sem,nlt_len]
     ((repeat' (with_reducible refine ai ?_ ?_));all_goals try (first|omega|(refine ⟨?_,?_⟩<;>omega)|(exact rfl)))
     refine sCallT_one hord ?_
     simp -dsimp -implicitDefEqProofs only [go_sem]
     ((repeat' (with_reducible refine ai ?_ ?_));all_goals try (first|omega|(refine ⟨?_,?_⟩<;>omega)|(exact rfl)))
     all_goals (first|omega|(refine ⟨?_,?_⟩<;>omega)|(exact rfl)|(simp;done)|skip)
   · rw [hf] at hord
     rw [if_pos rfl]
     simp -dsimp -implicitDefEqProofs only [pz,Nat.reduceBEq,Nat.reduceDiv,Nat.reduceAdd,↓reduceIte,Nat.reduceEqDiff]
     simp -dsimp -implicitDefEqProofs only [go_sem,nlt_len]
     ((repeat' (with_reducible refine ai ?_ ?_));all_goals try (first|omega|(refine ⟨?_,?_⟩<;>omega)|(exact rfl)))
     refine sCallT_one hord ?_
     simp -dsimp -implicitDefEqProofs only [go_sem]
     ((repeat' (with_reducible refine ai ?_ ?_));all_goals try (first|omega|(refine ⟨?_,?_⟩<;>omega)|(exact rfl)))
     all_goals (first|omega|(refine ⟨?_,?_⟩<;>omega)|(exact rfl)|(simp;done)|skip)
end Go.Vc
namespace Go.Vc
open Go.Proofs
def lockSet (m:MkM) (xs:List Int):Bool:=decide (xs.length≠0)&&rises xs m.depths
def isLk0 (m:MkM) (l:List (List Int)):Bool:=((l.length:Int)==m.chambers)&&l.all (lockSet m)
def isLk (m:MkM) (l:List (List Int)):Bool:=isMk m&&isLk0 m l
theorem c_sIsLock (m:MkM) (l:List (List Int)) (h:l.length≤1048576) (h2:∀x∈l,x.length≤1048576):Fn Tryz.prog 86 [eMk m,eLk l] true (· =eB (isLk m l)):=by
 refine Fn.of_vcN 42 [.tmp 4] Tryz.func86 rfl rfl rfl rfl rfl (of_decide_eq_true rfl) ?_
 simp -dsimp -implicitDefEqProofs only [go_sem]
 repeat' first
  |(refine Br.intro (fun _=> ?_) (fun _=> ?_)<;>try simp -dsimp -implicitDefEqProofs only [go_sem, *])
  |(with_reducible refine ai ?_ ?_)
  |(refine sCallT_one (c_sIsMaker _) ?_;try simp -dsimp -implicitDefEqProofs only [go_sem, *])
 all_goals try (first|omega|(simp_all [isLk,isLk0];done))
 refine Later.up [2,3] [20,29,39] [] l.length (fun i=>(l.take i).all (lockSet m)) (fun i=>[(5,eI i)]) (fun _=>[]) (by simp) ?_ rfl (fun i hi hI=> ?_) (fun hI=> ?_)
 · simp -dsimp -implicitDefEqProofs only [go_sem]
 · simp -dsimp -implicitDefEqProofs only [pz,Nat.reduceBEq,Nat.reduceDiv,Nat.reduceAdd,↓reduceIte,Nat.reduceEqDiff]
   have gi:=get_some hi
   have li:=lt_len hi
   have no:lockSet m l[i]=false→isLk m l=false:=fun h=>by simp [isLk,isLk0,lockSet,all_no (p:=lockSet m) hi h]
   have yes:lockSet m l[i]=true→((l.take (i+1)).all (lockSet m))=true:=fun h=>by rw [all_take _ _ _ hi,hI];simpa using h
   simp -dsimp -implicitDefEqProofs only [go_sem,li,gi]
   repeat' first
    |(refine Br.intro (fun _=> ?_) (fun _=> ?_)<;>try simp -dsimp -implicitDefEqProofs only [go_sem, *])
    |(with_reducible refine ai ?_ ?_)
    |(refine sCallT_one (c_l01Rises l[i] _ (by have:=h2 l[i] (uq4 hi);omega)) ?_;try simp -dsimp -implicitDefEqProofs only [go_sem, *])
    |(refine sCallX_one (c_l01Rises l[i] _ (by have:=h2 l[i] (uq4 hi);omega)) ?_;try simp -dsimp -implicitDefEqProofs only [go_sem, *])
    |(refine Later.draw mixed rfl ?_;try simp -dsimp -implicitDefEqProofs only [go_sem, *])
   all_goals first
    |omega
    |(refine ⟨?_,?_⟩<;>omega)
    |(simp;done)
    |rfl
    |(rw [no];clear no yes;simp_all [isLk,isLk0,lockSet];done)|(rw [no];clear no yes;simp_all [isLk,isLk0,lockSet];omega)|(refine yes ?_;clear no yes;simp_all [isLk,isLk0,lockSet];done)|(refine yes ?_;clear no yes;simp_all [isLk,isLk0,lockSet];omega)
    |skip
 · simp -dsimp -implicitDefEqProofs only [pz,Nat.reduceBEq,Nat.reduceDiv,Nat.reduceAdd,↓reduceIte,Nat.reduceEqDiff]
   simp -dsimp -implicitDefEqProofs only [go_sem,nlt_len]
   rw [uq8] at hI
   first
    |(simp_all [isLk,isLk0];done)
    |(simp_all [isLk,isLk0];omega)
    |skip
theorem c_isLock (m:MkM) (l:List (List Int)) (h:l.length≤1048576) (h2:∀x∈l,x.length≤1048576):Fn Tryz.prog 106 [eMk m,eLk l] true (· =eB (isLk0 m l)):=by
 refine Fn.of_vcN 31 [.tmp 4] Tryz.func106 rfl rfl rfl rfl rfl (of_decide_eq_true rfl) ?_
 simp -dsimp -implicitDefEqProofs only [go_sem]
 refine Later.up [2,3,8,9] [15,21] [] l.length (fun i=>(l.take i).all (lockSet m)) (fun i=>[(10,eI i)]) (fun _=>[]) (by simp) ?_ rfl (fun i hi hI=> ?_) (fun hI=> ?_)
 · simp -dsimp -implicitDefEqProofs only [go_sem]
 · simp -dsimp -implicitDefEqProofs only [pz,Nat.reduceBEq,Nat.reduceDiv,Nat.reduceAdd,↓reduceIte,Nat.reduceEqDiff]
   have gi:=get_some hi
   have li:=lt_len hi
   have no:lockSet m l[i]=false→isLk0 m l=false:=fun h=>by simp [isLk0,lockSet,all_no (p:=lockSet m) hi h]
   have yes:lockSet m l[i]=true→((l.take (i+1)).all (lockSet m))=true:=fun h=>by rw [all_take _ _ _ hi,hI];simpa using h
   simp -dsimp -implicitDefEqProofs only [go_sem,li,gi]
   repeat' first
    |(refine Br.intro (fun _=> ?_) (fun _=> ?_)<;>try simp -dsimp -implicitDefEqProofs only [go_sem, *])
    |(with_reducible refine ai ?_ ?_)
    |(refine sCallT_one (c_IsRising l[i] _ (by have:=h2 l[i] (uq4 hi);omega)) ?_;try simp -dsimp -implicitDefEqProofs only [go_sem, *])
    |(refine sCallX_one (c_IsRising l[i] _ (by have:=h2 l[i] (uq4 hi);omega)) ?_;try simp -dsimp -implicitDefEqProofs only [go_sem, *])
    |(refine Later.draw mixed rfl ?_;try simp -dsimp -implicitDefEqProofs only [go_sem, *])
   all_goals first
    |omega
    |(refine ⟨?_,?_⟩<;>omega)
    |(simp;done)
    |rfl
    |(rw [no];clear no yes;simp_all [isLk0,lockSet];done)|(rw [no];clear no yes;simp_all [isLk0,lockSet];omega)|(refine yes ?_;clear no yes;simp_all [isLk0,lockSet];done)|(refine yes ?_;clear no yes;simp_all [isLk0,lockSet];omega)
    |skip
 · simp -dsimp -implicitDefEqProofs only [pz,Nat.reduceBEq,Nat.reduceDiv,Nat.reduceAdd,↓reduceIte,Nat.reduceEqDiff]
   simp -dsimp -implicitDefEqProofs only [go_sem,nlt_len]
   rw [uq8] at hI
   first
    |(simp_all [isLk,isLk0];done)
    |(simp_all [isLk,isLk0];omega)
    |skip
def lkCodes (m:MkM) (ls:List (List (List Int))):Int:=if isMk m&&ls.all (isLk0 m) then 0 else 1
theorem lkCodes_no {m:MkM} {ls:List (List (List Int))} {i:Nat} (hi:i<ls.length) (h:isLk0 m ls[i]=false):lkCodes m ls=1:=by
 rw [lkCodes,all_no hi h];simp
theorem lkCodes_one (m:MkM) (l:List (List Int)):lkCodes m [l]=if isLk m l then 0 else 1:=by simp [lkCodes,isLk]
theorem c_locksCode (m:MkM) (ls:List (List (List Int))) (h0:ls.length≤1048576) (h:∀l∈ls,l.length≤1048576∧∀x∈l,x.length≤1048576):Fn Tryz.prog 83 [eMk m,.arr ⟨1,true⟩ (ls.map eLk)] true (· =eI (lkCodes m ls)):=by
 refine Fn.of_vcN 21 [.tmp 4] Tryz.func83 rfl rfl rfl rfl rfl (of_decide_eq_true rfl) ?_
 simp -dsimp -implicitDefEqProofs only [go_sem]
 repeat' first
  |(refine Br.intro (fun _=> ?_) (fun _=> ?_)<;>try simp -dsimp -implicitDefEqProofs only [go_sem, *])
  |(with_reducible refine ai ?_ ?_)
  |(refine sCallT_one (c_iIsMaker _) ?_;try simp -dsimp -implicitDefEqProofs only [go_sem, *])
 all_goals try (first|omega|(simp_all [lkCodes];done))
 refine Later.up [2,10,11] [6,18] [] ls.length (fun i=>(ls.take i).all (isLk0 m)) (fun i=>[(12,eI i)]) (fun _=>[]) (by simp) ?_ rfl (fun i hi hI=> ?_) (fun hI=> ?_)
 · simp -dsimp -implicitDefEqProofs only [go_sem]
 · have hx:=h ls[i] (uq4 hi)
   have no:=fun h=>lkCodes_no (m:=m) hi h
   have yes:isLk0 m ls[i]=true→((ls.take (i+1)).all (isLk0 m))=true:=fun h=>by rw [all_take _ _ _ hi,hI,h];rfl
   simp -dsimp -implicitDefEqProofs only [pz,Nat.reduceBEq,Nat.reduceDiv,Nat.reduceAdd,↓reduceIte,Nat.reduceEqDiff]
   simp -dsimp -implicitDefEqProofs only [go_sem,lt_len hi,get_some hi]
   repeat' first
    |(refine Br.intro (fun _=> ?_) (fun _=> ?_)<;>try simp -dsimp -implicitDefEqProofs only [go_sem, *])
    |(with_reducible refine ai ?_ ?_)
    |(refine sCallT_one (c_isLock m ls[i] hx.1 hx.2) ?_;try simp -dsimp -implicitDefEqProofs only [go_sem, *])
   all_goals first
    |omega
    |(refine ⟨?_,?_⟩<;>omega)
    |(simp;done)
    |(rw [no];clear no yes;simp_all [];done)|(rw [no];clear no yes;simp_all [];omega)|(refine yes ?_;clear no yes;simp_all [];done)|(refine yes ?_;clear no yes;simp_all [];omega)
    |skip
 · simp -dsimp -implicitDefEqProofs only [pz,Nat.reduceBEq,Nat.reduceDiv,Nat.reduceAdd,↓reduceIte,Nat.reduceEqDiff]
   simp -dsimp -implicitDefEqProofs only [go_sem,nlt_len]
   rw [uq8] at hI
   first
    |(simp_all [lkCodes];done)
    |skip
end Go.Vc
namespace Go.Vc
open Go.Proofs
theorem c_SortI (v:Nat) (zs:List Int) (h:zs.length≤1048576):FnM Tryz.prog 103 [.row v ⟨1,false⟩ true (zs.map eI)] [.ref 1000000000 v 0 zs.length] (fun r io=>r= .tup []∧io=[.row v ⟨1,false⟩ true ((zs.mergeSort fun x y=>decide (x≤y)).map eI)]):=
 FnM.sortRow ⟨_,_,Tryz.func103,by rfl,rfl⟩ (fun zs=>zs.mergeSort fun x y=>decide (x≤y)) (fun zs=>List.length_mergeSort zs)
  (fun blk cap zs w hH hb hs=>AnyG.slices_Sort_int Tryz.laySort blk 0 cap zs w hH hb hs) (fun a w=>AnyG.slices_Sort_int_none Tryz.laySort a 0 w) v zs h
theorem compact_len (zs:List Int):(Lib.compact zs).length≤zs.length:=by
 unfold Lib.compact Lib.compactUpTo
 rw [List.length_map]
 exact Nat.le_trans (List.length_filter_le _ _) (by simp)
theorem s_CompactI {d l ver n:Nat} {zs:List Int} {xt:List AV} {m:Mem} {k:AV→Mem→Prop} {q:Pack k} (hlk:lookB m l=some (.row ver ⟨1,false⟩ true (zs.map eI))) (hn:n=zs.length) (hz:zs.length≤1048576)
 (hk:k (.ref l (ver+1) 0 (Lib.compact zs).length) ((l,.row (ver+1) ⟨1,false⟩ true ((Lib.compact zs++List.replicate (zs.length-(Lib.compact zs).length) 0).map eI))::m)):
 sCallT Tryz.prog 104 d [.ref l ver 0 n] xt m k q:=
 sCallT_ints (Lib.compact zs).length ⟨_,_,Tryz.func104,by rfl,rfl⟩ hlk hn (ys:=Lib.compact zs++List.replicate (zs.length-(Lib.compact zs).length) 0) (by have:=compact_len zs;simp;omega) (compact_len zs) hz
  (fun blk cap w hH hc=>AnyG.slices_Compact_int Tryz.layCompact blk 0 cap zs w hH (by omega) hc) (fun a w=>AnyG.slices_Compact_int_empty Tryz.layCompact a 0 w) hk
theorem s_CompactX {d l ver n:Nat} {zs:List Int} {xt:List AV} {m:Mem} {k:AV→Mem→Prop} {q:Pack k} (hlk:lookB m l=some (.row ver ⟨1,false⟩ true (zs.map eI))) (hn:n=zs.length) (hz:zs.length≤1048576)
 (hk:k (.ref l (ver+1) 0 (Lib.compact zs).length) ((l,.row (ver+1) ⟨1,false⟩ true ((Lib.compact zs++List.replicate (zs.length-(Lib.compact zs).length) 0).map eI))::m)):
 sCallX Tryz.prog 104 d [.ref l ver 0 n] xt m k q:=
 sCallX_ints (Lib.compact zs).length ⟨_,_,Tryz.func104,by rfl,rfl⟩ hlk hn (ys:=Lib.compact zs++List.replicate (zs.length-(Lib.compact zs).length) 0) (by have:=compact_len zs;simp;omega) (compact_len zs) hz
  (fun blk cap w hH hc=>AnyG.slices_Compact_int Tryz.layCompact blk 0 cap zs w hH (by omega) hc) (fun a w=>AnyG.slices_Compact_int_empty Tryz.layCompact a 0 w) hk
end Go.Vc
namespace Go.Vc
open Go.Proofs Go.Shelf Go.RowKit Go.Lib Go.Sort
theorem insI_info:(Tryz.prog.info? 2).map (fun i=>(i.zero,i.size,i.bytes))=some (some (.int .i64 0),1,8):=by kernel_rfl
theorem insI_over {w:World} {vb b o vc lb cb kA kB:Nat} {tA tB:TypeId} (hne:vb≠b) (hsa:w.shape? vb=some (tA,kA)) (hsb:w.shape? b=some (tB,kB)) (hkB:kB≠0) (hfa:w.frozen? ⟨vb,0,none⟩=false) (hfe:w.frozen? ⟨vb,kA,none⟩=false):
 (callFunc 77 #[.slice (some ⟨vb,0,none⟩) 1 vc,.slice (some ⟨b,o,none⟩) lb cb]).run Tryz.prog w= .ok (.value (.bool false)) w:=by
 rw [run_callFunc_extern Tryz.func77 (by kernel_rfl) (by kernel_rfl) (by kernel_rfl) (e:=Extern.SlicesOverlaps.overlaps #[31,31] #[4]) (by kernel_rfl),
  Lib.run_overlaps_apart w 31 4 2 Tryz.underlying31 1 Tryz.sizeOf2 ⟨vb,0,none⟩ ⟨b,o,none⟩ 1 vc lb cb hne tA tB kA kB hsa hsb hkB hfa hfe]
 rfl
set_option maxHeartbeats 4000000 in
theorem insI_end (w:World) (b vb c vc n:Nat) (x:Value) (hroom:n+1≤c) (hc63:c≤9223372036854775807) (hsp:(w.cell? ⟨b,n,none⟩).isSome=true) (hfz:w.frozen? ⟨b,n,none⟩=false) (hx:w.cell? ⟨vb,0,none⟩=some x) (h1x:x.oneCell'=true):
 Calls Tryz.prog 48 #[.slice (some ⟨b,0,none⟩) n c,.int .i64 n,.slice (some ⟨vb,0,none⟩) 1 vc] w fun e w'=>e= .returned (.slice (some ⟨b,0,none⟩) (n+1) c)∧w'=w.setCells b n [x]:=by
 obtain ⟨m,hm⟩:∃m,m=1:=⟨1,rfl⟩
 obtain ⟨off,hoff⟩:∃off,off=0:=⟨0,rfl⟩
 have hsrc:Src Tryz.prog 1 31 (.slice (some ⟨vb,off,none⟩) m vc) m [x] w:=Src.ofSlice w Tryz.underlying31 ⟨vb,off,none⟩ m vc [x] (by simp [hm]) (fun j u hj=>by
  rw [Addr.add_lit,hoff]
  cases j with
  |zero=>simpa using hj▸hx
  |succ j=>simp at hj) (by simpa using h1x)
 have mixed:Tryz.prog.follows .mixedOrders=true:=mixed
 have hz1:¬((m:Int)=0):=by omega
 have hr2:n+m≤c:=by omega
 have hs2:∀j,j< [x].length→(w.cell? ⟨b,off+n+j,none⟩).isSome=true:=fun j hj=>by
  have:j=0:=by simpa using hj
  subst this;simpa [hoff] using hsp
 have hf2:∀j,j< [x].length→w.frozen? ⟨b,off+n+j,none⟩=false:=fun j hj=>by
  have:j=0:=by simpa using hj
  subst this;simpa [hoff] using hfz
 rw [show n+1=n+m by omega]
 rw [show w.setCells b n [x]=w.setCells b (off+n) [x] by rw [hoff,uq13]]
 have key:Calls Tryz.prog 48 #[.slice (some ⟨b,off,none⟩) n c,.int .i64 n,.slice (some ⟨vb,off,none⟩) m vc] w fun e w'=>e= .returned (.slice (some ⟨b,off,none⟩) (n+m) c)∧w'=w.setCells b (off+n) [x]:=by
  clear hm hoff hsp hfz hx hroom
  go_enter Tryz.func48,Tryz.ntmps48
  go_wp2_with (at_builtin;refine wpList_append_room1 _ rfl _ _ 31 31 rfl 2 _ _ Tryz.underlying31 insI_info b off n c rfl _ rfl m [x] hsrc hr2 hs2 hf2 ?_)
  go_ret
  exact ⟨rfl,rfl⟩
 subst hm hoff
 exact key
set_option maxHeartbeats 4000000 in
theorem insI_endg (w:World) (base:Option Addr) (vb c vc n:Nat) (cs:List Value) (x:Value) (hnc:n≤c) (hroom:c<n+1) (hbig:n+1≤1073741824) (hcl:cs.length=n) (hnil:base=none→n=0)
 (hcs:∀a,base=some a→∀j v,cs[j]? =some v→w.cell? (a.add j)=some v) (hx:w.cell? ⟨vb,0,none⟩=some x) (h1x:x.oneCell'=true):
 Calls Tryz.prog 48 #[.slice base n c,.int .i64 n,.slice (some ⟨vb,0,none⟩) 1 vc] w fun e w'=>e= .returned (.slice (some ⟨w.heap.size,0,none⟩) (n+1) (grownCap w (n+1) c 2))∧
  w'=w.drew.alloc (.cells ((cs++[x]).toArray++Builtin.zeroCells (.int .i64 0:Value).cells (grownCap w (n+1) c 2-(n+1))) 2):=by
 obtain ⟨m,hm⟩:∃m,m=1:=⟨1,rfl⟩
 obtain ⟨off,hoff⟩:∃off,off=0:=⟨0,rfl⟩
 obtain ⟨i0,hi0,hz0,hzs,hzb⟩:=info_parts insI_info
 have hsrc:Src Tryz.prog i0.size 31 (.slice (some ⟨vb,off,none⟩) m vc) m [x] w:=by
  rw [hzs]
  exact Src.ofSlice w Tryz.underlying31 ⟨vb,off,none⟩ m vc [x] (by simp [hm]) (fun j u hj=>by
   rw [Addr.add_lit,hoff]
   cases j with
   |zero=>simpa using hj▸hx
   |succ j=>simp at hj) (by simpa using h1x)
 have mixed:Tryz.prog.follows .mixedOrders=true:=mixed
 have hz1:¬((m:Int)=0):=by omega
 rw [show n+1=n+m by omega]
 have hold:(Builtin.firstCells i0.size n (.slice base n c)).run Tryz.prog w.drew= .ok cs.toArray w.drew:=by
  rw [hzs]
  cases base with
  |none=>
   have h0:=hnil rfl
   subst h0
   rw [List.length_eq_zero_iff.1 hcl]
   exact run_firstCells_none w.drew 1 0 0 c
  |some a=>exact run_firstCells_some w.drew 1 n a n c cs (by omega) (fun j v hj=>hcs a rfl j v hj)
 have hrun:∀ty,(Builtin.append_ #[31,31] ty #[.slice base n c,.slice (some ⟨vb,off,none⟩) m vc]).run Tryz.prog w=_:=fun ty=>
  run_append_grow_src w 31 31 ty 2 i0 _ Tryz.underlying31 hi0 hz0 base n c cs hold _ m [x] hsrc (by omega) (by omega) (by rw [hzb];exact growslice_fits (by omega) (by omega))
 have key:Calls Tryz.prog 48 #[.slice base n c,.int .i64 n,.slice (some ⟨vb,off,none⟩) m vc] w fun e w'=>e= .returned (.slice (some ⟨w.heap.size,0,none⟩) (n+m) (grownCap w (n+m) c 2))∧
  w'=w.drew.alloc (.cells ((cs++[x]).toArray++Builtin.zeroCells (.int .i64 0:Value).cells (grownCap w (n+m) c 2-(n+m))) 2):=by
  have hc63:c≤9223372036854775807:=by omega
  clear hm hoff hx
  go_enter Tryz.func48,Tryz.ntmps48
  cases base with
  |none=>
   have h0:=hnil rfl
   subst h0
   go_wp2_with (at_builtin;refine Lib.wpList_append_run _ rfl _ _ _ _ rfl _ _ rfl rfl _ _ (hrun _) ?_)
   go_ret
   exact ⟨rfl,rfl⟩
  |some a=>
   go_wp2_with (at_builtin;refine Lib.wpList_append_run _ rfl _ _ _ _ rfl _ _ rfl rfl _ _ (hrun _) ?_)
   go_ret
   exact ⟨rfl,rfl⟩
 subst hm hoff
 exact key
set_option maxHeartbeats 4000000 in
theorem insI_shift (w:World) (b vb c vc i n kA kB:Nat) (tA tB:TypeId) (cs:List Value) (x:Value) (hi:i<n) (hroom:n+1≤c) (hc63:c≤9223372036854775807) (hne:vb≠b) (hcl:cs.length=n)
 (hcs:∀j v,cs[j]? =some v→w.cell? ⟨b,j,none⟩=some v) (hsp:∀j,j<n+1→(w.cell? ⟨b,j,none⟩).isSome=true) (hfz:∀j,j<n+1→w.frozen? ⟨b,j,none⟩=false)
 (hx:w.cell? ⟨vb,0,none⟩=some x) (h1x:x.oneCell'=true) (h1c:∀v∈cs,v.oneCell'=true)
 (hsa:w.shape? vb=some (tA,kA)) (hsb:w.shape? b=some (tB,kB)) (hkB:kB≠0) (hfa:w.frozen? ⟨vb,0,none⟩=false) (hfe:w.frozen? ⟨vb,kA,none⟩=false):
 Calls Tryz.prog 48 #[.slice (some ⟨b,0,none⟩) n c,.int .i64 i,.slice (some ⟨vb,0,none⟩) 1 vc] w fun e w'=>e= .returned (.slice (some ⟨b,0,none⟩) (n+1) c)∧w'=(w.drew.setCells b (i+1) (cs.drop i)).setCells b i [x]:=by
 obtain ⟨m,hm⟩:∃m,m=1:=⟨1,rfl⟩
 obtain ⟨off,hoff⟩:∃off,off=0:=⟨0,rfl⟩
 have mixed:Tryz.prog.follows .mixedOrders=true:=mixed
 have hov:∀lb cb,(callFunc 77 #[.slice (some ⟨vb,off,none⟩) m vc,.slice (some ⟨b,off+(i+m),none⟩) lb cb]).run Tryz.prog w= .ok (.value (.bool false)) w:=fun lb cb=>by
  rw [hm,hoff];exact insI_over hne hsa hsb hkB hfa hfe
 have hsz:(Tryz.prog.info? 2).map (·.size)=some 1:=by
  obtain ⟨i0,hi0,h0,h1,h2⟩:=info_parts insI_info
  rw [hi0];simp [h1]
 have hdl:(cs.drop i).length=n-i:=by rw [uq5,hcl]
 have hz1:¬((m:Int)=0):=by omega
 have hz2:¬((i:Int)=(n:Int)):=by omega
 have hr2:n+m≤c:=by omega
 have hw1:IntKind.i64.wrap ((i:Int)+(m:Int))=(i:Int)+(m:Int):=by rw [IntKind.wrap_i64];omega
 have hb1:(0:Int)≤(i:Int)+(m:Int):=by omega
 have hin:i≤n:=by omega
 have htn:((i:Int)+(m:Int)).toNat=i+m:=by omega
 have hb2:¬(c=i+m):=by omega
 have hb3:(i:Int)≤(n:Int)+(m:Int):=by omega
 have hb4:¬(c=i):=by omega
 have cl1:∀j,j<n+m→(w.cell? ⟨b,off+j,none⟩).isSome=true:=fun j hj=>by rw [hoff,uq13];exact hsp j (by omega)
 have fz1:∀j,j<n+m→w.frozen? ⟨b,off+j,none⟩=false:=fun j hj=>by rw [hoff,uq13];exact hfz j (by omega)
 have hcp1:∀ty dc sc,(Builtin.copy_ #[31,31] ty #[.slice (some ⟨b,off+(i+m),none⟩) (n+m-(i+m)) dc,.slice (some ⟨b,off+i,none⟩) (n+m-i) sc]).run Tryz.prog w.drew= .ok (goInt (cs.drop i).length) (w.drew.setCells b (off+(i+m)) (cs.drop i)):=fun ty dc sc=>
  run_copy_cells w.drew _ _ ty 2 b (off+(i+m)) (n+m-(i+m)) dc ⟨b,off+i,none⟩ (n+m-i) sc (cs.drop i) Tryz.underlying31 hsz (by rw [hdl];simp only [Nat.min_def];split<;>omega)
   (fun j v hj=>by rw [Addr.add_lit,uq11,hoff,uq13];exact hcs (i+j) v (by rwa [uq1] at hj))
   (fun j hj=>by rw [uq11];exact cl1 _ (by omega)) (fun j hj=>by rw [uq11];exact fz1 _ (by omega)) (fun v hv=>h1c v (uq7 hv))
 obtain ⟨W1,hW1⟩:∃W1,W1=w.drew.setCells b (off+(i+m)) (cs.drop i):=⟨_,rfl⟩
 have hsp1:∀k,k<n+m→(W1.cell? ⟨b,off+k,none⟩).isSome=true:=fun k hk=>by
  rw [hW1]
  exact isSome_setCells b _ _ _ (fun j hj=>by rw [uq11];exact cl1 _ (by omega)) _ (cl1 k hk)
 have hcp2:∀(W:World),(∀x,W.cell? x=W1.cell? x)→(∀x,W.frozen? x=W1.frozen? x)→∀ty dc,(Builtin.copy_ #[31,31] ty #[.slice (some ⟨b,off+i,none⟩) (n+m-i) dc,.slice (some ⟨vb,off,none⟩) m vc]).run Tryz.prog W= .ok (goInt [x].length) (W.setCells b (off+i) [x]):=fun W hWc hWf ty dc=>
  run_copy_cells W _ _ ty 2 b (off+i) (n+m-i) dc ⟨vb,off,none⟩ m vc [x] Tryz.underlying31 hsz (by simp only [uq6,Nat.min_def];split<;>omega)
   (fun j v hj=>by
     rw [Addr.add_lit,hWc,hW1,World.cell?_setCells_out b _ _ _ _ (fun h _=>absurd h hne)]
     cases j with
     |zero=>rw [hoff];simpa using hj▸hx
     |succ j=>simp at hj)
   (fun j hj=>by rw [hWc,uq11];exact hsp1 _ (by simp at hj;omega)) (fun j hj=>by rw [hWf,hW1,World.frozen?_setCells,uq11];exact fz1 _ (by simp at hj;omega)) (by simpa using h1x)
 rw [←hW1] at hcp1
 rw [show n+1=n+m by omega,show i+1=i+m by omega]
 rw [show w.drew.setCells b (i+m) (cs.drop i)=W1 by rw [hW1,hoff,uq13]]
 have key:Calls Tryz.prog 48 #[.slice (some ⟨b,off,none⟩) n c,.int .i64 i,.slice (some ⟨vb,off,none⟩) m vc] w fun e w'=>e= .returned (.slice (some ⟨b,off,none⟩) (n+m) c)∧w'=W1.setCells b (off+i) [x]:=by
  clear hm hoff hx hcs hsp hfz cl1 fz1 hsp1 hroom
  go_enter Tryz.func48,Tryz.ntmps48
  go_wp2_with (simp only [hov])
  go_region_law_o (refine step_copy_runI rfl _ _ 31 31 rfl _ _ (by simp [Act.eval,Act.put]) (by simp [Act.eval,Act.put]) (hcp1 _ _ _) ?_)
  go_wp2_with (at_builtin;refine wpList_copy_runI _ rfl _ _ 31 31 rfl _ _ rfl rfl (hcp2 _ (fun _=>rfl) (fun _=>rfl) _ _) ?_)
  go_ret
  first|exact ⟨rfl,rfl⟩|exact ⟨rfl,by rw [hW1]⟩
 rw [show i=off+i by omega] at*
 subst hm hoff
 simpa using key
set_option maxHeartbeats 4000000 in
theorem insI_grow (w:World) (b vb c vc i n:Nat) (cs:List Value) (x:Value) (hi:i<n) (hnc:n≤c) (hroom:c<n+1) (hbig:n+1≤1073741824) (hcl:cs.length=n)
 (hcs:∀j v,cs[j]? =some v→w.cell? ⟨b,j,none⟩=some v) (hx:w.cell? ⟨vb,0,none⟩=some x) (h1x:x.oneCell'=true) (h1c:∀v∈cs,v.oneCell'=true):
 Calls Tryz.prog 48 #[.slice (some ⟨b,0,none⟩) n c,.int .i64 i,.slice (some ⟨vb,0,none⟩) 1 vc] w fun e w'=>e= .returned (.slice (some ⟨w.heap.size,0,none⟩) (n+1) (grownCap w (n+1) c 2))∧
  w'=(((w.alloc (.cells ((cs.take i).toArray++Builtin.zeroCells (.int .i64 0:Value).cells (n+1-i)++Builtin.zeroCells (.int .i64 0:Value).cells (grownCap w (n+1) c 2-(n+1))) 2)).drew.setCells w.heap.size i [x]).drew).setCells w.heap.size (i+1) (cs.drop i):=by
 obtain ⟨m,hm⟩:∃m,m=1:=⟨1,rfl⟩
 obtain ⟨off,hoff⟩:∃off,off=0:=⟨0,rfl⟩
 have mixed:Tryz.prog.follows .mixedOrders=true:=mixed
 obtain ⟨i0,hi0,hz0,hzs,hzb⟩:=info_parts insI_info
 have hz1:¬((m:Int)=0):=by omega
 have hz2:¬((i:Int)=(n:Int)):=by omega
 have hz3:(c:Int)<(n:Int)+(m:Int):=by omega
 have hsz:(Tryz.prog.info? 2).map (·.size)=some 1:=by rw [hi0];simp [hzs]
 have hbw:b<w.heap.size:=block_lt_of_cell (hcs 0 _ (uq2 (by omega)))
 have hvw:vb<w.heap.size:=block_lt_of_cell hx
 have hkk:(n:Int)+(m:Int)-(i:Int)=((n+m-i:Nat):Int):=by omega
 have hik:i+(n+m-i)=n+m:=by omega
 rw [show n+1=n+m by omega,show i+1=i+m by omega]
 have hold:(Builtin.firstCells i0.size i (.slice (some ⟨b,off,none⟩) i c)).run Tryz.prog w.drew= .ok (cs.take i).toArray w.drew:=by
  rw [hzs]
  exact run_firstCells_some w.drew 1 i ⟨b,off,none⟩ i c (cs.take i) (by rw [List.length_take];omega) (fun j v hj=>by
   rw [Addr.add_lit,hoff,uq13]
   rw [uq3] at hj
   split at hj
   · exact hcs j v hj
   · cases hj)
 have hrz:∀ty,(Builtin.append_ #[31,3] ty #[.slice (some ⟨b,off,none⟩) i c,.int .i64 ((n:Int)+(m:Int)-(i:Int))]).run Tryz.prog w=
  .ok (.slice (some ⟨w.heap.size,0,none⟩) (n+m) (grownCap w (n+m) c 2)) (w.drew.alloc (.cells ((cs.take i).toArray++Builtin.zeroCells (.int .i64 0:Value).cells (n+m-i)++Builtin.zeroCells (.int .i64 0:Value).cells (grownCap w (n+m) c 2-(n+m))) 2)):=fun ty=>by
  have h:=Lib.run_append_grow_zeros w 31 3 ty 2 i0 _ .i64 .i64 Tryz.underlying31 Tryz.underlying3 hi0 hz0 (some ⟨b,off,none⟩) i c (cs.take i) hold (n+m-i) (by omega) (by omega) (by omega) (by omega) (by rw [hzb];omega) (by rw [hzb,hik];exact growslice_fits (by omega) (by omega))
  rw [hik] at h
  rw [hkk]
  exact h
 obtain ⟨G,hG⟩:∃G,G=grownCap w (n+m) c 2:=⟨_,rfl⟩
 obtain ⟨ROW,hROW⟩:∃ROW:Array Value,ROW=(cs.take i).toArray++Builtin.zeroCells (.int .i64 0:Value).cells (n+m-i)++Builtin.zeroCells (.int .i64 0:Value).cells (G-(n+m)):=⟨_,rfl⟩
 rw [←hG] at hrz ⊢
 rw [←hROW] at hrz ⊢
 have hRl:n+m≤ROW.size:=by
  rw [hROW]
  simp [Builtin.zeroCells,Value.cells]
  omega
 obtain ⟨W1,hW1⟩:∃W1,W1=w.drew.alloc (.cells ROW 2):=⟨_,rfl⟩
 rw [←hW1] at hrz
 have hN:∀j,j<n+m→(W1.cell? ⟨w.heap.size,j,none⟩).isSome=true:=fun j hj=>by
  rw [hW1,World.cell?_alloc_at (w:=w.drew) ROW _ w.heap.size j rfl,Array.getElem?_eq_getElem (by omega)];rfl
 have hNf:∀j,W1.frozen? ⟨w.heap.size,j,none⟩=false:=fun j=>by rw [hW1];exact World.frozen?_alloc_at (w:=w.drew) ROW _ w.heap.size j rfl
 have hOb:∀j v,w.cell? ⟨b,j,none⟩=some v→W1.cell? ⟨b,j,none⟩=some v:=fun j v h=>by rw [hW1,World.cell?_alloc_past (w:=w.drew) _ b j hbw];exact h
 have hOv:w.cell? ⟨vb,0,none⟩=some x→W1.cell? ⟨vb,0,none⟩=some x:=fun h=>by rw [hW1,World.cell?_alloc_past (w:=w.drew) _ vb 0 hvw];exact h
 have hcpA:∀(W:World),(∀x,W.cell? x=W1.cell? x)→(∀x,W.frozen? x=W1.frozen? x)→∀ty dc,(Builtin.copy_ #[31,31] ty #[.slice (some ⟨w.heap.size,i,none⟩) (n+m-i) dc,.slice (some ⟨vb,off,none⟩) m vc]).run Tryz.prog W= .ok (goInt [x].length) (W.setCells w.heap.size i [x]):=fun W hWc hWf ty dc=>
  run_copy_cells W _ _ ty 2 w.heap.size i (n+m-i) dc ⟨vb,off,none⟩ m vc [x] Tryz.underlying31 hsz (by simp only [uq6,Nat.min_def];split<;>omega)
   (fun j v hj=>by
     rw [Addr.add_lit,hWc]
     cases j with
     |zero=>rw [hoff];simpa using hj▸hOv hx
     |succ j=>simp at hj)
   (fun j hj=>by rw [hWc];exact hN _ (by simp at hj;omega)) (fun j hj=>by rw [hWf];exact hNf _) (by simpa using h1x)
 have hGn:n+m≤G:=by rw [hG];exact grownCap_ge w _ _ _
 have hG63:G≤9223372036854775807:=by
  have:=grownCap_le_maxLen w (n+m) c 2 (by unfold maxLen;omega)
  rw [←hG] at this
  unfold maxLen at this
  omega
 have hGi:¬(G=i):=by omega
 have hGim:¬(G=i+m):=by omega
 have hci:¬(c=i):=by omega
 have hbN:b≠w.heap.size:=by omega
 have hdl:(cs.drop i).length=n-i:=by rw [uq5,hcl]
 have hcpB:∀(W:World),(∀y,W.cell? y=(W1.setCells w.heap.size i [x]).cell? y)→(∀y,W.frozen? y=(W1.setCells w.heap.size i [x]).frozen? y)→∀ty dc sc,(Builtin.copy_ #[31,31] ty #[.slice (some ⟨w.heap.size,i+m,none⟩) (n+m-(i+m)) dc,.slice (some ⟨b,off+i,none⟩) (n-i) sc]).run Tryz.prog W= .ok (goInt (cs.drop i).length) (W.setCells w.heap.size (i+m) (cs.drop i)):=fun W hWc hWf ty dc sc=>
  run_copy_cells W _ _ ty 2 w.heap.size (i+m) (n+m-(i+m)) dc ⟨b,off+i,none⟩ (n-i) sc (cs.drop i) Tryz.underlying31 hsz (by rw [hdl];simp only [Nat.min_def];split<;>omega)
   (fun j v hj=>by
     rw [Addr.add_lit,hWc,World.cell?_setCells_out _ _ _ _ _ (fun h _=>absurd h hbN),uq11,hoff,uq13]
     exact hOb _ v (hcs (i+j) v (by rwa [uq1] at hj)))
   (fun j hj=>by rw [hWc];exact isSome_setCells _ _ _ _ (fun t ht=>hN _ (by simp at ht;omega)) _ (hN _ (by omega)))
   (fun j hj=>by rw [hWf,World.frozen?_setCells];exact hNf _) (fun v hv=>h1c v (uq7 hv))
 subst hW1
 have hE1:∀x,((w.alloc (.cells ROW 2)).drew).cell? x=(w.drew.alloc (.cells ROW 2)).cell? x:=fun x=>rfl
 have hE2:∀x,((w.alloc (.cells ROW 2)).drew).frozen? x=(w.drew.alloc (.cells ROW 2)).frozen? x:=fun x=>rfl
 have hF1:∀y,(((w.alloc (.cells ROW 2)).drew.setCells w.heap.size i [x]).drew).cell? y=((w.drew.alloc (.cells ROW 2)).setCells w.heap.size i [x]).cell? y:=fun y=>rfl
 have hF2:∀y,(((w.alloc (.cells ROW 2)).drew.setCells w.heap.size i [x]).drew).frozen? y=((w.drew.alloc (.cells ROW 2)).setCells w.heap.size i [x]).frozen? y:=fun y=>rfl
 have hw1:IntKind.i64.wrap ((i:Int)+(m:Int))=(i:Int)+(m:Int):=by rw [IntKind.wrap_i64];omega
 have hb1:(0:Int)≤(i:Int)+(m:Int):=by omega
 have hin:i≤n:=by omega
 have htn:((i:Int)+(m:Int)).toNat=i+m:=by omega
 have hb3:(i:Int)≤(n:Int):=by omega
 have key:Calls Tryz.prog 48 #[.slice (some ⟨b,off,none⟩) n c,.int .i64 i,.slice (some ⟨vb,off,none⟩) m vc] w fun e w'=>e= .returned (.slice (some ⟨w.heap.size,0,none⟩) (n+m) G)∧
  w'=(((w.alloc (.cells ROW 2)).drew.setCells w.heap.size i [x]).drew).setCells w.heap.size (i+m) (cs.drop i):=by
  clear hkk hik hold hROW hG hRl hm hoff hroom hx hcs
  go_enter Tryz.func48,Tryz.ntmps48
  go_wp2_with (first
   |(at_builtin;refine Lib.wpList_append_run _ rfl _ _ _ _ rfl _ _ rfl rfl _ _ (hrz _) ?_)
   |(at_builtin;refine wpList_copy_runI _ rfl _ _ 31 31 rfl _ _ rfl rfl (hcpA _ hE1 hE2 _ _) ?_)
   |(at_builtin;refine wpList_copy_runI _ rfl _ _ 31 31 rfl _ _ rfl rfl (hcpB _ (fun _=>rfl) (fun _=>rfl) _ _ _) ?_))
  go_region_law_o (refine step_copy_runI rfl _ _ 31 31 rfl (.slice (some ⟨w.heap.size,i+m,none⟩) (n+m-(i+m)) (G-(i+m))) (.slice (some ⟨b,off+i,none⟩) (n-i) (c-i)) (by simp [Act.eval,Act.put]) (by simp [Act.eval,Act.put]) (hcpB _ hF1 hF2 3 (G-(i+m)) (c-i)) ?_)
  go_wp2
  go_ret
  exact ⟨rfl,rfl⟩
 subst hm hoff
 exact key
theorem insR_info:(Tryz.prog.info? 31).map (fun i=>(i.zero,i.size,i.bytes))=some (some (.slice none 0 0),1,24):=by kernel_rfl
theorem insR_over {w:World} {vb b o vc lb cb kA kB:Nat} {tA tB:TypeId} (hne:vb≠b) (hsa:w.shape? vb=some (tA,kA)) (hsb:w.shape? b=some (tB,kB)) (hkB:kB≠0) (hfa:w.frozen? ⟨vb,0,none⟩=false) (hfe:w.frozen? ⟨vb,kA,none⟩=false):
 (callFunc 75 #[.slice (some ⟨vb,0,none⟩) 1 vc,.slice (some ⟨b,o,none⟩) lb cb]).run Tryz.prog w= .ok (.value (.bool false)) w:=by
 rw [run_callFunc_extern Tryz.func75 (by kernel_rfl) (by kernel_rfl) (by kernel_rfl) (e:=Extern.SlicesOverlaps.overlaps #[24,24] #[4]) (by kernel_rfl),
  Lib.run_overlaps_apart w 24 4 31 Tryz.underlying24 1 Tryz.sizeOf31 ⟨vb,0,none⟩ ⟨b,o,none⟩ 1 vc lb cb hne tA tB kA kB hsa hsb hkB hfa hfe]
 rfl
set_option maxHeartbeats 4000000 in
theorem insR_end (w:World) (b vb c vc n:Nat) (x:Value) (hroom:n+1≤c) (hc63:c≤9223372036854775807) (hsp:(w.cell? ⟨b,n,none⟩).isSome=true) (hfz:w.frozen? ⟨b,n,none⟩=false) (hx:w.cell? ⟨vb,0,none⟩=some x) (h1x:x.oneCell'=true):
 Calls Tryz.prog 46 #[.slice (some ⟨b,0,none⟩) n c,.int .i64 n,.slice (some ⟨vb,0,none⟩) 1 vc] w fun e w'=>e= .returned (.slice (some ⟨b,0,none⟩) (n+1) c)∧w'=w.setCells b n [x]:=by
 obtain ⟨m,hm⟩:∃m,m=1:=⟨1,rfl⟩
 obtain ⟨off,hoff⟩:∃off,off=0:=⟨0,rfl⟩
 have hsrc:Src Tryz.prog 1 24 (.slice (some ⟨vb,off,none⟩) m vc) m [x] w:=Src.ofSlice w Tryz.underlying24 ⟨vb,off,none⟩ m vc [x] (by simp [hm]) (fun j u hj=>by
  rw [Addr.add_lit,hoff]
  cases j with
  |zero=>simpa using hj▸hx
  |succ j=>simp at hj) (by simpa using h1x)
 have mixed:Tryz.prog.follows .mixedOrders=true:=mixed
 have hz1:¬((m:Int)=0):=by omega
 have hr2:n+m≤c:=by omega
 have hs2:∀j,j< [x].length→(w.cell? ⟨b,off+n+j,none⟩).isSome=true:=fun j hj=>by
  have:j=0:=by simpa using hj
  subst this;simpa [hoff] using hsp
 have hf2:∀j,j< [x].length→w.frozen? ⟨b,off+n+j,none⟩=false:=fun j hj=>by
  have:j=0:=by simpa using hj
  subst this;simpa [hoff] using hfz
 rw [show n+1=n+m by omega]
 rw [show w.setCells b n [x]=w.setCells b (off+n) [x] by rw [hoff,uq13]]
 have key:Calls Tryz.prog 46 #[.slice (some ⟨b,off,none⟩) n c,.int .i64 n,.slice (some ⟨vb,off,none⟩) m vc] w fun e w'=>e= .returned (.slice (some ⟨b,off,none⟩) (n+m) c)∧w'=w.setCells b (off+n) [x]:=by
  clear hm hoff hsp hfz hx hroom
  go_enter Tryz.func46,Tryz.ntmps46
  go_wp2_with (at_builtin;refine wpList_append_room1 _ rfl _ _ 24 24 rfl 31 _ _ Tryz.underlying24 insR_info b off n c rfl _ rfl m [x] hsrc hr2 hs2 hf2 ?_)
  go_ret
  exact ⟨rfl,rfl⟩
 subst hm hoff
 exact key
set_option maxHeartbeats 4000000 in
theorem insR_endg (w:World) (base:Option Addr) (vb c vc n:Nat) (cs:List Value) (x:Value) (hnc:n≤c) (hroom:c<n+1) (hbig:n+1≤1073741824) (hcl:cs.length=n) (hnil:base=none→n=0)
 (hcs:∀a,base=some a→∀j v,cs[j]? =some v→w.cell? (a.add j)=some v) (hx:w.cell? ⟨vb,0,none⟩=some x) (h1x:x.oneCell'=true):
 Calls Tryz.prog 46 #[.slice base n c,.int .i64 n,.slice (some ⟨vb,0,none⟩) 1 vc] w fun e w'=>e= .returned (.slice (some ⟨w.heap.size,0,none⟩) (n+1) (grownCap w (n+1) c 31))∧
  w'=w.drew.alloc (.cells ((cs++[x]).toArray++Builtin.zeroCells (.slice none 0 0:Value).cells (grownCap w (n+1) c 31-(n+1))) 31):=by
 obtain ⟨m,hm⟩:∃m,m=1:=⟨1,rfl⟩
 obtain ⟨off,hoff⟩:∃off,off=0:=⟨0,rfl⟩
 obtain ⟨i0,hi0,hz0,hzs,hzb⟩:=info_parts insR_info
 have hsrc:Src Tryz.prog i0.size 24 (.slice (some ⟨vb,off,none⟩) m vc) m [x] w:=by
  rw [hzs]
  exact Src.ofSlice w Tryz.underlying24 ⟨vb,off,none⟩ m vc [x] (by simp [hm]) (fun j u hj=>by
   rw [Addr.add_lit,hoff]
   cases j with
   |zero=>simpa using hj▸hx
   |succ j=>simp at hj) (by simpa using h1x)
 have mixed:Tryz.prog.follows .mixedOrders=true:=mixed
 have hz1:¬((m:Int)=0):=by omega
 rw [show n+1=n+m by omega]
 have hold:(Builtin.firstCells i0.size n (.slice base n c)).run Tryz.prog w.drew= .ok cs.toArray w.drew:=by
  rw [hzs]
  cases base with
  |none=>
   have h0:=hnil rfl
   subst h0
   rw [List.length_eq_zero_iff.1 hcl]
   exact run_firstCells_none w.drew 1 0 0 c
  |some a=>exact run_firstCells_some w.drew 1 n a n c cs (by omega) (fun j v hj=>hcs a rfl j v hj)
 have hrun:∀ty,(Builtin.append_ #[24,24] ty #[.slice base n c,.slice (some ⟨vb,off,none⟩) m vc]).run Tryz.prog w=_:=fun ty=>
  run_append_grow_src w 24 24 ty 31 i0 _ Tryz.underlying24 hi0 hz0 base n c cs hold _ m [x] hsrc (by omega) (by omega) (by rw [hzb];exact growslice_fits (by omega) (by omega))
 have key:Calls Tryz.prog 46 #[.slice base n c,.int .i64 n,.slice (some ⟨vb,off,none⟩) m vc] w fun e w'=>e= .returned (.slice (some ⟨w.heap.size,0,none⟩) (n+m) (grownCap w (n+m) c 31))∧
  w'=w.drew.alloc (.cells ((cs++[x]).toArray++Builtin.zeroCells (.slice none 0 0:Value).cells (grownCap w (n+m) c 31-(n+m))) 31):=by
  have hc63:c≤9223372036854775807:=by omega
  clear hm hoff hx
  go_enter Tryz.func46,Tryz.ntmps46
  cases base with
  |none=>
   have h0:=hnil rfl
   subst h0
   go_wp2_with (at_builtin;refine Lib.wpList_append_run _ rfl _ _ _ _ rfl _ _ rfl rfl _ _ (hrun _) ?_)
   go_ret
   exact ⟨rfl,rfl⟩
  |some a=>
   go_wp2_with (at_builtin;refine Lib.wpList_append_run _ rfl _ _ _ _ rfl _ _ rfl rfl _ _ (hrun _) ?_)
   go_ret
   exact ⟨rfl,rfl⟩
 subst hm hoff
 exact key
set_option maxHeartbeats 4000000 in
theorem insR_shift (w:World) (b vb c vc i n kA kB:Nat) (tA tB:TypeId) (cs:List Value) (x:Value) (hi:i<n) (hroom:n+1≤c) (hc63:c≤9223372036854775807) (hne:vb≠b) (hcl:cs.length=n)
 (hcs:∀j v,cs[j]? =some v→w.cell? ⟨b,j,none⟩=some v) (hsp:∀j,j<n+1→(w.cell? ⟨b,j,none⟩).isSome=true) (hfz:∀j,j<n+1→w.frozen? ⟨b,j,none⟩=false)
 (hx:w.cell? ⟨vb,0,none⟩=some x) (h1x:x.oneCell'=true) (h1c:∀v∈cs,v.oneCell'=true)
 (hsa:w.shape? vb=some (tA,kA)) (hsb:w.shape? b=some (tB,kB)) (hkB:kB≠0) (hfa:w.frozen? ⟨vb,0,none⟩=false) (hfe:w.frozen? ⟨vb,kA,none⟩=false):
 Calls Tryz.prog 46 #[.slice (some ⟨b,0,none⟩) n c,.int .i64 i,.slice (some ⟨vb,0,none⟩) 1 vc] w fun e w'=>e= .returned (.slice (some ⟨b,0,none⟩) (n+1) c)∧w'=(w.drew.setCells b (i+1) (cs.drop i)).setCells b i [x]:=by
 obtain ⟨m,hm⟩:∃m,m=1:=⟨1,rfl⟩
 obtain ⟨off,hoff⟩:∃off,off=0:=⟨0,rfl⟩
 have mixed:Tryz.prog.follows .mixedOrders=true:=mixed
 have hov:∀lb cb,(callFunc 75 #[.slice (some ⟨vb,off,none⟩) m vc,.slice (some ⟨b,off+(i+m),none⟩) lb cb]).run Tryz.prog w= .ok (.value (.bool false)) w:=fun lb cb=>by
  rw [hm,hoff];exact insR_over hne hsa hsb hkB hfa hfe
 have hsz:(Tryz.prog.info? 31).map (·.size)=some 1:=by
  obtain ⟨i0,hi0,h0,h1,h2⟩:=info_parts insR_info
  rw [hi0];simp [h1]
 have hdl:(cs.drop i).length=n-i:=by rw [uq5,hcl]
 have hz1:¬((m:Int)=0):=by omega
 have hz2:¬((i:Int)=(n:Int)):=by omega
 have hr2:n+m≤c:=by omega
 have hw1:IntKind.i64.wrap ((i:Int)+(m:Int))=(i:Int)+(m:Int):=by rw [IntKind.wrap_i64];omega
 have hb1:(0:Int)≤(i:Int)+(m:Int):=by omega
 have hin:i≤n:=by omega
 have htn:((i:Int)+(m:Int)).toNat=i+m:=by omega
 have hb2:¬(c=i+m):=by omega
 have hb3:(i:Int)≤(n:Int)+(m:Int):=by omega
 have hb4:¬(c=i):=by omega
 have cl1:∀j,j<n+m→(w.cell? ⟨b,off+j,none⟩).isSome=true:=fun j hj=>by rw [hoff,uq13];exact hsp j (by omega)
 have fz1:∀j,j<n+m→w.frozen? ⟨b,off+j,none⟩=false:=fun j hj=>by rw [hoff,uq13];exact hfz j (by omega)
 have hcp1:∀ty dc sc,(Builtin.copy_ #[24,24] ty #[.slice (some ⟨b,off+(i+m),none⟩) (n+m-(i+m)) dc,.slice (some ⟨b,off+i,none⟩) (n+m-i) sc]).run Tryz.prog w.drew= .ok (goInt (cs.drop i).length) (w.drew.setCells b (off+(i+m)) (cs.drop i)):=fun ty dc sc=>
  run_copy_cells w.drew _ _ ty 31 b (off+(i+m)) (n+m-(i+m)) dc ⟨b,off+i,none⟩ (n+m-i) sc (cs.drop i) Tryz.underlying24 hsz (by rw [hdl];simp only [Nat.min_def];split<;>omega)
   (fun j v hj=>by rw [Addr.add_lit,uq11,hoff,uq13];exact hcs (i+j) v (by rwa [uq1] at hj))
   (fun j hj=>by rw [uq11];exact cl1 _ (by omega)) (fun j hj=>by rw [uq11];exact fz1 _ (by omega)) (fun v hv=>h1c v (uq7 hv))
 obtain ⟨W1,hW1⟩:∃W1,W1=w.drew.setCells b (off+(i+m)) (cs.drop i):=⟨_,rfl⟩
 have hsp1:∀k,k<n+m→(W1.cell? ⟨b,off+k,none⟩).isSome=true:=fun k hk=>by
  rw [hW1]
  exact isSome_setCells b _ _ _ (fun j hj=>by rw [uq11];exact cl1 _ (by omega)) _ (cl1 k hk)
 have hcp2:∀(W:World),(∀x,W.cell? x=W1.cell? x)→(∀x,W.frozen? x=W1.frozen? x)→∀ty dc,(Builtin.copy_ #[24,24] ty #[.slice (some ⟨b,off+i,none⟩) (n+m-i) dc,.slice (some ⟨vb,off,none⟩) m vc]).run Tryz.prog W= .ok (goInt [x].length) (W.setCells b (off+i) [x]):=fun W hWc hWf ty dc=>
  run_copy_cells W _ _ ty 31 b (off+i) (n+m-i) dc ⟨vb,off,none⟩ m vc [x] Tryz.underlying24 hsz (by simp only [uq6,Nat.min_def];split<;>omega)
   (fun j v hj=>by
     rw [Addr.add_lit,hWc,hW1,World.cell?_setCells_out b _ _ _ _ (fun h _=>absurd h hne)]
     cases j with
     |zero=>rw [hoff];simpa using hj▸hx
     |succ j=>simp at hj)
   (fun j hj=>by rw [hWc,uq11];exact hsp1 _ (by simp at hj;omega)) (fun j hj=>by rw [hWf,hW1,World.frozen?_setCells,uq11];exact fz1 _ (by simp at hj;omega)) (by simpa using h1x)
 rw [←hW1] at hcp1
 rw [show n+1=n+m by omega,show i+1=i+m by omega]
 rw [show w.drew.setCells b (i+m) (cs.drop i)=W1 by rw [hW1,hoff,uq13]]
 have key:Calls Tryz.prog 46 #[.slice (some ⟨b,off,none⟩) n c,.int .i64 i,.slice (some ⟨vb,off,none⟩) m vc] w fun e w'=>e= .returned (.slice (some ⟨b,off,none⟩) (n+m) c)∧w'=W1.setCells b (off+i) [x]:=by
  clear hm hoff hx hcs hsp hfz cl1 fz1 hsp1 hroom
  go_enter Tryz.func46,Tryz.ntmps46
  go_wp2_with (simp only [hov])
  go_region_law_o (refine step_copy_runI rfl _ _ 24 24 rfl _ _ (by simp [Act.eval,Act.put]) (by simp [Act.eval,Act.put]) (hcp1 _ _ _) ?_)
  go_wp2_with (at_builtin;refine wpList_copy_runI _ rfl _ _ 24 24 rfl _ _ rfl rfl (hcp2 _ (fun _=>rfl) (fun _=>rfl) _ _) ?_)
  go_ret
  first|exact ⟨rfl,rfl⟩|exact ⟨rfl,by rw [hW1]⟩
 rw [show i=off+i by omega] at*
 subst hm hoff
 simpa using key
set_option maxHeartbeats 4000000 in
theorem insR_grow (w:World) (b vb c vc i n:Nat) (cs:List Value) (x:Value) (hi:i<n) (hnc:n≤c) (hroom:c<n+1) (hbig:n+1≤1073741824) (hcl:cs.length=n)
 (hcs:∀j v,cs[j]? =some v→w.cell? ⟨b,j,none⟩=some v) (hx:w.cell? ⟨vb,0,none⟩=some x) (h1x:x.oneCell'=true) (h1c:∀v∈cs,v.oneCell'=true):
 Calls Tryz.prog 46 #[.slice (some ⟨b,0,none⟩) n c,.int .i64 i,.slice (some ⟨vb,0,none⟩) 1 vc] w fun e w'=>e= .returned (.slice (some ⟨w.heap.size,0,none⟩) (n+1) (grownCap w (n+1) c 31))∧
  w'=(((w.alloc (.cells ((cs.take i).toArray++Builtin.zeroCells (.slice none 0 0:Value).cells (n+1-i)++Builtin.zeroCells (.slice none 0 0:Value).cells (grownCap w (n+1) c 31-(n+1))) 31)).drew.setCells w.heap.size i [x]).drew).setCells w.heap.size (i+1) (cs.drop i):=by
 obtain ⟨m,hm⟩:∃m,m=1:=⟨1,rfl⟩
 obtain ⟨off,hoff⟩:∃off,off=0:=⟨0,rfl⟩
 have mixed:Tryz.prog.follows .mixedOrders=true:=mixed
 obtain ⟨i0,hi0,hz0,hzs,hzb⟩:=info_parts insR_info
 have hz1:¬((m:Int)=0):=by omega
 have hz2:¬((i:Int)=(n:Int)):=by omega
 have hz3:(c:Int)<(n:Int)+(m:Int):=by omega
 have hsz:(Tryz.prog.info? 31).map (·.size)=some 1:=by rw [hi0];simp [hzs]
 have hbw:b<w.heap.size:=block_lt_of_cell (hcs 0 _ (uq2 (by omega)))
 have hvw:vb<w.heap.size:=block_lt_of_cell hx
 have hkk:(n:Int)+(m:Int)-(i:Int)=((n+m-i:Nat):Int):=by omega
 have hik:i+(n+m-i)=n+m:=by omega
 rw [show n+1=n+m by omega,show i+1=i+m by omega]
 have hold:(Builtin.firstCells i0.size i (.slice (some ⟨b,off,none⟩) i c)).run Tryz.prog w.drew= .ok (cs.take i).toArray w.drew:=by
  rw [hzs]
  exact run_firstCells_some w.drew 1 i ⟨b,off,none⟩ i c (cs.take i) (by rw [List.length_take];omega) (fun j v hj=>by
   rw [Addr.add_lit,hoff,uq13]
   rw [uq3] at hj
   split at hj
   · exact hcs j v hj
   · cases hj)
 have hrz:∀ty,(Builtin.append_ #[24,3] ty #[.slice (some ⟨b,off,none⟩) i c,.int .i64 ((n:Int)+(m:Int)-(i:Int))]).run Tryz.prog w=
  .ok (.slice (some ⟨w.heap.size,0,none⟩) (n+m) (grownCap w (n+m) c 31)) (w.drew.alloc (.cells ((cs.take i).toArray++Builtin.zeroCells (.slice none 0 0:Value).cells (n+m-i)++Builtin.zeroCells (.slice none 0 0:Value).cells (grownCap w (n+m) c 31-(n+m))) 31)):=fun ty=>by
  have h:=Lib.run_append_grow_zeros w 24 3 ty 31 i0 _ .i64 .i64 Tryz.underlying24 Tryz.underlying3 hi0 hz0 (some ⟨b,off,none⟩) i c (cs.take i) hold (n+m-i) (by omega) (by omega) (by omega) (by omega) (by rw [hzb];omega) (by rw [hzb,hik];exact growslice_fits (by omega) (by omega))
  rw [hik] at h
  rw [hkk]
  exact h
 obtain ⟨G,hG⟩:∃G,G=grownCap w (n+m) c 31:=⟨_,rfl⟩
 obtain ⟨ROW,hROW⟩:∃ROW:Array Value,ROW=(cs.take i).toArray++Builtin.zeroCells (.slice none 0 0:Value).cells (n+m-i)++Builtin.zeroCells (.slice none 0 0:Value).cells (G-(n+m)):=⟨_,rfl⟩
 rw [←hG] at hrz ⊢
 rw [←hROW] at hrz ⊢
 have hRl:n+m≤ROW.size:=by
  rw [hROW]
  simp [Builtin.zeroCells,Value.cells]
  omega
 obtain ⟨W1,hW1⟩:∃W1,W1=w.drew.alloc (.cells ROW 31):=⟨_,rfl⟩
 rw [←hW1] at hrz
 have hN:∀j,j<n+m→(W1.cell? ⟨w.heap.size,j,none⟩).isSome=true:=fun j hj=>by
  rw [hW1,World.cell?_alloc_at (w:=w.drew) ROW _ w.heap.size j rfl,Array.getElem?_eq_getElem (by omega)];rfl
 have hNf:∀j,W1.frozen? ⟨w.heap.size,j,none⟩=false:=fun j=>by rw [hW1];exact World.frozen?_alloc_at (w:=w.drew) ROW _ w.heap.size j rfl
 have hOb:∀j v,w.cell? ⟨b,j,none⟩=some v→W1.cell? ⟨b,j,none⟩=some v:=fun j v h=>by rw [hW1,World.cell?_alloc_past (w:=w.drew) _ b j hbw];exact h
 have hOv:w.cell? ⟨vb,0,none⟩=some x→W1.cell? ⟨vb,0,none⟩=some x:=fun h=>by rw [hW1,World.cell?_alloc_past (w:=w.drew) _ vb 0 hvw];exact h
 have hcpA:∀(W:World),(∀x,W.cell? x=W1.cell? x)→(∀x,W.frozen? x=W1.frozen? x)→∀ty dc,(Builtin.copy_ #[24,24] ty #[.slice (some ⟨w.heap.size,i,none⟩) (n+m-i) dc,.slice (some ⟨vb,off,none⟩) m vc]).run Tryz.prog W= .ok (goInt [x].length) (W.setCells w.heap.size i [x]):=fun W hWc hWf ty dc=>
  run_copy_cells W _ _ ty 31 w.heap.size i (n+m-i) dc ⟨vb,off,none⟩ m vc [x] Tryz.underlying24 hsz (by simp only [uq6,Nat.min_def];split<;>omega)
   (fun j v hj=>by
     rw [Addr.add_lit,hWc]
     cases j with
     |zero=>rw [hoff];simpa using hj▸hOv hx
     |succ j=>simp at hj)
   (fun j hj=>by rw [hWc];exact hN _ (by simp at hj;omega)) (fun j hj=>by rw [hWf];exact hNf _) (by simpa using h1x)
 have hGn:n+m≤G:=by rw [hG];exact grownCap_ge w _ _ _
 have hG63:G≤9223372036854775807:=by
  have:=grownCap_le_maxLen w (n+m) c 31 (by unfold maxLen;omega)
  rw [←hG] at this
  unfold maxLen at this
  omega
 have hGi:¬(G=i):=by omega
 have hGim:¬(G=i+m):=by omega
 have hci:¬(c=i):=by omega
 have hbN:b≠w.heap.size:=by omega
 have hdl:(cs.drop i).length=n-i:=by rw [uq5,hcl]
 have hcpB:∀(W:World),(∀y,W.cell? y=(W1.setCells w.heap.size i [x]).cell? y)→(∀y,W.frozen? y=(W1.setCells w.heap.size i [x]).frozen? y)→∀ty dc sc,(Builtin.copy_ #[24,24] ty #[.slice (some ⟨w.heap.size,i+m,none⟩) (n+m-(i+m)) dc,.slice (some ⟨b,off+i,none⟩) (n-i) sc]).run Tryz.prog W= .ok (goInt (cs.drop i).length) (W.setCells w.heap.size (i+m) (cs.drop i)):=fun W hWc hWf ty dc sc=>
  run_copy_cells W _ _ ty 31 w.heap.size (i+m) (n+m-(i+m)) dc ⟨b,off+i,none⟩ (n-i) sc (cs.drop i) Tryz.underlying24 hsz (by rw [hdl];simp only [Nat.min_def];split<;>omega)
   (fun j v hj=>by
     rw [Addr.add_lit,hWc,World.cell?_setCells_out _ _ _ _ _ (fun h _=>absurd h hbN),uq11,hoff,uq13]
     exact hOb _ v (hcs (i+j) v (by rwa [uq1] at hj)))
   (fun j hj=>by rw [hWc];exact isSome_setCells _ _ _ _ (fun t ht=>hN _ (by simp at ht;omega)) _ (hN _ (by omega)))
   (fun j hj=>by rw [hWf,World.frozen?_setCells];exact hNf _) (fun v hv=>h1c v (uq7 hv))
 subst hW1
 have hE1:∀x,((w.alloc (.cells ROW 31)).drew).cell? x=(w.drew.alloc (.cells ROW 31)).cell? x:=fun x=>rfl
 have hE2:∀x,((w.alloc (.cells ROW 31)).drew).frozen? x=(w.drew.alloc (.cells ROW 31)).frozen? x:=fun x=>rfl
 have hF1:∀y,(((w.alloc (.cells ROW 31)).drew.setCells w.heap.size i [x]).drew).cell? y=((w.drew.alloc (.cells ROW 31)).setCells w.heap.size i [x]).cell? y:=fun y=>rfl
 have hF2:∀y,(((w.alloc (.cells ROW 31)).drew.setCells w.heap.size i [x]).drew).frozen? y=((w.drew.alloc (.cells ROW 31)).setCells w.heap.size i [x]).frozen? y:=fun y=>rfl
 have hw1:IntKind.i64.wrap ((i:Int)+(m:Int))=(i:Int)+(m:Int):=by rw [IntKind.wrap_i64];omega
 have hb1:(0:Int)≤(i:Int)+(m:Int):=by omega
 have hin:i≤n:=by omega
 have htn:((i:Int)+(m:Int)).toNat=i+m:=by omega
 have hb3:(i:Int)≤(n:Int):=by omega
 have key:Calls Tryz.prog 46 #[.slice (some ⟨b,off,none⟩) n c,.int .i64 i,.slice (some ⟨vb,off,none⟩) m vc] w fun e w'=>e= .returned (.slice (some ⟨w.heap.size,0,none⟩) (n+m) G)∧
  w'=(((w.alloc (.cells ROW 31)).drew.setCells w.heap.size i [x]).drew).setCells w.heap.size (i+m) (cs.drop i):=by
  clear hkk hik hold hROW hG hRl hm hoff hroom hx hcs
  go_enter Tryz.func46,Tryz.ntmps46
  go_wp2_with (first
   |(at_builtin;refine Lib.wpList_append_run _ rfl _ _ _ _ rfl _ _ rfl rfl _ _ (hrz _) ?_)
   |(at_builtin;refine wpList_copy_runI _ rfl _ _ 24 24 rfl _ _ rfl rfl (hcpA _ hE1 hE2 _ _) ?_)
   |(at_builtin;refine wpList_copy_runI _ rfl _ _ 24 24 rfl _ _ rfl rfl (hcpB _ (fun _=>rfl) (fun _=>rfl) _ _ _) ?_))
  go_region_law_o (refine step_copy_runI rfl _ _ 24 24 rfl (.slice (some ⟨w.heap.size,i+m,none⟩) (n+m-(i+m)) (G-(i+m))) (.slice (some ⟨b,off+i,none⟩) (n-i) (c-i)) (by simp [Act.eval,Act.put]) (by simp [Act.eval,Act.put]) (hcpB _ hF1 hF2 3 (G-(i+m)) (c-i)) ?_)
  go_wp2
  go_ret
  exact ⟨rfl,rfl⟩
 subst hm hoff
 exact key
end Go.Vc
namespace Go.Vc
open Go.Proofs Go.Shelf Go.RowKit Go.Lib Go.Sort
theorem arr_app (a b:Array Value) (p:Nat):(a++b).toList.getD p Go.undef=(a.toList++b.toList).getD p Go.undef:=by rw [Array.toList_append]
theorem List.getD_append_left' {a b:List Value} {p:Nat} {d:Value} (h:p<a.length):(a++b).getD p d=a.getD p d:=by
 simp only [uq0,List.getElem?_append_left h]
theorem ins_last {l:List Value} {x:Value} {n p:Nat} (hl:l.length=n) (hp:p<n+1):(l++[x]).getD p Go.undef=if p<n then l.getD p Go.undef else x:=by
 simp only [uq0,List.getElem?_append,hl]
 split
 · rfl
 · rw [show p-n=0 by omega];rfl
theorem ins_put {w:World} {b c n i:Nat} {cs cs':Array Value} {e:El} {old:Nat→Value} {x:Value} (hb:w.heap[b]? =some (celO cs e)) (hcs:cs.size=c) (hr:n+1≤c) (hm:c≤maxLen) (_:i≤i)
 (hg:∀p,p<n+1→cs'.toList.getD p Go.undef=if p<i then old p else if p=i then x else old (p-1)) (hs:cs'.size=cs.size):InsOut w (w.setRow b cs') b c n i old x:=by
 have hlt:b<w.heap.size:=(Array.getElem?_eq_some_iff.1 hb).1
 exact ⟨by simpa using hlt,hr,hm,⟨cs',e,heap_setRow hb hs,by omega,hg⟩,fun c hc _=>heap_setRow_other _ hc,by simp,⟨rfl,rfl,rfl⟩⟩
theorem ins_put2 {w:World} {b c n i:Nat} {cs cs1 cs':Array Value} {e:El} {old:Nat→Value} {x:Value} (hb:w.drew.heap[b]? =some (celO cs e)) (hh:(w.drew.setRow b cs1).heap[b]? =some (celO cs1 e)) (_:0≤0) (hs1:cs1.size=cs.size) (hcs:cs.size=c) (hr:n+1≤c) (hm:c≤maxLen)
 (hg:∀p,p<n+1→cs'.toList.getD p Go.undef=if p<i then old p else if p=i then x else old (p-1)) (hs:cs'.size=cs1.size):InsOut w ((w.drew.setRow b cs1).setRow b cs') b c n i old x:=by
 have hlt:b<w.heap.size:=(Array.getElem?_eq_some_iff.1 hb).1
 exact ⟨by simpa using hlt,hr,hm,⟨cs',e,heap_setRow hh hs,by omega,hg⟩,fun c hc _=>by rw [heap_setRow_other _ hc,heap_setRow_other _ hc];rfl,by simp,⟨rfl,rfl,rfl⟩⟩
theorem ins_new {w w0:World} {G n i:Nat} {R:Array Value} {E:TypeId} {old:Nat→Value} {x:Value} (h0:w0.heap=w.heap) (_:0=0) (hge:n+1≤G) (hle:G≤maxLen) (hs:R.size=G)
 (hg:∀p,p<n+1→R.toList.getD p Go.undef=if p<i then old p else if p=i then x else old (p-1)) (hso:SameOut w (w0.alloc (.cells R E))):InsOut w (w0.alloc (.cells R E)) w.heap.size G n i old x:=by
 have hnew:=new_cel w0 R E
 rw [h0] at hnew
 exact ⟨by simp [h0],hge,hle,⟨R,(E,false),hnew,hs,hg⟩,fun c hc hcl=>by rw [Go.Vc.old w0 _ c (by rw [h0];exact hcl),h0],by simp [h0],hso⟩
theorem ins_grown {w:World} {G n i:Nat} {R cs1 cs':Array Value} {E:TypeId} {old:Nat→Value} {x:Value} (hw0:((w.alloc (.cells R E)).drew).heap[w.heap.size]? =some (celO R (E,false)))
 (hh1:(((w.alloc (.cells R E)).drew.setRow w.heap.size cs1).drew).heap[w.heap.size]? =some (celO cs1 (E,false))) (_:0≤0) (hs1:cs1.size=G) (hge:n+1≤G) (hle:G≤maxLen)
 (hg:∀p,p<n+1→cs'.toList.getD p Go.undef=if p<i then old p else if p=i then x else old (p-1)) (hs:cs'.size=cs1.size):
 InsOut w ((((w.alloc (.cells R E)).drew.setRow w.heap.size cs1).drew).setRow w.heap.size cs') w.heap.size G n i old x:=by
 refine ⟨by simp,hge,hle,⟨cs',(E,false),heap_setRow hh1 hs,by omega,hg⟩,fun c hc hcl=> ?_,by simp,⟨rfl,rfl,rfl⟩⟩
 rw [heap_setRow_other _ hc]
 show ((w.alloc (.cells R E)).drew.setRow w.heap.size cs1).heap[c]? =_
 rw [heap_setRow_other _ hc]
 exact Go.Vc.old w _ c hcl
theorem insI_runs:InsRuns Tryz.prog 48 where
 enters:=⟨Tryz.f48,_,Tryz.func48,by decide,rfl⟩
 at_:=by
  intro w b vb c vc i n cs cv e ev x hb hcs hnc hi hbig hmx hne hv hx h1x h1c hn0
  have hmx':c≤9223372036854775807:=by unfold maxLen at hmx;omega
  have hxc:w.cell? ⟨vb,0,none⟩=some x:=by simp [World.cell?,hv,hx]
  have hcl:(cs.toList.take n).length=n:=by simp;omega
  have hcell:∀j v,(cs.toList.take n)[j]? =some v→w.cell? ⟨b,j,none⟩=some v:=by
   intro j v hj
   rw [celO_cell hb]
   rw [uq3] at hj
   split at hj
   · simpa using hj
   · cases hj
  have tk:∀p,p<n→(cs.toList.take n).getD p Go.undef=cs.toList.getD p Go.undef:=by
   intro p hp
   simp only [uq0,uq3,if_pos hp]
  by_cases hin:i=n
  · subst hin
    by_cases hroom:i+1≤c
    · have hsp:(w.cell? ⟨b,i,none⟩).isSome=true:=by rw [celO_cell hb];simp;omega
      have hfz:=celO_free hb (o:=i) (by omega)
      refine (insI_end w b vb c vc i x hroom hmx' hsp hfz hxc h1x).mono ?_
      rintro e' w' ⟨rfl,rfl⟩
      refine ⟨b,c,rfl,?_,.inl ⟨rfl,rfl⟩⟩
      rw [setCells_row (P:=Tryz.prog) hb (by simpa using h1x) (by simp;omega)]
      exact ins_put hb hcs (by omega) hmx (uq12 _) (fun p hp=>by
       rw [splice_getD _ _ _ _ (by simp;omega)]
       simp only [uq6]
       by_cases h1:p<i
       · rw [if_neg (by omega),if_pos h1]
       · rw [if_pos (by omega),if_neg h1,if_pos (by omega),show p-i=0 by omega];rfl) (by simp;omega)
    · refine (insI_endg w (some ⟨b,0,none⟩) vb c vc i (cs.toList.take i) x hnc (by omega) hbig hcl (fun h=>by cases h) (fun a ha j v hj=> ?_) hxc h1x).mono ?_
      · cases ha
        rw [Addr.add_lit,uq13]
        exact hcell j v hj
      · rintro e' w' ⟨rfl,rfl⟩
        have hge:=grownCap_ge w (i+1) c 2
        have hle:=grownCap_le_maxLen w (i+1) c 2 (by unfold maxLen;omega)
        generalize grownCap w (i+1) c 2=G at*
        refine ⟨_,G,rfl,?_,.inr rfl⟩
        refine ins_new (w0:=w.drew) rfl rfl hge hle (by simp [Builtin.zeroCells,Value.cells];omega) (fun p hp=> ?_) ⟨rfl,rfl,rfl⟩
        rw [arr_app,List.getD_append_left' (by simp;omega)]
        rw [uq10,ins_last hcl hp]
        split
        · rename_i h1;exact tk p h1
        · rw [if_pos (by omega)]
  · have hlt:i<n:=by omega
    by_cases hroom:n+1≤c
    · have hsp:∀j,j<n+1→(w.cell? ⟨b,j,none⟩).isSome=true:=fun j hj=>by rw [celO_cell hb];simp;omega
      have hfz:∀j,j<n+1→w.frozen? ⟨b,j,none⟩=false:=fun j hj=>celO_free hb (by omega)
      refine (insI_shift w b vb c vc i n cv.size cs.size ev e.1 (cs.toList.take n) x hlt hroom hmx' hne hcl hcell hsp hfz hxc h1x h1c (by simp [World.shape?,hv]) (by simp [World.shape?,hb]) (by omega) (by simp [World.frozen?,hv]) (by simp [World.frozen?,hv])).mono ?_
      rintro e' w' ⟨rfl,rfl⟩
      refine ⟨b,c,rfl,?_,.inl ⟨rfl,rfl⟩⟩
      have hdl:((cs.toList.take n).drop i).length=n-i:=by rw [uq5,hcl]
      have hb':w.drew.heap[b]? =some (celO cs e):=hb
      rw [setCells_row (P:=Tryz.prog) hb' (fun u hu=>h1c u (uq7 hu)) (by omega)]
      have hs1:=size_splice (cs:=cs) (o:=i+1) (vs:=(cs.toList.take n).drop i) (by omega)
      have hh1:=heap_setRow hb' hs1
      rw [setCells_row (P:=Tryz.prog) hh1 (by simpa using h1x) (by simp;omega)]
      have hg1:∀p,p<n+1→((cs.toList.take (i+1)++(cs.toList.take n).drop i++cs.toList.drop (i+1+((cs.toList.take n).drop i).length)).toArray).toList.getD p Go.undef=if p<i+1 then cs.toList.getD p Go.undef else cs.toList.getD (p-1) Go.undef:=by
       intro p hp
       rw [uq10,splice_getD _ _ _ _ (by simp;omega)]
       by_cases h1:p<i+1
       · rw [if_neg (by omega),if_pos h1]
       · rw [if_pos (by omega),if_neg h1]
         rw [←tk (p-1) (by omega)]
         simp only [uq0,uq1]
         congr 2;omega
      generalize (cs.toList.take (i+1)++(cs.toList.take n).drop i++cs.toList.drop (i+1+((cs.toList.take n).drop i).length)).toArray=cs1 at*
      refine ins_put2 hb' hh1 (by omega) hs1 hcs (by omega) hmx (fun p hp=> ?_) (by simp;omega)
      rw [splice_getD _ _ _ _ (by simp;omega)]
      simp only [uq6]
      by_cases h1:p=i
      · rw [if_pos (by omega),if_neg (by omega),if_pos h1,h1,Nat.sub_self];rfl
      · rw [if_neg (by omega),hg1 p hp]
        by_cases h2:p<i
        · rw [if_pos (by omega),if_pos h2]
        · rw [if_neg (by omega),if_neg h2,if_neg h1]
    · refine (insI_grow w b vb c vc i n (cs.toList.take n) x hlt hnc (by omega) hbig hcl hcell hxc h1x h1c).mono ?_
      rintro e' w' ⟨rfl,rfl⟩
      have hge:=grownCap_ge w (n+1) c 2
      have hle:=grownCap_le_maxLen w (n+1) c 2 (by unfold maxLen;omega)
      generalize grownCap w (n+1) c 2=G at*
      refine ⟨_,G,rfl,?_,.inr rfl⟩
      have hdl:((cs.toList.take n).drop i).length=n-i:=by rw [uq5,hcl]
      obtain ⟨R,hR⟩:∃R:Array Value,R=((cs.toList.take n).take i).toArray++Builtin.zeroCells (.int .i64 0:Value).cells (n+1-i)++Builtin.zeroCells (.int .i64 0:Value).cells (G-(n+1)):=⟨_,rfl⟩
      have hRs:R.size=G:=by rw [hR];simp [Builtin.zeroCells,Value.cells];omega
      have hRg:∀p,p<i→R.toList.getD p Go.undef=cs.toList.getD p Go.undef:=by
       intro p hp
       rw [hR,arr_app,List.getD_append_left' (by simp [Builtin.zeroCells,Value.cells];omega),arr_app,List.getD_append_left' (by simp;omega),uq10]
       simp only [uq0,uq3,if_pos hp,if_pos (show p<n by omega)]
      rw [←hR]
      clear hR
      have hw0:((w.alloc (.cells R 2)).drew).heap[w.heap.size]? =some (celO R (2,false)):=new_cel w R 2
      rw [setCells_row (P:=Tryz.prog) hw0 (by simpa using h1x) (by simp;omega)]
      have hs1:=size_splice (cs:=R) (o:=i) (vs:=[x]) (by simp;omega)
      have hh1:=heap_setRow hw0 hs1
      have hg1:∀p,p<i+1→((R.toList.take i++[x]++R.toList.drop (i+[x].length)).toArray).toList.getD p Go.undef=if p<i then cs.toList.getD p Go.undef else x:=by
       intro p hp
       rw [uq10,splice_getD _ _ _ _ (by simp;omega)]
       simp only [uq6]
       by_cases h1:p<i
       · rw [if_neg (by omega),if_pos h1,hRg p h1]
       · rw [if_pos (by omega),if_neg h1,show p-i=0 by omega];rfl
      generalize (R.toList.take i++[x]++R.toList.drop (i+[x].length)).toArray=cs1 at*
      have hh1':(((w.alloc (.cells R 2)).drew.setRow w.heap.size cs1).drew).heap[w.heap.size]? =some (celO cs1 (2,false)):=hh1
      rw [setCells_row (P:=Tryz.prog) hh1' (fun u hu=>h1c u (uq7 hu)) (by omega)]
      refine ins_grown hw0 hh1' (by omega) (hs1.trans hRs) hge hle (fun p hp=> ?_) (by simp;omega)
      rw [splice_getD _ _ _ _ (by simp;omega)]
      by_cases h1:p<i+1
      · rw [if_neg (by omega),hg1 p h1]
        by_cases h2:p<i
        · rw [if_pos h2,if_pos h2]
        · rw [if_neg h2,if_neg h2,if_pos (by omega)]
      · rw [if_pos (by omega),if_neg (by omega),if_neg (by omega)]
        rw [←tk (p-1) (by omega)]
        simp only [uq0,uq1]
        congr 2;omega
 nil_:=by
  intro w ad vb c vc cv ev x hv hx h1x hc
  subst hc
  have hxc:w.cell? ⟨vb,0,none⟩=some x:=by simp [World.cell?,hv,hx]
  refine (insI_endg w ad vb 0 vc 0 [] x (by omega) (by omega) (by omega) rfl (fun _=>rfl) (fun a ha j v hj=>by simp at hj) hxc h1x).mono ?_
  rintro e' w' ⟨rfl,rfl⟩
  have hge:=grownCap_ge w (0+1) 0 2
  have hle:=grownCap_le_maxLen w (0+1) 0 2 (by unfold maxLen;omega)
  generalize grownCap w (0+1) 0 2=G at*
  refine ⟨_,G,rfl,?_,rfl⟩
  refine ins_new (w0:=w.drew) rfl rfl hge hle (by simp [Builtin.zeroCells,Value.cells];omega) (fun p hp=> ?_) ⟨rfl,rfl,rfl⟩
  rw [arr_app,List.getD_append_left' (by simp;omega)]
  have hp0:p=0:=by omega
  subst hp0
  simp
 room_:=by
  intro w b vb c vc cs cv e ev x hb hcs hc hmx hne hv hx h1x
  have hmx':c≤9223372036854775807:=by unfold maxLen at hmx;omega
  have hxc:w.cell? ⟨vb,0,none⟩=some x:=by simp [World.cell?,hv,hx]
  have hsp:(w.cell? ⟨b,0,none⟩).isSome=true:=by rw [celO_cell hb];simp;omega
  have hfz:=celO_free hb (o:=0) (by omega)
  refine (insI_end w b vb c vc 0 x (by omega) hmx' hsp hfz hxc h1x).mono ?_
  rintro e' w' ⟨rfl,rfl⟩
  refine ⟨b,c,rfl,?_,⟨rfl,rfl⟩⟩
  rw [setCells_row (P:=Tryz.prog) hb (by simpa using h1x) (by simp;omega)]
  exact ins_put hb hcs (by omega) hmx (uq12 _) (fun p hp=>by
   have hp0:p=0:=by omega
   subst hp0
   simp) (by simp;omega)
theorem insR_runs:InsRuns Tryz.prog 46 where
 enters:=⟨Tryz.f46,_,Tryz.func46,by decide,rfl⟩
 at_:=by
  intro w b vb c vc i n cs cv e ev x hb hcs hnc hi hbig hmx hne hv hx h1x h1c hn0
  have hmx':c≤9223372036854775807:=by unfold maxLen at hmx;omega
  have hxc:w.cell? ⟨vb,0,none⟩=some x:=by simp [World.cell?,hv,hx]
  have hcl:(cs.toList.take n).length=n:=by simp;omega
  have hcell:∀j v,(cs.toList.take n)[j]? =some v→w.cell? ⟨b,j,none⟩=some v:=by
   intro j v hj
   rw [celO_cell hb]
   rw [uq3] at hj
   split at hj
   · simpa using hj
   · cases hj
  have tk:∀p,p<n→(cs.toList.take n).getD p Go.undef=cs.toList.getD p Go.undef:=by
   intro p hp
   simp only [uq0,uq3,if_pos hp]
  by_cases hin:i=n
  · subst hin
    by_cases hroom:i+1≤c
    · have hsp:(w.cell? ⟨b,i,none⟩).isSome=true:=by rw [celO_cell hb];simp;omega
      have hfz:=celO_free hb (o:=i) (by omega)
      refine (insR_end w b vb c vc i x hroom hmx' hsp hfz hxc h1x).mono ?_
      rintro e' w' ⟨rfl,rfl⟩
      refine ⟨b,c,rfl,?_,.inl ⟨rfl,rfl⟩⟩
      rw [setCells_row (P:=Tryz.prog) hb (by simpa using h1x) (by simp;omega)]
      exact ins_put hb hcs (by omega) hmx (uq12 _) (fun p hp=>by
       rw [splice_getD _ _ _ _ (by simp;omega)]
       simp only [uq6]
       by_cases h1:p<i
       · rw [if_neg (by omega),if_pos h1]
       · rw [if_pos (by omega),if_neg h1,if_pos (by omega),show p-i=0 by omega];rfl) (by simp;omega)
    · refine (insR_endg w (some ⟨b,0,none⟩) vb c vc i (cs.toList.take i) x hnc (by omega) hbig hcl (fun h=>by cases h) (fun a ha j v hj=> ?_) hxc h1x).mono ?_
      · cases ha
        rw [Addr.add_lit,uq13]
        exact hcell j v hj
      · rintro e' w' ⟨rfl,rfl⟩
        have hge:=grownCap_ge w (i+1) c 31
        have hle:=grownCap_le_maxLen w (i+1) c 31 (by unfold maxLen;omega)
        generalize grownCap w (i+1) c 31=G at*
        refine ⟨_,G,rfl,?_,.inr rfl⟩
        refine ins_new (w0:=w.drew) rfl rfl hge hle (by simp [Builtin.zeroCells,Value.cells];omega) (fun p hp=> ?_) ⟨rfl,rfl,rfl⟩
        rw [arr_app,List.getD_append_left' (by simp;omega)]
        rw [uq10,ins_last hcl hp]
        split
        · rename_i h1;exact tk p h1
        · rw [if_pos (by omega)]
  · have hlt:i<n:=by omega
    by_cases hroom:n+1≤c
    · have hsp:∀j,j<n+1→(w.cell? ⟨b,j,none⟩).isSome=true:=fun j hj=>by rw [celO_cell hb];simp;omega
      have hfz:∀j,j<n+1→w.frozen? ⟨b,j,none⟩=false:=fun j hj=>celO_free hb (by omega)
      refine (insR_shift w b vb c vc i n cv.size cs.size ev e.1 (cs.toList.take n) x hlt hroom hmx' hne hcl hcell hsp hfz hxc h1x h1c (by simp [World.shape?,hv]) (by simp [World.shape?,hb]) (by omega) (by simp [World.frozen?,hv]) (by simp [World.frozen?,hv])).mono ?_
      rintro e' w' ⟨rfl,rfl⟩
      refine ⟨b,c,rfl,?_,.inl ⟨rfl,rfl⟩⟩
      have hdl:((cs.toList.take n).drop i).length=n-i:=by rw [uq5,hcl]
      have hb':w.drew.heap[b]? =some (celO cs e):=hb
      rw [setCells_row (P:=Tryz.prog) hb' (fun u hu=>h1c u (uq7 hu)) (by omega)]
      have hs1:=size_splice (cs:=cs) (o:=i+1) (vs:=(cs.toList.take n).drop i) (by omega)
      have hh1:=heap_setRow hb' hs1
      rw [setCells_row (P:=Tryz.prog) hh1 (by simpa using h1x) (by simp;omega)]
      have hg1:∀p,p<n+1→((cs.toList.take (i+1)++(cs.toList.take n).drop i++cs.toList.drop (i+1+((cs.toList.take n).drop i).length)).toArray).toList.getD p Go.undef=if p<i+1 then cs.toList.getD p Go.undef else cs.toList.getD (p-1) Go.undef:=by
       intro p hp
       rw [uq10,splice_getD _ _ _ _ (by simp;omega)]
       by_cases h1:p<i+1
       · rw [if_neg (by omega),if_pos h1]
       · rw [if_pos (by omega),if_neg h1]
         rw [←tk (p-1) (by omega)]
         simp only [uq0,uq1]
         congr 2;omega
      generalize (cs.toList.take (i+1)++(cs.toList.take n).drop i++cs.toList.drop (i+1+((cs.toList.take n).drop i).length)).toArray=cs1 at*
      refine ins_put2 hb' hh1 (by omega) hs1 hcs (by omega) hmx (fun p hp=> ?_) (by simp;omega)
      rw [splice_getD _ _ _ _ (by simp;omega)]
      simp only [uq6]
      by_cases h1:p=i
      · rw [if_pos (by omega),if_neg (by omega),if_pos h1,h1,Nat.sub_self];rfl
      · rw [if_neg (by omega),hg1 p hp]
        by_cases h2:p<i
        · rw [if_pos (by omega),if_pos h2]
        · rw [if_neg (by omega),if_neg h2,if_neg h1]
    · refine (insR_grow w b vb c vc i n (cs.toList.take n) x hlt hnc (by omega) hbig hcl hcell hxc h1x h1c).mono ?_
      rintro e' w' ⟨rfl,rfl⟩
      have hge:=grownCap_ge w (n+1) c 31
      have hle:=grownCap_le_maxLen w (n+1) c 31 (by unfold maxLen;omega)
      generalize grownCap w (n+1) c 31=G at*
      refine ⟨_,G,rfl,?_,.inr rfl⟩
      have hdl:((cs.toList.take n).drop i).length=n-i:=by rw [uq5,hcl]
      obtain ⟨R,hR⟩:∃R:Array Value,R=((cs.toList.take n).take i).toArray++Builtin.zeroCells (.slice none 0 0:Value).cells (n+1-i)++Builtin.zeroCells (.slice none 0 0:Value).cells (G-(n+1)):=⟨_,rfl⟩
      have hRs:R.size=G:=by rw [hR];simp [Builtin.zeroCells,Value.cells];omega
      have hRg:∀p,p<i→R.toList.getD p Go.undef=cs.toList.getD p Go.undef:=by
       intro p hp
       rw [hR,arr_app,List.getD_append_left' (by simp [Builtin.zeroCells,Value.cells];omega),arr_app,List.getD_append_left' (by simp;omega),uq10]
       simp only [uq0,uq3,if_pos hp,if_pos (show p<n by omega)]
      rw [←hR]
      clear hR
      have hw0:((w.alloc (.cells R 31)).drew).heap[w.heap.size]? =some (celO R (31,false)):=new_cel w R 31
      rw [setCells_row (P:=Tryz.prog) hw0 (by simpa using h1x) (by simp;omega)]
      have hs1:=size_splice (cs:=R) (o:=i) (vs:=[x]) (by simp;omega)
      have hh1:=heap_setRow hw0 hs1
      have hg1:∀p,p<i+1→((R.toList.take i++[x]++R.toList.drop (i+[x].length)).toArray).toList.getD p Go.undef=if p<i then cs.toList.getD p Go.undef else x:=by
       intro p hp
       rw [uq10,splice_getD _ _ _ _ (by simp;omega)]
       simp only [uq6]
       by_cases h1:p<i
       · rw [if_neg (by omega),if_pos h1,hRg p h1]
       · rw [if_pos (by omega),if_neg h1,show p-i=0 by omega];rfl
      generalize (R.toList.take i++[x]++R.toList.drop (i+[x].length)).toArray=cs1 at*
      have hh1':(((w.alloc (.cells R 31)).drew.setRow w.heap.size cs1).drew).heap[w.heap.size]? =some (celO cs1 (31,false)):=hh1
      rw [setCells_row (P:=Tryz.prog) hh1' (fun u hu=>h1c u (uq7 hu)) (by omega)]
      refine ins_grown hw0 hh1' (by omega) (hs1.trans hRs) hge hle (fun p hp=> ?_) (by simp;omega)
      rw [splice_getD _ _ _ _ (by simp;omega)]
      by_cases h1:p<i+1
      · rw [if_neg (by omega),hg1 p h1]
        by_cases h2:p<i
        · rw [if_pos h2,if_pos h2]
        · rw [if_neg h2,if_neg h2,if_pos (by omega)]
      · rw [if_pos (by omega),if_neg (by omega),if_neg (by omega)]
        rw [←tk (p-1) (by omega)]
        simp only [uq0,uq1]
        congr 2;omega
 nil_:=by
  intro w ad vb c vc cv ev x hv hx h1x hc
  subst hc
  have hxc:w.cell? ⟨vb,0,none⟩=some x:=by simp [World.cell?,hv,hx]
  refine (insR_endg w ad vb 0 vc 0 [] x (by omega) (by omega) (by omega) rfl (fun _=>rfl) (fun a ha j v hj=>by simp at hj) hxc h1x).mono ?_
  rintro e' w' ⟨rfl,rfl⟩
  have hge:=grownCap_ge w (0+1) 0 31
  have hle:=grownCap_le_maxLen w (0+1) 0 31 (by unfold maxLen;omega)
  generalize grownCap w (0+1) 0 31=G at*
  refine ⟨_,G,rfl,?_,rfl⟩
  refine ins_new (w0:=w.drew) rfl rfl hge hle (by simp [Builtin.zeroCells,Value.cells];omega) (fun p hp=> ?_) ⟨rfl,rfl,rfl⟩
  rw [arr_app,List.getD_append_left' (by simp;omega)]
  have hp0:p=0:=by omega
  subst hp0
  simp
 room_:=by
  intro w b vb c vc cs cv e ev x hb hcs hc hmx hne hv hx h1x
  have hmx':c≤9223372036854775807:=by unfold maxLen at hmx;omega
  have hxc:w.cell? ⟨vb,0,none⟩=some x:=by simp [World.cell?,hv,hx]
  have hsp:(w.cell? ⟨b,0,none⟩).isSome=true:=by rw [celO_cell hb];simp;omega
  have hfz:=celO_free hb (o:=0) (by omega)
  refine (insR_end w b vb c vc 0 x (by omega) hmx' hsp hfz hxc h1x).mono ?_
  rintro e' w' ⟨rfl,rfl⟩
  refine ⟨b,c,rfl,?_,⟨rfl,rfl⟩⟩
  rw [setCells_row (P:=Tryz.prog) hb (by simpa using h1x) (by simp;omega)]
  exact ins_put hb hcs (by omega) hmx (uq12 _) (fun p hp=>by
   have hp0:p=0:=by omega
   subst hp0
   simp) (by simp;omega)
end Go.Vc
namespace Go.Vc
open Go.Proofs
end Go.Vc
namespace Go.Vc
open Go.Proofs
attribute [go_sem] Option.map_none Nat.sub_zero
abbrev eY (b:UInt8):AV:=.val (.int .u8 b.toNat)
abbrev eYs (bs:List UInt8):AV:=.arr ⟨1,false⟩ (bs.map eY)
structure Src where
 seed:Int
 pos:Nat
def SrcOk (s:Src):Prop:=0≤s.seed∧s.seed<2147483647
abbrev srcB (v:Nat) (bs:List UInt8) (s:Src):Blk:=.box v [eYs bs,eI s.pos,eI s.seed]
def nx (bs:List UInt8) (n:Int) (s:Src):Int × Src:=
 if n≤1 then (0,s) else
  if h:s.pos<bs.length then
   ((if n≤256∧((s.pos:Int)+1).tmod 2=0 then (bs[s.pos].toNat:Int) else ((s.seed*48271+29).tmod 2147483647).tdiv 31+(bs[s.pos].toNat:Int)).tmod n,⟨(s.seed*48271+29).tmod 2147483647,s.pos+1⟩)
  else (((s.seed*48271+29).tmod 2147483647).tdiv 31 |>.tmod n,⟨(s.seed*48271+29).tmod 2147483647,s.pos⟩)
theorem tmod_in {x n:Int} (hx:0≤x) (hn:0<n):0≤x.tmod n∧x.tmod n<n:=⟨Int.tmod_nonneg _ hx,Int.tmod_lt_of_pos _ hn⟩
theorem nx_ok (bs:List UInt8) (n:Int) {s:Src} (h:SrcOk s):0≤(nx bs n s).1∧(n≤1→(nx bs n s).1=0)∧(1<n→(nx bs n s).1<n)∧SrcOk (nx bs n s).2:=by
 obtain ⟨h1,h2⟩:=h
 have hs:=tmod_in (x:=s.seed*48271+29) (n:=2147483647) (by omega) (by omega)
 have hx:0≤((s.seed*48271+29).tmod 2147483647).tdiv 31:=Int.tdiv_nonneg hs.1 (by omega)
 unfold nx
 split
 · exact ⟨Int.le_refl _,fun _=>rfl,fun h=>absurd h (by omega),h1,h2⟩
 · split
   · rename_i hn hp
     have hb:0≤(if n≤256∧((s.pos:Int)+1).tmod 2=0 then (bs[s.pos].toNat:Int) else ((s.seed*48271+29).tmod 2147483647).tdiv 31+(bs[s.pos].toNat:Int)):=by split<;>omega
     have:=tmod_in (n:=n) hb (by omega)
     exact ⟨this.1,fun h=>absurd h hn,fun _=>this.2,hs⟩
   · rename_i hn hp
     have:=tmod_in (n:=n) hx (by omega)
     exact ⟨this.1,fun h=>absurd h hn,fun _=>this.2,hs⟩
set_option maxHeartbeats 4000000 in
theorem c_l01Next (v:Nat) (bs:List UInt8) (n:Int) (s:Src) (h:SrcOk s) (hl:bs.length≤4096):
 FnM Tryz.prog 64 [srcB v bs s] [.ptr 1000000000 v 0 0,eI n] (fun x io=>x=eI (nx bs n s).1∧io=[srcB v bs (nx bs n s).2]):=by
 refine FnM.of_vcN 78 [.tmp 4] Tryz.func64 rfl rfl rfl rfl rfl (of_decide_eq_true rfl) ?_
 obtain ⟨h1,h2⟩:=h
 have hs:=tmod_in (x:=s.seed*48271+29) (n:=2147483647) (by omega) (by omega)
 have hx:0≤((s.seed*48271+29).tmod 2147483647).tdiv 31:=Int.tdiv_nonneg hs.1 (by omega)
 have hx2:((s.seed*48271+29).tmod 2147483647).tdiv 31≤2147483647:=by
  have:((s.seed*48271+29).tmod 2147483647).tdiv 31≤(s.seed*48271+29).tmod 2147483647:=Int.tdiv_le_self _ hs.1
  omega
 by_cases hn:n≤1
 · have hF:nx bs n s=(0,s):=by rw [nx,if_pos hn]
   rw [hF]
   have hn':=decide_eq_true hn
   simp -dsimp -implicitDefEqProofs only [go_sem,hn']
   all_goals (first|omega|(refine ⟨?_,?_⟩<;>omega)|(simp;done)|(simp;omega)|(refine ⟨?_,?_⟩<;>omega)|(exact rfl)|(simp;done)|(simp_all;done)|(simp_all;omega)|(exfalso;simp_all [bne];done)|skip)
 have hn':=decide_eq_false hn
 by_cases hp:s.pos<bs.length
 · have hF:nx bs n s=((if n≤256∧((s.pos:Int)+1).tmod 2=0 then (bs[s.pos].toNat:Int) else ((s.seed*48271+29).tmod 2147483647).tdiv 31+(bs[s.pos].toNat:Int)).tmod n,⟨(s.seed*48271+29).tmod 2147483647,s.pos+1⟩):=by
    rw [nx,if_neg hn,dif_pos hp]
   have hb:(bs[s.pos].toNat:Int)≤255:=by have:=bs[s.pos].toNat_lt;omega
   have gp:=get_some hp
   have lp:=lt_len hp
   have ep:((s.pos:Int)+1-1).toNat=s.pos:=by omega
   rw [hF]
   clear hF
   generalize hz:bs[s.pos]=z at gp hb
   by_cases hc:n≤256∧((s.pos:Int)+1).tmod 2=0
   · rw [if_pos hc]
     have c1:=decide_eq_true hc.1
     have c2:(((s.pos:Int)+1).tmod 2==0)=true:=beq_iff_eq.2 hc.2
     clear hc
     simp -dsimp -implicitDefEqProofs only [go_sem,hn']
     repeat' first
      |(refine Br.intro (fun _=> ?_) (fun _=> ?_)<;>try simp -dsimp -implicitDefEqProofs only [go_sem, *])
      |(with_reducible refine ai ?_ ?_)
      |(refine Later.draw mixed rfl ?_;try simp -dsimp -implicitDefEqProofs only [go_sem,lp,gp,ep])
     all_goals (first|omega|(refine ⟨?_,?_⟩<;>omega)|(simp;done)|(simp;omega)|(refine ⟨?_,?_⟩<;>omega)|(exact rfl)|(simp;done)|(simp_all;done)|(simp_all;omega)|(exfalso;simp_all [bne];done)|skip)
   · rw [if_neg hc]
     have c3:(decide (n≤256)&&(((s.pos:Int)+1).tmod 2==0))=false:=by
      rw [Bool.eq_false_iff];intro h;apply hc;simpa using h
     clear hc
     simp -dsimp -implicitDefEqProofs only [go_sem,hn']
     repeat' first
      |(refine Br.intro (fun _=> ?_) (fun _=> ?_)<;>try simp -dsimp -implicitDefEqProofs only [go_sem, *])
      |(with_reducible refine ai ?_ ?_)
      |(refine Later.draw mixed rfl ?_;try simp -dsimp -implicitDefEqProofs only [go_sem,lp,gp,ep])
     all_goals (first|omega|(refine ⟨?_,?_⟩<;>omega)|(simp;done)|(simp;omega)|(refine ⟨?_,?_⟩<;>omega)|(exact rfl)|(simp;done)|(simp_all;done)|(simp_all;omega)|(exfalso;simp_all [bne];done)|skip)
 · have hF:nx bs n s=(((s.seed*48271+29).tmod 2147483647).tdiv 31 |>.tmod n,⟨(s.seed*48271+29).tmod 2147483647,s.pos⟩):=by
    rw [nx,if_neg hn,dif_neg hp]
   have lp:decide ((s.pos:Int)<(bs.length:Int))=false:=decide_eq_false (by omega)
   rw [hF]
   clear hF
   simp -dsimp -implicitDefEqProofs only [go_sem,hn']
   repeat' first
    |(refine Br.intro (fun _=> ?_) (fun _=> ?_)<;>try simp -dsimp -implicitDefEqProofs only [go_sem, *])
    |(with_reducible refine ai ?_ ?_)
    |(refine Later.draw mixed rfl ?_;try simp -dsimp -implicitDefEqProofs only [go_sem,lp])
   all_goals (first|omega|(refine ⟨?_,?_⟩<;>omega)|(simp;done)|(simp;omega)|(refine ⟨?_,?_⟩<;>omega)|(exact rfl)|(simp;done)|(simp_all;done)|(simp_all;omega)|(exfalso;simp_all [bne];done)|skip)
attribute [irreducible] nx
end Go.Vc
namespace Go.Vc
open Go.Proofs
theorem dec_Code:Dec Tryz.prog 49 (fun xs:List UInt8=>xs.length≤maxLen∧∀a∈xs,True) (fun xs=>[eYs xs]):=
 Dec.slice false 1 Tryz.underlying49 (by kernel_rfl) (by decide) (fun _=>rfl) (fun _=>rfl) (Dec.u8 Tryz.underlying5)
end Go.Vc
namespace Go.Vc
open Go.Proofs
def pk (bs:List UInt8) (xs:List Int) (s:Src):Int × Src:=(xs.getD (nx bs xs.length s).1.toNat 0,(nx bs xs.length s).2)
theorem pk_ok (bs:List UInt8) (xs:List Int) {s:Src} (h:SrcOk s):SrcOk (pk bs xs s).2:=(nx_ok bs xs.length h).2.2.2
theorem pk_mem (bs:List UInt8) {xs:List Int} {s:Src} (h:SrcOk s) (h0:xs≠[]):(pk bs xs s).1∈xs:=by
 obtain ⟨h1,h2,h3,_⟩:=nx_ok bs xs.length h
 have hl:0<xs.length:=List.length_pos_iff.2 h0
 have:(nx bs xs.length s).1.toNat<xs.length:=by
  by_cases h:(xs.length:Int)≤1
  · rw [h2 h];exact hl
  · have:=h3 (by omega);omega
 show xs.getD _ 0∈xs
 rw [uq0,uq2 this]
 exact uq4 this
theorem c_l01Pick (v v2:Nat) (d:Bool) (bs:List UInt8) (xs:List Int) (ys:List AV) (s:Src) (hy:ys=xs.map eI) (h0:0<xs.length) (hx:xs.length≤1000) (h:SrcOk s) (hl:bs.length≤4096):
 FnM Tryz.prog 80 [srcB v bs s,.row v2 ⟨1,false⟩ d ys] [.ptr 1000000000 v 0 0,.ref 1000000001 v2 0 xs.length] (fun x io=>x=eI (pk bs xs s).1∧io=[srcB v bs (pk bs xs s).2,.row v2 ⟨1,false⟩ d ys]):=by
 subst hy
 refine FnM.of_vcN 12 [.tmp 4] Tryz.func80 rfl rfl rfl rfl rfl (of_decide_eq_true rfl) ?_
 obtain ⟨h1,h2,h3,h4⟩:=nx_ok bs xs.length h
 have hc:=fun v=>c_l01Next v bs xs.length s h hl
 have hi:(nx bs xs.length s).1.toNat<xs.length:=by
  by_cases h:(xs.length:Int)≤1
  · rw [h2 h];exact h0
  · have:=h3 (by omega);omega
 have gi:=get_some hi
 have hp:(pk bs xs s).1=xs[(nx bs xs.length s).1.toNat]:=by rw [pk];simp [uq0,hi]
 have hp2:(pk bs xs s).2=(nx bs xs.length s).2:=rfl
 rw [hp,hp2]
 clear hp hp2
 simp -dsimp -implicitDefEqProofs only [go_sem]
 repeat' first
  |(with_reducible refine ai ?_ ?_)
  |(refine sCallT_io [1000000000] ?_;simp -dsimp -implicitDefEqProofs only [go_sem];refine sCallM_one (hc _) ?_;simp -dsimp -implicitDefEqProofs only [go_sem,gi])
 all_goals first
  |omega
  |(refine ⟨?_,?_⟩<;>omega)
  |(refine ⟨?_,?_⟩<;>first|omega|rfl)
  |rfl
  |(simp;done)
  |skip
end Go.Vc
namespace Go.Vc
open Go.Proofs
structure BS where
 ps:List Int
 ds:List Bool
 gs:List Int
 src:Src
def lastB (n:Int) (i:Nat):Bool:=(i:Int)==n-1
def doorB (bs:List UInt8) (n:Int) (i:Nat) (s:Src):Bool:=lastB n i||decide ((nx bs 3 s).1>0)
def bldStep (bs:List UInt8) (n:Int) (i:Nat) (z:BS):BS:=
 ⟨z.ps++[z.gs.getD (nx bs z.gs.length z.src).1.toNat 0],z.ds++[doorB bs n i (nx bs z.gs.length z.src).2],if doorB bs n i (nx bs z.gs.length z.src).2=true then z.gs else z.gs++[(i:Int)],
   if lastB n i=true then (nx bs z.gs.length z.src).2 else (nx bs 3 (nx bs z.gs.length z.src).2).2⟩
def bldTo (bs:List UInt8) (n:Int) (s:Src):Nat→BS
 |0=>⟨[-1],[false],[0],s⟩
 |j+1=>bldStep bs n (j+1) (bldTo bs n s j)
theorem bldTo_zero (bs:List UInt8) (n:Int) (s:Src):bldTo bs n s 0=⟨[-1],[false],[0],s⟩:=rfl
theorem bldTo_succ (bs:List UInt8) (n:Int) (s:Src) (j:Nat):bldTo bs n s (j+1)=bldStep bs n (j+1) (bldTo bs n s j):=rfl
def okP (ps:List Int):Prop:=∀i,i<ps.length→ -1≤ps.getD i 0∧ps.getD i 0<i∧(0<i→0≤ps.getD i 0)
structure bldOk (z:BS) (j:Nat):Prop where
 src:SrcOk z.src
 lp:z.ps.length=j+1
 ld:z.ds.length=j+1
 lg:1≤z.gs.length∧z.gs.length≤j+1
 gs:∀g∈z.gs,0≤g∧g≤j
 ps:okP z.ps
theorem getD_app {xs:List Int} {x:Int} {i:Nat}:(xs++[x]).getD i 0=if i<xs.length then xs.getD i 0 else if i=xs.length then x else 0:=by
 rw [uq0,List.getElem?_append]
 split
 · rw [uq0]
 · split
   · rename_i h;subst h;simp
   · rename_i h1 h2
     rw [List.getElem?_eq_none (by simp;omega)];rfl
theorem nx_lt (bs:List UInt8) {n:Nat} (hn:1≤n) {s:Src} (h:SrcOk s):(nx bs n s).1.toNat<n∧0≤(nx bs n s).1:=by
 obtain ⟨h1,h2,h3,_⟩:=nx_ok bs n h
 by_cases h4:(n:Int)≤1
 · rw [h2 h4];exact ⟨by simp;omega,by simp⟩
 · have:=h3 (by omega);omega
theorem bldStep_ok {bs:List UInt8} {n:Int} {j:Nat} {z:BS} (h:bldOk z j):bldOk (bldStep bs n (j+1) z) (j+1):=by
 obtain ⟨h1,h2,h3,h4,h5,h6⟩:=h
 have a:=nx_ok bs z.gs.length h1
 have a2:=nx_lt bs h4.1 h1
 have b:=nx_ok bs 3 a.2.2.2
 have hg:=h5 _ (uq4 a2.1)
 have e:z.gs.getD (nx bs z.gs.length z.src).1.toNat 0=z.gs[(nx bs z.gs.length z.src).1.toNat]'a2.1:=by simp [uq0,a2.1]
 refine ⟨?_,by simp [bldStep,h2],by simp [bldStep,h3],?_,?_,?_⟩
 · show SrcOk (if _ then _ else _)
   split
   · exact a.2.2.2
   · exact b.2.2.2
 · have hgs:(bldStep bs n (j+1) z).gs=if doorB bs n (j+1) (nx bs z.gs.length z.src).2=true then z.gs else z.gs++[((j+1:Nat):Int)]:=rfl
   rw [hgs]
   split
   · exact ⟨h4.1,by omega⟩
   · rw [List.length_append,uq6];omega
 · intro g hgm
   change g∈(if _ then _ else _:List Int) at hgm
   split at hgm
   · have:=h5 g hgm;omega
   · rcases List.mem_append.1 hgm with h|h
     · have:=h5 g h;omega
     · simp at h;omega
 · intro i hi
   change i<(z.ps++[_]).length at hi
   have hps:(bldStep bs n (j+1) z).ps=z.ps++[z.gs.getD (nx bs z.gs.length z.src).1.toNat 0]:=rfl
   rw [hps,getD_app,e]
   split
   · exact h6 i (by assumption)
   · rw [if_pos (by simp at hi;omega)]
     have:i=j+1:=by simp at hi;omega
     omega
theorem bldTo_ok {bs:List UInt8} {n:Int} {s:Src} (h:SrcOk s):∀j,bldOk (bldTo bs n s j) j
 |0=>⟨h,rfl,rfl,by simp [bldTo_zero],fun g hg=>by simp [bldTo_zero] at hg;omega,fun i hi=>by
   have:i=0:=by simpa [bldTo_zero] using hi
   subst this
   simp [bldTo_zero]⟩
 |j+1=>bldStep_ok (bldTo_ok h j)
def bldN (bs:List UInt8) (s:Src):Int:=2+(nx bs 9 s).1
def bldD (bs:List UInt8) (s:Src):BS:=bldTo bs (bldN bs s) (nx bs 9 s).2 (bldN bs s-1).toNat
theorem bldN_in (bs:List UInt8) {s:Src} (h:SrcOk s):2≤bldN bs s∧bldN bs s≤10:=by
 have:=nx_ok bs 9 h
 have h3:=this.2.2.1 (by omega)
 unfold bldN;omega
theorem bldD_ok (bs:List UInt8) {s:Src} (h:SrcOk s):bldOk (bldD bs s) (bldN bs s-1).toNat∧(bldD bs s).ds.getD (bldN bs s-1).toNat false=true:=by
 have hn:=bldN_in bs h
 refine ⟨bldTo_ok (nx_ok bs 9 h).2.2.2 _,?_⟩
 unfold bldD
 obtain ⟨j,hj⟩:∃j,(bldN bs s-1).toNat=j+1:=⟨(bldN bs s-2).toNat,by omega⟩
 rw [hj,bldTo_succ]
 have hl:=(bldTo_ok (bs:=bs) (n:=bldN bs s) (nx_ok bs 9 h).2.2.2 j).ld
 show (_++[_]).getD (j+1) false=true
 rw [uq0,List.getElem?_append_right (by omega),hl]
 have:lastB (bldN bs s) (j+1)=true:=by unfold lastB;rw [beq_iff_eq];omega
 simp [doorB,this]
def undF (ps:List Int):Nat→Int→Int→Bool
 |0,_,_=>false
 |k+1,node,other=>if node<0 then false else if (node==other)=true then true else undF ps k (ps.getD node.toNat 0) other
theorem undF_root {ps:List Int} (h:okP ps):∀(k:Nat) (node:Int),0≤node→node<k→node<ps.length→undF ps k node 0=true
 |0,node,h0,h1,_=>by omega
 |k+1,node,h0,h1,h2=>by
  simp only [undF]
  rw [if_neg (by omega)]
  by_cases e:node=0
  · subst e;rfl
  · rw [if_neg (by simpa using e)]
    have hi:=h node.toNat (by omega)
    exact undF_root h k _ (hi.2.2 (by omega)) (by omega) (by omega)
def doorsU (ps:List Int) (ds:List Bool) (node:Int):List Int:=flt (fun i=>ds.getD i false&&undF ps ps.length (i:Int) node) ds.length
def mayE (ps:List Int) (nodes:List Int) (door:Int):Bool:=nodes.any fun x=>undF ps ps.length door x
def nodesTo (bs:List UInt8) (s:Src):Nat→List Int × Src
 |0=>([],s)
 |i+1=>(if ((nx bs 4 (nodesTo bs s i).2).1==0)=true then (nodesTo bs s i).1++[(i:Int)] else (nodesTo bs s i).1,(nx bs 4 (nodesTo bs s i).2).2)
theorem nodesTo_succ (bs:List UInt8) (s:Src) (i:Nat):nodesTo bs s (i+1)=(if ((nx bs 4 (nodesTo bs s i).2).1==0)=true then (nodesTo bs s i).1++[(i:Int)] else (nodesTo bs s i).1,(nx bs 4 (nodesTo bs s i).2).2):=rfl
theorem nodesTo_ok {bs:List UInt8} {s:Src} (h:SrcOk s):∀i,SrcOk (nodesTo bs s i).2∧(nodesTo bs s i).1.length≤i
 |0=>⟨h,uq12 _⟩
 |i+1=>by
  obtain ⟨h1,h2⟩:=nodesTo_ok h i (bs:=bs)
  rw [nodesTo_succ]
  refine ⟨(nx_ok bs 4 h1).2.2.2,?_⟩
  simp only
  split
  · simp;omega
  · omega
def nodesD (bs:List UInt8) (n:Nat) (s:Src):List Int × Src:=
 if ((((nodesTo bs s n).1.length:Int)==0)=true) then ([(nx bs n (nodesTo bs s n).2).1],(nx bs n (nodesTo bs s n).2).2) else nodesTo bs s n
theorem nodesD_ok {bs:List UInt8} {s:Src} (h:SrcOk s) (n:Nat):SrcOk (nodesD bs n s).2∧(nodesD bs n s).1.length≤n+1:=by
 obtain ⟨h1,h2⟩:=nodesTo_ok h n (bs:=bs)
 unfold nodesD
 split
 · exact ⟨(nx_ok bs n h1).2.2.2,by simp⟩
 · exact ⟨h1,by omega⟩
def rightsTo (bs:List UInt8) (n:Nat) (s:Src):Nat→List (List Int) × Src
 |0=>([],s)
 |i+1=>((rightsTo bs n s i).1++[(nodesD bs n (rightsTo bs n s i).2).1],(nodesD bs n (rightsTo bs n s i).2).2)
theorem rightsTo_succ (bs:List UInt8) (n:Nat) (s:Src) (i:Nat):rightsTo bs n s (i+1)=((rightsTo bs n s i).1++[(nodesD bs n (rightsTo bs n s i).2).1],(nodesD bs n (rightsTo bs n s i).2).2):=rfl
theorem rightsTo_ok {bs:List UInt8} {s:Src} (h:SrcOk s) (n:Nat):∀i,SrcOk (rightsTo bs n s i).2∧(rightsTo bs n s i).1.length=i∧∀x∈(rightsTo bs n s i).1,x.length≤n+1
 |0=>⟨h,rfl,fun x hx=>by cases hx⟩
 |i+1=>by
  obtain ⟨h1,h2,h3⟩:=rightsTo_ok h n i (bs:=bs)
  obtain ⟨g1,g2⟩:=nodesD_ok h1 n (bs:=bs)
  rw [rightsTo_succ]
  refine ⟨g1,by simp [h2],fun x hx=> ?_⟩
  rcases List.mem_append.1 hx with hx|hx
  · exact h3 x hx
  · simp at hx;subst hx;exact g2
structure PlanM where
 ps:List Int
 ds:List Bool
 rights:List (List Int)
def planD (bs:List UInt8) (s:Src):PlanM × Src:=
 (⟨(bldD bs s).ps,(bldD bs s).ds,(rightsTo bs (bldD bs s).ps.length (nx bs 4 (bldD bs s).src).2 (1+(nx bs 4 (bldD bs s).src).1).toNat).1⟩,(rightsTo bs (bldD bs s).ps.length (nx bs 4 (bldD bs s).src).2 (1+(nx bs 4 (bldD bs s).src).1).toNat).2)
structure planOk (p:PlanM):Prop where
 lp:p.ps.length≤10
 ld:p.ds.length=p.ps.length
 lr:1≤p.rights.length∧p.rights.length≤4
 rs:∀x∈p.rights,x.length≤11
 ps:okP p.ps
 some:1≤(doorsU p.ps p.ds 0).length
theorem planD_ok (bs:List UInt8) {s:Src} (h:SrcOk s):SrcOk (planD bs s).2∧planOk (planD bs s).1:=by
 have hn:=bldN_in bs h
 obtain ⟨⟨b1,b2,b3,b4,b5,b6⟩,b7⟩:=bldD_ok bs h
 have a:=nx_ok bs 4 b1
 have a3:=a.2.2.1 (by omega)
 obtain ⟨r1,r2,r3⟩:=rightsTo_ok a.2.2.2 (bldD bs s).ps.length (1+(nx bs 4 (bldD bs s).src).1).toNat (bs:=bs)
 refine ⟨r1,by show (bldD bs s).ps.length≤10;omega,by show (bldD bs s).ds.length=(bldD bs s).ps.length;omega,?_,fun x hx=> ?_,b6,?_⟩
 · show 1≤(rightsTo _ _ _ _).1.length∧(rightsTo _ _ _ _).1.length≤4
   rw [r2];omega
 · have:=r3 x hx;omega
 · show 1≤(doorsU (bldD bs s).ps (bldD bs s).ds 0).length
   have hlt:(bldN bs s-1).toNat<(bldD bs s).ds.length:=by omega
   have hu:=undF_root b6 (bldD bs s).ps.length ((bldN bs s-1).toNat:Int) (by omega) (by omega) (by omega)
   have hp:((bldD bs s).ds.getD (bldN bs s-1).toNat false&&undF (bldD bs s).ps (bldD bs s).ps.length ((bldN bs s-1).toNat:Int) 0)=true:=by rw [b7,hu];rfl
   unfold doorsU
   generalize (bldD bs s).ps=ps at*
   generalize (bldD bs s).ds=ds at*
   generalize (bldN bs s-1).toNat=i at*
   have key:∀n,i<n→1≤(flt (fun i=>ds.getD i false&&undF ps ps.length (i:Int) 0) n).length:=by
    intro n
    induction n with
    |zero=>intro h;omega
    |succ n ih=>
     intro h
     rw [flt_succ]
     by_cases e:i=n
     · subst e;rw [if_pos hp];simp
     · have:=ih (by omega)
       split
       · simp
       · exact this
   exact key _ hlt
def accRow (p:PlanM) (nodes:List Int):List Int:=(doorsU p.ps p.ds 0).map fun d=>if mayE p.ps nodes d=true then 1 else 0
def accT (p:PlanM):List (List Int):=p.rights.map (accRow p)
def trowTo (bs:List UInt8) (s:Src):Nat→List Int × Src
 |0=>([],s)
 |k+1=>((trowTo bs s k).1++[(pk bs [0,1,1] (trowTo bs s k).2).1],(pk bs [0,1,1] (trowTo bs s k).2).2)
theorem trowTo_succ (bs:List UInt8) (s:Src) (k:Nat):trowTo bs s (k+1)=((trowTo bs s k).1++[(pk bs [0,1,1] (trowTo bs s k).2).1],(pk bs [0,1,1] (trowTo bs s k).2).2):=rfl
theorem trowTo_ok {bs:List UInt8} {s:Src} (h:SrcOk s):∀k,SrcOk (trowTo bs s k).2∧(trowTo bs s k).1.length=k
 |0=>⟨h,rfl⟩
 |k+1=>by
  obtain ⟨h1,h2⟩:=trowTo_ok h k (bs:=bs)
  rw [trowTo_succ]
  exact ⟨pk_ok bs _ h1,by simp [h2]⟩
def ttabTo (bs:List UInt8) (c:Nat) (s:Src):Nat→List (List Int) × Src
 |0=>([],s)
 |i+1=>((ttabTo bs c s i).1++[(trowTo bs (ttabTo bs c s i).2 c).1],(trowTo bs (ttabTo bs c s i).2 c).2)
theorem ttabTo_succ (bs:List UInt8) (c:Nat) (s:Src) (i:Nat):ttabTo bs c s (i+1)=((ttabTo bs c s i).1++[(trowTo bs (ttabTo bs c s i).2 c).1],(trowTo bs (ttabTo bs c s i).2 c).2):=rfl
theorem ttabTo_ok {bs:List UInt8} {s:Src} (h:SrcOk s) (c:Nat):∀i,SrcOk (ttabTo bs c s i).2∧(ttabTo bs c s i).1.length=i∧∀x∈(ttabTo bs c s i).1,x.length=c
 |0=>⟨h,rfl,fun x hx=>by cases hx⟩
 |i+1=>by
  obtain ⟨h1,h2,h3⟩:=ttabTo_ok h c i (bs:=bs)
  obtain ⟨g1,g2⟩:=trowTo_ok h1 c (bs:=bs)
  rw [ttabTo_succ]
  refine ⟨g1,by simp [h2],fun x hx=> ?_⟩
  rcases List.mem_append.1 hx with hx|hx
  · exact h3 x hx
  · simp at hx;subst hx;exact g2
def tabV (bs:List UInt8) (s:Src):List (List Int) × Src:=
 if ((nx bs 3 s).1==0)=true then (accT (planD bs (nx bs 3 s).2).1,(planD bs (nx bs 3 s).2).2)
 else ttabTo bs (1+(nx bs 5 (nx bs 4 (nx bs 3 s).2).2).1).toNat (nx bs 5 (nx bs 4 (nx bs 3 s).2).2).2 (1+(nx bs 4 (nx bs 3 s).2).1).toNat
theorem flt_len' (p:Nat→Bool) (n:Nat):(flt p n).length≤n:=flt_len p n
theorem tabV_ok (bs:List UInt8) {s:Src} (h:SrcOk s):SrcOk (tabV bs s).2∧1≤(tabV bs s).1.length∧(tabV bs s).1.length≤4∧∀x∈(tabV bs s).1,1≤x.length∧x.length≤10:=by
 have a:=(nx_ok bs 3 h).2.2.2
 unfold tabV
 split
 · obtain ⟨p1,p2,p3,p4,p5,p6,p7⟩:=planD_ok bs a
   have hlen:=p4
   refine ⟨p1,by simpa [accT] using p4.1,by simpa [accT] using p4.2,fun x hx=> ?_⟩
   simp only [accT,List.mem_map] at hx
   obtain ⟨y,_,rfl⟩:=hx
   have hl:=flt_len' (fun i=>(planD bs (nx bs 3 s).2).1.ds.getD i false&&undF (planD bs (nx bs 3 s).2).1.ps (planD bs (nx bs 3 s).2).1.ps.length (i:Int) 0) (planD bs (nx bs 3 s).2).1.ds.length
   simp only [accRow,List.length_map]
   unfold doorsU at p7 ⊢
   omega
 · have b:=nx_ok bs 4 a
   have b3:=b.2.2.1 (by omega)
   have c:=nx_ok bs 5 b.2.2.2
   have c3:=c.2.2.1 (by omega)
   obtain ⟨t1,t2,t3⟩:=ttabTo_ok c.2.2.2 (1+(nx bs 5 (nx bs 4 (nx bs 3 s).2).2).1).toNat (1+(nx bs 4 (nx bs 3 s).2).1).toNat (bs:=bs)
   refine ⟨t1,by omega,by omega,fun x hx=> ?_⟩
   have:=t3 x hx
   omega
def padF (bs:List UInt8):Nat→List (List Int)→Src→List (List Int) × Src
 |0,t,s=>(t,s)
 |k+1,t,s=>if decide ((t.length:Int)<10+(nx bs 2 s).1)=true then padF bs k (t++[t.getD 0 []]) (nx bs 2 s).2 else (t,(nx bs 2 s).2)
theorem padF_ok {bs:List UInt8}:∀(k:Nat) (t:List (List Int)) (s:Src),SrcOk s→1≤t.length→t.length≤11→(∀x∈t,x.length≤10)→SrcOk (padF bs k t s).2∧(padF bs k t s).1.length≤11∧∀x∈(padF bs k t s).1,x.length≤13
 |0,t,s,h,_,h2,h3=>⟨h,h2,fun x hx=>by have:=h3 x hx;omega⟩
 |k+1,t,s,h,h1,h2,h3=>by
  have a:=nx_ok bs 2 h
  have a3:=a.2.2.1 (by omega)
  simp only [padF]
  split
  · rename_i hlt
    have hlt:=of_decide_eq_true hlt
    refine padF_ok k _ _ a.2.2.2 (by simp) (by simp;omega) fun x hx=> ?_
    rcases List.mem_append.1 hx with hx|hx
    · exact h3 x hx
    · simp at hx;subst hx
      rw [uq2 (by omega)]
      exact h3 _ (uq4 _)
  · exact ⟨a.2.2.2,h2,fun x hx=>by have:=h3 x hx;omega⟩
def tabW (bs:List UInt8) (t:List (List Int)) (s:Src):List (List Int) × Src:=
 if ((nx bs 30 s).1==0)=true then (t.set 0 ((t.getD 0 []).set 0 (pk bs [-1,2] (nx bs 30 s).2).1),(pk bs [-1,2] (nx bs 30 s).2).2)
 else if ((nx bs 30 s).1==1)=true then (t++[[1]],(nx bs 30 s).2)
 else if ((nx bs 30 s).1==2)=true then padF bs (12-t.length) t (nx bs 30 s).2
 else if ((nx bs 30 s).1==3)=true then ([List.replicate (12+(nx bs 2 (nx bs 30 s).2).1).toNat 0],(nx bs 2 (nx bs 30 s).2).2)
 else if ((nx bs 30 s).1==4)=true then ([],(nx bs 30 s).2)
 else (t,(nx bs 30 s).2)
def tabD (bs:List UInt8) (s:Src):List (List Int) × Src:=tabW bs (tabV bs s).1 (tabV bs s).2
theorem tabD_ok (bs:List UInt8) {s:Src} (h:SrcOk s):SrcOk (tabD bs s).2∧(tabD bs s).1.length≤11∧∀x∈(tabD bs s).1,x.length≤13:=by
 obtain ⟨h1,h2,h3,h4⟩:=tabV_ok bs h
 unfold tabD
 generalize (tabV bs s).1=t at*
 generalize (tabV bs s).2=s1 at*
 have a:=nx_ok bs 30 h1
 have ht:∀x∈t,x.length≤13:=fun x hx=>by have:=h4 x hx;omega
 unfold tabW
 split
 · refine ⟨pk_ok bs _ a.2.2.2,by simp;omega,fun x hx=> ?_⟩
   rcases List.mem_or_eq_of_mem_set hx with hx|rfl
   · exact ht x hx
   · rw [List.length_set,uq0,uq2 (by omega)]
     exact ht _ (uq4 _)
 split
 · refine ⟨a.2.2.2,by simp;omega,fun x hx=> ?_⟩
   rcases List.mem_append.1 hx with hx|hx
   · exact ht x hx
   · simp at hx;subst hx;simp
 split
 · exact padF_ok _ t _ a.2.2.2 h2 (by omega) fun x hx=>(h4 x hx).2
 split
 · have b:=nx_ok bs 2 a.2.2.2
   have b3:=b.2.2.1 (by omega)
   refine ⟨b.2.2.2,by simp,fun x hx=> ?_⟩
   simp at hx;subst hx;simp;omega
 split
 · exact ⟨a.2.2.2,by simp,fun x hx=>by cases hx⟩
 · exact ⟨a.2.2.2,by show t.length≤11;omega,ht⟩
end Go.Vc
namespace Go.Vc
open Go.Proofs
theorem c_big (bs:List UInt8) (h:bs.length≤9223372036854775807):Fn Tryz.prog 23 [eYs bs] true (· =eB (decide ((bs.length:Int)>4096))):=by
 refine Fn.of_vcN 6 [.tmp 2] Tryz.func23 rfl rfl rfl rfl rfl (of_decide_eq_true rfl) ?_
 simp -dsimp -implicitDefEqProofs only [go_sem]
 repeat' (with_reducible refine ai ?_ ?_)
 all_goals first|omega|(simp;done)
theorem c_likeInts (xs ys:List Int) (h:xs.length≤9223372036854775807):Fn Tryz.prog 32 [eIs xs,eIs ys] true (· =eB (decide (xs=ys))):=by
 refine Fn.of_vcN 26 [.tmp 4] Tryz.func32 rfl rfl rfl rfl rfl (of_decide_eq_true rfl) ?_
 simp -dsimp -implicitDefEqProofs only [go_sem]
 repeat' (refine Br.intro (fun _=> ?_) (fun _=> ?_)<;>try simp -dsimp -implicitDefEqProofs only [go_sem, *])
 · rw [decide_eq_false];intro e;subst e;simp_all
 have h1:xs.length=ys.length:=by simp_all<;>omega
 refine Later.up [0,1] [13] [] xs.length (fun i=>xs.take i=ys.take i) (fun i=>[(5,eI i)]) (fun _=>[]) rfl ?_ rfl (fun i hi hI=> ?_) (fun hI=> ?_)
 · simp -dsimp -implicitDefEqProofs only [go_sem]
 · simp -dsimp -implicitDefEqProofs only [pz,Nat.reduceBEq,Nat.reduceDiv,Nat.reduceAdd,↓reduceIte,Nat.reduceEqDiff]
   have hy:i<ys.length:=by omega
   have no:xs[i]≠ys[i]→decide (xs=ys)=false:=eq_no hi hy
   have yes:xs[i]=ys[i]→xs.take (i+1)=ys.take (i+1):=eq_yes hi hy hI
   simp -dsimp -implicitDefEqProofs only [go_sem,lt_len hi,get_some hi]
   refine Later.draw mixed rfl ?_
   simp -dsimp -implicitDefEqProofs only [go_sem,get_some hi,get_some hy]
   repeat' first
    |(refine Br.intro (fun _=> ?_) (fun _=> ?_)<;>try simp -dsimp -implicitDefEqProofs only [go_sem, *])
    |(with_reducible refine ai ?_ ?_)
    |fail
   all_goals first
    |omega
    |(refine ⟨?_,?_⟩<;>omega)
    |rfl
    |(simp;done)
    |(rw [no];clear no yes;simp_all;done)
    |(refine yes ?_;clear no yes;simp_all;done)
 · simp -dsimp -implicitDefEqProofs only [pz,Nat.reduceBEq,Nat.reduceDiv,Nat.reduceAdd,↓reduceIte,Nat.reduceEqDiff]
   simp -dsimp -implicitDefEqProofs only [go_sem,nlt_len]
   have h3:xs=ys:=by rw [←uq8 (l:=xs),hI,h1,uq8]
   simp [h3]
def seedAt (bs:List UInt8):Nat→Int
 |0=>30011
 |i+1=>(seedAt bs i*67+((bs.getD i 0).toNat:Int)).tmod 2147483647
theorem seedAt_ok (bs:List UInt8):∀i,0≤seedAt bs i∧seedAt bs i<2147483647
 |0=>by simp [seedAt]
 |i+1=>by
  have h:=seedAt_ok bs i
  exact tmod_in (by have:=(bs.getD i 0).toNat_lt;omega) (by omega)
def src0 (bs:List UInt8):Src:=⟨seedAt bs (min bs.length 64),0⟩
theorem src0_ok (bs:List UInt8):SrcOk (src0 bs):=seedAt_ok bs _
theorem seedAt_succ {bs:List UInt8} {i:Nat} (h:i<bs.length):seedAt bs (i+1)=(seedAt bs i*67+((bs[i]).toNat:Int)).tmod 2147483647:=by
 rw [seedAt,uq0,uq2 h];rfl
end Go.Vc
namespace Go.Vc
open Go.Proofs
abbrev eBs (xs:List Bool):AV:=.arr ⟨1,false⟩ (xs.map eB)
abbrev eBd (ps:List Int) (ds:List Bool):AV:=.agg [eIs ps,eBs ds]
abbrev ePl (p:PlanM):AV:=.agg [eIs p.ps,eBs p.ds,eIss p.rights]
theorem tk {α β:Type} (f:α→β) (l:List α) (n:Nat) (h:l.length≤n):(l.map f).take n=l.map f:=List.take_of_length_le (by simpa using h)
theorem mapS {α β:Type} (f:α→β) (l:List α) (x:α):(l++[x]).map f=l.map f++[f x]:=by simp
theorem c_l09Valid (v:Nat) (bs:List UInt8) (s:Src) (h:SrcOk s) (hl:bs.length≤4096):
 FnMR Tryz.prog 175 [srcB v bs s] [.ptr 1000000000 v 0 0] (fun x io=>x=eBd (bldD bs s).ps (bldD bs s).ds∧io=[srcB v bs (bldD bs s).src]):=by
 refine FnMR.of_vc 52 [.cell 2 164] Tryz.func175 rfl rfl rfl rfl rfl (of_decide_eq_true rfl) ?_
 have hn:=bldN_in bs h
 have h9:=(nx_ok bs 9 h).2.2.2
 have q9:=fun v=>c_l01Next v bs 9 s h hl
 have hok:=bldTo_ok (bs:=bs) (n:=bldN bs s) h9
 have hNd:2+(nx bs 9 s).1=bldN bs s:=rfl
 unfold bldD
 generalize bldN bs s=n at*
 generalize nx bs 9 s=a at*
 simp -dsimp -implicitDefEqProofs only [go_sem]
 (refine sCallT_io [1000000000] ?_;simp -dsimp -implicitDefEqProofs only [go_sem];refine sCallM_one (q9 _) ?_;simp -dsimp -implicitDefEqProofs only [go_sem])
 ((repeat' (with_reducible refine ai ?_ ?_));all_goals try (first|omega|(refine ⟨?_,?_⟩<;>omega)|(exact rfl)))
 rw [hNd]
 refine Later.up [0,2,3] [24,25,28,29,36,41,42,47,48] [12,13,14,1000000000] (n-1).toNat (fun _=>True) (fun j=>[(7,eI (1+(j:Int))),(4,.ref 12 0 0 (j+1)),(5,.ref 13 0 0 (j+1)),(6,.ref 14 0 0 (bldTo bs n a.2 j).gs.length)])
  (fun j=>[(12,.row 0 ⟨1,false⟩ true ((bldTo bs n a.2 j).ps.map eI)),(13,.row 0 ⟨1,false⟩ true ((bldTo bs n a.2 j).ds.map eB)),(14,.row 0 ⟨1,false⟩ true ((bldTo bs n a.2 j).gs.map eI)),(1000000000,srcB v bs (bldTo bs n a.2 j).src)]) trivial ?_ rfl (fun j hj _=> ?_) (fun _=> ?_)
 · simp -dsimp -implicitDefEqProofs only [go_sem,bldTo_zero]
   ((repeat' (with_reducible refine ai ?_ ?_));all_goals try (first|omega|(refine ⟨?_,?_⟩<;>omega)|(exact rfl)))
   all_goals first|(simp;done)|skip
 · obtain ⟨b1,b2,b3,b4,b5,b6⟩:=hok j
   have hlt:decide ((1:Int)+(j:Int)<n)=true:=decide_eq_true (by omega)
   have hlast:((1:Int)+(j:Int)==n-1)=lastB n (j+1):=by
    unfold lastB
    rw [show (1:Int)+(j:Int)=((j+1:Nat):Int) by omega]
   have e1:(1:Int)+(j:Int)=((j+1:Nat):Int):=by omega
   rw [bldTo_succ]
   unfold bldStep doorB
   generalize bldTo bs n a.2 j=z at*
   obtain ⟨ps,ds,gs,src⟩:=z
   simp only at b1 b2 b3 b4 b5 b6 ⊢
   have a2:=nx_lt bs b4.1 b1
   have a3:=nx_ok bs gs.length b1
   have qg:=fun v=>c_l01Next v bs gs.length src b1 hl
   have gg:=get_some a2.1
   have hgd:gs.getD (nx bs gs.length src).1.toNat 0=gs[(nx bs gs.length src).1.toNat]'a2.1:=by simp [uq0,a2.1]
   rw [hgd]
   generalize gs[(nx bs gs.length src).1.toNat]'a2.1=g at*
   generalize nx bs gs.length src=c at*
   have q3:=fun v=>c_l01Next v bs 3 c.2 a3.2.2.2 hl
   generalize nx bs 3 c.2=d at*
   have tp:=tk eI ps (j+1) (by omega)
   have td:=tk eB ds (j+1) (by omega)
   have tg:=tk eI gs gs.length (uq12 _)
   have ep:=mapS eI ps g
   have eg:=mapS eI gs ((j+1:Nat):Int)
   simp -dsimp -implicitDefEqProofs only [pz,Nat.reduceBEq,Nat.reduceDiv,Nat.reduceAdd,↓reduceIte,Nat.reduceEqDiff]
   simp -dsimp -implicitDefEqProofs only [go_sem,hlt]
   (refine sCallT_io [1000000000] ?_;simp -dsimp -implicitDefEqProofs only [go_sem];refine sCallM_one (qg _) ?_;simp -dsimp -implicitDefEqProofs only [go_sem])
   ((repeat' (with_reducible refine ai ?_ ?_));all_goals try (first|omega|(refine ⟨?_,?_⟩<;>omega)|(exact rfl)))
   simp -dsimp -implicitDefEqProofs only [go_sem,gg]
   ((repeat' (with_reducible refine ai ?_ ?_));all_goals try (first|omega|(refine ⟨?_,?_⟩<;>omega)|(exact rfl)))
   cases hL:lastB n (j+1) with
   |true=>
    rw [hL] at hlast
    simp -dsimp -implicitDefEqProofs only [go_sem,hlast]
    ((repeat' (with_reducible refine ai ?_ ?_));all_goals try (first|omega|(refine ⟨?_,?_⟩<;>omega)|(exact rfl)))
    all_goals first|(simp [*];done)|(simp [*];omega)|skip
   |false=>
    rw [hL] at hlast
    simp -dsimp -implicitDefEqProofs only [go_sem,hlast]
    (refine sCallT_io [1000000000] ?_;simp -dsimp -implicitDefEqProofs only [go_sem];refine sCallM_one (q3 _) ?_;simp -dsimp -implicitDefEqProofs only [go_sem])
    cases hD:decide (d.1>0) with
    |true=>
     simp -dsimp -implicitDefEqProofs only [go_sem,hlast,hD]
     ((repeat' (with_reducible refine ai ?_ ?_));all_goals try (first|omega|(refine ⟨?_,?_⟩<;>omega)|(exact rfl)))
     all_goals first|(simp [*];done)|(simp [*];omega)|skip
    |false=>
     simp -dsimp -implicitDefEqProofs only [go_sem,hlast,hD]
     ((repeat' (with_reducible refine ai ?_ ?_));all_goals try (first|omega|(refine ⟨?_,?_⟩<;>omega)|(exact rfl)))
     all_goals first|(simp [*];done)|(simp [*];omega)|skip
 · obtain ⟨b1,b2,b3,b4,b5,b6⟩:=hok (n-1).toNat
   have hlt:decide ((1:Int)+((n-1).toNat:Int)<n)=false:=decide_eq_false (by omega)
   generalize bldTo bs n a.2 (n-1).toNat=z at*
   obtain ⟨ps,ds,gs,src⟩:=z
   simp only at b1 b2 b3 b4 b5 b6 ⊢
   have tp:=tk eI ps ((n-1).toNat+1) (by omega)
   have td:=tk eB ds ((n-1).toNat+1) (by omega)
   simp -dsimp -implicitDefEqProofs only [pz,Nat.reduceBEq,Nat.reduceDiv,Nat.reduceAdd,↓reduceIte,Nat.reduceEqDiff]
   simp -dsimp -implicitDefEqProofs only [go_sem,hlt]
   ((repeat' (with_reducible refine ai ?_ ?_));all_goals try (first|omega|(refine ⟨?_,?_⟩<;>omega)|(exact rfl)))
   all_goals first|(rw [tp,td];done)|skip
theorem c_l09Under (ps:List Int) (ds:List Bool) (node other:Int) (hp:okP ps) (hl:ps.length≤1000) (hn:node<ps.length) (hn0:0≤node):Fn Tryz.prog 183 [eBd ps ds,eI node,eI other] true (· =eB (undF ps ps.length node other)):=by
 refine Fn.of_vcN 17 [.tmp 6] Tryz.func183 rfl rfl rfl rfl rfl (of_decide_eq_true rfl) ?_
 generalize hR:undF ps ps.length node other=R
 simp -dsimp -implicitDefEqProofs only [go_sem]
 refine Later.lp [2,3] [] [] (fun x:Nat × Int=> -1≤x.2∧x.2<x.1∧x.1≤ps.length∧undF ps x.1 x.2 other=R) (fun x=>[(1,eI x.2)]) (fun _=>[]) (fun x=>x.1) (ps.length,node) ⟨by omega,by omega,uq12 _,hR⟩ ?_ rfl (fun x hx=> ?_)
 · simp -dsimp -implicitDefEqProofs only [go_sem]
 · obtain ⟨k,nd⟩:=x
   obtain ⟨h1,h2,h3,h4⟩:=hx
   simp only at h1 h2 h3 h4 ⊢
   simp -dsimp -implicitDefEqProofs only [pz,Nat.reduceBEq,Nat.reduceDiv,Nat.reduceAdd,↓reduceIte,Nat.reduceEqDiff]
   by_cases h0:nd<0
   · have hge:decide (nd≥0)=false:=decide_eq_false (by omega)
     have hRf:R=false:=by
      rw [←h4]
      cases k with
      |zero=>rfl
      |succ k=>simp only [undF];rw [if_pos h0]
     rw [hRf]
     simp -dsimp -implicitDefEqProofs only [go_sem,hge]
   · have hge:decide (nd≥0)=true:=decide_eq_true (by omega)
     obtain ⟨k,rfl⟩:∃k',k=k'+1:=⟨k-1,by omega⟩
     simp only [undF] at h4
     rw [if_neg h0] at h4
     have hlt:nd.toNat<ps.length:=by omega
     have gp:=get_some hlt
     have hok:=hp nd.toNat hlt
     have e:ps.getD nd.toNat 0=ps[nd.toNat]:=by simp [uq0,hlt]
     rw [e] at h4 hok
     generalize ps[nd.toNat]=p at*
     cases ho:(nd==other) with
     |true=>
      rw [ho] at h4
      simp only [if_true] at h4
      rw [←h4]
      simp -dsimp -implicitDefEqProofs only [go_sem,hge,ho]
     |false=>
      rw [ho] at h4
      simp only [Bool.false_eq_true,if_false] at h4
      simp -dsimp -implicitDefEqProofs only [go_sem,hge,ho,gp]
      refine ⟨⟨by omega,by omega⟩,(k,p),⟨by omega,by omega,by omega,h4⟩,by simp,?_⟩
      simp -dsimp -implicitDefEqProofs only [go_sem]
theorem c_l09Doors (ps:List Int) (ds:List Bool) (node:Int) (hp:okP ps) (hl:ps.length≤1000) (hd:ds.length=ps.length):Fn Tryz.prog 173 [eBd ps ds,eI node] true (· =eIs (doorsU ps ds node)):=by
 refine Fn.of_vcN 31 [.tmp 4] Tryz.func173 rfl rfl rfl rfl rfl (of_decide_eq_true rfl) ?_
 unfold doorsU
 simp -dsimp -implicitDefEqProofs only [go_sem]
 refine Later.up [1,2] [11,24,28,29] [7] ds.length (fun _=>True) (fun i=>[(6,eI i),(5,.ref 7 0 0 (flt (fun i=>ds.getD i false&&undF ps ps.length (i:Int) node) i).length)]) (fun i=>[(7,.row 0 ⟨1,false⟩ true ((flt (fun i=>ds.getD i false&&undF ps ps.length (i:Int) node) i).map eI))]) trivial ?_ rfl (fun i hi _=> ?_) (fun _=> ?_)
 · simp -dsimp -implicitDefEqProofs only [go_sem,flt_zero]
 · have gi:=get_some hi
   have li:=lt_len hi
   have hq:=c_l09Under ps ds (i:Int) node hp hl (by omega) (by omega)
   have hfl:=flt_len (fun i=>ds.getD i false&&undF ps ps.length (i:Int) node) i
   have hgd:ds.getD i false=ds[i]:=by simp [uq0,hi]
   rw [flt_succ]
   simp only [hgd]
   generalize flt (fun i=>ds.getD i false&&undF ps ps.length (i:Int) node) i=F at*
   generalize ds[i]=d at*
   generalize undF ps ps.length (i:Int) node=ub at*
   have tF:=tk eI F F.length (uq12 _)
   simp -dsimp -implicitDefEqProofs only [pz,Nat.reduceBEq,Nat.reduceDiv,Nat.reduceAdd,↓reduceIte,Nat.reduceEqDiff]
   cases d with
   |false=>
    simp -dsimp -implicitDefEqProofs only [go_sem,li,gi]
    ((repeat' (with_reducible refine ai ?_ ?_));all_goals try (first|omega|(refine ⟨?_,?_⟩<;>omega)|(exact rfl)))
    all_goals first|(simp [*];done)|skip
   |true=>
    simp -dsimp -implicitDefEqProofs only [go_sem,li,gi]
    ((repeat' (with_reducible refine ai ?_ ?_));all_goals try (first|omega|(refine ⟨?_,?_⟩<;>omega)|(exact rfl)))
    refine sCallT_one hq ?_
    cases ub with
    |false=>
     simp -dsimp -implicitDefEqProofs only [go_sem]
     ((repeat' (with_reducible refine ai ?_ ?_));all_goals try (first|omega|(refine ⟨?_,?_⟩<;>omega)|(exact rfl)))
     all_goals first|(simp [*];done)|skip
    |true=>
     simp -dsimp -implicitDefEqProofs only [go_sem]
     ((repeat' (with_reducible refine ai ?_ ?_));all_goals try (first|omega|(refine ⟨?_,?_⟩<;>omega)|(exact rfl)))
     all_goals first|(simp [*];done)|skip
 · have hfl:=flt_len (fun i=>ds.getD i false&&undF ps ps.length (i:Int) node) ds.length
   generalize flt (fun i=>ds.getD i false&&undF ps ps.length (i:Int) node) ds.length=F at*
   have tF:=tk eI F F.length (uq12 _)
   simp -dsimp -implicitDefEqProofs only [pz,Nat.reduceBEq,Nat.reduceDiv,Nat.reduceAdd,↓reduceIte,Nat.reduceEqDiff]
   simp -dsimp -implicitDefEqProofs only [go_sem,nlt_len]
   ((repeat' (with_reducible refine ai ?_ ?_));all_goals try (first|omega|(refine ⟨?_,?_⟩<;>omega)|(exact rfl)))
   all_goals first|(rw [tF];done)|(simp;done)|skip
theorem c_l10May (ps:List Int) (ds:List Bool) (nodes:List Int) (door:Int) (hp:okP ps) (hl:ps.length≤1000) (h0:0≤door) (h1:door<ps.length) (hn:nodes.length≤1000):Fn Tryz.prog 174 [eBd ps ds,eIs nodes,eI door] true (· =eB (mayE ps nodes door)):=by
 refine Fn.of_vcN 21 [.tmp 6] Tryz.func174 rfl rfl rfl rfl rfl (of_decide_eq_true rfl) ?_
 simp -dsimp -implicitDefEqProofs only [go_sem]
 refine Later.up [1,2,3] [10,20] [] nodes.length (fun i=>((nodes.take i).any fun x=>undF ps ps.length door x)=false) (fun i=>[(7,eI i)]) (fun _=>[]) (by simp) ?_ rfl (fun i hi hI=> ?_) (fun hI=> ?_)
 · simp -dsimp -implicitDefEqProofs only [go_sem]
 · have gi:=get_some hi
   have li:=lt_len hi
   have hq:=c_l09Under ps ds door nodes[i] hp hl h1 h0
   have yes:undF ps ps.length door nodes[i]=true→mayE ps nodes door=true:=fun h=>List.any_eq_true.2 ⟨_,uq4 hi,h⟩
   have no:undF ps ps.length door nodes[i]=false→((nodes.take (i+1)).any fun x=>undF ps ps.length door x)=false:=fun h=>by rw [uq9 hi,List.any_append,hI];simp [h]
   generalize nodes[i]=x at*
   generalize undF ps ps.length door x=ub at*
   simp -dsimp -implicitDefEqProofs only [pz,Nat.reduceBEq,Nat.reduceDiv,Nat.reduceAdd,↓reduceIte,Nat.reduceEqDiff]
   simp -dsimp -implicitDefEqProofs only [go_sem,li]
   refine Later.draw mixed rfl ?_
   simp -dsimp -implicitDefEqProofs only [go_sem,gi]
   ((repeat' (with_reducible refine ai ?_ ?_));all_goals try (first|omega|(refine ⟨?_,?_⟩<;>omega)|(exact rfl)))
   refine sCallX_one hq ?_
   cases ub with
   |false=>
    simp -dsimp -implicitDefEqProofs only [go_sem]
    exact ⟨by exact rfl,⟨by omega,by omega⟩,no rfl,rfl⟩
   |true=>
    rw [yes rfl]
    simp -dsimp -implicitDefEqProofs only [go_sem]
    ((repeat' (with_reducible refine ai ?_ ?_));all_goals try (first|omega|(refine ⟨?_,?_⟩<;>omega)|(exact rfl)))
 · rw [uq8] at hI
   rw [show mayE ps nodes door=false from hI]
   simp -dsimp -implicitDefEqProofs only [pz,Nat.reduceBEq,Nat.reduceDiv,Nat.reduceAdd,↓reduceIte,Nat.reduceEqDiff]
   simp -dsimp -implicitDefEqProofs only [go_sem,nlt_len]
theorem c_l10DrawNodes (v:Nat) (bs:List UInt8) (s:Src) (ps:List Int) (ds:List Bool) (h:SrcOk s) (hl:bs.length≤4096) (hp:ps.length≤1000):
 FnMR Tryz.prog 176 [srcB v bs s] [.ptr 1000000000 v 0 0,eBd ps ds] (fun x io=>x=eIs (nodesD bs ps.length s).1∧io=[srcB v bs (nodesD bs ps.length s).2]):=by
 refine FnMR.of_vc 34 [.tmp 4] Tryz.func176 rfl rfl rfl rfl rfl (of_decide_eq_true rfl) ?_
 have hok:=fun i=>nodesTo_ok (bs:=bs) h i
 simp -dsimp -implicitDefEqProofs only [go_sem]
 refine Later.up [0,3] [11,16,20,21] [7,1000000000] ps.length (fun _=>True) (fun i=>[(6,eI i),(5,.ref 7 0 0 (nodesTo bs s i).1.length)]) (fun i=>[(7,.row 0 ⟨1,false⟩ true ((nodesTo bs s i).1.map eI)),(1000000000,srcB v bs (nodesTo bs s i).2)]) trivial ?_ rfl (fun i hi _=> ?_) (fun _=> ?_)
 · simp -dsimp -implicitDefEqProofs only [go_sem,nodesTo]
   ((repeat' (with_reducible refine ai ?_ ?_));all_goals try (first|omega|(refine ⟨?_,?_⟩<;>omega)|(exact rfl)))
 · obtain ⟨o1,o2⟩:=hok i
   have li:=lt_len hi
   rw [nodesTo_succ]
   have q4:=fun v=>c_l01Next v bs 4 (nodesTo bs s i).2 o1 hl
   generalize nodesTo bs s i=z at*
   generalize nx bs 4 z.2=a at*
   have tz:=tk eI z.1 z.1.length (uq12 _)
   simp -dsimp -implicitDefEqProofs only [pz,Nat.reduceBEq,Nat.reduceDiv,Nat.reduceAdd,↓reduceIte,Nat.reduceEqDiff]
   simp -dsimp -implicitDefEqProofs only [go_sem,li]
   (refine sCallT_io [1000000000] ?_;simp -dsimp -implicitDefEqProofs only [go_sem];refine sCallM_one (q4 _) ?_;simp -dsimp -implicitDefEqProofs only [go_sem])
   cases hz:(a.1==0) with
   |true=>
    simp -dsimp -implicitDefEqProofs only [go_sem,hz]
    ((repeat' (with_reducible refine ai ?_ ?_));all_goals try (first|omega|(refine ⟨?_,?_⟩<;>omega)|(exact rfl)))
    all_goals first|(simp [*];done)|skip
   |false=>
    simp -dsimp -implicitDefEqProofs only [go_sem,hz]
    ((repeat' (with_reducible refine ai ?_ ?_));all_goals try (first|omega|(refine ⟨?_,?_⟩<;>omega)|(exact rfl)))
    all_goals first|(simp [*];done)|skip
 · obtain ⟨o1,o2⟩:=hok ps.length
   unfold nodesD
   generalize nodesTo bs s ps.length=z at*
   have qn:=fun v=>c_l01Next v bs ps.length z.2 o1 hl
   have tz:=tk eI z.1 z.1.length (uq12 _)
   cases hz:((z.1.length:Int)==0) with
   |true=>
    have hz0:z.1=[]:=by
     have:=beq_iff_eq.1 hz
     exact List.eq_nil_of_length_eq_zero (by omega)
    obtain ⟨z1,z2⟩:=z
    simp only at hz0
    subst hz0
    simp only [if_true]
    simp -dsimp -implicitDefEqProofs only [pz,Nat.reduceBEq,Nat.reduceDiv,Nat.reduceAdd,↓reduceIte,Nat.reduceEqDiff]
    simp -dsimp -implicitDefEqProofs only [go_sem,nlt_len,hz]
    (refine sCallT_io [1000000000] ?_;simp -dsimp -implicitDefEqProofs only [go_sem];refine sCallM_one (qn _) ?_;simp -dsimp -implicitDefEqProofs only [go_sem])
    ((repeat' (with_reducible refine ai ?_ ?_));all_goals try (first|omega|(refine ⟨?_,?_⟩<;>omega)|(exact rfl)))
    all_goals first|(simp [*];done)|skip
   |false=>
    simp only [Bool.false_eq_true,if_false]
    simp -dsimp -implicitDefEqProofs only [pz,Nat.reduceBEq,Nat.reduceDiv,Nat.reduceAdd,↓reduceIte,Nat.reduceEqDiff]
    simp -dsimp -implicitDefEqProofs only [go_sem,nlt_len,hz]
    ((repeat' (with_reducible refine ai ?_ ?_));all_goals try (first|omega|(refine ⟨?_,?_⟩<;>omega)|(exact rfl)))
    all_goals first|(rw [tz];done)|(simp [*];done)|skip
theorem c_l10Valid (v:Nat) (bs:List UInt8) (s:Src) (h:SrcOk s) (hl:bs.length≤4096):
 FnMR Tryz.prog 163 [srcB v bs s] [.ptr 1000000000 v 0 0] (fun x io=>x=ePl (planD bs s).1∧io=[srcB v bs (planD bs s).2]):=by
 refine FnMR.of_vc 25 [.cell 2 166] Tryz.func163 rfl rfl rfl rfl rfl (of_decide_eq_true rfl) ?_
 have qb:=fun v=>c_l09Valid v bs s h hl
 have hn:=bldN_in bs h
 obtain ⟨⟨b1,b2,b3,b4,b5,b6⟩,_⟩:=bldD_ok bs h
 unfold planD
 generalize bldD bs s=B at*
 obtain ⟨ps,ds,gs,src⟩:=B
 simp only at b1 b2 b3 qb ⊢
 have q4:=fun v=>c_l01Next v bs 4 src b1 hl
 have a:=nx_ok bs 4 b1
 have a3:=a.2.2.1 (by omega)
 have hok:=fun i=>rightsTo_ok (bs:=bs) a.2.2.2 ps.length i
 generalize nx bs 4 src=c at*
 simp -dsimp -implicitDefEqProofs only [go_sem]
 refine sCallT_ioR [1000000000] ?_
 simp -dsimp -implicitDefEqProofs only [go_sem]
 refine sCallMR_any (qb _) ?_
 rintro _ _ ⟨rfl,rfl⟩
 simp -dsimp -implicitDefEqProofs only [go_sem]
 (refine sCallT_io [1000000000] ?_;simp -dsimp -implicitDefEqProofs only [go_sem];refine sCallM_one (q4 _) ?_;simp -dsimp -implicitDefEqProofs only [go_sem])
 ((repeat' (with_reducible refine ai ?_ ?_));all_goals try (first|omega|(refine ⟨?_,?_⟩<;>omega)|(exact rfl)))
 refine Later.up [0,2,3] [19,20,21] [8,1000000000] (1+c.1).toNat (fun _=>True) (fun i=>[(5,eI (1+c.1-(i:Int))),(4,.ref 8 0 0 i)]) (fun i=>[(8,.row 0 ⟨1,false⟩ (i==0) ((rightsTo bs ps.length c.2 i).1.map eIs)),(1000000000,srcB v bs (rightsTo bs ps.length c.2 i).2)]) trivial ?_ rfl (fun i hi _=> ?_) (fun _=> ?_)
 · simp -dsimp -implicitDefEqProofs only [go_sem,rightsTo]
   ((repeat' (with_reducible refine ai ?_ ?_));all_goals try (first|omega|(refine ⟨?_,?_⟩<;>omega)|(exact rfl)))
   all_goals first|(simp;done)|skip
 · obtain ⟨o1,o2,o3⟩:=hok i
   have hgt:decide (1+c.1-(i:Int)>0)=true:=decide_eq_true (by omega)
   rw [rightsTo_succ]
   generalize rightsTo bs ps.length c.2 i=R at*
   have qd:=fun v=>c_l10DrawNodes v bs R.2 ps ds o1 hl (by omega)
   generalize nodesD bs ps.length R.2=N at*
   have tR:=tk eIs R.1 i (by omega)
   have e0:(i+1==0)=false:=rfl
   have e2:=mapS eIs R.1 N.1
   simp -dsimp -implicitDefEqProofs only [pz,Nat.reduceBEq,Nat.reduceDiv,Nat.reduceAdd,↓reduceIte,Nat.reduceEqDiff]
   simp -dsimp -implicitDefEqProofs only [go_sem,hgt]
   refine sCallT_ioR [1000000000] ?_
   simp -dsimp -implicitDefEqProofs only [go_sem]
   refine sCallMR_any (qd _) ?_
   rintro _ _ ⟨rfl,rfl⟩
   simp -dsimp -implicitDefEqProofs only [go_sem]
   refine .inr ⟨by omega,by omega,(by cases i with|zero=>exact .inr rfl|succ i=>exact .inl rfl),⟨by omega,by omega⟩,?_⟩
   rw [e0,e2]
   simp -dsimp -implicitDefEqProofs only [go_sem,tR]
   ((repeat' (with_reducible refine ai ?_ ?_));all_goals try (first|omega|(refine ⟨?_,?_⟩<;>omega)|(exact rfl)))
   all_goals first|(congr 1;omega)|(simp;omega)|skip
 · obtain ⟨o1,o2,o3⟩:=hok (1+c.1).toNat
   have hgt:decide (1+c.1-(((1+c.1).toNat:Nat):Int)>0)=false:=decide_eq_false (by omega)
   generalize rightsTo bs ps.length c.2 (1+c.1).toNat=R at*
   have tR:=tk eIs R.1 (1+c.1).toNat (by omega)
   simp -dsimp -implicitDefEqProofs only [pz,Nat.reduceBEq,Nat.reduceDiv,Nat.reduceAdd,↓reduceIte,Nat.reduceEqDiff]
   simp -dsimp -implicitDefEqProofs only [go_sem,hgt]
   ((repeat' (with_reducible refine ai ?_ ?_));all_goals try (first|omega|(refine ⟨?_,?_⟩<;>omega)|(exact rfl)))
   all_goals first|(rw [tR];done)|(simp [*];done)|skip
theorem c_l10Access (p:PlanM) (hp:planOk p):Fn Tryz.prog 162 [ePl p] true (· =eIss (accT p)):=by
 obtain ⟨h1,h2,h3,h4,h5,h6⟩:=hp
 obtain ⟨ps,ds,rights⟩:=p
 simp only at h1 h2 h3 h4 h5 h6
 have hq:=c_l09Doors ps ds 0 h5 (by omega) h2
 have hmem:∀d∈doorsU ps ds 0,0≤d∧d<ps.length:=fun d hd=>by
  unfold doorsU at hd
  obtain ⟨j,hj,rfl,_⟩:=flt_mem hd
  omega
 have hlen:(doorsU ps ds 0).length≤10:=by
  have:=flt_len (fun i=>ds.getD i false&&undF ps ps.length (i:Int) 0) ds.length
  unfold doorsU;omega
 have hacc:∀x,accRow ⟨ps,ds,rights⟩ x=(doorsU ps ds 0).map fun d=>if mayE ps x d=true then 1 else 0:=fun _=>rfl
 have haccT:accT ⟨ps,ds,rights⟩=rights.map (accRow ⟨ps,ds,rights⟩):=rfl
 rw [haccT]
 clear haccT
 refine Fn.of_vcN 49 [.tmp 2] Tryz.func162 rfl rfl rfl rfl rfl (of_decide_eq_true rfl) ?_
 generalize doorsU ps ds 0=D at*
 simp -dsimp -implicitDefEqProofs only [go_sem]
 refine sCallT_one hq ?_
 simp -dsimp -implicitDefEqProofs only [go_sem]
 refine Later.upP [1,3] [15,19,22,37,39,40,42,43,46,47] [11,19] rights.length (fun _=>True) (fun k=>[(5,eI k),(4,.ref 11 0 0 k)]) (fun k=>[(11,.row 0 ⟨1,false⟩ true (((rights.take k).map (accRow ⟨ps,ds,rights⟩)).map eIs))]) trivial (.here ?_) rfl (fun k hk _=> ?_) (fun _=> ?_)
 · simp -dsimp -implicitDefEqProofs only [go_sem,List.take_zero,List.map_nil]
   ((repeat' (with_reducible refine ai ?_ ?_));all_goals try (first|omega|(refine ⟨?_,?_⟩<;>omega)|(exact rfl)))
 · refine Later.vc rfl ?_
   have gk:=get_some hk
   have lk:=lt_len hk
   have ht:(rights.take (k+1)).map (accRow ⟨ps,ds,rights⟩)=(rights.take k).map (accRow ⟨ps,ds,rights⟩)++[accRow ⟨ps,ds,rights⟩ rights[k]]:=by rw [uq9 hk,List.map_append];rfl
   have hln:((rights.take k).map (accRow ⟨ps,ds,rights⟩)).length=k:=by simp;omega
   have hrl:=h4 _ (uq4 hk)
   rw [ht,hacc rights[k]]
   clear ht
   generalize (rights.take k).map (accRow ⟨ps,ds,rights⟩)=F at*
   generalize rights[k]=nodes at*
   have tF:=tk eIs F k (by omega)
   simp -dsimp -implicitDefEqProofs only [pz,Nat.reduceBEq,Nat.reduceDiv,Nat.reduceAdd,↓reduceIte,Nat.reduceEqDiff]
   simp -dsimp -implicitDefEqProofs only [go_sem,lk]
   refine Later.upP [1,3,4,5] [22,37,39,40,42,43] [19] D.length (fun _=>True) (fun i=>[(7,eI i),(6,.ref 19 0 0 i)]) (fun i=>[(19,.row 0 ⟨1,false⟩ true (((D.take i).map fun d=>if mayE ps nodes d=true then 1 else 0).map eI))]) trivial (.here ?_) rfl (fun i hi _=> ?_) (fun _=> ?_)
   · simp -dsimp -implicitDefEqProofs only [go_sem,List.take_zero,List.map_nil]
     ((repeat' (with_reducible refine ai ?_ ?_));all_goals try (first|omega|(refine ⟨?_,?_⟩<;>omega)|(exact rfl)))
   · refine Later.vc rfl ?_
     have gi:=get_some hi
     have li:=lt_len hi
     have hd:=hmem _ (uq4 hi)
     have hm:=c_l10May ps ds nodes D[i] h5 (by omega) hd.1 hd.2 (by omega)
     have ht:(D.take (i+1)).map (fun d=>if mayE ps nodes d=true then (1:Int) else 0)=(D.take i).map (fun d=>if mayE ps nodes d=true then (1:Int) else 0)++[if mayE ps nodes D[i]=true then 1 else 0]:=by rw [uq9 hi,List.map_append];rfl
     have hln2:((D.take i).map fun d=>if mayE ps nodes d=true then (1:Int) else 0).length=i:=by simp;omega
     rw [ht]
     clear ht
     generalize ((D.take i).map fun d=>if mayE ps nodes d=true then (1:Int) else 0)=G at*
     generalize D[i]=d at*
     generalize mayE ps nodes d=mb at*
     have tG:=tk eI G i (by omega)
     simp -dsimp -implicitDefEqProofs only [pz,Nat.reduceBEq,Nat.reduceDiv,Nat.reduceAdd,↓reduceIte,Nat.reduceEqDiff]
     simp -dsimp -implicitDefEqProofs only [go_sem,li]
     refine Later.draw mixed rfl ?_
     simp -dsimp -implicitDefEqProofs only [go_sem,gi,gk]
     ((repeat' (with_reducible refine ai ?_ ?_));all_goals try (first|omega|(refine ⟨?_,?_⟩<;>omega)|(exact rfl)))
     refine sCallX_one hm ?_
     cases mb with
     |true=>
      simp -dsimp -implicitDefEqProofs only [go_sem,tG]
      ((repeat' (with_reducible refine ai ?_ ?_));all_goals try (first|omega|(refine ⟨?_,?_⟩<;>omega)|(exact rfl)))
      all_goals first|(refine .here ?_;simp -dsimp -implicitDefEqProofs only [go_sem,tG];((repeat' (with_reducible refine ai ?_ ?_));all_goals try (first|omega|(refine ⟨?_,?_⟩<;>omega)|(exact rfl)));all_goals first|(simp;done)|skip)|skip
     |false=>
      simp -dsimp -implicitDefEqProofs only [go_sem,tG]
      ((repeat' (with_reducible refine ai ?_ ?_));all_goals try (first|omega|(refine ⟨?_,?_⟩<;>omega)|(exact rfl)))
      all_goals first|(refine .here ?_;simp -dsimp -implicitDefEqProofs only [go_sem,tG];((repeat' (with_reducible refine ai ?_ ?_));all_goals try (first|omega|(refine ⟨?_,?_⟩<;>omega)|(exact rfl)));all_goals first|(simp;done)|skip)|skip
   · rw [uq8]
     have hln2:(D.map fun d=>if mayE ps nodes d=true then (1:Int) else 0).length=D.length:=by simp
     generalize (D.map fun d=>if mayE ps nodes d=true then (1:Int) else 0)=G at*
     refine Later.known 6 19 0 D.length ⟨1,false⟩ _ rfl (by decide) rfl (by simp [hln2]) h6 (by decide) fun u=> ?_
     refine Later.vc rfl ?_
     have e2:(F.map eIs++[AV.val u]).set k (.arr ⟨1,false⟩ (G.map eI))=(F++[G]).map eIs:=by
      rw [List.set_append_right _ _ (by simp [hln])]
      simp [hln,eIs]
     simp -dsimp -implicitDefEqProofs only [pz,Nat.reduceBEq,Nat.reduceDiv,Nat.reduceAdd,↓reduceIte,Nat.reduceEqDiff]
     simp -dsimp -implicitDefEqProofs only [go_sem,nlt_len,tF]
     ((repeat' (with_reducible refine ai ?_ ?_));all_goals try (first|omega|(refine ⟨?_,?_⟩<;>omega)|(exact rfl)))
     all_goals first
      |(refine RefP.back 11 1 k 19 0 _ _ _ u (by decide) rfl (by simp [hln]) rfl (.here ?_)
        rw [e2]
        simp -dsimp -implicitDefEqProofs only [go_sem]
        ((repeat' (with_reducible refine ai ?_ ?_));all_goals try (first|omega|(refine ⟨?_,?_⟩<;>omega)|(exact rfl)))
        all_goals trace_state)
      |skip
 · rw [uq8]
   have hln:(rights.map (accRow ⟨ps,ds,rights⟩)).length=rights.length:=by simp
   generalize rights.map (accRow ⟨ps,ds,rights⟩)=F at*
   have tF:=tk eIs F rights.length (by omega)
   refine Later.vc rfl ?_
   simp -dsimp -implicitDefEqProofs only [pz,Nat.reduceBEq,Nat.reduceDiv,Nat.reduceAdd,↓reduceIte,Nat.reduceEqDiff]
   simp -dsimp -implicitDefEqProofs only [go_sem,nlt_len]
   ((repeat' (with_reducible refine ai ?_ ?_));all_goals try (first|omega|(refine ⟨?_,?_⟩<;>omega)|(exact rfl)))
   all_goals first|(rw [tF];done)|(simp;done)|skip
end Go.Vc
namespace Go.Vc
open Go.Proofs
theorem c_l11Valid (v:Nat) (bs:List UInt8) (s:Src) (h:SrcOk s) (hl:bs.length≤4096):
 FnM Tryz.prog 142 [srcB v bs s] [.ptr 1000000000 v 0 0] (fun x io=>x=eIss (tabV bs s).1∧io=[srcB v bs (tabV bs s).2]):=by
 refine FnM.of_vcN 44 [.tmp 2] Tryz.func142 rfl rfl rfl rfl rfl (of_decide_eq_true rfl) ?_
 have q3:=fun v=>c_l01Next v bs 3 s h hl
 have a:=(nx_ok bs 3 h).2.2.2
 obtain ⟨RR,hR⟩:∃RR,tabV bs s=RR:=⟨_,rfl⟩
 rw [hR]
 unfold tabV at hR
 generalize nx bs 3 s=n3 at*
 simp -dsimp -implicitDefEqProofs only [go_sem]
 (refine sCallT_io [1000000000] ?_;simp -dsimp -implicitDefEqProofs only [go_sem];refine sCallM_one (q3 _) ?_;simp -dsimp -implicitDefEqProofs only [go_sem])
 cases h0:(n3.1==0) with
 |true=>
  have qv:=fun v=>c_l10Valid v bs n3.2 a hl
  have hp:=(planD_ok bs a).2
  rw [h0,if_pos rfl] at hR
  subst hR
  generalize planD bs n3.2=p at*
  have qa:=c_l10Access p.1 hp
  simp -dsimp -implicitDefEqProofs only [go_sem,h0]
  ((repeat' (with_reducible refine ai ?_ ?_));all_goals try (first|omega|(refine ⟨?_,?_⟩<;>omega)|(exact rfl)))
  refine sCallT_ioR [1000000000] ?_
  simp -dsimp -implicitDefEqProofs only [go_sem]
  refine sCallMR_any (qv _) ?_
  rintro _ _ ⟨rfl,rfl⟩
  simp -dsimp -implicitDefEqProofs only [go_sem]
  refine sCallT_one qa ?_
  simp -dsimp -implicitDefEqProofs only [go_sem]
  ((repeat' (with_reducible refine ai ?_ ?_));all_goals try (first|omega|(refine ⟨?_,?_⟩<;>omega)|(exact rfl)))
  all_goals first|(simp;done)|skip
 |false=>
  have q4:=fun v=>c_l01Next v bs 4 n3.2 a hl
  have b:=nx_ok bs 4 a
  have b3:=b.2.2.1 (by omega)
  rw [h0,if_neg (by simp)] at hR
  subst hR
  generalize nx bs 4 n3.2=n4 at*
  have q5:=fun v=>c_l01Next v bs 5 n4.2 b.2.2.2 hl
  have c:=nx_ok bs 5 b.2.2.2
  have c3:=c.2.2.1 (by omega)
  generalize nx bs 5 n4.2=n5 at*
  obtain ⟨r,hr⟩:∃r:Nat,(1+n4.1).toNat=r:=⟨_,rfl⟩
  obtain ⟨cN,hc⟩:∃c:Nat,(1+n5.1).toNat=c:=⟨_,rfl⟩
  have er:1+n4.1=(r:Int):=by omega
  have ec:1+n5.1=(cN:Int):=by omega
  have hok:=fun i=>ttabTo_ok (bs:=bs) c.2.2.2 cN i
  rw [hr,hc]
  simp -dsimp -implicitDefEqProofs only [go_sem,h0]
  ((repeat' (with_reducible refine ai ?_ ?_));all_goals try (first|omega|(refine ⟨?_,?_⟩<;>omega)|(exact rfl)))
  (refine sCallT_io [1000000000] ?_;simp -dsimp -implicitDefEqProofs only [go_sem];refine sCallM_one (q4 _) ?_;simp -dsimp -implicitDefEqProofs only [go_sem])
  ((repeat' (with_reducible refine ai ?_ ?_));all_goals try (first|omega|(refine ⟨?_,?_⟩<;>omega)|(exact rfl)))
  (refine sCallT_io [1000000000] ?_;simp -dsimp -implicitDefEqProofs only [go_sem];refine sCallM_one (q5 _) ?_;simp -dsimp -implicitDefEqProofs only [go_sem])
  ((repeat' (with_reducible refine ai ?_ ?_));all_goals try (first|omega|(refine ⟨?_,?_⟩<;>omega)|(exact rfl)))
  rw [er,ec]
  have hrl:r≤4:=by omega
  have hcl:cN≤5:=by omega
  have hc1:1≤cN:=by omega
  clear hr hc er ec b3 c3 b c
  refine Later.upP [0,3,4] [27,35,36,37,38,41,42] [21,27,35,1000000000] r (fun _=>True) (fun i=>[(6,eI i),(5,.ref 21 0 0 i)]) (fun i=>[(21,.row 0 ⟨1,false⟩ true ((ttabTo bs cN n5.2 i).1.map eIs)),(1000000000,srcB v bs (ttabTo bs cN n5.2 i).2)]) trivial (.here ?_) rfl (fun i hi _=> ?_) (fun _=> ?_)
  · simp -dsimp -implicitDefEqProofs only [go_sem,ttabTo]
    ((repeat' (with_reducible refine ai ?_ ?_));all_goals try (first|omega|(refine ⟨?_,?_⟩<;>omega)|(exact rfl)))
  · refine Later.vc rfl ?_
    obtain ⟨o1,o2,o3⟩:=hok i
    have hlt:decide ((i:Int)<r)=true:=decide_eq_true (by omega)
    have hrok:=fun k=>trowTo_ok (bs:=bs) o1 k
    rw [ttabTo_succ]
    generalize ttabTo bs cN n5.2 i=T at*
    have tT:=tk eIs T.1 i (by omega)
    simp -dsimp -implicitDefEqProofs only [pz,Nat.reduceBEq,Nat.reduceDiv,Nat.reduceAdd,↓reduceIte,Nat.reduceEqDiff]
    simp -dsimp -implicitDefEqProofs only [go_sem,hlt]
    refine Later.upP [0,3,4,5,6] [35,36,37,38] [27,35,1000000000] cN (fun _=>True) (fun k=>[(8,eI k),(7,.ref 27 0 0 k)]) (fun k=>[(27,.row 0 ⟨1,false⟩ true ((trowTo bs T.2 k).1.map eI)),(1000000000,srcB v bs (trowTo bs T.2 k).2)]) trivial (.here ?_) rfl (fun k hk _=> ?_) (fun _=> ?_)
    · simp -dsimp -implicitDefEqProofs only [go_sem,trowTo]
      ((repeat' (with_reducible refine ai ?_ ?_));all_goals try (first|omega|(refine ⟨?_,?_⟩<;>omega)|(exact rfl)))
    · refine Later.vc rfl ?_
      obtain ⟨p1,p2⟩:=hrok k
      have hlt:decide ((k:Int)<cN)=true:=decide_eq_true (by omega)
      rw [trowTo_succ]
      generalize trowTo bs T.2 k=R at*
      have qp:=fun v v2=>c_l01Pick v v2 true bs [0,1,1] _ R.2 rfl (by simp) (by simp) p1 hl
      generalize pk bs [0,1,1] R.2=pp at*
      have tR:=tk eI R.1 k (by omega)
      simp -dsimp -implicitDefEqProofs only [pz,Nat.reduceBEq,Nat.reduceDiv,Nat.reduceAdd,↓reduceIte,Nat.reduceEqDiff]
      simp -dsimp -implicitDefEqProofs only [go_sem,hlt]
      ((repeat' (with_reducible refine ai ?_ ?_));all_goals try (first|omega|(refine ⟨?_,?_⟩<;>omega)|(exact rfl)))
      (refine sCallT_io [1000000000,35] ?_;simp -dsimp -implicitDefEqProofs only [go_sem];refine sCallM_one (qp _ _) ?_;simp -dsimp -implicitDefEqProofs only [go_sem])
      ((repeat' (with_reducible refine ai ?_ ?_));all_goals try (first|omega|(refine ⟨?_,?_⟩<;>omega)|(exact rfl)))
      all_goals first|(refine .here ?_;simp -dsimp -implicitDefEqProofs only [go_sem,tR];((repeat' (with_reducible refine ai ?_ ?_));all_goals try (first|omega|(refine ⟨?_,?_⟩<;>omega)|(exact rfl)));all_goals first|(simp;done)|skip)|skip
    · obtain ⟨p1,p2⟩:=hrok cN
      generalize trowTo bs T.2 cN=R at*
      refine Later.known 7 27 0 cN ⟨1,false⟩ _ rfl (by decide) rfl (by simp [p2]) (by omega) (by decide) fun u=> ?_
      refine Later.vc rfl ?_
      have hge:decide ((cN:Int)<cN)=false:=decide_eq_false (by omega)
      have e2:(T.1.map eIs++[AV.val u]).set i (.arr ⟨1,false⟩ (R.1.map eI))=(T.1++[R.1]).map eIs:=by
       rw [List.set_append_right _ _ (by simp [o2])]
       simp [o2,eIs]
      simp -dsimp -implicitDefEqProofs only [pz,Nat.reduceBEq,Nat.reduceDiv,Nat.reduceAdd,↓reduceIte,Nat.reduceEqDiff]
      simp -dsimp -implicitDefEqProofs only [go_sem,hge,tT]
      ((repeat' (with_reducible refine ai ?_ ?_));all_goals try (first|omega|(refine ⟨?_,?_⟩<;>omega)|(exact rfl)))
      all_goals first
       |(refine RefP.back 21 1 i 27 0 _ _ _ u (by decide) rfl (by simp [o2]) rfl (.here ?_)
         rw [e2]
         simp -dsimp -implicitDefEqProofs only [go_sem]
         ((repeat' (with_reducible refine ai ?_ ?_));all_goals try (first|omega|(refine ⟨?_,?_⟩<;>omega)|(exact rfl)))
         all_goals trace_state)
       |skip
  · obtain ⟨o1,o2,o3⟩:=hok r
    generalize ttabTo bs cN n5.2 r=T at*
    have tT:=tk eIs T.1 r (by omega)
    have hge:decide ((r:Int)<r)=false:=decide_eq_false (by omega)
    refine Later.vc rfl ?_
    simp -dsimp -implicitDefEqProofs only [pz,Nat.reduceBEq,Nat.reduceDiv,Nat.reduceAdd,↓reduceIte,Nat.reduceEqDiff]
    simp -dsimp -implicitDefEqProofs only [go_sem,hge]
    ((repeat' (with_reducible refine ai ?_ ?_));all_goals try (first|omega|(refine ⟨?_,?_⟩<;>omega)|(exact rfl)))
    all_goals first|(refine ⟨_,.inl rfl,?_⟩;simp [eIs];done)|(rw [tT];done)|(simp;done)|skip
theorem c_l11Draw (v:Nat) (bs:List UInt8) (s:Src) (h:SrcOk s) (hl:bs.length≤4096):
 FnMR Tryz.prog 123 [srcB v bs s] [.ptr 1000000000 v 0 0] (fun x io=>x=eIss (tabD bs s).1∧io=[srcB v bs (tabD bs s).2]):=by
 refine FnMR.nil0 ?_
 refine FnMR.of_vc 47 [.tmp 2] Tryz.func123 rfl rfl rfl rfl rfl (of_decide_eq_true rfl) ?_
 have qv:=fun v=>c_l11Valid v bs s h hl
 have ht:=tabV_ok bs h
 obtain ⟨RR,hR⟩:∃RR,tabD bs s=RR:=⟨_,rfl⟩
 rw [hR]
 unfold tabD at hR
 generalize tabV bs s=T at*
 obtain ⟨T,s1⟩:=T
 obtain ⟨o1,t1,t2,t3⟩:=ht
 simp only at o1 t1 t2 t3 hR qv
 unfold tabW at hR
 have q30:=fun v=>c_l01Next v bs 30 s1 o1 hl
 have a:=(nx_ok bs 30 o1).2.2.2
 generalize nx bs 30 s1=n at*
 simp -dsimp -implicitDefEqProofs only [go_sem]
 refine sCallT_io [1000000000] ?_
 simp -dsimp -implicitDefEqProofs only [go_sem]
 refine sCallM_any (qv _) ?_
 rintro _ _ ⟨rfl,rfl⟩
 simp -dsimp -implicitDefEqProofs only [go_sem]
 cases h0:(n.1==0) with
 |true=>
  rw [h0,if_pos rfl] at hR
  subst hR
  have qp:=fun v v2=>c_l01Pick v v2 true bs [-1,2] _ n.2 rfl (by simp) (by simp) a hl
  generalize pk bs [-1,2] n.2=pp at*
  (refine sCallT_io [1000000000] ?_;simp -dsimp -implicitDefEqProofs only [go_sem];refine sCallM_one (q30 _) ?_;simp -dsimp -implicitDefEqProofs only [go_sem])
  simp -dsimp -implicitDefEqProofs only [go_sem,h0]
  obtain ⟨r0,T,rfl⟩:∃r0 T',T=r0::T':=by cases T with
   |nil=>simp at t1
   |cons r0 T=>exact ⟨_,_,rfl⟩
  have hr0:=(t3 r0 (List.mem_cons_self ..)).1
  obtain ⟨c0,r0,rfl⟩:∃c0 r',r0=c0::r':=by cases r0 with
   |nil=>simp at hr0
   |cons c0 r0=>exact ⟨_,_,rfl⟩
  refine Later.takeOut 6000 0 0 90 _ ((c0::r0).map eI) ⟨1,false⟩ (by decide) rfl rfl (by rw [List.length_map];exact hr0) rfl fun u=> ?_
  refine Later.hook ?_
  refine Later.solo 6 mixed rfl ?_
  simp -dsimp -implicitDefEqProofs only [go_sem]
  ((repeat' (with_reducible refine ai ?_ ?_));all_goals try (first|omega|(refine ⟨?_,?_⟩<;>omega)|(exact rfl)))
  (refine sCallX_io [1000000000,14] rfl ?_;simp -dsimp -implicitDefEqProofs only [go_sem];refine sCallMX_one (qp _ _) ?_;simp -dsimp -implicitDefEqProofs only [go_sem])
  ((repeat' (with_reducible refine ai ?_ ?_));all_goals try (first|omega|(refine ⟨?_,?_⟩<;>omega)|(exact rfl)))
  all_goals first
   |(refine hk.back 6000 0 0 90 0 _ _ _ u (by decide) rfl rfl rfl (hk.go ?_)
     simp -dsimp -implicitDefEqProofs only [go_sem]
     ((repeat' (with_reducible refine ai ?_ ?_));all_goals try (first|omega|(refine ⟨?_,?_⟩<;>omega)|(exact rfl)))
     all_goals first|(refine ⟨_,.inl rfl,?_⟩;simp [eIs];done)|(simp;done)|skip)
   |skip
 |false=>
  rw [h0,if_neg (by simp)] at hR
  cases h1:(n.1==1) with
  |true=>
   rw [h1,if_pos rfl] at hR
   subst hR
   refine sCallT_ioU 6000 0 ⟨1,false⟩ _ (by decide) rfl [1000000000] ?_
   simp -dsimp -implicitDefEqProofs only [go_sem]
   refine sCallM_one (q30 _) ?_
   have tT:=tk eIs T T.length (uq12 _)
   simp -dsimp -implicitDefEqProofs only [go_sem,h0,h1]
   refine .inr ⟨by omega,_,.inl rfl,?_⟩
   rw [List.take_of_length_le (by simp)]
   simp [eIs]
  |false=>
   rw [h1,if_neg (by simp)] at hR
   cases h2:(n.1==2) with
   |true=>
    rw [h2,if_pos rfl] at hR
    refine sCallT_ioU 6000 0 ⟨1,false⟩ _ (by decide) rfl [1000000000] ?_
    simp -dsimp -implicitDefEqProofs only [go_sem]
    refine sCallM_one (q30 _) ?_
    simp -dsimp -implicitDefEqProofs only [go_sem,h0,h1,h2]
    refine Later.lp [0] [26,28,35,36] [6000,1000000000] (fun x:Nat × List (List Int) × Src=>SrcOk x.2.2∧1≤x.2.1.length∧x.2.1.length≤11∧x.2.1.length+x.1=12∧padF bs x.1 x.2.1 x.2.2=RR) (fun x=>[(3,.ref 6000 0 0 x.2.1.length)])
     (fun x=>[(6000,.row 0 ⟨1,false⟩ false (x.2.1.map eIs)),(1000000000,srcB v bs x.2.2)]) (fun x=>x.1) (12-T.length,T,n.2) ⟨a,t1,by simp only;omega,by simp only;omega,hR⟩ ?_ rfl (fun x hx=> ?_)
    · simp -dsimp -implicitDefEqProofs only [go_sem]
      ((repeat' (with_reducible refine ai ?_ ?_));all_goals try (first|omega|(refine ⟨?_,?_⟩<;>omega)|(exact rfl)))
    · obtain ⟨k,t,s⟩:=x
      obtain ⟨x1,x2,x3,x4,x5⟩:=hx
      simp only at x1 x2 x3 x4 x5 ⊢
      obtain ⟨k,rfl⟩:∃k',k=k'+1:=⟨k-1,by omega⟩
      simp only [padF] at x5
      have q2:=fun v=>c_l01Next v bs 2 s x1 hl
      have b:=nx_ok bs 2 x1
      have b3:=b.2.2.1 (by omega)
      generalize nx bs 2 s=n2 at*
      have tt:=tk eIs t t.length (uq12 _)
      have e2:=mapS eIs t (t.getD 0 [])
      have g0:(t.map eIs)[0]? =some (eIs (t.getD 0 [])):=by
       cases t with
       |nil=>simp at x2
       |cons r t=>simp
      simp -dsimp -implicitDefEqProofs only [pz,Nat.reduceBEq,Nat.reduceDiv,Nat.reduceAdd,↓reduceIte,Nat.reduceEqDiff]
      simp -dsimp -implicitDefEqProofs only [go_sem]
      (refine sCallT_io [1000000000] ?_;simp -dsimp -implicitDefEqProofs only [go_sem];refine sCallM_one (q2 _) ?_;simp -dsimp -implicitDefEqProofs only [go_sem])
      ((repeat' (with_reducible refine ai ?_ ?_));all_goals try (first|omega|(refine ⟨?_,?_⟩<;>omega)|(exact rfl)))
      cases hc:decide ((t.length:Int)<10+n2.1) with
      |true=>
       have hlt:=of_decide_eq_true hc
       rw [hc,if_pos rfl] at x5
       simp -dsimp -implicitDefEqProofs only [go_sem,hc,g0]
       refine ⟨⟨by omega,by omega⟩,.inr ⟨by omega,(k,t++[t.getD 0 []],n2.2),⟨b.2.2.2,by simp,by simp;omega,by simp;omega,x5⟩,by simp,?_⟩⟩
       simp -dsimp -implicitDefEqProofs only [go_sem,tt]
       ((repeat' (with_reducible refine ai ?_ ?_));all_goals try (first|omega|(refine ⟨?_,?_⟩<;>omega)|(exact rfl)))
       all_goals first|(simp;done)|skip
      |false=>
       rw [hc,if_neg (by simp)] at x5
       subst x5
       simp -dsimp -implicitDefEqProofs only [go_sem,hc,tt]
       ((repeat' (with_reducible refine ai ?_ ?_));all_goals try (first|omega|(refine ⟨?_,?_⟩<;>omega)|(exact rfl)))
       all_goals first|(exact ⟨_,.inl rfl,rfl⟩)|skip
   |false=>
    rw [h2,if_neg (by simp)] at hR
    cases h3:(n.1==3) with
    |true=>
     rw [h3,if_pos rfl] at hR
     subst hR
     have q2:=fun v=>c_l01Next v bs 2 n.2 a hl
     have b:=nx_ok bs 2 a
     have b3:=b.2.2.1 (by omega)
     generalize nx bs 2 n.2=n2 at*
     (refine sCallT_io [1000000000] ?_;simp -dsimp -implicitDefEqProofs only [go_sem];refine sCallM_one (q30 _) ?_;simp -dsimp -implicitDefEqProofs only [go_sem])
     simp -dsimp -implicitDefEqProofs only [go_sem,h0,h1,h2,h3]
     ((repeat' (with_reducible refine ai ?_ ?_));all_goals try (first|omega|(refine ⟨?_,?_⟩<;>omega)|(exact rfl)))
     (refine sCallT_io [1000000000] ?_;simp -dsimp -implicitDefEqProofs only [go_sem];refine sCallM_one (q2 _) ?_;simp -dsimp -implicitDefEqProofs only [go_sem])
     ((repeat' (with_reducible refine ai ?_ ?_));all_goals try (first|omega|(refine ⟨?_,?_⟩<;>omega)|(exact rfl)))
     all_goals first|(refine ⟨_,.inl rfl,?_⟩;simp [eIs];done)|(simp;done)|skip
    |false=>
     rw [h3,if_neg (by simp)] at hR
     cases h4:(n.1==4) with
     |true=>
      rw [h4,if_pos rfl] at hR
      subst hR
      (refine sCallT_io [1000000000] ?_;simp -dsimp -implicitDefEqProofs only [go_sem];refine sCallM_one (q30 _) ?_;simp -dsimp -implicitDefEqProofs only [go_sem])
      simp -dsimp -implicitDefEqProofs only [go_sem,h0,h1,h2,h3,h4]
      ((repeat' (with_reducible refine ai ?_ ?_));all_goals try (first|omega|(refine ⟨?_,?_⟩<;>omega)|(exact rfl)))
      all_goals first|(exact ⟨_,.inr ⟨_,rfl⟩,rfl⟩)|skip
     |false=>
      rw [h4,if_neg (by simp)] at hR
      subst hR
      have tT:=tk eIs T T.length (uq12 _)
      (refine sCallT_io [1000000000] ?_;simp -dsimp -implicitDefEqProofs only [go_sem];refine sCallM_one (q30 _) ?_;simp -dsimp -implicitDefEqProofs only [go_sem])
      simp -dsimp -implicitDefEqProofs only [go_sem,h0,h1,h2,h3,h4]
      ((repeat' (with_reducible refine ai ?_ ?_));all_goals try (first|omega|(refine ⟨?_,?_⟩<;>omega)|(exact rfl)))
      all_goals first|(refine ⟨_,.inl rfl,?_⟩;simp [eIs];done)|(rw [tT];done)|(simp;done)|skip
end Go.Vc
namespace Go.Vc
open Go.Proofs
theorem c_likeIntsE (xs:List Int) (h:xs.length≤9223372036854775807):Fn Tryz.prog 32 [eIs xs,eIs xs] true (· =eB true):=by
 have:=c_likeInts xs xs h
 simpa using this
theorem zeroEq:((0:Int)==0)=true:=rfl
end Go.Vc
