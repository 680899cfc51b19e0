import Derived.Test.YthdheoafaakbbaaGreatPkLawNormalOrdersD
set_option linter.unusedVariables false
set_option linter.unusedSimpArgs false
set_option linter.unnecessarySimpa false
set_option maxRecDepth 1000000
set_option maxHeartbeats 16000000
open List renaming all_eq_true→uq0,getD_eq_getElem?_getD→uq1,getElem?_eq_getElem→uq2,getElem_mem→uq3,mem_append→uq4,mem_range→uq5,range_succ→uq6,set_set→uq7,take_length→uq8,take_of_length_le→uq9
open Nat renaming le_refl→uq10
namespace Go.Vc
open Go.Proofs
theorem c_l01Same (xs ys:List Int) (h:xs.length≤9223372036854775807):Fn Tryz.prog 38 [eIs xs,eIs ys] true (· =eB (decide (xs=ys))):=by
 refine Fn.of_vcN 26 [.tmp 4] Tryz.func38 rfl rfl rfl rfl rfl (of_decide_eq_true rfl) ?_
 simp -dsimp -implicitDefEqProofs only [go_sem]
 repeat' (refine Br.intro (fun _=> ?_) (fun _=> ?_)<;>try simp -dsimp -implicitDefEqProofs only [go_sem, *])
 · rw [decide_eq_false];intro e;subst e;simp_all
 have h1:xs.length=ys.length:=by simp_all<;>omega
 refine Later.up [0,1] [13] [] xs.length (fun i=>xs.take i=ys.take i) (fun i=>[(5,eI i)]) (fun _=>[]) rfl ?_ rfl (fun i hi hI=> ?_) (fun hI=> ?_)
 · simp -dsimp -implicitDefEqProofs only [go_sem]
 · simp -dsimp -implicitDefEqProofs only [pz,Nat.reduceBEq,Nat.reduceDiv,Nat.reduceAdd,↓reduceIte,Nat.reduceEqDiff]
   have hy:i<ys.length:=by omega
   have no:xs[i]≠ys[i]→decide (xs=ys)=false:=eq_no hi hy
   have yes:xs[i]=ys[i]→xs.take (i+1)=ys.take (i+1):=eq_yes hi hy hI
   simp -dsimp -implicitDefEqProofs only [go_sem,lt_len hi,get_some hi]
   refine Later.draw mixed rfl ?_
   simp -dsimp -implicitDefEqProofs only [go_sem,get_some hi,get_some hy]
   repeat' first
    |(refine Br.intro (fun _=> ?_) (fun _=> ?_)<;>try simp -dsimp -implicitDefEqProofs only [go_sem, *])
    |(with_reducible refine ai ?_ ?_)
    |fail
   all_goals first
    |omega
    |(refine ⟨?_,?_⟩<;>omega)
    |rfl
    |(simp;done)
    |(rw [no];clear no yes;simp_all;done)
    |(refine yes ?_;clear no yes;simp_all;done)
 · simp -dsimp -implicitDefEqProofs only [pz,Nat.reduceBEq,Nat.reduceDiv,Nat.reduceAdd,↓reduceIte,Nat.reduceEqDiff]
   simp -dsimp -implicitDefEqProofs only [go_sem,nlt_len]
   have h3:xs=ys:=by rw [←uq8 (l:=xs),hI,h1,uq8]
   simp [h3]
def cmpN (x y:Int):Int:=if x<y then -1 else if y<x then 1 else 0
theorem c_isNaN (x:Int):Fn Tryz.prog 118 [eI x] true (· =eB false):=by
 refine Fn.of_vcN 6 [.tmp 2] Tryz.func118 rfl rfl rfl rfl rfl (of_decide_eq_true rfl) ?_
 have n1:(x != x)=false:=by simp
 simp -dsimp -implicitDefEqProofs only [go_sem,n1]
 ((repeat' (with_reducible refine ai ?_ ?_));all_goals try (first|omega|(refine ⟨?_,?_⟩<;>omega)|(exact rfl)))
 all_goals first|(simp;done)|skip
theorem c_cmpCompare (x y:Int):Fn Tryz.prog 96 [eI x,eI y] true (· =eI (cmpN x y)):=by
 refine Fn.of_vcN 20 [.tmp 4] Tryz.func96 rfl rfl rfl rfl rfl (of_decide_eq_true rfl) ?_
 simp -dsimp -implicitDefEqProofs only [go_sem]
 refine sCallT_one (c_isNaN x) ?_
 simp -dsimp -implicitDefEqProofs only [go_sem]
 refine sCallT_one (c_isNaN y) ?_
 unfold cmpN
 by_cases h1:x<y
 · have d1:decide (x<y)=true:=decide_eq_true h1
   rw [if_pos h1]
   simp -dsimp -implicitDefEqProofs only [go_sem,d1]
   ((repeat' (with_reducible refine ai ?_ ?_));all_goals try (first|omega|(refine ⟨?_,?_⟩<;>omega)|(exact rfl)))
   all_goals first|(simp;done)|skip
 · have d1:decide (x<y)=false:=decide_eq_false h1
   rw [if_neg h1]
   by_cases h2:y<x
   · have d2:decide (x>y)=true:=decide_eq_true h2
     rw [if_pos h2]
     simp -dsimp -implicitDefEqProofs only [go_sem,d1,d2]
     ((repeat' (with_reducible refine ai ?_ ?_));all_goals try (first|omega|(refine ⟨?_,?_⟩<;>omega)|(exact rfl)))
     all_goals first|(simp;done)|skip
   · have d2:decide (x>y)=false:=decide_eq_false h2
     rw [if_neg h2]
     simp -dsimp -implicitDefEqProofs only [go_sem,d1,d2]
     ((repeat' (with_reducible refine ai ?_ ?_));all_goals try (first|omega|(refine ⟨?_,?_⟩<;>omega)|(exact rfl)))
     all_goals first|(simp;done)|skip
def cmpL:List Int→List Int→Int
 | [],[]=>0
 | [],_::_=> -1
 |_::_,[]=>1
 |x::xs,y::ys=>if (cmpN x y != 0)=true then cmpN x y else cmpL xs ys
theorem cmpL_drop {xs ys:List Int} {i:Nat} (h:i<xs.length) (h2:i<ys.length):cmpL (xs.drop i) (ys.drop i)=if (cmpN xs[i] ys[i] != 0)=true then cmpN xs[i] ys[i] else cmpL (xs.drop (i+1)) (ys.drop (i+1)):=by
 rw [List.drop_eq_getElem_cons h,List.drop_eq_getElem_cons h2,cmpL]
theorem cmpL_more {xs ys:List Int} {i:Nat} (h:i<xs.length) (h2:ys.length≤i):cmpL (xs.drop i) (ys.drop i)=1:=by
 rw [List.drop_eq_getElem_cons h,List.drop_of_length_le h2,cmpL]
theorem cmpL_end {xs ys:List Int}:cmpL (xs.drop xs.length) (ys.drop xs.length)=if xs.length<ys.length then -1 else 0:=by
 rw [List.drop_length]
 split
 · rename_i h
   rw [List.drop_eq_getElem_cons h,cmpL]
 · rename_i h
   rw [List.drop_of_length_le (by omega),cmpL]
theorem c_Compare (xs ys:List Int) (h:xs.length≤1000000) (h2:ys.length≤1000000):Fn Tryz.prog 74 [eIs xs,eIs ys] true (· =eI (cmpL xs ys)):=by
 refine Fn.of_vcN 36 [.tmp 4] Tryz.func74 rfl rfl rfl rfl rfl (of_decide_eq_true rfl) ?_
 obtain ⟨R,hR⟩:∃R,cmpL xs ys=R:=⟨_,rfl⟩
 rw [hR]
 have hR0:cmpL (xs.drop 0) (ys.drop 0)=R:=hR
 clear hR
 simp -dsimp -implicitDefEqProofs only [go_sem]
 refine Later.up [0,1,9,10] [18,26] [] xs.length (fun i=>cmpL (xs.drop i) (ys.drop i)=R) (fun i=>[(11,eI i)]) (fun _=>[]) hR0 ?_ rfl (fun i hi hI=> ?_) (fun hI=> ?_)
 · simp -dsimp -implicitDefEqProofs only [go_sem]
 · have gi:=get_some hi
   have li:=lt_len hi
   by_cases hy:i<ys.length
   · have gy:=get_some hy
     have ge:decide ((i:Int)≥(ys.length:Int))=false:=decide_eq_false (by omega)
     rw [cmpL_drop hi hy] at hI
     have hc:=c_cmpCompare xs[i] ys[i]
     generalize cmpN xs[i] ys[i]=c at*
     generalize xs[i]=x at*
     generalize ys[i]=y at*
     simp -dsimp -implicitDefEqProofs only [pz,Nat.reduceBEq,Nat.reduceDiv,Nat.reduceAdd,↓reduceIte,Nat.reduceEqDiff]
     simp -dsimp -implicitDefEqProofs only [go_sem,gi,li,ge,gy]
     ((repeat' (with_reducible refine ai ?_ ?_));all_goals try (first|omega|(refine ⟨?_,?_⟩<;>omega)|(exact rfl)))
     refine sCallT_one hc ?_
     cases hz:(c != 0) with
     |true=>
      rw [hz,if_pos rfl] at hI
      subst hI
      simp -dsimp -implicitDefEqProofs only [go_sem,hz]
      ((repeat' (with_reducible refine ai ?_ ?_));all_goals try (first|omega|(refine ⟨?_,?_⟩<;>omega)|(exact rfl)))
      all_goals first|(simp;done)|skip
     |false=>
      rw [hz,if_neg (by simp)] at hI
      simp -dsimp -implicitDefEqProofs only [go_sem,hz]
      ((repeat' (with_reducible refine ai ?_ ?_));all_goals try (first|omega|(refine ⟨?_,?_⟩<;>omega)|(exact rfl)))
      all_goals first|exact hI|(simp;done)|skip
   · have ge:decide ((i:Int)≥(ys.length:Int))=true:=decide_eq_true (by omega)
     rw [cmpL_more hi (by omega)] at hI
     subst hI
     simp -dsimp -implicitDefEqProofs only [pz,Nat.reduceBEq,Nat.reduceDiv,Nat.reduceAdd,↓reduceIte,Nat.reduceEqDiff]
     simp -dsimp -implicitDefEqProofs only [go_sem,gi,li,ge]
     ((repeat' (with_reducible refine ai ?_ ?_));all_goals try (first|omega|(refine ⟨?_,?_⟩<;>omega)|(exact rfl)))
     all_goals first|(simp;done)|skip
 · rw [cmpL_end] at hI
   subst hI
   cases hlt:decide ((xs.length:Int)<(ys.length:Int)) with
   |true=>
    have hlt':=of_decide_eq_true hlt
    rw [if_pos (by omega)]
    simp -dsimp -implicitDefEqProofs only [pz,Nat.reduceBEq,Nat.reduceDiv,Nat.reduceAdd,↓reduceIte,Nat.reduceEqDiff]
    simp -dsimp -implicitDefEqProofs only [go_sem,nlt_len,hlt]
    ((repeat' (with_reducible refine ai ?_ ?_));all_goals try (first|omega|(refine ⟨?_,?_⟩<;>omega)|(exact rfl)))
    all_goals first|(simp;done)|skip
   |false=>
    have hlt':=of_decide_eq_false hlt
    rw [if_neg (by omega)]
    simp -dsimp -implicitDefEqProofs only [pz,Nat.reduceBEq,Nat.reduceDiv,Nat.reduceAdd,↓reduceIte,Nat.reduceEqDiff]
    simp -dsimp -implicitDefEqProofs only [go_sem,nlt_len,hlt]
    ((repeat' (with_reducible refine ai ?_ ?_));all_goals try (first|omega|(refine ⟨?_,?_⟩<;>omega)|(exact rfl)))
    all_goals first|(simp;done)|skip
theorem c_compareKeys (xs ys:List Int) (h:xs.length≤1000000) (h2:ys.length≤1000000):Fn Tryz.prog 45 [eIs xs,eIs ys] true (· =eI (cmpL xs ys)):=by
 refine Fn.of_vcN 8 [.tmp 4] Tryz.func45 rfl rfl rfl rfl rfl (of_decide_eq_true rfl) ?_
 simp -dsimp -implicitDefEqProofs only [go_sem]
 refine sCallT_one (c_Compare xs ys h h2) ?_
 simp -dsimp -implicitDefEqProofs only [go_sem]
 ((repeat' (with_reducible refine ai ?_ ?_));all_goals try (first|omega|(refine ⟨?_,?_⟩<;>omega)|(exact rfl)))
 all_goals first|(simp;done)|skip
end Go.Vc
namespace Go.Vc
open Go.Proofs
attribute [go_sem] Option.map_none Nat.sub_zero
def absN (x:Int):Int:=if x< -x then -x else x
def runAt (c:List Int):Nat→Nat
 |0=>1
 |i+1=>if c.getD (i+1) 0=c.getD i 0 then runAt c i+1 else 1
theorem runAt_spec (c:List Int) (i:Nat):1≤runAt c i∧runAt c i≤i+1∧(∀j,j<runAt c i→c.getD (i-j) 0=c.getD i 0)∧(runAt c i<i+1→c.getD (i-runAt c i) 0≠c.getD i 0):=by
 induction i with
 |zero=>exact ⟨uq10 _,uq10 _,fun j hj=>by simp [runAt] at hj;subst hj;rfl,fun h=>by simp [runAt] at h⟩
 |succ i ih=>
  obtain ⟨h1,h2,h3,h4⟩:=ih
  simp only [runAt]
  split
  · rename_i e
    refine ⟨by omega,by omega,fun j hj=> ?_,fun hj=> ?_⟩
    · rw [e]
      cases j with
      |zero=>exact e
      |succ j=>rw [show i+1-(j+1)=i-j by omega];exact h3 j (by omega)
    · rw [e,show i+1-(runAt c i+1)=i-runAt c i by omega];exact h4 (by omega)
  · rename_i e
    refine ⟨by omega,by omega,fun j hj=> ?_,fun _=> ?_⟩
    · have:j=0:=by omega
      subst this;rfl
    · show c.getD i 0≠_
      exact fun h=>e h.symm
theorem runAt_take (c:List Int) (n i:Nat) (h:i<n):runAt (c.take n) i=runAt c i:=by
 have g:∀j,j<n→(c.take n).getD j 0=c.getD j 0:=fun j hj=>by simp [uq1,List.getElem?_take,hj]
 induction i with
 |zero=>rfl
 |succ i ih=>simp only [runAt];rw [g (i+1) h,g i (by omega),ih (by omega)]
def runTo (c:List Int) (i:Nat):Nat:=if i=0 then 0 else runAt c (i-1)
def mostTo (c:List Int):Nat→Nat
 |0=>0
 |i+1=>if mostTo c i<runAt c i then runAt c i else mostTo c i
theorem mostTo_le (c:List Int) (s:Int) (hs:0≤s) (n:Nat):decide ((mostTo c n:Int)>s)= !((List.range n).all fun i=>decide ((runAt c i:Int)≤s)):=by
 induction n with
 |zero=>simp [mostTo];omega
 |succ n ih=>
  rw [range_all_succ,Bool.not_and,←ih]
  simp only [mostTo]
  split
  · by_cases h:(runAt c n:Int)≤s
    · rw [decide_eq_true h,decide_eq_false (show ¬(mostTo c n:Int)>s by omega),decide_eq_false (show ¬(runAt c n:Int)>s by omega)];rfl
    · rw [decide_eq_false h,decide_eq_true (show (runAt c n:Int)>s by omega)];simp
  · by_cases h:(runAt c n:Int)≤s
    · rw [decide_eq_true h];simp
    · rw [decide_eq_false h,decide_eq_true (show (mostTo c n:Int)>s by omega)];simp
def stepAt (m:MkM) (c:List Int) (i:Nat):Bool:=i==0||decide (absN (c.getD i 0-c.getD (i-1) 0)≤m.step)
def kindsTo (c:List Int) (n:Nat):Nat:=((List.range n).filter fun i=> !has (c.take i) (c.getD i 0)).length
theorem kindsTo_succ (c:List Int) (i:Nat) (h:i<c.length):(kindsTo c (i+1):Int)=if (!has (c.take i) c[i])=true then (kindsTo c i:Int)+1 else kindsTo c i:=by
 have g:c.getD i 0=c[i]:=by simp [uq1,h]
 rw [kindsTo,uq6,List.filter_append,List.filter_cons,g]
 split<;>simp [kindsTo]
theorem kindsTo_le (c:List Int) (i:Nat):kindsTo c i≤i:=by
 rw [kindsTo];exact Nat.le_trans (List.length_filter_le _ _) (by simp)
def fault (m:MkM) (c:List Int):Int:=
 if (c.length:Int)≠m.chambers then 1
 else if (c.all fun x=>isIn x 0 (m.depths-1))=false then 2
 else if ((List.range c.length).all (stepAt m c))=false then 3
 else if ((List.range c.length).all fun i=>decide ((runAt c i:Int)≤m.same))=false then 4
 else if (kindsTo c c.length:Int)<m.least then 5 else 0
attribute [irreducible] runAt mostTo kindsTo
theorem c_l01Abs (x:Int) (h: -1000≤x∧x≤1000):Fn Tryz.prog 93 [eI x] true (· =eI (absN x)):=by
 refine Fn.of_vcN 7 [.tmp 2] Tryz.func93 rfl rfl rfl rfl rfl (of_decide_eq_true rfl) ?_
 simp -dsimp -implicitDefEqProofs only [go_sem]
 repeat' first
  |(refine Br.intro (fun _=> ?_) (fun _=> ?_)<;>try simp -dsimp -implicitDefEqProofs only [go_sem, *])
  |(with_reducible refine ai ?_ ?_)
 all_goals first|omega|(refine ⟨?_,?_⟩<;>omega)|rfl|(simp;done)|(simp_all [absN];done)|(simp_all [absN];omega)|(simp_all [absN];split<;>simp_all<;>omega)|skip
theorem c_absolute (x:Int) (h: -1000≤x∧x≤1000):Fn Tryz.prog 180 [eI x] true (· =eI (absN x)):=by
 refine Fn.of_vcN 7 [.tmp 2] Tryz.func180 rfl rfl rfl rfl rfl (of_decide_eq_true rfl) ?_
 simp -dsimp -implicitDefEqProofs only [go_sem]
 repeat' first
  |(refine Br.intro (fun _=> ?_) (fun _=> ?_)<;>try simp -dsimp -implicitDefEqProofs only [go_sem, *])
  |(with_reducible refine ai ?_ ?_)
 all_goals first|omega|(refine ⟨?_,?_⟩<;>omega)|rfl|(simp;done)|(simp_all [absN];done)|(simp_all [absN];omega)|(simp_all [absN];split<;>simp_all<;>omega)|skip
theorem c_l02Kinds (c:List Int) (h:c.length≤1048576):Fn Tryz.prog 71 [eIs c] true (· =eI (kindsTo c c.length)):=by
 refine Fn.of_vcN 23 [.tmp 2] Tryz.func71 rfl rfl rfl rfl rfl (of_decide_eq_true rfl) ?_
 simp -dsimp -implicitDefEqProofs only [go_sem]
 refine Later.up [0] [7,18] [] c.length (fun _=>True) (fun i=>[(4,eI i),(3,eI (kindsTo c i))]) (fun _=>[]) trivial ?_ rfl (fun i hi _=> ?_) (fun _=> ?_)
 · simp -dsimp -implicitDefEqProofs only [go_sem]
   all_goals first|(simp [kindsTo];done)|skip
 · have gi:=get_some hi
   have li:=lt_len hi
   have hs:=kindsTo_succ c i hi
   have hle:=kindsTo_le c i
   simp -dsimp -implicitDefEqProofs only [pz,Nat.reduceBEq,Nat.reduceDiv,Nat.reduceAdd,↓reduceIte,Nat.reduceEqDiff]
   rw [hs]
   clear hs
   simp -dsimp -implicitDefEqProofs only [go_sem,li,gi]
   repeat' first
    |(refine Br.intro (fun _=> ?_) (fun _=> ?_)<;>try simp -dsimp -implicitDefEqProofs only [go_sem, *])
    |(with_reducible refine ai ?_ ?_)
    |(refine Later.draw mixed rfl ?_;try simp -dsimp -implicitDefEqProofs only [go_sem, *])
    |(rw [←List.map_take];refine sCallX_one (c_l01Has (c.take i) c[i] (by simp;omega)) ?_;try simp -dsimp -implicitDefEqProofs only [go_sem, *])
   all_goals first
    |omega|(refine ⟨?_,?_⟩<;>omega)|(simp;done)|(simp;omega)
    |rfl
    |(simp_all;done)
    |(simp_all;omega)
    |skip
 · have hle:=kindsTo_le c c.length
   simp -dsimp -implicitDefEqProofs only [pz,Nat.reduceBEq,Nat.reduceDiv,Nat.reduceAdd,↓reduceIte,Nat.reduceEqDiff]
   simp -dsimp -implicitDefEqProofs only [go_sem,nlt_len]
theorem c_different (c:List Int) (h:c.length≤1048576):Fn Tryz.prog 182 [eIs c] true (· =eI (kindsTo c c.length)):=by
 refine Fn.of_vcN 23 [.tmp 2] Tryz.func182 rfl rfl rfl rfl rfl (of_decide_eq_true rfl) ?_
 simp -dsimp -implicitDefEqProofs only [go_sem]
 refine Later.up [0,6,7] [17] [] c.length (fun _=>True) (fun i=>[(8,eI i),(3,eI (kindsTo c i))]) (fun _=>[]) trivial ?_ rfl (fun i hi _=> ?_) (fun _=> ?_)
 · simp -dsimp -implicitDefEqProofs only [go_sem]
   all_goals first|(simp [kindsTo];done)|skip
 · have gi:=get_some hi
   have li:=lt_len hi
   have hs:=kindsTo_succ c i hi
   have hle:=kindsTo_le c i
   simp -dsimp -implicitDefEqProofs only [pz,Nat.reduceBEq,Nat.reduceDiv,Nat.reduceAdd,↓reduceIte,Nat.reduceEqDiff]
   rw [hs]
   clear hs
   simp -dsimp -implicitDefEqProofs only [go_sem,li,gi]
   repeat' first
    |(refine Br.intro (fun _=> ?_) (fun _=> ?_)<;>try simp -dsimp -implicitDefEqProofs only [go_sem, *])
    |(with_reducible refine ai ?_ ?_)
    |(rw [←List.map_take];refine sCallT_one (c_Contains (c.take i) c[i] (by simp;omega)) ?_;try simp -dsimp -implicitDefEqProofs only [go_sem, *])
   all_goals first
    |omega|(refine ⟨?_,?_⟩<;>omega)|(simp;done)|(simp;omega)
    |rfl
    |(simp_all;done)
    |(simp_all;omega)
    |skip
 · have hle:=kindsTo_le c c.length
   simp -dsimp -implicitDefEqProofs only [pz,Nat.reduceBEq,Nat.reduceDiv,Nat.reduceAdd,↓reduceIte,Nat.reduceEqDiff]
   simp -dsimp -implicitDefEqProofs only [go_sem,nlt_len]
theorem c_sameRun (c:List Int) (h0:0<c.length) (h:c.length≤1048576):Fn Tryz.prog 181 [eIs c] true (· =eI (runAt c (c.length-1))):=by
 refine Fn.of_vcN 28 [.tmp 2] Tryz.func181 rfl rfl rfl rfl rfl (of_decide_eq_true rfl) ?_
 obtain ⟨p1,p2,p3,p4⟩:=runAt_spec c (c.length-1)
 generalize hR:runAt c (c.length-1)=R at p1 p2 p3 p4
 have gl:c[c.length-1]? =some (c.getD (c.length-1) 0):=by simp [uq1,show c.length-1<c.length by omega]
 generalize c.getD (c.length-1) 0=z at gl p3 p4
 have q3:∀j,j<R→c[c.length-1-j]? =some z:=fun j hj=>by
  rw [←p3 j hj];simp [uq1,show c.length-1-j<c.length by omega]
 have e1:((c.length:Int)-1).toNat=c.length-1:=by omega
 simp -dsimp -implicitDefEqProofs only [go_sem]
 refine Later.up [0] [6,11,19] [] (R-1) (fun _=>True) (fun i=>[(3,eI ((i+1:Nat):Int))]) (fun _=>[]) trivial ?_ rfl (fun i hi _=> ?_) (fun _=> ?_)
 · simp -dsimp -implicitDefEqProofs only [go_sem]
   all_goals first|(simp;done)|skip
 · have g:=q3 (i+1) (by omega)
   have li:decide (((i+1:Nat):Int)<(c.length:Int))=true:=decide_eq_true (by omega)
   have e2:((c.length:Int)-1-((i+1:Nat):Int)).toNat=c.length-1-(i+1):=by omega
   clear q3 p3 p4
   simp -dsimp -implicitDefEqProofs only [pz,Nat.reduceBEq,Nat.reduceDiv,Nat.reduceAdd,↓reduceIte,Nat.reduceEqDiff]
   simp -dsimp -implicitDefEqProofs only [go_sem,li]
   repeat' first
    |(refine Br.intro (fun _=> ?_) (fun _=> ?_)<;>try simp -dsimp -implicitDefEqProofs only [go_sem, *])
    |(with_reducible refine ai ?_ ?_)
    |(refine Later.draw mixed rfl ?_;try simp -dsimp -implicitDefEqProofs only [go_sem,li,e1,e2,g,gl])
   all_goals first
    |omega|(refine ⟨?_,?_⟩<;>omega)|(simp;done)|(simp;omega)
    |rfl
    |(simp_all;done)
    |(simp_all;omega)
    |skip
 · have er:R-1+1=R:=by omega
   clear q3 p3
   rw [er]
   simp -dsimp -implicitDefEqProofs only [pz,Nat.reduceBEq,Nat.reduceDiv,Nat.reduceAdd,↓reduceIte,Nat.reduceEqDiff]
   by_cases hlt:R<c.length
   · have g:c[c.length-1-R]? =some (c.getD (c.length-1-R) 0):=by simp [uq1,show c.length-1-R<c.length by omega]
     have hz:(c.getD (c.length-1-R) 0==z)=false:=beq_eq_false_iff_ne.2 (p4 (by omega))
     have li:decide ((R:Int)<(c.length:Int))=true:=decide_eq_true (by omega)
     have e2:((c.length:Int)-1-(R:Int)).toNat=c.length-1-R:=by omega
     generalize c.getD (c.length-1-R) 0=y at g hz
     clear p4
     simp -dsimp -implicitDefEqProofs only [go_sem,li]
     repeat' first
      |(refine Br.intro (fun _=> ?_) (fun _=> ?_)<;>try simp -dsimp -implicitDefEqProofs only [go_sem, *])
      |(with_reducible refine ai ?_ ?_)
      |(refine Later.draw mixed rfl ?_;try simp -dsimp -implicitDefEqProofs only [go_sem,li,e1,e2,g,gl,hz])
     all_goals first
      |omega|(refine ⟨?_,?_⟩<;>omega)|(simp;done)|(simp;omega)
      |rfl
      |(simp_all;done)
      |(simp_all;omega)
      |skip
   · have li:decide ((R:Int)<(c.length:Int))=false:=decide_eq_false (by omega)
     clear p4
     simp -dsimp -implicitDefEqProofs only [go_sem,li]
     repeat' first
      |(refine Br.intro (fun _=> ?_) (fun _=> ?_)<;>try simp -dsimp -implicitDefEqProofs only [go_sem, *])
      |(with_reducible refine ai ?_ ?_)
      |(refine Later.draw mixed rfl ?_;try simp -dsimp -implicitDefEqProofs only [go_sem,li])
     all_goals first
      |omega|(refine ⟨?_,?_⟩<;>omega)|(simp;done)|(simp;omega)
      |rfl
      |(simp_all;done)
      |(simp_all;omega)
      |skip
end Go.Vc
namespace Go.Vc
open Go.Proofs
theorem c_l02CutsK (m:MkM) (c:List Int) (hm:isMk m=true) (h:c.length≤1048576):Fn Tryz.prog 178 [eMk m,eIs c] true (· =eB ((c.all fun x=>isIn x 0 (m.depths-1))&&((c.length:Int)==m.chambers))):=by
 refine Fn.of_vcN 26 [.tmp 4] Tryz.func178 rfl rfl rfl rfl rfl (of_decide_eq_true rfl) ?_
 have hb:=isMk_num hm
 simp -dsimp -implicitDefEqProofs only [go_sem]
 refine Later.up [1,2] [8,19] [] c.length (fun i=>(c.take i).all (fun x=>isIn x 0 (m.depths-1))) (fun i=>[(5,eI i)]) (fun _=>[]) (by simp) ?_ rfl (fun i hi hI=> ?_) (fun hI=> ?_)
 · simp -dsimp -implicitDefEqProofs only [go_sem]
 · have gi:=get_some hi
   have li:=lt_len hi
   have no:isIn c[i] 0 (m.depths-1)=false→(c.all fun x=>isIn x 0 (m.depths-1))=false:=fun h=>all_no (p:=fun x=>isIn x 0 (m.depths-1)) hi h
   have yes:isIn c[i] 0 (m.depths-1)=true→(c.take (i+1)).all (fun x=>isIn x 0 (m.depths-1))=true:=fun h=>by rw [all_take _ _ _ hi,hI,h];rfl
   simp -dsimp -implicitDefEqProofs only [pz,Nat.reduceBEq,Nat.reduceDiv,Nat.reduceAdd,↓reduceIte,Nat.reduceEqDiff]
   simp -dsimp -implicitDefEqProofs only [go_sem,li,gi]
   repeat' first
    |(refine Br.intro (fun _=> ?_) (fun _=> ?_)<;>try simp -dsimp -implicitDefEqProofs only [go_sem, *])
    |(with_reducible refine ai ?_ ?_)
    |(refine Later.draw mixed rfl ?_;try simp -dsimp -implicitDefEqProofs only [go_sem, *])
    |(refine sCallX_one (c_l01In _ _ _) ?_;try simp -dsimp -implicitDefEqProofs only [go_sem, *])
   all_goals first
    |omega
    |(refine ⟨?_,?_⟩<;>omega)
    |rfl
    |(simp;done)
    |(rw [no (by simp_all)];rfl)
    |(refine yes ?_;simp_all;done)
    |skip
 · simp -dsimp -implicitDefEqProofs only [pz,Nat.reduceBEq,Nat.reduceDiv,Nat.reduceAdd,↓reduceIte,Nat.reduceEqDiff]
   rw [uq8] at hI
   simp -dsimp -implicitDefEqProofs only [go_sem,nlt_len]
   rw [hI]
   rfl
theorem c_areCutsK (m:MkM) (c:List Int) (hm:isMk m=true) (h:c.length≤1048576):Fn Tryz.prog 179 [eMk m,eIs c] true (· =eB (((c.length:Int)==m.chambers)&&(c.all fun x=>isIn x 0 (m.depths-1)))):=by
 refine Fn.of_vcN 17 [.tmp 4] Tryz.func179 rfl rfl rfl rfl rfl (of_decide_eq_true rfl) ?_
 have hb:=isMk_num hm
 simp -dsimp -implicitDefEqProofs only [go_sem]
 repeat' first
  |(refine Br.intro (fun _=> ?_) (fun _=> ?_)<;>try simp -dsimp -implicitDefEqProofs only [go_sem, *])
  |(with_reducible refine ai ?_ ?_)
  |(refine sCallT_one (c_allWithin c 0 (m.depths-1) (by omega)) ?_;try simp -dsimp -implicitDefEqProofs only [go_sem, *])
 all_goals first
  |omega
  |(refine ⟨?_,?_⟩<;>omega)
  |(simp_all;done)
  |skip
theorem elem_in {m:MkM} {c:List Int} (hm:isMk m=true) (ha:(c.all fun x=>isIn x 0 (m.depths-1))=true) (i:Nat) (hi:i<c.length):0≤c[i]∧c[i]≤7:=by
 have:=isMk_num hm
 rw [uq0] at ha
 have:=ha _ (uq3 hi)
 simp [isIn] at this
 omega
theorem isMk_same {m:MkM} (h:isMk m=true):1≤m.same∧m.same≤6∧1≤m.least∧1≤m.step:=by
 simp only [isMk,Bool.and_eq_true,isIn,decide_eq_true_eq] at h
 omega
theorem c_l02Fault (m:MkM) (c:List Int) (hm:isMk m=true) (h:c.length≤1048576):Fn Tryz.prog 169 [eMk m,eIs c] true (· =eI (fault m c)):=by
 refine Fn.of_vcN 71 [.tmp 4] Tryz.func169 rfl rfl rfl rfl rfl (of_decide_eq_true rfl) ?_
 rcases hl:((c.length:Int)==m.chambers) with _|_
 · have hF:fault m c=1:=by rw [fault,if_pos (by simpa using hl)]
   rw [hF]
   simp -dsimp -implicitDefEqProofs only [go_sem,hl]
   repeat' first
    |(refine Br.intro (fun _=> ?_) (fun _=> ?_)<;>try simp -dsimp -implicitDefEqProofs only [go_sem, *])
    |(with_reducible refine ai ?_ ?_)
   all_goals (first|omega|(refine ⟨?_,?_⟩<;>omega)|(simp;done)|(simp;omega)|(refine ⟨?_,?_⟩<;>omega)|rfl|(simp;done)|(simp_all;done)|(simp_all;omega)|(exfalso;simp_all [bne];done)|skip)
 have hle:¬(c.length:Int)≠m.chambers:=by simpa using hl
 rcases ha:(c.all fun x=>isIn x 0 (m.depths-1)) with _|_
 · have hF:fault m c=2:=by rw [fault,if_neg hle,if_pos ha]
   have hc:=c_l02CutsK m c hm h
   rw [ha,hl] at hc
   rw [hF]
   clear hF ha hle
   simp -dsimp -implicitDefEqProofs only [go_sem,hl]
   repeat' first
    |(refine Br.intro (fun _=> ?_) (fun _=> ?_)<;>try simp -dsimp -implicitDefEqProofs only [go_sem, *])
    |(with_reducible refine ai ?_ ?_)
    |(refine sCallT_one (hc) ?_;try simp -dsimp -implicitDefEqProofs only [go_sem, *])
   all_goals (first|omega|(refine ⟨?_,?_⟩<;>omega)|(simp;done)|(simp;omega)|(refine ⟨?_,?_⟩<;>omega)|rfl|(simp;done)|(simp_all;done)|(simp_all;omega)|(exfalso;simp_all [bne];done)|skip)
 have hF:fault m c=if ((List.range c.length).all (stepAt m c))=false then 3 else if ((List.range c.length).all fun i=>decide ((runAt c i:Int)≤m.same))=false then 4 else if (kindsTo c c.length:Int)<m.least then 5 else 0:=by
  rw [fault,if_neg hle,if_neg (by simp [ha])]
 have hc:=c_l02CutsK m c hm h
 rw [ha,hl] at hc
 have hel:=elem_in hm ha
 have hsm:=isMk_same hm
 have hkl:=kindsTo_le c c.length
 have hch:c.length≤6:=by have:=isMk_num hm;omega
 clear ha hle
 simp -dsimp -implicitDefEqProofs only [go_sem,hl]
 repeat' first
  |(refine Br.intro (fun _=> ?_) (fun _=> ?_)<;>try simp -dsimp -implicitDefEqProofs only [go_sem, *])
  |(with_reducible refine ai ?_ ?_)
  |(refine sCallT_one (hc) ?_;try simp -dsimp -implicitDefEqProofs only [go_sem, *])
 all_goals try (first|omega|(simp;done)|(simp_all;done))
 clear hl hc
 refine Later.up [1,2] [19,36,59] [] c.length (fun i=>(List.range i).all (stepAt m c)) (fun i=>[(7,eI i),(5,eI (runTo c i)),(6,eI (mostTo c i))]) (fun _=>[]) (by simp) ?_ rfl (fun i hi hI=> ?_) (fun hI=> ?_)
 · have h0:mostTo c 0=0:=by unfold mostTo;rfl
   rw [show runTo c 0=0 from rfl,h0]
   simp -dsimp -implicitDefEqProofs only [go_sem]
   all_goals (first|omega|(refine ⟨?_,?_⟩<;>omega)|(simp;done)|(simp;omega)|(refine ⟨?_,?_⟩<;>omega)|rfl|(simp;done)|(simp_all;done)|(simp_all;omega)|(exfalso;simp_all [bne];done)|skip)
 · have no:stepAt m c i=false→fault m c=3:=fun h=>by rw [hF,if_pos (range_all_no hi h)]
   have yes:stepAt m c i=true→(List.range (i+1)).all (stepAt m c)=true:=fun h=>by rw [range_all_succ,hI,h];rfl
   have hM:((mostTo c (i+1):Nat):Int)=if ((runTo c (i+1):Nat):Int)>(mostTo c i:Int) then ((runTo c (i+1):Nat):Int) else (mostTo c i:Int):=by
    rw [show runTo c (i+1)=runAt c i from rfl]
    show ((mostTo c (i+1):Nat):Int)=_
    rw [show mostTo c (i+1)=if mostTo c i<runAt c i then runAt c i else mostTo c i by rw [mostTo]]
    by_cases hlt:mostTo c i<runAt c i
    · rw [if_pos hlt,if_pos (by omega)]
    · rw [if_neg hlt,if_neg (by omega)]
   have hrb:runTo c i≤i∧runTo c (i+1)≤i+1:=by
    refine ⟨?_,(runAt_spec c i).2.1⟩
    rw [runTo];split
    · omega
    · have:=(runAt_spec c (i-1)).2.1;omega
   have hmb:mostTo c i≤c.length:=by
    have key:∀n,mostTo c n≤n:=fun n=>by
     induction n with
     |zero=>unfold mostTo;omega
     |succ n ih=>rw [mostTo];have:=(runAt_spec c n).2.1;split<;>omega
    have:=key i;omega
   have e1:=hel i hi
   have gi:=get_some hi
   have li:=lt_len hi
   clear hF hI
   generalize mostTo c i=M at hM hmb
   generalize mostTo c (i+1)=M' at hM
   by_cases hi0:0<i
   rotate_left
   · have g3:decide ((i:Int)>0)=false:=by simp;omega
     have hR:runTo c i=0∧runTo c (i+1)=1:=by
      have e0:i=0:=by omega
      subst e0
      exact ⟨rfl,by show runAt c 0=1;unfold runAt;rfl⟩
     have hs:stepAt m c i=true:=by
      have e0:i=0:=by omega
      subst e0;rfl
     rw [hR.1,hR.2]
     rw [hR.2] at hM
     clear hR hrb no
     have yes:=yes hs
     simp -dsimp -implicitDefEqProofs only [pz,Nat.reduceBEq,Nat.reduceDiv,Nat.reduceAdd,↓reduceIte,Nat.reduceEqDiff]
     rw [hM]
     simp -dsimp -implicitDefEqProofs only [go_sem,li,gi,g3]
     repeat' first
      |(refine Br.intro (fun _=> ?_) (fun _=> ?_)<;>try simp -dsimp -implicitDefEqProofs only [go_sem, *])
      |(with_reducible refine ai ?_ ?_)
      |(refine Later.draw mixed rfl ?_;try simp -dsimp -implicitDefEqProofs only [go_sem,li,gi,g3])
     all_goals first
      |exact yes
      |(first|omega|(refine ⟨?_,?_⟩<;>omega)|(simp;done)|(simp;omega)|(refine ⟨?_,?_⟩<;>omega)|rfl|(simp;done)|(simp_all;done)|(simp_all;omega)|(exfalso;simp_all [bne];done)|skip)
   · have hi':i-1<c.length:=by omega
     have e2:=hel (i-1) hi'
     have g2:c[((i:Int)-1).toNat]? =some c[i-1]:=by rw [pred_toNat hi0];exact get_some hi'
     have g3:decide ((i:Int)>0)=true:=by simp;omega
     have hs:stepAt m c i=decide (absN (c[i]-c[i-1])≤m.step):=by
      rw [stepAt,show (i==0)=false by simp;omega]
      simp [uq1,hi,hi']
     have hR:((runTo c (i+1):Nat):Int)=if (c[i]==c[i-1])=true then (runTo c i:Int)+1 else 0+1:=by
      obtain ⟨j,rfl⟩:∃j,i=j+1:=⟨i-1,by omega⟩
      rw [show runTo c (j+1+1)=runAt c (j+1) from rfl,show runTo c (j+1)=runAt c j from rfl,runAt]
      simp only [Nat.add_sub_cancel]
      have q1:c.getD (j+1) 0=c[j+1]:=by simp [uq1,hi]
      have q2:c.getD j 0=c[j]:=by simp [uq1,show j<c.length by omega]
      rw [q1,q2]
      by_cases hq:c[j+1]=c[j]
      · rw [if_pos hq,if_pos (by simpa using hq)];simp
      · rw [if_neg hq,if_neg (by simpa using hq)];simp
     rw [hs] at no yes
     have yes':decide (absN (c[i]-c[i-1])>m.step)=false→(List.range (i+1)).all (stepAt m c)=true:=fun h=>yes (decide_eq_true (by have:=of_decide_eq_false h;omega))
     have no':decide (absN (c[i]-c[i-1])>m.step)=true→fault m c=3:=fun h=>no (decide_eq_false (by have:=of_decide_eq_true h;omega))
     have hab:absN (c[i]-c[i-1])≤7:=by unfold absN;split<;>omega
     have hab0:0≤absN (c[i]-c[i-1]):=by unfold absN;split<;>omega
     generalize runTo c i=R at hR hrb
     generalize runTo c (i+1)=R' at hR hrb hM
     clear hs
     simp -dsimp -implicitDefEqProofs only [pz,Nat.reduceBEq,Nat.reduceDiv,Nat.reduceAdd,↓reduceIte,Nat.reduceEqDiff]
     rw [hM]
     clear hM
     rw [hR]
     simp -dsimp -implicitDefEqProofs only [go_sem,li,gi,g2,g3]
     repeat' first
      |(refine Br.intro (fun _=> ?_) (fun _=> ?_)<;>try simp -dsimp -implicitDefEqProofs only [go_sem, *])
      |(with_reducible refine ai ?_ ?_)
      |(refine Later.draw mixed rfl ?_;try simp -dsimp -implicitDefEqProofs only [go_sem,li,gi,g2,g3])
      |(refine sCallX_one (c_l01Abs _ (by omega)) ?_;try simp -dsimp -implicitDefEqProofs only [go_sem, *])
     all_goals first
      |(rw [no' (by assumption)];done)
      |(rw [←uq6];exact yes' (by assumption))
      |(first|omega|(refine ⟨?_,?_⟩<;>omega)|(simp;done)|(simp;omega)|(refine ⟨?_,?_⟩<;>omega)|rfl|(simp;done)|(simp_all;done)|(simp_all;omega)|(exfalso;simp_all [bne];done)|skip)
 · have hMl:=mostTo_le c m.same (by omega) c.length
   rw [hI,if_neg (by decide)] at hF
   rw [hF]
   clear hF hel hI
   rcases hq:((List.range c.length).all fun i=>decide ((runAt c i:Int)≤m.same)) with _|_
   all_goals
    rw [hq] at hMl
    clear hq
    by_cases hk:(kindsTo c c.length:Int)<m.least
   all_goals
    have hk':=hk
    first|rw [if_pos hk]|rw [if_neg hk]
    first|replace hk':=decide_eq_true hk'|replace hk':=decide_eq_false hk'
    clear hk
    simp -dsimp -implicitDefEqProofs only [pz,Nat.reduceBEq,Nat.reduceDiv,Nat.reduceAdd,↓reduceIte,Nat.reduceEqDiff]
    simp -dsimp -implicitDefEqProofs only [go_sem,nlt_len,hMl]
    repeat' first
     |(refine Br.intro (fun _=> ?_) (fun _=> ?_)<;>try simp -dsimp -implicitDefEqProofs only [go_sem, *])
     |(with_reducible refine ai ?_ ?_)
     |(refine Later.draw mixed rfl ?_;try simp -dsimp -implicitDefEqProofs only [go_sem,nlt_len,hMl,hk'])
     |(refine sCallX_one (c_l02Kinds c h) ?_;try simp -dsimp -implicitDefEqProofs only [go_sem, *])
    all_goals (first|omega|(refine ⟨?_,?_⟩<;>omega)|(simp;done)|(simp;omega)|(refine ⟨?_,?_⟩<;>omega)|rfl|(simp;done)|(simp_all;done)|(simp_all;omega)|(exfalso;simp_all [bne];done)|skip)
theorem c_keyFault (m:MkM) (c:List Int) (hm:isMk m=true) (h:c.length≤1048576):Fn Tryz.prog 171 [eMk m,eIs c] true (· =eI (fault m c)):=by
 refine Fn.of_vcN 55 [.tmp 4] Tryz.func171 rfl rfl rfl rfl rfl (of_decide_eq_true rfl) ?_
 rcases hl:((c.length:Int)==m.chambers) with _|_
 · have hF:fault m c=1:=by rw [fault,if_pos (by simpa using hl)]
   rw [hF]
   simp -dsimp -implicitDefEqProofs only [go_sem,hl]
   repeat' first
    |(refine Br.intro (fun _=> ?_) (fun _=> ?_)<;>try simp -dsimp -implicitDefEqProofs only [go_sem, *])
    |(with_reducible refine ai ?_ ?_)
   all_goals (first|omega|(refine ⟨?_,?_⟩<;>omega)|(simp;done)|(simp;omega)|(refine ⟨?_,?_⟩<;>omega)|rfl|(simp;done)|(simp_all;done)|(simp_all;omega)|(exfalso;simp_all [bne];done)|skip)
 have hle:¬(c.length:Int)≠m.chambers:=by simpa using hl
 have hc:=c_areCutsK m c hm h
 rcases ha:(c.all fun x=>isIn x 0 (m.depths-1)) with _|_
 · have hF:fault m c=2:=by rw [fault,if_neg hle,if_pos ha]
   rw [ha,hl] at hc
   rw [hF]
   clear hF ha hle
   simp -dsimp -implicitDefEqProofs only [go_sem,hl]
   repeat' first
    |(refine Br.intro (fun _=> ?_) (fun _=> ?_)<;>try simp -dsimp -implicitDefEqProofs only [go_sem, *])
    |(with_reducible refine ai ?_ ?_)
    |(refine sCallT_one (hc) ?_;try simp -dsimp -implicitDefEqProofs only [go_sem, *])
   all_goals (first|omega|(refine ⟨?_,?_⟩<;>omega)|(simp;done)|(simp;omega)|(refine ⟨?_,?_⟩<;>omega)|rfl|(simp;done)|(simp_all;done)|(simp_all;omega)|(exfalso;simp_all [bne];done)|skip)
 have hF:fault m c=if ((List.range c.length).all (stepAt m c))=false then 3 else if ((List.range c.length).all fun i=>decide ((runAt c i:Int)≤m.same))=false then 4 else if (kindsTo c c.length:Int)<m.least then 5 else 0:=by
  rw [fault,if_neg hle,if_neg (by simp [ha])]
 rw [ha,hl] at hc
 have hel:=elem_in hm ha
 have hsm:=isMk_same hm
 have hkl:=kindsTo_le c c.length
 have hch:2≤c.length∧c.length≤6:=by have:=isMk_num hm;omega
 clear ha hle
 simp -dsimp -implicitDefEqProofs only [go_sem,hl]
 repeat' first
  |(refine Br.intro (fun _=> ?_) (fun _=> ?_)<;>try simp -dsimp -implicitDefEqProofs only [go_sem, *])
  |(with_reducible refine ai ?_ ?_)
  |(refine sCallT_one (hc) ?_;try simp -dsimp -implicitDefEqProofs only [go_sem, *])
 all_goals try (first|omega|(simp;done)|(simp_all;done))
 clear hl hc
 refine Later.up [1,2] [18,32] [] (c.length-1) (fun i=>(List.range (i+1)).all (stepAt m c)) (fun i=>[(5,eI ((i+1:Nat):Int))]) (fun _=>[]) (by simp [stepAt]) ?_ rfl (fun i hi hI=> ?_) (fun hI=> ?_)
 · simp -dsimp -implicitDefEqProofs only [go_sem]
   all_goals (first|omega|(refine ⟨?_,?_⟩<;>omega)|(simp;done)|(simp;omega)|(refine ⟨?_,?_⟩<;>omega)|rfl|(simp;done)|(simp_all;done)|(simp_all;omega)|(exfalso;simp_all [bne];done)|skip)
 · have hi1:i+1<c.length:=by omega
   have hi0:i<c.length:=by omega
   have no:stepAt m c (i+1)=false→fault m c=3:=fun h=>by rw [hF,if_pos (range_all_no hi1 h)]
   have yes:stepAt m c (i+1)=true→(List.range (i+1+1)).all (stepAt m c)=true:=fun h=>by rw [range_all_succ,hI,h];rfl
   have e1:=hel i hi0
   have e2:=hel (i+1) hi1
   have g1:=get_some hi1
   have g2:c[(((i+1:Nat):Int)-1).toNat]? =some c[i]:=by rw [show (((i+1:Nat):Int)-1).toNat=i by omega];exact get_some hi0
   have li:=lt_len hi1
   have hs:stepAt m c (i+1)=decide (absN (c[i+1]-c[i])≤m.step):=by
    rw [stepAt,show (i+1==0)=false by simp]
    simp [uq1,hi0,hi1]
   rw [hs] at no yes
   have yes':decide (absN (c[i+1]-c[i])>m.step)=false→(List.range (i+1+1)).all (stepAt m c)=true:=fun h=>yes (decide_eq_true (by have:=of_decide_eq_false h;omega))
   have no':decide (absN (c[i+1]-c[i])>m.step)=true→fault m c=3:=fun h=>no (decide_eq_false (by have:=of_decide_eq_true h;omega))
   have hab:absN (c[i+1]-c[i])≤7:=by unfold absN;split<;>omega
   have hab0:0≤absN (c[i+1]-c[i]):=by unfold absN;split<;>omega
   clear hF hI hs
   simp -dsimp -implicitDefEqProofs only [pz,Nat.reduceBEq,Nat.reduceDiv,Nat.reduceAdd,↓reduceIte,Nat.reduceEqDiff]
   simp -dsimp -implicitDefEqProofs only [go_sem,li,g1,g2]
   repeat' first
    |(refine Br.intro (fun _=> ?_) (fun _=> ?_)<;>try simp -dsimp -implicitDefEqProofs only [go_sem, *])
    |(with_reducible refine ai ?_ ?_)
    |(refine Later.draw mixed rfl ?_;try simp -dsimp -implicitDefEqProofs only [go_sem,li,g1,g2])
    |(refine sCallX_one (c_absolute _ (by omega)) ?_;try simp -dsimp -implicitDefEqProofs only [go_sem, *])
   all_goals first
    |(rw [no' (by assumption)];done)
    |(exact yes' (by assumption))
    |(simp only [uq6] at yes' ⊢;exact yes' (by assumption))
    |(first|omega|(refine ⟨?_,?_⟩<;>omega)|(simp;done)|(simp;omega)|(refine ⟨?_,?_⟩<;>omega)|rfl|(simp;done)|(simp_all;done)|(simp_all;omega)|(exfalso;simp_all [bne];done)|skip)
 · have hcl:c.length-1+1=c.length:=by omega
   rw [hcl] at hI ⊢
   rw [hI,if_neg (by decide)] at hF
   clear hel hI hcl
   simp -dsimp -implicitDefEqProofs only [pz,Nat.reduceBEq,Nat.reduceDiv,Nat.reduceAdd,↓reduceIte,Nat.reduceEqDiff]
   simp -dsimp -implicitDefEqProofs only [go_sem,nlt_len]
   repeat' first
    |(refine Br.intro (fun _=> ?_) (fun _=> ?_)<;>try simp -dsimp -implicitDefEqProofs only [go_sem, *])
    |(with_reducible refine ai ?_ ?_)
   all_goals try (first|omega|rfl|(simp;done))
   refine Later.up [1,2,37] [45] [] c.length (fun i=>(List.range i).all fun i=>decide ((runAt c i:Int)≤m.same)) (fun i=>[(38,eI i)]) (fun _=>[]) (by simp) ?_ rfl (fun i hi hI=> ?_) (fun hI=> ?_)
   · simp -dsimp -implicitDefEqProofs only [go_sem]
     all_goals (first|omega|(refine ⟨?_,?_⟩<;>omega)|(simp;done)|(simp;omega)|(refine ⟨?_,?_⟩<;>omega)|rfl|(simp;done)|(simp_all;done)|(simp_all;omega)|(exfalso;simp_all [bne];done)|skip)
   · have no:decide ((runAt c i:Int)≤m.same)=false→fault m c=4:=fun h=>by rw [hF,if_pos (range_all_no (p:=fun i=>decide ((runAt c i:Int)≤m.same)) hi h)]
     have yes:decide ((runAt c i:Int)≤m.same)=true→((List.range (i+1)).all fun i=>decide ((runAt c i:Int)≤m.same))=true:=fun h=>by rw [range_all_succ,hI,h];rfl
     have yes':decide ((runAt c i:Int)>m.same)=false→((List.range (i+1)).all fun i=>decide ((runAt c i:Int)≤m.same))=true:=fun h=>yes (decide_eq_true (by have:=of_decide_eq_false h;omega))
     have no':decide ((runAt c i:Int)>m.same)=true→fault m c=4:=fun h=>no (decide_eq_false (by have:=of_decide_eq_true h;omega))
     have hrl:=(runAt_spec c i).2.1
     have hcr:=c_sameRun (c.take (i+1)) (by simp;omega) (by simp;omega)
     have hll:(c.take (i+1)).length-1=i:=by simp;omega
     rw [hll,runAt_take c (i+1) i (by omega)] at hcr
     have li:=lt_len hi
     have e3:((i:Int)+1).toNat=i+1:=by omega
     clear hF hI no yes hll
     simp -dsimp -implicitDefEqProofs only [pz,Nat.reduceBEq,Nat.reduceDiv,Nat.reduceAdd,↓reduceIte,Nat.reduceEqDiff]
     simp -dsimp -implicitDefEqProofs only [go_sem,li]
     repeat' first
      |(refine Br.intro (fun _=> ?_) (fun _=> ?_)<;>try simp -dsimp -implicitDefEqProofs only [go_sem, *])
      |(with_reducible refine ai ?_ ?_)
      |(refine Later.draw mixed rfl ?_;try simp -dsimp -implicitDefEqProofs only [go_sem,li,e3])
      |(rw [←List.map_take];refine sCallX_one hcr ?_;try simp -dsimp -implicitDefEqProofs only [go_sem, *])
     all_goals first
      |(rw [no' (by assumption)];done)
      |(exact yes' (by assumption))
      |(rw [←uq6];exact yes' (by assumption))
      |(first|omega|(refine ⟨?_,?_⟩<;>omega)|(simp;done)|(simp;omega)|(refine ⟨?_,?_⟩<;>omega)|rfl|(simp;done)|(simp_all;done)|(simp_all;omega)|(exfalso;simp_all [bne];done)|skip)
   · rw [hI,if_neg (by decide)] at hF
     rw [hF]
     clear hF hI
     by_cases hk:(kindsTo c c.length:Int)<m.least
     all_goals
      have hk':=hk
      first|rw [if_pos hk]|rw [if_neg hk]
      first|replace hk':=decide_eq_true hk'|replace hk':=decide_eq_false hk'
      clear hk
      simp -dsimp -implicitDefEqProofs only [pz,Nat.reduceBEq,Nat.reduceDiv,Nat.reduceAdd,↓reduceIte,Nat.reduceEqDiff]
      simp -dsimp -implicitDefEqProofs only [go_sem,nlt_len]
      repeat' first
       |(refine Br.intro (fun _=> ?_) (fun _=> ?_)<;>try simp -dsimp -implicitDefEqProofs only [go_sem, *])
       |(with_reducible refine ai ?_ ?_)
       |(refine Later.draw mixed rfl ?_;try simp -dsimp -implicitDefEqProofs only [go_sem,nlt_len,hk'])
       |(refine sCallX_one (c_different c h) ?_;try simp -dsimp -implicitDefEqProofs only [go_sem, *])
      all_goals (first|omega|(refine ⟨?_,?_⟩<;>omega)|(simp;done)|(simp;omega)|(refine ⟨?_,?_⟩<;>omega)|rfl|(simp;done)|(simp_all;done)|(simp_all;omega)|(exfalso;simp_all [bne];done)|skip)
end Go.Vc
namespace Go.Vc
open Go.Proofs
structure KS (σ:Type) where
 ver:Nat
 zs:List Int
 s:σ
def stN {τ:Type} (f:Nat→τ→τ × Bool) (t:τ):Nat→τ × Bool
 |0=>(t,true)
 |i+1=>if (stN f t i).2=true then f i (stN f t i).1 else stN f t i
theorem stN_succ {τ:Type} {f:Nat→τ→τ × Bool} {t:τ} {i:Nat} (h:(stN f t i).2=true):stN f t (i+1)=f i (stN f t i).1:=by
 rw [stN,if_pos h]
def visitL {σ:Type} (f:σ→List Int→σ × Bool):σ→List (List Int)→σ × Bool
 |s,[]=>(s,true)
 |s,k::r=>if (f s k).2=true then visitL f (f s k).1 r else f s k
theorem visitL_append {σ:Type} {f:σ→List Int→σ × Bool}:∀(a b:List (List Int)) (s:σ),visitL f s (a++b)=if (visitL f s a).2=true then visitL f (visitL f s a).1 b else visitL f s a
 | [],b,s=>by simp [visitL]
 |k::a,b,s=>by
  simp only [List.cons_append,visitL]
  by_cases h:(f s k).2=true
  · simp only [h,if_true];exact visitL_append a b _
  · have h':(f s k).2=false:=by simpa using h
    simp [h']
def stepOk (m:MkM) (c:List Int) (d:Int):Bool:=c.isEmpty||decide (absN (d-c.getD (c.length-1) 0)≤m.step)
def runOk (m:MkM) (c:List Int) (d:Int):Bool:=decide ((runAt (c++[d]) c.length:Int)≤m.same)
def keysFrom (m:MkM):Nat→List Int→List (List Int)
 |0,c=>if (kindsTo c c.length:Int)<m.least then [] else [c]
 |n+1,c=>(List.range m.depths.toNat).flatMap fun (d:Nat)=>if (stepOk m c (d:Int)&&runOk m c (d:Int))=true then keysFrom m n (c++[(d:Int)]) else []
def cutF {σ:Type} (m:MkM) (f:σ→List Int→σ × Bool):Nat→List Int→KS σ→KS σ × Bool
 |0,c,t=>if (kindsTo c c.length:Int)<m.least then (t,true) else (⟨t.ver,t.zs,(f t.s c).1⟩,(f t.s c).2)
 |n+1,c,t=>stN (fun (d:Nat) t=>if stepOk m c d=true then if runOk m c d=true then cutF m f n (c++[(d:Int)]) ⟨t.ver+1,t.zs.take c.length++[(d:Int)],t.s⟩ else (⟨t.ver+1,t.zs.take c.length++[(d:Int)],t.s⟩,true) else (t,true)) t m.depths.toNat
def cutB {σ:Type} (m:MkM) (f:σ→List Int→σ × Bool) (n:Nat) (c:List Int) (d:Nat) (t:KS σ):KS σ × Bool:=
 if stepOk m c d=true then if runOk m c d=true then cutF m f n (c++[(d:Int)]) ⟨t.ver+1,t.zs.take c.length++[(d:Int)],t.s⟩ else (⟨t.ver+1,t.zs.take c.length++[(d:Int)],t.s⟩,true) else (t,true)
theorem cutF_succ {σ:Type} (m:MkM) (f:σ→List Int→σ × Bool) (n:Nat) (c:List Int) (t:KS σ):cutF m f (n+1) c t=stN (cutB m f n c) t m.depths.toNat:=rfl
def okZ {σ:Type} (c:List Int) (t:KS σ):Prop:=t.zs.take c.length=c∧c.length≤t.zs.length
theorem okZ_next {σ:Type} {c:List Int} {t:KS σ} (h:okZ c t) (d:Int):okZ (c++[d]) (⟨t.ver+1,t.zs.take c.length++[d],t.s⟩:KS σ):=by
 refine ⟨?_,?_⟩
 · show (t.zs.take c.length++[d]).take (c++[d]).length=_
   rw [h.1];exact uq8
 · show (c++[d]).length≤(t.zs.take c.length++[d]).length
   rw [h.1];exact uq10 _
theorem okZ_back {σ:Type} {c:List Int} {d:Int} {t:KS σ} (h:okZ (c++[d]) t):okZ c t:=by
 have h2:c.length≤t.zs.length:=by have:=h.2;simp at this;omega
 refine ⟨?_,h2⟩
 have:=congrArg (List.take c.length) h.1
 simp only [List.take_take] at this
 rw [show min c.length (c++[d]).length=c.length by simp] at this
 rw [this];simp
theorem cutF_spec {σ:Type} (m:MkM) (f:σ→List Int→σ × Bool):∀(n:Nat) (c:List Int) (t:KS σ),okZ c t→okZ c (cutF m f n c t).1∧(cutF m f n c t).1.s=(visitL f t.s (keysFrom m n c)).1∧(cutF m f n c t).2=(visitL f t.s (keysFrom m n c)).2
 |0,c,t,h=>by
  simp only [cutF,keysFrom]
  split
  · exact ⟨h,rfl,rfl⟩
  · refine ⟨h,?_,?_⟩
    · simp only [visitL];split<;>rfl
    · simp only [visitL];split<;>simp_all
 |n+1,c,t,h=>by
  rw [cutF_succ,keysFrom]
  generalize m.depths.toNat=D
  induction D with
  |zero=>exact ⟨h,rfl,rfl⟩
  |succ D ih=>
   obtain ⟨i1,i2,i3⟩:=ih
   rw [uq6,List.flatMap_append,visitL_append]
   rw [←i3]
   by_cases hb:(stN (cutB m f n c) t D).2=true
   · rw [stN_succ hb,if_pos hb,←i2]
     generalize (stN (cutB m f n c) t D).1=u at i1
     simp only [List.flatMap_cons,List.flatMap_nil,List.append_nil,cutB]
     by_cases h1:stepOk m c D=true
     · by_cases h2:runOk m c D=true
       · rw [if_pos h1,if_pos h2,if_pos (by rw [h1,h2];rfl)]
         have:=cutF_spec m f n (c++[(D:Int)]) ⟨u.ver+1,u.zs.take c.length++[(D:Int)],u.s⟩ (okZ_next i1 D)
         exact ⟨okZ_back this.1,this.2.1,this.2.2⟩
       · rw [if_pos h1,if_neg h2,if_neg (by simp [h2])]
         exact ⟨okZ_back (okZ_next i1 D),rfl,rfl⟩
     · rw [if_neg h1,if_neg (by simp [h1])]
       exact ⟨i1,rfl,rfl⟩
   · rw [stN,if_neg hb,if_neg hb]
     exact ⟨i1,i2,by simpa using i3⟩
theorem stN_okZ {σ:Type} {m:MkM} {f:σ→List Int→σ × Bool} {n:Nat} {c:List Int} {t:KS σ} (h:okZ c t):∀D,okZ c (stN (cutB m f n c) t D).1
 |0=>h
 |D+1=>by
  have i1:=stN_okZ h D (m:=m) (f:=f) (n:=n)
  by_cases hb:(stN (cutB m f n c) t D).2=true
  · rw [stN_succ hb]
    generalize (stN (cutB m f n c) t D).1=u at i1
    simp only [cutB]
    by_cases h1:stepOk m c D=true
    · by_cases h2:runOk m c D=true
      · rw [if_pos h1,if_pos h2]
        exact okZ_back (cutF_spec m f n (c++[(D:Int)]) ⟨u.ver+1,u.zs.take c.length++[(D:Int)],u.s⟩ (okZ_next i1 D)).1
      · rw [if_pos h1,if_neg h2];exact okZ_back (okZ_next i1 D)
    · rw [if_neg h1];exact i1
  · rw [stN,if_neg hb];exact i1
theorem keysFrom_len (m:MkM) (hm:isMk m=true):∀(n:Nat) (c:List Int),(keysFrom m n c).length≤8^n
 |0,c=>by simp only [keysFrom];split<;>simp
 |n+1,c=>by
  have hd:m.depths.toNat≤8:=by have:=isMk_num hm;omega
  have:∀D,((List.range D).flatMap fun (d:Nat)=>if (stepOk m c (d:Int)&&runOk m c (d:Int))=true then keysFrom m n (c++[(d:Int)]) else []).length≤D*8^n:=by
   intro D
   induction D with
   |zero=>simp
   |succ D ih=>
    rw [uq6,List.flatMap_append,List.length_append,Nat.succ_mul]
    refine Nat.add_le_add ih ?_
    simp only [List.flatMap_cons,List.flatMap_nil,List.append_nil]
    split
    · exact keysFrom_len m hm n _
    · exact Nat.zero_le _
  rw [keysFrom,Nat.pow_succ,Nat.mul_comm (8^n) 8]
  exact Nat.le_trans (this _) (Nat.mul_le_mul_right _ hd)
theorem keysFrom_mem (m:MkM):∀(n:Nat) (c k:List Int),k∈keysFrom m n c→k.take c.length=c∧k.length=c.length+n
 |0,c,k,h=>by
  simp only [keysFrom] at h
  split at h
  · cases h
  · simp at h;subst h;simp
 |n+1,c,k,h=>by
  simp only [keysFrom,List.mem_flatMap,uq5] at h
  obtain ⟨d,_,h⟩:=h
  split at h
  · have:=keysFrom_mem m n _ k h
    have h1:=congrArg (List.take c.length) this.1
    simp only [List.take_take] at h1
    rw [show min c.length (c++[(d:Int)]).length=c.length by simp] at h1
    refine ⟨by rw [h1];simp,by rw [this.2];simp;omega⟩
  · cases h
def okTo (m:MkM) (c:List Int):Bool:=(List.range c.length).all fun i=>decide ((runAt c i:Int)≤m.same)&&stepAt m c i
theorem stepAt_take {m:MkM} {c:List Int} {d:Int} {i:Nat} (h:i<c.length):stepAt m (c++[d]) i=stepAt m c i:=by
 have g:∀j,j<c.length→(c++[d]).getD j 0=c.getD j 0:=fun j hj=>by simp [uq1,List.getElem?_append_left hj]
 unfold stepAt
 rw [g i h,g (i-1) (by omega)]
theorem runAt_app {c:List Int} {d:Int} {i:Nat} (h:i<c.length):runAt (c++[d]) i=runAt c i:=by
 have:=runAt_take (c++[d]) c.length i h
 simp at this
 exact this.symm
theorem okTo_snoc (m:MkM) (c:List Int) (d:Int):okTo m (c++[d])=(okTo m c&&(stepOk m c d&&runOk m c d)):=by
 have h1:(List.range c.length).all (fun i=>decide ((runAt (c++[d]) i:Int)≤m.same)&&stepAt m (c++[d]) i)=okTo m c:=by
  unfold okTo
  rw [Bool.eq_iff_iff,uq0,uq0]
  constructor
  · intro h i hi
    have:=h i hi
    rwa [runAt_app (uq5.1 hi),stepAt_take (uq5.1 hi)] at this
  · intro h i hi
    rw [runAt_app (uq5.1 hi),stepAt_take (uq5.1 hi)]
    exact h i hi
 have h2:stepAt m (c++[d]) c.length=stepOk m c d:=by
  unfold stepAt stepOk
  cases c with
  |nil=>simp
  |cons x r=>
   have g1:((x::r)++[d]).getD (x::r).length 0=d:=by simp [uq1]
   have g2:((x::r)++[d]).getD ((x::r).length-1) 0=(x::r).getD ((x::r).length-1) 0:=by
    simp only [uq1]
    rw [List.getElem?_append_left (by simp)]
   rw [g1,g2]
   simp
 rw [okTo,List.length_append,show c.length+[d].length=c.length+1 by rfl,range_all_succ,h1,h2]
 unfold runOk
 cases okTo m c<;>cases stepOk m c d<;>simp
def keysTo (m:MkM) (n:Nat) (c:List Int) (D:Nat):List (List Int):=(List.range D).flatMap fun (d:Nat)=>if (stepOk m c (d:Int)&&runOk m c (d:Int))=true then keysFrom m n (c++[(d:Int)]) else []
theorem keysTo_succ (m:MkM) (n:Nat) (c:List Int) (D:Nat):keysTo m n c (D+1)=keysTo m n c D++if (stepOk m c (D:Int)&&runOk m c (D:Int))=true then keysFrom m n (c++[(D:Int)]) else []:=by
 rw [keysTo,uq6,List.flatMap_append]
 simp [keysTo]
theorem keysTo_mem {m:MkM} {n:Nat} {c k:List Int}:∀{D:Nat},k∈keysTo m n c D→∃d:Nat,d<D∧k.take (c.length+1)=c++[(d:Int)]
 |0,h=>by cases h
 |D+1,h=>by
  rw [keysTo_succ,uq4] at h
  rcases h with h|h
  · obtain ⟨d,h1,h2⟩:=keysTo_mem h;exact ⟨d,by omega,h2⟩
  · split at h
    · have:=(keysFrom_mem m n _ k h).1
      exact ⟨D,by omega,by simpa using this⟩
    · cases h
theorem take_app {key:List Int} {i:Nat} (h:i<key.length):key.take (i+1)=key.take i++[key.getD i 0]:=by
 rw [List.take_add_one]
 simp [uq1,h]
theorem okTo_take {m:MkM} {key:List Int} (h:okTo m key=true):∀j,okTo m (key.take (key.length-j))=true
 |0=>by simpa using h
 |j+1=>by
  have ih:=okTo_take h j
  by_cases e:j<key.length
  · rw [show key.length-j=key.length-(j+1)+1 by omega,take_app (by omega),okTo_snoc] at ih
    simp only [Bool.and_eq_true] at ih
    exact ih.1
  · rw [show key.length-(j+1)=key.length-j by omega];exact ih
theorem okTo_take' {m:MkM} {key:List Int} (h:okTo m key=true) {i:Nat} (hi:i≤key.length):okTo m (key.take i)=true:=by
 have:=okTo_take h (key.length-i)
 rwa [show key.length-(key.length-i)=i by omega] at this
theorem fault_out {m:MkM} {c:List Int} (h:fault m c=0):(c.length:Int)=m.chambers∧(∀x∈c,0≤x∧x<m.depths)∧okTo m c=true∧¬(kindsTo c c.length:Int)<m.least:=by
 unfold fault at h
 split at h
 · cases h
 · rename_i h1
   split at h
   · cases h
   · rename_i h2
     split at h
     · cases h
     · rename_i h3
       split at h
       · cases h
       · rename_i h4
         split at h
         · cases h
         · rename_i h5
           refine ⟨by omega,fun x hx=> ?_,?_,h5⟩
           · have:=uq0.1 (by simpa using h2) x hx
             simp [isIn] at this;omega
           · unfold okTo
             rw [uq0]
             intro i hi
             have a3:=uq0.1 (by simpa using h3) i hi
             have h4':((List.range c.length).all fun i=>decide ((runAt c i:Int)≤m.same))=true:=by
              cases hh:((List.range c.length).all fun i=>decide ((runAt c i:Int)≤m.same)) with
              |true=>rfl
              |false=>exact absurd hh h4
             have a4:=uq0.1 h4' i hi
             simp only [a3,a4,Bool.and_self]
end Go.Vc
namespace Go.Vc
open Go.Proofs
def okAt (m:MkM) (c:List Int) (i:Nat):Bool:=decide ((runAt c i:Int)≤m.same)&&stepAt m c i
theorem c_l02Begins (m:MkM) (c:List Int) (hm:isMk m=true) (h:c.length≤6) (hel:∀x∈c,0≤x∧x≤7):Fn Tryz.prog 70 [eMk m,eIs c] true (· =eB (okTo m c)):=by
 refine Fn.of_vcN 53 [.tmp 4] Tryz.func70 rfl rfl rfl rfl rfl (of_decide_eq_true rfl) ?_
 have hF:okTo m c=(List.range c.length).all (okAt m c):=rfl
 simp -dsimp -implicitDefEqProofs only [go_sem]
 refine Later.up [1,2] [9,47] [] c.length (fun i=>(List.range i).all (okAt m c)=true) (fun i=>[(6,eI i),(5,eI (runTo c i))]) (fun _=>[]) (by simp) ?_ rfl (fun i hi hI=> ?_) (fun hI=> ?_)
 · rw [show runTo c 0=0 from rfl]
   simp -dsimp -implicitDefEqProofs only [go_sem]
   all_goals (first|omega|(refine ⟨?_,?_⟩<;>omega)|(simp;done)|(simp;omega)|(refine ⟨?_,?_⟩<;>omega)|rfl|(simp;done)|(simp_all;done)|(simp_all;omega)|(exfalso;simp_all [bne];done)|skip)
 · have no:okAt m c i=false→okTo m c=false:=fun h=>by rw [hF];exact range_all_no hi h
   have yes:okAt m c i=true→(List.range (i+1)).all (okAt m c)=true:=fun h=>by rw [range_all_succ,hI,h];rfl
   have hrb:runTo c i≤i∧runTo c (i+1)≤i+1:=by
    refine ⟨?_,(runAt_spec c i).2.1⟩
    rw [runTo];split
    · omega
    · have:=(runAt_spec c (i-1)).2.1;omega
   have e1:=hel c[i] (uq3 hi)
   have gi:=get_some hi
   have li:=lt_len hi
   have hok:okAt m c i=(decide (((runTo c (i+1):Nat):Int)≤m.same)&&stepAt m c i):=rfl
   clear hF hI
   by_cases hi0:0<i
   rotate_left
   · have g3:decide ((i:Int)>0)=false:=by simp;omega
     have hR:runTo c i=0∧runTo c (i+1)=1:=by
      have e0:i=0:=by omega
      subst e0
      exact ⟨rfl,by show runAt c 0=1;unfold runAt;rfl⟩
     have hs:okAt m c i=true:=by
      have e0:i=0:=by omega
      have:=isMk_same hm
      rw [hok,hR.2]
      subst e0
      have:decide (((1:Nat):Int)≤m.same)=true:=decide_eq_true (by omega)
      rw [this];rfl
     have hsame:decide ((1:Int)>m.same)=false:=decide_eq_false (by have:=isMk_same hm;omega)
     rw [hR.1,hR.2]
     clear hR hrb no
     have yes:=yes hs
     simp -dsimp -implicitDefEqProofs only [pz,Nat.reduceBEq,Nat.reduceDiv,Nat.reduceAdd,↓reduceIte,Nat.reduceEqDiff]
     simp -dsimp -implicitDefEqProofs only [go_sem,li,gi,g3]
     repeat' first
      |(refine Br.intro (fun _=> ?_) (fun _=> ?_)<;>try simp -dsimp -implicitDefEqProofs only [go_sem, *])
      |(with_reducible refine ai ?_ ?_)
      |(refine Later.draw mixed rfl ?_;try simp -dsimp -implicitDefEqProofs only [go_sem,li,gi,g3,hsame])
     all_goals first
      |exact yes
      |(first|omega|(refine ⟨?_,?_⟩<;>omega)|(simp;done)|(simp;omega)|(refine ⟨?_,?_⟩<;>omega)|rfl|(simp;done)|(simp_all;done)|(simp_all;omega)|(exfalso;simp_all [bne];done)|skip)
   · have hi':i-1<c.length:=by omega
     have e2:=hel c[i-1] (uq3 hi')
     have g2:c[((i:Int)-1).toNat]? =some c[i-1]:=by rw [pred_toNat hi0];exact get_some hi'
     have g3:decide ((i:Int)>0)=true:=by simp;omega
     have hs:stepAt m c i= !decide (absN (c[i]-c[i-1])>m.step):=by
      rw [stepAt,show (i==0)=false by simp;omega]
      have q1:c.getD i 0=c[i]:=by simp [uq1,hi]
      have q2:c.getD (i-1) 0=c[i-1]:=by simp [uq1,hi']
      rw [q1,q2,Bool.false_or]
      by_cases hq:absN (c[i]-c[i-1])≤m.step
      · rw [decide_eq_true hq,decide_eq_false (by omega)];rfl
      · rw [decide_eq_false hq,decide_eq_true (by omega)];rfl
     have hR:((runTo c (i+1):Nat):Int)=if (c[i]==c[i-1])=true then (runTo c i:Int)+1 else 0+1:=by
      obtain ⟨j,rfl⟩:∃j,i=j+1:=⟨i-1,by omega⟩
      rw [show runTo c (j+1+1)=runAt c (j+1) from rfl,show runTo c (j+1)=runAt c j from rfl,runAt]
      simp only [Nat.add_sub_cancel]
      have q1:c.getD (j+1) 0=c[j+1]:=by simp [uq1,hi]
      have q2:c.getD j 0=c[j]:=by simp [uq1,show j<c.length by omega]
      rw [q1,q2]
      by_cases hq:c[j+1]=c[j]
      · rw [if_pos hq,if_pos (by simpa using hq)];simp
      · rw [if_neg hq,if_neg (by simpa using hq)];simp
     have hok2:okAt m c i=(!decide (((runTo c (i+1):Nat):Int)>m.same)&& !decide (absN (c[i]-c[i-1])>m.step)):=by
      rw [hok,hs]
      congr 1
      by_cases hq:((runTo c (i+1):Nat):Int)≤m.same
      · rw [decide_eq_true hq,decide_eq_false (by omega)];rfl
      · rw [decide_eq_false hq,decide_eq_true (by omega)];rfl
     clear hok hs
     rw [hok2] at no yes
     clear hok2
     have habs:=c_l01Abs (c[i]-c[i-1]) (by omega)
     rcases hq1:(c[i]==c[i-1]) with _|_
     all_goals
      rw [hq1] at hR
      simp only [if_true,Bool.false_eq_true,if_false] at hR
      have hne:(c[i] != c[i-1])= !(c[i]==c[i-1]):=rfl
      rw [hq1] at hne
      rw [hR] at no yes
      rcases hq2:decide (absN (c[i]-c[i-1])>m.step) with _|_
     all_goals
      first
       |(rcases hq3:decide ((runTo c i:Int)+1>m.same) with _|_)
       |skip
     all_goals
      generalize runTo c i=R at*
      generalize runTo c (i+1)=R' at*
      simp -dsimp -implicitDefEqProofs only [pz,Nat.reduceBEq,Nat.reduceDiv,Nat.reduceAdd,↓reduceIte,Nat.reduceEqDiff]
      try rw [hR]
      simp -dsimp -implicitDefEqProofs only [go_sem,li,gi,g2,g3]
      repeat' first
       |(refine Br.intro (fun _=> ?_) (fun _=> ?_)<;>try simp -dsimp -implicitDefEqProofs only [go_sem, *])
       |(with_reducible refine ai ?_ ?_)
       |(refine Later.draw mixed rfl ?_;try simp -dsimp -implicitDefEqProofs only [go_sem,li,gi,g2,g3])
       |(refine sCallX_one (habs) ?_;try simp -dsimp -implicitDefEqProofs only [go_sem, *])
      all_goals first
       |(rw [no (by simp_all)];done)
       |(rw [←uq6];exact yes (by simp_all))
       |(first|omega|(refine ⟨?_,?_⟩<;>omega)|(simp;done)|(simp;omega)|(refine ⟨?_,?_⟩<;>omega)|rfl|(simp;done)|(simp_all;done)|(simp_all;omega)|(exfalso;simp_all [bne];done)|skip)
 · rw [←hF] at hI
   rw [hI]
   simp -dsimp -implicitDefEqProofs only [pz,Nat.reduceBEq,Nat.reduceDiv,Nat.reduceAdd,↓reduceIte,Nat.reduceEqDiff]
   simp -dsimp -implicitDefEqProofs only [go_sem,nlt_len]
end Go.Vc
namespace Go.Vc
open Go.Proofs
def firstD (f:Nat→Option (List Int)):Nat→Option (List Int)
 |0=>none
 |d+1=>match firstD f d with
  |some k=>some k
  |none=>f d
def firstK (m:MkM):Nat→List Int→Option (List Int)
 |0,c=>if okTo m c=true∧m.least≤(kindsTo c c.length:Int) then some c else none
 |n+1,c=>if okTo m c=true then firstD (fun (d:Nat)=>firstK m n (c++[(d:Int)])) m.depths.toNat else none
theorem firstD_out {f:Nat→Option (List Int)} {k:List Int}:∀{D:Nat},firstD f D=some k→∃d,d<D∧f d=some k
 |D+1,h=>by
  simp only [firstD] at h
  cases hh:firstD f D with
  |some k'=>
   rw [hh] at h
   obtain ⟨d,h1,h2⟩:=firstD_out hh
   exact ⟨d,by omega,h2.trans h⟩
  |none=>rw [hh] at h;exact ⟨D,by omega,h⟩
theorem firstD_none {f:Nat→Option (List Int)} {D:Nat} (h:firstD f D=none):firstD f (D+1)=f D:=by simp [firstD,h]
theorem firstD_some {f:Nat→Option (List Int)} {D:Nat} {k:List Int} (h:firstD f D=some k):∀E,D≤E→firstD f E=some k
 |0,hE=>by rw [show D=0 by omega] at h;cases h
 |E+1,hE=>by
  by_cases e:D=E+1
  · rw [←e];exact h
  · simp only [firstD];rw [firstD_some h E (by omega)]
def optR (o:Option (List Int)):AV:=match o with
 |some k=>.tup [eIs k,eB true]
 |none=>.tup [.val (.slice none 0 0),eB false]
def firstR (m:MkM) (n:Nat) (c:List Int) (r:AV):Prop:=match firstK m n c with
 |some k=>r= .tup [eIs k,eB true]
 |none=>∃x,r= .tup [x,eB false]∧(x= .val (.slice none 0 0)∨x=eIs c)
theorem c_l02First (m:MkM) (hm:isMk m=true):∀(n:Nat) (c:List Int),(c.length:Int)+n=m.chambers→(∀x∈c,0≤x∧x≤7)→Fn Tryz.prog 37 [eMk m,eIs c] false (firstR m n c):=by
 intro n
 have ⟨⟨hch1,hch2⟩,hd1,hd2⟩:=isMk_num hm
 induction n with
 |zero=>
  intro c hl hc
  refine Fn.of_vcS 42 [.tmp 4,.tmp 5] Tryz.func37 rfl rfl rfl rfl rfl (of_decide_eq_true rfl) ?_
  have hbe:=c_l02Begins m c hm (by omega) hc
  have hk:((c.length:Int)==m.chambers)=true:=beq_iff_eq.2 (by omega)
  have hki:=c_l02Kinds c (by omega)
  unfold firstR
  rcases hb:okTo m c with _|_
  · have hcnt:firstK m 0 c=none:=by rw [firstK,if_neg (by rw [hb];exact fun h=>by cases h.1)]
    rw [hb] at hbe
    rw [hcnt]
    clear hcnt hb
    simp -dsimp -implicitDefEqProofs only [go_sem]
    (refine sCallT_one (hbe) ?_;try simp -dsimp -implicitDefEqProofs only [go_sem, *])
    exact ⟨_,rfl,.inl rfl⟩
  · rw [hb] at hbe
    rcases hq:decide ((kindsTo c c.length:Int)≥m.least) with _|_
    · have hcnt:firstK m 0 c=none:=by rw [firstK,if_neg (fun h=>by have:=of_decide_eq_false hq;omega)]
      rw [hcnt]
      clear hcnt hb
      simp -dsimp -implicitDefEqProofs only [go_sem]
      (refine sCallT_one (hbe) ?_;try simp -dsimp -implicitDefEqProofs only [go_sem, *])
      refine Later.draw mixed rfl ?_
      simp -dsimp -implicitDefEqProofs only [go_sem]
      (refine sCallX_one (hki) ?_;try simp -dsimp -implicitDefEqProofs only [go_sem, *])
      exact ⟨by exact rfl,_,rfl,.inr rfl⟩
    · have hcnt:firstK m 0 c=some c:=by rw [firstK,if_pos ⟨hb,by have:=of_decide_eq_true hq;omega⟩]
      rw [hcnt]
      clear hcnt hb
      simp -dsimp -implicitDefEqProofs only [go_sem]
      (refine sCallT_one (hbe) ?_;try simp -dsimp -implicitDefEqProofs only [go_sem, *])
      refine Later.draw mixed rfl ?_
      simp -dsimp -implicitDefEqProofs only [go_sem]
      (refine sCallX_one (hki) ?_;try simp -dsimp -implicitDefEqProofs only [go_sem, *])
      exact rfl
 |succ n ih=>
  intro c hl hc
  refine Fn.of_vcS 42 [.tmp 4,.tmp 5] Tryz.func37 rfl rfl rfl rfl rfl (of_decide_eq_true rfl) ?_
  have hbe:=c_l02Begins m c hm (by omega) hc
  have hk:((c.length:Int)==m.chambers)=false:=beq_eq_false_iff_ne.2 (by omega)
  unfold firstR
  rcases hb:okTo m c with _|_
  · have hcnt:firstK m (n+1) c=none:=by rw [firstK,if_neg (by rw [hb];exact fun h=>by cases h)]
    rw [hb] at hbe
    rw [hcnt]
    clear hcnt hb
    simp -dsimp -implicitDefEqProofs only [go_sem]
    (refine sCallT_one (hbe) ?_;try simp -dsimp -implicitDefEqProofs only [go_sem, *])
    exact ⟨_,rfl,.inl rfl⟩
  · have hcnt:firstK m (n+1) c=firstD (fun (d:Nat)=>firstK m n (c++[(d:Int)])) m.depths.toNat:=by rw [firstK,if_pos hb]
    rw [hb] at hbe
    rw [hcnt]
    clear hcnt hb
    have hown:=c_l01Own c (by omega)
    simp -dsimp -implicitDefEqProofs only [go_sem]
    (refine sCallT_one (hbe) ?_;try simp -dsimp -implicitDefEqProofs only [go_sem, *])
    refine Later.up [1,2] [33,35,36,37] [] m.depths.toNat (fun i=>firstD (fun (d:Nat)=>firstK m n (c++[(d:Int)])) i=none) (fun i=>[(6,eI i)]) (fun _=>[]) rfl ?_ rfl (fun i hi hI=> ?_) (fun hI=> ?_)
    · simp -dsimp -implicitDefEqProofs only [go_sem]
    · have hih:=ih (c++[(i:Int)]) (by simp;omega) (fun x hx=>by
       rcases uq4.1 hx with h|h
       · exact hc x h
       · simp at h;omega)
      have hlt:decide ((i:Int)<m.depths)=true:=decide_eq_true (by omega)
      have hmap:List.map eI c++[eI (i:Int)]=List.map eI (c++[(i:Int)]):=by simp
      have htk:List.take c.length (List.map eI c)=List.map eI c:=uq9 (by simp)
      have htl:List.take (c.length+1) (List.map eI (c++[(i:Int)]))=List.map eI (c++[(i:Int)]):=uq9 (by simp)
      have hnx:=firstD_none hI
      have hend:∀k,firstK m n (c++[(i:Int)])=some k→firstD (fun (d:Nat)=>firstK m n (c++[(d:Int)])) m.depths.toNat=some k:=fun k hk=>firstD_some (hnx.trans hk) _ (by omega)
      rw [hnx]
      clear ih hI hnx
      unfold firstR at hih
      generalize firstK m n (c++[(i:Int)])=F at*
      simp -dsimp -implicitDefEqProofs only [pz,Nat.reduceBEq,Nat.reduceDiv,Nat.reduceAdd,↓reduceIte,Nat.reduceEqDiff]
      simp -dsimp -implicitDefEqProofs only [go_sem,hlt]
      refine Later.duo 6 mixed rfl ?_
      simp -dsimp -implicitDefEqProofs only [List.take_succ_cons,List.take_zero,List.drop_succ_cons,List.drop_zero]
      simp -dsimp -implicitDefEqProofs only [go_sem]
      (refine sCallX_one (hown) ?_;try simp -dsimp -implicitDefEqProofs only [go_sem, *])
      refine ⟨by omega,?_⟩
      refine ⟨by exact rfl,?_⟩
      refine sCallT_frz 34000 1 ⟨1,false⟩ true (List.map eI (c++[(i:Int)])) hih (by decide) ?_ ?_ fun r hr=> ?_
      · simp -dsimp -implicitDefEqProofs only [go_sem]
      · refine frzOk_no ?_ rfl ?_
        · simp -dsimp -implicitDefEqProofs only [go_sem]
        · have h:=frzOk_ref (l:=34000) (v:=1) (sh:=⟨1,false⟩) (ys:=List.map eI (c++[(i:Int)])) (xs:=[]) (r:=[]) 0 (c.length+1) (by simp) trivial
          rw [List.drop_zero,htl] at h
          exact h
      · cases F with
        |some k=>
         rw [hend k rfl]
         rw [show r= .tup [eIs k,eB true] from hr]
         clear hr hend
         simp -dsimp -implicitDefEqProofs only [go_sem]
         exact rfl
        |none=>
         clear hend
         obtain ⟨x,rfl,hx⟩:=hr
         rcases hx with rfl|rfl
         · simp -dsimp -implicitDefEqProofs only [go_sem]
           exact ⟨by exact rfl,⟨by omega,by omega⟩,by simp⟩
         · simp -dsimp -implicitDefEqProofs only [go_sem]
           exact ⟨by exact rfl,⟨by omega,by omega⟩,by simp⟩
    · have hlt:decide (((m.depths.toNat:Nat):Int)<m.depths)=false:=decide_eq_false (by omega)
      rw [hI]
      clear hI
      simp -dsimp -implicitDefEqProofs only [pz,Nat.reduceBEq,Nat.reduceDiv,Nat.reduceAdd,↓reduceIte,Nat.reduceEqDiff]
      simp -dsimp -implicitDefEqProofs only [go_sem,hlt]
      exact ⟨_,rfl,.inl rfl⟩
def nextTo (m:MkM) (c:List Int):Nat→Option (List Int)
 |0=>none
 |j+1=>match nextTo m c j with
  |some k=>some k
  |none=>firstD (fun (e:Nat)=>firstK m j (c.take (c.length-1-j)++[c.getD (c.length-1-j) 0+1+(e:Int)])) (m.depths-(c.getD (c.length-1-j) 0+1)).toNat
theorem nextTo_none {m:MkM} {c:List Int} {j:Nat} (h:nextTo m c j=none):nextTo m c (j+1)=firstD (fun (e:Nat)=>firstK m j (c.take (c.length-1-j)++[c.getD (c.length-1-j) 0+1+(e:Int)])) (m.depths-(c.getD (c.length-1-j) 0+1)).toNat:=by simp [nextTo,h]
theorem nextTo_some {m:MkM} {c k:List Int} {j:Nat} (h:nextTo m c j=some k):∀E,j≤E→nextTo m c E=some k
 |0,hE=>by rw [show j=0 by omega] at h;cases h
 |E+1,hE=>by
  by_cases e:j=E+1
  · rw [←e];exact h
  · simp only [nextTo];rw [nextTo_some h E (by omega)]
theorem c_l02Next (m:MkM) (c:List Int) (hm:isMk m=true) (hl:(c.length:Int)=m.chambers) (hc:∀x∈c,0≤x∧x<m.depths):Fn Tryz.prog 39 [eMk m,eIs c] false (· =optR (nextTo m c c.length)):=by
 have ⟨⟨hch1,hch2⟩,hd1,hd2⟩:=isMk_num hm
 refine Fn.of_vcS 42 [.tmp 4,.tmp 5] Tryz.func39 rfl rfl rfl rfl rfl (of_decide_eq_true rfl) ?_
 simp -dsimp -implicitDefEqProofs only [go_sem]
 refine ⟨⟨by omega,by omega⟩,?_⟩
 refine Later.up [1,2] [33,35,36,37] [] c.length (fun j=>nextTo m c j=none) (fun j=>[(6,eI ((c.length:Int)-1-(j:Int)))]) (fun _=>[]) rfl ?_ rfl (fun j hj hJ=> ?_) (fun hJ=> ?_)
 · simp -dsimp -implicitDefEqProofs only [go_sem]
   all_goals first|(simp;done)|skip
 · have hlt:decide ((c.length:Int)-1-(j:Int)≥0)=true:=decide_eq_true (by omega)
   have hnx:=nextTo_none hJ
   have hend:∀k,nextTo m c (j+1)=some k→nextTo m c c.length=some k:=fun k hk=>nextTo_some hk _ (by omega)
   have hi:c.length-1-j<c.length:=by omega
   have hcast:(c.length:Int)-1-(j:Int)=((c.length-1-j:Nat):Int):=by omega
   have hx:=hc c[c.length-1-j] (uq3 hi)
   have hgd:c.getD (c.length-1-j) 0=c[c.length-1-j]:=by simp [uq1,hi]
   have gi:=get_some hi
   have hneg:(c.length:Int)-1-((j+1:Nat):Int)=((c.length-1-j:Nat):Int)-1:=by omega
   rw [hgd] at hnx
   rw [hcast] at hlt
   rw [hcast,hneg]
   clear hJ hcast hgd hneg
   generalize hI:c.length-1-j=i at*
   generalize c[i]=z at*
   rw [hnx]
   have hend':∀k,firstD (fun (e:Nat)=>firstK m j (c.take i++[z+1+(e:Int)])) (m.depths-(z+1)).toNat=some k→nextTo m c c.length=some k:=fun k hk=>hend k (hnx.trans hk)
   clear hnx hend
   simp -dsimp -implicitDefEqProofs only [pz,Nat.reduceBEq,Nat.reduceDiv,Nat.reduceAdd,↓reduceIte,Nat.reduceEqDiff]
   simp -dsimp -implicitDefEqProofs only [go_sem,hlt,gi]
   refine ⟨by omega,⟨by omega,by omega⟩,?_⟩
   refine Later.up [1,2,6] [33,35,36,37] [] (m.depths-(z+1)).toNat (fun e=>firstD (fun (e:Nat)=>firstK m j (c.take i++[z+1+(e:Int)])) e=none) (fun e=>[(7,eI (z+1+(e:Int)))]) (fun _=>[]) rfl ?_ rfl (fun e he hE=> ?_) (fun hE=> ?_)
   · simp -dsimp -implicitDefEqProofs only [go_sem]
     all_goals first|(simp;done)|skip
   · have hlt2:decide (z+1+(e:Int)<m.depths)=true:=decide_eq_true (by omega)
     have hlenT:(c.take i).length=i:=by simp;omega
     have hih:=c_l02First m hm j (c.take i++[z+1+(e:Int)]) (by simp;omega) (fun x hx2=>by
      rcases uq4.1 hx2 with h|h
      · have:=hc x (List.mem_of_mem_take h);omega
      · simp at h;omega)
     have hown:=c_l01Own (c.take i) (by omega)
     have htk:List.take i (List.map eI c)=List.map eI (c.take i):=List.map_take.symm
     have hnx:=firstD_none hE
     have hend2:∀k,firstK m j (c.take i++[z+1+(e:Int)])=some k→nextTo m c c.length=some k:=fun k hk=>hend' k (firstD_some (hnx.trans hk) _ (by omega))
     rw [hnx]
     clear hE hnx hend' hc
     unfold firstR at hih
     generalize c.take i=T at*
     have hmap:List.map eI T++[eI (z+1+(e:Int))]=List.map eI (T++[z+1+(e:Int)]):=by simp
     have htl:List.take (i+1) (List.map eI (T++[z+1+(e:Int)]))=List.map eI (T++[z+1+(e:Int)]):=uq9 (by simp;omega)
     have htl2:List.take i (List.map eI T)=List.map eI T:=uq9 (by simp;omega)
     generalize firstK m j (T++[z+1+(e:Int)])=F at*
     simp -dsimp -implicitDefEqProofs only [pz,Nat.reduceBEq,Nat.reduceDiv,Nat.reduceAdd,↓reduceIte,Nat.reduceEqDiff]
     simp -dsimp -implicitDefEqProofs only [go_sem,hlt2]
     refine Later.duo 8 mixed rfl ?_
     simp -dsimp -implicitDefEqProofs only [List.take_succ_cons,List.take_zero,List.drop_succ_cons,List.drop_zero]
     simp -dsimp -implicitDefEqProofs only [go_sem,htk]
     refine ⟨by omega,?_⟩
     (refine sCallX_one (hown) ?_;try simp -dsimp -implicitDefEqProofs only [go_sem, *])
     refine ⟨by omega,?_⟩
     refine ⟨by exact rfl,?_⟩
     refine sCallT_frz 34000 1 ⟨1,false⟩ true (List.map eI (T++[z+1+(e:Int)])) hih (by decide) ?_ ?_ fun r hr=> ?_
     · simp -dsimp -implicitDefEqProofs only [go_sem]
     · refine frzOk_no ?_ rfl ?_
       · simp -dsimp -implicitDefEqProofs only [go_sem]
       · have h:=frzOk_ref (l:=34000) (v:=1) (sh:=⟨1,false⟩) (ys:=List.map eI (T++[z+1+(e:Int)])) (xs:=[]) (r:=[]) 0 (i+1) (by simp;omega) trivial
         rw [List.drop_zero,htl] at h
         exact h
     · cases F with
       |some k=>
        rw [hend2 k rfl]
        rw [show r= .tup [eIs k,eB true] from hr]
        clear hr hend2
        simp -dsimp -implicitDefEqProofs only [go_sem,optR]
        exact rfl
       |none=>
        clear hend2
        obtain ⟨x,rfl,hx⟩:=hr
        rcases hx with rfl|rfl
        · simp -dsimp -implicitDefEqProofs only [go_sem]
          exact ⟨by exact rfl,⟨by omega,by omega⟩,by simp;omega⟩
        · simp -dsimp -implicitDefEqProofs only [go_sem]
          exact ⟨by exact rfl,⟨by omega,by omega⟩,by simp;omega⟩
   · have hlt2:decide (z+1+(((m.depths-(z+1)).toNat:Nat):Int)<m.depths)=false:=decide_eq_false (by omega)
     rw [hE]
     simp -dsimp -implicitDefEqProofs only [pz,Nat.reduceBEq,Nat.reduceDiv,Nat.reduceAdd,↓reduceIte,Nat.reduceEqDiff]
     simp -dsimp -implicitDefEqProofs only [go_sem,hlt2]
     first|exact ⟨by omega,by omega⟩|skip
 · have hlt:decide ((c.length:Int)-1-(c.length:Int)≥0)=false:=decide_eq_false (by omega)
   rw [hJ]
   clear hJ
   simp -dsimp -implicitDefEqProofs only [pz,Nat.reduceBEq,Nat.reduceDiv,Nat.reduceAdd,↓reduceIte,Nat.reduceEqDiff]
   simp -dsimp -implicitDefEqProofs only [go_sem,hlt,optR]
end Go.Vc
namespace Go.Vc
open Go.Proofs
def mkV (bs:List UInt8) (s:Src):MkM × Src:=
 let a:=nx bs 3 s
 let b:=nx bs 3 a.2
 let c:=nx bs (2+b.1-1) b.2
 let d:=nx bs (2+a.1) c.2
 let e:=nx bs 2 d.2
 (⟨2+a.1,2+b.1,1+c.1,1+d.1,1+e.1⟩,e.2)
theorem mkV_ok (bs:List UInt8) {s:Src} (h:SrcOk s):SrcOk (mkV bs s).2∧isMk (mkV bs s).1=true∧(mkV bs s).1.chambers≤4∧(mkV bs s).1.depths≤4:=by
 have h1:=nx_ok bs 3 h
 have h2:=nx_ok bs 3 h1.2.2.2
 have h3:=nx_ok bs (2+(nx bs 3 (nx bs 3 s).2).1-1) h2.2.2.2
 have h4:=nx_ok bs (2+(nx bs 3 s).1) h3.2.2.2
 have h5:=nx_ok bs 2 h4.2.2.2
 dsimp only [mkV]
 generalize nx bs 3 s=a at*
 generalize nx bs 3 a.2=b at*
 generalize nx bs (2+b.1-1) b.2=c at*
 generalize nx bs (2+a.1) c.2=d at*
 generalize nx bs 2 d.2=e at*
 refine ⟨h5.2.2.2,?_,by have:=h1.2.2.1 (by omega);omega,by have:=h2.2.2.1 (by omega);omega⟩
 have a1:=h1.2.2.1 (by omega)
 have b1:=h2.2.2.1 (by omega)
 have d1:=h4.2.2.1 (by omega)
 have e1:=h5.2.2.1 (by omega)
 have c1:c.1≤b.1:=by
  by_cases hb:b.1=0
  · have:=h3.2.1 (by omega);omega
  · have:=h3.2.2.1 (by omega);omega
 simp only [isMk,isIn,Bool.and_eq_true,decide_eq_true_eq]
 split<;>omega
theorem c_l02Valid (v:Nat) (bs:List UInt8) (s:Src) (h:SrcOk s) (hl:bs.length≤4096):
 FnM Tryz.prog 124 [srcB v bs s] [.ptr 1000000000 v 0 0] (fun x io=>x=eMk (mkV bs s).1∧io=[srcB v bs (mkV bs s).2]):=by
 refine FnM.of_vcN 34 [.cell 2 34] Tryz.func124 rfl rfl rfl rfl rfl (of_decide_eq_true rfl) ?_
 have h1:=nx_ok bs 3 h
 have h2:=nx_ok bs 3 h1.2.2.2
 have h3:=nx_ok bs (2+(nx bs 3 (nx bs 3 s).2).1-1) h2.2.2.2
 have h4:=nx_ok bs (2+(nx bs 3 s).1) h3.2.2.2
 have h5:=nx_ok bs 2 h4.2.2.2
 have q1:=fun v=>c_l01Next v bs 3 s h hl
 have q2:=fun v=>c_l01Next v bs 3 _ h1.2.2.2 hl
 have q3:=fun v=>c_l01Next v bs (2+(nx bs 3 (nx bs 3 s).2).1-1) _ h2.2.2.2 hl
 have q4:=fun v=>c_l01Next v bs (2+(nx bs 3 s).1) _ h3.2.2.2 hl
 have q5:=fun v=>c_l01Next v bs 2 _ h4.2.2.2 hl
 dsimp only [mkV]
 generalize nx bs 3 s=a at*
 generalize nx bs 3 a.2=b at*
 generalize nx bs (2+b.1-1) b.2=c at*
 generalize nx bs (2+a.1) c.2=d at*
 generalize nx bs 2 d.2=e at*
 have a1:=h1.2.2.1 (by omega)
 have b1:=h2.2.2.1 (by omega)
 have d1:=h4.2.2.1 (by omega)
 have e1:=h5.2.2.1 (by omega)
 have a0:=h1.1
 have b0:=h2.1
 have c0:=h3.1
 have d0:=h4.1
 have e0:=h5.1
 have c1:c.1≤b.1:=by
  by_cases hb:b.1=0
  · have:=h3.2.1 (by omega);omega
  · have:=h3.2.2.1 (by omega);omega
 have m1:(if 2+a.1<2 then 2+a.1 else 2)=(2:Int):=if_neg (by omega)
 have m2:(if 2+b.1<2 then 2+b.1 else 2)=(2:Int):=if_neg (by omega)
 clear h1 h2 h3 h4 h5
 simp -dsimp -implicitDefEqProofs only [go_sem]
 (refine sCallT_io [1000000000] ?_;simp -dsimp -implicitDefEqProofs only [go_sem];refine sCallM_one (q1 _) ?_;simp -dsimp -implicitDefEqProofs only [go_sem])
 ((repeat' (with_reducible refine ai ?_ ?_));all_goals try (first|omega|(refine ⟨?_,?_⟩<;>omega)|(exact rfl)))
 (refine sCallT_io [1000000000] ?_;simp -dsimp -implicitDefEqProofs only [go_sem];refine sCallM_one (q2 _) ?_;simp -dsimp -implicitDefEqProofs only [go_sem])
 ((repeat' (with_reducible refine ai ?_ ?_));all_goals try (first|omega|(refine ⟨?_,?_⟩<;>omega)|(exact rfl)))
 (refine sCallT_io [1000000000] ?_;simp -dsimp -implicitDefEqProofs only [go_sem];refine sCallM_one (q3 _) ?_;simp -dsimp -implicitDefEqProofs only [go_sem])
 ((repeat' (with_reducible refine ai ?_ ?_));all_goals try (first|omega|(refine ⟨?_,?_⟩<;>omega)|(exact rfl)))
 (refine sCallT_io [1000000000] ?_;simp -dsimp -implicitDefEqProofs only [go_sem];refine sCallM_one (q4 _) ?_;simp -dsimp -implicitDefEqProofs only [go_sem])
 ((repeat' (with_reducible refine ai ?_ ?_));all_goals try (first|omega|(refine ⟨?_,?_⟩<;>omega)|(exact rfl)))
 simp only [m1,m2]
 (refine sCallT_io [1000000000] ?_;simp -dsimp -implicitDefEqProofs only [go_sem];refine sCallM_one (q5 _) ?_;simp -dsimp -implicitDefEqProofs only [go_sem])
 ((repeat' (with_reducible refine ai ?_ ?_));all_goals try (first|omega|(refine ⟨?_,?_⟩<;>omega)|(exact rfl)))
 all_goals trace_state
def mkD (bs:List UInt8) (s:Src):MkM × Src:=
 let v:=mkV bs s
 let m:=v.1
 let n:=nx bs 30 v.2
 if n.1=0 then (⟨(pk bs [1,6,7] n.2).1,m.depths,m.step,m.same,m.least⟩,(pk bs [1,6,7] n.2).2)
 else if n.1=1 then (⟨m.chambers,(pk bs [1,8,9] n.2).1,m.step,m.same,m.least⟩,(pk bs [1,8,9] n.2).2)
 else if n.1=2 then (⟨m.chambers,m.depths,(pk bs [0,m.depths-1,m.depths] n.2).1,m.same,m.least⟩,(pk bs [0,m.depths-1,m.depths] n.2).2)
 else if n.1=3 then (⟨m.chambers,m.depths,m.step,(pk bs [0,m.chambers,m.chambers+1] n.2).1,m.least⟩,(pk bs [0,m.chambers,m.chambers+1] n.2).2)
 else if n.1=4 then (⟨m.chambers,m.depths,m.step,m.same,(pk bs [0,(if m.depths<m.chambers then m.depths else m.chambers),(if m.depths<m.chambers then m.depths else m.chambers)+1] n.2).1⟩,(pk bs [0,(if m.depths<m.chambers then m.depths else m.chambers),(if m.depths<m.chambers then m.depths else m.chambers)+1] n.2).2)
 else if n.1=5 then (⟨6,4+(nx bs 2 n.2).1,2+(nx bs 2 (nx bs 2 n.2).2).1,2,3⟩,(nx bs 2 (nx bs 2 n.2).2).2)
 else (m,n.2)
theorem mkD_ok (bs:List UInt8) {s:Src} (h:SrcOk s):SrcOk (mkD bs s).2:=by
 have hv:=(mkV_ok bs h).1
 have hn:=(nx_ok bs 30 hv).2.2.2
 dsimp only [mkD]
 generalize mkV bs s=v at*
 generalize nx bs 30 v.2=n at*
 have h2:=(nx_ok bs 2 hn).2.2.2
 have h3:=(nx_ok bs 2 h2).2.2.2
 split
 · exact pk_ok bs _ hn
 split
 · exact pk_ok bs _ hn
 split
 · exact pk_ok bs _ hn
 split
 · exact pk_ok bs _ hn
 split
 · exact pk_ok bs _ hn
 split
 · exact h3
 · exact hn
theorem c_l02Draw (v:Nat) (bs:List UInt8) (s:Src) (h:SrcOk s) (hl:bs.length≤4096):
 FnM Tryz.prog 122 [srcB v bs s] [.ptr 1000000000 v 0 0] (fun x io=>x=eMk (mkD bs s).1∧io=[srcB v bs (mkD bs s).2]):=by
 refine FnM.of_vcN 69 [.cell 2 34] Tryz.func122 rfl rfl rfl rfl rfl (of_decide_eq_true rfl) ?_
 obtain ⟨hv,hm,hc4,hd4⟩:=mkV_ok bs h
 have hnum:=isMk_num hm
 have hn:=nx_ok bs 30 hv
 have q1:=fun v=>c_l02Valid v bs s h hl
 have q2:=fun v=>c_l01Next v bs 30 _ hv hl
 dsimp only [mkD]
 generalize mkV bs s=p at*
 obtain ⟨m,s1⟩:=p
 dsimp only at*
 generalize nx bs 30 s1=n at*
 obtain ⟨n0,n1,n2,n3⟩:=hn
 have n2:=n2 (by omega)
 simp -dsimp -implicitDefEqProofs only [go_sem]
 (refine sCallT_io [1000000000] ?_;simp -dsimp -implicitDefEqProofs only [go_sem];refine sCallM_one (q1 _) ?_;simp -dsimp -implicitDefEqProofs only [go_sem])
 (refine sCallT_io [1000000000] ?_;simp -dsimp -implicitDefEqProofs only [go_sem];refine sCallM_one (q2 _) ?_;simp -dsimp -implicitDefEqProofs only [go_sem])
 rcases b0:(n.1==0) with _|_
 rotate_left
 · have e0:n.1=0:=beq_iff_eq.1 b0
   rw [if_pos e0]
   have qp:=fun v v2=>c_l01Pick v v2 true bs [1,6,7] _ n.2 rfl (by simp) (by simp) n3 hl
   generalize pk bs [1,6,7] n.2=pp at*
   clear e0
   simp -dsimp -implicitDefEqProofs only [go_sem,b0]
   ((repeat' (with_reducible refine ai ?_ ?_));all_goals try (first|omega|(refine ⟨?_,?_⟩<;>omega)|(exact rfl)))
   (refine sCallT_io [1000000000,11] ?_;simp -dsimp -implicitDefEqProofs only [go_sem];refine sCallM_one (qp _ _) ?_;simp -dsimp -implicitDefEqProofs only [go_sem])
   ((repeat' (with_reducible refine ai ?_ ?_));all_goals try (first|omega|(refine ⟨?_,?_⟩<;>omega)|(exact rfl)))
   all_goals trace_state
 rw [if_neg (beq_eq_false_iff_ne.1 b0)]
 rcases b1:(n.1==1) with _|_
 rotate_left
 · have e1:n.1=1:=beq_iff_eq.1 b1
   rw [if_pos e1]
   have qp:=fun v v2=>c_l01Pick v v2 true bs [1,8,9] _ n.2 rfl (by simp) (by simp) n3 hl
   generalize pk bs [1,8,9] n.2=pp at*
   clear e1
   simp -dsimp -implicitDefEqProofs only [go_sem,b0,b1]
   ((repeat' (with_reducible refine ai ?_ ?_));all_goals try (first|omega|(refine ⟨?_,?_⟩<;>omega)|(exact rfl)))
   (refine sCallT_io [1000000000,17] ?_;simp -dsimp -implicitDefEqProofs only [go_sem];refine sCallM_one (qp _ _) ?_;simp -dsimp -implicitDefEqProofs only [go_sem])
   ((repeat' (with_reducible refine ai ?_ ?_));all_goals try (first|omega|(refine ⟨?_,?_⟩<;>omega)|(exact rfl)))
   all_goals trace_state
 rw [if_neg (beq_eq_false_iff_ne.1 b1)]
 rcases b2:(n.1==2) with _|_
 rotate_left
 · have e2:n.1=2:=beq_iff_eq.1 b2
   rw [if_pos e2]
   have qp:=fun v v2=>c_l01Pick v v2 true bs [0,m.depths-1,m.depths] _ n.2 rfl (by simp) (by simp) n3 hl
   generalize pk bs [0,m.depths-1,m.depths] n.2=pp at*
   clear e2
   simp -dsimp -implicitDefEqProofs only [go_sem,b0,b1,b2]
   ((repeat' (with_reducible refine ai ?_ ?_));all_goals try (first|omega|(refine ⟨?_,?_⟩<;>omega)|(exact rfl)))
   (refine sCallT_io [1000000000,28] ?_;simp -dsimp -implicitDefEqProofs only [go_sem];refine sCallM_one (qp _ _) ?_;simp -dsimp -implicitDefEqProofs only [go_sem])
   ((repeat' (with_reducible refine ai ?_ ?_));all_goals try (first|omega|(refine ⟨?_,?_⟩<;>omega)|(exact rfl)))
   all_goals trace_state
 rw [if_neg (beq_eq_false_iff_ne.1 b2)]
 rcases b3:(n.1==3) with _|_
 rotate_left
 · have e3:n.1=3:=beq_iff_eq.1 b3
   rw [if_pos e3]
   have qp:=fun v v2=>c_l01Pick v v2 true bs [0,m.chambers,m.chambers+1] _ n.2 rfl (by simp) (by simp) n3 hl
   generalize pk bs [0,m.chambers,m.chambers+1] n.2=pp at*
   clear e3
   simp -dsimp -implicitDefEqProofs only [go_sem,b0,b1,b2,b3]
   ((repeat' (with_reducible refine ai ?_ ?_));all_goals try (first|omega|(refine ⟨?_,?_⟩<;>omega)|(exact rfl)))
   (refine sCallT_io [1000000000,39] ?_;simp -dsimp -implicitDefEqProofs only [go_sem];refine sCallM_one (qp _ _) ?_;simp -dsimp -implicitDefEqProofs only [go_sem])
   ((repeat' (with_reducible refine ai ?_ ?_));all_goals try (first|omega|(refine ⟨?_,?_⟩<;>omega)|(exact rfl)))
   all_goals trace_state
 rw [if_neg (beq_eq_false_iff_ne.1 b3)]
 rcases b4:(n.1==4) with _|_
 rotate_left
 · have e4:n.1=4:=beq_iff_eq.1 b4
   rw [if_pos e4]
   have qp:=fun v v2=>c_l01Pick v v2 true bs [0,(if m.depths<m.chambers then m.depths else m.chambers),(if m.depths<m.chambers then m.depths else m.chambers)+1] _ n.2 rfl (by simp) (by simp) n3 hl
   generalize pk bs [0,(if m.depths<m.chambers then m.depths else m.chambers),(if m.depths<m.chambers then m.depths else m.chambers)+1] n.2=pp at*
   clear e4
   simp -dsimp -implicitDefEqProofs only [go_sem,b0,b1,b2,b3,b4]
   ((repeat' (with_reducible refine ai ?_ ?_));all_goals try (first|omega|(refine ⟨?_,?_⟩<;>omega)|(exact rfl)))
   (refine sCallT_io [1000000000,56] ?_;simp -dsimp -implicitDefEqProofs only [go_sem];refine sCallM_one (qp _ _) ?_;simp -dsimp -implicitDefEqProofs only [go_sem])
   ((repeat' (with_reducible refine ai ?_ ?_));all_goals try (first|omega|(refine ⟨?_,?_⟩<;>omega)|(exact rfl)))
   all_goals trace_state
 rw [if_neg (beq_eq_false_iff_ne.1 b4)]
 rcases b5:(n.1==5) with _|_
 rotate_left
 · have e5:n.1=5:=beq_iff_eq.1 b5
   rw [if_pos e5]
   have x1:=nx_ok bs 2 n3
   have x2:=nx_ok bs 2 x1.2.2.2
   have qa:=fun v=>c_l01Next v bs 2 _ n3 hl
   have qb:=fun v=>c_l01Next v bs 2 _ x1.2.2.2 hl
   generalize nx bs 2 n.2=A at*
   generalize nx bs 2 A.2=Bq at*
   have x3:=x1.2.2.1 (by omega)
   have x4:=x2.2.2.1 (by omega)
   have x5:=x1.1
   have x6:=x2.1
   clear e5 x1 x2
   simp -dsimp -implicitDefEqProofs only [go_sem,b0,b1,b2,b3,b4,b5]
   (refine sCallT_io [1000000000] ?_;simp -dsimp -implicitDefEqProofs only [go_sem];refine sCallM_one (qa _) ?_;simp -dsimp -implicitDefEqProofs only [go_sem])
   ((repeat' (with_reducible refine ai ?_ ?_));all_goals try (first|omega|(refine ⟨?_,?_⟩<;>omega)|(exact rfl)))
   (refine sCallT_io [1000000000] ?_;simp -dsimp -implicitDefEqProofs only [go_sem];refine sCallM_one (qb _) ?_;simp -dsimp -implicitDefEqProofs only [go_sem])
   ((repeat' (with_reducible refine ai ?_ ?_));all_goals try (first|omega|(refine ⟨?_,?_⟩<;>omega)|(exact rfl)))
   all_goals trace_state
 rw [if_neg (beq_eq_false_iff_ne.1 b5)]
 simp -dsimp -implicitDefEqProofs only [go_sem,b0,b1,b2,b3,b4,b5]
 ((repeat' (with_reducible refine ai ?_ ?_));all_goals try (first|omega|(refine ⟨?_,?_⟩<;>omega)|(exact rfl)))
 all_goals trace_state
end Go.Vc
namespace Go.Vc
open Go.Proofs
theorem firstD_not {f:Nat→Option (List Int)} {d:Nat} (h:f d≠none):∀D,d<D→firstD f D≠none
 |0,hd=>absurd hd (Nat.not_lt_zero _)
 |D+1,hd=>by
  simp only [firstD]
  cases hh:firstD f D with
  |some k=>exact fun h=>by cases h
  |none=>
   by_cases e:d=D
   · subst e;exact h
   · exact absurd hh (firstD_not h D (by omega))
theorem firstK_not {m:MkM}:∀(n:Nat) (c t:List Int),t.length=n→okTo m (c++t)=true→m.least≤(kindsTo (c++t) (c++t).length:Int)→(∀x∈t,0≤x∧x<m.depths)→firstK m n c≠none
 |0,c,t,hl,ho,hk,hx=>by
  obtain rfl:=List.eq_nil_of_length_eq_zero hl
  rw [List.append_nil] at ho hk
  rw [firstK,if_pos ⟨ho,hk⟩]
  exact fun h=>by cases h
 |n+1,c,t,hl,ho,hk,hx=>by
  cases t with
  |nil=>cases hl
  |cons d t=>
   have hd:=hx d (List.mem_cons_self ..)
   have hoc:okTo m c=true:=by
    have:=okTo_take' ho (i:=c.length) (by simp)
    rwa [List.take_left'] at this
    rfl
   rw [firstK,if_pos hoc]
   refine firstD_not (d:=d.toNat) ?_ _ (by omega)
   have e:((d.toNat:Nat):Int)=d:=by omega
   rw [e]
   have e2:c++d::t=(c++[d])++t:=by simp
   rw [e2] at ho hk
   exact firstK_not n (c++[d]) t (by simpa using hl) ho hk fun x hx2=>hx x (List.mem_cons_of_mem _ hx2)
theorem firstK_len {m:MkM}:∀(n:Nat) (c k:List Int),firstK m n c=some k→k.length=c.length+n∧okTo m k=true∧(m.least≤(kindsTo k k.length:Int))∧((∀x∈c,0≤x∧x<m.depths)→∀x∈k,0≤x∧x<m.depths)
 |0,c,k,h=>by
  rw [firstK] at h
  split at h
  · rename_i hc
    injection h with h
    subst h
    exact ⟨rfl,hc.1,hc.2,fun h=>h⟩
  · cases h
 |n+1,c,k,h=>by
  rw [firstK] at h
  split at h
  · obtain ⟨d,h1,h2⟩:=firstD_out h
    obtain ⟨g1,g2,g3,g4⟩:=firstK_len n _ k h2
    refine ⟨by rw [g1];simp;omega,g2,g3,fun hc=>g4 fun x hx=> ?_⟩
    rcases uq4.1 hx with h|h
    · exact hc x h
    · simp at h;omega
  · cases h
def zig (ch dp:Int):List Int:=(([0,1,2,3,4,5]:List Int).map fun x=>if x<dp then x else if (x-dp).tmod 2=0 then dp-2 else dp-1).take ch.toNat
def zigB (C D:Int):Bool:=
 (zig C D).length==C.toNat&&(List.range (zig C D).length).all (fun i=>decide (runAt (zig C D) i≤1)&&(i==0||decide (absN ((zig C D).getD i 0-(zig C D).getD (i-1) 0)≤1)))&&
   decide ((if D<C then D else C)≤(kindsTo (zig C D) (zig C D).length:Int))&&(zig C D).all fun x=>decide (0≤x)&&decide (x<D)
theorem zigB_all:((List.range 5).all fun c=>(List.range 7).all fun d=>zigB ((c:Int)+2) ((d:Int)+2))=true:=by decide+kernel
theorem zig_ok {m:MkM} (hm:isMk m=true):(zig m.chambers m.depths).length=m.chambers.toNat∧okTo m (zig m.chambers m.depths)=true∧m.least≤(kindsTo (zig m.chambers m.depths) (zig m.chambers m.depths).length:Int)∧∀x∈zig m.chambers m.depths,0≤x∧x<m.depths:=by
 have hnum:=isMk_num hm
 have hs:=isMk_same hm
 have hl:m.least≤if m.depths<m.chambers then m.depths else m.chambers:=by
  simp only [isMk,isIn,Bool.and_eq_true,decide_eq_true_eq] at hm
  exact hm.2.2
 have h1:=uq0.1 zigB_all (m.chambers.toNat-2) (uq5.2 (by omega))
 have h2:=uq0.1 h1 (m.depths.toNat-2) (uq5.2 (by omega))
 rw [show ((m.chambers.toNat-2:Nat):Int)+2=m.chambers by omega,show ((m.depths.toNat-2:Nat):Int)+2=m.depths by omega] at h2
 unfold zigB at h2
 simp only [Bool.and_eq_true,beq_iff_eq,decide_eq_true_eq] at h2
 obtain ⟨⟨⟨g1,g2⟩,g3⟩,g4⟩:=h2
 generalize zig m.chambers m.depths=z at*
 refine ⟨g1,?_,by omega,fun x hx=> ?_⟩
 · unfold okTo
   rw [uq0] at g2 ⊢
   intro i hi
   have:=g2 i hi
   simp only [Bool.and_eq_true,decide_eq_true_eq,Bool.or_eq_true,beq_iff_eq] at this ⊢
   refine ⟨by omega,?_⟩
   unfold stepAt
   rcases this.2 with h|h
   · simp [h]
   · rw [decide_eq_true (show absN (z.getD i 0-z.getD (i-1) 0)≤m.step by omega)];simp
 · have:=uq0.1 g4 x hx
   simpa using this
theorem firstK_some {m:MkM} (hm:isMk m=true):∃k,firstK m m.chambers.toNat []=some k:=by
 obtain ⟨h1,h2,h3,h4⟩:=zig_ok hm
 have:=firstK_not m.chambers.toNat [] (zig m.chambers m.depths) h1 h2 h3 h4
 cases hh:firstK m m.chambers.toNat [] with
 |some k=>exact ⟨k,rfl⟩
 |none=>exact absurd hh this
theorem nextTo_len {m:MkM} {c k:List Int} (hl:(c.length:Int)=m.chambers) (hc:∀x∈c,0≤x∧x<m.depths):∀j,j≤c.length→nextTo m c j=some k→k.length=c.length∧okTo m k=true∧m.least≤(kindsTo k k.length:Int)∧∀x∈k,0≤x∧x<m.depths
 |0,_,h=>by cases h
 |j+1,hj,h=>by
  cases hh:nextTo m c j with
  |some k'=>
   rw [nextTo_some hh (j+1) (by omega)] at h
   injection h with h
   subst h
   exact nextTo_len hl hc j (by omega) hh
  |none=>
   rw [nextTo_none hh] at h
   obtain ⟨e,h1,h2⟩:=firstD_out h
   obtain ⟨g1,g2,g3,g4⟩:=firstK_len j _ k h2
   have hi:c.length-1-j<c.length:=by omega
   have hx:=hc c[c.length-1-j] (uq3 hi)
   have hgd:c.getD (c.length-1-j) 0=c[c.length-1-j]:=by simp [uq1,hi]
   rw [hgd] at h1 g1 g4
   refine ⟨by rw [g1];simp;omega,g2,g3,g4 fun x hx2=> ?_⟩
   rcases uq4.1 hx2 with h|h
   · exact hc x (List.mem_of_mem_take h)
   · simp at h;omega
end Go.Vc
namespace Go.Vc
open Go.Proofs
def cutsTo (bs:List UInt8) (D:Int) (s:Src):Nat→List Int × Src
 |0=>([],s)
 |i+1=>((cutsTo bs D s i).1++[(nx bs D (cutsTo bs D s i).2).1],(nx bs D (cutsTo bs D s i).2).2)
theorem cutsTo_ok {bs:List UInt8} {D:Int} {s:Src} (h:SrcOk s) (hD:2≤D):∀i,SrcOk (cutsTo bs D s i).2∧(cutsTo bs D s i).1.length=i∧∀x∈(cutsTo bs D s i).1,0≤x∧x<D
 |0=>⟨h,rfl,fun x hx=>by cases hx⟩
 |i+1=>by
  obtain ⟨h1,h2,h3⟩:=cutsTo_ok h hD i (bs:=bs)
  have hn:=nx_ok bs D h1
  refine ⟨hn.2.2.2,by simp [cutsTo,h2],fun x hx=> ?_⟩
  simp only [cutsTo] at hx
  rcases uq4.1 hx with h|h
  · exact h3 x h
  · simp at h;rw [h];exact ⟨hn.1,hn.2.2.1 (by omega)⟩
def someK (m:MkM) (c:List Int):List Int:=match nextTo m c c.length with
 |some k=>k
 |none=>(firstK m m.chambers.toNat []).getD []
theorem someK_ok {m:MkM} {c:List Int} (hm:isMk m=true) (hl:(c.length:Int)=m.chambers) (hc:∀x∈c,0≤x∧x<m.depths):
 ((someK m c).length:Int)=m.chambers∧okTo m (someK m c)=true∧m.least≤(kindsTo (someK m c) (someK m c).length:Int)∧∀x∈someK m c,0≤x∧x<m.depths:=by
 have hnum:=isMk_num hm
 unfold someK
 cases h:nextTo m c c.length with
 |some k=>
  obtain ⟨g1,g2,g3,g4⟩:=nextTo_len hl hc c.length (uq10 _) h
  exact ⟨by simp only;omega,g2,g3,g4⟩
 |none=>
  obtain ⟨k,hk⟩:=firstK_some hm
  obtain ⟨g1,g2,g3,g4⟩:=firstK_len _ _ _ hk
  simp only [hk,Option.getD_some]
  exact ⟨by simp at g1;omega,g2,g3,g4 fun x hx=>by cases hx⟩
theorem c_l02Some (v:Nat) (bs:List UInt8) (s:Src) (m:MkM) (h:SrcOk s) (hm:isMk m=true) (hl:bs.length≤4096):
 FnMR Tryz.prog 140 [srcB v bs s] [.ptr 1000000000 v 0 0,eMk m] (fun x io=>x=eIs (someK m (cutsTo bs m.depths s m.chambers.toNat).1)∧io=[srcB v bs (cutsTo bs m.depths s m.chambers.toNat).2]):=by
 refine FnMR.of_vc 37 [.tmp 4] Tryz.func140 rfl rfl rfl rfl rfl (of_decide_eq_true rfl) ?_
 have ⟨⟨hch1,hch2⟩,hd1,hd2⟩:=isMk_num hm
 have hct:=fun i=>cutsTo_ok (bs:=bs) (D:=m.depths) h hd1 i
 simp -dsimp -implicitDefEqProofs only [go_sem]
 refine Later.up [0,3] [20,21,22] [9,1000000000] m.chambers.toNat (fun _=>True) (fun i=>[(6,eI i),(5,.ref 9 0 0 (cutsTo bs m.depths s i).1.length)]) (fun i=>[(9,.row 0 ⟨1,false⟩ true ((cutsTo bs m.depths s i).1.map eI)),(1000000000,srcB v bs (cutsTo bs m.depths s i).2)]) trivial ?_ rfl (fun i hi _=> ?_) (fun _=> ?_)
 · simp -dsimp -implicitDefEqProofs only [go_sem]
   try simp [cutsTo]
 · have hlt:decide ((i:Int)<m.chambers)=true:=decide_eq_true (by omega)
   obtain ⟨h1,h2,h3⟩:=hct i
   have hn:=nx_ok bs m.depths h1
   have q:=fun v=>c_l01Next v bs m.depths _ h1 hl
   have hsucc:cutsTo bs m.depths s (i+1)=((cutsTo bs m.depths s i).1++[(nx bs m.depths (cutsTo bs m.depths s i).2).1],(nx bs m.depths (cutsTo bs m.depths s i).2).2):=rfl
   rw [hsucc]
   clear hsucc hct
   generalize nx bs m.depths (cutsTo bs m.depths s i).2=a at*
   generalize cutsTo bs m.depths s i=p at*
   have htk:List.take p.1.length (List.map eI p.1)=List.map eI p.1:=uq9 (by simp)
   simp -dsimp -implicitDefEqProofs only [pz,Nat.reduceBEq,Nat.reduceDiv,Nat.reduceAdd,↓reduceIte,Nat.reduceEqDiff]
   simp -dsimp -implicitDefEqProofs only [go_sem,hlt]
   (refine sCallT_io [1000000000] ?_;simp -dsimp -implicitDefEqProofs only [go_sem];refine sCallM_one (q _) ?_;simp -dsimp -implicitDefEqProofs only [go_sem])
   exact ⟨by omega,⟨by omega,by omega⟩,by simp,by simp⟩
 · have hlt:decide (((m.chambers.toNat:Nat):Int)<m.chambers)=false:=decide_eq_false (by omega)
   obtain ⟨h1,h2,h3⟩:=hct m.chambers.toNat
   clear hct
   generalize cutsTo bs m.depths s m.chambers.toNat=p at*
   have hnx:=c_l02Next m p.1 hm (by omega) h3
   simp -dsimp -implicitDefEqProofs only [pz,Nat.reduceBEq,Nat.reduceDiv,Nat.reduceAdd,↓reduceIte,Nat.reduceEqDiff]
   simp -dsimp -implicitDefEqProofs only [go_sem,hlt]
   refine sCallT_frz 9 0 ⟨1,false⟩ true (List.map eI p.1) hnx (by decide) ?_ ?_ fun r hr=> ?_
   · simp -dsimp -implicitDefEqProofs only [go_sem]
   · refine frzOk_no ?_ rfl ?_
     · simp -dsimp -implicitDefEqProofs only [go_sem]
     · have h:=frzOk_ref (l:=9) (v:=0) (sh:=⟨1,false⟩) (ys:=List.map eI p.1) (xs:=[]) (r:=[]) 0 p.1.length (by simp) trivial
       rw [List.drop_zero,uq9 (by simp)] at h
       exact h
   · subst hr
     obtain ⟨k0,hk0⟩:=firstK_some hm
     unfold someK
     cases nextTo m p.1 p.1.length with
     |some k=>
      unfold optR
      simp -dsimp -implicitDefEqProofs only [go_sem]
     |none=>
      rw [hk0]
      unfold optR
      have hf:=(c_l02First m hm m.chambers.toNat [] (by simp;omega) (fun x hx=>by cases hx)).subs (args':=[eMk m,eNil]) (.cons (.refl _) (.cons (.nil _) .nil))
      unfold firstR at hf
      rw [hk0] at hf
      simp -dsimp -implicitDefEqProofs only [go_sem]
      refine sCallS_one (r:=.tup [eIs k0,eB true]) hf ?_ ?_
      · simp [noLabs,labs,labsL,isClo]
      · simp -dsimp -implicitDefEqProofs only [go_sem]
        exact rfl
end Go.Vc
namespace Go.Vc
open Go.Proofs
structure MkB (m:MkM):Prop where
 c:0≤m.chambers∧m.chambers≤7
 d:0≤m.depths∧m.depths≤9
 s:0≤m.step∧m.step≤9
 a:0≤m.same∧m.same≤9
 l:0≤m.least∧m.least≤9
structure CSt where
 cuts:List Int
 at':Int
 src:Src
def cutSt (bs:List UInt8) (m:MkM) (p:CSt):CSt:=
 ⟨p.cuts++[p.at'],
  if (nx bs 24 (nx bs (2*(if m.step>0 then m.step else 0)+1) p.src).2).1>0 then
   (if (if p.at'+(nx bs (2*(if m.step>0 then m.step else 0)+1) p.src).1-m.step<m.depths-1 then p.at'+(nx bs (2*(if m.step>0 then m.step else 0)+1) p.src).1-m.step else m.depths-1)>0 then
     (if p.at'+(nx bs (2*(if m.step>0 then m.step else 0)+1) p.src).1-m.step<m.depths-1 then p.at'+(nx bs (2*(if m.step>0 then m.step else 0)+1) p.src).1-m.step else m.depths-1) else 0)
  else p.at'+(nx bs (2*(if m.step>0 then m.step else 0)+1) p.src).1-m.step,
  (nx bs 24 (nx bs (2*(if m.step>0 then m.step else 0)+1) p.src).2).2⟩
def cutsN (bs:List UInt8) (m:MkM) (p:CSt):Nat→CSt
 |0=>p
 |i+1=>cutSt bs m (cutsN bs m p i)
theorem cutsN_ok {bs:List UInt8} {m:MkM} (hm:MkB m) {p:CSt} (h:SrcOk p.src) (h2:p.cuts=[]) (h3:0≤p.at'∧p.at'≤9):∀i,SrcOk (cutsN bs m p i).src∧(cutsN bs m p i).cuts.length=i∧ -20-20*(i:Int)≤(cutsN bs m p i).at'∧(cutsN bs m p i).at'≤20+20*(i:Int)
 |0=>⟨h,by rw [cutsN,h2];rfl,by simp only [cutsN];omega,by simp only [cutsN];omega⟩
 |i+1=>by
  obtain ⟨g1,g2,g3,g4⟩:=cutsN_ok hm h h2 h3 i (bs:=bs)
  simp only [cutsN,cutSt]
  generalize cutsN bs m p i=q at*
  have hm1:=hm.s
  have hm2:=hm.d
  have hst:0≤2*(if m.step>0 then m.step else 0)+1∧2*(if m.step>0 then m.step else 0)+1≤19:=by split<;>omega
  generalize 2*(if m.step>0 then m.step else 0)+1=W at*
  have n1:=nx_ok bs W g1
  have n2:(nx bs W q.src).1≤19:=by
   by_cases hw:W≤1
   · have:=n1.2.1 hw;omega
   · have:=n1.2.2.1 (by omega);omega
  generalize nx bs W q.src=a at*
  have n3:=nx_ok bs 24 n1.2.2.2
  generalize nx bs 24 a.2=b at*
  refine ⟨n3.2.2.2,by simp [g2],?_,?_⟩<;>(repeat' split)<;>omega
def cutsE (bs:List UInt8) (p:CSt):List Int × Src:=if (nx bs 24 p.src).1=0 then (p.cuts++[0],(nx bs 24 p.src).2) else (p.cuts,(nx bs 24 p.src).2)
def chD (m:MkM):Int:=if m.chambers<8 then m.chambers else 8
def cutsD (bs:List UInt8) (m:MkM) (s:Src):List Int × Src:=
 cutsE bs (cutsN bs m ⟨[],(nx bs (if m.depths>1 then m.depths else 1) s).1,(nx bs (if m.depths>1 then m.depths else 1) s).2⟩ (chD m).toNat)
theorem cutsE_ok {bs:List UInt8} {p:CSt} (h:SrcOk p.src):SrcOk (cutsE bs p).2∧(cutsE bs p).1.length≤p.cuts.length+1:=by
 have:=(nx_ok bs 24 h).2.2.2
 unfold cutsE
 split
 · exact ⟨this,by simp⟩
 · exact ⟨this,by dsimp only;omega⟩
theorem cuts0_ok {bs:List UInt8} {m:MkM} {s:Src} (hm:MkB m) (h:SrcOk s):SrcOk (nx bs (if m.depths>1 then m.depths else 1) s).2∧0≤(nx bs (if m.depths>1 then m.depths else 1) s).1∧(nx bs (if m.depths>1 then m.depths else 1) s).1≤9:=by
 have hd:=hm.d
 have hw:(if m.depths>1 then m.depths else 1)≤9:=by split<;>omega
 generalize (if m.depths>1 then m.depths else 1)=W at*
 have hn:=nx_ok bs W h
 refine ⟨hn.2.2.2,hn.1,?_⟩
 by_cases h1:W≤1
 · have:=hn.2.1 h1;omega
 · have:=hn.2.2.1 (by omega);omega
theorem cutsD_ok {bs:List UInt8} {m:MkM} {s:Src} (hm:MkB m) (h:SrcOk s):SrcOk (cutsD bs m s).2∧(cutsD bs m s).1.length≤8:=by
 have h0:=cuts0_ok (bs:=bs) hm h
 obtain ⟨h1,h2,_⟩:=cutsN_ok (bs:=bs) hm (p:=⟨[],(nx bs (if m.depths>1 then m.depths else 1) s).1,(nx bs (if m.depths>1 then m.depths else 1) s).2⟩) h0.1 rfl h0.2 (chD m).toNat
 have h3:=cutsE_ok (bs:=bs) h1
 have h4:(chD m).toNat≤7:=by have:=hm.c;unfold chD;split<;>omega
 unfold cutsD
 exact ⟨h3.1,by omega⟩
theorem c_l02DrawCuts (v:Nat) (bs:List UInt8) (m:MkM) (s:Src) (hm:MkB m) (h:SrcOk s) (hl:bs.length≤4096):
 FnM Tryz.prog 141 [srcB v bs s] [.ptr 1000000000 v 0 0,eMk m] (fun x io=>x=eIs (cutsD bs m s).1∧io=[srcB v bs (cutsD bs m s).2]):=by
 refine FnM.of_vcN 53 [.tmp 4] Tryz.func141 rfl rfl rfl rfl rfl (of_decide_eq_true rfl) ?_
 have hc:=hm.c
 have hd:=hm.d
 have hs:=hm.s
 have h0:=cuts0_ok (bs:=bs) hm h
 have q0:=fun v=>c_l01Next v bs (if m.depths>1 then m.depths else 1) _ h hl
 unfold cutsD
 generalize nx bs (if m.depths>1 then m.depths else 1) s=a at*
 have hcn:=cutsN_ok (bs:=bs) hm (p:=⟨[],a.1,a.2⟩) h0.1 rfl h0.2
 have hch:0≤chD m∧chD m≤7:=by unfold chD;split<;>omega
 simp -dsimp -implicitDefEqProofs only [go_sem]
 (refine sCallT_io [1000000000] ?_;simp -dsimp -implicitDefEqProofs only [go_sem];refine sCallM_one (q0 _) ?_;simp -dsimp -implicitDefEqProofs only [go_sem])
 refine Later.up [0,3] [17,23,24,29,32,38,44,45] [8,1000000000] (chD m).toNat (fun _=>True) (fun i=>[(7,eI i),(6,eI (cutsN bs m ⟨[],a.1,a.2⟩ i).at'),(5,.ref 8 0 0 i)]) (fun i=>[(8,.row 0 ⟨1,false⟩ true ((cutsN bs m ⟨[],a.1,a.2⟩ i).cuts.map eI)),(1000000000,srcB v bs (cutsN bs m ⟨[],a.1,a.2⟩ i).src)]) trivial ?_ rfl (fun i hi _=> ?_) (fun _=> ?_)
 · simp -dsimp -implicitDefEqProofs only [go_sem,cutsN]
 · obtain ⟨g1,g2,g3,g4⟩:=hcn i
   have hlt:decide ((i:Int)<chD m)=true:=decide_eq_true (by omega)
   unfold chD at hlt
   clear hcn
   simp only [cutsN,cutSt]
   generalize cutsN bs m ⟨[],a.1,a.2⟩ i=q at*
   have htk:List.take i (List.map eI q.cuts)=List.map eI q.cuts:=uq9 (by simp;omega)
   have hst:0≤2*(if m.step>0 then m.step else 0)+1∧2*(if m.step>0 then m.step else 0)+1≤19:=by split<;>omega
   have n1:=nx_ok bs (2*(if m.step>0 then m.step else 0)+1) g1
   have q1:=fun v=>c_l01Next v bs (2*(if m.step>0 then m.step else 0)+1) _ g1 hl
   have n2:(nx bs (2*(if m.step>0 then m.step else 0)+1) q.src).1≤19:=by
    by_cases hw:(2*(if m.step>0 then m.step else 0)+1)≤1
    · have:=n1.2.1 hw;omega
    · have:=n1.2.2.1 (by omega);omega
   generalize nx bs (2*(if m.step>0 then m.step else 0)+1) q.src=b at*
   have n3:=nx_ok bs 24 n1.2.2.2
   have q2:=fun v=>c_l01Next v bs 24 _ n1.2.2.2 hl
   generalize nx bs 24 b.2=c at*
   simp -dsimp -implicitDefEqProofs only [pz,Nat.reduceBEq,Nat.reduceDiv,Nat.reduceAdd,↓reduceIte,Nat.reduceEqDiff]
   simp -dsimp -implicitDefEqProofs only [go_sem,hlt,htk]
   ((repeat' (with_reducible refine ai ?_ ?_));all_goals try (first|omega|(refine ⟨?_,?_⟩<;>omega)|(exact rfl)))
   refine Later.draw mixed rfl ?_
   simp -dsimp -implicitDefEqProofs only [go_sem]
   ((repeat' (with_reducible refine ai ?_ ?_));all_goals try (first|omega|(refine ⟨?_,?_⟩<;>omega)|(exact rfl)))
   refine sCallX_io [1000000000] rfl ?_
   simp -dsimp -implicitDefEqProofs only [go_sem]
   refine sCallMX_one (q1 _) ?_
   simp -dsimp -implicitDefEqProofs only [go_sem]
   ((repeat' (with_reducible refine ai ?_ ?_));all_goals try (first|omega|(refine ⟨?_,?_⟩<;>omega)|(exact rfl)))
   (refine sCallT_io [1000000000] ?_;simp -dsimp -implicitDefEqProofs only [go_sem];refine sCallM_one (q2 _) ?_;simp -dsimp -implicitDefEqProofs only [go_sem])
   rcases b0:decide (c.1>0) with _|_
   · rw [if_neg (of_decide_eq_false b0)]
     simp -dsimp -implicitDefEqProofs only [go_sem,b0]
     ((repeat' (with_reducible refine ai ?_ ?_));all_goals try (first|omega|(refine ⟨?_,?_⟩<;>omega)|(exact rfl)))
     all_goals (simp;done)
   · rw [if_pos (of_decide_eq_true b0)]
     simp -dsimp -implicitDefEqProofs only [go_sem,b0]
     ((repeat' (with_reducible refine ai ?_ ?_));all_goals try (first|omega|(refine ⟨?_,?_⟩<;>omega)|(exact rfl)))
     all_goals (simp;done)
 · obtain ⟨g1,g2,g3,g4⟩:=hcn (chD m).toNat
   have hlt:decide (((chD m).toNat:Int)<chD m)=false:=decide_eq_false (by omega)
   generalize hW:chD m=W at*
   unfold chD at hW
   clear hcn
   generalize cutsN bs m ⟨[],a.1,a.2⟩ W.toNat=q at*
   unfold cutsE
   have n3:=nx_ok bs 24 g1
   have q2:=fun v=>c_l01Next v bs 24 _ g1 hl
   generalize nx bs 24 q.src=c at*
   simp -dsimp -implicitDefEqProofs only [pz,Nat.reduceBEq,Nat.reduceDiv,Nat.reduceAdd,↓reduceIte,Nat.reduceEqDiff]
   simp -dsimp -implicitDefEqProofs only [go_sem,hlt,hW]
   (refine sCallT_io [1000000000] ?_;simp -dsimp -implicitDefEqProofs only [go_sem];refine sCallM_one (q2 _) ?_;simp -dsimp -implicitDefEqProofs only [go_sem])
   rcases b0:(c.1==0) with _|_
   · rw [if_neg (beq_eq_false_iff_ne.1 b0)]
     simp -dsimp -implicitDefEqProofs only [go_sem,b0]
     ((repeat' (with_reducible refine ai ?_ ?_));all_goals try (first|omega|(refine ⟨?_,?_⟩<;>omega)|(exact rfl)))
     all_goals first|(simp;done)|(rw [uq9 (l:=List.map eI q.cuts) (by simp;omega)];try (rw [uq9 (by simp;omega)];simp))
   · rw [if_pos (beq_iff_eq.1 b0)]
     simp -dsimp -implicitDefEqProofs only [go_sem,b0]
     ((repeat' (with_reducible refine ai ?_ ?_));all_goals try (first|omega|(refine ⟨?_,?_⟩<;>omega)|(exact rfl)))
     all_goals first|(simp;done)|(rw [uq9 (l:=List.map eI q.cuts) (by simp;omega)];try (rw [uq9 (by simp;omega)];simp))
end Go.Vc
namespace Go.Vc
open Go.Proofs
def zrowTo (bs:List UInt8) (s:Src):Nat→List Int × Src
 |0=>([],s)
 |k+1=>((zrowTo bs s k).1++[(pk bs [0,0,1] (zrowTo bs s k).2).1],(pk bs [0,0,1] (zrowTo bs s k).2).2)
theorem zrowTo_succ (bs:List UInt8) (s:Src) (k:Nat):zrowTo bs s (k+1)=((zrowTo bs s k).1++[(pk bs [0,0,1] (zrowTo bs s k).2).1],(pk bs [0,0,1] (zrowTo bs s k).2).2):=rfl
theorem zrowTo_ok {bs:List UInt8} {s:Src} (h:SrcOk s):∀k,SrcOk (zrowTo bs s k).2∧(zrowTo bs s k).1.length=k
 |0=>⟨h,rfl⟩
 |k+1=>by
  obtain ⟨h1,h2⟩:=zrowTo_ok h k (bs:=bs)
  rw [zrowTo_succ]
  exact ⟨pk_ok bs _ h1,by simp [h2]⟩
def ztabTo (bs:List UInt8) (c:Nat) (s:Src):Nat→List (List Int) × Src
 |0=>([],s)
 |i+1=>((ztabTo bs c s i).1++[(zrowTo bs (ztabTo bs c s i).2 c).1],(zrowTo bs (ztabTo bs c s i).2 c).2)
theorem ztabTo_succ (bs:List UInt8) (c:Nat) (s:Src) (i:Nat):ztabTo bs c s (i+1)=((ztabTo bs c s i).1++[(zrowTo bs (ztabTo bs c s i).2 c).1],(zrowTo bs (ztabTo bs c s i).2 c).2):=rfl
theorem ztabTo_ok {bs:List UInt8} {s:Src} (h:SrcOk s) (c:Nat):∀i,SrcOk (ztabTo bs c s i).2∧(ztabTo bs c s i).1.length=i∧∀x∈(ztabTo bs c s i).1,x.length=c
 |0=>⟨h,rfl,fun x hx=>by cases hx⟩
 |i+1=>by
  obtain ⟨h1,h2,h3⟩:=ztabTo_ok h c i (bs:=bs)
  obtain ⟨g1,g2⟩:=zrowTo_ok h1 c (bs:=bs)
  rw [ztabTo_succ]
  refine ⟨g1,by simp [h2],fun x hx=> ?_⟩
  rcases uq4.1 hx with hx|hx
  · exact h3 x hx
  · simp at hx;subst hx;exact g2
def setAt (t:List (List Int)) (i k:Nat):List (List Int):=t.set i ((t.getD i []).set k 1)
theorem setAt_ok {t:List (List Int)} {r c:Nat} (h1:t.length=r) (h2:∀x∈t,x.length=c) (i k:Nat):(setAt t i k).length=r∧∀x∈setAt t i k,x.length=c:=by
 refine ⟨by simp [setAt,h1],fun x hx=> ?_⟩
 unfold setAt at hx
 by_cases hi:i<t.length
 · rcases List.mem_or_eq_of_mem_set hx with hx|rfl
   · exact h2 x hx
   · rw [List.length_set,uq1,uq2 hi]
     exact h2 _ (uq3 hi)
 · rw [List.set_eq_of_length_le (by omega)] at hx
   exact h2 x hx
def fillA (bs:List UInt8) (a:Nat) (k:Nat) (z:List (List Int) × Src):List (List Int):=if decide ((nx bs 3 z.2).1>0)=true then setAt z.1 a k else z.1
def fillTo (bs:List UInt8) (r a:Nat) (z:List (List Int) × Src):Nat→List (List Int) × Src
 |0=>z
 |k+1=>(setAt (fillA bs a k (fillTo bs r a z k)) (nx bs r (nx bs 3 (fillTo bs r a z k).2).2).1.toNat k,(nx bs r (nx bs 3 (fillTo bs r a z k).2).2).2)
theorem fillTo_succ (bs:List UInt8) (r a:Nat) (z:List (List Int) × Src) (k:Nat):fillTo bs r a z (k+1)=(setAt (fillA bs a k (fillTo bs r a z k)) (nx bs r (nx bs 3 (fillTo bs r a z k).2).2).1.toNat k,(nx bs r (nx bs 3 (fillTo bs r a z k).2).2).2):=rfl
theorem fillTo_ok {bs:List UInt8} {r c a:Nat} {z:List (List Int) × Src} (h:SrcOk z.2) (h1:z.1.length=r) (h2:∀x∈z.1,x.length=c):∀k,SrcOk (fillTo bs r a z k).2∧(fillTo bs r a z k).1.length=r∧∀x∈(fillTo bs r a z k).1,x.length=c
 |0=>⟨h,h1,h2⟩
 |k+1=>by
  obtain ⟨g1,g2,g3⟩:=fillTo_ok h h1 h2 k (bs:=bs) (a:=a)
  rw [fillTo_succ]
  have a1:=nx_ok bs 3 g1
  refine ⟨(nx_ok bs r a1.2.2.2).2.2.2,?_⟩
  have hA:(fillA bs a k (fillTo bs r a z k)).length=r∧∀x∈fillA bs a k (fillTo bs r a z k),x.length=c:=by
   unfold fillA
   split
   · exact setAt_ok g2 g3 _ _
   · exact ⟨g2,g3⟩
  exact setAt_ok hA.1 hA.2 _ _
def sysR (bs:List UInt8) (s:Src):Nat:=(1+(nx bs 4 (mkV bs s).2).1).toNat
def sysC (bs:List UInt8) (s:Src):Nat:=(1+(nx bs 4 (nx bs 4 (mkV bs s).2).2).1).toNat
def sysZ (bs:List UInt8) (s:Src):List (List Int) × Src:=ztabTo bs (sysC bs s) (nx bs 4 (nx bs 4 (mkV bs s).2).2).2 (sysR bs s)
def sysA (bs:List UInt8) (s:Src):Int × Src:=nx bs (sysR bs s) (sysZ bs s).2
def sysT (bs:List UInt8) (s:Src):List (List Int) × Src:=fillTo bs (sysR bs s) (sysA bs s).1.toNat ((sysZ bs s).1,(sysA bs s).2) (sysC bs s)
structure sysOk (m:MkM) (t:List (List Int)) (s:Src):Prop where
 src:SrcOk s
 hmk:isMk m=true
 lt:1≤t.length∧t.length≤4
 lr:1≤(t.getD 0 []).length∧(t.getD 0 []).length≤4
 rs:∀i (hi:i<t.length),t[i].length=(t.getD 0 []).length
theorem sysRC (bs:List UInt8) {s:Src} (h:SrcOk s):(1≤sysR bs s∧sysR bs s≤4)∧1≤sysC bs s∧sysC bs s≤4:=by
 have a:=(mkV_ok bs h).1
 have b:=nx_ok bs 4 a
 have b3:=b.2.2.1 (by omega)
 have c:=nx_ok bs 4 b.2.2.2
 have c3:=c.2.2.1 (by omega)
 unfold sysR sysC
 omega
theorem sysZ_ok (bs:List UInt8) {s:Src} (h:SrcOk s):SrcOk (sysZ bs s).2∧(sysZ bs s).1.length=sysR bs s∧∀x∈(sysZ bs s).1,x.length=sysC bs s:=by
 have a:=(mkV_ok bs h).1
 exact ztabTo_ok (nx_ok bs 4 (nx_ok bs 4 a).2.2.2).2.2.2 _ _
theorem sysT_ok (bs:List UInt8) {s:Src} (h:SrcOk s):sysOk (mkV bs s).1 (sysT bs s).1 (sysT bs s).2:=by
 have ⟨z1,z2,z3⟩:=sysZ_ok bs h
 have ⟨r1,c1⟩:=sysRC bs h
 have a:=nx_ok bs (sysR bs s) z1
 have ⟨f1,f2,f3⟩:=fillTo_ok (bs:=bs) (r:=sysR bs s) (c:=sysC bs s) (a:=(sysA bs s).1.toNat) (z:=((sysZ bs s).1,(sysA bs s).2)) a.2.2.2 z2 z3 (sysC bs s)
 change SrcOk (sysT bs s).2 at f1
 change (sysT bs s).1.length=_ at f2
 change ∀x∈(sysT bs s).1,_ at f3
 have e0:((sysT bs s).1.getD 0 []).length=sysC bs s:=by
  rw [uq1,uq2 (by omega)]
  exact f3 _ (uq3 _)
 exact ⟨f1,(mkV_ok bs h).2.1,by omega,by omega,fun i hi=>by rw [e0];exact f3 _ (uq3 hi)⟩
def scutTo (bs:List UInt8) (m:MkM) (s:Src):Nat→List (List Int) × Src
 |0=>([],s)
 |i+1=>((scutTo bs m s i).1++[someK m (cutsTo bs m.depths (scutTo bs m s i).2 m.chambers.toNat).1],(cutsTo bs m.depths (scutTo bs m s i).2 m.chambers.toNat).2)
theorem scutTo_succ (bs:List UInt8) (m:MkM) (s:Src) (i:Nat):scutTo bs m s (i+1)=((scutTo bs m s i).1++[someK m (cutsTo bs m.depths (scutTo bs m s i).2 m.chambers.toNat).1],(cutsTo bs m.depths (scutTo bs m s i).2 m.chambers.toNat).2):=rfl
theorem mkB_of {m:MkM} (h:isMk m=true):MkB m:=by
 have ⟨⟨m1,m2⟩,m3,m4⟩:=isMk_num h
 have ⟨a1,a2,a3,a4⟩:=isMk_same h
 have h5:m.step≤9∧m.least≤9:=by
  simp only [isMk,isIn,Bool.and_eq_true,decide_eq_true_eq] at h
  have:=h.2
  split at this<;>omega
 exact ⟨by omega,by omega,by omega,by omega,by omega⟩
theorem scutTo_ok {bs:List UInt8} {m:MkM} {s:Src} (hm:isMk m=true) (h:SrcOk s):∀i,SrcOk (scutTo bs m s i).2∧(scutTo bs m s i).1.length=i∧∀x∈(scutTo bs m s i).1,(x.length:Int)=m.chambers
 |0=>⟨h,rfl,fun x hx=>by cases hx⟩
 |i+1=>by
  obtain ⟨h1,h2,h3⟩:=scutTo_ok hm h i (bs:=bs)
  have hn:=isMk_num hm
  have g:=cutsTo_ok (bs:=bs) (D:=m.depths) h1 hn.2.1 m.chambers.toNat
  rw [scutTo_succ]
  refine ⟨g.1,by simp [h2],fun x hx=> ?_⟩
  rcases uq4.1 hx with hx|hx
  · exact h3 x hx
  · simp at hx;subst hx
    exact (someK_ok hm (by omega) g.2.2).1
def scutE (bs:List UInt8) (m:MkM) (z:List (List Int)) (a:Int × Src):List (List Int) × Src:=
 if (a.1==0)=true then (z.set 0 (cutsD bs m a.2).1,(cutsD bs m a.2).2)
 else if (a.1==1)=true then (z++[someK m (cutsTo bs m.depths a.2 m.chambers.toNat).1],(cutsTo bs m.depths a.2 m.chambers.toNat).2)
 else (z,a.2)
def scutD (bs:List UInt8) (m:MkM) (n:Nat) (s:Src):List (List Int) × Src:=scutE bs m (scutTo bs m s n).1 (nx bs 30 (scutTo bs m s n).2)
theorem scutD_ok {bs:List UInt8} {m:MkM} {s:Src} (hm:isMk m=true) (h:SrcOk s) (n:Nat):SrcOk (scutD bs m n s).2∧(scutD bs m n s).1.length≤n+1∧∀x∈(scutD bs m n s).1,x.length≤8:=by
 have ⟨z1,z2,z3⟩:=scutTo_ok (bs:=bs) hm h n
 have hn:=isMk_num hm
 have a:=(nx_ok bs 30 z1).2.2.2
 unfold scutD
 generalize nx bs 30 (scutTo bs m s n).2=a at*
 generalize (scutTo bs m s n).1=z at*
 have c:=cutsD_ok (bs:=bs) (mkB_of hm) a
 have g:=cutsTo_ok (bs:=bs) (D:=m.depths) a hn.2.1 m.chambers.toNat
 unfold scutE
 split
 · refine ⟨c.1,by simp;omega,fun x hx=> ?_⟩
   rcases List.mem_or_eq_of_mem_set hx with hx|rfl
   · have:=z3 x hx;omega
   · exact c.2
 split
 · refine ⟨g.1,by simp;omega,fun x hx=> ?_⟩
   rcases uq4.1 hx with hx|hx
   · have:=z3 x hx;omega
   · simp at hx;subst hx
     have:=(someK_ok hm (by omega) g.2.2).1
     omega
 · exact ⟨a,by simp;omega,fun x hx=>by have:=z3 x hx;omega⟩
structure SyD where
 m:MkM
 t:List (List Int)
 cuts:List (List Int)
 src:Src
def sysE (bs:List UInt8) (m:MkM) (t cuts:List (List Int)) (n:Int × Src):SyD:=
 if (n.1==0)=true then ⟨m,t.set 0 ((t.getD 0 []).set 0 (pk bs [-1,0,2] n.2).1),cuts,(pk bs [-1,0,2] n.2).2⟩
 else if (n.1==1)=true then ⟨(mkD bs n.2).1,t,cuts,(mkD bs n.2).2⟩
 else if (n.1==2)=true then ⟨m,(tabD bs n.2).1,cuts,(tabD bs n.2).2⟩
 else ⟨m,t,cuts,n.2⟩
def sysC2 (bs:List UInt8) (s:Src):List (List Int) × Src:=scutD bs (mkV bs s).1 (sysT bs s).1.length (sysT bs s).2
def sysD (bs:List UInt8) (s:Src):SyD:=sysE bs (mkV bs s).1 (sysT bs s).1 (sysC2 bs s).1 (nx bs 30 (sysC2 bs s).2)
structure sydOk (z:SyD):Prop where
 src:SrcOk z.src
 lt:z.t.length≤11
 lr:∀x∈z.t,x.length≤13
 lc:z.cuts.length≤10
 lk:∀x∈z.cuts,x.length≤8
theorem sysD_ok (bs:List UInt8) {s:Src} (h:SrcOk s):sydOk (sysD bs s):=by
 have ⟨t1,t2,t3,t4,t5⟩:=sysT_ok bs h
 have ⟨c1,c2,c3⟩:=scutD_ok (bs:=bs) t2 t1 (sysT bs s).1.length
 change SrcOk (sysC2 bs s).2 at c1
 change (sysC2 bs s).1.length≤_ at c2
 change ∀x∈(sysC2 bs s).1,_ at c3
 have a:=(nx_ok bs 30 c1).2.2.2
 unfold sysD
 generalize nx bs 30 (sysC2 bs s).2=n at*
 generalize (sysC2 bs s).1=C at*
 have hr:∀x∈(sysT bs s).1,x.length≤13:=fun x hx=>by
  obtain ⟨i,hi,rfl⟩:=List.getElem_of_mem hx
  rw [t5 i hi];omega
 have hr0:((sysT bs s).1.getD 0 []).length≤13:=by omega
 generalize (sysT bs s).1=T at*
 unfold sysE
 split
 · refine ⟨pk_ok bs _ a,by simp;omega,fun x hx=> ?_,by simp only;omega,c3⟩
   rcases List.mem_or_eq_of_mem_set hx with hx|rfl
   · exact hr x hx
   · simpa using hr0
 split
 · exact ⟨mkD_ok bs a,by simp only;omega,hr,by simp only;omega,c3⟩
 split
 · obtain ⟨d1,d2,d3⟩:=tabD_ok bs a
   exact ⟨d1,d2,d3,by simp only;omega,c3⟩
 · exact ⟨a,by simp only;omega,hr,by simp only;omega,c3⟩
end Go.Vc
namespace Go.Vc
open Go.Proofs
theorem setAt_map (T:List (List Int)) (i k:Nat):(T.map eIs).set i (.arr ⟨1,false⟩ (((T.getD i []).map eI).set k (eI 1)))=(setAt T i k).map eIs:=by
 simp [setAt,List.map_set,eIs]
theorem setAt_get {T:List (List Int)} {i j k:Nat} (h:i≠j):(setAt T i k).getD j []=T.getD j []:=by
 simp [setAt,uq1,List.getElem?_set,h]
theorem setAt_self {T:List (List Int)} {i k:Nat} (h:i<T.length):(setAt T i k).getD i []=(T.getD i []).set k 1:=by
 simp [setAt,uq1,List.getElem?_set,h]
theorem getArr {T:List (List Int)} {i:Nat} (h:i<T.length):(T.map eIs)[i]? =some (.arr ⟨1,false⟩ ((T.getD i []).map eI)):=by
 simp [uq1,h,eIs]
set_option maxHeartbeats 16000000 in
theorem c_l15Valid (v:Nat) (bs:List UInt8) (s:Src) (h:SrcOk s) (hl:bs.length≤4096):
 FnM Tryz.prog 100 [srcB v bs s] [.ptr 1000000000 v 0 0] (fun x io=>x=eSy (mkV bs s).1 (sysT bs s).1∧io=[srcB v bs (sysT bs s).2]):=by
 refine FnM.of_vcN 70 [.cell 2 36] Tryz.func100 rfl rfl rfl rfl rfl (of_decide_eq_true rfl) ?_
 have qm:=fun v=>c_l02Valid v bs s h hl
 have hm:=mkV_ok bs h
 have hrc:=sysRC bs h
 have hz:=sysZ_ok bs h
 have er:1+(nx bs 4 (mkV bs s).2).1=(sysR bs s:Int):=by
  have:=(nx_ok bs 4 hm.1).1
  unfold sysR;omega
 have ec:1+(nx bs 4 (nx bs 4 (mkV bs s).2).2).1=(sysC bs s:Int):=by
  have:=(nx_ok bs 4 (nx_ok bs 4 hm.1).2.2.2).1
  unfold sysC;omega
 have qr:=fun v=>c_l01Next v bs 4 (mkV bs s).2 hm.1 hl
 have hr:=nx_ok bs 4 hm.1
 have qc:=fun v=>c_l01Next v bs 4 (nx bs 4 (mkV bs s).2).2 hr.2.2.2 hl
 have hc:=nx_ok bs 4 hr.2.2.2
 have c3:=hc.2.2.1 (by omega)
 have r3:=hr.2.2.1 (by omega)
 have htz:=fun i=>ztabTo_ok (bs:=bs) hc.2.2.2 (sysC bs s) i
 have qa:=fun v=>c_l01Next v bs (sysR bs s) (sysZ bs s).2 hz.1 hl
 have ha:=nx_ok bs (sysR bs s) hz.1
 have hal:=nx_lt bs (n:=sysR bs s) hrc.1.1 hz.1
 have eZ:sysZ bs s=ztabTo bs (sysC bs s) (nx bs 4 (nx bs 4 (mkV bs s).2).2).2 (sysR bs s):=rfl
 have eA:sysA bs s=nx bs (sysR bs s) (sysZ bs s).2:=rfl
 have eT:sysT bs s=fillTo bs (sysR bs s) (sysA bs s).1.toNat ((sysZ bs s).1,(sysA bs s).2) (sysC bs s):=rfl
 rw [eT,eA]
 clear eT eA
 have hf:=fun k=>fillTo_ok (bs:=bs) (r:=sysR bs s) (c:=sysC bs s) (a:=(nx bs (sysR bs s) (sysZ bs s).2).1.toNat) (z:=((sysZ bs s).1,(nx bs (sysR bs s) (sysZ bs s).2).2)) ha.2.2.2 hz.2.1 hz.2.2 k
 generalize nx bs (sysR bs s) (sysZ bs s).2=na at*
 generalize sysZ bs s=Z at*
 generalize sysR bs s=r at*
 generalize sysC bs s=c at*
 generalize nx bs 4 (nx bs 4 (mkV bs s).2).2=nc at*
 generalize nx bs 4 (mkV bs s).2=nr at*
 generalize mkV bs s=M at*
 obtain ⟨M,s1⟩:=M
 simp only at er qr hm ⊢
 simp -dsimp -implicitDefEqProofs only [go_sem]
 refine sCallT_io [1000000000] ?_
 simp -dsimp -implicitDefEqProofs only [go_sem]
 refine sCallM_one (qm _) ?_
 simp -dsimp -implicitDefEqProofs only [go_sem]
 (refine sCallT_io [1000000000] ?_;simp -dsimp -implicitDefEqProofs only [go_sem];refine sCallM_one (qr _) ?_;simp -dsimp -implicitDefEqProofs only [go_sem])
 ((repeat' (with_reducible refine ai ?_ ?_));all_goals try (first|omega|(refine ⟨?_,?_⟩<;>omega)|(exact rfl)))
 (refine sCallT_io [1000000000] ?_;simp -dsimp -implicitDefEqProofs only [go_sem];refine sCallM_one (qc _) ?_;simp -dsimp -implicitDefEqProofs only [go_sem])
 ((repeat' (with_reducible refine ai ?_ ?_));all_goals try (first|omega|(refine ⟨?_,?_⟩<;>omega)|(exact rfl)))
 rw [er,ec]
 refine Later.upP [0,2,3,4,5] [26,34,35,36,37,40,41] [20,26,34,1000000000] r (fun _=>True) (fun i=>[(7,eI i),(6,.ref 20 0 0 i)]) (fun i=>[(20,.row 0 ⟨1,false⟩ true ((ztabTo bs c nc.2 i).1.map eIs)),(1000000000,srcB v bs (ztabTo bs c nc.2 i).2)]) trivial (.here ?_) rfl (fun i hi _=> ?_) (fun _=> ?_)
 · simp -dsimp -implicitDefEqProofs only [go_sem,ztabTo]
   ((repeat' (with_reducible refine ai ?_ ?_));all_goals try (first|omega|(refine ⟨?_,?_⟩<;>omega)|(exact rfl)))
 · refine Later.vc rfl ?_
   obtain ⟨o1,o2,o3⟩:=htz i
   have hlt:decide ((i:Int)<r)=true:=decide_eq_true (by omega)
   have hrok:=fun k=>zrowTo_ok (bs:=bs) o1 k
   rw [ztabTo_succ]
   clear eZ hf
   generalize ztabTo bs c nc.2 i=T at*
   have tT:=tk eIs T.1 i (by omega)
   simp -dsimp -implicitDefEqProofs only [pz,Nat.reduceBEq,Nat.reduceDiv,Nat.reduceAdd,↓reduceIte,Nat.reduceEqDiff]
   simp -dsimp -implicitDefEqProofs only [go_sem,hlt]
   refine Later.upP [0,2,3,4,5,6,7] [34,35,36,37] [26,34,1000000000] c (fun _=>True) (fun k=>[(9,eI k),(8,.ref 26 0 0 k)]) (fun k=>[(26,.row 0 ⟨1,false⟩ true ((zrowTo bs T.2 k).1.map eI)),(1000000000,srcB v bs (zrowTo bs T.2 k).2)]) trivial (.here ?_) rfl (fun k hk _=> ?_) (fun _=> ?_)
   · simp -dsimp -implicitDefEqProofs only [go_sem,zrowTo]
     ((repeat' (with_reducible refine ai ?_ ?_));all_goals try (first|omega|(refine ⟨?_,?_⟩<;>omega)|(exact rfl)))
   · refine Later.vc rfl ?_
     obtain ⟨p1,p2⟩:=hrok k
     have hlt:decide ((k:Int)<c)=true:=decide_eq_true (by omega)
     rw [zrowTo_succ]
     generalize zrowTo bs T.2 k=R at*
     have qp:=fun v v2=>c_l01Pick v v2 true bs [0,0,1] _ R.2 rfl (by simp) (by simp) p1 hl
     generalize pk bs [0,0,1] R.2=pp at*
     have tR:=tk eI R.1 k (by omega)
     simp -dsimp -implicitDefEqProofs only [pz,Nat.reduceBEq,Nat.reduceDiv,Nat.reduceAdd,↓reduceIte,Nat.reduceEqDiff]
     simp -dsimp -implicitDefEqProofs only [go_sem,hlt]
     ((repeat' (with_reducible refine ai ?_ ?_));all_goals try (first|omega|(refine ⟨?_,?_⟩<;>omega)|(exact rfl)))
     (refine sCallT_io [1000000000,34] ?_;simp -dsimp -implicitDefEqProofs only [go_sem];refine sCallM_one (qp _ _) ?_;simp -dsimp -implicitDefEqProofs only [go_sem])
     ((repeat' (with_reducible refine ai ?_ ?_));all_goals try (first|omega|(refine ⟨?_,?_⟩<;>omega)|(exact rfl)))
     all_goals first|(refine .here ?_;simp -dsimp -implicitDefEqProofs only [go_sem,tR];((repeat' (with_reducible refine ai ?_ ?_));all_goals try (first|omega|(refine ⟨?_,?_⟩<;>omega)|(exact rfl)));all_goals first|(simp;done)|skip)|skip
   · obtain ⟨p1,p2⟩:=hrok c
     generalize zrowTo bs T.2 c=R at*
     refine Later.known 8 26 0 c ⟨1,false⟩ _ rfl (by decide) rfl (by simp [p2]) (by omega) (by decide) fun u=> ?_
     refine Later.vc rfl ?_
     have hge:decide ((c:Int)<c)=false:=decide_eq_false (by omega)
     have e2:(T.1.map eIs++[AV.val u]).set i (.arr ⟨1,false⟩ (R.1.map eI))=(T.1++[R.1]).map eIs:=by
      rw [List.set_append_right _ _ (by simp [o2])]
      simp [o2,eIs]
     simp -dsimp -implicitDefEqProofs only [pz,Nat.reduceBEq,Nat.reduceDiv,Nat.reduceAdd,↓reduceIte,Nat.reduceEqDiff]
     simp -dsimp -implicitDefEqProofs only [go_sem,hge,tT]
     ((repeat' (with_reducible refine ai ?_ ?_));all_goals try (first|omega|(refine ⟨?_,?_⟩<;>omega)|(exact rfl)))
     all_goals first
      |(refine RefP.back 20 1 i 26 0 _ _ _ u (by decide) rfl (by simp [o2]) rfl (.here ?_)
        rw [e2]
        simp -dsimp -implicitDefEqProofs only [go_sem]
        ((repeat' (with_reducible refine ai ?_ ?_));all_goals try (first|omega|(refine ⟨?_,?_⟩<;>omega)|(exact rfl)))
        all_goals trace_state)
      |skip
 · rw [←eZ]
   clear eZ htz
   obtain ⟨z1,z2,z3⟩:=hz
   have hge:decide ((r:Int)<r)=false:=decide_eq_false (by omega)
   refine Later.vc rfl ?_
   simp -dsimp -implicitDefEqProofs only [pz,Nat.reduceBEq,Nat.reduceDiv,Nat.reduceAdd,↓reduceIte,Nat.reduceEqDiff]
   simp -dsimp -implicitDefEqProofs only [go_sem,hge]
   (refine sCallT_io [1000000000] ?_;simp -dsimp -implicitDefEqProofs only [go_sem];refine sCallM_one (qa _) ?_;simp -dsimp -implicitDefEqProofs only [go_sem])
   ((repeat' (with_reducible refine ai ?_ ?_));all_goals try (first|omega|(refine ⟨?_,?_⟩<;>omega)|(exact rfl)))
   refine Later.upP [0,2,3,4,5,6,10] [51,62] [20,1000000000] c (fun _=>True) (fun k=>[(11,eI k)]) (fun k=>[(20,.row 0 ⟨1,false⟩ true ((fillTo bs r na.1.toNat (Z.1,na.2) k).1.map eIs)),(1000000000,srcB v bs (fillTo bs r na.1.toNat (Z.1,na.2) k).2)]) trivial (.here ?_) rfl (fun k hk _=> ?_) (fun _=> ?_)
   · simp -dsimp -implicitDefEqProofs only [go_sem,fillTo]
     ((repeat' (with_reducible refine ai ?_ ?_));all_goals try (first|omega|(refine ⟨?_,?_⟩<;>omega)|(exact rfl)))
   · obtain ⟨f1,f2,f3⟩:=hf k
     have hlt:decide ((k:Int)<c)=true:=decide_eq_true (by omega)
     rw [fillTo_succ]
     generalize fillTo bs r na.1.toNat (Z.1,na.2) k=F at*
     obtain ⟨T,s0⟩:=F
     simp only at f1 f2 f3
     have q3:=fun v=>c_l01Next v bs 3 s0 f1 hl
     have n3:=nx_ok bs 3 f1
     simp only [fillA]
     generalize nx bs 3 s0=a3 at*
     have qj:=fun v=>c_l01Next v bs r a3.2 n3.2.2.2 hl
     have nj:=nx_lt bs (n:=r) hrc.1.1 n3.2.2.2
     generalize nx bs r a3.2=aj at*
     have hA:na.1.toNat<T.length:=by omega
     have hJ:aj.1.toNat<T.length:=by omega
     have lA:(T.getD na.1.toNat []).length=c:=by
      rw [uq1,uq2 hA];exact f3 _ (uq3 hA)
     have lJ:(T.getD aj.1.toNat []).length=c:=by
      rw [uq1,uq2 hJ];exact f3 _ (uq3 hJ)
     have gA:=getArr hA
     have gJ:=getArr hJ
     cases hc3:decide (a3.1>0) with
     |false=>
      rw [if_neg (by simp)]
      have e2:=setAt_map T aj.1.toNat k
      generalize T.getD aj.1.toNat []=R at*
      have gk:=get_some (show k<R.length by omega)
      refine Later.takeOut 20 0 aj.1.toNat 91 _ _ ⟨1,false⟩ (by decide) rfl gJ (by simp;omega) rfl fun u=> ?_
      have gu:((T.map eIs).set aj.1.toNat (.val u))[aj.1.toNat]? =some (.val u):=by simp [hJ]
      refine Later.vc rfl ?_
      simp -dsimp -implicitDefEqProofs only [pz,Nat.reduceBEq,Nat.reduceDiv,Nat.reduceAdd,↓reduceIte,Nat.reduceEqDiff]
      simp -dsimp -implicitDefEqProofs only [go_sem,hlt]
      (refine sCallT_io [1000000000] ?_;simp -dsimp -implicitDefEqProofs only [go_sem];refine sCallM_one (q3 _) ?_;simp -dsimp -implicitDefEqProofs only [go_sem])
      ((repeat' (with_reducible refine ai ?_ ?_));all_goals try (first|omega|(refine ⟨?_,?_⟩<;>omega)|(exact rfl)))
      simp -dsimp -implicitDefEqProofs only [go_sem,hc3]
      (refine sCallT_io [1000000000] ?_;simp -dsimp -implicitDefEqProofs only [go_sem];refine sCallM_one (qj _) ?_;simp -dsimp -implicitDefEqProofs only [go_sem])
      simp -dsimp -implicitDefEqProofs only [go_sem,gu,gk]
      ((repeat' (with_reducible refine ai ?_ ?_));all_goals try (first|omega|(refine ⟨?_,?_⟩<;>omega)|(exact rfl)))
      all_goals first
       |(refine RefP.back 20 0 aj.1.toNat 91 0 _ _ _ u (by decide) rfl gu rfl (.here ?_)
         rw [uq7,e2]
         simp -dsimp -implicitDefEqProofs only [go_sem]
         ((repeat' (with_reducible refine ai ?_ ?_));all_goals try (first|omega|(refine ⟨?_,?_⟩<;>omega)|(exact rfl)))
         all_goals trace_state)
       |skip
     |true=>
      rw [if_pos rfl]
      by_cases hAJ:na.1.toNat=aj.1.toNat
      · have e3:=setAt_map (setAt T na.1.toNat k) na.1.toNat k
        rw [setAt_self hA] at e3
        have e4:(setAt T na.1.toNat k).map eIs=(T.map eIs).set na.1.toNat (eIs ((T.getD na.1.toNat []).set k 1)):=by simp [setAt,List.map_set]
        rw [e4,uq7] at e3
        clear e4
        rw [←hAJ]
        have hJj:aj.1=na.1:=by omega
        generalize T.getD na.1.toNat []=R at*
        have gk:=get_some (show k<R.length by omega)
        have gk2:((R.map eI).set k (eI 1))[k]? =some (eI 1):=List.getElem?_set_self (by rw [List.length_map];omega)
        refine Later.takeOut 20 0 na.1.toNat 91 _ _ ⟨1,false⟩ (by decide) rfl gA (by simp;omega) rfl fun u=> ?_
        have gu:((T.map eIs).set na.1.toNat (.val u))[na.1.toNat]? =some (.val u):=by simp [hA]
        refine Later.vc rfl ?_
        simp -dsimp -implicitDefEqProofs only [pz,Nat.reduceBEq,Nat.reduceDiv,Nat.reduceAdd,↓reduceIte,Nat.reduceEqDiff]
        simp -dsimp -implicitDefEqProofs only [go_sem,hlt]
        (refine sCallT_io [1000000000] ?_;simp -dsimp -implicitDefEqProofs only [go_sem];refine sCallM_one (q3 _) ?_;simp -dsimp -implicitDefEqProofs only [go_sem])
        ((repeat' (with_reducible refine ai ?_ ?_));all_goals try (first|omega|(refine ⟨?_,?_⟩<;>omega)|(exact rfl)))
        simp -dsimp -implicitDefEqProofs only [go_sem,hc3,gu,gk]
        ((repeat' (with_reducible refine ai ?_ ?_));all_goals try (first|omega|(refine ⟨?_,?_⟩<;>omega)|(exact rfl)))
        (refine sCallT_io [1000000000] ?_;simp -dsimp -implicitDefEqProofs only [go_sem];refine sCallM_one (qj _) ?_;simp -dsimp -implicitDefEqProofs only [go_sem])
        rw [hJj]
        simp -dsimp -implicitDefEqProofs only [go_sem,gu,gk2]
        ((repeat' (with_reducible refine ai ?_ ?_));all_goals try (first|omega|(refine ⟨?_,?_⟩<;>omega)|(exact rfl)))
        all_goals first
         |(refine RefP.back 20 0 na.1.toNat 91 0 _ _ _ u (by decide) rfl gu rfl (.here ?_)
           rw [uq7]
           simp -dsimp -implicitDefEqProofs only [go_sem]
           ((repeat' (with_reducible refine ai ?_ ?_));all_goals try (first|omega|(refine ⟨?_,?_⟩<;>omega)|(exact rfl)))
           all_goals first|(rw [←e3,List.map_set];done)|skip)
         |skip
      · have e3:=setAt_map (setAt T na.1.toNat k) aj.1.toNat k
        rw [setAt_get hAJ] at e3
        have e4:=setAt_map T na.1.toNat k
        generalize T.getD na.1.toNat []=R at*
        generalize T.getD aj.1.toNat []=R2 at*
        have gk:=get_some (show k<R.length by omega)
        have gk2:=get_some (show k<R2.length by omega)
        refine Later.takeOut 20 0 aj.1.toNat 91 _ _ ⟨1,false⟩ (by decide) rfl gJ (by simp;omega) rfl fun u2=> ?_
        refine Later.takeOut 20 0 na.1.toNat 90 _ _ ⟨1,false⟩ (by decide) rfl (by rw [List.getElem?_set_ne (Ne.symm hAJ)];exact gA) (by simp;omega) rfl fun u=> ?_
        have gu:(((T.map eIs).set aj.1.toNat (.val u2)).set na.1.toNat (.val u))[na.1.toNat]? =some (.val u):=by simp [hA]
        have gu2:(((T.map eIs).set aj.1.toNat (.val u2)).set na.1.toNat (.val u))[aj.1.toNat]? =some (.val u2):=by rw [List.getElem?_set_ne hAJ];simp [hJ]
        have e5:((((T.map eIs).set aj.1.toNat (.val u2)).set na.1.toNat (.val u)).set na.1.toNat (.arr ⟨1,false⟩ ((R.map eI).set k (eI 1)))).set aj.1.toNat (.arr ⟨1,false⟩ ((R2.map eI).set k (eI 1)))=(setAt (setAt T na.1.toNat k) aj.1.toNat k).map eIs:=by
         rw [uq7,List.set_comm _ _ (Ne.symm hAJ),uq7,←e3,←e4,List.set_comm _ _ hAJ]
        refine Later.vc rfl ?_
        simp -dsimp -implicitDefEqProofs only [pz,Nat.reduceBEq,Nat.reduceDiv,Nat.reduceAdd,↓reduceIte,Nat.reduceEqDiff]
        simp -dsimp -implicitDefEqProofs only [go_sem,hlt]
        (refine sCallT_io [1000000000] ?_;simp -dsimp -implicitDefEqProofs only [go_sem];refine sCallM_one (q3 _) ?_;simp -dsimp -implicitDefEqProofs only [go_sem])
        ((repeat' (with_reducible refine ai ?_ ?_));all_goals try (first|omega|(refine ⟨?_,?_⟩<;>omega)|(exact rfl)))
        simp -dsimp -implicitDefEqProofs only [go_sem,hc3,gu,gk]
        ((repeat' (with_reducible refine ai ?_ ?_));all_goals try (first|omega|(refine ⟨?_,?_⟩<;>omega)|(exact rfl)))
        refine sCallT_ioH 91 _ rfl [1000000000] ?_
        simp -dsimp -implicitDefEqProofs only [go_sem]
        refine sCallM_one (qj _) ?_
        simp -dsimp -implicitDefEqProofs only [go_sem,gu2,gk2]
        ((repeat' (with_reducible refine ai ?_ ?_));all_goals try (first|omega|(refine ⟨?_,?_⟩<;>omega)|(exact rfl)))
        all_goals first
         |(refine RefP.back 20 0 na.1.toNat 90 0 _ _ _ u (by decide) rfl gu rfl ?_
           refine RefP.back 20 0 aj.1.toNat 91 0 _ _ _ u2 (by decide) rfl (by rw [uq7,List.getElem?_set_ne hAJ];simp [hJ]) rfl (.here ?_)
           rw [e5]
           simp -dsimp -implicitDefEqProofs only [go_sem]
           ((repeat' (with_reducible refine ai ?_ ?_));all_goals try (first|omega|(refine ⟨?_,?_⟩<;>omega)|(exact rfl)))
           all_goals trace_state)
         |skip
   · obtain ⟨f1,f2,f3⟩:=hf c
     generalize fillTo bs r na.1.toNat (Z.1,na.2) c=F at*
     have tF:=tk eIs F.1 r (by omega)
     have hge:decide ((c:Int)<c)=false:=decide_eq_false (by omega)
     refine Later.vc rfl ?_
     simp -dsimp -implicitDefEqProofs only [pz,Nat.reduceBEq,Nat.reduceDiv,Nat.reduceAdd,↓reduceIte,Nat.reduceEqDiff]
     simp -dsimp -implicitDefEqProofs only [go_sem,hge]
     ((repeat' (with_reducible refine ai ?_ ?_));all_goals try (first|omega|(refine ⟨?_,?_⟩<;>omega)|(exact rfl)))
     all_goals first|(rw [tF];done)|(simp;done)|skip
end Go.Vc
namespace Go.Vc
open Go.Proofs
theorem c_l15DrawCuts (v v2:Nat) (bs:List UInt8) (m:MkM) (t:List (List Int)) (s:Src) (h:SrcOk s) (hm:isMk m=true) (ht:1≤t.length∧t.length≤1000) (hl:bs.length≤4096):
 FnMR Tryz.prog 121 [srcB v bs s,.row v2 ⟨1,false⟩ true (t.map eIs)] [.ptr 1000000000 v 0 0,.agg [eI m.chambers,eI m.depths,eI m.step,eI m.same,eI m.least,.ref 1000000001 v2 0 t.length]]
  (fun x io=>x=eIss (scutD bs m t.length s).1∧io=[srcB v bs (scutD bs m t.length s).2,.row v2 ⟨1,false⟩ true (t.map eIs)]):=by
 refine FnMR.of_vc 42 [.tmp 4] Tryz.func121 rfl rfl rfl rfl rfl (of_decide_eq_true rfl) ?_
 have hn:=isMk_num hm
 have hok:=fun i=>scutTo_ok (bs:=bs) hm h i
 simp -dsimp -implicitDefEqProofs only [go_sem]
 refine Later.up [0,3] [11,19,20,21] [7,1000000000] t.length (fun _=>True) (fun i=>[(6,eI i),(5,.ref 7 0 0 i)]) (fun i=>[(7,.row 0 ⟨1,false⟩ (i==0) ((scutTo bs m s i).1.map eIs)),(1000000000,srcB v bs (scutTo bs m s i).2)]) trivial ?_ rfl (fun i hi _=> ?_) (fun _=> ?_)
 · simp -dsimp -implicitDefEqProofs only [go_sem,scutTo]
   ((repeat' (with_reducible refine ai ?_ ?_));all_goals try (first|omega|(refine ⟨?_,?_⟩<;>omega)|(exact rfl)))
 · obtain ⟨o1,o2,o3⟩:=hok i
   have hlt:decide ((i:Int)<(t.length:Int))=true:=decide_eq_true (by omega)
   rw [scutTo_succ]
   generalize scutTo bs m s i=Z at*
   have qs:=fun v=>c_l02Some v bs Z.2 m o1 hm hl
   generalize cutsTo bs m.depths Z.2 m.chambers.toNat=G at*
   generalize someK m G.1=K at*
   have tZ:=tk eIs Z.1 i (by omega)
   have e0:(i+1==0)=false:=rfl
   have e2:=mapS eIs Z.1 K
   simp -dsimp -implicitDefEqProofs only [pz,Nat.reduceBEq,Nat.reduceDiv,Nat.reduceAdd,↓reduceIte,Nat.reduceEqDiff]
   simp -dsimp -implicitDefEqProofs only [go_sem,hlt]
   (refine sCallT_ioR [1000000000] ?_;simp -dsimp -implicitDefEqProofs only [go_sem];refine sCallMR_any (qs _) ?_;rintro _ _ ⟨rfl,rfl⟩;simp -dsimp -implicitDefEqProofs only [go_sem])
   refine .inr ⟨by omega,by omega,(by cases i with|zero=>exact .inr rfl|succ i=>exact .inl rfl),⟨by omega,by omega⟩,?_⟩
   rw [e0,e2]
   simp -dsimp -implicitDefEqProofs only [go_sem,tZ]
   ((repeat' (with_reducible refine ai ?_ ?_));all_goals try (first|omega|(refine ⟨?_,?_⟩<;>omega)|(exact rfl)))
   all_goals first|(simp;done)|skip
 · obtain ⟨o1,o2,o3⟩:=hok t.length
   unfold scutD
   generalize scutTo bs m s t.length=Z at*
   have hge:decide ((t.length:Int)<(t.length:Int))=false:=decide_eq_false (by omega)
   have e0:(t.length==0)=false:=by rw [beq_eq_false_iff_ne];omega
   have q30:=fun v=>c_l01Next v bs 30 Z.2 o1 hl
   have a:=(nx_ok bs 30 o1).2.2.2
   generalize nx bs 30 Z.2=n at*
   obtain ⟨RR,hR⟩:∃RR,scutE bs m Z.1 n=RR:=⟨_,rfl⟩
   rw [hR,e0]
   unfold scutE at hR
   obtain ⟨Z,sz⟩:=Z
   simp only at o1 o2 o3 hR q30 ⊢
   have tZ:=tk eIs Z t.length (by omega)
   simp -dsimp -implicitDefEqProofs only [pz,Nat.reduceBEq,Nat.reduceDiv,Nat.reduceAdd,↓reduceIte,Nat.reduceEqDiff]
   simp -dsimp -implicitDefEqProofs only [go_sem,hge]
   (refine sCallT_io [1000000000] ?_;simp -dsimp -implicitDefEqProofs only [go_sem];refine sCallM_one (q30 _) ?_;simp -dsimp -implicitDefEqProofs only [go_sem])
   cases h0:(n.1==0) with
   |true=>
    rw [h0,if_pos rfl] at hR
    subst hR
    have qd:=fun v=>c_l02DrawCuts v bs m n.2 (mkB_of hm) a hl
    generalize cutsD bs m n.2=D at*
    simp -dsimp -implicitDefEqProofs only [go_sem,h0]
    (refine sCallT_io [1000000000] ?_;simp -dsimp -implicitDefEqProofs only [go_sem];refine sCallM_one (qd _) ?_;simp -dsimp -implicitDefEqProofs only [go_sem])
    ((repeat' (with_reducible refine ai ?_ ?_));all_goals try (first|omega|(refine ⟨?_,?_⟩<;>omega)|(exact rfl)))
    refine .inr ⟨by omega,by omega,?_⟩
    rw [uq9 (by simp;omega)]
    simp [List.map_set,eIs]
   |false=>
    rw [h0,if_neg (by simp)] at hR
    cases h1:(n.1==1) with
    |true=>
     rw [h1,if_pos rfl] at hR
     subst hR
     have qs:=fun v=>c_l02Some v bs n.2 m a hm hl
     generalize cutsTo bs m.depths n.2 m.chambers.toNat=G at*
     generalize someK m G.1=K at*
     have e2:=mapS eIs Z K
     simp -dsimp -implicitDefEqProofs only [go_sem,h0,h1]
     (refine sCallT_ioR [1000000000] ?_;simp -dsimp -implicitDefEqProofs only [go_sem];refine sCallMR_any (qs _) ?_;rintro _ _ ⟨rfl,rfl⟩;simp -dsimp -implicitDefEqProofs only [go_sem])
     refine .inr ⟨by omega,by omega,by omega,?_⟩
     rw [tZ,uq9 (by simp;omega)]
     simp [eIs]
    |false=>
     rw [h1,if_neg (by simp)] at hR
     subst hR
     simp -dsimp -implicitDefEqProofs only [go_sem,h0,h1]
     ((repeat' (with_reducible refine ai ?_ ?_));all_goals try (first|omega|(refine ⟨?_,?_⟩<;>omega)|(exact rfl)))
     all_goals first|(rw [tZ];done)|(simp;done)|skip
theorem c_l15Draw (v:Nat) (bs:List UInt8) (s:Src) (h:SrcOk s) (hl:bs.length≤4096):
 FnMR Tryz.prog 99 [srcB v bs s] [.ptr 1000000000 v 0 0] (fun x io=>x= .tup [eSy (sysD bs s).m (sysD bs s).t,eIss (sysD bs s).cuts]∧io=[srcB v bs (sysD bs s).src]):=by
 refine FnMR.of_vc 41 [.cell 2 36,.tmp 3] Tryz.func99 rfl rfl rfl rfl rfl (of_decide_eq_true rfl) ?_
 have qv:=fun v=>c_l15Valid v bs s h hl
 have ⟨t1,t2,t3,t4,t5⟩:=sysT_ok bs h
 have qc:=fun v v2=>c_l15DrawCuts v v2 bs (mkV bs s).1 (sysT bs s).1 (sysT bs s).2 t1 t2 (by omega) hl
 have ⟨c1,c2,c3⟩:=scutD_ok (bs:=bs) t2 t1 (sysT bs s).1.length
 have eC:scutD bs (mkV bs s).1 (sysT bs s).1.length (sysT bs s).2=sysC2 bs s:=rfl
 rw [eC] at c1 c2 c3
 simp only [eC] at qc
 clear eC
 have q30:=fun v=>c_l01Next v bs 30 (sysC2 bs s).2 c1 hl
 have a:=(nx_ok bs 30 c1).2.2.2
 obtain ⟨RR,hR⟩:∃RR,sysD bs s=RR:=⟨_,rfl⟩
 rw [hR]
 unfold sysD at hR
 generalize nx bs 30 (sysC2 bs s).2=n at*
 generalize sysC2 bs s=C at*
 have hr0:1≤((sysT bs s).1.getD 0 []).length:=by omega
 generalize sysT bs s=T at*
 generalize (mkV bs s).1=m at*
 obtain ⟨T,s1⟩:=T
 obtain ⟨C,s2⟩:=C
 simp only at t1 t3 t4 t5 c1 c2 c3 hr0 hR qv qc q30
 unfold sysE at hR
 have tT:=tk eIs T T.length (uq10 _)
 simp -dsimp -implicitDefEqProofs only [go_sem]
 refine sCallT_io [1000000000] ?_
 simp -dsimp -implicitDefEqProofs only [go_sem]
 refine sCallM_any (qv _) ?_
 rintro _ _ ⟨rfl,rfl⟩
 simp -dsimp -implicitDefEqProofs only [go_sem]
 refine sCallT_ioR [1000000000,8005] ?_
 simp -dsimp -implicitDefEqProofs only [go_sem]
 refine sCallMR_any (qc _ _) ?_
 rintro _ _ ⟨rfl,rfl⟩
 simp -dsimp -implicitDefEqProofs only [go_sem]
 (refine sCallT_io [1000000000] ?_;simp -dsimp -implicitDefEqProofs only [go_sem];refine sCallM_one (q30 _) ?_;simp -dsimp -implicitDefEqProofs only [go_sem])
 cases h0:(n.1==0) with
 |true=>
  rw [h0,if_pos rfl] at hR
  subst hR
  have qp:=fun v v2=>c_l01Pick v v2 true bs [-1,0,2] _ n.2 rfl (by simp) (by simp) a hl
  generalize pk bs [-1,0,2] n.2=pp at*
  simp -dsimp -implicitDefEqProofs only [go_sem,h0]
  obtain ⟨r0,T,rfl⟩:∃r0 T',T=r0::T':=by cases T with
   |nil=>simp at t3
   |cons r0 T=>exact ⟨_,_,rfl⟩
  simp only [List.getD_cons_zero] at hr0
  obtain ⟨c0,r0,rfl⟩:∃c0 r',r0=c0::r':=by cases r0 with
   |nil=>simp at hr0
   |cons c0 r0=>exact ⟨_,_,rfl⟩
  refine Later.takeOut 8005 0 0 90 _ ((c0::r0).map eI) ⟨1,false⟩ (by decide) rfl rfl (by rw [List.length_map];exact hr0) rfl fun u=> ?_
  refine Later.hook ?_
  refine Later.solo 7 mixed rfl ?_
  simp -dsimp -implicitDefEqProofs only [go_sem]
  ((repeat' (with_reducible refine ai ?_ ?_));all_goals try (first|omega|(refine ⟨?_,?_⟩<;>omega)|(exact rfl)))
  (refine sCallX_io [1000000000,20] rfl ?_;simp -dsimp -implicitDefEqProofs only [go_sem];refine sCallMX_one (qp _ _) ?_;simp -dsimp -implicitDefEqProofs only [go_sem])
  ((repeat' (with_reducible refine ai ?_ ?_));all_goals try (first|omega|(refine ⟨?_,?_⟩<;>omega)|(exact rfl)))
  all_goals first
   |(refine hk.back 8005 0 0 90 0 _ _ _ u (by decide) rfl rfl rfl (hk.go ?_)
     simp -dsimp -implicitDefEqProofs only [go_sem]
     ((repeat' (with_reducible refine ai ?_ ?_));all_goals try (first|omega|(refine ⟨?_,?_⟩<;>omega)|(exact rfl)))
     all_goals first|(simp;done)|skip)
   |skip
 |false=>
  rw [h0,if_neg (by simp)] at hR
  cases h1:(n.1==1) with
  |true=>
   rw [h1,if_pos rfl] at hR
   subst hR
   have qd:=fun v=>c_l02Draw v bs n.2 a hl
   generalize mkD bs n.2=D at*
   simp -dsimp -implicitDefEqProofs only [go_sem,h0,h1]
   refine Later.draw mixed rfl ?_
   simp -dsimp -implicitDefEqProofs only [go_sem]
   ((repeat' (with_reducible refine ai ?_ ?_));all_goals try (first|omega|(refine ⟨?_,?_⟩<;>omega)|(exact rfl)))
   (refine sCallX_io [1000000000] rfl ?_;simp -dsimp -implicitDefEqProofs only [go_sem];refine sCallMX_one (qd _) ?_;simp -dsimp -implicitDefEqProofs only [go_sem])
   ((repeat' (with_reducible refine ai ?_ ?_));all_goals try (first|omega|(refine ⟨?_,?_⟩<;>omega)|(exact rfl)))
   all_goals trace_state
  |false=>
   rw [h1,if_neg (by simp)] at hR
   cases h2:(n.1==2) with
   |true=>
    rw [h2,if_pos rfl] at hR
    subst hR
    have qd:=fun v=>c_l11Draw v bs n.2 a hl
    generalize tabD bs n.2=D at*
    simp -dsimp -implicitDefEqProofs only [go_sem,h0,h1,h2]
    refine Later.draw mixed rfl ?_
    simp -dsimp -implicitDefEqProofs only [go_sem]
    ((repeat' (with_reducible refine ai ?_ ?_));all_goals try (first|omega|(refine ⟨?_,?_⟩<;>omega)|(exact rfl)))
    refine sCallX_ioR [1000000000] rfl ?_
    simp -dsimp -implicitDefEqProofs only [go_sem]
    refine sCallMRX_one (qd _) ?_
    simp -dsimp -implicitDefEqProofs only [go_sem]
    ((repeat' (with_reducible refine ai ?_ ?_));all_goals try (first|omega|(refine ⟨?_,?_⟩<;>omega)|(exact rfl)))
    all_goals trace_state
   |false=>
    rw [h2,if_neg (by simp)] at hR
    subst hR
    simp -dsimp -implicitDefEqProofs only [go_sem,h0,h1,h2]
    ((repeat' (with_reducible refine ai ?_ ?_));all_goals try (first|omega|(refine ⟨?_,?_⟩<;>omega)|(exact rfl)))
    all_goals trace_state
end Go.Vc
namespace Go.Vc
open Go.Proofs
set_option maxHeartbeats 16000000 in
theorem c_l15ValidR (v:Nat) (bs:List UInt8) (s:Src) (h:SrcOk s) (hl:bs.length≤4096):
 FnMR Tryz.prog 100 [srcB v bs s] [.ptr 1000000000 v 0 0] (fun x io=>x=eSy (mkV bs s).1 (sysT bs s).1∧io=[srcB v bs (sysT bs s).2]):=by
 refine FnMR.of_vc 70 [.cell 2 36] Tryz.func100 rfl rfl rfl rfl rfl (of_decide_eq_true rfl) ?_
 have qm:=fun v=>c_l02Valid v bs s h hl
 have hm:=mkV_ok bs h
 have hrc:=sysRC bs h
 have hz:=sysZ_ok bs h
 have er:1+(nx bs 4 (mkV bs s).2).1=(sysR bs s:Int):=by
  have:=(nx_ok bs 4 hm.1).1
  unfold sysR;omega
 have ec:1+(nx bs 4 (nx bs 4 (mkV bs s).2).2).1=(sysC bs s:Int):=by
  have:=(nx_ok bs 4 (nx_ok bs 4 hm.1).2.2.2).1
  unfold sysC;omega
 have qr:=fun v=>c_l01Next v bs 4 (mkV bs s).2 hm.1 hl
 have hr:=nx_ok bs 4 hm.1
 have qc:=fun v=>c_l01Next v bs 4 (nx bs 4 (mkV bs s).2).2 hr.2.2.2 hl
 have hc:=nx_ok bs 4 hr.2.2.2
 have c3:=hc.2.2.1 (by omega)
 have r3:=hr.2.2.1 (by omega)
 have htz:=fun i=>ztabTo_ok (bs:=bs) hc.2.2.2 (sysC bs s) i
 have qa:=fun v=>c_l01Next v bs (sysR bs s) (sysZ bs s).2 hz.1 hl
 have ha:=nx_ok bs (sysR bs s) hz.1
 have hal:=nx_lt bs (n:=sysR bs s) hrc.1.1 hz.1
 have eZ:sysZ bs s=ztabTo bs (sysC bs s) (nx bs 4 (nx bs 4 (mkV bs s).2).2).2 (sysR bs s):=rfl
 have eA:sysA bs s=nx bs (sysR bs s) (sysZ bs s).2:=rfl
 have eT:sysT bs s=fillTo bs (sysR bs s) (sysA bs s).1.toNat ((sysZ bs s).1,(sysA bs s).2) (sysC bs s):=rfl
 rw [eT,eA]
 clear eT eA
 have hf:=fun k=>fillTo_ok (bs:=bs) (r:=sysR bs s) (c:=sysC bs s) (a:=(nx bs (sysR bs s) (sysZ bs s).2).1.toNat) (z:=((sysZ bs s).1,(nx bs (sysR bs s) (sysZ bs s).2).2)) ha.2.2.2 hz.2.1 hz.2.2 k
 generalize nx bs (sysR bs s) (sysZ bs s).2=na at*
 generalize sysZ bs s=Z at*
 generalize sysR bs s=r at*
 generalize sysC bs s=c at*
 generalize nx bs 4 (nx bs 4 (mkV bs s).2).2=nc at*
 generalize nx bs 4 (mkV bs s).2=nr at*
 generalize mkV bs s=M at*
 obtain ⟨M,s1⟩:=M
 simp only at er qr hm ⊢
 simp -dsimp -implicitDefEqProofs only [go_sem]
 refine sCallT_io [1000000000] ?_
 simp -dsimp -implicitDefEqProofs only [go_sem]
 refine sCallM_one (qm _) ?_
 simp -dsimp -implicitDefEqProofs only [go_sem]
 (refine sCallT_io [1000000000] ?_;simp -dsimp -implicitDefEqProofs only [go_sem];refine sCallM_one (qr _) ?_;simp -dsimp -implicitDefEqProofs only [go_sem])
 ((repeat' (with_reducible refine ai ?_ ?_));all_goals try (first|omega|(refine ⟨?_,?_⟩<;>omega)|(exact rfl)))
 (refine sCallT_io [1000000000] ?_;simp -dsimp -implicitDefEqProofs only [go_sem];refine sCallM_one (qc _) ?_;simp -dsimp -implicitDefEqProofs only [go_sem])
 ((repeat' (with_reducible refine ai ?_ ?_));all_goals try (first|omega|(refine ⟨?_,?_⟩<;>omega)|(exact rfl)))
 rw [er,ec]
 refine Later.upP [0,2,3,4,5] [26,34,35,36,37,40,41] [20,26,34,1000000000] r (fun _=>True) (fun i=>[(7,eI i),(6,.ref 20 0 0 i)]) (fun i=>[(20,.row 0 ⟨1,false⟩ true ((ztabTo bs c nc.2 i).1.map eIs)),(1000000000,srcB v bs (ztabTo bs c nc.2 i).2)]) trivial (.here ?_) rfl (fun i hi _=> ?_) (fun _=> ?_)
 · simp -dsimp -implicitDefEqProofs only [go_sem,ztabTo]
   ((repeat' (with_reducible refine ai ?_ ?_));all_goals try (first|omega|(refine ⟨?_,?_⟩<;>omega)|(exact rfl)))
 · refine Later.vc rfl ?_
   obtain ⟨o1,o2,o3⟩:=htz i
   have hlt:decide ((i:Int)<r)=true:=decide_eq_true (by omega)
   have hrok:=fun k=>zrowTo_ok (bs:=bs) o1 k
   rw [ztabTo_succ]
   clear eZ hf
   generalize ztabTo bs c nc.2 i=T at*
   have tT:=tk eIs T.1 i (by omega)
   simp -dsimp -implicitDefEqProofs only [pz,Nat.reduceBEq,Nat.reduceDiv,Nat.reduceAdd,↓reduceIte,Nat.reduceEqDiff]
   simp -dsimp -implicitDefEqProofs only [go_sem,hlt]
   refine Later.upP [0,2,3,4,5,6,7] [34,35,36,37] [26,34,1000000000] c (fun _=>True) (fun k=>[(9,eI k),(8,.ref 26 0 0 k)]) (fun k=>[(26,.row 0 ⟨1,false⟩ true ((zrowTo bs T.2 k).1.map eI)),(1000000000,srcB v bs (zrowTo bs T.2 k).2)]) trivial (.here ?_) rfl (fun k hk _=> ?_) (fun _=> ?_)
   · simp -dsimp -implicitDefEqProofs only [go_sem,zrowTo]
     ((repeat' (with_reducible refine ai ?_ ?_));all_goals try (first|omega|(refine ⟨?_,?_⟩<;>omega)|(exact rfl)))
   · refine Later.vc rfl ?_
     obtain ⟨p1,p2⟩:=hrok k
     have hlt:decide ((k:Int)<c)=true:=decide_eq_true (by omega)
     rw [zrowTo_succ]
     generalize zrowTo bs T.2 k=R at*
     have qp:=fun v v2=>c_l01Pick v v2 true bs [0,0,1] _ R.2 rfl (by simp) (by simp) p1 hl
     generalize pk bs [0,0,1] R.2=pp at*
     have tR:=tk eI R.1 k (by omega)
     simp -dsimp -implicitDefEqProofs only [pz,Nat.reduceBEq,Nat.reduceDiv,Nat.reduceAdd,↓reduceIte,Nat.reduceEqDiff]
     simp -dsimp -implicitDefEqProofs only [go_sem,hlt]
     ((repeat' (with_reducible refine ai ?_ ?_));all_goals try (first|omega|(refine ⟨?_,?_⟩<;>omega)|(exact rfl)))
     (refine sCallT_io [1000000000,34] ?_;simp -dsimp -implicitDefEqProofs only [go_sem];refine sCallM_one (qp _ _) ?_;simp -dsimp -implicitDefEqProofs only [go_sem])
     ((repeat' (with_reducible refine ai ?_ ?_));all_goals try (first|omega|(refine ⟨?_,?_⟩<;>omega)|(exact rfl)))
     all_goals first|(refine .here ?_;simp -dsimp -implicitDefEqProofs only [go_sem,tR];((repeat' (with_reducible refine ai ?_ ?_));all_goals try (first|omega|(refine ⟨?_,?_⟩<;>omega)|(exact rfl)));all_goals first|(simp;done)|skip)|skip
   · obtain ⟨p1,p2⟩:=hrok c
     generalize zrowTo bs T.2 c=R at*
     refine Later.known 8 26 0 c ⟨1,false⟩ _ rfl (by decide) rfl (by simp [p2]) (by omega) (by decide) fun u=> ?_
     refine Later.vc rfl ?_
     have hge:decide ((c:Int)<c)=false:=decide_eq_false (by omega)
     have e2:(T.1.map eIs++[AV.val u]).set i (.arr ⟨1,false⟩ (R.1.map eI))=(T.1++[R.1]).map eIs:=by
      rw [List.set_append_right _ _ (by simp [o2])]
      simp [o2,eIs]
     simp -dsimp -implicitDefEqProofs only [pz,Nat.reduceBEq,Nat.reduceDiv,Nat.reduceAdd,↓reduceIte,Nat.reduceEqDiff]
     simp -dsimp -implicitDefEqProofs only [go_sem,hge,tT]
     ((repeat' (with_reducible refine ai ?_ ?_));all_goals try (first|omega|(refine ⟨?_,?_⟩<;>omega)|(exact rfl)))
     all_goals first
      |(refine RefP.back 20 1 i 26 0 _ _ _ u (by decide) rfl (by simp [o2]) rfl (.here ?_)
        rw [e2]
        simp -dsimp -implicitDefEqProofs only [go_sem]
        ((repeat' (with_reducible refine ai ?_ ?_));all_goals try (first|omega|(refine ⟨?_,?_⟩<;>omega)|(exact rfl)))
        all_goals trace_state)
      |skip
 · rw [←eZ]
   clear eZ htz
   obtain ⟨z1,z2,z3⟩:=hz
   have hge:decide ((r:Int)<r)=false:=decide_eq_false (by omega)
   refine Later.vc rfl ?_
   simp -dsimp -implicitDefEqProofs only [pz,Nat.reduceBEq,Nat.reduceDiv,Nat.reduceAdd,↓reduceIte,Nat.reduceEqDiff]
   simp -dsimp -implicitDefEqProofs only [go_sem,hge]
   (refine sCallT_io [1000000000] ?_;simp -dsimp -implicitDefEqProofs only [go_sem];refine sCallM_one (qa _) ?_;simp -dsimp -implicitDefEqProofs only [go_sem])
   ((repeat' (with_reducible refine ai ?_ ?_));all_goals try (first|omega|(refine ⟨?_,?_⟩<;>omega)|(exact rfl)))
   refine Later.upP [0,2,3,4,5,6,10] [51,62] [20,1000000000] c (fun _=>True) (fun k=>[(11,eI k)]) (fun k=>[(20,.row 0 ⟨1,false⟩ true ((fillTo bs r na.1.toNat (Z.1,na.2) k).1.map eIs)),(1000000000,srcB v bs (fillTo bs r na.1.toNat (Z.1,na.2) k).2)]) trivial (.here ?_) rfl (fun k hk _=> ?_) (fun _=> ?_)
   · simp -dsimp -implicitDefEqProofs only [go_sem,fillTo]
     ((repeat' (with_reducible refine ai ?_ ?_));all_goals try (first|omega|(refine ⟨?_,?_⟩<;>omega)|(exact rfl)))
   · obtain ⟨f1,f2,f3⟩:=hf k
     have hlt:decide ((k:Int)<c)=true:=decide_eq_true (by omega)
     rw [fillTo_succ]
     generalize fillTo bs r na.1.toNat (Z.1,na.2) k=F at*
     obtain ⟨T,s0⟩:=F
     simp only at f1 f2 f3
     have q3:=fun v=>c_l01Next v bs 3 s0 f1 hl
     have n3:=nx_ok bs 3 f1
     simp only [fillA]
     generalize nx bs 3 s0=a3 at*
     have qj:=fun v=>c_l01Next v bs r a3.2 n3.2.2.2 hl
     have nj:=nx_lt bs (n:=r) hrc.1.1 n3.2.2.2
     generalize nx bs r a3.2=aj at*
     have hA:na.1.toNat<T.length:=by omega
     have hJ:aj.1.toNat<T.length:=by omega
     have lA:(T.getD na.1.toNat []).length=c:=by
      rw [uq1,uq2 hA];exact f3 _ (uq3 hA)
     have lJ:(T.getD aj.1.toNat []).length=c:=by
      rw [uq1,uq2 hJ];exact f3 _ (uq3 hJ)
     have gA:=getArr hA
     have gJ:=getArr hJ
     cases hc3:decide (a3.1>0) with
     |false=>
      rw [if_neg (by simp)]
      have e2:=setAt_map T aj.1.toNat k
      generalize T.getD aj.1.toNat []=R at*
      have gk:=get_some (show k<R.length by omega)
      refine Later.takeOut 20 0 aj.1.toNat 91 _ _ ⟨1,false⟩ (by decide) rfl gJ (by simp;omega) rfl fun u=> ?_
      have gu:((T.map eIs).set aj.1.toNat (.val u))[aj.1.toNat]? =some (.val u):=by simp [hJ]
      refine Later.vc rfl ?_
      simp -dsimp -implicitDefEqProofs only [pz,Nat.reduceBEq,Nat.reduceDiv,Nat.reduceAdd,↓reduceIte,Nat.reduceEqDiff]
      simp -dsimp -implicitDefEqProofs only [go_sem,hlt]
      (refine sCallT_io [1000000000] ?_;simp -dsimp -implicitDefEqProofs only [go_sem];refine sCallM_one (q3 _) ?_;simp -dsimp -implicitDefEqProofs only [go_sem])
      ((repeat' (with_reducible refine ai ?_ ?_));all_goals try (first|omega|(refine ⟨?_,?_⟩<;>omega)|(exact rfl)))
      simp -dsimp -implicitDefEqProofs only [go_sem,hc3]
      (refine sCallT_io [1000000000] ?_;simp -dsimp -implicitDefEqProofs only [go_sem];refine sCallM_one (qj _) ?_;simp -dsimp -implicitDefEqProofs only [go_sem])
      simp -dsimp -implicitDefEqProofs only [go_sem,gu,gk]
      ((repeat' (with_reducible refine ai ?_ ?_));all_goals try (first|omega|(refine ⟨?_,?_⟩<;>omega)|(exact rfl)))
      all_goals first
       |(refine RefP.back 20 0 aj.1.toNat 91 0 _ _ _ u (by decide) rfl gu rfl (.here ?_)
         rw [uq7,e2]
         simp -dsimp -implicitDefEqProofs only [go_sem]
         ((repeat' (with_reducible refine ai ?_ ?_));all_goals try (first|omega|(refine ⟨?_,?_⟩<;>omega)|(exact rfl)))
         all_goals trace_state)
       |skip
     |true=>
      rw [if_pos rfl]
      by_cases hAJ:na.1.toNat=aj.1.toNat
      · have e3:=setAt_map (setAt T na.1.toNat k) na.1.toNat k
        rw [setAt_self hA] at e3
        have e4:(setAt T na.1.toNat k).map eIs=(T.map eIs).set na.1.toNat (eIs ((T.getD na.1.toNat []).set k 1)):=by simp [setAt,List.map_set]
        rw [e4,uq7] at e3
        clear e4
        rw [←hAJ]
        have hJj:aj.1=na.1:=by omega
        generalize T.getD na.1.toNat []=R at*
        have gk:=get_some (show k<R.length by omega)
        have gk2:((R.map eI).set k (eI 1))[k]? =some (eI 1):=List.getElem?_set_self (by rw [List.length_map];omega)
        refine Later.takeOut 20 0 na.1.toNat 91 _ _ ⟨1,false⟩ (by decide) rfl gA (by simp;omega) rfl fun u=> ?_
        have gu:((T.map eIs).set na.1.toNat (.val u))[na.1.toNat]? =some (.val u):=by simp [hA]
        refine Later.vc rfl ?_
        simp -dsimp -implicitDefEqProofs only [pz,Nat.reduceBEq,Nat.reduceDiv,Nat.reduceAdd,↓reduceIte,Nat.reduceEqDiff]
        simp -dsimp -implicitDefEqProofs only [go_sem,hlt]
        (refine sCallT_io [1000000000] ?_;simp -dsimp -implicitDefEqProofs only [go_sem];refine sCallM_one (q3 _) ?_;simp -dsimp -implicitDefEqProofs only [go_sem])
        ((repeat' (with_reducible refine ai ?_ ?_));all_goals try (first|omega|(refine ⟨?_,?_⟩<;>omega)|(exact rfl)))
        simp -dsimp -implicitDefEqProofs only [go_sem,hc3,gu,gk]
        ((repeat' (with_reducible refine ai ?_ ?_));all_goals try (first|omega|(refine ⟨?_,?_⟩<;>omega)|(exact rfl)))
        (refine sCallT_io [1000000000] ?_;simp -dsimp -implicitDefEqProofs only [go_sem];refine sCallM_one (qj _) ?_;simp -dsimp -implicitDefEqProofs only [go_sem])
        rw [hJj]
        simp -dsimp -implicitDefEqProofs only [go_sem,gu,gk2]
        ((repeat' (with_reducible refine ai ?_ ?_));all_goals try (first|omega|(refine ⟨?_,?_⟩<;>omega)|(exact rfl)))
        all_goals first
         |(refine RefP.back 20 0 na.1.toNat 91 0 _ _ _ u (by decide) rfl gu rfl (.here ?_)
           rw [uq7]
           simp -dsimp -implicitDefEqProofs only [go_sem]
           ((repeat' (with_reducible refine ai ?_ ?_));all_goals try (first|omega|(refine ⟨?_,?_⟩<;>omega)|(exact rfl)))
           all_goals first|(rw [←e3,List.map_set];done)|skip)
         |skip
      · have e3:=setAt_map (setAt T na.1.toNat k) aj.1.toNat k
        rw [setAt_get hAJ] at e3
        have e4:=setAt_map T na.1.toNat k
        generalize T.getD na.1.toNat []=R at*
        generalize T.getD aj.1.toNat []=R2 at*
        have gk:=get_some (show k<R.length by omega)
        have gk2:=get_some (show k<R2.length by omega)
        refine Later.takeOut 20 0 aj.1.toNat 91 _ _ ⟨1,false⟩ (by decide) rfl gJ (by simp;omega) rfl fun u2=> ?_
        refine Later.takeOut 20 0 na.1.toNat 90 _ _ ⟨1,false⟩ (by decide) rfl (by rw [List.getElem?_set_ne (Ne.symm hAJ)];exact gA) (by simp;omega) rfl fun u=> ?_
        have gu:(((T.map eIs).set aj.1.toNat (.val u2)).set na.1.toNat (.val u))[na.1.toNat]? =some (.val u):=by simp [hA]
        have gu2:(((T.map eIs).set aj.1.toNat (.val u2)).set na.1.toNat (.val u))[aj.1.toNat]? =some (.val u2):=by rw [List.getElem?_set_ne hAJ];simp [hJ]
        have e5:((((T.map eIs).set aj.1.toNat (.val u2)).set na.1.toNat (.val u)).set na.1.toNat (.arr ⟨1,false⟩ ((R.map eI).set k (eI 1)))).set aj.1.toNat (.arr ⟨1,false⟩ ((R2.map eI).set k (eI 1)))=(setAt (setAt T na.1.toNat k) aj.1.toNat k).map eIs:=by
         rw [uq7,List.set_comm _ _ (Ne.symm hAJ),uq7,←e3,←e4,List.set_comm _ _ hAJ]
        refine Later.vc rfl ?_
        simp -dsimp -implicitDefEqProofs only [pz,Nat.reduceBEq,Nat.reduceDiv,Nat.reduceAdd,↓reduceIte,Nat.reduceEqDiff]
        simp -dsimp -implicitDefEqProofs only [go_sem,hlt]
        (refine sCallT_io [1000000000] ?_;simp -dsimp -implicitDefEqProofs only [go_sem];refine sCallM_one (q3 _) ?_;simp -dsimp -implicitDefEqProofs only [go_sem])
        ((repeat' (with_reducible refine ai ?_ ?_));all_goals try (first|omega|(refine ⟨?_,?_⟩<;>omega)|(exact rfl)))
        simp -dsimp -implicitDefEqProofs only [go_sem,hc3,gu,gk]
        ((repeat' (with_reducible refine ai ?_ ?_));all_goals try (first|omega|(refine ⟨?_,?_⟩<;>omega)|(exact rfl)))
        refine sCallT_ioH 91 _ rfl [1000000000] ?_
        simp -dsimp -implicitDefEqProofs only [go_sem]
        refine sCallM_one (qj _) ?_
        simp -dsimp -implicitDefEqProofs only [go_sem,gu2,gk2]
        ((repeat' (with_reducible refine ai ?_ ?_));all_goals try (first|omega|(refine ⟨?_,?_⟩<;>omega)|(exact rfl)))
        all_goals first
         |(refine RefP.back 20 0 na.1.toNat 90 0 _ _ _ u (by decide) rfl gu rfl ?_
           refine RefP.back 20 0 aj.1.toNat 91 0 _ _ _ u2 (by decide) rfl (by rw [uq7,List.getElem?_set_ne hAJ];simp [hJ]) rfl (.here ?_)
           rw [e5]
           simp -dsimp -implicitDefEqProofs only [go_sem]
           ((repeat' (with_reducible refine ai ?_ ?_));all_goals try (first|omega|(refine ⟨?_,?_⟩<;>omega)|(exact rfl)))
           all_goals trace_state)
         |skip
   · obtain ⟨f1,f2,f3⟩:=hf c
     generalize fillTo bs r na.1.toNat (Z.1,na.2) c=F at*
     have tF:=tk eIs F.1 r (by omega)
     have hge:decide ((c:Int)<c)=false:=decide_eq_false (by omega)
     refine Later.vc rfl ?_
     simp -dsimp -implicitDefEqProofs only [pz,Nat.reduceBEq,Nat.reduceDiv,Nat.reduceAdd,↓reduceIte,Nat.reduceEqDiff]
     simp -dsimp -implicitDefEqProofs only [go_sem,hge]
     ((repeat' (with_reducible refine ai ?_ ?_));all_goals try (first|omega|(refine ⟨?_,?_⟩<;>omega)|(exact rfl)))
     all_goals first|(rw [tF];done)|(simp;done)|skip
end Go.Vc
namespace Go.Vc
def allK (m:MkM):List (List Int):=keysFrom m m.chambers.toNat []
structure KeyOk (m:MkM) (k:List Int):Prop where
 len:(k.length:Int)=m.chambers
 ok:okTo m k=true
 kinds:¬(kindsTo k k.length:Int)<m.least
 el:∀x∈k,0≤x∧x<m.depths
theorem keysFrom_ok {m:MkM}:∀(n:Nat) (c k:List Int),okTo m c=true→(∀x∈c,0≤x∧x<m.depths)→k∈keysFrom m n c→k.length=c.length+n∧okTo m k=true∧¬(kindsTo k k.length:Int)<m.least∧∀x∈k,0≤x∧x<m.depths
 |0,c,k,h1,h2,h=>by
  simp only [keysFrom] at h
  split at h
  · cases h
  · rename_i hk
    rw [List.mem_singleton] at h
    subst h
    exact ⟨rfl,h1,hk,h2⟩
 |n+1,c,k,h1,h2,h=>by
  simp only [keysFrom,List.mem_flatMap,uq5] at h
  obtain ⟨d,hd,h⟩:=h
  split at h
  · rename_i hc
    obtain ⟨g1,g2⟩:=keysFrom_ok n (c++[(d:Int)]) k (by rw [okTo_snoc,h1,Bool.true_and];exact hc) (fun x hx=>by
     rcases uq4.1 hx with h|h
     · exact h2 x h
     · simp at h;omega) h
    exact ⟨by rw [g1];simp;omega,g2⟩
  · cases h
theorem allK_ok {m:MkM} (hm:0≤m.chambers) {k:List Int} (h:k∈allK m):KeyOk m k:=by
 obtain ⟨h1,h2,h3,h4⟩:=keysFrom_ok m.chambers.toNat [] k rfl (fun x hx=>by cases hx) h
 exact ⟨by rw [h1];simp;omega,h2,h3,h4⟩
theorem KeyOk.of_fault {m:MkM} {k:List Int} (h:fault m k=0):KeyOk m k:=by
 obtain ⟨h1,h2,h3,h4⟩:=fault_out h
 exact ⟨h1,h3,h4,h2⟩
theorem nodup_keysFrom {m:MkM}:∀(n:Nat) (c:List Int),(keysFrom m n c).Nodup
 |0,c=>by
  simp only [keysFrom]
  split
  · exact List.nodup_nil
  · simp
 |n+1,c=>by
  show (keysTo m n c m.depths.toNat).Nodup
  have key:∀D,(keysTo m n c D).Nodup:=by
   intro D
   induction D with
   |zero=>exact List.nodup_nil
   |succ D ih=>
    rw [keysTo_succ,List.nodup_append]
    refine ⟨ih,?_,fun a ha b hb=> ?_⟩
    · split
      · exact nodup_keysFrom n _
      · exact List.nodup_nil
    · rintro rfl
      obtain ⟨d,hd,g⟩:=keysTo_mem ha
      split at hb
      · have g2:=(keysFrom_mem m n _ a hb).1
        have e:(c++[(D:Int)]).length=c.length+1:=by simp
        rw [e,g] at g2
        have:=List.append_cancel_left g2
        injection this with this _
        omega
      · cases hb
  exact key _
end Go.Vc
namespace Go.Vc
open Go.Proofs
theorem firstD_congr {f g:Nat→Option (List Int)}:∀{D:Nat},(∀d,d<D→f d=g d)→firstD f D=firstD g D
 |0,_=>rfl
 |D+1,h=>by
  simp only [firstD]
  rw [firstD_congr (D:=D) (fun d hd=>h d (by omega)),h D (by omega)]
theorem head_flat (F:Nat→List (List Int)):∀D,firstD (fun d=>(F d).head?) D=((List.range D).flatMap F).head?
 |0=>rfl
 |D+1=>by
  rw [uq6,List.flatMap_append,List.head?_append,←head_flat F D]
  simp only [firstD,List.flatMap_cons,List.flatMap_nil,List.append_nil]
  cases firstD (fun d=>(F d).head?) D<;>rfl
theorem firstK_head (m:MkM):∀(n:Nat) (c:List Int),firstK m n c=if okTo m c=true then (keysFrom m n c).head? else none
 |0,c=>by
  simp only [firstK,keysFrom]
  by_cases h1:okTo m c=true
  · rw [if_pos h1]
    by_cases h2:m.least≤(kindsTo c c.length:Int)
    · rw [if_pos ⟨h1,h2⟩,if_neg (by omega)];rfl
    · rw [if_neg (fun h=>h2 h.2),if_pos (by omega)];rfl
  · rw [if_neg (fun h=>h1 h.1),if_neg h1]
 |n+1,c=>by
  simp only [firstK]
  by_cases h1:okTo m c=true
  · rw [if_pos h1,if_pos h1]
    simp only [keysFrom]
    rw [←head_flat]
    refine firstD_congr fun d _=> ?_
    rw [firstK_head m n,okTo_snoc,h1,Bool.true_and]
    split<;>rfl
  · rw [if_neg h1,if_neg h1]
theorem flatMap_range_split (F:Nat→List (List Int)) (a:Nat):∀b,(List.range (a+b)).flatMap F=(List.range a).flatMap F++(List.range b).flatMap fun e=>F (a+e)
 |0=>by simp
 |b+1=>by
  rw [show a+(b+1)=(a+b)+1 by omega,uq6,List.flatMap_append,flatMap_range_split F a b,uq6,List.flatMap_append]
  simp
theorem next_behind {m:MkM} {k:List Int} (h:KeyOk m k):∀j,j≤k.length→∃a b,keysFrom m j (k.take (k.length-j))=a++k::b∧nextTo m k j=b.head?
 |0,_=>by
  obtain ⟨h1,h2,h3,h4⟩:=h
  refine ⟨[],[],?_,rfl⟩
  rw [Nat.sub_zero,uq8,keysFrom,if_neg h3];rfl
 |j+1,hj=>by
  obtain ⟨a,b,e1,e2⟩:=next_behind h j (by omega)
  obtain ⟨h1,h2,h3,h4⟩:=h
  have hi:k.length-1-j<k.length:=by omega
  have hx:=h4 _ (uq3 hi)
  have hg:k.getD (k.length-1-j) 0=k[k.length-1-j]:=by simp [uq1,hi]
  have ht:=take_app hi
  rw [show k.length-1-j+1=k.length-j by omega,hg] at ht
  have hok:=okTo_take' h2 (i:=k.length-j) (by omega)
  rw [ht,okTo_snoc] at hok
  obtain ⟨hok1,hok2⟩:=Bool.and_eq_true_iff.1 hok
  have hnx:nextTo m k (j+1)=match nextTo m k j with
   |some k=>some k
   |none=>firstD (fun (e:Nat)=>firstK m j (k.take (k.length-1-j)++[k[k.length-1-j]+1+(e:Int)])) (m.depths-(k[k.length-1-j]+1)).toNat:=by
   simp only [nextTo,hg]<;>cases nextTo m k j<;>rfl
  rw [show k.length-(j+1)=k.length-1-j by omega]
  generalize k[k.length-1-j]=z at*
  generalize hp:k.take (k.length-1-j)=p at*
  rw [ht] at e1
  have hz:z=((z.toNat:Nat):Int):=by omega
  have hsp:m.depths.toNat=z.toNat+(1+(m.depths-(z+1)).toNat):=by omega
  let F:Nat→List (List Int):=fun d=>if (stepOk m p (d:Int)&&runOk m p (d:Int))=true then keysFrom m j (p++[(d:Int)]) else []
  have hF:F z.toNat=a++k::b:=by
   show (if (stepOk m p ((z.toNat:Nat):Int)&&runOk m p ((z.toNat:Nat):Int))=true then keysFrom m j (p++[((z.toNat:Nat):Int)]) else [])=_
   rw [←hz,if_pos hok2,e1]
  have hk:keysFrom m (j+1) p=(List.range z.toNat).flatMap F++(F z.toNat++(List.range (m.depths-(z+1)).toNat).flatMap fun e=>F (z.toNat+(1+e))):=by
   show (List.range m.depths.toNat).flatMap F=_
   rw [hsp,flatMap_range_split,flatMap_range_split (fun e=>F (z.toNat+e)) 1]
   simp [uq6]
  refine ⟨(List.range z.toNat).flatMap F++a,b++(List.range (m.depths-(z+1)).toNat).flatMap fun e=>F (z.toNat+(1+e)),?_,?_⟩
  · rw [hk,hF];simp
  · rw [hnx,e2,List.head?_append,←head_flat]
    cases b.head? with
    |some x=>rfl
    |none=>
     show firstD _ _=_
     simp only [Option.none_or]
     refine firstD_congr fun e _=> ?_
     rw [firstK_head,okTo_snoc,hok1,Bool.true_and]
     have:z+1+(e:Int)=((z.toNat+(1+e):Nat):Int):=by omega
     rw [this]
     show _=(if (stepOk m p ((z.toNat+(1+e):Nat):Int)&&runOk m p ((z.toNat+(1+e):Nat):Int))=true then keysFrom m j (p++[((z.toNat+(1+e):Nat):Int)]) else []).head?
     split<;>rfl
theorem nextTo_all {m:MkM} (hm:0≤m.chambers) {a b:List (List Int)} {k:List Int} (h:allK m=a++k::b):nextTo m k k.length=b.head? :=by
 have hk:k∈allK m:=by rw [h];simp
 have hok:=allK_ok hm hk
 obtain ⟨a',b',e1,e2⟩:=next_behind hok k.length (uq10 _)
 rw [Nat.sub_self,List.take_zero] at e1
 have hl:m.chambers.toNat=k.length:=by have:=hok.len;omega
 have e1':allK m=a'++k::b':=by rw [allK,hl];exact e1
 have hn:=nodup_keysFrom (m:=m) m.chambers.toNat []
 rw [show keysFrom m m.chambers.toNat []=allK m from rfl,h] at hn
 rw [h] at e1'
 have:a=a'∧k::b=k::b':=by
  have key:∀(a a' b b':List (List Int)),a++k::b=a'++k::b'→(a++k::b).Nodup→a=a'∧b=b':=by
   intro a
   induction a with
   |nil=>
    intro a' b b' h hn
    cases a' with
    |nil=>exact ⟨rfl,by simpa using h⟩
    |cons x r=>
     simp only [List.nil_append,List.cons_append,List.cons.injEq] at h
     obtain ⟨rfl,h⟩:=h
     simp only [List.nil_append,List.nodup_cons] at hn
     exact absurd (by rw [h];simp) hn.1
   |cons x r ih=>
    intro a' b b' h hn
    cases a' with
    |nil=>
     simp only [List.nil_append,List.cons_append,List.cons.injEq] at h
     obtain ⟨rfl,h⟩:=h
     simp only [List.cons_append,List.nodup_cons] at hn
     exact absurd (by simp) hn.1
    |cons x' r'=>
     simp only [List.cons_append,List.cons.injEq] at h
     obtain ⟨rfl,h⟩:=h
     simp only [List.cons_append,List.nodup_cons] at hn
     obtain ⟨h1,h2⟩:=ih r' b b' h hn.2
     exact ⟨by rw [h1],h2⟩
  obtain ⟨h1,h2⟩:=key a a' b b' e1' hn
  exact ⟨h1,by rw [h2]⟩
 rw [e2]
 have:=this.2
 simp only [List.cons.injEq,true_and] at this
 rw [this]
theorem firstK_all (m:MkM):firstK m m.chambers.toNat []=(allK m).head? :=by
 rw [firstK_head,if_pos (show okTo m []=true from rfl)];rfl
end Go.Vc
namespace Go.Vc
open Go.Proofs
def key1 (m:MkM) (c:List Int):Bool:=fault m c==0
theorem c_isKey (m:MkM) (c:List Int) (hm:isMk m=true) (h:c.length≤1048576):Fn Tryz.prog 160 [eMk m,eIs c] true (· =eB (key1 m c)):=by
 refine Fn.of_vcN 9 [.tmp 4] Tryz.func160 rfl rfl rfl rfl rfl (of_decide_eq_true rfl) ?_
 simp -dsimp -implicitDefEqProofs only [go_sem]
 repeat' first
  |(refine Br.intro (fun _=> ?_) (fun _=> ?_)<;>try simp -dsimp -implicitDefEqProofs only [go_sem, *])
  |(with_reducible refine ai ?_ ?_)
  |(refine sCallT_one (c_keyFault m c hm h) ?_;try simp -dsimp -implicitDefEqProofs only [go_sem, *])
 all_goals first|omega|(refine ⟨?_,?_⟩<;>omega)|rfl|(simp;done)|(simp_all [key1];done)|(simp_all [key1];omega)|(simp_all [key1];split<;>simp_all<;>omega)|skip
theorem c_l04Keys (m:MkM) (ks:List (List Int)) (hm:isMk m=true) (h:ks.length≤1048576) (h2:∀x∈ks,x.length≤1048576):Fn Tryz.prog 157 [eMk m,eIss ks] true (· =eB (ks.all (key1 m)&&decide ((ks.length:Int)≤300))):=by
 refine Fn.of_vcN 22 [.tmp 4] Tryz.func157 rfl rfl rfl rfl rfl (of_decide_eq_true rfl) ?_
 simp -dsimp -implicitDefEqProofs only [go_sem]
 refine Later.up [1,2] [8,17] [] ks.length (fun i=>(ks.take i).all (key1 m)) (fun i=>[(5,eI i)]) (fun _=>[]) (by simp) ?_ rfl (fun i hi hI=> ?_) (fun hI=> ?_)
 · simp -dsimp -implicitDefEqProofs only [go_sem]
 · have gi:=get_some hi
   have li:=lt_len hi
   have no:key1 m ks[i]=false→ks.all (key1 m)=false:=fun h=>all_no hi h
   have yes:key1 m ks[i]=true→(ks.take (i+1)).all (key1 m)=true:=fun h=>by rw [all_take _ _ _ hi,hI,h];rfl
   have yes':(fault m ks[i] != 0)=false→(ks.take (i+1)).all (key1 m)=true:=fun h=>yes (by simpa [key1] using h)
   have no':(fault m ks[i] != 0)=true→ks.all (key1 m)=false:=fun h=>no (by simpa [key1] using h)
   have hc:=c_l02Fault m ks[i] hm (h2 _ (uq3 hi))
   clear no yes hI
   simp -dsimp -implicitDefEqProofs only [pz,Nat.reduceBEq,Nat.reduceDiv,Nat.reduceAdd,↓reduceIte,Nat.reduceEqDiff]
   simp -dsimp -implicitDefEqProofs only [go_sem,li,gi]
   repeat' first
    |(refine Br.intro (fun _=> ?_) (fun _=> ?_)<;>try simp -dsimp -implicitDefEqProofs only [go_sem, *])
    |(with_reducible refine ai ?_ ?_)
    |(refine Later.draw mixed rfl ?_;try simp -dsimp -implicitDefEqProofs only [go_sem,li,gi])
    |(refine sCallX_one (hc) ?_;try simp -dsimp -implicitDefEqProofs only [go_sem, *])
   all_goals first
    |(rw [no' (by assumption)];rfl)
    |(exact yes' (by assumption))
    |(first|omega|(refine ⟨?_,?_⟩<;>omega)|(simp;done)|(simp;omega)|(refine ⟨?_,?_⟩<;>omega)|rfl|(simp;done)|(simp_all;done)|(simp_all;omega)|(exfalso;simp_all [bne];done)|skip)
 · rw [uq8] at hI
   rw [hI]
   simp -dsimp -implicitDefEqProofs only [pz,Nat.reduceBEq,Nat.reduceDiv,Nat.reduceAdd,↓reduceIte,Nat.reduceEqDiff]
   simp -dsimp -implicitDefEqProofs only [go_sem,nlt_len]
   all_goals (first|omega|(refine ⟨?_,?_⟩<;>omega)|(simp;done)|(simp;omega)|(refine ⟨?_,?_⟩<;>omega)|rfl|(simp;done)|(simp_all;done)|(simp_all;omega)|(exfalso;simp_all [bne];done)|skip)
set_option maxHeartbeats 4000000 in
theorem c_areKeys (m:MkM) (ks:List (List Int)) (hm:isMk m=true) (h:ks.length≤1048576) (h2:∀x∈ks,x.length≤1048576):Fn Tryz.prog 138 [eMk m,eIss ks] true (· =eB (ks.all (key1 m))):=by
 refine Fn.of_vcN 9 [.tmp 4] Tryz.func138 rfl rfl rfl rfl rfl (of_decide_eq_true rfl) ?_
 have hyes:(∀i (hi:i<ks.length),key1 m ks[i]=true)→ks.all (key1 m)=true:=fun h=>uq0.2 fun x hx=>by
  obtain ⟨i,hi,rfl⟩:=List.getElem_of_mem hx
  exact h i hi
 have hno:∀i (hi:i<ks.length),key1 m ks[i]=false→ks.all (key1 m)=false:=fun i hi h=>all_no hi h
 generalize ks.all (key1 m)=ok at hyes hno
 simp -dsimp -implicitDefEqProofs only [go_sem]
 ((repeat' (first|(refine Br.intro (fun _=> ?_) (fun _=> ?_)<;>try simp -dsimp -implicitDefEqProofs only [go_sem, *])|(with_reducible refine ai ?_ ?_)|(refine Later.draw mixed rfl ?_;try simp -dsimp -implicitDefEqProofs only [go_sem, *])));all_goals try (first|omega|(refine ⟨?_,?_⟩<;>omega)|(exact rfl)|(simp;done)))
 refine sCallT_inl 400000 9 [.tmp 4] Tryz.func158 rfl rfl rfl rfl rfl (by exact of_decide_eq_true rfl) ?_
 simp -dsimp -implicitDefEqProofs only [go_sem]
 refine sCallT_inl 410000 19 [.tmp 4] Tryz.func170 rfl rfl rfl rfl rfl (by exact of_decide_eq_true rfl) ?_
 simp -dsimp -implicitDefEqProofs only [go_sem]
 refine Later.up [0,1,7] [16] [] ks.length (fun i=>∀j (hj:j<ks.length),j<i→key1 m ks[j]=true) (fun i=>[(8,eI i)]) (fun _=>[]) (fun j _ h=>absurd h (Nat.not_lt_zero _)) ?_ rfl (fun i hi hI=> ?_) (fun hI=> ?_)
 · simp -dsimp -implicitDefEqProofs only [go_sem]
   all_goals first|(simp;done)|skip
 · have gi:=get_some hi
   have li:=lt_len hi
   have hc:=c_isKey m ks[i] hm (h2 _ (uq3 hi))
   rcases hv:key1 m ks[i] with _|_
   · rw [hv] at hc
     have hn:=hno i hi hv
     clear hno hyes hI hv
     subst hn
     simp -dsimp -implicitDefEqProofs only [pz,Nat.reduceBEq,Nat.reduceDiv,Nat.reduceAdd,↓reduceIte,Nat.reduceEqDiff]
     simp -dsimp -implicitDefEqProofs only [go_sem,gi,li]
     refine ⟨⟨by omega,by omega⟩,?_⟩
     refine sCallT_inl 420000 8 [.tmp 3] Tryz.func159 rfl rfl rfl rfl rfl (by exact of_decide_eq_true rfl) ?_
     simp -dsimp -implicitDefEqProofs only [go_sem]
     repeat' first
      |(with_reducible refine ai ?_ ?_)
      |(refine sCallT_one (hc) ?_;try simp -dsimp -implicitDefEqProofs only [go_sem, *])
     ((repeat' (first|(refine Br.intro (fun _=> ?_) (fun _=> ?_)<;>try simp -dsimp -implicitDefEqProofs only [go_sem, *])|(with_reducible refine ai ?_ ?_)|(refine Later.draw mixed rfl ?_;try simp -dsimp -implicitDefEqProofs only [go_sem, *])));all_goals try (first|omega|(refine ⟨?_,?_⟩<;>omega)|(exact rfl)|(simp;done)))
     all_goals first
      |(rename_i h;exact absurd (of_decide_eq_false h) (by omega))
      |(first|omega|(refine ⟨?_,?_⟩<;>omega)|(simp;done)|(simp;omega)|(refine ⟨?_,?_⟩<;>omega)|rfl|(simp;done)|(simp_all;done)|(simp_all;omega)|(exfalso;simp_all [bne];done)|skip)
   · rw [hv] at hc
     have hI':∀j (hj:j<ks.length),j<i+1→key1 m ks[j]=true:=fun j hj h=>by
      by_cases hji:j=i
      · subst hji;exact hv
      · exact hI j hj (by omega)
     clear hno hyes hI hv
     simp -dsimp -implicitDefEqProofs only [pz,Nat.reduceBEq,Nat.reduceDiv,Nat.reduceAdd,↓reduceIte,Nat.reduceEqDiff]
     simp -dsimp -implicitDefEqProofs only [go_sem,gi,li]
     refine ⟨⟨by omega,by omega⟩,?_⟩
     refine sCallT_inl 420000 8 [.tmp 3] Tryz.func159 rfl rfl rfl rfl rfl (by exact of_decide_eq_true rfl) ?_
     simp -dsimp -implicitDefEqProofs only [go_sem]
     repeat' first
      |(with_reducible refine ai ?_ ?_)
      |(refine sCallT_one (hc) ?_;try simp -dsimp -implicitDefEqProofs only [go_sem, *])
     ((repeat' (first|(refine Br.intro (fun _=> ?_) (fun _=> ?_)<;>try simp -dsimp -implicitDefEqProofs only [go_sem, *])|(with_reducible refine ai ?_ ?_)|(refine Later.draw mixed rfl ?_;try simp -dsimp -implicitDefEqProofs only [go_sem, *])));all_goals try (first|omega|(refine ⟨?_,?_⟩<;>omega)|(exact rfl)|(simp;done)))
     all_goals first
      |exact hI'
      |(first|omega|(refine ⟨?_,?_⟩<;>omega)|(simp;done)|(simp;omega)|(refine ⟨?_,?_⟩<;>omega)|rfl|(simp;done)|(simp_all;done)|(simp_all;omega)|(exfalso;simp_all [bne];done)|skip)
 · have hn:=hyes fun j hj=>hI j hj hj
   clear hno hyes hI
   subst hn
   simp -dsimp -implicitDefEqProofs only [pz,Nat.reduceBEq,Nat.reduceDiv,Nat.reduceAdd,↓reduceIte,Nat.reduceEqDiff]
   simp -dsimp -implicitDefEqProofs only [go_sem,nlt_len]
   ((repeat' (first|(refine Br.intro (fun _=> ?_) (fun _=> ?_)<;>try simp -dsimp -implicitDefEqProofs only [go_sem, *])|(with_reducible refine ai ?_ ?_)|(refine Later.draw mixed rfl ?_;try simp -dsimp -implicitDefEqProofs only [go_sem, *])));all_goals try (first|omega|(refine ⟨?_,?_⟩<;>omega)|(exact rfl)|(simp;done)))
   all_goals first
    |(rename_i h;exact absurd h (by decide))
    |(first|omega|(refine ⟨?_,?_⟩<;>omega)|(simp;done)|(simp;omega)|(refine ⟨?_,?_⟩<;>omega)|rfl|(simp;done)|(simp_all;done)|(simp_all;omega)|(exfalso;simp_all [bne];done)|skip)
end Go.Vc
namespace Go.Vc
open Go.Proofs
def hullAt (keys:List (List Int)) (i:Nat) (d:Nat):Bool:=keys.any fun k=>k.getD i 0==(d:Int)
def hullSet (m:MkM) (keys:List (List Int)) (i:Nat):List Int:=flt (hullAt keys i) m.depths.toNat
def hull (m:MkM) (keys:List (List Int)) (n:Nat):List (List Int):=(List.range n).map (hullSet m keys)
theorem hull_succ (m:MkM) (keys:List (List Int)) (n:Nat):hull m keys (n+1)=hull m keys n++[hullSet m keys n]:=by simp [hull,uq6]
theorem hull_zero (m:MkM) (keys:List (List Int)):hull m keys 0=[]:=rfl
theorem hull_len (m:MkM) (keys:List (List Int)) (n:Nat):(hull m keys n).length=n:=by simp [hull]
theorem hullSet_len (m:MkM) (keys:List (List Int)) (i:Nat):(hullSet m keys i).length≤m.depths.toNat:=flt_len _ _
theorem hull_sets (m:MkM) (keys:List (List Int)) (n:Nat):∀x∈hull m keys n,x.length≤m.depths.toNat:=fun x hx=>by
 simp only [hull,List.mem_map] at hx
 obtain ⟨i,_,rfl⟩:=hx
 exact hullSet_len _ _ _
theorem strict_ext:∀{xs ys:List Int},xs.Pairwise (· < ·)→ys.Pairwise (· < ·)→(∀x,x∈xs↔x∈ys)→xs=ys
 | [],[],_,_,_=>rfl
 | [],y::ys,_,_,h=>absurd ((h y).2 (List.mem_cons_self ..)) (by simp)
 |x::xs,[],_,_,h=>absurd ((h x).1 (List.mem_cons_self ..)) (by simp)
 |x::xs,y::ys,h1,h2,h=>by
  obtain ⟨g1,g2⟩:=List.pairwise_cons.1 h1
  obtain ⟨k1,k2⟩:=List.pairwise_cons.1 h2
  have e:x=y:=by
   rcases List.mem_cons.1 ((h x).1 (List.mem_cons_self ..)) with e|e
   · exact e
   rcases List.mem_cons.1 ((h y).2 (List.mem_cons_self ..)) with e'|e'
   · exact e'.symm
   have:=k1 x e
   have:=g1 y e'
   omega
  subst e
  have hr:∀z,z∈xs↔z∈ys:=fun z=>⟨fun hz=>by
   rcases List.mem_cons.1 ((h z).1 (List.mem_cons_of_mem _ hz)) with e|e
   · have:=g1 z hz;omega
   · exact e,fun hz=>by
   rcases List.mem_cons.1 ((h z).2 (List.mem_cons_of_mem _ hz)) with e|e
   · have:=k1 z hz;omega
   · exact e⟩
  rw [strict_ext g2 k2 hr]
theorem flt_pair (p:Nat→Bool):∀n,(flt p n).Pairwise (· < ·)
 |0=>by rw [flt_zero];exact List.Pairwise.nil
 |n+1=>by
  rw [flt_succ]
  split
  · refine List.pairwise_append.2 ⟨flt_pair p n,List.pairwise_singleton ..,fun a ha b hb=> ?_⟩
    obtain ⟨j,hj,rfl,_⟩:=flt_mem ha
    simp only [List.mem_singleton] at hb
    omega
  · exact flt_pair p n
theorem mem_flt_of {p:Nat→Bool} {n j:Nat} (hj:j<n) (hp:p j=true):(j:Int)∈flt p n:=by
 induction n with
 |zero=>omega
 |succ n ih=>
  rw [flt_succ]
  by_cases e:j=n
  · subst e;rw [if_pos hp];simp
  · have:=ih (by omega)
    split
    · exact List.mem_append_left _ this
    · exact this
theorem rowsL_flt {xs:List Int} {p:Nat→Bool} {D:Nat} (h:∀x∈xs,∃j:Nat,j<D∧x=(j:Int)) (hp:∀j,j<D→(p j=true↔(j:Int)∈xs)):rowsL xs=flt p D:=by
 refine strict_ext (rowsL_pair xs) (flt_pair p D) fun x=> ?_
 rw [rowsL_mem]
 constructor
 · intro hx
   obtain ⟨j,hj,rfl⟩:=h x hx
   exact mem_flt_of hj ((hp j hj).2 hx)
 · intro hx
   obtain ⟨j,hj,rfl,h2⟩:=flt_mem hx
   exact (hp j hj).1 h2
theorem hullSet_eq {m:MkM} {keys:List (List Int)} {i:Nat} (h:∀k∈keys,0≤k.getD i 0∧k.getD i 0<m.depths):rowsL (keys.map fun k=>k.getD i 0)=hullSet m keys i:=by
 refine rowsL_flt (fun x hx=> ?_) fun j _=> ?_
 · obtain ⟨k,hk,rfl⟩:=List.mem_map.1 hx
   have:=h k hk
   exact ⟨(k.getD i 0).toNat,by omega,by omega⟩
 · simp only [hullAt,List.any_eq_true,List.mem_map,beq_iff_eq]
def onTo (t cuts:List (List Int)) (k:Nat):Nat→List (List Int)
 |0=>[]
 |i+1=>if ((t.getD i []).getD k 0==1)=true then onTo t cuts k i++[cuts.getD i []] else onTo t cuts k i
theorem onTo_zero (t cuts:List (List Int)) (k:Nat):onTo t cuts k 0=[]:=rfl
theorem onTo_succ (t cuts:List (List Int)) (k i:Nat):onTo t cuts k (i+1)=if ((t.getD i []).getD k 0==1)=true then onTo t cuts k i++[cuts.getD i []] else onTo t cuts k i:=rfl
theorem onTo_len (t cuts:List (List Int)) (k:Nat):∀i,(onTo t cuts k i).length≤i
 |0=>uq10 _
 |i+1=>by
  have:=onTo_len t cuts k i
  rw [onTo_succ];split
  · simp;omega
  · omega
theorem onTo_mem {t cuts:List (List Int)} {k:Nat}:∀{i:Nat},i≤cuts.length→∀x∈onTo t cuts k i,x∈cuts
 |0,_,x,hx=>by cases hx
 |i+1,hi,x,hx=>by
  have ih:=onTo_mem (t:=t) (cuts:=cuts) (k:=k) (i:=i) (by omega)
  rw [onTo_succ] at hx
  split at hx
  · rcases uq4.1 hx with h|h
    · exact ih x h
    · simp only [List.mem_singleton] at h
      subst h
      rw [uq1,uq2 (by omega)]
      exact uq3 _
  · exact ih x hx
def lockAt (m:MkM) (t cuts:List (List Int)) (k:Nat):List (List Int):=hull m (onTo t cuts k cuts.length) m.chambers.toNat
theorem lockAt_len (m:MkM) (t cuts:List (List Int)) (k:Nat):(lockAt m t cuts k).length=m.chambers.toNat:=hull_len _ _ _
theorem lockAt_sets (m:MkM) (t cuts:List (List Int)) (k:Nat):∀x∈lockAt m t cuts k,x.length≤m.depths.toNat:=hull_sets _ _ _
def locksTo (m:MkM) (t cuts:List (List Int)) (n:Nat):List (List (List Int)):=(List.range n).map (lockAt m t cuts)
theorem locksTo_zero (m:MkM) (t cuts:List (List Int)):locksTo m t cuts 0=[]:=rfl
theorem locksTo_succ (m:MkM) (t cuts:List (List Int)) (n:Nat):locksTo m t cuts (n+1)=locksTo m t cuts n++[lockAt m t cuts n]:=by simp [locksTo,uq6]
theorem locksTo_len (m:MkM) (t cuts:List (List Int)) (n:Nat):(locksTo m t cuts n).length=n:=by simp [locksTo]
theorem locksTo_get (m:MkM) (t cuts:List (List Int)) {n k:Nat} (h:k<n):(locksTo m t cuts n)[k]? =some (lockAt m t cuts k):=by simp [locksTo,h]
def opensL (l:List (List Int)) (c:List Int):Bool:=(List.range c.length).all fun i=>has (l.getD i []) (c.getD i 0)
def fpTo (m:MkM) (t cuts:List (List Int)) (i:Nat):Nat→List (List Int)
 |0=>[]
 |k+1=>if (((t.getD i []).getD k 0==0)&&opensL (lockAt m t cuts k) (cuts.getD i []))=true then fpTo m t cuts i k++[[(i:Int),(k:Int)]] else fpTo m t cuts i k
theorem fpTo_zero (m:MkM) (t cuts:List (List Int)) (i:Nat):fpTo m t cuts i 0=[]:=rfl
theorem fpTo_succ (m:MkM) (t cuts:List (List Int)) (i k:Nat):fpTo m t cuts i (k+1)=if (((t.getD i []).getD k 0==0)&&opensL (lockAt m t cuts k) (cuts.getD i []))=true then fpTo m t cuts i k++[[(i:Int),(k:Int)]] else fpTo m t cuts i k:=rfl
theorem fpTo_len (m:MkM) (t cuts:List (List Int)) (i:Nat):∀k,(fpTo m t cuts i k).length≤k
 |0=>uq10 _
 |k+1=>by
  have:=fpTo_len m t cuts i k
  rw [fpTo_succ];split
  · simp;omega
  · omega
def fprTo (m:MkM) (t cuts:List (List Int)):Nat→List (List Int)
 |0=>[]
 |i+1=>fprTo m t cuts i++fpTo m t cuts i (t.getD 0 []).length
theorem fprTo_zero (m:MkM) (t cuts:List (List Int)):fprTo m t cuts 0=[]:=rfl
theorem fprTo_succ (m:MkM) (t cuts:List (List Int)) (i:Nat):fprTo m t cuts (i+1)=fprTo m t cuts i++fpTo m t cuts i (t.getD 0 []).length:=rfl
theorem fprTo_len (m:MkM) (t cuts:List (List Int)):∀i,(fprTo m t cuts i).length≤i*(t.getD 0 []).length
 |0=>Nat.zero_le _
 |i+1=>by
  have:=fprTo_len m t cuts i
  have:=fpTo_len m t cuts i (t.getD 0 []).length
  rw [fprTo_succ,List.length_append,Nat.succ_mul];omega
def falses (m:MkM) (t cuts:List (List Int)):List (List Int):=fprTo m t cuts cuts.length
def isCutsOf (m:MkM) (t cuts:List (List Int)):Bool:=(cuts.length==t.length)&&cuts.all (key1 m)
def cutsC (m:MkM) (t cuts:List (List Int)):Int:=if isSy m t then (if isCutsOf m t cuts then 0 else 2) else 1
def isDes (m:MkM) (t cuts:List (List Int)):Bool:=isSy m t&&isCutsOf m t cuts&&(falses m t cuts).isEmpty
end Go.Vc
namespace Go.Vc
open Go.Proofs
abbrev eLks (ls:List (List (List Int))):AV:=.arr ⟨1,true⟩ (ls.map eLk)
theorem take_map_all {α β:Type} (f:α→β) (l:List α) (n:Nat) (h:l.length≤n):(l.map f).take n=l.map f:=uq9 (by simpa using h)
theorem c_l04Hull (m:MkM) (keys:List (List Int)) (hm:isMk m=true) (h0:keys.length≤1048576) (hk3:∀k∈keys,(k.length:Int)=m.chambers):
 Fn Tryz.prog 88 [eMk m,eIss keys] false (· =eLk (hull m keys m.chambers.toNat)):=by
 have ⟨⟨n1,n2⟩,n3,n4⟩:=isMk_num hm
 refine Fn.of_vcS 54 [.cell 4 83] Tryz.func88 rfl rfl rfl rfl rfl (of_decide_eq_true rfl) ?_
 simp -dsimp -implicitDefEqProofs only [go_sem]
 refine Later.up [1,2,4] [18,27,46,47,50,51] [11] m.chambers.toNat (fun _=>True) (fun i=>[(6,eI i),(5,.ref 11 0 0 i)]) (fun i=>[(11,.row 0 ⟨1,false⟩ (i==0) ((hull m keys i).map eIs))]) trivial ?_ rfl (fun i hi _=> ?_) (fun _=> ?_)
 · simp -dsimp -implicitDefEqProofs only [go_sem,hull_zero]
 · have hlt:decide ((i:Int)<m.chambers)=true:=decide_eq_true (by omega)
   have hhl:=hull_len m keys i
   rw [hull_succ]
   unfold hullSet
   generalize hull m keys i=H at*
   simp -dsimp -implicitDefEqProofs only [pz,Nat.reduceBEq,Nat.reduceDiv,Nat.reduceAdd,↓reduceIte,Nat.reduceEqDiff]
   simp -dsimp -implicitDefEqProofs only [go_sem,hlt]
   refine Later.up [1,2,4,5,6] [27,46,47] [18] m.depths.toNat (fun _=>True) (fun d=>[(8,eI d),(7,.ref 18 0 0 (flt (hullAt keys i) d).length)]) (fun d=>[(18,.row 0 ⟨1,false⟩ true ((flt (hullAt keys i) d).map eI))]) trivial ?_ rfl (fun d hd _=> ?_) (fun _=> ?_)
   · simp -dsimp -implicitDefEqProofs only [go_sem,flt_zero]
   · have hltd:decide ((d:Int)<m.depths)=true:=decide_eq_true (by omega)
     have hfl:=flt_len (hullAt keys i) d
     rw [flt_succ]
     have hany:hullAt keys i d=(keys.take keys.length).any fun x=>x.getD i 0==(d:Int):=by rw [uq8];rfl
     rw [hany]
     clear hany
     generalize flt (hullAt keys i) d=F at*
     simp -dsimp -implicitDefEqProofs only [pz,Nat.reduceBEq,Nat.reduceDiv,Nat.reduceAdd,↓reduceIte,Nat.reduceEqDiff]
     simp -dsimp -implicitDefEqProofs only [go_sem,hltd]
     refine Later.up [1,2,4,5,6,7,8] [27] [] keys.length (fun _=>True) (fun k=>[(10,eI k),(9,eB ((keys.take k).any fun x=>x.getD i 0==(d:Int)))]) (fun _=>[]) trivial ?_ rfl (fun k hk' _=> ?_) (fun _=> ?_)
     · simp -dsimp -implicitDefEqProofs only [go_sem]
       exact rfl
     · have hkl:i<keys[k].length:=by have:=hk3 _ (uq3 hk');omega
       have gk:=get_some hk'
       have gi:=get_some hkl
       have hgd:keys[k].getD i 0=keys[k][i]:=by simp [uq1,hkl]
       rw [any_take _ _ _ hk',hgd]
       have lk:=lt_len hk'
       generalize keys[k]=x at*
       generalize x[i]=z at*
       generalize ((keys.take k).any fun x=>x.getD i 0==(d:Int))=b at*
       simp -dsimp -implicitDefEqProofs only [pz,Nat.reduceBEq,Nat.reduceDiv,Nat.reduceAdd,↓reduceIte,Nat.reduceEqDiff]
       cases b<;>simp -dsimp -implicitDefEqProofs only [go_sem,lk,gk,gi]
       · exact ⟨⟨by omega,by omega⟩,⟨by omega,by omega⟩,⟨by omega,by omega⟩,rfl⟩
       · exact ⟨⟨by omega,by omega⟩,rfl⟩
     · generalize ((keys.take keys.length).any fun x=>x.getD i 0==(d:Int))=b at*
       simp -dsimp -implicitDefEqProofs only [pz,Nat.reduceBEq,Nat.reduceDiv,Nat.reduceAdd,↓reduceIte,Nat.reduceEqDiff]
       cases b<;>simp -dsimp -implicitDefEqProofs only [go_sem,nlt_len]
       · exact ⟨⟨by omega,by omega⟩,rfl⟩
       · exact ⟨by omega,⟨by omega,by omega⟩,rfl,by simp⟩
   · have hltd:decide (((m.depths.toNat:Nat):Int)<m.depths)=false:=decide_eq_false (by omega)
     have hfl:=flt_len (hullAt keys i) m.depths.toNat
     generalize flt (hullAt keys i) m.depths.toNat=F at*
     have htk:List.take F.length (List.map eI F)=List.map eI F:=uq9 (by simp)
     have htk2:List.take i (List.map eIs H)=List.map eIs H:=uq9 (by simp;omega)
     have e2:List.map eIs (H++[F])=List.map eIs H++[eIs F]:=by simp
     have e0:(i+1==0)=false:=rfl
     simp -dsimp -implicitDefEqProofs only [pz,Nat.reduceBEq,Nat.reduceDiv,Nat.reduceAdd,↓reduceIte,Nat.reduceEqDiff]
     simp -dsimp -implicitDefEqProofs only [go_sem,hltd]
     refine .inr ⟨by omega,by omega,(by cases i with|zero=>exact .inr rfl|succ i=>exact .inl rfl),⟨by omega,by omega⟩,rfl,?_⟩
     rw [e0,e2]
     simp -dsimp -implicitDefEqProofs only [go_sem,htk,htk2]
 · have hlt:decide (((m.chambers.toNat:Nat):Int)<m.chambers)=false:=decide_eq_false (by omega)
   have hhl:=hull_len m keys m.chambers.toNat
   generalize hull m keys m.chambers.toNat=H at*
   have htk:=take_map_all eIs H m.chambers.toNat (by omega)
   simp -dsimp -implicitDefEqProofs only [pz,Nat.reduceBEq,Nat.reduceDiv,Nat.reduceAdd,↓reduceIte,Nat.reduceEqDiff]
   simp -dsimp -implicitDefEqProofs only [go_sem,hlt]
   ((repeat' (with_reducible refine ai ?_ ?_));all_goals try (first|omega|(refine ⟨?_,?_⟩<;>omega)|(exact rfl)))
   all_goals rw [htk]
theorem c_l15Lock (m:MkM) (t cuts:List (List Int)) (k:Nat) (hm:isMk m=true) (h0:cuts.length≤1048576) (h1:cuts.length≤t.length) (hk:∀i (hi:i<t.length),k<t[i].length) (hc:∀x∈cuts,(x.length:Int)=m.chambers):
 Fn Tryz.prog 56 [eSy m t,eIss cuts,eI k] false (· =eLk (lockAt m t cuts k)):=by
 refine Fn.of_vcS 36 [.cell 6 83] Tryz.func56 rfl rfl rfl rfl rfl (of_decide_eq_true rfl) ?_
 simp -dsimp -implicitDefEqProofs only [go_sem]
 refine Later.up [1,2,3,6] [12,30,31] [9] cuts.length (fun _=>True) (fun i=>[(8,eI i),(7,.ref 9 0 0 (onTo t cuts k i).length)]) (fun i=>[(9,.row 0 ⟨1,false⟩ (onTo t cuts k i).isEmpty ((onTo t cuts k i).map eIs))]) trivial ?_ rfl (fun i hi _=> ?_) (fun _=> ?_)
 · simp -dsimp -implicitDefEqProofs only [go_sem,onTo_zero,List.isEmpty_nil]
 · have hit:i<t.length:=by omega
   have hki:=hk i hit
   have gi:=get_some hit
   have gk:=get_some hki
   have gc:=get_some hi
   have li:=lt_len hi
   have hp:(t.getD i []).getD k 0=t[i][k]:=by simp [uq1,hit,hki]
   have hcd:cuts.getD i []=cuts[i]:=by simp [uq1,hi]
   have hon:=onTo_len t cuts k i
   rw [onTo_succ,hp,hcd]
   generalize onTo t cuts k i=F at*
   generalize t[i][k]=z at*
   generalize cuts[i]=c at*
   have htk:=take_map_all eIs F F.length (uq10 _)
   have e2:List.map eIs (F++[c])=List.map eIs F++[eIs c]:=by simp
   have e0:(F++[c]).isEmpty=false:=by simp
   have e1:(F++[c]).length=F.length+1:=by simp
   simp -dsimp -implicitDefEqProofs only [pz,Nat.reduceBEq,Nat.reduceDiv,Nat.reduceAdd,↓reduceIte,Nat.reduceEqDiff]
   rcases hz:(z==1) with _|_
   · simp -dsimp -implicitDefEqProofs only [go_sem,li,gi,gk,hz]
     ((repeat' (with_reducible refine ai ?_ ?_));all_goals try (first|omega|(refine ⟨?_,?_⟩<;>omega)|(exact rfl)))
     all_goals trace_state
   · simp only [if_true]
     simp -dsimp -implicitDefEqProofs only [go_sem,li,gi,gk,gc,hz]
     ((repeat' (with_reducible refine ai ?_ ?_));all_goals try (first|omega|(refine ⟨?_,?_⟩<;>omega)|(exact rfl)))
     refine .inr ⟨by omega,(by cases F with|nil=>exact .inr rfl|cons=>exact .inl rfl),⟨by omega,by omega⟩,?_⟩
     rw [e0,e2]
     simp -dsimp -implicitDefEqProofs only [go_sem,htk]
     exact rfl
 · have hon:=onTo_len t cuts k cuts.length
   have hmm:∀x∈onTo t cuts k cuts.length,(x.length:Int)=m.chambers:=fun x hx=>hc x (onTo_mem (uq10 _) x hx)
   have hq:=c_l04Hull m (onTo t cuts k cuts.length) hm (by omega) hmm
   unfold lockAt
   generalize onTo t cuts k cuts.length=F at*
   have htk:=take_map_all eIs F F.length (uq10 _)
   simp -dsimp -implicitDefEqProofs only [pz,Nat.reduceBEq,Nat.reduceDiv,Nat.reduceAdd,↓reduceIte,Nat.reduceEqDiff]
   simp -dsimp -implicitDefEqProofs only [go_sem,nlt_len]
   refine sCallT_frz 9 0 ⟨1,false⟩ F.isEmpty (List.map eIs F) hq (by decide) ?_ ?_ fun r hr=> ?_
   · simp -dsimp -implicitDefEqProofs only [go_sem]
   · refine frzOk_no ?_ rfl ?_
     · simp -dsimp -implicitDefEqProofs only [go_sem]
     · have h:=frzOk_ref (l:=9) (v:=0) (sh:=⟨1,false⟩) (ys:=List.map eIs F) (xs:=[]) (r:=[]) 0 F.length (by simp) trivial
       rw [List.drop_zero,htk] at h
       exact h
   · subst hr
     simp -dsimp -implicitDefEqProofs only [go_sem]
     all_goals first|exact rfl|skip
theorem c_l15Locks (m:MkM) (t cuts:List (List Int)) (hm:isMk m=true) (h0:cuts.length≤1048576) (h1:cuts.length≤t.length) (h2:0<t.length) (hk:∀i (hi:i<t.length),t[i].length=(t.getD 0 []).length) (hd:(t.getD 0 []).length≤1048576) (hc:∀x∈cuts,(x.length:Int)=m.chambers):
 Fn Tryz.prog 136 [eSy m t,eIss cuts] false (· =eLks (locksTo m t cuts (t.getD 0 []).length)):=by
 refine Fn.of_vcS 25 [.tmp 4] Tryz.func136 rfl rfl rfl rfl rfl (of_decide_eq_true rfl) ?_
 have g0:=get_some h2
 have hg:t.getD 0 []=t[0]:=by simp [uq1,h2]
 rw [hg] at hk hd ⊢
 simp -dsimp -implicitDefEqProofs only [go_sem]
 refine Later.up [1,2] [13,21,22,23] [7] t[0].length (fun _=>True) (fun i=>[(6,eI i),(5,.ref 7 0 0 i)]) (fun i=>[(7,.row 0 ⟨1,true⟩ (i==0) ((locksTo m t cuts i).map eLk))]) trivial ?_ rfl (fun i hi _=> ?_) (fun _=> ?_)
 · simp -dsimp -implicitDefEqProofs only [go_sem,locksTo_zero]
 · have hq:=c_l15Lock m t cuts i hm h0 h1 (fun j hj=>by rw [hk j hj];exact hi) hc
   have hll:=locksTo_len m t cuts i
   have li:=lt_len hi
   rw [locksTo_succ]
   generalize locksTo m t cuts i=F at*
   generalize lockAt m t cuts i=L at*
   have htk:=take_map_all eLk F i (by omega)
   have e0:(i+1==0)=false:=rfl
   have e2:List.map eLk (F++[L])=List.map eLk F++[eLk L]:=by simp
   simp -dsimp -implicitDefEqProofs only [pz,Nat.reduceBEq,Nat.reduceDiv,Nat.reduceAdd,↓reduceIte,Nat.reduceEqDiff]
   simp -dsimp -implicitDefEqProofs only [go_sem,g0,li]
   refine ⟨by omega,?_⟩
   (refine sCallS_one (hq) (by simp [noLabs,labs,labsL,isClo]) ?_)
   simp -dsimp -implicitDefEqProofs only [go_sem]
   refine .inr ⟨by omega,by omega,(by cases i with|zero=>exact .inr rfl|succ i=>exact .inl rfl),⟨by omega,by omega⟩,rfl,?_⟩
   rw [e0,e2]
   simp -dsimp -implicitDefEqProofs only [go_sem,htk]
 · have hll:=locksTo_len m t cuts t[0].length
   generalize locksTo m t cuts t[0].length=F at*
   have htk:=take_map_all eLk F t[0].length (by omega)
   simp -dsimp -implicitDefEqProofs only [pz,Nat.reduceBEq,Nat.reduceDiv,Nat.reduceAdd,↓reduceIte,Nat.reduceEqDiff]
   simp -dsimp -implicitDefEqProofs only [go_sem,g0,nlt_len]
   ((repeat' (with_reducible refine ai ?_ ?_));all_goals try (first|omega|(refine ⟨?_,?_⟩<;>omega)|(exact rfl)))
   all_goals rw [htk]
theorem c_l04Opens (l:List (List Int)) (c:List Int) (h0:c.length≤l.length) (h1:l.length≤1048576) (h2:∀x∈l,x.length≤1048576):Fn Tryz.prog 137 [eLk l,eIs c] true (· =eB (opensL l c)):=by
 refine Fn.of_vcN 23 [.tmp 4] Tryz.func137 rfl rfl rfl rfl rfl (of_decide_eq_true rfl) ?_
 simp -dsimp -implicitDefEqProofs only [go_sem]
 refine Later.up [1,2] [8,21] [] c.length (fun i=>((List.range i).all fun i=>has (l.getD i []) (c.getD i 0))=true) (fun i=>[(5,eI i)]) (fun _=>[]) rfl ?_ rfl (fun i hi hI=> ?_) (fun hI=> ?_)
 · simp -dsimp -implicitDefEqProofs only [go_sem]
 · have gi:=get_some (show i<l.length by omega)
   have gc:=get_some hi
   have li:=lt_len hi
   have hp:has (l.getD i []) (c.getD i 0)=has l[i] c[i]:=by simp [uq1,hi,show i<l.length by omega]
   have hq:=c_l01Has l[i] c[i] (h2 _ (uq3 _))
   have no:has l[i] c[i]=false→opensL l c=false:=fun h=>range_all_no hi (by rw [hp];exact h)
   have yes:has l[i] c[i]=true→((List.range (i+1)).all fun i=>has (l.getD i []) (c.getD i 0))=true:=fun h=>by rw [range_all_succ,hI,hp,h];rfl
   clear hp hI
   generalize l[i]=x at*
   generalize c[i]=z at*
   simp -dsimp -implicitDefEqProofs only [pz,Nat.reduceBEq,Nat.reduceDiv,Nat.reduceAdd,↓reduceIte,Nat.reduceEqDiff]
   simp -dsimp -implicitDefEqProofs only [go_sem,gi,gc,li]
   ((repeat' (with_reducible refine ai ?_ ?_));all_goals try (first|omega|(refine ⟨?_,?_⟩<;>omega)|(exact rfl)))
   refine Later.draw mixed rfl ?_
   simp -dsimp -implicitDefEqProofs only [go_sem,gi,gc,li]
   ((repeat' (with_reducible refine ai ?_ ?_));all_goals try (first|omega|(refine ⟨?_,?_⟩<;>omega)|(exact rfl)))
   refine sCallX_one hq ?_
   simp -dsimp -implicitDefEqProofs only [go_sem]
   refine ⟨by exact rfl,?_⟩
   rcases hb:has x z with _|_
   · rw [no hb]
     simp -dsimp -implicitDefEqProofs only [go_sem]
   · simp -dsimp -implicitDefEqProofs only [go_sem]
     refine ⟨⟨by omega,by omega⟩,?_,rfl⟩
     rw [←uq6]
     exact yes hb
 · simp -dsimp -implicitDefEqProofs only [pz,Nat.reduceBEq,Nat.reduceDiv,Nat.reduceAdd,↓reduceIte,Nat.reduceEqDiff]
   simp -dsimp -implicitDefEqProofs only [go_sem,nlt_len]
   rw [show opensL l c=true from hI]
theorem c_l15False (m:MkM) (t cuts:List (List Int)) (hm:isMk m=true) (h0:cuts.length≤1000) (h1:cuts.length≤t.length) (h2:0<t.length) (hk:∀i (hi:i<t.length),t[i].length=(t.getD 0 []).length) (hd:(t.getD 0 []).length≤1000) (hc:∀x∈cuts,(x.length:Int)=m.chambers):
 Fn Tryz.prog 115 [eSy m t,eIss cuts] false (· =eIss (falses m t cuts)):=by
 have ⟨⟨n1,n2⟩,n3,n4⟩:=isMk_num hm
 refine Fn.of_vcS 52 [.tmp 4] Tryz.func115 rfl rfl rfl rfl rfl (of_decide_eq_true rfl) ?_
 have hq:=c_l15Locks m t cuts hm (by omega) h1 h2 hk (by omega) hc
 simp -dsimp -implicitDefEqProofs only [go_sem]
 (refine sCallS_one (hq) (by simp [noLabs,labs,labsL,isClo]) ?_)
 clear hq
 simp -dsimp -implicitDefEqProofs only [go_sem]
 have hll:=locksTo_len m t cuts (t.getD 0 []).length
 refine Later.up [1,2,5] [15,21,43,48,49,50] [12] cuts.length (fun _=>True) (fun i=>[(7,eI i),(6,.ref 12 0 0 (fprTo m t cuts i).length)]) (fun i=>[(12,.row 0 ⟨1,false⟩ (fprTo m t cuts i).isEmpty ((fprTo m t cuts i).map eIs))]) trivial ?_ rfl (fun i hi _=> ?_) (fun _=> ?_)
 · simp -dsimp -implicitDefEqProofs only [go_sem,fprTo_zero,List.isEmpty_nil]
 · have hfl:=fprTo_len m t cuts i
   have li:=lt_len hi
   have hmul:i*(t.getD 0 []).length≤1000*1000:=Nat.mul_le_mul (by omega) hd
   rw [fprTo_succ]
   generalize fprTo m t cuts i=H at*
   simp -dsimp -implicitDefEqProofs only [pz,Nat.reduceBEq,Nat.reduceDiv,Nat.reduceAdd,↓reduceIte,Nat.reduceEqDiff]
   simp -dsimp -implicitDefEqProofs only [go_sem,li]
   refine Later.up [1,2,5,7] [21,43,48,49,50] [12] (t.getD 0 []).length (fun _=>True) (fun k=>[(8,eI k),(6,.ref 12 0 0 (H++fpTo m t cuts i k).length)]) (fun k=>[(12,.row 0 ⟨1,false⟩ (H++fpTo m t cuts i k).isEmpty ((H++fpTo m t cuts i k).map eIs))]) trivial ?_ rfl (fun k hk' _=> ?_) (fun _=> ?_)
   · simp -dsimp -implicitDefEqProofs only [go_sem,fpTo_zero,List.append_nil]
   · have hit:i<t.length:=by omega
     have hki:k<t[i].length:=by rw [hk i hit];exact hk'
     have gi:=get_some hit
     have gk:=get_some hki
     have gc:=get_some hi
     have gl:=locksTo_get m t cuts hk'
     have hp:(t.getD i []).getD k 0=t[i][k]:=by simp [uq1,hit,hki]
     have hcd:cuts.getD i []=cuts[i]:=by simp [uq1,hi]
     have hfk:=fpTo_len m t cuts i k
     have hL:=lockAt_len m t cuts k
     have hcl:=hc _ (uq3 hi)
     have hop:=c_l04Opens (lockAt m t cuts k) cuts[i] (by omega) (by omega) (fun x hx=>by have:=lockAt_sets m t cuts k x hx;omega)
     rw [fpTo_succ,hp,hcd]
     generalize fpTo m t cuts i k=F at*
     generalize lockAt m t cuts k=L at*
     generalize locksTo m t cuts (t.getD 0 []).length=LS at*
     have lk:decide ((k:Int)<(LS.length:Int))=true:=decide_eq_true (by omega)
     generalize t[i][k]=z at*
     generalize cuts[i]=c at*
     generalize hopb:opensL L c=ob at*
     have hG:(H++F).length≤1001000:=by rw [List.length_append];omega
     have e9:∀x:List Int,H++(F++[x])=(H++F)++[x]:=fun x=>by simp
     simp only [e9,apply_ite (fun l=>H++l)]
     generalize H++F=G at*
     have htk:=take_map_all eIs G G.length (uq10 _)
     have e0:(G++[[(i:Int),(k:Int)]]).isEmpty=false:=by simp
     have e1:(G++[[(i:Int),(k:Int)]]).length=G.length+1:=by simp
     have e2:List.map eIs (G++[[(i:Int),(k:Int)]])=List.map eIs G++[eIs [(i:Int),(k:Int)]]:=by simp
     simp -dsimp -implicitDefEqProofs only [pz,Nat.reduceBEq,Nat.reduceDiv,Nat.reduceAdd,↓reduceIte,Nat.reduceEqDiff]
     rcases hz:(z==0) with _|_
     · simp -dsimp -implicitDefEqProofs only [go_sem,gi,gk,li,lk,hz]
       refine Later.draw mixed rfl ?_
       simp -dsimp -implicitDefEqProofs only [go_sem,gi,gk,li,lk,hz]
       ((repeat' (with_reducible refine ai ?_ ?_));all_goals try (first|omega|(refine ⟨?_,?_⟩<;>omega)|(exact rfl)))
       all_goals trace_state
     · simp -dsimp -implicitDefEqProofs only [go_sem,gi,gk,gc,gl,li,lk,hz]
       refine Later.draw mixed rfl ?_
       simp -dsimp -implicitDefEqProofs only [go_sem,gi,gk,gc,gl,li,lk,hz]
       ((repeat' (with_reducible refine ai ?_ ?_));all_goals try (first|omega|(refine ⟨?_,?_⟩<;>omega)|(exact rfl)))
       refine sCallX_one hop ?_
       cases ob with
       |false=>
        simp -dsimp -implicitDefEqProofs only [go_sem]
        ((repeat' (with_reducible refine ai ?_ ?_));all_goals try (first|omega|(refine ⟨?_,?_⟩<;>omega)|(exact rfl)))
        all_goals trace_state
       |true=>
        simp -dsimp -implicitDefEqProofs only [go_sem]
        refine ⟨by exact rfl,?_⟩
        refine .inr ⟨by omega,(by cases G with|nil=>exact .inr rfl|cons=>exact .inl rfl),⟨by omega,by omega⟩,rfl,?_⟩
        rw [e0,e2]
        simp -dsimp -implicitDefEqProofs only [go_sem,htk]
        all_goals first|exact rfl|skip
   · simp -dsimp -implicitDefEqProofs only [pz,Nat.reduceBEq,Nat.reduceDiv,Nat.reduceAdd,↓reduceIte,Nat.reduceEqDiff]
     simp -dsimp -implicitDefEqProofs only [go_sem,hll,nlt_len]
     ((repeat' (with_reducible refine ai ?_ ?_));all_goals try (first|omega|(refine ⟨?_,?_⟩<;>omega)|(exact rfl)))
     all_goals trace_state
 · have hfl:=fprTo_len m t cuts cuts.length
   unfold falses
   generalize fprTo m t cuts cuts.length=F at*
   have htk:=take_map_all eIs F F.length (uq10 _)
   simp -dsimp -implicitDefEqProofs only [pz,Nat.reduceBEq,Nat.reduceDiv,Nat.reduceAdd,↓reduceIte,Nat.reduceEqDiff]
   simp -dsimp -implicitDefEqProofs only [go_sem,nlt_len]
   ((repeat' (with_reducible refine ai ?_ ?_));all_goals try (first|omega|(refine ⟨?_,?_⟩<;>omega)|(exact rfl)))
   all_goals rw [htk]
end Go.Vc
namespace Go.Vc
open Go.Proofs
def openP (m:MkM) (t cuts:List (List Int)):Bool:=((falses m t cuts).length:Int)==0
def candTo (m:MkM) (t cuts:List (List Int)) (i:Nat):List (List Int):=((allK m).take i).filter fun k=>openP m t (cuts++[k])
def candL (m:MkM) (t cuts:List (List Int)) (n:Nat):List (List Int):=((allK m).filter fun k=>openP m t (cuts++[k])).take n
theorem candTo_succ (m:MkM) (t cuts:List (List Int)) {i:Nat} {k:List Int} (h:(allK m)[i]? =some k):candTo m t cuts (i+1)=if openP m t (cuts++[k])=true then candTo m t cuts i++[k] else candTo m t cuts i:=by
 obtain ⟨hi,e⟩:=List.getElem?_eq_some_iff.1 h
 unfold candTo
 rw [List.take_succ_eq_append_getElem hi,List.filter_append,e,List.filter_cons]
 split<;>simp
theorem candTo_app (m:MkM) (t cuts:List (List Int)) (i:Nat):((allK m).filter fun k=>openP m t (cuts++[k]))=candTo m t cuts i++((allK m).drop i).filter fun k=>openP m t (cuts++[k]):=by
 unfold candTo
 rw [←List.filter_append,List.take_append_drop]
theorem candL_full {m:MkM} {t cuts:List (List Int)} {i n:Nat} (h:(candTo m t cuts i).length=n):candL m t cuts n=candTo m t cuts i:=by
 unfold candL
 rw [candTo_app m t cuts i,←h,List.take_left]
theorem candL_end {m:MkM} {t cuts:List (List Int)} {n:Nat} (h:(candTo m t cuts (allK m).length).length≤n):candL m t cuts n=candTo m t cuts (allK m).length:=by
 unfold candL
 rw [candTo_app m t cuts (allK m).length,List.drop_length,List.filter_nil,List.append_nil,uq9 h]
theorem candL_mem {m:MkM} {t cuts:List (List Int)} {n:Nat} {k:List Int} (h:k∈candL m t cuts n):k∈allK m:=(List.mem_filter.1 (List.mem_of_mem_take h)).1
theorem candL_len (m:MkM) (t cuts:List (List Int)) (n:Nat):(candL m t cuts n).length≤n:=by
 unfold candL
 rw [List.length_take];omega
def keyV (o:Option (List Int)):AV:=match o with
 |some k=>eIs k
 |none=>.val (.slice none 0 0)
theorem keyV_some (k:List Int):keyV (some k)=eIs k:=rfl
theorem keyV_none:keyV none= .val (.slice none 0 0):=rfl
theorem optR_eq (o:Option (List Int)):optR o= .tup [keyV o,eB o.isSome]:=by cases o<;>rfl
theorem next_all {m:MkM} (hm:0≤m.chambers) {i:Nat} {k:List Int} (h:(allK m)[i]? =some k):nextTo m k k.length=(allK m)[i+1]? :=by
 obtain ⟨hi,e⟩:=List.getElem?_eq_some_iff.1 h
 have hs:allK m=(allK m).take i++k::(allK m).drop (i+1):=by
  rw [←e,←List.drop_eq_getElem_cons hi,List.take_append_drop]
 rw [nextTo_all hm hs,List.head?_drop]
structure SS where
 tries:Nat
 stop:Bool
 found:List (List (List Int))
def goF (m:MkM) (t:List (List Int)) (lim:Nat) (part:List (List Int)) (rec:List (List Int)→SS→Bool × SS):List (List Int)→SS→Bool × SS
 | [],z=>(false,z)
 |k::ks,z=>
  if ((z.tries:Int)==(lim:Int))=true then (true,⟨z.tries,true,z.found⟩)
  else if openP m t (part++[k])=true then
   (if (rec (part++[k]) ⟨z.tries+1,z.stop,z.found⟩).1=true then (true,(rec (part++[k]) ⟨z.tries+1,z.stop,z.found⟩).2)
   else goF m t lim part rec ks (rec (part++[k]) ⟨z.tries+1,z.stop,z.found⟩).2)
  else goF m t lim part rec ks ⟨z.tries+1,z.stop,z.found⟩
def fromF (m:MkM) (t:List (List Int)) (lim:Nat):Nat→List (List Int)→SS→Bool × SS
 |0,part,z=>(true,⟨z.tries,z.stop,[part]⟩)
 |d+1,part,z=>goF m t lim part (fromF m t lim d) (allK m) z
structure SSok (m:MkM) (lim n:Nat) (b:Bool) (z:SS):Prop where
 tr:z.tries≤lim
 no:b=false→z.found=[]
 one:z.found.length≤1
 fl:∀f∈z.found,f.length=n∧∀k∈f,k∈allK m
theorem goF_ok {m:MkM} {t:List (List Int)} {lim n:Nat} {part:List (List Int)} {rec:List (List Int)→SS→Bool × SS} (hp:∀k∈part,k∈allK m)
 (hr:∀k z,k∈allK m→z.tries≤lim→z.found=[]→SSok m lim n (rec (part++[k]) z).1 (rec (part++[k]) z).2):
 ∀(ks:List (List Int)) (z:SS),(∀k∈ks,k∈allK m)→z.tries≤lim→z.found=[]→SSok m lim n (goF m t lim part rec ks z).1 (goF m t lim part rec ks z).2
 | [],z,_,h1,h2=>⟨h1,fun _=>h2,by rw [goF,h2];simp,fun f hf=>by rw [goF,h2] at hf;cases hf⟩
 |k::ks,z,hk,h1,h2=>by
  have hk1:=hk k (List.mem_cons_self ..)
  have hk2:∀k∈ks,k∈allK m:=fun x hx=>hk x (List.mem_cons_of_mem _ hx)
  unfold goF
  split
  · exact ⟨h1,fun h=>(by cases h),by simp [h2],fun f hf=>by simp [h2] at hf⟩
  · rename_i hne
    have hne:z.tries≠lim:=fun e=>hne (by rw [e];simp)
    split
    · have:=hr k ⟨z.tries+1,z.stop,z.found⟩ hk1 (by simp only;omega) h2
      split
      · rename_i hb
        rw [hb] at this
        exact ⟨this.tr,fun h=>(by cases h),this.one,this.fl⟩
      · rename_i hb
        exact goF_ok hp hr ks _ hk2 this.tr (this.no (by simpa using hb))
    · exact goF_ok hp hr ks _ hk2 (by simp only;omega) h2
theorem fromF_ok {m:MkM} {t:List (List Int)} {lim:Nat}:∀(d:Nat) (part:List (List Int)) (z:SS),(∀k∈part,k∈allK m)→z.tries≤lim→z.found=[]→SSok m lim (part.length+d) (fromF m t lim d part z).1 (fromF m t lim d part z).2
 |0,part,z,hp,h1,h2=>⟨h1,fun h=>(by cases h),by simp [fromF],fun f hf=>by
   simp only [fromF,List.mem_singleton] at hf;subst hf;exact ⟨rfl,hp⟩⟩
 |d+1,part,z,hp,h1,h2=>by
  refine goF_ok hp (fun k z hk h1 h2=> ?_) (allK m) z (fun _ h=>h) h1 h2
  have:=fromF_ok d (part++[k]) z (t:=t) (fun x hx=>by
   rcases uq4.1 hx with hx|hx
   · exact hp x hx
   · simp at hx;subst hx;exact hk) h1 h2
  rw [List.length_append,List.length_singleton] at this
  rw [show part.length+(d+1)=part.length+1+d by omega]
  exact this
end Go.Vc
namespace Go.Vc
open Go.Proofs
theorem c_l16With (cuts:List (List Int)) (key:List Int) (h:cuts.length≤1000):Fn Tryz.prog 126 [eIss cuts,eIs key] false (· =eIss (cuts++[key])):=by
 refine Fn.of_vcS 11 [.tmp 4] Tryz.func126 rfl rfl rfl rfl rfl (of_decide_eq_true rfl) ?_
 have tc:(cuts.map eIs).take cuts.length=cuts.map eIs:=uq9 (by simp)
 cases cuts with
 |nil=>
  simp -dsimp -implicitDefEqProofs only [go_sem]
  ((repeat' (with_reducible refine ai ?_ ?_));all_goals try (first|omega|(refine ⟨?_,?_⟩<;>omega)|(exact rfl)))
  all_goals first|(refine .inr ⟨by omega,?_⟩;simp [eIs];done)|(simp [eIs];done)|skip
 |cons c r=>
  have hf:isFlatL ((c::r).map eIs)=false:=rfl
  generalize c::r=cuts at*
  simp -dsimp -implicitDefEqProofs only [go_sem,hf,tc]
  ((repeat' (with_reducible refine ai ?_ ?_));all_goals try (first|omega|(refine ⟨?_,?_⟩<;>omega)|(exact rfl)))
  all_goals first|(refine .inr ⟨by omega,?_⟩;rw [uq9 (by simp)];simp [eIs];done)|(simp [eIs];done)|skip
theorem c_l16Open (m:MkM) (t cuts:List (List Int)) (hm:isMk m=true) (h0:cuts.length≤1000) (h1:cuts.length≤t.length) (h2:0<t.length) (hk:∀i (hi:i<t.length),t[i].length=(t.getD 0 []).length) (hd:(t.getD 0 []).length≤1000) (hc:∀x∈cuts,(x.length:Int)=m.chambers):
 Fn Tryz.prog 125 [eSy m t,eIss cuts] true (· =eB (openP m t cuts)):=by
 have hq:=c_l15False m t cuts hm h0 h1 h2 hk hd hc
 refine Fn.of_vcN 10 [.tmp 4] Tryz.func125 rfl rfl rfl rfl rfl (of_decide_eq_true rfl) ?_
 unfold openP
 generalize falses m t cuts=F at*
 simp -dsimp -implicitDefEqProofs only [go_sem]
 (refine sCallS_one (hq) (by simp [noLabs,labs,labsL,isClo]) ?_)
 simp -dsimp -implicitDefEqProofs only [go_sem]
 ((repeat' (with_reducible refine ai ?_ ?_));all_goals try (first|omega|(refine ⟨?_,?_⟩<;>omega)|(exact rfl)))
 all_goals first|(simp;done)|skip
theorem c_l01OwnS (xs:List Int) (h:xs.length≤1048576):Fn Tryz.prog 72 [eIs xs] false (· =eIs xs):=by
 refine Fn.of_vcS 6 [.tmp 2] Tryz.func72 rfl rfl rfl rfl rfl (of_decide_eq_true rfl) ?_
 simp -dsimp -implicitDefEqProofs only [go_sem]
 ((repeat' (with_reducible refine ai ?_ ?_));all_goals try (first|omega|(refine ⟨?_,?_⟩<;>omega)|(exact rfl)))
 all_goals first|(simp;done)|skip
theorem c_l15Lists (t:List (List Int)) (h:t.length≤1000) (h2:∀x∈t,x.length≤1048576):Fn Tryz.prog 143 [eIss t] false (· =eIss t):=by
 refine Fn.of_vcS 21 [.tmp 2] Tryz.func143 rfl rfl rfl rfl rfl (of_decide_eq_true rfl) ?_
 simp -dsimp -implicitDefEqProofs only [go_sem]
 refine Later.up [0] [8,17,18,19] [5] t.length (fun _=>True) (fun i=>[(4,eI i),(3,.ref 5 0 0 i)]) (fun i=>[(5,.row 0 ⟨1,false⟩ (i==0) ((t.take i).map eIs))]) trivial ?_ rfl (fun i hi _=> ?_) (fun _=> ?_)
 · simp -dsimp -implicitDefEqProofs only [go_sem]
   ((repeat' (with_reducible refine ai ?_ ?_));all_goals try (first|omega|(refine ⟨?_,?_⟩<;>omega)|(exact rfl)))
   all_goals first|(simp;done)|skip
 · have gi:=get_some hi
   have li:=lt_len hi
   have ho:=c_l01OwnS t[i] (h2 _ (uq3 hi))
   have e2:(t.take (i+1)).map eIs=(t.take i).map eIs++[eIs t[i]]:=by rw [List.take_succ_eq_append_getElem hi,List.map_append];rfl
   have hln:(t.take i).length=i:=by simp;omega
   have e0:(i+1==0)=false:=rfl
   rw [e0,e2]
   clear e0 e2
   generalize t.take i=F at*
   generalize t[i]=x at*
   have tF:(F.map eIs).take i=F.map eIs:=uq9 (by simp;omega)
   simp -dsimp -implicitDefEqProofs only [pz,Nat.reduceBEq,Nat.reduceDiv,Nat.reduceAdd,↓reduceIte,Nat.reduceEqDiff]
   simp -dsimp -implicitDefEqProofs only [go_sem,gi,li]
   ((repeat' (with_reducible refine ai ?_ ?_));all_goals try (first|omega|(refine ⟨?_,?_⟩<;>omega)|(exact rfl)))
   (refine sCallS_one (ho) (by simp [noLabs,labs,labsL,isClo]) ?_)
   simp -dsimp -implicitDefEqProofs only [go_sem]
   refine .inr ⟨by omega,by omega,(by cases i with|zero=>exact .inr rfl|succ i=>exact .inl rfl),⟨by omega,by omega⟩,?_⟩
   simp -dsimp -implicitDefEqProofs only [go_sem,tF]
   ((repeat' (with_reducible refine ai ?_ ?_));all_goals try (first|omega|(refine ⟨?_,?_⟩<;>omega)|(exact rfl)))
   all_goals first|(simp;done)|skip
 · have tt:(t.map eIs).take t.length=t.map eIs:=uq9 (by simp)
   rw [uq8]
   simp -dsimp -implicitDefEqProofs only [pz,Nat.reduceBEq,Nat.reduceDiv,Nat.reduceAdd,↓reduceIte,Nat.reduceEqDiff]
   simp -dsimp -implicitDefEqProofs only [go_sem,nlt_len]
   ((repeat' (with_reducible refine ai ?_ ?_));all_goals try (first|omega|(refine ⟨?_,?_⟩<;>omega)|(exact rfl)))
   all_goals first|(rw [tt];done)|(simp;done)|skip
end Go.Vc
