import Derived.Test.YthdheoafaakbbaaGreatPkLawNormalOrdersF
set_option linter.unusedVariables false
set_option linter.unusedSimpArgs false
set_option linter.unnecessarySimpa false
set_option maxRecDepth 1000000
set_option maxHeartbeats 16000000
namespace Go.Vc
open Go.Proofs
def mkM3 (D:Nat) (Z:List Int):Nat→Mem
 |0=>[(31,.box 0 [.val (.slice none 0 0),.val (.slice none 0 0),.val (.slice none 0 0)])]
 |1=>[(31,.box 0 [.ref 900001 0 0 D,.val (.slice none 0 0),.val (.slice none 0 0)]),(900001,.row 0 ⟨1,false⟩ true (Z.map eI))]
 |2=>[(31,.box 0 [.ref 900001 0 0 D,.ref 900002 0 0 D,.val (.slice none 0 0)]),(900001,.row 0 ⟨1,false⟩ true (Z.map eI)),(900002,.row 0 ⟨1,false⟩ true (Z.map eI))]
 |_=>[(31,.box 0 [.ref 900001 0 0 D,.ref 900002 0 0 D,.ref 900003 0 0 D]),(900001,.row 0 ⟨1,false⟩ true (Z.map eI)),(900002,.row 0 ⟨1,false⟩ true (Z.map eI)),(900003,.row 0 ⟨1,false⟩ true (Z.map eI))]
theorem mkM3_0 (D:Nat) (Z:List Int):mkM3 D Z 0=[(31,.box 0 [.val (.slice none 0 0),.val (.slice none 0 0),.val (.slice none 0 0)])]:=rfl
theorem mkM3_1 (D:Nat) (Z:List Int):mkM3 D Z 1=[(31,.box 0 [.ref 900001 0 0 D,.val (.slice none 0 0),.val (.slice none 0 0)]),(900001,.row 0 ⟨1,false⟩ true (Z.map eI))]:=rfl
theorem mkM3_2 (D:Nat) (Z:List Int):mkM3 D Z 2=[(31,.box 0 [.ref 900001 0 0 D,.ref 900002 0 0 D,.val (.slice none 0 0)]),(900001,.row 0 ⟨1,false⟩ true (Z.map eI)),(900002,.row 0 ⟨1,false⟩ true (Z.map eI))]:=rfl
theorem mkM3_3 (D:Nat) (Z:List Int):mkM3 D Z 3=[(31,.box 0 [.ref 900001 0 0 D,.ref 900002 0 0 D,.ref 900003 0 0 D]),(900001,.row 0 ⟨1,false⟩ true (Z.map eI)),(900002,.row 0 ⟨1,false⟩ true (Z.map eI)),(900003,.row 0 ⟨1,false⟩ true (Z.map eI))]:=rfl
def adM3 (b w d b' w' d':List Int):Nat→Mem
 |0=>[(900001,.row 0 ⟨1,false⟩ true (b.map eI)),(900002,.row 0 ⟨1,false⟩ true (w.map eI)),(900003,.row 0 ⟨1,false⟩ true (d.map eI))]
 |1=>[(900001,.row 0 ⟨1,false⟩ true (b'.map eI)),(900002,.row 0 ⟨1,false⟩ true (w.map eI)),(900003,.row 0 ⟨1,false⟩ true (d.map eI))]
 |2=>[(900001,.row 0 ⟨1,false⟩ true (b'.map eI)),(900002,.row 0 ⟨1,false⟩ true (w'.map eI)),(900003,.row 0 ⟨1,false⟩ true (d.map eI))]
 |_=>[(900001,.row 0 ⟨1,false⟩ true (b'.map eI)),(900002,.row 0 ⟨1,false⟩ true (w'.map eI)),(900003,.row 0 ⟨1,false⟩ true (d'.map eI))]
theorem adM3_0 (b w d b' w' d':List Int):adM3 b w d b' w' d' 0=[(900001,.row 0 ⟨1,false⟩ true (b.map eI)),(900002,.row 0 ⟨1,false⟩ true (w.map eI)),(900003,.row 0 ⟨1,false⟩ true (d.map eI))]:=rfl
theorem adM3_1 (b w d b' w' d':List Int):adM3 b w d b' w' d' 1=[(900001,.row 0 ⟨1,false⟩ true (b'.map eI)),(900002,.row 0 ⟨1,false⟩ true (w.map eI)),(900003,.row 0 ⟨1,false⟩ true (d.map eI))]:=rfl
theorem adM3_2 (b w d b' w' d':List Int):adM3 b w d b' w' d' 2=[(900001,.row 0 ⟨1,false⟩ true (b'.map eI)),(900002,.row 0 ⟨1,false⟩ true (w'.map eI)),(900003,.row 0 ⟨1,false⟩ true (d.map eI))]:=rfl
theorem adM3_3 (b w d b' w' d':List Int):adM3 b w d b' w' d' 3=[(900001,.row 0 ⟨1,false⟩ true (b'.map eI)),(900002,.row 0 ⟨1,false⟩ true (w'.map eI)),(900003,.row 0 ⟨1,false⟩ true (d'.map eI))]:=rfl
theorem d03:decide ((0:Int)<((3:Nat):Int))=true:=rfl
theorem d13:decide (((1:Nat):Int)<((3:Nat):Int))=true:=rfl
theorem d23:decide (((2:Nat):Int)<((3:Nat):Int))=true:=rfl
theorem d33:decide (((3:Nat):Int)<((3:Nat):Int))=false:=rfl
theorem t1n:(((1:Nat):Int)).toNat=1:=rfl
theorem t2n:(((2:Nat):Int)).toNat=2:=rfl
theorem c_iOrderStock (m:MkM) (t cuts:List (List Int)) (os:List ItM) (h:t.length≤1048576) (h2:∀x∈t,x.length≤1048576) (h3:cuts.length≤1048576) (h4:∀x∈cuts,x.length≤1048576) (h5:os.length≤1048576):Fn Tryz.prog 25 [eSy m t,eIss cuts,eIts os] true (· =stockR m t cuts os):=by
 refine Fn.of_vcN 113 [.tmp 6,.tmp 7,.tmp 8,.tmp 9] Tryz.func25 rfl rfl rfl rfl rfl (of_decide_eq_true rfl) ?_
 have hq:=c_designOrderCode m t cuts os h h2 h3 h4 h5
 unfold stockR
 rcases hb:(isDes m t cuts&&isOrd t os) with _|_
 · have hne:stockCode m t cuts os≠0:=by
    unfold stockCode
    cases h6:isDes m t cuts<;>cases h7:isOrd t os<;>simp_all
   rw [if_neg hne]
   have hne':(stockCode m t cuts os != 0)=true:=by simp [hne]
   generalize stockCode m t cuts os=c at*
   simp -dsimp -implicitDefEqProofs only [go_sem]
   refine sCallT_one hq ?_
   simp -dsimp -implicitDefEqProofs only [go_sem,hne']
   ((repeat' (with_reducible refine ai ?_ ?_));all_goals try (first|omega|(refine ⟨?_,?_⟩<;>omega)|(exact rfl)))
 obtain ⟨hd,ho⟩:=Bool.and_eq_true_iff.1 hb
 have h0:stockCode m t cuts os=0:=by rw [stockCode,if_pos hd,if_pos ho]
 rw [if_pos h0]
 rw [h0] at hq
 obtain ⟨hs,hc⟩:=isDes_out hd
 have hmk:=isSy_mk hs
 have ⟨⟨n1,n2⟩,n3,n4⟩:=isMk_num hmk
 obtain ⟨k1,k2,k3,k4,k5⟩:=isSy_num hs
 obtain ⟨c1,c2⟩:=isCutsOf_out hc
 obtain ⟨o1,o2⟩:=isOrd_out ho
 have hok:=fun i (hi:i≤os.length)=>osTo_ok hs hc ho i hi
 have hlocks:=c_partLocks m t cuts hmk (by omega) (by omega) (by omega) (fun i hi=>k5 i hi) (by omega) (fun x hx=>key1_out (c2 x hx))
 have hLS:=locksTo_len m t cuts (t.getD 0 []).length
 have hLg:=fun k (hk:k<(t.getD 0 []).length)=>locksTo_get m t cuts hk
 generalize locksTo m t cuts (t.getD 0 []).length=LS at*
 simp -dsimp -implicitDefEqProofs only [go_sem]
 refine sCallT_one hq ?_
 simp -dsimp -implicitDefEqProofs only [go_sem]
 refine Later.draw mixed rfl ?_
 simp -dsimp -implicitDefEqProofs only [go_sem]
 ((repeat' (with_reducible refine ai ?_ ?_));all_goals try (first|omega|(refine ⟨?_,?_⟩<;>omega)|(exact rfl)))
 refine sCallXS_one hlocks (by simp [noLabs,labs,labsL,isClo]) ?_
 clear hlocks hq
 simp -dsimp -implicitDefEqProofs only [go_sem]
 ((repeat' (with_reducible refine ai ?_ ?_));all_goals try (first|omega|(refine ⟨?_,?_⟩<;>omega)|(exact rfl)))
 refine Later.boxed 31 0 _ rfl (by simp) (by simp [isFlat]) ?_
 refine Later.upR [2,3,11,12,36] [45] [31,900001,900002,900003] 3 (fun _=>True) (fun i=>[(37,eI i)]) (fun i=>mkM3 m.depths.toNat (List.replicate m.depths.toNat 0) i) trivial (.here ?_) rfl (fun i hi _=> ?_) (fun _=> ?_)
 · simp -dsimp -implicitDefEqProofs only [go_sem,mkM3_0]
 · have hc3:i=0∨i=1∨i=2:=by omega
   rcases hc3 with rfl|rfl|rfl
   · rw [mkM3_0,mkM3_1]
     simp -dsimp -implicitDefEqProofs only [pz,Nat.reduceBEq,Nat.reduceDiv,Nat.reduceAdd,↓reduceIte,Nat.reduceEqDiff]
     simp -dsimp -implicitDefEqProofs only [go_sem,d03,d13,d23,t1n,t2n]
     ((repeat' (with_reducible refine ai ?_ ?_));all_goals try (first|omega|(refine ⟨?_,?_⟩<;>omega)|(exact rfl)))
     all_goals first
      |(refine RefR.one 45 900001 (by decide) (by decide) ?_
        simp -dsimp -implicitDefEqProofs only [go_sem,List.map_replicate]
        ((repeat' (with_reducible refine ai ?_ ?_));all_goals try (first|omega|(refine ⟨?_,?_⟩<;>omega)|(exact rfl))))
      |skip
   · rw [mkM3_1,mkM3_2]
     simp -dsimp -implicitDefEqProofs only [pz,Nat.reduceBEq,Nat.reduceDiv,Nat.reduceAdd,↓reduceIte,Nat.reduceEqDiff]
     simp -dsimp -implicitDefEqProofs only [go_sem,d03,d13,d23,t1n,t2n]
     ((repeat' (with_reducible refine ai ?_ ?_));all_goals try (first|omega|(refine ⟨?_,?_⟩<;>omega)|(exact rfl)))
     all_goals first
      |(refine RefR.one 45 900002 (by decide) (by decide) ?_
        simp -dsimp -implicitDefEqProofs only [go_sem,List.map_replicate]
        ((repeat' (with_reducible refine ai ?_ ?_));all_goals try (first|omega|(refine ⟨?_,?_⟩<;>omega)|(exact rfl))))
      |skip
   · rw [mkM3_2,mkM3_3]
     simp -dsimp -implicitDefEqProofs only [pz,Nat.reduceBEq,Nat.reduceDiv,Nat.reduceAdd,↓reduceIte,Nat.reduceEqDiff]
     simp -dsimp -implicitDefEqProofs only [go_sem,d03,d13,d23,t1n,t2n]
     ((repeat' (with_reducible refine ai ?_ ?_));all_goals try (first|omega|(refine ⟨?_,?_⟩<;>omega)|(exact rfl)))
     all_goals first
      |(refine RefR.one 45 900003 (by decide) (by decide) ?_
        simp -dsimp -implicitDefEqProofs only [go_sem,List.map_replicate]
        ((repeat' (with_reducible refine ai ?_ ?_));all_goals try (first|omega|(refine ⟨?_,?_⟩<;>omega)|(exact rfl))))
      |skip
 · rw [mkM3_3]
   simp -dsimp -implicitDefEqProofs only [pz,Nat.reduceBEq,Nat.reduceDiv,Nat.reduceAdd,↓reduceIte,Nat.reduceEqDiff]
   simp -dsimp -implicitDefEqProofs only [go_sem,d33]
   refine Later.up [3,11,12,48,49] [15,66,74,75,82] [900001,900002,900003] os.length (fun _=>True) (fun i=>[(50,eI i)]) (fun i=>[(900001,.row 0 ⟨1,false⟩ true ((osTo m t cuts os i).b.map eI)),(900002,.row 0 ⟨1,false⟩ true ((osTo m t cuts os i).w.map eI)),(900003,.row 0 ⟨1,false⟩ true ((osTo m t cuts os i).d.map eI))]) trivial ?_ rfl (fun i hi _=> ?_) (fun _=> ?_)
   · simp -dsimp -implicitDefEqProofs only [go_sem,osTo_zero,zero3]
     ((repeat' (with_reducible refine ai ?_ ?_));all_goals try (first|omega|(refine ⟨?_,?_⟩<;>omega)|(exact rfl)))
   · have gi:=get_some hi
     have li:=lt_len hi
     have oi:=o2 i hi
     have e:os.getD i default=os[i]:=by simp [List.getD_eq_getElem?_getD,hi]
     have hz:=hok i (by omega)
     rw [osTo_succ,e]
     clear e
     generalize osTo m t cuts os i=z at*
     generalize os[i]=x at*
     obtain ⟨xk,xi,xc⟩:=x
     unfold osStep
     simp only at oi ⊢
     cases xk with
     |true=>
      simp only [if_true]
      simp -dsimp -implicitDefEqProofs only [pz,Nat.reduceBEq,Nat.reduceDiv,Nat.reduceAdd,↓reduceIte,Nat.reduceEqDiff]
      simp -dsimp -implicitDefEqProofs only [go_sem,gi,li]
      ((repeat' (with_reducible refine ai ?_ ?_));all_goals try (first|omega|(refine ⟨?_,?_⟩<;>omega)|(exact rfl)))
      all_goals trace_state
     |false=>
      simp only [Bool.false_eq_true,if_false] at oi ⊢
      obtain ⟨a1,a2,a3,a4⟩:=oi
      have hil:xi.toNat<(t.getD 0 []).length:=by omega
      have hl:=lock_ok hs hc hil
      have hll:∀y∈lockAt m t cuts xi.toNat,y.length≤1048576:=fun y hy=>by have:=lockAt_sets m t cuts _ y hy;omega
      have gl:=hLg _ hil
      have hsl:List.take ((xi+1).toNat-xi.toNat) (List.drop xi.toNat (List.map eLk LS))=[eLk (lockAt m t cuts xi.toNat)]:=by
       rw [show (xi+1).toNat-xi.toNat=1 by omega]
       have h1:xi.toNat<(List.map eLk LS).length:=by simp;omega
       rw [List.drop_eq_getElem_cons h1]
       have h2:LS[xi.toNat]'(by omega)=lockAt m t cuts xi.toNat:=by
        have:=List.getElem?_eq_getElem (show xi.toNat<LS.length by omega)
        rw [this] at gl;exact Option.some.inj gl
       simp [h2]
      have hstk:=c_iStockOf m (lockAt m t cuts xi.toNat) hmk hl hll
      have hst:=stockL_ok hl hmk hll
      generalize lockAt m t cuts xi.toNat=L at*
      generalize stockL m L=q at*
      obtain ⟨qb,qw,qd⟩:=q
      obtain ⟨zb,zw,zd⟩:=z
      obtain ⟨⟨s1,s1'⟩,⟨s2,s2'⟩,⟨s3,s3'⟩⟩:=hst
      have hst:okS m.depths.toNat 7000000 qb∧okS m.depths.toNat 7000000 qw∧okS m.depths.toNat 7000000 qd:=⟨⟨s1,s1'⟩,⟨s2,s2'⟩,⟨s3,s3'⟩⟩
      obtain ⟨z1,z2,z3⟩:=hz
      simp only at s1 s2 s3 z1 z2 z3 hstk ⊢
      unfold add3
      simp only
      simp -dsimp -implicitDefEqProofs only [pz,Nat.reduceBEq,Nat.reduceDiv,Nat.reduceAdd,↓reduceIte,Nat.reduceEqDiff]
      simp -dsimp -implicitDefEqProofs only [go_sem,gi,li]
      ((repeat' (with_reducible refine ai ?_ ?_));all_goals try (first|omega|(refine ⟨?_,?_⟩<;>omega)|(exact rfl)))
      refine Later.draw mixed rfl ?_
      simp -dsimp -implicitDefEqProofs only [go_sem,hsl]
      ((repeat' (with_reducible refine ai ?_ ?_));all_goals try (first|omega|(refine ⟨?_,?_⟩<;>omega)|(exact rfl)))
      refine sCallX_one hstk ?_
      simp -dsimp -implicitDefEqProofs only [go_sem]
      ((repeat' (with_reducible refine ai ?_ ?_));all_goals try (first|omega|(refine ⟨?_,?_⟩<;>omega)|(exact rfl)))
      refine Later.up [3,11,12,15,48,49,50,74,75] [82] [900001,900002,900003,67000,67016,67032] 3 (fun _=>True) (fun j=>[(76,eI j)]) (fun j=>adM3 zb zw zd (addM zb qb xc m.depths.toNat) (addM zw qw xc m.depths.toNat) (addM zd qd xc m.depths.toNat) j) trivial ?_ rfl (fun j hj _=> ?_) (fun _=> ?_)
      · simp -dsimp -implicitDefEqProofs only [go_sem,adM3_0]
        ((repeat' (with_reducible refine ai ?_ ?_));all_goals try (first|omega|(refine ⟨?_,?_⟩<;>omega)|(exact rfl)))
      · have hc3:j=0∨j=1∨j=2:=by omega
        rcases hc3 with rfl|rfl|rfl
        · rw [adM3_0,adM3_1]
          simp -dsimp -implicitDefEqProofs only [pz,Nat.reduceBEq,Nat.reduceDiv,Nat.reduceAdd,↓reduceIte,Nat.reduceEqDiff]
          simp -dsimp -implicitDefEqProofs only [go_sem,d03,d13,d23,t1n,t2n]
          ((repeat' (with_reducible refine ai ?_ ?_));all_goals try (first|omega|(refine ⟨?_,?_⟩<;>omega)|(exact rfl)))
          have lz:=z1.1
          have lq:=hst.1.1
          have tkq:=take_map_all eI qb m.depths.toNat (by omega)
          try rw [tkq]
          refine Later.up [3,11,12,15,20,48,49,50,74,75,76,81,82] [] [900001] m.depths.toNat (fun _=>True) (fun n=>[(83,eI n)]) (fun n=>[(900001,.row 0 ⟨1,false⟩ true ((addM zb qb xc n).map eI))]) trivial ?_ rfl (fun n hn' _=> ?_) (fun _=> ?_)
          · simp -dsimp -implicitDefEqProofs only [go_sem,addM_zero]
            ((repeat' (with_reducible refine ai ?_ ?_));all_goals try (first|omega|(refine ⟨?_,?_⟩<;>omega)|(exact rfl)))
            all_goals first|(rw [lq];done)|skip
          · have gz:=addM_at z1 qb xc hn'
            have gq:=hst.1.at hn'
            have bz:=z1.2 n hn'
            have mb:=mul_in ⟨show 0≤xc by omega,a4⟩ (hst.1.2 n hn')
            have lb:=addM_len zb qb xc n
            have hlt:decide ((n:Int)<(m.depths.toNat:Int))=true:=decide_eq_true (by omega)
            rw [addM_map]
            generalize zb.getD n 0=vb at*
            generalize qb.getD n 0=ub at*
            generalize addM zb qb xc n=Ab at*
            have hcm:ub*xc=xc*ub:=Int.mul_comm _ _
            generalize hmb:xc*ub=eb at*
            simp -dsimp -implicitDefEqProofs only [pz,Nat.reduceBEq,Nat.reduceDiv,Nat.reduceAdd,↓reduceIte,Nat.reduceEqDiff]
            simp -dsimp -implicitDefEqProofs only [go_sem,hlt,lq,gq]
            ((repeat' (with_reducible refine ai ?_ ?_));all_goals try (first|omega|(refine ⟨?_,?_⟩<;>omega)|(exact rfl)))
            refine Later.draw mixed rfl ?_
            simp -dsimp -implicitDefEqProofs only [go_sem,d03,d13,d23,t1n,t2n,gz,gq,hcm]
            ((repeat' (with_reducible refine ai ?_ ?_));all_goals try (first|omega|(refine ⟨?_,?_⟩<;>omega)|(exact rfl)))
            all_goals first|(rw [lq];done)|skip
          · have hlt:decide (((m.depths.toNat:Nat):Int)<(m.depths.toNat:Int))=false:=decide_eq_false (by omega)
            simp -dsimp -implicitDefEqProofs only [pz,Nat.reduceBEq,Nat.reduceDiv,Nat.reduceAdd,↓reduceIte,Nat.reduceEqDiff]
            simp -dsimp -implicitDefEqProofs only [go_sem,hlt,lq]
            ((repeat' (with_reducible refine ai ?_ ?_));all_goals try (first|omega|(refine ⟨?_,?_⟩<;>omega)|(exact rfl)))
            all_goals trace_state
        · rw [adM3_1,adM3_2]
          simp -dsimp -implicitDefEqProofs only [pz,Nat.reduceBEq,Nat.reduceDiv,Nat.reduceAdd,↓reduceIte,Nat.reduceEqDiff]
          simp -dsimp -implicitDefEqProofs only [go_sem,d03,d13,d23,t1n,t2n]
          ((repeat' (with_reducible refine ai ?_ ?_));all_goals try (first|omega|(refine ⟨?_,?_⟩<;>omega)|(exact rfl)))
          have lz:=z2.1
          have lq:=hst.2.1.1
          have tkq:=take_map_all eI qw m.depths.toNat (by omega)
          try rw [tkq]
          refine Later.up [3,11,12,15,20,48,49,50,74,75,76,81,82] [] [900002] m.depths.toNat (fun _=>True) (fun n=>[(83,eI n)]) (fun n=>[(900002,.row 0 ⟨1,false⟩ true ((addM zw qw xc n).map eI))]) trivial ?_ rfl (fun n hn' _=> ?_) (fun _=> ?_)
          · simp -dsimp -implicitDefEqProofs only [go_sem,addM_zero]
            ((repeat' (with_reducible refine ai ?_ ?_));all_goals try (first|omega|(refine ⟨?_,?_⟩<;>omega)|(exact rfl)))
            all_goals first|(rw [lq];done)|skip
          · have gz:=addM_at z2 qw xc hn'
            have gq:=hst.2.1.at hn'
            have bz:=z2.2 n hn'
            have mb:=mul_in ⟨show 0≤xc by omega,a4⟩ (hst.2.1.2 n hn')
            have lb:=addM_len zw qw xc n
            have hlt:decide ((n:Int)<(m.depths.toNat:Int))=true:=decide_eq_true (by omega)
            rw [addM_map]
            generalize zw.getD n 0=vb at*
            generalize qw.getD n 0=ub at*
            generalize addM zw qw xc n=Ab at*
            have hcm:ub*xc=xc*ub:=Int.mul_comm _ _
            generalize hmb:xc*ub=eb at*
            simp -dsimp -implicitDefEqProofs only [pz,Nat.reduceBEq,Nat.reduceDiv,Nat.reduceAdd,↓reduceIte,Nat.reduceEqDiff]
            simp -dsimp -implicitDefEqProofs only [go_sem,hlt,lq,gq]
            ((repeat' (with_reducible refine ai ?_ ?_));all_goals try (first|omega|(refine ⟨?_,?_⟩<;>omega)|(exact rfl)))
            refine Later.draw mixed rfl ?_
            simp -dsimp -implicitDefEqProofs only [go_sem,d03,d13,d23,t1n,t2n,gz,gq,hcm]
            ((repeat' (with_reducible refine ai ?_ ?_));all_goals try (first|omega|(refine ⟨?_,?_⟩<;>omega)|(exact rfl)))
            all_goals first|(rw [lq];done)|skip
          · have hlt:decide (((m.depths.toNat:Nat):Int)<(m.depths.toNat:Int))=false:=decide_eq_false (by omega)
            simp -dsimp -implicitDefEqProofs only [pz,Nat.reduceBEq,Nat.reduceDiv,Nat.reduceAdd,↓reduceIte,Nat.reduceEqDiff]
            simp -dsimp -implicitDefEqProofs only [go_sem,hlt,lq]
            ((repeat' (with_reducible refine ai ?_ ?_));all_goals try (first|omega|(refine ⟨?_,?_⟩<;>omega)|(exact rfl)))
            all_goals trace_state
        · rw [adM3_2,adM3_3]
          simp -dsimp -implicitDefEqProofs only [pz,Nat.reduceBEq,Nat.reduceDiv,Nat.reduceAdd,↓reduceIte,Nat.reduceEqDiff]
          simp -dsimp -implicitDefEqProofs only [go_sem,d03,d13,d23,t1n,t2n]
          ((repeat' (with_reducible refine ai ?_ ?_));all_goals try (first|omega|(refine ⟨?_,?_⟩<;>omega)|(exact rfl)))
          have lz:=z3.1
          have lq:=hst.2.2.1
          have tkq:=take_map_all eI qd m.depths.toNat (by omega)
          try rw [tkq]
          refine Later.up [3,11,12,15,20,48,49,50,74,75,76,81,82] [] [900003] m.depths.toNat (fun _=>True) (fun n=>[(83,eI n)]) (fun n=>[(900003,.row 0 ⟨1,false⟩ true ((addM zd qd xc n).map eI))]) trivial ?_ rfl (fun n hn' _=> ?_) (fun _=> ?_)
          · simp -dsimp -implicitDefEqProofs only [go_sem,addM_zero]
            ((repeat' (with_reducible refine ai ?_ ?_));all_goals try (first|omega|(refine ⟨?_,?_⟩<;>omega)|(exact rfl)))
            all_goals first|(rw [lq];done)|skip
          · have gz:=addM_at z3 qd xc hn'
            have gq:=hst.2.2.at hn'
            have bz:=z3.2 n hn'
            have mb:=mul_in ⟨show 0≤xc by omega,a4⟩ (hst.2.2.2 n hn')
            have lb:=addM_len zd qd xc n
            have hlt:decide ((n:Int)<(m.depths.toNat:Int))=true:=decide_eq_true (by omega)
            rw [addM_map]
            generalize zd.getD n 0=vb at*
            generalize qd.getD n 0=ub at*
            generalize addM zd qd xc n=Ab at*
            have hcm:ub*xc=xc*ub:=Int.mul_comm _ _
            generalize hmb:xc*ub=eb at*
            simp -dsimp -implicitDefEqProofs only [pz,Nat.reduceBEq,Nat.reduceDiv,Nat.reduceAdd,↓reduceIte,Nat.reduceEqDiff]
            simp -dsimp -implicitDefEqProofs only [go_sem,hlt,lq,gq]
            ((repeat' (with_reducible refine ai ?_ ?_));all_goals try (first|omega|(refine ⟨?_,?_⟩<;>omega)|(exact rfl)))
            refine Later.draw mixed rfl ?_
            simp -dsimp -implicitDefEqProofs only [go_sem,d03,d13,d23,t1n,t2n,gz,gq,hcm]
            ((repeat' (with_reducible refine ai ?_ ?_));all_goals try (first|omega|(refine ⟨?_,?_⟩<;>omega)|(exact rfl)))
            all_goals first|(rw [lq];done)|skip
          · have hlt:decide (((m.depths.toNat:Nat):Int)<(m.depths.toNat:Int))=false:=decide_eq_false (by omega)
            simp -dsimp -implicitDefEqProofs only [pz,Nat.reduceBEq,Nat.reduceDiv,Nat.reduceAdd,↓reduceIte,Nat.reduceEqDiff]
            simp -dsimp -implicitDefEqProofs only [go_sem,hlt,lq]
            ((repeat' (with_reducible refine ai ?_ ?_));all_goals try (first|omega|(refine ⟨?_,?_⟩<;>omega)|(exact rfl)))
            all_goals trace_state
      · rw [adM3_3]
        simp -dsimp -implicitDefEqProofs only [pz,Nat.reduceBEq,Nat.reduceDiv,Nat.reduceAdd,↓reduceIte,Nat.reduceEqDiff]
        simp -dsimp -implicitDefEqProofs only [go_sem,d33]
        ((repeat' (with_reducible refine ai ?_ ?_));all_goals try (first|omega|(refine ⟨?_,?_⟩<;>omega)|(exact rfl)))
        all_goals trace_state
   · have hz:=hok os.length (Nat.le_refl _)
     generalize osTo m t cuts os os.length=z at*
     obtain ⟨⟨l1,_⟩,⟨l2,_⟩,⟨l3,_⟩⟩:=hz
     have t1:=take_map_all eI z.b m.depths.toNat (by omega)
     have t2:=take_map_all eI z.w m.depths.toNat (by omega)
     have t3:=take_map_all eI z.d m.depths.toNat (by omega)
     simp -dsimp -implicitDefEqProofs only [pz,Nat.reduceBEq,Nat.reduceDiv,Nat.reduceAdd,↓reduceIte,Nat.reduceEqDiff]
     simp -dsimp -implicitDefEqProofs only [go_sem,nlt_len]
     refine Later.draw mixed rfl ?_
     simp -dsimp -implicitDefEqProofs only [go_sem]
     ((repeat' (with_reducible refine ai ?_ ?_));all_goals try (first|omega|(refine ⟨?_,?_⟩<;>omega)|(exact rfl)))
     all_goals first|(rw [t1];done)|(rw [t2];done)|(rw [t3];done)|(simp;done)|skip
end Go.Vc
namespace Go.Vc
open Go.Proofs
end Go.Vc
namespace Go.Vc
open Go.Proofs
theorem sum_len_le (n:Nat):∀xs:List (List Int),(∀x∈xs,x.length≤n)→(xs.map List.length).sum≤n*xs.length
 | [],_=>by simp
 |x::xs,h=>by
  have h1:=h x (List.mem_cons_self ..)
  have h2:=sum_len_le n xs fun y hy=>h y (List.mem_cons_of_mem _ hy)
  simp only [List.map_cons,List.sum_cons,List.length_cons,Nat.mul_add]
  omega
theorem keysR_form {m:MkM} {t cuts:List (List Int)} {os:List ItM}:∃(K:List (List Int)) (C:List Int) (c:Int),keysR m t cuts os= .tup [eIss K,eIs C,eI c]∧K.length≤16777216∧(∀x∈K,x.length≤8)∧(K.map List.length).sum≤1000000000∧C.length≤16777216:=by
 unfold keysR
 split
 · rename_i h
   have hd:isDes m t cuts=true:=by
    unfold stockCode at h
    split at h
    · rename_i h1;exact h1
    · cases h
   obtain ⟨hs,hc⟩:=isDes_out hd
   have hmk:=isSy_mk hs
   have ⟨⟨n1,n2⟩,n3,n4⟩:=isMk_num hmk
   have hl:=ordK_len hmk cuts os os.length
   have hx:∀x∈ordK m cuts os os.length,x.length≤8:=fun x hx=>by
    have:=ordK_mem (m:=m) (by omega) hx
    omega
   have hsum:=sum_len_le 8 _ hx
   exact ⟨_,_,_,rfl,hl,hx,by omega,by rw [ordC,List.length_map];exact hl⟩
 · exact ⟨[],[],_,rfl,by simp,by simp,by simp,by simp⟩
end Go.Vc
namespace Go.Vc
open Go.Proofs
theorem stockR_code (m:MkM) (t cuts:List (List Int)) (os:List ItM):∃(a b d:List Int),stockR m t cuts os= .tup [eIs a,eIs b,eIs d,eI (stockCode m t cuts os)]∧a.length≤1000000∧b.length≤1000000∧d.length≤1000000:=by
 unfold stockR
 split
 · rename_i h
   obtain ⟨h1,h2,_⟩:=stockCode_ord h
   obtain ⟨hs,hc⟩:=isDes_out h1
   have hn:=isMk_num (isSy_mk hs)
   obtain ⟨l1,l2,l3⟩:=osTo_lens m t cuts os os.length
   rw [h]
   exact ⟨_,_,_,rfl,by omega,by omega,by omega⟩
 · exact ⟨_,_,_,rfl,by simp,by simp,by simp⟩
theorem keysR_code (m:MkM) (t cuts:List (List Int)) (os:List ItM):∃(K:List (List Int)) (C:List Int),keysR m t cuts os= .tup [eIss K,eIs C,eI (stockCode m t cuts os)]∧K.length≤16777216∧(∀x∈K,x.length≤9223372036854775807)∧C.length≤16777216:=by
 obtain ⟨K,C,c,h,h1,h2,_,h3⟩:=keysR_form (m:=m) (t:=t) (cuts:=cuts) (os:=os)
 have hx:∀x∈K,x.length≤9223372036854775807:=fun x hx=>by have:=h2 x hx;omega
 have e:c=stockCode m t cuts os:=by
  unfold keysR at h
  split at h
  · rename_i h0
    simp only [AV.tup.injEq,List.cons.injEq,AV.val.injEq,Value.int.injEq,true_and,and_true] at h
    omega
  · simp only [AV.tup.injEq,List.cons.injEq,AV.val.injEq,Value.int.injEq,true_and,and_true] at h
    omega
 rw [e] at h
 exact ⟨K,C,h,h1,hx,h3⟩
theorem takeItem_len (m:MkM) (t:List (List Int)) (os:List ItM) (k:Int):(takeItem m t os k).1.length≤os.length:=by
 unfold takeItem
 split
 · split
   · unfold takeAt
     split
     · exact Nat.le_trans (List.length_eraseIdx_le ..) (Nat.le_refl _)
     · simp
   · simp
 · simp
set_option maxHeartbeats 16000000 in
theorem c_FnNormalOrders (bs:List UInt8) (h:bs.length≤9223372036854775807):Fn Tryz.prog 4 [eYs bs] true (· =eB true):=by
 refine Fn.of_vcN 226 [.tmp 2] Tryz.func4 rfl rfl rfl rfl rfl (of_decide_eq_true rfl) ?_
 simp -dsimp -implicitDefEqProofs only [go_sem]
 refine sCallT_one (c_big bs h) ?_
 rcases hb:decide ((bs.length:Int)>4096) with _|_
 rotate_left
 · simp -dsimp -implicitDefEqProofs only [go_sem,hb]
 have hl:bs.length≤4096:=by have:=of_decide_eq_false hb;omega
 have hlike:=fun (xs:List ItM) (hx:xs.length≤1000000)=>c_likeItemsE xs (by omega)
 have hints:=fun (xs:List Int) (hx:xs.length≤16777216)=>c_likeIntsE xs (by omega)
 simp -dsimp -implicitDefEqProofs only [go_sem,hb]
 refine sCallS_any2 (c_DrawOrderStock bs hl) (by simp [noLabs,labs,labsL,isClo]) ?_
 rintro _ ⟨m,t,cuts,os,t1,t2,t3,t4,t5,rfl⟩
 have hT:t.length≤1048576:=by omega
 have hR:∀x∈t,x.length≤1048576:=fun x hx=>by have:=t2 x hx;omega
 have hC:cuts.length≤1048576:=by omega
 have hD:∀x∈cuts,x.length≤1048576:=fun x hx=>by have:=t4 x hx;omega
 have a1:=c_iOrderStock m t cuts os hT hR hC hD (by omega)
 have a2:=c_sOrderStock m t cuts os hT hR hC hD (by omega)
 have k1:=c_iOrderKeys m t cuts os hT hR hC hD (by omega)
 have k2:=c_sOrderKeys m t cuts os hT hR hC hD (by omega)
 have n1:=c_iNormal m t os hT hR (by omega)
 have n2:=c_sNormal m t os hT hR (by omega)
 have n3:=normalO_22 m t os
 have a3:=c_iOrderStock m t cuts (normalO m t os).1 hT hR hC hD (by omega)
 have k3:=c_iOrderKeys m t cuts (normalO m t os).1 hT hR hC hD (by omega)
 have hn:=fun (e1:stockCode m t cuts os=0) (e2:(normalO m t os).2=0)=>stock_normal e1 e2
 obtain ⟨a,b,d,hr,la,lb,ld⟩:=stockR_code m t cuts os
 obtain ⟨K,C,hq,lK,lx,lC⟩:=keysR_code m t cuts os
 rw [hr] at a1 a2
 rw [hq] at k1 k2
 have hlists:=c_likeListsE K (by omega) lx
 generalize hc:stockCode m t cuts os=c at*
 generalize normalO m t os=A at*
 have e1:(c != c)=false:=by simp
 have e2:(A.2 != A.2)=false:=by simp
 simp -dsimp -implicitDefEqProofs only [go_sem]
 (refine sCallT_one (a1) ?_;simp -dsimp -implicitDefEqProofs only [go_sem])
 (refine sCallT_one (a2) ?_;simp -dsimp -implicitDefEqProofs only [go_sem])
 (refine sCallT_one (k1) ?_;simp -dsimp -implicitDefEqProofs only [go_sem])
 refine sCallS_one k2 (by simp [noLabs,labs,labsL,isClo]) ?_
 simp -dsimp -implicitDefEqProofs only [go_sem]
 (refine sCallT_one (n1) ?_;simp -dsimp -implicitDefEqProofs only [go_sem])
 (refine sCallT_one (n2) ?_;simp -dsimp -implicitDefEqProofs only [go_sem])
 refine sCallS_any2 (c_DrawTakeItem bs hl) (by simp [noLabs,labs,labsL,isClo]) ?_
 rintro _ ⟨m2,u,os2,i,u1,u2,u3,u4,u5,rfl⟩
 have hU:u.length≤1048576:=by omega
 have hU2:∀x∈u,x.length≤1048576:=fun x hx=>by have:=u2 x hx;omega
 have p1:=c_iTakeItem m2 u os2 hU hU2 (by omega) i
 have p2:=c_sTakeItem m2 u os2 hU hU2 (by omega) i
 have p3:=takeItem_len m2 u os2 i
 generalize takeItem m2 u os2 i=G at*
 have e3:(G.2 != G.2)=false:=by simp
 simp -dsimp -implicitDefEqProofs only [go_sem]
 (refine sCallT_one (p1) ?_;simp -dsimp -implicitDefEqProofs only [go_sem])
 refine sCallT_one (p2) ?_
 simp -dsimp -implicitDefEqProofs only [go_sem,e1]
 refine sCallT_one (hints a (by omega)) ?_
 simp -dsimp -implicitDefEqProofs only [go_sem]
 refine sCallT_one (hints b (by omega)) ?_
 simp -dsimp -implicitDefEqProofs only [go_sem]
 refine sCallT_one (hints d (by omega)) ?_
 simp -dsimp -implicitDefEqProofs only [go_sem,e1]
 refine sCallT_one hlists ?_
 simp -dsimp -implicitDefEqProofs only [go_sem]
 refine sCallT_one (hints C (by omega)) ?_
 simp -dsimp -implicitDefEqProofs only [go_sem,e2]
 refine sCallT_one (hlike A.1 (by omega)) ?_
 simp -dsimp -implicitDefEqProofs only [go_sem,e3]
 refine sCallT_one (hlike G.1 (by omega)) ?_
 simp -dsimp -implicitDefEqProofs only [go_sem]
 rcases h0:(c != 0) with _|_
 rotate_left
 · simp -dsimp -implicitDefEqProofs only [go_sem,h0]
 rcases h1:(A.2 != 0) with _|_
 rotate_left
 · simp -dsimp -implicitDefEqProofs only [go_sem,h0,h1]
 have z0:c=0:=by simpa using h0
 obtain ⟨g1,g2⟩:=hn z0 (by simpa using h1)
 rw [g1,hr] at a3
 rw [g2,hq] at k3
 subst z0
 simp -dsimp -implicitDefEqProofs only [go_sem,h0,h1]
 (refine sCallT_one (a3) ?_;simp -dsimp -implicitDefEqProofs only [go_sem])
 have zz:((0:Int)==0)=true:=rfl
 refine sCallT_one (k3) ?_
 simp -dsimp -implicitDefEqProofs only [go_sem,zz]
 refine sCallT_one (hints a (by omega)) ?_
 simp -dsimp -implicitDefEqProofs only [go_sem]
 refine sCallT_one (hints b (by omega)) ?_
 simp -dsimp -implicitDefEqProofs only [go_sem]
 refine sCallT_one (hints d (by omega)) ?_
 simp -dsimp -implicitDefEqProofs only [go_sem,zz]
 refine sCallT_one hlists ?_
 simp -dsimp -implicitDefEqProofs only [go_sem]
 refine sCallT_one (hints C (by omega)) ?_
 simp -dsimp -implicitDefEqProofs only [go_sem]
 ((repeat' (with_reducible refine ai ?_ ?_));all_goals try (first|omega|(refine ⟨?_,?_⟩<;>omega)|(exact rfl)))
 all_goals trace_state
end Go.Vc
