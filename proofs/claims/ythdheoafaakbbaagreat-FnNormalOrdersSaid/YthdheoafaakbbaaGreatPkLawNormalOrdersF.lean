import Derived.Test.YthdheoafaakbbaaGreatPkLawNormalOrdersE
set_option linter.unusedVariables false
set_option linter.unusedSimpArgs false
set_option linter.unnecessarySimpa false
set_option maxRecDepth 1000000
set_option maxHeartbeats 16000000
open Bool renaming and_eq_true→uq0
open List renaming all_eq_true→uq1,getD_eq_getElem?_getD→uq2,getElem?_eq_getElem→uq3,getElem_mem→uq4,length_map→uq5,mem_append→uq6,take_of_length_le→uq7,take_zero→uq8
open Nat renaming le_refl→uq9
open Option renaming isSome_none→uq10,isSome_some→uq11
namespace Go.Vc
open Go.Proofs
theorem c_l16WithM (v:Nat) (cuts:List (List Int)) (key:List Int) (h:cuts.length≤1000):FnMR Tryz.prog 126 [.row v ⟨1,false⟩ cuts.isEmpty (cuts.map eIs)] [.ref 1000000000 v 0 cuts.length,eIs key]
 (fun x io=>x=eIss (cuts++[key])∧io=[.row v ⟨1,false⟩ cuts.isEmpty (cuts.map eIs)]):=by
 refine FnMR.of_vc 11 [.tmp 4] Tryz.func126 rfl rfl rfl rfl rfl (of_decide_eq_true rfl) ?_
 have tc:(cuts.map eIs).take cuts.length=cuts.map eIs:=uq7 (by simp)
 cases cuts with
 |nil=>
  simp -dsimp -implicitDefEqProofs only [go_sem,List.isEmpty_nil,List.length_nil]
  exact .inr rfl
 |cons c r=>
  have he:(c::r).isEmpty=false:=rfl
  generalize c::r=cuts at*
  rw [he]
  simp -dsimp -implicitDefEqProofs only [go_sem,tc]
  refine .inr ⟨by omega,.inr ⟨by omega,?_⟩⟩
  rw [uq7 (by simp)]
  simp [eIs]
theorem c_l16CandidatesM (v:Nat) (m:MkM) (t cuts:List (List Int)) (n:Nat) (hm:isMk m=true) (hn:n≤1000) (h0:cuts.length≤999) (h1:cuts.length<t.length) (hk:∀i (hi:i<t.length),t[i].length=(t.getD 0 []).length) (hd:(t.getD 0 []).length≤1000) (hc:∀x∈cuts,(x.length:Int)=m.chambers):
 FnMR Tryz.prog 101 [.row v ⟨1,false⟩ cuts.isEmpty (cuts.map eIs)] [eSy m t,.ref 1000000000 v 0 cuts.length,eI n]
  (fun x io=>x=eIss (candL m t cuts n)∧io=[.row v ⟨1,false⟩ cuts.isEmpty (cuts.map eIs)]):=by
 have ⟨⟨n1,n2⟩,n3,n4⟩:=isMk_num hm
 refine FnMR.of_vc 41 [.tmp 6] Tryz.func101 rfl rfl rfl rfl rfl (of_decide_eq_true rfl) ?_
 obtain ⟨k0,hk0⟩:=firstK_some hm
 have hf:=(c_l02First m hm m.chambers.toNat [] (by simp;omega) (fun x hx=>by cases hx)).subs (args':=[eMk m,eNil]) (.cons (.refl _) (.cons (.nil _) .nil))
 unfold firstR at hf
 rw [hk0] at hf
 have hk1:(allK m)[0]? =some k0:=by rw [←List.head?_eq_getElem?,←firstK_all,hk0]
 have hf:Fn Tryz.prog 37 [eMk m,eNil] false (· = .tup [eIs k0,eB true]):=hf
 have hK:=fun k (hk:k∈allK m)=>allK_ok (m:=m) (by omega) hk
 simp -dsimp -implicitDefEqProofs only [go_sem]
 refine sCallS_one hf (by simp [noLabs,labs,labsL,isClo]) ?_
 simp -dsimp -implicitDefEqProofs only [go_sem]
 refine Later.up [1,2,3] [20,27,28,31,32,37] [10] (allK m).length (fun i=>(candTo m t cuts i).length≤n) (fun i=>[(9,eB ((allK m)[i]?).isSome),(8,keyV ((allK m)[i]?)),(7,.ref 10 0 0 (candTo m t cuts i).length)]) (fun i=>[(10,.row 0 ⟨1,false⟩ (candTo m t cuts i).isEmpty ((candTo m t cuts i).map eIs))]) (by simp [candTo]) ?_ rfl (fun i hi hI=> ?_) (fun hI=> ?_)
 · rw [hk1]
   simp -dsimp -implicitDefEqProofs only [go_sem,candTo,uq8,List.filter_nil,keyV_some,uq11,List.isEmpty_nil]
   ((repeat' (with_reducible refine ai ?_ ?_));all_goals try (first|omega|(refine ⟨?_,?_⟩<;>omega)|(exact rfl)))
   all_goals trace_state
 · have gi:=get_some hi
   have hki:=hK _ (uq4 hi)
   generalize (allK m)[i]=k at*
   have hs:=candTo_succ m t cuts gi
   have hfull:=@candL_full m t cuts i n
   have hnx:=c_l02Next m k hm hki.len hki.el
   rw [next_all (by omega) gi] at hnx
   have hw:=fun v=>c_l16WithM v cuts k (by omega)
   have ho:=c_l16Open m t (cuts++[k]) hm (by simp;omega) (by simp;omega) (by omega) hk hd (fun x hx=>by
    rcases uq6.1 hx with hx|hx
    · exact hc x hx
    · simp at hx;subst hx;exact hki.len)
   obtain ⟨b,hop⟩:∃b,openP m t (cuts++[k])=b:=⟨_,rfl⟩
   rw [hop] at hs ho
   have hE:∀C:List (List Int),C.isEmpty=false∨C.length=0:=fun C=>by cases C with|nil=>exact .inr rfl|cons=>exact .inl rfl
   have e2:=fun K:List (List Int)=>show (K++[k]).map eIs=K.map eIs++[eIs k] by simp
   have e3:=fun K:List (List Int)=>show (K++[k]).isEmpty=false by simp
   generalize candTo m t cuts i=C at*
   generalize candTo m t cuts (i+1)=C2 at*
   generalize candL m t cuts n=R at*
   rw [gi]
   generalize (allK m)[i+1]? =o at*
   rw [optR_eq] at hnx
   clear hK
   have tC:(C.map eIs).take C.length=C.map eIs:=uq7 (by simp)
   simp -dsimp -implicitDefEqProofs only [pz,Nat.reduceBEq,Nat.reduceDiv,Nat.reduceAdd,↓reduceIte,Nat.reduceEqDiff]
   cases hlt:decide ((C.length:Int)<(n:Int)) with
   |false=>
    have hlt':=of_decide_eq_false hlt
    rw [hfull (by omega)]
    simp -dsimp -implicitDefEqProofs only [go_sem,keyV_some,uq11,hlt]
    ((repeat' (with_reducible refine ai ?_ ?_));all_goals try (first|omega|(refine ⟨?_,?_⟩<;>omega)|(exact rfl)))
    all_goals first|(rw [tC];done)|(simp;done)|skip
   |true=>
    have hlt':=of_decide_eq_true hlt
    clear hfull
    simp -dsimp -implicitDefEqProofs only [go_sem,keyV_some,uq11,hlt]
    ((repeat' (with_reducible refine ai ?_ ?_));all_goals try (first|omega|(refine ⟨?_,?_⟩<;>omega)|(exact rfl)))
    refine Later.draw mixed rfl ?_
    simp -dsimp -implicitDefEqProofs only [go_sem]
    ((repeat' (with_reducible refine ai ?_ ?_));all_goals try (first|omega|(refine ⟨?_,?_⟩<;>omega)|(exact rfl)))
    refine sCallX_ioR [1000000000] rfl ?_
    simp -dsimp -implicitDefEqProofs only [go_sem]
    refine sCallMRX_one (hw _) ?_
    simp -dsimp -implicitDefEqProofs only [go_sem]
    ((repeat' (with_reducible refine ai ?_ ?_));all_goals try (first|omega|(refine ⟨?_,?_⟩<;>omega)|(exact rfl)))
    refine sCallX_one ho ?_
    cases b with
    |true=>
     rw [if_pos rfl] at hs
     subst hs
     simp -dsimp -implicitDefEqProofs only [go_sem]
     ((repeat' (with_reducible refine ai ?_ ?_));all_goals try (first|omega|(refine ⟨?_,?_⟩<;>omega)|(exact rfl)))
     refine .inr ⟨by omega,hE C,?_⟩
     rw [←e2]
     refine sCallS_one hnx (by simp [noLabs,labs,labsL,isClo]) ?_
     cases o with
     |some k2=>
      simp -dsimp -implicitDefEqProofs only [go_sem,keyV_some,uq11,e3,tC]
      ((repeat' (with_reducible refine ai ?_ ?_));all_goals try (first|omega|(refine ⟨?_,?_⟩<;>omega)|(exact rfl)))
      all_goals first|(simp;done)|(simp;omega)|skip
     |none=>
      simp -dsimp -implicitDefEqProofs only [go_sem,keyV_none,uq10,e3,tC]
      ((repeat' (with_reducible refine ai ?_ ?_));all_goals try (first|omega|(refine ⟨?_,?_⟩<;>omega)|(exact rfl)))
      all_goals first|(simp;done)|(simp;omega)|skip
    |false=>
     rw [if_neg (by simp)] at hs
     subst hs
     simp -dsimp -implicitDefEqProofs only [go_sem]
     ((repeat' (with_reducible refine ai ?_ ?_));all_goals try (first|omega|(refine ⟨?_,?_⟩<;>omega)|(exact rfl)))
     refine sCallS_one hnx (by simp [noLabs,labs,labsL,isClo]) ?_
     cases o with
     |some k2=>
      simp -dsimp -implicitDefEqProofs only [go_sem,keyV_some,uq11]
      ((repeat' (with_reducible refine ai ?_ ?_));all_goals try (first|omega|(refine ⟨?_,?_⟩<;>omega)|(exact rfl)))
      all_goals first|(simp;done)|skip
     |none=>
      simp -dsimp -implicitDefEqProofs only [go_sem,keyV_none,uq10]
      ((repeat' (with_reducible refine ai ?_ ?_));all_goals try (first|omega|(refine ⟨?_,?_⟩<;>omega)|(exact rfl)))
      all_goals first|(simp;done)|skip
 · have hend:=@candL_end m t cuts n hI
   rw [hend]
   generalize candTo m t cuts (allK m).length=C at*
   have tC:(C.map eIs).take C.length=C.map eIs:=uq7 (by simp)
   have gn:(allK m)[(allK m).length]? =none:=by simp
   rw [gn]
   simp -dsimp -implicitDefEqProofs only [pz,Nat.reduceBEq,Nat.reduceDiv,Nat.reduceAdd,↓reduceIte,Nat.reduceEqDiff]
   simp -dsimp -implicitDefEqProofs only [go_sem,keyV_none,uq10]
   ((repeat' (with_reducible refine ai ?_ ?_));all_goals try (first|omega|(refine ⟨?_,?_⟩<;>omega)|(exact rfl)))
   all_goals first|(rw [tC];done)|(simp;done)|skip
end Go.Vc
namespace Go.Vc
open Go.Proofs
def eF (fs:List (List (List Int))):AV:=match fs with
 | []=>.val (.slice none 0 0)
 |f::r=>.arr ⟨1,false⟩ (eIss f::r.map eIss)
theorem eF_nil:eF []= .val (.slice none 0 0):=rfl
theorem eF_one (f:List (List Int)):eF [f]= .arr ⟨1,false⟩ [eIss f]:=rfl
abbrev sB (v:Nat) (m:MkM) (t:List (List Int)) (lim:Nat) (z:SS):Blk:=
 .box v [eI m.chambers,eI m.depths,eI m.step,eI m.same,eI m.least,eIss t,eI lim,eI 1,eI z.tries,eB z.stop,eF z.found]
structure TabOk (t:List (List Int)):Prop where
 n:1≤t.length∧t.length≤900
 r:∀i (hi:i<t.length),t[i].length=(t.getD 0 []).length
 d:(t.getD 0 []).length≤1000
theorem firstKey {m:MkM} (hm:isMk m=true):∃k0,(allK m)[0]? =some k0∧Fn Tryz.prog 37 [eMk m,eNil] false (· = .tup [eIs k0,eB true]):=by
 have ⟨⟨n1,n2⟩,n3,n4⟩:=isMk_num hm
 obtain ⟨k0,hk0⟩:=firstK_some hm
 have hf:=(c_l02First m hm m.chambers.toNat [] (by simp;omega) (fun x hx=>by cases hx)).subs (args':=[eMk m,eNil]) (.cons (.refl _) (.cons (.nil _) .nil))
 unfold firstR at hf
 rw [hk0] at hf
 exact ⟨k0,by rw [←List.head?_eq_getElem?,←firstK_all,hk0],hf⟩
set_option maxHeartbeats 16000000 in
theorem c_l17From (m:MkM) (t:List (List Int)) (lim:Nat) (hm:isMk m=true) (ht:TabOk t) (hl:lim≤4000):∀(d v:Nat) (part:List (List Int)) (z:SS),part.length+d=t.length→(∀k∈part,k∈allK m)→z.tries≤lim→z.found=[]→
 FnMR Tryz.prog 144 [sB v m t lim z] [.ptr 1000000000 v 0 0,eIss part,.val (.slice none 0 0)] (fun x io=>x=eB (fromF m t lim d part z).1∧io=[sB v m t lim (fromF m t lim d part z).2]):=by
 have ⟨⟨n1,n2⟩,n3,n4⟩:=isMk_num hm
 have hK:=fun k (hk:k∈allK m)=>allK_ok (m:=m) (by omega) hk
 have ⟨⟨ht1,ht2⟩,ht3,ht4⟩:=ht
 obtain ⟨k0,hk1,hf⟩:=firstKey hm
 intro d
 induction d with
 |zero=>
  intro v part z hd hp hz1 hz2
  refine FnMR.of_vc 105 [.tmp 6] Tryz.func144 rfl rfl rfl rfl rfl (of_decide_eq_true rfl) ?_
  obtain ⟨tries,stop,found⟩:=z
  simp only at hz1 hz2
  subst hz2
  have hln:((part.length:Int)==(t.length:Int))=true:=by simp;omega
  unfold fromF
  simp -dsimp -implicitDefEqProofs only [go_sem,eF_nil,eF_one,hln]
  refine .inr ?_
  refine Later.frzB 1000000000 v 10 26 0 0 1 ⟨1,false⟩ false _ _ (by decide) rfl rfl rfl (by simp) ?_
  refine Later.draw mixed rfl ?_
  simp -dsimp -implicitDefEqProofs only [go_sem]
  ((repeat' (with_reducible refine ai ?_ ?_));all_goals try (first|omega|(refine ⟨?_,?_⟩<;>omega)|(exact rfl)))
  all_goals first|(exact ⟨rfl,rfl⟩)|skip
 |succ d ih=>
  intro v part z hd hp hz1 hz2
  refine FnMR.of_vc 105 [.tmp 6] Tryz.func144 rfl rfl rfl rfl rfl (of_decide_eq_true rfl) ?_
  have hln:((part.length:Int)==(t.length:Int))=false:=by simp;omega
  obtain ⟨RR,hR⟩:∃RR,fromF m t lim (d+1) part z=RR:=⟨_,rfl⟩
  rw [hR]
  unfold fromF at hR
  obtain ⟨tries0,stop0,found0⟩:=z
  simp only at hz1 hz2
  subst hz2
  simp -dsimp -implicitDefEqProofs only [go_sem,hln,eF_nil]
  refine sCallS_one hf (by simp [noLabs,labs,labsL,isClo]) ?_
  have h00:decide ((0:Int)>0)=false:=rfl
  simp -dsimp -implicitDefEqProofs only [go_sem,h00]
  have hdr:goF m t lim part (fromF m t lim d) ((allK m).drop 0) ⟨tries0,stop0,[]⟩=RR:=hR
  clear hR
  refine Later.lp [0,1] [83,89,93,102] [1000000000] (fun x:Nat × SS=>x.1≤(allK m).length∧x.2.tries≤lim∧x.2.found=[]∧goF m t lim part (fromF m t lim d) ((allK m).drop x.1) x.2=RR) (fun x=>[(8,eB ((allK m)[x.1]?).isSome),(7,keyV ((allK m)[x.1]?))])
   (fun x=>[(1000000000,sB v m t lim x.2)]) (fun x=>(allK m).length-x.1) (0,⟨tries0,stop0,[]⟩) ⟨Nat.zero_le _,hz1,rfl,hdr⟩ ?_ rfl (fun x hx=> ?_)
  · rw [hk1]
    simp -dsimp -implicitDefEqProofs only [go_sem,keyV_some,uq11,eF_nil]
    ((repeat' (with_reducible refine ai ?_ ?_));all_goals try (first|omega|(refine ⟨?_,?_⟩<;>omega)|(exact rfl)))
    all_goals trace_state
  · obtain ⟨i,z⟩:=x
    obtain ⟨x1,x2,x3,x4⟩:=hx
    obtain ⟨tries,stop,found⟩:=z
    simp only at x1 x2 x3 x4 ⊢
    subst x3
    rcases Nat.lt_or_ge i (allK m).length with hi|hi
    · have gi:=get_some hi
      have hki:=hK _ (uq4 hi)
      have hkm:=uq4 hi
      rw [List.drop_eq_getElem_cons hi] at x4
      generalize (allK m)[i]=k at*
      have hnx:=c_l02Next m k hm hki.len hki.el
      rw [next_all (by omega) gi,optR_eq] at hnx
      have hw:=c_l16With part k (by omega)
      have hp2:∀x∈part++[k],x∈allK m:=fun x hx=>by
       rcases uq6.1 hx with hx|hx
       · exact hp x hx
       · simp at hx;subst hx;exact hkm
      have ho:=c_l16Open m t (part++[k]) hm (by simp;omega) (by simp;omega) (by omega) ht3 ht4 (fun x hx=>(hK x (hp2 x hx)).len)
      have hrec:=fun z=>ih v (part++[k]) z (by simp;omega) hp2
      have hrok:=fun z h1 h2=>fromF_ok (m:=m) (t:=t) (lim:=lim) d (part++[k]) z hp2 h1 h2
      unfold goF at x4
      rw [gi]
      generalize hO:(allK m)[i+1]? =o at*
      generalize openP m t (part++[k])=b at*
      clear hK ih
      cases htl:((tries:Int)==(lim:Int)) with
      |true=>
       rw [htl,if_pos rfl] at x4
       subst x4
       simp -dsimp -implicitDefEqProofs only [pz,Nat.reduceBEq,Nat.reduceDiv,Nat.reduceAdd,↓reduceIte,Nat.reduceEqDiff]
       simp -dsimp -implicitDefEqProofs only [go_sem,keyV_some,uq11,eF_nil]
       refine Later.draw mixed rfl ?_
       simp -dsimp -implicitDefEqProofs only [go_sem,htl]
       ((repeat' (with_reducible refine ai ?_ ?_));all_goals try (first|omega|(refine ⟨?_,?_⟩<;>omega)|(exact rfl)))
       all_goals trace_state
      |false=>
       have htl':tries≠lim:=fun e=>by rw [e] at htl;simp at htl
       rw [htl,if_neg (by simp)] at x4
       simp -dsimp -implicitDefEqProofs only [pz,Nat.reduceBEq,Nat.reduceDiv,Nat.reduceAdd,↓reduceIte,Nat.reduceEqDiff]
       simp -dsimp -implicitDefEqProofs only [go_sem,keyV_some,uq11,eF_nil]
       refine Later.draw mixed rfl ?_
       simp -dsimp -implicitDefEqProofs only [go_sem,htl]
       ((repeat' (with_reducible refine ai ?_ ?_));all_goals try (first|omega|(refine ⟨?_,?_⟩<;>omega)|(exact rfl)))
       refine sCallS_one hw (by simp [noLabs,labs,labsL,isClo]) ?_
       simp -dsimp -implicitDefEqProofs only [go_sem]
       ((repeat' (with_reducible refine ai ?_ ?_));all_goals try (first|omega|(refine ⟨?_,?_⟩<;>omega)|(exact rfl)))
       refine sCallT_one ho ?_
       cases b with
       |true=>
        rw [if_pos rfl] at x4
        have hrec:=hrec ⟨tries+1,stop,[]⟩ (by simp only;omega) rfl
        have hrok:=hrok ⟨tries+1,stop,[]⟩ (by simp only;omega) rfl
        generalize fromF m t lim d (part++[k]) ⟨tries+1,stop,[]⟩=F at*
        obtain ⟨bb,tr,st,fd⟩:=F
        obtain ⟨g1,g2,g3,g4⟩:=hrok
        simp only at g1 g2 g3 x4
        cases bb with
        |true=>
         rw [if_pos rfl] at x4
         subst x4
         simp -dsimp -implicitDefEqProofs only [go_sem]
         refine sCallT_ioR [1000000000] ?_
         cases fd with
         |nil=>
          simp -dsimp -implicitDefEqProofs only [go_sem,eF_nil]
          refine sCallMR_any hrec ?_
          rintro _ _ ⟨rfl,rfl⟩
          simp -dsimp -implicitDefEqProofs only [go_sem,eF_nil]
          ((repeat' (with_reducible refine ai ?_ ?_));all_goals try (first|omega|(refine ⟨?_,?_⟩<;>omega)|(exact rfl)))
          all_goals trace_state
         |cons f r=>
          obtain rfl:r=[]:=by cases r with|nil=>rfl|cons=>simp at g3
          simp -dsimp -implicitDefEqProofs only [go_sem,eF_nil]
          refine sCallMR_any hrec ?_
          rintro _ _ ⟨rfl,rfl⟩
          simp -dsimp -implicitDefEqProofs only [go_sem,eF_one]
          ((repeat' (with_reducible refine ai ?_ ?_));all_goals try (first|omega|(refine ⟨?_,?_⟩<;>omega)|(exact rfl)))
          all_goals trace_state
        |false=>
         rw [if_neg (by simp)] at x4
         obtain rfl:=g2 rfl
         simp -dsimp -implicitDefEqProofs only [go_sem]
         refine sCallT_ioR [1000000000] ?_
         simp -dsimp -implicitDefEqProofs only [go_sem,eF_nil]
         refine sCallMR_any hrec ?_
         rintro _ _ ⟨rfl,rfl⟩
         simp -dsimp -implicitDefEqProofs only [go_sem,eF_nil]
         ((repeat' (with_reducible refine ai ?_ ?_));all_goals try (first|omega|(refine ⟨?_,?_⟩<;>omega)|(exact rfl)))
         refine sCallS_one hnx (by simp [noLabs,labs,labsL,isClo]) ?_
         cases o with
         |some k2=>
          simp -dsimp -implicitDefEqProofs only [go_sem]
          refine ⟨(i+1,⟨tr,st,[]⟩),⟨by omega,g1,rfl,x4⟩,by simp only;omega,?_⟩
          rw [hO]
          simp -dsimp -implicitDefEqProofs only [go_sem,keyV_some,uq11,eF_nil]
          ((repeat' (with_reducible refine ai ?_ ?_));all_goals try (first|omega|(refine ⟨?_,?_⟩<;>omega)|(exact rfl)))
          all_goals trace_state
         |none=>
          simp -dsimp -implicitDefEqProofs only [go_sem]
          refine ⟨(i+1,⟨tr,st,[]⟩),⟨by omega,g1,rfl,x4⟩,by simp only;omega,?_⟩
          rw [hO]
          simp -dsimp -implicitDefEqProofs only [go_sem,keyV_none,uq10,eF_nil]
          ((repeat' (with_reducible refine ai ?_ ?_));all_goals try (first|omega|(refine ⟨?_,?_⟩<;>omega)|(exact rfl)))
          all_goals trace_state
       |false=>
        rw [if_neg (by simp)] at x4
        simp -dsimp -implicitDefEqProofs only [go_sem]
        refine sCallS_one hnx (by simp [noLabs,labs,labsL,isClo]) ?_
        cases o with
        |some k2=>
         simp -dsimp -implicitDefEqProofs only [go_sem]
         refine ⟨(i+1,⟨tries+1,stop,[]⟩),⟨by omega,by simp only;omega,rfl,x4⟩,by simp only;omega,?_⟩
         rw [hO]
         simp -dsimp -implicitDefEqProofs only [go_sem,keyV_some,uq11,eF_nil]
         ((repeat' (with_reducible refine ai ?_ ?_));all_goals try (first|omega|(refine ⟨?_,?_⟩<;>omega)|(exact rfl)))
         all_goals trace_state
        |none=>
         simp -dsimp -implicitDefEqProofs only [go_sem]
         refine ⟨(i+1,⟨tries+1,stop,[]⟩),⟨by omega,by simp only;omega,rfl,x4⟩,by simp only;omega,?_⟩
         rw [hO]
         simp -dsimp -implicitDefEqProofs only [go_sem,keyV_none,uq10,eF_nil]
         ((repeat' (with_reducible refine ai ?_ ?_));all_goals try (first|omega|(refine ⟨?_,?_⟩<;>omega)|(exact rfl)))
         all_goals trace_state
    · have gn:(allK m)[i]? =none:=List.getElem?_eq_none hi
      rw [List.drop_of_length_le hi,goF] at x4
      subst x4
      rw [gn]
      simp -dsimp -implicitDefEqProofs only [pz,Nat.reduceBEq,Nat.reduceDiv,Nat.reduceAdd,↓reduceIte,Nat.reduceEqDiff]
      simp -dsimp -implicitDefEqProofs only [go_sem,keyV_none,uq10,eF_nil]
      ((repeat' (with_reducible refine ai ?_ ?_));all_goals try (first|omega|(refine ⟨?_,?_⟩<;>omega)|(exact rfl)))
      all_goals trace_state
set_option maxHeartbeats 16000000 in
theorem c_l17From0 (m:MkM) (t:List (List Int)) (lim:Nat) (hm:isMk m=true) (ht:TabOk t) (hl:lim≤4000) (d v:Nat) (z:SS) (hd0:d+1=t.length) (hz1:z.tries≤lim) (hz2:z.found=[]):
 FnMR Tryz.prog 144 [sB v m t lim z] [.ptr 1000000000 v 0 0,.val (.slice none 0 0),.val (.slice none 0 0)] (fun x io=>x=eB (fromF m t lim (d+1) [] z).1∧io=[sB v m t lim (fromF m t lim (d+1) [] z).2]):=by
 have ⟨⟨n1,n2⟩,n3,n4⟩:=isMk_num hm
 have hK:=fun k (hk:k∈allK m)=>allK_ok (m:=m) (by omega) hk
 have ⟨⟨ht1,ht2⟩,ht3,ht4⟩:=ht
 obtain ⟨k0,hk1,hf⟩:=firstKey hm
 refine FnMR.of_vc 105 [.tmp 6] Tryz.func144 rfl rfl rfl rfl rfl (of_decide_eq_true rfl) ?_
 have hln:((0:Int)==(t.length:Int))=false:=by simp;omega
 have hd:([]:List (List Int)).length+(d+1)=t.length:=by simp;omega
 have hp:∀k∈([]:List (List Int)),k∈allK m:=fun k h=>by cases h
 obtain ⟨RR,hR⟩:∃RR,fromF m t lim (d+1) [] z=RR:=⟨_,rfl⟩
 rw [hR]
 unfold fromF at hR
 obtain ⟨tries0,stop0,found0⟩:=z
 simp only at hz1 hz2
 subst hz2
 simp -dsimp -implicitDefEqProofs only [go_sem,hln,eF_nil]
 refine sCallS_one hf (by simp [noLabs,labs,labsL,isClo]) ?_
 have h00:decide ((0:Int)>0)=false:=rfl
 simp -dsimp -implicitDefEqProofs only [go_sem,h00]
 have hdr:goF m t lim [] (fromF m t lim d) ((allK m).drop 0) ⟨tries0,stop0,[]⟩=RR:=hR
 clear hR
 refine Later.lp [0,1] [83,89,93,102] [1000000000] (fun x:Nat × SS=>x.1≤(allK m).length∧x.2.tries≤lim∧x.2.found=[]∧goF m t lim [] (fromF m t lim d) ((allK m).drop x.1) x.2=RR) (fun x=>[(8,eB ((allK m)[x.1]?).isSome),(7,keyV ((allK m)[x.1]?))])
  (fun x=>[(1000000000,sB v m t lim x.2)]) (fun x=>(allK m).length-x.1) (0,⟨tries0,stop0,[]⟩) ⟨Nat.zero_le _,hz1,rfl,hdr⟩ ?_ rfl (fun x hx=> ?_)
 · rw [hk1]
   simp -dsimp -implicitDefEqProofs only [go_sem,keyV_some,uq11,eF_nil]
   ((repeat' (with_reducible refine ai ?_ ?_));all_goals try (first|omega|(refine ⟨?_,?_⟩<;>omega)|(exact rfl)))
   all_goals trace_state
 · obtain ⟨i,z⟩:=x
   obtain ⟨x1,x2,x3,x4⟩:=hx
   obtain ⟨tries,stop,found⟩:=z
   simp only at x1 x2 x3 x4 ⊢
   subst x3
   rcases Nat.lt_or_ge i (allK m).length with hi|hi
   · have gi:=get_some hi
     have hki:=hK _ (uq4 hi)
     have hkm:=uq4 hi
     rw [List.drop_eq_getElem_cons hi] at x4
     generalize (allK m)[i]=k at*
     have hnx:=c_l02Next m k hm hki.len hki.el
     rw [next_all (by omega) gi,optR_eq] at hnx
     have hw:=(c_l16With [] k (by simp)).subs (args':=[.val (.slice none 0 0),eIs k]) (.cons (.nil _) (.cons (.refl _) .nil))
     have hp2:∀x∈[]++[k],x∈allK m:=fun x hx=>by
      rcases uq6.1 hx with hx|hx
      · exact hp x hx
      · simp at hx;subst hx;exact hkm
     have ho:=c_l16Open m t ([]++[k]) hm (by simp) (by simp only [List.nil_append,List.length_singleton];omega) (by omega) ht3 ht4 (fun x hx=>(hK x (hp2 x hx)).len)
     have hrec:=fun z=>c_l17From m t lim hm ht hl d v ([]++[k]) z (by simp only [List.nil_append,List.length_singleton];omega) hp2
     have hrok:=fun z h1 h2=>fromF_ok (m:=m) (t:=t) (lim:=lim) d ([]++[k]) z hp2 h1 h2
     unfold goF at x4
     rw [gi]
     generalize hO:(allK m)[i+1]? =o at*
     generalize openP m t ([]++[k])=b at*
     clear hK
     cases htl:((tries:Int)==(lim:Int)) with
     |true=>
      rw [htl,if_pos rfl] at x4
      subst x4
      simp -dsimp -implicitDefEqProofs only [pz,Nat.reduceBEq,Nat.reduceDiv,Nat.reduceAdd,↓reduceIte,Nat.reduceEqDiff]
      simp -dsimp -implicitDefEqProofs only [go_sem,keyV_some,uq11,eF_nil]
      refine Later.draw mixed rfl ?_
      simp -dsimp -implicitDefEqProofs only [go_sem,htl]
      ((repeat' (with_reducible refine ai ?_ ?_));all_goals try (first|omega|(refine ⟨?_,?_⟩<;>omega)|(exact rfl)))
      all_goals trace_state
     |false=>
      have htl':tries≠lim:=fun e=>by rw [e] at htl;simp at htl
      rw [htl,if_neg (by simp)] at x4
      simp -dsimp -implicitDefEqProofs only [pz,Nat.reduceBEq,Nat.reduceDiv,Nat.reduceAdd,↓reduceIte,Nat.reduceEqDiff]
      simp -dsimp -implicitDefEqProofs only [go_sem,keyV_some,uq11,eF_nil]
      refine Later.draw mixed rfl ?_
      simp -dsimp -implicitDefEqProofs only [go_sem,htl]
      ((repeat' (with_reducible refine ai ?_ ?_));all_goals try (first|omega|(refine ⟨?_,?_⟩<;>omega)|(exact rfl)))
      refine sCallS_one hw (by simp [noLabs,labs,labsL,isClo]) ?_
      simp -dsimp -implicitDefEqProofs only [go_sem]
      ((repeat' (with_reducible refine ai ?_ ?_));all_goals try (first|omega|(refine ⟨?_,?_⟩<;>omega)|(exact rfl)))
      refine sCallT_one ho ?_
      cases b with
      |true=>
       rw [if_pos rfl] at x4
       have hrec:=hrec ⟨tries+1,stop,[]⟩ (by simp only;omega) rfl
       have hrok:=hrok ⟨tries+1,stop,[]⟩ (by simp only;omega) rfl
       generalize fromF m t lim d ([]++[k]) ⟨tries+1,stop,[]⟩=F at*
       obtain ⟨bb,tr,st,fd⟩:=F
       obtain ⟨g1,g2,g3,g4⟩:=hrok
       simp only at g1 g2 g3 x4
       cases bb with
       |true=>
        rw [if_pos rfl] at x4
        subst x4
        simp -dsimp -implicitDefEqProofs only [go_sem]
        refine sCallT_ioR [1000000000] ?_
        cases fd with
        |nil=>
         simp -dsimp -implicitDefEqProofs only [go_sem,eF_nil]
         refine sCallMR_any hrec ?_
         rintro _ _ ⟨rfl,rfl⟩
         simp -dsimp -implicitDefEqProofs only [go_sem,eF_nil]
         ((repeat' (with_reducible refine ai ?_ ?_));all_goals try (first|omega|(refine ⟨?_,?_⟩<;>omega)|(exact rfl)))
         all_goals trace_state
        |cons f r=>
         obtain rfl:r=[]:=by cases r with|nil=>rfl|cons=>simp at g3
         simp -dsimp -implicitDefEqProofs only [go_sem,eF_nil]
         refine sCallMR_any hrec ?_
         rintro _ _ ⟨rfl,rfl⟩
         simp -dsimp -implicitDefEqProofs only [go_sem,eF_one]
         ((repeat' (with_reducible refine ai ?_ ?_));all_goals try (first|omega|(refine ⟨?_,?_⟩<;>omega)|(exact rfl)))
         all_goals trace_state
       |false=>
        rw [if_neg (by simp)] at x4
        obtain rfl:=g2 rfl
        simp -dsimp -implicitDefEqProofs only [go_sem]
        refine sCallT_ioR [1000000000] ?_
        simp -dsimp -implicitDefEqProofs only [go_sem,eF_nil]
        refine sCallMR_any hrec ?_
        rintro _ _ ⟨rfl,rfl⟩
        simp -dsimp -implicitDefEqProofs only [go_sem,eF_nil]
        ((repeat' (with_reducible refine ai ?_ ?_));all_goals try (first|omega|(refine ⟨?_,?_⟩<;>omega)|(exact rfl)))
        refine sCallS_one hnx (by simp [noLabs,labs,labsL,isClo]) ?_
        cases o with
        |some k2=>
         simp -dsimp -implicitDefEqProofs only [go_sem]
         refine ⟨(i+1,⟨tr,st,[]⟩),⟨by omega,g1,rfl,x4⟩,by simp only;omega,?_⟩
         rw [hO]
         simp -dsimp -implicitDefEqProofs only [go_sem,keyV_some,uq11,eF_nil]
         ((repeat' (with_reducible refine ai ?_ ?_));all_goals try (first|omega|(refine ⟨?_,?_⟩<;>omega)|(exact rfl)))
         all_goals trace_state
        |none=>
         simp -dsimp -implicitDefEqProofs only [go_sem]
         refine ⟨(i+1,⟨tr,st,[]⟩),⟨by omega,g1,rfl,x4⟩,by simp only;omega,?_⟩
         rw [hO]
         simp -dsimp -implicitDefEqProofs only [go_sem,keyV_none,uq10,eF_nil]
         ((repeat' (with_reducible refine ai ?_ ?_));all_goals try (first|omega|(refine ⟨?_,?_⟩<;>omega)|(exact rfl)))
         all_goals trace_state
      |false=>
       rw [if_neg (by simp)] at x4
       simp -dsimp -implicitDefEqProofs only [go_sem]
       refine sCallS_one hnx (by simp [noLabs,labs,labsL,isClo]) ?_
       cases o with
       |some k2=>
        simp -dsimp -implicitDefEqProofs only [go_sem]
        refine ⟨(i+1,⟨tries+1,stop,[]⟩),⟨by omega,by simp only;omega,rfl,x4⟩,by simp only;omega,?_⟩
        rw [hO]
        simp -dsimp -implicitDefEqProofs only [go_sem,keyV_some,uq11,eF_nil]
        ((repeat' (with_reducible refine ai ?_ ?_));all_goals try (first|omega|(refine ⟨?_,?_⟩<;>omega)|(exact rfl)))
        all_goals trace_state
       |none=>
        simp -dsimp -implicitDefEqProofs only [go_sem]
        refine ⟨(i+1,⟨tries+1,stop,[]⟩),⟨by omega,by simp only;omega,rfl,x4⟩,by simp only;omega,?_⟩
        rw [hO]
        simp -dsimp -implicitDefEqProofs only [go_sem,keyV_none,uq10,eF_nil]
        ((repeat' (with_reducible refine ai ?_ ?_));all_goals try (first|omega|(refine ⟨?_,?_⟩<;>omega)|(exact rfl)))
        all_goals trace_state
   · have gn:(allK m)[i]? =none:=List.getElem?_eq_none hi
     rw [List.drop_of_length_le hi,goF] at x4
     subst x4
     rw [gn]
     simp -dsimp -implicitDefEqProofs only [pz,Nat.reduceBEq,Nat.reduceDiv,Nat.reduceAdd,↓reduceIte,Nat.reduceEqDiff]
     simp -dsimp -implicitDefEqProofs only [go_sem,keyV_none,uq10,eF_nil]
     ((repeat' (with_reducible refine ai ?_ ?_));all_goals try (first|omega|(refine ⟨?_,?_⟩<;>omega)|(exact rfl)))
     all_goals trace_state
def l17C (m:MkM) (t:List (List Int)) (lim:Int):Int:=if isSy m t=true then (if isIn lim 0 4000=true then 0 else 2) else 1
theorem c_l17Code (m:MkM) (t:List (List Int)) (lim:Int) (h:t.length≤1048576) (h2:∀x∈t,x.length≤1048576):Fn Tryz.prog 127 [eSy m t,eI lim] true (· =eI (l17C m t lim)):=by
 have hs:=c_sIsSystem m t h h2
 unfold l17C
 refine Fn.of_vcN 11 [.tmp 4] Tryz.func127 rfl rfl rfl rfl rfl (of_decide_eq_true rfl) ?_
 cases hsy:isSy m t with
 |false=>
  rw [hsy] at hs
  simp -dsimp -implicitDefEqProofs only [go_sem]
  refine sCallT_one hs ?_
  simp -dsimp -implicitDefEqProofs only [go_sem]
  ((repeat' (with_reducible refine ai ?_ ?_));all_goals try (first|omega|(refine ⟨?_,?_⟩<;>omega)|(exact rfl)))
  all_goals first|(simp;done)|skip
 |true=>
  rw [hsy] at hs
  have hi:=c_l01In lim 0 4000
  cases hin:isIn lim 0 4000 with
  |false=>
   rw [hin] at hi
   simp -dsimp -implicitDefEqProofs only [go_sem]
   refine sCallT_one hs ?_
   simp -dsimp -implicitDefEqProofs only [go_sem]
   refine sCallT_one hi ?_
   simp -dsimp -implicitDefEqProofs only [go_sem]
   ((repeat' (with_reducible refine ai ?_ ?_));all_goals try (first|omega|(refine ⟨?_,?_⟩<;>omega)|(exact rfl)))
   all_goals first|(simp;done)|skip
  |true=>
   rw [hin] at hi
   simp -dsimp -implicitDefEqProofs only [go_sem]
   refine sCallT_one hs ?_
   simp -dsimp -implicitDefEqProofs only [go_sem]
   refine sCallT_one hi ?_
   simp -dsimp -implicitDefEqProofs only [go_sem]
   ((repeat' (with_reducible refine ai ?_ ?_));all_goals try (first|omega|(refine ⟨?_,?_⟩<;>omega)|(exact rfl)))
   all_goals first|(simp;done)|skip
def fV (z:SS):AV:=match z.found with
 |f::_=>.tup [eIss f,eI z.tries,eI 0]
 | []=>.tup [.val (.slice none 0 0),eI 0,eI (if z.stop=true then 3 else 4)]
theorem c_l17First (v:Nat) (m:MkM) (t:List (List Int)) (lim:Nat) (z:SS) (h1:z.found.length≤1) (h2:∀f∈z.found,f.length≤1000∧∀k∈f,k.length≤1000):
 FnMR Tryz.prog 128 [sB v m t lim z] [.ptr 1000000000 v 0 0] (fun x io=>x=fV z∧io=[sB v m t lim z]):=by
 refine FnMR.of_vc 26 [.tmp 2,.tmp 3,.tmp 4] Tryz.func128 rfl rfl rfl rfl rfl (of_decide_eq_true rfl) ?_
 obtain ⟨tries,stop,found⟩:=z
 have h00:decide ((0:Int)>0)=false:=rfl
 have h10:decide (((1:Nat):Int)>0)=true:=rfl
 simp only at h1 h2
 cases found with
 |nil=>
  cases stop with
  |true=>
   simp -dsimp -implicitDefEqProofs only [go_sem,eF_nil,fV,h00]
   ((repeat' (with_reducible refine ai ?_ ?_));all_goals try (first|omega|(refine ⟨?_,?_⟩<;>omega)|(exact rfl)))
   all_goals first|(simp;done)|skip
  |false=>
   simp -dsimp -implicitDefEqProofs only [go_sem,eF_nil,fV,h00]
   ((repeat' (with_reducible refine ai ?_ ?_));all_goals try (first|omega|(refine ⟨?_,?_⟩<;>omega)|(exact rfl)))
   all_goals first|(simp;done)|skip
 |cons f r=>
  obtain rfl:r=[]:=by cases r with|nil=>rfl|cons=>simp at h1
  have ho:=h2 f (List.mem_cons_self ..)
  have hq:=c_l15Lists f ho.1 (fun x hx=>by have:=ho.2 x hx;omega)
  simp -dsimp -implicitDefEqProofs only [go_sem,eF_one,fV,h10]
  refine Later.draw mixed rfl ?_
  simp -dsimp -implicitDefEqProofs only [go_sem,eF_one]
  ((repeat' (with_reducible refine ai ?_ ?_));all_goals try (first|omega|(refine ⟨?_,?_⟩<;>omega)|(exact rfl)))
  refine sCallXS_one hq (by simp [noLabs,labs,labsL,isClo]) ?_
  simp -dsimp -implicitDefEqProofs only [go_sem,eF_one]
  ((repeat' (with_reducible refine ai ?_ ?_));all_goals try (first|omega|(refine ⟨?_,?_⟩<;>omega)|(exact rfl)))
  all_goals first|(simp;done)|skip
def findV (m:MkM) (t:List (List Int)) (lim:Nat):AV:=if l17C m t lim=0 then fV (fromF m t lim t.length [] ⟨0,false,[]⟩).2 else .tup [.val (.slice none 0 0),eI 0,eI (l17C m t lim)]
theorem isSy_tab {m:MkM} {t:List (List Int)} (h:isSy m t=true):isMk m=true∧TabOk t:=by
 have ⟨h1,h2,h3,h4,h5⟩:=isSy_num h
 simp only [isSy,uq0] at h
 exact ⟨h.1.1,⟨h1,by omega⟩,h5,by omega⟩
theorem c_FindDesign (m:MkM) (t:List (List Int)) (lim:Nat) (h:t.length≤1048576) (h2:∀x∈t,x.length≤1048576) (hlim:lim≤4000):Fn Tryz.prog 102 [eSy m t,eI lim] false (· =findV m t lim):=by
 refine Fn.of_vcS 21 [.tmp 4,.tmp 5,.tmp 6] Tryz.func102 rfl rfl rfl rfl rfl (of_decide_eq_true rfl) ?_
 have hc:=c_l17Code m t lim h h2
 unfold findV
 cases hz:(l17C m t lim != 0) with
 |true=>
  have hz':l17C m t lim≠0:=by simpa using hz
  rw [if_neg hz']
  simp -dsimp -implicitDefEqProofs only [go_sem]
  refine sCallT_one hc ?_
  simp -dsimp -implicitDefEqProofs only [go_sem,hz]
  ((repeat' (with_reducible refine ai ?_ ?_));all_goals try (first|omega|(refine ⟨?_,?_⟩<;>omega)|(exact rfl)))
  all_goals first|(simp;done)|skip
 |false=>
  have hz':l17C m t lim=0:=by simpa using hz
  rw [if_pos hz']
  have hs:isSy m t=true:=by
   cases h:isSy m t with
   |true=>rfl
   |false=>rw [l17C,h,if_neg (by simp)] at hz';exact absurd hz' (by decide)
  obtain ⟨hm,ht⟩:=isSy_tab hs
  have hfr:=fun v=>c_l17From0 m t lim hm ht hlim (t.length-1) v ⟨0,false,[]⟩ (by have:=ht.n;omega) (Nat.zero_le _) rfl
  have hok:=fromF_ok (m:=m) (t:=t) (lim:=lim) t.length [] ⟨0,false,[]⟩ (fun k h=>by cases h) (Nat.zero_le _) rfl
  rw [show t.length-1+1=t.length by have:=ht.n;omega] at hfr
  have hfi:=fun v z h1 h2=>c_l17First v m t lim z h1 h2
  have hmk:=isMk_num hm
  have htn:=ht.n
  generalize fromF m t lim t.length [] ⟨0,false,[]⟩=F at*
  obtain ⟨b,z⟩:=F
  obtain ⟨g1,g2,g3,g4⟩:=hok
  simp only at g1 g2 g3 g4 hfr ⊢
  have hfi:=fun v=>hfi v z g3 (fun f hf=>⟨by have:=(g4 f hf).1;simp at this;omega,fun k hk=>by have:=(allK_ok (m:=m) (by omega) ((g4 f hf).2 k hk)).len;omega⟩)
  simp -dsimp -implicitDefEqProofs only [go_sem]
  refine sCallT_one hc ?_
  simp -dsimp -implicitDefEqProofs only [go_sem,hz]
  have h10:decide ((1:Int)>0)=true:=rfl
  refine sCallT_inl 900000 21 [.tmp 8] Tryz.func129 rfl rfl rfl rfl rfl (by exact of_decide_eq_true rfl) ?_
  simp -dsimp -implicitDefEqProofs only [go_sem,h10]
  refine sCallT_ioR [14] ?_
  obtain ⟨tr,st,fd⟩:=z
  simp only at g1 g2 g3 g4
  cases fd with
  |nil=>
   simp -dsimp -implicitDefEqProofs only [go_sem]
   refine sCallMR_any (hfr _) ?_
   rintro _ _ ⟨rfl,rfl⟩
   simp -dsimp -implicitDefEqProofs only [go_sem,eF_nil]
   refine sCallT_ioR [900014] ?_
   simp -dsimp -implicitDefEqProofs only [go_sem]
   refine sCallMR_any (hfi _) ?_
   rintro _ _ ⟨rfl,rfl⟩
   simp -dsimp -implicitDefEqProofs only [go_sem,fV]
   ((repeat' (with_reducible refine ai ?_ ?_));all_goals try (first|omega|(refine ⟨?_,?_⟩<;>omega)|(exact rfl)))
   all_goals first|(simp;done)|skip
  |cons f r=>
   obtain rfl:r=[]:=by cases r with|nil=>rfl|cons=>simp at g3
   simp -dsimp -implicitDefEqProofs only [go_sem]
   refine sCallMR_any (hfr _) ?_
   rintro _ _ ⟨rfl,rfl⟩
   simp -dsimp -implicitDefEqProofs only [go_sem,eF_one]
   refine sCallT_ioR [900014] ?_
   simp -dsimp -implicitDefEqProofs only [go_sem]
   refine sCallMR_any (hfi _) ?_
   rintro _ _ ⟨rfl,rfl⟩
   simp -dsimp -implicitDefEqProofs only [go_sem,fV]
   ((repeat' (with_reducible refine ai ?_ ?_));all_goals try (first|omega|(refine ⟨?_,?_⟩<;>omega)|(exact rfl)))
   all_goals first|(simp;done)|skip
end Go.Vc
namespace Go.Vc
open Go.Proofs
def DesP (bs:List UInt8) (v:Nat) (x:AV) (io:List Blk):Prop:=∃(m:MkM) (t cuts:List (List Int)) (s:Src),SrcOk s∧t.length≤11∧(∀x∈t,x.length≤13)∧cuts.length≤11∧(∀x∈cuts,x.length≤8)∧x= .tup [eSy m t,eIss cuts]∧io=[srcB v bs s]
theorem findV_cases (m:MkM) (t:List (List Int)) (lim:Nat):(∃(f:List (List Int)) (tr:Nat),findV m t lim= .tup [eIss f,eI tr,eI 0]∧f.length≤t.length∧∀k∈f,k∈allK m)∨∃c:Int,(c==0)=false∧findV m t lim= .tup [.val (.slice none 0 0),eI 0,eI c]:=by
 unfold findV
 by_cases h:l17C m t lim=0
 · rw [if_pos h]
   have hok:=fromF_ok (m:=m) (t:=t) (lim:=lim) t.length [] ⟨0,false,[]⟩ (fun k h=>by cases h) (Nat.zero_le _) rfl
   generalize fromF m t lim t.length [] ⟨0,false,[]⟩=F at*
   obtain ⟨b,tr,st,fd⟩:=F
   obtain ⟨g1,g2,g3,g4⟩:=hok
   simp only at g1 g2 g3 g4 ⊢
   cases fd with
   |nil=>exact .inr ⟨if st=true then 3 else 4,by cases st<;>rfl,by cases st<;>rfl⟩
   |cons f r=>
    have:=g4 f (List.mem_cons_self ..)
    exact .inl ⟨f,tr,rfl,by have:=this.1;simp at this;omega,this.2⟩
 · rw [if_neg h]
   exact .inr ⟨_,by simpa using h,rfl⟩
set_option maxHeartbeats 8000000 in
theorem c_l21Draw (v:Nat) (bs:List UInt8) (s:Src) (h:SrcOk s) (hl:bs.length≤4096):
 FnMR Tryz.prog 79 [srcB v bs s] [.ptr 1000000000 v 0 0] (DesP bs v):=by
 unfold DesP
 refine FnMR.of_vc 59 [.cell 2 36,.tmp 3] Tryz.func79 rfl rfl rfl rfl rfl (of_decide_eq_true rfl) ?_
 have q16:=fun v=>c_l01Next v bs 16 s h hl
 have a:=(nx_ok bs 16 h).2.2.2
 generalize nx bs 16 s=n at*
 simp -dsimp -implicitDefEqProofs only [go_sem]
 (refine sCallT_io [1000000000] ?_;simp -dsimp -implicitDefEqProofs only [go_sem];refine sCallM_one (q16 _) ?_;simp -dsimp -implicitDefEqProofs only [go_sem])
 cases h0:(n.1==0) with
 |true=>
  have qd:=fun v=>c_l15Draw v bs n.2 a hl
  have ho:=sysD_ok bs a
  generalize sysD bs n.2=D at*
  obtain ⟨o1,o2,o3,o4,o5⟩:=ho
  simp -dsimp -implicitDefEqProofs only [go_sem,h0]
  refine sCallT_ioR [1000000000] ?_
  simp -dsimp -implicitDefEqProofs only [go_sem]
  refine sCallMR_any (qd _) ?_
  rintro _ _ ⟨rfl,rfl⟩
  simp -dsimp -implicitDefEqProofs only [go_sem]
  ((repeat' (with_reducible refine ai ?_ ?_));all_goals try (first|omega|(refine ⟨?_,?_⟩<;>omega)|(exact rfl)))
  all_goals first
   |(exact ⟨D.m,D.t,D.cuts,D.src,o1,o2,o3,by omega,o5,rfl,rfl⟩)
   |skip
 |false=>
  have qv:=fun v=>c_l15ValidR v bs n.2 a hl
  have ho:=sysT_ok bs a
  generalize sysT bs n.2=T at*
  generalize (mkV bs n.2).1=m at*
  obtain ⟨T,s1⟩:=T
  obtain ⟨o1,o2,o3,o4,o5⟩:=ho
  simp only at o1 o3 o4 o5 qv
  have ⟨⟨n1,n2⟩,n3,n4⟩:=isMk_num o2
  have hK:=fun k (hk:k∈allK m)=>allK_ok (m:=m) (by omega) hk
  have hrow:∀x∈T,x.length≤13:=fun x hx=>by
   obtain ⟨i,hi,rfl⟩:=List.getElem_of_mem hx
   rw [o5 i hi];omega
  have hlenK:∀(p:List (List Int)),(∀k∈p,k∈allK m)→∀x∈p,x.length≤8:=fun p hp x hx=>by
   have:=(hK x (hp x hx)).len;omega
  simp -dsimp -implicitDefEqProofs only [go_sem,h0]
  refine sCallT_ioR [1000000000] ?_
  simp -dsimp -implicitDefEqProofs only [go_sem]
  refine sCallMR_any (qv _) ?_
  rintro _ _ ⟨rfl,rfl⟩
  simp -dsimp -implicitDefEqProofs only [go_sem]
  refine Later.lp [0,2,4] [21,24,28,30,36,37,40,41] [19,1000000000] (fun x:List (List Int) × Src=>SrcOk x.2∧x.1.length≤T.length∧∀k∈x.1,k∈allK m) (fun x=>[(5,.ref 19 0 0 x.1.length)]) (fun x=>[(19,.row 0 ⟨1,false⟩ x.1.isEmpty (x.1.map eIs)),(1000000000,srcB v bs x.2)])
   (fun x=>T.length-x.1.length) ([],s1) ⟨o1,Nat.zero_le _,fun k h=>by cases h⟩ ?_ rfl (fun x hx=> ?_)
  · simp -dsimp -implicitDefEqProofs only [go_sem,List.isEmpty_nil,List.length_nil,List.map_nil]
    ((repeat' (with_reducible refine ai ?_ ?_));all_goals try (first|omega|(refine ⟨?_,?_⟩<;>omega)|(exact rfl)))
    all_goals trace_state
  · obtain ⟨p,s2⟩:=x
    obtain ⟨x1,x2,x3⟩:=hx
    simp only at x1 x2 x3 ⊢
    have tp:(p.map eIs).take p.length=p.map eIs:=uq7 (by simp)
    cases hlt:decide ((p.length:Int)<(T.length:Int)) with
    |true=>
     have hlt':=of_decide_eq_true hlt
     have qc:=fun v=>c_l16CandidatesM v m T p 8 o2 (by omega) (by omega) (by omega) o5 (by omega) (fun x hx=>(hK x (x3 x hx)).len)
     have hcl:=candL_len m T p 8
     have hcm:=fun k (hk:k∈candL m T p 8)=>candL_mem hk
     generalize candL m T p 8=C at*
     simp -dsimp -implicitDefEqProofs only [pz,Nat.reduceBEq,Nat.reduceDiv,Nat.reduceAdd,↓reduceIte,Nat.reduceEqDiff]
     simp -dsimp -implicitDefEqProofs only [go_sem,hlt]
     refine sCallT_ioR [19] ?_
     simp -dsimp -implicitDefEqProofs only [go_sem]
     refine sCallMR_any (qc _) ?_
     rintro _ _ ⟨rfl,rfl⟩
     simp -dsimp -implicitDefEqProofs only [go_sem]
     cases C with
     |nil=>
      have e00:(((0:Nat):Int)==0)=true:=rfl
      simp -dsimp -implicitDefEqProofs only [go_sem,List.length_nil,e00,hlt,List.map_nil]
      refine sCallS_one (c_FindDesign m T 300 (by omega) (fun x hx=>by have:=hrow x hx;omega) (by omega)) (by simp [noLabs,labs,labsL,isClo]) ?_
      rcases findV_cases m T 300 with ⟨f,tr,e,f1,f2⟩|⟨c,e1,e⟩
      · rw [e]
        have zeroEq:((0:Int)==0)=true:=rfl
        simp -dsimp -implicitDefEqProofs only [go_sem,zeroEq]
        ((repeat' (with_reducible refine ai ?_ ?_));all_goals try (first|omega|(refine ⟨?_,?_⟩<;>omega)|(exact rfl)))
        all_goals first
         |(exact ⟨m,T,f,s2,x1,by omega,hrow,by omega,hlenK f f2,rfl,rfl⟩)
         |skip
      · rw [e]
        simp -dsimp -implicitDefEqProofs only [go_sem,e1]
        ((repeat' (with_reducible refine ai ?_ ?_));all_goals try (first|omega|(refine ⟨?_,?_⟩<;>omega)|(exact rfl)))
        all_goals first
         |(refine ⟨m,T,p,s2,x1,by omega,hrow,by omega,hlenK p x3,?_⟩;simp [tp,eIs];done)
         |skip
     |cons c0 C=>
      have hC1:1≤(c0::C).length:=by simp
      generalize c0::C=C at*
      have ene:((C.length:Int)==0)=false:=by rw [beq_eq_false_iff_ne];omega
      have qn:=fun v=>c_l01Next v bs C.length s2 x1 hl
      have hn:=nx_ok bs C.length x1
      have hj:=nx_lt bs hC1 x1
      generalize nx bs C.length s2=n2 at*
      have gj:=get_some hj.1
      have hjm:=hcm _ (uq4 hj.1)
      generalize C[n2.1.toNat]=k at*
      have hE:p.isEmpty=false∨p.length=0:=by cases p with|nil=>exact .inr rfl|cons=>exact .inl rfl
      have e2:(p++[k]).map eIs=p.map eIs++[eIs k]:=by simp
      have e3:(p++[k]).isEmpty=false:=by simp
      simp -dsimp -implicitDefEqProofs only [go_sem,ene]
      (refine sCallT_io [1000000000] ?_;simp -dsimp -implicitDefEqProofs only [go_sem];refine sCallM_one (qn _) ?_;simp -dsimp -implicitDefEqProofs only [go_sem])
      simp -dsimp -implicitDefEqProofs only [go_sem,gj]
      refine ⟨by omega,?_⟩
      refine .inr ⟨by omega,hE,(p++[k],n2.2),⟨hn.2.2.2,by simp;omega,fun x hx=> ?_⟩,by simp;omega,?_⟩
      · rcases uq6.1 hx with hx|hx
        · exact x3 x hx
        · simp at hx;subst hx;exact hjm
      simp -dsimp -implicitDefEqProofs only [go_sem,e2,e3,tp]
      ((repeat' (with_reducible refine ai ?_ ?_));all_goals try (first|omega|(refine ⟨?_,?_⟩<;>omega)|(exact rfl)))
      all_goals first|(simp;done)|skip
    |false=>
     have hlt':=of_decide_eq_false hlt
     simp -dsimp -implicitDefEqProofs only [pz,Nat.reduceBEq,Nat.reduceDiv,Nat.reduceAdd,↓reduceIte,Nat.reduceEqDiff]
     simp -dsimp -implicitDefEqProofs only [go_sem,hlt]
     ((repeat' (with_reducible refine ai ?_ ?_));all_goals try (first|omega|(refine ⟨?_,?_⟩<;>omega)|(exact rfl)))
     all_goals first
      |(refine ⟨m,T,p,s2,x1,by omega,hrow,by omega,hlenK p x3,?_⟩;simp [tp,eIs];done)
      |skip
def ItD (x:ItM):Prop:= -1≤x.index∧x.index≤1000∧0≤x.copies∧x.copies≤51
def OrdP (bs:List UInt8) (v:Nat) (x:AV) (io:List Blk):Prop:=∃(m:MkM) (t cuts:List (List Int)) (os:List ItM) (s:Src),SrcOk s∧t.length≤11∧(∀x∈t,x.length≤13)∧cuts.length≤11∧(∀x∈cuts,x.length≤8)∧os.length≤30∧(∀x∈os,ItD x)∧
 x= .tup [eSy m t,eIss cuts,eIts os]∧io=[srcB v bs s]
set_option maxHeartbeats 16000000 in
theorem c_l29Draw (v:Nat) (bs:List UInt8) (s:Src) (h:SrcOk s) (hl:bs.length≤4096):
 FnMR Tryz.prog 51 [srcB v bs s] [.ptr 1000000000 v 0 0] (OrdP bs v):=by
 unfold OrdP
 refine FnMR.of_vc 87 [.cell 2 36,.tmp 3,.tmp 4] Tryz.func51 rfl rfl rfl rfl rfl (of_decide_eq_true rfl) ?_
 simp -dsimp -implicitDefEqProofs only [go_sem]
 refine sCallT_ioR [1000000000] ?_
 simp -dsimp -implicitDefEqProofs only [go_sem]
 refine sCallMR_any (c_l21Draw _ bs s h hl) ?_
 rintro _ _ ⟨m,t,cuts,s1,o1,t1,t2,t3,t4,rfl,rfl⟩
 have q6:=fun v=>c_l01Next v bs 6 s1 o1 hl
 have a:=nx_ok bs 6 o1
 have a3:=a.2.2.1 (by omega)
 generalize nx bs 6 s1=n6 at*
 simp -dsimp -implicitDefEqProofs only [go_sem]
 (refine sCallT_io [1000000000] ?_;simp -dsimp -implicitDefEqProofs only [go_sem];refine sCallM_one (q6 _) ?_;simp -dsimp -implicitDefEqProofs only [go_sem])
 refine Later.lp [0,2,5,6] [9,23,29,32,33,40,41,48,49,53,54] [15,1000000000] (fun x:Nat × List ItM × Src=>SrcOk x.2.2∧x.1+x.2.1.length≤5∧∀y∈x.2.1,ItD y) (fun x=>[(8,eI x.1),(7,.ref 15 0 0 x.2.1.length)]) (fun x=>[(15,.row 0 ⟨3,true⟩ true (x.2.1.map eIt)),(1000000000,srcB v bs x.2.2)])
  (fun x=>x.1) (n6.1.toNat,[],n6.2) ⟨a.2.2.2,by simp;omega,fun x h=>by cases h⟩ ?_ rfl (fun x hx=> ?_)
 · simp -dsimp -implicitDefEqProofs only [go_sem,List.length_nil,List.map_nil]
   ((repeat' (with_reducible refine ai ?_ ?_));all_goals try (first|omega|(refine ⟨?_,?_⟩<;>omega)|(exact rfl)))
   all_goals first|(congr 1;omega)|skip
 · obtain ⟨k,os,s2⟩:=x
   obtain ⟨x1,x2,x3⟩:=hx
   simp only at x1 x2 x3 ⊢
   by_cases hgo:0<k∧0<t.length
   · obtain ⟨hk,htl⟩:=hgo
     have g1:decide ((k:Int)>0)=true:=decide_eq_true (by omega)
     have g2:decide ((t.length:Int)>0)=true:=decide_eq_true (by omega)
     have q2:=fun v=>c_l01Next v bs 2 s2 x1 hl
     have b:=(nx_ok bs 2 x1).2.2.2
     generalize nx bs 2 s2=n2 at*
     simp -dsimp -implicitDefEqProofs only [pz,Nat.reduceBEq,Nat.reduceDiv,Nat.reduceAdd,↓reduceIte,Nat.reduceEqDiff]
     simp -dsimp -implicitDefEqProofs only [go_sem,g1,g2]
     (refine sCallT_io [1000000000] ?_;simp -dsimp -implicitDefEqProofs only [go_sem];refine sCallM_one (q2 _) ?_;simp -dsimp -implicitDefEqProofs only [go_sem])
     have qp:=fun v v2=>c_l01Pick v v2 true bs [1,1,2,3,50] _ n2.2 rfl (by simp) (by simp) b hl
     have pm:=pk_mem bs b (xs:=[1,1,2,3,50]) (by simp)
     have po:=pk_ok bs [1,1,2,3,50] b
     generalize pk bs [1,1,2,3,50] n2.2=pp at*
     have pmB:0≤pp.1∧pp.1≤51:=by simp only [List.mem_cons,List.not_mem_nil,or_false] at pm;omega
     have g0:=get_some htl
     have t0l:=t2 _ (uq4 htl)
     generalize t[0]=r0 at*
     have qa:=fun v=>c_l01Next v bs r0.length pp.2 po hl
     have na:=nx_ok bs r0.length po
     have naB:(nx bs r0.length pp.2).1≤13:=by
      by_cases h1:(r0.length:Int)≤1
      · rw [na.2.1 h1];omega
      · have:=na.2.2.1 (by omega);omega
     generalize nx bs r0.length pp.2=n3 at*
     have qb:=fun v=>c_l01Next v bs t.length n3.2 na.2.2.2 hl
     have nb:=nx_ok bs t.length na.2.2.2
     have nbB:(nx bs t.length n3.2).1≤13:=by
      by_cases h1:(t.length:Int)≤1
      · rw [nb.2.1 h1];omega
      · have:=nb.2.2.1 (by omega);omega
     generalize nx bs t.length n3.2=n4 at*
     have tO:(os.map eIt).take os.length=os.map eIt:=uq7 (by simp)
     have e2:=fun y:ItM=>show (os++[y]).map eIt=os.map eIt++[eIt y] by simp
     (refine sCallT_io [1000000000,32] ?_;simp -dsimp -implicitDefEqProofs only [go_sem];refine sCallM_one (qp _ _) ?_;simp -dsimp -implicitDefEqProofs only [go_sem])
     ((repeat' (with_reducible refine ai ?_ ?_));all_goals try (first|omega|(refine ⟨?_,?_⟩<;>omega)|(exact rfl)))
     simp -dsimp -implicitDefEqProofs only [go_sem,g0]
     (refine sCallT_io [1000000000] ?_;simp -dsimp -implicitDefEqProofs only [go_sem];refine sCallM_one (qa _) ?_;simp -dsimp -implicitDefEqProofs only [go_sem])
     cases hb:(n2.1==0) with
     |true=>
      simp -dsimp -implicitDefEqProofs only [go_sem,hb]
      ((repeat' (with_reducible refine ai ?_ ?_));all_goals try (first|omega|(refine ⟨?_,?_⟩<;>omega)|(exact rfl)))
      (refine sCallT_io [1000000000] ?_;simp -dsimp -implicitDefEqProofs only [go_sem];refine sCallM_one (qb _) ?_;simp -dsimp -implicitDefEqProofs only [go_sem])
      ((repeat' (with_reducible refine ai ?_ ?_));all_goals try (first|omega|(refine ⟨?_,?_⟩<;>omega)|(exact rfl)))
      all_goals try (refine ⟨(k-1,os++[⟨true,n4.1,pp.1⟩],n4.2),⟨nb.2.2.2,by simp;omega,fun y hy=> ?_⟩,by simp only;omega,?_⟩)
      all_goals try
       (rcases uq6.1 hy with hy|hy
        · exact x3 y hy
        · simp at hy;subst hy;exact ⟨by simp only;omega,by simp only;omega,pmB⟩)
      all_goals (simp -dsimp -implicitDefEqProofs only [go_sem,e2,tO])
      ((repeat' (with_reducible refine ai ?_ ?_));all_goals try (first|omega|(refine ⟨?_,?_⟩<;>omega)|(exact rfl)))
      all_goals first|(simp;done)|(congr 1;omega)|skip
     |false=>
      simp -dsimp -implicitDefEqProofs only [go_sem,hb]
      ((repeat' (with_reducible refine ai ?_ ?_));all_goals try (first|omega|(refine ⟨?_,?_⟩<;>omega)|(exact rfl)))
      all_goals try (refine ⟨(k-1,os++[⟨false,n3.1,pp.1⟩],n3.2),⟨na.2.2.2,by simp;omega,fun y hy=> ?_⟩,by simp only;omega,?_⟩)
      all_goals try
       (rcases uq6.1 hy with hy|hy
        · exact x3 y hy
        · simp at hy;subst hy;exact ⟨by simp only;omega,by simp only;omega,pmB⟩)
      all_goals (simp -dsimp -implicitDefEqProofs only [go_sem,e2,tO])
      ((repeat' (with_reducible refine ai ?_ ?_));all_goals try (first|omega|(refine ⟨?_,?_⟩<;>omega)|(exact rfl)))
      all_goals first|(simp;done)|(congr 1;omega)|skip
   · have hex:decide ((k:Int)>0)=false∨(decide ((k:Int)>0)=true∧decide ((t.length:Int)>0)=false):=by
      by_cases h1:0<k
      · exact .inr ⟨decide_eq_true (by omega),decide_eq_false (by omega)⟩
      · exact .inl (decide_eq_false (by omega))
     have q24:=fun v=>c_l01Next v bs 24 s2 x1 hl
     have b:=(nx_ok bs 24 x1).2.2.2
     generalize nx bs 24 s2=n at*
     have tO:(os.map eIt).take os.length=os.map eIt:=uq7 (by simp)
     have e2:=fun y:ItM=>show (os++[y]).map eIt=os.map eIt++[eIt y] by simp
     rcases hex with g1|⟨g1,g2⟩
     case' inl=>
      simp -dsimp -implicitDefEqProofs only [pz,Nat.reduceBEq,Nat.reduceDiv,Nat.reduceAdd,↓reduceIte,Nat.reduceEqDiff]
      simp -dsimp -implicitDefEqProofs only [go_sem,g1]
     case' inr=>
      simp -dsimp -implicitDefEqProofs only [pz,Nat.reduceBEq,Nat.reduceDiv,Nat.reduceAdd,↓reduceIte,Nat.reduceEqDiff]
      simp -dsimp -implicitDefEqProofs only [go_sem,g1,g2]
     all_goals
      (refine sCallT_io [1000000000] ?_;simp -dsimp -implicitDefEqProofs only [go_sem];refine sCallM_one (q24 _) ?_;simp -dsimp -implicitDefEqProofs only [go_sem])
      cases h0:(n.1==0) with
      |true=>
       have q2:=fun v=>c_l01Next v bs 2 n.2 b hl
       have c:=(nx_ok bs 2 b).2.2.2
       generalize nx bs 2 n.2=n2 at*
       have qp:=fun v v2=>c_l01Pick v v2 true bs [-1,0,4,9] _ n2.2 rfl (by simp) (by simp) c hl
       have pm:=pk_mem bs c (xs:=[-1,0,4,9]) (by simp)
       have po:=pk_ok bs [-1,0,4,9] c
       generalize pk bs [-1,0,4,9] n2.2=pp at*
       have qp2:=fun v v2=>c_l01Pick v v2 true bs [0,1,51] _ pp.2 rfl (by simp) (by simp) po hl
       have pm2:=pk_mem bs po (xs:=[0,1,51]) (by simp)
       have po2:=pk_ok bs [0,1,51] po
       generalize pk bs [0,1,51] pp.2=pq at*
       have pB: -1≤pp.1∧pp.1≤9:=by simp only [List.mem_cons,List.not_mem_nil,or_false] at pm;omega
       have pB2:0≤pq.1∧pq.1≤51:=by simp only [List.mem_cons,List.not_mem_nil,or_false] at pm2;omega
       simp -dsimp -implicitDefEqProofs only [go_sem,h0]
       (refine sCallT_io [1000000000] ?_;simp -dsimp -implicitDefEqProofs only [go_sem];refine sCallM_one (q2 _) ?_;simp -dsimp -implicitDefEqProofs only [go_sem])
       (refine sCallT_io [1000000000,64] ?_;simp -dsimp -implicitDefEqProofs only [go_sem];refine sCallM_one (qp _ _) ?_;simp -dsimp -implicitDefEqProofs only [go_sem])
       (refine sCallT_io [1000000000,67] ?_;simp -dsimp -implicitDefEqProofs only [go_sem];refine sCallM_one (qp2 _ _) ?_;simp -dsimp -implicitDefEqProofs only [go_sem])
       ((repeat' (with_reducible refine ai ?_ ?_));all_goals try (first|omega|(refine ⟨?_,?_⟩<;>omega)|(exact rfl)))
       refine ⟨m,t,cuts,os++[⟨n2.1==0,pp.1,pq.1⟩],pq.2,po2,t1,t2,t3,t4,by simp;omega,fun y hy=> ?_,?_⟩
       · rcases uq6.1 hy with hy|hy
         · exact x3 y hy
         · simp at hy;subst hy;exact ⟨by simp only;omega,by simp only;omega,pB2⟩
       · rw [uq7 (by simp)]
         simp [eIts]
      |false=>
       cases h1:(n.1==1) with
       |true=>
        simp -dsimp -implicitDefEqProofs only [go_sem,h0,h1]
        refine Later.lp [0,2,5,6] [75,77,82,83] [15,1000000000] (fun x:List ItM × Src=>SrcOk x.2∧x.1.length≤22∧∀y∈x.1,ItD y) (fun x=>[(7,.ref 15 0 0 x.1.length)]) (fun x=>[(15,.row 0 ⟨3,true⟩ true (x.1.map eIt)),(1000000000,srcB v bs x.2)])
         (fun x=>22-x.1.length) (os,n.2) ⟨b,by simp only;omega,x3⟩ ?_ rfl (fun x hx=> ?_)
        · simp -dsimp -implicitDefEqProofs only [go_sem]
          ((repeat' (with_reducible refine ai ?_ ?_));all_goals try (first|omega|(refine ⟨?_,?_⟩<;>omega)|(exact rfl)))
          all_goals trace_state
        · obtain ⟨ps,s3⟩:=x
          obtain ⟨y1,y2,y3⟩:=hx
          simp only at y1 y2 y3 ⊢
          have tP:(ps.map eIt).take ps.length=ps.map eIt:=uq7 (by simp)
          have e3:=fun y:ItM=>show (ps++[y]).map eIt=ps.map eIt++[eIt y] by simp
          have q2:=fun v=>c_l01Next v bs 2 s3 y1 hl
          have c:=nx_ok bs 2 y1
          have c3:=c.2.2.1 (by omega)
          generalize nx bs 2 s3=n2 at*
          simp -dsimp -implicitDefEqProofs only [pz,Nat.reduceBEq,Nat.reduceDiv,Nat.reduceAdd,↓reduceIte,Nat.reduceEqDiff]
          simp -dsimp -implicitDefEqProofs only [go_sem]
          (refine sCallT_io [1000000000] ?_;simp -dsimp -implicitDefEqProofs only [go_sem];refine sCallM_one (q2 _) ?_;simp -dsimp -implicitDefEqProofs only [go_sem])
          ((repeat' (with_reducible refine ai ?_ ?_));all_goals try (first|omega|(refine ⟨?_,?_⟩<;>omega)|(exact rfl)))
          cases hlt:decide ((ps.length:Int)<20+n2.1) with
          |true=>
           have hlt':=of_decide_eq_true hlt
           simp -dsimp -implicitDefEqProofs only [go_sem,hlt]
           ((repeat' (with_reducible refine ai ?_ ?_));all_goals try (first|omega|(refine ⟨?_,?_⟩<;>omega)|(exact rfl)))
           all_goals try (refine ⟨(ps++[⟨false,0,1⟩],n2.2),⟨c.2.2.2,by simp;omega,fun y hy=> ?_⟩,by simp;omega,?_⟩)
           all_goals try
            (rcases uq6.1 hy with hy|hy
             · exact y3 y hy
             · simp at hy;subst hy;exact ⟨by decide,by decide,by decide,by decide⟩)
           all_goals (simp -dsimp -implicitDefEqProofs only [go_sem,e3,tP])
           ((repeat' (with_reducible refine ai ?_ ?_));all_goals try (first|omega|(refine ⟨?_,?_⟩<;>omega)|(exact rfl)))
           all_goals first|(simp;done)|skip
          |false=>
           simp -dsimp -implicitDefEqProofs only [go_sem,hlt]
           ((repeat' (with_reducible refine ai ?_ ?_));all_goals try (first|omega|(refine ⟨?_,?_⟩<;>omega)|(exact rfl)))
           all_goals try
            (refine ⟨m,t,cuts,ps,n2.2,c.2.2.2,t1,t2,t3,t4,by omega,y3,?_⟩
             simp [tP,eIts])
           all_goals trace_state
       |false=>
        simp -dsimp -implicitDefEqProofs only [go_sem,h0,h1]
        ((repeat' (with_reducible refine ai ?_ ?_));all_goals try (first|omega|(refine ⟨?_,?_⟩<;>omega)|(exact rfl)))
        refine ⟨m,t,cuts,os,n.2,b,t1,t2,t3,t4,by omega,x3,?_⟩
        simp [tO,eIts]
end Go.Vc
namespace Go.Vc
open Go.Proofs Go.Lib
theorem sCallS_any2 {P:Program} {f:FuncId} {d:Nat} {xs ts:List AV} {m:Mem} {k:AV→Mem→Prop} {post:AV→Prop} (h:Fn P f ts false post) (hl:noLabs xs) (hk:∀r,post r→k r m) {q:Pack k}:sCallT P f d xs ts m k q:=.inr ⟨false,_,h,fun _=>hl,fun r hr=>hk r hr⟩
theorem fk_Item:flatK Tryz.prog 64=some [.bool,.int .i64,.int .i64]:=by kernel_rfl
attribute [local go_sem] fk_Item
theorem beqSelfI2 (x:Int):(x==x)=true:=by simp
theorem beqSelfB2 (x:Bool):(x==x)=true:=by simp
theorem c_likeItemsE (xs:List ItM) (h:xs.length≤9223372036854775807):Fn Tryz.prog 34 [eIts xs,eIts xs] true (· =eB true):=by
 refine Fn.of_vcN 26 [.tmp 4] Tryz.func34 rfl rfl rfl rfl rfl (of_decide_eq_true rfl) ?_
 simp -dsimp -implicitDefEqProofs only [go_sem]
 refine Later.up [0,1] [13] [] xs.length (fun _=>True) (fun i=>[(5,eI i)]) (fun _=>[]) trivial ?_ rfl (fun i hi _=> ?_) (fun _=> ?_)
 · simp -dsimp -implicitDefEqProofs only [go_sem]
 · have gx:=get_some hi
   generalize xs[i]=x at*
   simp -dsimp -implicitDefEqProofs only [pz,Nat.reduceBEq,Nat.reduceDiv,Nat.reduceAdd,↓reduceIte,Nat.reduceEqDiff]
   simp -dsimp -implicitDefEqProofs only [go_sem,lt_len hi]
   refine Later.draw mixed rfl ?_
   simp -dsimp -implicitDefEqProofs only [go_sem,gx,beqSelfI2,beqSelfB2]
   ((repeat' (with_reducible refine ai ?_ ?_));all_goals try (first|omega|(refine ⟨?_,?_⟩<;>omega)|(exact rfl)))
   all_goals trace_state
 · simp -dsimp -implicitDefEqProofs only [pz,Nat.reduceBEq,Nat.reduceDiv,Nat.reduceAdd,↓reduceIte,Nat.reduceEqDiff]
   simp -dsimp -implicitDefEqProofs only [go_sem,nlt_len]
theorem c_likeListsE (xs:List (List Int)) (h:xs.length≤9223372036854775807) (h2:∀x∈xs,x.length≤9223372036854775807):Fn Tryz.prog 33 [eIss xs,eIss xs] true (· =eB true):=by
 refine Fn.of_vcN 27 [.tmp 4] Tryz.func33 rfl rfl rfl rfl rfl (of_decide_eq_true rfl) ?_
 simp -dsimp -implicitDefEqProofs only [go_sem]
 refine Later.up [0,1] [13,25] [] xs.length (fun _=>True) (fun i=>[(5,eI i)]) (fun _=>[]) trivial ?_ rfl (fun i hi _=> ?_) (fun _=> ?_)
 · simp -dsimp -implicitDefEqProofs only [go_sem]
 · have gx:=get_some hi
   have hx:=h2 _ (uq4 hi)
   generalize xs[i]=x at*
   simp -dsimp -implicitDefEqProofs only [pz,Nat.reduceBEq,Nat.reduceDiv,Nat.reduceAdd,↓reduceIte,Nat.reduceEqDiff]
   simp -dsimp -implicitDefEqProofs only [go_sem,lt_len hi]
   refine Later.draw mixed rfl ?_
   simp -dsimp -implicitDefEqProofs only [go_sem,gx]
   ((repeat' (with_reducible refine ai ?_ ?_));all_goals try (first|omega|(refine ⟨?_,?_⟩<;>omega)|(exact rfl)))
   refine sCallX_one (c_likeIntsE x hx) ?_
   simp -dsimp -implicitDefEqProofs only [go_sem]
   ((repeat' (with_reducible refine ai ?_ ?_));all_goals try (first|omega|(refine ⟨?_,?_⟩<;>omega)|(exact rfl)))
   all_goals trace_state
 · simp -dsimp -implicitDefEqProofs only [pz,Nat.reduceBEq,Nat.reduceDiv,Nat.reduceAdd,↓reduceIte,Nat.reduceEqDiff]
   simp -dsimp -implicitDefEqProofs only [go_sem,nlt_len]
def OrdQ3 (x:AV):Prop:=∃(m:MkM) (t cuts:List (List Int)) (os:List ItM),t.length≤11∧(∀x∈t,x.length≤13)∧cuts.length≤11∧(∀x∈cuts,x.length≤8)∧os.length≤30∧x= .tup [eSy m t,eIss cuts,eIts os]
theorem c_DrawOrderStock (bs:List UInt8) (hl:bs.length≤4096):Fn Tryz.prog 24 [eYs bs] false OrdQ3:=by
 unfold OrdQ3
 refine Fn.of_vcS 11 [.cell 2 36,.tmp 3,.tmp 4] Tryz.func24 rfl rfl rfl rfl rfl (of_decide_eq_true rfl) ?_
 simp -dsimp -implicitDefEqProofs only [go_sem]
 (refine sCallT_inl 900000 34 [.tmp 2] Tryz.func52 rfl rfl rfl rfl rfl (by exact of_decide_eq_true rfl) ?_;simp -dsimp -implicitDefEqProofs only [go_sem];refine Later.up [0,3] [10] [7] (min bs.length 64) (fun _=>True) (fun i=>[(4,eI i)]) (fun i=>[(7,srcB 0 bs ⟨seedAt bs i,0⟩)]) trivial ?_ rfl (fun i hi _=> ?_) (fun _=> ?_))
 · simp -dsimp -implicitDefEqProofs only [go_sem]
   simp [seedAt]
 · ((have h1:i<bs.length:=by omega);(have h2:i<64:=by omega);(have hs:=seedAt_ok bs i);(have hb:=(bs[i]).toNat_lt);(have d1:=lt_len h1);(have d2:decide ((i:Int)<64)=true:=decide_eq_true (by omega));(have g1:=get_some h1);(have e1:=seedAt_succ h1);simp -dsimp -implicitDefEqProofs only [pz,Nat.reduceBEq,Nat.reduceDiv,Nat.reduceAdd,↓reduceIte,Nat.reduceEqDiff];rw [e1];generalize bs[i]=b at*;generalize seedAt bs i=z at*;simp -dsimp -implicitDefEqProofs only [go_sem,d1,d2];refine Later.draw mixed rfl ?_;simp -dsimp -implicitDefEqProofs only [go_sem,g1];(repeat' (with_reducible refine ai ?_ ?_));all_goals (first|omega|(refine ⟨?_,?_⟩<;>omega)|(exact rfl)|(simp;done)|skip))
 (have hs:=src0_ok bs);(have hq:(⟨seedAt bs (min bs.length 64),0⟩:Src)=src0 bs:=rfl);rw [hq];clear hq;generalize src0 bs=s at*;(have d64:decide (((64:Nat):Int)<64)=false:=rfl)
 rcases Nat.lt_or_ge 64 bs.length with h64|h64
 case' inl=>(rw [Nat.min_eq_right (Nat.le_of_lt h64)];simp -dsimp -implicitDefEqProofs only [pz,Nat.reduceBEq,Nat.reduceDiv,Nat.reduceAdd,↓reduceIte,Nat.reduceEqDiff];simp -dsimp -implicitDefEqProofs only [go_sem,lt_len h64,d64])
 case' inr=>(rw [Nat.min_eq_left h64];simp -dsimp -implicitDefEqProofs only [pz,Nat.reduceBEq,Nat.reduceDiv,Nat.reduceAdd,↓reduceIte,Nat.reduceEqDiff];simp -dsimp -implicitDefEqProofs only [go_sem,nlt_len])
 all_goals
  refine sCallT_ioR [900007] ?_
  simp -dsimp -implicitDefEqProofs only [go_sem]
  refine sCallMR_any (c_l29Draw _ bs s hs hl) ?_
  rintro _ _ ⟨m,t,cuts,os,s2,o1,o2,o3,o4,o5,o6,o7,rfl,rfl⟩
  simp -dsimp -implicitDefEqProofs only [go_sem]
  ((repeat' (with_reducible refine ai ?_ ?_));all_goals try (first|omega|(refine ⟨?_,?_⟩<;>omega)|(exact rfl)))
  all_goals first|(exact ⟨m,t,cuts,os,o2,o3,o4,o5,o6,rfl⟩)|skip
def TakeQ (x:AV):Prop:=∃(m:MkM) (t:List (List Int)) (os:List ItM) (i:Int),t.length≤11∧(∀x∈t,x.length≤13)∧os.length≤30∧ -100≤i∧i≤100∧x= .tup [eSy m t,eIts os,eI i]
theorem quo_small {n k:Int} (h:0≤n) (hk:0<k) (h2:n≤k):0≤n.tdiv k∧n.tdiv k≤1:=by
 rw [Int.tdiv_eq_ediv_of_nonneg h]
 constructor
 · exact Int.ediv_nonneg h (by omega)
 · have:n / k<2:=Int.ediv_lt_of_lt_mul hk (by omega)
   omega
theorem c_DrawTakeItem (bs:List UInt8) (hl:bs.length≤4096):Fn Tryz.prog 29 [eYs bs] false TakeQ:=by
 unfold TakeQ
 refine Fn.of_vcS 31 [.cell 2 36,.tmp 3,.tmp 4] Tryz.func29 rfl rfl rfl rfl rfl (of_decide_eq_true rfl) ?_
 simp -dsimp -implicitDefEqProofs only [go_sem]
 (refine sCallT_inl 900000 34 [.tmp 2] Tryz.func52 rfl rfl rfl rfl rfl (by exact of_decide_eq_true rfl) ?_;simp -dsimp -implicitDefEqProofs only [go_sem];refine Later.up [0,3] [10] [7] (min bs.length 64) (fun _=>True) (fun i=>[(4,eI i)]) (fun i=>[(7,srcB 0 bs ⟨seedAt bs i,0⟩)]) trivial ?_ rfl (fun i hi _=> ?_) (fun _=> ?_))
 · simp -dsimp -implicitDefEqProofs only [go_sem]
   simp [seedAt]
 · ((have h1:i<bs.length:=by omega);(have h2:i<64:=by omega);(have hs:=seedAt_ok bs i);(have hb:=(bs[i]).toNat_lt);(have d1:=lt_len h1);(have d2:decide ((i:Int)<64)=true:=decide_eq_true (by omega));(have g1:=get_some h1);(have e1:=seedAt_succ h1);simp -dsimp -implicitDefEqProofs only [pz,Nat.reduceBEq,Nat.reduceDiv,Nat.reduceAdd,↓reduceIte,Nat.reduceEqDiff];rw [e1];generalize bs[i]=b at*;generalize seedAt bs i=z at*;simp -dsimp -implicitDefEqProofs only [go_sem,d1,d2];refine Later.draw mixed rfl ?_;simp -dsimp -implicitDefEqProofs only [go_sem,g1];(repeat' (with_reducible refine ai ?_ ?_));all_goals (first|omega|(refine ⟨?_,?_⟩<;>omega)|(exact rfl)|(simp;done)|skip))
 (have hs:=src0_ok bs);(have hq:(⟨seedAt bs (min bs.length 64),0⟩:Src)=src0 bs:=rfl);rw [hq];clear hq;generalize src0 bs=s at*;(have d64:decide (((64:Nat):Int)<64)=false:=rfl)
 rcases Nat.lt_or_ge 64 bs.length with h64|h64
 case' inl=>(rw [Nat.min_eq_right (Nat.le_of_lt h64)];simp -dsimp -implicitDefEqProofs only [pz,Nat.reduceBEq,Nat.reduceDiv,Nat.reduceAdd,↓reduceIte,Nat.reduceEqDiff];simp -dsimp -implicitDefEqProofs only [go_sem,lt_len h64,d64])
 case' inr=>(rw [Nat.min_eq_left h64];simp -dsimp -implicitDefEqProofs only [pz,Nat.reduceBEq,Nat.reduceDiv,Nat.reduceAdd,↓reduceIte,Nat.reduceEqDiff];simp -dsimp -implicitDefEqProofs only [go_sem,nlt_len])
 all_goals
  refine sCallT_ioR [900007] ?_
  simp -dsimp -implicitDefEqProofs only [go_sem]
  refine sCallMR_any (c_l29Draw _ bs s hs hl) ?_
  rintro _ _ ⟨m,t,cuts,os,s2,o1,o2,o3,o4,o5,o6,o7,rfl,rfl⟩
  have q12:=fun v=>c_l01Next v bs 12 s2 o1 hl
  have a:=nx_ok bs 12 o1
  have a3:=a.2.2.1 (by omega)
  have hq:=quo_small (n:=(nx bs 12 s2).1) (k:=11) (by omega) (by omega) (by omega)
  generalize nx bs 12 s2=n1 at*
  have qq:=fun v=>c_l01Next v bs ((os.length:Int)+n1.1.tdiv 11) n1.2 a.2.2.2 hl
  have b:=nx_ok bs ((os.length:Int)+n1.1.tdiv 11) a.2.2.2
  generalize hq1:n1.1.tdiv 11=q1 at*
  have bB:0≤(nx bs ((os.length:Int)+q1) n1.2).1∧(nx bs ((os.length:Int)+q1) n1.2).1≤40:=by
   by_cases h1:((os.length:Int)+q1)≤1
   · rw [b.2.1 h1];omega
   · have:=b.2.2.1 (by omega);omega
  generalize nx bs ((os.length:Int)+q1) n1.2=n2 at*
  have q24:=fun v=>c_l01Next v bs 24 n2.2 b.2.2.2 hl
  have c:=nx_ok bs 24 b.2.2.2
  have c3:=c.2.2.1 (by omega)
  have hq2:=quo_small (n:=(nx bs 24 n2.2).1) (k:=23) (by omega) (by omega) (by omega)
  generalize nx bs 24 n2.2=n3 at*
  generalize hq3:n3.1.tdiv 23=q3 at*
  simp -dsimp -implicitDefEqProofs only [go_sem]
  refine Later.draw mixed rfl ?_
  simp -dsimp -implicitDefEqProofs only [go_sem]
  refine sCallX_io [900007] rfl ?_
  simp -dsimp -implicitDefEqProofs only [go_sem]
  refine sCallMX_one (q12 _) ?_
  simp -dsimp -implicitDefEqProofs only [go_sem,hq1]
  ((repeat' (with_reducible refine ai ?_ ?_));all_goals try (first|omega|(refine ⟨?_,?_⟩<;>omega)|(exact rfl)))
  (refine sCallX_io [900007] rfl ?_;simp -dsimp -implicitDefEqProofs only [go_sem];refine sCallMX_one (qq _) ?_;simp -dsimp -implicitDefEqProofs only [go_sem])
  ((repeat' (with_reducible refine ai ?_ ?_));all_goals try (first|omega|(refine ⟨?_,?_⟩<;>omega)|(exact rfl)))
  refine sCallX_io [900007] rfl ?_
  simp -dsimp -implicitDefEqProofs only [go_sem]
  refine sCallMX_one (q24 _) ?_
  simp -dsimp -implicitDefEqProofs only [go_sem,hq3]
  ((repeat' (with_reducible refine ai ?_ ?_));all_goals try (first|omega|(refine ⟨?_,?_⟩<;>omega)|(exact rfl)))
  all_goals first|(exact ⟨m,t,os,n2.1-q3,o2,o3,o6,by omega,by omega,rfl⟩)|skip
end Go.Vc
namespace Go.Vc
open Go.Proofs
def inc1 (xs:List Int) (d:Int):List Int:=xs.set d.toNat (xs.getD d.toNat 0+1)
def stkTo (set:List Int):Nat→List Int
 |0=>[set.getD 0 0]
 |i+1=>stkTo set i++[set.getD (i+1) 0-set.getD i 0]
theorem stkTo_zero (set:List Int):stkTo set 0=[set.getD 0 0]:=rfl
theorem stkTo_succ (set:List Int) (i:Nat):stkTo set (i+1)=stkTo set i++[set.getD (i+1) 0-set.getD i 0]:=rfl
theorem stkTo_len (set:List Int):∀i,(stkTo set i).length=i+1
 |0=>rfl
 |i+1=>by rw [stkTo_succ,List.length_append,stkTo_len set i];rfl
def stk (m:MkM) (set:List Int):List Int:=stkTo set (set.length-1)++[m.depths-1-set.getD (set.length-1) 0]
theorem stk_len {m:MkM} {set:List Int} (h:0<set.length):(stk m set).length=set.length+1:=by
 rw [stk,List.length_append,stkTo_len];simp;omega
theorem rises_get {xs:List Int} {n:Int} (h:rises xs n=true) {i:Nat} (hi:i<xs.length):0≤xs.getD i 0∧xs.getD i 0<n∧(0<i→xs.getD (i-1) 0<xs.getD i 0):=by
 unfold rises at h
 rw [uq1] at h
 have:=h i (List.mem_range.2 hi)
 simp only [riseAt,uq0,Bool.or_eq_true,decide_eq_true_eq,beq_iff_eq] at this
 exact ⟨this.1.1,this.1.2,fun h0=>this.2.resolve_left (by omega)⟩
theorem stkTo_in {m:MkM} {set:List Int} (h:rises set m.depths=true):∀i,i<set.length→∀x∈stkTo set i,0≤x∧x<m.depths
 |0,hi,x,hx=>by
  have:=rises_get h hi
  simp only [stkTo_zero,List.mem_singleton] at hx
  subst hx;omega
 |i+1,hi,x,hx=>by
  rw [stkTo_succ] at hx
  rcases uq6.1 hx with hx|hx
  · exact stkTo_in h i (by omega) x hx
  · simp only [List.mem_singleton] at hx
    subst hx
    have h1:=rises_get h hi
    have h2:=rises_get h (show i<set.length by omega)
    have:=h1.2.2 (by omega)
    simp only [Nat.add_sub_cancel] at this
    omega
theorem stk_in {m:MkM} {set:List Int} (h:lockSet m set=true):0<set.length∧∀x∈stk m set,0≤x∧x<m.depths:=by
 simp only [lockSet,uq0,decide_eq_true_eq] at h
 have h0:0<set.length:=by omega
 refine ⟨h0,fun x hx=> ?_⟩
 rcases uq6.1 hx with hx|hx
 · exact stkTo_in h.2 _ (by omega) x hx
 · simp only [List.mem_singleton] at hx
   have:=rises_get h.2 (show set.length-1<set.length by omega)
   subst hx;omega
def okS (D:Nat) (c:Int) (xs:List Int):Prop:=xs.length=D∧∀i,i<D→0≤xs.getD i 0∧xs.getD i 0≤c
theorem okS.mono {D:Nat} {c c':Int} {xs:List Int} (h:okS D c xs) (hc:c≤c'):okS D c' xs:=⟨h.1,fun i hi=>by have:=h.2 i hi;omega⟩
theorem getD_set (xs:List Int) (i j:Nat) (x:Int):(xs.set i x).getD j 0=if i=j∧i<xs.length then x else xs.getD j 0:=by
 rw [uq2,List.getElem?_set]
 by_cases h:i=j
 · by_cases h2:i<xs.length
   · rw [if_pos h,if_pos h2,if_pos ⟨h,h2⟩];rfl
   · rw [if_pos h,if_neg h2,if_neg (fun h=>h2 h.2),uq2,List.getElem?_eq_none (by omega)]
 · rw [if_neg h,if_neg (fun h2=>h h2.1),uq2]
theorem okS.inc {D:Nat} {c:Int} {xs:List Int} (h:okS D c xs) (d:Int):okS D (c+1) (inc1 xs d):=by
 refine ⟨by simp [inc1,h.1],fun i hi=> ?_⟩
 have h1:=h.2 i hi
 unfold inc1
 rw [getD_set]
 split
 · rename_i h2;rw [h2.1];omega
 · omega
theorem okS.zero (D:Nat):okS D 0 (List.replicate D 0):=⟨by simp,fun i hi=>by simp [uq2,hi]⟩
def wTo (w s:List Int):Nat→List Int
 |0=>w
 |k+1=>inc1 (wTo w s k) (s.getD (k+1) 0)
theorem wTo_zero (w s:List Int):wTo w s 0=w:=rfl
theorem wTo_succ (w s:List Int) (k:Nat):wTo w s (k+1)=inc1 (wTo w s k) (s.getD (k+1) 0):=rfl
theorem wTo_ok {D:Nat} {c:Int} {w:List Int} (h:okS D c w) (s:List Int):∀k:Nat,okS D (c+k) (wTo w s k)
 |0=>h.mono (by simp)
 |k+1=>((wTo_ok h s k).inc _).mono (by omega)
structure St3 where
 b:List Int
 w:List Int
 d:List Int
def ok3 (D:Nat) (c:Int) (s:St3):Prop:=okS D c s.b∧okS D c s.w∧okS D c s.d
theorem ok3.mono {D:Nat} {c c':Int} {s:St3} (h:ok3 D c s) (hc:c≤c'):ok3 D c' s:=⟨h.1.mono hc,h.2.1.mono hc,h.2.2.mono hc⟩
def st1 (z:St3) (s:List Int):St3:=⟨inc1 z.b (s.getD 0 0),wTo z.w s (s.length-2),inc1 z.d (s.getD (s.length-1) 0)⟩
theorem st1_ok {D:Nat} {c:Int} {z:St3} (h:ok3 D c z) (s:List Int):ok3 D (c+1+s.length) (st1 z s):=
 ⟨(h.1.inc _).mono (by omega),(wTo_ok h.2.1 s _).mono (by omega),(h.2.2.inc _).mono (by omega)⟩
def pins (m:MkM) (l:List (List Int)):List (List Int):=l.map (stk m)
def stTo (ps:List (List Int)) (z:St3):Nat→St3
 |0=>z
 |c+1=>st1 (stTo ps z c) (ps.getD c [])
theorem stTo_zero (ps:List (List Int)) (z:St3):stTo ps z 0=z:=rfl
theorem stTo_succ (ps:List (List Int)) (z:St3) (c:Nat):stTo ps z (c+1)=st1 (stTo ps z c) (ps.getD c []):=rfl
theorem stTo_ok {D:Nat} {z:St3} (h:ok3 D 0 z) {ps:List (List Int)} (hp:∀p∈ps,p.length≤1048577):∀c:Nat,c≤ps.length→ok3 D ((c:Int)*1048578) (stTo ps z c)
 |0,_=>h.mono (by simp)
 |c+1,hc=>by
  have ih:=stTo_ok h hp c (by omega)
  have hl:(ps.getD c []).length≤1048577:=by
   rw [uq2,uq3 (by omega)]
   exact hp _ (uq4 _)
  exact (st1_ok ih _).mono (by omega)
def zero3 (D:Nat):St3:=⟨List.replicate D 0,List.replicate D 0,List.replicate D 0⟩
theorem zero3_ok (D:Nat):ok3 D 0 (zero3 D):=⟨okS.zero D,okS.zero D,okS.zero D⟩
def stockL (m:MkM) (l:List (List Int)):St3:=stTo (pins m l) (zero3 m.depths.toNat) l.length
theorem stockL_ok {m:MkM} {l:List (List Int)} (hl:isLk0 m l=true) (hm:isMk m=true) (h2:∀x∈l,x.length≤1048576):ok3 m.depths.toNat 7000000 (stockL m l):=by
 have hn:=isMk_num hm
 simp only [isLk0,uq0,uq1,beq_iff_eq] at hl
 have hp:∀p∈pins m l,p.length≤1048577:=fun p hp=>by
  obtain ⟨x,hx,rfl⟩:=List.mem_map.1 hp
  have h3:=stk_in (hl.2 x hx)
  rw [stk_len h3.1]
  have:=h2 x hx
  omega
 exact (stTo_ok (zero3_ok _) hp l.length (by simp [pins])).mono (by omega)
def addM (xs a:List Int) (c:Int):Nat→List Int
 |0=>xs
 |k+1=>(addM xs a c k).set k (xs.getD k 0+c*a.getD k 0)
theorem addM_zero (xs a:List Int) (c:Int):addM xs a c 0=xs:=rfl
theorem addM_succ (xs a:List Int) (c:Int) (k:Nat):addM xs a c (k+1)=(addM xs a c k).set k (xs.getD k 0+c*a.getD k 0):=rfl
theorem addM_len (xs a:List Int) (c:Int):∀k,(addM xs a c k).length=xs.length
 |0=>rfl
 |k+1=>by rw [addM_succ,List.length_set,addM_len xs a c k]
theorem addM_get (xs a:List Int) (c:Int):∀k j,(addM xs a c k).getD j 0=if j<k∧j<xs.length then xs.getD j 0+c*a.getD j 0 else xs.getD j 0
 |0,j=>by rw [addM_zero,if_neg (by omega)]
 |k+1,j=>by
  rw [addM_succ,getD_set,addM_len,addM_get xs a c k j]
  by_cases h:k=j
  · subst h
    by_cases h2:k<xs.length
    · rw [if_pos ⟨rfl,h2⟩,if_pos ⟨by omega,h2⟩]
    · rw [if_neg (fun h=>h2 h.2),if_neg (fun h=>h2 h.2),if_neg (fun h=>h2 h.2)]
  · rw [if_neg (fun h2=>h h2.1)]
    by_cases h2:j<k∧j<xs.length
    · rw [if_pos h2,if_pos ⟨by omega,h2.2⟩]
    · rw [if_neg h2,if_neg (by omega)]
theorem addM_ok {D:Nat} {p q:Int} {xs a:List Int} {c:Int} (h:okS D p xs) (ha:okS D q a) (hc:0≤c∧c≤50) (k:Nat):okS D (p+50*q) (addM xs a c k):=by
 refine ⟨by rw [addM_len];exact h.1,fun i hi=> ?_⟩
 have h1:=h.2 i hi
 have h2:=ha.2 i hi
 have h3:0≤c*a.getD i 0:=Int.mul_nonneg hc.1 h2.1
 have h4:c*a.getD i 0≤50*q:=Int.le_trans (Int.mul_le_mul_of_nonneg_right hc.2 h2.1) (Int.mul_le_mul_of_nonneg_left h2.2 (by decide))
 rw [addM_get]
 split<;>omega
def add3 (z q:St3) (c:Int) (D:Nat):St3:=⟨addM z.b q.b c D,addM z.w q.w c D,addM z.d q.d c D⟩
def osStep (m:MkM) (t cuts:List (List Int)) (z:St3) (x:ItM):St3:=if x.key=true then z else add3 z (stockL m (lockAt m t cuts x.index.toNat)) x.copies m.depths.toNat
def osTo (m:MkM) (t cuts:List (List Int)) (os:List ItM):Nat→St3
 |0=>zero3 m.depths.toNat
 |i+1=>osStep m t cuts (osTo m t cuts os i) (os.getD i default)
theorem osTo_zero (m:MkM) (t cuts:List (List Int)) (os:List ItM):osTo m t cuts os 0=zero3 m.depths.toNat:=rfl
theorem osTo_succ (m:MkM) (t cuts:List (List Int)) (os:List ItM) (i:Nat):osTo m t cuts os (i+1)=osStep m t cuts (osTo m t cuts os i) (os.getD i default):=rfl
end Go.Vc
namespace Go.Vc
open Go.Proofs
theorem c_l05Stack (m:MkM) (set:List Int) (hm:isMk m=true) (hs:lockSet m set=true) (h:set.length≤1048576):Fn Tryz.prog 109 [eMk m,eIs set] true (· =eIs (stk m set)):=by
 refine Fn.of_vcN 43 [.tmp 4] Tryz.func109 rfl rfl rfl rfl rfl (of_decide_eq_true rfl) ?_
 have ⟨⟨n1,n2⟩,n3,n4⟩:=isMk_num hm
 obtain ⟨h0,hin⟩:=stk_in hs
 have hr:rises set m.depths=true:=by simp only [lockSet,uq0] at hs;exact hs.2
 have g0:=get_some h0
 have hg0:set.getD 0 0=set[0]:=by simp [uq2,h0]
 simp -dsimp -implicitDefEqProofs only [go_sem,g0]
 refine ⟨by omega,?_⟩
 refine Later.up [1,2] [13,28,29] [10] (set.length-1) (fun _=>True) (fun j=>[(6,eI (1+(j:Int))),(5,.ref 10 0 0 (stkTo set j).length)]) (fun j=>[(10,.row 0 ⟨1,false⟩ true ((stkTo set j).map eI))]) trivial ?_ rfl (fun j hj _=> ?_) (fun _=> ?_)
 · simp -dsimp -implicitDefEqProofs only [go_sem,stkTo_zero,hg0]
   ((repeat' (with_reducible refine ai ?_ ?_));all_goals try (first|omega|(refine ⟨?_,?_⟩<;>omega)|(exact rfl)))
 · have hlen:=stkTo_len set j
   have h1:j<set.length:=by omega
   have h2:j+1<set.length:=by omega
   have a1:=rises_get hr h1
   have a2:=rises_get hr h2
   have e1:set.getD j 0=set[j]:=by simp [uq2,h1]
   have e2:set.getD (j+1) 0=set[j+1]:=by simp [uq2,h2]
   have g1:set[(1+(j:Int)-1).toNat]? =some set[j]:=by rw [show (1+(j:Int)-1).toNat=j by omega];exact get_some h1
   have g2:set[(1+(j:Int)).toNat]? =some set[j+1]:=by rw [show (1+(j:Int)).toNat=j+1 by omega];exact get_some h2
   have hlt:decide (1+(j:Int)<(set.length:Int))=true:=decide_eq_true (by omega)
   rw [stkTo_succ,e1,e2]
   rw [e1] at a1
   rw [e2] at a2
   generalize stkTo set j=F at*
   generalize set[j]=x at*
   generalize set[j+1]=y at*
   have htk:=take_map_all eI F F.length (uq9 _)
   simp -dsimp -implicitDefEqProofs only [pz,Nat.reduceBEq,Nat.reduceDiv,Nat.reduceAdd,↓reduceIte,Nat.reduceEqDiff]
   simp -dsimp -implicitDefEqProofs only [go_sem,hlt]
   refine Later.draw mixed rfl ?_
   simp -dsimp -implicitDefEqProofs only [go_sem,g1,g2,htk]
   ((repeat' (with_reducible refine ai ?_ ?_));all_goals try (first|omega|(refine ⟨?_,?_⟩<;>omega)|(exact rfl)))
   all_goals first|(simp;done)|(simp;omega)|skip
 · have hlen:=stkTo_len set (set.length-1)
   have h1:set.length-1<set.length:=by omega
   have a1:=rises_get hr h1
   have e1:set.getD (set.length-1) 0=set[set.length-1]:=by simp [uq2,h1]
   have g1:set[((set.length:Int)-1).toNat]? =some set[set.length-1]:=by rw [show ((set.length:Int)-1).toNat=set.length-1 by omega];exact get_some h1
   have hlt:decide (1+((set.length-1:Nat):Int)<(set.length:Int))=false:=decide_eq_false (by omega)
   unfold stk
   rw [e1]
   rw [e1] at a1
   generalize stkTo set (set.length-1)=F at*
   generalize set[set.length-1]=x at*
   have htk:=take_map_all eI F F.length (uq9 _)
   have htk2:∀z,List.take (F.length+1) (List.map eI F++[eI z])=List.map eI F++[eI z]:=fun z=>uq7 (by simp)
   simp -dsimp -implicitDefEqProofs only [pz,Nat.reduceBEq,Nat.reduceDiv,Nat.reduceAdd,↓reduceIte,Nat.reduceEqDiff]
   simp -dsimp -implicitDefEqProofs only [go_sem,hlt]
   refine Later.draw mixed rfl ?_
   simp -dsimp -implicitDefEqProofs only [go_sem,g1,htk,htk2]
   ((repeat' (with_reducible refine ai ?_ ?_));all_goals try (first|omega|(refine ⟨?_,?_⟩<;>omega)|(exact rfl)))
   all_goals first|exact rfl|(simp;done)|skip
theorem c_stackOf (m:MkM) (set:List Int) (hm:isMk m=true) (hs:lockSet m set=true) (h:set.length≤1048576):Fn Tryz.prog 107 [eMk m,eIs set] true (· =eIs (stk m set)):=by
 refine Fn.of_vcN 43 [.tmp 4] Tryz.func107 rfl rfl rfl rfl rfl (of_decide_eq_true rfl) ?_
 have ⟨⟨n1,n2⟩,n3,n4⟩:=isMk_num hm
 obtain ⟨h0,hin⟩:=stk_in hs
 have hr:rises set m.depths=true:=by simp only [lockSet,uq0] at hs;exact hs.2
 have g0:=get_some h0
 have hg0:set.getD 0 0=set[0]:=by simp [uq2,h0]
 simp -dsimp -implicitDefEqProofs only [go_sem,g0]
 refine ⟨by omega,?_⟩
 refine Later.up [1,2] [13,28,29] [10] (set.length-1) (fun _=>True) (fun j=>[(6,eI (1+(j:Int))),(5,.ref 10 0 0 (stkTo set j).length)]) (fun j=>[(10,.row 0 ⟨1,false⟩ true ((stkTo set j).map eI))]) trivial ?_ rfl (fun j hj _=> ?_) (fun _=> ?_)
 · simp -dsimp -implicitDefEqProofs only [go_sem,stkTo_zero,hg0]
   ((repeat' (with_reducible refine ai ?_ ?_));all_goals try (first|omega|(refine ⟨?_,?_⟩<;>omega)|(exact rfl)))
 · have hlen:=stkTo_len set j
   have h1:j<set.length:=by omega
   have h2:j+1<set.length:=by omega
   have a1:=rises_get hr h1
   have a2:=rises_get hr h2
   have e1:set.getD j 0=set[j]:=by simp [uq2,h1]
   have e2:set.getD (j+1) 0=set[j+1]:=by simp [uq2,h2]
   have g1:set[(1+(j:Int)-1).toNat]? =some set[j]:=by rw [show (1+(j:Int)-1).toNat=j by omega];exact get_some h1
   have g2:set[(1+(j:Int)).toNat]? =some set[j+1]:=by rw [show (1+(j:Int)).toNat=j+1 by omega];exact get_some h2
   have hlt:decide (1+(j:Int)<(set.length:Int))=true:=decide_eq_true (by omega)
   rw [stkTo_succ,e1,e2]
   rw [e1] at a1
   rw [e2] at a2
   generalize stkTo set j=F at*
   generalize set[j]=x at*
   generalize set[j+1]=y at*
   have htk:=take_map_all eI F F.length (uq9 _)
   simp -dsimp -implicitDefEqProofs only [pz,Nat.reduceBEq,Nat.reduceDiv,Nat.reduceAdd,↓reduceIte,Nat.reduceEqDiff]
   simp -dsimp -implicitDefEqProofs only [go_sem,hlt]
   refine Later.draw mixed rfl ?_
   simp -dsimp -implicitDefEqProofs only [go_sem,g1,g2,htk]
   ((repeat' (with_reducible refine ai ?_ ?_));all_goals try (first|omega|(refine ⟨?_,?_⟩<;>omega)|(exact rfl)))
   all_goals first|(simp;done)|(simp;omega)|skip
 · have hlen:=stkTo_len set (set.length-1)
   have h1:set.length-1<set.length:=by omega
   have a1:=rises_get hr h1
   have e1:set.getD (set.length-1) 0=set[set.length-1]:=by simp [uq2,h1]
   have g1:set[((set.length:Int)-1).toNat]? =some set[set.length-1]:=by rw [show ((set.length:Int)-1).toNat=set.length-1 by omega];exact get_some h1
   have hlt:decide (1+((set.length-1:Nat):Int)<(set.length:Int))=false:=decide_eq_false (by omega)
   unfold stk
   rw [e1]
   rw [e1] at a1
   generalize stkTo set (set.length-1)=F at*
   generalize set[set.length-1]=x at*
   have htk:=take_map_all eI F F.length (uq9 _)
   have htk2:∀z,List.take (F.length+1) (List.map eI F++[eI z])=List.map eI F++[eI z]:=fun z=>uq7 (by simp)
   simp -dsimp -implicitDefEqProofs only [pz,Nat.reduceBEq,Nat.reduceDiv,Nat.reduceAdd,↓reduceIte,Nat.reduceEqDiff]
   simp -dsimp -implicitDefEqProofs only [go_sem,hlt]
   refine Later.draw mixed rfl ?_
   simp -dsimp -implicitDefEqProofs only [go_sem,g1,htk,htk2]
   ((repeat' (with_reducible refine ai ?_ ?_));all_goals try (first|omega|(refine ⟨?_,?_⟩<;>omega)|(exact rfl)))
   all_goals first|exact rfl|(simp;done)|skip
theorem c_l05Pins (m:MkM) (l:List (List Int)) (hm:isMk m=true) (hl:isLk0 m l=true) (h2:∀x∈l,x.length≤1048576):Fn Tryz.prog 87 [eMk m,eLk l] false (· =eIss (pins m l)):=by
 have ⟨⟨n1,n2⟩,n3,n4⟩:=isMk_num hm
 simp only [isLk0,uq0,uq1,beq_iff_eq] at hl
 obtain ⟨hl1,hl2⟩:=hl
 refine Fn.of_vcS 26 [.tmp 4] Tryz.func87 rfl rfl rfl rfl rfl (of_decide_eq_true rfl) ?_
 simp -dsimp -implicitDefEqProofs only [go_sem]
 refine Later.up [2,3] [11,22,23,24] [7] l.length (fun _=>True) (fun i=>[(6,eI i),(5,.ref 7 0 0 i)]) (fun i=>[(7,.row 0 ⟨1,false⟩ (i==0) (((l.take i).map (stk m)).map eIs))]) trivial ?_ rfl (fun i hi _=> ?_) (fun _=> ?_)
 · simp -dsimp -implicitDefEqProofs only [go_sem,uq8,List.map_nil]
 · have gi:=get_some hi
   have li:=lt_len hi
   have hq:=c_l05Stack m l[i] hm (hl2 _ (uq4 hi)) (h2 _ (uq4 hi))
   have ht:(l.take (i+1)).map (stk m)=(l.take i).map (stk m)++[stk m l[i]]:=by rw [List.take_succ_eq_append_getElem hi,List.map_append];rfl
   have hln:((l.take i).map (stk m)).length=i:=by simp;omega
   rw [ht]
   generalize (l.take i).map (stk m)=F at*
   generalize stk m l[i]=s at*
   generalize l[i]=x at*
   have htk:=take_map_all eIs F i (by omega)
   have e0:(i+1==0)=false:=rfl
   have e2:List.map eIs (F++[s])=List.map eIs F++[eIs s]:=by simp
   simp -dsimp -implicitDefEqProofs only [pz,Nat.reduceBEq,Nat.reduceDiv,Nat.reduceAdd,↓reduceIte,Nat.reduceEqDiff]
   simp -dsimp -implicitDefEqProofs only [go_sem,li,gi]
   refine Later.draw mixed rfl ?_
   simp -dsimp -implicitDefEqProofs only [go_sem,gi]
   ((repeat' (with_reducible refine ai ?_ ?_));all_goals try (first|omega|(refine ⟨?_,?_⟩<;>omega)|(exact rfl)))
   refine sCallX_one hq ?_
   simp -dsimp -implicitDefEqProofs only [go_sem]
   refine .inr ⟨by omega,by omega,(by cases i with|zero=>exact .inr rfl|succ i=>exact .inl rfl),by exact rfl,⟨by omega,by omega⟩,rfl,?_⟩
   rw [e0,e2]
   simp -dsimp -implicitDefEqProofs only [go_sem,htk]
   all_goals first|(simp;done)|skip
 · rw [List.take_length]
   unfold pins
   have hln:(l.map (stk m)).length=l.length:=by simp
   generalize l.map (stk m)=F at*
   have htk:=take_map_all eIs F l.length (by omega)
   simp -dsimp -implicitDefEqProofs only [pz,Nat.reduceBEq,Nat.reduceDiv,Nat.reduceAdd,↓reduceIte,Nat.reduceEqDiff]
   simp -dsimp -implicitDefEqProofs only [go_sem,nlt_len]
   ((repeat' (with_reducible refine ai ?_ ?_));all_goals try (first|omega|(refine ⟨?_,?_⟩<;>omega)|(exact rfl)))
   all_goals rw [htk]
theorem c_pinsOf (m:MkM) (l:List (List Int)) (hm:isMk m=true) (hl:isLk0 m l=true) (h2:∀x∈l,x.length≤1048576):Fn Tryz.prog 84 [eMk m,eLk l] false (· =eIss (pins m l)):=by
 have ⟨⟨n1,n2⟩,n3,n4⟩:=isMk_num hm
 simp only [isLk0,uq0,uq1,beq_iff_eq] at hl
 obtain ⟨hl1,hl2⟩:=hl
 refine Fn.of_vcS 24 [.tmp 4] Tryz.func84 rfl rfl rfl rfl rfl (of_decide_eq_true rfl) ?_
 simp -dsimp -implicitDefEqProofs only [go_sem]
 refine Later.up [2,10,11] [19,20,21] [8] l.length (fun _=>True) (fun i=>[(12,eI i),(5,.ref 8 0 0 i)]) (fun i=>[(8,.row 0 ⟨1,false⟩ (i==0) (((l.take i).map (stk m)).map eIs))]) trivial ?_ rfl (fun i hi _=> ?_) (fun _=> ?_)
 · simp -dsimp -implicitDefEqProofs only [go_sem,uq8,List.map_nil]
 · have gi:=get_some hi
   have li:=lt_len hi
   have hq:=c_stackOf m l[i] hm (hl2 _ (uq4 hi)) (h2 _ (uq4 hi))
   have ht:(l.take (i+1)).map (stk m)=(l.take i).map (stk m)++[stk m l[i]]:=by rw [List.take_succ_eq_append_getElem hi,List.map_append];rfl
   have hln:((l.take i).map (stk m)).length=i:=by simp;omega
   rw [ht]
   generalize (l.take i).map (stk m)=F at*
   generalize stk m l[i]=s at*
   generalize l[i]=x at*
   have htk:=take_map_all eIs F i (by omega)
   have e0:(i+1==0)=false:=rfl
   have e2:List.map eIs (F++[s])=List.map eIs F++[eIs s]:=by simp
   simp -dsimp -implicitDefEqProofs only [pz,Nat.reduceBEq,Nat.reduceDiv,Nat.reduceAdd,↓reduceIte,Nat.reduceEqDiff]
   simp -dsimp -implicitDefEqProofs only [go_sem,li,gi]
   ((repeat' (with_reducible refine ai ?_ ?_));all_goals try (first|omega|(refine ⟨?_,?_⟩<;>omega)|(exact rfl)))
   refine sCallT_one hq ?_
   simp -dsimp -implicitDefEqProofs only [go_sem]
   refine .inr ⟨by omega,by omega,(by cases i with|zero=>exact .inr rfl|succ i=>exact .inl rfl),⟨by omega,by omega⟩,rfl,?_⟩
   rw [e0,e2]
   simp -dsimp -implicitDefEqProofs only [go_sem,htk]
   all_goals first|(simp;done)|skip
 · rw [List.take_length]
   unfold pins
   have hln:(l.map (stk m)).length=l.length:=by simp
   generalize l.map (stk m)=F at*
   have htk:=take_map_all eIs F l.length (by omega)
   simp -dsimp -implicitDefEqProofs only [pz,Nat.reduceBEq,Nat.reduceDiv,Nat.reduceAdd,↓reduceIte,Nat.reduceEqDiff]
   simp -dsimp -implicitDefEqProofs only [go_sem,nlt_len]
   ((repeat' (with_reducible refine ai ?_ ?_));all_goals try (first|omega|(refine ⟨?_,?_⟩<;>omega)|(exact rfl)))
   all_goals rw [htk]
end Go.Vc
namespace Go.Vc
open Go.Proofs
theorem okS.get {D:Nat} {c:Int} {xs:List Int} (h:okS D c xs) {x:Int} (h0:0≤x) (h1:x.toNat<D):xs[x.toNat]? =some (xs.getD x.toNat 0):=by
 have:x.toNat<xs.length:=by rw [h.1];exact h1
 simp [uq2,this]
theorem inc1_map (xs:List Int) (x:Int):(inc1 xs x).map eI=(xs.map eI).set x.toNat (eI (xs.getD x.toNat 0+1)):=by rw [inc1,List.map_set]
theorem pins_ok {m:MkM} {l:List (List Int)} (hl:isLk0 m l=true) (h2:∀x∈l,x.length≤1048576):(pins m l).length=l.length∧∀c (hc:c<(pins m l).length),2≤(pins m l)[c].length∧(pins m l)[c].length≤1048577∧∀x∈(pins m l)[c],0≤x∧x<m.depths:=by
 simp only [isLk0,uq0,uq1,beq_iff_eq] at hl
 refine ⟨by simp [pins],fun c hc=> ?_⟩
 have hc':c<l.length:=by simpa [pins] using hc
 have e:(pins m l)[c]=stk m l[c]:=by simp [pins]
 obtain ⟨h3,h4⟩:=stk_in (hl.2 _ (uq4 hc'))
 rw [e,stk_len h3]
 have:=h2 _ (uq4 hc')
 exact ⟨by omega,by omega,h4⟩
theorem c01:decide ((0:Int)<((1:Nat):Int))=true:=rfl
theorem c11:decide (((1:Nat):Int)<((1:Nat):Int))=false:=rfl
theorem c40:decide (((1:Nat):Int)>40)=false:=rfl
theorem c_sStockOf (m:MkM) (l:List (List Int)) (hm:isMk m=true) (hl:isLk0 m l=true) (h2:∀x∈l,x.length≤1048576):Fn Tryz.prog 55 [eMk m,.arr ⟨1,true⟩ [eLk l]] true (· = .tup [eIs (stockL m l).b,eIs (stockL m l).w,eIs (stockL m l).d,eI 0]):=by
 have ⟨⟨n1,n2⟩,n3,n4⟩:=isMk_num hm
 have hl1:(l.length:Int)=m.chambers:=by simp only [isLk0,uq0,beq_iff_eq] at hl;exact hl.1
 have hmk:=c_sIsMaker m
 have hlk:=c_sIsLock m l (by omega) h2
 rw [hm] at hmk
 rw [isLk,hm,hl] at hlk
 have hpin:=c_l05Pins m l hm hl h2
 obtain ⟨hpl,hpo⟩:=pins_ok hl h2
 have hst:=fun c (hc:c≤(pins m l).length)=>stTo_ok (zero3_ok m.depths.toNat) (ps:=pins m l) (fun p hp=>by
  obtain ⟨i,hi,rfl⟩:=List.getElem_of_mem hp
  exact (hpo i hi).2.1) c hc
 refine Fn.of_vcN 112 [.tmp 4,.tmp 5,.tmp 6,.tmp 7] Tryz.func55 rfl rfl rfl rfl rfl (of_decide_eq_true rfl) ?_
 unfold stockL
 rw [←hpl]
 generalize pins m l=P at*
 simp -dsimp -implicitDefEqProofs only [go_sem]
 refine sCallT_one hmk ?_
 simp -dsimp -implicitDefEqProofs only [go_sem]
 refine Later.up [1,2] [22,31] [] 1 (fun _=>True) (fun i=>[(8,eI i)]) (fun _=>[]) trivial ?_ rfl (fun i hi _=> ?_) (fun _=> ?_)
 · simp -dsimp -implicitDefEqProofs only [go_sem]
 · obtain rfl:i=0:=by omega
   simp -dsimp -implicitDefEqProofs only [pz,Nat.reduceBEq,Nat.reduceDiv,Nat.reduceAdd,↓reduceIte,Nat.reduceEqDiff]
   simp -dsimp -implicitDefEqProofs only [go_sem,c01]
   refine Later.draw mixed rfl ?_
   simp -dsimp -implicitDefEqProofs only [go_sem]
   ((repeat' (with_reducible refine ai ?_ ?_));all_goals try (first|omega|(refine ⟨?_,?_⟩<;>omega)|(exact rfl)))
   refine sCallX_one hlk ?_
   simp -dsimp -implicitDefEqProofs only [go_sem]
   ((repeat' (with_reducible refine ai ?_ ?_));all_goals try (first|omega|(refine ⟨?_,?_⟩<;>omega)|(exact rfl)))
   all_goals trace_state
 · simp -dsimp -implicitDefEqProofs only [pz,Nat.reduceBEq,Nat.reduceDiv,Nat.reduceAdd,↓reduceIte,Nat.reduceEqDiff]
   simp -dsimp -implicitDefEqProofs only [go_sem,c11,c40]
   refine Later.draw mixed rfl ?_
   simp -dsimp -implicitDefEqProofs only [go_sem]
   refine ⟨⟨by omega,by omega⟩,⟨by omega,by omega⟩,⟨by omega,by omega⟩,by exact rfl,?_⟩
   refine Later.up [1,2,9,10,11] [47,56,59,67] [38,41,44] 1 (fun _=>True) (fun i=>[(12,eI i)]) (fun i=>[(38,.row 0 ⟨1,false⟩ true ((stTo P (zero3 m.depths.toNat) (i*P.length)).b.map eI)),(41,.row 0 ⟨1,false⟩ true ((stTo P (zero3 m.depths.toNat) (i*P.length)).w.map eI)),(44,.row 0 ⟨1,false⟩ true ((stTo P (zero3 m.depths.toNat) (i*P.length)).d.map eI))]) trivial ?_ rfl (fun i hi _=> ?_) (fun _=> ?_)
   · simp -dsimp -implicitDefEqProofs only [go_sem,Nat.zero_mul,stTo_zero,zero3,List.map_replicate]
     ((repeat' (with_reducible refine ai ?_ ?_));all_goals try (first|omega|(refine ⟨?_,?_⟩<;>omega)|(exact rfl)))
   · obtain rfl:i=0:=by omega
     rw [Nat.zero_mul,Nat.zero_add,Nat.one_mul]
     simp -dsimp -implicitDefEqProofs only [pz,Nat.reduceBEq,Nat.reduceDiv,Nat.reduceAdd,↓reduceIte,Nat.reduceEqDiff]
     simp -dsimp -implicitDefEqProofs only [go_sem,c01,stTo_zero]
     refine Later.draw mixed rfl ?_
     simp -dsimp -implicitDefEqProofs only [go_sem]
     ((repeat' (with_reducible refine ai ?_ ?_));all_goals try (first|omega|(refine ⟨?_,?_⟩<;>omega)|(exact rfl)))
     refine sCallXS_one hpin (by simp [noLabs,labs,labsL,isClo]) ?_
     simp -dsimp -implicitDefEqProofs only [go_sem]
     ((repeat' (with_reducible refine ai ?_ ?_));all_goals try (first|omega|(refine ⟨?_,?_⟩<;>omega)|(exact rfl)))
     refine Later.up [1,2,9,10,11,12,13] [59,67] [38,41,44] P.length (fun _=>True) (fun c=>[(14,eI c)]) (fun c=>[(38,.row 0 ⟨1,false⟩ true ((stTo P (zero3 m.depths.toNat) c).b.map eI)),(41,.row 0 ⟨1,false⟩ true ((stTo P (zero3 m.depths.toNat) c).w.map eI)),(44,.row 0 ⟨1,false⟩ true ((stTo P (zero3 m.depths.toNat) c).d.map eI))]) trivial ?_ rfl (fun c hc _=> ?_) (fun _=> ?_)
     · simp -dsimp -implicitDefEqProofs only [go_sem,stTo_zero]
       ((repeat' (with_reducible refine ai ?_ ?_));all_goals try (first|omega|(refine ⟨?_,?_⟩<;>omega)|(exact rfl)))
     · have lc:=lt_len hc
       have gp:=get_some hc
       have hgd:P.getD c []=P[c]:=by simp [uq2,hc]
       obtain ⟨p1,p2,p3⟩:=hpo c hc
       obtain ⟨o1,o2,o3⟩:=hst c (by omega)
       rw [stTo_succ,hgd]
       generalize stTo P (zero3 m.depths.toNat) c=Z at*
       generalize P[c]=p at*
       have h0:0<p.length:=by omega
       have hL:p.length-1<p.length:=by omega
       have g0:=get_some h0
       have gL:p[((p.length:Int)-1).toNat]? =some p[p.length-1]:=by rw [show ((p.length:Int)-1).toNat=p.length-1 by omega];exact get_some hL
       have x0:=p3 _ (uq4 h0)
       have xL:=p3 _ (uq4 hL)
       have e0:p.getD 0 0=p[0]:=by simp [uq2,h0]
       have eL:p.getD (p.length-1) 0=p[p.length-1]:=by simp [uq2,hL]
       unfold st1
       rw [e0,eL]
       have gb:=o1.get x0.1 (by omega)
       have gd:=o3.get xL.1 (by omega)
       have bb:=o1.2 p[0].toNat (by omega)
       have bd:=o3.2 p[p.length-1].toNat (by omega)
       have hw:=fun k=>wTo_ok o2 p k
       have hlast:decide ((1:Int)+((p.length-2:Nat):Int)<(p.length:Int)-1)=false:=decide_eq_false (by omega)
       clear e0 eL
       generalize p[0]=y0 at*
       generalize p[p.length-1]=yL at*
       simp only [inc1_map]
       generalize Z.b.getD y0.toNat 0=vb at*
       generalize Z.d.getD yL.toNat 0=vd at*
       simp -dsimp -implicitDefEqProofs only [pz,Nat.reduceBEq,Nat.reduceDiv,Nat.reduceAdd,↓reduceIte,Nat.reduceEqDiff]
       simp -dsimp -implicitDefEqProofs only [go_sem,lc,gp,g0,gL,gb,gd]
       ((repeat' (with_reducible refine ai ?_ ?_));all_goals try (first|omega|(refine ⟨?_,?_⟩<;>omega)|(exact rfl)))
       refine Later.up [1,2,9,10,11,12,13,14,15] [] [41] (p.length-2) (fun _=>True) (fun k=>[(16,eI (1+(k:Int)))]) (fun k=>[(41,.row 0 ⟨1,false⟩ true ((wTo Z.w p k).map eI))]) trivial ?_ rfl (fun k hk _=> ?_) (fun _=> ?_)
       · simp -dsimp -implicitDefEqProofs only [go_sem,wTo_zero]
         ((repeat' (with_reducible refine ai ?_ ?_));all_goals try (first|omega|(refine ⟨?_,?_⟩<;>omega)|(exact rfl)))
       · have hk1:k+1<p.length:=by omega
         have gk:p[(1+(k:Int)).toNat]? =some p[k+1]:=by rw [show (1+(k:Int)).toNat=k+1 by omega];exact get_some hk1
         have xk:=p3 _ (uq4 hk1)
         have ek:p.getD (k+1) 0=p[k+1]:=by simp [uq2,hk1]
         have hlt:decide ((1:Int)+(k:Int)<(p.length:Int)-1)=true:=decide_eq_true (by omega)
         have ow:=hw k
         rw [wTo_succ,ek]
         clear ek hw
         generalize p[k+1]=yk at*
         have gw:=ow.get xk.1 (by omega)
         have bw:=ow.2 yk.toNat (by omega)
         rw [inc1_map]
         generalize wTo Z.w p k=W at*
         generalize W.getD yk.toNat 0=vw at*
         simp -dsimp -implicitDefEqProofs only [pz,Nat.reduceBEq,Nat.reduceDiv,Nat.reduceAdd,↓reduceIte,Nat.reduceEqDiff]
         simp -dsimp -implicitDefEqProofs only [go_sem,hlt,gp,gk,gw]
         ((repeat' (with_reducible refine ai ?_ ?_));all_goals try (first|omega|(refine ⟨?_,?_⟩<;>omega)|(exact rfl)))
         all_goals first|(simp;done)|(simp;omega)|skip
       · simp -dsimp -implicitDefEqProofs only [pz,Nat.reduceBEq,Nat.reduceDiv,Nat.reduceAdd,↓reduceIte,Nat.reduceEqDiff]
         simp -dsimp -implicitDefEqProofs only [go_sem,hlast]
         ((repeat' (with_reducible refine ai ?_ ?_));all_goals try (first|omega|(refine ⟨?_,?_⟩<;>omega)|(exact rfl)))
         all_goals trace_state
     · simp -dsimp -implicitDefEqProofs only [pz,Nat.reduceBEq,Nat.reduceDiv,Nat.reduceAdd,↓reduceIte,Nat.reduceEqDiff]
       simp -dsimp -implicitDefEqProofs only [go_sem,nlt_len]
       ((repeat' (with_reducible refine ai ?_ ?_));all_goals try (first|omega|(refine ⟨?_,?_⟩<;>omega)|(exact rfl)))
       all_goals trace_state
   · rw [Nat.one_mul]
     obtain ⟨o1,o2,o3⟩:=hst P.length (uq9 _)
     generalize stTo P (zero3 m.depths.toNat) P.length=Z at*
     obtain ⟨l1,_⟩:=o1
     obtain ⟨l2,_⟩:=o2
     obtain ⟨l3,_⟩:=o3
     have t1:=take_map_all eI Z.b m.depths.toNat (by omega)
     have t2:=take_map_all eI Z.w m.depths.toNat (by omega)
     have t3:=take_map_all eI Z.d m.depths.toNat (by omega)
     simp -dsimp -implicitDefEqProofs only [pz,Nat.reduceBEq,Nat.reduceDiv,Nat.reduceAdd,↓reduceIte,Nat.reduceEqDiff]
     simp -dsimp -implicitDefEqProofs only [go_sem,c11]
     ((repeat' (with_reducible refine ai ?_ ?_));all_goals try (first|omega|(refine ⟨?_,?_⟩<;>omega)|(exact rfl)))
     all_goals first|(rw [t1];done)|(rw [t2];done)|(rw [t3];done)|(simp;done)|skip
theorem c_iStockOf (m:MkM) (l:List (List Int)) (hm:isMk m=true) (hl:isLk0 m l=true) (h2:∀x∈l,x.length≤1048576):Fn Tryz.prog 54 [eMk m,.arr ⟨1,true⟩ [eLk l]] true (· = .tup [eIs (stockL m l).b,eIs (stockL m l).w,eIs (stockL m l).d,eI 0]):=by
 have ⟨⟨n1,n2⟩,n3,n4⟩:=isMk_num hm
 have hl1:(l.length:Int)=m.chambers:=by simp only [isLk0,uq0,beq_iff_eq] at hl;exact hl.1
 have hlc:=c_locksCode m [l] (by simp) (fun x hx=>by simp only [List.mem_singleton] at hx;subst hx;exact ⟨by omega,h2⟩)
 rw [lkCodes_one,isLk,hm,hl] at hlc
 have hpin:=c_pinsOf m l hm hl h2
 obtain ⟨hpl,hpo⟩:=pins_ok hl h2
 have hst:=fun c (hc:c≤(pins m l).length)=>stTo_ok (zero3_ok m.depths.toNat) (ps:=pins m l) (fun p hp=>by
  obtain ⟨i,hi,rfl⟩:=List.getElem_of_mem hp
  exact (hpo i hi).2.1) c hc
 refine Fn.of_vcN 91 [.tmp 4,.tmp 5,.tmp 6,.tmp 7] Tryz.func54 rfl rfl rfl rfl rfl (of_decide_eq_true rfl) ?_
 unfold stockL
 rw [←hpl]
 generalize pins m l=P at*
 simp -dsimp -implicitDefEqProofs only [go_sem]
 refine sCallT_one hlc ?_
 simp -dsimp -implicitDefEqProofs only [go_sem,c40]
 refine Later.draw mixed rfl ?_
 simp -dsimp -implicitDefEqProofs only [go_sem]
 refine ⟨⟨by omega,by omega⟩,⟨by omega,by omega⟩,⟨by omega,by omega⟩,by exact rfl,?_⟩
 refine Later.up [2,9,10,11,37,38] [13,45,46,52,74] [30,33,36] 1 (fun _=>True) (fun i=>[(39,eI i)]) (fun i=>[(30,.row 0 ⟨1,false⟩ true ((stTo P (zero3 m.depths.toNat) (i*P.length)).b.map eI)),(33,.row 0 ⟨1,false⟩ true ((stTo P (zero3 m.depths.toNat) (i*P.length)).w.map eI)),(36,.row 0 ⟨1,false⟩ true ((stTo P (zero3 m.depths.toNat) (i*P.length)).d.map eI))]) trivial ?_ rfl (fun i hi _=> ?_) (fun _=> ?_)
 · simp -dsimp -implicitDefEqProofs only [go_sem,Nat.zero_mul,stTo_zero,zero3,List.map_replicate]
   ((repeat' (with_reducible refine ai ?_ ?_));all_goals try (first|omega|(refine ⟨?_,?_⟩<;>omega)|(exact rfl)))
 · obtain rfl:i=0:=by omega
   rw [Nat.zero_mul,Nat.zero_add,Nat.one_mul]
   simp -dsimp -implicitDefEqProofs only [pz,Nat.reduceBEq,Nat.reduceDiv,Nat.reduceAdd,↓reduceIte,Nat.reduceEqDiff]
   simp -dsimp -implicitDefEqProofs only [go_sem,c01,stTo_zero]
   ((repeat' (with_reducible refine ai ?_ ?_));all_goals try (first|omega|(refine ⟨?_,?_⟩<;>omega)|(exact rfl)))
   refine sCallS_one hpin (by simp [noLabs,labs,labsL,isClo]) ?_
   simp -dsimp -implicitDefEqProofs only [go_sem]
   ((repeat' (with_reducible refine ai ?_ ?_));all_goals try (first|omega|(refine ⟨?_,?_⟩<;>omega)|(exact rfl)))
   refine Later.up [2,9,10,11,37,38,39,45,46] [52,74] [30,33,36] P.length (fun _=>True) (fun c=>[(47,eI c)]) (fun c=>[(30,.row 0 ⟨1,false⟩ true ((stTo P (zero3 m.depths.toNat) c).b.map eI)),(33,.row 0 ⟨1,false⟩ true ((stTo P (zero3 m.depths.toNat) c).w.map eI)),(36,.row 0 ⟨1,false⟩ true ((stTo P (zero3 m.depths.toNat) c).d.map eI))]) trivial ?_ rfl (fun c hc _=> ?_) (fun _=> ?_)
   · simp -dsimp -implicitDefEqProofs only [go_sem,stTo_zero]
     ((repeat' (with_reducible refine ai ?_ ?_));all_goals try (first|omega|(refine ⟨?_,?_⟩<;>omega)|(exact rfl)))
   · have lc:=lt_len hc
     have gp:=get_some hc
     have hgd:P.getD c []=P[c]:=by simp [uq2,hc]
     obtain ⟨p1,p2,p3⟩:=hpo c hc
     obtain ⟨o1,o2,o3⟩:=hst c (by omega)
     rw [stTo_succ,hgd]
     generalize stTo P (zero3 m.depths.toNat) c=Z at*
     generalize P[c]=p at*
     have h0:0<p.length:=by omega
     have hL:p.length-1<p.length:=by omega
     have g0:=get_some h0
     have gL:p[((p.length:Int)-1).toNat]? =some p[p.length-1]:=by rw [show ((p.length:Int)-1).toNat=p.length-1 by omega];exact get_some hL
     have x0:=p3 _ (uq4 h0)
     have xL:=p3 _ (uq4 hL)
     have e0:p.getD 0 0=p[0]:=by simp [uq2,h0]
     have eL:p.getD (p.length-1) 0=p[p.length-1]:=by simp [uq2,hL]
     unfold st1
     rw [e0,eL]
     have gb:=o1.get x0.1 (by omega)
     have gd:=o3.get xL.1 (by omega)
     have bb:=o1.2 p[0].toNat (by omega)
     have bd:=o3.2 p[p.length-1].toNat (by omega)
     have hw:=fun k=>wTo_ok o2 p k
     clear e0 eL
     generalize p[0]=y0 at*
     generalize p[p.length-1]=yL at*
     simp only [inc1_map]
     generalize Z.b.getD y0.toNat 0=vb at*
     generalize Z.d.getD yL.toNat 0=vd at*
     have hsl:List.take (((p.length:Int)-1).toNat-1) (List.drop 1 (List.map eI p))=((p.drop 1).take (p.length-2)).map eI:=by
      rw [show ((p.length:Int)-1).toNat-1=p.length-2 by omega,List.map_take,List.map_drop]
     have hql:((p.drop 1).take (p.length-2)).length=p.length-2:=by simp;omega
     have hq:∀k (hk:k<p.length-2),((p.drop 1).take (p.length-2))[k]? =p[k+1]? :=fun k hk=>by
      rw [List.getElem?_take,if_pos hk,List.getElem?_drop,Nat.add_comm]
     generalize (p.drop 1).take (p.length-2)=q at*
     simp -dsimp -implicitDefEqProofs only [pz,Nat.reduceBEq,Nat.reduceDiv,Nat.reduceAdd,↓reduceIte,Nat.reduceEqDiff]
     simp -dsimp -implicitDefEqProofs only [go_sem,lc,gp,g0,gL,gb,gd,hsl]
     ((repeat' (with_reducible refine ai ?_ ?_));all_goals try (first|omega|(refine ⟨?_,?_⟩<;>omega)|(exact rfl)))
     refine Later.up [2,9,10,11,37,38,39,45,46,47,73,74] [] [33] (p.length-2) (fun _=>True) (fun k=>[(75,eI k)]) (fun k=>[(33,.row 0 ⟨1,false⟩ true ((wTo Z.w p k).map eI))]) trivial ?_ rfl (fun k hk _=> ?_) (fun _=> ?_)
     · simp -dsimp -implicitDefEqProofs only [go_sem,wTo_zero]
       ((repeat' (with_reducible refine ai ?_ ?_));all_goals try (first|omega|(refine ⟨?_,?_⟩<;>omega)|(exact rfl)))
     · have hk1:k+1<p.length:=by omega
       have gk:q[k]? =some p[k+1]:=by rw [hq k hk];exact get_some hk1
       have xk:=p3 _ (uq4 hk1)
       have ek:p.getD (k+1) 0=p[k+1]:=by simp [uq2,hk1]
       have hlt:decide ((k:Int)<(q.length:Int))=true:=decide_eq_true (by omega)
       have ow:=hw k
       rw [wTo_succ,ek]
       clear ek hw hq
       generalize p[k+1]=yk at*
       have gw:=ow.get xk.1 (by omega)
       have bw:=ow.2 yk.toNat (by omega)
       rw [inc1_map]
       generalize wTo Z.w p k=W at*
       generalize W.getD yk.toNat 0=vw at*
       simp -dsimp -implicitDefEqProofs only [pz,Nat.reduceBEq,Nat.reduceDiv,Nat.reduceAdd,↓reduceIte,Nat.reduceEqDiff]
       simp -dsimp -implicitDefEqProofs only [go_sem,hlt,gp,gk,gw]
       ((repeat' (with_reducible refine ai ?_ ?_));all_goals try (first|omega|(refine ⟨?_,?_⟩<;>omega)|(exact rfl)))
       all_goals first|(simp;done)|(simp;omega)|skip
     · have hlast:decide (((p.length-2:Nat):Int)<(q.length:Int))=false:=decide_eq_false (by omega)
       simp -dsimp -implicitDefEqProofs only [pz,Nat.reduceBEq,Nat.reduceDiv,Nat.reduceAdd,↓reduceIte,Nat.reduceEqDiff]
       simp -dsimp -implicitDefEqProofs only [go_sem,hlast]
       ((repeat' (with_reducible refine ai ?_ ?_));all_goals try (first|omega|(refine ⟨?_,?_⟩<;>omega)|(exact rfl)))
       all_goals trace_state
   · simp -dsimp -implicitDefEqProofs only [pz,Nat.reduceBEq,Nat.reduceDiv,Nat.reduceAdd,↓reduceIte,Nat.reduceEqDiff]
     simp -dsimp -implicitDefEqProofs only [go_sem,nlt_len]
     ((repeat' (with_reducible refine ai ?_ ?_));all_goals try (first|omega|(refine ⟨?_,?_⟩<;>omega)|(exact rfl)))
     all_goals trace_state
 · rw [Nat.one_mul]
   obtain ⟨o1,o2,o3⟩:=hst P.length (uq9 _)
   generalize stTo P (zero3 m.depths.toNat) P.length=Z at*
   obtain ⟨l1,_⟩:=o1
   obtain ⟨l2,_⟩:=o2
   obtain ⟨l3,_⟩:=o3
   have t1:=take_map_all eI Z.b m.depths.toNat (by omega)
   have t2:=take_map_all eI Z.w m.depths.toNat (by omega)
   have t3:=take_map_all eI Z.d m.depths.toNat (by omega)
   simp -dsimp -implicitDefEqProofs only [pz,Nat.reduceBEq,Nat.reduceDiv,Nat.reduceAdd,↓reduceIte,Nat.reduceEqDiff]
   simp -dsimp -implicitDefEqProofs only [go_sem,c11]
   ((repeat' (with_reducible refine ai ?_ ?_));all_goals try (first|omega|(refine ⟨?_,?_⟩<;>omega)|(exact rfl)))
   all_goals first|(rw [t1];done)|(rw [t2];done)|(rw [t3];done)|(simp;done)|skip
end Go.Vc
namespace Go.Vc
open Go.Proofs
theorem c_opens (l:List (List Int)) (c:List Int) (h0:c.length≤l.length) (h1:l.length≤1048576) (h2:∀x∈l,x.length≤1048576):Fn Tryz.prog 139 [eLk l,eIs c] true (· =eB (opensL l c)):=by
 refine Fn.of_vcN 23 [.tmp 4] Tryz.func139 rfl rfl rfl rfl rfl (of_decide_eq_true rfl) ?_
 simp -dsimp -implicitDefEqProofs only [go_sem]
 refine Later.up [2,7,8] [20] [] c.length (fun i=>((List.range i).all fun i=>has (l.getD i []) (c.getD i 0))=true) (fun i=>[(9,eI i)]) (fun _=>[]) rfl ?_ rfl (fun i hi hI=> ?_) (fun hI=> ?_)
 · simp -dsimp -implicitDefEqProofs only [go_sem]
 · have gi:=get_some (show i<l.length by omega)
   have gc:=get_some hi
   have li:=lt_len hi
   have hp:has (l.getD i []) (c.getD i 0)=has l[i] c[i]:=by simp [uq2,hi,show i<l.length by omega]
   have hq:=c_Contains l[i] c[i] (h2 _ (uq4 _))
   have no:has l[i] c[i]=false→opensL l c=false:=fun h=>range_all_no hi (by rw [hp];exact h)
   have yes:has l[i] c[i]=true→((List.range (i+1)).all fun i=>has (l.getD i []) (c.getD i 0))=true:=fun h=>by rw [range_all_succ,hI,hp,h];rfl
   clear hp hI
   generalize l[i]=x at*
   generalize c[i]=z at*
   simp -dsimp -implicitDefEqProofs only [pz,Nat.reduceBEq,Nat.reduceDiv,Nat.reduceAdd,↓reduceIte,Nat.reduceEqDiff]
   simp -dsimp -implicitDefEqProofs only [go_sem,gi,gc,li]
   ((repeat' (with_reducible refine ai ?_ ?_));all_goals try (first|omega|(refine ⟨?_,?_⟩<;>omega)|(exact rfl)))
   refine sCallT_one hq ?_
   rcases hb:has x z with _|_
   · rw [no hb]
     simp -dsimp -implicitDefEqProofs only [go_sem]
   · simp -dsimp -implicitDefEqProofs only [go_sem]
     refine ⟨⟨by omega,by omega⟩,?_,rfl⟩
     rw [←List.range_succ]
     exact yes hb
 · simp -dsimp -implicitDefEqProofs only [pz,Nat.reduceBEq,Nat.reduceDiv,Nat.reduceAdd,↓reduceIte,Nat.reduceEqDiff]
   simp -dsimp -implicitDefEqProofs only [go_sem,nlt_len]
   rw [show opensL l c=true from hI]
theorem row_sum (k:List (List Int)) (i:Nat):∀n,n≤k.length→((k.take n).map fun x=>x.getD i 0).length=n:=fun n h=>by simp [h]
theorem c_hullOf (m:MkM) (keys:List (List Int)) (hm:isMk m=true) (h0:keys.length≤1048576) (hk3:∀k∈keys,(k.length:Int)=m.chambers∧∀x∈k,0≤x∧x<m.depths):
 Fn Tryz.prog 82 [eMk m,eIss keys] false (· =eLk (hull m keys m.chambers.toNat)):=by
 have ⟨⟨n1,n2⟩,n3,n4⟩:=isMk_num hm
 refine Fn.of_vcS 42 [.cell 4 83] Tryz.func82 rfl rfl rfl rfl rfl (of_decide_eq_true rfl) ?_
 simp -dsimp -implicitDefEqProofs only [go_sem]
 refine Later.up [1,4,5,12] [16,18,28,29,32,36,37,38] [5,38] m.chambers.toNat (fun _=>True) (fun i=>[(13,eI i)]) (fun i=>[(5,.box 0 [.ref 38 0 0 i]),(38,.row 0 ⟨1,false⟩ (i==0) ((hull m keys i).map eIs))]) trivial ?_ rfl (fun i hi _=> ?_) (fun _=> ?_)
 · simp -dsimp -implicitDefEqProofs only [go_sem,hull_zero]
 · have hlt:decide ((i:Int)<m.chambers)=true:=decide_eq_true (by omega)
   have hhl:=hull_len m keys i
   have hset:=hullSet_eq (m:=m) (keys:=keys) (i:=i) (fun k hk=>by
    obtain ⟨h1,h2⟩:=hk3 k hk
    have hil:i<k.length:=by omega
    rw [show k.getD i 0=k[i] by simp [uq2,hil]]
    exact h2 _ (uq4 hil))
   rw [hull_succ,←hset]
   clear hset
   generalize hull m keys i=H at*
   simp -dsimp -implicitDefEqProofs only [pz,Nat.reduceBEq,Nat.reduceDiv,Nat.reduceAdd,↓reduceIte,Nat.reduceEqDiff]
   simp -dsimp -implicitDefEqProofs only [go_sem,hlt]
   refine Later.up [1,4,5,6,12,13,17,18] [28,29] [16] keys.length (fun _=>True) (fun k=>[(19,eI k),(7,.ref 16 0 0 k)]) (fun k=>[(16,.row 0 ⟨1,false⟩ true (((keys.take k).map fun x=>x.getD i 0).map eI))]) trivial ?_ rfl (fun k hk' _=> ?_) (fun _=> ?_)
   · simp -dsimp -implicitDefEqProofs only [go_sem,uq8,List.map_nil]
   · have hkl:i<keys[k].length:=by have:=(hk3 _ (uq4 hk')).1;omega
     have gk:=get_some hk'
     have gi:=get_some hkl
     have lk:=lt_len hk'
     have hgd:keys[k].getD i 0=keys[k][i]:=by simp [uq2,hkl]
     have ht:(keys.take (k+1)).map (fun x=>x.getD i 0)=(keys.take k).map (fun x=>x.getD i 0)++[keys[k][i]]:=by
      rw [List.take_succ_eq_append_getElem hk',List.map_append,List.map_singleton,hgd]
     have hln:=row_sum keys i k (by omega)
     rw [ht]
     clear ht hgd
     generalize (keys.take k).map (fun x=>x.getD i 0)=F at*
     generalize keys[k]=x at*
     generalize x[i]=z at*
     have htk:=take_map_all eI F k (by omega)
     simp -dsimp -implicitDefEqProofs only [pz,Nat.reduceBEq,Nat.reduceDiv,Nat.reduceAdd,↓reduceIte,Nat.reduceEqDiff]
     simp -dsimp -implicitDefEqProofs only [go_sem,lk,gk,gi,htk]
     ((repeat' (with_reducible refine ai ?_ ?_));all_goals try (first|omega|(refine ⟨?_,?_⟩<;>omega)|(exact rfl)))
     all_goals first|(simp;done)|skip
   · have hln:=row_sum keys i keys.length (uq9 _)
     have hr:rowsL (keys.map fun k=>k.getD i 0)=Lib.compact (((keys.take keys.length).map fun k=>k.getD i 0).mergeSort fun x y=>decide (x≤y)):=by rw [List.take_length,rowsL_eq]
     rw [hr]
     clear hr
     generalize (keys.take keys.length).map (fun x=>x.getD i 0)=F at*
     simp -dsimp -implicitDefEqProofs only [pz,Nat.reduceBEq,Nat.reduceDiv,Nat.reduceAdd,↓reduceIte,Nat.reduceEqDiff]
     simp -dsimp -implicitDefEqProofs only [go_sem,nlt_len]
     refine ⟨by omega,?_⟩
     refine sCallT_io [16] ?_
     simp -dsimp -implicitDefEqProofs only [go_sem]
     rw [←hln]
     refine sCallM_one (c_SortI 0 F (by omega)) ?_
     simp -dsimp -implicitDefEqProofs only [go_sem]
     refine Later.draw mixed rfl ?_
     have hle:(F.mergeSort fun x y=>decide (x≤y)).length=F.length:=List.length_mergeSort _
     have hcl:=compact_len (F.mergeSort fun x y=>decide (x≤y))
     simp -dsimp -implicitDefEqProofs only [go_sem]
     refine ⟨by omega,?_⟩
     refine s_CompactX (zs:=F.mergeSort fun x y=>decide (x≤y)) ?_ hle.symm (by omega) ?_
     · simp -dsimp -implicitDefEqProofs only [go_sem]
     generalize Lib.compact (F.mergeSort fun x y=>decide (x≤y))=C at*
     have e0:(i+1==0)=false:=rfl
     have e2:List.map eIs (H++[C])=List.map eIs H++[eIs C]:=by simp
     have htk:=take_map_all eIs H i (by omega)
     have htC:List.take C.length (List.map eI (C++List.replicate ((F.mergeSort fun x y=>decide (x≤y)).length-C.length) 0))=List.map eI C:=by rw [←List.map_take];simp
     simp -dsimp -implicitDefEqProofs only [go_sem,htC]
     refine ⟨by omega,.inr ⟨by omega,by omega,(by cases i with|zero=>exact .inr rfl|succ i=>exact .inl rfl),by exact rfl,⟨by omega,by omega⟩,rfl,?_⟩⟩
     rw [e0,e2]
     simp -dsimp -implicitDefEqProofs only [go_sem,htk,htC]
 · have hlt:decide (((m.chambers.toNat:Nat):Int)<m.chambers)=false:=decide_eq_false (by omega)
   have hhl:=hull_len m keys m.chambers.toNat
   generalize hull m keys m.chambers.toNat=H at*
   have htk:=take_map_all eIs H m.chambers.toNat (by omega)
   simp -dsimp -implicitDefEqProofs only [pz,Nat.reduceBEq,Nat.reduceDiv,Nat.reduceAdd,↓reduceIte,Nat.reduceEqDiff]
   simp -dsimp -implicitDefEqProofs only [go_sem,hlt]
   ((repeat' (with_reducible refine ai ?_ ?_));all_goals try (first|omega|(refine ⟨?_,?_⟩<;>omega)|(exact rfl)))
   all_goals rw [htk]
def cutOn (cuts:List (List Int)) (rs:List Int):Nat→List (List Int)
 |0=>[]
 |j+1=>if decide (rs.getD j 0<(cuts.length:Int))=true then cutOn cuts rs j++[cuts.getD (rs.getD j 0).toNat []] else cutOn cuts rs j
theorem cutOn_zero (cuts:List (List Int)) (rs:List Int):cutOn cuts rs 0=[]:=rfl
theorem cutOn_succ (cuts:List (List Int)) (rs:List Int) (j:Nat):cutOn cuts rs (j+1)=if decide (rs.getD j 0<(cuts.length:Int))=true then cutOn cuts rs j++[cuts.getD (rs.getD j 0).toNat []] else cutOn cuts rs j:=rfl
theorem cutOn_len (cuts:List (List Int)) (rs:List Int):∀j,(cutOn cuts rs j).length≤j
 |0=>uq9 _
 |j+1=>by
  have:=cutOn_len cuts rs j
  rw [cutOn_succ];split
  · simp;omega
  · omega
theorem cutOn_app (cuts:List (List Int)) (rs:List Int) (x:Int):cutOn cuts (rs++[x]) (rs++[x]).length=if decide (x<(cuts.length:Int))=true then cutOn cuts rs rs.length++[cuts.getD x.toNat []] else cutOn cuts rs rs.length:=by
 have key:∀j,j≤rs.length→cutOn cuts (rs++[x]) j=cutOn cuts rs j:=by
  intro j
  induction j with
  |zero=>intro _;rfl
  |succ j ih=>
   intro hj
   have:(rs++[x]).getD j 0=rs.getD j 0:=by simp [uq2,List.getElem?_append_left (show j<rs.length by omega)]
   rw [cutOn_succ,cutOn_succ,ih (by omega),this]
 have e:(rs++[x]).length=rs.length+1:=by simp
 have hx:(rs++[x]).getD rs.length 0=x:=by simp [uq2]
 rw [e,cutOn_succ,key _ (uq9 _),hx]
theorem cutOn_rows (t cuts:List (List Int)) (k:Nat):∀n,n≤t.length→cutOn cuts (flt (fun i=>(t.getD i []).getD k 0==1) n) (flt (fun i=>(t.getD i []).getD k 0==1) n).length=onTo t cuts k (min n cuts.length)
 |0,_=>by rw [flt_zero,Nat.zero_min];rfl
 |n+1,hn=>by
  have ih:=cutOn_rows t cuts k n (by omega)
  rw [flt_succ]
  split
  · rename_i h
    rw [cutOn_app,ih]
    by_cases hc:n<cuts.length
    · rw [if_pos (decide_eq_true (by omega)),show min (n+1) cuts.length=n+1 by omega,show min n cuts.length=n by omega,onTo_succ,if_pos h];rfl
    · rw [if_neg (by simp;omega),show min (n+1) cuts.length=min n cuts.length by omega]
  · rename_i h
    rw [ih]
    by_cases hc:n<cuts.length
    · rw [show min (n+1) cuts.length=n+1 by omega,show min n cuts.length=n by omega,onTo_succ,if_neg h]
    · rw [show min (n+1) cuts.length=min n cuts.length by omega]
theorem cutOn_all {t cuts:List (List Int)} (h:cuts.length≤t.length) (k:Nat):cutOn cuts (rowsOn t k) (rowsOn t k).length=onTo t cuts k cuts.length:=by
 have:=cutOn_rows t cuts k t.length (uq9 _)
 rwa [show min t.length cuts.length=cuts.length by omega] at this
theorem rowsOn_get {t:List (List Int)} {k j:Nat} (h:j<(rowsOn t k).length):0≤(rowsOn t k)[j]:=by
 have h1:(rowsOn t k)[j]∈rowsOn t k:=uq4 h
 obtain ⟨i,_,e,_⟩:=flt_mem (p:=fun i=>(t.getD i []).getD k 0==1) (i:=t.length) h1
 omega
theorem rowsOn_len (t:List (List Int)) (k:Nat):(rowsOn t k).length≤t.length:=flt_len _ _
theorem c_partLocks (m:MkM) (t cuts:List (List Int)) (hm:isMk m=true) (h0:t.length≤1000) (h1:cuts.length≤t.length) (h2:0<t.length) (hk:∀i (hi:i<t.length),t[i].length=(t.getD 0 []).length) (hd:(t.getD 0 []).length≤1000) (hc:∀x∈cuts,(x.length:Int)=m.chambers∧∀y∈x,0≤y∧y<m.depths):
 Fn Tryz.prog 53 [eSy m t,eIss cuts] false (· =eLks (locksTo m t cuts (t.getD 0 []).length)):=by
 refine Fn.of_vcS 49 [.tmp 4] Tryz.func53 rfl rfl rfl rfl rfl (of_decide_eq_true rfl) ?_
 have g0:=get_some h2
 have hg:t.getD 0 []=t[0]:=by simp [uq2,h2]
 rw [hg] at hk hd ⊢
 simp -dsimp -implicitDefEqProofs only [go_sem,g0]
 refine ⟨by omega,?_⟩
 refine Later.up [1,2,15] [19,22,23,30,37,38,44,45,46] [10] t[0].length (fun _=>True) (fun i=>[(16,eI i),(5,.ref 10 0 0 i)]) (fun i=>[(10,.row 0 ⟨1,true⟩ (i==0) ((locksTo m t cuts i).map eLk))]) trivial ?_ rfl (fun i hi _=> ?_) (fun _=> ?_)
 · simp -dsimp -implicitDefEqProofs only [go_sem,locksTo_zero]
 · have hrf:=c_rowsFor m t i (by omega) (fun j hj=>by rw [hk j hj];exact hi)
   have hll:=locksTo_len m t cuts i
   have li:=lt_len hi
   have hrl:=rowsOn_len t i
   have hrg:=fun j (h:j<(rowsOn t i).length)=>rowsOn_get h
   have hon:=onTo_len t cuts i cuts.length
   have hmm:∀x∈onTo t cuts i cuts.length,(x.length:Int)=m.chambers∧∀y∈x,0≤y∧y<m.depths:=fun x hx=>hc x (onTo_mem (uq9 _) x hx)
   have hq:=c_hullOf m (onTo t cuts i cuts.length) hm (by omega) hmm
   have hall:=cutOn_all h1 i
   rw [locksTo_succ]
   unfold lockAt
   generalize locksTo m t cuts i=F at*
   have htk:=take_map_all eLk F i (by omega)
   have e0:(i+1==0)=false:=rfl
   have e2:∀L:List (List Int),List.map eLk (F++[L])=List.map eLk F++[eLk L]:=fun L=>by simp
   generalize onTo t cuts i cuts.length=K at*
   simp -dsimp -implicitDefEqProofs only [pz,Nat.reduceBEq,Nat.reduceDiv,Nat.reduceAdd,↓reduceIte,Nat.reduceEqDiff]
   simp -dsimp -implicitDefEqProofs only [go_sem,li]
   refine sCallT_one hrf ?_
   clear hrf
   generalize rowsOn t i=R at*
   simp -dsimp -implicitDefEqProofs only [go_sem]
   refine Later.up [1,2,5,15,16,22,23] [30,37,38] [19] R.length (fun _=>True) (fun j=>[(24,eI j),(7,.ref 19 0 0 (cutOn cuts R j).length)]) (fun j=>[(19,.row 0 ⟨1,false⟩ (cutOn cuts R j).isEmpty ((cutOn cuts R j).map eIs))]) trivial ?_ rfl (fun j hj _=> ?_) (fun _=> ?_)
   · simp -dsimp -implicitDefEqProofs only [go_sem,cutOn_zero,List.isEmpty_nil]
   · have lj:=lt_len hj
     have gj:=get_some hj
     have hgd:R.getD j 0=R[j]:=by simp [uq2,hj]
     have hcl:=cutOn_len cuts R j
     have hr0:=hrg j hj
     rw [cutOn_succ,hgd]
     generalize cutOn cuts R j=G at*
     generalize R[j]=z at*
     have htG:=take_map_all eIs G G.length (uq9 _)
     simp -dsimp -implicitDefEqProofs only [pz,Nat.reduceBEq,Nat.reduceDiv,Nat.reduceAdd,↓reduceIte,Nat.reduceEqDiff]
     rcases hz:decide (z<(cuts.length:Int)) with _|_
     · simp -dsimp -implicitDefEqProofs only [go_sem,lj,gj,hz]
       ((repeat' (with_reducible refine ai ?_ ?_));all_goals try (first|omega|(refine ⟨?_,?_⟩<;>omega)|(exact rfl)))
       all_goals trace_state
     · have hzl:z.toNat<cuts.length:=by have:=of_decide_eq_true hz;omega
       have gz:=get_some hzl
       have hcd:cuts.getD z.toNat []=cuts[z.toNat]:=by simp [uq2,hzl]
       simp only [if_true]
       rw [hcd]
       generalize cuts[z.toNat]=c at*
       have f0:(G++[c]).isEmpty=false:=by simp
       have f2:List.map eIs (G++[c])=List.map eIs G++[eIs c]:=by simp
       simp -dsimp -implicitDefEqProofs only [go_sem,lj,gj,gz,hz]
       refine ⟨⟨by omega,by omega⟩,⟨by omega,by omega⟩,?_⟩
       refine .inr ⟨by omega,(by cases G with|nil=>exact .inr rfl|cons=>exact .inl rfl),⟨by omega,by omega⟩,?_⟩
       rw [f0,f2]
       simp -dsimp -implicitDefEqProofs only [go_sem,htG]
       exact rfl
   · rw [hall]
     have htK:=take_map_all eIs K K.length (uq9 _)
     simp -dsimp -implicitDefEqProofs only [pz,Nat.reduceBEq,Nat.reduceDiv,Nat.reduceAdd,↓reduceIte,Nat.reduceEqDiff]
     simp -dsimp -implicitDefEqProofs only [go_sem,nlt_len]
     refine sCallT_frz 19 0 ⟨1,false⟩ K.isEmpty (List.map eIs K) hq (by decide) ?_ ?_ fun r hr=> ?_
     · simp -dsimp -implicitDefEqProofs only [go_sem]
     · refine frzOk_no ?_ rfl ?_
       · simp -dsimp -implicitDefEqProofs only [go_sem]
       · have h:=frzOk_ref (l:=19) (v:=0) (sh:=⟨1,false⟩) (ys:=List.map eIs K) (xs:=[]) (r:=[]) 0 K.length (by simp) trivial
         rw [List.drop_zero,htK] at h
         exact h
     · subst hr
       generalize hull m K m.chambers.toNat=L at*
       simp -dsimp -implicitDefEqProofs only [go_sem]
       refine .inr ⟨by omega,by omega,(by cases i with|zero=>exact .inr rfl|succ i=>exact .inl rfl),⟨by omega,by omega⟩,rfl,?_⟩
       rw [e0,e2]
       simp -dsimp -implicitDefEqProofs only [go_sem,htk]
 · have hll:=locksTo_len m t cuts t[0].length
   generalize locksTo m t cuts t[0].length=F at*
   have htk:=take_map_all eLk F t[0].length (by omega)
   simp -dsimp -implicitDefEqProofs only [pz,Nat.reduceBEq,Nat.reduceDiv,Nat.reduceAdd,↓reduceIte,Nat.reduceEqDiff]
   simp -dsimp -implicitDefEqProofs only [go_sem,nlt_len]
   ((repeat' (with_reducible refine ai ?_ ?_));all_goals try (first|omega|(refine ⟨?_,?_⟩<;>omega)|(exact rfl)))
   all_goals rw [htk]
theorem c_partFaults (m:MkM) (t cuts:List (List Int)) (hm:isMk m=true) (h0:t.length≤1000) (h1:cuts.length≤t.length) (h2:0<t.length) (hk:∀i (hi:i<t.length),t[i].length=(t.getD 0 []).length) (hd:(t.getD 0 []).length≤1000) (hc:∀x∈cuts,(x.length:Int)=m.chambers∧∀y∈x,0≤y∧y<m.depths):
 Fn Tryz.prog 117 [eSy m t,eIss cuts] false (· =eIss (falses m t cuts)):=by
 have ⟨⟨n1,n2⟩,n3,n4⟩:=isMk_num hm
 refine Fn.of_vcS 52 [.tmp 4] Tryz.func117 rfl rfl rfl rfl rfl (of_decide_eq_true rfl) ?_
 have hq:=c_partLocks m t cuts hm h0 h1 h2 hk hd hc
 simp -dsimp -implicitDefEqProofs only [go_sem]
 (refine sCallS_one (hq) (by simp [noLabs,labs,labsL,isClo]) ?_)
 clear hq
 simp -dsimp -implicitDefEqProofs only [go_sem]
 have hll:=locksTo_len m t cuts (t.getD 0 []).length
 refine Later.up [2,6,15,16] [10,23,41,46,47,48] [11] cuts.length (fun _=>True) (fun i=>[(17,eI i),(5,.ref 11 0 0 (fprTo m t cuts i).length)]) (fun i=>[(11,.row 0 ⟨1,false⟩ (fprTo m t cuts i).isEmpty ((fprTo m t cuts i).map eIs))]) trivial ?_ rfl (fun i hi _=> ?_) (fun _=> ?_)
 · simp -dsimp -implicitDefEqProofs only [go_sem,fprTo_zero,List.isEmpty_nil]
 · have hfl:=fprTo_len m t cuts i
   have li:=lt_len hi
   have gc:=get_some hi
   have hmul:i*(t.getD 0 []).length≤1000*1000:=Nat.mul_le_mul (by omega) hd
   rw [fprTo_succ]
   generalize fprTo m t cuts i=H at*
   simp -dsimp -implicitDefEqProofs only [pz,Nat.reduceBEq,Nat.reduceDiv,Nat.reduceAdd,↓reduceIte,Nat.reduceEqDiff]
   simp -dsimp -implicitDefEqProofs only [go_sem,li,gc]
   refine ⟨by omega,?_⟩
   refine Later.up [2,6,7,8,15,16,17,22,23] [10,41,46,47,48] [11] (t.getD 0 []).length (fun _=>True) (fun k=>[(24,eI k),(5,.ref 11 0 0 (H++fpTo m t cuts i k).length)]) (fun k=>[(11,.row 0 ⟨1,false⟩ (H++fpTo m t cuts i k).isEmpty ((H++fpTo m t cuts i k).map eIs))]) trivial ?_ rfl (fun k hk' _=> ?_) (fun _=> ?_)
   · simp -dsimp -implicitDefEqProofs only [go_sem,fpTo_zero,List.append_nil]
   · have hit:i<t.length:=by omega
     have hki:k<t[i].length:=by rw [hk i hit];exact hk'
     have gi:=get_some hit
     have gk:=get_some hki
     have gl:=locksTo_get m t cuts hk'
     have hp:(t.getD i []).getD k 0=t[i][k]:=by simp [uq2,hit,hki]
     have hcd:cuts.getD i []=cuts[i]:=by simp [uq2,hi]
     have hfk:=fpTo_len m t cuts i k
     have hL:=lockAt_len m t cuts k
     have hcl:=(hc _ (uq4 hi)).1
     have hop:=c_opens (lockAt m t cuts k) cuts[i] (by omega) (by omega) (fun x hx=>by have:=lockAt_sets m t cuts k x hx;omega)
     rw [fpTo_succ,hp,hcd]
     generalize fpTo m t cuts i k=F at*
     generalize lockAt m t cuts k=L at*
     generalize locksTo m t cuts (t.getD 0 []).length=LS at*
     have lk:decide ((k:Int)<(LS.length:Int))=true:=decide_eq_true (by omega)
     generalize t[i][k]=z at*
     generalize cuts[i]=c at*
     generalize hopb:opensL L c=ob at*
     have hG:(H++F).length≤1001000:=by rw [List.length_append];omega
     have e9:∀x:List Int,H++(F++[x])=(H++F)++[x]:=fun x=>by simp
     simp only [e9,apply_ite (fun l=>H++l)]
     generalize H++F=G at*
     have htk:=take_map_all eIs G G.length (uq9 _)
     have e0:(G++[[(i:Int),(k:Int)]]).isEmpty=false:=by simp
     have e2:List.map eIs (G++[[(i:Int),(k:Int)]])=List.map eIs G++[eIs [(i:Int),(k:Int)]]:=by simp
     simp -dsimp -implicitDefEqProofs only [pz,Nat.reduceBEq,Nat.reduceDiv,Nat.reduceAdd,↓reduceIte,Nat.reduceEqDiff]
     rcases hz:(z==0) with _|_
     · simp -dsimp -implicitDefEqProofs only [go_sem,gi,gk,gl,li,lk,hz]
       ((repeat' (with_reducible refine ai ?_ ?_));all_goals try (first|omega|(refine ⟨?_,?_⟩<;>omega)|(exact rfl)))
       all_goals trace_state
     · simp -dsimp -implicitDefEqProofs only [go_sem,gi,gk,gc,gl,li,lk,hz]
       ((repeat' (with_reducible refine ai ?_ ?_));all_goals try (first|omega|(refine ⟨?_,?_⟩<;>omega)|(exact rfl)))
       refine sCallT_one hop ?_
       cases ob with
       |false=>
        simp -dsimp -implicitDefEqProofs only [go_sem]
        ((repeat' (with_reducible refine ai ?_ ?_));all_goals try (first|omega|(refine ⟨?_,?_⟩<;>omega)|(exact rfl)))
        all_goals trace_state
       |true=>
        simp -dsimp -implicitDefEqProofs only [go_sem]
        refine .inr ⟨by omega,(by cases G with|nil=>exact .inr rfl|cons=>exact .inl rfl),⟨by omega,by omega⟩,rfl,?_⟩
        rw [e0,e2]
        simp -dsimp -implicitDefEqProofs only [go_sem,htk]
        all_goals first|exact rfl|skip
   · simp -dsimp -implicitDefEqProofs only [pz,Nat.reduceBEq,Nat.reduceDiv,Nat.reduceAdd,↓reduceIte,Nat.reduceEqDiff]
     simp -dsimp -implicitDefEqProofs only [go_sem,hll,nlt_len]
     ((repeat' (with_reducible refine ai ?_ ?_));all_goals try (first|omega|(refine ⟨?_,?_⟩<;>omega)|(exact rfl)))
     all_goals trace_state
 · have hfl:=fprTo_len m t cuts cuts.length
   unfold falses
   generalize fprTo m t cuts cuts.length=F at*
   have htk:=take_map_all eIs F F.length (uq9 _)
   simp -dsimp -implicitDefEqProofs only [pz,Nat.reduceBEq,Nat.reduceDiv,Nat.reduceAdd,↓reduceIte,Nat.reduceEqDiff]
   simp -dsimp -implicitDefEqProofs only [go_sem,nlt_len]
   ((repeat' (with_reducible refine ai ?_ ?_));all_goals try (first|omega|(refine ⟨?_,?_⟩<;>omega)|(exact rfl)))
   all_goals rw [htk]
end Go.Vc
namespace Go.Vc
open Go.Proofs
theorem key1_out {m:MkM} {c:List Int} (h:key1 m c=true):(c.length:Int)=m.chambers∧∀y∈c,0≤y∧y<m.depths:=by
 obtain ⟨h1,h2,_⟩:=fault_out (beq_iff_eq.1 h)
 exact ⟨h1,h2⟩
theorem isCutsOf_out {m:MkM} {t cuts:List (List Int)} (h:isCutsOf m t cuts=true):cuts.length=t.length∧∀x∈cuts,key1 m x=true:=by
 simp only [isCutsOf,uq0,beq_iff_eq,uq1] at h
 exact h
theorem isSy_mk {m:MkM} {t:List (List Int)} (h:isSy m t=true):isMk m=true:=by
 simp only [isSy,uq0] at h;exact h.1.1
theorem falses_len0 (m:MkM) (t cuts:List (List Int)):(((falses m t cuts).length:Int)==0)=(falses m t cuts).isEmpty:=by
 cases falses m t cuts with
 |nil=>rfl
 |cons x r=>simp;omega
theorem isDes_out {m:MkM} {t cuts:List (List Int)} (h:isDes m t cuts=true):isSy m t=true∧isCutsOf m t cuts=true:=by
 simp only [isDes,uq0] at h;exact h.1
theorem c_l15Cuts (m:MkM) (t cuts:List (List Int)) (h:t.length≤1048576) (h2:∀x∈t,x.length≤1048576) (h3:cuts.length≤1048576) (h4:∀x∈cuts,x.length≤1048576) (hs:isSy m t=true):Fn Tryz.prog 135 [eSy m t,eIss cuts] true (· =eB (isCutsOf m t cuts)):=by
 have hn:=isSy_num hs
 have hq:=c_l04Keys m cuts (isSy_mk hs) h3 h4
 have hlen:((cuts.length:Int)==(t.length:Int))=(cuts.length==t.length):=by rw [Bool.eq_iff_iff];simp only [beq_iff_eq];omega
 refine Fn.of_vcN 17 [.tmp 4] Tryz.func135 rfl rfl rfl rfl rfl (of_decide_eq_true rfl) ?_
 unfold isCutsOf
 rcases hl:(cuts.length==t.length) with _|_
 · simp -dsimp -implicitDefEqProofs only [go_sem,hlen,hl]
   ((repeat' (with_reducible refine ai ?_ ?_));all_goals try (first|omega|(refine ⟨?_,?_⟩<;>omega)|(exact rfl)))
   all_goals trace_state
 · have he:=beq_iff_eq.1 hl
   rw [decide_eq_true (show _ by omega),Bool.and_true] at hq
   simp -dsimp -implicitDefEqProofs only [go_sem,hlen,hl]
   refine sCallT_one hq ?_
   simp -dsimp -implicitDefEqProofs only [go_sem]
   ((repeat' (with_reducible refine ai ?_ ?_));all_goals try (first|omega|(refine ⟨?_,?_⟩<;>omega)|(exact rfl)))
   all_goals trace_state
theorem c_l15Code (m:MkM) (t cuts:List (List Int)) (h:t.length≤1048576) (h2:∀x∈t,x.length≤1048576) (h3:cuts.length≤1048576) (h4:∀x∈cuts,x.length≤1048576):Fn Tryz.prog 114 [eSy m t,eIss cuts] true (· =eI (cutsC m t cuts)):=by
 refine Fn.of_vcN 12 [.tmp 4] Tryz.func114 rfl rfl rfl rfl rfl (of_decide_eq_true rfl) ?_
 have hq:=c_sIsSystem m t h h2
 unfold cutsC
 rcases hb:isSy m t with _|_
 · rw [hb] at hq
   simp -dsimp -implicitDefEqProofs only [go_sem]
   refine sCallT_one hq ?_
   simp -dsimp -implicitDefEqProofs only [go_sem]
   ((repeat' (with_reducible refine ai ?_ ?_));all_goals try (first|omega|(refine ⟨?_,?_⟩<;>omega)|(exact rfl)))
 · have hr:=c_l15Cuts m t cuts h h2 h3 h4 hb
   rw [hb] at hq
   simp -dsimp -implicitDefEqProofs only [go_sem]
   refine sCallT_one hq ?_
   simp -dsimp -implicitDefEqProofs only [go_sem]
   refine sCallT_one hr ?_
   cases isCutsOf m t cuts<;>simp -dsimp -implicitDefEqProofs only [go_sem]
   all_goals ((repeat' (with_reducible refine ai ?_ ?_));all_goals try (first|omega|(refine ⟨?_,?_⟩<;>omega)|(exact rfl)))
theorem c_sIsDesign (m:MkM) (t cuts:List (List Int)) (h:t.length≤1048576) (h2:∀x∈t,x.length≤1048576) (h3:cuts.length≤1048576) (h4:∀x∈cuts,x.length≤1048576):Fn Tryz.prog 92 [eSy m t,eIss cuts] true (· =eB (isDes m t cuts)):=by
 refine Fn.of_vcN 16 [.tmp 4] Tryz.func92 rfl rfl rfl rfl rfl (of_decide_eq_true rfl) ?_
 have hq:=c_l15Code m t cuts h h2 h3 h4
 have hf0:=falses_len0 m t cuts
 rcases hb:(isSy m t&&isCutsOf m t cuts) with _|_
 · have hc:(cutsC m t cuts==0)=false:=by
    unfold cutsC
    cases h1:isSy m t<;>cases h2:isCutsOf m t cuts<;>simp_all
   unfold isDes
   rw [hb]
   generalize cutsC m t cuts=c at*
   simp -dsimp -implicitDefEqProofs only [go_sem]
   refine sCallT_one hq ?_
   simp -dsimp -implicitDefEqProofs only [go_sem,hc]
   ((repeat' (with_reducible refine ai ?_ ?_));all_goals try (first|omega|(refine ⟨?_,?_⟩<;>omega)|(exact rfl)))
   all_goals trace_state
 · obtain ⟨h5,h6⟩:=Bool.and_eq_true_iff.1 hb
   have hn:=isSy_num h5
   obtain ⟨h7,h8⟩:=isCutsOf_out h6
   have hr:=c_l15False m t cuts (isSy_mk h5) (by omega) (by omega) (by omega) (fun i hi=>hn.2.2.2.2 i hi) (by omega) (fun x hx=>(key1_out (h8 x hx)).1)
   have hc:cutsC m t cuts=0:=by rw [cutsC,h5,h6];rfl
   rw [hc] at hq
   unfold isDes
   rw [hb]
   generalize falses m t cuts=F at*
   simp -dsimp -implicitDefEqProofs only [go_sem]
   refine sCallT_one hq ?_
   simp -dsimp -implicitDefEqProofs only [go_sem]
   (refine sCallS_one (hr) (by simp [noLabs,labs,labsL,isClo]) ?_)
   simp -dsimp -implicitDefEqProofs only [go_sem,hf0]
   ((repeat' (with_reducible refine ai ?_ ?_));all_goals try (first|omega|(refine ⟨?_,?_⟩<;>omega)|(exact rfl)))
   all_goals trace_state
theorem c_l21Code (m:MkM) (t cuts:List (List Int)) (h:t.length≤1048576) (h2:∀x∈t,x.length≤1048576) (h3:cuts.length≤1048576) (h4:∀x∈cuts,x.length≤1048576):Fn Tryz.prog 68 [eSy m t,eIss cuts] true (· =eI (if isDes m t cuts then 0 else 1)):=by
 refine Fn.of_vcN 9 [.tmp 4] Tryz.func68 rfl rfl rfl rfl rfl (of_decide_eq_true rfl) ?_
 have hq:=c_sIsDesign m t cuts h h2 h3 h4
 simp -dsimp -implicitDefEqProofs only [go_sem]
 refine sCallT_one hq ?_
 cases isDes m t cuts<;>simp -dsimp -implicitDefEqProofs only [go_sem]
 all_goals ((repeat' (with_reducible refine ai ?_ ?_));all_goals try (first|omega|(refine ⟨?_,?_⟩<;>omega)|(exact rfl)))
theorem c_cutsCode (m:MkM) (t cuts:List (List Int)) (h:t.length≤1048576) (h2:∀x∈t,x.length≤1048576) (h3:cuts.length≤1048576) (h4:∀x∈cuts,x.length≤1048576):Fn Tryz.prog 116 [eSy m t,eIss cuts] true (· =eI (cutsC m t cuts)):=by
 refine Fn.of_vcN 21 [.tmp 4] Tryz.func116 rfl rfl rfl rfl rfl (of_decide_eq_true rfl) ?_
 have hq:=c_iIsSystem m t h h2
 unfold cutsC
 rcases hb:isSy m t with _|_
 · rw [hb] at hq
   simp -dsimp -implicitDefEqProofs only [go_sem]
   refine sCallT_one hq ?_
   simp -dsimp -implicitDefEqProofs only [go_sem]
   ((repeat' (with_reducible refine ai ?_ ?_));all_goals try (first|omega|(refine ⟨?_,?_⟩<;>omega)|(exact rfl)))
 · have hr:=c_areKeys m cuts (isSy_mk hb) h3 h4
   rw [hb] at hq
   have hlen:((cuts.length:Int) != (t.length:Int))= !(cuts.length==t.length):=by
    rw [Bool.eq_iff_iff];simp only [bne_iff_ne,Bool.not_eq_true',beq_eq_false_iff_ne];omega
   unfold isCutsOf
   rcases hl:(cuts.length==t.length) with _|_
   · simp -dsimp -implicitDefEqProofs only [go_sem]
     refine sCallT_one hq ?_
     simp -dsimp -implicitDefEqProofs only [go_sem,hlen,hl,Bool.not_false]
     ((repeat' (with_reducible refine ai ?_ ?_));all_goals try (first|omega|(refine ⟨?_,?_⟩<;>omega)|(exact rfl)))
     all_goals trace_state
   · simp -dsimp -implicitDefEqProofs only [go_sem]
     refine sCallT_one hq ?_
     simp -dsimp -implicitDefEqProofs only [go_sem,hlen,hl,Bool.not_true]
     refine sCallT_one hr ?_
     cases cuts.all (key1 m)<;>simp -dsimp -implicitDefEqProofs only [go_sem]
     all_goals ((repeat' (with_reducible refine ai ?_ ?_));all_goals try (first|omega|(refine ⟨?_,?_⟩<;>omega)|(exact rfl)))
     all_goals trace_state
theorem c_iIsDesign (m:MkM) (t cuts:List (List Int)) (h:t.length≤1048576) (h2:∀x∈t,x.length≤1048576) (h3:cuts.length≤1048576) (h4:∀x∈cuts,x.length≤1048576):Fn Tryz.prog 95 [eSy m t,eIss cuts] true (· =eB (isDes m t cuts)):=by
 refine Fn.of_vcN 16 [.tmp 4] Tryz.func95 rfl rfl rfl rfl rfl (of_decide_eq_true rfl) ?_
 have hq:=c_cutsCode m t cuts h h2 h3 h4
 have hf0:=falses_len0 m t cuts
 rcases hb:(isSy m t&&isCutsOf m t cuts) with _|_
 · have hc:(cutsC m t cuts==0)=false:=by
    unfold cutsC
    cases h1:isSy m t<;>cases h2:isCutsOf m t cuts<;>simp_all
   unfold isDes
   rw [hb]
   generalize cutsC m t cuts=c at*
   simp -dsimp -implicitDefEqProofs only [go_sem]
   refine sCallT_one hq ?_
   simp -dsimp -implicitDefEqProofs only [go_sem,hc]
   ((repeat' (with_reducible refine ai ?_ ?_));all_goals try (first|omega|(refine ⟨?_,?_⟩<;>omega)|(exact rfl)))
   all_goals trace_state
 · obtain ⟨h5,h6⟩:=Bool.and_eq_true_iff.1 hb
   have hn:=isSy_num h5
   obtain ⟨h7,h8⟩:=isCutsOf_out h6
   have hr:=c_partFaults m t cuts (isSy_mk h5) (by omega) (by omega) (by omega) (fun i hi=>hn.2.2.2.2 i hi) (by omega) (fun x hx=>key1_out (h8 x hx))
   have hc:cutsC m t cuts=0:=by rw [cutsC,h5,h6];rfl
   rw [hc] at hq
   unfold isDes
   rw [hb]
   generalize falses m t cuts=F at*
   simp -dsimp -implicitDefEqProofs only [go_sem]
   refine sCallT_one hq ?_
   simp -dsimp -implicitDefEqProofs only [go_sem]
   (refine sCallS_one (hr) (by simp [noLabs,labs,labsL,isClo]) ?_)
   simp -dsimp -implicitDefEqProofs only [go_sem,hf0]
   ((repeat' (with_reducible refine ai ?_ ?_));all_goals try (first|omega|(refine ⟨?_,?_⟩<;>omega)|(exact rfl)))
   all_goals trace_state
theorem c_designCode (m:MkM) (t cuts:List (List Int)) (h:t.length≤1048576) (h2:∀x∈t,x.length≤1048576) (h3:cuts.length≤1048576) (h4:∀x∈cuts,x.length≤1048576):Fn Tryz.prog 73 [eSy m t,eIss cuts] true (· =eI (if isDes m t cuts then 0 else 1)):=by
 refine Fn.of_vcN 9 [.tmp 4] Tryz.func73 rfl rfl rfl rfl rfl (of_decide_eq_true rfl) ?_
 have hq:=c_iIsDesign m t cuts h h2 h3 h4
 simp -dsimp -implicitDefEqProofs only [go_sem]
 refine sCallT_one hq ?_
 cases isDes m t cuts<;>simp -dsimp -implicitDefEqProofs only [go_sem]
 all_goals ((repeat' (with_reducible refine ai ?_ ?_));all_goals try (first|omega|(refine ⟨?_,?_⟩<;>omega)|(exact rfl)))
end Go.Vc
namespace Go.Vc
open Go.Proofs
theorem onTo_in {t cuts:List (List Int)} {k r:Nat} (h1:((t.getD r []).getD k 0==1)=true):∀n,r<n→cuts.getD r []∈onTo t cuts k n
 |0,h=>by omega
 |n+1,h=>by
  rw [onTo_succ]
  by_cases e:r=n
  · subst e;rw [if_pos h1];simp
  · have:=onTo_in h1 (cuts:=cuts) n (by omega)
    split
    · exact List.mem_append_left _ this
    · exact this
theorem rises_of {xs:List Int} {n:Int} (hp:xs.Pairwise (· < ·)) (hb:∀x∈xs,0≤x∧x<n):rises xs n=true:=by
 unfold rises
 rw [uq1]
 intro i hi
 have hi:=List.mem_range.1 hi
 have h1:=hb _ (uq4 hi)
 have e:xs.getD i 0=xs[i]:=by simp [uq2,hi]
 simp only [riseAt,uq0,Bool.or_eq_true,decide_eq_true_eq,beq_iff_eq]
 rw [e]
 refine ⟨h1,?_⟩
 by_cases h0:i=0
 · exact .inl h0
 · have hi':i-1<xs.length:=by omega
   have e':xs.getD (i-1) 0=xs[i-1]:=by simp [uq2,hi']
   rw [e']
   exact .inr (List.pairwise_iff_getElem.1 hp (i-1) i hi' hi (by omega))
theorem lock_ok {m:MkM} {t cuts:List (List Int)} (hs:isSy m t=true) (hc:isCutsOf m t cuts=true) {k:Nat} (hk:k<(t.getD 0 []).length):isLk0 m (lockAt m t cuts k)=true:=by
 have hmk:=isSy_mk hs
 have ⟨⟨n1,n2⟩,n3,n4⟩:=isMk_num hmk
 obtain ⟨c1,c2⟩:=isCutsOf_out hc
 simp only [isSy,uq0] at hs
 have hd:=hs.2
 unfold doorsOpen at hd
 rw [uq1] at hd
 have hd:=hd k (List.mem_range.2 hk)
 unfold doorOpen at hd
 obtain ⟨row,hrow,hr1⟩:=List.any_eq_true.1 hd
 obtain ⟨r,hr,rfl⟩:=List.getElem_of_mem hrow
 have hrt:t.getD r []=t[r]:=by simp [uq2,hr]
 have hin:=onTo_in (cuts:=cuts) (t:=t) (k:=k) (r:=r) (by rw [hrt];exact hr1) cuts.length (by omega)
 have hrc:r<cuts.length:=by omega
 have hcr:cuts.getD r []=cuts[r]:=by simp [uq2,hrc]
 rw [hcr] at hin
 obtain ⟨k1,k2⟩:=key1_out (c2 _ (uq4 hrc))
 simp only [isLk0,uq0,beq_iff_eq,uq1]
 refine ⟨by rw [lockAt_len];omega,fun x hx=> ?_⟩
 simp only [lockAt,hull,List.mem_map,List.mem_range] at hx
 obtain ⟨i,hi,rfl⟩:=hx
 simp only [lockSet,uq0,decide_eq_true_eq]
 have hil:i<cuts[r].length:=by omega
 have hb:=k2 _ (uq4 hil)
 constructor
 · have hm:=mem_flt_of (p:=hullAt (onTo t cuts k cuts.length) i) (n:=m.depths.toNat) (j:=cuts[r][i].toNat) (by omega) (by
    unfold hullAt
    rw [List.any_eq_true]
    refine ⟨cuts[r],hin,?_⟩
    rw [beq_iff_eq,show cuts[r].getD i 0=cuts[r][i] by simp [uq2,hil]]
    omega)
   intro h0
   have:hullSet m (onTo t cuts k cuts.length) i=[]:=List.eq_nil_of_length_eq_zero h0
   unfold hullSet at this
   rw [this] at hm;cases hm
 · refine rises_of (flt_pair _ _) fun x hx=> ?_
   obtain ⟨j,hj,rfl,_⟩:=flt_mem hx
   omega
theorem isOrd_out {t:List (List Int)} {os:List ItM} (h:isOrd t os=true):os.length≤20∧∀i (hi:i<os.length),0≤os[i].index∧os[i].index<(if os[i].key=true then (t.length:Int) else (t.getD 0 []).length)∧1≤os[i].copies∧os[i].copies≤50:=by
 simp only [isOrd,uq0,decide_eq_true_eq,uq1] at h
 refine ⟨h.2,fun i hi=> ?_⟩
 have:=h.1 _ (uq4 hi)
 simp only [itOk,isIn,uq0,decide_eq_true_eq] at this
 omega
theorem osTo_ok {m:MkM} {t cuts:List (List Int)} {os:List ItM} (hs:isSy m t=true) (hc:isCutsOf m t cuts=true) (ho:isOrd t os=true):∀i:Nat,i≤os.length→ok3 m.depths.toNat ((i:Int)*350000000) (osTo m t cuts os i)
 |0,_=>(zero3_ok _).mono (by simp)
 |i+1,hi=>by
  have ih:=osTo_ok hs hc ho (m:=m) (cuts:=cuts) i (by omega)
  have hlt:i<os.length:=by omega
  obtain ⟨_,h1⟩:=isOrd_out ho
  obtain ⟨a1,a2,a3,a4⟩:=h1 i hlt
  have e:os.getD i default=os[i]:=by simp [uq2,hlt]
  rw [osTo_succ,e]
  generalize os[i]=x at*
  unfold osStep
  split
  · exact ih.mono (by omega)
  · rename_i hk
    rw [if_neg hk] at a2
    have hmk:=isSy_mk hs
    have hn:=isMk_num hmk
    have hl:=lock_ok hs hc (k:=x.index.toNat) (by omega)
    have hst:=stockL_ok hl hmk (fun y hy=>by have:=lockAt_sets m t cuts _ y hy;omega)
    exact ⟨(addM_ok ih.1 hst.1 ⟨by omega,a4⟩ _).mono (by omega),(addM_ok ih.2.1 hst.2.1 ⟨by omega,a4⟩ _).mono (by omega),(addM_ok ih.2.2 hst.2.2 ⟨by omega,a4⟩ _).mono (by omega)⟩
theorem i10:((1:Int)==0)=false:=rfl
theorem n10:((1:Int) != 0)=true:=rfl
def stockCode (m:MkM) (t cuts:List (List Int)) (os:List ItM):Int:=if isDes m t cuts=true then (if isOrd t os=true then 0 else 2) else 1
def stockR (m:MkM) (t cuts:List (List Int)) (os:List ItM):AV:=if stockCode m t cuts os=0 then .tup [eIs (osTo m t cuts os os.length).b,eIs (osTo m t cuts os os.length).w,eIs (osTo m t cuts os os.length).d,eI 0] else .tup [eIs [],eIs [],eIs [],eI (stockCode m t cuts os)]
theorem c_l29Code (m:MkM) (t cuts:List (List Int)) (os:List ItM) (h:t.length≤1048576) (h2:∀x∈t,x.length≤1048576) (h3:cuts.length≤1048576) (h4:∀x∈cuts,x.length≤1048576) (h5:os.length≤1048576):Fn Tryz.prog 36 [eSy m t,eIss cuts,eIts os] true (· =eI (stockCode m t cuts os)):=by
 refine Fn.of_vcN 20 [.tmp 6] Tryz.func36 rfl rfl rfl rfl rfl (of_decide_eq_true rfl) ?_
 have hq:=c_l21Code m t cuts h h2 h3 h4
 unfold stockCode
 rcases hb:isDes m t cuts with _|_
 · rw [hb] at hq
   simp -dsimp -implicitDefEqProofs only [go_sem]
   refine sCallT_one hq ?_
   simp -dsimp -implicitDefEqProofs only [go_sem,i10,n10]
   ((repeat' (with_reducible refine ai ?_ ?_));all_goals try (first|omega|(refine ⟨?_,?_⟩<;>omega)|(exact rfl)))
 · have hn:=isSy_num (isDes_out hb).1
   have hr:=c_l29Valid m t os (by omega) h h2 (by omega)
   rw [hb] at hq
   simp -dsimp -implicitDefEqProofs only [go_sem]
   refine sCallT_one hq ?_
   simp -dsimp -implicitDefEqProofs only [go_sem]
   refine sCallT_one hr ?_
   cases isOrd t os<;>simp -dsimp -implicitDefEqProofs only [go_sem]
   all_goals ((repeat' (with_reducible refine ai ?_ ?_));all_goals try (first|omega|(refine ⟨?_,?_⟩<;>omega)|(exact rfl)))
theorem c_designOrderCode (m:MkM) (t cuts:List (List Int)) (os:List ItM) (h:t.length≤1048576) (h2:∀x∈t,x.length≤1048576) (h3:cuts.length≤1048576) (h4:∀x∈cuts,x.length≤1048576) (h5:os.length≤1048576):Fn Tryz.prog 43 [eSy m t,eIss cuts,eIts os] true (· =eI (stockCode m t cuts os)):=by
 refine Fn.of_vcN 17 [.tmp 6] Tryz.func43 rfl rfl rfl rfl rfl (of_decide_eq_true rfl) ?_
 have hq:=c_designCode m t cuts h h2 h3 h4
 have hr:=c_orderCode m t os h h2 h5
 unfold stockCode
 rcases hb:isDes m t cuts with _|_
 · rw [hb] at hq
   simp -dsimp -implicitDefEqProofs only [go_sem]
   refine sCallT_one hq ?_
   simp -dsimp -implicitDefEqProofs only [go_sem,i10,n10]
   ((repeat' (with_reducible refine ai ?_ ?_));all_goals try (first|omega|(refine ⟨?_,?_⟩<;>omega)|(exact rfl)))
 · rw [hb] at hq
   rw [ordCode,(isDes_out hb).1] at hr
   simp -dsimp -implicitDefEqProofs only [go_sem]
   refine sCallT_one hq ?_
   simp -dsimp -implicitDefEqProofs only [go_sem]
   refine sCallT_one hr ?_
   cases isOrd t os<;>simp -dsimp -implicitDefEqProofs only [go_sem]
   all_goals ((repeat' (with_reducible refine ai ?_ ?_));all_goals try (first|omega|(refine ⟨?_,?_⟩<;>omega)|(exact rfl)))
theorem addM_map (xs a:List Int) (c:Int) (k:Nat):(addM xs a c (k+1)).map eI=((addM xs a c k).map eI).set k (eI (xs.getD k 0+c*a.getD k 0)):=by rw [addM_succ,List.map_set]
theorem addM_at {D:Nat} {p:Int} {xs:List Int} (h:okS D p xs) (a:List Int) (c:Int) {k:Nat} (hk:k<D):(addM xs a c k)[k]? =some (xs.getD k 0):=by
 have h1:=addM_len xs a c k
 have h2:=addM_get xs a c k k
 rw [if_neg (by omega)] at h2
 rw [←h2]
 have:k<(addM xs a c k).length:=by rw [h1,h.1];exact hk
 simp [uq2,this]
theorem okS.at {D:Nat} {p:Int} {xs:List Int} (h:okS D p xs) {k:Nat} (hk:k<D):xs[k]? =some (xs.getD k 0):=by
 have:k<xs.length:=by rw [h.1];exact hk
 simp [uq2,this]
theorem mul_in {c x q:Int} (hc:0≤c∧c≤50) (hx:0≤x∧x≤q):0≤c*x∧c*x≤50*q:=
 ⟨Int.mul_nonneg hc.1 hx.1,Int.le_trans (Int.mul_le_mul_of_nonneg_right hc.2 hx.1) (Int.mul_le_mul_of_nonneg_left hx.2 (by decide))⟩
theorem c_sOrderStock (m:MkM) (t cuts:List (List Int)) (os:List ItM) (h:t.length≤1048576) (h2:∀x∈t,x.length≤1048576) (h3:cuts.length≤1048576) (h4:∀x∈cuts,x.length≤1048576) (h5:os.length≤1048576):Fn Tryz.prog 26 [eSy m t,eIss cuts,eIts os] true (· =stockR m t cuts os):=by
 refine Fn.of_vcN 130 [.tmp 6,.tmp 7,.tmp 8,.tmp 9] Tryz.func26 rfl rfl rfl rfl rfl (of_decide_eq_true rfl) ?_
 have hq:=c_l29Code m t cuts os h h2 h3 h4 h5
 unfold stockR
 rcases hb:(isDes m t cuts&&isOrd t os) with _|_
 · have hne:stockCode m t cuts os≠0:=by
    unfold stockCode
    cases h6:isDes m t cuts<;>cases h7:isOrd t os<;>simp_all
   rw [if_neg hne]
   have hne':(stockCode m t cuts os != 0)=true:=by simp [hne]
   generalize stockCode m t cuts os=c at*
   simp -dsimp -implicitDefEqProofs only [go_sem]
   refine sCallT_one hq ?_
   simp -dsimp -implicitDefEqProofs only [go_sem,hne']
   ((repeat' (with_reducible refine ai ?_ ?_));all_goals try (first|omega|(refine ⟨?_,?_⟩<;>omega)|(exact rfl)))
   all_goals trace_state
 obtain ⟨hd,ho⟩:=Bool.and_eq_true_iff.1 hb
 have h0:stockCode m t cuts os=0:=by rw [stockCode,if_pos hd,if_pos ho]
 rw [if_pos h0]
 rw [h0] at hq
 obtain ⟨hs,hc⟩:=isDes_out hd
 have hmk:=isSy_mk hs
 have ⟨⟨n1,n2⟩,n3,n4⟩:=isMk_num hmk
 obtain ⟨k1,k2,k3,k4,k5⟩:=isSy_num hs
 obtain ⟨c1,c2⟩:=isCutsOf_out hc
 obtain ⟨o1,o2⟩:=isOrd_out ho
 have hok:=fun i (hi:i≤os.length)=>osTo_ok hs hc ho i hi
 simp -dsimp -implicitDefEqProofs only [go_sem]
 refine sCallT_one hq ?_
 simp -dsimp -implicitDefEqProofs only [go_sem]
 refine Later.draw mixed rfl ?_
 simp -dsimp -implicitDefEqProofs only [go_sem]
 refine ⟨⟨by omega,by omega⟩,⟨by omega,by omega⟩,⟨by omega,by omega⟩,by exact rfl,?_⟩
 refine Later.up [1,2,3,11,12,13] [41,60,61,62,69] [30,34,38] os.length (fun _=>True) (fun i=>[(14,eI i)]) (fun i=>[(30,.row 0 ⟨1,false⟩ true ((osTo m t cuts os i).b.map eI)),(34,.row 0 ⟨1,false⟩ true ((osTo m t cuts os i).w.map eI)),(38,.row 0 ⟨1,false⟩ true ((osTo m t cuts os i).d.map eI))]) trivial ?_ rfl (fun i hi _=> ?_) (fun _=> ?_)
 · simp -dsimp -implicitDefEqProofs only [go_sem,osTo_zero,zero3,List.map_replicate]
   ((repeat' (with_reducible refine ai ?_ ?_));all_goals try (first|omega|(refine ⟨?_,?_⟩<;>omega)|(exact rfl)))
 · have gi:=get_some hi
   have li:=lt_len hi
   have oi:=o2 i hi
   have e:os.getD i default=os[i]:=by simp [uq2,hi]
   have hz:=hok i (by omega)
   rw [osTo_succ,e]
   clear e
   generalize osTo m t cuts os i=z at*
   generalize os[i]=x at*
   obtain ⟨xk,xi,xc⟩:=x
   unfold osStep
   simp only at oi ⊢
   cases xk with
   |true=>
    simp only [if_true]
    simp -dsimp -implicitDefEqProofs only [pz,Nat.reduceBEq,Nat.reduceDiv,Nat.reduceAdd,↓reduceIte,Nat.reduceEqDiff]
    simp -dsimp -implicitDefEqProofs only [go_sem,gi,li]
    ((repeat' (with_reducible refine ai ?_ ?_));all_goals try (first|omega|(refine ⟨?_,?_⟩<;>omega)|(exact rfl)))
    all_goals trace_state
   |false=>
    simp only [Bool.false_eq_true,if_false] at oi ⊢
    obtain ⟨a1,a2,a3,a4⟩:=oi
    have hil:xi.toNat<(t.getD 0 []).length:=by omega
    have hxi:xi=((xi.toNat:Nat):Int):=by omega
    have hl:=lock_ok hs hc hil
    have hll:∀y∈lockAt m t cuts xi.toNat,y.length≤1048576:=fun y hy=>by have:=lockAt_sets m t cuts _ y hy;omega
    have hlock:=c_l15Lock m t cuts xi.toNat hmk (by omega) (by omega) (fun j hj=>by rw [k5 j hj];exact hil) (fun y hy=>(key1_out (c2 y hy)).1)
    rw [←hxi] at hlock
    have hstk:=c_sStockOf m (lockAt m t cuts xi.toNat) hmk hl hll
    have hst:=stockL_ok hl hmk hll
    generalize lockAt m t cuts xi.toNat=L at*
    generalize stockL m L=q at*
    obtain ⟨qb,qw,qd⟩:=q
    obtain ⟨zb,zw,zd⟩:=z
    obtain ⟨⟨s1,s1'⟩,⟨s2,s2'⟩,⟨s3,s3'⟩⟩:=hst
    have hst:okS m.depths.toNat 7000000 qb∧okS m.depths.toNat 7000000 qw∧okS m.depths.toNat 7000000 qd:=⟨⟨s1,s1'⟩,⟨s2,s2'⟩,⟨s3,s3'⟩⟩
    obtain ⟨z1,z2,z3⟩:=hz
    simp only at s1 s2 s3 z1 z2 z3 hstk ⊢
    unfold add3
    simp only
    simp -dsimp -implicitDefEqProofs only [pz,Nat.reduceBEq,Nat.reduceDiv,Nat.reduceAdd,↓reduceIte,Nat.reduceEqDiff]
    simp -dsimp -implicitDefEqProofs only [go_sem,gi,li]
    ((repeat' (with_reducible refine ai ?_ ?_));all_goals try (first|omega|(refine ⟨?_,?_⟩<;>omega)|(exact rfl)))
    refine Later.draw mixed rfl ?_
    simp -dsimp -implicitDefEqProofs only [go_sem,gi]
    ((repeat' (with_reducible refine ai ?_ ?_));all_goals try (first|omega|(refine ⟨?_,?_⟩<;>omega)|(exact rfl)))
    refine sCallXS_one hlock (by simp [noLabs,labs,labsL,isClo]) ?_
    simp -dsimp -implicitDefEqProofs only [go_sem]
    refine sCallX_one hstk ?_
    simp -dsimp -implicitDefEqProofs only [go_sem]
    ((repeat' (with_reducible refine ai ?_ ?_));all_goals try (first|omega|(refine ⟨?_,?_⟩<;>omega)|(exact rfl)))
    refine Later.up [1,2,3,11,12,13,14,15,16,17] [69] [30,34,38] m.depths.toNat (fun _=>True) (fun d=>[(19,eI d)]) (fun d=>[(30,.row 0 ⟨1,false⟩ true ((addM zb qb xc d).map eI)),(34,.row 0 ⟨1,false⟩ true ((addM zw qw xc d).map eI)),(38,.row 0 ⟨1,false⟩ true ((addM zd qd xc d).map eI))]) trivial ?_ rfl (fun d hd' _=> ?_) (fun _=> ?_)
    · simp -dsimp -implicitDefEqProofs only [go_sem,addM_zero]
      ((repeat' (with_reducible refine ai ?_ ?_));all_goals try (first|omega|(refine ⟨?_,?_⟩<;>omega)|(exact rfl)))
    · have hlt:decide ((d:Int)<(qb.length:Int))=true:=decide_eq_true (by omega)
      have gzb:=addM_at z1 qb xc hd'
      have gzw:=addM_at z2 qw xc hd'
      have gzd:=addM_at z3 qd xc hd'
      have gqb:=hst.1.at hd'
      have gqw:=hst.2.1.at hd'
      have gqd:=hst.2.2.at hd'
      have bzb:=z1.2 d hd'
      have bzw:=z2.2 d hd'
      have bzd:=z3.2 d hd'
      have mb:=mul_in ⟨show 0≤xc by omega,a4⟩ (hst.1.2 d hd')
      have mw:=mul_in ⟨show 0≤xc by omega,a4⟩ (hst.2.1.2 d hd')
      have md:=mul_in ⟨show 0≤xc by omega,a4⟩ (hst.2.2.2 d hd')
      have lb:=addM_len zb qb xc d
      have lw:=addM_len zw qw xc d
      have ld:=addM_len zd qd xc d
      have lzb:=z1.1
      have lzw:=z2.1
      have lzd:=z3.1
      rw [addM_map,addM_map,addM_map]
      generalize zb.getD d 0=vb at*
      generalize zw.getD d 0=vw at*
      generalize zd.getD d 0=vd at*
      generalize qb.getD d 0=ub at*
      generalize qw.getD d 0=uw at*
      generalize qd.getD d 0=ud at*
      generalize addM zb qb xc d=Ab at*
      generalize addM zw qw xc d=Aw at*
      generalize addM zd qd xc d=Ad at*
      generalize hmb:xc*ub=eb at*
      generalize hmw:xc*uw=ew at*
      generalize hmd:xc*ud=ed at*
      simp -dsimp -implicitDefEqProofs only [pz,Nat.reduceBEq,Nat.reduceDiv,Nat.reduceAdd,↓reduceIte,Nat.reduceEqDiff]
      simp -dsimp -implicitDefEqProofs only [go_sem,hlt]
      refine Later.draw mixed rfl ?_
      simp -dsimp -implicitDefEqProofs only [go_sem,gi,gzb,gqb,hmb]
      ((repeat' (with_reducible refine ai ?_ ?_));all_goals try (first|omega|(refine ⟨?_,?_⟩<;>omega)|(exact rfl)))
      refine Later.draw mixed rfl ?_
      simp -dsimp -implicitDefEqProofs only [go_sem,gi,gzw,gqw,hmw]
      ((repeat' (with_reducible refine ai ?_ ?_));all_goals try (first|omega|(refine ⟨?_,?_⟩<;>omega)|(exact rfl)))
      refine Later.draw mixed rfl ?_
      simp -dsimp -implicitDefEqProofs only [go_sem,gi,gzd,gqd,hmd]
      ((repeat' (with_reducible refine ai ?_ ?_));all_goals try (first|omega|(refine ⟨?_,?_⟩<;>omega)|(exact rfl)))
      all_goals trace_state
    · have hlt:decide (((m.depths.toNat:Nat):Int)<(qb.length:Int))=false:=decide_eq_false (by omega)
      simp -dsimp -implicitDefEqProofs only [pz,Nat.reduceBEq,Nat.reduceDiv,Nat.reduceAdd,↓reduceIte,Nat.reduceEqDiff]
      simp -dsimp -implicitDefEqProofs only [go_sem,hlt]
      ((repeat' (with_reducible refine ai ?_ ?_));all_goals try (first|omega|(refine ⟨?_,?_⟩<;>omega)|(exact rfl)))
      all_goals trace_state
 · have hz:=hok os.length (uq9 _)
   generalize osTo m t cuts os os.length=z at*
   obtain ⟨⟨l1,_⟩,⟨l2,_⟩,⟨l3,_⟩⟩:=hz
   have t1:=take_map_all eI z.b m.depths.toNat (by omega)
   have t2:=take_map_all eI z.w m.depths.toNat (by omega)
   have t3:=take_map_all eI z.d m.depths.toNat (by omega)
   simp -dsimp -implicitDefEqProofs only [pz,Nat.reduceBEq,Nat.reduceDiv,Nat.reduceAdd,↓reduceIte,Nat.reduceEqDiff]
   simp -dsimp -implicitDefEqProofs only [go_sem,nlt_len]
   ((repeat' (with_reducible refine ai ?_ ?_));all_goals try (first|omega|(refine ⟨?_,?_⟩<;>omega)|(exact rfl)))
   all_goals first|(rw [t1];done)|(rw [t2];done)|(rw [t3];done)|(simp;done)|skip
end Go.Vc
namespace Go.Vc
open Go.Proofs
theorem cmpN_self (x:Int):cmpN x x=0:=by unfold cmpN;simp
theorem cmpN_swap (x y:Int):cmpN y x= -cmpN x y:=by unfold cmpN;split<;>split<;>first|omega|(split<;>omega)|simp
theorem cmpL_self:∀xs:List Int,cmpL xs xs=0
 | []=>rfl
 |x::xs=>by rw [cmpL,cmpN_self,if_neg (by simp),cmpL_self xs]
theorem cmpL_swap:∀xs ys:List Int,cmpL ys xs= -cmpL xs ys
 | [],[]=>rfl
 | [],_::_=>rfl
 |_::_,[]=>rfl
 |x::xs,y::ys=>by
  rw [cmpL,cmpL,cmpN_swap x y]
  by_cases h:cmpN x y=0
  · rw [h,if_neg (by simp),if_neg (by simp),cmpL_swap xs ys]
  · rw [if_pos (by simp;omega),if_pos (by simpa using h)]
theorem cmpL_pre (c:List Int) (d e:Int) (xs ys:List Int) (h:d<e):cmpL (c++d::xs) (c++e::ys)<0:=by
 induction c with
 |nil=>
  have:cmpN d e= -1:=by unfold cmpN;rw [if_pos h]
  simp only [List.nil_append,cmpL,this]
  rw [if_pos (by decide)]
  decide
 |cons x c ih=>
  rw [List.cons_append,List.cons_append,cmpL,cmpN_self,if_neg (by simp)]
  exact ih
theorem keysFrom_pre {m:MkM}:∀(n:Nat) (c k:List Int),k∈keysFrom m n c→∃r,k=c++r
 |0,c,k,h=>by
  simp only [keysFrom] at h
  split at h
  · cases h
  · rw [List.mem_singleton] at h
    exact ⟨[],by rw [h,List.append_nil]⟩
 |n+1,c,k,h=>by
  simp only [keysFrom,List.mem_flatMap,List.mem_range] at h
  obtain ⟨d,hd,h⟩:=h
  split at h
  · obtain ⟨r,hr⟩:=keysFrom_pre n _ k h
    exact ⟨(d:Int)::r,by rw [hr];simp⟩
  · cases h
theorem keysFrom_up {m:MkM}:∀(n:Nat) (c:List Int),(keysFrom m n c).Pairwise fun a b=>cmpL a b<0
 |0,c=>by
  simp only [keysFrom]
  split
  · exact .nil
  · exact List.pairwise_singleton ..
 |n+1,c=>by
  simp only [keysFrom]
  rw [List.pairwise_flatMap]
  refine ⟨fun d hd=> ?_,?_⟩
  · split
    · exact keysFrom_up n _
    · exact .nil
  · refine List.Pairwise.imp ?_ (List.pairwise_lt_range (n:=m.depths.toNat))
    intro d e hde x hx y hy
    split at hx
    · split at hy
      · obtain ⟨r,rfl⟩:=keysFrom_pre n _ x hx
        obtain ⟨s,rfl⟩:=keysFrom_pre n _ y hy
        rw [List.append_assoc,List.append_assoc]
        exact cmpL_pre c _ _ _ _ (by omega)
      · cases hy
    · cases hx
theorem allK_split {m:MkM} (hm:0≤m.chambers) {k:List Int} (h:KeyOk m k):∃a b,allK m=a++k::b∧(∀x∈a,cmpL x k<0)∧(∀x∈b,0<cmpL x k)∧k∉a∧k∉b:=by
 obtain ⟨a,b,e1,_⟩:=next_behind h k.length (uq9 _)
 rw [Nat.sub_self,uq8] at e1
 have e2:allK m=a++k::b:=by
  rw [←e1];unfold allK
  congr 1
  have:=h.len;omega
 have hp:=keysFrom_up (m:=m) m.chambers.toNat []
 rw [show keysFrom m m.chambers.toNat []=a++k::b from e2,List.pairwise_append] at hp
 obtain ⟨_,p2,p3⟩:=hp
 rw [List.pairwise_cons] at p2
 have h1:∀x∈a,cmpL x k<0:=fun x hx=>p3 x hx k (List.mem_cons_self ..)
 have h2:∀x∈b,0<cmpL x k:=fun x hx=>by
  have:=p2.1 x hx
  rw [cmpL_swap k x];omega
 refine ⟨a,b,e2,h1,h2,fun hk=> ?_,fun hk=> ?_⟩
 · have:=h1 k hk;rw [cmpL_self] at this;omega
 · have:=h2 k hk;rw [cmpL_self] at this;omega
theorem set_at {α:Type} {A B:List α} {x y:α} {n:Nat} (h:n=A.length):(A++x::B).set n y=A++y::B:=by
 subst h
 induction A with
 |nil=>rfl
 |cons a A ih=>simp [ih]
theorem getD_mid {α:Type} {A B:List α} {x d:α} {n:Nat} (h:n=A.length):(A++x::B).getD n d=x:=by
 subst h
 simp [uq2]
def addKc (cuts:List (List Int)) (k:List Int) (x:ItM):Int:=if (x.key&&decide (cuts.getD x.index.toNat []=k))=true then x.copies else 0
def kcnt (cuts:List (List Int)) (os:List ItM) (k:List Int):Nat→Int
 |0=>0
 |n+1=>kcnt cuts os k n+addKc cuts k (os.getD n default)
theorem kcnt_succ (cuts:List (List Int)) (os:List ItM) (k:List Int) (n:Nat):kcnt cuts os k (n+1)=kcnt cuts os k n+addKc cuts k (os.getD n default):=rfl
def ordK (m:MkM) (cuts:List (List Int)) (os:List ItM) (n:Nat):List (List Int):=(allK m).filter fun k=>decide (0<kcnt cuts os k n)
def ordC (m:MkM) (cuts:List (List Int)) (os:List ItM) (n:Nat):List Int:=(ordK m cuts os n).map fun k=>kcnt cuts os k n
def keysR (m:MkM) (t cuts:List (List Int)) (os:List ItM):AV:=
 if stockCode m t cuts os=0 then .tup [eIss (ordK m cuts os os.length),eIs (ordC m cuts os os.length),eI 0] else .tup [eIss [],eIs [],eI (stockCode m t cuts os)]
theorem kcnt_in {cuts:List (List Int)} {os:List ItM} {k:List Int} (h:∀i (hi:i<os.length),1≤os[i].copies∧os[i].copies≤50):∀n:Nat,n≤os.length→0≤kcnt cuts os k n∧kcnt cuts os k n≤50*(n:Int)
 |0,_=>by simp [kcnt]
 |n+1,hn=>by
  have ih:=kcnt_in (cuts:=cuts) (k:=k) h n (by omega)
  have hi:n<os.length:=by omega
  have hx:=h n hi
  rw [kcnt_succ,uq2,uq3 hi]
  unfold addKc
  simp only [Option.getD_some]
  split<;>(push_cast;omega)
theorem ordK_zero (m:MkM) (cuts:List (List Int)) (os:List ItM):ordK m cuts os 0=[]:=by
 unfold ordK;simp [kcnt]
theorem ordC_zero (m:MkM) (cuts:List (List Int)) (os:List ItM):ordC m cuts os 0=[]:=by
 unfold ordC;rw [ordK_zero];rfl
structure OkStep (K:List (List Int)) (C:List Int) (k:List Int) (c:Int) (K':List (List Int)) (C':List Int) (p:Nat):Prop where
 le:p≤K.length
 low:∀h (hh:h<K.length),decide (cmpL K[h] k<0)=decide (h<p)
 fnd:∀h:p<K.length,(cmpL K[p] k==0)=true→K'=K∧C'=C.set p (C.getD p 0+c)
 new:(∀h:p<K.length,(cmpL K[p] k==0)=false)→K'=K.take p++k::K.drop p∧C'=(C.take p++(0:Int)::C.drop p).set p (0+c)
 len:C.length=K.length
theorem mem_copies {os:List ItM} {n:Nat} (hn:n<os.length):os.getD n default=os[n]:=by
 rw [uq2,uq3 hn];rfl
theorem ord_other {m:MkM} {cuts:List (List Int)} {os:List ItM} {n:Nat} (hn:n<os.length) (hk:os[n].key=false):ordK m cuts os (n+1)=ordK m cuts os n∧ordC m cuts os (n+1)=ordC m cuts os n:=by
 have e:∀k,kcnt cuts os k (n+1)=kcnt cuts os k n:=fun k=>by
  rw [kcnt_succ,mem_copies hn,addKc,hk,Bool.false_and,if_neg (by simp)];omega
 have e1:ordK m cuts os (n+1)=ordK m cuts os n:=by unfold ordK;simp only [e]
 exact ⟨e1,by unfold ordC;rw [e1];simp only [e]⟩
theorem ord_step {m:MkM} {cuts:List (List Int)} {os:List ItM} {n:Nat} (hm:0≤m.chambers) (h:∀i (hi:i<os.length),1≤os[i].copies∧os[i].copies≤50) (hn:n<os.length) (hk:os[n].key=true) (hok:KeyOk m (cuts.getD os[n].index.toNat [])):
 ∃p,OkStep (ordK m cuts os n) (ordC m cuts os n) (cuts.getD os[n].index.toNat []) os[n].copies (ordK m cuts os (n+1)) (ordC m cuts os (n+1)) p:=by
 obtain ⟨a,b,hs,ha,hb,hka,hkb⟩:=allK_split hm hok
 have hc:=h n hn
 have hself:=kcnt_succ cuts os (cuts.getD os[n].index.toNat []) n
 rw [mem_copies hn,addKc,hk,Bool.true_and,decide_eq_true rfl,if_pos rfl] at hself
 have hoth:∀x,x≠cuts.getD os[n].index.toNat []→kcnt cuts os x (n+1)=kcnt cuts os x n:=fun x hx=>by
  rw [kcnt_succ,mem_copies hn,addKc,hk,Bool.true_and,decide_eq_false (fun e=>hx e.symm),if_neg (by simp)];omega
 have h0:=fun x=>(kcnt_in (cuts:=cuts) (k:=x) h n (by omega)).1
 generalize os[n].copies=c at*
 generalize cuts.getD os[n].index.toNat []=k at*
 have hfa:a.filter (fun k=>decide (0<kcnt cuts os k (n+1)))=a.filter (fun k=>decide (0<kcnt cuts os k n)):=List.filter_congr fun x hx=>by rw [hoth x (fun e=>hka (e▸hx))]
 have hfb:b.filter (fun k=>decide (0<kcnt cuts os k (n+1)))=b.filter (fun k=>decide (0<kcnt cuts os k n)):=List.filter_congr fun x hx=>by rw [hoth x (fun e=>hkb (e▸hx))]
 have hA:∀x∈a.filter (fun k=>decide (0<kcnt cuts os k n)),cmpL x k<0∧x≠k:=fun x hx=>⟨ha x (List.mem_filter.1 hx).1,fun e=>hka (e▸(List.mem_filter.1 hx).1)⟩
 have hB:∀x∈b.filter (fun k=>decide (0<kcnt cuts os k n)),0<cmpL x k∧x≠k:=fun x hx=>⟨hb x (List.mem_filter.1 hx).1,fun e=>hkb (e▸(List.mem_filter.1 hx).1)⟩
 have hK1:ordK m cuts os (n+1)=a.filter (fun k=>decide (0<kcnt cuts os k n))++k::b.filter (fun k=>decide (0<kcnt cuts os k n)):=by
  unfold ordK
  rw [hs,List.filter_append,List.filter_cons,hfa,hfb,if_pos (decide_eq_true (by have:=h0 k;omega))]
 have hK0:ordK m cuts os n=a.filter (fun k=>decide (0<kcnt cuts os k n))++(if decide (0<kcnt cuts os k n)=true then k::b.filter (fun k=>decide (0<kcnt cuts os k n)) else b.filter (fun k=>decide (0<kcnt cuts os k n))):=by
  unfold ordK
  rw [hs,List.filter_append,List.filter_cons]
 have hmA:∀A:List (List Int),(∀x∈A,x≠k)→A.map (fun k=>kcnt cuts os k (n+1))=A.map (fun k=>kcnt cuts os k n):=fun A h=>List.map_congr_left fun x hx=>hoth x (h x hx)
 generalize a.filter (fun k=>decide (0<kcnt cuts os k n))=A at*
 generalize b.filter (fun k=>decide (0<kcnt cuts os k n))=D at*
 have hA1:=hmA A fun x hx=>(hA x hx).2
 have hD1:=hmA D fun x hx=>(hB x hx).2
 have hlow:∀E:List (List Int),(∀x∈E,0≤cmpL x k)→∀h (hh:h<(A++E).length),decide (cmpL (A++E)[h] k<0)=decide (h<A.length):=by
  intro E hE i hi
  rw [decide_eq_decide,List.getElem_append]
  split
  · rename_i h1
    have:=(hA _ (uq4 h1)).1
    omega
  · rename_i h1
    have:=hE _ (uq4 (l:=E) (n:=i-A.length) (by rw [List.length_append] at hi;omega))
    omega
 refine ⟨A.length,?_⟩
 unfold ordC
 rw [hK1,hK0]
 by_cases hq:0<kcnt cuts os k n
 · rw [if_pos (decide_eq_true hq)]
   have hg:∀h:A.length<(A++k::D).length,(A++k::D)[A.length]=k:=fun h=>by rw [List.getElem_append_right (uq9 _)];simp
   refine ⟨by simp,hlow (k::D) ?_,fun h _=>⟨rfl,?_⟩,fun hh=> ?_,by simp⟩
   · intro x hx
     rcases List.mem_cons.1 hx with rfl|hx
     · rw [cmpL_self];omega
     · have:=(hB x hx).1;omega
   · rw [List.map_append,List.map_cons,hA1,hD1,List.map_append,List.map_cons,hself,getD_mid (by simp),set_at (by simp)]
   · have:=hh (by simp)
     rw [hg _,cmpL_self] at this
     cases this
 · rw [if_neg (by simpa using hq)]
   have hz:kcnt cuts os k n=0:=by have:=h0 k;omega
   refine ⟨by simp,hlow D ?_,fun h hf=> ?_,fun _=>⟨?_,?_⟩,by simp⟩
   · intro x hx
     have:=(hB x hx).1;omega
   · rw [List.getElem_append_right (uq9 _)] at hf
     have hl:A.length-A.length<D.length:=by rw [List.length_append] at h;omega
     have:=(hB _ (uq4 hl)).1
     rw [beq_iff_eq] at hf
     omega
   · rw [List.take_left',List.drop_left']<;>rfl
   · rw [List.map_append,List.map_cons,hA1,hD1,hself,hz,List.map_append,List.take_left' (by simp),List.drop_left' (by simp),set_at (by simp)]
end Go.Vc
namespace Go.Vc
open Go.Proofs
def wS (g:ItM→Int) (os:List ItM):Nat→Int
 |0=>0
 |n+1=>wS g os n+(os.getD n default).copies*g (os.getD n default)
def wA (g:ItM→Int) (os:List ItM):Int:=(os.map fun x=>x.copies*g x).sum
theorem wA_snoc (g:ItM→Int) (os:List ItM) (x:ItM):wA g (os++[x])=wA g os+x.copies*g x:=by simp [wA]
theorem wA_cons (g:ItM→Int) (os:List ItM) (x:ItM):wA g (x::os)=x.copies*g x+wA g os:=by simp [wA]
theorem wS_take (g:ItM→Int) (os:List ItM):∀n,n≤os.length→wS g os n=wA g (os.take n)
 |0,_=>rfl
 |n+1,h=>by
  rw [wS,wS_take g os n (by omega),List.take_succ_eq_append_getElem (by omega),wA_snoc]
  congr 2<;>simp [uq2,uq3 (show n<os.length by omega)]
theorem wS_all (g:ItM→Int) (os:List ItM):wS g os os.length=wA g os:=by rw [wS_take g os _ (uq9 _),List.take_length]
def sm (f:Nat→Int):Nat→Int
 |0=>0
 |n+1=>sm f n+f n
theorem sm_congr {f g:Nat→Int}:∀n,(∀i,i<n→f i=g i)→sm f n=sm g n
 |0,_=>rfl
 |n+1,h=>by rw [sm,sm,sm_congr n fun i hi=>h i (by omega),h n (by omega)]
theorem sm_add (f g:Nat→Int):∀n,sm (fun i=>f i+g i) n=sm f n+sm g n
 |0=>rfl
 |n+1=>by simp only [sm,sm_add f g n];omega
theorem sm_zero:∀n,sm (fun _=>0) n=0
 |0=>rfl
 |n+1=>by rw [sm,sm_zero n];rfl
theorem sm_at (c:Int) (k:Nat):∀n,k<n→sm (fun i=>if k=i then c else 0) n=c
 |0,h=>absurd h (by omega)
 |n+1,h=>by
  rw [sm]
  by_cases e:k=n
  · rw [if_pos e,sm_congr (g:=fun _=>0) n fun i hi=>if_neg (by omega),sm_zero];omega
  · rw [if_neg e,sm_at c k n (by omega)];omega
def byIx (g:ItM→Int):Prop:=∀x y:ItM,x.key=y.key→x.index=y.index→g x=g y
theorem itAt_copies (r i:Nat) (c:Int):(itAt r i c).copies=c:=by unfold itAt;split<;>rfl
theorem itAt_by {g:ItM→Int} (hg:byIx g) (r i:Nat) (c d:Int):g (itAt r i c)=g (itAt r i d):=by
 apply hg<;>(unfold itAt;split<;>rfl)
theorem wA_nrm {g:ItM→Int} (hg:byIx g) (r:Nat) (os:List ItM) (hc:∀x,x∈os→okCp x):∀n,wA g (nrm r os n)=sm (fun i=>cpy r i os*g (itAt r i 0)) n
 |0=>rfl
 |n+1=>by
  rw [nrm,sm,←wA_nrm hg r os hc n]
  split
  · rw [wA_snoc,itAt_copies,itAt_by hg r n _ 0]
  · have:=(cpy_in r n os hc).1
    rw [show cpy r n os=0 by omega];omega
theorem wA_sm {g:ItM→Int} (hg:byIx g) (r N:Nat):∀os:List ItM,(∀x,x∈os→okIx r x∧rkIt r x<N)→wA g os=sm (fun i=>cpy r i os*g (itAt r i 0)) N
 | [],_=>by
   rw [sm_congr (g:=fun _=>0) N fun i _=>by rw [cpy_nil,Int.zero_mul],sm_zero];rfl
 |x::os,h=>by
  obtain ⟨h1,h2⟩:=h x (List.mem_cons_self ..)
  have h0:=rk_in h1 (show (0:Int)≤(r:Int) by omega)
  obtain ⟨k,hk⟩:∃k:Nat,rkIt r x=(k:Int):=⟨(rkIt r x).toNat,by omega⟩
  have ex:=itAt_of h1 hk
  rw [wA_cons,wA_sm hg r N os fun y hy=>h y (List.mem_cons_of_mem _ hy)]
  have e:∀i,i<N→cpy r i (x::os)*g (itAt r i 0)=(if k=i then x.copies*g x else 0)+cpy r i os*g (itAt r i 0):=by
   intro i hi
   rw [cpy_cons,Int.add_mul]
   congr 1
   unfold cpyF
   by_cases e:k=i
   · subst e
     rw [if_pos hk,if_pos rfl]
     congr 1
     rw [itAt_by hg r k 0 x.copies,←ex]
   · rw [if_neg (by omega),if_neg e,Int.zero_mul]
  rw [sm_congr N e,sm_add,sm_at _ k N (by omega)]
theorem wS_nrm {g:ItM→Int} (hg:byIx g) {m:MkM} {t:List (List Int)} {os:List ItM} (h:ordCode m t os=0):
 wS g (nrm t.length os (wide t)) (nrm t.length os (wide t)).length=wS g os os.length:=by
 obtain ⟨h1,h2,h3⟩:=ord_facts h
 rw [wS_all,wS_all,wA_nrm hg _ _ fun x hx=>(h3 x hx).2.1,wA_sm hg t.length (wide t) os fun x hx=>⟨(h3 x hx).1,(h3 x hx).2.2⟩]
theorem nrk_succ (r:Int) (n:Nat):∀os:List ItM,(os.filter fun x=>decide (rkIt r x<((n+1:Nat):Int))).length=(os.filter fun x=>decide (rkIt r x<(n:Int))).length+(os.filter fun x=>decide (rkIt r x=(n:Int))).length
 | []=>rfl
 |x::os=>by
  have ih:=nrk_succ r n os
  rw [List.filter_cons,List.filter_cons,List.filter_cons]
  by_cases h1:rkIt r x<(n:Int)
  · rw [if_pos (decide_eq_true (by omega)),if_pos (decide_eq_true h1),if_neg (by simp;omega)]
    simp only [List.length_cons];omega
  · by_cases h2:rkIt r x=(n:Int)
    · rw [if_pos (decide_eq_true (by omega)),if_neg (by simpa using h1),if_pos (decide_eq_true h2)]
      simp only [List.length_cons];omega
    · rw [if_neg (by simp;omega),if_neg (by simpa using h1),if_neg (by simpa using h2)]
      exact ih
theorem nrm_few (r:Nat) (os:List ItM):∀n,(nrm r os n).length≤(os.filter fun x=>decide (rkIt r x<(n:Int))).length
 |0=>by simp [nrm]
 |n+1=>by
  have ih:=nrm_few r os n
  rw [nrk_succ,nrm]
  split
  · rename_i hp
    have:0<(os.filter fun x=>decide (rkIt r x=(n:Int))).length:=by
     rcases Nat.eq_zero_or_pos (os.filter fun x=>decide (rkIt r x=(n:Int))).length with h0|h0
     · exfalso
       have he:=List.eq_nil_of_length_eq_zero h0
       rw [List.filter_eq_nil_iff] at he
       have:cpy r n os=0:=cpy_no fun x hx=>by simpa using he x hx
       omega
     · exact h0
    rw [List.length_append,List.length_singleton];omega
  · omega
theorem nrm_ord {m:MkM} {t:List (List Int)} {os:List ItM} (h:ordCode m t os=0) (hf:few t.length os (wide t)=true):isOrd t (nrm t.length os (wide t))=true:=by
 have hl:(nrm t.length os (wide t)).length≤20:=by
  have h1:=nrm_few t.length os (wide t)
  have h2:=List.length_filter_le (fun x=>decide (rkIt t.length x<((wide t:Nat):Int))) os
  have:=(ord_facts h).2.1
  omega
 rw [isOrd_nrm h hl,hf]
def gSt (m:MkM) (t cuts:List (List Int)) (p:St3→List Int) (j:Nat) (x:ItM):Int:=if x.key=true then 0 else (p (stockL m (lockAt m t cuts x.index.toNat))).getD j 0
theorem gSt_by (m:MkM) (t cuts:List (List Int)) (p:St3→List Int) (j:Nat):byIx (gSt m t cuts p j):=fun x y h1 h2=>by unfold gSt;rw [h1,h2]
theorem osTo_lens (m:MkM) (t cuts:List (List Int)) (os:List ItM):∀n,(osTo m t cuts os n).b.length=m.depths.toNat∧(osTo m t cuts os n).w.length=m.depths.toNat∧(osTo m t cuts os n).d.length=m.depths.toNat
 |0=>by rw [osTo_zero];unfold zero3;simp
 |n+1=>by
  have ih:=osTo_lens m t cuts os n
  rw [osTo_succ,osStep]
  split
  · exact ih
  · simp only [add3,addM_len];exact ih
theorem osTo_sum (m:MkM) (t cuts:List (List Int)) (os:List ItM) {j:Nat} (hj:j<m.depths.toNat):∀n,
 (osTo m t cuts os n).b.getD j 0=wS (gSt m t cuts St3.b j) os n∧(osTo m t cuts os n).w.getD j 0=wS (gSt m t cuts St3.w j) os n∧(osTo m t cuts os n).d.getD j 0=wS (gSt m t cuts St3.d j) os n
 |0=>by
  rw [osTo_zero];unfold zero3 wS
  simp [uq2,List.getElem?_replicate,hj]
 |n+1=>by
  obtain ⟨i1,i2,i3⟩:=osTo_sum m t cuts os hj n
  obtain ⟨l1,l2,l3⟩:=osTo_lens m t cuts os n
  rw [osTo_succ,osStep]
  simp only [wS]
  rw [←i1,←i2,←i3]
  generalize os.getD n default=x at*
  unfold gSt
  by_cases hk:x.key=true
  · rw [if_pos hk,if_pos hk,if_pos hk,if_pos hk]
    simp
  · rw [if_neg hk,if_neg hk,if_neg hk,if_neg hk]
    simp only [add3]
    rw [addM_get,addM_get,addM_get,if_pos ⟨hj,by omega⟩,if_pos ⟨hj,by omega⟩,if_pos ⟨hj,by omega⟩]
    exact ⟨rfl,rfl,rfl⟩
theorem list_byD {xs ys:List Int} {n:Nat} (h1:xs.length=n) (h2:ys.length=n) (h:∀j,j<n→xs.getD j 0=ys.getD j 0):xs=ys:=by
 apply List.ext_getElem (by omega)
 intro i q1 q2
 have:=h i (by omega)
 simpa [uq2,uq3 q1,uq3 q2] using this
theorem stockCode_ord {m:MkM} {t cuts:List (List Int)} {os:List ItM} (h:stockCode m t cuts os=0):isDes m t cuts=true∧isOrd t os=true∧ordCode m t os=0:=by
 unfold stockCode at h
 split at h
 · rename_i h1
   split at h
   · rename_i h2
     refine ⟨h1,h2,?_⟩
     rw [ordCode,if_pos (isDes_out h1).1,if_pos h2]
   · cases h
 · cases h
theorem stockR_nrm {m:MkM} {t cuts:List (List Int)} {os:List ItM} (h:stockCode m t cuts os=0) (hf:few t.length os (wide t)=true):
 stockR m t cuts (nrm t.length os (wide t))=stockR m t cuts os:=by
 obtain ⟨h1,h2,h3⟩:=stockCode_ord h
 have h4:stockCode m t cuts (nrm t.length os (wide t))=0:=by rw [stockCode,if_pos h1,if_pos (nrm_ord h3 hf)]
 rw [stockR,stockR,if_pos h,if_pos h4]
 obtain ⟨a1,a2,a3⟩:=osTo_lens m t cuts os os.length
 obtain ⟨b1,b2,b3⟩:=osTo_lens m t cuts (nrm t.length os (wide t)) (nrm t.length os (wide t)).length
 rw [list_byD b1 a1 fun j hj=>by rw [(osTo_sum m t cuts _ hj _).1,(osTo_sum m t cuts _ hj _).1,wS_nrm (gSt_by _ _ _ _ _) h3],
  list_byD b2 a2 fun j hj=>by rw [(osTo_sum m t cuts _ hj _).2.1,(osTo_sum m t cuts _ hj _).2.1,wS_nrm (gSt_by _ _ _ _ _) h3],
  list_byD b3 a3 fun j hj=>by rw [(osTo_sum m t cuts _ hj _).2.2,(osTo_sum m t cuts _ hj _).2.2,wS_nrm (gSt_by _ _ _ _ _) h3]]
def gKc (cuts:List (List Int)) (k:List Int) (x:ItM):Int:=if (x.key&&decide (cuts.getD x.index.toNat []=k))=true then 1 else 0
theorem gKc_by (cuts:List (List Int)) (k:List Int):byIx (gKc cuts k):=fun x y h1 h2=>by unfold gKc;rw [h1,h2]
theorem kcnt_wS (cuts:List (List Int)) (os:List ItM) (k:List Int):∀n,kcnt cuts os k n=wS (gKc cuts k) os n
 |0=>rfl
 |n+1=>by
  rw [kcnt_succ,kcnt_wS cuts os k n,wS]
  congr 1
  unfold addKc gKc
  split
  · rw [Int.mul_one]
  · rw [Int.mul_zero]
theorem keysR_nrm {m:MkM} {t cuts:List (List Int)} {os:List ItM} (h:stockCode m t cuts os=0) (hf:few t.length os (wide t)=true):
 keysR m t cuts (nrm t.length os (wide t))=keysR m t cuts os:=by
 obtain ⟨h1,h2,h3⟩:=stockCode_ord h
 have h4:stockCode m t cuts (nrm t.length os (wide t))=0:=by rw [stockCode,if_pos h1,if_pos (nrm_ord h3 hf)]
 rw [keysR,keysR,if_pos h,if_pos h4]
 have e:∀k,kcnt cuts (nrm t.length os (wide t)) k (nrm t.length os (wide t)).length=kcnt cuts os k os.length:=fun k=>by
  rw [kcnt_wS,kcnt_wS,wS_nrm (gKc_by _ _) h3]
 have eK:ordK m cuts (nrm t.length os (wide t)) (nrm t.length os (wide t)).length=ordK m cuts os os.length:=by
  unfold ordK;simp only [e]
 rw [ordC,ordC,eK]
 simp only [e]
theorem normalO_zero {m:MkM} {t:List (List Int)} {os:List ItM} (h:(normalO m t os).2=0):few t.length os (wide t)=true∧(normalO m t os).1=nrm t.length os (wide t):=by
 unfold normalO at*
 split at h
 · rename_i h0
   rw [if_pos h0]
   split at h
   · rename_i hf
     rw [if_pos hf]
     exact ⟨hf,rfl⟩
   · cases h
 · rename_i h0;exact absurd h h0
theorem stock_normal {m:MkM} {t cuts:List (List Int)} {os:List ItM} (h:stockCode m t cuts os=0) (hn:(normalO m t os).2=0):
 stockR m t cuts (normalO m t os).1=stockR m t cuts os∧keysR m t cuts (normalO m t os).1=keysR m t cuts os:=by
 obtain ⟨hf,e⟩:=normalO_zero hn
 rw [e]
 exact ⟨stockR_nrm h hf,keysR_nrm h hf⟩
end Go.Vc
namespace Go.Vc
open Go.Proofs
def oKs (m:MkM) (cuts:List (List Int)) (os:List ItM) (i:Nat):List (List Int):=((allK m).take i).filter fun k=>decide (0<kcnt cuts os k os.length)
def oCs (m:MkM) (cuts:List (List Int)) (os:List ItM) (i:Nat):List Int:=(oKs m cuts os i).map fun k=>kcnt cuts os k os.length
theorem oKs_succ {m:MkM} {cuts:List (List Int)} {os:List ItM} {i:Nat} {k:List Int} (h:(allK m)[i]? =some k):
 (0<kcnt cuts os k os.length→oKs m cuts os (i+1)=oKs m cuts os i++[k]∧oCs m cuts os (i+1)=oCs m cuts os i++[kcnt cuts os k os.length])∧(¬0<kcnt cuts os k os.length→oKs m cuts os (i+1)=oKs m cuts os i∧oCs m cuts os (i+1)=oCs m cuts os i):=by
 have e:oKs m cuts os (i+1)=oKs m cuts os i++if 0<kcnt cuts os k os.length then [k] else []:=by
  unfold oKs
  rw [List.take_add_one,h,List.filter_append]
  congr 1
  simp only [Option.toList_some,List.filter_cons,List.filter_nil,decide_eq_true_eq]
 refine ⟨fun hp=> ?_,fun hp=> ?_⟩
 · rw [if_pos hp] at e
   exact ⟨e,by unfold oCs;rw [e];simp⟩
 · rw [if_neg hp,List.append_nil] at e
   exact ⟨e,by unfold oCs;rw [e]⟩
theorem oKs_end (m:MkM) (cuts:List (List Int)) (os:List ItM):oKs m cuts os (allK m).length=ordK m cuts os os.length∧oCs m cuts os (allK m).length=ordC m cuts os os.length:=by
 have e:oKs m cuts os (allK m).length=ordK m cuts os os.length:=by unfold oKs ordK;rw [List.take_length]
 exact ⟨e,by unfold oCs ordC;rw [e]⟩
theorem allK_len {m:MkM} (hm:isMk m=true):(allK m).length≤16777216:=by
 have h1:=keysFrom_len m hm m.chambers.toNat []
 have ⟨⟨n1,n2⟩,n3,n4⟩:=isMk_num hm
 refine Nat.le_trans h1 (Nat.le_trans (Nat.pow_le_pow_right (by omega) (show m.chambers.toNat≤8 by omega)) (by decide))
theorem oKs_len {m:MkM} (hm:isMk m=true) (cuts:List (List Int)) (os:List ItM) (i:Nat):(oKs m cuts os i).length≤16777216:=by
 unfold oKs
 refine Nat.le_trans (List.length_filter_le ..) ?_
 have:=allK_len hm
 rw [List.length_take];omega
theorem Fn.nilS {P:Program} {f:FuncId} {args:List AV} {post:AV→Prop} (h:Fn P f args false (fun x=>∃r,nlT x r∧post r)):Fn P f args false post:=
 ⟨h.1,fun w S vs h1 hk h2 h3=>(h.2 w S vs h1 hk h2 h3).mono fun _ _ ⟨x,v,g1,⟨r,g2,g3⟩,g4,g5⟩=>⟨r,v,g1,g3,g4,by
   simp only [FnRes,Bool.false_eq_true,if_false] at g5 ⊢
   exact (nlT_out (Own.rd _ _ g5) g2).rd_of (fun _ h=>h) fun b hb=>by cases hb⟩⟩
theorem c_sOrderKeys (m:MkM) (t cuts:List (List Int)) (os:List ItM) (h:t.length≤1048576) (h2:∀x∈t,x.length≤1048576) (h3:cuts.length≤1048576) (h4:∀x∈cuts,x.length≤1048576) (h5:os.length≤1048576):Fn Tryz.prog 8 [eSy m t,eIss cuts,eIts os] false (· =keysR m t cuts os):=by
 refine Fn.nilS (Fn.mono (post:=fun x=>nlT x (keysR m t cuts os)) (Fn.of_vcS 81 [.tmp 6,.tmp 7,.tmp 8] Tryz.func8 rfl rfl rfl rfl rfl (of_decide_eq_true rfl) ?_) fun x hx=>⟨_,hx,rfl⟩)
 have hq:=c_l29Code m t cuts os h h2 h3 h4 h5
 unfold keysR
 rcases hb:(isDes m t cuts&&isOrd t os) with _|_
 · have hne:stockCode m t cuts os≠0:=by
    unfold stockCode
    cases h6:isDes m t cuts<;>cases h7:isOrd t os<;>simp_all
   rw [if_neg hne]
   have hne':(stockCode m t cuts os != 0)=true:=by simp [hne]
   generalize stockCode m t cuts os=c at*
   simp -dsimp -implicitDefEqProofs only [go_sem]
   refine sCallT_one hq ?_
   simp -dsimp -implicitDefEqProofs only [go_sem,hne']
   ((repeat' (with_reducible refine ai ?_ ?_));all_goals try (first|omega|(refine ⟨?_,?_⟩<;>omega)|(exact rfl)))
   all_goals trace_state
 obtain ⟨hd,ho⟩:=Bool.and_eq_true_iff.1 hb
 have h0:stockCode m t cuts os=0:=by rw [stockCode,if_pos hd,if_pos ho]
 rw [if_pos h0]
 rw [h0] at hq
 obtain ⟨hs,hc⟩:=isDes_out hd
 have hmk:=isSy_mk hs
 have ⟨⟨n1,n2⟩,n3,n4⟩:=isMk_num hmk
 obtain ⟨k1,k2,k3,k4,k5⟩:=isSy_num hs
 obtain ⟨c1,c2⟩:=isCutsOf_out hc
 obtain ⟨o1,o2⟩:=isOrd_out ho
 have hcop:∀i (hi:i<os.length),1≤os[i].copies∧os[i].copies≤50:=fun i hi=>⟨(o2 i hi).2.2.1,(o2 i hi).2.2.2⟩
 obtain ⟨k0,hk0⟩:=firstK_some hmk
 have hf:=(c_l02First m hmk m.chambers.toNat [] (by simp;omega) (fun x hx=>by cases hx)).subs (args':=[eMk m,eNil]) (.cons (.refl _) (.cons (.nil _) .nil))
 unfold firstR at hf
 rw [hk0] at hf
 have hk1:(allK m)[0]? =some k0:=by rw [←List.head?_eq_getElem?,←firstK_all,hk0]
 have hf:Fn Tryz.prog 37 [eMk m,eNil] false (· = .tup [eIs k0,eB true]):=hf
 have hK:=fun k (hk:k∈allK m)=>allK_ok (m:=m) (by omega) hk
 simp -dsimp -implicitDefEqProofs only [go_sem]
 refine sCallT_one hq ?_
 simp -dsimp -implicitDefEqProofs only [go_sem]
 ((repeat' (with_reducible refine ai ?_ ?_));all_goals try (first|omega|(refine ⟨?_,?_⟩<;>omega)|(exact rfl)))
 refine sCallS_one hf (by simp [noLabs,labs,labsL,isClo]) ?_
 simp -dsimp -implicitDefEqProofs only [go_sem]
 ((repeat' (with_reducible refine ai ?_ ?_));all_goals try (first|omega|(refine ⟨?_,?_⟩<;>omega)|(exact rfl)))
 refine Later.up [1,2,3] [34,53,66,67,70,71,76] [23,24] (allK m).length (fun i=>True) (fun i=>[(13,eB ((allK m)[i]?).isSome),(12,keyV ((allK m)[i]?)),(11,.ref 24 0 0 (oCs m cuts os i).length),(10,.ref 23 0 0 (oKs m cuts os i).length)]) (fun i=>[(24,.row 0 ⟨1,false⟩ true ((oCs m cuts os i).map eI)),(23,.row 0 ⟨1,false⟩ (oKs m cuts os i).isEmpty ((oKs m cuts os i).map eIs))]) trivial ?_ rfl (fun i hi _=> ?_) (fun _=> ?_)
 · rw [hk1]
   simp -dsimp -implicitDefEqProofs only [go_sem,oCs,oKs,uq8,List.filter_nil,keyV_some,uq11,List.isEmpty_nil,List.map_nil,List.length_nil]
   ((repeat' (with_reducible refine ai ?_ ?_));all_goals try (first|omega|(refine ⟨?_,?_⟩<;>omega)|(exact rfl)))
   all_goals trace_state
 · have gi:=get_some hi
   have hki:=hK _ (uq4 hi)
   generalize (allK m)[i]=k at*
   obtain ⟨hs1,hs2⟩:=oKs_succ (m:=m) (cuts:=cuts) (os:=os) gi
   have hbig:=oKs_len hmk cuts os i
   have hCl:(oCs m cuts os i).length=(oKs m cuts os i).length:=by unfold oCs;rw [uq5]
   have hnx:=c_l02Next m k hmk hki.len hki.el
   rw [next_all (by omega) gi] at hnx
   have hE:∀C:List (List Int),C.isEmpty=false∨C.length=0:=fun C=>by cases C with|nil=>exact .inr rfl|cons=>exact .inl rfl
   have e2:=fun K:List (List Int)=>show (K++[k]).map eIs=K.map eIs++[eIs k] by simp
   have e3:=fun K:List (List Int)=>show (K++[k]).isEmpty=false by simp
   have hcn:=fun n hn=>kcnt_in (cuts:=cuts) (k:=k) hcop n hn
   generalize oKs m cuts os i=K at*
   generalize oCs m cuts os i=C at*
   generalize oKs m cuts os (i+1)=K2 at*
   generalize oCs m cuts os (i+1)=C2 at*
   rw [gi]
   generalize (allK m)[i+1]? =o at*
   rw [optR_eq] at hnx
   clear hK
   have tK:(K.map eIs).take K.length=K.map eIs:=uq7 (by simp)
   simp -dsimp -implicitDefEqProofs only [pz,Nat.reduceBEq,Nat.reduceDiv,Nat.reduceAdd,↓reduceIte,Nat.reduceEqDiff]
   simp -dsimp -implicitDefEqProofs only [go_sem,keyV_some,uq11]
   ((repeat' (with_reducible refine ai ?_ ?_));all_goals try (first|omega|(refine ⟨?_,?_⟩<;>omega)|(exact rfl)))
   refine Later.up [1,2,3,10,11,12] [34,53] [] os.length (fun _=>True) (fun j=>[(15,eI j),(14,eI (kcnt cuts os k j))]) (fun _=>[]) trivial ?_ rfl (fun j hj _=> ?_) (fun _=> ?_)
   · simp -dsimp -implicitDefEqProofs only [go_sem,kcnt]
     ((repeat' (with_reducible refine ai ?_ ?_));all_goals try (first|omega|(refine ⟨?_,?_⟩<;>omega)|(exact rfl)))
   · have gj:=get_some hj
     have lj:=lt_len hj
     have oj:=o2 j hj
     have hcj:=hcn j (by omega)
     rw [kcnt_succ,mem_copies hj]
     generalize os[j]=x at*
     generalize kcnt cuts os k j=s at*
     obtain ⟨xk,xi,xc⟩:=x
     simp only at oj
     unfold addKc
     cases xk with
     |false=>
      simp -dsimp -implicitDefEqProofs only [pz,Nat.reduceBEq,Nat.reduceDiv,Nat.reduceAdd,↓reduceIte,Nat.reduceEqDiff]
      simp -dsimp -implicitDefEqProofs only [go_sem,gj,lj,Bool.false_and,Int.add_zero]
      ((repeat' (with_reducible refine ai ?_ ?_));all_goals try (first|omega|(refine ⟨?_,?_⟩<;>omega)|(exact rfl)))
      all_goals first|(simp;done)|skip
     |true=>
      simp only [if_true] at oj
      have hci:xi.toNat<cuts.length:=by omega
      have gc:=get_some hci
      have hx1:=(key1_out (c2 _ (uq4 hci))).1
      have hsame:=c_l01Same cuts[xi.toNat] k (by omega)
      have eg:cuts.getD xi.toNat []=cuts[xi.toNat]:=by rw [uq2,gc];rfl
      rw [eg]
      generalize cuts[xi.toNat]=z at*
      cases hzk:decide (z=k) with
      |false=>
       rw [hzk] at hsame
       simp -dsimp -implicitDefEqProofs only [pz,Nat.reduceBEq,Nat.reduceDiv,Nat.reduceAdd,↓reduceIte,Nat.reduceEqDiff]
       simp -dsimp -implicitDefEqProofs only [go_sem,gj,lj,gc]
       ((repeat' (with_reducible refine ai ?_ ?_));all_goals try (first|omega|(refine ⟨?_,?_⟩<;>omega)|(exact rfl)))
       refine sCallT_one hsame ?_
       simp -dsimp -implicitDefEqProofs only [go_sem,gj,gc,Bool.and_false,Int.add_zero]
       ((repeat' (with_reducible refine ai ?_ ?_));all_goals try (first|omega|(refine ⟨?_,?_⟩<;>omega)|(exact rfl)))
       all_goals first|(simp;done)|skip
      |true=>
       rw [hzk] at hsame
       simp -dsimp -implicitDefEqProofs only [pz,Nat.reduceBEq,Nat.reduceDiv,Nat.reduceAdd,↓reduceIte,Nat.reduceEqDiff]
       simp -dsimp -implicitDefEqProofs only [go_sem,gj,lj,gc]
       ((repeat' (with_reducible refine ai ?_ ?_));all_goals try (first|omega|(refine ⟨?_,?_⟩<;>omega)|(exact rfl)))
       refine sCallT_one hsame ?_
       simp -dsimp -implicitDefEqProofs only [go_sem,gj,gc,Bool.and_true]
       ((repeat' (with_reducible refine ai ?_ ?_));all_goals try (first|omega|(refine ⟨?_,?_⟩<;>omega)|(exact rfl)))
       all_goals first|(simp;done)|skip
   · have hcl:=hcn os.length (uq9 _)
     generalize kcnt cuts os k os.length=s at*
     cases hp:decide (s>0) with
     |true=>
      have hp':=of_decide_eq_true hp
      obtain ⟨rfl,rfl⟩:=hs1 hp'
      simp -dsimp -implicitDefEqProofs only [pz,Nat.reduceBEq,Nat.reduceDiv,Nat.reduceAdd,↓reduceIte,Nat.reduceEqDiff]
      simp -dsimp -implicitDefEqProofs only [go_sem,nlt_len,hp]
      ((repeat' (with_reducible refine ai ?_ ?_));all_goals try (first|omega|(refine ⟨?_,?_⟩<;>omega)|(exact rfl)))
      refine .inr ⟨by omega,hE K,by omega,?_⟩
      have e4:=show (C++[s]).map eI=C.map eI++[eI s] by simp
      rw [←e2,←e4]
      refine sCallS_one hnx (by simp [noLabs,labs,labsL,isClo]) ?_
      cases o with
      |some k2=>
       simp -dsimp -implicitDefEqProofs only [go_sem,keyV_some,uq11,e3,e2]
       ((repeat' (with_reducible refine ai ?_ ?_));all_goals try (first|omega|(refine ⟨?_,?_⟩<;>omega)|(exact rfl)))
       all_goals first|(simp;done)|(simp;omega)|skip
      |none=>
       simp -dsimp -implicitDefEqProofs only [go_sem,keyV_none,uq10,e3,e2]
       ((repeat' (with_reducible refine ai ?_ ?_));all_goals try (first|omega|(refine ⟨?_,?_⟩<;>omega)|(exact rfl)))
       all_goals first|(simp;done)|(simp;omega)|skip
     |false=>
      have hp':=of_decide_eq_false hp
      obtain ⟨rfl,rfl⟩:=hs2 hp'
      simp -dsimp -implicitDefEqProofs only [pz,Nat.reduceBEq,Nat.reduceDiv,Nat.reduceAdd,↓reduceIte,Nat.reduceEqDiff]
      simp -dsimp -implicitDefEqProofs only [go_sem,nlt_len,hp]
      ((repeat' (with_reducible refine ai ?_ ?_));all_goals try (first|omega|(refine ⟨?_,?_⟩<;>omega)|(exact rfl)))
      refine sCallS_one hnx (by simp [noLabs,labs,labsL,isClo]) ?_
      cases o with
      |some k2=>
       simp -dsimp -implicitDefEqProofs only [go_sem,keyV_some,uq11]
       ((repeat' (with_reducible refine ai ?_ ?_));all_goals try (first|omega|(refine ⟨?_,?_⟩<;>omega)|(exact rfl)))
       all_goals first|(simp;done)|(simp;omega)|skip
      |none=>
       simp -dsimp -implicitDefEqProofs only [go_sem,keyV_none,uq10]
       ((repeat' (with_reducible refine ai ?_ ?_));all_goals try (first|omega|(refine ⟨?_,?_⟩<;>omega)|(exact rfl)))
       all_goals first|(simp;done)|(simp;omega)|skip
 · obtain ⟨e4,e5⟩:=oKs_end m cuts os
   have hCl:(oCs m cuts os (allK m).length).length=(oKs m cuts os (allK m).length).length:=by unfold oCs;rw [uq5]
   rw [e4,e5] at*
   have hn:(allK m)[(allK m).length]? =none:=by simp
   rw [hn]
   generalize ordK m cuts os os.length=K at*
   generalize ordC m cuts os os.length=C at*
   simp -dsimp -implicitDefEqProofs only [pz,Nat.reduceBEq,Nat.reduceDiv,Nat.reduceAdd,↓reduceIte,Nat.reduceEqDiff]
   simp -dsimp -implicitDefEqProofs only [go_sem,keyV_none,uq10]
   ((repeat' (with_reducible refine ai ?_ ?_));all_goals try (first|omega|(refine ⟨?_,?_⟩<;>omega)|(exact rfl)))
   all_goals first|(simp;done)|(simp;omega)|skip
end Go.Vc
namespace Go.Vc
open Go.Proofs
theorem map_ins {α β:Type} (f:α→β) (xs:List α) (x:α) (p:Nat):(xs.map f).take p++f x::(xs.map f).drop p=(xs.take p++x::xs.drop p).map f:=by simp
theorem ordK_len {m:MkM} (hm:isMk m=true) (cuts:List (List Int)) (os:List ItM) (n:Nat):(ordK m cuts os n).length≤16777216:=by
 unfold ordK
 refine Nat.le_trans (List.length_filter_le ..) (allK_len hm)
theorem ordK_mem {m:MkM} (hm:0≤m.chambers) {cuts:List (List Int)} {os:List ItM} {n:Nat} {k:List Int} (h:k∈ordK m cuts os n):(k.length:Int)=m.chambers:=(allK_ok hm (List.mem_filter.1 h).1).len
theorem half_in {i j:Nat} (h:i<j):i≤(i+j) / 2∧(i+j) / 2<j:=by omega
theorem half_u64 {i j:Nat} (h:i+j≤1000000000):(IntKind.u64.wrap ((i:Int)+(j:Int))).fdiv (2^min 1 64)=(((i+j) / 2:Nat):Int):=by
 rw [IntKind.wrap_u64]
 have e:((i:Int)+(j:Int))%18446744073709551616=((i+j:Nat):Int):=by omega
 rw [e]
 show ((i+j:Nat):Int).fdiv 2=_
 rw [Int.fdiv_eq_ediv_of_nonneg _ (by omega)]
 omega
def bsfB (K:List (List Int)) (k:List Int) (p:Nat):Bool:=match K[p]? with|some z=>cmpL z k==0|none=>false
theorem bsfB_some {K:List (List Int)} {k z:List Int} {p:Nat} (h:K[p]? =some z):bsfB K k p=(cmpL z k==0):=by unfold bsfB;rw [h]
theorem bsfB_none {K:List (List Int)} {k:List Int} {p:Nat} (h:K.length≤p):bsfB K k p=false:=by unfold bsfB;rw [List.getElem?_eq_none h]
theorem c_bsf (K:List (List Int)) (k:List Int) (p:Nat) (hKl:K.length≤16777216) (hKm:∀x∈K,x.length≤1000000) (hk:k.length≤1000000) (hple:p≤K.length) (hlow:∀h (hh:h<K.length),decide (cmpL K[h] k<0)=decide (h<p)):
 Fn Tryz.prog 44 [eIss K,eIs k,.clo 45 []] true (· = .tup [eI p,eB (bsfB K k p)]):=by
 refine Fn.of_vcN 49 [.tmp 6,.tmp 7] Tryz.func44 rfl rfl rfl rfl rfl (of_decide_eq_true rfl) ?_
 have hcmp:=fun (j:Nat) (hj:j<K.length)=>c_compareKeys K[j] k (hKm _ (uq4 hj)) hk
 simp -dsimp -implicitDefEqProofs only [go_sem]
 refine Later.lp [0,1,2,8] [30] [] (fun x:Nat × Nat=>x.1≤p∧p≤x.2∧x.2≤K.length) (fun x=>[(10,eI x.2),(9,eI x.1)]) (fun x=>[]) (fun x=>x.2-x.1) (0,K.length) ⟨Nat.zero_le _,hple,uq9 _⟩ ?_ rfl (fun x hI=> ?_)
 · simp -dsimp -implicitDefEqProofs only [go_sem]
   all_goals first|exact rfl|skip
 · obtain ⟨lo,up⟩:=x
   obtain ⟨b1,b2,b3⟩:=hI
   dsimp only at b1 b2 b3 ⊢
   by_cases hlt:lo<up
   · have hd:decide ((lo:Int)<(up:Int))=true:=decide_eq_true (by omega)
     obtain ⟨g1,g2⟩:=half_in hlt
     have hw:=half_u64 (i:=lo) (j:=up) (by omega)
     generalize (lo+up) / 2=q at*
     have hqK:q<K.length:=by omega
     have gq:=get_some hqK
     have hcq:=hcmp q hqK
     have hlq:=hlow q hqK
     generalize K[q]=z at*
     generalize cmpL z k=cz at*
     simp -dsimp -implicitDefEqProofs only [pz,Nat.reduceBEq,Nat.reduceDiv,Nat.reduceAdd,↓reduceIte,Nat.reduceEqDiff]
     simp -dsimp -implicitDefEqProofs only [go_sem,hd,hw,gq]
     ((repeat' (with_reducible refine ai ?_ ?_));all_goals try (first|omega|(refine ⟨?_,?_⟩<;>omega)|(exact rfl)))
     refine sCallT_one hcq ?_
     by_cases hz:q<p
     · rw [decide_eq_true hz] at hlq
       simp -dsimp -implicitDefEqProofs only [go_sem,hlq]
       ((repeat' (with_reducible refine ai ?_ ?_));all_goals try (first|omega|(refine ⟨?_,?_⟩<;>omega)|(exact rfl)))
       all_goals first|(refine ⟨(q+1,up),⟨by dsimp only;omega,by dsimp only;omega,by dsimp only;omega⟩,by dsimp only;omega,?_⟩;dsimp only;simp -dsimp -implicitDefEqProofs only [go_sem];((repeat' (with_reducible refine ai ?_ ?_));all_goals try (first|omega|(refine ⟨?_,?_⟩<;>omega)|(exact rfl)));done)|skip
     · rw [decide_eq_false hz] at hlq
       simp -dsimp -implicitDefEqProofs only [go_sem,hlq]
       ((repeat' (with_reducible refine ai ?_ ?_));all_goals try (first|omega|(refine ⟨?_,?_⟩<;>omega)|(exact rfl)))
       all_goals first|(refine ⟨(lo,q),⟨by dsimp only;omega,by dsimp only;omega,by dsimp only;omega⟩,by dsimp only;omega,?_⟩;dsimp only;simp -dsimp -implicitDefEqProofs only [go_sem];((repeat' (with_reducible refine ai ?_ ?_));all_goals try (first|omega|(refine ⟨?_,?_⟩<;>omega)|(exact rfl)));done)|skip
   · have hd:decide ((lo:Int)<(up:Int))=false:=decide_eq_false (by omega)
     have e1:lo=p:=by omega
     subst e1
     by_cases hl:lo<K.length
     · have hcq:=hcmp lo hl
       have gq:=get_some hl
       have hd2:decide ((lo:Int)<(K.length:Int))=true:=decide_eq_true (by omega)
       rw [bsfB_some gq]
       generalize K[lo]=z at*
       generalize cmpL z k=cz at*
       simp -dsimp -implicitDefEqProofs only [pz,Nat.reduceBEq,Nat.reduceDiv,Nat.reduceAdd,↓reduceIte,Nat.reduceEqDiff]
       simp -dsimp -implicitDefEqProofs only [go_sem,hd,hd2,gq]
       ((repeat' (with_reducible refine ai ?_ ?_));all_goals try (first|omega|(refine ⟨?_,?_⟩<;>omega)|(exact rfl)))
       refine sCallT_one hcq ?_
       simp -dsimp -implicitDefEqProofs only [go_sem]
       ((repeat' (with_reducible refine ai ?_ ?_));all_goals try (first|omega|(refine ⟨?_,?_⟩<;>omega)|(exact rfl)))
       all_goals first|(simp;done)|skip
     · have hd2:decide ((lo:Int)<(K.length:Int))=false:=decide_eq_false (by omega)
       rw [bsfB_none (by omega)]
       simp -dsimp -implicitDefEqProofs only [pz,Nat.reduceBEq,Nat.reduceDiv,Nat.reduceAdd,↓reduceIte,Nat.reduceEqDiff]
       simp -dsimp -implicitDefEqProofs only [go_sem,hd,hd2]
       ((repeat' (with_reducible refine ai ?_ ?_));all_goals try (first|omega|(refine ⟨?_,?_⟩<;>omega)|(exact rfl)))
       all_goals first|(simp;done)|skip
theorem c_iOrderKeys (m:MkM) (t cuts:List (List Int)) (os:List ItM) (h:t.length≤1048576) (h2:∀x∈t,x.length≤1048576) (h3:cuts.length≤1048576) (h4:∀x∈cuts,x.length≤1048576) (h5:os.length≤1048576):Fn Tryz.prog 12 [eSy m t,eIss cuts,eIts os] true (· =keysR m t cuts os):=by
 refine Fn.of_vcN 71 [.tmp 6,.tmp 7,.tmp 8] Tryz.func12 rfl rfl rfl rfl rfl (of_decide_eq_true rfl) ?_
 have hq:=c_designOrderCode m t cuts os h h2 h3 h4 h5
 unfold keysR
 rcases hb:(isDes m t cuts&&isOrd t os) with _|_
 · have hne:stockCode m t cuts os≠0:=by
    unfold stockCode
    cases h6:isDes m t cuts<;>cases h7:isOrd t os<;>simp_all
   rw [if_neg hne]
   have hne':(stockCode m t cuts os != 0)=true:=by simp [hne]
   generalize stockCode m t cuts os=c at*
   simp -dsimp -implicitDefEqProofs only [go_sem]
   refine sCallT_one hq ?_
   simp -dsimp -implicitDefEqProofs only [go_sem,hne']
   ((repeat' (with_reducible refine ai ?_ ?_));all_goals try (first|omega|(refine ⟨?_,?_⟩<;>omega)|(exact rfl)))
   all_goals trace_state
 obtain ⟨hd,ho⟩:=Bool.and_eq_true_iff.1 hb
 have h0:stockCode m t cuts os=0:=by rw [stockCode,if_pos hd,if_pos ho]
 rw [if_pos h0]
 rw [h0] at hq
 obtain ⟨hs,hc⟩:=isDes_out hd
 have hmk:=isSy_mk hs
 have ⟨⟨n1,n2⟩,n3,n4⟩:=isMk_num hmk
 obtain ⟨k1,k2,k3,k4,k5⟩:=isSy_num hs
 obtain ⟨c1,c2⟩:=isCutsOf_out hc
 obtain ⟨o1,o2⟩:=isOrd_out ho
 have hcop:∀i (hi:i<os.length),1≤os[i].copies∧os[i].copies≤50:=fun i hi=>⟨(o2 i hi).2.2.1,(o2 i hi).2.2.2⟩
 have hKm:=fun n (k:List Int) (hk:k∈ordK m cuts os n)=>ordK_mem (m:=m) (by omega) hk
 have hKl:=fun n=>ordK_len hmk cuts os n
 have hCin:∀n,n≤os.length→∀x∈ordC m cuts os n,0≤x∧x≤1000:=by
  intro n hn x hx
  obtain ⟨k,_,rfl⟩:=List.mem_map.1 hx
  have:=kcnt_in (cuts:=cuts) (k:=k) hcop n hn
  omega
 simp -dsimp -implicitDefEqProofs only [go_sem]
 refine sCallT_one hq ?_
 simp -dsimp -implicitDefEqProofs only [go_sem]
 ((repeat' (with_reducible refine ai ?_ ?_));all_goals try (first|omega|(refine ⟨?_,?_⟩<;>omega)|(exact rfl)))
 refine Later.upP [1,25,26] [13,41,53,54,55,58,59] [23,24] os.length (fun _=>True) (fun i=>[(27,eI i),(11,.ref 24 0 0 (ordC m cuts os i).length),(10,.ref 23 0 0 (ordK m cuts os i).length)]) (fun i=>[(24,.row 0 ⟨1,false⟩ true ((ordC m cuts os i).map eI)),(23,.row 0 ⟨1,false⟩ true ((ordK m cuts os i).map eIs))]) trivial (.here ?_) rfl (fun i hi _=> ?_) (fun _=> ?_)
 · rw [ordK_zero,ordC_zero]
   simp -dsimp -implicitDefEqProofs only [go_sem,List.isEmpty_nil,List.map_nil,List.length_nil]
   ((repeat' (with_reducible refine ai ?_ ?_));all_goals try (first|omega|(refine ⟨?_,?_⟩<;>omega)|(exact rfl)))
   all_goals trace_state
 · have gi:=get_some hi
   have li:=lt_len hi
   have oi:=o2 i hi
   have hoth:=@ord_other m cuts os i hi
   have hstep:=@ord_step m cuts os i (by omega) hcop hi
   have hKm1:=hKm i
   have hKl1:=hKl i
   have hC1:=hCin i (by omega)
   generalize os[i]=x at*
   obtain ⟨xk,xi,xc⟩:=x
   simp only at oi hoth hstep
   generalize ordK m cuts os i=K at*
   generalize ordC m cuts os i=C at*
   generalize ordK m cuts os (i+1)=K' at*
   generalize ordC m cuts os (i+1)=C' at*
   simp -dsimp -implicitDefEqProofs only [pz,Nat.reduceBEq,Nat.reduceDiv,Nat.reduceAdd,↓reduceIte,Nat.reduceEqDiff]
   refine Later.seqV rfl ?_
   simp -dsimp -implicitDefEqProofs only [go_sem,li]
   refine Later.seqV rfl ?_
   simp -dsimp -implicitDefEqProofs only [go_sem,li]
   refine Later.seqL ?_
   refine Later.blockL ?_
   refine Later.seqV rfl ?_
   simp -dsimp -implicitDefEqProofs only [go_sem,gi]
   ((repeat' (with_reducible refine ai ?_ ?_));all_goals try (first|omega|(refine ⟨?_,?_⟩<;>omega)|(exact rfl)))
   refine Later.seqV rfl ?_
   cases xk with
   |false=>
    obtain ⟨rfl,rfl⟩:=hoth rfl
    simp -dsimp -implicitDefEqProofs only [go_sem]
    refine Later.vc rfl ?_
    simp -dsimp -implicitDefEqProofs only [go_sem]
    ((repeat' (with_reducible refine ai ?_ ?_));all_goals try (first|omega|(refine ⟨?_,?_⟩<;>omega)|(exact rfl)))
    all_goals first|(refine .here ?_;simp -dsimp -implicitDefEqProofs only [go_sem];((repeat' (with_reducible refine ai ?_ ?_));all_goals try (first|omega|(refine ⟨?_,?_⟩<;>omega)|(exact rfl)));done)|skip
   |true=>
    simp only [if_true] at oi
    have hci:xi.toNat<cuts.length:=by omega
    have gc:=get_some hci
    have hky:=c2 _ (uq4 hci)
    have hx1:=(key1_out hky).1
    have eg:cuts.getD xi.toNat []=cuts[xi.toNat]:=by rw [uq2,gc];rfl
    rw [eg] at hstep
    obtain ⟨p,hp⟩:=hstep rfl (KeyOk.of_fault (beq_iff_eq.1 hky))
    generalize cuts[xi.toNat]=k at*
    clear hoth hstep eg
    obtain ⟨hple,hlow,hfnd,hnew,hCl⟩:=hp
    have hclo:=c_CloneI k (by omega)
    have hbs:=c_bsf K k p hKl1 (fun x hx=>by have:=hKm1 x hx;omega) (by omega) hple hlow
    simp -dsimp -implicitDefEqProofs only [go_sem]
    refine Later.seqV rfl ?_
    simp -dsimp -implicitDefEqProofs only [go_sem,gc]
    ((repeat' (with_reducible refine ai ?_ ?_));all_goals try (first|omega|(refine ⟨?_,?_⟩<;>omega)|(exact rfl)))
    refine sCallT_clo3 hbs ?_ ?_ ?_
    · simp -dsimp -implicitDefEqProofs only [go_sem]
      ((repeat' (with_reducible refine ai ?_ ?_));all_goals try (first|omega|(refine ⟨?_,?_⟩<;>omega)|(exact rfl)))
      all_goals first|(simp;done)|skip
    · simp -dsimp -implicitDefEqProofs only [go_sem]
      all_goals first|rfl|skip
    simp -dsimp -implicitDefEqProofs only [go_sem]
    ((repeat' (with_reducible refine ai ?_ ?_));all_goals try (first|omega|(refine ⟨?_,?_⟩<;>omega)|(exact rfl)))
    have hk0:0<k.length:=by omega
    have hcase:(∃hl:p<K.length,bsfB K k p=true)∨bsfB K k p=false:=by
     by_cases hl:p<K.length
     · cases hz:bsfB K k p with
       |true=>exact .inl ⟨hl,rfl⟩
       |false=>exact .inr rfl
     · exact .inr (bsfB_none (by omega))
    rcases hcase with ⟨hl,hz⟩|hz
    · obtain ⟨rfl,hC'⟩:=hfnd hl (by rw [←bsfB_some (get_some hl)];exact hz)
      have hClo:p<C.length:=by omega
      have gC:C[p]? =some (C.getD p 0):=by rw [uq2,uq3 hClo];rfl
      have hyb:=hC1 (C.getD p 0) (List.mem_of_getElem? gC)
      have eC:(C.map eI).set p (eI (C.getD p 0+xc))=C'.map eI:=by rw [hC',List.map_set]
      have eL:C'.length=C.length:=by rw [hC',List.length_set]
      generalize C.getD p 0=y at*
      refine Later.seqV rfl ?_
      simp -dsimp -implicitDefEqProofs only [go_sem,hz]
      refine Later.solo 7 mixed rfl ?_
      simp -dsimp -implicitDefEqProofs only [go_sem,gC]
      ((repeat' (with_reducible refine ai ?_ ?_));all_goals try (first|omega|(refine ⟨?_,?_⟩<;>omega)|(exact rfl)))
      rw [eC]
      refine Later.vc rfl ?_
      simp -dsimp -implicitDefEqProofs only [go_sem,eL]
      ((repeat' (with_reducible refine ai ?_ ?_));all_goals try (first|omega|(refine ⟨?_,?_⟩<;>omega)|(exact rfl)))
      refine .here ?_
      simp -dsimp -implicitDefEqProofs only [go_sem,eL]
      ((repeat' (with_reducible refine ai ?_ ?_));all_goals try (first|omega|(refine ⟨?_,?_⟩<;>omega)|(exact rfl)))
      all_goals first|(simp;done)|skip
    · obtain ⟨hK',hC'⟩:=hnew (fun h=>by rw [←bsfB_some (get_some h)];exact hz)
      have hlK:p≤(K.map eIs).length:=by rw [uq5];exact hple
      refine Later.seqL ?_
      refine Later.seqV rfl ?_
      simp -dsimp -implicitDefEqProofs only [go_sem,hz]
      refine Later.condL true rfl (fun _=> ?_) (fun h=>by cases h)
      refine Later.seqL ?_
      refine Later.insK 8 rfl rfl rfl ?_
      simp -dsimp -implicitDefEqProofs only [go_sem,gc]
      ((repeat' (with_reducible refine ai ?_ ?_));all_goals try (first|omega|(refine ⟨?_,?_⟩<;>omega)|(exact rfl)))
      refine sCallT_one hclo ?_
      simp -dsimp -implicitDefEqProofs only [go_sem]
      ((repeat' (with_reducible refine ai ?_ ?_));all_goals try (first|omega|(refine ⟨?_,?_⟩<;>omega)|(exact rfl)))
      refine hkN.known 53 54000 0 k.length ⟨1,false⟩ _ rfl (by decide) rfl (by simp) hk0 (by decide) fun u=> ?_
      simp -dsimp -implicitDefEqProofs only [go_sem,List.take_succ_cons,uq8]
      ((repeat' (with_reducible refine ai ?_ ?_));all_goals try (first|omega|(refine ⟨?_,?_⟩<;>omega)|(exact rfl)))
      have hlenK:p+1≤K.length+1:=by omega
      refine insC.go true (l:=23) (ver:=0) (i:=p) (xs:=K.map eIs) rfl rfl rfl rfl insR_runs (by rw [uq5];rfl) rfl rfl rfl rfl (by rw [uq5];omega) (by rw [uq5];omega) (by decide) (.inl ⟨rfl,rfl⟩) ?_
      obtain ⟨W,hW⟩:∃W,(K.map eIs).take p++AV.val u::(K.map eIs).drop p=W:=⟨_,rfl⟩
      have gW:W[p]? =some (.val u):=by rw [←hW,ins_get (K.map eIs) (AV.val u) p p hlK,if_neg (by omega),if_pos rfl]
      have lW:W.length=K.length+1:=by rw [←hW];simp;omega
      have sW:W.set p (eIs k)=K'.map eIs:=by
       rw [←hW,hK',←map_ins eIs K k p,set_at (by rw [List.length_take,uq5];omega)]
      rw [hW,uq5]
      simp -dsimp -implicitDefEqProofs only [go_sem,List.drop_succ_cons,List.drop_zero]
      ((repeat' (with_reducible refine ai ?_ ?_));all_goals try (first|omega|(refine ⟨?_,?_⟩<;>omega)|(exact rfl)))
      have hlC:p≤C.length:=by omega
      obtain ⟨D,hD⟩:∃D,C.take p++(0:Int)::C.drop p=D:=⟨_,rfl⟩
      have gD:D[p]? =some 0:=by rw [←hD,ins_get C 0 p p hlC,if_neg (by omega),if_pos rfl]
      have eD:(C.map eI).take p++eI 0::(C.map eI).drop p=D.map eI:=by rw [←hD];exact map_ins eI C 0 p
      have lD:D.length=C.length+1:=by rw [←hD];simp;omega
      rw [hD] at hC'
      have eC:(D.map eI).set p (eI (0+xc))=C'.map eI:=by rw [hC',List.map_set]
      have eL:C'.length=C.length+1:=by rw [hC',List.length_set,lD]
      have eK:K'.length=K.length+1:=by rw [hK'];simp;omega
      have hy0:(0:Int)+xc≤1000:=by omega
      refine Later.ins 2 rfl rfl rfl ?_
      simp -dsimp -implicitDefEqProofs only [go_sem,List.take_succ_cons,uq8]
      ((repeat' (with_reducible refine ai ?_ ?_));all_goals try (first|omega|(refine ⟨?_,?_⟩<;>omega)|(exact rfl)))
      refine insC.go true (l:=24) (ver:=0) (i:=p) (xs:=C.map eI) rfl rfl rfl rfl insI_runs (by rw [uq5];rfl) rfl rfl rfl rfl (by rw [uq5];omega) (by rw [uq5];omega) (by decide) (.inl ⟨rfl,rfl⟩) ?_
      rw [eD,uq5]
      simp -dsimp -implicitDefEqProofs only [go_sem,List.drop_succ_cons,List.drop_zero]
      ((repeat' (with_reducible refine ai ?_ ?_));all_goals try (first|omega|(refine ⟨?_,?_⟩<;>omega)|(exact rfl)))
      refine Later.solo 7 mixed rfl ?_
      simp -dsimp -implicitDefEqProofs only [go_sem,gD,lD]
      ((repeat' (with_reducible refine ai ?_ ?_));all_goals try (first|omega|(refine ⟨?_,?_⟩<;>omega)|(exact rfl)))
      rw [eC]
      refine Later.vc rfl ?_
      simp -dsimp -implicitDefEqProofs only [go_sem,eL,eK]
      ((repeat' (with_reducible refine ai ?_ ?_));all_goals try (first|omega|(refine ⟨?_,?_⟩<;>omega)|(exact rfl)))
      refine RefP.back 23 1 p 54000 0 _ _ _ u (by decide) rfl gW rfl (.here ?_)
      rw [show W.set p (.arr ⟨1,false⟩ (k.map eI))=K'.map eIs from sW]
      simp -dsimp -implicitDefEqProofs only [go_sem,eL,eK]
      ((repeat' (with_reducible refine ai ?_ ?_));all_goals try (first|omega|(refine ⟨?_,?_⟩<;>omega)|(exact rfl)))
      all_goals first|(simp;done)|skip
 · refine Later.vc rfl ?_
   generalize ordK m cuts os os.length=K at*
   generalize ordC m cuts os os.length=C at*
   simp -dsimp -implicitDefEqProofs only [pz,Nat.reduceBEq,Nat.reduceDiv,Nat.reduceAdd,↓reduceIte,Nat.reduceEqDiff]
   simp -dsimp -implicitDefEqProofs only [go_sem,nlt_len]
   ((repeat' (with_reducible refine ai ?_ ?_));all_goals try (first|omega|(refine ⟨?_,?_⟩<;>omega)|(exact rfl)))
   all_goals first|(simp;done)|(simp;omega)|skip
end Go.Vc
