/- The session book: contracts of the program and of the laws' helpers, joined (Tf, Ti, Tj). -/
import Derived.Test.YticjeianiahppaaGreatDoorBT
import Derived.Test.YticjeianiahppaaGreatDoorBU
import Derived.Test.YticjeianiahppaaGreatDoorBX
import Derived.Test.YticjeianiahppaaGreatDoorDC
set_option linter.unusedVariables false
set_option linter.unusedSimpArgs false
set_option linter.unnecessarySimpa false
namespace Go.Proofs.YticjeianiahppaaGreatDoor
def runC (S:BSt):List (Cmd × List Int)→BSt × List Int
 | [] => (S,[])
 | x :: l => ((runC (if errL S x.1 x.2=0 then nxtC S x.1 x.2 else S) l).1,errL S x.1 x.2 :: (runC (if errL S x.1 x.2=0 then nxtC S x.1 x.2 else S) l).2)
theorem run_play {l:List ByteArray} {cs:List (Cmd × List Int)} (h:l.map parseF=cs.map some) (S:BSt):playS S l=(runC S cs).1∧playE S l=(runC S cs).2:=by
 induction l generalizing cs S with
 | nil =>
  cases cs with
  | nil => exact ⟨rfl,rfl⟩
  | cons x t => cases h
 | cons s l ih =>
  cases cs with
  | nil => cases h
  | cons x t =>
   rw [List.map_cons,List.map_cons,List.cons.injEq] at h
   have hs:lineS S s=if errL S x.1 x.2=0 then nxtC S x.1 x.2 else S:=lineS_of h.1
   have he:lineE S s=errL S x.1 x.2:=lineE_of h.1
   obtain ⟨i1,i2⟩:=ih h.2 (lineS S s)
   rw [hs] at i1 i2
   refine ⟨by rw [playS_cons,hs];exact i1,?_⟩
   show lineE S s :: playE (lineS S s) l=_
   rw [he,hs,i2];rfl
def explOkM (S:BSt):Bool:=decide (S.journal=[]) || decide (explM S.post S.journal=0)
def errM (S:BSt) (c:Cmd) (n:List Int):Int:=if errC S c n=0 then (if c.asks && !explOkM (nxtC S c n) then 9 else 0) else errC S c n
theorem errM_eq (S:BSt) (c:Cmd) (n:List Int):errL S c n=errM S c n:=by
 unfold errL errM explOk explOkM
 rw [expl_mask]
def runM (S:BSt):List (Cmd × List Int)→BSt × List Int
 | [] => (S,[])
 | x :: l => match errM S x.1 x.2 with
  | e => match runM (if e=0 then nxtC S x.1 x.2 else S) l with
   | (T,es) => (T,e :: es)
theorem runM_eq (S:BSt) (l:List (Cmd × List Int)):runC S l=runM S l:=by
 induction l generalizing S with
 | nil => rfl
 | cons x l ih =>
  unfold runC runM
  rw [ih,errM_eq]
 deriving instance DecidableEq for Cps.Leg,Cps.Route,Cps.Post,Pay.Dis,BSt
def yearB:List ByteArray:=[⟨#[98,111,111,107,32,49,51,32,49,48]⟩,⟨#[107,101,121,32,50,32,51,32,49]⟩,⟨#[107,101,121,32,53,32,48,32,48]⟩,⟨#[100,97,121,32,48]⟩,⟨#[100,97,121,32,48]⟩,⟨#[100,97,121,32,49]⟩,⟨#[108,111,115,116,32,48,32,49]⟩,⟨#[115,101,110,100,32,48]⟩,⟨#[115,101,110,100,32,50]⟩,⟨#[114,111,117,116,101,32,49,32,49,32,51]⟩,⟨#[114,111,117,116,101,32,48,32,49,32,49]⟩,⟨#[115,108,101,101,112,32,49,32,48,32,49,32,52]⟩,⟨#[108,101,103,32,49,32,49,32,50]⟩,⟨#[119,97,105,116,32,53]⟩,⟨#[99,97,109,101,32,49,32,55]⟩,⟨#[114,97,116,101,32,51,32,49,48]⟩,⟨#[112,97,105,100,32,48,32,49,48,32,49,52,32,49]⟩,⟨#[112,97,115,115,101,100,32,48,32,50]⟩,⟨#[112,97,115,115,101,100,32,48,32,51]⟩,⟨#[112,97,105,100,32,51,32,55,32,55,32,50]⟩]
def yearBC:List (Cmd × List Int):=[(.book,[13,10]),(.key,[2,3,1]),(.key,[5,0,0]),(.day,[0]),(.day,[0]),(.day,[1]),(.lost,[0,1]),(.send,[0]),(.send,[2]),(.route,[1,1,3]),(.route,[0,1,1]),(.sleep,[1,0,1,4]),(.leg,[1,1,2]),(.wait,[5]),(.came,[1,7]),(.rate,[3,10]),(.paid,[0,10,14,1]),(.passed,[0,2]),(.passed,[0,3]),(.paid,[3,7,7,2])]
theorem yearB_parse:yearB.map parseF=yearBC.map some:=by
 have h:∀ l:List ByteArray,l.map parseF=l.map fun s => parseL s.data.toList:=fun l => List.map_congr_left fun s _ => parseF_eq s
 rw [h]
 decide +kernel
def moreB:List ByteArray:=[⟨#[99,97,109,101,32,49,32,50]⟩,⟨#[119,97,105,116,32,52]⟩,⟨#[107,101,121,32,48,32,49,32,49]⟩,⟨#[115,101,110,100,32,50]⟩,⟨#[112,97,115,115,101,100,32,48,32,50]⟩,⟨#[108,111,115,116,32,50,32,48]⟩,⟨#[119,111,114,100,115,32,48,32,49,49,32,49,52]⟩]
def moreBC:List (Cmd × List Int):=[(.came,[1,2]),(.wait,[4]),(.key,[0,1,1]),(.send,[2]),(.passed,[0,2]),(.lost,[2,0]),(.words,[0,11,14])]
theorem moreB_parse:moreB.map parseF=moreBC.map some:=by
 have h:∀ l:List ByteArray,l.map parseF=l.map fun s => parseL s.data.toList:=fun l => List.map_congr_left fun s _ => parseF_eq s
 rw [h]
 decide +kernel
def yearS:BSt:=⟨13,10,[(2,3,1),(5,0,0)],[0,0,1],[(0,1)],⟨[0,2],[⟨[⟨1,3,[]⟩],true⟩,⟨[⟨1,1,[(1,4)]⟩,⟨1,2,[]⟩],false⟩],5⟩,[⟨1,7,false⟩],3,10,[⟨0,10,14,[1,2,3]⟩,⟨3,7,7,[2]⟩]⟩
theorem year_run:runM BSt.begun yearBC=(yearS,List.replicate 20 0):=by decide +kernel
theorem year_play:playS BSt.begun yearB=yearS∧playE BSt.begun yearB=List.replicate 20 0:=by
 obtain ⟨h1,h2⟩:=run_play yearB_parse BSt.begun
 rw [runM_eq,year_run] at h1 h2
 exact ⟨h1,h2⟩
theorem more_run:(runM yearS moreBC).2=[9,9,2,8,6,7,0]:=by decide +kernel
theorem more_play:playE BSt.begun (yearB ++ moreB)=List.replicate 20 0 ++ [9,9,2,8,6,7,0]:=by
 rw [playE_app,year_play.1,year_play.2,(run_play moreB_parse yearS).2,runM_eq,more_run]
end Go.Proofs.YticjeianiahppaaGreatDoor
namespace Go.Proofs.YticjeianiahppaaGreatDoor
theorem year_after:afterL yearB=yearS:=year_play.1
theorem year_fault:faultL yearB=0:=by decide +kernel
theorem year_exposedE:exposedE yearB=0:=by
 unfold exposedE
 rw [year_fault,year_after];rfl
theorem year_exposed:exposedL yearB=[1,1,-1]:=by
 unfold exposedL
 rw [year_exposedE,year_after]
 decide +kernel
def firstM (M:Nat):Nat:=(((List.range 101).find? M.testBit)).getD 0
theorem first_mask {f:Cps.Hrs} {M:Nat} (h:∀ n,M.testBit n=f n):Cps.firstH f=(firstM M:Int):=by
 unfold Cps.firstH Cps.hrList firstM
 rw [show M.testBit=f from funext h,List.getD_eq_getElem?_getD,List.getElem?_map,← List.head?_eq_getElem?,List.head?_filter]
 cases (List.range 101).find? f <;> rfl
theorem hr_mask {p:Cps.Post} {i k:Nat} {r:Cps.Route} (hk:p.routes[k]?=some r) (hl:∀ l ∈ r.legs,0≤l.lo) (hs:0≤p.sends.getD i 0) (n:Nat):(routeMask r.legs (p.sends.getD i 0).toNat).testBit n=Cps.hrF p i k n:=by
 rw [route_mask _ _ hl]
 unfold Cps.hrF
 rw [hk,show (((p.sends.getD i 0).toNat:Nat):Int)=p.sends.getD i 0 by omega];rfl
def yp:Cps.Post:=yearS.post
theorem yp00:Cps.firstH (Cps.hrF yp 0 0)=1∧Cps.lastH (Cps.hrF yp 0 0)=3:=by
 have h:=hr_mask (p:=yp) (i:=0) (k:=0) rfl (by decide) (by decide)
 rw [first_mask h,last_mask h]
 decide +kernel
theorem yp01:Cps.firstH (Cps.hrF yp 0 1)=6∧Cps.lastH (Cps.hrF yp 0 1)=7:=by
 have h:=hr_mask (p:=yp) (i:=0) (k:=1) rfl (by decide) (by decide)
 rw [first_mask h,last_mask h]
 decide +kernel
theorem yp10:Cps.firstH (Cps.hrF yp 1 0)=3∧Cps.lastH (Cps.hrF yp 1 0)=5:=by
 have h:=hr_mask (p:=yp) (i:=1) (k:=0) rfl (by decide) (by decide)
 rw [first_mask h,last_mask h]
 decide +kernel
theorem yp11:Cps.firstH (Cps.hrF yp 1 1)=6∧Cps.lastH (Cps.hrF yp 1 1)=7:=by
 have h:=hr_mask (p:=yp) (i:=1) (k:=1) rfl (by decide) (by decide)
 rw [first_mask h,last_mask h]
 decide +kernel
theorem yl0:Cps.lossyK yp 0=true:=rfl
theorem yl1:Cps.lossyK yp 1=false:=rfl
theorem ear0:Cps.earliestF yp 0=1:=by
 show Cps.earN yp 0 2=1
 rw [Cps.earN_succ,Cps.earN_succ,yp00.1,yp01.1];decide
theorem ear1:Cps.earliestF yp 1=3:=by
 show Cps.earN yp 1 2=3
 rw [Cps.earN_succ,Cps.earN_succ,yp10.1,yp11.1];decide
theorem lat0:Cps.latestF yp 0=7:=by
 show Cps.latN yp 0 2=7
 rw [Cps.latN_succ,Cps.latN_succ,yl0,yl1,yp01.2];decide
theorem lat1:Cps.latestF yp 1=7:=by
 show Cps.latN yp 1 2=7
 rw [Cps.latN_succ,Cps.latN_succ,yl0,yl1,yp11.2];decide
theorem year_copiesE:copiesE yearB=0:=by
 unfold copiesE
 rw [year_fault,year_after];decide
theorem year_post:Cps.postErr yp=0:=by decide +kernel
theorem year_spans:spansL yearB=[(1,5),(3,7)]:=by
 unfold spansL
 rw [year_copiesE,year_after,if_pos rfl]
 show Cps.spansOut yp=_
 unfold Cps.spansOut
 rw [year_post,if_pos rfl]
 show Cps.spansF yp 2=_
 rw [Cps.spansF_succ,Cps.spansF_succ]
 show [] ++ [Cps.spanAt yp 0] ++ [Cps.spanAt yp 1]=_
 unfold Cps.spanAt
 simp only [Cps.finN_succ,ear0,ear1,lat0,lat1]
 decide
theorem year_sure:sureL yearB=[1]:=by
 unfold sureL
 rw [year_copiesE,year_after,if_pos rfl]
 show Cps.sureOut yp=_
 unfold Cps.sureOut
 rw [year_post,if_pos rfl]
 show Cps.sureF yp 2=_
 rw [Cps.sureF_succ,Cps.sureF_succ]
 unfold Cps.sureB
 simp only [lat0,lat1]
 decide
theorem year_owedE:owedE yearB=0:=by
 unfold owedE
 rw [year_fault,year_after];decide
theorem year_owed:owedL yearB=[(-42,-30),(12,16),(30,34),(-12,-8),(0,0),(0,0),(0,0)]:=by
 unfold owedL
 rw [year_owedE,year_after,if_pos rfl]
 decide +kernel
end Go.Proofs.YticjeianiahppaaGreatDoor
namespace Go.Proofs.YticjeianiahppaaGreatDoor
def decK:Nat→Nat→List UInt8
 | 0,u => [UInt8.ofNat (48 + u)]
 | f + 1,u => if u < 10 then [UInt8.ofNat (48 + u)] else decK f (u / 10) ++ [UInt8.ofNat (48 + u % 10)]
theorem decK_eq:∀ (f u:Nat),u < 10 ^ (f + 1)→Lib.decDigits u=decK f u
 | 0,u,h => by
  rw [Lib.decDigits,dif_pos (by simpa using h)];rfl
 | f + 1,u,h => by
  rw [Lib.decDigits]
  unfold decK
  by_cases hu:u < 10
  ·rw [dif_pos hu,if_pos hu]
  ·rw [dif_neg hu,if_neg hu,decK_eq f (u / 10) (by rw [Nat.pow_succ] at h;omega)]
def itoaK (n:Int):List UInt8:=if n < 0 then 45 :: decK 6 n.natAbs else decK 6 n.toNat
theorem itoaK_eq {n:Int} (h:Small n):Lib.itoa n=itoaK n:=by
 unfold Small at h
 unfold Lib.itoa itoaK
 split
 ·rw [decK_eq 6 _ (by omega)]
 ·rw [decK_eq 6 _ (by omega)]
theorem numK {n:Int} (h:Small n):numW n=⟨(itoaK n).toArray⟩:=by unfold numW;rw [itoaK_eq h]
def dayK (n:Int):ByteArray:=if 0≤n then ⟨(itoaK n).toArray⟩ else neverW
def speltK (x:Int × Int):ByteArray:=⟨(itoaK x.1).toArray⟩ ++ ⟨#[46,46]⟩ ++ ⟨(itoaK x.2).toArray⟩
theorem dayK_eq {n:Int} (h:Small n):dayW n=dayK n:=by unfold dayW dayK;rw [numK h]
theorem speltK_eq {x:Int × Int} (h:Small x.1∧Small x.2):speltW x=speltK x:=by unfold speltW speltK;rw [numK h.1,numK h.2]
theorem year_w0:wordsR yearB 0=headAt 0 :: [1,1,-1].map dayK:=by
 show headAt 0 :: (exposedL yearB).map dayW=_
 rw [List.map_congr_left fun x hx => dayK_eq (exposed_small yearB x hx),year_exposed]
theorem year_w1:wordsR yearB 1=headAt 1 :: [(1,5),(3,7)].map speltK:=by
 show headAt 1 :: (spansL yearB).map speltW=_
 rw [List.map_congr_left fun x hx => speltK_eq (spans_small yearB x hx),year_spans]
theorem year_w2:wordsR yearB 2=headAt 2 :: [(1:Int)].map fun n => ⟨(itoaK n).toArray⟩:=by
 show headAt 2 :: (sureL yearB).map numW=_
 rw [List.map_congr_left fun x hx => numK (sure_small yearB x hx),year_sure]
theorem year_w3:wordsR yearB 3=headAt 3 :: [(-42,-30),(12,16),(30,34),(-12,-8),(0,0),(0,0),(0,0)].map speltK:=by
 show headAt 3 :: (owedL yearB).map speltW=_
 rw [List.map_congr_left fun x hx => speltK_eq (owed_small yearB x hx),year_owed]
def yearR:List UInt8:=[101,120,112,111,115,101,100,32,49,32,49,32,110,101,118,101,114,10,115,112,97,110,115,32,49,46,46,53,32,51,46,46,55,10,115,117,114,101,32,49,10,111,119,101,100,32,45,52,50,46,46,45,51,48,32,49,50,46,46,49,54,32,51,48,46,46,51,52,32,45,49,50,46,46,45,56,32,48,46,46,48,32,48,46,46,48,32,48,46,46,48,10]
theorem year_report:reportF yearB=yearR:=by
 unfold reportF
 rw [year_w0,year_w1,year_w2,year_w3]
 decide +kernel
theorem one_file:fileB [⟨#[97]⟩]=[48,49,45,48,48,49,50,48,45,97,10]:=by decide +kernel
theorem one_fault:faultL [⟨#[97]⟩]=0:=by decide +kernel
theorem more_fault:faultL (yearB ++ moreB)=0:=by decide +kernel
end Go.Proofs.YticjeianiahppaaGreatDoor
