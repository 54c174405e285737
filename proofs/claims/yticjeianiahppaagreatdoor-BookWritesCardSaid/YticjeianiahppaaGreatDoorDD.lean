/- The session book: contracts of the program and of the laws' helpers, joined (Tf, Ti, Tj). -/
import Derived.Test.YticjeianiahppaaGreatDoorBT
import Derived.Test.YticjeianiahppaaGreatDoorBU
import Derived.Test.YticjeianiahppaaGreatDoorBX
import Derived.Test.YticjeianiahppaaGreatDoorDC
set_option linter.unusedVariables false
set_option linter.unusedSimpArgs false
set_option linter.unnecessarySimpa false
namespace Go.Proofs.YticjeianiahppaaGreatDoor
def runC (S:BSt):List (Cmd × List Int)→BSt × List Int
 | [] => (S,[])
 | x :: l => ((runC (if errL S x.1 x.2=0 then nxtC S x.1 x.2 else S) l).1,errL S x.1 x.2 :: (runC (if errL S x.1 x.2=0 then nxtC S x.1 x.2 else S) l).2)
theorem zJ7 {l:List ByteArray} {cs:List (Cmd × List Int)} (h:l.map zAa=cs.map some) (S:BSt):zBa S l=(runC S cs).1∧zCO S l=(runC S cs).2:=by
 induction l generalizing cs S with
 | nil =>
  cases cs with
  | nil => exact ⟨rfl,rfl⟩
  | cons x t => cases h
 | cons s l ih =>
  cases cs with
  | nil => cases h
  | cons x t =>
   rw [List.map_cons,List.map_cons,List.cons.injEq] at h
   have hs:zAy S s=if errL S x.1 x.2=0 then nxtC S x.1 x.2 else S:=zEK h.1
   have he:zBb S s=errL S x.1 x.2:=zEL h.1
   obtain ⟨i1,i2⟩:=ih h.2 (zAy S s)
   rw [hs] at i1 i2
   refine ⟨by rw [zBh,hs];exact i1,?_⟩
   show zBb S s :: zCO (zAy S s) l=_
   rw [he,hs,i2];rfl
def zMo (S:BSt):Bool:=decide (S.journal=[]) || decide (zP4 S.post S.journal=0)
def errM (S:BSt) (c:Cmd) (n:List Int):Int:=if errC S c n=0 then (if c.asks && !zMo (nxtC S c n) then 9 else 0) else errC S c n
theorem zP5 (S:BSt) (c:Cmd) (n:List Int):errL S c n=errM S c n:=by
 unfold errL errM zBB zMo
 rw [zMl]
def runM (S:BSt):List (Cmd × List Int)→BSt × List Int
 | [] => (S,[])
 | x :: l => match errM S x.1 x.2 with
  | e => match runM (if e=0 then nxtC S x.1 x.2 else S) l with
   | (T,es) => (T,e :: es)
theorem zLc (S:BSt) (l:List (Cmd × List Int)):runC S l=runM S l:=by
 induction l generalizing S with
 | nil => rfl
 | cons x l ih =>
  unfold runC runM
  rw [ih,zP5]
 deriving instance DecidableEq for Cps.Leg,Cps.Route,Cps.Post,Pay.Dis,BSt
def zBC:List ByteArray:=[⟨#[98,111,111,107,32,49,51,32,49,48]⟩,⟨#[107,101,121,32,50,32,51,32,49]⟩,⟨#[107,101,121,32,53,32,48,32,48]⟩,⟨#[100,97,121,32,48]⟩,⟨#[100,97,121,32,48]⟩,⟨#[100,97,121,32,49]⟩,⟨#[108,111,115,116,32,48,32,49]⟩,⟨#[115,101,110,100,32,48]⟩,⟨#[115,101,110,100,32,50]⟩,⟨#[114,111,117,116,101,32,49,32,49,32,51]⟩,⟨#[114,111,117,116,101,32,48,32,49,32,49]⟩,⟨#[115,108,101,101,112,32,49,32,48,32,49,32,52]⟩,⟨#[108,101,103,32,49,32,49,32,50]⟩,⟨#[119,97,105,116,32,53]⟩,⟨#[99,97,109,101,32,49,32,55]⟩,⟨#[114,97,116,101,32,51,32,49,48]⟩,⟨#[112,97,105,100,32,48,32,49,48,32,49,52,32,49]⟩,⟨#[112,97,115,115,101,100,32,48,32,50]⟩,⟨#[112,97,115,115,101,100,32,48,32,51]⟩,⟨#[112,97,105,100,32,51,32,55,32,55,32,50]⟩]
def zOl:List (Cmd × List Int):=[(.book,[13,10]),(.key,[2,3,1]),(.key,[5,0,0]),(.day,[0]),(.day,[0]),(.day,[1]),(.lost,[0,1]),(.send,[0]),(.send,[2]),(.route,[1,1,3]),(.route,[0,1,1]),(.sleep,[1,0,1,4]),(.leg,[1,1,2]),(.wait,[5]),(.came,[1,7]),(.rate,[3,10]),(.paid,[0,10,14,1]),(.passed,[0,2]),(.passed,[0,3]),(.paid,[3,7,7,2])]
theorem zI7:zBC.map zAa=zOl.map some:=by
 have h:∀ l:List ByteArray,l.map zAa=l.map fun s => zG4 s.data.toList:=fun l => List.map_congr_left fun s _ => zHq s
 rw [h]
 decide +kernel
def zGx:List ByteArray:=[⟨#[99,97,109,101,32,49,32,50]⟩,⟨#[119,97,105,116,32,52]⟩,⟨#[107,101,121,32,48,32,49,32,49]⟩,⟨#[115,101,110,100,32,50]⟩,⟨#[112,97,115,115,101,100,32,48,32,50]⟩,⟨#[108,111,115,116,32,50,32,48]⟩,⟨#[119,111,114,100,115,32,48,32,49,49,32,49,52]⟩]
def zOq:List (Cmd × List Int):=[(.came,[1,2]),(.wait,[4]),(.key,[0,1,1]),(.send,[2]),(.passed,[0,2]),(.lost,[2,0]),(.words,[0,11,14])]
theorem zIl:zGx.map zAa=zOq.map some:=by
 have h:∀ l:List ByteArray,l.map zAa=l.map fun s => zG4 s.data.toList:=fun l => List.map_congr_left fun s _ => zHq s
 rw [h]
 decide +kernel
def zKF:BSt:=⟨13,10,[(2,3,1),(5,0,0)],[0,0,1],[(0,1)],⟨[0,2],[⟨[⟨1,3,[]⟩],true⟩,⟨[⟨1,1,[(1,4)]⟩,⟨1,2,[]⟩],false⟩],5⟩,[⟨1,7,false⟩],3,10,[⟨0,10,14,[1,2,3]⟩,⟨3,7,7,[2]⟩]⟩
theorem zN3:runM BSt.begun zOl=(zKF,List.replicate 20 0):=by decide +kernel
theorem zFR:zBa BSt.begun zBC=zKF∧zCO BSt.begun zBC=List.replicate 20 0:=by
 obtain ⟨h1,h2⟩:=zJ7 zI7 BSt.begun
 rw [zLc,zN3] at h1 h2
 exact ⟨h1,h2⟩
theorem zNp:(runM zKF zOq).2=[9,9,2,8,6,7,0]:=by decide +kernel
theorem zMJ:zCO BSt.begun (zBC ++ zGx)=List.replicate 20 0 ++ [9,9,2,8,6,7,0]:=by
 rw [zLr,zFR.1,zFR.2,(zJ7 zIl zKF).2,zLc,zNp]
theorem zBd:zAV zBC=zKF:=zFR.1
theorem zDY:zBF zBC=0:=by decide +kernel
theorem zDu:zBU zBC=0:=by
 unfold zBU
 rw [zDY,zBd];rfl
theorem zEl:zAq zBC=[1,1,-1]:=by
 unfold zAq
 rw [zDu,zBd]
 decide +kernel
def zOr (M:Nat):Nat:=(((List.range 101).find? M.testBit)).getD 0
theorem zD7 {f:Cps.Hrs} {M:Nat} (h:∀ n,M.testBit n=f n):Cps.zII f=(zOr M:Int):=by
 unfold Cps.zII Cps.zBK zOr
 rw [show M.testBit=f from funext h,List.getD_eq_getElem?_getD,List.getElem?_map,← List.head?_eq_getElem?,List.head?_filter]
 cases (List.range 101).find? f <;> rfl
theorem zHI {p:Cps.Post} {i k:Nat} {r:Cps.Route} (hk:p.routes[k]?=some r) (hl:∀ l ∈ r.legs,0≤l.lo) (hs:0≤p.sends.getD i 0) (n:Nat):(zCL r.legs (p.sends.getD i 0).toNat).testBit n=Cps.hrF p i k n:=by
 rw [zGY _ _ hl]
 unfold Cps.hrF
 rw [hk,show (((p.sends.getD i 0).toNat:Nat):Int)=p.sends.getD i 0 by omega];rfl
def yp:Cps.Post:=zKF.post
theorem yp00:Cps.zII (Cps.hrF yp 0 0)=1∧Cps.lastH (Cps.hrF yp 0 0)=3:=by
 have h:=zHI (p:=yp) (i:=0) (k:=0) rfl (by decide) (by decide)
 rw [zD7 h,zCg h]
 decide +kernel
theorem yp01:Cps.zII (Cps.hrF yp 0 1)=6∧Cps.lastH (Cps.hrF yp 0 1)=7:=by
 have h:=zHI (p:=yp) (i:=0) (k:=1) rfl (by decide) (by decide)
 rw [zD7 h,zCg h]
 decide +kernel
theorem yp10:Cps.zII (Cps.hrF yp 1 0)=3∧Cps.lastH (Cps.hrF yp 1 0)=5:=by
 have h:=zHI (p:=yp) (i:=1) (k:=0) rfl (by decide) (by decide)
 rw [zD7 h,zCg h]
 decide +kernel
theorem yp11:Cps.zII (Cps.hrF yp 1 1)=6∧Cps.lastH (Cps.hrF yp 1 1)=7:=by
 have h:=zHI (p:=yp) (i:=1) (k:=1) rfl (by decide) (by decide)
 rw [zD7 h,zCg h]
 decide +kernel
theorem yl0:Cps.zCy yp 0=true:=rfl
theorem yl1:Cps.zCy yp 1=false:=rfl
theorem ear0:Cps.zFx yp 0=1:=by
 show Cps.earN yp 0 2=1
 rw [Cps.zMy,Cps.zMy,yp00.1,yp01.1];decide
theorem ear1:Cps.zFx yp 1=3:=by
 show Cps.earN yp 1 2=3
 rw [Cps.zMy,Cps.zMy,yp10.1,yp11.1];decide
theorem lat0:Cps.zDk yp 0=7:=by
 show Cps.latN yp 0 2=7
 rw [Cps.zDR,Cps.zDR,yl0,yl1,yp01.2];decide
theorem lat1:Cps.zDk yp 1=7:=by
 show Cps.latN yp 1 2=7
 rw [Cps.zDR,Cps.zDR,yl0,yl1,yp11.2];decide
theorem zDF:zBk zBC=0:=by
 unfold zBk
 rw [zDY,zBd];decide
theorem zH4:Cps.zA4 yp=0:=by decide +kernel
theorem zGO:zC0 zBC=[(1,5),(3,7)]:=by
 unfold zC0
 rw [zDF,zBd,if_pos rfl]
 show Cps.zDw yp=_
 unfold Cps.zDw
 rw [zH4,if_pos rfl]
 show Cps.zEn yp 2=_
 rw [Cps.zIc,Cps.zIc]
 show [] ++ [Cps.zF6 yp 0] ++ [Cps.zF6 yp 1]=_
 unfold Cps.zF6
 simp only [Cps.zMh,ear0,ear1,lat0,lat1]
 decide
theorem zH3:zDv zBC=[1]:=by
 unfold zDv
 rw [zDF,zBd,if_pos rfl]
 show Cps.zF3 yp=_
 unfold Cps.zF3
 rw [zH4,if_pos rfl]
 show Cps.zEv yp 2=_
 rw [Cps.zKK,Cps.zKK]
 unfold Cps.zL5
 simp only [lat0,lat1]
 decide
theorem zGP:zEw zBC=0:=by
 unfold zEw
 rw [zDY,zBd];decide
theorem zH5:zEE zBC=[(-42,-30),(12,16),(30,34),(-12,-8),(0,0),(0,0),(0,0)]:=by
 unfold zEE
 rw [zGP,zBd,if_pos rfl]
 decide +kernel
def decK:Nat→Nat→List UInt8
 | 0,u => [UInt8.ofNat (48 + u)]
 | f + 1,u => if u < 10 then [UInt8.ofNat (48 + u)] else decK f (u / 10) ++ [UInt8.ofNat (48 + u % 10)]
theorem zJH:∀ (f u:Nat),u < 10 ^ (f + 1)→Lib.decDigits u=decK f u
 | 0,u,h => by
  rw [Lib.decDigits,dif_pos (by simpa using h)];rfl
 | f + 1,u,h => by
  rw [Lib.decDigits]
  unfold decK
  by_cases hu:u < 10
  ·rw [dif_pos hu,if_pos hu]
  ·rw [dif_neg hu,if_neg hu,zJH f (u / 10) (by rw [Nat.pow_succ] at h;omega)]
def zIs (n:Int):List UInt8:=if n < 0 then 45 :: decK 6 n.natAbs else decK 6 n.toNat
theorem zOH {n:Int} (h:Small n):Lib.itoa n=zIs n:=by
 unfold Small at h
 unfold Lib.itoa zIs
 split
 ·rw [zJH 6 _ (by omega)]
 ·rw [zJH 6 _ (by omega)]
theorem numK {n:Int} (h:Small n):numW n=⟨(zIs n).toArray⟩:=by unfold numW;rw [zOH h]
def dayK (n:Int):ByteArray:=if 0≤n then ⟨(zIs n).toArray⟩ else zJe
def zJ4 (x:Int × Int):ByteArray:=⟨(zIs x.1).toArray⟩ ++ ⟨#[46,46]⟩ ++ ⟨(zIs x.2).toArray⟩
theorem zPa {n:Int} (h:Small n):dayW n=dayK n:=by unfold dayW dayK;rw [numK h]
theorem zHf {x:Int × Int} (h:Small x.1∧Small x.2):zCI x=zJ4 x:=by unfold zCI zJ4;rw [numK h.1,numK h.2]
theorem zOz:zAr zBC 0=zBE 0 :: [1,1,-1].map dayK:=by
 show zBE 0 :: (zAq zBC).map dayW=_
 rw [List.map_congr_left fun x hx => zPa (zCs zBC x hx),zEl]
theorem zOy:zAr zBC 1=zBE 1 :: [(1,5),(3,7)].map zJ4:=by
 show zBE 1 :: (zC0 zBC).map zCI=_
 rw [List.map_congr_left fun x hx => zHf (zCl zBC x hx),zGO]
theorem zOx:zAr zBC 2=zBE 2 :: [(1:Int)].map fun n => ⟨(zIs n).toArray⟩:=by
 show zBE 2 :: (zDv zBC).map numW=_
 rw [List.map_congr_left fun x hx => numK (zEY zBC x hx),zH3]
theorem zOw:zAr zBC 3=zBE 3 :: [(-42,-30),(12,16),(30,34),(-12,-8),(0,0),(0,0),(0,0)].map zJ4:=by
 show zBE 3 :: (zEE zBC).map zCI=_
 rw [List.map_congr_left fun x hx => zHf (zD3 zBC x hx),zH5]
def zQ2:List UInt8:=[101,120,112,111,115,101,100,32,49,32,49,32,110,101,118,101,114,10,115,112,97,110,115,32,49,46,46,53,32,51,46,46,55,10,115,117,114,101,32,49,10,111,119,101,100,32,45,52,50,46,46,45,51,48,32,49,50,46,46,49,54,32,51,48,46,46,51,52,32,45,49,50,46,46,45,56,32,48,46,46,48,32,48,46,46,48,32,48,46,46,48,10]
theorem zI6:zGp zBC=zQ2:=by
 unfold zGp
 rw [zOz,zOy,zOx,zOw]
 decide +kernel
theorem zNm:zDT [⟨#[97]⟩]=[48,49,45,48,48,49,50,48,45,97,10]:=by decide +kernel
theorem zMA:zBF [⟨#[97]⟩]=0:=by decide +kernel
theorem zK7:zBF (zBC ++ zGx)=0:=by decide +kernel
end Go.Proofs.YticjeianiahppaaGreatDoor
