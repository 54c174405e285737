/- The session book: contracts of the program and of the laws' helpers, joined (Kz). -/
import Derived.Test.YticjeianiahppaaGreatDoorBQ
set_option linter.unusedVariables false
set_option linter.unusedSimpArgs false
set_option linter.unnecessarySimpa false
set_option maxRecDepth 100000
set_option maxHeartbeats 40000000
namespace Go.Proofs.YticjeianiahppaaGreatDoor
open Go.RowKit Go.Flow
structure New5 (w:World) (S:BSt) (A:Adr):Prop where
 keys:zAI 3 RK w A.ak S.keys
 days:zAI 1 RI w A.ad S.days
 lost:zAI 2 RP w A.al S.lost
 sends:zAI 1 RI w A.as_ S.post.sends
 journal:zAI 3 RE w A.aj S.journal
theorem New5.shows {u w:World} {S:BSt} {A:Adr} (h:New5 u S A) (s:Shows u w):New5 w S A :=
 ⟨h.keys.shows zLX s,h.days.shows zF1 s,h.lost.shows zJX s,h.sends.shows zF1 s,h.journal.shows zLY s⟩
theorem zLd {vs cs:List Value} {size i j:Nat} {u:Value} (e:(vs.drop (i * size)).take size=cs) (hj:j < size) (hu:cs[j]?=some u):vs[i * size + j]?=some u:=by
 rw [← zAv hj,e];exact hu
theorem zOp {k x y a b c:Nat} (h:k ∉ [x,y,a,b,c]):k≠a∧k≠c:=by simp at h;omega
theorem zDe {α:Type} {size:Nat} {R:World→α→List Value→Prop} {w:World} {a:Option Addr} {c:Nat} {l:List α} (h:zAI size R w a l) (hs:0 < size) (hn:a=none→c=0):a=none→l.length=0∧c=0:=fun e => ⟨by rw [e] at h;rw [h.none hs];rfl,hn e⟩
theorem zNM (bx bz:Nat) (S:BSt) (A:Adr) (w:World) (hbx:bx < w.heap.size) (hbz0:bz < w.heap.size) (hL:Lists (hidL [bx,bz] w) S A) (F:Few S) :
  Calls Tryz.prog 83 #[.agg (zAW S A)] w fun e w' => ∃ A',e=.returned (.agg (zAW S A'))∧Lists (hidL [bx,bz] w') S A'∧Below w.heap.size w w':=by
 obtain ⟨vk,rk,sk⟩:=hL.keys
 obtain ⟨vd,rd,sd⟩:=hL.days
 obtain ⟨vl,rl,sl⟩:=hL.lost
 obtain ⟨vj,rj,sj⟩:=hL.journal
 obtain ⟨vs,rs,ss⟩:=hL.sends
 obtain ⟨vr,rr,sr⟩:=hL.routes
 obtain ⟨vp,rp,sp⟩:=hL.ds
 replace sk:=sk.shows (zBD _ _)
 replace sd:=sd.shows (zBD _ _)
 replace sl:=sl.shows (zBD _ _)
 replace sj:=sj.shows (zBD _ _)
 replace ss:=ss.shows (zBD _ _)
 replace sr:=sr.shows (zBD _ _)
 replace sp:=sp.shows (zBD _ _)
 have fk:=F.keys
 have fd:=F.days
 have fl:=F.lost
 have fj:=F.journal
 have fs:=F.sends
 have fr:=F.routes
 have fp:=F.ds
 have nk:=zDe hL.keys (by omega) hL.nk
 have nd:=zDe hL.days (by omega) hL.nd
 have nl:=zDe hL.lost (by omega) hL.nl
 have nj:=zDe hL.journal (by omega) hL.nj
 have ns:=zDe hL.sends (by omega) hL.ns
 have nr:=zDe hL.routes (by omega) hL.nr
 have np:=zDe hL.ds (by omega) hL.na
 go_enter Tryz.func83,Tryz.ntmps83
 go_upto_region 1 with fail
 obtain ⟨W1,hW⟩:∃ x:World,x=(w.alloc (.cells (zAW S A) 57)).alloc (.cells #[.int .i64 0,.int .i64 0,.slice none 0 0,.slice none 0 0,.slice none 0 0,.slice none 0 0,.slice none 0 0,.int .i64 0,.slice none 0 0,.int .i64 0,.int .i64 0,.int .i64 0,.slice none 0 0] 57):=⟨_,rfl⟩
 have b0:Below w.heap.size w (w.alloc (.cells (zAW S A) 57)):=Joins.below_alloc1 _ _
 have b1:Below w.heap.size w W1:=by rw [hW];exact b0.alloc (by simp) _
 have C1:Cells W1 w.heap.size (zAW S A) 57:=by rw [hW];exact (Cells.new w _ _).below (Joins.below_alloc1 _ _)
 have D1:Cells W1 (w.heap.size + 1) #[.int .i64 0,.int .i64 0,.slice none 0 0,.slice none 0 0,.slice none 0 0,.slice none 0 0,.slice none 0 0,.int .i64 0,.slice none 0 0,.int .i64 0,.int .i64 0,.int .i64 0,.slice none 0 0] 57:=by rw [hW];exact Cells.new' _ _ _ _ (by simp)
 have Hz1:Hid (W1.heap.size=w.heap.size + 2):=Lib.hid (by rw [hW];simp)
 rw [← hW]
 clear hW b0
 have p2:=C1.cell 2
 have p3:=C1.cell 3
 have p4:=C1.cell 4
 have p8:=C1.cell 8
 simp at p2 p3 p4 p8
 have lg:=C1.lt
 (refine zAD 13 [] [13,14,15,16,17,18,19] 110 [true,true,false,true,true,false,true,true,false,true,true,false,true] [OwnV 186 3 W1.heap.size S.keys.length vk,OwnV 3 1 W1.heap.size S.days.length vd,OwnV 189 2 W1.heap.size S.lost.length vl,OwnV 182 3 W1.heap.size S.journal.length vj] (by kernel_rfl) (by kernel_rfl) rfl (zAB (fun v w w' h hb => h.kept hb) (zAB (fun v w w' h hb => h.kept hb) (zAB (fun v w w' h hb => h.kept hb) (zAB (fun v w w' h hb => h.kept hb) zAR)))) ?_;simp only [zAU,List.filterMap_cons,List.filterMap_nil,zzH,zzI,zzJ];(repeat (refine zAM _ rfl (fun w => (by go_simp;rfl)) ?_));refine zAS ?_;simp only [zAF,zAt,Act.put,zzG,zzE,zzF,zzA,zzB,zzC,zzD];(repeat (refine zAL (fun K hK => ?_);go_simp;first | (refine hK _ ?_;clear hK K) | (apply Exists.intro;refine ⟨fun ex => ?_,hK _ ?_⟩;(fail);clear hK K)));refine zAQ ?_;simp only [zAT,under,zAZ,and_true,List.nil_append,List.cons_append])
 refine ⟨⟨fun e => ?_,fun e _ _ => ?_,fun e _ _ _ _ => ?_,fun e _ _ _ _ _ _ => ?_⟩,fun e => ?_⟩
 ·go_simp
  refine (zJx A.ak S.keys.length A.ck vk e.to (zAO sk (b1.trans (e.below.mono b1.size))) rk.1 nk (rk.one oneK (by omega)) (by omega)).mono ?_
  rintro _ _ ⟨⟨a',c',rfl,o⟩,b⟩
  exact ⟨b,a',c',rfl,o.base_le e.size⟩
 ·go_simp
  refine (zFP A.ad S.days.length A.cd vd e.to (zAO sd (b1.trans (e.below.mono b1.size))) rd.1 nd (rd.one oneI (by omega)) (by omega)).mono ?_
  rintro _ _ ⟨⟨a',c',rfl,o⟩,b⟩
  exact ⟨b,a',c',rfl,o.base_le e.size⟩
 ·go_simp
  refine (zGB A.al S.lost.length A.cl vl e.to (zAO sl (b1.trans (e.below.mono b1.size))) rl.1 nl (rl.one oneP (by omega)) (by omega)).mono ?_
  rintro _ _ ⟨⟨a',c',rfl,o⟩,b⟩
  exact ⟨b,a',c',rfl,o.base_le e.size⟩
 ·go_simp
  refine (zHQ A.aj S.journal.length A.cj vj e.to (zAO sj (b1.trans (e.below.mono b1.size))) rj.1 nj (rj.one oneE (by omega)) (by omega)).mono ?_
  rintro _ _ ⟨⟨a',c',rfl,o⟩,b⟩
  exact ⟨b,a',c',rfl,o.base_le e.size⟩
 rintro v1 ⟨a1,c1,rfl,o1⟩ v2 ⟨a2,c2,rfl,o2⟩ v3 ⟨a3,c3,rfl,o3⟩ v4 ⟨a4,c4,rfl,o4⟩
 simp only [Act.put,zzG,zzE,zzF]
 have heb:=e.below
 obtain ⟨V,hV⟩:∃ x:World,x=e.to:=⟨_,rfl⟩
 rw [← hV] at heb o1 o2 o3 o4 ⊢
 clear hV e
 have bV:Below w.heap.size w V:=b1.trans (heb.mono b1.size)
 replace C1:=C1.below heb
 replace D1:=D1.below heb
 replace p2:=zAA heb p2
 replace p3:=zAA heb p3
 replace p4:=zAA heb p4
 replace p8:=zAA heb p8
 have f2:=C1.frozen 2
 have f3:=C1.frozen 3
 have f4:=C1.frozen 4
 have f8:=C1.frozen 8
 have lg:=C1.lt
 go_upto_region 2 with fail
 obtain ⟨W2,hW⟩:∃ x:World,x=(((V.setCell ⟨w.heap.size,2,none⟩ (.slice a1 S.keys.length c1)).setCell ⟨w.heap.size,3,none⟩ (.slice a2 S.days.length c2)).setCell ⟨w.heap.size,4,none⟩ (.slice a3 S.lost.length c3)).setCell ⟨w.heap.size,8,none⟩ (.slice a4 S.journal.length c4):=⟨_,rfl⟩
 have k2:KeepG w.heap.size V W2:=by rw [hW];exact ((((KeepG.refl lg).set 2 _).set 3 _).set 4 _).set 8 _
 have C2:Cells W2 w.heap.size (zAW S { A with ak:=a1,ck:=c1,ad:=a2,cd:=c2,al:=a3,cl:=c3,aj:=a4,cj:=c4 }) 57:=by rw [hW];exact (((C1.set 2 _).set 3 _).set 4 _).set 8 _
 rw [← hW]
 clear hW C1 p2 p3 p4 p8 f2 f3 f4 f8
 have zW:w.heap.size < W1.heap.size:=by have:=Hz1.out;omega
 have b2:Below w.heap.size w W2:=bV.trans (k2.under (Nat.le_refl _))
 replace o1:=o1.keepG zW k2
 replace o2:=o2.keepG zW k2
 replace o3:=o3.keepG zW k2
 replace o4:=o4.keepG zW k2
 replace D1:=D1.keepG k2 (by omega)
 have zW2:W1.heap.size≤W2.heap.size:=Nat.le_trans heb.size k2.size
 clear k2 bV heb b1 lg V
 have zD:w.heap.size + 1 < W2.heap.size:=D1.lt
 have p5:=C2.cell 5
 have p6:=C2.cell 6
 simp at p5 p6
 have lg:=C2.lt
 (refine zAD 10 [] [10,11,12,13] 110 [true,true,true,false,true,true,true,false,true,true] [OwnV 3 1 W2.heap.size S.post.sends.length vs,OwnV 150 2 W2.heap.size S.post.routes.length vr] (by kernel_rfl) (by kernel_rfl) rfl (zAB (fun v w w' h hb => h.kept hb) (zAB (fun v w w' h hb => h.kept hb) zAR)) ?_;simp only [zAU,List.filterMap_cons,List.filterMap_nil,zzH,zzI,zzJ];(repeat (refine zAM _ rfl (fun w => (by go_simp;rfl)) ?_));refine zAS ?_;simp only [zAF,zAt,Act.put,zzG,zzE,zzF,zzA,zzB,zzC,zzD];(repeat (refine zAL (fun K hK => ?_);go_simp;first | (refine hK _ ?_;clear hK K) | (apply Exists.intro;refine ⟨fun ex => ?_,hK _ ?_⟩;(fail);clear hK K)));refine zAQ ?_;simp only [zAT,under,zAZ,and_true,List.nil_append,List.cons_append])
 refine ⟨⟨fun e => ?_,fun e _ _ => ?_⟩,fun e => ?_⟩
 ·go_simp
  refine (zFP A.as_ S.post.sends.length A.cs vs e.to (zAO ss (b2.trans (e.below.mono b2.size))) rs.1 ns (rs.one oneI (by omega)) (by omega)).mono ?_
  rintro _ _ ⟨⟨a',c',rfl,o⟩,b⟩
  exact ⟨b,a',c',rfl,o.base_le e.size⟩
 ·go_simp
  refine (zEf A.ar S.post.routes.length A.cr vr e.to (zAO sr (b2.trans (e.below.mono b2.size))) rr.1 nr (rr.one oneR (by omega)) (by omega)).mono ?_
  rintro _ _ ⟨⟨a',c',rfl,o⟩,b⟩
  exact ⟨b,a',c',rfl,o.base_le e.size⟩
 rintro v1 ⟨a5,c5,rfl,o5⟩ v2 ⟨a6,c6,rfl,o6⟩
 simp only [Act.put,zzG,zzE,zzF]
 have heb:=e.below
 obtain ⟨V,hV⟩:∃ x:World,x=e.to:=⟨_,rfl⟩
 rw [← hV] at heb o5 o6 ⊢
 clear hV e
 have bV:Below w.heap.size w V:=b2.trans (heb.mono b2.size)
 have C2V:=C2.below heb
 replace D1:=D1.below heb
 replace p5:=zAA heb p5
 replace p6:=zAA heb p6
 have f5:=C2V.frozen 5
 have f6:=C2V.frozen 6
 have lgV:=C2V.lt
 go_upto_region 3 with fail
 obtain ⟨W3,hW⟩:∃ x:World,x=(V.setCell ⟨w.heap.size,5,none⟩ (.slice a5 S.post.sends.length c5)).setCell ⟨w.heap.size,6,none⟩ (.slice a6 S.post.routes.length c6):=⟨_,rfl⟩
 have k3:KeepG w.heap.size V W3:=by rw [hW];exact ((KeepG.refl lgV).set 5 _).set 6 _
 have C3:Cells W3 w.heap.size (zAW S { A with ak:=a1,ck:=c1,ad:=a2,cd:=c2,al:=a3,cl:=c3,aj:=a4,cj:=c4,as_:=a5,cs:=c5,ar:=a6,cr:=c6 }) 57:=by rw [hW];exact (C2V.set 5 _).set 6 _
 rw [← hW]
 clear hW C2V p5 p6 f5 f6
 have b3:Below w.heap.size w W3:=bV.trans (k3.under (Nat.le_refl _))
 have z3:w.heap.size < W2.heap.size:=lg
 have kW:KeepG w.heap.size W2 W3:=(KeepG.of lg heb).trans k3
 replace o5:=o5.keepG z3 k3
 replace o6:=o6.keepG z3 k3
 replace D1:=D1.keepG k3 (by omega)
 obtain ⟨gr,hgr⟩:∃ gr,zPe w.heap.size a6=gr:=⟨_,rfl⟩
 have hgr2:gr=w.heap.size∨W2.heap.size≤gr:=by
  cases a6 with
  | none => exact .inl hgr.symm
  | some x => exact .inr (by rw [← hgr];exact (o6.low x rfl).1)
 have hgr3:∀ x,a6=some x→x=⟨gr,0,none⟩:=fun x hx => by
  subst hx
  rw [(o6.low x rfl).2.2,← hgr];rfl
 have hgr4:gr≠w.heap.size + 1:=by have:=Hz1.out;omega
 have lgr:gr < W3.heap.size:=by
  rcases hgr2 with e | e
  ·rw [e];exact C3.lt
  ·cases a6 with
   | none => rw [← hgr];exact C3.lt
   | some x => rw [← hgr];exact (o6.low x rfl).2.1
 have N5:New5 (hidL [bx,bz,w.heap.size,w.heap.size + 1,gr] W3) S { A with ak:=a1,ck:=c1,ad:=a2,cd:=c2,al:=a3,cl:=c3,aj:=a4,cj:=c4,as_:=a5,cs:=c5,ar:=a6,cr:=c6 }:=by
  have old:∀ x:Addr,W1.heap.size≤x.block→x.block < W2.heap.size→x.block ∉ [bx,bz,w.heap.size,w.heap.size + 1,gr]:=fun x h1 h2 => by have:=Hz1.out;simp;omega
  have t:∀ {E:TypeId} {size n c:Nat} {a:Option Addr} {xs:List Value},OwnL E size W1.heap.size W2 a c n xs→OwnL E size W1.heap.size (hidL [bx,bz,w.heap.size,w.heap.size + 1,gr] W3) a c n xs:=fun h =>
   (h.keepG zW kW).hid fun x hx => old x (h.low x hx).1 (h.low x hx).2.1
  have sw:Shows (hidL [bx,bz] w) (hidL [bx,bz,w.heap.size,w.heap.size + 1,gr] W3):=zAn b3.size fun k hk hn => ⟨by simp at hn;simp;omega,b3.block k hk⟩
  refine ⟨zAI.own (t o1) (rk.shows zLX sw),zAI.own (t o2) (rd.shows zF1 sw),zAI.own (t o3) (rl.shows zJX sw),zAI.own (o5.hid fun x hx => ?_) (rs.shows zF1 sw),zAI.own (t o4) (rj.shows zLY sw)⟩
  have h1:=(o5.low x hx).1
  have:x.block≠gr:=by
   intro e
   subst hx
   cases ha:a6 with
   | none => rw [ha] at hgr;have:w.heap.size=gr:=hgr;omega
   | some y =>
    have hy:=hgr3 y ha
    subst ha
    refine OwnL.apart (by decide) o5 o6 y.block rfl ?_
    show some x.block=some y.block
    rw [hy,e]
  simp;omega
 have R6:zAY 2 RR (hidL [bx,bz,w.heap.size,w.heap.size + 1,gr] W3) vr S.post.routes:=rr.shows zGT (zAn b3.size fun k hk hn => ⟨by simp at hn;simp;omega,b3.block k hk⟩)
 have n1:a1=none→c1=0:=fun e => by subst e;exact zBY o1
 have n2:a2=none→c2=0:=fun e => by subst e;exact zBY o2
 have n3:a3=none→c3=0:=fun e => by subst e;exact zBY o3
 have n4:a4=none→c4=0:=fun e => by subst e;exact zBY o4
 have n5:a5=none→c5=0:=fun e => by subst e;exact zBY o5
 clear k3 bV heb lgV b2 kW o1 o2 o3 o4 o5 lg V C2
 have q6:=C3.cell 6
 simp at q6
 have lg:=C3.lt
 have fr0:(S.post.routes.length:Int)≤3:=by omega
 go_wp2_with fail
 go_loopw [3,4,5,40,61] (fun _ _ _ ix _ X => ∃ (i:Nat) (vx:List Value),i≤S.post.routes.length∧ix=.int .i64 i∧OwnL 150 2 W2.heap.size X a6 c6 S.post.routes.length vx∧zAY 2 RR (hidL [bx,bz,w.heap.size,w.heap.size + 1,gr] X) vx S.post.routes∧Shows (hidL [bx,bz,w.heap.size,w.heap.size + 1,gr] W3) (hidL [bx,bz,w.heap.size,w.heap.size + 1,gr] X)∧Cells X w.heap.size (zAW S { A with ak:=a1,ck:=c1,ad:=a2,cd:=c2,al:=a3,cl:=c3,aj:=a4,cj:=c4,as_:=a5,cs:=c5,ar:=a6,cr:=c6 }) 57∧Cells X (w.heap.size + 1) #[.int .i64 0,.int .i64 0,.slice none 0 0,.slice none 0 0,.slice none 0 0,.slice none 0 0,.slice none 0 0,.int .i64 0,.slice none 0 0,.int .i64 0,.int .i64 0,.int .i64 0,.slice none 0 0] 57∧Below w.heap.size w X) (fun _ _ _ ix _ _ => S.post.routes.length - (intOf ix).toNat)
 case atStart => exact ⟨0,vr,Nat.zero_le _,rfl,o6,R6,Shows.refl _,C3,D1,b3⟩
 case round =>
  obtain ⟨X0,hX0⟩:∃ x:World,x=wr:=⟨_,rfl⟩
  subst hX0
  obtain ⟨i,vx,hi,rfl,own,rows,sh,CX,DX,bX⟩:=hrel
  have x6:=CX.cell 6
  simp at x6
  have lX:=CX.lt
  have dX:=DX.lt
  by_cases hlt:i < S.post.routes.length
  ·have hltI:(i:Int) < (S.post.routes.length:Int):=by omega
   have iw:IntKind.i64.wrap ((i:Int) + 1)=(i:Int) + 1:=IntWalk.i64_in _ (by omega)
   have hi0:(0:Int)≤(i:Int):=by omega
   have hlegs:=F.legs _ (List.getElem_mem hlt)
   obtain ⟨al,cl,ec,hl,nl0⟩:=rows.2 i hlt
   generalize hls:S.post.routes[i].legs=ls at hl ec hlegs
   generalize hly:S.post.routes[i].lossy=ly at ec
   have ha6:a6=some ⟨gr,0,none⟩:=by
    cases h6:a6 with
    | none => rw [h6] at own;have:=own.isnil;omega
    | some x => rw [hgr3 x h6]
   subst ha6
   have hcap:=own.capped
   have lv:=own.len
   obtain ⟨vg,rg,sg⟩:=hl
   have hu:=zLd ec (j:=0) (by omega) rfl
   have cu:=own.at_ hu
   simp only [Nat.add_zero] at cu hu
   have fu:=(own.room (j:=i * 2) (by omega)).2
   have ng:=zDe ⟨vg,rg,sg⟩ (by omega) nl0
   have og:=rg.one oneL (by omega)
   have hWgr:W2.heap.size≤gr:=hcap.2.2.1
   have lgX:gr < X0.heap.size:=hcap.2.2.2
   go_wp2_with fail
   go_at_call 144
   refine (zHP al ls.length cl vg X0 (sg.shows (zBD _ _)) rg.1 ng og (by omega)).mono ?_
   rintro e X1 ⟨⟨a7,c7,rfl,o7⟩,hb1⟩
   have own1:=own.kept hb1
   have fu1:=(own1.room (j:=i * 2) (by omega)).2
   have cu1:=zAA hb1 cu
   have lg1:=Nat.lt_of_lt_of_le lX hb1.size
   clear fu cu
   go_upto_region 8 with fail
   obtain ⟨X2,hX⟩:∃ x:World,x=X1.setCell ⟨gr,i * 2,none⟩ (.slice a7 ls.length c7):=⟨_,rfl⟩
   have k7:KeepG gr X1 X2:=by rw [hX];exact (KeepG.refl (Nat.lt_of_lt_of_le lgX hb1.size)).set _ _
   have o2:OwnL 150 2 W2.heap.size X2 (some ⟨gr,0,none⟩) c6 S.post.routes.length (vx.set (i * 2) (.slice a7 ls.length c7)):=by rw [hX];exact own1.setV (by omega) _
   rw [← hX]
   clear hX own1 cu1 fu1
   have kX:KeepG gr X0 X2:=(KeepG.of lgX hb1).trans k7
   replace o7:=o7.keepG lgX k7
   have CX2:=(CX.keepG kX (by omega))
   have DX2:=(DX.keepG kX (by omega))
   have bX2:Below w.heap.size w X2:=bX.trans (kX.under (by omega))
   obtain ⟨gl,hgl⟩:∃ gl,zPe gr a7=gl:=⟨_,rfl⟩
   have hgl2:gl=gr∨X0.heap.size≤gl:=by
    cases a7 with
    | none => exact .inl hgl.symm
    | some x => exact .inr (by rw [← hgl];exact (o7.low x rfl).1)
   have hgl3:∀ x,a7=some x→x=⟨gl,0,none⟩∧X0.heap.size≤gl:=fun x hx => by
    subst hx
    have:=o7.low x rfl
    rw [this.2.2,← hgl]
    exact ⟨rfl,this.1⟩
   have shX:Shows (hidL [bx,bz,w.heap.size,w.heap.size + 1,gr] X0) (hidL [bx,bz,w.heap.size,w.heap.size + 1,gr,gl] X2):=zAn kX.size fun k hk hn => by
    have hn9:=hn
    have hn:=zOp hn
    refine ⟨by simp at hn9;simp;omega,?_⟩
    have:=kX.below.block k hk
    rwa [zAG X0 hn.2,zAG X2 hn.2] at this
   have RG:zAY 3 RL (hidL [bx,bz,w.heap.size,w.heap.size + 1,gr,gl] X2) vg ls:=rg.shows zJY shX
   have hn5:(ls.length:Int)≤3:=by omega
   have c0:=o2.at_ (j:=i * 2) (u:=.slice a7 ls.length c7) (by rw [List.getElem?_set_self (by omega)])
   have lgX2:=Nat.lt_of_lt_of_le lgX kX.size
   clear rg sg hcap
   go_wp2_with fail
   go_loopw [5,61] (fun _ ix Y => ∃ (k:Nat) (vy:List Value),k≤ls.length∧ix=.int .i64 k∧OwnL 147 3 X0.heap.size Y a7 c7 ls.length vy∧zAY 3 RL (hidL [bx,bz,w.heap.size,w.heap.size + 1,gr,gl] Y) vy ls∧OwnL 150 2 W2.heap.size Y (some ⟨gr,0,none⟩) c6 S.post.routes.length (vx.set (i * 2) (.slice a7 ls.length c7))∧Shows (hidL [bx,bz,w.heap.size,w.heap.size + 1,gr] X0) (hidL [bx,bz,w.heap.size,w.heap.size + 1,gr,gl] Y)∧Cells Y w.heap.size (zAW S { A with ak:=a1,ck:=c1,ad:=a2,cd:=c2,al:=a3,cl:=c3,aj:=a4,cj:=c4,as_:=a5,cs:=c5,ar:=some ⟨gr,0,none⟩,cr:=c6 }) 57∧Cells Y (w.heap.size + 1) #[.int .i64 0,.int .i64 0,.slice none 0 0,.slice none 0 0,.slice none 0 0,.slice none 0 0,.slice none 0 0,.int .i64 0,.slice none 0 0,.int .i64 0,.int .i64 0,.int .i64 0,.slice none 0 0] 57∧Below w.heap.size w Y∧X0.heap.size≤Y.heap.size) (fun _ ix _ => ls.length - (intOf ix).toNat)
   case atStart => exact ⟨0,vg,Nat.zero_le _,rfl,o7,RG,o2,shX,CX2,DX2,bX2,kX.size⟩
   case round =>
    obtain ⟨k,vy,hk,rfl,oy,RY,oR,shY,CY,DY,bY,zY⟩:=hrel
    have dY:=DY.lt
    by_cases hkl:k < ls.length
    ·have hklI:(k:Int) < (ls.length:Int):=by omega
     have iwk:IntKind.i64.wrap ((k:Int) + 1)=(k:Int) + 1:=IntWalk.i64_in _ (by omega)
     have hk0:(0:Int)≤(k:Int):=by omega
     have ha7:a7=some ⟨gl,0,none⟩∧X0.heap.size≤gl:=by
      cases h7:a7 with
      | none => rw [h7] at oy;have:=oy.isnil;omega
      | some x => exact ⟨by rw [(hgl3 x h7).1],(hgl3 x h7).2⟩
     obtain ⟨ha7,hgl4⟩:=ha7
     subst ha7
     have hasl:ls[k].asl.length≤2:=by subst hls;exact F.asl _ (List.getElem_mem hlt) _ (List.getElem_mem hkl)
     obtain ⟨aa_,ca,ek,hra,nla⟩:=RY.2 k hkl
     obtain ⟨va,rva,sva⟩:=zNw hra
     have na:=zDe (zNw hra) (by omega) nla
     obtain ⟨lo,hlo⟩:∃ q,ls[k].lo=q:=⟨_,rfl⟩
     obtain ⟨hi_,hhi⟩:∃ q,ls[k].hi=q:=⟨_,rfl⟩
     obtain ⟨zs,has⟩:∃ q,ls[k].asl=q:=⟨_,rfl⟩
     rw [has] at hasl rva na
     rw [hlo,hhi,has] at ek
     have Hlo:=Lib.hid hlo
     have Hhi:=Lib.hid hhi
     have Has:=Lib.hid has
     clear hlo hhi has hra
     have oa:=rva.one oneP (by omega)
     have c2:=oy.at_ (zLd ek (j:=2) (by omega) rfl)
     have c0:=oR.at_ (j:=i * 2) (u:=.slice (some ⟨gl,0,none⟩) ls.length c7) (by rw [List.getElem?_set_self (by omega)])
     have lgr':=oR.capped.2.2.2
     have lgl':=oy.capped.2.2.2
     have hcy:=oy.capped.1
     have hly2:=oy.len
     go_upto_region 11 with fail
     (refine zAD 16 [] [16] 110 [true,true,true,true,true,true,true,true,true,true,true,true,true,false,true,true] [OwnV 70 2 wr.heap.size zs.length va] (by kernel_rfl) (by kernel_rfl) rfl (zAB (fun v w w' h hb => h.kept hb) zAR) ?_;simp only [zAU,List.filterMap_cons,List.filterMap_nil,zzH,zzI,zzJ];(repeat (refine zAM _ rfl (fun w => (by go_simp;rfl)) ?_));refine zAS ?_;simp only [zAF,zAt,Act.put,zzG,zzE,zzF,zzA,zzB,zzC,zzD];(repeat (refine zAL (fun K hK => ?_);go_simp;first | (refine hK _ ?_;clear hK K) | (apply Exists.intro;refine ⟨fun ex => ?_,hK _ ?_⟩;(fail);clear hK K)));refine zAQ ?_;simp only [zAT,under,zAZ,and_true,List.nil_append,List.cons_append])
     refine ⟨fun e => ?_,fun e => ?_⟩
     ·go_simp
      refine (zGg aa_ zs.length ca va e.to (zAO (sva.shows (zBD _ _)) e.below) rva.1 na oa (by omega)).mono ?_
      rintro _ _ ⟨⟨a',c',rfl,o⟩,b⟩
      exact ⟨b,a',c',rfl,o.base_le e.size⟩
     rintro v1 ⟨a8,c8,rfl,o8⟩
     simp only [Act.put,zzG,zzE,zzF]
     have heb:=e.below
     obtain ⟨V,hV⟩:∃ x:World,x=e.to:=⟨_,rfl⟩
     rw [← hV] at heb o8 ⊢
     clear hV e
     have oyV:=oy.kept heb
     have c2V:=zAA heb c2
     have f2V:=(oyV.room (j:=k * 3 + 2) (by omega)).2
     go_upto_region 12 with fail
     obtain ⟨Y2,hY⟩:∃ x:World,x=V.setCell ⟨gl,k * 3 + 2,none⟩ (.slice a8 zs.length c8):=⟨_,rfl⟩
     have hgg:w.heap.size≠gl:=by omega
     have hgg2:w.heap.size + 1≠gl:=by have:=Hz1.out;omega
     have lglV:=oyV.capped.2.2.2
     have k8:KeepG gl V Y2:=by rw [hY];exact (KeepG.refl lglV).set _ _
     have oy2:OwnL 147 3 X0.heap.size Y2 (some ⟨gl,0,none⟩) c7 ls.length (vy.set (k * 3 + 2) (.slice a8 zs.length c8)):=by rw [hY];exact oyV.setV (by omega) _
     have oR2:OwnL 150 2 W2.heap.size Y2 (some ⟨gr,0,none⟩) c6 S.post.routes.length (vx.set (i * 2) (.slice (some ⟨gl,0,none⟩) ls.length c7)):=by rw [hY];exact zDL (oR.kept heb) (by show gl≠gr;omega) _
     rw [← hY]
     clear hY oyV c2V f2V
     have kY:KeepG gl wr Y2:=(KeepG.of lgl' heb).trans k8
     have sY:Shows (hidL [bx,bz,w.heap.size,w.heap.size + 1,gr,gl] wr) (hidL [bx,bz,w.heap.size,w.heap.size + 1,gr,gl] Y2):=zAn kY.size fun j hj hn => by
      refine ⟨hn,?_⟩
      have hn2:j≠gl:=fun e => hn (by rw [e];simp)
      have:=kY.below.block j hj
      rwa [zAG wr hn2,zAG Y2 hn2] at this
     have RY2:zAY 3 RL (hidL [bx,bz,w.heap.size,w.heap.size + 1,gr,gl] Y2) (vy.set (k * 3 + 2) (.slice a8 zs.length c8)) ls:=by
      have r0:=RY.shows zJY sY
      have r1:=r0.put (f:=id) (vs':=vy.set (k * 3 + 2) (.slice a8 zs.length c8)) (i:=k) (by rw [List.length_set]) (fun j hj => by rw [List.getElem?_set_ne (by omega)]) fun hk => by
       have o9:=o8.keepG lgl' k8
       refine ⟨a8,c8,?_,?_,fun e => by subst e;exact zBY o9⟩
       ·rw [List.drop_set,if_neg (by omega),show k * 3 + 2 - k * 3=2 by omega,List.take_set,ek]
        simp only [id,Hlo.out,Hhi.out,Has.out];rfl
       ·simp only [id,Has.out]
        exact (zAI.own (o9.hid fun x hx => by have:=(o9.low x hx).1;simp;omega) (rva.shows zJX (Shows.refl _):zAY 2 RP _ va zs)).atP
      rwa [List.modify_id] at r1
     have CY2:=CY.keepG kY (by omega)
     have DY2:=DY.keepG kY (by omega)
     have bY2:Below w.heap.size w Y2:=bY.trans (kY.under (by omega))
     have sY2:=shY.trans sY
     have zY2:=Nat.le_trans zY kY.size
     clear RY shY CY DY oR oy c0 c2 sY
     go_wp2_with fail
     go_round
     case rel => exact ⟨k + 1,_,by omega,by go_num,oy2,RY2,oR2,sY2,CY2,DY2,bY2,zY2⟩
     case measure => simp [intOf];omega
    ·obtain rfl:k=ls.length:=by omega
     have rows2:zAY 2 RR (hidL [bx,bz,w.heap.size,w.heap.size + 1,gr] wr) (vx.set (i * 2) (.slice a7 ls.length c7)) S.post.routes:=by
      have sl:Shows (hidL [bx,bz,w.heap.size,w.heap.size + 1,gr,gl] wr) (hidL [bx,bz,w.heap.size,w.heap.size + 1,gr] wr):=zBe wr (by simp)
      have r0:=rows.shows zGT (shY.trans sl)
      have r1:=r0.put (f:=id) (vs':=vx.set (i * 2) (.slice a7 ls.length c7)) (i:=i) (by rw [List.length_set]) (fun j hj => by rw [List.getElem?_set_ne (by omega)]) fun hk => by
       refine ⟨a7,c7,?_,?_,fun e => by subst e;exact zBY oy⟩
       ·rw [List.drop_set,if_neg (by omega),Nat.sub_self,List.take_set,ec]
        simp only [id,hls,hly];rfl
       ·simp only [id,hls]
        exact zAI.own (oy.hid fun x hx => by
         have:=hgl3 x hx
         rw [this.1]
         have:=this.2
         simp;omega) (RY.shows zJY sl)
      rwa [List.modify_id] at r1
     have sh2:=sh.trans (shY.trans (zBe wr (bs':=[bx,bz,w.heap.size,w.heap.size + 1,gr]) (by simp)))
     clear rows sh RY shY oy
     go_wp2_with fail
     go_round
     case rel => exact ⟨i + 1,_,by omega,by go_num,oR,rows2,sh2,CY,DY,bY⟩
     case measure => simp [intOf];omega
  ·obtain rfl:i=S.post.routes.length:=by omega
   have LR:zAI 2 RR (hidL [bx,bz,w.heap.size,w.heap.size + 1] X0) a6 S.post.routes:=zAI.own (own.hid fun x hx => by have:=(own.low x hx).1;simp;omega) (rows.shows zGT (zBe _ (by simp)))
   have N6:=N5.shows (sh.trans (zBe X0 (bs':=[bx,bz,w.heap.size,w.heap.size + 1]) (by simp)))
   have nr6:a6=none→c6=0:=fun e => by subst e;exact zBY own
   have x12:=CX.cell 12
   simp at x12
   clear rows sh N5 R6 own C3 D1 q6 o6
   go_wp2_with fail
   go_at_call 146
   refine (zHR A.aa S.ds.length A.ca vp X0 (zAO sp bX) rp.1 np (rp.one oneD (by omega)) (by omega)).mono ?_
   rintro e X1 ⟨⟨a9,c9,rfl,o9⟩,hb1⟩
   have CX1:=CX.below hb1
   have y12:=CX1.cell 12
   simp at y12
   have f12:=CX1.frozen 12
   have lX1:=CX1.lt
   go_upto_region 15 with fail
   obtain ⟨X2,hX⟩:∃ x:World,x=X1.setCell ⟨w.heap.size,12,none⟩ (.slice a9 S.ds.length c9):=⟨_,rfl⟩
   have k2:KeepG w.heap.size X1 X2:=by rw [hX];exact (KeepG.refl lX1).set 12 _
   have C2:Cells X2 w.heap.size (zAW S { A with ak:=a1,ck:=c1,ad:=a2,cd:=c2,al:=a3,cl:=c3,aj:=a4,cj:=c4,as_:=a5,cs:=c5,ar:=a6,cr:=c6,aa:=a9,ca:=c9 }) 57:=by rw [hX];exact CX1.set 12 _
   rw [← hX]
   clear hX CX1 y12 f12 x12
   have kX:KeepG w.heap.size X0 X2:=(KeepG.of lX hb1).trans k2
   replace o9:=o9.keepG lX k2
   have D2:=DX.keepG kX (by omega)
   have b2:Below w.heap.size w X2:=bX.trans (kX.under (Nat.le_refl _))
   obtain ⟨gd,hgd⟩:∃ gd,zPe w.heap.size a9=gd:=⟨_,rfl⟩
   have hgd2:gd=w.heap.size∨X0.heap.size≤gd:=by
    cases a9 with
    | none => exact .inl hgd.symm
    | some x => exact .inr (by rw [← hgd];exact (o9.low x rfl).1)
   have hgd3:∀ x,a9=some x→x=⟨gd,0,none⟩∧X0.heap.size≤gd:=fun x hx => by
    subst hx
    have:=o9.low x rfl
    rw [this.2.2,← hgd]
    exact ⟨rfl,this.1⟩
   have sh0:Shows (hidL [bx,bz,w.heap.size,w.heap.size + 1] X0) (hidL [bx,bz,w.heap.size,w.heap.size + 1,gd] X2):=zAn kX.size fun j hj hn => by
    have hn1:j≠w.heap.size:=by simp at hn;omega
    have hn9:=hn
    refine ⟨by simp at hn9;simp;omega,?_⟩
    have:=kX.below.block j hj
    rwa [zAG X0 hn1,zAG X2 hn1] at this
   have R9:zAY 4 RD (hidL [bx,bz,w.heap.size,w.heap.size + 1,gd] X2) vp S.ds:=rp.shows zH8 (zAn b2.size fun j hj hn => ⟨by simp at hn;simp;omega,b2.block j hj⟩)
   have s12:=C2.cell 12
   simp at s12
   have l2:=C2.lt
   have fp0:(S.ds.length:Int)≤6:=by omega
   go_wp2_with fail
   go_loopw [6,7,92] (fun _ _ ix Z => ∃ (i:Nat) (vz:List Value),i≤S.ds.length∧ix=.int .i64 i∧OwnL 192 4 X0.heap.size Z a9 c9 S.ds.length vz∧zAY 4 RD (hidL [bx,bz,w.heap.size,w.heap.size + 1,gd] Z) vz S.ds∧Shows (hidL [bx,bz,w.heap.size,w.heap.size + 1] X0) (hidL [bx,bz,w.heap.size,w.heap.size + 1,gd] Z)∧Cells Z w.heap.size (zAW S { A with ak:=a1,ck:=c1,ad:=a2,cd:=c2,al:=a3,cl:=c3,aj:=a4,cj:=c4,as_:=a5,cs:=c5,ar:=a6,cr:=c6,aa:=a9,ca:=c9 }) 57∧Cells Z (w.heap.size + 1) #[.int .i64 0,.int .i64 0,.slice none 0 0,.slice none 0 0,.slice none 0 0,.slice none 0 0,.slice none 0 0,.int .i64 0,.slice none 0 0,.int .i64 0,.int .i64 0,.int .i64 0,.slice none 0 0] 57∧Below w.heap.size w Z∧X0.heap.size≤Z.heap.size) (fun _ _ ix _ => S.ds.length - (intOf ix).toNat)
   case atStart => exact ⟨0,vp,Nat.zero_le _,rfl,o9,R9,sh0,C2,D2,b2,kX.size⟩
   case round =>
    obtain ⟨i,vz,hi,rfl,oz,RZ,sZ,CZ,DZ,bZ,zZ⟩:=hrel
    have dZ:=DZ.lt
    have z12:=CZ.cell 12
    simp at z12
    have lZ:=CZ.lt
    by_cases hlt2:i < S.ds.length
    ·have hltI:(i:Int) < (S.ds.length:Int):=by omega
     have iw:IntKind.i64.wrap ((i:Int) + 1)=(i:Int) + 1:=IntWalk.i64_in _ (by omega)
     have hi0:(0:Int)≤(i:Int):=by omega
     have ha9:a9=some ⟨gd,0,none⟩∧X0.heap.size≤gd:=by
      cases h9:a9 with
      | none => rw [h9] at oz;have:=oz.isnil;omega
      | some x => exact ⟨by rw [(hgd3 x h9).1],(hgd3 x h9).2⟩
     obtain ⟨ha9,hgd4⟩:=ha9
     subst ha9
     have hps:=F.passed _ (List.getElem_mem hlt2)
     obtain ⟨ap,cp,ec,hp,hple,npl⟩:=RZ.2 i hlt2
     obtain ⟨D,hD⟩:∃ D,S.ds[i]=D:=⟨_,rfl⟩
     rw [hD] at hps ec hp hple
     have HD:=Lib.hid hD
     clear hD
     obtain ⟨vi,ri,si⟩:=zNx hp
     have ni:=zDe (zNx hp) (by omega) npl
     have gc:=oz.at_ (zLd ec (j:=3) (by omega) rfl)
     have hcz:=oz.capped
     have lvz:=oz.len
     have lgd:=hcz.2.2.2
     go_wp2_with fail
     go_at_call 132
     refine (zFP ap D.passed.length cp vi wr (si.shows (zBD _ _)) ri.1 ni (ri.one oneI (by omega)) (by omega)).mono ?_
     rintro e Z1 ⟨⟨a10,c10,rfl,o10⟩,hbz⟩
     have ozV:=oz.kept hbz
     have gcV:=zAA hbz gc
     have fV:=(ozV.room (j:=i * 4 + 3) (by omega)).2
     have lgdV:=ozV.capped.2.2.2
     go_upto_region 20 with fail
     obtain ⟨Z2,hZ⟩:∃ x:World,x=Z1.setCell ⟨gd,i * 4 + 3,none⟩ (.slice a10 D.passed.length c10):=⟨_,rfl⟩
     have k8:KeepG gd Z1 Z2:=by rw [hZ];exact (KeepG.refl lgdV).set _ _
     have oz2:OwnL 192 4 X0.heap.size Z2 (some ⟨gd,0,none⟩) c9 S.ds.length (vz.set (i * 4 + 3) (.slice a10 D.passed.length c10)):=by rw [hZ];exact ozV.setV (by omega) _
     rw [← hZ]
     clear hZ ozV gcV fV
     have kZ:KeepG gd wr Z2:=(KeepG.of lgd hbz).trans k8
     have o11:=o10.keepG lgd k8
     have sZ1:Shows (hidL [bx,bz,w.heap.size,w.heap.size + 1,gd] wr) (hidL [bx,bz,w.heap.size,w.heap.size + 1,gd] Z2):=zAn kZ.size fun j hj hn => by
      refine ⟨hn,?_⟩
      have hn2:=zOp hn
      have:=kZ.below.block j hj
      rwa [zAG wr hn2.2,zAG Z2 hn2.2] at this
     have RZ2:zAY 4 RD (hidL [bx,bz,w.heap.size,w.heap.size + 1,gd] Z2) (vz.set (i * 4 + 3) (.slice a10 D.passed.length c10)) S.ds:=by
      have r0:=RZ.shows zH8 sZ1
      have r1:=r0.put (f:=id) (vs':=vz.set (i * 4 + 3) (.slice a10 D.passed.length c10)) (i:=i) (by rw [List.length_set]) (fun j hj => by rw [List.getElem?_set_ne (by omega)]) fun hk => by
       refine ⟨a10,c10,?_,?_,by simp only [id,HD.out];exact o11.fits.1,fun e => by subst e;exact zBY o11⟩
       ·rw [List.drop_set,if_neg (by omega),show i * 4 + 3 - i * 4=3 by omega,List.take_set,ec]
        simp only [id,HD.out];rfl
       ·simp only [id,HD.out]
        exact (zAI.own (o11.hid fun x hx => by have:=(o11.low x hx).1;simp;omega) (ri.shows zF1 (Shows.refl _):zAY 1 RI _ vi D.passed)).atI
      rwa [List.modify_id] at r1
     have CZ2:=CZ.keepG kZ (by omega)
     have DZ2:=DZ.keepG kZ (by have:=DX.lt;omega)
     have bZ2:Below w.heap.size w Z2:=bZ.trans (kZ.under (by omega))
     have sZ2:=sZ.trans sZ1
     have zZ2:=Nat.le_trans zZ kZ.size
     clear RZ sZ CZ DZ oz gc sZ1
     go_wp2_with fail
     go_round
     case rel => exact ⟨i + 1,_,by omega,by go_num,oz2,RZ2,sZ2,CZ2,DZ2,bZ2,zZ2⟩
     case measure => simp [intOf];omega
    ·obtain rfl:i=S.ds.length:=by omega
     have LD:zAI 4 RD (hidL [bx,bz,w.heap.size,w.heap.size + 1] wr) a9 S.ds:=zAI.own (oz.hid fun x hx => by have:=(oz.low x hx).1;simp;omega) (RZ.shows zH8 (zBe _ (by simp)))
     have n9:a9=none→c9=0:=fun e => by subst e;exact zBY oz
     have so:Shows (hidL [bx,bz,w.heap.size,w.heap.size + 1] X0) (hidL [bx,bz,w.heap.size,w.heap.size + 1] wr):=sZ.trans (zBe _ (by simp))
     have N7:=N6.shows so
     have LR2:=LR.shows zGT so
     have q0:=CZ.cell 0
     have r0:=DZ.cell 0
     have t0:=DZ.frozen 0
     have q1:=CZ.cell 1
     have r1:=DZ.cell 1
     have t1:=DZ.frozen 1
     have q2:=CZ.cell 2
     have r2:=DZ.cell 2
     have t2:=DZ.frozen 2
     have q3:=CZ.cell 3
     have r3:=DZ.cell 3
     have t3:=DZ.frozen 3
     have q4:=CZ.cell 4
     have r4:=DZ.cell 4
     have t4:=DZ.frozen 4
     have q5:=CZ.cell 5
     have r5:=DZ.cell 5
     have t5:=DZ.frozen 5
     have q6:=CZ.cell 6
     have r6:=DZ.cell 6
     have t6:=DZ.frozen 6
     have q7:=CZ.cell 7
     have r7:=DZ.cell 7
     have t7:=DZ.frozen 7
     have q8:=CZ.cell 8
     have r8:=DZ.cell 8
     have t8:=DZ.frozen 8
     have q9:=CZ.cell 9
     have r9:=DZ.cell 9
     have t9:=DZ.frozen 9
     have q10:=CZ.cell 10
     have r10:=DZ.cell 10
     have t10:=DZ.frozen 10
     have q11:=CZ.cell 11
     have r11:=DZ.cell 11
     have t11:=DZ.frozen 11
     have q12:=CZ.cell 12
     have r12:=DZ.cell 12
     have t12:=DZ.frozen 12
     simp at q0 r0 q1 r1 q2 r2 q3 r3 q4 r4 q5 r5 q6 r6 q7 r7 q8 r8 q9 r9 q10 r10 q11 r11 q12 r12
     have lD:=DZ.lt
     clear z12
     go_wp2_with fail
     refine bodyPost_ret (zBR rfl rfl (zCG (zB3 DZ) rfl)) rfl ⟨{ A with ak:=a1,ck:=c1,ad:=a2,cd:=c2,al:=a3,cl:=c3,aj:=a4,cj:=c4,as_:=a5,cs:=c5,ar:=a6,cr:=c6,aa:=a9,ca:=c9 },rfl,?_,?_⟩
     all_goals
      have kF:=(((((((((((((KeepG.refl lD).set 0 (.int .i64 S.size)).set 1 (.int .i64 S.words)).set 2 (.slice a1 S.keys.length c1)).set 3 (.slice a2 S.days.length c2)).set 4 (.slice a3 S.lost.length c3)).set 5 (.slice a5 S.post.sends.length c5)).set 6 (.slice a6 S.post.routes.length c6)).set 7 (.int .i64 S.post.pat)).set 8 (.slice a4 S.journal.length c4)).set 9 (.int .i64 7)).set 10 (.int .i64 S.rate)).set 11 (.int .i64 S.keeps)).set 12 (.slice a9 S.ds.length c9)
     ·generalize ((((((((((((wr.setCell ⟨w.heap.size + 1,0,none⟩ (.int .i64 S.size)).setCell ⟨w.heap.size + 1,1,none⟩ (.int .i64 S.words)).setCell ⟨w.heap.size + 1,2,none⟩ (.slice a1 S.keys.length c1)).setCell ⟨w.heap.size + 1,3,none⟩ (.slice a2 S.days.length c2)).setCell ⟨w.heap.size + 1,4,none⟩ (.slice a3 S.lost.length c3)).setCell ⟨w.heap.size + 1,5,none⟩ (.slice a5 S.post.sends.length c5)).setCell ⟨w.heap.size + 1,6,none⟩ (.slice a6 S.post.routes.length c6)).setCell ⟨w.heap.size + 1,7,none⟩ (.int .i64 S.post.pat)).setCell ⟨w.heap.size + 1,8,none⟩ (.slice a4 S.journal.length c4)).setCell ⟨w.heap.size + 1,9,none⟩ (.int .i64 7)).setCell ⟨w.heap.size + 1,10,none⟩ (.int .i64 S.rate)).setCell ⟨w.heap.size + 1,11,none⟩ (.int .i64 S.keeps)).setCell ⟨w.heap.size + 1,12,none⟩ (.slice a9 S.ds.length c9)=FX at kF ⊢
      have sF:Shows (hidL [bx,bz,w.heap.size,w.heap.size + 1] wr) (hidL [bx,bz] FX):=zAn kF.size fun j hj hn => by
       have hn2:j≠w.heap.size + 1:=by simp at hn;omega
       refine ⟨by simp at hn;simp;omega,?_⟩
       have:=kF.below.block j hj
       rwa [zAG wr hn2,zAG FX hn2] at this
      have N8:=N7.shows sF
      exact ⟨N8.keys,N8.days,N8.lost,N8.sends,LR2.shows zGT sF,N8.journal,LD.shows zH8 sF,n1,n2,n3,n5,nr6,n4,n9⟩
     ·exact bZ.trans (kF.under (by omega))
end Go.Proofs.YticjeianiahppaaGreatDoor
