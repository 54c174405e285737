/- The session book: contracts of the program and of the laws' helpers, joined (Cob, Cp, Cq). -/
import Derived.Test.YticjeianiahppaaGreatDoorBC
set_option linter.unusedVariables false
set_option linter.unusedSimpArgs false
set_option linter.unnecessarySimpa false
set_option maxRecDepth 100000
set_option maxHeartbeats 40000000
namespace Go.Proofs.YticjeianiahppaaGreatDoor.Cps
open Go.RowKit Go.Flow Go.Shelf
def zDI (p:Post) (l:List Ent):Option (List Int):=zB5 p l p.sends.length 0 0
def zLO:Option (List Int)→Ending→World→Prop
 | none,e,_ => e=.returned (.tuple #[.slice none 0 0,.bool false])
 | some z,e,w' => ∃ a c,e=.returned (.tuple #[.slice a z.length c,.bool true])∧IntsAt w' a z
theorem zGX (p:Post) (l:List Ent) (a:Option Addr) (c:Nat) (ar:Option Addr) (cr Bw:Nat) (al:Option Addr) (cl:Nat) (w:World) (hw:zBt p a c ar cr Bw w) (hs:IntsAt w a p.sends) (hr:zAb w ar p.routes) (he:zCX w al l) (h0:zA4 p=0) (ll:l.length≤1000) :
  Calls Tryz.prog 95 #[.pointer (some ⟨Bw,0,none⟩),.slice al l.length cl] w fun e w' => zLO (zDI p l) e w'∧Below w.heap.size w w':=by
 have mk:∀ W,Sem.run Tryz.prog (Instr.makeMap 271 none) W=.ok (.map (some W.heap.size)) (W.alloc (.map #[] 0)):=fun W => by kernel_rfl
 obtain ⟨W0,hW0⟩:∃ z:World,z=(w.alloc (.cells #[.pointer (some ⟨Bw,0,none⟩)] 166)).alloc (.cells #[.slice al l.length cl] 52):=⟨_,rfl⟩
 have b0:Below w.heap.size w W0:=by rw [hW0];exact ((Below.refl _ _).alloc (Nat.le_refl _) _).alloc (by simp) _
 have z0:W0.heap.size=w.heap.size + 1 + 1:=by rw [hW0];simp
 have S0:Sta p l a c ar cr Bw al cl w.heap.size (w.heap.size + 1) W0:=by
  refine ⟨hw.below b0,hs.below b0,hr.below b0,he.below b0,?_,?_⟩
  ·have h:Cells W0 w.heap.size #[.pointer (some ⟨Bw,0,none⟩)] 166:=by rw [hW0];exact (Cells.new _ _ _).alloc _
   have:=h.cell 0;simpa using this
  ·have h:Cells W0 (w.heap.size + 1) #[.slice al l.length cl] 52:=by rw [hW0];exact Cells.new' _ _ _ _ (by simp)
   have:=h.cell 0;simpa using this
 obtain ⟨W1,hW1⟩:∃ z:World,z=(((W0.alloc (.cells #[.slice none 0 0] 22)).alloc (.map #[] 0)).alloc (.cells #[.map (some (w.heap.size + 1 + 1 + 1))] 271)).alloc (.cells #[.func (.func 160) #[] #[.pointer (some ⟨w.heap.size,0,none⟩),.pointer (some ⟨w.heap.size + 1 + 1,0,none⟩),.pointer (some ⟨w.heap.size + 1 + 1 + 1 + 1,0,none⟩),.pointer (some ⟨w.heap.size + 1,0,none⟩),.pointer (some ⟨w.heap.size + 1 + 1 + 1 + 1 + 1,0,none⟩)]] 272):=⟨_,rfl⟩
 have b1:Below W0.heap.size W0 W1:=by rw [hW1];exact ((((Below.refl _ _).alloc (Nat.le_refl _) _).alloc (by simp) _).alloc (by simp;omega) _).alloc (by simp;omega) _
 have cF:Cells W1 (w.heap.size + 1 + 1) #[.slice none 0 0] 22:=by rw [hW1];exact (((Cells.new' _ _ _ _ z0.symm).alloc _).alloc _).alloc _
 have cD:Cells W1 (w.heap.size + 1 + 1 + 1 + 1) #[.map (some (w.heap.size + 1 + 1 + 1))] 271:=by rw [hW1];exact (Cells.new' _ _ _ _ (by simp;omega)).alloc _
 have cN:Cells W1 (w.heap.size + 1 + 1 + 1 + 1 + 1) #[.func (.func 160) #[] #[.pointer (some ⟨w.heap.size,0,none⟩),.pointer (some ⟨w.heap.size + 1 + 1,0,none⟩),.pointer (some ⟨w.heap.size + 1 + 1 + 1 + 1,0,none⟩),.pointer (some ⟨w.heap.size + 1,0,none⟩),.pointer (some ⟨w.heap.size + 1 + 1 + 1 + 1 + 1,0,none⟩)]] 272:=by rw [hW1];exact Cells.new' _ _ _ _ (by simp;omega)
 have D1:zBW W1 (w.heap.size + 1 + 1 + 1) 0 (fun i f => zB5 p l (p.sends.length - i) i f=none):=by
  have h:=zBW.made (W0.alloc (.cells #[.slice none 0 0] 22)) (fun i f => zB5 p l (p.sends.length - i) i f=none)
  rw [show (W0.alloc (.cells #[.slice none 0 0] 22)).heap.size=w.heap.size + 1 + 1 + 1 by simp;omega] at h
  rw [hW1]
  exact h.below (((Below.refl _ _).alloc (Nat.le_refl _) _).alloc (by simp) _)
 have S1:SAt W0.heap.size W0 w.heap.size (w.heap.size + 1 + 1) (w.heap.size + 1 + 1 + 1 + 1) (w.heap.size + 1) (w.heap.size + 1 + 1 + 1 + 1 + 1) (w.heap.size + 1 + 1 + 1) W1:=by
  refine ⟨b1,?_,?_,⟨.slice none 0 0,?_⟩,cF.frozen 0⟩
  ·have:=cD.cell 0;simpa using this
  ·have:=cN.cell 0;simpa using this
  ·have:=cF.cell 0;simpa using this
 have n4:=(zAi h0).1
 have hnx:=zNn p l a c ar cr Bw al cl w.heap.size (w.heap.size + 1 + 1) (w.heap.size + 1 + 1 + 1 + 1) (w.heap.size + 1) (w.heap.size + 1 + 1 + 1 + 1 + 1) (w.heap.size + 1 + 1 + 1) W0 S0 h0 ll (by omega) (by omega) (by omega)
  p.sends.length 0 0 [] none 0 0 W1 (by omega) (by omega) rfl (IntsAt.nil _ _) (fun _ => ⟨rfl,rfl⟩) (fun off h => by cases h) S1 D1 (by have:=zOV n4;unfold maxLen;omega)
 rw [show ((0:Nat):Int)=0 from rfl,List.length_nil] at hnx
 obtain ⟨o,ho⟩:∃ o,zDI p l=o:=⟨_,rfl⟩
 rw [show zB5 p l p.sends.length 0 0=o from ho] at hnx
 rw [ho]
 have kf0:W1.cell? ⟨w.heap.size + 1 + 1,0,none⟩=some (.slice none 0 0):=by have:=cF.cell 0;simpa using this
 clear D1 S1 S0 cD cN cF ho
 have kn0:W1.cell? ⟨w.heap.size + 1 + 1 + 1 + 1 + 1,0,none⟩=W1.cell? ⟨w.heap.size + 1 + 1 + 1 + 1 + 1,0,none⟩:=rfl
 go_enter Tryz.func95,Tryz.ntmps95
 cases o with
 | none =>
  go_wp2_with fail
  rw [← hW0,← hW1]
  clear hW0 hW1
  go_at_call 160
  with_reducible refine hnx.mono ?_
  rintro e w1 ⟨rfl,hk,_⟩
  have kf1:=hk.cell kf0
  have lf:=zAK kf1
  have hbk:=hk.toBelow (B0:=w.heap.size) (by omega) (by have:=b1.size;omega)
  go_wp2
  go_ret2
  exact ⟨rfl,b0.trans ((b1.mono (by omega)).trans hbk)⟩
 | some z =>
  go_wp2_with fail
  rw [← hW0,← hW1]
  clear hW0 hW1
  go_at_call 160
  with_reducible refine hnx.mono ?_
  rintro e w1 ⟨rfl,hB,_,a5,c5,kf1,hi5⟩
  have lf:=zAK kf1
  simp only [List.nil_append] at kf1 hi5
  go_wp2
  go_ret2
  exact ⟨⟨a5,c5,rfl,hi5⟩,b0.trans (hB.mono (by omega))⟩
def zIM (n:Nat) (e:Ent):Bool:=inR e.num (0,(n:Int) - 1) && inR e.at_ (0,100)
def zA7 (p:Post) (l:List Ent):Int:=if zA4 p≠0 then zA4 p else if 8 < l.length then 3 else if l.all (zIM p.sends.length) then 0 else 2
theorem zJG (a:Option Addr) (n c:Nat) (B:Nat) (w:World) (hc:w.cell? ⟨B,0,none⟩=some (.slice a n c)) (hn:n≤1000) (e:Ent):zAc Tryz.prog w 158 #[] #[.pointer (some ⟨B,0,none⟩)] (.agg #[.int .i64 e.num,.int .i64 e.at_,.bool e.skip]) (zIM n e):=by
 intro w' hb'
 have hc':=zAA hb' hc
 have lB:=zAK hc'
 clear hc
 show Calls Tryz.prog 158 #[.agg #[.int .i64 e.num,.int .i64 e.at_,.bool e.skip],.pointer (some ⟨B,0,none⟩)] w' _
 have wb:∀ o,Below w'.heap.size w' (w'.alloc o):=fun o => (Below.refl _ _).alloc (Nat.le_refl _) _
 have h1:=fun W => zAm e.num 0 ((n:Int) - 1) W
 have h2:=fun W => zAm e.at_ 0 100 W
 cases hx:(decide (0≤e.num) && decide (e.num≤(n:Int) - 1))
 ·rw [hx] at h1
  go_enter Tryz.func158,Tryz.ntmps158
  go_wp2_with (go_at_call 159;(with_reducible refine (h1 _).mono ?_);rintro e w1 ⟨rfl,rfl⟩)
  go_ret
  exact ⟨zCM (by unfold zIM inR;rw [hx];rfl),wb _⟩
 ·rw [hx] at h1
  go_enter Tryz.func158,Tryz.ntmps158
  go_wp2_with (go_at_call 159;first | ((with_reducible refine (h1 _).mono ?_);rintro e w1 ⟨rfl,rfl⟩) | ((with_reducible refine (h2 _).mono ?_);rintro e w1 ⟨rfl,rfl⟩))
  go_ret
  exact ⟨zCM (by unfold zIM inR;rw [hx];rfl),wb _⟩
theorem zEg (a:Option Addr) (c:Nat) (ar:Option Addr) (cr:Nat) (p:Post) (al:Option Addr) (l:List Ent) (cl:Nat) (w:World) (hs:IntsAt w a p.sends) (hr:zAb w ar p.routes) (sm:PostSmall p) (he:zCX w al l) (hl:l.length≤1000000) :
  Calls Tryz.prog 94 #[.agg #[.slice a p.sends.length c,.slice ar p.routes.length cr,.int .i64 p.pat],.slice al l.length cl] w fun e w' => e=.returned (.int .i64 (zA7 p l))∧Below w.heap.size w w':=by
 have chk:=fun W (b:Below w.heap.size w W) => zCv a c ar cr p W (hs.below b) (hr.below b) sm
 have bd:=zD2 p
 have C0:Cells (w.alloc (.cells #[.slice a p.sends.length c,.slice ar p.routes.length cr,.int .i64 p.pat] 51)) w.heap.size #[.slice a p.sends.length c,.slice ar p.routes.length cr,.int .i64 p.pat] 51:=Cells.new _ _ _
 have t0:Below w.heap.size w (w.alloc (.cells #[.slice a p.sends.length c,.slice ar p.routes.length cr,.int .i64 p.pat] 51)):=(Below.refl _ _).alloc (Nat.le_refl _) _
 by_cases h0:zA4 p=0
 ·obtain ⟨n4,_⟩:=zAi h0
  rw [h0] at chk
  have hE:Hid (zA7 p l=if 8 < l.length then 3 else if l.all (zIM p.sends.length) then 0 else 2):=Lib.hid (by unfold zA7;rw [if_neg (by simpa using h0)])
  obtain ⟨E,hEe⟩:∃ E,zA7 p l=E:=⟨_,rfl⟩
  rw [hEe] at hE ⊢
  clear h0 bd hEe
  go_enter Tryz.func94,Tryz.ntmps94
  go_wp2_with fail
  go_at_call 85
  with_reducible refine (chk _ t0).mono ?_
  rintro e w1 ⟨rfl,hb1⟩
  have C1:=C0.below hb1
  have t1:Below w.heap.size w w1:=t0.trans (hb1.mono t0.size)
  have k0:=C1.cell 0
  simp at k0
  have lC:=C1.lt
  clear C0 chk C1
  by_cases h8:8 < l.length
  ·have h8I:(8:Int) < (l.length:Int):=by omega
   have e3:=hE.out
   rw [if_pos h8] at e3
   subst e3
   clear hE
   go_wp2
   go_ret
   exact ⟨rfl,t1⟩
  ·have h8I:¬ (8:Int) < (l.length:Int):=by omega
   have e3:=hE.out
   rw [if_neg h8] at e3
   have hal:=zNP al l cl 158 #[] #[.pointer (some ⟨w.heap.size,0,none⟩)] (zIM p.sends.length) w1 (by omega) (he.below t1) (enters Tryz.func158 (by kernel_rfl) rfl) (fun x _ => zJG a p.sends.length c w.heap.size w1 k0 (by omega) x)
   clear hE
   cases hq:l.all (zIM p.sends.length)
   ·rw [hq] at hal e3
    replace e3:E=2:=e3
    subst e3
    clear hq
    go_wp2_with (go_at_call 136;(with_reducible refine hal.mono ?_);rintro e w2 ⟨rfl,hb2⟩)
    go_ret
    exact ⟨rfl,t1.trans (hb2.mono t1.size)⟩
   ·rw [hq] at hal e3
    replace e3:E=0:=e3
    subst e3
    clear hq
    go_wp2_with (go_at_call 136;(with_reducible refine hal.mono ?_);rintro e w2 ⟨rfl,hb2⟩)
    go_ret
    exact ⟨rfl,t1.trans (hb2.mono t1.size)⟩
 ·have hE:zA7 p l=zA4 p:=by unfold zA7;rw [if_pos h0]
  rw [hE]
  obtain ⟨E,hEe⟩:∃ E,zA4 p=E:=⟨_,rfl⟩
  rw [hEe] at chk bd h0 ⊢
  have hne:(E != 0)=true:=by simpa using h0
  clear h0 hE hEe
  go_enter Tryz.func94,Tryz.ntmps94
  go_wp2_with fail
  go_at_call 85
  with_reducible refine (chk _ t0).mono ?_
  rintro e w1 ⟨rfl,hb1⟩
  have t1:Below w.heap.size w w1:=t0.trans (hb1.mono t0.size)
  go_wp2_with fail
  go_ret
  exact ⟨rfl,t1⟩
theorem zEh {p:Post} {l:List Ent} (h:zA7 p l=0):zA4 p=0∧l.length≤8∧l.all (zIM p.sends.length)=true:=by
 unfold zA7 at h
 split at h
 ·rename_i h1;exact absurd h h1
 ·rename_i h1
  split at h
  ·omega
  ·split at h
   ·exact ⟨by simpa using h1,by omega,by assumption⟩
   ·omega
theorem zLF (p:Post) (l:List Ent):0≤zA7 p l∧zA7 p l≤3:=by
 have:=zD2 p
 unfold zA7
 split
 ·omega
 ·split
  ·omega
  ·split <;> omega
open Go.RowKit Go.Flow
theorem zJU {α β:Type}:∀ (l:List α) (ps:List β) (x:α) (p:β),l[ps.length]?=some x→l.zip (ps ++ [p])=l.zip ps ++ [(x,p)]
 | [],ps,x,p,h => by simp at h
 | y :: l,[],x,p,h => by simp at h;simp [h]
 | y :: l,q :: ps,x,p,h => by
  have:=zJU l ps x p (by simpa using h)
  simp [this]
def zA5 {α:Type} (E:TypeId) (size:Nat) (val:α→Option Addr × Nat→List Value) (Sub:World→Option Addr × Nat→α→Prop) (B:Nat) (w:World) (a:Option Addr) (c:Nat) (l:List α) (n:Nat):Prop :=
 ∃ ps:List (Option Addr × Nat),ps.length=n∧OwnL E size B w a c n ((l.zip ps).flatMap fun x => val x.1 x.2)∧∀ (q:Nat) x p,l[q]?=some x→ps[q]?=some p→Sub w p x
section
variable {α:Type} {E:TypeId} {size:Nat} {val:α→Option Addr × Nat→List Value} {Sub:World→Option Addr × Nat→α→Prop} {B:Nat} {w w' : World} {a:Option Addr} {c:Nat} {l:List α} {n:Nat}
theorem zA5.nil (B:Nat) (w:World) (l:List α):zA5 E size val Sub B w none 0 l 0:=⟨[],rfl,by rw [List.zip_nil_right];exact OwnL.nil _ _ _ _,fun q x p _ h => by simp at h⟩
theorem zA5.kept (h:zA5 E size val Sub B w a c l n) (hb:Below w.heap.size w w') (hs:∀ p x,Sub w p x→Sub w' p x):zA5 E size val Sub B w' a c l n :=
 let ⟨ps,h1,h2,h3⟩:=h
 ⟨ps,h1,h2.kept hb,fun q x p hx hp => hs p x (h3 q x p hx hp)⟩
theorem zA5.grown (h:zA5 E size val Sub B w a c l n) {row:Option Nat} (hg:w.grownBy w' row) (hne:∀ g,row=some g→(Value.slice a n c).ownBlock≠some g) (hs:∀ p x,Sub w p x→Sub w' p x):zA5 E size val Sub B w' a c l n :=
 let ⟨ps,h1,h2,h3⟩:=h
 ⟨ps,h1,h2.grown hg hne,fun q x p hx hp => hs p x (h3 q x p hx hp)⟩
theorem zA5.base_le (h:zA5 E size val Sub B w a c l n) {B' : Nat} (hb:B'≤B):zA5 E size val Sub B' w a c l n :=
 let ⟨ps,h1,h2,h3⟩:=h
 ⟨ps,h1,h2.base_le hb,h3⟩
theorem zA5.sub {Sub' : World→Option Addr × Nat→α→Prop} (h:zA5 E size val Sub B w a c l n) (hs:∀ p x,Sub w p x→Sub' w p x):zA5 E size val Sub' B w a c l n :=
 let ⟨ps,h1,h2,h3⟩:=h
 ⟨ps,h1,h2,fun q x p hx hp => hs p x (h3 q x p hx hp)⟩
end
theorem zFu {β:Type} (size:Nat) (f:β→List Value) (hf:∀ x,(f x).length=size):∀ (l:List β) (k j:Nat) (x:β),l[k]?=some x→j < size→(l.flatMap f)[k * size + j]?=(f x)[j]?
 | [],k,j,x,h,_ => by simp at h
 | y :: l,0,j,x,h,hj => by
  simp at h
  subst h
  rw [List.flatMap_cons,Nat.zero_mul,Nat.zero_add,List.getElem?_append_left (by rw [hf];exact hj)]
 | y :: l,k + 1,j,x,h,hj => by
  rw [List.flatMap_cons,List.getElem?_append_right (by rw [hf,Nat.add_mul];omega),hf,show (k + 1) * size + j - size=k * size + j by rw [Nat.add_mul];omega]
  exact zFu size f hf l k j x (by simpa using h) hj
theorem zA5.at {α:Type} {E:TypeId} {size:Nat} {val:α→Option Addr × Nat→List Value} {Sub:World→Option Addr × Nat→α→Prop} {B:Nat} {w:World} {a:Option Addr} {c:Nat} {l:List α} (h:zA5 E size val Sub B w a c l l.length) (hv:∀ x p,(val x p).length=size) (hpos:0 < size) (k:Nat) (hk:k < l.length) :
  ∃ g p,a=some ⟨g,0,none⟩∧g < w.heap.size∧Sub w p l[k]∧∀ j v,j < size→(val l[k] p)[j]?=some v→w.cell? ⟨g,k * size + j,none⟩=some v:=by
 obtain ⟨ps,hl,ho,hs⟩:=h
 obtain ⟨p,hp⟩:∃ p,ps[k]?=some p:=⟨ps[k]'(by omega),by simp⟩
 have hx:l[k]?=some l[k]:=by simp
 have hz:(l.zip ps)[k]?=some (l[k],p):=by rw [List.getElem?_zip_eq_some];exact ⟨hx,hp⟩
 rcases ho.form with ⟨_,_,h0,_⟩ | ⟨g,rfl,_,hlt,_,_,_,hc⟩
 ·omega
 ·refine ⟨g,p,rfl,hlt,hs k _ _ hx hp,fun j v hj hjv => hc _ _ ?_⟩
  rw [zFu size (fun x:α × (Option Addr × Nat) => val x.1 x.2) (fun x => hv x.1 x.2) _ k j _ hz hj]
  exact hjv
theorem zA5.isnil {α:Type} {E:TypeId} {size:Nat} {val:α→Option Addr × Nat→List Value} {Sub:World→Option Addr × Nat→α→Prop} {B:Nat} {w:World} {c:Nat} {l:List α} {n:Nat} (h:zA5 E size val Sub B w none c l n):n=0∧c=0 :=
 let ⟨_,_,h2,_⟩:=h
 h2.isnil
theorem zA5.snoc {α:Type} {E:TypeId} {size:Nat} {val:α→Option Addr × Nat→List Value} {Sub:World→Option Addr × Nat→α→Prop} {B:Nat} {w:World} {a:Option Addr} {c n:Nat} {l:List α} {ps:List (Option Addr × Nat)} (hl:ps.length=n) {x:α} (hx:l[n]?=some x) (p:Option Addr × Nat)
  (ho:OwnL E size B w a c (n + 1) (((l.zip ps).flatMap fun x => val x.1 x.2) ++ val x p)) (hs:∀ (q:Nat) x p,l[q]?=some x→ps[q]?=some p→Sub w p x) (hp:Sub w p x):zA5 E size val Sub B w a c l (n + 1):=by
 refine ⟨ps ++ [p],by simp [hl],?_,fun q y r hy hr => ?_⟩
 ·rw [zJU l ps x p (by rw [hl];exact hx),List.flatMap_append]
  simpa using ho
 ·rcases Nat.lt_or_ge q ps.length with hq | hq
  ·rw [List.getElem?_append_left hq] at hr
   exact hs q y r hy hr
  ·have hq2:q=ps.length:=by
    have:=(List.getElem?_eq_some_iff.1 hr).1
    simp at this;omega
   subst hq2
   rw [List.getElem?_append_right (Nat.le_refl _)] at hr
   simp at hr
   rw [hl,hx] at hy
   cases hy
   subst hr
   exact hp
def sv {α:Type} (x:List α) (p:Option Addr × Nat):List Value:=[.slice p.1 x.length p.2]
def zBI (B:Nat) (w:World) (p:Option Addr × Nat) (x:List Int):Prop:=OwnL 3 1 B w p.1 p.2 x.length (x.map (Value.int .i64))
def zBH (B:Nat) (w:World) (p:Option Addr × Nat) (l:List (List Int)) (n:Nat):Prop:=zA5 22 1 sv (zBI B) B w p.1 p.2 l n
def zB2 (B:Nat) (w:World) (p:Option Addr × Nat) (t:List (List (List Int))) (n:Nat):Prop:=zA5 151 1 sv (fun w p l => zBH B w p l l.length) B w p.1 p.2 t n
theorem zBI.kept {B:Nat} {w w' : World} {p:Option Addr × Nat} {x:List Int} (h:zBI B w p x) (hb:Below w.heap.size w w'):zBI B w' p x:=OwnL.kept h hb
theorem zBH.kept {B:Nat} {w w' : World} {p:Option Addr × Nat} {l:List (List Int)} {n:Nat} (h:zBH B w p l n) (hb:Below w.heap.size w w'):zBH B w' p l n:=zA5.kept h hb fun _ _ h => h.kept hb
theorem zBH.base_le {B B' : Nat} {w:World} {p:Option Addr × Nat} {l:List (List Int)} {n:Nat} (h:zBH B w p l n) (hb:B'≤B):zBH B' w p l n:=(zA5.base_le h hb).sub fun _ _ h => OwnL.base_le h hb
theorem zB2.kept {B:Nat} {w w' : World} {p:Option Addr × Nat} {l:List (List (List Int))} {n:Nat} (h:zB2 B w p l n) (hb:Below w.heap.size w w'):zB2 B w' p l n:=zA5.kept h hb fun _ _ h => h.kept hb
theorem zBH.at {B:Nat} {w:World} {p:Option Addr × Nat} {l:List (List Int)} (h:zBH B w p l l.length):zDt w p.1 l:=fun k hk => by
 obtain ⟨g,q,ha,hlt,hs,hc⟩:=zA5.at h (fun _ _ => rfl) (by omega) k hk
 refine ⟨g,0,q.1,q.2,ha,hlt,?_,(OwnL.ints hs).1,fun e => (OwnL.isnil (by have:=hs;unfold zBI at this;rwa [e] at this)).2⟩
 have:=hc 0 _ (by omega) rfl
 rw [Nat.zero_add];simpa using this
theorem zB2.at {B:Nat} {w:World} {p:Option Addr × Nat} {t:List (List (List Int))} (h:zB2 B w p t t.length):zCc w p.1 t:=fun k hk => by
 obtain ⟨g,q,ha,hlt,hs,hc⟩:=zA5.at h (fun _ _ => rfl) (by omega) k hk
 refine ⟨g,0,q.1,q.2,ha,hlt,?_,hs.at,fun e => (zA5.isnil (by have:=hs;unfold zBH at this;rwa [e] at this)).2⟩
 have:=hc 0 _ (by omega) rfl
 rw [Nat.zero_add];simpa using this
theorem zKi:(Tryz.prog.info? 22).map (fun i => (i.zero,i.size,i.bytes))=some (some (.slice none 0 0),1,24):=by kernel_rfl
theorem zFO:Elem Tryz.prog 151 22 (.slice none 0 0) 1 24:=⟨Tryz.underlying151,info_parts zKi,rfl,by decide⟩
theorem zIt:(Tryz.prog.info? 151).map (fun i => (i.zero,i.size,i.bytes))=some (some (.slice none 0 0),1,24):=by kernel_rfl
theorem zMt:Elem Tryz.prog 44 151 (.slice none 0 0) 1 24:=⟨Tryz.underlying44,info_parts zIt,rfl,by decide⟩
def zOR (p:Post) (l:List Ent):Bool:=(zDI p l).isSome
def zBV:List Leg→Int→Int→Option (List Int)
 | [],s,h => if s=h then some [] else none
 | l :: ls,s,h => (List.range (l.hi - l.lo + 1).toNat).findSome? fun (j:Nat) => (zBV ls (awk l (s + (l.lo + j))) h).map ((l.lo + j) :: ·)
def zC6 (B:Nat):Option (List Int)→Value→World→Prop
 | none,v,_ => v=.tuple #[.slice none 0 0,.bool false]
 | some z,v,w' => ∃ a c,v=.tuple #[.slice a z.length c,.bool true]∧OwnL 3 1 B w' a c z.length (z.map (Value.int .i64))
theorem zC6.kept {B:Nat} {o:Option (List Int)} {v:Value} {w w' : World} (h:zC6 B o v w) (hb:Below w.heap.size w w'):zC6 B o v w':=by
 cases o with
 | none => exact h
 | some z => obtain ⟨a,c,h1,h2⟩:=h;exact ⟨a,c,h1,h2.kept hb⟩
theorem zC6.base_le {B B' : Nat} {o:Option (List Int)} {v:Value} {w:World} (h:zC6 B o v w) (hb:B'≤B):zC6 B' o v w:=by
 cases o with
 | none => exact h
 | some z => obtain ⟨a,c,h1,h2⟩:=h;exact ⟨a,c,h1,h2.base_le hb⟩
def SlcV (B:Nat):Option (List Int)→Value→World→Prop
 | none,v,_ => v=.slice none 0 0
 | some z,v,w' => ∃ a c,v=.slice a z.length c∧OwnL 3 1 B w' a c z.length (z.map (Value.int .i64))
theorem SlcV.kept {B:Nat} {o:Option (List Int)} {v:Value} {w w' : World} (h:SlcV B o v w) (hb:Below w.heap.size w w'):SlcV B o v w':=by
 cases o with
 | none => exact h
 | some z => obtain ⟨a,c,h1,h2⟩:=h;exact ⟨a,c,h1,h2.kept hb⟩
def IsV (o:Option (List Int)) (v:Value) (_:World):Prop:=v=.bool o.isSome
theorem IsV.kept {o:Option (List Int)} {v:Value} {w w' : World} (h:IsV o v w) (_:Below w.heap.size w w'):IsV o v w':=h
theorem zDZ:∀ (ls:List Leg) (s h:Int) (z:List Int),zBV ls s h=some z→z.length=ls.length
 | [],s,h,z,hz => by
  rw [zBV] at hz
  split at hz
  ·cases hz;rfl
  ·cases hz
 | l :: ls,s,h,z,hz => by
  rw [zBV] at hz
  obtain ⟨j,_,hj⟩:=List.exists_of_findSome?_eq_some hz
  rw [Option.map_eq_some_iff] at hj
  obtain ⟨y,hy,rfl⟩:=hj
  rw [List.length_cons,List.length_cons,zDZ ls _ h y hy]
theorem zCT {α:Type} {f:Nat→Option α} {n:Nat} (h:∀ j,j < n→f j=none):(List.range n).findSome? f=none :=
 List.findSome?_eq_none_iff.2 (fun x hx => h x (List.mem_range.1 hx))
theorem zCS {α:Type} {f:Nat→Option α} {z:α}:∀ {n k:Nat},k < n→(∀ j,j < k→f j=none)→f k=some z→(List.range n).findSome? f=some z
 | n + 1,k,hk,h1,h2 => by
  rw [List.range_succ,List.findSome?_append]
  rcases Nat.lt_or_eq_of_le (Nat.lt_succ_iff.1 hk) with h | rfl
  ·rw [zCS h h1 h2];rfl
  ·rw [zCT h1];simp [h2]
theorem zL2 (al:Option Addr) (ca:Nat) (legs:List Leg) (lossy:Bool) (hour:Int) (ln:legs.length≤3) (hok:legs.all zDC=true) (sm:∀ l ∈ legs,l.asl.length≤1000) :
  ∀ (m k:Nat),k + m=legs.length→∀ (s:Int) (w:World),0≤s→s≤40 + 40 * (k:Int)→zBu w al legs →
  Calls Tryz.prog 165 #[.agg #[.slice al legs.length ca,.bool lossy],.int .i64 (k:Int),.int .i64 s,.int .i64 hour] w fun e w' => (∃ v,e=.returned v∧zC6 w.heap.size (zBV (legs.drop k) s hour) v w')∧Below w.heap.size w w':=by
 intro m
 induction m with
 | zero =>
  intro k hk s w h0 h1 hl
  obtain rfl:k=legs.length:=by omega
  rw [List.drop_length]
  by_cases e:s=hour
  ·have t:(s == hour)=true:=by simpa using e
   have Hf:Hid (zBV [] s hour=some []):=Lib.hid (by rw [zBV,if_pos e])
   clear e
   go_enter Tryz.func165,Tryz.ntmps165
   go_wp2
   go_ret2
   refine ⟨⟨_,rfl,?_⟩,by exact zzL⟩
   rw [Hf.out]
   exact ⟨none,0,rfl,OwnL.nil _ _ _ _⟩
  ·have t:(s == hour)=false:=by simpa using e
   have Hf:Hid (zBV [] s hour=none):=Lib.hid (by rw [zBV,if_neg e])
   clear e
   go_enter Tryz.func165,Tryz.ntmps165
   go_wp2
   go_ret2
   refine ⟨⟨_,rfl,?_⟩,by exact zzL⟩
   rw [Hf.out]
   exact rfl
 | succ m ih =>
  intro k hk s w h0 h1 hl
  have hkl:k < legs.length:=by omega
  have hkI:(k:Int) < (legs.length:Int):=by omega
  have hne:((k:Int) == (legs.length:Int))=false:=by simp;omega
  have hwk:IntKind.i64.wrap ((k:Int) + 1)=(k:Int) + 1:=IntWalk.i64_in _ (by omega)
  obtain ⟨lg,hlg⟩:∃ x,legs[k]=x:=⟨_,rfl⟩
  have hlok:=List.all_eq_true.1 hok legs[k] (List.getElem_mem hkl)
  have hlsm:=sm legs[k] (List.getElem_mem hkl)
  have hdr:legs.drop k=lg :: legs.drop (k + 1):=by rw [List.drop_eq_getElem_cons hkl,hlg]
  rw [hlg] at hlok hlsm
  have hlb:0≤lg.lo∧lg.lo≤lg.hi∧lg.hi≤6∧lg.asl.all (fun r => zCk r 30)=true:=by
   simp only [zDC,zCk,Bool.and_eq_true,decide_eq_true_eq] at hlok
   exact ⟨hlok.1.1.1,hlok.1.1.2,hlok.1.2,hlok.2⟩
  obtain ⟨b0,b1,b2,b3⟩:=hlb
  have Hb3:=Lib.hid b3
  obtain ⟨f,hf⟩:∃ f:Nat→Option (List Int),f=fun (j:Nat) => (zBV (legs.drop (k + 1)) (awk lg (s + (lg.lo + j))) hour).map ((lg.lo + j) :: ·):=⟨_,rfl⟩
  have Hd:Hid (zBV (legs.drop k) s hour=(List.range (lg.hi - lg.lo + 1).toNat).findSome? f):=Lib.hid (by rw [hdr,zBV,hf])
  have Hf:=Lib.hid hf
  clear hf hdr hlok b3
  obtain ⟨bL,offL,aa,cc,rfl,hbL,e0,e1,e2,eA⟩:=hl k hkl
  rw [hlg] at e0 e1 e2 eA
  clear hlg
  go_enter Tryz.func165,Tryz.ntmps165
  go_wp2
  obtain ⟨W2,hW2⟩:∃ z:World,z=(w.alloc (.cells #[.slice (some ⟨bL,offL,none⟩) legs.length ca,.bool lossy] 150)).alloc (.cells #[.int .i64 lg.lo,.int .i64 lg.hi,.slice aa lg.asl.length cc] 147):=⟨_,rfl⟩
  have C1:Cells W2 w.heap.size #[.slice (some ⟨bL,offL,none⟩) legs.length ca,.bool lossy] 150:=by rw [hW2];exact (Cells.new _ _ _).alloc _
  have C2:Cells W2 (w.heap.size + 1) #[.int .i64 lg.lo,.int .i64 lg.hi,.slice aa lg.asl.length cc] 147:=by rw [hW2];exact Cells.new' _ _ _ _ (by simp)
  have t2:Below w.heap.size w W2:=by rw [hW2];exact zzL
  rw [← hW2]
  clear hW2
  go_loopw [11] (fun u wr => ∃ j:Nat,(j:Int)≤lg.hi - lg.lo + 1∧u=.int .i64 (lg.lo + j)∧(∀ i,i < j→f i=none)∧Below W2.heap.size W2 wr) (fun u _ => (lg.hi + 1 - intOf u).toNat)
  case atStart => exact ⟨0,by omega,by simp,fun i hi => absurd hi (Nat.not_lt_zero i),Below.refl _ _⟩
  case round =>
   obtain ⟨j,hj,rfl,hno,hwr⟩:=hrel
   have Hno:=Lib.hid hno
   clear hno
   have tw:=t2.trans (hwr.mono t2.size)
   have q0:=(C1.below hwr).cell 0
   have q1:=(C1.below hwr).cell 1
   have r0:=(C2.below hwr).cell 0
   have r1:=(C2.below hwr).cell 1
   have r2:=(C2.below hwr).cell 2
   have lC:=(C1.below hwr).lt
   have lD:=(C2.below hwr).lt
   simp at q0 q1 r0 r1 r2
   clear e0 e1 e2
   by_cases hjl:(j:Int)≤lg.hi - lg.lo
   ·have hle:lg.lo + (j:Int)≤lg.hi:=by omega
    have hc:((k + 1:Nat):Int)=(k:Int) + 1:=by omega
    have hab:=zGk lg (s + (lg.lo + j))
    have haw:=fun X (b:Below wr.heap.size wr X) => zIV aa cc lg (s + (lg.lo + j)) X ((eA.below tw).below b) hlsm Hb3.out (by omega) (by omega)
    have hrec:=fun X (b:Below wr.heap.size wr X) => ih (k + 1) (by omega) (awk lg (s + (lg.lo + j))) X (by omega) (by omega) ((hl.below tw).below b)
    rw [hc] at hrec
    have hfj:f j=(zBV (legs.drop (k + 1)) (awk lg (s + (lg.lo + j))) hour).map ((lg.lo + j) :: ·):=by rw [Hf.out]
    obtain ⟨A,hA⟩:∃ A,awk lg (s + (lg.lo + j))=A:=⟨_,rfl⟩
    rw [hA] at hrec haw hfj hab
    have hzl:=zDZ (legs.drop (k + 1)) A hour
    obtain ⟨o,ho⟩:∃ o,zBV (legs.drop (k + 1)) A hour=o:=⟨_,rfl⟩
    rw [ho] at hrec hfj hzl
    have Hfj:=Lib.hid hfj
    have Hzl:=Lib.hid hzl
    clear hzl
    have hws:IntKind.i64.wrap (s + (lg.lo + j))=s + (lg.lo + j):=IntWalk.i64_in _ (by omega)
    clear hA ho hfj hc ih
    go_wp2
    (refine zAD 15 [] [] 55 [true,true,true,true,true,true,true,true,true,false,false,false,false,false,false] [zC6 wr.heap.size o,zC6 wr.heap.size o,SlcV wr.heap.size o,IsV o,SlcV wr.heap.size o,IsV o] (by kernel_rfl) (by kernel_rfl) rfl (zAB (fun v w w' h hb => h.kept hb) (zAB (fun v w w' h hb => h.kept hb) (zAB (fun v w w' h hb => h.kept hb) (zAB (fun v w w' h hb => h.kept hb) (zAB (fun v w w' h hb => h.kept hb) (zAB (fun v w w' h hb => h.kept hb) zAR)))))) ?_;simp only [zAU,List.filterMap_cons,List.filterMap_nil,zzH,zzI,zzJ];(repeat (refine zAM _ rfl (fun w => (by go_simp;rfl)) ?_));refine zAS ?_;simp only [zAF,zAt,Act.put,zzG,zzE,zzF,zzA,zzB,zzC,zzD];(repeat (refine zAL (fun K hK => ?_);go_simp;first | (refine hK _ ?_;clear hK K) | (apply Exists.intro;refine ⟨fun ex => ?_,hK _ ?_⟩;((go_at_call 154;exact haw _ ex.below));clear hK K)));refine zAQ ?_;simp only [zAT,under,zAZ,and_true,List.nil_append,List.cons_append])
    refine ⟨⟨?_,?_,?_,?_,?_,?_⟩,?_⟩
    ·intro e
     go_simp
     refine (hrec _ e.below).mono ?_
     rintro _ _ ⟨⟨v,rfl,hv⟩,hb⟩
     exact ⟨hb,hv.base_le e.size⟩
    ·intro e v1 h1
     go_simp
     exact ⟨Below.refl _ _,h1 (by kernel_rfl)⟩
    ·intro e v1 _ v2 h2
     have h2':=h2 (by kernel_rfl)
     cases o with
     | none =>
      obtain rfl:v2=.tuple #[.slice none 0 0,.bool false]:=h2'
      go_simp
      exact ⟨Below.refl _ _,rfl⟩
     | some z =>
      obtain ⟨a,c,rfl,ho⟩:=h2'
      go_simp
      exact ⟨Below.refl _ _,a,c,rfl,ho⟩
    ·intro e v1 _ v2 h2 v3 _
     have h2':=h2 (by kernel_rfl)
     cases o with
     | none =>
      obtain rfl:v2=.tuple #[.slice none 0 0,.bool false]:=h2'
      go_simp
      exact ⟨Below.refl _ _,rfl⟩
     | some z =>
      obtain ⟨a,c,rfl,ho⟩:=h2'
      go_simp
      exact ⟨Below.refl _ _,rfl⟩
    ·intro e v1 _ v2 _ v3 h3 v4 _
     go_simp
     exact ⟨Below.refl _ _,h3 (by kernel_rfl)⟩
    ·intro e v1 _ v2 _ v3 _ v4 h4 v5 _
     go_simp
     exact ⟨Below.refl _ _,h4 (by kernel_rfl)⟩
    intro e
    rintro v1 - v2 - v3 - v4 - v5 hv v6 hv6
    simp only [Act.put,zzG,zzE,zzF]
    have he5:=e.below
    obtain ⟨w5,hw5⟩:∃ x:World,x=e.to:=⟨_,rfl⟩
    rw [← hw5] at he5 hv hv6 ⊢
    clear hw5 e hrec haw
    have z5:=he5.size
    have tz:=tw.size
    cases o with
    | none =>
     obtain rfl:v5=.slice none 0 0:=hv
     obtain rfl:v6=.bool false:=hv6
     have Hn:=Lib.hid (show f j=none from Hfj.out)
     go_wp2
     go_roundw
     case rel => exact ⟨j + 1,by omega,by first | go_num | (simp;omega),fun i hi => (by rcases Nat.lt_or_eq_of_le (Nat.lt_succ_iff.1 hi) with h | rfl;exact Hno.out i h;exact Hn.out),hwr.trans (he5.mono hwr.size)⟩
     case measure => simp [intOf];omega
    | some z =>
     obtain ⟨az,cz,rfl,oz⟩:=hv
     obtain rfl:v6=.bool true:=hv6
     have hz3:z.length≤3:=by
      have:=Hzl.out z rfl
      rw [List.length_drop] at this
      omega
     have Hn:=Lib.hid (show f j=some ((lg.lo + j) :: z) from Hfj.out)
     go_wp2_with (at_builtin;refine zA2 zGM rfl _ _ rfl w.heap.size (some ⟨w5.heap.size,0,none⟩) 1 1 [.int .i64 (lg.lo + j)] rfl (OwnL.lit #[.int .i64 (lg.lo + j)] (by omega) (by unfold maxLen;omega) rfl) az z.length cz _ rfl (fun h => ?c1) (by simp) (SrcAt.own (oz.alloc _)) (fun u hu => ?c2) ?c3 ?c4 ?c5 ?_)
     case c1 => subst h;exact oz.isnil
     case c2 => obtain ⟨q,_,rfl⟩:=List.mem_map.1 hu;rfl
     case c3 => unfold maxLen;omega
     case c4 => omega
     case c5 => simp;omega
     intro a7 c7 w7 own7 hb7
     rw [Nat.add_comm 1 z.length] at own7 ⊢
     go_wp2
     go_ret2
     refine ⟨⟨_,rfl,?_⟩,(tw.trans (he5.mono tz)).trans (((Below.refl _ _).alloc (by omega) _).trans hb7)⟩
     rw [Hd.out,zCS (k:=j) (by omega) Hno.out Hn.out]
     exact ⟨a7,c7,rfl,own7⟩
   ·have hle:¬ (lg.lo + (j:Int)≤lg.hi):=by omega
    have Hn:Hid ((List.range (lg.hi - lg.lo + 1).toNat).findSome? f=none):=Lib.hid (zCT fun i hi => Hno.out i (by omega))
    go_wp2
    go_ret2
    refine ⟨⟨_,rfl,?_⟩,tw⟩
    rw [Hd.out,Hn.out]
    exact rfl
def zOm (p:Post) (i:Nat) (hour:Int) (k:Nat):List Int :=
 match zBV (p.routes.getD k ⟨[],false⟩).legs (p.sends.getD i 0) hour with
 | some z => z
 | none => if (p.routes.getD k ⟨[],false⟩).lossy then [] else (zBV (p.routes.getD k ⟨[],false⟩).legs (p.sends.getD i 0) (lastH (hrF p i k))).getD []
def zBO (p:Post) (i:Nat) (hour:Int):List (List Int):=(List.range p.routes.length).map (zOm p i hour)
def zDG (p:Post) (hours:List Int):List (List (List Int)):=(List.range hours.length).map fun i => zBO p i (hours.getD i 0)
theorem zOn (al:Option Addr) (ca:Nat) (legs:List Leg) (lossy:Bool) (hour:Int) (ln:legs.length≤3) (hok:legs.all zDC=true) (sm:∀ l ∈ legs,l.asl.length≤1000) (s:Int) (w:World) (h0:0≤s) (h1:s≤30) (hl:zBu w al legs) :
  Calls Tryz.prog 165 #[.agg #[.slice al legs.length ca,.bool lossy],.int .i64 0,.int .i64 s,.int .i64 hour] w fun e w' => (∃ v,e=.returned v∧zC6 w.heap.size (zBV legs s hour) v w')∧Below w.heap.size w w' :=
 zL2 al ca legs lossy hour ln hok sm legs.length 0 (by omega) s w h0 (by omega) hl
theorem zPW {p:Post} (h0:zA4 p=0) {i k:Nat} (hi:i < p.sends.length) (hk:k < p.routes.length):0≤lastH (hrF p i k)∧lastH (hrF p i k)≤100:=by
 obtain ⟨m,h1,_,h3,_⟩:=zE9 (zDj h0 hi k hk)
 omega
def RetT (B:Nat) (t:List (List (List Int))) (n:Nat) (e:Ending) (w' : World):Prop:=∃ a c,e=.returned (.slice a n c)∧zB2 B w' (a,c) t n
theorem zLZ (a:Option Addr) (c:Nat) (ar:Option Addr) (cr:Nat) (p:Post) (Bw:Nat) (ah:Option Addr) (hours:List Int) (ch:Nat) (w:World) (hw:zBt p a c ar cr Bw w) (hs:IntsAt w a p.sends) (hr:zAb w ar p.routes) (hx:IntsAt w ah hours) (H0:Hid (zA4 p=0)) (hn:hours.length≤p.sends.length) :
  Calls Tryz.prog 96 #[.pointer (some ⟨Bw,0,none⟩),.slice ah hours.length ch] w fun e w' => RetT w.heap.size (zDG p hours) hours.length e w'∧Below w.heap.size w w':=by
 have lS:=(zAi H0.out).1
 have lR:=(zAi H0.out).2.1
 have HLG:=Lib.hid (zHo H0.out)
 have hhs:=Lib.hid (zBg H0.out)
 have hh:=fun i k (hi:i < p.sends.length) (hk:k < p.routes.length) => zDj H0.out hi k hk
 have Hlast:=Lib.hid (fun i k (hi:i < p.sends.length) (hk:k < p.routes.length) => zPW H0.out hi hk)
 obtain ⟨Bm,nm,cW,hH⟩:=hw
 have q0:=cW.cell 0
 have q1:=cW.cell 1
 have q3:=cW.cell 3
 have lW:=cW.lt
 simp at q0 q1 q3
 go_enter Tryz.func96,Tryz.ntmps96
 go_wp2
 go_loopw [4,14] (fun v u wr => ∃ (i:Nat) (a' : Option Addr) (c' : Nat),i≤hours.length∧u=.int .i64 i∧v=.slice a' i c'∧zB2 w.heap.size wr (a',c') (zDG p hours) i∧Below w.heap.size w wr) (fun _ u _ => hours.length - (intOf u).toNat)
 case atStart => exact ⟨0,none,0,Nat.zero_le _,rfl,rfl,zA5.nil _ _ _,Below.refl _ _⟩
 case round =>
  obtain ⟨i,a',c',hi,rfl,rfl,hT,hb⟩:=hrel
  have zb:=hb.size
  by_cases hih:i < hours.length
  ·have hiI:(i:Int) < (hours.length:Int):=by omega
   have hil:i < p.sends.length:=by omega
   have hiS:(i:Int) < (p.sends.length:Int):=by omega
   obtain ⟨bH,offH,rfl,hbH,h00⟩:=(hx.below hb) i hih
   have h0' : wr.cell? ⟨bH,offH + i,none⟩=some (.int .i64 hours[i]):=h00.trans (by simp [hih])
   have HxT:Hid ((zDG p hours)[i]?=some (zBO p i hours[i])):=Lib.hid (by unfold zDG;simp [hih])
   obtain ⟨hour,hhour⟩:∃ x,hours[i]=x:=⟨_,rfl⟩
   rw [hhour] at h0' HxT
   clear hhour h00
   have lrow:(zBO p i hour).length=p.routes.length:=by unfold zBO;simp
   have Hlrow:=Lib.hid lrow
   clear lrow
   obtain ⟨bS,offS,rfl,hbS,s00⟩:=(hs.below hb) i hil
   have s01:wr.cell? ⟨bS,offS + i,none⟩=some (.int .i64 p.sends[i]):=s00.trans (by simp [hil])
   have sb:=hhs.out.s _ (List.getElem_mem hil)
   have Hsg:Hid (p.sends.getD i 0=p.sends[i]):=Lib.hid (by simp [hil])
   obtain ⟨s,hse⟩:∃ x,p.sends[i]=x:=⟨_,rfl⟩
   rw [hse] at s01 sb Hsg
   clear hse s00
   have d1:=zAA hb q1
   have ld1:=zAK d1
   go_wp2
   obtain ⟨Wo,hWo⟩:∃ z:World,z=wr:=⟨_,rfl⟩
   subst hWo
   go_loopw [7,25] (fun v u wq => ∃ (j:Nat) (a6:Option Addr) (c6:Nat),j≤p.routes.length∧u=.int .i64 j∧v=.slice a6 j c6∧zBH Wo.heap.size wq (a6,c6) (zBO p i hour) j∧Below Wo.heap.size Wo wq) (fun _ u _ => p.routes.length - (intOf u).toNat)
   case atStart => exact ⟨0,none,0,Nat.zero_le _,rfl,rfl,zA5.nil _ _ _,Below.refl _ _⟩
   case round =>
    obtain ⟨j,a6,c6,hj,rfl,rfl,hJ,hb2⟩:=hrel
    have zq:=hb2.size
    have tq:=hb.trans (hb2.mono zb)
    by_cases hjl:j < p.routes.length
    ·have hjI:(j:Int) < (p.routes.length:Int):=by omega
     obtain ⟨bR,offR,al,ca,rfl,hbR,e0,e1,eL⟩:=(hr.below tq) j hjl
     have lo3:=HLG.out p.routes[j] (List.getElem_mem hjl)
     have lastb:=Hlast.out i j hil hjl
     have Hx0:Hid ((zBO p i hour)[j]?=some (match zBV p.routes[j].legs s hour with | some z => z | none => if p.routes[j].lossy then [] else (zBV p.routes[j].legs s (lastH (hrF p i j))).getD [])):=Lib.hid (by
      unfold zBO
      rw [List.getElem?_map,List.getElem?_range hjl]
      simp only [Option.map_some,zOm]
      rw [show p.routes.getD j ⟨[],false⟩=p.routes[j] by simp [hjl],Hsg.out])
     obtain ⟨Sb,hrun,hSC⟩:=(hH.below tq).look i j ⟨hil,hjl⟩ (by omega) (by omega)
     obtain ⟨r,hre⟩:∃ x,p.routes[j]=x:=⟨_,rfl⟩
     rw [hre] at e0 e1 eL lo3 Hx0
     clear hre
     obtain ⟨l3,lok,las⟩:=lo3
     have Hlok:=Lib.hid lok
     have Hlas:=Lib.hid las
     clear lok las
     have pq0:=zAA tq q0
     have pq3:=zAA tq q3
     have lpq:=zAK pq0
     have s0':=zAA hb2 s01
     have ls0:=zAK s0'
     obtain ⟨ly,hly⟩:∃ x,r.lossy=x:=⟨_,rfl⟩
     rw [hly] at e1 Hx0
     clear hly
     go_wp2
     obtain ⟨Wr,hWr⟩:∃ z:World,z=wr.alloc (.cells #[.slice al r.legs.length ca,.bool ly] 150):=⟨_,rfl⟩
     have bR' : Below wr.heap.size wr Wr:=by rw [hWr];exact (Below.refl _ _).alloc (Nat.le_refl _) _
     have RR:Cells Wr wr.heap.size #[.slice al r.legs.length ca,.bool ly] 150:=by rw [hWr];exact Cells.new _ _ _
     rw [← hWr]
     clear hWr e0 e1 hbR
     have zR:=bR'.size
     have htk:=fun X (b:Below Wr.heap.size Wr X) => zOn al ca r.legs ly hour l3 Hlok.out Hlas.out s X (by omega) (by omega) ((eL.below bR').below b)
     have hzl:=zDZ r.legs s hour
     obtain ⟨o,ho⟩:∃ o,zBV r.legs s hour=o:=⟨_,rfl⟩
     rw [ho] at htk Hx0 hzl
     have Hzl:=Lib.hid hzl
     clear ho hzl
     have r0:=RR.cell 0
     have r1:=RR.cell 1
     have lr:=RR.lt
     have v0:=zAA bR' pq0
     have lv0:=zAK v0
     have u1:=zAA bR' s0'
     have lu1:=zAK u1
     simp at r0 r1
     (refine zAD 16 [] [] 84 [true,true,true,true,true,true,true,true,true,true,false,false,false,false,false,false] [zC6 Wr.heap.size o,zC6 Wr.heap.size o,SlcV Wr.heap.size o,IsV o,SlcV Wr.heap.size o,IsV o] (by kernel_rfl) (by kernel_rfl) rfl (zAB (fun v w w' h hb => h.kept hb) (zAB (fun v w w' h hb => h.kept hb) (zAB (fun v w w' h hb => h.kept hb) (zAB (fun v w w' h hb => h.kept hb) (zAB (fun v w w' h hb => h.kept hb) (zAB (fun v w w' h hb => h.kept hb) zAR)))))) ?_;simp only [zAU,List.filterMap_cons,List.filterMap_nil,zzH,zzI,zzJ];(repeat (refine zAM _ rfl (fun w => (by go_simp;rfl)) ?_));refine zAS ?_;simp only [zAF,zAt,Act.put,zzG,zzE,zzF,zzA,zzB,zzC,zzD];(repeat (refine zAL (fun K hK => ?_);go_simp;first | (refine hK _ ?_;clear hK K) | (apply Exists.intro;refine ⟨fun ex => ?_,hK _ ?_⟩;(fail);clear hK K)));refine zAQ ?_;simp only [zAT,under,zAZ,and_true,List.nil_append,List.cons_append])
     refine ⟨⟨?_,?_,?_,?_,?_,?_⟩,?_⟩
     ·intro e
      go_simp
      refine (htk _ e.below).mono ?_
      rintro _ _ ⟨⟨v,rfl,hv⟩,hb⟩
      exact ⟨hb,hv.base_le e.size⟩
     ·intro e v1 h1
      go_simp
      exact ⟨Below.refl _ _,h1 (by kernel_rfl)⟩
     ·intro e v1 _ v2 h2
      have h2':=h2 (by kernel_rfl)
      cases o with
      | none =>
       obtain rfl:v2=.tuple #[.slice none 0 0,.bool false]:=h2'
       go_simp
       exact ⟨Below.refl _ _,rfl⟩
      | some z =>
       obtain ⟨a,c,rfl,ho⟩:=h2'
       go_simp
       exact ⟨Below.refl _ _,a,c,rfl,ho⟩
     ·intro e v1 _ v2 h2 v3 _
      have h2':=h2 (by kernel_rfl)
      cases o with
      | none =>
       obtain rfl:v2=.tuple #[.slice none 0 0,.bool false]:=h2'
       go_simp
       exact ⟨Below.refl _ _,rfl⟩
      | some z =>
       obtain ⟨a,c,rfl,ho⟩:=h2'
       go_simp
       exact ⟨Below.refl _ _,rfl⟩
     ·intro e v1 _ v2 _ v3 h3 v4 _
      go_simp
      exact ⟨Below.refl _ _,h3 (by kernel_rfl)⟩
     ·intro e v1 _ v2 _ v3 _ v4 h4 v5 _
      go_simp
      exact ⟨Below.refl _ _,h4 (by kernel_rfl)⟩
     intro e
     rintro v1 - v2 - v3 - v4 - v5 hv v6 hv6
     simp only [Act.put,zzG,zzE,zzF]
     have he8:=e.below
     obtain ⟨W8,hW8⟩:∃ x:World,x=e.to:=⟨_,rfl⟩
     rw [← hW8] at he8 hv hv6 ⊢
     clear hW8 e htk r0 r1 lr v0 lv0 u1 lu1
     have z8:=he8.size
     have R8:=RR.below he8
     have b8:=bR'.trans (he8.mono bR'.size)
     have hz1:=R8.lt
     cases o with
     | some z =>
      obtain ⟨az,cz,rfl,oz⟩:=hv
      obtain rfl:v6=.bool true:=hv6
      have hz3:z.length≤3:=by have:=Hzl.out z rfl;omega
      have Hx:Hid ((zBO p i hour)[j]?=some z):=Lib.hid Hx0.out
      have ho' : zBI Wo.heap.size W8 (az,cz) z:=OwnL.base_le oz (by omega)
      have b9:=b8
      have hJ9:=hJ.kept b9
      obtain ⟨ps,hps,hown,hsub⟩:=hJ9
      go_wp2_with (at_builtin;refine zBp zFO rfl _ _ rfl Wo.heap.size a6 j c6 _ rfl (hown.alloc _) (some ⟨W8.heap.size,0,none⟩) 1 1 [.slice az z.length cz] rfl (fun h => by cases h) rfl (Cells.src (Cells.new _ _ _)) (fun u hu => by simp at hu;subst hu;rfl) (by unfold maxLen;omega) (by omega) (by simp;omega) ?_;intro a7 c7 w7 hown7 hb7 hg7)
      have hgA:∀ {p:Option Addr × Nat} {y:List Int},zBI Wo.heap.size W8 p y→zBI Wo.heap.size w7 p y:=fun {p y} h => OwnL.grown (OwnL.alloc (show OwnL 3 1 Wo.heap.size W8 p.1 p.2 y.length (y.map (Value.int .i64)) from h) _) hg7 (OwnL.apart (by decide) h hown)
      go_roundw
      case rel => exact ⟨j + 1,a7,c7,by omega,by go_num,rfl,zA5.snoc hps Hx.out (az,cz) (by unfold sv;exact hown7) (fun q y p h1 h2 => hgA (hsub q y p h1 h2)) (hgA ho'),hb2.trans ((b9.mono zq).trans ((((Below.refl _ _).alloc (Nat.le_refl _) _).mono (by omega)).trans hb7))⟩
      case measure => simp [intOf];omega
     | none =>
      obtain rfl:v5=.slice none 0 0:=hv
      obtain rfl:v6=.bool false:=hv6
      have w1:=R8.cell 1
      simp at w1
      cases ly
      ·have Hx2:Hid ((zBO p i hour)[j]?=some ((zBV r.legs s (lastH (hrF p i j))).getD [])):=Lib.hid Hx0.out
       clear Hx0
       clear hz1
       have hrun':=fun (e:Ext W8) => hrun ⟨e.to,b8.trans (e.below.mono b8.size)⟩
       dsimp only at hrun'
       obtain ⟨z,hz⟩:∃ z,lastH (hrF p i j)=z:=⟨_,rfl⟩
       have hzb:=lastb
       rw [hz] at hzb Hx2
       have hl:=fun X (b:Below W8.heap.size W8 X) => zHA Sb (hrF p i j) z (Lib.hid hz) X ((hSC.below b8).below b) (hh i j hil hjl)
       clear hz lastb
       have htk2:=fun X (b:Below W8.heap.size W8 X) => zOn al ca r.legs false z l3 Hlok.out Hlas.out s X (by omega) (by omega) ((eL.below b8).below b)
       obtain ⟨o2,ho2⟩:∃ o,zBV r.legs s z=o:=⟨_,rfl⟩
       rw [ho2] at htk2 Hx2
       have hzl2:=zDZ r.legs s z
       rw [ho2] at hzl2
       have Hzl2:=Lib.hid hzl2
       clear ho2 hzl2
       have y0:=R8.cell 0
       have y1:=R8.cell 1
       have ly8:=R8.lt
       have x0:=zAA b8 pq0
       have x3:=zAA b8 pq3
       have lx8:=zAK x0
       have u0:=zAA b8 s0'
       have lu8:=zAK u0
       simp at y0 y1
       go_wp2
       (refine zAD 23 [] [] 84 [true,true,true,true,true,true,true,true,true,true,true,true,true,true,true,true,true,true,false,false,false,false,false] [zC6 W8.heap.size o2,zC6 W8.heap.size o2,SlcV W8.heap.size o2,IsV o2,SlcV W8.heap.size o2] (by kernel_rfl) (by kernel_rfl) rfl (zAB (fun v w w' h hb => h.kept hb) (zAB (fun v w w' h hb => h.kept hb) (zAB (fun v w w' h hb => h.kept hb) (zAB (fun v w w' h hb => h.kept hb) (zAB (fun v w w' h hb => h.kept hb) zAR))))) ?_;simp only [zAU,List.filterMap_cons,List.filterMap_nil,zzH,zzI,zzJ];(repeat (refine zAM _ rfl (fun w => (by go_simp;rfl)) ?_));refine zAS ?_;simp only [zAF,zAt,Act.put,zzG,zzE,zzF,zzA,zzB,zzC,zzD];(repeat (refine zAL (fun K hK => ?_);go_simp;first | (refine hK _ ?_;clear hK K) | (apply Exists.intro;refine ⟨fun ex => ?_,hK _ ?_⟩;((go_at_call 157;with_reducible exact hl _ ex.below));clear hK K)));refine zAQ ?_;simp only [zAT,under,zAZ,and_true,List.nil_append,List.cons_append])
       refine ⟨⟨?_,?_,?_,?_,?_⟩,?_⟩
       ·intro e
        go_simp
        refine (htk2 _ e.below).mono ?_
        rintro _ _ ⟨⟨v,rfl,hv⟩,hb⟩
        exact ⟨hb,hv.base_le e.size⟩
       ·intro e v1 h1
        go_simp
        exact ⟨Below.refl _ _,h1 (by kernel_rfl)⟩
       ·intro e v1 _ v2 h2
        have h2':=h2 (by kernel_rfl)
        cases o2 with
        | none =>
         obtain rfl:v2=.tuple #[.slice none 0 0,.bool false]:=h2'
         go_simp
         exact ⟨Below.refl _ _,rfl⟩
        | some z =>
         obtain ⟨a,c,rfl,ho⟩:=h2'
         go_simp
         exact ⟨Below.refl _ _,a,c,rfl,ho⟩
       ·intro e v1 _ v2 h2 v3 _
        have h2':=h2 (by kernel_rfl)
        cases o2 with
        | none =>
         obtain rfl:v2=.tuple #[.slice none 0 0,.bool false]:=h2'
         go_simp
         exact ⟨Below.refl _ _,rfl⟩
        | some z =>
         obtain ⟨a,c,rfl,ho⟩:=h2'
         go_simp
         exact ⟨Below.refl _ _,rfl⟩
       ·intro e v1 _ v2 _ v3 h3 v4 _
        go_simp
        exact ⟨Below.refl _ _,h3 (by kernel_rfl)⟩
       intro e
       rintro v1 - v2 - v3 - v5 - v4 hv4
       simp only [Act.put,zzG,zzE,zzF]
       have he9:=e.below
       obtain ⟨W9,hW9⟩:∃ x:World,x=e.to:=⟨_,rfl⟩
       rw [← hW9] at he9 hv4 ⊢
       clear hW9 e hl htk2 hrun' y0 y1 ly8 x0 x3 lx8 u0 lu8
       have z9:=he9.size
       have b9:=b8.trans (he9.mono b8.size)
       cases o2 with
       | none =>
        obtain rfl:v4=.slice none 0 0:=hv4
        have Hx:Hid ((zBO p i hour)[j]?=some []):=Lib.hid Hx2.out
        have ho' : zBI Wo.heap.size W9 (none,0) []:=OwnL.nil _ _ _ _
        have hJ9:=hJ.kept b9
        obtain ⟨ps,hps,hown,hsub⟩:=hJ9
        go_wp2_with (at_builtin;refine zBp zFO rfl _ _ rfl Wo.heap.size a6 j c6 _ rfl (hown.alloc _) (some ⟨W9.heap.size,0,none⟩) 1 1 [.slice none 0 0] rfl (fun h => by cases h) rfl (Cells.src (Cells.new _ _ _)) (fun u hu => by simp at hu;subst hu;rfl) (by unfold maxLen;omega) (by omega) (by simp;omega) ?_;intro a7 c7 w7 hown7 hb7 hg7)
        have hgA:∀ {p:Option Addr × Nat} {y:List Int},zBI Wo.heap.size W9 p y→zBI Wo.heap.size w7 p y:=fun {p y} h => OwnL.grown (OwnL.alloc (show OwnL 3 1 Wo.heap.size W9 p.1 p.2 y.length (y.map (Value.int .i64)) from h) _) hg7 (OwnL.apart (by decide) h hown)
        go_roundw
        case rel => exact ⟨j + 1,a7,c7,by omega,by go_num,rfl,zA5.snoc hps Hx.out (none,0) (by unfold sv;exact hown7) (fun q y p h1 h2 => hgA (hsub q y p h1 h2)) (hgA ho'),hb2.trans ((b9.mono zq).trans ((((Below.refl _ _).alloc (Nat.le_refl _) _).mono (by omega)).trans hb7))⟩
        case measure => simp [intOf];omega
       | some z2 =>
        obtain ⟨az,cz,rfl,oz⟩:=hv4
        have hz3:z2.length≤3:=by have:=Hzl2.out z2 rfl;omega
        have Hx:Hid ((zBO p i hour)[j]?=some z2):=Lib.hid Hx2.out
        have ho' : zBI Wo.heap.size W9 (az,cz) z2:=OwnL.base_le oz (by omega)
        have hJ9:=hJ.kept b9
        obtain ⟨ps,hps,hown,hsub⟩:=hJ9
        go_wp2_with (at_builtin;refine zBp zFO rfl _ _ rfl Wo.heap.size a6 j c6 _ rfl (hown.alloc _) (some ⟨W9.heap.size,0,none⟩) 1 1 [.slice az z2.length cz] rfl (fun h => by cases h) rfl (Cells.src (Cells.new _ _ _)) (fun u hu => by simp at hu;subst hu;rfl) (by unfold maxLen;omega) (by omega) (by simp;omega) ?_;intro a7 c7 w7 hown7 hb7 hg7)
        have hgA:∀ {p:Option Addr × Nat} {y:List Int},zBI Wo.heap.size W9 p y→zBI Wo.heap.size w7 p y:=fun {p y} h => OwnL.grown (OwnL.alloc (show OwnL 3 1 Wo.heap.size W9 p.1 p.2 y.length (y.map (Value.int .i64)) from h) _) hg7 (OwnL.apart (by decide) h hown)
        go_roundw
        case rel => exact ⟨j + 1,a7,c7,by omega,by go_num,rfl,zA5.snoc hps Hx.out (az,cz) (by unfold sv;exact hown7) (fun q y p h1 h2 => hgA (hsub q y p h1 h2)) (hgA ho'),hb2.trans ((b9.mono zq).trans ((((Below.refl _ _).alloc (Nat.le_refl _) _).mono (by omega)).trans hb7))⟩
        case measure => simp [intOf];omega
      ·have Hx:Hid ((zBO p i hour)[j]?=some []):=Lib.hid Hx0.out
       have ho' : zBI Wo.heap.size W8 (none,0) []:=OwnL.nil _ _ _ _
       have b9:=b8
       have hJ9:=hJ.kept b9
       obtain ⟨ps,hps,hown,hsub⟩:=hJ9
       go_wp2_with (at_builtin;refine zBp zFO rfl _ _ rfl Wo.heap.size a6 j c6 _ rfl (hown.alloc _) (some ⟨W8.heap.size,0,none⟩) 1 1 [.slice none 0 0] rfl (fun h => by cases h) rfl (Cells.src (Cells.new _ _ _)) (fun u hu => by simp at hu;subst hu;rfl) (by unfold maxLen;omega) (by omega) (by simp;omega) ?_;intro a7 c7 w7 hown7 hb7 hg7)
       have hgA:∀ {p:Option Addr × Nat} {y:List Int},zBI Wo.heap.size W8 p y→zBI Wo.heap.size w7 p y:=fun {p y} h => OwnL.grown (OwnL.alloc (show OwnL 3 1 Wo.heap.size W8 p.1 p.2 y.length (y.map (Value.int .i64)) from h) _) hg7 (OwnL.apart (by decide) h hown)
       go_roundw
       case rel => exact ⟨j + 1,a7,c7,by omega,by go_num,rfl,zA5.snoc hps Hx.out (none,0) (by unfold sv;exact hown7) (fun q y p h1 h2 => hgA (hsub q y p h1 h2)) (hgA ho'),hb2.trans ((b9.mono zq).trans ((((Below.refl _ _).alloc (Nat.le_refl _) _).mono (by omega)).trans hb7))⟩
       case measure => simp [intOf];omega
    ·obtain rfl:j=p.routes.length:=by omega
     have hT2:=hT.kept hb2
     obtain ⟨ps,hps,hown,hsub⟩:=hT2
     have hJ' : zBH w.heap.size wr (a6,c6) (zBO p i hour) (zBO p i hour).length:=by rw [Hlrow.out];exact hJ.base_le zb
     have wA:∀ o,Below wr.heap.size wr (wr.alloc o):=fun o => (Below.refl _ _).alloc (Nat.le_refl _) _
     go_wp2_with (at_builtin;refine zBp zMt rfl _ _ rfl w.heap.size a' i c' _ rfl (hown.alloc _) (some ⟨wr.heap.size,0,none⟩) 1 1 [.slice a6 p.routes.length c6] rfl (fun h => by cases h) rfl (Cells.src (Cells.new _ _ _)) (fun u hu => by simp at hu;subst hu;rfl) (by unfold maxLen;omega) (by omega) (by simp;omega) ?_;intro a7 c7 w7 hown7 hb7 hg7)
     have hgI:∀ o {p:Option Addr × Nat} {y:List Int},(wr.alloc o).grownBy w7 (Value.slice a' i c').ownBlock→zBI w.heap.size wr p y→zBI w.heap.size w7 p y:=fun o {p y} hg7 h => OwnL.grown (OwnL.alloc h o) hg7 (OwnL.apart (by decide) h hown)
     have hgL:∀ {p:Option Addr × Nat} {y:List (List Int)},zBH w.heap.size wr p y y.length→zBH w.heap.size w7 p y y.length:=fun {p y} h => by
      obtain ⟨qs,q1,q2,q3⟩:=h
      exact ⟨qs,q1,OwnL.grown (OwnL.alloc q2 _) hg7 (OwnL.apart (by decide) q2 hown),fun q x p hx hp => hgI _ hg7 (q3 q x p hx hp)⟩
     go_roundw
     case rel => exact ⟨i + 1,a7,c7,by omega,by go_num,rfl,zA5.snoc hps HxT.out (a6,c6) (by unfold sv;simp only [Hlrow.out];exact hown7) (fun q y p h1 h2 => hgL (hsub q y p h1 h2)) (hgL hJ'),((hb.trans (hb2.mono zb)).trans ((wA _).mono (by omega))).trans hb7⟩
     case measure => simp [intOf];omega
  ·obtain rfl:i=hours.length:=by omega
   go_wp2
   go_ret
   exact ⟨⟨a',c',rfl,hT⟩,hb⟩
def zCa (p:Post) (l:List Ent):Int:=if zA7 p l≠0 then zA7 p l else if zOR p l then 0 else 9
def zDU (p:Post) (l:List Ent):List (List (List Int)):=if zA7 p l≠0 then [] else match zDI p l with
 | some z => zDG p z
 | none => []
def zHZ (E:Int) (t:List (List (List Int))) (e:Ending) (w' : World):Prop:=∃ a c,e=.returned (.tuple #[.slice a t.length c,.int .i64 E])∧zCc w' a t∧(a=none→c=0)
theorem zHu {p:Post} {l:List Ent}:∀ (r i:Nat) (f:Int) (z:List Int),zB5 p l r i f=some z→z.length=r
 | 0,i,f,z,h => by rw [zB5] at h;cases h;rfl
 | r + 1,i,f,z,h => by
  rw [zB5] at h
  obtain ⟨j,_,hj⟩:=List.exists_of_findSome?_eq_some h
  split at hj
  ·rw [Option.map_eq_some_iff] at hj
   obtain ⟨y,hy,rfl⟩:=hj
   rw [List.length_cons,zHu r (i + 1) _ y hy]
  ·cases hj
theorem zKH (p:Post) (z:List Int):(zDG p z).length=z.length:=by simp [zDG]
theorem zKv (a:Option Addr) (c:Nat) (ar:Option Addr) (cr:Nat) (p:Post) (al:Option Addr) (l:List Ent) (cl:Nat) (w:World) (hs:IntsAt w a p.sends) (hr:zAb w ar p.routes) (sm:PostSmall p) (he:zCX w al l) (hl:l.length≤1000) (E:Int) (hE:zA7 p l=E) (hne:E≠0) :
  Calls Tryz.prog 34 #[.agg #[.slice a p.sends.length c,.slice ar p.routes.length cr,.int .i64 p.pat],.slice al l.length cl] w fun e w' => zHZ E [] e w'∧Below w.heap.size w w':=by
 have bk:=fun W (b:Below w.heap.size w W) => zEg a c ar cr p al l cl W (hs.below b) (hr.below b) sm (he.below b) (by omega)
 rw [hE] at bk
 have hne1:(E != 0)=true:=by simpa using hne
 have hbd:0≤E∧E≤3:=by rw [← hE];exact zLF p l
 obtain ⟨W0,hW0⟩:∃ z:World,z=w.alloc (.cells #[.slice a p.sends.length c,.slice ar p.routes.length cr,.int .i64 p.pat] 51):=⟨_,rfl⟩
 have t0:Below w.heap.size w W0:=by rw [hW0];exact (Below.refl _ _).alloc (Nat.le_refl _) _
 have C0:Cells W0 w.heap.size #[.slice a p.sends.length c,.slice ar p.routes.length cr,.int .i64 p.pat] 51:=by rw [hW0];exact Cells.new _ _ _
 clear hE
 go_enter Tryz.func34,Tryz.ntmps34
 go_wp2_with fail
 rw [← hW0]
 clear hW0
 go_at_call 94
 with_reducible refine (bk _ t0).mono ?_
 rintro e w1 ⟨rfl,hb1⟩
 have t1:Below w.heap.size w w1:=t0.trans (hb1.mono t0.size)
 have C1:=C0.below hb1
 have k0:=C1.cell 0
 have k1:=C1.cell 1
 have k2:=C1.cell 2
 have lC:=C1.lt
 simp at k0 k1 k2
 clear bk C0
 go_wp2_with fail
 go_ret2
 exact ⟨⟨none,0,rfl,zCc.nil _ _,fun _ => rfl⟩,t1⟩
theorem zKu (a:Option Addr) (c:Nat) (ar:Option Addr) (cr:Nat) (p:Post) (al:Option Addr) (l:List Ent) (cl:Nat) (w:World) (hs:IntsAt w a p.sends) (hr:zAb w ar p.routes) (sm:PostSmall p) (he:zCX w al l) (hl:l.length≤1000) (hE:zA7 p l=0) (hz:zDI p l=none) :
  Calls Tryz.prog 34 #[.agg #[.slice a p.sends.length c,.slice ar p.routes.length cr,.int .i64 p.pat],.slice al l.length cl] w fun e w' => zHZ 9 [] e w'∧Below w.heap.size w w':=by
 have bk:=fun W (b:Below w.heap.size w W) => zEg a c ar cr p al l cl W (hs.below b) (hr.below b) sm (he.below b) (by omega)
 rw [hE] at bk
 obtain ⟨hp0,l8,_⟩:=zEh hE
 have wrk:=fun W (b:Below w.heap.size w W) => zFE a c ar cr p W (hs.below b) (hr.below b) hp0
 have sch:=fun Bw W (h:zBt p a c ar cr Bw W) (b:Below w.heap.size w W) => zGX p l a c ar cr Bw al cl W h (hs.below b) (hr.below b) (he.below b) hp0 hl
 rw [hz] at sch
 have HP:=Lib.hid hp0
 obtain ⟨W0,hW0⟩:∃ z:World,z=w.alloc (.cells #[.slice a p.sends.length c,.slice ar p.routes.length cr,.int .i64 p.pat] 51):=⟨_,rfl⟩
 have t0:Below w.heap.size w W0:=by rw [hW0];exact (Below.refl _ _).alloc (Nat.le_refl _) _
 have C0:Cells W0 w.heap.size #[.slice a p.sends.length c,.slice ar p.routes.length cr,.int .i64 p.pat] 51:=by rw [hW0];exact Cells.new _ _ _
 clear hE hz hp0
 go_enter Tryz.func34,Tryz.ntmps34
 go_wp2_with fail
 rw [← hW0]
 clear hW0
 go_at_call 94
 with_reducible refine (bk _ t0).mono ?_
 rintro e w1 ⟨rfl,hb1⟩
 have t1:Below w.heap.size w w1:=t0.trans (hb1.mono t0.size)
 have C1:=C0.below hb1
 have k0:=C1.cell 0
 have k1:=C1.cell 1
 have k2:=C1.cell 2
 have lC:=C1.lt
 simp at k0 k1 k2
 clear bk C0
 go_wp2_with fail
 go_at_call 86
 with_reducible refine (wrk _ t1).mono ?_
 rintro e w2 ⟨Bw,rfl,hBw,hW,hb2⟩
 have t2:Below w.heap.size w w2:=t1.trans (hb2.mono t1.size)
 clear k0 k1 k2 lC C1 wrk
 go_wp2_with fail
 go_at_call 95
 refine (sch Bw _ hW t2).mono ?_
 rintro e w3 ⟨hsp,hb3⟩
 obtain rfl:e=.returned (.tuple #[.slice none 0 0,.bool false]):=hsp
 have t3:=t2.trans (hb3.mono t2.size)
 clear sch
 go_wp2_with fail
 go_ret2
 exact ⟨⟨none,0,rfl,zCc.nil _ _,fun _ => rfl⟩,t3⟩
theorem zKt (a:Option Addr) (c:Nat) (ar:Option Addr) (cr:Nat) (p:Post) (al:Option Addr) (l:List Ent) (cl:Nat) (w:World) (hs:IntsAt w a p.sends) (hr:zAb w ar p.routes) (sm:PostSmall p) (he:zCX w al l) (hl:l.length≤1000) (hE:zA7 p l=0) (z:List Int) (hz:zDI p l=some z) :
  Calls Tryz.prog 34 #[.agg #[.slice a p.sends.length c,.slice ar p.routes.length cr,.int .i64 p.pat],.slice al l.length cl] w fun e w' => zHZ 0 (zDG p z) e w'∧Below w.heap.size w w':=by
 have bk:=fun W (b:Below w.heap.size w W) => zEg a c ar cr p al l cl W (hs.below b) (hr.below b) sm (he.below b) (by omega)
 rw [hE] at bk
 obtain ⟨hp0,l8,_⟩:=zEh hE
 have wrk:=fun W (b:Below w.heap.size w W) => zFE a c ar cr p W (hs.below b) (hr.below b) hp0
 have sch:=fun Bw W (h:zBt p a c ar cr Bw W) (b:Below w.heap.size w W) => zGX p l a c ar cr Bw al cl W h (hs.below b) (hr.below b) (he.below b) hp0 hl
 rw [hz] at sch
 have HP:=Lib.hid hp0
 have lz:z.length=p.sends.length:=zHu _ _ _ z hz
 have Htl:=Lib.hid (zKH p z)
 obtain ⟨nz,hnz⟩:∃ n,z.length=n:=⟨_,rfl⟩
 have hnz2:nz≤p.sends.length:=by omega
 have Hnz:=Lib.hid hnz
 obtain ⟨W0,hW0⟩:∃ z:World,z=w.alloc (.cells #[.slice a p.sends.length c,.slice ar p.routes.length cr,.int .i64 p.pat] 51):=⟨_,rfl⟩
 have t0:Below w.heap.size w W0:=by rw [hW0];exact (Below.refl _ _).alloc (Nat.le_refl _) _
 have C0:Cells W0 w.heap.size #[.slice a p.sends.length c,.slice ar p.routes.length cr,.int .i64 p.pat] 51:=by rw [hW0];exact Cells.new _ _ _
 clear hE hz hp0 lz hnz
 go_enter Tryz.func34,Tryz.ntmps34
 go_wp2_with fail
 rw [← hW0]
 clear hW0
 go_at_call 94
 with_reducible refine (bk _ t0).mono ?_
 rintro e w1 ⟨rfl,hb1⟩
 have t1:Below w.heap.size w w1:=t0.trans (hb1.mono t0.size)
 have C1:=C0.below hb1
 have k0:=C1.cell 0
 have k1:=C1.cell 1
 have k2:=C1.cell 2
 have lC:=C1.lt
 simp at k0 k1 k2
 clear bk C0
 go_wp2_with fail
 go_at_call 86
 with_reducible refine (wrk _ t1).mono ?_
 rintro e w2 ⟨Bw,rfl,hBw,hW,hb2⟩
 have t2:Below w.heap.size w w2:=t1.trans (hb2.mono t1.size)
 clear k0 k1 k2 lC C1 wrk
 go_wp2_with fail
 go_at_call 95
 refine (sch Bw _ hW t2).mono ?_
 rintro e w3 ⟨⟨az,cz,rfl,iz⟩,hb3⟩
 have t3:=t2.trans (hb3.mono t2.size)
 have hW3:=hW.below hb3
 have htr:=zLZ a c ar cr p Bw az z cz w3 hW3 (hs.below t3) (hr.below t3) iz HP (by rw [Hnz.out];exact hnz2)
 rw [Hnz.out] at htr ⊢
 clear sch
 go_wp2_with fail
 go_at_call 96
 refine htr.mono ?_
 rintro e w4 ⟨⟨a4,c4,rfl,o4⟩,hb4⟩
 go_wp2_with fail
 go_ret2
 have o4' : zB2 w3.heap.size w4 (a4,c4) (zDG p z) (zDG p z).length:=by rw [Htl.out,Hnz.out];exact o4
 exact ⟨⟨a4,c4,by rw [Htl.out,Hnz.out];rfl,zB2.at o4',fun h => by subst h;exact (zA5.isnil o4).2⟩,t3.trans (hb4.mono t3.size)⟩
theorem zPv (a:Option Addr) (c:Nat) (ar:Option Addr) (cr:Nat) (p:Post) (al:Option Addr) (l:List Ent) (cl:Nat) (w:World) (E:Int) (t:List (List (List Int))) (n:Nat) (hE:Hid (zCa p l=E)) (ht:Hid (zDU p l=t)) (hn:Hid (t.length=n)) (hs:IntsAt w a p.sends) (hr:zAb w ar p.routes) (sm:Hid (PostSmall p)) (he:zCX w al l) (hl:l.length≤1000) :
  Calls Tryz.prog 34 #[.agg #[.slice a p.sends.length c,.slice ar p.routes.length cr,.int .i64 p.pat],.slice al l.length cl] w fun e w' => (∃ a c,e=.returned (.tuple #[.slice a n c,.int .i64 E])∧zCc w' a t∧(a=none→c=0))∧Below w.heap.size w w':=by
 rw [← hn.out,← ht.out,← hE.out]
 clear hn ht hE
 show Calls _ _ _ _ fun e w' => zHZ (zCa p l) (zDU p l) e w'∧_
 by_cases h0:zA7 p l=0
 ·cases hz:zDI p l with
  | none =>
   rw [show zCa p l=9 by unfold zCa zOR;rw [if_neg (by simpa using h0),hz];rfl,show zDU p l=[] by unfold zDU;rw [if_neg (by simpa using h0),hz]]
   exact zKu a c ar cr p al l cl w hs hr sm.out he hl h0 hz
  | some z =>
   rw [show zCa p l=0 by unfold zCa zOR;rw [if_neg (by simpa using h0),hz];rfl,show zDU p l=zDG p z by unfold zDU;rw [if_neg (by simpa using h0),hz]]
   exact zKt a c ar cr p al l cl w hs hr sm.out he hl h0 z hz
 ·rw [show zCa p l=zA7 p l by unfold zCa;rw [if_pos h0],show zDU p l=[] by unfold zDU;rw [if_pos h0]]
  exact zKv a c ar cr p al l cl w hs hr sm.out he hl _ rfl h0
section
variable {p:Post} (h0:zA4 p=0) {i:Nat} (hi:i < p.sends.length)
include h0
include hi
end
theorem zB2.base_le {B B' : Nat} {w:World} {p:Option Addr × Nat} {t:List (List (List Int))} {n:Nat} (h:zB2 B w p t n) (hb:B'≤B):zB2 B' w p t n:=(zA5.base_le h hb).sub fun _ _ h => zBH.base_le h hb
section
variable {f g:Hrs} {T:Nat→Nat→Bool} {M:Nat→Nat→Nat} {a b:Nat}
end
theorem zMH {p:Post} {l:List Ent} {r i:Nat} {f:Int}:(zB5 p l (r + 1) i f).isSome=true↔∃ h:Nat,h < 102∧canB p i h=true∧zJC l (zC7 p i f h) i=true∧(zB5 p l r (i + 1) (zC7 p i f h).at_).isSome=true:=by
 rw [zB5,List.findSome?_isSome_iff]
 simp only [List.mem_range]
 constructor
 ·rintro ⟨h,hh,hx⟩
  by_cases hc:(canB p i h && zJC l (zC7 p i f h) i)=true
  ·rw [if_pos hc,Option.isSome_map] at hx
   rw [Bool.and_eq_true] at hc
   exact ⟨h,hh,hc.1,hc.2,hx⟩
  ·rw [if_neg hc] at hx;cases hx
 ·rintro ⟨h,hh,h1,h2,hx⟩
  refine ⟨h,hh,?_⟩
  rw [if_pos (by rw [h1,h2];rfl),Option.isSome_map]
  exact hx
def zEk (w:World) (g:Nat) (E:TypeId) (xs:List Value):Prop:=∃ cur:Array Value,Cells w g cur E∧∀ (j:Nat) u,xs[j]?=some u→cur[j]?=some u
section
variable {w w' : World} {g:Nat} {E:TypeId} {xs:List Value}
theorem zEk.lt (h:zEk w g E xs):g < w.heap.size:=let ⟨_,h1,_⟩:=h;h1.lt
theorem zEk.cell (h:zEk w g E xs) {j:Nat} {u:Value} (hu:xs[j]?=some u):w.cell? ⟨g,j,none⟩=some u:=let ⟨_,h1,h2⟩:=h;(h1.cell j).trans (h2 j u hu)
theorem zEk.frozen (h:zEk w g E xs) (j:Nat):w.frozen? ⟨g,j,none⟩=false:=let ⟨_,h1,_⟩:=h;h1.frozen j
theorem zEk.below (h:zEk w g E xs) (hb:Below w.heap.size w w'):zEk w' g E xs:=let ⟨cur,h1,h2⟩:=h;⟨cur,h1.below hb,h2⟩
theorem zEk.set (h:zEk w g E xs) (k:Nat) (v:Value):zEk (w.setCell ⟨g,k,none⟩ v) g E (xs.set k v):=by
 obtain ⟨cur,h1,h2⟩:=h
 refine ⟨_,h1.set k v,fun j u hu => ?_⟩
 rw [List.getElem?_set] at hu
 rw [Array.getElem?_setIfInBounds]
 by_cases e:k=j
 ·subst e
  rw [if_pos rfl] at hu ⊢
  split at hu
  ·rename_i hlt
   have:=h2 k _ (List.getElem?_eq_getElem hlt)
   rw [if_pos (Array.getElem?_eq_some_iff.1 this).1]
   exact hu
  ·cases hu
 ·rw [if_neg e] at hu ⊢
  exact h2 j u hu
theorem _root_.Go.Proofs.YticjeianiahppaaGreatDoor.OwnL.row {size base c n:Nat} (h:OwnL E size base w (some ⟨g,0,none⟩) c n xs):base≤g∧zEk w g E xs:=by
 rcases h.form with ⟨h1,_⟩ | ⟨g',h1,h2,_,_,_,_,hc⟩
 ·cases h1
 ·cases h1
  refine ⟨h2,?_⟩
  rcases h.2 with ⟨hn,_⟩ | ⟨g'',cap,cur,hv,hbg,hg,_⟩
  ·simp at hn
  ·simp only [Value.slice.injEq,Option.some.injEq,Addr.mk.injEq,and_true] at hv
   obtain ⟨rfl,_⟩:=hv
   exact ⟨cur,hg,fun j u hu => by rw [← Cells.cell hg j];exact hc j u hu⟩
end
theorem zM1 (p:Post) (i:Nat):∀ k,latN p i k≤101
 | 0 => by simp [latN]
 | k + 1 => by have:=zM1 p i k;rw [zDR];split <;> omega
theorem zJl (p:Post) (i:Nat):∀ k j,j < k→zCy p j=false→latN p i k≤lastH (hrF p i j)
 | k + 1,j,hj,hl => by
  rw [zDR]
  by_cases e:j=k
  ·subst e;rw [hl];simp;omega
  ·have:=zJl p i k j (by omega) hl
   split <;> omega
theorem zIr (p:Post) (i:Nat):∀ k,latN p i k=101∨∃ j,j < k∧latN p i k=lastH (hrF p i j)
 | 0 => .inl rfl
 | k + 1 => by
  rw [zDR]
  split
  ·rcases zIr p i k with h | ⟨j,hj,h⟩
   ·exact .inl h
   ·exact .inr ⟨j,by omega,h⟩
  ·by_cases e:latN p i k≤lastH (hrF p i k)
   ·rw [Int.min_eq_left e]
    rcases zIr p i k with h | ⟨j,hj,h⟩
    ·exact .inl h
    ·exact .inr ⟨j,by omega,h⟩
   ·rw [Int.min_eq_right (by omega)]
    exact .inr ⟨k,by omega,rfl⟩
theorem zPV {p:Post} (h0:zA4 p=0) {i:Nat} (hi:i < p.sends.length):∃ m:Nat,m≤101∧zDk p i=(m:Int)∧canB p i m=true∧∀ h,h≤101→canB p i h=true→h≤m:=by
 have hne:=zDj h0 hi
 have hat:=zIr p i p.routes.length
 have hle:=zM1 p i p.routes.length
 have hlow:=zJl p i p.routes.length
 have hnn:0≤latN p i p.routes.length:=by
  rcases hat with h | ⟨j,hj,h⟩
  ·omega
  ·obtain ⟨m,_,_,h2,_⟩:=zE9 (hne j hj);omega
 unfold zDk
 refine ⟨(latN p i p.routes.length).toNat,by omega,by omega,zJK.2 ⟨fun k hk => ?_,?_⟩,fun h hh hc => ?_⟩
 ·unfold badK
  cases hl:zCy p k with
  | true => rfl
  | false => have:=hlow k hk hl;simp;omega
 ·rcases hat with h | ⟨j,hj,h⟩
  ·left;omega
  ·obtain ⟨m,hm,h1,h2,_⟩:=zE9 (hne j hj)
   right
   refine ⟨j,hj,by omega,?_⟩
   rw [show (latN p i p.routes.length).toNat=m by omega];exact h1
 ·obtain ⟨h1,h2⟩:=zJK.1 hc
  rcases hat with e | ⟨j,hj,e⟩
  ·omega
  ·rcases Nat.lt_or_ge 0 p.routes.length with hr | hr
   ·-- the number is that of a route that cannot be lost, or 101
    have key:∀ k,k≤p.routes.length→(h:Int)≤latN p i k:=by
     intro k
     induction k with
     | zero => intro _;simp [latN];omega
     | succ k ih =>
      intro hk
      rw [zDR]
      have hb:=h1 k (by omega)
      unfold badK at hb
      split
      ·exact ih (by omega)
      ·rename_i hl
       have:=ih (by omega)
       simp [hl] at hb
       omega
    have:=key _ (Nat.le_refl _)
    omega
   ·omega
end Go.Proofs.YticjeianiahppaaGreatDoor.Cps
