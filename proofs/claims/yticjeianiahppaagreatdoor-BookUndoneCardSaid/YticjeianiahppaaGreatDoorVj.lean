/- book, laws: what two more lines come to -/
import Derived.Test.YticjeianiahppaaGreatDoorVh
namespace Go.Proofs.YticjeianiahppaaGreatDoor
set_option linter.unusedVariables false
set_option linter.unusedSimpArgs false
set_option linter.unnecessarySimpa false
open Go.RowKit Go.Flow
theorem play_as (S:BSt) (R:List Int) (bz:Nat) (a:Option Addr) (c n:Nat) (l:List ByteArray) (w:World) (hS:afterL l=S) (hR:playE BSt.begun l=R) (en:l.length=n) (h0:faultL l=0) (hl:StrsAt w a l) (hv:Vars w) (hbz:bz < w.heap.size) :
  Calls Tryz.prog 28 #[.slice a n c] w fun e w' => (∃ A ae ce,e=.returned (.tuple #[.agg (stCells S A),.slice ae n ce,.int .i64 0])∧Lists w' S A∧IntsAt w' ae R)∧Below w.heap.size w w':=by
 subst en hS hR
 have h50:=(fault_ok h0).1
 refine (Play_any bz a c l w hl (by omega) hv hbz).mono ?_
 rintro e w' ⟨⟨_,A,ae,ce,rfl,hL,he⟩ | ⟨h3,_⟩,b⟩
 ·exact ⟨⟨A,ae,ce,rfl,hL.shows (shows_outL _ _),he⟩,b⟩
 ·rw [h0] at h3;cases h3
theorem undone_lost (l:List ByteArray) (h48:l.length≤48) (h0:faultL l=0) (a b:Nat) (ha:a < 300) (hb:b < 300) :
  faultL (l ++ [lineB .lost [(a:Int),(b:Int)],lineB .found [((afterL l).lost.length:Int)]])=0∧afterL (l ++ [lineB .lost [(a:Int),(b:Int)],lineB .found [((afterL l).lost.length:Int)]])=afterL l ∧
   ((playE BSt.begun (l ++ [lineB .lost [(a:Int),(b:Int)],lineB .found [((afterL l).lost.length:Int)]])).getD l.length 0=0↔(playE BSt.begun (l ++ [lineB .lost [(a:Int),(b:Int)],lineB .found [((afterL l).lost.length:Int)]])).getD (l.length + 1) 0=0):=by
 have hk:=(after_few l).lost
 have p1:=lineB_parse .lost [(a:Int),(b:Int)] rfl (by simp;omega)
 have p2:=lineB_parse .found [((afterL l).lost.length:Int)] rfl (by simp;omega)
 have z1:=lineB_size .lost [(a:Int),(b:Int)] (by simp) (by simp;omega)
 have z2:=lineB_size .found [((afterL l).lost.length:Int)] (by simp) (by simp;omega)
 refine ⟨fault_more h0 (by simp;omega) (by simp;exact ⟨z1,z2⟩),undo_all l (undo_lost p1 p2)⟩
theorem undone_came (l:List ByteArray) (h48:l.length≤48) (h0:faultL l=0) (c:Cmd) (hc:c=.came∨c=.skipped) (a b:Nat) (ha:a < 300) (hb:b < 300) :
  faultL (l ++ [lineB c [(a:Int),(b:Int)],lineB .strike [((afterL l).journal.length:Int)]])=0∧afterL (l ++ [lineB c [(a:Int),(b:Int)],lineB .strike [((afterL l).journal.length:Int)]])=afterL l ∧
   ((playE BSt.begun (l ++ [lineB c [(a:Int),(b:Int)],lineB .strike [((afterL l).journal.length:Int)]])).getD l.length 0=0↔(playE BSt.begun (l ++ [lineB c [(a:Int),(b:Int)],lineB .strike [((afterL l).journal.length:Int)]])).getD (l.length + 1) 0=0):=by
 have hk:=(after_few l).journal
 have p1:=lineB_parse c [(a:Int),(b:Int)] (by rcases hc with rfl | rfl <;> rfl) (by simp;omega)
 have p2:=lineB_parse .strike [((afterL l).journal.length:Int)] rfl (by simp;omega)
 have z1:=lineB_size c [(a:Int),(b:Int)] (by simp) (by simp;omega)
 have z2:=lineB_size .strike [((afterL l).journal.length:Int)] (by simp) (by simp;omega)
 refine ⟨fault_more h0 (by simp;omega) (by simp;exact ⟨z1,z2⟩),undo_all l (undo_came hc p1 p2)⟩
theorem getD_read {w:World} {a:Option Addr} {R:List Int} (h:IntsAt w a R) {k:Nat} (hk:k < R.length):∃ b off,a=some ⟨b,off,none⟩∧b < w.heap.size∧w.cell? ⟨b,off + k,none⟩=some (.int .i64 (R.getD k 0)):=h k hk
end Go.Proofs.YticjeianiahppaaGreatDoor
