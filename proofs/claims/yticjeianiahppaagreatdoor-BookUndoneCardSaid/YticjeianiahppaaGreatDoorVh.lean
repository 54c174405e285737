/- book, laws: calls with named values; lines of numbers as bytes -/
import Derived.Test.YticjeianiahppaaGreatDoorVf
namespace Go.Proofs.YticjeianiahppaaGreatDoor
set_option linter.unusedVariables false
set_option linter.unusedSimpArgs false
set_option linter.unnecessarySimpa false
open Go.RowKit Go.Flow
theorem list_as (a:Option Addr) (c n:Nat) (l:List ByteArray) (w:World) (en:l.length=n) (hl:StrsAt w a l) (hn:a=none→c=0) (h:l.length≤100000) :
  Calls Tryz.prog 38 #[.slice a n c] w fun e w' => (∃ a' c',e=.returned (.slice a' n c')∧OwnL 9 1 w.heap.size w' a' c' n (l.map Value.string))∧Below w.heap.size w w':=by
 subst en;exact list_any a c l w hl hn h
theorem Exposed_as {E:Int} {X:List Int} (a:Option Addr) (c n:Nat) (l:List ByteArray) (w:World) (hE:exposedE l=E) (hX:exposedL l=X) (en:l.length=n) (hl:StrsAt w a l) (h:l.length≤9223372036854775807) (hv:Vars w) :
  Calls Tryz.prog 45 #[.slice a n c] w fun e w' => RetI E X e w'∧Below w.heap.size w w':=by
 subst en hE hX;exact Exposed_any a c l w hl h hv
theorem Owed_as {E:Int} {X:List (Int × Int)} (a:Option Addr) (c n:Nat) (l:List ByteArray) (w:World) (hE:owedE l=E) (hX:owedL l=X) (en:l.length=n) (hl:StrsAt w a l) (h:l.length≤9223372036854775807) (hv:Vars w) :
  Calls Tryz.prog 50 #[.slice a n c] w fun e w' => RetR E X e w'∧Below w.heap.size w w':=by
 subst en hE hX;exact Owed_any a c l w hl h hv
theorem Text_as (n:Int) (s:ByteArray) (w:World) (hs:s=⟨(Lib.itoa n).toArray⟩) (hn:0≤n∧n < 1000):Calls Tryz.prog 63 #[.int .i64 n] w fun e w' => e=.returned (.string s)∧Below w.heap.size w w':=by
 subst hs
 have:=Text_any n.toNat w (by omega)
 rwa [Int.toNat_of_nonneg hn.1] at this
theorem mod_small {a:Int} (h:0≤a) (m:Nat) (hm:0 < m):∃ k:Nat,k < m∧a.tmod (m:Int)=(k:Int):=by
 refine ⟨a.toNat % m,Nat.mod_lt _ hm,?_⟩
 have:a=((a.toNat:Nat):Int):=by omega
 rw [this];simp [Int.tmod]
theorem bytes_ext {a b:ByteArray} (h:a.data.toList=b.data.toList):a=b:=by
 obtain ⟨⟨a⟩⟩:=a
 obtain ⟨⟨b⟩⟩:=b
 simp at h
 rw [h]
theorem lineB2 (c:Cmd) (w:ByteArray) (hw:w.data.toList=c.word ++ [32]) (a b:Int) (x y:ByteArray) (hx:x=⟨(Lib.itoa a).toArray⟩) (hy:y=⟨(Lib.itoa b).toArray⟩):w ++ x ++ ⟨#[32]⟩ ++ y=lineB c [a,b]:=by
 apply bytes_ext
 subst hx hy
 simp [lineB,lineL,hw]
theorem lineB1 (c:Cmd) (w:ByteArray) (hw:w.data.toList=c.word ++ [32]) (a:Int) (x:ByteArray) (hx:x=⟨(Lib.itoa a).toArray⟩):w ++ x=lineB c [a]:=by
 apply bytes_ext
 subst hx
 simp [lineB,lineL,hw]
theorem lineB3 (c:Cmd) (w:ByteArray) (hw:w.data.toList=c.word ++ [32]) (a b d:Int) (x y z:ByteArray) (hx:x=⟨(Lib.itoa a).toArray⟩) (hy:y=⟨(Lib.itoa b).toArray⟩) (hz:z=⟨(Lib.itoa d).toArray⟩):w ++ x ++ ⟨#[32]⟩ ++ y ++ ⟨#[32]⟩ ++ z=lineB c [a,b,d]:=by
 apply bytes_ext
 subst hx hy hz
 simp [lineB,lineL,hw]
end Go.Proofs.YticjeianiahppaaGreatDoor
