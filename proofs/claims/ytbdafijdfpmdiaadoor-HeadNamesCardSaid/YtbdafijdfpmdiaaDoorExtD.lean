/- The plain functions that the contracts of this seat's own name: what head.folded, value, Check, Get, Drop, Strip, Lower, strings.Cut, strings.Trim and the reference's Bytes answer. -/
import Derived.Test.YtbdafijdfpmdiaaDoorPHeadx0
namespace Go.Proofs.YtbdafijdfpmdiaaDoor.PHead

/-- A byte in small letters. -/
def lowB (b : UInt8) : UInt8 := if 65 ≤ b.toNat ∧ b.toNat ≤ 90 then UInt8.ofNat (b.toNat + 32) else b
/-- A text in small letters. -/
def lowS (s : ByteArray) : ByteArray := ⟨(s.data.toList.map lowB).toArray⟩
/-- May a byte stand in a name? -/
def namB (b : UInt8) : Bool := decide (97 ≤ b.toNat ∧ b.toNat ≤ 122) || decide (65 ≤ b.toNat ∧ b.toNat ≤ 90) || decide (48 ≤ b.toNat ∧ b.toNat ≤ 57) || decide (b.toNat = 45) || decide (b.toNat = 95)
/-- Is a text a name? -/
def isNam (s : ByteArray) : Bool := decide (1 ≤ s.size) && decide (s.size ≤ 30) && s.data.toList.all namB
/-- Is a text a value? -/
def isVal (s : ByteArray) : Bool := decide (s.size ≤ 200) && s.data.toList.all (fun b => decide (32 ≤ b.toNat ∧ b.toNat ≤ 126)) && (s.data.toList.head? != some 32) && (s.data.toList.getLast? != some 32)
def mayH (h : S28) : Bool := isNam h.f0 && isVal h.f1
def alk (a b : ByteArray) : Bool := isNam a && isNam b && (lowS a).data.toList == (lowS b).data.toList

def head_folded.f (a0 : ByteArray) : Option (ByteArray × Bool) := if isNam a0 then some (lowS a0, true) else some (⟨#[]⟩, false)
def head_value.f (a0 : ByteArray) : Option Bool := some (isVal a0)
def head_Lower.f (a0 : ByteArray) : Option ByteArray := if a0.size ≤ 140737488351232 then some (lowS a0) else none
def head_Check.f (l : List S28) : Option Int := some (if l.length > 16 then 5 else if l.all mayH then 0 else 40)
def getH (l : List S28) (n : ByteArray) : List S28 := l.filter fun h => alk h.f0 n
def firstV : List S28 → ByteArray
  | [] => ⟨#[]⟩
  | h :: _ => h.f1
def head_Get.f (l : List S28) (n : ByteArray) : Option (ByteArray × Int) := if l.length < 4398046511104 then some (firstV (getH l n), ((getH l n).length : Int)) else none
def head_Drop.f (l : List S28) (n : ByteArray) : Option (List S28) := if l.length < 4398046511104 then some (l.filter fun h => !alk h.f0 n) else none
def head_Strip.f (l : List S28) (p : ByteArray) : Option (List S28) := if l.length < 4398046511104 ∧ p.size ≤ 140737488351232 ∧ ∀ h ∈ l, h.f0.size ≤ 140737488351232 then some (l.filter fun h => !((lowS p).data.toList.isPrefixOf (lowS h.f0).data.toList)) else none

/-- strings.Cut at one byte: what lies ahead of the first one, what lies behind, is there one. -/
def cutB : List UInt8 → UInt8 → List UInt8 × List UInt8 × Bool
  | [], _ => ([], [], false)
  | x :: l, c => if x = c then ([], l, true) else ((x :: (cutB l c).1), (cutB l c).2.1, (cutB l c).2.2)
def strings_Cut.f (s sep : ByteArray) : Option (ByteArray × ByteArray × Bool) := if sep.size = 1 ∧ s.size ≤ 140737488351232 then some (⟨(cutB s.data.toList (sep.data.toList.headD 0)).1.toArray⟩, ⟨(cutB s.data.toList (sep.data.toList.headD 0)).2.1.toArray⟩, (cutB s.data.toList (sep.data.toList.headD 0)).2.2) else none
/-- strings.Trim at blanks and tabs (at " ", and at " \t"). -/
def trimSet (l cs : List UInt8) : List UInt8 := ((l.reverse.dropWhile (cs.contains ·)).reverse).dropWhile (cs.contains ·)
def strings_Trim.f (s c : ByteArray) : Option ByteArray := if c.data.toList = [32, 9] ∧ s.size ≤ 140737488351232 then some ⟨(trimSet s.data.toList [32, 9]).toArray⟩ else none

/-- The lines of heads. -/
def lineB (h : S28) : List UInt8 := h.f0.data.toList ++ [58, 32] ++ h.f1.data.toList ++ [13, 10]
def linesB (l : List S28) : List UInt8 := l.flatMap lineB
def numsB (l : List UInt8) : List Int := l.map fun b => (b.toNat : Int)
end Go.Proofs.YtbdafijdfpmdiaaDoor.PHead
