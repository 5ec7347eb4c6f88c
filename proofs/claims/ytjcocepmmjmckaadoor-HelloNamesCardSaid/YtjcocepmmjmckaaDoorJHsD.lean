/- The plain functions that the contracts of this seat's own name, and the tables that its walks read. -/
import Derived.Test.YtjcocepmmjmckaaDoorPHellox0
import Derived.Lib.Itoa
import Derived.Lib.ItoaNum
import Derived.Lib.AtoiAll
import Derived.Lib.LaidTab
set_option linter.unusedVariables false
namespace Go.Proofs.YtjcocepmmjmckaaDoor.PHello
open Go.RowKit Go.Proofs.YtjcocepmmjmckaaDoorW.PrintWords Go.Proofs.YtjcocepmmjmckaaDoorW.PrintLast Go.Proofs.YtjcocepmmjmckaaDoorW.PrintMore

/-- What the package-level variables hold that the walks read: the powers of ten, and the two errors of strconv. -/
def LW (w : World) : Prop :=
  Lib.TabIs Tryd.prog w "internal/strconv.uint64pow10" .u64 Lib.pow10Tab ∧
  (∃ tp p, w.var? Tryd.prog "strconv.ErrSyntax" = some #[.iface tp p]) ∧ (∃ tp p, w.var? Tryd.prog "strconv.ErrRange" = some #[.iface tp p])
theorem var_below {P : Program} {w w1 : World} {name : String} {cs : Array Value} (h : w.var? P name = some cs) (hb : Below w.heap.size w w1) : w1.var? P name = some cs := by
  unfold World.var? at h ⊢
  obtain ⟨g, hg, hm⟩ := Option.bind_eq_some_iff.mp h
  have hlt : g < w.heap.size := by
    by_cases hl : g < w.heap.size
    · exact hl
    · rw [Array.getElem?_eq_none (by omega)] at hm; cases hm
  refine Option.bind_eq_some_iff.mpr ⟨g, hg, ?_⟩
  rw [hb.block g hlt]
  exact hm
theorem LW.below {w w1 : World} (h : LW w) (hb : Below w.heap.size w w1) : LW w1 := by
  obtain ⟨h1, ⟨tp, p, h2⟩, tq, q, h3⟩ := h
  exact ⟨var_below h1 hb, ⟨tp, p, var_below h2 hb⟩, tq, q, var_below h3 hb⟩

/-- What a byte is in a host: 1 a dot, 2 a hyphen, 3 a small letter or a digit, 4 a capital, 0 none. -/
def kindB (b : UInt8) : Nat := if 97 ≤ b.toNat ∧ b.toNat ≤ 122 then 3 else if 65 ≤ b.toNat ∧ b.toNat ≤ 90 then 4 else if 48 ≤ b.toNat ∧ b.toNat ≤ 57 then 3 else if b.toNat = 45 then 2 else if b.toNat = 46 then 1 else 0
/-- The bytes of a host from a place on: how long the part is so far, what the last byte was. What the last byte is, if all may be. -/
def plainGo : List UInt8 → Nat → Nat → Option Nat
  | [], _, last => some last
  | c :: l, long, last =>
    if kindB c = 3 ∨ (kindB c = 2 ∧ last ≠ 1) then (if long + 1 > 20 then none else plainGo l (long + 1) (kindB c))
    else if kindB c = 1 ∧ last = 3 then plainGo l 0 (kindB c) else none
def plainB (s : ByteArray) : Bool := decide (plainGo s.data.toList 0 1 = some 3) && decide (s.size ≤ 60)
/-- A byte in small letters. -/
def lowB (b : UInt8) : UInt8 := if 65 ≤ b.toNat ∧ b.toNat ≤ 90 then UInt8.ofNat (b.toNat + 32) else b
def lowS (s : ByteArray) : ByteArray := ⟨(s.data.toList.map lowB).toArray⟩
/-- strings.Cut at one byte. -/
def cutB : List UInt8 → UInt8 → List UInt8 × List UInt8 × Bool
  | [], _ => ([], [], false)
  | x :: l, c => if x = c then ([], l, true) else ((x :: (cutB l c).1), (cutB l c).2.1, (cutB l c).2.2)
/-- The port that digits tell, 0 if none. -/
def portB (d : List UInt8) : Int :=
  match Lib.atoiAll d with
  | .ok v => if 1 ≤ v ∧ v ≤ 65535 ∧ Lib.itoa v = d then v else 0
  | _ => 0
def normPort (c : List UInt8 × List UInt8 × Bool) : Int := if c.2.2 = true then portB c.2.1 else 80
def normR (s : ByteArray) : ByteArray × Int × Int :=
  if normPort (cutB s.data.toList 58) ≠ 0 ∧ plainB (lowS ⟨(cutB s.data.toList 58).1.toArray⟩) = true then (lowS ⟨(cutB s.data.toList 58).1.toArray⟩, normPort (cutB s.data.toList 58), 0) else (⟨#[]⟩, 0, 60)

def host_Plain.f (s : ByteArray) : Option Int := if s.size ≤ 140737488351232 then some (if plainB s = true then 0 else 60) else none
def host_Norm.f (s : ByteArray) : Option (ByteArray × Int × Int) := if s.size ≤ 140737488351232 then some (normR s) else none
def strconv_Itoa.f (n : Int) : Option ByteArray := if -9223372036854775808 ≤ n ∧ n ≤ 9223372036854775807 then some ⟨(Lib.itoa n).toArray⟩ else none
def strings_Cut.f (s sep : ByteArray) : Option (ByteArray × ByteArray × Bool) := if sep.size = 1 ∧ s.size ≤ 140737488351232 then some (⟨(cutB s.data.toList (sep.data.toList.headD 0)).1.toArray⟩, ⟨(cutB s.data.toList (sep.data.toList.headD 0)).2.1.toArray⟩, (cutB s.data.toList (sep.data.toList.headD 0)).2.2) else none
def strings_TrimPrefix.f (s p : ByteArray) : Option ByteArray := if s.size ≤ 140737488351232 ∧ p.size ≤ 140737488351232 then some (if p.data.toList.isPrefixOf s.data.toList then s.extract p.size s.size else s) else none
end Go.Proofs.YtjcocepmmjmckaaDoor.PHello
