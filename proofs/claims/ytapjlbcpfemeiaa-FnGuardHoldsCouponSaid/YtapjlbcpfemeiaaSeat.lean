/-
  The closed facts of this seat's program that every statement needs, one by one. Conditions: none.
-/
import Derived.Test.YtapjlbcpfemeiaaRows
import Derived.Test.YtapjlbcpfemeiaaHead
namespace Go.Proofs.Ytapjlbcpfemeiaa
namespace Seat
def a : List Nat := [104, 97, 114, 110, 101, 115, 115]
def b : List Nat := [101, 52, 98, 54, 48, 99, 51, 57, 97, 101, 100, 54, 101, 99, 56, 51, 102, 98, 49, 55, 51, 102, 102, 99, 100, 50, 49, 57, 54, 50, 57, 97, 54, 99, 51, 
  50, 100, 53, 55, 51, 56, 57, 56, 48, 57, 51, 48, 99, 100, 98, 49, 49, 48, 56, 54, 55, 97, 50, 55, 102, 101, 52, 98, 102]
def r : List Nat := [97, 116, 32, 108, 111, 111, 112, 46, 101, 120, 97, 109, 112, 108, 101, 47, 112, 114, 111, 109, 111, 116, 105, 111, 110, 101, 110, 103, 105, 110, 101, 
  47, 108, 97, 119, 115, 46, 70, 110, 71, 117, 97, 114, 100, 72, 111, 108, 100, 115, 32, 108, 111, 111, 112, 46, 101, 120, 97, 109, 112, 108, 101, 47, 
  112, 114, 111, 109, 111, 116, 105, 111, 110, 101, 110, 103, 105, 110, 101, 47, 108, 97, 119, 115, 46, 70, 110, 80, 111, 105, 110, 116, 79, 102, 67, 
  111, 117, 112, 111, 110, 115, 32, 108, 111, 111, 112, 46, 101, 120, 97, 109, 112, 108, 101, 47, 112, 114, 111, 109, 111, 116, 105, 111, 110, 101, 110, 
  103, 105, 110, 101, 47, 108, 97, 119, 115, 46, 70, 110, 80, 111, 105, 110, 116, 79, 102, 32, 108, 111, 111, 112, 46, 101, 120, 97, 109, 112, 108, 101, 
  47, 112, 114, 111, 109, 111, 116, 105, 111, 110, 101, 110, 103, 105, 110, 101, 47, 108, 97, 119, 115, 46, 70, 110, 69, 120, 97, 99, 116, 86, 97, 108, 
  105, 100, 71, 117, 97, 114, 100, 32, 108, 111, 111, 112, 46, 101, 120, 97, 109, 112, 108, 101, 47, 112, 114, 111, 109, 111, 116, 105, 111, 110, 101, 
  110, 103, 105, 110, 101, 47, 108, 97, 119, 115, 46, 70, 110, 86, 97, 108, 105, 100, 71, 117, 97, 114, 100, 32, 108, 111, 111, 112, 46, 101, 120, 97, 
  109, 112, 108, 101, 47, 112, 114, 111, 109, 111, 116, 105, 111, 110, 101, 110, 103, 105, 110, 101, 47, 108, 97, 119, 115, 46, 70, 110, 71, 117, 97, 
  114, 100, 115, 77, 101, 101, 116, 32, 108, 111, 111, 112, 46, 101, 120, 97, 109, 112, 108, 101, 47, 112, 114, 111, 109, 111, 116, 105, 111, 110, 101, 
  110, 103, 105, 110, 101, 47, 108, 97, 119, 115, 46, 70, 110, 71, 117, 97, 114, 100, 115, 77, 101, 101, 116, 78, 111, 110, 101, 32, 108, 111, 111, 112, 
  46, 101, 120, 97, 109, 112, 108, 101, 47, 112, 114, 111, 109, 111, 116, 105, 111, 110, 101, 110, 103, 105, 110, 101, 47, 108, 97, 119, 115, 46, 70, 
  110, 71, 117, 97, 114, 100, 115, 77, 101, 101, 116, 83, 101, 108, 102, 32, 108, 111, 111, 112, 46, 101, 120, 97, 109, 112, 108, 101, 47, 112, 114, 111, 
  109, 111, 116, 105, 111, 110, 101, 110, 103, 105, 110, 101, 47, 108, 97, 119, 115, 46, 70, 110, 69, 120, 97, 99, 116, 71, 117, 97, 114, 100, 115, 77, 
  101, 101, 116, 32, 108, 111, 111, 112, 46, 101, 120, 97, 109, 112, 108, 101, 47, 112, 114, 111, 109, 111, 116, 105, 111, 110, 101, 110, 103, 105, 110, 
  101, 47, 108, 97, 119, 115, 46, 70, 110, 71, 117, 97, 114, 100, 72, 111, 108, 100, 115, 67, 111, 117, 112, 111, 110, 32, 108, 111, 111, 112, 46, 101, 
  120, 97, 109, 112, 108, 101, 47, 112, 114, 111, 109, 111, 116, 105, 111, 110, 101, 110, 103, 105, 110, 101, 47, 108, 97, 119, 115, 46, 70, 110, 69, 
  120, 97, 99, 116, 71, 117, 97, 114, 100, 72, 111, 108, 100, 115]
theorem init : Try.prog.initOrder = String.ofList (Hd.sg a ++ Char.ofNat 32 :: (Hd.sg b ++ Char.ofNat 32 :: (Hd.cut ++ Char.ofNat 32 :: Hd.sg r))) := by kernel_rfl
theorem words : behindMainWord (wordsSigns Try.prog.initOrder.toList) = Hd.cut :: wordsSigns (Hd.sg r) :=
  Hd.head_words init (by kernel_rfl) (by kernel_rfl) (by kernel_rfl) (by kernel_rfl)
theorem later : Try.prog.laysLater = false := by kernel_rfl
theorem reflect : Try.prog.bearsReflect = false := by kernel_rfl
theorem door : Try.prog.doorFits [] = true := by kernel_rfl
theorem enter : Try.prog.mayEnter = true := Hd.enter_of words later reflect door
theorem lifts : Try.prog.liftsFinal = false := Hd.lifts_of words
theorem make : Try.prog.make = some .cut := Hd.make_of words
theorem laid : laidOutB Try.prog = true := by kernel_rfl
theorem mapsRowed' : mapsRowed Try.prog = true := by kernel_rfl
theorem stops : Try.prog.stops = [] := by kernel_rfl
theorem stopKnobs : Try.prog.stopKnobs = [] := by kernel_rfl
theorem plainKeys : Try.prog.plainKeys = true := by kernel_rfl
theorem stopsHeard : Try.prog.stopsHeard = true := by kernel_rfl
theorem own : ownKnob Try.prog.godebug = none := by kernel_rfl
end Seat
end Go.Proofs.Ytapjlbcpfemeiaa
