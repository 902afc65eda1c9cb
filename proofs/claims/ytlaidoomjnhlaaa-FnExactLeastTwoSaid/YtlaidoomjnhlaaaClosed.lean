/-
  Closed facts on the whole program, each a theorem of its own.
  No condition.
-/
import Derived.Test.YtlaidoomjnhlaaaRows
import Derived.JoinedOf
import Derived.KernelRfl
namespace Go.Proofs.Ytlaidoomjnhlaaa
theorem and_t {a b : Bool} (h : a = true) (k : b = true) : (a && b) = true := by rw [h, k]; rfl
/- the words of the program's head, letter by letter -/
def hw0 : List Char := ([104, 97, 114, 110, 101, 115, 115] : List Nat).map Char.ofNat
def hw1 : List Char := ([102, 97, 52, 56, 98, 55, 51, 57, 49, 54, 51, 50, 99, 48, 49, 102, 97, 53, 56, 49, 102, 102, 48, 101, 56, 52, 55, 50, 52, 54, 56, 99, 51, 53, 97, 98, 50, 56, 97, 55, 102, 99, 55, 53, 53, 97, 54, 54, 100, 57, 97, 100, 55, 56, 97, 101, 53, 101, 99, 57, 49, 52, 97, 100] : List Nat).map Char.ofNat
def hw2 : List Char := ([99, 117, 116] : List Nat).map Char.ofNat
def hw3 : List Char := ([97, 116] : List Nat).map Char.ofNat
def hw4 : List Char := ([108, 111, 111, 112, 46, 101, 120, 97, 109, 112, 108, 101, 47, 114, 101, 118, 101, 114, 115, 105, 98, 108, 101, 99, 105, 114, 99, 117, 105, 116, 115, 47, 108, 97, 119, 115, 46, 70, 110, 69, 120, 97, 99, 116, 76, 101, 97, 115, 116, 84, 119, 111] : List Nat).map Char.ofNat
def head : List Char := hw0 ++ (Char.ofNat 32 :: (hw1 ++ (Char.ofNat 32 :: (hw2 ++ (Char.ofNat 32 :: (hw3 ++ (Char.ofNat 32 :: (hw4))))))))
theorem head_is : Try.prog.initOrder = String.ofList head := by kernel_rfl
theorem head_list : Try.prog.initOrder.toList = head := by rw [head_is, String.toList_ofList]
def noBlank (l : List Char) : Bool := l.all fun c => !(c == Char.ofNat 32)
theorem signs_cons {c : Char} (h : ¬ c = Char.ofNat 32) (r : List Char) : wordsSigns (c :: r) = match wordsSigns r with
    | w :: ws => (c :: w) :: ws
    | [] => [[c]] := by
  rw [wordsSigns]
  · rfl
  · exact h
theorem signs_word : ∀ (a : List Char), noBlank a = true → ∀ r, wordsSigns (a ++ (Char.ofNat 32 :: r)) = a :: wordsSigns r
  | [], _, r => rfl
  | c :: a, h, r => by
    simp only [noBlank, List.all_cons, Bool.and_eq_true, Bool.not_eq_true', beq_eq_false_iff_ne] at h
    rw [List.cons_append, signs_cons h.1, signs_word a (by simpa [noBlank] using h.2) r]
theorem signs_last : ∀ (a : List Char), noBlank a = true → wordsSigns a = [a]
  | [], _ => rfl
  | c :: a, h => by
    simp only [noBlank, List.all_cons, Bool.and_eq_true, Bool.not_eq_true', beq_eq_false_iff_ne] at h
    rw [signs_cons h.1, signs_last a (by simpa [noBlank] using h.2)]
def words : List (List Char) := [hw3, hw4]
theorem signs_are : wordsSigns head = hw0 :: hw1 :: hw2 :: words := by
  unfold head words
  rw [signs_word hw0 (by kernel_rfl), signs_word hw1 (by kernel_rfl), signs_word hw2 (by kernel_rfl), signs_word hw3 (by kernel_rfl), signs_last hw4 (by kernel_rfl)]
theorem behind (r : List (List Char)) : behindMainWord (hw0 :: hw1 :: r) = r := by kernel_rfl
theorem words_are : behindMainWord (wordsSigns Try.prog.initOrder.toList) = hw2 :: words := by rw [head_list, signs_are, behind]
theorem strip (r : List (List Char)) : stripLifts liftWords (hw2 :: r) = ([], hw2 :: r) := by kernel_rfl
theorem cut_is : (some hw2 == some "cut".toList) = true := by kernel_rfl
theorem lays : Try.prog.laysLater = false := by kernel_rfl
theorem bears : Try.prog.bearsReflect = false := by kernel_rfl
theorem door : Try.prog.doorFits [] = true := by kernel_rfl
/- over a program that is a letter, so that nothing is reckoned -/
section
variable {P : Program} {c : List Char} {rest : List (List Char)} (hw : behindMainWord (wordsSigns P.initOrder.toList) = c :: rest)
include hw
theorem may_enter_of (hs : stripLifts liftWords (c :: rest) = ([], c :: rest)) (hc : (some c == some "cut".toList) = true) (hl : P.laysLater = false) (hb : P.bearsReflect = false) (hd : P.doorFits [] = true) : P.mayEnter = true := by
  unfold Program.mayEnter
  rw [hw]
  simp only [hs, List.head?_cons, hc, hl, hb, hd, Bool.not_false, Bool.or_true, Bool.and_true, List.contains_nil]
theorem head_lifts_of (hs : stripLifts liftWords (c :: rest) = ([], c :: rest)) : P.headLifts = [] := by
  unfold Program.headLifts
  rw [hw, hs]
  simp
theorem lifts_final_of (hl : P.headLifts = []) (h : (some c == some "carried".toList) = false) : P.liftsFinal = false := by
  unfold Program.liftsFinal
  rw [hw, hl]
  simp only [List.head?_cons, h, Bool.false_and, Bool.false_or, List.contains_nil]
theorem make_of (h1 : (c == "gc".toList) = false) (h2 : (c == "spec".toList) = false) (h3 : (c == "cut".toList) = true) : P.make = some .cut := by
  unfold Program.make
  rw [hw]
  simp only [h1, h2, h3, Bool.or_false, Bool.true_or, if_true]
  rfl
end
theorem may_enter : Try.prog.mayEnter = true := may_enter_of words_are (strip words) cut_is lays bears door
theorem lifts_final : Try.prog.liftsFinal = false := lifts_final_of words_are (head_lifts_of words_are (strip words)) (by kernel_rfl)
theorem make_is : Try.prog.make = some .cut := make_of words_are (by kernel_rfl) (by kernel_rfl) (by kernel_rfl)
theorem maps_rowed : mapsRowed Try.prog = true := by kernel_rfl
theorem stops_heard : Try.prog.stopsHeard = true := by kernel_rfl
theorem stops_nil : (Try.prog.stops == []) = true := by kernel_rfl
theorem knobs_nil : (Try.prog.stopKnobs == []) = true := by kernel_rfl
end Go.Proofs.Ytlaidoomjnhlaaa
