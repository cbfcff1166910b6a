/-
  The head of the translation, read word by word (so that no text of many signs is reckoned in one step), and the closed facts of a statement put together. Conditions: none.
-/
import Derived.Test.YtapjlbcpfemeiaaKit
import GoSem.Claim
import GoSem.ClaimJoined
import GoSem.ClaimMapViews
import Derived.JoinedTies
import Derived.JoinedOf
import Derived.KernelRfl
namespace Go.Proofs.Ytapjlbcpfemeiaa
namespace Hd

theorem words_append (r : List Char) : ∀ l : List Char, (∀ c ∈ l, c ≠ Char.ofNat 32) → wordsSigns (l ++ Char.ofNat 32 :: r) = l :: wordsSigns r := by
  intro l
  induction l with
  | nil => intro _; rfl
  | cons c l ih =>
    intro h
    have hc := h c (by simp)
    have e := ih fun x hx => h x (by simp [hx])
    rw [List.cons_append, wordsSigns]
    · rw [e]
    · exact hc
def sg (l : List Nat) : List Char := l.map Char.ofNat
def cut : List Char := [Char.ofNat 99, Char.ofNat 117, Char.ofNat 116]
/-- Of what a text is made of: the words ahead of the roots. -/
theorem head_words {P : Program} {a b r : List Char} (h : P.initOrder = String.ofList (a ++ Char.ofNat 32 :: (b ++ Char.ofNat 32 :: (cut ++ Char.ofNat 32 :: r))))
    (ha : (a == "harness".toList) = true) (hb : isSumSigns b = true) (na : a.all (· != Char.ofNat 32) = true) (nb : b.all (· != Char.ofNat 32) = true) :
    behindMainWord (wordsSigns P.initOrder.toList) = cut :: wordsSigns r := by
  have n : ∀ {l : List Char}, l.all (· != Char.ofNat 32) = true → ∀ c ∈ l, c ≠ Char.ofNat 32 := fun hl c hc => by
    have := List.all_eq_true.1 hl c hc
    simpa using this
  rw [h, String.toList_ofList, words_append _ _ (n na), words_append _ _ (n nb), words_append _ _ (n (l := cut) (by decide))]
  simp only [behindMainWord, ha, hb]
  rfl
theorem make_of {P : Program} {W : List (List Char)} (h : behindMainWord (wordsSigns P.initOrder.toList) = cut :: W) : P.make = some .cut := by
  unfold Program.make
  rw [h]
  rfl
theorem strip_of (W : List (List Char)) : stripLifts liftWords (cut :: W) = ([], cut :: W) := by
  rfl
theorem lifts_of {P : Program} {W : List (List Char)} (h : behindMainWord (wordsSigns P.initOrder.toList) = cut :: W) : P.liftsFinal = false := by
  unfold Program.liftsFinal Program.headLifts
  rw [h, strip_of]
  rfl
theorem enter_of {P : Program} {W : List (List Char)} (h : behindMainWord (wordsSigns P.initOrder.toList) = cut :: W) (h1 : P.laysLater = false) (h2 : P.bearsReflect = false) (h3 : P.doorFits [] = true) : P.mayEnter = true := by
  unfold Program.mayEnter
  rw [h]
  simp only [strip_of, h1, h2, h3]
  rfl

/-- The closed facts of a statement over a cut without lifts, stops and variables. -/
theorem joined {P : Program} {f : FuncId} {fn : Func} {s : ChangeSpec} {c : OpenClaim} (e1 : laidOutB P = true) (e2 : mapsRowed P = true) (e3 : P.stops = []) (e4 : P.stopKnobs = []) (e5 : P.plainKeys = true) (e6 : P.stopsHeard = true)
    (e7 : P.mayEnter = true) (e8 : P.liftsFinal = false) (e9 : P.make = some .cut)
    (c1 : c.wf (OpenSpec.ofChange s) = true) (c2 : (c.inPlace == P.inPlace f) = true) (c3 : (c.unfollowed == P.unfollowed f) = true) (c4 : (c.recurses == P.recurses f) = true) (c5 : (c.named == P.varsNamed f) = true)
    (c6 : (fn.params.all (P.readableRec ·) && namedTie P c.named s.vars && (c.stops == []) && (c.knobs == []) &&
      (c.maps == (fn.params.toList ++ s.plain.varTypes P).any (P.mapsRec ·)) && (c.ifaces == (fn.params.toList ++ s.plain.varTypes P).any (P.ifacesRec ·)) && (c.mapsOut == P.mapsAmong fn.resultTypes.toList) &&
      (c.loops == (fn.params.toList ++ s.plain.varTypes P).any (P.loopsFrom ·)) && (c.wideKeys == (fn.params.toList ++ s.plain.varTypes P ++ fn.resultTypes.toList).any (P.wideKeysFrom ·)) &&
      s.vars.all (P.varReadable ·) && fn.resultTypes.all (fun t => P.readableRec t && decide (t < P.types.size)) && (c.ifacesOut == fn.resultTypes.toList.any (P.ifacesRec ·)) && (c.loopsOut == fn.resultTypes.toList.any (P.loopsFrom ·)) &&
      (c.plainKeys == true) && c.shortTexts.isNone && (c.lifted == false) && (c.make == .cut) && (c.kinds == (if c.domain.isEmpty then [] else fn.params.toList.map fun t => match P.underlying t with | some (.int k) => some k | _ => none)) && (c.pinned == c.pinnedBy) &&
      (c.veiled == (fn.params.toList ++ s.plain.varTypes P ++ fn.resultTypes.toList).any (P.veiledRec ·)) && c.veiledFits P fn.params.toList (fn.params.toList ++ s.plain.varTypes P ++ fn.resultTypes.toList)) = true) :
    joinedFacts P f fn s c = true := by
  simp only [Bool.and_eq_true] at c6
  obtain ⟨⟨⟨⟨⟨⟨⟨⟨⟨⟨⟨⟨⟨⟨⟨⟨⟨⟨⟨⟨k1, k2⟩, k3⟩, k4⟩, k5⟩, k6⟩, k7⟩, k8⟩, k9⟩, k10⟩, k11⟩, k12⟩, k13⟩, k14⟩, k15⟩, k16⟩, k17⟩, k18⟩, k19⟩, k20⟩, k21⟩ := c6
  have m : (P.make == some c.make) = true := by
    rw [e9]
    have := eq_of_beq k17
    rw [this]
    exact beq_self_eq_true _
  simp only [joinedFacts, Bool.and_eq_true]
  refine ⟨⟨⟨⟨⟨⟨⟨⟨⟨⟨⟨⟨⟨⟨⟨⟨⟨⟨⟨⟨⟨⟨⟨⟨⟨⟨⟨⟨⟨⟨⟨c1, e1⟩, e2⟩, k1⟩, k2⟩, k3⟩, ?_⟩, k4⟩, ?_⟩, c2⟩, c3⟩, c4⟩, c5⟩, k5⟩, k6⟩, k7⟩, k8⟩, k9⟩, k10⟩, k11⟩, k12⟩, k13⟩, ?_⟩, k15⟩, e6⟩, e7⟩, ?_⟩, m⟩, k18⟩, k19⟩, k20⟩, k21⟩
  · rw [e3]; rfl
  · rw [e4]; rfl
  · rw [e5]; exact k14
  · rw [e8]; exact k16
end Hd
end Go.Proofs.Ytapjlbcpfemeiaa
