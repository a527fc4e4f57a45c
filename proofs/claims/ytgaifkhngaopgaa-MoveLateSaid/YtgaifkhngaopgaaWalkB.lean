/-
  A part of the proof: the texts M9 of this seat, joined.
-/
import Derived.Test.YtgaifkhngaopgaaWalkA
namespace Am.Mv
open Go Am
set_option maxRecDepth 100000
set_option maxHeartbeats 4000000
set_option linter.unusedSimpArgs false
set_option linter.unusedVariables false
variable {l : Land} {g1 g2 : Bool × Bool}

theorem thin_small (h : thin l = true) : l.Small := by
  simp [thin] at h; exact h.1
theorem MovePlays_val (haw : Val tab 17 [] (.c (.bool true))) {g3 g4 : Bool × Bool} {plan bad : List Int} : Val tab 3 [landV g1 g2 l, .c (L g3 plan), .c (L g4 bad)] (.c (.bool true)) := by
  have P17 : ∀ {Q : V → Prop}, CallP tab 17 [] Q ↔ Q (.c (.bool true)) := CallP_of haw
  refine Val_X (fn := f3) rfl ?_
  by_cases ht : thin l = true
  · have hs := thin_small ht
    by_cases h1 : (plan.length : Int) > 8
    · simp only [go_sem, f3, P16, ht, h1, P17]
    by_cases h2 : (bad.length : Int) > 8
    · simp only [go_sem, f3, P16, ht, h1, h2, P17]
    have hp : plan.length ≤ 1000 := by omega
    have hb : bad.length ≤ 1000 := by omega
    have hp' : plan.length < Big := Nat.lt_of_le_of_lt hp (by decide)
    have hb' : bad.length < Big := Nat.lt_of_le_of_lt hb (by decide)
    by_cases h0 : checkLand l = 0
    · have hv := valid_of h0
      have l0 := hv.last0
      have l4 := hv.last4
      have hw : IntKind.i64.wrap (l.last + 1) = l.last + 1 := wrapB (by omega) (by omega)
      have P24' : ∀ {Q : V → Prop}, CallP tab 24 [landV g1 g2 l, .c (L g4 bad), .c (.int .i64 (l.last + 1))] Q ↔ Q (.c (.bool (isWeather l bad (l.last + 1)))) := by
        intro Q
        rw [P24 (by omega) (by omega) hb', weather_same (by omega) (by omega)]
      by_cases hip : isPlan l plan = true
      · by_cases hiw : isWeather l bad (l.last + 1) = true
        · have h3 : AreSites l plan := areSites_of (by simp [isPlan] at hip; simpa using hip.2)
          cases hfa : failAt l bad plan with
          | some k =>
            simp only [go_sem, f3, P16, ht, h1, h2, P17, P19 hs, P20 hp, P20 hb, P18 hs.fits hp' hb', P21 hs.fits, P22 hs.fits, P23 hs.fits.sites hp', P24', P25 hv h3 (show plan.length ≤ 100 by omega) hb', playR, h0, hip, hiw, hw, hfa]
          | none =>
            simp only [go_sem, f3, P16, ht, h1, h2, P17, P19 hs, P20 hp, P20 hb, P18 hs.fits hp' hb', P21 hs.fits, P22 hs.fits, P23 hs.fits.sites hp', P24', P25 hv h3 (show plan.length ≤ 100 by omega) hb', playR, h0, hip, hiw, hw, hfa, P26 (a := (List.range plan.length).map (yrAt l bad plan)) (by simpa using hp')]
        · simp only [go_sem, f3, P16, ht, h1, h2, P17, P19 hs, P20 hp, P20 hb, P18 hs.fits hp' hb', P21 hs.fits, P22 hs.fits, P23 hs.fits.sites hp', P24', playR, h0, hip, hiw, hw]
      · simp only [go_sem, f3, P16, ht, h1, h2, P17, P19 hs, P20 hp, P20 hb, P18 hs.fits hp' hb', P21 hs.fits, P22 hs.fits, P23 hs.fits.sites hp', playR, h0, hip, hw]
    · simp only [go_sem, f3, P16, ht, h1, h2, P17, P19 hs, P20 hp, P20 hb, P18 hs.fits hp' hb', P21 hs.fits, P22 hs.fits, playR, h0]
  · simp only [go_sem, f3, P16, ht, P17]
end Am.Mv
