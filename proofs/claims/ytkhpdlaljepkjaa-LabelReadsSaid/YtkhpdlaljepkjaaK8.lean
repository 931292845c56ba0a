/- An argument of five words, opened. Conditions: none. -/
import Derived.Test.YtkhpdlaljepkjaaK6
import Derived.Test.YtkhpdlaljepkjaaV3
namespace Go.Proofs.Ytkhpdlaljepkjaa
open Go.RowKit Go.WideShapes Go.ChangeShapes Go.ChangeMaps

def wordOf : Option Value → Nat
  | some (.int _ n) => n.toNat
  | _ => 0
set_option maxRecDepth 100000 in
theorem open_word {W : World} {b0 : Nat} {v : Value} (h : Cell.okWide Try.prog W .any b0 32 v) : v = .int .u64 (wordOf (some v) : Nat) ∧ wordOf (some v) < 18446744073709551616 := by
  have hu : Try.prog.underlying 32 = some (.int .u64) := by kernel_rfl
  simp only [Cell.okWide, hu] at h
  cases v <;> simp_all [Cell.ok, IntKind.has, wordOf, IntKind.min, IntKind.max, IntKind.signed, IntKind.bits]
  omega
set_option maxRecDepth 100000 in
theorem open_five {W : World} {b0 : Nat} {v : Value} (hval : Value.okWide Try.prog W .any b0 33 v) : ∃ f : Nat → Nat, v = encF f ∧ ∀ k, f k < 18446744073709551616 := by
  have hu : Try.prog.underlying 33 = some (.array 5 32) := by kernel_rfl
  have hc : Try.prog.cellsOf 33 = 5 := by kernel_rfl
  have hts : Try.prog.cellTypes Try.prog.depth 33 = some [32, 32, 32, 32, 32] := by kernel_rfl
  simp only [Value.okWide, hu] at hval
  obtain ⟨cs, rfl, hsz, ts, hts', _, hrow⟩ := hval
  rw [hts] at hts'
  obtain rfl := Option.some.inj hts'
  rw [hc] at hsz
  have hcell : ∀ k (hk : k < 5), cs[k]? = some (.int .u64 (wordOf cs[k]? : Nat)) ∧ wordOf cs[k]? < 18446744073709551616 := fun k hk => by
    have hk' : k < cs.size := by omega
    rw [Array.getElem?_eq_getElem hk']
    obtain ⟨u, hu', hok⟩ := hrow k cs[k] (Array.getElem?_eq_getElem hk')
    have e : u = 32 := by
      match k, hk with
      | 0, _ => exact (Option.some.inj hu').symm
      | 1, _ => exact (Option.some.inj hu').symm
      | 2, _ => exact (Option.some.inj hu').symm
      | 3, _ => exact (Option.some.inj hu').symm
      | 4, _ => exact (Option.some.inj hu').symm
    subst e
    obtain ⟨h1, h2⟩ := open_word hok
    exact ⟨congrArg some h1, h2⟩
  refine ⟨fun k => wordOf cs[k]?, ?_, fun k => ?_⟩
  · unfold encF
    congr 1
    apply Array.ext_getElem?
    intro k
    by_cases hk : k < 5
    · rw [(hcell k hk).1]
      match k, hk with
      | 0, _ => rfl
      | 1, _ => rfl
      | 2, _ => rfl
      | 3, _ => rfl
      | 4, _ => rfl
    · rw [Array.getElem?_eq_none (by omega), Array.getElem?_eq_none (by simp; omega)]
  · by_cases hk : k < 5
    · exact (hcell k hk).2
    · show wordOf cs[k]? < _
      rw [Array.getElem?_eq_none (by omega)]
      show 0 < _
      omega
end Go.Proofs.Ytkhpdlaljepkjaa
