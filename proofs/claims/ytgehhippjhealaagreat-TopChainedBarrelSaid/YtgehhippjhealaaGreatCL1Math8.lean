/- Chains: places round an octave, and the three distances. No condition but those that stand in each. -/
set_option linter.unusedSimpArgs false
set_option linter.unusedVariables false
namespace Go.Ev
def atC (N s i : Nat) : Nat := i * s % N
theorem at_lt {N : Nat} (hN : 0 < N) (s i : Nat) : atC N s i < N := Nat.mod_lt _ hN
end Go.Ev
