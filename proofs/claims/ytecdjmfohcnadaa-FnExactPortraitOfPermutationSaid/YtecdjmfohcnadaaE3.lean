/- Walks: arrays of three bytes compared. -/
import Derived.Test.YtecdjmfohcnadaaSl
import Derived.ChangeKeysEq
namespace Go.Proofs.Ytecdjmfohcnadaa
open Go.RowKit
set_option linter.unusedSimpArgs false

theorem run_eq3 (a b c a' b' c' : Int) (w : World) :
    (Op.equalIn 10000 46 (.agg #[.int .u8 a, .int .u8 b, .int .u8 c]) (.agg #[.int .u8 a', .int .u8 b', .int .u8 c'])).run Try.prog w = .ok (decide (a = a' ∧ b = b' ∧ c = c')) w := by
  have hp : Try.prog.plainKey 5 = true := by kernel_rfl
  have hc : Try.prog.cellsOf 5 = 1 := by kernel_rfl
  obtain ⟨i, hi, _⟩ := info_parts info_u8
  have pt : ∀ (xs : Array Value) (k : Nat) (v : Value), xs[k]? = some v → (Go.part 5 xs k).run Try.prog w = .ok v w := fun xs k v h => run_part_plain w hp h
  have eq : ∀ (x y : Int), (Op.equalIn 9999 5 (.int .u8 x) (.int .u8 y)).run Try.prog w = .ok (decide (x = y)) w := fun x y => by
    go_simp
    exact Bool.eq_iff_iff.2 (by simp)
  have p0 : ∀ (x y z : Value), (Go.part 5 #[x, y, z] (0 * 1)).run Try.prog w = .ok x w := fun x y z => pt _ 0 _ rfl
  have p1 : ∀ (x y z : Value), (Go.part 5 #[x, y, z] (1 * 1)).run Try.prog w = .ok y w := fun x y z => pt _ 1 _ rfl
  have p2 : ∀ (x y z : Value), (Go.part 5 #[x, y, z] (2 * 1)).run Try.prog w = .ok z w := fun x y z => pt _ 2 _ rfl
  rw [run_equalIn_array w 9999 _ _ Try.underlying46 hi, hc]
  show (Op.eqItems 9999 5 1 _ _ [0, 1, 2]).run Try.prog w = _
  simp only [Op.eqItems, Sem.run_bind, p0, p1, p2, eq, Result.andThen_ok]
  by_cases ha : a = a'
  · by_cases hb : b = b'
    · by_cases hc : c = c'
      · simp [ha, hb, hc, p0, p1, p2, eq, Sem.run_bind]
      · simp [ha, hb, hc, p0, p1, p2, eq, Sem.run_bind]
    · simp [ha, hb, p0, p1, p2, eq, Sem.run_bind]
  · simp [ha]
end Go.Proofs.Ytecdjmfohcnadaa
