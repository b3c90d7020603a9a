/- A number's bytes, in plain Lean. -/
namespace Go.Proofs.Ytcbcjgdhbopceaa

/-- A number's bytes: seven bits in each, the lowest first. -/
def enc (n : Nat) : List Nat := if n < 128 then [n] else (n % 128 + 128) :: enc (n / 128)
termination_by n
decreasing_by omega

theorem enc_small {n : Nat} (h : n < 128) : enc n = [n] := by rw [enc, if_pos h]
theorem enc_big {n : Nat} (h : ¬ n < 128) : enc n = (n % 128 + 128) :: enc (n / 128) := by rw [enc, if_neg h]
theorem enc_lt : ∀ (n : Nat), ∀ b ∈ enc n, b < 256 := by
  intro n
  induction n using Nat.strongRecOn with
  | _ n ih =>
    intro b hb
    by_cases h : n < 128
    · rw [enc_small h] at hb; simp at hb; omega
    · rw [enc_big h] at hb
      rcases List.mem_cons.1 hb with rfl | hb
      · omega
      · exact ih (n / 128) (by omega) b hb
theorem enc_len (k : Nat) : ∀ n, n < 128 ^ k → 0 < k → (enc n).length ≤ k := by
  induction k with
  | zero => intro n _ h; omega
  | succ k ih =>
    intro n hn _
    by_cases h : n < 128
    · rw [enc_small h]; simp
    · rw [enc_big h]
      have hk : 0 < k := by
        rcases Nat.eq_zero_or_pos k with h0 | h0
        · subst h0; simp at hn; omega
        · exact h0
      have := ih (n / 128) (by rw [Nat.pow_succ] at hn; omega) hk
      simp only [List.length_cons]; omega
theorem enc_len9 {n : Nat} (h : n < 9223372036854775808) : (enc n).length ≤ 9 := enc_len 9 n (by omega) (by omega)
theorem enc_pos (n : Nat) : 0 < (enc n).length := by
  by_cases h : n < 128
  · rw [enc_small h]; simp
  · rw [enc_big h]; simp
theorem or128 : ∀ x : Fin 256, x.val ||| 128 = x.val % 128 + 128 := by decide +kernel
theorem or128_nat (x : Nat) (h : x < 256) : x ||| 128 = x % 128 + 128 := or128 ⟨x, h⟩
end Go.Proofs.Ytcbcjgdhbopceaa
