/- slices.Sort of a row of the call's own. -/
import Derived.Test.YtddacakmafdgdaaSh
import Derived.Test.YtddacakmafdgdaaKnS
import Derived.Test.YtddacakmafdgdaaGp
import Derived.Test.YtddacakmafdgdaaFn
set_option linter.unusedVariables false
namespace Go.Proofs.Ytddacakmafdgdaa
open Go.RowKit Go.Kn
theorem sort_s (v : Value) (n : Nat) (zs : List Int) (L : Hp) (w : World) (hR : OwnR tInt 1 v n (zs.map (.int .i64)) L) (hL : Kn.Holds w L) (hn : n < 4611686018427387904) :
    Calls Try.prog 40 #[v] w fun e w' => ∃ r, e = .returned r ∧ r = .tuple #[] ∧ ∃ L', OwnR tInt 1 v n ((sortI zs).map (.int .i64)) L' ∧ Mem w (keys L) w' L' := by
  have hlen : zs.length = n := by have := hR.1; simpa using this
  rcases Nat.eq_zero_or_pos n with h0 | h0
  · subst h0
    have hz : zs = [] := List.eq_nil_of_length_eq_zero hlen
    subst hz
    obtain ⟨A, c, rfl, _, _, _⟩ := hR.slice
    refine (Try.slices_Sort_int_none A c w).mono ?_
    rintro e w' ⟨rfl, rfl⟩
    exact ⟨_, rfl, rfl, L, by rw [show sortI [] = [] by simp [sortI]]; exact hR, hL.mem⟩
  · rcases hR.2 with ⟨_, h1, _⟩ | ⟨b, cap, cur, rfl, h3, h4, h5, h6, _⟩
    · omega
    · have hH := hR.holds (enc := Value.int .i64) hL
      have hb : b < w.heap.size := by
        rcases hR.2 with ⟨h1, _, _⟩ | ⟨b', cap', cur', h1, _, _, _, _, rfl⟩
        · cases h1
        · injection h1 with h1 _ _
          injection h1 with h1
          injection h1 with h1
          subst h1
          exact lt_of_block (hL.at_ (b, .cells cur' tInt (0, 0)) (by simp))
      have hc := Try.slices_Sort_int b 0 cap zs w hH hb (by omega)
      rw [hlen] at hc
      refine hc.mono ?_
      rintro e w' ⟨rfl, m, os, rfl⟩
      obtain ⟨L', h7, h8⟩ := hR.sorted (enc := Value.int .i64) (l' := sortI zs) (m := m) (os := os) hL (sortI_len zs)
      exact ⟨_, rfl, rfl, L', h7, h8⟩
end Go.Proofs.Ytddacakmafdgdaa
