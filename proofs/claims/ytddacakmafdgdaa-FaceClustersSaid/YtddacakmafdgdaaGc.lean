/- The contracts of groups in terms of the function. -/
import Derived.Test.YtddacakmafdgdaaFe
import Derived.Test.YtddacakmafdgdaaGf
import Derived.Test.YtddacakmafdgdaaKnL
set_option linter.unusedVariables false
namespace Go.Proofs.Ytddacakmafdgdaa
open Go.RowKit Go.Kn
abbrev pairE (p : Nat × Nat) : List Value := [.int .i64 (p.1 : Int), .int .i64 (p.2 : Int)]
theorem _root_.Go.Kn.IsG.xs {n : Nat} {f : Nat → Nat} {gs : List Grp} (h : IsG n f (view gs)) {g : Grp} (hg : g ∈ gs) : ∃ p, p < n ∧ f p = p ∧ g.key = p ∧ g.xs = membersI n f p := by
  obtain ⟨p, h1, h2, h3⟩ := (h.mem (g.key, g.xs)).1 (List.mem_map.2 ⟨g, hg, rfl⟩)
  injection h3 with h3 h4
  exact ⟨p, h1, h2, h3, h4⟩
theorem _root_.Go.Kn.IsG.short {n : Nat} {f : Nat → Nat} {gs : List Grp} (h : IsG n f (view gs)) (hn : n ≤ 300) : ∀ g ∈ gs, g.xs.length ≤ 300 := by
  intro g hg
  obtain ⟨p, _, _, _, h4⟩ := h.xs hg
  rw [h4]
  exact Nat.le_trans (membersI_len n f p) hn
theorem _root_.Go.Kn.IsG.has {n : Nat} {f : Nat → Nat} {gs : List Grp} (h : IsG n f (view gs)) {i : Nat} (hi : i < n) : ∃ g ∈ gs, g.key = (f i : Int) := by
  have h0 : ((f i : Int), membersI n f (f i)) ∈ view gs := (h.mem _).2 ⟨f i, h.lt hi, h.idem i hi, rfl⟩
  obtain ⟨g, hg, he⟩ := List.mem_map.1 h0
  injection he with h1 h2
  exact ⟨g, hg, h1⟩
theorem of_f (bm : Nat) (gs : List Grp) (ck : Nat) (hG : GMp tInt gs ck) (N : Nat) (f : Nat → Nat) (hF : IsG N f (view gs)) (hN : N ≤ 300) (n : Nat) (hn : n < N) (w : World) (hL : Kn.Holds w (GL bm gs ck)) :
    Calls Try.prog 45 #[.map (some bm), .int .i64 (n : Int)] w fun e w' => ∃ r, e = .returned r ∧ r = .int .i64 (f n : Int) ∧ Mem w No w' [] :=
  (of_s bm gs ck hG n w hL (hF.short hN)).mono fun e w' ⟨r, h1, ⟨i, h2, h3⟩, h4⟩ => ⟨r, h1, by rw [h2, hF.of hn h3], h4⟩
theorem join_f (bm : Nat) (gs : List Grp) (ck : Nat) (hG : GMp tInt gs ck) (N : Nat) (f : Nat → Nat) (hF : IsG N f (view gs)) (hN : N ≤ 300) (i k : Nat) (hi : i < N) (hk : k < N) (w : World) (hL : Kn.Holds w (GL bm gs ck)) :
    Calls Try.prog 53 #[.map (some bm), .int .i64 (f i : Int), .int .i64 (f k : Int)] w fun e w' => ∃ r, e = .returned r ∧ r = .tuple #[] ∧ ∃ gs', (GMp tInt gs' ck ∧ IsG N (joinF (f i) (f k) f) (view gs')) ∧ Mem w (keys (GL bm gs ck)) w' (GL bm gs' ck) :=
  (join_s bm gs ck hG (f i) (f k) w hL (hF.has hi) (hF.has hk) (hF.short hN)).mono fun e w' ⟨r, h1, h2, gs', h3, h4, h5⟩ => ⟨r, h1, h2, gs', ⟨h3, by rw [h4]; exact hF.join (by rw [view, List.map_map]; exact hG.knd) hi hk⟩, h5⟩
end Go.Proofs.Ytddacakmafdgdaa
