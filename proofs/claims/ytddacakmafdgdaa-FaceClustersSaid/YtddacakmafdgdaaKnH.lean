/- Results that lie in cells; pieces for append. -/
import Derived.Test.YtddacakmafdgdaaKnF
set_option linter.unusedVariables false
set_option linter.unusedSimpArgs false
namespace Go.Kn
open Go.RowKit
section
variable {P : Program} {n : Nat} {K : St} {w w0 : World} {fn : Func} {R : Ending → World → Prop} {S : Nat → Prop} {L : Hp}
theorem run_loadVarRow {b : Nat} {e ty : TypeId} {cs : Array Value} (hM : Mem w0 S w L) (i : Nat) (hi : L[i]? = some (b, .cells cs e (0, 0))) (hg : (isAgg ty).run P w = .ok true w) (hs : (sizeOf ty).run P w = .ok cs.size w) : (loadVar ty ⟨b, 0, none⟩).run P w = .ok (.agg cs) w := by
  have h := run_loadCells_list (P := P) w ⟨b, 0, none⟩ cs.toList (fun j v hv => by
    rw [add_row, Nat.zero_add]
    exact hM.cell i hi (by simpa using hv))
  simp only [loadVar, Sem.run_bind, hg, hs, Result.andThen_ok, if_true]
  simp only [Array.length_toList] at h
  simp [h]
theorem run_loadVar1 {b o : Nat} {e ty : TypeId} {cs : Array Value} {v : Value} (hM : Mem w0 S w L) (i : Nat) (hi : L[i]? = some (b, .cells cs e (0, 0))) (hv : cs[o]? = some v) (hg : (isAgg ty).run P w = .ok false w) : (loadVar ty ⟨b, o, none⟩).run P w = .ok v w := by
  have hc := hM.cell i hi hv
  simp only [loadVar, Sem.run_bind, hg, Result.andThen_ok, Bool.false_eq_true, if_false, Go.load]
  simp [Sem.run, hc]
theorem results_cell {t : Tmp} {ty : TypeId} {ad : Addr} {v : Value} {tmps : Array Value} (hr : fn.results = #[.cell t ty]) (ht : tmps[t]? = some (.pointer (some ad))) (hl : (loadVar ty ad).run P w = .ok v w) : (results fn tmps).run P w = .ok v w := by
  simp [results, hr, ht, asAddr, hl, Sem.run_bind]
theorem e_retC {t : Tmp} {ty : TypeId} {ad : Addr} {v : Value} (hr : fn.results = #[.cell t ty]) (hp : K.lookup t = some (.pointer (some ad))) (hl : (loadVar ty ad).run P w = .ok v w) (h : R (.returned v) w) : Ends n (bodyPost P fn R) .ret K w :=
  fun a ha => bodyPost_ret (results_cell hr (ha.knows t _ hp) hl) ha.defers h
theorem Mem.cells {b : Nat} {e : TypeId} {cs : Array Value} (hM : Mem w0 S w L) (i : Nat) (hi : L[i]? = some (b, .cells cs e (0, 0))) : ∀ j u, cs.toList[j]? = some u → w.cell? ((adr (some ⟨b, 0, none⟩)).add j) = some u := by
  intro j u hu
  simp only [adr, Option.getD_some]
  rw [add_row, Nat.zero_add]
  exact hM.cell i hi (by simpa using hu)
end
end Go.Kn
