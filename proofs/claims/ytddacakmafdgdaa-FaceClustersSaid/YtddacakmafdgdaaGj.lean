/- Groups that are joined. -/
import Derived.Test.YtddacakmafdgdaaGp
import Derived.Test.YtddacakmafdgdaaKnS
set_option linter.unusedVariables false
set_option linter.unusedSimpArgs false
namespace Go.Kn
open Go.RowKit
theorem filter_self_ne {gs : List Grp} {k : Int} (h : ∀ q ∈ gs, q.key ≠ k) : (gs.filter fun q => decide (q.key ≠ k)) = gs := List.filter_eq_self.2 (fun q hq => by simpa using h q hq)
theorem flat_pull {gs : List Grp} (hn : (gs.map Grp.key).Nodup) {g : Grp} (hg : g ∈ gs) : (gs.flatMap Grp.L).Perm (g.L ++ (gs.filter fun q => decide (q.key ≠ g.key)).flatMap Grp.L) := by
  induction gs with
  | nil => cases hg
  | cons a r ih =>
    simp only [List.map_cons, List.nodup_cons] at hn
    rcases List.mem_cons.1 hg with h | h
    · subst h
      have h2 : ∀ q ∈ r, q.key ≠ g.key := fun q hq e => hn.1 (e ▸ List.mem_map.2 ⟨q, hq, rfl⟩)
      rw [List.filter_cons, if_neg (by simp), filter_self_ne h2, List.flatMap_cons]
    · have hne : a.key ≠ g.key := fun e => hn.1 (e ▸ List.mem_map.2 ⟨g, h, rfl⟩)
      rw [List.filter_cons, if_pos (by simpa using hne), List.flatMap_cons, List.flatMap_cons]
      refine (List.Perm.append_left a.L (ih hn.2 h)).trans ?_
      rw [← List.append_assoc, ← List.append_assoc]
      exact List.Perm.append_right _ List.perm_append_comm
theorem key_min {gs : List Grp} {a b : Int} (ha : ∃ g ∈ gs, g.key = a) (hb : ∃ g ∈ gs, g.key = b) : ∃ g ∈ gs, g.key = min a b := by
  rcases Int.le_total a b with h1 | h1
  · rw [Int.min_eq_left h1]; exact ha
  · rw [Int.min_eq_right h1]; exact hb
theorem key_max {gs : List Grp} {a b : Int} (ha : ∃ g ∈ gs, g.key = a) (hb : ∃ g ∈ gs, g.key = b) : ∃ g ∈ gs, g.key = max a b := by
  rcases Int.le_total a b with h1 | h1
  · rw [Int.max_eq_right h1]; exact hb
  · rw [Int.max_eq_left h1]; exact ha
theorem mset_knd {k : Int} {v : Value} {es : List Ent} (h : (es.map Ent.key).Nodup) : ((mset k v es).map Ent.key).Nodup := by
  have : (mset k v es).map Ent.key = es.map Ent.key := by
    unfold mset
    rw [List.map_map]
    refine List.map_congr_left fun e he => ?_
    simp only [Function.comp]
    split <;> rfl
  rw [this]; exact h
theorem x_lookupS {P : Program} {w : World} {ρ : Operand → Value} {dst : Option Tmp} {type : TypeId} {pos : String} {after : Array Edge} {guard : Option (Nat × Bool)} {t kt et : TypeId} {kk : IntKind} {x y : Operand} {b : Nat} {es : List Ent} {clock : Nat} {k : Int} {z v : Value} (hb : w.heap[b]? = some (mapO es clock)) (hv : mget k es = some v) (hx : ρ x = .map (some b)) (hy : ρ y = .int .i64 k) (ht : P.underlying t = some (.map kt et)) (hk : P.underlying kt = some (.int kk)) (hz : (zeroValue et).run P w = .ok z w) :
    (execOp ρ ⟨dst, .lookup t x y false, type, pos, after, guard⟩).run P w = .ok (.value v) w := by
  have := x_lookup (P := P) (ρ := ρ) (dst := dst) (type := type) (pos := pos) (after := after) (guard := guard) (t := t) hb hx hy ht hk hz
  rw [this, hv]; rfl
/-- two groups made one -/
def joinV (a b : Int) (V : List (Int × List Int)) : List (Int × List Int) :=
  if a = b then V else
  (V.filter fun p => decide (p.1 ≠ max a b)).map fun p => if p.1 = min a b then (p.1, sortI (p.2 ++ (V.filter fun p => decide (p.1 = max a b)).flatMap (·.2))) else p
theorem own_others {gs : List Grp} (hn : (gs.map Grp.key).Nodup) {g : Grp} (hg : g ∈ gs) : (gs.filter fun q => decide (q.key = g.key)) = [g] := by
  induction gs with
  | nil => cases hg
  | cons a r ih =>
    simp only [List.map_cons, List.nodup_cons] at hn
    rcases List.mem_cons.1 hg with h | h
    · subst h
      have h2 : (r.filter fun q => decide (q.key = g.key)) = [] := List.filter_eq_nil_iff.2 (fun q hq => by simpa using fun (e : q.key = g.key) => hn.1 (e ▸ List.mem_map.2 ⟨q, hq, rfl⟩))
      rw [List.filter_cons, if_pos (by simp), h2]
    · have hne : a.key ≠ g.key := fun e => hn.1 (e ▸ List.mem_map.2 ⟨g, h, rfl⟩)
      rw [List.filter_cons, if_neg (by simpa using hne)]
      exact ih hn.2 h
/-- the groups behind a join: g (of min) has become the row v, zs, L; h (of max) has gone -/
def joinG (g h : Grp) (zs : List Int) (v : Value) (L : Hp) (gs : List Grp) : List Grp :=
  (gs.filter fun q => decide (q.key ≠ h.key)).map fun q => if q.key = g.key then { g with xs := zs, v := v, L := L } else q
section
variable {gs : List Grp} {g h : Grp} {zs : List Int} {v : Value} {L : Hp} {e : TypeId} {ck : Nat}
theorem key_inj {gs : List Grp} (hn : (gs.map Grp.key).Nodup) {p q : Grp} (hp : p ∈ gs) (hq : q ∈ gs) (he : p.key = q.key) : p = q := by
  have h1 := own_others hn hp
  have h2 : q ∈ gs.filter fun r => decide (r.key = p.key) := List.mem_filter.2 ⟨hq, by simp [he]⟩
  rw [h1] at h2
  exact (List.mem_singleton.1 h2).symm
theorem joinG_map {α : Type} (f : Grp → α) (hn : (gs.map Grp.key).Nodup) (hg : g ∈ gs) (hf : f { g with xs := zs, v := v, L := L } = f g) : (joinG g h zs v L gs).map f = (gs.filter fun q => decide (q.key ≠ h.key)).map f := by
  unfold joinG
  rw [List.map_map]
  refine List.map_congr_left fun q hq => ?_
  simp only [Function.comp]
  by_cases hk : q.key = g.key
  · rw [if_pos hk, hf, key_inj hn (List.mem_filter.1 hq).1 hg hk]
  · rw [if_neg hk]
theorem joinG_GMp (hG : GMp e gs ck) (hg : g ∈ gs) (hr : OwnR e 1 v zs.length (zs.map (.int .i64)) L) : GMp e (joinG g h zs v L gs) ck := by
  have hn := hG.knd
  refine ⟨fun q hq => ?_, fun q hq => ?_, ?_, ?_⟩
  · obtain ⟨p, hp, rfl⟩ := List.mem_map.1 hq
    by_cases hk : p.key = g.key
    · rw [if_pos hk]; exact hr
    · rw [if_neg hk]; exact hG.row p (List.mem_filter.1 hp).1
  · obtain ⟨p, hp, rfl⟩ := List.mem_map.1 hq
    by_cases hk : p.key = g.key
    · rw [if_pos hk]; exact hG.born g hg
    · rw [if_neg hk]; exact hG.born p (List.mem_filter.1 hp).1
  · rw [joinG_map (zs := zs) (v := v) (L := L) Grp.born hn hg rfl]
    exact (List.filter_sublist.map _).nodup hG.bnd
  · rw [joinG_map (zs := zs) (v := v) (L := L) Grp.key hn hg rfl]
    exact (List.filter_sublist.map _).nodup hn
theorem joinG_ents (hn : (gs.map Grp.key).Nodup) (hg : g ∈ gs) : (joinG g h zs v L gs).map Grp.ent = mdel h.key (mset g.key v (gs.map Grp.ent)) := by
  unfold joinG mdel mset
  rw [List.map_map, List.map_map, List.filter_map]
  have e2 : (gs.filter ((fun e : Ent => decide (e.key ≠ h.key)) ∘ (fun e => if e.key = g.key then { e with v := v } else e) ∘ Grp.ent)) = gs.filter fun q => decide (q.key ≠ h.key) := by
    refine List.filter_congr fun q hq => ?_
    by_cases hk : q.key = g.key <;> simp [Function.comp, Grp.ent, hk]
  rw [e2]
  refine List.map_congr_left fun q hq => ?_
  by_cases hk : q.key = g.key
  · have := key_inj hn (List.mem_filter.1 hq).1 hg hk
    subst this
    simp [Function.comp, Grp.ent]
  · simp [Function.comp, Grp.ent, hk]
theorem joinG_view (hn : (gs.map Grp.key).Nodup) (hg : g ∈ gs) (hh : h ∈ gs) {a b : Int} (hab : a ≠ b) (ha : g.key = min a b) (hb : h.key = max a b) (hz : zs = sortI (g.xs ++ h.xs)) : view (joinG g h zs v L gs) = joinV a b (view gs) := by
  have h1 : ((view gs).filter fun p => decide (p.1 = max a b)).flatMap (·.2) = h.xs := by
    unfold view
    rw [List.filter_map, ← hb]
    have := own_others hn hh
    have e : (gs.filter ((fun p : Int × List Int => decide (p.1 = h.key)) ∘ fun g => (g.key, g.xs))) = [h] := this
    rw [e]; simp
  unfold joinV
  rw [if_neg hab, h1]
  unfold view joinG
  rw [List.map_map, List.filter_map, List.map_map]
  rw [show ((fun p : Int × List Int => decide (p.1 ≠ max a b)) ∘ fun g : Grp => (g.key, g.xs)) = fun q : Grp => decide (q.key ≠ h.key) by funext q; simp [hb]]
  refine List.map_congr_left fun q hq => ?_
  simp only [Function.comp]
  by_cases hk : q.key = g.key
  · have := key_inj hn (List.mem_filter.1 hq).1 hg hk
    subst this
    simp [ha, hz]
  · have : ¬ q.key = min a b := by rw [← ha]; exact hk
    simp [hk, this]
theorem joinG_flat (hn : (gs.map Grp.key).Nodup) (hg : g ∈ gs) (hne : g.key ≠ h.key) : ((joinG g h zs v L gs).flatMap Grp.L).Perm (L ++ ((gs.filter fun q => decide (q.key ≠ g.key)).filter fun q => decide (q.key ≠ h.key)).flatMap Grp.L) := by
  have hm : ({ g with xs := zs, v := v, L := L } : Grp) ∈ joinG g h zs v L gs := List.mem_map.2 ⟨g, List.mem_filter.2 ⟨hg, by simpa using hne⟩, by rw [if_pos rfl]⟩
  have hnk : ((joinG g h zs v L gs).map Grp.key).Nodup := by
    rw [joinG_map (zs := zs) (v := v) (L := L) Grp.key hn hg rfl]
    exact (List.filter_sublist.map _).nodup hn
  refine (flat_pull hnk hm).trans (List.Perm.append_left _ ?_)
  have e : ((joinG g h zs v L gs).filter fun q => decide (q.key ≠ g.key)) = ((gs.filter fun q => decide (q.key ≠ g.key)).filter fun q => decide (q.key ≠ h.key)) := by
    unfold joinG
    rw [List.filter_map, List.filter_filter, List.filter_filter]
    rw [← List.map_id ((gs.filter fun q => decide (q.key ≠ h.key) && decide (q.key ≠ g.key)))]
    have e2 : (gs.filter fun a => ((fun q : Grp => decide (q.key ≠ g.key)) ∘ fun q => if q.key = g.key then ({ g with xs := zs, v := v, L := L } : Grp) else q) a && decide (a.key ≠ h.key)) = gs.filter fun q => decide (q.key ≠ h.key) && decide (q.key ≠ g.key) := by
      refine List.filter_congr fun q hq => ?_
      by_cases hk : q.key = g.key
      · simp [Function.comp, hk]
      · simp [Function.comp, hk, Bool.and_comm]
    rw [e2]
    refine List.map_congr_left fun q hq => ?_
    have := (List.mem_filter.1 hq).2
    simp only [Bool.and_eq_true, decide_eq_true_eq] at this
    simp [this.2]
  rw [e]
end
end Go.Kn
