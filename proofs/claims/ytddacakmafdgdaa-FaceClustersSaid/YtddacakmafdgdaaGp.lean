/- Groups: a map from ints to rows of ints of the call's own. -/
import Derived.Test.YtddacakmafdgdaaKnG
import Derived.Test.YtddacakmafdgdaaKnD
import Derived.Test.YtddacakmafdgdaaMa
set_option linter.unusedVariables false
set_option linter.unusedSimpArgs false
namespace Go.Kn
open Go.RowKit
structure Grp where
  key : Int
  xs : List Int
  v : Value
  born : Nat
  L : Hp
def Grp.ent (g : Grp) : Ent := ⟨g.key, g.v, g.born⟩
structure GMp (e : TypeId) (gs : List Grp) (clock : Nat) : Prop where
  row : ∀ g ∈ gs, OwnR e 1 g.v g.xs.length (g.xs.map (.int .i64)) g.L
  born : ∀ g ∈ gs, g.born < clock
  bnd : (gs.map Grp.born).Nodup
  knd : (gs.map Grp.key).Nodup
abbrev GL (bm : Nat) (gs : List Grp) (clock : Nat) : Hp := (bm, mapO (gs.map Grp.ent) clock) :: gs.flatMap Grp.L
def view (gs : List Grp) : List (Int × List Int) := gs.map fun g => (g.key, g.xs)
theorem Holds.sub {w : World} {L L' : Hp} (h : Holds w L) (hn : (L'.map (·.1)).Nodup) (hs : ∀ p ∈ L', p ∈ L) : Holds w L' := ⟨hn, fun p hp => h.at_ p (hs p hp)⟩
theorem GL_row {w : World} {bm clock : Nat} {gs : List Grp} {g : Grp} (h : Holds w (GL bm gs clock)) (hg : g ∈ gs) : Holds w g.L := by
  refine ⟨?_, fun p hp => h.at_ p (List.mem_cons_of_mem _ (List.mem_flatMap.2 ⟨g, hg, hp⟩))⟩
  have hn := h.nodup
  simp only [GL, List.map_cons, List.nodup_cons] at hn
  have h2 := hn.2
  clear hn h
  induction gs with
  | nil => cases hg
  | cons a r ih =>
    rw [List.flatMap_cons, List.map_append, List.nodup_append] at h2
    rcases List.mem_cons.1 hg with rfl | hg
    · exact h2.1
    · exact ih hg h2.2.1
theorem Mem.ro {w0 w : World} {L L' : Hp} (hL : Holds w0 L) (h : Mem w0 (keys L) w (L' ++ L)) : Mem w0 No w [] := by
  refine ⟨⟨h.kept.os, h.kept.tape, h.kept.output, h.kept.size, fun k hk _ => ?_⟩, Holds.nil _, by simp [keys]⟩
  by_cases hkL : keys L k
  · obtain ⟨p, hp, rfl⟩ := List.mem_map.1 hkL
    rw [h.holds.at_ p (List.mem_append_right _ hp), hL.at_ p hp]
  · exact h.kept.block k hk hkL
theorem Mem.pickT {w0 w : World} {S : Nat → Prop} {L : Hp} (h : Mem w0 S w L) (E T : Hp) (hE : L = E ++ T) (idx : List Nat) (L' : Hp) (hn : idx.Nodup) (hl : L' = idx.filterMap (fun i => E[i]?) ++ T) : Mem w0 S w L' := by
  subst hE
  subst hl
  have h1 := h.left.pick idx _ hn rfl
  have h2 := h.right
  refine ⟨h.kept, ⟨?_, fun p hp => ?_⟩, fun k hk => ?_⟩
  · rw [List.map_append, List.nodup_append]
    refine ⟨h1.holds.nodup, h2.holds.nodup, fun a ha b hb => ?_⟩
    have hnd := h.holds.nodup
    rw [List.map_append, List.nodup_append] at hnd
    obtain ⟨p, hp, rfl⟩ := List.mem_map.1 ha
    obtain ⟨j, _, hq⟩ := List.mem_filterMap.1 hp
    exact hnd.2.2 p.1 (List.mem_map.2 ⟨p, List.mem_of_getElem? hq, rfl⟩) b hb
  · rcases List.mem_append.1 hp with hp | hp
    · exact h1.holds.at_ p hp
    · exact h2.holds.at_ p hp
  · simp only [keys, List.map_append, List.mem_append] at hk
    rcases hk with hk | hk
    · exact h1.own k hk
    · exact h2.own k hk
theorem ent_mem {gs : List Grp} {e : Ent} (h : e ∈ gs.map Grp.ent) : ∃ g ∈ gs, g.ent = e := by
  obtain ⟨g, hg, rfl⟩ := List.mem_map.1 h
  exact ⟨g, hg, rfl⟩
theorem ents_born {e : TypeId} {gs : List Grp} {clock : Nat} (h : GMp e gs clock) : ∀ q ∈ gs.map Grp.ent, q.born < clock := by
  intro q hq
  obtain ⟨g, hg, rfl⟩ := ent_mem hq
  exact h.born g hg
theorem ents_bnd {e : TypeId} {gs : List Grp} {clock : Nat} (h : GMp e gs clock) : ((gs.map Grp.ent).map Ent.born).Nodup := by
  have := h.bnd
  rw [List.map_map]
  exact this
theorem ents_knd {e : TypeId} {gs : List Grp} {clock : Nat} (h : GMp e gs clock) : ((gs.map Grp.ent).map Ent.key).Nodup := by
  have := h.knd
  rw [List.map_map]
  exact this
theorem no_push {gs : List Grp} {seen : Array Nat} {P : Grp → Prop} (inj : ∀ {p q : Grp}, p ∈ gs → q ∈ gs → p.born = q.born → p = q) {g : Grp} (hg : g ∈ gs) (hno : ∀ q ∈ gs, q.born ∈ seen.toList → P q) (h : P g) : ∀ q ∈ gs, q.born ∈ (seen.push g.born).toList → P q := by
  intro q hq hb
  have h2 : q.born ∈ seen.toList ∨ q.born = g.born := by simpa using hb
  rcases h2 with h3 | h3
  · exact hno q hq h3
  · rw [inj hq hg h3]; exact h
/-- how many are still to come -/
def todo (gs : List Grp) (seen : Array Nat) : Nat := (gs.filter fun g => decide (g.born ∉ seen.toList)).length
theorem todo_push {gs : List Grp} {seen : Array Nat} {g : Grp} (hg : g ∈ gs) (hn : g.born ∉ seen.toList) : todo gs (seen.push g.born) < todo gs seen := by
  unfold todo
  have h1 : gs.filter (fun q => decide (q.born ∉ (seen.push g.born).toList)) = (gs.filter fun q => decide (q.born ∉ seen.toList)).filter (fun q => decide (q.born ≠ g.born)) := by
    rw [List.filter_filter]
    congr 1
    funext q
    by_cases h : q.born = g.born <;> simp [h]
  rw [h1]
  exact List.length_filter_lt_length_iff_exists.2 ⟨g, List.mem_filter.2 ⟨hg, by simpa using hn⟩, by simp⟩
/-- what a search among groups gives -/
def ofIs (gs : List (Int × List Int)) (n : Int) (r : Int) : Prop := (∃ p ∈ gs, n ∈ p.2 ∧ r = p.1) ∨ (r = -1 ∧ ∀ p ∈ gs, n ∉ p.2)
theorem GMp.nil (e : TypeId) (c : Nat) : GMp e [] c := ⟨by simp, by simp, by simp, by simp⟩
theorem GMp.snoc {e : TypeId} {gs : List Grp} {clock : Nat} (h : GMp e gs clock) {g : Grp} (hr : OwnR e 1 g.v g.xs.length (g.xs.map (.int .i64)) g.L) (hb : g.born = clock) (hk : ∀ q ∈ gs, q.key ≠ g.key) : GMp e (gs ++ [g]) (clock + 1) :=
  ⟨fun q hq => by rcases List.mem_append.1 hq with hq | hq
                  · exact h.row q hq
                  · simp at hq; subst hq; exact hr,
   fun q hq => by rcases List.mem_append.1 hq with hq | hq
                  · exact Nat.lt_succ_of_lt (h.born q hq)
                  · simp at hq; subst hq; omega,
   by rw [List.map_append, List.nodup_append]
      exact ⟨h.bnd, by simp, fun a ha b hb' => by
        obtain ⟨q, hq, rfl⟩ := List.mem_map.1 ha
        simp at hb'
        have := h.born q hq
        omega⟩,
   by rw [List.map_append, List.nodup_append]
      exact ⟨h.knd, by simp, fun a ha b hb' => by
        obtain ⟨q, hq, rfl⟩ := List.mem_map.1 ha
        simp at hb'
        rw [hb']
        exact hk q hq⟩⟩
theorem mget_none {k : Int} {es : List Ent} (h : ∀ e ∈ es, e.key ≠ k) : mget k es = none := by
  induction es with
  | nil => rfl
  | cons a r ih => unfold mget; rw [if_neg (h a (by simp))]; exact ih (fun e he => h e (by simp [he]))
theorem mget_some {k : Int} {es : List Ent} {e : Ent} (he : e ∈ es) (hk : e.key = k) (hn : (es.map Ent.key).Nodup) : mget k es = some e.v := by
  induction es with
  | nil => cases he
  | cons a r ih =>
    simp only [List.map_cons, List.nodup_cons] at hn
    unfold mget
    rcases List.mem_cons.1 he with h | h
    · subst h; rw [if_pos hk]
    · rw [if_neg (fun h2 => hn.1 (by rw [h2, ← hk]; exact List.mem_map.2 ⟨e, h, rfl⟩))]
      exact ih h hn.2
/-- the groups of n places, one each -/
def eachG (n : Nat) : List (Int × List Int) := (List.range n).map fun (i : Nat) => ((i : Int), [(i : Int)])
theorem eachG_succ (n : Nat) : eachG (n + 1) = eachG n ++ [((n : Int), [(n : Int)])] := by simp [eachG, List.range_succ]
theorem view_snoc (gs : List Grp) (g : Grp) : view (gs ++ [g]) = view gs ++ [(g.key, g.xs)] := by simp [view]
theorem GL_snoc {w0 w : World} {S : Nat → Prop} {bm bs c' : Nat} {gs : List Grp} {g : Grp} {o : Obj} (hL : g.L = [(bs, o)]) (h : Mem w0 S w ((bs, o) :: (bm, mapO (gs.map Grp.ent ++ [g.ent]) c') :: gs.flatMap Grp.L)) : Mem w0 S w (GL bm (gs ++ [g]) c') := by
  refine h.perm ?_
  unfold GL
  rw [List.flatMap_append, List.map_append]
  simp only [List.flatMap_cons, List.flatMap_nil, List.append_nil, hL, List.map_cons, List.map_nil]
  refine (List.Perm.swap _ _ _).trans (List.Perm.cons _ ?_)
  exact List.perm_append_comm (l₁ := [(bs, o)])
theorem take_snoc' {α : Type} {xs : List α} {k : Nat} {y : α} (h : xs[k]? = some y) : xs.take (k + 1) = xs.take k ++ [y] := by
  obtain ⟨hlt, rfl⟩ := List.getElem?_eq_some_iff.1 h
  exact List.take_succ_eq_append_getElem hlt
theorem each_new {gs : List Grp} {k : Nat} (hV : view gs = eachG k) : ∀ q ∈ gs, q.key ≠ (k : Int) := by
  intro q hq h
  have : (q.key, q.xs) ∈ eachG k := by rw [← hV]; exact List.mem_map.2 ⟨q, hq, rfl⟩
  obtain ⟨i, hi, he⟩ := List.mem_map.1 this
  have h1 : (i : Int) = q.key := congrArg Prod.fst he
  have := List.mem_range.1 hi
  omega
theorem Holds.up0 {w0 w : World} {bm : Nat} {gs : List Grp} {E : Hp} {g : Grp} (_h : Holds w0 g.L) {S : Nat → Prop} {o : Obj} (hM : Mem w0 S w (E ++ [(bm, o)] ++ gs.flatMap Grp.L)) (hg : g ∈ gs) : Holds w g.L :=
  ⟨_h.nodup, fun p hp => hM.holds.at_ p (List.mem_append_right _ (List.mem_flatMap.2 ⟨g, hg, hp⟩))⟩
theorem grp_inj {e : TypeId} {gs : List Grp} {clock : Nat} (h : GMp e gs clock) {p q : Grp} (hp : p ∈ gs) (hq : q ∈ gs) (he : p.born = q.born) : p = q := by
  have hb := h.bnd
  clear h
  induction gs with
  | nil => cases hp
  | cons a r ih =>
    simp only [List.map_cons, List.nodup_cons] at hb
    rcases List.mem_cons.1 hp with h1 | h1
    · rcases List.mem_cons.1 hq with h2 | h2
      · rw [h1, h2]
      · exact absurd (List.mem_map.2 ⟨q, h2, by rw [← he, h1]⟩) hb.1
    · rcases List.mem_cons.1 hq with h2 | h2
      · exact absurd (List.mem_map.2 ⟨p, h1, by rw [he, h2]⟩) hb.1
      · exact ih h1 h2 hb.2
end Go.Kn
