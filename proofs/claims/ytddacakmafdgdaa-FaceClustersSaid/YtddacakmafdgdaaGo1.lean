/- What a clustering needs of the parts. -/
import Derived.Test.YtddacakmafdgdaaGk
import Derived.Test.YtddacakmafdgdaaFj
set_option linter.unusedVariables false
set_option linter.unusedSimpArgs false
namespace Go.Proofs.Ytddacakmafdgdaa
open Go.RowKit Go.Kn
theorem sorted_f (bm bx n : Nat) (f : Nat → Nat) (gs : List Grp) (w : World) (hG : GMp tInt gs n) (hF : IsG n f (view gs)) (hn : n ≤ 300) (hm : w.heap[bm]? = some (mapO (gs.map Grp.ent) n)) (hx : w.heap[bx]? = some (.cells #[.map (some bm)] 87 (0, 0))) :
    Calls Try.prog 51 #[.func (.func 71) #[] #[.pointer (some ⟨bx, 0, none⟩)]] w fun e w' => ∃ r, e = .returned r ∧ ∃ L, OwnR tInt 1 r (keysOf n f).length ((natsI (keysOf n f)).map (.int .i64)) L ∧ Mem w No w' L := by
  have hlen := keys_gs_len hF hG.knd
  have hkl := keysOf_len n f
  have hek : (gs.map Grp.ent).map Ent.key = gs.map Grp.key := by rw [List.map_map]; rfl
  refine (sorted_s bm bx (gs.map Grp.ent) n w hm hx ?_ (ents_born hG) (ents_bnd hG) (ents_knd hG) (by rw [List.length_map]; omega)).mono ?_
  · intro e he
    obtain ⟨g, hg, rfl⟩ := ent_mem he
    obtain ⟨p, h1, _, h3, _⟩ := hF.xs hg
    show _ ≤ g.key ∧ g.key ≤ _
    rw [h3]
    omega
  · rintro e w' ⟨r, h1, L, h2, h3⟩
    rw [hek, sorted_keys hF hG.knd, List.length_map, hlen] at h2
    exact ⟨r, h1, L, h2, h3⟩
theorem join_k (bm : Nat) (gs : List Grp) (N : Nat) (hG : GMp tInt gs N) (f : Nat → Nat) (hF : IsG N f (view gs)) (hN : N ≤ 300) (x y : Nat) (hx : isKey N f x) (hy : isKey N f y) (w : World) (hL : Kn.Holds w (GL bm gs N)) :
    Calls Try.prog 53 #[.map (some bm), .int .i64 (x : Int), .int .i64 (y : Int)] w fun e w' => ∃ r, e = .returned r ∧ r = .tuple #[] ∧ ∃ gs', (GMp tInt gs' N ∧ IsG N (joinF x y f) (view gs')) ∧ Mem w (keys (GL bm gs N)) w' (GL bm gs' N) := by
  have h := join_f bm gs N hG N f hF hN x y hx.1 hy.1 w hL
  rw [hx.2, hy.2] at h
  exact h
theorem _root_.Go.Kn.OwnR.out {w0 w : World} {S : Nat → Prop} {e : TypeId} {sz n c : Nat} {A : Option Addr} {xs : List Value} {L X : Hp} (h : OwnR e sz (.slice A n c) n xs L) (hM : Mem w0 S w (L ++ X)) {b : Nat} (hb : keys X b) (hn : 0 < n) : b ≠ (adr A).block := by
  rcases h.2 with ⟨h1, h2, _⟩ | ⟨b', cap, cur, h2, _, _, _, _, rfl⟩
  · omega
  · injection h2 with h2 _ _
    subst h2
    have hnd := hM.holds.nodup
    rw [List.map_append, List.nodup_append] at hnd
    exact fun e => hnd.2.2 b' (by simp) b hb (by simpa [adr] using e.symm)
theorem _root_.Go.Kn.keys_right {A B : Hp} {b : Nat} (h : keys B b) : keys (A ++ B) b := by
  simp only [keys, List.map_append, List.mem_append]; exact .inr h
/-- rows that are read only from now on -/
structure ORow where
  A : Option Addr
  xs : List Int
  L : Hp
abbrev rowV (r : ORow) : Value := .slice r.A r.xs.length r.xs.length
abbrev encS (r : ORow) : List Value := [rowV r]
def ORow.ok (r : ORow) : Prop := ∃ c, OwnR tInt 1 (.slice r.A r.xs.length c) r.xs.length (r.xs.map (.int .i64)) r.L
def SSok (w : World) (A : Option Addr) (rows : List ORow) : Prop := RdE encS 1 w A rows.length rows ∧ ∀ r ∈ rows, RdE intE 1 w r.A r.xs.length r.xs
theorem SSok.up {w0 w : World} {A : Option Addr} {rows : List ORow} {L : Hp} (h : SSok w0 A rows) (hM : Mem w0 No w L) : SSok w A rows := ⟨h.1.up hM, fun r hr => (h.2 r hr).up hM⟩
theorem flatMap_encS (rows : List ORow) : rows.flatMap encS = rows.map rowV := by
  induction rows with
  | nil => rfl
  | cons a t ih => rw [List.flatMap_cons, ih]; rfl
theorem SSok_of {w0 w : World} {S : Nat → Prop} {A : Option Addr} {c : Nat} {rows : List ORow} {Lo R : Hp} (hM : Mem w0 S w (Lo ++ (rows.flatMap ORow.L ++ R))) (ho : OwnR tInts 1 (.slice A rows.length c) rows.length (rows.map rowV) Lo) (hr : ∀ r ∈ rows, r.ok) : SSok w A rows := by
  refine ⟨OwnR.rd (enc := encS) (by rw [flatMap_encS]; exact ho) hM.left.holds (by simp) (by decide), fun r hrm => ?_⟩
  obtain ⟨c', hc⟩ := hr r hrm
  refine hc.rdI ?_
  have h2 : Kn.Holds w (rows.flatMap ORow.L) := (Mem.left (Mem.right hM)).holds
  refine ⟨?_, fun p hp => h2.at_ p (List.mem_flatMap.2 ⟨r, hrm, hp⟩)⟩
  have hn := h2.nodup
  clear hM ho h2 hr
  induction rows with
  | nil => cases hrm
  | cons a t ih =>
    rw [List.flatMap_cons, List.map_append, List.nodup_append] at hn
    rcases List.mem_cons.1 hrm with rfl | h
    · exact hn.1
    · exact ih h hn.2.1
def idsAt (l : List (List Int)) (n : Nat) (f : Nat → Nat) (k : Nat) : List Int := (members n f k).map fun p => idOf (l.getD p [])
def idsG (l : List (List Int)) (n : Nat) (f : Nat → Nat) : List (List Int) := (keysOf n f).map (idsAt l n f)
theorem x_loadRowM {P : Program} {w w0 : World} {S : Nat → Prop} {L : Hp} {ρ : Operand → Value} {dst : Option Tmp} {type : TypeId} {pos : String} {after : Array Edge} {guard : Option (Nat × Bool)} {t e : TypeId} {x : Operand} {b : Nat} {cs : Array Value} (hM : Mem w0 S w L) (hm : (b, Obj.cells cs e (0, 0)) ∈ L) (hx : ρ x = .pointer (some ⟨b, 0, none⟩)) (hg : (isAgg t).run P w = .ok true w) (hs : (sizeOf t).run P w = .ok cs.size w) :
    (execOp ρ ⟨dst, .load t x, type, pos, after, guard⟩).run P w = .ok (.value (.agg cs)) w := by
  obtain ⟨i, hi⟩ := List.mem_iff_getElem?.1 hm
  exact x_loadRow hM i hi hx hg hs
theorem _root_.Go.Kn.IsG.row {n : Nat} {f : Nat → Nat} {gs : List Grp} (h : IsG n f (view gs)) {q : Grp} (hq : q ∈ gs) {x : Nat} (hk : q.key = (x : Int)) : q.xs = membersI n f x := by
  obtain ⟨p, _, _, h3, h4⟩ := h.xs hq
  have : p = x := by omega
  subst this
  exact h4
theorem _root_.Go.Kn.flat_row {w : World} {gs : List Grp} {g : Grp} (h : Kn.Holds w (gs.flatMap Grp.L)) (hg : g ∈ gs) : Kn.Holds w g.L := by
  refine ⟨?_, fun p hp => h.at_ p (List.mem_flatMap.2 ⟨g, hg, hp⟩)⟩
  have hn := h.nodup
  clear h
  induction gs with
  | nil => cases hg
  | cons a r ih =>
    rw [List.flatMap_cons, List.map_append, List.nodup_append] at hn
    rcases List.mem_cons.1 hg with rfl | hg
    · exact hn.1
    · exact ih hg hn.2.1
theorem members_get {n k x p : Nat} {f : Nat → Nat} (h : (members n f x)[k]? = some p) : (membersI n f x)[k]? = some (p : Int) := by simp [membersI, h]
theorem ids_snoc {l : List (List Int)} {n x k p : Nat} {f : Nat → Nat} {z : List Int} {v : Value} {L : Hp} (hp : (members n f x)[k]? = some p) (hz : l[p]? = some z) (h : OwnR tInt 1 v (k + 1) ((((members n f x).take k).map fun p => idOf (l.getD p [])).map (.int .i64) ++ [Value.int .i64 (idOf z)]) L) : OwnR tInt 1 v (k + 1) ((((members n f x).take (k + 1)).map fun p => idOf (l.getD p [])).map (.int .i64)) L := by
  rw [take_snoc' hp, List.map_append, List.map_append, show ([p].map fun p => idOf (l.getD p [])) = [idOf z] by simp [hz]]
  exact h
theorem rows_flat {rows : List ORow} {r : ORow} : (rows ++ [r]).flatMap ORow.L = rows.flatMap ORow.L ++ r.L := by simp
theorem _root_.Go.Kn.Mem.rowsnoc {w0 w : World} {S : Nat → Prop} {p : Nat × Obj} {A Li B R : Hp} (h : Mem w0 S w (p :: (A ++ (Li ++ (B ++ R))))) : Mem w0 S w (p :: (A ++ ((B ++ Li) ++ R))) := by
  refine h.perm (List.Perm.cons p (List.Perm.append_left A ?_))
  rw [List.append_assoc]
  exact List.perm_append_comm_assoc Li B R
end Go.Proofs.Ytddacakmafdgdaa
