/- Lists of lists of bytes, held or only read. -/
import Derived.Test.YtjhlelcopofkkaaDoorScanR
namespace Go.Proofs.YtjhlelcopofkkaaDoor
open Go.RowKit

instance : Std.Associative (α := HP) (· * ·) := ⟨HP.assoc⟩
instance : Std.Commutative (α := HP) (· * ·) := ⟨HP.comm⟩
theorem Sat.perm {w0 w : World} {A B : HP} (hs : Sat w0 w A) (h : A = B) : Sat w0 w B := h ▸ hs

theorem Sat.one' {w0 w : World} {A : HP} (hs : Sat w0 w A) : Sat w0 w (1 * A) := by rw [HP.one_mul]; exact hs
theorem Sat.unone' {w0 w : World} {A : HP} (hs : Sat w0 w (1 * A)) : Sat w0 w A := by rw [HP.one_mul] at hs; exact hs

/-- Two blocks that are held apart are two. -/
theorem Sat.blk_ne {w0 w : World} {F : HP} {a b : Nat} {cs ds : List Value} {t e : TypeId} (hs : Sat w0 w (F * blk a cs t * blk b ds e)) : a ≠ b := by
  obtain ⟨x, ⟨h1, h2, ⟨h3, h4, _, h4b, _, hu1⟩, hb, hd, _⟩, _⟩ := hs.held
  intro e
  have e1 : h1 a = some (.cells cs.toArray t (0, 0)) ∨ h3 a ≠ none := by
    rw [hu1, h4b a, if_pos rfl]
    cases h3 a with
    | none => exact Or.inl rfl
    | some o => exact Or.inr (by simp)
  have e2 : h2 a ≠ none := by rw [hb a, if_pos e]; simp
  rcases hd a with h | h
  · rcases e1 with e1 | e1
    · rw [h] at e1; cases e1
    · rw [hu1] at h
      cases h3a : h3 a with
      | none => exact e1 h3a
      | some o => rw [h3a] at h; cases h
  · exact e2 h

/-- Each value a list of its own, of these bytes. -/
def bvl : List Value → List (List UInt8) → HP
  | [], [] => 1
  | v :: vs, p :: ps => vec 5 1 v p.length (bvs p) * bvl vs ps
  | _, _ => fun _ => False
theorem bvl_nil : bvl [] [] = 1 := rfl
theorem bvl_cons (v : Value) (vs : List Value) (p : List UInt8) (ps : List (List UInt8)) : bvl (v :: vs) (p :: ps) = vec 5 1 v p.length (bvs p) * bvl vs ps := rfl
theorem bvl_one (v : Value) (p : List UInt8) : bvl [v] [p] = vec 5 1 v p.length (bvs p) := by rw [bvl_cons, bvl_nil, HP.mul_one]
theorem bvl_len : ∀ {vs : List Value} {ps : List (List UInt8)} {h : Hl}, bvl vs ps h → vs.length = ps.length
  | [], [], _, _ => rfl
  | v :: vs, p :: ps, h, hh => by
    obtain ⟨h1, h2, _, hb, _, _⟩ := hh
    simp [bvl_len hb]
  | [], _ :: _, _, hh => hh.elim
  | _ :: _, [], _, hh => hh.elim
theorem bvl_append : ∀ {vs us : List Value} {ps qs : List (List UInt8)}, vs.length = ps.length → bvl (vs ++ us) (ps ++ qs) = bvl vs ps * bvl us qs
  | [], us, [], qs, _ => by rw [bvl_nil, HP.one_mul]; rfl
  | v :: vs, us, p :: ps, qs, h => by
    rw [List.cons_append, List.cons_append, bvl_cons, bvl_cons, bvl_append (by simpa using h), HP.assoc]
  | [], us, _ :: _, qs, h => by simp at h
  | _ :: _, us, [], qs, h => by simp at h
theorem bvl_snoc {vs : List Value} {ps : List (List UInt8)} (h : vs.length = ps.length) (v : Value) (p : List UInt8) : bvl (vs ++ [v]) (ps ++ [p]) = bvl vs ps * vec 5 1 v p.length (bvs p) := by
  rw [bvl_append h, bvl_one]
theorem bvl_at {vs : List Value} {ps : List (List UInt8)} (h : vs.length = ps.length) {k : Nat} {v : Value} {p : List UInt8} (hv : vs[k]? = some v) (hp : ps[k]? = some p) :
    bvl vs ps = bvl (vs.take k) (ps.take k) * vec 5 1 v p.length (bvs p) * bvl (vs.drop (k + 1)) (ps.drop (k + 1)) := by
  obtain ⟨hk, rfl⟩ := List.getElem?_eq_some_iff.1 hv
  obtain ⟨hk', rfl⟩ := List.getElem?_eq_some_iff.1 hp
  have e1 : vs = vs.take k ++ (vs[k] :: vs.drop (k + 1)) := by rw [List.getElem_cons_drop, List.take_append_drop]
  have e2 : ps = ps.take k ++ (ps[k] :: ps.drop (k + 1)) := by rw [List.getElem_cons_drop, List.take_append_drop]
  have : bvl vs ps = bvl (vs.take k ++ (vs[k] :: vs.drop (k + 1))) (ps.take k ++ (ps[k] :: ps.drop (k + 1))) := by rw [← e1, ← e2]
  rw [this, bvl_append (by rw [List.length_take, List.length_take, h]), bvl_cons, HP.assoc]

theorem Sat.bvl_len {w0 w : World} {F : HP} {vs : List Value} {ps : List (List UInt8)} (hs : Sat w0 w (F * bvl vs ps)) : vs.length = ps.length := by
  obtain ⟨x, ⟨h1, h2, ha, hb, hd, hu⟩, hx⟩ := hs.held
  exact Go.Proofs.YtjhlelcopofkkaaDoor.bvl_len hb
/-- One of them, read. -/
theorem Sat.bvl_rd {w0 w : World} {F : HP} {vs : List Value} {ps : List (List UInt8)} (hs : Sat w0 w (F * bvl vs ps)) {k : Nat} {p : List UInt8} (hp : ps[k]? = some p) :
    ∃ (bo : Option Addr) (c : Nat), vs[k]? = some (Value.slice bo p.length c) ∧ p.length ≤ c ∧ Rd w bo (bvs p) ∧ (bo = none → p.length = 0 ∧ c = 0) := by
  have hl := hs.bvl_len
  have hk := (List.getElem?_eq_some_iff.1 hp).1
  have hv : vs[k]? = some vs[k] := List.getElem?_eq_getElem (by omega)
  rw [bvl_at hl hv hp] at hs
  obtain ⟨ao, cap, e, h1, h2, h3⟩ := (hs.perm (B := F * bvl (vs.take k) (ps.take k) * bvl (vs.drop (k + 1)) (ps.drop (k + 1)) * vec 5 1 vs[k] p.length (bvs p)) (by ac_rfl)).vec_rd
  exact ⟨ao, cap, by rw [hv, e], h1, h2, h3⟩

/-- A list of lists of bytes, only read. -/
def RdL (w : World) (ao : Option Addr) (ps : List (List UInt8)) : Prop :=
  ∃ vs : List Value, Rd w ao vs ∧ vs.length = ps.length ∧ ∀ (k : Nat) (p : List UInt8), ps[k]? = some p → ∃ (bo : Option Addr) (c : Nat), vs[k]? = some (Value.slice bo p.length c) ∧ p.length ≤ c ∧ Rd w bo (bvs p) ∧ (bo = none → p.length = 0 ∧ c = 0)
theorem RdL.mono {w w' : World} {ao : Option Addr} {ps : List (List UInt8)} (h : RdL w ao ps) (hb : Below w.heap.size w w') : RdL w' ao ps := by
  obtain ⟨vs, h1, h2, h3⟩ := h
  exact ⟨vs, h1.mono hb, h2, fun k p hp => let ⟨bo, c, a1, a2, a3, a4⟩ := h3 k p hp; ⟨bo, c, a1, a2, a3.mono hb, a4⟩⟩
theorem RdL.of0 {w0 w : World} {A : HP} {ao : Option Addr} {ps : List (List UInt8)} (h : RdL w0 ao ps) (hs : Sat w0 w A) : RdL w ao ps := h.mono hs.below
theorem RdL.drewN {w : World} {ao : Option Addr} {ps : List (List UInt8)} (h : RdL w ao ps) {n : Nat} : RdL (w.drewN n) ao ps := h.mono (below_drewN (Below.refl _ _) n)
theorem RdL.nil (w : World) (ao : Option Addr) : RdL w ao [] := ⟨[], Rd.nil _ _, rfl, fun k p hp => by simp at hp⟩
/-- The cell at an index. -/
theorem RdL.cell {w : World} {ao : Option Addr} {ps : List (List UInt8)} (h : RdL w ao ps) {k : Nat} (hk : k < ps.length) :
    ∃ b o bo c, ao = some ⟨b, o, none⟩ ∧ w.cell? ⟨b, o + k, none⟩ = some (.slice bo ps[k].length c) ∧ ps[k].length ≤ c ∧ Rd w bo (bvs ps[k]) ∧ (bo = none → ps[k].length = 0 ∧ c = 0) := by
  obtain ⟨vs, h1, h2, h3⟩ := h
  obtain ⟨bo, c, a1, a2, a3, a4⟩ := h3 k _ (List.getElem?_eq_getElem hk)
  obtain ⟨b, o, e, hc⟩ := h1.addr (by intro e; rw [e] at h2; simp at h2; omega)
  exact ⟨b, o, bo, c, e, hc _ _ a1, a2, a3, a4⟩

/-- A list of lists of bytes, held. -/
def vecs (v : Value) (ps : List (List UInt8)) : HP := fun h => ∃ vs, (vec 22 1 v ps.length vs * bvl vs ps) h
theorem Sat.vecs_open {w0 w : World} {F : HP} {v : Value} {ps : List (List UInt8)} (hs : Sat w0 w (F * vecs v ps)) : ∃ vs, vs.length = ps.length ∧ Sat w0 w (F * vec 22 1 v ps.length vs * bvl vs ps) := by
  obtain ⟨x, ⟨h1, h2, ha, ⟨vs, hb⟩, hd, hu⟩, hx⟩ := hs.held
  have hs' : Sat w0 w (F * vec 22 1 v ps.length vs * bvl vs ps) := by
    rw [HP.assoc]
    exact ⟨hs.below, x, ⟨h1, h2, ha, hb, hd, hu⟩, hx⟩
  exact ⟨vs, hs'.bvl_len, hs'⟩
theorem Sat.vecs_shut {w0 w : World} {F : HP} {v : Value} {vs : List Value} {ps : List (List UInt8)} (hs : Sat w0 w (F * vec 22 1 v ps.length vs * bvl vs ps)) : Sat w0 w (F * vecs v ps) := by
  rw [HP.assoc] at hs
  exact hs.imp_last fun h hh => ⟨vs, hh⟩
theorem Sat.vecs_rd {w0 w : World} {F : HP} {v : Value} {ps : List (List UInt8)} (hs : Sat w0 w (F * vecs v ps)) : ∃ ao cap, v = .slice ao ps.length cap ∧ ps.length ≤ cap ∧ RdL w ao ps ∧ (ao = none → ps.length = 0 ∧ cap = 0) := by
  obtain ⟨vs, hl, h⟩ := hs.vecs_open
  obtain ⟨ao, cap, e, h1, h2, h3⟩ := h.swap.vec_rd
  exact ⟨ao, cap, e, h1, ⟨vs, h2, hl, fun k p hp => h.bvl_rd hp⟩, h3⟩
theorem Sat.vecs_nil {w0 w : World} {F : HP} (hs : Sat w0 w F) : Sat w0 w (F * vecs (.slice none 0 0) []) :=
  Sat.vecs_shut (vs := []) (by rw [bvl_nil, HP.mul_one]; exact hs.vec_nil _ _)
/-- One more at its end, the cells being appended. -/
theorem Sat.vecs_snoc {w0 w : World} {F : HP} {v v' : Value} {vs : List Value} {ps : List (List UInt8)} {p : List UInt8} (hl : vs.length = ps.length)
    (hs : Sat w0 w (F * vec 22 1 v' (ps.length + 1) (vs ++ [v]) * bvl vs ps * vec 5 1 v p.length (bvs p))) : Sat w0 w (F * vecs v' (ps ++ [p])) := by
  refine Sat.vecs_shut (vs := vs ++ [v]) ?_
  rw [bvl_snoc hl, List.length_append, List.length_singleton, ← HP.assoc]
  exact hs

/-- Numbers as values. -/
def ints (l : List Nat) : List Value := l.map fun (n : Nat) => Value.int .i64 n
theorem ints_length (l : List Nat) : (ints l).length = l.length := by simp [ints]
theorem ints_one (l : List Nat) : ∀ v ∈ ints l, v.oneCell' = true := by
  intro v hv
  obtain ⟨b, _, rfl⟩ := List.mem_map.1 hv
  rfl
theorem ints_get {l : List Nat} {k n : Nat} (h : l[k]? = some n) : (ints l)[k]? = some (.int .i64 n) := by simp [ints, h]
theorem ints_snoc (l : List Nat) (n : Nat) : ints (l ++ [n]) = ints l ++ [.int .i64 n] := by simp [ints]
theorem info_int : (Tryd.prog.info? 3).map (fun i => (i.zero, i.size, i.bytes)) = some (some (.int .i64 0), 1, 8) := by kernel_rfl
theorem info_bytes : (Tryd.prog.info? 22).map (fun i => (i.zero, i.size, i.bytes)) = some (some (.slice none 0 0), 1, 24) := by kernel_rfl
end Go.Proofs.YtjhlelcopofkkaaDoor
