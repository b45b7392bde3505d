/- A small logic of disjoint blocks: what a world holds, part beside part, from a first world on; the first world's own blocks stay as they were. -/
import Derived.WalkKit
import Derived.Maps.AppendAt
import Derived.Deep.Draws
import Derived.Laws.CopyOwn
import Derived.Laws.AppendOwnNone
import Derived.OwnWalk
import Derived.Deep.AppendLies
namespace Go.Proofs.YtjhlelcopofkkaaDoor
open Go.RowKit

theorem Hid.mk' {p : Prop} (h : p) : Hid p := h
/-- A part of a heap. -/
abbrev Hl := Nat → Option Obj
/-- What is said of a part of a heap. -/
def HP := Hl → Prop
def HP.star (A B : HP) : HP := fun h => ∃ h1 h2 : Hl, A h1 ∧ B h2 ∧ (∀ b, h1 b = none ∨ h2 b = none) ∧ ∀ b, h b = (h1 b).or (h2 b)
def HP.emp : HP := fun h => ∀ b, h b = none
instance : Mul HP := ⟨HP.star⟩
instance : One HP := ⟨HP.emp⟩

theorem HP.ext {A B : HP} (h : ∀ x, A x ↔ B x) : A = B := funext fun x => propext (h x)

theorem HP.comm (A B : HP) : A * B = B * A := by
  have half : ∀ (A B : HP) x, (A * B) x → (B * A) x := by
    rintro A B x ⟨h1, h2, ha, hb, hd, hu⟩
    refine ⟨h2, h1, hb, ha, fun b => (hd b).symm, fun b => ?_⟩
    rw [hu b]
    rcases hd b with h | h <;> rw [h] <;> simp
  exact HP.ext fun x => ⟨half A B x, half B A x⟩

theorem HP.assoc (A B C : HP) : A * B * C = A * (B * C) := by
  apply HP.ext
  intro x
  constructor
  · rintro ⟨h12, h3, ⟨h1, h2, ha, hb, hd, hu⟩, hc, hd2, hu2⟩
    refine ⟨h1, fun b => (h2 b).or (h3 b), ha, ⟨h2, h3, hb, hc, fun b => ?_, fun b => rfl⟩, fun b => ?_, fun b => ?_⟩
    · rcases hd2 b with h | h
      · rw [hu b, Option.or_eq_none_iff] at h
        exact Or.inl h.2
      · exact Or.inr h
    · rcases hd2 b with h | h
      · rw [hu b, Option.or_eq_none_iff] at h
        exact Or.inl h.1
      · rcases hd b with h' | h'
        · exact Or.inl h'
        · right; simp [h, h']
    · rw [hu2 b, hu b, Option.or_assoc]
  · rintro ⟨h1, h23, ha, ⟨h2, h3, hb, hc, hd, hu⟩, hd2, hu2⟩
    refine ⟨fun b => (h1 b).or (h2 b), h3, ⟨h1, h2, ha, hb, fun b => ?_, fun b => rfl⟩, hc, fun b => ?_, fun b => ?_⟩
    · rcases hd2 b with h | h
      · exact Or.inl h
      · rw [hu b, Option.or_eq_none_iff] at h
        exact Or.inr h.1
    · rcases hd b with h | h
      · rcases hd2 b with h' | h'
        · left; simp [h, h']
        · rw [hu b, Option.or_eq_none_iff] at h'
          exact Or.inr h'.2
      · exact Or.inr h
    · rw [hu2 b, hu b, ← Option.or_assoc]

theorem HP.one_mul (A : HP) : (1 : HP) * A = A := by
  apply HP.ext
  intro x
  constructor
  · rintro ⟨h1, h2, ha, hb, _, hu⟩
    have : x = h2 := funext fun b => by rw [hu b, show h1 b = none from ha b]; simp
    rw [this]; exact hb
  · intro h
    exact ⟨fun _ => none, x, fun _ => rfl, h, fun _ => Or.inl rfl, fun b => by simp⟩
theorem HP.mul_one (A : HP) : A * (1 : HP) = A := by rw [HP.comm, HP.one_mul]
/-- The last two change places. -/
theorem HP.swap (A B C : HP) : A * B * C = A * C * B := by rw [HP.assoc, HP.comm B C, ← HP.assoc]
theorem HP.rot3 (A B C D : HP) : A * B * C * D = A * C * D * B := by rw [HP.swap A B C, HP.swap (A * C) B D]
theorem HP.rot4 (A B C D E : HP) : A * B * C * D * E = A * C * D * E * B := by rw [HP.rot3 A B C D, HP.swap _ B E]
theorem HP.rot5 (A B C D E G : HP) : A * B * C * D * E * G = A * C * D * E * G * B := by rw [HP.rot4 A B C D E, HP.swap _ B G]
theorem HP.rot6 (A B C D E G H : HP) : A * B * C * D * E * G * H = A * C * D * E * G * H * B := by rw [HP.rot5 A B C D E G, HP.swap _ B H]
theorem HP.rot7 (A B C D E G H I : HP) : A * B * C * D * E * G * H * I = A * C * D * E * G * H * I * B := by rw [HP.rot6 A B C D E G H, HP.swap _ B I]

/-- What the world w holds, beside all that w0 held. -/
structure Sat (w0 w : World) (A : HP) : Prop where
  below : Below w0.heap.size w0 w
  held : ∃ h : Hl, A h ∧ ∀ b o, h b = some o → w0.heap.size ≤ b ∧ w.heap[b]? = some o

theorem Sat.start (w : World) : Sat w w 1 := ⟨Below.refl _ _, fun _ => none, fun _ => rfl, fun b o h => by simp at h⟩
theorem Sat.imp {w0 w : World} {A B : HP} (hs : Sat w0 w A) (h : ∀ x, A x → B x) : Sat w0 w B :=
  let ⟨x, ha, hx⟩ := hs.held
  ⟨hs.below, x, h x ha, hx⟩
theorem HP.star_imp {A B B' : HP} (h : ∀ x, B x → B' x) : ∀ x, (A * B) x → (A * B') x := by
  rintro x ⟨h1, h2, ha, hb, hd, hu⟩
  exact ⟨h1, h2, ha, h _ hb, hd, hu⟩
theorem Sat.imp_last {w0 w : World} {F A B : HP} (hs : Sat w0 w (F * A)) (h : ∀ x, A x → B x) : Sat w0 w (F * B) := hs.imp (HP.star_imp h)
theorem Sat.drop {w0 w : World} {F A : HP} (hs : Sat w0 w (F * A)) : Sat w0 w F := by
  obtain ⟨x, ⟨h1, h2, ha, hb, hd, hu⟩, hx⟩ := hs.held
  exact ⟨hs.below, h1, ha, fun b o h => hx b o (by rw [hu b, h]; rfl)⟩
theorem Sat.swap {w0 w : World} {F A B : HP} (hs : Sat w0 w (F * A * B)) : Sat w0 w (F * B * A) := by rw [HP.swap]; exact hs
theorem Sat.rot3 {w0 w : World} {F A B C : HP} (hs : Sat w0 w (F * A * B * C)) : Sat w0 w (F * B * C * A) := by rw [← HP.rot3]; exact hs
theorem Sat.rot4 {w0 w : World} {F A B C D : HP} (hs : Sat w0 w (F * A * B * C * D)) : Sat w0 w (F * B * C * D * A) := by rw [← HP.rot4]; exact hs
theorem Sat.rot5 {w0 w : World} {F A B C D E : HP} (hs : Sat w0 w (F * A * B * C * D * E)) : Sat w0 w (F * B * C * D * E * A) := by rw [← HP.rot5]; exact hs
theorem Sat.rot6 {w0 w : World} {F A B C D E G : HP} (hs : Sat w0 w (F * A * B * C * D * E * G)) : Sat w0 w (F * B * C * D * E * G * A) := by rw [← HP.rot6]; exact hs
theorem Sat.rot7 {w0 w : World} {F A B C D E G H : HP} (hs : Sat w0 w (F * A * B * C * D * E * G * H)) : Sat w0 w (F * B * C * D * E * G * H * A) := by rw [← HP.rot7]; exact hs
theorem Sat.one {w0 w : World} {F : HP} (hs : Sat w0 w F) : Sat w0 w (F * 1) := by rw [HP.mul_one]; exact hs
theorem Sat.unone {w0 w : World} {F : HP} (hs : Sat w0 w (F * 1)) : Sat w0 w F := by rw [HP.mul_one] at hs; exact hs

theorem Sat.lt {w0 w : World} {A : HP} (hs : Sat w0 w A) : w0.heap.size ≤ w.heap.size := hs.below.size
/-- Where nothing that is held is written and nothing of old, all is held on. -/
theorem Sat.ext {w0 w w' : World} {A : HP} (hs : Sat w0 w A) (hb : Below w.heap.size w w') : Sat w0 w' A := by
  refine ⟨hs.below.trans (hb.mono hs.lt), ?_⟩
  obtain ⟨x, ha, hx⟩ := hs.held
  exact ⟨x, ha, fun b o h => ⟨(hx b o h).1, (hb.block b (Array.getElem?_eq_some_iff.1 (hx b o h).2).1).trans (hx b o h).2⟩⟩
theorem Sat.drew {w0 w : World} {A : HP} (hs : Sat w0 w A) : Sat w0 w.drew A := hs.ext (Below.refl _ _).drew
theorem below_drewN {B : Nat} {a w : World} (h : Below B a w) (n : Nat) : Below B a (w.drewN n) := ⟨h.os, h.tape, h.output, h.size, h.block⟩
theorem Sat.drewN {w0 w : World} {A : HP} (hs : Sat w0 w A) (n : Nat) : Sat w0 (w.drewN n) A := hs.ext (below_drewN (Below.refl _ _) n)

/-- One block, whatever is in it. -/
def obj (b : Nat) (o : Obj) : HP := fun h => ∀ k, h k = if k = b then some o else none
/-- One block of cells that are not frozen. -/
def blk (b : Nat) (cs : List Value) (t : TypeId) : HP := obj b (.cells cs.toArray t (0, 0))

section
variable {w0 w : World} {F : HP} {b : Nat} {cs : List Value} {t : TypeId} {o : Obj}
theorem Sat.obj_heap (hs : Sat w0 w (F * obj b o)) : w0.heap.size ≤ b ∧ w.heap[b]? = some o := by
  obtain ⟨x, ⟨h1, h2, ha, hb, hd, hu⟩, hx⟩ := hs.held
  have h2b : h2 b = some o := by rw [hb b, if_pos rfl]
  have h1b : h1 b = none := (hd b).resolve_right (by simp [h2b])
  exact hx b o (by rw [hu b, h1b, h2b]; rfl)
theorem Sat.heap (hs : Sat w0 w (F * blk b cs t)) : w.heap[b]? = some (.cells cs.toArray t (0, 0)) := hs.obj_heap.2
theorem Sat.base (hs : Sat w0 w (F * blk b cs t)) : w0.heap.size ≤ b := hs.obj_heap.1
theorem Sat.size (hs : Sat w0 w (F * blk b cs t)) : b < w.heap.size := (Array.getElem?_eq_some_iff.1 hs.heap).1
theorem Sat.cell (hs : Sat w0 w (F * blk b cs t)) {i : Nat} {v : Value} (h : cs[i]? = some v) : w.cell? ⟨b, i, none⟩ = some v := by
  simp [World.cell?, hs.heap, h]
theorem Sat.free (hs : Sat w0 w (F * blk b cs t)) (i : Nat) : w.frozen? ⟨b, i, none⟩ = false := by
  simp [World.frozen?, hs.heap]
theorem Sat.obj_put {w' : World} {o' : Obj} (hs : Sat w0 w (F * obj b o)) (hB : Below w0.heap.size w0 w') (hb' : w'.heap[b]? = some o')
    (hk : ∀ k, k < w.heap.size → k ≠ b → w'.heap[k]? = w.heap[k]?) : Sat w0 w' (F * obj b o') := by
  have hbase := hs.obj_heap.1
  obtain ⟨x, ⟨h1, h2, ha, hb, hd, hu⟩, hx⟩ := hs.held
  refine ⟨hB, fun k => (h1 k).or (if k = b then some o' else none), ⟨h1, fun k => if k = b then some o' else none, ha, fun _ => rfl, fun k => ?_, fun _ => rfl⟩, fun k o1 hko => ?_⟩
  · rcases hd k with h | h
    · exact Or.inl h
    · right
      rw [hb k] at h
      by_cases e : k = b
      · rw [if_pos e] at h; cases h
      · exact if_neg e
  · dsimp only at hko
    by_cases e : k = b
    · subst e
      have h1b : h1 k = none := (hd k).resolve_right (by rw [hb k, if_pos rfl]; simp)
      rw [h1b, if_pos rfl] at hko
      cases hko
      exact ⟨hbase, hb'⟩
    · rw [if_neg e, Option.or_none] at hko
      have h3 := hx k o1 (by rw [hu k, hko]; rfl)
      exact ⟨h3.1, (hk k (Array.getElem?_eq_some_iff.1 h3.2).1 e).trans h3.2⟩
theorem Sat.store (hs : Sat w0 w (F * blk b cs t)) (i : Nat) (u : Value) : Sat w0 (w.setCell ⟨b, i, none⟩ u) (F * blk b (cs.set i u) t) := by
  refine Sat.obj_put hs (hs.below.setCell hs.base u) ?_ (fun k _ hk => Below.heap_setCell w ⟨b, i, none⟩ u k hk)
  simp [World.setCell, Array.getElem?_modify, hs.heap]
theorem Sat.new_obj (hs : Sat w0 w F) (o : Obj) : Sat w0 (w.alloc o) (F * obj w.heap.size o) := by
  refine ⟨hs.below.alloc hs.lt o, ?_⟩
  obtain ⟨x, ha, hx⟩ := hs.held
  have hnone : x w.heap.size = none := by
    cases e : x w.heap.size with
    | none => rfl
    | some o1 =>
      have := (Array.getElem?_eq_some_iff.1 (hx _ o1 e).2).1
      omega
  refine ⟨fun k => (x k).or (if k = w.heap.size then some o else none), ⟨x, fun k => if k = w.heap.size then some o else none, ha, fun _ => rfl, fun k => ?_, fun _ => rfl⟩, fun k o1 hko => ?_⟩
  · by_cases e : k = w.heap.size
    · subst e; exact Or.inl hnone
    · right; exact if_neg e
  · dsimp only at hko
    by_cases e : k = w.heap.size
    · subst e
      rw [hnone, if_pos rfl] at hko
      cases hko
      exact ⟨hs.lt, heap_alloc_new w o⟩
    · rw [if_neg e, Option.or_none] at hko
      have h3 := hx k o1 hko
      exact ⟨h3.1, (Below.heap_alloc w o k (Array.getElem?_eq_some_iff.1 h3.2).1).trans h3.2⟩
theorem Sat.new (hs : Sat w0 w F) (a : Array Value) (t : TypeId) : Sat w0 (w.alloc (.cells a t)) (F * blk w.heap.size a.toList t) := hs.new_obj _
end

/-- A slice that grows: nil, or at the head of a block of its own, with room behind it of which nothing is known. -/
def vec (t : TypeId) (sz : Nat) (v : Value) (n : Nat) (cs : List Value) : HP := fun h =>
  cs.length = n * sz ∧ ((v = .slice none 0 0 ∧ n = 0 ∧ (1 : HP) h) ∨
    ∃ b cap sp, v = .slice (some ⟨b, 0, none⟩) n cap ∧ n ≤ cap ∧ cap ≤ maxLen ∧ (cs ++ sp).length = cap * sz ∧ blk b (cs ++ sp) t h)

section
variable {w0 w : World} {F : HP} {t : TypeId} {sz n : Nat} {v : Value} {cs : List Value}
theorem vec_nil (t : TypeId) (sz : Nat) : vec t sz (.slice none 0 0) 0 [] = 1 := by
  apply HP.ext
  intro x
  constructor
  · rintro ⟨_, ⟨_, _, h⟩ | ⟨b, cap, sp, h, _⟩⟩
    · exact h
    · cases h
  · intro h; exact ⟨by simp, Or.inl ⟨rfl, rfl, h⟩⟩
theorem Sat.vec_nil (hs : Sat w0 w F) (t : TypeId) (sz : Nat) : Sat w0 w (F * vec t sz (.slice none 0 0) 0 []) := by
  rw [Go.Proofs.YtjhlelcopofkkaaDoor.vec_nil]; exact hs.one
theorem Sat.vec_cases (hs : Sat w0 w (F * vec t sz v n cs)) : cs.length = n * sz ∧ ((v = .slice none 0 0 ∧ n = 0 ∧ cs = [] ∧ Sat w0 w F) ∨
    ∃ b cap sp, v = .slice (some ⟨b, 0, none⟩) n cap ∧ n ≤ cap ∧ cap ≤ maxLen ∧ (cs ++ sp).length = cap * sz ∧ Sat w0 w (F * blk b (cs ++ sp) t)) := by
  obtain ⟨x, ⟨h1, h2, ha, ⟨hl, hv⟩, hd, hu⟩, hx⟩ := hs.held
  refine ⟨hl, ?_⟩
  rcases hv with ⟨e, en, h0⟩ | ⟨b, cap, sp, e, q1, q2, q3, hb⟩
  · exact Or.inl ⟨e, en, List.eq_nil_of_length_eq_zero (by rw [hl, en, Nat.zero_mul]), hs.drop⟩
  · exact Or.inr ⟨b, cap, sp, e, q1, q2, q3, hs.below, x, ⟨h1, h2, ha, hb, hd, hu⟩, hx⟩
theorem Sat.vec_mk {b cap : Nat} {sp : List Value} (hs : Sat w0 w (F * blk b (cs ++ sp) t)) (hl : cs.length = n * sz) (q1 : n ≤ cap) (q2 : cap ≤ maxLen) (q3 : (cs ++ sp).length = cap * sz) :
    Sat w0 w (F * vec t sz (.slice (some ⟨b, 0, none⟩) n cap) n cs) :=
  hs.imp_last fun _ hb => ⟨hl, Or.inr ⟨b, cap, sp, rfl, q1, q2, q3, hb⟩⟩
theorem Sat.owns (hs : Sat w0 w (F * vec t sz v n cs)) : w.ownsRow w0.heap.size t sz v n cs := by
  obtain ⟨hl, hc⟩ := hs.vec_cases
  refine ⟨hl, ?_⟩
  rcases hc with ⟨e, en, _, _⟩ | ⟨b, cap, sp, e, q1, q2, q3, hb⟩
  · exact Or.inl ⟨e, en⟩
  · refine Or.inr ⟨b, cap, _, e, hb.base, hb.heap, q1, q2, by simpa using q3, ?_⟩
    rw [← hl]
    simp
theorem Sat.of_owns {w' : World} {v' : Value} {n' : Nat} {cs' : List Value} (hs : Sat w0 w (F * vec t sz v n cs)) (ho : w'.ownsRow w0.heap.size t sz v' n' cs')
    (hg : w.grownBy w' v.ownBlock) (hat : v'.ownBlock = v.ownBlock ∨ v'.ownBlock = some w.heap.size) : Sat w0 w' (F * vec t sz v' n' cs') := by
  have hB : Below w0.heap.size w0 w' := hs.below.grown hg hs.lt (fun k hk => (hs.owns.lt k hk).1)
  obtain ⟨x, ⟨h1, h2, ha, ⟨_, hv⟩, hd, hu⟩, hx⟩ := hs.held
  -- the frame's own part lies in no row of the slice's
  have hrow : ∀ k, v.ownBlock = some k → h1 k = none := by
    intro k e
    rcases hv with ⟨e', _, _⟩ | ⟨b, cap, sp, e', _, _, _, hb⟩
    · rw [e'] at e; cases e
    · rw [e'] at e
      simp only [Value.ownBlock, Option.some.injEq] at e
      refine (hd k).resolve_right (fun h => ?_)
      rw [hb k, if_pos e.symm] at h; cases h
  have hold : ∀ k o, h1 k = some o → w0.heap.size ≤ k ∧ w.heap[k]? = some o := fun k o hk => hx k o (by rw [hu k, hk]; rfl)
  have hkeep : ∀ k o, h1 k = some o → w0.heap.size ≤ k ∧ w'.heap[k]? = some o := fun k o hk =>
    ⟨(hold k o hk).1, (hg.block k (Array.getElem?_eq_some_iff.1 (hold k o hk).2).1 (fun e => by rw [hrow k e.symm] at hk; cases hk)).trans (hold k o hk).2⟩
  rcases ho.2 with ⟨e, en⟩ | ⟨g, cap, cur, e, hbg, hgg, q1, q2, q3, q4⟩
  · have hc : cs' = [] := List.eq_nil_of_length_eq_zero (by rw [ho.1, en, Nat.zero_mul])
    subst e; subst en; subst hc
    exact Sat.vec_nil ⟨hB, h1, ha, hkeep⟩ t sz
  · subst e
    have hnone : h1 g = none := by
      rcases hat with hat | hat
      · exact hrow g hat.symm
      · simp only [Value.ownBlock, Option.some.injEq] at hat
        cases e1 : h1 g with
        | none => rfl
        | some o1 =>
          have := (Array.getElem?_eq_some_iff.1 (hold g o1 e1).2).1
          omega
    have hcs : cs' ++ cur.toList.drop (n' * sz) = cur.toList := by rw [← q4]; exact List.take_append_drop _ _
    refine ⟨hB, fun k => (h1 k).or (if k = g then some (.cells cur t (0, 0)) else none), ⟨h1, fun k => if k = g then some (.cells cur t (0, 0)) else none, ha, ⟨ho.1, Or.inr ⟨g, cap, cur.toList.drop (n' * sz), rfl, q1, q2, by rw [hcs]; simpa using q3, ?_⟩⟩, fun k => ?_, fun _ => rfl⟩, fun k o1 hko => ?_⟩
    · intro k
      rw [hcs]
    · by_cases e : k = g
      · subst e; exact Or.inl hnone
      · right; exact if_neg e
    · dsimp only at hko
      by_cases e : k = g
      · subst e
        rw [hnone, if_pos rfl] at hko
        cases hko
        exact ⟨hbg, hgg⟩
      · rw [if_neg e, Option.or_none] at hko
        exact hkeep k o1 hko

/-- Cells that lie one behind the other from an address on. -/
def Rd (w : World) (ao : Option Addr) (cs : List Value) : Prop :=
  cs = [] ∨ ∃ b o, ao = some ⟨b, o, none⟩ ∧ ∀ i u, cs[i]? = some u → w.cell? ⟨b, o + i, none⟩ = some u
theorem Rd.nil (w : World) (ao : Option Addr) : Rd w ao [] := Or.inl rfl
theorem Rd.mono {w w' : World} {ao : Option Addr} {l : List Value} (h : Rd w ao l) (hb : Below w.heap.size w w') : Rd w' ao l := by
  rcases h with h | ⟨b, o, e, hc⟩
  · exact Or.inl h
  · exact Or.inr ⟨b, o, e, fun i u hu => (hb.cell (World.block_lt_of_cell? w _ (hc i u hu))).trans (hc i u hu)⟩
theorem Rd.of0 {w0 w : World} {A : HP} {ao : Option Addr} {l : List Value} (h : Rd w0 ao l) (hs : Sat w0 w A) : Rd w ao l := h.mono hs.below
theorem Rd.addr {w : World} {ao : Option Addr} {l : List Value} (h : Rd w ao l) (hne : l ≠ []) : ∃ b o, ao = some ⟨b, o, none⟩ ∧ ∀ i u, l[i]? = some u → w.cell? ⟨b, o + i, none⟩ = some u := h.resolve_left hne
theorem Rd.left {w : World} {ao : Option Addr} {l m : List Value} (h : Rd w ao (l ++ m)) : Rd w ao l := by
  rcases h with h | ⟨b, o, e, hc⟩
  · exact Or.inl (List.append_eq_nil_iff.1 h).1
  · exact Or.inr ⟨b, o, e, fun i u hu => hc i u (by rw [List.getElem?_append_left (List.getElem?_eq_some_iff.1 hu).1]; exact hu)⟩
theorem Rd.take {w : World} {ao : Option Addr} {l : List Value} (h : Rd w ao l) (n : Nat) : Rd w ao (l.take n) := by
  rw [← List.take_append_drop n l] at h
  exact h.left
theorem Sat.vec_rd (hs : Sat w0 w (F * vec t sz v n cs)) : ∃ ao cap, v = .slice ao n cap ∧ n ≤ cap ∧ Rd w ao cs ∧ (ao = none → n = 0 ∧ cap = 0) := by
  obtain ⟨hl, ⟨e, en, ec, _⟩ | ⟨b, cap, sp, e, q1, q2, q3, hb⟩⟩ := hs.vec_cases
  · subst en
    exact ⟨none, 0, e, Nat.le_refl _, Or.inl ec, fun _ => ⟨rfl, rfl⟩⟩
  · refine ⟨_, cap, e, q1, Or.inr ⟨b, 0, rfl, fun i u hu => ?_⟩, fun h => by cases h⟩
    rw [Nat.zero_add]
    exact hb.cell (by rw [List.getElem?_append_left (List.getElem?_eq_some_iff.1 hu).1]; exact hu)
theorem Sat.rd {ao : Option Addr} {cap : Nat} (hs : Sat w0 w (F * vec t sz (.slice ao n cap) n cs)) : Rd w ao cs := by
  obtain ⟨_, _, e, _, h, _⟩ := hs.vec_rd
  cases e; exact h
theorem Sat.no {ao : Option Addr} {cap : Nat} (hs : Sat w0 w (F * vec t sz (.slice ao n cap) n cs)) : ao = none → n = 0 ∧ cap = 0 := by
  obtain ⟨_, _, e, _, _, h⟩ := hs.vec_rd
  cases e; exact h
theorem Sat.skip {o : Obj} {A : HP} (hs : Sat w0 w A) : Sat w0 (w.alloc o) A := hs.ext ((Below.refl _ _).alloc (Nat.le_refl _) o)
theorem Rd.skip {o : Obj} {ao : Option Addr} {l : List Value} (h : Rd w ao l) : Rd (w.alloc o) ao l := h.mono ((Below.refl _ _).alloc (Nat.le_refl _) o)
theorem Rd.drew {ao : Option Addr} {l : List Value} (h : Rd w ao l) : Rd w.drew ao l := h.mono (Below.refl _ _).drew
theorem Rd.drewN {k : Nat} {ao : Option Addr} {l : List Value} (h : Rd w ao l) : Rd (w.drewN k) ao l := h.mono (below_drewN (Below.refl _ _) k)
theorem Rd.of_heap {b : Nat} {l : List Value} {e : TypeId} {fr : Nat × Nat} (h : w.heap[b]? = some (.cells l.toArray e fr)) : Rd w (some ⟨b, 0, none⟩) l := by
  refine Or.inr ⟨_, _, rfl, fun i u hu => ?_⟩
  simp [World.cell?, h, hu]
theorem Rd.made (w : World) (l : List Value) (e : TypeId) (fr : Nat × Nat) : Rd (w.alloc (.cells l.toArray e fr)) (some ⟨w.heap.size, 0, none⟩) l := Rd.of_heap (heap_alloc_new w _)
end
/-- What a call has made beside all that was there is made beside what is held. -/
theorem Sat.glue {w0 w w' : World} {F A : HP} (hs : Sat w0 w F) (ha : Sat w w' A) : Sat w0 w' (F * A) := by
  obtain ⟨x, hF, hx⟩ := hs.held
  obtain ⟨y, hA, hy⟩ := ha.held
  have hlt : ∀ b o, x b = some o → b < w.heap.size := fun b o h => (Array.getElem?_eq_some_iff.1 (hx b o h).2).1
  refine ⟨hs.below.trans (ha.below.mono hs.lt), fun b => (x b).or (y b), ⟨x, y, hF, hA, fun b => ?_, fun _ => rfl⟩, fun b o h => ?_⟩
  · cases e : x b with
    | none => exact Or.inl rfl
    | some o =>
      right
      cases e' : y b with
      | none => rfl
      | some o' =>
        have h1 := hlt b o e
        have h2 := (hy b o' e').1
        omega
  · dsimp only at h
    cases e : x b with
    | some o1 =>
      rw [e, Option.some_or] at h
      cases h
      exact ⟨(hx b o e).1, (ha.below.block b (hlt b o e)).trans (hx b o e).2⟩
    | none =>
      rw [e, Option.none_or] at h
      exact ⟨Nat.le_trans hs.lt (hy b o h).1, (hy b o h).2⟩
theorem Sat.refl (w : World) : Sat w w 1 := Sat.start w
theorem Sat.then1 {w0 w w' : World} {F : HP} (hs : Sat w0 w F) (ha : Sat w w' 1) : Sat w0 w' F := (hs.glue ha).unone

/-- What is returned, and where. -/
def Ret (R : Value → World → Prop) (e : Ending) (w' : World) : Prop := ∃ v, e = .returned v ∧ R v w'
theorem Ret.mk {R : Value → World → Prop} {v : Value} {w' : World} (h : R v w') : Ret R (.returned v) w' := ⟨v, rfl, h⟩

/-- A value is returned, and nothing has turned. -/
def Same (v : Value) (w : World) (e : Ending) (w' : World) : Prop := e = .returned v ∧ w = w'
/-- A value is returned, and nothing has turned but a count of draws. -/
def Drew (v : Value) (w : World) (e : Ending) (w' : World) : Prop := e = .returned v ∧ ∃ n, w' = w.drewN n
theorem Same.quiet {P : Program} {f : FuncId} {args : Array Value} {w : World} {n : Nat} {v : Value} (h : Calls P f args (w.drewN n) (Same v (w.drewN n))) :
    Calls P f args (w.drewN n) fun e w'' => e = .returned v ∧ ∃ m, w'' = w.drewN m := h.mono fun _ _ ⟨he, hw⟩ => ⟨he, n, hw.symm⟩
theorem Drew.quiet {P : Program} {f : FuncId} {args : Array Value} {w : World} {n : Nat} {v : Value} (h : Calls P f args (w.drewN n) (Drew v (w.drewN n))) :
    Calls P f args (w.drewN n) fun e w'' => e = .returned v ∧ ∃ m, w'' = w.drewN m := h.mono fun _ _ ⟨he, k, hw⟩ => ⟨he, n + k, by rw [hw, World.drewN_drewN]⟩
theorem Drew.quiet_add {P : Program} {f : FuncId} {args : Array Value} {w : World} {a n : Nat} {v : Value} (h : Calls P f args (w.drewN (a + n)) (Drew v (w.drewN (a + n)))) :
    Calls P f args (w.drewN (a + n)) fun e w'' => e = .returned v ∧ ∃ m, w'' = w.drewN (a + m) := h.mono fun _ _ ⟨he, k, hw⟩ => ⟨he, n + k, by rw [hw, World.drewN_drewN, Nat.add_assoc]⟩
theorem Same.quiet_add {P : Program} {f : FuncId} {args : Array Value} {w : World} {a n : Nat} {v : Value} (h : Calls P f args (w.drewN (a + n)) (Same v (w.drewN (a + n)))) :
    Calls P f args (w.drewN (a + n)) fun e w'' => e = .returned v ∧ ∃ m, w'' = w.drewN (a + m) := h.mono fun _ _ ⟨he, hw⟩ => ⟨he, n, hw.symm⟩

/-- 'append' to a slice that is held. -/
theorem sl_append {P : Program} {w0 w : World} {F : HP} {ops : Array Oper} {rest : List Oper} {o : Oper} {a : Act} {Q : Exit → Act → World → Prop}
    (hgd : o.guard = none) (s x : Operand) (t : TypeId) (ho : o.op = .call { callee := .builtin .append, args := #[s, x], argTypes := #[t, t] })
    (e : TypeId) (z : Value) (sz bytes : Nat) (ht : P.underlying t = some (.slice e)) (hinfo : (P.info? e).map (fun i => (i.zero, i.size, i.bytes)) = some (some z, sz, bytes))
    (hzs : z.cells.size = sz) (hsz : 0 < sz) (v : Value) (n : Nat) (cs : List Value) (hs : a.eval s = v) (hsat : Sat w0 w (F * vec e sz v n cs))
    (ad : Addr) (m c : Nat) (news : List Value) (hx : a.eval x = .slice (some ad) m c) (hl : news.length = m * sz) (hrd : Rd w (some ad) news) (h1 : ∀ u ∈ news, u.oneCell' = true)
    (h63 : n + m ≤ maxLen) (hbytes : (n + m) * bytes ≤ 140737488355328)
    (h : ∀ v' w', Sat w0 w' (F * vec e sz v' (n + m) (cs ++ news)) → wpList P ops Q rest (a.put o.dst v') w') : wpList P ops Q (o :: rest) a w := by
  obtain ⟨i, hi, hz, hsize, hby⟩ := info_parts hinfo
  refine wpList_append_own_at _ hgd s x t ho w0.heap.size e i z sz bytes ht hi hz hsize hby hzs hsz v n cs hs hsat.owns ad m c news hx hl ?_ h1 h63 hbytes hsat.lt ?_
  · intro j u hu
    rcases hrd with hn | ⟨b, of, e', hc⟩
    · subst hn; simp at hu
    · cases e'
      rw [Addr.add_lit]
      exact hc j u hu
  · intro v' w' ho' hg _ hat
    exact h v' w' (hsat.of_owns ho' hg hat)

/-- 'append' of a slice that may be nil. -/
theorem sl_append_any {P : Program} {w0 w : World} {F : HP} {ops : Array Oper} {rest : List Oper} {o : Oper} {a : Act} {Q : Exit → Act → World → Prop}
    (hgd : o.guard = none) (s x : Operand) (t : TypeId) (ho : o.op = .call { callee := .builtin .append, args := #[s, x], argTypes := #[t, t] })
    (e : TypeId) (z : Value) (sz bytes : Nat) (ht : P.underlying t = some (.slice e)) (hinfo : (P.info? e).map (fun i => (i.zero, i.size, i.bytes)) = some (some z, sz, bytes))
    (hzs : z.cells.size = sz) (hsz : 0 < sz) (v : Value) (n : Nat) (cs : List Value) (hs : a.eval s = v) (hsat : Sat w0 w (F * vec e sz v n cs))
    (ao : Option Addr) (m c : Nat) (news : List Value) (hx : a.eval x = .slice ao m c) (hnone : ao = none → m = 0 ∧ c = 0) (hl : news.length = m * sz) (hrd : Rd w ao news) (h1 : ∀ u ∈ news, u.oneCell' = true)
    (h63 : n + m ≤ maxLen) (hbytes : (n + m) * bytes ≤ 140737488355328)
    (h : ∀ v' w', Sat w0 w' (F * vec e sz v' (n + m) (cs ++ news)) → wpList P ops Q rest (a.put o.dst v') w') : wpList P ops Q (o :: rest) a w := by
  cases ao with
  | some ad => exact sl_append hgd s x t ho e z sz bytes ht hinfo hzs hsz v n cs hs hsat ad m c news hx hl hrd h1 h63 hbytes h
  | none =>
    obtain ⟨rfl, rfl⟩ := hnone rfl
    have hn : news = [] := List.eq_nil_of_length_eq_zero (by rw [hl, Nat.zero_mul])
    subst hn
    obtain ⟨i, hi, _, _, _⟩ := info_parts hinfo
    refine wpList_append_own_none hgd s x t ho w0.heap.size e i sz ht hi v n cs hs hsat.owns hx ?_
    have := h v w (by rw [List.append_nil]; exact hsat)
    exact this
/-- Is it this operation? Used under 'with_reducible', ahead of a law for it. -/
theorem gate_op {P : Program} {ops : Array Oper} {rest : List Oper} {o : Oper} {a : Act} {w : World} {Q : Exit → Act → World → Prop} (X : Op) (_h : o.op = X) (g : wpList P ops Q (o :: rest) a w) : wpList P ops Q (o :: rest) a w := g
/-- What is put into a row from a place on. -/
def put (cur : List Value) (off : Nat) (cs : List Value) : List Value := cur.take off ++ (cs ++ cur.drop (off + cs.length))
theorem put_length (cur : List Value) (off : Nat) (cs : List Value) (h : off + cs.length ≤ cur.length) : (put cur off cs).length = cur.length := by
  simp only [put, List.length_append, List.length_take, List.length_drop]; omega
theorem put_nil (cur : List Value) (off : Nat) : put cur off [] = cur := by simp [put]
/-- 'copy' into a row that is held. -/
theorem sl_copy {P : Program} {w0 w : World} {F : HP} {ops : Array Oper} {rest : List Oper} {o : Oper} {a : Act} {Q : Exit → Act → World → Prop}
    (hgd : o.guard = none) (d s : Operand) (dT sT : TypeId) (ho : o.op = .call { callee := .builtin .copy, args := #[d, s], argTypes := #[dT, sT] })
    (elem : TypeId) (hu : P.underlying dT = some (.slice elem)) (hsz : (P.info? elem).map (·.size) = some 1)
    (dp sp : Option Addr) (dLen dCap sLen sCap : Nat) (hd : a.eval d = .slice dp dLen dCap) (hs : a.eval s = .slice sp sLen sCap)
    (g off : Nat) (cur : List Value) (t : TypeId) (hsat : Sat w0 w (F * blk g cur t)) (cs : List Value) (hn : cs.length = Nat.min sLen dLen)
    (hdp : 0 < cs.length → dp = some ⟨g, off, none⟩) (hrd : Rd w sp cs) (hfit : off + cs.length ≤ cur.length) (h1 : ∀ v ∈ cs, v.oneCell' = true)
    (h : ∀ w', Sat w0 w' (F * blk g (put cur off cs) t) → wpList P ops Q rest (a.put o.dst (goInt cs.length)) w') : wpList P ops Q (o :: rest) a w := by
  by_cases h0 : cs.length = 0
  · obtain rfl : cs = [] := List.eq_nil_of_length_eq_zero h0
    refine wpList_copy_nothing hgd d s dT sT ho elem hu hsz dp sp dLen dCap sLen sCap hd hs (by simpa using hn.symm) ?_
    have := h w (by rw [put_nil]; exact hsat)
    simpa using this
  · have hdp' := hdp (by omega)
    subst hdp'
    obtain ⟨b, of, rfl, hc⟩ := hrd.addr (fun e => h0 (by rw [e]; rfl))
    refine wpList_copy_own hgd d s dT sT ho elem hu hsz g off dLen dCap ⟨b, of, none⟩ sLen sCap hd hs cur.toArray t hsat.heap cs hn (fun j v hj => by rw [Addr.add_lit]; exact hc j v hj) (by simpa using hfit) h1 ?_
    refine h _ ?_
    have hg := hsat.heap
    refine Sat.obj_put hsat ?_ (setRow_heap w g cur.toArray _ t _ hg) (fun k _ hk => setRow_other w g k _ hk)
    exact hsat.below.trans ⟨rfl, rfl, rfl, by simp [World.setRow], fun k hk => setRow_other w g k _ (by have := hsat.base; omega)⟩

theorem madeCells_one (u : Value) (n : Nat) : (madeCells #[u] n).toList = List.replicate n u := by
  apply List.ext_getElem?
  intro i
  simp only [madeCells, Array.toList_map, List.getElem?_map, Array.toList_range, List.getElem?_replicate]
  by_cases h : i < n
  · rw [List.getElem?_range h, if_pos h]
    simp [Nat.mod_one]
  · rw [List.getElem?_eq_none (by simp; omega), if_neg h]; rfl
theorem Sat.full {w0 w : World} {F : HP} {e : TypeId} {sz g n : Nat} {cs : List Value} (hs : Sat w0 w (F * vec e sz (.slice (some ⟨g, 0, none⟩) n n) n cs)) : Sat w0 w (F * blk g cs e) := by
  obtain ⟨hl, ⟨h, _⟩ | ⟨b, cap, sp, h, _, _, h3, hb⟩⟩ := hs.vec_cases
  · cases h
  · cases h
    have : sp = [] := List.eq_nil_of_length_eq_zero (by rw [List.length_append] at h3; omega)
    rw [this, List.append_nil] at hb
    exact hb
theorem Sat.as_vec {w0 w : World} {F : HP} {e : TypeId} {sz g n : Nat} {cs : List Value} (hs : Sat w0 w (F * blk g cs e)) (hl : cs.length = n * sz) (hn : n ≤ maxLen) : Sat w0 w (F * vec e sz (.slice (some ⟨g, 0, none⟩) n n) n cs) :=
  Sat.vec_mk (sp := []) (by rw [List.append_nil]; exact hs) hl (Nat.le_refl _) hn (by rw [List.append_nil]; exact hl)
/-- 'make([]T, n)', each element one cell. -/
theorem sl_make {P : Program} {w0 w : World} {F : HP} {ops : Array Oper} {rest : List Oper} {o : Oper} {a : Act} {Q : Exit → Act → World → Prop}
    (hgd : o.guard = none) (l c : Operand) (t : TypeId) (hop : o.op = Op.makeSlice t l c) (e : TypeId) (z : Value) (bytes : Nat) (hz1 : z.cells = #[z]) (ht : P.underlying t = some (.slice e))
    (hinfo : (P.info? e).map (fun i => (i.zero, i.size, i.bytes)) = some (some z, 1, bytes)) (kl kc : IntKind) (L C : Int) (n : Nat) (hl : a.eval l = .int kl L) (hc : a.eval c = .int kc C) (hL : L = (n : Int)) (hC : C = (n : Int))
    (b2 : bytes * n ≤ 281474976710656) (b3 : n ≤ maxLen) (hsat : Sat w0 w F)
    (h : ∀ w', Sat w0 w' (F * blk w.heap.size (List.replicate n z) e) → wpList P ops Q rest (a.put o.dst (.slice (some ⟨w.heap.size, 0, none⟩) n n)) w') :
    wpList P ops Q (o :: rest) a w := by
  obtain ⟨i, hi, hz, hsize, hby⟩ := info_parts hinfo
  refine wpList_make_full w hgd l c t hop w0.heap.size e i z 1 ht hi hz hsize kl kc L C n hl hc hL hC (by rw [hby]; exact b2) b3 hsat.lt (fun w' ho hg => h w' ?_)
  have := ((hsat.vec_nil e 1).of_owns ho hg (Or.inr rfl)).full
  rw [hz1, Nat.mul_one, madeCells_one] at this
  exact this
end Go.Proofs.YtjhlelcopofkkaaDoor
