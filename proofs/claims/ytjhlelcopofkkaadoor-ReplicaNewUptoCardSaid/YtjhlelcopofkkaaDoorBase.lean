/- A small logic of disjoint blocks: what a world holds, part beside part, from a first world on; the first world's own blocks stay as they were. · The plain functions of usherkit and usherref0: copies of bytes, comparing bytes. · The check sum in plain Lean: bit by bit, by half bytes, and what it is of two lists one behind the other. · The check sum's walks: the program's half bytes and the document's bits come to the plain check sum. · wal: frames. · The document's own frames: a log's good head, by the chapter's words. · The good head of a log's bytes: its frames, in plain Lean. · The document's own reading of a log's good head. · Lists of lists of bytes, held or only read. · A slice that is held wherever it lies in a block of its own: cut, taken from the front, appended to. · A disk whose power may fail: what it holds, and what becomes of it. In plain Lean. · Parts side by side, in a list: one taken out by its place, and put back. -/
import Derived.Test.YtjhlelcopofkkaaDoorProg
import Derived.WalkKit
import Derived.Maps.AppendAt
import Derived.Deep.Draws
import Derived.Laws.CopyOwn
import Derived.Laws.AppendOwnNone
import Derived.OwnWalk
import Derived.Deep.AppendLies
import Derived.BigQuiet
import Derived.Deep.QuietTactic
import Derived.KernelRfl
import Derived.LaidEql
import Derived.Deep.RegionHeld3
import Derived.ArgAppend
import Derived.RegionTactic

/-! Sl -/
namespace Go.Proofs.YtjhlelcopofkkaaDoor
open Go.RowKit

theorem Hid.mk' {p : Prop} (h : p) : Hid p := h
/-- A part of a heap. -/
abbrev Hl := Nat → Option Obj
/-- What is said of a part of a heap. -/
def HP := Hl → Prop
def HP.star (A B : HP) : HP := fun h => ∃ h1 h2 : Hl, A h1 ∧ B h2 ∧ (∀ b, h1 b = none ∨ h2 b = none) ∧ ∀ b, h b = (h1 b).or (h2 b)
def HP.emp : HP := fun h => ∀ b, h b = none
instance : Mul HP := ⟨HP.star⟩
instance : One HP := ⟨HP.emp⟩

theorem HP.ext {A B : HP} (h : ∀ x, A x ↔ B x) : A = B := funext fun x => propext (h x)

theorem HP.comm (A B : HP) : A * B = B * A := by
  have half : ∀ (A B : HP) x, (A * B) x → (B * A) x := by
    rintro A B x ⟨h1, h2, ha, hb, hd, hu⟩
    refine ⟨h2, h1, hb, ha, fun b => (hd b).symm, fun b => ?_⟩
    rw [hu b]
    rcases hd b with h | h <;> rw [h] <;> simp
  exact HP.ext fun x => ⟨half A B x, half B A x⟩

theorem HP.assoc (A B C : HP) : A * B * C = A * (B * C) := by
  apply HP.ext
  intro x
  constructor
  · rintro ⟨h12, h3, ⟨h1, h2, ha, hb, hd, hu⟩, hc, hd2, hu2⟩
    refine ⟨h1, fun b => (h2 b).or (h3 b), ha, ⟨h2, h3, hb, hc, fun b => ?_, fun b => rfl⟩, fun b => ?_, fun b => ?_⟩
    · rcases hd2 b with h | h
      · rw [hu b, Option.or_eq_none_iff] at h
        exact Or.inl h.2
      · exact Or.inr h
    · rcases hd2 b with h | h
      · rw [hu b, Option.or_eq_none_iff] at h
        exact Or.inl h.1
      · rcases hd b with h' | h'
        · exact Or.inl h'
        · right; simp [h, h']
    · rw [hu2 b, hu b, Option.or_assoc]
  · rintro ⟨h1, h23, ha, ⟨h2, h3, hb, hc, hd, hu⟩, hd2, hu2⟩
    refine ⟨fun b => (h1 b).or (h2 b), h3, ⟨h1, h2, ha, hb, fun b => ?_, fun b => rfl⟩, hc, fun b => ?_, fun b => ?_⟩
    · rcases hd2 b with h | h
      · exact Or.inl h
      · rw [hu b, Option.or_eq_none_iff] at h
        exact Or.inr h.1
    · rcases hd b with h | h
      · rcases hd2 b with h' | h'
        · left; simp [h, h']
        · rw [hu b, Option.or_eq_none_iff] at h'
          exact Or.inr h'.2
      · exact Or.inr h
    · rw [hu2 b, hu b, ← Option.or_assoc]

theorem HP.one_mul (A : HP) : (1 : HP) * A = A := by
  apply HP.ext
  intro x
  constructor
  · rintro ⟨h1, h2, ha, hb, _, hu⟩
    have : x = h2 := funext fun b => by rw [hu b, show h1 b = none from ha b]; simp
    rw [this]; exact hb
  · intro h
    exact ⟨fun _ => none, x, fun _ => rfl, h, fun _ => Or.inl rfl, fun b => by simp⟩
theorem HP.mul_one (A : HP) : A * (1 : HP) = A := by rw [HP.comm, HP.one_mul]
/-- The last two change places. -/
theorem HP.swap (A B C : HP) : A * B * C = A * C * B := by rw [HP.assoc, HP.comm B C, ← HP.assoc]
theorem HP.rot3 (A B C D : HP) : A * B * C * D = A * C * D * B := by rw [HP.swap A B C, HP.swap (A * C) B D]
theorem HP.rot4 (A B C D E : HP) : A * B * C * D * E = A * C * D * E * B := by rw [HP.rot3 A B C D, HP.swap _ B E]
theorem HP.rot5 (A B C D E G : HP) : A * B * C * D * E * G = A * C * D * E * G * B := by rw [HP.rot4 A B C D E, HP.swap _ B G]
theorem HP.rot6 (A B C D E G H : HP) : A * B * C * D * E * G * H = A * C * D * E * G * H * B := by rw [HP.rot5 A B C D E G, HP.swap _ B H]
theorem HP.rot7 (A B C D E G H I : HP) : A * B * C * D * E * G * H * I = A * C * D * E * G * H * I * B := by rw [HP.rot6 A B C D E G H, HP.swap _ B I]

/-- What the world w holds, beside all that w0 held. -/
structure Sat (w0 w : World) (A : HP) : Prop where
  below : Below w0.heap.size w0 w
  held : ∃ h : Hl, A h ∧ ∀ b o, h b = some o → w0.heap.size ≤ b ∧ w.heap[b]? = some o

theorem Sat.start (w : World) : Sat w w 1 := ⟨Below.refl _ _, fun _ => none, fun _ => rfl, fun b o h => by simp at h⟩
theorem Sat.imp {w0 w : World} {A B : HP} (hs : Sat w0 w A) (h : ∀ x, A x → B x) : Sat w0 w B :=
  let ⟨x, ha, hx⟩ := hs.held
  ⟨hs.below, x, h x ha, hx⟩
theorem HP.star_imp {A B B' : HP} (h : ∀ x, B x → B' x) : ∀ x, (A * B) x → (A * B') x := by
  rintro x ⟨h1, h2, ha, hb, hd, hu⟩
  exact ⟨h1, h2, ha, h _ hb, hd, hu⟩
theorem Sat.imp_last {w0 w : World} {F A B : HP} (hs : Sat w0 w (F * A)) (h : ∀ x, A x → B x) : Sat w0 w (F * B) := hs.imp (HP.star_imp h)
theorem Sat.drop {w0 w : World} {F A : HP} (hs : Sat w0 w (F * A)) : Sat w0 w F := by
  obtain ⟨x, ⟨h1, h2, ha, hb, hd, hu⟩, hx⟩ := hs.held
  exact ⟨hs.below, h1, ha, fun b o h => hx b o (by rw [hu b, h]; rfl)⟩
theorem Sat.swap {w0 w : World} {F A B : HP} (hs : Sat w0 w (F * A * B)) : Sat w0 w (F * B * A) := by rw [HP.swap]; exact hs
theorem Sat.rot3 {w0 w : World} {F A B C : HP} (hs : Sat w0 w (F * A * B * C)) : Sat w0 w (F * B * C * A) := by rw [← HP.rot3]; exact hs
theorem Sat.rot4 {w0 w : World} {F A B C D : HP} (hs : Sat w0 w (F * A * B * C * D)) : Sat w0 w (F * B * C * D * A) := by rw [← HP.rot4]; exact hs
theorem Sat.rot5 {w0 w : World} {F A B C D E : HP} (hs : Sat w0 w (F * A * B * C * D * E)) : Sat w0 w (F * B * C * D * E * A) := by rw [← HP.rot5]; exact hs
theorem Sat.rot6 {w0 w : World} {F A B C D E G : HP} (hs : Sat w0 w (F * A * B * C * D * E * G)) : Sat w0 w (F * B * C * D * E * G * A) := by rw [← HP.rot6]; exact hs
theorem Sat.rot7 {w0 w : World} {F A B C D E G H : HP} (hs : Sat w0 w (F * A * B * C * D * E * G * H)) : Sat w0 w (F * B * C * D * E * G * H * A) := by rw [← HP.rot7]; exact hs
theorem Sat.one {w0 w : World} {F : HP} (hs : Sat w0 w F) : Sat w0 w (F * 1) := by rw [HP.mul_one]; exact hs
theorem Sat.unone {w0 w : World} {F : HP} (hs : Sat w0 w (F * 1)) : Sat w0 w F := by rw [HP.mul_one] at hs; exact hs

theorem Sat.lt {w0 w : World} {A : HP} (hs : Sat w0 w A) : w0.heap.size ≤ w.heap.size := hs.below.size
/-- Where nothing that is held is written and nothing of old, all is held on. -/
theorem Sat.ext {w0 w w' : World} {A : HP} (hs : Sat w0 w A) (hb : Below w.heap.size w w') : Sat w0 w' A := by
  refine ⟨hs.below.trans (hb.mono hs.lt), ?_⟩
  obtain ⟨x, ha, hx⟩ := hs.held
  exact ⟨x, ha, fun b o h => ⟨(hx b o h).1, (hb.block b (Array.getElem?_eq_some_iff.1 (hx b o h).2).1).trans (hx b o h).2⟩⟩
theorem Sat.drew {w0 w : World} {A : HP} (hs : Sat w0 w A) : Sat w0 w.drew A := hs.ext (Below.refl _ _).drew
theorem below_drewN {B : Nat} {a w : World} (h : Below B a w) (n : Nat) : Below B a (w.drewN n) := ⟨h.os, h.tape, h.output, h.size, h.block⟩
theorem Sat.drewN {w0 w : World} {A : HP} (hs : Sat w0 w A) (n : Nat) : Sat w0 (w.drewN n) A := hs.ext (below_drewN (Below.refl _ _) n)

/-- One block, whatever is in it. -/
def obj (b : Nat) (o : Obj) : HP := fun h => ∀ k, h k = if k = b then some o else none
/-- One block of cells that are not frozen. -/
def blk (b : Nat) (cs : List Value) (t : TypeId) : HP := obj b (.cells cs.toArray t (0, 0))

section
variable {w0 w : World} {F : HP} {b : Nat} {cs : List Value} {t : TypeId} {o : Obj}
theorem Sat.obj_heap (hs : Sat w0 w (F * obj b o)) : w0.heap.size ≤ b ∧ w.heap[b]? = some o := by
  obtain ⟨x, ⟨h1, h2, ha, hb, hd, hu⟩, hx⟩ := hs.held
  have h2b : h2 b = some o := by rw [hb b, if_pos rfl]
  have h1b : h1 b = none := (hd b).resolve_right (by simp [h2b])
  exact hx b o (by rw [hu b, h1b, h2b]; rfl)
theorem Sat.heap (hs : Sat w0 w (F * blk b cs t)) : w.heap[b]? = some (.cells cs.toArray t (0, 0)) := hs.obj_heap.2
theorem Sat.base (hs : Sat w0 w (F * blk b cs t)) : w0.heap.size ≤ b := hs.obj_heap.1
theorem Sat.size (hs : Sat w0 w (F * blk b cs t)) : b < w.heap.size := (Array.getElem?_eq_some_iff.1 hs.heap).1
theorem Sat.cell (hs : Sat w0 w (F * blk b cs t)) {i : Nat} {v : Value} (h : cs[i]? = some v) : w.cell? ⟨b, i, none⟩ = some v := by
  simp [World.cell?, hs.heap, h]
theorem Sat.free (hs : Sat w0 w (F * blk b cs t)) (i : Nat) : w.frozen? ⟨b, i, none⟩ = false := by
  simp [World.frozen?, hs.heap]
theorem Sat.obj_put {w' : World} {o' : Obj} (hs : Sat w0 w (F * obj b o)) (hB : Below w0.heap.size w0 w') (hb' : w'.heap[b]? = some o')
    (hk : ∀ k, k < w.heap.size → k ≠ b → w'.heap[k]? = w.heap[k]?) : Sat w0 w' (F * obj b o') := by
  have hbase := hs.obj_heap.1
  obtain ⟨x, ⟨h1, h2, ha, hb, hd, hu⟩, hx⟩ := hs.held
  refine ⟨hB, fun k => (h1 k).or (if k = b then some o' else none), ⟨h1, fun k => if k = b then some o' else none, ha, fun _ => rfl, fun k => ?_, fun _ => rfl⟩, fun k o1 hko => ?_⟩
  · rcases hd k with h | h
    · exact Or.inl h
    · right
      rw [hb k] at h
      by_cases e : k = b
      · rw [if_pos e] at h; cases h
      · exact if_neg e
  · dsimp only at hko
    by_cases e : k = b
    · subst e
      have h1b : h1 k = none := (hd k).resolve_right (by rw [hb k, if_pos rfl]; simp)
      rw [h1b, if_pos rfl] at hko
      cases hko
      exact ⟨hbase, hb'⟩
    · rw [if_neg e, Option.or_none] at hko
      have h3 := hx k o1 (by rw [hu k, hko]; rfl)
      exact ⟨h3.1, (hk k (Array.getElem?_eq_some_iff.1 h3.2).1 e).trans h3.2⟩
theorem Sat.store (hs : Sat w0 w (F * blk b cs t)) (i : Nat) (u : Value) : Sat w0 (w.setCell ⟨b, i, none⟩ u) (F * blk b (cs.set i u) t) := by
  refine Sat.obj_put hs (hs.below.setCell hs.base u) ?_ (fun k _ hk => Below.heap_setCell w ⟨b, i, none⟩ u k hk)
  simp [World.setCell, Array.getElem?_modify, hs.heap]
theorem Sat.new_obj (hs : Sat w0 w F) (o : Obj) : Sat w0 (w.alloc o) (F * obj w.heap.size o) := by
  refine ⟨hs.below.alloc hs.lt o, ?_⟩
  obtain ⟨x, ha, hx⟩ := hs.held
  have hnone : x w.heap.size = none := by
    cases e : x w.heap.size with
    | none => rfl
    | some o1 =>
      have := (Array.getElem?_eq_some_iff.1 (hx _ o1 e).2).1
      omega
  refine ⟨fun k => (x k).or (if k = w.heap.size then some o else none), ⟨x, fun k => if k = w.heap.size then some o else none, ha, fun _ => rfl, fun k => ?_, fun _ => rfl⟩, fun k o1 hko => ?_⟩
  · by_cases e : k = w.heap.size
    · subst e; exact Or.inl hnone
    · right; exact if_neg e
  · dsimp only at hko
    by_cases e : k = w.heap.size
    · subst e
      rw [hnone, if_pos rfl] at hko
      cases hko
      exact ⟨hs.lt, heap_alloc_new w o⟩
    · rw [if_neg e, Option.or_none] at hko
      have h3 := hx k o1 hko
      exact ⟨h3.1, (Below.heap_alloc w o k (Array.getElem?_eq_some_iff.1 h3.2).1).trans h3.2⟩
theorem Sat.new (hs : Sat w0 w F) (a : Array Value) (t : TypeId) : Sat w0 (w.alloc (.cells a t)) (F * blk w.heap.size a.toList t) := hs.new_obj _
end

/-- A slice that grows: nil, or at the head of a block of its own, with room behind it of which nothing is known. -/
def vec (t : TypeId) (sz : Nat) (v : Value) (n : Nat) (cs : List Value) : HP := fun h =>
  cs.length = n * sz ∧ ((v = .slice none 0 0 ∧ n = 0 ∧ (1 : HP) h) ∨
    ∃ b cap sp, v = .slice (some ⟨b, 0, none⟩) n cap ∧ n ≤ cap ∧ cap ≤ maxLen ∧ (cs ++ sp).length = cap * sz ∧ blk b (cs ++ sp) t h)

section
variable {w0 w : World} {F : HP} {t : TypeId} {sz n : Nat} {v : Value} {cs : List Value}
theorem vec_nil (t : TypeId) (sz : Nat) : vec t sz (.slice none 0 0) 0 [] = 1 := by
  apply HP.ext
  intro x
  constructor
  · rintro ⟨_, ⟨_, _, h⟩ | ⟨b, cap, sp, h, _⟩⟩
    · exact h
    · cases h
  · intro h; exact ⟨by simp, Or.inl ⟨rfl, rfl, h⟩⟩
theorem Sat.vec_nil (hs : Sat w0 w F) (t : TypeId) (sz : Nat) : Sat w0 w (F * vec t sz (.slice none 0 0) 0 []) := by
  rw [Go.Proofs.YtjhlelcopofkkaaDoor.vec_nil]; exact hs.one
theorem Sat.vec_cases (hs : Sat w0 w (F * vec t sz v n cs)) : cs.length = n * sz ∧ ((v = .slice none 0 0 ∧ n = 0 ∧ cs = [] ∧ Sat w0 w F) ∨
    ∃ b cap sp, v = .slice (some ⟨b, 0, none⟩) n cap ∧ n ≤ cap ∧ cap ≤ maxLen ∧ (cs ++ sp).length = cap * sz ∧ Sat w0 w (F * blk b (cs ++ sp) t)) := by
  obtain ⟨x, ⟨h1, h2, ha, ⟨hl, hv⟩, hd, hu⟩, hx⟩ := hs.held
  refine ⟨hl, ?_⟩
  rcases hv with ⟨e, en, h0⟩ | ⟨b, cap, sp, e, q1, q2, q3, hb⟩
  · exact Or.inl ⟨e, en, List.eq_nil_of_length_eq_zero (by rw [hl, en, Nat.zero_mul]), hs.drop⟩
  · exact Or.inr ⟨b, cap, sp, e, q1, q2, q3, hs.below, x, ⟨h1, h2, ha, hb, hd, hu⟩, hx⟩
theorem Sat.vec_mk {b cap : Nat} {sp : List Value} (hs : Sat w0 w (F * blk b (cs ++ sp) t)) (hl : cs.length = n * sz) (q1 : n ≤ cap) (q2 : cap ≤ maxLen) (q3 : (cs ++ sp).length = cap * sz) :
    Sat w0 w (F * vec t sz (.slice (some ⟨b, 0, none⟩) n cap) n cs) :=
  hs.imp_last fun _ hb => ⟨hl, Or.inr ⟨b, cap, sp, rfl, q1, q2, q3, hb⟩⟩
theorem Sat.owns (hs : Sat w0 w (F * vec t sz v n cs)) : w.ownsRow w0.heap.size t sz v n cs := by
  obtain ⟨hl, hc⟩ := hs.vec_cases
  refine ⟨hl, ?_⟩
  rcases hc with ⟨e, en, _, _⟩ | ⟨b, cap, sp, e, q1, q2, q3, hb⟩
  · exact Or.inl ⟨e, en⟩
  · refine Or.inr ⟨b, cap, _, e, hb.base, hb.heap, q1, q2, by simpa using q3, ?_⟩
    rw [← hl]
    simp
theorem Sat.of_owns {w' : World} {v' : Value} {n' : Nat} {cs' : List Value} (hs : Sat w0 w (F * vec t sz v n cs)) (ho : w'.ownsRow w0.heap.size t sz v' n' cs')
    (hg : w.grownBy w' v.ownBlock) (hat : v'.ownBlock = v.ownBlock ∨ v'.ownBlock = some w.heap.size) : Sat w0 w' (F * vec t sz v' n' cs') := by
  have hB : Below w0.heap.size w0 w' := hs.below.grown hg hs.lt (fun k hk => (hs.owns.lt k hk).1)
  obtain ⟨x, ⟨h1, h2, ha, ⟨_, hv⟩, hd, hu⟩, hx⟩ := hs.held
  -- the frame's own part lies in no row of the slice's
  have hrow : ∀ k, v.ownBlock = some k → h1 k = none := by
    intro k e
    rcases hv with ⟨e', _, _⟩ | ⟨b, cap, sp, e', _, _, _, hb⟩
    · rw [e'] at e; cases e
    · rw [e'] at e
      simp only [Value.ownBlock, Option.some.injEq] at e
      refine (hd k).resolve_right (fun h => ?_)
      rw [hb k, if_pos e.symm] at h; cases h
  have hold : ∀ k o, h1 k = some o → w0.heap.size ≤ k ∧ w.heap[k]? = some o := fun k o hk => hx k o (by rw [hu k, hk]; rfl)
  have hkeep : ∀ k o, h1 k = some o → w0.heap.size ≤ k ∧ w'.heap[k]? = some o := fun k o hk =>
    ⟨(hold k o hk).1, (hg.block k (Array.getElem?_eq_some_iff.1 (hold k o hk).2).1 (fun e => by rw [hrow k e.symm] at hk; cases hk)).trans (hold k o hk).2⟩
  rcases ho.2 with ⟨e, en⟩ | ⟨g, cap, cur, e, hbg, hgg, q1, q2, q3, q4⟩
  · have hc : cs' = [] := List.eq_nil_of_length_eq_zero (by rw [ho.1, en, Nat.zero_mul])
    subst e; subst en; subst hc
    exact Sat.vec_nil ⟨hB, h1, ha, hkeep⟩ t sz
  · subst e
    have hnone : h1 g = none := by
      rcases hat with hat | hat
      · exact hrow g hat.symm
      · simp only [Value.ownBlock, Option.some.injEq] at hat
        cases e1 : h1 g with
        | none => rfl
        | some o1 =>
          have := (Array.getElem?_eq_some_iff.1 (hold g o1 e1).2).1
          omega
    have hcs : cs' ++ cur.toList.drop (n' * sz) = cur.toList := by rw [← q4]; exact List.take_append_drop _ _
    refine ⟨hB, fun k => (h1 k).or (if k = g then some (.cells cur t (0, 0)) else none), ⟨h1, fun k => if k = g then some (.cells cur t (0, 0)) else none, ha, ⟨ho.1, Or.inr ⟨g, cap, cur.toList.drop (n' * sz), rfl, q1, q2, by rw [hcs]; simpa using q3, ?_⟩⟩, fun k => ?_, fun _ => rfl⟩, fun k o1 hko => ?_⟩
    · intro k
      rw [hcs]
    · by_cases e : k = g
      · subst e; exact Or.inl hnone
      · right; exact if_neg e
    · dsimp only at hko
      by_cases e : k = g
      · subst e
        rw [hnone, if_pos rfl] at hko
        cases hko
        exact ⟨hbg, hgg⟩
      · rw [if_neg e, Option.or_none] at hko
        exact hkeep k o1 hko

/-- Cells that lie one behind the other from an address on. -/
def Rd (w : World) (ao : Option Addr) (cs : List Value) : Prop :=
  cs = [] ∨ ∃ b o, ao = some ⟨b, o, none⟩ ∧ ∀ i u, cs[i]? = some u → w.cell? ⟨b, o + i, none⟩ = some u
theorem Rd.nil (w : World) (ao : Option Addr) : Rd w ao [] := Or.inl rfl
theorem Rd.mono {w w' : World} {ao : Option Addr} {l : List Value} (h : Rd w ao l) (hb : Below w.heap.size w w') : Rd w' ao l := by
  rcases h with h | ⟨b, o, e, hc⟩
  · exact Or.inl h
  · exact Or.inr ⟨b, o, e, fun i u hu => (hb.cell (World.block_lt_of_cell? w _ (hc i u hu))).trans (hc i u hu)⟩
theorem Rd.of0 {w0 w : World} {A : HP} {ao : Option Addr} {l : List Value} (h : Rd w0 ao l) (hs : Sat w0 w A) : Rd w ao l := h.mono hs.below
theorem Rd.addr {w : World} {ao : Option Addr} {l : List Value} (h : Rd w ao l) (hne : l ≠ []) : ∃ b o, ao = some ⟨b, o, none⟩ ∧ ∀ i u, l[i]? = some u → w.cell? ⟨b, o + i, none⟩ = some u := h.resolve_left hne
theorem Rd.left {w : World} {ao : Option Addr} {l m : List Value} (h : Rd w ao (l ++ m)) : Rd w ao l := by
  rcases h with h | ⟨b, o, e, hc⟩
  · exact Or.inl (List.append_eq_nil_iff.1 h).1
  · exact Or.inr ⟨b, o, e, fun i u hu => hc i u (by rw [List.getElem?_append_left (List.getElem?_eq_some_iff.1 hu).1]; exact hu)⟩
theorem Rd.take {w : World} {ao : Option Addr} {l : List Value} (h : Rd w ao l) (n : Nat) : Rd w ao (l.take n) := by
  rw [← List.take_append_drop n l] at h
  exact h.left
theorem Sat.vec_rd (hs : Sat w0 w (F * vec t sz v n cs)) : ∃ ao cap, v = .slice ao n cap ∧ n ≤ cap ∧ Rd w ao cs ∧ (ao = none → n = 0 ∧ cap = 0) := by
  obtain ⟨hl, ⟨e, en, ec, _⟩ | ⟨b, cap, sp, e, q1, q2, q3, hb⟩⟩ := hs.vec_cases
  · subst en
    exact ⟨none, 0, e, Nat.le_refl _, Or.inl ec, fun _ => ⟨rfl, rfl⟩⟩
  · refine ⟨_, cap, e, q1, Or.inr ⟨b, 0, rfl, fun i u hu => ?_⟩, fun h => by cases h⟩
    rw [Nat.zero_add]
    exact hb.cell (by rw [List.getElem?_append_left (List.getElem?_eq_some_iff.1 hu).1]; exact hu)
theorem Sat.rd {ao : Option Addr} {cap : Nat} (hs : Sat w0 w (F * vec t sz (.slice ao n cap) n cs)) : Rd w ao cs := by
  obtain ⟨_, _, e, _, h, _⟩ := hs.vec_rd
  cases e; exact h
theorem Sat.no {ao : Option Addr} {cap : Nat} (hs : Sat w0 w (F * vec t sz (.slice ao n cap) n cs)) : ao = none → n = 0 ∧ cap = 0 := by
  obtain ⟨_, _, e, _, _, h⟩ := hs.vec_rd
  cases e; exact h
theorem Sat.skip {o : Obj} {A : HP} (hs : Sat w0 w A) : Sat w0 (w.alloc o) A := hs.ext ((Below.refl _ _).alloc (Nat.le_refl _) o)
theorem Rd.skip {o : Obj} {ao : Option Addr} {l : List Value} (h : Rd w ao l) : Rd (w.alloc o) ao l := h.mono ((Below.refl _ _).alloc (Nat.le_refl _) o)
theorem Rd.drew {ao : Option Addr} {l : List Value} (h : Rd w ao l) : Rd w.drew ao l := h.mono (Below.refl _ _).drew
theorem Rd.drewN {k : Nat} {ao : Option Addr} {l : List Value} (h : Rd w ao l) : Rd (w.drewN k) ao l := h.mono (below_drewN (Below.refl _ _) k)
theorem Rd.of_heap {b : Nat} {l : List Value} {e : TypeId} {fr : Nat × Nat} (h : w.heap[b]? = some (.cells l.toArray e fr)) : Rd w (some ⟨b, 0, none⟩) l := by
  refine Or.inr ⟨_, _, rfl, fun i u hu => ?_⟩
  simp [World.cell?, h, hu]
theorem Rd.made (w : World) (l : List Value) (e : TypeId) (fr : Nat × Nat) : Rd (w.alloc (.cells l.toArray e fr)) (some ⟨w.heap.size, 0, none⟩) l := Rd.of_heap (heap_alloc_new w _)
end
/-- What a call has made beside all that was there is made beside what is held. -/
theorem Sat.glue {w0 w w' : World} {F A : HP} (hs : Sat w0 w F) (ha : Sat w w' A) : Sat w0 w' (F * A) := by
  obtain ⟨x, hF, hx⟩ := hs.held
  obtain ⟨y, hA, hy⟩ := ha.held
  have hlt : ∀ b o, x b = some o → b < w.heap.size := fun b o h => (Array.getElem?_eq_some_iff.1 (hx b o h).2).1
  refine ⟨hs.below.trans (ha.below.mono hs.lt), fun b => (x b).or (y b), ⟨x, y, hF, hA, fun b => ?_, fun _ => rfl⟩, fun b o h => ?_⟩
  · cases e : x b with
    | none => exact Or.inl rfl
    | some o =>
      right
      cases e' : y b with
      | none => rfl
      | some o' =>
        have h1 := hlt b o e
        have h2 := (hy b o' e').1
        omega
  · dsimp only at h
    cases e : x b with
    | some o1 =>
      rw [e, Option.some_or] at h
      cases h
      exact ⟨(hx b o e).1, (ha.below.block b (hlt b o e)).trans (hx b o e).2⟩
    | none =>
      rw [e, Option.none_or] at h
      exact ⟨Nat.le_trans hs.lt (hy b o h).1, (hy b o h).2⟩
theorem Sat.refl (w : World) : Sat w w 1 := Sat.start w
theorem Sat.then1 {w0 w w' : World} {F : HP} (hs : Sat w0 w F) (ha : Sat w w' 1) : Sat w0 w' F := (hs.glue ha).unone

/-- What is returned, and where. -/
def Ret (R : Value → World → Prop) (e : Ending) (w' : World) : Prop := ∃ v, e = .returned v ∧ R v w'
theorem Ret.mk {R : Value → World → Prop} {v : Value} {w' : World} (h : R v w') : Ret R (.returned v) w' := ⟨v, rfl, h⟩

/-- A value is returned, and nothing has turned. -/
def Same (v : Value) (w : World) (e : Ending) (w' : World) : Prop := e = .returned v ∧ w = w'
/-- A value is returned, and nothing has turned but a count of draws. -/
def Drew (v : Value) (w : World) (e : Ending) (w' : World) : Prop := e = .returned v ∧ ∃ n, w' = w.drewN n
theorem Same.quiet {P : Program} {f : FuncId} {args : Array Value} {w : World} {n : Nat} {v : Value} (h : Calls P f args (w.drewN n) (Same v (w.drewN n))) :
    Calls P f args (w.drewN n) fun e w'' => e = .returned v ∧ ∃ m, w'' = w.drewN m := h.mono fun _ _ ⟨he, hw⟩ => ⟨he, n, hw.symm⟩
theorem Drew.quiet {P : Program} {f : FuncId} {args : Array Value} {w : World} {n : Nat} {v : Value} (h : Calls P f args (w.drewN n) (Drew v (w.drewN n))) :
    Calls P f args (w.drewN n) fun e w'' => e = .returned v ∧ ∃ m, w'' = w.drewN m := h.mono fun _ _ ⟨he, k, hw⟩ => ⟨he, n + k, by rw [hw, World.drewN_drewN]⟩
theorem Drew.quiet_add {P : Program} {f : FuncId} {args : Array Value} {w : World} {a n : Nat} {v : Value} (h : Calls P f args (w.drewN (a + n)) (Drew v (w.drewN (a + n)))) :
    Calls P f args (w.drewN (a + n)) fun e w'' => e = .returned v ∧ ∃ m, w'' = w.drewN (a + m) := h.mono fun _ _ ⟨he, k, hw⟩ => ⟨he, n + k, by rw [hw, World.drewN_drewN, Nat.add_assoc]⟩
theorem Same.quiet_add {P : Program} {f : FuncId} {args : Array Value} {w : World} {a n : Nat} {v : Value} (h : Calls P f args (w.drewN (a + n)) (Same v (w.drewN (a + n)))) :
    Calls P f args (w.drewN (a + n)) fun e w'' => e = .returned v ∧ ∃ m, w'' = w.drewN (a + m) := h.mono fun _ _ ⟨he, hw⟩ => ⟨he, n, hw.symm⟩

/-- 'append' to a slice that is held. -/
theorem sl_append {P : Program} {w0 w : World} {F : HP} {ops : Array Oper} {rest : List Oper} {o : Oper} {a : Act} {Q : Exit → Act → World → Prop}
    (hgd : o.guard = none) (s x : Operand) (t : TypeId) (ho : o.op = .call { callee := .builtin .append, args := #[s, x], argTypes := #[t, t] })
    (e : TypeId) (z : Value) (sz bytes : Nat) (ht : P.underlying t = some (.slice e)) (hinfo : (P.info? e).map (fun i => (i.zero, i.size, i.bytes)) = some (some z, sz, bytes))
    (hzs : z.cells.size = sz) (hsz : 0 < sz) (v : Value) (n : Nat) (cs : List Value) (hs : a.eval s = v) (hsat : Sat w0 w (F * vec e sz v n cs))
    (ad : Addr) (m c : Nat) (news : List Value) (hx : a.eval x = .slice (some ad) m c) (hl : news.length = m * sz) (hrd : Rd w (some ad) news) (h1 : ∀ u ∈ news, u.oneCell' = true)
    (h63 : n + m ≤ maxLen) (hbytes : (n + m) * bytes ≤ 140737488355328)
    (h : ∀ v' w', Sat w0 w' (F * vec e sz v' (n + m) (cs ++ news)) → wpList P ops Q rest (a.put o.dst v') w') : wpList P ops Q (o :: rest) a w := by
  obtain ⟨i, hi, hz, hsize, hby⟩ := info_parts hinfo
  refine wpList_append_own_at _ hgd s x t ho w0.heap.size e i z sz bytes ht hi hz hsize hby hzs hsz v n cs hs hsat.owns ad m c news hx hl ?_ h1 h63 hbytes hsat.lt ?_
  · intro j u hu
    rcases hrd with hn | ⟨b, of, e', hc⟩
    · subst hn; simp at hu
    · cases e'
      rw [Addr.add_lit]
      exact hc j u hu
  · intro v' w' ho' hg _ hat
    exact h v' w' (hsat.of_owns ho' hg hat)

/-- 'append' of a slice that may be nil. -/
theorem sl_append_any {P : Program} {w0 w : World} {F : HP} {ops : Array Oper} {rest : List Oper} {o : Oper} {a : Act} {Q : Exit → Act → World → Prop}
    (hgd : o.guard = none) (s x : Operand) (t : TypeId) (ho : o.op = .call { callee := .builtin .append, args := #[s, x], argTypes := #[t, t] })
    (e : TypeId) (z : Value) (sz bytes : Nat) (ht : P.underlying t = some (.slice e)) (hinfo : (P.info? e).map (fun i => (i.zero, i.size, i.bytes)) = some (some z, sz, bytes))
    (hzs : z.cells.size = sz) (hsz : 0 < sz) (v : Value) (n : Nat) (cs : List Value) (hs : a.eval s = v) (hsat : Sat w0 w (F * vec e sz v n cs))
    (ao : Option Addr) (m c : Nat) (news : List Value) (hx : a.eval x = .slice ao m c) (hnone : ao = none → m = 0 ∧ c = 0) (hl : news.length = m * sz) (hrd : Rd w ao news) (h1 : ∀ u ∈ news, u.oneCell' = true)
    (h63 : n + m ≤ maxLen) (hbytes : (n + m) * bytes ≤ 140737488355328)
    (h : ∀ v' w', Sat w0 w' (F * vec e sz v' (n + m) (cs ++ news)) → wpList P ops Q rest (a.put o.dst v') w') : wpList P ops Q (o :: rest) a w := by
  cases ao with
  | some ad => exact sl_append hgd s x t ho e z sz bytes ht hinfo hzs hsz v n cs hs hsat ad m c news hx hl hrd h1 h63 hbytes h
  | none =>
    obtain ⟨rfl, rfl⟩ := hnone rfl
    have hn : news = [] := List.eq_nil_of_length_eq_zero (by rw [hl, Nat.zero_mul])
    subst hn
    obtain ⟨i, hi, _, _, _⟩ := info_parts hinfo
    refine wpList_append_own_none hgd s x t ho w0.heap.size e i sz ht hi v n cs hs hsat.owns hx ?_
    have := h v w (by rw [List.append_nil]; exact hsat)
    exact this
/-- Is it this operation? Used under 'with_reducible', ahead of a law for it. -/
theorem gate_op {P : Program} {ops : Array Oper} {rest : List Oper} {o : Oper} {a : Act} {w : World} {Q : Exit → Act → World → Prop} (X : Op) (_h : o.op = X) (g : wpList P ops Q (o :: rest) a w) : wpList P ops Q (o :: rest) a w := g
/-- What is put into a row from a place on. -/
def put (cur : List Value) (off : Nat) (cs : List Value) : List Value := cur.take off ++ (cs ++ cur.drop (off + cs.length))
theorem put_length (cur : List Value) (off : Nat) (cs : List Value) (h : off + cs.length ≤ cur.length) : (put cur off cs).length = cur.length := by
  simp only [put, List.length_append, List.length_take, List.length_drop]; omega
theorem put_nil (cur : List Value) (off : Nat) : put cur off [] = cur := by simp [put]
/-- 'copy' into a row that is held. -/
theorem sl_copy {P : Program} {w0 w : World} {F : HP} {ops : Array Oper} {rest : List Oper} {o : Oper} {a : Act} {Q : Exit → Act → World → Prop}
    (hgd : o.guard = none) (d s : Operand) (dT sT : TypeId) (ho : o.op = .call { callee := .builtin .copy, args := #[d, s], argTypes := #[dT, sT] })
    (elem : TypeId) (hu : P.underlying dT = some (.slice elem)) (hsz : (P.info? elem).map (·.size) = some 1)
    (dp sp : Option Addr) (dLen dCap sLen sCap : Nat) (hd : a.eval d = .slice dp dLen dCap) (hs : a.eval s = .slice sp sLen sCap)
    (g off : Nat) (cur : List Value) (t : TypeId) (hsat : Sat w0 w (F * blk g cur t)) (cs : List Value) (hn : cs.length = Nat.min sLen dLen)
    (hdp : 0 < cs.length → dp = some ⟨g, off, none⟩) (hrd : Rd w sp cs) (hfit : off + cs.length ≤ cur.length) (h1 : ∀ v ∈ cs, v.oneCell' = true)
    (h : ∀ w', Sat w0 w' (F * blk g (put cur off cs) t) → wpList P ops Q rest (a.put o.dst (goInt cs.length)) w') : wpList P ops Q (o :: rest) a w := by
  by_cases h0 : cs.length = 0
  · obtain rfl : cs = [] := List.eq_nil_of_length_eq_zero h0
    refine wpList_copy_nothing hgd d s dT sT ho elem hu hsz dp sp dLen dCap sLen sCap hd hs (by simpa using hn.symm) ?_
    have := h w (by rw [put_nil]; exact hsat)
    simpa using this
  · have hdp' := hdp (by omega)
    subst hdp'
    obtain ⟨b, of, rfl, hc⟩ := hrd.addr (fun e => h0 (by rw [e]; rfl))
    refine wpList_copy_own hgd d s dT sT ho elem hu hsz g off dLen dCap ⟨b, of, none⟩ sLen sCap hd hs cur.toArray t hsat.heap cs hn (fun j v hj => by rw [Addr.add_lit]; exact hc j v hj) (by simpa using hfit) h1 ?_
    refine h _ ?_
    have hg := hsat.heap
    refine Sat.obj_put hsat ?_ (setRow_heap w g cur.toArray _ t _ hg) (fun k _ hk => setRow_other w g k _ hk)
    exact hsat.below.trans ⟨rfl, rfl, rfl, by simp [World.setRow], fun k hk => setRow_other w g k _ (by have := hsat.base; omega)⟩

theorem madeCells_one (u : Value) (n : Nat) : (madeCells #[u] n).toList = List.replicate n u := by
  apply List.ext_getElem?
  intro i
  simp only [madeCells, Array.toList_map, List.getElem?_map, Array.toList_range, List.getElem?_replicate]
  by_cases h : i < n
  · rw [List.getElem?_range h, if_pos h]
    simp [Nat.mod_one]
  · rw [List.getElem?_eq_none (by simp; omega), if_neg h]; rfl
theorem Sat.full {w0 w : World} {F : HP} {e : TypeId} {sz g n : Nat} {cs : List Value} (hs : Sat w0 w (F * vec e sz (.slice (some ⟨g, 0, none⟩) n n) n cs)) : Sat w0 w (F * blk g cs e) := by
  obtain ⟨hl, ⟨h, _⟩ | ⟨b, cap, sp, h, _, _, h3, hb⟩⟩ := hs.vec_cases
  · cases h
  · cases h
    have : sp = [] := List.eq_nil_of_length_eq_zero (by rw [List.length_append] at h3; omega)
    rw [this, List.append_nil] at hb
    exact hb
theorem Sat.as_vec {w0 w : World} {F : HP} {e : TypeId} {sz g n : Nat} {cs : List Value} (hs : Sat w0 w (F * blk g cs e)) (hl : cs.length = n * sz) (hn : n ≤ maxLen) : Sat w0 w (F * vec e sz (.slice (some ⟨g, 0, none⟩) n n) n cs) :=
  Sat.vec_mk (sp := []) (by rw [List.append_nil]; exact hs) hl (Nat.le_refl _) hn (by rw [List.append_nil]; exact hl)
/-- 'make([]T, n)', each element one cell. -/
theorem sl_make {P : Program} {w0 w : World} {F : HP} {ops : Array Oper} {rest : List Oper} {o : Oper} {a : Act} {Q : Exit → Act → World → Prop}
    (hgd : o.guard = none) (l c : Operand) (t : TypeId) (hop : o.op = Op.makeSlice t l c) (e : TypeId) (z : Value) (bytes : Nat) (hz1 : z.cells = #[z]) (ht : P.underlying t = some (.slice e))
    (hinfo : (P.info? e).map (fun i => (i.zero, i.size, i.bytes)) = some (some z, 1, bytes)) (kl kc : IntKind) (L C : Int) (n : Nat) (hl : a.eval l = .int kl L) (hc : a.eval c = .int kc C) (hL : L = (n : Int)) (hC : C = (n : Int))
    (b2 : bytes * n ≤ 281474976710656) (b3 : n ≤ maxLen) (hsat : Sat w0 w F)
    (h : ∀ w', Sat w0 w' (F * blk w.heap.size (List.replicate n z) e) → wpList P ops Q rest (a.put o.dst (.slice (some ⟨w.heap.size, 0, none⟩) n n)) w') :
    wpList P ops Q (o :: rest) a w := by
  obtain ⟨i, hi, hz, hsize, hby⟩ := info_parts hinfo
  refine wpList_make_full w hgd l c t hop w0.heap.size e i z 1 ht hi hz hsize kl kc L C n hl hc hL hC (by rw [hby]; exact b2) b3 hsat.lt (fun w' ho hg => h w' ?_)
  have := ((hsat.vec_nil e 1).of_owns ho hg (Or.inr rfl)).full
  rw [hz1, Nat.mul_one, madeCells_one] at this
  exact this
end Go.Proofs.YtjhlelcopofkkaaDoor

/-! Kit -/
namespace Go.Proofs.YtjhlelcopofkkaaDoor
open Go.RowKit

/-- A byte as a value. -/
def bv (b : UInt8) : Value := .int .u8 (b.toNat : Int)
def bvs (xs : List UInt8) : List Value := xs.map bv
theorem bvs_length (xs : List UInt8) : (bvs xs).length = xs.length := by simp [bvs]
theorem bvs_append (xs ys : List UInt8) : bvs (xs ++ ys) = bvs xs ++ bvs ys := by simp [bvs]
theorem bvs_get {xs : List UInt8} {k : Nat} (h : k < xs.length) : (bvs xs)[k]? = some (bv xs[k]) := by simp [bvs, h]
theorem info_u8 : (Tryd.prog.info? 5).map (fun i => (i.zero, i.size, i.bytes)) = some (some (.int .u8 0), 1, 1) := by kernel_rfl
theorem size_u8 : (Tryd.prog.info? 5).map (·.size) = some 1 := by kernel_rfl
theorem bvs_one (xs : List UInt8) : ∀ v ∈ bvs xs, v.oneCell' = true := by
  intro v hv
  obtain ⟨b, _, rfl⟩ := List.mem_map.1 hv
  rfl
theorem take_snoc {α : Type} (l : List α) (k : Nat) (h : k < l.length) : l.take (k + 1) = l.take k ++ [l[k]] := List.take_succ_eq_append_getElem h

set_option maxHeartbeats 1600000 in
theorem kit_copy {w : World} (xs : List UInt8) (ao : Option Addr) (c : Nat) (hr : Rd w ao (bvs xs)) (hn : xs.length ≤ 140737488351232) :
    Calls Tryd.prog 22 #[.slice ao xs.length c] w (Ret fun v w' => Sat w w' (vec 5 1 v xs.length (bvs xs))) := by
  go_enter Tryd.func22, Tryd.ntmps22
  go_wp2
  go_loopw [3, 4] (fun l i wr => ∃ k : Nat, k ≤ xs.length ∧ i = .int .i64 k ∧ Sat w wr (1 * vec 5 1 l k (bvs (xs.take k)))) (fun _ i _ => xs.length - (intOf i).toNat)
  case atStart => exact ⟨0, by omega, rfl, (Sat.refl w).vec_nil _ _⟩
  case round =>
    obtain ⟨k, hk, rfl, hS⟩ := hrel
    by_cases hlt : k < xs.length
    · obtain ⟨b, of, rfl, hcells⟩ := (hr.mono hS.below).addr (by intro e; have := bvs_length xs; rw [e] at this; simp at this; omega)
      have hcell : wr.cell? ⟨b, of + k, none⟩ = some (.int .u8 (xs[k].toNat : Int)) := hcells k _ (bvs_get hlt)
      go_wp2_with (at_builtin; refine sl_append rfl _ _ 22 rfl 5 (.int .u8 0) 1 1 Tryd.underlying22 info_u8 rfl (by decide) _ k _ rfl (by exact hS.skip) _ 1 _ [bv xs[k]] rfl rfl (by exact Rd.made _ _ _ _) (by intro u hu; simp at hu; subst hu; rfl) (by simp only [maxLen]; omega) (by omega) ?_; intro v' w' hS')
      refine ⟨⟨k + 1, by omega, rfl, ?_⟩, by simp [intOf]; omega⟩
      rw [take_snoc xs k hlt, bvs_append]
      exact hS'
    · obtain rfl : k = xs.length := by omega
      go_wp2
      go_ret
      rw [HP.one_mul, List.take_length] at hS
      exact Ret.mk hS

set_option maxHeartbeats 1600000 in
theorem kit_bytes {w : World} (s : ByteArray) (hn : s.size ≤ 140737488351232) :
    Calls Tryd.prog 41 #[.string s] w (Ret fun v w' => Sat w w' (vec 5 1 v s.size (bvs s.data.toList))) := by
  go_enter Tryd.func41, Tryd.ntmps41
  have hsz : s.data.toList.length = s.size := rfl
  go_wp2
  go_loopw [3, 4] (fun l i wr => ∃ k : Nat, k ≤ s.size ∧ i = .int .i64 k ∧ Sat w wr (1 * vec 5 1 l k (bvs (s.data.toList.take k)))) (fun _ i _ => s.size - (intOf i).toNat)
  case atStart => exact ⟨0, by omega, rfl, (Sat.refl w).vec_nil _ _⟩
  case round =>
    obtain ⟨k, hk, rfl, hS⟩ := hrel
    by_cases hlt : k < s.size
    · go_wp2_with (at_builtin; refine sl_append rfl _ _ 22 rfl 5 (.int .u8 0) 1 1 Tryd.underlying22 info_u8 rfl (by decide) _ k _ rfl (by exact hS.skip) _ 1 _ [bv s.data.toList[k]] rfl rfl (by exact Rd.made _ _ _ _) (by intro u hu; simp at hu; subst hu; rfl) (by simp only [maxLen]; omega) (by omega) ?_; intro v' w' hS')
      refine ⟨⟨k + 1, by omega, rfl, ?_⟩, by simp [intOf]; omega⟩
      rw [take_snoc s.data.toList k hlt, bvs_append]
      exact hS'
    · obtain rfl : k = s.size := by omega
      go_wp2
      go_ret
      rw [HP.one_mul, ← hsz, List.take_length] at hS
      exact Ret.mk hS

theorem take_ne {α : Type} [DecidableEq α] {xs ys : List α} {k : Nat} (hk : k < xs.length) (hk' : k < ys.length) (h : xs[k] ≠ ys[k]) : xs ≠ ys := by
  intro e; subst e; exact h rfl
theorem ret_bool {b c : Bool} (h : b = c) : Value.bool b = Value.bool c := by rw [h]
theorem ret_int {k : IntKind} {b c : Int} (h : b = c) : Value.int k b = Value.int k c := by rw [h]
theorem u8_ne {a b : UInt8} (h : ¬ (a.toNat : Int) = (b.toNat : Int)) : a ≠ b := by
  intro e; subst e; exact h rfl
theorem u8_eq {a b : UInt8} (h : (a.toNat : Int) = (b.toNat : Int)) : a = b := UInt8.toNat_inj.1 (by omega)
set_option maxHeartbeats 1600000 in
/-- SameBytes tells whether the bytes are the same. -/
theorem ref0_sameBytes {w : World} (xs ys : List UInt8) (ao bo : Option Addr) (c d : Nat) (hr : Rd w ao (bvs xs)) (hq : Rd w bo (bvs ys)) (hn : xs.length ≤ 140737488351232) :
    Calls Tryd.prog 25 #[.slice ao xs.length c, .slice bo ys.length d] w (Drew (.bool (decide (xs = ys))) w) := by
  go_enter Tryd.func25, Tryd.ntmps25
  by_cases hlen : xs.length = ys.length
  · have hl2 : ((xs.length : Int) != (ys.length : Int)) = false := by simp [hlen]
    have HL := Hid.mk' hlen
    clear hlen
    go_wp2
    go_loopw [5] (fun i wr => ∃ k : Nat, k ≤ xs.length ∧ i = .int .i64 k ∧ xs.take k = ys.take k ∧ ∃ m, wr = w.drewN m) (fun i _ => xs.length - (intOf i).toNat)
    case atStart => exact ⟨0, by omega, rfl, rfl, 0, rfl⟩
    case round =>
      obtain ⟨k, hk, rfl, heq, m, rfl⟩ := hrel
      have HE := Hid.mk' heq
      clear heq
      by_cases hlt : k < xs.length
      · have hlt' : k < ys.length := by have := HL.out; omega
        obtain ⟨b, of, rfl, hcells⟩ := hr.addr (by intro e; have := bvs_length xs; rw [e] at this; simp at this; omega)
        obtain ⟨b2, of2, rfl, hcells2⟩ := hq.addr (by intro e; have := bvs_length ys; rw [e] at this; simp at this; omega)
        have hcell : w.cell? ⟨b, of + k, none⟩ = some (.int .u8 (xs[k].toNat : Int)) := hcells k _ (bvs_get hlt)
        have hcell2 : w.cell? ⟨b2, of2 + k, none⟩ = some (.int .u8 (ys[k].toNat : Int)) := hcells2 k _ (bvs_get hlt')
        by_cases hx : xs[k] = ys[k]
        · have hb : ((xs[k].toNat : Int) != (ys[k].toNat : Int)) = false := by rw [hx]; simp
          have HX := Hid.mk' hx
          clear hx
          go_wp2
          go_quiet (fail)
          go_wp2
          refine ⟨⟨k + 1, by omega, rfl, ?_, _, rfl⟩, by simp [intOf]; omega⟩
          rw [take_snoc xs k hlt, take_snoc ys k hlt', HE.out, HX.out]
        · have hb : ((xs[k].toNat : Int) != (ys[k].toNat : Int)) = true := by
            rw [bne_iff_ne]; intro e; exact hx (u8_eq e)
          have HX := Hid.mk' hx
          clear hx
          go_wp2
          go_quiet (fail)
          go_wp2
          go_ret
          exact ⟨congrArg _ (ret_bool (decide_eq_false (take_ne hlt hlt' HX.out)).symm), _, World.drewN_drewN _ _ _⟩
      · obtain rfl : k = xs.length := by omega
        go_wp2
        go_ret
        refine ⟨?_, _, rfl⟩
        have h := HE.out
        rw [List.take_length, HL.out, List.take_length] at h
        exact congrArg _ (ret_bool (decide_eq_true h).symm)
  · have hl2 : ((xs.length : Int) != (ys.length : Int)) = true := by rw [bne_iff_ne]; omega
    go_wp2
    go_ret
    exact ⟨congrArg _ (ret_bool (decide_eq_false (fun e => hlen (congrArg _ e))).symm), 0, rfl⟩

/-! Refusals: a package-level variable each, each its own pointer. -/
/-- The number of the variable of a refusal. -/
def gErr : Nat → Nat
  | 1 => 2 | 2 => 3 | 3 => 4 | 4 => 0 | 5 => 5
  | 6 => 6 | 7 => 7 | 8 => 10 | 9 => 1 | 10 => 9
  | 11 => 11 | 12 => 8 | _ => 12
/-- The refusal of a number, as a value. -/
def errv (E : Nat → Addr) : Nat → Value
  | 0 => .nilIface
  | k + 1 => .iface 203 (.pointer (some (E (k + 1))))
structure Errs (w : World) (E : Nat → Addr) : Prop where
  cell : ∀ k, 1 ≤ k → k ≤ 13 → w.cell? ⟨gErr k, 0, none⟩ = some (.iface 203 (.pointer (some (E k))))
  row : ∀ k, 1 ≤ k → k ≤ 13 → ∃ ca ta, w.heap[(E k).block]? = some (.cells ca ta (0, 0))
  inj : ∀ j k, 1 ≤ j → j ≤ 13 → 1 ≤ k → k ≤ 13 → E j = E k → j = k
theorem Errs.mono {w w' : World} {E : Nat → Addr} (h : Errs w E) (hb : Below w.heap.size w w') : Errs w' E :=
  ⟨fun k h1 h2 => (hb.cell (World.block_lt_of_cell? w _ (h.cell k h1 h2))).trans (h.cell k h1 h2),
   fun k h1 h2 => let ⟨ca, ta, e⟩ := h.row k h1 h2; ⟨ca, ta, (hb.block _ (Array.getElem?_eq_some_iff.1 e).1).trans e⟩, h.inj⟩
theorem Errs.of0 {w0 w : World} {E : Nat → Addr} {A : HP} (h : Errs w0 E) (hs : Sat w0 w A) : Errs w E := by
  exact h.mono hs.below
theorem info_es : (Tryd.prog.info? 219).map (fun i => i.size) = some 1 := by kernel_rfl
theorem comp_es : (Tryd.prog.info? 203).map (fun i => i.comparable) = some true := by kernel_rfl
theorem Errs.eql {w : World} {E : Nat → Addr} (h : Errs w E) (j k : Nat) (hj : 1 ≤ j) (hj' : j ≤ 13) (hk : 1 ≤ k) (hk' : k ≤ 13) :
    (binOp .eql 25 (.iface 203 (.pointer (some (E j)))) (.iface 203 (.pointer (some (E k))))).run Tryd.prog w = .ok (.bool (decide (j = k))) w := by
  obtain ⟨i, hi, hcmp⟩ := Option.map_eq_some_iff.1 comp_es
  obtain ⟨i2, hi2, hsz⟩ := Option.map_eq_some_iff.1 info_es
  by_cases e : j = k
  · subst e
    rw [run_eql_iface_ptr_same w (E j) Tryd.underlying25 Tryd.underlying203 hi hcmp hi2, decide_eq_true rfl]
  · obtain ⟨ca, ta, r1⟩ := h.row j hj hj'
    obtain ⟨cb, tb, r2⟩ := h.row k hk hk'
    rw [run_eql_iface_ptr_other w Tryd.underlying25 Tryd.underlying203 hi hcmp hi2 (by omega) (fun e' => e (h.inj j k hj hj' hk hk' e')) r1 r2, decide_eq_false e]


set_option maxHeartbeats 3200000 in
/-- The numbers of the refusals from 8 on. -/
theorem kit_more {w : World} {E : Nat → Addr} (hE : Errs w E) (k : Nat) (hk : 8 ≤ k) (hk' : k ≤ 13) :
    Calls Tryd.prog 92 #[.iface 203 (.pointer (some (E k)))] w (Same (.int .i64 k) w) := by
  have c8 := hE.cell 8 (by omega) (by omega)
  have c9 := hE.cell 9 (by omega) (by omega)
  have c10 := hE.cell 10 (by omega) (by omega)
  have c11 := hE.cell 11 (by omega) (by omega)
  have c12 := hE.cell 12 (by omega) (by omega)
  have c13 := hE.cell 13 (by omega) (by omega)
  have e8 := hE.eql k 8 (by omega) (by omega) (by omega) (by omega)
  have e9 := hE.eql k 9 (by omega) (by omega) (by omega) (by omega)
  have e10 := hE.eql k 10 (by omega) (by omega) (by omega) (by omega)
  have e11 := hE.eql k 11 (by omega) (by omega) (by omega) (by omega)
  have e12 := hE.eql k 12 (by omega) (by omega) (by omega) (by omega)
  have e13 := hE.eql k 13 (by omega) (by omega) (by omega) (by omega)
  simp only [gErr] at c8 c9 c10 c11 c12 c13
  obtain rfl | rfl | rfl | rfl | rfl | rfl : k = 8 ∨ k = 9 ∨ k = 10 ∨ k = 11 ∨ k = 12 ∨ k = 13 := by omega
  all_goals
    simp only [Nat.reduceEqDiff, decide_true, decide_false] at e8 e9 e10 e11 e12 e13
    go_enter Tryd.func92, Tryd.ntmps92
    go_wp2
    go_ret
    exact ⟨rfl, rfl⟩

set_option maxHeartbeats 6400000 in
theorem kit_num_low {w : World} {E : Nat → Addr} (hE : Errs w E) (k : Nat) (hk1 : 1 ≤ k) (hk : k ≤ 13) :
    Calls Tryd.prog 26 #[.iface 203 (.pointer (some (E k)))] w (Same (.int .i64 k) w) := by
  have c1 := hE.cell 1 (by omega) (by omega)
  have c2 := hE.cell 2 (by omega) (by omega)
  have c3 := hE.cell 3 (by omega) (by omega)
  have c4 := hE.cell 4 (by omega) (by omega)
  have c5 := hE.cell 5 (by omega) (by omega)
  have c6 := hE.cell 6 (by omega) (by omega)
  have c7 := hE.cell 7 (by omega) (by omega)
  have e1 := hE.eql k 1 (by omega) (by omega) (by omega) (by omega)
  have e2 := hE.eql k 2 (by omega) (by omega) (by omega) (by omega)
  have e3 := hE.eql k 3 (by omega) (by omega) (by omega) (by omega)
  have e4 := hE.eql k 4 (by omega) (by omega) (by omega) (by omega)
  have e5 := hE.eql k 5 (by omega) (by omega) (by omega) (by omega)
  have e6 := hE.eql k 6 (by omega) (by omega) (by omega) (by omega)
  have e7 := hE.eql k 7 (by omega) (by omega) (by omega) (by omega)
  simp only [gErr] at c1 c2 c3 c4 c5 c6 c7
  by_cases h8 : 8 ≤ k
  · rw [decide_eq_false (by omega)] at e1 e2 e3 e4 e5 e6 e7
    go_enter Tryd.func26, Tryd.ntmps26
    go_wp2_with (go_at_call 92; refine (kit_more hE k h8 hk).mono ?_; rintro e w' ⟨rfl, rfl⟩)
    go_ret
    exact ⟨rfl, rfl⟩
  · obtain rfl | rfl | rfl | rfl | rfl | rfl | rfl : k = 1 ∨ k = 2 ∨ k = 3 ∨ k = 4 ∨ k = 5 ∨ k = 6 ∨ k = 7 := by omega
    all_goals
      simp only [Nat.reduceEqDiff, decide_true, decide_false] at e1 e2 e3 e4 e5 e6 e7
      go_enter Tryd.func26, Tryd.ntmps26
      go_wp2_with fail
      go_ret
      exact ⟨rfl, rfl⟩
theorem kit_num {w : World} {E : Nat → Addr} (hE : Errs w E) (k : Nat) (hk : k ≤ 13) :
    Calls Tryd.prog 26 #[errv E k] w (Same (.int .i64 k) w) := by
  cases k with
  | zero =>
    show Calls Tryd.prog 26 #[.nilIface] w _
    go_enter Tryd.func26, Tryd.ntmps26
    go_wp2_with fail
    go_ret
    exact ⟨rfl, rfl⟩
  | succ k => exact kit_num_low hE (k + 1) (by omega) hk

/-- A number from 0 to n - 1 out of any. -/
def pick (k n : Int) : Int := if n < 1 then 0 else k % n
theorem tmod_emod (k n : Int) (hn : 1 ≤ n) : (if k.tmod n < 0 then k.tmod n + n else k.tmod n) = k % n := by
  have h1 := Int.emod_nonneg k (show n ≠ 0 by omega)
  have h2 := Int.emod_lt_of_pos k (show 0 < n by omega)
  have h3 := Int.tmod_eq_emod (a := k) (b := n)
  have h4 : n.natAbs = n := by omega
  by_cases c : 0 ≤ k ∨ n ∣ k
  · rw [h3, if_pos c]
    split <;> omega
  · rw [h3, if_neg c, h4]
    have : k % n ≠ 0 := fun e => c (Or.inr (Int.dvd_of_emod_eq_zero e))
    split <;> omega
theorem tmod_bounds (k n : Int) (hn : 1 ≤ n) : -n < k.tmod n ∧ k.tmod n < n := by
  have h1 := Int.emod_nonneg k (show n ≠ 0 by omega)
  have h2 := Int.emod_lt_of_pos k (show 0 < n by omega)
  have h := tmod_emod k n hn
  have h3 := Int.tmod_lt_of_pos k (show 0 < n by omega)
  have h5 : k % n = 0 → k.tmod n = 0 := fun e => Int.tmod_eq_zero_of_dvd (Int.dvd_of_emod_eq_zero e)
  split at h <;> omega
theorem pick_nonneg (k n : Int) : 0 ≤ pick k n := by
  unfold pick; split
  · omega
  · exact Int.emod_nonneg _ (by omega)
theorem pick_lt (k n : Int) (h : 1 ≤ n) : pick k n < n := by
  unfold pick; rw [if_neg (by omega)]
  exact Int.emod_lt_of_pos _ (by omega)
set_option maxHeartbeats 1600000 in
theorem kit_pick {w : World} (k n : Int) (hn : -9223372036854775808 ≤ n) (hn' : n ≤ 9223372036854775807) :
    Calls Tryd.prog 29 #[.int .i64 k, .int .i64 n] w (Same (.int .i64 (pick k n)) w) := by
  by_cases h1 : n < 1
  · go_enter Tryd.func29, Tryd.ntmps29
    go_wp2
    go_ret
    exact ⟨congrArg _ (ret_int (by simp [pick, h1])), rfl⟩
  · have hf : pick k n = if k.tmod n < 0 then k.tmod n + n else k.tmod n := by unfold pick; rw [if_neg h1, tmod_emod k n (by omega)]
    have hm := tmod_bounds k n (by omega)
    obtain ⟨hm1, hm2⟩ := hm
    by_cases hneg : k.tmod n < 0
    · rw [if_pos hneg] at hf
      have HF := Hid.mk' hf
      clear hf
      go_enter Tryd.func29, Tryd.ntmps29
      go_wp2
      go_ret
      exact ⟨congrArg _ (ret_int HF.out.symm), rfl⟩
    · rw [if_neg hneg] at hf
      have HF := Hid.mk' hf
      clear hf
      go_enter Tryd.func29, Tryd.ntmps29
      go_wp2
      go_ret
      exact ⟨congrArg _ (ret_int HF.out.symm), rfl⟩
end Go.Proofs.YtjhlelcopofkkaaDoor

/-! Crc -/
namespace Go.Proofs.YtjhlelcopofkkaaDoor

/-- One bit of the register goes by. -/
def crcStep (r : BitVec 32) : BitVec 32 := (r >>> 1) ^^^ (if r.getLsbD 0 then 0xEDB88320#32 else 0#32)
def crcSteps : Nat → BitVec 32 → BitVec 32
  | 0, r => r
  | n + 1, r => crcStep (crcSteps n r)
def b32 (b : UInt8) : BitVec 32 := BitVec.ofNat 32 b.toNat
def crcByte (r : BitVec 32) (b : UInt8) : BitVec 32 := crcSteps 8 (r ^^^ b32 b)
def crcRun (r : BitVec 32) (xs : List UInt8) : BitVec 32 := xs.foldl crcByte r
def crcMore (c : BitVec 32) (xs : List UInt8) : BitVec 32 := ~~~ (crcRun (~~~ c) xs)
def crc (xs : List UInt8) : BitVec 32 := crcMore 0#32 xs

theorem crcRun_append (r : BitVec 32) (xs ys : List UInt8) : crcRun r (xs ++ ys) = crcRun (crcRun r xs) ys := List.foldl_append
theorem crcRun_snoc (r : BitVec 32) (xs : List UInt8) (b : UInt8) : crcRun r (xs ++ [b]) = crcByte (crcRun r xs) b := by rw [crcRun_append]; rfl
theorem crcMore_append (c : BitVec 32) (xs ys : List UInt8) : crcMore (crcMore c xs) ys = crcMore c (xs ++ ys) := by
  unfold crcMore
  rw [BitVec.not_not, crcRun_append]

theorem crcStep_xor (x y : BitVec 32) : crcStep (x ^^^ y) = crcStep x ^^^ crcStep y := by
  unfold crcStep
  rw [BitVec.ushiftRight_xor_distrib, BitVec.getLsbD_xor]
  have h : (if (x.getLsbD 0 ^^ y.getLsbD 0) = true then 0xEDB88320#32 else 0#32) = (if x.getLsbD 0 = true then 0xEDB88320#32 else 0#32) ^^^ (if y.getLsbD 0 = true then 0xEDB88320#32 else 0#32) := by
    cases x.getLsbD 0 <;> cases y.getLsbD 0 <;> decide
  rw [h]
  ac_rfl
theorem crcSteps_xor (n : Nat) (x y : BitVec 32) : crcSteps n (x ^^^ y) = crcSteps n x ^^^ crcSteps n y := by
  induction n with
  | zero => rfl
  | succ n ih => simp only [crcSteps]; rw [ih, crcStep_xor]
theorem crcSteps_zero (n : Nat) : crcSteps n 0#32 = 0#32 := by
  induction n with
  | zero => rfl
  | succ n ih => simp only [crcSteps]; rw [ih]; decide
theorem crcSteps_add (m n : Nat) (x : BitVec 32) : crcSteps (m + n) x = crcSteps m (crcSteps n x) := by
  induction m with
  | zero => rw [Nat.zero_add]; rfl
  | succ m ih => rw [Nat.add_right_comm]; simp only [crcSteps]; rw [ih]
/-- Where the lowest bit is off, the register is only shifted. -/
theorem crcStep_even (x : BitVec 32) (h : x.getLsbD 0 = false) : crcStep x = x >>> 1 := by
  unfold crcStep; rw [h]; simp
theorem crcSteps_even (n : Nat) : ∀ x : BitVec 32, (∀ i, i < n → x.getLsbD i = false) → crcSteps n x = x >>> n := by
  induction n with
  | zero => intro x _; simp [crcSteps]
  | succ n ih =>
    intro x h
    simp only [crcSteps]
    rw [ih x (fun i hi => h i (by omega)), crcStep_even, BitVec.shiftRight_add]
    rw [BitVec.getLsbD_ushiftRight]
    exact h (n + 0) (by omega)

/-- The table of the half bytes. -/
def crcTab (i : Nat) : BitVec 32 := crcSteps 4 (BitVec.ofNat 32 i)
theorem and15 (x : BitVec 32) : (x &&& 15#32) = BitVec.ofNat 32 (x.toNat % 16) := by
  apply BitVec.eq_of_toNat_eq
  rw [BitVec.toNat_and]
  show x.toNat &&& (2 ^ 4 - 1) = _
  rw [Nat.and_two_pow_sub_one_eq_mod, BitVec.toNat_ofNat]
  omega
theorem and15_lt (x : BitVec 32) : (x &&& 15#32).toNat < 16 := by
  rw [and15, BitVec.toNat_ofNat]; omega
theorem split15 (x : BitVec 32) : x = (x &&& 15#32) ^^^ (x &&& ~~~ 15#32) := by
  apply BitVec.eq_of_getLsbD_eq
  intro i hi
  simp only [BitVec.getLsbD_xor, BitVec.getLsbD_and, BitVec.getLsbD_not]
  cases x.getLsbD i <;> cases (15#32).getLsbD i <;> simp [hi]
theorem crc_half (x : BitVec 32) : crcSteps 4 x = (x >>> 4) ^^^ crcTab (x &&& 15#32).toNat := by
  have h1 : crcSteps 4 (x &&& ~~~ 15#32) = x >>> 4 := by
    rw [crcSteps_even]
    · apply BitVec.eq_of_getLsbD_eq
      intro i hi
      simp only [BitVec.getLsbD_ushiftRight, BitVec.getLsbD_and, BitVec.getLsbD_not]
      by_cases h : 4 + i < 32
      · have h15 : (15#32).getLsbD (4 + i) = false := by
          simp only [BitVec.getLsbD_ofNat]
          have : Nat.testBit 15 (4 + i) = false := Nat.testBit_lt_two_pow (Nat.lt_of_lt_of_le (show 15 < 2 ^ 4 by decide) (Nat.pow_le_pow_right (by decide) (by omega)))
          simp [this]
        rw [h15]; simp [h]
      · rw [BitVec.getLsbD_of_ge x (4 + i) (by omega)]; rfl
    · intro i hi
      simp only [BitVec.getLsbD_and, BitVec.getLsbD_not]
      obtain rfl | rfl | rfl | rfl : i = 0 ∨ i = 1 ∨ i = 2 ∨ i = 3 := by omega
      all_goals simp
  conv => lhs; rw [split15 x, crcSteps_xor, h1]
  rw [BitVec.xor_comm]
  unfold crcTab
  rw [BitVec.ofNat_toNat, BitVec.setWidth_eq]
/-- A byte by two half bytes. -/
theorem crcByte_half (r : BitVec 32) (b : UInt8) :
    crcByte r b = ((((r ^^^ b32 b) >>> 4) ^^^ crcTab ((r ^^^ b32 b) &&& 15#32).toNat) >>> 4) ^^^ crcTab ((((r ^^^ b32 b) >>> 4) ^^^ crcTab ((r ^^^ b32 b) &&& 15#32).toNat) &&& 15#32).toNat := by
  unfold crcByte
  rw [show 8 = 4 + 4 from rfl, crcSteps_add, crc_half (r ^^^ b32 b), crc_half]

/-- One bit of what comes in. -/
def crcBit (b : BitVec 32) (k : Nat) (r : BitVec 32) : BitVec 32 := if (r &&& 1#32) ≠ ((b >>> k) &&& 1#32) then (r >>> 1) ^^^ 0xEDB88320#32 else r >>> 1
def crcBits (b : BitVec 32) : Nat → BitVec 32 → BitVec 32
  | 0, r => r
  | k + 1, r => crcBit b k (crcBits b k r)
theorem and1 (x : BitVec 32) : (x &&& 1#32) = if x.getLsbD 0 then 1#32 else 0#32 := by
  apply BitVec.eq_of_toNat_eq
  rw [BitVec.toNat_and]
  show x.toNat &&& 1 = _
  rw [Nat.and_one_is_mod]
  have h : x.getLsbD 0 = x.toNat.testBit 0 := rfl
  rw [h, Nat.testBit_zero]
  have : x.toNat % 2 = 0 ∨ x.toNat % 2 = 1 := by omega
  rcases this with e | e <;> simp [e]
theorem crcBits_steps (b : BitVec 32) (n : Nat) (r : BitVec 32) : crcSteps n (r ^^^ b) = crcBits b n r ^^^ (b >>> n) := by
  induction n with
  | zero => simp [crcSteps, crcBits]
  | succ n ih =>
    simp only [crcSteps, crcBits]
    rw [ih]
    generalize crcBits b n r = R
    unfold crcStep crcBit
    rw [BitVec.ushiftRight_xor_distrib, BitVec.getLsbD_xor, and1, and1, ← BitVec.shiftRight_add]
    cases R.getLsbD 0 <;> cases (b >>> n).getLsbD 0 <;> simp <;> ac_rfl
theorem crcBits_byte (r : BitVec 32) (b : UInt8) : crcBits (b32 b) 8 r = crcByte r b := by
  have h := crcBits_steps (b32 b) 8 r
  have h0 : b32 b >>> 8 = 0#32 := by
    apply BitVec.eq_of_toNat_eq
    have := b.toNat_lt
    simp only [b32, BitVec.toNat_ushiftRight, BitVec.toNat_ofNat, Nat.shiftRight_eq_div_pow]
    omega
  rw [h0, BitVec.xor_zero] at h
  exact h.symm
end Go.Proofs.YtjhlelcopofkkaaDoor

/-! CrcWalk -/
namespace Go.Proofs.YtjhlelcopofkkaaDoor
open Go.RowKit

theorem u32_bv (x : BitVec 32) : BitVec.ofInt 32 (x.toNat : Int) = x := by
  rw [BitVec.ofInt_natCast, BitVec.ofNat_toNat, BitVec.setWidth_eq]
theorem u32_wrap (x : BitVec 32) : IntKind.u32.wrap (x.toNat : Int) = (x.toNat : Int) := by
  rw [IntKind.wrap_u32]
  have := x.isLt
  omega
/-- A register as an int. (A name, so that a walk leaves it be.) -/
def ru32 (x : BitVec 32) : Int := (x.toNat : Int)
theorem u32_nonneg (x : BitVec 32) : 0 ≤ ru32 x := by unfold ru32; omega
theorem u32_lt (x : BitVec 32) : ru32 x < 4294967296 := by unfold ru32; have := x.isLt; omega
theorem u32_toNat (x : BitVec 32) : (ru32 x).toNat = x.toNat := by unfold ru32; omega
theorem u32_inj {x y : BitVec 32} (h : ru32 x = ru32 y) : x = y := BitVec.eq_of_toNat_eq (by unfold ru32 at h; omega)
theorem u32_xor (x y : BitVec 32) : bits .xor .u32 (ru32 x) (ru32 y) = ru32 (x ^^^ y) := by
  simp only [bits]
  show IntKind.u32.wrap ((BitVec.ofInt 32 (x.toNat : Int) ^^^ BitVec.ofInt 32 (y.toNat : Int)).toNat : Int) = _
  rw [u32_bv, u32_bv, u32_wrap]; rfl
theorem u32_and15 (x : BitVec 32) : bits .and .u32 (ru32 x) 15 = ru32 (x &&& 15#32) := by
  simp only [bits]
  show IntKind.u32.wrap ((BitVec.ofInt 32 (x.toNat : Int) &&& BitVec.ofInt 32 15).toNat : Int) = _
  rw [u32_bv, show BitVec.ofInt 32 15 = 15#32 by decide, u32_wrap]; rfl
theorem u32_and1 (x : BitVec 32) : bits .and .u32 (ru32 x) 1 = ru32 (x &&& 1#32) := by
  simp only [bits]
  show IntKind.u32.wrap ((BitVec.ofInt 32 (x.toNat : Int) &&& BitVec.ofInt 32 1).toNat : Int) = _
  rw [u32_bv, show BitVec.ofInt 32 1 = 1#32 by decide, u32_wrap]; rfl
theorem u32_not (x : BitVec 32) : bits .xor .u32 IntKind.u32.max (ru32 x) = ru32 (~~~ x) := by
  simp only [bits]
  show IntKind.u32.wrap ((BitVec.ofInt 32 IntKind.u32.max ^^^ BitVec.ofInt 32 (x.toNat : Int)).toNat : Int) = _
  rw [u32_bv, show BitVec.ofInt 32 IntKind.u32.max = BitVec.allOnes 32 by decide, BitVec.allOnes_xor, u32_wrap]; rfl
theorem u32_not' (x : BitVec 32) : bits .xor .u32 (ru32 x) 4294967295 = ru32 (~~~ x) := by
  simp only [bits]
  show IntKind.u32.wrap ((BitVec.ofInt 32 (x.toNat : Int) ^^^ BitVec.ofInt 32 4294967295).toNat : Int) = _
  rw [u32_bv, show BitVec.ofInt 32 4294967295 = BitVec.allOnes 32 by decide, BitVec.xor_allOnes, u32_wrap]; rfl
theorem u32_poly (x : BitVec 32) : bits .xor .u32 (ru32 x) 3988292384 = ru32 (x ^^^ 0xEDB88320#32) := by
  simp only [bits]
  show IntKind.u32.wrap ((BitVec.ofInt 32 (x.toNat : Int) ^^^ BitVec.ofInt 32 3988292384).toNat : Int) = _
  rw [u32_bv, show BitVec.ofInt 32 3988292384 = 0xEDB88320#32 by decide, u32_wrap]; rfl
theorem u32_shr4 (x : BitVec 32) : ru32 x / (16 : Int) = ru32 (x >>> 4) := by
  unfold ru32
  rw [BitVec.toNat_ushiftRight, Nat.shiftRight_eq_div_pow]
  omega
theorem u32_shr1 (x : BitVec 32) : ru32 x / (2 : Int) = ru32 (x >>> 1) := by
  unfold ru32
  rw [BitVec.toNat_ushiftRight, Nat.shiftRight_eq_div_pow]
  omega
theorem u32_fshr4 (x : BitVec 32) : (ru32 x).fdiv (16 : Int) = ru32 (x >>> 4) := by rw [Int.fdiv_eq_ediv_of_nonneg _ (by decide), u32_shr4]
theorem u32_fshr1 (x : BitVec 32) : (ru32 x).fdiv (2 : Int) = ru32 (x >>> 1) := by rw [Int.fdiv_eq_ediv_of_nonneg _ (by decide), u32_shr1]
theorem u8_b32 (b : UInt8) : (b.toNat : Int) % 4294967296 = ru32 (b32 b) := by
  have := b.toNat_lt
  simp only [ru32, b32, BitVec.toNat_ofNat]
  omega
theorem and15_lt' (x : BitVec 32) : (ru32 (x &&& 15#32) < 16) = True := by
  have := and15_lt x
  simp only [eq_iff_iff, iff_true, ru32]
  omega
theorem u32_nonneg' (x : BitVec 32) : (0 ≤ ru32 x) = True := by simp [u32_nonneg]

/-- The table at a register. -/
def crcTabV (x : BitVec 32) : BitVec 32 := crcTab x.toNat
/-- The program's table of half bytes. -/
def CrcTab (w : World) : Prop := ∀ i, i < 16 → w.cell? ⟨13, i, none⟩ = some (.int .u32 (ru32 (crcTab i)))
theorem CrcTab.mono {w w' : World} (h : CrcTab w) (hb : Below w.heap.size w w') : CrcTab w' :=
  fun i hi => (hb.cell (World.block_lt_of_cell? w _ (h i hi))).trans (h i hi)
theorem crcMore_snoc (c : BitVec 32) (xs : List UInt8) (b : UInt8) : crcRun (~~~ c) (xs ++ [b]) = crcByte (crcRun (~~~ c) xs) b := crcRun_snoc _ _ _

section
attribute [local go_sem] u32_xor u32_and15 u32_and1 u32_not u32_not' u32_poly u32_shr4 u32_shr1 u32_fshr4 u32_fshr1 u8_b32 and15_lt' u32_nonneg' IntKind.signed
set_option maxHeartbeats 1600000 in
theorem sums_crcMore {w : World} (hT : CrcTab w) (c : BitVec 32) (s : ByteArray) (hn : s.size ≤ 140737488351232) :
    Calls Tryd.prog 133 #[.int .u32 (ru32 c), .string s] w (Same (.int .u32 (ru32 (crcMore c s.data.toList))) w) := by
  have ht : ∀ x : BitVec 32, w.cell? ⟨13, (ru32 (x &&& 15#32)).toNat, none⟩ = some (.int .u32 (ru32 (crcTabV (x &&& 15#32)))) := fun x => by rw [u32_toNat]; exact hT _ (and15_lt x)
  have hsz : s.data.toList.length = s.size := rfl
  go_enter Tryd.func133, Tryd.ntmps133
  go_wp2
  go_loopw [5, 6, 11] (fun r i11 i wr => ∃ k : Nat, k ≤ s.size ∧ i = .int .i64 k ∧ r = .int .u32 (ru32 (crcRun (~~~ c) (s.data.toList.take k))) ∧ wr = w) (fun _ _ i _ => s.size - (intOf i).toNat)
  case atStart => exact ⟨0, by omega, rfl, rfl, rfl⟩
  case round =>
    obtain ⟨k, hk, rfl, rfl, rfl⟩ := hrel
    by_cases hlt : k < s.size
    · go_wp2
      refine ⟨⟨k + 1, by omega, by first | rfl | trivial, ?_, by first | rfl | trivial⟩, by simp [intOf]; omega⟩
      rw [take_snoc s.data.toList k hlt, crcRun_snoc, crcByte_half]
      rfl
    · obtain rfl : k = s.size := by omega
      go_wp2
      go_ret
      refine ⟨?_, rfl⟩
      rw [← hsz, List.take_length]
      rfl

theorem sums_crc {w : World} (hT : CrcTab w) (s : ByteArray) (hn : s.size ≤ 140737488351232) :
    Calls Tryd.prog 134 #[.string s] w (Same (.int .u32 (ru32 (crc s.data.toList))) w) := by
  have h0 := sums_crcMore hT 0#32 s hn
  go_enter Tryd.func134, Tryd.ntmps134
  go_wp2_with (go_at_call 133; refine (sums_crcMore hT 0#32 s hn).mono ?_; rintro e w' ⟨rfl, rfl⟩)
  go_ret
  exact ⟨rfl, rfl⟩

theorem u32_shrk (x : BitVec 32) (k : Nat) : ru32 x / 2 ^ k = ru32 (x >>> k) := by
  unfold ru32
  rw [BitVec.toNat_ushiftRight, Nat.shiftRight_eq_div_pow]
  simp
set_option maxHeartbeats 3200000 in
theorem ref1_taken {w : World} (r : BitVec 32) (s : ByteArray) (hn : s.size ≤ 140737488351232) :
    Calls Tryd.prog 144 #[.int .u32 (ru32 r), .string s] w (Same (.int .u32 (ru32 (crcRun r s.data.toList))) w) := by
  have hsz : s.data.toList.length = s.size := rfl
  go_enter Tryd.func144, Tryd.ntmps144
  go_wp2
  go_loopw [0, 5] (fun r' i wr => ∃ k : Nat, k ≤ s.size ∧ i = .int .i64 k ∧ r' = .int .u32 (ru32 (crcRun r (s.data.toList.take k))) ∧ wr = w) (fun _ i _ => s.size - (intOf i).toNat)
  case atStart => exact ⟨0, by omega, rfl, rfl, rfl⟩
  case round =>
    obtain ⟨k, hk, rfl, rfl, rfl⟩ := hrel
    by_cases hlt : k < s.size
    · go_wp2
      go_loopw [0, 7, 8, 9] (fun r' j l b wx => ∃ m : Nat, m ≤ 8 ∧ j = .int .i64 m ∧ r' = .int .u32 (ru32 (crcBits (b32 s[k]) m (crcRun r (s.data.toList.take k)))) ∧ wx = wr) (fun _ j _ _ _ => 8 - (intOf j).toNat)
      case atStart => exact ⟨0, by omega, rfl, rfl, rfl⟩
      case round =>
        obtain ⟨m, hm, rfl, rfl, rfl⟩ := hrel
        by_cases hm8 : m < 8
        · go_wp2
          · have ht : (ru32 (crcBits (b32 s[k]) m (crcRun r (List.take k s.data.toList)) &&& 1#32) != bits BinOp.and IntKind.u32 (ru32 (b32 s[k]) / 2 ^ m) 1) = true := by assumption
            rw [u32_shrk, u32_and1, bne_iff_ne] at ht
            refine ⟨⟨m + 1, by omega, by first | rfl | trivial, ?_, by first | rfl | trivial⟩, by simp [intOf]; omega⟩
            show _ = Value.int IntKind.u32 (ru32 (crcBit (b32 s[k]) m (crcBits (b32 s[k]) m (crcRun r (List.take k s.data.toList)))))
            unfold crcBit
            rw [if_pos (fun e => ht (congrArg ru32 e))]
          · have ht : (ru32 (crcBits (b32 s[k]) m (crcRun r (List.take k s.data.toList)) &&& 1#32) != bits BinOp.and IntKind.u32 (ru32 (b32 s[k]) / 2 ^ m) 1) = false := by assumption
            rw [u32_shrk, u32_and1, bne_eq_false_iff_eq] at ht
            refine ⟨⟨m + 1, by omega, by first | rfl | trivial, ?_, by first | rfl | trivial⟩, by simp [intOf]; omega⟩
            show _ = Value.int IntKind.u32 (ru32 (crcBit (b32 s[k]) m (crcBits (b32 s[k]) m (crcRun r (List.take k s.data.toList)))))
            unfold crcBit
            rw [if_neg (fun e => e (u32_inj ht))]
        · obtain rfl : m = 8 := by omega
          go_wp2
          refine ⟨⟨k + 1, by omega, by first | rfl | trivial, ?_, by first | rfl | trivial⟩, by simp [intOf]; omega⟩
          rw [take_snoc s.data.toList k hlt, crcRun_snoc, ← crcBits_byte]
          rfl
    · obtain rfl : k = s.size := by omega
      go_wp2
      go_ret
      refine ⟨?_, rfl⟩
      rw [← hsz, List.take_length]
      rfl

theorem ru32_ones : ru32 (~~~ 0#32) = 4294967295 := by decide
theorem ref1_crc {w : World} (s : ByteArray) (hn : s.size ≤ 140737488351232) :
    Calls Tryd.prog 135 #[.string s] w (Same (.int .u32 (ru32 (crc s.data.toList))) w) := by
  have h := ref1_taken (w := w) (~~~ 0#32) s hn
  rw [ru32_ones] at h
  have H := Hid.mk' h
  clear h
  go_enter Tryd.func135, Tryd.ntmps135
  go_wp2_with (go_at_call 144; refine H.out.mono ?_; rintro e w' ⟨rfl, rfl⟩)
  go_ret
  exact ⟨rfl, rfl⟩
end
end Go.Proofs.YtjhlelcopofkkaaDoor

/-! Wal -/
namespace Go.Proofs.YtjhlelcopofkkaaDoor
open Go.RowKit

/-- The four bytes of a number as values, the highest first. -/
def be4 (n : Int) : List Value := [.int .u8 (n / 16777216), .int .u8 (n / 65536 % 256), .int .u8 (n / 256 % 256), .int .u8 (n % 256)]
def put4 (w : World) (b o : Nat) (n : Int) : World :=
  (((w.setCell ⟨b, o, none⟩ (.int .u8 (n / 16777216))).setCell ⟨b, o + 1, none⟩ (.int .u8 (n / 65536 % 256))).setCell ⟨b, o + 2, none⟩ (.int .u8 (n / 256 % 256))).setCell ⟨b, o + 3, none⟩ (.int .u8 (n % 256))

/-- May a payload have so many bytes? -/
def mayB (n : Int) : Bool := decide (1 ≤ n ∧ n ≤ 8192)
set_option maxHeartbeats 1600000 in
theorem wal_mayBe {w : World} (n : Int) : Calls Tryd.prog 87 #[.int .i64 n] w (Same (.bool (mayB n)) w) := by
  by_cases h1 : 1 ≤ n
  · by_cases h2 : n ≤ 8192
    · have H := Hid.mk' (show mayB n = true from decide_eq_true ⟨h1, h2⟩)
      go_enter Tryd.func87, Tryd.ntmps87
      go_wp2
      go_ret
      exact ⟨congrArg _ (ret_bool H.out.symm), rfl⟩
    · have H := Hid.mk' (show mayB n = false from decide_eq_false fun h => h2 h.2)
      go_enter Tryd.func87, Tryd.ntmps87
      go_wp2
      go_ret
      exact ⟨congrArg _ (ret_bool H.out.symm), rfl⟩
  · have H := Hid.mk' (show mayB n = false from decide_eq_false fun h => h1 h.1)
    go_enter Tryd.func87, Tryd.ntmps87
    go_wp2
    go_ret
    exact ⟨congrArg _ (ret_bool H.out.symm), rfl⟩

set_option maxHeartbeats 1600000 in
theorem wal_put32 {w : World} (b o l c : Nat) (n : Int) (hn : 0 ≤ n) (hn' : n < 4294967296) (hl : 4 ≤ l)
    (v0 v1 v2 v3 : Value) (h0 : w.cell? ⟨b, o, none⟩ = some v0) (h1 : w.cell? ⟨b, o + 1, none⟩ = some v1) (h2 : w.cell? ⟨b, o + 2, none⟩ = some v2) (h3 : w.cell? ⟨b, o + 3, none⟩ = some v3)
    (f0 : w.frozen? ⟨b, o, none⟩ = false) (f1 : w.frozen? ⟨b, o + 1, none⟩ = false) (f2 : w.frozen? ⟨b, o + 2, none⟩ = false) (f3 : w.frozen? ⟨b, o + 3, none⟩ = false) :
    Calls Tryd.prog 88 #[.slice (some ⟨b, o, none⟩) l c, .int .u32 n] w (Same (.tuple #[]) (put4 w b o n)) := by
  go_enter Tryd.func88, Tryd.ntmps88
  go_wp2
  go_end0
  exact ⟨rfl, rfl⟩

theorem or_join (i a b : Nat) (hb : b < 2 ^ i) (h : 2 ^ i * a + b < 2 ^ 32) : bits .or .u32 ((2 ^ i * a : Nat) : Int) (b : Int) = ((2 ^ i * a + b : Nat) : Int) := by
  simp only [bits]
  show IntKind.u32.wrap ((BitVec.ofInt 32 ((2 ^ i * a : Nat) : Int) ||| BitVec.ofInt 32 (b : Int)).toNat : Int) = _
  rw [BitVec.ofInt_natCast, BitVec.ofInt_natCast, BitVec.toNat_or, BitVec.toNat_ofNat, BitVec.toNat_ofNat, Nat.mod_eq_of_lt (by omega), Nat.mod_eq_of_lt (by omega), ← Nat.two_pow_add_eq_or_of_lt hb, IntKind.wrap_u32]
  omega
theorem get4_join (b0 b1 b2 b3 : UInt8) :
    bits .or .u32 (bits .or .u32 (bits .or .u32 ((b0.toNat : Int) % 4294967296 * 16777216 % 4294967296) ((b1.toNat : Int) % 4294967296 * 65536 % 4294967296)) ((b2.toNat : Int) % 4294967296 * 256 % 4294967296)) ((b3.toNat : Int) % 4294967296)
      = (b0.toNat : Int) * 16777216 + b1.toNat * 65536 + b2.toNat * 256 + b3.toNat := by
  have h0 := b0.toNat_lt
  have h1 := b1.toNat_lt
  have h2 := b2.toNat_lt
  have h3 := b3.toNat_lt
  have e1 := or_join 24 b0.toNat (b1.toNat * 65536) (by omega) (by omega)
  have e2 := or_join 16 (b0.toNat * 256 + b1.toNat) (b2.toNat * 256) (by omega) (by omega)
  have e3 := or_join 8 (b0.toNat * 65536 + b1.toNat * 256 + b2.toNat) b3.toNat (by omega) (by omega)
  rw [show (b0.toNat : Int) % 4294967296 * 16777216 % 4294967296 = ((2 ^ 24 * b0.toNat : Nat) : Int) by omega, show (b1.toNat : Int) % 4294967296 * 65536 % 4294967296 = ((b1.toNat * 65536 : Nat) : Int) by omega, e1,
    show ((2 ^ 24 * b0.toNat + b1.toNat * 65536 : Nat) : Int) = ((2 ^ 16 * (b0.toNat * 256 + b1.toNat) : Nat) : Int) by omega, show (b2.toNat : Int) % 4294967296 * 256 % 4294967296 = ((b2.toNat * 256 : Nat) : Int) by omega, e2,
    show ((2 ^ 16 * (b0.toNat * 256 + b1.toNat) + b2.toNat * 256 : Nat) : Int) = ((2 ^ 8 * (b0.toNat * 65536 + b1.toNat * 256 + b2.toNat) : Nat) : Int) by omega, show (b3.toNat : Int) % 4294967296 = (b3.toNat : Int) by omega, e3]
  omega
set_option maxHeartbeats 1600000 in
theorem wal_get32 {w : World} (b o l c : Nat) (b0 b1 b2 b3 : UInt8) (hl : 4 ≤ l)
    (h0 : w.cell? ⟨b, o, none⟩ = some (bv b0)) (h1 : w.cell? ⟨b, o + 1, none⟩ = some (bv b1)) (h2 : w.cell? ⟨b, o + 2, none⟩ = some (bv b2)) (h3 : w.cell? ⟨b, o + 3, none⟩ = some (bv b3)) :
    Calls Tryd.prog 137 #[.slice (some ⟨b, o, none⟩) l c] w (Drew (.int .u32 ((b0.toNat : Int) * 16777216 + b1.toNat * 65536 + b2.toNat * 256 + b3.toNat)) w) := by
  unfold bv at h0 h1 h2 h3
  go_enter Tryd.func137, Tryd.ntmps137
  go_wp2
  go_quiet (fail)
  go_wp2
  go_ret
  exact ⟨congrArg _ (ret_int (get4_join b0 b1 b2 b3)), _, rfl⟩

theorem put4_put {cs : List Value} {o : Nat} (h : o + 4 ≤ cs.length) (v0 v1 v2 v3 : Value) : (((cs.set o v0).set (o + 1) v1).set (o + 2) v2).set (o + 3) v3 = put cs o [v0, v1, v2, v3] := by
  apply List.ext_getElem?
  intro i
  simp only [put, List.length_cons, List.length_nil]
  by_cases h1 : i < o
  · rw [List.getElem?_append_left (by simp; omega), List.getElem?_take_of_lt h1]
    simp only [List.getElem?_set]
    rw [if_neg (by omega), if_neg (by omega), if_neg (by omega), if_neg (by omega)]
  · rw [List.getElem?_append_right (by simp; omega), List.length_take, Nat.min_eq_left (by omega)]
    by_cases h2 : i < o + 4
    · obtain rfl | rfl | rfl | rfl : i = o ∨ i = o + 1 ∨ i = o + 2 ∨ i = o + 3 := by omega
      all_goals
        simp only [List.getElem?_set, List.length_set]
        simp
        try omega
    · rw [List.getElem?_append_right (by simp; omega), List.getElem?_drop]
      simp only [List.getElem?_set, List.length_cons, List.length_nil]
      rw [if_neg (by omega), if_neg (by omega), if_neg (by omega), if_neg (by omega)]
      congr 1
      omega
theorem wal_put32_sat {w0 w : World} {F : HP} {b : Nat} {cs : List Value} {t : TypeId} (hs : Sat w0 w (F * blk b cs t)) (o l c : Nat) (n : Int) (hn : 0 ≤ n) (hn' : n < 4294967296) (hl : 4 ≤ l) (ho : o + 4 ≤ cs.length) :
    Calls Tryd.prog 88 #[.slice (some ⟨b, o, none⟩) l c, .int .u32 n] w (Ret fun v w' => v = .tuple #[] ∧ Sat w0 w' (F * blk b (put cs o (be4 n)) t)) := by
  refine (wal_put32 b o l c n hn hn' hl (cs[o]'(by omega)) (cs[o + 1]'(by omega)) (cs[o + 2]'(by omega)) (cs[o + 3]'(by omega)) (hs.cell (by simp)) (hs.cell (by simp)) (hs.cell (by simp)) (hs.cell (by simp)) (hs.free _) (hs.free _) (hs.free _) (hs.free _)).mono ?_
  rintro e w' ⟨rfl, rfl⟩
  refine Ret.mk ⟨rfl, ?_⟩
  unfold be4
  rw [← put4_put ho]
  exact (((hs.store _ _).store _ _).store _ _).store _ _

/-- Bytes as a text. -/
def bs (xs : List UInt8) : ByteArray := ⟨xs.toArray⟩
theorem bs_list (xs : List UInt8) : (bs xs).data.toList = xs := by simp [bs]
theorem bs_size (xs : List UInt8) : (bs xs).size = xs.length := by simp [bs, ByteArray.size]
theorem conv_string {w : World} {ao : Option Addr} {xs : List UInt8} (hr : Rd w ao (bvs xs)) (c : Nat) : (convert 22 9 (.slice ao xs.length c)).run Tryd.prog w = .ok (.string (bs xs)) w := by
  rcases hr with h | ⟨b, o, rfl, hc⟩
  · have : xs = [] := List.map_eq_nil_iff.1 h
    subst this
    cases ao with
    | none => exact run_convert_bytes_nil w _ _ Tryd.underlying22 Tryd.underlying5 _ _ _ Tryd.underlying9
    | some a => exact run_convert_bytes_back w _ _ _ a c [] Tryd.underlying22 Tryd.underlying5 Tryd.underlying9 (fun j hj => by simp at hj)
  · exact run_convert_bytes_back w _ _ _ ⟨b, o, none⟩ c xs Tryd.underlying22 Tryd.underlying5 Tryd.underlying9 (fun j hj => by rw [Addr.add_lit]; exact hc j _ (bvs_get hj))

set_option maxHeartbeats 1600000 in
theorem wal_sum {w : World} (hT : CrcTab w) (xs ys : List UInt8) (ao bo : Option Addr) (c d : Nat) (hr : Rd w ao (bvs xs)) (hq : Rd w bo (bvs ys)) (hn : xs.length ≤ 140737488351232) (hm : ys.length ≤ 140737488351232) :
    Calls Tryd.prog 89 #[.slice ao xs.length c, .slice bo ys.length d] w (Drew (.int .u32 (ru32 (crc (xs ++ ys)))) w) := by
  have c1 : ∀ n, (convert 22 9 (.slice ao xs.length c)).run Tryd.prog (w.drewN n) = .ok (.string (bs xs)) (w.drewN n) := fun n => conv_string hr.drewN c
  have c2 : ∀ n, (convert 22 9 (.slice bo ys.length d)).run Tryd.prog (w.drewN n) = .ok (.string (bs ys)) (w.drewN n) := fun n => conv_string hq.drewN d
  have HT := Hid.mk' (show ∀ n, CrcTab (w.drewN n) from fun n => hT.mono (below_drewN (Below.refl _ _) n))
  have H1 := Hid.mk' (show (bs xs).size ≤ 140737488351232 by rw [bs_size]; exact hn)
  have H2 := Hid.mk' (show (bs ys).size ≤ 140737488351232 by rw [bs_size]; exact hm)
  have HF := Hid.mk' (show crcMore (crc (bs xs).data.toList) (bs ys).data.toList = crc (xs ++ ys) by rw [bs_list, bs_list]; exact crcMore_append _ _ _)
  go_enter Tryd.func89, Tryd.ntmps89
  go_wp2
  go_quiet (first | (go_at_call 134; exact Same.quiet (sums_crc (HT.out _) _ H1.out)) | (go_at_call 133; exact Same.quiet (sums_crcMore (HT.out _) _ _ H2.out)))
  go_wp2
  go_ret
  exact ⟨congrArg _ (congrArg _ (congrArg ru32 HF.out)), _, rfl⟩

/-- The four bytes of a number, the highest first. -/
def num4 (n : Nat) : List UInt8 := [UInt8.ofNat (n / 16777216), UInt8.ofNat (n / 65536), UInt8.ofNat (n / 256), UInt8.ofNat n]
theorem num4_length (n : Nat) : (num4 n).length = 4 := rfl
theorem be4_num4 (n : Nat) (h : n < 4294967296) : be4 (n : Int) = bvs (num4 n) := by
  simp only [be4, bvs, num4, List.map_cons, List.map_nil, bv, UInt8.toNat_ofNat']
  have e1 : (n : Int) / 16777216 = ((n / 16777216 % 2 ^ 8 : Nat) : Int) := by omega
  have e2 : (n : Int) / 65536 % 256 = ((n / 65536 % 2 ^ 8 : Nat) : Int) := by omega
  have e3 : (n : Int) / 256 % 256 = ((n / 256 % 2 ^ 8 : Nat) : Int) := by omega
  have e4 : (n : Int) % 256 = ((n % 2 ^ 8 : Nat) : Int) := by omega
  rw [e1, e2, e3, e4]
/-- The frame of a payload. -/
def wframe (p : List UInt8) : List UInt8 := num4 p.length ++ num4 (crc (num4 p.length ++ p)).toNat ++ p
theorem wframe_length (p : List UInt8) : (wframe p).length = 8 + p.length := by simp [wframe, num4_length]; omega
theorem ru32_nat (x : BitVec 32) : ru32 x = (x.toNat : Int) := rfl

theorem frame_put (xs : List UInt8) : put (put (List.replicate (8 + xs.length) (Value.int IntKind.u8 0)) 0 (bvs (num4 xs.length ++ num4 (crc (num4 xs.length ++ xs)).toNat))) 8 (bvs xs) = bvs (wframe xs) := by
  generalize hH : num4 xs.length ++ num4 (crc (num4 xs.length ++ xs)).toNat = H
  have hl : (bvs H).length = 8 := by rw [bvs_length, ← hH]; rfl
  have hlx := bvs_length xs
  simp only [put, List.take_zero, List.nil_append, Nat.zero_add, hl, hlx]
  rw [List.drop_replicate, Nat.add_sub_cancel_left, List.take_left' hl, List.drop_eq_nil_of_le (by simp only [List.length_append, List.length_replicate]; omega), List.append_nil, ← bvs_append]
  unfold wframe
  rw [hH]
set_option maxRecDepth 20000 in
set_option maxHeartbeats 3200000 in
theorem wal_frame {w : World} (hT : CrcTab w) (xs : List UInt8) (ao : Option Addr) (c : Nat) (hr : Rd w ao (bvs xs)) (h1 : 1 ≤ xs.length) (h2 : xs.length ≤ 8192) :
    Calls Tryd.prog 23 #[.slice ao xs.length c] w (Ret fun v w' => ∃ u, v = .tuple #[u, .nilIface] ∧ Sat w w' (vec 5 1 u (8 + xs.length) (bvs (wframe xs)))) := by
  have hmay : mayB (xs.length : Int) = true := decide_eq_true ⟨by omega, by omega⟩
  obtain ⟨b, of, rfl, hcells⟩ := hr.addr (by intro e; have := bvs_length xs; rw [e] at this; simp at this; omega)
  have hne : ¬ xs = [] := by intro e; rw [e] at h1; simp at h1
  have HT := Hid.mk' hT
  have HR := Hid.mk' hr
  clear hcells hT hr
  go_enter Tryd.func23, Tryd.ntmps23
  go_wp2_with (go_at_call 87; refine (wal_mayBe _).mono ?_; rintro e w' ⟨rfl, rfl⟩; rw [hmay])
  have hs1 := (Sat.refl w).new #[.int .u8 0, .int .u8 0, .int .u8 0, .int .u8 0, .int .u8 0, .int .u8 0, .int .u8 0, .int .u8 0] 154
  refine (wal_put32_sat hs1 0 4 8 (xs.length : Int) (by omega) (by omega) (by omega) (by simp)).mono ?_
  rintro e w1 ⟨v, rfl, rfl, hs2⟩
  clear hs1
  have hl4 : (bvs (num4 xs.length)).length = 4 := by rw [bvs_length]; rfl
  rw [be4_num4 _ (by omega)] at hs2
  have e2 : put [.int .u8 0, .int .u8 0, .int .u8 0, .int .u8 0, .int .u8 0, .int .u8 0, .int .u8 0, .int .u8 0] 0 (bvs (num4 xs.length)) = bvs (num4 xs.length) ++ bvs [0, 0, 0, 0] := by
    simp only [put, List.take_zero, List.nil_append, hl4]
    rfl
  have hs2' : Sat w w1 (1 * blk w.heap.size (bvs (num4 xs.length) ++ bvs [0, 0, 0, 0]) 154) := by rw [← e2]; exact hs2
  have hrd : Rd w1 (some ⟨w.heap.size, 0, none⟩) (bvs (num4 xs.length)) := (Rd.of_heap hs2'.heap).left
  have hlen2 : 4 + 4 ≤ (bvs (num4 xs.length) ++ bvs [0, 0, 0, 0]).length := by rw [List.length_append, hl4]; decide
  clear hs2 e2 hl4
  go_wp2_with fail
  go_region_held3 (fun _ => True) (trivial) (first | (go_at_call 89; go_loud (refine (wal_sum (by exact HT.out.mono hs2'.drew.below) (num4 xs.length) xs _ _ _ _ (by exact hrd.drew) (by exact HR.out.mono hs2'.drew.below) (by rw [num4_length]; omega) (by omega)).mono ?_); rintro e w' ⟨rfl, n, rfl⟩) | (go_at_call 88; go_loud (refine (wal_put32_sat (by repeat (first | exact hs2' | apply Sat.drewN | apply Sat.drew)) 4 4 4 _ (u32_nonneg _) (u32_lt _) (by omega) hlen2).mono ?_); rintro e w2 ⟨v, rfl, rfl, hs3⟩))
  have hs4 : Sat w w2 (1 * blk w.heap.size (bvs (num4 xs.length ++ num4 (crc (num4 xs.length ++ xs)).toNat)) 154) := by
    have e3 : put (bvs (num4 xs.length) ++ bvs [0, 0, 0, 0]) 4 (be4 (ru32 (crc (num4 xs.length ++ xs)))) = bvs (num4 xs.length ++ num4 (crc (num4 xs.length ++ xs)).toNat) := by
      rw [ru32_nat, be4_num4 _ (crc (num4 xs.length ++ xs)).isLt, bvs_append]
      rfl
    rw [← e3]; exact hs3
  clear hs3 hs2' hrd hlen2
  have HL8 := Hid.mk' (show (bvs (num4 xs.length ++ num4 (crc (num4 xs.length ++ xs)).toNat)).length = 8 by rw [bvs_length]; rfl)
  have HF := Hid.mk' (frame_put xs)
  go_wp2_with (first | (at_make; refine sl_make rfl _ _ 22 rfl 5 (.int .u8 0) 1 rfl Tryd.underlying22 info_u8 .i64 .i64 _ _ (8 + xs.length) rfl rfl (by omega) (by omega) (by omega) (by simp only [maxLen]; omega) (by exact hs4) ?_; intro w3 hs5) | ((with_reducible refine gate_op (.call { callee := .builtin .copy, args := #[.tmp 25, .tmp 26], argTypes := #[22, 22] }) rfl ?_); go_loud (refine sl_copy rfl _ _ _ _ rfl 5 Tryd.underlying22 size_u8 _ _ _ _ _ _ rfl rfl _ 0 _ _ (by exact hs5) (bvs (num4 xs.length ++ num4 (crc (num4 xs.length ++ xs)).toNat)) (by rw [HL8.out]; exact (Nat.min_eq_left (by omega)).symm) (fun _ => rfl) (by exact Rd.of_heap hs5.swap.heap) (by rw [HL8.out, List.length_replicate]; omega) (bvs_one _) ?_); intro w4 hs6) | ((with_reducible refine gate_op (.call { callee := .builtin .copy, args := #[.tmp 29, .tmp 30], argTypes := #[22, 22] }) rfl ?_); go_loud (refine sl_copy rfl _ _ _ _ rfl 5 Tryd.underlying22 size_u8 _ _ _ _ _ _ rfl rfl _ 8 _ _ (by exact hs6) (bvs xs) (by rw [bvs_length]; exact (Nat.min_eq_left (by omega)).symm) (fun _ => rfl) (by exact HR.out.mono hs6.below) (by rw [bvs_length, put_length, List.length_replicate]; omega; rw [HL8.out, List.length_replicate]; omega) (bvs_one _) ?_); intro w5 hs7))
  go_ret2
  refine Ret.mk ⟨_, rfl, ?_⟩
  have hf := HF.out
  rw [← hf]
  have h8 := hs7.swap.drop.as_vec (n := 8 + xs.length) (by rw [hf, bvs_length, wframe_length, Nat.mul_one]) (by simp only [maxLen]; omega)
  rw [HP.one_mul] at h8
  exact h8

set_option maxHeartbeats 1600000 in
theorem wal_frame_no {w : World} {E : Nat → Addr} (c1 : w.cell? ⟨gErr 1, 0, none⟩ = some (errv E 1)) (xs : List UInt8) (ao : Option Addr) (c : Nat) (h : ¬ (1 ≤ xs.length ∧ xs.length ≤ 8192)) :
    Calls Tryd.prog 23 #[.slice ao xs.length c] w (Drew (.tuple #[.slice none 0 0, errv E 1]) w) := by
  have hmay : mayB (xs.length : Int) = false := decide_eq_false (fun e => h ⟨by omega, by omega⟩)
  simp only [gErr, errv] at c1
  have HN := Hid.mk' h
  clear h
  go_enter Tryd.func23, Tryd.ntmps23
  go_wp2_with (go_at_call 87; refine (wal_mayBe _).mono ?_; rintro e w' ⟨rfl, rfl⟩; rw [hmay])
  go_quiet (fail)
  go_wp2
  go_ret2
  exact ⟨rfl, _, rfl⟩
end Go.Proofs.YtjhlelcopofkkaaDoor

/-! Ref13 -/
namespace Go.Proofs.YtjhlelcopofkkaaDoor
open Go.RowKit

theorem u32_and255 (a : Int) (h0 : 0 ≤ a) (h1 : a < 4294967296) : bits .and .u32 a 255 = a % 256 :=
  bits_mask .u32 32 (by decide) (fun n h h' => by rw [IntKind.wrap_u32]; omega) 8 (by decide) a h0 h1

set_option maxHeartbeats 1600000 in
theorem ref13_four {w0 w : World} {F : HP} (v : Value) (m : Nat) (cs : List Value) (hs : Sat w0 w (F * vec 5 1 v m cs)) (hm : m ≤ 140737488351232) (n : Int) (hn : 0 ≤ n) (hn' : n < 4294967296) :
    Calls Tryd.prog 90 #[v, .int .u32 n] w (Ret fun v' w' => Sat w0 w' (F * vec 5 1 v' (m + 4) (cs ++ be4 n))) := by
  have a1 := u32_and255 (n / 65536) (by omega) (by omega)
  have a2 := u32_and255 (n / 256) (by omega) (by omega)
  have a3 := u32_and255 n (by omega) (by omega)
  go_enter Tryd.func90, Tryd.ntmps90
  go_wp2_with (at_builtin; go_loud (refine sl_append rfl _ _ 22 rfl 5 (.int .u8 0) 1 1 Tryd.underlying22 info_u8 rfl (by decide) _ m _ rfl (by exact hs.skip) _ 4 _ (be4 n) rfl rfl (by exact Rd.made _ _ _ _) (by intro u hu; simp [be4] at hu; rcases hu with rfl | rfl | rfl | rfl <;> rfl) (by simp only [maxLen]; omega) (by omega) ?_; intro v' w' hS'))
  go_ret
  exact Ret.mk hS'

theorem conv_num4 {w : World} {xs : List UInt8} {k : Nat} {ao : Option Addr} (hr : Rd w ao (bvs (num4 k) ++ bvs xs)) (c : Nat) :
    (convert 22 9 (.slice ao (4 + xs.length) c)).run Tryd.prog w = .ok (.string (bs (num4 k ++ xs))) w := by
  rw [← bvs_append] at hr
  have := conv_string hr c
  rw [List.length_append, num4_length] at this
  exact this
set_option maxRecDepth 20000 in
set_option maxHeartbeats 1600000 in
theorem ref13_sum {w : World} (xs : List UInt8) (ao : Option Addr) (c : Nat) (hr : Rd w ao (bvs xs)) (hnone : ao = none → xs.length = 0 ∧ c = 0) (hn : xs.length < 2147483648) :
    Calls Tryd.prog 91 #[.slice ao xs.length c] w (Ret fun v w' => v = .int .u32 (ru32 (crc (num4 xs.length ++ xs))) ∧ Sat w w' 1) := by
  have HR := Hid.mk' hr
  have HB := Hid.mk' (be4_num4 xs.length (by omega))
  have HNO := Hid.mk' hnone
  clear hr hnone
  go_enter Tryd.func91, Tryd.ntmps91
  go_wp2_with fail
  refine (ref13_four (.slice none 0 0) 0 [] ((Sat.refl w).vec_nil _ _) (by omega) (xs.length : Int) (by omega) (by omega)).mono ?_
  rintro e w1 ⟨v, rfl, hs1⟩
  rw [HB.out, List.nil_append] at hs1
  have HL := Hid.mk' (bvs_length xs)
  go_wp2_with (at_builtin; refine sl_append_any rfl _ _ 22 rfl 5 (.int .u8 0) 1 1 Tryd.underlying22 info_u8 rfl (by decide) _ 4 _ rfl (by exact hs1) _ xs.length c (bvs xs) rfl HNO.out (by rw [HL.out, Nat.mul_one]) (by exact HR.out.mono hs1.below) (bvs_one _) (by simp only [maxLen]; omega) (by omega) ?_; intro v2 w2 hs2; obtain ⟨ao2, cap2, rfl, hle2, hrd2, hno2⟩ := hs2.vec_rd; clear hno2 hle2; have cv := conv_num4 hrd2 cap2)
  go_wp2_with fail
  refine (ref1_crc (bs (num4 xs.length ++ xs)) (by rw [bs_size, List.length_append, num4_length]; omega)).mono ?_
  rintro e w' ⟨rfl, rfl⟩
  go_wp2
  go_ret
  refine Ret.mk ⟨?_, hs2.drop⟩
  rw [bs_list]
  rfl

set_option maxRecDepth 20000 in
set_option maxHeartbeats 1600000 in
theorem ref13_frame {w : World} (xs : List UInt8) (ao : Option Addr) (c : Nat) (hr : Rd w ao (bvs xs)) (hnone : ao = none → xs.length = 0 ∧ c = 0) (h1 : 1 ≤ xs.length) (h2 : xs.length ≤ 8192) :
    Calls Tryd.prog 24 #[.slice ao xs.length c] w (Ret fun v w' => ∃ u, v = .tuple #[u, .int .i64 0] ∧ Sat w w' (vec 5 1 u (8 + xs.length) (bvs (wframe xs)))) := by
  have h0 : ((xs.length : Int) == 0) = false := beq_eq_false_iff_ne.2 (by omega)
  have HR := Hid.mk' hr
  have HB := Hid.mk' (be4_num4 xs.length (by omega))
  have HB2 := Hid.mk' (be4_num4 (crc (num4 xs.length ++ xs)).toNat (crc (num4 xs.length ++ xs)).isLt)
  have HNO := Hid.mk' hnone
  have HL := Hid.mk' (bvs_length xs)
  have HF := Hid.mk' (show bvs (num4 xs.length) ++ bvs (num4 (crc (num4 xs.length ++ xs)).toNat) ++ bvs xs = bvs (wframe xs) by rw [← bvs_append, ← bvs_append]; rfl)
  clear hr hnone
  go_enter Tryd.func24, Tryd.ntmps24
  go_wp2_with fail
  refine (ref13_four (.slice none 0 0) 0 [] ((Sat.refl w).vec_nil _ _) (by omega) (xs.length : Int) (by omega) (by omega)).mono ?_
  rintro e w1 ⟨v, rfl, hs1⟩
  rw [HB.out, List.nil_append] at hs1
  go_wp2_with fail
  refine (ref13_sum xs ao c (HR.out.mono hs1.below) HNO.out (by omega)).mono ?_
  rintro e w2 ⟨v2, rfl, rfl, hsx⟩
  have hs2 := hs1.then1 hsx
  clear hsx hs1
  go_wp2_with fail
  refine (ref13_four v 4 _ hs2 (by omega) _ (u32_nonneg _) (u32_lt _)).mono ?_
  rintro e w3 ⟨v3, rfl, hs3⟩
  rw [ru32_nat, HB2.out] at hs3
  clear hs2
  go_wp2_with (at_builtin; refine sl_append_any rfl _ _ 22 rfl 5 (.int .u8 0) 1 1 Tryd.underlying22 info_u8 rfl (by decide) _ 8 _ rfl (by exact hs3) _ xs.length c (bvs xs) rfl HNO.out (by rw [HL.out, Nat.mul_one]) (by exact HR.out.mono hs3.below) (bvs_one _) (by simp only [maxLen]; omega) (by omega) ?_; intro v4 w4 hs4)
  go_ret2
  rw [HP.one_mul, HF.out] at hs4
  exact Ret.mk ⟨_, rfl, hs4⟩

theorem ref13_frame_no {w : World} (xs : List UInt8) (ao : Option Addr) (c : Nat) (h : ¬ (1 ≤ xs.length ∧ xs.length ≤ 8192)) :
    Calls Tryd.prog 24 #[.slice ao xs.length c] w (Same (.tuple #[.slice none 0 0, .int .i64 1]) w) := by
  by_cases h1 : xs.length = 0
  · have h0 : ((xs.length : Int) == 0) = true := by rw [h1]; rfl
    have HN := Hid.mk' h
    have H1 := Hid.mk' h1
    clear h h1
    go_enter Tryd.func24, Tryd.ntmps24
    go_wp2_with fail
    go_ret2
    exact ⟨rfl, rfl⟩
  · have h0 : ((xs.length : Int) == 0) = false := beq_eq_false_iff_ne.2 (by omega)
    have hb : 8192 < xs.length := by omega
    clear h
    go_enter Tryd.func24, Tryd.ntmps24
    go_wp2_with fail
    go_ret2
    exact ⟨rfl, rfl⟩
end Go.Proofs.YtjhlelcopofkkaaDoor

/-! Fr -/
namespace Go.Proofs.YtjhlelcopofkkaaDoor
open Go.RowKit

/-- The number in the first four bytes. -/
def be4n : List UInt8 → Nat
  | a :: b :: c :: d :: _ => a.toNat * 16777216 + b.toNat * 65536 + c.toNat * 256 + d.toNat
  | _ => 0
/-- A sound frame stands at the head. -/
def Good (d : List UInt8) : Prop :=
  1 ≤ be4n d ∧ be4n d ≤ 8192 ∧ 8 + be4n d ≤ d.length ∧ (crc (d.take 4 ++ (d.drop 8).take (be4n d))).toNat = be4n (d.drop 4)
instance (d : List UInt8) : Decidable (Good d) := by unfold Good; infer_instance
/-- How long its payload is; 0: none stands there. -/
def snd (d : List UInt8) : Nat := if Good d then be4n d else 0
theorem snd_good {d : List UInt8} (h : Good d) : snd d = be4n d := if_pos h
theorem snd_bad {d : List UInt8} (h : ¬ Good d) : snd d = 0 := if_neg h
theorem snd_ne {d : List UInt8} (h : snd d ≠ 0) : Good d := by
  by_cases g : Good d
  · exact g
  · exact absurd (snd_bad g) h
theorem snd_le {d : List UInt8} (h : snd d ≠ 0) : 1 ≤ snd d ∧ snd d ≤ 8192 ∧ 8 + snd d ≤ d.length := by
  have g := snd_ne h
  rw [snd_good g]
  exact ⟨g.1, g.2.1, g.2.2.1⟩
def frs : Nat → List UInt8 → List (List UInt8)
  | 0, _ => []
  | k + 1, d => if snd d = 0 then [] else (d.drop 8).take (snd d) :: frs k (d.drop (8 + snd d))
theorem frs_enough : ∀ (k j : Nat) (d : List UInt8), d.length ≤ k → d.length ≤ j → frs k d = frs j d := by
  intro k
  induction k with
  | zero =>
    intro j d hk hj
    cases j with
    | zero => rfl
    | succ j =>
      have : snd d = 0 := by
        by_cases e : snd d = 0
        · exact e
        · have := snd_le e
          omega
      simp [frs, this]
  | succ k ih =>
    intro j d hk hj
    cases j with
    | zero =>
      have : snd d = 0 := by
        by_cases e : snd d = 0
        · exact e
        · have := snd_le e
          omega
      simp [frs, this]
    | succ j =>
      simp only [frs]
      by_cases e : snd d = 0
      · rw [if_pos e, if_pos e]
      · rw [if_neg e, if_neg e]
        have := snd_le e
        rw [ih j (d.drop (8 + snd d)) (by rw [List.length_drop]; omega) (by rw [List.length_drop]; omega)]
/-- The payloads of the good head. -/
def frames (d : List UInt8) : List (List UInt8) := frs d.length d
theorem frames_nil {d : List UInt8} (h : snd d = 0) : frames d = [] := by
  unfold frames
  cases d.length with
  | zero => rfl
  | succ k => simp [frs, h]
theorem frames_cons {d : List UInt8} (h : snd d ≠ 0) : frames d = (d.drop 8).take (snd d) :: frames (d.drop (8 + snd d)) := by
  have := snd_le h
  unfold frames
  obtain ⟨k, hk⟩ : ∃ k, d.length = k + 1 := ⟨d.length - 1, by omega⟩
  rw [hk, frs, if_neg h, frs_enough k (d.drop (8 + snd d)).length _ (by rw [List.length_drop]; omega) (Nat.le_refl _)]
theorem snd_short {d : List UInt8} (h : d.length < 8) : snd d = 0 := by
  by_cases e : snd d = 0
  · exact e
  · have := snd_le e
    omega
/-- How many bytes the frames of these payloads take. -/
def size : List (List UInt8) → Nat
  | [] => 0
  | p :: ps => 8 + p.length + size ps
theorem size_append (a b : List (List UInt8)) : size (a ++ b) = size a + size b := by
  induction a with
  | nil => simp [size]
  | cons p a ih => simp only [List.cons_append, size, ih]; omega
theorem size_snoc (a : List (List UInt8)) (p : List UInt8) : size (a ++ [p]) = size a + (8 + p.length) := by
  rw [size_append]
  simp [size]
/-- Where the frames of these payloads end, the first of them beginning at a place. -/
def ends : Nat → List (List UInt8) → List Nat
  | _, [] => []
  | a, p :: ps => (a + 8 + p.length) :: ends (a + 8 + p.length) ps
theorem ends_length (a : Nat) (ps : List (List UInt8)) : (ends a ps).length = ps.length := by
  induction ps generalizing a with
  | nil => rfl
  | cons p ps ih => simp [ends, ih]
theorem ends_get : ∀ (a : Nat) (ps : List (List UInt8)) (k : Nat), k < ps.length → (ends a ps)[k]? = some (a + size (ps.take (k + 1)))
  | a, [], k, h => by simp at h
  | a, p :: ps, 0, h => by simp [ends, size]; omega
  | a, p :: ps, k + 1, h => by
    have := ends_get (a + 8 + p.length) ps k (by simpa using h)
    simp only [ends, List.getElem?_cons_succ, this, List.take_succ_cons, size]
    congr 1
    omega
theorem ends_snoc (a : Nat) (ps : List (List UInt8)) (p : List UInt8) : ends a (ps ++ [p]) = ends a ps ++ [a + size ps + 8 + p.length] := by
  induction ps generalizing a with
  | nil => simp [ends, size]
  | cons q ps ih =>
    simp only [List.cons_append, ends, ih, size]
    congr 3
    omega
theorem size_frs : ∀ (k : Nat) (d : List UInt8), size (frs k d) ≤ d.length := by
  intro k
  induction k with
  | zero => intro d; simp [frs, size]
  | succ k ih =>
    intro d
    simp only [frs]
    by_cases e : snd d = 0
    · simp [e, size]
    · have := snd_le e
      rw [if_neg e]
      have h2 := ih (d.drop (8 + snd d))
      rw [List.length_drop] at h2
      simp only [size, List.length_take, List.length_drop]
      omega
theorem size_frames (d : List UInt8) : size (frames d) ≤ d.length := size_frs _ _
theorem len_le_size (ps : List (List UInt8)) : 8 * ps.length ≤ size ps := by
  induction ps with
  | nil => simp [size]
  | cons p ps ih => simp only [size, List.length_cons]; omega
theorem frames_mem {d : List UInt8} : ∀ p ∈ frames d, 1 ≤ p.length ∧ p.length ≤ 8192 := by
  unfold frames
  generalize d.length = k
  induction k generalizing d with
  | zero => intro p hp; simp [frs] at hp
  | succ k ih =>
    intro p hp
    simp only [frs] at hp
    by_cases e : snd d = 0
    · simp [e] at hp
    · have := snd_le e
      rw [if_neg e] at hp
      rcases List.mem_cons.1 hp with rfl | hp
      · rw [List.length_take, List.length_drop]; omega
      · exact ih p hp
/-- How far a walk over the frames has come. -/
structure Walked (d : List UInt8) (pre : List (List UInt8)) (a : Nat) : Prop where
  at_ : a = size pre
  le : a ≤ d.length
  eq : frames d = pre ++ frames (d.drop a)
theorem Walked.start (d : List UInt8) : Walked d [] 0 := ⟨rfl, Nat.zero_le _, rfl⟩
theorem Walked.next {d : List UInt8} {pre : List (List UInt8)} {a : Nat} (h : Walked d pre a) (hn : snd (d.drop a) ≠ 0) :
    Walked d (pre ++ [(d.drop (a + 8)).take (snd (d.drop a))]) (a + (8 + snd (d.drop a))) := by
  have hl := snd_le hn
  rw [List.length_drop] at hl
  have e1 : (d.drop (a + 8)).take (snd (d.drop a)) = ((d.drop a).drop 8).take (snd (d.drop a)) := by rw [List.drop_drop]
  refine ⟨?_, by omega, ?_⟩
  · rw [size_snoc, ← h.at_, List.length_take, List.length_drop]
    omega
  · rw [h.eq, frames_cons hn, e1, List.drop_drop]
    simp
theorem Walked.done {d : List UInt8} {pre : List (List UInt8)} {a : Nat} (h : Walked d pre a) (hn : snd (d.drop a) = 0) : frames d = pre := by
  rw [h.eq, frames_nil hn, List.append_nil]
theorem Walked.end_ {d : List UInt8} {pre : List (List UInt8)} {a : Nat} (h : Walked d pre a) (hn : d.length ≤ a) : frames d = pre :=
  h.done (snd_short (by rw [List.length_drop]; omega))

/-! Frames that were written are read. -/
theorem num4_take {p : List UInt8} (rest : List UInt8) : be4n (num4 p.length ++ rest) = p.length % 4294967296 := by
  simp only [num4, List.cons_append, List.nil_append, be4n, UInt8.toNat_ofNat']
  omega
theorem be4n_num4 (n : Nat) (h : n < 4294967296) (rest : List UInt8) : be4n (num4 n ++ rest) = n := by
  simp only [num4, List.cons_append, List.nil_append, be4n, UInt8.toNat_ofNat']
  omega
theorem good_wframe {p : List UInt8} (rest : List UInt8) (h1 : 1 ≤ p.length) (h2 : p.length ≤ 8192) : Good (wframe p ++ rest) ∧ be4n (wframe p ++ rest) = p.length := by
  have e1 : be4n (wframe p ++ rest) = p.length := by
    unfold wframe
    rw [List.append_assoc, List.append_assoc, be4n_num4 _ (by omega)]
  have e2 : (wframe p ++ rest).take 4 = num4 p.length := by
    unfold wframe
    rw [List.append_assoc, List.append_assoc]
    exact List.take_left' rfl
  have e3 : (wframe p ++ rest).drop 4 = num4 (crc (num4 p.length ++ p)).toNat ++ (p ++ rest) := by
    unfold wframe
    rw [List.append_assoc, List.append_assoc]
    exact List.drop_left' rfl
  have e4 : (wframe p ++ rest).drop 8 = p ++ rest := by
    unfold wframe
    rw [List.append_assoc]
    exact List.drop_left' rfl
  refine ⟨⟨by omega, by omega, by rw [e1, List.length_append, wframe_length]; omega, ?_⟩, e1⟩
  rw [e1, e2, e3, e4, List.take_left' rfl, be4n_num4 _ (crc (num4 p.length ++ p)).isLt]
theorem frames_wframe {p : List UInt8} (rest : List UInt8) (h1 : 1 ≤ p.length) (h2 : p.length ≤ 8192) : frames (wframe p ++ rest) = p :: frames rest := by
  obtain ⟨hg, he⟩ := good_wframe rest h1 h2
  have hs : snd (wframe p ++ rest) = p.length := (snd_good hg).trans he
  have e4 : (wframe p ++ rest).drop 8 = p ++ rest := by
    unfold wframe
    rw [List.append_assoc]
    exact List.drop_left' rfl
  rw [frames_cons (by omega), hs, e4, List.take_left' rfl]
  congr 2
  exact List.drop_left' (wframe_length p)
/-- What the frames of the good head are made of. -/
theorem good_is_wframe {d : List UInt8} (h : Good d) : d = wframe ((d.drop 8).take (be4n d)) ++ d.drop (8 + be4n d) := by
  obtain ⟨h1, h2, h3, h4⟩ := h
  obtain ⟨a, b, c, e, f, g, i, j, r, rfl⟩ : ∃ a b c e f g i j r, d = a :: b :: c :: e :: f :: g :: i :: j :: r := by
    match d, h3 with
    | a :: b :: c :: e :: f :: g :: i :: j :: r, _ => exact ⟨_, _, _, _, _, _, _, _, _, rfl⟩
    | [], h => simp at h
    | [_], h => simp at h; omega
    | [_, _], h => simp at h; omega
    | [_, _, _], h => simp at h; omega
    | [_, _, _, _], h => simp at h; omega
    | [_, _, _, _, _], h => simp at h; omega
    | [_, _, _, _, _, _], h => simp at h; omega
    | [_, _, _, _, _, _, _], h => simp at h; omega
  have num4_of : ∀ a b c e : UInt8, num4 (a.toNat * 16777216 + b.toNat * 65536 + c.toNat * 256 + e.toNat) = [a, b, c, e] := by
    intro a b c e
    have := a.toNat_lt
    have := b.toNat_lt
    have := c.toNat_lt
    have := e.toNat_lt
    simp only [num4, List.cons.injEq, and_true]
    refine ⟨?_, ?_, ?_, ?_⟩ <;> (apply UInt8.toNat_inj.1; rw [UInt8.toNat_ofNat']; omega)
  have hlen : ((a :: b :: c :: e :: f :: g :: i :: j :: r).drop 8).take (be4n (a :: b :: c :: e :: f :: g :: i :: j :: r)) = r.take (be4n (a :: b :: c :: e :: f :: g :: i :: j :: r)) := rfl
  rw [hlen] at h4 ⊢
  have hl2 : (r.take (be4n (a :: b :: c :: e :: f :: g :: i :: j :: r))).length = be4n (a :: b :: c :: e :: f :: g :: i :: j :: r) := by
    rw [List.length_take]
    simp only [List.length_cons] at h3
    omega
  have hn : num4 (be4n (a :: b :: c :: e :: f :: g :: i :: j :: r)) = [a, b, c, e] := num4_of a b c e
  have h5 : (crc ([a, b, c, e] ++ r.take (be4n (a :: b :: c :: e :: f :: g :: i :: j :: r)))).toNat = be4n (f :: g :: i :: j :: r) := h4
  unfold wframe
  rw [hl2, hn, h5]
  have hm : num4 (be4n (f :: g :: i :: j :: r)) = [f, g, i, j] := num4_of f g i j
  rw [hm, List.append_assoc]
  simp only [List.cons_append, List.nil_append, List.drop_succ_cons, List.cons.injEq, true_and, Nat.add_comm 8]
  exact (List.take_append_drop _ _).symm
theorem frames_short {d : List UInt8} (h : d.length < 8) : frames d = [] := frames_nil (snd_short h)
end Go.Proofs.YtjhlelcopofkkaaDoor

/-! ScanR -/
namespace Go.Proofs.YtjhlelcopofkkaaDoor
open Go.RowKit

theorem Rd.drop {w : World} {b o : Nat} {l : List Value} (h : Rd w (some ⟨b, o, none⟩) l) (k : Nat) : Rd w (some ⟨b, o + k, none⟩) (l.drop k) := by
  rcases h with h | ⟨b', o', e, hc⟩
  · exact Or.inl (by rw [h]; simp)
  · cases e
    exact Or.inr ⟨b, o + k, rfl, fun i u hu => by rw [List.getElem?_drop] at hu; rw [Nat.add_assoc]; exact hc _ u hu⟩
theorem bvs_drop (xs : List UInt8) (k : Nat) : (bvs xs).drop k = bvs (xs.drop k) := by simp [bvs, List.map_drop]
theorem bvs_take (xs : List UInt8) (k : Nat) : (bvs xs).take k = bvs (xs.take k) := by simp [bvs, List.map_take]
theorem Rd.sub {w : World} {b o : Nat} {xs : List UInt8} (h : Rd w (some ⟨b, o, none⟩) (bvs xs)) (k n : Nat) : Rd w (some ⟨b, o + k, none⟩) (bvs ((xs.drop k).take n)) := by
  rw [← bvs_take, ← bvs_drop]
  exact (h.drop k).take n
theorem be4n_get {d : List UInt8} (h : 4 ≤ d.length) : be4n d = d[0].toNat * 16777216 + d[1].toNat * 65536 + d[2].toNat * 256 + d[3].toNat := by
  match d, h with
  | a :: b :: c :: e :: r, _ => rfl
  | [], h => simp at h
  | [_], h => simp at h
  | [_, _], h => simp at h
  | [_, _, _], h => simp at h
theorem be4n_lt (d : List UInt8) : be4n d < 4294967296 := by
  match d with
  | a :: b :: c :: e :: r =>
    have := a.toNat_lt
    have := b.toNat_lt
    have := c.toNat_lt
    have := e.toNat_lt
    simp only [be4n]
    omega
  | [] => simp [be4n]
  | [_] => simp [be4n]
  | [_, _] => simp [be4n]
  | [_, _, _] => simp [be4n]

set_option maxHeartbeats 1600000 in
theorem ref13_told0 {w : World} (b o l c i : Nat) (b0 b1 b2 b3 : UInt8) (hl : i + 4 ≤ l) (hl' : l ≤ 140737488351232)
    (h0 : w.cell? ⟨b, o + i, none⟩ = some (bv b0)) (h1 : w.cell? ⟨b, o + (i + 1), none⟩ = some (bv b1)) (h2 : w.cell? ⟨b, o + (i + 2), none⟩ = some (bv b2)) (h3 : w.cell? ⟨b, o + (i + 3), none⟩ = some (bv b3)) :
    Calls Tryd.prog 136 #[.slice (some ⟨b, o, none⟩) l c, .int .i64 i] w (Drew (.int .i64 ((b0.toNat : Int) * 16777216 + b1.toNat * 65536 + b2.toNat * 256 + b3.toNat)) w) := by
  unfold bv at h0 h1 h2 h3
  have g0 := b0.toNat_lt
  have g1 := b1.toNat_lt
  have g2 := b2.toNat_lt
  have g3 := b3.toNat_lt
  go_enter Tryd.func136, Tryd.ntmps136
  go_wp2
  go_quiet (fail)
  go_wp2
  go_ret
  exact ⟨congrArg _ (ret_int (by omega)), _, rfl⟩
theorem ref13_told {w : World} (b o c i : Nat) (xs : List UInt8) (hr : Rd w (some ⟨b, o, none⟩) (bvs xs)) (hl : i + 4 ≤ xs.length) (hn : xs.length ≤ 140737488351232) :
    Calls Tryd.prog 136 #[.slice (some ⟨b, o, none⟩) xs.length c, .int .i64 i] w (Drew (.int .i64 (be4n (xs.drop i) : Int)) w) := by
  have hc : ∀ k (h : k < xs.length), w.cell? ⟨b, o + k, none⟩ = some (bv xs[k]) := by
    intro k hk
    rcases hr with h | ⟨b', o', e, hc⟩
    · have := bvs_length xs
      rw [h] at this
      simp at this
      omega
    · cases e
      exact hc k _ (bvs_get hk)
  have e := be4n_get (d := xs.drop i) (by rw [List.length_drop]; omega)
  rw [show (xs.drop i)[0]'(by rw [List.length_drop]; omega) = xs[i + 0]'(by omega) from List.getElem_drop, show (xs.drop i)[1]'(by rw [List.length_drop]; omega) = xs[i + 1]'(by omega) from List.getElem_drop,
    show (xs.drop i)[2]'(by rw [List.length_drop]; omega) = xs[i + 2]'(by omega) from List.getElem_drop, show (xs.drop i)[3]'(by rw [List.length_drop]; omega) = xs[i + 3]'(by omega) from List.getElem_drop] at e
  refine (ref13_told0 b o xs.length c i _ _ _ _ hl hn (hc (i + 0) (by omega)) (hc (i + 1) (by omega)) (hc (i + 2) (by omega)) (hc (i + 3) (by omega))).mono ?_
  rintro e' w' ⟨rfl, m, rfl⟩
  exact ⟨congrArg _ (ret_int (by omega)), m, rfl⟩

theorem num4_be4n {d : List UInt8} (h : 4 ≤ d.length) : num4 (be4n d) = d.take 4 := by
  match d, h with
  | a :: b :: c :: e :: r, _ =>
    have := a.toNat_lt
    have := b.toNat_lt
    have := c.toNat_lt
    have := e.toNat_lt
    simp only [be4n, num4, List.take_succ_cons, List.take_zero, List.cons.injEq, and_true]
    refine ⟨?_, ?_, ?_, ?_⟩ <;> (apply UInt8.toNat_inj.1; rw [UInt8.toNat_ofNat']; omega)
  | [], h => simp at h
  | [_], h => simp at h
  | [_, _], h => simp at h
  | [_, _, _], h => simp at h

/-- The length of the frame that stands at the head. -/
def fr8 (d : List UInt8) : Nat := if snd d = 0 then 0 else 8 + snd d
theorem fr8_bad {d : List UInt8} (h : ¬ Good d) : fr8 d = 0 := if_pos (snd_bad h)
theorem fr8_good {d : List UInt8} (h : Good d) : fr8 d = 8 + be4n d := by
  unfold fr8
  rw [snd_good h, if_neg (by have := h.1; omega)]

set_option maxRecDepth 20000 in
set_option maxHeartbeats 3200000 in
theorem ref13_sound_in {w : World} (b o c i l n n4 : Nat) (s : Int) (h8 : i + 8 ≤ l) (q1 : 1 ≤ n) (q2 : n ≤ 8192) (q3 : i + 8 + n ≤ l) (hl : l ≤ 16777216) (hlc : l ≤ c) (s0 : 0 ≤ s) (s1 : s < 4294967296)
    (T1 : Hid (Calls Tryd.prog 136 #[.slice (some ⟨b, o, none⟩) l c, .int .i64 i] w (Drew (.int .i64 n) w)))
    (T2 : Hid (∀ m, Calls Tryd.prog 136 #[.slice (some ⟨b, o, none⟩) l c, .int .i64 ((i : Int) + 4)] (w.drewN m) (Drew (.int .i64 n4) (w.drewN m))))
    (S : Hid (∀ m c', Calls Tryd.prog 91 #[.slice (some ⟨b, o + (i + 8), none⟩) n c'] (w.drewN m) (Ret fun v w' => v = .int .u32 s ∧ Sat (w.drewN m) w' 1))) :
    Calls Tryd.prog 93 #[.slice (some ⟨b, o, none⟩) l c, .int .i64 i] w (Ret fun v w' => v = .int .i64 (if (n4 : Int) = s then (8 + n : Nat) else (0 : Nat)) ∧ Sat w w' 1) := by
  by_cases q4 : (n4 : Int) = s
  · have hq : ((n4 : Int) != s) = false := bne_eq_false_iff_eq.2 q4
    have hw : (IntKind.i64.wrap s) = s := by rw [IntKind.wrap_i64]; omega
    rw [if_pos q4]
    have Q4 := Hid.mk' q4
    clear q4
    go_enter Tryd.func93, Tryd.ntmps93
    go_wp2_with (first | (go_at_call 136; refine (T1.out).mono ?_; clear T1; rintro e w' ⟨rfl, m, rfl⟩) | (go_at_call 136; go_loud (refine (T2.out _).mono ?_); clear T2; rintro e w' ⟨rfl, m2, rfl⟩))
    refine (S.out _ _).mono ?_
    rintro e w2 ⟨v, rfl, rfl, hs⟩
    go_wp2
    go_ret
    exact Ret.mk ⟨ret_int (by omega), ((Sat.refl _).drewN _).then1 hs⟩
  · have hq : ((n4 : Int) != s) = true := bne_iff_ne.2 q4
    have hw : (IntKind.i64.wrap s) = s := by rw [IntKind.wrap_i64]; omega
    rw [if_neg q4]
    have Q4 := Hid.mk' q4
    clear q4
    go_enter Tryd.func93, Tryd.ntmps93
    go_wp2_with (first | (go_at_call 136; refine (T1.out).mono ?_; clear T1; rintro e w' ⟨rfl, m, rfl⟩) | (go_at_call 136; go_loud (refine (T2.out _).mono ?_); clear T2; rintro e w' ⟨rfl, m2, rfl⟩))
    refine (S.out _ _).mono ?_
    rintro e w2 ⟨v, rfl, rfl, hs⟩
    go_wp2
    go_ret
    exact Ret.mk ⟨rfl, ((Sat.refl _).drewN _).then1 hs⟩

set_option maxRecDepth 20000 in
set_option maxHeartbeats 3200000 in
theorem ref13_sound {w : World} (xs : List UInt8) (ao : Option Addr) (c : Nat) (hr : Rd w ao (bvs xs)) (hn : xs.length ≤ 16777216) (hc : xs.length ≤ c) (i : Nat) (hi : i ≤ xs.length) :
    Calls Tryd.prog 93 #[.slice ao xs.length c, .int .i64 i] w (Ret fun v w' => v = .int .i64 (fr8 (xs.drop i)) ∧ Sat w w' 1) := by
  by_cases h8 : xs.length < i + 8
  · have H0 := Hid.mk' (show fr8 (xs.drop i) = 0 from fr8_bad (fun g => by have := g.2.2.1; rw [List.length_drop] at this; omega))
    clear hr
    go_enter Tryd.func93, Tryd.ntmps93
    go_wp2_with fail
    go_ret
    exact Ret.mk ⟨ret_int (by rw [H0.out]; rfl), Sat.refl _⟩
  · obtain ⟨b, o, rfl, hcells⟩ := hr.addr (by intro e; have := bvs_length xs; rw [e] at this; simp at this; omega)
    clear hcells
    have hbe := be4n_lt (xs.drop i)
    have HG := Hid.mk' (show Good (xs.drop i) ↔ (1 ≤ be4n (xs.drop i) ∧ be4n (xs.drop i) ≤ 8192 ∧ 8 + be4n (xs.drop i) ≤ (xs.drop i).length ∧ (crc ((xs.drop i).take 4 ++ ((xs.drop i).drop 8).take (be4n (xs.drop i)))).toNat = be4n ((xs.drop i).drop 4)) from Iff.rfl)
    have HT := Hid.mk' (ref13_told b o c i xs hr (by omega) (by omega))
    have HN : (xs.drop i).length = xs.length - i := List.length_drop
    have HR := Hid.mk' hr
    by_cases q1 : be4n (xs.drop i) < 1
    · have H0 := Hid.mk' (show fr8 (xs.drop i) = 0 from fr8_bad (fun g => by have := HG.out.1 g; omega))
      clear hr
      go_enter Tryd.func93, Tryd.ntmps93
      go_wp2_with (go_at_call 136; refine (HT.out).mono ?_; rintro e w' ⟨rfl, m, rfl⟩)
      go_ret
      exact Ret.mk ⟨ret_int (by rw [H0.out]; rfl), (Sat.refl _).drewN _⟩
    by_cases q2 : 8192 < be4n (xs.drop i)
    · have H0 := Hid.mk' (show fr8 (xs.drop i) = 0 from fr8_bad (fun g => by have := HG.out.1 g; omega))
      clear hr
      go_enter Tryd.func93, Tryd.ntmps93
      go_wp2_with (go_at_call 136; refine (HT.out).mono ?_; rintro e w' ⟨rfl, m, rfl⟩)
      go_ret
      exact Ret.mk ⟨ret_int (by rw [H0.out]; rfl), (Sat.refl _).drewN _⟩
    by_cases q3 : xs.length < i + 8 + be4n (xs.drop i)
    · have H0 := Hid.mk' (show fr8 (xs.drop i) = 0 from fr8_bad (fun g => by have := HG.out.1 g; omega))
      clear hr
      go_enter Tryd.func93, Tryd.ntmps93
      go_wp2_with (go_at_call 136; refine (HT.out).mono ?_; rintro e w' ⟨rfl, m, rfl⟩)
      go_ret
      exact Ret.mk ⟨ret_int (by rw [H0.out]; rfl), (Sat.refl _).drewN _⟩
    have HT2 := Hid.mk' (show ∀ m, Calls Tryd.prog 136 #[.slice (some ⟨b, o, none⟩) xs.length c, .int .i64 ((i : Int) + 4)] (w.drewN m) (Drew (.int .i64 (be4n (xs.drop (i + 4)) : Int)) (w.drewN m)) from fun m => ref13_told b o c (i + 4) xs hr.drewN (by omega) (by omega))
    have hpl : ((xs.drop (i + 8)).take (be4n (xs.drop i))).length = be4n (xs.drop i) := by rw [List.length_take, List.length_drop]; omega
    have HS := Hid.mk' (show ∀ m c', Calls Tryd.prog 91 #[.slice (some ⟨b, o + (i + 8), none⟩) (be4n (xs.drop i)) c'] (w.drewN m) (Ret fun v w' => v = .int .u32 (ru32 (crc (num4 (be4n (xs.drop i)) ++ (xs.drop (i + 8)).take (be4n (xs.drop i))))) ∧ Sat (w.drewN m) w' 1) from fun m c' => by
      have := ref13_sum (w := w.drewN m) ((xs.drop (i + 8)).take (be4n (xs.drop i))) (some ⟨b, o + (i + 8), none⟩) c' (hr.drewN.sub _ _) (fun h => by cases h) (by omega)
      rw [hpl] at this
      exact this)
    have hnum : num4 (be4n (xs.drop i)) = (xs.drop i).take 4 := num4_be4n (by omega)
    have hd8 : (xs.drop i).drop 8 = xs.drop (i + 8) := by rw [List.drop_drop]
    have hd4 : (xs.drop i).drop 4 = xs.drop (i + 4) := by rw [List.drop_drop]
    have hgood : Good (xs.drop i) ↔ (be4n (xs.drop (i + 4)) : Int) = ru32 (crc (num4 (be4n (xs.drop i)) ++ (xs.drop (i + 8)).take (be4n (xs.drop i)))) := by
      unfold Good
      rw [hnum, hd8, hd4]
      exact ⟨fun h => by rw [← h.2.2.2]; rfl, fun h => ⟨by omega, by omega, by omega, (Int.ofNat.inj h).symm⟩⟩
    refine (ref13_sound_in b o c i xs.length _ _ _ (by omega) (by omega) (by omega) (by omega) hn hc (u32_nonneg _) (u32_lt _) HT HT2 HS).mono ?_
    rintro e w' ⟨v, rfl, rfl, hs⟩
    refine Ret.mk ⟨?_, hs⟩
    by_cases g : Good (xs.drop i)
    · rw [if_pos (hgood.1 g), fr8_good g]
    · rw [if_neg (fun h => g (hgood.2 h)), fr8_bad g]

end Go.Proofs.YtjhlelcopofkkaaDoor

/-! Lst -/
namespace Go.Proofs.YtjhlelcopofkkaaDoor
open Go.RowKit

instance : Std.Associative (α := HP) (· * ·) := ⟨HP.assoc⟩
instance : Std.Commutative (α := HP) (· * ·) := ⟨HP.comm⟩
theorem Sat.perm {w0 w : World} {A B : HP} (hs : Sat w0 w A) (h : A = B) : Sat w0 w B := h ▸ hs

theorem Sat.one' {w0 w : World} {A : HP} (hs : Sat w0 w A) : Sat w0 w (1 * A) := by rw [HP.one_mul]; exact hs
theorem Sat.unone' {w0 w : World} {A : HP} (hs : Sat w0 w (1 * A)) : Sat w0 w A := by rw [HP.one_mul] at hs; exact hs

/-- Two blocks that are held apart are two. -/
theorem Sat.blk_ne {w0 w : World} {F : HP} {a b : Nat} {cs ds : List Value} {t e : TypeId} (hs : Sat w0 w (F * blk a cs t * blk b ds e)) : a ≠ b := by
  obtain ⟨x, ⟨h1, h2, ⟨h3, h4, _, h4b, _, hu1⟩, hb, hd, _⟩, _⟩ := hs.held
  intro e
  have e1 : h1 a = some (.cells cs.toArray t (0, 0)) ∨ h3 a ≠ none := by
    rw [hu1, h4b a, if_pos rfl]
    cases h3 a with
    | none => exact Or.inl rfl
    | some o => exact Or.inr (by simp)
  have e2 : h2 a ≠ none := by rw [hb a, if_pos e]; simp
  rcases hd a with h | h
  · rcases e1 with e1 | e1
    · rw [h] at e1; cases e1
    · rw [hu1] at h
      cases h3a : h3 a with
      | none => exact e1 h3a
      | some o => rw [h3a] at h; cases h
  · exact e2 h

/-- Each value a list of its own, of these bytes. -/
def bvl : List Value → List (List UInt8) → HP
  | [], [] => 1
  | v :: vs, p :: ps => vec 5 1 v p.length (bvs p) * bvl vs ps
  | _, _ => fun _ => False
theorem bvl_nil : bvl [] [] = 1 := rfl
theorem bvl_cons (v : Value) (vs : List Value) (p : List UInt8) (ps : List (List UInt8)) : bvl (v :: vs) (p :: ps) = vec 5 1 v p.length (bvs p) * bvl vs ps := rfl
theorem bvl_one (v : Value) (p : List UInt8) : bvl [v] [p] = vec 5 1 v p.length (bvs p) := by rw [bvl_cons, bvl_nil, HP.mul_one]
theorem bvl_len : ∀ {vs : List Value} {ps : List (List UInt8)} {h : Hl}, bvl vs ps h → vs.length = ps.length
  | [], [], _, _ => rfl
  | v :: vs, p :: ps, h, hh => by
    obtain ⟨h1, h2, _, hb, _, _⟩ := hh
    simp [bvl_len hb]
  | [], _ :: _, _, hh => hh.elim
  | _ :: _, [], _, hh => hh.elim
theorem bvl_append : ∀ {vs us : List Value} {ps qs : List (List UInt8)}, vs.length = ps.length → bvl (vs ++ us) (ps ++ qs) = bvl vs ps * bvl us qs
  | [], us, [], qs, _ => by rw [bvl_nil, HP.one_mul]; rfl
  | v :: vs, us, p :: ps, qs, h => by
    rw [List.cons_append, List.cons_append, bvl_cons, bvl_cons, bvl_append (by simpa using h), HP.assoc]
  | [], us, _ :: _, qs, h => by simp at h
  | _ :: _, us, [], qs, h => by simp at h
theorem bvl_snoc {vs : List Value} {ps : List (List UInt8)} (h : vs.length = ps.length) (v : Value) (p : List UInt8) : bvl (vs ++ [v]) (ps ++ [p]) = bvl vs ps * vec 5 1 v p.length (bvs p) := by
  rw [bvl_append h, bvl_one]
theorem bvl_at {vs : List Value} {ps : List (List UInt8)} (h : vs.length = ps.length) {k : Nat} {v : Value} {p : List UInt8} (hv : vs[k]? = some v) (hp : ps[k]? = some p) :
    bvl vs ps = bvl (vs.take k) (ps.take k) * vec 5 1 v p.length (bvs p) * bvl (vs.drop (k + 1)) (ps.drop (k + 1)) := by
  obtain ⟨hk, rfl⟩ := List.getElem?_eq_some_iff.1 hv
  obtain ⟨hk', rfl⟩ := List.getElem?_eq_some_iff.1 hp
  have e1 : vs = vs.take k ++ (vs[k] :: vs.drop (k + 1)) := by rw [List.getElem_cons_drop, List.take_append_drop]
  have e2 : ps = ps.take k ++ (ps[k] :: ps.drop (k + 1)) := by rw [List.getElem_cons_drop, List.take_append_drop]
  have : bvl vs ps = bvl (vs.take k ++ (vs[k] :: vs.drop (k + 1))) (ps.take k ++ (ps[k] :: ps.drop (k + 1))) := by rw [← e1, ← e2]
  rw [this, bvl_append (by rw [List.length_take, List.length_take, h]), bvl_cons, HP.assoc]

theorem Sat.bvl_len {w0 w : World} {F : HP} {vs : List Value} {ps : List (List UInt8)} (hs : Sat w0 w (F * bvl vs ps)) : vs.length = ps.length := by
  obtain ⟨x, ⟨h1, h2, ha, hb, hd, hu⟩, hx⟩ := hs.held
  exact Go.Proofs.YtjhlelcopofkkaaDoor.bvl_len hb
/-- One of them, read. -/
theorem Sat.bvl_rd {w0 w : World} {F : HP} {vs : List Value} {ps : List (List UInt8)} (hs : Sat w0 w (F * bvl vs ps)) {k : Nat} {p : List UInt8} (hp : ps[k]? = some p) :
    ∃ (bo : Option Addr) (c : Nat), vs[k]? = some (Value.slice bo p.length c) ∧ p.length ≤ c ∧ Rd w bo (bvs p) ∧ (bo = none → p.length = 0 ∧ c = 0) := by
  have hl := hs.bvl_len
  have hk := (List.getElem?_eq_some_iff.1 hp).1
  have hv : vs[k]? = some vs[k] := List.getElem?_eq_getElem (by omega)
  rw [bvl_at hl hv hp] at hs
  obtain ⟨ao, cap, e, h1, h2, h3⟩ := (hs.perm (B := F * bvl (vs.take k) (ps.take k) * bvl (vs.drop (k + 1)) (ps.drop (k + 1)) * vec 5 1 vs[k] p.length (bvs p)) (by ac_rfl)).vec_rd
  exact ⟨ao, cap, by rw [hv, e], h1, h2, h3⟩

/-- A list of lists of bytes, only read. -/
def RdL (w : World) (ao : Option Addr) (ps : List (List UInt8)) : Prop :=
  ∃ vs : List Value, Rd w ao vs ∧ vs.length = ps.length ∧ ∀ (k : Nat) (p : List UInt8), ps[k]? = some p → ∃ (bo : Option Addr) (c : Nat), vs[k]? = some (Value.slice bo p.length c) ∧ p.length ≤ c ∧ Rd w bo (bvs p) ∧ (bo = none → p.length = 0 ∧ c = 0)
theorem RdL.mono {w w' : World} {ao : Option Addr} {ps : List (List UInt8)} (h : RdL w ao ps) (hb : Below w.heap.size w w') : RdL w' ao ps := by
  obtain ⟨vs, h1, h2, h3⟩ := h
  exact ⟨vs, h1.mono hb, h2, fun k p hp => let ⟨bo, c, a1, a2, a3, a4⟩ := h3 k p hp; ⟨bo, c, a1, a2, a3.mono hb, a4⟩⟩
theorem RdL.of0 {w0 w : World} {A : HP} {ao : Option Addr} {ps : List (List UInt8)} (h : RdL w0 ao ps) (hs : Sat w0 w A) : RdL w ao ps := h.mono hs.below
theorem RdL.drewN {w : World} {ao : Option Addr} {ps : List (List UInt8)} (h : RdL w ao ps) {n : Nat} : RdL (w.drewN n) ao ps := h.mono (below_drewN (Below.refl _ _) n)
theorem RdL.nil (w : World) (ao : Option Addr) : RdL w ao [] := ⟨[], Rd.nil _ _, rfl, fun k p hp => by simp at hp⟩
/-- The cell at an index. -/
theorem RdL.cell {w : World} {ao : Option Addr} {ps : List (List UInt8)} (h : RdL w ao ps) {k : Nat} (hk : k < ps.length) :
    ∃ b o bo c, ao = some ⟨b, o, none⟩ ∧ w.cell? ⟨b, o + k, none⟩ = some (.slice bo ps[k].length c) ∧ ps[k].length ≤ c ∧ Rd w bo (bvs ps[k]) ∧ (bo = none → ps[k].length = 0 ∧ c = 0) := by
  obtain ⟨vs, h1, h2, h3⟩ := h
  obtain ⟨bo, c, a1, a2, a3, a4⟩ := h3 k _ (List.getElem?_eq_getElem hk)
  obtain ⟨b, o, e, hc⟩ := h1.addr (by intro e; rw [e] at h2; simp at h2; omega)
  exact ⟨b, o, bo, c, e, hc _ _ a1, a2, a3, a4⟩

/-- A list of lists of bytes, held. -/
def vecs (v : Value) (ps : List (List UInt8)) : HP := fun h => ∃ vs, (vec 22 1 v ps.length vs * bvl vs ps) h
theorem Sat.vecs_open {w0 w : World} {F : HP} {v : Value} {ps : List (List UInt8)} (hs : Sat w0 w (F * vecs v ps)) : ∃ vs, vs.length = ps.length ∧ Sat w0 w (F * vec 22 1 v ps.length vs * bvl vs ps) := by
  obtain ⟨x, ⟨h1, h2, ha, ⟨vs, hb⟩, hd, hu⟩, hx⟩ := hs.held
  have hs' : Sat w0 w (F * vec 22 1 v ps.length vs * bvl vs ps) := by
    rw [HP.assoc]
    exact ⟨hs.below, x, ⟨h1, h2, ha, hb, hd, hu⟩, hx⟩
  exact ⟨vs, hs'.bvl_len, hs'⟩
theorem Sat.vecs_shut {w0 w : World} {F : HP} {v : Value} {vs : List Value} {ps : List (List UInt8)} (hs : Sat w0 w (F * vec 22 1 v ps.length vs * bvl vs ps)) : Sat w0 w (F * vecs v ps) := by
  rw [HP.assoc] at hs
  exact hs.imp_last fun h hh => ⟨vs, hh⟩
theorem Sat.vecs_rd {w0 w : World} {F : HP} {v : Value} {ps : List (List UInt8)} (hs : Sat w0 w (F * vecs v ps)) : ∃ ao cap, v = .slice ao ps.length cap ∧ ps.length ≤ cap ∧ RdL w ao ps ∧ (ao = none → ps.length = 0 ∧ cap = 0) := by
  obtain ⟨vs, hl, h⟩ := hs.vecs_open
  obtain ⟨ao, cap, e, h1, h2, h3⟩ := h.swap.vec_rd
  exact ⟨ao, cap, e, h1, ⟨vs, h2, hl, fun k p hp => h.bvl_rd hp⟩, h3⟩
theorem Sat.vecs_nil {w0 w : World} {F : HP} (hs : Sat w0 w F) : Sat w0 w (F * vecs (.slice none 0 0) []) :=
  Sat.vecs_shut (vs := []) (by rw [bvl_nil, HP.mul_one]; exact hs.vec_nil _ _)
/-- One more at its end, the cells being appended. -/
theorem Sat.vecs_snoc {w0 w : World} {F : HP} {v v' : Value} {vs : List Value} {ps : List (List UInt8)} {p : List UInt8} (hl : vs.length = ps.length)
    (hs : Sat w0 w (F * vec 22 1 v' (ps.length + 1) (vs ++ [v]) * bvl vs ps * vec 5 1 v p.length (bvs p))) : Sat w0 w (F * vecs v' (ps ++ [p])) := by
  refine Sat.vecs_shut (vs := vs ++ [v]) ?_
  rw [bvl_snoc hl, List.length_append, List.length_singleton, ← HP.assoc]
  exact hs

/-- Numbers as values. -/
def ints (l : List Nat) : List Value := l.map fun (n : Nat) => Value.int .i64 n
theorem ints_length (l : List Nat) : (ints l).length = l.length := by simp [ints]
theorem ints_one (l : List Nat) : ∀ v ∈ ints l, v.oneCell' = true := by
  intro v hv
  obtain ⟨b, _, rfl⟩ := List.mem_map.1 hv
  rfl
theorem ints_get {l : List Nat} {k n : Nat} (h : l[k]? = some n) : (ints l)[k]? = some (.int .i64 n) := by simp [ints, h]
theorem ints_snoc (l : List Nat) (n : Nat) : ints (l ++ [n]) = ints l ++ [.int .i64 n] := by simp [ints]
theorem info_int : (Tryd.prog.info? 3).map (fun i => (i.zero, i.size, i.bytes)) = some (some (.int .i64 0), 1, 8) := by kernel_rfl
theorem info_bytes : (Tryd.prog.info? 22).map (fun i => (i.zero, i.size, i.bytes)) = some (some (.slice none 0 0), 1, 24) := by kernel_rfl
end Go.Proofs.YtjhlelcopofkkaaDoor

/-! Vo -/
namespace Go.Proofs.YtjhlelcopofkkaaDoor
open Go.RowKit

theorem put_cons {cur : List Value} {off : Nat} {v : Value} {r : List Value} (h : off < cur.length) : put (cur.set off v) (off + 1) r = put cur off (v :: r) := by
  simp only [put, List.length_cons]
  rw [List.take_set, List.drop_set_of_lt (by omega)]
  have e1 : (cur.take (off + 1)).set off v = cur.take off ++ [v] := by
    rw [List.take_succ_eq_append_getElem h, List.set_append_right _ _ (by simp; omega)]
    have : off - (cur.take off).length = 0 := by rw [List.length_take]; omega
    rw [this]
    rfl
  rw [e1, show off + 1 + r.length = off + (r.length + 1) by omega]
  simp
theorem Sat.stores {w0 : World} {F : HP} {b : Nat} {t : TypeId} : ∀ (news : List Value) (w : World) (cs : List Value) (off : Nat), Sat w0 w (F * blk b cs t) → off + news.length ≤ cs.length → Sat w0 (w.setCells b off news) (F * blk b (put cs off news) t)
  | [], w, cs, off, hs, _ => by rw [put_nil]; exact hs
  | v :: r, w, cs, off, hs, h => by
    rw [List.length_cons] at h
    have := Sat.stores r _ _ (off + 1) (hs.store off v) (by rw [List.length_set]; omega)
    rw [put_cons (by omega)] at this
    exact this

theorem Rd.made' (w : World) (l : List Value) (e : TypeId) (fr : Nat × Nat) (n : Nat) (h : w.heap.size = n) : Rd (w.alloc (.cells l.toArray e fr)) (some ⟨n, 0, none⟩) l := by
  subst h; exact Rd.made w l e fr
/-- A slice in a block of its own. -/
def vo (t : TypeId) (sz : Nat) (v : Value) (n : Nat) (cs : List Value) : HP := fun h =>
  cs.length = n * sz ∧ ((v = .slice none 0 0 ∧ n = 0 ∧ (1 : HP) h) ∨
    ∃ b cap pre sp, v = .slice (some ⟨b, pre.length, none⟩) n cap ∧ n ≤ cap ∧ cap ≤ maxLen ∧ cap * sz ≤ (cs ++ sp).length ∧ blk b (pre ++ (cs ++ sp)) t h)

section
variable {w0 w : World} {F : HP} {t : TypeId} {sz n : Nat} {v : Value} {cs : List Value}
theorem Sat.vec_vo (hs : Sat w0 w (F * vec t sz v n cs)) : Sat w0 w (F * vo t sz v n cs) := by
  refine hs.imp_last ?_
  rintro x ⟨hl, h | ⟨b, cap, sp, e, h1, h2, h3, hb⟩⟩
  · exact ⟨hl, Or.inl h⟩
  · exact ⟨hl, Or.inr ⟨b, cap, [], sp, e, h1, h2, Nat.le_of_eq h3.symm, hb⟩⟩
theorem Sat.vo_cases (hs : Sat w0 w (F * vo t sz v n cs)) : cs.length = n * sz ∧ ((v = .slice none 0 0 ∧ n = 0 ∧ cs = [] ∧ Sat w0 w F) ∨
    ∃ b cap pre sp, v = .slice (some ⟨b, pre.length, none⟩) n cap ∧ n ≤ cap ∧ cap ≤ maxLen ∧ cap * sz ≤ (cs ++ sp).length ∧ Sat w0 w (F * blk b (pre ++ (cs ++ sp)) t)) := by
  obtain ⟨x, ⟨h1, h2, ha, ⟨hl, hv⟩, hd, hu⟩, hx⟩ := hs.held
  refine ⟨hl, ?_⟩
  rcases hv with ⟨e, en, h0⟩ | ⟨b, cap, pre, sp, e, q1, q2, q3, hb⟩
  · exact Or.inl ⟨e, en, List.eq_nil_of_length_eq_zero (by rw [hl, en, Nat.zero_mul]), hs.drop⟩
  · exact Or.inr ⟨b, cap, pre, sp, e, q1, q2, q3, hs.below, x, ⟨h1, h2, ha, hb, hd, hu⟩, hx⟩
theorem Sat.vo_mk {b off cap : Nat} {pre sp : List Value} (hs : Sat w0 w (F * blk b (pre ++ (cs ++ sp)) t)) (hoff : off = pre.length) (hl : cs.length = n * sz) (q1 : n ≤ cap) (q2 : cap ≤ maxLen) (q3 : cap * sz ≤ (cs ++ sp).length) :
    Sat w0 w (F * vo t sz (.slice (some ⟨b, off, none⟩) n cap) n cs) := by
  subst hoff
  exact hs.imp_last fun _ hb => ⟨hl, Or.inr ⟨b, cap, pre, sp, rfl, q1, q2, q3, hb⟩⟩
theorem Sat.vo_rd (hs : Sat w0 w (F * vo t sz v n cs)) : ∃ ao cap, v = .slice ao n cap ∧ n ≤ cap ∧ cap ≤ maxLen ∧ Rd w ao cs ∧ (ao = none → n = 0 ∧ cap = 0) := by
  obtain ⟨hl, ⟨e, en, ec, _⟩ | ⟨b, cap, pre, sp, e, q1, q2, q3, hb⟩⟩ := hs.vo_cases
  · subst en
    exact ⟨none, 0, e, Nat.le_refl _, Nat.zero_le _, Or.inl ec, fun _ => ⟨rfl, rfl⟩⟩
  · refine ⟨_, cap, e, q1, q2, Or.inr ⟨b, pre.length, rfl, fun i u hu => ?_⟩, fun h => by cases h⟩
    refine hb.cell ?_
    rw [List.getElem?_append_right (by omega), Nat.add_sub_cancel_left, List.getElem?_append_left (List.getElem?_eq_some_iff.1 hu).1]
    exact hu
/-- Cut to its first elements: what lies behind stays where it is, and is no more reached. -/
theorem Sat.vo_cut {ao : Option Addr} {cap : Nat} (hs : Sat w0 w (F * vo t sz (.slice ao n cap) n cs)) (k : Nat) (hk : k ≤ n) : Sat w0 w (F * vo t sz (.slice ao k k) k (cs.take (k * sz))) := by
  have hkn : k * sz ≤ n * sz := Nat.mul_le_mul_right _ hk
  obtain ⟨hl, ⟨e, en, ec, hF⟩ | ⟨b, cap, pre, sp, e, q1, q2, q3, hb⟩⟩ := hs.vo_cases
  · subst en
    cases e
    obtain rfl : k = 0 := by omega
    subst ec
    rw [List.take_nil]
    exact hF.vec_nil t sz |>.vec_vo
  · cases e
    refine Sat.vo_mk (pre := pre) (sp := cs.drop (k * sz) ++ sp) ?_ rfl (by rw [List.length_take]; omega) (Nat.le_refl _) (by omega) (by rw [← List.append_assoc, List.take_append_drop, List.length_append]; omega)
    rw [← List.append_assoc (cs.take _), List.take_append_drop]
    exact hb
/-- One cell of it: read, written. -/
theorem Sat.vo_cell (hs : Sat w0 w (F * vo t sz v n cs)) (hn : 0 < n) : ∃ b off cap, v = .slice (some ⟨b, off, none⟩) n cap ∧ n ≤ cap ∧ cap ≤ maxLen ∧ (∀ i u, cs[i]? = some u → w.cell? ⟨b, off + i, none⟩ = some u) ∧ (∀ i, w.frozen? ⟨b, off + i, none⟩ = false) ∧
    (∀ i u, i < cs.length → Sat w0 (w.setCell ⟨b, off + i, none⟩ u) (F * vo t sz v n (cs.set i u))) := by
  obtain ⟨hl, ⟨e, en, ec, hF⟩ | ⟨b, cap, pre, sp, rfl, q1, q2, q3, hb⟩⟩ := hs.vo_cases
  · omega
  · refine ⟨b, pre.length, cap, rfl, q1, q2, fun i u hu => hb.cell ?_, fun i => hb.free _, fun i u hi => ?_⟩
    · rw [List.getElem?_append_right (by omega), Nat.add_sub_cancel_left, List.getElem?_append_left (List.getElem?_eq_some_iff.1 hu).1]
      exact hu
    · have h := hb.store (pre.length + i) u
      rw [List.set_append_right _ _ (by omega), Nat.add_sub_cancel_left, List.set_append_left _ _ hi] at h
      exact Sat.vo_mk h rfl (by rw [List.length_set]; exact hl) q1 q2 (by rw [List.length_append, List.length_set, ← List.length_append]; exact q3)
/-- All but the first element. -/
theorem Sat.vo_tail {b off cap : Nat} (hs : Sat w0 w (F * vo t sz (.slice (some ⟨b, off, none⟩) n cap) n cs)) (hn : 1 ≤ n) (_hsz : 0 < sz) :
    Sat w0 w (F * vo t sz (.slice (some ⟨b, if cap = 1 then off else off + sz, none⟩) (n - 1) (cap - 1)) (n - 1) (cs.drop sz)) := by
  obtain ⟨hl, ⟨e, en, ec, hF⟩ | ⟨b', cap', pre, sp, e, q1, q2, q3, hb⟩⟩ := hs.vo_cases
  · cases e
  · cases e
    have hn1 : (n - 1) * sz + sz = n * sz := by rw [← Nat.add_one_mul, Nat.sub_add_cancel hn]
    have hc1 : (cap - 1) * sz + sz = cap * sz := by rw [← Nat.add_one_mul, Nat.sub_add_cancel (by omega)]
    rw [List.length_append] at q3
    by_cases hc : cap = 1
    · rw [if_pos hc]
      obtain rfl : n = 1 := by omega
      subst hc
      rw [List.drop_eq_nil_of_le (by omega)]
      exact Sat.vo_mk (cs := []) (sp := cs ++ sp) (by exact hb) rfl (by simp) (Nat.le_refl _) (by simp) (by simp)
    · rw [if_neg hc]
      refine Sat.vo_mk (pre := pre ++ cs.take sz) (sp := sp) ?_ (by rw [List.length_append, List.length_take]; omega) (by rw [List.length_drop]; omega) (by omega) (by omega) (by rw [List.length_append, List.length_drop]; omega)
      rw [List.append_assoc, ← List.append_assoc (cs.take sz), List.take_append_drop]
      exact hb
/-- A slice of new memory alone. -/
theorem Sat.of_owns_new {w' : World} {v' : Value} {n' : Nat} {cs' : List Value} (ho : w'.ownsRow w.heap.size t sz v' n' cs') (hg : w.grownBy w' none) : Sat w w' (vec t sz v' n' cs') := by
  have hB : Below w.heap.size w w' := ⟨hg.os, hg.tape, hg.output, hg.size, fun k hk => hg.block k hk (by simp)⟩
  rcases ho.2 with ⟨e, en⟩ | ⟨g, cap, cur, e, hbg, hgg, q1, q2, q3, q4⟩
  · have hc : cs' = [] := List.eq_nil_of_length_eq_zero (by rw [ho.1, en, Nat.zero_mul])
    subst e; subst en; subst hc
    exact ⟨hB, fun _ => none, ⟨by simp, Or.inl ⟨rfl, rfl, fun _ => rfl⟩⟩, fun b o h => by simp at h⟩
  · subst e
    have hcs : cs' ++ cur.toList.drop (n' * sz) = cur.toList := by rw [← q4]; exact List.take_append_drop _ _
    refine ⟨hB, fun k => if k = g then some (.cells cur t (0, 0)) else none, ⟨ho.1, Or.inr ⟨g, cap, cur.toList.drop (n' * sz), rfl, q1, q2, by rw [hcs]; simpa using q3, ?_⟩⟩, fun b o h => ?_⟩
    · intro k
      rw [hcs]
    · dsimp only at h
      by_cases e : b = g
      · subst e
        rw [if_pos rfl] at h
        cases h
        exact ⟨hbg, hgg⟩
      · rw [if_neg e] at h; cases h
end

/-- 'append' to a slice that is held, wherever it lies: the run. -/
theorem run_append_vo {P : Program} {w0 w : World} {F : HP} (t ty e : TypeId) (z : Value) (sz bytes : Nat) (ht : P.underlying t = some (.slice e)) (hinfo : (P.info? e).map (fun i => (i.zero, i.size, i.bytes)) = some (some z, sz, bytes))
    (hzs : z.cells.size = sz) (hsz : 0 < sz) (v : Value) (n : Nat) (cs : List Value) (hsat : Sat w0 w (F * vo e sz v n cs))
    (ao : Option Addr) (m c : Nat) (news : List Value) (hnone : ao = none → m = 0 ∧ c = 0) (hl : news.length = m * sz) (hrd : Rd w ao news) (h1 : ∀ u ∈ news, u.oneCell' = true)
    (h63 : n + m ≤ maxLen) (hbytes : (n + m) * bytes ≤ 140737488355328) :
    ∃ v' w', (Builtin.append_ #[t, t] ty #[v, .slice ao m c]).run P w = .ok v' w' ∧ Sat w0 w' (F * vo e sz v' (n + m) (cs ++ news)) := by
  obtain ⟨i, hi, hz, hsize, hby⟩ := info_parts hinfo
  cases ao with
  | none =>
    obtain ⟨rfl, rfl⟩ := hnone rfl
    have hn : news = [] := List.eq_nil_of_length_eq_zero (by rw [hl, Nat.zero_mul])
    subst hn
    obtain ⟨so, cap, rfl, hle, _, _, _⟩ := hsat.vo_rd
    refine ⟨.slice so n cap, w, ?_, by rw [List.append_nil]; exact hsat⟩
    cases so <;> simp [Builtin.append_, run_underlying ht, sizeOf, typeInfo, hi, Builtin.lenOf, Builtin.firstCells, hle, storeCells]
  | some ad =>
    have hc : ∀ j u, news[j]? = some u → w.cell? (ad.add j) = some u := by
      intro j u hu
      rcases hrd with hn | ⟨b, of, e', hc⟩
      · subst hn; simp at hu
      · cases e'
        rw [Addr.add_lit]
        exact hc j u hu
    obtain ⟨hcl, ⟨rfl, rfl, rfl, hF⟩ | ⟨b, cap, pre, sp, rfl, q1, q2, q3, hb⟩⟩ := hsat.vo_cases
    · have hv := hF.vec_nil e sz
      obtain ⟨v', w', hr, h2, h3, _, h5⟩ := run_append_own_at (P := P) w w0.heap.size t ty e i z sz bytes ht hi hz hsize hby hzs hsz _ 0 [] hv.owns ad m c news hl hc h1 h63 hbytes hv.lt
      exact ⟨v', w', hr, (hv.of_owns h2 h3 h5).vec_vo⟩
    · by_cases hr : n + m ≤ cap
      · have hk : (n + m) * sz ≤ cap * sz := Nat.mul_le_mul_right _ hr
        rw [Nat.add_mul] at hk
        have hlt : ∀ j, j < news.length → pre.length + n * sz + j < (pre ++ (cs ++ sp)).length := fun j hj => by rw [List.length_append]; omega
        have hrun := run_append_room_cells (P := P) w t ty e i ht hi b pre.length n cap ad m c news (by rw [hl, hsize]) hc h1 hr (fun j hj => by
          rw [hsize, hb.cell (List.getElem?_eq_getElem (hlt j hj))]
          rfl) (fun j hj => hb.free _)
        refine ⟨_, _, hrun, ?_⟩
        rw [List.length_append] at q3
        refine Sat.vo_mk (pre := pre) (sp := sp.drop news.length) ?_ rfl (by rw [List.length_append, hcl, hl, Nat.add_mul]) hr q2 (by rw [List.length_append, List.length_append, List.length_drop]; omega)
        have hst := Sat.stores news w (pre ++ (cs ++ sp)) (pre.length + n * sz) hb (by rw [List.length_append, List.length_append]; omega)
        have e1 : put (pre ++ (cs ++ sp)) (pre.length + n * sz) news = pre ++ (cs ++ news ++ sp.drop news.length) := by
          simp only [put]
          rw [← List.append_assoc pre cs sp, ← hcl, ← List.length_append, List.take_left' rfl, List.drop_append, List.drop_eq_nil_of_le (by omega), Nat.add_sub_cancel_left]
          simp
        rw [e1] at hst
        rw [hsize]
        exact hst
      · obtain ⟨v', w', hrun, r1, r2⟩ := run_append_arg_grows (P := P) w t ty e i z sz bytes ht hi hz hsize hby hzs hsz ⟨b, pre.length, none⟩ n cap cs hcl (fun j u hu => by
          rw [Addr.add_lit]
          refine hb.cell ?_
          rw [List.getElem?_append_right (by omega), Nat.add_sub_cancel_left, List.getElem?_append_left (List.getElem?_eq_some_iff.1 hu).1]
          exact hu) ad m c news hl hc (by omega) h63 hbytes
        exact ⟨v', w', hrun, (hb.drop.glue (Sat.of_owns_new r1 r2)).vec_vo⟩

theorem wp_append_run {P : Program} {o : Oper} {a : Act} {w w' : World} {K : Act → World → Prop} {Q : Exit → Act → World → Prop} {v x v' : Value} {s y : Operand} {t : TypeId} (ho : o.op = .call { callee := .builtin .append, args := #[s, y], argTypes := #[t, t] })
    (hs : a.eval s = v) (hx : a.eval y = x) (hr : (Builtin.append_ #[t, t] o.type #[v, x]).run P w = .ok v' w') (h : K (a.put o.dst v') w') : o.wp P a w K Q := by
  unfold Oper.wp execOp
  simp only [ho, resolve, invoke, builtin, Sem.run_bind, Sem.run_pure, Result.andThen_ok, List.map_toArray, List.map_cons, List.map_nil, hs, hx, hr]
  exact h

/-- 'append' to a slice that is held, wherever it lies. -/
theorem sl_append_vo {P : Program} {w0 w : World} {F : HP} {ops : Array Oper} {rest : List Oper} {o : Oper} {a : Act} {Q : Exit → Act → World → Prop}
    (hgd : o.guard = none) (s x : Operand) (t : TypeId) (ho : o.op = .call { callee := .builtin .append, args := #[s, x], argTypes := #[t, t] })
    (e : TypeId) (z : Value) (sz bytes : Nat) (ht : P.underlying t = some (.slice e)) (hinfo : (P.info? e).map (fun i => (i.zero, i.size, i.bytes)) = some (some z, sz, bytes))
    (hzs : z.cells.size = sz) (hsz : 0 < sz) (v : Value) (n : Nat) (cs : List Value) (hs : a.eval s = v) (hsat : Sat w0 w (F * vo e sz v n cs))
    (ao : Option Addr) (m c : Nat) (news : List Value) (hx : a.eval x = .slice ao m c) (hnone : ao = none → m = 0 ∧ c = 0) (hl : news.length = m * sz) (hrd : Rd w ao news) (h1 : ∀ u ∈ news, u.oneCell' = true)
    (h63 : n + m ≤ maxLen) (hbytes : (n + m) * bytes ≤ 140737488355328)
    (h : ∀ v' w', Sat w0 w' (F * vo e sz v' (n + m) (cs ++ news)) → wpList P ops Q rest (a.put o.dst v') w') : wpList P ops Q (o :: rest) a w := by
  refine wpList_plain hgd fun K hK => ?_
  obtain ⟨v', w', hr, hS⟩ := run_append_vo t o.type e z sz bytes ht hinfo hzs hsz v n cs hsat ao m c news hnone hl hrd h1 h63 hbytes
  exact wp_append_run ho hs hx hr (hK _ _ (h v' w' hS))
/-- .. in a region that draws its order. -/
theorem step_append_vo {P : Program} {w0 w : World} {F : HP} {ops : Array Oper} {o : Oper} {a : Act} {K : Act → World → Prop} {Q : Exit → Act → World → Prop} {E : Prop}
    (hgd : o.guard = none) (s x : Operand) (t : TypeId) (ho : o.op = .call { callee := .builtin .append, args := #[s, x], argTypes := #[t, t] })
    (e : TypeId) (z : Value) (sz bytes : Nat) (ht : P.underlying t = some (.slice e)) (hinfo : (P.info? e).map (fun i => (i.zero, i.size, i.bytes)) = some (some z, sz, bytes))
    (hzs : z.cells.size = sz) (hsz : 0 < sz) (v : Value) (n : Nat) (cs : List Value) (hs : a.eval s = v) (hsat : Sat w0 w (F * vo e sz v n cs))
    (ao : Option Addr) (m c : Nat) (news : List Value) (hx : a.eval x = .slice ao m c) (hnone : ao = none → m = 0 ∧ c = 0) (hl : news.length = m * sz) (hrd : Rd w ao news) (h1 : ∀ u ∈ news, u.oneCell' = true)
    (h63 : n + m ≤ maxLen) (hbytes : (n + m) * bytes ≤ 140737488355328)
    (h : ∀ v' w', Sat w0 w' (F * vo e sz v' (n + m) (cs ++ news)) → K (a.put o.dst v') w') : if Region.wanted o (yielded ops a.tmps) = true then Oper.wp P o a w K Q else E := by
  have hw : Region.wanted o (yielded ops a.tmps) = true := by simp [Region.wanted, hgd]
  rw [if_pos hw]
  obtain ⟨v', w', hr, hS⟩ := run_append_vo t o.type e z sz bytes ht hinfo hzs hsz v n cs hsat ao m c news hnone hl hrd h1 h63 hbytes
  exact wp_append_run ho hs hx hr (h v' w' hS)
/-- .. for a slice at the head of its block. -/
theorem step_append_vec {P : Program} {w0 w : World} {F : HP} {ops : Array Oper} {o : Oper} {a : Act} {K : Act → World → Prop} {Q : Exit → Act → World → Prop} {E : Prop}
    (hgd : o.guard = none) (s x : Operand) (t : TypeId) (ho : o.op = .call { callee := .builtin .append, args := #[s, x], argTypes := #[t, t] })
    (e : TypeId) (z : Value) (sz bytes : Nat) (ht : P.underlying t = some (.slice e)) (hinfo : (P.info? e).map (fun i => (i.zero, i.size, i.bytes)) = some (some z, sz, bytes))
    (hzs : z.cells.size = sz) (hsz : 0 < sz) (v : Value) (n : Nat) (cs : List Value) (hs : a.eval s = v) (hsat : Sat w0 w (F * vec e sz v n cs))
    (ad : Addr) (m c : Nat) (news : List Value) (hx : a.eval x = .slice (some ad) m c) (hl : news.length = m * sz) (hrd : Rd w (some ad) news) (h1 : ∀ u ∈ news, u.oneCell' = true)
    (h63 : n + m ≤ maxLen) (hbytes : (n + m) * bytes ≤ 140737488355328)
    (h : ∀ v' w', Sat w0 w' (F * vec e sz v' (n + m) (cs ++ news)) → K (a.put o.dst v') w') : if Region.wanted o (yielded ops a.tmps) = true then Oper.wp P o a w K Q else E := by
  have hw : Region.wanted o (yielded ops a.tmps) = true := by simp [Region.wanted, hgd]
  rw [if_pos hw]
  obtain ⟨i, hi, hz, hsize, hby⟩ := info_parts hinfo
  have hc : ∀ j u, news[j]? = some u → w.cell? (ad.add j) = some u := by
    intro j u hu
    rcases hrd with hn | ⟨b, of, e', hc⟩
    · subst hn; simp at hu
    · cases e'
      rw [Addr.add_lit]
      exact hc j u hu
  obtain ⟨v', w', hr, h2, h3, _, h5⟩ := run_append_own_at (P := P) w w0.heap.size t o.type e i z sz bytes ht hi hz hsize hby hzs hsz v n cs hsat.owns ad m c news hl hc h1 h63 hbytes hsat.lt
  exact wp_append_run ho hs hx hr (h v' w' (hsat.of_owns h2 h3 h5))
/-- .. of a slice that may be nil. -/
theorem step_append_any {P : Program} {w0 w : World} {F : HP} {ops : Array Oper} {o : Oper} {a : Act} {K : Act → World → Prop} {Q : Exit → Act → World → Prop} {E : Prop}
    (hgd : o.guard = none) (s x : Operand) (t : TypeId) (ho : o.op = .call { callee := .builtin .append, args := #[s, x], argTypes := #[t, t] })
    (e : TypeId) (z : Value) (sz bytes : Nat) (ht : P.underlying t = some (.slice e)) (hinfo : (P.info? e).map (fun i => (i.zero, i.size, i.bytes)) = some (some z, sz, bytes))
    (hzs : z.cells.size = sz) (hsz : 0 < sz) (v : Value) (n : Nat) (cs : List Value) (hs : a.eval s = v) (hsat : Sat w0 w (F * vec e sz v n cs))
    (ao : Option Addr) (m c : Nat) (news : List Value) (hx : a.eval x = .slice ao m c) (hnone : ao = none → m = 0 ∧ c = 0) (hl : news.length = m * sz) (hrd : Rd w ao news) (h1 : ∀ u ∈ news, u.oneCell' = true)
    (h63 : n + m ≤ maxLen) (hbytes : (n + m) * bytes ≤ 140737488355328)
    (h : ∀ v' w', Sat w0 w' (F * vec e sz v' (n + m) (cs ++ news)) → K (a.put o.dst v') w') : if Region.wanted o (yielded ops a.tmps) = true then Oper.wp P o a w K Q else E := by
  cases ao with
  | some ad => exact step_append_vec hgd s x t ho e z sz bytes ht hinfo hzs hsz v n cs hs hsat ad m c news hx hl hrd h1 h63 hbytes h
  | none =>
    obtain ⟨rfl, rfl⟩ := hnone rfl
    have hn : news = [] := List.eq_nil_of_length_eq_zero (by rw [hl, Nat.zero_mul])
    subst hn
    have hw : Region.wanted o (yielded ops a.tmps) = true := by simp [Region.wanted, hgd]
    rw [if_pos hw]
    obtain ⟨i, hi, _, _, _⟩ := info_parts hinfo
    exact wp_append_run ho hs hx (run_append_owned_none (P := P) (w := w) w0.heap.size t o.type e i sz ht hi v n cs hsat.owns) (h v w (by rw [List.append_nil]; exact hsat))
end Go.Proofs.YtjhlelcopofkkaaDoor

/-! Dk -/
namespace Go.Proofs.YtjhlelcopofkkaaDoor

/-- What lies on a disk, how much of it is synced, its room, whether it is dead, the arms that wait. -/
structure Dk where
  bytes : List UInt8
  synced : Nat
  room : Nat
  dead : Bool
  arms : List (Nat × Int)

namespace Dk
/-- How many bytes are there when the power has failed. -/
def kept (D : Dk) (keep : Int) : Nat := D.synced + min keep.toNat (D.bytes.length - D.synced)
def fail (D : Dk) (keep : Int) : Dk := { D with bytes := D.bytes.take (D.kept keep), synced := D.kept keep, dead := true }
/-- What every operation goes through first; 'L': what an operation that dies still does. -/
def gate (D : Dk) (L : Dk → Dk) : Dk × Nat :=
  if D.dead = true then (D, 10) else
    match D.arms with
    | [] => (D, 0)
    | (k + 1, keep) :: r => ({ D with arms := (k, keep) :: r }, 0)
    | (0, keep) :: r => ((L { D with arms := r }).fail keep, 10)
def fits (D : Dk) (n : Nat) : Prop := D.bytes.length + n ≤ D.room
instance (D : Dk) (n : Nat) : Decidable (D.fits n) := by unfold fits; infer_instance
def putp (D : Dk) (p : List UInt8) : Dk := if D.fits p.length then { D with bytes := D.bytes ++ p } else D
def append (D : Dk) (p : List UInt8) : Dk × Nat :=
  if (D.gate (·.putp p)).2 = 0 then (if (D.gate (·.putp p)).1.fits p.length then ((D.gate (·.putp p)).1.putp p, 0) else ((D.gate (·.putp p)).1, 9)) else D.gate (·.putp p)
def sync (D : Dk) : Dk × Nat :=
  if (D.gate id).2 = 0 then ({ (D.gate id).1 with synced := (D.gate id).1.bytes.length }, 0) else D.gate id
def trunc (D : Dk) (n : Int) : Dk × Nat :=
  if D.dead = false ∧ (n < 0 ∨ (D.bytes.length : Int) < n) then (D, 1)
  else if (D.gate id).2 = 0 then ({ (D.gate id).1 with bytes := (D.gate id).1.bytes.take n.toNat, synced := min (D.gate id).1.synced n.toNat }, 0) else D.gate id
def arm (D : Dk) (after keep : Int) : Dk := { D with arms := D.arms ++ [(after.toNat, keep)] }
def crash (D : Dk) (keep : Int) : Dk := if D.dead = true then D else D.fail keep
def revive (D : Dk) : Dk := { D with dead := false }
/-- A disk on which these bytes lie. -/
def new (bytes : List UInt8) (room : Int) : Dk := { bytes := bytes, synced := bytes.length, room := (min (max room 0) 1073741824).toNat, dead := false, arms := [] }

/-- Does the operation die? With how much of the tail? What then waits? -/
def diesB (D : Dk) : Bool := match D.arms with
  | (0, _) :: _ => true
  | _ => false
def diesK (D : Dk) : Int := match D.arms with
  | [] => 0
  | (_, keep) :: _ => keep
def rest (D : Dk) : List (Nat × Int) := match D.arms with
  | [] => []
  | (0, _) :: r => r
  | (k + 1, keep) :: r => (k, keep) :: r
theorem gate_eq {D : Dk} (hd : D.dead = false) (L : Dk → Dk) : D.gate L = if D.diesB = true then ((L { D with arms := D.rest }).fail D.diesK, 10) else ({ D with arms := D.rest }, 0) := by
  obtain ⟨b, s, r, d, a⟩ := D
  simp only at hd
  subst hd
  unfold gate diesB rest diesK
  match a with
  | [] => rfl
  | (0, k) :: r => rfl
  | (n + 1, k) :: r => rfl
theorem gate_dead {D : Dk} (hd : D.dead = true) (L : Dk → Dk) : D.gate L = (D, 10) := if_pos hd
theorem gate_cases (D : Dk) (L : Dk → Dk) : (D.gate L).2 = 0 ∨ (D.gate L).2 = 10 := by
  unfold gate
  split
  · exact Or.inr rfl
  · split
    · exact Or.inl rfl
    · exact Or.inl rfl
    · exact Or.inr rfl
/-- It is in order. -/
structure Ok (D : Dk) : Prop where
  synced : D.synced ≤ D.bytes.length
  room : D.room ≤ 1073741824
  bytes : D.bytes.length ≤ 140737488351232
  arms : ∀ x ∈ D.arms, (x.1 : Int) ≤ 9223372036854775807 ∧ -9223372036854775808 ≤ x.2 ∧ x.2 ≤ 9223372036854775807

theorem kept_le {D : Dk} (h : D.synced ≤ D.bytes.length) (keep : Int) : D.kept keep ≤ D.bytes.length := by unfold kept; omega
theorem Ok.fail {D : Dk} (h : D.Ok) (keep : Int) : (D.fail keep).Ok := by
  have := kept_le h.synced keep
  have := h.bytes
  refine ⟨?_, h.room, ?_, h.arms⟩
  · show D.kept keep ≤ (D.bytes.take (D.kept keep)).length
    rw [List.length_take]; omega
  · show (D.bytes.take (D.kept keep)).length ≤ _
    rw [List.length_take]; omega
theorem Ok.putp {D : Dk} (h : D.Ok) (p : List UInt8) : (D.putp p).Ok := by
  unfold Dk.putp
  split
  · rename_i hf
    have := h.synced
    have := h.room
    unfold fits at hf
    refine ⟨?_, h.room, ?_, h.arms⟩
    · show D.synced ≤ (D.bytes ++ p).length
      rw [List.length_append]; omega
    · show (D.bytes ++ p).length ≤ _
      rw [List.length_append]; omega
  · exact h
theorem Ok.gate {D : Dk} (h : D.Ok) {L : Dk → Dk} (hL : ∀ D' : Dk, D'.Ok → (L D').Ok) : (D.gate L).1.Ok := by
  unfold Dk.gate
  split
  · exact h
  · split
    · exact h
    · rename_i k keep r he
      exact ⟨h.synced, h.room, h.bytes, fun x hx => by
        rcases List.mem_cons.1 hx with rfl | hx
        · have := h.arms (k + 1, keep) (by rw [he]; exact List.mem_cons_self ..)
          exact ⟨by omega, this.2⟩
        · exact h.arms x (by rw [he]; exact List.mem_cons_of_mem _ hx)⟩
    · rename_i keep r he
      exact (hL { D with arms := r } ⟨h.synced, h.room, h.bytes, fun x hx => h.arms x (by rw [he]; exact List.mem_cons_of_mem _ hx)⟩).fail keep
theorem Ok.rest {D : Dk} (h : D.Ok) : ({ D with arms := D.rest } : Dk).Ok := by
  refine ⟨h.synced, h.room, h.bytes, fun x hx => ?_⟩
  unfold Dk.rest at hx
  simp only at hx
  split at hx
  · cases hx
  · rename_i r he
    exact h.arms x (by rw [he]; exact List.mem_cons_of_mem _ hx)
  · rename_i k keep r he
    rcases List.mem_cons.1 hx with rfl | hx
    · have := h.arms (k + 1, keep) (by rw [he]; exact List.mem_cons_self ..)
      exact ⟨by omega, this.2⟩
    · exact h.arms x (by rw [he]; exact List.mem_cons_of_mem _ hx)
theorem Ok.diesK {D : Dk} (h : D.Ok) : -9223372036854775808 ≤ D.diesK ∧ D.diesK ≤ 9223372036854775807 := by
  unfold Dk.diesK
  split
  · omega
  · rename_i k keep r he
    exact (h.arms (k, keep) (by rw [he]; exact List.mem_cons_self ..)).2
theorem Ok.append {D : Dk} (h : D.Ok) (p : List UInt8) : (D.append p).1.Ok := by
  have hg := h.gate (L := (·.putp p)) (fun D' h' => h'.putp p)
  unfold Dk.append
  split
  · split
    · exact hg.putp p
    · exact hg
  · exact hg
theorem Ok.sync {D : Dk} (h : D.Ok) : D.sync.1.Ok := by
  have hg := h.gate (L := id) (fun D' h' => h')
  unfold Dk.sync
  split
  · exact ⟨Nat.le_refl _, hg.room, hg.bytes, hg.arms⟩
  · exact hg
theorem Ok.trunc {D : Dk} (h : D.Ok) (n : Int) : (D.trunc n).1.Ok := by
  have hg := h.gate (L := id) (fun D' h' => h')
  unfold Dk.trunc
  split
  · exact h
  · split
    · have := hg.synced
      have := hg.bytes
      refine ⟨?_, hg.room, ?_, hg.arms⟩
      · show min (D.gate id).1.synced n.toNat ≤ ((D.gate id).1.bytes.take n.toNat).length
        rw [List.length_take]; omega
      · show ((D.gate id).1.bytes.take n.toNat).length ≤ _
        rw [List.length_take]; omega
    · exact hg
theorem Ok.arm {D : Dk} (h : D.Ok) {after keep : Int} (h1 : after ≤ 9223372036854775807) (h2 : -9223372036854775808 ≤ keep) (h3 : keep ≤ 9223372036854775807) : (D.arm after keep).Ok :=
  ⟨h.synced, h.room, h.bytes, fun x hx => by
    rcases List.mem_append.1 hx with hx | hx
    · exact h.arms x hx
    · rw [List.mem_singleton] at hx
      subst hx
      exact ⟨by omega, h2, h3⟩⟩
theorem Ok.crash {D : Dk} (h : D.Ok) (keep : Int) : (D.crash keep).Ok := by
  unfold Dk.crash
  split
  · exact h
  · exact h.fail keep
theorem Ok.revive {D : Dk} (h : D.Ok) : D.revive.Ok := ⟨h.synced, h.room, h.bytes, h.arms⟩
theorem Ok.new {bytes : List UInt8} (h : bytes.length ≤ 140737488351232) (room : Int) : (Dk.new bytes room).Ok :=
  ⟨Nat.le_refl _, by show (min (max room 0) 1073741824).toNat ≤ _; omega, h, fun x hx => by cases hx⟩
end Dk
end Go.Proofs.YtjhlelcopofkkaaDoor

/-! Pr -/
namespace Go.Proofs.YtjhlelcopofkkaaDoor
open Go.RowKit

/-- Parts side by side. -/
def pr : List HP → HP
  | [] => 1
  | A :: l => A * pr l
/-- All but one. -/
def px (l : List HP) (i : Nat) : HP := pr (l.eraseIdx i)
theorem pr_nil : pr [] = 1 := rfl
theorem pr_cons (A : HP) (l : List HP) : pr (A :: l) = A * pr l := rfl
theorem pr_one (A : HP) : pr [A] = A := by rw [pr_cons, pr_nil, HP.mul_one]
theorem pr_append (l m : List HP) : pr (l ++ m) = pr l * pr m := by
  induction l with
  | nil => rw [List.nil_append, pr_nil, HP.one_mul]
  | cons A l ih => rw [List.cons_append, pr_cons, pr_cons, ih, HP.assoc]
theorem pr_snoc (l : List HP) (A : HP) : pr (l ++ [A]) = pr l * A := by rw [pr_append, pr_one]
theorem pr_at : ∀ {l : List HP} {i : Nat} {A : HP}, l[i]? = some A → pr l = px l i * A
  | [], i, A, h => by simp at h
  | B :: l, 0, A, h => by
    simp only [List.getElem?_cons_zero, Option.some.injEq] at h
    subst h
    rw [pr_cons, HP.comm]; rfl
  | B :: l, i + 1, A, h => by
    rw [pr_cons, pr_at (l := l) (by simpa using h), ← HP.assoc]; rfl
theorem px_set : ∀ (l : List HP) (i : Nat) (A : HP), px (l.set i A) i = px l i
  | [], _, _ => rfl
  | B :: l, 0, A => rfl
  | B :: l, i + 1, A => by
    show B * px (l.set i A) i = B * px l i
    rw [px_set l i A]
theorem px_back {l : List HP} {i : Nat} (A : HP) (h : i < l.length) : px l i * A = pr (l.set i A) := by
  rw [pr_at (l := l.set i A) (i := i) (A := A) (by simp [h]), px_set]

section
variable {w0 w : World} {l : List HP}
/-- One part taken out. -/
theorem Sat.at {A : HP} (hs : Sat w0 w (pr l)) (i : Nat) (h : l[i]? = some A := by rfl) : Sat w0 w (px l i * A) := by
  rw [← pr_at h]; exact hs
/-- Another one put in its place. -/
theorem Sat.back {A : HP} {i : Nat} (hs : Sat w0 w (px l i * A)) (h : i < l.length := by decide) : Sat w0 w (pr (l.set i A)) := by
  rw [← px_back A h]; exact hs
theorem Sat.back2 {A B : HP} {i : Nat} (hs : Sat w0 w (px l i * A * B)) (h : i < l.length := by decide) : Sat w0 w (pr (l.set i A ++ [B])) := by
  rw [pr_snoc, ← px_back A h]; exact hs
theorem Sat.back3 {A B C : HP} {i : Nat} (hs : Sat w0 w (px l i * A * B * C)) (h : i < l.length := by decide) : Sat w0 w (pr (l.set i A ++ [B, C])) := by
  rw [show l.set i A ++ [B, C] = (l.set i A ++ [B]) ++ [C] by simp, pr_snoc, pr_snoc, ← px_back A h]; exact hs
/-- One more. -/
theorem Sat.push {A : HP} (hs : Sat w0 w (pr l * A)) : Sat w0 w (pr (l ++ [A])) := by rw [pr_snoc]; exact hs
theorem Sat.adds {w' : World} {A : HP} (hs : Sat w0 w (pr l)) (ha : Sat w w' A) : Sat w0 w' (pr (l ++ [A])) := (hs.glue ha).push
/-- One less. -/
theorem Sat.less (hs : Sat w0 w (pr l)) (i : Nat) (h : i < l.length := by decide) : Sat w0 w (pr (l.eraseIdx i)) :=
  (hs.at i (List.getElem?_eq_getElem h)).drop
theorem Sat.pr1 {A : HP} (hs : Sat w0 w A) : Sat w0 w (pr [A]) := by rw [pr_one]; exact hs
theorem Sat.unpr1 {A : HP} (hs : Sat w0 w (pr [A])) : Sat w0 w A := by rw [pr_one] at hs; exact hs
theorem Sat.pr2 {A B : HP} (hs : Sat w0 w (A * B)) : Sat w0 w (pr [A, B]) := by rw [pr_cons, pr_one]; exact hs
theorem Sat.pr3 {A B C : HP} (hs : Sat w0 w (A * B * C)) : Sat w0 w (pr [A, B, C]) := by rw [pr_cons, pr_cons, pr_one, ← HP.assoc]; exact hs
theorem Sat.pr4 {A B C D : HP} (hs : Sat w0 w (A * B * C * D)) : Sat w0 w (pr [A, B, C, D]) := by rw [pr_cons, pr_cons, pr_cons, pr_one, ← HP.assoc, ← HP.assoc]; exact hs
theorem Sat.unpr2 {A B : HP} (hs : Sat w0 w (pr [A, B])) : Sat w0 w (A * B) := by rw [pr_cons, pr_one] at hs; exact hs
theorem Sat.unpr3 {A B C : HP} (hs : Sat w0 w (pr [A, B, C])) : Sat w0 w (A * B * C) := by rw [pr_cons, pr_cons, pr_one, ← HP.assoc] at hs; exact hs
theorem Sat.unpr4 {A B C D : HP} (hs : Sat w0 w (pr [A, B, C, D])) : Sat w0 w (A * B * C * D) := by rw [pr_cons, pr_cons, pr_cons, pr_one, ← HP.assoc, ← HP.assoc] at hs; exact hs
/-- All that was beside the first part alone. -/
theorem Sat.first {A : HP} {m : List HP} (hs : Sat w0 w (pr (A :: m))) : Sat w0 w A := by
  rw [pr_cons] at hs; exact hs.drop
end
end Go.Proofs.YtjhlelcopofkkaaDoor
