/- What a Put leaves to be found again: in plain Lean. The log that stands or doesn't. -/
import Derived.Test.YtjhlelcopofkkaaDoorFopened
namespace Go.Proofs.YtjhlelcopofkkaaDoor
open Go.RowKit

namespace Kept
variable {R c s : Nat} {D D' : Dk} {L L' : Lg} {T S W : List (List UInt8)} {A X : Bool} {p : List UInt8}
theorem clean (h : Kept R D (some L) T S W A X) (hL : L.dead = false) : W = [] ∧ D.bytes = enc (T ++ S) ∧ X = false := by
  refine ⟨?_, ?_, ?_⟩
  · rcases h.bytes with ⟨e, _⟩ | ⟨_, _, _, _, _, e⟩
    · exact e
    · have := e L rfl; rw [hL] at this; cases this
  · rcases h.bytes with ⟨_, e⟩ | ⟨_, _, _, _, _, e⟩
    · exact e
    · have := e L rfl; rw [hL] at this; cases this
  · rw [← h.lost L rfl]; exact hL
theorem lose (h : Kept R D (some L) T S W A X) (hL : L.dead = false) (hL' : L'.dead = true) : Kept R D (some L') T S W A true := by
  obtain ⟨e1, e2, _⟩ := h.clean hL
  exact ⟨h.ok, h.calm, h.room, h.arms, h.good, Or.inl ⟨e1, e2⟩, h.fit, fun L e => by cases e; exact hL'⟩
theorem put0 (h : Kept R D (some L) T S W A X) (hL : L.dead = false) (hp : GoodP p) (hD : D'.Ok) (h1 : D'.room = D.room) (h2 : D.arms = [] → D'.arms = []) (h3 : D'.synced = D'.bytes.length) (h4 : D'.bytes = D.bytes ++ wframe p) (h5 : D.bytes.length + (8 + p.length) ≤ D.room) (hL' : L'.dead = false) : Kept R D' (some L') T (S ++ [p]) W A X := by
  obtain ⟨e1, e2, e3⟩ := h.clean hL
  refine ⟨hD, h3, h1.trans h.room, fun e => h2 (h.arms e), fun q hq => ?_, Or.inl ⟨e1, ?_⟩, ?_, fun L e => by cases e; rw [hL', e3]⟩
  · rw [← List.append_assoc] at hq
    rcases List.mem_append.1 hq with hq | hq
    · exact h.good q hq
    · rw [List.mem_singleton] at hq; subst hq; exact hp
  · rw [h4, e2, ← List.append_assoc, enc_append (T ++ S), enc_cons, enc_nil, List.append_nil]
  · rw [h4, List.length_append, wframe_length, ← h.room]; exact h5
theorem put9 (h : Kept R D (some L) T S W A X) (hL : L.dead = false) (hD : D'.Ok) (h1 : D'.room = D.room) (h2 : D.arms = [] → D'.arms = []) (h3 : D'.synced = D'.bytes.length) (h4 : D'.bytes = D.bytes) (hL' : L'.dead = false) : Kept R D' (some L') T S W A X := by
  obtain ⟨e1, e2, e3⟩ := h.clean hL
  exact ⟨hD, h3, h1.trans h.room, fun e => h2 (h.arms e), h.good, Or.inl ⟨e1, h4.trans e2⟩, by rw [h4]; exact h.fit, fun L e => by cases e; rw [hL', e3]⟩
theorem put10 (h : Kept R D (some L) T S W A X) (hL : L.dead = false) (hp : GoodP p) (hD : D'.Ok) (h1 : D'.room = D.room) (h2 : D.arms = [] → D'.arms = []) (h3 : D'.synced = D'.bytes.length) (j : Nat) (h4 : D'.bytes = D.bytes ++ (wframe p).take j) (h5 : D.bytes.length ≤ D.room → D'.bytes.length ≤ D.room) (hL' : L'.dead = true) : Kept R D' (some L') T S (W ++ [p]) A true := by
  obtain ⟨e1, e2, _⟩ := h.clean hL
  subst e1
  refine ⟨hD, h3, h1.trans h.room, fun e => h2 (h.arms e), h.good, Or.inr ⟨p, j, rfl, hp, by rw [h4, e2], fun L e => by cases e; exact hL'⟩, ?_, fun L e => by cases e; exact hL'⟩
  have := h.fit
  rw [← h.room] at this ⊢
  exact h5 this
end Kept
theorem size_put (T S : List (List UInt8)) (p : List UInt8) : size (T ++ (S ++ [p])) = size (T ++ S) + (8 + p.length) := by rw [← List.append_assoc, size_snoc]

/-- The log that stands, or none. -/
def logp (b : Nat) (lv : Value) : Option Lg → HP
  | none => fun h => lv = .pointer none ∧ (1 : HP) h
  | some L => fun h => ∃ bl, lv = .pointer (some ⟨bl, 0, none⟩) ∧ (lg bl b L) h
section
variable {w0 w : World} {F : HP} {b : Nat} {lv : Value} {L : Lg}
theorem Sat.logp0 (hs : Sat w0 w (F * logp b lv none)) : lv = .pointer none ∧ Sat w0 w F := by
  have hd := hs.drop
  obtain ⟨x, ⟨h1, h2, ha, ⟨e1, _⟩, _, _⟩, _⟩ := hs.held
  exact ⟨e1, hd⟩
theorem Sat.logp0_mk (hs : Sat w0 w F) : Sat w0 w (F * logp b (.pointer none) none) := hs.one.imp_last fun _ h => ⟨rfl, h⟩
theorem Sat.logp1 (hs : Sat w0 w (F * logp b lv (some L))) : ∃ bl, lv = .pointer (some ⟨bl, 0, none⟩) ∧ Sat w0 w (F * lg bl b L) := by
  obtain ⟨x, ⟨h1, h2, ha, ⟨bl, e1, hb⟩, hd, hu⟩, hx⟩ := hs.held
  exact ⟨bl, e1, hs.below, x, ⟨h1, h2, ha, hb, hd, hu⟩, hx⟩
theorem Sat.logp1_mk {bl : Nat} (hs : Sat w0 w (F * lg bl b L)) : Sat w0 w (F * logp b (.pointer (some ⟨bl, 0, none⟩)) (some L)) := hs.imp_last fun _ h => ⟨bl, rfl, h⟩
/-- The mark that arms were laid down. -/
theorem Sat.fate_arm {bf : Nat} {T S W : List (List UInt8)} {A X : Bool} {sz : Int} (hs : Sat w0 w (F * fate bf T S W A sz X)) : w.cell? ⟨bf, 3, none⟩ = some (.bool A) ∧ w.frozen? ⟨bf, 3, none⟩ = false ∧ Sat w0 (w.setCell ⟨bf, 3, none⟩ (.bool true)) (F * fate bf T S W true sz X) := by
  obtain ⟨tv, sv, wv, h⟩ := hs.fate_open
  exact ⟨h.cell rfl, h.free 3, Sat.fate_shut (h.store 3 (.bool true))⟩
end
end Go.Proofs.YtjhlelcopofkkaaDoor
