/- What a failing power leaves of a log: in plain Lean. -/
import Derived.Test.YtjhlelcopofkkaaDoorPlayLen
import Derived.Test.YtjhlelcopofkkaaDoorWalFullW
namespace Go.Proofs.YtjhlelcopofkkaaDoor

namespace Dk
theorem fail_calm {D : Dk} (h : D.synced = D.bytes.length) (k : Int) : D.fail k = { D with dead := true } := by
  have hk : D.kept k = D.bytes.length := by unfold kept; omega
  unfold fail
  rw [hk, List.take_length, h]
theorem fail_tail {D : Dk} (h : D.synced ≤ D.bytes.length) (k : Int) : ∃ j, D.synced ≤ j ∧ j ≤ D.bytes.length ∧ (D.fail k).bytes = D.bytes.take j ∧ (D.fail k).synced = (D.fail k).bytes.length ∧ (D.fail k).dead = true ∧ (D.fail k).arms = D.arms ∧ (D.fail k).room = D.room := by
  have h2 := kept_le h k
  refine ⟨D.kept k, by unfold kept; omega, h2, rfl, ?_, rfl, rfl, rfl⟩
  show D.kept k = (D.bytes.take (D.kept k)).length
  rw [List.length_take]; omega
theorem rest_nil {D : Dk} (h : D.arms = []) : D.rest = [] := by unfold rest; rw [h]
theorem dies_arms {D : Dk} (h : D.diesB = true) : D.arms ≠ [] := by
  intro e
  unfold diesB at h
  rw [e] at h
  cases h
/-- A gate in front of nothing, at a disk of which all is synced. -/
theorem gate_calm {D : Dk} (hd : D.dead = false) (hc : D.synced = D.bytes.length) : D.gate id = (D.ticked, 0) ∨ (D.gate id = ({ D.ticked with dead := true }, 10) ∧ D.arms ≠ []) := by
  cases hk : D.diesB with
  | true =>
    right
    rw [gate_dies hd hk]
    exact ⟨by rw [show (id D.ticked) = D.ticked from rfl, fail_calm (D := D.ticked) hc], dies_arms hk⟩
  | false => left; rw [gate_lives hd hk]
end Dk

/-- An opening, of a living disk of which all is synced. -/
theorem wopen_spec {D : Dk} (hd : D.dead = false) (hc : D.synced = D.bytes.length) : ∃ D' : Dk, D'.room = D.room ∧ (D.arms = [] → D'.arms = []) ∧ D'.synced = D'.bytes.length ∧
    ((D.wopen = (D', 0) ∧ D'.bytes = head D.bytes ∧ D'.dead = false) ∨ (D.wopen = (D', 10) ∧ (D'.bytes = D.bytes ∨ D'.bytes = head D.bytes) ∧ D'.dead = true ∧ D.arms ≠ [])) := by
  have hra : ∀ {D : Dk}, D.arms = [] → D.ticked.arms = [] := fun h => Dk.rest_nil h
  have hsync : ∀ (B : Dk), B.dead = false → B.synced ≤ B.bytes.length → (B.bytes = head D.bytes) → (B.synced = B.bytes.length) → B.room = D.room → (D.arms = [] → B.arms = []) → ∃ D' : Dk, D'.room = D.room ∧ (D.arms = [] → D'.arms = []) ∧ D'.synced = D'.bytes.length ∧ ((B.sync = (D', 0) ∧ D'.bytes = head D.bytes ∧ D'.dead = false) ∨ (B.sync = (D', 10) ∧ (D'.bytes = D.bytes ∨ D'.bytes = head D.bytes) ∧ D'.dead = true ∧ D.arms ≠ [])) := by
    intro B h1 _ h3 h4 h5 h6
    rcases Dk.gate_calm h1 h4 with h | ⟨h, ha⟩
    · refine ⟨{ B.ticked with synced := B.bytes.length }, h5, fun e => hra (h6 e), rfl, Or.inl ⟨?_, h3, h1⟩⟩
      unfold Dk.sync
      rw [h, if_pos rfl]; rfl
    · refine ⟨{ B.ticked with dead := true }, h5, fun e => hra (h6 e), h4, Or.inr ⟨?_, Or.inr h3, rfl, fun e => ha (h6 e)⟩⟩
      unfold Dk.sync
      rw [h, if_neg (show ¬ (10 : Nat) = 0 by decide)]
  rcases Dk.gate_calm hd hc with h | ⟨h, ha⟩
  · by_cases hlt : size (frames D.bytes) < D.bytes.length
    · rcases Dk.gate_calm (D := D.ticked) hd hc with h2 | ⟨h2, ha2⟩
      · have ht : D.ticked.trunc (size (frames D.bytes)) = ({ D.ticked.ticked with bytes := D.bytes.take (size (frames D.bytes)), synced := min D.synced (size (frames D.bytes)) }, 0) := by
          unfold Dk.trunc
          rw [if_neg (by show ¬ (D.dead = false ∧ (_ < 0 ∨ (D.bytes.length : Int) < _)); omega), h2, if_pos rfl, Int.toNat_natCast]
          rfl
        obtain ⟨D', e1, e2, e3, e4⟩ := hsync { D.ticked.ticked with bytes := D.bytes.take (size (frames D.bytes)), synced := min D.synced (size (frames D.bytes)) } hd (by simp only [List.length_take]; omega) rfl (by simp only [List.length_take]; omega) rfl (fun e => hra (hra e))
        refine ⟨D', e1, e2, e3, ?_⟩
        have hw : D.wopen = ({ D.ticked.ticked with bytes := D.bytes.take (size (frames D.bytes)), synced := min D.synced (size (frames D.bytes)) } : Dk).sync := by
          unfold Dk.wopen
          rw [h, if_pos rfl, if_pos hlt, ht, if_pos rfl]
        rw [hw]
        exact e4
      · have ht : D.ticked.trunc (size (frames D.bytes)) = ({ D.ticked.ticked with dead := true }, 10) := by
          unfold Dk.trunc
          rw [if_neg (by show ¬ (D.dead = false ∧ (_ < 0 ∨ (D.bytes.length : Int) < _)); omega), h2, if_neg (show ¬ (10 : Nat) = 0 by decide)]
        refine ⟨{ D.ticked.ticked with dead := true }, rfl, fun e => hra (hra e), hc, Or.inr ⟨?_, Or.inl rfl, rfl, fun e => ha2 (hra e)⟩⟩
        unfold Dk.wopen
        rw [h, if_pos rfl, if_pos hlt, ht, if_neg (show ¬ (10 : Nat) = 0 by decide)]
    · have hh : head D.bytes = D.bytes := head_all (by omega)
      obtain ⟨D', e1, e2, e3, e4⟩ := hsync D.ticked hd (by show D.synced ≤ D.bytes.length; omega) hh.symm hc rfl (fun e => hra e)
      refine ⟨D', e1, e2, e3, ?_⟩
      have hw : D.wopen = D.ticked.sync := by
        unfold Dk.wopen
        rw [h, if_pos rfl, if_neg hlt]
      rw [hw]
      exact e4
  · refine ⟨{ D.ticked with dead := true }, rfl, fun e => hra e, hc, Or.inr ⟨?_, Or.inl rfl, rfl, ha⟩⟩
    unfold Dk.wopen
    rw [h, if_neg (show ¬ (10 : Nat) = 0 by decide)]

/-- A Sync. -/
theorem sync_tail {B : Dk} (hd : B.dead = false) (hs : B.synced ≤ B.bytes.length) : ∃ B' : Dk, B'.room = B.room ∧ (B.arms = [] → B'.arms = []) ∧ B'.synced = B'.bytes.length ∧
    ((B.sync = (B', 0) ∧ B'.bytes = B.bytes ∧ B'.dead = false) ∨ (B.sync = (B', 10) ∧ (∃ j, B.synced ≤ j ∧ j ≤ B.bytes.length ∧ B'.bytes = B.bytes.take j) ∧ B'.dead = true)) := by
  cases hk : B.diesB with
  | true =>
    have hg : B.gate id = (B.ticked.fail B.diesK, 10) := Dk.gate_dies hd hk id
    obtain ⟨j, j1, j2, b1, b2, b3, b4, b5⟩ := Dk.fail_tail (D := B.ticked) hs B.diesK
    refine ⟨_, b5, fun e => by rw [b4]; exact Dk.rest_nil e, b2, Or.inr ⟨?_, ⟨j, j1, j2, b1⟩, b3⟩⟩
    unfold Dk.sync
    rw [hg, if_neg (show ¬ (10 : Nat) = 0 by decide)]
  | false =>
    have hg : B.gate id = (B.ticked, 0) := Dk.gate_lives hd hk id
    refine ⟨{ B.ticked with synced := B.bytes.length }, rfl, fun e => Dk.rest_nil e, rfl, Or.inl ⟨?_, rfl, hd⟩⟩
    unfold Dk.sync
    rw [hg, if_pos rfl]; rfl

/-- A Put of a log that has lost nothing, on a living disk of which all is synced. -/
theorem put_spec {c s : Nat} {D : Dk} (hd : D.dead = false) (hc : D.synced = D.bytes.length) {p : List UInt8} (hp : 1 ≤ p.length ∧ p.length ≤ 8192) : ∃ (L' : Lg) (D' : Dk) (er : Nat), Lg.put ⟨c, s, false⟩ D p = (L', D', er) ∧ D'.room = D.room ∧ (D.arms = [] → D'.arms = []) ∧ D'.synced = D'.bytes.length ∧
    ((er = 0 ∧ D'.bytes = D.bytes ++ wframe p ∧ D'.dead = false ∧ L'.dead = false ∧ D.bytes.length + (8 + p.length) ≤ D.room) ∨
     (er = 9 ∧ D'.bytes = D.bytes ∧ D'.dead = false ∧ L'.dead = false ∧ ¬ D.bytes.length + (8 + p.length) ≤ D.room) ∨
     (er = 10 ∧ (∃ j, D'.bytes = D.bytes ++ (wframe p).take j) ∧ D'.dead = true ∧ L'.dead = true ∧ (D.bytes.length ≤ D.room → D'.bytes.length ≤ D.room))) := by
  have hra : ∀ {D : Dk}, D.arms = [] → D.ticked.arms = [] := fun h => Dk.rest_nil h
  have hput : Lg.put ⟨c, s, false⟩ D p = if (D.append (wframe p)).2 = 0 then
        (if (D.append (wframe p)).1.sync.2 = 0 then (⟨c + 1, s + (8 + p.length), false⟩, (D.append (wframe p)).1.sync.1, 0)
         else (⟨c, s, true⟩, (D.append (wframe p)).1.sync.1, 10))
        else (⟨c, s, (D.append (wframe p)).2 == 10⟩, (D.append (wframe p)).1, (D.append (wframe p)).2) := by
    unfold Lg.put
    rw [if_pos hp, if_neg (show ¬ false = true by decide)]
  have hwl := wframe_length p
  cases hk : D.diesB with
  | true =>
    have hg : D.gate (·.putp (wframe p)) = ((D.ticked.putp (wframe p)).fail D.diesK, 10) := Dk.gate_dies hd hk _
    have ha : D.append (wframe p) = ((D.ticked.putp (wframe p)).fail D.diesK, 10) := by
      unfold Dk.append
      rw [hg, if_neg (show ¬ (10 : Nat) = 0 by decide)]
    have hB : ∃ j, ((D.ticked.putp (wframe p)).fail D.diesK).bytes = D.bytes ++ (wframe p).take j ∧ (D.bytes.length ≤ D.room → ((D.ticked.putp (wframe p)).fail D.diesK).bytes.length ≤ D.room) ∧ ((D.ticked.putp (wframe p)).fail D.diesK).synced = ((D.ticked.putp (wframe p)).fail D.diesK).bytes.length ∧ ((D.ticked.putp (wframe p)).fail D.diesK).arms = D.rest ∧ ((D.ticked.putp (wframe p)).fail D.diesK).room = D.room := by
      by_cases hf : D.ticked.fits (wframe p).length
      · have e : D.ticked.putp (wframe p) = { D.ticked with bytes := D.bytes ++ wframe p } := if_pos hf
        rw [e]
        obtain ⟨j, j1, j2, b1, b2, _, b4, b5⟩ := Dk.fail_tail (D := { D.ticked with bytes := D.bytes ++ wframe p }) (by show D.synced ≤ (D.bytes ++ wframe p).length; rw [List.length_append]; omega) D.diesK
        have j1' : D.bytes.length ≤ j := by rw [← hc]; exact j1
        have hb : (D.bytes ++ wframe p).take j = D.bytes ++ (wframe p).take (j - D.bytes.length) := by
          rw [List.take_append, List.take_of_length_le j1']
        refine ⟨j - D.bytes.length, by rw [b1]; exact hb, fun _ => ?_, b2, b4, b5⟩
        rw [b1]
        have hf' : D.bytes.length + (wframe p).length ≤ D.room := hf
        show ((D.bytes ++ wframe p).take j).length ≤ _
        rw [List.length_take, List.length_append]; omega
      · have e : D.ticked.putp (wframe p) = D.ticked := if_neg hf
        rw [e, Dk.fail_calm (D := D.ticked) hc]
        exact ⟨0, by simp [Dk.ticked], fun h => h, hc, rfl, rfl⟩
    obtain ⟨j, h1, h2, h3, h4, h5⟩ := hB
    refine ⟨_, _, 10, by rw [hput, ha, if_neg (show ¬ (10 : Nat) = 0 by decide)], h5, fun e => by rw [h4]; exact Dk.rest_nil e, h3, Or.inr (Or.inr ⟨rfl, ⟨j, h1⟩, rfl, rfl, h2⟩)⟩
  | false =>
    have hg : D.gate (·.putp (wframe p)) = (D.ticked, 0) := Dk.gate_lives hd hk _
    by_cases hf : D.bytes.length + (8 + p.length) ≤ D.room
    · have hfit : D.ticked.fits (wframe p).length := by show D.bytes.length + (wframe p).length ≤ D.room; omega
      have ha : D.append (wframe p) = ({ D.ticked with bytes := D.bytes ++ wframe p }, 0) := by
        unfold Dk.append
        rw [hg, if_pos rfl, if_pos hfit]
        unfold Dk.putp
        rw [if_pos hfit]; rfl
      obtain ⟨B, hB⟩ : ∃ B : Dk, ({ D.ticked with bytes := D.bytes ++ wframe p } : Dk) = B := ⟨_, rfl⟩
      have hB1 : B.bytes = D.bytes ++ wframe p := by rw [← hB]
      have hB2 : B.synced = D.bytes.length := by rw [← hB]; exact hc
      have hB3 : B.dead = false := by rw [← hB]; exact hd
      have hB4 : D.arms = [] → B.arms = [] := fun e => by rw [← hB]; exact Dk.rest_nil e
      have hB5 : B.room = D.room := by rw [← hB]; rfl
      have ha' : D.append (wframe p) = (B, 0) := ha.trans (by rw [← hB])
      obtain ⟨B', r1, r2, r3, r4⟩ := sync_tail hB3 (by rw [hB1, hB2, List.length_append]; omega)
      rcases r4 with ⟨e1, e2, e3⟩ | ⟨e1, ⟨j, j1, j2, e2⟩, e3⟩
      · exact ⟨_, _, 0, by rw [hput, ha', if_pos rfl, e1, if_pos rfl], r1.trans hB5, fun e => r2 (hB4 e), r3, Or.inl ⟨rfl, e2.trans hB1, e3, rfl, hf⟩⟩
      · rw [hB2] at j1
        have hb : (D.bytes ++ wframe p).take j = D.bytes ++ (wframe p).take (j - D.bytes.length) := by
          rw [List.take_append, List.take_of_length_le j1]
        refine ⟨_, _, 10, by rw [hput, ha', if_pos rfl, e1, if_neg (show ¬ (10 : Nat) = 0 by decide)], r1.trans hB5, fun e => r2 (hB4 e), r3, Or.inr (Or.inr ⟨rfl, ⟨j - D.bytes.length, by rw [e2, hB1]; exact hb⟩, e3, rfl, fun _ => ?_⟩)⟩
        rw [e2, hB1, List.length_take, List.length_append]; omega
    · have hfit : ¬ D.ticked.fits (wframe p).length := by show ¬ D.bytes.length + (wframe p).length ≤ D.room; omega
      have ha : D.append (wframe p) = (D.ticked, 9) := by
        unfold Dk.append
        rw [hg, if_pos rfl, if_neg hfit]
      exact ⟨⟨c, s, false⟩, D.ticked, 9, by rw [hput, ha, if_neg (show ¬ (9 : Nat) = 0 by decide)]; rfl, rfl, fun e => Dk.rest_nil e, hc, Or.inr (Or.inl ⟨rfl, rfl, hd, rfl, hf⟩)⟩
theorem put_lost {c s : Nat} {D : Dk} {p : List UInt8} (hp : 1 ≤ p.length ∧ p.length ≤ 8192) : Lg.put ⟨c, s, true⟩ D p = (⟨c, s, true⟩, D, 10) := by
  unfold Lg.put
  rw [if_pos hp, if_pos rfl]
theorem put_dead {c s : Nat} {D : Dk} (hd : D.dead = true) {p : List UInt8} (hp : 1 ≤ p.length ∧ p.length ≤ 8192) : Lg.put ⟨c, s, false⟩ D p = (⟨c, s, true⟩, D, 10) := by
  have ha : D.append (wframe p) = (D, 10) := by
    unfold Dk.append
    rw [Dk.gate_dead hd, if_neg (show ¬ (10 : Nat) = 0 by decide)]
  unfold Lg.put
  rw [if_pos hp, if_neg (show ¬ false = true by decide), ha, if_neg (show ¬ (10 : Nat) = 0 by decide)]
  rfl

theorem frames_enc_rest {ps : List (List UInt8)} (h : ∀ p ∈ ps, 1 ≤ p.length ∧ p.length ≤ 8192) (rest : List UInt8) : frames (enc ps ++ rest) = ps ++ frames rest := by
  induction ps with
  | nil => rfl
  | cons p ps ih =>
    have hp := h p (List.mem_cons_self ..)
    rw [enc_cons, List.append_assoc, frames_wframe _ hp.1 hp.2, ih (fun q hq => h q (List.mem_cons_of_mem _ hq)), List.cons_append]
/-- The head of a frame. -/
def head8 (p : List UInt8) : List UInt8 := num4 p.length ++ num4 (crc (num4 p.length ++ p)).toNat
def GoodP (p : List UInt8) : Prop := 1 ≤ p.length ∧ p.length ≤ 8192
theorem frames_pre {G : List (List UInt8)} (hG : ∀ q ∈ G, GoodP q) {p : List UInt8} (hp : GoodP p) (j : Nat) : frames (enc G ++ (wframe p).take j) = G ∨ frames (enc G ++ (wframe p).take j) = G ++ [p] := by
  have h1 := frames_cut (ps := [p]) (fun q hq => by rw [List.mem_singleton] at hq; subst hq; exact hp) j
  have e : enc [p] = wframe p := by rw [enc_cons, enc_nil, List.append_nil]
  rw [e] at h1
  rw [frames_enc_rest hG, h1]
  by_cases h : 8 + p.length ≤ j
  · right
    have : whole j [p] = 1 := by simp [whole, h]
    rw [this]; rfl
  · left
    have : whole j [p] = 0 := by simp [whole, h]
    rw [this]; simp

/-- What must be found again, and what lies there. -/
structure Kept (R : Nat) (D : Dk) (o : Option Lg) (T S W : List (List UInt8)) (A X : Bool) : Prop where
  ok : D.Ok
  calm : D.synced = D.bytes.length
  room : D.room = R
  arms : A = false → D.arms = []
  good : ∀ p ∈ T ++ S, GoodP p
  bytes : (W = [] ∧ D.bytes = enc (T ++ S)) ∨ ∃ p j, W = [p] ∧ GoodP p ∧ D.bytes = enc (T ++ S) ++ (wframe p).take j ∧ ∀ L, o = some L → L.dead = true
  fit : D.bytes.length ≤ R
  lost : ∀ L, o = some L → L.dead = X
namespace Kept
variable {R : Nat} {D D' : Dk} {o : Option Lg} {T S W : List (List UInt8)} {A X : Bool}
theorem size_le (h : Kept R D o T S W A X) : size (T ++ S) ≤ R := by
  have := h.fit
  rcases h.bytes with ⟨_, e⟩ | ⟨p, j, _, _, e, _⟩
  · rw [e, enc_length] at this; exact this
  · rw [e, List.length_append, enc_length] at this; omega
theorem way_le (h : Kept R D o T S W A X) : W.length ≤ 1 ∧ ∀ p ∈ W, GoodP p := by
  rcases h.bytes with ⟨e, _⟩ | ⟨p, j, e, hp, _⟩
  · subst e; exact ⟨by simp, fun p hp => by cases hp⟩
  · subst e; exact ⟨by simp, fun q hq => by rw [List.mem_singleton] at hq; subst hq; exact hp⟩
theorem crash (h : Kept R D o T S W A X) (n : Int) : Kept R (D.crash n) o T S W A X := by
  by_cases hd : D.dead = true
  · have e : D.crash n = D := if_pos hd
    rw [e]; exact h
  · have e : D.crash n = { D with dead := true } := by rw [show D.crash n = D.fail n from if_neg hd, Dk.fail_calm h.calm]
    have ho := h.ok.crash n
    rw [e] at ho ⊢
    exact ⟨ho, h.calm, h.room, h.arms, h.good, h.bytes, h.fit, h.lost⟩
theorem arm (h : Kept R D o T S W A X) {n m : Int} (h1 : n ≤ 9223372036854775807) (h2 : -9223372036854775808 ≤ m) (h3 : m ≤ 9223372036854775807) : Kept R (D.arm n m) o T S W true X :=
  ⟨h.ok.arm h1 h2 h3, h.calm, h.room, (fun e => by cases e), h.good, h.bytes, h.fit, h.lost⟩
theorem revive (h : Kept R D o T S W A X) : Kept R D.revive o T S W A X :=
  ⟨h.ok.revive, h.calm, h.room, h.arms, h.good, h.bytes, h.fit, h.lost⟩
/-- What an opening finds. -/
theorem found (h : Kept R D o T S W A X) : frames D.bytes = T ++ S ∨ frames D.bytes = (T ++ S) ++ W := by
  rcases h.bytes with ⟨_, e⟩ | ⟨p, j, e1, hp, e, _⟩
  · left; rw [e]; exact frames_enc h.good
  · rw [e, e1]; exact frames_pre h.good hp j
theorem opened (h : Kept R D o T S W A X) (hD : D'.Ok) (h1 : D'.room = D.room) (h2 : D.arms = [] → D'.arms = []) (h3 : D'.synced = D'.bytes.length) (h4 : D'.bytes = head D.bytes) (c s : Nat) : Kept R D' (some ⟨c, s, false⟩) (frames D.bytes) [] [] A false := by
  refine ⟨hD, h3, h1.trans h.room, fun e => h2 (h.arms e), fun p hp => ?_, Or.inl ⟨rfl, ?_⟩, ?_, fun L e => by cases e; rfl⟩
  · rw [List.append_nil] at hp; exact frames_mem p hp
  · rw [List.append_nil, h4, head_enc]
  · rw [h4]
    have := h.fit
    unfold head
    rw [List.length_take]; omega
theorem failed (h : Kept R D o T S W A X) (hD : D'.Ok) (h1 : D'.room = D.room) (h2 : D.arms = [] → D'.arms = []) (h3 : D'.synced = D'.bytes.length) (h4 : D'.bytes = D.bytes ∨ D'.bytes = head D.bytes) : Kept R D' none T S W A X := by
  rcases h4 with h4 | h4
  · refine ⟨hD, h3, h1.trans h.room, fun e => h2 (h.arms e), h.good, ?_, by rw [h4]; exact h.fit, fun L e => by cases e⟩
    rw [h4]
    rcases h.bytes with hb | ⟨p, j, e1, hp, e, _⟩
    · exact Or.inl hb
    · exact Or.inr ⟨p, j, e1, hp, e, fun L e => by cases e⟩
  · have hle : D'.bytes.length ≤ R := by
      have := h.fit
      rw [h4]; unfold head
      rw [List.length_take]; omega
    refine ⟨hD, h3, h1.trans h.room, fun e => h2 (h.arms e), h.good, ?_, hle, fun L e => by cases e⟩
    rw [h4, head_enc]
    rcases h.bytes with ⟨e1, e⟩ | ⟨p, j, e1, hp, e, _⟩
    · left; rw [e, frames_enc h.good]; exact ⟨e1, rfl⟩
    · right
      rw [e]
      rcases frames_pre h.good hp j with hf | hf
      · exact ⟨p, 0, e1, hp, by rw [hf]; simp, fun L e => by cases e⟩
      · refine ⟨p, (wframe p).length, e1, hp, ?_, fun L e => by cases e⟩
        rw [hf, List.take_length, enc_append, enc_cons, enc_nil, List.append_nil]
end Kept
end Go.Proofs.YtjhlelcopofkkaaDoor
