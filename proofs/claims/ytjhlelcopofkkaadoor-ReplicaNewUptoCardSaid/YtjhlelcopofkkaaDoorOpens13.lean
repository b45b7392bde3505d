/- The openings of both logs, each way by itself; the logs that stand or don't. -/
import Derived.Test.YtjhlelcopofkkaaDoorPut13
import Derived.Test.YtjhlelcopofkkaaDoorPlayLen
namespace Go.Proofs.YtjhlelcopofkkaaDoor
open Go.RowKit

section
variable {w0 w : World} {F : HP} {b : Nat} {D D' : Dk} {E : Nat → Addr} {fs : List (List UInt8)} {z : Nat}
theorem wal_open_0 (hE1 : ErrAt w0 E 1) (hE : ErrAt w0 E 10) (hT : CrcTab w0) (hD : D.Ok) (hl : D.bytes.length ≤ 16777216) (hw : D.wopen = (D', 0)) (h1 : frames D.bytes = fs) (h3 : size fs = z) (hs : Sat w0 w (F * dk b D)) :
    Calls Tryd.prog 71 #[.pointer (some ⟨b, 0, none⟩)] w (Ret fun v w' => ∃ (bl : Nat) (lo : Option Addr) (lc : Nat), v = .tuple #[.pointer (some ⟨bl, 0, none⟩), .slice lo fs.length lc, .nilIface] ∧ Sat w0 w' (F * dk b D' * lg bl b ⟨fs.length, z, false⟩ * vecs (.slice lo fs.length lc) fs)) := by
  subst h1; subst h3
  refine (wal_open hE1 hE hT hD hl hs).mono ?_
  rintro e w' ⟨v, rfl, hx⟩
  rw [hw] at hx
  rcases hx with ⟨_, bl, u, rfl, hx⟩ | ⟨hx, _⟩
  · obtain ⟨lo, lc, rfl, _, _, _⟩ := hx.vecs_rd
    exact Ret.mk ⟨bl, lo, lc, rfl, hx⟩
  · exact absurd hx (show ¬ (0 : Nat) = 10 by decide)
theorem wal_open_10 (hE1 : ErrAt w0 E 1) (hE : ErrAt w0 E 10) (hT : CrcTab w0) (hD : D.Ok) (hl : D.bytes.length ≤ 16777216) (hw : D.wopen = (D', 10)) (hs : Sat w0 w (F * dk b D)) :
    Calls Tryd.prog 71 #[.pointer (some ⟨b, 0, none⟩)] w (Ret fun v w' => v = .tuple #[.pointer none, .slice none 0 0, errv E 10] ∧ Sat w0 w' (F * dk b D')) := by
  refine (wal_open hE1 hE hT hD hl hs).mono ?_
  rintro e w' ⟨v, rfl, hx⟩
  rw [hw] at hx
  rcases hx with ⟨hx, _⟩ | ⟨_, rfl, hx⟩
  · exact absurd hx (show ¬ (10 : Nat) = 0 by decide)
  · exact Ret.mk ⟨rfl, hx⟩
theorem ref13_open_0 (hm : D.arms.length < 8796093022207) (hD : D.Ok) (hl : D.bytes.length ≤ 16777216) (hw : D.wopen = (D', 0)) (h1 : frames D.bytes = fs) (h3 : size fs = z) (hs : Sat w0 w (F * rk b D)) :
    Calls Tryd.prog 79 #[.pointer (some ⟨b, 0, none⟩)] w (Ret fun v w' => ∃ (bl : Nat) (lo : Option Addr) (lc : Nat), v = .tuple #[.pointer (some ⟨bl, 0, none⟩), .slice lo fs.length lc, .int .i64 0] ∧ Sat w0 w' (F * rk b D' * rl bl b ⟨fs.length, z, false⟩ * vecs (.slice lo fs.length lc) fs)) := by
  subst h1; subst h3
  refine (ref13_open hm hD hl hs).mono ?_
  rintro e w' ⟨v, rfl, hx⟩
  rw [hw] at hx
  rcases hx with ⟨_, bl, u, rfl, hx⟩ | ⟨hx, _⟩
  · obtain ⟨lo, lc, rfl, _, _, _⟩ := hx.vecs_rd
    exact Ret.mk ⟨bl, lo, lc, rfl, hx⟩
  · exact absurd hx (show ¬ (0 : Nat) = 10 by decide)
theorem ref13_open_10 (hm : D.arms.length < 8796093022207) (hD : D.Ok) (hl : D.bytes.length ≤ 16777216) (hw : D.wopen = (D', 10)) (hs : Sat w0 w (F * rk b D)) :
    Calls Tryd.prog 79 #[.pointer (some ⟨b, 0, none⟩)] w (Ret fun v w' => v = .tuple #[.pointer none, .slice none 0 0, .int .i64 10] ∧ Sat w0 w' (F * rk b D')) := by
  refine (ref13_open hm hD hl hs).mono ?_
  rintro e w' ⟨v, rfl, hx⟩
  rw [hw] at hx
  rcases hx with ⟨hx, _⟩ | ⟨_, rfl, hx⟩
  · exact absurd hx (show ¬ (10 : Nat) = 0 by decide)
  · exact Ret.mk ⟨rfl, hx⟩
end

/-- The logs that stand, or none. -/
def logs (b c : Nat) (lv kv : Value) : Option Lg → HP
  | none => fun h => lv = .pointer none ∧ kv = .pointer none ∧ (1 : HP) h
  | some L => fun h => ∃ bl br, lv = .pointer (some ⟨bl, 0, none⟩) ∧ kv = .pointer (some ⟨br, 0, none⟩) ∧ (lg bl b L * rl br c L) h
section
variable {w0 w : World} {F : HP} {b c : Nat} {lv kv : Value} {L : Lg}
theorem Sat.logs0 (hs : Sat w0 w (F * logs b c lv kv none)) : lv = .pointer none ∧ kv = .pointer none ∧ Sat w0 w F := by
  have hd := hs.drop
  obtain ⟨x, ⟨h1, h2, ha, ⟨e1, e2, _⟩, _, _⟩, _⟩ := hs.held
  exact ⟨e1, e2, hd⟩
theorem Sat.logs0_mk (hs : Sat w0 w F) : Sat w0 w (F * logs b c (.pointer none) (.pointer none) none) :=
  hs.one.imp_last fun _ h => ⟨rfl, rfl, h⟩
theorem Sat.logs1 (hs : Sat w0 w (F * logs b c lv kv (some L))) : ∃ bl br, lv = .pointer (some ⟨bl, 0, none⟩) ∧ kv = .pointer (some ⟨br, 0, none⟩) ∧ Sat w0 w (F * lg bl b L * rl br c L) := by
  obtain ⟨x, ⟨h1, h2, ha, ⟨bl, br, e1, e2, hb⟩, hd, hu⟩, hx⟩ := hs.held
  refine ⟨bl, br, e1, e2, ?_⟩
  rw [HP.assoc]
  exact ⟨hs.below, x, ⟨h1, h2, ha, hb, hd, hu⟩, hx⟩
theorem Sat.logs1_mk {bl br : Nat} (hs : Sat w0 w (F * lg bl b L * rl br c L)) : Sat w0 w (F * logs b c (.pointer (some ⟨bl, 0, none⟩)) (.pointer (some ⟨br, 0, none⟩)) (some L)) := by
  rw [HP.assoc] at hs
  exact hs.imp_last fun _ h => ⟨bl, br, rfl, rfl, h⟩
end
end Go.Proofs.YtjhlelcopofkkaaDoor
