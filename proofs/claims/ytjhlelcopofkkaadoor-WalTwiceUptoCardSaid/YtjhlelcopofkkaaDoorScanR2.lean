/- The document's own Ends and Scan. -/
import Derived.Test.YtjhlelcopofkkaaDoorLst
namespace Go.Proofs.YtjhlelcopofkkaaDoor
open Go.RowKit

theorem fr8_zero {d : List UInt8} : fr8 d = 0 ↔ snd d = 0 := by
  unfold fr8
  split <;> omega
theorem fr8_snd {d : List UInt8} (h : snd d ≠ 0) : fr8 d = 8 + snd d := if_neg h

set_option maxRecDepth 20000 in
set_option maxHeartbeats 3200000 in
theorem ref13_ends {w : World} (xs : List UInt8) (ao : Option Addr) (c : Nat) (hr : Rd w ao (bvs xs)) (hn : xs.length ≤ 16777216) (hc : xs.length ≤ c) :
    Calls Tryd.prog 27 #[.slice ao xs.length c] w (Ret fun v w' => Sat w w' (vec 3 1 v (frames xs).length (ints (ends 0 (frames xs))))) := by
  have HR := Hid.mk' hr
  clear hr
  go_enter Tryd.func27, Tryd.ntmps27
  go_wp2
  go_loopw [3, 4] (fun l i wr => ∃ (k : Nat) (pre : List (List UInt8)), i = .int .i64 k ∧ Walked xs pre k ∧ Sat w wr (1 * vec 3 1 l pre.length (ints (ends 0 pre)))) (fun _ i _ => xs.length - (intOf i).toNat)
  case atStart => exact ⟨0, [], rfl, Walked.start xs, (Sat.refl w).vec_nil _ _⟩
  case round =>
    obtain ⟨k, pre, rfl, hW, hs⟩ := hrel
    have hk := hW.le
    have HW := Hid.mk' hW
    have hpl := len_le_size pre
    rw [← hW.at_] at hpl
    clear hW
    by_cases hlt : k < xs.length
    · by_cases h0 : fr8 (xs.drop k) = 0
      · go_wp2_with (go_at_call 93; refine (ref13_sound xs ao c (HR.out.mono hs.below) hn hc k (by omega)).mono ?_; rintro e w2 ⟨v, rfl, rfl, hx⟩; rw [h0])
        go_ret
        refine Ret.mk ?_
        have hs2 := hs.then1 hx
        rw [HW.out.done (fr8_zero.1 h0), HP.one_mul] at *
        exact hs2
      · have hne : snd (xs.drop k) ≠ 0 := fun e => h0 (fr8_zero.2 e)
        have hnx := HW.out.next hne
        have hfr := fr8_snd hne
        have hsl := snd_le hne
        rw [List.length_drop] at hsl
        obtain ⟨n, hnn⟩ : ∃ n, fr8 (xs.drop k) = n := ⟨_, rfl⟩
        rw [← hfr, hnn] at hnx
        have hn0 : 0 < n := by omega
        have h0' : ((n : Int) == 0) = false := beq_eq_false_iff_ne.2 (by omega)
        have hle := hnx.le
        have hen := ends_snoc 0 pre ((xs.drop (k + 8)).take (snd (xs.drop k)))
        have hlen : ((xs.drop (k + 8)).take (snd (xs.drop k))).length = snd (xs.drop k) := by rw [List.length_take, List.length_drop]; omega
        rw [hlen, ← HW.out.at_, show 0 + k + 8 + snd (xs.drop k) = k + n by omega] at hen
        have HEN := Hid.mk' (show ints (ends 0 (pre ++ [(xs.drop (k + 8)).take (snd (xs.drop k))])) = ints (ends 0 pre) ++ [.int .i64 ((k : Int) + (n : Int))] by rw [hen, ints_snoc, Int.natCast_add])
        have HNX := Hid.mk' hnx
        have HNN := Hid.mk' hnn
        clear hen hlen hnx hne hfr hsl h0 hnn
        go_wp2_with (first | (go_at_call 93; refine (ref13_sound xs ao c (HR.out.mono hs.below) hn hc k (by omega)).mono ?_; rintro e w2 ⟨v, rfl, rfl, hx⟩; rw [HNN.out]; have hs2 := hs.then1 hx; clear hx hs) | (at_builtin; go_loud (refine sl_append rfl _ _ 35 rfl 3 (.int .i64 0) 1 8 Tryd.underlying35 info_int rfl (by decide) _ pre.length _ rfl (by exact hs2.skip) _ 1 _ [.int .i64 ((k : Int) + (n : Int))] rfl rfl (by exact Rd.made _ _ _ _) (by intro u hu; simp at hu; subst hu; rfl) (by simp only [maxLen]; omega) (by omega) ?_); intro v' w' hS'))
        refine ⟨⟨k + n, pre ++ [_], by first | rfl | trivial, HNX.out, by rw [HEN.out, List.length_append]; exact hS'⟩, by simp [intOf]; omega⟩
    · go_wp2
      go_ret
      refine Ret.mk ?_
      rw [HW.out.end_ (by omega)]
      rw [HP.one_mul] at hs
      exact hs

set_option maxRecDepth 20000 in
set_option maxHeartbeats 1600000 in
theorem ref13_copied {w : World} (xs : List UInt8) (ao : Option Addr) (c : Nat) (hr : Rd w ao (bvs xs)) (hno : ao = none → xs.length = 0 ∧ c = 0) (hn : xs.length ≤ 16777216) :
    Calls Tryd.prog 94 #[.slice ao xs.length c] w (Ret fun v w' => Sat w w' (vec 5 1 v xs.length (bvs xs))) := by
  have HR := Hid.mk' hr
  have HNO := Hid.mk' hno
  have HL := Hid.mk' (bvs_length xs)
  have hs := (Sat.refl w).vec_nil 5 1
  clear hr hno
  go_enter Tryd.func94, Tryd.ntmps94
  go_wp2_with (at_builtin; go_loud (refine sl_append_any rfl _ _ 22 rfl 5 (.int .u8 0) 1 1 Tryd.underlying22 info_u8 rfl (by decide) _ 0 _ rfl (by exact hs) _ xs.length c (bvs xs) rfl HNO.out (by rw [HL.out, Nat.mul_one]) (by exact HR.out) (bvs_one _) (by simp only [maxLen]; omega) (by omega) ?_); intro v2 w2 hs2)
  go_ret
  rw [HP.one_mul, List.nil_append, Nat.zero_add] at hs2
  exact Ret.mk hs2

/-- The frame of a number lies where those ahead of it end. -/
theorem frs_at : ∀ (f : Nat) (d : List UInt8) (k : Nat) (h : k < (frs f d).length), (d.drop (size ((frs f d).take k) + 8)).take ((frs f d)[k]).length = (frs f d)[k] ∧ size ((frs f d).take k) + 8 + ((frs f d)[k]).length ≤ d.length := by
  intro f
  induction f with
  | zero => intro d k h; simp [frs] at h
  | succ f ih =>
    intro d k h
    by_cases e : snd d = 0
    · simp [frs, e] at h
    · have hl := snd_le e
      have hf : frs (f + 1) d = (d.drop 8).take (snd d) :: frs f (d.drop (8 + snd d)) := by rw [frs, if_neg e]
      have hpl : ((d.drop 8).take (snd d)).length = snd d := by rw [List.length_take, List.length_drop]; omega
      cases k with
      | zero =>
        simp only [hf, List.take_zero, List.getElem_cons_zero, size, Nat.zero_add, hpl]
        exact ⟨trivial, by omega⟩
      | succ k =>
        have hk : k < (frs f (d.drop (8 + snd d))).length := by rw [hf] at h; simpa using h
        obtain ⟨h1, h2⟩ := ih (d.drop (8 + snd d)) k hk
        simp only [hf, List.take_succ_cons, List.getElem_cons_succ, size, hpl]
        rw [List.length_drop] at h2
        rw [List.drop_drop] at h1
        refine ⟨?_, by omega⟩
        rw [show 8 + snd d + size (List.take k (frs f (List.drop (8 + snd d) d))) + 8 = 8 + snd d + (size (List.take k (frs f (List.drop (8 + snd d) d))) + 8) by omega]
        exact h1
theorem frames_at (d : List UInt8) (k : Nat) (h : k < (frames d).length) : (d.drop (size ((frames d).take k) + 8)).take ((frames d)[k]).length = (frames d)[k] ∧ size ((frames d).take k) + 8 + ((frames d)[k]).length ≤ d.length := frs_at _ _ _ _
theorem size_take_succ (ps : List (List UInt8)) (k : Nat) (h : k < ps.length) : size (ps.take (k + 1)) = size (ps.take k) + 8 + ps[k].length := by
  rw [take_snoc _ _ h, size_snoc]
  omega

set_option maxRecDepth 20000 in
set_option maxHeartbeats 3200000 in
theorem ref13_scan {w : World} (xs : List UInt8) (ao : Option Addr) (c : Nat) (hr : Rd w ao (bvs xs)) (hn : xs.length ≤ 16777216) (hc : xs.length ≤ c) :
    Calls Tryd.prog 28 #[.slice ao xs.length c] w (Ret fun v w' => ∃ u, v = .tuple #[u, .int .i64 (size (frames xs))] ∧ Sat w w' (vecs u (frames xs))) := by
  have HR := Hid.mk' hr
  have HL := Hid.mk' (bvs_length xs)
  have hall := frames_at xs
  have hmem := @frames_mem xs
  have hsz := size_frames xs
  have hlz := len_le_size (frames xs)
  have HE := Hid.mk' (ref13_ends xs ao c hr hn hc)
  have HG := Hid.mk' (fun k h => ends_get 0 (frames xs) k h)
  have HEL := Hid.mk' (ends_length 0 (frames xs))
  clear hr
  generalize frames xs = fr at *
  have HA := Hid.mk' hall
  have HM := Hid.mk' hmem
  clear hall hmem
  go_enter Tryd.func28, Tryd.ntmps28
  go_wp2_with (go_at_call 27; refine (HE.out).mono ?_; go_loud (rintro e w1 ⟨v, rfl, hs1⟩; obtain ⟨eo, ecap, rfl, ele, erd, eno⟩ := hs1.one'.vec_rd))
  go_loopw [5, 6, 7] (fun l a i wr => ∃ (k : Nat) (vs : List Value) (lv : Value), k ≤ fr.length ∧ vs.length = k ∧ a = .int .i64 (size (fr.take k)) ∧ i = .int .i64 k ∧ lv = l ∧ Sat w wr (vec 3 1 (.slice eo fr.length ecap) fr.length (ints (ends 0 fr)) * vec 22 1 lv k vs * bvl vs (fr.take k))) (fun _ _ i _ => fr.length - (intOf i).toNat)
  case atStart => exact ⟨0, [], _, by omega, rfl, rfl, rfl, rfl, by rw [List.take_zero, bvl_nil, HP.mul_one]; exact hs1.vec_nil _ _⟩
  case round =>
    obtain ⟨k, vs, l, hk, hvl, rfl, rfl, rfl, hs⟩ := hrel
    by_cases hlt : k < fr.length
    · have hA := HA.out k hlt
      have hS := size_take_succ fr k hlt
      have herd := (hs.perm (B := vec 22 1 l k vs * bvl vs (fr.take k) * vec 3 1 (.slice eo fr.length ecap) fr.length (ints (ends 0 fr))) (by ac_rfl)).rd
      obtain ⟨be, oe, rfl, hcells⟩ := herd.addr (by intro e; have := ints_length (ends 0 fr); rw [e, HEL.out] at this; simp at this; omega)
      obtain ⟨b, o, rfl, _⟩ := (HR.out).addr (by intro e; have := HL.out; rw [e] at this; simp at this; omega)
      have HC := Hid.mk' (show ∀ (w' : World) (F : HP), Sat w w' (F * vec 3 1 (.slice (some ⟨be, oe, none⟩) fr.length ecap) fr.length (ints (ends 0 fr))) → w'.cell? ⟨be, oe + k, none⟩ = some (.int .i64 ((size (fr.take k) : Int) + 8 + (fr[k].length : Int))) from by
        intro w' F h
        rcases h.rd with h | ⟨b', o', e, hc'⟩
        · have := ints_length (ends 0 fr)
          rw [h, HEL.out] at this
          simp at this
          omega
        · cases e
          rw [hc' k _ (ints_get (HG.out k hlt)), hS, Nat.zero_add]
          rfl)
      have hcell := HC.out wr _ (hs.perm (B := vec 22 1 l k vs * bvl vs (fr.take k) * vec 3 1 (.slice (some ⟨be, oe, none⟩) fr.length ecap) fr.length (ints (ends 0 fr))) (by ac_rfl))
      clear hcells herd
      have HRS := Hid.mk' (show Rd wr (some ⟨b, o + (size (fr.take k) + 8), none⟩) (bvs fr[k]) from by
        have := (HR.out.mono hs.below).sub (size (fr.take k) + 8) fr[k].length
        rw [hA.1] at this
        exact this)
      have hA2 := hA.2
      have hp1 := (HM.out _ (List.getElem_mem hlt)).1
      have HS := Hid.mk' hS
      have HT := Hid.mk' (take_snoc fr k hlt)
      clear hA hS hs1 erd eno HE
      generalize fr[k] = p at *
      generalize size (fr.take k) = S at *
      go_wp2_with (first | (go_at_call 94; go_loud (refine (ref13_copied p _ _ HRS.out (fun h => by cases h) (by omega)).mono ?_; rintro e w2 ⟨v2, rfl, hs2⟩); have hs3 := hs.glue hs2; clear hs hs2; obtain ⟨ao2, cap2, rfl, hle2, hrd2, hno2⟩ := hs3.vec_rd) | (at_builtin; go_loud (refine sl_append rfl _ _ 37 rfl 22 (.slice none 0 0) 1 24 Tryd.underlying37 info_bytes rfl (by decide) _ k _ rfl (by exact (hs3.perm (B := vec 3 1 (.slice (some ⟨be, oe, none⟩) fr.length ecap) fr.length (ints (ends 0 fr)) * bvl vs (fr.take k) * vec 5 1 (.slice ao2 p.length cap2) p.length (bvs p) * vec 22 1 l k vs) (by ac_rfl)).skip) _ 1 _ [.slice ao2 p.length cap2] rfl rfl (by exact Rd.made _ _ _ _) (by intro u hu; simp at hu; subst hu; rfl) (by simp only [maxLen]; omega) (by omega) ?_); intro v' w' hS'; have hcell' := HC.out w' _ (hS'.perm (B := bvl vs (fr.take k) * vec 5 1 (.slice ao2 p.length cap2) p.length (bvs p) * vec 22 1 v' (k + 1) (vs ++ [.slice ao2 p.length cap2]) * vec 3 1 (.slice (some ⟨be, oe, none⟩) fr.length ecap) fr.length (ints (ends 0 fr))) (by ac_rfl))))
      refine ⟨⟨k + 1, vs ++ [.slice ao2 p.length cap2], v', by omega, by simp [hvl], by rw [HS.out]; first | rfl | (congr 1; omega), by first | rfl | trivial, by first | rfl | trivial, ?_⟩, by simp [intOf]; omega⟩
      rw [HT.out, bvl_snoc (by rw [hvl, List.length_take]; omega)]
      exact hS'.perm (by ac_rfl)
    · have hkk : k = fr.length := by omega
      subst hkk
      have HTL := Hid.mk' (List.take_length (l := fr))
      go_wp2
      go_ret2
      refine Ret.mk ⟨l, congrArg (fun z => Value.tuple #[l, .int .i64 (size z : Int)]) HTL.out, ?_⟩
      refine (Sat.vecs_shut (F := 1) (vs := vs) ?_).unone'
      rw [HTL.out] at hs
      exact (hs.perm (B := 1 * vec 22 1 l fr.length vs * bvl vs fr * vec 3 1 (.slice eo fr.length ecap) fr.length (ints (ends 0 fr))) (by rw [HP.one_mul]; ac_rfl)).drop
end Go.Proofs.YtjhlelcopofkkaaDoor
