/- Parcels that were grown, looked at; the walk of the law ReplicaNew. -/
import Derived.Test.YtjhlelcopofkkaaDoorRepC
namespace Go.Proofs.YtjhlelcopofkkaaDoor
open Go.RowKit

set_option maxRecDepth 20000 in
set_option maxHeartbeats 12800000 in
theorem law27_stands {w0 w : World} {FR : HP} {V us : List Value} {PS : List Pc} {Ds : List (List UInt8)} {N lc ld : Nat} {la lo : Option Addr} (hPN : PS.length = N) (hDN : Ds.length = N) (hNb : N ≤ 16777216) (hDM : ∀ p ∈ Ds, 1 ≤ p.length ∧ p.length ≤ 8192)
    (hs : Sat w0 w (FR * vec 57 3 (.slice la N lc) N (pcs V PS) * vec 22 1 (.slice lo N ld) N us * grl V (mkd mk3 0 Ds) us (grw mk3 0 (mkd mk3 0 Ds)))) :
    Calls Tryd.prog 36 #[.slice la N lc, .slice lo N ld] w (Same (.bool true) w) := by
  have hrh := (hs.perm (B := FR * vec 22 1 (.slice lo N ld) N us * grl V (mkd mk3 0 Ds) us (grw mk3 0 (mkd mk3 0 Ds)) * vec 57 3 (.slice la N lc) N (pcs V PS)) (by ac_rfl)).rd
  have hrl := hs.swap.rd
  have HC2 := Hid.mk' (fun (k : Nat) (hk : k < N) => show ∃ (L hb ho ab ao c lb lp bb bo d : Nat), 1 ≤ L ∧ L ≤ 8192 ∧ L ≤ c ∧ L + 64 ≤ d ∧ la = some ⟨hb, ho, none⟩ ∧ lo = some ⟨lb, lp, none⟩ ∧ w.cell? ⟨hb, ho + k * 3 + 1, none⟩ = some (.slice (some ⟨ab, ao, none⟩) L c) ∧ w.cell? ⟨lb, lp + k, none⟩ = some (.slice (some ⟨bb, bo, none⟩) (L + 64) d) ∧
      (∀ m, m < L → w.cell? ⟨ab, ao + m, none⟩ = some (.int .u8 ((k : Int) % 251))) ∧ (∀ m, m < L + 64 → w.cell? ⟨bb, bo + m, none⟩ = some (.int .u8 ((k : Int) % 251))) from by
    have hkD : k < Ds.length := by rw [hDN]; exact hk
    have hqk := mkd_get mk3 0 Ds k hkD
    rw [Nat.zero_add] at hqk
    have hgk := grw_get mk3 0 (mkd mk3 0 Ds) k (by rw [mkd_length]; exact hkD)
    obtain ⟨hk', hqe⟩ := List.getElem?_eq_some_iff.1 hqk
    rw [hqe, Nat.zero_add] at hgk
    have hpl := hDM Ds[k] (List.getElem_mem hkD)
    generalize Ds[k].length = L at hqk hgk hpl hqe
    obtain ⟨ao, bo, c, d, g1, g2, r1, r2, g3, g4⟩ := hs.grl_rd hqk hgk
    simp only [List.length_append, List.length_replicate] at g1 g2 g3 g4
    obtain ⟨hb, ho, rfl, hc'⟩ := pc_data hrh g1 (List.getElem?_eq_getElem (by rw [hPN]; exact hk))
    obtain ⟨lb, lp, rfl, hc''⟩ := hrl.addr (by intro e; rw [e] at g2; simp at g2)
    obtain ⟨ab, ao', rfl, ha⟩ := r1.addr (by intro e; have := bvs_length (List.replicate L (mk3 k)); rw [e, List.length_replicate] at this; simp at this; omega)
    obtain ⟨bb, bo', rfl, hb2⟩ := r2.addr (by intro e; have := bvs_length (List.replicate L (mk3 k) ++ List.replicate 64 (mk3 k)); rw [e, List.length_append, List.length_replicate, List.length_replicate] at this; simp at this)
    have hm1 : bv (mk3 k) = .int .u8 ((k : Int) % 251) := ret_int (by rw [mk3_val])
    refine ⟨L, hb, ho, ab, ao', c, lb, lp, bb, bo', d, hpl.1, hpl.2, g3, g4, rfl, rfl, hc', hc'' k _ g2, fun m hm => ?_, fun m hm => ?_⟩
    · rw [← hm1]; exact ha m _ (by rw [bvs_replicate, List.getElem?_replicate, if_pos hm])
    · rw [← hm1]; exact hb2 m _ (by rw [List.replicate_append_replicate, bvs_replicate, List.getElem?_replicate, if_pos hm]))
  clear hs hrh hrl hPN hDN hDM
  go_enter Tryd.func36, Tryd.ntmps36
  go_wp2_with fail
  go_loopw [5] (fun i wr => ∃ k : Nat, k ≤ N ∧ i = .int .i64 k ∧ wr = w) (fun i _ => N - (intOf i).toNat)
  case atStart => exact ⟨0, by omega, rfl, rfl⟩
  case round =>
    obtain ⟨k, hk, rfl, rfl⟩ := hrel
    by_cases hlt : k < N
    · obtain ⟨L, hb, ho, ab, ao, c, lb, lp, bb, bo, d, g1, g2, g3, g4, rfl, rfl, p1, p2, p3, p4⟩ := HC2.out k hlt
      have P3 := Hid.mk' p3
      have P4 := Hid.mk' p4
      clear p3 p4
      obtain ⟨wo, rfl⟩ : ∃ wo : World, wo = wr := ⟨_, rfl⟩
      go_wp2_with fail
      go_loopw [6] (fun j w' => ∃ m : Nat, m ≤ L + 64 ∧ j = .int .i64 m ∧ w' = wo) (fun j _ => (L + 64) - (intOf j).toNat)
      case atStart => exact ⟨0, by omega, rfl, rfl⟩
      case round =>
        obtain ⟨m, hm, rfl, rfl⟩ := hrel
        by_cases hml : m < L + 64
        · have t1 := P4.out m hml
          by_cases hmL : m < L
          · have t2 := P3.out m hmL
            go_wp2_with fail
            exact ⟨⟨m + 1, by omega, rfl, by first | rfl | trivial⟩, by simp [intOf]; omega⟩
          · go_wp2_with fail
            exact ⟨⟨m + 1, by omega, rfl, by first | rfl | trivial⟩, by simp [intOf]; omega⟩
        · obtain rfl : m = L + 64 := by omega
          go_wp2_with fail
          exact ⟨⟨k + 1, by omega, rfl, by first | rfl | trivial⟩, by simp [intOf]; omega⟩
    · obtain rfl : N = k := by omega
      go_wp2_with fail
      go_ret
      exact ⟨rfl, rfl⟩

theorem parcels_len {data : List UInt8} {most k : Nat} (hm : 1 ≤ most) (hk : k ≤ data.length) : (parcels data most k).length ≤ data.length - k ∧ ((parcels data most k).length = 0 ↔ k = data.length) := by
  have key : ∀ n k, data.length - k ≤ n → k ≤ data.length → (parcels data most k).length ≤ data.length - k := by
    intro n
    induction n with
    | zero => intro k h1 h2; rw [parcels_end (by omega)]; simp
    | succ n ih =>
      intro k h1 h2
      by_cases hlt : k < data.length
      · rw [parcels_step hm hlt, List.length_cons]
        by_cases h3 : k + most ≤ data.length
        · have := ih (k + most) (by omega) h3; omega
        · rw [parcels_end (by omega)]; simp; omega
      · rw [parcels_end (by omega)]; simp
  refine ⟨key _ k (Nat.le_refl _) hk, ?_⟩
  by_cases hlt : k < data.length
  · rw [parcels_step hm hlt, List.length_cons]; omega
  · rw [parcels_end (by omega)]; simp; omega
theorem parcels_mem {data : List UInt8} {most : Nat} (h1 : 1 ≤ most) (h2 : most ≤ 8192) : ∀ (k : Nat), ∀ p ∈ parcels data most k, 1 ≤ p.data.length ∧ p.data.length ≤ 8192 := by
  have key : ∀ n k, data.length - k ≤ n → ∀ p ∈ parcels data most k, 1 ≤ p.data.length ∧ p.data.length ≤ 8192 := by
    intro n
    induction n with
    | zero => intro k h p hp; rw [parcels_end (by omega)] at hp; cases hp
    | succ n ih =>
      intro k h p hp
      by_cases hlt : k < data.length
      · rw [parcels_step h1 hlt] at hp
        rcases List.mem_cons.1 hp with rfl | hp
        · show 1 ≤ ((data.drop k).take most).length ∧ ((data.drop k).take most).length ≤ 8192
          rw [List.length_take, List.length_drop]; omega
        · exact ih (k + most) (by omega) p hp
      · rw [parcels_end (by omega)] at hp; cases hp
  exact fun k => key _ k (Nat.le_refl _)
end Go.Proofs.YtjhlelcopofkkaaDoor

