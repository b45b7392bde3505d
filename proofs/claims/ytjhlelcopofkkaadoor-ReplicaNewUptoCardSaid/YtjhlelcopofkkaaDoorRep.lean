/- Parcels of a log: their sums, how they are sealed. -/
import Derived.Test.YtjhlelcopofkkaaDoorScan
import Derived.Test.YtjhlelcopofkkaaDoorDiskP
namespace Go.Proofs.YtjhlelcopofkkaaDoor
open Go.RowKit

/-- The eight bytes of a place, the highest first. -/
def num8 (n : Nat) : List UInt8 := [UInt8.ofNat (n / 72057594037927936), UInt8.ofNat (n / 281474976710656), UInt8.ofNat (n / 1099511627776), UInt8.ofNat (n / 4294967296), UInt8.ofNat (n / 16777216), UInt8.ofNat (n / 65536), UInt8.ofNat (n / 256), UInt8.ofNat n]
theorem num8_length (n : Nat) : (num8 n).length = 8 := rfl
/-- The sum of a parcel. -/
def psum (n : Nat) (p : List UInt8) : BitVec 32 := crc (num8 n ++ p)
theorem ofNat_val (m : Nat) : ((UInt8.ofNat m).toNat : Int) = ((m % 256 : Nat) : Int) := by rw [UInt8.toNat_ofNat']

/-- The first k of them written. -/
def hd8 (n k : Nat) : List Value := bvs ((num8 n).take k) ++ List.replicate (8 - k) (.int .u8 0)
theorem hd8_get (n k : Nat) (h : k < 8) : (hd8 n k)[k]? = some (.int .u8 0) := by
  unfold hd8
  rw [List.getElem?_append_right (by rw [bvs_length, List.length_take, num8_length]; omega), bvs_length, List.length_take, num8_length, Nat.min_eq_left (by omega), Nat.sub_self, List.getElem?_replicate, if_pos (by omega)]
theorem hd8_set (n k : Nat) (h : k < 8) : (hd8 n k).set k (bv ((num8 n)[k]'h)) = hd8 n (k + 1) := by
  unfold hd8
  have e : (bvs ((num8 n).take k)).length = k := by rw [bvs_length, List.length_take, num8_length]; omega
  rw [List.set_append_right _ _ (by omega), e, Nat.sub_self, take_snoc (num8 n) k h, bvs_append, List.append_assoc]
  congr 1
  rw [show 8 - k = (8 - (k + 1)) + 1 by omega, List.replicate_succ]
  rfl
set_option maxRecDepth 20000 in
set_option maxHeartbeats 6400000 in
theorem replica_sum {w : World} (hT : CrcTab w) (n : Nat) (hn : n ≤ 1099511627776) (p : List UInt8) (ao : Option Addr) (c : Nat) (hr : Rd w ao (bvs p)) (hl : p.length ≤ 140737488351232) :
    Calls Tryd.prog 126 #[.int .i64 n, .slice ao p.length c] w (Ret fun v w' => v = .int .u32 (ru32 (psum n p)) ∧ Sat w w' 1) := by
  have HT := Hid.mk' hT
  have HR := Hid.mk' hr
  have hs0 := ((Sat.refl w).new #[.int .u8 0, .int .u8 0, .int .u8 0, .int .u8 0, .int .u8 0, .int .u8 0, .int .u8 0, .int .u8 0] 154)
  generalize hb : w.heap.size = hb0 at hs0
  clear hT hr
  go_enter Tryd.func126, Tryd.ntmps126
  go_wp2_with fail
  go_loopw [7] (fun i wr => ∃ k : Nat, k ≤ 8 ∧ i = .int .i64 k ∧ Sat w wr (1 * blk hb0 (hd8 n k) 154)) (fun i _ => 8 - (intOf i).toNat)
  case atStart => exact ⟨0, by omega, rfl, hs0⟩
  case round =>
    clear hs0
    obtain ⟨k, hk, rfl, hS⟩ := hrel
    by_cases hlt : k < 8
    · have hcell := hS.cell (i := k) (v := .int .u8 0) (hd8_get n k hlt)
      have hfree := hS.free k
      have HST := Hid.mk' (fun (X : Value) (hX : X = bv ((num8 n)[k]'hlt)) => show Sat w (wr.setCell ⟨hb0, k, none⟩ X) (1 * blk hb0 (hd8 n (k + 1)) 154) from by
        subst hX
        rw [← hd8_set n k hlt]
        exact hS.store k _)
      clear hS
      obtain rfl | rfl | rfl | rfl | rfl | rfl | rfl | rfl : k = 0 ∨ k = 1 ∨ k = 2 ∨ k = 3 ∨ k = 4 ∨ k = 5 ∨ k = 6 ∨ k = 7 := by omega
      all_goals
        go_wp2_with fail
        exact ⟨⟨_, by decide, rfl, HST.out _ (ret_int (by show _ = ((UInt8.ofNat _).toNat : Int); rw [ofNat_val]; omega))⟩, by simp [intOf]⟩
    · obtain rfl : k = 8 := by omega
      have hrd : Rd wr (some ⟨hb0, 0, none⟩) (bvs (num8 n)) := by
        have h := hS.heap
        have e : hd8 n 8 = bvs (num8 n) := by unfold hd8; rw [Nat.sub_self, List.replicate_zero, List.append_nil]; rfl
        rw [e] at h
        exact Rd.of_heap h
      have c1 : ∀ m, (convert 22 9 (.slice (some ⟨hb0, 0, none⟩) 8 8)).run Tryd.prog (wr.drewN m) = .ok (.string (bs (num8 n))) (wr.drewN m) := fun m => conv_string (xs := num8 n) hrd.drewN 8
      have c2 : ∀ m, (convert 22 9 (.slice ao p.length c)).run Tryd.prog (wr.drewN m) = .ok (.string (bs p)) (wr.drewN m) := fun m => conv_string ((HR.out.of0 hS).drewN) c
      have HT2 := Hid.mk' (show ∀ m, CrcTab (wr.drewN m) from fun m => (HT.out.mono hS.below).mono (below_drewN (Below.refl _ _) m))
      have H1 := Hid.mk' (show (bs (num8 n)).size ≤ 140737488351232 by rw [bs_size, num8_length]; decide)
      have H2 := Hid.mk' (show (bs p).size ≤ 140737488351232 by rw [bs_size]; exact hl)
      have HF := Hid.mk' (show crcMore (crc (bs (num8 n)).data.toList) (bs p).data.toList = psum n p by rw [bs_list, bs_list]; exact crcMore_append _ _ _)
      have HS := Hid.mk' hS
      clear hS hrd
      go_wp2
      go_quiet (first | (go_at_call 134; exact Same.quiet (sums_crc (HT2.out _) _ H1.out)) | (go_at_call 133; exact Same.quiet (sums_crcMore (HT2.out _) _ _ H2.out)))
      go_wp2
      go_ret
      exact Ret.mk ⟨congrArg _ (congrArg ru32 HF.out), (HS.out.drop).drewN _⟩

set_option maxHeartbeats 1600000 in
theorem replica_fresh {w : World} (xs : List UInt8) (ao : Option Addr) (c : Nat) (hr : Rd w ao (bvs xs)) (hn : xs.length ≤ 140737488351232) :
    Calls Tryd.prog 125 #[.slice ao xs.length c] w (Ret fun v w' => Sat w w' (vec 5 1 v xs.length (bvs xs))) := by
  have HR := Hid.mk' hr
  have hs0 := Sat.refl w
  have HL := Hid.mk' (bvs_length xs)
  clear hr
  go_enter Tryd.func125, Tryd.ntmps125
  go_wp2_with (first | (at_make; go_loud (refine sl_make rfl _ _ 22 rfl 5 (.int .u8 0) 1 rfl Tryd.underlying22 info_u8 .i64 .i64 _ _ xs.length rfl rfl (by omega) (by omega) (by omega) (by simp only [maxLen]; omega) (by exact hs0) ?_); intro w3 hs5) | ((with_reducible refine gate_op (.call { callee := .builtin .copy, args := #[.tmp 7, .tmp 8], argTypes := #[22, 22] }) rfl ?_); go_loud (refine sl_copy rfl _ _ _ _ rfl 5 Tryd.underlying22 size_u8 _ _ _ _ _ _ rfl rfl _ 0 _ _ (by exact hs5) (bvs xs) (by rw [HL.out]; exact (Nat.min_eq_left (by omega)).symm) (fun _ => rfl) (by exact HR.out.mono hs5.below) (by rw [HL.out, List.length_replicate]; omega) (bvs_one _) ?_); intro w4 hs6))
  go_ret
  rw [put_whole (by rw [HL.out, List.length_replicate])] at hs6
  exact Ret.mk ((hs6.as_vec (n := xs.length) (by rw [HL.out, Nat.mul_one]) (by simp only [maxLen]; omega)).unone')

theorem replica_mayBe {w : World} (n : Int) (h1 : 1 ≤ n) (h2 : n ≤ 8192) : Calls Tryd.prog 97 #[.int .i64 n] w (Same (.bool true) w) := by
  go_enter Tryd.func97, Tryd.ntmps97
  go_wp2_with fail
  go_ret
  exact ⟨rfl, rfl⟩

/-- A parcel. -/
structure Pc where
  frm : Nat
  data : List UInt8
  sum : BitVec 32
def sealed (n : Nat) (p : List UInt8) : Pc := ⟨n, p, psum n p⟩
def pval (v : Value) (p : Pc) : Value := .agg #[.int .i64 p.frm, v, .int .u32 (ru32 p.sum)]
def pcells (v : Value) (p : Pc) : List Value := [.int .i64 p.frm, v, .int .u32 (ru32 p.sum)]
/-- The cells of a list of parcels. -/
def pcs : List Value → List Pc → List Value
  | v :: vs, p :: ps => pcells v p ++ pcs vs ps
  | _, _ => []
theorem pcs_length : ∀ {vs : List Value} {ps : List Pc}, vs.length = ps.length → (pcs vs ps).length = ps.length * 3
  | [], [], _ => rfl
  | v :: vs, p :: ps, h => by
    have := pcs_length (vs := vs) (ps := ps) (by simpa using h)
    simp only [pcs, pcells, List.length_append, List.length_cons, List.length_nil, this]; omega
  | [], _ :: _, h => by simp at h
  | _ :: _, [], h => by simp at h
theorem pcs_append : ∀ {vs us : List Value} {ps qs : List Pc}, vs.length = ps.length → pcs (vs ++ us) (ps ++ qs) = pcs vs ps ++ pcs us qs
  | [], us, [], qs, _ => rfl
  | v :: vs, us, p :: ps, qs, h => by simp only [List.cons_append, pcs]; rw [pcs_append (by simpa using h), List.append_assoc]
  | [], _, _ :: _, _, h => by simp at h
  | _ :: _, _, [], _, h => by simp at h
theorem pcs_get : ∀ {vs : List Value} {ps : List Pc} {k : Nat} {v : Value} {p : Pc}, vs[k]? = some v → ps[k]? = some p → (pcs vs ps)[k * 3]? = some (.int .i64 p.frm) ∧ (pcs vs ps)[k * 3 + 1]? = some v ∧ (pcs vs ps)[k * 3 + 2]? = some (.int .u32 (ru32 p.sum))
  | v0 :: vs, p0 :: ps, 0, v, p, hv, hp => by
    simp only [List.getElem?_cons_zero, Option.some.injEq] at hv hp
    subst hv; subst hp
    exact ⟨rfl, rfl, rfl⟩
  | v0 :: vs, p0 :: ps, k + 1, v, p, hv, hp => by
    obtain ⟨h0, h1, h2⟩ := pcs_get (vs := vs) (ps := ps) (k := k) (v := v) (p := p) (by simpa using hv) (by simpa using hp)
    have e : pcs (v0 :: vs) (p0 :: ps) = pcells v0 p0 ++ pcs vs ps := rfl
    have hl : (pcells v0 p0).length = 3 := rfl
    rw [e]
    refine ⟨?_, ?_, ?_⟩
    all_goals rw [List.getElem?_append_right (by omega), hl]
    · rw [show (k + 1) * 3 - 3 = k * 3 by omega]; exact h0
    · rw [show (k + 1) * 3 + 1 - 3 = k * 3 + 1 by omega]; exact h1
    · rw [show (k + 1) * 3 + 2 - 3 = k * 3 + 2 by omega]; exact h2
  | [], _, _, _, _, hv, _ => by simp at hv
  | _ :: _, [], _, _, _, _, hp => by simp at hp
/-- A log cut into parcels. -/
def cutp (data : List UInt8) (most : Nat) : Nat → Nat → List Pc
  | 0, _ => []
  | f + 1, k => if k < data.length then sealed k ((data.drop k).take most) :: cutp data most f (k + most) else []
set_option maxRecDepth 20000 in
set_option maxHeartbeats 6400000 in
theorem replica_seal {w : World} (hT : CrcTab w) (n : Nat) (hn : n ≤ 1099511627776) (p : List UInt8) (ao : Option Addr) (c : Nat) (hr : Rd w ao (bvs p)) (h1 : 1 ≤ p.length) (h2 : p.length ≤ 8192) :
    Calls Tryd.prog 67 #[.int .i64 n, .slice ao p.length c] w (Ret fun v w' => ∃ u, v = .tuple #[pval u (sealed n p), .nilIface] ∧ Sat w w' (vec 5 1 u p.length (bvs p))) := by
  have HT := Hid.mk' hT
  have HR := Hid.mk' hr
  have hs0 := (Sat.refl w).new #[.int .i64 0, .slice none 0 0, .int .u32 0] 57
  generalize hb : w.heap.size = hb0 at hs0
  clear hT hr
  go_enter Tryd.func67, Tryd.ntmps67
  go_wp2_with (first | (go_at_call 97; refine (replica_mayBe _ (by omega) (by omega)).mono ?_; rintro e w1 ⟨rfl, rfl⟩) | (go_at_call 125; refine (replica_fresh p ao c (HR.out.of0 hs0) (by omega)).mono ?_; rintro e w2 ⟨v, rfl, hx⟩; have hs1 := hs0.glue hx; obtain ⟨fa, fc, rfl, _, _, _⟩ := hs1.vec_rd) | (go_at_call 126; refine (replica_sum (HT.out.mono hs1.below) n hn p ao c (HR.out.of0 hs1) (by omega)).mono ?_; rintro e w3 ⟨v, rfl, rfl, hy⟩; have hs2 := hs1.then1 hy; have q0 := hs2.swap.cell (i := 0) (v := .int .i64 0) rfl; have q1 := hs2.swap.cell (i := 1) (v := .slice none 0 0) rfl; have q2 := hs2.swap.cell (i := 2) (v := .int .u32 0) rfl; have f0 := hs2.swap.free 0; have f1 := hs2.swap.free 1; have f2 := hs2.swap.free 2))
  have hs6 := ((hs2.swap.store 0 (.int .i64 n)).store 1 (.slice fa p.length fc)).store 2 (.int .u32 (ru32 (psum n p)))
  simp only [List.set_cons_zero, List.set_cons_succ] at hs6
  have d0 := hs6.cell (i := 0) (v := .int .i64 n) rfl
  have d1 := hs6.cell (i := 1) (v := .slice fa p.length fc) rfl
  have d2 := hs6.cell (i := 2) (v := .int .u32 (ru32 (psum n p))) rfl
  generalize ((w3.setCell ⟨hb0, 0, none⟩ (.int .i64 n)).setCell ⟨hb0, 1, none⟩ (.slice fa p.length fc)).setCell ⟨hb0, 2, none⟩ (.int .u32 (ru32 (psum n p))) = W at hs6 d0 d1 d2 ⊢
  refine bodyPost_ret (v := .tuple #[.agg #[.int .i64 n, .slice fa p.length fc, .int .u32 (ru32 (psum n p))], .nilIface]) (by simp [results, Tryd.results67, go_sem, d0, d1, d2]) rfl (Ret.mk ⟨.slice fa p.length fc, rfl, ?_⟩)
  exact (hs6.drop).unone'

theorem cutp_fuel (data : List UInt8) (most : Nat) (hm : 1 ≤ most) : ∀ (f g k : Nat), data.length - k ≤ f → data.length - k ≤ g → cutp data most f k = cutp data most g k
  | 0, 0, k, _, _ => rfl
  | 0, g + 1, k, h, _ => by simp only [cutp]; rw [if_neg (by omega)]
  | f + 1, 0, k, _, h => by simp only [cutp]; rw [if_neg (by omega)]
  | f + 1, g + 1, k, h1, h2 => by
    simp only [cutp]
    split
    · rw [cutp_fuel data most hm f g (k + most) (by omega) (by omega)]
    · rfl
/-- The parcels of a log from a place on. -/
def parcels (data : List UInt8) (most k : Nat) : List Pc := cutp data most data.length k
theorem parcels_end {data : List UInt8} {most k : Nat} (h : data.length ≤ k) : parcels data most k = [] := by
  unfold parcels
  cases data with
  | nil => rfl
  | cons x l => show (if k < (x :: l).length then _ else []) = _; rw [if_neg (by omega)]
theorem parcels_step {data : List UInt8} {most k : Nat} (hm : 1 ≤ most) (h : k < data.length) : parcels data most k = sealed k ((data.drop k).take most) :: parcels data most (k + most) := by
  unfold parcels
  obtain ⟨n, hn⟩ : ∃ n, data.length = n + 1 := ⟨data.length - 1, by omega⟩
  rw [hn]
  show (if k < data.length then _ else _) = _
  rw [if_pos h, cutp_fuel data most hm n (n + 1) (k + most) (by omega) (by omega)]
theorem info_pc : (Tryd.prog.info? 57).map (fun i => (i.zero, i.size, i.bytes)) = some (some (.agg #[.int .i64 0, .slice none 0 0, .int .u32 0]), 3, 40) := by kernel_rfl

set_option maxRecDepth 20000 in
set_option maxHeartbeats 12800000 in
theorem replica_parcels {w : World} (hT : CrcTab w) (data : List UInt8) (ao : Option Addr) (c : Nat) (hr : Rd w ao (bvs data)) (hdc : data.length ≤ c) (hl : data.length ≤ 1048576) (k0 most : Nat) (hk : k0 ≤ data.length) (h1 : 1 ≤ most) (h2 : most ≤ 8192) :
    Calls Tryd.prog 32 #[.slice ao data.length c, .int .i64 k0, .int .i64 most] w (Ret fun v w' => ∃ u vs, v = .tuple #[u, .nilIface] ∧ vs.length = (parcels data most k0).length ∧ Sat w w' (bvl vs ((parcels data most k0).map Pc.data) * vec 57 3 u (parcels data most k0).length (pcs vs (parcels data most k0)))) := by
  have HT := Hid.mk' hT
  have HR := Hid.mk' hr
  have hd1 : decide ((k0 : Int) < 0) = false := decide_eq_false (by omega)
  have hd2 : decide (data.length < k0) = false := decide_eq_false (by omega)
  clear hT hr
  go_enter Tryd.func32, Tryd.ntmps32
  go_wp2_with (go_at_call 97; refine (replica_mayBe _ (by omega) (by omega)).mono ?_; rintro e w1 ⟨rfl, rfl⟩)
  go_loopw [1, 8] (fun fv lv wr => ∃ (k : Nat) (vs : List Value) (ps : List Pc), fv = .int .i64 k ∧ k ≤ data.length ∧ Hid (vs.length = ps.length) ∧ Hid (parcels data most k0 = ps ++ parcels data most k) ∧ ps.length ≤ k ∧ Sat w wr (bvl vs (ps.map Pc.data) * vec 57 3 lv ps.length (pcs vs ps))) (fun fv _ _ => data.length - (intOf fv).toNat)
  case atStart => exact ⟨k0, [], [], rfl, hk, rfl, rfl, Nat.zero_le _, by
    have h := ((Sat.refl w).vec_nil 57 3)
    exact h⟩
  case round =>
    obtain ⟨k, vs, ps, rfl, hk2, hvl, hps, hpl, hS⟩ := hrel
    by_cases hlt : k < data.length
    · obtain ⟨la, lc, rfl, _, _, _⟩ := hS.vec_rd
      obtain ⟨b1, o1, rfl, _⟩ := (HR.out.of0 hS).addr (by intro e; have := bvs_length data; rw [e] at this; simp at this; omega)
      obtain ⟨n, hn⟩ : ∃ n, min most (data.length - k) = n := ⟨_, rfl⟩
      have hn1 : 1 ≤ n := by omega
      have hn2 : n ≤ 8192 := by omega
      have hn3 : k + n ≤ data.length := by omega
      have hp0 : ((data.drop k).take most).length = n := by rw [List.length_take, List.length_drop]; exact hn
      obtain ⟨p, hp⟩ : ∃ p, (data.drop k).take most = p := ⟨_, rfl⟩
      rw [hp] at hp0
      have hrp : Rd wr (some ⟨b1, o1 + k, none⟩) (bvs p) := by
        have := ((HR.out.of0 hS).drop k).take most
        rw [bvs_drop, bvs_take, hp] at this
        exact this
      have HSL := Hid.mk' (fun c' => show Calls Tryd.prog 67 #[.int .i64 k, .slice (some ⟨b1, o1 + k, none⟩) n c'] wr (Ret fun v w' => ∃ u, v = .tuple #[pval u (sealed k p), .nilIface] ∧ Sat wr w' (vec 5 1 u p.length (bvs p))) from by
        have := replica_seal (HT.out.mono hS.below) k (by omega) p _ c' hrp (by omega) (by omega)
        rw [hp0] at this ⊢
        exact this)
      obtain ⟨gN, gP⟩ : ((ps.map Pc.data).length = ps.length) ∧ (vs.length = ps.length) := ⟨List.length_map _, hvl.out⟩
      have HGN := Hid.mk' gN
      have HP := Hid.mk' hp
      have HP0 := Hid.mk' hp0
      have HN := Hid.mk' hn
      clear gN gP hp hp0 hrp
      clear hn
      have HNX := Hid.mk' (show parcels data most k0 = (ps ++ [sealed k p]) ++ parcels data most (k + n) by
        rw [hps.out, parcels_step h1 hlt, HP.out, List.append_assoc]
        have e : parcels data most (k + most) = parcels data most (k + n) := by
          have := HN.out
          rcases Nat.le_total most (data.length - k) with h | h
          · rw [show n = most by omega]
          · rw [parcels_end (by omega), parcels_end (by omega)]
        rw [e]; rfl)
      go_wp2_with fail
      all_goals
        first
          | rw [show ((k : Int) + (most : Int)).toNat - k = n by have := HN.out; omega]
          | rw [show ((k : Int) + ((data.length : Int) - (k : Int))).toNat - k = n by have := HN.out; omega]
        refine (HSL.out _).mono ?_
        rintro e w2 ⟨v, rfl, u, rfl, hx⟩
        have hs1 := hS.glue hx
        obtain ⟨ua, uc, rfl, _, _, _⟩ := hs1.vec_rd
        simp only [pval, sealed]
        have hs2 := hs1.swap
        go_wp2_with (at_builtin; go_loud (refine sl_append rfl _ _ 48 rfl 57 (.agg #[.int .i64 0, .slice none 0 0, .int .u32 0]) 3 40 Tryd.underlying48 info_pc rfl (by decide) _ ps.length _ rfl (by exact hs2.skip.skip) _ 1 _ [.int .i64 k, .slice ua p.length uc, .int .u32 (ru32 (psum k p))] rfl rfl (by exact Rd.made' _ _ _ _ _ (by rw [World.size_alloc])) (by intro u hu; simp only [List.mem_cons, List.not_mem_nil, or_false] at hu; rcases hu with rfl | rfl | rfl <;> rfl) (by simp only [maxLen]; omega) (by omega) ?_); intro v' w5 hs6)
        refine ⟨⟨k + n, vs ++ [.slice ua p.length uc], ps ++ [sealed k p], ret_int (by have := HN.out; omega), hn3, Hid.mk' (by rw [List.length_append, List.length_append, hvl.out]; rfl), HNX, by rw [List.length_append]; simp only [List.length_cons, List.length_nil]; omega, ?_⟩, by simp [intOf]; have := HN.out; omega⟩
        rw [List.map_append, List.map_cons, List.map_nil, bvl_append (by rw [HGN.out]; exact hvl.out), pcs_append hvl.out, List.length_append, bvl_one]
        exact hs6.perm (by first | rfl | (simp only [pcs, pcells, sealed, List.append_nil, List.length_cons, List.length_nil]; first | rfl | ac_rfl))
    · obtain rfl : k = data.length := by omega
      have HE := Hid.mk' (show parcels data most k0 = ps by have := hps.out; rw [parcels_end (Nat.le_refl _), List.append_nil] at this; exact this)
      go_wp2_with fail
      go_ret2
      refine Ret.mk ⟨_, vs, rfl, ?_, ?_⟩
      · rw [HE.out]; exact hvl.out
      · rw [HE.out]; exact hS
end Go.Proofs.YtjhlelcopofkkaaDoor
