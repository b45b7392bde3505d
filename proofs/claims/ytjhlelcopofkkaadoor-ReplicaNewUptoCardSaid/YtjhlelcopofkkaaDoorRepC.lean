/- Parcels written full, each grown; looked at. -/
import Derived.Test.YtjhlelcopofkkaaDoorRepB
import Derived.Test.YtjhlelcopofkkaaDoorGrow
import Derived.Test.YtjhlelcopofkkaaDoorNewB
namespace Go.Proofs.YtjhlelcopofkkaaDoor
open Go.RowKit

/-- The mark of a number. -/
def mk3 (i : Nat) : UInt8 := UInt8.ofNat (i % 251)
theorem mk3_val (i : Nat) : ((mk3 i).toNat : Int) = (i : Int) % 251 := by
  unfold mk3
  rw [UInt8.toNat_ofNat', Nat.mod_eq_of_lt (by omega)]
  omega
section
variable (f : Nat → UInt8)
def mkd : Nat → List (List UInt8) → List (List UInt8)
  | _, [] => []
  | i, p :: ps => List.replicate p.length (f i) :: mkd (i + 1) ps
theorem mkd_length : ∀ (i : Nat) (ps : List (List UInt8)), (mkd f i ps).length = ps.length
  | _, [] => rfl
  | i, p :: ps => by simp [mkd, mkd_length]
theorem mkd_get : ∀ (i : Nat) (ps : List (List UInt8)) (k : Nat) (h : k < ps.length), (mkd f i ps)[k]? = some (List.replicate ps[k].length (f (i + k)))
  | _, [], k, h => absurd h (Nat.not_lt_zero k)
  | i, p :: ps, 0, _ => rfl
  | i, p :: ps, k + 1, h => by
    simp only [mkd, List.getElem?_cons_succ]
    rw [mkd_get (i + 1) ps k (by simpa using h)]
    simp [Nat.add_assoc, Nat.add_comm 1 k]
theorem mkd_snoc : ∀ (i : Nat) (ps : List (List UInt8)) (p : List UInt8), mkd f i (ps ++ [p]) = mkd f i ps ++ [List.replicate p.length (f (i + ps.length))]
  | i, [], p => rfl
  | i, q :: ps, p => by
    simp only [List.cons_append, mkd]
    rw [mkd_snoc (i + 1) ps p]
    simp [Nat.add_assoc, Nat.add_comm 1 ps.length]
def fld (ps : List (List UInt8)) (k : Nat) : List (List UInt8) := mkd f 0 (ps.take k) ++ ps.drop k
theorem fld_all (ps : List (List UInt8)) : fld f ps ps.length = mkd f 0 ps := by unfold fld; rw [List.take_length, List.drop_length, List.append_nil]
theorem fld_step (ps : List (List UInt8)) (k : Nat) (h : k < ps.length) : ∃ A p B, p ∈ ps ∧ A.length = k ∧ B.length = ps.length - (k + 1) ∧ fld f ps k = A ++ p :: B ∧ fld f ps (k + 1) = A ++ List.replicate p.length (f k) :: B := by
  refine ⟨mkd f 0 (ps.take k), ps[k], ps.drop (k + 1), List.getElem_mem h, by rw [mkd_length, List.length_take]; omega, by rw [List.length_drop], ?_, ?_⟩
  · unfold fld; rw [List.drop_eq_getElem_cons h]
  · unfold fld
    rw [take_snoc ps k h, mkd_snoc, List.length_take, Nat.min_eq_left (by omega), Nat.zero_add, List.append_assoc]
    rfl
def grw : Nat → List (List UInt8) → List (List UInt8)
  | _, [] => []
  | i, p :: ps => (p ++ List.replicate 64 (f i)) :: grw (i + 1) ps
theorem grw_length : ∀ (i : Nat) (ps : List (List UInt8)), (grw f i ps).length = ps.length
  | _, [] => rfl
  | i, p :: ps => by simp [grw, grw_length]
theorem grw_snoc : ∀ (i : Nat) (ps : List (List UInt8)) (p : List UInt8), grw f i (ps ++ [p]) = grw f i ps ++ [p ++ List.replicate 64 (f (i + ps.length))]
  | i, [], p => rfl
  | i, q :: ps, p => by
    simp only [List.cons_append, grw]
    rw [grw_snoc (i + 1) ps p]
    simp [Nat.add_assoc, Nat.add_comm 1 ps.length]
theorem grw_get : ∀ (i : Nat) (ps : List (List UInt8)) (k : Nat) (h : k < ps.length), (grw f i ps)[k]? = some (ps[k] ++ List.replicate 64 (f (i + k)))
  | _, [], k, h => absurd h (Nat.not_lt_zero k)
  | i, p :: ps, 0, _ => rfl
  | i, p :: ps, k + 1, h => by
    simp only [grw, List.getElem?_cons_succ]
    rw [grw_get (i + 1) ps k (by simpa using h)]
    simp [Nat.add_assoc, Nat.add_comm 1 k]
theorem mkd_mem {i : Nat} {ps : List (List UInt8)} (h : ∀ p ∈ ps, 1 ≤ p.length ∧ p.length ≤ 8192) : ∀ q ∈ mkd f i ps, 1 ≤ q.length ∧ q.length ≤ 8192 := by
  intro q hq
  obtain ⟨k, hk, rfl⟩ := List.getElem_of_mem hq
  rw [mkd_length] at hk
  have e := mkd_get f i ps k hk
  have e2 : (mkd f i ps)[k]? = some ((mkd f i ps)[k]'(by rw [mkd_length]; exact hk)) := List.getElem?_eq_getElem _
  rw [e] at e2
  have e3 := Option.some.inj e2
  rw [← e3, List.length_replicate]
  exact h _ (List.getElem_mem hk)
end

/-- The cell of a parcel's bytes. -/
theorem pc_data {w : World} {la : Option Addr} {V : List Value} {PS : List Pc} (h : Rd w la (pcs V PS)) {k : Nat} {v : Value} {p : Pc} (hv : V[k]? = some v) (hp : PS[k]? = some p) : ∃ b o, la = some ⟨b, o, none⟩ ∧ w.cell? ⟨b, o + k * 3 + 1, none⟩ = some v := by
  obtain ⟨_, g1, _⟩ := pcs_get hv hp
  obtain ⟨b, o, e, hc⟩ := h.addr (by intro e; rw [e] at g1; simp at g1)
  exact ⟨b, o, e, by have := hc _ _ g1; rwa [← Nat.add_assoc] at this⟩

set_option maxRecDepth 20000 in
set_option maxHeartbeats 25600000 in
theorem law27_full {w0 w : World} {FR : HP} {V : List Value} {PS : List Pc} {Ds : List (List UInt8)} {N lc : Nat} {la : Option Addr} (hPN : PS.length = N) (hDN : Ds.length = N) (hNb : N ≤ 16777216) (hDM : ∀ p ∈ Ds, 1 ≤ p.length ∧ p.length ≤ 8192)
    (hs : Sat w0 w (FR * vec 57 3 (.slice la N lc) N (pcs V PS) * bvl V Ds)) :
    Calls Tryd.prog 35 #[.slice la N lc] w (Ret fun v w' => ∃ (lo : Option Addr) (ld : Nat) (us : List Value), v = .slice lo N ld ∧ Sat w0 w' (FR * vec 57 3 (.slice la N lc) N (pcs V PS) * vec 22 1 (.slice lo N ld) N us * grl V (mkd mk3 0 Ds) us (grw mk3 0 (mkd mk3 0 Ds)))) := by
  have hVN : V.length = N := by rw [hs.bvl_len, hDN]
  have HVN := Hid.mk' hVN
  have HPN := Hid.mk' hPN
  have HDN := Hid.mk' hDN
  have HDM := Hid.mk' hDM
  have HB := Hid.mk' (fun (w' : World) (G : HP) (h : Sat w0 w' (FR * vec 57 3 (.slice la N lc) N (pcs V PS) * G)) (k : Nat) (v : Value) (hv : V[k]? = some v) (hk : k < N) => show ∃ b o, la = some ⟨b, o, none⟩ ∧ w'.cell? ⟨b, o + k * 3 + 1, none⟩ = some v from
    pc_data h.swap.rd hv (List.getElem?_eq_getElem (by rw [hPN]; exact hk)))
  obtain ⟨Q, hQ⟩ : ∃ Q, mkd mk3 0 Ds = Q := ⟨_, rfl⟩
  rw [hQ]
  have HQE := Hid.mk' hQ
  clear hVN hPN hDN hDM hQ
  go_enter Tryd.func35, Tryd.ntmps35
  go_wp2_with fail
  go_loopw [4] (fun i wr => ∃ k : Nat, k ≤ N ∧ i = .int .i64 k ∧ Sat w0 wr (FR * vec 57 3 (.slice la N lc) N (pcs V PS) * bvl V (fld mk3 Ds k))) (fun i _ => N - (intOf i).toNat)
  case atStart => exact ⟨0, by omega, rfl, hs⟩
  case round =>
    clear hs
    obtain ⟨k, hk, rfl, hS⟩ := hrel
    by_cases hlt : k < N
    · obtain ⟨A, p, B, hpm, hA, hB, hf1, hf2⟩ := fld_step mk3 Ds k (by rw [HDN.out]; exact hlt)
      have hkm := HDM.out p hpm
      obtain ⟨v, hv, hsp⟩ := bvl_split (V := V) (A := A) (B := B) (by rw [HVN.out, hA, hB, HDN.out]; omega)
      rw [hf1, hsp, hA] at hS
      rw [hA] at hv
      have HF2 := Hid.mk' (show bvl V (fld mk3 Ds (k + 1)) = bvl (V.take k) A * bvl (V.drop (k + 1)) B * vec 5 1 v p.length (bvs (List.replicate p.length (mk3 k))) by rw [hf2, hsp, hA, List.length_replicate])
      have hp1 := hkm.1
      have hp2 := hkm.2
      have hS0 := hS.perm (B := FR * vec 57 3 (.slice la N lc) N (pcs V PS) * bvl (V.take k) A * bvl (V.drop (k + 1)) B * vec 5 1 v p.length (bvs p)) (by ac_rfl)
      clear hS hf1 hf2 hsp hkm hpm
      obtain ⟨_, ⟨_, h, _⟩ | ⟨g, cap, sp, rfl, c1, c2, c3, hS1⟩⟩ := hS0.vec_cases
      · omega
      obtain ⟨hb, ho, rfl, hc1⟩ := HB.out _ (bvl (V.take k) A * bvl (V.drop (k + 1)) B * blk g (bvs p ++ sp) 5) (hS1.perm (by ac_rfl)) k _ hv hlt
      have HC := Hid.mk' (fun (w' : World) (G : HP) (h : Sat w0 w' (FR * vec 57 3 (.slice (some ⟨hb, ho, none⟩) N lc) N (pcs V PS) * G)) => show w'.cell? ⟨hb, ho + k * 3 + 1, none⟩ = some (.slice (some ⟨g, 0, none⟩) p.length cap) from by
        obtain ⟨b', o', e', hc'⟩ := HB.out w' G h k _ hv hlt
        cases e'
        exact hc')
      clear hS0 hc1 hv
      have hS2 := hS1.perm (B := FR * vec 57 3 (.slice (some ⟨hb, ho, none⟩) N lc) N (pcs V PS) * bvl (V.take k) A * bvl (V.drop (k + 1)) B * blk g (bvs (List.replicate 0 (mk3 k) ++ p.drop 0) ++ sp) 5) rfl
      clear hS1
      have HCC := Hid.mk' c3
      clear c3
      go_wp2_with fail
      go_loopw [5] (fun j wr => ∃ m : Nat, m ≤ p.length ∧ j = .int .i64 m ∧ Sat w0 wr (FR * vec 57 3 (.slice (some ⟨hb, ho, none⟩) N lc) N (pcs V PS) * bvl (V.take k) A * bvl (V.drop (k + 1)) B * blk g (bvs (List.replicate m (mk3 k) ++ p.drop m) ++ sp) 5)) (fun j _ => p.length - (intOf j).toNat)
      case atStart => exact ⟨0, by omega, rfl, hS2⟩
      case round =>
        clear hS2
        obtain ⟨m, hm, rfl, hT⟩ := hrel
        have hcell := HC.out _ (bvl (V.take k) A * bvl (V.drop (k + 1)) B * blk g (bvs (List.replicate m (mk3 k) ++ p.drop m) ++ sp) 5) (hT.perm (by ac_rfl))
        by_cases hml : m < p.length
        · have hq := hT.cell (i := m) (v := bv p[m]) (by rw [List.getElem?_append_left (by rw [bvs_length, fill_len _ _ _ hm]; exact hml)]; exact fill_get p m _ hml)
          have hfz := hT.free m
          have HST := Hid.mk' (fun (X : Value) (hX : X = bv (mk3 k)) => show Sat w0 (wr.setCell ⟨g, m, none⟩ X) (FR * vec 57 3 (.slice (some ⟨hb, ho, none⟩) N lc) N (pcs V PS) * bvl (V.take k) A * bvl (V.drop (k + 1)) B * blk g (bvs (List.replicate (m + 1) (mk3 k) ++ p.drop (m + 1)) ++ sp) 5) from by
            subst hX
            have h := hT.store m (bv (mk3 k))
            rw [List.set_append_left _ _ (by rw [bvs_length, fill_len _ _ _ hm]; exact hml), fill_set p m _ hml] at h
            exact h)
          unfold bv at hq
          go_wp2_with fail
          exact ⟨⟨m + 1, by omega, rfl, HST.out _ (ret_int (by rw [mk3_val]))⟩, by simp [intOf]; omega⟩
        · obtain rfl : m = p.length := by omega
          rw [List.drop_length, List.append_nil] at hT
          have h5 := Sat.vec_mk (n := p.length) (cap := cap) (hT) (by rw [bvs_length, List.length_replicate, Nat.mul_one]) c1 c2 (by have := HCC.out; rw [List.length_append, bvs_length] at this; rw [List.length_append, bvs_length, List.length_replicate]; exact this)
          go_wp2_with fail
          refine ⟨⟨k + 1, by omega, rfl, ?_⟩, by simp [intOf]; omega⟩
          rw [HF2.out]
          exact h5.perm (by ac_rfl)
    · obtain rfl : N = k := by omega
      have hfa : fld mk3 Ds N = mkd mk3 0 Ds := by have := fld_all mk3 Ds; rw [HDN.out] at this; exact this
      rw [hfa] at hS
      have hQ := HQE.out
      have HQM := Hid.mk' (show ∀ q ∈ Q, 1 ≤ q.length ∧ q.length ≤ 8192 from hQ ▸ mkd_mem mk3 HDM.out)
      have HQN := Hid.mk' (show Q.length = N by rw [← hQ, mkd_length]; exact HDN.out)
      rw [hQ] at hS
      clear hQ hfa
      have hS2 : Sat w0 wr (FR * vec 57 3 (.slice la N lc) N (pcs V PS) * vec 22 1 (.slice none 0 0) 0 [] * grl (V.take 0) (Q.take 0) [] (grw mk3 0 (Q.take 0)) * bvl (V.drop 0) (Q.drop 0)) := by
        have h := (hS.vec_nil 22 1).one
        rw [← grl_nil] at h
        exact h.perm (by simp only [List.take_zero, List.drop_zero, grw]; ac_rfl)
      clear hS
      go_wp2_with fail
      go_loopw [3, 6] (fun lv i wr => ∃ (k : Nat) (us : List Value), k ≤ N ∧ i = .int .i64 k ∧ Sat w0 wr (FR * vec 57 3 (.slice la N lc) N (pcs V PS) * vec 22 1 lv k us * grl (V.take k) (Q.take k) us (grw mk3 0 (Q.take k)) * bvl (V.drop k) (Q.drop k))) (fun _ i _ => N - (intOf i).toNat)
      case atStart => exact ⟨0, [], by omega, rfl, hS2⟩
      case round =>
        clear hS2
        obtain ⟨k, us, hk, rfl, hS⟩ := hrel
        by_cases hlt : k < N
        · obtain ⟨v, q, hv, hq, hqm, ht1, ht2, hbd'⟩ := bvl_drop (V := V) (Q := Q) (k := k) (by rw [HVN.out]; exact hlt) (by rw [HQN.out]; exact hlt)
          have hq1 := (HQM.out q hqm).1
          have hq2 := (HQM.out q hqm).2
          have HTV := Hid.mk' ht1
          have HTQ := Hid.mk' ht2
          rw [hbd'] at hS
          obtain ⟨ja, jc, rfl, _, _, _⟩ := (hS.perm (B := FR * vec 57 3 (.slice la N lc) N (pcs V PS) * grl (V.take k) (Q.take k) us (grw mk3 0 (Q.take k)) * (vec 5 1 v q.length (bvs q) * bvl (V.drop (k + 1)) (Q.drop (k + 1))) * vec 22 1 _ k us) (by ac_rfl)).vec_rd
          obtain ⟨va, vcap, rfl, _, _, _⟩ := (hS.perm (B := FR * vec 57 3 (.slice la N lc) N (pcs V PS) * vec 22 1 (.slice ja k jc) k us * grl (V.take k) (Q.take k) us (grw mk3 0 (Q.take k)) * bvl (V.drop (k + 1)) (Q.drop (k + 1)) * vec 5 1 v q.length (bvs q)) (by ac_rfl)).vec_rd
          have hS1 := (hS.perm (B := FR * vec 57 3 (.slice la N lc) N (pcs V PS) * vec 22 1 (.slice ja k jc) k us * grl (V.take k) (Q.take k) us (grw mk3 0 (Q.take k)) * bvl (V.drop (k + 1)) (Q.drop (k + 1)) * vec 5 1 (.slice va q.length vcap) q.length (bvs q)) (by ac_rfl)).gr_start
          obtain ⟨hb, ho, rfl, hcell⟩ := HB.out _ (vec 22 1 (.slice ja k jc) k us * grl (V.take k) (Q.take k) us (grw mk3 0 (Q.take k)) * bvl (V.drop (k + 1)) (Q.drop (k + 1)) * gr 5 (.slice va q.length vcap) q.length (bvs q) (.slice va q.length vcap) q.length (bvs q)) (hS1.perm (by ac_rfl)) k _ hv hlt
          have hs16 : Sat w0 wr (FR * vec 57 3 (.slice (some ⟨hb, ho, none⟩) N lc) N (pcs V PS) * vec 22 1 (.slice ja k jc) k us * grl (V.take k) (Q.take k) us (grw mk3 0 (Q.take k)) * bvl (V.drop (k + 1)) (Q.drop (k + 1)) * gr 5 (.slice va q.length vcap) q.length (bvs q) (.slice va q.length vcap) (q.length + 0) (bvs (q ++ List.replicate 0 (mk3 k)))) := by
            rw [List.replicate_zero, List.append_nil]; exact hS1
          clear hS hS1 hbd' ht1 ht2 hqm hv hq
          go_wp2_with fail
          go_loopw [7, 8] (fun pv j wr => ∃ m : Nat, m ≤ 64 ∧ j = .int .i64 m ∧ Sat w0 wr (FR * vec 57 3 (.slice (some ⟨hb, ho, none⟩) N lc) N (pcs V PS) * vec 22 1 (.slice ja k jc) k us * grl (V.take k) (Q.take k) us (grw mk3 0 (Q.take k)) * bvl (V.drop (k + 1)) (Q.drop (k + 1)) * gr 5 (.slice va q.length vcap) q.length (bvs q) pv (q.length + m) (bvs (q ++ List.replicate m (mk3 k))))) (fun _ j _ => 64 - (intOf j).toNat)
          case atStart => exact ⟨0, by omega, rfl, hs16⟩
          case round =>
            clear hs16 hcell
            obtain ⟨m, hm, rfl, hT⟩ := hrel
            by_cases hml : m < 64
            · obtain ⟨_, _, po, pcp, _, rfl, _, _, _, _, _, _, _, _⟩ := hT.gr_rd
              go_wp2_with (at_builtin; go_loud (refine sl_append_gr rfl _ _ 22 rfl 5 (.int .u8 0) 1 Tryd.underlying22 info_u8 rfl _ _ _ (q.length + m) _ _ rfl (by exact hT.skip) _ 1 _ [.int .u8 ((k : Int) % 251)] rfl rfl (by exact Rd.made _ _ _ _) (by intro u hu; rw [List.mem_singleton] at hu; subst hu; rfl) (by simp only [maxLen]; omega) (by omega) ?_); intro v' w' hS')
              refine ⟨⟨m + 1, by omega, rfl, ?_⟩, by simp [intOf]; omega⟩
              have e : bvs (q ++ List.replicate (m + 1) (mk3 k)) = bvs (q ++ List.replicate m (mk3 k)) ++ [.int .u8 ((k : Int) % 251)] := by
                rw [List.replicate_succ', ← List.append_assoc, bvs_append]
                exact congrArg (fun x => bvs (q ++ List.replicate m (mk3 k)) ++ [Value.int .u8 x]) (by rw [mk3_val])
              rw [e]
              exact hS'
            · obtain rfl : m = 64 := by omega
              obtain ⟨_, _, po, pcp, _, rfl, _, _, _, _, _, _, _, _⟩ := hT.gr_rd
              have hT2 := hT.perm (B := FR * vec 57 3 (.slice (some ⟨hb, ho, none⟩) N lc) N (pcs V PS) * grl (V.take k) (Q.take k) us (grw mk3 0 (Q.take k)) * bvl (V.drop (k + 1)) (Q.drop (k + 1)) * gr 5 (.slice va q.length vcap) q.length (bvs q) (.slice po (q.length + 64) pcp) (q.length + 64) (bvs (q ++ List.replicate 64 (mk3 k))) * vec 22 1 (.slice ja k jc) k us) (by ac_rfl)
              have hgl := (hT2.perm (B := FR * vec 57 3 (.slice (some ⟨hb, ho, none⟩) N lc) N (pcs V PS) * bvl (V.drop (k + 1)) (Q.drop (k + 1)) * gr 5 (.slice va q.length vcap) q.length (bvs q) (.slice po (q.length + 64) pcp) (q.length + 64) (bvs (q ++ List.replicate 64 (mk3 k))) * vec 22 1 (.slice ja k jc) k us * grl (V.take k) (Q.take k) us (grw mk3 0 (Q.take k))) (by ac_rfl)).grl_len
              have HGL := Hid.mk' hgl
              clear hT hgl
              go_wp2_with (at_builtin; go_loud (refine sl_append rfl _ _ 37 rfl 22 (.slice none 0 0) 1 24 Tryd.underlying37 info_lists rfl (by decide) _ k _ rfl (by exact hT2.skip) _ 1 _ [.slice po (q.length + 64) pcp] rfl rfl (by exact Rd.made _ _ _ _) (by intro u hu; rw [List.mem_singleton] at hu; subst hu; rfl) (by simp only [maxLen]; omega) (by omega) ?_); intro v' w' hS')
              refine ⟨⟨k + 1, us ++ [.slice po (q.length + 64) pcp], by omega, rfl, ?_⟩, by simp [intOf]; omega⟩
              have hlq : (Q.take k).length = k := by rw [List.length_take, HQN.out]; omega
              rw [HTV.out, HTQ.out, grw_snoc, Nat.zero_add, hlq, grl_snoc HGL.out.1 HGL.out.2.1 HGL.out.2.2, List.length_append, List.length_replicate]
              exact hS'.perm (by ac_rfl)
        · obtain rfl : N = k := by omega
          obtain ⟨ja, jc, rfl, _, _, _⟩ := (hS.perm (B := FR * vec 57 3 (.slice la N lc) N (pcs V PS) * grl (V.take N) (Q.take N) us (grw mk3 0 (Q.take N)) * bvl (V.drop N) (Q.drop N) * vec 22 1 _ N us) (by ac_rfl)).vec_rd
          have hS3 : Sat w0 wr (FR * vec 57 3 (.slice la N lc) N (pcs V PS) * vec 22 1 (.slice ja N jc) N us * grl V Q us (grw mk3 0 Q)) := by
            have e1 : V.take N = V := List.take_of_length_le (by rw [HVN.out]; exact Nat.le_refl _)
            have e2 : Q.take N = Q := List.take_of_length_le (by rw [HQN.out]; exact Nat.le_refl _)
            have e3 : V.drop N = [] := List.drop_eq_nil_of_le (by rw [HVN.out]; exact Nat.le_refl _)
            have e4 : Q.drop N = [] := List.drop_eq_nil_of_le (by rw [HQN.out]; exact Nat.le_refl _)
            rw [e1, e2, e3, e4, bvl_nil, HP.mul_one] at hS
            exact hS
          clear hS
          go_wp2_with fail
          go_ret
          exact Ret.mk ⟨ja, jc, us, rfl, hS3⟩
end Go.Proofs.YtjhlelcopofkkaaDoor

