/- A slice and one that grew out of it: beside one another, or over the same memory. -/
import Derived.Test.YtjhlelcopofkkaaDoorBase
namespace Go.Proofs.YtjhlelcopofkkaaDoor
open Go.RowKit

def gr (t : TypeId) (v : Value) (n : Nat) (cs : List Value) (v' : Value) (n' : Nat) (cs' : List Value) : HP := fun h =>
  (vec t 1 v n cs * vec t 1 v' n' cs') h ∨ ∃ ao cap, v = .slice ao n cap ∧ v' = .slice ao n' cap ∧ n ≤ n' ∧ cs = cs'.take n ∧ vec t 1 v' n' cs' h
section
variable {w0 w : World} {F : HP} {t : TypeId} {v v' : Value} {n n' : Nat} {cs cs' : List Value}
theorem Sat.gr_cases (hs : Sat w0 w (F * gr t v n cs v' n' cs')) : Sat w0 w (F * vec t 1 v n cs * vec t 1 v' n' cs') ∨ ∃ ao cap, v = .slice ao n cap ∧ v' = .slice ao n' cap ∧ n ≤ n' ∧ cs = cs'.take n ∧ Sat w0 w (F * vec t 1 v' n' cs') := by
  obtain ⟨x, ⟨h1, h2, ha, hb, hd, hu⟩, hx⟩ := hs.held
  rcases hb with hb | ⟨ao, cap, e1, e2, e3, e4, hb⟩
  · left
    rw [HP.assoc]
    exact ⟨hs.below, x, ⟨h1, h2, ha, hb, hd, hu⟩, hx⟩
  · exact Or.inr ⟨ao, cap, e1, e2, e3, e4, hs.below, x, ⟨h1, h2, ha, hb, hd, hu⟩, hx⟩
theorem Sat.gr_two (hs : Sat w0 w (F * vec t 1 v n cs * vec t 1 v' n' cs')) : Sat w0 w (F * gr t v n cs v' n' cs') := by
  rw [HP.assoc] at hs
  exact hs.imp_last fun _ h => Or.inl h
theorem Sat.gr_one {ao : Option Addr} {cap : Nat} (hs : Sat w0 w (F * vec t 1 (.slice ao n' cap) n' cs')) (h1 : n ≤ n') (h2 : cs = cs'.take n) : Sat w0 w (F * gr t (.slice ao n cap) n cs (.slice ao n' cap) n' cs') :=
  hs.imp_last fun _ h => Or.inr ⟨ao, cap, rfl, rfl, h1, h2, h⟩
theorem Sat.gr_start (hs : Sat w0 w (F * vec t 1 v n cs)) : Sat w0 w (F * gr t v n cs v n cs) := by
  obtain ⟨ao, cap, rfl, _, _, _⟩ := hs.vec_rd
  obtain ⟨hl, _⟩ := hs.vec_cases
  exact hs.gr_one (Nat.le_refl _) (by rw [List.take_of_length_le (by omega)])
theorem Sat.gr_rd (hs : Sat w0 w (F * gr t v n cs v' n' cs')) : ∃ ao cap bo cap', v = .slice ao n cap ∧ v' = .slice bo n' cap' ∧ Rd w ao cs ∧ Rd w bo cs' ∧ n ≤ cap ∧ n' ≤ cap' ∧ (ao = none → n = 0 ∧ cap = 0) ∧ (bo = none → n' = 0 ∧ cap' = 0) ∧ cs.length = n ∧ cs'.length = n' := by
  rcases hs.gr_cases with h | ⟨ao, cap, e1, e2, e3, e4, h⟩
  · obtain ⟨ao, cap, rfl, a1, a2, a3⟩ := h.swap.vec_rd
    obtain ⟨bo, cap', rfl, b1, b2, b3⟩ := h.vec_rd
    exact ⟨ao, cap, bo, cap', rfl, rfl, a2, b2, a1, b1, a3, b3, by have := h.swap.vec_cases.1; omega, by have := h.vec_cases.1; omega⟩
  · subst e1; subst e2; subst e4
    obtain ⟨bo, cap', e, b1, b2, b3⟩ := h.vec_rd
    cases e
    have hl : cs'.length = n' := by have := h.vec_cases.1; omega
    exact ⟨ao, cap, ao, cap, rfl, rfl, b2.take n, b2, by omega, b1, fun e => by have := b3 e; omega, b3, by rw [List.length_take]; omega, hl⟩
end
/-- 'append' of one element to the one that grew. -/
theorem run_append_gr {P : Program} {w0 w : World} {F : HP} (t ty e : TypeId) (z : Value) (bytes : Nat) (ht : P.underlying t = some (.slice e)) (hinfo : (P.info? e).map (fun i => (i.zero, i.size, i.bytes)) = some (some z, 1, bytes))
    (hzs : z.cells.size = 1) (v v' : Value) (n n' : Nat) (cs cs' : List Value) (hsat : Sat w0 w (F * gr e v n cs v' n' cs'))
    (ad : Addr) (m c : Nat) (news : List Value) (hl : news.length = m) (hrd : Rd w (some ad) news) (h1 : ∀ u ∈ news, u.oneCell' = true)
    (h63 : n' + m ≤ maxLen) (hbytes : (n' + m) * bytes ≤ 140737488355328) :
    ∃ v'' w', (Builtin.append_ #[t, t] ty #[v', .slice (some ad) m c]).run P w = .ok v'' w' ∧ Sat w0 w' (F * gr e v n cs v'' (n' + m) (cs' ++ news)) := by
  obtain ⟨i, hi, hz, hsize, hby⟩ := info_parts hinfo
  have hc : ∀ j u, news[j]? = some u → w.cell? (ad.add j) = some u := by
    intro j u hu
    rcases hrd with hn | ⟨b, of, e', hc⟩
    · subst hn; simp at hu
    · cases e'
      rw [Addr.add_lit]
      exact hc j u hu
  rcases hsat.gr_cases with h | ⟨ao, cap, e1, e2, e3, e4, h⟩
  · obtain ⟨v'', w', hr, h2, h3, _, h5⟩ := run_append_own_at (P := P) w w0.heap.size t ty e i z 1 bytes ht hi hz hsize hby hzs (by decide) v' n' cs' h.owns ad m c news (by omega) hc h1 h63 hbytes h.lt
    exact ⟨v'', w', hr, (h.of_owns h2 h3 h5).gr_two⟩
  · subst e1; subst e2
    obtain ⟨hcl, ⟨e, en, ec, hF⟩ | ⟨b, cap', sp, e, q1, q2, q3, hb⟩⟩ := h.vec_cases
    · cases e
      obtain rfl : n = 0 := by omega
      subst ec
      have hcs : cs = [] := by rw [e4]; rfl
      subst hcs
      obtain ⟨v'', w', hr, h2, h3, _, h5⟩ := run_append_own_at (P := P) w w0.heap.size t ty e i z 1 bytes ht hi hz hsize hby hzs (by decide) _ 0 [] h.owns ad m c news (by omega) hc h1 h63 hbytes h.lt
      have h6 := h.of_owns h2 h3 h5
      refine ⟨v'', w', hr, ?_⟩
      refine Sat.gr_two ?_
      exact (h6.vec_nil e 1).swap
    · cases e
      rw [Nat.mul_one] at hcl q3
      by_cases hr : n' + m ≤ cap
      · have hlt : ∀ j, j < news.length → n' + j < (cs' ++ sp).length := fun j hj => by omega
        have hrun := run_append_room_cells (P := P) w t ty e i ht hi b 0 n' cap ad m c news (by rw [hl, hsize, Nat.mul_one]) hc h1 hr (fun j hj => by
          rw [hsize, Nat.mul_one, Nat.zero_add, hb.cell (List.getElem?_eq_getElem (hlt j hj))]
          rfl) (fun j hj => hb.free _)
        rw [hsize, Nat.mul_one, Nat.zero_add] at hrun
        refine ⟨_, _, hrun, ?_⟩
        have hst := Sat.stores news w (cs' ++ sp) n' hb (by omega)
        rw [List.length_append] at q3
        have e5 : put (cs' ++ sp) n' news = cs' ++ news ++ sp.drop news.length := by
          simp only [put]
          rw [← hcl, List.take_left' rfl, List.drop_append, List.drop_eq_nil_of_le (by omega), Nat.add_sub_cancel_left]
          simp
        rw [e5] at hst
        refine Sat.gr_one ?_ (by omega) (by rw [List.take_append_of_le_length (by omega)]; exact e4)
        exact Sat.vec_mk hst (by rw [List.length_append]; omega) hr q2 (by rw [List.length_append, List.length_append, List.length_drop]; omega)
      · obtain ⟨v'', w', hrun, r1, r2⟩ := run_append_arg_grows (P := P) w t ty e i z 1 bytes ht hi hz hsize hby hzs (by decide) ⟨b, 0, none⟩ n' cap cs' (by omega) (fun j u hu => by
          rw [Addr.add_lit, Nat.zero_add]
          refine hb.cell ?_
          rw [List.getElem?_append_left (List.getElem?_eq_some_iff.1 hu).1]
          exact hu) ad m c news (by omega) hc (by omega) h63 hbytes
        refine ⟨v'', w', hrun, ?_⟩
        have hcs : cs ++ (cs'.drop n ++ sp) = cs' ++ sp := by rw [e4, ← List.append_assoc, List.take_append_drop]
        have h7 : Sat w0 w (F * vec e 1 (.slice (some ⟨b, 0, none⟩) n cap) n cs) := by
          rw [← hcs] at hb
          exact Sat.vec_mk hb (by rw [e4, List.length_take]; omega) (by omega) q2 (by rw [hcs]; omega)
        exact (h7.glue (Sat.of_owns_new r1 r2)).gr_two
theorem sl_append_gr {P : Program} {w0 w : World} {F : HP} {ops : Array Oper} {rest : List Oper} {o : Oper} {a : Act} {Q : Exit → Act → World → Prop}
    (hgd : o.guard = none) (s x : Operand) (t : TypeId) (ho : o.op = .call { callee := .builtin .append, args := #[s, x], argTypes := #[t, t] })
    (e : TypeId) (z : Value) (bytes : Nat) (ht : P.underlying t = some (.slice e)) (hinfo : (P.info? e).map (fun i => (i.zero, i.size, i.bytes)) = some (some z, 1, bytes))
    (hzs : z.cells.size = 1) (v v' : Value) (n n' : Nat) (cs cs' : List Value) (hs : a.eval s = v') (hsat : Sat w0 w (F * gr e v n cs v' n' cs'))
    (ad : Addr) (m c : Nat) (news : List Value) (hx : a.eval x = .slice (some ad) m c) (hl : news.length = m) (hrd : Rd w (some ad) news) (h1 : ∀ u ∈ news, u.oneCell' = true)
    (h63 : n' + m ≤ maxLen) (hbytes : (n' + m) * bytes ≤ 140737488355328)
    (h : ∀ v'' w', Sat w0 w' (F * gr e v n cs v'' (n' + m) (cs' ++ news)) → wpList P ops Q rest (a.put o.dst v'') w') : wpList P ops Q (o :: rest) a w := by
  refine wpList_plain hgd fun K hK => ?_
  obtain ⟨v'', w', hr, hS⟩ := run_append_gr t o.type e z bytes ht hinfo hzs v v' n n' cs cs' hsat ad m c news hl hrd h1 h63 hbytes
  exact wp_append_run ho hs hx hr (hK _ _ (h v'' w' hS))

/-- Each value with one that grew out of it. -/
def grl : List Value → List (List UInt8) → List Value → List (List UInt8) → HP
  | [], [], [], [] => 1
  | v :: vs, p :: ps, u :: us, q :: qs => gr 5 v p.length (bvs p) u q.length (bvs q) * grl vs ps us qs
  | _, _, _, _ => fun _ => False
theorem grl_nil : grl [] [] [] [] = 1 := rfl
theorem grl_cons (v u : Value) (vs us : List Value) (p q : List UInt8) (ps qs : List (List UInt8)) : grl (v :: vs) (p :: ps) (u :: us) (q :: qs) = gr 5 v p.length (bvs p) u q.length (bvs q) * grl vs ps us qs := rfl
theorem grl_len : ∀ {vs : List Value} {ps : List (List UInt8)} {us : List Value} {qs : List (List UInt8)} {h : Hl}, grl vs ps us qs h → vs.length = ps.length ∧ us.length = ps.length ∧ qs.length = ps.length
  | [], [], [], [], _, _ => ⟨rfl, rfl, rfl⟩
  | v :: vs, p :: ps, u :: us, q :: qs, h, hh => by
    obtain ⟨h1, h2, _, hb, _, _⟩ := hh
    have := grl_len hb
    simp [this.1, this.2.1, this.2.2]
  | [], [], [], _ :: _, _, hh => hh.elim
  | [], [], _ :: _, _, _, hh => hh.elim
  | [], _ :: _, _, _, _, hh => hh.elim
  | _ :: _, [], _, _, _, hh => hh.elim
  | _ :: _, _ :: _, [], _, _, hh => hh.elim
  | _ :: _, _ :: _, _ :: _, [], _, hh => hh.elim
theorem grl_snoc : ∀ {vs : List Value} {ps : List (List UInt8)} {us : List Value} {qs : List (List UInt8)}, vs.length = ps.length → us.length = ps.length → qs.length = ps.length → ∀ (v u : Value) (p q : List UInt8),
    grl (vs ++ [v]) (ps ++ [p]) (us ++ [u]) (qs ++ [q]) = grl vs ps us qs * gr 5 v p.length (bvs p) u q.length (bvs q)
  | [], [], [], [], _, _, _, v, u, p, q => by
    show gr 5 v p.length (bvs p) u q.length (bvs q) * 1 = 1 * _
    rw [HP.mul_one, HP.one_mul]
  | v0 :: vs, p0 :: ps, u0 :: us, q0 :: qs, h1, h2, h3, v, u, p, q => by
    simp only [List.cons_append, grl_cons]
    rw [grl_snoc (by simpa using h1) (by simpa using h2) (by simpa using h3), HP.assoc]
  | [], [], [], _ :: _, _, _, h, _, _, _, _ => by simp at h
  | [], [], _ :: _, _, _, h, _, _, _, _, _ => by simp at h
  | [], _ :: _, _, _, h, _, _, _, _, _, _ => by simp at h
  | _ :: _, [], _, _, h, _, _, _, _, _, _ => by simp at h
  | _ :: _, _ :: _, [], _, _, h, _, _, _, _, _ => by simp at h
  | _ :: _, _ :: _, _ :: _, [], _, _, h, _, _, _, _ => by simp at h
/-- One pair, read. -/
theorem grl_pick : ∀ {vs : List Value} {ps : List (List UInt8)} {us : List Value} {qs : List (List UInt8)}, vs.length = ps.length → us.length = ps.length → qs.length = ps.length → ∀ (k : Nat) (hk : k < ps.length), ∃ (v u : Value) (q : List UInt8) (G : HP), vs[k]? = some v ∧ us[k]? = some u ∧ qs[k]? = some q ∧ grl vs ps us qs = G * gr 5 v ps[k].length (bvs ps[k]) u q.length (bvs q)
  | v0 :: vs, p0 :: ps, u0 :: us, q0 :: qs, h1, h2, h3, 0, _ => ⟨v0, u0, q0, grl vs ps us qs, rfl, rfl, rfl, by rw [grl_cons, HP.comm]; rfl⟩
  | v0 :: vs, p0 :: ps, u0 :: us, q0 :: qs, h1, h2, h3, k + 1, hk => by
    obtain ⟨v, u, q, G, e1, e2, e3, e4⟩ := grl_pick (vs := vs) (ps := ps) (us := us) (qs := qs) (by simpa using h1) (by simpa using h2) (by simpa using h3) k (by simpa using hk)
    refine ⟨v, u, q, gr 5 v0 p0.length (bvs p0) u0 q0.length (bvs q0) * G, by simpa using e1, by simpa using e2, by simpa using e3, ?_⟩
    rw [grl_cons, e4, HP.assoc]
    rfl
  | [], [], [], [], _, _, _, k, hk => absurd hk (Nat.not_lt_zero k)
  | [], [], [], _ :: _, _, _, h, _, _ => by simp at h
  | [], [], _ :: _, _, _, h, _, _, _ => by simp at h
  | [], _ :: _, _, _, h, _, _, _, _ => by simp at h
  | _ :: _, [], _, _, h, _, _, _, _ => by simp at h
  | _ :: _, _ :: _, [], _, _, h, _, _, _ => by simp at h
  | _ :: _, _ :: _, _ :: _, [], _, _, h, _, _ => by simp at h
theorem Sat.grl_len {w0 w : World} {F : HP} {vs us : List Value} {ps qs : List (List UInt8)} (hs : Sat w0 w (F * grl vs ps us qs)) : vs.length = ps.length ∧ us.length = ps.length ∧ qs.length = ps.length := by
  obtain ⟨x, ⟨h1, h2, ha, hb, hd, hu⟩, hx⟩ := hs.held
  exact Go.Proofs.YtjhlelcopofkkaaDoor.grl_len hb
/-- The cells of one pair. -/
theorem Sat.grl_rd {w0 w : World} {F : HP} {vs us : List Value} {ps qs : List (List UInt8)} (hs : Sat w0 w (F * grl vs ps us qs)) {k : Nat} {p q : List UInt8} (hp : ps[k]? = some p) (hq : qs[k]? = some q) :
    ∃ (ao bo : Option Addr) (c d : Nat), vs[k]? = some (.slice ao p.length c) ∧ us[k]? = some (.slice bo q.length d) ∧ Rd w ao (bvs p) ∧ Rd w bo (bvs q) ∧ p.length ≤ c ∧ q.length ≤ d := by
  obtain ⟨l1, l2, l3⟩ := hs.grl_len
  obtain ⟨hk, rfl⟩ := List.getElem?_eq_some_iff.1 hp
  obtain ⟨v, u, q', G, e1, e2, e3, e4⟩ := grl_pick l1 l2 l3 k hk
  rw [hq] at e3
  cases e3
  rw [e4, ← HP.assoc] at hs
  obtain ⟨ao, cap, bo, cap', rfl, rfl, r1, r2, c1, c2, _, _, _, _⟩ := hs.gr_rd
  exact ⟨ao, bo, cap, cap', e1, e2, r1, r2, c1, c2⟩
end Go.Proofs.YtjhlelcopofkkaaDoor
