/- A slice that is held wherever it lies in a block of its own: cut, taken from the front, appended to. -/
import Derived.Test.YtjhlelcopofkkaaDoorLst
import Derived.ArgAppend
import Derived.RegionTactic
namespace Go.Proofs.YtjhlelcopofkkaaDoor
open Go.RowKit

theorem put_cons {cur : List Value} {off : Nat} {v : Value} {r : List Value} (h : off < cur.length) : put (cur.set off v) (off + 1) r = put cur off (v :: r) := by
  simp only [put, List.length_cons]
  rw [List.take_set, List.drop_set_of_lt (by omega)]
  have e1 : (cur.take (off + 1)).set off v = cur.take off ++ [v] := by
    rw [List.take_succ_eq_append_getElem h, List.set_append_right _ _ (by simp; omega)]
    have : off - (cur.take off).length = 0 := by rw [List.length_take]; omega
    rw [this]
    rfl
  rw [e1, show off + 1 + r.length = off + (r.length + 1) by omega]
  simp
theorem Sat.stores {w0 : World} {F : HP} {b : Nat} {t : TypeId} : ∀ (news : List Value) (w : World) (cs : List Value) (off : Nat), Sat w0 w (F * blk b cs t) → off + news.length ≤ cs.length → Sat w0 (w.setCells b off news) (F * blk b (put cs off news) t)
  | [], w, cs, off, hs, _ => by rw [put_nil]; exact hs
  | v :: r, w, cs, off, hs, h => by
    rw [List.length_cons] at h
    have := Sat.stores r _ _ (off + 1) (hs.store off v) (by rw [List.length_set]; omega)
    rw [put_cons (by omega)] at this
    exact this

theorem Rd.made' (w : World) (l : List Value) (e : TypeId) (fr : Nat × Nat) (n : Nat) (h : w.heap.size = n) : Rd (w.alloc (.cells l.toArray e fr)) (some ⟨n, 0, none⟩) l := by
  subst h; exact Rd.made w l e fr
/-- A slice in a block of its own. -/
def vo (t : TypeId) (sz : Nat) (v : Value) (n : Nat) (cs : List Value) : HP := fun h =>
  cs.length = n * sz ∧ ((v = .slice none 0 0 ∧ n = 0 ∧ (1 : HP) h) ∨
    ∃ b cap pre sp, v = .slice (some ⟨b, pre.length, none⟩) n cap ∧ n ≤ cap ∧ cap ≤ maxLen ∧ cap * sz ≤ (cs ++ sp).length ∧ blk b (pre ++ (cs ++ sp)) t h)

section
variable {w0 w : World} {F : HP} {t : TypeId} {sz n : Nat} {v : Value} {cs : List Value}
theorem Sat.vec_vo (hs : Sat w0 w (F * vec t sz v n cs)) : Sat w0 w (F * vo t sz v n cs) := by
  refine hs.imp_last ?_
  rintro x ⟨hl, h | ⟨b, cap, sp, e, h1, h2, h3, hb⟩⟩
  · exact ⟨hl, Or.inl h⟩
  · exact ⟨hl, Or.inr ⟨b, cap, [], sp, e, h1, h2, Nat.le_of_eq h3.symm, hb⟩⟩
theorem Sat.vo_cases (hs : Sat w0 w (F * vo t sz v n cs)) : cs.length = n * sz ∧ ((v = .slice none 0 0 ∧ n = 0 ∧ cs = [] ∧ Sat w0 w F) ∨
    ∃ b cap pre sp, v = .slice (some ⟨b, pre.length, none⟩) n cap ∧ n ≤ cap ∧ cap ≤ maxLen ∧ cap * sz ≤ (cs ++ sp).length ∧ Sat w0 w (F * blk b (pre ++ (cs ++ sp)) t)) := by
  obtain ⟨x, ⟨h1, h2, ha, ⟨hl, hv⟩, hd, hu⟩, hx⟩ := hs.held
  refine ⟨hl, ?_⟩
  rcases hv with ⟨e, en, h0⟩ | ⟨b, cap, pre, sp, e, q1, q2, q3, hb⟩
  · exact Or.inl ⟨e, en, List.eq_nil_of_length_eq_zero (by rw [hl, en, Nat.zero_mul]), hs.drop⟩
  · exact Or.inr ⟨b, cap, pre, sp, e, q1, q2, q3, hs.below, x, ⟨h1, h2, ha, hb, hd, hu⟩, hx⟩
theorem Sat.vo_mk {b off cap : Nat} {pre sp : List Value} (hs : Sat w0 w (F * blk b (pre ++ (cs ++ sp)) t)) (hoff : off = pre.length) (hl : cs.length = n * sz) (q1 : n ≤ cap) (q2 : cap ≤ maxLen) (q3 : cap * sz ≤ (cs ++ sp).length) :
    Sat w0 w (F * vo t sz (.slice (some ⟨b, off, none⟩) n cap) n cs) := by
  subst hoff
  exact hs.imp_last fun _ hb => ⟨hl, Or.inr ⟨b, cap, pre, sp, rfl, q1, q2, q3, hb⟩⟩
theorem Sat.vo_rd (hs : Sat w0 w (F * vo t sz v n cs)) : ∃ ao cap, v = .slice ao n cap ∧ n ≤ cap ∧ cap ≤ maxLen ∧ Rd w ao cs ∧ (ao = none → n = 0 ∧ cap = 0) := by
  obtain ⟨hl, ⟨e, en, ec, _⟩ | ⟨b, cap, pre, sp, e, q1, q2, q3, hb⟩⟩ := hs.vo_cases
  · subst en
    exact ⟨none, 0, e, Nat.le_refl _, Nat.zero_le _, Or.inl ec, fun _ => ⟨rfl, rfl⟩⟩
  · refine ⟨_, cap, e, q1, q2, Or.inr ⟨b, pre.length, rfl, fun i u hu => ?_⟩, fun h => by cases h⟩
    refine hb.cell ?_
    rw [List.getElem?_append_right (by omega), Nat.add_sub_cancel_left, List.getElem?_append_left (List.getElem?_eq_some_iff.1 hu).1]
    exact hu
/-- Cut to its first elements: what lies behind stays where it is, and is no more reached. -/
theorem Sat.vo_cut {ao : Option Addr} {cap : Nat} (hs : Sat w0 w (F * vo t sz (.slice ao n cap) n cs)) (k : Nat) (hk : k ≤ n) : Sat w0 w (F * vo t sz (.slice ao k k) k (cs.take (k * sz))) := by
  have hkn : k * sz ≤ n * sz := Nat.mul_le_mul_right _ hk
  obtain ⟨hl, ⟨e, en, ec, hF⟩ | ⟨b, cap, pre, sp, e, q1, q2, q3, hb⟩⟩ := hs.vo_cases
  · subst en
    cases e
    obtain rfl : k = 0 := by omega
    subst ec
    rw [List.take_nil]
    exact hF.vec_nil t sz |>.vec_vo
  · cases e
    refine Sat.vo_mk (pre := pre) (sp := cs.drop (k * sz) ++ sp) ?_ rfl (by rw [List.length_take]; omega) (Nat.le_refl _) (by omega) (by rw [← List.append_assoc, List.take_append_drop, List.length_append]; omega)
    rw [← List.append_assoc (cs.take _), List.take_append_drop]
    exact hb
/-- One cell of it: read, written. -/
theorem Sat.vo_cell (hs : Sat w0 w (F * vo t sz v n cs)) (hn : 0 < n) : ∃ b off cap, v = .slice (some ⟨b, off, none⟩) n cap ∧ n ≤ cap ∧ cap ≤ maxLen ∧ (∀ i u, cs[i]? = some u → w.cell? ⟨b, off + i, none⟩ = some u) ∧ (∀ i, w.frozen? ⟨b, off + i, none⟩ = false) ∧
    (∀ i u, i < cs.length → Sat w0 (w.setCell ⟨b, off + i, none⟩ u) (F * vo t sz v n (cs.set i u))) := by
  obtain ⟨hl, ⟨e, en, ec, hF⟩ | ⟨b, cap, pre, sp, rfl, q1, q2, q3, hb⟩⟩ := hs.vo_cases
  · omega
  · refine ⟨b, pre.length, cap, rfl, q1, q2, fun i u hu => hb.cell ?_, fun i => hb.free _, fun i u hi => ?_⟩
    · rw [List.getElem?_append_right (by omega), Nat.add_sub_cancel_left, List.getElem?_append_left (List.getElem?_eq_some_iff.1 hu).1]
      exact hu
    · have h := hb.store (pre.length + i) u
      rw [List.set_append_right _ _ (by omega), Nat.add_sub_cancel_left, List.set_append_left _ _ hi] at h
      exact Sat.vo_mk h rfl (by rw [List.length_set]; exact hl) q1 q2 (by rw [List.length_append, List.length_set, ← List.length_append]; exact q3)
/-- All but the first element. -/
theorem Sat.vo_tail {b off cap : Nat} (hs : Sat w0 w (F * vo t sz (.slice (some ⟨b, off, none⟩) n cap) n cs)) (hn : 1 ≤ n) (_hsz : 0 < sz) :
    Sat w0 w (F * vo t sz (.slice (some ⟨b, if cap = 1 then off else off + sz, none⟩) (n - 1) (cap - 1)) (n - 1) (cs.drop sz)) := by
  obtain ⟨hl, ⟨e, en, ec, hF⟩ | ⟨b', cap', pre, sp, e, q1, q2, q3, hb⟩⟩ := hs.vo_cases
  · cases e
  · cases e
    have hn1 : (n - 1) * sz + sz = n * sz := by rw [← Nat.add_one_mul, Nat.sub_add_cancel hn]
    have hc1 : (cap - 1) * sz + sz = cap * sz := by rw [← Nat.add_one_mul, Nat.sub_add_cancel (by omega)]
    rw [List.length_append] at q3
    by_cases hc : cap = 1
    · rw [if_pos hc]
      obtain rfl : n = 1 := by omega
      subst hc
      rw [List.drop_eq_nil_of_le (by omega)]
      exact Sat.vo_mk (cs := []) (sp := cs ++ sp) (by exact hb) rfl (by simp) (Nat.le_refl _) (by simp) (by simp)
    · rw [if_neg hc]
      refine Sat.vo_mk (pre := pre ++ cs.take sz) (sp := sp) ?_ (by rw [List.length_append, List.length_take]; omega) (by rw [List.length_drop]; omega) (by omega) (by omega) (by rw [List.length_append, List.length_drop]; omega)
      rw [List.append_assoc, ← List.append_assoc (cs.take sz), List.take_append_drop]
      exact hb
/-- A slice of new memory alone. -/
theorem Sat.of_owns_new {w' : World} {v' : Value} {n' : Nat} {cs' : List Value} (ho : w'.ownsRow w.heap.size t sz v' n' cs') (hg : w.grownBy w' none) : Sat w w' (vec t sz v' n' cs') := by
  have hB : Below w.heap.size w w' := ⟨hg.os, hg.tape, hg.output, hg.size, fun k hk => hg.block k hk (by simp)⟩
  rcases ho.2 with ⟨e, en⟩ | ⟨g, cap, cur, e, hbg, hgg, q1, q2, q3, q4⟩
  · have hc : cs' = [] := List.eq_nil_of_length_eq_zero (by rw [ho.1, en, Nat.zero_mul])
    subst e; subst en; subst hc
    exact ⟨hB, fun _ => none, ⟨by simp, Or.inl ⟨rfl, rfl, fun _ => rfl⟩⟩, fun b o h => by simp at h⟩
  · subst e
    have hcs : cs' ++ cur.toList.drop (n' * sz) = cur.toList := by rw [← q4]; exact List.take_append_drop _ _
    refine ⟨hB, fun k => if k = g then some (.cells cur t (0, 0)) else none, ⟨ho.1, Or.inr ⟨g, cap, cur.toList.drop (n' * sz), rfl, q1, q2, by rw [hcs]; simpa using q3, ?_⟩⟩, fun b o h => ?_⟩
    · intro k
      rw [hcs]
    · dsimp only at h
      by_cases e : b = g
      · subst e
        rw [if_pos rfl] at h
        cases h
        exact ⟨hbg, hgg⟩
      · rw [if_neg e] at h; cases h
end

/-- 'append' to a slice that is held, wherever it lies: the run. -/
theorem run_append_vo {P : Program} {w0 w : World} {F : HP} (t ty e : TypeId) (z : Value) (sz bytes : Nat) (ht : P.underlying t = some (.slice e)) (hinfo : (P.info? e).map (fun i => (i.zero, i.size, i.bytes)) = some (some z, sz, bytes))
    (hzs : z.cells.size = sz) (hsz : 0 < sz) (v : Value) (n : Nat) (cs : List Value) (hsat : Sat w0 w (F * vo e sz v n cs))
    (ao : Option Addr) (m c : Nat) (news : List Value) (hnone : ao = none → m = 0 ∧ c = 0) (hl : news.length = m * sz) (hrd : Rd w ao news) (h1 : ∀ u ∈ news, u.oneCell' = true)
    (h63 : n + m ≤ maxLen) (hbytes : (n + m) * bytes ≤ 140737488355328) :
    ∃ v' w', (Builtin.append_ #[t, t] ty #[v, .slice ao m c]).run P w = .ok v' w' ∧ Sat w0 w' (F * vo e sz v' (n + m) (cs ++ news)) := by
  obtain ⟨i, hi, hz, hsize, hby⟩ := info_parts hinfo
  cases ao with
  | none =>
    obtain ⟨rfl, rfl⟩ := hnone rfl
    have hn : news = [] := List.eq_nil_of_length_eq_zero (by rw [hl, Nat.zero_mul])
    subst hn
    obtain ⟨so, cap, rfl, hle, _, _, _⟩ := hsat.vo_rd
    refine ⟨.slice so n cap, w, ?_, by rw [List.append_nil]; exact hsat⟩
    cases so <;> simp [Builtin.append_, run_underlying ht, sizeOf, typeInfo, hi, Builtin.lenOf, Builtin.firstCells, hle, storeCells]
  | some ad =>
    have hc : ∀ j u, news[j]? = some u → w.cell? (ad.add j) = some u := by
      intro j u hu
      rcases hrd with hn | ⟨b, of, e', hc⟩
      · subst hn; simp at hu
      · cases e'
        rw [Addr.add_lit]
        exact hc j u hu
    obtain ⟨hcl, ⟨rfl, rfl, rfl, hF⟩ | ⟨b, cap, pre, sp, rfl, q1, q2, q3, hb⟩⟩ := hsat.vo_cases
    · have hv := hF.vec_nil e sz
      obtain ⟨v', w', hr, h2, h3, _, h5⟩ := run_append_own_at (P := P) w w0.heap.size t ty e i z sz bytes ht hi hz hsize hby hzs hsz _ 0 [] hv.owns ad m c news hl hc h1 h63 hbytes hv.lt
      exact ⟨v', w', hr, (hv.of_owns h2 h3 h5).vec_vo⟩
    · by_cases hr : n + m ≤ cap
      · have hk : (n + m) * sz ≤ cap * sz := Nat.mul_le_mul_right _ hr
        rw [Nat.add_mul] at hk
        have hlt : ∀ j, j < news.length → pre.length + n * sz + j < (pre ++ (cs ++ sp)).length := fun j hj => by rw [List.length_append]; omega
        have hrun := run_append_room_cells (P := P) w t ty e i ht hi b pre.length n cap ad m c news (by rw [hl, hsize]) hc h1 hr (fun j hj => by
          rw [hsize, hb.cell (List.getElem?_eq_getElem (hlt j hj))]
          rfl) (fun j hj => hb.free _)
        refine ⟨_, _, hrun, ?_⟩
        rw [List.length_append] at q3
        refine Sat.vo_mk (pre := pre) (sp := sp.drop news.length) ?_ rfl (by rw [List.length_append, hcl, hl, Nat.add_mul]) hr q2 (by rw [List.length_append, List.length_append, List.length_drop]; omega)
        have hst := Sat.stores news w (pre ++ (cs ++ sp)) (pre.length + n * sz) hb (by rw [List.length_append, List.length_append]; omega)
        have e1 : put (pre ++ (cs ++ sp)) (pre.length + n * sz) news = pre ++ (cs ++ news ++ sp.drop news.length) := by
          simp only [put]
          rw [← List.append_assoc pre cs sp, ← hcl, ← List.length_append, List.take_left' rfl, List.drop_append, List.drop_eq_nil_of_le (by omega), Nat.add_sub_cancel_left]
          simp
        rw [e1] at hst
        rw [hsize]
        exact hst
      · obtain ⟨v', w', hrun, r1, r2⟩ := run_append_arg_grows (P := P) w t ty e i z sz bytes ht hi hz hsize hby hzs hsz ⟨b, pre.length, none⟩ n cap cs hcl (fun j u hu => by
          rw [Addr.add_lit]
          refine hb.cell ?_
          rw [List.getElem?_append_right (by omega), Nat.add_sub_cancel_left, List.getElem?_append_left (List.getElem?_eq_some_iff.1 hu).1]
          exact hu) ad m c news hl hc (by omega) h63 hbytes
        exact ⟨v', w', hrun, (hb.drop.glue (Sat.of_owns_new r1 r2)).vec_vo⟩

theorem wp_append_run {P : Program} {o : Oper} {a : Act} {w w' : World} {K : Act → World → Prop} {Q : Exit → Act → World → Prop} {v x v' : Value} {s y : Operand} {t : TypeId} (ho : o.op = .call { callee := .builtin .append, args := #[s, y], argTypes := #[t, t] })
    (hs : a.eval s = v) (hx : a.eval y = x) (hr : (Builtin.append_ #[t, t] o.type #[v, x]).run P w = .ok v' w') (h : K (a.put o.dst v') w') : o.wp P a w K Q := by
  unfold Oper.wp execOp
  simp only [ho, resolve, invoke, builtin, Sem.run_bind, Sem.run_pure, Result.andThen_ok, List.map_toArray, List.map_cons, List.map_nil, hs, hx, hr]
  exact h

/-- 'append' to a slice that is held, wherever it lies. -/
theorem sl_append_vo {P : Program} {w0 w : World} {F : HP} {ops : Array Oper} {rest : List Oper} {o : Oper} {a : Act} {Q : Exit → Act → World → Prop}
    (hgd : o.guard = none) (s x : Operand) (t : TypeId) (ho : o.op = .call { callee := .builtin .append, args := #[s, x], argTypes := #[t, t] })
    (e : TypeId) (z : Value) (sz bytes : Nat) (ht : P.underlying t = some (.slice e)) (hinfo : (P.info? e).map (fun i => (i.zero, i.size, i.bytes)) = some (some z, sz, bytes))
    (hzs : z.cells.size = sz) (hsz : 0 < sz) (v : Value) (n : Nat) (cs : List Value) (hs : a.eval s = v) (hsat : Sat w0 w (F * vo e sz v n cs))
    (ao : Option Addr) (m c : Nat) (news : List Value) (hx : a.eval x = .slice ao m c) (hnone : ao = none → m = 0 ∧ c = 0) (hl : news.length = m * sz) (hrd : Rd w ao news) (h1 : ∀ u ∈ news, u.oneCell' = true)
    (h63 : n + m ≤ maxLen) (hbytes : (n + m) * bytes ≤ 140737488355328)
    (h : ∀ v' w', Sat w0 w' (F * vo e sz v' (n + m) (cs ++ news)) → wpList P ops Q rest (a.put o.dst v') w') : wpList P ops Q (o :: rest) a w := by
  refine wpList_plain hgd fun K hK => ?_
  obtain ⟨v', w', hr, hS⟩ := run_append_vo t o.type e z sz bytes ht hinfo hzs hsz v n cs hsat ao m c news hnone hl hrd h1 h63 hbytes
  exact wp_append_run ho hs hx hr (hK _ _ (h v' w' hS))
/-- .. in a region that draws its order. -/
theorem step_append_vo {P : Program} {w0 w : World} {F : HP} {ops : Array Oper} {o : Oper} {a : Act} {K : Act → World → Prop} {Q : Exit → Act → World → Prop} {E : Prop}
    (hgd : o.guard = none) (s x : Operand) (t : TypeId) (ho : o.op = .call { callee := .builtin .append, args := #[s, x], argTypes := #[t, t] })
    (e : TypeId) (z : Value) (sz bytes : Nat) (ht : P.underlying t = some (.slice e)) (hinfo : (P.info? e).map (fun i => (i.zero, i.size, i.bytes)) = some (some z, sz, bytes))
    (hzs : z.cells.size = sz) (hsz : 0 < sz) (v : Value) (n : Nat) (cs : List Value) (hs : a.eval s = v) (hsat : Sat w0 w (F * vo e sz v n cs))
    (ao : Option Addr) (m c : Nat) (news : List Value) (hx : a.eval x = .slice ao m c) (hnone : ao = none → m = 0 ∧ c = 0) (hl : news.length = m * sz) (hrd : Rd w ao news) (h1 : ∀ u ∈ news, u.oneCell' = true)
    (h63 : n + m ≤ maxLen) (hbytes : (n + m) * bytes ≤ 140737488355328)
    (h : ∀ v' w', Sat w0 w' (F * vo e sz v' (n + m) (cs ++ news)) → K (a.put o.dst v') w') : if Region.wanted o (yielded ops a.tmps) = true then Oper.wp P o a w K Q else E := by
  have hw : Region.wanted o (yielded ops a.tmps) = true := by simp [Region.wanted, hgd]
  rw [if_pos hw]
  obtain ⟨v', w', hr, hS⟩ := run_append_vo t o.type e z sz bytes ht hinfo hzs hsz v n cs hsat ao m c news hnone hl hrd h1 h63 hbytes
  exact wp_append_run ho hs hx hr (h v' w' hS)
/-- .. for a slice at the head of its block. -/
theorem step_append_vec {P : Program} {w0 w : World} {F : HP} {ops : Array Oper} {o : Oper} {a : Act} {K : Act → World → Prop} {Q : Exit → Act → World → Prop} {E : Prop}
    (hgd : o.guard = none) (s x : Operand) (t : TypeId) (ho : o.op = .call { callee := .builtin .append, args := #[s, x], argTypes := #[t, t] })
    (e : TypeId) (z : Value) (sz bytes : Nat) (ht : P.underlying t = some (.slice e)) (hinfo : (P.info? e).map (fun i => (i.zero, i.size, i.bytes)) = some (some z, sz, bytes))
    (hzs : z.cells.size = sz) (hsz : 0 < sz) (v : Value) (n : Nat) (cs : List Value) (hs : a.eval s = v) (hsat : Sat w0 w (F * vec e sz v n cs))
    (ad : Addr) (m c : Nat) (news : List Value) (hx : a.eval x = .slice (some ad) m c) (hl : news.length = m * sz) (hrd : Rd w (some ad) news) (h1 : ∀ u ∈ news, u.oneCell' = true)
    (h63 : n + m ≤ maxLen) (hbytes : (n + m) * bytes ≤ 140737488355328)
    (h : ∀ v' w', Sat w0 w' (F * vec e sz v' (n + m) (cs ++ news)) → K (a.put o.dst v') w') : if Region.wanted o (yielded ops a.tmps) = true then Oper.wp P o a w K Q else E := by
  have hw : Region.wanted o (yielded ops a.tmps) = true := by simp [Region.wanted, hgd]
  rw [if_pos hw]
  obtain ⟨i, hi, hz, hsize, hby⟩ := info_parts hinfo
  have hc : ∀ j u, news[j]? = some u → w.cell? (ad.add j) = some u := by
    intro j u hu
    rcases hrd with hn | ⟨b, of, e', hc⟩
    · subst hn; simp at hu
    · cases e'
      rw [Addr.add_lit]
      exact hc j u hu
  obtain ⟨v', w', hr, h2, h3, _, h5⟩ := run_append_own_at (P := P) w w0.heap.size t o.type e i z sz bytes ht hi hz hsize hby hzs hsz v n cs hsat.owns ad m c news hl hc h1 h63 hbytes hsat.lt
  exact wp_append_run ho hs hx hr (h v' w' (hsat.of_owns h2 h3 h5))
/-- .. of a slice that may be nil. -/
theorem step_append_any {P : Program} {w0 w : World} {F : HP} {ops : Array Oper} {o : Oper} {a : Act} {K : Act → World → Prop} {Q : Exit → Act → World → Prop} {E : Prop}
    (hgd : o.guard = none) (s x : Operand) (t : TypeId) (ho : o.op = .call { callee := .builtin .append, args := #[s, x], argTypes := #[t, t] })
    (e : TypeId) (z : Value) (sz bytes : Nat) (ht : P.underlying t = some (.slice e)) (hinfo : (P.info? e).map (fun i => (i.zero, i.size, i.bytes)) = some (some z, sz, bytes))
    (hzs : z.cells.size = sz) (hsz : 0 < sz) (v : Value) (n : Nat) (cs : List Value) (hs : a.eval s = v) (hsat : Sat w0 w (F * vec e sz v n cs))
    (ao : Option Addr) (m c : Nat) (news : List Value) (hx : a.eval x = .slice ao m c) (hnone : ao = none → m = 0 ∧ c = 0) (hl : news.length = m * sz) (hrd : Rd w ao news) (h1 : ∀ u ∈ news, u.oneCell' = true)
    (h63 : n + m ≤ maxLen) (hbytes : (n + m) * bytes ≤ 140737488355328)
    (h : ∀ v' w', Sat w0 w' (F * vec e sz v' (n + m) (cs ++ news)) → K (a.put o.dst v') w') : if Region.wanted o (yielded ops a.tmps) = true then Oper.wp P o a w K Q else E := by
  cases ao with
  | some ad => exact step_append_vec hgd s x t ho e z sz bytes ht hinfo hzs hsz v n cs hs hsat ad m c news hx hl hrd h1 h63 hbytes h
  | none =>
    obtain ⟨rfl, rfl⟩ := hnone rfl
    have hn : news = [] := List.eq_nil_of_length_eq_zero (by rw [hl, Nat.zero_mul])
    subst hn
    have hw : Region.wanted o (yielded ops a.tmps) = true := by simp [Region.wanted, hgd]
    rw [if_pos hw]
    obtain ⟨i, hi, _, _, _⟩ := info_parts hinfo
    exact wp_append_run ho hs hx (run_append_owned_none (P := P) (w := w) w0.heap.size t o.type e i sz ht hi v n cs hsat.owns) (h v w (by rw [List.append_nil]; exact hsat))
end Go.Proofs.YtjhlelcopofkkaaDoor
