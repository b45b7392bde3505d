/- 'append' of a text to bytes that are held. -/
import Derived.Test.YtjhlelcopofkkaaDoorKit
import Derived.Test.YtjhlelcopofkkaaDoorVo
import Derived.Lib.AppendStr
namespace Go.Proofs.YtjhlelcopofkkaaDoor
open Go.RowKit

theorem strCells_bvs (s : ByteArray) : Lib.strCells s = bvs s.data.toList := rfl
theorem Sat.vec_of_new {w0 w : World} {F : HP} {e : TypeId} {n cap : Nat} {cs : List Value} (hF : Sat w0 w F) (arr : Array Value) (harr : ∃ sp, arr.toList = cs ++ sp) (hl : cs.length = n) (h1 : n ≤ cap) (h2 : cap ≤ maxLen) (h3 : arr.size = cap) :
    Sat w0 (w.drew.alloc (.cells arr e)) (F * vec e 1 (.slice (some ⟨w.heap.size, 0, none⟩) n cap) n cs) := by
  obtain ⟨sp, hsp⟩ := harr
  have h := hF.drew.new arr e
  rw [hsp] at h
  exact Sat.vec_mk (b := w.drew.heap.size) h (by omega) h1 h2 (by rw [← hsp, Nat.mul_one, Array.length_toList]; exact h3)
theorem nextslicecap_fine {need old : Nat} (h : old < need) : Builtin.nextslicecap need old ≤ need + need / 4 + 1024 := by
  unfold Builtin.nextslicecap
  split
  · omega
  · split
    · omega
    · rw [growBy_four]
      repeat' split
      all_goals omega
theorem run_append_vec_string {P : Program} {w0 w : World} {F : HP} (t u ty e : TypeId) (ht : P.underlying t = some (.slice e)) (hu : P.underlying u = some .string) (hinfo : (P.info? e).map (fun i => (i.zero, i.size, i.bytes)) = some (some (.int .u8 0), 1, 1))
    (v : Value) (n : Nat) (cs : List Value) (hsat : Sat w0 w (F * vec e 1 v n cs)) (s : ByteArray) (h63 : n + s.size ≤ maxLen) (hbytes : n + s.size ≤ 142936511610880) :
    ∃ v' w', (Builtin.append_ #[t, u] ty #[v, .string s]).run P w = .ok v' w' ∧ Sat w0 w' (F * vec e 1 v' (n + s.size) (cs ++ bvs s.data.toList)) := by
  obtain ⟨i, hi, hz, hsize, hby⟩ := info_parts hinfo
  have hsl : (bvs s.data.toList).length = s.size := by rw [← strCells_bvs, Lib.strCells_length]
  have hsmall : n + s.size ≤ 9223372036854775807 := by simp only [maxLen] at h63; omega
  have hge := fun old => grownCap_ge w (n + s.size) old e
  have hcm := fun old => grownCap_le_maxLen w (n + s.size) old e h63
  obtain ⟨hcl, ⟨rfl, rfl, rfl, hF⟩ | ⟨b, cap, sp, rfl, q1, q2, q3, hb⟩⟩ := hsat.vec_cases
  · by_cases hm : s.size = 0
    · have hn : bvs s.data.toList = [] := List.eq_nil_of_length_eq_zero (by rw [hsl]; exact hm)
      refine ⟨.slice none 0 0, w, ?_, by rw [hm, hn]; exact hF.vec_nil _ _⟩
      have hf := Lib.run_firstCells_string (P := P) w 1 s
      rw [hm] at hf
      simp [Builtin.append_, run_underlying ht, run_underlying hu, sizeOf, typeInfo, hi, hsize, Builtin.lenOf, hm, hf]
    · have hr := run_append_nil_string (P := P) w t u ty e i (.int .u8 0) ht hu hi hz s (by omega) (by omega) (by rw [hby]; omega)
      refine ⟨_, _, hr, ?_⟩
      have h1 := hge 0
      have h2 := hcm 0
      rw [Nat.zero_add] at h1 h2 ⊢
      refine Sat.vec_of_new hF _ ⟨(Builtin.zeroCells (Value.int .u8 0).cells (grownCap w s.size 0 e - s.size)).toList, ?_⟩ hsl h1 h2 ?_
      · simp only [Array.toList_append, Array.toList_map, List.nil_append]
        rfl
      · have hz1 : (Value.int IntKind.u8 0).cells.size = 1 := rfl
        simp only [Array.size_append, Array.size_map, size_zeroCells, hz1]
        have : s.data.size = s.size := rfl
        omega
  · have hcn : cs.length = n := by simpa using hcl
    by_cases hroom : n + s.size ≤ cap
    · have hcs : (cs ++ sp).length = cap := by simpa using q3
      have hr := Lib.run_append_room_string (P := P) (w := w) t u ty e i ht hu hi hsize b n cap (cs ++ sp).toArray hb.heap s hroom (by simp only [List.size_toArray]; omega)
      refine ⟨_, _, hr, ?_⟩
      have e1 : ((cs ++ sp).toArray.toList.take n ++ Lib.strCells s ++ (cs ++ sp).toArray.toList.drop (n + s.size)) = cs ++ bvs s.data.toList ++ sp.drop s.size := by
        rw [strCells_bvs, ← hcn, List.take_left' rfl, List.drop_append, List.drop_eq_nil_of_le (by omega), Nat.add_sub_cancel_left, List.nil_append]
      rw [e1]
      have hset : Sat w0 (w.setRow b (cs ++ bvs s.data.toList ++ sp.drop s.size).toArray) (F * blk b (cs ++ bvs s.data.toList ++ sp.drop s.size) e) := by
        refine Sat.obj_put hb ?_ (setRow_heap w b _ _ e _ hb.heap) (fun k _ hk => setRow_other w b k _ hk)
        exact hb.below.trans ⟨rfl, rfl, rfl, by simp [World.setRow], fun k hk => setRow_other w b k _ (by have := hb.base; omega)⟩
      rw [List.length_append] at hcs
      exact Sat.vec_mk hset (by rw [List.length_append, hsl, hcn, Nat.mul_one]) hroom q2 (by rw [List.length_append, List.length_append, List.length_drop, hsl, hcn, Nat.mul_one]; omega)
    · have holds : ∀ j u, cs[j]? = some u → w.cell? ((⟨b, 0, none⟩ : Addr).add j) = some u := fun j u hu => by
        rw [Addr.add_lit]
        refine hb.cell ?_
        rw [Nat.zero_add, List.getElem?_append_left (List.getElem?_eq_some_iff.1 hu).1]
        exact hu
      have hr := Lib.run_append_grow_string (P := P) (w := w) t u ty e i (.int .u8 0) ht hu hi hz ⟨b, 0, none⟩ n cap cs (by rw [hsize]; omega) holds s (by omega) (by omega) (by rw [hby, Nat.mul_one]; have := nextslicecap_fine (need := n + s.size) (old := cap) (by omega); omega)
      refine ⟨_, _, hr, ?_⟩
      refine Sat.vec_of_new hb.drop _ ⟨(Builtin.zeroCells (Value.int .u8 0).cells (grownCap w (n + s.size) cap e - (n + s.size))).toList, ?_⟩ (by rw [List.length_append, hsl, hcn]) (hge cap) (hcm cap) ?_
      · simp only [Array.toList_append, strCells_bvs]
      · have hz1 : (Value.int IntKind.u8 0).cells.size = 1 := rfl
        simp only [Array.size_append, List.size_toArray, size_zeroCells, hz1, strCells_bvs, hsl, hcn]
        have := hge cap
        omega

theorem wp_append_run2 {P : Program} {o : Oper} {a : Act} {w w' : World} {K : Act → World → Prop} {Q : Exit → Act → World → Prop} {v x v' : Value} {s y : Operand} {t u : TypeId} (ho : o.op = .call { callee := .builtin .append, args := #[s, y], argTypes := #[t, u] })
    (hs : a.eval s = v) (hx : a.eval y = x) (hr : (Builtin.append_ #[t, u] o.type #[v, x]).run P w = .ok v' w') (h : K (a.put o.dst v') w') : o.wp P a w K Q := by
  unfold Oper.wp execOp
  simp only [ho, resolve, invoke, builtin, Sem.run_bind, Sem.run_pure, Result.andThen_ok, List.map_toArray, List.map_cons, List.map_nil, hs, hx, hr]
  exact h
theorem sl_append_string {P : Program} {w0 w : World} {F : HP} {ops : Array Oper} {rest : List Oper} {o : Oper} {a : Act} {Q : Exit → Act → World → Prop}
    (hgd : o.guard = none) (sl x : Operand) (t u : TypeId) (ho : o.op = .call { callee := .builtin .append, args := #[sl, x], argTypes := #[t, u] })
    (e : TypeId) (ht : P.underlying t = some (.slice e)) (hu : P.underlying u = some .string) (hinfo : (P.info? e).map (fun i => (i.zero, i.size, i.bytes)) = some (some (.int .u8 0), 1, 1))
    (v : Value) (n : Nat) (cs : List Value) (hs : a.eval sl = v) (hsat : Sat w0 w (F * vec e 1 v n cs)) (s : ByteArray) (hx : a.eval x = .string s) (h63 : n + s.size ≤ maxLen) (hbytes : n + s.size ≤ 142936511610880)
    (h : ∀ v' w', Sat w0 w' (F * vec e 1 v' (n + s.size) (cs ++ bvs s.data.toList)) → wpList P ops Q rest (a.put o.dst v') w') : wpList P ops Q (o :: rest) a w := by
  refine wpList_plain hgd fun K hK => ?_
  obtain ⟨v', w', hr, hS⟩ := run_append_vec_string t u o.type e ht hu hinfo v n cs hsat s h63 hbytes
  exact wp_append_run2 ho hs hx hr (hK _ _ (h v' w' hS))
theorem step_append_string {P : Program} {w0 w : World} {F : HP} {ops : Array Oper} {o : Oper} {a : Act} {K : Act → World → Prop} {Q : Exit → Act → World → Prop} {E : Prop}
    (hgd : o.guard = none) (sl x : Operand) (t u : TypeId) (ho : o.op = .call { callee := .builtin .append, args := #[sl, x], argTypes := #[t, u] })
    (e : TypeId) (ht : P.underlying t = some (.slice e)) (hu : P.underlying u = some .string) (hinfo : (P.info? e).map (fun i => (i.zero, i.size, i.bytes)) = some (some (.int .u8 0), 1, 1))
    (v : Value) (n : Nat) (cs : List Value) (hs : a.eval sl = v) (hsat : Sat w0 w (F * vec e 1 v n cs)) (s : ByteArray) (hx : a.eval x = .string s) (h63 : n + s.size ≤ maxLen) (hbytes : n + s.size ≤ 142936511610880)
    (h : ∀ v' w', Sat w0 w' (F * vec e 1 v' (n + s.size) (cs ++ bvs s.data.toList)) → K (a.put o.dst v') w') : if Region.wanted o (yielded ops a.tmps) = true then Oper.wp P o a w K Q else E := by
  have hw : Region.wanted o (yielded ops a.tmps) = true := by simp [Region.wanted, hgd]
  rw [if_pos hw]
  obtain ⟨v', w', hr, hS⟩ := run_append_vec_string t u o.type e ht hu hinfo v n cs hsat s h63 hbytes
  exact wp_append_run2 ho hs hx hr (h v' w' hS)
end Go.Proofs.YtjhlelcopofkkaaDoor
