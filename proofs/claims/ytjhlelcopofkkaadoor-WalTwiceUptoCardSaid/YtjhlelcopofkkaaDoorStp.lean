/- Steps of the laws of layer 12, in plain Lean. -/
import Derived.Test.YtjhlelcopofkkaaDoorRef12g
namespace Go.Proofs.YtjhlelcopofkkaaDoor
open Go.RowKit

structure Stp where
  kind : Int
  on : Int
  n : Int
  m : Int
  data : ByteArray
def Stp.val (s : Stp) : Value := .agg #[.int .i64 s.kind, .int .i64 s.on, .int .i64 s.n, .int .i64 s.m, .string s.data]
structure Stp.Ok (s : Stp) : Prop where
  n1 : -9223372036854775808 ≤ s.n
  n2 : s.n ≤ 9223372036854775807
  m1 : -9223372036854775808 ≤ s.m
  m2 : s.m ≤ 9223372036854775807
  data : s.data.size ≤ 140737488351232
/-- What a call has answered. -/
structure Said where
  list : List UInt8
  num : Int
  err : Nat
/-- One call. -/
def Dk.act (D : Dk) (s : Stp) : Said × Dk :=
  if s.kind = 1 then (⟨[], 0, (D.append s.data.data.toList).2⟩, (D.append s.data.data.toList).1)
  else if s.kind = 2 then (⟨[], 0, D.sync.2⟩, D.sync.1)
  else if s.kind = 3 then (⟨if (D.gate id).2 = 0 then (D.gate id).1.bytes else [], 0, (D.gate id).2⟩, (D.gate id).1)
  else if s.kind = 4 then (⟨[], 0, (D.trunc s.n).2⟩, (D.trunc s.n).1)
  else if s.kind = 5 then (⟨[], 0, 0⟩, D.arm s.n s.m)
  else if s.kind = 6 then (⟨[], 0, 0⟩, D.crash s.n)
  else if s.kind = 7 then (⟨[], if D.dead = true then 1 else 0, 0⟩, D)
  else if s.kind = 8 then (⟨[], 0, 0⟩, D.revive)
  else if s.kind = 9 then (⟨D.bytes, D.synced, 0⟩, D)
  else (⟨[], 0, 0⟩, D)
theorem Dk.Ok.act {D : Dk} (h : D.Ok) {s : Stp} (hs : s.Ok) : (D.act s).2.Ok := by
  unfold Dk.act
  split
  · exact h.append _
  split
  · exact h.sync
  split
  · exact h.gate (fun _ h => h)
  split
  · exact h.trunc _
  split
  · exact h.arm hs.n2 hs.m1 hs.m2
  split
  · exact h.crash _
  split
  · exact h
  split
  · exact h.revive
  split
  · exact h
  · exact h

theorem Dk.append_err (D : Dk) (p : List UInt8) : (D.append p).2 ≤ 13 := by
  have := D.gate_cases (·.putp p)
  unfold Dk.append
  split
  · split <;> simp
  · omega
theorem Dk.sync_err (D : Dk) : D.sync.2 ≤ 13 := by
  have := D.gate_cases id
  unfold Dk.sync
  split
  · simp
  · omega
theorem Dk.gate_err (D : Dk) : (D.gate id).2 ≤ 13 := by
  have := D.gate_cases id
  omega
theorem Dk.trunc_err (D : Dk) (n : Int) : (D.trunc n).2 ≤ 13 := by
  have := D.gate_cases id
  unfold Dk.trunc
  split
  · simp
  · split
    · simp
    · omega

/-- An answer as a value, and its list. -/
def said (u : Value) (S : Said) : Value := .agg #[u, .int .i64 S.num, .int .i64 (S.err : Int)]

end Go.Proofs.YtjhlelcopofkkaaDoor
