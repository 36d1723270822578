/- == of a packet with itself; loads in a region that draws its order. No condition. -/
import Derived.Test.YtomfgdkmkacebaaZp
import Derived.StillTailTactics
namespace Go.Proofs.Ytomfgdkmkacebaa
open Go.RowKit Go.MapKept
set_option linter.unusedSimpArgs false
set_option linter.unusedVariables false

theorem eqo24 (d : Nat) (p : Pk) : EqO Try.prog (d + 2) 24 (.agg #[.int .u64 p.ed, .int .u64 p.es, .bool p.et, .int .i64 p.etag, .int .i64 p.ety]) (.agg #[.int .u64 p.ed, .int .u64 p.es, .bool p.et, .int .i64 p.etag, .int .i64 p.ety]) True := by
  refine (eqo_struct Try.underlying24 (by kernel_rfl) ?_).iff (show (p.ed = p.ed ∧ p.es = p.es ∧ p.et = p.et ∧ p.etag = p.etag ∧ p.ety = p.ety ∧ True) ↔ True from ⟨fun _ => trivial, fun _ => ⟨rfl, rfl, rfl, rfl, rfl, trivial⟩⟩)
  refine eqfs_cons rfl (fun w => rfl) (fun w => rfl) (eqo_int (by kernel_rfl : _ = some (TypeDesc.int .u64))) ?_
  refine eqfs_cons rfl (fun w => rfl) (fun w => rfl) (eqo_int (by kernel_rfl : _ = some (TypeDesc.int .u64))) ?_
  refine eqfs_cons rfl (fun w => rfl) (fun w => rfl) (eqo_bool u4) ?_
  refine eqfs_cons rfl (fun w => rfl) (fun w => rfl) (eqo_int u3) ?_
  refine eqfs_cons rfl (fun w => rfl) (fun w => rfl) (eqo_int u3) ?_
  exact eqfs_nil
theorem eqo27 (d : Nat) (p : Pk) : EqO Try.prog (d + 2) 27 (.agg #[.int .i64 p.aop, .int .u64 p.asha, .int .u32 p.aspa, .int .u64 p.atha, .int .u32 p.atpa]) (.agg #[.int .i64 p.aop, .int .u64 p.asha, .int .u32 p.aspa, .int .u64 p.atha, .int .u32 p.atpa]) True := by
  refine (eqo_struct Try.underlying27 (by kernel_rfl) ?_).iff (show (p.aop = p.aop ∧ p.asha = p.asha ∧ p.aspa = p.aspa ∧ p.atha = p.atha ∧ p.atpa = p.atpa ∧ True) ↔ True from ⟨fun _ => trivial, fun _ => ⟨rfl, rfl, rfl, rfl, rfl, trivial⟩⟩)
  refine eqfs_cons rfl (fun w => rfl) (fun w => rfl) (eqo_int u3) ?_
  refine eqfs_cons rfl (fun w => rfl) (fun w => rfl) (eqo_int (by kernel_rfl : _ = some (TypeDesc.int .u64))) ?_
  refine eqfs_cons rfl (fun w => rfl) (fun w => rfl) (eqo_int u25) ?_
  refine eqfs_cons rfl (fun w => rfl) (fun w => rfl) (eqo_int (by kernel_rfl : _ = some (TypeDesc.int .u64))) ?_
  refine eqfs_cons rfl (fun w => rfl) (fun w => rfl) (eqo_int u25) ?_
  exact eqfs_nil
theorem eqo29 (d : Nat) (p : Pk) : EqO Try.prog (d + 2) 29 (.agg #[.int .i64 p.tos, .int .i64 p.id, .int .i64 p.frag, .int .i64 p.ttl, .int .i64 p.proto, .int .u32 p.src, .int .u32 p.dst, .string p.iopt]) (.agg #[.int .i64 p.tos, .int .i64 p.id, .int .i64 p.frag, .int .i64 p.ttl, .int .i64 p.proto, .int .u32 p.src, .int .u32 p.dst, .string p.iopt]) True := by
  refine (eqo_struct Try.underlying29 (by kernel_rfl) ?_).iff (show (p.tos = p.tos ∧ p.id = p.id ∧ p.frag = p.frag ∧ p.ttl = p.ttl ∧ p.proto = p.proto ∧ p.src = p.src ∧ p.dst = p.dst ∧ p.iopt = p.iopt ∧ True) ↔ True from ⟨fun _ => trivial, fun _ => ⟨rfl, rfl, rfl, rfl, rfl, rfl, rfl, rfl, trivial⟩⟩)
  refine eqfs_cons rfl (fun w => rfl) (fun w => rfl) (eqo_int u3) ?_
  refine eqfs_cons rfl (fun w => rfl) (fun w => rfl) (eqo_int u3) ?_
  refine eqfs_cons rfl (fun w => rfl) (fun w => rfl) (eqo_int u3) ?_
  refine eqfs_cons rfl (fun w => rfl) (fun w => rfl) (eqo_int u3) ?_
  refine eqfs_cons rfl (fun w => rfl) (fun w => rfl) (eqo_int u3) ?_
  refine eqfs_cons rfl (fun w => rfl) (fun w => rfl) (eqo_int u25) ?_
  refine eqfs_cons rfl (fun w => rfl) (fun w => rfl) (eqo_int u25) ?_
  refine eqfs_cons rfl (fun w => rfl) (fun w => rfl) (eqo_str u9) ?_
  exact eqfs_nil
theorem eqo31 (d : Nat) (p : Pk) : EqO Try.prog (d + 2) 31 (.agg #[.int .i64 p.kind, .int .i64 p.ty, .int .i64 p.code, .int .u32 p.rest, .int .i64 p.sport, .int .i64 p.dport, .bool p.nosum, .int .u32 p.seq, .int .u32 p.ack, .int .i64 p.flags, .int .i64 p.win, .int .i64 p.urg, .string p.topt, .string p.data]) (.agg #[.int .i64 p.kind, .int .i64 p.ty, .int .i64 p.code, .int .u32 p.rest, .int .i64 p.sport, .int .i64 p.dport, .bool p.nosum, .int .u32 p.seq, .int .u32 p.ack, .int .i64 p.flags, .int .i64 p.win, .int .i64 p.urg, .string p.topt, .string p.data]) True := by
  refine (eqo_struct Try.underlying31 (by kernel_rfl) ?_).iff (show (p.kind = p.kind ∧ p.ty = p.ty ∧ p.code = p.code ∧ p.rest = p.rest ∧ p.sport = p.sport ∧ p.dport = p.dport ∧ p.nosum = p.nosum ∧ p.seq = p.seq ∧ p.ack = p.ack ∧ p.flags = p.flags ∧ p.win = p.win ∧ p.urg = p.urg ∧ p.topt = p.topt ∧ p.data = p.data ∧ True) ↔ True from ⟨fun _ => trivial, fun _ => ⟨rfl, rfl, rfl, rfl, rfl, rfl, rfl, rfl, rfl, rfl, rfl, rfl, rfl, rfl, trivial⟩⟩)
  refine eqfs_cons rfl (fun w => rfl) (fun w => rfl) (eqo_int u3) ?_
  refine eqfs_cons rfl (fun w => rfl) (fun w => rfl) (eqo_int u3) ?_
  refine eqfs_cons rfl (fun w => rfl) (fun w => rfl) (eqo_int u3) ?_
  refine eqfs_cons rfl (fun w => rfl) (fun w => rfl) (eqo_int u25) ?_
  refine eqfs_cons rfl (fun w => rfl) (fun w => rfl) (eqo_int u3) ?_
  refine eqfs_cons rfl (fun w => rfl) (fun w => rfl) (eqo_int u3) ?_
  refine eqfs_cons rfl (fun w => rfl) (fun w => rfl) (eqo_bool u4) ?_
  refine eqfs_cons rfl (fun w => rfl) (fun w => rfl) (eqo_int u25) ?_
  refine eqfs_cons rfl (fun w => rfl) (fun w => rfl) (eqo_int u25) ?_
  refine eqfs_cons rfl (fun w => rfl) (fun w => rfl) (eqo_int u3) ?_
  refine eqfs_cons rfl (fun w => rfl) (fun w => rfl) (eqo_int u3) ?_
  refine eqfs_cons rfl (fun w => rfl) (fun w => rfl) (eqo_int u3) ?_
  refine eqfs_cons rfl (fun w => rfl) (fun w => rfl) (eqo_str u9) ?_
  refine eqfs_cons rfl (fun w => rfl) (fun w => rfl) (eqo_str u9) ?_
  exact eqfs_nil
theorem eqo33 (d : Nat) (p : Pk) : EqO Try.prog (d + 3) 33 p.v p.v True := by
  refine (eqo_struct Try.underlying33 (by kernel_rfl) ?_).iff (show (True ∧ p.isArp = p.isArp ∧ True ∧ p.isIp = p.isIp ∧ True ∧ True ∧ p.body = p.body ∧ p.pad = p.pad ∧ True) ↔ True from ⟨fun _ => trivial, fun _ => ⟨trivial, rfl, trivial, rfl, trivial, trivial, rfl, rfl, trivial⟩⟩)
  refine eqfs_cons rfl (fun w => rfl) (fun w => rfl) (eqo24 _ p) ?_
  refine eqfs_cons rfl (fun w => rfl) (fun w => rfl) (eqo_bool u4) ?_
  refine eqfs_cons rfl (fun w => rfl) (fun w => rfl) (eqo27 _ p) ?_
  refine eqfs_cons rfl (fun w => rfl) (fun w => rfl) (eqo_bool u4) ?_
  refine eqfs_cons rfl (fun w => rfl) (fun w => rfl) (eqo29 _ p) ?_
  refine eqfs_cons rfl (fun w => rfl) (fun w => rfl) (eqo31 _ p) ?_
  refine eqfs_cons rfl (fun w => rfl) (fun w => rfl) (eqo_str u9) ?_
  refine eqfs_cons rfl (fun w => rfl) (fun w => rfl) (eqo_str u9) ?_
  exact eqfs_nil
theorem neq33 (p : Pk) (w : World) : (binOp .neq 33 p.v p.v).run Try.prog w = .ok (.bool false) w := (eqo33 9997 p).neq w
theorem run_load_sta_p {w : World} {g : Nat} {s : Sta} {T : TypeId} {fr : Nat × Nat} (hg : w.heap[g]? = some (.cells s.cells T fr)) : (loadVar 33 ⟨g, 0, none⟩).run Try.prog w = .ok s.p.v w := by
  have h := run_loadVar_part (P := Try.prog) w g 0 36 T 33 s.cells fr hg Try.underlying33 agg33 sinfo33 (by simp [Sta.size])
  rw [h, s.ext_p]
theorem run_load_sta_ct {w : World} {g : Nat} {s : Sta} {T : TypeId} {fr : Nat × Nat} (hg : w.heap[g]? = some (.cells s.cells T fr)) : (loadVar 3 ⟨g, 36, none⟩).run Try.prog w = .ok (.int .i64 s.ct) w :=
  run_loadVar_one (P := Try.prog) w g 36 T 3 s.cells fr hg u3 (by kernel_rfl) s.at36
theorem still_load {P : Program} {w : World} {ops : Array Oper} {rest : List Oper} {o : Oper} {a : Act} {Q : Act → Prop} (hgd : Region.wanted o (yielded ops a.tmps) = true) (ty : TypeId) (x : Operand) (ho : o.op = .load ty x) (ad : Addr) (v : Value) (hx : a.eval x = .pointer (some ad)) (h : (loadVar ty ad).run P w = .ok v w) (hK : wpStill P ops w Q rest (a.put o.dst v)) : wpStill P ops w Q (o :: rest) a := by
  unfold wpStill
  rw [if_pos hgd]
  unfold Oper.still execOp
  simp only [ho, hx, Instr.loadAt, Instr.sureAddr, Sem.run_bind, Sem.run_pure, Result.andThen_ok, h]
  exact ⟨rfl, hK⟩
theorem still_skip {P : Program} {w : World} {ops : Array Oper} {rest : List Oper} {o : Oper} {a : Act} {Q : Act → Prop} (hgd : Region.wanted o (yielded ops a.tmps) = false) (hK : wpStill P ops w Q rest (a.put o.dst undef)) : wpStill P ops w Q (o :: rest) a := by
  unfold wpStill
  rw [if_neg (by simp [hgd])]
  exact hK
end Go.Proofs.Ytomfgdkmkacebaa
