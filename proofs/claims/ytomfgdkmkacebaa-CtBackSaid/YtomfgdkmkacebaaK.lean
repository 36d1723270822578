/- A packet's state on its way: 49 cells; loads and stores of its parts. -/
import Derived.Test.YtomfgdkmkacebaaJ
namespace Go.Proofs.Ytomfgdkmkacebaa
open Go.RowKit Go.MapKept
structure Sta where
  p : Pk
  ct : Int
  dp : Int
  inp : Int
  out : Int
  r0 : Int
  r1 : Int
  r2 : Int
  r3 : Int
  orig : Tup
def Sta.cells (s : Sta) : Array Value := #[.int .u64 s.p.ed, .int .u64 s.p.es, .bool s.p.et, .int .i64 s.p.etag, .int .i64 s.p.ety, .bool s.p.isArp, .int .i64 s.p.aop, .int .u64 s.p.asha, .int .u32 s.p.aspa, .int .u64 s.p.atha, .int .u32 s.p.atpa, .bool s.p.isIp, .int .i64 s.p.tos, .int .i64 s.p.id, .int .i64 s.p.frag, .int .i64 s.p.ttl, .int .i64 s.p.proto, .int .u32 s.p.src, .int .u32 s.p.dst, .string s.p.iopt, .int .i64 s.p.kind, .int .i64 s.p.ty, .int .i64 s.p.code, .int .u32 s.p.rest, .int .i64 s.p.sport, .int .i64 s.p.dport, .bool s.p.nosum, .int .u32 s.p.seq, .int .u32 s.p.ack, .int .i64 s.p.flags, .int .i64 s.p.win, .int .i64 s.p.urg, .string s.p.topt, .string s.p.data, .string s.p.body, .string s.p.pad, .int .i64 s.ct, .int .i64 s.dp, .int .i64 s.inp, .int .i64 s.out, .int .u32 s.r0, .int .u32 s.r1, .int .u32 s.r2, .int .u32 s.r3, .int .i64 s.orig.pr, .int .u32 s.orig.sr, .int .u32 s.orig.ds, .int .i64 s.orig.sp, .int .i64 s.orig.dp]
abbrev Sta.v (s : Sta) : Value := .agg s.cells
def Sta.ok (s : Sta) : Prop := s.p.ok ∧ s.orig.ok
theorem Sta.size (s : Sta) : s.cells.size = 49 := rfl
theorem Sta.at0 (s : Sta) : s.cells[0]? = some (.int .u64 s.p.ed) := rfl
theorem Sta.at1 (s : Sta) : s.cells[1]? = some (.int .u64 s.p.es) := rfl
theorem Sta.at2 (s : Sta) : s.cells[2]? = some (.bool s.p.et) := rfl
theorem Sta.at3 (s : Sta) : s.cells[3]? = some (.int .i64 s.p.etag) := rfl
theorem Sta.at4 (s : Sta) : s.cells[4]? = some (.int .i64 s.p.ety) := rfl
theorem Sta.at5 (s : Sta) : s.cells[5]? = some (.bool s.p.isArp) := rfl
theorem Sta.at6 (s : Sta) : s.cells[6]? = some (.int .i64 s.p.aop) := rfl
theorem Sta.at7 (s : Sta) : s.cells[7]? = some (.int .u64 s.p.asha) := rfl
theorem Sta.at8 (s : Sta) : s.cells[8]? = some (.int .u32 s.p.aspa) := rfl
theorem Sta.at9 (s : Sta) : s.cells[9]? = some (.int .u64 s.p.atha) := rfl
theorem Sta.at10 (s : Sta) : s.cells[10]? = some (.int .u32 s.p.atpa) := rfl
theorem Sta.at11 (s : Sta) : s.cells[11]? = some (.bool s.p.isIp) := rfl
theorem Sta.at12 (s : Sta) : s.cells[12]? = some (.int .i64 s.p.tos) := rfl
theorem Sta.at13 (s : Sta) : s.cells[13]? = some (.int .i64 s.p.id) := rfl
theorem Sta.at14 (s : Sta) : s.cells[14]? = some (.int .i64 s.p.frag) := rfl
theorem Sta.at15 (s : Sta) : s.cells[15]? = some (.int .i64 s.p.ttl) := rfl
theorem Sta.at16 (s : Sta) : s.cells[16]? = some (.int .i64 s.p.proto) := rfl
theorem Sta.at17 (s : Sta) : s.cells[17]? = some (.int .u32 s.p.src) := rfl
theorem Sta.at18 (s : Sta) : s.cells[18]? = some (.int .u32 s.p.dst) := rfl
theorem Sta.at19 (s : Sta) : s.cells[19]? = some (.string s.p.iopt) := rfl
theorem Sta.at20 (s : Sta) : s.cells[20]? = some (.int .i64 s.p.kind) := rfl
theorem Sta.at21 (s : Sta) : s.cells[21]? = some (.int .i64 s.p.ty) := rfl
theorem Sta.at22 (s : Sta) : s.cells[22]? = some (.int .i64 s.p.code) := rfl
theorem Sta.at23 (s : Sta) : s.cells[23]? = some (.int .u32 s.p.rest) := rfl
theorem Sta.at24 (s : Sta) : s.cells[24]? = some (.int .i64 s.p.sport) := rfl
theorem Sta.at25 (s : Sta) : s.cells[25]? = some (.int .i64 s.p.dport) := rfl
theorem Sta.at26 (s : Sta) : s.cells[26]? = some (.bool s.p.nosum) := rfl
theorem Sta.at27 (s : Sta) : s.cells[27]? = some (.int .u32 s.p.seq) := rfl
theorem Sta.at28 (s : Sta) : s.cells[28]? = some (.int .u32 s.p.ack) := rfl
theorem Sta.at29 (s : Sta) : s.cells[29]? = some (.int .i64 s.p.flags) := rfl
theorem Sta.at30 (s : Sta) : s.cells[30]? = some (.int .i64 s.p.win) := rfl
theorem Sta.at31 (s : Sta) : s.cells[31]? = some (.int .i64 s.p.urg) := rfl
theorem Sta.at32 (s : Sta) : s.cells[32]? = some (.string s.p.topt) := rfl
theorem Sta.at33 (s : Sta) : s.cells[33]? = some (.string s.p.data) := rfl
theorem Sta.at34 (s : Sta) : s.cells[34]? = some (.string s.p.body) := rfl
theorem Sta.at35 (s : Sta) : s.cells[35]? = some (.string s.p.pad) := rfl
theorem Sta.at36 (s : Sta) : s.cells[36]? = some (.int .i64 s.ct) := rfl
theorem Sta.at37 (s : Sta) : s.cells[37]? = some (.int .i64 s.dp) := rfl
theorem Sta.at38 (s : Sta) : s.cells[38]? = some (.int .i64 s.inp) := rfl
theorem Sta.at39 (s : Sta) : s.cells[39]? = some (.int .i64 s.out) := rfl
theorem Sta.at40 (s : Sta) : s.cells[40]? = some (.int .u32 s.r0) := rfl
theorem Sta.at41 (s : Sta) : s.cells[41]? = some (.int .u32 s.r1) := rfl
theorem Sta.at42 (s : Sta) : s.cells[42]? = some (.int .u32 s.r2) := rfl
theorem Sta.at43 (s : Sta) : s.cells[43]? = some (.int .u32 s.r3) := rfl
theorem Sta.at44 (s : Sta) : s.cells[44]? = some (.int .i64 s.orig.pr) := rfl
theorem Sta.at45 (s : Sta) : s.cells[45]? = some (.int .u32 s.orig.sr) := rfl
theorem Sta.at46 (s : Sta) : s.cells[46]? = some (.int .u32 s.orig.ds) := rfl
theorem Sta.at47 (s : Sta) : s.cells[47]? = some (.int .i64 s.orig.sp) := rfl
theorem Sta.at48 (s : Sta) : s.cells[48]? = some (.int .i64 s.orig.dp) := rfl
def Sta.zero : Sta := ⟨Pk.zero, 0, 0, 0, 0, 0, 0, 0, 0, Tup.zero⟩
theorem zinfo47 : (Try.prog.info? 47).map (·.zero) = some (some Sta.zero.v) := by kernel_rfl
end Go.Proofs.Ytomfgdkmkacebaa
