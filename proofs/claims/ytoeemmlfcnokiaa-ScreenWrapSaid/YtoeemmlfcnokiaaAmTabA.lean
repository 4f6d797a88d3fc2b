/- The types of the seat: what the machine asks of them. -/
import Derived.Test.YtoeemmlfcnokiaaAmU
import Derived.Test.YtoeemmlfcnokiaaProg
set_option linter.all false
set_option linter.deprecated false
namespace Go.Am
open Go.Proofs

theorem TU0_A : (Try.prog.underlying 1 = some (Go.TypeDesc.func #[] #[] false)) ∧
  (Try.prog.underlying 2 = some (Go.TypeDesc.int Go.IntKind.i64)) ∧
  (Try.prog.underlying 3 = some (Go.TypeDesc.int Go.IntKind.i64)) ∧
  (Try.prog.underlying 4 = some Go.TypeDesc.bool) ∧
  (Try.prog.underlying 5 = some (Go.TypeDesc.int Go.IntKind.u8)) ∧
  (Try.prog.underlying 9 = some Go.TypeDesc.string) ∧
  (Try.prog.underlying 21 = some (Go.TypeDesc.int Go.IntKind.i32)) ∧
  (Try.prog.underlying 24 = some (Go.TypeDesc.pointer 28)) ∧
  (Try.prog.underlying 25 = some (Go.TypeDesc.slice 3)) ∧
  (Try.prog.underlying 26 = some (Go.TypeDesc.slice 5)) ∧
  (Try.prog.underlying 29 = some (Go.TypeDesc.slice 33)) ∧
  (Try.prog.underlying 36 = some (Go.TypeDesc.slice 21)) ∧
  (Try.prog.underlying 37 = some (Go.TypeDesc.pointer 73)) ∧
  (Try.prog.underlying 39 = some (Go.TypeDesc.slice 45)) ∧
  (Try.prog.underlying 43 = some (Go.TypeDesc.slice 47)) ∧
  (Try.prog.underlying 90 = some (Go.TypeDesc.slice 93)) ∧
  (Try.prog.underlying 94 = some (Go.TypeDesc.int Go.IntKind.u64)) ∧
  (Try.prog.underlying 97 = some (Go.TypeDesc.func #[47] #[4] false)) ∧
  (Try.prog.underlying 100 = some (Go.TypeDesc.int Go.IntKind.i64)) ∧
  (Try.prog.underlying 103 = some (Go.TypeDesc.int Go.IntKind.u64)) ∧
  (Try.prog.underlying 106 = some (Go.TypeDesc.pointer 131)) ∧
  (Try.prog.underlying 108 = some (Go.TypeDesc.pointer 135)) ∧
  (Try.prog.underlying 111 = some (Go.TypeDesc.func #[136] #[] false)) ∧
  (Try.prog.underlying 112 = some (Go.TypeDesc.func #[136] #[] false)) ∧
  (Try.prog.underlying 115 = some (Go.TypeDesc.int Go.IntKind.u32)) ∧
  (Try.prog.underlying 122 = some (Go.TypeDesc.slice 126)) ∧
  (Try.prog.underlying 129 = some (Go.TypeDesc.slice 26)) ∧
  (Try.prog.underlying 133 = some (Go.TypeDesc.slice 106)) ∧
  (Try.prog.underlying 136 = some (Go.TypeDesc.func #[3, 45] #[4] false)) ∧
  (Try.prog.underlying 139 = some (Go.TypeDesc.pointer 141)) :=
  ⟨Try.underlying1, Try.underlying2, Try.underlying3, Try.underlying4, Try.underlying5, Try.underlying9, Try.underlying21, Try.underlying24, Try.underlying25, Try.underlying26, Try.underlying29, Try.underlying36, Try.underlying37, Try.underlying39, Try.underlying43, Try.underlying90, Try.underlying94, Try.underlying97, Try.underlying100, Try.underlying103, Try.underlying106, Try.underlying108, Try.underlying111, Try.underlying112, Try.underlying115, Try.underlying122, Try.underlying129, Try.underlying133, Try.underlying136, Try.underlying139⟩
theorem TS0_A : (sliceInfo Try.prog 25 = some (3, 1, [.v (.int .i64 0)])) ∧
  (sliceInfo Try.prog 26 = some (5, 1, [.v (.int .u8 0)])) ∧
  (sliceInfo Try.prog 29 = some (33, 4, [.v (.int .i64 0), .v (.int .i32 0), .v (.slice none 0 0), .v (.string ⟨#[]⟩)])) ∧
  (sliceInfo Try.prog 36 = some (21, 1, [.v (.int .i32 0)])) ∧
  (sliceInfo Try.prog 39 = some (45, 2, [.v (.slice none 0 0), .v (.bool false)])) ∧
  (sliceInfo Try.prog 43 = some (47, 3, [.v (.int .i32 0), .v (.int .i64 0), .v (.int .i64 0)])) ∧
  (sliceInfo Try.prog 90 = some (93, 2, [.v (.slice none 0 0), .v (.slice none 0 0)])) ∧
  (sliceInfo Try.prog 122 = some (126, 4, [.v (.int .i64 0), .v (.int .i32 0), .v (.int .i64 0), .v (.int .i64 0)])) ∧
  (sliceInfo Try.prog 129 = some (26, 1, [.v (.slice none 0 0)])) ∧
  (sliceInfo Try.prog 133 = some (106, 1, [.v (.pointer none)])) :=
  ⟨by kernel_rfl, by kernel_rfl, by kernel_rfl, by kernel_rfl, by kernel_rfl, by kernel_rfl, by kernel_rfl, by kernel_rfl, by kernel_rfl, by kernel_rfl⟩
theorem TB0_A : (buildInfo Try.prog 28 = some ([.v (.int .i64 0), .v (.slice none 0 0), .v (.bool false), .v (.bool false), .v (.slice none 0 0)], [(0, 1), (1, 1), (2, 1), (3, 1), (4, 1)])) ∧
  (buildInfo Try.prog 33 = some ([.v (.int .i64 0), .v (.int .i32 0), .v (.slice none 0 0), .v (.string ⟨#[]⟩)], [(0, 1), (1, 1), (2, 1), (3, 1)])) ∧
  (buildInfo Try.prog 45 = some ([.v (.slice none 0 0), .v (.bool false)], [(0, 1), (1, 1)])) ∧
  (buildInfo Try.prog 47 = some ([.v (.int .i32 0), .v (.int .i64 0), .v (.int .i64 0)], [(0, 1), (1, 1), (2, 1)])) ∧
  (buildInfo Try.prog 55 = some ([.v (.int .i64 0), .v (.int .i64 0)], [(0, 1), (1, 1)])) ∧
  (buildInfo Try.prog 73 = some ([.v (.int .i64 0), .v (.int .i64 0), .v (.slice none 0 0), .v (.int .i64 0), .v (.int .i64 0), .v (.int .i64 0)], [(0, 1), (1, 1), (2, 1), (3, 2), (5, 1)])) ∧
  (buildInfo Try.prog 93 = some ([.v (.slice none 0 0), .v (.slice none 0 0)], [(0, 1), (1, 1)])) ∧
  (buildInfo Try.prog 126 = some ([.v (.int .i64 0), .v (.int .i32 0), .v (.int .i64 0), .v (.int .i64 0)], [(0, 1), (1, 3)])) ∧
  (buildInfo Try.prog 131 = some ([.v (.slice none 0 0)], [(0, 1)])) ∧
  (buildInfo Try.prog 135 = some ([.v (.int .i64 0), .v (.slice none 0 0), .v (.int .i64 0), .v (.int .i64 0)], [(0, 1), (1, 1), (2, 1), (3, 1)])) ∧
  (buildInfo Try.prog 141 = some ([.v (.int .i64 0), .v (.int .i64 0), .v (.int .i32 0), .v (.int .u8 0), .v (.int .u8 0)], [(0, 1), (1, 1), (2, 1), (3, 1), (4, 1)])) :=
  ⟨by kernel_rfl, by kernel_rfl, by kernel_rfl, by kernel_rfl, by kernel_rfl, by kernel_rfl, by kernel_rfl, by kernel_rfl, by kernel_rfl, by kernel_rfl, by kernel_rfl⟩
theorem TF0_A : (fieldOff Try.prog 28 0 = some 0) ∧
  (fieldAt? Try.prog 28 0 = some (0, 3)) ∧
  (fieldOff Try.prog 28 1 = some 1) ∧
  (fieldAt? Try.prog 28 1 = some (1, 25)) ∧
  (fieldOff Try.prog 28 2 = some 2) ∧
  (fieldAt? Try.prog 28 2 = some (2, 4)) ∧
  (fieldOff Try.prog 28 3 = some 3) ∧
  (fieldAt? Try.prog 28 3 = some (3, 4)) ∧
  (fieldOff Try.prog 28 4 = some 4) ∧
  (fieldAt? Try.prog 28 4 = some (4, 26)) ∧
  (fieldOff Try.prog 33 0 = some 0) ∧
  (fieldAt? Try.prog 33 0 = some (0, 3)) ∧
  (fieldOff Try.prog 33 1 = some 1) ∧
  (fieldAt? Try.prog 33 1 = some (1, 21)) ∧
  (fieldOff Try.prog 33 2 = some 2) ∧
  (fieldAt? Try.prog 33 2 = some (2, 25)) ∧
  (fieldOff Try.prog 33 3 = some 3) ∧
  (fieldAt? Try.prog 33 3 = some (3, 9)) ∧
  (fieldOff Try.prog 45 0 = some 0) ∧
  (fieldAt? Try.prog 45 0 = some (0, 43)) ∧
  (fieldOff Try.prog 45 1 = some 1) ∧
  (fieldAt? Try.prog 45 1 = some (1, 4)) ∧
  (fieldOff Try.prog 47 0 = some 0) ∧
  (fieldAt? Try.prog 47 0 = some (0, 21)) ∧
  (fieldOff Try.prog 47 1 = some 1) ∧
  (fieldAt? Try.prog 47 1 = some (1, 3)) ∧
  (fieldOff Try.prog 47 2 = some 2) ∧
  (fieldAt? Try.prog 47 2 = some (2, 3)) ∧
  (fieldOff Try.prog 55 0 = some 0) ∧
  (fieldAt? Try.prog 55 0 = some (0, 3)) ∧
  (fieldOff Try.prog 55 1 = some 1) ∧
  (fieldAt? Try.prog 55 1 = some (1, 3)) ∧
  (fieldOff Try.prog 73 0 = some 0) ∧
  (fieldAt? Try.prog 73 0 = some (0, 3)) ∧
  (fieldOff Try.prog 73 1 = some 1) ∧
  (fieldAt? Try.prog 73 1 = some (1, 3)) ∧
  (fieldOff Try.prog 73 2 = some 2) ∧
  (fieldAt? Try.prog 73 2 = some (2, 39)) ∧
  (fieldOff Try.prog 73 3 = some 3) ∧
  (fieldAt? Try.prog 73 3 = some (3, 55)) :=
  ⟨by kernel_rfl, by kernel_rfl, by kernel_rfl, by kernel_rfl, by kernel_rfl, by kernel_rfl, by kernel_rfl, by kernel_rfl, by kernel_rfl, by kernel_rfl, by kernel_rfl, by kernel_rfl, by kernel_rfl, by kernel_rfl, by kernel_rfl, by kernel_rfl, by kernel_rfl, by kernel_rfl, by kernel_rfl, by kernel_rfl, by kernel_rfl, by kernel_rfl, by kernel_rfl, by kernel_rfl, by kernel_rfl, by kernel_rfl, by kernel_rfl, by kernel_rfl, by kernel_rfl, by kernel_rfl, by kernel_rfl, by kernel_rfl, by kernel_rfl, by kernel_rfl, by kernel_rfl, by kernel_rfl, by kernel_rfl, by kernel_rfl, by kernel_rfl, by kernel_rfl⟩
theorem TF1_A : (fieldOff Try.prog 73 4 = some 5) ∧
  (fieldAt? Try.prog 73 4 = some (5, 3)) ∧
  (fieldOff Try.prog 93 0 = some 0) ∧
  (fieldAt? Try.prog 93 0 = some (0, 26)) ∧
  (fieldOff Try.prog 93 1 = some 1) ∧
  (fieldAt? Try.prog 93 1 = some (1, 26)) ∧
  (fieldOff Try.prog 126 0 = some 0) ∧
  (fieldAt? Try.prog 126 0 = some (0, 3)) ∧
  (fieldOff Try.prog 126 1 = some 1) ∧
  (fieldAt? Try.prog 126 1 = some (1, 47)) ∧
  (fieldOff Try.prog 131 0 = some 0) ∧
  (fieldAt? Try.prog 131 0 = some (0, 129)) ∧
  (fieldOff Try.prog 135 0 = some 0) ∧
  (fieldAt? Try.prog 135 0 = some (0, 3)) ∧
  (fieldOff Try.prog 135 1 = some 1) ∧
  (fieldAt? Try.prog 135 1 = some (1, 133)) ∧
  (fieldOff Try.prog 135 2 = some 2) ∧
  (fieldAt? Try.prog 135 2 = some (2, 3)) ∧
  (fieldOff Try.prog 135 3 = some 3) ∧
  (fieldAt? Try.prog 135 3 = some (3, 3)) ∧
  (fieldOff Try.prog 141 0 = some 0) ∧
  (fieldAt? Try.prog 141 0 = some (0, 3)) ∧
  (fieldOff Try.prog 141 1 = some 1) ∧
  (fieldAt? Try.prog 141 1 = some (1, 3)) ∧
  (fieldOff Try.prog 141 2 = some 2) ∧
  (fieldAt? Try.prog 141 2 = some (2, 21)) ∧
  (fieldOff Try.prog 141 3 = some 3) ∧
  (fieldAt? Try.prog 141 3 = some (3, 5)) ∧
  (fieldOff Try.prog 141 4 = some 4) ∧
  (fieldAt? Try.prog 141 4 = some (4, 5)) :=
  ⟨by kernel_rfl, by kernel_rfl, by kernel_rfl, by kernel_rfl, by kernel_rfl, by kernel_rfl, by kernel_rfl, by kernel_rfl, by kernel_rfl, by kernel_rfl, by kernel_rfl, by kernel_rfl, by kernel_rfl, by kernel_rfl, by kernel_rfl, by kernel_rfl, by kernel_rfl, by kernel_rfl, by kernel_rfl, by kernel_rfl, by kernel_rfl, by kernel_rfl, by kernel_rfl, by kernel_rfl, by kernel_rfl, by kernel_rfl, by kernel_rfl, by kernel_rfl, by kernel_rfl, by kernel_rfl⟩
theorem TP0_A : (∀ cs : List AV, partA Try.prog 1 cs = cs.head?) ∧
  (∀ cs : List AV, partA Try.prog 2 cs = cs.head?) ∧
  (∀ cs : List AV, partA Try.prog 3 cs = cs.head?) ∧
  (∀ cs : List AV, partA Try.prog 4 cs = cs.head?) ∧
  (∀ cs : List AV, partA Try.prog 5 cs = cs.head?) ∧
  (∀ cs : List AV, partA Try.prog 9 cs = cs.head?) ∧
  (∀ cs : List AV, partA Try.prog 21 cs = cs.head?) ∧
  (∀ cs : List AV, partA Try.prog 24 cs = cs.head?) ∧
  (∀ cs : List AV, partA Try.prog 25 cs = cs.head?) ∧
  (∀ cs : List AV, partA Try.prog 26 cs = cs.head?) ∧
  (∀ cs : List AV, partA Try.prog 28 cs = if 5 ≤ cs.length then some (.agg (cs.take 5)) else none) ∧
  (∀ cs : List AV, partA Try.prog 29 cs = cs.head?) ∧
  (∀ cs : List AV, partA Try.prog 33 cs = if 4 ≤ cs.length then some (.agg (cs.take 4)) else none) ∧
  (∀ cs : List AV, partA Try.prog 36 cs = cs.head?) ∧
  (∀ cs : List AV, partA Try.prog 37 cs = cs.head?) ∧
  (∀ cs : List AV, partA Try.prog 39 cs = cs.head?) ∧
  (∀ cs : List AV, partA Try.prog 43 cs = cs.head?) ∧
  (∀ cs : List AV, partA Try.prog 45 cs = if 2 ≤ cs.length then some (.agg (cs.take 2)) else none) ∧
  (∀ cs : List AV, partA Try.prog 47 cs = if 3 ≤ cs.length then some (.agg (cs.take 3)) else none) ∧
  (∀ cs : List AV, partA Try.prog 55 cs = if 2 ≤ cs.length then some (.agg (cs.take 2)) else none) ∧
  (∀ cs : List AV, partA Try.prog 73 cs = if 6 ≤ cs.length then some (.agg (cs.take 6)) else none) ∧
  (∀ cs : List AV, partA Try.prog 90 cs = cs.head?) ∧
  (∀ cs : List AV, partA Try.prog 93 cs = if 2 ≤ cs.length then some (.agg (cs.take 2)) else none) ∧
  (∀ cs : List AV, partA Try.prog 94 cs = cs.head?) ∧
  (∀ cs : List AV, partA Try.prog 97 cs = cs.head?) ∧
  (∀ cs : List AV, partA Try.prog 100 cs = cs.head?) ∧
  (∀ cs : List AV, partA Try.prog 103 cs = cs.head?) ∧
  (∀ cs : List AV, partA Try.prog 106 cs = cs.head?) ∧
  (∀ cs : List AV, partA Try.prog 108 cs = cs.head?) ∧
  (∀ cs : List AV, partA Try.prog 111 cs = cs.head?) ∧
  (∀ cs : List AV, partA Try.prog 112 cs = cs.head?) ∧
  (∀ cs : List AV, partA Try.prog 115 cs = cs.head?) ∧
  (∀ cs : List AV, partA Try.prog 122 cs = cs.head?) ∧
  (∀ cs : List AV, partA Try.prog 126 cs = if 4 ≤ cs.length then some (.agg (cs.take 4)) else none) ∧
  (∀ cs : List AV, partA Try.prog 129 cs = cs.head?) ∧
  (∀ cs : List AV, partA Try.prog 131 cs = if 1 ≤ cs.length then some (.agg (cs.take 1)) else none) ∧
  (∀ cs : List AV, partA Try.prog 133 cs = cs.head?) ∧
  (∀ cs : List AV, partA Try.prog 135 cs = if 4 ≤ cs.length then some (.agg (cs.take 4)) else none) ∧
  (∀ cs : List AV, partA Try.prog 136 cs = cs.head?) ∧
  (∀ cs : List AV, partA Try.prog 139 cs = cs.head?) :=
  ⟨fun _ => by kernel_rfl, fun _ => by kernel_rfl, fun _ => by kernel_rfl, fun _ => by kernel_rfl, fun _ => by kernel_rfl, fun _ => by kernel_rfl, fun _ => by kernel_rfl, fun _ => by kernel_rfl, fun _ => by kernel_rfl, fun _ => by kernel_rfl, fun _ => by kernel_rfl, fun _ => by kernel_rfl, fun _ => by kernel_rfl, fun _ => by kernel_rfl, fun _ => by kernel_rfl, fun _ => by kernel_rfl, fun _ => by kernel_rfl, fun _ => by kernel_rfl, fun _ => by kernel_rfl, fun _ => by kernel_rfl, fun _ => by kernel_rfl, fun _ => by kernel_rfl, fun _ => by kernel_rfl, fun _ => by kernel_rfl, fun _ => by kernel_rfl, fun _ => by kernel_rfl, fun _ => by kernel_rfl, fun _ => by kernel_rfl, fun _ => by kernel_rfl, fun _ => by kernel_rfl, fun _ => by kernel_rfl, fun _ => by kernel_rfl, fun _ => by kernel_rfl, fun _ => by kernel_rfl, fun _ => by kernel_rfl, fun _ => by kernel_rfl, fun _ => by kernel_rfl, fun _ => by kernel_rfl, fun _ => by kernel_rfl, fun _ => by kernel_rfl⟩
theorem TP1_A : (∀ cs : List AV, partA Try.prog 141 cs = if 5 ≤ cs.length then some (.agg (cs.take 5)) else none) :=
  fun _ => by kernel_rfl
theorem TN0_A : (infoSize Try.prog 1 = some 1) ∧
  (infoSize Try.prog 2 = some 1) ∧
  (infoSize Try.prog 3 = some 1) ∧
  (infoSize Try.prog 4 = some 1) ∧
  (infoSize Try.prog 5 = some 1) ∧
  (infoSize Try.prog 9 = some 1) ∧
  (infoSize Try.prog 21 = some 1) ∧
  (infoSize Try.prog 24 = some 1) ∧
  (infoSize Try.prog 25 = some 1) ∧
  (infoSize Try.prog 26 = some 1) ∧
  (infoSize Try.prog 28 = some 5) ∧
  (infoSize Try.prog 29 = some 1) ∧
  (infoSize Try.prog 33 = some 4) ∧
  (infoSize Try.prog 36 = some 1) ∧
  (infoSize Try.prog 37 = some 1) ∧
  (infoSize Try.prog 39 = some 1) ∧
  (infoSize Try.prog 43 = some 1) ∧
  (infoSize Try.prog 45 = some 2) ∧
  (infoSize Try.prog 47 = some 3) ∧
  (infoSize Try.prog 55 = some 2) ∧
  (infoSize Try.prog 73 = some 6) ∧
  (infoSize Try.prog 90 = some 1) ∧
  (infoSize Try.prog 93 = some 2) ∧
  (infoSize Try.prog 94 = some 1) ∧
  (infoSize Try.prog 97 = some 1) ∧
  (infoSize Try.prog 100 = some 1) ∧
  (infoSize Try.prog 103 = some 1) ∧
  (infoSize Try.prog 106 = some 1) ∧
  (infoSize Try.prog 108 = some 1) ∧
  (infoSize Try.prog 111 = some 1) ∧
  (infoSize Try.prog 112 = some 1) ∧
  (infoSize Try.prog 115 = some 1) ∧
  (infoSize Try.prog 122 = some 1) ∧
  (infoSize Try.prog 126 = some 4) ∧
  (infoSize Try.prog 129 = some 1) ∧
  (infoSize Try.prog 131 = some 1) ∧
  (infoSize Try.prog 133 = some 1) ∧
  (infoSize Try.prog 135 = some 4) ∧
  (infoSize Try.prog 136 = some 1) ∧
  (infoSize Try.prog 139 = some 1) :=
  ⟨by kernel_rfl, by kernel_rfl, by kernel_rfl, by kernel_rfl, by kernel_rfl, by kernel_rfl, by kernel_rfl, by kernel_rfl, by kernel_rfl, by kernel_rfl, by kernel_rfl, by kernel_rfl, by kernel_rfl, by kernel_rfl, by kernel_rfl, by kernel_rfl, by kernel_rfl, by kernel_rfl, by kernel_rfl, by kernel_rfl, by kernel_rfl, by kernel_rfl, by kernel_rfl, by kernel_rfl, by kernel_rfl, by kernel_rfl, by kernel_rfl, by kernel_rfl, by kernel_rfl, by kernel_rfl, by kernel_rfl, by kernel_rfl, by kernel_rfl, by kernel_rfl, by kernel_rfl, by kernel_rfl, by kernel_rfl, by kernel_rfl, by kernel_rfl, by kernel_rfl⟩
theorem TN1_A : (infoSize Try.prog 141 = some 5) :=
  by kernel_rfl
theorem TY0_A : (infoBytes Try.prog 1 = some 8) ∧
  (infoBytes Try.prog 2 = some 8) ∧
  (infoBytes Try.prog 3 = some 8) ∧
  (infoBytes Try.prog 4 = some 1) ∧
  (infoBytes Try.prog 5 = some 1) ∧
  (infoBytes Try.prog 9 = some 16) ∧
  (infoBytes Try.prog 21 = some 4) ∧
  (infoBytes Try.prog 24 = some 8) ∧
  (infoBytes Try.prog 25 = some 24) ∧
  (infoBytes Try.prog 26 = some 24) ∧
  (infoBytes Try.prog 28 = some 64) ∧
  (infoBytes Try.prog 29 = some 24) ∧
  (infoBytes Try.prog 33 = some 56) ∧
  (infoBytes Try.prog 36 = some 24) ∧
  (infoBytes Try.prog 37 = some 8) ∧
  (infoBytes Try.prog 39 = some 24) ∧
  (infoBytes Try.prog 43 = some 24) ∧
  (infoBytes Try.prog 45 = some 32) ∧
  (infoBytes Try.prog 47 = some 24) ∧
  (infoBytes Try.prog 55 = some 16) ∧
  (infoBytes Try.prog 73 = some 64) ∧
  (infoBytes Try.prog 90 = some 24) ∧
  (infoBytes Try.prog 93 = some 48) ∧
  (infoBytes Try.prog 94 = some 8) ∧
  (infoBytes Try.prog 97 = some 8) ∧
  (infoBytes Try.prog 100 = some 8) ∧
  (infoBytes Try.prog 103 = some 8) ∧
  (infoBytes Try.prog 106 = some 8) ∧
  (infoBytes Try.prog 108 = some 8) ∧
  (infoBytes Try.prog 111 = some 8) ∧
  (infoBytes Try.prog 112 = some 8) ∧
  (infoBytes Try.prog 115 = some 4) ∧
  (infoBytes Try.prog 122 = some 24) ∧
  (infoBytes Try.prog 126 = some 32) ∧
  (infoBytes Try.prog 129 = some 24) ∧
  (infoBytes Try.prog 131 = some 24) ∧
  (infoBytes Try.prog 133 = some 24) ∧
  (infoBytes Try.prog 135 = some 48) ∧
  (infoBytes Try.prog 136 = some 8) ∧
  (infoBytes Try.prog 139 = some 8) :=
  ⟨by kernel_rfl, by kernel_rfl, by kernel_rfl, by kernel_rfl, by kernel_rfl, by kernel_rfl, by kernel_rfl, by kernel_rfl, by kernel_rfl, by kernel_rfl, by kernel_rfl, by kernel_rfl, by kernel_rfl, by kernel_rfl, by kernel_rfl, by kernel_rfl, by kernel_rfl, by kernel_rfl, by kernel_rfl, by kernel_rfl, by kernel_rfl, by kernel_rfl, by kernel_rfl, by kernel_rfl, by kernel_rfl, by kernel_rfl, by kernel_rfl, by kernel_rfl, by kernel_rfl, by kernel_rfl, by kernel_rfl, by kernel_rfl, by kernel_rfl, by kernel_rfl, by kernel_rfl, by kernel_rfl, by kernel_rfl, by kernel_rfl, by kernel_rfl, by kernel_rfl⟩
theorem TY1_A : (infoBytes Try.prog 141 = some 24) :=
  by kernel_rfl
theorem TZ0_A : (zeroCells Try.prog 1 = some [.v .nilFunc]) ∧
  (zeroCells Try.prog 2 = some [.v (.int .i64 0)]) ∧
  (zeroCells Try.prog 3 = some [.v (.int .i64 0)]) ∧
  (zeroCells Try.prog 4 = some [.v (.bool false)]) ∧
  (zeroCells Try.prog 5 = some [.v (.int .u8 0)]) ∧
  (zeroCells Try.prog 9 = some [.v (.string ⟨#[]⟩)]) ∧
  (zeroCells Try.prog 21 = some [.v (.int .i32 0)]) ∧
  (zeroCells Try.prog 24 = some [.v (.pointer none)]) ∧
  (zeroCells Try.prog 25 = some [.v (.slice none 0 0)]) ∧
  (zeroCells Try.prog 26 = some [.v (.slice none 0 0)]) ∧
  (zeroCells Try.prog 28 = some [.v (.int .i64 0), .v (.slice none 0 0), .v (.bool false), .v (.bool false), .v (.slice none 0 0)]) ∧
  (zeroCells Try.prog 29 = some [.v (.slice none 0 0)]) ∧
  (zeroCells Try.prog 33 = some [.v (.int .i64 0), .v (.int .i32 0), .v (.slice none 0 0), .v (.string ⟨#[]⟩)]) ∧
  (zeroCells Try.prog 36 = some [.v (.slice none 0 0)]) ∧
  (zeroCells Try.prog 37 = some [.v (.pointer none)]) ∧
  (zeroCells Try.prog 39 = some [.v (.slice none 0 0)]) ∧
  (zeroCells Try.prog 43 = some [.v (.slice none 0 0)]) ∧
  (zeroCells Try.prog 45 = some [.v (.slice none 0 0), .v (.bool false)]) ∧
  (zeroCells Try.prog 47 = some [.v (.int .i32 0), .v (.int .i64 0), .v (.int .i64 0)]) ∧
  (zeroCells Try.prog 55 = some [.v (.int .i64 0), .v (.int .i64 0)]) ∧
  (zeroCells Try.prog 73 = some [.v (.int .i64 0), .v (.int .i64 0), .v (.slice none 0 0), .v (.int .i64 0), .v (.int .i64 0), .v (.int .i64 0)]) ∧
  (zeroCells Try.prog 90 = some [.v (.slice none 0 0)]) ∧
  (zeroCells Try.prog 93 = some [.v (.slice none 0 0), .v (.slice none 0 0)]) ∧
  (zeroCells Try.prog 94 = some [.v (.int .u64 0)]) ∧
  (zeroCells Try.prog 97 = some [.v .nilFunc]) ∧
  (zeroCells Try.prog 100 = some [.v (.int .i64 0)]) ∧
  (zeroCells Try.prog 103 = some [.v (.int .u64 0)]) ∧
  (zeroCells Try.prog 106 = some [.v (.pointer none)]) ∧
  (zeroCells Try.prog 108 = some [.v (.pointer none)]) ∧
  (zeroCells Try.prog 111 = some [.v .nilFunc]) ∧
  (zeroCells Try.prog 112 = some [.v .nilFunc]) ∧
  (zeroCells Try.prog 115 = some [.v (.int .u32 0)]) ∧
  (zeroCells Try.prog 122 = some [.v (.slice none 0 0)]) ∧
  (zeroCells Try.prog 126 = some [.v (.int .i64 0), .v (.int .i32 0), .v (.int .i64 0), .v (.int .i64 0)]) ∧
  (zeroCells Try.prog 129 = some [.v (.slice none 0 0)]) ∧
  (zeroCells Try.prog 131 = some [.v (.slice none 0 0)]) ∧
  (zeroCells Try.prog 133 = some [.v (.slice none 0 0)]) ∧
  (zeroCells Try.prog 135 = some [.v (.int .i64 0), .v (.slice none 0 0), .v (.int .i64 0), .v (.int .i64 0)]) ∧
  (zeroCells Try.prog 136 = some [.v .nilFunc]) ∧
  (zeroCells Try.prog 139 = some [.v (.pointer none)]) :=
  ⟨by kernel_rfl, by kernel_rfl, by kernel_rfl, by kernel_rfl, by kernel_rfl, by kernel_rfl, by kernel_rfl, by kernel_rfl, by kernel_rfl, by kernel_rfl, by kernel_rfl, by kernel_rfl, by kernel_rfl, by kernel_rfl, by kernel_rfl, by kernel_rfl, by kernel_rfl, by kernel_rfl, by kernel_rfl, by kernel_rfl, by kernel_rfl, by kernel_rfl, by kernel_rfl, by kernel_rfl, by kernel_rfl, by kernel_rfl, by kernel_rfl, by kernel_rfl, by kernel_rfl, by kernel_rfl, by kernel_rfl, by kernel_rfl, by kernel_rfl, by kernel_rfl, by kernel_rfl, by kernel_rfl, by kernel_rfl, by kernel_rfl, by kernel_rfl, by kernel_rfl⟩
theorem TZ1_A : (zeroCells Try.prog 141 = some [.v (.int .i64 0), .v (.int .i64 0), .v (.int .i32 0), .v (.int .u8 0), .v (.int .u8 0)]) :=
  by kernel_rfl
theorem TI0_A : (isStrT Try.prog 1 = false) ∧
  (isU8T Try.prog 1 = false) ∧
  (isStrT Try.prog 2 = false) ∧
  (isU8T Try.prog 2 = false) ∧
  (isStrT Try.prog 3 = false) ∧
  (isU8T Try.prog 3 = false) ∧
  (isStrT Try.prog 4 = false) ∧
  (isU8T Try.prog 4 = false) ∧
  (isStrT Try.prog 5 = false) ∧
  (isU8T Try.prog 5 = true) ∧
  (isStrT Try.prog 9 = true) ∧
  (isU8T Try.prog 9 = false) ∧
  (isStrT Try.prog 21 = false) ∧
  (isU8T Try.prog 21 = false) ∧
  (isStrT Try.prog 24 = false) ∧
  (isU8T Try.prog 24 = false) ∧
  (isSlT Try.prog 25 = true) ∧
  (isStrT Try.prog 25 = false) ∧
  (isU8T Try.prog 25 = false) ∧
  (isSlT Try.prog 26 = true) ∧
  (isStrT Try.prog 26 = false) ∧
  (isU8T Try.prog 26 = false) ∧
  (isStrT Try.prog 28 = false) ∧
  (isU8T Try.prog 28 = false) ∧
  (isSlT Try.prog 29 = true) ∧
  (isStrT Try.prog 29 = false) ∧
  (isU8T Try.prog 29 = false) ∧
  (isStrT Try.prog 33 = false) ∧
  (isU8T Try.prog 33 = false) ∧
  (isSlT Try.prog 36 = true) ∧
  (isStrT Try.prog 36 = false) ∧
  (isU8T Try.prog 36 = false) ∧
  (isStrT Try.prog 37 = false) ∧
  (isU8T Try.prog 37 = false) ∧
  (isSlT Try.prog 39 = true) ∧
  (isStrT Try.prog 39 = false) ∧
  (isU8T Try.prog 39 = false) ∧
  (isSlT Try.prog 43 = true) ∧
  (isStrT Try.prog 43 = false) ∧
  (isU8T Try.prog 43 = false) :=
  ⟨by kernel_rfl, by kernel_rfl, by kernel_rfl, by kernel_rfl, by kernel_rfl, by kernel_rfl, by kernel_rfl, by kernel_rfl, by kernel_rfl, by kernel_rfl, by kernel_rfl, by kernel_rfl, by kernel_rfl, by kernel_rfl, by kernel_rfl, by kernel_rfl, by kernel_rfl, by kernel_rfl, by kernel_rfl, by kernel_rfl, by kernel_rfl, by kernel_rfl, by kernel_rfl, by kernel_rfl, by kernel_rfl, by kernel_rfl, by kernel_rfl, by kernel_rfl, by kernel_rfl, by kernel_rfl, by kernel_rfl, by kernel_rfl, by kernel_rfl, by kernel_rfl, by kernel_rfl, by kernel_rfl, by kernel_rfl, by kernel_rfl, by kernel_rfl, by kernel_rfl⟩
theorem TI1_A : (isStrT Try.prog 45 = false) ∧
  (isU8T Try.prog 45 = false) ∧
  (isStrT Try.prog 47 = false) ∧
  (isU8T Try.prog 47 = false) ∧
  (isStrT Try.prog 55 = false) ∧
  (isU8T Try.prog 55 = false) ∧
  (isStrT Try.prog 73 = false) ∧
  (isU8T Try.prog 73 = false) ∧
  (isSlT Try.prog 90 = true) ∧
  (isStrT Try.prog 90 = false) ∧
  (isU8T Try.prog 90 = false) ∧
  (isStrT Try.prog 93 = false) ∧
  (isU8T Try.prog 93 = false) ∧
  (isStrT Try.prog 94 = false) ∧
  (isU8T Try.prog 94 = false) ∧
  (isStrT Try.prog 97 = false) ∧
  (isU8T Try.prog 97 = false) ∧
  (isStrT Try.prog 100 = false) ∧
  (isU8T Try.prog 100 = false) ∧
  (isStrT Try.prog 103 = false) ∧
  (isU8T Try.prog 103 = false) ∧
  (isStrT Try.prog 106 = false) ∧
  (isU8T Try.prog 106 = false) ∧
  (isStrT Try.prog 108 = false) ∧
  (isU8T Try.prog 108 = false) ∧
  (isStrT Try.prog 111 = false) ∧
  (isU8T Try.prog 111 = false) ∧
  (isStrT Try.prog 112 = false) ∧
  (isU8T Try.prog 112 = false) ∧
  (isStrT Try.prog 115 = false) ∧
  (isU8T Try.prog 115 = false) ∧
  (isSlT Try.prog 122 = true) ∧
  (isStrT Try.prog 122 = false) ∧
  (isU8T Try.prog 122 = false) ∧
  (isStrT Try.prog 126 = false) ∧
  (isU8T Try.prog 126 = false) ∧
  (isSlT Try.prog 129 = true) ∧
  (isStrT Try.prog 129 = false) ∧
  (isU8T Try.prog 129 = false) ∧
  (isStrT Try.prog 131 = false) :=
  ⟨by kernel_rfl, by kernel_rfl, by kernel_rfl, by kernel_rfl, by kernel_rfl, by kernel_rfl, by kernel_rfl, by kernel_rfl, by kernel_rfl, by kernel_rfl, by kernel_rfl, by kernel_rfl, by kernel_rfl, by kernel_rfl, by kernel_rfl, by kernel_rfl, by kernel_rfl, by kernel_rfl, by kernel_rfl, by kernel_rfl, by kernel_rfl, by kernel_rfl, by kernel_rfl, by kernel_rfl, by kernel_rfl, by kernel_rfl, by kernel_rfl, by kernel_rfl, by kernel_rfl, by kernel_rfl, by kernel_rfl, by kernel_rfl, by kernel_rfl, by kernel_rfl, by kernel_rfl, by kernel_rfl, by kernel_rfl, by kernel_rfl, by kernel_rfl, by kernel_rfl⟩
theorem TI2_A : (isU8T Try.prog 131 = false) ∧
  (isSlT Try.prog 133 = true) ∧
  (isStrT Try.prog 133 = false) ∧
  (isU8T Try.prog 133 = false) ∧
  (isStrT Try.prog 135 = false) ∧
  (isU8T Try.prog 135 = false) ∧
  (isStrT Try.prog 136 = false) ∧
  (isU8T Try.prog 136 = false) ∧
  (isStrT Try.prog 139 = false) ∧
  (isU8T Try.prog 139 = false) ∧
  (isStrT Try.prog 141 = false) ∧
  (isU8T Try.prog 141 = false) :=
  ⟨by kernel_rfl, by kernel_rfl, by kernel_rfl, by kernel_rfl, by kernel_rfl, by kernel_rfl, by kernel_rfl, by kernel_rfl, by kernel_rfl, by kernel_rfl, by kernel_rfl, by kernel_rfl⟩
attribute [go_sem] TU0_A TS0_A TB0_A TF0_A TF1_A TP0_A TP1_A TN0_A TN1_A TY0_A TY1_A TZ0_A TZ1_A TI0_A TI1_A TI2_A
end Go.Am
