/- The table of the program's types that the symbolic executor asks for. No conditions. -/
import Derived.Test.YtbdhekefhcjhaaaDoorExU
import Derived.Test.YtbdhekefhcjhaaaDoorProg
namespace Go.Proofs.YtbdhekefhcjhaaaDoorW.Ex
set_option linter.all false
open Go
def t2 : TI := ⟨1, false, none, none, [], false, (some .i64), (some [.int .i64 0]), none, none, 0, true⟩
theorem k2 : TIok Tryd.prog 2 t2 := tiOk (by kernel_rfl) (Or.inr (by kernel_rfl))
def t3 : TI := ⟨1, false, none, none, [], false, (some .i64), (some [.int .i64 0]), none, none, 0, true⟩
theorem k3 : TIok Tryd.prog 3 t3 := tiOk (by kernel_rfl) (Or.inr (by kernel_rfl))
def t4 : TI := ⟨1, false, none, none, [], false, none, (some [.bool false]), none, none, 1, true⟩
theorem k4 : TIok Tryd.prog 4 t4 := tiOk (by kernel_rfl) (Or.inr (by kernel_rfl))
def t5 : TI := ⟨1, false, none, none, [], false, (some .u8), (some [.int .u8 0]), none, none, 0, true⟩
theorem k5 : TIok Tryd.prog 5 t5 := tiOk (by kernel_rfl) (Or.inr (by kernel_rfl))
def t6 : TI := ⟨1, false, none, none, [], false, (some .u8), (some [.int .u8 0]), none, none, 0, true⟩
theorem k6 : TIok Tryd.prog 6 t6 := tiOk (by kernel_rfl) (Or.inr (by kernel_rfl))
def t8 : TI := ⟨4, true, none, none, [(2, 0, 1), (3, 1, 1), (4, 2, 1), (6, 3, 1)], false, none, (some [.int .i64 0, .int .i64 0, .bool false, .int .u8 0]), (some [(0, 1), (1, 1), (2, 1), (3, 1)]), none, 0, true⟩
theorem k8 : TIok Tryd.prog 8 t8 := tiOk (by kernel_rfl) (Or.inr (by kernel_rfl))
def t9 : TI := ⟨1, false, none, none, [], true, none, (some [.str ⟨#[]⟩]), none, none, 0, true⟩
theorem k9 : TIok Tryd.prog 9 t9 := tiOk (by kernel_rfl) (Or.inr (by kernel_rfl))
def t10 : TI := ⟨1, false, none, none, [], true, none, (some [.str ⟨#[]⟩]), none, none, 0, true⟩
theorem k10 : TIok Tryd.prog 10 t10 := tiOk (by kernel_rfl) (Or.inr (by kernel_rfl))
def t11 : TI := ⟨1, false, none, none, [], true, none, (some [.str ⟨#[]⟩]), none, none, 0, true⟩
theorem k11 : TIok Tryd.prog 11 t11 := tiOk (by kernel_rfl) (Or.inr (by kernel_rfl))
def t12 : TI := ⟨1, false, none, none, [], false, (some .u64), (some [.int .u64 0]), none, none, 0, true⟩
theorem k12 : TIok Tryd.prog 12 t12 := tiOk (by kernel_rfl) (Or.inr (by kernel_rfl))
def t14 : TI := ⟨2, true, none, none, [(9, 0, 1), (12, 1, 1)], false, none, (some [.str ⟨#[]⟩, .int .u64 0]), (some [(0, 1), (1, 1)]), none, 0, true⟩
theorem k14 : TIok Tryd.prog 14 t14 := tiOk (by kernel_rfl) (Or.inr (by kernel_rfl))
def t15 : TI := ⟨1, false, none, none, [], false, none, (some [.nilp]), none, none, 2, true⟩
theorem k15 : TIok Tryd.prog 15 t15 := tiOk (by kernel_rfl) (Or.inr (by kernel_rfl))
def t16 : TI := ⟨1, false, none, none, [], false, none, (some [.nilp]), none, none, 2, true⟩
theorem k16 : TIok Tryd.prog 16 t16 := tiOk (by kernel_rfl) (Or.inr (by kernel_rfl))
def t17 : TI := ⟨1, false, none, none, [], false, none, (some [.nilp]), none, none, 2, true⟩
theorem k17 : TIok Tryd.prog 17 t17 := tiOk (by kernel_rfl) (Or.inr (by kernel_rfl))
def t19 : TI := ⟨1, true, none, none, [(17, 0, 1)], false, none, (some [.nilp]), (some [(0, 1)]), none, 0, true⟩
theorem k19 : TIok Tryd.prog 19 t19 := tiOk (by kernel_rfl) (Or.inr (by kernel_rfl))
def t21 : TI := ⟨1, false, none, none, [], false, (some .i32), (some [.int .i32 0]), none, none, 0, true⟩
theorem k21 : TIok Tryd.prog 21 t21 := tiOk (by kernel_rfl) (Or.inr (by kernel_rfl))
def t22 : TI := ⟨1, false, (some (9, 1)), none, [], false, none, (some [.sl 0 true []]), none, none, 0, true⟩
theorem k22 : TIok Tryd.prog 22 t22 := tiOk (by kernel_rfl) (Or.inr (by kernel_rfl))
def t23 : TI := ⟨1, false, (some (25, 4)), none, [], false, none, (some [.sl 0 true []]), none, none, 0, true⟩
theorem k23 : TIok Tryd.prog 23 t23 := tiOk (by kernel_rfl) (Or.inr (by kernel_rfl))
def t25 : TI := ⟨4, true, none, none, [(3, 0, 1), (9, 1, 1), (22, 2, 1), (23, 3, 1)], false, none, (some [.int .i64 0, .str ⟨#[]⟩, .sl 0 true [], .sl 0 true []]), (some [(0, 1), (1, 1), (2, 1), (3, 1)]), none, 0, true⟩
theorem k25 : TIok Tryd.prog 25 t25 := tiOk (by kernel_rfl) (Or.inr (by kernel_rfl))
def t27 : TI := ⟨1, false, none, none, [], false, (some .i64), (some [.int .i64 0]), none, none, 0, true⟩
theorem k27 : TIok Tryd.prog 27 t27 := tiOk (by kernel_rfl) (Or.inr (by kernel_rfl))
def t42 : TI := ⟨1, false, none, none, [], false, none, (some [.nilp]), none, none, 2, true⟩
theorem k42 : TIok Tryd.prog 42 t42 := tiOk (by kernel_rfl) (Or.inr (by kernel_rfl))
def t43 : TI := ⟨1, false, none, none, [], false, none, (some [.nilf]), none, none, 3, true⟩
theorem k43 : TIok Tryd.prog 43 t43 := tiOk (by kernel_rfl) (Or.inr (by kernel_rfl))
def t45 : TI := ⟨1, true, none, none, [(43, 0, 1)], false, none, (some [.nilf]), (some [(0, 1)]), none, 0, true⟩
theorem k45 : TIok Tryd.prog 45 t45 := tiOk (by kernel_rfl) (Or.inr (by kernel_rfl))
def t47 : TI := ⟨1, false, none, none, [], false, none, (some [.nilp]), none, none, 2, true⟩
theorem k47 : TIok Tryd.prog 47 t47 := tiOk (by kernel_rfl) (Or.inr (by kernel_rfl))
def t48 : TI := ⟨1, false, (some (5, 1)), none, [], false, none, (some [.sl 0 true []]), none, none, 0, true⟩
theorem k48 : TIok Tryd.prog 48 t48 := tiOk (by kernel_rfl) (Or.inr (by kernel_rfl))
def t50 : TI := ⟨2, true, none, none, [(47, 0, 1), (48, 1, 1)], false, none, (some [.nilp, .sl 0 true []]), (some [(0, 1), (1, 1)]), none, 0, true⟩
theorem k50 : TIok Tryd.prog 50 t50 := tiOk (by kernel_rfl) (Or.inr (by kernel_rfl))
def t53 : TI := ⟨1, false, none, none, [], false, none, (some [.nili]), none, none, 0, false⟩
theorem k53 : TIok Tryd.prog 53 t53 := tiOk (by kernel_rfl) (Or.inr (by kernel_rfl))
def t65 : TI := ⟨1, false, none, none, [], false, none, (some [.nilp]), none, none, 2, true⟩
theorem k65 : TIok Tryd.prog 65 t65 := tiOk (by kernel_rfl) (Or.inr (by kernel_rfl))
def t67 : TI := ⟨10, true, none, none, [(42, 0, 1), (25, 1, 4), (25, 5, 4), (3, 9, 1)], false, none, (some [.nilp, .int .i64 0, .str ⟨#[]⟩, .sl 0 true [], .sl 0 true [], .int .i64 0, .str ⟨#[]⟩, .sl 0 true [], .sl 0 true [], .int .i64 0]), (some [(0, 1), (1, 4), (5, 4), (9, 1)]), none, 0, true⟩
theorem k67 : TIok Tryd.prog 67 t67 := tiOk (by kernel_rfl) (Or.inr (by kernel_rfl))
def t68 : TI := ⟨1, false, none, none, [], false, none, (some [.nilf]), none, none, 3, true⟩
theorem k68 : TIok Tryd.prog 68 t68 := tiOk (by kernel_rfl) (Or.inr (by kernel_rfl))
def t75 : TI := ⟨1, false, none, none, [], false, none, none, none, none, 0, true⟩
theorem k75 : TIok Tryd.prog 75 t75 := tiOk (by kernel_rfl) (Or.inl rfl)
def t79 : TI := ⟨1, false, (some (81, 2)), none, [], false, none, (some [.sl 0 true []]), none, none, 0, true⟩
theorem k79 : TIok Tryd.prog 79 t79 := tiOk (by kernel_rfl) (Or.inr (by kernel_rfl))
def t81 : TI := ⟨2, true, none, none, [(3, 0, 1), (3, 1, 1)], false, none, (some [.int .i64 0, .int .i64 0]), (some [(0, 1), (1, 1)]), (some [.i, .i]), 0, true⟩
theorem k81 : TIok Tryd.prog 81 t81 := tiOk (by kernel_rfl) (Or.inr (by kernel_rfl))
def t83 : TI := ⟨6, true, none, none, [(79, 0, 1), (81, 1, 2), (3, 3, 1), (22, 4, 1), (3, 5, 1)], false, none, (some [.sl 0 true [], .int .i64 0, .int .i64 0, .int .i64 0, .sl 0 true [], .int .i64 0]), (some [(0, 1), (1, 2), (3, 1), (4, 1), (5, 1)]), none, 0, true⟩
theorem k83 : TIok Tryd.prog 83 t83 := tiOk (by kernel_rfl) (Or.inr (by kernel_rfl))
def t84 : TI := ⟨162, true, none, (some (27, 83, 6)), [], false, none, none, none, none, 0, true⟩
theorem k84 : TIok Tryd.prog 84 t84 := tiOk (by kernel_rfl) (Or.inl rfl)
def t92 : TI := ⟨1, false, none, none, [], false, (some .u64), (some [.int .u64 0]), none, none, 0, true⟩
theorem k92 : TIok Tryd.prog 92 t92 := tiOk (by kernel_rfl) (Or.inr (by kernel_rfl))
def t95 : TI := ⟨1, false, none, none, [], false, (some .u32), (some [.int .u32 0]), none, none, 0, true⟩
theorem k95 : TIok Tryd.prog 95 t95 := tiOk (by kernel_rfl) (Or.inr (by kernel_rfl))
def t98 : TI := ⟨1, false, none, none, [], false, (some .u64), (some [.int .u64 0]), none, none, 0, true⟩
theorem k98 : TIok Tryd.prog 98 t98 := tiOk (by kernel_rfl) (Or.inr (by kernel_rfl))
def t108 : TI := ⟨1, false, none, none, [], false, (some .u8), (some [.int .u8 0]), none, none, 0, true⟩
theorem k108 : TIok Tryd.prog 108 t108 := tiOk (by kernel_rfl) (Or.inr (by kernel_rfl))
def tt : TT := .n none (.n none (.n (some t3) (.n none (.n (some t15) (.n none .z (.n (some t95) .z .z)) (.n (some t47) (.n (some t79) .z .z) .z)) (.n (some t23) .z .z)) (.n (some t11) (.n (some t19) (.n none (.n (some t67) .z .z) .z) (.n none (.n (some t83) .z .z) .z)) (.n (some t27) (.n (some t43) (.n (some t75) .z .z) .z) .z))) (.n (some t5) (.n (some t9) (.n (some t17) (.n none (.n (some t65) .z .z) .z) (.n none (.n (some t81) .z .z) .z)) (.n (some t25) .z .z)) (.n none (.n (some t21) .z (.n (some t53) .z .z)) (.n none (.n (some t45) .z .z) .z)))) (.n (some t2) (.n (some t4) (.n (some t8) (.n (some t16) .z (.n (some t48) .z .z)) .z) (.n (some t12) (.n none (.n none (.n (some t68) .z .z) .z) (.n none (.n (some t84) .z .z) .z)) (.n none (.n none .z (.n (some t108) .z .z)) (.n none (.n (some t92) .z .z) .z)))) (.n (some t6) (.n (some t10) (.n none (.n none .z (.n (some t98) .z .z)) (.n (some t50) .z .z)) (.n none (.n (some t42) .z .z) .z)) (.n (some t14) (.n (some t22) .z .z) .z)))
theorem tt_ok : tt.ok Tryd.prog fun t => t := ⟨fun _ h => (by cases h), ⟨fun _ h => (by cases h), ⟨fun _ h => (by cases h; exact k3), ⟨fun _ h => (by cases h), ⟨fun _ h => (by cases h; exact k15), ⟨fun _ h => (by cases h), trivial, ⟨fun _ h => (by cases h; exact k95), trivial, trivial⟩⟩, ⟨fun _ h => (by cases h; exact k47), ⟨fun _ h => (by cases h; exact k79), trivial, trivial⟩, trivial⟩⟩, ⟨fun _ h => (by cases h; exact k23), trivial, trivial⟩⟩, ⟨fun _ h => (by cases h; exact k11), ⟨fun _ h => (by cases h; exact k19), ⟨fun _ h => (by cases h), ⟨fun _ h => (by cases h; exact k67), trivial, trivial⟩, trivial⟩, ⟨fun _ h => (by cases h), ⟨fun _ h => (by cases h; exact k83), trivial, trivial⟩, trivial⟩⟩, ⟨fun _ h => (by cases h; exact k27), ⟨fun _ h => (by cases h; exact k43), ⟨fun _ h => (by cases h; exact k75), trivial, trivial⟩, trivial⟩, trivial⟩⟩⟩, ⟨fun _ h => (by cases h; exact k5), ⟨fun _ h => (by cases h; exact k9), ⟨fun _ h => (by cases h; exact k17), ⟨fun _ h => (by cases h), ⟨fun _ h => (by cases h; exact k65), trivial, trivial⟩, trivial⟩, ⟨fun _ h => (by cases h), ⟨fun _ h => (by cases h; exact k81), trivial, trivial⟩, trivial⟩⟩, ⟨fun _ h => (by cases h; exact k25), trivial, trivial⟩⟩, ⟨fun _ h => (by cases h), ⟨fun _ h => (by cases h; exact k21), trivial, ⟨fun _ h => (by cases h; exact k53), trivial, trivial⟩⟩, ⟨fun _ h => (by cases h), ⟨fun _ h => (by cases h; exact k45), trivial, trivial⟩, trivial⟩⟩⟩⟩, ⟨fun _ h => (by cases h; exact k2), ⟨fun _ h => (by cases h; exact k4), ⟨fun _ h => (by cases h; exact k8), ⟨fun _ h => (by cases h; exact k16), trivial, ⟨fun _ h => (by cases h; exact k48), trivial, trivial⟩⟩, trivial⟩, ⟨fun _ h => (by cases h; exact k12), ⟨fun _ h => (by cases h), ⟨fun _ h => (by cases h), ⟨fun _ h => (by cases h; exact k68), trivial, trivial⟩, trivial⟩, ⟨fun _ h => (by cases h), ⟨fun _ h => (by cases h; exact k84), trivial, trivial⟩, trivial⟩⟩, ⟨fun _ h => (by cases h), ⟨fun _ h => (by cases h), trivial, ⟨fun _ h => (by cases h; exact k108), trivial, trivial⟩⟩, ⟨fun _ h => (by cases h), ⟨fun _ h => (by cases h; exact k92), trivial, trivial⟩, trivial⟩⟩⟩⟩, ⟨fun _ h => (by cases h; exact k6), ⟨fun _ h => (by cases h; exact k10), ⟨fun _ h => (by cases h), ⟨fun _ h => (by cases h), trivial, ⟨fun _ h => (by cases h; exact k98), trivial, trivial⟩⟩, ⟨fun _ h => (by cases h; exact k50), trivial, trivial⟩⟩, ⟨fun _ h => (by cases h), ⟨fun _ h => (by cases h; exact k42), trivial, trivial⟩, trivial⟩⟩, ⟨fun _ h => (by cases h; exact k14), ⟨fun _ h => (by cases h; exact k22), trivial, trivial⟩, trivial⟩⟩⟩⟩
theorem env : Env Tryd.prog tt := ⟨tt_ok, by kernel_rfl⟩
end Go.Proofs.YtbdhekefhcjhaaaDoorW.Ex
