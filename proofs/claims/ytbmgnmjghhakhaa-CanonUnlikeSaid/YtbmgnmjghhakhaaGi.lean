/-
  MADE BY A PROGRAM: programs that the compiler makes of functions, and that it makes them.
-/
import Derived.Test.YtbmgnmjghhakhaaGs
namespace Vm
open Go
open Go.Proofs
set_option maxRecDepth 100000
/-- cromlech/cromlechlaw08.awake -/
def p31 : Fn := ⟨23, [0, 1, 2, 3, 4, 5, 6, 7, 9, 8, 10, 12, 11, 13, 15, 14, 16, 18, 17, 19, 21, 20, 22],
(.seq
(.reg ⟨[], [], [(0, .v (.c (.bool false)))]⟩)
(.seq
(.reg ⟨[], [([], (.ag [(.c (.sl [])), (.lit [(.c (.int .i64 (-1)))])]))], [(1, .m [(.c (.sl [])), (.lit [(.c (.int .i64 (-1)))])])]⟩)
(.seq
(.reg ⟨[.call 23 [] 35 false false [(.mm 1 0 2), (.ag [(.c (.int .i64 (1))), (.c (.int .i64 (0))), (.c (.int .i64 (0))), (.c (.int .i64 (0))), (.fld (.ag [(.c (.int .i64 (2))), (.c (.int .i64 (1)))]) 0), (.fld (.ag [(.c (.int .i64 (2))), (.c (.int .i64 (1)))]) 1), (.c (.int .u64 (0)))])]], [], [(1, .m [(.fld (.sz (.ext (.s 23) 1) 2) 0), (.fld (.sz (.ext (.s 23) 1) 2) 1)]), (2, .v (.fl (.ext (.s 23) 0))), (3, .v (.fl (.ext (.s 23) 2)))]⟩)
(.seq
(.reg ⟨[.call 24 [] 35 false false [(.mm 1 0 2), (.ag [(.c (.int .i64 (4))), (.c (.int .i64 (0))), (.c (.int .i64 (0))), (.c (.int .i64 (0))), (.c (.int .i64 (0))), (.c (.int .i64 (0))), (.c (.int .u64 (0)))])]], [], [(1, .m [(.fld (.sz (.ext (.s 24) 1) 2) 0), (.fld (.sz (.ext (.s 24) 1) 2) 1)]), (4, .v (.ext (.s 24) 0)), (5, .v (.ext (.s 24) 2))]⟩)
(.seq
(.reg ⟨[.call 25 [] 35 false false [(.mm 1 0 2), (.ag [(.c (.int .i64 (5))), (.c (.int .i64 (0))), (.c (.int .i64 (0))), (.c (.int .i64 (0))), (.c (.int .i64 (0))), (.c (.int .i64 (0))), (.c (.int .u64 (9)))])]], [], [(1, .m [(.fld (.sz (.ext (.s 25) 1) 2) 0), (.fld (.sz (.ext (.s 25) 1) 2) 1)]), (6, .v (.ext (.s 25) 0)), (7, .v (.ext (.s 25) 2))]⟩)
(.seq
(.reg ⟨[.call 26 [] 35 false false [(.mm 1 0 2), (.ag [(.c (.int .i64 (3))), (.c (.int .i64 (0))), (.c (.int .i64 (0))), (.c (.int .i64 (0))), (.c (.int .i64 (0))), (.c (.int .i64 (0))), (.c (.int .u64 (0)))])]], [], [(8, .m [(.fld (.sz (.ext (.s 26) 1) 2) 0), (.fld (.sz (.ext (.s 26) 1) 2) 1)]), (9, .v (.ext (.s 26) 0)), (10, .v (.ext (.s 26) 2))]⟩)
(.seq
(.reg ⟨[.call 27 [] 35 false false [(.mm 1 0 2), (.ag [(.c (.int .i64 (3))), (.c (.int .i64 (0))), (.c (.int .i64 (0))), (.c (.int .i64 (1))), (.c (.int .i64 (0))), (.c (.int .i64 (0))), (.c (.int .u64 (0)))])]], [], [(11, .m [(.fld (.sz (.ext (.s 27) 1) 2) 0), (.fld (.sz (.ext (.s 27) 1) 2) 1)]), (12, .v (.ext (.s 27) 0)), (13, .v (.ext (.s 27) 2))]⟩)
(.seq
(.reg ⟨[.call 28 [] 35 false false [(.mm 1 0 2), (.ag [(.c (.int .i64 (8))), (.c (.int .i64 (0))), (.c (.int .i64 (0))), (.c (.int .i64 (0))), (.c (.int .i64 (0))), (.c (.int .i64 (0))), (.c (.int .u64 (0)))])]], [], [(14, .m [(.fld (.sz (.ext (.s 28) 1) 2) 0), (.fld (.sz (.ext (.s 28) 1) 2) 1)]), (15, .v (.ext (.s 28) 0)), (16, .v (.ext (.s 28) 2))]⟩)
(.seq
(.reg ⟨[.call 29 [] 35 false false [(.mm 1 0 2), (.ag [(.c (.int .i64 (7))), (.c (.int .i64 (0))), (.c (.int .i64 (0))), (.c (.int .i64 (0))), (.c (.int .i64 (0))), (.c (.int .i64 (0))), (.c (.int .u64 (0)))])]], [], [(17, .m [(.fld (.sz (.ext (.s 29) 1) 2) 0), (.fld (.sz (.ext (.s 29) 1) 2) 1)]), (18, .v (.ext (.s 29) 0)), (19, .v (.ext (.s 29) 2))]⟩)
(.seq
(.reg ⟨[.call 30 [] 35 false false [(.mm 17 0 2), (.ag [(.c (.int .i64 (2))), (.c (.int .i64 (0))), (.c (.int .i64 (0))), (.c (.int .i64 (0))), (.c (.int .i64 (0))), (.c (.int .i64 (0))), (.c (.int .u64 (0)))])]], [], [(20, .m [(.fld (.sz (.ext (.s 30) 1) 2) 0), (.fld (.sz (.ext (.s 30) 1) 2) 1)]), (21, .v (.ext (.s 30) 0)), (22, .v (.ext (.s 30) 2))]⟩)
(.seq
(.reg ⟨[.lt 31 [] (.bin .eql (.s 3) (.c (.int .i64 (0)))), .lt 32 [] (.ite (.s 31) (.bin .eql (.s 5) (.c (.int .i64 (0)))) (.c (.bool false))), .lt 33 [] (.ite (.s 32) (.bin .eql (.s 7) (.c (.int .i64 (0)))) (.c (.bool false))), .call 34 [(33, true)] 25 false false [(.mm 1 0 2), (.ag [(.lit [(.ag [(.lit [(.c (.int .i64 (0)))]), (.lit [(.c (.int .u64 (9)))])])]), (.lit [(.c (.int .i64 (0)))])])], .lt 35 [] (.ite (.s 33) (.s 34) (.c (.bool false))), .lt 36 [] (.ite (.s 35) (.bin .eql (.s 10) (.c (.int .i64 (0)))) (.c (.bool false))), .lt 37 [] (.ite (.s 36) (.bin .eql (.s 9) (.c (.int .u64 (9)))) (.c (.bool false))), .lt 38 [] (.ite (.s 37) (.bin .eql (.s 13) (.c (.int .i64 (1)))) (.c (.bool false))), .lt 39 [] (.ite (.s 38) (.bin .eql (.s 16) (.c (.int .i64 (1)))) (.c (.bool false))), .lt 40 [] (.ite (.s 39) (.bin .eql (.s 19) (.c (.int .i64 (0)))) (.c (.bool false))), .lt 41 [] (.ite (.s 40) (.bin .eql (.s 22) (.c (.int .i64 (6)))) (.c (.bool false))), .call 42 [(41, true)] 28 false false [(.mm 1 0 2)], .lt 43 [] (.ite (.s 41) (.s 42) (.c (.bool false))), .call 44 [(43, true)] 29 false false [(.mm 1 0 2)], .lt 45 [] (.ite (.s 43) (.bin .eql (.s 44) (.c (.int .i64 (3)))) (.c (.bool false))), .call 46 [(45, true)] 28 false false [(.ag [(.c (.sl [])), (.lit [(.c (.int .i64 (0)))])])]], [([(31, true)], (.bin .eql (.s 5) (.c (.int .i64 (0))))), ([(32, true)], (.bin .eql (.s 7) (.c (.int .i64 (0))))), ([(35, true)], (.bin .eql (.s 10) (.c (.int .i64 (0))))), ([(36, true)], (.bin .eql (.s 9) (.c (.int .u64 (9))))), ([(37, true)], (.bin .eql (.s 13) (.c (.int .i64 (1))))), ([(38, true)], (.bin .eql (.s 16) (.c (.int .i64 (1))))), ([(39, true)], (.bin .eql (.s 19) (.c (.int .i64 (0))))), ([(40, true)], (.bin .eql (.s 22) (.c (.int .i64 (6))))), ([(43, true)], (.bin .eql (.s 44) (.c (.int .i64 (3))))), ([(45, true)], (.un .not (.s 46)))], [(0, .v (.ite (.s 45) (.un .not (.s 46)) (.c (.bool false))))]⟩)
.ret))))))))))),
[(0, .v)]⟩
theorem c31 : compFn Try.prog fresh sig [] [] Try.f31 = some p31 := by kernel_rfl
end Vm
