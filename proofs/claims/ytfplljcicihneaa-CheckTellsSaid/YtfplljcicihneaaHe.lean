/-
  MADE BY A PROGRAM: programs that the compiler makes of functions, and that it makes them.
-/
import Derived.Test.YtfplljcicihneaaGs
namespace Vm
open Go
open Go.Proofs
set_option maxRecDepth 100000
/-- cromlech/cromlechlaw11.Heap -/
def p16 : Fn := ⟨5, [0, 1, 2, 3, 10],
(.seq
(.reg ⟨[], [], [(1, .m [(.fld (.sz (.s 0) 7) 0), (.fld (.sz (.s 0) 7) 1), (.fld (.sz (.s 0) 7) 2), (.fld (.sz (.s 0) 7) 3), (.fld (.sz (.s 0) 7) 4), (.fld (.sz (.s 0) 7) 5), (.fld (.sz (.s 0) 7) 6)]), (2, .m [(.c (.int .u64 (0))), (.c (.int .i64 (0))), (.c (.int .i64 (0))), (.c (.bool false)), (.c (.int .i64 (0))), (.c (.sl [])), (.c (.sl [])), (.c (.sl [])), (.c (.sl [])), (.c (.sl []))])]⟩)
(.seq
(.reg ⟨[.call 5 [] (.id 51) false false [(.mm 1 0 7), (.c (.bool true))]], [], [(3, .m [(.fld (.sz (.s 5) 14) 0), (.fld (.sz (.s 5) 14) 1), (.fld (.sz (.s 5) 14) 2), (.fld (.sz (.s 5) 14) 3), (.fld (.sz (.s 5) 14) 4), (.fld (.sz (.s 5) 14) 5), (.fld (.sz (.s 5) 14) 6), (.fld (.sz (.s 5) 14) 7), (.fld (.sz (.s 5) 14) 8), (.fld (.sz (.s 5) 14) 9), (.fld (.sz (.s 5) 14) 10), (.fld (.sz (.s 5) 14) 11), (.fld (.sz (.s 5) 14) 12), (.fld (.sz (.s 5) 14) 13)])]⟩)
(.seq
(.seq
(.reg ⟨[], [], [(4, .v (.bin .eql (.len (.m 3 5)) (.c (.int .i64 (0)))))]⟩)
(.cond (.s 4)
 (.seq
 (.reg ⟨[.call 6 [] (.id 45) false false [(.mm 1 0 7)]], [], [(2, .m [(.fld (.sz (.s 6) 10) 0), (.fld (.sz (.s 6) 10) 1), (.fld (.sz (.s 6) 10) 2), (.fld (.sz (.s 6) 10) 3), (.fld (.sz (.s 6) 10) 4), (.fld (.sz (.s 6) 10) 5), (.fld (.sz (.s 6) 10) 6), (.fld (.sz (.s 6) 10) 7), (.fld (.sz (.s 6) 10) 8), (.fld (.sz (.s 6) 10) 9)])]⟩)
 .ret)
 .skip))
(.seq
(.reg ⟨[.call 7 [] (.id 52) false false [(.mm 3 0 14), (.mm 1 0 7)]], [], [(2, .m [(.fld (.sz (.s 7) 10) 0), (.fld (.sz (.s 7) 10) 1), (.fld (.sz (.s 7) 10) 2), (.fld (.sz (.s 7) 10) 3), (.fld (.sz (.s 7) 10) 4), (.fld (.sz (.s 7) 10) 5), (.fld (.sz (.s 7) 10) 6), (.fld (.sz (.s 7) 10) 7), (.fld (.sz (.s 7) 10) 8), (.fld (.sz (.s 7) 10) 9)])]⟩)
.ret)))),
[(2, (.ag 10))]⟩
theorem c16 : compFn Try.prog fresh sig [.fz] [] Try.f16 = some p16 := by kernel_rfl
/-- cromlech/cromlechlaw11.Still -/
def p45 : Fn := ⟨3, [0, 1, 2],
(.seq
(.reg ⟨[], [], [(1, .m [(.fld (.sz (.s 0) 7) 0), (.fld (.sz (.s 0) 7) 1), (.fld (.sz (.s 0) 7) 2), (.fld (.sz (.s 0) 7) 3), (.fld (.sz (.s 0) 7) 4), (.fld (.sz (.s 0) 7) 5), (.fld (.sz (.s 0) 7) 6)]), (2, .m [(.c (.int .u64 (0))), (.c (.int .i64 (0))), (.c (.int .i64 (0))), (.c (.bool false)), (.c (.int .i64 (0))), (.c (.sl [])), (.c (.sl [])), (.c (.sl [])), (.c (.sl [])), (.c (.sl []))])]⟩)
(.seq
(.reg ⟨[.call 3 [] (.id 51) false false [(.mm 1 0 7), (.c (.bool false))], .call 4 [] (.id 52) false false [(.s 3), (.mm 1 0 7)]], [], [(2, .m [(.fld (.sz (.s 4) 10) 0), (.fld (.sz (.s 4) 10) 1), (.fld (.sz (.s 4) 10) 2), (.fld (.sz (.s 4) 10) 3), (.fld (.sz (.s 4) 10) 4), (.fld (.sz (.s 4) 10) 5), (.fld (.sz (.s 4) 10) 6), (.fld (.sz (.s 4) 10) 7), (.fld (.sz (.s 4) 10) 8), (.fld (.sz (.s 4) 10) 9)])]⟩)
.ret)),
[(2, (.ag 10))]⟩
theorem c45 : compFn Try.prog fresh sig [.fz] [] Try.f45 = some p45 := by kernel_rfl
/-- cromlech/cromlechlaw11.stand -/
def p51 : Fn := ⟨19, [0, 1, 2, 4, 5, 6, 7, 8, 26, 9, 10, 11, 12, 13, 57, 81, 14, 82, 165],
(.seq
(.reg ⟨[], [], [(2, .m [(.fld (.sz (.s 0) 7) 0), (.fld (.sz (.s 0) 7) 1), (.fld (.sz (.s 0) 7) 2), (.fld (.sz (.s 0) 7) 3), (.fld (.sz (.s 0) 7) 4), (.fld (.sz (.s 0) 7) 5), (.fld (.sz (.s 0) 7) 6)]), (3, .m [(.c (.int .u64 (0))), (.c (.int .i64 (0))), (.c (.int .i64 (0))), (.c (.bool false)), (.c (.int .i64 (0))), (.c (.sl [])), (.c (.sl [])), (.c (.sl [])), (.c (.sl [])), (.c (.sl [])), (.c (.sl [])), (.c (.sl [])), (.c (.sl [])), (.c (.sl []))])]⟩)
(.seq
(.reg ⟨[.call 19 [] (.id 84) false false [(.m 2 0), (.m 2 1)]], [([], (.ag [(.c (.int .u64 (0))), (.c (.int .i64 (0))), (.c (.int .i64 (0))), (.c (.bool false)), (.c (.int .i64 (0))), (.c (.sl [])), (.c (.sl [])), (.c (.sl [])), (.c (.sl [])), (.c (.sl [])), (.fld (.sz (.s 19) 2) 0), (.fld (.sz (.s 19) 2) 1), (.c (.sl [])), (.c (.sl []))]))], [(4, .m [(.c (.int .u64 (0))), (.c (.int .i64 (0))), (.c (.int .i64 (0))), (.c (.bool false)), (.c (.int .i64 (0))), (.c (.sl [])), (.c (.sl [])), (.c (.sl [])), (.c (.sl [])), (.c (.sl [])), (.fld (.sz (.s 19) 2) 0), (.fld (.sz (.s 19) 2) 1), (.c (.sl [])), (.c (.sl []))])]⟩)
(.seq
(.reg ⟨[], [], [(5, .m [(.c (.int .i64 (0))), (.c (.int .i64 (0))), (.c (.int .i64 (0))), (.c (.int .i64 (0))), (.c (.int .i64 (0)))])]⟩)
(.seq
(.reg ⟨[], [], [(6, .v (.c (.int .i64 (0))))]⟩)
(.seq
(.seq
(.reg ⟨[], [], [(7, .v (.c (.int .i64 (0))))]⟩)
(.block 0
 (.loop [0, 1, 2, 3, 4, 5, 6, 7]
  (.seq
  (.seq
  (.reg ⟨[], [], [(8, .v (.bin .lss (.s 7) (.len (.m 4 10))))]⟩)
  (.cond (.s 8)
   .skip
   (.exit 0)))
  (.seq
  (.block 1
   (.seq
   (.reg ⟨[.call 20 [] (.id 85) false false [(.mm 2 0 7), (.s 7), (.s 1)]], [], [(9, .v (.ext (.s 20) 0)), (10, .v (.ext (.s 20) 1))]⟩)
   (.seq
   (.reg ⟨[], [], [(11, .v (.bin .add (.bin .add (.c (.int .i64 (1))) (.len (.fld (.idx (.m 4 10) (.s 7) 2) 0))) (.len (.fld (.idx (.m 4 10) (.s 7) 2) 1))))]⟩)
   (.seq
   (.reg ⟨[], [], [(12, .m [(.fld (.ag [(.c (.int .i64 (0))), (.c (.int .i64 (0)))]) 0), (.fld (.ag [(.c (.int .i64 (0))), (.c (.int .i64 (0)))]) 1)])]⟩)
   (.seq
   (.reg ⟨[], [], [(13, .m [(.fld (.ag [(.c (.int .i64 (0))), (.c (.int .i64 (0)))]) 0), (.fld (.ag [(.c (.int .i64 (0))), (.c (.int .i64 (0)))]) 1)])]⟩)
   (.seq
   (.seq
   (.reg ⟨[], [], [(14, .v (.bin .lss (.s 9) (.c (.int .i64 (2)))))]⟩)
   (.cond (.s 14)
    (.seq
    (.reg ⟨[], [([], (.ai (.c (.agg [(.bool true), (.bool true), (.bool true), (.bool true), (.bool true)])) (.bin .sub (.c (.int .i64 (2))) (.s 9)) 5 1 false))], [(12, .m [(.fld (.ag [(.bin .sub (.c (.int .i64 (2))) (.s 9)), (.one (.ai (.mm 5 0 5) (.bin .sub (.c (.int .i64 (2))) (.s 9)) 5 1 false))]) 0), (.fld (.ag [(.bin .sub (.c (.int .i64 (2))) (.s 9)), (.one (.ai (.mm 5 0 5) (.bin .sub (.c (.int .i64 (2))) (.s 9)) 5 1 false))]) 1)])]⟩)
    (.reg ⟨[], [([], (.ai (.c (.agg [(.bool true), (.bool true), (.bool true), (.bool true), (.bool true)])) (.bin .sub (.c (.int .i64 (2))) (.s 9)) 5 1 false))], [(5, .m [(.fld (.aput (.mm 5 0 5) (.bin .sub (.c (.int .i64 (2))) (.s 9)) 5 1 (.bin .add (.ai (.mm 5 0 5) (.bin .sub (.c (.int .i64 (2))) (.s 9)) 5 1 false) (.s 11))) 0), (.fld (.aput (.mm 5 0 5) (.bin .sub (.c (.int .i64 (2))) (.s 9)) 5 1 (.bin .add (.ai (.mm 5 0 5) (.bin .sub (.c (.int .i64 (2))) (.s 9)) 5 1 false) (.s 11))) 1), (.fld (.aput (.mm 5 0 5) (.bin .sub (.c (.int .i64 (2))) (.s 9)) 5 1 (.bin .add (.ai (.mm 5 0 5) (.bin .sub (.c (.int .i64 (2))) (.s 9)) 5 1 false) (.s 11))) 2), (.fld (.aput (.mm 5 0 5) (.bin .sub (.c (.int .i64 (2))) (.s 9)) 5 1 (.bin .add (.ai (.mm 5 0 5) (.bin .sub (.c (.int .i64 (2))) (.s 9)) 5 1 false) (.s 11))) 3), (.fld (.aput (.mm 5 0 5) (.bin .sub (.c (.int .i64 (2))) (.s 9)) 5 1 (.bin .add (.ai (.mm 5 0 5) (.bin .sub (.c (.int .i64 (2))) (.s 9)) 5 1 false) (.s 11))) 4)])]⟩))
    (.reg ⟨[], [], [(6, .v (.bin .add (.s 6) (.s 11)))]⟩)))
   (.seq
   (.seq
   (.reg ⟨[.lt 21 [] (.bin .gtr (.s 9) (.c (.int .i64 (0))))], [], [(15, .v (.ite (.s 21) (.s 1) (.c (.bool false))))]⟩)
   (.cond (.s 15)
    (.seq
    (.reg ⟨[], [], [(16, .v (.c (.int .i64 (3))))]⟩)
    (.seq
    (.seq
    (.reg ⟨[], [], [(17, .v (.s 10))]⟩)
    (.cond (.s 17)
     (.reg ⟨[], [], [(16, .v (.c (.int .i64 (4))))]⟩)
     .skip))
    (.seq
    (.reg ⟨[], [([], (.ai (.c (.agg [(.bool true), (.bool true), (.bool true), (.bool true), (.bool true)])) (.s 16) 5 1 false))], [(13, .m [(.fld (.ag [(.one (.s 16)), (.one (.ai (.mm 5 0 5) (.s 16) 5 1 false))]) 0), (.fld (.ag [(.one (.s 16)), (.one (.ai (.mm 5 0 5) (.s 16) 5 1 false))]) 1)])]⟩)
    (.reg ⟨[], [([], (.ai (.c (.agg [(.bool true), (.bool true), (.bool true), (.bool true), (.bool true)])) (.s 16) 5 1 false))], [(5, .m [(.fld (.aput (.mm 5 0 5) (.s 16) 5 1 (.bin .add (.ai (.mm 5 0 5) (.s 16) 5 1 false) (.s 11))) 0), (.fld (.aput (.mm 5 0 5) (.s 16) 5 1 (.bin .add (.ai (.mm 5 0 5) (.s 16) 5 1 false) (.s 11))) 1), (.fld (.aput (.mm 5 0 5) (.s 16) 5 1 (.bin .add (.ai (.mm 5 0 5) (.s 16) 5 1 false) (.s 11))) 2), (.fld (.aput (.mm 5 0 5) (.s 16) 5 1 (.bin .add (.ai (.mm 5 0 5) (.s 16) 5 1 false) (.s 11))) 3), (.fld (.aput (.mm 5 0 5) (.s 16) 5 1 (.bin .add (.ai (.mm 5 0 5) (.s 16) 5 1 false) (.s 11))) 4)])]⟩))))
    .skip))
   (.seq
   (.reg ⟨[], [], [(4, .m [(.m 4 0), (.m 4 1), (.m 4 2), (.m 4 3), (.m 4 4), (.m 4 5), (.m 4 6), (.m 4 7), (.m 4 8), (.m 4 9), (.m 4 10), (.m 4 11), (.app (.m 4 12) (.lit [(.mm 12 0 2)]) 2), (.m 4 13)])]⟩)
   (.reg ⟨[], [], [(4, .m [(.m 4 0), (.m 4 1), (.m 4 2), (.m 4 3), (.m 4 4), (.m 4 5), (.m 4 6), (.m 4 7), (.m 4 8), (.m 4 9), (.m 4 10), (.m 4 11), (.m 4 12), (.app (.m 4 13) (.lit [(.mm 13 0 2)]) 2)])]⟩)))))))))
  (.reg ⟨[], [], [(7, .v (.bin .add (.s 7) (.c (.int .i64 (1)))))]⟩))))))
(.seq
(.reg ⟨[.call 22 [] (.id 29) false false [(.m 2 6), (.c (.int .i64 (2)))]], [([], (.ai (.c (.agg [(.bool true), (.bool true), (.bool true), (.bool true), (.bool true)])) (.c (.int .i64 (1))) 5 1 false)), ([], (.ai (.c (.agg [(.bool true), (.bool true), (.bool true), (.bool true), (.bool true)])) (.c (.int .i64 (2))) 5 1 false)), ([], (.ai (.c (.agg [(.bool true), (.bool true), (.bool true), (.bool true), (.bool true)])) (.c (.int .i64 (3))) 5 1 false)), ([], (.ai (.c (.agg [(.bool true), (.bool true), (.bool true), (.bool true), (.bool true)])) (.c (.int .i64 (4))) 5 1 false)), ([], (.ag [(.c (.int .u64 (0))), (.c (.int .i64 (0))), (.one (.s 22)), (.one (.s 1)), (.c (.int .i64 (0))), (.mk (.int .u64 (0)) (.ai (.mm 5 0 5) (.c (.int .i64 (1))) 5 1 false)), (.mk (.int .u64 (0)) (.ai (.mm 5 0 5) (.c (.int .i64 (2))) 5 1 false)), (.mk (.int .u64 (0)) (.ai (.mm 5 0 5) (.c (.int .i64 (3))) 5 1 false)), (.mk (.int .u64 (0)) (.ai (.mm 5 0 5) (.c (.int .i64 (4))) 5 1 false)), (.c (.sl []))]))], [(4, .m [(.c (.int .u64 (0))), (.c (.int .i64 (0))), (.one (.s 22)), (.one (.s 1)), (.c (.int .i64 (0))), (.mk (.int .u64 (0)) (.ai (.mm 5 0 5) (.c (.int .i64 (1))) 5 1 false)), (.mk (.int .u64 (0)) (.ai (.mm 5 0 5) (.c (.int .i64 (2))) 5 1 false)), (.mk (.int .u64 (0)) (.ai (.mm 5 0 5) (.c (.int .i64 (3))) 5 1 false)), (.mk (.int .u64 (0)) (.ai (.mm 5 0 5) (.c (.int .i64 (4))) 5 1 false)), (.c (.sl [])), (.m 4 10), (.m 4 11), (.m 4 12), (.m 4 13)])]⟩)
(.seq
(.reg ⟨[.call 23 [] (.id 29) false false [(.m 2 4), (.c (.int .i64 (12)))]], [([], (.ai (.c (.agg [(.bool true), (.bool true), (.bool true), (.bool true), (.bool true)])) (.c (.int .i64 (1))) 5 1 false)), ([], (.ai (.c (.agg [(.bool true), (.bool true), (.bool true), (.bool true), (.bool true)])) (.c (.int .i64 (2))) 5 1 false)), ([], (.ai (.c (.agg [(.bool true), (.bool true), (.bool true), (.bool true), (.bool true)])) (.c (.int .i64 (3))) 5 1 false)), ([], (.ai (.c (.agg [(.bool true), (.bool true), (.bool true), (.bool true), (.bool true)])) (.c (.int .i64 (4))) 5 1 false))], [(4, .m [(.m 4 0), (.bin .add (.mx (.bin .add (.bin .add (.ai (.mm 5 0 5) (.c (.int .i64 (1))) 5 1 false) (.ai (.mm 5 0 5) (.c (.int .i64 (2))) 5 1 false)) (.s 6)) (.bin .add (.ai (.mm 5 0 5) (.c (.int .i64 (3))) 5 1 false) (.ai (.mm 5 0 5) (.c (.int .i64 (4))) 5 1 false))) (.s 23)), (.m 4 2), (.m 4 3), (.m 4 4), (.m 4 5), (.m 4 6), (.m 4 7), (.m 4 8), (.m 4 9), (.m 4 10), (.m 4 11), (.m 4 12), (.m 4 13)])]⟩)
(.seq
(.reg ⟨[], [], [(4, .m [(.bin .add (.c (.int .u64 (1))) (.bin .rem (.m 2 3) (.bin .sub (.c (.int .u64 (9223372036854775808))) (.bin .mul (.c (.int .u64 (2))) (.conv .u64 (.m 4 1)))))), (.m 4 1), (.m 4 2), (.m 4 3), (.m 4 4), (.m 4 5), (.m 4 6), (.m 4 7), (.m 4 8), (.m 4 9), (.m 4 10), (.m 4 11), (.m 4 12), (.m 4 13)])]⟩)
(.seq
(.reg ⟨[], [([], (.ai (.c (.agg [(.bool true), (.bool true), (.bool true), (.bool true), (.bool true)])) (.c (.int .i64 (1))) 5 1 false))], [(4, .m [(.m 4 0), (.m 4 1), (.m 4 2), (.m 4 3), (.one (.ai (.mm 5 0 5) (.c (.int .i64 (1))) 5 1 false)), (.m 4 5), (.m 4 6), (.m 4 7), (.m 4 8), (.m 4 9), (.m 4 10), (.m 4 11), (.m 4 12), (.m 4 13)])]⟩)
(.seq
(.seq
(.reg ⟨[.lt 24 [] (.s 1)], [([(24, true)], (.ai (.c (.agg [(.bool true), (.bool true), (.bool true), (.bool true), (.bool true)])) (.c (.int .i64 (1))) 5 1 false)), ([(24, true)], (.bin .gtr (.ai (.mm 5 0 5) (.c (.int .i64 (1))) 5 1 false) (.c (.int .i64 (0)))))], [(18, .v (.ite (.s 24) (.bin .gtr (.ai (.mm 5 0 5) (.c (.int .i64 (1))) 5 1 false) (.c (.int .i64 (0)))) (.c (.bool false))))]⟩)
(.cond (.s 18)
 (.reg ⟨[.call 25 [] (.id 29) false false [(.m 2 5), (.ai (.mm 5 0 5) (.c (.int .i64 (1))) 5 1 false)]], [([], (.ai (.c (.agg [(.bool true), (.bool true), (.bool true), (.bool true), (.bool true)])) (.c (.int .i64 (1))) 5 1 false))], [(4, .m [(.m 4 0), (.m 4 1), (.m 4 2), (.m 4 3), (.one (.s 25)), (.m 4 5), (.m 4 6), (.m 4 7), (.m 4 8), (.m 4 9), (.m 4 10), (.m 4 11), (.m 4 12), (.m 4 13)])]⟩)
 .skip))
(.seq
(.reg ⟨[], [], [(3, .m [(.fld (.mm 4 0 14) 0), (.fld (.mm 4 0 14) 1), (.fld (.mm 4 0 14) 2), (.fld (.mm 4 0 14) 3), (.fld (.mm 4 0 14) 4), (.fld (.mm 4 0 14) 5), (.fld (.mm 4 0 14) 6), (.fld (.mm 4 0 14) 7), (.fld (.mm 4 0 14) 8), (.fld (.mm 4 0 14) 9), (.fld (.mm 4 0 14) 10), (.fld (.mm 4 0 14) 11), (.fld (.mm 4 0 14) 12), (.fld (.mm 4 0 14) 13)])]⟩)
.ret))))))))))),
[(3, (.ag 14))]⟩
theorem c51 : compFn Try.prog fresh sig [.fz, .fz] [] Try.f51 = some p51 := by kernel_rfl
/-- cromlech/cromlechlaw11.fill -/
def p52 : Fn := ⟨17, [0, 1, 2, 3, 4, 5, 16, 6, 31, 59, 83, 7, 8, 9, 125, 10, 134],
(.seq
(.reg ⟨[], [], [(2, .m [(.fld (.sz (.s 0) 14) 0), (.fld (.sz (.s 0) 14) 1), (.fld (.sz (.s 0) 14) 2), (.fld (.sz (.s 0) 14) 3), (.fld (.sz (.s 0) 14) 4), (.fld (.sz (.s 0) 14) 5), (.fld (.sz (.s 0) 14) 6), (.fld (.sz (.s 0) 14) 7), (.fld (.sz (.s 0) 14) 8), (.fld (.sz (.s 0) 14) 9), (.fld (.sz (.s 0) 14) 10), (.fld (.sz (.s 0) 14) 11), (.fld (.sz (.s 0) 14) 12), (.fld (.sz (.s 0) 14) 13)]), (3, .m [(.fld (.sz (.s 1) 7) 0), (.fld (.sz (.s 1) 7) 1), (.fld (.sz (.s 1) 7) 2), (.fld (.sz (.s 1) 7) 3), (.fld (.sz (.s 1) 7) 4), (.fld (.sz (.s 1) 7) 5), (.fld (.sz (.s 1) 7) 6)]), (4, .m [(.c (.int .u64 (0))), (.c (.int .i64 (0))), (.c (.int .i64 (0))), (.c (.bool false)), (.c (.int .i64 (0))), (.c (.sl [])), (.c (.sl [])), (.c (.sl [])), (.c (.sl [])), (.c (.sl []))])]⟩)
(.seq
(.seq
(.reg ⟨[], [], [(5, .v (.c (.int .i64 (0))))]⟩)
(.block 0
 (.loop [0, 1, 2, 3, 4, 5]
  (.seq
  (.seq
  (.reg ⟨[], [], [(6, .v (.bin .lss (.s 5) (.len (.m 2 10))))]⟩)
  (.cond (.s 6)
   .skip
   (.exit 0)))
  (.seq
  (.block 1
   (.seq
   (.reg ⟨[], [], [(7, .m [(.fld (.flds (.idx (.m 2 10) (.s 5) 2) 0 2) 0), (.fld (.flds (.idx (.m 2 10) (.s 5) 2) 0 2) 1)])]⟩)
   (.seq
   (.seq
   (.reg ⟨[], [], [(8, .v (.bin .gtr (.fld (.idx (.m 2 12) (.s 5) 2) 0) (.c (.int .i64 (0)))))]⟩)
   (.cond (.s 8)
    (.reg ⟨[.call 17 [] (.id 86) false false [(.mm 2 0 14), (.flds (.idx (.m 2 12) (.s 5) 2) 0 2), (.mm 7 0 2), (.bin .add (.m 3 4) (.s 5))]], [], [(2, .m [(.fld (.sz (.s 17) 14) 0), (.fld (.sz (.s 17) 14) 1), (.fld (.sz (.s 17) 14) 2), (.fld (.sz (.s 17) 14) 3), (.fld (.sz (.s 17) 14) 4), (.fld (.sz (.s 17) 14) 5), (.fld (.sz (.s 17) 14) 6), (.fld (.sz (.s 17) 14) 7), (.fld (.sz (.s 17) 14) 8), (.fld (.sz (.s 17) 14) 9), (.fld (.sz (.s 17) 14) 10), (.fld (.sz (.s 17) 14) 11), (.fld (.sz (.s 17) 14) 12), (.fld (.sz (.s 17) 14) 13)])]⟩)
    .skip))
   (.seq
   (.seq
   (.reg ⟨[.lt 18 [] (.bin .gtr (.fld (.idx (.m 2 13) (.s 5) 2) 0) (.c (.int .i64 (0))))], [([(18, true)], (.bin .eql (.fld (.idx (.m 2 12) (.s 5) 2) 0) (.c (.int .i64 (0)))))], [(9, .v (.ite (.s 18) (.bin .eql (.fld (.idx (.m 2 12) (.s 5) 2) 0) (.c (.int .i64 (0)))) (.c (.bool false))))]⟩)
   (.cond (.s 9)
    (.reg ⟨[.call 19 [] (.id 86) false false [(.mm 2 0 14), (.flds (.idx (.m 2 13) (.s 5) 2) 0 2), (.mm 7 0 2), (.c (.int .i64 (0)))]], [], [(2, .m [(.fld (.sz (.s 19) 14) 0), (.fld (.sz (.s 19) 14) 1), (.fld (.sz (.s 19) 14) 2), (.fld (.sz (.s 19) 14) 3), (.fld (.sz (.s 19) 14) 4), (.fld (.sz (.s 19) 14) 5), (.fld (.sz (.s 19) 14) 6), (.fld (.sz (.s 19) 14) 7), (.fld (.sz (.s 19) 14) 8), (.fld (.sz (.s 19) 14) 9), (.fld (.sz (.s 19) 14) 10), (.fld (.sz (.s 19) 14) 11), (.fld (.sz (.s 19) 14) 12), (.fld (.sz (.s 19) 14) 13)])]⟩)
    .skip))
   (.seq
   (.reg ⟨[.lt 20 [] (.bin .gtr (.fld (.idx (.m 2 13) (.s 5) 2) 0) (.c (.int .i64 (0))))], [([(20, true)], (.bin .gtr (.fld (.idx (.m 2 12) (.s 5) 2) 0) (.c (.int .i64 (0)))))], [(10, .v (.ite (.s 20) (.bin .gtr (.fld (.idx (.m 2 12) (.s 5) 2) 0) (.c (.int .i64 (0)))) (.c (.bool false))))]⟩)
   (.cond (.s 10)
    (.seq
    (.reg ⟨[.call 21 [] (.id 28) false false [(.mm 2 0 10), (.fld (.idx (.m 2 13) (.s 5) 2) 0)]], [], [(11, .v (.app (.c (.sl [])) (.s 21) 1))]⟩)
    (.seq
    (.reg ⟨[.call 22 [] (.id 87) false false [(.mm 2 0 14), (.flds (.idx (.m 2 12) (.s 5) 2) 0 2)]], [([], (.idx (.s 11) (.fld (.idx (.m 2 13) (.s 5) 2) 1) 1))], [(11, .v (.upd (.s 11) (.fld (.idx (.m 2 13) (.s 5) 2) 1) 0 (.one (.s 22))))]⟩)
    (.reg ⟨[.call 23 [] (.id 27) false false [(.mm 2 0 10), (.fld (.idx (.m 2 13) (.s 5) 2) 0), (.s 11)]], [], [(2, .m [(.fld (.sz (.s 23) 10) 0), (.fld (.sz (.s 23) 10) 1), (.fld (.sz (.s 23) 10) 2), (.fld (.sz (.s 23) 10) 3), (.fld (.sz (.s 23) 10) 4), (.fld (.sz (.s 23) 10) 5), (.fld (.sz (.s 23) 10) 6), (.fld (.sz (.s 23) 10) 7), (.fld (.sz (.s 23) 10) 8), (.fld (.sz (.s 23) 10) 9), (.m 2 10), (.m 2 11), (.m 2 12), (.m 2 13)])]⟩)))
    .skip))))))
  (.reg ⟨[], [], [(5, .v (.bin .add (.s 5) (.c (.int .i64 (1)))))]⟩))))))
(.seq
(.reg ⟨[], [], [(12, .v (.c (.sl [])))]⟩)
(.seq
(.seq
(.reg ⟨[], [], [(13, .v (.c (.int .i64 (0))))]⟩)
(.block 2
 (.loop [0, 1, 2, 3, 4, 5, 6, 12, 13]
  (.seq
  (.seq
  (.reg ⟨[], [], [(14, .v (.bin .lss (.s 13) (.len (.m 2 11))))]⟩)
  (.cond (.s 14)
   .skip
   (.exit 2)))
  (.seq
  (.block 3
   (.seq
   (.reg ⟨[], [], [(15, .v (.c (.int .u64 (0))))]⟩)
   (.seq
   (.seq
   (.reg ⟨[], [], [(16, .v (.bin .geq (.fld (.idx (.m 2 11) (.s 13) 1) 0) (.c (.int .i64 (0)))))]⟩)
   (.cond (.s 16)
    (.reg ⟨[.call 24 [] (.id 87) false false [(.mm 2 0 14), (.flds (.idx (.m 2 12) (.fld (.idx (.m 2 11) (.s 13) 1) 0) 2) 0 2)]], [], [(15, .v (.s 24))]⟩)
    .skip))
   (.reg ⟨[], [], [(12, .v (.app (.s 12) (.lit [(.one (.s 15))]) 1))]⟩))))
  (.reg ⟨[], [], [(13, .v (.bin .add (.s 13) (.c (.int .i64 (1)))))]⟩))))))
(.seq
(.reg ⟨[], [], [(2, .m [(.m 2 0), (.m 2 1), (.m 2 2), (.m 2 3), (.m 2 4), (.m 2 5), (.m 2 6), (.m 2 7), (.m 2 8), (.one (.s 12)), (.m 2 10), (.m 2 11), (.m 2 12), (.m 2 13)])]⟩)
(.seq
(.reg ⟨[], [], [(4, .m [(.fld (.mm 2 0 10) 0), (.fld (.mm 2 0 10) 1), (.fld (.mm 2 0 10) 2), (.fld (.mm 2 0 10) 3), (.fld (.mm 2 0 10) 4), (.fld (.mm 2 0 10) 5), (.fld (.mm 2 0 10) 6), (.fld (.mm 2 0 10) 7), (.fld (.mm 2 0 10) 8), (.fld (.mm 2 0 10) 9)])]⟩)
.ret)))))),
[(4, (.ag 10))]⟩
theorem c52 : compFn Try.prog fresh sig [.fz, .fz] [] Try.f52 = some p52 := by kernel_rfl
end Vm
