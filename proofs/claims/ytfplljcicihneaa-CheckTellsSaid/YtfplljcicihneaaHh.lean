/-
  MADE BY A PROGRAM: programs that the compiler makes of functions, and that it makes them.
-/
import Derived.Test.YtfplljcicihneaaGs
namespace Vm
open Go
open Go.Proofs
set_option maxRecDepth 100000
/-- cromlech/cromlechlaw10.Heap -/
def p17 : Fn := ⟨7, [0, 1, 2, 4, 6, 7, 8],
(.seq
(.reg ⟨[], [], [(3, .m [(.fld (.sz (.s 1) 6) 0), (.fld (.sz (.s 1) 6) 1), (.fld (.sz (.s 1) 6) 2), (.fld (.sz (.s 1) 6) 3), (.fld (.sz (.s 1) 6) 4), (.fld (.sz (.s 1) 6) 5)]), (4, .m [(.c (.int .u64 (0))), (.c (.int .i64 (0))), (.c (.int .i64 (0))), (.c (.bool false)), (.c (.int .i64 (0))), (.c (.sl [])), (.c (.sl [])), (.c (.sl [])), (.c (.sl [])), (.c (.sl []))])]⟩)
(.seq
(.reg ⟨[.call 7 [] (.id 48) false false [(.s 0), (.mm 3 0 6)]], [], [(5, .m [(.fld (.sz (.s 7) 7) 0), (.fld (.sz (.s 7) 7) 1), (.fld (.sz (.s 7) 7) 2), (.fld (.sz (.s 7) 7) 3), (.fld (.sz (.s 7) 7) 4), (.fld (.sz (.s 7) 7) 5), (.fld (.sz (.s 7) 7) 6)])]⟩)
(.seq
(.reg ⟨[], [([], (.ag [(.m 5 0), (.m 5 1), (.m 5 2), (.c (.bool false)), (.c (.int .i64 (0))), (.c (.sl [])), (.c (.sl [])), (.c (.sl [])), (.c (.sl [])), (.c (.sl []))]))], [(6, .m [(.m 5 0), (.m 5 1), (.m 5 2), (.c (.bool false)), (.c (.int .i64 (0))), (.c (.sl [])), (.c (.sl [])), (.c (.sl [])), (.c (.sl [])), (.c (.sl []))])]⟩)
(.seq
(.reg ⟨[.call 8 [] (.id 53) false false [(.s 2), (.c (.int .i64 (0))), (.m 5 3)]], [], [(6, .m [(.m 6 0), (.m 6 1), (.m 6 2), (.m 6 3), (.m 6 4), (.one (.s 8)), (.m 6 6), (.m 6 7), (.m 6 8), (.m 6 9)])]⟩)
(.seq
(.reg ⟨[.call 9 [] (.id 53) false false [(.s 2), (.c (.int .i64 (1))), (.m 5 4)]], [], [(6, .m [(.m 6 0), (.m 6 1), (.m 6 2), (.m 6 3), (.m 6 4), (.m 6 5), (.one (.s 9)), (.m 6 7), (.m 6 8), (.m 6 9)])]⟩)
(.seq
(.reg ⟨[.call 10 [] (.id 53) false false [(.s 2), (.c (.int .i64 (2))), (.m 5 5)]], [], [(6, .m [(.m 6 0), (.m 6 1), (.m 6 2), (.m 6 3), (.m 6 4), (.m 6 5), (.m 6 6), (.one (.s 10)), (.m 6 8), (.m 6 9)])]⟩)
(.seq
(.reg ⟨[.call 11 [] (.id 53) false false [(.s 2), (.c (.int .i64 (3))), (.m 5 6)]], [], [(6, .m [(.m 6 0), (.m 6 1), (.m 6 2), (.m 6 3), (.m 6 4), (.m 6 5), (.m 6 6), (.m 6 7), (.one (.s 11)), (.m 6 9)])]⟩)
(.seq
(.reg ⟨[.call 12 [] (.id 53) false false [(.s 2), (.c (.int .i64 (4))), (.c (.int .i64 (3)))]], [], [(6, .m [(.m 6 0), (.m 6 1), (.m 6 2), (.m 6 3), (.m 6 4), (.m 6 5), (.m 6 6), (.m 6 7), (.m 6 8), (.one (.s 12))])]⟩)
(.seq
(.reg ⟨[], [], [(4, .m [(.fld (.mm 6 0 10) 0), (.fld (.mm 6 0 10) 1), (.fld (.mm 6 0 10) 2), (.fld (.mm 6 0 10) 3), (.fld (.mm 6 0 10) 4), (.fld (.mm 6 0 10) 5), (.fld (.mm 6 0 10) 6), (.fld (.mm 6 0 10) 7), (.fld (.mm 6 0 10) 8), (.fld (.mm 6 0 10) 9)])]⟩)
.ret))))))))),
[(4, (.ag 10))]⟩
theorem c17 : compFn Try.prog fresh sig [.fz, .fz, .fz] [] Try.f17 = some p17 := by kernel_rfl
/-- cromlech/cromlechlaw11.Turned -/
def p18 : Fn := ⟨17, [0, 1, 2, 3, 4, 8, 9, 10, 35, 20, 41, 45, 49, 53, 62, 71, 23],
(.seq
(.reg ⟨[], [], [(4, .m [(.fld (.sz (.s 0) 10) 0), (.fld (.sz (.s 0) 10) 1), (.fld (.sz (.s 0) 10) 2), (.fld (.sz (.s 0) 10) 3), (.fld (.sz (.s 0) 10) 4), (.fld (.sz (.s 0) 10) 5), (.fld (.sz (.s 0) 10) 6), (.fld (.sz (.s 0) 10) 7), (.fld (.sz (.s 0) 10) 8), (.fld (.sz (.s 0) 10) 9)]), (5, .m [(.c (.int .u64 (0))), (.c (.int .i64 (0))), (.c (.int .i64 (0))), (.c (.bool false)), (.c (.int .i64 (0))), (.c (.sl [])), (.c (.sl [])), (.c (.sl [])), (.c (.sl [])), (.c (.sl []))])]⟩)
(.seq
(.reg ⟨[.call 17 [] (.id 29) false false [(.s 1), (.c (.int .i64 (4)))]], [], [(6, .v (.bin .add (.c (.int .i64 (1))) (.s 17)))]⟩)
(.seq
(.reg ⟨[.call 18 [] (.id 28) false false [(.mm 4 0 10), (.s 6)]], [], [(7, .v (.app (.c (.sl [])) (.s 18) 1))]⟩)
(.seq
(.seq
(.reg ⟨[.call 9 [] (.id 29) false false [(.bin .quo (.s 1) (.c (.int .i64 (4)))), (.c (.int .i64 (11)))]], [], []⟩)
(.block 0
 (.seq
 (.reg ⟨[], [], [(8, .v (.bin .eql (.s 9) (.c (.int .i64 (0)))))]⟩)
 (.cond (.s 8)
  (.reg ⟨[], [], [(4, .m [(.m 4 0), (.m 4 1), (.m 4 2), (.un .not (.m 4 3)), (.m 4 4), (.m 4 5), (.m 4 6), (.m 4 7), (.m 4 8), (.m 4 9)])]⟩)
  (.seq
  (.reg ⟨[], [], [(10, .v (.bin .eql (.s 9) (.c (.int .i64 (1)))))]⟩)
  (.cond (.s 10)
   (.reg ⟨[], [], [(4, .m [(.m 4 0), (.m 4 1), (.m 4 2), (.m 4 3), (.one (.s 2)), (.m 4 5), (.m 4 6), (.m 4 7), (.m 4 8), (.m 4 9)])]⟩)
   (.seq
   (.reg ⟨[], [], [(11, .v (.bin .eql (.s 9) (.c (.int .i64 (2)))))]⟩)
   (.cond (.s 11)
    (.reg ⟨[], [], [(4, .m [(.m 4 0), (.one (.s 2)), (.m 4 2), (.m 4 3), (.m 4 4), (.m 4 5), (.m 4 6), (.m 4 7), (.m 4 8), (.m 4 9)])]⟩)
    (.seq
    (.reg ⟨[], [], [(12, .v (.bin .eql (.s 9) (.c (.int .i64 (3)))))]⟩)
    (.cond (.s 12)
     (.reg ⟨[], [], [(4, .m [(.m 4 0), (.m 4 1), (.one (.s 2)), (.m 4 3), (.m 4 4), (.m 4 5), (.m 4 6), (.m 4 7), (.m 4 8), (.m 4 9)])]⟩)
     (.seq
     (.reg ⟨[], [], [(13, .v (.bin .eql (.s 9) (.c (.int .i64 (4)))))]⟩)
     (.cond (.s 13)
      (.reg ⟨[], [], [(4, .m [(.m 4 0), (.m 4 1), (.m 4 2), (.m 4 3), (.m 4 4), (.m 4 5), (.m 4 6), (.m 4 7), (.m 4 8), (.app (.app (.c (.sl [])) (.m 4 9) 1) (.lit [(.one (.s 3))]) 1)])]⟩)
      (.seq
      (.reg ⟨[], [], [(14, .v (.bin .eql (.s 9) (.c (.int .i64 (5)))))]⟩)
      (.cond (.s 14)
       (.reg ⟨[.call 19 [] (.id 27) false false [(.mm 4 0 10), (.s 6), (.app (.s 7) (.lit [(.one (.s 3))]) 1)]], [], [(4, .m [(.fld (.sz (.s 19) 10) 0), (.fld (.sz (.s 19) 10) 1), (.fld (.sz (.s 19) 10) 2), (.fld (.sz (.s 19) 10) 3), (.fld (.sz (.s 19) 10) 4), (.fld (.sz (.s 19) 10) 5), (.fld (.sz (.s 19) 10) 6), (.fld (.sz (.s 19) 10) 7), (.fld (.sz (.s 19) 10) 8), (.fld (.sz (.s 19) 10) 9)]), (7, .no)]⟩)
       (.seq
       (.reg ⟨[], [], [(15, .v (.bin .eql (.s 9) (.c (.int .i64 (6)))))]⟩)
       (.cond (.s 15)
        (.reg ⟨[.call 20 [] (.id 29) false false [(.s 2), (.bin .add (.len (.s 7)) (.c (.int .i64 (1))))], .call 21 [] (.id 27) false false [(.mm 4 0 10), (.s 6), (.slc (.s 7) (.c (.int .i64 (0))) (.s 20) 1)]], [], [(4, .m [(.fld (.sz (.s 21) 10) 0), (.fld (.sz (.s 21) 10) 1), (.fld (.sz (.s 21) 10) 2), (.fld (.sz (.s 21) 10) 3), (.fld (.sz (.s 21) 10) 4), (.fld (.sz (.s 21) 10) 5), (.fld (.sz (.s 21) 10) 6), (.fld (.sz (.s 21) 10) 7), (.fld (.sz (.s 21) 10) 8), (.fld (.sz (.s 21) 10) 9)])]⟩)
        (.seq
        (.reg ⟨[], [], [(16, .v (.bin .gtr (.len (.s 7)) (.c (.int .i64 (0)))))]⟩)
        (.cond (.s 16)
         (.seq
         (.reg ⟨[.call 22 [] (.id 29) false false [(.s 2), (.len (.s 7))]], [([], (.idx (.s 7) (.s 22) 1))], [(7, .v (.upd (.s 7) (.s 22) 0 (.one (.s 3))))]⟩)
         (.reg ⟨[.call 23 [] (.id 27) false false [(.mm 4 0 10), (.s 6), (.s 7)]], [], [(4, .m [(.fld (.sz (.s 23) 10) 0), (.fld (.sz (.s 23) 10) 1), (.fld (.sz (.s 23) 10) 2), (.fld (.sz (.s 23) 10) 3), (.fld (.sz (.s 23) 10) 4), (.fld (.sz (.s 23) 10) 5), (.fld (.sz (.s 23) 10) 6), (.fld (.sz (.s 23) 10) 7), (.fld (.sz (.s 23) 10) 8), (.fld (.sz (.s 23) 10) 9)])]⟩))
         .skip))))))))))))))))))
(.seq
(.reg ⟨[], [], [(5, .m [(.fld (.mm 4 0 10) 0), (.fld (.mm 4 0 10) 1), (.fld (.mm 4 0 10) 2), (.fld (.mm 4 0 10) 3), (.fld (.mm 4 0 10) 4), (.fld (.mm 4 0 10) 5), (.fld (.mm 4 0 10) 6), (.fld (.mm 4 0 10) 7), (.fld (.mm 4 0 10) 8), (.fld (.mm 4 0 10) 9)])]⟩)
.ret))))),
[(5, (.ag 10))]⟩
theorem c18 : compFn Try.prog fresh sig [.fz, .fz, .fz, .fz] [] Try.f18 = some p18 := by kernel_rfl
/-- cromlech/cromlechlaw13.Pointer -/
def p19 : Fn := ⟨10, [0, 1, 2, 3, 6, 7, 8, 19, 9, 10],
(.seq
(.reg ⟨[], [], [(3, .m [(.fld (.sz (.s 0) 10) 0), (.fld (.sz (.s 0) 10) 1), (.fld (.sz (.s 0) 10) 2), (.fld (.sz (.s 0) 10) 3), (.fld (.sz (.s 0) 10) 4), (.fld (.sz (.s 0) 10) 5), (.fld (.sz (.s 0) 10) 6), (.fld (.sz (.s 0) 10) 7), (.fld (.sz (.s 0) 10) 8), (.fld (.sz (.s 0) 10) 9)]), (4, .v (.c (.int .u64 (0))))]⟩)
(.seq
(.reg ⟨[.call 10 [] (.id 35) false false [(.mm 3 0 10), (.s 1)]], [], [(5, .v (.ext (.s 10) 0)), (6, .v (.ext (.s 10) 1))]⟩)
(.seq
(.seq
(.reg ⟨[], [], [(7, .v (.bin .eql (.len (.s 5)) (.c (.int .i64 (0)))))]⟩)
(.cond (.s 7)
 (.seq
 (.reg ⟨[], [], [(4, .v (.c (.int .u64 (0))))]⟩)
 .ret)
 .skip))
(.seq
(.reg ⟨[.call 11 [] (.id 38) false false [(.mm 3 0 10)], .call 12 [] (.id 25) false false [(.s 2), (.len (.s 5))], .call 13 [] (.id 37) false false [(.s 11), (.ag [(.one (.s 1)), (.fld (.idx (.s 5) (.s 12) 5) 0)])]], [], [(8, .v (.ext (.s 13) 0)), (9, .v (.ext (.s 13) 1))]⟩)
(.seq
(.reg ⟨[], [], [(4, .v (.bin .add (.bin .mul (.c (.int .u64 (2))) (.s 8)) (.c (.int .u64 (1)))))]⟩)
.ret))))),
[(4, .v)]⟩
theorem c19 : compFn Try.prog fresh sig [.fz, .fz, .fz] [] Try.f19 = some p19 := by kernel_rfl
/-- cromlech/cromlechref13.Forward -/
def p21 : Fn := ⟨23, [0, 1, 2, 4, 5, 6, 7, 21, 24, 8, 9, 32, 10, 11, 42, 46, 12, 13, 14, 63, 15, 16, 72],
(.seq
(.reg ⟨[], [], [(2, .m [(.fld (.sz (.s 0) 10) 0), (.fld (.sz (.s 0) 10) 1), (.fld (.sz (.s 0) 10) 2), (.fld (.sz (.s 0) 10) 3), (.fld (.sz (.s 0) 10) 4), (.fld (.sz (.s 0) 10) 5), (.fld (.sz (.s 0) 10) 6), (.fld (.sz (.s 0) 10) 7), (.fld (.sz (.s 0) 10) 8), (.fld (.sz (.s 0) 10) 9)]), (3, .v (.c (.int .u64 (0)))), (4, .m [(.c (.int .u64 (0))), (.c (.int .i64 (0))), (.c (.int .i64 (0))), (.c (.bool false)), (.c (.int .i64 (0))), (.c (.sl [])), (.c (.sl [])), (.c (.sl [])), (.c (.sl [])), (.c (.sl []))]), (5, .v (.c (.int .i64 (0))))]⟩)
(.seq
(.reg ⟨[.call 23 [] (.id 38) false false [(.mm 2 0 10)], .call 24 [] (.id 63) false false [(.s 23)]], [], [(6, .v (.s 24))]⟩)
(.seq
(.seq
(.reg ⟨[], [], [(7, .v (.un .not (.s 6)))]⟩)
(.cond (.s 7)
 (.seq
 (.reg ⟨[], [([], (.ag [(.c (.int .u64 (0))), (.c (.int .i64 (0))), (.c (.int .i64 (0))), (.c (.bool false)), (.c (.int .i64 (0))), (.c (.sl [])), (.c (.sl [])), (.c (.sl [])), (.c (.sl [])), (.c (.sl []))]))], [(3, .v (.c (.int .u64 (0)))), (4, .m [(.c (.int .u64 (0))), (.c (.int .i64 (0))), (.c (.int .i64 (0))), (.c (.bool false)), (.c (.int .i64 (0))), (.c (.sl [])), (.c (.sl [])), (.c (.sl [])), (.c (.sl [])), (.c (.sl []))]), (5, .v (.c (.int .i64 (1))))]⟩)
 .ret)
 .skip))
(.seq
(.seq
(.reg ⟨[], [], [(8, .v (.bin .eql (.s 1) (.c (.int .u64 (0)))))]⟩)
(.cond (.s 8)
 (.seq
 (.reg ⟨[], [], [(3, .v (.c (.int .u64 (0)))), (4, .m [(.fld (.mm 2 0 10) 0), (.fld (.mm 2 0 10) 1), (.fld (.mm 2 0 10) 2), (.fld (.mm 2 0 10) 3), (.fld (.mm 2 0 10) 4), (.fld (.mm 2 0 10) 5), (.fld (.mm 2 0 10) 6), (.fld (.mm 2 0 10) 7), (.fld (.mm 2 0 10) 8), (.fld (.mm 2 0 10) 9)]), (5, .v (.c (.int .i64 (0))))]⟩)
 .ret)
 .skip))
(.seq
(.reg ⟨[.call 25 [] (.id 64) false false [(.s 1)]], [], [(9, .v (.ext (.s 25) 0)), (10, .v (.ext (.s 25) 1))]⟩)
(.seq
(.seq
(.reg ⟨[], [], [(11, .v (.bin .neq (.s 10) (.c (.int .i64 (0)))))]⟩)
(.cond (.s 11)
 (.seq
 (.reg ⟨[], [([], (.ag [(.c (.int .u64 (0))), (.c (.int .i64 (0))), (.c (.int .i64 (0))), (.c (.bool false)), (.c (.int .i64 (0))), (.c (.sl [])), (.c (.sl [])), (.c (.sl [])), (.c (.sl [])), (.c (.sl []))]))], [(3, .v (.c (.int .u64 (0)))), (4, .m [(.c (.int .u64 (0))), (.c (.int .i64 (0))), (.c (.int .i64 (0))), (.c (.bool false)), (.c (.int .i64 (0))), (.c (.sl [])), (.c (.sl [])), (.c (.sl [])), (.c (.sl [])), (.c (.sl []))]), (5, .v (.c (.int .i64 (3))))]⟩)
 .ret)
 .skip))
(.seq
(.reg ⟨[.call 26 [] (.id 38) false false [(.mm 2 0 10)], .call 27 [] (.id 65) false false [(.s 26), (.s 9)]], [], [(12, .m [(.fld (.sz (.ext (.s 27) 0) 2) 0), (.fld (.sz (.ext (.s 27) 0) 2) 1)]), (13, .v (.ext (.s 27) 1))]⟩)
(.seq
(.seq
(.reg ⟨[], [], [(14, .v (.bin .neq (.s 13) (.c (.int .i64 (0)))))]⟩)
(.cond (.s 14)
 (.seq
 (.reg ⟨[], [([], (.ag [(.c (.int .u64 (0))), (.c (.int .i64 (0))), (.c (.int .i64 (0))), (.c (.bool false)), (.c (.int .i64 (0))), (.c (.sl [])), (.c (.sl [])), (.c (.sl [])), (.c (.sl [])), (.c (.sl []))]))], [(3, .v (.c (.int .u64 (0)))), (4, .m [(.c (.int .u64 (0))), (.c (.int .i64 (0))), (.c (.int .i64 (0))), (.c (.bool false)), (.c (.int .i64 (0))), (.c (.sl [])), (.c (.sl [])), (.c (.sl [])), (.c (.sl [])), (.c (.sl []))]), (5, .v (.c (.int .i64 (6))))]⟩)
 .ret)
 .skip))
(.seq
(.seq
(.reg ⟨[], [], [(15, .v (.bin .lss (.m 12 0) (.c (.int .i64 (3)))))]⟩)
(.cond (.s 15)
 (.seq
 (.reg ⟨[], [], [(3, .v (.s 1)), (4, .m [(.fld (.mm 2 0 10) 0), (.fld (.mm 2 0 10) 1), (.fld (.mm 2 0 10) 2), (.fld (.mm 2 0 10) 3), (.fld (.mm 2 0 10) 4), (.fld (.mm 2 0 10) 5), (.fld (.mm 2 0 10) 6), (.fld (.mm 2 0 10) 7), (.fld (.mm 2 0 10) 8), (.fld (.mm 2 0 10) 9)]), (5, .v (.c (.int .i64 (0))))]⟩)
 .ret)
 .skip))
(.seq
(.reg ⟨[.call 28 [] (.id 28) false false [(.mm 2 0 10), (.m 12 0)]], [], [(16, .v (.fld (.idx (.s 28) (.m 12 1) 1) 0))]⟩)
(.seq
(.reg ⟨[.call 29 [] (.id 64) false false [(.s 16)]], [], [(17, .v (.ext (.s 29) 0)), (18, .v (.ext (.s 29) 1))]⟩)
(.seq
(.seq
(.reg ⟨[], [], [(19, .v (.bin .eql (.s 18) (.c (.int .i64 (0)))))]⟩)
(.cond (.s 19)
 (.seq
 (.reg ⟨[], [], [(3, .v (.s 16)), (4, .m [(.fld (.mm 2 0 10) 0), (.fld (.mm 2 0 10) 1), (.fld (.mm 2 0 10) 2), (.fld (.mm 2 0 10) 3), (.fld (.mm 2 0 10) 4), (.fld (.mm 2 0 10) 5), (.fld (.mm 2 0 10) 6), (.fld (.mm 2 0 10) 7), (.fld (.mm 2 0 10) 8), (.fld (.mm 2 0 10) 9)]), (5, .v (.c (.int .i64 (0))))]⟩)
 .ret)
 .skip))
(.seq
(.reg ⟨[.call 30 [] (.id 66) false false [(.s 16)]], [], [(20, .m [(.fld (.sz (.ext (.s 30) 0) 2) 0), (.fld (.sz (.ext (.s 30) 0) 2) 1)]), (21, .v (.ext (.s 30) 1))]⟩)
(.seq
(.seq
(.reg ⟨[], [], [(22, .v (.bin .neq (.s 21) (.c (.int .i64 (0)))))]⟩)
(.cond (.s 22)
 (.seq
 (.reg ⟨[], [([], (.ag [(.c (.int .u64 (0))), (.c (.int .i64 (0))), (.c (.int .i64 (0))), (.c (.bool false)), (.c (.int .i64 (0))), (.c (.sl [])), (.c (.sl [])), (.c (.sl [])), (.c (.sl [])), (.c (.sl []))]))], [(3, .v (.c (.int .u64 (0)))), (4, .m [(.c (.int .u64 (0))), (.c (.int .i64 (0))), (.c (.int .i64 (0))), (.c (.bool false)), (.c (.int .i64 (0))), (.c (.sl [])), (.c (.sl [])), (.c (.sl [])), (.c (.sl [])), (.c (.sl []))]), (5, .v (.c (.int .i64 (3))))]⟩)
 .ret)
 .skip))
(.seq
(.reg ⟨[.call 31 [] (.id 67) false false [(.mm 2 0 10), (.mm 12 0 2), (.mm 20 0 2)]], [], [(3, .v (.ext (.s 31) 0)), (4, .m [(.fld (.sz (.ext (.s 31) 1) 10) 0), (.fld (.sz (.ext (.s 31) 1) 10) 1), (.fld (.sz (.ext (.s 31) 1) 10) 2), (.fld (.sz (.ext (.s 31) 1) 10) 3), (.fld (.sz (.ext (.s 31) 1) 10) 4), (.fld (.sz (.ext (.s 31) 1) 10) 5), (.fld (.sz (.ext (.s 31) 1) 10) 6), (.fld (.sz (.ext (.s 31) 1) 10) 7), (.fld (.sz (.ext (.s 31) 1) 10) 8), (.fld (.sz (.ext (.s 31) 1) 10) 9)]), (5, .v (.ext (.s 31) 2))]⟩)
.ret))))))))))))))),
[(3, .v), (4, (.ag 10)), (5, .v)]⟩
theorem c21 : compFn Try.prog fresh sig [.fz, .fz] [] Try.f21 = some p21 := by kernel_rfl
/-- cromlech/cromlechref13.Gone -/
def p24 : Fn := ⟨7, [0, 1, 2, 4, 6, 5, 7],
(.seq
(.reg ⟨[], [], [(2, .m [(.fld (.sz (.s 0) 10) 0), (.fld (.sz (.s 0) 10) 1), (.fld (.sz (.s 0) 10) 2), (.fld (.sz (.s 0) 10) 3), (.fld (.sz (.s 0) 10) 4), (.fld (.sz (.s 0) 10) 5), (.fld (.sz (.s 0) 10) 6), (.fld (.sz (.s 0) 10) 7), (.fld (.sz (.s 0) 10) 8), (.fld (.sz (.s 0) 10) 9)]), (3, .v (.c (.bool false)))]⟩)
(.seq
(.reg ⟨[.call 7 [] (.id 21) false false [(.mm 2 0 10), (.s 1)]], [], [(4, .m [(.fld (.sz (.ext (.s 7) 1) 10) 0), (.fld (.sz (.ext (.s 7) 1) 10) 1), (.fld (.sz (.ext (.s 7) 1) 10) 2), (.fld (.sz (.ext (.s 7) 1) 10) 3), (.fld (.sz (.ext (.s 7) 1) 10) 4), (.fld (.sz (.ext (.s 7) 1) 10) 5), (.fld (.sz (.ext (.s 7) 1) 10) 6), (.fld (.sz (.ext (.s 7) 1) 10) 7), (.fld (.sz (.ext (.s 7) 1) 10) 8), (.fld (.sz (.ext (.s 7) 1) 10) 9)]), (5, .v (.ext (.s 7) 0)), (6, .v (.ext (.s 7) 2))]⟩)
(.seq
(.reg ⟨[.lt 8 [] (.bin .eql (.s 6) (.c (.int .i64 (0))))], [([(8, true)], (.bin .eql (.s 5) (.s 1)))], [(3, .v (.ite (.s 8) (.bin .eql (.s 5) (.s 1)) (.c (.bool false))))]⟩)
.ret))),
[(3, .v)]⟩
theorem c24 : compFn Try.prog fresh sig [.fz, .fz] [] Try.f24 = some p24 := by kernel_rfl
/-- cromlech/cromlechlaw07.Layout -/
def p48 : Fn := ⟨5, [0, 1, 3, 4, 5],
(.seq
(.reg ⟨[], [], [(2, .m [(.fld (.sz (.s 1) 6) 0), (.fld (.sz (.s 1) 6) 1), (.fld (.sz (.s 1) 6) 2), (.fld (.sz (.s 1) 6) 3), (.fld (.sz (.s 1) 6) 4), (.fld (.sz (.s 1) 6) 5)]), (3, .m [(.c (.int .u64 (0))), (.c (.int .i64 (0))), (.c (.int .i64 (0))), (.c (.int .i64 (0))), (.c (.int .i64 (0))), (.c (.int .i64 (0))), (.c (.int .i64 (0)))])]⟩)
(.seq
(.reg ⟨[.call 5 [] (.id 82) false false [(.ai (.mm 2 0 6) (.c (.int .i64 (0))) 6 1 false), (.c (.int .i64 (41)))], .call 6 [] (.id 82) false false [(.ai (.mm 2 0 6) (.c (.int .i64 (1))) 6 1 false), (.c (.int .i64 (2)))]], [([], (.ai (.c (.agg [(.bool true), (.bool true), (.bool true), (.bool true), (.bool true), (.bool true)])) (.c (.int .i64 (0))) 6 1 false)), ([], (.ai (.c (.agg [(.bool true), (.bool true), (.bool true), (.bool true), (.bool true), (.bool true)])) (.c (.int .i64 (1))) 6 1 false))], [(4, .m [(.fld (.ag [(.c (.int .u64 (0))), (.one (.s 5)), (.one (.s 6)), (.c (.int .i64 (0))), (.c (.int .i64 (0))), (.c (.int .i64 (0))), (.c (.int .i64 (0)))]) 0), (.fld (.ag [(.c (.int .u64 (0))), (.one (.s 5)), (.one (.s 6)), (.c (.int .i64 (0))), (.c (.int .i64 (0))), (.c (.int .i64 (0))), (.c (.int .i64 (0)))]) 1), (.fld (.ag [(.c (.int .u64 (0))), (.one (.s 5)), (.one (.s 6)), (.c (.int .i64 (0))), (.c (.int .i64 (0))), (.c (.int .i64 (0))), (.c (.int .i64 (0)))]) 2), (.fld (.ag [(.c (.int .u64 (0))), (.one (.s 5)), (.one (.s 6)), (.c (.int .i64 (0))), (.c (.int .i64 (0))), (.c (.int .i64 (0))), (.c (.int .i64 (0)))]) 3), (.fld (.ag [(.c (.int .u64 (0))), (.one (.s 5)), (.one (.s 6)), (.c (.int .i64 (0))), (.c (.int .i64 (0))), (.c (.int .i64 (0))), (.c (.int .i64 (0)))]) 4), (.fld (.ag [(.c (.int .u64 (0))), (.one (.s 5)), (.one (.s 6)), (.c (.int .i64 (0))), (.c (.int .i64 (0))), (.c (.int .i64 (0))), (.c (.int .i64 (0)))]) 5), (.fld (.ag [(.c (.int .u64 (0))), (.one (.s 5)), (.one (.s 6)), (.c (.int .i64 (0))), (.c (.int .i64 (0))), (.c (.int .i64 (0))), (.c (.int .i64 (0)))]) 6)])]⟩)
(.seq
(.reg ⟨[], [], [(4, .m [(.bin .add (.c (.int .u64 (1))) (.bin .rem (.s 0) (.bin .sub (.c (.int .u64 (9223372036854775808))) (.bin .mul (.c (.int .u64 (2))) (.conv .u64 (.m 4 1)))))), (.m 4 1), (.m 4 2), (.m 4 3), (.m 4 4), (.m 4 5), (.m 4 6)])]⟩)
(.seq
(.reg ⟨[.call 7 [] (.id 82) false false [(.ai (.mm 2 0 6) (.c (.int .i64 (2))) 6 1 false), (.bin .add (.m 4 1) (.c (.int .i64 (1))))]], [([], (.ai (.c (.agg [(.bool true), (.bool true), (.bool true), (.bool true), (.bool true), (.bool true)])) (.c (.int .i64 (2))) 6 1 false))], [(4, .m [(.m 4 0), (.m 4 1), (.m 4 2), (.one (.s 7)), (.m 4 4), (.m 4 5), (.m 4 6)])]⟩)
(.seq
(.reg ⟨[.call 8 [] (.id 82) false false [(.ai (.mm 2 0 6) (.c (.int .i64 (3))) 6 1 false), (.bin .add (.bin .sub (.m 4 1) (.m 4 3)) (.c (.int .i64 (1))))]], [([], (.ai (.c (.agg [(.bool true), (.bool true), (.bool true), (.bool true), (.bool true), (.bool true)])) (.c (.int .i64 (3))) 6 1 false))], [(4, .m [(.m 4 0), (.m 4 1), (.m 4 2), (.m 4 3), (.one (.s 8)), (.m 4 5), (.m 4 6)])]⟩)
(.seq
(.reg ⟨[.call 9 [] (.id 82) false false [(.ai (.mm 2 0 6) (.c (.int .i64 (4))) 6 1 false), (.bin .add (.m 4 1) (.c (.int .i64 (1))))]], [([], (.ai (.c (.agg [(.bool true), (.bool true), (.bool true), (.bool true), (.bool true), (.bool true)])) (.c (.int .i64 (4))) 6 1 false))], [(4, .m [(.m 4 0), (.m 4 1), (.m 4 2), (.m 4 3), (.m 4 4), (.one (.s 9)), (.m 4 6)])]⟩)
(.seq
(.reg ⟨[.call 10 [] (.id 82) false false [(.ai (.mm 2 0 6) (.c (.int .i64 (5))) 6 1 false), (.bin .add (.bin .sub (.m 4 1) (.m 4 5)) (.c (.int .i64 (1))))]], [([], (.ai (.c (.agg [(.bool true), (.bool true), (.bool true), (.bool true), (.bool true), (.bool true)])) (.c (.int .i64 (5))) 6 1 false))], [(4, .m [(.m 4 0), (.m 4 1), (.m 4 2), (.m 4 3), (.m 4 4), (.m 4 5), (.one (.s 10))])]⟩)
(.seq
(.reg ⟨[], [], [(3, .m [(.fld (.mm 4 0 7) 0), (.fld (.mm 4 0 7) 1), (.fld (.mm 4 0 7) 2), (.fld (.mm 4 0 7) 3), (.fld (.mm 4 0 7) 4), (.fld (.mm 4 0 7) 5), (.fld (.mm 4 0 7) 6)])]⟩)
.ret)))))))),
[(3, (.ag 7))]⟩
theorem c48 : compFn Try.prog fresh sig [.fz, .fz] [] Try.f48 = some p48 := by kernel_rfl
/-- cromlech/cromlechlaw10.some -/
def p53 : Fn := ⟨12, [0, 1, 2, 6, 7, 8, 13, 9, 20, 10, 28, 40],
(.seq
(.reg ⟨[], [], [(3, .v (.c (.sl [])))]⟩)
(.seq
(.reg ⟨[], [], [(4, .v (.c (.sl [])))]⟩)
(.seq
(.reg ⟨[], [], [(5, .v (.c (.int .i64 (0))))]⟩)
(.seq
(.seq
(.reg ⟨[], [], [(6, .v (.bin .gtr (.len (.s 0)) (.c (.int .i64 (0)))))]⟩)
(.cond (.s 6)
 (.reg ⟨[.call 12 [] (.id 88) false false [(.s 1), (.len (.s 0))]], [], [(5, .v (.s 12))]⟩)
 .skip))
(.seq
(.seq
(.reg ⟨[], [], [(7, .v (.c (.int .i64 (0))))]⟩)
(.block 0
 (.loop [0, 1, 2, 3, 4, 5, 6, 7]
  (.seq
  (.seq
  (.reg ⟨[], [], [(8, .v (.bin .lss (.s 7) (.s 2)))]⟩)
  (.cond (.s 8)
   .skip
   (.exit 0)))
  (.seq
  (.block 1
   (.seq
   (.reg ⟨[], [], [(9, .v (.conv .u64 (.s 7)))]⟩)
   (.seq
   (.seq
   (.reg ⟨[], [], [(10, .v (.bin .lss (.s 5) (.len (.s 0))))]⟩)
   (.cond (.s 10)
    (.reg ⟨[], [], [(9, .v (.bin .add (.s 9) (.fld (.idx (.s 0) (.s 5) 1) 0)))]⟩)
    .skip))
   (.seq
   (.reg ⟨[], [], [(5, .v (.bin .add (.s 5) (.c (.int .i64 (1)))))]⟩)
   (.seq
   (.seq
   (.reg ⟨[], [], [(11, .v (.bin .geq (.s 5) (.len (.s 0))))]⟩)
   (.cond (.s 11)
    (.reg ⟨[], [], [(5, .v (.c (.int .i64 (0))))]⟩)
    .skip))
   (.reg ⟨[], [], [(4, .v (.app (.s 4) (.lit [(.one (.s 9))]) 1))]⟩))))))
  (.reg ⟨[], [], [(7, .v (.bin .add (.s 7) (.c (.int .i64 (1)))))]⟩))))))
(.seq
(.reg ⟨[], [], [(3, .v (.s 4)), (4, .no)]⟩)
.ret)))))),
[(3, .v)]⟩
theorem c53 : compFn Try.prog fresh sig [.fz, .fz, .fz] [] Try.f53 = some p53 := by kernel_rfl
/-- cromlech/cromlechref13.copied -/
def p67 : Fn := ⟨20, [0, 1, 2, 3, 4, 5, 6, 7, 8, 9, 10, 31, 37, 11, 12, 13, 14, 15, 16, 70],
(.seq
(.reg ⟨[], [], [(3, .m [(.fld (.sz (.s 0) 10) 0), (.fld (.sz (.s 0) 10) 1), (.fld (.sz (.s 0) 10) 2), (.fld (.sz (.s 0) 10) 3), (.fld (.sz (.s 0) 10) 4), (.fld (.sz (.s 0) 10) 5), (.fld (.sz (.s 0) 10) 6), (.fld (.sz (.s 0) 10) 7), (.fld (.sz (.s 0) 10) 8), (.fld (.sz (.s 0) 10) 9)]), (4, .m [(.fld (.sz (.s 1) 2) 0), (.fld (.sz (.s 1) 2) 1)]), (5, .m [(.fld (.sz (.s 2) 2) 0), (.fld (.sz (.s 2) 2) 1)]), (6, .v (.c (.int .u64 (0)))), (7, .m [(.c (.int .u64 (0))), (.c (.int .i64 (0))), (.c (.int .i64 (0))), (.c (.bool false)), (.c (.int .i64 (0))), (.c (.sl [])), (.c (.sl [])), (.c (.sl [])), (.c (.sl [])), (.c (.sl []))]), (8, .v (.c (.int .i64 (0))))]⟩)
(.seq
(.reg ⟨[.call 20 [] (.id 28) false false [(.mm 3 0 10), (.m 4 0)]], [], [(9, .v (.app (.c (.sl [])) (.s 20) 1))]⟩)
(.seq
(.reg ⟨[], [], [(10, .v (.bin .add (.c (.int .i64 (1))) (.m 5 0)))]⟩)
(.seq
(.seq
(.reg ⟨[], [], [(11, .v (.bin .gtr (.bin .add (.m 4 1) (.s 10)) (.len (.s 9))))]⟩)
(.cond (.s 11)
 (.seq
 (.reg ⟨[], [([], (.ag [(.c (.int .u64 (0))), (.c (.int .i64 (0))), (.c (.int .i64 (0))), (.c (.bool false)), (.c (.int .i64 (0))), (.c (.sl [])), (.c (.sl [])), (.c (.sl [])), (.c (.sl [])), (.c (.sl []))]))], [(6, .v (.c (.int .u64 (0)))), (7, .m [(.c (.int .u64 (0))), (.c (.int .i64 (0))), (.c (.int .i64 (0))), (.c (.bool false)), (.c (.int .i64 (0))), (.c (.sl [])), (.c (.sl [])), (.c (.sl [])), (.c (.sl [])), (.c (.sl []))]), (8, .v (.c (.int .i64 (2))))]⟩)
 .ret)
 .skip))
(.seq
(.seq
(.reg ⟨[.call 21 [] (.id 38) false false [(.mm 3 0 10)], .call 22 [] (.id 93) false false [(.s 21)]], [], [(12, .v (.bin .lss (.s 22) (.s 10)))]⟩)
(.cond (.s 12)
 (.seq
 (.reg ⟨[], [([], (.ag [(.c (.int .u64 (0))), (.c (.int .i64 (0))), (.c (.int .i64 (0))), (.c (.bool false)), (.c (.int .i64 (0))), (.c (.sl [])), (.c (.sl [])), (.c (.sl [])), (.c (.sl [])), (.c (.sl []))]))], [(6, .v (.c (.int .u64 (0)))), (7, .m [(.c (.int .u64 (0))), (.c (.int .i64 (0))), (.c (.int .i64 (0))), (.c (.bool false)), (.c (.int .i64 (0))), (.c (.sl [])), (.c (.sl [])), (.c (.sl [])), (.c (.sl [])), (.c (.sl []))]), (8, .v (.c (.int .i64 (7))))]⟩)
 .ret)
 .skip))
(.seq
(.reg ⟨[], [], [(13, .v (.len (.m 3 5)))]⟩)
(.seq
(.reg ⟨[], [], [(3, .m [(.m 3 0), (.m 3 1), (.m 3 2), (.m 3 3), (.m 3 4), (.app (.app (.c (.sl [])) (.m 3 5) 1) (.fls (.slc (.s 9) (.m 4 1) (.bin .add (.m 4 1) (.s 10)) 1)) 1), (.m 3 6), (.m 3 7), (.m 3 8), (.m 3 9)])]⟩)
(.seq
(.reg ⟨[.call 23 [] (.id 38) false true [(.mm 3 0 10)], .call 24 [] (.id 37) false false [(.s 23), (.ag [(.c (.int .i64 (1))), (.one (.s 13))])]], [], [(14, .v (.ext (.s 24) 0)), (15, .v (.ext (.s 24) 1))]⟩)
(.seq
(.reg ⟨[.call 25 [] (.id 83) false false [(.s 14)]], [], [(16, .v (.ext (.s 25) 0)), (17, .v (.ext (.s 25) 1))]⟩)
(.seq
(.seq
(.reg ⟨[], [], [(18, .v (.c (.int .i64 (0))))]⟩)
(.block 0
 (.loop [0, 1, 2, 3, 4, 5, 6, 7, 8, 9, 10, 11, 12, 13, 14, 15, 16, 17, 18]
  (.seq
  (.seq
  (.reg ⟨[], [], [(19, .v (.bin .lss (.s 18) (.s 10)))]⟩)
  (.cond (.s 19)
   .skip
   (.exit 0)))
  (.seq
  (.block 1
   (.reg ⟨[], [([], (.idx (.s 9) (.bin .add (.m 4 1) (.s 18)) 1))], [(9, .v (.upd (.s 9) (.bin .add (.m 4 1) (.s 18)) 0 (.c (.int .u64 (0)))))]⟩))
  (.reg ⟨[], [], [(18, .v (.bin .add (.s 18) (.c (.int .i64 (1)))))]⟩))))))
(.seq
(.reg ⟨[], [([], (.idx (.s 9) (.m 4 1) 1))], [(9, .v (.upd (.s 9) (.m 4 1) 0 (.one (.s 16))))]⟩)
(.seq
(.reg ⟨[.call 26 [] (.id 27) false false [(.mm 3 0 10), (.m 4 0), (.s 9)]], [], [(6, .v (.s 16)), (7, .m [(.fld (.sz (.s 26) 10) 0), (.fld (.sz (.s 26) 10) 1), (.fld (.sz (.s 26) 10) 2), (.fld (.sz (.s 26) 10) 3), (.fld (.sz (.s 26) 10) 4), (.fld (.sz (.s 26) 10) 5), (.fld (.sz (.s 26) 10) 6), (.fld (.sz (.s 26) 10) 7), (.fld (.sz (.s 26) 10) 8), (.fld (.sz (.s 26) 10) 9)]), (8, .v (.c (.int .i64 (0))))]⟩)
.ret)))))))))))),
[(6, .v), (7, (.ag 10)), (8, .v)]⟩
theorem c67 : compFn Try.prog fresh sig [.fz, .fz, .fz] [] Try.f67 = some p67 := by kernel_rfl
end Vm
