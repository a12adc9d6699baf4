/-
  MADE BY A PROGRAM: programs that the compiler makes of functions, and that it makes them.
-/
import Derived.Test.YtfplljcicihneaaGs
namespace Vm
open Go
open Go.Proofs
set_option maxRecDepth 100000
/-- cromlech/cromlechlaw13.ForwardTells -/
def p3 : Fn := ⟨31, [0, 1, 2, 3, 4, 5, 6, 7, 8, 10, 16, 17, 18, 45, 44, 46, 20, 43, 21, 76, 75, 77, 23, 74, 25, 24, 26, 28, 27, 29, 116],
(.seq
(.reg ⟨[], [], [(8, .m [(.fld (.sz (.s 0) 7) 0), (.fld (.sz (.s 0) 7) 1), (.fld (.sz (.s 0) 7) 2), (.fld (.sz (.s 0) 7) 3), (.fld (.sz (.s 0) 7) 4), (.fld (.sz (.s 0) 7) 5), (.fld (.sz (.s 0) 7) 6)]), (9, .m [(.fld (.sz (.s 2) 6) 0), (.fld (.sz (.s 2) 6) 1), (.fld (.sz (.s 2) 6) 2), (.fld (.sz (.s 2) 6) 3), (.fld (.sz (.s 2) 6) 4), (.fld (.sz (.s 2) 6) 5)]), (10, .v (.c (.bool false)))]⟩)
(.seq
(.reg ⟨[.call 31 [] (.id 15) false false []], [], [(11, .v (.s 31))]⟩)
(.seq
(.reg ⟨[.call 32 [] (.id 16) false false [(.mm 8 0 7)]], [], [(12, .m [(.fld (.sz (.s 32) 10) 0), (.fld (.sz (.s 32) 10) 1), (.fld (.sz (.s 32) 10) 2), (.fld (.sz (.s 32) 10) 3), (.fld (.sz (.s 32) 10) 4), (.fld (.sz (.s 32) 10) 5), (.fld (.sz (.s 32) 10) 6), (.fld (.sz (.s 32) 10) 7), (.fld (.sz (.s 32) 10) 8), (.fld (.sz (.s 32) 10) 9)])]⟩)
(.seq
(.seq
(.reg ⟨[.call 33 [] (.id 17) false false [(.s 1), (.mm 9 0 6), (.s 3)], .call 34 [] (.id 18) false false [(.mm 12 0 10), (.s 4), (.s 5), (.s 6)]], [], [(13, .v (.c (.int .i64 (0)))), (14, .v (.len (.lit [(.mm 12 0 10), (.sz (.s 33) 10), (.sz (.s 34) 10)]))), (17, .v (.lit [(.mm 12 0 10), (.sz (.s 33) 10), (.sz (.s 34) 10)]))]⟩)
(.block 0
 (.loop [0, 1, 2, 3, 4, 5, 6, 7, 8, 9, 10, 11, 12, 13, 14, 17]
  (.seq
  (.reg ⟨[], [], [(15, .v (.bin .lss (.s 13) (.s 14)))]⟩)
  (.seq
  (.cond (.s 15)
   .skip
   (.exit 0))
  (.seq
  (.block 1
   (.seq
   (.reg ⟨[], [], [(16, .m [(.fld (.flds (.idx (.s 17) (.s 13) 10) 0 10) 0), (.fld (.flds (.idx (.s 17) (.s 13) 10) 0 10) 1), (.fld (.flds (.idx (.s 17) (.s 13) 10) 0 10) 2), (.fld (.flds (.idx (.s 17) (.s 13) 10) 0 10) 3), (.fld (.flds (.idx (.s 17) (.s 13) 10) 0 10) 4), (.fld (.flds (.idx (.s 17) (.s 13) 10) 0 10) 5), (.fld (.flds (.idx (.s 17) (.s 13) 10) 0 10) 6), (.fld (.flds (.idx (.s 17) (.s 13) 10) 0 10) 7), (.fld (.flds (.idx (.s 17) (.s 13) 10) 0 10) 8), (.fld (.flds (.idx (.s 17) (.s 13) 10) 0 10) 9)])]⟩)
   (.seq
   (.reg ⟨[], [], [(18, .v (.bin .add (.m 16 0) (.bin .rem (.s 7) (.bin .add (.bin .mul (.c (.int .u64 (2))) (.conv .u64 (.mn (.mx (.m 16 1) (.c (.int .i64 (0)))) (.c (.int .i64 (5000)))))) (.c (.int .u64 (2)))))))]⟩)
   (.seq
   (.reg ⟨[.call 35 [] (.id 19) false false [(.mm 12 0 10), (.c (.int .i64 (3))), (.s 5)], .call 36 [] (.id 19) false false [(.mm 12 0 10), (.c (.int .i64 (4))), (.s 5)], .call 37 [] (.id 19) false false [(.mm 12 0 10), (.c (.int .i64 (1))), (.s 5)]], [], [(19, .v (.c (.int .i64 (0)))), (20, .v (.len (.lit [(.one (.s 6)), (.bin .add (.bin .mul (.c (.int .u64 (2))) (.s 18)) (.c (.int .u64 (1)))), (.one (.s 35)), (.one (.s 36)), (.one (.s 37)), (.c (.int .u64 (0)))]))), (23, .v (.lit [(.one (.s 6)), (.bin .add (.bin .mul (.c (.int .u64 (2))) (.s 18)) (.c (.int .u64 (1)))), (.one (.s 35)), (.one (.s 36)), (.one (.s 37)), (.c (.int .u64 (0)))]))]⟩)
   (.block 2
    (.loop [0, 1, 2, 3, 4, 5, 6, 7, 8, 9, 10, 11, 12, 13, 14, 15, 16, 17, 18, 19, 20, 23]
     (.seq
     (.reg ⟨[], [], [(21, .v (.bin .lss (.s 19) (.s 20)))]⟩)
     (.seq
     (.cond (.s 21)
      .skip
      (.exit 2))
     (.seq
     (.block 3
      (.seq
      (.reg ⟨[], [], [(22, .v (.fld (.idx (.s 23) (.s 19) 1) 0))]⟩)
      (.seq
      (.reg ⟨[.call 38 [] (.id 20) false false [(.mm 16 0 10), (.s 22)]], [], [(24, .m [(.fld (.sz (.ext (.s 38) 1) 10) 0), (.fld (.sz (.ext (.s 38) 1) 10) 1), (.fld (.sz (.ext (.s 38) 1) 10) 2), (.fld (.sz (.ext (.s 38) 1) 10) 3), (.fld (.sz (.ext (.s 38) 1) 10) 4), (.fld (.sz (.ext (.s 38) 1) 10) 5), (.fld (.sz (.ext (.s 38) 1) 10) 6), (.fld (.sz (.ext (.s 38) 1) 10) 7), (.fld (.sz (.ext (.s 38) 1) 10) 8), (.fld (.sz (.ext (.s 38) 1) 10) 9)]), (25, .v (.ext (.s 38) 0)), (26, .v (.ext (.s 38) 2))]⟩)
      (.seq
      (.reg ⟨[.call 39 [] (.id 21) false false [(.mm 16 0 10), (.s 22)]], [], [(27, .m [(.fld (.sz (.ext (.s 39) 1) 10) 0), (.fld (.sz (.ext (.s 39) 1) 10) 1), (.fld (.sz (.ext (.s 39) 1) 10) 2), (.fld (.sz (.ext (.s 39) 1) 10) 3), (.fld (.sz (.ext (.s 39) 1) 10) 4), (.fld (.sz (.ext (.s 39) 1) 10) 5), (.fld (.sz (.ext (.s 39) 1) 10) 6), (.fld (.sz (.ext (.s 39) 1) 10) 7), (.fld (.sz (.ext (.s 39) 1) 10) 8), (.fld (.sz (.ext (.s 39) 1) 10) 9)]), (28, .v (.ext (.s 39) 0)), (29, .v (.ext (.s 39) 2))]⟩)
      (.seq
      (.reg ⟨[.lt 40 [] (.bin .neq (.s 25) (.s 28)), .lt 41 [] (.ite (.s 40) (.c (.bool true)) (.bin .neq (.s 26) (.s 29))), .call 42 [(41, false)] (.id 22) false false [(.mm 24 0 10), (.mm 27 0 10)], .lt 43 [] (.ite (.s 41) (.c (.bool true)) (.un .not (.s 42))), .call 44 [(43, false)] (.id 23) false false [(.mm 16 0 10), (.s 22)], .call 45 [(43, false)] (.id 24) false false [(.mm 16 0 10), (.s 22)]], [([(40, false)], (.bin .neq (.s 26) (.s 29))), ([(41, false)], (.un .not (.s 42))), ([(43, false)], (.eqv true (.s 44) (.s 45)))], [(30, .v (.ite (.s 43) (.c (.bool true)) (.eqv true (.s 44) (.s 45))))]⟩)
      (.cond (.s 30)
       (.seq
       (.reg ⟨[], [], [(10, .v (.c (.bool false)))]⟩)
       .ret)
       .skip))))))
     (.reg ⟨[], [], [(19, .v (.bin .add (.s 19) (.c (.int .i64 (1)))))]⟩))))))))))
  (.reg ⟨[], [], [(13, .v (.bin .add (.s 13) (.c (.int .i64 (1)))))]⟩)))))))
(.seq
(.reg ⟨[], [], [(10, .v (.s 11))]⟩)
.ret))))),
[(10, .v)]⟩
theorem c3 : compFn Try.prog fresh sig [.fz, .fz, .fz, .fz, .fz, .fz, .fz, .fz] [] Try.f3 = some p3 := by kernel_rfl
/-- cromlech/cromlechlaw13.ForwardAgain -/
def p4 : Fn := ⟨30, [0, 1, 2, 3, 4, 8, 9, 10, 11, 12, 14, 13, 15, 17, 16, 18, 20, 19, 21, 99, 23, 22, 24, 26, 25, 27, 29, 28, 30, 139],
(.seq
(.reg ⟨[], [], [(4, .m [(.fld (.sz (.s 0) 7) 0), (.fld (.sz (.s 0) 7) 1), (.fld (.sz (.s 0) 7) 2), (.fld (.sz (.s 0) 7) 3), (.fld (.sz (.s 0) 7) 4), (.fld (.sz (.s 0) 7) 5), (.fld (.sz (.s 0) 7) 6)]), (5, .v (.c (.bool false)))]⟩)
(.seq
(.reg ⟨[.call 30 [] (.id 15) false false []], [], [(6, .v (.s 30))]⟩)
(.seq
(.reg ⟨[.call 31 [] (.id 16) false false [(.mm 4 0 7)]], [], [(7, .m [(.fld (.sz (.s 31) 10) 0), (.fld (.sz (.s 31) 10) 1), (.fld (.sz (.s 31) 10) 2), (.fld (.sz (.s 31) 10) 3), (.fld (.sz (.s 31) 10) 4), (.fld (.sz (.s 31) 10) 5), (.fld (.sz (.s 31) 10) 6), (.fld (.sz (.s 31) 10) 7), (.fld (.sz (.s 31) 10) 8), (.fld (.sz (.s 31) 10) 9)])]⟩)
(.seq
(.reg ⟨[.call 32 [] (.id 25) false false [(.s 1), (.c (.int .i64 (4)))], .call 33 [] (.id 19) false false [(.mm 7 0 10), (.bin .add (.c (.int .i64 (1))) (.s 32)), (.s 2)]], [], [(8, .v (.s 33))]⟩)
(.seq
(.reg ⟨[.call 34 [] (.id 25) false false [(.bin .quo (.s 1) (.c (.int .i64 (4)))), (.c (.int .i64 (4)))], .call 35 [] (.id 19) false false [(.mm 7 0 10), (.bin .add (.c (.int .i64 (1))) (.s 34)), (.s 3)]], [], [(9, .v (.s 35))]⟩)
(.seq
(.reg ⟨[.call 36 [] (.id 20) false false [(.mm 7 0 10), (.s 8)]], [], [(10, .m [(.fld (.sz (.ext (.s 36) 1) 10) 0), (.fld (.sz (.ext (.s 36) 1) 10) 1), (.fld (.sz (.ext (.s 36) 1) 10) 2), (.fld (.sz (.ext (.s 36) 1) 10) 3), (.fld (.sz (.ext (.s 36) 1) 10) 4), (.fld (.sz (.ext (.s 36) 1) 10) 5), (.fld (.sz (.ext (.s 36) 1) 10) 6), (.fld (.sz (.ext (.s 36) 1) 10) 7), (.fld (.sz (.ext (.s 36) 1) 10) 8), (.fld (.sz (.ext (.s 36) 1) 10) 9)]), (11, .v (.ext (.s 36) 0)), (12, .v (.ext (.s 36) 2))]⟩)
(.seq
(.reg ⟨[.call 37 [] (.id 20) false false [(.mm 10 0 10), (.s 8)]], [], [(13, .m [(.fld (.sz (.ext (.s 37) 1) 10) 0), (.fld (.sz (.ext (.s 37) 1) 10) 1), (.fld (.sz (.ext (.s 37) 1) 10) 2), (.fld (.sz (.ext (.s 37) 1) 10) 3), (.fld (.sz (.ext (.s 37) 1) 10) 4), (.fld (.sz (.ext (.s 37) 1) 10) 5), (.fld (.sz (.ext (.s 37) 1) 10) 6), (.fld (.sz (.ext (.s 37) 1) 10) 7), (.fld (.sz (.ext (.s 37) 1) 10) 8), (.fld (.sz (.ext (.s 37) 1) 10) 9)]), (14, .v (.ext (.s 37) 0)), (15, .v (.ext (.s 37) 2))]⟩)
(.seq
(.reg ⟨[.call 38 [] (.id 20) false false [(.mm 10 0 10), (.s 11)]], [], [(16, .m [(.fld (.sz (.ext (.s 38) 1) 10) 0), (.fld (.sz (.ext (.s 38) 1) 10) 1), (.fld (.sz (.ext (.s 38) 1) 10) 2), (.fld (.sz (.ext (.s 38) 1) 10) 3), (.fld (.sz (.ext (.s 38) 1) 10) 4), (.fld (.sz (.ext (.s 38) 1) 10) 5), (.fld (.sz (.ext (.s 38) 1) 10) 6), (.fld (.sz (.ext (.s 38) 1) 10) 7), (.fld (.sz (.ext (.s 38) 1) 10) 8), (.fld (.sz (.ext (.s 38) 1) 10) 9)]), (17, .v (.ext (.s 38) 0)), (18, .v (.ext (.s 38) 2))]⟩)
(.seq
(.seq
(.reg ⟨[.lt 39 [] (.bin .neq (.s 12) (.c (.int .i64 (0)))), .lt 40 [] (.ite (.s 39) (.c (.bool true)) (.bin .neq (.s 15) (.c (.int .i64 (0))))), .lt 41 [] (.ite (.s 40) (.c (.bool true)) (.bin .neq (.s 18) (.c (.int .i64 (0))))), .lt 42 [] (.ite (.s 41) (.c (.bool true)) (.bin .neq (.s 11) (.s 14))), .lt 43 [] (.ite (.s 42) (.c (.bool true)) (.bin .neq (.s 11) (.s 17))), .call 44 [(43, false)] (.id 22) false false [(.mm 10 0 10), (.mm 13 0 10)], .lt 45 [] (.ite (.s 43) (.c (.bool true)) (.un .not (.s 44))), .call 46 [(45, false)] (.id 22) false false [(.mm 10 0 10), (.mm 16 0 10)]], [([(39, false)], (.bin .neq (.s 15) (.c (.int .i64 (0))))), ([(40, false)], (.bin .neq (.s 18) (.c (.int .i64 (0))))), ([(41, false)], (.bin .neq (.s 11) (.s 14))), ([(42, false)], (.bin .neq (.s 11) (.s 17))), ([(43, false)], (.un .not (.s 44))), ([(45, false)], (.un .not (.s 46)))], [(19, .v (.ite (.s 45) (.c (.bool true)) (.un .not (.s 46))))]⟩)
(.cond (.s 19)
 (.seq
 (.reg ⟨[], [], [(5, .v (.c (.bool false)))]⟩)
 .ret)
 .skip))
(.seq
(.reg ⟨[.call 47 [] (.id 20) false false [(.mm 10 0 10), (.s 9)]], [], [(20, .m [(.fld (.sz (.ext (.s 47) 1) 10) 0), (.fld (.sz (.ext (.s 47) 1) 10) 1), (.fld (.sz (.ext (.s 47) 1) 10) 2), (.fld (.sz (.ext (.s 47) 1) 10) 3), (.fld (.sz (.ext (.s 47) 1) 10) 4), (.fld (.sz (.ext (.s 47) 1) 10) 5), (.fld (.sz (.ext (.s 47) 1) 10) 6), (.fld (.sz (.ext (.s 47) 1) 10) 7), (.fld (.sz (.ext (.s 47) 1) 10) 8), (.fld (.sz (.ext (.s 47) 1) 10) 9)]), (21, .v (.ext (.s 47) 0)), (22, .v (.ext (.s 47) 2))]⟩)
(.seq
(.reg ⟨[.call 48 [] (.id 20) false false [(.mm 7 0 10), (.s 9)]], [], [(23, .m [(.fld (.sz (.ext (.s 48) 1) 10) 0), (.fld (.sz (.ext (.s 48) 1) 10) 1), (.fld (.sz (.ext (.s 48) 1) 10) 2), (.fld (.sz (.ext (.s 48) 1) 10) 3), (.fld (.sz (.ext (.s 48) 1) 10) 4), (.fld (.sz (.ext (.s 48) 1) 10) 5), (.fld (.sz (.ext (.s 48) 1) 10) 6), (.fld (.sz (.ext (.s 48) 1) 10) 7), (.fld (.sz (.ext (.s 48) 1) 10) 8), (.fld (.sz (.ext (.s 48) 1) 10) 9)]), (24, .v (.ext (.s 48) 0)), (25, .v (.ext (.s 48) 2))]⟩)
(.seq
(.reg ⟨[.call 49 [] (.id 20) false false [(.mm 23 0 10), (.s 8)]], [], [(26, .m [(.fld (.sz (.ext (.s 49) 1) 10) 0), (.fld (.sz (.ext (.s 49) 1) 10) 1), (.fld (.sz (.ext (.s 49) 1) 10) 2), (.fld (.sz (.ext (.s 49) 1) 10) 3), (.fld (.sz (.ext (.s 49) 1) 10) 4), (.fld (.sz (.ext (.s 49) 1) 10) 5), (.fld (.sz (.ext (.s 49) 1) 10) 6), (.fld (.sz (.ext (.s 49) 1) 10) 7), (.fld (.sz (.ext (.s 49) 1) 10) 8), (.fld (.sz (.ext (.s 49) 1) 10) 9)]), (27, .v (.ext (.s 49) 0)), (28, .v (.ext (.s 49) 2))]⟩)
(.seq
(.seq
(.reg ⟨[.lt 50 [] (.bin .neq (.s 22) (.c (.int .i64 (0)))), .lt 51 [] (.ite (.s 50) (.c (.bool true)) (.bin .neq (.s 25) (.c (.int .i64 (0))))), .lt 52 [] (.ite (.s 51) (.c (.bool true)) (.bin .neq (.s 28) (.c (.int .i64 (0)))))], [([(50, false)], (.bin .neq (.s 25) (.c (.int .i64 (0))))), ([(51, false)], (.bin .neq (.s 28) (.c (.int .i64 (0))))), ([(52, false)], (.bin .lss (.len (.m 20 5)) (.len (.m 23 5))))], [(29, .v (.ite (.s 52) (.c (.bool true)) (.bin .lss (.len (.m 20 5)) (.len (.m 23 5)))))]⟩)
(.cond (.s 29)
 (.seq
 (.reg ⟨[], [], [(5, .v (.c (.bool false)))]⟩)
 .ret)
 .skip))
(.seq
(.reg ⟨[.lt 53 [] (.s 6)], [([(53, true)], (.eqv false (.bin .eql (.s 21) (.s 11)) (.bin .eql (.s 27) (.s 24))))], [(5, .v (.ite (.s 53) (.eqv false (.bin .eql (.s 21) (.s 11)) (.bin .eql (.s 27) (.s 24))) (.c (.bool false))))]⟩)
.ret)))))))))))))),
[(5, .v)]⟩
theorem c4 : compFn Try.prog fresh sig [.fz, .fz, .fz, .fz] [] Try.f4 = some p4 := by kernel_rfl
/-- cromlech/cromlechlaw13.awake -/
def p15 : Fn := ⟨20, [0, 1, 3, 2, 4, 6, 5, 7, 9, 8, 10, 12, 11, 13, 15, 14, 16, 18, 17, 19],
(.seq
(.reg ⟨[], [], [(0, .v (.c (.bool false)))]⟩)
(.seq
(.reg ⟨[], [([], (.ag [(.c (.int .u64 (10))), (.c (.int .i64 (5))), (.c (.int .i64 (1))), (.c (.bool false)), (.c (.int .i64 (0))), (.c (.sl [])), (.c (.sl [])), (.lit [(.c (.int .u64 (2))), (.c (.int .u64 (6)))]), (.c (.sl [])), (.c (.sl []))]))], [(1, .m [(.c (.int .u64 (10))), (.c (.int .i64 (5))), (.c (.int .i64 (1))), (.c (.bool false)), (.c (.int .i64 (0))), (.c (.sl [])), (.c (.sl [])), (.lit [(.c (.int .u64 (2))), (.c (.int .u64 (6)))]), (.c (.sl [])), (.c (.sl []))])]⟩)
(.seq
(.reg ⟨[.call 20 [] (.id 20) false false [(.mm 1 0 10), (.c (.int .u64 (21)))]], [], [(2, .m [(.fld (.sz (.ext (.s 20) 1) 10) 0), (.fld (.sz (.ext (.s 20) 1) 10) 1), (.fld (.sz (.ext (.s 20) 1) 10) 2), (.fld (.sz (.ext (.s 20) 1) 10) 3), (.fld (.sz (.ext (.s 20) 1) 10) 4), (.fld (.sz (.ext (.s 20) 1) 10) 5), (.fld (.sz (.ext (.s 20) 1) 10) 6), (.fld (.sz (.ext (.s 20) 1) 10) 7), (.fld (.sz (.ext (.s 20) 1) 10) 8), (.fld (.sz (.ext (.s 20) 1) 10) 9)]), (3, .v (.fl (.ext (.s 20) 0))), (4, .v (.fl (.ext (.s 20) 2)))]⟩)
(.seq
(.reg ⟨[.call 21 [] (.id 20) false false [(.mm 2 0 10), (.c (.int .u64 (21)))]], [], [(5, .m [(.fld (.sz (.ext (.s 21) 1) 10) 0), (.fld (.sz (.ext (.s 21) 1) 10) 1), (.fld (.sz (.ext (.s 21) 1) 10) 2), (.fld (.sz (.ext (.s 21) 1) 10) 3), (.fld (.sz (.ext (.s 21) 1) 10) 4), (.fld (.sz (.ext (.s 21) 1) 10) 5), (.fld (.sz (.ext (.s 21) 1) 10) 6), (.fld (.sz (.ext (.s 21) 1) 10) 7), (.fld (.sz (.ext (.s 21) 1) 10) 8), (.fld (.sz (.ext (.s 21) 1) 10) 9)]), (6, .v (.ext (.s 21) 0)), (7, .v (.ext (.s 21) 2))]⟩)
(.seq
(.reg ⟨[.call 22 [] (.id 20) false false [(.mm 1 0 10), (.c (.int .u64 (25)))]], [], [(8, .m [(.fld (.sz (.ext (.s 22) 1) 10) 0), (.fld (.sz (.ext (.s 22) 1) 10) 1), (.fld (.sz (.ext (.s 22) 1) 10) 2), (.fld (.sz (.ext (.s 22) 1) 10) 3), (.fld (.sz (.ext (.s 22) 1) 10) 4), (.fld (.sz (.ext (.s 22) 1) 10) 5), (.fld (.sz (.ext (.s 22) 1) 10) 6), (.fld (.sz (.ext (.s 22) 1) 10) 7), (.fld (.sz (.ext (.s 22) 1) 10) 8), (.fld (.sz (.ext (.s 22) 1) 10) 9)]), (9, .v (.ext (.s 22) 0)), (10, .v (.ext (.s 22) 2))]⟩)
(.seq
(.reg ⟨[.call 23 [] (.id 20) false false [(.mm 1 0 10), (.c (.int .u64 (4)))]], [], [(11, .m [(.fld (.sz (.ext (.s 23) 1) 10) 0), (.fld (.sz (.ext (.s 23) 1) 10) 1), (.fld (.sz (.ext (.s 23) 1) 10) 2), (.fld (.sz (.ext (.s 23) 1) 10) 3), (.fld (.sz (.ext (.s 23) 1) 10) 4), (.fld (.sz (.ext (.s 23) 1) 10) 5), (.fld (.sz (.ext (.s 23) 1) 10) 6), (.fld (.sz (.ext (.s 23) 1) 10) 7), (.fld (.sz (.ext (.s 23) 1) 10) 8), (.fld (.sz (.ext (.s 23) 1) 10) 9)]), (12, .v (.ext (.s 23) 0)), (13, .v (.ext (.s 23) 2))]⟩)
(.seq
(.reg ⟨[.call 24 [] (.id 20) false false [(.ag [(.c (.int .u64 (0))), (.c (.int .i64 (0))), (.c (.int .i64 (0))), (.c (.bool false)), (.c (.int .i64 (0))), (.c (.sl [])), (.c (.sl [])), (.c (.sl [])), (.c (.sl [])), (.c (.sl []))]), (.c (.int .u64 (0)))]], [], [(14, .m [(.fld (.sz (.ext (.s 24) 1) 10) 0), (.fld (.sz (.ext (.s 24) 1) 10) 1), (.fld (.sz (.ext (.s 24) 1) 10) 2), (.fld (.sz (.ext (.s 24) 1) 10) 3), (.fld (.sz (.ext (.s 24) 1) 10) 4), (.fld (.sz (.ext (.s 24) 1) 10) 5), (.fld (.sz (.ext (.s 24) 1) 10) 6), (.fld (.sz (.ext (.s 24) 1) 10) 7), (.fld (.sz (.ext (.s 24) 1) 10) 8), (.fld (.sz (.ext (.s 24) 1) 10) 9)]), (15, .v (.ext (.s 24) 0)), (16, .v (.ext (.s 24) 2))]⟩)
(.seq
(.reg ⟨[.call 25 [] (.id 20) false false [(.mm 1 0 10), (.c (.int .u64 (0)))]], [], [(17, .m [(.fld (.sz (.ext (.s 25) 1) 10) 0), (.fld (.sz (.ext (.s 25) 1) 10) 1), (.fld (.sz (.ext (.s 25) 1) 10) 2), (.fld (.sz (.ext (.s 25) 1) 10) 3), (.fld (.sz (.ext (.s 25) 1) 10) 4), (.fld (.sz (.ext (.s 25) 1) 10) 5), (.fld (.sz (.ext (.s 25) 1) 10) 6), (.fld (.sz (.ext (.s 25) 1) 10) 7), (.fld (.sz (.ext (.s 25) 1) 10) 8), (.fld (.sz (.ext (.s 25) 1) 10) 9)]), (18, .v (.ext (.s 25) 0)), (19, .v (.ext (.s 25) 2))]⟩)
(.seq
(.reg ⟨[.lt 26 [] (.bin .eql (.s 4) (.c (.int .i64 (0)))), .lt 27 [] (.ite (.s 26) (.bin .eql (.s 3) (.c (.int .u64 (31)))) (.c (.bool false))), .call 28 [(27, true)] (.id 22) false false [(.mm 2 0 10), (.ag [(.c (.int .u64 (10))), (.c (.int .i64 (5))), (.c (.int .i64 (1))), (.c (.bool false)), (.c (.int .i64 (0))), (.lit [(.c (.int .u64 (2))), (.c (.int .u64 (6)))]), (.c (.sl [])), (.lit [(.c (.int .u64 (31))), (.c (.int .u64 (0)))]), (.c (.sl [])), (.c (.sl []))])], .lt 29 [] (.ite (.s 27) (.s 28) (.c (.bool false))), .lt 30 [] (.ite (.s 29) (.bin .eql (.s 7) (.c (.int .i64 (0)))) (.c (.bool false))), .lt 31 [] (.ite (.s 30) (.bin .eql (.s 6) (.c (.int .u64 (31)))) (.c (.bool false))), .call 32 [(31, true)] (.id 22) false false [(.mm 5 0 10), (.mm 2 0 10)], .lt 33 [] (.ite (.s 31) (.s 32) (.c (.bool false))), .lt 34 [] (.ite (.s 33) (.bin .eql (.s 10) (.c (.int .i64 (6)))) (.c (.bool false))), .lt 35 [] (.ite (.s 34) (.bin .eql (.s 13) (.c (.int .i64 (3)))) (.c (.bool false))), .lt 36 [] (.ite (.s 35) (.bin .eql (.s 16) (.c (.int .i64 (1)))) (.c (.bool false))), .lt 37 [] (.ite (.s 36) (.bin .eql (.s 18) (.c (.int .u64 (0)))) (.c (.bool false))), .lt 38 [] (.ite (.s 37) (.bin .eql (.s 19) (.c (.int .i64 (0)))) (.c (.bool false))), .call 39 [(38, true)] (.id 23) false false [(.mm 2 0 10), (.c (.int .u64 (31)))], .lt 40 [] (.ite (.s 38) (.s 39) (.c (.bool false))), .call 41 [(40, true)] (.id 23) false false [(.mm 2 0 10), (.c (.int .u64 (21)))], .lt 42 [] (.ite (.s 40) (.un .not (.s 41)) (.c (.bool false))), .call 43 [(42, true)] (.id 23) false false [(.mm 1 0 10), (.c (.int .u64 (0)))]], [([(26, true)], (.bin .eql (.s 3) (.c (.int .u64 (31))))), ([(29, true)], (.bin .eql (.s 7) (.c (.int .i64 (0))))), ([(30, true)], (.bin .eql (.s 6) (.c (.int .u64 (31))))), ([(33, true)], (.bin .eql (.s 10) (.c (.int .i64 (6))))), ([(34, true)], (.bin .eql (.s 13) (.c (.int .i64 (3))))), ([(35, true)], (.bin .eql (.s 16) (.c (.int .i64 (1))))), ([(36, true)], (.bin .eql (.s 18) (.c (.int .u64 (0))))), ([(37, true)], (.bin .eql (.s 19) (.c (.int .i64 (0))))), ([(40, true)], (.un .not (.s 41)))], [(0, .v (.ite (.s 42) (.s 43) (.c (.bool false))))]⟩)
.ret))))))))),
[(0, .v)]⟩
theorem c15 : compFn Try.prog fresh sig [] [] Try.f15 = some p15 := by kernel_rfl
/-- cromlech/forward.Gone -/
def p23 : Fn := ⟨7, [0, 1, 2, 4, 6, 5, 7],
(.seq
(.reg ⟨[], [], [(2, .m [(.fld (.sz (.s 0) 10) 0), (.fld (.sz (.s 0) 10) 1), (.fld (.sz (.s 0) 10) 2), (.fld (.sz (.s 0) 10) 3), (.fld (.sz (.s 0) 10) 4), (.fld (.sz (.s 0) 10) 5), (.fld (.sz (.s 0) 10) 6), (.fld (.sz (.s 0) 10) 7), (.fld (.sz (.s 0) 10) 8), (.fld (.sz (.s 0) 10) 9)]), (3, .v (.c (.bool false)))]⟩)
(.seq
(.reg ⟨[.call 7 [] (.id 20) false false [(.mm 2 0 10), (.s 1)]], [], [(4, .m [(.fld (.sz (.ext (.s 7) 1) 10) 0), (.fld (.sz (.ext (.s 7) 1) 10) 1), (.fld (.sz (.ext (.s 7) 1) 10) 2), (.fld (.sz (.ext (.s 7) 1) 10) 3), (.fld (.sz (.ext (.s 7) 1) 10) 4), (.fld (.sz (.ext (.s 7) 1) 10) 5), (.fld (.sz (.ext (.s 7) 1) 10) 6), (.fld (.sz (.ext (.s 7) 1) 10) 7), (.fld (.sz (.ext (.s 7) 1) 10) 8), (.fld (.sz (.ext (.s 7) 1) 10) 9)]), (5, .v (.ext (.s 7) 0)), (6, .v (.ext (.s 7) 2))]⟩)
(.seq
(.reg ⟨[.lt 8 [] (.bin .eql (.s 6) (.c (.int .i64 (0))))], [([(8, true)], (.bin .eql (.s 5) (.s 1)))], [(3, .v (.ite (.s 8) (.bin .eql (.s 5) (.s 1)) (.c (.bool false))))]⟩)
.ret))),
[(3, .v)]⟩
theorem c23 : compFn Try.prog fresh sig [.fz, .fz] [] Try.f23 = some p23 := by kernel_rfl
end Vm
