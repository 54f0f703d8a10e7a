import Derived.Test.YtflcdbfcipkhkaaAvL3
import Derived.Test.YtflcdbfcipkhkaaProg
import Derived.KernelRfl
import Derived.Laws.BitsLemmas
import Derived.Laws.Bits64
import Derived.IntWalk
import Derived.Test.YtflcdbfcipkhkaaAvAA
import Derived.Laws.Strings

set_option linter.unusedVariables false
set_option linter.unusedSimpArgs false

set_option maxRecDepth 100000
namespace Go.Proofs.Ytflcdbfcipkhkaa
open Go.Av
/-- bilander/bilanderref03.Light -/
def ac121 : AC :=
 (.seq
  (.reg [⟨(some 1), none, .box 6 (.t 0)⟩,
    ⟨(some 2), none, .mv (.c (.bool false))⟩])
  (.seq
   (.reg [⟨(some 3), none, .faddr (.t 1) 3⟩,
     ⟨(some 4), none, .load none (.t 3)⟩,
     ⟨(some 5), none, .len true (.t 4)⟩,
     ⟨(some 6), none, .bin .leq (.t 5) (.c (.int .i64 200))⟩,
     ⟨(some 7), none, .take 6⟩,
     ⟨(some 8), (some (7, true)), .faddr (.t 1) 5⟩,
     ⟨(some 9), (some (7, true)), .load none (.t 8)⟩,
     ⟨(some 10), (some (7, true)), .len true (.t 9)⟩,
     ⟨(some 11), (some (7, true)), .bin .leq (.t 10) (.c (.int .i64 700))⟩,
     ⟨(some 12), none, .pick (.t 7) (.t 11) (.c (.bool false))⟩,
     ⟨(some 2), none, .take 12⟩])
   .ret))
def ar121 : List AR := [.t 2]
theorem comp121 : Try.f121.body.bind (comp Try.prog 13) = some ac121 := by kernel_rfl
theorem cres121 : compRes Try.prog Try.f121.results.toList = some ar121 := by kernel_rfl
/-- bilander/record.Check -/
def ac124 : AC :=
 (.seq
  (.reg [⟨(some 1), none, .box 6 (.t 0)⟩,
    ⟨(some 2), none, .mv (.c (.int .i64 0))⟩])
  (.seq
   (.block 0
    (.seq
     (.seq
      (.reg [⟨(some 4), none, .faddr (.t 1) 0⟩,
        ⟨(some 5), none, .load none (.t 4)⟩,
        ⟨(some 6), none, .bin .lss (.t 5) (.c (.int .i64 0))⟩,
        ⟨(some 3), none, .take 6⟩])
      (.cond (.t 3)
       .skip
       (.seq
        (.reg [⟨(some 7), none, .faddr (.t 1) 0⟩,
          ⟨(some 8), none, .load none (.t 7)⟩,
          ⟨(some 9), none, .bin .geq (.t 8) (.c (.int .i64 32))⟩,
          ⟨(some 3), none, .take 9⟩])
        (.cond (.t 3)
         .skip
         (.seq
          (.reg [⟨(some 10), none, .faddr (.t 1) 1⟩,
            ⟨(some 11), none, .load none (.t 10)⟩,
            ⟨(some 12), none, .bin .lss (.t 11) (.c (.int .i64 0))⟩,
            ⟨(some 3), none, .take 12⟩])
          (.cond (.t 3)
           .skip
           (.reg [⟨(some 13), none, .faddr (.t 1) 1⟩,
             ⟨(some 14), none, .load none (.t 13)⟩,
             ⟨(some 15), none, .bin .gtr (.t 14) (.c (.int .i64 1099511627776))⟩,
             ⟨(some 3), none, .take 15⟩])))))))
     (.cond (.t 3)
      (.seq
       (.reg [⟨(some 2), none, .mv (.c (.int .i64 11))⟩])
       .ret)
      (.seq
       (.seq
        (.reg [⟨(some 17), none, .faddr (.t 1) 3⟩,
          ⟨(some 18), none, .load none (.t 17)⟩,
          ⟨(some 19), none, .len true (.t 18)⟩,
          ⟨(some 20), none, .bin .gtr (.t 19) (.c (.int .i64 64))⟩,
          ⟨(some 16), none, .take 20⟩])
        (.cond (.t 16)
         .skip
         (.reg [⟨(some 21), none, .faddr (.t 1) 5⟩,
           ⟨(some 22), none, .load none (.t 21)⟩,
           ⟨(some 23), none, .len true (.t 22)⟩,
           ⟨(some 24), none, .bin .gtr (.t 23) (.c (.int .i64 512))⟩,
           ⟨(some 16), none, .take 24⟩])))
       (.cond (.t 16)
        (.seq
         (.reg [⟨(some 2), none, .mv (.c (.int .i64 5))⟩])
         .ret)
        (.seq
         (.seq
          (.reg [⟨(some 26), none, .faddr (.t 1) 2⟩,
            ⟨(some 27), none, .load none (.t 26)⟩,
            ⟨(some 28), none, .una .not (.t 27)⟩,
            ⟨(some 29), none, .take 28⟩,
            ⟨(some 30), (some (29, true)), .faddr (.t 1) 3⟩,
            ⟨(some 31), (some (29, true)), .load none (.t 30)⟩,
            ⟨(some 32), (some (29, true)), .bin .neq (.t 31) (.c (.str (ByteArray.mk #[])))⟩,
            ⟨(some 33), (some (29, true)), .take 32⟩,
            ⟨(some 34), (some (33, false)), .faddr (.t 1) 4⟩,
            ⟨(some 35), (some (33, false)), .load none (.t 34)⟩,
            ⟨(some 36), (some (29, true)), .pick (.t 33) (.c (.bool true)) (.t 35)⟩,
            ⟨(some 37), none, .pick (.t 29) (.t 36) (.c (.bool false))⟩,
            ⟨(some 25), none, .take 37⟩])
          (.cond (.t 25)
           .skip
           (.reg [⟨(some 38), none, .faddr (.t 1) 4⟩,
             ⟨(some 39), none, .load none (.t 38)⟩,
             ⟨(some 40), none, .take 39⟩,
             ⟨(some 41), (some (40, true)), .faddr (.t 1) 5⟩,
             ⟨(some 42), (some (40, true)), .load none (.t 41)⟩,
             ⟨(some 43), (some (40, true)), .bin .neq (.t 42) (.c (.str (ByteArray.mk #[])))⟩,
             ⟨(some 44), none, .pick (.t 40) (.t 43) (.c (.bool false))⟩,
             ⟨(some 25), none, .take 44⟩])))
         (.cond (.t 25)
          (.seq
           (.reg [⟨(some 2), none, .mv (.c (.int .i64 4))⟩])
           .ret)
          .skip)))))))
   (.seq
    (.reg [⟨(some 2), none, .mv (.c (.int .i64 0))⟩])
    .ret)))
def ar124 : List AR := [.t 2]
theorem comp124 : Try.f124.body.bind (comp Try.prog 45) = some ac124 := by kernel_rfl
theorem cres124 : compRes Try.prog Try.f124.results.toList = some ar124 := by kernel_rfl
/-- bilander/bilanderref03.SameAll -/
def ac135 : AC :=
 (.seq
  (.reg [⟨(some 4), none, .mv (.c (.bool false))⟩])
  (.seq
   (.seq
    (.reg [⟨(some 6), none, .mv (.t 0)⟩,
      ⟨(some 7), none, .len false (.t 6)⟩,
      ⟨(some 8), none, .mv (.t 1)⟩,
      ⟨(some 9), none, .len false (.t 8)⟩,
      ⟨(some 10), none, .bin .neq (.t 7) (.t 9)⟩])
    (.cond (.t 10)
     (.seq
      (.reg [⟨(some 4), none, .mv (.c (.bool false))⟩])
      .ret)
     .skip))
   (.seq
    (.seq
     (.reg [⟨(some 5), none, .mv (.c (.int .i64 0))⟩])
     (.block 0
      (.loop
       (.seq
        (.seq
         (.reg [⟨(some 11), none, .mv (.t 5)⟩,
           ⟨(some 12), none, .mv (.t 0)⟩,
           ⟨(some 13), none, .len false (.t 12)⟩,
           ⟨(some 14), none, .bin .lss (.t 11) (.t 13)⟩])
         (.cond (.t 14)
          .skip
          (.exit 0)))
        (.seq
         (.block 1
          (.seq
           (.dreg [] [⟨(some 17), none, .mv (.t 0)⟩,
             ⟨(some 18), none, .mv (.t 5)⟩,
             ⟨(some 19), none, .iaddr 6 (.t 17) (.t 18)⟩,
             ⟨(some 20), none, .load (some 6) (.t 19)⟩,
             ⟨(some 21), none, .mv (.t 1)⟩,
             ⟨(some 22), none, .mv (.t 5)⟩,
             ⟨(some 23), none, .iaddr 6 (.t 21) (.t 22)⟩,
             ⟨(some 24), none, .load (some 6) (.t 23)⟩,
             ⟨(some 25), none, .call 156 [(.t 20), (.t 24)]⟩,
             ⟨(some 26), none, .una .not (.t 25)⟩])
           (.cond (.t 26)
            (.seq
             (.reg [⟨(some 4), none, .mv (.c (.bool false))⟩])
             .ret)
            .skip)))
         (.reg [⟨(some 15), none, .take 5⟩,
           ⟨(some 16), none, .bin .add (.t 15) (.c (.int .i64 1))⟩,
           ⟨(some 5), none, .take 16⟩]))))))
    (.seq
     (.reg [⟨(some 4), none, .mv (.c (.bool true))⟩])
     .ret))))
def ar135 : List AR := [.t 4]
theorem comp135 : Try.f135.body.bind (comp Try.prog 27) = some ac135 := by kernel_rfl
theorem cres135 : compRes Try.prog Try.f135.results.toList = some ar135 := by kernel_rfl
/-- bilander/record.Get -/
def ac137 : AC :=
 (.seq
  (.reg [⟨(some 2), none, .alloc [(.int .i64 0), (.int .i64 0), (.bool false), (.str (ByteArray.mk #[])), (.bool false), (.str (ByteArray.mk #[]))]⟩,
    ⟨(some 3), none, .mv (.c (.int .i64 0))⟩])
  (.seq
   (.reg [⟨(some 7), none, .mv (.t 0)⟩,
     ⟨(some 8), none, .callE 20 (.t 7) [(.c (.int .i64 1))]⟩,
     ⟨(some 4), none, .take 8⟩])
   (.seq
    (.reg [⟨(some 9), none, .mv (.t 0)⟩,
      ⟨(some 10), none, .callE 18 (.t 9) []⟩,
      ⟨(some 11), none, .mv (.t 0)⟩,
      ⟨(some 12), none, .callE 18 (.t 11) []⟩,
      ⟨(some 13), none, .mv (.t 4)⟩,
      ⟨(some 14), none, .bin .and (.t 13) (.c (.int .u64 1))⟩,
      ⟨(some 15), none, .bin .neq (.t 14) (.c (.int .u64 0))⟩,
      ⟨(some 16), none, .mv (.t 4)⟩,
      ⟨(some 17), none, .bin .and (.t 16) (.c (.int .u64 2))⟩,
      ⟨(some 18), none, .bin .neq (.t 17) (.c (.int .u64 0))⟩,
      ⟨(some 19), none, .build [(.int .i64 0), (.int .i64 0), (.bool false), (.str (ByteArray.mk #[])), (.bool false), (.str (ByteArray.mk #[]))] [(0, 1, (.t 10)), (1, 1, (.t 12)), (2, 1, (.t 15)), (4, 1, (.t 18))]⟩,
      ⟨(some 5), none, .alloc [(.int .i64 0), (.int .i64 0), (.bool false), (.str (ByteArray.mk #[])), (.bool false), (.str (ByteArray.mk #[]))]⟩,
      ⟨none, none, .store 6 (.t 5) (.t 19)⟩])
    (.seq
     (.seq
      (.reg [⟨(some 20), none, .faddr (.t 5) 2⟩,
        ⟨(some 21), none, .load none (.t 20)⟩])
      (.cond (.t 21)
       (.reg [⟨(some 22), none, .mv (.t 0)⟩,
         ⟨(some 23), none, .callE 22 (.t 22) [(.c (.int .i64 64))]⟩,
         ⟨(some 24), none, .faddr (.t 5) 3⟩,
         ⟨none, none, .store 1 (.t 24) (.t 23)⟩])
       .skip))
     (.seq
      (.seq
       (.reg [⟨(some 25), none, .faddr (.t 5) 4⟩,
         ⟨(some 26), none, .load none (.t 25)⟩,
         ⟨(some 27), none, .una .not (.t 26)⟩])
       (.cond (.t 27)
        (.reg [⟨(some 28), none, .mv (.t 0)⟩,
          ⟨(some 29), none, .callE 22 (.t 28) [(.c (.int .i64 512))]⟩,
          ⟨(some 30), none, .faddr (.t 5) 5⟩,
          ⟨none, none, .store 1 (.t 30) (.t 29)⟩])
        .skip))
      (.seq
       (.seq
        (.reg [⟨(some 31), none, .mv (.t 0)⟩,
          ⟨(some 32), none, .callE 24 (.t 31) []⟩,
          ⟨(some 6), none, .take 32⟩])
        (.seq
         (.reg [⟨(some 33), none, .mv (.t 6)⟩,
           ⟨(some 34), none, .bin .neq (.t 33) (.c (.int .i64 0))⟩])
         (.cond (.t 34)
          (.seq
           (.reg [⟨(some 35), none, .build [(.int .i64 0), (.int .i64 0), (.bool false), (.str (ByteArray.mk #[])), (.bool false), (.str (ByteArray.mk #[]))] []⟩,
             ⟨(some 36), none, .take 6⟩,
             ⟨none, none, .store 6 (.t 2) (.t 35)⟩,
             ⟨(some 3), none, .take 36⟩])
           .ret)
          .skip)))
       (.seq
        (.seq
         (.reg [⟨(some 37), none, .mv (.t 4)⟩,
           ⟨(some 38), none, .bin .geq (.t 37) (.c (.int .u64 4))⟩,
           ⟨(some 39), none, .take 38⟩,
           ⟨(some 40), (some (39, false)), .load (some 6) (.t 5)⟩,
           ⟨(some 41), (some (39, false)), .call 124 [(.t 40)]⟩,
           ⟨(some 42), (some (39, false)), .bin .neq (.t 41) (.c (.int .i64 0))⟩,
           ⟨(some 43), none, .pick (.t 39) (.c (.bool true)) (.t 42)⟩])
         (.cond (.t 43)
          (.seq
           (.reg [⟨(some 44), none, .build [(.int .i64 0), (.int .i64 0), (.bool false), (.str (ByteArray.mk #[])), (.bool false), (.str (ByteArray.mk #[]))] []⟩,
             ⟨none, none, .store 6 (.t 2) (.t 44)⟩,
             ⟨(some 3), none, .mv (.c (.int .i64 4))⟩])
           .ret)
          .skip))
        (.seq
         (.reg [⟨(some 45), none, .load (some 6) (.t 5)⟩,
           ⟨none, none, .store 6 (.t 2) (.t 45)⟩,
           ⟨(some 3), none, .mv (.c (.int .i64 0))⟩])
         .ret))))))))
def ar137 : List AR := [.c 2 (some 6), .t 3]
theorem comp137 : Try.f137.body.bind (comp Try.prog 46) = some ac137 := by kernel_rfl
theorem cres137 : compRes Try.prog Try.f137.results.toList = some ar137 := by kernel_rfl
/-- bilander/bilanderref03.Get -/
def ac139 : AC :=
 (.seq
  (.reg [⟨(some 1), none, .box 2 (.t 0)⟩,
    ⟨(some 2), none, .alloc [.nils, (.int .i64 0)]⟩,
    ⟨(some 3), none, .alloc [(.int .i64 0), (.int .i64 0), (.bool false), (.str (ByteArray.mk #[])), (.bool false), (.str (ByteArray.mk #[]))]⟩,
    ⟨(some 4), none, .mv (.c (.int .i64 0))⟩])
  (.seq
   (.reg [⟨(some 8), none, .load (some 2) (.t 1)⟩,
     ⟨(some 9), none, .call 19 [(.t 8), (.c (.int .i64 1))]⟩,
     ⟨(some 7), none, .take 9⟩,
     ⟨(some 10), none, .extS 7 0⟩,
     ⟨(some 11), none, .ext 7 1⟩,
     ⟨none, none, .store 2 (.t 1) (.t 10)⟩,
     ⟨(some 5), none, .take 11⟩])
   (.seq
    (.reg [⟨(some 12), none, .mv (.t 5)⟩,
      ⟨(some 13), none, .bin .rem (.t 12) (.c (.int .u64 2))⟩,
      ⟨(some 14), none, .bin .eql (.t 13) (.c (.int .u64 1))⟩,
      ⟨(some 15), none, .mv (.t 5)⟩,
      ⟨(some 16), none, .bin .quo (.t 15) (.c (.int .u64 2))⟩,
      ⟨(some 17), none, .bin .rem (.t 16) (.c (.int .u64 2))⟩,
      ⟨(some 18), none, .bin .eql (.t 17) (.c (.int .u64 1))⟩,
      ⟨(some 19), none, .build [(.int .i64 0), (.int .i64 0), (.bool false), (.str (ByteArray.mk #[])), (.bool false), (.str (ByteArray.mk #[]))] [(2, 1, (.t 14)), (4, 1, (.t 18))]⟩,
      ⟨(some 6), none, .alloc [(.int .i64 0), (.int .i64 0), (.bool false), (.str (ByteArray.mk #[])), (.bool false), (.str (ByteArray.mk #[]))]⟩,
      ⟨none, none, .store 6 (.t 6) (.t 19)⟩])
    (.seq
     (.reg [⟨(some 21), none, .load (some 2) (.t 1)⟩,
       ⟨(some 22), none, .call 17 [(.t 21)]⟩,
       ⟨(some 20), none, .take 22⟩,
       ⟨(some 23), none, .extS 20 0⟩,
       ⟨(some 24), none, .extS 20 1⟩,
       ⟨none, none, .store 2 (.t 1) (.t 23)⟩,
       ⟨(some 25), none, .faddr (.t 6) 0⟩,
       ⟨none, none, .store 1 (.t 25) (.t 24)⟩])
     (.seq
      (.reg [⟨(some 27), none, .load (some 2) (.t 1)⟩,
        ⟨(some 28), none, .call 17 [(.t 27)]⟩,
        ⟨(some 26), none, .take 28⟩,
        ⟨(some 29), none, .extS 26 0⟩,
        ⟨(some 30), none, .extS 26 1⟩,
        ⟨none, none, .store 2 (.t 1) (.t 29)⟩,
        ⟨(some 31), none, .faddr (.t 6) 1⟩,
        ⟨none, none, .store 1 (.t 31) (.t 30)⟩])
      (.seq
       (.seq
        (.reg [⟨(some 32), none, .faddr (.t 6) 2⟩,
          ⟨(some 33), none, .load none (.t 32)⟩])
        (.cond (.t 33)
         (.reg [⟨(some 35), none, .load (some 2) (.t 1)⟩,
           ⟨(some 36), none, .call 21 [(.t 35), (.c (.int .i64 64))]⟩,
           ⟨(some 34), none, .take 36⟩,
           ⟨(some 37), none, .extS 34 0⟩,
           ⟨(some 38), none, .extS 34 1⟩,
           ⟨none, none, .store 2 (.t 1) (.t 37)⟩,
           ⟨(some 39), none, .faddr (.t 6) 3⟩,
           ⟨none, none, .store 1 (.t 39) (.t 38)⟩])
         .skip))
       (.seq
        (.seq
         (.reg [⟨(some 40), none, .faddr (.t 6) 4⟩,
           ⟨(some 41), none, .load none (.t 40)⟩,
           ⟨(some 42), none, .una .not (.t 41)⟩])
         (.cond (.t 42)
          (.reg [⟨(some 44), none, .load (some 2) (.t 1)⟩,
            ⟨(some 45), none, .call 21 [(.t 44), (.c (.int .i64 512))]⟩,
            ⟨(some 43), none, .take 45⟩,
            ⟨(some 46), none, .extS 43 0⟩,
            ⟨(some 47), none, .extS 43 1⟩,
            ⟨none, none, .store 2 (.t 1) (.t 46)⟩,
            ⟨(some 48), none, .faddr (.t 6) 5⟩,
            ⟨none, none, .store 1 (.t 48) (.t 47)⟩])
          .skip))
        (.seq
         (.block 0
          (.seq
           (.reg [⟨(some 50), none, .faddr (.t 1) 1⟩,
             ⟨(some 51), none, .load none (.t 50)⟩,
             ⟨(some 52), none, .bin .neq (.t 51) (.c (.int .i64 0))⟩,
             ⟨(some 49), none, .take 52⟩])
           (.cond (.t 49)
            (.seq
             (.dreg [(1, 1), (55, 1), (2, 2), (3, 3)] [⟨(some 53), none, .load (some 2) (.t 1)⟩,
               ⟨(some 54), none, .build [(.int .i64 0), (.int .i64 0), (.bool false), (.str (ByteArray.mk #[])), (.bool false), (.str (ByteArray.mk #[]))] []⟩,
               ⟨(some 55), none, .faddr (.t 1) 1⟩,
               ⟨(some 56), none, .load none (.t 55)⟩,
               ⟨none, none, .store 2 (.t 2) (.t 53)⟩,
               ⟨none, none, .store 6 (.t 3) (.t 54)⟩,
               ⟨(some 4), none, .take 56⟩])
             .ret)
            (.seq
             (.reg [⟨(some 58), none, .mv (.t 5)⟩,
               ⟨(some 59), none, .bin .gtr (.t 58) (.c (.int .u64 3))⟩,
               ⟨(some 60), none, .take 59⟩,
               ⟨(some 61), (some (60, false)), .load (some 6) (.t 6)⟩,
               ⟨(some 62), (some (60, false)), .call 140 [(.t 61)]⟩,
               ⟨(some 63), (some (60, false)), .bin .neq (.t 62) (.c (.int .i64 0))⟩,
               ⟨(some 64), none, .pick (.t 60) (.c (.bool true)) (.t 63)⟩,
               ⟨(some 57), none, .take 64⟩])
             (.cond (.t 57)
              (.seq
               (.reg [⟨(some 65), none, .load (some 2) (.t 1)⟩,
                 ⟨(some 66), none, .build [(.int .i64 0), (.int .i64 0), (.bool false), (.str (ByteArray.mk #[])), (.bool false), (.str (ByteArray.mk #[]))] []⟩,
                 ⟨none, none, .store 2 (.t 2) (.t 65)⟩,
                 ⟨none, none, .store 6 (.t 3) (.t 66)⟩,
                 ⟨(some 4), none, .mv (.c (.int .i64 4))⟩])
               .ret)
              .skip)))))
         (.seq
          (.dreg [(1, 1), (6, 6), (2, 2), (3, 3)] [⟨(some 67), none, .load (some 2) (.t 1)⟩,
            ⟨(some 68), none, .load (some 6) (.t 6)⟩,
            ⟨none, none, .store 2 (.t 2) (.t 67)⟩,
            ⟨none, none, .store 6 (.t 3) (.t 68)⟩,
            ⟨(some 4), none, .mv (.c (.int .i64 0))⟩])
          .ret)))))))))
def ar139 : List AR := [.c 2 (some 2), .c 3 (some 6), .t 4]
theorem comp139 : Try.f139.body.bind (comp Try.prog 69) = some ac139 := by kernel_rfl
theorem cres139 : compRes Try.prog Try.f139.results.toList = some ar139 := by kernel_rfl
/-- bilander/bilanderref03.Check -/
def ac140 : AC :=
 (.seq
  (.reg [⟨(some 1), none, .box 6 (.t 0)⟩,
    ⟨(some 2), none, .mv (.c (.int .i64 0))⟩])
  (.seq
   (.block 0
    (.seq
     (.reg [⟨(some 4), none, .faddr (.t 1) 0⟩,
       ⟨(some 5), none, .load none (.t 4)⟩,
       ⟨(some 6), none, .bin .lss (.t 5) (.c (.int .i64 0))⟩,
       ⟨(some 7), none, .take 6⟩,
       ⟨(some 8), (some (7, false)), .faddr (.t 1) 0⟩,
       ⟨(some 9), (some (7, false)), .load none (.t 8)⟩,
       ⟨(some 10), (some (7, false)), .bin .gtr (.t 9) (.c (.int .i64 31))⟩,
       ⟨(some 11), none, .pick (.t 7) (.c (.bool true)) (.t 10)⟩,
       ⟨(some 12), none, .take 11⟩,
       ⟨(some 13), (some (12, false)), .faddr (.t 1) 1⟩,
       ⟨(some 14), (some (12, false)), .load none (.t 13)⟩,
       ⟨(some 15), (some (12, false)), .bin .lss (.t 14) (.c (.int .i64 0))⟩,
       ⟨(some 16), none, .pick (.t 12) (.c (.bool true)) (.t 15)⟩,
       ⟨(some 17), none, .take 16⟩,
       ⟨(some 18), (some (17, false)), .faddr (.t 1) 1⟩,
       ⟨(some 19), (some (17, false)), .load none (.t 18)⟩,
       ⟨(some 20), (some (17, false)), .bin .gtr (.t 19) (.c (.int .i64 1099511627776))⟩,
       ⟨(some 21), none, .pick (.t 17) (.c (.bool true)) (.t 20)⟩,
       ⟨(some 3), none, .take 21⟩])
     (.cond (.t 3)
      (.seq
       (.reg [⟨(some 2), none, .mv (.c (.int .i64 11))⟩])
       .ret)
      (.seq
       (.reg [⟨(some 23), none, .faddr (.t 1) 3⟩,
         ⟨(some 24), none, .load none (.t 23)⟩,
         ⟨(some 25), none, .len true (.t 24)⟩,
         ⟨(some 26), none, .bin .gtr (.t 25) (.c (.int .i64 64))⟩,
         ⟨(some 27), none, .take 26⟩,
         ⟨(some 28), (some (27, false)), .faddr (.t 1) 5⟩,
         ⟨(some 29), (some (27, false)), .load none (.t 28)⟩,
         ⟨(some 30), (some (27, false)), .len true (.t 29)⟩,
         ⟨(some 31), (some (27, false)), .bin .gtr (.t 30) (.c (.int .i64 512))⟩,
         ⟨(some 32), none, .pick (.t 27) (.c (.bool true)) (.t 31)⟩,
         ⟨(some 22), none, .take 32⟩])
       (.cond (.t 22)
        (.seq
         (.reg [⟨(some 2), none, .mv (.c (.int .i64 5))⟩])
         .ret)
        (.seq
         (.reg [⟨(some 34), none, .faddr (.t 1) 2⟩,
           ⟨(some 35), none, .load none (.t 34)⟩,
           ⟨(some 36), none, .una .not (.t 35)⟩,
           ⟨(some 37), none, .take 36⟩,
           ⟨(some 38), (some (37, true)), .faddr (.t 1) 3⟩,
           ⟨(some 39), (some (37, true)), .load none (.t 38)⟩,
           ⟨(some 40), (some (37, true)), .bin .neq (.t 39) (.c (.str (ByteArray.mk #[])))⟩,
           ⟨(some 41), none, .pick (.t 37) (.t 40) (.c (.bool false))⟩,
           ⟨(some 42), none, .take 41⟩,
           ⟨(some 43), (some (42, false)), .faddr (.t 1) 4⟩,
           ⟨(some 44), (some (42, false)), .load none (.t 43)⟩,
           ⟨(some 45), (some (42, false)), .take 44⟩,
           ⟨(some 46), (some (45, true)), .faddr (.t 1) 5⟩,
           ⟨(some 47), (some (45, true)), .load none (.t 46)⟩,
           ⟨(some 48), (some (45, true)), .bin .neq (.t 47) (.c (.str (ByteArray.mk #[])))⟩,
           ⟨(some 49), (some (45, true)), .take 48⟩,
           ⟨(some 50), (some (49, false)), .faddr (.t 1) 2⟩,
           ⟨(some 51), (some (49, false)), .load none (.t 50)⟩,
           ⟨(some 52), (some (49, false)), .una .not (.t 51)⟩,
           ⟨(some 53), (some (45, true)), .pick (.t 49) (.c (.bool true)) (.t 52)⟩,
           ⟨(some 54), (some (42, false)), .pick (.t 45) (.t 53) (.c (.bool false))⟩,
           ⟨(some 55), none, .pick (.t 42) (.c (.bool true)) (.t 54)⟩,
           ⟨(some 33), none, .take 55⟩])
         (.cond (.t 33)
          (.seq
           (.reg [⟨(some 2), none, .mv (.c (.int .i64 4))⟩])
           .ret)
          .skip)))))))
   (.seq
    (.reg [⟨(some 2), none, .mv (.c (.int .i64 0))⟩])
    .ret)))
def ar140 : List AR := [.t 2]
theorem comp140 : Try.f140.body.bind (comp Try.prog 56) = some ac140 := by kernel_rfl
theorem cres140 : compRes Try.prog Try.f140.results.toList = some ar140 := by kernel_rfl
/-- bilander/record.Put -/
def ac154 : AC :=
 (.seq
  (.reg [⟨(some 1), none, .box 6 (.t 0)⟩,
    ⟨(some 2), none, .mv (.c .nils)⟩,
    ⟨(some 3), none, .mv (.c (.int .i64 0))⟩])
  (.seq
   (.seq
    (.reg [⟨(some 7), none, .load (some 6) (.t 1)⟩,
      ⟨(some 8), none, .call 124 [(.t 7)]⟩,
      ⟨(some 4), none, .take 8⟩])
    (.seq
     (.reg [⟨(some 9), none, .mv (.t 4)⟩,
       ⟨(some 10), none, .bin .neq (.t 9) (.c (.int .i64 0))⟩])
     (.cond (.t 10)
      (.seq
       (.reg [⟨(some 11), none, .take 4⟩,
         ⟨(some 2), none, .mv (.c .nils)⟩,
         ⟨(some 3), none, .take 11⟩])
       .ret)
      .skip)))
   (.seq
    (.reg [⟨(some 5), none, .mv (.c (.int .u8 0))⟩])
    (.seq
     (.seq
      (.reg [⟨(some 12), none, .faddr (.t 1) 2⟩,
        ⟨(some 13), none, .load none (.t 12)⟩])
      (.cond (.t 13)
       (.reg [⟨(some 14), none, .take 5⟩,
         ⟨(some 15), none, .bin .or (.t 14) (.c (.int .u8 1))⟩,
         ⟨(some 5), none, .take 15⟩])
       .skip))
     (.seq
      (.seq
       (.reg [⟨(some 16), none, .faddr (.t 1) 4⟩,
         ⟨(some 17), none, .load none (.t 16)⟩])
       (.cond (.t 17)
        (.reg [⟨(some 18), none, .take 5⟩,
          ⟨(some 19), none, .bin .or (.t 18) (.c (.int .u8 2))⟩,
          ⟨(some 5), none, .take 19⟩])
        .skip))
      (.seq
       (.reg [⟨(some 20), none, .mv (.t 5)⟩,
         ⟨(some 21), none, .bsl 1 1 [(.int .u8 0)] [(0, (.t 20))]⟩,
         ⟨(some 22), none, .faddr (.t 1) 0⟩,
         ⟨(some 23), none, .load none (.t 22)⟩,
         ⟨(some 24), none, .call 71 [(.t 23)]⟩,
         ⟨(some 25), none, .app 1 1 21 (.t 24)⟩,
         ⟨(some 6), none, .take 25⟩])
       (.seq
        (.reg [⟨(some 26), none, .take 6⟩,
          ⟨(some 27), none, .faddr (.t 1) 1⟩,
          ⟨(some 28), none, .load none (.t 27)⟩,
          ⟨(some 29), none, .call 71 [(.t 28)]⟩,
          ⟨(some 30), none, .app 1 1 26 (.t 29)⟩,
          ⟨(some 6), none, .take 30⟩])
        (.seq
         (.seq
          (.reg [⟨(some 31), none, .faddr (.t 1) 2⟩,
            ⟨(some 32), none, .load none (.t 31)⟩])
          (.cond (.t 32)
           (.reg [⟨(some 33), none, .take 6⟩,
             ⟨(some 34), none, .faddr (.t 1) 3⟩,
             ⟨(some 35), none, .load none (.t 34)⟩,
             ⟨(some 36), none, .call 27 [(.t 35)]⟩,
             ⟨(some 37), none, .app 1 1 33 (.t 36)⟩,
             ⟨(some 6), none, .take 37⟩])
           .skip))
         (.seq
          (.seq
           (.reg [⟨(some 38), none, .faddr (.t 1) 4⟩,
             ⟨(some 39), none, .load none (.t 38)⟩,
             ⟨(some 40), none, .una .not (.t 39)⟩])
           (.cond (.t 40)
            (.reg [⟨(some 41), none, .take 6⟩,
              ⟨(some 42), none, .faddr (.t 1) 5⟩,
              ⟨(some 43), none, .load none (.t 42)⟩,
              ⟨(some 44), none, .call 27 [(.t 43)]⟩,
              ⟨(some 45), none, .app 1 1 41 (.t 44)⟩,
              ⟨(some 6), none, .take 45⟩])
            .skip))
          (.seq
           (.reg [⟨(some 46), none, .take 6⟩,
             ⟨(some 2), none, .take 46⟩,
             ⟨(some 3), none, .mv (.c (.int .i64 0))⟩])
           .ret))))))))))
def ar154 : List AR := [.t 2, .t 3]
theorem comp154 : Try.f154.body.bind (comp Try.prog 47) = some ac154 := by kernel_rfl
theorem cres154 : compRes Try.prog Try.f154.results.toList = some ar154 := by kernel_rfl
/-- bilander/bilanderref03.Put -/
def ac155 : AC :=
 (.seq
  (.reg [⟨(some 1), none, .box 6 (.t 0)⟩,
    ⟨(some 2), none, .mv (.c .nils)⟩,
    ⟨(some 3), none, .mv (.c (.int .i64 0))⟩])
  (.seq
   (.reg [⟨(some 7), none, .load (some 6) (.t 1)⟩,
     ⟨(some 8), none, .call 140 [(.t 7)]⟩,
     ⟨(some 4), none, .take 8⟩])
   (.seq
    (.seq
     (.reg [⟨(some 9), none, .mv (.t 4)⟩,
       ⟨(some 10), none, .bin .neq (.t 9) (.c (.int .i64 0))⟩])
     (.cond (.t 10)
      (.seq
       (.reg [⟨(some 11), none, .take 4⟩,
         ⟨(some 2), none, .mv (.c .nils)⟩,
         ⟨(some 3), none, .take 11⟩])
       .ret)
      .skip))
    (.seq
     (.reg [⟨(some 5), none, .mv (.c (.int .u8 0))⟩])
     (.seq
      (.seq
       (.reg [⟨(some 12), none, .faddr (.t 1) 2⟩,
         ⟨(some 13), none, .load none (.t 12)⟩])
       (.cond (.t 13)
        (.reg [⟨(some 5), none, .mv (.c (.int .u8 1))⟩])
        .skip))
      (.seq
       (.seq
        (.reg [⟨(some 14), none, .faddr (.t 1) 4⟩,
          ⟨(some 15), none, .load none (.t 14)⟩])
        (.cond (.t 15)
         (.reg [⟨(some 16), none, .take 5⟩,
           ⟨(some 17), none, .bin .add (.t 16) (.c (.int .u8 2))⟩,
           ⟨(some 5), none, .take 17⟩])
         .skip))
       (.seq
        (.dreg [] [⟨(some 18), none, .mv (.t 5)⟩,
          ⟨(some 19), none, .bsl 1 1 [(.int .u8 0)] [(0, (.t 18))]⟩,
          ⟨(some 20), none, .faddr (.t 1) 0⟩,
          ⟨(some 21), none, .load none (.t 20)⟩,
          ⟨(some 22), none, .call 82 [(.t 21)]⟩,
          ⟨(some 23), none, .app 1 1 19 (.t 22)⟩,
          ⟨(some 24), none, .faddr (.t 1) 1⟩,
          ⟨(some 25), none, .load none (.t 24)⟩,
          ⟨(some 26), none, .call 82 [(.t 25)]⟩,
          ⟨(some 27), none, .app 1 1 23 (.t 26)⟩,
          ⟨(some 6), none, .take 27⟩])
        (.seq
         (.seq
          (.reg [⟨(some 28), none, .faddr (.t 1) 2⟩,
            ⟨(some 29), none, .load none (.t 28)⟩])
          (.cond (.t 29)
           (.reg [⟨(some 30), none, .take 6⟩,
             ⟨(some 31), none, .faddr (.t 1) 3⟩,
             ⟨(some 32), none, .load none (.t 31)⟩,
             ⟨(some 33), none, .call 28 [(.t 32)]⟩,
             ⟨(some 34), none, .app 1 1 30 (.t 33)⟩,
             ⟨(some 6), none, .take 34⟩])
           .skip))
         (.seq
          (.seq
           (.reg [⟨(some 35), none, .faddr (.t 1) 4⟩,
             ⟨(some 36), none, .load none (.t 35)⟩,
             ⟨(some 37), none, .una .not (.t 36)⟩])
           (.cond (.t 37)
            (.reg [⟨(some 38), none, .take 6⟩,
              ⟨(some 39), none, .faddr (.t 1) 5⟩,
              ⟨(some 40), none, .load none (.t 39)⟩,
              ⟨(some 41), none, .call 28 [(.t 40)]⟩,
              ⟨(some 42), none, .app 1 1 38 (.t 41)⟩,
              ⟨(some 6), none, .take 42⟩])
            .skip))
          (.seq
           (.reg [⟨(some 43), none, .take 6⟩,
             ⟨(some 2), none, .take 43⟩,
             ⟨(some 3), none, .mv (.c (.int .i64 0))⟩])
           .ret))))))))))
def ar155 : List AR := [.t 2, .t 3]
theorem comp155 : Try.f155.body.bind (comp Try.prog 44) = some ac155 := by kernel_rfl
theorem cres155 : compRes Try.prog Try.f155.results.toList = some ar155 := by kernel_rfl
/-- bilander/bilanderref03.Same -/
def ac156 : AC :=
 (.seq
  (.reg [⟨(some 2), none, .box 6 (.t 0)⟩,
    ⟨(some 3), none, .box 6 (.t 1)⟩,
    ⟨(some 4), none, .mv (.c (.bool false))⟩])
  (.seq
   (.reg [⟨(some 5), none, .faddr (.t 2) 0⟩,
     ⟨(some 6), none, .load none (.t 5)⟩,
     ⟨(some 7), none, .faddr (.t 3) 0⟩,
     ⟨(some 8), none, .load none (.t 7)⟩,
     ⟨(some 9), none, .bin .eql (.t 6) (.t 8)⟩,
     ⟨(some 10), none, .take 9⟩,
     ⟨(some 11), (some (10, true)), .faddr (.t 2) 1⟩,
     ⟨(some 12), (some (10, true)), .load none (.t 11)⟩,
     ⟨(some 13), (some (10, true)), .faddr (.t 3) 1⟩,
     ⟨(some 14), (some (10, true)), .load none (.t 13)⟩,
     ⟨(some 15), (some (10, true)), .bin .eql (.t 12) (.t 14)⟩,
     ⟨(some 16), none, .pick (.t 10) (.t 15) (.c (.bool false))⟩,
     ⟨(some 17), none, .take 16⟩,
     ⟨(some 18), (some (17, true)), .faddr (.t 2) 2⟩,
     ⟨(some 19), (some (17, true)), .load none (.t 18)⟩,
     ⟨(some 20), (some (17, true)), .faddr (.t 3) 2⟩,
     ⟨(some 21), (some (17, true)), .load none (.t 20)⟩,
     ⟨(some 22), (some (17, true)), .beq false (.t 19) (.t 21)⟩,
     ⟨(some 23), none, .pick (.t 17) (.t 22) (.c (.bool false))⟩,
     ⟨(some 24), none, .take 23⟩,
     ⟨(some 25), (some (24, true)), .faddr (.t 2) 3⟩,
     ⟨(some 26), (some (24, true)), .load none (.t 25)⟩,
     ⟨(some 27), (some (24, true)), .faddr (.t 3) 3⟩,
     ⟨(some 28), (some (24, true)), .load none (.t 27)⟩,
     ⟨(some 29), (some (24, true)), .bin .eql (.t 26) (.t 28)⟩,
     ⟨(some 30), none, .pick (.t 24) (.t 29) (.c (.bool false))⟩,
     ⟨(some 31), none, .take 30⟩,
     ⟨(some 32), (some (31, true)), .faddr (.t 2) 4⟩,
     ⟨(some 33), (some (31, true)), .load none (.t 32)⟩,
     ⟨(some 34), (some (31, true)), .faddr (.t 3) 4⟩,
     ⟨(some 35), (some (31, true)), .load none (.t 34)⟩,
     ⟨(some 36), (some (31, true)), .beq false (.t 33) (.t 35)⟩,
     ⟨(some 37), none, .pick (.t 31) (.t 36) (.c (.bool false))⟩,
     ⟨(some 38), none, .take 37⟩,
     ⟨(some 39), (some (38, true)), .faddr (.t 2) 5⟩,
     ⟨(some 40), (some (38, true)), .load none (.t 39)⟩,
     ⟨(some 41), (some (38, true)), .faddr (.t 3) 5⟩,
     ⟨(some 42), (some (38, true)), .load none (.t 41)⟩,
     ⟨(some 43), (some (38, true)), .bin .eql (.t 40) (.t 42)⟩,
     ⟨(some 44), none, .pick (.t 38) (.t 43) (.c (.bool false))⟩,
     ⟨(some 4), none, .take 44⟩])
   .ret))
def ar156 : List AR := [.t 4]
theorem comp156 : Try.f156.body.bind (comp Try.prog 45) = some ac156 := by kernel_rfl
theorem cres156 : compRes Try.prog Try.f156.results.toList = some ar156 := by kernel_rfl
end Go.Proofs.Ytflcdbfcipkhkaa

/- Plain arithmetic: numbers as bytes. -/
namespace Go.Av

theorem ofInt_nat (w a : Nat) : BitVec.ofInt w (a : Int) = BitVec.ofNat w a := by
  apply BitVec.eq_of_toNat_eq
  simp

theorem or_nat (w a b : Nat) : (BitVec.ofInt w (a : Int) ||| BitVec.ofInt w (b : Int)).toNat = (a % 2 ^ w) ||| (b % 2 ^ w) := by simp
theorem and_nat (w a b : Nat) : (BitVec.ofInt w (a : Int) &&& BitVec.ofInt w (b : Int)).toNat = (a % 2 ^ w) &&& (b % 2 ^ w) := by simp
theorem xor_nat (w a b : Nat) : (BitVec.ofInt w (a : Int) ^^^ BitVec.ofInt w (b : Int)).toNat = (a % 2 ^ w) ^^^ (b % 2 ^ w) := by simp

/-- A number with more bytes to come. -/
theorem or128 (a : Nat) (h : a < 256) : a ||| 128 = a % 128 + 128 := by
  have : ∀ x : Fin 256, x.val ||| 128 = x.val % 128 + 128 := by decide +kernel
  exact this ⟨a, h⟩
theorem and127 (a : Nat) (h : a < 256) : a &&& 127 = a % 128 := by
  have : ∀ x : Fin 256, x.val &&& 127 = x.val % 128 := by decide +kernel
  exact this ⟨a, h⟩
theorem and128 (a : Nat) (h : a < 256) : a &&& 128 = if a < 128 then 0 else 128 := by
  have : ∀ x : Fin 256, x.val &&& 128 = if x.val < 128 then 0 else 128 := by decide +kernel
  exact this ⟨a, h⟩

def bs (l : List Nat) : List SV := l.map fun n : Nat => .int .u8 (n : Int)
@[simp] theorem bs_length (l : List Nat) : (bs l).length = l.length := by simp [bs]
@[simp] theorem bs_nil : bs [] = [] := rfl
theorem bs_append (a b : List Nat) : bs (a ++ b) = bs a ++ bs b := by simp [bs]
theorem bs_cons (a : Nat) (b : List Nat) : bs (a :: b) = .int .u8 a :: bs b := rfl
def sOf (l : List Nat) : ByteArray := ⟨(l.map fun n => UInt8.ofNat n).toArray⟩
@[simp] theorem bs_byte (l : List Nat) : ∀ x ∈ bs l, isByte x := by
  intro x hx
  simp only [bs, List.mem_map] at hx
  obtain ⟨n, _, rfl⟩ := hx
  trivial
theorem bs_str (l : List Nat) : (⟨((bs l).map byteOf).toArray⟩ : ByteArray) = sOf l := by
  simp [bs, sOf, byteOf, Function.comp_def]

def layN (u : Nat) : List Nat := if u < 128 then [u] else (u % 128 + 128) :: layN (u / 128)
termination_by u
decreasing_by omega

theorem layN_small {u : Nat} (h : u < 128) : layN u = [u] := by rw [layN, if_pos h]
theorem layN_big {u : Nat} (h : ¬ u < 128) : layN u = (u % 128 + 128) :: layN (u / 128) := by rw [layN, if_neg h]
theorem layN_length : ∀ (k u : Nat), u < 128 ^ k → (layN u).length ≤ max 1 k
  | 0, u, h => by rw [layN_small (by simp at h; omega)]; simp
  | k + 1, u, h => by
    by_cases q : u < 128
    · rw [layN_small q]; simp
    · rw [layN_big q]
      have hk : k ≠ 0 := by rintro rfl; simp at h; omega
      have := layN_length k (u / 128) (by rw [Nat.pow_succ] at h; omega)
      simp only [List.length_cons]
      omega
theorem layN_le10 {u : Nat} (h : u < 18446744073709551616) : (layN u).length ≤ 10 := by
  have := layN_length 10 u (by omega)
  omega
theorem layN_pos (u : Nat) : 1 ≤ (layN u).length := by
  rw [layN]; split <;> simp
end Go.Av
namespace Go.Av
theorem w8_or128 (v : Nat) : IntKind.u8.wrap ↑((IntKind.u8.wrap ↑v % 2 ^ IntKind.u8.bits).toNat ||| 128 % 2 ^ IntKind.u8.bits) = ((v % 128 + 128 : Nat) : Int) := by
  have e1 : (IntKind.u8.wrap ↑v % 2 ^ IntKind.u8.bits).toNat = v % 256 := by rw [IntKind.wrap_u8]; simp [IntKind.bits]; omega
  rw [e1, show (128 % 2 ^ IntKind.u8.bits) = 128 from rfl, or128 _ (by omega), IntKind.wrap_u8]
  omega
theorem w8_nat (v : Nat) : IntKind.u8.wrap (v : Int) = ((v % 256 : Nat) : Int) := by rw [IntKind.wrap_u8]; omega
theorem fdiv_nat (v m : Nat) : (v : Int).fdiv (m : Int) = ((v / m : Nat) : Int) := by
  rw [Int.fdiv_eq_ediv_of_nonneg _ (by omega)]; omega
theorem w8_of_add (v : Nat) : IntKind.u8.wrap ((v : Int) % 128 + 128) = ((v % 128 + 128 : Nat) : Int) := by rw [IntKind.wrap_u8]; omega
end Go.Av
namespace Go.Av
theorem xor_ones (a : Nat) (h : a < 18446744073709551616) : a ^^^ 18446744073709551615 = 18446744073709551615 - a := by
  have h1 : (BitVec.ofNat 64 a ^^^ BitVec.allOnes 64).toNat = (~~~ BitVec.ofNat 64 a).toNat := by rw [BitVec.xor_allOnes]
  simp only [BitVec.toNat_xor, BitVec.toNat_ofNat, BitVec.toNat_allOnes, BitVec.toNat_not] at h1
  rw [Nat.mod_eq_of_lt (by omega)] at h1
  omega
theorem tmod_nat (v m : Nat) : ((v : Int).tmod (m : Int)) = ((v % m : Nat) : Int) := by
  rw [Int.tmod_eq_emod_of_nonneg (by omega)]; omega
def wid (w : Int) : Nat := if w < 0 then 0 else if 8 < w then 8 else w.toNat
def zig (n : Int) : Nat := if 0 ≤ n then (2 * n).toNat else (-2 * n - 1).toNat
def zag (u : Nat) : Int := if u % 2 = 0 then ((u / 2 : Nat) : Int) else -((u / 2 : Nat) : Int) - 1
theorem zag_zig (n : Int) : zag (zig n) = n := by
  unfold zag zig
  by_cases h : 0 ≤ n
  · simp only [h, if_true]
    rw [if_pos (by omega)]; omega
  · simp only [h, if_false]
    rw [if_neg (by omega)]; omega
theorem zig_lt {n : Int} (h0 : -9223372036854775808 ≤ n) (h1 : n < 9223372036854775808) : zig n < 18446744073709551616 := by
  unfold zig; split <;> omega
theorem zag_ge {u : Nat} (h : u < 18446744073709551616) : -9223372036854775808 ≤ zag u ∧ zag u < 9223372036854775808 := by
  unfold zag; split <;> omega
theorem zig_xor {n : Int} (h0 : -9223372036854775808 ≤ n) (h1 : n < 9223372036854775808) : IntKind.u64.wrap
      ↑((IntKind.u64.wrap (IntKind.u64.wrap n * 2 ^ min 1 IntKind.u64.bits) % 2 ^ IntKind.u64.bits).toNat ^^^
          (IntKind.u64.wrap (n.fdiv (2 ^ min 63 IntKind.i64.bits)) % 2 ^ IntKind.u64.bits).toNat) =
    ↑(zig n) := by
  have e1 : (IntKind.u64.wrap (IntKind.u64.wrap n * 2 ^ min 1 IntKind.u64.bits) % 2 ^ IntKind.u64.bits).toNat = ((2 * n) % 18446744073709551616).toNat := by
    rw [IntKind.wrap_u64, IntKind.wrap_u64]; simp [IntKind.bits]; omega
  have e2 : (IntKind.u64.wrap (n.fdiv (2 ^ min 63 IntKind.i64.bits)) % 2 ^ IntKind.u64.bits).toNat = if 0 ≤ n then 0 else 18446744073709551615 := by
    have : (2 ^ min 63 IntKind.i64.bits : Int) = 9223372036854775808 := by decide
    rw [this, Int.fdiv_eq_ediv_of_nonneg _ (by omega), IntKind.wrap_u64]
    simp [IntKind.bits]
    split <;> omega
  rw [e1, e2]
  unfold zig
  by_cases h : 0 ≤ n
  · simp only [h, if_true, Nat.xor_zero]; rw [IntKind.wrap_u64]; omega
  · simp only [h, if_false]; rw [xor_ones _ (by omega), IntKind.wrap_u64]; omega
theorem zag_xor {u : Nat} (hu : u < 18446744073709551616) : IntKind.i64.wrap
      ↑((IntKind.i64.wrap ((↑u : Int).fdiv (2 ^ min 1 IntKind.u64.bits)) % 2 ^ IntKind.i64.bits).toNat ^^^
          (IntKind.i64.wrap
                (-IntKind.i64.wrap (IntKind.u64.wrap ↑(u % 2 ^ IntKind.u64.bits &&& 1 % 2 ^ IntKind.u64.bits))) %
              2 ^ IntKind.i64.bits).toNat) =
    zag u := by
  have e0 : (2 ^ min 1 IntKind.u64.bits : Int) = 2 := by decide
  have e1 : (IntKind.i64.wrap ((↑u : Int).fdiv (2 ^ min 1 IntKind.u64.bits)) % 2 ^ IntKind.i64.bits).toNat = u / 2 := by
    rw [e0, Int.fdiv_eq_ediv_of_nonneg _ (by omega), IntKind.wrap_i64]; simp [IntKind.bits]; omega
  have e2 : (u % 2 ^ IntKind.u64.bits &&& 1 % 2 ^ IntKind.u64.bits) = u % 2 := by
    rw [show (1 % 2 ^ IntKind.u64.bits) = 1 from rfl, Nat.and_one_is_mod]; simp [IntKind.bits]
  have e3 : (IntKind.i64.wrap (-IntKind.i64.wrap (IntKind.u64.wrap ↑(u % 2 ^ IntKind.u64.bits &&& 1 % 2 ^ IntKind.u64.bits))) % 2 ^ IntKind.i64.bits).toNat = if u % 2 = 0 then 0 else 18446744073709551615 := by
    rw [e2, IntKind.wrap_u64, IntKind.wrap_i64, IntKind.wrap_i64]; simp [IntKind.bits]; split <;> omega
  rw [e1, e3]
  unfold zag
  by_cases h : u % 2 = 0
  · simp only [h, if_true, Nat.xor_zero]; rw [IntKind.wrap_i64]; omega
  · simp only [h, if_false]; rw [xor_ones _ (by omega), IntKind.wrap_i64]; omega
end Go.Av

/- Plain facts on numbers as bytes. -/
set_option linter.unusedSimpArgs false
namespace Go.Av

def Bytes (l : List Nat) : Prop := ∀ c ∈ l, c < 256
theorem Bytes.append {a b : List Nat} (h : Bytes a) (k : Bytes b) : Bytes (a ++ b) := fun c hc => by
  rcases List.mem_append.1 hc with q | q
  · exact h c q
  · exact k c q
theorem Bytes.take {a : List Nat} (h : Bytes a) (n : Nat) : Bytes (a.take n) := fun c hc => h c (List.mem_of_mem_take hc)
theorem Bytes.drop {a : List Nat} (h : Bytes a) (n : Nat) : Bytes (a.drop n) := fun c hc => h c (List.mem_of_mem_drop hc)
theorem Bytes.get {a : List Nat} (h : Bytes a) {i : Nat} (hi : i < a.length) : a[i] < 256 := h _ (List.getElem_mem hi)

theorem layN_bytes (u : Nat) : Bytes (layN u) := by
  induction u using Nat.strongRecOn with
  | _ u ih =>
    by_cases h : u < 128
    · rw [layN_small h]; intro c hc; simp at hc; omega
    · rw [layN_big h]
      intro c hc
      rcases List.mem_cons.1 hc with rfl | hc
      · omega
      · exact ih (u / 128) (by omega) c hc

theorem sOf_toList (l : List Nat) : (sOf l).toList = l.map UInt8.ofNat := by
  simp [sOf, ByteArray.toList_eq]
theorem ofNat_inj {a b : Nat} (ha : a < 256) (hb : b < 256) (h : UInt8.ofNat a = UInt8.ofNat b) : a = b := by
  have := congrArg UInt8.toNat h
  simp at this
  omega
theorem map_ofNat_inj : ∀ {a b : List Nat}, Bytes a → Bytes b → a.map UInt8.ofNat = b.map UInt8.ofNat → a = b
  | [], [], _, _, _ => rfl
  | [], _ :: _, _, _, h => by simp at h
  | _ :: _, [], _, _, h => by simp at h
  | x :: a, y :: b, ha, hb, h => by
    simp only [List.map_cons, List.cons.injEq] at h
    rw [ofNat_inj (ha x (by simp)) (hb y (by simp)) h.1, map_ofNat_inj (fun c hc => ha c (by simp [hc])) (fun c hc => hb c (by simp [hc])) h.2]
theorem sOf_eq {a b : List Nat} (ha : Bytes a) (hb : Bytes b) : ((sOf a).toList == (sOf b).toList) = decide (a = b) := by
  rw [sOf_toList, sOf_toList]
  by_cases h : a = b
  · subst h; simp
  · simp only [h, decide_false, beq_eq_false_iff_ne, ne_eq]
    exact fun q => h (map_ofNat_inj ha hb q)

/-! ### numbers of a set width -/
def fixL : Nat → Nat → List Nat
  | 0, _ => []
  | k + 1, u => fixL k (u / 256) ++ [u % 256]
@[simp] theorem fixL_length : ∀ (k u : Nat), (fixL k u).length = k
  | 0, _ => rfl
  | k + 1, u => by simp [fixL, fixL_length k]
theorem fixL_bytes : ∀ (k u : Nat), Bytes (fixL k u)
  | 0, _ => fun c hc => by simp [fixL] at hc
  | k + 1, u => (fixL_bytes k _).append (fun c hc => by simp at hc; omega)
theorem fixL_cons : ∀ (k u : Nat), fixL (k + 1) u = (u / 256 ^ k % 256) :: fixL k u
  | 0, u => by simp [fixL]
  | k + 1, u => by
    rw [fixL, fixL_cons k (u / 256), fixL]
    rw [Nat.pow_succ, Nat.mul_comm, ← Nat.div_div_eq_div_mul]
    rfl
theorem fixL_mod : ∀ (k u : Nat), fixL k (u % 256 ^ k) = fixL k u
  | 0, _ => rfl
  | k + 1, u => by
    rw [fixL, fixL]
    have e1 : u % 256 ^ (k + 1) / 256 = (u / 256) % 256 ^ k := by
      rw [Nat.pow_succ, Nat.mul_comm, Nat.mod_mul_right_div_self]
    have e2 : u % 256 ^ (k + 1) % 256 = u % 256 := by
      rw [Nat.pow_succ]
      exact Nat.mod_mul_left_mod ..
    rw [e1, e2, fixL_mod k]

def unL (l : List Nat) : Nat := l.foldl (fun n c => n * 256 + c) 0
theorem foldl_un : ∀ (l : List Nat) (n : Nat), l.foldl (fun n c => n * 256 + c) n = n * 256 ^ l.length + unL l
  | [], n => by simp [unL]
  | c :: l, n => by
    have e : unL (c :: l) = c * 256 ^ l.length + unL l := by
      show (c :: l).foldl _ 0 = _
      rw [List.foldl_cons, foldl_un l, Nat.zero_mul, Nat.zero_add]
    rw [List.foldl_cons, foldl_un l, e, List.length_cons, Nat.pow_succ, Nat.add_mul, Nat.mul_assoc, Nat.mul_comm 256 (256 ^ l.length), Nat.add_assoc]
theorem unL_append (a b : List Nat) : unL (a ++ b) = unL a * 256 ^ b.length + unL b := by
  rw [unL, List.foldl_append, foldl_un]; rfl
theorem unL_snoc (a : List Nat) (c : Nat) : unL (a ++ [c]) = unL a * 256 + c := by rw [unL_append]; simp [unL]
theorem unL_fixL : ∀ (k u : Nat), unL (fixL k u) = u % 256 ^ k
  | 0, u => by simp [fixL, unL, Nat.mod_one]
  | k + 1, u => by
    rw [fixL, unL_snoc, unL_fixL k]
    have : 256 ^ (k + 1) = 256 * 256 ^ k := by rw [Nat.pow_succ, Nat.mul_comm]
    rw [this, Nat.mod_mul]; omega
def unF (l : List Nat) : Nat := unL l % 18446744073709551616
theorem unF_last8 (l : List Nat) : unF (l.drop (l.length - 8)) = unF l := by
  by_cases h : l.length ≤ 8
  · rw [show l.length - 8 = 0 by omega, List.drop_zero]
  · conv => rhs; rw [← List.take_append_drop (l.length - 8) l]
    unfold unF
    rw [unL_append, List.length_drop, show l.length - (l.length - 8) = 8 by omega]
    omega
theorem unF_lt (l : List Nat) : unF l < 18446744073709551616 := Nat.mod_lt _ (by decide)

theorem or_add {a c k : Nat} (h : c < 2 ^ k) (ha : a % 2 ^ k = 0) : a ||| c = a + c := by
  obtain ⟨q, rfl⟩ : ∃ q, a = q * 2 ^ k := ⟨a / 2 ^ k, by have := Nat.div_add_mod a (2 ^ k); rw [ha] at this; rw [Nat.mul_comm]; omega⟩
  rw [← Nat.shiftLeft_eq, Nat.shiftLeft_add_eq_or_of_lt h]

/-! ### numbers of few bytes -/
def valN : List Nat → Nat
  | [] => 0
  | c :: r => c % 128 + 128 * valN r
theorem valN_append : ∀ (a b : List Nat), valN (a ++ b) = valN a + 128 ^ a.length * valN b
  | [], b => by simp [valN]
  | c :: a, b => by
    simp only [List.cons_append, valN, valN_append a b, List.length_cons, Nat.pow_succ, Nat.mul_add]
    rw [Nat.mul_comm (128 ^ a.length) 128, Nat.mul_assoc]; omega
theorem valN_lt : ∀ (a : List Nat), valN a < 128 ^ a.length
  | [] => by simp [valN]
  | c :: a => by
    have := valN_lt a
    simp only [valN, List.length_cons, Nat.pow_succ]; omega
theorem valN_layN (u : Nat) : valN (layN u) = u := by
  induction u using Nat.strongRecOn with
  | _ u ih =>
    by_cases h : u < 128
    · rw [layN_small h]; simp [valN]; omega
    · rw [layN_big h, valN, ih (u / 128) (by omega)]; omega

/-- Where the first byte stands that is the last one of its number. -/
def endN : List Nat → Nat
  | [] => 0
  | c :: r => if c < 128 then 0 else endN r + 1
theorem endN_le : ∀ (l : List Nat), endN l ≤ l.length
  | [] => Nat.le_refl _
  | c :: r => by simp only [endN, List.length_cons]; have := endN_le r; split <;> omega
theorem endN_big : ∀ (l : List Nat) (i : Nat) (h : i < l.length), i < endN l → 128 ≤ l[i]
  | c :: r, 0, h, q => by simp only [endN] at q; split at q <;> simp at * ; omega
  | c :: r, i + 1, h, q => by
    simp only [endN] at q
    split at q
    · omega
    · simpa using endN_big r i (by simpa using h) (by omega)
theorem endN_small : ∀ (l : List Nat) (h : endN l < l.length), l[endN l] < 128
  | c :: r, h => by
    simp only [endN] at h ⊢
    by_cases q : c < 128
    · simp [q]
    · simp only [q, if_false] at h ⊢
      simpa using endN_small r (by simpa using h)
theorem endN_eq {l : List Nat} {i : Nat} (h1 : ∀ j (h : j < l.length), j < i → 128 ≤ l[j]) (h2 : ∀ h : i < l.length, l[i] < 128) (h3 : i ≤ l.length) : endN l = i := by
  rcases Nat.lt_trichotomy (endN l) i with q | q | q
  · have := endN_small l (by omega); have := h1 _ (by omega) q; omega
  · exact q
  · have h4 := endN_le l
    have := endN_big l i (by omega) q; have := h2 (by omega); omega

/-- What any bytes begin with: the number, its bytes, the error. -/
def getN (l : List Nat) : Int × Nat × Int :=
  let n := endN (l.take 10)
  if n < (l.take 10).length then
    let u := valN (l.take (n + 1)) % 18446744073709551616
    if layN u = l.take (n + 1) then (zag u, n + 1, 0) else (0, 0, 4)
  else if l.length < 10 then (0, 0, 3) else (0, 0, 4)

theorem WkR_refl (a : RV) : WkR a a := by
  unfold WkR
  split <;> simp_all
theorem WkRs_refl : ∀ (l : List RV), WkRs l l
  | [] => trivial
  | a :: r => ⟨WkR_refl a, WkRs_refl r⟩
theorem WkRs_eq {l l' : List RV} (h : l = l') : WkRs l l' := h ▸ WkRs_refl l
theorem wrap_i64_small (n : Nat) (h : n < 9223372036854775808) : IntKind.i64.wrap (n : Int) = n := by rw [IntKind.wrap_i64]; omega
theorem wrap_i64_in {n : Int} (h0 : -9223372036854775808 ≤ n) (h1 : n < 9223372036854775808) : IntKind.i64.wrap n = n := by rw [IntKind.wrap_i64]; omega
theorem wrap_u64_in {n : Int} (h0 : 0 ≤ n) (h1 : n < 18446744073709551616) : IntKind.u64.wrap n = n := by rw [IntKind.wrap_u64]; omega

theorem two_pow_nat (n : Nat) : (2 : Int) ^ n = ((2 ^ n : Nat) : Int) := by simp
theorem shr8 (u i : Nat) (hi : i ≤ 8) : IntKind.u8.wrap ((u : Int).fdiv (2 ^ min (8 * i) IntKind.u64.bits)) = ((u / 256 ^ i % 256 : Nat) : Int) := by
  have h1 : min (8 * i) IntKind.u64.bits = 8 * i := by simp [IntKind.bits]; omega
  have h2 : (2 : Nat) ^ (8 * i) = 256 ^ i := by rw [Nat.pow_mul]
  rw [h1, two_pow_nat, h2, fdiv_nat, w8_nat]
theorem set_zero (k x : Nat) (l : List Nat) : (List.replicate (k + 1) 0 ++ l).set k x = List.replicate k 0 ++ x :: l := by
  rw [List.replicate_succ', List.append_assoc, List.set_append_right _ _ (by simp)]
  simp
theorem bs_set (l : List Nat) (k x : Nat) : (bs l).set k (.int .u8 x) = bs (l.set k x) := by simp [bs, List.map_set]

@[simp] theorem bs_get (l : List Nat) (i : Nat) (h : i < (bs l).length) : (bs l)[i] = .int .u8 ((l[i]'(by simpa using h) : Nat) : Int) := by simp [bs]
theorem unF_step (l : List Nat) (i : Nat) (h : i < l.length) : unF (l.take (i + 1)) = (unF (l.take i) * 256 + l[i]) % 18446744073709551616 := by
  rw [List.take_succ_eq_append_getElem h]
  unfold unF
  rw [unL_snoc]
  omega
theorem shl8_or (n c : Nat) (hn : n < 18446744073709551616) (hc : c < 256) : IntKind.u64.wrap ((((IntKind.u64.wrap (n * 2 ^ min 8 IntKind.u64.bits)) % 2 ^ IntKind.u64.bits).toNat ||| (IntKind.u64.wrap (c : Int) % 2 ^ IntKind.u64.bits).toNat : Nat) : Int) = (((n * 256 + c) % 18446744073709551616 : Nat) : Int) := by
  have e1 : ((IntKind.u64.wrap (n * 2 ^ min 8 IntKind.u64.bits)) % 2 ^ IntKind.u64.bits).toNat = (n * 256) % 18446744073709551616 := by
    rw [IntKind.wrap_u64]; simp [IntKind.bits]; omega
  have e2 : (IntKind.u64.wrap (c : Int) % 2 ^ IntKind.u64.bits).toNat = c := by rw [IntKind.wrap_u64]; simp [IntKind.bits]; omega
  rw [e1, e2, or_add (k := 8) (by omega) (by omega), IntKind.wrap_u64]
  omega

theorem getN_found {l : List Nat} {i : Nat} (hi : i < l.length) (h10 : i < 10) (hb : ∀ j (h : j < l.length), j < i → 128 ≤ l[j]) (hs : l[i] < 128) :
    getN l = if layN (valN (l.take (i + 1)) % 18446744073709551616) = l.take (i + 1) then (zag (valN (l.take (i + 1)) % 18446744073709551616), i + 1, 0) else (0, 0, 4) := by
  have he : endN (l.take 10) = i := endN_eq (fun j h q => by
    rw [List.getElem_take]; exact hb j (by simp at h; omega) q) (fun h => by rw [List.getElem_take]; exact hs) (by simp; omega)
  simp only [getN, he]
  rw [if_pos (by simp; omega)]
theorem getN_none {l : List Nat} (hb : ∀ j (h : j < l.length), j < 10 → 128 ≤ l[j]) : getN l = if l.length < 10 then (0, 0, 3) else (0, 0, 4) := by
  have he : endN (l.take 10) = (l.take 10).length := endN_eq (fun j h q => by
    rw [List.getElem_take]; exact hb j (by simp at h; omega) (by simp at h; omega)) (fun h => absurd h (Nat.lt_irrefl _)) (Nat.le_refl _)
  simp only [getN, he]
  rw [if_neg (by simp)]
theorem valN_snoc (l : List Nat) (i : Nat) (h : i < l.length) : valN (l.take (i + 1)) = valN (l.take i) + 128 ^ i * (l[i] % 128) := by
  rw [List.take_succ_eq_append_getElem h, valN_append]
  simp [valN, Nat.min_eq_left (Nat.le_of_lt h)]

theorem w8_and127 (c : Nat) (h : c < 256) : IntKind.u8.wrap ((c % 2 ^ IntKind.u8.bits &&& 127 % 2 ^ IntKind.u8.bits : Nat) : Int) = ((c % 128 : Nat) : Int) := by
  rw [show 127 % 2 ^ IntKind.u8.bits = 127 from rfl, and127 _ (by simp [IntKind.bits]; omega), IntKind.wrap_u8]; simp [IntKind.bits]; omega
theorem w8_and128 (c : Nat) (h : c < 256) : IntKind.u8.wrap ((c % 2 ^ IntKind.u8.bits &&& 128 % 2 ^ IntKind.u8.bits : Nat) : Int) = if c < 128 then 0 else 128 := by
  have e : c % 2 ^ IntKind.u8.bits = c := by simp [IntKind.bits]; omega
  rw [show 128 % 2 ^ IntKind.u8.bits = 128 from rfl, e, and128 _ h, IntKind.wrap_u8]
  split <;> rfl
theorem u64_val_step (l : List Nat) (i : Nat) (h : i < l.length) (h9 : i < 10) :
    IntKind.u64.wrap (((valN (l.take i) % 18446744073709551616 % 2 ^ IntKind.u64.bits) ||| (IntKind.u64.wrap (IntKind.u64.wrap ((l[i] % 128 : Nat) : Int) * 2 ^ min (7 * i) IntKind.u64.bits) % 2 ^ IntKind.u64.bits).toNat : Nat) : Int) = ((valN (l.take (i + 1)) % 18446744073709551616 : Nat) : Int) := by
  have hm : min (7 * i) IntKind.u64.bits = 7 * i := by simp [IntKind.bits]; omega
  have hp : (2 : Nat) ^ (7 * i) = 128 ^ i := by rw [Nat.pow_mul]
  have hv : valN (l.take i) < 128 ^ i := by
    have := valN_lt (l.take i)
    rwa [List.length_take, Nat.min_eq_left (Nat.le_of_lt h)] at this
  have h63 : 128 ^ i ≤ 128 ^ 9 := Nat.pow_le_pow_right (by decide) (by omega)
  have e1 : (valN (l.take i) % 18446744073709551616) % 2 ^ IntKind.u64.bits = valN (l.take i) := by
    simp [IntKind.bits]; omega
  have e2 : (IntKind.u64.wrap (IntKind.u64.wrap ((l[i] % 128 : Nat) : Int) * 2 ^ min (7 * i) IntKind.u64.bits) % 2 ^ IntKind.u64.bits).toNat = (128 ^ i * (l[i] % 128)) % 18446744073709551616 := by
    rw [hm, two_pow_nat, hp, IntKind.wrap_u64, IntKind.wrap_u64]
    generalize 128 ^ i = q at *
    have : ((l[i] % 128 : Nat) : Int) % 18446744073709551616 = ((l[i] % 128 : Nat) : Int) := by omega
    have hb : (2 : Int) ^ IntKind.u64.bits = 18446744073709551616 := by decide
    rw [this, ← Int.natCast_mul, Nat.mul_comm q, hb]
    generalize l[i] % 128 * q = n
    omega
  have hdiv : (128 ^ i * (l[i] % 128)) % 18446744073709551616 % 2 ^ (7 * i) = 0 := by
    have : 18446744073709551616 = 2 ^ (7 * i) * 2 ^ (64 - 7 * i) := by rw [← Nat.pow_add]; rw [show 7 * i + (64 - 7 * i) = 64 by omega]
    rw [this, hp, Nat.mul_mod_mul_left]
    exact Nat.mul_mod_right ..
  rw [e1, e2, valN_snoc l i h, Nat.or_comm, or_add (k := 7 * i) (by rw [hp]; exact hv) hdiv, IntKind.wrap_u64]
  omega
end Go.Av
