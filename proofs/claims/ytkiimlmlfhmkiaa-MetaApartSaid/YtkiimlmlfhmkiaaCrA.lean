import Derived.Test.YtkiimlmlfhmkiaaAvL3
import Derived.Test.YtkiimlmlfhmkiaaProg
import Derived.KernelRfl

set_option maxRecDepth 100000
namespace Go.Proofs.Ytkiimlmlfhmkiaa
open Go.Av
/-- bilander/bilanderref03.Same -/
def ac45 : AC :=
 (.seq
  (.reg [⟨(some 2), none, .box 6 (.t 0)⟩,
    ⟨(some 3), none, .box 6 (.t 1)⟩,
    ⟨(some 4), none, .mv (.c (.bool false))⟩])
  (.seq
   (.reg [⟨(some 5), none, .faddr (.t 2) 0⟩,
     ⟨(some 6), none, .load none (.t 5)⟩,
     ⟨(some 7), none, .faddr (.t 3) 0⟩,
     ⟨(some 8), none, .load none (.t 7)⟩,
     ⟨(some 9), none, .bin .eql (.t 6) (.t 8)⟩,
     ⟨(some 10), none, .take 9⟩,
     ⟨(some 11), (some (10, true)), .faddr (.t 2) 1⟩,
     ⟨(some 12), (some (10, true)), .load none (.t 11)⟩,
     ⟨(some 13), (some (10, true)), .faddr (.t 3) 1⟩,
     ⟨(some 14), (some (10, true)), .load none (.t 13)⟩,
     ⟨(some 15), (some (10, true)), .bin .eql (.t 12) (.t 14)⟩,
     ⟨(some 16), none, .pick (.t 10) (.t 15) (.c (.bool false))⟩,
     ⟨(some 17), none, .take 16⟩,
     ⟨(some 18), (some (17, true)), .faddr (.t 2) 2⟩,
     ⟨(some 19), (some (17, true)), .load none (.t 18)⟩,
     ⟨(some 20), (some (17, true)), .faddr (.t 3) 2⟩,
     ⟨(some 21), (some (17, true)), .load none (.t 20)⟩,
     ⟨(some 22), (some (17, true)), .beq false (.t 19) (.t 21)⟩,
     ⟨(some 23), none, .pick (.t 17) (.t 22) (.c (.bool false))⟩,
     ⟨(some 24), none, .take 23⟩,
     ⟨(some 25), (some (24, true)), .faddr (.t 2) 3⟩,
     ⟨(some 26), (some (24, true)), .load none (.t 25)⟩,
     ⟨(some 27), (some (24, true)), .faddr (.t 3) 3⟩,
     ⟨(some 28), (some (24, true)), .load none (.t 27)⟩,
     ⟨(some 29), (some (24, true)), .bin .eql (.t 26) (.t 28)⟩,
     ⟨(some 30), none, .pick (.t 24) (.t 29) (.c (.bool false))⟩,
     ⟨(some 31), none, .take 30⟩,
     ⟨(some 32), (some (31, true)), .faddr (.t 2) 4⟩,
     ⟨(some 33), (some (31, true)), .load none (.t 32)⟩,
     ⟨(some 34), (some (31, true)), .faddr (.t 3) 4⟩,
     ⟨(some 35), (some (31, true)), .load none (.t 34)⟩,
     ⟨(some 36), (some (31, true)), .beq false (.t 33) (.t 35)⟩,
     ⟨(some 37), none, .pick (.t 31) (.t 36) (.c (.bool false))⟩,
     ⟨(some 38), none, .take 37⟩,
     ⟨(some 39), (some (38, true)), .faddr (.t 2) 5⟩,
     ⟨(some 40), (some (38, true)), .load none (.t 39)⟩,
     ⟨(some 41), (some (38, true)), .faddr (.t 3) 5⟩,
     ⟨(some 42), (some (38, true)), .load none (.t 41)⟩,
     ⟨(some 43), (some (38, true)), .bin .eql (.t 40) (.t 42)⟩,
     ⟨(some 44), none, .pick (.t 38) (.t 43) (.c (.bool false))⟩,
     ⟨(some 4), none, .take 44⟩])
   .ret))
def ar45 : List AR := [.t 4]
theorem comp45 : Try.f45.body.bind (comp Try.prog 45) = some ac45 := by kernel_rfl
theorem cres45 : compRes Try.prog Try.f45.results.toList = some ar45 := by kernel_rfl
/-- bilander/bilanderref03.SameAll -/
def ac46 : AC :=
 (.seq
  (.reg [⟨(some 4), none, .mv (.c (.bool false))⟩])
  (.seq
   (.seq
    (.reg [⟨(some 6), none, .mv (.t 0)⟩,
      ⟨(some 7), none, .len false (.t 6)⟩,
      ⟨(some 8), none, .mv (.t 1)⟩,
      ⟨(some 9), none, .len false (.t 8)⟩,
      ⟨(some 10), none, .bin .neq (.t 7) (.t 9)⟩])
    (.cond (.t 10)
     (.seq
      (.reg [⟨(some 4), none, .mv (.c (.bool false))⟩])
      .ret)
     .skip))
   (.seq
    (.seq
     (.reg [⟨(some 5), none, .mv (.c (.int .i64 0))⟩])
     (.block 0
      (.loop
       (.seq
        (.seq
         (.reg [⟨(some 11), none, .mv (.t 5)⟩,
           ⟨(some 12), none, .mv (.t 0)⟩,
           ⟨(some 13), none, .len false (.t 12)⟩,
           ⟨(some 14), none, .bin .lss (.t 11) (.t 13)⟩])
         (.cond (.t 14)
          .skip
          (.exit 0)))
        (.seq
         (.block 1
          (.seq
           (.dreg [] [⟨(some 17), none, .mv (.t 0)⟩,
             ⟨(some 18), none, .mv (.t 5)⟩,
             ⟨(some 19), none, .iaddr 6 (.t 17) (.t 18)⟩,
             ⟨(some 20), none, .load (some 6) (.t 19)⟩,
             ⟨(some 21), none, .mv (.t 1)⟩,
             ⟨(some 22), none, .mv (.t 5)⟩,
             ⟨(some 23), none, .iaddr 6 (.t 21) (.t 22)⟩,
             ⟨(some 24), none, .load (some 6) (.t 23)⟩,
             ⟨(some 25), none, .call 45 [(.t 20), (.t 24)]⟩,
             ⟨(some 26), none, .una .not (.t 25)⟩])
           (.cond (.t 26)
            (.seq
             (.reg [⟨(some 4), none, .mv (.c (.bool false))⟩])
             .ret)
            .skip)))
         (.reg [⟨(some 15), none, .take 5⟩,
           ⟨(some 16), none, .bin .add (.t 15) (.c (.int .i64 1))⟩,
           ⟨(some 5), none, .take 16⟩]))))))
    (.seq
     (.reg [⟨(some 4), none, .mv (.c (.bool true))⟩])
     .ret))))
def ar46 : List AR := [.t 4]
theorem comp46 : Try.f46.body.bind (comp Try.prog 27) = some ac46 := by kernel_rfl
theorem cres46 : compRes Try.prog Try.f46.results.toList = some ar46 := by kernel_rfl
/-- bilander/bilanderref03.Light -/
def ac70 : AC :=
 (.seq
  (.reg [⟨(some 1), none, .box 6 (.t 0)⟩,
    ⟨(some 2), none, .mv (.c (.bool false))⟩])
  (.seq
   (.reg [⟨(some 3), none, .faddr (.t 1) 3⟩,
     ⟨(some 4), none, .load none (.t 3)⟩,
     ⟨(some 5), none, .len true (.t 4)⟩,
     ⟨(some 6), none, .bin .leq (.t 5) (.c (.int .i64 200))⟩,
     ⟨(some 7), none, .take 6⟩,
     ⟨(some 8), (some (7, true)), .faddr (.t 1) 5⟩,
     ⟨(some 9), (some (7, true)), .load none (.t 8)⟩,
     ⟨(some 10), (some (7, true)), .len true (.t 9)⟩,
     ⟨(some 11), (some (7, true)), .bin .leq (.t 10) (.c (.int .i64 700))⟩,
     ⟨(some 12), none, .pick (.t 7) (.t 11) (.c (.bool false))⟩,
     ⟨(some 2), none, .take 12⟩])
   .ret))
def ar70 : List AR := [.t 2]
theorem comp70 : Try.f70.body.bind (comp Try.prog 13) = some ac70 := by kernel_rfl
theorem cres70 : compRes Try.prog Try.f70.results.toList = some ar70 := by kernel_rfl
/-- bilander/record.Check -/
def ac74 : AC :=
 (.seq
  (.reg [⟨(some 1), none, .box 6 (.t 0)⟩,
    ⟨(some 2), none, .mv (.c (.int .i64 0))⟩])
  (.seq
   (.block 0
    (.seq
     (.seq
      (.reg [⟨(some 4), none, .faddr (.t 1) 0⟩,
        ⟨(some 5), none, .load none (.t 4)⟩,
        ⟨(some 6), none, .bin .lss (.t 5) (.c (.int .i64 0))⟩,
        ⟨(some 3), none, .take 6⟩])
      (.cond (.t 3)
       .skip
       (.seq
        (.reg [⟨(some 7), none, .faddr (.t 1) 0⟩,
          ⟨(some 8), none, .load none (.t 7)⟩,
          ⟨(some 9), none, .bin .geq (.t 8) (.c (.int .i64 32))⟩,
          ⟨(some 3), none, .take 9⟩])
        (.cond (.t 3)
         .skip
         (.seq
          (.reg [⟨(some 10), none, .faddr (.t 1) 1⟩,
            ⟨(some 11), none, .load none (.t 10)⟩,
            ⟨(some 12), none, .bin .lss (.t 11) (.c (.int .i64 0))⟩,
            ⟨(some 3), none, .take 12⟩])
          (.cond (.t 3)
           .skip
           (.reg [⟨(some 13), none, .faddr (.t 1) 1⟩,
             ⟨(some 14), none, .load none (.t 13)⟩,
             ⟨(some 15), none, .bin .gtr (.t 14) (.c (.int .i64 1099511627776))⟩,
             ⟨(some 3), none, .take 15⟩])))))))
     (.cond (.t 3)
      (.seq
       (.reg [⟨(some 2), none, .mv (.c (.int .i64 11))⟩])
       .ret)
      (.seq
       (.seq
        (.reg [⟨(some 17), none, .faddr (.t 1) 3⟩,
          ⟨(some 18), none, .load none (.t 17)⟩,
          ⟨(some 19), none, .len true (.t 18)⟩,
          ⟨(some 20), none, .bin .gtr (.t 19) (.c (.int .i64 64))⟩,
          ⟨(some 16), none, .take 20⟩])
        (.cond (.t 16)
         .skip
         (.reg [⟨(some 21), none, .faddr (.t 1) 5⟩,
           ⟨(some 22), none, .load none (.t 21)⟩,
           ⟨(some 23), none, .len true (.t 22)⟩,
           ⟨(some 24), none, .bin .gtr (.t 23) (.c (.int .i64 512))⟩,
           ⟨(some 16), none, .take 24⟩])))
       (.cond (.t 16)
        (.seq
         (.reg [⟨(some 2), none, .mv (.c (.int .i64 5))⟩])
         .ret)
        (.seq
         (.seq
          (.reg [⟨(some 26), none, .faddr (.t 1) 2⟩,
            ⟨(some 27), none, .load none (.t 26)⟩,
            ⟨(some 28), none, .una .not (.t 27)⟩,
            ⟨(some 29), none, .take 28⟩,
            ⟨(some 30), (some (29, true)), .faddr (.t 1) 3⟩,
            ⟨(some 31), (some (29, true)), .load none (.t 30)⟩,
            ⟨(some 32), (some (29, true)), .bin .neq (.t 31) (.c (.str (ByteArray.mk #[])))⟩,
            ⟨(some 33), (some (29, true)), .take 32⟩,
            ⟨(some 34), (some (33, false)), .faddr (.t 1) 4⟩,
            ⟨(some 35), (some (33, false)), .load none (.t 34)⟩,
            ⟨(some 36), (some (29, true)), .pick (.t 33) (.c (.bool true)) (.t 35)⟩,
            ⟨(some 37), none, .pick (.t 29) (.t 36) (.c (.bool false))⟩,
            ⟨(some 25), none, .take 37⟩])
          (.cond (.t 25)
           .skip
           (.reg [⟨(some 38), none, .faddr (.t 1) 4⟩,
             ⟨(some 39), none, .load none (.t 38)⟩,
             ⟨(some 40), none, .take 39⟩,
             ⟨(some 41), (some (40, true)), .faddr (.t 1) 5⟩,
             ⟨(some 42), (some (40, true)), .load none (.t 41)⟩,
             ⟨(some 43), (some (40, true)), .bin .neq (.t 42) (.c (.str (ByteArray.mk #[])))⟩,
             ⟨(some 44), none, .pick (.t 40) (.t 43) (.c (.bool false))⟩,
             ⟨(some 25), none, .take 44⟩])))
         (.cond (.t 25)
          (.seq
           (.reg [⟨(some 2), none, .mv (.c (.int .i64 4))⟩])
           .ret)
          .skip)))))))
   (.seq
    (.reg [⟨(some 2), none, .mv (.c (.int .i64 0))⟩])
    .ret)))
def ar74 : List AR := [.t 2]
theorem comp74 : Try.f74.body.bind (comp Try.prog 45) = some ac74 := by kernel_rfl
theorem cres74 : compRes Try.prog Try.f74.results.toList = some ar74 := by kernel_rfl
/-- bilander/record.Get -/
def ac77 : AC :=
 (.seq
  (.reg [⟨(some 2), none, .alloc [(.int .i64 0), (.int .i64 0), (.bool false), (.str (ByteArray.mk #[])), (.bool false), (.str (ByteArray.mk #[]))]⟩,
    ⟨(some 3), none, .mv (.c (.int .i64 0))⟩])
  (.seq
   (.reg [⟨(some 7), none, .mv (.t 0)⟩,
     ⟨(some 8), none, .callE 60 (.t 7) [(.c (.int .i64 1))]⟩,
     ⟨(some 4), none, .take 8⟩])
   (.seq
    (.reg [⟨(some 9), none, .mv (.t 0)⟩,
      ⟨(some 10), none, .callE 62 (.t 9) []⟩,
      ⟨(some 11), none, .mv (.t 0)⟩,
      ⟨(some 12), none, .callE 62 (.t 11) []⟩,
      ⟨(some 13), none, .mv (.t 4)⟩,
      ⟨(some 14), none, .bin .and (.t 13) (.c (.int .u64 1))⟩,
      ⟨(some 15), none, .bin .neq (.t 14) (.c (.int .u64 0))⟩,
      ⟨(some 16), none, .mv (.t 4)⟩,
      ⟨(some 17), none, .bin .and (.t 16) (.c (.int .u64 2))⟩,
      ⟨(some 18), none, .bin .neq (.t 17) (.c (.int .u64 0))⟩,
      ⟨(some 19), none, .build [(.int .i64 0), (.int .i64 0), (.bool false), (.str (ByteArray.mk #[])), (.bool false), (.str (ByteArray.mk #[]))] [(0, 1, (.t 10)), (1, 1, (.t 12)), (2, 1, (.t 15)), (4, 1, (.t 18))]⟩,
      ⟨(some 5), none, .alloc [(.int .i64 0), (.int .i64 0), (.bool false), (.str (ByteArray.mk #[])), (.bool false), (.str (ByteArray.mk #[]))]⟩,
      ⟨none, none, .store 6 (.t 5) (.t 19)⟩])
    (.seq
     (.seq
      (.reg [⟨(some 20), none, .faddr (.t 5) 2⟩,
        ⟨(some 21), none, .load none (.t 20)⟩])
      (.cond (.t 21)
       (.reg [⟨(some 22), none, .mv (.t 0)⟩,
         ⟨(some 23), none, .callE 63 (.t 22) [(.c (.int .i64 64))]⟩,
         ⟨(some 24), none, .faddr (.t 5) 3⟩,
         ⟨none, none, .store 1 (.t 24) (.t 23)⟩])
       .skip))
     (.seq
      (.seq
       (.reg [⟨(some 25), none, .faddr (.t 5) 4⟩,
         ⟨(some 26), none, .load none (.t 25)⟩,
         ⟨(some 27), none, .una .not (.t 26)⟩])
       (.cond (.t 27)
        (.reg [⟨(some 28), none, .mv (.t 0)⟩,
          ⟨(some 29), none, .callE 63 (.t 28) [(.c (.int .i64 512))]⟩,
          ⟨(some 30), none, .faddr (.t 5) 5⟩,
          ⟨none, none, .store 1 (.t 30) (.t 29)⟩])
        .skip))
      (.seq
       (.seq
        (.reg [⟨(some 31), none, .mv (.t 0)⟩,
          ⟨(some 32), none, .callE 67 (.t 31) []⟩,
          ⟨(some 6), none, .take 32⟩])
        (.seq
         (.reg [⟨(some 33), none, .mv (.t 6)⟩,
           ⟨(some 34), none, .bin .neq (.t 33) (.c (.int .i64 0))⟩])
         (.cond (.t 34)
          (.seq
           (.reg [⟨(some 35), none, .build [(.int .i64 0), (.int .i64 0), (.bool false), (.str (ByteArray.mk #[])), (.bool false), (.str (ByteArray.mk #[]))] []⟩,
             ⟨(some 36), none, .take 6⟩,
             ⟨none, none, .store 6 (.t 2) (.t 35)⟩,
             ⟨(some 3), none, .take 36⟩])
           .ret)
          .skip)))
       (.seq
        (.seq
         (.reg [⟨(some 37), none, .mv (.t 4)⟩,
           ⟨(some 38), none, .bin .geq (.t 37) (.c (.int .u64 4))⟩,
           ⟨(some 39), none, .take 38⟩,
           ⟨(some 40), (some (39, false)), .load (some 6) (.t 5)⟩,
           ⟨(some 41), (some (39, false)), .call 74 [(.t 40)]⟩,
           ⟨(some 42), (some (39, false)), .bin .neq (.t 41) (.c (.int .i64 0))⟩,
           ⟨(some 43), none, .pick (.t 39) (.c (.bool true)) (.t 42)⟩])
         (.cond (.t 43)
          (.seq
           (.reg [⟨(some 44), none, .build [(.int .i64 0), (.int .i64 0), (.bool false), (.str (ByteArray.mk #[])), (.bool false), (.str (ByteArray.mk #[]))] []⟩,
             ⟨none, none, .store 6 (.t 2) (.t 44)⟩,
             ⟨(some 3), none, .mv (.c (.int .i64 4))⟩])
           .ret)
          .skip))
        (.seq
         (.reg [⟨(some 45), none, .load (some 6) (.t 5)⟩,
           ⟨none, none, .store 6 (.t 2) (.t 45)⟩,
           ⟨(some 3), none, .mv (.c (.int .i64 0))⟩])
         .ret))))))))
def ar77 : List AR := [.c 2 (some 6), .t 3]
theorem comp77 : Try.f77.body.bind (comp Try.prog 46) = some ac77 := by kernel_rfl
theorem cres77 : compRes Try.prog Try.f77.results.toList = some ar77 := by kernel_rfl
/-- bilander/bilanderref03.Get -/
def ac79 : AC :=
 (.seq
  (.reg [⟨(some 1), none, .box 2 (.t 0)⟩,
    ⟨(some 2), none, .alloc [.nils, (.int .i64 0)]⟩,
    ⟨(some 3), none, .alloc [(.int .i64 0), (.int .i64 0), (.bool false), (.str (ByteArray.mk #[])), (.bool false), (.str (ByteArray.mk #[]))]⟩,
    ⟨(some 4), none, .mv (.c (.int .i64 0))⟩])
  (.seq
   (.reg [⟨(some 8), none, .load (some 2) (.t 1)⟩,
     ⟨(some 9), none, .call 96 [(.t 8), (.c (.int .i64 1))]⟩,
     ⟨(some 7), none, .take 9⟩,
     ⟨(some 10), none, .extS 7 0⟩,
     ⟨(some 11), none, .ext 7 1⟩,
     ⟨none, none, .store 2 (.t 1) (.t 10)⟩,
     ⟨(some 5), none, .take 11⟩])
   (.seq
    (.reg [⟨(some 12), none, .mv (.t 5)⟩,
      ⟨(some 13), none, .bin .rem (.t 12) (.c (.int .u64 2))⟩,
      ⟨(some 14), none, .bin .eql (.t 13) (.c (.int .u64 1))⟩,
      ⟨(some 15), none, .mv (.t 5)⟩,
      ⟨(some 16), none, .bin .quo (.t 15) (.c (.int .u64 2))⟩,
      ⟨(some 17), none, .bin .rem (.t 16) (.c (.int .u64 2))⟩,
      ⟨(some 18), none, .bin .eql (.t 17) (.c (.int .u64 1))⟩,
      ⟨(some 19), none, .build [(.int .i64 0), (.int .i64 0), (.bool false), (.str (ByteArray.mk #[])), (.bool false), (.str (ByteArray.mk #[]))] [(2, 1, (.t 14)), (4, 1, (.t 18))]⟩,
      ⟨(some 6), none, .alloc [(.int .i64 0), (.int .i64 0), (.bool false), (.str (ByteArray.mk #[])), (.bool false), (.str (ByteArray.mk #[]))]⟩,
      ⟨none, none, .store 6 (.t 6) (.t 19)⟩])
    (.seq
     (.reg [⟨(some 21), none, .load (some 2) (.t 1)⟩,
       ⟨(some 22), none, .call 68 [(.t 21)]⟩,
       ⟨(some 20), none, .take 22⟩,
       ⟨(some 23), none, .extS 20 0⟩,
       ⟨(some 24), none, .extS 20 1⟩,
       ⟨none, none, .store 2 (.t 1) (.t 23)⟩,
       ⟨(some 25), none, .faddr (.t 6) 0⟩,
       ⟨none, none, .store 1 (.t 25) (.t 24)⟩])
     (.seq
      (.reg [⟨(some 27), none, .load (some 2) (.t 1)⟩,
        ⟨(some 28), none, .call 68 [(.t 27)]⟩,
        ⟨(some 26), none, .take 28⟩,
        ⟨(some 29), none, .extS 26 0⟩,
        ⟨(some 30), none, .extS 26 1⟩,
        ⟨none, none, .store 2 (.t 1) (.t 29)⟩,
        ⟨(some 31), none, .faddr (.t 6) 1⟩,
        ⟨none, none, .store 1 (.t 31) (.t 30)⟩])
      (.seq
       (.seq
        (.reg [⟨(some 32), none, .faddr (.t 6) 2⟩,
          ⟨(some 33), none, .load none (.t 32)⟩])
        (.cond (.t 33)
         (.reg [⟨(some 35), none, .load (some 2) (.t 1)⟩,
           ⟨(some 36), none, .call 69 [(.t 35), (.c (.int .i64 64))]⟩,
           ⟨(some 34), none, .take 36⟩,
           ⟨(some 37), none, .extS 34 0⟩,
           ⟨(some 38), none, .extS 34 1⟩,
           ⟨none, none, .store 2 (.t 1) (.t 37)⟩,
           ⟨(some 39), none, .faddr (.t 6) 3⟩,
           ⟨none, none, .store 1 (.t 39) (.t 38)⟩])
         .skip))
       (.seq
        (.seq
         (.reg [⟨(some 40), none, .faddr (.t 6) 4⟩,
           ⟨(some 41), none, .load none (.t 40)⟩,
           ⟨(some 42), none, .una .not (.t 41)⟩])
         (.cond (.t 42)
          (.reg [⟨(some 44), none, .load (some 2) (.t 1)⟩,
            ⟨(some 45), none, .call 69 [(.t 44), (.c (.int .i64 512))]⟩,
            ⟨(some 43), none, .take 45⟩,
            ⟨(some 46), none, .extS 43 0⟩,
            ⟨(some 47), none, .extS 43 1⟩,
            ⟨none, none, .store 2 (.t 1) (.t 46)⟩,
            ⟨(some 48), none, .faddr (.t 6) 5⟩,
            ⟨none, none, .store 1 (.t 48) (.t 47)⟩])
          .skip))
        (.seq
         (.block 0
          (.seq
           (.reg [⟨(some 50), none, .faddr (.t 1) 1⟩,
             ⟨(some 51), none, .load none (.t 50)⟩,
             ⟨(some 52), none, .bin .neq (.t 51) (.c (.int .i64 0))⟩,
             ⟨(some 49), none, .take 52⟩])
           (.cond (.t 49)
            (.seq
             (.dreg [(1, 1), (55, 1), (2, 2), (3, 3)] [⟨(some 53), none, .load (some 2) (.t 1)⟩,
               ⟨(some 54), none, .build [(.int .i64 0), (.int .i64 0), (.bool false), (.str (ByteArray.mk #[])), (.bool false), (.str (ByteArray.mk #[]))] []⟩,
               ⟨(some 55), none, .faddr (.t 1) 1⟩,
               ⟨(some 56), none, .load none (.t 55)⟩,
               ⟨none, none, .store 2 (.t 2) (.t 53)⟩,
               ⟨none, none, .store 6 (.t 3) (.t 54)⟩,
               ⟨(some 4), none, .take 56⟩])
             .ret)
            (.seq
             (.reg [⟨(some 58), none, .mv (.t 5)⟩,
               ⟨(some 59), none, .bin .gtr (.t 58) (.c (.int .u64 3))⟩,
               ⟨(some 60), none, .take 59⟩,
               ⟨(some 61), (some (60, false)), .load (some 6) (.t 6)⟩,
               ⟨(some 62), (some (60, false)), .call 80 [(.t 61)]⟩,
               ⟨(some 63), (some (60, false)), .bin .neq (.t 62) (.c (.int .i64 0))⟩,
               ⟨(some 64), none, .pick (.t 60) (.c (.bool true)) (.t 63)⟩,
               ⟨(some 57), none, .take 64⟩])
             (.cond (.t 57)
              (.seq
               (.reg [⟨(some 65), none, .load (some 2) (.t 1)⟩,
                 ⟨(some 66), none, .build [(.int .i64 0), (.int .i64 0), (.bool false), (.str (ByteArray.mk #[])), (.bool false), (.str (ByteArray.mk #[]))] []⟩,
                 ⟨none, none, .store 2 (.t 2) (.t 65)⟩,
                 ⟨none, none, .store 6 (.t 3) (.t 66)⟩,
                 ⟨(some 4), none, .mv (.c (.int .i64 4))⟩])
               .ret)
              .skip)))))
         (.seq
          (.dreg [(1, 1), (6, 6), (2, 2), (3, 3)] [⟨(some 67), none, .load (some 2) (.t 1)⟩,
            ⟨(some 68), none, .load (some 6) (.t 6)⟩,
            ⟨none, none, .store 2 (.t 2) (.t 67)⟩,
            ⟨none, none, .store 6 (.t 3) (.t 68)⟩,
            ⟨(some 4), none, .mv (.c (.int .i64 0))⟩])
          .ret)))))))))
def ar79 : List AR := [.c 2 (some 2), .c 3 (some 6), .t 4]
theorem comp79 : Try.f79.body.bind (comp Try.prog 69) = some ac79 := by kernel_rfl
theorem cres79 : compRes Try.prog Try.f79.results.toList = some ar79 := by kernel_rfl
/-- bilander/bilanderref03.Check -/
def ac80 : AC :=
 (.seq
  (.reg [⟨(some 1), none, .box 6 (.t 0)⟩,
    ⟨(some 2), none, .mv (.c (.int .i64 0))⟩])
  (.seq
   (.block 0
    (.seq
     (.reg [⟨(some 4), none, .faddr (.t 1) 0⟩,
       ⟨(some 5), none, .load none (.t 4)⟩,
       ⟨(some 6), none, .bin .lss (.t 5) (.c (.int .i64 0))⟩,
       ⟨(some 7), none, .take 6⟩,
       ⟨(some 8), (some (7, false)), .faddr (.t 1) 0⟩,
       ⟨(some 9), (some (7, false)), .load none (.t 8)⟩,
       ⟨(some 10), (some (7, false)), .bin .gtr (.t 9) (.c (.int .i64 31))⟩,
       ⟨(some 11), none, .pick (.t 7) (.c (.bool true)) (.t 10)⟩,
       ⟨(some 12), none, .take 11⟩,
       ⟨(some 13), (some (12, false)), .faddr (.t 1) 1⟩,
       ⟨(some 14), (some (12, false)), .load none (.t 13)⟩,
       ⟨(some 15), (some (12, false)), .bin .lss (.t 14) (.c (.int .i64 0))⟩,
       ⟨(some 16), none, .pick (.t 12) (.c (.bool true)) (.t 15)⟩,
       ⟨(some 17), none, .take 16⟩,
       ⟨(some 18), (some (17, false)), .faddr (.t 1) 1⟩,
       ⟨(some 19), (some (17, false)), .load none (.t 18)⟩,
       ⟨(some 20), (some (17, false)), .bin .gtr (.t 19) (.c (.int .i64 1099511627776))⟩,
       ⟨(some 21), none, .pick (.t 17) (.c (.bool true)) (.t 20)⟩,
       ⟨(some 3), none, .take 21⟩])
     (.cond (.t 3)
      (.seq
       (.reg [⟨(some 2), none, .mv (.c (.int .i64 11))⟩])
       .ret)
      (.seq
       (.reg [⟨(some 23), none, .faddr (.t 1) 3⟩,
         ⟨(some 24), none, .load none (.t 23)⟩,
         ⟨(some 25), none, .len true (.t 24)⟩,
         ⟨(some 26), none, .bin .gtr (.t 25) (.c (.int .i64 64))⟩,
         ⟨(some 27), none, .take 26⟩,
         ⟨(some 28), (some (27, false)), .faddr (.t 1) 5⟩,
         ⟨(some 29), (some (27, false)), .load none (.t 28)⟩,
         ⟨(some 30), (some (27, false)), .len true (.t 29)⟩,
         ⟨(some 31), (some (27, false)), .bin .gtr (.t 30) (.c (.int .i64 512))⟩,
         ⟨(some 32), none, .pick (.t 27) (.c (.bool true)) (.t 31)⟩,
         ⟨(some 22), none, .take 32⟩])
       (.cond (.t 22)
        (.seq
         (.reg [⟨(some 2), none, .mv (.c (.int .i64 5))⟩])
         .ret)
        (.seq
         (.reg [⟨(some 34), none, .faddr (.t 1) 2⟩,
           ⟨(some 35), none, .load none (.t 34)⟩,
           ⟨(some 36), none, .una .not (.t 35)⟩,
           ⟨(some 37), none, .take 36⟩,
           ⟨(some 38), (some (37, true)), .faddr (.t 1) 3⟩,
           ⟨(some 39), (some (37, true)), .load none (.t 38)⟩,
           ⟨(some 40), (some (37, true)), .bin .neq (.t 39) (.c (.str (ByteArray.mk #[])))⟩,
           ⟨(some 41), none, .pick (.t 37) (.t 40) (.c (.bool false))⟩,
           ⟨(some 42), none, .take 41⟩,
           ⟨(some 43), (some (42, false)), .faddr (.t 1) 4⟩,
           ⟨(some 44), (some (42, false)), .load none (.t 43)⟩,
           ⟨(some 45), (some (42, false)), .take 44⟩,
           ⟨(some 46), (some (45, true)), .faddr (.t 1) 5⟩,
           ⟨(some 47), (some (45, true)), .load none (.t 46)⟩,
           ⟨(some 48), (some (45, true)), .bin .neq (.t 47) (.c (.str (ByteArray.mk #[])))⟩,
           ⟨(some 49), (some (45, true)), .take 48⟩,
           ⟨(some 50), (some (49, false)), .faddr (.t 1) 2⟩,
           ⟨(some 51), (some (49, false)), .load none (.t 50)⟩,
           ⟨(some 52), (some (49, false)), .una .not (.t 51)⟩,
           ⟨(some 53), (some (45, true)), .pick (.t 49) (.c (.bool true)) (.t 52)⟩,
           ⟨(some 54), (some (42, false)), .pick (.t 45) (.t 53) (.c (.bool false))⟩,
           ⟨(some 55), none, .pick (.t 42) (.c (.bool true)) (.t 54)⟩,
           ⟨(some 33), none, .take 55⟩])
         (.cond (.t 33)
          (.seq
           (.reg [⟨(some 2), none, .mv (.c (.int .i64 4))⟩])
           .ret)
          .skip)))))))
   (.seq
    (.reg [⟨(some 2), none, .mv (.c (.int .i64 0))⟩])
    .ret)))
def ar80 : List AR := [.t 2]
theorem comp80 : Try.f80.body.bind (comp Try.prog 56) = some ac80 := by kernel_rfl
theorem cres80 : compRes Try.prog Try.f80.results.toList = some ar80 := by kernel_rfl
/-- bilander/record.Put -/
def ac98 : AC :=
 (.seq
  (.reg [⟨(some 1), none, .box 6 (.t 0)⟩,
    ⟨(some 2), none, .mv (.c .nils)⟩,
    ⟨(some 3), none, .mv (.c (.int .i64 0))⟩])
  (.seq
   (.seq
    (.reg [⟨(some 7), none, .load (some 6) (.t 1)⟩,
      ⟨(some 8), none, .call 74 [(.t 7)]⟩,
      ⟨(some 4), none, .take 8⟩])
    (.seq
     (.reg [⟨(some 9), none, .mv (.t 4)⟩,
       ⟨(some 10), none, .bin .neq (.t 9) (.c (.int .i64 0))⟩])
     (.cond (.t 10)
      (.seq
       (.reg [⟨(some 11), none, .take 4⟩,
         ⟨(some 2), none, .mv (.c .nils)⟩,
         ⟨(some 3), none, .take 11⟩])
       .ret)
      .skip)))
   (.seq
    (.reg [⟨(some 5), none, .mv (.c (.int .u8 0))⟩])
    (.seq
     (.seq
      (.reg [⟨(some 12), none, .faddr (.t 1) 2⟩,
        ⟨(some 13), none, .load none (.t 12)⟩])
      (.cond (.t 13)
       (.reg [⟨(some 14), none, .take 5⟩,
         ⟨(some 15), none, .bin .or (.t 14) (.c (.int .u8 1))⟩,
         ⟨(some 5), none, .take 15⟩])
       .skip))
     (.seq
      (.seq
       (.reg [⟨(some 16), none, .faddr (.t 1) 4⟩,
         ⟨(some 17), none, .load none (.t 16)⟩])
       (.cond (.t 17)
        (.reg [⟨(some 18), none, .take 5⟩,
          ⟨(some 19), none, .bin .or (.t 18) (.c (.int .u8 2))⟩,
          ⟨(some 5), none, .take 19⟩])
        .skip))
      (.seq
       (.reg [⟨(some 20), none, .mv (.t 5)⟩,
         ⟨(some 21), none, .bsl 1 1 [(.int .u8 0)] [(0, (.t 20))]⟩,
         ⟨(some 22), none, .faddr (.t 1) 0⟩,
         ⟨(some 23), none, .load none (.t 22)⟩,
         ⟨(some 24), none, .call 50 [(.t 23)]⟩,
         ⟨(some 25), none, .app 1 1 21 (.t 24)⟩,
         ⟨(some 6), none, .take 25⟩])
       (.seq
        (.reg [⟨(some 26), none, .take 6⟩,
          ⟨(some 27), none, .faddr (.t 1) 1⟩,
          ⟨(some 28), none, .load none (.t 27)⟩,
          ⟨(some 29), none, .call 50 [(.t 28)]⟩,
          ⟨(some 30), none, .app 1 1 26 (.t 29)⟩,
          ⟨(some 6), none, .take 30⟩])
        (.seq
         (.seq
          (.reg [⟨(some 31), none, .faddr (.t 1) 2⟩,
            ⟨(some 32), none, .load none (.t 31)⟩])
          (.cond (.t 32)
           (.reg [⟨(some 33), none, .take 6⟩,
             ⟨(some 34), none, .faddr (.t 1) 3⟩,
             ⟨(some 35), none, .load none (.t 34)⟩,
             ⟨(some 36), none, .call 52 [(.t 35)]⟩,
             ⟨(some 37), none, .app 1 1 33 (.t 36)⟩,
             ⟨(some 6), none, .take 37⟩])
           .skip))
         (.seq
          (.seq
           (.reg [⟨(some 38), none, .faddr (.t 1) 4⟩,
             ⟨(some 39), none, .load none (.t 38)⟩,
             ⟨(some 40), none, .una .not (.t 39)⟩])
           (.cond (.t 40)
            (.reg [⟨(some 41), none, .take 6⟩,
              ⟨(some 42), none, .faddr (.t 1) 5⟩,
              ⟨(some 43), none, .load none (.t 42)⟩,
              ⟨(some 44), none, .call 52 [(.t 43)]⟩,
              ⟨(some 45), none, .app 1 1 41 (.t 44)⟩,
              ⟨(some 6), none, .take 45⟩])
            .skip))
          (.seq
           (.reg [⟨(some 46), none, .take 6⟩,
             ⟨(some 2), none, .take 46⟩,
             ⟨(some 3), none, .mv (.c (.int .i64 0))⟩])
           .ret))))))))))
def ar98 : List AR := [.t 2, .t 3]
theorem comp98 : Try.f98.body.bind (comp Try.prog 47) = some ac98 := by kernel_rfl
theorem cres98 : compRes Try.prog Try.f98.results.toList = some ar98 := by kernel_rfl
/-- bilander/bilanderref03.Put -/
def ac99 : AC :=
 (.seq
  (.reg [⟨(some 1), none, .box 6 (.t 0)⟩,
    ⟨(some 2), none, .mv (.c .nils)⟩,
    ⟨(some 3), none, .mv (.c (.int .i64 0))⟩])
  (.seq
   (.reg [⟨(some 7), none, .load (some 6) (.t 1)⟩,
     ⟨(some 8), none, .call 80 [(.t 7)]⟩,
     ⟨(some 4), none, .take 8⟩])
   (.seq
    (.seq
     (.reg [⟨(some 9), none, .mv (.t 4)⟩,
       ⟨(some 10), none, .bin .neq (.t 9) (.c (.int .i64 0))⟩])
     (.cond (.t 10)
      (.seq
       (.reg [⟨(some 11), none, .take 4⟩,
         ⟨(some 2), none, .mv (.c .nils)⟩,
         ⟨(some 3), none, .take 11⟩])
       .ret)
      .skip))
    (.seq
     (.reg [⟨(some 5), none, .mv (.c (.int .u8 0))⟩])
     (.seq
      (.seq
       (.reg [⟨(some 12), none, .faddr (.t 1) 2⟩,
         ⟨(some 13), none, .load none (.t 12)⟩])
       (.cond (.t 13)
        (.reg [⟨(some 5), none, .mv (.c (.int .u8 1))⟩])
        .skip))
      (.seq
       (.seq
        (.reg [⟨(some 14), none, .faddr (.t 1) 4⟩,
          ⟨(some 15), none, .load none (.t 14)⟩])
        (.cond (.t 15)
         (.reg [⟨(some 16), none, .take 5⟩,
           ⟨(some 17), none, .bin .add (.t 16) (.c (.int .u8 2))⟩,
           ⟨(some 5), none, .take 17⟩])
         .skip))
       (.seq
        (.dreg [] [⟨(some 18), none, .mv (.t 5)⟩,
          ⟨(some 19), none, .bsl 1 1 [(.int .u8 0)] [(0, (.t 18))]⟩,
          ⟨(some 20), none, .faddr (.t 1) 0⟩,
          ⟨(some 21), none, .load none (.t 20)⟩,
          ⟨(some 22), none, .call 55 [(.t 21)]⟩,
          ⟨(some 23), none, .app 1 1 19 (.t 22)⟩,
          ⟨(some 24), none, .faddr (.t 1) 1⟩,
          ⟨(some 25), none, .load none (.t 24)⟩,
          ⟨(some 26), none, .call 55 [(.t 25)]⟩,
          ⟨(some 27), none, .app 1 1 23 (.t 26)⟩,
          ⟨(some 6), none, .take 27⟩])
        (.seq
         (.seq
          (.reg [⟨(some 28), none, .faddr (.t 1) 2⟩,
            ⟨(some 29), none, .load none (.t 28)⟩])
          (.cond (.t 29)
           (.reg [⟨(some 30), none, .take 6⟩,
             ⟨(some 31), none, .faddr (.t 1) 3⟩,
             ⟨(some 32), none, .load none (.t 31)⟩,
             ⟨(some 33), none, .call 56 [(.t 32)]⟩,
             ⟨(some 34), none, .app 1 1 30 (.t 33)⟩,
             ⟨(some 6), none, .take 34⟩])
           .skip))
         (.seq
          (.seq
           (.reg [⟨(some 35), none, .faddr (.t 1) 4⟩,
             ⟨(some 36), none, .load none (.t 35)⟩,
             ⟨(some 37), none, .una .not (.t 36)⟩])
           (.cond (.t 37)
            (.reg [⟨(some 38), none, .take 6⟩,
              ⟨(some 39), none, .faddr (.t 1) 5⟩,
              ⟨(some 40), none, .load none (.t 39)⟩,
              ⟨(some 41), none, .call 56 [(.t 40)]⟩,
              ⟨(some 42), none, .app 1 1 38 (.t 41)⟩,
              ⟨(some 6), none, .take 42⟩])
            .skip))
          (.seq
           (.reg [⟨(some 43), none, .take 6⟩,
             ⟨(some 2), none, .take 43⟩,
             ⟨(some 3), none, .mv (.c (.int .i64 0))⟩])
           .ret))))))))))
def ar99 : List AR := [.t 2, .t 3]
theorem comp99 : Try.f99.body.bind (comp Try.prog 44) = some ac99 := by kernel_rfl
theorem cres99 : compRes Try.prog Try.f99.results.toList = some ar99 := by kernel_rfl
end Go.Proofs.Ytkiimlmlfhmkiaa
