import Derived.Test.YtabidcdfmkkegaaAvL3
import Derived.Test.YtabidcdfmkkegaaProg
import Derived.KernelRfl

set_option maxRecDepth 100000
namespace Go.Proofs.Ytabidcdfmkkegaa
open Go.Av
/-- bilander/bilanderlaw03.RecordPuts -/
def ac9 : AC :=
 (.seq
  (.reg [⟨(some 2), none, .box 6 (.t 0)⟩,
    ⟨(some 3), none, .box 6 (.t 1)⟩,
    ⟨(some 4), none, .mv (.c (.bool false))⟩])
  (.seq
   (.seq
    (.reg [⟨(some 9), none, .load (some 6) (.t 2)⟩,
      ⟨(some 10), none, .call 39 [(.t 9)]⟩,
      ⟨(some 11), none, .una .not (.t 10)⟩,
      ⟨(some 12), none, .take 11⟩,
      ⟨(some 13), (some (12, false)), .load (some 6) (.t 3)⟩,
      ⟨(some 14), (some (12, false)), .call 39 [(.t 13)]⟩,
      ⟨(some 15), (some (12, false)), .una .not (.t 14)⟩,
      ⟨(some 16), none, .pick (.t 12) (.c (.bool true)) (.t 15)⟩])
    (.cond (.t 16)
     (.seq
      (.reg [⟨(some 17), none, .call 40 []⟩,
        ⟨(some 4), none, .take 17⟩])
      .ret)
     .skip))
   (.seq
    (.reg [⟨(some 19), none, .load (some 6) (.t 2)⟩,
      ⟨(some 20), none, .call 41 [(.t 19)]⟩,
      ⟨(some 18), none, .take 20⟩,
      ⟨(some 21), none, .ext 18 0⟩,
      ⟨(some 22), none, .ext 18 1⟩,
      ⟨(some 5), none, .take 21⟩,
      ⟨(some 6), none, .take 22⟩])
    (.seq
     (.reg [⟨(some 24), none, .load (some 6) (.t 2)⟩,
       ⟨(some 25), none, .call 42 [(.t 24)]⟩,
       ⟨(some 23), none, .take 25⟩,
       ⟨(some 26), none, .ext 23 0⟩,
       ⟨(some 27), none, .ext 23 1⟩,
       ⟨(some 7), none, .take 26⟩,
       ⟨(some 8), none, .take 27⟩])
     (.seq
      (.dreg [] [⟨(some 28), none, .mv (.t 5)⟩,
        ⟨(some 29), none, .b2s (.t 28)⟩,
        ⟨(some 30), none, .mv (.t 7)⟩,
        ⟨(some 31), none, .b2s (.t 30)⟩,
        ⟨(some 32), none, .bin .eql (.t 29) (.t 31)⟩,
        ⟨(some 33), none, .mv (.t 32)⟩,
        ⟨(some 34), (some (33, true)), .mv (.t 6)⟩,
        ⟨(some 35), (some (33, true)), .mv (.t 8)⟩,
        ⟨(some 36), (some (33, true)), .bin .eql (.t 34) (.t 35)⟩,
        ⟨(some 37), none, .pick (.t 33) (.t 36) (.c (.bool false))⟩,
        ⟨(some 38), none, .mv (.t 37)⟩,
        ⟨(some 39), (some (38, true)), .load (some 6) (.t 2)⟩,
        ⟨(some 40), (some (38, true)), .call 43 [(.t 39)]⟩,
        ⟨(some 41), (some (38, true)), .mv (.t 8)⟩,
        ⟨(some 42), (some (38, true)), .bin .eql (.t 40) (.t 41)⟩,
        ⟨(some 43), none, .pick (.t 38) (.t 42) (.c (.bool false))⟩,
        ⟨(some 44), none, .mv (.t 43)⟩,
        ⟨(some 45), (some (44, true)), .load (some 6) (.t 2)⟩,
        ⟨(some 46), (some (44, true)), .call 44 [(.t 45)]⟩,
        ⟨(some 47), (some (44, true)), .mv (.t 7)⟩,
        ⟨(some 48), (some (44, true)), .len false (.t 47)⟩,
        ⟨(some 49), (some (44, true)), .bin .eql (.t 46) (.t 48)⟩,
        ⟨(some 50), none, .pick (.t 44) (.t 49) (.c (.bool false))⟩,
        ⟨(some 51), none, .mv (.t 50)⟩,
        ⟨(some 52), (some (51, true)), .load (some 6) (.t 2)⟩,
        ⟨(some 53), (some (51, true)), .load (some 6) (.t 3)⟩,
        ⟨(some 54), (some (51, true)), .call 45 [(.t 52), (.t 53)]⟩,
        ⟨(some 55), (some (51, true)), .load (some 6) (.t 2)⟩,
        ⟨(some 56), (some (51, true)), .load (some 6) (.t 3)⟩,
        ⟨(some 57), (some (51, true)), .call 46 [(.t 55), (.t 56)]⟩,
        ⟨(some 58), (some (51, true)), .beq false (.t 54) (.t 57)⟩,
        ⟨(some 59), none, .pick (.t 51) (.t 58) (.c (.bool false))⟩,
        ⟨(some 60), none, .mv (.t 59)⟩,
        ⟨(some 61), (some (60, true)), .call 40 []⟩,
        ⟨(some 62), none, .pick (.t 60) (.t 61) (.c (.bool false))⟩,
        ⟨(some 4), none, .take 62⟩])
      .ret)))))
def ar9 : List AR := [.t 4]
theorem comp9 : Try.f9.body.bind (comp Try.prog 63) = some ac9 := by kernel_rfl
theorem cres9 : compRes Try.prog Try.f9.results.toList = some ar9 := by kernel_rfl
/-- bilander/bilanderlaw03.RecordApart -/
def ac10 : AC :=
 (.seq
  (.reg [⟨(some 2), none, .box 6 (.t 0)⟩,
    ⟨(some 3), none, .box 6 (.t 1)⟩,
    ⟨(some 4), none, .mv (.c (.bool false))⟩])
  (.seq
   (.seq
    (.reg [⟨(some 10), none, .load (some 6) (.t 2)⟩,
      ⟨(some 11), none, .call 39 [(.t 10)]⟩,
      ⟨(some 12), none, .una .not (.t 11)⟩,
      ⟨(some 13), none, .take 12⟩,
      ⟨(some 14), (some (13, false)), .load (some 6) (.t 3)⟩,
      ⟨(some 15), (some (13, false)), .call 39 [(.t 14)]⟩,
      ⟨(some 16), (some (13, false)), .una .not (.t 15)⟩,
      ⟨(some 17), none, .pick (.t 13) (.c (.bool true)) (.t 16)⟩,
      ⟨(some 18), none, .take 17⟩,
      ⟨(some 19), (some (18, false)), .load (some 6) (.t 2)⟩,
      ⟨(some 20), (some (18, false)), .call 43 [(.t 19)]⟩,
      ⟨(some 21), (some (18, false)), .bin .neq (.t 20) (.c (.int .i64 0))⟩,
      ⟨(some 22), none, .pick (.t 18) (.c (.bool true)) (.t 21)⟩,
      ⟨(some 23), none, .take 22⟩,
      ⟨(some 24), (some (23, false)), .load (some 6) (.t 3)⟩,
      ⟨(some 25), (some (23, false)), .call 43 [(.t 24)]⟩,
      ⟨(some 26), (some (23, false)), .bin .neq (.t 25) (.c (.int .i64 0))⟩,
      ⟨(some 27), none, .pick (.t 23) (.c (.bool true)) (.t 26)⟩])
    (.cond (.t 27)
     (.seq
      (.reg [⟨(some 28), none, .call 40 []⟩,
        ⟨(some 4), none, .take 28⟩])
      .ret)
     .skip))
   (.seq
    (.reg [⟨(some 30), none, .load (some 6) (.t 2)⟩,
      ⟨(some 31), none, .call 41 [(.t 30)]⟩,
      ⟨(some 29), none, .take 31⟩,
      ⟨(some 32), none, .ext 29 0⟩,
      ⟨(some 33), none, .ext 29 1⟩,
      ⟨(some 5), none, .take 32⟩,
      ⟨(some 6), none, .take 33⟩])
    (.seq
     (.reg [⟨(some 35), none, .load (some 6) (.t 3)⟩,
       ⟨(some 36), none, .call 41 [(.t 35)]⟩,
       ⟨(some 34), none, .take 36⟩,
       ⟨(some 37), none, .ext 34 0⟩,
       ⟨(some 38), none, .ext 34 1⟩,
       ⟨(some 7), none, .take 37⟩,
       ⟨(some 8), none, .take 38⟩])
     (.seq
      (.seq
       (.reg [⟨(some 39), none, .mv (.t 6)⟩,
         ⟨(some 40), none, .bin .neq (.t 39) (.c (.int .i64 0))⟩,
         ⟨(some 41), none, .take 40⟩,
         ⟨(some 42), (some (41, false)), .mv (.t 8)⟩,
         ⟨(some 43), (some (41, false)), .bin .neq (.t 42) (.c (.int .i64 0))⟩,
         ⟨(some 44), none, .pick (.t 41) (.c (.bool true)) (.t 43)⟩])
       (.cond (.t 44)
        (.seq
         (.reg [⟨(some 4), none, .mv (.c (.bool false))⟩])
         .ret)
        .skip))
      (.seq
       (.dreg [] [⟨(some 45), none, .mv (.t 5)⟩,
         ⟨(some 46), none, .len false (.t 45)⟩,
         ⟨(some 47), none, .mv (.t 7)⟩,
         ⟨(some 48), none, .len false (.t 47)⟩,
         ⟨(some 49), none, .bin .leq (.t 46) (.t 48)⟩,
         ⟨(some 50), none, .mv (.t 49)⟩,
         ⟨(some 51), (some (50, true)), .mv (.t 7)⟩,
         ⟨(some 52), (some (50, true)), .mv (.t 5)⟩,
         ⟨(some 53), (some (50, true)), .len false (.t 52)⟩,
         ⟨(some 54), (some (50, true)), .mv (.t 7)⟩,
         ⟨(some 55), (some (50, true)), .len false (.t 54)⟩,
         ⟨(some 56), (some (50, true)), .minmax false (.t 53) (.t 55)⟩,
         ⟨(some 57), (some (50, true)), .slc false 1 (.t 51) none (some (.t 56))⟩,
         ⟨(some 58), (some (50, true)), .b2s (.t 57)⟩,
         ⟨(some 59), (some (50, true)), .mv (.t 5)⟩,
         ⟨(some 60), (some (50, true)), .b2s (.t 59)⟩,
         ⟨(some 61), (some (50, true)), .bin .eql (.t 58) (.t 60)⟩,
         ⟨(some 62), none, .pick (.t 50) (.t 61) (.c (.bool false))⟩,
         ⟨(some 9), none, .take 62⟩])
       (.seq
        (.dreg [] [⟨(some 63), none, .mv (.t 9)⟩,
          ⟨(some 64), none, .load (some 6) (.t 2)⟩,
          ⟨(some 65), none, .load (some 6) (.t 3)⟩,
          ⟨(some 66), none, .call 45 [(.t 64), (.t 65)]⟩,
          ⟨(some 67), none, .beq false (.t 63) (.t 66)⟩,
          ⟨(some 68), none, .mv (.t 67)⟩,
          ⟨(some 69), (some (68, true)), .mv (.t 5)⟩,
          ⟨(some 70), (some (68, true)), .b2s (.t 69)⟩,
          ⟨(some 71), (some (68, true)), .mv (.t 7)⟩,
          ⟨(some 72), (some (68, true)), .b2s (.t 71)⟩,
          ⟨(some 73), (some (68, true)), .bin .eql (.t 70) (.t 72)⟩,
          ⟨(some 74), (some (68, true)), .load (some 6) (.t 2)⟩,
          ⟨(some 75), (some (68, true)), .load (some 6) (.t 3)⟩,
          ⟨(some 76), (some (68, true)), .call 45 [(.t 74), (.t 75)]⟩,
          ⟨(some 77), (some (68, true)), .beq false (.t 73) (.t 76)⟩,
          ⟨(some 78), none, .pick (.t 68) (.t 77) (.c (.bool false))⟩,
          ⟨(some 79), none, .mv (.t 78)⟩,
          ⟨(some 80), (some (79, true)), .call 40 []⟩,
          ⟨(some 81), none, .pick (.t 79) (.t 80) (.c (.bool false))⟩,
          ⟨(some 4), none, .take 81⟩])
        .ret)))))))
def ar10 : List AR := [.t 4]
theorem comp10 : Try.f10.body.bind (comp Try.prog 82) = some ac10 := by kernel_rfl
theorem cres10 : compRes Try.prog Try.f10.results.toList = some ar10 := by kernel_rfl
/-- bilander/bilanderlaw03.RecordBack -/
def ac12 : AC :=
 (.seq
  (.reg [⟨(some 2), none, .box 6 (.t 0)⟩,
    ⟨(some 4), none, .mv (.c (.bool false))⟩])
  (.seq
   (.seq
    (.reg [⟨(some 12), none, .load (some 6) (.t 2)⟩,
      ⟨(some 13), none, .call 39 [(.t 12)]⟩,
      ⟨(some 14), none, .una .not (.t 13)⟩,
      ⟨(some 15), none, .take 14⟩,
      ⟨(some 16), (some (15, false)), .mv (.t 1)⟩,
      ⟨(some 17), (some (15, false)), .len false (.t 16)⟩,
      ⟨(some 18), (some (15, false)), .bin .gtr (.t 17) (.c (.int .i64 100))⟩,
      ⟨(some 19), none, .pick (.t 15) (.c (.bool true)) (.t 18)⟩])
    (.cond (.t 19)
     (.seq
      (.reg [⟨(some 20), none, .call 40 []⟩,
        ⟨(some 4), none, .take 20⟩])
      .ret)
     .skip))
   (.seq
    (.reg [⟨(some 22), none, .load (some 6) (.t 2)⟩,
      ⟨(some 23), none, .call 41 [(.t 22)]⟩,
      ⟨(some 21), none, .take 23⟩,
      ⟨(some 24), none, .ext 21 0⟩,
      ⟨(some 25), none, .ext 21 1⟩,
      ⟨(some 5), none, .take 24⟩,
      ⟨(some 6), none, .take 25⟩])
    (.seq
     (.seq
      (.reg [⟨(some 26), none, .mv (.t 6)⟩,
        ⟨(some 27), none, .bin .neq (.t 26) (.c (.int .i64 0))⟩])
      (.cond (.t 27)
       (.seq
        (.reg [⟨(some 28), none, .mv (.t 5)⟩,
          ⟨(some 29), none, .len false (.t 28)⟩,
          ⟨(some 30), none, .bin .eql (.t 29) (.c (.int .i64 0))⟩,
          ⟨(some 31), none, .take 30⟩,
          ⟨(some 32), (some (31, true)), .load (some 6) (.t 2)⟩,
          ⟨(some 33), (some (31, true)), .call 44 [(.t 32)]⟩,
          ⟨(some 34), (some (31, true)), .bin .eql (.t 33) (.c (.int .i64 0))⟩,
          ⟨(some 35), none, .pick (.t 31) (.t 34) (.c (.bool false))⟩,
          ⟨(some 36), none, .take 35⟩,
          ⟨(some 37), (some (36, true)), .call 40 []⟩,
          ⟨(some 38), none, .pick (.t 36) (.t 37) (.c (.bool false))⟩,
          ⟨(some 4), none, .take 38⟩])
        .ret)
       .skip))
     (.seq
      (.seq
       (.reg [⟨(some 39), none, .mv (.t 5)⟩,
         ⟨(some 40), none, .len false (.t 39)⟩,
         ⟨(some 41), none, .bin .eql (.t 40) (.c (.int .i64 0))⟩])
       (.cond (.t 41)
        (.seq
         (.reg [⟨(some 4), none, .mv (.c (.bool false))⟩])
         .ret)
        .skip))
      (.seq
       (.reg [⟨(some 42), none, .bsl 1 0 [(.int .u8 0)] []⟩,
         ⟨(some 43), none, .mv (.t 5)⟩,
         ⟨(some 44), none, .app 1 1 42 (.t 43)⟩,
         ⟨(some 45), none, .mv (.t 1)⟩,
         ⟨(some 46), none, .app 1 1 44 (.t 45)⟩,
         ⟨(some 47), none, .callN 26 [(.t 46)]⟩,
         ⟨(some 7), none, .take 47⟩])
       (.seq
        (.reg [⟨(some 49), none, .mv (.t 7)⟩,
          ⟨(some 50), none, .callE 47 (.t 49) []⟩,
          ⟨(some 48), none, .take 50⟩,
          ⟨(some 51), none, .extS 48 0⟩,
          ⟨(some 52), none, .ext 48 1⟩,
          ⟨(some 8), none, .alloc [(.int .i64 0), (.int .i64 0), (.bool false), (.str (ByteArray.mk #[])), (.bool false), (.str (ByteArray.mk #[]))]⟩,
          ⟨none, none, .store 6 (.t 8) (.t 51)⟩,
          ⟨(some 9), none, .take 52⟩])
        (.seq
         (.reg [⟨(some 54), none, .mv (.t 5)⟩,
           ⟨(some 55), none, .mv (.t 5)⟩,
           ⟨(some 56), none, .len false (.t 55)⟩,
           ⟨(some 57), none, .bin .sub (.t 56) (.c (.int .i64 1))⟩,
           ⟨(some 58), none, .slc false 1 (.t 54) none (some (.t 57))⟩,
           ⟨(some 59), none, .callN 26 [(.t 58)]⟩,
           ⟨(some 60), none, .callE 47 (.t 59) []⟩,
           ⟨(some 53), none, .take 60⟩,
           ⟨(some 61), none, .extS 53 0⟩,
           ⟨(some 62), none, .ext 53 1⟩,
           ⟨(some 10), none, .alloc [(.int .i64 0), (.int .i64 0), (.bool false), (.str (ByteArray.mk #[])), (.bool false), (.str (ByteArray.mk #[]))]⟩,
           ⟨none, none, .store 6 (.t 10) (.t 61)⟩,
           ⟨(some 11), none, .take 62⟩])
         (.seq
          (.reg [⟨(some 63), none, .mv (.t 9)⟩,
            ⟨(some 64), none, .bin .eql (.t 63) (.c (.int .i64 0))⟩,
            ⟨(some 65), none, .take 64⟩,
            ⟨(some 66), (some (65, true)), .load (some 6) (.t 2)⟩,
            ⟨(some 67), (some (65, true)), .load (some 6) (.t 8)⟩,
            ⟨(some 68), (some (65, true)), .call 45 [(.t 66), (.t 67)]⟩,
            ⟨(some 69), none, .pick (.t 65) (.t 68) (.c (.bool false))⟩,
            ⟨(some 70), none, .take 69⟩,
            ⟨(some 71), (some (70, true)), .mv (.t 7)⟩,
            ⟨(some 72), (some (70, true)), .callE 33 (.t 71) []⟩,
            ⟨(some 73), (some (70, true)), .mv (.t 1)⟩,
            ⟨(some 74), (some (70, true)), .len false (.t 73)⟩,
            ⟨(some 75), (some (70, true)), .bin .eql (.t 72) (.t 74)⟩,
            ⟨(some 76), none, .pick (.t 70) (.t 75) (.c (.bool false))⟩,
            ⟨(some 77), none, .take 76⟩,
            ⟨(some 78), (some (77, true)), .mv (.t 11)⟩,
            ⟨(some 79), (some (77, true)), .bin .neq (.t 78) (.c (.int .i64 0))⟩,
            ⟨(some 80), none, .pick (.t 77) (.t 79) (.c (.bool false))⟩,
            ⟨(some 81), none, .take 80⟩,
            ⟨(some 82), (some (81, true)), .call 40 []⟩,
            ⟨(some 83), none, .pick (.t 81) (.t 82) (.c (.bool false))⟩,
            ⟨(some 4), none, .take 83⟩])
          .ret)))))))))
def ar12 : List AR := [.t 4]
theorem comp12 : Try.f12.body.bind (comp Try.prog 84) = some ac12 := by kernel_rfl
theorem cres12 : compRes Try.prog Try.f12.results.toList = some ar12 := by kernel_rfl
/-- bilander/bilanderref03.Light -/
def ac39 : AC :=
 (.seq
  (.reg [⟨(some 1), none, .box 6 (.t 0)⟩,
    ⟨(some 2), none, .mv (.c (.bool false))⟩])
  (.seq
   (.reg [⟨(some 3), none, .faddr (.t 1) 3⟩,
     ⟨(some 4), none, .load none (.t 3)⟩,
     ⟨(some 5), none, .len true (.t 4)⟩,
     ⟨(some 6), none, .bin .leq (.t 5) (.c (.int .i64 200))⟩,
     ⟨(some 7), none, .take 6⟩,
     ⟨(some 8), (some (7, true)), .faddr (.t 1) 5⟩,
     ⟨(some 9), (some (7, true)), .load none (.t 8)⟩,
     ⟨(some 10), (some (7, true)), .len true (.t 9)⟩,
     ⟨(some 11), (some (7, true)), .bin .leq (.t 10) (.c (.int .i64 700))⟩,
     ⟨(some 12), none, .pick (.t 7) (.t 11) (.c (.bool false))⟩,
     ⟨(some 2), none, .take 12⟩])
   .ret))
def ar39 : List AR := [.t 2]
theorem comp39 : Try.f39.body.bind (comp Try.prog 13) = some ac39 := by kernel_rfl
theorem cres39 : compRes Try.prog Try.f39.results.toList = some ar39 := by kernel_rfl
/-- bilander/bilanderlaw03.awake -/
def ac40 : AC :=
 (.seq
  (.reg [⟨(some 0), none, .mv (.c (.bool false))⟩])
  (.seq
   (.reg [⟨(some 8), none, .build [(.int .i64 0), (.int .i64 0), (.bool false), (.str (ByteArray.mk #[])), (.bool false), (.str (ByteArray.mk #[]))] [(0, 1, (.c (.int .i64 1))), (1, 1, (.c (.int .i64 5))), (2, 1, (.c (.bool true))), (3, 1, (.c (.str (ByteArray.mk #[107])))), (5, 1, (.c (.str (ByteArray.mk #[118]))))]⟩,
     ⟨(some 1), none, .alloc [(.int .i64 0), (.int .i64 0), (.bool false), (.str (ByteArray.mk #[])), (.bool false), (.str (ByteArray.mk #[]))]⟩,
     ⟨none, none, .store 6 (.t 1) (.t 8)⟩])
   (.seq
    (.reg [⟨(some 10), none, .load (some 6) (.t 1)⟩,
      ⟨(some 11), none, .call 41 [(.t 10)]⟩,
      ⟨(some 9), none, .take 11⟩,
      ⟨(some 12), none, .ext 9 0⟩,
      ⟨(some 13), none, .ext 9 1⟩,
      ⟨(some 2), none, .take 12⟩,
      ⟨(some 3), none, .take 13⟩])
    (.seq
     (.reg [⟨(some 15), none, .mv (.t 2)⟩,
       ⟨(some 16), none, .callN 26 [(.t 15)]⟩,
       ⟨(some 17), none, .callE 47 (.t 16) []⟩,
       ⟨(some 14), none, .take 17⟩,
       ⟨(some 18), none, .extS 14 0⟩,
       ⟨(some 19), none, .ext 14 1⟩,
       ⟨(some 4), none, .alloc [(.int .i64 0), (.int .i64 0), (.bool false), (.str (ByteArray.mk #[])), (.bool false), (.str (ByteArray.mk #[]))]⟩,
       ⟨none, none, .store 6 (.t 4) (.t 18)⟩,
       ⟨(some 5), none, .take 19⟩])
     (.seq
      (.reg [⟨(some 20), none, .faddr (.t 1) 4⟩,
        ⟨none, none, .store 1 (.t 20) (.c (.bool true))⟩,
        ⟨(some 21), none, .faddr (.t 1) 5⟩,
        ⟨none, none, .store 1 (.t 21) (.c (.str (ByteArray.mk #[])))⟩])
      (.seq
       (.reg [⟨(some 23), none, .load (some 6) (.t 1)⟩,
         ⟨(some 24), none, .call 41 [(.t 23)]⟩,
         ⟨(some 22), none, .take 24⟩,
         ⟨(some 25), none, .ext 22 0⟩,
         ⟨(some 26), none, .ext 22 1⟩,
         ⟨(some 6), none, .take 25⟩,
         ⟨(some 7), none, .take 26⟩])
       (.seq
        (.reg [⟨(some 27), none, .mv (.t 3)⟩,
          ⟨(some 28), none, .bin .eql (.t 27) (.c (.int .i64 0))⟩,
          ⟨(some 29), none, .take 28⟩,
          ⟨(some 30), (some (29, true)), .mv (.t 5)⟩,
          ⟨(some 31), (some (29, true)), .bin .eql (.t 30) (.c (.int .i64 0))⟩,
          ⟨(some 32), none, .pick (.t 29) (.t 31) (.c (.bool false))⟩,
          ⟨(some 33), none, .take 32⟩,
          ⟨(some 34), (some (33, true)), .mv (.t 7)⟩,
          ⟨(some 35), (some (33, true)), .bin .eql (.t 34) (.c (.int .i64 0))⟩,
          ⟨(some 36), none, .pick (.t 33) (.t 35) (.c (.bool false))⟩,
          ⟨(some 37), none, .take 36⟩,
          ⟨(some 38), (some (37, true)), .mv (.t 2)⟩,
          ⟨(some 39), (some (37, true)), .b2s (.t 38)⟩,
          ⟨(some 40), (some (37, true)), .bin .eql (.t 39) (.c (.str (ByteArray.mk #[1, 2, 10, 2, 107, 2, 118])))⟩,
          ⟨(some 41), none, .pick (.t 37) (.t 40) (.c (.bool false))⟩,
          ⟨(some 42), none, .take 41⟩,
          ⟨(some 43), (some (42, true)), .mv (.t 6)⟩,
          ⟨(some 44), (some (42, true)), .b2s (.t 43)⟩,
          ⟨(some 45), (some (42, true)), .bin .eql (.t 44) (.c (.str (ByteArray.mk #[3, 2, 10, 2, 107])))⟩,
          ⟨(some 46), none, .pick (.t 42) (.t 45) (.c (.bool false))⟩,
          ⟨(some 47), none, .take 46⟩,
          ⟨(some 48), (some (47, true)), .faddr (.t 4) 3⟩,
          ⟨(some 49), (some (47, true)), .load none (.t 48)⟩,
          ⟨(some 50), (some (47, true)), .bin .eql (.t 49) (.c (.str (ByteArray.mk #[107])))⟩,
          ⟨(some 51), none, .pick (.t 47) (.t 50) (.c (.bool false))⟩,
          ⟨(some 52), none, .take 51⟩,
          ⟨(some 53), (some (52, true)), .load (some 6) (.t 1)⟩,
          ⟨(some 54), (some (52, true)), .call 44 [(.t 53)]⟩,
          ⟨(some 55), (some (52, true)), .bin .eql (.t 54) (.c (.int .i64 5))⟩,
          ⟨(some 56), none, .pick (.t 52) (.t 55) (.c (.bool false))⟩,
          ⟨(some 57), none, .take 56⟩,
          ⟨(some 58), (some (57, true)), .load (some 6) (.t 4)⟩,
          ⟨(some 59), (some (57, true)), .load (some 6) (.t 4)⟩,
          ⟨(some 60), (some (57, true)), .call 45 [(.t 58), (.t 59)]⟩,
          ⟨(some 61), none, .pick (.t 57) (.t 60) (.c (.bool false))⟩,
          ⟨(some 62), none, .take 61⟩,
          ⟨(some 63), (some (62, true)), .load (some 6) (.t 4)⟩,
          ⟨(some 64), (some (62, true)), .load (some 6) (.t 1)⟩,
          ⟨(some 65), (some (62, true)), .call 45 [(.t 63), (.t 64)]⟩,
          ⟨(some 66), (some (62, true)), .una .not (.t 65)⟩,
          ⟨(some 67), none, .pick (.t 62) (.t 66) (.c (.bool false))⟩,
          ⟨(some 68), none, .take 67⟩,
          ⟨(some 69), none, .pick (.t 68) (.c (.bool true)) (.c (.bool false))⟩,
          ⟨(some 70), none, .take 69⟩,
          ⟨(some 71), none, .pick (.t 70) (.c (.bool true)) (.c (.bool false))⟩,
          ⟨(some 72), none, .take 71⟩,
          ⟨(some 73), none, .pick (.t 72) (.c (.bool true)) (.c (.bool false))⟩,
          ⟨(some 74), none, .take 73⟩,
          ⟨(some 75), none, .pick (.t 74) (.c (.bool true)) (.c (.bool false))⟩,
          ⟨(some 76), none, .take 75⟩,
          ⟨(some 77), none, .pick (.t 76) (.c (.bool true)) (.c (.bool false))⟩,
          ⟨(some 78), none, .take 77⟩,
          ⟨(some 79), none, .pick (.t 78) (.c (.bool true)) (.c (.bool false))⟩,
          ⟨(some 80), none, .take 79⟩,
          ⟨(some 81), none, .pick (.t 80) (.c (.bool true)) (.c (.bool false))⟩,
          ⟨(some 0), none, .take 81⟩])
        .ret)))))))
def ar40 : List AR := [.t 0]
theorem comp40 : Try.f40.body.bind (comp Try.prog 82) = some ac40 := by kernel_rfl
theorem cres40 : compRes Try.prog Try.f40.results.toList = some ar40 := by kernel_rfl
/-- bilander/record.Put -/
def ac41 : AC :=
 (.seq
  (.reg [⟨(some 1), none, .box 6 (.t 0)⟩,
    ⟨(some 2), none, .mv (.c .nils)⟩,
    ⟨(some 3), none, .mv (.c (.int .i64 0))⟩])
  (.seq
   (.seq
    (.reg [⟨(some 7), none, .load (some 6) (.t 1)⟩,
      ⟨(some 8), none, .call 43 [(.t 7)]⟩,
      ⟨(some 4), none, .take 8⟩])
    (.seq
     (.reg [⟨(some 9), none, .mv (.t 4)⟩,
       ⟨(some 10), none, .bin .neq (.t 9) (.c (.int .i64 0))⟩])
     (.cond (.t 10)
      (.seq
       (.reg [⟨(some 11), none, .take 4⟩,
         ⟨(some 2), none, .mv (.c .nils)⟩,
         ⟨(some 3), none, .take 11⟩])
       .ret)
      .skip)))
   (.seq
    (.reg [⟨(some 5), none, .mv (.c (.int .u8 0))⟩])
    (.seq
     (.seq
      (.reg [⟨(some 12), none, .faddr (.t 1) 2⟩,
        ⟨(some 13), none, .load none (.t 12)⟩])
      (.cond (.t 13)
       (.reg [⟨(some 14), none, .take 5⟩,
         ⟨(some 15), none, .bin .or (.t 14) (.c (.int .u8 1))⟩,
         ⟨(some 5), none, .take 15⟩])
       .skip))
     (.seq
      (.seq
       (.reg [⟨(some 16), none, .faddr (.t 1) 4⟩,
         ⟨(some 17), none, .load none (.t 16)⟩])
       (.cond (.t 17)
        (.reg [⟨(some 18), none, .take 5⟩,
          ⟨(some 19), none, .bin .or (.t 18) (.c (.int .u8 2))⟩,
          ⟨(some 5), none, .take 19⟩])
        .skip))
      (.seq
       (.reg [⟨(some 20), none, .mv (.t 5)⟩,
         ⟨(some 21), none, .bsl 1 1 [(.int .u8 0)] [(0, (.t 20))]⟩,
         ⟨(some 22), none, .faddr (.t 1) 0⟩,
         ⟨(some 23), none, .load none (.t 22)⟩,
         ⟨(some 24), none, .call 18 [(.t 23)]⟩,
         ⟨(some 25), none, .app 1 1 21 (.t 24)⟩,
         ⟨(some 6), none, .take 25⟩])
       (.seq
        (.reg [⟨(some 26), none, .take 6⟩,
          ⟨(some 27), none, .faddr (.t 1) 1⟩,
          ⟨(some 28), none, .load none (.t 27)⟩,
          ⟨(some 29), none, .call 18 [(.t 28)]⟩,
          ⟨(some 30), none, .app 1 1 26 (.t 29)⟩,
          ⟨(some 6), none, .take 30⟩])
        (.seq
         (.seq
          (.reg [⟨(some 31), none, .faddr (.t 1) 2⟩,
            ⟨(some 32), none, .load none (.t 31)⟩])
          (.cond (.t 32)
           (.reg [⟨(some 33), none, .take 6⟩,
             ⟨(some 34), none, .faddr (.t 1) 3⟩,
             ⟨(some 35), none, .load none (.t 34)⟩,
             ⟨(some 36), none, .call 37 [(.t 35)]⟩,
             ⟨(some 37), none, .app 1 1 33 (.t 36)⟩,
             ⟨(some 6), none, .take 37⟩])
           .skip))
         (.seq
          (.seq
           (.reg [⟨(some 38), none, .faddr (.t 1) 4⟩,
             ⟨(some 39), none, .load none (.t 38)⟩,
             ⟨(some 40), none, .una .not (.t 39)⟩])
           (.cond (.t 40)
            (.reg [⟨(some 41), none, .take 6⟩,
              ⟨(some 42), none, .faddr (.t 1) 5⟩,
              ⟨(some 43), none, .load none (.t 42)⟩,
              ⟨(some 44), none, .call 37 [(.t 43)]⟩,
              ⟨(some 45), none, .app 1 1 41 (.t 44)⟩,
              ⟨(some 6), none, .take 45⟩])
            .skip))
          (.seq
           (.reg [⟨(some 46), none, .take 6⟩,
             ⟨(some 2), none, .take 46⟩,
             ⟨(some 3), none, .mv (.c (.int .i64 0))⟩])
           .ret))))))))))
def ar41 : List AR := [.t 2, .t 3]
theorem comp41 : Try.f41.body.bind (comp Try.prog 47) = some ac41 := by kernel_rfl
theorem cres41 : compRes Try.prog Try.f41.results.toList = some ar41 := by kernel_rfl
/-- bilander/bilanderref03.Put -/
def ac42 : AC :=
 (.seq
  (.reg [⟨(some 1), none, .box 6 (.t 0)⟩,
    ⟨(some 2), none, .mv (.c .nils)⟩,
    ⟨(some 3), none, .mv (.c (.int .i64 0))⟩])
  (.seq
   (.reg [⟨(some 7), none, .load (some 6) (.t 1)⟩,
     ⟨(some 8), none, .call 55 [(.t 7)]⟩,
     ⟨(some 4), none, .take 8⟩])
   (.seq
    (.seq
     (.reg [⟨(some 9), none, .mv (.t 4)⟩,
       ⟨(some 10), none, .bin .neq (.t 9) (.c (.int .i64 0))⟩])
     (.cond (.t 10)
      (.seq
       (.reg [⟨(some 11), none, .take 4⟩,
         ⟨(some 2), none, .mv (.c .nils)⟩,
         ⟨(some 3), none, .take 11⟩])
       .ret)
      .skip))
    (.seq
     (.reg [⟨(some 5), none, .mv (.c (.int .u8 0))⟩])
     (.seq
      (.seq
       (.reg [⟨(some 12), none, .faddr (.t 1) 2⟩,
         ⟨(some 13), none, .load none (.t 12)⟩])
       (.cond (.t 13)
        (.reg [⟨(some 5), none, .mv (.c (.int .u8 1))⟩])
        .skip))
      (.seq
       (.seq
        (.reg [⟨(some 14), none, .faddr (.t 1) 4⟩,
          ⟨(some 15), none, .load none (.t 14)⟩])
        (.cond (.t 15)
         (.reg [⟨(some 16), none, .take 5⟩,
           ⟨(some 17), none, .bin .add (.t 16) (.c (.int .u8 2))⟩,
           ⟨(some 5), none, .take 17⟩])
         .skip))
       (.seq
        (.dreg [] [⟨(some 18), none, .mv (.t 5)⟩,
          ⟨(some 19), none, .bsl 1 1 [(.int .u8 0)] [(0, (.t 18))]⟩,
          ⟨(some 20), none, .faddr (.t 1) 0⟩,
          ⟨(some 21), none, .load none (.t 20)⟩,
          ⟨(some 22), none, .call 19 [(.t 21)]⟩,
          ⟨(some 23), none, .app 1 1 19 (.t 22)⟩,
          ⟨(some 24), none, .faddr (.t 1) 1⟩,
          ⟨(some 25), none, .load none (.t 24)⟩,
          ⟨(some 26), none, .call 19 [(.t 25)]⟩,
          ⟨(some 27), none, .app 1 1 23 (.t 26)⟩,
          ⟨(some 6), none, .take 27⟩])
        (.seq
         (.seq
          (.reg [⟨(some 28), none, .faddr (.t 1) 2⟩,
            ⟨(some 29), none, .load none (.t 28)⟩])
          (.cond (.t 29)
           (.reg [⟨(some 30), none, .take 6⟩,
             ⟨(some 31), none, .faddr (.t 1) 3⟩,
             ⟨(some 32), none, .load none (.t 31)⟩,
             ⟨(some 33), none, .call 38 [(.t 32)]⟩,
             ⟨(some 34), none, .app 1 1 30 (.t 33)⟩,
             ⟨(some 6), none, .take 34⟩])
           .skip))
         (.seq
          (.seq
           (.reg [⟨(some 35), none, .faddr (.t 1) 4⟩,
             ⟨(some 36), none, .load none (.t 35)⟩,
             ⟨(some 37), none, .una .not (.t 36)⟩])
           (.cond (.t 37)
            (.reg [⟨(some 38), none, .take 6⟩,
              ⟨(some 39), none, .faddr (.t 1) 5⟩,
              ⟨(some 40), none, .load none (.t 39)⟩,
              ⟨(some 41), none, .call 38 [(.t 40)]⟩,
              ⟨(some 42), none, .app 1 1 38 (.t 41)⟩,
              ⟨(some 6), none, .take 42⟩])
            .skip))
          (.seq
           (.reg [⟨(some 43), none, .take 6⟩,
             ⟨(some 2), none, .take 43⟩,
             ⟨(some 3), none, .mv (.c (.int .i64 0))⟩])
           .ret))))))))))
def ar42 : List AR := [.t 2, .t 3]
theorem comp42 : Try.f42.body.bind (comp Try.prog 44) = some ac42 := by kernel_rfl
theorem cres42 : compRes Try.prog Try.f42.results.toList = some ar42 := by kernel_rfl
/-- bilander/record.Check -/
def ac43 : AC :=
 (.seq
  (.reg [⟨(some 1), none, .box 6 (.t 0)⟩,
    ⟨(some 2), none, .mv (.c (.int .i64 0))⟩])
  (.seq
   (.block 0
    (.seq
     (.seq
      (.reg [⟨(some 4), none, .faddr (.t 1) 0⟩,
        ⟨(some 5), none, .load none (.t 4)⟩,
        ⟨(some 6), none, .bin .lss (.t 5) (.c (.int .i64 0))⟩,
        ⟨(some 3), none, .take 6⟩])
      (.cond (.t 3)
       .skip
       (.seq
        (.reg [⟨(some 7), none, .faddr (.t 1) 0⟩,
          ⟨(some 8), none, .load none (.t 7)⟩,
          ⟨(some 9), none, .bin .geq (.t 8) (.c (.int .i64 32))⟩,
          ⟨(some 3), none, .take 9⟩])
        (.cond (.t 3)
         .skip
         (.seq
          (.reg [⟨(some 10), none, .faddr (.t 1) 1⟩,
            ⟨(some 11), none, .load none (.t 10)⟩,
            ⟨(some 12), none, .bin .lss (.t 11) (.c (.int .i64 0))⟩,
            ⟨(some 3), none, .take 12⟩])
          (.cond (.t 3)
           .skip
           (.reg [⟨(some 13), none, .faddr (.t 1) 1⟩,
             ⟨(some 14), none, .load none (.t 13)⟩,
             ⟨(some 15), none, .bin .gtr (.t 14) (.c (.int .i64 1099511627776))⟩,
             ⟨(some 3), none, .take 15⟩])))))))
     (.cond (.t 3)
      (.seq
       (.reg [⟨(some 2), none, .mv (.c (.int .i64 11))⟩])
       .ret)
      (.seq
       (.seq
        (.reg [⟨(some 17), none, .faddr (.t 1) 3⟩,
          ⟨(some 18), none, .load none (.t 17)⟩,
          ⟨(some 19), none, .len true (.t 18)⟩,
          ⟨(some 20), none, .bin .gtr (.t 19) (.c (.int .i64 64))⟩,
          ⟨(some 16), none, .take 20⟩])
        (.cond (.t 16)
         .skip
         (.reg [⟨(some 21), none, .faddr (.t 1) 5⟩,
           ⟨(some 22), none, .load none (.t 21)⟩,
           ⟨(some 23), none, .len true (.t 22)⟩,
           ⟨(some 24), none, .bin .gtr (.t 23) (.c (.int .i64 512))⟩,
           ⟨(some 16), none, .take 24⟩])))
       (.cond (.t 16)
        (.seq
         (.reg [⟨(some 2), none, .mv (.c (.int .i64 5))⟩])
         .ret)
        (.seq
         (.seq
          (.reg [⟨(some 26), none, .faddr (.t 1) 2⟩,
            ⟨(some 27), none, .load none (.t 26)⟩,
            ⟨(some 28), none, .una .not (.t 27)⟩,
            ⟨(some 29), none, .take 28⟩,
            ⟨(some 30), (some (29, true)), .faddr (.t 1) 3⟩,
            ⟨(some 31), (some (29, true)), .load none (.t 30)⟩,
            ⟨(some 32), (some (29, true)), .bin .neq (.t 31) (.c (.str (ByteArray.mk #[])))⟩,
            ⟨(some 33), (some (29, true)), .take 32⟩,
            ⟨(some 34), (some (33, false)), .faddr (.t 1) 4⟩,
            ⟨(some 35), (some (33, false)), .load none (.t 34)⟩,
            ⟨(some 36), (some (29, true)), .pick (.t 33) (.c (.bool true)) (.t 35)⟩,
            ⟨(some 37), none, .pick (.t 29) (.t 36) (.c (.bool false))⟩,
            ⟨(some 25), none, .take 37⟩])
          (.cond (.t 25)
           .skip
           (.reg [⟨(some 38), none, .faddr (.t 1) 4⟩,
             ⟨(some 39), none, .load none (.t 38)⟩,
             ⟨(some 40), none, .take 39⟩,
             ⟨(some 41), (some (40, true)), .faddr (.t 1) 5⟩,
             ⟨(some 42), (some (40, true)), .load none (.t 41)⟩,
             ⟨(some 43), (some (40, true)), .bin .neq (.t 42) (.c (.str (ByteArray.mk #[])))⟩,
             ⟨(some 44), none, .pick (.t 40) (.t 43) (.c (.bool false))⟩,
             ⟨(some 25), none, .take 44⟩])))
         (.cond (.t 25)
          (.seq
           (.reg [⟨(some 2), none, .mv (.c (.int .i64 4))⟩])
           .ret)
          .skip)))))))
   (.seq
    (.reg [⟨(some 2), none, .mv (.c (.int .i64 0))⟩])
    .ret)))
def ar43 : List AR := [.t 2]
theorem comp43 : Try.f43.body.bind (comp Try.prog 45) = some ac43 := by kernel_rfl
theorem cres43 : compRes Try.prog Try.f43.results.toList = some ar43 := by kernel_rfl
/-- bilander/record.Size -/
def ac44 : AC :=
 (.seq
  (.reg [⟨(some 1), none, .box 6 (.t 0)⟩,
    ⟨(some 2), none, .mv (.c (.int .i64 0))⟩])
  (.seq
   (.reg [⟨(some 6), none, .load (some 6) (.t 1)⟩,
     ⟨(some 7), none, .call 41 [(.t 6)]⟩,
     ⟨(some 5), none, .take 7⟩,
     ⟨(some 8), none, .ext 5 0⟩,
     ⟨(some 9), none, .ext 5 1⟩,
     ⟨(some 3), none, .take 8⟩,
     ⟨(some 4), none, .take 9⟩])
   (.seq
    (.reg [⟨(some 10), none, .mv (.t 3)⟩,
      ⟨(some 11), none, .len false (.t 10)⟩,
      ⟨(some 2), none, .take 11⟩])
    .ret)))
def ar44 : List AR := [.t 2]
theorem comp44 : Try.f44.body.bind (comp Try.prog 12) = some ac44 := by kernel_rfl
theorem cres44 : compRes Try.prog Try.f44.results.toList = some ar44 := by kernel_rfl
/-- bilander/record.Same -/
def ac45 : AC :=
 (.seq
  (.reg [⟨(some 2), none, .box 6 (.t 0)⟩,
    ⟨(some 3), none, .box 6 (.t 1)⟩,
    ⟨(some 4), none, .mv (.c (.bool false))⟩])
  (.seq
   (.reg [⟨(some 5), none, .load (some 6) (.t 2)⟩,
     ⟨(some 6), none, .load (some 6) (.t 3)⟩,
     ⟨(some 7), none, .eqs [1, 1, 0, 2, 0, 2] false (.t 5) (.t 6)⟩,
     ⟨(some 4), none, .take 7⟩])
   .ret))
def ar45 : List AR := [.t 4]
theorem comp45 : Try.f45.body.bind (comp Try.prog 8) = some ac45 := by kernel_rfl
theorem cres45 : compRes Try.prog Try.f45.results.toList = some ar45 := by kernel_rfl
/-- bilander/bilanderref03.Same -/
def ac46 : AC :=
 (.seq
  (.reg [⟨(some 2), none, .box 6 (.t 0)⟩,
    ⟨(some 3), none, .box 6 (.t 1)⟩,
    ⟨(some 4), none, .mv (.c (.bool false))⟩])
  (.seq
   (.reg [⟨(some 5), none, .faddr (.t 2) 0⟩,
     ⟨(some 6), none, .load none (.t 5)⟩,
     ⟨(some 7), none, .faddr (.t 3) 0⟩,
     ⟨(some 8), none, .load none (.t 7)⟩,
     ⟨(some 9), none, .bin .eql (.t 6) (.t 8)⟩,
     ⟨(some 10), none, .take 9⟩,
     ⟨(some 11), (some (10, true)), .faddr (.t 2) 1⟩,
     ⟨(some 12), (some (10, true)), .load none (.t 11)⟩,
     ⟨(some 13), (some (10, true)), .faddr (.t 3) 1⟩,
     ⟨(some 14), (some (10, true)), .load none (.t 13)⟩,
     ⟨(some 15), (some (10, true)), .bin .eql (.t 12) (.t 14)⟩,
     ⟨(some 16), none, .pick (.t 10) (.t 15) (.c (.bool false))⟩,
     ⟨(some 17), none, .take 16⟩,
     ⟨(some 18), (some (17, true)), .faddr (.t 2) 2⟩,
     ⟨(some 19), (some (17, true)), .load none (.t 18)⟩,
     ⟨(some 20), (some (17, true)), .faddr (.t 3) 2⟩,
     ⟨(some 21), (some (17, true)), .load none (.t 20)⟩,
     ⟨(some 22), (some (17, true)), .beq false (.t 19) (.t 21)⟩,
     ⟨(some 23), none, .pick (.t 17) (.t 22) (.c (.bool false))⟩,
     ⟨(some 24), none, .take 23⟩,
     ⟨(some 25), (some (24, true)), .faddr (.t 2) 3⟩,
     ⟨(some 26), (some (24, true)), .load none (.t 25)⟩,
     ⟨(some 27), (some (24, true)), .faddr (.t 3) 3⟩,
     ⟨(some 28), (some (24, true)), .load none (.t 27)⟩,
     ⟨(some 29), (some (24, true)), .bin .eql (.t 26) (.t 28)⟩,
     ⟨(some 30), none, .pick (.t 24) (.t 29) (.c (.bool false))⟩,
     ⟨(some 31), none, .take 30⟩,
     ⟨(some 32), (some (31, true)), .faddr (.t 2) 4⟩,
     ⟨(some 33), (some (31, true)), .load none (.t 32)⟩,
     ⟨(some 34), (some (31, true)), .faddr (.t 3) 4⟩,
     ⟨(some 35), (some (31, true)), .load none (.t 34)⟩,
     ⟨(some 36), (some (31, true)), .beq false (.t 33) (.t 35)⟩,
     ⟨(some 37), none, .pick (.t 31) (.t 36) (.c (.bool false))⟩,
     ⟨(some 38), none, .take 37⟩,
     ⟨(some 39), (some (38, true)), .faddr (.t 2) 5⟩,
     ⟨(some 40), (some (38, true)), .load none (.t 39)⟩,
     ⟨(some 41), (some (38, true)), .faddr (.t 3) 5⟩,
     ⟨(some 42), (some (38, true)), .load none (.t 41)⟩,
     ⟨(some 43), (some (38, true)), .bin .eql (.t 40) (.t 42)⟩,
     ⟨(some 44), none, .pick (.t 38) (.t 43) (.c (.bool false))⟩,
     ⟨(some 4), none, .take 44⟩])
   .ret))
def ar46 : List AR := [.t 4]
theorem comp46 : Try.f46.body.bind (comp Try.prog 45) = some ac46 := by kernel_rfl
theorem cres46 : compRes Try.prog Try.f46.results.toList = some ar46 := by kernel_rfl
/-- bilander/record.Get -/
def ac47 : AC :=
 (.seq
  (.reg [⟨(some 2), none, .alloc [(.int .i64 0), (.int .i64 0), (.bool false), (.str (ByteArray.mk #[])), (.bool false), (.str (ByteArray.mk #[]))]⟩,
    ⟨(some 3), none, .mv (.c (.int .i64 0))⟩])
  (.seq
   (.reg [⟨(some 7), none, .mv (.t 0)⟩,
     ⟨(some 8), none, .callE 30 (.t 7) [(.c (.int .i64 1))]⟩,
     ⟨(some 4), none, .take 8⟩])
   (.seq
    (.reg [⟨(some 9), none, .mv (.t 0)⟩,
      ⟨(some 10), none, .callE 28 (.t 9) []⟩,
      ⟨(some 11), none, .mv (.t 0)⟩,
      ⟨(some 12), none, .callE 28 (.t 11) []⟩,
      ⟨(some 13), none, .mv (.t 4)⟩,
      ⟨(some 14), none, .bin .and (.t 13) (.c (.int .u64 1))⟩,
      ⟨(some 15), none, .bin .neq (.t 14) (.c (.int .u64 0))⟩,
      ⟨(some 16), none, .mv (.t 4)⟩,
      ⟨(some 17), none, .bin .and (.t 16) (.c (.int .u64 2))⟩,
      ⟨(some 18), none, .bin .neq (.t 17) (.c (.int .u64 0))⟩,
      ⟨(some 19), none, .build [(.int .i64 0), (.int .i64 0), (.bool false), (.str (ByteArray.mk #[])), (.bool false), (.str (ByteArray.mk #[]))] [(0, 1, (.t 10)), (1, 1, (.t 12)), (2, 1, (.t 15)), (4, 1, (.t 18))]⟩,
      ⟨(some 5), none, .alloc [(.int .i64 0), (.int .i64 0), (.bool false), (.str (ByteArray.mk #[])), (.bool false), (.str (ByteArray.mk #[]))]⟩,
      ⟨none, none, .store 6 (.t 5) (.t 19)⟩])
    (.seq
     (.seq
      (.reg [⟨(some 20), none, .faddr (.t 5) 2⟩,
        ⟨(some 21), none, .load none (.t 20)⟩])
      (.cond (.t 21)
       (.reg [⟨(some 22), none, .mv (.t 0)⟩,
         ⟨(some 23), none, .callE 32 (.t 22) [(.c (.int .i64 64))]⟩,
         ⟨(some 24), none, .faddr (.t 5) 3⟩,
         ⟨none, none, .store 1 (.t 24) (.t 23)⟩])
       .skip))
     (.seq
      (.seq
       (.reg [⟨(some 25), none, .faddr (.t 5) 4⟩,
         ⟨(some 26), none, .load none (.t 25)⟩,
         ⟨(some 27), none, .una .not (.t 26)⟩])
       (.cond (.t 27)
        (.reg [⟨(some 28), none, .mv (.t 0)⟩,
          ⟨(some 29), none, .callE 32 (.t 28) [(.c (.int .i64 512))]⟩,
          ⟨(some 30), none, .faddr (.t 5) 5⟩,
          ⟨none, none, .store 1 (.t 30) (.t 29)⟩])
        .skip))
      (.seq
       (.seq
        (.reg [⟨(some 31), none, .mv (.t 0)⟩,
          ⟨(some 32), none, .callE 34 (.t 31) []⟩,
          ⟨(some 6), none, .take 32⟩])
        (.seq
         (.reg [⟨(some 33), none, .mv (.t 6)⟩,
           ⟨(some 34), none, .bin .neq (.t 33) (.c (.int .i64 0))⟩])
         (.cond (.t 34)
          (.seq
           (.reg [⟨(some 35), none, .build [(.int .i64 0), (.int .i64 0), (.bool false), (.str (ByteArray.mk #[])), (.bool false), (.str (ByteArray.mk #[]))] []⟩,
             ⟨(some 36), none, .take 6⟩,
             ⟨none, none, .store 6 (.t 2) (.t 35)⟩,
             ⟨(some 3), none, .take 36⟩])
           .ret)
          .skip)))
       (.seq
        (.seq
         (.reg [⟨(some 37), none, .mv (.t 4)⟩,
           ⟨(some 38), none, .bin .geq (.t 37) (.c (.int .u64 4))⟩,
           ⟨(some 39), none, .take 38⟩,
           ⟨(some 40), (some (39, false)), .load (some 6) (.t 5)⟩,
           ⟨(some 41), (some (39, false)), .call 43 [(.t 40)]⟩,
           ⟨(some 42), (some (39, false)), .bin .neq (.t 41) (.c (.int .i64 0))⟩,
           ⟨(some 43), none, .pick (.t 39) (.c (.bool true)) (.t 42)⟩])
         (.cond (.t 43)
          (.seq
           (.reg [⟨(some 44), none, .build [(.int .i64 0), (.int .i64 0), (.bool false), (.str (ByteArray.mk #[])), (.bool false), (.str (ByteArray.mk #[]))] []⟩,
             ⟨none, none, .store 6 (.t 2) (.t 44)⟩,
             ⟨(some 3), none, .mv (.c (.int .i64 4))⟩])
           .ret)
          .skip))
        (.seq
         (.reg [⟨(some 45), none, .load (some 6) (.t 5)⟩,
           ⟨none, none, .store 6 (.t 2) (.t 45)⟩,
           ⟨(some 3), none, .mv (.c (.int .i64 0))⟩])
         .ret))))))))
def ar47 : List AR := [.c 2 (some 6), .t 3]
theorem comp47 : Try.f47.body.bind (comp Try.prog 46) = some ac47 := by kernel_rfl
theorem cres47 : compRes Try.prog Try.f47.results.toList = some ar47 := by kernel_rfl
/-- bilander/bilanderref03.Check -/
def ac55 : AC :=
 (.seq
  (.reg [⟨(some 1), none, .box 6 (.t 0)⟩,
    ⟨(some 2), none, .mv (.c (.int .i64 0))⟩])
  (.seq
   (.block 0
    (.seq
     (.reg [⟨(some 4), none, .faddr (.t 1) 0⟩,
       ⟨(some 5), none, .load none (.t 4)⟩,
       ⟨(some 6), none, .bin .lss (.t 5) (.c (.int .i64 0))⟩,
       ⟨(some 7), none, .take 6⟩,
       ⟨(some 8), (some (7, false)), .faddr (.t 1) 0⟩,
       ⟨(some 9), (some (7, false)), .load none (.t 8)⟩,
       ⟨(some 10), (some (7, false)), .bin .gtr (.t 9) (.c (.int .i64 31))⟩,
       ⟨(some 11), none, .pick (.t 7) (.c (.bool true)) (.t 10)⟩,
       ⟨(some 12), none, .take 11⟩,
       ⟨(some 13), (some (12, false)), .faddr (.t 1) 1⟩,
       ⟨(some 14), (some (12, false)), .load none (.t 13)⟩,
       ⟨(some 15), (some (12, false)), .bin .lss (.t 14) (.c (.int .i64 0))⟩,
       ⟨(some 16), none, .pick (.t 12) (.c (.bool true)) (.t 15)⟩,
       ⟨(some 17), none, .take 16⟩,
       ⟨(some 18), (some (17, false)), .faddr (.t 1) 1⟩,
       ⟨(some 19), (some (17, false)), .load none (.t 18)⟩,
       ⟨(some 20), (some (17, false)), .bin .gtr (.t 19) (.c (.int .i64 1099511627776))⟩,
       ⟨(some 21), none, .pick (.t 17) (.c (.bool true)) (.t 20)⟩,
       ⟨(some 3), none, .take 21⟩])
     (.cond (.t 3)
      (.seq
       (.reg [⟨(some 2), none, .mv (.c (.int .i64 11))⟩])
       .ret)
      (.seq
       (.reg [⟨(some 23), none, .faddr (.t 1) 3⟩,
         ⟨(some 24), none, .load none (.t 23)⟩,
         ⟨(some 25), none, .len true (.t 24)⟩,
         ⟨(some 26), none, .bin .gtr (.t 25) (.c (.int .i64 64))⟩,
         ⟨(some 27), none, .take 26⟩,
         ⟨(some 28), (some (27, false)), .faddr (.t 1) 5⟩,
         ⟨(some 29), (some (27, false)), .load none (.t 28)⟩,
         ⟨(some 30), (some (27, false)), .len true (.t 29)⟩,
         ⟨(some 31), (some (27, false)), .bin .gtr (.t 30) (.c (.int .i64 512))⟩,
         ⟨(some 32), none, .pick (.t 27) (.c (.bool true)) (.t 31)⟩,
         ⟨(some 22), none, .take 32⟩])
       (.cond (.t 22)
        (.seq
         (.reg [⟨(some 2), none, .mv (.c (.int .i64 5))⟩])
         .ret)
        (.seq
         (.reg [⟨(some 34), none, .faddr (.t 1) 2⟩,
           ⟨(some 35), none, .load none (.t 34)⟩,
           ⟨(some 36), none, .una .not (.t 35)⟩,
           ⟨(some 37), none, .take 36⟩,
           ⟨(some 38), (some (37, true)), .faddr (.t 1) 3⟩,
           ⟨(some 39), (some (37, true)), .load none (.t 38)⟩,
           ⟨(some 40), (some (37, true)), .bin .neq (.t 39) (.c (.str (ByteArray.mk #[])))⟩,
           ⟨(some 41), none, .pick (.t 37) (.t 40) (.c (.bool false))⟩,
           ⟨(some 42), none, .take 41⟩,
           ⟨(some 43), (some (42, false)), .faddr (.t 1) 4⟩,
           ⟨(some 44), (some (42, false)), .load none (.t 43)⟩,
           ⟨(some 45), (some (42, false)), .take 44⟩,
           ⟨(some 46), (some (45, true)), .faddr (.t 1) 5⟩,
           ⟨(some 47), (some (45, true)), .load none (.t 46)⟩,
           ⟨(some 48), (some (45, true)), .bin .neq (.t 47) (.c (.str (ByteArray.mk #[])))⟩,
           ⟨(some 49), (some (45, true)), .take 48⟩,
           ⟨(some 50), (some (49, false)), .faddr (.t 1) 2⟩,
           ⟨(some 51), (some (49, false)), .load none (.t 50)⟩,
           ⟨(some 52), (some (49, false)), .una .not (.t 51)⟩,
           ⟨(some 53), (some (45, true)), .pick (.t 49) (.c (.bool true)) (.t 52)⟩,
           ⟨(some 54), (some (42, false)), .pick (.t 45) (.t 53) (.c (.bool false))⟩,
           ⟨(some 55), none, .pick (.t 42) (.c (.bool true)) (.t 54)⟩,
           ⟨(some 33), none, .take 55⟩])
         (.cond (.t 33)
          (.seq
           (.reg [⟨(some 2), none, .mv (.c (.int .i64 4))⟩])
           .ret)
          .skip)))))))
   (.seq
    (.reg [⟨(some 2), none, .mv (.c (.int .i64 0))⟩])
    .ret)))
def ar55 : List AR := [.t 2]
theorem comp55 : Try.f55.body.bind (comp Try.prog 56) = some ac55 := by kernel_rfl
theorem cres55 : compRes Try.prog Try.f55.results.toList = some ar55 := by kernel_rfl
end Go.Proofs.Ytabidcdfmkkegaa
