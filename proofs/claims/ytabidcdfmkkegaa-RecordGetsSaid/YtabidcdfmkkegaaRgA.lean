import Derived.Test.YtabidcdfmkkegaaAvL3
import Derived.Test.YtabidcdfmkkegaaProg
import Derived.KernelRfl

set_option maxRecDepth 100000
namespace Go.Proofs.Ytabidcdfmkkegaa
open Go.Av
/-- bilander/bilanderlaw03.RecordGets -/
def ac11 : AC :=
 (.seq
  (.reg [⟨(some 2), none, .mv (.c (.bool false))⟩])
  (.seq
   (.seq
    (.reg [⟨(some 11), none, .mv (.t 0)⟩,
      ⟨(some 12), none, .len false (.t 11)⟩,
      ⟨(some 13), none, .bin .gtr (.t 12) (.c (.int .i64 900))⟩])
    (.cond (.t 13)
     (.seq
      (.reg [⟨(some 14), none, .call 40 []⟩,
        ⟨(some 2), none, .take 14⟩])
      .ret)
     .skip))
   (.seq
    (.reg [⟨(some 15), none, .mv (.t 0)⟩,
      ⟨(some 16), none, .callN 26 [(.t 15)]⟩,
      ⟨(some 3), none, .take 16⟩])
    (.seq
     (.reg [⟨(some 18), none, .mv (.t 3)⟩,
       ⟨(some 19), none, .callE 47 (.t 18) []⟩,
       ⟨(some 17), none, .take 19⟩,
       ⟨(some 20), none, .extS 17 0⟩,
       ⟨(some 21), none, .ext 17 1⟩,
       ⟨(some 4), none, .alloc [(.int .i64 0), (.int .i64 0), (.bool false), (.str (ByteArray.mk #[])), (.bool false), (.str (ByteArray.mk #[]))]⟩,
       ⟨none, none, .store 6 (.t 4) (.t 20)⟩,
       ⟨(some 5), none, .take 21⟩])
     (.seq
      (.reg [⟨(some 23), none, .mv (.t 0)⟩,
        ⟨(some 24), none, .build [.nils, (.int .i64 0)] [(0, 1, (.t 23))]⟩,
        ⟨(some 25), none, .call 48 [(.t 24)]⟩,
        ⟨(some 22), none, .take 25⟩,
        ⟨(some 26), none, .extS 22 0⟩,
        ⟨(some 27), none, .extS 22 1⟩,
        ⟨(some 28), none, .ext 22 2⟩,
        ⟨(some 6), none, .alloc [.nils, (.int .i64 0)]⟩,
        ⟨(some 7), none, .alloc [(.int .i64 0), (.int .i64 0), (.bool false), (.str (ByteArray.mk #[])), (.bool false), (.str (ByteArray.mk #[]))]⟩,
        ⟨none, none, .store 2 (.t 6) (.t 26)⟩,
        ⟨none, none, .store 6 (.t 7) (.t 27)⟩,
        ⟨(some 8), none, .take 28⟩])
      (.seq
       (.reg [⟨(some 30), none, .callE 47 (.c .nilp) []⟩,
         ⟨(some 29), none, .take 30⟩,
         ⟨(some 31), none, .extS 29 0⟩,
         ⟨(some 32), none, .ext 29 1⟩,
         ⟨(some 9), none, .alloc [(.int .i64 0), (.int .i64 0), (.bool false), (.str (ByteArray.mk #[])), (.bool false), (.str (ByteArray.mk #[]))]⟩,
         ⟨none, none, .store 6 (.t 9) (.t 31)⟩,
         ⟨(some 10), none, .take 32⟩])
       (.seq
        (.dreg [(4, 4), (7, 7), (45, 3), (3, 3), (47, 6), (6, 6)] [⟨(some 33), none, .load (some 6) (.t 4)⟩,
          ⟨(some 34), none, .load (some 6) (.t 7)⟩,
          ⟨(some 35), none, .call 46 [(.t 33), (.t 34)]⟩,
          ⟨(some 36), none, .mv (.t 35)⟩,
          ⟨(some 37), (some (36, true)), .mv (.t 5)⟩,
          ⟨(some 38), (some (36, true)), .mv (.t 8)⟩,
          ⟨(some 39), (some (36, true)), .bin .eql (.t 37) (.t 38)⟩,
          ⟨(some 40), none, .pick (.t 36) (.t 39) (.c (.bool false))⟩,
          ⟨(some 41), none, .mv (.t 40)⟩,
          ⟨(some 42), (some (41, true)), .mv (.t 8)⟩,
          ⟨(some 43), (some (41, true)), .bin .neq (.t 42) (.c (.int .i64 0))⟩,
          ⟨(some 44), (some (41, true)), .mv (.t 43)⟩,
          ⟨(some 45), (some (44, false)), .mv (.t 3)⟩,
          ⟨(some 46), (some (44, false)), .callE 33 (.t 45) []⟩,
          ⟨(some 47), (some (44, false)), .faddr (.t 6) 0⟩,
          ⟨(some 48), (some (44, false)), .load none (.t 47)⟩,
          ⟨(some 49), (some (44, false)), .len false (.t 48)⟩,
          ⟨(some 50), (some (44, false)), .bin .eql (.t 46) (.t 49)⟩,
          ⟨(some 51), (some (41, true)), .pick (.t 44) (.c (.bool true)) (.t 50)⟩,
          ⟨(some 52), none, .pick (.t 41) (.t 51) (.c (.bool false))⟩,
          ⟨(some 53), none, .mv (.t 52)⟩,
          ⟨(some 54), (some (53, true)), .mv (.t 10)⟩,
          ⟨(some 55), (some (53, true)), .bin .eql (.t 54) (.c (.int .i64 1))⟩,
          ⟨(some 56), none, .pick (.t 53) (.t 55) (.c (.bool false))⟩,
          ⟨(some 57), none, .mv (.t 56)⟩,
          ⟨(some 58), (some (57, true)), .call 40 []⟩,
          ⟨(some 59), none, .pick (.t 57) (.t 58) (.c (.bool false))⟩,
          ⟨(some 2), none, .take 59⟩])
        .ret)))))))
def ar11 : List AR := [.t 2]
theorem comp11 : Try.f11.body.bind (comp Try.prog 60) = some ac11 := by kernel_rfl
theorem cres11 : compRes Try.prog Try.f11.results.toList = some ar11 := by kernel_rfl
/-- (bilander/bilanderref01.Reader).Num -/
def ac27 : AC :=
 (.seq
  (.reg [⟨(some 1), none, .box 2 (.t 0)⟩,
    ⟨(some 2), none, .alloc [.nils, (.int .i64 0)]⟩,
    ⟨(some 3), none, .mv (.c (.int .i64 0))⟩])
  (.seq
   (.seq
    (.reg [⟨(some 7), none, .faddr (.t 1) 1⟩,
      ⟨(some 8), none, .load none (.t 7)⟩,
      ⟨(some 9), none, .bin .neq (.t 8) (.c (.int .i64 0))⟩])
    (.cond (.t 9)
     (.seq
      (.reg [⟨(some 10), none, .load (some 2) (.t 1)⟩,
        ⟨none, none, .store 2 (.t 2) (.t 10)⟩,
        ⟨(some 3), none, .mv (.c (.int .i64 0))⟩])
      .ret)
     .skip))
   (.seq
    (.reg [⟨(some 12), none, .faddr (.t 1) 0⟩,
      ⟨(some 13), none, .load none (.t 12)⟩,
      ⟨(some 14), none, .call 23 [(.t 13)]⟩,
      ⟨(some 11), none, .take 14⟩,
      ⟨(some 15), none, .ext 11 0⟩,
      ⟨(some 16), none, .ext 11 1⟩,
      ⟨(some 17), none, .ext 11 2⟩,
      ⟨(some 4), none, .take 15⟩,
      ⟨(some 5), none, .take 16⟩,
      ⟨(some 6), none, .take 17⟩])
    (.seq
     (.seq
      (.reg [⟨(some 18), none, .mv (.t 6)⟩,
        ⟨(some 19), none, .bin .neq (.t 18) (.c (.int .i64 0))⟩])
      (.cond (.t 19)
       (.seq
        (.reg [⟨(some 20), none, .faddr (.t 1) 0⟩,
          ⟨(some 21), none, .load none (.t 20)⟩,
          ⟨(some 22), none, .mv (.t 6)⟩,
          ⟨(some 23), none, .build [.nils, (.int .i64 0)] [(0, 1, (.t 21)), (1, 1, (.t 22))]⟩,
          ⟨none, none, .store 2 (.t 2) (.t 23)⟩,
          ⟨(some 3), none, .mv (.c (.int .i64 0))⟩])
        .ret)
       .skip))
     (.seq
      (.reg [⟨(some 24), none, .faddr (.t 1) 0⟩,
        ⟨(some 25), none, .load none (.t 24)⟩,
        ⟨(some 26), none, .mv (.t 5)⟩,
        ⟨(some 27), none, .slc false 1 (.t 25) (some (.t 26)) none⟩,
        ⟨(some 28), none, .build [.nils, (.int .i64 0)] [(0, 1, (.t 27)), (1, 1, (.c (.int .i64 0)))]⟩,
        ⟨(some 29), none, .take 4⟩,
        ⟨none, none, .store 2 (.t 2) (.t 28)⟩,
        ⟨(some 3), none, .take 29⟩])
      .ret)))))
def ar27 : List AR := [.c 2 (some 2), .t 3]
theorem comp27 : Try.f27.body.bind (comp Try.prog 30) = some ac27 := by kernel_rfl
theorem cres27 : compRes Try.prog Try.f27.results.toList = some ar27 := by kernel_rfl
/-- (bilander/bilanderref01.Reader).Fixed -/
def ac29 : AC :=
 (.seq
  (.reg [⟨(some 2), none, .box 2 (.t 0)⟩,
    ⟨(some 4), none, .alloc [.nils, (.int .i64 0)]⟩,
    ⟨(some 5), none, .mv (.c (.int .u64 0))⟩])
  (.seq
   (.reg [⟨(some 7), none, .mv (.t 1)⟩,
     ⟨(some 8), none, .minmax false (.t 7) (.c (.int .i64 8))⟩,
     ⟨(some 9), none, .minmax true (.c (.int .i64 0)) (.t 8)⟩,
     ⟨(some 6), none, .take 9⟩])
   (.seq
    (.block 0
     (.seq
      (.reg [⟨(some 11), none, .faddr (.t 2) 1⟩,
        ⟨(some 12), none, .load none (.t 11)⟩,
        ⟨(some 13), none, .bin .neq (.t 12) (.c (.int .i64 0))⟩,
        ⟨(some 10), none, .take 13⟩])
      (.cond (.t 10)
       (.seq
        (.reg [⟨(some 14), none, .load (some 2) (.t 2)⟩,
          ⟨none, none, .store 2 (.t 4) (.t 14)⟩,
          ⟨(some 5), none, .mv (.c (.int .u64 0))⟩])
        .ret)
       (.seq
        (.reg [⟨(some 16), none, .faddr (.t 2) 0⟩,
          ⟨(some 17), none, .load none (.t 16)⟩,
          ⟨(some 18), none, .len false (.t 17)⟩,
          ⟨(some 19), none, .mv (.t 6)⟩,
          ⟨(some 20), none, .bin .lss (.t 18) (.t 19)⟩,
          ⟨(some 15), none, .take 20⟩])
        (.cond (.t 15)
         (.seq
          (.reg [⟨(some 21), none, .faddr (.t 2) 0⟩,
            ⟨(some 22), none, .load none (.t 21)⟩,
            ⟨(some 23), none, .build [.nils, (.int .i64 0)] [(0, 1, (.t 22)), (1, 1, (.c (.int .i64 3)))]⟩,
            ⟨none, none, .store 2 (.t 4) (.t 23)⟩,
            ⟨(some 5), none, .mv (.c (.int .u64 0))⟩])
          .ret)
         .skip)))))
    (.seq
     (.dreg [] [⟨(some 24), none, .faddr (.t 2) 0⟩,
       ⟨(some 25), none, .load none (.t 24)⟩,
       ⟨(some 26), none, .mv (.t 6)⟩,
       ⟨(some 27), none, .slc false 1 (.t 25) (some (.t 26)) none⟩,
       ⟨(some 28), none, .build [.nils, (.int .i64 0)] [(0, 1, (.t 27)), (1, 1, (.c (.int .i64 0)))]⟩,
       ⟨(some 29), none, .faddr (.t 2) 0⟩,
       ⟨(some 30), none, .load none (.t 29)⟩,
       ⟨(some 31), none, .mv (.t 6)⟩,
       ⟨(some 32), none, .slc false 1 (.t 30) none (some (.t 31))⟩,
       ⟨(some 33), none, .call 25 [(.t 32)]⟩,
       ⟨none, none, .store 2 (.t 4) (.t 28)⟩,
       ⟨(some 5), none, .take 33⟩])
     .ret))))
def ar29 : List AR := [.c 4 (some 2), .t 5]
theorem comp29 : Try.f29.body.bind (comp Try.prog 34) = some ac29 := by kernel_rfl
theorem cres29 : compRes Try.prog Try.f29.results.toList = some ar29 := by kernel_rfl
/-- (bilander/bilanderref01.Reader).Text -/
def ac31 : AC :=
 (.seq
  (.reg [⟨(some 2), none, .box 2 (.t 0)⟩,
    ⟨(some 4), none, .alloc [.nils, (.int .i64 0)]⟩,
    ⟨(some 5), none, .mv (.c (.str (ByteArray.mk #[])))⟩])
  (.seq
   (.reg [⟨(some 8), none, .load (some 2) (.t 2)⟩,
     ⟨(some 9), none, .call 27 [(.t 8)]⟩,
     ⟨(some 7), none, .take 9⟩,
     ⟨(some 10), none, .extS 7 0⟩,
     ⟨(some 11), none, .ext 7 1⟩,
     ⟨none, none, .store 2 (.t 2) (.t 10)⟩,
     ⟨(some 6), none, .take 11⟩])
   (.seq
    (.block 0
     (.seq
      (.reg [⟨(some 13), none, .faddr (.t 2) 1⟩,
        ⟨(some 14), none, .load none (.t 13)⟩,
        ⟨(some 15), none, .bin .neq (.t 14) (.c (.int .i64 0))⟩,
        ⟨(some 12), none, .take 15⟩])
      (.cond (.t 12)
       (.seq
        (.reg [⟨(some 16), none, .load (some 2) (.t 2)⟩,
          ⟨none, none, .store 2 (.t 4) (.t 16)⟩,
          ⟨(some 5), none, .mv (.c (.str (ByteArray.mk #[])))⟩])
        .ret)
       (.seq
        (.reg [⟨(some 18), none, .mv (.t 6)⟩,
          ⟨(some 19), none, .bin .lss (.t 18) (.c (.int .i64 0))⟩,
          ⟨(some 20), none, .take 19⟩,
          ⟨(some 21), (some (20, false)), .mv (.t 6)⟩,
          ⟨(some 22), (some (20, false)), .mv (.t 1)⟩,
          ⟨(some 23), (some (20, false)), .minmax true (.c (.int .i64 0)) (.t 22)⟩,
          ⟨(some 24), (some (20, false)), .bin .gtr (.t 21) (.t 23)⟩,
          ⟨(some 25), none, .pick (.t 20) (.c (.bool true)) (.t 24)⟩,
          ⟨(some 17), none, .take 25⟩])
        (.cond (.t 17)
         (.seq
          (.reg [⟨(some 26), none, .faddr (.t 2) 0⟩,
            ⟨(some 27), none, .load none (.t 26)⟩,
            ⟨(some 28), none, .build [.nils, (.int .i64 0)] [(0, 1, (.t 27)), (1, 1, (.c (.int .i64 5)))]⟩,
            ⟨none, none, .store 2 (.t 4) (.t 28)⟩,
            ⟨(some 5), none, .mv (.c (.str (ByteArray.mk #[])))⟩])
          .ret)
         (.seq
          (.reg [⟨(some 30), none, .mv (.t 6)⟩,
            ⟨(some 31), none, .faddr (.t 2) 0⟩,
            ⟨(some 32), none, .load none (.t 31)⟩,
            ⟨(some 33), none, .len false (.t 32)⟩,
            ⟨(some 34), none, .bin .gtr (.t 30) (.t 33)⟩,
            ⟨(some 29), none, .take 34⟩])
          (.cond (.t 29)
           (.seq
            (.reg [⟨(some 35), none, .faddr (.t 2) 0⟩,
              ⟨(some 36), none, .load none (.t 35)⟩,
              ⟨(some 37), none, .build [.nils, (.int .i64 0)] [(0, 1, (.t 36)), (1, 1, (.c (.int .i64 3)))]⟩,
              ⟨none, none, .store 2 (.t 4) (.t 37)⟩,
              ⟨(some 5), none, .mv (.c (.str (ByteArray.mk #[])))⟩])
            .ret)
           .skip)))))))
    (.seq
     (.dreg [(38, 2), (2, 2), (43, 2), (4, 4)] [⟨(some 38), none, .faddr (.t 2) 0⟩,
       ⟨(some 39), none, .load none (.t 38)⟩,
       ⟨(some 40), none, .mv (.t 6)⟩,
       ⟨(some 41), none, .slc false 1 (.t 39) (some (.t 40)) none⟩,
       ⟨(some 42), none, .build [.nils, (.int .i64 0)] [(0, 1, (.t 41)), (1, 1, (.c (.int .i64 0)))]⟩,
       ⟨(some 43), none, .faddr (.t 2) 0⟩,
       ⟨(some 44), none, .load none (.t 43)⟩,
       ⟨(some 45), none, .mv (.t 6)⟩,
       ⟨(some 46), none, .slc false 1 (.t 44) none (some (.t 45))⟩,
       ⟨(some 47), none, .b2s (.t 46)⟩,
       ⟨none, none, .store 2 (.t 4) (.t 42)⟩,
       ⟨(some 5), none, .take 47⟩])
     .ret))))
def ar31 : List AR := [.c 4 (some 2), .t 5]
theorem comp31 : Try.f31.body.bind (comp Try.prog 48) = some ac31 := by kernel_rfl
theorem cres31 : compRes Try.prog Try.f31.results.toList = some ar31 := by kernel_rfl
/-- bilander/bilanderref03.Get -/
def ac48 : AC :=
 (.seq
  (.reg [⟨(some 1), none, .box 2 (.t 0)⟩,
    ⟨(some 2), none, .alloc [.nils, (.int .i64 0)]⟩,
    ⟨(some 3), none, .alloc [(.int .i64 0), (.int .i64 0), (.bool false), (.str (ByteArray.mk #[])), (.bool false), (.str (ByteArray.mk #[]))]⟩,
    ⟨(some 4), none, .mv (.c (.int .i64 0))⟩])
  (.seq
   (.reg [⟨(some 8), none, .load (some 2) (.t 1)⟩,
     ⟨(some 9), none, .call 29 [(.t 8), (.c (.int .i64 1))]⟩,
     ⟨(some 7), none, .take 9⟩,
     ⟨(some 10), none, .extS 7 0⟩,
     ⟨(some 11), none, .ext 7 1⟩,
     ⟨none, none, .store 2 (.t 1) (.t 10)⟩,
     ⟨(some 5), none, .take 11⟩])
   (.seq
    (.reg [⟨(some 12), none, .mv (.t 5)⟩,
      ⟨(some 13), none, .bin .rem (.t 12) (.c (.int .u64 2))⟩,
      ⟨(some 14), none, .bin .eql (.t 13) (.c (.int .u64 1))⟩,
      ⟨(some 15), none, .mv (.t 5)⟩,
      ⟨(some 16), none, .bin .quo (.t 15) (.c (.int .u64 2))⟩,
      ⟨(some 17), none, .bin .rem (.t 16) (.c (.int .u64 2))⟩,
      ⟨(some 18), none, .bin .eql (.t 17) (.c (.int .u64 1))⟩,
      ⟨(some 19), none, .build [(.int .i64 0), (.int .i64 0), (.bool false), (.str (ByteArray.mk #[])), (.bool false), (.str (ByteArray.mk #[]))] [(2, 1, (.t 14)), (4, 1, (.t 18))]⟩,
      ⟨(some 6), none, .alloc [(.int .i64 0), (.int .i64 0), (.bool false), (.str (ByteArray.mk #[])), (.bool false), (.str (ByteArray.mk #[]))]⟩,
      ⟨none, none, .store 6 (.t 6) (.t 19)⟩])
    (.seq
     (.reg [⟨(some 21), none, .load (some 2) (.t 1)⟩,
       ⟨(some 22), none, .call 27 [(.t 21)]⟩,
       ⟨(some 20), none, .take 22⟩,
       ⟨(some 23), none, .extS 20 0⟩,
       ⟨(some 24), none, .extS 20 1⟩,
       ⟨none, none, .store 2 (.t 1) (.t 23)⟩,
       ⟨(some 25), none, .faddr (.t 6) 0⟩,
       ⟨none, none, .store 1 (.t 25) (.t 24)⟩])
     (.seq
      (.reg [⟨(some 27), none, .load (some 2) (.t 1)⟩,
        ⟨(some 28), none, .call 27 [(.t 27)]⟩,
        ⟨(some 26), none, .take 28⟩,
        ⟨(some 29), none, .extS 26 0⟩,
        ⟨(some 30), none, .extS 26 1⟩,
        ⟨none, none, .store 2 (.t 1) (.t 29)⟩,
        ⟨(some 31), none, .faddr (.t 6) 1⟩,
        ⟨none, none, .store 1 (.t 31) (.t 30)⟩])
      (.seq
       (.seq
        (.reg [⟨(some 32), none, .faddr (.t 6) 2⟩,
          ⟨(some 33), none, .load none (.t 32)⟩])
        (.cond (.t 33)
         (.reg [⟨(some 35), none, .load (some 2) (.t 1)⟩,
           ⟨(some 36), none, .call 31 [(.t 35), (.c (.int .i64 64))]⟩,
           ⟨(some 34), none, .take 36⟩,
           ⟨(some 37), none, .extS 34 0⟩,
           ⟨(some 38), none, .extS 34 1⟩,
           ⟨none, none, .store 2 (.t 1) (.t 37)⟩,
           ⟨(some 39), none, .faddr (.t 6) 3⟩,
           ⟨none, none, .store 1 (.t 39) (.t 38)⟩])
         .skip))
       (.seq
        (.seq
         (.reg [⟨(some 40), none, .faddr (.t 6) 4⟩,
           ⟨(some 41), none, .load none (.t 40)⟩,
           ⟨(some 42), none, .una .not (.t 41)⟩])
         (.cond (.t 42)
          (.reg [⟨(some 44), none, .load (some 2) (.t 1)⟩,
            ⟨(some 45), none, .call 31 [(.t 44), (.c (.int .i64 512))]⟩,
            ⟨(some 43), none, .take 45⟩,
            ⟨(some 46), none, .extS 43 0⟩,
            ⟨(some 47), none, .extS 43 1⟩,
            ⟨none, none, .store 2 (.t 1) (.t 46)⟩,
            ⟨(some 48), none, .faddr (.t 6) 5⟩,
            ⟨none, none, .store 1 (.t 48) (.t 47)⟩])
          .skip))
        (.seq
         (.block 0
          (.seq
           (.reg [⟨(some 50), none, .faddr (.t 1) 1⟩,
             ⟨(some 51), none, .load none (.t 50)⟩,
             ⟨(some 52), none, .bin .neq (.t 51) (.c (.int .i64 0))⟩,
             ⟨(some 49), none, .take 52⟩])
           (.cond (.t 49)
            (.seq
             (.dreg [(1, 1), (55, 1), (2, 2), (3, 3)] [⟨(some 53), none, .load (some 2) (.t 1)⟩,
               ⟨(some 54), none, .build [(.int .i64 0), (.int .i64 0), (.bool false), (.str (ByteArray.mk #[])), (.bool false), (.str (ByteArray.mk #[]))] []⟩,
               ⟨(some 55), none, .faddr (.t 1) 1⟩,
               ⟨(some 56), none, .load none (.t 55)⟩,
               ⟨none, none, .store 2 (.t 2) (.t 53)⟩,
               ⟨none, none, .store 6 (.t 3) (.t 54)⟩,
               ⟨(some 4), none, .take 56⟩])
             .ret)
            (.seq
             (.reg [⟨(some 58), none, .mv (.t 5)⟩,
               ⟨(some 59), none, .bin .gtr (.t 58) (.c (.int .u64 3))⟩,
               ⟨(some 60), none, .take 59⟩,
               ⟨(some 61), (some (60, false)), .load (some 6) (.t 6)⟩,
               ⟨(some 62), (some (60, false)), .call 55 [(.t 61)]⟩,
               ⟨(some 63), (some (60, false)), .bin .neq (.t 62) (.c (.int .i64 0))⟩,
               ⟨(some 64), none, .pick (.t 60) (.c (.bool true)) (.t 63)⟩,
               ⟨(some 57), none, .take 64⟩])
             (.cond (.t 57)
              (.seq
               (.reg [⟨(some 65), none, .load (some 2) (.t 1)⟩,
                 ⟨(some 66), none, .build [(.int .i64 0), (.int .i64 0), (.bool false), (.str (ByteArray.mk #[])), (.bool false), (.str (ByteArray.mk #[]))] []⟩,
                 ⟨none, none, .store 2 (.t 2) (.t 65)⟩,
                 ⟨none, none, .store 6 (.t 3) (.t 66)⟩,
                 ⟨(some 4), none, .mv (.c (.int .i64 4))⟩])
               .ret)
              .skip)))))
         (.seq
          (.dreg [(1, 1), (6, 6), (2, 2), (3, 3)] [⟨(some 67), none, .load (some 2) (.t 1)⟩,
            ⟨(some 68), none, .load (some 6) (.t 6)⟩,
            ⟨none, none, .store 2 (.t 2) (.t 67)⟩,
            ⟨none, none, .store 6 (.t 3) (.t 68)⟩,
            ⟨(some 4), none, .mv (.c (.int .i64 0))⟩])
          .ret)))))))))
def ar48 : List AR := [.c 2 (some 2), .c 3 (some 6), .t 4]
theorem comp48 : Try.f48.body.bind (comp Try.prog 69) = some ac48 := by kernel_rfl
theorem cres48 : compRes Try.prog Try.f48.results.toList = some ar48 := by kernel_rfl
end Go.Proofs.Ytabidcdfmkkegaa
