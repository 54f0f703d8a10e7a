import Derived.Test.YtflcdbfcipkhkaaAvL3
import Derived.Test.YtflcdbfcipkhkaaProg
import Derived.KernelRfl
import Derived.Test.YtflcdbfcipkhkaaMCvN

set_option linter.unusedVariables false
set_option linter.unusedSimpArgs false

set_option maxRecDepth 100000
namespace Go.Proofs.Ytflcdbfcipkhkaa

open Go.Av
/-- bilander/varnum.New -/
def ac16 : AC :=
 (.seq
  (.reg [⟨(some 2), none, .mv (.c .nilp)⟩])
  (.seq
   (.reg [⟨(some 3), none, .mv (.t 0)⟩,
     ⟨(some 4), none, .call 76 [(.t 3)]⟩,
     ⟨(some 5), none, .build [.nils, (.int .i64 0)] [(0, 1, (.t 4))]⟩,
     ⟨(some 6), none, .box 2 (.t 5)⟩,
     ⟨(some 2), none, .take 6⟩])
   .ret))
def ar16 : List AR := [.t 2]
theorem comp16 : Try.f16.body.bind (comp Try.prog 7) = some ac16 := by kernel_rfl
theorem cres16 : compRes Try.prog Try.f16.results.toList = some ar16 := by kernel_rfl
/-- (bilander/bilanderref01.Reader).Num -/
def ac17 : AC :=
 (.seq
  (.reg [⟨(some 1), none, .box 2 (.t 0)⟩,
    ⟨(some 2), none, .alloc [.nils, (.int .i64 0)]⟩,
    ⟨(some 3), none, .mv (.c (.int .i64 0))⟩])
  (.seq
   (.seq
    (.reg [⟨(some 7), none, .faddr (.t 1) 1⟩,
      ⟨(some 8), none, .load none (.t 7)⟩,
      ⟨(some 9), none, .bin .neq (.t 8) (.c (.int .i64 0))⟩])
    (.cond (.t 9)
     (.seq
      (.reg [⟨(some 10), none, .load (some 2) (.t 1)⟩,
        ⟨none, none, .store 2 (.t 2) (.t 10)⟩,
        ⟨(some 3), none, .mv (.c (.int .i64 0))⟩])
      .ret)
     .skip))
   (.seq
    (.reg [⟨(some 12), none, .faddr (.t 1) 0⟩,
      ⟨(some 13), none, .load none (.t 12)⟩,
      ⟨(some 14), none, .call 77 [(.t 13)]⟩,
      ⟨(some 11), none, .take 14⟩,
      ⟨(some 15), none, .ext 11 0⟩,
      ⟨(some 16), none, .ext 11 1⟩,
      ⟨(some 17), none, .ext 11 2⟩,
      ⟨(some 4), none, .take 15⟩,
      ⟨(some 5), none, .take 16⟩,
      ⟨(some 6), none, .take 17⟩])
    (.seq
     (.seq
      (.reg [⟨(some 18), none, .mv (.t 6)⟩,
        ⟨(some 19), none, .bin .neq (.t 18) (.c (.int .i64 0))⟩])
      (.cond (.t 19)
       (.seq
        (.reg [⟨(some 20), none, .faddr (.t 1) 0⟩,
          ⟨(some 21), none, .load none (.t 20)⟩,
          ⟨(some 22), none, .mv (.t 6)⟩,
          ⟨(some 23), none, .build [.nils, (.int .i64 0)] [(0, 1, (.t 21)), (1, 1, (.t 22))]⟩,
          ⟨none, none, .store 2 (.t 2) (.t 23)⟩,
          ⟨(some 3), none, .mv (.c (.int .i64 0))⟩])
        .ret)
       .skip))
     (.seq
      (.reg [⟨(some 24), none, .faddr (.t 1) 0⟩,
        ⟨(some 25), none, .load none (.t 24)⟩,
        ⟨(some 26), none, .mv (.t 5)⟩,
        ⟨(some 27), none, .slc false 1 (.t 25) (some (.t 26)) none⟩,
        ⟨(some 28), none, .build [.nils, (.int .i64 0)] [(0, 1, (.t 27)), (1, 1, (.c (.int .i64 0)))]⟩,
        ⟨(some 29), none, .take 4⟩,
        ⟨none, none, .store 2 (.t 2) (.t 28)⟩,
        ⟨(some 3), none, .take 29⟩])
      .ret)))))
def ar17 : List AR := [.c 2 (some 2), .t 3]
theorem comp17 : Try.f17.body.bind (comp Try.prog 30) = some ac17 := by kernel_rfl
theorem cres17 : compRes Try.prog Try.f17.results.toList = some ar17 := by kernel_rfl
/-- (*bilander/varnum.Reader).Num -/
def ac18 : AC :=
 (.seq
  (.reg [⟨(some 2), none, .mv (.c (.int .i64 0))⟩])
  (.seq
   (.seq
    (.reg [⟨(some 6), none, .mv (.t 0)⟩,
      ⟨(some 7), none, .callE 24 (.t 6) []⟩,
      ⟨(some 8), none, .bin .neq (.t 7) (.c (.int .i64 0))⟩])
    (.cond (.t 8)
     (.seq
      (.reg [⟨(some 2), none, .mv (.c (.int .i64 0))⟩])
      .ret)
     .skip))
   (.seq
    (.reg [⟨(some 10), none, .mv (.t 0)⟩,
      ⟨(some 11), none, .nilc (.t 10)⟩,
      ⟨(some 12), none, .faddr (.t 11) 0⟩,
      ⟨(some 13), none, .load none (.t 12)⟩,
      ⟨(some 14), none, .call 78 [(.t 13)]⟩,
      ⟨(some 9), none, .take 14⟩,
      ⟨(some 15), none, .ext 9 0⟩,
      ⟨(some 16), none, .ext 9 1⟩,
      ⟨(some 17), none, .ext 9 2⟩,
      ⟨(some 3), none, .take 15⟩,
      ⟨(some 4), none, .take 16⟩,
      ⟨(some 5), none, .take 17⟩])
    (.seq
     (.reg [⟨(some 18), none, .mv (.t 0)⟩,
       ⟨(some 19), none, .mv (.t 0)⟩,
       ⟨(some 20), none, .mv (.t 0)⟩,
       ⟨(some 21), none, .nilc (.t 20)⟩,
       ⟨(some 22), none, .faddr (.t 21) 0⟩,
       ⟨(some 23), none, .load none (.t 22)⟩,
       ⟨(some 24), none, .mv (.t 4)⟩,
       ⟨(some 25), none, .slc false 1 (.t 23) (some (.t 24)) none⟩,
       ⟨(some 26), none, .mv (.t 5)⟩,
       ⟨(some 27), none, .nilc (.t 18)⟩,
       ⟨(some 28), none, .faddr (.t 27) 0⟩,
       ⟨none, none, .store 1 (.t 28) (.t 25)⟩,
       ⟨(some 29), none, .nilc (.t 19)⟩,
       ⟨(some 30), none, .faddr (.t 29) 1⟩,
       ⟨none, none, .store 1 (.t 30) (.t 26)⟩])
     (.seq
      (.reg [⟨(some 31), none, .take 3⟩,
        ⟨(some 2), none, .take 31⟩])
      .ret)))))
def ar18 : List AR := [.t 2]
theorem comp18 : Try.f18.body.bind (comp Try.prog 32) = some ac18 := by kernel_rfl
theorem cres18 : compRes Try.prog Try.f18.results.toList = some ar18 := by kernel_rfl
/-- (bilander/bilanderref01.Reader).Fixed -/
def ac19 : AC :=
 (.seq
  (.reg [⟨(some 2), none, .box 2 (.t 0)⟩,
    ⟨(some 4), none, .alloc [.nils, (.int .i64 0)]⟩,
    ⟨(some 5), none, .mv (.c (.int .u64 0))⟩])
  (.seq
   (.reg [⟨(some 7), none, .mv (.t 1)⟩,
     ⟨(some 8), none, .minmax false (.t 7) (.c (.int .i64 8))⟩,
     ⟨(some 9), none, .minmax true (.c (.int .i64 0)) (.t 8)⟩,
     ⟨(some 6), none, .take 9⟩])
   (.seq
    (.block 0
     (.seq
      (.reg [⟨(some 11), none, .faddr (.t 2) 1⟩,
        ⟨(some 12), none, .load none (.t 11)⟩,
        ⟨(some 13), none, .bin .neq (.t 12) (.c (.int .i64 0))⟩,
        ⟨(some 10), none, .take 13⟩])
      (.cond (.t 10)
       (.seq
        (.reg [⟨(some 14), none, .load (some 2) (.t 2)⟩,
          ⟨none, none, .store 2 (.t 4) (.t 14)⟩,
          ⟨(some 5), none, .mv (.c (.int .u64 0))⟩])
        .ret)
       (.seq
        (.reg [⟨(some 16), none, .faddr (.t 2) 0⟩,
          ⟨(some 17), none, .load none (.t 16)⟩,
          ⟨(some 18), none, .len false (.t 17)⟩,
          ⟨(some 19), none, .mv (.t 6)⟩,
          ⟨(some 20), none, .bin .lss (.t 18) (.t 19)⟩,
          ⟨(some 15), none, .take 20⟩])
        (.cond (.t 15)
         (.seq
          (.reg [⟨(some 21), none, .faddr (.t 2) 0⟩,
            ⟨(some 22), none, .load none (.t 21)⟩,
            ⟨(some 23), none, .build [.nils, (.int .i64 0)] [(0, 1, (.t 22)), (1, 1, (.c (.int .i64 3)))]⟩,
            ⟨none, none, .store 2 (.t 4) (.t 23)⟩,
            ⟨(some 5), none, .mv (.c (.int .u64 0))⟩])
          .ret)
         .skip)))))
    (.seq
     (.dreg [] [⟨(some 24), none, .faddr (.t 2) 0⟩,
       ⟨(some 25), none, .load none (.t 24)⟩,
       ⟨(some 26), none, .mv (.t 6)⟩,
       ⟨(some 27), none, .slc false 1 (.t 25) (some (.t 26)) none⟩,
       ⟨(some 28), none, .build [.nils, (.int .i64 0)] [(0, 1, (.t 27)), (1, 1, (.c (.int .i64 0)))]⟩,
       ⟨(some 29), none, .faddr (.t 2) 0⟩,
       ⟨(some 30), none, .load none (.t 29)⟩,
       ⟨(some 31), none, .mv (.t 6)⟩,
       ⟨(some 32), none, .slc false 1 (.t 30) none (some (.t 31))⟩,
       ⟨(some 33), none, .call 79 [(.t 32)]⟩,
       ⟨none, none, .store 2 (.t 4) (.t 28)⟩,
       ⟨(some 5), none, .take 33⟩])
     .ret))))
def ar19 : List AR := [.c 4 (some 2), .t 5]
theorem comp19 : Try.f19.body.bind (comp Try.prog 34) = some ac19 := by kernel_rfl
theorem cres19 : compRes Try.prog Try.f19.results.toList = some ar19 := by kernel_rfl
/-- (*bilander/varnum.Reader).Fixed -/
def ac20 : AC :=
 (.seq
  (.reg [⟨(some 4), none, .mv (.c (.int .u64 0))⟩])
  (.seq
   (.seq
    (.reg [⟨(some 5), none, .mv (.t 0)⟩,
      ⟨(some 6), none, .callE 24 (.t 5) []⟩,
      ⟨(some 7), none, .bin .neq (.t 6) (.c (.int .i64 0))⟩])
    (.cond (.t 7)
     (.seq
      (.reg [⟨(some 4), none, .mv (.c (.int .u64 0))⟩])
      .ret)
     .skip))
   (.seq
    (.reg [⟨(some 8), none, .mv (.t 0)⟩,
      ⟨(some 9), none, .mv (.t 1)⟩,
      ⟨(some 10), none, .call 81 [(.t 9)]⟩,
      ⟨(some 11), none, .callE 80 (.t 8) [(.t 10)]⟩,
      ⟨(some 12), none, .call 75 [(.t 11)]⟩,
      ⟨(some 4), none, .take 12⟩])
    .ret)))
def ar20 : List AR := [.t 4]
theorem comp20 : Try.f20.body.bind (comp Try.prog 13) = some ac20 := by kernel_rfl
theorem cres20 : compRes Try.prog Try.f20.results.toList = some ar20 := by kernel_rfl
/-- (bilander/bilanderref01.Reader).Text -/
def ac21 : AC :=
 (.seq
  (.reg [⟨(some 2), none, .box 2 (.t 0)⟩,
    ⟨(some 4), none, .alloc [.nils, (.int .i64 0)]⟩,
    ⟨(some 5), none, .mv (.c (.str (ByteArray.mk #[])))⟩])
  (.seq
   (.reg [⟨(some 8), none, .load (some 2) (.t 2)⟩,
     ⟨(some 9), none, .call 17 [(.t 8)]⟩,
     ⟨(some 7), none, .take 9⟩,
     ⟨(some 10), none, .extS 7 0⟩,
     ⟨(some 11), none, .ext 7 1⟩,
     ⟨none, none, .store 2 (.t 2) (.t 10)⟩,
     ⟨(some 6), none, .take 11⟩])
   (.seq
    (.block 0
     (.seq
      (.reg [⟨(some 13), none, .faddr (.t 2) 1⟩,
        ⟨(some 14), none, .load none (.t 13)⟩,
        ⟨(some 15), none, .bin .neq (.t 14) (.c (.int .i64 0))⟩,
        ⟨(some 12), none, .take 15⟩])
      (.cond (.t 12)
       (.seq
        (.reg [⟨(some 16), none, .load (some 2) (.t 2)⟩,
          ⟨none, none, .store 2 (.t 4) (.t 16)⟩,
          ⟨(some 5), none, .mv (.c (.str (ByteArray.mk #[])))⟩])
        .ret)
       (.seq
        (.reg [⟨(some 18), none, .mv (.t 6)⟩,
          ⟨(some 19), none, .bin .lss (.t 18) (.c (.int .i64 0))⟩,
          ⟨(some 20), none, .take 19⟩,
          ⟨(some 21), (some (20, false)), .mv (.t 6)⟩,
          ⟨(some 22), (some (20, false)), .mv (.t 1)⟩,
          ⟨(some 23), (some (20, false)), .minmax true (.c (.int .i64 0)) (.t 22)⟩,
          ⟨(some 24), (some (20, false)), .bin .gtr (.t 21) (.t 23)⟩,
          ⟨(some 25), none, .pick (.t 20) (.c (.bool true)) (.t 24)⟩,
          ⟨(some 17), none, .take 25⟩])
        (.cond (.t 17)
         (.seq
          (.reg [⟨(some 26), none, .faddr (.t 2) 0⟩,
            ⟨(some 27), none, .load none (.t 26)⟩,
            ⟨(some 28), none, .build [.nils, (.int .i64 0)] [(0, 1, (.t 27)), (1, 1, (.c (.int .i64 5)))]⟩,
            ⟨none, none, .store 2 (.t 4) (.t 28)⟩,
            ⟨(some 5), none, .mv (.c (.str (ByteArray.mk #[])))⟩])
          .ret)
         (.seq
          (.reg [⟨(some 30), none, .mv (.t 6)⟩,
            ⟨(some 31), none, .faddr (.t 2) 0⟩,
            ⟨(some 32), none, .load none (.t 31)⟩,
            ⟨(some 33), none, .len false (.t 32)⟩,
            ⟨(some 34), none, .bin .gtr (.t 30) (.t 33)⟩,
            ⟨(some 29), none, .take 34⟩])
          (.cond (.t 29)
           (.seq
            (.reg [⟨(some 35), none, .faddr (.t 2) 0⟩,
              ⟨(some 36), none, .load none (.t 35)⟩,
              ⟨(some 37), none, .build [.nils, (.int .i64 0)] [(0, 1, (.t 36)), (1, 1, (.c (.int .i64 3)))]⟩,
              ⟨none, none, .store 2 (.t 4) (.t 37)⟩,
              ⟨(some 5), none, .mv (.c (.str (ByteArray.mk #[])))⟩])
            .ret)
           .skip)))))))
    (.seq
     (.dreg [(38, 2), (2, 2), (43, 2), (4, 4)] [⟨(some 38), none, .faddr (.t 2) 0⟩,
       ⟨(some 39), none, .load none (.t 38)⟩,
       ⟨(some 40), none, .mv (.t 6)⟩,
       ⟨(some 41), none, .slc false 1 (.t 39) (some (.t 40)) none⟩,
       ⟨(some 42), none, .build [.nils, (.int .i64 0)] [(0, 1, (.t 41)), (1, 1, (.c (.int .i64 0)))]⟩,
       ⟨(some 43), none, .faddr (.t 2) 0⟩,
       ⟨(some 44), none, .load none (.t 43)⟩,
       ⟨(some 45), none, .mv (.t 6)⟩,
       ⟨(some 46), none, .slc false 1 (.t 44) none (some (.t 45))⟩,
       ⟨(some 47), none, .b2s (.t 46)⟩,
       ⟨none, none, .store 2 (.t 4) (.t 42)⟩,
       ⟨(some 5), none, .take 47⟩])
     .ret))))
def ar21 : List AR := [.c 4 (some 2), .t 5]
theorem comp21 : Try.f21.body.bind (comp Try.prog 48) = some ac21 := by kernel_rfl
theorem cres21 : compRes Try.prog Try.f21.results.toList = some ar21 := by kernel_rfl
/-- (*bilander/varnum.Reader).Text -/
def ac22 : AC :=
 (.seq
  (.reg [⟨(some 4), none, .mv (.c (.str (ByteArray.mk #[])))⟩])
  (.seq
   (.reg [⟨(some 6), none, .mv (.t 0)⟩,
     ⟨(some 7), none, .callE 18 (.t 6) []⟩,
     ⟨(some 5), none, .take 7⟩])
   (.seq
    (.seq
     (.reg [⟨(some 8), none, .mv (.t 0)⟩,
       ⟨(some 9), none, .callE 24 (.t 8) []⟩,
       ⟨(some 10), none, .bin .neq (.t 9) (.c (.int .i64 0))⟩])
     (.cond (.t 10)
      (.seq
       (.reg [⟨(some 4), none, .mv (.c (.str (ByteArray.mk #[])))⟩])
       .ret)
      .skip))
    (.seq
     (.seq
      (.reg [⟨(some 11), none, .mv (.t 5)⟩,
        ⟨(some 12), none, .bin .lss (.t 11) (.c (.int .i64 0))⟩,
        ⟨(some 13), none, .take 12⟩,
        ⟨(some 14), (some (13, false)), .mv (.t 5)⟩,
        ⟨(some 15), (some (13, false)), .mv (.t 1)⟩,
        ⟨(some 16), (some (13, false)), .minmax true (.c (.int .i64 0)) (.t 15)⟩,
        ⟨(some 17), (some (13, false)), .bin .gtr (.t 14) (.t 16)⟩,
        ⟨(some 18), none, .pick (.t 13) (.c (.bool true)) (.t 17)⟩])
      (.cond (.t 18)
       (.seq
        (.reg [⟨(some 19), none, .mv (.t 0)⟩,
          ⟨(some 20), none, .nilc (.t 19)⟩,
          ⟨(some 21), none, .faddr (.t 20) 1⟩,
          ⟨none, none, .store 1 (.t 21) (.c (.int .i64 5))⟩])
        (.seq
         (.reg [⟨(some 4), none, .mv (.c (.str (ByteArray.mk #[])))⟩])
         .ret))
       .skip))
     (.seq
      (.reg [⟨(some 22), none, .mv (.t 0)⟩,
        ⟨(some 23), none, .mv (.t 5)⟩,
        ⟨(some 24), none, .callE 80 (.t 22) [(.t 23)]⟩,
        ⟨(some 25), none, .b2s (.t 24)⟩,
        ⟨(some 4), none, .take 25⟩])
      .ret)))))
def ar22 : List AR := [.t 4]
theorem comp22 : Try.f22.body.bind (comp Try.prog 26) = some ac22 := by kernel_rfl
theorem cres22 : compRes Try.prog Try.f22.results.toList = some ar22 := by kernel_rfl
/-- (*bilander/varnum.Reader).Err -/
def ac24 : AC :=
 (.seq
  (.reg [⟨(some 2), none, .mv (.c (.int .i64 0))⟩])
  (.seq
   (.seq
    (.reg [⟨(some 3), none, .mv (.t 0)⟩,
      ⟨(some 4), none, .eqn false false (.t 3)⟩])
    (.cond (.t 4)
     (.seq
      (.reg [⟨(some 2), none, .mv (.c (.int .i64 1))⟩])
      .ret)
     .skip))
   (.seq
    (.reg [⟨(some 5), none, .mv (.t 0)⟩,
      ⟨(some 6), none, .nilc (.t 5)⟩,
      ⟨(some 7), none, .faddr (.t 6) 1⟩,
      ⟨(some 8), none, .load none (.t 7)⟩,
      ⟨(some 2), none, .take 8⟩])
    .ret)))
def ar24 : List AR := [.t 2]
theorem comp24 : Try.f24.body.bind (comp Try.prog 9) = some ac24 := by kernel_rfl
theorem cres24 : compRes Try.prog Try.f24.results.toList = some ar24 := by kernel_rfl
/-- (*bilander/varnum.Reader).Done -/
def ac25 : AC :=
 (.seq
  (.reg [⟨(some 2), none, .mv (.c (.int .i64 0))⟩])
  (.seq
   (.block 0
    (.seq
     (.reg [⟨(some 4), none, .mv (.t 0)⟩,
       ⟨(some 5), none, .callE 24 (.t 4) []⟩,
       ⟨(some 6), none, .bin .neq (.t 5) (.c (.int .i64 0))⟩,
       ⟨(some 3), none, .take 6⟩])
     (.cond (.t 3)
      (.seq
       (.reg [⟨(some 7), none, .mv (.t 0)⟩,
         ⟨(some 8), none, .callE 24 (.t 7) []⟩,
         ⟨(some 2), none, .take 8⟩])
       .ret)
      (.seq
       (.reg [⟨(some 10), none, .mv (.t 0)⟩,
         ⟨(some 11), none, .nilc (.t 10)⟩,
         ⟨(some 12), none, .faddr (.t 11) 0⟩,
         ⟨(some 13), none, .load none (.t 12)⟩,
         ⟨(some 14), none, .len false (.t 13)⟩,
         ⟨(some 15), none, .bin .gtr (.t 14) (.c (.int .i64 0))⟩,
         ⟨(some 9), none, .take 15⟩])
       (.cond (.t 9)
        (.seq
         (.reg [⟨(some 2), none, .mv (.c (.int .i64 4))⟩])
         .ret)
        .skip)))))
   (.seq
    (.reg [⟨(some 2), none, .mv (.c (.int .i64 0))⟩])
    .ret)))
def ar25 : List AR := [.t 2]
theorem comp25 : Try.f25.body.bind (comp Try.prog 16) = some ac25 := by kernel_rfl
theorem cres25 : compRes Try.prog Try.f25.results.toList = some ar25 := by kernel_rfl
/-- bilander/varnum.Text -/
def ac27 : AC :=
 (.seq
  (.reg [⟨(some 2), none, .mv (.c .nils)⟩])
  (.seq
   (.reg [⟨(some 3), none, .mv (.t 0)⟩,
     ⟨(some 4), none, .len true (.t 3)⟩,
     ⟨(some 5), none, .call 71 [(.t 4)]⟩,
     ⟨(some 6), none, .mv (.t 0)⟩,
     ⟨(some 7), none, .appS 5 (.t 6)⟩,
     ⟨(some 2), none, .take 7⟩])
   .ret))
def ar27 : List AR := [.t 2]
theorem comp27 : Try.f27.body.bind (comp Try.prog 8) = some ac27 := by kernel_rfl
theorem cres27 : compRes Try.prog Try.f27.results.toList = some ar27 := by kernel_rfl
/-- bilander/bilanderref01.Text -/
def ac28 : AC :=
 (.seq
  (.reg [⟨(some 2), none, .mv (.c .nils)⟩])
  (.seq
   (.reg [⟨(some 3), none, .mv (.t 0)⟩,
     ⟨(some 4), none, .len true (.t 3)⟩,
     ⟨(some 5), none, .call 82 [(.t 4)]⟩,
     ⟨(some 6), none, .mv (.t 0)⟩,
     ⟨(some 7), none, .appS 5 (.t 6)⟩,
     ⟨(some 2), none, .take 7⟩])
   .ret))
def ar28 : List AR := [.t 2]
theorem comp28 : Try.f28.body.bind (comp Try.prog 8) = some ac28 := by kernel_rfl
theorem cres28 : compRes Try.prog Try.f28.results.toList = some ar28 := by kernel_rfl
/-- bilander/varnum.Put -/
def ac71 : AC :=
 (.seq
  (.reg [⟨(some 2), none, .mv (.c .nils)⟩])
  (.seq
   (.reg [⟨(some 3), none, .mv (.t 0)⟩,
     ⟨(some 4), none, .call 73 [(.t 3)]⟩,
     ⟨(some 5), none, .call 128 [(.t 4)]⟩,
     ⟨(some 2), none, .take 5⟩])
   .ret))
def ar71 : List AR := [.t 2]
theorem comp71 : Try.f71.body.bind (comp Try.prog 6) = some ac71 := by kernel_rfl
theorem cres71 : compRes Try.prog Try.f71.results.toList = some ar71 := by kernel_rfl
/-- bilander/varnum.Zigzag -/
def ac73 : AC :=
 (.seq
  (.reg [⟨(some 2), none, .mv (.c (.int .u64 0))⟩])
  (.seq
   (.reg [⟨(some 3), none, .mv (.t 0)⟩,
     ⟨(some 4), none, .conv .u64 (.t 3)⟩,
     ⟨(some 5), none, .bin .shl (.t 4) (.c (.int .u64 1))⟩,
     ⟨(some 6), none, .mv (.t 0)⟩,
     ⟨(some 7), none, .bin .shr (.t 6) (.c (.int .u64 63))⟩,
     ⟨(some 8), none, .conv .u64 (.t 7)⟩,
     ⟨(some 9), none, .bin .xor (.t 5) (.t 8)⟩,
     ⟨(some 2), none, .take 9⟩])
   .ret))
def ar73 : List AR := [.t 2]
theorem comp73 : Try.f73.body.bind (comp Try.prog 10) = some ac73 := by kernel_rfl
theorem cres73 : compRes Try.prog Try.f73.results.toList = some ar73 := by kernel_rfl
/-- bilander/varnum.Zagzig -/
def ac74 : AC :=
 (.seq
  (.reg [⟨(some 2), none, .mv (.c (.int .i64 0))⟩])
  (.seq
   (.reg [⟨(some 3), none, .mv (.t 0)⟩,
     ⟨(some 4), none, .bin .shr (.t 3) (.c (.int .u64 1))⟩,
     ⟨(some 5), none, .conv .i64 (.t 4)⟩,
     ⟨(some 6), none, .mv (.t 0)⟩,
     ⟨(some 7), none, .bin .and (.t 6) (.c (.int .u64 1))⟩,
     ⟨(some 8), none, .conv .i64 (.t 7)⟩,
     ⟨(some 9), none, .una .neg (.t 8)⟩,
     ⟨(some 10), none, .bin .xor (.t 5) (.t 9)⟩,
     ⟨(some 2), none, .take 10⟩])
   .ret))
def ar74 : List AR := [.t 2]
theorem comp74 : Try.f74.body.bind (comp Try.prog 11) = some ac74 := by kernel_rfl
theorem cres74 : compRes Try.prog Try.f74.results.toList = some ar74 := by kernel_rfl
/-- bilander/varnum.Unfixed -/
def ac75 : AC :=
 (.seq
  (.reg [⟨(some 2), none, .mv (.c (.int .u64 0))⟩])
  (.seq
   (.reg [⟨(some 3), none, .mv (.c (.int .u64 0))⟩])
   (.seq
    (.seq
     (.reg [⟨(some 6), none, .mv (.t 0)⟩,
       ⟨(some 7), none, .len false (.t 6)⟩,
       ⟨(some 8), none, .mv (.c (.int .i64 0))⟩])
     (.block 0
      (.loop
       (.seq
        (.reg [⟨(some 9), none, .bin .lss (.t 8) (.t 7)⟩])
        (.seq
         (.cond (.t 9)
          .skip
          (.exit 0))
         (.seq
          (.block 1
           (.seq
            (.reg [⟨(some 10), none, .iaddr 1 (.t 6) (.t 8)⟩,
              ⟨(some 11), none, .load none (.t 10)⟩,
              ⟨(some 5), none, .take 11⟩])
            (.reg [⟨(some 12), none, .take 3⟩,
              ⟨(some 13), none, .bin .shl (.t 12) (.c (.int .u64 8))⟩,
              ⟨(some 14), none, .mv (.t 5)⟩,
              ⟨(some 15), none, .conv .u64 (.t 14)⟩,
              ⟨(some 16), none, .bin .or (.t 13) (.t 15)⟩,
              ⟨(some 3), none, .take 16⟩])))
          (.reg [⟨(some 17), none, .bin .add (.t 8) (.c (.int .i64 1))⟩,
            ⟨(some 8), none, .take 17⟩])))))))
    (.seq
     (.reg [⟨(some 18), none, .take 3⟩,
       ⟨(some 2), none, .take 18⟩])
     .ret))))
def ar75 : List AR := [.t 2]
theorem comp75 : Try.f75.body.bind (comp Try.prog 19) = some ac75 := by kernel_rfl
theorem cres75 : compRes Try.prog Try.f75.results.toList = some ar75 := by kernel_rfl
/-- bytes.Clone -/
def ac76 : AC :=
 (.seq
  (.reg [⟨(some 2), none, .mv (.c .nils)⟩])
  (.seq
   (.seq
    (.reg [⟨(some 3), none, .mv (.t 0)⟩,
      ⟨(some 4), none, .eqn true false (.t 3)⟩])
    (.cond (.t 4)
     (.seq
      (.reg [⟨(some 2), none, .mv (.c .nils)⟩])
      .ret)
     .skip))
   (.seq
    (.reg [⟨(some 5), none, .bsl 1 0 [(.int .u8 0)] []⟩,
      ⟨(some 6), none, .mv (.t 0)⟩,
      ⟨(some 7), none, .app 1 1 5 (.t 6)⟩,
      ⟨(some 2), none, .take 7⟩])
    .ret)))
def ar76 : List AR := [.t 2]
theorem comp76 : Try.f76.body.bind (comp Try.prog 8) = some ac76 := by kernel_rfl
theorem cres76 : compRes Try.prog Try.f76.results.toList = some ar76 := by kernel_rfl
/-- bilander/bilanderref01.Get -/
def ac77 : AC :=
 (.seq
  (.reg [⟨(some 2), none, .mv (.c (.int .i64 0))⟩,
    ⟨(some 3), none, .mv (.c (.int .i64 0))⟩,
    ⟨(some 4), none, .mv (.c (.int .i64 0))⟩])
  (.seq
   (.reg [⟨(some 5), none, .mv (.c (.int .i64 0))⟩])
   (.seq
    (.block 0
     (.loop
      (.seq
       (.seq
        (.reg [⟨(some 8), none, .mv (.t 5)⟩,
          ⟨(some 9), none, .mv (.t 0)⟩,
          ⟨(some 10), none, .len false (.t 9)⟩,
          ⟨(some 11), none, .bin .lss (.t 8) (.t 10)⟩,
          ⟨(some 12), none, .take 11⟩,
          ⟨(some 13), (some (12, true)), .mv (.t 5)⟩,
          ⟨(some 14), (some (12, true)), .bin .lss (.t 13) (.c (.int .i64 10))⟩,
          ⟨(some 15), none, .pick (.t 12) (.t 14) (.c (.bool false))⟩,
          ⟨(some 16), none, .take 15⟩,
          ⟨(some 17), (some (16, true)), .mv (.t 0)⟩,
          ⟨(some 18), (some (16, true)), .mv (.t 5)⟩,
          ⟨(some 19), (some (16, true)), .iaddr 1 (.t 17) (.t 18)⟩,
          ⟨(some 20), (some (16, true)), .load none (.t 19)⟩,
          ⟨(some 21), (some (16, true)), .bin .geq (.t 20) (.c (.int .u8 128))⟩,
          ⟨(some 22), none, .pick (.t 16) (.t 21) (.c (.bool false))⟩])
        (.cond (.t 22)
         .skip
         (.exit 0)))
       (.block 1
        (.reg [⟨(some 23), none, .take 5⟩,
          ⟨(some 24), none, .bin .add (.t 23) (.c (.int .i64 1))⟩,
          ⟨(some 5), none, .take 24⟩])))))
    (.seq
     (.block 2
      (.seq
       (.reg [⟨(some 26), none, .mv (.t 5)⟩,
         ⟨(some 27), none, .bin .eql (.t 26) (.c (.int .i64 10))⟩,
         ⟨(some 25), none, .take 27⟩])
       (.cond (.t 25)
        (.seq
         (.reg [⟨(some 2), none, .mv (.c (.int .i64 0))⟩,
           ⟨(some 3), none, .mv (.c (.int .i64 0))⟩,
           ⟨(some 4), none, .mv (.c (.int .i64 4))⟩])
         .ret)
        (.seq
         (.reg [⟨(some 29), none, .mv (.t 5)⟩,
           ⟨(some 30), none, .mv (.t 0)⟩,
           ⟨(some 31), none, .len false (.t 30)⟩,
           ⟨(some 32), none, .bin .eql (.t 29) (.t 31)⟩,
           ⟨(some 28), none, .take 32⟩])
         (.cond (.t 28)
          (.seq
           (.reg [⟨(some 2), none, .mv (.c (.int .i64 0))⟩,
             ⟨(some 3), none, .mv (.c (.int .i64 0))⟩,
             ⟨(some 4), none, .mv (.c (.int .i64 3))⟩])
           .ret)
          .skip)))))
     (.seq
      (.reg [⟨(some 6), none, .mv (.c (.int .u64 0))⟩])
      (.seq
       (.seq
        (.reg [⟨(some 33), none, .take 5⟩,
          ⟨(some 7), none, .take 33⟩])
        (.block 3
         (.loop
          (.seq
           (.seq
            (.reg [⟨(some 34), none, .mv (.t 7)⟩,
              ⟨(some 35), none, .bin .geq (.t 34) (.c (.int .i64 0))⟩])
            (.cond (.t 35)
             .skip
             (.exit 3)))
           (.seq
            (.block 4
             (.reg [⟨(some 38), none, .take 6⟩,
               ⟨(some 39), none, .bin .mul (.c (.int .u64 128)) (.t 38)⟩,
               ⟨(some 40), none, .mv (.t 0)⟩,
               ⟨(some 41), none, .mv (.t 7)⟩,
               ⟨(some 42), none, .iaddr 1 (.t 40) (.t 41)⟩,
               ⟨(some 43), none, .load none (.t 42)⟩,
               ⟨(some 44), none, .bin .rem (.t 43) (.c (.int .u8 128))⟩,
               ⟨(some 45), none, .conv .u64 (.t 44)⟩,
               ⟨(some 46), none, .bin .add (.t 39) (.t 45)⟩,
               ⟨(some 6), none, .take 46⟩]))
            (.reg [⟨(some 36), none, .take 7⟩,
              ⟨(some 37), none, .bin .sub (.t 36) (.c (.int .i64 1))⟩,
              ⟨(some 7), none, .take 37⟩]))))))
       (.seq
        (.seq
         (.dreg [] [⟨(some 47), none, .mv (.t 6)⟩,
           ⟨(some 48), none, .call 129 [(.t 47)]⟩,
           ⟨(some 49), none, .b2s (.t 48)⟩,
           ⟨(some 50), none, .mv (.t 0)⟩,
           ⟨(some 51), none, .mv (.t 5)⟩,
           ⟨(some 52), none, .bin .add (.t 51) (.c (.int .i64 1))⟩,
           ⟨(some 53), none, .slc false 1 (.t 50) none (some (.t 52))⟩,
           ⟨(some 54), none, .b2s (.t 53)⟩,
           ⟨(some 55), none, .bin .neq (.t 49) (.t 54)⟩])
         (.cond (.t 55)
          (.seq
           (.reg [⟨(some 2), none, .mv (.c (.int .i64 0))⟩,
             ⟨(some 3), none, .mv (.c (.int .i64 0))⟩,
             ⟨(some 4), none, .mv (.c (.int .i64 4))⟩])
           .ret)
          .skip))
        (.seq
         (.reg [⟨(some 56), none, .mv (.t 6)⟩,
           ⟨(some 57), none, .call 130 [(.t 56)]⟩,
           ⟨(some 58), none, .mv (.t 5)⟩,
           ⟨(some 59), none, .bin .add (.t 58) (.c (.int .i64 1))⟩,
           ⟨(some 2), none, .take 57⟩,
           ⟨(some 3), none, .take 59⟩,
           ⟨(some 4), none, .mv (.c (.int .i64 0))⟩])
         .ret))))))))
def ar77 : List AR := [.t 2, .t 3, .t 4]
theorem comp77 : Try.f77.body.bind (comp Try.prog 60) = some ac77 := by kernel_rfl
theorem cres77 : compRes Try.prog Try.f77.results.toList = some ar77 := by kernel_rfl
/-- bilander/varnum.Get -/
def ac78 : AC :=
 (.seq
  (.reg [⟨(some 2), none, .mv (.c (.int .i64 0))⟩,
    ⟨(some 3), none, .mv (.c (.int .i64 0))⟩,
    ⟨(some 4), none, .mv (.c (.int .i64 0))⟩])
  (.seq
   (.reg [⟨(some 5), none, .mv (.c (.int .u64 0))⟩])
   (.seq
    (.seq
     (.reg [⟨(some 7), none, .mv (.t 0)⟩,
       ⟨(some 8), none, .len false (.t 7)⟩,
       ⟨(some 9), none, .minmax false (.t 8) (.c (.int .i64 10))⟩,
       ⟨(some 10), none, .mv (.c (.int .i64 0))⟩])
     (.block 0
      (.loop
       (.seq
        (.reg [⟨(some 11), none, .bin .lss (.t 10) (.t 9)⟩])
        (.seq
         (.cond (.t 11)
          .skip
          (.exit 0))
         (.seq
          (.block 1
           (.seq
            (.reg [⟨(some 12), none, .take 10⟩,
              ⟨(some 6), none, .take 12⟩])
            (.seq
             (.reg [⟨(some 13), none, .take 5⟩,
               ⟨(some 14), none, .mv (.t 0)⟩,
               ⟨(some 15), none, .mv (.t 6)⟩,
               ⟨(some 16), none, .iaddr 1 (.t 14) (.t 15)⟩,
               ⟨(some 17), none, .load none (.t 16)⟩,
               ⟨(some 18), none, .bin .and (.t 17) (.c (.int .u8 127))⟩,
               ⟨(some 19), none, .conv .u64 (.t 18)⟩,
               ⟨(some 20), none, .mv (.t 6)⟩,
               ⟨(some 21), none, .bin .mul (.c (.int .i64 7)) (.t 20)⟩,
               ⟨(some 22), none, .bin .shl (.t 19) (.t 21)⟩,
               ⟨(some 23), none, .bin .or (.t 13) (.t 22)⟩,
               ⟨(some 5), none, .take 23⟩])
             (.seq
              (.seq
               (.reg [⟨(some 24), none, .mv (.t 0)⟩,
                 ⟨(some 25), none, .mv (.t 6)⟩,
                 ⟨(some 26), none, .iaddr 1 (.t 24) (.t 25)⟩,
                 ⟨(some 27), none, .load none (.t 26)⟩,
                 ⟨(some 28), none, .bin .and (.t 27) (.c (.int .u8 128))⟩,
                 ⟨(some 29), none, .bin .neq (.t 28) (.c (.int .u8 0))⟩])
               (.cond (.t 29)
                (.exit 1)
                .skip))
              (.seq
               (.seq
                (.dreg [] [⟨(some 30), none, .mv (.t 5)⟩,
                  ⟨(some 31), none, .call 128 [(.t 30)]⟩,
                  ⟨(some 32), none, .mv (.t 0)⟩,
                  ⟨(some 33), none, .mv (.t 6)⟩,
                  ⟨(some 34), none, .bin .add (.t 33) (.c (.int .i64 1))⟩,
                  ⟨(some 35), none, .slc false 1 (.t 32) none (some (.t 34))⟩,
                  ⟨(some 36), none, .call 98 [(.t 31), (.t 35)]⟩,
                  ⟨(some 37), none, .una .not (.t 36)⟩])
                (.cond (.t 37)
                 (.seq
                  (.reg [⟨(some 2), none, .mv (.c (.int .i64 0))⟩,
                    ⟨(some 3), none, .mv (.c (.int .i64 0))⟩,
                    ⟨(some 4), none, .mv (.c (.int .i64 4))⟩])
                  .ret)
                 .skip))
               (.seq
                (.reg [⟨(some 38), none, .mv (.t 5)⟩,
                  ⟨(some 39), none, .call 74 [(.t 38)]⟩,
                  ⟨(some 40), none, .mv (.t 6)⟩,
                  ⟨(some 41), none, .bin .add (.t 40) (.c (.int .i64 1))⟩,
                  ⟨(some 2), none, .take 39⟩,
                  ⟨(some 3), none, .take 41⟩,
                  ⟨(some 4), none, .mv (.c (.int .i64 0))⟩])
                .ret))))))
          (.reg [⟨(some 42), none, .bin .add (.t 10) (.c (.int .i64 1))⟩,
            ⟨(some 10), none, .take 42⟩])))))))
    (.seq
     (.seq
      (.reg [⟨(some 43), none, .mv (.t 0)⟩,
        ⟨(some 44), none, .len false (.t 43)⟩,
        ⟨(some 45), none, .bin .lss (.t 44) (.c (.int .i64 10))⟩])
      (.cond (.t 45)
       (.seq
        (.reg [⟨(some 2), none, .mv (.c (.int .i64 0))⟩,
          ⟨(some 3), none, .mv (.c (.int .i64 0))⟩,
          ⟨(some 4), none, .mv (.c (.int .i64 3))⟩])
        .ret)
       .skip))
     (.seq
      (.reg [⟨(some 2), none, .mv (.c (.int .i64 0))⟩,
        ⟨(some 3), none, .mv (.c (.int .i64 0))⟩,
        ⟨(some 4), none, .mv (.c (.int .i64 4))⟩])
      .ret)))))
def ar78 : List AR := [.t 2, .t 3, .t 4]
theorem comp78 : Try.f78.body.bind (comp Try.prog 46) = some ac78 := by kernel_rfl
theorem cres78 : compRes Try.prog Try.f78.results.toList = some ar78 := by kernel_rfl
/-- bilander/bilanderref01.Unfixed -/
def ac79 : AC :=
 (.seq
  (.reg [⟨(some 2), none, .mv (.c (.int .u64 0))⟩])
  (.seq
   (.reg [⟨(some 3), none, .mv (.c (.int .u64 0))⟩])
   (.seq
    (.seq
     (.reg [⟨(some 5), none, .mv (.t 0)⟩,
       ⟨(some 6), none, .len false (.t 5)⟩,
       ⟨(some 7), none, .bin .sub (.t 6) (.c (.int .i64 8))⟩,
       ⟨(some 8), none, .minmax true (.c (.int .i64 0)) (.t 7)⟩,
       ⟨(some 4), none, .take 8⟩])
     (.block 0
      (.loop
       (.seq
        (.seq
         (.reg [⟨(some 9), none, .mv (.t 4)⟩,
           ⟨(some 10), none, .mv (.t 0)⟩,
           ⟨(some 11), none, .len false (.t 10)⟩,
           ⟨(some 12), none, .bin .lss (.t 9) (.t 11)⟩])
         (.cond (.t 12)
          .skip
          (.exit 0)))
        (.seq
         (.block 1
          (.reg [⟨(some 15), none, .take 3⟩,
            ⟨(some 16), none, .bin .mul (.c (.int .u64 256)) (.t 15)⟩,
            ⟨(some 17), none, .mv (.t 0)⟩,
            ⟨(some 18), none, .mv (.t 4)⟩,
            ⟨(some 19), none, .iaddr 1 (.t 17) (.t 18)⟩,
            ⟨(some 20), none, .load none (.t 19)⟩,
            ⟨(some 21), none, .conv .u64 (.t 20)⟩,
            ⟨(some 22), none, .bin .add (.t 16) (.t 21)⟩,
            ⟨(some 3), none, .take 22⟩]))
         (.reg [⟨(some 13), none, .take 4⟩,
           ⟨(some 14), none, .bin .add (.t 13) (.c (.int .i64 1))⟩,
           ⟨(some 4), none, .take 14⟩]))))))
    (.seq
     (.reg [⟨(some 23), none, .take 3⟩,
       ⟨(some 2), none, .take 23⟩])
     .ret))))
def ar79 : List AR := [.t 2]
theorem comp79 : Try.f79.body.bind (comp Try.prog 24) = some ac79 := by kernel_rfl
theorem cres79 : compRes Try.prog Try.f79.results.toList = some ar79 := by kernel_rfl
/-- (*bilander/varnum.Reader).take -/
def ac80 : AC :=
 (.seq
  (.reg [⟨(some 4), none, .mv (.c .nils)⟩])
  (.seq
   (.seq
    (.reg [⟨(some 6), none, .mv (.t 0)⟩,
      ⟨(some 7), none, .nilc (.t 6)⟩,
      ⟨(some 8), none, .faddr (.t 7) 0⟩,
      ⟨(some 9), none, .load none (.t 8)⟩,
      ⟨(some 10), none, .len false (.t 9)⟩,
      ⟨(some 11), none, .mv (.t 1)⟩,
      ⟨(some 12), none, .bin .lss (.t 10) (.t 11)⟩])
    (.cond (.t 12)
     (.seq
      (.reg [⟨(some 13), none, .mv (.t 0)⟩,
        ⟨(some 14), none, .nilc (.t 13)⟩,
        ⟨(some 15), none, .faddr (.t 14) 1⟩,
        ⟨none, none, .store 1 (.t 15) (.c (.int .i64 3))⟩])
      (.seq
       (.reg [⟨(some 4), none, .mv (.c .nils)⟩])
       .ret))
     .skip))
   (.seq
    (.reg [⟨(some 16), none, .mv (.t 0)⟩,
      ⟨(some 17), none, .nilc (.t 16)⟩,
      ⟨(some 18), none, .faddr (.t 17) 0⟩,
      ⟨(some 19), none, .load none (.t 18)⟩,
      ⟨(some 20), none, .mv (.t 1)⟩,
      ⟨(some 21), none, .slc false 1 (.t 19) none (some (.t 20))⟩,
      ⟨(some 5), none, .take 21⟩])
    (.seq
     (.reg [⟨(some 22), none, .mv (.t 0)⟩,
       ⟨(some 23), none, .mv (.t 0)⟩,
       ⟨(some 24), none, .nilc (.t 23)⟩,
       ⟨(some 25), none, .faddr (.t 24) 0⟩,
       ⟨(some 26), none, .load none (.t 25)⟩,
       ⟨(some 27), none, .mv (.t 1)⟩,
       ⟨(some 28), none, .slc false 1 (.t 26) (some (.t 27)) none⟩,
       ⟨(some 29), none, .nilc (.t 22)⟩,
       ⟨(some 30), none, .faddr (.t 29) 0⟩,
       ⟨none, none, .store 1 (.t 30) (.t 28)⟩])
     (.seq
      (.reg [⟨(some 31), none, .take 5⟩,
        ⟨(some 4), none, .take 31⟩])
      .ret)))))
def ar80 : List AR := [.t 4]
theorem comp80 : Try.f80.body.bind (comp Try.prog 32) = some ac80 := by kernel_rfl
theorem cres80 : compRes Try.prog Try.f80.results.toList = some ar80 := by kernel_rfl
/-- bilander/varnum.wide -/
def ac81 : AC :=
 (.seq
  (.reg [⟨(some 2), none, .mv (.c (.int .i64 0))⟩])
  (.seq
   (.reg [⟨(some 3), none, .mv (.t 0)⟩,
     ⟨(some 4), none, .minmax false (.t 3) (.c (.int .i64 8))⟩,
     ⟨(some 5), none, .minmax true (.c (.int .i64 0)) (.t 4)⟩,
     ⟨(some 2), none, .take 5⟩])
   .ret))
def ar81 : List AR := [.t 2]
theorem comp81 : Try.f81.body.bind (comp Try.prog 6) = some ac81 := by kernel_rfl
theorem cres81 : compRes Try.prog Try.f81.results.toList = some ar81 := by kernel_rfl
/-- bilander/bilanderref01.Put -/
def ac82 : AC :=
 (.seq
  (.reg [⟨(some 2), none, .mv (.c .nils)⟩])
  (.seq
   (.reg [⟨(some 3), none, .mv (.t 0)⟩,
     ⟨(some 4), none, .call 131 [(.t 3)]⟩,
     ⟨(some 5), none, .call 129 [(.t 4)]⟩,
     ⟨(some 2), none, .take 5⟩])
   .ret))
def ar82 : List AR := [.t 2]
theorem comp82 : Try.f82.body.bind (comp Try.prog 6) = some ac82 := by kernel_rfl
theorem cres82 : compRes Try.prog Try.f82.results.toList = some ar82 := by kernel_rfl
/-- bytes.Equal -/
def ac98 : AC :=
 (.seq
  (.reg [⟨(some 4), none, .mv (.c (.bool false))⟩])
  (.seq
   (.reg [⟨(some 5), none, .mv (.t 0)⟩,
     ⟨(some 6), none, .b2s (.t 5)⟩,
     ⟨(some 7), none, .mv (.t 1)⟩,
     ⟨(some 8), none, .b2s (.t 7)⟩,
     ⟨(some 9), none, .bin .eql (.t 6) (.t 8)⟩,
     ⟨(some 4), none, .take 9⟩])
   .ret))
def ar98 : List AR := [.t 4]
theorem comp98 : Try.f98.body.bind (comp Try.prog 10) = some ac98 := by kernel_rfl
theorem cres98 : compRes Try.prog Try.f98.results.toList = some ar98 := by kernel_rfl
/-- bilander/varnum.lay -/
def ac128 : AC :=
 (.seq
  (.reg [⟨(some 2), none, .mv (.c .nils)⟩])
  (.seq
   (.reg [⟨(some 3), none, .mv (.c .nils)⟩])
   (.seq
    (.block 0
     (.loop
      (.seq
       (.seq
        (.reg [⟨(some 4), none, .mv (.t 0)⟩,
          ⟨(some 5), none, .bin .gtr (.t 4) (.c (.int .u64 127))⟩])
        (.cond (.t 5)
         .skip
         (.exit 0)))
       (.seq
        (.block 1
         (.reg [⟨(some 8), none, .take 3⟩,
           ⟨(some 9), none, .mv (.t 0)⟩,
           ⟨(some 10), none, .conv .u8 (.t 9)⟩,
           ⟨(some 11), none, .bin .or (.t 10) (.c (.int .u8 128))⟩,
           ⟨(some 12), none, .bsl 1 1 [(.int .u8 0)] [(0, (.t 11))]⟩,
           ⟨(some 13), none, .app 1 1 8 (.t 12)⟩,
           ⟨(some 3), none, .take 13⟩]))
        (.reg [⟨(some 6), none, .take 0⟩,
          ⟨(some 7), none, .bin .shr (.t 6) (.c (.int .u64 7))⟩,
          ⟨(some 0), none, .take 7⟩])))))
    (.seq
     (.reg [⟨(some 14), none, .take 3⟩,
       ⟨(some 15), none, .mv (.t 0)⟩,
       ⟨(some 16), none, .conv .u8 (.t 15)⟩,
       ⟨(some 17), none, .bsl 1 1 [(.int .u8 0)] [(0, (.t 16))]⟩,
       ⟨(some 18), none, .app 1 1 14 (.t 17)⟩,
       ⟨(some 2), none, .take 18⟩])
     .ret))))
def ar128 : List AR := [.t 2]
theorem comp128 : Try.f128.body.bind (comp Try.prog 19) = some ac128 := by kernel_rfl
theorem cres128 : compRes Try.prog Try.f128.results.toList = some ar128 := by kernel_rfl
/-- bilander/bilanderref01.bytes -/
def ac129 : AC :=
 (.seq
  (.reg [⟨(some 2), none, .mv (.c .nils)⟩])
  (.seq
   (.reg [⟨(some 3), none, .mv (.c .nils)⟩])
   (.seq
    (.block 0
     (.loop
      (.seq
       (.seq
        (.reg [⟨(some 4), none, .mv (.t 0)⟩,
          ⟨(some 5), none, .bin .geq (.t 4) (.c (.int .u64 128))⟩])
        (.cond (.t 5)
         .skip
         (.exit 0)))
       (.block 1
        (.seq
         (.reg [⟨(some 6), none, .take 3⟩,
           ⟨(some 7), none, .mv (.t 0)⟩,
           ⟨(some 8), none, .bin .rem (.t 7) (.c (.int .u64 128))⟩,
           ⟨(some 9), none, .conv .u8 (.t 8)⟩,
           ⟨(some 10), none, .bin .add (.t 9) (.c (.int .u8 128))⟩,
           ⟨(some 11), none, .bsl 1 1 [(.int .u8 0)] [(0, (.t 10))]⟩,
           ⟨(some 12), none, .app 1 1 6 (.t 11)⟩,
           ⟨(some 3), none, .take 12⟩])
         (.reg [⟨(some 13), none, .take 0⟩,
           ⟨(some 14), none, .bin .quo (.t 13) (.c (.int .u64 128))⟩,
           ⟨(some 0), none, .take 14⟩]))))))
    (.seq
     (.reg [⟨(some 15), none, .take 3⟩,
       ⟨(some 16), none, .mv (.t 0)⟩,
       ⟨(some 17), none, .conv .u8 (.t 16)⟩,
       ⟨(some 18), none, .bsl 1 1 [(.int .u8 0)] [(0, (.t 17))]⟩,
       ⟨(some 19), none, .app 1 1 15 (.t 18)⟩,
       ⟨(some 2), none, .take 19⟩])
     .ret))))
def ar129 : List AR := [.t 2]
theorem comp129 : Try.f129.body.bind (comp Try.prog 20) = some ac129 := by kernel_rfl
theorem cres129 : compRes Try.prog Try.f129.results.toList = some ar129 := by kernel_rfl
/-- bilander/bilanderref01.Zagzig -/
def ac130 : AC :=
 (.seq
  (.reg [⟨(some 2), none, .mv (.c (.int .i64 0))⟩])
  (.seq
   (.seq
    (.reg [⟨(some 3), none, .mv (.t 0)⟩,
      ⟨(some 4), none, .bin .rem (.t 3) (.c (.int .u64 2))⟩,
      ⟨(some 5), none, .bin .eql (.t 4) (.c (.int .u64 0))⟩])
    (.cond (.t 5)
     (.seq
      (.reg [⟨(some 6), none, .mv (.t 0)⟩,
        ⟨(some 7), none, .bin .quo (.t 6) (.c (.int .u64 2))⟩,
        ⟨(some 8), none, .conv .i64 (.t 7)⟩,
        ⟨(some 2), none, .take 8⟩])
      .ret)
     .skip))
   (.seq
    (.reg [⟨(some 9), none, .mv (.t 0)⟩,
      ⟨(some 10), none, .bin .quo (.t 9) (.c (.int .u64 2))⟩,
      ⟨(some 11), none, .conv .i64 (.t 10)⟩,
      ⟨(some 12), none, .una .neg (.t 11)⟩,
      ⟨(some 13), none, .bin .sub (.t 12) (.c (.int .i64 1))⟩,
      ⟨(some 2), none, .take 13⟩])
    .ret)))
def ar130 : List AR := [.t 2]
theorem comp130 : Try.f130.body.bind (comp Try.prog 14) = some ac130 := by kernel_rfl
theorem cres130 : compRes Try.prog Try.f130.results.toList = some ar130 := by kernel_rfl
/-- bilander/bilanderref01.Zigzag -/
def ac131 : AC :=
 (.seq
  (.reg [⟨(some 2), none, .mv (.c (.int .u64 0))⟩])
  (.seq
   (.seq
    (.reg [⟨(some 3), none, .mv (.t 0)⟩,
      ⟨(some 4), none, .bin .geq (.t 3) (.c (.int .i64 0))⟩])
    (.cond (.t 4)
     (.seq
      (.reg [⟨(some 5), none, .mv (.t 0)⟩,
        ⟨(some 6), none, .conv .u64 (.t 5)⟩,
        ⟨(some 7), none, .bin .mul (.c (.int .u64 2)) (.t 6)⟩,
        ⟨(some 2), none, .take 7⟩])
      .ret)
     .skip))
   (.seq
    (.reg [⟨(some 8), none, .mv (.t 0)⟩,
      ⟨(some 9), none, .bin .add (.t 8) (.c (.int .i64 1))⟩,
      ⟨(some 10), none, .una .neg (.t 9)⟩,
      ⟨(some 11), none, .conv .u64 (.t 10)⟩,
      ⟨(some 12), none, .bin .mul (.c (.int .u64 2)) (.t 11)⟩,
      ⟨(some 13), none, .bin .add (.t 12) (.c (.int .u64 1))⟩,
      ⟨(some 2), none, .take 13⟩])
    .ret)))
def ar131 : List AR := [.t 2]
theorem comp131 : Try.f131.body.bind (comp Try.prog 14) = some ac131 := by kernel_rfl
theorem cres131 : compRes Try.prog Try.f131.results.toList = some ar131 := by kernel_rfl
/-- slices.Equal[[]byte,byte] -/
def ac138 : AC :=
 (.seq
  (.reg [⟨(some 4), none, .mv (.c (.bool false))⟩])
  (.seq
   (.seq
    (.reg [⟨(some 6), none, .mv (.t 0)⟩,
      ⟨(some 7), none, .len false (.t 6)⟩,
      ⟨(some 8), none, .mv (.t 1)⟩,
      ⟨(some 9), none, .len false (.t 8)⟩,
      ⟨(some 10), none, .bin .neq (.t 7) (.t 9)⟩])
    (.cond (.t 10)
     (.seq
      (.reg [⟨(some 4), none, .mv (.c (.bool false))⟩])
      .ret)
     .skip))
   (.seq
    (.seq
     (.reg [⟨(some 11), none, .mv (.t 0)⟩,
       ⟨(some 12), none, .len false (.t 11)⟩,
       ⟨(some 13), none, .mv (.c (.int .i64 0))⟩])
     (.block 0
      (.loop
       (.seq
        (.reg [⟨(some 14), none, .bin .lss (.t 13) (.t 12)⟩])
        (.seq
         (.cond (.t 14)
          .skip
          (.exit 0))
         (.seq
          (.block 1
           (.seq
            (.reg [⟨(some 15), none, .take 13⟩,
              ⟨(some 5), none, .take 15⟩])
            (.seq
             (.dreg [] [⟨(some 16), none, .mv (.t 0)⟩,
               ⟨(some 17), none, .mv (.t 5)⟩,
               ⟨(some 18), none, .iaddr 1 (.t 16) (.t 17)⟩,
               ⟨(some 19), none, .load none (.t 18)⟩,
               ⟨(some 20), none, .mv (.t 1)⟩,
               ⟨(some 21), none, .mv (.t 5)⟩,
               ⟨(some 22), none, .iaddr 1 (.t 20) (.t 21)⟩,
               ⟨(some 23), none, .load none (.t 22)⟩,
               ⟨(some 24), none, .bin .neq (.t 19) (.t 23)⟩])
             (.cond (.t 24)
              (.seq
               (.reg [⟨(some 4), none, .mv (.c (.bool false))⟩])
               .ret)
              .skip))))
          (.reg [⟨(some 25), none, .bin .add (.t 13) (.c (.int .i64 1))⟩,
            ⟨(some 13), none, .take 25⟩])))))))
    (.seq
     (.reg [⟨(some 4), none, .mv (.c (.bool true))⟩])
     .ret))))
def ar138 : List AR := [.t 4]
theorem comp138 : Try.f138.body.bind (comp Try.prog 26) = some ac138 := by kernel_rfl
theorem cres138 : compRes Try.prog Try.f138.results.toList = some ar138 := by kernel_rfl
end Go.Proofs.Ytflcdbfcipkhkaa

set_option linter.unusedSimpArgs false
set_option maxHeartbeats 1000000
namespace Go.Proofs.Ytflcdbfcipkhkaa

open Go.Av

theorem acc10 {acc : List Nat} {v u : Nat} (hu : u < 18446744073709551616) (hacc : acc ++ layN v = layN u) : acc.length + 1 ≤ 10 := by
  have h1 := congrArg List.length hacc
  have h2 := layN_pos v
  have h3 := layN_le10 hu
  simp at h1
  omega

theorem lay_pure (u : Nat) (hu : u < 18446744073709551616) : Pure Try.prog 128 [.int .u64 u] (.own 1 (bs (layN u))) := by
  refine pure_go R0_ok Try.func128 Try.ntmps128 comp128 cres128 (by decide) (by simp) ?_
  simp [ac128, ar128]
  refine awpR_loop (α := Nat × List Nat) (fun p => p.1 < 18446744073709551616 ∧ p.2 ++ layN p.1 = layN u) (fun p => { n := 19, sl := [(0, .sv (.int .u64 p.1)), (3, .own 1 (bs p.2))], bx := [], hp := fun _ => none })
    (fun p => p.1) (u, []) (by simp [hu]) (by simp) ?_
  rintro ⟨v, acc⟩ ⟨hv, hacc⟩
  simp only at hv hacc
  have hlen := acc10 hu hacc
  by_cases h : v < 128
  · have h1 : ¬ (127 : Int) < v := by omega
    have h2 : (v : Int) ≤ 127 := by omega
    rw [layN_small h] at hacc
    simp [h1, h2, w8_nat, ← hacc, bs_append]
    refine ⟨by omega, ?_⟩
    rw [Int.emod_eq_of_lt (by omega) (by omega)]; rfl
  · have h1 : (127 : Int) < v := by omega
    have h2 : ¬ (v : Int) ≤ 127 := by omega
    rw [layN_big h] at hacc
    simp only [awpR_seq, awpR_reg, awpR_cond, awpR_block]
    simp [h1, h2, w8_or128]
    refine ⟨by omega, v / 128, acc ++ [v % 128 + 128], ⟨by omega, by simpa using hacc⟩, by omega, fdiv_nat v 128, by simp [bs_append]; rfl⟩

theorem rbytes_pure (u : Nat) (hu : u < 18446744073709551616) : Pure Try.prog 129 [.int .u64 u] (.own 1 (bs (layN u))) := by
  refine pure_go R0_ok Try.func129 Try.ntmps129 comp129 cres129 (by decide) (by simp) ?_
  simp [ac129, ar129]
  refine awpR_loop (α := Nat × List Nat) (fun p => p.1 < 18446744073709551616 ∧ p.2 ++ layN p.1 = layN u) (fun p => { n := 20, sl := [(0, .sv (.int .u64 p.1)), (3, .own 1 (bs p.2))], bx := [], hp := fun _ => none })
    (fun p => p.1) (u, []) (by simp [hu]) (by simp) ?_
  rintro ⟨v, acc⟩ ⟨hv, hacc⟩
  simp only at hv hacc
  have hlen := acc10 hu hacc
  by_cases h : v < 128
  · have h1 : ¬ (128 : Int) ≤ v := by omega
    have h2 : (v : Int) < 128 := by omega
    rw [layN_small h] at hacc
    simp [h1, h2, w8_nat, ← hacc, bs_append]
    refine ⟨by omega, ?_⟩
    rw [Int.emod_eq_of_lt (by omega) (by omega)]; rfl
  · have h1 : (128 : Int) ≤ v := by omega
    have h2 : ¬ (v : Int) < 128 := by omega
    rw [layN_big h] at hacc
    simp [h1, h2]
    refine ⟨by omega, v / 128, acc ++ [v % 128 + 128], ⟨by omega, by simpa using hacc⟩, by omega, by rw [IntKind.wrap_u64]; omega, ?_⟩
    have ht : (v : Int).tmod 128 = ((v % 128 : Nat) : Int) := tmod_nat v 128
    rw [ht, w8_nat, IntKind.wrap_u8, bs_append]
    congr 2
    simp [bs]; omega

theorem wide_pure (w : Int) : Pure Try.prog 81 [.int .i64 w] (.sv (.int .i64 (wid w))) := by
  refine pure_go R0_ok Try.func81 Try.ntmps81 comp81 cres81 (by decide) (by simp) ?_
  simp [ac81, ar81]
  unfold wid
  (repeat' split) <;> omega

theorem zigzag_pure (n : Int) (h0 : -9223372036854775808 ≤ n) (h1 : n < 9223372036854775808) : Pure Try.prog 73 [.int .i64 n] (.sv (.int .u64 (zig n))) := by
  refine pure_go R0_ok Try.func73 Try.ntmps73 comp73 cres73 (by decide) (by simp) ?_
  simp [ac73, ar73]
  exact zig_xor h0 h1
theorem rzigzag_pure (n : Int) (h0 : -9223372036854775808 ≤ n) (h1 : n < 9223372036854775808) : Pure Try.prog 131 [.int .i64 n] (.sv (.int .u64 (zig n))) := by
  refine pure_go R0_ok Try.func131 Try.ntmps131 comp131 cres131 (by decide) (by simp) ?_
  by_cases h : 0 ≤ n
  · simp [ac131, ar131, h, zig, IntKind.wrap_u64]
    omega
  · simp [ac131, ar131, h, zig, IntKind.wrap_u64, IntKind.wrap_i64]
    omega
theorem zagzig_pure (u : Nat) (hu : u < 18446744073709551616) : Pure Try.prog 74 [.int .u64 u] (.sv (.int .i64 (zag u))) := by
  refine pure_go R0_ok Try.func74 Try.ntmps74 comp74 cres74 (by decide) (by simp) ?_
  simp [ac74, ar74]
  exact zag_xor hu
theorem rzagzig_pure (u : Nat) (hu : u < 18446744073709551616) : Pure Try.prog 130 [.int .u64 u] (.sv (.int .i64 (zag u))) := by
  refine pure_go R0_ok Try.func130 Try.ntmps130 comp130 cres130 (by decide) (by simp) ?_
  by_cases h : (u : Int).tmod 2 = 0
  · simp [ac130, ar130, h, zag, IntKind.wrap_u64, IntKind.wrap_i64]
    rw [show (2 : Int) = ((2 : Nat) : Int) from rfl, tmod_nat] at h
    rw [if_pos (by omega)]; omega
  · simp [ac130, ar130, h, zag, IntKind.wrap_u64, IntKind.wrap_i64]
    rw [show (2 : Int) = ((2 : Nat) : Int) from rfl, tmod_nat] at h
    rw [if_neg (by omega)]; omega
end Go.Proofs.Ytflcdbfcipkhkaa

set_option linter.unusedSimpArgs false
set_option maxHeartbeats 1000000
namespace Go.Proofs.Ytflcdbfcipkhkaa

open Go.Av

/-- A byte slice's numbers. -/
def nsOf (xs : List SV) : List Nat := xs.map fun x => match x with | .int _ n => n.toNat | _ => 0
@[simp] theorem nsOf_bs (l : List Nat) : nsOf (bs l) = l := by
  simp [nsOf, bs, Function.comp_def]
def IsBs (xs : List SV) : Prop := xs = bs (nsOf xs) ∧ Bytes (nsOf xs)
theorem isBs_bs {l : List Nat} : IsBs (bs l) ↔ Bytes l := by simp [IsBs]

def I64 (n : Int) : Prop := -9223372036854775808 ≤ n ∧ n < 9223372036854775808
def U64 (n : Int) : Prop := 0 ≤ n ∧ n < 18446744073709551616

def R1 : Orc := { p := fun f l => match f, l with
  | 73, [.int .i64 n] => some (I64 n, .sv (.int .u64 (zig n)))
  | 131, [.int .i64 n] => some (I64 n, .sv (.int .u64 (zig n)))
  | 74, [.int .u64 u] => some (U64 u, .sv (.int .i64 (zag u.toNat)))
  | 130, [.int .u64 u] => some (U64 u, .sv (.int .i64 (zag u.toNat)))
  | 128, [.int .u64 u] => some (U64 u, .own 1 (bs (layN u.toNat)))
  | 129, [.int .u64 u] => some (U64 u, .own 1 (bs (layN u.toNat)))
  | 81, [.int .i64 w] => some (True, .sv (.int .i64 (wid w)))
  | _, _ => none }
theorem R1_ok : R1.ok Try.prog := by
  refine ⟨fun f l c rv h hc => ?_, fun _ _ _ _ _ _ h => (by cases h), fun _ _ _ _ h => (by cases h), fun _ h => (by cases h), fun _ _ _ _ _ _ h => (by cases h), fun _ _ _ _ _ _ _ h => (by cases h)⟩
  simp only [R1] at h
  split at h <;> cases h
  · exact zigzag_pure _ hc.1 hc.2
  · exact rzigzag_pure _ hc.1 hc.2
  · obtain ⟨h0, h1⟩ := hc
    obtain ⟨u, rfl⟩ := Int.eq_ofNat_of_zero_le h0
    exact zagzig_pure u (by omega)
  · obtain ⟨h0, h1⟩ := hc
    obtain ⟨u, rfl⟩ := Int.eq_ofNat_of_zero_le h0
    exact rzagzig_pure u (by omega)
  · obtain ⟨h0, h1⟩ := hc
    obtain ⟨u, rfl⟩ := Int.eq_ofNat_of_zero_le h0
    exact lay_pure u (by omega)
  · obtain ⟨h0, h1⟩ := hc
    obtain ⟨u, rfl⟩ := Int.eq_ofNat_of_zero_le h0
    exact rbytes_pure u (by omega)
  · exact wide_pure _

theorem u64_zig {n : Int} (h : I64 n) : U64 (zig n : Int) := ⟨by omega, by have := zig_lt h.1 h.2; omega⟩

theorem put_pure (n : Int) (h : I64 n) : Pure Try.prog 71 [.int .i64 n] (.own 1 (bs (layN (zig n)))) := by
  refine pure_go R1_ok Try.func71 Try.ntmps71 comp71 cres71 (by decide) (by simp) ?_
  simp [ac71, ar71, R1, h, u64_zig h]
theorem rput_pure (n : Int) (h : I64 n) : Pure Try.prog 82 [.int .i64 n] (.own 1 (bs (layN (zig n)))) := by
  refine pure_go R1_ok Try.func82 Try.ntmps82 comp82 cres82 (by decide) (by simp) ?_
  simp [ac82, ar82, R1, h, u64_zig h]

theorem equal_pure (a b : List Nat) (ha : Bytes a) (hb : Bytes b) : Pure Try.prog 98 [.sl 1 (bs a), .sl 1 (bs b)] (.sv (.bool (decide (a = b)))) := by
  refine pure_go R0_ok Try.func98 Try.ntmps98 comp98 cres98 (by decide) (by simp) ?_
  have := sOf_eq ha hb
  simp [ac98, ar98, bs_str, this]
  exact ⟨fun x hx => bs_byte _ x hx, fun x hx => bs_byte _ x hx⟩

def R1a : Orc := { R1 with arr := fun s => s == 9 }
theorem R1a_ok : R1a.ok Try.prog := ⟨R1_ok.p, R1_ok.e, R1_ok.n, fun _ h => (by cases h), fun _ _ _ _ _ _ h => (by cases h), fun _ _ _ _ _ _ _ h => (by cases h)⟩

theorem wid_le (w : Int) : wid w ≤ 8 := by unfold wid; split <;> (try split) <;> omega

end Go.Proofs.Ytflcdbfcipkhkaa

set_option linter.unusedSimpArgs false
set_option linter.unusedVariables false
set_option maxHeartbeats 1000000
namespace Go.Proofs.Ytflcdbfcipkhkaa

open Go.Av

theorem tmod256 (v : Nat) : (v : Int).tmod 256 = ((v % 256 : Nat) : Int) := tmod_nat v 256

theorem unfixed_pure (l : List Nat) (hl : Bytes l) (hn : l.length < 4611686018427387904) : Pure Try.prog 75 [.sl 1 (bs l)] (.sv (.int .u64 (unF l))) := by
  refine pure_go R0_ok Try.func75 Try.ntmps75 comp75 cres75 (by decide) (by simp) ?_
  simp [ac75, ar75]
  refine awpR_loop (α := Nat) (fun i => i ≤ l.length) (fun i => { n := 19, sl := [(3, .sv (.int .u64 (unF (l.take i)))), (6, .sv (.sl 1 (bs l))), (7, .sv (.int .i64 l.length)), (8, .sv (.int .i64 i))], bx := [], hp := fun _ => none })
    (fun i => l.length - i) 0 (by simp) ?_ ?_
  · simp [unF, unL]
  intro i hi
  by_cases hlt : i < l.length
  · have e4 : IntKind.i64.wrap ((i : Int) + 1) = ((i + 1 : Nat) : Int) := by rw [wrap_i64_in (by omega) (by omega)]; omega
    simp [hlt, e4, -Int.natCast_add]
    refine ⟨i + 1, by omega, by omega, ?_, rfl⟩
    rw [shl8_or _ _ (unF_lt _) (hl.get hlt), unF_step l i hlt]
  · have : i = l.length := by omega
    subst this
    simp

theorem runfixed_pure (l : List Nat) (hl : Bytes l) (hn : l.length < 4611686018427387904) : Pure Try.prog 79 [.sl 1 (bs l)] (.sv (.int .u64 (unF l))) := by
  refine pure_go R0_ok Try.func79 Try.ntmps79 comp79 cres79 (by decide) (by simp) ?_
  have e0 : (if IntKind.i64.wrap ((l.length : Int) - 8) > 0 then IntKind.i64.wrap ((l.length : Int) - 8) else 0) = ((l.length - 8 : Nat) : Int) := by
    rw [wrap_i64_in (by omega) (by omega)]; split <;> omega
  simp only [gt_iff_lt] at e0
  simp [ac79, ar79, e0]
  refine awpR_loop (α := Nat) (fun i => l.length - 8 ≤ i ∧ i ≤ l.length) (fun i => { n := 24, sl := [(0, .sv (.sl 1 (bs l))), (3, .sv (.int .u64 (unF ((l.drop (l.length - 8)).take (i - (l.length - 8)))))), (4, .sv (.int .i64 i))], bx := [], hp := fun _ => none })
    (fun i => l.length - i) (l.length - 8) (by omega) ?_ ?_
  · simp [unF, unL]
  rintro i ⟨hi0, hi⟩
  by_cases hlt : i < l.length
  · have e4 : IntKind.i64.wrap ((i : Int) + 1) = ((i + 1 : Nat) : Int) := by rw [wrap_i64_in (by omega) (by omega)]; omega
    simp [hlt, e4, -Int.natCast_add]
    refine ⟨i + 1, by omega, by omega, ?_, rfl⟩
    have hx := unF_step (l.drop (l.length - 8)) (i - (l.length - 8)) (by simp; omega)
    rw [show i + 1 - (l.length - 8) = i - (l.length - 8) + 1 by omega, hx]
    have hy := unF_lt ((l.drop (l.length - 8)).take (i - (l.length - 8)))
    generalize unF ((l.drop (l.length - 8)).take (i - (l.length - 8))) = q at hy ⊢
    have hc := hl.get hlt
    have hz : (l.drop (l.length - 8))[i - (l.length - 8)]'(by simp; omega) = l[i] := by
      rw [List.getElem_drop]; congr 1; omega
    rw [hz, IntKind.wrap_u64, IntKind.wrap_u64, IntKind.wrap_u64]
    omega
  · have : i = l.length := by omega
    subst this
    simp
    rw [List.take_of_length_le (by simp), unF_last8]
end Go.Proofs.Ytflcdbfcipkhkaa

set_option linter.unusedSimpArgs false
set_option linter.unusedVariables false
set_option maxHeartbeats 1000000
namespace Go.Proofs.Ytflcdbfcipkhkaa

open Go.Av

def R2 : Orc := { p := fun f l => match f, l with
  | 74, [.int .u64 u] => some (U64 u, .sv (.int .i64 (zag u.toNat)))
  | 130, [.int .u64 u] => some (U64 u, .sv (.int .i64 (zag u.toNat)))
  | 128, [.int .u64 u] => some (U64 u, .own 1 (bs (layN u.toNat)))
  | 129, [.int .u64 u] => some (U64 u, .own 1 (bs (layN u.toNat)))
  | 98, [.sl 1 xs, .sl 1 ys] => some (IsBs xs ∧ IsBs ys, .sv (.bool (decide (nsOf xs = nsOf ys))))
  | _, _ => none }
theorem R2_ok : R2.ok Try.prog := by
  refine ⟨fun f l c rv h hc => ?_, fun _ _ _ _ _ _ h => (by cases h), fun _ _ _ _ h => (by cases h), fun _ h => (by cases h), fun _ _ _ _ _ _ h => (by cases h), fun _ _ _ _ _ _ _ h => (by cases h)⟩
  simp only [R2] at h
  split at h <;> cases h
  · exact R1_ok.p 74 _ _ _ rfl hc
  · exact R1_ok.p 130 _ _ _ rfl hc
  · exact R1_ok.p 128 _ _ _ rfl hc
  · exact R1_ok.p 129 _ _ _ rfl hc
  · obtain ⟨⟨e1, h1⟩, ⟨e2, h2⟩⟩ := hc
    have := equal_pure _ _ h1 h2
    rwa [← e1, ← e2] at this

@[simp] theorem R2_74 (u : Int) : R2.p 74 [.int .u64 u] = some (U64 u, .sv (.int .i64 (zag u.toNat))) := rfl
@[simp] theorem R2_130 (u : Int) : R2.p 130 [.int .u64 u] = some (U64 u, .sv (.int .i64 (zag u.toNat))) := rfl
@[simp] theorem R2_128 (u : Int) : R2.p 128 [.int .u64 u] = some (U64 u, .own 1 (bs (layN u.toNat))) := rfl
@[simp] theorem R2_129 (u : Int) : R2.p 129 [.int .u64 u] = some (U64 u, .own 1 (bs (layN u.toNat))) := rfl
@[simp] theorem R2_98 (xs ys : List SV) : R2.p 98 [.sl 1 xs, .sl 1 ys] = some (IsBs xs ∧ IsBs ys, .sv (.bool (decide (nsOf xs = nsOf ys)))) := rfl

theorem bs_take (l : List Nat) (n : Nat) : (bs l).take n = bs (l.take n) := by simp [bs]
theorem bs_drop (l : List Nat) (n : Nat) : (bs l).drop n = bs (l.drop n) := by simp [bs]

theorem get_pure (l : List Nat) (hl : Bytes l) (hn : l.length < 4611686018427387904) : Pure Try.prog 78 [.sl 1 (bs l)] (.tup [.sv (.int .i64 (getN l).1), .sv (.int .i64 (getN l).2.1), .sv (.int .i64 (getN l).2.2)]) := by
  refine pure_go R2_ok Try.func78 Try.ntmps78 comp78 cres78 (by decide) (by simp) ?_
  have e0 : (if (10 : Int) < l.length then 10 else (l.length : Int)) = ((min l.length 10 : Nat) : Int) := by split <;> omega
  generalize hM : min l.length 10 = M at e0
  simp [ac78, ar78, e0]
  refine awpR_loop (α := Nat) (fun i => i ≤ M ∧ ∀ j (h : j < l.length), j < i → 128 ≤ l[j]) (fun i => { n := 46, sl := [(0, .sv (.sl 1 (bs l))), (5, .sv (.int .u64 (valN (l.take i) % 18446744073709551616 : Nat))), (9, .sv (.int .i64 M)), (10, .sv (.int .i64 i))], bx := [], hp := fun _ => none })
    (fun i => M - i) 0 (by simp) ?_ ?_
  · simp [valN]
  rintro i ⟨hi, hb⟩
  by_cases hlt : i < M
  · have hil : i < l.length := by omega
    have e4 : IntKind.i64.wrap ((i : Int) + 1) = ((i + 1 : Nat) : Int) := by rw [wrap_i64_in (by omega) (by omega)]; omega
    have e7 : IntKind.i64.wrap (7 * (i : Int)) = ((7 * i : Nat) : Int) := by rw [wrap_i64_in (by omega) (by omega)]; omega
    have hb8 := hl.get hil
    have hv := u64_val_step l i hil (by omega)
    have a7 := w8_and127 l[i] hb8
    have a8 := w8_and128 l[i] hb8
    by_cases hc : l[i] < 128
    · have hg := getN_found hil (by omega) hb hc
      rw [if_pos hc] at a8
      generalize hV : valN (l.take (i + 1)) % 18446744073709551616 = V at hv hg
      have hVlt : V < 18446744073709551616 := by rw [← hV]; exact Nat.mod_lt _ (by decide)
      simp [hlt, e4, hil, e7, a7, a8, hv, bs_take, isBs_bs, layN_bytes, hl.take, -Int.natCast_add, -Int.natCast_mul, -Int.natCast_emod]
      refine ⟨⟨⟨by omega, by omega⟩, by omega⟩, fun q => ?_, fun q => ?_⟩
      · rw [if_neg q] at hg; simp [hg]
      · rw [if_pos q] at hg; simp [hg]; exact ⟨by omega, by omega⟩
    · rw [if_neg hc] at a8
      simp [hlt, e4, hil, e7, a7, a8, hv, -Int.natCast_add, -Int.natCast_mul, -Int.natCast_emod]
      refine ⟨i + 1, ⟨by omega, fun j h q => ?_⟩, by omega, rfl, rfl⟩
      by_cases e : j = i
      · subst e; omega
      · exact hb j h (by omega)
  · have : i = M := by omega
    subst this
    have hg := getN_none (l := l) (fun j h q => hb j h (by omega))
    simp
    refine ⟨fun q => ?_, fun q => ?_⟩
    · rw [if_pos (by omega)] at hg; simp [hg]
    · rw [if_neg (by omega)] at hg; simp [hg]
end Go.Proofs.Ytflcdbfcipkhkaa
