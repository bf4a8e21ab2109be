/-
  What is proved here: facts of the seat's types and functions, as the rules ask for them.
-/
import Derived.Test.YtneaancanfpdhaaGreatDoorY17
import Derived.Test.YtneaancanfpdhaaGreatDoorRows
import Derived.KernelRfl
namespace Go.Proofs.YtneaancanfpdhaaGreatDoor
open Go Go.Vd
theorem uo0 : (Tryz.prog.underlying 0).isSome = true := by kernel_rfl
theorem ti1 : tiOf Tryz.prog 1 = ⟨true, 1, false, [], false, [.nilFunc], true, 0, none, [.any]⟩ := by kernel_rfl
theorem uo1 : (Tryz.prog.underlying 1).isSome = true := by kernel_rfl
theorem ti2 : tiOf Tryz.prog 2 = ⟨true, 1, false, [], false, [.int .i64 0], true, 0, none, [.int .i64]⟩ := by kernel_rfl
theorem ui2 : Tryz.prog.underlying 2 = some (.int .i64) := by kernel_rfl
theorem uo2 : (Tryz.prog.underlying 2).isSome = true := by kernel_rfl
theorem ti3 : tiOf Tryz.prog 3 = ⟨true, 1, false, [], false, [.int .i64 0], true, 0, none, [.int .i64]⟩ := by kernel_rfl
theorem ui3 : Tryz.prog.underlying 3 = some (.int .i64) := by kernel_rfl
theorem uo3 : (Tryz.prog.underlying 3).isSome = true := by kernel_rfl
theorem ti4 : tiOf Tryz.prog 4 = ⟨true, 1, false, [], false, [.bool false], true, 0, none, [.bool]⟩ := by kernel_rfl
theorem ub4 : Tryz.prog.underlying 4 = some .bool := by kernel_rfl
theorem uo4 : (Tryz.prog.underlying 4).isSome = true := by kernel_rfl
theorem ti5 : tiOf Tryz.prog 5 = ⟨true, 1, false, [], false, [.int .u8 0], true, 0, none, [.int .u8]⟩ := by kernel_rfl
theorem ui5 : Tryz.prog.underlying 5 = some (.int .u8) := by kernel_rfl
theorem uo5 : (Tryz.prog.underlying 5).isSome = true := by kernel_rfl
theorem ti6 : tiOf Tryz.prog 6 = ⟨true, 1, false, [], false, [.int .u8 0], true, 0, none, [.int .u8]⟩ := by kernel_rfl
theorem ui6 : Tryz.prog.underlying 6 = some (.int .u8) := by kernel_rfl
theorem uo6 : (Tryz.prog.underlying 6).isSome = true := by kernel_rfl
theorem ti7 : tiOf Tryz.prog 7 = ⟨true, 4, true, [(0, 1, false), (1, 1, false), (2, 1, false), (3, 1, false)], true, [.int .i64 0, .int .i64 0, .bool false, .int .u8 0], true, 0, none, [.int .i64, .int .i64, .bool, .int .u8]⟩ := by kernel_rfl
theorem uo7 : (Tryz.prog.underlying 7).isSome = true := by kernel_rfl
theorem ti8 : tiOf Tryz.prog 8 = ⟨true, 4, true, [(0, 1, false), (1, 1, false), (2, 1, false), (3, 1, false)], true, [.int .i64 0, .int .i64 0, .bool false, .int .u8 0], true, 0, none, [.int .i64, .int .i64, .bool, .int .u8]⟩ := by kernel_rfl
theorem uo8 : (Tryz.prog.underlying 8).isSome = true := by kernel_rfl
theorem ti9 : tiOf Tryz.prog 9 = ⟨true, 1, false, [], false, [.string .empty], true, 0, none, [.str]⟩ := by kernel_rfl
theorem ut9 : Tryz.prog.underlying 9 = some .string := by kernel_rfl
theorem uo9 : (Tryz.prog.underlying 9).isSome = true := by kernel_rfl
theorem ti10 : tiOf Tryz.prog 10 = ⟨true, 1, false, [], false, [.string .empty], true, 0, none, [.str]⟩ := by kernel_rfl
theorem ut10 : Tryz.prog.underlying 10 = some .string := by kernel_rfl
theorem uo10 : (Tryz.prog.underlying 10).isSome = true := by kernel_rfl
theorem ti11 : tiOf Tryz.prog 11 = ⟨true, 1, false, [], false, [.string .empty], true, 0, none, [.str]⟩ := by kernel_rfl
theorem ut11 : Tryz.prog.underlying 11 = some .string := by kernel_rfl
theorem uo11 : (Tryz.prog.underlying 11).isSome = true := by kernel_rfl
theorem ti12 : tiOf Tryz.prog 12 = ⟨true, 1, false, [], false, [.int .u64 0], true, 0, none, [.int .u64]⟩ := by kernel_rfl
theorem ui12 : Tryz.prog.underlying 12 = some (.int .u64) := by kernel_rfl
theorem uo12 : (Tryz.prog.underlying 12).isSome = true := by kernel_rfl
theorem ti13 : tiOf Tryz.prog 13 = ⟨true, 2, true, [(0, 1, false), (1, 1, false)], true, [.string .empty, .int .u64 0], true, 0, none, [.str, .int .u64]⟩ := by kernel_rfl
theorem uo13 : (Tryz.prog.underlying 13).isSome = true := by kernel_rfl
theorem ti14 : tiOf Tryz.prog 14 = ⟨true, 2, true, [(0, 1, false), (1, 1, false)], true, [.string .empty, .int .u64 0], true, 0, none, [.str, .int .u64]⟩ := by kernel_rfl
theorem uo14 : (Tryz.prog.underlying 14).isSome = true := by kernel_rfl
theorem ti15 : tiOf Tryz.prog 15 = ⟨true, 1, false, [], false, [.pointer none], true, 213, none, [.ptr]⟩ := by kernel_rfl
theorem up15 : Tryz.prog.underlying 15 = some (.pointer 213) := by kernel_rfl
theorem uo15 : (Tryz.prog.underlying 15).isSome = true := by kernel_rfl
theorem ti16 : tiOf Tryz.prog 16 = ⟨true, 1, false, [], false, [.pointer none], true, 216, none, [.ptr]⟩ := by kernel_rfl
theorem up16 : Tryz.prog.underlying 16 = some (.pointer 216) := by kernel_rfl
theorem uo16 : (Tryz.prog.underlying 16).isSome = true := by kernel_rfl
theorem ti17 : tiOf Tryz.prog 17 = ⟨true, 1, false, [], false, [.pointer none], true, 224, none, [.ptr]⟩ := by kernel_rfl
theorem up17 : Tryz.prog.underlying 17 = some (.pointer 224) := by kernel_rfl
theorem uo17 : (Tryz.prog.underlying 17).isSome = true := by kernel_rfl
theorem ti18 : tiOf Tryz.prog 18 = ⟨true, 1, true, [(0, 1, false)], true, [.pointer none], true, 0, none, [.ptr]⟩ := by kernel_rfl
theorem uo18 : (Tryz.prog.underlying 18).isSome = true := by kernel_rfl
theorem ti19 : tiOf Tryz.prog 19 = ⟨true, 1, true, [(0, 1, false)], true, [.pointer none], true, 0, none, [.ptr]⟩ := by kernel_rfl
theorem uo19 : (Tryz.prog.underlying 19).isSome = true := by kernel_rfl
theorem ti20 : tiOf Tryz.prog 20 = ⟨true, 1, false, [], false, [.nilIface], true, 0, none, [.any]⟩ := by kernel_rfl
theorem ii20 : isIfc Tryz.prog 20 = true := by kernel_rfl
theorem uo20 : (Tryz.prog.underlying 20).isSome = true := by kernel_rfl
theorem ti21 : tiOf Tryz.prog 21 = ⟨true, 1, false, [], false, [.int .i32 0], true, 0, none, [.int .i32]⟩ := by kernel_rfl
theorem ui21 : Tryz.prog.underlying 21 = some (.int .i32) := by kernel_rfl
theorem uo21 : (Tryz.prog.underlying 21).isSome = true := by kernel_rfl
theorem ti22 : tiOf Tryz.prog 22 = ⟨true, 1, false, [], false, [.slice none 0 0], true, 25, none, [.slice]⟩ := by kernel_rfl
theorem us22 : Tryz.prog.underlying 22 = some (.slice (tiOf Tryz.prog 22).elem) := by kernel_rfl
theorem te22 : tiOf Tryz.prog (tiOf Tryz.prog 22).elem = ⟨true, 6, true, [(0, 1, false), (1, 1, false), (2, 1, false), (3, 1, false), (4, 1, false), (5, 1, false)], true, [.int .i64 0, .string .empty, .string .empty, .string .empty, .int .i64 0, .int .i64 0], true, 0, none, [.int .i64, .str, .str, .str, .int .i64, .int .i64]⟩ := by kernel_rfl
theorem sl22 : SlTy Tryz.prog 22 25 6 72 := ⟨by kernel_rfl, by kernel_rfl, by kernel_rfl⟩
theorem uo22 : (Tryz.prog.underlying 22).isSome = true := by kernel_rfl
theorem ti23 : tiOf Tryz.prog 23 = ⟨true, 1, false, [], false, [.nilFunc], true, 0, none, [.any]⟩ := by kernel_rfl
theorem uo23 : (Tryz.prog.underlying 23).isSome = true := by kernel_rfl
theorem ti24 : tiOf Tryz.prog 24 = ⟨true, 6, true, [(0, 1, false), (1, 1, false), (2, 1, false), (3, 1, false), (4, 1, false), (5, 1, false)], true, [.int .i64 0, .string .empty, .string .empty, .string .empty, .int .i64 0, .int .i64 0], true, 0, none, [.int .i64, .str, .str, .str, .int .i64, .int .i64]⟩ := by kernel_rfl
theorem uo24 : (Tryz.prog.underlying 24).isSome = true := by kernel_rfl
theorem ti25 : tiOf Tryz.prog 25 = ⟨true, 6, true, [(0, 1, false), (1, 1, false), (2, 1, false), (3, 1, false), (4, 1, false), (5, 1, false)], true, [.int .i64 0, .string .empty, .string .empty, .string .empty, .int .i64 0, .int .i64 0], true, 0, none, [.int .i64, .str, .str, .str, .int .i64, .int .i64]⟩ := by kernel_rfl
theorem uo25 : (Tryz.prog.underlying 25).isSome = true := by kernel_rfl
theorem ti26 : tiOf Tryz.prog 26 = ⟨true, 1, false, [], false, [.nilFunc], true, 0, none, [.any]⟩ := by kernel_rfl
theorem uo26 : (Tryz.prog.underlying 26).isSome = true := by kernel_rfl
theorem ti27 : tiOf Tryz.prog 27 = ⟨true, 1, false, [], false, [.nilFunc], true, 0, none, [.any]⟩ := by kernel_rfl
theorem uo27 : (Tryz.prog.underlying 27).isSome = true := by kernel_rfl
theorem ti28 : tiOf Tryz.prog 28 = ⟨true, 1, false, [], false, [.slice none 0 0], true, 45, none, [.slice]⟩ := by kernel_rfl
theorem us28 : Tryz.prog.underlying 28 = some (.slice (tiOf Tryz.prog 28).elem) := by kernel_rfl
theorem te28 : tiOf Tryz.prog (tiOf Tryz.prog 28).elem = ⟨true, 3, true, [(0, 1, false), (1, 1, false), (2, 1, false)], true, [.int .i64 0, .string .empty, .slice none 0 0], true, 0, none, [.int .i64, .str, .slice]⟩ := by kernel_rfl
theorem sl28 : SlTy Tryz.prog 28 45 3 48 := ⟨by kernel_rfl, by kernel_rfl, by kernel_rfl⟩
theorem uo28 : (Tryz.prog.underlying 28).isSome = true := by kernel_rfl
theorem ti29 : tiOf Tryz.prog 29 = ⟨true, 1, false, [], false, [.slice none 0 0], true, 31, none, [.slice]⟩ := by kernel_rfl
theorem us29 : Tryz.prog.underlying 29 = some (.slice (tiOf Tryz.prog 29).elem) := by kernel_rfl
theorem te29 : tiOf Tryz.prog (tiOf Tryz.prog 29).elem = ⟨true, 5, true, [(0, 1, false), (1, 1, false), (2, 1, false), (3, 1, false), (4, 1, false)], true, [.int .i64 0, .int .i64 0, .string .empty, .slice none 0 0, .slice none 0 0], true, 0, none, [.int .i64, .int .i64, .str, .slice, .slice]⟩ := by kernel_rfl
theorem sl29 : SlTy Tryz.prog 29 31 5 80 := ⟨by kernel_rfl, by kernel_rfl, by kernel_rfl⟩
theorem uo29 : (Tryz.prog.underlying 29).isSome = true := by kernel_rfl
theorem ti30 : tiOf Tryz.prog 30 = ⟨true, 5, true, [(0, 1, false), (1, 1, false), (2, 1, false), (3, 1, false), (4, 1, false)], true, [.int .i64 0, .int .i64 0, .string .empty, .slice none 0 0, .slice none 0 0], true, 0, none, [.int .i64, .int .i64, .str, .slice, .slice]⟩ := by kernel_rfl
theorem uo30 : (Tryz.prog.underlying 30).isSome = true := by kernel_rfl
theorem ti31 : tiOf Tryz.prog 31 = ⟨true, 5, true, [(0, 1, false), (1, 1, false), (2, 1, false), (3, 1, false), (4, 1, false)], true, [.int .i64 0, .int .i64 0, .string .empty, .slice none 0 0, .slice none 0 0], true, 0, none, [.int .i64, .int .i64, .str, .slice, .slice]⟩ := by kernel_rfl
theorem uo31 : (Tryz.prog.underlying 31).isSome = true := by kernel_rfl
theorem ti32 : tiOf Tryz.prog 32 = ⟨true, 2, true, [(0, 1, false), (1, 1, false)], true, [.int .i64 0, .int .i64 0], true, 0, none, [.int .i64, .int .i64]⟩ := by kernel_rfl
theorem uo32 : (Tryz.prog.underlying 32).isSome = true := by kernel_rfl
theorem ti33 : tiOf Tryz.prog 33 = ⟨true, 2, true, [(0, 1, false), (1, 1, false)], true, [.int .i64 0, .int .i64 0], true, 0, none, [.int .i64, .int .i64]⟩ := by kernel_rfl
theorem uo33 : (Tryz.prog.underlying 33).isSome = true := by kernel_rfl
theorem uo34 : (Tryz.prog.underlying 34).isSome = true := by kernel_rfl
theorem ti35 : tiOf Tryz.prog 35 = ⟨true, 1, false, [], false, [.nilFunc], true, 0, none, [.any]⟩ := by kernel_rfl
theorem uo35 : (Tryz.prog.underlying 35).isSome = true := by kernel_rfl
theorem ti36 : tiOf Tryz.prog 36 = ⟨true, 1, false, [], false, [.nilFunc], true, 0, none, [.any]⟩ := by kernel_rfl
theorem uo36 : (Tryz.prog.underlying 36).isSome = true := by kernel_rfl
theorem ti37 : tiOf Tryz.prog 37 = ⟨true, 1, false, [], false, [.nilFunc], true, 0, none, [.any]⟩ := by kernel_rfl
theorem uo37 : (Tryz.prog.underlying 37).isSome = true := by kernel_rfl
theorem ti38 : tiOf Tryz.prog 38 = ⟨true, 1, false, [], false, [.nilFunc], true, 0, none, [.any]⟩ := by kernel_rfl
theorem uo38 : (Tryz.prog.underlying 38).isSome = true := by kernel_rfl
theorem ti39 : tiOf Tryz.prog 39 = ⟨true, 1, false, [], false, [.nilFunc], true, 0, none, [.any]⟩ := by kernel_rfl
theorem uo39 : (Tryz.prog.underlying 39).isSome = true := by kernel_rfl
theorem ti40 : tiOf Tryz.prog 40 = ⟨true, 1, false, [], false, [.nilFunc], true, 0, none, [.any]⟩ := by kernel_rfl
theorem uo40 : (Tryz.prog.underlying 40).isSome = true := by kernel_rfl
theorem ti41 : tiOf Tryz.prog 41 = ⟨true, 1, false, [], false, [.nilFunc], true, 0, none, [.any]⟩ := by kernel_rfl
theorem uo41 : (Tryz.prog.underlying 41).isSome = true := by kernel_rfl
theorem ti42 : tiOf Tryz.prog 42 = ⟨true, 1, false, [], false, [.slice none 0 0], true, 9, none, [.slice]⟩ := by kernel_rfl
theorem us42 : Tryz.prog.underlying 42 = some (.slice (tiOf Tryz.prog 42).elem) := by kernel_rfl
theorem te42 : tiOf Tryz.prog (tiOf Tryz.prog 42).elem = ⟨true, 1, false, [], false, [.string .empty], true, 0, none, [.str]⟩ := by kernel_rfl
theorem sl42 : SlTy Tryz.prog 42 9 1 16 := ⟨by kernel_rfl, by kernel_rfl, by kernel_rfl⟩
theorem uo42 : (Tryz.prog.underlying 42).isSome = true := by kernel_rfl
theorem ti43 : tiOf Tryz.prog 43 = ⟨true, 1, false, [], false, [.nilFunc], true, 0, none, [.any]⟩ := by kernel_rfl
theorem uo43 : (Tryz.prog.underlying 43).isSome = true := by kernel_rfl
theorem ti44 : tiOf Tryz.prog 44 = ⟨true, 3, true, [(0, 1, false), (1, 1, false), (2, 1, false)], true, [.int .i64 0, .string .empty, .slice none 0 0], true, 0, none, [.int .i64, .str, .slice]⟩ := by kernel_rfl
theorem uo44 : (Tryz.prog.underlying 44).isSome = true := by kernel_rfl
theorem ti45 : tiOf Tryz.prog 45 = ⟨true, 3, true, [(0, 1, false), (1, 1, false), (2, 1, false)], true, [.int .i64 0, .string .empty, .slice none 0 0], true, 0, none, [.int .i64, .str, .slice]⟩ := by kernel_rfl
theorem uo45 : (Tryz.prog.underlying 45).isSome = true := by kernel_rfl
theorem uo46 : (Tryz.prog.underlying 46).isSome = true := by kernel_rfl
theorem ti47 : tiOf Tryz.prog 47 = ⟨true, 1, false, [], false, [.nilFunc], true, 0, none, [.any]⟩ := by kernel_rfl
theorem uo47 : (Tryz.prog.underlying 47).isSome = true := by kernel_rfl
theorem ti48 : tiOf Tryz.prog 48 = ⟨true, 1, false, [], false, [.nilFunc], true, 0, none, [.any]⟩ := by kernel_rfl
theorem uo48 : (Tryz.prog.underlying 48).isSome = true := by kernel_rfl
theorem uo49 : (Tryz.prog.underlying 49).isSome = true := by kernel_rfl
theorem ti50 : tiOf Tryz.prog 50 = ⟨true, 1, false, [], false, [.nilFunc], true, 0, none, [.any]⟩ := by kernel_rfl
theorem uo50 : (Tryz.prog.underlying 50).isSome = true := by kernel_rfl
theorem ti51 : tiOf Tryz.prog 51 = ⟨true, 1, false, [], false, [.nilFunc], true, 0, none, [.any]⟩ := by kernel_rfl
theorem uo51 : (Tryz.prog.underlying 51).isSome = true := by kernel_rfl
theorem ti52 : tiOf Tryz.prog 52 = ⟨true, 1, false, [], false, [.nilFunc], true, 0, none, [.any]⟩ := by kernel_rfl
theorem uo52 : (Tryz.prog.underlying 52).isSome = true := by kernel_rfl
theorem ti53 : tiOf Tryz.prog 53 = ⟨true, 1, false, [], false, [.nilIface], true, 0, none, [.any]⟩ := by kernel_rfl
theorem ii53 : isIfc Tryz.prog 53 = true := by kernel_rfl
theorem uo53 : (Tryz.prog.underlying 53).isSome = true := by kernel_rfl
theorem ti54 : tiOf Tryz.prog 54 = ⟨true, 1, false, [], false, [.nilIface], true, 0, none, [.any]⟩ := by kernel_rfl
theorem ii54 : isIfc Tryz.prog 54 = true := by kernel_rfl
theorem uo54 : (Tryz.prog.underlying 54).isSome = true := by kernel_rfl
theorem uo55 : (Tryz.prog.underlying 55).isSome = true := by kernel_rfl
theorem ti56 : tiOf Tryz.prog 56 = ⟨true, 1, false, [], false, [.nilFunc], true, 0, none, [.any]⟩ := by kernel_rfl
theorem uo56 : (Tryz.prog.underlying 56).isSome = true := by kernel_rfl
theorem ti57 : tiOf Tryz.prog 57 = ⟨true, 1, false, [], false, [.nilFunc], true, 0, none, [.any]⟩ := by kernel_rfl
theorem uo57 : (Tryz.prog.underlying 57).isSome = true := by kernel_rfl
theorem ti58 : tiOf Tryz.prog 58 = ⟨true, 1, false, [], false, [.slice none 0 0], true, 67, none, [.slice]⟩ := by kernel_rfl
theorem us58 : Tryz.prog.underlying 58 = some (.slice (tiOf Tryz.prog 58).elem) := by kernel_rfl
theorem te58 : tiOf Tryz.prog (tiOf Tryz.prog 58).elem = ⟨true, 15, true, [(0, 1, false), (1, 1, false), (2, 1, false), (3, 5, true), (8, 5, true), (13, 1, false), (14, 1, false)], true, [.int .i64 0, .string .empty, .slice none 0 0, .int .i64 0, .int .i64 0, .string .empty, .slice none 0 0, .slice none 0 0, .int .i64 0, .int .i64 0, .string .empty, .slice none 0 0, .slice none 0 0, .int .i64 0, .slice none 0 0], true, 0, none, [.int .i64, .str, .slice, .int .i64, .int .i64, .str, .slice, .slice, .int .i64, .int .i64, .str, .slice, .slice, .int .i64, .slice]⟩ := by kernel_rfl
theorem sl58 : SlTy Tryz.prog 58 67 15 240 := ⟨by kernel_rfl, by kernel_rfl, by kernel_rfl⟩
theorem uo58 : (Tryz.prog.underlying 58).isSome = true := by kernel_rfl
theorem uo59 : (Tryz.prog.underlying 59).isSome = true := by kernel_rfl
theorem ti60 : tiOf Tryz.prog 60 = ⟨true, 1, false, [], false, [.nilFunc], true, 0, none, [.any]⟩ := by kernel_rfl
theorem uo60 : (Tryz.prog.underlying 60).isSome = true := by kernel_rfl
theorem uo61 : (Tryz.prog.underlying 61).isSome = true := by kernel_rfl
theorem ti62 : tiOf Tryz.prog 62 = ⟨true, 1, false, [], false, [.nilFunc], true, 0, none, [.any]⟩ := by kernel_rfl
theorem uo62 : (Tryz.prog.underlying 62).isSome = true := by kernel_rfl
theorem ti63 : tiOf Tryz.prog 63 = ⟨true, 1, false, [], false, [.nilFunc], true, 0, none, [.any]⟩ := by kernel_rfl
theorem uo63 : (Tryz.prog.underlying 63).isSome = true := by kernel_rfl
theorem ti64 : tiOf Tryz.prog 64 = ⟨true, 1, false, [], false, [.nilFunc], true, 0, none, [.any]⟩ := by kernel_rfl
theorem uo64 : (Tryz.prog.underlying 64).isSome = true := by kernel_rfl
theorem ti65 : tiOf Tryz.prog 65 = ⟨true, 1, false, [], false, [.slice none 0 0], true, 111, none, [.slice]⟩ := by kernel_rfl
theorem us65 : Tryz.prog.underlying 65 = some (.slice (tiOf Tryz.prog 65).elem) := by kernel_rfl
theorem te65 : tiOf Tryz.prog (tiOf Tryz.prog 65).elem = ⟨true, 6, true, [(0, 1, false), (1, 5, true)], true, [.string .empty, .int .i64 0, .int .i64 0, .string .empty, .slice none 0 0, .slice none 0 0], true, 0, none, [.str, .int .i64, .int .i64, .str, .slice, .slice]⟩ := by kernel_rfl
theorem sl65 : SlTy Tryz.prog 65 111 6 96 := ⟨by kernel_rfl, by kernel_rfl, by kernel_rfl⟩
theorem uo65 : (Tryz.prog.underlying 65).isSome = true := by kernel_rfl
theorem ti66 : tiOf Tryz.prog 66 = ⟨true, 15, true, [(0, 1, false), (1, 1, false), (2, 1, false), (3, 5, true), (8, 5, true), (13, 1, false), (14, 1, false)], true, [.int .i64 0, .string .empty, .slice none 0 0, .int .i64 0, .int .i64 0, .string .empty, .slice none 0 0, .slice none 0 0, .int .i64 0, .int .i64 0, .string .empty, .slice none 0 0, .slice none 0 0, .int .i64 0, .slice none 0 0], true, 0, none, [.int .i64, .str, .slice, .int .i64, .int .i64, .str, .slice, .slice, .int .i64, .int .i64, .str, .slice, .slice, .int .i64, .slice]⟩ := by kernel_rfl
theorem uo66 : (Tryz.prog.underlying 66).isSome = true := by kernel_rfl
theorem ti67 : tiOf Tryz.prog 67 = ⟨true, 15, true, [(0, 1, false), (1, 1, false), (2, 1, false), (3, 5, true), (8, 5, true), (13, 1, false), (14, 1, false)], true, [.int .i64 0, .string .empty, .slice none 0 0, .int .i64 0, .int .i64 0, .string .empty, .slice none 0 0, .slice none 0 0, .int .i64 0, .int .i64 0, .string .empty, .slice none 0 0, .slice none 0 0, .int .i64 0, .slice none 0 0], true, 0, none, [.int .i64, .str, .slice, .int .i64, .int .i64, .str, .slice, .slice, .int .i64, .int .i64, .str, .slice, .slice, .int .i64, .slice]⟩ := by kernel_rfl
theorem uo67 : (Tryz.prog.underlying 67).isSome = true := by kernel_rfl
theorem ti68 : tiOf Tryz.prog 68 = ⟨true, 1, false, [], false, [.nilFunc], true, 0, none, [.any]⟩ := by kernel_rfl
theorem uo68 : (Tryz.prog.underlying 68).isSome = true := by kernel_rfl
theorem ti69 : tiOf Tryz.prog 69 = ⟨true, 1, false, [], false, [.pointer none], true, 71, none, [.ptr]⟩ := by kernel_rfl
theorem up69 : Tryz.prog.underlying 69 = some (.pointer 71) := by kernel_rfl
theorem uo69 : (Tryz.prog.underlying 69).isSome = true := by kernel_rfl
theorem ti70 : tiOf Tryz.prog 70 = ⟨true, 4, true, [(0, 1, false), (1, 1, false), (2, 2, true)], true, [.string .empty, .int .i64 0, .int .i64 0, .int .i64 0], true, 0, none, [.str, .int .i64, .int .i64, .int .i64]⟩ := by kernel_rfl
theorem uo70 : (Tryz.prog.underlying 70).isSome = true := by kernel_rfl
theorem ti71 : tiOf Tryz.prog 71 = ⟨true, 4, true, [(0, 1, false), (1, 1, false), (2, 2, true)], true, [.string .empty, .int .i64 0, .int .i64 0, .int .i64 0], true, 0, none, [.str, .int .i64, .int .i64, .int .i64]⟩ := by kernel_rfl
theorem uo71 : (Tryz.prog.underlying 71).isSome = true := by kernel_rfl
theorem ti72 : tiOf Tryz.prog 72 = ⟨true, 1, false, [], false, [.nilFunc], true, 0, none, [.any]⟩ := by kernel_rfl
theorem uo72 : (Tryz.prog.underlying 72).isSome = true := by kernel_rfl
theorem ti73 : tiOf Tryz.prog 73 = ⟨true, 1, false, [], false, [.nilFunc], true, 0, none, [.any]⟩ := by kernel_rfl
theorem uo73 : (Tryz.prog.underlying 73).isSome = true := by kernel_rfl
theorem ti74 : tiOf Tryz.prog 74 = ⟨true, 1, false, [], false, [.nilFunc], true, 0, none, [.any]⟩ := by kernel_rfl
theorem uo74 : (Tryz.prog.underlying 74).isSome = true := by kernel_rfl
theorem ti75 : tiOf Tryz.prog 75 = ⟨true, 1, false, [], false, [.nilFunc], true, 0, none, [.any]⟩ := by kernel_rfl
theorem uo75 : (Tryz.prog.underlying 75).isSome = true := by kernel_rfl
theorem ti76 : tiOf Tryz.prog 76 = ⟨true, 1, false, [], false, [.nilFunc], true, 0, none, [.any]⟩ := by kernel_rfl
theorem uo76 : (Tryz.prog.underlying 76).isSome = true := by kernel_rfl
theorem ti77 : tiOf Tryz.prog 77 = ⟨true, 1, false, [], false, [.nilFunc], true, 0, none, [.any]⟩ := by kernel_rfl
theorem uo77 : (Tryz.prog.underlying 77).isSome = true := by kernel_rfl
theorem ti78 : tiOf Tryz.prog 78 = ⟨true, 1, false, [], false, [.nilFunc], true, 0, none, [.any]⟩ := by kernel_rfl
theorem uo78 : (Tryz.prog.underlying 78).isSome = true := by kernel_rfl
theorem ti79 : tiOf Tryz.prog 79 = ⟨true, 1, false, [], false, [.nilFunc], true, 0, none, [.any]⟩ := by kernel_rfl
theorem uo79 : (Tryz.prog.underlying 79).isSome = true := by kernel_rfl
theorem ti80 : tiOf Tryz.prog 80 = ⟨true, 1, false, [], false, [.nilFunc], true, 0, none, [.any]⟩ := by kernel_rfl
theorem uo80 : (Tryz.prog.underlying 80).isSome = true := by kernel_rfl
theorem ti81 : tiOf Tryz.prog 81 = ⟨true, 1, false, [], false, [.nilFunc], true, 0, none, [.any]⟩ := by kernel_rfl
theorem uo81 : (Tryz.prog.underlying 81).isSome = true := by kernel_rfl
theorem ti82 : tiOf Tryz.prog 82 = ⟨true, 1, false, [], false, [.nilFunc], true, 0, none, [.any]⟩ := by kernel_rfl
theorem uo82 : (Tryz.prog.underlying 82).isSome = true := by kernel_rfl
theorem ti83 : tiOf Tryz.prog 83 = ⟨true, 1, false, [], false, [.nilFunc], true, 0, none, [.any]⟩ := by kernel_rfl
theorem uo83 : (Tryz.prog.underlying 83).isSome = true := by kernel_rfl
theorem ti84 : tiOf Tryz.prog 84 = ⟨true, 1, false, [], false, [.nilFunc], true, 0, none, [.any]⟩ := by kernel_rfl
theorem uo84 : (Tryz.prog.underlying 84).isSome = true := by kernel_rfl
theorem ti85 : tiOf Tryz.prog 85 = ⟨true, 1, false, [], false, [.nilFunc], true, 0, none, [.any]⟩ := by kernel_rfl
theorem uo85 : (Tryz.prog.underlying 85).isSome = true := by kernel_rfl
theorem ti86 : tiOf Tryz.prog 86 = ⟨true, 1, false, [], false, [.nilFunc], true, 0, none, [.any]⟩ := by kernel_rfl
theorem uo86 : (Tryz.prog.underlying 86).isSome = true := by kernel_rfl
theorem ti87 : tiOf Tryz.prog 87 = ⟨true, 1, false, [], false, [.nilFunc], true, 0, none, [.any]⟩ := by kernel_rfl
theorem uo87 : (Tryz.prog.underlying 87).isSome = true := by kernel_rfl
theorem ti88 : tiOf Tryz.prog 88 = ⟨true, 1, false, [], false, [.pointer none], true, 91, none, [.ptr]⟩ := by kernel_rfl
theorem up88 : Tryz.prog.underlying 88 = some (.pointer 91) := by kernel_rfl
theorem uo88 : (Tryz.prog.underlying 88).isSome = true := by kernel_rfl
theorem ti89 : tiOf Tryz.prog 89 = ⟨true, 1, false, [], false, [.slice none 0 0], true, 5, none, [.slice]⟩ := by kernel_rfl
theorem us89 : Tryz.prog.underlying 89 = some (.slice (tiOf Tryz.prog 89).elem) := by kernel_rfl
theorem te89 : tiOf Tryz.prog (tiOf Tryz.prog 89).elem = ⟨true, 1, false, [], false, [.int .u8 0], true, 0, none, [.int .u8]⟩ := by kernel_rfl
theorem sl89 : SlTy Tryz.prog 89 5 1 1 := ⟨by kernel_rfl, by kernel_rfl, by kernel_rfl⟩
theorem uo89 : (Tryz.prog.underlying 89).isSome = true := by kernel_rfl
theorem ti90 : tiOf Tryz.prog 90 = ⟨true, 2, true, [(0, 1, false), (1, 1, false)], true, [.pointer none, .slice none 0 0], true, 0, none, [.ptr, .slice]⟩ := by kernel_rfl
theorem uo90 : (Tryz.prog.underlying 90).isSome = true := by kernel_rfl
theorem ti91 : tiOf Tryz.prog 91 = ⟨true, 2, true, [(0, 1, false), (1, 1, false)], true, [.pointer none, .slice none 0 0], true, 0, none, [.ptr, .slice]⟩ := by kernel_rfl
theorem uo91 : (Tryz.prog.underlying 91).isSome = true := by kernel_rfl
theorem ti92 : tiOf Tryz.prog 92 = ⟨true, 1, false, [], false, [.nilFunc], true, 0, none, [.any]⟩ := by kernel_rfl
theorem uo92 : (Tryz.prog.underlying 92).isSome = true := by kernel_rfl
theorem ti93 : tiOf Tryz.prog 93 = ⟨true, 1, false, [], false, [.nilFunc], true, 0, none, [.any]⟩ := by kernel_rfl
theorem uo93 : (Tryz.prog.underlying 93).isSome = true := by kernel_rfl
theorem ti94 : tiOf Tryz.prog 94 = ⟨true, 1, false, [], false, [.nilFunc], true, 0, none, [.any]⟩ := by kernel_rfl
theorem uo94 : (Tryz.prog.underlying 94).isSome = true := by kernel_rfl
theorem ti95 : tiOf Tryz.prog 95 = ⟨true, 1, false, [], false, [.nilFunc], true, 0, none, [.any]⟩ := by kernel_rfl
theorem uo95 : (Tryz.prog.underlying 95).isSome = true := by kernel_rfl
theorem ti96 : tiOf Tryz.prog 96 = ⟨true, 1, false, [], false, [.pointer none], true, 33, none, [.ptr]⟩ := by kernel_rfl
theorem up96 : Tryz.prog.underlying 96 = some (.pointer 33) := by kernel_rfl
theorem uo96 : (Tryz.prog.underlying 96).isSome = true := by kernel_rfl
theorem ti97 : tiOf Tryz.prog 97 = ⟨true, 1, false, [], false, [.nilFunc], true, 0, none, [.any]⟩ := by kernel_rfl
theorem uo97 : (Tryz.prog.underlying 97).isSome = true := by kernel_rfl
theorem ti98 : tiOf Tryz.prog 98 = ⟨true, 1, false, [], false, [.pointer none], true, 54, none, [.ptr]⟩ := by kernel_rfl
theorem up98 : Tryz.prog.underlying 98 = some (.pointer 54) := by kernel_rfl
theorem uo98 : (Tryz.prog.underlying 98).isSome = true := by kernel_rfl
theorem ti99 : tiOf Tryz.prog 99 = ⟨true, 1, false, [], false, [.pointer none], true, 105, none, [.ptr]⟩ := by kernel_rfl
theorem up99 : Tryz.prog.underlying 99 = some (.pointer 105) := by kernel_rfl
theorem uo99 : (Tryz.prog.underlying 99).isSome = true := by kernel_rfl
theorem ti100 : tiOf Tryz.prog 100 = ⟨true, 1, false, [], false, [.nilFunc], true, 0, none, [.any]⟩ := by kernel_rfl
theorem uo100 : (Tryz.prog.underlying 100).isSome = true := by kernel_rfl
theorem ti101 : tiOf Tryz.prog 101 = ⟨true, 1, false, [], false, [.nilFunc], true, 0, none, [.any]⟩ := by kernel_rfl
theorem uo101 : (Tryz.prog.underlying 101).isSome = true := by kernel_rfl
theorem uo102 : (Tryz.prog.underlying 102).isSome = true := by kernel_rfl
theorem ti103 : tiOf Tryz.prog 103 = ⟨true, 1, false, [], false, [.nilFunc], true, 0, none, [.any]⟩ := by kernel_rfl
theorem uo103 : (Tryz.prog.underlying 103).isSome = true := by kernel_rfl
theorem ti104 : tiOf Tryz.prog 104 = ⟨true, 4, true, [(0, 1, false), (1, 1, false), (2, 1, false), (3, 1, false)], true, [.string .empty, .int .i64 0, .string .empty, .int .i64 0], true, 0, none, [.str, .int .i64, .str, .int .i64]⟩ := by kernel_rfl
theorem uo104 : (Tryz.prog.underlying 104).isSome = true := by kernel_rfl
theorem ti105 : tiOf Tryz.prog 105 = ⟨true, 4, true, [(0, 1, false), (1, 1, false), (2, 1, false), (3, 1, false)], true, [.string .empty, .int .i64 0, .string .empty, .int .i64 0], true, 0, none, [.str, .int .i64, .str, .int .i64]⟩ := by kernel_rfl
theorem uo105 : (Tryz.prog.underlying 105).isSome = true := by kernel_rfl
theorem ti106 : tiOf Tryz.prog 106 = ⟨true, 1, false, [], false, [.nilFunc], true, 0, none, [.any]⟩ := by kernel_rfl
theorem uo106 : (Tryz.prog.underlying 106).isSome = true := by kernel_rfl
theorem uo107 : (Tryz.prog.underlying 107).isSome = true := by kernel_rfl
theorem ti108 : tiOf Tryz.prog 108 = ⟨true, 1, false, [], false, [.nilFunc], true, 0, none, [.any]⟩ := by kernel_rfl
theorem uo108 : (Tryz.prog.underlying 108).isSome = true := by kernel_rfl
theorem ti109 : tiOf Tryz.prog 109 = ⟨true, 1, false, [], false, [.nilFunc], true, 0, none, [.any]⟩ := by kernel_rfl
theorem uo109 : (Tryz.prog.underlying 109).isSome = true := by kernel_rfl
theorem ti110 : tiOf Tryz.prog 110 = ⟨true, 6, true, [(0, 1, false), (1, 5, true)], true, [.string .empty, .int .i64 0, .int .i64 0, .string .empty, .slice none 0 0, .slice none 0 0], true, 0, none, [.str, .int .i64, .int .i64, .str, .slice, .slice]⟩ := by kernel_rfl
theorem uo110 : (Tryz.prog.underlying 110).isSome = true := by kernel_rfl
theorem ti111 : tiOf Tryz.prog 111 = ⟨true, 6, true, [(0, 1, false), (1, 5, true)], true, [.string .empty, .int .i64 0, .int .i64 0, .string .empty, .slice none 0 0, .slice none 0 0], true, 0, none, [.str, .int .i64, .int .i64, .str, .slice, .slice]⟩ := by kernel_rfl
theorem uo111 : (Tryz.prog.underlying 111).isSome = true := by kernel_rfl
theorem uo112 : (Tryz.prog.underlying 112).isSome = true := by kernel_rfl
theorem ti113 : tiOf Tryz.prog 113 = ⟨true, 1, false, [], false, [.nilFunc], true, 0, none, [.any]⟩ := by kernel_rfl
theorem uo113 : (Tryz.prog.underlying 113).isSome = true := by kernel_rfl
theorem ti114 : tiOf Tryz.prog 114 = ⟨true, 1, false, [], false, [.nilFunc], true, 0, none, [.any]⟩ := by kernel_rfl
theorem uo114 : (Tryz.prog.underlying 114).isSome = true := by kernel_rfl
theorem ti115 : tiOf Tryz.prog 115 = ⟨true, 1, false, [], false, [.nilFunc], true, 0, none, [.any]⟩ := by kernel_rfl
theorem uo115 : (Tryz.prog.underlying 115).isSome = true := by kernel_rfl
theorem ti116 : tiOf Tryz.prog 116 = ⟨true, 1, false, [], false, [.nilFunc], true, 0, none, [.any]⟩ := by kernel_rfl
theorem uo116 : (Tryz.prog.underlying 116).isSome = true := by kernel_rfl
theorem ti117 : tiOf Tryz.prog 117 = ⟨true, 1, false, [], false, [.nilFunc], true, 0, none, [.any]⟩ := by kernel_rfl
theorem uo117 : (Tryz.prog.underlying 117).isSome = true := by kernel_rfl
theorem ti118 : tiOf Tryz.prog 118 = ⟨true, 1, false, [], false, [.nilFunc], true, 0, none, [.any]⟩ := by kernel_rfl
theorem uo118 : (Tryz.prog.underlying 118).isSome = true := by kernel_rfl
theorem ti119 : tiOf Tryz.prog 119 = ⟨true, 1, false, [], false, [.nilFunc], true, 0, none, [.any]⟩ := by kernel_rfl
theorem uo119 : (Tryz.prog.underlying 119).isSome = true := by kernel_rfl
theorem ti120 : tiOf Tryz.prog 120 = ⟨true, 1, false, [], false, [.nilFunc], true, 0, none, [.any]⟩ := by kernel_rfl
theorem uo120 : (Tryz.prog.underlying 120).isSome = true := by kernel_rfl
theorem ti121 : tiOf Tryz.prog 121 = ⟨true, 7, true, [], false, [.string .empty, .string .empty, .string .empty, .string .empty, .string .empty, .string .empty, .string .empty], true, 9, none, [.str, .str, .str, .str, .str, .str, .str]⟩ := by kernel_rfl
theorem ua121 : Tryz.prog.underlying 121 = some (.array 7 9) := by kernel_rfl
theorem uo121 : (Tryz.prog.underlying 121).isSome = true := by kernel_rfl
theorem ti122 : tiOf Tryz.prog 122 = ⟨true, 1, false, [], false, [.nilFunc], true, 0, none, [.any]⟩ := by kernel_rfl
theorem uo122 : (Tryz.prog.underlying 122).isSome = true := by kernel_rfl
theorem ti123 : tiOf Tryz.prog 123 = ⟨true, 1, false, [], false, [.pointer none], true, 5, none, [.ptr]⟩ := by kernel_rfl
theorem up123 : Tryz.prog.underlying 123 = some (.pointer 5) := by kernel_rfl
theorem uo123 : (Tryz.prog.underlying 123).isSome = true := by kernel_rfl
theorem uo124 : (Tryz.prog.underlying 124).isSome = true := by kernel_rfl
theorem ti125 : tiOf Tryz.prog 125 = ⟨true, 1, false, [], false, [.nilFunc], true, 0, none, [.any]⟩ := by kernel_rfl
theorem uo125 : (Tryz.prog.underlying 125).isSome = true := by kernel_rfl
theorem ti126 : tiOf Tryz.prog 126 = ⟨true, 1, false, [], false, [.nilFunc], true, 0, none, [.any]⟩ := by kernel_rfl
theorem uo126 : (Tryz.prog.underlying 126).isSome = true := by kernel_rfl
theorem ti127 : tiOf Tryz.prog 127 = ⟨true, 1, false, [], false, [.pointer none], true, 96, none, [.ptr]⟩ := by kernel_rfl
theorem up127 : Tryz.prog.underlying 127 = some (.pointer 96) := by kernel_rfl
theorem uo127 : (Tryz.prog.underlying 127).isSome = true := by kernel_rfl
theorem ti128 : tiOf Tryz.prog 128 = ⟨true, 1, false, [], false, [.map none], true, 0, none, [.map]⟩ := by kernel_rfl
theorem mt128 : MapTy Tryz.prog 128 9 3 := ⟨by kernel_rfl, by kernel_rfl, by kernel_rfl⟩
theorem uo128 : (Tryz.prog.underlying 128).isSome = true := by kernel_rfl
theorem ti129 : tiOf Tryz.prog 129 = ⟨true, 1, false, [], false, [.nilFunc], true, 0, none, [.any]⟩ := by kernel_rfl
theorem uo129 : (Tryz.prog.underlying 129).isSome = true := by kernel_rfl
theorem ti130 : tiOf Tryz.prog 130 = ⟨true, 1, false, [], false, [.nilFunc], true, 0, none, [.any]⟩ := by kernel_rfl
theorem uo130 : (Tryz.prog.underlying 130).isSome = true := by kernel_rfl
theorem ti131 : tiOf Tryz.prog 131 = ⟨true, 1, false, [], false, [.nilFunc], true, 0, none, [.any]⟩ := by kernel_rfl
theorem uo131 : (Tryz.prog.underlying 131).isSome = true := by kernel_rfl
theorem ti132 : tiOf Tryz.prog 132 = ⟨true, 1, false, [], false, [.nilFunc], true, 0, none, [.any]⟩ := by kernel_rfl
theorem uo132 : (Tryz.prog.underlying 132).isSome = true := by kernel_rfl
theorem ti133 : tiOf Tryz.prog 133 = ⟨true, 1, false, [], false, [.nilFunc], true, 0, none, [.any]⟩ := by kernel_rfl
theorem uo133 : (Tryz.prog.underlying 133).isSome = true := by kernel_rfl
theorem ti134 : tiOf Tryz.prog 134 = ⟨true, 1, false, [], false, [.nilFunc], true, 0, none, [.any]⟩ := by kernel_rfl
theorem uo134 : (Tryz.prog.underlying 134).isSome = true := by kernel_rfl
theorem ti135 : tiOf Tryz.prog 135 = ⟨true, 1, false, [], false, [.nilFunc], true, 0, none, [.any]⟩ := by kernel_rfl
theorem uo135 : (Tryz.prog.underlying 135).isSome = true := by kernel_rfl
theorem ti136 : tiOf Tryz.prog 136 = ⟨true, 1, false, [], false, [.pointer none], true, 0, none, [.any]⟩ := by kernel_rfl
theorem uu136 : Tryz.prog.underlying 136 = some .unsafePointer := by kernel_rfl
theorem uo136 : (Tryz.prog.underlying 136).isSome = true := by kernel_rfl
theorem ti137 : tiOf Tryz.prog 137 = ⟨true, 1, false, [], false, [.int .u64 0], true, 0, none, [.int .u64]⟩ := by kernel_rfl
theorem ui137 : Tryz.prog.underlying 137 = some (.int .u64) := by kernel_rfl
theorem uo137 : (Tryz.prog.underlying 137).isSome = true := by kernel_rfl
theorem ti138 : tiOf Tryz.prog 138 = ⟨true, 3, true, [(0, 1, false), (1, 1, false), (2, 1, false)], true, [.pointer none, .pointer none, .int .u64 0], true, 0, none, [.ptr, .any, .int .u64]⟩ := by kernel_rfl
theorem uo138 : (Tryz.prog.underlying 138).isSome = true := by kernel_rfl
theorem ti139 : tiOf Tryz.prog 139 = ⟨true, 3, true, [(0, 1, false), (1, 1, false), (2, 1, false)], true, [.pointer none, .pointer none, .int .u64 0], true, 0, none, [.ptr, .any, .int .u64]⟩ := by kernel_rfl
theorem uo139 : (Tryz.prog.underlying 139).isSome = true := by kernel_rfl
theorem ti140 : tiOf Tryz.prog 140 = ⟨true, 1, false, [], false, [.nilFunc], true, 0, none, [.any]⟩ := by kernel_rfl
theorem uo140 : (Tryz.prog.underlying 140).isSome = true := by kernel_rfl
theorem ti141 : tiOf Tryz.prog 141 = ⟨true, 1, false, [], false, [.nilIface], true, 0, none, [.any]⟩ := by kernel_rfl
theorem ii141 : isIfc Tryz.prog 141 = true := by kernel_rfl
theorem uo141 : (Tryz.prog.underlying 141).isSome = true := by kernel_rfl
theorem ti142 : tiOf Tryz.prog 142 = ⟨true, 1, false, [], false, [.nilIface], true, 0, none, [.any]⟩ := by kernel_rfl
theorem ii142 : isIfc Tryz.prog 142 = true := by kernel_rfl
theorem uo142 : (Tryz.prog.underlying 142).isSome = true := by kernel_rfl
theorem ti143 : tiOf Tryz.prog 143 = ⟨true, 1, false, [], false, [.nilFunc], true, 0, none, [.any]⟩ := by kernel_rfl
theorem uo143 : (Tryz.prog.underlying 143).isSome = true := by kernel_rfl
theorem ti144 : tiOf Tryz.prog 144 = ⟨true, 1, false, [], false, [.int .u8 0], true, 0, none, [.int .u8]⟩ := by kernel_rfl
theorem ui144 : Tryz.prog.underlying 144 = some (.int .u8) := by kernel_rfl
theorem uo144 : (Tryz.prog.underlying 144).isSome = true := by kernel_rfl
theorem ti145 : tiOf Tryz.prog 145 = ⟨true, 1, false, [], false, [.nilFunc], true, 0, none, [.any]⟩ := by kernel_rfl
theorem uo145 : (Tryz.prog.underlying 145).isSome = true := by kernel_rfl
theorem ti146 : tiOf Tryz.prog 146 = ⟨true, 1, false, [], false, [.nilFunc], true, 0, none, [.any]⟩ := by kernel_rfl
theorem uo146 : (Tryz.prog.underlying 146).isSome = true := by kernel_rfl
theorem ti147 : tiOf Tryz.prog 147 = ⟨true, 1, false, [], false, [.nilFunc], true, 0, none, [.any]⟩ := by kernel_rfl
theorem uo147 : (Tryz.prog.underlying 147).isSome = true := by kernel_rfl
theorem ti148 : tiOf Tryz.prog 148 = ⟨true, 1, false, [], false, [.nilFunc], true, 0, none, [.any]⟩ := by kernel_rfl
theorem uo148 : (Tryz.prog.underlying 148).isSome = true := by kernel_rfl
theorem ti149 : tiOf Tryz.prog 149 = ⟨true, 1, false, [], false, [.nilFunc], true, 0, none, [.any]⟩ := by kernel_rfl
theorem uo149 : (Tryz.prog.underlying 149).isSome = true := by kernel_rfl
theorem ti150 : tiOf Tryz.prog 150 = ⟨true, 1, false, [], false, [.nilFunc], true, 0, none, [.any]⟩ := by kernel_rfl
theorem uo150 : (Tryz.prog.underlying 150).isSome = true := by kernel_rfl
theorem ti151 : tiOf Tryz.prog 151 = ⟨true, 1, false, [], false, [.nilFunc], true, 0, none, [.any]⟩ := by kernel_rfl
theorem uo151 : (Tryz.prog.underlying 151).isSome = true := by kernel_rfl
theorem ti152 : tiOf Tryz.prog 152 = ⟨true, 1, false, [], false, [.nilFunc], true, 0, none, [.any]⟩ := by kernel_rfl
theorem uo152 : (Tryz.prog.underlying 152).isSome = true := by kernel_rfl
theorem ti153 : tiOf Tryz.prog 153 = ⟨true, 1, false, [], false, [.slice none 0 0], true, 3, none, [.slice]⟩ := by kernel_rfl
theorem us153 : Tryz.prog.underlying 153 = some (.slice (tiOf Tryz.prog 153).elem) := by kernel_rfl
theorem te153 : tiOf Tryz.prog (tiOf Tryz.prog 153).elem = ⟨true, 1, false, [], false, [.int .i64 0], true, 0, none, [.int .i64]⟩ := by kernel_rfl
theorem sl153 : SlTy Tryz.prog 153 3 1 8 := ⟨by kernel_rfl, by kernel_rfl, by kernel_rfl⟩
theorem uo153 : (Tryz.prog.underlying 153).isSome = true := by kernel_rfl
theorem ti154 : tiOf Tryz.prog 154 = ⟨true, 1, false, [], false, [.nilFunc], true, 0, none, [.any]⟩ := by kernel_rfl
theorem uo154 : (Tryz.prog.underlying 154).isSome = true := by kernel_rfl
theorem ti155 : tiOf Tryz.prog 155 = ⟨true, 4, true, [], false, [.string .empty, .string .empty, .string .empty, .string .empty], true, 9, none, [.str, .str, .str, .str]⟩ := by kernel_rfl
theorem ua155 : Tryz.prog.underlying 155 = some (.array 4 9) := by kernel_rfl
theorem uo155 : (Tryz.prog.underlying 155).isSome = true := by kernel_rfl
theorem ti156 : tiOf Tryz.prog 156 = ⟨true, 1, false, [], false, [.nilFunc], true, 0, none, [.any]⟩ := by kernel_rfl
theorem uo156 : (Tryz.prog.underlying 156).isSome = true := by kernel_rfl
theorem ti157 : tiOf Tryz.prog 157 = ⟨true, 1, false, [], false, [.int .i64 0], true, 0, none, [.int .i64]⟩ := by kernel_rfl
theorem ui157 : Tryz.prog.underlying 157 = some (.int .i64) := by kernel_rfl
theorem uo157 : (Tryz.prog.underlying 157).isSome = true := by kernel_rfl
theorem uo158 : (Tryz.prog.underlying 158).isSome = true := by kernel_rfl
theorem ti159 : tiOf Tryz.prog 159 = ⟨true, 1, false, [], false, [.nilFunc], true, 0, none, [.any]⟩ := by kernel_rfl
theorem uo159 : (Tryz.prog.underlying 159).isSome = true := by kernel_rfl
theorem ti160 : tiOf Tryz.prog 160 = ⟨true, 1, false, [], false, [.pointer none], true, 194, none, [.ptr]⟩ := by kernel_rfl
theorem up160 : Tryz.prog.underlying 160 = some (.pointer 194) := by kernel_rfl
theorem uo160 : (Tryz.prog.underlying 160).isSome = true := by kernel_rfl
theorem ti161 : tiOf Tryz.prog 161 = ⟨true, 1, false, [], false, [.nilFunc], true, 0, none, [.any]⟩ := by kernel_rfl
theorem uo161 : (Tryz.prog.underlying 161).isSome = true := by kernel_rfl
theorem ti162 : tiOf Tryz.prog 162 = ⟨true, 1, false, [], false, [.nilFunc], true, 0, none, [.any]⟩ := by kernel_rfl
theorem uo162 : (Tryz.prog.underlying 162).isSome = true := by kernel_rfl
theorem ti163 : tiOf Tryz.prog 163 = ⟨true, 1, true, [(0, 1, false)], true, [.pointer none], true, 0, none, [.ptr]⟩ := by kernel_rfl
theorem uo163 : (Tryz.prog.underlying 163).isSome = true := by kernel_rfl
theorem ti164 : tiOf Tryz.prog 164 = ⟨true, 1, true, [(0, 1, false)], true, [.pointer none], true, 0, none, [.ptr]⟩ := by kernel_rfl
theorem uo164 : (Tryz.prog.underlying 164).isSome = true := by kernel_rfl
theorem ti165 : tiOf Tryz.prog 165 = ⟨true, 1, false, [], false, [.pointer none], true, 228, none, [.ptr]⟩ := by kernel_rfl
theorem up165 : Tryz.prog.underlying 165 = some (.pointer 228) := by kernel_rfl
theorem uo165 : (Tryz.prog.underlying 165).isSome = true := by kernel_rfl
theorem ti166 : tiOf Tryz.prog 166 = ⟨true, 1, false, [], false, [.nilFunc], true, 0, none, [.any]⟩ := by kernel_rfl
theorem uo166 : (Tryz.prog.underlying 166).isSome = true := by kernel_rfl
theorem ti167 : tiOf Tryz.prog 167 = ⟨true, 1, false, [], false, [.nilFunc], true, 0, none, [.any]⟩ := by kernel_rfl
theorem uo167 : (Tryz.prog.underlying 167).isSome = true := by kernel_rfl
theorem ti168 : tiOf Tryz.prog 168 = ⟨true, 1, false, [], false, [.nilFunc], true, 0, none, [.any]⟩ := by kernel_rfl
theorem uo168 : (Tryz.prog.underlying 168).isSome = true := by kernel_rfl
theorem ti169 : tiOf Tryz.prog 169 = ⟨true, 1, false, [], false, [.nilIface], true, 0, none, [.any]⟩ := by kernel_rfl
theorem ii169 : isIfc Tryz.prog 169 = true := by kernel_rfl
theorem uo169 : (Tryz.prog.underlying 169).isSome = true := by kernel_rfl
theorem uo170 : (Tryz.prog.underlying 170).isSome = true := by kernel_rfl
theorem ti171 : tiOf Tryz.prog 171 = ⟨true, 1, false, [], false, [.nilFunc], true, 0, none, [.any]⟩ := by kernel_rfl
theorem uo171 : (Tryz.prog.underlying 171).isSome = true := by kernel_rfl
theorem ti172 : tiOf Tryz.prog 172 = ⟨true, 1, false, [], false, [.nilIface], true, 0, none, [.any]⟩ := by kernel_rfl
theorem ii172 : isIfc Tryz.prog 172 = true := by kernel_rfl
theorem uo172 : (Tryz.prog.underlying 172).isSome = true := by kernel_rfl
theorem ti173 : tiOf Tryz.prog 173 = ⟨true, 1, false, [], false, [.nilFunc], true, 0, none, [.any]⟩ := by kernel_rfl
theorem uo173 : (Tryz.prog.underlying 173).isSome = true := by kernel_rfl
theorem ti174 : tiOf Tryz.prog 174 = ⟨true, 1, false, [], false, [.nilIface], true, 0, none, [.any]⟩ := by kernel_rfl
theorem ii174 : isIfc Tryz.prog 174 = true := by kernel_rfl
theorem uo174 : (Tryz.prog.underlying 174).isSome = true := by kernel_rfl
theorem ti175 : tiOf Tryz.prog 175 = ⟨true, 1, false, [], false, [.slice none 0 0], true, 54, none, [.slice]⟩ := by kernel_rfl
theorem us175 : Tryz.prog.underlying 175 = some (.slice (tiOf Tryz.prog 175).elem) := by kernel_rfl
theorem te175 : tiOf Tryz.prog (tiOf Tryz.prog 175).elem = ⟨true, 1, false, [], false, [.nilIface], true, 0, none, [.any]⟩ := by kernel_rfl
theorem sl175 : SlTy Tryz.prog 175 54 1 16 := ⟨by kernel_rfl, by kernel_rfl, by kernel_rfl⟩
theorem uo175 : (Tryz.prog.underlying 175).isSome = true := by kernel_rfl
theorem ti176 : tiOf Tryz.prog 176 = ⟨true, 1, false, [], false, [.nilFunc], true, 0, none, [.any]⟩ := by kernel_rfl
theorem uo176 : (Tryz.prog.underlying 176).isSome = true := by kernel_rfl
theorem ti177 : tiOf Tryz.prog 177 = ⟨true, 1, false, [], false, [.nilFunc], true, 0, none, [.any]⟩ := by kernel_rfl
theorem uo177 : (Tryz.prog.underlying 177).isSome = true := by kernel_rfl
theorem ti178 : tiOf Tryz.prog 178 = ⟨true, 24, true, [], false, [.int .u8 0, .int .u8 0, .int .u8 0, .int .u8 0, .int .u8 0, .int .u8 0, .int .u8 0, .int .u8 0, .int .u8 0, .int .u8 0, .int .u8 0, .int .u8 0, .int .u8 0, .int .u8 0, .int .u8 0, .int .u8 0, .int .u8 0, .int .u8 0, .int .u8 0, .int .u8 0, .int .u8 0, .int .u8 0, .int .u8 0, .int .u8 0], true, 5, none, [.int .u8, .int .u8, .int .u8, .int .u8, .int .u8, .int .u8, .int .u8, .int .u8, .int .u8, .int .u8, .int .u8, .int .u8, .int .u8, .int .u8, .int .u8, .int .u8, .int .u8, .int .u8, .int .u8, .int .u8, .int .u8, .int .u8, .int .u8, .int .u8]⟩ := by kernel_rfl
theorem ua178 : Tryz.prog.underlying 178 = some (.array 24 5) := by kernel_rfl
theorem uo178 : (Tryz.prog.underlying 178).isSome = true := by kernel_rfl
theorem ti179 : tiOf Tryz.prog 179 = ⟨true, 1, false, [], false, [.int .u64 0], true, 0, none, [.int .u64]⟩ := by kernel_rfl
theorem ui179 : Tryz.prog.underlying 179 = some (.int .u64) := by kernel_rfl
theorem uo179 : (Tryz.prog.underlying 179).isSome = true := by kernel_rfl
theorem ti180 : tiOf Tryz.prog 180 = ⟨true, 1, false, [], false, [.nilFunc], true, 0, none, [.any]⟩ := by kernel_rfl
theorem uo180 : (Tryz.prog.underlying 180).isSome = true := by kernel_rfl
theorem ti181 : tiOf Tryz.prog 181 = ⟨true, 1, false, [], false, [.nilFunc], true, 0, none, [.any]⟩ := by kernel_rfl
theorem uo181 : (Tryz.prog.underlying 181).isSome = true := by kernel_rfl
theorem uo182 : (Tryz.prog.underlying 182).isSome = true := by kernel_rfl
theorem ti183 : tiOf Tryz.prog 183 = ⟨true, 1, false, [], false, [.nilFunc], true, 0, none, [.any]⟩ := by kernel_rfl
theorem uo183 : (Tryz.prog.underlying 183).isSome = true := by kernel_rfl
theorem ti184 : tiOf Tryz.prog 184 = ⟨true, 2, true, [(0, 1, false), (1, 1, false)], true, [.int .i64 0, .map none], true, 0, none, [.int .i64, .map]⟩ := by kernel_rfl
theorem uo184 : (Tryz.prog.underlying 184).isSome = true := by kernel_rfl
theorem ti185 : tiOf Tryz.prog 185 = ⟨true, 2, true, [(0, 1, false), (1, 1, false)], true, [.int .i64 0, .map none], true, 0, none, [.int .i64, .map]⟩ := by kernel_rfl
theorem uo185 : (Tryz.prog.underlying 185).isSome = true := by kernel_rfl
theorem uo186 : (Tryz.prog.underlying 186).isSome = true := by kernel_rfl
theorem ti187 : tiOf Tryz.prog 187 = ⟨true, 1, false, [], false, [.nilFunc], true, 0, none, [.any]⟩ := by kernel_rfl
theorem uo187 : (Tryz.prog.underlying 187).isSome = true := by kernel_rfl
theorem ti188 : tiOf Tryz.prog 188 = ⟨true, 1, false, [], false, [.nilFunc], true, 0, none, [.any]⟩ := by kernel_rfl
theorem uo188 : (Tryz.prog.underlying 188).isSome = true := by kernel_rfl
theorem uo189 : (Tryz.prog.underlying 189).isSome = true := by kernel_rfl
theorem ti190 : tiOf Tryz.prog 190 = ⟨true, 1, false, [], false, [.nilFunc], true, 0, none, [.any]⟩ := by kernel_rfl
theorem uo190 : (Tryz.prog.underlying 190).isSome = true := by kernel_rfl
theorem ti191 : tiOf Tryz.prog 191 = ⟨true, 1, false, [], false, [.int .u64 0], true, 0, none, [.int .u64]⟩ := by kernel_rfl
theorem ui191 : Tryz.prog.underlying 191 = some (.int .u64) := by kernel_rfl
theorem uo191 : (Tryz.prog.underlying 191).isSome = true := by kernel_rfl
theorem ti192 : tiOf Tryz.prog 192 = ⟨true, 1, false, [], false, [.nilFunc], true, 0, none, [.any]⟩ := by kernel_rfl
theorem uo192 : (Tryz.prog.underlying 192).isSome = true := by kernel_rfl
theorem ti193 : tiOf Tryz.prog 193 = ⟨true, 3, true, [(0, 1, false), (1, 1, false), (2, 1, false)], true, [.string .empty, .string .empty, .nilIface], true, 0, none, [.str, .str, .any]⟩ := by kernel_rfl
theorem uo193 : (Tryz.prog.underlying 193).isSome = true := by kernel_rfl
theorem ti194 : tiOf Tryz.prog 194 = ⟨true, 3, true, [(0, 1, false), (1, 1, false), (2, 1, false)], true, [.string .empty, .string .empty, .nilIface], true, 0, none, [.str, .str, .any]⟩ := by kernel_rfl
theorem uo194 : (Tryz.prog.underlying 194).isSome = true := by kernel_rfl
theorem ti195 : tiOf Tryz.prog 195 = ⟨true, 1, false, [], false, [.nilFunc], true, 0, none, [.any]⟩ := by kernel_rfl
theorem uo195 : (Tryz.prog.underlying 195).isSome = true := by kernel_rfl
theorem ti196 : tiOf Tryz.prog 196 = ⟨true, 1, false, [], false, [.nilFunc], true, 0, none, [.any]⟩ := by kernel_rfl
theorem uo196 : (Tryz.prog.underlying 196).isSome = true := by kernel_rfl
theorem ti197 : tiOf Tryz.prog 197 = ⟨true, 20, true, [], false, [.int .u64 0, .int .u64 0, .int .u64 0, .int .u64 0, .int .u64 0, .int .u64 0, .int .u64 0, .int .u64 0, .int .u64 0, .int .u64 0, .int .u64 0, .int .u64 0, .int .u64 0, .int .u64 0, .int .u64 0, .int .u64 0, .int .u64 0, .int .u64 0, .int .u64 0, .int .u64 0], true, 179, none, [.int .u64, .int .u64, .int .u64, .int .u64, .int .u64, .int .u64, .int .u64, .int .u64, .int .u64, .int .u64, .int .u64, .int .u64, .int .u64, .int .u64, .int .u64, .int .u64, .int .u64, .int .u64, .int .u64, .int .u64]⟩ := by kernel_rfl
theorem ua197 : Tryz.prog.underlying 197 = some (.array 20 179) := by kernel_rfl
theorem uo197 : (Tryz.prog.underlying 197).isSome = true := by kernel_rfl
theorem ti198 : tiOf Tryz.prog 198 = ⟨true, 1, false, [], false, [.int .u32 0], true, 0, none, [.int .u32]⟩ := by kernel_rfl
theorem ui198 : Tryz.prog.underlying 198 = some (.int .u32) := by kernel_rfl
theorem uo198 : (Tryz.prog.underlying 198).isSome = true := by kernel_rfl
theorem ti200 : tiOf Tryz.prog 200 = ⟨true, 1, false, [], false, [.nilFunc], true, 0, none, [.any]⟩ := by kernel_rfl
theorem uo200 : (Tryz.prog.underlying 200).isSome = true := by kernel_rfl
theorem ti201 : tiOf Tryz.prog 201 = ⟨true, 1, false, [], false, [.nilFunc], true, 0, none, [.any]⟩ := by kernel_rfl
theorem uo201 : (Tryz.prog.underlying 201).isSome = true := by kernel_rfl
theorem ti202 : tiOf Tryz.prog 202 = ⟨true, 1, false, [], false, [.nilFunc], true, 0, none, [.any]⟩ := by kernel_rfl
theorem uo202 : (Tryz.prog.underlying 202).isSome = true := by kernel_rfl
theorem uo203 : (Tryz.prog.underlying 203).isSome = true := by kernel_rfl
theorem ti204 : tiOf Tryz.prog 204 = ⟨true, 1, false, [], false, [.nilFunc], true, 0, none, [.any]⟩ := by kernel_rfl
theorem uo204 : (Tryz.prog.underlying 204).isSome = true := by kernel_rfl
theorem ti205 : tiOf Tryz.prog 205 = ⟨true, 1, false, [], false, [.pointer none], true, 207, none, [.ptr]⟩ := by kernel_rfl
theorem up205 : Tryz.prog.underlying 205 = some (.pointer 207) := by kernel_rfl
theorem uo205 : (Tryz.prog.underlying 205).isSome = true := by kernel_rfl
theorem ti206 : tiOf Tryz.prog 206 = ⟨true, 1, true, [(0, 1, false)], true, [.string .empty], true, 0, none, [.str]⟩ := by kernel_rfl
theorem uo206 : (Tryz.prog.underlying 206).isSome = true := by kernel_rfl
theorem ti207 : tiOf Tryz.prog 207 = ⟨true, 1, true, [(0, 1, false)], true, [.string .empty], true, 0, none, [.str]⟩ := by kernel_rfl
theorem uo207 : (Tryz.prog.underlying 207).isSome = true := by kernel_rfl
theorem ti208 : tiOf Tryz.prog 208 = ⟨true, 1, false, [], false, [.nilFunc], true, 0, none, [.any]⟩ := by kernel_rfl
theorem uo208 : (Tryz.prog.underlying 208).isSome = true := by kernel_rfl
theorem ti209 : tiOf Tryz.prog 209 = ⟨true, 1, false, [], false, [.pointer none], true, 185, none, [.ptr]⟩ := by kernel_rfl
theorem up209 : Tryz.prog.underlying 209 = some (.pointer 185) := by kernel_rfl
theorem uo209 : (Tryz.prog.underlying 209).isSome = true := by kernel_rfl
theorem ti210 : tiOf Tryz.prog 210 = ⟨true, 32, true, [], false, [.int .u8 0, .int .u8 0, .int .u8 0, .int .u8 0, .int .u8 0, .int .u8 0, .int .u8 0, .int .u8 0, .int .u8 0, .int .u8 0, .int .u8 0, .int .u8 0, .int .u8 0, .int .u8 0, .int .u8 0, .int .u8 0, .int .u8 0, .int .u8 0, .int .u8 0, .int .u8 0, .int .u8 0, .int .u8 0, .int .u8 0, .int .u8 0, .int .u8 0, .int .u8 0, .int .u8 0, .int .u8 0, .int .u8 0, .int .u8 0, .int .u8 0, .int .u8 0], true, 5, none, [.int .u8, .int .u8, .int .u8, .int .u8, .int .u8, .int .u8, .int .u8, .int .u8, .int .u8, .int .u8, .int .u8, .int .u8, .int .u8, .int .u8, .int .u8, .int .u8, .int .u8, .int .u8, .int .u8, .int .u8, .int .u8, .int .u8, .int .u8, .int .u8, .int .u8, .int .u8, .int .u8, .int .u8, .int .u8, .int .u8, .int .u8, .int .u8]⟩ := by kernel_rfl
theorem ua210 : Tryz.prog.underlying 210 = some (.array 32 5) := by kernel_rfl
theorem uo210 : (Tryz.prog.underlying 210).isSome = true := by kernel_rfl
theorem ti212 : tiOf Tryz.prog 212 = ⟨true, 4, true, [(0, 1, false), (1, 1, false), (2, 1, false), (3, 1, false)], true, [.pointer none, .pointer none, .pointer none, .string .empty], true, 0, none, [.ptr, .ptr, .ptr, .str]⟩ := by kernel_rfl
theorem uo212 : (Tryz.prog.underlying 212).isSome = true := by kernel_rfl
theorem ti213 : tiOf Tryz.prog 213 = ⟨true, 4, true, [(0, 1, false), (1, 1, false), (2, 1, false), (3, 1, false)], true, [.pointer none, .pointer none, .pointer none, .string .empty], true, 0, none, [.ptr, .ptr, .ptr, .str]⟩ := by kernel_rfl
theorem uo213 : (Tryz.prog.underlying 213).isSome = true := by kernel_rfl
theorem ti214 : tiOf Tryz.prog 214 = ⟨true, 0, true, [], false, [], true, 16, none, []⟩ := by kernel_rfl
theorem ua214 : Tryz.prog.underlying 214 = some (.array 0 16) := by kernel_rfl
theorem uo214 : (Tryz.prog.underlying 214).isSome = true := by kernel_rfl
theorem ti215 : tiOf Tryz.prog 215 = ⟨true, 0, true, [(0, 0, true)], true, [], true, 0, none, []⟩ := by kernel_rfl
theorem uo215 : (Tryz.prog.underlying 215).isSome = true := by kernel_rfl
theorem ti216 : tiOf Tryz.prog 216 = ⟨true, 0, true, [(0, 0, true)], true, [], true, 0, none, []⟩ := by kernel_rfl
theorem uo216 : (Tryz.prog.underlying 216).isSome = true := by kernel_rfl
theorem ti217 : tiOf Tryz.prog 217 = ⟨true, 1, false, [], false, [.nilFunc], true, 0, none, [.any]⟩ := by kernel_rfl
theorem uo217 : (Tryz.prog.underlying 217).isSome = true := by kernel_rfl
theorem ti218 : tiOf Tryz.prog 218 = ⟨true, 1, false, [], false, [.nilFunc], true, 0, none, [.any]⟩ := by kernel_rfl
theorem uo218 : (Tryz.prog.underlying 218).isSome = true := by kernel_rfl
theorem ti219 : tiOf Tryz.prog 219 = ⟨true, 1, false, [], false, [.int .u8 0], true, 0, none, [.int .u8]⟩ := by kernel_rfl
theorem ui219 : Tryz.prog.underlying 219 = some (.int .u8) := by kernel_rfl
theorem uo219 : (Tryz.prog.underlying 219).isSome = true := by kernel_rfl
theorem ti220 : tiOf Tryz.prog 220 = ⟨true, 1, false, [], false, [.nilFunc], true, 0, none, [.any]⟩ := by kernel_rfl
theorem uo220 : (Tryz.prog.underlying 220).isSome = true := by kernel_rfl
theorem ti221 : tiOf Tryz.prog 221 = ⟨true, 1, false, [], false, [.int .i32 0], true, 0, none, [.int .i32]⟩ := by kernel_rfl
theorem ui221 : Tryz.prog.underlying 221 = some (.int .i32) := by kernel_rfl
theorem uo221 : (Tryz.prog.underlying 221).isSome = true := by kernel_rfl
theorem ti222 : tiOf Tryz.prog 222 = ⟨true, 1, false, [], false, [.int .i32 0], true, 0, none, [.int .i32]⟩ := by kernel_rfl
theorem ui222 : Tryz.prog.underlying 222 = some (.int .i32) := by kernel_rfl
theorem uo222 : (Tryz.prog.underlying 222).isSome = true := by kernel_rfl
theorem ti223 : tiOf Tryz.prog 223 = ⟨true, 11, true, [(0, 1, false), (1, 1, false), (2, 1, false), (3, 1, false), (4, 1, false), (5, 1, false), (6, 1, false), (7, 1, false), (8, 1, false), (9, 1, false), (10, 1, false)], true, [.int .u64 0, .int .u64 0, .int .u32 0, .int .u8 0, .int .u8 0, .int .u8 0, .int .u8 0, .nilFunc, .pointer none, .int .i32 0, .int .i32 0], true, 0, none, [.int .u64, .int .u64, .int .u32, .int .u8, .int .u8, .int .u8, .int .u8, .any, .ptr, .int .i32, .int .i32]⟩ := by kernel_rfl
theorem uo223 : (Tryz.prog.underlying 223).isSome = true := by kernel_rfl
theorem ti224 : tiOf Tryz.prog 224 = ⟨true, 11, true, [(0, 1, false), (1, 1, false), (2, 1, false), (3, 1, false), (4, 1, false), (5, 1, false), (6, 1, false), (7, 1, false), (8, 1, false), (9, 1, false), (10, 1, false)], true, [.int .u64 0, .int .u64 0, .int .u32 0, .int .u8 0, .int .u8 0, .int .u8 0, .int .u8 0, .nilFunc, .pointer none, .int .i32 0, .int .i32 0], true, 0, none, [.int .u64, .int .u64, .int .u32, .int .u8, .int .u8, .int .u8, .int .u8, .any, .ptr, .int .i32, .int .i32]⟩ := by kernel_rfl
theorem uo224 : (Tryz.prog.underlying 224).isSome = true := by kernel_rfl
theorem ti225 : tiOf Tryz.prog 225 = ⟨true, 1, false, [], false, [.nilFunc], true, 0, none, [.any]⟩ := by kernel_rfl
theorem uo225 : (Tryz.prog.underlying 225).isSome = true := by kernel_rfl
theorem ti226 : tiOf Tryz.prog 226 = ⟨true, 1, false, [], false, [.nilFunc], true, 0, none, [.any]⟩ := by kernel_rfl
theorem uo226 : (Tryz.prog.underlying 226).isSome = true := by kernel_rfl
theorem ti227 : tiOf Tryz.prog 227 = ⟨true, 2, true, [(0, 1, false), (1, 1, false)], true, [.string .empty, .int .u8 0], true, 0, none, [.str, .int .u8]⟩ := by kernel_rfl
theorem uo227 : (Tryz.prog.underlying 227).isSome = true := by kernel_rfl
theorem ti228 : tiOf Tryz.prog 228 = ⟨true, 2, true, [(0, 1, false), (1, 1, false)], true, [.string .empty, .int .u8 0], true, 0, none, [.str, .int .u8]⟩ := by kernel_rfl
theorem uo228 : (Tryz.prog.underlying 228).isSome = true := by kernel_rfl
theorem ti229 : tiOf Tryz.prog 229 = ⟨true, 1, false, [], false, [.pointer none], true, 233, none, [.ptr]⟩ := by kernel_rfl
theorem up229 : Tryz.prog.underlying 229 = some (.pointer 233) := by kernel_rfl
theorem uo229 : (Tryz.prog.underlying 229).isSome = true := by kernel_rfl
theorem ti230 : tiOf Tryz.prog 230 = ⟨true, 1, false, [], false, [.nilFunc], true, 0, none, [.any]⟩ := by kernel_rfl
theorem uo230 : (Tryz.prog.underlying 230).isSome = true := by kernel_rfl
theorem ti231 : tiOf Tryz.prog 231 = ⟨true, 1, false, [], false, [.int .u16 0], true, 0, none, [.int .u16]⟩ := by kernel_rfl
theorem ui231 : Tryz.prog.underlying 231 = some (.int .u16) := by kernel_rfl
theorem uo231 : (Tryz.prog.underlying 231).isSome = true := by kernel_rfl
theorem ti232 : tiOf Tryz.prog 232 = ⟨true, 5, true, [(0, 1, false), (1, 1, false), (2, 1, false), (3, 1, false), (4, 1, false)], true, [.int .i32 0, .int .u16 0, .int .u16 0, .int .u32 0, .int .u32 0], true, 0, none, [.int .i32, .int .u16, .int .u16, .int .u32, .int .u32]⟩ := by kernel_rfl
theorem uo232 : (Tryz.prog.underlying 232).isSome = true := by kernel_rfl
theorem ti233 : tiOf Tryz.prog 233 = ⟨true, 5, true, [(0, 1, false), (1, 1, false), (2, 1, false), (3, 1, false), (4, 1, false)], true, [.int .i32 0, .int .u16 0, .int .u16 0, .int .u32 0, .int .u32 0], true, 0, none, [.int .i32, .int .u16, .int .u16, .int .u32, .int .u32]⟩ := by kernel_rfl
theorem uo233 : (Tryz.prog.underlying 233).isSome = true := by kernel_rfl
theorem ti234 : tiOf Tryz.prog 234 = ⟨true, 1, false, [], false, [.slice none 0 0], true, 237, none, [.slice]⟩ := by kernel_rfl
theorem us234 : Tryz.prog.underlying 234 = some (.slice (tiOf Tryz.prog 234).elem) := by kernel_rfl
theorem te234 : tiOf Tryz.prog (tiOf Tryz.prog 234).elem = ⟨true, 4, true, [(0, 1, false), (1, 1, false), (2, 1, false), (3, 1, false)], true, [.int .i32 0, .int .i32 0, .int .i32 0, .int .i32 0], true, 0, none, [.int .i32, .int .i32, .int .i32, .int .i32]⟩ := by kernel_rfl
theorem sl234 : SlTy Tryz.prog 234 237 4 16 := ⟨by kernel_rfl, by kernel_rfl, by kernel_rfl⟩
theorem uo234 : (Tryz.prog.underlying 234).isSome = true := by kernel_rfl
theorem ti235 : tiOf Tryz.prog 235 = ⟨true, 1, false, [], false, [.int .i32 0], true, 0, none, [.int .i32]⟩ := by kernel_rfl
theorem ui235 : Tryz.prog.underlying 235 = some (.int .i32) := by kernel_rfl
theorem uo235 : (Tryz.prog.underlying 235).isSome = true := by kernel_rfl
theorem ti236 : tiOf Tryz.prog 236 = ⟨true, 4, true, [(0, 1, false), (1, 1, false), (2, 1, false), (3, 1, false)], true, [.int .i32 0, .int .i32 0, .int .i32 0, .int .i32 0], true, 0, none, [.int .i32, .int .i32, .int .i32, .int .i32]⟩ := by kernel_rfl
theorem uo236 : (Tryz.prog.underlying 236).isSome = true := by kernel_rfl
theorem ti237 : tiOf Tryz.prog 237 = ⟨true, 4, true, [(0, 1, false), (1, 1, false), (2, 1, false), (3, 1, false)], true, [.int .i32 0, .int .i32 0, .int .i32 0, .int .i32 0], true, 0, none, [.int .i32, .int .i32, .int .i32, .int .i32]⟩ := by kernel_rfl
theorem uo237 : (Tryz.prog.underlying 237).isSome = true := by kernel_rfl
theorem ca2 : callable Tryz.prog 2 = true := by kernel_rfl
theorem ca3 : callable Tryz.prog 3 = true := by kernel_rfl
theorem ca4 : callable Tryz.prog 4 = true := by kernel_rfl
theorem ca5 : callable Tryz.prog 5 = true := by kernel_rfl
theorem ca6 : callable Tryz.prog 6 = true := by kernel_rfl
theorem ca7 : callable Tryz.prog 7 = true := by kernel_rfl
theorem ca8 : callable Tryz.prog 8 = true := by kernel_rfl
theorem ca9 : callable Tryz.prog 9 = true := by kernel_rfl
theorem ca10 : callable Tryz.prog 10 = true := by kernel_rfl
theorem ca11 : callable Tryz.prog 11 = true := by kernel_rfl
theorem ca12 : callable Tryz.prog 12 = true := by kernel_rfl
theorem ca13 : callable Tryz.prog 13 = true := by kernel_rfl
theorem ca14 : callable Tryz.prog 14 = true := by kernel_rfl
theorem ca15 : callable Tryz.prog 15 = true := by kernel_rfl
theorem ca16 : callable Tryz.prog 16 = true := by kernel_rfl
theorem ca17 : callable Tryz.prog 17 = true := by kernel_rfl
theorem ca18 : callable Tryz.prog 18 = true := by kernel_rfl
theorem ca19 : callable Tryz.prog 19 = true := by kernel_rfl
theorem ca20 : callable Tryz.prog 20 = true := by kernel_rfl
theorem ca21 : callable Tryz.prog 21 = true := by kernel_rfl
theorem ca22 : callable Tryz.prog 22 = true := by kernel_rfl
theorem ca23 : callable Tryz.prog 23 = true := by kernel_rfl
theorem ca24 : callable Tryz.prog 24 = true := by kernel_rfl
theorem ca25 : callable Tryz.prog 25 = true := by kernel_rfl
theorem ca26 : callable Tryz.prog 26 = true := by kernel_rfl
theorem ca27 : callable Tryz.prog 27 = true := by kernel_rfl
theorem ca28 : callable Tryz.prog 28 = true := by kernel_rfl
theorem ca29 : callable Tryz.prog 29 = true := by kernel_rfl
theorem ca30 : callable Tryz.prog 30 = true := by kernel_rfl
theorem ca31 : callable Tryz.prog 31 = true := by kernel_rfl
theorem ca32 : callable Tryz.prog 32 = true := by kernel_rfl
theorem ca33 : callable Tryz.prog 33 = true := by kernel_rfl
theorem ca34 : callable Tryz.prog 34 = true := by kernel_rfl
theorem ca35 : callable Tryz.prog 35 = true := by kernel_rfl
theorem ca36 : callable Tryz.prog 36 = true := by kernel_rfl
theorem ca37 : callable Tryz.prog 37 = true := by kernel_rfl
theorem ca38 : callable Tryz.prog 38 = true := by kernel_rfl
theorem ca39 : callable Tryz.prog 39 = true := by kernel_rfl
theorem ca40 : callable Tryz.prog 40 = true := by kernel_rfl
theorem ca41 : callable Tryz.prog 41 = true := by kernel_rfl
theorem ca42 : callable Tryz.prog 42 = true := by kernel_rfl
theorem ca43 : callable Tryz.prog 43 = true := by kernel_rfl
theorem ca44 : callable Tryz.prog 44 = true := by kernel_rfl
theorem ca45 : callable Tryz.prog 45 = true := by kernel_rfl
theorem ca46 : callable Tryz.prog 46 = true := by kernel_rfl
theorem ca47 : callable Tryz.prog 47 = true := by kernel_rfl
theorem ca48 : callable Tryz.prog 48 = true := by kernel_rfl
theorem ca49 : callable Tryz.prog 49 = true := by kernel_rfl
theorem ca50 : callable Tryz.prog 50 = true := by kernel_rfl
theorem ca51 : callable Tryz.prog 51 = true := by kernel_rfl
theorem ca52 : callable Tryz.prog 52 = true := by kernel_rfl
theorem ca53 : callable Tryz.prog 53 = true := by kernel_rfl
theorem ca54 : callable Tryz.prog 54 = true := by kernel_rfl
theorem ca55 : callable Tryz.prog 55 = true := by kernel_rfl
theorem ca56 : callable Tryz.prog 56 = true := by kernel_rfl
theorem ca57 : callable Tryz.prog 57 = true := by kernel_rfl
theorem ca58 : callable Tryz.prog 58 = true := by kernel_rfl
theorem ca59 : callable Tryz.prog 59 = true := by kernel_rfl
theorem ca60 : callable Tryz.prog 60 = true := by kernel_rfl
theorem ca61 : callable Tryz.prog 61 = true := by kernel_rfl
theorem ca62 : callable Tryz.prog 62 = true := by kernel_rfl
theorem ca63 : callable Tryz.prog 63 = true := by kernel_rfl
theorem ca64 : callable Tryz.prog 64 = true := by kernel_rfl
theorem ca65 : callable Tryz.prog 65 = true := by kernel_rfl
theorem ca66 : callable Tryz.prog 66 = true := by kernel_rfl
theorem ca67 : callable Tryz.prog 67 = true := by kernel_rfl
theorem ca68 : callable Tryz.prog 68 = true := by kernel_rfl
theorem ca69 : callable Tryz.prog 69 = true := by kernel_rfl
theorem ca70 : callable Tryz.prog 70 = true := by kernel_rfl
theorem ca71 : callable Tryz.prog 71 = true := by kernel_rfl
theorem ca72 : callable Tryz.prog 72 = true := by kernel_rfl
theorem ca73 : callable Tryz.prog 73 = true := by kernel_rfl
theorem ca74 : callable Tryz.prog 74 = true := by kernel_rfl
theorem ca75 : callable Tryz.prog 75 = true := by kernel_rfl
theorem ca76 : callable Tryz.prog 76 = true := by kernel_rfl
theorem ca77 : callable Tryz.prog 77 = true := by kernel_rfl
theorem ca78 : callable Tryz.prog 78 = true := by kernel_rfl
theorem ca79 : callable Tryz.prog 79 = true := by kernel_rfl
theorem ca80 : callable Tryz.prog 80 = true := by kernel_rfl
theorem ca81 : callable Tryz.prog 81 = true := by kernel_rfl
theorem ca82 : callable Tryz.prog 82 = true := by kernel_rfl
theorem ca83 : callable Tryz.prog 83 = true := by kernel_rfl
theorem ca84 : callable Tryz.prog 84 = true := by kernel_rfl
theorem ca85 : callable Tryz.prog 85 = true := by kernel_rfl
theorem ca86 : callable Tryz.prog 86 = true := by kernel_rfl
theorem ca87 : callable Tryz.prog 87 = true := by kernel_rfl
theorem ca88 : callable Tryz.prog 88 = true := by kernel_rfl
theorem ca89 : callable Tryz.prog 89 = true := by kernel_rfl
theorem ca90 : callable Tryz.prog 90 = true := by kernel_rfl
theorem ca91 : callable Tryz.prog 91 = true := by kernel_rfl
theorem ca92 : callable Tryz.prog 92 = true := by kernel_rfl
theorem ca93 : callable Tryz.prog 93 = true := by kernel_rfl
theorem ca94 : callable Tryz.prog 94 = true := by kernel_rfl
theorem ca95 : callable Tryz.prog 95 = true := by kernel_rfl
theorem ca96 : callable Tryz.prog 96 = true := by kernel_rfl
theorem ca97 : callable Tryz.prog 97 = true := by kernel_rfl
theorem ca98 : callable Tryz.prog 98 = true := by kernel_rfl
theorem ca99 : callable Tryz.prog 99 = true := by kernel_rfl
theorem ca100 : callable Tryz.prog 100 = true := by kernel_rfl
theorem ca101 : callable Tryz.prog 101 = true := by kernel_rfl
theorem ca102 : callable Tryz.prog 102 = true := by kernel_rfl
theorem ca103 : callable Tryz.prog 103 = true := by kernel_rfl
theorem ca104 : callable Tryz.prog 104 = true := by kernel_rfl
theorem ca105 : callable Tryz.prog 105 = true := by kernel_rfl
theorem ca106 : callable Tryz.prog 106 = true := by kernel_rfl
theorem ca107 : callable Tryz.prog 107 = true := by kernel_rfl
theorem ca108 : callable Tryz.prog 108 = true := by kernel_rfl
theorem ca109 : callable Tryz.prog 109 = true := by kernel_rfl
theorem ca110 : callable Tryz.prog 110 = true := by kernel_rfl
theorem ca111 : callable Tryz.prog 111 = true := by kernel_rfl
theorem ca112 : callable Tryz.prog 112 = true := by kernel_rfl
theorem ca113 : callable Tryz.prog 113 = true := by kernel_rfl
theorem ca114 : callable Tryz.prog 114 = true := by kernel_rfl
theorem ca115 : callable Tryz.prog 115 = true := by kernel_rfl
theorem ca116 : callable Tryz.prog 116 = true := by kernel_rfl
theorem ca117 : callable Tryz.prog 117 = true := by kernel_rfl
theorem ca118 : callable Tryz.prog 118 = true := by kernel_rfl
theorem ca119 : callable Tryz.prog 119 = true := by kernel_rfl
theorem ca120 : callable Tryz.prog 120 = true := by kernel_rfl
theorem ca121 : callable Tryz.prog 121 = true := by kernel_rfl
theorem ca122 : callable Tryz.prog 122 = true := by kernel_rfl
theorem ca123 : callable Tryz.prog 123 = true := by kernel_rfl
theorem ca124 : callable Tryz.prog 124 = true := by kernel_rfl
theorem ca125 : callable Tryz.prog 125 = true := by kernel_rfl
theorem ca129 : callable Tryz.prog 129 = true := by kernel_rfl
theorem ca131 : callable Tryz.prog 131 = true := by kernel_rfl
theorem ca132 : callable Tryz.prog 132 = true := by kernel_rfl
theorem ca133 : callable Tryz.prog 133 = true := by kernel_rfl
theorem ca134 : callable Tryz.prog 134 = true := by kernel_rfl
theorem ca135 : callable Tryz.prog 135 = true := by kernel_rfl
theorem ca136 : callable Tryz.prog 136 = true := by kernel_rfl
theorem ca137 : callable Tryz.prog 137 = true := by kernel_rfl
theorem ca138 : callable Tryz.prog 138 = true := by kernel_rfl
theorem ca139 : callable Tryz.prog 139 = true := by kernel_rfl
theorem ca140 : callable Tryz.prog 140 = true := by kernel_rfl
theorem ca141 : callable Tryz.prog 141 = true := by kernel_rfl
theorem ca146 : callable Tryz.prog 146 = true := by kernel_rfl
theorem ca147 : callable Tryz.prog 147 = true := by kernel_rfl
theorem ca148 : callable Tryz.prog 148 = true := by kernel_rfl
theorem ca149 : callable Tryz.prog 149 = true := by kernel_rfl
theorem ca150 : callable Tryz.prog 150 = true := by kernel_rfl
theorem ca151 : callable Tryz.prog 151 = true := by kernel_rfl
theorem ca152 : callable Tryz.prog 152 = true := by kernel_rfl
theorem ca153 : callable Tryz.prog 153 = true := by kernel_rfl
theorem ca154 : callable Tryz.prog 154 = true := by kernel_rfl
theorem ca155 : callable Tryz.prog 155 = true := by kernel_rfl
theorem ca156 : callable Tryz.prog 156 = true := by kernel_rfl
theorem ca157 : callable Tryz.prog 157 = true := by kernel_rfl
theorem ca158 : callable Tryz.prog 158 = true := by kernel_rfl
theorem ca159 : callable Tryz.prog 159 = true := by kernel_rfl
theorem ca160 : callable Tryz.prog 160 = true := by kernel_rfl
theorem ca161 : callable Tryz.prog 161 = true := by kernel_rfl
theorem ca162 : callable Tryz.prog 162 = true := by kernel_rfl
theorem ca163 : callable Tryz.prog 163 = true := by kernel_rfl
theorem ca164 : callable Tryz.prog 164 = true := by kernel_rfl
theorem ca189 : callable Tryz.prog 189 = true := by kernel_rfl
theorem ca215 : callable Tryz.prog 215 = true := by kernel_rfl
theorem mixed : Tryz.prog.follows .mixedOrders = true := by kernel_rfl
end Go.Proofs.YtneaancanfpdhaaGreatDoor
