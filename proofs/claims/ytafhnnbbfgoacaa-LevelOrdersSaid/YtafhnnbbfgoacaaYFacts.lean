/-
  What is proved here: facts of the seat's types and functions, as the rules ask for them.
-/
import Derived.Test.YtafhnnbbfgoacaaY17
import Derived.Test.YtafhnnbbfgoacaaRows
import Derived.KernelRfl
namespace Go.Proofs.Ytafhnnbbfgoacaa
open Go Go.Vd
theorem uo0 : (Try.prog.underlying 0).isSome = true := by kernel_rfl
theorem ti1 : tiOf Try.prog 1 = ⟨true, 1, false, [], false, [.nilFunc], true, 0, none, [.any]⟩ := by kernel_rfl
theorem uo1 : (Try.prog.underlying 1).isSome = true := by kernel_rfl
theorem ti2 : tiOf Try.prog 2 = ⟨true, 1, false, [], false, [.int .i64 0], true, 0, none, [.int .i64]⟩ := by kernel_rfl
theorem ui2 : Try.prog.underlying 2 = some (.int .i64) := by kernel_rfl
theorem uo2 : (Try.prog.underlying 2).isSome = true := by kernel_rfl
theorem ti3 : tiOf Try.prog 3 = ⟨true, 1, false, [], false, [.int .i64 0], true, 0, none, [.int .i64]⟩ := by kernel_rfl
theorem ui3 : Try.prog.underlying 3 = some (.int .i64) := by kernel_rfl
theorem uo3 : (Try.prog.underlying 3).isSome = true := by kernel_rfl
theorem ti4 : tiOf Try.prog 4 = ⟨true, 1, false, [], false, [.bool false], true, 0, none, [.bool]⟩ := by kernel_rfl
theorem ub4 : Try.prog.underlying 4 = some .bool := by kernel_rfl
theorem uo4 : (Try.prog.underlying 4).isSome = true := by kernel_rfl
theorem ti5 : tiOf Try.prog 5 = ⟨true, 1, false, [], false, [.int .u8 0], true, 0, none, [.int .u8]⟩ := by kernel_rfl
theorem ui5 : Try.prog.underlying 5 = some (.int .u8) := by kernel_rfl
theorem uo5 : (Try.prog.underlying 5).isSome = true := by kernel_rfl
theorem ti6 : tiOf Try.prog 6 = ⟨true, 1, false, [], false, [.int .u8 0], true, 0, none, [.int .u8]⟩ := by kernel_rfl
theorem ui6 : Try.prog.underlying 6 = some (.int .u8) := by kernel_rfl
theorem uo6 : (Try.prog.underlying 6).isSome = true := by kernel_rfl
theorem ti7 : tiOf Try.prog 7 = ⟨true, 4, true, [(0, 1, false), (1, 1, false), (2, 1, false), (3, 1, false)], true, [.int .i64 0, .int .i64 0, .bool false, .int .u8 0], true, 0, none, [.int .i64, .int .i64, .bool, .int .u8]⟩ := by kernel_rfl
theorem uo7 : (Try.prog.underlying 7).isSome = true := by kernel_rfl
theorem ti8 : tiOf Try.prog 8 = ⟨true, 4, true, [(0, 1, false), (1, 1, false), (2, 1, false), (3, 1, false)], true, [.int .i64 0, .int .i64 0, .bool false, .int .u8 0], true, 0, none, [.int .i64, .int .i64, .bool, .int .u8]⟩ := by kernel_rfl
theorem uo8 : (Try.prog.underlying 8).isSome = true := by kernel_rfl
theorem ti9 : tiOf Try.prog 9 = ⟨true, 1, false, [], false, [.string .empty], true, 0, none, [.str]⟩ := by kernel_rfl
theorem ut9 : Try.prog.underlying 9 = some .string := by kernel_rfl
theorem uo9 : (Try.prog.underlying 9).isSome = true := by kernel_rfl
theorem ti10 : tiOf Try.prog 10 = ⟨true, 1, false, [], false, [.string .empty], true, 0, none, [.str]⟩ := by kernel_rfl
theorem ut10 : Try.prog.underlying 10 = some .string := by kernel_rfl
theorem uo10 : (Try.prog.underlying 10).isSome = true := by kernel_rfl
theorem ti11 : tiOf Try.prog 11 = ⟨true, 1, false, [], false, [.string .empty], true, 0, none, [.str]⟩ := by kernel_rfl
theorem ut11 : Try.prog.underlying 11 = some .string := by kernel_rfl
theorem uo11 : (Try.prog.underlying 11).isSome = true := by kernel_rfl
theorem ti12 : tiOf Try.prog 12 = ⟨true, 1, false, [], false, [.int .u64 0], true, 0, none, [.int .u64]⟩ := by kernel_rfl
theorem ui12 : Try.prog.underlying 12 = some (.int .u64) := by kernel_rfl
theorem uo12 : (Try.prog.underlying 12).isSome = true := by kernel_rfl
theorem ti13 : tiOf Try.prog 13 = ⟨true, 2, true, [(0, 1, false), (1, 1, false)], true, [.string .empty, .int .u64 0], true, 0, none, [.str, .int .u64]⟩ := by kernel_rfl
theorem uo13 : (Try.prog.underlying 13).isSome = true := by kernel_rfl
theorem ti14 : tiOf Try.prog 14 = ⟨true, 2, true, [(0, 1, false), (1, 1, false)], true, [.string .empty, .int .u64 0], true, 0, none, [.str, .int .u64]⟩ := by kernel_rfl
theorem uo14 : (Try.prog.underlying 14).isSome = true := by kernel_rfl
theorem ti15 : tiOf Try.prog 15 = ⟨true, 1, false, [], false, [.pointer none], true, 64, none, [.ptr]⟩ := by kernel_rfl
theorem up15 : Try.prog.underlying 15 = some (.pointer 64) := by kernel_rfl
theorem uo15 : (Try.prog.underlying 15).isSome = true := by kernel_rfl
theorem ti16 : tiOf Try.prog 16 = ⟨true, 1, false, [], false, [.pointer none], true, 67, none, [.ptr]⟩ := by kernel_rfl
theorem up16 : Try.prog.underlying 16 = some (.pointer 67) := by kernel_rfl
theorem uo16 : (Try.prog.underlying 16).isSome = true := by kernel_rfl
theorem ti17 : tiOf Try.prog 17 = ⟨true, 1, false, [], false, [.pointer none], true, 77, none, [.ptr]⟩ := by kernel_rfl
theorem up17 : Try.prog.underlying 17 = some (.pointer 77) := by kernel_rfl
theorem uo17 : (Try.prog.underlying 17).isSome = true := by kernel_rfl
theorem ti18 : tiOf Try.prog 18 = ⟨true, 1, true, [(0, 1, false)], true, [.pointer none], true, 0, none, [.ptr]⟩ := by kernel_rfl
theorem uo18 : (Try.prog.underlying 18).isSome = true := by kernel_rfl
theorem ti19 : tiOf Try.prog 19 = ⟨true, 1, true, [(0, 1, false)], true, [.pointer none], true, 0, none, [.ptr]⟩ := by kernel_rfl
theorem uo19 : (Try.prog.underlying 19).isSome = true := by kernel_rfl
theorem ti20 : tiOf Try.prog 20 = ⟨true, 1, false, [], false, [.nilIface], true, 0, none, [.any]⟩ := by kernel_rfl
theorem ii20 : isIfc Try.prog 20 = true := by kernel_rfl
theorem uo20 : (Try.prog.underlying 20).isSome = true := by kernel_rfl
theorem ti21 : tiOf Try.prog 21 = ⟨true, 1, false, [], false, [.int .i32 0], true, 0, none, [.int .i32]⟩ := by kernel_rfl
theorem ui21 : Try.prog.underlying 21 = some (.int .i32) := by kernel_rfl
theorem uo21 : (Try.prog.underlying 21).isSome = true := by kernel_rfl
theorem ti22 : tiOf Try.prog 22 = ⟨true, 1, false, [], false, [.slice none 0 0], true, 25, none, [.slice]⟩ := by kernel_rfl
theorem us22 : Try.prog.underlying 22 = some (.slice (tiOf Try.prog 22).elem) := by kernel_rfl
theorem te22 : tiOf Try.prog (tiOf Try.prog 22).elem = ⟨true, 6, true, [(0, 1, false), (1, 1, false), (2, 1, false), (3, 1, false), (4, 1, false), (5, 1, false)], true, [.int .i64 0, .string .empty, .string .empty, .string .empty, .int .i64 0, .int .i64 0], true, 0, none, [.int .i64, .str, .str, .str, .int .i64, .int .i64]⟩ := by kernel_rfl
theorem sl22 : SlTy Try.prog 22 25 6 72 := ⟨by kernel_rfl, by kernel_rfl, by kernel_rfl⟩
theorem uo22 : (Try.prog.underlying 22).isSome = true := by kernel_rfl
theorem ti23 : tiOf Try.prog 23 = ⟨true, 1, false, [], false, [.nilFunc], true, 0, none, [.any]⟩ := by kernel_rfl
theorem uo23 : (Try.prog.underlying 23).isSome = true := by kernel_rfl
theorem ti24 : tiOf Try.prog 24 = ⟨true, 6, true, [(0, 1, false), (1, 1, false), (2, 1, false), (3, 1, false), (4, 1, false), (5, 1, false)], true, [.int .i64 0, .string .empty, .string .empty, .string .empty, .int .i64 0, .int .i64 0], true, 0, none, [.int .i64, .str, .str, .str, .int .i64, .int .i64]⟩ := by kernel_rfl
theorem uo24 : (Try.prog.underlying 24).isSome = true := by kernel_rfl
theorem ti25 : tiOf Try.prog 25 = ⟨true, 6, true, [(0, 1, false), (1, 1, false), (2, 1, false), (3, 1, false), (4, 1, false), (5, 1, false)], true, [.int .i64 0, .string .empty, .string .empty, .string .empty, .int .i64 0, .int .i64 0], true, 0, none, [.int .i64, .str, .str, .str, .int .i64, .int .i64]⟩ := by kernel_rfl
theorem uo25 : (Try.prog.underlying 25).isSome = true := by kernel_rfl
theorem ti26 : tiOf Try.prog 26 = ⟨true, 1, false, [], false, [.nilFunc], true, 0, none, [.any]⟩ := by kernel_rfl
theorem uo26 : (Try.prog.underlying 26).isSome = true := by kernel_rfl
theorem ti27 : tiOf Try.prog 27 = ⟨true, 1, false, [], false, [.slice none 0 0], true, 29, none, [.slice]⟩ := by kernel_rfl
theorem us27 : Try.prog.underlying 27 = some (.slice (tiOf Try.prog 27).elem) := by kernel_rfl
theorem te27 : tiOf Try.prog (tiOf Try.prog 27).elem = ⟨true, 3, true, [(0, 1, false), (1, 1, false), (2, 1, false)], true, [.int .i64 0, .string .empty, .slice none 0 0], true, 0, none, [.int .i64, .str, .slice]⟩ := by kernel_rfl
theorem sl27 : SlTy Try.prog 27 29 3 48 := ⟨by kernel_rfl, by kernel_rfl, by kernel_rfl⟩
theorem uo27 : (Try.prog.underlying 27).isSome = true := by kernel_rfl
theorem ti28 : tiOf Try.prog 28 = ⟨true, 3, true, [(0, 1, false), (1, 1, false), (2, 1, false)], true, [.int .i64 0, .string .empty, .slice none 0 0], true, 0, none, [.int .i64, .str, .slice]⟩ := by kernel_rfl
theorem uo28 : (Try.prog.underlying 28).isSome = true := by kernel_rfl
theorem ti29 : tiOf Try.prog 29 = ⟨true, 3, true, [(0, 1, false), (1, 1, false), (2, 1, false)], true, [.int .i64 0, .string .empty, .slice none 0 0], true, 0, none, [.int .i64, .str, .slice]⟩ := by kernel_rfl
theorem uo29 : (Try.prog.underlying 29).isSome = true := by kernel_rfl
theorem ti30 : tiOf Try.prog 30 = ⟨true, 2, true, [(0, 1, false), (1, 1, false)], true, [.int .i64 0, .int .i64 0], true, 0, none, [.int .i64, .int .i64]⟩ := by kernel_rfl
theorem uo30 : (Try.prog.underlying 30).isSome = true := by kernel_rfl
theorem ti31 : tiOf Try.prog 31 = ⟨true, 2, true, [(0, 1, false), (1, 1, false)], true, [.int .i64 0, .int .i64 0], true, 0, none, [.int .i64, .int .i64]⟩ := by kernel_rfl
theorem uo31 : (Try.prog.underlying 31).isSome = true := by kernel_rfl
theorem uo32 : (Try.prog.underlying 32).isSome = true := by kernel_rfl
theorem ti33 : tiOf Try.prog 33 = ⟨true, 1, false, [], false, [.nilFunc], true, 0, none, [.any]⟩ := by kernel_rfl
theorem uo33 : (Try.prog.underlying 33).isSome = true := by kernel_rfl
theorem ti34 : tiOf Try.prog 34 = ⟨true, 1, false, [], false, [.slice none 0 0], true, 9, none, [.slice]⟩ := by kernel_rfl
theorem us34 : Try.prog.underlying 34 = some (.slice (tiOf Try.prog 34).elem) := by kernel_rfl
theorem te34 : tiOf Try.prog (tiOf Try.prog 34).elem = ⟨true, 1, false, [], false, [.string .empty], true, 0, none, [.str]⟩ := by kernel_rfl
theorem sl34 : SlTy Try.prog 34 9 1 16 := ⟨by kernel_rfl, by kernel_rfl, by kernel_rfl⟩
theorem uo34 : (Try.prog.underlying 34).isSome = true := by kernel_rfl
theorem ti35 : tiOf Try.prog 35 = ⟨true, 1, false, [], false, [.nilFunc], true, 0, none, [.any]⟩ := by kernel_rfl
theorem uo35 : (Try.prog.underlying 35).isSome = true := by kernel_rfl
theorem ti36 : tiOf Try.prog 36 = ⟨true, 1, false, [], false, [.nilFunc], true, 0, none, [.any]⟩ := by kernel_rfl
theorem uo36 : (Try.prog.underlying 36).isSome = true := by kernel_rfl
theorem ti37 : tiOf Try.prog 37 = ⟨true, 1, false, [], false, [.pointer none], true, 39, none, [.ptr]⟩ := by kernel_rfl
theorem up37 : Try.prog.underlying 37 = some (.pointer 39) := by kernel_rfl
theorem uo37 : (Try.prog.underlying 37).isSome = true := by kernel_rfl
theorem ti38 : tiOf Try.prog 38 = ⟨true, 4, true, [(0, 1, false), (1, 1, false), (2, 2, true)], true, [.string .empty, .int .i64 0, .int .i64 0, .int .i64 0], true, 0, none, [.str, .int .i64, .int .i64, .int .i64]⟩ := by kernel_rfl
theorem uo38 : (Try.prog.underlying 38).isSome = true := by kernel_rfl
theorem ti39 : tiOf Try.prog 39 = ⟨true, 4, true, [(0, 1, false), (1, 1, false), (2, 2, true)], true, [.string .empty, .int .i64 0, .int .i64 0, .int .i64 0], true, 0, none, [.str, .int .i64, .int .i64, .int .i64]⟩ := by kernel_rfl
theorem uo39 : (Try.prog.underlying 39).isSome = true := by kernel_rfl
theorem ti40 : tiOf Try.prog 40 = ⟨true, 1, false, [], false, [.nilFunc], true, 0, none, [.any]⟩ := by kernel_rfl
theorem uo40 : (Try.prog.underlying 40).isSome = true := by kernel_rfl
theorem ti41 : tiOf Try.prog 41 = ⟨true, 1, false, [], false, [.nilFunc], true, 0, none, [.any]⟩ := by kernel_rfl
theorem uo41 : (Try.prog.underlying 41).isSome = true := by kernel_rfl
theorem ti42 : tiOf Try.prog 42 = ⟨true, 1, false, [], false, [.nilFunc], true, 0, none, [.any]⟩ := by kernel_rfl
theorem uo42 : (Try.prog.underlying 42).isSome = true := by kernel_rfl
theorem ti43 : tiOf Try.prog 43 = ⟨true, 1, false, [], false, [.nilFunc], true, 0, none, [.any]⟩ := by kernel_rfl
theorem uo43 : (Try.prog.underlying 43).isSome = true := by kernel_rfl
theorem ti44 : tiOf Try.prog 44 = ⟨true, 1, false, [], false, [.map none], true, 0, none, [.map]⟩ := by kernel_rfl
theorem mt44 : MapTy Try.prog 44 9 3 := ⟨by kernel_rfl, by kernel_rfl, by kernel_rfl⟩
theorem uo44 : (Try.prog.underlying 44).isSome = true := by kernel_rfl
theorem ti45 : tiOf Try.prog 45 = ⟨true, 1, false, [], false, [.nilFunc], true, 0, none, [.any]⟩ := by kernel_rfl
theorem uo45 : (Try.prog.underlying 45).isSome = true := by kernel_rfl
theorem ti46 : tiOf Try.prog 46 = ⟨true, 1, false, [], false, [.slice none 0 0], true, 3, none, [.slice]⟩ := by kernel_rfl
theorem us46 : Try.prog.underlying 46 = some (.slice (tiOf Try.prog 46).elem) := by kernel_rfl
theorem te46 : tiOf Try.prog (tiOf Try.prog 46).elem = ⟨true, 1, false, [], false, [.int .i64 0], true, 0, none, [.int .i64]⟩ := by kernel_rfl
theorem sl46 : SlTy Try.prog 46 3 1 8 := ⟨by kernel_rfl, by kernel_rfl, by kernel_rfl⟩
theorem uo46 : (Try.prog.underlying 46).isSome = true := by kernel_rfl
theorem ti47 : tiOf Try.prog 47 = ⟨true, 1, false, [], false, [.nilFunc], true, 0, none, [.any]⟩ := by kernel_rfl
theorem uo47 : (Try.prog.underlying 47).isSome = true := by kernel_rfl
theorem uo48 : (Try.prog.underlying 48).isSome = true := by kernel_rfl
theorem ti49 : tiOf Try.prog 49 = ⟨true, 1, false, [], false, [.nilFunc], true, 0, none, [.any]⟩ := by kernel_rfl
theorem uo49 : (Try.prog.underlying 49).isSome = true := by kernel_rfl
theorem ti50 : tiOf Try.prog 50 = ⟨true, 1, false, [], false, [.nilFunc], true, 0, none, [.any]⟩ := by kernel_rfl
theorem uo50 : (Try.prog.underlying 50).isSome = true := by kernel_rfl
theorem ti51 : tiOf Try.prog 51 = ⟨true, 1, false, [], false, [.nilFunc], true, 0, none, [.any]⟩ := by kernel_rfl
theorem uo51 : (Try.prog.underlying 51).isSome = true := by kernel_rfl
theorem ti52 : tiOf Try.prog 52 = ⟨true, 1, false, [], false, [.nilFunc], true, 0, none, [.any]⟩ := by kernel_rfl
theorem uo52 : (Try.prog.underlying 52).isSome = true := by kernel_rfl
theorem ti53 : tiOf Try.prog 53 = ⟨true, 1, false, [], false, [.nilFunc], true, 0, none, [.any]⟩ := by kernel_rfl
theorem uo53 : (Try.prog.underlying 53).isSome = true := by kernel_rfl
theorem ti54 : tiOf Try.prog 54 = ⟨true, 2, true, [(0, 1, false), (1, 1, false)], true, [.int .i64 0, .map none], true, 0, none, [.int .i64, .map]⟩ := by kernel_rfl
theorem uo54 : (Try.prog.underlying 54).isSome = true := by kernel_rfl
theorem ti55 : tiOf Try.prog 55 = ⟨true, 2, true, [(0, 1, false), (1, 1, false)], true, [.int .i64 0, .map none], true, 0, none, [.int .i64, .map]⟩ := by kernel_rfl
theorem uo55 : (Try.prog.underlying 55).isSome = true := by kernel_rfl
theorem uo56 : (Try.prog.underlying 56).isSome = true := by kernel_rfl
theorem ti57 : tiOf Try.prog 57 = ⟨true, 1, false, [], false, [.nilFunc], true, 0, none, [.any]⟩ := by kernel_rfl
theorem uo57 : (Try.prog.underlying 57).isSome = true := by kernel_rfl
theorem ti58 : tiOf Try.prog 58 = ⟨true, 1, false, [], false, [.nilFunc], true, 0, none, [.any]⟩ := by kernel_rfl
theorem uo58 : (Try.prog.underlying 58).isSome = true := by kernel_rfl
theorem ti59 : tiOf Try.prog 59 = ⟨true, 1, false, [], false, [.nilFunc], true, 0, none, [.any]⟩ := by kernel_rfl
theorem uo59 : (Try.prog.underlying 59).isSome = true := by kernel_rfl
theorem ti60 : tiOf Try.prog 60 = ⟨true, 1, false, [], false, [.nilFunc], true, 0, none, [.any]⟩ := by kernel_rfl
theorem uo60 : (Try.prog.underlying 60).isSome = true := by kernel_rfl
theorem uo61 : (Try.prog.underlying 61).isSome = true := by kernel_rfl
theorem ti62 : tiOf Try.prog 62 = ⟨true, 1, false, [], false, [.pointer none], true, 55, none, [.ptr]⟩ := by kernel_rfl
theorem up62 : Try.prog.underlying 62 = some (.pointer 55) := by kernel_rfl
theorem uo62 : (Try.prog.underlying 62).isSome = true := by kernel_rfl
theorem ti63 : tiOf Try.prog 63 = ⟨true, 4, true, [(0, 1, false), (1, 1, false), (2, 1, false), (3, 1, false)], true, [.pointer none, .pointer none, .pointer none, .string .empty], true, 0, none, [.ptr, .ptr, .ptr, .str]⟩ := by kernel_rfl
theorem uo63 : (Try.prog.underlying 63).isSome = true := by kernel_rfl
theorem ti64 : tiOf Try.prog 64 = ⟨true, 4, true, [(0, 1, false), (1, 1, false), (2, 1, false), (3, 1, false)], true, [.pointer none, .pointer none, .pointer none, .string .empty], true, 0, none, [.ptr, .ptr, .ptr, .str]⟩ := by kernel_rfl
theorem uo64 : (Try.prog.underlying 64).isSome = true := by kernel_rfl
theorem ti65 : tiOf Try.prog 65 = ⟨true, 0, true, [], false, [], true, 16, none, []⟩ := by kernel_rfl
theorem ua65 : Try.prog.underlying 65 = some (.array 0 16) := by kernel_rfl
theorem uo65 : (Try.prog.underlying 65).isSome = true := by kernel_rfl
theorem ti66 : tiOf Try.prog 66 = ⟨true, 0, true, [(0, 0, true)], true, [], true, 0, none, []⟩ := by kernel_rfl
theorem uo66 : (Try.prog.underlying 66).isSome = true := by kernel_rfl
theorem ti67 : tiOf Try.prog 67 = ⟨true, 0, true, [(0, 0, true)], true, [], true, 0, none, []⟩ := by kernel_rfl
theorem uo67 : (Try.prog.underlying 67).isSome = true := by kernel_rfl
theorem ti68 : tiOf Try.prog 68 = ⟨true, 1, false, [], false, [.nilFunc], true, 0, none, [.any]⟩ := by kernel_rfl
theorem uo68 : (Try.prog.underlying 68).isSome = true := by kernel_rfl
theorem ti69 : tiOf Try.prog 69 = ⟨true, 1, false, [], false, [.int .u32 0], true, 0, none, [.int .u32]⟩ := by kernel_rfl
theorem ui69 : Try.prog.underlying 69 = some (.int .u32) := by kernel_rfl
theorem uo69 : (Try.prog.underlying 69).isSome = true := by kernel_rfl
theorem ti70 : tiOf Try.prog 70 = ⟨true, 1, false, [], false, [.int .u8 0], true, 0, none, [.int .u8]⟩ := by kernel_rfl
theorem ui70 : Try.prog.underlying 70 = some (.int .u8) := by kernel_rfl
theorem uo70 : (Try.prog.underlying 70).isSome = true := by kernel_rfl
theorem ti71 : tiOf Try.prog 71 = ⟨true, 1, false, [], false, [.int .u8 0], true, 0, none, [.int .u8]⟩ := by kernel_rfl
theorem ui71 : Try.prog.underlying 71 = some (.int .u8) := by kernel_rfl
theorem uo71 : (Try.prog.underlying 71).isSome = true := by kernel_rfl
theorem ti72 : tiOf Try.prog 72 = ⟨true, 1, false, [], false, [.nilFunc], true, 0, none, [.any]⟩ := by kernel_rfl
theorem uo72 : (Try.prog.underlying 72).isSome = true := by kernel_rfl
theorem ti73 : tiOf Try.prog 73 = ⟨true, 1, false, [], false, [.pointer none], true, 5, none, [.ptr]⟩ := by kernel_rfl
theorem up73 : Try.prog.underlying 73 = some (.pointer 5) := by kernel_rfl
theorem uo73 : (Try.prog.underlying 73).isSome = true := by kernel_rfl
theorem ti74 : tiOf Try.prog 74 = ⟨true, 1, false, [], false, [.int .i32 0], true, 0, none, [.int .i32]⟩ := by kernel_rfl
theorem ui74 : Try.prog.underlying 74 = some (.int .i32) := by kernel_rfl
theorem uo74 : (Try.prog.underlying 74).isSome = true := by kernel_rfl
theorem ti75 : tiOf Try.prog 75 = ⟨true, 1, false, [], false, [.int .i32 0], true, 0, none, [.int .i32]⟩ := by kernel_rfl
theorem ui75 : Try.prog.underlying 75 = some (.int .i32) := by kernel_rfl
theorem uo75 : (Try.prog.underlying 75).isSome = true := by kernel_rfl
theorem ti76 : tiOf Try.prog 76 = ⟨true, 11, true, [(0, 1, false), (1, 1, false), (2, 1, false), (3, 1, false), (4, 1, false), (5, 1, false), (6, 1, false), (7, 1, false), (8, 1, false), (9, 1, false), (10, 1, false)], true, [.int .u64 0, .int .u64 0, .int .u32 0, .int .u8 0, .int .u8 0, .int .u8 0, .int .u8 0, .nilFunc, .pointer none, .int .i32 0, .int .i32 0], true, 0, none, [.int .u64, .int .u64, .int .u32, .int .u8, .int .u8, .int .u8, .int .u8, .any, .ptr, .int .i32, .int .i32]⟩ := by kernel_rfl
theorem uo76 : (Try.prog.underlying 76).isSome = true := by kernel_rfl
theorem ti77 : tiOf Try.prog 77 = ⟨true, 11, true, [(0, 1, false), (1, 1, false), (2, 1, false), (3, 1, false), (4, 1, false), (5, 1, false), (6, 1, false), (7, 1, false), (8, 1, false), (9, 1, false), (10, 1, false)], true, [.int .u64 0, .int .u64 0, .int .u32 0, .int .u8 0, .int .u8 0, .int .u8 0, .int .u8 0, .nilFunc, .pointer none, .int .i32 0, .int .i32 0], true, 0, none, [.int .u64, .int .u64, .int .u32, .int .u8, .int .u8, .int .u8, .int .u8, .any, .ptr, .int .i32, .int .i32]⟩ := by kernel_rfl
theorem uo77 : (Try.prog.underlying 77).isSome = true := by kernel_rfl
theorem ti78 : tiOf Try.prog 78 = ⟨true, 1, false, [], false, [.pointer none], true, 0, none, [.any]⟩ := by kernel_rfl
theorem uu78 : Try.prog.underlying 78 = some .unsafePointer := by kernel_rfl
theorem uo78 : (Try.prog.underlying 78).isSome = true := by kernel_rfl
theorem ca2 : callable Try.prog 2 = true := by kernel_rfl
theorem ca3 : callable Try.prog 3 = true := by kernel_rfl
theorem ca4 : callable Try.prog 4 = true := by kernel_rfl
theorem ca5 : callable Try.prog 5 = true := by kernel_rfl
theorem ca6 : callable Try.prog 6 = true := by kernel_rfl
theorem ca7 : callable Try.prog 7 = true := by kernel_rfl
theorem ca8 : callable Try.prog 8 = true := by kernel_rfl
theorem ca9 : callable Try.prog 9 = true := by kernel_rfl
theorem ca10 : callable Try.prog 10 = true := by kernel_rfl
theorem ca11 : callable Try.prog 11 = true := by kernel_rfl
theorem ca12 : callable Try.prog 12 = true := by kernel_rfl
theorem ca13 : callable Try.prog 13 = true := by kernel_rfl
theorem ca14 : callable Try.prog 14 = true := by kernel_rfl
theorem ca15 : callable Try.prog 15 = true := by kernel_rfl
theorem ca16 : callable Try.prog 16 = true := by kernel_rfl
theorem ca17 : callable Try.prog 17 = true := by kernel_rfl
theorem ca18 : callable Try.prog 18 = true := by kernel_rfl
theorem ca19 : callable Try.prog 19 = true := by kernel_rfl
theorem ca20 : callable Try.prog 20 = true := by kernel_rfl
theorem ca21 : callable Try.prog 21 = true := by kernel_rfl
theorem ca22 : callable Try.prog 22 = true := by kernel_rfl
theorem ca23 : callable Try.prog 23 = true := by kernel_rfl
theorem ca24 : callable Try.prog 24 = true := by kernel_rfl
theorem ca25 : callable Try.prog 25 = true := by kernel_rfl
theorem mixed : Try.prog.follows .mixedOrders = true := by kernel_rfl
end Go.Proofs.Ytafhnnbbfgoacaa
