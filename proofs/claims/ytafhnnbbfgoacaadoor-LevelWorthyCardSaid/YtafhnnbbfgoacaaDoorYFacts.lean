/-
  What is proved here: facts of the seat's types and functions, as the rules ask for them.
-/
import Derived.Test.YtafhnnbbfgoacaaDoorY17
import Derived.Test.YtafhnnbbfgoacaaDoorRows
import Derived.KernelRfl
namespace Go.Proofs.YtafhnnbbfgoacaaDoor
open Go Go.Vd
theorem uo0 : (Tryd.prog.underlying 0).isSome = true := by kernel_rfl
theorem ti1 : tiOf Tryd.prog 1 = ⟨true, 1, false, [], false, [.nilFunc], true, 0, none, [.any]⟩ := by kernel_rfl
theorem uo1 : (Tryd.prog.underlying 1).isSome = true := by kernel_rfl
theorem ti2 : tiOf Tryd.prog 2 = ⟨true, 1, false, [], false, [.int .i64 0], true, 0, none, [.int .i64]⟩ := by kernel_rfl
theorem ui2 : Tryd.prog.underlying 2 = some (.int .i64) := by kernel_rfl
theorem uo2 : (Tryd.prog.underlying 2).isSome = true := by kernel_rfl
theorem ti3 : tiOf Tryd.prog 3 = ⟨true, 1, false, [], false, [.int .i64 0], true, 0, none, [.int .i64]⟩ := by kernel_rfl
theorem ui3 : Tryd.prog.underlying 3 = some (.int .i64) := by kernel_rfl
theorem uo3 : (Tryd.prog.underlying 3).isSome = true := by kernel_rfl
theorem ti4 : tiOf Tryd.prog 4 = ⟨true, 1, false, [], false, [.bool false], true, 0, none, [.bool]⟩ := by kernel_rfl
theorem ub4 : Tryd.prog.underlying 4 = some .bool := by kernel_rfl
theorem uo4 : (Tryd.prog.underlying 4).isSome = true := by kernel_rfl
theorem ti5 : tiOf Tryd.prog 5 = ⟨true, 1, false, [], false, [.int .u8 0], true, 0, none, [.int .u8]⟩ := by kernel_rfl
theorem ui5 : Tryd.prog.underlying 5 = some (.int .u8) := by kernel_rfl
theorem uo5 : (Tryd.prog.underlying 5).isSome = true := by kernel_rfl
theorem ti6 : tiOf Tryd.prog 6 = ⟨true, 1, false, [], false, [.int .u8 0], true, 0, none, [.int .u8]⟩ := by kernel_rfl
theorem ui6 : Tryd.prog.underlying 6 = some (.int .u8) := by kernel_rfl
theorem uo6 : (Tryd.prog.underlying 6).isSome = true := by kernel_rfl
theorem ti7 : tiOf Tryd.prog 7 = ⟨true, 4, true, [(0, 1, false), (1, 1, false), (2, 1, false), (3, 1, false)], true, [.int .i64 0, .int .i64 0, .bool false, .int .u8 0], true, 0, none, [.int .i64, .int .i64, .bool, .int .u8]⟩ := by kernel_rfl
theorem uo7 : (Tryd.prog.underlying 7).isSome = true := by kernel_rfl
theorem ti8 : tiOf Tryd.prog 8 = ⟨true, 4, true, [(0, 1, false), (1, 1, false), (2, 1, false), (3, 1, false)], true, [.int .i64 0, .int .i64 0, .bool false, .int .u8 0], true, 0, none, [.int .i64, .int .i64, .bool, .int .u8]⟩ := by kernel_rfl
theorem uo8 : (Tryd.prog.underlying 8).isSome = true := by kernel_rfl
theorem ti9 : tiOf Tryd.prog 9 = ⟨true, 1, false, [], false, [.string .empty], true, 0, none, [.str]⟩ := by kernel_rfl
theorem ut9 : Tryd.prog.underlying 9 = some .string := by kernel_rfl
theorem uo9 : (Tryd.prog.underlying 9).isSome = true := by kernel_rfl
theorem ti10 : tiOf Tryd.prog 10 = ⟨true, 1, false, [], false, [.string .empty], true, 0, none, [.str]⟩ := by kernel_rfl
theorem ut10 : Tryd.prog.underlying 10 = some .string := by kernel_rfl
theorem uo10 : (Tryd.prog.underlying 10).isSome = true := by kernel_rfl
theorem ti11 : tiOf Tryd.prog 11 = ⟨true, 1, false, [], false, [.string .empty], true, 0, none, [.str]⟩ := by kernel_rfl
theorem ut11 : Tryd.prog.underlying 11 = some .string := by kernel_rfl
theorem uo11 : (Tryd.prog.underlying 11).isSome = true := by kernel_rfl
theorem ti12 : tiOf Tryd.prog 12 = ⟨true, 1, false, [], false, [.int .u64 0], true, 0, none, [.int .u64]⟩ := by kernel_rfl
theorem ui12 : Tryd.prog.underlying 12 = some (.int .u64) := by kernel_rfl
theorem uo12 : (Tryd.prog.underlying 12).isSome = true := by kernel_rfl
theorem ti13 : tiOf Tryd.prog 13 = ⟨true, 2, true, [(0, 1, false), (1, 1, false)], true, [.string .empty, .int .u64 0], true, 0, none, [.str, .int .u64]⟩ := by kernel_rfl
theorem uo13 : (Tryd.prog.underlying 13).isSome = true := by kernel_rfl
theorem ti14 : tiOf Tryd.prog 14 = ⟨true, 2, true, [(0, 1, false), (1, 1, false)], true, [.string .empty, .int .u64 0], true, 0, none, [.str, .int .u64]⟩ := by kernel_rfl
theorem uo14 : (Tryd.prog.underlying 14).isSome = true := by kernel_rfl
theorem ti15 : tiOf Tryd.prog 15 = ⟨true, 1, false, [], false, [.pointer none], true, 127, none, [.ptr]⟩ := by kernel_rfl
theorem up15 : Tryd.prog.underlying 15 = some (.pointer 127) := by kernel_rfl
theorem uo15 : (Tryd.prog.underlying 15).isSome = true := by kernel_rfl
theorem ti16 : tiOf Tryd.prog 16 = ⟨true, 1, false, [], false, [.pointer none], true, 130, none, [.ptr]⟩ := by kernel_rfl
theorem up16 : Tryd.prog.underlying 16 = some (.pointer 130) := by kernel_rfl
theorem uo16 : (Tryd.prog.underlying 16).isSome = true := by kernel_rfl
theorem ti17 : tiOf Tryd.prog 17 = ⟨true, 1, false, [], false, [.pointer none], true, 139, none, [.ptr]⟩ := by kernel_rfl
theorem up17 : Tryd.prog.underlying 17 = some (.pointer 139) := by kernel_rfl
theorem uo17 : (Tryd.prog.underlying 17).isSome = true := by kernel_rfl
theorem ti18 : tiOf Tryd.prog 18 = ⟨true, 1, true, [(0, 1, false)], true, [.pointer none], true, 0, none, [.ptr]⟩ := by kernel_rfl
theorem uo18 : (Tryd.prog.underlying 18).isSome = true := by kernel_rfl
theorem ti19 : tiOf Tryd.prog 19 = ⟨true, 1, true, [(0, 1, false)], true, [.pointer none], true, 0, none, [.ptr]⟩ := by kernel_rfl
theorem uo19 : (Tryd.prog.underlying 19).isSome = true := by kernel_rfl
theorem ti20 : tiOf Tryd.prog 20 = ⟨true, 1, false, [], false, [.nilIface], true, 0, none, [.any]⟩ := by kernel_rfl
theorem ii20 : isIfc Tryd.prog 20 = true := by kernel_rfl
theorem uo20 : (Tryd.prog.underlying 20).isSome = true := by kernel_rfl
theorem ti21 : tiOf Tryd.prog 21 = ⟨true, 1, false, [], false, [.int .i32 0], true, 0, none, [.int .i32]⟩ := by kernel_rfl
theorem ui21 : Tryd.prog.underlying 21 = some (.int .i32) := by kernel_rfl
theorem uo21 : (Tryd.prog.underlying 21).isSome = true := by kernel_rfl
theorem ti22 : tiOf Tryd.prog 22 = ⟨true, 1, false, [], false, [.slice none 0 0], true, 25, none, [.slice]⟩ := by kernel_rfl
theorem us22 : Tryd.prog.underlying 22 = some (.slice (tiOf Tryd.prog 22).elem) := by kernel_rfl
theorem te22 : tiOf Tryd.prog (tiOf Tryd.prog 22).elem = ⟨true, 6, true, [(0, 1, false), (1, 1, false), (2, 1, false), (3, 1, false), (4, 1, false), (5, 1, false)], true, [.int .i64 0, .string .empty, .string .empty, .string .empty, .int .i64 0, .int .i64 0], true, 0, none, [.int .i64, .str, .str, .str, .int .i64, .int .i64]⟩ := by kernel_rfl
theorem sl22 : SlTy Tryd.prog 22 25 6 72 := ⟨by kernel_rfl, by kernel_rfl, by kernel_rfl⟩
theorem uo22 : (Tryd.prog.underlying 22).isSome = true := by kernel_rfl
theorem ti23 : tiOf Tryd.prog 23 = ⟨true, 1, false, [], false, [.nilFunc], true, 0, none, [.any]⟩ := by kernel_rfl
theorem uo23 : (Tryd.prog.underlying 23).isSome = true := by kernel_rfl
theorem ti24 : tiOf Tryd.prog 24 = ⟨true, 6, true, [(0, 1, false), (1, 1, false), (2, 1, false), (3, 1, false), (4, 1, false), (5, 1, false)], true, [.int .i64 0, .string .empty, .string .empty, .string .empty, .int .i64 0, .int .i64 0], true, 0, none, [.int .i64, .str, .str, .str, .int .i64, .int .i64]⟩ := by kernel_rfl
theorem uo24 : (Tryd.prog.underlying 24).isSome = true := by kernel_rfl
theorem ti25 : tiOf Tryd.prog 25 = ⟨true, 6, true, [(0, 1, false), (1, 1, false), (2, 1, false), (3, 1, false), (4, 1, false), (5, 1, false)], true, [.int .i64 0, .string .empty, .string .empty, .string .empty, .int .i64 0, .int .i64 0], true, 0, none, [.int .i64, .str, .str, .str, .int .i64, .int .i64]⟩ := by kernel_rfl
theorem uo25 : (Tryd.prog.underlying 25).isSome = true := by kernel_rfl
theorem ti26 : tiOf Tryd.prog 26 = ⟨true, 1, false, [], false, [.nilFunc], true, 0, none, [.any]⟩ := by kernel_rfl
theorem uo26 : (Tryd.prog.underlying 26).isSome = true := by kernel_rfl
theorem ti27 : tiOf Tryd.prog 27 = ⟨true, 1, false, [], false, [.nilFunc], true, 0, none, [.any]⟩ := by kernel_rfl
theorem uo27 : (Tryd.prog.underlying 27).isSome = true := by kernel_rfl
theorem ti28 : tiOf Tryd.prog 28 = ⟨true, 1, false, [], false, [.nilFunc], true, 0, none, [.any]⟩ := by kernel_rfl
theorem uo28 : (Tryd.prog.underlying 28).isSome = true := by kernel_rfl
theorem ti29 : tiOf Tryd.prog 29 = ⟨true, 1, false, [], false, [.slice none 0 0], true, 31, none, [.slice]⟩ := by kernel_rfl
theorem us29 : Tryd.prog.underlying 29 = some (.slice (tiOf Tryd.prog 29).elem) := by kernel_rfl
theorem te29 : tiOf Tryd.prog (tiOf Tryd.prog 29).elem = ⟨true, 3, true, [(0, 1, false), (1, 1, false), (2, 1, false)], true, [.int .i64 0, .string .empty, .slice none 0 0], true, 0, none, [.int .i64, .str, .slice]⟩ := by kernel_rfl
theorem sl29 : SlTy Tryd.prog 29 31 3 48 := ⟨by kernel_rfl, by kernel_rfl, by kernel_rfl⟩
theorem uo29 : (Tryd.prog.underlying 29).isSome = true := by kernel_rfl
theorem ti30 : tiOf Tryd.prog 30 = ⟨true, 3, true, [(0, 1, false), (1, 1, false), (2, 1, false)], true, [.int .i64 0, .string .empty, .slice none 0 0], true, 0, none, [.int .i64, .str, .slice]⟩ := by kernel_rfl
theorem uo30 : (Tryd.prog.underlying 30).isSome = true := by kernel_rfl
theorem ti31 : tiOf Tryd.prog 31 = ⟨true, 3, true, [(0, 1, false), (1, 1, false), (2, 1, false)], true, [.int .i64 0, .string .empty, .slice none 0 0], true, 0, none, [.int .i64, .str, .slice]⟩ := by kernel_rfl
theorem uo31 : (Tryd.prog.underlying 31).isSome = true := by kernel_rfl
theorem ti32 : tiOf Tryd.prog 32 = ⟨true, 2, true, [(0, 1, false), (1, 1, false)], true, [.int .i64 0, .int .i64 0], true, 0, none, [.int .i64, .int .i64]⟩ := by kernel_rfl
theorem uo32 : (Tryd.prog.underlying 32).isSome = true := by kernel_rfl
theorem ti33 : tiOf Tryd.prog 33 = ⟨true, 2, true, [(0, 1, false), (1, 1, false)], true, [.int .i64 0, .int .i64 0], true, 0, none, [.int .i64, .int .i64]⟩ := by kernel_rfl
theorem uo33 : (Tryd.prog.underlying 33).isSome = true := by kernel_rfl
theorem uo34 : (Tryd.prog.underlying 34).isSome = true := by kernel_rfl
theorem ti35 : tiOf Tryd.prog 35 = ⟨true, 1, false, [], false, [.nilFunc], true, 0, none, [.any]⟩ := by kernel_rfl
theorem uo35 : (Tryd.prog.underlying 35).isSome = true := by kernel_rfl
theorem ti36 : tiOf Tryd.prog 36 = ⟨true, 1, false, [], false, [.slice none 0 0], true, 9, none, [.slice]⟩ := by kernel_rfl
theorem us36 : Tryd.prog.underlying 36 = some (.slice (tiOf Tryd.prog 36).elem) := by kernel_rfl
theorem te36 : tiOf Tryd.prog (tiOf Tryd.prog 36).elem = ⟨true, 1, false, [], false, [.string .empty], true, 0, none, [.str]⟩ := by kernel_rfl
theorem sl36 : SlTy Tryd.prog 36 9 1 16 := ⟨by kernel_rfl, by kernel_rfl, by kernel_rfl⟩
theorem uo36 : (Tryd.prog.underlying 36).isSome = true := by kernel_rfl
theorem ti37 : tiOf Tryd.prog 37 = ⟨true, 1, false, [], false, [.nilFunc], true, 0, none, [.any]⟩ := by kernel_rfl
theorem uo37 : (Tryd.prog.underlying 37).isSome = true := by kernel_rfl
theorem ti38 : tiOf Tryd.prog 38 = ⟨true, 1, false, [], false, [.nilFunc], true, 0, none, [.any]⟩ := by kernel_rfl
theorem uo38 : (Tryd.prog.underlying 38).isSome = true := by kernel_rfl
theorem ti39 : tiOf Tryd.prog 39 = ⟨true, 1, false, [], false, [.slice none 0 0], true, 3, none, [.slice]⟩ := by kernel_rfl
theorem us39 : Tryd.prog.underlying 39 = some (.slice (tiOf Tryd.prog 39).elem) := by kernel_rfl
theorem te39 : tiOf Tryd.prog (tiOf Tryd.prog 39).elem = ⟨true, 1, false, [], false, [.int .i64 0], true, 0, none, [.int .i64]⟩ := by kernel_rfl
theorem sl39 : SlTy Tryd.prog 39 3 1 8 := ⟨by kernel_rfl, by kernel_rfl, by kernel_rfl⟩
theorem uo39 : (Tryd.prog.underlying 39).isSome = true := by kernel_rfl
theorem ti40 : tiOf Tryd.prog 40 = ⟨true, 1, false, [], false, [.nilFunc], true, 0, none, [.any]⟩ := by kernel_rfl
theorem uo40 : (Tryd.prog.underlying 40).isSome = true := by kernel_rfl
theorem ti41 : tiOf Tryd.prog 41 = ⟨true, 1, false, [], false, [.nilFunc], true, 0, none, [.any]⟩ := by kernel_rfl
theorem uo41 : (Tryd.prog.underlying 41).isSome = true := by kernel_rfl
theorem ti42 : tiOf Tryd.prog 42 = ⟨true, 1, false, [], false, [.nilFunc], true, 0, none, [.any]⟩ := by kernel_rfl
theorem uo42 : (Tryd.prog.underlying 42).isSome = true := by kernel_rfl
theorem ti43 : tiOf Tryd.prog 43 = ⟨true, 1, false, [], false, [.nilIface], true, 0, none, [.any]⟩ := by kernel_rfl
theorem ii43 : isIfc Tryd.prog 43 = true := by kernel_rfl
theorem uo43 : (Tryd.prog.underlying 43).isSome = true := by kernel_rfl
theorem ti44 : tiOf Tryd.prog 44 = ⟨true, 1, false, [], false, [.nilIface], true, 0, none, [.any]⟩ := by kernel_rfl
theorem ii44 : isIfc Tryd.prog 44 = true := by kernel_rfl
theorem uo44 : (Tryd.prog.underlying 44).isSome = true := by kernel_rfl
theorem uo45 : (Tryd.prog.underlying 45).isSome = true := by kernel_rfl
theorem ti46 : tiOf Tryd.prog 46 = ⟨true, 1, false, [], false, [.nilFunc], true, 0, none, [.any]⟩ := by kernel_rfl
theorem uo46 : (Tryd.prog.underlying 46).isSome = true := by kernel_rfl
theorem ti47 : tiOf Tryd.prog 47 = ⟨true, 1, false, [], false, [.nilFunc], true, 0, none, [.any]⟩ := by kernel_rfl
theorem uo47 : (Tryd.prog.underlying 47).isSome = true := by kernel_rfl
theorem ti48 : tiOf Tryd.prog 48 = ⟨true, 1, false, [], false, [.nilFunc], true, 0, none, [.any]⟩ := by kernel_rfl
theorem uo48 : (Tryd.prog.underlying 48).isSome = true := by kernel_rfl
theorem ti49 : tiOf Tryd.prog 49 = ⟨true, 1, false, [], false, [.nilFunc], true, 0, none, [.any]⟩ := by kernel_rfl
theorem uo49 : (Tryd.prog.underlying 49).isSome = true := by kernel_rfl
theorem ti50 : tiOf Tryd.prog 50 = ⟨true, 1, false, [], false, [.nilFunc], true, 0, none, [.any]⟩ := by kernel_rfl
theorem uo50 : (Tryd.prog.underlying 50).isSome = true := by kernel_rfl
theorem ti51 : tiOf Tryd.prog 51 = ⟨true, 1, false, [], false, [.pointer none], true, 53, none, [.ptr]⟩ := by kernel_rfl
theorem up51 : Tryd.prog.underlying 51 = some (.pointer 53) := by kernel_rfl
theorem uo51 : (Tryd.prog.underlying 51).isSome = true := by kernel_rfl
theorem ti52 : tiOf Tryd.prog 52 = ⟨true, 4, true, [(0, 1, false), (1, 1, false), (2, 2, true)], true, [.string .empty, .int .i64 0, .int .i64 0, .int .i64 0], true, 0, none, [.str, .int .i64, .int .i64, .int .i64]⟩ := by kernel_rfl
theorem uo52 : (Tryd.prog.underlying 52).isSome = true := by kernel_rfl
theorem ti53 : tiOf Tryd.prog 53 = ⟨true, 4, true, [(0, 1, false), (1, 1, false), (2, 2, true)], true, [.string .empty, .int .i64 0, .int .i64 0, .int .i64 0], true, 0, none, [.str, .int .i64, .int .i64, .int .i64]⟩ := by kernel_rfl
theorem uo53 : (Tryd.prog.underlying 53).isSome = true := by kernel_rfl
theorem ti54 : tiOf Tryd.prog 54 = ⟨true, 1, false, [], false, [.nilFunc], true, 0, none, [.any]⟩ := by kernel_rfl
theorem uo54 : (Tryd.prog.underlying 54).isSome = true := by kernel_rfl
theorem ti55 : tiOf Tryd.prog 55 = ⟨true, 1, false, [], false, [.nilFunc], true, 0, none, [.any]⟩ := by kernel_rfl
theorem uo55 : (Tryd.prog.underlying 55).isSome = true := by kernel_rfl
theorem ti56 : tiOf Tryd.prog 56 = ⟨true, 1, false, [], false, [.nilFunc], true, 0, none, [.any]⟩ := by kernel_rfl
theorem uo56 : (Tryd.prog.underlying 56).isSome = true := by kernel_rfl
theorem ti57 : tiOf Tryd.prog 57 = ⟨true, 1, false, [], false, [.nilFunc], true, 0, none, [.any]⟩ := by kernel_rfl
theorem uo57 : (Tryd.prog.underlying 57).isSome = true := by kernel_rfl
theorem ti58 : tiOf Tryd.prog 58 = ⟨true, 1, false, [], false, [.nilFunc], true, 0, none, [.any]⟩ := by kernel_rfl
theorem uo58 : (Tryd.prog.underlying 58).isSome = true := by kernel_rfl
theorem ti59 : tiOf Tryd.prog 59 = ⟨true, 1, false, [], false, [.map none], true, 0, none, [.map]⟩ := by kernel_rfl
theorem mt59 : MapTy Tryd.prog 59 9 3 := ⟨by kernel_rfl, by kernel_rfl, by kernel_rfl⟩
theorem uo59 : (Tryd.prog.underlying 59).isSome = true := by kernel_rfl
theorem ti60 : tiOf Tryd.prog 60 = ⟨true, 1, false, [], false, [.pointer none], true, 63, none, [.ptr]⟩ := by kernel_rfl
theorem up60 : Tryd.prog.underlying 60 = some (.pointer 63) := by kernel_rfl
theorem uo60 : (Tryd.prog.underlying 60).isSome = true := by kernel_rfl
theorem ti61 : tiOf Tryd.prog 61 = ⟨true, 1, false, [], false, [.slice none 0 0], true, 5, none, [.slice]⟩ := by kernel_rfl
theorem us61 : Tryd.prog.underlying 61 = some (.slice (tiOf Tryd.prog 61).elem) := by kernel_rfl
theorem te61 : tiOf Tryd.prog (tiOf Tryd.prog 61).elem = ⟨true, 1, false, [], false, [.int .u8 0], true, 0, none, [.int .u8]⟩ := by kernel_rfl
theorem sl61 : SlTy Tryd.prog 61 5 1 1 := ⟨by kernel_rfl, by kernel_rfl, by kernel_rfl⟩
theorem uo61 : (Tryd.prog.underlying 61).isSome = true := by kernel_rfl
theorem ti62 : tiOf Tryd.prog 62 = ⟨true, 2, true, [(0, 1, false), (1, 1, false)], true, [.pointer none, .slice none 0 0], true, 0, none, [.ptr, .slice]⟩ := by kernel_rfl
theorem uo62 : (Tryd.prog.underlying 62).isSome = true := by kernel_rfl
theorem ti63 : tiOf Tryd.prog 63 = ⟨true, 2, true, [(0, 1, false), (1, 1, false)], true, [.pointer none, .slice none 0 0], true, 0, none, [.ptr, .slice]⟩ := by kernel_rfl
theorem uo63 : (Tryd.prog.underlying 63).isSome = true := by kernel_rfl
theorem ti64 : tiOf Tryd.prog 64 = ⟨true, 1, false, [], false, [.nilFunc], true, 0, none, [.any]⟩ := by kernel_rfl
theorem uo64 : (Tryd.prog.underlying 64).isSome = true := by kernel_rfl
theorem ti65 : tiOf Tryd.prog 65 = ⟨true, 1, false, [], false, [.nilFunc], true, 0, none, [.any]⟩ := by kernel_rfl
theorem uo65 : (Tryd.prog.underlying 65).isSome = true := by kernel_rfl
theorem ti66 : tiOf Tryd.prog 66 = ⟨true, 1, false, [], false, [.pointer none], true, 33, none, [.ptr]⟩ := by kernel_rfl
theorem up66 : Tryd.prog.underlying 66 = some (.pointer 33) := by kernel_rfl
theorem uo66 : (Tryd.prog.underlying 66).isSome = true := by kernel_rfl
theorem ti67 : tiOf Tryd.prog 67 = ⟨true, 1, false, [], false, [.nilFunc], true, 0, none, [.any]⟩ := by kernel_rfl
theorem uo67 : (Tryd.prog.underlying 67).isSome = true := by kernel_rfl
theorem ti68 : tiOf Tryd.prog 68 = ⟨true, 1, false, [], false, [.pointer none], true, 44, none, [.ptr]⟩ := by kernel_rfl
theorem up68 : Tryd.prog.underlying 68 = some (.pointer 44) := by kernel_rfl
theorem uo68 : (Tryd.prog.underlying 68).isSome = true := by kernel_rfl
theorem ti69 : tiOf Tryd.prog 69 = ⟨true, 1, false, [], false, [.pointer none], true, 90, none, [.ptr]⟩ := by kernel_rfl
theorem up69 : Tryd.prog.underlying 69 = some (.pointer 90) := by kernel_rfl
theorem uo69 : (Tryd.prog.underlying 69).isSome = true := by kernel_rfl
theorem ti70 : tiOf Tryd.prog 70 = ⟨true, 1, false, [], false, [.nilFunc], true, 0, none, [.any]⟩ := by kernel_rfl
theorem uo70 : (Tryd.prog.underlying 70).isSome = true := by kernel_rfl
theorem ti71 : tiOf Tryd.prog 71 = ⟨true, 1, false, [], false, [.nilFunc], true, 0, none, [.any]⟩ := by kernel_rfl
theorem uo71 : (Tryd.prog.underlying 71).isSome = true := by kernel_rfl
theorem ti72 : tiOf Tryd.prog 72 = ⟨true, 1, false, [], false, [.nilFunc], true, 0, none, [.any]⟩ := by kernel_rfl
theorem uo72 : (Tryd.prog.underlying 72).isSome = true := by kernel_rfl
theorem ti73 : tiOf Tryd.prog 73 = ⟨true, 1, false, [], false, [.nilFunc], true, 0, none, [.any]⟩ := by kernel_rfl
theorem uo73 : (Tryd.prog.underlying 73).isSome = true := by kernel_rfl
theorem uo74 : (Tryd.prog.underlying 74).isSome = true := by kernel_rfl
theorem ti75 : tiOf Tryd.prog 75 = ⟨true, 1, false, [], false, [.nilFunc], true, 0, none, [.any]⟩ := by kernel_rfl
theorem uo75 : (Tryd.prog.underlying 75).isSome = true := by kernel_rfl
theorem uo76 : (Tryd.prog.underlying 76).isSome = true := by kernel_rfl
theorem ti77 : tiOf Tryd.prog 77 = ⟨true, 1, false, [], false, [.nilFunc], true, 0, none, [.any]⟩ := by kernel_rfl
theorem uo77 : (Tryd.prog.underlying 77).isSome = true := by kernel_rfl
theorem ti78 : tiOf Tryd.prog 78 = ⟨true, 1, false, [], false, [.nilFunc], true, 0, none, [.any]⟩ := by kernel_rfl
theorem uo78 : (Tryd.prog.underlying 78).isSome = true := by kernel_rfl
theorem ti79 : tiOf Tryd.prog 79 = ⟨true, 2, true, [(0, 1, false), (1, 1, false)], true, [.int .i64 0, .map none], true, 0, none, [.int .i64, .map]⟩ := by kernel_rfl
theorem uo79 : (Tryd.prog.underlying 79).isSome = true := by kernel_rfl
theorem ti80 : tiOf Tryd.prog 80 = ⟨true, 2, true, [(0, 1, false), (1, 1, false)], true, [.int .i64 0, .map none], true, 0, none, [.int .i64, .map]⟩ := by kernel_rfl
theorem uo80 : (Tryd.prog.underlying 80).isSome = true := by kernel_rfl
theorem uo81 : (Tryd.prog.underlying 81).isSome = true := by kernel_rfl
theorem ti82 : tiOf Tryd.prog 82 = ⟨true, 1, false, [], false, [.nilFunc], true, 0, none, [.any]⟩ := by kernel_rfl
theorem uo82 : (Tryd.prog.underlying 82).isSome = true := by kernel_rfl
theorem ti83 : tiOf Tryd.prog 83 = ⟨true, 1, false, [], false, [.nilFunc], true, 0, none, [.any]⟩ := by kernel_rfl
theorem uo83 : (Tryd.prog.underlying 83).isSome = true := by kernel_rfl
theorem uo84 : (Tryd.prog.underlying 84).isSome = true := by kernel_rfl
theorem ti85 : tiOf Tryd.prog 85 = ⟨true, 1, false, [], false, [.nilFunc], true, 0, none, [.any]⟩ := by kernel_rfl
theorem uo85 : (Tryd.prog.underlying 85).isSome = true := by kernel_rfl
theorem ti86 : tiOf Tryd.prog 86 = ⟨true, 4, true, [], false, [.string .empty, .string .empty, .string .empty, .string .empty], true, 9, none, [.str, .str, .str, .str]⟩ := by kernel_rfl
theorem ua86 : Tryd.prog.underlying 86 = some (.array 4 9) := by kernel_rfl
theorem uo86 : (Tryd.prog.underlying 86).isSome = true := by kernel_rfl
theorem ti87 : tiOf Tryd.prog 87 = ⟨true, 1, false, [], false, [.nilFunc], true, 0, none, [.any]⟩ := by kernel_rfl
theorem uo87 : (Tryd.prog.underlying 87).isSome = true := by kernel_rfl
theorem ti88 : tiOf Tryd.prog 88 = ⟨true, 1, false, [], false, [.pointer none], true, 5, none, [.ptr]⟩ := by kernel_rfl
theorem up88 : Tryd.prog.underlying 88 = some (.pointer 5) := by kernel_rfl
theorem uo88 : (Tryd.prog.underlying 88).isSome = true := by kernel_rfl
theorem ti89 : tiOf Tryd.prog 89 = ⟨true, 4, true, [(0, 1, false), (1, 1, false), (2, 1, false), (3, 1, false)], true, [.string .empty, .int .i64 0, .string .empty, .int .i64 0], true, 0, none, [.str, .int .i64, .str, .int .i64]⟩ := by kernel_rfl
theorem uo89 : (Tryd.prog.underlying 89).isSome = true := by kernel_rfl
theorem ti90 : tiOf Tryd.prog 90 = ⟨true, 4, true, [(0, 1, false), (1, 1, false), (2, 1, false), (3, 1, false)], true, [.string .empty, .int .i64 0, .string .empty, .int .i64 0], true, 0, none, [.str, .int .i64, .str, .int .i64]⟩ := by kernel_rfl
theorem uo90 : (Tryd.prog.underlying 90).isSome = true := by kernel_rfl
theorem ti91 : tiOf Tryd.prog 91 = ⟨true, 1, false, [], false, [.nilFunc], true, 0, none, [.any]⟩ := by kernel_rfl
theorem uo91 : (Tryd.prog.underlying 91).isSome = true := by kernel_rfl
theorem ti92 : tiOf Tryd.prog 92 = ⟨true, 1, false, [], false, [.pointer none], true, 66, none, [.ptr]⟩ := by kernel_rfl
theorem up92 : Tryd.prog.underlying 92 = some (.pointer 66) := by kernel_rfl
theorem uo92 : (Tryd.prog.underlying 92).isSome = true := by kernel_rfl
theorem ti93 : tiOf Tryd.prog 93 = ⟨true, 1, false, [], false, [.nilFunc], true, 0, none, [.any]⟩ := by kernel_rfl
theorem uo93 : (Tryd.prog.underlying 93).isSome = true := by kernel_rfl
theorem ti94 : tiOf Tryd.prog 94 = ⟨true, 1, false, [], false, [.nilFunc], true, 0, none, [.any]⟩ := by kernel_rfl
theorem uo94 : (Tryd.prog.underlying 94).isSome = true := by kernel_rfl
theorem uo95 : (Tryd.prog.underlying 95).isSome = true := by kernel_rfl
theorem ti96 : tiOf Tryd.prog 96 = ⟨true, 1, false, [], false, [.nilFunc], true, 0, none, [.any]⟩ := by kernel_rfl
theorem uo96 : (Tryd.prog.underlying 96).isSome = true := by kernel_rfl
theorem ti97 : tiOf Tryd.prog 97 = ⟨true, 1, false, [], false, [.nilFunc], true, 0, none, [.any]⟩ := by kernel_rfl
theorem uo97 : (Tryd.prog.underlying 97).isSome = true := by kernel_rfl
theorem ti98 : tiOf Tryd.prog 98 = ⟨true, 1, false, [], false, [.pointer none], true, 0, none, [.any]⟩ := by kernel_rfl
theorem uu98 : Tryd.prog.underlying 98 = some .unsafePointer := by kernel_rfl
theorem uo98 : (Tryd.prog.underlying 98).isSome = true := by kernel_rfl
theorem ti99 : tiOf Tryd.prog 99 = ⟨true, 1, false, [], false, [.int .u64 0], true, 0, none, [.int .u64]⟩ := by kernel_rfl
theorem ui99 : Tryd.prog.underlying 99 = some (.int .u64) := by kernel_rfl
theorem uo99 : (Tryd.prog.underlying 99).isSome = true := by kernel_rfl
theorem ti100 : tiOf Tryd.prog 100 = ⟨true, 3, true, [(0, 1, false), (1, 1, false), (2, 1, false)], true, [.pointer none, .pointer none, .int .u64 0], true, 0, none, [.ptr, .any, .int .u64]⟩ := by kernel_rfl
theorem uo100 : (Tryd.prog.underlying 100).isSome = true := by kernel_rfl
theorem ti101 : tiOf Tryd.prog 101 = ⟨true, 3, true, [(0, 1, false), (1, 1, false), (2, 1, false)], true, [.pointer none, .pointer none, .int .u64 0], true, 0, none, [.ptr, .any, .int .u64]⟩ := by kernel_rfl
theorem uo101 : (Tryd.prog.underlying 101).isSome = true := by kernel_rfl
theorem ti102 : tiOf Tryd.prog 102 = ⟨true, 1, false, [], false, [.nilFunc], true, 0, none, [.any]⟩ := by kernel_rfl
theorem uo102 : (Tryd.prog.underlying 102).isSome = true := by kernel_rfl
theorem ti103 : tiOf Tryd.prog 103 = ⟨true, 1, false, [], false, [.nilIface], true, 0, none, [.any]⟩ := by kernel_rfl
theorem ii103 : isIfc Tryd.prog 103 = true := by kernel_rfl
theorem uo103 : (Tryd.prog.underlying 103).isSome = true := by kernel_rfl
theorem ti104 : tiOf Tryd.prog 104 = ⟨true, 1, false, [], false, [.nilIface], true, 0, none, [.any]⟩ := by kernel_rfl
theorem ii104 : isIfc Tryd.prog 104 = true := by kernel_rfl
theorem uo104 : (Tryd.prog.underlying 104).isSome = true := by kernel_rfl
theorem ti105 : tiOf Tryd.prog 105 = ⟨true, 1, false, [], false, [.nilFunc], true, 0, none, [.any]⟩ := by kernel_rfl
theorem uo105 : (Tryd.prog.underlying 105).isSome = true := by kernel_rfl
theorem ti106 : tiOf Tryd.prog 106 = ⟨true, 1, false, [], false, [.int .u8 0], true, 0, none, [.int .u8]⟩ := by kernel_rfl
theorem ui106 : Tryd.prog.underlying 106 = some (.int .u8) := by kernel_rfl
theorem uo106 : (Tryd.prog.underlying 106).isSome = true := by kernel_rfl
theorem ti107 : tiOf Tryd.prog 107 = ⟨true, 1, false, [], false, [.nilFunc], true, 0, none, [.any]⟩ := by kernel_rfl
theorem uo107 : (Tryd.prog.underlying 107).isSome = true := by kernel_rfl
theorem ti108 : tiOf Tryd.prog 108 = ⟨true, 1, false, [], false, [.nilFunc], true, 0, none, [.any]⟩ := by kernel_rfl
theorem uo108 : (Tryd.prog.underlying 108).isSome = true := by kernel_rfl
theorem ti109 : tiOf Tryd.prog 109 = ⟨true, 1, false, [], false, [.nilFunc], true, 0, none, [.any]⟩ := by kernel_rfl
theorem uo109 : (Tryd.prog.underlying 109).isSome = true := by kernel_rfl
theorem ti110 : tiOf Tryd.prog 110 = ⟨true, 1, false, [], false, [.pointer none], true, 80, none, [.ptr]⟩ := by kernel_rfl
theorem up110 : Tryd.prog.underlying 110 = some (.pointer 80) := by kernel_rfl
theorem uo110 : (Tryd.prog.underlying 110).isSome = true := by kernel_rfl
theorem ti111 : tiOf Tryd.prog 111 = ⟨true, 1, false, [], false, [.nilFunc], true, 0, none, [.any]⟩ := by kernel_rfl
theorem uo111 : (Tryd.prog.underlying 111).isSome = true := by kernel_rfl
theorem ti112 : tiOf Tryd.prog 112 = ⟨true, 1, true, [(0, 1, false)], true, [.pointer none], true, 0, none, [.ptr]⟩ := by kernel_rfl
theorem uo112 : (Tryd.prog.underlying 112).isSome = true := by kernel_rfl
theorem ti113 : tiOf Tryd.prog 113 = ⟨true, 1, true, [(0, 1, false)], true, [.pointer none], true, 0, none, [.ptr]⟩ := by kernel_rfl
theorem uo113 : (Tryd.prog.underlying 113).isSome = true := by kernel_rfl
theorem ti114 : tiOf Tryd.prog 114 = ⟨true, 1, false, [], false, [.pointer none], true, 143, none, [.ptr]⟩ := by kernel_rfl
theorem up114 : Tryd.prog.underlying 114 = some (.pointer 143) := by kernel_rfl
theorem uo114 : (Tryd.prog.underlying 114).isSome = true := by kernel_rfl
theorem ti115 : tiOf Tryd.prog 115 = ⟨true, 1, false, [], false, [.nilFunc], true, 0, none, [.any]⟩ := by kernel_rfl
theorem uo115 : (Tryd.prog.underlying 115).isSome = true := by kernel_rfl
theorem ti116 : tiOf Tryd.prog 116 = ⟨true, 1, false, [], false, [.nilFunc], true, 0, none, [.any]⟩ := by kernel_rfl
theorem uo116 : (Tryd.prog.underlying 116).isSome = true := by kernel_rfl
theorem ti117 : tiOf Tryd.prog 117 = ⟨true, 1, false, [], false, [.nilFunc], true, 0, none, [.any]⟩ := by kernel_rfl
theorem uo117 : (Tryd.prog.underlying 117).isSome = true := by kernel_rfl
theorem ti118 : tiOf Tryd.prog 118 = ⟨true, 1, false, [], false, [.nilIface], true, 0, none, [.any]⟩ := by kernel_rfl
theorem ii118 : isIfc Tryd.prog 118 = true := by kernel_rfl
theorem uo118 : (Tryd.prog.underlying 118).isSome = true := by kernel_rfl
theorem uo119 : (Tryd.prog.underlying 119).isSome = true := by kernel_rfl
theorem ti120 : tiOf Tryd.prog 120 = ⟨true, 1, false, [], false, [.nilFunc], true, 0, none, [.any]⟩ := by kernel_rfl
theorem uo120 : (Tryd.prog.underlying 120).isSome = true := by kernel_rfl
theorem ti121 : tiOf Tryd.prog 121 = ⟨true, 1, false, [], false, [.nilIface], true, 0, none, [.any]⟩ := by kernel_rfl
theorem ii121 : isIfc Tryd.prog 121 = true := by kernel_rfl
theorem uo121 : (Tryd.prog.underlying 121).isSome = true := by kernel_rfl
theorem ti122 : tiOf Tryd.prog 122 = ⟨true, 1, false, [], false, [.nilFunc], true, 0, none, [.any]⟩ := by kernel_rfl
theorem uo122 : (Tryd.prog.underlying 122).isSome = true := by kernel_rfl
theorem ti123 : tiOf Tryd.prog 123 = ⟨true, 1, false, [], false, [.nilIface], true, 0, none, [.any]⟩ := by kernel_rfl
theorem ii123 : isIfc Tryd.prog 123 = true := by kernel_rfl
theorem uo123 : (Tryd.prog.underlying 123).isSome = true := by kernel_rfl
theorem ti124 : tiOf Tryd.prog 124 = ⟨true, 1, false, [], false, [.slice none 0 0], true, 44, none, [.slice]⟩ := by kernel_rfl
theorem us124 : Tryd.prog.underlying 124 = some (.slice (tiOf Tryd.prog 124).elem) := by kernel_rfl
theorem te124 : tiOf Tryd.prog (tiOf Tryd.prog 124).elem = ⟨true, 1, false, [], false, [.nilIface], true, 0, none, [.any]⟩ := by kernel_rfl
theorem sl124 : SlTy Tryd.prog 124 44 1 16 := ⟨by kernel_rfl, by kernel_rfl, by kernel_rfl⟩
theorem uo124 : (Tryd.prog.underlying 124).isSome = true := by kernel_rfl
theorem ti125 : tiOf Tryd.prog 125 = ⟨true, 1, false, [], false, [.nilFunc], true, 0, none, [.any]⟩ := by kernel_rfl
theorem uo125 : (Tryd.prog.underlying 125).isSome = true := by kernel_rfl
theorem ti126 : tiOf Tryd.prog 126 = ⟨true, 4, true, [(0, 1, false), (1, 1, false), (2, 1, false), (3, 1, false)], true, [.pointer none, .pointer none, .pointer none, .string .empty], true, 0, none, [.ptr, .ptr, .ptr, .str]⟩ := by kernel_rfl
theorem uo126 : (Tryd.prog.underlying 126).isSome = true := by kernel_rfl
theorem ti127 : tiOf Tryd.prog 127 = ⟨true, 4, true, [(0, 1, false), (1, 1, false), (2, 1, false), (3, 1, false)], true, [.pointer none, .pointer none, .pointer none, .string .empty], true, 0, none, [.ptr, .ptr, .ptr, .str]⟩ := by kernel_rfl
theorem uo127 : (Tryd.prog.underlying 127).isSome = true := by kernel_rfl
theorem ti128 : tiOf Tryd.prog 128 = ⟨true, 0, true, [], false, [], true, 16, none, []⟩ := by kernel_rfl
theorem ua128 : Tryd.prog.underlying 128 = some (.array 0 16) := by kernel_rfl
theorem uo128 : (Tryd.prog.underlying 128).isSome = true := by kernel_rfl
theorem ti129 : tiOf Tryd.prog 129 = ⟨true, 0, true, [(0, 0, true)], true, [], true, 0, none, []⟩ := by kernel_rfl
theorem uo129 : (Tryd.prog.underlying 129).isSome = true := by kernel_rfl
theorem ti130 : tiOf Tryd.prog 130 = ⟨true, 0, true, [(0, 0, true)], true, [], true, 0, none, []⟩ := by kernel_rfl
theorem uo130 : (Tryd.prog.underlying 130).isSome = true := by kernel_rfl
theorem ti131 : tiOf Tryd.prog 131 = ⟨true, 1, false, [], false, [.nilFunc], true, 0, none, [.any]⟩ := by kernel_rfl
theorem uo131 : (Tryd.prog.underlying 131).isSome = true := by kernel_rfl
theorem ti132 : tiOf Tryd.prog 132 = ⟨true, 1, false, [], false, [.nilFunc], true, 0, none, [.any]⟩ := by kernel_rfl
theorem uo132 : (Tryd.prog.underlying 132).isSome = true := by kernel_rfl
theorem ti133 : tiOf Tryd.prog 133 = ⟨true, 1, false, [], false, [.int .u32 0], true, 0, none, [.int .u32]⟩ := by kernel_rfl
theorem ui133 : Tryd.prog.underlying 133 = some (.int .u32) := by kernel_rfl
theorem uo133 : (Tryd.prog.underlying 133).isSome = true := by kernel_rfl
theorem ti134 : tiOf Tryd.prog 134 = ⟨true, 1, false, [], false, [.int .u8 0], true, 0, none, [.int .u8]⟩ := by kernel_rfl
theorem ui134 : Tryd.prog.underlying 134 = some (.int .u8) := by kernel_rfl
theorem uo134 : (Tryd.prog.underlying 134).isSome = true := by kernel_rfl
theorem ti135 : tiOf Tryd.prog 135 = ⟨true, 1, false, [], false, [.nilFunc], true, 0, none, [.any]⟩ := by kernel_rfl
theorem uo135 : (Tryd.prog.underlying 135).isSome = true := by kernel_rfl
theorem ti136 : tiOf Tryd.prog 136 = ⟨true, 1, false, [], false, [.int .i32 0], true, 0, none, [.int .i32]⟩ := by kernel_rfl
theorem ui136 : Tryd.prog.underlying 136 = some (.int .i32) := by kernel_rfl
theorem uo136 : (Tryd.prog.underlying 136).isSome = true := by kernel_rfl
theorem ti137 : tiOf Tryd.prog 137 = ⟨true, 1, false, [], false, [.int .i32 0], true, 0, none, [.int .i32]⟩ := by kernel_rfl
theorem ui137 : Tryd.prog.underlying 137 = some (.int .i32) := by kernel_rfl
theorem uo137 : (Tryd.prog.underlying 137).isSome = true := by kernel_rfl
theorem ti138 : tiOf Tryd.prog 138 = ⟨true, 11, true, [(0, 1, false), (1, 1, false), (2, 1, false), (3, 1, false), (4, 1, false), (5, 1, false), (6, 1, false), (7, 1, false), (8, 1, false), (9, 1, false), (10, 1, false)], true, [.int .u64 0, .int .u64 0, .int .u32 0, .int .u8 0, .int .u8 0, .int .u8 0, .int .u8 0, .nilFunc, .pointer none, .int .i32 0, .int .i32 0], true, 0, none, [.int .u64, .int .u64, .int .u32, .int .u8, .int .u8, .int .u8, .int .u8, .any, .ptr, .int .i32, .int .i32]⟩ := by kernel_rfl
theorem uo138 : (Tryd.prog.underlying 138).isSome = true := by kernel_rfl
theorem ti139 : tiOf Tryd.prog 139 = ⟨true, 11, true, [(0, 1, false), (1, 1, false), (2, 1, false), (3, 1, false), (4, 1, false), (5, 1, false), (6, 1, false), (7, 1, false), (8, 1, false), (9, 1, false), (10, 1, false)], true, [.int .u64 0, .int .u64 0, .int .u32 0, .int .u8 0, .int .u8 0, .int .u8 0, .int .u8 0, .nilFunc, .pointer none, .int .i32 0, .int .i32 0], true, 0, none, [.int .u64, .int .u64, .int .u32, .int .u8, .int .u8, .int .u8, .int .u8, .any, .ptr, .int .i32, .int .i32]⟩ := by kernel_rfl
theorem uo139 : (Tryd.prog.underlying 139).isSome = true := by kernel_rfl
theorem ti140 : tiOf Tryd.prog 140 = ⟨true, 1, false, [], false, [.nilFunc], true, 0, none, [.any]⟩ := by kernel_rfl
theorem uo140 : (Tryd.prog.underlying 140).isSome = true := by kernel_rfl
theorem ti141 : tiOf Tryd.prog 141 = ⟨true, 1, false, [], false, [.nilFunc], true, 0, none, [.any]⟩ := by kernel_rfl
theorem uo141 : (Tryd.prog.underlying 141).isSome = true := by kernel_rfl
theorem ti142 : tiOf Tryd.prog 142 = ⟨true, 2, true, [(0, 1, false), (1, 1, false)], true, [.string .empty, .int .u8 0], true, 0, none, [.str, .int .u8]⟩ := by kernel_rfl
theorem uo142 : (Tryd.prog.underlying 142).isSome = true := by kernel_rfl
theorem ti143 : tiOf Tryd.prog 143 = ⟨true, 2, true, [(0, 1, false), (1, 1, false)], true, [.string .empty, .int .u8 0], true, 0, none, [.str, .int .u8]⟩ := by kernel_rfl
theorem uo143 : (Tryd.prog.underlying 143).isSome = true := by kernel_rfl
theorem ti144 : tiOf Tryd.prog 144 = ⟨true, 1, false, [], false, [.pointer none], true, 148, none, [.ptr]⟩ := by kernel_rfl
theorem up144 : Tryd.prog.underlying 144 = some (.pointer 148) := by kernel_rfl
theorem uo144 : (Tryd.prog.underlying 144).isSome = true := by kernel_rfl
theorem ti145 : tiOf Tryd.prog 145 = ⟨true, 1, false, [], false, [.nilFunc], true, 0, none, [.any]⟩ := by kernel_rfl
theorem uo145 : (Tryd.prog.underlying 145).isSome = true := by kernel_rfl
theorem ti146 : tiOf Tryd.prog 146 = ⟨true, 1, false, [], false, [.int .u16 0], true, 0, none, [.int .u16]⟩ := by kernel_rfl
theorem ui146 : Tryd.prog.underlying 146 = some (.int .u16) := by kernel_rfl
theorem uo146 : (Tryd.prog.underlying 146).isSome = true := by kernel_rfl
theorem ti147 : tiOf Tryd.prog 147 = ⟨true, 5, true, [(0, 1, false), (1, 1, false), (2, 1, false), (3, 1, false), (4, 1, false)], true, [.int .i32 0, .int .u16 0, .int .u16 0, .int .u32 0, .int .u32 0], true, 0, none, [.int .i32, .int .u16, .int .u16, .int .u32, .int .u32]⟩ := by kernel_rfl
theorem uo147 : (Tryd.prog.underlying 147).isSome = true := by kernel_rfl
theorem ti148 : tiOf Tryd.prog 148 = ⟨true, 5, true, [(0, 1, false), (1, 1, false), (2, 1, false), (3, 1, false), (4, 1, false)], true, [.int .i32 0, .int .u16 0, .int .u16 0, .int .u32 0, .int .u32 0], true, 0, none, [.int .i32, .int .u16, .int .u16, .int .u32, .int .u32]⟩ := by kernel_rfl
theorem uo148 : (Tryd.prog.underlying 148).isSome = true := by kernel_rfl
theorem ti149 : tiOf Tryd.prog 149 = ⟨true, 1, false, [], false, [.slice none 0 0], true, 152, none, [.slice]⟩ := by kernel_rfl
theorem us149 : Tryd.prog.underlying 149 = some (.slice (tiOf Tryd.prog 149).elem) := by kernel_rfl
theorem te149 : tiOf Tryd.prog (tiOf Tryd.prog 149).elem = ⟨true, 4, true, [(0, 1, false), (1, 1, false), (2, 1, false), (3, 1, false)], true, [.int .i32 0, .int .i32 0, .int .i32 0, .int .i32 0], true, 0, none, [.int .i32, .int .i32, .int .i32, .int .i32]⟩ := by kernel_rfl
theorem sl149 : SlTy Tryd.prog 149 152 4 16 := ⟨by kernel_rfl, by kernel_rfl, by kernel_rfl⟩
theorem uo149 : (Tryd.prog.underlying 149).isSome = true := by kernel_rfl
theorem ti150 : tiOf Tryd.prog 150 = ⟨true, 1, false, [], false, [.int .i32 0], true, 0, none, [.int .i32]⟩ := by kernel_rfl
theorem ui150 : Tryd.prog.underlying 150 = some (.int .i32) := by kernel_rfl
theorem uo150 : (Tryd.prog.underlying 150).isSome = true := by kernel_rfl
theorem ti151 : tiOf Tryd.prog 151 = ⟨true, 4, true, [(0, 1, false), (1, 1, false), (2, 1, false), (3, 1, false)], true, [.int .i32 0, .int .i32 0, .int .i32 0, .int .i32 0], true, 0, none, [.int .i32, .int .i32, .int .i32, .int .i32]⟩ := by kernel_rfl
theorem uo151 : (Tryd.prog.underlying 151).isSome = true := by kernel_rfl
theorem ti152 : tiOf Tryd.prog 152 = ⟨true, 4, true, [(0, 1, false), (1, 1, false), (2, 1, false), (3, 1, false)], true, [.int .i32 0, .int .i32 0, .int .i32 0, .int .i32 0], true, 0, none, [.int .i32, .int .i32, .int .i32, .int .i32]⟩ := by kernel_rfl
theorem uo152 : (Tryd.prog.underlying 152).isSome = true := by kernel_rfl
theorem ca2 : callable Tryd.prog 2 = true := by kernel_rfl
theorem ca3 : callable Tryd.prog 3 = true := by kernel_rfl
theorem ca4 : callable Tryd.prog 4 = true := by kernel_rfl
theorem ca5 : callable Tryd.prog 5 = true := by kernel_rfl
theorem ca6 : callable Tryd.prog 6 = true := by kernel_rfl
theorem ca7 : callable Tryd.prog 7 = true := by kernel_rfl
theorem ca8 : callable Tryd.prog 8 = true := by kernel_rfl
theorem ca9 : callable Tryd.prog 9 = true := by kernel_rfl
theorem ca10 : callable Tryd.prog 10 = true := by kernel_rfl
theorem ca11 : callable Tryd.prog 11 = true := by kernel_rfl
theorem ca12 : callable Tryd.prog 12 = true := by kernel_rfl
theorem ca13 : callable Tryd.prog 13 = true := by kernel_rfl
theorem ca14 : callable Tryd.prog 14 = true := by kernel_rfl
theorem ca15 : callable Tryd.prog 15 = true := by kernel_rfl
theorem ca16 : callable Tryd.prog 16 = true := by kernel_rfl
theorem ca17 : callable Tryd.prog 17 = true := by kernel_rfl
theorem ca18 : callable Tryd.prog 18 = true := by kernel_rfl
theorem ca19 : callable Tryd.prog 19 = true := by kernel_rfl
theorem ca20 : callable Tryd.prog 20 = true := by kernel_rfl
theorem ca21 : callable Tryd.prog 21 = true := by kernel_rfl
theorem ca22 : callable Tryd.prog 22 = true := by kernel_rfl
theorem ca23 : callable Tryd.prog 23 = true := by kernel_rfl
theorem ca24 : callable Tryd.prog 24 = true := by kernel_rfl
theorem ca25 : callable Tryd.prog 25 = true := by kernel_rfl
theorem ca26 : callable Tryd.prog 26 = true := by kernel_rfl
theorem ca27 : callable Tryd.prog 27 = true := by kernel_rfl
theorem ca28 : callable Tryd.prog 28 = true := by kernel_rfl
theorem ca29 : callable Tryd.prog 29 = true := by kernel_rfl
theorem ca30 : callable Tryd.prog 30 = true := by kernel_rfl
theorem ca31 : callable Tryd.prog 31 = true := by kernel_rfl
theorem ca32 : callable Tryd.prog 32 = true := by kernel_rfl
theorem ca33 : callable Tryd.prog 33 = true := by kernel_rfl
theorem ca34 : callable Tryd.prog 34 = true := by kernel_rfl
theorem ca35 : callable Tryd.prog 35 = true := by kernel_rfl
theorem ca36 : callable Tryd.prog 36 = true := by kernel_rfl
theorem ca37 : callable Tryd.prog 37 = true := by kernel_rfl
theorem ca38 : callable Tryd.prog 38 = true := by kernel_rfl
theorem ca39 : callable Tryd.prog 39 = true := by kernel_rfl
theorem ca40 : callable Tryd.prog 40 = true := by kernel_rfl
theorem ca41 : callable Tryd.prog 41 = true := by kernel_rfl
theorem ca42 : callable Tryd.prog 42 = true := by kernel_rfl
theorem ca43 : callable Tryd.prog 43 = true := by kernel_rfl
theorem ca44 : callable Tryd.prog 44 = true := by kernel_rfl
theorem ca45 : callable Tryd.prog 45 = true := by kernel_rfl
theorem ca46 : callable Tryd.prog 46 = true := by kernel_rfl
theorem ca47 : callable Tryd.prog 47 = true := by kernel_rfl
theorem ca48 : callable Tryd.prog 48 = true := by kernel_rfl
theorem ca49 : callable Tryd.prog 49 = true := by kernel_rfl
theorem ca50 : callable Tryd.prog 50 = true := by kernel_rfl
theorem ca51 : callable Tryd.prog 51 = true := by kernel_rfl
theorem ca52 : callable Tryd.prog 52 = true := by kernel_rfl
theorem ca53 : callable Tryd.prog 53 = true := by kernel_rfl
theorem ca54 : callable Tryd.prog 54 = true := by kernel_rfl
theorem ca55 : callable Tryd.prog 55 = true := by kernel_rfl
theorem ca56 : callable Tryd.prog 56 = true := by kernel_rfl
theorem ca57 : callable Tryd.prog 57 = true := by kernel_rfl
theorem ca58 : callable Tryd.prog 58 = true := by kernel_rfl
theorem ca59 : callable Tryd.prog 59 = true := by kernel_rfl
theorem ca60 : callable Tryd.prog 60 = true := by kernel_rfl
theorem ca61 : callable Tryd.prog 61 = true := by kernel_rfl
theorem ca62 : callable Tryd.prog 62 = true := by kernel_rfl
theorem ca66 : callable Tryd.prog 66 = true := by kernel_rfl
theorem ca109 : callable Tryd.prog 109 = true := by kernel_rfl
theorem mixed : Tryd.prog.follows .mixedOrders = true := by kernel_rfl
end Go.Proofs.YtafhnnbbfgoacaaDoor
