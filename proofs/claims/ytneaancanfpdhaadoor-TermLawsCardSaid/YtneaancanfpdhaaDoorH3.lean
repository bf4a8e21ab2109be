/-
  What is proved here, text by text: facts of the seat's types and functions, as the rules ask for them. contracts of the reference's functions on levels: among, Params, Worth, SameLevel. contracts of the reference's reader: nameByte, isName, token. contracts of the reference's reader: fail, next, take, done. contracts of the reference's reader: level, ParseLevel. what the reference's reader reads is a level. a level is the same as itself; the steps of a script, as data. from what a statement says of its argument to the states of the layer, and back: whatever lies in memory when the call begins is data that stays. the program's way to compare levels, in plain words: forms, their meeting, what they say of levels under all numbers. No program in sight. what is printed of a level is read again as that level. No program in sight. rules for digits (subtraction of bytes, a text's bytes as a slice); over any program. terms as data; what the reference's reader of terms computes, in plain words. terms whose variables are moved: lifting, substitution, closed terms, heads and arguments, as plain functions. parts of terms looked at, heads and arguments, as plain functions. laws of terms whose variables are moved: the substitution lemmas, as plain facts. a number's digits. contracts of strings.Builder's methods. contracts of the program's Print of levels.
-/
import Derived.Test.YtneaancanfpdhaaDoorH2
import Derived.Test.YtneaancanfpdhaaDoorRows
import Derived.KernelRfl
import Derived.ProofKit
import Derived.LaidMore
import Derived.OpenShut
import Derived.Carry
import Derived.Stop.Joined
import Derived.Lib.ConvBytes
set_option linter.unusedSimpArgs false
set_option linter.unusedVariables false
namespace Go.Proofs.YtneaancanfpdhaaDoor
open Go Go.Vd
theorem uo0 : (Tryd.prog.underlying 0).isSome = true := by kernel_rfl
theorem ti1 : tiOf Tryd.prog 1 = ⟨true, 1, false, [], false, [.nilFunc], true, 0, none, [.any]⟩ := by kernel_rfl
theorem uo1 : (Tryd.prog.underlying 1).isSome = true := by kernel_rfl
theorem ti2 : tiOf Tryd.prog 2 = ⟨true, 1, false, [], false, [.int .i64 0], true, 0, none, [.int .i64]⟩ := by kernel_rfl
theorem ui2 : Tryd.prog.underlying 2 = some (.int .i64) := by kernel_rfl
theorem uo2 : (Tryd.prog.underlying 2).isSome = true := by kernel_rfl
theorem ti3 : tiOf Tryd.prog 3 = ⟨true, 1, false, [], false, [.int .i64 0], true, 0, none, [.int .i64]⟩ := by kernel_rfl
theorem ui3 : Tryd.prog.underlying 3 = some (.int .i64) := by kernel_rfl
theorem uo3 : (Tryd.prog.underlying 3).isSome = true := by kernel_rfl
theorem ti4 : tiOf Tryd.prog 4 = ⟨true, 1, false, [], false, [.bool false], true, 0, none, [.bool]⟩ := by kernel_rfl
theorem ub4 : Tryd.prog.underlying 4 = some .bool := by kernel_rfl
theorem uo4 : (Tryd.prog.underlying 4).isSome = true := by kernel_rfl
theorem ti5 : tiOf Tryd.prog 5 = ⟨true, 1, false, [], false, [.int .u8 0], true, 0, none, [.int .u8]⟩ := by kernel_rfl
theorem ui5 : Tryd.prog.underlying 5 = some (.int .u8) := by kernel_rfl
theorem uo5 : (Tryd.prog.underlying 5).isSome = true := by kernel_rfl
theorem ti6 : tiOf Tryd.prog 6 = ⟨true, 1, false, [], false, [.int .u8 0], true, 0, none, [.int .u8]⟩ := by kernel_rfl
theorem ui6 : Tryd.prog.underlying 6 = some (.int .u8) := by kernel_rfl
theorem uo6 : (Tryd.prog.underlying 6).isSome = true := by kernel_rfl
theorem ti7 : tiOf Tryd.prog 7 = ⟨true, 4, true, [(0, 1, false), (1, 1, false), (2, 1, false), (3, 1, false)], true, [.int .i64 0, .int .i64 0, .bool false, .int .u8 0], true, 0, none, [.int .i64, .int .i64, .bool, .int .u8]⟩ := by kernel_rfl
theorem uo7 : (Tryd.prog.underlying 7).isSome = true := by kernel_rfl
theorem ti8 : tiOf Tryd.prog 8 = ⟨true, 4, true, [(0, 1, false), (1, 1, false), (2, 1, false), (3, 1, false)], true, [.int .i64 0, .int .i64 0, .bool false, .int .u8 0], true, 0, none, [.int .i64, .int .i64, .bool, .int .u8]⟩ := by kernel_rfl
theorem uo8 : (Tryd.prog.underlying 8).isSome = true := by kernel_rfl
theorem ti9 : tiOf Tryd.prog 9 = ⟨true, 1, false, [], false, [.string .empty], true, 0, none, [.str]⟩ := by kernel_rfl
theorem ut9 : Tryd.prog.underlying 9 = some .string := by kernel_rfl
theorem uo9 : (Tryd.prog.underlying 9).isSome = true := by kernel_rfl
theorem ti10 : tiOf Tryd.prog 10 = ⟨true, 1, false, [], false, [.string .empty], true, 0, none, [.str]⟩ := by kernel_rfl
theorem ut10 : Tryd.prog.underlying 10 = some .string := by kernel_rfl
theorem uo10 : (Tryd.prog.underlying 10).isSome = true := by kernel_rfl
theorem ti11 : tiOf Tryd.prog 11 = ⟨true, 1, false, [], false, [.string .empty], true, 0, none, [.str]⟩ := by kernel_rfl
theorem ut11 : Tryd.prog.underlying 11 = some .string := by kernel_rfl
theorem uo11 : (Tryd.prog.underlying 11).isSome = true := by kernel_rfl
theorem ti12 : tiOf Tryd.prog 12 = ⟨true, 1, false, [], false, [.int .u64 0], true, 0, none, [.int .u64]⟩ := by kernel_rfl
theorem ui12 : Tryd.prog.underlying 12 = some (.int .u64) := by kernel_rfl
theorem uo12 : (Tryd.prog.underlying 12).isSome = true := by kernel_rfl
theorem ti13 : tiOf Tryd.prog 13 = ⟨true, 2, true, [(0, 1, false), (1, 1, false)], true, [.string .empty, .int .u64 0], true, 0, none, [.str, .int .u64]⟩ := by kernel_rfl
theorem uo13 : (Tryd.prog.underlying 13).isSome = true := by kernel_rfl
theorem ti14 : tiOf Tryd.prog 14 = ⟨true, 2, true, [(0, 1, false), (1, 1, false)], true, [.string .empty, .int .u64 0], true, 0, none, [.str, .int .u64]⟩ := by kernel_rfl
theorem uo14 : (Tryd.prog.underlying 14).isSome = true := by kernel_rfl
theorem ti15 : tiOf Tryd.prog 15 = ⟨true, 1, false, [], false, [.pointer none], true, 153, none, [.ptr]⟩ := by kernel_rfl
theorem up15 : Tryd.prog.underlying 15 = some (.pointer 153) := by kernel_rfl
theorem uo15 : (Tryd.prog.underlying 15).isSome = true := by kernel_rfl
theorem ti16 : tiOf Tryd.prog 16 = ⟨true, 1, false, [], false, [.pointer none], true, 156, none, [.ptr]⟩ := by kernel_rfl
theorem up16 : Tryd.prog.underlying 16 = some (.pointer 156) := by kernel_rfl
theorem uo16 : (Tryd.prog.underlying 16).isSome = true := by kernel_rfl
theorem ti17 : tiOf Tryd.prog 17 = ⟨true, 1, false, [], false, [.pointer none], true, 164, none, [.ptr]⟩ := by kernel_rfl
theorem up17 : Tryd.prog.underlying 17 = some (.pointer 164) := by kernel_rfl
theorem uo17 : (Tryd.prog.underlying 17).isSome = true := by kernel_rfl
theorem ti18 : tiOf Tryd.prog 18 = ⟨true, 1, true, [(0, 1, false)], true, [.pointer none], true, 0, none, [.ptr]⟩ := by kernel_rfl
theorem uo18 : (Tryd.prog.underlying 18).isSome = true := by kernel_rfl
theorem ti19 : tiOf Tryd.prog 19 = ⟨true, 1, true, [(0, 1, false)], true, [.pointer none], true, 0, none, [.ptr]⟩ := by kernel_rfl
theorem uo19 : (Tryd.prog.underlying 19).isSome = true := by kernel_rfl
theorem ti20 : tiOf Tryd.prog 20 = ⟨true, 1, false, [], false, [.nilIface], true, 0, none, [.any]⟩ := by kernel_rfl
theorem ii20 : isIfc Tryd.prog 20 = true := by kernel_rfl
theorem uo20 : (Tryd.prog.underlying 20).isSome = true := by kernel_rfl
theorem ti21 : tiOf Tryd.prog 21 = ⟨true, 1, false, [], false, [.int .i32 0], true, 0, none, [.int .i32]⟩ := by kernel_rfl
theorem ui21 : Tryd.prog.underlying 21 = some (.int .i32) := by kernel_rfl
theorem uo21 : (Tryd.prog.underlying 21).isSome = true := by kernel_rfl
theorem ti22 : tiOf Tryd.prog 22 = ⟨true, 1, false, [], false, [.slice none 0 0], true, 25, none, [.slice]⟩ := by kernel_rfl
theorem us22 : Tryd.prog.underlying 22 = some (.slice (tiOf Tryd.prog 22).elem) := by kernel_rfl
theorem te22 : tiOf Tryd.prog (tiOf Tryd.prog 22).elem = ⟨true, 6, true, [(0, 1, false), (1, 1, false), (2, 1, false), (3, 1, false), (4, 1, false), (5, 1, false)], true, [.int .i64 0, .string .empty, .string .empty, .string .empty, .int .i64 0, .int .i64 0], true, 0, none, [.int .i64, .str, .str, .str, .int .i64, .int .i64]⟩ := by kernel_rfl
theorem sl22 : SlTy Tryd.prog 22 25 6 72 := ⟨by kernel_rfl, by kernel_rfl, by kernel_rfl⟩
theorem uo22 : (Tryd.prog.underlying 22).isSome = true := by kernel_rfl
theorem ti23 : tiOf Tryd.prog 23 = ⟨true, 1, false, [], false, [.nilFunc], true, 0, none, [.any]⟩ := by kernel_rfl
theorem uo23 : (Tryd.prog.underlying 23).isSome = true := by kernel_rfl
theorem ti24 : tiOf Tryd.prog 24 = ⟨true, 6, true, [(0, 1, false), (1, 1, false), (2, 1, false), (3, 1, false), (4, 1, false), (5, 1, false)], true, [.int .i64 0, .string .empty, .string .empty, .string .empty, .int .i64 0, .int .i64 0], true, 0, none, [.int .i64, .str, .str, .str, .int .i64, .int .i64]⟩ := by kernel_rfl
theorem uo24 : (Tryd.prog.underlying 24).isSome = true := by kernel_rfl
theorem ti25 : tiOf Tryd.prog 25 = ⟨true, 6, true, [(0, 1, false), (1, 1, false), (2, 1, false), (3, 1, false), (4, 1, false), (5, 1, false)], true, [.int .i64 0, .string .empty, .string .empty, .string .empty, .int .i64 0, .int .i64 0], true, 0, none, [.int .i64, .str, .str, .str, .int .i64, .int .i64]⟩ := by kernel_rfl
theorem uo25 : (Tryd.prog.underlying 25).isSome = true := by kernel_rfl
theorem ti26 : tiOf Tryd.prog 26 = ⟨true, 1, false, [], false, [.slice none 0 0], true, 90, none, [.slice]⟩ := by kernel_rfl
theorem us26 : Tryd.prog.underlying 26 = some (.slice (tiOf Tryd.prog 26).elem) := by kernel_rfl
theorem te26 : tiOf Tryd.prog (tiOf Tryd.prog 26).elem = ⟨true, 3, true, [(0, 1, false), (1, 1, false), (2, 1, false)], true, [.int .i64 0, .string .empty, .slice none 0 0], true, 0, none, [.int .i64, .str, .slice]⟩ := by kernel_rfl
theorem sl26 : SlTy Tryd.prog 26 90 3 48 := ⟨by kernel_rfl, by kernel_rfl, by kernel_rfl⟩
theorem uo26 : (Tryd.prog.underlying 26).isSome = true := by kernel_rfl
theorem ti27 : tiOf Tryd.prog 27 = ⟨true, 1, false, [], false, [.slice none 0 0], true, 29, none, [.slice]⟩ := by kernel_rfl
theorem us27 : Tryd.prog.underlying 27 = some (.slice (tiOf Tryd.prog 27).elem) := by kernel_rfl
theorem te27 : tiOf Tryd.prog (tiOf Tryd.prog 27).elem = ⟨true, 5, true, [(0, 1, false), (1, 1, false), (2, 1, false), (3, 1, false), (4, 1, false)], true, [.int .i64 0, .int .i64 0, .string .empty, .slice none 0 0, .slice none 0 0], true, 0, none, [.int .i64, .int .i64, .str, .slice, .slice]⟩ := by kernel_rfl
theorem sl27 : SlTy Tryd.prog 27 29 5 80 := ⟨by kernel_rfl, by kernel_rfl, by kernel_rfl⟩
theorem uo27 : (Tryd.prog.underlying 27).isSome = true := by kernel_rfl
theorem ti28 : tiOf Tryd.prog 28 = ⟨true, 5, true, [(0, 1, false), (1, 1, false), (2, 1, false), (3, 1, false), (4, 1, false)], true, [.int .i64 0, .int .i64 0, .string .empty, .slice none 0 0, .slice none 0 0], true, 0, none, [.int .i64, .int .i64, .str, .slice, .slice]⟩ := by kernel_rfl
theorem uo28 : (Tryd.prog.underlying 28).isSome = true := by kernel_rfl
theorem ti29 : tiOf Tryd.prog 29 = ⟨true, 5, true, [(0, 1, false), (1, 1, false), (2, 1, false), (3, 1, false), (4, 1, false)], true, [.int .i64 0, .int .i64 0, .string .empty, .slice none 0 0, .slice none 0 0], true, 0, none, [.int .i64, .int .i64, .str, .slice, .slice]⟩ := by kernel_rfl
theorem uo29 : (Tryd.prog.underlying 29).isSome = true := by kernel_rfl
theorem ti30 : tiOf Tryd.prog 30 = ⟨true, 2, true, [(0, 1, false), (1, 1, false)], true, [.int .i64 0, .int .i64 0], true, 0, none, [.int .i64, .int .i64]⟩ := by kernel_rfl
theorem uo30 : (Tryd.prog.underlying 30).isSome = true := by kernel_rfl
theorem ti31 : tiOf Tryd.prog 31 = ⟨true, 2, true, [(0, 1, false), (1, 1, false)], true, [.int .i64 0, .int .i64 0], true, 0, none, [.int .i64, .int .i64]⟩ := by kernel_rfl
theorem uo31 : (Tryd.prog.underlying 31).isSome = true := by kernel_rfl
theorem uo32 : (Tryd.prog.underlying 32).isSome = true := by kernel_rfl
theorem ti33 : tiOf Tryd.prog 33 = ⟨true, 1, false, [], false, [.nilFunc], true, 0, none, [.any]⟩ := by kernel_rfl
theorem uo33 : (Tryd.prog.underlying 33).isSome = true := by kernel_rfl
theorem ti34 : tiOf Tryd.prog 34 = ⟨true, 1, false, [], false, [.nilFunc], true, 0, none, [.any]⟩ := by kernel_rfl
theorem uo34 : (Tryd.prog.underlying 34).isSome = true := by kernel_rfl
theorem ti35 : tiOf Tryd.prog 35 = ⟨true, 1, false, [], false, [.nilFunc], true, 0, none, [.any]⟩ := by kernel_rfl
theorem uo35 : (Tryd.prog.underlying 35).isSome = true := by kernel_rfl
theorem ti36 : tiOf Tryd.prog 36 = ⟨true, 1, false, [], false, [.nilFunc], true, 0, none, [.any]⟩ := by kernel_rfl
theorem uo36 : (Tryd.prog.underlying 36).isSome = true := by kernel_rfl
theorem ti37 : tiOf Tryd.prog 37 = ⟨true, 1, false, [], false, [.nilFunc], true, 0, none, [.any]⟩ := by kernel_rfl
theorem uo37 : (Tryd.prog.underlying 37).isSome = true := by kernel_rfl
theorem ti38 : tiOf Tryd.prog 38 = ⟨true, 1, false, [], false, [.nilFunc], true, 0, none, [.any]⟩ := by kernel_rfl
theorem uo38 : (Tryd.prog.underlying 38).isSome = true := by kernel_rfl
theorem ti39 : tiOf Tryd.prog 39 = ⟨true, 1, false, [], false, [.nilIface], true, 0, none, [.any]⟩ := by kernel_rfl
theorem ii39 : isIfc Tryd.prog 39 = true := by kernel_rfl
theorem uo39 : (Tryd.prog.underlying 39).isSome = true := by kernel_rfl
theorem ti40 : tiOf Tryd.prog 40 = ⟨true, 1, false, [], false, [.nilIface], true, 0, none, [.any]⟩ := by kernel_rfl
theorem ii40 : isIfc Tryd.prog 40 = true := by kernel_rfl
theorem uo40 : (Tryd.prog.underlying 40).isSome = true := by kernel_rfl
theorem uo41 : (Tryd.prog.underlying 41).isSome = true := by kernel_rfl
theorem ti42 : tiOf Tryd.prog 42 = ⟨true, 1, false, [], false, [.nilFunc], true, 0, none, [.any]⟩ := by kernel_rfl
theorem uo42 : (Tryd.prog.underlying 42).isSome = true := by kernel_rfl
theorem uo43 : (Tryd.prog.underlying 43).isSome = true := by kernel_rfl
theorem ti44 : tiOf Tryd.prog 44 = ⟨true, 1, false, [], false, [.nilFunc], true, 0, none, [.any]⟩ := by kernel_rfl
theorem uo44 : (Tryd.prog.underlying 44).isSome = true := by kernel_rfl
theorem ti45 : tiOf Tryd.prog 45 = ⟨true, 1, false, [], false, [.nilFunc], true, 0, none, [.any]⟩ := by kernel_rfl
theorem uo45 : (Tryd.prog.underlying 45).isSome = true := by kernel_rfl
theorem ti46 : tiOf Tryd.prog 46 = ⟨true, 1, false, [], false, [.nilFunc], true, 0, none, [.any]⟩ := by kernel_rfl
theorem uo46 : (Tryd.prog.underlying 46).isSome = true := by kernel_rfl
theorem ti47 : tiOf Tryd.prog 47 = ⟨true, 1, false, [], false, [.nilFunc], true, 0, none, [.any]⟩ := by kernel_rfl
theorem uo47 : (Tryd.prog.underlying 47).isSome = true := by kernel_rfl
theorem ti48 : tiOf Tryd.prog 48 = ⟨true, 1, false, [], false, [.slice none 0 0], true, 80, none, [.slice]⟩ := by kernel_rfl
theorem us48 : Tryd.prog.underlying 48 = some (.slice (tiOf Tryd.prog 48).elem) := by kernel_rfl
theorem te48 : tiOf Tryd.prog (tiOf Tryd.prog 48).elem = ⟨true, 15, true, [(0, 1, false), (1, 1, false), (2, 1, false), (3, 5, true), (8, 5, true), (13, 1, false), (14, 1, false)], true, [.int .i64 0, .string .empty, .slice none 0 0, .int .i64 0, .int .i64 0, .string .empty, .slice none 0 0, .slice none 0 0, .int .i64 0, .int .i64 0, .string .empty, .slice none 0 0, .slice none 0 0, .int .i64 0, .slice none 0 0], true, 0, none, [.int .i64, .str, .slice, .int .i64, .int .i64, .str, .slice, .slice, .int .i64, .int .i64, .str, .slice, .slice, .int .i64, .slice]⟩ := by kernel_rfl
theorem sl48 : SlTy Tryd.prog 48 80 15 240 := ⟨by kernel_rfl, by kernel_rfl, by kernel_rfl⟩
theorem uo48 : (Tryd.prog.underlying 48).isSome = true := by kernel_rfl
theorem uo49 : (Tryd.prog.underlying 49).isSome = true := by kernel_rfl
theorem ti50 : tiOf Tryd.prog 50 = ⟨true, 1, false, [], false, [.nilFunc], true, 0, none, [.any]⟩ := by kernel_rfl
theorem uo50 : (Tryd.prog.underlying 50).isSome = true := by kernel_rfl
theorem ti51 : tiOf Tryd.prog 51 = ⟨true, 1, false, [], false, [.nilFunc], true, 0, none, [.any]⟩ := by kernel_rfl
theorem uo51 : (Tryd.prog.underlying 51).isSome = true := by kernel_rfl
theorem ti52 : tiOf Tryd.prog 52 = ⟨true, 1, false, [], false, [.pointer none], true, 54, none, [.ptr]⟩ := by kernel_rfl
theorem up52 : Tryd.prog.underlying 52 = some (.pointer 54) := by kernel_rfl
theorem uo52 : (Tryd.prog.underlying 52).isSome = true := by kernel_rfl
theorem ti53 : tiOf Tryd.prog 53 = ⟨true, 4, true, [(0, 1, false), (1, 1, false), (2, 2, true)], true, [.string .empty, .int .i64 0, .int .i64 0, .int .i64 0], true, 0, none, [.str, .int .i64, .int .i64, .int .i64]⟩ := by kernel_rfl
theorem uo53 : (Tryd.prog.underlying 53).isSome = true := by kernel_rfl
theorem ti54 : tiOf Tryd.prog 54 = ⟨true, 4, true, [(0, 1, false), (1, 1, false), (2, 2, true)], true, [.string .empty, .int .i64 0, .int .i64 0, .int .i64 0], true, 0, none, [.str, .int .i64, .int .i64, .int .i64]⟩ := by kernel_rfl
theorem uo54 : (Tryd.prog.underlying 54).isSome = true := by kernel_rfl
theorem ti55 : tiOf Tryd.prog 55 = ⟨true, 1, false, [], false, [.nilFunc], true, 0, none, [.any]⟩ := by kernel_rfl
theorem uo55 : (Tryd.prog.underlying 55).isSome = true := by kernel_rfl
theorem ti56 : tiOf Tryd.prog 56 = ⟨true, 1, false, [], false, [.nilFunc], true, 0, none, [.any]⟩ := by kernel_rfl
theorem uo56 : (Tryd.prog.underlying 56).isSome = true := by kernel_rfl
theorem ti57 : tiOf Tryd.prog 57 = ⟨true, 1, false, [], false, [.nilFunc], true, 0, none, [.any]⟩ := by kernel_rfl
theorem uo57 : (Tryd.prog.underlying 57).isSome = true := by kernel_rfl
theorem ti58 : tiOf Tryd.prog 58 = ⟨true, 1, false, [], false, [.pointer none], true, 61, none, [.ptr]⟩ := by kernel_rfl
theorem up58 : Tryd.prog.underlying 58 = some (.pointer 61) := by kernel_rfl
theorem uo58 : (Tryd.prog.underlying 58).isSome = true := by kernel_rfl
theorem ti59 : tiOf Tryd.prog 59 = ⟨true, 1, false, [], false, [.slice none 0 0], true, 5, none, [.slice]⟩ := by kernel_rfl
theorem us59 : Tryd.prog.underlying 59 = some (.slice (tiOf Tryd.prog 59).elem) := by kernel_rfl
theorem te59 : tiOf Tryd.prog (tiOf Tryd.prog 59).elem = ⟨true, 1, false, [], false, [.int .u8 0], true, 0, none, [.int .u8]⟩ := by kernel_rfl
theorem sl59 : SlTy Tryd.prog 59 5 1 1 := ⟨by kernel_rfl, by kernel_rfl, by kernel_rfl⟩
theorem uo59 : (Tryd.prog.underlying 59).isSome = true := by kernel_rfl
theorem ti60 : tiOf Tryd.prog 60 = ⟨true, 2, true, [(0, 1, false), (1, 1, false)], true, [.pointer none, .slice none 0 0], true, 0, none, [.ptr, .slice]⟩ := by kernel_rfl
theorem uo60 : (Tryd.prog.underlying 60).isSome = true := by kernel_rfl
theorem ti61 : tiOf Tryd.prog 61 = ⟨true, 2, true, [(0, 1, false), (1, 1, false)], true, [.pointer none, .slice none 0 0], true, 0, none, [.ptr, .slice]⟩ := by kernel_rfl
theorem uo61 : (Tryd.prog.underlying 61).isSome = true := by kernel_rfl
theorem ti62 : tiOf Tryd.prog 62 = ⟨true, 1, false, [], false, [.nilFunc], true, 0, none, [.any]⟩ := by kernel_rfl
theorem uo62 : (Tryd.prog.underlying 62).isSome = true := by kernel_rfl
theorem ti63 : tiOf Tryd.prog 63 = ⟨true, 1, false, [], false, [.nilFunc], true, 0, none, [.any]⟩ := by kernel_rfl
theorem uo63 : (Tryd.prog.underlying 63).isSome = true := by kernel_rfl
theorem ti64 : tiOf Tryd.prog 64 = ⟨true, 1, false, [], false, [.nilFunc], true, 0, none, [.any]⟩ := by kernel_rfl
theorem uo64 : (Tryd.prog.underlying 64).isSome = true := by kernel_rfl
theorem ti65 : tiOf Tryd.prog 65 = ⟨true, 1, false, [], false, [.nilFunc], true, 0, none, [.any]⟩ := by kernel_rfl
theorem uo65 : (Tryd.prog.underlying 65).isSome = true := by kernel_rfl
theorem ti66 : tiOf Tryd.prog 66 = ⟨true, 1, false, [], false, [.pointer none], true, 31, none, [.ptr]⟩ := by kernel_rfl
theorem up66 : Tryd.prog.underlying 66 = some (.pointer 31) := by kernel_rfl
theorem uo66 : (Tryd.prog.underlying 66).isSome = true := by kernel_rfl
theorem ti67 : tiOf Tryd.prog 67 = ⟨true, 1, false, [], false, [.nilFunc], true, 0, none, [.any]⟩ := by kernel_rfl
theorem uo67 : (Tryd.prog.underlying 67).isSome = true := by kernel_rfl
theorem ti68 : tiOf Tryd.prog 68 = ⟨true, 1, false, [], false, [.pointer none], true, 40, none, [.ptr]⟩ := by kernel_rfl
theorem up68 : Tryd.prog.underlying 68 = some (.pointer 40) := by kernel_rfl
theorem uo68 : (Tryd.prog.underlying 68).isSome = true := by kernel_rfl
theorem ti69 : tiOf Tryd.prog 69 = ⟨true, 1, false, [], false, [.pointer none], true, 76, none, [.ptr]⟩ := by kernel_rfl
theorem up69 : Tryd.prog.underlying 69 = some (.pointer 76) := by kernel_rfl
theorem uo69 : (Tryd.prog.underlying 69).isSome = true := by kernel_rfl
theorem ti70 : tiOf Tryd.prog 70 = ⟨true, 1, false, [], false, [.nilFunc], true, 0, none, [.any]⟩ := by kernel_rfl
theorem uo70 : (Tryd.prog.underlying 70).isSome = true := by kernel_rfl
theorem ti71 : tiOf Tryd.prog 71 = ⟨true, 1, false, [], false, [.nilFunc], true, 0, none, [.any]⟩ := by kernel_rfl
theorem uo71 : (Tryd.prog.underlying 71).isSome = true := by kernel_rfl
theorem ti72 : tiOf Tryd.prog 72 = ⟨true, 1, false, [], false, [.nilFunc], true, 0, none, [.any]⟩ := by kernel_rfl
theorem uo72 : (Tryd.prog.underlying 72).isSome = true := by kernel_rfl
theorem ti73 : tiOf Tryd.prog 73 = ⟨true, 1, false, [], false, [.nilFunc], true, 0, none, [.any]⟩ := by kernel_rfl
theorem uo73 : (Tryd.prog.underlying 73).isSome = true := by kernel_rfl
theorem ti74 : tiOf Tryd.prog 74 = ⟨true, 1, false, [], false, [.nilFunc], true, 0, none, [.any]⟩ := by kernel_rfl
theorem uo74 : (Tryd.prog.underlying 74).isSome = true := by kernel_rfl
theorem ti75 : tiOf Tryd.prog 75 = ⟨true, 4, true, [(0, 1, false), (1, 1, false), (2, 1, false), (3, 1, false)], true, [.string .empty, .int .i64 0, .string .empty, .int .i64 0], true, 0, none, [.str, .int .i64, .str, .int .i64]⟩ := by kernel_rfl
theorem uo75 : (Tryd.prog.underlying 75).isSome = true := by kernel_rfl
theorem ti76 : tiOf Tryd.prog 76 = ⟨true, 4, true, [(0, 1, false), (1, 1, false), (2, 1, false), (3, 1, false)], true, [.string .empty, .int .i64 0, .string .empty, .int .i64 0], true, 0, none, [.str, .int .i64, .str, .int .i64]⟩ := by kernel_rfl
theorem uo76 : (Tryd.prog.underlying 76).isSome = true := by kernel_rfl
theorem ti77 : tiOf Tryd.prog 77 = ⟨true, 1, false, [], false, [.slice none 0 0], true, 9, none, [.slice]⟩ := by kernel_rfl
theorem us77 : Tryd.prog.underlying 77 = some (.slice (tiOf Tryd.prog 77).elem) := by kernel_rfl
theorem te77 : tiOf Tryd.prog (tiOf Tryd.prog 77).elem = ⟨true, 1, false, [], false, [.string .empty], true, 0, none, [.str]⟩ := by kernel_rfl
theorem sl77 : SlTy Tryd.prog 77 9 1 16 := ⟨by kernel_rfl, by kernel_rfl, by kernel_rfl⟩
theorem uo77 : (Tryd.prog.underlying 77).isSome = true := by kernel_rfl
theorem ti78 : tiOf Tryd.prog 78 = ⟨true, 1, false, [], false, [.slice none 0 0], true, 106, none, [.slice]⟩ := by kernel_rfl
theorem us78 : Tryd.prog.underlying 78 = some (.slice (tiOf Tryd.prog 78).elem) := by kernel_rfl
theorem te78 : tiOf Tryd.prog (tiOf Tryd.prog 78).elem = ⟨true, 6, true, [(0, 1, false), (1, 5, true)], true, [.string .empty, .int .i64 0, .int .i64 0, .string .empty, .slice none 0 0, .slice none 0 0], true, 0, none, [.str, .int .i64, .int .i64, .str, .slice, .slice]⟩ := by kernel_rfl
theorem sl78 : SlTy Tryd.prog 78 106 6 96 := ⟨by kernel_rfl, by kernel_rfl, by kernel_rfl⟩
theorem uo78 : (Tryd.prog.underlying 78).isSome = true := by kernel_rfl
theorem ti79 : tiOf Tryd.prog 79 = ⟨true, 15, true, [(0, 1, false), (1, 1, false), (2, 1, false), (3, 5, true), (8, 5, true), (13, 1, false), (14, 1, false)], true, [.int .i64 0, .string .empty, .slice none 0 0, .int .i64 0, .int .i64 0, .string .empty, .slice none 0 0, .slice none 0 0, .int .i64 0, .int .i64 0, .string .empty, .slice none 0 0, .slice none 0 0, .int .i64 0, .slice none 0 0], true, 0, none, [.int .i64, .str, .slice, .int .i64, .int .i64, .str, .slice, .slice, .int .i64, .int .i64, .str, .slice, .slice, .int .i64, .slice]⟩ := by kernel_rfl
theorem uo79 : (Tryd.prog.underlying 79).isSome = true := by kernel_rfl
theorem ti80 : tiOf Tryd.prog 80 = ⟨true, 15, true, [(0, 1, false), (1, 1, false), (2, 1, false), (3, 5, true), (8, 5, true), (13, 1, false), (14, 1, false)], true, [.int .i64 0, .string .empty, .slice none 0 0, .int .i64 0, .int .i64 0, .string .empty, .slice none 0 0, .slice none 0 0, .int .i64 0, .int .i64 0, .string .empty, .slice none 0 0, .slice none 0 0, .int .i64 0, .slice none 0 0], true, 0, none, [.int .i64, .str, .slice, .int .i64, .int .i64, .str, .slice, .slice, .int .i64, .int .i64, .str, .slice, .slice, .int .i64, .slice]⟩ := by kernel_rfl
theorem uo80 : (Tryd.prog.underlying 80).isSome = true := by kernel_rfl
theorem ti81 : tiOf Tryd.prog 81 = ⟨true, 1, false, [], false, [.nilFunc], true, 0, none, [.any]⟩ := by kernel_rfl
theorem uo81 : (Tryd.prog.underlying 81).isSome = true := by kernel_rfl
theorem uo82 : (Tryd.prog.underlying 82).isSome = true := by kernel_rfl
theorem ti83 : tiOf Tryd.prog 83 = ⟨true, 1, false, [], false, [.nilFunc], true, 0, none, [.any]⟩ := by kernel_rfl
theorem uo83 : (Tryd.prog.underlying 83).isSome = true := by kernel_rfl
theorem ti84 : tiOf Tryd.prog 84 = ⟨true, 1, false, [], false, [.nilFunc], true, 0, none, [.any]⟩ := by kernel_rfl
theorem uo84 : (Tryd.prog.underlying 84).isSome = true := by kernel_rfl
theorem uo85 : (Tryd.prog.underlying 85).isSome = true := by kernel_rfl
theorem ti86 : tiOf Tryd.prog 86 = ⟨true, 1, false, [], false, [.nilFunc], true, 0, none, [.any]⟩ := by kernel_rfl
theorem uo86 : (Tryd.prog.underlying 86).isSome = true := by kernel_rfl
theorem ti87 : tiOf Tryd.prog 87 = ⟨true, 1, false, [], false, [.nilFunc], true, 0, none, [.any]⟩ := by kernel_rfl
theorem uo87 : (Tryd.prog.underlying 87).isSome = true := by kernel_rfl
theorem ti88 : tiOf Tryd.prog 88 = ⟨true, 1, false, [], false, [.nilFunc], true, 0, none, [.any]⟩ := by kernel_rfl
theorem uo88 : (Tryd.prog.underlying 88).isSome = true := by kernel_rfl
theorem ti89 : tiOf Tryd.prog 89 = ⟨true, 3, true, [(0, 1, false), (1, 1, false), (2, 1, false)], true, [.int .i64 0, .string .empty, .slice none 0 0], true, 0, none, [.int .i64, .str, .slice]⟩ := by kernel_rfl
theorem uo89 : (Tryd.prog.underlying 89).isSome = true := by kernel_rfl
theorem ti90 : tiOf Tryd.prog 90 = ⟨true, 3, true, [(0, 1, false), (1, 1, false), (2, 1, false)], true, [.int .i64 0, .string .empty, .slice none 0 0], true, 0, none, [.int .i64, .str, .slice]⟩ := by kernel_rfl
theorem uo90 : (Tryd.prog.underlying 90).isSome = true := by kernel_rfl
theorem ti91 : tiOf Tryd.prog 91 = ⟨true, 1, false, [], false, [.nilFunc], true, 0, none, [.any]⟩ := by kernel_rfl
theorem uo91 : (Tryd.prog.underlying 91).isSome = true := by kernel_rfl
theorem ti92 : tiOf Tryd.prog 92 = ⟨true, 1, false, [], false, [.nilFunc], true, 0, none, [.any]⟩ := by kernel_rfl
theorem uo92 : (Tryd.prog.underlying 92).isSome = true := by kernel_rfl
theorem ti93 : tiOf Tryd.prog 93 = ⟨true, 1, false, [], false, [.nilFunc], true, 0, none, [.any]⟩ := by kernel_rfl
theorem uo93 : (Tryd.prog.underlying 93).isSome = true := by kernel_rfl
theorem ti94 : tiOf Tryd.prog 94 = ⟨true, 1, false, [], false, [.nilFunc], true, 0, none, [.any]⟩ := by kernel_rfl
theorem uo94 : (Tryd.prog.underlying 94).isSome = true := by kernel_rfl
theorem ti95 : tiOf Tryd.prog 95 = ⟨true, 7, true, [], false, [.string .empty, .string .empty, .string .empty, .string .empty, .string .empty, .string .empty, .string .empty], true, 9, none, [.str, .str, .str, .str, .str, .str, .str]⟩ := by kernel_rfl
theorem ua95 : Tryd.prog.underlying 95 = some (.array 7 9) := by kernel_rfl
theorem uo95 : (Tryd.prog.underlying 95).isSome = true := by kernel_rfl
theorem ti96 : tiOf Tryd.prog 96 = ⟨true, 1, false, [], false, [.nilFunc], true, 0, none, [.any]⟩ := by kernel_rfl
theorem uo96 : (Tryd.prog.underlying 96).isSome = true := by kernel_rfl
theorem ti97 : tiOf Tryd.prog 97 = ⟨true, 1, false, [], false, [.nilFunc], true, 0, none, [.any]⟩ := by kernel_rfl
theorem uo97 : (Tryd.prog.underlying 97).isSome = true := by kernel_rfl
theorem ti98 : tiOf Tryd.prog 98 = ⟨true, 1, false, [], false, [.pointer none], true, 5, none, [.ptr]⟩ := by kernel_rfl
theorem up98 : Tryd.prog.underlying 98 = some (.pointer 5) := by kernel_rfl
theorem uo98 : (Tryd.prog.underlying 98).isSome = true := by kernel_rfl
theorem ti99 : tiOf Tryd.prog 99 = ⟨true, 1, false, [], false, [.nilFunc], true, 0, none, [.any]⟩ := by kernel_rfl
theorem uo99 : (Tryd.prog.underlying 99).isSome = true := by kernel_rfl
theorem uo100 : (Tryd.prog.underlying 100).isSome = true := by kernel_rfl
theorem ti101 : tiOf Tryd.prog 101 = ⟨true, 1, false, [], false, [.nilFunc], true, 0, none, [.any]⟩ := by kernel_rfl
theorem uo101 : (Tryd.prog.underlying 101).isSome = true := by kernel_rfl
theorem ti102 : tiOf Tryd.prog 102 = ⟨true, 1, false, [], false, [.nilFunc], true, 0, none, [.any]⟩ := by kernel_rfl
theorem uo102 : (Tryd.prog.underlying 102).isSome = true := by kernel_rfl
theorem ti103 : tiOf Tryd.prog 103 = ⟨true, 1, false, [], false, [.map none], true, 0, none, [.map]⟩ := by kernel_rfl
theorem mt103 : MapTy Tryd.prog 103 9 3 := ⟨by kernel_rfl, by kernel_rfl, by kernel_rfl⟩
theorem uo103 : (Tryd.prog.underlying 103).isSome = true := by kernel_rfl
theorem ti104 : tiOf Tryd.prog 104 = ⟨true, 1, false, [], false, [.nilFunc], true, 0, none, [.any]⟩ := by kernel_rfl
theorem uo104 : (Tryd.prog.underlying 104).isSome = true := by kernel_rfl
theorem ti105 : tiOf Tryd.prog 105 = ⟨true, 6, true, [(0, 1, false), (1, 5, true)], true, [.string .empty, .int .i64 0, .int .i64 0, .string .empty, .slice none 0 0, .slice none 0 0], true, 0, none, [.str, .int .i64, .int .i64, .str, .slice, .slice]⟩ := by kernel_rfl
theorem uo105 : (Tryd.prog.underlying 105).isSome = true := by kernel_rfl
theorem ti106 : tiOf Tryd.prog 106 = ⟨true, 6, true, [(0, 1, false), (1, 5, true)], true, [.string .empty, .int .i64 0, .int .i64 0, .string .empty, .slice none 0 0, .slice none 0 0], true, 0, none, [.str, .int .i64, .int .i64, .str, .slice, .slice]⟩ := by kernel_rfl
theorem uo106 : (Tryd.prog.underlying 106).isSome = true := by kernel_rfl
theorem ti107 : tiOf Tryd.prog 107 = ⟨true, 1, false, [], false, [.nilFunc], true, 0, none, [.any]⟩ := by kernel_rfl
theorem uo107 : (Tryd.prog.underlying 107).isSome = true := by kernel_rfl
theorem ti108 : tiOf Tryd.prog 108 = ⟨true, 1, false, [], false, [.nilFunc], true, 0, none, [.any]⟩ := by kernel_rfl
theorem uo108 : (Tryd.prog.underlying 108).isSome = true := by kernel_rfl
theorem ti109 : tiOf Tryd.prog 109 = ⟨true, 1, false, [], false, [.nilFunc], true, 0, none, [.any]⟩ := by kernel_rfl
theorem uo109 : (Tryd.prog.underlying 109).isSome = true := by kernel_rfl
theorem ti110 : tiOf Tryd.prog 110 = ⟨true, 1, false, [], false, [.nilFunc], true, 0, none, [.any]⟩ := by kernel_rfl
theorem uo110 : (Tryd.prog.underlying 110).isSome = true := by kernel_rfl
theorem ti111 : tiOf Tryd.prog 111 = ⟨true, 1, false, [], false, [.nilFunc], true, 0, none, [.any]⟩ := by kernel_rfl
theorem uo111 : (Tryd.prog.underlying 111).isSome = true := by kernel_rfl
theorem ti112 : tiOf Tryd.prog 112 = ⟨true, 1, false, [], false, [.nilFunc], true, 0, none, [.any]⟩ := by kernel_rfl
theorem uo112 : (Tryd.prog.underlying 112).isSome = true := by kernel_rfl
theorem ti113 : tiOf Tryd.prog 113 = ⟨true, 1, false, [], false, [.nilFunc], true, 0, none, [.any]⟩ := by kernel_rfl
theorem uo113 : (Tryd.prog.underlying 113).isSome = true := by kernel_rfl
theorem ti114 : tiOf Tryd.prog 114 = ⟨true, 1, false, [], false, [.pointer none], true, 0, none, [.any]⟩ := by kernel_rfl
theorem uu114 : Tryd.prog.underlying 114 = some .unsafePointer := by kernel_rfl
theorem uo114 : (Tryd.prog.underlying 114).isSome = true := by kernel_rfl
theorem ti115 : tiOf Tryd.prog 115 = ⟨true, 1, false, [], false, [.nilFunc], true, 0, none, [.any]⟩ := by kernel_rfl
theorem uo115 : (Tryd.prog.underlying 115).isSome = true := by kernel_rfl
theorem ti116 : tiOf Tryd.prog 116 = ⟨true, 1, false, [], false, [.nilFunc], true, 0, none, [.any]⟩ := by kernel_rfl
theorem uo116 : (Tryd.prog.underlying 116).isSome = true := by kernel_rfl
theorem ti117 : tiOf Tryd.prog 117 = ⟨true, 4, true, [], false, [.string .empty, .string .empty, .string .empty, .string .empty], true, 9, none, [.str, .str, .str, .str]⟩ := by kernel_rfl
theorem ua117 : Tryd.prog.underlying 117 = some (.array 4 9) := by kernel_rfl
theorem uo117 : (Tryd.prog.underlying 117).isSome = true := by kernel_rfl
theorem ti118 : tiOf Tryd.prog 118 = ⟨true, 1, false, [], false, [.nilFunc], true, 0, none, [.any]⟩ := by kernel_rfl
theorem uo118 : (Tryd.prog.underlying 118).isSome = true := by kernel_rfl
theorem ti119 : tiOf Tryd.prog 119 = ⟨true, 1, false, [], false, [.int .i64 0], true, 0, none, [.int .i64]⟩ := by kernel_rfl
theorem ui119 : Tryd.prog.underlying 119 = some (.int .i64) := by kernel_rfl
theorem uo119 : (Tryd.prog.underlying 119).isSome = true := by kernel_rfl
theorem uo120 : (Tryd.prog.underlying 120).isSome = true := by kernel_rfl
theorem ti121 : tiOf Tryd.prog 121 = ⟨true, 1, false, [], false, [.nilFunc], true, 0, none, [.any]⟩ := by kernel_rfl
theorem uo121 : (Tryd.prog.underlying 121).isSome = true := by kernel_rfl
theorem ti122 : tiOf Tryd.prog 122 = ⟨true, 1, false, [], false, [.pointer none], true, 136, none, [.ptr]⟩ := by kernel_rfl
theorem up122 : Tryd.prog.underlying 122 = some (.pointer 136) := by kernel_rfl
theorem uo122 : (Tryd.prog.underlying 122).isSome = true := by kernel_rfl
theorem ti123 : tiOf Tryd.prog 123 = ⟨true, 1, false, [], false, [.nilFunc], true, 0, none, [.any]⟩ := by kernel_rfl
theorem uo123 : (Tryd.prog.underlying 123).isSome = true := by kernel_rfl
theorem ti124 : tiOf Tryd.prog 124 = ⟨true, 1, false, [], false, [.nilFunc], true, 0, none, [.any]⟩ := by kernel_rfl
theorem uo124 : (Tryd.prog.underlying 124).isSome = true := by kernel_rfl
theorem ti125 : tiOf Tryd.prog 125 = ⟨true, 24, true, [], false, [.int .u8 0, .int .u8 0, .int .u8 0, .int .u8 0, .int .u8 0, .int .u8 0, .int .u8 0, .int .u8 0, .int .u8 0, .int .u8 0, .int .u8 0, .int .u8 0, .int .u8 0, .int .u8 0, .int .u8 0, .int .u8 0, .int .u8 0, .int .u8 0, .int .u8 0, .int .u8 0, .int .u8 0, .int .u8 0, .int .u8 0, .int .u8 0], true, 5, none, [.int .u8, .int .u8, .int .u8, .int .u8, .int .u8, .int .u8, .int .u8, .int .u8, .int .u8, .int .u8, .int .u8, .int .u8, .int .u8, .int .u8, .int .u8, .int .u8, .int .u8, .int .u8, .int .u8, .int .u8, .int .u8, .int .u8, .int .u8, .int .u8]⟩ := by kernel_rfl
theorem ua125 : Tryd.prog.underlying 125 = some (.array 24 5) := by kernel_rfl
theorem uo125 : (Tryd.prog.underlying 125).isSome = true := by kernel_rfl
theorem ti126 : tiOf Tryd.prog 126 = ⟨true, 1, false, [], false, [.int .u64 0], true, 0, none, [.int .u64]⟩ := by kernel_rfl
theorem ui126 : Tryd.prog.underlying 126 = some (.int .u64) := by kernel_rfl
theorem uo126 : (Tryd.prog.underlying 126).isSome = true := by kernel_rfl
theorem ti127 : tiOf Tryd.prog 127 = ⟨true, 1, false, [], false, [.nilFunc], true, 0, none, [.any]⟩ := by kernel_rfl
theorem uo127 : (Tryd.prog.underlying 127).isSome = true := by kernel_rfl
theorem ti128 : tiOf Tryd.prog 128 = ⟨true, 1, false, [], false, [.nilFunc], true, 0, none, [.any]⟩ := by kernel_rfl
theorem uo128 : (Tryd.prog.underlying 128).isSome = true := by kernel_rfl
theorem uo129 : (Tryd.prog.underlying 129).isSome = true := by kernel_rfl
theorem ti130 : tiOf Tryd.prog 130 = ⟨true, 1, false, [], false, [.nilFunc], true, 0, none, [.any]⟩ := by kernel_rfl
theorem uo130 : (Tryd.prog.underlying 130).isSome = true := by kernel_rfl
theorem uo131 : (Tryd.prog.underlying 131).isSome = true := by kernel_rfl
theorem ti132 : tiOf Tryd.prog 132 = ⟨true, 1, false, [], false, [.nilFunc], true, 0, none, [.any]⟩ := by kernel_rfl
theorem uo132 : (Tryd.prog.underlying 132).isSome = true := by kernel_rfl
theorem ti133 : tiOf Tryd.prog 133 = ⟨true, 1, false, [], false, [.int .u64 0], true, 0, none, [.int .u64]⟩ := by kernel_rfl
theorem ui133 : Tryd.prog.underlying 133 = some (.int .u64) := by kernel_rfl
theorem uo133 : (Tryd.prog.underlying 133).isSome = true := by kernel_rfl
theorem ti134 : tiOf Tryd.prog 134 = ⟨true, 1, false, [], false, [.nilFunc], true, 0, none, [.any]⟩ := by kernel_rfl
theorem uo134 : (Tryd.prog.underlying 134).isSome = true := by kernel_rfl
theorem ti135 : tiOf Tryd.prog 135 = ⟨true, 3, true, [(0, 1, false), (1, 1, false), (2, 1, false)], true, [.string .empty, .string .empty, .nilIface], true, 0, none, [.str, .str, .any]⟩ := by kernel_rfl
theorem uo135 : (Tryd.prog.underlying 135).isSome = true := by kernel_rfl
theorem ti136 : tiOf Tryd.prog 136 = ⟨true, 3, true, [(0, 1, false), (1, 1, false), (2, 1, false)], true, [.string .empty, .string .empty, .nilIface], true, 0, none, [.str, .str, .any]⟩ := by kernel_rfl
theorem uo136 : (Tryd.prog.underlying 136).isSome = true := by kernel_rfl
theorem ti137 : tiOf Tryd.prog 137 = ⟨true, 1, false, [], false, [.nilFunc], true, 0, none, [.any]⟩ := by kernel_rfl
theorem uo137 : (Tryd.prog.underlying 137).isSome = true := by kernel_rfl
theorem ti138 : tiOf Tryd.prog 138 = ⟨true, 1, false, [], false, [.nilFunc], true, 0, none, [.any]⟩ := by kernel_rfl
theorem uo138 : (Tryd.prog.underlying 138).isSome = true := by kernel_rfl
theorem ti139 : tiOf Tryd.prog 139 = ⟨true, 1, false, [], false, [.nilFunc], true, 0, none, [.any]⟩ := by kernel_rfl
theorem uo139 : (Tryd.prog.underlying 139).isSome = true := by kernel_rfl
theorem ti140 : tiOf Tryd.prog 140 = ⟨true, 20, true, [], false, [.int .u64 0, .int .u64 0, .int .u64 0, .int .u64 0, .int .u64 0, .int .u64 0, .int .u64 0, .int .u64 0, .int .u64 0, .int .u64 0, .int .u64 0, .int .u64 0, .int .u64 0, .int .u64 0, .int .u64 0, .int .u64 0, .int .u64 0, .int .u64 0, .int .u64 0, .int .u64 0], true, 126, none, [.int .u64, .int .u64, .int .u64, .int .u64, .int .u64, .int .u64, .int .u64, .int .u64, .int .u64, .int .u64, .int .u64, .int .u64, .int .u64, .int .u64, .int .u64, .int .u64, .int .u64, .int .u64, .int .u64, .int .u64]⟩ := by kernel_rfl
theorem ua140 : Tryd.prog.underlying 140 = some (.array 20 126) := by kernel_rfl
theorem uo140 : (Tryd.prog.underlying 140).isSome = true := by kernel_rfl
theorem ti141 : tiOf Tryd.prog 141 = ⟨true, 1, false, [], false, [.int .u32 0], true, 0, none, [.int .u32]⟩ := by kernel_rfl
theorem ui141 : Tryd.prog.underlying 141 = some (.int .u32) := by kernel_rfl
theorem uo141 : (Tryd.prog.underlying 141).isSome = true := by kernel_rfl
theorem ti143 : tiOf Tryd.prog 143 = ⟨true, 1, false, [], false, [.nilFunc], true, 0, none, [.any]⟩ := by kernel_rfl
theorem uo143 : (Tryd.prog.underlying 143).isSome = true := by kernel_rfl
theorem ti144 : tiOf Tryd.prog 144 = ⟨true, 1, false, [], false, [.nilFunc], true, 0, none, [.any]⟩ := by kernel_rfl
theorem uo144 : (Tryd.prog.underlying 144).isSome = true := by kernel_rfl
theorem ti145 : tiOf Tryd.prog 145 = ⟨true, 1, false, [], false, [.nilFunc], true, 0, none, [.any]⟩ := by kernel_rfl
theorem uo145 : (Tryd.prog.underlying 145).isSome = true := by kernel_rfl
theorem ti146 : tiOf Tryd.prog 146 = ⟨true, 1, false, [], false, [.pointer none], true, 148, none, [.ptr]⟩ := by kernel_rfl
theorem up146 : Tryd.prog.underlying 146 = some (.pointer 148) := by kernel_rfl
theorem uo146 : (Tryd.prog.underlying 146).isSome = true := by kernel_rfl
theorem ti147 : tiOf Tryd.prog 147 = ⟨true, 1, true, [(0, 1, false)], true, [.string .empty], true, 0, none, [.str]⟩ := by kernel_rfl
theorem uo147 : (Tryd.prog.underlying 147).isSome = true := by kernel_rfl
theorem ti148 : tiOf Tryd.prog 148 = ⟨true, 1, true, [(0, 1, false)], true, [.string .empty], true, 0, none, [.str]⟩ := by kernel_rfl
theorem uo148 : (Tryd.prog.underlying 148).isSome = true := by kernel_rfl
theorem ti149 : tiOf Tryd.prog 149 = ⟨true, 1, false, [], false, [.nilFunc], true, 0, none, [.any]⟩ := by kernel_rfl
theorem uo149 : (Tryd.prog.underlying 149).isSome = true := by kernel_rfl
theorem ti150 : tiOf Tryd.prog 150 = ⟨true, 32, true, [], false, [.int .u8 0, .int .u8 0, .int .u8 0, .int .u8 0, .int .u8 0, .int .u8 0, .int .u8 0, .int .u8 0, .int .u8 0, .int .u8 0, .int .u8 0, .int .u8 0, .int .u8 0, .int .u8 0, .int .u8 0, .int .u8 0, .int .u8 0, .int .u8 0, .int .u8 0, .int .u8 0, .int .u8 0, .int .u8 0, .int .u8 0, .int .u8 0, .int .u8 0, .int .u8 0, .int .u8 0, .int .u8 0, .int .u8 0, .int .u8 0, .int .u8 0, .int .u8 0], true, 5, none, [.int .u8, .int .u8, .int .u8, .int .u8, .int .u8, .int .u8, .int .u8, .int .u8, .int .u8, .int .u8, .int .u8, .int .u8, .int .u8, .int .u8, .int .u8, .int .u8, .int .u8, .int .u8, .int .u8, .int .u8, .int .u8, .int .u8, .int .u8, .int .u8, .int .u8, .int .u8, .int .u8, .int .u8, .int .u8, .int .u8, .int .u8, .int .u8]⟩ := by kernel_rfl
theorem ua150 : Tryd.prog.underlying 150 = some (.array 32 5) := by kernel_rfl
theorem uo150 : (Tryd.prog.underlying 150).isSome = true := by kernel_rfl
theorem ti152 : tiOf Tryd.prog 152 = ⟨true, 4, true, [(0, 1, false), (1, 1, false), (2, 1, false), (3, 1, false)], true, [.pointer none, .pointer none, .pointer none, .string .empty], true, 0, none, [.ptr, .ptr, .ptr, .str]⟩ := by kernel_rfl
theorem uo152 : (Tryd.prog.underlying 152).isSome = true := by kernel_rfl
theorem ti153 : tiOf Tryd.prog 153 = ⟨true, 4, true, [(0, 1, false), (1, 1, false), (2, 1, false), (3, 1, false)], true, [.pointer none, .pointer none, .pointer none, .string .empty], true, 0, none, [.ptr, .ptr, .ptr, .str]⟩ := by kernel_rfl
theorem uo153 : (Tryd.prog.underlying 153).isSome = true := by kernel_rfl
theorem ti154 : tiOf Tryd.prog 154 = ⟨true, 0, true, [], false, [], true, 16, none, []⟩ := by kernel_rfl
theorem ua154 : Tryd.prog.underlying 154 = some (.array 0 16) := by kernel_rfl
theorem uo154 : (Tryd.prog.underlying 154).isSome = true := by kernel_rfl
theorem ti155 : tiOf Tryd.prog 155 = ⟨true, 0, true, [(0, 0, true)], true, [], true, 0, none, []⟩ := by kernel_rfl
theorem uo155 : (Tryd.prog.underlying 155).isSome = true := by kernel_rfl
theorem ti156 : tiOf Tryd.prog 156 = ⟨true, 0, true, [(0, 0, true)], true, [], true, 0, none, []⟩ := by kernel_rfl
theorem uo156 : (Tryd.prog.underlying 156).isSome = true := by kernel_rfl
theorem ti157 : tiOf Tryd.prog 157 = ⟨true, 1, false, [], false, [.nilFunc], true, 0, none, [.any]⟩ := by kernel_rfl
theorem uo157 : (Tryd.prog.underlying 157).isSome = true := by kernel_rfl
theorem ti158 : tiOf Tryd.prog 158 = ⟨true, 1, false, [], false, [.int .u8 0], true, 0, none, [.int .u8]⟩ := by kernel_rfl
theorem ui158 : Tryd.prog.underlying 158 = some (.int .u8) := by kernel_rfl
theorem uo158 : (Tryd.prog.underlying 158).isSome = true := by kernel_rfl
theorem ti159 : tiOf Tryd.prog 159 = ⟨true, 1, false, [], false, [.int .u8 0], true, 0, none, [.int .u8]⟩ := by kernel_rfl
theorem ui159 : Tryd.prog.underlying 159 = some (.int .u8) := by kernel_rfl
theorem uo159 : (Tryd.prog.underlying 159).isSome = true := by kernel_rfl
theorem ti160 : tiOf Tryd.prog 160 = ⟨true, 1, false, [], false, [.nilFunc], true, 0, none, [.any]⟩ := by kernel_rfl
theorem uo160 : (Tryd.prog.underlying 160).isSome = true := by kernel_rfl
theorem ti161 : tiOf Tryd.prog 161 = ⟨true, 1, false, [], false, [.int .i32 0], true, 0, none, [.int .i32]⟩ := by kernel_rfl
theorem ui161 : Tryd.prog.underlying 161 = some (.int .i32) := by kernel_rfl
theorem uo161 : (Tryd.prog.underlying 161).isSome = true := by kernel_rfl
theorem ti162 : tiOf Tryd.prog 162 = ⟨true, 1, false, [], false, [.int .i32 0], true, 0, none, [.int .i32]⟩ := by kernel_rfl
theorem ui162 : Tryd.prog.underlying 162 = some (.int .i32) := by kernel_rfl
theorem uo162 : (Tryd.prog.underlying 162).isSome = true := by kernel_rfl
theorem ti163 : tiOf Tryd.prog 163 = ⟨true, 11, true, [(0, 1, false), (1, 1, false), (2, 1, false), (3, 1, false), (4, 1, false), (5, 1, false), (6, 1, false), (7, 1, false), (8, 1, false), (9, 1, false), (10, 1, false)], true, [.int .u64 0, .int .u64 0, .int .u32 0, .int .u8 0, .int .u8 0, .int .u8 0, .int .u8 0, .nilFunc, .pointer none, .int .i32 0, .int .i32 0], true, 0, none, [.int .u64, .int .u64, .int .u32, .int .u8, .int .u8, .int .u8, .int .u8, .any, .ptr, .int .i32, .int .i32]⟩ := by kernel_rfl
theorem uo163 : (Tryd.prog.underlying 163).isSome = true := by kernel_rfl
theorem ti164 : tiOf Tryd.prog 164 = ⟨true, 11, true, [(0, 1, false), (1, 1, false), (2, 1, false), (3, 1, false), (4, 1, false), (5, 1, false), (6, 1, false), (7, 1, false), (8, 1, false), (9, 1, false), (10, 1, false)], true, [.int .u64 0, .int .u64 0, .int .u32 0, .int .u8 0, .int .u8 0, .int .u8 0, .int .u8 0, .nilFunc, .pointer none, .int .i32 0, .int .i32 0], true, 0, none, [.int .u64, .int .u64, .int .u32, .int .u8, .int .u8, .int .u8, .int .u8, .any, .ptr, .int .i32, .int .i32]⟩ := by kernel_rfl
theorem uo164 : (Tryd.prog.underlying 164).isSome = true := by kernel_rfl
theorem ca2 : callable Tryd.prog 2 = true := by kernel_rfl
theorem ca3 : callable Tryd.prog 3 = true := by kernel_rfl
theorem ca4 : callable Tryd.prog 4 = true := by kernel_rfl
theorem ca5 : callable Tryd.prog 5 = true := by kernel_rfl
theorem ca6 : callable Tryd.prog 6 = true := by kernel_rfl
theorem ca7 : callable Tryd.prog 7 = true := by kernel_rfl
theorem ca8 : callable Tryd.prog 8 = true := by kernel_rfl
theorem ca9 : callable Tryd.prog 9 = true := by kernel_rfl
theorem ca10 : callable Tryd.prog 10 = true := by kernel_rfl
theorem ca11 : callable Tryd.prog 11 = true := by kernel_rfl
theorem ca12 : callable Tryd.prog 12 = true := by kernel_rfl
theorem ca13 : callable Tryd.prog 13 = true := by kernel_rfl
theorem ca14 : callable Tryd.prog 14 = true := by kernel_rfl
theorem ca15 : callable Tryd.prog 15 = true := by kernel_rfl
theorem ca16 : callable Tryd.prog 16 = true := by kernel_rfl
theorem ca17 : callable Tryd.prog 17 = true := by kernel_rfl
theorem ca18 : callable Tryd.prog 18 = true := by kernel_rfl
theorem ca19 : callable Tryd.prog 19 = true := by kernel_rfl
theorem ca20 : callable Tryd.prog 20 = true := by kernel_rfl
theorem ca21 : callable Tryd.prog 21 = true := by kernel_rfl
theorem ca22 : callable Tryd.prog 22 = true := by kernel_rfl
theorem ca23 : callable Tryd.prog 23 = true := by kernel_rfl
theorem ca24 : callable Tryd.prog 24 = true := by kernel_rfl
theorem ca25 : callable Tryd.prog 25 = true := by kernel_rfl
theorem ca26 : callable Tryd.prog 26 = true := by kernel_rfl
theorem ca27 : callable Tryd.prog 27 = true := by kernel_rfl
theorem ca28 : callable Tryd.prog 28 = true := by kernel_rfl
theorem ca29 : callable Tryd.prog 29 = true := by kernel_rfl
theorem ca30 : callable Tryd.prog 30 = true := by kernel_rfl
theorem ca31 : callable Tryd.prog 31 = true := by kernel_rfl
theorem ca32 : callable Tryd.prog 32 = true := by kernel_rfl
theorem ca33 : callable Tryd.prog 33 = true := by kernel_rfl
theorem ca34 : callable Tryd.prog 34 = true := by kernel_rfl
theorem ca35 : callable Tryd.prog 35 = true := by kernel_rfl
theorem ca36 : callable Tryd.prog 36 = true := by kernel_rfl
theorem ca37 : callable Tryd.prog 37 = true := by kernel_rfl
theorem ca38 : callable Tryd.prog 38 = true := by kernel_rfl
theorem ca39 : callable Tryd.prog 39 = true := by kernel_rfl
theorem ca40 : callable Tryd.prog 40 = true := by kernel_rfl
theorem ca41 : callable Tryd.prog 41 = true := by kernel_rfl
theorem ca42 : callable Tryd.prog 42 = true := by kernel_rfl
theorem ca43 : callable Tryd.prog 43 = true := by kernel_rfl
theorem ca44 : callable Tryd.prog 44 = true := by kernel_rfl
theorem ca45 : callable Tryd.prog 45 = true := by kernel_rfl
theorem ca46 : callable Tryd.prog 46 = true := by kernel_rfl
theorem ca47 : callable Tryd.prog 47 = true := by kernel_rfl
theorem ca48 : callable Tryd.prog 48 = true := by kernel_rfl
theorem ca49 : callable Tryd.prog 49 = true := by kernel_rfl
theorem ca50 : callable Tryd.prog 50 = true := by kernel_rfl
theorem ca51 : callable Tryd.prog 51 = true := by kernel_rfl
theorem ca52 : callable Tryd.prog 52 = true := by kernel_rfl
theorem ca53 : callable Tryd.prog 53 = true := by kernel_rfl
theorem ca54 : callable Tryd.prog 54 = true := by kernel_rfl
theorem ca55 : callable Tryd.prog 55 = true := by kernel_rfl
theorem ca56 : callable Tryd.prog 56 = true := by kernel_rfl
theorem ca57 : callable Tryd.prog 57 = true := by kernel_rfl
theorem ca58 : callable Tryd.prog 58 = true := by kernel_rfl
theorem ca59 : callable Tryd.prog 59 = true := by kernel_rfl
theorem ca60 : callable Tryd.prog 60 = true := by kernel_rfl
theorem ca61 : callable Tryd.prog 61 = true := by kernel_rfl
theorem ca62 : callable Tryd.prog 62 = true := by kernel_rfl
theorem ca63 : callable Tryd.prog 63 = true := by kernel_rfl
theorem ca64 : callable Tryd.prog 64 = true := by kernel_rfl
theorem ca65 : callable Tryd.prog 65 = true := by kernel_rfl
theorem ca66 : callable Tryd.prog 66 = true := by kernel_rfl
theorem ca67 : callable Tryd.prog 67 = true := by kernel_rfl
theorem ca68 : callable Tryd.prog 68 = true := by kernel_rfl
theorem ca69 : callable Tryd.prog 69 = true := by kernel_rfl
theorem ca70 : callable Tryd.prog 70 = true := by kernel_rfl
theorem ca71 : callable Tryd.prog 71 = true := by kernel_rfl
theorem ca72 : callable Tryd.prog 72 = true := by kernel_rfl
theorem ca73 : callable Tryd.prog 73 = true := by kernel_rfl
theorem ca74 : callable Tryd.prog 74 = true := by kernel_rfl
theorem ca75 : callable Tryd.prog 75 = true := by kernel_rfl
theorem ca76 : callable Tryd.prog 76 = true := by kernel_rfl
theorem ca77 : callable Tryd.prog 77 = true := by kernel_rfl
theorem ca79 : callable Tryd.prog 79 = true := by kernel_rfl
theorem ca80 : callable Tryd.prog 80 = true := by kernel_rfl
theorem ca81 : callable Tryd.prog 81 = true := by kernel_rfl
theorem ca82 : callable Tryd.prog 82 = true := by kernel_rfl
theorem ca83 : callable Tryd.prog 83 = true := by kernel_rfl
theorem ca84 : callable Tryd.prog 84 = true := by kernel_rfl
theorem ca85 : callable Tryd.prog 85 = true := by kernel_rfl
theorem ca86 : callable Tryd.prog 86 = true := by kernel_rfl
theorem ca87 : callable Tryd.prog 87 = true := by kernel_rfl
theorem ca88 : callable Tryd.prog 88 = true := by kernel_rfl
theorem ca89 : callable Tryd.prog 89 = true := by kernel_rfl
theorem ca90 : callable Tryd.prog 90 = true := by kernel_rfl
theorem ca91 : callable Tryd.prog 91 = true := by kernel_rfl
theorem ca92 : callable Tryd.prog 92 = true := by kernel_rfl
theorem ca93 : callable Tryd.prog 93 = true := by kernel_rfl
theorem ca94 : callable Tryd.prog 94 = true := by kernel_rfl
theorem ca96 : callable Tryd.prog 96 = true := by kernel_rfl
theorem ca97 : callable Tryd.prog 97 = true := by kernel_rfl
theorem ca98 : callable Tryd.prog 98 = true := by kernel_rfl
theorem ca99 : callable Tryd.prog 99 = true := by kernel_rfl
theorem ca100 : callable Tryd.prog 100 = true := by kernel_rfl
theorem ca101 : callable Tryd.prog 101 = true := by kernel_rfl
theorem ca102 : callable Tryd.prog 102 = true := by kernel_rfl
theorem ca103 : callable Tryd.prog 103 = true := by kernel_rfl
theorem ca104 : callable Tryd.prog 104 = true := by kernel_rfl
theorem ca137 : callable Tryd.prog 137 = true := by kernel_rfl
theorem mixed : Tryd.prog.follows .mixedOrders = true := by kernel_rfl
end Go.Proofs.YtneaancanfpdhaaDoor
namespace Go.Proofs.YtneaancanfpdhaaDoor
open Go Go.Vd Go.RowKit
attribute [local irreducible] Runs OpsR OpR FloatR AnyR
variable {gl : Nat → List D}

end Go.Proofs.YtneaancanfpdhaaDoor
namespace Go.Proofs.YtneaancanfpdhaaDoor
open Go Go.Vd Go.RowKit
attribute [local irreducible] Runs OpsR OpR FloatR AnyR
variable {gl : Nat → List D}

theorem nameByte_spec (c : Int) (first : Bool) : TriD Tryd.prog gl 66 [.v (.int .u8 c), .v (.bool first)] (· = .v (.bool (nameB c first))) := by
  refine triD_of_runs Tryd.func66 rfl Tryd.ntmps66 (rs := [.tmp 4]) rfl rfl rfl ?_
  refine sr ?_; refine o1 (asg ?_); refine nx ?_; refine sr ?_; refine o1 (mv ?_); refine o1 (ige ?_); refine o1 (mv ?_)
  apply ops_and (yt := 10) (d := 8) 2 rfl rfl rfl (.none rfl) rfl rfl
  case h1 =>
    intro hb5 hK
    have hc := hb5; (try simp only [nrm, Int.reduceEq, Int.reduceNe, Int.reduceLT, Int.reduceLE] at hc)
    refine gye ?_ (hbw := by exact hb5); refine o1 (mv ?_); refine gye ?_ (hbw := by exact hb5); refine o1 (ile ?_); exact hK [_, _] rfl rfl
  case h2 =>
    intro hb5 hK; refine gno ?_ (hbw := by exact hb5); refine gno ?_ (hbw := by exact hb5); exact hK [_, _] rfl
  refine o1 (mv ?_)
  apply ops_or (yt := 18) (d := 12) 6 rfl rfl rfl (.none rfl) rfl rfl
  case h1 =>
    intro hb12 hK
    have hc := hb12; (try simp only [nrm, Int.reduceEq, Int.reduceNe, Int.reduceLT, Int.reduceLE] at hc)
    refine gye ?_ (hbw := by exact hb12); refine o1 (mv ?_); refine gye ?_ (hbw := by exact hb12); refine o1 (ige ?_); refine gye ?_ (hbw := by exact hb12); refine o1 (mv ?_)
    apply ops_and (yt := 17) (d := 15) 2 rfl rfl rfl (.yes rfl rfl rfl hb12) rfl rfl
    case h1 =>
      intro hb19 hK
      have hc := hb19; (try simp only [nrm, Int.reduceEq, Int.reduceNe, Int.reduceLT, Int.reduceLE] at hc)
      refine gye ?_ (hbw := by exact hb19); refine o1 (mv ?_); refine gye ?_ (hbw := by exact hb19); refine o1 (ile ?_); exact hK [_, _] rfl rfl
    case h2 =>
      intro hb19 hK; refine gno ?_ (hbw := by exact hb19); refine gno ?_ (hbw := by exact hb19); exact hK [_, _] rfl
    exact hK [_, _, _, _] rfl rfl
  case h2 =>
    intro hb12 hK; refine gno ?_ (hbw := by exact hb12); refine gno ?_ (hbw := by exact hb12); refine gno ?_ (hbw := by exact hb12); refine gud ?_; refine gud ?_; refine gno ?_ (hbw := by exact hb12); exact hK [_, _, _, _, _, _] rfl
  refine o1 (mv ?_)
  apply ops_or (yt := 22) (d := 20) 2 rfl rfl rfl (.none rfl) rfl rfl
  case h1 =>
    intro hb28 hK
    have hc := hb28; (try simp only [nrm, Int.reduceEq, Int.reduceNe, Int.reduceLT, Int.reduceLE] at hc)
    refine gye ?_ (hbw := by exact hb28); refine o1 (mv ?_); refine gye ?_ (hbw := by exact hb28); refine o1 (ieq ?_); exact hK [_, _] rfl rfl
  case h2 =>
    intro hb28 hK; refine gno ?_ (hbw := by exact hb28); refine gno ?_ (hbw := by exact hb28); exact hK [_, _] rfl
  refine o1 (asg ?_); refine nx ?_; refine kp [5, 0, 1] ?_; refine sr ?_; refine o1 (mv ?_); refine o1 (mv ?_)
  apply ops_or (yt := 43) (d := 25) 18 rfl rfl rfl (.none rfl) rfl rfl
  case h1 =>
    intro hb2 hK
    have hc := hb2; (try simp only [nrm, Int.reduceEq, Int.reduceNe, Int.reduceLT, Int.reduceLE] at hc)
    refine gye ?_ (hbw := by exact hb2); refine o1 (mv ?_); refine gye ?_ (hbw := by exact hb2); refine o1 (f_not ?_); refine gye ?_ (hbw := by exact hb2); refine o1 (mv ?_)
    apply ops_and (yt := 42) (d := 28) 14 rfl rfl rfl (.yes rfl rfl rfl hb2) rfl rfl
    case h1 =>
      intro hb9 hK
      have hc := hb9; (try simp only [nrm, Int.reduceEq, Int.reduceNe, Int.reduceLT, Int.reduceLE] at hc)
      refine gye ?_ (hbw := by exact hb9); refine o1 (mv ?_); refine gye ?_ (hbw := by exact hb9); refine o1 (ige ?_); refine gye ?_ (hbw := by exact hb9); refine o1 (mv ?_)
      apply ops_and (yt := 33) (d := 31) 2 rfl rfl rfl (.yes rfl rfl rfl hb9) rfl rfl
      case h1 =>
        intro hb15 hK
        have hc := hb15; (try simp only [nrm, Int.reduceEq, Int.reduceNe, Int.reduceLT, Int.reduceLE] at hc)
        refine gye ?_ (hbw := by exact hb15); refine o1 (mv ?_); refine gye ?_ (hbw := by exact hb15); refine o1 (ile ?_); exact hK [_, _] rfl rfl
      case h2 =>
        intro hb15 hK; refine gno ?_ (hbw := by exact hb15); refine gno ?_ (hbw := by exact hb15); exact hK [_, _] rfl
      refine gye ?_ (hbw := by exact hb9); refine o1 (mv ?_)
      apply ops_or (yt := 37) (d := 35) 2 rfl rfl rfl (.yes rfl rfl rfl hb9) rfl rfl
      case h1 =>
        intro hb22 hK
        have hc := hb22; (try simp only [nrm, Int.reduceEq, Int.reduceNe, Int.reduceLT, Int.reduceLE] at hc)
        refine gye ?_ (hbw := by exact hb22); refine o1 (mv ?_); refine gye ?_ (hbw := by exact hb22); refine o1 (ieq ?_); exact hK [_, _] rfl rfl
      case h2 =>
        intro hb22 hK; refine gno ?_ (hbw := by exact hb22); refine gno ?_ (hbw := by exact hb22); exact hK [_, _] rfl
      refine gye ?_ (hbw := by exact hb9); refine o1 (mv ?_)
      apply ops_or (yt := 41) (d := 39) 2 rfl rfl rfl (.yes rfl rfl rfl hb9) rfl rfl
      case h1 =>
        intro hb30 hK
        have hc := hb30; (try simp only [nrm, Int.reduceEq, Int.reduceNe, Int.reduceLT, Int.reduceLE] at hc)
        refine gye ?_ (hbw := by exact hb30); refine o1 (mv ?_); refine gye ?_ (hbw := by exact hb30); refine o1 (ieq ?_); exact hK [_, _] rfl rfl
      case h2 =>
        intro hb30 hK; refine gno ?_ (hbw := by exact hb30); refine gno ?_ (hbw := by exact hb30); exact hK [_, _] rfl
      exact hK [_, _, _, _, _, _, _, _] rfl rfl
    case h2 =>
      intro hb9 hK; refine gno ?_ (hbw := by exact hb9); refine gno ?_ (hbw := by exact hb9); refine gno ?_ (hbw := by exact hb9); refine gud ?_; refine gud ?_; refine gno ?_ (hbw := by exact hb9); refine gno ?_ (hbw := by exact hb9)
      refine gud ?_; refine gud ?_; refine gno ?_ (hbw := by exact hb9); refine gno ?_ (hbw := by exact hb9); refine gud ?_; refine gud ?_; refine gno ?_ (hbw := by exact hb9); exact hK [_, _, _, _, _, _, _, _, _, _, _, _, _, _] rfl
    exact hK [_, _, _, _] rfl rfl
  case h2 =>
    intro hb2 hK; refine gno ?_ (hbw := by exact hb2); refine gno ?_ (hbw := by exact hb2); refine gno ?_ (hbw := by exact hb2); refine gud ?_; refine gud ?_; refine gud ?_; refine gud ?_; refine gud ?_; refine gud ?_; refine gud ?_
    refine gud ?_; refine gud ?_; refine gud ?_; refine gud ?_; refine gud ?_; refine gud ?_; refine gud ?_; refine gno ?_ (hbw := by exact hb2); exact hK [_, _, _, _, _, _, _, _, _, _, _, _, _, _, _, _, _, _] rfl
  refine o1 (asg ?_); refine nx ?_; refine runs_ret ?_; refine fin_ret ?_; refine fin_d1 rfl rfl ?_
  congr 2
  rw [Bool.eq_iff_iff]
  cases first <;> simp only [nameB, Bool.or_eq_true, Bool.and_eq_true, decide_eq_true_eq, Bool.not_eq_true', Bool.not_true, Bool.not_false, Bool.false_eq_true, Bool.true_eq_false, true_and, false_and, or_false, reduceCtorEq] <;> constructor <;> intro h <;> omega
theorem isName_spec (t : ByteArray) : TriD Tryd.prog gl 67 [.v (.string t)] (· = .v (.bool (isNameB t))) := by
  refine triD_of_runs Tryd.func67 rfl Tryd.ntmps67 (rs := [.tmp 2]) rfl rfl rfl ?_
  refine sr ?_; refine o1 (asg ?_); refine nx ?_; refine sr ?_; refine o1 (mv ?_); refine o1 (sne ?_); refine o1 (mv ?_)
  apply ops_and (yt := 8) (d := 5) 3 rfl rfl rfl (.none rfl) rfl rfl
  case h1 =>
    intro hb5 hK
    have hc := hb5; (try simp only [nrm, Int.reduceEq, Int.reduceNe, Int.reduceLT, Int.reduceLE] at hc)
    refine gye ?_ (hbw := by exact hb5); refine o1 (mv ?_)
    have hpos := size_pos_of_ne hc
    refine gye ?_ (hbw := by exact hb5); refine o1 (byt ut9 ?_); refine gye ?_ (hbw := by exact hb5); refine oc (cv ca66 rfl rfl (nameByte_spec (byteAt t (0 : Int).toNat) true) (fir (fir .nil)) ?_); exact hK [_, _, _] rfl rfl
  case h2 =>
    intro hb5 hK; refine gno ?_ (hbw := by exact hb5); refine gno ?_ (hbw := by exact hb5); refine gno ?_ (hbw := by exact hb5); exact hK [_, _, _] rfl
  refine o1 (asg ?_); refine nx ?_; refine runs_ret ?_; refine fin_ret ?_; refine fin_d1 rfl rfl ?_
  congr 2
  unfold isNameB
  rw [show (0 : Int).toNat = 0 from rfl]
  have e : (⟨#[]⟩ : ByteArray) = .empty := rfl
  rw [e]
  simp

theorem ws_yes {s : ByteArray} {i : Nat} (h : byteAt s i = 32 ∨ byteAt s i = 9 ∨ byteAt s i = 10) : wsB (byteAt s i) = true := by simpa [wsB] using h
theorem ws_no {s : ByteArray} {i : Nat} (h : ¬ (byteAt s i = 32 ∨ byteAt s i = 9 ∨ byteAt s i = 10)) : ¬ (i < s.size ∧ wsB (byteAt s i) = true) := by
  rintro ⟨_, h2⟩
  exact h (by simpa [wsB] using h2)

theorem token_spec (s : ByteArray) (p : Nat) (c a : Int) (hs : s.size ≤ 1099511627776) (hp : p ≤ s.size) :
    Tri Tryd.prog gl 40 [.cells [.d (.v (.string s)), .d (.v (.int .i64 p)), .d (.v (.int .i64 c)), .d (.v (.int .i64 a))] 54] [.blk 0 0]
      fun out ob' => out = .ret (.d (.tup [.v (.string (tokR s p).1), .v (.int .i64 (tokR s p).2.1), .v (.bool (tokR s p).2.2)])) ∧ ob' = [.cells [.d (.v (.string s)), .d (.v (.int .i64 p)), .d (.v (.int .i64 c)), .d (.v (.int .i64 a))] 54] := by
  refine triS_of_runs Tryd.func40 rfl Tryd.ntmps40 (rs := [.tmp 2, .tmp 3, .tmp 4]) rfl rfl rfl 1 rfl ?_
  refine sr ?_; refine o1 (asg ?_); refine o1 (asg ?_); refine o1 (asg ?_); refine nx ?_; refine sr ?_; refine o1 (mv ?_); refine o1 (ncb ?_); refine o1 (fdb ti54 ?_); refine o1 (ldb ti3 ?_); refine o1 (asg ?_); refine nx ?_
  refine runs_seq ?_; refine runs_block ?_; refine kp [5, 0] ?_
  apply runs_loop_c (ι := Nat) (fun i => [(5, int i)]) [0] (fun i => i ≤ s.size ∧ spanB wsB s p = spanB wsB s i) (fun i => s.size - i) (p)
  case hk => exact rfl
  case hI =>
    exact ⟨hp, rfl⟩
  case hm =>
    refine mo ?_ (sly (sly slz))
    repeat (first | exact boz | refine boc ?_)
  case h =>
    rintro i hinv
    try dsimp only at hinv
    refine kp [5, 0] ?_; refine runs_seq ?_; refine sr ?_; refine o1 (mv ?_); refine o1 (mv ?_); refine o1 (ncb ?_); refine o1 (fdb ti54 ?_); refine o1 (ldb ti9 ?_); refine o1 (le3 ut9 ?_); refine o1 (ilt ?_); refine o1 (mv ?_)
    apply ops_and (yt := 46) (d := 21) 25 rfl rfl rfl (.none rfl) rfl rfl
    case h1 =>
      intro hb15 hK
      have hc := hb15; (try simp only [nrm, Int.reduceEq, Int.reduceNe, Int.reduceLT, Int.reduceLE] at hc)
      refine gye ?_ (hbw := by exact hb15); refine o1 (mv ?_); refine gye ?_ (hbw := by exact hb15); refine o1 (ncb ?_); refine gye ?_ (hbw := by exact hb15); refine o1 (fdb ti54 ?_); refine gye ?_ (hbw := by exact hb15); refine o1 (ldb ti9 ?_)
      refine gye ?_ (hbw := by exact hb15); refine o1 (mv ?_); refine gye ?_ (hbw := by exact hb15); refine o1 (byt ut9 ?_); refine gye ?_ (hbw := by exact hb15); refine o1 (ieq ?_); refine gye ?_ (hbw := by exact hb15); refine o1 (mv ?_)
      apply ops_or (yt := 36) (d := 29) 7 rfl rfl rfl (.yes rfl rfl rfl hb15) rfl rfl
      case h1 =>
        intro hb30 hK
        have hc := hb30; (try simp only [nrm, Int.reduceEq, Int.reduceNe, Int.reduceLT, Int.reduceLE] at hc)
        refine gye ?_ (hbw := by exact hb30); refine o1 (mv ?_); refine gye ?_ (hbw := by exact hb30); refine o1 (ncb ?_); refine gye ?_ (hbw := by exact hb30); refine o1 (fdb ti54 ?_); refine gye ?_ (hbw := by exact hb30); refine o1 (ldb ti9 ?_)
        refine gye ?_ (hbw := by exact hb30); refine o1 (mv ?_); refine gye ?_ (hbw := by exact hb30); refine o1 (byt ut9 ?_); refine gye ?_ (hbw := by exact hb30); refine o1 (ieq ?_); exact hK [_, _, _, _, _, _, _] rfl rfl
      case h2 =>
        intro hb30 hK; refine gno ?_ (hbw := by exact hb30); refine gno ?_ (hbw := by exact hb30); refine gno ?_ (hbw := by exact hb30); refine gno ?_ (hbw := by exact hb30); refine gno ?_ (hbw := by exact hb30); refine gno ?_ (hbw := by exact hb30)
        refine gno ?_ (hbw := by exact hb30); exact hK [_, _, _, _, _, _, _] rfl
      refine gye ?_ (hbw := by exact hb15); refine o1 (mv ?_)
      apply ops_or (yt := 45) (d := 38) 7 rfl rfl rfl (.yes rfl rfl rfl hb15) rfl rfl
      case h1 =>
        intro hb48 hK
        have hc := hb48; (try simp only [nrm, Int.reduceEq, Int.reduceNe, Int.reduceLT, Int.reduceLE] at hc)
        refine gye ?_ (hbw := by exact hb48); refine o1 (mv ?_); refine gye ?_ (hbw := by exact hb48); refine o1 (ncb ?_); refine gye ?_ (hbw := by exact hb48); refine o1 (fdb ti54 ?_); refine gye ?_ (hbw := by exact hb48); refine o1 (ldb ti9 ?_)
        refine gye ?_ (hbw := by exact hb48); refine o1 (mv ?_); refine gye ?_ (hbw := by exact hb48); refine o1 (byt ut9 ?_); refine gye ?_ (hbw := by exact hb48); refine o1 (ieq ?_); exact hK [_, _, _, _, _, _, _] rfl rfl
      case h2 =>
        intro hb48 hK; refine gno ?_ (hbw := by exact hb48); refine gno ?_ (hbw := by exact hb48); refine gno ?_ (hbw := by exact hb48); refine gno ?_ (hbw := by exact hb48); refine gno ?_ (hbw := by exact hb48); refine gno ?_ (hbw := by exact hb48)
        refine gno ?_ (hbw := by exact hb48); exact hK [_, _, _, _, _, _, _] rfl
      exact hK [_, _, _, _, _, _, _, _, _, _, _] rfl rfl
    case h2 =>
      intro hb15 hK; refine gno ?_ (hbw := by exact hb15); refine gno ?_ (hbw := by exact hb15); refine gno ?_ (hbw := by exact hb15); refine gno ?_ (hbw := by exact hb15); refine gno ?_ (hbw := by exact hb15); refine gno ?_ (hbw := by exact hb15)
      refine gno ?_ (hbw := by exact hb15); refine gno ?_ (hbw := by exact hb15); refine gud ?_; refine gud ?_; refine gud ?_; refine gud ?_; refine gud ?_; refine gud ?_; refine gud ?_; refine gno ?_ (hbw := by exact hb15)
      refine gno ?_ (hbw := by exact hb15); refine gud ?_; refine gud ?_; refine gud ?_; refine gud ?_; refine gud ?_; refine gud ?_; refine gud ?_; refine gno ?_ (hbw := by exact hb15)
      exact hK [_, _, _, _, _, _, _, _, _, _, _, _, _, _, _, _, _, _, _, _, _, _, _, _, _] rfl
    refine nx ?_; refine cd (fun h2 => ?_) (fun h2 => ?_)
    · (try simp only [nrm, Int.reduceEq, Int.reduceNe, Int.reduceLT, Int.reduceLE] at h2)
      refine runs_skip ?_; refine seq_normal ?_; refine runs_block ?_; refine kp [5, 0] ?_; refine runs_region ?_; refine o1 (mv ?_); refine o1 (iad ?_); refine o1 (asg ?_); refine ops_nil ?_; refine inb_normal ?_; refine seq_back ?_
      refine back_i (i + 1) rfl ?_ ?_
      · exact ⟨⟨by omega, hinv.2.trans (spanB_step (by omega) (ws_yes (by omega)))⟩, by omega⟩
      · refine mo ?_ (sly (sly slz))
        repeat (first | exact boz | refine boc ?_)
    (try simp only [nrm, Int.reduceEq, Int.reduceNe, Int.reduceLT, Int.reduceLE] at h2); refine runs_exit ?_; refine seq_exit ?_; refine seq_exit ?_; refine inb_exit ?_; refine seq_normal ?_; refine runs_seq ?_; refine kp [5, 0] ?_; refine sr ?_
    refine o1 (mv ?_); refine o1 (mv ?_); refine o1 (ncb ?_); refine o1 (fdb ti54 ?_); refine o1 (ldb ti9 ?_); refine o1 (le3 ut9 ?_); refine o1 (ieq ?_); refine nx ?_; refine cd (fun h4 => ?_) (fun h4 => ?_)
    · (try simp only [nrm, Int.reduceEq, Int.reduceNe, Int.reduceLT, Int.reduceLE] at h4)
      refine kp [5] ?_; refine sr ?_; refine o1 (mv ?_); refine o1 (asg ?_); refine o1 (asg ?_); refine o1 (asg ?_); refine nx ?_; refine runs_ret ?_; refine seq_ret ?_; refine fin_ret ?_
      refine fin_od ⟨_, _, rfl, rfl, ⟨_, _, rfl, rfl, ⟨_, _, rfl, rfl, rfl⟩⟩⟩ rfl ([0]) ([.cells [.d (.v (.string s)), .d (.v (.int .i64 p)), .d (.v (.int .i64 c)), .d (.v (.int .i64 a))] 54]) rfl rfl rfl ?_ ?_
      · repeat (first | exact boz | refine boc ?_)
      · rw [tok_end hinv.2 (by omega)]; exact ⟨rfl, rfl⟩
    (try simp only [nrm, Int.reduceEq, Int.reduceNe, Int.reduceLT, Int.reduceLE] at h4); refine runs_skip ?_; refine seq_normal ?_; refine runs_seq ?_; refine kp [5, 0] ?_
    have hsp := hinv.2.trans (spanB_end (by rintro ⟨h8, h9⟩; have h10 : byteAt s i = 32 ∨ byteAt s i = 9 ∨ byteAt s i = 10 := (by simpa [wsB] using h9); omega))
    refine runs_region ?_; refine o1 (mv ?_); refine o1 (iad ?_); refine o1 (asg ?_); refine nx ?_; refine sr ?_; refine o1 (mv ?_); refine o1 (ncb ?_); refine o1 (fdb ti54 ?_); refine o1 (ldb ti9 ?_); refine o1 (mv ?_); refine o1 (byt ut9 ?_)
    refine o1 (asg ?_); refine nx ?_; refine kp [7, 6, 5, 0] ?_; refine sr ?_; refine o1 (mv ?_); refine oc (cv ca66 rfl rfl (nameByte_spec (byteAt s i) true) (fir (fir .nil)) ?_); refine o1 (asg ?_); refine nx ?_; refine runs_seq ?_
    refine runs_block ?_; refine sr ?_; refine o1 (mv ?_); refine o1 (ieq ?_); refine o1 (mv ?_)
    apply ops_or (yt := 74) (d := 72) 2 rfl rfl rfl (.none rfl) rfl rfl
    case h1 =>
      intro hb4 hK
      have hc := hb4; (try simp only [nrm, Int.reduceEq, Int.reduceNe, Int.reduceLT, Int.reduceLE] at hc)
      refine gye ?_ (hbw := by exact hb4); refine o1 (mv ?_); refine gye ?_ (hbw := by exact hb4); refine o1 (ieq ?_); exact hK [_, _] rfl rfl
    case h2 =>
      intro hb4 hK; refine gno ?_ (hbw := by exact hb4); refine gno ?_ (hbw := by exact hb4); exact hK [_, _] rfl
    refine o1 (asg ?_); refine nx ?_; refine cd (fun h10 => ?_) (fun h10 => ?_)
    · (try simp only [nrm, Int.reduceEq, Int.reduceNe, Int.reduceLT, Int.reduceLE] at h10)
      refine runs_skip ?_; refine inb_normal ?_; refine seq_normal ?_; refine kp [6, 5, 0] ?_; refine sr ?_; refine o1 (mv ?_); refine o1 (ncb ?_); refine o1 (fdb ti54 ?_); refine o1 (ldb ti9 ?_); refine o1 (mv ?_); refine o1 (mv ?_)
      refine o1 (f_sub_lh ut9 ?_); refine o1 (mv ?_); refine o1 (asg ?_); refine o1 (asg ?_); refine o1 (asg ?_); refine nx ?_; refine runs_ret ?_; refine fin_ret ?_
      refine fin_od ⟨_, _, rfl, rfl, ⟨_, _, rfl, rfl, ⟨_, _, rfl, rfl, rfl⟩⟩⟩ rfl ([0]) ([.cells [.d (.v (.string s)), .d (.v (.int .i64 p)), .d (.v (.int .i64 c)), .d (.v (.int .i64 a))] 54]) rfl rfl rfl ?_ ?_
      · repeat (first | exact boz | refine boc ?_)
      · rw [tok_par hsp (by omega) (by omega)]; exact ⟨rfl, rfl⟩
    (try simp only [nrm, Int.reduceEq, Int.reduceNe, Int.reduceLT, Int.reduceLE] at h10); refine kp [8, 7, 6, 5, 0] ?_; refine sr ?_; refine o1 (mv ?_); refine o1 (asg ?_); refine nx ?_; refine cd (fun h11 => ?_) (fun h11 => ?_)
    · (try simp only [nrm, Int.reduceEq, Int.reduceNe, Int.reduceLT, Int.reduceLE] at h11)
      refine runs_seq ?_; refine runs_block ?_; refine kp [6, 5, 0] ?_
      apply runs_loop_c (ι := Nat) (fun q => [(6, int q)]) [5, 0] (fun q => i < q ∧ q ≤ s.size ∧ spanB (nameB · false) s (i + 1) = spanB (nameB · false) s q) (fun q => s.size - q) (i + 1)
      case hk => exact rfl
      case hI =>
        exact ⟨by omega, by omega, rfl⟩
      case hm =>
        refine mo ?_ (sly (sly (sly slz)))
        repeat (first | exact boz | refine boc ?_)
      case h =>
        rintro q hinv
        try dsimp only at hinv
        refine kp [6, 5, 0] ?_; refine runs_seq ?_; refine sr ?_; refine o1 (mv ?_); refine o1 (mv ?_); refine o1 (ncb ?_); refine o1 (fdb ti54 ?_); refine o1 (ldb ti9 ?_); refine o1 (le3 ut9 ?_); refine o1 (ilt ?_); refine o1 (mv ?_)
        apply ops_and (yt := 92) (d := 85) 7 rfl rfl rfl (.none rfl) rfl rfl
        case h1 =>
          intro hb15 hK
          have hc := hb15; (try simp only [nrm, Int.reduceEq, Int.reduceNe, Int.reduceLT, Int.reduceLE] at hc)
          refine gye ?_ (hbw := by exact hb15); refine o1 (mv ?_); refine gye ?_ (hbw := by exact hb15); refine o1 (ncb ?_); refine gye ?_ (hbw := by exact hb15); refine o1 (fdb ti54 ?_); refine gye ?_ (hbw := by exact hb15); refine o1 (ldb ti9 ?_)
          refine gye ?_ (hbw := by exact hb15); refine o1 (mv ?_); refine gye ?_ (hbw := by exact hb15); refine o1 (byt ut9 ?_); refine gye ?_ (hbw := by exact hb15); refine oc (cv ca66 rfl rfl (nameByte_spec (byteAt s q) false) (fir (fir .nil)) ?_)
          exact hK [_, _, _, _, _, _, _] rfl rfl
        case h2 =>
          intro hb15 hK; refine gno ?_ (hbw := by exact hb15); refine gno ?_ (hbw := by exact hb15); refine gno ?_ (hbw := by exact hb15); refine gno ?_ (hbw := by exact hb15); refine gno ?_ (hbw := by exact hb15); refine gno ?_ (hbw := by exact hb15)
          refine gno ?_ (hbw := by exact hb15); exact hK [_, _, _, _, _, _, _] rfl
        refine nx ?_; refine cd (fun h12 => ?_) (fun h12 => ?_)
        · (try simp only [nrm, Int.reduceEq, Int.reduceNe, Int.reduceLT, Int.reduceLE] at h12)
          refine runs_skip ?_; refine seq_normal ?_; refine runs_block ?_; refine kp [6, 5, 0] ?_; refine runs_region ?_; refine o1 (mv ?_); refine o1 (iad ?_); refine o1 (asg ?_); refine ops_nil ?_; refine inb_normal ?_; refine seq_back ?_
          refine back_i (q + 1) rfl ?_ ?_
          · exact ⟨⟨by omega, by omega, hinv.2.2.trans (spanB_step (by omega) (by simpa using h12.2))⟩, by omega⟩
          · refine mo ?_ (sly (sly (sly slz)))
            repeat (first | exact boz | refine boc ?_)
        (try simp only [nrm, Int.reduceEq, Int.reduceNe, Int.reduceLT, Int.reduceLE] at h12); refine runs_exit ?_; refine seq_exit ?_; refine seq_exit ?_; refine inb_exit ?_; refine seq_normal ?_; refine kp [6, 5, 0] ?_; refine sr ?_
        refine o1 (mv ?_); refine o1 (mv ?_); refine o1 (isu ?_); refine o1 (igt ?_); refine nx ?_; refine cd (fun h14 => ?_) (fun h14 => ?_)
        · (try simp only [nrm, Int.reduceEq, Int.reduceNe, Int.reduceLT, Int.reduceLE] at h14)
          refine kp [5] ?_; refine sr ?_; refine o1 (mv ?_); refine o1 (asg ?_); refine o1 (asg ?_); refine o1 (asg ?_); refine nx ?_; refine runs_ret ?_; refine inb_ret ?_; refine seq_ret ?_; refine fin_ret ?_
          refine fin_od ⟨_, _, rfl, rfl, ⟨_, _, rfl, rfl, ⟨_, _, rfl, rfl, rfl⟩⟩⟩ rfl ([0]) ([.cells [.d (.v (.string s)), .d (.v (.int .i64 p)), .d (.v (.int .i64 c)), .d (.v (.int .i64 a))] 54]) rfl rfl rfl ?_ ?_
          · repeat (first | exact boz | refine boc ?_)
          · rw [tok_nameNo hsp (by omega) (by omega) h11 (spanB_run hinv.2.2 h12) (by omega)]; exact ⟨rfl, rfl⟩
        (try simp only [nrm, Int.reduceEq, Int.reduceNe, Int.reduceLT, Int.reduceLE] at h14); refine runs_skip ?_; refine inb_normal ?_; refine seq_normal ?_; refine kp [6, 5, 0] ?_; refine sr ?_; refine o1 (mv ?_); refine o1 (ncb ?_)
        refine o1 (fdb ti54 ?_); refine o1 (ldb ti9 ?_); refine o1 (mv ?_); refine o1 (mv ?_); refine o1 (f_sub_lh ut9 ?_); refine o1 (mv ?_); refine o1 (asg ?_); refine o1 (asg ?_); refine o1 (asg ?_); refine nx ?_; refine runs_ret ?_
        refine fin_ret ?_; refine fin_od ⟨_, _, rfl, rfl, ⟨_, _, rfl, rfl, ⟨_, _, rfl, rfl, rfl⟩⟩⟩ rfl ([0]) ([.cells [.d (.v (.string s)), .d (.v (.int .i64 p)), .d (.v (.int .i64 c)), .d (.v (.int .i64 a))] 54]) rfl rfl rfl ?_ ?_
        · repeat (first | exact boz | refine boc ?_)
        · rw [tok_name hsp (by omega) (by omega) h11 (spanB_run hinv.2.2 h12) (by omega)]; exact ⟨rfl, rfl⟩
    (try simp only [nrm, Int.reduceEq, Int.reduceNe, Int.reduceLT, Int.reduceLE] at h11); refine sr ?_; refine o1 (mv ?_); refine o1 (ieq ?_); refine o1 (mv ?_)
    apply ops_or (yt := 110) (d := 104) 6 rfl rfl rfl (.none rfl) rfl rfl
    case h1 =>
      intro hb4 hK
      have hc := hb4; (try simp only [nrm, Int.reduceEq, Int.reduceNe, Int.reduceLT, Int.reduceLE] at hc)
      refine gye ?_ (hbw := by exact hb4); refine o1 (mv ?_); refine gye ?_ (hbw := by exact hb4); refine o1 (ige ?_); refine gye ?_ (hbw := by exact hb4); refine o1 (mv ?_)
      apply ops_and (yt := 109) (d := 107) 2 rfl rfl rfl (.yes rfl rfl rfl hb4) rfl rfl
      case h1 =>
        intro hb11 hK
        have hc := hb11; (try simp only [nrm, Int.reduceEq, Int.reduceNe, Int.reduceLT, Int.reduceLE] at hc)
        refine gye ?_ (hbw := by exact hb11); refine o1 (mv ?_); refine gye ?_ (hbw := by exact hb11); refine o1 (ile ?_); exact hK [_, _] rfl rfl
      case h2 =>
        intro hb11 hK; refine gno ?_ (hbw := by exact hb11); refine gno ?_ (hbw := by exact hb11); exact hK [_, _] rfl
      exact hK [_, _, _, _] rfl rfl
    case h2 =>
      intro hb4 hK; refine gno ?_ (hbw := by exact hb4); refine gno ?_ (hbw := by exact hb4); refine gno ?_ (hbw := by exact hb4); refine gud ?_; refine gud ?_; refine gno ?_ (hbw := by exact hb4); exact hK [_, _, _, _, _, _] rfl
    refine o1 (asg ?_); refine nx ?_; refine cdf (fun h16 => ?_) (fun h16 => ?_)
    · (try simp only [nrm, Int.reduceEq, Int.reduceNe, Int.reduceLT, Int.reduceLE] at h16)
      refine kp [5] ?_; refine sr ?_; refine o1 (mv ?_); refine o1 (asg ?_); refine o1 (asg ?_); refine o1 (asg ?_); refine nx ?_; refine runs_ret ?_; refine inb_ret ?_; refine seq_ret ?_; refine fin_ret ?_
      refine fin_od ⟨_, _, rfl, rfl, ⟨_, _, rfl, rfl, ⟨_, _, rfl, rfl, rfl⟩⟩⟩ rfl ([0]) ([.cells [.d (.v (.string s)), .d (.v (.int .i64 p)), .d (.v (.int .i64 c)), .d (.v (.int .i64 a))] 54]) rfl rfl rfl ?_ ?_
      · repeat (first | exact boz | refine boc ?_)
      · rw [tok_none hsp (by omega) (by omega) h11 (by omega)]; exact ⟨rfl, rfl⟩
    (try simp only [nrm, Int.reduceEq, Int.reduceNe, Int.reduceLT, Int.reduceLE] at h16); refine runs_seq ?_; refine runs_block ?_; refine kp [7, 6, 5, 0] ?_
    apply runs_loop_c (ι := Nat) (fun q => [(6, int q)]) [7, 5, 0] (fun q => i < q ∧ q ≤ s.size ∧ spanB digB s (i + 1) = spanB digB s q) (fun q => s.size - q) (i + 1)
    case hk => exact rfl
    case hI =>
      exact ⟨by omega, by omega, rfl⟩
    case hm =>
      refine mo ?_ (sly (sly (sly (sly slz))))
      repeat (first | exact boz | refine boc ?_)
    case h =>
      rintro q hinv
      try dsimp only at hinv
      refine kp [6, 7, 5, 0] ?_; refine runs_seq ?_; refine sr ?_; refine o1 (mv ?_); refine o1 (mv ?_); refine o1 (ncb ?_); refine o1 (fdb ti54 ?_); refine o1 (ldb ti9 ?_); refine o1 (le3 ut9 ?_); refine o1 (ilt ?_); refine o1 (mv ?_)
      apply ops_and (yt := 126) (d := 119) 7 rfl rfl rfl (.none rfl) rfl rfl
      case h1 =>
        intro hb15 hK
        have hc := hb15; (try simp only [nrm, Int.reduceEq, Int.reduceNe, Int.reduceLT, Int.reduceLE] at hc)
        refine gye ?_ (hbw := by exact hb15); refine o1 (mv ?_); refine gye ?_ (hbw := by exact hb15); refine o1 (ncb ?_); refine gye ?_ (hbw := by exact hb15); refine o1 (fdb ti54 ?_); refine gye ?_ (hbw := by exact hb15); refine o1 (ldb ti9 ?_)
        refine gye ?_ (hbw := by exact hb15); refine o1 (mv ?_); refine gye ?_ (hbw := by exact hb15); refine o1 (byt ut9 ?_); refine gye ?_ (hbw := by exact hb15); refine o1 (ige ?_); exact hK [_, _, _, _, _, _, _] rfl rfl
      case h2 =>
        intro hb15 hK; refine gno ?_ (hbw := by exact hb15); refine gno ?_ (hbw := by exact hb15); refine gno ?_ (hbw := by exact hb15); refine gno ?_ (hbw := by exact hb15); refine gno ?_ (hbw := by exact hb15); refine gno ?_ (hbw := by exact hb15)
        refine gno ?_ (hbw := by exact hb15); exact hK [_, _, _, _, _, _, _] rfl
      refine o1 (mv ?_)
      apply ops_and (yt := 135) (d := 128) 7 rfl rfl rfl (.none rfl) rfl rfl
      case h1 =>
        intro hb33 hK
        have hc := hb33; (try simp only [nrm, Int.reduceEq, Int.reduceNe, Int.reduceLT, Int.reduceLE] at hc)
        refine gye ?_ (hbw := by exact hb33); refine o1 (mv ?_); refine gye ?_ (hbw := by exact hb33); refine o1 (ncb ?_); refine gye ?_ (hbw := by exact hb33); refine o1 (fdb ti54 ?_); refine gye ?_ (hbw := by exact hb33); refine o1 (ldb ti9 ?_)
        refine gye ?_ (hbw := by exact hb33); refine o1 (mv ?_); refine gye ?_ (hbw := by exact hb33); refine o1 (byt ut9 ?_); refine gye ?_ (hbw := by exact hb33); refine o1 (ile ?_); exact hK [_, _, _, _, _, _, _] rfl rfl
      case h2 =>
        intro hb33 hK; refine gno ?_ (hbw := by exact hb33); refine gno ?_ (hbw := by exact hb33); refine gno ?_ (hbw := by exact hb33); refine gno ?_ (hbw := by exact hb33); refine gno ?_ (hbw := by exact hb33); refine gno ?_ (hbw := by exact hb33)
        refine gno ?_ (hbw := by exact hb33); exact hK [_, _, _, _, _, _, _] rfl
      refine nx ?_; refine cd (fun h17 => ?_) (fun h17 => ?_)
      · (try simp only [nrm, Int.reduceEq, Int.reduceNe, Int.reduceLT, Int.reduceLE] at h17)
        refine runs_skip ?_; refine seq_normal ?_; refine runs_block ?_; refine kp [6, 7, 5, 0] ?_; refine runs_region ?_; refine o1 (mv ?_); refine o1 (iad ?_); refine o1 (asg ?_); refine ops_nil ?_; refine inb_normal ?_; refine seq_back ?_
        refine back_i (q + 1) rfl ?_ ?_
        · exact ⟨⟨by omega, by omega, hinv.2.2.trans (spanB_step (by omega) (by simp only [digB, decide_eq_true_eq]; omega))⟩, by omega⟩
        · refine mo ?_ (sly (sly (sly (sly slz))))
          repeat (first | exact boz | refine boc ?_)
      (try simp only [nrm, Int.reduceEq, Int.reduceNe, Int.reduceLT, Int.reduceLE] at h17); refine runs_exit ?_; refine seq_exit ?_; refine seq_exit ?_; refine inb_exit ?_; refine seq_normal ?_; refine kp [6, 7, 5, 0] ?_; refine sr ?_
      refine o1 (mv ?_); refine o1 (asg ?_); refine nx ?_; refine runs_seq ?_; refine sr ?_; refine o1 (mv ?_); refine o1 (ieq ?_); refine nx ?_; refine cdf (fun h20 => ?_) (fun h20 => ?_)
      · (try simp only [nrm, Int.reduceEq, Int.reduceNe, Int.reduceLT, Int.reduceLE] at h20)
        refine runs_skip ?_; refine seq_normal ?_; refine kp [9, 6, 5, 0] ?_; refine sr ?_; refine o1 (mv ?_); refine o1 (mv ?_); refine o1 (ieq ?_); refine o1 (mv ?_)
        apply ops_or (yt := 151) (d := 147) 4 rfl rfl rfl (.none rfl) rfl rfl
        case h1 =>
          intro hb6 hK
          have hc := hb6; (try simp only [nrm, Int.reduceEq, Int.reduceNe, Int.reduceLT, Int.reduceLE] at hc)
          refine gye ?_ (hbw := by exact hb6); refine o1 (mv ?_); refine gye ?_ (hbw := by exact hb6); refine o1 (mv ?_); refine gye ?_ (hbw := by exact hb6); refine o1 (isu ?_); refine gye ?_ (hbw := by exact hb6); refine o1 (igt ?_)
          exact hK [_, _, _, _] rfl rfl
        case h2 =>
          intro hb6 hK; refine gno ?_ (hbw := by exact hb6); refine gno ?_ (hbw := by exact hb6); refine gno ?_ (hbw := by exact hb6); refine gno ?_ (hbw := by exact hb6); exact hK [_, _, _, _] rfl
        refine o1 (mv ?_)
        apply ops_or (yt := 166) (d := 153) 13 rfl rfl rfl (.none rfl) rfl rfl
        case h1 =>
          intro hb18 hK
          have hc := hb18; (try simp only [nrm, Int.reduceEq, Int.reduceNe, Int.reduceLT, Int.reduceLE] at hc)
          refine gye ?_ (hbw := by exact hb18); refine o1 (mv ?_); refine gye ?_ (hbw := by exact hb18); refine o1 (mv ?_); refine gye ?_ (hbw := by exact hb18); refine o1 (isu ?_); refine gye ?_ (hbw := by exact hb18); refine o1 (igt ?_)
          refine gye ?_ (hbw := by exact hb18); refine o1 (mv ?_)
          apply ops_and (yt := 165) (d := 158) 7 rfl rfl rfl (.yes rfl rfl rfl hb18) rfl rfl
          case h1 =>
            intro hb29 hK
            have hc := hb29; (try simp only [nrm, Int.reduceEq, Int.reduceNe, Int.reduceLT, Int.reduceLE] at hc)
            refine gye ?_ (hbw := by exact hb29); refine o1 (mv ?_); refine gye ?_ (hbw := by exact hb29); refine o1 (ncb ?_); refine gye ?_ (hbw := by exact hb29); refine o1 (fdb ti54 ?_); refine gye ?_ (hbw := by exact hb29); refine o1 (ldb ti9 ?_)
            refine gye ?_ (hbw := by exact hb29); refine o1 (mv ?_); refine gye ?_ (hbw := by exact hb29); refine o1 (byt ut9 ?_); refine gye ?_ (hbw := by exact hb29); refine o1 (ieq ?_); exact hK [_, _, _, _, _, _, _] rfl rfl
          case h2 =>
            intro hb29 hK; refine gno ?_ (hbw := by exact hb29); refine gno ?_ (hbw := by exact hb29); refine gno ?_ (hbw := by exact hb29); refine gno ?_ (hbw := by exact hb29); refine gno ?_ (hbw := by exact hb29); refine gno ?_ (hbw := by exact hb29)
            refine gno ?_ (hbw := by exact hb29); exact hK [_, _, _, _, _, _, _] rfl
          exact hK [_, _, _, _, _, _] rfl rfl
        case h2 =>
          intro hb18 hK; refine gno ?_ (hbw := by exact hb18); refine gno ?_ (hbw := by exact hb18); refine gno ?_ (hbw := by exact hb18); refine gno ?_ (hbw := by exact hb18); refine gno ?_ (hbw := by exact hb18); refine gud ?_; refine gud ?_
          refine gud ?_; refine gud ?_; refine gud ?_; refine gud ?_; refine gud ?_; refine gno ?_ (hbw := by exact hb18); exact hK [_, _, _, _, _, _, _, _, _, _, _, _, _] rfl
        refine nx ?_; refine cd (fun h22 => ?_) (fun h22 => ?_)
        · (try simp only [nrm, Int.reduceEq, Int.reduceNe, Int.reduceLT, Int.reduceLE] at h22)
          refine kp [5] ?_; refine sr ?_; refine o1 (mv ?_); refine o1 (asg ?_); refine o1 (asg ?_); refine o1 (asg ?_); refine nx ?_; refine runs_ret ?_; refine inb_ret ?_; refine seq_ret ?_; refine fin_ret ?_
          refine fin_od ⟨_, _, rfl, rfl, ⟨_, _, rfl, rfl, ⟨_, _, rfl, rfl, rfl⟩⟩⟩ rfl ([0]) ([.cells [.d (.v (.string s)), .d (.v (.int .i64 p)), .d (.v (.int .i64 c)), .d (.v (.int .i64 a))] 54]) rfl rfl rfl ?_ ?_
          · repeat (first | exact boz | refine boc ?_)
          · rw [tok_numNo hsp (by omega) (by omega) h11 (by omega) (spanB_runD hinv.2.2 (by omega)) (d := i) (by rw [if_neg (by omega)]) (by omega)]; exact ⟨rfl, rfl⟩
        (try simp only [nrm, Int.reduceEq, Int.reduceNe, Int.reduceLT, Int.reduceLE] at h22); refine runs_skip ?_; refine inb_normal ?_; refine seq_normal ?_; refine kp [6, 5, 0] ?_; refine sr ?_; refine o1 (mv ?_); refine o1 (ncb ?_)
        refine o1 (fdb ti54 ?_); refine o1 (ldb ti9 ?_); refine o1 (mv ?_); refine o1 (mv ?_); refine o1 (f_sub_lh ut9 ?_); refine o1 (mv ?_); refine o1 (asg ?_); refine o1 (asg ?_); refine o1 (asg ?_); refine nx ?_; refine runs_ret ?_
        refine fin_ret ?_; refine fin_od ⟨_, _, rfl, rfl, ⟨_, _, rfl, rfl, ⟨_, _, rfl, rfl, rfl⟩⟩⟩ rfl ([0]) ([.cells [.d (.v (.string s)), .d (.v (.int .i64 p)), .d (.v (.int .i64 c)), .d (.v (.int .i64 a))] 54]) rfl rfl rfl ?_ ?_
        · repeat (first | exact boz | refine boc ?_)
        · rw [tok_num hsp (by omega) (by omega) h11 (by omega) (spanB_runD hinv.2.2 (by omega)) (d := i) (by rw [if_neg (by omega)]) (by omega)]; exact ⟨rfl, rfl⟩
      (try simp only [nrm, Int.reduceEq, Int.reduceNe, Int.reduceLT, Int.reduceLE] at h20); refine kp [6, 5, 0] ?_; refine runs_region ?_; refine o1 (mv ?_); refine o1 (iad ?_); refine o1 (asg ?_); refine nx ?_; refine sr ?_; refine o1 (mv ?_)
      refine o1 (mv ?_); refine o1 (ieq ?_); refine o1 (mv ?_)
      apply ops_or (yt := 151) (d := 147) 4 rfl rfl rfl (.none rfl) rfl rfl
      case h1 =>
        intro hb6 hK
        have hc := hb6; (try simp only [nrm, Int.reduceEq, Int.reduceNe, Int.reduceLT, Int.reduceLE] at hc)
        refine gye ?_ (hbw := by exact hb6); refine o1 (mv ?_); refine gye ?_ (hbw := by exact hb6); refine o1 (mv ?_); refine gye ?_ (hbw := by exact hb6); refine o1 (isu ?_); refine gye ?_ (hbw := by exact hb6); refine o1 (igt ?_)
        exact hK [_, _, _, _] rfl rfl
      case h2 =>
        intro hb6 hK; refine gno ?_ (hbw := by exact hb6); refine gno ?_ (hbw := by exact hb6); refine gno ?_ (hbw := by exact hb6); refine gno ?_ (hbw := by exact hb6); exact hK [_, _, _, _] rfl
      refine o1 (mv ?_)
      apply ops_or (yt := 166) (d := 153) 13 rfl rfl rfl (.none rfl) rfl rfl
      case h1 =>
        intro hb18 hK
        have hc := hb18; (try simp only [nrm, Int.reduceEq, Int.reduceNe, Int.reduceLT, Int.reduceLE] at hc)
        refine gye ?_ (hbw := by exact hb18); refine o1 (mv ?_); refine gye ?_ (hbw := by exact hb18); refine o1 (mv ?_); refine gye ?_ (hbw := by exact hb18); refine o1 (isu ?_); refine gye ?_ (hbw := by exact hb18); refine o1 (igt ?_)
        refine gye ?_ (hbw := by exact hb18); refine o1 (mv ?_)
        apply ops_and (yt := 165) (d := 158) 7 rfl rfl rfl (.yes rfl rfl rfl hb18) rfl rfl
        case h1 =>
          intro hb29 hK
          have hc := hb29; (try simp only [nrm, Int.reduceEq, Int.reduceNe, Int.reduceLT, Int.reduceLE] at hc)
          refine gye ?_ (hbw := by exact hb29); refine o1 (mv ?_); refine gye ?_ (hbw := by exact hb29); refine o1 (ncb ?_); refine gye ?_ (hbw := by exact hb29); refine o1 (fdb ti54 ?_); refine gye ?_ (hbw := by exact hb29); refine o1 (ldb ti9 ?_)
          refine gye ?_ (hbw := by exact hb29); refine o1 (mv ?_); refine gye ?_ (hbw := by exact hb29); refine o1 (byt ut9 ?_); refine gye ?_ (hbw := by exact hb29); refine o1 (ieq ?_); exact hK [_, _, _, _, _, _, _] rfl rfl
        case h2 =>
          intro hb29 hK; refine gno ?_ (hbw := by exact hb29); refine gno ?_ (hbw := by exact hb29); refine gno ?_ (hbw := by exact hb29); refine gno ?_ (hbw := by exact hb29); refine gno ?_ (hbw := by exact hb29); refine gno ?_ (hbw := by exact hb29)
          refine gno ?_ (hbw := by exact hb29); exact hK [_, _, _, _, _, _, _] rfl
        exact hK [_, _, _, _, _, _] rfl rfl
      case h2 =>
        intro hb18 hK; refine gno ?_ (hbw := by exact hb18); refine gno ?_ (hbw := by exact hb18); refine gno ?_ (hbw := by exact hb18); refine gno ?_ (hbw := by exact hb18); refine gno ?_ (hbw := by exact hb18); refine gud ?_; refine gud ?_
        refine gud ?_; refine gud ?_; refine gud ?_; refine gud ?_; refine gud ?_; refine gno ?_ (hbw := by exact hb18); exact hK [_, _, _, _, _, _, _, _, _, _, _, _, _] rfl
      refine nx ?_; refine cd (fun h22 => ?_) (fun h22 => ?_)
      · (try simp only [nrm, Int.reduceEq, Int.reduceNe, Int.reduceLT, Int.reduceLE] at h22)
        refine kp [5] ?_; refine sr ?_; refine o1 (mv ?_); refine o1 (asg ?_); refine o1 (asg ?_); refine o1 (asg ?_); refine nx ?_; refine runs_ret ?_; refine inb_ret ?_; refine seq_ret ?_; refine fin_ret ?_
        refine fin_od ⟨_, _, rfl, rfl, ⟨_, _, rfl, rfl, ⟨_, _, rfl, rfl, rfl⟩⟩⟩ rfl ([0]) ([.cells [.d (.v (.string s)), .d (.v (.int .i64 p)), .d (.v (.int .i64 c)), .d (.v (.int .i64 a))] 54]) rfl rfl rfl ?_ ?_
        · repeat (first | exact boz | refine boc ?_)
        · rw [tok_numNo hsp (by omega) (by omega) h11 (by omega) (spanB_runD hinv.2.2 (by omega)) (d := i + 1) (by rw [if_pos (by omega)]) (by omega)]; exact ⟨rfl, rfl⟩
      (try simp only [nrm, Int.reduceEq, Int.reduceNe, Int.reduceLT, Int.reduceLE] at h22); refine runs_skip ?_; refine inb_normal ?_; refine seq_normal ?_; refine kp [6, 5, 0] ?_; refine sr ?_; refine o1 (mv ?_); refine o1 (ncb ?_)
      refine o1 (fdb ti54 ?_); refine o1 (ldb ti9 ?_); refine o1 (mv ?_); refine o1 (mv ?_); refine o1 (f_sub_lh ut9 ?_); refine o1 (mv ?_); refine o1 (asg ?_); refine o1 (asg ?_); refine o1 (asg ?_); refine nx ?_; refine runs_ret ?_
      refine fin_ret ?_; refine fin_od ⟨_, _, rfl, rfl, ⟨_, _, rfl, rfl, ⟨_, _, rfl, rfl, rfl⟩⟩⟩ rfl ([0]) ([.cells [.d (.v (.string s)), .d (.v (.int .i64 p)), .d (.v (.int .i64 c)), .d (.v (.int .i64 a))] 54]) rfl rfl rfl ?_ ?_
      · repeat (first | exact boz | refine boc ?_)
      · rw [tok_num hsp (by omega) (by omega) h11 (by omega) (spanB_runD hinv.2.2 (by omega)) (d := i + 1) (by rw [if_pos (by omega)]) (by omega)]; exact ⟨rfl, rfl⟩
end Go.Proofs.YtneaancanfpdhaaDoor
namespace Go.Proofs.YtneaancanfpdhaaDoor
open Go Go.Vd Go.RowKit
attribute [local irreducible] Runs OpsR OpR FloatR AnyR
variable {gl : Nat → List D}

/-- a reader -/
def rdO (s : ByteArray) (r : RS) : Ob := .cells [.d (.v (.string s)), .d (.v (.int .i64 r.p)), .d (.v (.int .i64 (fcode r.f))), .d (.v (.int .i64 (fat r.f)))] 54

theorem fail_spec (s : ByteArray) (at' : Nat) (r : RS) :
    Tri Tryd.prog gl 41 [rdO s r] [.blk 0 0, .d (.v (.int .i64 at'))] fun out ob' => out = .ret (.d (.tup [])) ∧ ob' = [rdO s (r.fail at')] := by
  obtain ⟨p, f⟩ := r
  cases f with
  | none =>
    refine triS_of_runs Tryd.func41 rfl Tryd.ntmps41 (rs := []) rfl rfl rfl 1 rfl ?_
    refine sr ?_; refine o1 (mv ?_); refine o1 (ncb ?_); refine o1 (fdb ti54 ?_); refine o1 (fdb ti31 ?_); refine o1 (ldb ti3 ?_); refine o1 (ieq ?_); refine nx ?_; refine cdf (fun h0 => ?_) (fun h0 => ?_)
    · simp only [nrm, Int.reduceEq, Int.reduceNe, Int.reduceLT, Int.reduceLE, fcode, fat] at h0
    (try simp only [nrm, Int.reduceEq, Int.reduceNe, Int.reduceLT, Int.reduceLE, fcode, fat] at h0); refine kp [0, 1] ?_; refine runs_region ?_; refine o1 (mv ?_); refine o1 (mv ?_); refine o1 (bld ti31 ?_); refine o1 (ncb ?_)
    refine o1 (fdb ti54 ?_); refine oc (sto ti31 ?_); refine ops_nil ?_; refine fin_normal ?_; refine fin_od (l := []) rfl rfl ([0]) ([rdO s (RS.fail at' ⟨p, none⟩)]) rfl rfl rfl ?_ ?_
    · repeat (first | exact boz | refine boc ?_)
    · exact ⟨rfl, rfl⟩
  | some a =>
    refine triS_of_runs Tryd.func41 rfl Tryd.ntmps41 (rs := []) rfl rfl rfl 1 rfl ?_
    refine sr ?_; refine o1 (mv ?_); refine o1 (ncb ?_); refine o1 (fdb ti54 ?_); refine o1 (fdb ti31 ?_); refine o1 (ldb ti3 ?_); refine o1 (ieq ?_); refine nx ?_; refine cd (fun h0 => ?_) (fun h0 => ?_)
    · simp only [nrm, Int.reduceEq, Int.reduceNe, Int.reduceLT, Int.reduceLE, fcode, fat] at h0
    (try simp only [nrm, Int.reduceEq, Int.reduceNe, Int.reduceLT, Int.reduceLE, fcode, fat] at h0); refine runs_skip ?_; refine fin_normal ?_; refine fin_od (l := []) rfl rfl ([0]) ([rdO s (RS.fail at' ⟨p, some a⟩)]) rfl rfl rfl ?_ ?_
    · repeat (first | exact boz | refine boc ?_)
    · exact ⟨rfl, rfl⟩

theorem next_spec (s : ByteArray) (r : RS) (hs : s.size ≤ 1099511627776) (hp : r.p ≤ s.size) :
    Tri Tryd.prog gl 42 [rdO s r] [.blk 0 0] fun out ob' => out = .ret (.d (.v (.string (nextR s r).1))) ∧ ob' = [rdO s (nextR s r).2] := by
  have hat := tokR_at (s := s) hp
  obtain ⟨p, f⟩ := r
  simp only at hat hp
  cases f with
  | none =>
    refine triS_of_runs Tryd.func42 rfl Tryd.ntmps42 (rs := [.tmp 2]) rfl rfl rfl 1 rfl ?_
    refine sr ?_; refine o1 (asg ?_); refine nx ?_; refine sr ?_; refine o1 (mv ?_); refine oc (ck ca40 rfl rfl (token_spec s p (fcode none) (fat none) hs hp) [0] rfl (boc .nil) (fir .nil) ?_); refine o1 (mv ?_); refine o1 (ex2 ?_)
    refine o1 (ex2 ?_); refine o1 (ex2 ?_); refine o1 (asg ?_); refine o1 (asg ?_); refine o1 (asg ?_); refine nx ?_; refine runs_seq ?_; refine kp [5, 4, 3, 0] ?_; refine sr ?_; refine o1 (mv ?_); refine o1 (f_not ?_); refine o1 (mv ?_)
    apply ops_or (yt := 16) (d := 14) 2 rfl rfl rfl (.none rfl) rfl rfl
    case h1 =>
      intro hb4 hK
      have hc := hb4; (try simp only [nrm, Int.reduceEq, Int.reduceNe, Int.reduceLT, Int.reduceLE, fcode, fat, RS.fail] at hc)
      refine gye ?_ (hbw := by exact hb4); refine o1 (mv ?_); refine gye ?_ (hbw := by exact hb4); refine o1 (seq1 ?_); exact hK [_, _] rfl rfl
    case h2 =>
      intro hb4 hK; refine gno ?_ (hbw := by exact hb4); refine gno ?_ (hbw := by exact hb4); exact hK [_, _] rfl
    refine nx ?_; refine cd (fun h2 => ?_) (fun h2 => ?_)
    · (try simp only [nrm, Int.reduceEq, Int.reduceNe, Int.reduceLT, Int.reduceLE, fcode, fat, RS.fail] at h2)
      refine kp [4, 3, 0] ?_; refine runs_region ?_; refine o1 (mv ?_); refine o1 (mv ?_); refine oc (ck ca41 rfl rfl (fail_spec s (tokR s p).2.1 ⟨p, none⟩) [0] rfl (boc .nil) (fir (fir .nil)) ?_); refine nx ?_; refine runs_seq ?_; refine sr ?_
      refine o1 (mv ?_); refine o1 (ncb ?_); refine o1 (fdb ti54 ?_); refine o1 (fdb ti31 ?_); refine o1 (ldb ti3 ?_); refine o1 (ine ?_); refine nx ?_; refine cdf (fun h4 => ?_) (fun h4 => ?_)
      · simp only [nrm, Int.reduceEq, Int.reduceNe, Int.reduceLT, Int.reduceLE, fcode, fat, RS.fail] at h4
      (try simp only [nrm, Int.reduceEq, Int.reduceNe, Int.reduceLT, Int.reduceLE, fcode, fat, RS.fail] at h4); refine kp [] ?_; refine sr ?_; refine o1 (asg ?_); refine nx ?_; refine runs_ret ?_; refine seq_ret ?_; refine fin_ret ?_
      refine fin_od ⟨_, _, rfl, rfl, rfl⟩ rfl ([0]) ([rdO s (RS.fail (tokR s p).2.1 ⟨p, none⟩)]) rfl rfl rfl ?_ ?_
      · repeat (first | exact boz | refine boc ?_)
      · unfold nextR; simp only; rw [if_pos (by exact h2)]; exact ⟨rfl, rfl⟩
    (try simp only [nrm, Int.reduceEq, Int.reduceNe, Int.reduceLT, Int.reduceLE, fcode, fat, RS.fail] at h2); refine runs_skip ?_; refine seq_normal ?_; refine runs_seq ?_; refine kp [4, 3, 0] ?_; refine sr ?_; refine o1 (mv ?_)
    refine o1 (ncb ?_); refine o1 (fdb ti54 ?_); refine o1 (fdb ti31 ?_); refine o1 (ldb ti3 ?_); refine o1 (ine ?_); refine nx ?_; refine cd (fun h4 => ?_) (fun h4 => ?_)
    · simp only [nrm, Int.reduceEq, Int.reduceNe, Int.reduceLT, Int.reduceLE, fcode, fat, RS.fail] at h4
    (try simp only [nrm, Int.reduceEq, Int.reduceNe, Int.reduceLT, Int.reduceLE, fcode, fat, RS.fail] at h4); refine runs_skip ?_; refine seq_normal ?_; refine kp [4, 3, 0] ?_; refine sr ?_; refine o1 (mv ?_); refine o1 (mv ?_)
    refine o1 (mv ?_); refine o1 (le3 ut9 ?_); refine o1 (iad ?_); refine o1 (ncb ?_); refine o1 (fdb ti54 ?_); refine oc (sto ti3 ?_); refine nx ?_; refine kp [3] ?_; refine sr ?_; refine o1 (mv ?_); refine o1 (asg ?_); refine nx ?_
    refine runs_ret ?_; refine fin_ret ?_; refine fin_od ⟨_, _, rfl, rfl, rfl⟩ rfl ([0]) ([rdO s ⟨(tokR s p).2.1 + (tokR s p).1.size, none⟩]) rfl rfl rfl ?_ ?_
    · repeat (first | exact boz | refine boc ?_)
    · unfold nextR; simp only; rw [if_neg (by rintro (h | h); exact absurd h (by simpa using h2.1); exact h2.2 h)]; exact ⟨rfl, rfl⟩
  | some a =>
    refine triS_of_runs Tryd.func42 rfl Tryd.ntmps42 (rs := [.tmp 2]) rfl rfl rfl 1 rfl ?_
    refine sr ?_; refine o1 (asg ?_); refine nx ?_; refine sr ?_; refine o1 (mv ?_); refine oc (ck ca40 rfl rfl (token_spec s p (fcode (some a)) (fat (some a)) hs hp) [0] rfl (boc .nil) (fir .nil) ?_); refine o1 (mv ?_); refine o1 (ex2 ?_)
    refine o1 (ex2 ?_); refine o1 (ex2 ?_); refine o1 (asg ?_); refine o1 (asg ?_); refine o1 (asg ?_); refine nx ?_; refine runs_seq ?_; refine kp [5, 4, 3, 0] ?_; refine sr ?_; refine o1 (mv ?_); refine o1 (f_not ?_); refine o1 (mv ?_)
    apply ops_or (yt := 16) (d := 14) 2 rfl rfl rfl (.none rfl) rfl rfl
    case h1 =>
      intro hb4 hK
      have hc := hb4; (try simp only [nrm, Int.reduceEq, Int.reduceNe, Int.reduceLT, Int.reduceLE, fcode, fat, RS.fail] at hc)
      refine gye ?_ (hbw := by exact hb4); refine o1 (mv ?_); refine gye ?_ (hbw := by exact hb4); refine o1 (seq1 ?_); exact hK [_, _] rfl rfl
    case h2 =>
      intro hb4 hK; refine gno ?_ (hbw := by exact hb4); refine gno ?_ (hbw := by exact hb4); exact hK [_, _] rfl
    refine nx ?_; refine cdf (fun h2 => ?_) (fun h2 => ?_)
    · (try simp only [nrm, Int.reduceEq, Int.reduceNe, Int.reduceLT, Int.reduceLE, fcode, fat, RS.fail] at h2)
      refine runs_skip ?_; refine seq_normal ?_; refine runs_seq ?_; refine kp [4, 3, 0] ?_; refine sr ?_; refine o1 (mv ?_); refine o1 (ncb ?_); refine o1 (fdb ti54 ?_); refine o1 (fdb ti31 ?_); refine o1 (ldb ti3 ?_); refine o1 (ine ?_)
      refine nx ?_; refine cdf (fun h4 => ?_) (fun h4 => ?_)
      · simp only [nrm, Int.reduceEq, Int.reduceNe, Int.reduceLT, Int.reduceLE, fcode, fat, RS.fail] at h4
      (try simp only [nrm, Int.reduceEq, Int.reduceNe, Int.reduceLT, Int.reduceLE, fcode, fat, RS.fail] at h4); refine kp [] ?_; refine sr ?_; refine o1 (asg ?_); refine nx ?_; refine runs_ret ?_; refine seq_ret ?_; refine fin_ret ?_
      refine fin_od ⟨_, _, rfl, rfl, rfl⟩ rfl ([0]) ([rdO s ⟨p, some a⟩]) rfl rfl rfl ?_ ?_
      · repeat (first | exact boz | refine boc ?_)
      · unfold nextR; simp only; rw [if_neg (by rintro (h | h); exact absurd h (by simpa using h2.1); exact h2.2 h)]; exact ⟨rfl, rfl⟩
    (try simp only [nrm, Int.reduceEq, Int.reduceNe, Int.reduceLT, Int.reduceLE, fcode, fat, RS.fail] at h2); refine kp [4, 3, 0] ?_; refine runs_region ?_; refine o1 (mv ?_); refine o1 (mv ?_)
    refine oc (ck ca41 rfl rfl (fail_spec s (tokR s p).2.1 ⟨p, some a⟩) [0] rfl (boc .nil) (fir (fir .nil)) ?_); refine nx ?_; refine runs_seq ?_; refine sr ?_; refine o1 (mv ?_); refine o1 (ncb ?_); refine o1 (fdb ti54 ?_)
    refine o1 (fdb ti31 ?_); refine o1 (ldb ti3 ?_); refine o1 (ine ?_); refine nx ?_; refine cdf (fun h4 => ?_) (fun h4 => ?_)
    · simp only [nrm, Int.reduceEq, Int.reduceNe, Int.reduceLT, Int.reduceLE, fcode, fat, RS.fail] at h4
    (try simp only [nrm, Int.reduceEq, Int.reduceNe, Int.reduceLT, Int.reduceLE, fcode, fat, RS.fail] at h4); refine kp [] ?_; refine sr ?_; refine o1 (asg ?_); refine nx ?_; refine runs_ret ?_; refine seq_ret ?_; refine fin_ret ?_
    refine fin_od ⟨_, _, rfl, rfl, rfl⟩ rfl ([0]) ([rdO s (RS.fail (tokR s p).2.1 ⟨p, some a⟩)]) rfl rfl rfl ?_ ?_
    · repeat (first | exact boz | refine boc ?_)
    · unfold nextR; simp only; rw [if_pos (by exact h2)]; exact ⟨rfl, rfl⟩

theorem take_spec (s t : ByteArray) (r : RS) (hs : s.size ≤ 1099511627776) (hp : r.p ≤ s.size) :
    Tri Tryd.prog gl 47 [rdO s r] [.blk 0 0, .d (.v (.string t))] fun out ob' => out = .ret (.d (.tup [])) ∧ ob' = [rdO s (takeR s t r)] := by
  have hat := tokR_at (s := s) hp
  obtain ⟨p, f⟩ := r
  simp only at hat hp
  cases f with
  | none =>
    refine triS_of_runs Tryd.func47 rfl Tryd.ntmps47 (rs := []) rfl rfl rfl 1 rfl ?_
    refine sr ?_; refine o1 (mv ?_); refine oc (ck ca40 rfl rfl (token_spec s p (fcode none) (fat none) hs hp) [0] rfl (boc .nil) (fir .nil) ?_); refine o1 (mv ?_); refine o1 (ex2 ?_); refine o1 (ex2 ?_); refine o1 (ex2 ?_); refine o1 (asg ?_)
    refine o1 (asg ?_); refine o1 (asg ?_); refine nx ?_; refine runs_seq ?_; refine kp [6, 5, 4, 0, 1] ?_; refine sr ?_; refine o1 (mv ?_); refine o1 (f_not ?_); refine o1 (mv ?_)
    apply ops_or (yt := 18) (d := 15) 3 rfl rfl rfl (.none rfl) rfl rfl
    case h1 =>
      intro hb4 hK
      have hc := hb4; (try simp only [nrm, Int.reduceEq, Int.reduceNe, Int.reduceLT, Int.reduceLE, fcode, fat, RS.fail] at hc)
      refine gye ?_ (hbw := by exact hb4); refine o1 (mv ?_); refine gye ?_ (hbw := by exact hb4); refine o1 (mv ?_); refine gye ?_ (hbw := by exact hb4); refine o1 (sne ?_); exact hK [_, _, _] rfl rfl
    case h2 =>
      intro hb4 hK; refine gno ?_ (hbw := by exact hb4); refine gno ?_ (hbw := by exact hb4); refine gno ?_ (hbw := by exact hb4); exact hK [_, _, _] rfl
    refine nx ?_; refine cd (fun h1 => ?_) (fun h1 => ?_)
    · (try simp only [nrm, Int.reduceEq, Int.reduceNe, Int.reduceLT, Int.reduceLE, fcode, fat, RS.fail] at h1)
      refine kp [5, 4, 0] ?_; refine runs_region ?_; refine o1 (mv ?_); refine o1 (mv ?_); refine oc (ck ca41 rfl rfl (fail_spec s (tokR s p).2.1 ⟨p, none⟩) [0] rfl (boc .nil) (fir (fir .nil)) ?_); refine nx ?_; refine sr ?_; refine o1 (mv ?_)
      refine o1 (ncb ?_); refine o1 (fdb ti54 ?_); refine o1 (fdb ti31 ?_); refine o1 (ldb ti3 ?_); refine o1 (ieq ?_); refine nx ?_; refine cd (fun h3 => ?_) (fun h3 => ?_)
      · simp only [nrm, Int.reduceEq, Int.reduceNe, Int.reduceLT, Int.reduceLE, fcode, fat, RS.fail] at h3
      (try simp only [nrm, Int.reduceEq, Int.reduceNe, Int.reduceLT, Int.reduceLE, fcode, fat, RS.fail] at h3); refine runs_skip ?_; refine fin_normal ?_
      refine fin_od (l := []) rfl rfl ([0]) ([rdO s (RS.fail (tokR s p).2.1 ⟨p, none⟩)]) rfl rfl rfl ?_ ?_
      · repeat (first | exact boz | refine boc ?_)
      · refine ⟨rfl, ?_⟩; unfold takeR; dsimp only; rw [if_pos (by exact h1)]
    (try simp only [nrm, Int.reduceEq, Int.reduceNe, Int.reduceLT, Int.reduceLE, fcode, fat, RS.fail] at h1); refine runs_skip ?_; refine seq_normal ?_; refine kp [5, 4, 0] ?_; refine sr ?_; refine o1 (mv ?_); refine o1 (ncb ?_)
    refine o1 (fdb ti54 ?_); refine o1 (fdb ti31 ?_); refine o1 (ldb ti3 ?_); refine o1 (ieq ?_); refine nx ?_; refine cdf (fun h3 => ?_) (fun h3 => ?_)
    · simp only [nrm, Int.reduceEq, Int.reduceNe, Int.reduceLT, Int.reduceLE, fcode, fat, RS.fail] at h3
    (try simp only [nrm, Int.reduceEq, Int.reduceNe, Int.reduceLT, Int.reduceLE, fcode, fat, RS.fail] at h3); refine kp [5, 4, 0] ?_; refine runs_region ?_; refine o1 (mv ?_); refine o1 (mv ?_); refine o1 (mv ?_); refine o1 (le3 ut9 ?_)
    refine o1 (iad ?_); refine o1 (ncb ?_); refine o1 (fdb ti54 ?_); refine oc (sto ti3 ?_); refine ops_nil ?_; refine fin_normal ?_; refine fin_od (l := []) rfl rfl ([0]) ([rdO s ⟨(tokR s p).2.1 + (tokR s p).1.size, none⟩]) rfl rfl rfl ?_ ?_
    · repeat (first | exact boz | refine boc ?_)
    · refine ⟨rfl, ?_⟩; unfold takeR; dsimp only; rw [if_neg (by rintro (h | h); exact absurd h (by simpa using h1.1); exact h h1.2)]
  | some a =>
    refine triS_of_runs Tryd.func47 rfl Tryd.ntmps47 (rs := []) rfl rfl rfl 1 rfl ?_
    refine sr ?_; refine o1 (mv ?_); refine oc (ck ca40 rfl rfl (token_spec s p (fcode (some a)) (fat (some a)) hs hp) [0] rfl (boc .nil) (fir .nil) ?_); refine o1 (mv ?_); refine o1 (ex2 ?_); refine o1 (ex2 ?_); refine o1 (ex2 ?_)
    refine o1 (asg ?_); refine o1 (asg ?_); refine o1 (asg ?_); refine nx ?_; refine runs_seq ?_; refine kp [6, 5, 4, 0, 1] ?_; refine sr ?_; refine o1 (mv ?_); refine o1 (f_not ?_); refine o1 (mv ?_)
    apply ops_or (yt := 18) (d := 15) 3 rfl rfl rfl (.none rfl) rfl rfl
    case h1 =>
      intro hb4 hK
      have hc := hb4; (try simp only [nrm, Int.reduceEq, Int.reduceNe, Int.reduceLT, Int.reduceLE, fcode, fat, RS.fail] at hc)
      refine gye ?_ (hbw := by exact hb4); refine o1 (mv ?_); refine gye ?_ (hbw := by exact hb4); refine o1 (mv ?_); refine gye ?_ (hbw := by exact hb4); refine o1 (sne ?_); exact hK [_, _, _] rfl rfl
    case h2 =>
      intro hb4 hK; refine gno ?_ (hbw := by exact hb4); refine gno ?_ (hbw := by exact hb4); refine gno ?_ (hbw := by exact hb4); exact hK [_, _, _] rfl
    refine nx ?_; refine cdf (fun h1 => ?_) (fun h1 => ?_)
    · (try simp only [nrm, Int.reduceEq, Int.reduceNe, Int.reduceLT, Int.reduceLE, fcode, fat, RS.fail] at h1)
      refine runs_skip ?_; refine seq_normal ?_; refine kp [5, 4, 0] ?_; refine sr ?_; refine o1 (mv ?_); refine o1 (ncb ?_); refine o1 (fdb ti54 ?_); refine o1 (fdb ti31 ?_); refine o1 (ldb ti3 ?_); refine o1 (ieq ?_); refine nx ?_
      refine cd (fun h3 => ?_) (fun h3 => ?_)
      · simp only [nrm, Int.reduceEq, Int.reduceNe, Int.reduceLT, Int.reduceLE, fcode, fat, RS.fail] at h3
      (try simp only [nrm, Int.reduceEq, Int.reduceNe, Int.reduceLT, Int.reduceLE, fcode, fat, RS.fail] at h3); refine runs_skip ?_; refine fin_normal ?_; refine fin_od (l := []) rfl rfl ([0]) ([rdO s ⟨p, some a⟩]) rfl rfl rfl ?_ ?_
      · repeat (first | exact boz | refine boc ?_)
      · refine ⟨rfl, ?_⟩; unfold takeR; dsimp only; rw [if_neg (by rintro (h | h); exact absurd h (by simpa using h1.1); exact h h1.2)]
    (try simp only [nrm, Int.reduceEq, Int.reduceNe, Int.reduceLT, Int.reduceLE, fcode, fat, RS.fail] at h1); refine kp [5, 4, 0] ?_; refine runs_region ?_; refine o1 (mv ?_); refine o1 (mv ?_)
    refine oc (ck ca41 rfl rfl (fail_spec s (tokR s p).2.1 ⟨p, some a⟩) [0] rfl (boc .nil) (fir (fir .nil)) ?_); refine nx ?_; refine sr ?_; refine o1 (mv ?_); refine o1 (ncb ?_); refine o1 (fdb ti54 ?_); refine o1 (fdb ti31 ?_)
    refine o1 (ldb ti3 ?_); refine o1 (ieq ?_); refine nx ?_; refine cd (fun h3 => ?_) (fun h3 => ?_)
    · simp only [nrm, Int.reduceEq, Int.reduceNe, Int.reduceLT, Int.reduceLE, fcode, fat, RS.fail] at h3
    (try simp only [nrm, Int.reduceEq, Int.reduceNe, Int.reduceLT, Int.reduceLE, fcode, fat, RS.fail] at h3); refine runs_skip ?_; refine fin_normal ?_
    refine fin_od (l := []) rfl rfl ([0]) ([rdO s (RS.fail (tokR s p).2.1 ⟨p, some a⟩)]) rfl rfl rfl ?_ ?_
    · repeat (first | exact boz | refine boc ?_)
    · refine ⟨rfl, ?_⟩; unfold takeR; dsimp only; rw [if_pos (by exact h1)]

theorem done_spec (s : ByteArray) (r : RS) (hs : s.size ≤ 1099511627776) (hp : r.p ≤ s.size) :
    Tri Tryd.prog gl 19 [rdO s r] [.blk 0 0] fun out ob' => out = .ret (.d (.agg [.v (.int .i64 (fcode (doneR s r).f)), .v (.int .i64 (fat (doneR s r).f))])) ∧ ob' = [rdO s (doneR s r)] := by
  refine triS_of_runs Tryd.func19 rfl Tryd.ntmps19 (rs := [.cell 2 31]) rfl rfl rfl 1 rfl ?_
  refine sr ?_; refine oc (T := fun _ => False) (alc ti31 ?_ (hl := by simp only [List.length_cons, List.length_nil, Nat.reduceAdd]; rfl)); refine nx ?_; refine sr ?_; refine o1 (mv ?_)
  refine oc (ck ca40 rfl rfl (token_spec s r.p (fcode r.f) (fat r.f) hs hp) [0] rfl (boc .nil) (fir .nil) ?_); refine o1 (mv ?_); refine o1 (ex2 ?_); refine o1 (ex2 ?_); refine o1 (ex2 ?_); refine o1 (asg ?_); refine o1 (asg ?_)
  refine o1 (asg ?_); refine nx ?_; refine runs_seq ?_; refine kp [5, 4, 3, 2, 0] ?_; refine sr ?_; refine o1 (mv ?_); refine o1 (f_not ?_); refine o1 (mv ?_)
  apply ops_or (yt := 16) (d := 14) 2 rfl rfl rfl (.none rfl) rfl rfl
  case h1 =>
    intro hb4 hK
    have hc := hb4; (try simp only [nrm, Int.reduceEq, Int.reduceNe, Int.reduceLT, Int.reduceLE] at hc)
    refine gye ?_ (hbw := by exact hb4); refine o1 (mv ?_); refine gye ?_ (hbw := by exact hb4); refine o1 (sne ?_); exact hK [_, _] rfl rfl
  case h2 =>
    intro hb4 hK; refine gno ?_ (hbw := by exact hb4); refine gno ?_ (hbw := by exact hb4); exact hK [_, _] rfl
  refine nx ?_; refine cdf (fun h2 => ?_) (fun h2 => ?_)
  · (try simp only [nrm, Int.reduceEq, Int.reduceNe, Int.reduceLT, Int.reduceLE] at h2)
    refine runs_skip ?_; refine seq_normal ?_; refine kp [2, 0] ?_; refine sr ?_; refine o1 (mv ?_); refine o1 (ncb ?_); refine o1 (fdb ti54 ?_); refine o1 (ldb ti31 ?_); refine oc (sto ti31 ?_); refine nx ?_; refine runs_ret ?_
    refine fin_ret ?_; refine fin_od ⟨_, _, rfl, (from_cell rfl rfl ti31 rfl rfl rfl rfl), rfl⟩ rfl ([0]) ([rdO s r]) rfl rfl rfl ?_ ?_
    · repeat (first | exact boz | refine boc ?_)
    · unfold doneR; simp only; rw [if_neg (by rintro (h | h); exact absurd h (by simpa using h2.1); exact h h2.2)]; exact ⟨rfl, rfl⟩
  (try simp only [nrm, Int.reduceEq, Int.reduceNe, Int.reduceLT, Int.reduceLE] at h2); refine kp [4, 2, 0] ?_; refine runs_region ?_; refine o1 (mv ?_); refine o1 (mv ?_)
  refine oc (ck ca41 rfl rfl (fail_spec s (tokR s r.p).2.1 r) [0] rfl (boc .nil) (fir (fir .nil)) ?_); refine nx ?_; refine kp [2, 0] ?_; refine sr ?_; refine o1 (mv ?_); refine o1 (ncb ?_); refine o1 (fdb ti54 ?_); refine o1 (ldb ti31 ?_)
  refine oc (sto ti31 ?_); refine nx ?_; refine runs_ret ?_; refine fin_ret ?_; refine fin_od ⟨_, _, rfl, (from_cell rfl rfl ti31 rfl rfl rfl rfl), rfl⟩ rfl ([0]) ([rdO s (RS.fail (tokR s r.p).2.1 r)]) rfl rfl rfl ?_ ?_
  · repeat (first | exact boz | refine boc ?_)
  · unfold doneR; simp only; rw [if_pos (by exact h2)]; exact ⟨rfl, rfl⟩
end Go.Proofs.YtneaancanfpdhaaDoor
namespace Go.Proofs.YtneaancanfpdhaaDoor
open Go Go.Vd Go.RowKit
attribute [local irreducible] Runs OpsR OpR FloatR AnyR
variable {gl : Nat → List D}

theorem level_spec (s : ByteArray) (hs : s.size ≤ 1099511627776) : ∀ (n : Nat) (r : RS), r.p ≤ s.size → s.size - r.p < n →
    Tri Tryd.prog gl 44 [rdO s r] [.blk 0 0] fun out ob' => out = .ret (.d (levelR n s r).1.d) ∧ ob' = [rdO s (levelR n s r).2] := by
  intro n
  induction n with
  | zero => intro r _ h; omega
  | succ n ih =>
    intro r hp hn
    have hat := tokR_at (s := s) hp
    obtain ⟨p, f⟩ := r
    simp only at hat hp hn
    cases f with
    | some a =>
      refine triS_of_runs Tryd.func44 rfl Tryd.ntmps44 (rs := [.cell 2 90]) rfl rfl rfl 1 rfl ?_
      refine sr ?_; refine oc (T := fun _ => False) (alc ti90 ?_ (hl := by simp only [List.length_cons, List.length_nil, Nat.reduceAdd]; rfl)); refine nx ?_; refine sr ?_; refine o1 (mv ?_)
      refine oc (ck ca40 rfl rfl (token_spec s p (fcode (some a)) (fat (some a)) hs hp) [0] rfl (boc .nil) (fir .nil) ?_); refine o1 (mv ?_); refine o1 (ex2 ?_); refine o1 (ex2 ?_); refine o1 (ex2 ?_); refine o1 (asg ?_); refine o1 (asg ?_)
      refine o1 (asg ?_); refine nx ?_; refine kp [4, 3, 2, 0] ?_; refine sr ?_; refine o1 (mv ?_); refine oc (cv ca67 rfl rfl (isName_spec (tokR s p).1) (fir .nil) ?_); refine o1 (asg ?_); refine nx ?_; refine runs_seq ?_; refine runs_block ?_
      refine sr ?_; refine o1 (mv ?_); refine o1 (ncb ?_); refine o1 (fdb ti54 ?_); refine o1 (fdb ti31 ?_); refine o1 (ldb ti3 ?_); refine o1 (ine ?_); refine o1 (asg ?_); refine nx ?_; refine cdf (fun h4 => ?_) (fun h4 => ?_)
      · simp only [nrm, Int.reduceEq, Int.reduceNe, Int.reduceLT, Int.reduceLE, fcode, fat] at h4
      (try simp only [nrm, Int.reduceEq, Int.reduceNe, Int.reduceLT, Int.reduceLE, fcode, fat] at h4); refine runs_skip ?_; refine inb_normal ?_; refine seq_normal ?_; refine kp [2] ?_; refine sr ?_; refine o1 (bld ti90 ?_)
      refine oc (sto ti90 ?_); refine nx ?_; refine runs_ret ?_; refine fin_ret ?_
      refine fin_odl ⟨_, _, rfl, (from_cell rfl rfl ti90 rfl rfl rfl rfl), rfl⟩ rfl (zeroL.d) (by repeat (first | exact .refl _ | exact .nil | refine .agg ?_ | refine .cons ?_ ?_)) ([0]) ([rdO s ⟨p, some a⟩]) rfl rfl rfl ?_ ?_
      · repeat (first | exact boz | refine boc ?_)
      · exact ⟨rfl, rfl⟩
    | none =>
      have hn1 := nextR_le (s := s) (r := ⟨p, none⟩) hp
      have hn2 := nextR_le (s := s) (r := (nextR s ⟨p, none⟩).2) hn1.2
      have hl1 := levelR_le (s := s) n (r := (nextR s (nextR s ⟨p, none⟩).2).2) hn2.2
      have hl2 := levelR_le (s := s) n (r := (levelR n s (nextR s (nextR s ⟨p, none⟩).2).2).2) hl1.2
      refine triS_of_runs Tryd.func44 rfl Tryd.ntmps44 (rs := [.cell 2 90]) rfl rfl rfl 1 rfl ?_
      refine sr ?_; refine oc (T := fun _ => False) (alc ti90 ?_ (hl := by simp only [List.length_cons, List.length_nil, Nat.reduceAdd]; rfl)); refine nx ?_; refine sr ?_; refine o1 (mv ?_)
      refine oc (ck ca40 rfl rfl (token_spec s p (fcode none) (fat none) hs hp) [0] rfl (boc .nil) (fir .nil) ?_); refine o1 (mv ?_); refine o1 (ex2 ?_); refine o1 (ex2 ?_); refine o1 (ex2 ?_); refine o1 (asg ?_); refine o1 (asg ?_)
      refine o1 (asg ?_); refine nx ?_; refine kp [4, 3, 2, 0] ?_; refine sr ?_; refine o1 (mv ?_); refine oc (cv ca67 rfl rfl (isName_spec (tokR s p).1) (fir .nil) ?_); refine o1 (asg ?_); refine nx ?_; refine runs_seq ?_; refine runs_block ?_
      refine sr ?_; refine o1 (mv ?_); refine o1 (ncb ?_); refine o1 (fdb ti54 ?_); refine o1 (fdb ti31 ?_); refine o1 (ldb ti3 ?_); refine o1 (ine ?_); refine o1 (asg ?_); refine nx ?_; refine cd (fun h4 => ?_) (fun h4 => ?_)
      · simp only [nrm, Int.reduceEq, Int.reduceNe, Int.reduceLT, Int.reduceLE, fcode, fat] at h4
      (try simp only [nrm, Int.reduceEq, Int.reduceNe, Int.reduceLT, Int.reduceLE, fcode, fat] at h4); refine kp [6, 4, 3, 2, 0] ?_; refine sr ?_; refine o1 (mv ?_); refine o1 (seq1 ?_); refine o1 (asg ?_); refine nx ?_
      refine cd (fun h5 => ?_) (fun h5 => ?_)
      · (try simp only [nrm, Int.reduceEq, Int.reduceNe, Int.reduceLT, Int.reduceLE, fcode, fat] at h5)
        refine kp [2, 0] ?_; refine runs_region ?_; refine o1 (mv ?_); refine oc (ck ca42 rfl rfl (next_spec s ⟨p, none⟩ hs hp) [0] rfl (boc .nil) (fir .nil) ?_); refine ops_nil ?_; refine inb_normal ?_; refine seq_normal ?_; refine sr ?_
        refine o1 (bld ti90 ?_); refine oc (sto ti90 ?_); refine nx ?_; refine runs_ret ?_; refine fin_ret ?_
        refine fin_odl ⟨_, _, rfl, (from_cell rfl rfl ti90 rfl rfl rfl rfl), rfl⟩ rfl (zeroL.d) (by repeat (first | exact .refl _ | exact .nil | refine .agg ?_ | refine .cons ?_ ?_)) ([0]) ([rdO s (nextR s ⟨p, none⟩).2]) rfl rfl rfl ?_ ?_
        · repeat (first | exact boz | refine boc ?_)
        · rw [levelR_zero h5]; exact ⟨rfl, rfl⟩
      (try simp only [nrm, Int.reduceEq, Int.reduceNe, Int.reduceLT, Int.reduceLE, fcode, fat] at h5); refine sr ?_; refine o1 (mv ?_); refine o1 (asg ?_); refine nx ?_; refine cd (fun h7 => ?_) (fun h7 => ?_)
      · (try simp only [nrm, Int.reduceEq, Int.reduceNe, Int.reduceLT, Int.reduceLE, fcode, fat] at h7)
        refine kp [3, 2, 0] ?_; refine sr ?_; refine o1 (mv ?_); refine oc (ck ca42 rfl rfl (next_spec s ⟨p, none⟩ hs hp) [0] rfl (boc .nil) (fir .nil) ?_); refine nx ?_; refine sr ?_; refine o1 (mv ?_); refine o1 (bld ti90 ?_)
        refine oc (sto ti90 ?_); refine nx ?_; refine runs_ret ?_; refine inb_ret ?_; refine seq_ret ?_; refine fin_ret ?_
        refine fin_odl ⟨_, _, rfl, (from_cell rfl rfl ti90 rfl rfl rfl rfl), rfl⟩ rfl ((Lvl.mk 4 (tokR s p).1 []).d) (by repeat (first | exact .refl _ | exact .nil | refine .agg ?_ | refine .cons ?_ ?_)) ([0]) ([rdO s (nextR s ⟨p, none⟩).2]) rfl rfl rfl ?_ ?_
        · repeat (first | exact boz | refine boc ?_)
        · rw [levelR_name h5 h7]; exact ⟨rfl, rfl⟩
      (try simp only [nrm, Int.reduceEq, Int.reduceNe, Int.reduceLT, Int.reduceLE, fcode, fat] at h7); refine kp [4, 3, 2, 0] ?_; refine sr ?_; refine o1 (mv ?_); refine o1 (seq1 ?_); refine o1 (asg ?_); refine nx ?_
      refine cdf (fun h10 => ?_) (fun h10 => ?_)
      · (try simp only [nrm, Int.reduceEq, Int.reduceNe, Int.reduceLT, Int.reduceLE, fcode, fat] at h10)
        refine kp [4, 2, 0] ?_; refine runs_region ?_; refine o1 (mv ?_); refine o1 (mv ?_); refine oc (ck ca41 rfl rfl (fail_spec s (tokR s p).2.1 ⟨p, none⟩) [0] rfl (boc .nil) (fir (fir .nil)) ?_); refine ops_nil ?_; refine inb_normal ?_
        refine seq_normal ?_; refine kp [2] ?_; refine sr ?_; refine o1 (bld ti90 ?_); refine oc (sto ti90 ?_); refine nx ?_; refine runs_ret ?_; refine fin_ret ?_
        refine fin_odl ⟨_, _, rfl, (from_cell rfl rfl ti90 rfl rfl rfl rfl), rfl⟩ rfl (zeroL.d) (by repeat (first | exact .refl _ | exact .nil | refine .agg ?_ | refine .cons ?_ ?_)) ([0]) ([rdO s ((RS.mk p none).fail (tokR s p).2.1)]) rfl rfl rfl ?_ ?_
        · repeat (first | exact boz | refine boc ?_)
        · rw [levelR_else h5 h7 h10]; exact ⟨rfl, rfl⟩
      (try simp only [nrm, Int.reduceEq, Int.reduceNe, Int.reduceLT, Int.reduceLE, fcode, fat] at h10); refine kp [2, 0] ?_; refine sr ?_; refine o1 (mv ?_)
      refine oc (ck ca42 rfl rfl (next_spec s ⟨p, none⟩ hs hp) [0] rfl (boc .nil) (fir .nil) ?_); refine nx ?_; refine sr ?_; refine o1 (mv ?_)
      refine oc (ck ca40 rfl rfl (token_spec s (nextR s ⟨p, none⟩).2.p (fcode (nextR s ⟨p, none⟩).2.f) (fat (nextR s ⟨p, none⟩).2.f) hs hn1.2) [0] rfl (boc .nil) (fir .nil) ?_); refine o1 (mv ?_); refine o1 (ex2 ?_); refine o1 (ex2 ?_)
      refine o1 (ex2 ?_); refine o1 (asg ?_); refine o1 (asg ?_); refine o1 (asg ?_); refine nx ?_; refine kp [8, 7, 2, 0] ?_; refine sr ?_; refine o1 (asg ?_); refine nx ?_; refine runs_seq ?_; refine sr ?_; refine o1 (mv ?_); refine nx ?_
      refine kp [52, 10, 8, 2, 0] ?_
      apply runs_cut_c (ι := Unit) (fun _ => [(10, int (kindR (tokR s (nextR s ⟨p, none⟩).2.p).1))]) [8, 2, 0] (fun _ => True)
      case hk => exact rfl
      case h1 =>
        refine runs_block ?_; refine sr ?_; refine o1 (seq1 ?_); refine o1 (asg ?_); refine nx ?_; refine cd (fun h15 => ?_) (fun h15 => ?_)
        · (try simp only [nrm, Int.reduceEq, Int.reduceNe, Int.reduceLT, Int.reduceLE, fcode, fat] at h15)
          refine kp [8, 2, 0] ?_; refine runs_region ?_; refine o1 (asg ?_); refine ops_nil ?_; refine inb_normal ?_; refine seq_back ?_; refine back_i (()) rfl ?_ ?_
          · trivial
          · refine mo ?_ (slx rfl (by exact Fit.of_eq (by simp only [kindR]; simp_all <;> rfl)) (sly (sly (sly slz))))
            repeat (first | exact boz | refine boc ?_)
        (try simp only [nrm, Int.reduceEq, Int.reduceNe, Int.reduceLT, Int.reduceLE, fcode, fat] at h15); refine sr ?_; refine o1 (seq1 ?_); refine o1 (asg ?_); refine nx ?_; refine cd (fun h17 => ?_) (fun h17 => ?_)
        · (try simp only [nrm, Int.reduceEq, Int.reduceNe, Int.reduceLT, Int.reduceLE, fcode, fat] at h17)
          refine kp [8, 2, 0] ?_; refine runs_region ?_; refine o1 (asg ?_); refine ops_nil ?_; refine inb_normal ?_; refine seq_back ?_; refine back_i (()) rfl ?_ ?_
          · trivial
          · refine mo ?_ (slx rfl (by exact Fit.of_eq (by simp only [kindR]; simp_all <;> rfl)) (sly (sly (sly slz))))
            repeat (first | exact boz | refine boc ?_)
        (try simp only [nrm, Int.reduceEq, Int.reduceNe, Int.reduceLT, Int.reduceLE, fcode, fat] at h17); refine kp [52, 10, 8, 2, 0] ?_; refine sr ?_; refine o1 (seq1 ?_); refine o1 (asg ?_); refine nx ?_; refine cdf (fun h19 => ?_) (fun h19 => ?_)
        · (try simp only [nrm, Int.reduceEq, Int.reduceNe, Int.reduceLT, Int.reduceLE, fcode, fat] at h19)
          refine runs_skip ?_; refine inb_normal ?_; refine seq_back ?_; refine back_i (()) rfl ?_ ?_
          · trivial
          · refine mo ?_ (slx rfl (by exact Fit.of_eq (by simp only [kindR]; simp_all <;> rfl)) (sly (sly (sly slz))))
            repeat (first | exact boz | refine boc ?_)
        (try simp only [nrm, Int.reduceEq, Int.reduceNe, Int.reduceLT, Int.reduceLE, fcode, fat] at h19); refine kp [8, 2, 0] ?_; refine runs_region ?_; refine o1 (asg ?_); refine ops_nil ?_; refine inb_normal ?_; refine seq_back ?_
        refine back_i (()) rfl ?_ ?_
        · trivial
        · refine mo ?_ (slx rfl (by exact Fit.of_eq (by simp only [kindR]; simp_all <;> rfl)) (sly (sly (sly slz))))
          repeat (first | exact boz | refine boc ?_)
      case h2 =>
        rintro _ hcut
        try dsimp only at hcut
        refine kp [10, 8, 2, 0] ?_; refine runs_seq ?_; refine sr ?_; refine o1 (mv ?_); refine o1 (ieq ?_); refine nx ?_; refine cd (fun h21 => ?_) (fun h21 => ?_)
        · (try simp only [nrm, Int.reduceEq, Int.reduceNe, Int.reduceLT, Int.reduceLE, fcode, fat] at h21)
          refine sr ?_; refine o1 (mv ?_); refine o1 (mv ?_); refine oc (ck ca41 rfl rfl (fail_spec s (tokR s (nextR s ⟨p, none⟩).2.p).2.1 (nextR s ⟨p, none⟩).2) [0] rfl (boc .nil) (fir (fir .nil)) ?_); refine nx ?_; refine kp [2] ?_; refine sr ?_
          refine o1 (bld ti90 ?_); refine oc (sto ti90 ?_); refine nx ?_; refine runs_ret ?_; refine seq_ret ?_; refine inb_ret ?_; refine seq_ret ?_; refine fin_ret ?_
          refine fin_odl ⟨_, _, rfl, (from_cell rfl rfl ti90 rfl rfl rfl rfl), rfl⟩ rfl (zeroL.d) (by repeat (first | exact .refl _ | exact .nil | refine .agg ?_ | refine .cons ?_ ?_)) ([0]) ([rdO s ((nextR s ⟨p, none⟩).2.fail (tokR s (nextR s ⟨p, none⟩).2.p).2.1)]) rfl rfl rfl ?_ ?_
          · repeat (first | exact boz | refine boc ?_)
          · rw [levelR_kind h5 h7 h10 h21]; exact ⟨rfl, rfl⟩
        (try simp only [nrm, Int.reduceEq, Int.reduceNe, Int.reduceLT, Int.reduceLE, fcode, fat] at h21); refine runs_skip ?_; refine seq_normal ?_; refine sr ?_; refine o1 (mv ?_)
        refine oc (ck ca42 rfl rfl (next_spec s (nextR s ⟨p, none⟩).2 hs hn1.2) [0] rfl (boc .nil) (fir .nil) ?_); refine nx ?_; refine kp [10, 2, 0] ?_; refine sr ?_; refine o1 (mv ?_); refine o1 (bld ti90 ?_)
        refine oc (T := fun _ => False) (alc ti90 ?_ (hl := by simp only [List.length_cons, List.length_nil, Nat.reduceAdd]; rfl)); refine oc (sto ti90 ?_); refine nx ?_; refine runs_seq ?_
        have hne : (tokR s p).1 ≠ .empty := by rw [h10]; decide
        have hsz1 : (tokR s p).1.size = 1 := by rw [h10]; rfl
        have hnx := nextR_ok hne
        have hpr : p < (nextR s ⟨p, none⟩).2.p := by rw [hnx]; simp only; omega
        have hpr2 := hn2.1
        obtain ⟨k1, s1, a1, hX1⟩ := Lvl.case (levelR n s (nextR s (nextR s ⟨p, none⟩).2).2).1; obtain ⟨k2, s2, a2, hX2⟩ := Lvl.case (levelR n s (levelR n s (nextR s (nextR s ⟨p, none⟩).2).2).2).1; refine a_start ?_ (hm := by exact mixed)
        refine A1 0 rfl (fdb ti90 ⟨_, rfl, ?_⟩); refine A1 1 rfl (ldb ti26 ⟨_, rfl, ?_⟩); refine A1 2 rfl (mv ⟨_, rfl, ?_⟩)
        refine A2 3 rfl (op_callo ca44 rfl rfl rfl rfl (ih (nextR s (nextR s ⟨p, none⟩).2).2 hn2.2 (by omega)) [0] (boc .nil) rfl rfl rfl rfl (fir .nil) (fun s ob' hq => ?_) (fun s ob' hq => ?_))
        rotate_left
        · first | exact hq.elim | cases hq.1
        obtain ⟨hq1, rfl⟩ := hq; rw [hX1] at hq1; cases hq1; refine ⟨_, _, _, _, _, rfl, rfl, rfl, rfl, rfl, ?_⟩
        refine A2 (T := fun _ => False) 4 rfl (op_lit sl26 [.tmp 72] ti90 rfl rfl rfl rfl rfl rfl rfl (by decide) (by decide) (by decide) (by simp only [List.length_cons, List.length_nil, Nat.reduceAdd]; rfl) rfl ?_)
        refine A2 (T := fun _ => False) 5 rfl (op_append_nil sl26 rfl rfl rfl rfl rfl rfl (by simp only [List.length_cons, List.length_nil, Nat.reduceAdd]; rfl) rfl rfl (by decide) (by simp) (by first | decide | (simp only [maxLen, List.length_cons, List.length_nil, List.length_append, List.length_map]; omega) | omega) rfl rfl rfl ?_)
        refine A1 6 rfl (fdb ti90 ⟨_, rfl, ?_⟩); refine A2 7 rfl (sto ti26 ?_); refine a_end ?_; refine seq_normal ?_; refine runs_seq ?_; refine kp [11, 10, 2, 0] ?_; refine sr ?_; refine o1 (mv ?_); refine o1 (ine ?_); refine nx ?_
        refine cdf (fun h27 => ?_) (fun h27 => ?_)
        · (try simp only [nrm, Int.reduceEq, Int.reduceNe, Int.reduceLT, Int.reduceLE, fcode, fat] at h27)
          refine runs_skip ?_; refine seq_normal ?_; refine sr ?_; refine o1 (mv ?_); refine oc (ck ca47 rfl rfl (take_spec s ⟨#[41]⟩ (levelR n s (nextR s (nextR s ⟨p, none⟩).2).2).2 hs hl1.2) [0] rfl (boc .nil) (fir (fir .nil)) ?_); refine nx ?_
          refine kp [11, 2] ?_; refine sr ?_; refine o1 (ldb ti90 ?_); refine oc (sto ti90 ?_); refine nx ?_; refine runs_ret ?_; refine inb_ret ?_; refine seq_ret ?_; refine fin_ret ?_
          refine fin_odl ⟨_, _, rfl, (from_cell rfl rfl ti90 rfl rfl rfl rfl), rfl⟩ rfl ((Lvl.mk (kindR (tokR s (nextR s ⟨p, none⟩).2.p).1) .empty [Lvl.mk k1 s1 a1]).d) (by exact .refl _) ([0]) ([rdO s (takeR s ⟨#[41]⟩ (levelR n s (nextR s (nextR s ⟨p, none⟩).2).2).2)]) rfl rfl rfl ?_ ?_
          · repeat (first | exact boz | refine boc ?_)
          · rw [levelR_one h5 h7 h10 h27, hX1, h27]; exact ⟨rfl, rfl⟩
        (try simp only [nrm, Int.reduceEq, Int.reduceNe, Int.reduceLT, Int.reduceLE, fcode, fat] at h27); refine a_start ?_ (hm := by exact mixed); refine A1 0 rfl (fdb ti90 ⟨_, rfl, ?_⟩); refine A1 1 rfl (ldb ti26 ⟨_, rfl, ?_⟩)
        refine A1 2 rfl (mv ⟨_, rfl, ?_⟩)
        refine A2 3 rfl (op_callo ca44 rfl rfl rfl rfl (ih (levelR n s (nextR s (nextR s ⟨p, none⟩).2).2).2 hl1.2 (by have := hl1.1; omega)) [0] (boc .nil) rfl rfl rfl rfl (fir .nil) (fun s ob' hq => ?_) (fun s ob' hq => ?_))
        rotate_left
        · first | exact hq.elim | cases hq.1
        obtain ⟨hq1, rfl⟩ := hq; rw [hX2] at hq1; cases hq1; refine ⟨_, _, _, _, _, rfl, rfl, rfl, rfl, rfl, ?_⟩
        refine A2 (T := fun _ => False) 4 rfl (op_lit sl26 [.tmp 81] ti90 rfl rfl rfl rfl rfl rfl rfl (by decide) (by decide) (by decide) (by simp only [List.length_cons, List.length_nil, Nat.reduceAdd]; rfl) rfl ?_)
        refine A2 5 rfl (op_append sl26 rfl rfl rfl rfl rfl rfl rfl (.inl rfl) (by decide) (by simp) (by first | decide | (simp only [maxLen, List.length_cons, List.length_nil, List.length_append, List.length_map]; omega) | omega) rfl rfl rfl ?_)
        refine A1 6 rfl (fdb ti90 ⟨_, rfl, ?_⟩); refine A2 7 rfl (sto ti26 ?_); refine a_end ?_; refine seq_normal ?_; refine kp [11, 2, 0] ?_; refine sr ?_; refine o1 (mv ?_)
        refine oc (ck ca47 rfl rfl (take_spec s ⟨#[41]⟩ (levelR n s (levelR n s (nextR s (nextR s ⟨p, none⟩).2).2).2).2 hs hl2.2) [0] rfl (boc .nil) (fir (fir .nil)) ?_); refine nx ?_; refine sr ?_; refine o1 (ldb ti90 ?_); refine oc (sto ti90 ?_)
        refine nx ?_; refine runs_ret ?_; refine inb_ret ?_; refine seq_ret ?_; refine fin_ret ?_
        refine fin_odl ⟨_, _, rfl, (from_cell rfl rfl ti90 rfl rfl rfl rfl), rfl⟩ rfl ((Lvl.mk (kindR (tokR s (nextR s ⟨p, none⟩).2.p).1) .empty [Lvl.mk k1 s1 a1, Lvl.mk k2 s2 a2]).d) (by exact .refl _) ([0]) ([rdO s (takeR s ⟨#[41]⟩ (levelR n s (levelR n s (nextR s (nextR s ⟨p, none⟩).2).2).2).2)]) rfl rfl rfl ?_ ?_
        · repeat (first | exact boz | refine boc ?_)
        · rw [levelR_two h5 h7 h10 h21 h27, hX1, hX2]; exact ⟨rfl, rfl⟩

end Go.Proofs.YtneaancanfpdhaaDoor
namespace Go.Proofs.YtneaancanfpdhaaDoor
open Go Go.Vd Go.RowKit
attribute [local irreducible] Runs OpsR OpR FloatR AnyR
variable {gl : Nat → List D}

theorem kindR_case (w : ByteArray) : kindR w = 0 ∨ ((kindR w = 1 ∨ kindR w = 2 ∨ kindR w = 3) ∧ w ≠ .empty) := by
  unfold kindR
  split
  · rename_i h; subst h; exact .inr ⟨.inl rfl, by decide⟩
  · split
    · rename_i h; subst h; exact .inr ⟨.inr (.inl rfl), by decide⟩
    · split
      · rename_i h; subst h; exact .inr ⟨.inr (.inr rfl), by decide⟩
      · exact .inl rfl

/-- what the reader reads is a level, and no greater than what it read -/
theorem levelR_lev {s : ByteArray} : ∀ (n : Nat) {r : RS}, r.p ≤ s.size → ∃ x : Lev, (levelR n s r).1 = x.toLvl ∧ fitP x.toLvl ∧ x.weight + 20 * r.p ≤ 10 + 20 * (levelR n s r).2.p := by
  have hz : fitP Lev.zero.toLvl := by simp [Lev.toLvl, fitP, fitL]
  have hzz : zeroL = Lev.zero.toLvl := rfl
  intro n
  induction n with
  | zero => intro r hp; exact ⟨.zero, rfl, hz, by simp [levelR, Lev.weight]⟩
  | succ n ih =>
    intro r hp
    obtain ⟨p, f⟩ := r
    simp only at hp
    cases f with
    | some a => exact ⟨.zero, rfl, hz, by simp [levelR, Lev.weight]⟩
    | none =>
      have hat := tokR_at (s := s) hp
      have h1 := nextR_le (s := s) (r := ⟨p, none⟩) hp
      have h2 := nextR_le (s := s) (r := (nextR s ⟨p, none⟩).2) h1.2
      have h3 := levelR_le n h2.2
      have h4 := levelR_le n h3.2
      obtain ⟨xa, ea, fa, wa⟩ := ih h2.2
      obtain ⟨xb, eb, fb, wb⟩ := ih h3.2
      have h5 := takeR_le (s := s) (w := ⟨#[41]⟩) h3.2
      have h6 := takeR_le (s := s) (w := ⟨#[41]⟩) h4.2
      simp only at h1
      by_cases c0 : (tokR s p).1 = ⟨#[48]⟩
      · rw [levelR_zero c0]; exact ⟨.zero, rfl, hz, by simp only [Lev.weight]; omega⟩
      cases c1 : isNameB (tokR s p).1 with
      | true =>
        have hne : (tokR s p).1 ≠ .empty := by
          intro e; rw [e] at c1; simp [isNameB] at c1
        rw [levelR_name c0 c1, nextR_ok hne]
        refine ⟨.param (tokR s p).1, rfl, by simp [Lev.toLvl, fitP, fitL, hne], ?_⟩
        simp only [Lev.weight]; omega
      | false =>
        by_cases c2 : (tokR s p).1 = ⟨#[40]⟩
        · have hne : (tokR s p).1 ≠ .empty := by rw [c2]; decide
          have hp1 : p + 1 ≤ (nextR s ⟨p, none⟩).2.p := by
            rw [nextR_ok hne]
            have : (tokR s p).1.size = 1 := by rw [c2]; rfl
            simp only; omega
          rcases kindR_case (tokR s (nextR s ⟨p, none⟩).2.p).1 with hk | ⟨hk, hne2⟩
          · rw [levelR_kind c0 c1 c2 hk]
            exact ⟨.zero, rfl, hz, by simp only [Lev.weight, RS.fail_p]; omega⟩
          · have hp2 : (nextR s ⟨p, none⟩).2.p + 1 ≤ (nextR s (nextR s ⟨p, none⟩).2).2.p := by
              have h7 : nextR s ⟨p, none⟩ = ((tokR s p).1, ⟨(tokR s p).2.1 + (tokR s p).1.size, none⟩) := nextR_ok hne
              rw [h7] at hne2 ⊢
              simp only at hne2 ⊢
              rw [nextR_ok hne2]
              have h8 := tokR_at (s := s) (p := (tokR s p).2.1 + (tokR s p).1.size) hat.2
              have h9 := size_pos_of_ne hne2
              simp only; omega
            rcases hk with hk | hk | hk
            · rw [levelR_one c0 c1 c2 hk, ea]
              refine ⟨.succ xa, rfl, by simp [Lev.toLvl, fitP, fitL, fa], ?_⟩
              simp only [Lev.weight]; omega
            · rw [levelR_two c0 c1 c2 (by omega) (by omega), ea, eb, hk]
              refine ⟨.max xa xb, rfl, by simp [Lev.toLvl, fitP, fitL, fa, fb], ?_⟩
              simp only [Lev.weight]; omega
            · rw [levelR_two c0 c1 c2 (by omega) (by omega), ea, eb, hk]
              refine ⟨.imax xa xb, rfl, by simp [Lev.toLvl, fitP, fitL, fa, fb], ?_⟩
              simp only [Lev.weight]; omega
        · rw [levelR_else c0 c1 c2]
          exact ⟨.zero, rfl, hz, by simp only [Lev.weight, RS.fail_p]; omega⟩

theorem parseR_lev (s : ByteArray) : ∃ x : Lev, (parseR s).1 = x.toLvl ∧ fitP x.toLvl ∧ x.weight ≤ 400010 := by
  have hz : fitP Lev.zero.toLvl := by simp [Lev.toLvl, fitP, fitL]
  unfold parseR
  split
  · exact ⟨.zero, rfl, hz, by decide⟩
  · rename_i h
    obtain ⟨x, e, f, w⟩ := levelR_lev (s := s) (s.size + 1) (r := ⟨0, none⟩) (Nat.zero_le _)
    have h2 := levelR_le (s := s) (s.size + 1) (r := ⟨0, none⟩) (Nat.zero_le _)
    dsimp only
    split
    · exact ⟨x, e, f, by simp only at w; omega⟩
    · exact ⟨.zero, rfl, hz, by decide⟩
end Go.Proofs.YtneaancanfpdhaaDoor
namespace Go.Proofs.YtneaancanfpdhaaDoor
open Go Go.Vd Go.RowKit

mutual
theorem same_refl : ∀ l : Lvl, Lvl.same l l = true
  | .mk k s a => by rw [Lvl.same_eq, sameL_refl a]; simp
theorem sameL_refl : ∀ l : List Lvl, sameL l l = true
  | [] => rfl
  | l :: r => by
    have h1 := same_refl l
    have h2 := sameL_refl r
    unfold sameL
    simp [h1, h2]
end
/-- a step of a script -/
def opD (K : Int) (S T U : ByteArray) (A B : Int) : D := .agg [.v (.int .i64 K), .v (.string S), .v (.string T), .v (.string U), .v (.int .i64 A), .v (.int .i64 B)]
def i64 (n : Int) : Prop := -9223372036854775808 ≤ n ∧ n ≤ 9223372036854775807

structure Step where
  k : Int
  s : ByteArray
  t : ByteArray
  u : ByteArray
  a : Int
  b : Int
def Step.cells (o : Step) : List D := [.v (.int .i64 o.k), .v (.string o.s), .v (.string o.t), .v (.string o.u), .v (.int .i64 o.a), .v (.int .i64 o.b)]
def steps (l : List Step) : List (List D) := l.map Step.cells
theorem steps_len (l : List Step) : (steps l).length = l.length := by simp [steps]
theorem step_at {l : List Step} {i : Nat} (h : i < l.length) : (steps l)[((i : Nat) : Int).toNat]? = some [.v (.int .i64 l[i].k), .v (.string l[i].s), .v (.string l[i].t), .v (.string l[i].u), .v (.int .i64 l[i].a), .v (.int .i64 l[i].b)] := by simp [steps, h, Step.cells]
def Step.okInts (o : Step) : Prop := i64 o.a ∧ i64 o.b
end Go.Proofs.YtneaancanfpdhaaDoor
namespace Go.Proofs.YtneaancanfpdhaaDoor
open Go Go.Vd Go.RowKit Go.ChangeShapes Go.WideShapes

def memW (w : World) : Mem := fun b o => (w.cell? ⟨b, o, none⟩).bind fun x => if x.oneCell' then some x else none
theorem memW_of {w : World} {b o : Nat} {x : Value} (h : w.cell? ⟨b, o, none⟩ = some x) (h1 : x.oneCell' = true) : memW w b o = some x := by simp [memW, h, h1]
theorem storeW {gl : Nat → List D} {w : World} (hg : ∀ b, DenC (memW w) b 0 (gl b)) : StoreOk gl [] ⟨memW w, []⟩ w := by
  refine ⟨rfl, by simp, by simp, by simp, fun b o x h => ?_, hg⟩
  simp only [memW, Option.bind_eq_some_iff] at h
  obtain ⟨y, h1, h2⟩ := h
  split at h2
  · cases h2; exact ⟨h1, by assumption⟩
  · cases h2
/-- a contract of data alone, at a call from outside -/
theorem calls_of_triD {P : Program} {gl : Nat → List D} {f : FuncId} {ds : List D} {Q : D → Prop} {w : World} {vs : List Value} (h : TriD P gl f ds Q) (hg : ∀ b, DenC (memW w) b 0 (gl b)) (hd : SDenL ⟨memW w, []⟩ (ds.map .d) vs) :
    Calls P f ⟨vs⟩ w fun e w' => ∃ v d m, e = .returned v ∧ D.Den m d v ∧ Q d ∧ Below w.heap.size w w' := by
  refine (h _ w vs (storeW hg) hd).mono fun e w' he => ?_
  obtain ⟨g', ob', hs, hst, _, _, he⟩ := he
  have hb : Below w.heap.size w w' := ⟨hst.fr.os, hst.fr.tape, hst.fr.output, hst.fr.size, fun k hk => hst.fr.block k hk (fun hx => by
    obtain ⟨i, o, p, h1, _⟩ := hx
    simp at h1)⟩
  cases e with
  | returned v =>
    obtain ⟨s, h1, h2, d, h3, h4⟩ := he
    cases h3
    exact ⟨v, d, _, rfl, h1, h4, hb⟩
  | panicked c => obtain ⟨v, s, _, _, _, d, h3, _⟩ := he; cases h3
  | outgrown => exact he.elim

theorem exists_list {α : Type} {n : Nat} {p : Nat → α → Prop} (h : ∀ i, i < n → ∃ x, p i x) : ∃ l : List α, l.length = n ∧ ∀ (i : Nat) x, l[i]? = some x → p i x := by
  induction n with
  | zero => exact ⟨[], rfl, by simp⟩
  | succ n ih =>
    obtain ⟨l, h1, h2⟩ := ih fun i hi => h i (by omega)
    obtain ⟨x, hx⟩ := h n (by omega)
    refine ⟨l ++ [x], by simp [h1], fun i y hy => ?_⟩
    by_cases hi : i < l.length
    · rw [List.getElem?_append_left hi] at hy; exact h2 i y hy
    · have hil : i = l.length := by
        have := (List.getElem?_eq_some_iff.1 hy).1
        simp at this; omega
      subst hil
      rw [List.getElem?_append_right (Nat.le_refl _), Nat.sub_self] at hy
      simp at hy; subst hy; rw [h1]; exact hx
theorem denR_of {α : Type} {m : Mem} {k b : Nat} (c : α → List D) : ∀ {l : List α} {off : Nat}, (∀ (i : Nat) x, l[i]? = some x → (c x).length = k ∧ DenC m b (off + i * k) (c x)) → DenR m k b off (l.map c)
  | [], _, _ => trivial
  | x :: r, off, h => ⟨by have := h 0 x rfl; simpa using this, denR_of c fun i y hy => by
      have := h (i + 1) y (by simpa using hy)
      rwa [show off + (i + 1) * k = off + k + i * k by rw [Nat.add_mul]; omega] at this⟩

section
variable {H : Type} {enc : TypeId × Value → H} {W : World} {sp : Nat → Bool} {hd : Bool}
theorem int_of_trod {k : Nat} {fuel : Nat} {cs : List Value} {x : DataW H × List MemPlace} (h : DataW.trod enc Tryd.prog W 0 sp hd fuel 3 cs = some x) : ∃ n : Int, cs = [.int .i64 n] ∧ i64 n := by
  obtain ⟨n, h1, _, h2⟩ := DataW.trod_int ui3 h
  refine ⟨n, h1, ?_⟩
  simp only [Lit.wf, Bool.and_eq_true, decide_eq_true_eq] at h2
  exact ⟨h2.1, h2.2⟩
theorem str_of_trod {fuel : Nat} {cs : List Value} {x : DataW H × List MemPlace} (h : DataW.trod enc Tryd.prog W 0 sp hd fuel 9 cs = some x) : ∃ s : ByteArray, cs = [.string s] := by
  obtain ⟨s, h1, _⟩ := DataW.trod_string ut9 h
  exact ⟨s, h1⟩

set_option maxRecDepth 100000 in
/-- the script, read -/
theorem script_of_trod {v : Value} {fuel : Nat} {x : DataW H × List MemPlace} (h : DataW.trod enc Tryd.prog W 0 sp hd fuel 22 v.cells.toList = some x) (hv : v.oneCell' = true) :
    ∃ l : List Step, (D.sl 6 (steps l)).Den (memW W) v ∧ ∀ o ∈ l, o.okInts := by
  have hu := us22
  have he : (tiOf Tryd.prog 22).elem = 25 := by rw [ti22]
  rw [he] at hu
  have c25 : Tryd.prog.cellsOf 25 = 6 := by kernel_rfl
  have c3 : Tryd.prog.cellsOf 3 = 1 := by kernel_rfl
  have c9 : Tryd.prog.cellsOf 9 = 1 := by kernel_rfl
  rw [Value.cells_one hv] at h
  rcases DataW.trod_slice hu h with ⟨h1, _⟩ | ⟨a, len, cap, elems, rest, n, rfl, h1, _, _, h2, _, h3, h4, _⟩
  · simp at h1; subst h1
    exact ⟨[], ⟨none, 0, rfl, by simp [steps], fun hn => absurd rfl hn⟩, by simp⟩
  · simp at h1; subst h1
    have key : ∀ i, i < len → ∃ st : Step, st.okInts ∧ ∀ (j : Nat) y, st.cells[j]? = some y → ∃ u, W.cell? (a.add (i * 6) |>.add j) = some u ∧ u.oneCell' = true ∧ ∀ m, y.Den m u := by
      intro i hi
      have := h4 i hi
      rw [c25, List.getElem?_eq_getElem (by omega)] at this
      obtain ⟨cs, hcs, hst⟩ := Option.bind_eq_some_iff.1 this
      obtain ⟨_, hlen, hcell⟩ := World.cells?_some hcs
      obtain ⟨xs, n', rfl, _, _, hxl, hf⟩ := DataW.trod_struct Tryd.underlying25 hst
      have hx6 : xs.length = 6 := hxl
      have f0 := hf 0 _ rfl
      have f1 := hf 1 _ rfl
      have f2 := hf 2 _ rfl
      have f3 := hf 3 _ rfl
      have f4 := hf 4 _ rfl
      have f5 := hf 5 _ rfl
      rw [List.getElem?_eq_getElem (by omega)] at f0 f1 f2 f3 f4 f5
      match cs, hlen with
      | [x0, x1, x2, x3, x4, x5], _ =>
        have g0 : DataW.trod enc Tryd.prog W 0 sp hd n' 3 (([x0, x1, x2, x3, x4, x5].drop 0).take (Tryd.prog.cellsOf 3)) = some xs[0] := f0
        rw [c3] at g0
        have g1 : DataW.trod enc Tryd.prog W 0 sp hd n' 9 (([x0, x1, x2, x3, x4, x5].drop 1).take (Tryd.prog.cellsOf 9)) = some xs[1] := f1
        rw [c9] at g1
        have g2 : DataW.trod enc Tryd.prog W 0 sp hd n' 9 (([x0, x1, x2, x3, x4, x5].drop 2).take (Tryd.prog.cellsOf 9)) = some xs[2] := f2
        rw [c9] at g2
        have g3 : DataW.trod enc Tryd.prog W 0 sp hd n' 9 (([x0, x1, x2, x3, x4, x5].drop 3).take (Tryd.prog.cellsOf 9)) = some xs[3] := f3
        rw [c9] at g3
        have g4 : DataW.trod enc Tryd.prog W 0 sp hd n' 3 (([x0, x1, x2, x3, x4, x5].drop 4).take (Tryd.prog.cellsOf 3)) = some xs[4] := f4
        rw [c3] at g4
        have g5 : DataW.trod enc Tryd.prog W 0 sp hd n' 3 (([x0, x1, x2, x3, x4, x5].drop 5).take (Tryd.prog.cellsOf 3)) = some xs[5] := f5
        rw [c3] at g5
        obtain ⟨k, e0, _⟩ := int_of_trod (k := 0) g0
        obtain ⟨s, e1⟩ := str_of_trod g1
        obtain ⟨t, e2⟩ := str_of_trod g2
        obtain ⟨u, e3⟩ := str_of_trod g3
        obtain ⟨a', e4, i4⟩ := int_of_trod (k := 0) g4
        obtain ⟨b', e5, i5⟩ := int_of_trod (k := 0) g5
        simp only [List.drop_zero, List.drop_succ_cons, List.take_succ_cons, List.take_zero, List.cons.injEq, and_true] at e0 e1 e2 e3 e4 e5
        subst e0 e1 e2 e3 e4 e5
        refine ⟨⟨k, s, t, u, a', b'⟩, ⟨i4, i5⟩, fun j y hy => ?_⟩
        have hj : j < 6 := by have := (List.getElem?_eq_some_iff.1 hy).1; simpa [Step.cells] using this
        rw [hcell j hj]
        match j, hj with
        | 0, _ => simp [Step.cells] at hy; subst hy; exact ⟨_, rfl, rfl, fun m => rfl⟩
        | 1, _ => simp [Step.cells] at hy; subst hy; exact ⟨_, rfl, rfl, fun m => rfl⟩
        | 2, _ => simp [Step.cells] at hy; subst hy; exact ⟨_, rfl, rfl, fun m => rfl⟩
        | 3, _ => simp [Step.cells] at hy; subst hy; exact ⟨_, rfl, rfl, fun m => rfl⟩
        | 4, _ => simp [Step.cells] at hy; subst hy; exact ⟨_, rfl, rfl, fun m => rfl⟩
        | 5, _ => simp [Step.cells] at hy; subst hy; exact ⟨_, rfl, rfl, fun m => rfl⟩
    obtain ⟨l, hl, hp⟩ := exists_list key
    refine ⟨l, ⟨some a, cap, by rw [steps_len, hl], by rw [steps_len, hl]; exact h2, fun hn => ?_⟩, fun o ho => ?_⟩
    · have hl0 : 0 < l.length := List.length_pos_iff.2 fun e => hn (by simp [steps, e])
      have hsp : a.spot = none := by
        obtain ⟨_, hc⟩ := hp 0 l[0] (by simp [hl0])
        obtain ⟨u, hu, _⟩ := hc 0 _ rfl
        simp only [Nat.zero_mul] at hu
        have e : (a.add 0).add 0 = a := by simp [Addr.add]
        rw [e] at hu
        exact World.cell?_spot hu
      obtain ⟨ab, ao, asp⟩ := a
      simp only at hsp; subst hsp
      refine ⟨ab, ao, rfl, denR_of Step.cells fun i st hst => ⟨rfl, ?_⟩⟩
      obtain ⟨_, hc⟩ := hp i st hst
      have : ∀ j y, st.cells[j]? = some y → ∃ u, memW W ab (ao + i * 6 + j) = some u ∧ y.Den (memW W) u := fun j y hy => by
        obtain ⟨u, h5, h6, h7⟩ := hc j y hy
        rw [addr_add, addr_add] at h5
        exact ⟨u, memW_of h5 h6, h7 _⟩
      exact ⟨this 0 _ rfl, this 1 _ rfl, this 2 _ rfl, this 3 _ rfl, this 4 _ rfl, this 5 _ rfl, trivial⟩
    · obtain ⟨i, hi, e⟩ := List.mem_iff_getElem.1 ho
      exact (hp i o (by rw [List.getElem?_eq_getElem hi, e])).1
end
end Go.Proofs.YtneaancanfpdhaaDoor
namespace Go.Vd
open Go Go.RowKit

abbrev MapF := ByteArray → Option Int
/-- a form's map, the greater ones taken -/
def putM (f : MapF) (s : ByteArray) (n : Int) : MapF := match f s with
  | none => updM f s n
  | some m => if n > m then updM f s n else f
def joinL (f : MapF) (up : Int) : List (ByteArray × Int) → MapF
  | [] => f
  | (s, n) :: r => putM (joinL f up r) s (n + up)
/-- .. all of g's -/
def joinM (f g : MapF) (up : Int) : MapF := fun p => match g p with
  | none => f p
  | some n => match f p with
    | none => some (n + up)
    | some m => if n + up > m then some (n + up) else some m
theorem putM_at {f : MapF} {s : ByteArray} {n : Int} (p : ByteArray) : putM f s n p = if p = s then (match f s with | none => some n | some m => if n > m then some n else some m) else f p := by
  unfold putM
  cases h : f s with
  | none => simp only [updM]
  | some m =>
    simp only
    by_cases h2 : n > m
    · simp only [if_pos h2, updM]
    · simp only [if_neg h2]
      by_cases h3 : p = s
      · rw [if_pos h3, h3, h]
      · rw [if_neg h3]
theorem joinL_get {f g : MapF} {up : Int} : ∀ {dn : List (ByteArray × Int)}, (dn.map Prod.fst).Nodup → (∀ p ∈ dn, g p.1 = some p.2) → ∀ p, (p ∈ dn.map Prod.fst → joinL f up dn p = joinM f g up p) ∧ (p ∉ dn.map Prod.fst → joinL f up dn p = f p)
  | [], _, _, p => by simp [joinL]
  | (s, n) :: r, hnd, hg, p => by
    simp only [List.map_cons, List.nodup_cons] at hnd
    have ih := fun q => joinL_get (f := f) (up := up) hnd.2 (fun q hq => hg q (List.mem_cons_of_mem _ hq)) q
    have hs : g s = some n := hg (s, n) List.mem_cons_self
    simp only [joinL, putM_at, List.map_cons, List.mem_cons]
    rw [(ih s).2 hnd.1]
    by_cases hp : p = s
    · subst hp
      refine ⟨fun _ => ?_, fun h => absurd (.inl rfl) h⟩
      rw [if_pos rfl]
      unfold joinM
      rw [hs]
    · rw [if_neg hp]
      exact ⟨fun h => (ih p).1 (h.resolve_left hp), fun h => (ih p).2 (fun e => h (.inr e))⟩
theorem joinL_all {f g : MapF} {up : Int} {dn : List (ByteArray × Int)} (hnd : (dn.map Prod.fst).Nodup) (hg : ∀ p ∈ dn, g p.1 = some p.2) (hall : ∀ s n, g s = some n → (s, n) ∈ dn) : joinL f up dn = joinM f g up := by
  funext p
  by_cases h : p ∈ dn.map Prod.fst
  · exact (joinL_get hnd hg p).1 h
  · rw [(joinL_get hnd hg p).2 h]
    unfold joinM
    cases hgp : g p with
    | none => rfl
    | some n => exact absurd (List.mem_map.2 ⟨_, hall p n hgp, rfl⟩) h
theorem joinL_bound {f : MapF} {up B : Int} (hf : ∀ p m, f p = some m → 0 ≤ m ∧ m ≤ B) : ∀ {dn : List (ByteArray × Int)}, (∀ p ∈ dn, 0 ≤ p.2 + up ∧ p.2 + up ≤ B) → ∀ p m, joinL f up dn p = some m → 0 ≤ m ∧ m ≤ B
  | [], _, p, m, h => hf p m h
  | (s, n) :: r, hd, p, m, h => by
    have ih := joinL_bound hf (fun q hq => hd q (List.mem_cons_of_mem _ hq))
    have h1 := hd (s, n) List.mem_cons_self
    simp only [joinL, putM_at] at h
    simp only at h1
    split at h
    · split at h
      · cases h; exact h1
      · rename_i m' hm
        split at h
        · cases h; exact h1
        · cases h; exact ih s _ hm
    · exact ih p m h
/-- what a form stands for -/
def IsVal (n : Int) (f : MapF) (σ : ByteArray → Int) (v : Int) : Prop :=
  n ≤ v ∧ (∀ p m, f p = some m → σ p + m ≤ v) ∧ (v = n ∨ ∃ p m, f p = some m ∧ v = σ p + m)
theorem IsVal.uniq {n : Int} {f : MapF} {σ : ByteArray → Int} {v w : Int} (h : IsVal n f σ v) (k : IsVal n f σ w) : v = w := by
  obtain ⟨h1, h2, h3⟩ := h
  obtain ⟨k1, k2, k3⟩ := k
  have a : v ≤ w := by
    rcases h3 with h3 | ⟨p, m, e, h3⟩
    · omega
    · have := k2 p m e; omega
  have b : w ≤ v := by
    rcases k3 with k3 | ⟨p, m, e, k3⟩
    · omega
    · have := h2 p m e; omega
  omega
theorem IsVal.join {n m up : Int} {f g : MapF} {σ : ByteArray → Int} {v w : Int} (h : IsVal n f σ v) (k : IsVal m g σ w) : IsVal (max n (m + up)) (joinM f g up) σ (max v (w + up)) := by
  obtain ⟨h1, h2, h3⟩ := h
  obtain ⟨k1, k2, k3⟩ := k
  refine ⟨by omega, fun p x hx => ?_, ?_⟩
  · unfold joinM at hx
    cases hg : g p with
    | none => rw [hg] at hx; have := h2 p x hx; omega
    | some a =>
      rw [hg] at hx
      have h4 := k2 p a hg
      cases hf : f p with
      | none => rw [hf] at hx; simp only [Option.some.injEq] at hx; omega
      | some b =>
        rw [hf] at hx
        have h5 := h2 p b hf
        simp only at hx
        split at hx <;> simp only [Option.some.injEq] at hx <;> omega
  · have hv : max v (w + up) = v ∧ w + up ≤ v ∨ max v (w + up) = w + up ∧ v ≤ w + up := by omega
    rcases hv with ⟨e, hle⟩ | ⟨e, hle⟩
    · rw [e]
      rcases h3 with h3 | ⟨p, x, hx, h3⟩
      · left; omega
      · right
        cases hg : g p with
        | none => exact ⟨p, x, by unfold joinM; rw [hg]; exact hx, h3⟩
        | some a =>
          have h4 := k2 p a hg
          exact ⟨p, x, by unfold joinM; rw [hg, hx]; simp only; rw [if_neg (by omega)], h3⟩
    · rw [e]
      rcases k3 with k3 | ⟨p, x, hx, k3⟩
      · left; omega
      · right
        cases hf : f p with
        | none => exact ⟨p, x + up, by unfold joinM; rw [hx, hf], by omega⟩
        | some b =>
          have h5 := h2 p b hf
          by_cases hgt : x + up > b
          · exact ⟨p, x + up, by unfold joinM; rw [hx, hf]; simp only; rw [if_pos hgt], by omega⟩
          · exact ⟨p, b, by unfold joinM; rw [hx, hf]; simp only; rw [if_neg hgt], by omega⟩

/-- a parameter of a level -/
def Lev.has : Lev → ByteArray → Prop
  | .zero, _ => False
  | .succ a, p => a.has p
  | .max a b, p => a.has p ∨ b.has p
  | .imax a b, p => a.has p ∨ b.has p
  | .param s, p => p = s
/-- names stand -/
def nmL (l : Lev) : Prop := ∀ p, l.has p → p ≠ .empty
/-- numbers that fit what is known of parameters -/
structure Fits (z o : MapF) (σ : ByteArray → Int) : Prop where
  pos : ∀ p, 0 ≤ σ p
  zero : ∀ p, z p ≠ none → σ p = 0
  one : ∀ p, o p ≠ none → 1 ≤ σ p
/-- maps that hold ones alone -/
def Ones (z : MapF) : Prop := ∀ p m, z p = some m → m = 1
def off (o : MapF) (σ : ByteArray → Int) : ByteArray → Int := fun p => σ p - (o p).getD 0

structure Bnd (l : Lev) (n : Int) (f : MapF) : Prop where
  n0 : 0 ≤ n
  n1 : n ≤ l.size
  f0 : ∀ p m, f p = some m → 0 ≤ m ∧ m ≤ l.size
  sup : ∀ p m, f p = some m → l.has p
structure Form (l : Lev) (z o : MapF) (n : Int) (f : MapF) : Prop where
  val : ∀ σ, Fits z o σ → IsVal n f (off o σ) (l.worth σ)
  z : ∀ p m, f p = some m → z p = none ∧ (o p).getD 0 ≤ m ∧ m ≤ n
  le : n ≤ l.succs + 1
  le0 : (∀ p, o p = none) → n ≤ l.succs
/-- what shape answers -/
structure Shape (l : Lev) (z o : MapF) (n : Int) (f : MapF) (q : ByteArray) : Prop where
  b : Bnd l n f
  ok : q = .empty → Form l z o n f
  no : q ≠ .empty → l.has q ∧ z q = none ∧ o q = none

theorem fits_pos {z o : MapF} (hz : Ones z) (ho : Ones o) {σ : ByteArray → Int} (h : Fits z o σ) (p : ByteArray) : 0 ≤ off o σ p := by
  unfold off
  cases hop : o p with
  | none => have := h.pos p; simp; omega
  | some m => have := ho p m hop; have := h.one p (by rw [hop]; simp); simp; omega
theorem Bnd.empty (l : Lev) : Bnd l 0 fun _ => none := ⟨Int.le_refl _, by omega, (fun p m h => by cases h), (fun p m h => by cases h)⟩
theorem lev_size_pos (l : Lev) : 1 ≤ l.size := by cases l <;> simp [Lev.size] <;> omega

/-- parameters -/
theorem shape_param {z o : MapF} (hz : Ones z) (ho : Ones o) (s : ByteArray) (h : z s = none) : Shape (.param s) z o ((o s).getD 0) (updM (fun _ => none) s ((o s).getD 0)) .empty := by
  have hos : (o s).getD 0 = 0 ∨ (o s).getD 0 = 1 := by
    cases hp : o s with
    | none => left; rfl
    | some m => right; exact ho s m hp
  have hu : ∀ p m, updM (fun _ => none) s ((o s).getD 0) p = some m → p = s ∧ m = (o s).getD 0 := fun p m e => by
    simp only [updM] at e
    split at e
    · rename_i hp; cases e; exact ⟨hp, rfl⟩
    · cases e
  have hs : updM (fun _ => none) s ((o s).getD 0) s = some ((o s).getD 0) := by simp [updM]
  refine ⟨⟨by omega, by simp only [Lev.size]; omega, fun p m e => ?_, fun p m e => ?_⟩, fun _ => ⟨fun σ hσ => ⟨?_, fun p m e => ?_, .inr ⟨s, _, hs, ?_⟩⟩, fun p m e => ?_, ?_, fun h0 => ?_⟩, fun hq => absurd rfl hq⟩
  · obtain ⟨rfl, rfl⟩ := hu p m e; simp only [Lev.size]; omega
  · obtain ⟨rfl, rfl⟩ := hu p m e; rfl
  · have := fits_pos hz ho hσ s
    simp only [off] at this
    simp only [Lev.worth]; omega
  · obtain ⟨rfl, rfl⟩ := hu p m e; simp only [off, Lev.worth]; omega
  · simp only [off, Lev.worth]; omega
  · obtain ⟨rfl, rfl⟩ := hu p m e; exact ⟨h, Int.le_refl _, Int.le_refl _⟩
  · simp only [Lev.succs]; omega
  · rw [h0 s]; simp [Lev.succs]
theorem shape_zeroed {z o : MapF} (s : ByteArray) (h : z s ≠ none) : Shape (.param s) z o 0 (fun _ => none) .empty :=
  ⟨Bnd.empty _, fun _ => ⟨fun σ hσ => ⟨by simp only [Lev.worth]; rw [hσ.zero s h]; omega, (fun p m e => by cases e), .inl (by simp only [Lev.worth]; exact hσ.zero s h)⟩, (fun p m e => by cases e), by omega, fun _ => by omega⟩, fun hq => absurd rfl hq⟩
theorem shape_zero {z o : MapF} : Shape .zero z o 0 (fun _ => none) .empty :=
  ⟨Bnd.empty _, fun _ => ⟨fun σ hσ => ⟨by simp [Lev.worth], (fun p m e => by cases e), .inl (by simp [Lev.worth])⟩, (fun p m e => by cases e), by omega, fun _ => by omega⟩, fun hq => absurd rfl hq⟩

theorem joinM_some {f g : MapF} {up : Int} {p : ByteArray} {m : Int} (h : joinM f g up p = some m) : f p = some m ∨ ∃ k, g p = some k ∧ m = k + up := by
  unfold joinM at h
  cases hg : g p with
  | none => rw [hg] at h; exact .inl h
  | some k =>
    rw [hg] at h
    cases hf : f p with
    | none => rw [hf] at h; cases h; exact .inr ⟨k, rfl, rfl⟩
    | some b =>
      rw [hf] at h
      simp only at h
      split at h
      · cases h; exact .inr ⟨k, rfl, rfl⟩
      · exact .inl h

theorem Lev.worth_nonneg {σ : ByteArray → Int} (h : ∀ p, 0 ≤ σ p) : ∀ l : Lev, 0 ≤ l.worth σ
  | .zero => by simp [Lev.worth]
  | .succ a => by have := a.worth_nonneg h; simp only [Lev.worth]; omega
  | .max a b => by have := a.worth_nonneg h; simp only [Lev.worth]; omega
  | .imax a b => by have := a.worth_nonneg h; have := b.worth_nonneg h; simp only [Lev.worth]; split <;> omega
  | .param s => h s
theorem isVal_zero (σ : ByteArray → Int) : IsVal 0 (fun _ => none) σ 0 := ⟨Int.le_refl _, (fun p m e => by cases e), .inl rfl⟩

/-- what the loop over the arguments holds: those that were looked at, the last one first -/
def PSL (up : Int) (z o : MapF) : List Lev → Int → MapF → Prop
  | [], n, f => n = 0 ∧ f = fun _ => none
  | a :: r, n, f => ∃ n0 f0 na fa, PSL up z o r n0 f0 ∧ Shape a z o na fa .empty ∧ n = max n0 (na + up) ∧ f = joinM f0 fa up
theorem PSL.bound {up M : Int} {z o : MapF} (hu : 0 ≤ up) (hM : 0 ≤ M) : ∀ {as1 : List Lev} {n : Int} {f : MapF}, PSL up z o as1 n f → (∀ a ∈ as1, a.size + up ≤ M) → (0 ≤ n ∧ n ≤ M) ∧ (∀ p m, f p = some m → 0 ≤ m ∧ m ≤ M)
  | [], n, f, ⟨h1, h2⟩, _ => ⟨by omega, fun p m e => by rw [h2] at e; cases e⟩
  | a :: r, n, f, ⟨n0, f0, na, fa, h1, h2, h3, h4⟩, hs => by
    have ih := PSL.bound hu hM h1 (fun b hb => hs b (List.mem_cons_of_mem _ hb))
    have ha := hs a List.mem_cons_self
    have hb := h2.b.n0
    have hb1 := h2.b.n1
    refine ⟨by omega, fun p m e => ?_⟩
    rw [h4] at e
    rcases joinM_some e with e | ⟨k, ek, rfl⟩
    · exact ih.2 p m e
    · have := h2.b.f0 p k ek; omega
theorem PSL.sup {up : Int} {z o : MapF} : ∀ {as1 : List Lev} {n : Int} {f : MapF}, PSL up z o as1 n f → ∀ p m, f p = some m → ∃ a ∈ as1, a.has p
  | [], n, f, ⟨h1, h2⟩, p, m, e => by rw [h2] at e; cases e
  | a :: r, n, f, ⟨n0, f0, na, fa, h1, h2, h3, h4⟩, p, m, e => by
    rw [h4] at e
    rcases joinM_some e with e | ⟨k, ek, rfl⟩
    · obtain ⟨b, hb, hp⟩ := h1.sup p m e; exact ⟨b, List.mem_cons_of_mem _ hb, hp⟩
    · exact ⟨a, List.mem_cons_self, h2.b.sup p k ek⟩
theorem join_form {a b c : Lev} {z o : MapF} {na nb : Int} {fa fb : MapF} (ha : Shape a z o na fa .empty) (hb : Shape b z o nb fb .empty) (hw : ∀ σ, Fits z o σ → c.worth σ = max (a.worth σ) (b.worth σ)) (hc : c.succs = a.succs + b.succs) :
    Form c z o (max (max 0 (na + 0)) (nb + 0)) (joinM (joinM (fun _ => none) fa 0) fb 0) := by
  have fa' := ha.ok rfl
  have fb' := hb.ok rfl
  have na0 := ha.b.n0
  have nb0 := hb.b.n0
  refine ⟨fun σ hσ => ?_, fun p m e => ?_, ?_, fun h0 => ?_⟩
  · have h1 := ((isVal_zero (off o σ)).join (up := 0) (fa'.val σ hσ)).join (up := 0) (fb'.val σ hσ)
    have w1 := a.worth_nonneg hσ.pos
    have w2 := b.worth_nonneg hσ.pos
    have e : max (max 0 (a.worth σ + 0)) (b.worth σ + 0) = c.worth σ := by rw [hw σ hσ]; omega
    rw [e] at h1; exact h1
  · rcases joinM_some e with e | ⟨k, ek, rfl⟩
    · rcases joinM_some e with e | ⟨k, ek, rfl⟩
      · cases e
      · have := fa'.z p k ek; exact ⟨this.1, by omega, by omega⟩
    · have := fb'.z p k ek; exact ⟨this.1, by omega, by omega⟩
  · have := fa'.le; have := fb'.le; omega
  · have := fa'.le0 h0; have := fb'.le0 h0; omega
theorem shape_succ {a : Lev} {z o : MapF} {n : Int} {f : MapF} (h : PSL 1 z o [a] n f) : Shape (.succ a) z o n f .empty := by
  have hb := h.bound (M := (Lev.succ a).size) (by omega) (by omega) (fun x hx => by simp at hx; subst hx; simp only [Lev.size]; omega)
  refine ⟨⟨hb.1.1, hb.1.2, hb.2, fun p m e => by obtain ⟨x, hx, hp⟩ := h.sup p m e; simp at hx; subst hx; exact hp⟩, fun _ => ?_, fun hq => absurd rfl hq⟩
  obtain ⟨n0, f0, na, fa, ⟨rfl, rfl⟩, h2, rfl, rfl⟩ := h
  have fa' := h2.ok rfl
  have na0 := h2.b.n0
  refine ⟨fun σ hσ => ?_, fun p m e => ?_, ?_, fun h0 => ?_⟩
  · have h1 := (isVal_zero (off o σ)).join (up := 1) (fa'.val σ hσ)
    have w1 := a.worth_nonneg hσ.pos
    have e : max 0 (a.worth σ + 1) = (Lev.succ a).worth σ := by simp only [Lev.worth]; omega
    rw [e] at h1; exact h1
  · rcases joinM_some e with e | ⟨k, ek, rfl⟩
    · cases e
    · have := fa'.z p k ek; exact ⟨this.1, by omega, by omega⟩
  · have := fa'.le; simp only [Lev.succs]; omega
  · have := fa'.le0 h0; simp only [Lev.succs]; omega
theorem shape_max {a b : Lev} {z o : MapF} {n : Int} {f : MapF} (h : PSL 0 z o [b, a] n f) : Shape (.max a b) z o n f .empty := by
  have hb := h.bound (M := (Lev.max a b).size) (by omega) (by omega) (fun x hx => by simp at hx; rcases hx with rfl | rfl <;> simp only [Lev.size] <;> omega)
  refine ⟨⟨hb.1.1, hb.1.2, hb.2, fun p m e => by obtain ⟨x, hx, hp⟩ := h.sup p m e; simp at hx; rcases hx with rfl | rfl; exact .inr hp; exact .inl hp⟩, fun _ => ?_, fun hq => absurd rfl hq⟩
  obtain ⟨n1, f1, nb, fb, ⟨n0, f0, na, fa, ⟨rfl, rfl⟩, h2, rfl, rfl⟩, h3, rfl, rfl⟩ := h
  exact join_form h2 h3 (fun σ hσ => by simp only [Lev.worth]) (by simp only [Lev.succs])
/-- an early end -/
theorem shape_early {l : Lev} {as1 : List Lev} {up : Int} {z o : MapF} {n : Int} {f : MapF} {q : ByteArray} (h : PSL up z o as1 n f) (hu : 0 ≤ up) (hs : ∀ a ∈ as1, (a.size : Int) + up ≤ l.size ∧ ∀ p, a.has p → l.has p) (hq : q ≠ .empty) (hp : l.has q ∧ z q = none ∧ o q = none) : Shape l z o n f q := by
  have hb := h.bound (M := l.size) hu (by omega) (fun x hx => (hs x hx).1)
  exact ⟨⟨hb.1.1, hb.1.2, hb.2, fun p m e => by obtain ⟨x, hx, hxp⟩ := h.sup p m e; exact (hs x hx).2 p hxp⟩, fun e => absurd e hq, fun _ => hp⟩
/-- imax: what it hangs on is 0 -/
theorem shape_imax_zero {a b : Lev} {z o : MapF} {f : MapF} (hb : Shape b z o 0 f .empty) (he : ∀ p, f p = none) : Shape (.imax a b) z o 0 (fun _ => none) .empty := by
  refine ⟨Bnd.empty _, fun _ => ⟨fun σ hσ => ?_, (fun p m e => by cases e), by omega, fun _ => by omega⟩, fun hq => absurd rfl hq⟩
  have h1 := (hb.ok rfl).val σ hσ
  have hw : b.worth σ = 0 := by
    rcases h1.2.2 with h2 | ⟨p, m, e, _⟩
    · exact h2
    · rw [he p] at e; cases e
  have e : (Lev.imax a b).worth σ = 0 := by simp only [Lev.worth]; rw [if_pos hw]
  rw [e]; exact isVal_zero _
theorem shape_imax_at {a b : Lev} {z o : MapF} (ho : Ones o) {f : MapF} {q : ByteArray} {m : Int} (hb : Shape b z o 0 f .empty) (hq : f q = some m) (hn : q ≠ .empty) : Shape (.imax a b) z o 0 (fun _ => none) q := by
  refine ⟨Bnd.empty _, fun e => absurd e hn, fun _ => ⟨.inr (hb.b.sup q m hq), ?_⟩⟩
  have h1 := (hb.ok rfl).z q m hq
  refine ⟨h1.1, ?_⟩
  cases h2 : o q with
  | none => rfl
  | some k =>
    have := ho q k h2
    rw [h2] at h1
    simp at h1; omega
theorem shape_imax {a b : Lev} {z o : MapF} {na nb : Int} {fa fb : MapF} {q : ByteArray} (hb : Shape b z o nb fb .empty) (hn : ¬ nb = 0) (ha : Shape a z o na fa q) : Shape (.imax a b) z o (max (max 0 (nb + 0)) (na + 0)) (joinM (joinM (fun _ => none) fb 0) fa 0) q := by
  have nb0 := hb.b.n0
  have nb1 := hb.b.n1
  have na0 := ha.b.n0
  have na1 := ha.b.n1
  refine ⟨⟨by omega, by simp only [Lev.size]; omega, fun p m e => ?_, fun p m e => ?_⟩, fun e => ?_, fun hq => ?_⟩
  · rcases joinM_some e with e | ⟨k, ek, rfl⟩
    · rcases joinM_some e with e | ⟨k, ek, rfl⟩
      · cases e
      · have := hb.b.f0 p k ek; simp only [Lev.size]; omega
    · have := ha.b.f0 p k ek; simp only [Lev.size]; omega
  · rcases joinM_some e with e | ⟨k, ek, rfl⟩
    · rcases joinM_some e with e | ⟨k, ek, rfl⟩
      · cases e
      · exact .inr (hb.b.sup p k ek)
    · exact .inl (ha.b.sup p k ek)
  · subst e
    refine join_form hb ha (fun σ hσ => ?_) (by simp only [Lev.succs]; omega)
    have h1 := ((hb.ok rfl).val σ hσ).1
    simp only [Lev.worth]
    rw [if_neg (by omega)]; omega
  · obtain ⟨h1, h2⟩ := ha.no hq
    exact ⟨.inl h1, h2⟩
theorem shape_imax_b {a b : Lev} {z o : MapF} {nb : Int} {fb : MapF} {q : ByteArray} (hb : Shape b z o nb fb q) (hq : q ≠ .empty) : Shape (.imax a b) z o 0 (fun _ => none) q :=
  ⟨Bnd.empty _, fun e => absurd e hq, fun _ => by obtain ⟨h1, h2⟩ := hb.no hq; exact ⟨.inr h1, h2⟩⟩

/-! comparing -/
def FLe (n : Int) (f : MapF) (m : Int) (g : MapF) : Prop := (∀ p x, f p = some x → ∃ y, g p = some y ∧ x ≤ y) ∧ n ≤ m
/-- below under all numbers that fit -/
def Sem (z o : MapF) (a b : Lev) : Prop := ∀ σ, Fits z o σ → a.worth σ ≤ b.worth σ
theorem sem_of_fle {a b : Lev} {z o : MapF} {n m : Int} {f g : MapF} (ha : Form a z o n f) (hb : Form b z o m g) (h : FLe n f m g) : Sem z o a b := fun σ hσ => by
  have h1 := ha.val σ hσ
  have h2 := hb.val σ hσ
  rcases h1.2.2 with h3 | ⟨p, x, e, h3⟩
  · have := h2.1; have := h.2; omega
  · obtain ⟨y, hy, hxy⟩ := h.1 p x e
    have := h2.2.1 p y hy; omega
/-- the least numbers that fit, but for p -/
def leastAt (o : MapF) (p : ByteArray) (B : Int) : ByteArray → Int := fun q => (if q = p then B else 0) + (o q).getD 0
theorem leastAt_fits {z o : MapF} (hz : Ones z) (ho : Ones o) (hd : ∀ q, z q ≠ none → o q = none) {p : ByteArray} {B : Int} (hB : 0 ≤ B) (hp : B = 0 ∨ z p = none) : Fits z o (leastAt o p B) := by
  have h0 : ∀ q, 0 ≤ (o q).getD 0 := fun q => by
    cases h : o q with
    | none => simp
    | some m => have := ho q m h; simp; omega
  refine ⟨fun q => ?_, fun q hq => ?_, fun q hq => ?_⟩
  · have := h0 q; unfold leastAt; split <;> omega
  · unfold leastAt
    rw [hd q hq]
    split
    · rename_i e; subst e
      rcases hp with hp | hp
      · simp [hp]
      · exact absurd hp hq
    · simp
  · unfold leastAt
    cases h : o q with
    | none => exact absurd h hq
    | some m => have := ho q m h; simp; split <;> omega
theorem off_least (o : MapF) (p : ByteArray) (B : Int) (q : ByteArray) : off o (leastAt o p B) q = if q = p then B else 0 := by unfold off leastAt; omega
theorem fle_of_sem {a b : Lev} {z o : MapF} (hz : Ones z) (ho : Ones o) (hd : ∀ q, z q ≠ none → o q = none) {n m : Int} {f g : MapF} (ha : Form a z o n f) (hb : Form b z o m g) {B : ByteArray → Int} (hB : ∀ p, m < B p + (o p).getD 0 ∧ 0 ≤ B p)
    (h : ∀ p x, (x = 0 ∨ (x = B p ∧ z p = none)) → a.worth (leastAt o p x) ≤ b.worth (leastAt o p x)) : FLe n f m g := by
  have h0 : ∀ q, 0 ≤ (o q).getD 0 := fun q => by
    cases h : o q with
    | none => simp
    | some m => have := ho q m h; simp; omega
  refine ⟨fun p x hx => ?_, ?_⟩
  · have hzp := (ha.z p x hx).1
    have hxo := (ha.z p x hx).2.1
    have hx0 := h0 p
    have hBp := hB p
    have hf := leastAt_fits hz ho hd (p := p) hBp.2 (.inr hzp)
    have h1 := ha.val _ hf
    have h2 := hb.val _ hf
    have h3 := h p (B p) (.inr ⟨rfl, hzp⟩)
    have h4 := h1.2.1 p x hx
    rw [off_least, if_pos rfl] at h4
    rcases h2.2.2 with h5 | ⟨q, y, hy, h5⟩
    · omega
    · rw [off_least] at h5
      have hym := (hb.z q y hy).2.2
      by_cases hq : q = p
      · subst hq
        rw [if_pos rfl] at h5
        exact ⟨y, hy, by omega⟩
      · rw [if_neg hq] at h5; omega
  · have hf := leastAt_fits hz ho hd (p := .empty) (B := 0) (Int.le_refl _) (.inl rfl)
    have h1 := ha.val _ hf
    have h2 := hb.val _ hf
    have h3 := h .empty 0 (.inl rfl)
    have h4 := h1.1
    rcases h2.2.2 with h5 | ⟨q, y, hy, h5⟩
    · omega
    · rw [off_least] at h5
      have hym := (hb.z q y hy).2.2
      split at h5 <;> omega
/-- numbers, of few sorts, under which it is not so -/
def Cex (z o : MapF) (big : Int) (a b : Lev) : Prop := ∃ σ, Fits z o σ ∧ (∀ p, σ p = 0 ∨ σ p = 1 ∨ σ p = big) ∧ b.worth σ < a.worth σ
def bigOf (a b : Lev) : Int := 2 + a.succs + b.succs
theorem cex_of_not {a b : Lev} {z o : MapF} (hz : Ones z) (ho : Ones o) (hd : ∀ q, z q ≠ none → o q = none) {n m : Int} {f g : MapF} (ha : Form a z o n f) (hb : Form b z o m g) (h : ¬ FLe n f m g) : Cex z o (bigOf a b) a b := by
  have h01 : ∀ q, (o q).getD 0 = 0 ∨ (o q).getD 0 = 1 := fun q => by
    cases h : o q with
    | none => left; rfl
    | some m => right; exact ho q m h
  refine Classical.byContradiction fun hc => h (fle_of_sem hz ho hd ha hb (B := fun p => bigOf a b - (o p).getD 0) (fun p => ?_) fun p x hx => ?_)
  · have := hb.le
    have := h01 p
    unfold bigOf
    omega
  · refine Int.not_lt.1 fun hlt => hc ⟨leastAt o p x, ?_, fun q => ?_, hlt⟩
    · refine leastAt_fits hz ho hd ?_ (hx.imp (fun h => h) (fun h => h.2))
      have := h01 p
      rcases hx with rfl | ⟨rfl, _⟩
      · exact Int.le_refl _
      · unfold bigOf; omega
    · unfold leastAt
      have h1 := h01 q
      have h2 := h01 p
      split
      · rename_i e; subst e
        rcases hx with rfl | ⟨rfl, _⟩
        · omega
        · right; right; omega
      · omega
theorem Cex.zero {z o : MapF} {q : ByteArray} {big : Int} {a b : Lev} (h : Cex (updM z q 1) o big a b) : Cex z o big a b := by
  obtain ⟨σ, hσ, h1, h2⟩ := h
  refine ⟨σ, ⟨hσ.pos, fun p hp => hσ.zero p ?_, hσ.one⟩, h1, h2⟩
  simp only [updM]; split
  · simp
  · exact hp
theorem Cex.one {z o : MapF} {q : ByteArray} {big : Int} {a b : Lev} (h : Cex z (updM o q 1) big a b) : Cex z o big a b := by
  obtain ⟨σ, hσ, h1, h2⟩ := h
  refine ⟨σ, ⟨hσ.pos, hσ.zero, fun p hp => hσ.one p ?_⟩, h1, h2⟩
  simp only [updM]; split
  · simp
  · exact hp
theorem Cex.not {z o : MapF} {big : Int} {a b : Lev} (h : Cex z o big a b) : ¬ Sem z o a b := fun hs => by
  obtain ⟨σ, hσ, _, h2⟩ := h
  have := hs σ hσ
  omega
/-- what the program's leq answers -/
structure LeqA (z o : MapF) (a b : Lev) (c : Bool) : Prop where
  yes : c = true → Sem z o a b
  no : c = false → Cex z o (bigOf a b) a b
def noM : MapF := fun _ => none
noncomputable def semB (a b : Lev) : Bool := @decide (Sem noM noM a b) (Classical.propDecidable _)
theorem semB_iff {a b : Lev} : semB a b = true ↔ Sem noM noM a b := @decide_eq_true_iff _ (Classical.propDecidable _)
theorem LeqA.eq {a b : Lev} {c : Bool} (h : LeqA noM noM a b c) : c = semB a b := by
  cases c with
  | true => exact (semB_iff.2 (h.yes rfl)).symm
  | false =>
    cases hs : semB a b with
    | false => rfl
    | true => exact absurd (semB_iff.1 hs) (h.no rfl).not
def freeN (z o : MapF) (U : List ByteArray) : Nat := (U.filter fun p => (z p).isNone && (o p).isNone).length
theorem filter_less {α : Type} {P P' : α → Bool} {q : α} (hP : P q = true) (h : ∀ x, P' x = true → P x = true ∧ x ≠ q) {l : List α} (hq : q ∈ l) : (l.filter P').length < (l.filter P).length := by
  have le : ∀ l : List α, (l.filter P').length ≤ (l.filter P).length := by
    intro l
    induction l with
    | nil => simp
    | cons x l ih =>
      rw [List.filter_cons, List.filter_cons]
      cases h1 : P' x with
      | true => rw [if_pos (h x h1).1]; simp; exact ih
      | false => rw [if_neg (by simp)]; split <;> (try simp only [List.length_cons]) <;> omega
  induction l with
  | nil => cases hq
  | cons x l ih =>
    rw [List.filter_cons, List.filter_cons]
    by_cases hx : x = q
    · subst hx
      have h1 : P' x = false := by
        cases h1 : P' x with
        | false => rfl
        | true => exact absurd rfl (h x h1).2
      have := le l
      rw [h1, if_pos hP]
      simp; omega
    · have hq' : q ∈ l := (List.mem_cons.1 hq).resolve_left (Ne.symm hx)
      have := ih hq'
      cases h1 : P' x with
      | true => rw [if_pos (h x h1).1]; simp; exact this
      | false => rw [if_neg (by simp)]; split <;> (try simp only [List.length_cons]) <;> omega
theorem free_zero {z o : MapF} {U : List ByteArray} {q : ByteArray} (hq : q ∈ U) (h1 : z q = none) (h2 : o q = none) : freeN (updM z q 1) o U < freeN z o U := by
  refine filter_less (by simp [h1, h2]) (fun x hx => ?_) hq
  simp only [updM, Bool.and_eq_true] at hx
  by_cases e : x = q
  · rw [if_pos e] at hx; simp at hx
  · rw [if_neg e] at hx; exact ⟨by simp [hx.1, hx.2], e⟩
theorem free_one {z o : MapF} {U : List ByteArray} {q : ByteArray} (hq : q ∈ U) (h1 : z q = none) (h2 : o q = none) : freeN z (updM o q 1) U < freeN z o U := by
  refine filter_less (by simp [h1, h2]) (fun x hx => ?_) hq
  simp only [updM, Bool.and_eq_true] at hx
  by_cases e : x = q
  · rw [if_pos e] at hx; simp at hx
  · rw [if_neg e] at hx; exact ⟨by simp [hx.1, hx.2], e⟩
theorem disj_zero {z o : MapF} {q : ByteArray} (hd : ∀ q, z q ≠ none → o q = none) (h2 : o q = none) : ∀ p, updM z q 1 p ≠ none → o p = none := fun p hp => by
  by_cases e : p = q
  · rw [e]; exact h2
  · simp only [updM, if_neg e] at hp; exact hd p hp
theorem disj_one {z o : MapF} {q : ByteArray} (hd : ∀ q, z q ≠ none → o q = none) (h1 : z q = none) : ∀ p, z p ≠ none → updM o q 1 p = none := fun p hp => by
  by_cases e : p = q
  · rw [e] at hp; exact absurd h1 hp
  · simp only [updM, if_neg e]; exact hd p hp
/-- either it is 0, or at least 1 -/
theorem sem_split {z o : MapF} {q : ByteArray} (a b : Lev) : Sem z o a b ↔ (Sem (updM z q 1) o a b ∧ Sem z (updM o q 1) a b) := by
  constructor
  · intro h
    refine ⟨fun σ hσ => h σ ⟨hσ.pos, fun p hp => hσ.zero p ?_, hσ.one⟩, fun σ hσ => h σ ⟨hσ.pos, hσ.zero, fun p hp => hσ.one p ?_⟩⟩
    · simp only [updM]; split
      · simp
      · exact hp
    · simp only [updM]; split
      · simp
      · exact hp
  · rintro ⟨h1, h2⟩ σ hσ
    by_cases hq : σ q = 0
    · refine h1 σ ⟨hσ.pos, fun p hp => ?_, hσ.one⟩
      by_cases e : p = q
      · rw [e]; exact hq
      · simp only [updM, if_neg e] at hp; exact hσ.zero p hp
    · refine h2 σ ⟨hσ.pos, hσ.zero, fun p hp => ?_⟩
      by_cases e : p = q
      · rw [e]; have := hσ.pos q; omega
      · simp only [updM, if_neg e] at hp; exact hσ.one p hp
theorem upd_del {z : MapF} {q : ByteArray} (h : z q = none) : delM (updM z q 1) q = z := by
  funext p
  simp only [delM, updM]
  by_cases e : p = q
  · rw [if_pos e, e, h]
  · rw [if_neg e, if_neg e]
theorem ones_upd {z : MapF} {q : ByteArray} (h : Ones z) : Ones (updM z q 1) := fun p m e => by
  simp only [updM] at e
  split at e
  · cases e; rfl
  · exact h p m e

theorem nodup_len {α : Type} : ∀ {a b : List α}, a.Nodup → (∀ x ∈ a, x ∈ b) → a.length ≤ b.length
  | [], b, _, _ => by simp
  | x :: r, b, hn, hs => by
    obtain ⟨s, t, rfl⟩ := List.append_of_mem (hs x List.mem_cons_self)
    simp only [List.nodup_cons] at hn
    have := nodup_len (b := s ++ t) hn.2 fun y hy => by
      have h1 := hs y (List.mem_cons_of_mem _ hy)
      simp only [List.mem_append, List.mem_cons] at h1 ⊢
      rcases h1 with h1 | h1 | h1
      · exact .inl h1
      · subst h1; exact absurd hy hn.1
      · exact .inr h1
    simp only [List.length_append, List.length_cons] at this ⊢
    omega
theorem Lev.params_mono : ∀ (l : Lev) {ah : List ByteArray} {p : ByteArray}, p ∈ ah → p ∈ l.params ah
  | .zero, _, _, h => h
  | .succ a, _, _, h => a.params_mono h
  | .max a b, _, _, h => b.params_mono (a.params_mono h)
  | .imax a b, _, _, h => b.params_mono (a.params_mono h)
  | .param s, ah, p, h => by
    simp only [Lev.params]
    split
    · exact h
    · exact List.mem_append_left _ h
theorem Lev.has_params : ∀ (l : Lev) {ah : List ByteArray} {p : ByteArray}, l.has p → p ∈ l.params ah
  | .zero, _, _, h => h.elim
  | .succ a, _, _, h => a.has_params (show a.has _ from h)
  | .max a b, _, _, h => (show a.has _ ∨ b.has _ from h).elim (fun h => b.params_mono (a.has_params h)) (fun h => b.has_params h)
  | .imax a b, _, _, h => (show a.has _ ∨ b.has _ from h).elim (fun h => b.params_mono (a.has_params h)) (fun h => b.has_params h)
  | .param s, ah, p, h => by
    have e : p = s := h
    subst e
    simp only [Lev.params]
    split
    · rename_i h2; exact memB_iff.1 h2
    · simp
theorem putM_yes {f : MapF} {s : ByteArray} {n : Int} (h : (f s).isSome = false ∨ (f s).getD 0 < n) : updM f s n = putM f s n := by
  unfold putM
  cases hf : f s with
  | none => rfl
  | some m => rw [hf] at h; simp at h; simp only; rw [if_pos h]
theorem putM_no {f : MapF} {s : ByteArray} {n : Int} (h1 : (f s).isSome = true) (h2 : n ≤ (f s).getD 0) : f = putM f s n := by
  unfold putM
  cases hf : f s with
  | none => rw [hf] at h1; cases h1
  | some m => rw [hf] at h2; simp at h2; simp only; rw [if_neg (by omega)]
theorem joinL_step {g : MapF} {dn : List (ByteArray × Int)} {s : ByteArray} {v : Int} (h1 : (dn.map Prod.fst).Nodup) (h2 : ∀ p ∈ dn, g p.1 = some p.2) (hs : g s = some v) (hn : (s, v) ∉ dn) : (((s, v) :: dn).map Prod.fst).Nodup ∧ ∀ p ∈ (s, v) :: dn, g p.1 = some p.2 := by
  refine ⟨?_, fun p hp => ?_⟩
  · simp only [List.map_cons, List.nodup_cons]
    refine ⟨fun hm => ?_, h1⟩
    obtain ⟨⟨s', v'⟩, hp, e⟩ := List.mem_map.1 hm
    have e' : s' = s := e
    subst e'
    have := h2 _ hp
    rw [hs] at this
    cases this
    exact hn hp
  · rcases List.mem_cons.1 hp with rfl | hp
    · exact hs
    · exact h2 p hp
theorem dn_len {g : MapF} {dn : List (ByteArray × Int)} {L : List ByteArray} (h1 : (dn.map Prod.fst).Nodup) (h2 : ∀ p ∈ dn, g p.1 = some p.2) (hL : ∀ p m, g p = some m → p ∈ L) : dn.length ≤ L.length := by
  have := nodup_len h1 (b := L) fun x hx => by
    obtain ⟨p, hp, rfl⟩ := List.mem_map.1 hx
    exact hL _ _ (h2 p hp)
  simpa using this
end Go.Vd
namespace Go.Vd
open Go Go.RowKit

theorem byteAt_append (u v : ByteArray) (i : Nat) : byteAt (u ++ v) i = if i < u.size then byteAt u i else byteAt v (i - u.size) := by
  unfold byteAt
  have e : (u ++ v).data = u.data ++ v.data := by simp
  rw [e]
  simp only [Array.getD_eq_getD_getElem?, Array.getElem?_append]
  have : u.size = u.data.size := rfl
  rw [this]
  split <;> rfl
theorem byteAt_extract (s : ByteArray) {p q i : Nat} (h : p + i < q) (hq : q ≤ s.size) : byteAt (s.extract p q) i = byteAt s (p + i) := by
  unfold byteAt
  have e : (s.extract p q).data = s.data.extract p q := by simp
  rw [e]
  have hs : s.size = s.data.size := rfl
  simp only [Array.getD_eq_getD_getElem?, Array.getElem?_extract]
  rw [if_pos (by omega)]
theorem byteAt_inj {a b : ByteArray} (h : a.size = b.size) (hb : ∀ i, i < a.size → byteAt a i = byteAt b i) : a = b := by
  apply ByteArray.ext
  apply Array.ext
  · exact h
  · intro i h1 h2
    have := hb i h1
    unfold byteAt at this
    simp only [Array.getD_eq_getD_getElem?, Array.getElem?_eq_getElem h1, Array.getElem?_eq_getElem h2, Option.getD_some] at this
    exact UInt8.toNat.inj (by omega)

/-- a text stands in another one -/
structure At (T : ByteArray) (p : Nat) (w : ByteArray) : Prop where
  le : p + w.size ≤ T.size
  eq : ∀ i, i < w.size → byteAt T (p + i) = byteAt w i
theorem At.self (T : ByteArray) : At T 0 T := ⟨by omega, fun i _ => by rw [Nat.zero_add]⟩
theorem At.left {T u v : ByteArray} {p : Nat} (h : At T p (u ++ v)) : At T p u := by
  have hs : (u ++ v).size = u.size + v.size := ByteArray.size_append
  refine ⟨by have := h.le; omega, fun i hi => ?_⟩
  rw [h.eq i (by omega), byteAt_append, if_pos hi]
theorem At.right {T u v : ByteArray} {p : Nat} (h : At T p (u ++ v)) : At T (p + u.size) v := by
  have hs : (u ++ v).size = u.size + v.size := ByteArray.size_append
  refine ⟨by have := h.le; omega, fun i hi => ?_⟩
  have := h.eq (u.size + i) (by omega)
  rw [byteAt_append, if_neg (by omega), Nat.add_sub_cancel_left] at this
  rw [← this, Nat.add_assoc]
theorem At.extract {T w : ByteArray} {p : Nat} (h : At T p w) : T.extract p (p + w.size) = w := by
  have hle := h.le
  have hs : (T.extract p (p + w.size)).size = w.size := by rw [ByteArray.size_extract]; omega
  refine byteAt_inj hs fun i hi => ?_
  rw [byteAt_extract T (by omega) (by omega), h.eq i (by omega)]
theorem At.one {T : ByteArray} {p : Nat} {c : UInt8} (h : At T p ⟨#[c]⟩) : p < T.size ∧ byteAt T p = c.toNat := by
  have h1 := h.le
  have h2 := h.eq 0 (show 0 < 1 from Nat.one_pos)
  have hs : (ByteArray.mk #[c]).size = 1 := rfl
  rw [hs] at h1
  exact ⟨by omega, by rw [Nat.add_zero] at h2; rw [h2]; rfl⟩

theorem spanB_all {f : Int → Bool} {s : ByteArray} : ∀ {p j : Nat}, p ≤ j → j < spanB f s p → f (byteAt s j) = true := by
  intro p
  induction h : s.size - p generalizing p with
  | zero =>
    intro j h1 h2
    rw [spanB_end (by omega)] at h2; omega
  | succ n ih =>
    intro j h1 h2
    by_cases hc : p < s.size ∧ f (byteAt s p) = true
    · rw [spanB_step hc.1 hc.2] at h2
      rcases Nat.eq_or_lt_of_le h1 with rfl | h3
      · exact hc.2
      · exact ih (by omega) (by omega) h2
    · rw [spanB_end hc] at h2; omega
theorem spanB_to {f : Int → Bool} {s : ByteArray} : ∀ {p q : Nat}, p ≤ q → q ≤ s.size → (∀ j, p ≤ j → j < q → f (byteAt s j) = true) → (q = s.size ∨ f (byteAt s q) = false) → spanB f s p = q := by
  intro p q
  induction h : q - p generalizing p with
  | zero =>
    intro h1 h2 _ h4
    obtain rfl : p = q := by omega
    exact spanB_end (by rintro ⟨h5, h6⟩; rcases h4 with h4 | h4; omega; rw [h4] at h6; cases h6)
  | succ n ih =>
    intro h1 h2 h3 h4
    rw [spanB_step (by omega) (h3 p (by omega) (by omega))]
    exact ih (by omega) (by omega) h2 (fun j hj hq => h3 j (by omega) hq) h4

/-- a name as a token -/
structure okName (w : ByteArray) : Prop where
  ne : 0 < w.size
  le : w.size ≤ 40
  first : nameB (byteAt w 0) true = true
  rest : ∀ i, i < w.size → nameB (byteAt w i) false = true
/-- behind a token -/
def Dl (T : ByteArray) (q : Nat) : Prop := q = T.size ∨ (q < T.size ∧ (byteAt T q = 32 ∨ byteAt T q = 41))
theorem tok_same {T : ByteArray} {p q : Nat} (h : spanB wsB T p = spanB wsB T q) : tokR T p = tokR T q := by unfold tokR; simp only [h]
theorem tok_space {T : ByteArray} {p : Nat} (hp : p < T.size) (h : byteAt T p = 32) : tokR T p = tokR T (p + 1) := tok_same (spanB_step hp (by rw [h]; decide))
theorem at_paren {T : ByteArray} {p : Nat} {c : UInt8} (h : At T p ⟨#[c]⟩) (hc : c = 40 ∨ c = 41) : tokR T p = (⟨#[c]⟩, p, true) := by
  obtain ⟨h1, h2⟩ := h.one
  have hw : spanB wsB T p = p := spanB_end (by rintro ⟨_, h4⟩; rw [h2] at h4; rcases hc with rfl | rfl <;> exact absurd h4 (by decide))
  rw [tok_par hw h1 (by rw [h2]; rcases hc with rfl | rfl <;> simp)]
  have := h.extract
  rw [show (ByteArray.mk #[c]).size = 1 from rfl] at this
  rw [this]
theorem at_name {T w : ByteArray} {p : Nat} (h : At T p w) (hw : okName w) (hd : Dl T (p + w.size)) : tokR T p = (w, p, true) := by
  have h0 := h.eq 0 hw.ne
  rw [Nat.add_zero] at h0
  have hle := h.le
  have hne := hw.ne
  have hf := hw.first
  rw [← h0] at hf
  have hf' := hf
  simp only [nameB, decide_eq_true_eq] at hf'
  have hsp : spanB wsB T p = p := spanB_end (by rintro ⟨_, h4⟩; simp [wsB] at h4; omega)
  have hq : spanB (nameB · false) T (p + 1) = p + w.size := spanB_to (by omega) hle (fun j h1 h2 => by
      have := h.eq (j - p) (by omega)
      rw [show p + (j - p) = j by omega] at this
      rw [this]; exact hw.rest _ (by omega)) (hd.imp (fun h => h) fun ⟨_, h⟩ => by rcases h with h | h <;> rw [h] <;> decide)
  rw [tok_name hsp (by omega) (by omega) hf hq (by have := hw.le; omega), h.extract]
theorem at_zero {T : ByteArray} {p : Nat} (h : At T p ⟨#[48]⟩) (hd : Dl T (p + 1)) : tokR T p = (⟨#[48]⟩, p, true) := by
  obtain ⟨h1, h2⟩ := h.one
  have h2' : byteAt T p = 48 := h2
  have hsp : spanB wsB T p = p := spanB_end (by rintro ⟨_, h4⟩; rw [h2'] at h4; exact absurd h4 (by decide))
  have hq : spanB digB T (p + 1) = p + 1 := spanB_end (by
    rintro ⟨h3, h4⟩
    rcases hd with h5 | ⟨_, h5 | h5⟩
    · omega
    · rw [h5] at h4; exact absurd h4 (by decide)
    · rw [h5] at h4; exact absurd h4 (by decide))
  rw [tok_num (d := p) hsp h1 (by omega) (by rw [h2']; decide) (by omega) hq (if_neg (by omega)) (by omega)]
  have := h.extract
  rw [show (ByteArray.mk #[48]).size = 1 from rfl] at this
  rw [this]
theorem okName_lit {w : ByteArray} (h : (decide (0 < w.size) && decide (w.size ≤ 40) && nameB (byteAt w 0) true && (List.range w.size).all fun i => nameB (byteAt w i) false) = true) : okName w := by
  simp only [Bool.and_eq_true, decide_eq_true_eq, List.all_eq_true, List.mem_range] at h
  exact ⟨h.1.1.1, h.1.1.2, h.1.2, h.2⟩
theorem next_at {T : ByteArray} {p' p : Nat} {w : ByteArray} (h : tokR T p' = (w, p, true)) (hw : 0 < w.size) : nextR T ⟨p', none⟩ = (w, ⟨p + w.size, none⟩) := by
  have hne : (tokR T p').1 ≠ .empty := by rw [h]; intro e; rw [show w = .empty from e] at hw; simp at hw
  rw [nextR_ok hne, h]

theorem okName.isName {w : ByteArray} (h : okName w) : isNameB w = true := by
  unfold isNameB
  rw [h.first]
  have : w ≠ .empty := fun e => by have := h.ne; rw [e] at this; simp at this
  simp [this]
theorem okName.ne_of {w v : ByteArray} (h : okName w) (hv : isNameB v = false) : w ≠ v := fun e => by rw [e] at h; rw [h.isName] at hv; cases hv

theorem print_ge (l : Lev) (h : ∀ w, l.has w → okName w) : l.size ≤ l.print.size := by
  induction l with
  | zero => decide
  | param s => have := (h s rfl).ne; simp only [Lev.size, Lev.print]; omega
  | succ a ih =>
    have := ih h
    simp only [Lev.size, Lev.print, ByteArray.size_append, size_mk, List.size_toArray, List.length_cons, List.length_nil]; omega
  | max a b iha ihb =>
    have := iha fun w hw => h w (.inl hw)
    have := ihb fun w hw => h w (.inr hw)
    simp only [Lev.size, Lev.print, ByteArray.size_append, size_mk, List.size_toArray, List.length_cons, List.length_nil]; omega
  | imax a b iha ihb =>
    have := iha fun w hw => h w (.inl hw)
    have := ihb fun w hw => h w (.inr hw)
    simp only [Lev.size, Lev.print, ByteArray.size_append, size_mk, List.size_toArray, List.length_cons, List.length_nil]; omega

theorem take_at {T : ByteArray} {q : Nat} (h : At T q ⟨#[41]⟩) : takeR T ⟨#[41]⟩ ⟨q, none⟩ = ⟨q + 1, none⟩ := by
  have ht := at_paren h (.inr rfl)
  unfold takeR
  dsimp only
  rw [ht]
  rw [if_neg (by simp)]
  rfl
theorem dl_space {T : ByteArray} {q : Nat} (h : At T q ⟨#[32]⟩) : Dl T q := .inr ⟨h.one.1, .inl h.one.2⟩
theorem dl_close {T : ByteArray} {q : Nat} (h : At T q ⟨#[41]⟩) : Dl T q := .inr ⟨h.one.1, .inr h.one.2⟩

/-- two parts, behind a word -/
theorem read_two {T w : ByteArray} {n p p' : Nat} {k : Int} {la lb : Lev} (hk : kindR w = k) (hk0 : k = 2 ∨ k = 3) (hw : okName w)
    (iha : ∀ (m p p' : Nat), la.size < m → tokR T p' = tokR T p → At T p la.print → Dl T (p + la.print.size) → levelR m T ⟨p', none⟩ = (la.toLvl, ⟨p + la.print.size, none⟩))
    (ihb : ∀ (m p p' : Nat), lb.size < m → tokR T p' = tokR T p → At T p lb.print → Dl T (p + lb.print.size) → levelR m T ⟨p', none⟩ = (lb.toLvl, ⟨p + lb.print.size, none⟩))
    (hs : 1 + la.size + lb.size < n) (ht : tokR T p' = tokR T p) (h : At T p (⟨#[40]⟩ ++ w ++ ⟨#[32]⟩ ++ la.print ++ ⟨#[32]⟩ ++ lb.print ++ ⟨#[41]⟩)) :
    levelR n T ⟨p', none⟩ = (.mk k .empty [la.toLvl, lb.toLvl], ⟨p + (3 + w.size + la.print.size + lb.print.size + 1), none⟩) := by
  obtain ⟨n, rfl⟩ : ∃ m, n = m + 1 := ⟨n - 1, by omega⟩
  have s1 : (ByteArray.mk #[40]).size = 1 := rfl
  have s2 : (ByteArray.mk #[32]).size = 1 := rfl
  have a7 := h.right
  have a6 := h.left.right
  have a5 := h.left.left.right
  have a4 := h.left.left.left.right
  have a3 := h.left.left.left.left.right
  have a2 := h.left.left.left.left.left.right
  have a1 := h.left.left.left.left.left.left
  simp only [ByteArray.size_append, s1, s2] at a2 a3 a4 a5 a6 a7
  have t1 := at_paren a1 (.inl rfl)
  have hp : tokR T p' = (⟨#[40]⟩, p, true) := ht.trans t1
  have e1 : (nextR T ⟨p', none⟩).2 = ⟨p + 1, none⟩ := by rw [next_at hp (by decide)]; rfl
  have a3' : At T (p + 1 + w.size) ⟨#[32]⟩ := by rw [Nat.add_assoc]; exact a3
  have t2 := at_name a2 hw (dl_space a3')
  have e2 : (nextR T ⟨p + 1, none⟩).2 = ⟨p + 1 + w.size, none⟩ := by rw [next_at t2 hw.ne]
  have t3 := tok_space a3'.one.1 a3'.one.2
  have a4' : At T (p + 1 + w.size + 1) la.print := by rw [show p + 1 + w.size + 1 = p + (1 + w.size + 1) by omega]; exact a4
  have a5' : At T (p + 1 + w.size + 1 + la.print.size) ⟨#[32]⟩ := by rw [show p + 1 + w.size + 1 + la.print.size = p + (1 + w.size + 1 + la.print.size) by omega]; exact a5
  have r1 := iha n (p + 1 + w.size + 1) (p + 1 + w.size) (by omega) t3 a4' (dl_space a5')
  have t4 := tok_space a5'.one.1 a5'.one.2
  have a6' : At T (p + 1 + w.size + 1 + la.print.size + 1) lb.print := by rw [show p + 1 + w.size + 1 + la.print.size + 1 = p + (1 + w.size + 1 + la.print.size + 1) by omega]; exact a6
  have a7' : At T (p + 1 + w.size + 1 + la.print.size + 1 + lb.print.size) ⟨#[41]⟩ := by rw [show p + 1 + w.size + 1 + la.print.size + 1 + lb.print.size = p + (1 + w.size + 1 + la.print.size + 1 + lb.print.size) by omega]; exact a7
  have r2 := ihb n (p + 1 + w.size + 1 + la.print.size + 1) (p + 1 + w.size + 1 + la.print.size) (by omega) t4 a6' (dl_close a7')
  have c0 : ¬ (tokR T p').1 = ⟨#[48]⟩ := by rw [hp]; exact (by decide : ¬ ByteArray.mk #[40] = ⟨#[48]⟩)
  have c1 : isNameB (tokR T p').1 = false := by rw [hp]; exact (by decide +kernel : isNameB ⟨#[40]⟩ = false)
  have c2 : (tokR T p').1 = ⟨#[40]⟩ := by rw [hp]
  have hkk : kindR (tokR T (nextR T ⟨p', none⟩).2.p).1 = k := by rw [e1]; simp only; rw [t2]; exact hk
  rw [levelR_two c0 c1 c2 (by rw [hkk]; omega) (by rw [hkk]; omega), hkk, e1, e2, r1]
  simp only
  rw [r2]
  simp only
  rw [take_at a7']
  congr 2
  omega
theorem levelR_print {T : ByteArray} : ∀ (l : Lev), (∀ w, l.has w → okName w) → ∀ (n p p' : Nat), l.size < n → tokR T p' = tokR T p → At T p l.print → Dl T (p + l.print.size) → levelR n T ⟨p', none⟩ = (l.toLvl, ⟨p + l.print.size, none⟩) := by
  intro l
  induction l with
  | zero =>
    intro _ n p p' hn ht h hd
    obtain ⟨n, rfl⟩ : ∃ m, n = m + 1 := ⟨n - 1, by omega⟩
    have hp := ht.trans (at_zero h hd)
    rw [levelR_zero (by rw [hp]), next_at hp (by decide)]
    rfl
  | param s =>
    intro hw n p p' hn ht h hd
    obtain ⟨n, rfl⟩ : ∃ m, n = m + 1 := ⟨n - 1, by omega⟩
    have hs := hw s rfl
    have hp := ht.trans (at_name (w := s) h hs hd)
    rw [levelR_name (by rw [hp]; exact hs.ne_of (by decide +kernel)) (by rw [hp]; exact hs.isName), next_at hp hs.ne, hp]
    rfl
  | succ a ih =>
    intro hw n p p' hn ht h hd
    obtain ⟨n, rfl⟩ : ∃ m, n = m + 1 := ⟨n - 1, by simp only [Lev.size] at hn; omega⟩
    simp only [Lev.size] at hn
    have h' : At T p (⟨#[40]⟩ ++ ⟨#[115]⟩ ++ ⟨#[32]⟩ ++ a.print ++ ⟨#[41]⟩) := h
    have s1 : (ByteArray.mk #[40]).size = 1 := rfl
    have s2 : (ByteArray.mk #[32]).size = 1 := rfl
    have s3 : (ByteArray.mk #[115]).size = 1 := rfl
    have a5 := h'.right
    have a4 := h'.left.right
    have a3 := h'.left.left.right
    have a2 := h'.left.left.left.right
    have a1 := h'.left.left.left.left
    simp only [ByteArray.size_append, s1, s2, s3] at a2 a3 a4 a5
    have hp : tokR T p' = (⟨#[40]⟩, p, true) := ht.trans (at_paren a1 (.inl rfl))
    have e1 : (nextR T ⟨p', none⟩).2 = ⟨p + 1, none⟩ := by rw [next_at hp (by decide)]; rfl
    have hws : okName ⟨#[115]⟩ := okName_lit (by decide +kernel)
    have t2 := at_name a2 hws (dl_space a3)
    have e2 : (nextR T ⟨p + 1, none⟩).2 = ⟨p + 1 + 1, none⟩ := by rw [next_at t2 hws.ne]; rfl
    have t3 := tok_space a3.one.1 a3.one.2
    have a5' : At T (p + (1 + 1 + 1) + a.print.size) ⟨#[41]⟩ := by rw [Nat.add_assoc]; exact a5
    have r1 := ih hw n (p + (1 + 1 + 1)) (p + 1 + 1) (by omega) t3 a4 (dl_close a5')
    have c0 : ¬ (tokR T p').1 = ⟨#[48]⟩ := by rw [hp]; exact (by decide : ¬ ByteArray.mk #[40] = ⟨#[48]⟩)
    have c1 : isNameB (tokR T p').1 = false := by rw [hp]; exact (by decide +kernel : isNameB ⟨#[40]⟩ = false)
    have c2 : (tokR T p').1 = ⟨#[40]⟩ := by rw [hp]
    have hkk : kindR (tokR T (nextR T ⟨p', none⟩).2.p).1 = 1 := by rw [e1]; simp only; rw [t2]; exact (by decide : kindR ⟨#[115]⟩ = 1)
    rw [levelR_one c0 c1 c2 hkk, e1, e2, r1]
    simp only
    rw [take_at a5']
    have hsz : (Lev.succ a).print.size = 3 + a.print.size + 1 := by
      simp only [Lev.print, ByteArray.size_append, size_mk, List.size_toArray, List.length_cons, List.length_nil]
    rw [hsz]
    simp only [Lev.toLvl]
    congr 2
    omega
  | max a b iha ihb =>
    intro hw n p p' hn ht h hd
    simp only [Lev.size] at hn
    rw [read_two (w := ⟨#[109, 97, 120]⟩) (k := 2) (la := a) (lb := b) (by decide) (.inl rfl) (okName_lit (by decide +kernel)) (iha fun w h => hw w (.inl h)) (ihb fun w h => hw w (.inr h)) hn ht h]
    have hsz : (Lev.max a b).print.size = 3 + 3 + a.print.size + b.print.size + 1 := by
      simp only [Lev.print, ByteArray.size_append, size_mk, List.size_toArray, List.length_cons, List.length_nil]; omega
    rw [hsz]
    rfl
  | imax a b iha ihb =>
    intro hw n p p' hn ht h hd
    simp only [Lev.size] at hn
    rw [read_two (w := ⟨#[105, 109, 97, 120]⟩) (k := 3) (la := a) (lb := b) (by decide) (.inr rfl) (okName_lit (by decide +kernel)) (iha fun w h => hw w (.inl h)) (ihb fun w h => hw w (.inr h)) hn ht h]
    have hsz : (Lev.imax a b).print.size = 3 + 4 + a.print.size + b.print.size + 1 := by
      simp only [Lev.print, ByteArray.size_append, size_mk, List.size_toArray, List.length_cons, List.length_nil]; omega
    rw [hsz]
    rfl
theorem parseR_print {l : Lev} (hw : ∀ w, l.has w → okName w) (hs : l.print.size ≤ 20000) : parseR l.print = (l.toLvl, 0, 0) := by
  have h1 := levelR_print (T := l.print) l hw (l.print.size + 1) 0 0 (by have := print_ge l hw; omega) rfl (At.self _) (.inl (by omega))
  rw [Nat.zero_add] at h1
  unfold parseR
  rw [if_neg (by omega), h1]
  have h2 : (doneR l.print ⟨l.print.size, none⟩).f = none := by
    unfold doneR
    dsimp only
    rw [tok_end (i := l.print.size) rfl rfl, if_neg (by simp)]
  simp only [h2]
/-- a name that was read -/
theorem tok_okName {s : ByteArray} {p : Nat} (hp : p ≤ s.size) (h : isNameB (tokR s p).1 = true) : okName (tokR s p).1 := by
  have h1 := spanB_le wsB s p hp
  unfold tokR at h ⊢
  simp only at h ⊢
  generalize hi : spanB wsB s p = i at h h1 ⊢
  split at h
  · simp [isNameB] at h
  rename_i hne
  rw [if_neg hne]
  have hil : i < s.size := by omega
  split at h
  · rename_i hpar
    have hb : byteAt (s.extract i (i + 1)) 0 = byteAt s i := byteAt_extract s (by omega) (by omega)
    simp only [isNameB, Bool.and_eq_true] at h
    rw [hb] at h
    have h2 := h.2
    simp only [nameB, decide_eq_true_eq] at h2
    omega
  rename_i hpar
  rw [if_neg hpar]
  have h2 : i + 1 ≤ s.size := by omega
  split at h
  · rename_i hnm
    rw [if_pos hnm]
    have h3 := spanB_le (nameB · false) s (i + 1) h2
    generalize hq : spanB (fun x => nameB x false) s (i + 1) = q at h h3 ⊢
    split at h
    · simp [isNameB] at h
    · rename_i hl
      rw [if_neg hl]
      have hsz : (s.extract i q).size = q - i := by rw [ByteArray.size_extract]; omega
      refine ⟨by rw [hsz]; omega, by rw [hsz]; omega, ?_, fun j hj => ?_⟩
      · rw [byteAt_extract s (by omega) h3.2]; exact hnm
      · rw [hsz] at hj
        rw [byteAt_extract s (by omega) h3.2]
        rcases Nat.eq_zero_or_pos j with rfl | hj0
        · rw [Nat.add_zero]
          simp [nameB] at hnm ⊢
          omega
        · exact spanB_all (f := fun x => nameB x false) (p := i + 1) (by omega) (by rw [hq]; omega)
  · rename_i hnm
    rw [if_neg hnm]
    have hbad : ∀ q, i < q → q ≤ s.size → isNameB (s.extract i q) = false := fun q h5 h6 => by
      unfold isNameB
      rw [byteAt_extract s (by omega) h6, Nat.add_zero]
      simp only [Bool.not_eq_true] at hnm
      rw [hnm]; simp
    have h4 := spanB_le digB s (i + 1) h2
    generalize (if byteAt s i = 35 then i + 1 else i) = d at h ⊢
    split at h
    · split at h
      · simp [isNameB] at h
      · rw [hbad _ (by omega) h4.2] at h; cases h
    · simp [isNameB] at h
end Go.Vd
namespace Go.Vd
open Go Go.RowKit

section
variable {P : Program} {GL : Nat → List D} {o : Oper} {σ : St} {K : SV → List Nat → Prop}
def sub8 (m n : Int) : Int := IntKind.wrap .u8 (m - n)
theorem fl_sub8 {T T' : TypeId} {x y : Operand} {m n : Int} (ho : o.op = .binOp .sub T x y T') (hx : evO GL σ.sl x = some (.d (.v (.int .u8 m)))) (hy : evO GL σ.sl y = some (.d (.v (.int .u8 n)))) (hK : K (.d (.v (.int .u8 (sub8 m n)))) []) : FloatR P GL o σ K :=
  fl_bin ho hx hy rfl (by simp) (fun w => by simp only [binOp, Op.intArith, ne_eq, not_true_eq_false, if_false]; rfl) hK
end
theorem denR_u8 {m : Mem} {b : Nat} : ∀ {l : List UInt8} {off : Nat}, (∀ j x, (l.map fun c => Value.int .u8 c.toNat)[j]? = some x → m b (off + j) = some x) → DenR m 1 b off (l.map fun c => [.v (.int .u8 c.toNat)])
  | [], _, _ => trivial
  | c :: r, off, h => by
    refine ⟨⟨rfl, ?_⟩, denR_u8 (l := r) fun j x hx => ?_⟩
    · refine DenC.of_vals (vs := [.int .u8 c.toNat]) ⟨_, _, rfl, rfl, rfl⟩ fun i x hx => ?_
      cases i with
      | zero => simp at hx; subst hx; exact h 0 _ rfl
      | succ i => simp at hx
    · have := h (j + 1) x (by simpa using hx)
      rwa [show off + (j + 1) = off + 1 + j by omega] at this
/-- a text's bytes, as a slice that nobody writes to -/
theorem op_bytes {P : Program} {GL : Nat → List D} {n0 : Nat} {Pn : PnS} {o : Oper} {n t : Nat} {sl : List (Nat × SV)} {ob ob' : List Ob} {K : St → Prop} {T : Nat → Prop} {src dst e : TypeId} {x : Operand} {s : ByteArray} (hu : P.underlying src = some .string) (TS : SlTy P dst e 1 1) (he : P.underlying e = some (.int .u8)) (ho : o.op = .convert src dst x)
    (hd : o.dst = some t) (ht : Nat.blt t n = true) (hx : evO GL sl x = some (.d (.v (.string s)))) (hob : appO ob [.dead] = some ob') (h : K ⟨n, (t, .d (.sl 1 (bytesD s))) :: sl, ob'⟩) : OpR P GL n0 Pn T o ⟨n, sl, ob⟩ K := fun B hB g a w hr next Q hK hP => by
  rw [appO_eq hob] at h
  have hxv : a.eval x = .string s := hr.evo hx
  have hrun : (execOp a.eval o).run P w = .ok (.value (.slice (some ⟨w.heap.size, 0, none⟩) s.size (grownCap w s.size 0 e))) (Lib.bytesWorld w e s) := by
    simp only [execOp, ho, hxv, Sem.run_bind, Lib.run_convert_string_bytes w src dst e s hu TS.under he, Result.andThen_ok]; rfl
  unfold Oper.wp
  rw [hrun]
  show next (a.put o.dst _) _
  rw [hd]
  generalize hfl : (s.data.toList.map fun c => Value.int .u8 c.toNat) = fl at *
  have hm0 : ∀ o, g.m w.heap.size o = none := fun o => by
    cases hx : g.m w.heap.size o with
    | none => rfl
    | some x => have := hr.store.sat_lt hx; omega
  have hm : Mle g.m (mset g.m w.heap.size fl) := Mle.set fun o x hx => by rw [hm0] at hx; cases hx
  have hcell : ∀ o x, fl[o]? = some x → (Lib.bytesWorld w e s).cell? ⟨w.heap.size, o, none⟩ = some x := fun o x hx => by
    have hlt := (List.getElem?_eq_some_iff.1 hx).1
    rw [← hfl] at hx hlt
    simp only [List.length_map, Array.length_toList] at hlt
    rw [Lib.bytesWorld_cell w e s o hlt, ← hx]
    simp [List.getD, hlt, Array.getElem?_eq_getElem hlt]
  have hone : ∀ x ∈ fl, x.oneCell' = true := fun x hx => by
    rw [← hfl] at hx
    obtain ⟨c, _, rfl⟩ := List.mem_map.1 hx
    rfl
  have hA : ∀ b o x, mset g.m w.heap.size fl b o = some x → g.m b o = none → w.heap.size ≤ b ∧ (Lib.bytesWorld w e s).cell? ⟨b, o, none⟩ = some x ∧ x.oneCell' = true := fun b o x hx hn => by
    unfold mset at hx
    by_cases e5 : b = w.heap.size
    · subst e5
      rw [if_pos rfl] at hx
      exact ⟨Nat.le_refl _, hcell o x hx, hone x (List.mem_of_getElem? hx)⟩
    · rw [if_neg e5, hn] at hx; cases hx
  have hfr : Fr (fun _ => False) w (Lib.bytesWorld w e s) := ⟨rfl, rfl, rfl, by rw [Lib.bytesWorld_size]; omega, fun c hc _ => Lib.bytesWorld_at_old w e s c hc⟩
  obtain ⟨h1, h2⟩ := hr.new1 (w' := Lib.bytesWorld w e s) hfr hm hA (o' := .dead) (pl := .row none 0 0) trivial (fun b hb => by cases hb) (fun i f dn cur e => by cases e)
  refine hK _ _ _ _ (h1.put' (s := .d (.sl 1 (bytesD s))) ht ⟨some ⟨w.heap.size, 0, none⟩, grownCap w s.size 0 e, ?_, ?_, fun _ => ⟨w.heap.size, 0, rfl, ?_⟩⟩) ⟨h2.1, fun i b o _ => h2.2 i b o (fun x => x)⟩ h
  · rw [bytesD_len]
  · rw [bytesD_len]; exact grownCap_ge _ _ _ _
  · refine denR_u8 fun j x hx => ?_
    rw [hfl] at hx
    show mset _ _ _ _ _ = _
    unfold mset; rw [if_pos rfl, Nat.zero_add]; exact hx
theorem denR_one {m : Mem} {b : Nat} : ∀ {l : List D} {off : Nat}, DenC m b off l → DenR m 1 b off (l.map fun d => [d])
  | [], _, _ => trivial
  | d :: r, off, h => ⟨⟨rfl, h.1, trivial⟩, denR_one h.2⟩
/-- the end of an array that nobody writes to -/
theorem fl_slice_arr {P : Program} {GL : Nat → List D} {o : Oper} {σ : St} {K : SV → List Nat → Prop} {T e : TypeId} {x lo : Operand} {n : Nat} {l l' : List D} {j : Int} {kd : IntKind} {ti : TI} (hu : P.underlying T = some (.array n e)) (hT : tiOf P e = ti) (hok : ti.ok = true) (hs : ti.size = 1) (ho : o.op = .slice T x (some lo) none none)
    (hx : evO GL σ.sl x = some (.d (.cp l))) (hl : evO GL σ.sl lo = some (.d (.v (.int kd j)))) (h01 : 0 ≤ j ∧ j < n) (hd : dropO j.toNat l = some l') (hn : l'.length = n - j.toNat) (hK : K (.d (.sl 1 (l'.map fun d => [d]))) []) : FloatR P GL o σ K := fl_of fun B g a w hr => by
  obtain ⟨b, off, h1, hden⟩ := hr.evo hx
  have h2 : a.eval lo = .int kd j := hr.evo hl
  rw [← hT] at hok hs
  obtain ⟨inf, d, hi', hd', hs', _⟩ := ti_ok hok
  rw [hs] at hs'
  have hne : ¬ n = j.toNat := by omega
  have hadd : (⟨b, off, none⟩ : Addr).add (j.toNat * 1) = ⟨b, off + j.toNat, none⟩ := by rw [addr_add]; simp
  refine ⟨.d (.sl 1 (l'.map fun d => [d])), .slice (some ⟨b, off + j.toNat, none⟩) (n - j.toNat) (n - j.toNat), fun w' => ?_, ⟨some ⟨b, off + j.toNat, none⟩, n - j.toNat, by simp [hn], by simp [hn], fun _ => ⟨b, off + j.toNat, rfl, denR_one ?_⟩⟩, hK⟩
  · simp only [execOp, ho, h1, h2, Option.map_some, Option.map_none, Sem.run_bind]
    have hb := run_bound (P := P) (kd := kd) (i := j) (y := n) (c := .sliceB) h01.1 (by omega) w'
    simp [Instr.sliceAt, Instr.sureAddr, run_underlying hu, Instr.sliceBounds, hb, sizeOf, typeInfo, hi', ← hs', hne]
    simpa using hadd
  · rw [← (dropO_eq hd).1]; exact hden.drop _
theorem byte_at {s : ByteArray} {i : Nat} (h : i < s.size) : (bytesD s)[((i : Nat) : Int).toNat]? = some [.v (.int .u8 (byteAt s i))] := by
  have h2 : i < s.data.size := h
  rw [Int.toNat_natCast]
  have h3 : s.data[i]? = some s.data[i] := Array.getElem?_eq_getElem h2
  have h4 : byteAt s i = s.data[i].toNat := by unfold byteAt Array.getD; rw [dif_pos h2]; rfl
  simp only [bytesD, List.getElem?_map, Array.getElem?_toList, h3, Option.map_some, h4]
theorem sub8_digit {c : Int} (h : 48 ≤ c ∧ c ≤ 57) : sub8 c 48 = c - 48 := by
  unfold sub8 IntKind.wrap
  simp [IntKind.bits, IntKind.signed]
  omega
theorem sub8_big {c : Int} (h0 : 0 ≤ c ∧ c < 256) (h : ¬ (48 ≤ c ∧ c ≤ 57)) : 9 < sub8 c 48 := by
  unfold sub8 IntKind.wrap
  simp [IntKind.bits, IntKind.signed]
  omega
theorem wrap_digit {c : Int} (h : 0 ≤ c ∧ c ≤ 255) : IntKind.wrap .i64 c = c := by
  unfold IntKind.wrap
  simp [IntKind.bits, IntKind.signed]
  omega
end Go.Vd
namespace Go.Vd
open Go Go.RowKit

/-! terms -/
inductive Trm where
  | mk (kind num : Int) (name : ByteArray) (levels : List Lvl) (args : List Trm)
mutual
def Trm.cells : Trm → List D
  | .mk k n s ls args => [.v (.int .i64 k), .v (.int .i64 n), .v (.string s), .sl 3 (lvls ls), .sl 5 (trms args)]
def trms : List Trm → List (List D)
  | [] => []
  | t :: r => t.cells :: trms r
end
def Trm.d (t : Trm) : D := .agg t.cells
theorem Trm.cells_len : ∀ t : Trm, t.cells.length = 5
  | .mk _ _ _ _ _ => rfl
theorem Trm.case (t : Trm) : ∃ k n s ls args, t = .mk k n s ls args := by cases t; exact ⟨_, _, _, _, _, rfl⟩
theorem trms_len : ∀ l : List Trm, (trms l).length = l.length
  | [] => rfl
  | l :: r => by simp [trms, trms_len r]
theorem trms_get : ∀ {l : List Trm} {i : Nat} {x : Trm}, l[i]? = some x → (trms l)[i]? = some x.cells
  | [], i, x, h => by simp at h
  | l :: r, 0, x, h => by simp at h; subst h; simp [trms]
  | l :: r, i + 1, x, h => by simpa [trms] using trms_get (l := r) (i := i) (by simpa using h)
theorem trm_at {l : List Trm} {i : Nat} {k n : Int} {s : ByteArray} {ls : List Lvl} {args : List Trm} (h : l[i]? = some (.mk k n s ls args)) : (trms l)[((i : Nat) : Int).toNat]? = some [.v (.int .i64 k), .v (.int .i64 n), .v (.string s), .sl 3 (lvls ls), .sl 5 (trms args)] := by
  rw [Int.toNat_natCast, trms_get h]; rfl
theorem trms_app (l m : List Trm) : trms (l ++ m) = trms l ++ trms m := by
  induction l with
  | nil => rfl
  | cons a r ih => simp [trms, ih]
theorem trm_get {ls : List Trm} {i : Nat} (h : i < ls.length) : ∃ k n s l args, ls[i]? = some (.mk k n s l args) := by
  have : ls[i]? = some ls[i] := by simp [h]
  rw [this]
  cases ls[i]; exact ⟨_, _, _, _, _, rfl⟩
mutual
def Trm.size : Trm → Nat
  | .mk _ _ _ ls args => 1 + sizes ls + sizesT args
def sizesT : List Trm → Nat
  | [] => 0
  | l :: r => l.size + sizesT r
end
theorem sizeT_get : ∀ {ls : List Trm} {i : Nat} {l : Trm}, ls[i]? = some l → l.size ≤ sizesT ls
  | [], i, l, h => by simp at h
  | a :: r, 0, l, h => by simp at h; subst h; simp [sizesT]
  | a :: r, i + 1, l, h => by simp at h; have := sizeT_get h; simp [sizesT]; omega
theorem trms_size : ∀ ls : List Trm, ls.length ≤ sizesT ls
  | [] => by simp
  | l :: r => by have := trms_size r; cases l; simp [sizesT, Trm.size]; omega

mutual
/-- as they are written -/
def Trm.same : Trm → Trm → Bool
  | .mk k n s ls a, .mk k2 n2 s2 ls2 a2 => decide (k = k2) && decide (n = n2) && decide (s = s2) && sameL ls ls2 && sameT a a2
def sameT : List Trm → List Trm → Bool
  | [], [] => true
  | l :: r, l2 :: r2 => l.same l2 && sameT r r2
  | _, _ => false
end
theorem Trm.same_eq (k n : Int) (s : ByteArray) (ls : List Lvl) (a : List Trm) (k2 n2 : Int) (s2 : ByteArray) (ls2 : List Lvl) (a2 : List Trm) : Trm.same (.mk k n s ls a) (.mk k2 n2 s2 ls2 a2) = (decide (k = k2) && decide (n = n2) && decide (s = s2) && sameL ls ls2 && sameT a a2) := by simp [Trm.same]
theorem sameT_len : ∀ {a b : List Trm}, sameT a b = true → a.length = b.length
  | [], [], _ => rfl
  | l :: r, l2 :: r2, h => by simp [sameT] at h; simp [sameT_len h.2]
  | [], _ :: _, h => by simp [sameT] at h
  | _ :: _, [], h => by simp [sameT] at h
theorem sameT_app : ∀ {a b : List Trm} {x y : Trm}, a.length = b.length → sameT (a ++ [x]) (b ++ [y]) = (sameT a b && x.same y)
  | [], [], x, y, _ => by simp [sameT]
  | l :: r, l2 :: r2, x, y, h => by simp [sameT, sameT_app (a := r) (b := r2) (by simpa using h), Bool.and_assoc]
  | [], _ :: _, _, _, h => by simp at h
  | _ :: _, [], _, _, h => by simp at h
theorem sameT_take {a b : List Trm} {i : Nat} {x y : Trm} (hx : a[i]? = some x) (hy : b[i]? = some y) : sameT (a.take (i + 1)) (b.take (i + 1)) = (sameT (a.take i) (b.take i) && x.same y) := by
  have h1 := (List.getElem?_eq_some_iff.1 hx).1
  have h2 := (List.getElem?_eq_some_iff.1 hy).1
  rw [List.take_add_one, List.take_add_one, hx, hy]
  exact sameT_app (by simp; omega)
theorem sameT_false : ∀ {a b : List Trm} {i : Nat} {x y : Trm}, a[i]? = some x → b[i]? = some y → x.same y = false → sameT a b = false
  | [], _, i, _, _, h, _, _ => by simp at h
  | _ :: _, [], i, _, _, _, h, _ => by simp at h
  | l :: r, l2 :: r2, 0, x, y, h1, h2, h3 => by simp at h1 h2; subst h1 h2; simp [sameT, h3]
  | l :: r, l2 :: r2, i + 1, x, y, h1, h2, h3 => by simp [sameT]; intro _; exact sameT_false (i := i) (by simpa using h1) (by simpa using h2) h3
mutual
theorem Lvl.same_self : ∀ l : Lvl, l.same l = true
  | .mk k s a => by rw [Lvl.same_eq]; simp [sameL_self a]
theorem sameL_self : ∀ l : List Lvl, sameL l l = true
  | [] => rfl
  | t :: r => by simp [sameL, t.same_self, sameL_self r]
end
mutual
theorem Trm.same_self : ∀ t : Trm, t.same t = true
  | .mk k n s ls a => by rw [Trm.same_eq]; simp [sameL_self ls, sameT_self a]
theorem sameT_self : ∀ l : List Trm, sameT l l = true
  | [] => rfl
  | t :: r => by simp [sameT, t.same_self, sameT_self r]
end

/-! the reader -/
/-- the number that the first k digits write -/
def numR (t : ByteArray) : Nat → Int
  | 0 => 0
  | k + 1 => 10 * numR t k + (byteAt t k - 48)
def allDig (t : ByteArray) : Prop := ∀ i : Nat, (i : Int) < t.size → 48 ≤ byteAt t i ∧ byteAt t i ≤ 57
theorem numR_bound {t : ByteArray} (h : allDig t) : ∀ k : Nat, k ≤ t.size → k ≤ 5 → 0 ≤ numR t k ∧ numR t k ≤ 99999
  | 0, _, _ => by simp [numR]
  | 1, h1, h2 => by have := h 0 (by omega); simp only [numR]; omega
  | 2, h1, h2 => by have := h 0 (by omega); have := h 1 (by omega); simp only [numR]; omega
  | 3, h1, h2 => by have := h 0 (by omega); have := h 1 (by omega); have := h 2 (by omega); simp only [numR]; omega
  | 4, h1, h2 => by have := h 0 (by omega); have := h 1 (by omega); have := h 2 (by omega); have := h 3 (by omega); simp only [numR]; omega
  | 5, h1, h2 => by have := h 0 (by omega); have := h 1 (by omega); have := h 2 (by omega); have := h 3 (by omega); have := h 4 (by omega); simp only [numR]; omega
  | _ + 6, _, h2 => by omega
def peekR (s : ByteArray) (r : RS) : ByteArray := if (tokR s r.p).2.2 = false ∨ r.f ≠ none then .empty else (tokR s r.p).1
def nameR (s : ByteArray) (r : RS) : ByteArray × RS :=
  let t := tokR s r.p
  if t.2.2 = false ∨ isNameB t.1 = false then (.empty, r.fail t.2.1)
  else match r.f with
    | none => (t.1, ⟨t.2.1 + t.1.size, none⟩)
    | some a => (.empty, ⟨r.p, some a⟩)
def levelsR : Nat → ByteArray → RS → List Lvl × RS
  | 0, _, r => ([], r)
  | n + 1, s, r =>
    if r.f = none ∧ peekR s r ≠ ⟨#[41]⟩ then
      let a := levelR (s.size + 1) s r
      let b := levelsR n s a.2
      (a.1 :: b.1, b.2)
    else ([], r)
/-- the words of terms -/
def wordsT : List ByteArray := [.empty, ⟨#[115, 111, 114, 116]⟩, ⟨#[99, 111, 110, 115, 116]⟩, ⟨#[97, 112, 112]⟩, ⟨#[108, 97, 109]⟩, ⟨#[112, 105]⟩, ⟨#[108, 101, 116]⟩]
def kindT (w : ByteArray) : Nat :=
  if w = ⟨#[115, 111, 114, 116]⟩ then 1 else if w = ⟨#[99, 111, 110, 115, 116]⟩ then 2 else if w = ⟨#[97, 112, 112]⟩ then 3
  else if w = ⟨#[108, 97, 109]⟩ then 4 else if w = ⟨#[112, 105]⟩ then 5 else if w = ⟨#[108, 101, 116]⟩ then 6 else 0
theorem kindT_le (w : ByteArray) : kindT w ≤ 6 := by unfold kindT; repeat' split
                                                     all_goals omega
theorem kindT_word {w : ByteArray} {i : Nat} (h1 : 1 ≤ i) (h : i < wordsT.length) : wordsT[i] = w ↔ kindT w = i := by
  constructor
  · rintro rfl
    rcases i with _ | _ | _ | _ | _ | _ | _ | i
    · omega
    all_goals first
      | rfl
      | (simp [wordsT] at h; omega)
  · intro e
    unfold kindT at e
    repeat' split at e
    all_goals (subst e; first | omega | (rename_i h2; exact h2.symm) | (simp_all [wordsT]))
def kindTo (w : ByteArray) (i : Nat) : Nat := if kindT w < i then kindT w else 0
theorem kindTo_7 (w : ByteArray) : kindTo w 7 = kindT w := by have := kindT_le w; unfold kindTo; rw [if_pos (by omega)]
theorem kindTo_yes {w : ByteArray} {i : Nat} (h1 : 1 ≤ i) (h : i < wordsT.length) (e : wordsT[i] = w) : kindTo w (i + 1) = i := by
  have := (kindT_word h1 h).1 e; unfold kindTo; rw [if_pos (by omega)]; exact this
theorem kindTo_no {w : ByteArray} {i : Nat} (h1 : 1 ≤ i) (h : i < wordsT.length) (e : ¬ wordsT[i] = w) : kindTo w (i + 1) = kindTo w i := by
  have : ¬ kindT w = i := fun h2 => e ((kindT_word h1 h).2 h2)
  unfold kindTo
  by_cases h3 : kindT w < i
  · rw [if_pos h3, if_pos (by omega)]
  · rw [if_neg h3, if_neg (by omega)]
def zeroT : Trm := .mk 0 0 .empty [] []
/-- the parts of a term -/
def partsR (f : RS → Trm × RS) : Nat → RS → List Trm × RS
  | 0, r => ([], r)
  | n + 1, r => let b := partsR f n r; let a := f b.2; (b.1 ++ [a.1], a.2)
/-- how many terms a term of the kind has -/
def partsOf (k : Nat) : Nat := if k = 1 ∨ k = 2 then 0 else if k = 6 then 3 else 2
/-- what stands ahead of the parts: a name, levels -/
def headR (s : ByteArray) (k : Nat) (r2 : RS) : ByteArray × List Lvl × RS :=
  if k = 1 then (.empty, [(levelR (s.size + 1) s r2).1], (levelR (s.size + 1) s r2).2)
  else if k = 2 then ((nameR s r2).1, (levelsR (s.size + 2) s (nameR s r2).2).1, (levelsR (s.size + 2) s (nameR s r2).2).2)
  else (.empty, [], r2)
/-- is it a token that begins a term? -/
def headT (t : ByteArray) : Prop := t ≠ .empty ∧ (byteAt t 0 = 35 ∨ t = ⟨#[40]⟩)
instance (t : ByteArray) : Decidable (headT t) := inferInstanceAs (Decidable (_ ∧ _))
def termR : Nat → ByteArray → RS → Trm × RS
  | 0, _, r => (zeroT, r)
  | n + 1, s, r =>
    match r.f with
    | some _ => (zeroT, r)
    | none =>
      let t := tokR s r.p
      if ¬ headT t.1 then (zeroT, r.fail t.2.1)
      else if t.1 ≠ ⟨#[40]⟩ then (.mk 0 (numR (t.1.extract 1 t.1.size) (t.1.size - 1)) .empty [] [], (nextR s r).2)
      else
        let r1 := (nextR s r).2
        let w := tokR s r1.p
        let k := kindT w.1
        if k = 0 then (zeroT, r1.fail w.2.1)
        else
          let h := headR s k (nextR s r1).2
          let a := partsR (termR n s) (partsOf k) h.2.2
          (.mk k 0 h.1 h.2.1 a.1, takeR s ⟨#[41]⟩ a.2)
/-- the reference's 'ParseTerm' -/
def parseT (s : ByteArray) : Trm × Int × Int :=
  if s.size > 20000 then (zeroT, 2, 0)
  else
    let a := termR (s.size + 1) s ⟨0, none⟩
    match (doneR s a.2).f with
    | none => (a.1, 0, 0)
    | some at' => (zeroT, 1, at')
theorem nameR_le {s : ByteArray} {r : RS} (hp : r.p ≤ s.size) : r.p ≤ (nameR s r).2.p ∧ (nameR s r).2.p ≤ s.size := by
  have hat := tokR_at (s := s) hp
  obtain ⟨p, f⟩ := r
  simp only at hp hat
  unfold nameR
  dsimp only
  split
  · rw [RS.fail_p]; exact ⟨Nat.le_refl _, hp⟩
  · cases f with
    | none => dsimp only; exact ⟨by omega, hat.2⟩
    | some a => exact ⟨Nat.le_refl _, hp⟩
theorem levelsR_le {s : ByteArray} : ∀ (n : Nat) {r : RS}, r.p ≤ s.size → r.p ≤ (levelsR n s r).2.p ∧ (levelsR n s r).2.p ≤ s.size := by
  intro n
  induction n with
  | zero => intro r hp; exact ⟨Nat.le_refl _, hp⟩
  | succ n ih =>
    intro r hp
    simp only [levelsR]
    split
    · have h1 := levelR_le (s := s) (s.size + 1) hp
      have h2 := ih h1.2
      exact ⟨Nat.le_trans h1.1 h2.1, h2.2⟩
    · exact ⟨Nat.le_refl _, hp⟩
theorem headR_le {s : ByteArray} (k : Nat) {r : RS} (hp : r.p ≤ s.size) : r.p ≤ (headR s k r).2.2.p ∧ (headR s k r).2.2.p ≤ s.size := by
  unfold headR
  split
  · exact levelR_le (s := s) (s.size + 1) hp
  · split
    · have h1 := nameR_le (s := s) hp
      have h2 := levelsR_le (s.size + 2) h1.2
      exact ⟨Nat.le_trans h1.1 h2.1, h2.2⟩
    · exact ⟨Nat.le_refl _, hp⟩
theorem partsR_le {s : ByteArray} {f : RS → Trm × RS} (hf : ∀ r : RS, r.p ≤ s.size → r.p ≤ (f r).2.p ∧ (f r).2.p ≤ s.size) : ∀ (n : Nat) {r : RS}, r.p ≤ s.size → r.p ≤ (partsR f n r).2.p ∧ (partsR f n r).2.p ≤ s.size := by
  intro n
  induction n with
  | zero => intro r hp; exact ⟨Nat.le_refl _, hp⟩
  | succ n ih =>
    intro r hp
    have h1 := ih hp
    have h2 := hf _ h1.2
    exact ⟨Nat.le_trans h1.1 h2.1, h2.2⟩
theorem partsR_len (f : RS → Trm × RS) : ∀ (n : Nat) (r : RS), (partsR f n r).1.length = n := by
  intro n
  induction n with
  | zero => intro r; rfl
  | succ n ih => intro r; simp [partsR, ih]
theorem termR_le {s : ByteArray} : ∀ (n : Nat) (r : RS), r.p ≤ s.size → r.p ≤ (termR n s r).2.p ∧ (termR n s r).2.p ≤ s.size := by
  intro n
  induction n with
  | zero => intro r hp; exact ⟨Nat.le_refl _, hp⟩
  | succ n ih =>
    intro r hp
    obtain ⟨p, f⟩ := r
    simp only at hp
    cases f with
    | some a => exact ⟨Nat.le_refl _, hp⟩
    | none =>
      have h1 := nextR_le (s := s) (r := ⟨p, none⟩) hp
      have h2 := nextR_le (s := s) (r := (nextR s ⟨p, none⟩).2) h1.2
      simp only at h1
      simp only [termR]
      split
      · rw [RS.fail_p]; exact ⟨Nat.le_refl _, hp⟩
      · split
        · exact h1
        · split
          · rw [RS.fail_p]; exact h1
          · have h3 := headR_le (s := s) (kindT (tokR s (nextR s ⟨p, none⟩).2.p).1) h2.2
            have h4 := partsR_le ih (partsOf (kindT (tokR s (nextR s ⟨p, none⟩).2.p).1)) h3.2
            have h5 := takeR_le (s := s) (w := ⟨#[41]⟩) h4.2
            exact ⟨Nat.le_trans h1.1 (Nat.le_trans h2.1 (Nat.le_trans h3.1 (Nat.le_trans h4.1 h5.1))), h5.2⟩

theorem tok_hash0 {s : ByteArray} {p : Nat} (hp : p ≤ s.size) (h0 : (tokR s p).1 ≠ .empty) (h : byteAt (tokR s p).1 0 = 35) : (tokR s p).1.size ≤ 6 ∧ 2 ≤ (tokR s p).1.size ∧ allDig ((tokR s p).1.extract 1 (tokR s p).1.size) := by
  have hle := spanB_le wsB s p hp
  revert h0 h
  unfold tokR
  dsimp only
  split
  · intro h0; exact absurd rfl h0
  · rename_i hn
    have hlt : spanB wsB s p < s.size := by omega
    split
    · rename_i hc
      intro _ h
      rw [byteAt_extract s (by omega) (by omega), Nat.add_zero] at h
      omega
    · split
      · rename_i hc hnm
        have h3 := spanB_le (nameB · false) s (spanB wsB s p + 1) (by omega)
        split
        · intro h0; exact absurd rfl h0
        · intro _ h
          rw [byteAt_extract s (by omega) (by omega), Nat.add_zero] at h
          rw [h] at hnm
          exact absurd hnm (by decide)
      · split
        · have h3 := spanB_le digB s (spanB wsB s p + 1) (by omega)
          by_cases h35 : byteAt s (spanB wsB s p) = 35
          · simp only [if_pos h35]
            split
            · intro h0; exact absurd rfl h0
            · rename_i hd
              intro _ h
              simp only [ByteArray.size_extract]
              refine ⟨by omega, by omega, fun i hi => ?_⟩
              simp only [ByteArray.size_extract] at hi
              rw [byteAt_extract _ (by omega) (by simp only [ByteArray.size_extract]; omega), byteAt_extract s (by omega) (by omega)]
              have := spanB_all (f := digB) (s := s) (p := spanB wsB s p + 1) (j := spanB wsB s p + (1 + i)) (by omega) (by omega)
              simpa [digB] using this
          · simp only [if_neg h35]
            split
            · intro h0; exact absurd rfl h0
            · intro _ h
              rw [byteAt_extract s (by omega) (by omega), Nat.add_zero] at h
              exact absurd h h35
        · intro h0; exact absurd rfl h0
/-- a token that begins with # -/
theorem tok_hash {s : ByteArray} {p : Nat} (hp : p ≤ s.size) (h0 : (tokR s p).1 ≠ .empty) (h : byteAt (tokR s p).1 0 = 35) : (tokR s p).1.size ≤ 6 ∧ 1 ≤ (tokR s p).1.size ∧ allDig ((tokR s p).1.extract 1 (tokR s p).1.size) := by
  have := tok_hash0 hp h0 h
  exact ⟨this.1, by omega, this.2.2⟩
theorem tok_hash2 {s : ByteArray} {p : Nat} (hp : p ≤ s.size) (h0 : (tokR s p).1 ≠ .empty) (h : byteAt (tokR s p).1 0 = 35) : 2 ≤ (tokR s p).1.size := (tok_hash0 hp h0 h).2.1
section
variable {s : ByteArray} {p n : Nat}
theorem termR_bad (h : ¬ headT (tokR s p).1) : termR (n + 1) s ⟨p, none⟩ = (zeroT, (RS.mk p none).fail (tokR s p).2.1) := by simp only [termR]; rw [if_pos h]
theorem termR_num (h : headT (tokR s p).1) (h1 : (tokR s p).1 ≠ ⟨#[40]⟩) : termR (n + 1) s ⟨p, none⟩ = (.mk 0 (numR ((tokR s p).1.extract 1 (tokR s p).1.size) ((tokR s p).1.size - 1)) .empty [] [], (nextR s ⟨p, none⟩).2) := by
  simp only [termR]; rw [if_neg (by simpa using h), if_pos h1]
theorem termR_kind (h1 : (tokR s p).1 = ⟨#[40]⟩) (h2 : kindT (tokR s (nextR s ⟨p, none⟩).2.p).1 = 0) : termR (n + 1) s ⟨p, none⟩ = (zeroT, (nextR s ⟨p, none⟩).2.fail (tokR s (nextR s ⟨p, none⟩).2.p).2.1) := by
  simp only [termR]; rw [if_neg (by rw [h1]; decide), if_neg (by simpa using h1), if_pos h2]
theorem termR_node (h1 : (tokR s p).1 = ⟨#[40]⟩) {k : Nat} (h2 : kindT (tokR s (nextR s ⟨p, none⟩).2.p).1 = k) (h3 : ¬ k = 0) {nm : ByteArray} {L : List Lvl} {r3 : RS} (h4 : headR s k (nextR s (nextR s ⟨p, none⟩).2).2 = (nm, L, r3)) :
    termR (n + 1) s ⟨p, none⟩ = (.mk k 0 nm L (partsR (termR n s) (partsOf k) r3).1, takeR s ⟨#[41]⟩ (partsR (termR n s) (partsOf k) r3).2) := by
  simp only [termR]; rw [if_neg (by rw [h1]; decide), if_neg (by simpa using h1), h2, if_neg h3, h4]
end
theorem parseT_bad {s : ByteArray} (h : ¬ s.size > 20000) (hf : ¬ fcode (doneR s (termR (s.size + 1) s ⟨0, none⟩).2).f = 0) :
    parseT s = (zeroT, fcode (doneR s (termR (s.size + 1) s ⟨0, none⟩).2).f, fat (doneR s (termR (s.size + 1) s ⟨0, none⟩).2).f) := by
  unfold parseT
  rw [if_neg h]
  simp only
  cases hf2 : (doneR s (termR (s.size + 1) s ⟨0, none⟩).2).f with
  | none => rw [hf2] at hf; exact absurd rfl hf
  | some a => rfl
theorem parseT_good {s : ByteArray} (h : ¬ s.size > 20000) (hf : fcode (doneR s (termR (s.size + 1) s ⟨0, none⟩).2).f = 0) :
    parseT s = ((termR (s.size + 1) s ⟨0, none⟩).1, fcode (doneR s (termR (s.size + 1) s ⟨0, none⟩).2).f, fat (doneR s (termR (s.size + 1) s ⟨0, none⟩).2).f) := by
  unfold parseT
  rw [if_neg h]
  simp only
  cases hf2 : (doneR s (termR (s.size + 1) s ⟨0, none⟩).2).f with
  | none => rfl
  | some a => rw [hf2] at hf; cases hf
end Go.Vd
namespace Go.Proofs.YtneaancanfpdhaaDoor
open Go Go.Vd Go.RowKit

mutual
/-- F at each variable, with how many binders stand around it -/
def mapT (F : Trm → Int → Trm) : Trm → Int → Trm
  | .mk k n s ls args, d => if k = 0 then F (.mk k n s ls args) d else .mk k n s ls (mapTs F (decide (4 ≤ k)) args d)
def mapTs (F : Trm → Int → Trm) (b : Bool) : List Trm → Int → List Trm
  | [], _ => []
  | t :: r, d => mapT F t (if b && r.isEmpty then d + 1 else d) :: mapTs F b r d
end
theorem mapTs_len (F : Trm → Int → Trm) (b : Bool) (d : Int) : ∀ l : List Trm, (mapTs F b l d).length = l.length
  | [] => by simp [mapTs]
  | t :: r => by simp [mapTs, mapTs_len F b d r]
theorem mapTs_get (F : Trm → Int → Trm) (b : Bool) (d : Int) : ∀ {l : List Trm} {i : Nat} {t : Trm}, l[i]? = some t → (mapTs F b l d)[i]? = some (mapT F t (if b = true ∧ i + 1 = l.length then d + 1 else d))
  | [], i, t, h => by simp at h
  | a :: r, 0, t, h => by
    simp at h; subst h
    simp only [mapTs, List.getElem?_cons_zero]
    cases r <;> simp
  | a :: r, i + 1, t, h => by
    have := mapTs_get F b d (l := r) (i := i) (t := t) (by simpa using h)
    simp only [mapTs, List.getElem?_cons_succ, this, List.length_cons, Nat.add_right_cancel_iff]
mutual
/-- P at each variable -/
def allV (P : Int → Int → Prop) : Trm → Int → Prop
  | .mk k n s ls args, d => if k = 0 then P n d else allVs P (decide (4 ≤ k)) args d
def allVs (P : Int → Int → Prop) (b : Bool) : List Trm → Int → Prop
  | [], _ => True
  | t :: r, d => allV P t (if b && r.isEmpty then d + 1 else d) ∧ allVs P b r d
end
/-- a variable's number is at most B -/
def numT (B : Int) (t : Trm) : Prop := allV (fun n _ => 0 ≤ n ∧ n ≤ B) t 0

/-- lifting -/
def liftF (m from' : Int) : Trm → Int → Trm
  | .mk k n s ls args, d => if n ≥ from' + d then .mk k (n + m) s ls args else .mk k n s ls args
def liftT (t : Trm) (m from' : Int) : Trm := if m = 0 then t else mapT (liftF m from') t 0
/-- a term in place of the free variable 0 -/
def instF (v : Trm) : Trm → Int → Trm
  | .mk k n s ls args, d => if n - d < 0 then .mk k n s ls args else if n - d < 1 then liftT v d 0 else .mk k (n - 1) s ls args
def substT (t v : Trm) : Trm := mapT (instF v) t 0

/-! rows of terms that are written one after the other -/
def zeroC : List D := [.v (.int .i64 0), .v (.int .i64 0), .v (.string .empty), .v (.slice none 0 0), .v (.slice none 0 0)]
def rowT (L : List Trm) (i n : Nat) : List (List D) := trms (L.take i) ++ List.replicate (n - i) zeroC
theorem rowT_len {L : List Trm} {i n : Nat} (h : i ≤ L.length) (hn : i ≤ n) : (rowT L i n).length = n := by
  simp only [rowT, List.length_append, trms_len, List.length_take, List.length_replicate]; omega
theorem rowT_set {L : List Trm} {i n : Nat} {t : Trm} (h : L[i]? = some t) (hn : i < n) : (rowT L i n).set i t.cells = rowT L (i + 1) n := by
  have hi := (List.getElem?_eq_some_iff.1 h).1
  have hl : (trms (L.take i)).length = i := by rw [trms_len, List.length_take]; omega
  unfold rowT
  rw [List.set_append_right _ _ (by omega), hl, Nat.sub_self, List.take_add_one, h]
  simp only [Option.toList_some, trms_app, List.append_assoc]
  rw [show n - i = (n - (i + 1)) + 1 by omega, List.replicate_succ]
  rfl
theorem rowT_end {L : List Trm} {n : Nat} (h : L.length = n) : rowT L n n = trms L := by
  unfold rowT
  rw [Nat.sub_self, List.take_of_length_le (by omega)]; simp
theorem sizeT_get : ∀ {l : List Trm} {i : Nat} {t : Trm}, l[i]? = some t → t.size ≤ sizesT l
  | [], i, t, h => by simp at h
  | a :: r, 0, t, h => by simp at h; subst h; simp [sizesT]
  | a :: r, i + 1, t, h => by
    have := sizeT_get (l := r) (i := i) (t := t) (by simpa using h)
    simp [sizesT]; omega
theorem sizesT_len : ∀ l : List Trm, l.length ≤ sizesT l
  | [] => by simp
  | .mk k n s ls args :: r => by have := sizesT_len r; simp [sizesT, Trm.size]; omega
theorem allVs_get {P : Int → Int → Prop} {b : Bool} {d : Int} : ∀ {l : List Trm} {i : Nat} {t : Trm}, allVs P b l d → l[i]? = some t → allV P t (if b = true ∧ i + 1 = l.length then d + 1 else d)
  | [], i, t, _, h => by simp at h
  | a :: r, 0, t, hp, h => by
    simp at h; subst h
    have := hp.1
    cases r <;> simpa using this
  | a :: r, i + 1, t, hp, h => by
    have := allVs_get (l := r) (i := i) (t := t) hp.2 (by simpa using h)
    simpa only [List.length_cons, Nat.add_right_cancel_iff] using this
mutual
theorem allV_any {P : Int → Prop} : ∀ (t : Trm) (d e : Int), allV (fun n _ => P n) t d → allV (fun n _ => P n) t e
  | .mk k n s ls args, d, e, h => by
    simp only [allV] at h ⊢
    by_cases hk : k = 0
    · rw [if_pos hk] at h ⊢; exact h
    · rw [if_neg hk] at h ⊢; exact allVs_any args _ d e h
theorem allVs_any {P : Int → Prop} : ∀ (l : List Trm) (b : Bool) (d e : Int), allVs (fun n _ => P n) b l d → allVs (fun n _ => P n) b l e
  | [], _, _, _, _ => trivial
  | t :: r, b, d, e, h => ⟨allV_any t _ _ h.1, allVs_any r b d e h.2⟩
end
theorem numT_get {B k n : Int} {s : ByteArray} {ls : List Lvl} {args : List Trm} {i : Nat} {t : Trm} (h : numT B (.mk k n s ls args)) (hk : ¬ k = 0) (hi : args[i]? = some t) : numT B t := by
  unfold numT at h ⊢
  simp only [allV, if_neg hk] at h
  exact allV_any _ _ _ (allVs_get h hi)
theorem numT_var {B n : Int} {s : ByteArray} {ls : List Lvl} {args : List Trm} (h : numT B (.mk 0 n s ls args)) : 0 ≤ n ∧ n ≤ B := by
  unfold numT at h
  simpa only [allV, if_true] using h
end Go.Proofs.YtneaancanfpdhaaDoor
namespace Go.Proofs.YtneaancanfpdhaaDoor
open Go Go.Vd Go.RowKit

mutual
/-- whether G holds of a part -/
def someT (G : Trm → Int → Bool) : Trm → Int → Bool
  | .mk k n s ls args, d => G (.mk k n s ls args) d || someTs G (decide (4 ≤ k)) args d
def someTs (G : Trm → Int → Bool) (b : Bool) : List Trm → Int → Bool
  | [], _ => false
  | t :: r, d => someT G t (if b && r.isEmpty then d + 1 else d) || someTs G b r d
end
theorem someTs_true {G : Trm → Int → Bool} {b : Bool} {d : Int} : ∀ {l : List Trm} {i : Nat} {t : Trm}, l[i]? = some t → someT G t (if b = true ∧ i + 1 = l.length then d + 1 else d) = true → someTs G b l d = true
  | [], i, t, h, _ => by simp at h
  | a :: r, 0, t, h, hg => by
    simp at h; subst h
    simp only [someTs, Bool.or_eq_true]
    left
    cases r <;> simpa using hg
  | a :: r, i + 1, t, h, hg => by
    simp only [someTs, Bool.or_eq_true]
    right
    exact someTs_true (l := r) (i := i) (t := t) (by simpa using h) (by simpa only [List.length_cons, Nat.add_right_cancel_iff] using hg)
theorem someTs_false {G : Trm → Int → Bool} {b : Bool} {d : Int} : ∀ {l : List Trm}, (∀ (i : Nat) t, l[i]? = some t → someT G t (if b = true ∧ i + 1 = l.length then d + 1 else d) = false) → someTs G b l d = false
  | [], _ => rfl
  | a :: r, h => by
    simp only [someTs, Bool.or_eq_false_iff]
    refine ⟨?_, someTs_false fun i t hi => ?_⟩
    · have := h 0 a rfl
      cases r <;> simpa using this
    · have := h (i + 1) t (by simpa using hi)
      simpa only [List.length_cons, Nat.add_right_cancel_iff] using this
/-- a variable's number is n or more -/
def openF (n : Int) : Trm → Int → Bool
  | .mk k m _ _ _, d => decide (k = 0) && decide (n + d ≤ m)
def closedT (t : Trm) (n : Int) : Bool := !someT (openF n) t 0

/-- the head, the arguments -/
def spineT : Trm → Trm × List Trm
  | .mk k n s ls [f, a] => if k = 3 then ((spineT f).1, (spineT f).2 ++ [a]) else (.mk k n s ls [f, a], [])
  | t => (t, [])
def applyT (f : Trm) (bs : List Trm) : Trm := bs.foldl (fun f a => .mk 3 0 .empty [] [f, a]) f
/-- an application has two parts, on the way to the head -/
def spOk : Trm → Prop
  | .mk k n s ls [f, a] => k = 3 → spOk f
  | .mk k n s ls _ => ¬ k = 3
theorem spOk_app {k n : Int} {s : ByteArray} {ls : List Lvl} {args : List Trm} (h : spOk (.mk k n s ls args)) (hk : k = 3) : ∃ k1 n1 s1 l1 a1 k2 n2 s2 l2 a2, args = [.mk k1 n1 s1 l1 a1, .mk k2 n2 s2 l2 a2] ∧ spOk (.mk k1 n1 s1 l1 a1) := by
  match args, h with
  | [⟨k1, n1, s1, l1, a1⟩, ⟨k2, n2, s2, l2, a2⟩], h => exact ⟨k1, n1, s1, l1, a1, k2, n2, s2, l2, a2, rfl, by simp only [spOk] at h; exact h hk⟩
  | [], h => exact absurd hk (by simpa only [spOk] using h)
  | [a], h => exact absurd hk (by simpa only [spOk] using h)
  | a :: b :: c :: r, h => exact absurd hk (by simpa only [spOk] using h)
theorem spine_app {n : Int} {s : ByteArray} {ls : List Lvl} {f a : Trm} : spineT (.mk 3 n s ls [f, a]) = ((spineT f).1, (spineT f).2 ++ [a]) := by
  simp only [spineT, if_true]
theorem spine_no {k n : Int} {s : ByteArray} {ls : List Lvl} {args : List Trm} (h : ¬ k = 3) : spineT (.mk k n s ls args) = (.mk k n s ls args, []) := by
  match args with
  | [f, a] => simp only [spineT, if_neg h]
  | [] => rfl
  | [a] => rfl
  | a :: b :: c :: r => rfl

end Go.Proofs.YtneaancanfpdhaaDoor
namespace Go.Proofs.YtneaancanfpdhaaDoor
open Go Go.Vd Go.RowKit

theorem mapTs_empty (F : Trm → Int → Trm) (b : Bool) (r : List Trm) (d : Int) : (mapTs F b r d).isEmpty = r.isEmpty := by cases r <;> simp [mapTs]
mutual
/-- one walk behind another is one walk -/
theorem mapT_fuse {F G H : Trm → Int → Trm} (hv : ∀ n s ls args (j : Int), 0 ≤ j → mapT G (F (.mk 0 n s ls args) j) j = H (.mk 0 n s ls args) j) : ∀ (t : Trm) (j : Int), 0 ≤ j → mapT G (mapT F t j) j = mapT H t j
  | .mk k n s ls args, j, hj => by
    by_cases hk : k = 0
    · subst hk
      rw [mapT, if_pos rfl, hv n s ls args j hj, mapT, if_pos rfl]
    · rw [mapT, if_neg hk, mapT, if_neg hk, mapT, if_neg hk, mapTs_fuse hv args _ j hj]
theorem mapTs_fuse {F G H : Trm → Int → Trm} (hv : ∀ n s ls args (j : Int), 0 ≤ j → mapT G (F (.mk 0 n s ls args) j) j = H (.mk 0 n s ls args) j) : ∀ (l : List Trm) (b : Bool) (j : Int), 0 ≤ j → mapTs G b (mapTs F b l j) j = mapTs H b l j
  | [], b, j, _ => rfl
  | t :: r, b, j, hj => by
    simp only [mapTs, mapTs_empty]
    rw [mapT_fuse hv t _ (by split <;> omega), mapTs_fuse hv r b j hj]
end
mutual
theorem mapT_congr {F H : Trm → Int → Trm} (hv : ∀ n s ls args (j : Int), 0 ≤ j → F (.mk 0 n s ls args) j = H (.mk 0 n s ls args) j) : ∀ (t : Trm) (j : Int), 0 ≤ j → mapT F t j = mapT H t j
  | .mk k n s ls args, j, hj => by
    by_cases hk : k = 0
    · subst hk
      rw [mapT, if_pos rfl, hv n s ls args j hj, mapT, if_pos rfl]
    · rw [mapT, if_neg hk, mapT, if_neg hk, mapTs_congr hv args _ j hj]
theorem mapTs_congr {F H : Trm → Int → Trm} (hv : ∀ n s ls args (j : Int), 0 ≤ j → F (.mk 0 n s ls args) j = H (.mk 0 n s ls args) j) : ∀ (l : List Trm) (b : Bool) (j : Int), 0 ≤ j → mapTs F b l j = mapTs H b l j
  | [], b, j, _ => rfl
  | t :: r, b, j, hj => by
    simp only [mapTs]
    rw [mapT_congr hv t _ (by split <;> omega), mapTs_congr hv r b j hj]
end
mutual
theorem mapT_self {F : Trm → Int → Trm} (hv : ∀ n s ls args (j : Int), F (.mk 0 n s ls args) j = .mk 0 n s ls args) : ∀ (t : Trm) (j : Int), mapT F t j = t
  | .mk k n s ls args, j => by
    by_cases hk : k = 0
    · subst hk
      rw [mapT, if_pos rfl, hv]
    · rw [mapT, if_neg hk, mapTs_self hv args]
theorem mapTs_self {F : Trm → Int → Trm} (hv : ∀ n s ls args (j : Int), F (.mk 0 n s ls args) j = .mk 0 n s ls args) : ∀ (l : List Trm) (b : Bool) (j : Int), mapTs F b l j = l
  | [], b, j => rfl
  | t :: r, b, j => by
    simp only [mapTs]
    rw [mapT_self hv t, mapTs_self hv r]
end
theorem liftT_map (t : Trm) (m fr : Int) : liftT t m fr = mapT (liftF m fr) t 0 := by
  unfold liftT
  split
  · rename_i h; subst h
    exact (mapT_self (fun n s ls args j => by rw [liftF]; split <;> simp) t 0).symm
  · rfl
theorem mapT_var (F : Trm → Int → Trm) (n : Int) (s : ByteArray) (ls : List Lvl) (args : List Trm) (j : Int) : mapT F (.mk 0 n s ls args) j = F (.mk 0 n s ls args) j := by rw [mapT, if_pos rfl]

/-- what is put in place of a variable that does not stand there -/
theorem subst_lift (a b : Trm) : substT (liftT a 1 0) b = a := by
  rw [substT, liftT_map, mapT_fuse (H := fun x j => mapT (instF b) (liftF 1 0 x j) j) (fun n s ls args j hj => rfl) a 0 (Int.le_refl _)]
  refine (mapT_congr (H := fun x _ => x) (fun n s ls args j hj => ?_) a 0 (Int.le_refl _)).trans (mapT_self (fun _ _ _ _ _ => rfl) a 0)
  show mapT (instF b) (liftF 1 0 (.mk 0 n s ls args) j) j = _
  rw [liftF]
  by_cases h : n ≥ 0 + j
  · rw [if_pos h, mapT_var, instF, if_neg (by omega), if_neg (by omega), Int.add_sub_cancel]
  · rw [if_neg h, mapT_var, instF, if_pos (by omega)]

mutual
/-- lifting by j, then by m behind n and j: the other way round -/
theorem lift_liftA (j m n : Int) (hj : 0 ≤ j) (hm : 0 ≤ m) (hn : 0 ≤ n) : ∀ (t : Trm) (i : Int), 0 ≤ i → mapT (liftF m n) (mapT (liftF j 0) t i) (j + i) = mapT (liftF j 0) (mapT (liftF m n) t i) i
  | .mk k x s ls args, i, hi => by
    by_cases hk : k = 0
    · subst hk
      simp only [mapT_var, liftF]
      by_cases h1 : x ≥ 0 + i
      · rw [if_pos h1, mapT_var, liftF]
        by_cases h2 : x ≥ n + i
        · rw [if_pos (by omega), if_pos h2, mapT_var, liftF, if_pos (by omega)]
          congr 1; omega
        · rw [if_neg (by omega), if_neg h2, mapT_var, liftF, if_pos h1]
      · rw [if_neg h1, mapT_var, liftF, if_neg (by omega), if_neg (by omega), mapT_var, liftF, if_neg h1]
    · simp only [mapT, if_neg hk]
      rw [lift_liftsA j m n hj hm hn args _ i hi]
theorem lift_liftsA (j m n : Int) (hj : 0 ≤ j) (hm : 0 ≤ m) (hn : 0 ≤ n) : ∀ (l : List Trm) (b : Bool) (i : Int), 0 ≤ i → mapTs (liftF m n) b (mapTs (liftF j 0) b l i) (j + i) = mapTs (liftF j 0) b (mapTs (liftF m n) b l i) i
  | [], b, i, _ => rfl
  | t :: r, b, i, hi => by
    simp only [mapTs, mapTs_empty]
    have h1 := lift_liftA j m n hj hm hn t (if (b && r.isEmpty) = true then i + 1 else i) (by split <;> omega)
    have e : (if (b && r.isEmpty) = true then j + i + 1 else j + i) = j + (if (b && r.isEmpty) = true then i + 1 else i) := by split <;> omega
    rw [e, h1, lift_liftsA j m n hj hm hn r b i hi]
end
/-- the substitution lemma -/
theorem lift_subst (a b : Trm) (m n : Int) (hm : 0 ≤ m) (hn : 0 ≤ n) : liftT (substT a b) m n = substT (liftT a m (n + 1)) (liftT b m n) := by
  rw [liftT_map, substT, substT, liftT_map a, mapT_fuse (H := fun x j => mapT (liftF m n) (instF b x j) j) (fun _ _ _ _ _ _ => rfl) a 0 (Int.le_refl _),
    mapT_fuse (H := fun x j => mapT (instF (liftT b m n)) (liftF m (n + 1) x j) j) (fun _ _ _ _ _ _ => rfl) a 0 (Int.le_refl _)]
  refine mapT_congr (fun x s ls args j hj => ?_) a 0 (Int.le_refl _)
  show mapT (liftF m n) (instF b (.mk 0 x s ls args) j) j = mapT (instF (liftT b m n)) (liftF m (n + 1) (.mk 0 x s ls args) j) j
  rw [instF, liftF]
  by_cases h1 : x - j < 0
  · rw [if_pos h1, mapT_var, liftF, if_neg (by omega), if_neg (by omega), mapT_var, instF, if_pos h1]
  · rw [if_neg h1]
    by_cases h2 : x - j < 1
    · rw [if_pos h2, if_neg (by omega), mapT_var, instF, if_neg h1, if_pos h2]
      have h := lift_liftA j m n hj hm hn b 0 (Int.le_refl _)
      rw [Int.add_zero] at h
      rw [liftT_map b j 0, h, liftT_map (liftT b m n), liftT_map b m n]
    · rw [if_neg h2, mapT_var, liftF]
      by_cases h3 : x - 1 ≥ n + j
      · rw [if_pos h3, if_pos (by omega), mapT_var, instF, if_neg (by omega), if_neg (by omega)]
        congr 1; omega
      · rw [if_neg h3, if_neg (by omega), mapT_var, instF, if_neg h1, if_neg h2]

mutual
theorem closed_liftA {n m : Int} : ∀ (t : Trm) (d : Int), someT (openF n) t d = false → mapT (liftF m n) t d = t
  | .mk k x s ls args, d, h => by
    simp only [someT, Bool.or_eq_false_iff, openF] at h
    by_cases hk : k = 0
    · subst hk
      have h1 := h.1
      rw [mapT_var, liftF, if_neg]
      intro h2
      simp at h1
      omega
    · rw [mapT, if_neg hk, closed_liftsA args _ d h.2]
theorem closed_liftsA {n m : Int} : ∀ (l : List Trm) (b : Bool) (d : Int), someTs (openF n) b l d = false → mapTs (liftF m n) b l d = l
  | [], b, d, _ => rfl
  | t :: r, b, d, h => by
    simp only [someTs, Bool.or_eq_false_iff] at h
    simp only [mapTs]
    rw [closed_liftA t _ h.1, closed_liftsA r b d h.2]
end
theorem closed_lift {t : Trm} {n m : Int} (h : closedT t n = true) : liftT t m n = t := by
  rw [liftT_map]
  exact closed_liftA t 0 (by simpa [closedT] using h)
end Go.Proofs.YtneaancanfpdhaaDoor
namespace Go.Proofs.YtneaancanfpdhaaDoor
open Go Go.Vd Go.RowKit
attribute [local irreducible] Runs OpsR OpR FloatR AnyR AnyO
variable {g gl : Nat → List D}

/-- a number's digits -/
def digR (n : Nat) : ByteArray := if h : n < 10 then ⟨#[UInt8.ofNat (48 + n % 10)]⟩ else digR (n / 10) ++ ⟨#[UInt8.ofNat (48 + n % 10)]⟩
theorem digR_one {n : Nat} (h : n < 10) : digR n = ⟨#[UInt8.ofNat (48 + n % 10)]⟩ := by rw [digR, dif_pos h]
theorem digR_more {n : Nat} (h : ¬ n < 10) : digR n = digR (n / 10) ++ ⟨#[UInt8.ofNat (48 + n % 10)]⟩ := by rw [digR, dif_neg h]
theorem digR_size (n : Nat) : (digR n).size ≤ n + 1 := by
  induction n using Nat.strongRecOn with
  | _ n ih =>
    by_cases h : n < 10
    · rw [digR_one h]; show 1 ≤ _; omega
    · rw [digR_more h, ByteArray.size_append]
      have := ih (n / 10) (by omega)
      have h1 : (ByteArray.mk #[UInt8.ofNat (48 + n % 10)]).size = 1 := rfl
      omega
end Go.Proofs.YtneaancanfpdhaaDoor
namespace Go.Proofs.YtneaancanfpdhaaDoor
open Go Go.Vd Go.RowKit
attribute [local irreducible] Runs OpsR OpR FloatR AnyR
variable {gl : Nat → List D}

/-- a builder: used or not, and what it holds -/
def bldA (used : Bool) : SV := cond used (.blk 0 0) (.d (.v (.pointer none)))
def bldO (used : Bool) (s : ByteArray) : List Ob := [.cells [bldA used, .own 1 1 (bytesD s)] 61, .row 5 1]

theorem noesc (y : Value) (w : World) : (callFunc 78 #[y]).run Tryd.prog w = .ok (.value y) w := by
  rw [run_callFunc_extern Tryd.func78 (by kernel_rfl) (by kernel_rfl) (by kernel_rfl) (e := Extern.AbiNoEscape.same) (by kernel_rfl)]
  rw [Lib.run_noEscape]
  rfl

theorem check_spec (used : Bool) (s : ByteArray) :
    Tri Tryd.prog gl 64 (bldO used s) [.blk 0 0] fun out ob' => out = .ret (.d (.tup [])) ∧ ob' = bldO true s := by
  cases used with
  | false =>
    unfold bldO bldA
    dsimp only [cond_true, cond_false]
    refine triS_of_runs Tryd.func64 rfl Tryd.ntmps64 (rs := []) rfl rfl rfl 2 rfl ?_
    refine sr ?_; refine o1 (mv ?_); refine o1 (ncb ?_); refine o1 (fdb ti61 ?_); refine o1 (ldb ti58 ?_); refine o1 (f_peql_nil up58 ?_); refine nx ?_; refine cdf (fun h0 => ?_) (fun h0 => ?_)
    · simp only [nrm, Int.reduceEq, Int.reduceNe, Int.reduceLT, Int.reduceLE] at h0
    (try simp only [nrm, Int.reduceEq, Int.reduceNe, Int.reduceLT, Int.reduceLE] at h0); refine kp [0] ?_; refine runs_region ?_; refine o1 (mv ?_); refine o1 (mv ?_)
    refine oc (T := fun _ => False) (op_to_unsafe up58 uu114 ti61 rfl rfl rfl rfl rfl rfl rfl ?_); refine oc (T := fun _ => False) (op_same noesc rfl rfl rfl rfl ?_)
    refine oc (T := fun _ => False) (op_from_unsafe uu114 up58 ti61 rfl (by kernel_rfl) rfl rfl rfl rfl rfl rfl ?_); refine o1 (ncb ?_); refine o1 (fdb ti61 ?_); refine oc (sto ti58 ?_); refine ops_nil ?_; refine fin_normal ?_
    refine fin_od (l := []) rfl rfl ([0, 1]) ([.cells [.blk 0 0, .own 1 1 (bytesD s)] 61, .row 5 1]) rfl rfl rfl ?_ ?_
    · repeat (first | exact boz | refine boc ?_ | refine bor ?_)
    · exact ⟨rfl, rfl⟩
  | true =>
    unfold bldO bldA
    dsimp only [cond_true, cond_false]
    refine triS_of_runs Tryd.func64 rfl Tryd.ntmps64 (rs := []) rfl rfl rfl 2 rfl ?_
    refine sr ?_; refine o1 (mv ?_); refine o1 (ncb ?_); refine o1 (fdb ti61 ?_); refine o1 (ldb ti58 ?_); refine o1 (f_peql_blk up58 ?_); refine nx ?_; refine cd (fun h0 => ?_) (fun h0 => ?_)
    · simp only [nrm, Int.reduceEq, Int.reduceNe, Int.reduceLT, Int.reduceLE] at h0
    (try simp only [nrm, Int.reduceEq, Int.reduceNe, Int.reduceLT, Int.reduceLE] at h0); refine kp [0] ?_; refine sr ?_; refine o1 (mv ?_); refine o1 (ncb ?_); refine o1 (fdb ti61 ?_); refine o1 (ldb ti58 ?_); refine o1 (mv ?_)
    refine o1 (f_pneq_self up58 ti61 ?_); refine nx ?_; refine cd (fun h2 => ?_) (fun h2 => ?_)
    · simp only [nrm, Int.reduceEq, Int.reduceNe, Int.reduceLT, Int.reduceLE] at h2
    (try simp only [nrm, Int.reduceEq, Int.reduceNe, Int.reduceLT, Int.reduceLE] at h2); refine runs_skip ?_; refine fin_normal ?_
    refine fin_od (l := []) rfl rfl ([0, 1]) ([.cells [.blk 0 0, .own 1 1 (bytesD s)] 61, .row 5 1]) rfl rfl rfl ?_ ?_
    · repeat (first | exact boz | refine boc ?_ | refine bor ?_)
    · exact ⟨rfl, rfl⟩

theorem ws_spec (used : Bool) (s t : ByteArray) (ht : t ≠ .empty) (hb : s.size + t.size ≤ 70368744177664) :
    Tri Tryd.prog gl 38 (bldO used s) [.blk 0 0, .d (.v (.string t))] fun out ob' => out = .ret (.d (.tup [.v (.int .i64 t.size), .v .nilIface])) ∧ ob' = bldO true (s ++ t) := by
  have hck := check_spec (gl := gl) used s
  cases used
  all_goals (
    unfold bldO bldA
    dsimp only [cond_true, cond_false]
    refine triS_of_runs Tryd.func38 rfl Tryd.ntmps38 (rs := [.tmp 4, .tmp 5]) rfl rfl rfl 2 rfl ?_
    refine sr ?_; refine o1 (asg ?_); refine o1 (asg ?_); refine nx ?_; refine sr ?_; refine o1 (mv ?_); refine oc (ck ca64 rfl rfl (hck) [0, 1] rfl (boc (bor .nil)) (fir .nil) ?_); refine nx ?_; refine kp [0, 1] ?_; refine sr ?_
    refine o1 (mv ?_); refine o1 (mv ?_); refine o1 (ncb ?_); refine o1 (fdb ti61 ?_); refine o1 (ldb ti59 ?_); refine o1 (mv ?_); refine oc (op_appends sl59 ut9 rfl rfl rfl rfl rfl rfl (.inl rfl) (ht) (by omega) rfl rfl rfl ?_)
    refine o1 (ncb ?_); refine o1 (fdb ti61 ?_); refine oc (sto ti59 ?_); refine nx ?_; refine kp [1] ?_; refine sr ?_; refine o1 (mv ?_); refine o1 (le3 ut9 ?_); refine o1 (asg ?_); refine o1 (asg ?_); refine nx ?_; refine runs_ret ?_
    refine fin_ret ?_; refine fin_od ⟨_, _, rfl, rfl, ⟨_, _, rfl, rfl, rfl⟩⟩ rfl ([0, 1]) ([.cells [.blk 0 0, .own 1 1 (bytesD (s ++ t))] 61, .row 5 1]) rfl rfl rfl ?_ ?_
    · repeat (first | exact boz | refine boc ?_ | refine bor ?_)
    · exact ⟨rfl, rfl⟩
  )

theorem bytesD_push (s : ByteArray) (c : UInt8) : bytesD s ++ [[.v (.int .u8 c.toNat)]] = bytesD (s ++ ⟨#[c]⟩) := by
  rw [← bytesD_app]; rfl

theorem wb_spec (used : Bool) (s : ByteArray) (c : UInt8) (hb : s.size ≤ 70368744177664) :
    Tri Tryd.prog gl 52 (bldO used s) [.blk 0 0, .d (.v (.int .u8 c.toNat))] fun out ob' => out = .ret (.d (.v .nilIface)) ∧ ob' = bldO true (s ++ ⟨#[c]⟩) := by
  have hl := bytesD_len s
  have hck := check_spec (gl := gl) used s
  cases used
  all_goals (
    unfold bldO bldA
    dsimp only [cond_true, cond_false]
    refine triS_of_runs Tryd.func52 rfl Tryd.ntmps52 (rs := [.tmp 4]) rfl rfl rfl 2 rfl ?_
    refine sr ?_; refine o1 (asg ?_); refine nx ?_; refine sr ?_; refine o1 (mv ?_); refine oc (ck ca64 rfl rfl (hck) [0, 1] rfl (boc (bor .nil)) (fir .nil) ?_); refine nx ?_; refine sr ?_; refine o1 (mv ?_); refine o1 (mv ?_)
    refine o1 (ncb ?_); refine o1 (fdb ti61 ?_); refine o1 (ldb ti59 ?_); refine o1 (mv ?_)
    refine oc (T := fun _ => False) (op_lit sl59 [.tmp 12] ti5 rfl rfl rfl rfl rfl rfl rfl (by decide) (by decide) (by decide) (by simp only [List.length_cons, List.length_nil, Nat.reduceAdd]; rfl) rfl ?_)
    refine oc (op_append sl59 rfl rfl rfl rfl rfl rfl rfl (.inl rfl) (by decide) (by simp) (by simp only [maxLen, hl, List.length_cons, List.length_nil]; omega) rfl rfl rfl ?_); refine o1 (ncb ?_); refine o1 (fdb ti61 ?_)
    refine oc (sto ti59 ?_); refine nx ?_; refine kp [] ?_; refine sr ?_; refine o1 (asg ?_); refine nx ?_; refine runs_ret ?_; refine fin_ret ?_
    refine fin_od ⟨_, _, rfl, rfl, rfl⟩ rfl ([0, 1]) ([.cells [.blk 0 0, .own 1 1 (bytesD s ++ [[.v (.int .u8 c.toNat)]])] 61, .row 5 1]) rfl rfl rfl ?_ ?_
    · repeat (first | exact boz | refine boc ?_ | refine bor ?_)
    · exact ⟨rfl, by rw [bytesD_push]⟩
  )

theorem bstr_spec (s : ByteArray) (hs : s ≠ .empty) :
    Tri Tryd.prog gl 23 (bldO true s) [.blk 0 0] fun out ob' => out = .ret (.d (.v (.string s))) ∧ ob' = [.dead, .dead] := by
  have hl := bytesD_len s
  have hne := bytesD_ne hs
  unfold bldO
  refine triS_of_runs Tryd.func23 rfl Tryd.ntmps23 (rs := [.tmp 2]) rfl rfl rfl 2 rfl ?_
  refine sr ?_; refine o1 (asg ?_); refine nx ?_; refine runs_seq ?_; refine a_start ?_ (hm := by exact mixed); refine A1 0 rfl (mv ⟨_, rfl, ?_⟩); refine A1 1 rfl (ncb ⟨_, rfl, ?_⟩); refine A1 2 rfl (fdb ti61 ⟨_, rfl, ?_⟩)
  refine A1 3 rfl (ldb ti59 ⟨_, rfl, ?_⟩); refine A1 4 rfl (f_usd ⟨_, rfl, ?_⟩ (hne := by exact hne)); refine A1 5 rfl (mv ⟨_, rfl, ?_⟩); refine A1 6 rfl (ncb ⟨_, rfl, ?_⟩); refine A1 7 rfl (fdb ti61 ⟨_, rfl, ?_⟩)
  refine A1 8 rfl (ldb ti59 ⟨_, rfl, ?_⟩); refine A1 9 rfl (le2 us59 ⟨_, rfl, ?_⟩); refine A2 10 rfl (op_ustr (u := 6) up98 (by kernel_rfl) rfl rfl rfl rfl rfl rfl rfl hs (by rw [hl]) rfl rfl ?_); refine A1 11 rfl (asg ⟨_, rfl, ?_⟩)
  refine a_end ?_; refine seq_normal ?_; refine runs_ret ?_; refine fin_ret ?_; refine fin_od ⟨_, _, rfl, rfl, rfl⟩ rfl ([0, 1]) ([.dead, .dead]) rfl rfl rfl ?_ ?_
  · repeat (first | exact boz | refine bod ?_)
  · exact ⟨rfl, rfl⟩
end Go.Proofs.YtneaancanfpdhaaDoor
namespace Go.Proofs.YtneaancanfpdhaaDoor
open Go Go.Vd Go.RowKit
attribute [local irreducible] Runs OpsR OpR FloatR AnyR
variable {gl : Nat → List D}

def word (k : Int) : ByteArray := if k = 1 then ⟨#[115]⟩ else if k = 2 then ⟨#[109, 97, 120]⟩ else if k = 3 then ⟨#[105, 109, 97, 120]⟩ else .empty
def wordsD : List D := [.v (.string .empty), .v (.string ⟨#[115]⟩), .v (.string ⟨#[109, 97, 120]⟩), .v (.string ⟨#[105, 109, 97, 120]⟩)]
theorem word_at {k : Int} (h0 : 0 ≤ k) (h1 : k < 4) (hw : gl 2 = wordsD) : ∃ r, dropO (k.toNat * 1) (gl 2) = some (.v (.string (word k)) :: r) := by
  rw [hw]
  have : k = 0 ∨ k = 1 ∨ k = 2 ∨ k = 3 := by omega
  rcases this with rfl | rfl | rfl | rfl <;> exact ⟨_, rfl⟩
theorem word_size (k : Int) : (word k).size ≤ 4 := by
  unfold word; split
  · decide
  · split
    · decide
    · split <;> decide

mutual
def wr : Lvl → ByteArray
  | .mk k s args => if k = 0 then ⟨#[48]⟩ else if k = 4 then s else ⟨#[40]⟩ ++ word k ++ wrL args ++ ⟨#[41]⟩
def wrL : List Lvl → ByteArray
  | [] => .empty
  | l :: r => ⟨#[32]⟩ ++ wr l ++ wrL r
end
theorem wrL_append (l m : List Lvl) : wrL (l ++ m) = wrL l ++ wrL m := by
  induction l with
  | nil => simp [wrL]
  | cons a r ih => simp only [List.cons_append, wrL, ih, ByteArray.append_assoc]
theorem wrL_take {l : List Lvl} {i : Nat} {a : Lvl} (h : l[i]? = some a) : wrL (l.take (i + 1)) = wrL (l.take i) ++ ⟨#[32]⟩ ++ wr a := by
  rw [List.take_add_one, h]; simp [wrL_append, wrL, ByteArray.append_assoc]
theorem wrL_take_le (l : List Lvl) (i : Nat) : (wrL (l.take i)).size ≤ (wrL l).size := by
  have : wrL l = wrL (l.take i) ++ wrL (l.drop i) := by rw [← wrL_append, List.take_append_drop]
  rw [this, ByteArray.size_append]; omega
theorem fit_get : ∀ {ls : List Lvl} {i : Nat} {l : Lvl}, fitL ls → ls[i]? = some l → fitP l
  | [], i, l, _, h => by simp at h
  | a :: r, 0, l, hf, h => by simp at h; subst h; exact hf.1
  | a :: r, i + 1, l, hf, h => fit_get hf.2 (by simpa using h)

theorem write_spec (hw : gl 2 = wordsD) : ∀ (n : Nat) (k : Int) (s : ByteArray) (args : List Lvl) (used : Bool) (b : ByteArray), (Lvl.mk k s args).size ≤ n → (Lvl.mk k s args).size ≤ 1099511627776 → fitP (Lvl.mk k s args) → b.size + (wr (.mk k s args)).size ≤ 35184372088832 →
    Tri Tryd.prog gl 69 (bldO used b) [.blk 0 0, .d (Lvl.mk k s args).d] fun out ob' => out = .ret (.d (.tup [])) ∧ ob' = bldO true (b ++ wr (.mk k s args)) := by
  intro n
  induction n with
  | zero => intro k s args used b h; simp [Lvl.size] at h
  | succ n ih =>
    intro k s args used b hn hb hf hsize
    have hsz : sizes args ≤ n := by simp [Lvl.size] at hn; omega
    have hlen := lvls_len args
    have hlb := lvls_size args
    simp only [Lvl.size] at hb
    obtain ⟨hf0, hf4, hfs, hfa⟩ := hf
    have hws := word_size k
    by_cases hk0 : k = 0
    · subst hk0
      have hck := ws_spec (gl := gl) used b ⟨#[48]⟩ (by decide) (by simp [size_mk]; omega)
      rw [show wr (.mk 0 s args) = ⟨#[48]⟩ by simp [wr]]
      cases used
      all_goals (
        unfold bldO bldA
        dsimp only [cond_true, cond_false]
        refine triS_of_runs Tryd.func69 rfl Tryd.ntmps69 (rs := []) rfl rfl rfl 2 rfl ?_
        refine sr ?_; refine oc (T := fun _ => False) (bx ti90 ?_ (hl := by simp only [List.length_cons, List.length_nil, Nat.reduceAdd]; rfl)); refine nx ?_; refine sr ?_; refine o1 (fdb ti90 ?_); refine o1 (ldb ti3 ?_); refine nx ?_
        refine runs_block ?_; refine sr ?_; refine o1 (ieq ?_); refine o1 (asg ?_); refine nx ?_; refine cdf (fun h10 => ?_) (fun h10 => ?_)
        · simp only [nrm, Int.reduceEq, Int.reduceNe, Int.reduceLT, Int.reduceLE] at h10
        (try simp only [nrm, Int.reduceEq, Int.reduceNe, Int.reduceLT, Int.reduceLE] at h10); refine kp [0] ?_; refine runs_region ?_; refine o1 (mv ?_); refine oc (ck ca38 rfl rfl (hck) [0, 1] rfl (boc (bor .nil)) (fir (fir .nil)) ?_)
        refine ops_nil ?_; refine inb_normal ?_; refine fin_normal ?_; refine fin_od (l := []) rfl rfl ([0, 1]) (bldO true (b ++ ⟨#[48]⟩)) rfl rfl rfl ?_ ?_
        · repeat (first | exact boz | refine boc ?_ | refine bor ?_)
        · exact ⟨rfl, rfl⟩
      )
    by_cases hk4 : k = 4
    · subst hk4
      rw [show wr (.mk 4 s args) = s by simp [wr]] at hsize ⊢
      have hck := ws_spec (gl := gl) used b s (hfs rfl) (by omega)
      cases used
      all_goals (
        unfold bldO bldA
        dsimp only [cond_true, cond_false]
        refine triS_of_runs Tryd.func69 rfl Tryd.ntmps69 (rs := []) rfl rfl rfl 2 rfl ?_
        refine sr ?_; refine oc (T := fun _ => False) (bx ti90 ?_ (hl := by simp only [List.length_cons, List.length_nil, Nat.reduceAdd]; rfl)); refine nx ?_; refine sr ?_; refine o1 (fdb ti90 ?_); refine o1 (ldb ti3 ?_); refine nx ?_
        refine runs_block ?_; refine sr ?_; refine o1 (ieq ?_); refine o1 (asg ?_); refine nx ?_; refine cd (fun h10 => ?_) (fun h10 => ?_)
        · simp only [nrm, Int.reduceEq, Int.reduceNe, Int.reduceLT, Int.reduceLE] at h10
        (try simp only [nrm, Int.reduceEq, Int.reduceNe, Int.reduceLT, Int.reduceLE] at h10); refine kp [7, 3, 0] ?_; refine sr ?_; refine o1 (ieq ?_); refine o1 (asg ?_); refine nx ?_; refine cdf (fun h12 => ?_) (fun h12 => ?_)
        · simp only [nrm, Int.reduceEq, Int.reduceNe, Int.reduceLT, Int.reduceLE] at h12
        (try simp only [nrm, Int.reduceEq, Int.reduceNe, Int.reduceLT, Int.reduceLE] at h12); refine runs_region ?_; refine o1 (mv ?_); refine o1 (fdb ti90 ?_); refine o1 (ldb ti9 ?_)
        refine oc (ck ca38 rfl rfl (hck) [0, 1] rfl (boc (bor .nil)) (fir (fir .nil)) ?_); refine ops_nil ?_; refine inb_normal ?_; refine fin_normal ?_; refine fin_od (l := []) rfl rfl ([0, 1]) (bldO true (b ++ s)) rfl rfl rfl ?_ ?_
        · repeat (first | exact boz | refine boc ?_ | refine bor ?_)
        · exact ⟨rfl, rfl⟩
      )
    have hwr : wr (.mk k s args) = ⟨#[40]⟩ ++ word k ++ wrL args ++ ⟨#[41]⟩ := by simp only [wr, if_neg hk0, if_neg hk4]
    rw [hwr] at hsize ⊢
    simp only [ByteArray.size_append, size_mk, List.size_toArray, List.length_cons, List.length_nil] at hsize
    obtain ⟨rr, hat⟩ := word_at (gl := gl) hf0 (show k < 4 by omega) hw
    have hck := ws_spec (gl := gl) used b (⟨#[40]⟩ ++ word k) (fun e => by have := congrArg ByteArray.size e; simp only [ByteArray.size_append, size_mk, List.size_toArray, List.length_cons, List.length_nil, ByteArray.size_empty] at this; omega) (by simp only [ByteArray.size_append, size_mk, List.size_toArray, List.length_cons, List.length_nil]; omega)
    cases used
    all_goals (
      unfold bldO bldA
      dsimp only [cond_true, cond_false]
      refine triS_of_runs Tryd.func69 rfl Tryd.ntmps69 (rs := []) rfl rfl rfl 2 rfl ?_
      refine sr ?_; refine oc (T := fun _ => False) (bx ti90 ?_ (hl := by simp only [List.length_cons, List.length_nil, Nat.reduceAdd]; rfl)); refine nx ?_; refine sr ?_; refine o1 (fdb ti90 ?_); refine o1 (ldb ti3 ?_); refine nx ?_
      refine runs_block ?_; refine sr ?_; refine o1 (ieq ?_); refine o1 (asg ?_); refine nx ?_; refine cd (fun h10 => ?_) (fun h10 => ?_)
      · (try simp only [nrm, Int.reduceEq, Int.reduceNe, Int.reduceLT, Int.reduceLE] at h10); contradiction
      (try simp only [nrm, Int.reduceEq, Int.reduceNe, Int.reduceLT, Int.reduceLE] at h10); refine kp [7, 3, 0] ?_; refine sr ?_; refine o1 (ieq ?_); refine o1 (asg ?_); refine nx ?_; refine cd (fun h12 => ?_) (fun h12 => ?_)
      · (try simp only [nrm, Int.reduceEq, Int.reduceNe, Int.reduceLT, Int.reduceLE] at h12); contradiction
      (try simp only [nrm, Int.reduceEq, Int.reduceNe, Int.reduceLT, Int.reduceLE] at h12); refine sr ?_; refine o1 (mv ?_); refine o1 (fdb ti90 ?_); refine o1 (ldb ti3 ?_); refine o1 (f_index_arr ua117 ti9 ?_ (hl := by exact (hat)))
      refine o1 (ldc ti9 ?_); refine o1 (f_sadd ?_ (hb := by (try simp only [ByteArray.size_append, size_mk, List.size_toArray, List.length_cons, List.length_nil]); omega))
      refine oc (ck ca38 rfl rfl (hck) [0, 1] rfl (boc (bor .nil)) (fir (fir .nil)) ?_); refine nx ?_; refine runs_seq ?_; refine kp [3, 0] ?_; refine sr ?_; refine o1 (fdb ti90 ?_); refine o1 (ldb ti26 ?_); refine o1 (le1 us26 ?_)
      refine o1 (mv ?_); refine nx ?_; refine runs_block ?_; refine kp [18, 17, 16, 0] ?_
      rw [show b ++ (⟨#[40]⟩ ++ word k) = b ++ (⟨#[40]⟩ ++ word k) ++ wrL (args.take 0) by simp [wrL]]
      apply runs_loop_o (ι := Nat) (fun i => [(18, int i)]) (fun i => [.cells [.blk 0 0, .own 1 1 (bytesD (b ++ (⟨#[40]⟩ ++ word k) ++ wrL (args.take i)))] 61, .row 5 1, .cells [.d (.v (.int .i64 k)), .d (.v (.string s)), .d (.sl 3 (lvls args))] 90]) [17, 16, 0] (fun i => i ≤ args.length) (fun i => args.length - i) (0) ([0, 1, 2])
      case hk => exact rfl
      case hI =>
        exact Nat.zero_le _
      case hm =>
        refine mo ?_ (sly (sly (sly (sly slz))))
        repeat (first | exact boz | refine boc ?_ | refine bor ?_)
      case h =>
        rintro i hinv
        try dsimp only at hinv
        refine kp [18, 17, 16, 0] ?_; refine sr ?_; refine o1 (ilt ?_); refine nx ?_; refine runs_seq ?_; refine cdf (fun h4 => ?_) (fun h4 => ?_)
        · (try simp only [nrm, Int.reduceEq, Int.reduceNe, Int.reduceLT, Int.reduceLE] at h4)
          refine runs_exit ?_; refine seq_exit ?_; refine seq_exit ?_; refine inb_exit ?_; refine seq_normal ?_; refine kp [0] ?_
          have hsl := wrL_take_le args i
          refine runs_region ?_; refine o1 (mv ?_)
          refine oc (ck ca52 rfl rfl (wb_spec true (b ++ (⟨#[40]⟩ ++ word k) ++ wrL (args.take i)) 41 (by simp only [ByteArray.size_append, size_mk, List.size_toArray, List.length_cons, List.length_nil]; omega)) [0, 1] rfl (boc (bor .nil)) (fir (fir .nil)) ?_)
          refine ops_nil ?_; refine inb_normal ?_; refine fin_normal ?_; refine fin_od (l := []) rfl rfl ([0, 1]) (bldO true (b ++ (⟨#[40]⟩ ++ word k) ++ wrL (args.take i) ++ ⟨#[41]⟩)) rfl rfl rfl ?_ ?_
          · repeat (first | exact boz | refine boc ?_ | refine bor ?_)
          · refine ⟨rfl, ?_⟩; rw [List.take_of_length_le (by omega)]; simp only [ByteArray.append_assoc]; rfl
        (try simp only [nrm, Int.reduceEq, Int.reduceNe, Int.reduceLT, Int.reduceLE] at h4); refine runs_skip ?_; refine seq_normal ?_; refine runs_seq ?_; refine runs_block ?_; refine runs_seq ?_
        obtain ⟨k', s', a', hget⟩ := lvl_get (show i < args.length by omega)
        have hsz' := size_get hget
        have hf' := fit_get hfa hget
        have hst := congrArg ByteArray.size (wrL_take hget)
        simp only [ByteArray.size_append, size_mk, List.size_toArray, List.length_cons, List.length_nil] at hst
        have hsl := wrL_take_le args (i + 1)
        refine runs_region ?_; refine o1 (ixs us26 te26 ?_ (he := by exact (lvl_at hget))); refine o1 (ldc ti90 ?_); refine oc (T := fun _ => False) (alc ti90 ?_ (hl := by simp only [List.length_cons, List.length_nil, Nat.reduceAdd]; rfl))
        refine oc (sto ti90 ?_); refine nx ?_; refine sr ?_; refine o1 (mv ?_)
        refine oc (ck ca52 rfl rfl (wb_spec true (b ++ (⟨#[40]⟩ ++ word k) ++ wrL (args.take i)) 32 (by simp only [ByteArray.size_append, size_mk, List.size_toArray, List.length_cons, List.length_nil]; omega)) [0, 1] rfl (boc (bor .nil)) (fir (fir .nil)) ?_)
        refine nx ?_; refine kp [5, 18, 17, 16, 0] ?_; refine runs_region ?_; refine o1 (mv ?_); refine o1 (ldb ti90 ?_)
        refine oc (ck ca69 rfl rfl (ih k' s' a' true (b ++ (⟨#[40]⟩ ++ word k) ++ wrL (args.take i) ++ ⟨#[32]⟩) (by omega) (by omega) hf' (by simp only [ByteArray.size_append, size_mk, List.size_toArray, List.length_cons, List.length_nil]; omega)) [0, 1] rfl (boc (bor .nil)) (fir (fid .nil)) ?_)
        refine ops_nil ?_; refine inb_normal ?_; refine seq_normal ?_; refine kp [18, 17, 16, 0] ?_; refine runs_region ?_; refine o1 (iad ?_); refine o1 (mv ?_); refine ops_nil ?_; refine seq_back ?_
        rw [show b ++ (⟨#[40]⟩ ++ word k) ++ wrL (args.take i) ++ ⟨#[32]⟩ ++ wr (.mk k' s' a') = b ++ (⟨#[40]⟩ ++ word k) ++ wrL (args.take (i + 1)) by rw [wrL_take hget]; simp only [ByteArray.append_assoc]]
        refine back_c (i + 1) rfl ?_ ([0, 1, 2]) ?_
        · exact ⟨by omega, by omega⟩
        · refine mo ?_ (sly (sly (sly (sly slz))))
          repeat (first | exact boz | refine boc ?_ | refine bor ?_)
    )

theorem wr_ne {k : Int} {s : ByteArray} {args : List Lvl} (h : fitP (.mk k s args)) : wr (.mk k s args) ≠ .empty := by
  simp only [wr]
  split
  · decide
  · split
    · rename_i h4; exact h.2.2.1 h4
    · intro e
      have := congrArg ByteArray.size e
      simp only [ByteArray.size_append, size_mk, List.size_toArray, List.length_cons, List.length_nil, ByteArray.size_empty] at this; omega

theorem pprint_spec (hw : gl 2 = wordsD) (k : Int) (s : ByteArray) (args : List Lvl) (hb : (Lvl.mk k s args).size ≤ 1099511627776) (hf : fitP (.mk k s args)) (hs : (wr (.mk k s args)).size ≤ 35184372088832) :
    TriD Tryd.prog gl 51 [(Lvl.mk k s args).d] (· = .v (.string (wr (.mk k s args)))) := by
  have hwe := write_spec (gl := gl) hw _ k s args false .empty (Nat.le_refl _) hb hf (by simpa using hs)
  rw [ByteArray.empty_append] at hwe
  refine triD_of_runs Tryd.func51 rfl Tryd.ntmps51 (rs := [.tmp 2]) rfl rfl rfl ?_
  refine sr ?_; refine oc (T := fun _ => False) (bx ti90 ?_ (hl := by simp only [List.length_cons, List.length_nil, Nat.reduceAdd]; rfl)); refine o1 (asg ?_); refine nx ?_; refine sr ?_
  refine oc (T := fun _ => False) (alc ti61 ?_ (hl := by simp only [List.length_cons, List.length_nil, Nat.reduceAdd]; rfl)); refine nx ?_; refine runs_seq ?_; refine runs_nilrow 5 1 rfl ?_; refine runs_region ?_; refine o1 (ldb ti90 ?_)
  refine oc (ck ca69 rfl rfl (hwe) [1, 2] rfl (.cons rfl (.cells rfl (by repeat (first | exact fiz | refine fir ?_ | refine .cons (.nil rfl) ?_))) (bon .nil)) (fir (fid .nil)) ?_); refine nx ?_; refine kp [3] ?_; refine sr ?_
  refine oc (ck ca23 rfl rfl (bstr_spec (wr (.mk k s args)) (wr_ne hf)) [1, 2] rfl (boc (bor .nil)) (fir .nil) ?_); refine o1 (asg ?_); refine nx ?_; refine runs_ret ?_; refine fin_ret ?_; refine fin_d1 rfl rfl ?_
  rfl

theorem wr_lev : ∀ l : Lev, wr l.toLvl = l.print
  | .zero => by simp [Lev.toLvl, wr, Lev.print]
  | .param s => by simp [Lev.toLvl, wr, Lev.print]
  | .succ a => by
    have h := wr_lev a
    simp only [Lev.toLvl, wr, wrL, Lev.print, h]
    rw [if_neg (by decide), if_neg (by decide), show (⟨#[40, 115, 32]⟩ : ByteArray) = ⟨#[40]⟩ ++ word 1 ++ ⟨#[32]⟩ by rfl]
    simp only [ByteArray.append_assoc, ByteArray.append_empty]
  | .max a b => by
    have h := wr_lev a
    have h2 := wr_lev b
    simp only [Lev.toLvl, wr, wrL, Lev.print, h, h2]
    rw [if_neg (by decide), if_neg (by decide), show (⟨#[109, 97, 120]⟩ : ByteArray) = word 2 by rfl]
    simp only [ByteArray.append_assoc, ByteArray.append_empty]
  | .imax a b => by
    have h := wr_lev a
    have h2 := wr_lev b
    simp only [Lev.toLvl, wr, wrL, Lev.print, h, h2]
    rw [if_neg (by decide), if_neg (by decide), show (⟨#[105, 109, 97, 120]⟩ : ByteArray) = word 3 by rfl]
    simp only [ByteArray.append_assoc, ByteArray.append_empty]
end Go.Proofs.YtneaancanfpdhaaDoor
