/- Tables, printed by gen.py. -/
import Derived.Test.YtboaahlhgekbbaaProg
import Derived.Test.YtboaahlhgekbbaaG06P
import Derived.Test.YtboaahlhgekbbaaSyObj
set_option linter.unusedVariables false
namespace Go.SyP
open Go Go.Sy Go.Proofs

def hold_items.e (x : hold_items) : List DV := [.sl true x.l.length (vec eA 0 x.l)]
def hold_Queue.e (x : hold_Queue) : List DV := [.sl true x.h.l.length (vec eA 0 x.h.l)]
def api_Pair.e (x : api_Pair) : List DV := [.i x.Key, .i x.Val]
def api_Span.e (x : api_Span) : List DV := [.i x.Lo, .i x.Hi]
def api_Mut.e (x : api_Mut) : List DV := [.i x.Client, .i x.Seq, .i x.Kind, .sl true x.Pairs.length (vec api_Pair.e api_Pair.z x.Pairs), .i x.Over.Lo, .i x.Over.Hi, .i x.Old]
def api_Held.e (x : api_Held) : List DV := [.i x.M.Client, .i x.M.Seq, .i x.M.Kind, .sl true x.M.Pairs.length (vec api_Pair.e api_Pair.z x.M.Pairs), .i x.M.Over.Lo, .i x.M.Over.Hi, .i x.M.Old, .i x.Time, .b x.Final]
def hold_item.e (x : hold_item) : List DV := [.i x.h.M.Client, .i x.h.M.Seq, .i x.h.M.Kind, .sl true x.h.M.Pairs.length (vec api_Pair.e api_Pair.z x.h.M.Pairs), .i x.h.M.Over.Lo, .i x.h.M.Over.Hi, .i x.h.M.Old, .i x.h.Time, .b x.h.Final, .i x.at_]
def api_Stamp.e (x : api_Stamp) : List DV := [.i x.Time, .i x.Client, .i x.Seq]
def splicelaw06_Come.e (x : splicelaw06_Come) : List DV := [.i x.M.Client, .i x.M.Seq, .i x.M.Kind, .sl true x.M.Pairs.length (vec api_Pair.e api_Pair.z x.M.Pairs), .i x.M.Over.Lo, .i x.M.Over.Hi, .i x.M.Old, .n .u8 x.More, .b x.Add]
def spliceref04_Pair.e (x : spliceref04_Pair) : List DV := [.i x.Key, .i x.Val]
def spliceref03_Span.e (x : spliceref03_Span) : List DV := [.i x.Lo, .i x.Hi]
def spliceref04_Mut.e (x : spliceref04_Mut) : List DV := [.i x.Client, .i x.Seq, .i x.Kind, .sl true x.Pairs.length (vec spliceref04_Pair.e spliceref04_Pair.z x.Pairs), .i x.Over.Lo, .i x.Over.Hi, .i x.Old]
def spliceref06_Held.e (x : spliceref06_Held) : List DV := [.i x.M.Client, .i x.M.Seq, .i x.M.Kind, .sl true x.M.Pairs.length (vec spliceref04_Pair.e spliceref04_Pair.z x.M.Pairs), .i x.M.Over.Lo, .i x.M.Over.Hi, .i x.M.Old, .i x.Time, .b x.Final]
def splicelaw06_Act.e (x : splicelaw06_Act) : List DV := [.i x.Kind, .i x.H.M.Client, .i x.H.M.Seq, .i x.H.M.Kind, .sl true x.H.M.Pairs.length (vec api_Pair.e api_Pair.z x.H.M.Pairs), .i x.H.M.Over.Lo, .i x.H.M.Over.Hi, .i x.H.M.Old, .i x.H.Time, .b x.H.Final]
def spliceref04_Stamp.e (x : spliceref04_Stamp) : List DV := [.i x.Time, .i x.Client, .i x.Seq]
theorem hold_items.nl (x : hold_items) : NLs (hold_items.e x) := (.cons (.sl fun _ _ => nlA _) .nil)
theorem hold_Queue.nl (x : hold_Queue) : NLs (hold_Queue.e x) := (.cons (.sl fun _ _ => nlA _) .nil)
theorem api_Pair.nl (x : api_Pair) : NLs (api_Pair.e x) := (.cons (.v _) (.cons (.v _) .nil))
theorem api_Span.nl (x : api_Span) : NLs (api_Span.e x) := (.cons (.v _) (.cons (.v _) .nil))
theorem api_Mut.nl (x : api_Mut) : NLs (api_Mut.e x) := (.cons (.v _) (.cons (.v _) (.cons (.v _) (.cons (.sl fun _ _ => api_Pair.nl _) (.cons (.v _) (.cons (.v _) (.cons (.v _) .nil)))))))
theorem api_Held.nl (x : api_Held) : NLs (api_Held.e x) := (.cons (.v _) (.cons (.v _) (.cons (.v _) (.cons (.sl fun _ _ => api_Pair.nl _) (.cons (.v _) (.cons (.v _) (.cons (.v _) (.cons (.v _) (.cons (.v _) .nil)))))))))
theorem hold_item.nl (x : hold_item) : NLs (hold_item.e x) := (.cons (.v _) (.cons (.v _) (.cons (.v _) (.cons (.sl fun _ _ => api_Pair.nl _) (.cons (.v _) (.cons (.v _) (.cons (.v _) (.cons (.v _) (.cons (.v _) (.cons (.v _) .nil))))))))))
theorem api_Stamp.nl (x : api_Stamp) : NLs (api_Stamp.e x) := (.cons (.v _) (.cons (.v _) (.cons (.v _) .nil)))
theorem splicelaw06_Come.nl (x : splicelaw06_Come) : NLs (splicelaw06_Come.e x) := (.cons (.v _) (.cons (.v _) (.cons (.v _) (.cons (.sl fun _ _ => api_Pair.nl _) (.cons (.v _) (.cons (.v _) (.cons (.v _) (.cons (.v _) (.cons (.v _) .nil)))))))))
theorem spliceref04_Pair.nl (x : spliceref04_Pair) : NLs (spliceref04_Pair.e x) := (.cons (.v _) (.cons (.v _) .nil))
theorem spliceref03_Span.nl (x : spliceref03_Span) : NLs (spliceref03_Span.e x) := (.cons (.v _) (.cons (.v _) .nil))
theorem spliceref04_Mut.nl (x : spliceref04_Mut) : NLs (spliceref04_Mut.e x) := (.cons (.v _) (.cons (.v _) (.cons (.v _) (.cons (.sl fun _ _ => spliceref04_Pair.nl _) (.cons (.v _) (.cons (.v _) (.cons (.v _) .nil)))))))
theorem spliceref06_Held.nl (x : spliceref06_Held) : NLs (spliceref06_Held.e x) := (.cons (.v _) (.cons (.v _) (.cons (.v _) (.cons (.sl fun _ _ => spliceref04_Pair.nl _) (.cons (.v _) (.cons (.v _) (.cons (.v _) (.cons (.v _) (.cons (.v _) .nil)))))))))
theorem splicelaw06_Act.nl (x : splicelaw06_Act) : NLs (splicelaw06_Act.e x) := (.cons (.v _) (.cons (.v _) (.cons (.v _) (.cons (.v _) (.cons (.sl fun _ _ => api_Pair.nl _) (.cons (.v _) (.cons (.v _) (.cons (.v _) (.cons (.v _) (.cons (.v _) .nil))))))))))
theorem spliceref04_Stamp.nl (x : spliceref04_Stamp) : NLs (spliceref04_Stamp.e x) := (.cons (.v _) (.cons (.v _) (.cons (.v _) .nil)))
def T : Tab where
  info := [(3, (1, 8, [.int .i64 0])), (4, (1, 1, [.bool false])), (5, (1, 1, [.int .u8 0])), (23, (1, 8, [.pointer none])), (26, (1, 24, [.slice none 0 0])), (28, (2, 16, [.int .i64 0, .int .i64 0])), (30, (7, 72, [.int .i64 0, .int .i64 0, .int .i64 0, .slice none 0 0, .int .i64 0, .int .i64 0, .int .i64 0])), (32, (9, 88, [.int .i64 0, .int .i64 0, .int .i64 0, .slice none 0 0, .int .i64 0, .int .i64 0, .int .i64 0, .int .i64 0, .bool false])), (37, (3, 24, [.int .i64 0, .int .i64 0, .int .i64 0])), (46, (1, 24, [.slice none 0 0])), (48, (4, 48, [.pointer none, .int .i64 0, .slice none 0 0, .int .i64 0])), (50, (9, 80, [.int .i64 0, .int .i64 0, .int .i64 0, .slice none 0 0, .int .i64 0, .int .i64 0, .int .i64 0, .int .u8 0, .bool false])), (60, (1, 24, [.slice none 0 0])), (61, (2, 16, [.int .i64 0, .int .i64 0])), (63, (7, 72, [.int .i64 0, .int .i64 0, .int .i64 0, .slice none 0 0, .int .i64 0, .int .i64 0, .int .i64 0])), (65, (9, 88, [.int .i64 0, .int .i64 0, .int .i64 0, .slice none 0 0, .int .i64 0, .int .i64 0, .int .i64 0, .int .i64 0, .bool false])), (70, (2, 16, [.int .i64 0, .int .i64 0])), (76, (10, 96, [.int .i64 0, .int .i64 0, .int .i64 0, .int .i64 0, .slice none 0 0, .int .i64 0, .int .i64 0, .int .i64 0, .int .i64 0, .bool false])), (82, (1, 24, [.slice none 0 0])), (84, (1, 24, [.slice none 0 0])), (86, (1, 24, [.slice none 0 0])), (89, (1, 8, [.pointer none])), (95, (10, 96, [.int .i64 0, .int .i64 0, .int .i64 0, .slice none 0 0, .int .i64 0, .int .i64 0, .int .i64 0, .int .i64 0, .bool false, .int .i64 0])), (108, (1, 8, [.nilFunc])), (131, (2, 16, [.int .i64 0, .int .i64 0])), (149, (3, 24, [.int .i64 0, .int .i64 0, .int .i64 0]))]
  aggs := [(3, false), (4, false), (5, false), (23, false), (26, false), (28, true), (30, true), (32, true), (37, true), (46, false), (48, true), (50, true), (60, false), (61, true), (63, true), (65, true), (70, true), (76, true), (82, false), (84, true), (86, true), (89, false), (95, true), (108, false), (131, true), (149, true)]
  flds := [((28, 0), (0, 3)), ((28, 1), (1, 3)), ((30, 0), (0, 3)), ((30, 1), (1, 3)), ((30, 2), (2, 3)), ((30, 3), (3, 26)), ((30, 4), (4, 28)), ((30, 5), (6, 3)), ((32, 0), (0, 30)), ((32, 1), (7, 3)), ((32, 2), (8, 4)), ((37, 0), (0, 3)), ((37, 1), (1, 3)), ((37, 2), (2, 3)), ((48, 0), (0, 23)), ((48, 1), (1, 3)), ((48, 2), (2, 46)), ((48, 3), (3, 3)), ((50, 0), (0, 30)), ((50, 1), (7, 5)), ((50, 2), (8, 4)), ((61, 0), (0, 3)), ((61, 1), (1, 3)), ((63, 0), (0, 3)), ((63, 1), (1, 3)), ((63, 2), (2, 3)), ((63, 3), (3, 60)), ((63, 4), (4, 61)), ((63, 5), (6, 3)), ((65, 0), (0, 63)), ((65, 1), (7, 3)), ((65, 2), (8, 4)), ((70, 0), (0, 3)), ((70, 1), (1, 3)), ((76, 0), (0, 3)), ((76, 1), (1, 32)), ((84, 0), (0, 82)), ((86, 0), (0, 84)), ((95, 0), (0, 32)), ((95, 1), (9, 3)), ((131, 0), (0, 3)), ((131, 1), (1, 3)), ((149, 0), (0, 3)), ((149, 1), (1, 3)), ((149, 2), (2, 3))]
  slices := [(22, 32), (26, 70), (44, 50), (46, 37), (57, 65), (60, 131), (73, 76), (82, 89), (127, 3)]
  strs := []
  ints := [(3, .i64)]
  arrs := []
  has := [5]
  ptrs := [(23, 86), (89, 95), (92, 84)]
  bools := [4]
  strts := [(28, [(0, 1), (1, 1)]), (30, [(0, 1), (1, 1), (2, 1), (3, 1), (4, 2), (6, 1)]), (32, [(0, 7), (7, 1), (8, 1)]), (37, [(0, 1), (1, 1), (2, 1)]), (48, [(0, 1), (1, 1), (2, 1), (3, 1)]), (63, [(0, 1), (1, 1), (2, 1), (3, 1), (4, 2), (6, 1)]), (65, [(0, 7), (7, 1), (8, 1)]), (86, [(0, 1)]), (95, [(0, 9), (9, 1)]), (149, [(0, 1), (1, 1), (2, 1)])]
  eqs := [(28, [0, 0]), (61, [0, 0]), (131, [0, 0])]
theorem mixed : Try.prog.follows .mixedOrders = true := by kernel_rfl
theorem tok : TabOk Try.prog T := ⟨by kernel_rfl, by kernel_rfl, by kernel_rfl, by kernel_rfl, by kernel_rfl, by kernel_rfl, by kernel_rfl, by kernel_rfl, by kernel_rfl, by kernel_rfl, by kernel_rfl, by kernel_rfl⟩
abbrev eL3 (t : Bool) (xs : List Int) : DV := .sl t xs.length (vec (eI .i64) 0 xs)
abbrev eL32 (t : Bool) (xs : List api_Held) : DV := .sl t xs.length (vec api_Held.e api_Held.z xs)
abbrev eL50 (t : Bool) (xs : List splicelaw06_Come) : DV := .sl t xs.length (vec splicelaw06_Come.e splicelaw06_Come.z xs)
abbrev eL65 (t : Bool) (xs : List spliceref06_Held) : DV := .sl t xs.length (vec spliceref06_Held.e spliceref06_Held.z xs)
abbrev eL70 (t : Bool) (xs : List api_Pair) : DV := .sl t xs.length (vec api_Pair.e api_Pair.z xs)
abbrev eL76 (t : Bool) (xs : List splicelaw06_Act) : DV := .sl t xs.length (vec splicelaw06_Act.e splicelaw06_Act.z xs)
abbrev eL89 (t : Bool) (xs : List Nat) : DV := .sl t xs.length (vec eA 0 xs)
abbrev eL131 (t : Bool) (xs : List spliceref04_Pair) : DV := .sl t xs.length (vec spliceref04_Pair.e spliceref04_Pair.z xs)
abbrev eP3 (t : Bool) (xs : List Int) (i off : Nat) : DV := .rop t xs.length (vec (eI .i64) 0 xs) i off
abbrev eP32 (t : Bool) (xs : List api_Held) (i off : Nat) : DV := .rop t xs.length (vec api_Held.e api_Held.z xs) i off
abbrev eP50 (t : Bool) (xs : List splicelaw06_Come) (i off : Nat) : DV := .rop t xs.length (vec splicelaw06_Come.e splicelaw06_Come.z xs) i off
abbrev eP65 (t : Bool) (xs : List spliceref06_Held) (i off : Nat) : DV := .rop t xs.length (vec spliceref06_Held.e spliceref06_Held.z xs) i off
abbrev eP70 (t : Bool) (xs : List api_Pair) (i off : Nat) : DV := .rop t xs.length (vec api_Pair.e api_Pair.z xs) i off
abbrev eP76 (t : Bool) (xs : List splicelaw06_Act) (i off : Nat) : DV := .rop t xs.length (vec splicelaw06_Act.e splicelaw06_Act.z xs) i off
abbrev eP131 (t : Bool) (xs : List spliceref04_Pair) (i off : Nat) : DV := .rop t xs.length (vec spliceref04_Pair.e spliceref04_Pair.z xs) i off
abbrev eR3 (xs : List Int) : Row := .flat false 1 3 xs.length (vec (eI .i64) 0 xs)
abbrev eR32 (xs : List api_Held) : Row := .flat false 9 32 xs.length (vec api_Held.e api_Held.z xs)
abbrev eR37 (xs : List api_Stamp) : Row := .flat false 3 37 xs.length (vec api_Stamp.e api_Stamp.z xs)
abbrev eR65 (xs : List spliceref06_Held) : Row := .flat false 9 65 xs.length (vec spliceref06_Held.e spliceref06_Held.z xs)
abbrev eR70 (xs : List api_Pair) : Row := .flat false 2 70 xs.length (vec api_Pair.e api_Pair.z xs)
abbrev eR89 (xs : List Nat) : Row := .flat false 1 89 xs.length (vec eA 0 xs)
abbrev eR131 (xs : List spliceref04_Pair) : Row := .flat false 2 131 xs.length (vec spliceref04_Pair.e spliceref04_Pair.z xs)
abbrev eF65 (xs : List spliceref06_Held) : Row := .flat true 9 65 xs.length (vec spliceref06_Held.e spliceref06_Held.z xs)
abbrev eF70 (xs : List api_Pair) : Row := .flat true 2 70 xs.length (vec api_Pair.e api_Pair.z xs)
abbrev eF131 (xs : List spliceref04_Pair) : Row := .flat true 2 131 xs.length (vec spliceref04_Pair.e spliceref04_Pair.z xs)
abbrev eG28 (x : api_Span) : DV := .agg (api_Span.e x)
abbrev eG30 (x : api_Mut) : DV := .agg (api_Mut.e x)
abbrev eG32 (x : api_Held) : DV := .agg (api_Held.e x)
abbrev eG37 (x : api_Stamp) : DV := .agg (api_Stamp.e x)
abbrev eG61 (x : spliceref03_Span) : DV := .agg (spliceref03_Span.e x)
abbrev eG63 (x : spliceref04_Mut) : DV := .agg (spliceref04_Mut.e x)
abbrev eG65 (x : spliceref06_Held) : DV := .agg (spliceref06_Held.e x)
abbrev eG70 (x : api_Pair) : DV := .agg (api_Pair.e x)
abbrev eG76 (x : splicelaw06_Act) : DV := .agg (splicelaw06_Act.e x)
abbrev eG131 (x : spliceref04_Pair) : DV := .agg (spliceref04_Pair.e x)
abbrev eG149 (x : spliceref04_Stamp) : DV := .agg (spliceref04_Stamp.e x)
abbrev eC28 (x : api_Span) : List AV := [.i x.Lo, .i x.Hi]
abbrev eC30 (x : api_Mut) : List AV := [.i x.Client, .i x.Seq, .i x.Kind, .d (eL70 true x.Pairs), .i x.Over.Lo, .i x.Over.Hi, .i x.Old]
abbrev eC32 (x : api_Held) : List AV := [.i x.M.Client, .i x.M.Seq, .i x.M.Kind, .d (eL70 true x.M.Pairs), .i x.M.Over.Lo, .i x.M.Over.Hi, .i x.M.Old, .i x.Time, .b x.Final]
abbrev eC37 (x : api_Stamp) : List AV := [.i x.Time, .i x.Client, .i x.Seq]
abbrev eC61 (x : spliceref03_Span) : List AV := [.i x.Lo, .i x.Hi]
abbrev eC63 (x : spliceref04_Mut) : List AV := [.i x.Client, .i x.Seq, .i x.Kind, .d (eL131 true x.Pairs), .i x.Over.Lo, .i x.Over.Hi, .i x.Old]
abbrev eC65 (x : spliceref06_Held) : List AV := [.i x.M.Client, .i x.M.Seq, .i x.M.Kind, .d (eL131 true x.M.Pairs), .i x.M.Over.Lo, .i x.M.Over.Hi, .i x.M.Old, .i x.Time, .b x.Final]
abbrev eC70 (x : api_Pair) : List AV := [.i x.Key, .i x.Val]
abbrev eC76 (x : splicelaw06_Act) : List AV := [.i x.Kind, .i x.H.M.Client, .i x.H.M.Seq, .i x.H.M.Kind, .d (eL70 true x.H.M.Pairs), .i x.H.M.Over.Lo, .i x.H.M.Over.Hi, .i x.H.M.Old, .i x.H.Time, .b x.H.Final]
abbrev eC149 (x : spliceref04_Stamp) : List AV := [.i x.Time, .i x.Client, .i x.Seq]
noncomputable abbrev K3 (n i : Nat) : List Item := stackAt (Try.f3.body.getD .skip) (dgs 40 n [] ++ [i]) []
noncomputable abbrev K4 (n i : Nat) : List Item := stackAt (Try.f4.body.getD .skip) (dgs 40 n [] ++ [i]) []
noncomputable abbrev K5 (n i : Nat) : List Item := stackAt (Try.f5.body.getD .skip) (dgs 40 n [] ++ [i]) []
noncomputable abbrev K6 (n i : Nat) : List Item := stackAt (Try.f6.body.getD .skip) (dgs 40 n [] ++ [i]) []
noncomputable abbrev K7 (n i : Nat) : List Item := stackAt (Try.f7.body.getD .skip) (dgs 40 n [] ++ [i]) []
noncomputable abbrev K8 (n i : Nat) : List Item := stackAt (Try.f8.body.getD .skip) (dgs 40 n [] ++ [i]) []
noncomputable abbrev K9 (n i : Nat) : List Item := stackAt (Try.f9.body.getD .skip) (dgs 40 n [] ++ [i]) []
noncomputable abbrev K10 (n i : Nat) : List Item := stackAt (Try.f10.body.getD .skip) (dgs 40 n [] ++ [i]) []
noncomputable abbrev K11 (n i : Nat) : List Item := stackAt (Try.f11.body.getD .skip) (dgs 40 n [] ++ [i]) []
noncomputable abbrev K12 (n i : Nat) : List Item := stackAt (Try.f12.body.getD .skip) (dgs 40 n [] ++ [i]) []
noncomputable abbrev K13 (n i : Nat) : List Item := stackAt (Try.f13.body.getD .skip) (dgs 40 n [] ++ [i]) []
noncomputable abbrev K14 (n i : Nat) : List Item := stackAt (Try.f14.body.getD .skip) (dgs 40 n [] ++ [i]) []
noncomputable abbrev K15 (n i : Nat) : List Item := stackAt (Try.f15.body.getD .skip) (dgs 40 n [] ++ [i]) []
noncomputable abbrev K16 (n i : Nat) : List Item := stackAt (Try.f16.body.getD .skip) (dgs 40 n [] ++ [i]) []
noncomputable abbrev K17 (n i : Nat) : List Item := stackAt (Try.f17.body.getD .skip) (dgs 40 n [] ++ [i]) []
noncomputable abbrev K18 (n i : Nat) : List Item := stackAt (Try.f18.body.getD .skip) (dgs 40 n [] ++ [i]) []
noncomputable abbrev K19 (n i : Nat) : List Item := stackAt (Try.f19.body.getD .skip) (dgs 40 n [] ++ [i]) []
noncomputable abbrev K20 (n i : Nat) : List Item := stackAt (Try.f20.body.getD .skip) (dgs 40 n [] ++ [i]) []
noncomputable abbrev K21 (n i : Nat) : List Item := stackAt (Try.f21.body.getD .skip) (dgs 40 n [] ++ [i]) []
noncomputable abbrev K22 (n i : Nat) : List Item := stackAt (Try.f22.body.getD .skip) (dgs 40 n [] ++ [i]) []
noncomputable abbrev K23 (n i : Nat) : List Item := stackAt (Try.f23.body.getD .skip) (dgs 40 n [] ++ [i]) []
noncomputable abbrev K24 (n i : Nat) : List Item := stackAt (Try.f24.body.getD .skip) (dgs 40 n [] ++ [i]) []
noncomputable abbrev K25 (n i : Nat) : List Item := stackAt (Try.f25.body.getD .skip) (dgs 40 n [] ++ [i]) []
noncomputable abbrev K26 (n i : Nat) : List Item := stackAt (Try.f26.body.getD .skip) (dgs 40 n [] ++ [i]) []
noncomputable abbrev K27 (n i : Nat) : List Item := stackAt (Try.f27.body.getD .skip) (dgs 40 n [] ++ [i]) []
noncomputable abbrev K28 (n i : Nat) : List Item := stackAt (Try.f28.body.getD .skip) (dgs 40 n [] ++ [i]) []
noncomputable abbrev K29 (n i : Nat) : List Item := stackAt (Try.f29.body.getD .skip) (dgs 40 n [] ++ [i]) []
noncomputable abbrev K30 (n i : Nat) : List Item := stackAt (Try.f30.body.getD .skip) (dgs 40 n [] ++ [i]) []
noncomputable abbrev K31 (n i : Nat) : List Item := stackAt (Try.f31.body.getD .skip) (dgs 40 n [] ++ [i]) []
noncomputable abbrev K32 (n i : Nat) : List Item := stackAt (Try.f32.body.getD .skip) (dgs 40 n [] ++ [i]) []
noncomputable abbrev K33 (n i : Nat) : List Item := stackAt (Try.f33.body.getD .skip) (dgs 40 n [] ++ [i]) []
noncomputable abbrev K34 (n i : Nat) : List Item := stackAt (Try.f34.body.getD .skip) (dgs 40 n [] ++ [i]) []
noncomputable abbrev K35 (n i : Nat) : List Item := stackAt (Try.f35.body.getD .skip) (dgs 40 n [] ++ [i]) []
noncomputable abbrev K36 (n i : Nat) : List Item := stackAt (Try.f36.body.getD .skip) (dgs 40 n [] ++ [i]) []
noncomputable abbrev K37 (n i : Nat) : List Item := stackAt (Try.f37.body.getD .skip) (dgs 40 n [] ++ [i]) []
noncomputable abbrev K38 (n i : Nat) : List Item := stackAt (Try.f38.body.getD .skip) (dgs 40 n [] ++ [i]) []
noncomputable abbrev K39 (n i : Nat) : List Item := stackAt (Try.f39.body.getD .skip) (dgs 40 n [] ++ [i]) []
noncomputable abbrev K40 (n i : Nat) : List Item := stackAt (Try.f40.body.getD .skip) (dgs 40 n [] ++ [i]) []
noncomputable abbrev K44 (n i : Nat) : List Item := stackAt (Try.f44.body.getD .skip) (dgs 40 n [] ++ [i]) []
noncomputable abbrev K45 (n i : Nat) : List Item := stackAt (Try.f45.body.getD .skip) (dgs 40 n [] ++ [i]) []
noncomputable abbrev K46 (n i : Nat) : List Item := stackAt (Try.f46.body.getD .skip) (dgs 40 n [] ++ [i]) []
noncomputable abbrev K47 (n i : Nat) : List Item := stackAt (Try.f47.body.getD .skip) (dgs 40 n [] ++ [i]) []
noncomputable abbrev K48 (n i : Nat) : List Item := stackAt (Try.f48.body.getD .skip) (dgs 40 n [] ++ [i]) []
noncomputable abbrev K49 (n i : Nat) : List Item := stackAt (Try.f49.body.getD .skip) (dgs 40 n [] ++ [i]) []
noncomputable abbrev K50 (n i : Nat) : List Item := stackAt (Try.f50.body.getD .skip) (dgs 40 n [] ++ [i]) []
noncomputable abbrev K51 (n i : Nat) : List Item := stackAt (Try.f51.body.getD .skip) (dgs 40 n [] ++ [i]) []
noncomputable abbrev K52 (n i : Nat) : List Item := stackAt (Try.f52.body.getD .skip) (dgs 40 n [] ++ [i]) []
noncomputable abbrev K53 (n i : Nat) : List Item := stackAt (Try.f53.body.getD .skip) (dgs 40 n [] ++ [i]) []
noncomputable abbrev K55 (n i : Nat) : List Item := stackAt (Try.f55.body.getD .skip) (dgs 40 n [] ++ [i]) []
noncomputable abbrev K56 (n i : Nat) : List Item := stackAt (Try.f56.body.getD .skip) (dgs 40 n [] ++ [i]) []
noncomputable abbrev K60 (n i : Nat) : List Item := stackAt (Try.f60.body.getD .skip) (dgs 40 n [] ++ [i]) []
noncomputable abbrev K61 (n i : Nat) : List Item := stackAt (Try.f61.body.getD .skip) (dgs 40 n [] ++ [i]) []
noncomputable abbrev K62 (n i : Nat) : List Item := stackAt (Try.f62.body.getD .skip) (dgs 40 n [] ++ [i]) []
noncomputable abbrev K63 (n i : Nat) : List Item := stackAt (Try.f63.body.getD .skip) (dgs 40 n [] ++ [i]) []
noncomputable abbrev K64 (n i : Nat) : List Item := stackAt (Try.f64.body.getD .skip) (dgs 40 n [] ++ [i]) []
noncomputable abbrev K65 (n i : Nat) : List Item := stackAt (Try.f65.body.getD .skip) (dgs 40 n [] ++ [i]) []
noncomputable abbrev K66 (n i : Nat) : List Item := stackAt (Try.f66.body.getD .skip) (dgs 40 n [] ++ [i]) []
noncomputable abbrev K67 (n i : Nat) : List Item := stackAt (Try.f67.body.getD .skip) (dgs 40 n [] ++ [i]) []
noncomputable abbrev K68 (n i : Nat) : List Item := stackAt (Try.f68.body.getD .skip) (dgs 40 n [] ++ [i]) []
noncomputable abbrev K72 (n i : Nat) : List Item := stackAt (Try.f72.body.getD .skip) (dgs 40 n [] ++ [i]) []
noncomputable abbrev K73 (n i : Nat) : List Item := stackAt (Try.f73.body.getD .skip) (dgs 40 n [] ++ [i]) []
noncomputable abbrev K74 (n i : Nat) : List Item := stackAt (Try.f74.body.getD .skip) (dgs 40 n [] ++ [i]) []
noncomputable abbrev K75 (n i : Nat) : List Item := stackAt (Try.f75.body.getD .skip) (dgs 40 n [] ++ [i]) []
noncomputable abbrev K76 (n i : Nat) : List Item := stackAt (Try.f76.body.getD .skip) (dgs 40 n [] ++ [i]) []
noncomputable abbrev K77 (n i : Nat) : List Item := stackAt (Try.f77.body.getD .skip) (dgs 40 n [] ++ [i]) []
noncomputable abbrev K78 (n i : Nat) : List Item := stackAt (Try.f78.body.getD .skip) (dgs 40 n [] ++ [i]) []
noncomputable abbrev K79 (n i : Nat) : List Item := stackAt (Try.f79.body.getD .skip) (dgs 40 n [] ++ [i]) []
noncomputable abbrev K90 (n i : Nat) : List Item := stackAt (Try.f90.body.getD .skip) (dgs 40 n [] ++ [i]) []
noncomputable abbrev K113 (n i : Nat) : List Item := stackAt (Try.f113.body.getD .skip) (dgs 40 n [] ++ [i]) []
noncomputable abbrev K114 (n i : Nat) : List Item := stackAt (Try.f114.body.getD .skip) (dgs 40 n [] ++ [i]) []
noncomputable abbrev K115 (n i : Nat) : List Item := stackAt (Try.f115.body.getD .skip) (dgs 40 n [] ++ [i]) []
noncomputable abbrev K116 (n i : Nat) : List Item := stackAt (Try.f116.body.getD .skip) (dgs 40 n [] ++ [i]) []
noncomputable abbrev K117 (n i : Nat) : List Item := stackAt (Try.f117.body.getD .skip) (dgs 40 n [] ++ [i]) []
theorem enters_10 : Sy.Enters Try.prog 10 := enters_fn Try.func10 (by kernel_rfl) (by kernel_rfl)
theorem enters_11 : Sy.Enters Try.prog 11 := enters_fn Try.func11 (by kernel_rfl) (by kernel_rfl)
theorem enters_12 : Sy.Enters Try.prog 12 := enters_fn Try.func12 (by kernel_rfl) (by kernel_rfl)
theorem enters_13 : Sy.Enters Try.prog 13 := enters_fn Try.func13 (by kernel_rfl) (by kernel_rfl)
theorem enters_14 : Sy.Enters Try.prog 14 := enters_fn Try.func14 (by kernel_rfl) (by kernel_rfl)
theorem enters_15 : Sy.Enters Try.prog 15 := enters_fn Try.func15 (by kernel_rfl) (by kernel_rfl)
theorem enters_16 : Sy.Enters Try.prog 16 := enters_fn Try.func16 (by kernel_rfl) (by kernel_rfl)
theorem enters_17 : Sy.Enters Try.prog 17 := enters_fn Try.func17 (by kernel_rfl) (by kernel_rfl)
theorem enters_18 : Sy.Enters Try.prog 18 := enters_fn Try.func18 (by kernel_rfl) (by kernel_rfl)
theorem enters_19 : Sy.Enters Try.prog 19 := enters_fn Try.func19 (by kernel_rfl) (by kernel_rfl)
theorem enters_20 : Sy.Enters Try.prog 20 := enters_fn Try.func20 (by kernel_rfl) (by kernel_rfl)
theorem enters_21 : Sy.Enters Try.prog 21 := enters_fn Try.func21 (by kernel_rfl) (by kernel_rfl)
theorem enters_22 : Sy.Enters Try.prog 22 := enters_fn Try.func22 (by kernel_rfl) (by kernel_rfl)
theorem enters_23 : Sy.Enters Try.prog 23 := enters_fn Try.func23 (by kernel_rfl) (by kernel_rfl)
theorem enters_24 : Sy.Enters Try.prog 24 := enters_fn Try.func24 (by kernel_rfl) (by kernel_rfl)
theorem enters_25 : Sy.Enters Try.prog 25 := enters_fn Try.func25 (by kernel_rfl) (by kernel_rfl)
theorem enters_26 : Sy.Enters Try.prog 26 := enters_fn Try.func26 (by kernel_rfl) (by kernel_rfl)
theorem enters_27 : Sy.Enters Try.prog 27 := enters_fn Try.func27 (by kernel_rfl) (by kernel_rfl)
theorem enters_28 : Sy.Enters Try.prog 28 := enters_fn Try.func28 (by kernel_rfl) (by kernel_rfl)
theorem enters_29 : Sy.Enters Try.prog 29 := enters_fn Try.func29 (by kernel_rfl) (by kernel_rfl)
theorem enters_30 : Sy.Enters Try.prog 30 := enters_fn Try.func30 (by kernel_rfl) (by kernel_rfl)
theorem enters_31 : Sy.Enters Try.prog 31 := enters_fn Try.func31 (by kernel_rfl) (by kernel_rfl)
theorem enters_32 : Sy.Enters Try.prog 32 := enters_fn Try.func32 (by kernel_rfl) (by kernel_rfl)
theorem enters_33 : Sy.Enters Try.prog 33 := enters_fn Try.func33 (by kernel_rfl) (by kernel_rfl)
theorem enters_34 : Sy.Enters Try.prog 34 := enters_fn Try.func34 (by kernel_rfl) (by kernel_rfl)
theorem enters_35 : Sy.Enters Try.prog 35 := enters_fn Try.func35 (by kernel_rfl) (by kernel_rfl)
theorem enters_36 : Sy.Enters Try.prog 36 := enters_fn Try.func36 (by kernel_rfl) (by kernel_rfl)
theorem enters_37 : Sy.Enters Try.prog 37 := enters_fn Try.func37 (by kernel_rfl) (by kernel_rfl)
theorem enters_38 : Sy.Enters Try.prog 38 := enters_fn Try.func38 (by kernel_rfl) (by kernel_rfl)
theorem enters_39 : Sy.Enters Try.prog 39 := enters_fn Try.func39 (by kernel_rfl) (by kernel_rfl)
theorem enters_40 : Sy.Enters Try.prog 40 := enters_fn Try.func40 (by kernel_rfl) (by kernel_rfl)
theorem enters_41 : Sy.Enters Try.prog 41 := enters_fn Try.func41 (by kernel_rfl) (by kernel_rfl)
theorem enters_42 : Sy.Enters Try.prog 42 := enters_fn Try.func42 (by kernel_rfl) (by kernel_rfl)
theorem enters_43 : Sy.Enters Try.prog 43 := enters_fn Try.func43 (by kernel_rfl) (by kernel_rfl)
theorem enters_44 : Sy.Enters Try.prog 44 := enters_fn Try.func44 (by kernel_rfl) (by kernel_rfl)
theorem enters_45 : Sy.Enters Try.prog 45 := enters_fn Try.func45 (by kernel_rfl) (by kernel_rfl)
theorem enters_46 : Sy.Enters Try.prog 46 := enters_fn Try.func46 (by kernel_rfl) (by kernel_rfl)
theorem enters_47 : Sy.Enters Try.prog 47 := enters_fn Try.func47 (by kernel_rfl) (by kernel_rfl)
theorem enters_48 : Sy.Enters Try.prog 48 := enters_fn Try.func48 (by kernel_rfl) (by kernel_rfl)
theorem enters_49 : Sy.Enters Try.prog 49 := enters_fn Try.func49 (by kernel_rfl) (by kernel_rfl)
theorem enters_50 : Sy.Enters Try.prog 50 := enters_fn Try.func50 (by kernel_rfl) (by kernel_rfl)
theorem enters_51 : Sy.Enters Try.prog 51 := enters_fn Try.func51 (by kernel_rfl) (by kernel_rfl)
theorem enters_52 : Sy.Enters Try.prog 52 := enters_fn Try.func52 (by kernel_rfl) (by kernel_rfl)
theorem enters_53 : Sy.Enters Try.prog 53 := enters_fn Try.func53 (by kernel_rfl) (by kernel_rfl)
theorem enters_54 : Sy.Enters Try.prog 54 := enters_fn Try.func54 (by kernel_rfl) (by kernel_rfl)
theorem enters_55 : Sy.Enters Try.prog 55 := enters_fn Try.func55 (by kernel_rfl) (by kernel_rfl)
theorem enters_56 : Sy.Enters Try.prog 56 := enters_fn Try.func56 (by kernel_rfl) (by kernel_rfl)
theorem enters_61 : Sy.Enters Try.prog 61 := enters_fn Try.func61 (by kernel_rfl) (by kernel_rfl)
theorem enters_62 : Sy.Enters Try.prog 62 := enters_fn Try.func62 (by kernel_rfl) (by kernel_rfl)
theorem enters_63 : Sy.Enters Try.prog 63 := enters_fn Try.func63 (by kernel_rfl) (by kernel_rfl)
theorem enters_64 : Sy.Enters Try.prog 64 := enters_fn Try.func64 (by kernel_rfl) (by kernel_rfl)
theorem enters_65 : Sy.Enters Try.prog 65 := enters_fn Try.func65 (by kernel_rfl) (by kernel_rfl)
theorem enters_66 : Sy.Enters Try.prog 66 := enters_fn Try.func66 (by kernel_rfl) (by kernel_rfl)
theorem enters_67 : Sy.Enters Try.prog 67 := enters_fn Try.func67 (by kernel_rfl) (by kernel_rfl)
theorem enters_68 : Sy.Enters Try.prog 68 := enters_fn Try.func68 (by kernel_rfl) (by kernel_rfl)
theorem enters_72 : Sy.Enters Try.prog 72 := enters_fn Try.func72 (by kernel_rfl) (by kernel_rfl)
theorem enters_73 : Sy.Enters Try.prog 73 := enters_fn Try.func73 (by kernel_rfl) (by kernel_rfl)
theorem enters_74 : Sy.Enters Try.prog 74 := enters_fn Try.func74 (by kernel_rfl) (by kernel_rfl)
theorem enters_75 : Sy.Enters Try.prog 75 := enters_fn Try.func75 (by kernel_rfl) (by kernel_rfl)
theorem enters_76 : Sy.Enters Try.prog 76 := enters_fn Try.func76 (by kernel_rfl) (by kernel_rfl)
theorem enters_77 : Sy.Enters Try.prog 77 := enters_fn Try.func77 (by kernel_rfl) (by kernel_rfl)
theorem enters_78 : Sy.Enters Try.prog 78 := enters_fn Try.func78 (by kernel_rfl) (by kernel_rfl)
theorem enters_79 : Sy.Enters Try.prog 79 := enters_fn Try.func79 (by kernel_rfl) (by kernel_rfl)
theorem enters_90 : Sy.Enters Try.prog 90 := enters_fn Try.func90 (by kernel_rfl) (by kernel_rfl)
theorem enters_113 : Sy.Enters Try.prog 113 := enters_fn Try.func113 (by kernel_rfl) (by kernel_rfl)
theorem enters_114 : Sy.Enters Try.prog 114 := enters_fn Try.func114 (by kernel_rfl) (by kernel_rfl)
theorem enters_115 : Sy.Enters Try.prog 115 := enters_fn Try.func115 (by kernel_rfl) (by kernel_rfl)
theorem enters_116 : Sy.Enters Try.prog 116 := enters_fn Try.func116 (by kernel_rfl) (by kernel_rfl)
theorem enters_117 : Sy.Enters Try.prog 117 := enters_fn Try.func117 (by kernel_rfl) (by kernel_rfl)
theorem meth_92_Len : Meth Try.prog 92 "Len" 113 := fun a w => by kernel_rfl
theorem meth_92_Less : Meth Try.prog 92 "Less" 114 := fun a w => by kernel_rfl
theorem meth_92_Pop : Meth Try.prog 92 "Pop" 115 := fun a w => by kernel_rfl
theorem meth_92_Push : Meth Try.prog 92 "Push" 116 := fun a w => by kernel_rfl
theorem meth_92_Swap : Meth Try.prog 92 "Swap" 117 := fun a w => by kernel_rfl
end Go.SyP
