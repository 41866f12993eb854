/-
  DERIVED. GIVEN WITH THE SEED: THE PROGRAM's TIES (one call each: nine closed facts by the kernel) AND EACH ROW's TIE, after the 31st guide's Derived/Test/Toyas{Tie, Card}.lean. No idea stands in it: it is a product of the set-up. Laid BY PROGRAM, IN A SANDBOX (cutbox-door.mjs). By AI agents, Wed Nov 11 2026. No macro, syntax, notation, axiom, sorry.
-/
import Derived.Test.YtnidfoboiddhfaaDoorRows
import Derived.LaidByTextLater
import Derived.SevenTiedAt
import Derived.LaidSub
import Derived.LaidOnce
namespace Go.Proofs.YtnidfoboiddhfaaDoor
open Go
set_option maxRecDepth 100000
theorem seatTie1 : Tryd.prog.laidByTextLater [("math/bits.deBruijn32tab", Rows.laid_math_bits_deBruijn32tab), ("math/bits.deBruijn64tab", Rows.laid_math_bits_deBruijn64tab), ("internal/strconv.uint64pow10", Rows.laid_internal_strconv_uint64pow10), ("loop.example/g01543/impl.keywords", Rows.laid_loop_example_g01543_impl_keywords), ("loop.example/g01543/impl.signs", Rows.laid_loop_example_g01543_impl_signs), ("loop.example/g01543/impl.builtins", Rows.laid_loop_example_g01543_impl_builtins)] [.data, .data, .data, .widerDeep, .data, .widerDeep] true :=
  Program.laidByTextLater_by_one 39 8 65 (by kernel_rfl) (by kernel_rfl) (by kernel_rfl) (by kernel_rfl) (by kernel_rfl) (by kernel_rfl) (fun _ _ => by kernel_rfl)
theorem noOwnUnsafe : Tryd.pinned.checked.prog.headLifts.contains "ownunsafe" = false := by kernel_rfl
theorem tie : Tryd.prog.laidByTextLater [("loop.example/g01543/impl.keywords", Rows.laid_loop_example_g01543_impl_keywords), ("loop.example/g01543/impl.signs", Rows.laid_loop_example_g01543_impl_signs), ("loop.example/g01543/impl.builtins", Rows.laid_loop_example_g01543_impl_builtins)] [.widerDeep, .data, .widerDeep] true :=
  Program.laidByTextLater.sub seatTie1 ["loop.example/g01543/impl.keywords", "loop.example/g01543/impl.signs", "loop.example/g01543/impl.builtins"] (by kernel_rfl) (by kernel_rfl)
theorem fnExactExprOk_row_tie : Rows.fnExactExprOkRow.laidByTextAt .later Tryd.pinned [.widerDeep, .data, .widerDeep] true :=
  OpenClaim.laidByTextAt_later rfl rfl tie noOwnUnsafe
theorem fnExactProgramOk_row_tie : Rows.fnExactProgramOkRow.laidByTextAt .later Tryd.pinned [.widerDeep, .data, .widerDeep] true :=
  OpenClaim.laidByTextAt_later rfl rfl tie noOwnUnsafe
theorem fnExactLex_row_tie : Rows.fnExactLexRow.laidByTextAt .later Tryd.pinned [.widerDeep, .data, .widerDeep] true :=
  OpenClaim.laidByTextAt_later rfl rfl tie noOwnUnsafe
theorem fnExactTreeOk_row_tie : Rows.fnExactTreeOkRow.laidByTextAt .later Tryd.pinned [.widerDeep, .data, .widerDeep] true :=
  OpenClaim.laidByTextAt_later rfl rfl tie noOwnUnsafe
theorem tie2 : Tryd.prog.laidByTextLater [("loop.example/g01543/impl.signs", Rows.laid_loop_example_g01543_impl_signs)] [.data] true :=
  Program.laidByTextLater.sub seatTie1 ["loop.example/g01543/impl.signs"] (by kernel_rfl) (by kernel_rfl)
theorem fnExactOpAt_row_tie : Rows.fnExactOpAtRow.laidByTextAt .later Tryd.pinned [.data] true :=
  OpenClaim.laidByTextAt_later rfl rfl tie2 noOwnUnsafe
theorem fnExactNeedsGap_row_tie : Rows.fnExactNeedsGapRow.laidByTextAt .later Tryd.pinned [.data] true :=
  OpenClaim.laidByTextAt_later rfl rfl tie2 noOwnUnsafe
theorem fnExactSpell_row_tie : Rows.fnExactSpellRow.laidByTextAt .later Tryd.pinned [.data] true :=
  OpenClaim.laidByTextAt_later rfl rfl tie2 noOwnUnsafe
theorem tie3 : Tryd.prog.laidByTextLater [("math/bits.deBruijn32tab", Rows.laid_math_bits_deBruijn32tab), ("math/bits.deBruijn64tab", Rows.laid_math_bits_deBruijn64tab), ("internal/strconv.uint64pow10", Rows.laid_internal_strconv_uint64pow10)] [.data, .data, .data] true :=
  Program.laidByTextLater.sub seatTie1 ["math/bits.deBruijn32tab", "math/bits.deBruijn64tab", "internal/strconv.uint64pow10"] (by kernel_rfl) (by kernel_rfl)
theorem fnExactDec_row_tie : Rows.fnExactDecRow.laidByTextAt .later Tryd.pinned [.data, .data, .data] true :=
  OpenClaim.laidByTextAt_later rfl rfl tie3 noOwnUnsafe
theorem fnExactExprOkUpto_row_tie : Rows.fnExactExprOkUptoRow.laidByTextAt .later Tryd.pinned [.widerDeep, .data, .widerDeep] true :=
  OpenClaim.laidByTextAt_later rfl rfl tie noOwnUnsafe
theorem fnExactProgramOkUpto_row_tie : Rows.fnExactProgramOkUptoRow.laidByTextAt .later Tryd.pinned [.widerDeep, .data, .widerDeep] true :=
  OpenClaim.laidByTextAt_later rfl rfl tie noOwnUnsafe
theorem fnExactOpAtUpto_row_tie : Rows.fnExactOpAtUptoRow.laidByTextAt .later Tryd.pinned [.data] true :=
  OpenClaim.laidByTextAt_later rfl rfl tie2 noOwnUnsafe
theorem fnExactNeedsGapUpto_row_tie : Rows.fnExactNeedsGapUptoRow.laidByTextAt .later Tryd.pinned [.data] true :=
  OpenClaim.laidByTextAt_later rfl rfl tie2 noOwnUnsafe
theorem fnExactSpellUpto_row_tie : Rows.fnExactSpellUptoRow.laidByTextAt .later Tryd.pinned [.data] true :=
  OpenClaim.laidByTextAt_later rfl rfl tie2 noOwnUnsafe
theorem fnExactDecUpto_row_tie : Rows.fnExactDecUptoRow.laidByTextAt .later Tryd.pinned [.data, .data, .data] true :=
  OpenClaim.laidByTextAt_later rfl rfl tie3 noOwnUnsafe
theorem fnExactLexUpto_row_tie : Rows.fnExactLexUptoRow.laidByTextAt .later Tryd.pinned [.widerDeep, .data, .widerDeep] true :=
  OpenClaim.laidByTextAt_later rfl rfl tie noOwnUnsafe
theorem fnExactTreeOkUpto_row_tie : Rows.fnExactTreeOkUptoRow.laidByTextAt .later Tryd.pinned [.widerDeep, .data, .widerDeep] true :=
  OpenClaim.laidByTextAt_later rfl rfl tie noOwnUnsafe
end Go.Proofs.YtnidfoboiddhfaaDoor
