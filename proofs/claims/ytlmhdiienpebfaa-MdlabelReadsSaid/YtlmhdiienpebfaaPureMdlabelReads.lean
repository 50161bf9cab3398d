/- The plain law stands in LibE. -/
import Derived.Test.YtlmhdiienpebfaaLibE
