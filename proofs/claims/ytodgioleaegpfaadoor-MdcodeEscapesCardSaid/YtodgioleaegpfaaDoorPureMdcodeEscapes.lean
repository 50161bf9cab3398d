/- The plain law stands in the module imported here. -/
import Derived.Test.YtodgioleaegpfaaDoorLibEs
